/- Part 2 of what WholePlace needs: StrK, ClassO1, RexI, DfaL, DfaO, Dfa, SmB, MapN, Fam, Sym, SymS, Gram, GramN, TreeL, TreeM, CountL, CountN, CountT, CountR, TreeW, CountX, FactsL, FactsM, FactsN, FactsP, FactsQ, FactsR, Der, CountU, LlL, TreeE, TreeP, ClimbL, ClimbO, DfS, PlacesL, PlacesM, PlacesS, DfaP, SortC, SortI, IntO, IntK, PlU, PlB, PlN, PlS, PlA, PlC, PlD, PlM, PlR, SmIe, BoE, PlE, PlP, PlK, PlT, DfN. -/
import Derived.Test.YtdmgcnggnejnnaaGreatMgA
import Derived.StringKeys
import Derived.Lib.SlicesCompact
import Derived.Shelf.Sort.Plain
import Derived.Ground.Names2Prog
import Derived.Shelf.Slices.CompactI
import Derived.Shelf.Slices.In.SortNone
import Derived.Lib.RowBridge
namespace Go.Proofs.YtdmgcnggnejnnaaGreat
set_option linter.unusedVariables false
set_option linter.unusedSimpArgs false
open _root_.And renaming intro->cK
open _root_.Array renaming getElem?_eq_some_iff->kq,getElem?_toList->rC,getElem?_eq_getElem->yu,getElem?_modify->EI
open _root_.Array.mk renaming injEq->oX
open _root_.BitVec renaming ofNat->iF,toNat_ofNat->DZ
open _root_.Bool renaming true->aB,false->aD,and_eq_true->ff,or_eq_true->lZ,or_eq_false_iff->yv,true_or->uR,not_eq_true'->A0,or_true->EJ,and_true->P6
open _root_.ByteArray renaming size->D0
open _root_.Classical renaming em->af8
open _root_.Go.Addr renaming add->rl
open _root_.Go.DataW renaming trod->xZ
open _root_.Go.Instr renaming build->dm,field->Y6
open _root_.Go.IntKind renaming i64->av,bits->lU,wrap_u64->sR,u64->uz
open _root_.Go.Lib renaming compact->rD
open _root_.Go.Op renaming shift->iP
open _root_.Go.Proofs.Tryz renaming prog->aC
open _root_.Go.Value renaming slice->ak,int->ap,pointer->aH,agg->aP,bool->gd
open _root_.Go.Value.agg renaming injEq->nb
open _root_.Go.Value.slice renaming injEq->kr
open _root_.Go.World renaming block_lt_of_cell?->oP
open _root_.Int renaming toNat_natCast->cX,eq_ofNat_of_zero_le->fz,toNat_of_nonneg->oY
open _root_.Int.ofNat renaming inj->Y7
open _root_.List renaming getElem?_eq_getElem->bm,getD_eq_getElem?_getD->bD,length_append->bK,getElem?_eq_some_iff->cU,getElem_mem->bV,length_cons->cO,drop_eq_getElem_cons->dJ,all_cons->cV,replicate->db,mem_singleton->dH,length_map->dw,mem_cons->df,all_nil->dc,append_assoc->dL,append_nil->dQ,take_succ_eq_append_getElem->ir,mem_cons_self->fc,map_append->eb,getElem?_map->eQ,flatMap_append->fH,mem_cons_of_mem->iI,take_of_length_le->ig,getElem?_eq_none->ii,not_mem_nil->fI,mem_map->eI,range->eu,length_drop->ik,nil_append->fN,length_take->gZ,mem_append->gH,flatMap_cons->jF,mem_iff_getElem->jG,drop_drop->iQ,length_singleton->nT,mem_range->nL,cons_append->kt,ext_getElem?->mq,drop_eq_nil_of_le->uS,length_nil->nU,any_eq_true->oT,getElem_map->oZ,filterMap_append->sT,filterMap_cons_some->A_,getElem?_set->EK,getElem?_take->yw,map_set->o7,pairwise_iff_getElem->Ef,mem_or_eq_of_mem_set->EL,length->nV,length_set->J5,foldl_append->P7,mem_flatMap->P8,drop_left->P9,pairwise_singleton->Y8,length_eq_zero_iff->Y9,length_mergeSort->Y_,map_congr_left->Y',getElem?_drop->Za,pairwise_cons->Zb,getElem_set->Zc,foldl_cons->Zd,map->P_
open _root_.List.Pairwise renaming nil->af9
open _root_.List.cons renaming injEq->fg
open _root_.Nat renaming le_refl->aT,zero_le->bC,zero_add->cI,le_trans->eC,lt_of_lt_of_le->jt,blt->dB,add_assoc->jH,add_zero->ji,testBit_or->nW,mul_le_mul->rF,mul_one->kQ,lt_of_le_of_lt->Bn,le_antisymm->J6,le_add_right->Bo,min_le_left->P',zero_mul->Bc,testBit_two_pow_self->Ze,le_succ->Bp,pow_lt_pow_right->Zf,add_le_add->Zg,succ_pos->Zh
open _root_.Option renaming some->ah,none->aj
open _root_.Option.some renaming injEq->dg
open _root_.Prod.mk renaming injEq->iu
open _root_.True renaming intro->cY
open _root_.UInt8 renaming ofNat->fT
open _root_.Vector renaming replicate->eA
set_option maxHeartbeats 16000000
namespace cg
open Go.RowKit cT ey
theorem str_inj{x y:List UInt8}(h:str x=str y):x=y:=by
 unfold str at h
 simpa using h
def iw:yl aC 9 (List UInt8) where
 kv:=str
 ok l:=l.length<=9223372036854775807
 law:=Go.WideMaps.string_law Tryz.underlying9
 key l h:=⟨_,Go.WideMaps.keyOf_string_mk Tryz.underlying9 (by unfold maxLen;simpa[D0]using h)⟩
 inj x y h:=str_inj h
end cg
namespace cg
open Go.RowKit cT ey dj
theorem Dt{n:Int}(h0:0<=n)(h1:n<=18446744073709551615):v64 (iF 64 n.toNat)= .int .u64 n:=by
 simp only[v64,gh,DZ]
 congr 1
 omega
set_option maxRecDepth 100000 in
theorem Vs{H:Type}{enc0:TypeId×Value->H}{W:World}:uK enc0 aC W 116 (fun cs x=>cs=d_ x/\True):=fun fuel cs x hf=>by
 have ho:uK enc0 aC W 116 (YL .u64 0 18446744073709551615 4):=(Ms (is:=isInt .u64 0 18446744073709551615) (c:=1) Tryz.underlying116 (by kernel_rfl) (Vd Tryz.underlying114)).mono fun cs l h=>by
  have e:aC.cellsOf 116=4:=by kernel_rfl
  exact Mt (by rw[h.1,e]) h.2
 obtain⟨l,h1,h2,h3⟩:=ho fuel cs _ hf
 match l,h1 with
 |[p,q,r,s],_=>
  have b0:=h3 p (by simp);have b1:=h3 q (by simp);have b2:=h3 r (by simp);have b3:=h3 s (by simp);refine⟨⟨iF 64 p.toNat,iF 64 q.toNat,iF 64 r.toNat,iF 64 s.toNat⟩,?_,trivial⟩;show cs=[v64 (iF 64 p.toNat),v64 (iF 64 q.toNat),v64 (iF 64 r.toNat),v64 (iF 64 s.toNat)]
  rw[Dt b0.1 b0.2,Dt b1.1 b1.2,Dt b2.1 b2.2,Dt b3.1 b3.2,h2];rfl
end cg
namespace cg
open Go.RowKit cT ey dj gu Go.ChangeShapes Go.WideShapes Go.ChangeAt
set_option maxRecDepth 100000
section
variable{H:Type}{enc0:TypeId×Value->H}{P:Program}{W:World}{M:Msr P H}
def EM(M:Msr P H)(enc0:TypeId×Value->H)(W:World)(fuel:Nat)(t:TypeId){α:Type}(is:List Value->α->Prop):Prop:=
 ∀cs x,xZ enc0 P W 0 (fun _=>aB) aB fuel t cs=ah x->M.ok t x.1->∃a,is cs a
theorem k8.at{fuel:Nat}{t:TypeId}{α:Type}{is:List Value->α->Prop}(h:k8 M enc0 W t is):EM M enc0 W fuel t is:=fun cs x=>h fuel cs x
theorem J7{fuel:Nat}{t e:TypeId}{c:Nat}(ht:P.underlying t=ah (.slice e))(hc:P.cellsOf e=c)(L3:0<c){α:Type}{is:List Value->α->Prop}(hd:∀n,fuel=n+1->EM M enc0 W n e is)(_:∀cs a,is cs a->cs.length=c):EM M enc0 W fuel t (fun cs l=>ahC W is c cs l/\M.lim e l.length):=fun cs x h hm=>by
 rcases DataW.trod_slice ht h with⟨rfl,_⟩|⟨a,len,cap,elems,rest,n,hf,rfl,hx,_,hlc,hmx,xo,Ei,_⟩
 exact⟨[],⟨_,rfl,aj,0,rfl,aT _,by decide,fun h=>by simp at h⟩,M.zero e⟩;rw[hx]at hm;obtain⟨Ey,rv⟩:=M.slice ht hm;have each:∀i,i<len->∃y:α,∃cs,W.cells? 0 (a.add (i*c)) c=ah cs/\is cs y:=fun i hi=>by
  have h1:=Ei i hi;rw[hc,bm J]at h1
  cases hcell:W.cells? 0 (a.add (i*c)) c with
  |none=>rw[hcell]at h1;simp at h1
  | some cs=>
   rw[hcell]at h1;obtain⟨y,hy⟩:=hd n hf cs _ h1 (rv _ (eI.2 ⟨_,bV J,rfl⟩));exact⟨y,cs,rfl,hy⟩
 obtain⟨l,Ve,hp⟩:=Dk len each;subst Ve;refine⟨l,⟨_,rfl,ah a,cap,rfl,hlc,hmx,fun h0=>?_⟩,by rw[dw,xo]at Ey;exact Ey⟩;obtain⟨cs0,h1,h2⟩:=hp 0 l[0] (bm h0);have h3:=(kR h1).2 0 L3;have hlen:=(kR h1).1;rw[bm J]at h3;have hsp:=HO h3;have e0:a.spot=none:=by
  rw[Bc]at hsp;unfold rl at hsp
  simpa using hsp
 obtain⟨b,off,spot⟩:=a;obtain rfl:spot=none:=e0;refine⟨b,off,rfl,fun i hi=>?_⟩;obtain⟨cs,h4,h5⟩:=hp i l[i] (bm hi);refine⟨cs,h5,fun j u hj=>?_⟩;have hj2:j<c:=by
  have:=(cU.1 hj).1;rw[(kR h4).1]at this;exact this
 have h6:=(kR h4).2 j hj2;rw[hj]at h6;have e1:∀(o k:Nat),(⟨b,o,aj⟩:Addr).add k=⟨b,o+k,aj⟩:=fun o k=>by unfold rl;simp
 rw[e1,e1]at h6;rw[<-h6]
theorem H'{t:TypeId}{fs:Array Field}(ht:P.underlying t=ah (.struct fs)){fuel:Nat}{cs:List Value}{x:DataW H×List MemPlace}(h:xZ enc0 P W 0 (fun _=>aB) aB fuel t cs=ah x)(hm:M.ok t x.1):
 cs.length=P.cellsOf t/\∃n,fuel=n+1/\∀(i:Nat) (f:Field),fs[i]?=ah f->∀{α:Type} {is:List Value->α->Prop},EM M enc0 W n f.type is->∃a,is ((cs.drop f.offset).take (P.cellsOf f.type)) a:=by
 obtain⟨xs,n,hn,hx,hl,hlen,hf⟩:=DataW.trod_struct ht h;refine⟨hl,n,hn,fun i f hi α is ho=>?_⟩;have h1:=hf i f hi;have hlt:i<xs.length:=by rw[hlen];exact(kq.1 hi).1
 rw[bm hlt]at h1;rw[hx]at hm;exact ho _ _ h1 (M.YM ht hm i f _ hi (by rw[eQ,bm hlt];rfl))
end
theorem Zi{W:World}{v:Value}{l:List Rx}(h:SlX W (fun cs t=>kC (sa W) W cs t) 6 v l):kK yo (sa W) W v l:=by
 obtain⟨base,cap,h1,h2,h3,h4⟩:=h;refine⟨base,cap,h1,h2,h3,fun h0=>?_⟩;obtain⟨b,off,h5,h6⟩:=h4 h0;refine⟨b,off,h5,?_,fun i hi=>?_⟩
 ·obtain⟨cs,h7,h8⟩:=h6 0 h0
  have h7':cs.length=6:=kC.af3 h7;have:=h8 0 _ (bm J);exact oP W _ this
 obtain⟨cs,h7,h8⟩:=h6 i hi;exact⟨cs,h7,h8⟩
theorem EN{H:Type}{M:Msr aC H}{enc0:TypeId×Value->H}{W:World}:∀(F fuel:Nat),fuel<=F->EM M enc0 W fuel 119 (fun cs t=>kC (sa W) W cs t)
 | 0,fuel,hF,cs,x,h,hm=>by
  obtain⟨_,n,hn,_⟩:=H' Tryz.underlying119 h hm;omega
 | F +1,fuel,hF,cs,x,h,hm=>by
  obtain⟨hl,n,hn,Th⟩:=H' Tryz.underlying119 h hm;have hl6:cs.length=6:=hl;obtain⟨p,e0,k1⟩:=Th 0 _ rfl (k8.at (PZ Tryz.underlying3));obtain⟨c,e1⟩:=Th 1 _ rfl (k8.at (HZ Vs));obtain⟨l,⟨v,e2,hs⟩,_⟩:=Th 2 _ rfl (J7 (c:=6) Tryz.underlying117 (by kernel_rfl) akV (fun m hm=>EN F m J) fun cs a h=>h.af3)
  replace e0:(cs.drop 0).take 1=[ap av p]:=e0
  replace e1:(cs.drop 1).take 4=d_ c:=e1.1
  replace e2:(cs.drop 5).take 1=[v]:=e2
  refine⟨.mk p c l,zO.2 ⟨v,?_,k1,Zi hs⟩⟩;unfold mQ;rw[<-e1]
  match cs,hl6 with
  | [x0,x1,x2,x3,x4,x5],_=>
   simp only[List.drop_succ_cons,List.drop_zero,List.take_succ_cons,List.take_zero,fg,and_true]at e0 e2;subst e0 e2;rfl
end cg
namespace zS
def nX(n:Nat)(tag:Int)(row:List Int):Bool:=decide (tag< -1)||decide (20<=tag)||row.any fun t=>decide (t< -1)||decide ((n:Int)<=t)
def Bq(rows:List (List Int))(tags:List Int):Int:=
 if 200<rows.length then 2 else if rows.length=0\/tags.length≠rows.length then 1 else if(eu rows.length).any (fun i=>nX rows.length (tags.getD i 0) (rows.getD i []))then 1 else 0
theorem Zj{rows:List (List Int)}{tags:List Int}(h:Bq rows tags=0):rows.length<=200/\0<rows.length/\tags.length=rows.length/\∀i,i<rows.length-> -1<=tags.getD i 0/\tags.getD i 0<20/\∀t∈rows.getD i [],-1<=t/\t<rows.length:=by
 unfold Bq at h;split at h;simp at h;split at h;simp at h;split at h;simp at h
 rename_i c1 c2 c3
 refine⟨by omega,by omega,by omega,fun i hi=>?_⟩;simp only[oT,nL,not_exists,not_and]at c3;have:=c3 i hi;simp only[nX,lZ,decide_eq_true_eq,oT,not_or,not_exists,not_and]at this;obtain⟨⟨a,b⟩,c⟩:=this;refine⟨by omega,by omega,fun t ht=>?_⟩;have:=c t ht;omega
end zS
namespace cg
open Go.RowKit cT ey zS
set_option maxRecDepth 100000
def isRow(cs:List Value)(r:List Int):Prop:=r.length=256/\cs=r.map (.int .i16)/\∀x∈r,-32768<=x/\x<=32767
def ae5(W:World)(v:Value)(rows:List (List Int))(tags:List Int):Prop:=∃vr vt,v=aP #[vr,vt]/\SlX W isRow 256 vr rows/\SlX W (isInt .i64 (-9223372036854775808) 9223372036854775807) 1 vt tags/\∀r∈rows,r.length=256
end cg
namespace cg
open Go.RowKit cT ey zS
theorem af_{rows:List (List Int)}{i:Nat}(hi:i<rows.length):rows.getD i []=rows[i]:=by rw[bD,bm hi];rfl
theorem Qa{l:List Int}{i:Nat}(hi:i<l.length):l.getD i 0=l[i]:=by rw[bD,bm hi];rfl
theorem Vt{n i:Nat}{p:Nat->Bool}(hi:i<n)(h:p i=aB):(eu n).any p=true:=oT.2 ⟨i,nL.2 hi,h⟩
theorem EO(v:Value)(rows:List (List Int))(tags:List Int)(w:World)(h:ae5 w v rows tags):
 Calls aC 116 #[v] w (cJ (ret (ap av (Bq rows tags))) w):=by
 obtain⟨vr,vt,rfl,hr,ht,aku⟩:=h;obtain⟨br,cr,rfl,Pd,pC,EP⟩:=hr;have ht':=ht.sl (f:= .int .i64) fun cs a h=>h.1;obtain⟨bt,ct,rfl,ht1,Zk,L4⟩:=ht';have htr:∀i (hi:i<tags.length),-9223372036854775808<=tags[i]/\tags[i]<=9223372036854775807:=fun i hi=>by
  obtain⟨_,_,_,_,_,h5⟩:=ht;obtain⟨_,_,_,h6⟩:=h5 J;obtain⟨_,h7,_⟩:=h6 i hi;exact h7.2
 clear ht;unfold maxLen at pC Zk;refine enter (args:=[aP #[ak br rows.length cr,ak bt tags.length ct]]) (n:=57) Tryz.func116 I I I ?_;refine bY (a_ (bQ I I I fun g=>?_))
 repeat(first|refine GA ?_|refine gV (aw aI.ty I (aE (i:=0) I I)) ?_)
 unfold Bq
 by_cases c1:200<rows.length
 ·rw[if_pos c1]
  try refine GA ?_
  exact dR
 ·rw[if_neg c1]
  by_cases c2:rows.length=0
  ·rw[if_pos (.inl c2)]
   repeat(first|refine GA ?_|refine gV (aw aI.ty I (aE (i:=0) I I)) ?_)
   exact dR
  by_cases c3:tags.length=rows.length
  ·rw[if_neg J]
   repeat(first|refine GA ?_|refine gV (aw aI.ty I (aE (i:=0) I I)) ?_)
   refine lX (ι:=Nat) (fun i=>i<=rows.length/\∀j,j<i->nX rows.length (tags.getD j 0) (rows.getD j [])=aD) (fun i=>[(1,aH (ah ⟨g,0,aj⟩)),(3,ap av rows.length),(21,ap av rows.length),(22,ap av (i:Int))]) (fun _=>[aO g #[ak br rows.length cr,ak bt tags.length ct] 186]) (fun i=>rows.length-i) 0 ⟨by omega,fun j hj=>by omega⟩ ⟨rfl,rfl,rfl,rfl,trivial⟩ I ?_;rintro i ⟨h1,h2⟩
   by_cases c4:i<rows.length
   ·obtain⟨b,off,rfl,hb⟩:=EP J
    obtain⟨b',Br,rfl,JJ⟩:=L4 J;have c4':i<tags.length:=by omega
    have eK:=Ys (L:=[aO g #[ak (ah ⟨b,off,aj⟩) rows.length cr,ak (ah ⟨b',Br,aj⟩) tags.length ct] 186]) JJ c4';obtain⟨cs,hcs,gv⟩:=hb i c4;obtain⟨q1,q2,q3⟩:=hcs;have hti:=htr i c4';have Xv:=Qa c4';have hra:=af_ c4;have oF:∀(P:Prop),nX rows.length (tags.getD i 0) (rows.getD i [])=aB->(if(eu rows.length).any (fun i=>nX rows.length (tags.getD i 0) (rows.getD i []))=aB then(1:Int)else 0)=1:=fun _ h=>if_pos (Vt c4 h);rw[Xv,hra]at oF
    by_cases c5:tags[i]< -1
    ·rw[oF True (by simp[nX,c5])]
     repeat(first|refine GA ?_|refine gV (aw aI.ty I (aE (i:=0) I I)) ?_|refine gV (a8 bI.eq aI.ty I I c4') ?_|refine gV (aw aI.ty I eK) ?_)
     exact dR
    by_cases c6:20<=tags[i]
    ·rw[oF True (by simp[nX,c6])]
     repeat(first|refine GA ?_|refine gV (aw aI.ty I (aE (i:=0) I I)) ?_|refine gV (a8 bI.eq aI.ty I I c4') ?_|refine gV (aw aI.ty I eK) ?_)
     exact dR
    repeat(first|refine GA ?_|refine gV (aw aI.ty I (aE (i:=0) I I)) ?_|refine gV (a8 bI.eq aI.ty I I c4') ?_|refine gV (aw aI.ty I eK) ?_|refine gV (aR bI.eq aI.ty I I c4) ?_|refine gV (aU aI.ty I (by rw[q2,dw,q1]) (fun j v hj=>jp gv hj)) ?_)
    refine lX (ι:=Nat) (fun b=>b<=256/\∀q,q<b-> -1<=rows[i].getD q 0/\rows[i].getD q 0<rows.length) (fun b=>[(1,aH (ah ⟨g,0,aj⟩)),(3,ap av rows.length),(21,ap av rows.length),(22,ap av (i:Int)),(43,aP cs.toArray),(44,ap av (b:Int))]) (fun _=>[aO g #[ak (ah ⟨b,off,aj⟩) rows.length cr,ak (ah ⟨b',Br,aj⟩) tags.length ct] 186]) (fun b=>256-b) 0 ⟨by omega,fun q hq=>by omega⟩ ⟨rfl,rfl,rfl,rfl,rfl,rfl,trivial⟩ I ?_;rintro q ⟨k1,k2⟩
    by_cases c7:q<256
    ·have hql:q<rows[i].length:=by omega
     have hqv:=Qa hql;have hcell:cs.toArray[q]?=ah (.int .i16 rows[i][q]):=by rw[q2];simp[hql]
     have hq3:=q3 _ (bV hql);have ac4:rows[i][q]∈rows[i]:=bV hql;generalize rows[i][q]=z at*
     by_cases c8:z< -1
     ·rw[oF True (by simp only[nX,lZ,oT];exact .inr ⟨z,ac4,by simp[c8]⟩)]
      clear k2 h2 EP L4
      repeat(first|refine GA ?_|refine gV (jv bI.eq aI.ty I I c7 hcell) ?_|refine gV (iV bI.eq bI.eq I (om J J)) ?_)
      exact dR
     by_cases c9:(rows.length:Int)<=z
     ·rw[oF True (by simp only[nX,lZ,oT];exact .inr ⟨z,ac4,by simp[c9]⟩)]
      clear k2 h2 EP L4
      repeat(first|refine GA ?_|refine gV (jv bI.eq aI.ty I I c7 hcell) ?_|refine gV (iV bI.eq bI.eq I (om J J)) ?_)
      exact dR
     repeat(first|refine GA ?_|refine gV (jv bI.eq aI.ty I I c7 hcell) ?_|refine gV (iV bI.eq bI.eq I (om J J)) ?_)
     exact iU (q+1) ⟨by omega,fun q' zq=>if e:q'<q then k2 q' e else(by obtain rfl:q'=q:=J;rw[hqv];omega)⟩ (by show 256-(q+1)<256-q;omega) ⟨rfl,rfl,rfl,rfl,rfl,rfl,trivial⟩ I
    have uT:nX rows.length (tags.getD i 0) (rows.getD i [])=false:=by
     rw[Xv,hra];simp only[nX,yv,decide_eq_false_iff_not,List.any_eq_false,Bool.not_eq_true];refine⟨⟨c5,c6⟩,fun z hz=>?_⟩;obtain⟨q',zq,rfl⟩:=jG.1 hz;have:=k2 q' J;rw[Qa zq]at this;simp;omega
    try refine GA ?_
    exact iU (i+1) ⟨by omega,fun j hj=>if e:j<i then h2 j e else(by obtain rfl:j=i:=J;exact uT)⟩ (by show rows.length-(i+1)<rows.length-i;omega) ⟨rfl,rfl,rfl,rfl,trivial⟩ I
   have hno:¬(eu rows.length).any (fun i=>nX rows.length (tags.getD i 0) (rows.getD i []))=true:=by
    simp only[oT,nL,not_exists,not_and];intro j hj;rw[h2 j J];simp
   rw[if_neg hno]
   try refine GA ?_
   exact dR
  rw[if_pos (.inr c3)]
  repeat(first|refine GA ?_|refine gV (aw aI.ty I (aE (i:=0) I I)) ?_)
  exact dR
end cg
namespace c_
structure uh where
 n:Nat
 d:Nat->Nat->Int
 tag:Nat->Int
structure uh.Ok(A:uh):Prop where
 pos:0<A.n
 le:A.n<=200
 step:∀i,i<A.n->∀b,b<256-> -1<=A.d i b/\A.d i b<A.n
 tags:∀i,i<A.n-> -1<=A.tag i/\A.tag i<20
abbrev Row:=Vector Int 256
abbrev Kind:=Int×Row
section
variable(A:uh)
def val(now:Nat->Nat)(q:Int):Nat:=if q<0 then 0 else now q.toNat
def kind(now:Nat->Nat)(i:Nat):Kind:=((now i:Int),Vector.ofFn fun b:Fin 256=>(val now (A.d i b):Int))
def dead:Kind:=(0,eA 256 0)
def kinds(now:Nat->Nat):List Kind:=(eu A.n).map (kind A now)
def l_(now:Nat->Nat):List Kind:=dO [dead] (kinds A now)
def next(now:Nat->Nat)(i:Nat):Nat:=idx (l_ A now) (kind A now i)
def Ia:Nat->Nat->(Nat->Nat)->Nat->Nat
 |0,_,now=>now
 |f+1,n,now=>if(l_ A now).length=n then next A now else Ia f (l_ A now).length (next A now)
def zT(i:Nat):Nat:=(A.tag i+1).toNat
def du:Nat->Nat:=Ia A (A.n+2) 0 (zT A)
def tg(q:Int):Int:=if q<0 then-1 else A.tag q.toNat
def dt(q:Int)(b:Nat):Int:=if q<0 then-1 else A.d q.toNat b
def go:Int->List UInt8->Int
 |q,[]=>q
 |q,b::s=>go (dt A q b.toNat) s
def St(q:Int):Prop:= -1<=q/\q<A.n
def same(q r:Int):Prop:=∀s,tg A (go A q s)=tg A (go A r s)
def kd(now:Nat->Nat)(q:Int):Kind:=if q<0 then dead else kind A now q.toNat
end
section
variable{A:uh}
theorem xC(hA:A.Ok){q:Int}(hq:St A q){b:Nat}(hb:b<256):St A (dt A q b):=by
 unfold St dt at*;have:=hA.pos;split;omega;exact hA.step q.toNat J b hb
theorem Zl:∀(s:List UInt8) {q:Int},q<0->go A q s<0
 |[],_,h=>h
 |b::s,q,h=>Zl s (by unfold dt;rw[if_pos h];decide)
theorem Vu{q r:Int}(h:same A q r)(b:Nat)(hb:b<256):same A (dt A q b) (dt A r b):=fun s=>by
 have:=h (fT b::s);have e:(fT b).toNat=b:=by simp;omega
 simp only[go,e]at this;exact this
theorem J8(now:Nat->Nat)(q:Int):(kd A now q).1=(val now q:Int):=by
 unfold kd val dead kind;split<;>rfl
theorem J9(now:Nat->Nat)(q:Int)(b:Nat)(hb:b<256):(kd A now q).2[b]=(val now (dt A q b):Int):=by
 unfold kd dt dead kind;split;simp[val];simp
theorem Zm{now:Nat->Nat}{q r:Int}:kd A now q=kd A now r↔val now q=val now r/\∀b,b<256->val now (dt A q b)=val now (dt A r b):=by
 constructor
 ·intro h
  refine⟨?_,fun b hb=>?_⟩
  ·have e:(kd A now q).1=(kd A now r).1:=by rw[h]
   rw[J8,J8]at e;exact Y7 e
  have e:(kd A now q).2[b]=(kd A now r).2[b]:=by rw[h]
  rw[J9 _ _ _ hb,J9 _ _ _ hb]at e;exact Y7 e
 rintro⟨h1,h2⟩;refine Prod.ext ?_ (Vector.ext fun b hb=>?_);rw[J8,J8,h1];rw[J9 _ _ _ hb,J9 _ _ _ hb,h2 b hb]
theorem ME(now:Nat->Nat):dead∈l_ A now:=lc.2 (.inl (by simp))
theorem Zn{now:Nat->Nat}{i:Nat}(h:i<A.n):kind A now i∈l_ A now:=lc.2 (.inr (eI.2 ⟨i,nL.2 h,rfl⟩))
theorem Zo{now:Nat->Nat}{q:Int}(h:q<A.n):kd A now q∈l_ A now:=by
 unfold kd;split;exact ME now;exact Zn J
theorem Vv(now:Nat->Nat):(l_ A now).Nodup:=tf _ _ (by simp)
theorem Bt(now:Nat->Nat):(l_ A now).length<=A.n+1:=by
 have h:∀(l D:List Kind),(dO D l).length<=D.length+l.length:=by
  intro l
  induction l with
  |nil=>intro D;simp[dO]
  |cons k l ih=>
   intro D;have:=ih (more D k);have h2:(more D k).length<=D.length+1:=by unfold more;split<;>simp
   show(dO (more D k) l).length<=_
   simp;omega
 have:=h (kinds A now) [dead];unfold l_;simp[kinds]at this⊢;omega
theorem Ti(now:Nat->Nat):0<(l_ A now).length:=List.length_pos_of_mem (ME now)
theorem uU(now:Nat->Nat){q:Int}:val (next A now) q=idx (l_ A now) (kd A now q):=by
 unfold val kd;split
 ·obtain⟨E,h⟩:=te (kinds A now) [dead]
  rw[l_,h];exact(YX dead E).symm
 rfl
theorem qZ{now:Nat->Nat}{q:Int}(h:q<A.n):val (next A now) q<(l_ A now).length:=by
 rw[uU];exact lf (Zo h)
theorem J_{now:Nat->Nat}{q r:Int}(hq:q<A.n):val (next A now) q=val (next A now) r↔kd A now q=kd A now r:=by
 rw[uU,uU];exact⟨fun h=>ac1 (Zo hq) h,fun h=>by rw[h]⟩
theorem EQ{now:Nat->Nat}{q r:Int}(hq:q<A.n)(h:val (next A now) q=val (next A now) r):val now q=val now r:=(Zm.1 ((J_ hq).1 h)).1
theorem Zp{now:Nat->Nat}{v:Nat}(h:v<(l_ A now).length):∃q:Int,St A q/\val (next A now) q=v:=by
 have hm:(l_ A now)[v]∈l_ A now:=bV h;have hi:idx (l_ A now) (l_ A now)[v]=v:=EF (Vv now) h;rcases lc.1 hm with hd|hk
 ·refine⟨-1,⟨by omega,by omega⟩,?_⟩
  rw[uU,show kd A now (-1)=dead from I,<-dH.1 hd];exact hi
 obtain⟨i,h1,h2⟩:=eI.1 hk;rw[nL]at h1;refine⟨i,⟨by omega,by omega⟩,?_⟩;have e:kd A now (i:Int)=kind A now i:=by unfold kd;rw[if_neg J,cX]
 rw[uU,e,h2];exact hi
def Tj(A:uh)(n:Nat)(now:Nat->Nat):Prop:=∃was,now=next A was/\n=(l_ A was).length
def MF(A:uh)(x:Nat):Int:=if x<A.n then(x:Int)else-1
theorem Zq{q:Int}(h:St A q):∃x,x<A.n+1/\MF A x=q:=by
 unfold St at h
 by_cases c:q<0
 exact⟨A.n,by omega,by unfold MF;rw[if_neg J];omega⟩;exact⟨q.toNat,by omega,by unfold MF;rw[if_pos J];omega⟩
theorem J'(x:Nat):MF A x<A.n:=by unfold MF;split<;>omega
theorem yx{n:Nat}{now:Nat->Nat}(h:Tj A n now):n<=(l_ A now).length/\((l_ A now).length=n->∀q r,St A q->St A r->val now q=val now r->val (next A now) q=val (next A now) r):=by
 obtain⟨was,rfl,rfl⟩:=h;have h:=P3 (N:=A.n+1) (f:=fun x=>val (next A was) (MF A x)) (g:=fun x=>val (next A (next A was)) (MF A x)) (n:=(l_ A was).length) (c:=(l_ A (next A was)).length)
  (fun v hv=>by
   obtain⟨q,hq,e⟩:=Zp hv;obtain⟨x,hx,e2⟩:=Zq hq;exact⟨x,hx,by show val (next A was) (MF A x)=v;rw[e2];exact e⟩)
  (fun x _=>qZ (J' x)) (fun x y _ _ e=>EQ (J' x) e)
 refine⟨h.1,fun hc q r hq hr e=>?_⟩;obtain⟨x,hx,rfl⟩:=Zq hq;obtain⟨y,hy,rfl⟩:=Zq hr;exact h.2 hc (fun x _=>qZ (J' x)) x y hx hy e
structure Way(A:uh)(now:Nat->Nat):Prop where
 tags:∀q r,St A q->St A r->val now q=val now r->tg A q=tg A r
 coarse:∀q r,St A q->St A r->same A q r->val now q=val now r
theorem aju(hA:A.Ok):Way A (zT A) where
 tags q r hq hr h:=by
  unfold St at hq hr;unfold val zT at h;unfold tg;have h1:=fun c=>hA.tags q.toNat (c:q.toNat<A.n);have h2:=fun c=>hA.tags r.toNat (c:r.toNat<A.n)
  by_cases c1:q<0<;>by_cases c2:r<0<;>simp only[c1,c2,if_true,if_false]at h⊢
  have:=h2 J;omega;have:=h1 J;omega;have:=h1 J;have:=h2 J;omega
 coarse q r hq hr h:=by
  have:=h [];simp only[go]at this;unfold tg at this;unfold val zT
  by_cases c1:q<0<;>by_cases c2:r<0<;>simp only[c1,c2,if_true,if_false]at this⊢ <;>omega
theorem ER(hA:A.Ok){now:Nat->Nat}(h:Way A now):Way A (next A now) where
 tags q r hq hr e:=h.tags q r hq hr (EQ hq.2 e)
 coarse q r hq hr e:=(J_ hq.2).2 (Zm.2 ⟨h.coarse q r hq hr e,fun b hb=>h.coarse _ _ (xC hA hq hb) (xC hA hr hb) (Vu e b hb)⟩)
structure ES(A:uh)(bl:Nat->Nat):Prop where
 le:∀i,i<A.n->bl i<=A.n
 tags:∀q r,St A q->St A r->val bl q=val bl r->tg A q=tg A r
 step:∀q r,St A q->St A r->val bl q=val bl r->∀b,b<256->val bl (dt A q b)=val bl (dt A r b)
 coarse:∀q r,St A q->St A r->same A q r->val bl q=val bl r
theorem Qb(hA:A.Ok){n:Nat}{now:Nat->Nat}(hr:Tj A n now)(hw:Way A now)(hc:(l_ A now).length=n):ES A (next A now) where
 le i hi:=by
  have:=qZ (A:=A) (now:=now) (q:=(i:Int)) J;have h2:=Bt (A:=A) now;unfold val at this;rw[if_neg J,cX]at this;omega
 tags:=(ER hA hw).tags
 coarse:=(ER hA hw).coarse
 step q r hq Ca e b hb:=(yx hr).2 hc _ _ (xC hA hq hb) (xC hA Ca hb) ((Zm.1 ((J_ hq.2).1 e)).2 b hb)
theorem Zr(hA:A.Ok):∀(f n:Nat) (now:Nat->Nat),(n=0\/Tj A n now)->n<=A.n+1->A.n+2<=f+n->Way A now->ES A (Ia A f n now)
 |0,n,now,_,h1,h2,_=>by omega
 | f +1,n,now,hr,h1,h2,hw=>by
  unfold Ia;have hp:=Ti (A:=A) now;split
  ·rename_i hc
   rcases hr with rfl|hr
   omega;exact Qb hA hr hw hc
  rename_i hc
  refine Zr hA f _ _ (.inr ⟨now,rfl,rfl⟩) (Bt now) ?_ (ER hA hw);rcases hr with rfl|hr
  omega;have:=(yx hr).1;omega
theorem Ib(hA:A.Ok):ES A (du A):=Zr hA _ _ _ (.inl I) (bC _) J (aju hA)
theorem ES.same(hA:A.Ok){bl:Nat->Nat}(h:ES A bl){q r:Int}(hq:St A q)(hr:St A r):val bl q=val bl r↔same A q r:=by
 refine⟨fun e s=>?_,h.coarse q r hq hr⟩
 induction s generalizing q r with
 |nil=>exact h.tags q r hq hr e
 |cons b s ih=>exact ih (xC hA hq b.toNat_lt) (xC hA hr b.toNat_lt) (h.step q r hq hr e _ b.toNat_lt)
end
end c_
namespace cg
open Go.RowKit cT ey c_
def kD{κ:Type}[DecidableEq κ](D:List κ)(x:κ):Option Value:=if x∈D then ah (ap av (idx D x:Int))else aj
theorem Ic{κ:Type}[DecidableEq κ]{D:List κ}{x:κ}(hn:x∉D):(fun y=>if y=x then ah (ap av (D.length:Int))else kD D y)=kD (D++[x]):=by
 funext y
 unfold kD
 by_cases c:y=x
 ·subst c
  rw[if_pos I,if_pos (by simp)];have:=sb (D:=D) (k:=y);unfold more at this;rw[if_neg hn,if_neg hn]at this;rw[this]
 rw[if_neg c]
 by_cases c2:y∈D
 rw[if_pos c2,if_pos (List.mem_append_left _ c2),qY c2];rw[if_neg c2,if_neg (by simp[c,c2])]
section
variable{P:Program}{k:TypeId}{κ:Type}{K:yl P k κ}
variable{W:b_}{fr:Fr}{L:List b9}{Q:Exit->Act->World->Prop}{ops:Array Oper}{rest:List Oper}{n d:Nat}{dst:Option Tmp}{ty:TypeId}{pos:String}{after:Array Edge}{guard:Option (Nat×Bool)}{i g c:Nat}{t e:TypeId}{D:List κ}{x:κ}{z:Value}{xm xk xv:Operand}[DecidableEq κ]
theorem uV(ht:P.underlying t=ah (.map k e))(hz:∀w,(zeroValue e).run P w= .ok z w)(hi:L[i]?=ah (fq K g (kD D) c))(hm:ev fr xm=ah (.map (ah g)))(hk:ev fr xk=ah (K.kv x))(hx:K.ok x)(hn:x∈D):RR P n W ⟨dst,.lookup t xm xk aB,ty,pos,after,guard⟩ fr L (.tuple #[ap av (idx D x:Int),.bool aB]):=by
 have:=pD (n:=n) (W:=W) (dst:=dst) (ty:=ty) (pos:=pos) (after:=after) (guard:=guard) K ht hz hi hm hk hx;rw[show kD D x=ah (ap av (idx D x:Int))from if_pos hn]at this;exact this
theorem uW(ht:P.underlying t=ah (.map k e))(hz:∀w,(zeroValue e).run P w= .ok z w)(hi:L[i]?=ah (fq K g (kD D) c))(hm:ev fr xm=ah (.map (ah g)))(hk:ev fr xk=ah (K.kv x))(hx:K.ok x)(hn:x∉D):RR P n W ⟨dst,.lookup t xm xk aB,ty,pos,after,guard⟩ fr L (.tuple #[z,.bool aD]):=by
 have:=pD (n:=n) (W:=W) (dst:=dst) (ty:=ty) (pos:=pos) (after:=after) (guard:=guard) K ht hz hi hm hk hx;rw[show kD D x=aj from if_neg hn]at this;exact this
theorem Bu(hn:dB d n=aB)(h:∀g,TL P n W ops Q rest ((d,.map (ah g))::fr) (L++[fq K g (kD []) 0])):
 TL P n W ops Q (⟨ah d,.makeMap t aj,ty,pos,after,aj⟩::rest) fr L:=by
 refine ym K hn fun g=>?_;have e:(fun(_:κ)=>(none:Option Value))=kD []:=by funext y;unfold kD;rw[if_neg (by simp)]
 rw[e];exact h g
theorem Bv(ht:P.underlying t=ah (.map k e))(hi:L[i]?=ah (fq K g (kD D) D.length))(hm:ev fr xm=ah (.map (ah g)))(hk:ev fr xk=ah (K.kv x))(hv:ev fr xv=ah (ap av (D.length:Int)))(hx:K.ok x)(hn:x∉D)(hc:D.length<=1152921504606846976)
 (h:TL P n W ops Q rest fr (L.set i (fq K g (kD (D++[x])) (D++[x]).length))):
 TL P n W ops Q (⟨aj,.mapUpdate t xm xk xv,ty,pos,after,aj⟩::rest) fr L:=by
 refine mK K ht hi hm hk hv hx hc ?_;rw[Ic hn];rw[show kD D x=aj from if_neg hn];rw[show(D++[x]).length=D.length+1 by simp]at h;exact h
end
end cg
namespace cg
open Go.RowKit cT ey
def ia(D:Nat->Prop)(f:Nat->b9):b9 where
 CX:=aj
 more:=fun k=>∃i,D i/\(f i).fu k
 holds:=fun w=>(∀i,D i->(f i).holds w)/\∀i j,D i->D j->i≠j->∀k,(f i).fu k->¬(f j).fu k
 lt:=fun w h k hk=>by
  rcases hk with hk|⟨i,hi,hk⟩
  cases hk
  exact(f i).lt w (h.1 i hi) k hk
 stay:=fun w w' h hs hb=>⟨fun i hi=>(f i).stay w w' (h.1 i hi) hs fun k hk=>hb k (.inr ⟨i,hi,hk⟩),h.2⟩
theorem Bw{D D':Nat->Prop}{f f':Nat->b9}(h1:∀k,D' k->D k)(h2:∀k,D' k->f' k=f k)(w:World)(h:(ia D f).holds w):(ia D' f').holds w:=
 ⟨fun i hi=>by rw[h2 i hi];exact h.1 i (h1 i hi),fun i j hi hj uf=>by rw[h2 i hi,h2 j hj];exact h.2 i j (h1 i hi) (h1 j hj) uf⟩
theorem ET{D D':Nat->Prop}{f f':Nat->b9}(h1:∀k,D' k->D k)(h2:∀k,D' k->f' k=f k)(k:Nat)(h:(ia D' f').fu k):(ia D f).fu k:=by
 rcases h with h|⟨i,hi,hk⟩
 cases h
 exact .inr ⟨i,h1 i hi,by rw[<-h2 i hi];exact hk⟩
def Tk(f:Nat->b9)(i:Nat)(o:b9):Nat->b9:=fun k=>if k=i then o else f k
theorem yy{f:Nat->b9}{i j:Nat}{o:b9}(h:j≠i):Tk f i o j=f j:=by unfold Tk;rw[if_neg h]
theorem yz{f:Nat->b9}{i:Nat}{o:b9}:Tk f i o i=o:=by unfold Tk;rw[if_pos I]
theorem ac5{D:Nat->Prop}{f:Nat->b9}{i:Nat}{o:b9}{w:World}(hi:¬D i)(h:(ia D f).holds w)(ho:o.holds w)(ha:∀k,(ia D f).fu k->¬o.fu k):(ia (fun k=>D k\/k=i) (Tk f i o)).holds w:=by
 have hf:∀j,D j->Tk f i o j=f j:=fun j hj=>yy fun e=>hi (by subst e;exact hj);have hg:Tk f i o i=o:=yz;refine⟨fun j hj=>?_,fun j k hj hk hjk q hq zq=>?_⟩
 ·rcases hj with hj|rfl
  rw[hf j hj];exact h.1 j hj;rw[hg];exact ho
 rcases hj with hj|rfl<;>rcases hk with hk|rfl
 rw[hf j hj]at hq;rw[hf k hk]at zq;exact h.2 j k hj hk hjk q hq zq;rw[hf j hj]at hq;rw[hg]at zq;exact ha q (.inr ⟨j,hj,hq⟩) zq;rw[hg]at hq;rw[hf k hk]at zq;exact ha q (.inr ⟨k,hk,zq⟩) hq;exact hjk I
theorem Zs{D:Nat->Prop}{f:Nat->b9}{i:Nat}{o:b9}(hi:¬D i)(k:Nat)(h:(ia (fun k=>D k\/k=i) (Tk f i o)).fu k):(ia D f).fu k\/o.fu k:=by
 rcases h with h|⟨j,hj,hk⟩
 cases h
 rcases hj with hj|rfl
 exact .inl (.inr ⟨j,hj,by rw[yy fun e=>hi (by subst e;exact hj)]at hk;exact hk⟩);exact .inr (by rw[yz]at hk;exact hk)
section
variable{P:Program}{n:Nat}{W:b_}{fr:Fr}{L:List b9}{Q:Exit->Act->World->Prop}{ops:Array Oper}{rest:List Oper}{d:Nat}
theorem Mem.split{w:World}{q:Nat}{o:b9}(o1 o2:b9)(h:Mem W L w)(hq:L[q]?=ah o)(h1:∀w,o.holds w->o1.holds w)(h2:∀w,o.holds w->o2.holds w)(f1:∀k,o1.fu k->o.fu k)(f2:∀k,o2.fu k->o.fu k)(ha:∀w,o.holds w->∀k,o1.fu k->¬o2.fu k):Mem W (L.set q o1++[o2]) w:=by
 have hr:=h.Tb o1 hq h1 f1;have hoq:=h.owns.all q o hq;have hlen:q<L.length:=(cU.1 hq).1;refine⟨h.low,fl.both hr.owns (fl.one (h2 w hoq.1) fun k hk=>hoq.2 k (f2 k hk)) fun i j a b hi hj k hk nu=>?_⟩
 match j,hj with
 | 0,hj=>
  simp only[List.getElem?_cons_zero,dg]at hj;subst hj
  by_cases e:q=i
  ·subst e
   rw[List.getElem?_set_self hlen]at hi;simp only[dg]at hi;subst hi;exact ha w hoq.1 k hk nu
  rw[List.getElem?_set_ne e]at hi;exact h.owns.apart i q a o (Ne.symm e) hi hq k hk (f2 k nu)
 |j+1,hj=>simp at hj
theorem Mem.ac6{w:World}(o:b9)(i j:Nat)(js:List Nat){o1 o2:b9}{R:List b9}(h:Mem W L w)(hn:([i,j]++js).Nodup)(h1:L[i]?=ah o1)(h2:L[j]?=ah o2)(hR:R=js.filterMap fun i=>L[i]?)(hf:∀k,o.fu k->o1.fu k\/o2.fu k)(hh:∀w,o1.holds w->o2.holds w->(∀k,o1.fu k->¬o2.fu k)->o.holds w):Mem W (R++[o]) w:=by
 have uf:i≠j:=fun e=>by subst e;simp at hn
 have ha:=h.owns.apart i j o1 o2 uf h1 h2;refine Mem.merge o (h.pick ([i,j]++js) hn ?_) hf (fun a b=>hh w a b ha);rw[sT,<-hR]
 congr 1
 rw[A_ (by exact h1),A_ (by exact h2)];rfl
theorem Mem.take{w:World}{q:Nat}{D:Nat->Prop}{f:Nat->b9}(i:Nat)(h:Mem W L w)(hq:L[q]?=ah (ia D f))(hi:D i):Mem W (L.set q (ia (fun k=>D k/\k≠i) f)++[f i]) w:=
 h.split _ _ hq (fun w h=>Bw (fun k h=>h.1) (fun _ _=>rfl) w h) (fun w h=>h.1 i hi) (fun k h=>ET (fun k h=>h.1) (fun _ _=>rfl) k h) (fun k h=> .inr ⟨i,hi,h⟩) fun w h k hk nu=>by
  rcases hk with hk|⟨j,⟨hj,hne⟩,hk⟩
  cases hk
  exact h.2 j i hj hi hne k hk nu
theorem Qc{c:Code}{q:Nat}{D:Nat->Prop}{f:Nat->b9}(i:Nat)(hq:L[q]?=ah (ia D f))(hi:D i)(h:T P n W c Q fr (L.set q (ia (fun k=>D k/\k≠i) f)++[f i])):T P n W c Q fr L:=⟨fun a w hr hm=>h.go a w hr (hm.take i hq hi)⟩
theorem Ka{q:Nat}{D:Nat->Prop}{f:Nat->b9}(i:Nat)(hq:L[q]?=ah (ia D f))(hi:D i)(h:TL P n W ops Q rest fr (L.set q (ia (fun k=>D k/\k≠i) f)++[f i])):TL P n W ops Q rest fr L:=⟨fun a w hr hm=>h.go a w hr (hm.take i hq hi)⟩
theorem Mem.put{w:World}{D D':Nat->Prop}{f f':Nat->b9}{o:b9}{R:List b9}(x q j:Nat)(js:List Nat)(h:Mem W L w)(hn:([q,j]++js).Nodup)(hq:L[q]?=ah (ia D f))(hj:L[j]?=ah o)(hR:R=js.filterMap fun i=>L[i]?)(hx:¬D x)(hD:∀k,D' k->D k\/k=x)(hf:∀k,D' k->f' k=Tk f x o k):Mem W (R++[ia D' f']) w:=
 h.ac6 _ q j js hn hq hj hR (fun k hk=>Zs hx k (ET hD hf k hk)) fun w h1 h2 h3=>Bw hD hf w (ac5 hx h1 h2 h3)
theorem Qd{D D':Nat->Prop}{f f':Nat->b9}{o:b9}{R:List b9}(x q j:Nat)(js:List Nat)(hn:([q,j]++js).Nodup)(hq:L[q]?=ah (ia D f))(hj:L[j]?=ah o)(hR:R=js.filterMap fun i=>L[i]?)(hx:¬D x)(hD:∀k,D' k->D k\/k=x)(hf:∀k,D' k->f' k=Tk f x o k)(h:TL P n W ops Q rest fr (R++[ia D' f'])):TL P n W ops Q rest fr L:=⟨fun a w hr hm=>h.go a w hr (hm.put x q j js hn hq hj hR hx hD hf)⟩
theorem MG{e:Exit}{D D':Nat->Prop}{f f':Nat->b9}{o:b9}{R:List b9}(x q j:Nat)(js:List Nat)(hn:([q,j]++js).Nodup)(hq:L[q]?=ah (ia D f))(hj:L[j]?=ah o)(hR:R=js.filterMap fun i=>L[i]?)(hx:¬D x)(hD:∀k,D' k->D k\/k=x)(hf:∀k,D' k->f' k=Tk f x o k)(h:E n W e Q fr (R++[ia D' f'])):E n W e Q fr L:=⟨fun a w hr hm=>h.go a w hr (hm.put x q j js hn hq hj hR hx hD hf)⟩
theorem Kb{q:Nat}{o:b9}{p:Addr}{v:Value}(hq:L[q]?=ah o)(h:∀w,o.holds w->w.cell? p=ah v):At W L p v:=fun w hm=>h w (hm.get hq)
theorem zU{g off size cap m k:Nat}{e:TypeId}{xs:List Value}{v:Value}{w:World}(h:(bx e size (ak (ah ⟨g,0,aj⟩) m cap) k xs).holds w)(hv:xs[off]?=ah v):w.cell? ⟨g,off,aj⟩=ah v:=by
 have h:w.ownsRow 0 e size (ak (ah ⟨g,0,aj⟩) m cap) k xs:=h;have:=h.cells (g:=g) I off v hv
 rwa [g_,cI]at this
def lH{α:Type}(len:Nat)(f:Nat->α):List α:=(eu len).map f
section
variable{α:Type}
theorem hY(len:Nat)(f:Nat->α):(lH len f).length=len:=by simp[lH]
theorem uX{len:Nat}(f:Nat->α){k:Nat}(h:k<len):(lH len f)[k]?=ah (f k):=by simp[lH,h]
theorem Zt{len:Nat}(f g:Nat->α)(k:Nat)(v:α)(h:∀i,i<len->g i=if i=k then v else f i):(lH len f).set k v=lH len g:=by
 apply mq;intro i;rw[EK]
 by_cases hi:i<len
 ·rw[uX g hi,h i hi]
  by_cases e:k=i
  subst e;simp[hY,hi];rw[if_neg e,if_neg (fun e'=>e e'.symm),uX f hi]
 have h1:(lH len g)[i]?=none:=ii (by rw[hY];omega);have h2:(lH len f)[i]?=none:=ii (by rw[hY];omega);rw[h1,h2]
 by_cases e:k=i
 subst e;simp[hY,hi];rw[if_neg e]
theorem EU{len:Nat}{f g:Nat->α}(h:∀i,i<len->f i=g i):lH len f=lH len g:=by
 unfold lH;apply Y';intro i hi;exact h i (by simpa using hi)
theorem Qf(val:α->Value)(a:α)(len:Nat):(lH len fun _=>a).map val=db len (val a):=by
 unfold lH;rw[List.map_map];apply mq;intro i
 by_cases h:i<len<;>simp[h]
def dI(e:TypeId)(val:α->Value)(g len:Nat)(f:Nat->α):b9:=bx e 1 (ak (ah ⟨g,0,aj⟩) len len) len ((lH len f).map val)
theorem mA{e:TypeId}{val:α->Value}{g len:Nat}{f f':Nat->α}(h:∀i,i<len->f i=f' i):dI e val g len f=dI e val g len f':=by unfold dI;rw[EU h]
theorem eG{e:TypeId}{val:α->Value}{i g len k:Nat}{f:Nat->α}(hi:L[i]?=ah (dI e val g len f))(hk:k<len):At W L ⟨g,0+k,aj⟩ (val (f k)):=ku hi (by rw[cI,eQ,uX f hk];rfl)
theorem nY{e:TypeId}{val:α->Value}{g len k:Nat}{f:Nat->α}{w:World}(h:(dI e val g len f).holds w)(hk:k<len):w.cell? ⟨g,0+k,aj⟩=ah (val (f k)):=zU h (by rw[cI,eQ,uX f hk];rfl)
theorem Zu{e:TypeId}{val:α->Value}{g len k:Nat}{v:α}{f f':Nat->α}(h:∀i,i<len->f' i=if i=k then v else f i):bx e 1 (ak (ah ⟨g,0,aj⟩) len len) len (((lH len f).map val).set k (val v))=dI e val g len f':=by
 unfold dI;rw[<-o7,Zt f f' k v h]
theorem eV{e:TypeId}{val:α->Value}{ty:TypeId}{pos:String}{after:Array Edge}{t:TypeId}{p x:Operand}{i g off len:Nat}{v:α}{f:Nat->α}(f':Nat->α)(hT:Ty P t aD 1)(hi:L[i]?=ah (dI e val g len f))(hp:ev fr p=ah (aH (ah ⟨g,0+off,aj⟩)))(hx:ev fr x=ah (val v))(h1:(val v).cells=#[val v])(h2:(val v).oneCell'=aB)(hk:off<len)(hf:∀i,i<len->f' i=if i=off then v else f i)
 (h:TL P n W ops Q rest fr (L.set i (dI e val g len f'))):TL P n W ops Q (⟨aj,.store t p x,ty,pos,after,aj⟩::rest) fr L:=
 kY hT hi hp hx h1 I h2 (by rw[dw,hY,cI];exact hk) (by rw[cI,Zu hf];exact h)
theorem lg{t e:TypeId}{x y:Operand}{bytes m:Nat}{k k':IntKind}{ty:TypeId}{pos:String}{after:Array Edge}(val:α->Value)(z:α)[sM P t e 1 bytes][eS P e #[val z]](hx:ev fr x=ah (.int k (m:Int)))(hy:ev fr y=ah (.int k' (m:Int)))(hb:bytes*m<=281474976710656)(wP:m<=9223372036854775807)(hn:dB d n=aB)
 (h:∀g,TL P n W ops Q rest ((d,ak (ah ⟨g,0,aj⟩) m m)::fr) (L++[dI e val g m fun _=>z])):TL P n W ops Q (⟨ah d,.makeSlice t x y,ty,pos,after,aj⟩::rest) fr L:=
 td hx hy hb wP hn fun g=>by
  have:=h g;unfold dI at this;rw[Qf]at this;exact this
end
abbrev gB(b:Bool):Value:= .bool b
def nc(m:Nat)(g:Nat):Value:=ak (ah ⟨g,0,aj⟩) m m
structure ae6(w:World)(g N m:Nat)(O:Nat->Nat->Bool):Prop where
 ex:∃gs:Nat->Nat,∀i,i<N->w.cell? ⟨g,0+i,aj⟩=ah (nc m (gs i))/\∀a,a<m->w.cell? ⟨gs i,0+a,aj⟩=ah (gB (O i a))
theorem ac7{T T':TypeId}{w:World}{g N m:Nat}{gs:Nat->Nat}{O:Nat->Nat->Bool}(h1:(dI T (nc m) g N gs).holds w)(h2:(ia (fun i=>i<N) fun i=>dI T' gB (gs i) m (O i)).holds w):ae6 w g N m O:=
 ⟨gs,fun _ hi=>⟨nY h1 hi,fun _ ha=>nY (h2.1 _ hi) ha⟩⟩
end
end cg
namespace cg
open Go.RowKit cT ey aM
def dS(x:bX):List Value:=[ap av x.1,ap av x.2]
def Zv(x:bX):Prop:=cT.dM x.1/\cT.dM x.2
theorem Tl(l:List bX):∀u∈l.flatMap dS,u.oneCell'=true:=by
 intro u hu;obtain⟨f,_,h⟩:=P8.1 hu;simp only[dS,df,fI,or_false]at h;rcases h with rfl|rfl<;>rfl
theorem Zw(f f':bX)(w:World):(Op.equalIn 10000 148 (aP (dS f).toArray) (aP (dS f').toArray)).run aC w= .ok (decide (f=f')) w:=by
 obtain⟨k,q⟩:=f;obtain⟨k',q'⟩:=f';unfold dS
 go_simp
 by_cases e1:k=k'<;>by_cases e2:q=q'<;>simp[e1,e2]
def ac8:zk bX:=zM dS 2 (fun _=>rfl) Zv
def q6:zk aM.Prod:=YR iE (cB ac8)
def dD(t n:Int)(vp:Value):Value:=aP #[ap av t,ap av n,vp]
def kw(F:Nat->Prop)(w:World)(v:Value)(g:dF):Prop:=∃vp,v=dD g.aQ g.bB vp/\kK q6 F w vp g.az/\cT.dM g.aQ/\cT.dM g.bB
theorem kw.stay{F:Nat->Prop}{w w':World}{v:Value}{g:dF}(h:kw F w v g)(hk:∀k,F k->w'.heap[k]?=w.heap[k]?):kw F w' v g:=
 let ⟨vp,h1,h2,h3⟩:=h;⟨vp,h1,h2.stay hk,h3⟩
theorem kK.gr{α:Type}{s:zk α}{w w':World}{v:Value}{l:List α}(h:kK s (fun k=>k<w.heap.size) w v l)(hg:Gr w w'):kK s (fun k=>k<w'.heap.size) w' v l:=
 (h.stay fun k hk=>hg.block k hk).mono fun _ hk=>jt hk hg.size
theorem kw.gr{w w':World}{v:Value}{g:dF}(h:kw (fun k=>k<w.heap.size) w v g)(hg:Gr w w'):kw (fun k=>k<w'.heap.size) w' v g:=
 let ⟨vp,h1,h2,h3⟩:=h;⟨vp,h1,h2.gr hg,h3⟩
theorem lI{F:Nat->Prop}{w:World}{b off:Nat}{l:List aM.Prod}(h:∀i (h:i<l.length),∃cs,q6.is F w cs l[i]/\Rd w b (off+i*q6.c) cs){k:Nat}(hk:k<l.length):
 ∃base cap,Rd w b (off+k*2) [ap av l[k].1,.slice base l[k].2.length cap]/\cT.dM l[k].1/\kK ac8 F w (.slice base l[k].2.length cap) l[k].2:=by
 obtain⟨cs,⟨c1,c2,rfl,⟨rfl,mJ⟩,⟨vb,rfl,Cf⟩⟩,hr⟩:=h k hk;have ajv:=Cf;obtain⟨base,cap,rfl,_⟩:=ajv;exact⟨base,cap,hr,mJ,Cf⟩
end cg
namespace cg
open Go.RowKit cT ey aM
theorem mc(a:bX):(dS a).length=2:=rfl
theorem xr(v:Value)(l:List bX)(w:World)(hs:Sl w v l.length (l.flatMap dS))(uY:FuncId)(first cp:Array Value)(p:bX->Bool)(Kc:Enters aC uY)
 (hp:∀a∈l,∀w',Gr w w'->Calls aC uY (first++#[(aP (dS a).toArray)]++cp) w' (cJ (ret (.bool (p a))) w')):
 Calls aC 156 #[v,.func (.func uY) first cp] w (cJ (ret (ap av (ug p l))) w):=by
 obtain⟨base,cap,rfl,tb,sc,fZ⟩:=hs;unfold maxLen at sc;refine enter (args:=[ak base l.length cap,.func (.func uY) first cp]) (n:=19) Tryz.func156 I I I ?_
 try refine GA ?_
 refine dU (ι:=Nat) (fun k=>k<=l.length/\∀j (hj:j<l.length),j<k->p l[j]=aD) (fun k=>[(0,ak base l.length cap),(1,.func (.func uY) first cp),(7,ap av l.length),(8,ap av (k:Int))]) (fun _=>[]) (fun k=>l.length-k) 0 ⟨by omega,fun j hj h=>by omega⟩ ?_;rintro k ⟨h1,h2⟩
 by_cases c2:k<l.length
 ·obtain⟨b,off,rfl,hr⟩:=fZ J
  have eK:=hU (L:=([]:List b9)) mc hr c2;have jZ:=hp l[k] (bV c2)
  by_cases c3:p l[k]=aB
  ·rw[wQ c2 c3 h2]
   rw[c3]at jZ;clear hp h2 fZ
   repeat(first|refine GA ?_|refine gV (aR bI.eq aI.ty I I c2) ?_|refine gV (aU aI.ty I I eK) ?_)
   refine aW (Ep Kc I I) (fun w hm=>jZ w hm.below) I I I ?_;intro _ _
   try refine GA ?_
   exact dR
  have Tf:p l[k]=false:=by simpa using c3
  rw[Tf]at jZ;clear hp fZ c3
  repeat(first|refine GA ?_|refine gV (aR bI.eq aI.ty I I c2) ?_|refine gV (aU aI.ty I I eK) ?_)
  refine aW (Ep Kc I I) (fun w hm=>jZ w hm.below) I I I ?_;intro _ _
  try refine GA ?_
  exact bO (k+1) ⟨by omega,fun j hj h=>if e:j<k then h2 j hj e else(by obtain rfl:j=k:=J;exact Tf)⟩ (by show l.length-(k+1)<l.length-k;omega)
 ·rw[wR fun j hj=>h2 j hj J]
  clear hp h2 fZ
  try refine GA ?_
  exact dR
theorem ti(v:Value)(l:List bX)(w:World)(hs:Sl w v l.length (l.flatMap dS))(uY:FuncId)(first cp:Array Value)(p:bX->Bool)(Kc:Enters aC uY)
 (hp:∀a∈l,∀w',Gr w w'->Calls aC uY (first++#[(aP (dS a).toArray)]++cp) w' (cJ (ret (.bool (p a))) w')):
 Calls aC 119 #[v,.func (.func uY) first cp] w (cJ (ret (.bool (l.any p))) w):=by
 refine enter (args:=[v,.func (.func uY) first cp]) (n:=9) Tryz.func119 I I I ?_;have hh:=fun w' (hg:Gr w w')=>xr v l w' (hs.gr hg) uY first cp p Kc fun a ha L2 yA=>hp a ha L2 (hg.trans yA);have hr:=s9 p l;rw[<-zK p l];generalize ug p l=r at*
 try refine GA ?_
 refine aW (fP aF.en I I I) (fun w hm=>hh _ hm.below) I I I ?_;intro _ _
 repeat(first|refine GC ?_|refine gV (fx I I I) ?_|refine GB ?_)
 exact dR
end cg
namespace cg
open Go.RowKit cT ey aM
theorem MH(t n:Int)(vp:Value)(x:bX)(w:World):Calls aC 121 #[dD t n vp,aP (dS x).toArray] w (cJ (ret (.bool (right t n x))) w):=by
 obtain⟨k,q⟩:=x;refine enter (args:=[dD t n vp,aP (dS (k,q)).toArray]) (n:=31) Tryz.func121 I I I ?_;refine bY (a_ (bQ I I I fun g0=>bQ I I I fun g1=>?_))
 repeat' (first
  |refine QV QP ?_
  |refine QZ ?_
  |refine U5 I ?_
  |refine U6 I ?_
  |refine qs I I I I I I ?_
  |(((try refine qg I I I ?_);first|refine QV QP ?_|refine QV (aw aI.ty I (aE (i:=0) I I)) ?_|refine QV (aw aI.ty I (aE (i:=1) I I)) ?_|refine QV QA ?_|refine QV QhT ?_|refine QV QhF ?_|refine QV QeT ?_|refine QV QeF ?_|refine QV QlT ?_|refine QV QlF ?_))
  |refine PJ (dT I I I) I I I I I (fun h=>?_) (fun h=>?_)
  |refine Mg (fx I I I) I I I (fun h=>?_) (fun h=>?_)
  |refine Mg (cP I I I) I I I (fun h=>?_) (fun h=>?_)
  |((fail_if_success (refine SQ I ?_));(fail_if_success (refine SR I ?_));refine acQ I (fun h=>?_) (fun h=>?_))
  |((fail_if_success (refine afI I I I ?_));(fail_if_success (refine afJ I I I ?_));refine UX I I I (fun h=>?_) (fun h=>?_)))
 all_goals (refine eU I I ?_;congr 1;unfold right;dsimp only at*;repeat (first|rw[if_pos J]|rw[if_neg J]|rw[decide_eq_true (by assumption)]|rw[decide_eq_false (by assumption)]);try rfl)
theorem Kd(t n:Int)(vp:Value)(x:bX)(g:Nat)(w:World)(hg:w.heap[g]?=ah (.cells (dD t n vp).cells 33 (0,0))):
 Calls aC 120 #[aP (dS x).toArray,aH (ah ⟨g,0,aj⟩)] w (cJ (ret (.bool (!right t n x))) w):=by
 have hcell:∀(L:List b9) (j:Nat) (v:Value),([ap av t,ap av n,vp]:List Value)[j]?=ah v->At w L ⟨g,0+j,aj⟩ v:=fun L j v hj=>hJ (by
  rw[cell_of_row w g (0+j) _ _ _ hg,cI];show(#[ap av t,ap av n,vp]:Array Value)[j]?=ah v
  simpa using hj)
 have hr:=MH t n vp x;refine enter (args:=[aP (dS x).toArray,aH (ah ⟨g,0,aj⟩)]) (n:=8) Tryz.func120 I I I ?_;refine bY (a_ (bQ I I I fun g0=>?_))
 repeat(first|refine GA ?_|refine gV (aU aI.ty I I (hcell _)) ?_|refine gV (aL (i:=0) aI.ty I I I) ?_)
 refine aW (fP aF.en I I I) (fun w hm=>hr w) I I I ?_;intro _ _
 try refine GA ?_
 exact dR
theorem MI{t n:Int}{l:List aM.Prod}{k:Nat}(h:k<l.length)(h0:zR t n l[k]=0):pX t n (l.drop k)=pX t n (l.drop (k+1)):=by
 rw[dJ h,pX,if_neg (by simp[h0])]
theorem MJ{t n:Int}{l:List aM.Prod}{k:Nat}(h:k<l.length)(h0:zR t n l[k]≠0):pX t n (l.drop k)=zR t n l[k]:=by
 rw[dJ h,pX,if_pos h0]
theorem iX(v:Value)(g:dF)(w:World)(h:kw (fun k=>k<w.heap.size) w v g):
 Calls aC 80 #[v] w (cJ (ret (ap av (cD g))) w):=by
 obtain⟨vp,rfl,h1,_⟩:=h;obtain⟨bp,cp,rfl,Qg,He,ow⟩:=h1;unfold maxLen at He;obtain⟨t,n,az⟩:=g;dsimp only at*;refine enter (args:=[dD t n (ak bp az.length cp)]) (n:=57) Tryz.func80 I I I ?_;refine bY (a_ (bQ I I I fun g0=>?_));unfold cD;dsimp only
 by_cases c1:t<0
 ·rw[if_pos c1]
  repeat(first|refine GA ?_|refine gV (aw aI.ty I (aE (i:=0) I I)) ?_)
  exact dR
 rw[if_neg c1]
 by_cases c2:30<t
 ·rw[if_pos c2]
  repeat(first|refine GA ?_|refine gV (aw aI.ty I (aE (i:=0) I I)) ?_)
  exact dR
 rw[if_neg c2]
 by_cases c3:n<1
 ·rw[if_pos c3]
  repeat(first|refine GA ?_|refine gV (aw aI.ty I (aE (i:=0) I I)) ?_)
  exact dR
 rw[if_neg c3]
 by_cases c4:20<n
 ·rw[if_pos c4]
  repeat(first|refine GA ?_|refine gV (aw aI.ty I (aE (i:=0) I I)) ?_)
  exact dR
 rw[if_neg c4]
 by_cases c5:40<az.length
 ·rw[if_pos c5]
  repeat(first|refine GA ?_|refine gV (aw aI.ty I (aE (i:=0) I I)) ?_)
  exact dR
 rw[if_neg c5]
 repeat(first|refine GA ?_|refine gV (aw aI.ty I (aE (i:=0) I I)) ?_)
 refine dU (ι:=Nat) (fun k=>k<=az.length/\pX t n az=pX t n (az.drop k)) (fun k=>[(1,aH (ah ⟨g0,0,aj⟩)),(30,ak bp az.length cp),(31,ap av az.length),(32,ap av (k:Int))]) (fun _=>[aO g0 (dD t n (ak bp az.length cp)).cells 33]) (fun k=>az.length-k) 0 ⟨bC _,rfl⟩ ?_;rintro k ⟨i1,i2⟩;rw[i2];clear i2
 by_cases c6:k<az.length
 ·obtain⟨b,off,rfl,_,hr⟩:=ow J
  obtain⟨bb,cb,q1,q2,q3⟩:=lI hr c6;have pW:=MJ (t:=t) (n:=n) c6;have xD:=MI (t:=t) (n:=n) c6;have eK:∀(L:List b9) (j:Nat) (v:Value),([ap av az[k].1,.slice bb az[k].2.length cb]:List Value)[j]?=ah v->At w L ⟨b,off+k*2+j,aj⟩ v:=fun L j v hj=>jp q1 hj;clear hr ow q1;generalize az[k]=p at*;obtain⟨hd,body⟩:=p;have hco:=fun w' (hg:Gr w w') (hb:w'.heap[g0]?=ah (.cells (dD t n (ak (ah ⟨b,off,aj⟩) az.length cp)).cells 33 (0,0)))=>ti (ak bb body.length cb) body w' ((q3.flat akV).gr hg) 120 #[] #[aH (ah ⟨g0,0,aj⟩)] (fun x=>!right t n x) aF.en (fun a _ L2 yA=>Kd t n _ a g0 L2 (by rw[yA.block g0 (kq.1 hb).1];exact hb));dsimp only at*
  repeat(first|refine GA ?_|refine gV (aR bI.eq aI.ty I I c6) ?_|refine gV (aU aI.ty I I (eK _)) ?_)
  clear eK;refine aY I fun g4=>?_;refine gG 1 ?_;refine zL ?_;unfold zR at pW xD;dsimp only at pW xD
  by_cases c7:8<body.length
  ·rw[if_pos c7]at pW
   rw[pW akV]
   repeat(first|refine GA ?_|refine gV (aw aI.ty I (aE (i:=1) I I)) ?_)
   exact dR
  rw[if_neg c7]at pW xD
  by_cases c8:hd<0
  ·rw[if_pos c8]at pW
   rw[pW akV]
   repeat(first|refine GA ?_|refine gV (aw aI.ty I (aE (i:=1) I I)) ?_)
   exact dR
  rw[if_neg c8]at pW xD
  by_cases c9:n<=hd
  ·rw[if_pos c9]at pW
   rw[pW akV]
   repeat(first|refine GA ?_|refine gV (aw aI.ty I (aE (i:=1) I I)) ?_|refine gV (aw aI.ty I (aE (i:=0) I I)) ?_)
   exact dR
  rw[if_neg c9]at pW xD
  by_cases c10:body.any (fun x=>!right t n x)=aB
  ·rw[if_pos c10]at pW
   rw[pW akV];rw[c10]at hco
   repeat(first|refine GA ?_|refine gV (aw aI.ty I (aE (i:=1) I I)) ?_|refine gV (aw aI.ty I (aE (i:=0) I I)) ?_|refine gV (qV I I) ?_)
   refine kV (fP aF.en I I I) (fun w hm=>hco _ hm.below (hm.get (i:=0) I)) I I I I I ?_;intro _ _
   try refine GA ?_
   exact dR
  have ajw:body.any (fun x=>!right t n x)=false:=by simpa using c10
  rw[if_neg c10]at xD;rw[ajw]at hco
  repeat(first|refine GA ?_|refine gV (aw aI.ty I (aE (i:=1) I I)) ?_|refine gV (aw aI.ty I (aE (i:=0) I I)) ?_|refine gV (qV I I) ?_)
  refine kV (fP aF.en I I I) (fun w hm=>hco _ hm.below (hm.get (i:=0) I)) I I I I I ?_;intro _ _
  try refine GA ?_
  refine dv [0] ?_;exact bO (k+1) ⟨by omega,xD I⟩ (by show az.length-(k+1)<az.length-k;omega)
 ·rw[List.drop_of_length_le J]
  try refine GA ?_
  exact dR
end cg
namespace cg
open Go.RowKit cT ey aM
def tj(F:Nat->Prop)(vp:Value)(l:List aM.Prod):b9:=ajp (cB q6) F [vp] l
theorem MK{w:World}{hd:Int}{vb:Value}{body:List bX}(mJ:cT.dM hd)(hp:∀x∈body,Zv x)(h:(bx 148 2 vb body.length (body.flatMap dS)).holds w):q6.is (fun k=>vb.ownBlock=ah k) w [ap av hd,vb] (hd,body):=
 ⟨[ap av hd],[vb],rfl,⟨rfl,mJ⟩,vb,rfl,kK.of_flat (Sl.dy h) hp (fun _ h=>h) (fun a n cp hv=>by rw[hv];rfl)⟩
end cg
namespace dN
open aM
inductive Tree where
 |mk (prod tok:Int) (kids:List Tree)
def Tree.prod:Tree->Int| .mk p _ _=>p
def Tree.tok:Tree->Int| .mk _ t _=>t
def Tree.kids:Tree->List Tree| .mk _ _ k=>k
def bJ(l:List aM.Prod)(p:Int):aM.Prod:=l.getD p.toNat (0,[])
mutual
def size:Tree->Nat
 | .mk _ _ kids=>ae7 kids+1
def ae7:List Tree->Nat
 |[]=>0
 |k::r=>size k+ae7 r
end
mutual
def leaves:Tree->Nat
 | .mk p _ kids=>if p<0 then 1 else de kids
def de:List Tree->Nat
 |[]=>0
 |k::r=>leaves k+de r
end
mutual
def eH(l:List aM.Prod):Tree->bX->Nat->Prop
 | .mk p k kids,x,v=>
  (x.1=1/\p= -1/\k=(v:Int)/\kids=[])\/(x.1≠1/\0<=p/\p<(l.length:Int)/\(bJ l p).1=x.2/\k=0/\dl l kids (bJ l p).2 v)
def dl(l:List aM.Prod):List Tree->List bX->Nat->Prop
 |[],[],_=>True
 |[],_::_,_=>False
 |_::_,[],_=>False
 |k::r,y::b,v=>eH l k y v/\dl l r b (v+leaves k)
end
theorem yB{l:List aM.Prod}:∀{ks:List Tree} {b:List bX} {v:Nat},dl l ks b v->ks.length=b.length
 |[],[],_,_=>rfl
 |[],_::_,_,h=>by simp[dl]at h
 |_::_,[],_,h=>by simp[dl]at h
 |_::r,_::b,_,h=>by
  rw[dl]at h;rw[cO,cO,yB h.2]
inductive Zx where
 |ahead (p:Int)
 |behind (p:Int)
 |leaf (nf tok:Int)
mutual
def dG(l:List aM.Prod):Tree->List Zx
 | .mk p _ kids=> .ahead p::(nE l kids (bJ l p).2++[.behind p])
def nE(l:List aM.Prod):List Tree->List bX->List Zx
 |[],_=>[]
 |_::_,[]=>[]
 | .mk p k ks::r,y::b=>(if p<0 then [.leaf y.2 k]else dG l (.mk p k ks))++nE l r b
end
end dN
namespace dN
open aM
def Qh:Zx->Option Int
 | .leaf t _=>ah t
 |_=>aj
def fU(l:List aM.Prod)(t:Tree):List Int:=(dG l t).filterMap Qh
def gi(l:List aM.Prod)(ks:List Tree)(b:List bX):List Int:=(nE l ks b).filterMap Qh
theorem jy(l:List aM.Prod)(p k:Int)(kids:List Tree):fU l (.mk p k kids)=gi l kids (bJ l p).2:=by
 unfold fU gi;rw[dG,List.filterMap_cons_none I,sT];simp[Qh]
theorem Cg(l:List aM.Prod)(p k:Int)(ks r:List Tree)(y:bX)(b:List bX):gi l (.mk p k ks::r) (y::b)=(if p<0 then [y.2]else fU l (.mk p k ks))++gi l r b:=by
 unfold gi fU;rw[nE,sT]
 congr 1
 split<;>rfl
theorem uZ(a b:List Tree):de (a++b)=de a+de b:=by
 induction a with
 |nil=>rw[fN,de,cI]
 |cons x r ih=>rw[kt,de,de,ih,jH]
mutual
theorem wT{l:List aM.Prod}:∀{t:Tree} {x:bX} {u:Nat},eH l t x u->0<=t.prod->(fU l t).length=leaves t
 | .mk p k kids,x,u,h,hp=>by
  rw[eH]at h;have hp:0<=p:=hp;rw[jy,leaves,if_neg J];rcases h with⟨_,h,_⟩|⟨_,_,_,_,_,h⟩
  omega;exact EV h
theorem EV{l:List aM.Prod}:∀{ks:List Tree} {b:List bX} {u:Nat},dl l ks b u->(gi l ks b).length=de ks
 |[],[],_,_=>by rw[de];simp[gi,nE]
 | .mk p k kk::r,y::b,u,h=>by
  rw[dl]at h;rw[Cg,bK,EV h.2,de]
  congr 1
  split;rw[leaves,if_pos (by assumption)];rfl;exact wT h.1 (by show(0:Int)<=p;omega)
 |[],_::_,_,h=>by simp[dl]at h
 |_::_,[],_,h=>by simp[dl]at h
end
end dN
namespace ee
open aM
abbrev Span:=Int×Int×Int
abbrev fA:=Span->Nat
def eo(c:fA)(w:List Int)(x:bX)(a b:Nat):Nat:=if x.1=2 then c (x.2,(a:Int),(b:Int))else if b=a+1/\w[a]?=ah x.2 then 1 else 0
def eJ(f:Nat->Nat):Nat->Nat
 |0=>0
 |k+1=>eJ f k+f k
def kf(o:Nat->Nat->Nat)(f:Nat->Nat)(b:Nat):Nat:=min 2 (eJ (fun j=>f j*o j b) (b+1))
def kE(o:Nat->Nat->Nat)(f:Nat->Nat)(i b:Nat):Nat:=min 2 (eJ (fun j=>f j*o j b) (min i (b+1)))
def q7(o:bX->Nat->Nat->Nat)(a:Nat):List bX->(Nat->Nat)->Nat->Nat
 |[],f=>f
 |x::r,f=>q7 o a r (kf (fun i j=>o x (a+i) (a+j)) f)
def xE(b:Nat):Nat:=if b=0 then 1 else 0
def sd(o:bX->Nat->Nat->Nat)(l:List bX)(a b:Nat):Nat:=q7 o a l xE (b-a)
def ui(o:bX->Nat->Nat->Nat)(a b:Nat)(n:Nat):List aM.Prod->Nat
 |[]=>0
 |p::r=>(if p.1=(n:Int)then sd o p.2 a b else 0)+ui o a b n r
def lh(o:bX->Nat->Nat->Nat)(l:List aM.Prod)(a b n:Nat):Nat:=min 2 (ui o a b n l)
def l_(len:Nat)(f:Nat->Nat):List Nat:=(eu len).map f
theorem zV(len:Nat)(f:Nat->Nat):(l_ len f).length=len:=by simp[l_]
theorem Ke{len:Nat}(f:Nat->Nat){k:Nat}(h:k<len):(l_ len f)[k]?=ah (f k):=by simp[l_,h]
theorem ac9{len:Nat}(f g:Nat->Nat)(k v:Nat)(h:∀i,i<len->g i=if i=k then v else f i):(l_ len f).set k v=l_ len g:=by
 apply mq;intro i;rw[EK]
 by_cases hi:i<len
 ·rw[Ke g hi,h i hi]
  by_cases e:k=i
  subst e;simp[zV,hi];rw[if_neg e,if_neg (fun e'=>e e'.symm),Ke f hi]
 have h1:(l_ len g)[i]?=none:=ii (by rw[zV];omega);have h2:(l_ len f)[i]?=none:=ii (by rw[zV];omega);rw[h1,h2]
 by_cases e:k=i
 subst e;simp[zV,hi];rw[if_neg e]
theorem Ie{len:Nat}{f g:Nat->Nat}(h:∀i,i<len->f i=g i):l_ len f=l_ len g:=by
 unfold l_;apply Y';intro i hi;exact h i (by simpa using hi)
theorem pE(f:Nat->Nat):∀k,(∀j,j<k->f j=0)->eJ f k=0
 |0,_=>rfl
 |k+1,h=>by rw[eJ,pE f k fun j hj=>h j J,h k J]
theorem EW(o:Nat->Nat->Nat)(f:Nat->Nat)(b:Nat):kf o f b<=2:=P' ..
theorem ML(o:Nat->Nat->Nat)(f:Nat->Nat)(i b:Nat):kE o f i b<=2:=P' ..
theorem ac_(o:Nat->Nat->Nat)(f:Nat->Nat)(b:Nat):kE o f 0 b=0:=by simp[kE,eJ]
theorem Bx(o:Nat->Nat->Nat)(f:Nat->Nat){i b:Nat}(h:b<i):kE o f i b=kf o f b:=by
 unfold kE kf;have e:min i (b+1)=b+1:=by omega
 rw[e]
theorem EX(o:Nat->Nat->Nat)(f:Nat->Nat){i b:Nat}(h:i<=b):kE o f (i+1) b=min (kE o f i b+f i*o i b) 2:=by
 unfold kE;have e1:min (i+1) (b+1)=i+1:=by omega
 have e2:min i (b+1)=i:=by omega
 rw[e1,e2,eJ];omega
theorem EY(o:Nat->Nat->Nat)(f:Nat->Nat){i b:Nat}(h:b<i):kE o f (i+1) b=kE o f i b:=by
 rw[Bx o f h,Bx o f J]
theorem Qi(o:Nat->Nat->Nat)(f:Nat->Nat){i:Nat}(h:f i=0)(b:Nat):kE o f (i+1) b=kE o f i b:=by
 by_cases c:i<=b
 ·rw[EX o f c,h,Bc]
  have:=ML o f i b;omega
 exact EY o f J
def zW(o:Nat->Nat->Nat)(f:Nat->Nat)(i b:Nat):Nat->Nat:=fun j=>if j<b then kE o f (i+1) j else kE o f i j
theorem af'(o:Nat->Nat->Nat)(f:Nat->Nat)(i:Nat):zW o f i i=kE o f i:=by
 funext j
 unfold zW;split;exact EY o f (by assumption);rfl
theorem Vw(o:Nat->Nat->Nat)(f:Nat->Nat){i:Nat}(h:f i=0)(b:Nat):zW o f i b=kE o f (i+1):=by
 funext j
 unfold zW;rw[Qi o f h,ite_self]
theorem ac'(o:Nat->Nat->Nat)(f:Nat->Nat)(i b:Nat):zW o f i b b=kE o f i b:=by simp[zW]
theorem Vx(o:Nat->Nat->Nat)(f:Nat->Nat)(i b j:Nat):zW o f i (b+1) j=if j=b then kE o f (i+1) b else zW o f i b j:=by
 unfold zW
 by_cases c:j=b
 subst c;rw[if_pos J,if_pos I];rw[if_neg c]
 by_cases c2:j<b
 rw[if_pos J,if_pos c2];rw[if_neg J,if_neg c2]
theorem Zy(o:Nat->Nat->Nat)(f:Nat->Nat){i b len:Nat}(h:len<=b):l_ len (zW o f i b)=l_ len (kE o f (i+1)):=Ie fun j hj=>by
 unfold zW;rw[if_pos J]
theorem ada{c:fA}(hc:∀x,c x<=2)(w:List Int)(x:bX)(a b:Nat):eo c w x a b<=2:=by
 unfold eo;split;exact hc _;split<;>omega
theorem EZ(b:Nat):xE b<=2:=by unfold xE;split<;>omega
theorem MM{o:bX->Nat->Nat->Nat}{a:Nat}:∀(l:List bX) (f:Nat->Nat),(∀b,f b<=2)->∀b,q7 o a l f b<=2
 |[],_,h,b=>h b
 |_::r,_,_,b=>MM r _ (fun b=>EW _ _ b) b
theorem adb(o:bX->Nat->Nat->Nat)(l:List bX)(a b:Nat):sd o l a b<=2:=MM l _ EZ _
theorem zX(o:bX->Nat->Nat->Nat)(l:List aM.Prod)(a b n:Nat):lh o l a b n<=2:=P' ..
theorem If(o:bX->Nat->Nat->Nat)(a b n:Nat)(p:aM.Prod):∀l,ui o a b n (l++[p])=ui o a b n l+(if p.1=(n:Int)then sd o p.2 a b else 0)
 |[]=>by simp[ui]
 |q::r=>by rw[kt,ui,ui,If o a b n p r];omega
theorem Vy(o:bX->Nat->Nat->Nat)(a b:Nat)(p:aM.Prod)(l:List aM.Prod){h:Nat}(hp:p.1=(h:Int))(n:Nat):lh o (l++[p]) a b n=if n=h then min (lh o l a b h+sd o p.2 a b) 2 else lh o l a b n:=by
 unfold lh;rw[If]
 by_cases c:n=h
 ·subst c
  rw[if_pos hp,if_pos I];omega
 rw[if_neg J,if_neg c,ji]
def gJ(c:fA)(w:List Int)(l:List aM.Prod)(bB a b:Nat)(k:Nat):fA:=fun x=>if x.2.1=(a:Int)/\x.2.2=(b:Int)/\0<=x.1/\x.1<(k:Int)/\x.1<(bB:Int)then lh (eo c w) l a b x.1.toNat else c x
def u_(c:fA)(w:List Int)(l:List aM.Prod)(a b:Nat):Nat->Bool
 |0=>aD
 |k+1=>u_ c w l a b k||!decide (c ((k:Int),(a:Int),(b:Int))=lh (eo c w) l a b k)
theorem Zz(c:fA)(w:List Int)(l:List aM.Prod)(n a b:Nat):gJ c w l n a b 0=c:=by
 funext x
 unfold gJ;rw[if_neg J]
theorem Vz(c:fA)(w:List Int)(l:List aM.Prod)(n a b k:Nat):gJ c w l n a b k ((k:Int),(a:Int),(b:Int))=c ((k:Int),(a:Int),(b:Int)):=by
 unfold gJ;rw[if_neg (by dsimp only;omega)]
theorem MN(c:fA)(w:List Int)(l:List aM.Prod){n a b k:Nat}(hk:k<n)(y:Span):gJ c w l n a b (k+1) y=if y=((k:Int),(a:Int),(b:Int))then lh (eo c w) l a b k else gJ c w l n a b k y:=by
 obtain⟨q,y1,y2⟩:=y;unfold gJ;dsimp only
 by_cases e:(q,y1,y2)=((k:Int),(a:Int),(b:Int))
 ·rw[if_pos e]
  simp only[iu]at e;obtain⟨rfl,rfl,rfl⟩:=e;rw[if_pos J,cX]
 rw[if_neg e]
 by_cases c1:y1=(a:Int)/\y2=(b:Int)/\0<=q/\q<(k:Int)/\q<(n:Int)
 rw[if_pos c1,if_pos J];rw[if_neg c1,if_neg (fun h=>?_)];have:q=(k:Int):=by omega
 exact e (by rw[this,h.1,h.2.1])
def jP(t:Int):List Int->Int
 |[]=>0
 |x::r=>if x<0 then 1 else if t<=x then 1 else jP t r
def fB(g:dF)(w:List Int):Int:=if cD g≠0 then cD g else if 20<w.length then 2 else jP g.aQ w
theorem Ig{t:Int}:∀{w:List Int},jP t w=0->∀x∈w,0<=x/\x<t
 |[],_,_,h=>by cases h
 |y::r,h,x,hx=>by
  unfold jP at h;split at h;· cases h
  split at h;· cases h
  rcases df.1 hx with rfl|hx
  omega;exact Ig h x hx
theorem ko{g:dF}{w:List Int}(h:fB g w=0):cD g=0/\w.length<=20/\∀x∈w,0<=x/\x<g.aQ:=by
 unfold fB at h;split at h;· contradiction
 split at h;· cases h
 rename_i a b
 exact⟨by simpa using a,by omega,Ig h⟩
end ee
namespace ee
open aM
theorem wU{f f':Nat->Nat}:∀k,(∀j,j<k->f j<=f' j)->eJ f k<=eJ f' k
 |0,_=>aT _
 |k+1,h=>by
  rw[eJ,eJ];exact Zg (wU k fun j hj=>h j J) (h k J)
theorem Qj{o o':Nat->Nat->Nat}{f f':Nat->Nat}{b:Nat}(ho:∀j,j<=b->o j b<=o' j b)(hf:∀j,j<=b->f j<=f' j):kf o f b<=kf o' f' b:=by
 have:=wU (f:=fun j=>f j*o j b) (f':=fun j=>f' j*o' j b) (b+1) fun j hj=>rF (hf j J) (ho j J);unfold kf;omega
theorem E0{o o':bX->Nat->Nat->Nat}{a d:Nat}:∀(l:List bX) (f f':Nat->Nat),(∀x∈l,∀i j,i<=j->j<=d->o x (a+i) (a+j)<=o' x (a+i) (a+j))->(∀j,j<=d->f j<=f' j)->∀j,j<=d->q7 o a l f j<=q7 o' a l f' j
 |[],_,_,_,hf,j,hj=>hf j hj
 |x::r,f,f',ho,hf,j,hj=>by
  rw[q7,q7];exact E0 r _ _ (fun y hy=>ho y (by simp[hy])) (fun j hj=>Qj (o:=fun i j=>o x (a+i) (a+j)) (o':=fun i j=>o' x (a+i) (a+j)) (fun i hi=>ho x (by simp) i j hi hj) fun i hi=>hf i J) j hj
theorem VA{o o':bX->Nat->Nat->Nat}{l:List bX}{a b:Nat}(se:a<=b)(ho:∀x∈l,∀i j,a<=i->i<=j->j<=b->o x i j<=o' x i j):sd o l a b<=sd o' l a b:=
 E0 (d:=b-a) l _ _ (fun x hx i j hi hj=>ho x hx (a+i) (a+j) J J J) (fun _ _=>aT _) _ (aT _)
theorem Ih{o o':bX->Nat->Nat->Nat}{a b n:Nat}:∀(l:List aM.Prod),(∀p∈l,p.1=(n:Int)->sd o p.2 a b<=sd o' p.2 a b)->ui o a b n l<=ui o' a b n l
 |[],_=>aT _
 |p::r,h=>by
  rw[ui,ui];refine Zg ?_ (Ih r fun q hq=>h q (by simp[hq]));split;exact h p (by simp) (by assumption);exact aT _
theorem VB{o o':bX->Nat->Nat->Nat}{l:List aM.Prod}{a b n:Nat}(se:a<=b)(ho:∀p∈l,∀x∈p.2,∀i j,a<=i->i<=j->j<=b->o x i j<=o' x i j):lh o l a b n<=lh o' l a b n:=by
 have:=Ih (n:=n) l fun p hp _=>VA (l:=p.2) se (ho p hp);unfold lh;omega
def rG(n:Nat)(l:List aM.Prod):Prop:=∀p∈l,∀x∈p.2,x.1=2->0<=x.2/\x.2<(n:Int)
theorem VC{c c':fA}{w:List Int}{n:Nat}{x:bX}{a b:Nat}(hx:x.1=2->0<=x.2/\x.2<(n:Int))(h:∀k,k<n->c ((k:Int),(a:Int),(b:Int))<=c' ((k:Int),(a:Int),(b:Int))):eo c w x a b<=eo c' w x a b:=by
 unfold eo;split
 ·rename_i e
  obtain⟨h1,h2⟩:=hx e;have e2:x.2=((x.2.toNat:Nat):Int):=by omega
  rw[e2];exact h _ J
 exact aT _
theorem oH{c c':fA}{w:List Int}{n:Nat}{l:List aM.Prod}(hl:rG n l){a b:Nat}(se:a<=b)(h:∀k i j,k<n->a<=i->i<=j->j<=b->c ((k:Int),(i:Int),(j:Int))<=c' ((k:Int),(i:Int),(j:Int)))(m:Nat):lh (eo c w) l a b m<=lh (eo c' w) l a b m:=
 VB se fun p hp x hx i j h1 h2 h3=>VC (hl p hp x hx) fun k hk=>h k i j hk h1 h2 h3
def C2(w:List Int)(l:List aM.Prod)(n:Nat)(S:fA):Prop:=∀k a b,k<n->a<=b->b<=w.length->lh (eo S w) l a b k<=S ((k:Int),(a:Int),(b:Int))
def VD(w:List Int)(l:List aM.Prod)(n:Nat)(c:fA)(a b:Nat):Prop:=∀k,k<n->c ((k:Int),(a:Int),(b:Int))=lh (eo c w) l a b k
structure E6(w:List Int)(l:List aM.Prod)(n:Nat)(c:fA):Prop where
 le2:∀x,c x<=2
 fixed:∀a b,a<=b->b<=w.length->VD w l n c a b
 least:∀S,C2 w l n S->∀k a b,k<n->a<=b->b<=w.length->c ((k:Int),(a:Int),(b:Int))<=S ((k:Int),(a:Int),(b:Int))
structure E7(w:List Int)(l:List aM.Prod)(n:Nat)(D:Nat->Nat->Prop)(c:fA):Prop where
 le2:∀x,c x<=2
 fixed:∀a b,a<=b->b<=w.length->D a b->VD w l n c a b
 least:∀S,C2 w l n S->∀k a b,k<n->a<=b->b<=w.length->c ((k:Int),(a:Int),(b:Int))<=S ((k:Int),(a:Int),(b:Int))
 zero:∀k a b,k<n->a<=b->b<=w.length->¬D a b->c ((k:Int),(a:Int),(b:Int))=0
structure Kf(w:List Int)(l:List aM.Prod)(n:Nat)(D:Nat->Nat->Prop)(a b:Nat)(c:fA):Prop where
 le2:∀x,c x<=2
 fixed:∀i j,i<=j->j<=w.length->D i j->VD w l n c i j
 least:∀S,C2 w l n S->∀k i j,k<n->i<=j->j<=w.length->c ((k:Int),(i:Int),(j:Int))<=S ((k:Int),(i:Int),(j:Int))
 zero:∀k i j,k<n->i<=j->j<=w.length->¬D i j->¬(i=a/\j=b)->c ((k:Int),(i:Int),(j:Int))=0
 grow:∀k,k<n->c ((k:Int),(a:Int),(b:Int))<=lh (eo c w) l a b k
section
variable{w:List Int}{l:List aM.Prod}{n:Nat}{D D':Nat->Nat->Prop}{a b:Nat}{c:fA}
theorem E7.begin(h:E7 w l n D c)(se:a<=b)(hb:b<=w.length)(hD:¬D a b):Kf w l n D a b c:=
 ⟨h.le2,h.fixed,h.least,fun k i j hk h1 h2 h3 _=>h.zero k i j hk h1 h2 h3,fun k hk=>by rw[h.zero k a b hk se hb hD];exact bC _⟩
theorem Kf.done(h:Kf w l n D a b c)(hf:VD w l n c a b)(hD:∀i j,i<=j->j<=w.length->(D' i j↔D i j\/(i=a/\j=b))):E7 w l n D' c:=
 ⟨h.le2,fun i j h1 h2 h3=>((hD i j h1 h2).1 h3).elim (h.fixed i j h1 h2) fun⟨e1,e2⟩=>by subst e1 e2;exact hf,h.least,fun k i j hk h1 h2 h3=>by
  have:¬(D i j\/(i=a/\j=b)):=fun h=>h3 ((hD i j h1 h2).2 h);exact h.zero k i j hk h1 h2 (fun h=>this (.inl h)) fun h=>this (.inr h)⟩
theorem E7.same(h:E7 w l n D c)(hD:∀i j,i<=j->j<=w.length->(D' i j↔D i j)):E7 w l n D' c:=
 ⟨h.le2,fun i j h1 h2 h3=>h.fixed i j h1 h2 ((hD i j h1 h2).1 h3),h.least,fun k i j hk h1 h2 h3=>h.zero k i j hk h1 h2 fun h=>h3 ((hD i j h1 h2).2 h)⟩
theorem E7.lfp(h:E7 w l n D c)(hD:∀i j,i<=j->j<=w.length->D i j):E6 w l n c:=
 ⟨h.le2,fun i j h1 h2=>h.fixed i j h1 h2 (hD i j h1 h2),h.least⟩
theorem afE:E7 w l n (fun i j=>j-i<0) (fun _=>0):=
 ⟨fun _=>by omega,fun _ _ _ _ h=>by omega,fun _ _ _ _ _ _ _ _=>bC _,fun _ _ _ _ _ _ _=>rfl⟩
theorem pF{k:Nat}(hk:k<n):gJ c w l n a b n ((k:Int),(a:Int),(b:Int))=lh (eo c w) l a b k:=by
 unfold gJ;rw[if_pos (by dsimp only;omega),cX]
theorem nZ{k i j:Nat}(h:¬(i=a/\j=b)):gJ c w l n a b n ((k:Int),(i:Int),(j:Int))=c ((k:Int),(i:Int),(j:Int)):=by
 unfold gJ;rw[if_neg (by dsimp only;omega)]
theorem VE(h:∀x,c x<=2)(x:Span):gJ c w l n a b n x<=2:=by
 unfold gJ;split;exact zX _ _ _ _ _;exact h x
theorem E8(h:Kf w l n D a b c){k i j:Nat}(hk:k<n):c ((k:Int),(i:Int),(j:Int))<=gJ c w l n a b n ((k:Int),(i:Int),(j:Int)):=by
 by_cases e:i=a/\j=b
 ·obtain⟨rfl,rfl⟩:=e
  rw[pF hk];exact h.grow k hk
 rw[nZ e];exact aT _
theorem VF(hl:rG n l)(h:Kf w l n D a b c)(se:a<=b)(hb:b<=w.length)(hD:∀i j,D i j->¬(i<=a/\b<=j)):Kf w l n D a b (gJ c w l n a b n):=by
 refine⟨VE h.le2,fun i j h1 h2 h3=>?_,fun S hS k i j hk h1 h2=>?_,fun k i j hk h1 h2 h3 h4=>?_,fun k hk=>?_⟩
 ·intro k hk
  have hne:¬(i=a/\j=b):=fun⟨e1,e2⟩=>hD i j h3 ⟨by omega,by omega⟩;rw[nZ hne,h.fixed i j h1 h2 h3 k hk];apply J6;exact oH hl h1 (fun q x y hq _ _ _=>E8 h hq) k;refine oH hl h1 (fun q x y hq h4 h5 h6=>?_) k;rw[nZ fun⟨e1,e2⟩=>hD i j h3 ⟨by omega,by omega⟩];exact aT _
 ·by_cases e:i=a/\j=b
  ·obtain⟨rfl,rfl⟩:=e
   rw[pF hk];exact eC (oH hl h1 (fun q x y hq h4 h5 h6=>h.least S hS q x y hq h5 J) k) (hS k i j hk h1 h2)
  rw[nZ e];exact h.least S hS k i j hk h1 h2
 ·rw[nZ h4]
  exact h.zero k i j hk h1 h2 h3 h4
 rw[pF hk];exact oH hl se (fun q x y hq _ _ _=>E8 h hq) k
theorem E9:∀k,u_ c w l a b k=aD->∀i,i<k->c ((i:Int),(a:Int),(b:Int))=lh (eo c w) l a b i
 |0,_,_,h=>by omega
 |k+1,h,i,hi=>by
  rw[u_,yv]at h
  by_cases e:i=k
  subst e;simpa using h.2;exact E9 k h.1 i J
theorem VG(hl:rG n l)(h:Kf w l n D a b c)(se:a<=b)(Hk:u_ c w l a b n=aD):VD w l n (gJ c w l n a b n) a b:=by
 have hf:=E9 n Hk;intro k hk;rw[pF hk];apply J6;exact oH hl se (fun q x y hq _ _ _=>E8 h hq) k;refine oH hl se (fun q x y hq h4 h5 h6=>?_) k
 by_cases e:x=a/\y=b
 ·obtain⟨rfl,rfl⟩:=e
  rw[pF hq,hf q hq];exact aT _
 rw[nZ e];exact aT _
def zY(n:Nat)(c:fA)(a b:Nat):Nat:=eJ (fun k=>2-c ((k:Int),(a:Int),(b:Int))) n
theorem ZA(n:Nat)(c:fA)(a b:Nat):zY n c a b<=2*n:=by
 unfold zY
 induction n with
 |zero=>exact aT _
 |succ k ih=>rw[eJ];omega
theorem E_(h:Kf w l n D a b c):∀k,k<=n->zY k (gJ c w l n a b n) a b<=zY k c a b/\(u_ c w l a b k=aB->zY k (gJ c w l n a b n) a b<zY k c a b)
 |0,_=>⟨aT _,fun h=>by cases h⟩
 | k+1,hk=>by
  obtain⟨ih1,ih2⟩:=E_ h k J;have hu:=h.grow k J;have h2:=zX (eo c w) l a b k;unfold zY at ih1 ih2⊢;rw[eJ,eJ,pF J,u_];refine⟨by omega,fun hc=>?_⟩;rw[lZ]at hc;rcases hc with hc|hc
  have:=ih2 hc;omega;simp only[A0,decide_eq_false_iff_not]at hc;omega
end
end ee
namespace ee
open aM
theorem E6.pre{w:List Int}{l:List aM.Prod}{n:Nat}{c:fA}(h:E6 w l n c):C2 w l n c:=fun k a b hk h1 h2=>by rw[<-h.fixed a b h1 h2 k hk];exact aT _
theorem E6.unique{w:List Int}{l:List aM.Prod}{n:Nat}{c c':fA}(h:E6 w l n c)(h':E6 w l n c'){k a b:Nat}(hk:k<n)(h1:a<=b)(h2:b<=w.length):c ((k:Int),(a:Int),(b:Int))=c' ((k:Int),(a:Int),(b:Int)):=
 J6 (h.least c' h'.pre k a b hk h1 h2) (h'.least c h.pre k a b hk h1 h2)
open Classical in
noncomputable def px(w:List Int)(l:List aM.Prod)(n:Nat):fA:=fun x=>if ∃S,C2 w l n S/\S x=0 then 0 else if ∃S,C2 w l n S/\S x=1 then 1 else 2
theorem ahG{w:List Int}{l:List aM.Prod}{n:Nat}:C2 w l n (fun _=>2):=fun _ _ _ _ _ _=>zX _ _ _ _ _
theorem tk{w:List Int}{l:List aM.Prod}{n:Nat}{S:fA}(hS:C2 w l n S)(x:Span):px w l n x<=S x:=by
 unfold px;split;omega
 rename_i h0
 split
 ·have:S x≠0:=fun e=>h0 ⟨S,hS,e⟩
  omega
 rename_i h1
 have a:S x≠0:=fun e=>h0 ⟨S,hS,e⟩;have b:S x≠1:=fun e=>h1 ⟨S,hS,e⟩;omega
theorem MO{w:List Int}{l:List aM.Prod}{n:Nat}{x:Span}{v:Nat}(h:∀S,C2 w l n S->v<=S x):v<=px w l n x:=by
 unfold px;split
 ·rename_i h0
  obtain⟨S,hS,e⟩:=h0;have:=h S hS;omega
 split
 ·rename_i h1
  obtain⟨S,hS,e⟩:=h1;have:=h S hS;omega
 exact h _ ahG
theorem MP{w:List Int}{l:List aM.Prod}{n:Nat}(hl:rG n l):C2 w l n (px w l n):=fun k a b hk h1 h2=>
 MO fun _ hS=>eC (oH hl h1 (fun _ _ _ _ _ _ _=>tk hS _) k) (hS k a b hk h1 h2)
theorem Ch{w:List Int}{l:List aM.Prod}{n:Nat}(hl:rG n l):E6 w l n (px w l n):=by
 have hp:=MP (w:=w) hl;refine⟨fun x=>tk ahG x,fun a b h1 h2 k hk=>J6 ?_ (hp k a b hk h1 h2),fun S hS k a b _ _ _=>tk hS _⟩;have hS:C2 w l n (fun x=>if 0<=x.1/\x.1<(n:Int)/\0<=x.2.1/\x.2.1<=x.2.2/\x.2.2<=(w.length:Int)then lh (eo (px w l n) w) l x.2.1.toNat x.2.2.toNat x.1.toNat else 2):=fun q i j hq h3 h4=>by
  dsimp only;rw[if_pos J,cX,cX,cX];refine oH hl h3 (fun q' i' j' zq h5 h6 h7=>?_) q;dsimp only;rw[if_pos J,cX,cX,cX];exact hp q' i' j' zq h6 J
 have:=tk hS ((k:Int),(a:Int),(b:Int));dsimp only at this;rw[if_pos J,cX,cX,cX]at this;exact this
theorem Ql{w:List Int}{l:List aM.Prod}{n:Nat}{c:fA}(hl:rG n l)(h:E6 w l n c){k a b:Nat}(hk:k<n)(h1:a<=b)(h2:b<=w.length):c ((k:Int),(a:Int),(b:Int))=px w l n ((k:Int),(a:Int),(b:Int)):=h.unique (Ch hl) hk h1 h2
theorem VH{g:dF}{n:Nat}(h:cD g=0)(hn:g.bB=n):rG n g.az:=by
 obtain⟨a1,a2,a3,a4,a5,a6⟩:=cz h;intro p hp x hx h2;have:=(a6 p hp).2.2.2 x hx;unfold right at this;rw[if_neg J,if_pos h2]at this;simp at this;omega
noncomputable def tm(g:dF)(w:List Int):Nat:=if fB g w=0 then px w g.az g.bB.toNat (0,0,(w.length:Int))else 0
theorem VI{g:dF}{w:List Int}{c:fA}(hc:fB g w=0)(h:E6 w g.az g.bB.toNat c):c (0,0,(w.length:Int))=tm g w:=by
 obtain⟨h1,h2,h3⟩:=ko hc;obtain⟨_,_,a3,_⟩:=cz h1;unfold tm;rw[if_pos hc];exact Ql (VH h1 J) h (k:=0) (a:=0) J (bC _) (aT _)
end ee
namespace ee
open aM
theorem mB{f g:Nat->Nat}:∀k,(∀j,j<k->f j=g j)->eJ f k=eJ g k
 |0,_=>rfl
 |k+1,h=>by rw[eJ,eJ,mB k fun j hj=>h j J,h k J]
theorem MQ(f g:Nat->Nat):∀k,eJ (fun j=>f j+g j) k=eJ f k+eJ g k
 |0=>rfl
 |k+1=>by rw[eJ,eJ,eJ,MQ f g k];omega
theorem MU(v:Nat)(f:Nat->Nat):∀k,eJ (fun j=>v*f j) k=v*eJ f k
 |0=>rfl
 |k+1=>by rw[eJ,eJ,MU v f k,Nat.mul_add]
theorem Ii(v:Nat)(f:Nat->Nat):∀k,eJ (fun j=>f j*v) k=eJ f k*v
 |0=>by simp[eJ]
 |k+1=>by rw[eJ,eJ,Ii v f k,Nat.add_mul]
theorem Ij(f:Nat->Nat->Nat)(m:Nat):∀k,eJ (fun i=>eJ (fun j=>f i j) m) k=eJ (fun j=>eJ (fun i=>f i j) k) m
 |0=>by rw[eJ];exact(pE _ m fun _ _=>rfl).symm
 |k+1=>by rw[eJ,Ij f m k,<-MQ];rfl
theorem Fa(f:Nat->Nat):∀k,eJ f (k+1)=f 0+eJ (fun j=>f (j+1)) k
 |0=>by simp[eJ]
 |k+1=>by rw[eJ,Fa f k,eJ];omega
theorem yC(f:Nat->Nat)(a:Nat):∀k,eJ f (a+k)=eJ f a+eJ (fun j=>f (a+j)) k
 |0=>by simp[eJ]
 |k+1=>by rw[<-jH,eJ,yC f a k,eJ];omega
theorem ZB(f:Nat->Nat){i k:Nat}(hi:i<k)(h:∀j,j<k->j≠i->f j=0):eJ f k=f i:=by
 induction k with
 |zero=>omega
 | succ k ih=>
  rw[eJ]
  by_cases e:i=k
  ·subst e
   rw[pE f i fun j hj=>h j J J,cI]
  rw[ih J fun j hj=>h j J,h k J (fun e'=>e e'.symm),ji]
theorem ZC(f:Nat->Nat->Nat)(d:Nat):eJ (fun j=>eJ (fun i=>f i j) (j+1)) (d+1)=eJ (fun i=>eJ (fun k=>f i (i+k)) (d-i+1)) (d+1):=by
 have h1:eJ (fun j=>eJ (fun i=>f i j) (j+1)) (d+1)=eJ (fun j=>eJ (fun i=>if i<=j then f i j else 0) (d+1)) (d+1):=by
  refine mB _ fun j hj=>?_;rw[show d+1=(j+1)+(d-j)by omega,yC (fun i=>if i<=j then f i j else 0)];rw[pE (fun q=>if j+1+q<=j then f (j+1+q) j else 0) _ fun q _=>if_neg J,ji];exact mB _ fun i hi=>(if_pos J).symm
 rw[h1,Ij];refine mB _ fun i hi=>?_;rw[show d+1=i+(d-i+1)by omega,yC,pE _ i fun j hj=>if_neg J,cI];exact mB _ fun k _=>if_pos J
def tp(o:bX->Nat->Nat->Nat):List bX->Nat->Nat->Nat
 |[],a,b=>if a=b then 1 else 0
 |x::r,a,b=>eJ (fun i=>o x a (a+i)*tp o r (a+i) b) (b-a+1)
theorem Tm(f g:Nat->Nat):∀k,(∀j,j<k->min 2 (f j)=min 2 (g j))->min 2 (eJ f k)=min 2 (eJ g k)
 |0,_=>rfl
 |k+1,h=>by
  have h1:=Tm f g k fun j hj=>h j J;have h2:=h k J;rw[eJ,eJ];omega
theorem ade(u v:Nat):min 2 (min 2 u*v)=min 2 (u*v):=by
 by_cases h:u<=2
 ·have e:min 2 u=u:=by omega
  rw[e]
 have e:min 2 u=2:=by omega
 rw[e]
 by_cases hv:v=0
 subst hv;simp;have:2<=2*v:=by omega
 have h2:2*v<=u*v:=Nat.mul_le_mul_right v J;omega
theorem Tn(o:bX->Nat->Nat->Nat)(a:Nat):∀(l:List bX) (f:Nat->Nat) (d:Nat),(∀j,f j<=2)->q7 o a l f d=min 2 (eJ (fun i=>f i*tp o l (a+i) (a+d)) (d+1))
 | [],f,d,h=>by
  rw[q7,ZB _ (show d<d+1 by omega) fun j _ hj=>by rw[tp,if_neg J,Nat.mul_zero],tp,if_pos I,kQ];have:=h d;omega
 | x ::r,f,d,h=>by
  rw[q7,Tn o a r _ d (EW _ _)];have h1:min 2 (eJ (fun i=>kf (fun i j=>o x (a+i) (a+j)) f i*tp o r (a+i) (a+d)) (d+1))=min 2 (eJ (fun j=>eJ (fun i=>f i*o x (a+i) (a+j)*tp o r (a+j) (a+d)) (j+1)) (d+1)):=Tm _ _ _ fun j _=>by
   rw[Ii];exact ade _ _
  rw[h1,ZC (fun i j=>f i*o x (a+i) (a+j)*tp o r (a+j) (a+d))]
  congr 1
  refine mB _ fun i hi=>?_;rw[tp,<-MU,show a+d-(a+i)=d-i by omega];refine mB _ fun k _=>?_;rw[Nat.mul_assoc,jH]
theorem Kg(o:bX->Nat->Nat->Nat)(l:List bX){a b:Nat}(h:a<=b):sd o l a b=min 2 (tp o l a b):=by
 unfold sd;rw[Tn o a l xE _ EZ,Fa];rw[pE (fun j=>xE (j+1)*tp o l (a+(j+1)) (a+(b-a))) _ fun j _=>by simp[xE]];rw[show a+(b-a)=b by omega];simp[xE]
theorem Ik{t:Int}:∀{w:List Int},(∀x∈w,0<=x/\x<t)->jP t w=0
 |[],_=>rfl
 |y::r,h=>by
  have:=h y (by simp);unfold jP;rw[if_neg J,if_neg J];exact Ik fun x hx=>h x (by simp[hx])
end ee
namespace ee
open aM dN
def iR(n:Nat)(l:List aM.Prod):Prop:=∀p∈l,0<=p.1/\p.1<(n:Int)/\∀x∈p.2,x.1=1\/(x.1=2/\0<=x.2/\x.2<(n:Int))
theorem pG{g:dF}{n:Nat}(h:cD g=0)(hn:g.bB=n):iR n g.az:=fun p hp=>by
 obtain⟨_,_,_,_,_,a6⟩:=cz h;obtain⟨b1,b2,b3,b4⟩:=a6 p hp;refine⟨b2,by omega,fun x hx=>?_⟩;have:=b4 x hx;unfold right at this;split at this;exact .inl (by assumption);split at this;simp at this;exact .inr ⟨by assumption,by omega,by omega⟩;simp at this
theorem iR.bB{n:Nat}{l:List aM.Prod}(h:iR n l):rG n l:=fun p hp x hx h2=>by
 rcases(h p hp).2.2 x hx with h|h
 omega;exact h.2
theorem adf(f:Nat->Nat){i k:Nat}(h:i<k):f i<=eJ f k:=by
 induction k with
 |zero=>omega
 |succ k ih=>
  rw[eJ]
  by_cases e:i=k
  subst e;omega;have:=ih J;omega
theorem To(o:bX->Nat->Nat->Nat)(a b n:Nat){p:aM.Prod}:∀{l:List aM.Prod},p∈l->p.1=(n:Int)->sd o p.2 a b<=ui o a b n l
 |q::r,h,hp=>by
  rw[ui];rcases df.1 h with rfl|h
  rw[if_pos hp];omega;have:=To o a b n h hp;omega
theorem fV{l:List aM.Prod}{p:Int}(h0:0<=p)(h:p<(l.length:Int)):bJ l p∈l:=by
 unfold bJ;rw[bD,bm J];exact bV _
def ef(l:List aM.Prod)(t:Tree)(x:bX):List Int:=if t.prod<0 then [x.2]else fU l t
theorem me(l:List aM.Prod)(t:Tree)(r:List Tree)(y:bX)(b:List bX):gi l (t::r) (y::b)=ef l t y++gi l r b:=by
 obtain⟨p,k,ks⟩:=t;exact Cg l p k ks r y b
theorem pY{l:List aM.Prod}{t:Tree}{x:bX}{u:Nat}(h:eH l t x u):(ef l t x).length=leaves t:=by
 unfold ef;split
 ·obtain⟨p,k,ks⟩:=t
  rw[leaves,if_pos (by assumption)];rfl
 exact wT h J
section
end
mutual
theorem Fb{g:dF}(h:cD g=0):∀{t:Tree} {x:bX} {u:Nat},eH g.az t x u->0<=t.prod->∀y∈fU g.az t,0<=y/\y<g.aQ
 | .mk p k kids,x,u,hr,hp,y,hy=>by
  have hp:0<=p:=hp;rw[eH]at hr;rw[jy]at hy;rcases hr with⟨_,e,_⟩|⟨_,a2,a3,_,_,a6⟩
  omega;exact Il h a6 (((cz h).2.2.2.2.2 _ (fV a2 a3)).2.2.2) y hy
theorem Il{g:dF}(h:cD g=0):∀{ks:List Tree} {b:List bX} {u:Nat},dl g.az ks b u->(∀x∈b,right g.aQ g.bB x=aB)->∀y∈gi g.az ks b,0<=y/\y<g.aQ
 |[],[],_,_,_,y,hy=>by simp[gi,nE]at hy
 | .mk p k kk::r,x::b,u,hr,hb,y,hy=>by
  rw[dl]at hr;rw[me,gH]at hy;rcases hy with hy|hy
  ·unfold ef at hy
   by_cases c:p<0
   ·rw[if_pos (show(Tree.mk p k kk).prod<0 from c)]at hy
    simp only[df,fI,or_false]at hy;subst hy;have h1:=hr.1;rw[eH]at h1;have hx:=hb x (by simp);unfold right at hx;rcases h1 with⟨e,_⟩|⟨_,e,_⟩
    rw[if_pos e]at hx;simp at hx;omega;omega
   rw[if_neg (show ¬(Tree.mk p k kk).prod<0 from c)]at hy;exact Fb h hr.1 (by show 0<=p;omega) y hy
  exact Il h hr.2 (fun z hz=>hb z (by simp[hz])) y hy
 |[],_::_,_,hr,_,_,_=>by simp[dl]at hr
 |_::_,[],_,hr,_,_,_=>by simp[dl]at hr
end
end ee
namespace ee
open aM dN
def aga(o:bX->Nat->Nat->Nat)(y:bX)(r:List bX)(a b m:Nat):Bool:=decide (0<o y a m)&&decide (0<sd o r m b)
section
variable{o:bX->Nat->Nat->Nat}{l:List aM.Prod}{x:bX}{a b:Nat}
theorem MV{f:Nat->Nat}:∀{k:Nat},0<eJ f k->∃i,i<k/\0<f i
 |0,h=>by simp[eJ]at h
 | k+1,h=>by
  rw[eJ]at h
  by_cases c:0<f k
  exact⟨k,by omega,c⟩;obtain⟨i,h1,h2⟩:=MV (f:=f) (k:=k) J;exact⟨i,by omega,h2⟩
theorem adg{y:bX}{r:List bX}(se:a<=b)(h:0<sd o (y::r) a b):∃m,a<=m/\m<=b/\aga o y r a b m=true:=by
 rw[Kg _ _ se,tp]at h;obtain⟨i,h1,h2⟩:=MV (f:=fun i=>o y a (a+i)*tp o r (a+i) b) (k:=b-a+1) J;have h2:0<o y a (a+i)*tp o r (a+i) b:=h2;refine⟨a+i,by omega,by omega,?_⟩;unfold aga;rw[Kg _ _ (by omega:a+i<=b)];rw[ff,decide_eq_true_iff,decide_eq_true_iff];exact⟨Nat.pos_of_mul_pos_right h2,by have:=Nat.pos_of_mul_pos_left h2;omega⟩
theorem MW{n:Nat}:∀{l:List aM.Prod},0<ui o a b n l->∃k,k<l.length/\(bJ l (k:Int)).1=(n:Int)/\0<sd o (bJ l (k:Int)).2 a b
 |[],h=>by simp[ui]at h
 | p ::r,h=>by
  rw[ui]at h
  by_cases c:p.1=(n:Int)/\0<sd o p.2 a b
  exact⟨0,by simp,c.1,c.2⟩;have:0<ui o a b n r:=by
   by_cases c1:p.1=(n:Int)
   ·rw[if_pos c1]at h
    have:¬0<sd o p.2 a b:=fun h=>c ⟨c1,h⟩;omega
   rw[if_neg c1]at h;omega
  obtain⟨k,h1,h2,h3⟩:=MW this;exact⟨k+1,by simpa using h1,h2,h3⟩
theorem yD{k:Nat}(h:k<l.length):bJ l (k:Int)=l[k]:=by
 unfold bJ;rw[cX,bD,bm h];rfl
end
section
end
end ee
namespace dx
open aM
def fC(l:List Bool)(i:Nat)(b:Bool):List Bool×Bool:=if b=aB/\l.getD i aD=aD then(l.set i aB,aB)else(l,aD)
def iY(l:List Bool)(body:List bX)(aQ:Bool):Bool:=body.all fun x=>if x.1=1 then aQ else if x.1=2 then l.getD x.2.toNat aD else aB
def mR(l:List Nat)(i:Nat)(b:Nat):List Nat×Bool:=(l.set i (l.getD i 0|||b),!decide ((l.getD i 0|||b)=l.getD i 0))
def ix(E:List Bool)(F:List Nat)(behind:Nat):List bX->Nat->Nat
 |[],out=>out|||behind
 |x::r,out=>if x.1=1 then out|||2^x.2.toNat else if E.getD x.2.toNat aD=aB then ix E F behind r (out|||F.getD x.2.toNat 0)else out|||F.getD x.2.toNat 0
def eE(E:List Bool)(F:List Nat)(body:List bX)(behind:Nat):Nat:=ix E F behind body 0
theorem n0(l:List Bool)(i:Nat)(b:Bool):(fC l i b).1.length=l.length:=by
 unfold fC;split<;>simp
theorem ZD(l:List Nat)(i:Nat)(b:Nat):(mR l i b).1.length=l.length:=by
 simp[mR]
structure FS where
 E:List Bool
 R:List Bool
 M:List Bool
 more:Bool
def sf(h:Nat)(x:bX)(R:List Bool)(more:Bool):List Bool×Bool:=if x.1=2 then((fC R x.2.toNat (R.getD h aD)).1,(fC R x.2.toNat (R.getD h aD)).2||more)else(R,more)
def kx(h:Nat):List bX->List Bool->Bool->List Bool×Bool
 |[],R,more=>(R,more)
 |x::r,R,more=>kx h r (sf h x R more).1 (sf h x R more).2
def lm(p:aM.Prod)(s:FS):FS:=
 let h:=p.1.toNat
 let a:=fC s.E h (iY s.E p.2 aD)
 let b:=fC s.M h (iY s.M p.2 aB)
 let c:=kx h p.2 s.R (b.2||(a.2||s.more))
 ⟨a.1,c.1,b.1,c.2⟩
def fh:List aM.Prod->FS->FS
 |[],s=>s
 |p::r,s=>fh r (lm p s)
theorem VJ(h:Nat)(x:bX)(R:List Bool)(more:Bool):(sf h x R more).1.length=R.length:=by
 unfold sf;split;exact n0 _ _ _;rfl
theorem Fc(h:Nat):∀(body:List bX) (R:List Bool) (more:Bool),(kx h body R more).1.length=R.length
 |[],_,_=>rfl
 |x::r,R,more=>by rw[kx,Fc h r,VJ]
def pZ(l:List Bool):Nat:=l.countP id
theorem MX{l:List Bool}{i:Nat}{b:Bool}(hi:i<l.length):pZ (fC l i b).1=pZ l+(if(fC l i b).2=aB then 1 else 0):=by
 unfold fC;split
 ·rename_i c
  have h0:l[i]=false:=by
   have:=c.2;rw[bD,bm hi]at this
   simpa using this
  unfold pZ;rw[List.countP_set hi];simp[h0]
 simp
end dx
namespace dx
open aM
def Qm{σ:Type}(step:σ->σ×Bool):Nat->σ->σ
 |0,s=>s
 |f+1,s=>if(step s).2=aB then Qm step f (step s).1 else(step s).1
structure zZ{σ:Type}(step:σ->σ×Bool)(ok:σ->Prop)(μ:σ->Nat):Prop where
 keep:∀s,ok s->ok (step s).1
 dec:∀s,ok s->(step s).2=aB->μ (step s).1<μ s
def fix{σ:Type}(step:σ->σ×Bool)(μ:σ->Nat)(s:σ):σ:=Qm step (μ s+1) s
section
variable{σ:Type}{step:σ->σ×Bool}{ok:σ->Prop}{μ:σ->Nat}
theorem Im(h:zZ step ok μ):∀(f g:Nat) (s:σ),ok s->μ s<f->μ s<g->Qm step f s=Qm step g s
 |0,_,_,_,h1,_=>by omega
 |_,0,_,_,_,h2=>by omega
 | f +1,g+1,s,hs,h1,h2=>by
  unfold Qm
  by_cases c:(step s).2=aB
  ·rw[if_pos c,if_pos c]
   have:=h.dec s hs c;exact Im h f g _ (h.keep s hs) J J
  rw[if_neg c,if_neg c]
theorem Kh(h:zZ step ok μ){s:σ}(hs:ok s)(c:(step s).2=aB):fix step μ s=fix step μ (step s).1:=by
 have:=h.dec s hs c;unfold fix;rw[Qm,if_pos c];exact Im h _ _ _ (h.keep s hs) J J
theorem z8{s:σ}(c:(step s).2=aD):fix step μ s=(step s).1:=by
 unfold fix;rw[Qm,if_neg (by rw[c];decide)]
theorem q8(h:zZ step ok μ):∀(k:Nat) (s:σ),ok s->μ s<=k->∃s',ok s'/\(step s').2=aD/\fix step μ s=(step s').1
 | k,s,hs,hk=>by
  by_cases c:(step s).2=aB
  ·have hd:=h.dec s hs c
   match k with
   |0=>omega
   | k+1=>
    obtain⟨s',h1,h2,h3⟩:=q8 h k (step s).1 (h.keep s hs) J;exact⟨s',h1,h2,by rw[Kh h hs c,h3]⟩
  have c':(step s).2=false:=by simpa using c
  exact⟨s,hs,c',z8 c'⟩
end
def Fe(E:List Bool)(M:List Bool)(p:aM.Prod)(F:List Nat)(more:Bool):List Nat×Bool:=
 if iY M p.2 aB=aB then((mR F p.1.toNat (eE E F p.2 0)).1,(mR F p.1.toNat (eE E F p.2 0)).2||more)else(F,more)
def pj(E M:List Bool):List aM.Prod->List Nat->Bool->List Nat×Bool
 |[],F,more=>(F,more)
 |p::r,F,more=>pj E M r (Fe E M p F more).1 (Fe E M p F more).2
def iZ(E:List Bool)(F:List Nat)(h:Nat)(x:bX)(r:List bX)(W:List Nat)(more:Bool):List Nat×Bool:=
 if x.1=2 then((mR W x.2.toNat (eE E F r (W.getD h 0))).1,(mR W x.2.toNat (eE E F r (W.getD h 0))).2||more)else(W,more)
def jj(E:List Bool)(F:List Nat)(h:Nat):List bX->List Nat->Bool->List Nat×Bool
 |[],W,more=>(W,more)
 |x::r,W,more=>jj E F h r (iZ E F h x r W more).1 (iZ E F h x r W more).2
def mL(E:List Bool)(F:List Nat):List aM.Prod->List Nat->Bool->List Nat×Bool
 |[],W,more=>(W,more)
 |p::r,W,more=>mL E F r (jj E F p.1.toNat p.2 W more).1 (jj E F p.1.toNat p.2 W more).2
def nv(l:List Nat):Nat:=(l.map fun x=>18446744073709551616-x).sum
def yE(n:Nat)(l:List Nat):Prop:=l.length=n/\∀x∈l,x<18446744073709551616
theorem py{n:Nat}{l:List Nat}(h:yE n l)(i:Nat):l.getD i 0<18446744073709551616:=by
 rw[bD]
 cases e:l[i]? with
 |none=>decide
 |some y=>exact h.2 y (List.mem_of_getElem? e)
theorem wV{x y:Nat}(hx:x<18446744073709551616)(hy:y<18446744073709551616):x|||y<18446744073709551616:=Nat.or_lt_two_pow (n:=64) hx hy
theorem Du{n:Nat}{l:List Nat}{i b:Nat}(h:yE n l)(hb:b<18446744073709551616):yE n (mR l i b).1:=by
 refine⟨by rw[ZD];exact h.1,fun x hx=>?_⟩;rcases EL hx with h1|rfl
 exact h.2 x h1;exact wV (py h i) hb
theorem Tp:∀(l:List Nat) (i:Nat) (y:Nat) (h:i<l.length),((l.set i y).map fun x=>18446744073709551616-x).sum+(18446744073709551616-l[i])=(l.map fun x=>18446744073709551616-x).sum+(18446744073709551616-y)
 |a::r,0,y,h=>by simp;omega
 |a::r,i+1,y,h=>by
  have:=Tp r i y (by simpa using h);simp at this⊢;omega
theorem Io{n:Nat}{l:List Nat}{i b:Nat}(h:yE n l)(hi:i<n)(hb:b<18446744073709551616):nv (mR l i b).1<=nv l/\((mR l i b).2=aB->nv (mR l i b).1<nv l):=by
 have hil:i<l.length:=by rw[h.1];exact hi
 have hs:=Tp l i (l.getD i 0|||b) hil;have e:l.getD i 0=l[i]:=by rw[bD,bm hil];rfl
 have h1:l[i]<=l.getD i 0|||b:=by rw[e];exact Nat.left_le_or
 have h2:=wV (py h i) hb;have h3:=h.2 _ (bV hil);unfold nv mR;dsimp only;refine⟨by omega,fun hc=>?_⟩;simp only[A0,decide_eq_false_iff_not]at hc;omega
theorem pH{E:List Bool}{F:List Nat}{n:Nat}{body:List bX}{behind:Nat}(hF:yE n F)(hb:behind<18446744073709551616)(hx:∀x∈body,x.1=1->x.2.toNat<64):eE E F body behind<18446744073709551616:=by
 have key:∀(body:List bX) (out:Nat),out<18446744073709551616->(∀x∈body,x.1=1->x.2.toNat<64)->ix E F behind body out<18446744073709551616:=by
  intro body
  induction body with
  |nil=>intro out h _;exact wV h hb
  | cons x r ih=>
   intro out h hx;unfold ix;split
   ·rename_i c
    have hp:(2:Nat)^x.2.toNat<2^64:=Zf akV (hx x (by simp) c);exact wV h (by simpa using hp)
   split;exact ih _ (wV h (py hF _)) fun y hy=>hx y (by simp[hy]);exact wV h (py hF _)
 exact key body 0 akV hx
structure C3(n:Nat)(l:List aM.Prod):Prop where
 head:∀p∈l,0<=p.1/\p.1.toNat<n
 nf:∀p∈l,∀x∈p.2,x.1=1->0<=x.2/\x.2.toNat<64
 MY:∀p∈l,∀x∈p.2,x.1≠1->x.1=2/\0<=x.2/\x.2.toNat<n
theorem wW{g:dF}{n:Nat}(h:cD g=0)(hn:g.bB=n):C3 n g.az:=by
 obtain⟨a,b,c,d,e,f⟩:=cz h;refine⟨fun p hp=>?_,fun p hp x hx kL=>?_,fun p hp x hx kL=>?_⟩;have:=f p hp;omega
 ·have:=(f p hp).2.2.2 x hx
  unfold right at this;rw[if_pos kL]at this;simp at this;omega
 have:=(f p hp).2.2.2 x hx;unfold right at this;rw[if_neg kL]at this;split at this
 ·rename_i h2
  simp at this;exact⟨h2,by omega,by omega⟩
 simp at this
theorem C3.tail{n:Nat}{p:aM.Prod}{l:List aM.Prod}(h:C3 n (p::l)):C3 n l:=
 ⟨fun q hq=>h.head q (by simp[hq]),fun q hq=>h.nf q (by simp[hq]),fun q hq=>h.MY q (by simp[hq])⟩
theorem vd{E M:List Bool}{n:Nat}:∀(l:List aM.Prod) (F:List Nat) (more:Bool),C3 n l->yE n F->yE n (pj E M l F more).1/\nv (pj E M l F more).1<=nv F/\((pj E M l F more).2=aB->more=aB\/nv (pj E M l F more).1<nv F)
 |[],F,more,_,h=>⟨h,aT _,fun c=> .inl c⟩
 | p ::r,F,more,hf,h=>by
  have hb:eE E F p.2 0<18446744073709551616:=pH h akV fun x hx kL=>(hf.nf p (by simp) x hx kL).2;have hh:=hf.head p (by simp);rw[pj];unfold Fe;split
  ·have h1:=Du (i:=p.1.toNat) h hb
   have h2:=Io h hh.2 hb;obtain⟨k1,k2,k3⟩:=vd r (mR F p.1.toNat (eE E F p.2 0)).1 ((mR F p.1.toNat (eE E F p.2 0)).2||more) hf.tail h1;refine⟨k1,eC k2 h2.1,fun c=>?_⟩;rcases k3 c with c2|c2
   ·rw[lZ]at c2
    rcases c2 with c2|c2
    exact .inr (Bn k2 (h2.2 c2));exact .inl c2
   exact .inr (jt c2 h2.1)
  exact vd r F more hf.tail h
theorem Ip{E:List Bool}{F:List Nat}{n h:Nat}(hF:yE n F)(hh:h<n):∀(body:List bX) (W:List Nat) (more:Bool),(∀x∈body,x.1=1->x.2.toNat<64)->(∀x∈body,x.1=2->x.2.toNat<n)->yE n W->yE n (jj E F h body W more).1/\nv (jj E F h body W more).1<=nv W/\((jj E F h body W more).2=aB->more=aB\/nv (jj E F h body W more).1<nv W)
 |[],W,more,_,_,hW=>⟨hW,aT _,fun c=> .inl c⟩
 | x ::r,W,more,ht,hx,hW=>by
  have hb:eE E F r (W.getD h 0)<18446744073709551616:=pH hF (py hW h) fun y hy=>ht y (by simp[hy]);have tl:=fun W more=>Ip (E:=E) hF hh r W more (fun y hy=>ht y (by simp[hy])) (fun y hy=>hx y (by simp[hy]));rw[jj];unfold iZ;split
  ·rename_i c0
   have h1:=Du (i:=x.2.toNat) hW hb;have h2:=Io hW (hx x (by simp) c0) hb;obtain⟨k1,k2,k3⟩:=tl (mR W x.2.toNat (eE E F r (W.getD h 0))).1 ((mR W x.2.toNat (eE E F r (W.getD h 0))).2||more) h1;refine⟨k1,eC k2 h2.1,fun c=>?_⟩;rcases k3 c with c2|c2
   ·rw[lZ]at c2
    rcases c2 with c2|c2
    exact .inr (Bn k2 (h2.2 c2));exact .inl c2
   exact .inr (jt c2 h2.1)
  exact tl W more hW
theorem z_{E:List Bool}{F:List Nat}{n:Nat}(hF:yE n F):∀(l:List aM.Prod) (W:List Nat) (more:Bool),C3 n l->yE n W->yE n (mL E F l W more).1/\nv (mL E F l W more).1<=nv W/\((mL E F l W more).2=aB->more=aB\/nv (mL E F l W more).1<nv W)
 |[],W,more,_,h=>⟨h,aT _,fun c=> .inl c⟩
 | p ::r,W,more,hf,h=>by
  rw[mL];obtain⟨a1,a2,a3⟩:=Ip (E:=E) hF (hf.head p (by simp)).2 p.2 W more (fun x hx h1=>(hf.nf p (by simp) x hx h1).2) (fun x hx h2=>(hf.MY p (by simp) x hx J).2.2) h;obtain⟨k1,k2,k3⟩:=z_ hF r (jj E F p.1.toNat p.2 W more).1 (jj E F p.1.toNat p.2 W more).2 hf.tail a1;refine⟨k1,eC k2 a2,fun c=>?_⟩;rcases k3 c with c2|c2
  ·rcases a3 c2 with c3|c3
   exact .inl c3;exact .inr (Bn k2 c3)
  exact .inr (jt c2 a2)
theorem Ki{E M:List Bool}{n:Nat}{l:List aM.Prod}(hf:C3 n l):zZ (fun F=>pj E M l F aD) (yE n) nv:=
 ⟨fun s hs=>(vd l s aD hf hs).1,fun s hs c=>by
  rcases(vd (E:=E) (M:=M) l s aD hf hs).2.2 c with h|h
  cases h
  exact h⟩
theorem Qn{E:List Bool}{F:List Nat}{n:Nat}{l:List aM.Prod}(hF:yE n F)(hf:C3 n l):zZ (fun W=>mL E F l W aD) (yE n) nv:=
 ⟨fun s hs=>(z_ hF l s aD hf hs).1,fun s hs c=>by
  rcases(z_ (E:=E) hF l s aD hf hs).2.2 c with h|h
  cases h
  exact h⟩
end dx
namespace dx
open aM
def VK(n:Nat)(s:FS):Prop:=s.E.length=n/\s.R.length=n/\s.M.length=n
def had(s:FS):Nat:=pZ s.E+pZ s.R+pZ s.M
def Iq(l:List aM.Prod)(s:FS):FS×Bool:=(fh l ⟨s.E,s.R,s.M,aD⟩,(fh l ⟨s.E,s.R,s.M,aD⟩).more)
theorem Ff(l:List Bool):pZ l<=l.length:=List.countP_le_length
theorem yF{l:List Bool}{i:Nat}{b:Bool}(hi:i<l.length):pZ l<=pZ (fC l i b).1/\((fC l i b).2=aB->pZ l<pZ (fC l i b).1):=by
 have:=MX (b:=b) hi;refine⟨by split at this<;>omega,fun h=>?_⟩;rw[if_pos h]at this;omega
theorem Ci{h n:Nat}:∀(body:List bX) (R:List Bool) (more:Bool),(∀x∈body,x.1=2->x.2.toNat<n)->R.length=n->pZ R<=pZ (kx h body R more).1/\((kx h body R more).2=aB->more=aB\/pZ R<pZ (kx h body R more).1)
 |[],R,more,_,_=>⟨aT _,fun c=> .inl c⟩
 | x ::r,R,more,hx,hR=>by
  rw[kx];have ih:=fun R more=>Ci (h:=h) r R more fun y hy=>hx y (by simp[hy]);unfold sf;split
  ·rename_i c0
   have hg:=yF (b:=R.getD h aD) (show x.2.toNat<R.length by rw[hR];exact hx x (by simp) c0);have hl:=n0 R x.2.toNat (R.getD h aD);generalize fC R x.2.toNat (R.getD h aD)=a at*;obtain⟨R2,m2⟩:=a;dsimp only at*;obtain⟨k1,k2⟩:=ih R2 (m2||more) J;refine⟨by omega,fun c=>?_⟩;rcases k2 c with c2|c2
   ·rw[lZ]at c2
    rcases c2 with c2|c2
    ·have:=hg.2 c2
     exact .inr J
    exact .inl c2
   exact .inr J
  exact ih R more hR
theorem MZ{n:Nat}{p:aM.Prod}{s:FS}(hp:p.1.toNat<n)(hx:∀x∈p.2,x.1=2->x.2.toNat<n)(h:VK n s):VK n (lm p s)/\had s<=had (lm p s)/\((lm p s).more=aB->s.more=aB\/had s<had (lm p s)):=by
 obtain⟨E,R,M,more⟩:=s;obtain⟨h1,h2,h3⟩:=h;unfold lm VK had;dsimp only at*;have e1:=yF (b:=iY E p.2 aD) (show p.1.toNat<E.length by omega);have e2:=n0 E p.1.toNat (iY E p.2 aD);have m1:=yF (b:=iY M p.2 aB) (show p.1.toNat<M.length by omega);have m2:=n0 M p.1.toNat (iY M p.2 aB);generalize fC E p.1.toNat (iY E p.2 aD)=a at*;generalize fC M p.1.toNat (iY M p.2 aB)=b at*;obtain⟨E2,ce⟩:=a;obtain⟨M2,cm⟩:=b;dsimp only at*;have r1:=Ci (h:=p.1.toNat) p.2 R (cm||(ce||more)) hx h2;have r2:=Fc p.1.toNat p.2 R (cm||(ce||more));generalize kx p.1.toNat p.2 R (cm||(ce||more))=c at*;obtain⟨R2,cr⟩:=c;dsimp only at*;refine⟨⟨by omega,by omega,by omega⟩,by omega,fun hc=>?_⟩;rcases r1.2 hc with h4|h4
 ·rw[lZ,lZ]at h4
  rcases h4 with h4|h4|h4
  ·have:=m1.2 h4
   exact .inr J
  ·have:=e1.2 h4
   exact .inr J
  exact .inl h4
 exact .inr J
theorem q9{n:Nat}:∀(l:List aM.Prod) (s:FS),C3 n l->VK n s->VK n (fh l s)/\had s<=had (fh l s)/\((fh l s).more=aB->s.more=aB\/had s<had (fh l s))
 |[],s,_,h=>⟨h,aT _,fun c=> .inl c⟩
 | p ::r,s,hf,h=>by
  rw[fh];obtain⟨a1,a2,a3⟩:=MZ (s:=s) (hf.head p (by simp)).2 (fun x hx h2=>(hf.MY p (by simp) x hx J).2.2) h;obtain⟨k1,k2,k3⟩:=q9 r (lm p s) hf.tail a1;refine⟨k1,by omega,fun c=>?_⟩;rcases k3 c with c2|c2
  ·rcases a3 c2 with c3|c3
   exact .inl c3;exact .inr J
  exact .inr J
theorem agb{n:Nat}{s:FS}(h:VK n s):had s<=3*n:=by
 have a:=Ff s.E;have b:=Ff s.R;have c:=Ff s.M;obtain⟨h1,h2,h3⟩:=h;unfold had;omega
def Aa(n:Nat)(s:FS):Nat:=3*n-had s
theorem yG{n:Nat}{l:List aM.Prod}(hf:C3 n l):zZ (Iq l) (VK n) (Aa n):=
 ⟨fun s hs=>(q9 l ⟨s.E,s.R,s.M,aD⟩ hf hs).1,fun s hs c=>by
  have h:=q9 l ⟨s.E,s.R,s.M,aD⟩ hf hs;have h2:=agb h.1;rcases h.2.2 c with h3|h3
  cases h3
  have e:had ⟨s.E,s.R,s.M,aD⟩=had s:=rfl;show 3*n-had (fh l ⟨s.E,s.R,s.M,aD⟩)<3*n-had s
  omega⟩
end dx
namespace dx
open aM
theorem M0(l:List Nat)(i:Nat):l.set i (l.getD i 0)=l:=by
 by_cases h:i<l.length
 ·have e:l.getD i 0=l[i]:=by rw[bD,bm h];rfl
  rw[e,List.set_getElem_self]
 rw[List.set_eq_of_length_le J]
theorem vh{E M:List Bool}:∀(l:List aM.Prod) (F:List Nat) (more:Bool),(pj E M l F more).2=aD->more=aD/\(pj E M l F more).1=F/\∀p∈l,iY M p.2 aB=aB->F.getD p.1.toNat 0|||eE E F p.2 0=F.getD p.1.toNat 0
 |[],F,more,h=>⟨h,rfl,fun p hp=>by cases hp⟩
 | p ::r,F,more,h=>by
  rw[pj]at h⊢;unfold Fe at h⊢
  by_cases c:iY M p.2 aB=aB
  ·rw[if_pos c]at h⊢
   obtain⟨h1,h2,h3⟩:=vh r _ _ h;rw[yv]at h1;have h4:F.getD p.1.toNat 0|||eE E F p.2 0=F.getD p.1.toNat 0:=by
    have:=h1.1;unfold mR at this
    simpa using this
   have h5:(mR F p.1.toNat (eE E F p.2 0)).1=F:=by
    unfold mR;dsimp only;rw[h4,M0]
   rw[h2];rw[h5]at h3⊢;refine⟨h1.2,rfl,fun q hq hc=>?_⟩;rcases df.1 hq with rfl|hq
   exact h4;exact h3 q hq hc
  rw[if_neg c]at h⊢;obtain⟨h1,h2,h3⟩:=vh r _ _ h;refine⟨h1,h2,fun q hq hc=>?_⟩;rcases df.1 hq with rfl|hq
  exact absurd hc c;exact h3 q hq hc
end dx
namespace dx
open aM dN
theorem vj{l:List Bool}{i:Nat}{b:Bool}(h:(fC l i b).2=aD):(fC l i b).1=l/\(b=aB->l.getD i aD=aB):=by
 unfold fC at h⊢;split at h
 cases h
 rename_i c
 rw[if_neg c];refine⟨rfl,fun hb=>?_⟩
 cases e:l.getD i aD
 exact absurd ⟨hb,e⟩ c;rfl
theorem tr{h:Nat}:∀(body:List bX) (R:List Bool) (more:Bool),(kx h body R more).2=aD->more=aD/\(kx h body R more).1=R/\∀x∈body,x.1=2->R.getD h aD=aB->R.getD x.2.toNat aD=aB
 |[],R,more,hm=>⟨hm,rfl,fun x hx=>by cases hx⟩
 | x ::r,R,more,hm=>by
  rw[kx]at hm⊢;unfold sf at hm⊢
  by_cases c:x.1=2
  ·rw[if_pos c]at hm⊢
   obtain⟨h1,h2,h3⟩:=tr r _ _ hm;rw[yv]at h1;obtain⟨k1,k2⟩:=vj h1.1;rw[h2];dsimp only at h3⊢;rw[k1]at h3⊢;refine⟨h1.2,rfl,fun y hy=>?_⟩;rcases df.1 hy with rfl|hy
   exact fun _=>k2;exact h3 y hy
  rw[if_neg c]at hm⊢;obtain⟨h1,h2,h3⟩:=tr r _ _ hm;refine⟨h1,h2,fun y hy=>?_⟩;rcases df.1 hy with rfl|hy
  exact fun h=>absurd h c;exact h3 y hy
structure ClosedS(l:List aM.Prod)(E R M:List Bool):Prop where
 empty:∀p∈l,iY E p.2 aD=aB->E.getD p.1.toNat aD=aB
 makes:∀p∈l,iY M p.2 aB=aB->M.getD p.1.toNat aD=aB
 reach:∀p∈l,∀x∈p.2,x.1=2->R.getD p.1.toNat aD=aB->R.getD x.2.toNat aD=aB
theorem Kj{p:aM.Prod}{s:FS}(h:(lm p s).more=aD):s.more=aD/\(lm p s).E=s.E/\(lm p s).R=s.R/\(lm p s).M=s.M/\ClosedS [p] s.E s.R s.M:=by
 unfold lm at h⊢;dsimp only at h⊢;obtain⟨h1,h2,h3⟩:=tr p.2 s.R _ h;rw[yv,yv]at h1;obtain⟨m1,m2⟩:=vj h1.1;obtain⟨e1,e2⟩:=vj h1.2.1;refine⟨h1.2.2,e1,h2,m1,⟨fun q hq=>?_,fun q hq=>?_,fun q hq=>?_⟩⟩;simp only[df,fI,or_false]at hq;subst hq;exact e2;simp only[df,fI,or_false]at hq;subst hq;exact m2;simp only[df,fI,or_false]at hq;subst hq;exact h3
theorem Ab:∀(l:List aM.Prod) (s:FS),(fh l s).more=aD->s.more=aD/\(fh l s).E=s.E/\(fh l s).R=s.R/\(fh l s).M=s.M/\ClosedS l s.E s.R s.M
 |[],s,h=>⟨h,rfl,rfl,rfl,⟨fun p hp=>(by cases hp),fun p hp=>(by cases hp),fun p hp=>(by cases hp)⟩⟩
 | p ::r,s,h=>by
  rw[fh]at h⊢;obtain⟨h1,h2,h3,h4,h5⟩:=Ab r _ h;obtain⟨k1,k2,k3,k4,k5⟩:=Kj h1;rw[k2]at h2;rw[k3]at h3;rw[k4]at h4;rw[k2,k3,k4]at h5;refine⟨k1,h2,h3,h4,⟨fun q hq=>?_,fun q hq=>?_,fun q hq=>?_⟩⟩
  ·rcases df.1 hq with rfl|hq
   exact k5.empty q (by simp);exact h5.empty q hq
  ·rcases df.1 hq with rfl|hq
   exact k5.makes q (by simp);exact h5.makes q hq
  rcases df.1 hq with rfl|hq
  exact k5.reach q (by simp);exact h5.reach q hq
theorem Qo{l:List Bool}{i k:Nat}{b:Bool}(h:l.getD k aD=aB):(fC l i b).1.getD k aD=true:=by
 unfold fC;split
 ·rw[bD]at h⊢
  rw[EK];split
  ·split
   rfl
   rename_i e1 e2
   rw[ii J]at h;cases h
  exact h
 exact h
theorem Cj{h k:Nat}:∀(body:List bX) (R:List Bool) (more:Bool),R.getD k aD=aB->(kx h body R more).1.getD k aD=aB
 |[],R,more,hk=>hk
 |x::r,R,more,hk=>by
  rw[kx];refine Cj r _ _ ?_;unfold sf;split;exact Qo hk;exact hk
theorem Ck{k:Nat}:∀(l:List aM.Prod) (s:FS),s.R.getD k aD=aB->(fh l s).R.getD k aD=aB
 |[],s,h=>h
 |p::r,s,h=>by
  rw[fh];refine Ck r _ ?_;unfold lm;exact Cj _ _ _ h
theorem tu{E:List Bool}{F:List Nat}{h:Nat}:∀(body:List bX) (W:List Nat) (more:Bool),(jj E F h body W more).2=aD->more=aD/\(jj E F h body W more).1=W/\∀pre x post,body=pre++x::post->x.1=2->W.getD x.2.toNat 0|||eE E F post (W.getD h 0)=W.getD x.2.toNat 0
 |[],W,more,hm=>⟨hm,rfl,fun pre x post e=>by simp at e⟩
 | y ::r,W,more,hm=>by
  rw[jj]at hm⊢;unfold iZ at hm⊢
  by_cases c:y.1=2
  ·rw[if_pos c]at hm⊢
   obtain⟨h1,h2,h3⟩:=tu r _ _ hm;rw[yv]at h1;have h4:W.getD y.2.toNat 0|||eE E F r (W.getD h 0)=W.getD y.2.toNat 0:=by
    have:=h1.1;unfold mR at this
    simpa using this
   have h5:(mR W y.2.toNat (eE E F r (W.getD h 0))).1=W:=by
    unfold mR;dsimp only;rw[h4,M0]
   rw[h2];dsimp only at h3⊢;rw[h5]at h3⊢;refine⟨h1.2,rfl,fun pre x post e hx=>?_⟩
   match pre,e with
   | [],e=>
    simp only[fN,fg]at e;obtain⟨rfl,rfl⟩:=e;exact h4
   | z::pre,e=>
    simp only[kt,fg]at e;exact h3 pre x post e.2 hx
  rw[if_neg c]at hm⊢;obtain⟨h1,h2,h3⟩:=tu r _ _ hm;refine⟨h1,h2,fun pre x post e hx=>?_⟩
  match pre,e with
  | [],e=>
   simp only[fN,fg]at e;obtain⟨rfl,rfl⟩:=e;exact absurd hx c
  | z::pre,e=>
   simp only[kt,fg]at e;exact h3 pre x post e.2 hx
theorem vm{E:List Bool}{F:List Nat}:∀(l:List aM.Prod) (W:List Nat) (more:Bool),(mL E F l W more).2=aD->more=aD/\(mL E F l W more).1=W/\∀p∈l,∀pre x post,p.2=pre++x::post->x.1=2->W.getD x.2.toNat 0|||eE E F post (W.getD p.1.toNat 0)=W.getD x.2.toNat 0
 |[],W,more,hm=>⟨hm,rfl,fun p hp=>by cases hp⟩
 |p::r,W,more,hm=>by
  rw[mL]at hm⊢;obtain⟨h1,h2,h3⟩:=vm r _ _ hm;obtain⟨k1,k2,k3⟩:=tu p.2 W more h1;rw[k2]at h2 h3⊢;refine⟨k1,h2,fun q hq=>?_⟩;rcases df.1 hq with rfl|hq
  exact k3;exact h3 q hq
theorem VL{l:List Nat}{i b k z:Nat}(h:(l.getD k 0).testBit z=aB):((mR l i b).1.getD k 0).testBit z=true:=by
 unfold mR;dsimp only;rw[bD,EK];split
 ·rename_i e
  subst e;split;rw[Option.getD_some,nW,h,uR]
  rename_i e2
  rw[bD,ii J]at h;simp at h
 rw[<-bD];exact h
theorem Cm{E:List Bool}{F:List Nat}{h k z:Nat}:∀(body:List bX) (W:List Nat) (more:Bool),(W.getD k 0).testBit z=aB->((jj E F h body W more).1.getD k 0).testBit z=aB
 |[],W,more,hk=>hk
 |x::r,W,more,hk=>by
  rw[jj];refine Cm r _ _ ?_;unfold iZ;split;exact VL hk;exact hk
theorem Fg{E:List Bool}{F:List Nat}{k z:Nat}:∀(l:List aM.Prod) (W:List Nat) (more:Bool),(W.getD k 0).testBit z=aB->((mL E F l W more).1.getD k 0).testBit z=aB
 |[],W,more,hk=>hk
 |p::r,W,more,hk=>by
  rw[mL];exact Fg r _ _ (Cm _ _ _ hk)
structure i_(l:List aM.Prod)(E:List Bool)(F W:List Nat)(R M:List Bool):Prop extends ClosedS l E R M where
 first:∀p∈l,iY M p.2 aB=aB->F.getD p.1.toNat 0|||eE E F p.2 0=F.getD p.1.toNat 0
 follow:∀p∈l,∀pre x post,p.2=pre++x::post->x.1=2->W.getD x.2.toNat 0|||eE E F post (W.getD p.1.toNat 0)=W.getD x.2.toNat 0
 top:R.getD 0 aD=aB
 last:(W.getD 0 0).testBit 63=aB
theorem ZE{x y z:Nat}(h:x|||y=x)(hy:y.testBit z=aB):x.testBit z=true:=by
 rw[<-h,nW,hy,EJ]
end dx
namespace dx
open aM dN ee
def p5(w:List Int)(a:Nat):Nat:=if a<w.length then(w.getD a 0).toNat else 63
theorem Cn{E:List Bool}{F:List Nat}{behind z:Nat}:∀(b:List bX) (out:Nat),out.testBit z=aB->(ix E F behind b out).testBit z=aB
 |[],out,h=>by unfold ix;rw[nW,h,uR]
 | x::r,out,h=>by
  unfold ix;split;rw[nW,h,uR];split;exact Cn r _ (by rw[nW,h,uR]);rw[nW,h,uR]
theorem wX{l:List aM.Prod}{p k:Int}{kids:List Tree}{x:bX}{u:Nat}(h:eH l (.mk p k kids) x u)(hp:0<=p):x.1≠1/\p<(l.length:Int)/\(bJ l p).1=x.2/\k=0/\dl l kids (bJ l p).2 u:=by
 rw[eH]at h;rcases h with⟨_,e,_⟩|⟨a1,_,a3,a4,a5,a6⟩
 omega;exact⟨a1,a3,a4,a5,a6⟩
theorem mC{l:List aM.Prod}{p k:Int}{kids:List Tree}{x:bX}{u:Nat}(h:eH l (.mk p k kids) x u):(x.1=1/\p= -1/\kids=[])\/(x.1≠1/\0<=p):=by
 rw[eH]at h;rcases h with⟨a,b,_,c⟩|⟨a,b,_⟩
 exact .inl ⟨a,b,c⟩;exact .inr ⟨a,b⟩
section
variable{l:List aM.Prod}{n:Nat}{E R M:List Bool}{F W:List Nat}{w:List Int}
mutual
theorem Fh(hC:i_ l E F W R M):∀{t:Tree} {x:bX} {u:Nat},eH l t x u->0<=t.prod->leaves t=0->E.getD x.2.toNat aD=aB
 | .mk p k kids,x,u,h,hp,h0=>by
  have hp:0<=p:=hp;obtain⟨a1,a2,a3,a4,a5⟩:=wX h hp;rw[leaves,if_neg J]at h0;rw[<-a3];exact hC.empty _ (fV hp a2) (yH hC a5 h0)
theorem yH(hC:i_ l E F W R M):∀{ks:List Tree} {b:List bX} {u:Nat},dl l ks b u->de ks=0->iY E b aD=aB
 |[],[],_,_,_=>rfl
 | .mk p k kk::r,y::b,u,h,h0=>by
  rw[dl]at h;rw[de]at h0;have ih:=yH hC h.2 J;unfold iY at ih⊢;rw[cV,ih,P6];rcases mC h.1 with⟨e1,e2,_⟩|⟨e1,e2⟩
  rw[leaves,if_pos J]at h0;omega;rw[if_neg e1];split;exact Fh hC h.1 e2 J;rfl
 |[],_::_,_,h,_=>by simp[dl]at h
 |_::_,[],_,h,_=>by simp[dl]at h
end
mutual
theorem M3(hC:i_ l E F W R M):∀{t:Tree} {x:bX} {u:Nat},eH l t x u->0<=t.prod->M.getD x.2.toNat aD=aB
 | .mk p k kids,x,u,h,hp=>by
  have hp:0<=p:=hp;obtain⟨a1,a2,a3,a4,a5⟩:=wX h hp;rw[<-a3];exact hC.makes _ (fV hp a2) (By hC a5)
theorem By(hC:i_ l E F W R M):∀{ks:List Tree} {b:List bX} {u:Nat},dl l ks b u->iY M b aB=aB
 |[],[],_,_=>rfl
 | .mk p k kk::r,y::b,u,h=>by
  rw[dl]at h;have ih:=By hC h.2;unfold iY at ih⊢;rw[cV,ih,P6];rcases mC h.1 with⟨e1,e2,_⟩|⟨e1,e2⟩
  rw[if_pos e1];rw[if_neg e1];split;exact M3 hC h.1 e2;rfl
 |[],_::_,_,h=>by simp[dl]at h
 |_::_,[],_,h=>by simp[dl]at h
end
theorem VM{a:Nat}{v:Int}{r:List Int}(h:w.drop a=v::r):p5 w a=v.toNat:=by
 have h1:(w.drop a)[0]?=ah v:=by rw[h];rfl
 rw[Za]at h1;have h2:=(cU.1 h1).1;unfold p5;rw[if_pos (by simpa using h2),bD];rw[ji]at h1;rw[h1];rfl
mutual
theorem M4(hC:i_ l E F W R M):∀{t:Tree} {x:bX} {u a:Nat},eH l t x u->0<=t.prod->0<leaves t->(∃r,w.drop a=fU l t++r)->(F.getD x.2.toNat 0).testBit (p5 w a)=aB
 | .mk p k kids,x,u,a,h,hp,h0,⟨r,hr⟩=>by
  have hp:0<=p:=hp;obtain⟨a1,a2,a3,a4,a5⟩:=wX h hp;rw[leaves,if_neg J]at h0;rw[<-a3];refine ZE (hC.first _ (fV hp a2) (By hC a5)) ?_;rw[jy]at hr;exact sg hC a5 ⟨r,hr⟩ 0 0 fun h=>by omega
theorem sg(hC:i_ l E F W R M):∀{ks:List Tree} {b:List bX} {u a:Nat},dl l ks b u->(∃r,w.drop a=gi l ks b++r)->∀(behind out:Nat),(de ks=0->behind.testBit (p5 w a)=aB)->(ix E F behind b out).testBit (p5 w a)=aB
 | [],[],u,a,_,_,behind,out,hb=>by
  unfold ix;rw[nW,hb (by rw[de]),EJ]
 | .mk p k kk::ks,y::b,u,a,h,⟨r,hr⟩,behind,out,hb=>by
  rw[dl]at h;rw[me,dL]at hr;unfold ix;rcases mC h.1 with⟨e1,e2,e3⟩|⟨e1,e2⟩
  ·rw[if_pos e1]
   have hx:ef l (.mk p k kk) y=[y.2]:=by unfold ef;rw[if_pos (by show p<0;omega)]
   rw[hx]at hr;rw[VM hr,nW,Ze,EJ]
  rw[if_neg e1];have hx:ef l (.mk p k kk) y=fU l (.mk p k kk):=by unfold ef;rw[if_neg (by show ¬p<0;omega)]
  rw[hx]at hr;have hlen:=wT h.1 e2
  by_cases h0:leaves (.mk p k kk)=0
  ·rw[if_pos (Fh hC h.1 e2 h0)]
   have hy:fU l (.mk p k kk)=[]:=List.eq_nil_of_length_eq_zero J;rw[hy,fN]at hr;exact sg hC h.2 ⟨r,hr⟩ behind _ fun h1=>hb (by rw[de];omega)
  have hf:=M4 hC h.1 e2 J ⟨_,hr⟩;split;exact Cn _ _ (by rw[nW,hf,EJ]);rw[nW,hf,EJ]
 |[],_::_,_,_,h,_,_,_,_=>by simp[dl]at h
 |_::_,[],_,_,h,_,_,_,_=>by simp[dl]at h
end
end
section
variable(l:List aM.Prod)(E:List Bool)(F W:List Nat)(R M:List Bool)(w:List Int)
mutual
def Ir:Tree->Nat->Prop
 | .mk p _ kids,a=>Fi kids a/\M.getD (bJ l p).1.toNat aD=aB/\R.getD (bJ l p).1.toNat aD=aB/\(W.getD (bJ l p).1.toNat 0).testBit (p5 w (a+de kids))=aB/\(if de kids=0 then E.getD (bJ l p).1.toNat aD=aB else(F.getD (bJ l p).1.toNat 0).testBit (p5 w a)=aB)
def Fi:List Tree->Nat->Prop
 |[],_=>True
 | .mk p k kk::r,a=>(p<0\/Ir (.mk p k kk) a)/\Fi r (a+leaves (.mk p k kk))
end
end
section
variable{l:List aM.Prod}{n:Nat}{E R M:List Bool}{F W:List Nat}{w:List Int}
mutual
theorem Co(hC:i_ l E F W R M)(hs:iR n l):∀{t:Tree} {x:bX} {u a:Nat},eH l t x u->0<=t.prod->R.getD x.2.toNat aD=aB->(W.getD x.2.toNat 0).testBit (p5 w (a+leaves t))=aB->(∃r,w.drop a=fU l t++r)->Ir l E F W R M w t a
 | .mk p k kids,x,u,a,h,hp,hR,hW,hr=>by
  have hm:=M3 hC h hp;have he:=fun h0=>Fh hC h hp h0;have hf:=fun h0=>M4 hC h hp h0 hr;have hp:0<=p:=hp;obtain⟨a1,a2,a3,a4,a5⟩:=wX h hp;rw[leaves,if_neg J]at hW he hf;rw[jy]at hr;rw[<-a3]at hm hR hW he hf;rw[Ir];refine⟨Is hC hs (fV hp a2) [] (by simp) a5 hR hW hr,hm,hR,hW,?_⟩;split
  ·rename_i h0;exact he h0
  rename_i h0;exact hf J
theorem Is(hC:i_ l E F W R M)(hs:iR n l){q:aM.Prod}(hq:q∈l):∀{ks:List Tree} {b:List bX} {u a:Nat} (pre:List bX),q.2=pre++b->dl l ks b u->R.getD q.1.toNat aD=aB->(W.getD q.1.toNat 0).testBit (p5 w (a+de ks))=aB->(∃r,w.drop a=gi l ks b++r)->Fi l E F W R M w ks a
 |[],[],_,_,_,_,_,_,_,_=>by rw[Fi];trivial
 | .mk p k kk::ks,y::b,u,a,pre,hb,h,hR,hW,⟨r,hr⟩=>by
  rw[dl]at h;rw[me,dL]at hr;rw[de]at hW;have hlen:=pY h.1;have pC:w.drop (a+leaves (.mk p k kk))=gi l ks b++r:=by rw[<-iQ,hr,<-hlen,P9]
  rw[Fi];refine⟨?_,Is hC hs hq (pre++[y]) (by rw[hb];simp) h.2 hR (by rw[jH];exact hW) ⟨r,pC⟩⟩;rcases mC h.1 with⟨e1,e2,e3⟩|⟨e1,e2⟩
  exact .inl J
  right
  have hy2:y.1=2:=by
   rcases(hs q hq).2.2 y (by rw[hb];simp)with h|h
   exact absurd h e1;exact h.1
  have hx:ef l (.mk p k kk) y=fU l (.mk p k kk):=by unfold ef;rw[if_neg (by show ¬p<0;omega)]
  rw[hx]at hr;refine Co hC hs h.1 e2 (hC.reach q hq y (by rw[hb];simp) hy2 hR) (ZE (hC.follow q hq pre y b hb hy2) ?_) ⟨_,hr⟩;exact sg hC h.2 ⟨r,pC⟩ _ 0 fun h0=>by rw[h0,ji]at hW;exact hW
 |[],_::_,_,_,_,_,h,_,_,_=>by simp[dl]at h
 |_::_,[],_,_,_,_,h,_,_,_=>by simp[dl]at h
end
end
end dx
namespace o8
open aM dN ee dx
mutual
inductive pI(l:List aM.Prod):bX->List Int->Prop
 |nf {x:bX} (h:x.1=1):pI l x [x.2]
 |MY {x:bX} {p:aM.Prod} {ws:List Int} (h:x.1≠1) (hp:p∈l) (hx:p.1=x.2) (hd:lJ l p.2 ws):pI l x ws
inductive lJ(l:List aM.Prod):List bX->List Int->Prop
 |nil:lJ l [] []
 |cons {y:bX} {r:List bX} {a b:List Int} (h1:pI l y a) (h2:lJ l r b):lJ l (y::r) (a++b)
end
theorem lJ.Qp{l:List aM.Prod}:∀{r r':List bX} {a b:List Int},lJ l r a->lJ l r' b->lJ l (r++r') (a++b)
 |[],_,_,_,.nil,h=>h
 |_::_,_,_,_,.cons h1 h2,h=>by rw[dL];exact .cons h1 (lJ.Qp h2 h)
theorem ZF{l:List aM.Prod}{x:bX}{a:List Int}(h:pI l x a):lJ l [x] a:=by
 have:=lJ.cons h lJ.nil
 rwa [dQ]at this
theorem ZG{l:List aM.Prod}{x:bX}{ws:List Int}(h:pI l x ws)(hx:x.1=1):ws=[x.2]:=by
 cases h with
 |nf _=>rfl
 |MY h _ _ _=>exact absurd hx h
def cut(w:List Int)(a b:Nat):List Int:=(w.drop a).take (b-a)
theorem Ac{w:List Int}{a m b:Nat}(h1:a<=m)(h2:m<=b):cut w a m++cut w m b=cut w a b:=by
 unfold cut;have e3:w.drop m=(w.drop a).drop (m-a):=by rw[iQ,show a+(m-a)=m by omega]
 rw[e3,show b-a=(m-a)+(b-m)by omega,List.take_add]
theorem M5(w:List Int)(a:Nat):cut w a a=[]:=by unfold cut;simp
theorem Kk{w:List Int}{a n:Nat}(h:n=w.length):cut w a n=w.drop a:=by
 unfold cut;rw[ig (by simp;omega)]
theorem Tq{w:List Int}{a b:Nat}(h1:a<=b)(h2:b<=w.length):(cut w a b).length=b-a:=by
 unfold cut;rw[gZ,ik];omega
theorem M6{l:List aM.Prod}{w:List Int}{o:bX->Nat->Nat->Nat}:∀(body:List bX) (a b:Nat),a<=b->(∀y∈body,∀i j,a<=i->i<=j->j<=b->0<o y i j->pI l y (cut w i j))->0<sd o body a b->lJ l body (cut w a b)
 | [],a,b,se,_,h=>by
  rw[Kg _ _ se,tp]at h;have hE:a=b:=by
   by_cases c:a=b
   exact c;rw[if_neg c]at h;omega
  subst hE;rw[M5];exact .nil
 |y::r,a,b,se,ho,h=>by
  obtain⟨m,m1,m2,m3⟩:=adg se h;unfold aga at m3;rw[ff,decide_eq_true_iff,decide_eq_true_iff]at m3;rw[<-Ac m1 m2];exact .cons (ho y (by simp) a m (aT _) m1 m2 m3.1) (M6 r m b m2 (fun z hz i j h1 h2 h3=>ho z (by simp[hz]) i j J h2 h3) m3.2)
section
variable{w:List Int}{l:List aM.Prod}{n:Nat}{c:fA}
open Classical in
theorem Ad(hc:E6 w l n c)(hs:iR n l){k a b:Nat}(hk:k<n)(se:a<=b)(hb:b<=w.length)(h:0<c ((k:Int),(a:Int),(b:Int))):pI l (2,(k:Int)) (cut w a b):=by
 have hp:C2 w l n (fun x=>if pI l (2,x.1) (cut w x.2.1.toNat x.2.2.toNat)then 2 else 0):=fun q i j hq uf hj=>by
  dsimp only;rw[cX,cX]
  by_cases cd:pI l (2,(q:Int)) (cut w i j)
  rw[if_pos cd];exact zX _ _ _ _ _;rw[if_neg cd];apply Nat.le_of_not_lt;intro h0;unfold lh at h0;obtain⟨r,r1,r2,r3⟩:=MW (Nat.lt_min.1 h0).2;have hm:=fV (l:=l) (p:=(r:Int)) J J;refine cd (.MY (by show(2:Int)≠1;decide) hm r2 (M6 _ i j uf (fun y hy i' j' h1 h2 h3 h4=>?_) r3));unfold eo at h4
  by_cases e:y.1=2
  ·rw[if_pos e]at h4
   dsimp only at h4;rw[cX,cX]at h4;split at h4
   ·rename_i hd
    obtain⟨y1,y2⟩:=y;dsimp only at e hd;subst e;exact hd
   omega
  rw[if_neg e]at h4;split at h4
  ·rename_i h5
   obtain⟨h6,h7⟩:=h5;have e1:y.1=1:=((hs _ hm).2.2 y hy).resolve_right fun h=>e h.1;obtain⟨h8,h9⟩:=cU.1 h7;have:cut w i' j'=[y.2]:=by
    unfold cut;rw[h6,show i'+1-i'=1 by omega,dJ h8,h9];rfl
   rw[this];exact .nf e1
  omega
 have:=hc.least _ hp k a b hk se hb;dsimp only at this;rw[cX,cX]at this
 by_cases cd:pI l (2,(k:Int)) (cut w a b)
 exact cd;rw[if_neg cd]at this;omega
theorem Qq(hc:E6 w l n c)(hs:iR n l){x:bX}{a b:Nat}(hx:x.1=1\/(x.1=2/\0<=x.2/\x.2<(n:Int)))(se:a<=b)(hb:b<=w.length)(h:0<eo c w x a b):pI l x (cut w a b):=by
 unfold eo at h;rcases hx with hx|⟨h2,h3,h4⟩
 ·rw[if_neg J]at h
  split at h
  ·rename_i h5
   obtain⟨h6,h7⟩:=h5;obtain⟨h8,h9⟩:=cU.1 h7;have:cut w a b=[x.2]:=by
    unfold cut;rw[h6,show a+1-a=1 by omega,dJ h8,h9];rfl
   rw[this];exact .nf hx
  omega
 rw[if_pos h2]at h;obtain⟨x1,x2⟩:=x;dsimp only at*;subst h2;have e:x2=((x2.toNat:Nat):Int):=by omega
 rw[e]at h⊢;exact Ad hc hs J se hb h
mutual
theorem yI(hc:E6 w l n c)(hs:iR n l):∀{x:bX} {ws:List Int},pI l x ws->(x.1=1\/x.1=2)->∀{a:Nat},a<=w.length->(∃r,w.drop a=ws++r)->1<=eo c w x a (a+ws.length)
 | x,_,.nf h1,_,a,ha,⟨r,hr⟩=>by
  have hcell:w[a]?=ah x.2:=by
   have:(w.drop a)[0]?=ah x.2:=by rw[hr];rfl
   rw[Za]at this;exact this
  unfold eo;rw[if_neg J,if_pos ⟨rfl,hcell⟩];exact aT _
 | x,ws,.MY (p:=p) h1 hp hx hd,fQ,a,ha,⟨r,hr⟩=>by
  obtain⟨s1,s2,s3⟩:=hs _ hp;have VN:a+ws.length<=w.length:=by
   have:=congrArg nV hr;rw[ik,bK]at this;omega
  have gv:=Cp hc hs hd (fun y hy=>(s3 y hy).imp id fun h=>h.1) ha ⟨r,hr⟩;unfold eo;rw[if_pos (fQ.resolve_left h1)];have e:x.2=((x.2.toNat:Nat):Int):=by omega
  rw[e,hc.fixed a (a+ws.length) J VN x.2.toNat J];have h1:=To (eo c w) a (a+ws.length) x.2.toNat hp J;rw[Kg _ _ J]at h1;unfold lh;omega
theorem Cp(hc:E6 w l n c)(hs:iR n l):∀{b:List bX} {ws:List Int},lJ l b ws->(∀y∈b,y.1=1\/y.1=2)->∀{a:Nat},a<=w.length->(∃r,w.drop a=ws++r)->1<=tp (eo c w) b a (a+ws.length)
 |[],_,.nil,_,a,_,_=>by rw[tp,nU,if_pos J];omega
 | y ::b,_,.cons (a:=u) (b:=s) h1 h2,hy,a,ha,⟨r,hr⟩=>by
  rw[dL]at hr;have VN:a+u.length<=w.length:=by
   have:=congrArg nV hr;rw[ik,bK]at this;omega
  have k1:=yI hc hs h1 (hy y (by simp)) ha ⟨_,hr⟩;have k2:=Cp hc hs h2 (fun z hz=>hy z (by simp[hz])) VN ⟨r,by rw[<-iQ,hr,P9]⟩;rw[tp,bK,show a+(u.length+s.length)=a+u.length+s.length by omega];have h3:=adf (fun i=>eo c w y a (a+i)*tp (eo c w) b (a+i) (a+u.length+s.length)) (i:=u.length) (k:=a+u.length+s.length-a+1) J;have h4:1*1<=eo c w y a (a+u.length)*tp (eo c w) b (a+u.length) (a+u.length+s.length):=rF k1 k2;omega
end
end
theorem VO{g:dF}{w:List Int}(h_:fB g w=0):0<tm g w↔pI g.az (2,0) w:=by
 obtain⟨hg,_,_⟩:=ko h_;obtain⟨_,_,a3,_⟩:=cz hg;have hs:=pG (n:=g.bB.toNat) hg J;have hc:=Ch (w:=w) hs.bB;unfold tm;rw[if_pos h_]
 constructor
 ·intro h
  have:=Ad hc hs (k:=0) (a:=0) (b:=w.length) J (bC _) (aT _) h;rw[Kk I]at this;exact this
 intro h;have:=yI hc hs h (.inr I) (a:=0) (bC _) ⟨[],by simp⟩;unfold eo at this;rw[if_pos I,cI]at this;exact this
section
variable{l:List aM.Prod}{E R M:List Bool}{F W:List Nat}
mutual
theorem wY(hC:i_ l E F W R M):∀{x:bX} {ws:List Int},pI l x ws->x.1≠1->M.getD x.2.toNat aD=aB
 |_,_,.nf h,h0=>absurd h h0
 |x,ws,.MY h1 hp hx hd,_=>by rw[<-hx];exact hC.makes _ hp (yJ hC hd)
theorem yJ(hC:i_ l E F W R M):∀{b:List bX} {ws:List Int},lJ l b ws->iY M b aB=aB
 |[],_,.nil=>rfl
 |y::r,_,.cons h1 h2=>by
  have ih:=yJ hC h2;unfold iY at ih⊢;rw[cV,ih,P6]
  by_cases c:y.1=1
  rw[if_pos c];rw[if_neg c,wY hC h1 c,ite_self]
end
end
def yK(l:List aM.Prod)(s:FS):Prop:=(∀i:Nat,s.E.getD i aD=aB->pI l (2,(i:Int)) [])/\∀i:Nat,s.M.getD i aD=aB->∃ws,pI l (2,(i:Int)) ws
theorem Fj{l:List aM.Prod}{E:List Bool}(h:∀i:Nat,E.getD i aD=aB->pI l (2,(i:Int)) []):∀(b:List bX),(∀x∈b,x.1=1\/(x.1=2/\0<=x.2))->iY E b aD=aB->lJ l b []
 |[],_,_=> .nil
 | y::r,hx,ha=>by
  unfold iY at ha;rw[cV,ff]at ha;have ih:=Fj h r (fun z hz=>hx z (by simp[hz])) ha.2;rcases hx y (by simp)with c|⟨c1,c2⟩
  rw[if_pos c]at ha;simp at ha;rw[if_neg J,if_pos c1]at ha;have hd:=h _ ha.1;obtain⟨y1,y2⟩:=y;dsimp only at*;subst c1;rw[oY c2]at hd;exact .cons hd ih
theorem Fk{l:List aM.Prod}{M:List Bool}(h:∀i:Nat,M.getD i aD=aB->∃ws,pI l (2,(i:Int)) ws):∀(b:List bX),(∀x∈b,x.1=1\/(x.1=2/\0<=x.2))->iY M b aB=aB->∃ws,lJ l b ws
 |[],_,_=>⟨[],.nil⟩
 | y::r,hx,ha=>by
  unfold iY at ha;rw[cV,ff]at ha;obtain⟨ws,ih⟩:=Fk h r (fun z hz=>hx z (by simp[hz])) ha.2;rcases hx y (by simp)with c|⟨c1,c2⟩
  exact⟨_,.cons (.nf c) ih⟩;rw[if_neg J,if_pos c1]at ha;obtain⟨us,hd⟩:=h _ ha.1;obtain⟨y1,y2⟩:=y;dsimp only at*;subst c1;rw[oY c2]at hd;exact⟨_,.cons hd ih⟩
theorem M7{l:List Bool}{i k:Nat}{b:Bool}(h:(fC l i b).1.getD k aD=aB):l.getD k aD=aB\/(k=i/\b=aB):=by
 unfold fC at h;split at h
 ·rename_i c
  dsimp only at h;rw[bD,EK]at h
  by_cases e:i=k
  exact .inr ⟨e.symm,c.1⟩;rw[if_neg e,<-bD]at h;exact .inl h
 exact .inl h
theorem Kl{n:Nat}{l:List aM.Prod}(hs:iR n l){p:aM.Prod}(hp:p∈l){s:FS}(h:yK l s):yK l (lm p s):=by
 obtain⟨s1,s2,s3⟩:=hs p hp;have hx:∀x∈p.2,x.1=1\/(x.1=2/\0<=x.2):=fun x hx=>(s3 x hx).imp id fun h=>⟨h.1,h.2.1⟩;unfold lm;refine⟨fun i hi=>?_,fun i hi=>?_⟩
 ·rcases M7 hi with h1|⟨h1,h2⟩
  exact h.1 i h1;subst h1;exact .MY (by show(2:Int)≠1;decide) hp J (Fj h.1 _ hx h2)
 rcases M7 hi with h1|⟨h1,h2⟩
 exact h.2 i h1;subst h1;obtain⟨ws,hw⟩:=Fk h.2 _ hx h2;exact⟨ws,.MY (by show(2:Int)≠1;decide) hp J hw⟩
theorem Ae{n:Nat}{l:List aM.Prod}(hs:iR n l):∀(r:List aM.Prod),(∀p∈r,p∈l)->∀(s:FS),yK l s->yK l (fh r s)
 |[],_,s,h=>h
 |p::r,hr,s,h=>by
  rw[fh];exact Ae hs r (fun q hq=>hr q (by simp[hq])) _ (Kl hs (hr p (by simp)) h)
end o8
namespace o8
open aM dN ee
def ae8(l:List aM.Prod)(w:List Int)(x:bX)(a b:Nat)(t:Tree):Prop:=eH l t x a/\ef l t x=cut w a b
theorem ae8.leaves{l:List aM.Prod}{w:List Int}{x:bX}{a b:Nat}{t:Tree}(h:ae8 l w x a b t)(se:a<=b)(hb:b<=w.length):leaves t=b-a:=by
 rw[<-pY h.1,h.2,Tq se hb]
section
end
section
end
end o8
namespace wZ
open aM dN ee dx o8
abbrev Cl:=Int×Int×Int×Int
def Km(T col:Nat):Nat:=if col=T then 9223372036854775808 else 2^col
section
variable(l:List aM.Prod)(may:Nat->Nat)(T:Nat)
def q_(n col i:Nat):Bool:=decide ((bJ l (i:Int)).1=(n:Int))&&!decide ((may i&&&Km T col)=0)
def fJ(n col:Nat):Nat->Int
 |0=> -1
 |k+1=>if fJ n col k<0 then(if q_ l may T n col k=aB then(k:Int)else fJ n col k)else fJ n col k
def vv(n col:Nat):Nat->List Cl->List Cl
 |0,out=>out
 |k+1,out=>if q_ l may T n col k=aB then(if fJ l may T n col k<0 then vv n col k out else vv n col k out++[((n:Int),(col:Int),fJ l may T n col k,(k:Int))])else vv n col k out
def Af(n:Nat):Nat->List Cl->List Cl
 |0,out=>out
 |c+1,out=>vv l may T n c l.length (Af n c out)
def lp:Nat->List Cl
 |0=>[]
 |n+1=>Af l may T n (T+1) (lp n)
def rowAt(n col:Nat):Int:=fJ l may T n col l.length
end
section
variable{l:List aM.Prod}{may:Nat->Nat}{T:Nat}
theorem p6(n col:Nat):∀k,-1<=fJ l may T n col k/\fJ l may T n col k<(k:Int)
 |0=>⟨by rw[fJ];omega,by rw[fJ];omega⟩
 |k+1=>by
  have:=p6 n col k;rw[fJ];split;split<;>omega;omega
theorem p7(n col:Nat):∀k,k<=l.length->0<=fJ l may T n col k->(bJ l (fJ l may T n col k)).1=(n:Int)
 |0,_,h=>by rw[fJ]at h;omega
 | k + 1,hk,h=>by
  have ih:=p7 n col k J;rw[fJ]at h⊢;split at h
  ·split at h
   ·rename_i c1 c2
    rw[if_pos c1,if_pos c2];unfold q_ at c2;rw[ff,decide_eq_true_iff]at c2;exact c2.1
   omega
  rename_i c1
  rw[if_neg c1];exact ih h
theorem Bz(n col:Nat):∀(k:Nat) (out:List Cl),vv l may T n col k out=[]->out=[]/\∀i,i<k->q_ l may T n col i=aB->fJ l may T n col k=(i:Int)
 |0,out,h=>⟨h,fun i h=>by omega⟩
 | k + 1,out,h=>by
  rw[vv]at h
  by_cases c:q_ l may T n col k=aB
  ·rw[if_pos c]at h
   by_cases c2:fJ l may T n col k<0
   ·rw[if_pos c2]at h
    obtain⟨h1,h2⟩:=Bz n col k out h;refine⟨h1,fun i hi hc=>?_⟩;rw[fJ,if_pos c2,if_pos c]
    by_cases e:i=k
    rw[e];have:=h2 i J hc;omega
   rw[if_neg c2]at h;simp at h
  rw[if_neg c]at h;obtain⟨h1,h2⟩:=Bz n col k out h;refine⟨h1,fun i hi hc=>?_⟩;have hik:i<k:=by
   by_cases e:i=k
   subst e;exact absurd hc c;omega
  have:=h2 i hik hc;rw[fJ,if_neg J];exact this
theorem It(n:Nat):∀(c:Nat) (out:List Cl),Af l may T n c out=[]->out=[]/\∀col,col<c->∀i,i<l.length->q_ l may T n col i=aB->rowAt l may T n col=(i:Int)
 |0,out,h=>⟨h,fun i h=>by omega⟩
 |c+1,out,h=>by
  rw[Af]at h;obtain⟨h1,h2⟩:=Bz n c _ _ h;obtain⟨h3,h4⟩:=It n c out h1;refine⟨h3,fun col hc i hi ae9=>?_⟩
  by_cases e:col=c
  subst e;exact h2 i hi ae9;exact h4 col J i hi ae9
theorem Iu:∀(N:Nat),lp l may T N=[]->∀n,n<N->∀col,col<T+1->∀i,i<l.length->q_ l may T n col i=aB->rowAt l may T n col=(i:Int)
 |0,_,n,h=>by omega
 |N+1,h,n,hn=>by
  rw[lp]at h;obtain⟨h1,h2⟩:=It N _ _ h
  by_cases e:n=N
  subst e;exact h2;exact Iu N h1 n J
end
def dW(T:Nat)(w:List Int)(a:Nat):Nat:=if a<w.length then(w.getD a 0).toNat else T
section
variable(l:List aM.Prod)(nx:Int->Nat->Int)
mutual
def Qr:Tree->Nat->Prop
 | .mk p _ kids,a=>nx (bJ l p).1 a=p/\M8 kids a
def M8:List Tree->Nat->Prop
 |[],_=>True
 | .mk p k kk::r,a=>(p<0\/Qr (.mk p k kk) a)/\M8 r (a+leaves (.mk p k kk))
end
end
section
end
section
variable{l:List aM.Prod}{n:Nat}{E R M:List Bool}{F W:List Nat}{w:List Int}{may:Nat->Nat}{T:Nat}
theorem adh{x b:Nat}(h:x.testBit b=aB):(x&&&2^b)≠0:=fun e=>by
 have:=congrArg (fun y=>Nat.testBit y b) e;simp only[Nat.testBit_and,h,Ze,Bool.and_self,Nat.zero_testBit]at this
 cases this
theorem adi(hw:∀x∈w,0<=x/\x<(T:Int))(a:Nat):Km T (dW T w a)=2^p5 w a:=by
 unfold Km dW p5
 by_cases c:a<w.length
 ·have:=hw _ (bV c)
  have e:w.getD a 0=w[a]:=by rw[bD,bm c];rfl
  rw[if_pos c,if_pos c,e,if_neg J]
 rw[if_neg c,if_neg c,if_pos I]
mutual
theorem ZH(hC:i_ l E F W R M)(hs:iR n l)(hT:T<=30)(hw:∀x∈w,0<=x/\x<(T:Int))(hm:∀i,i<l.length->may i=eE E F (bJ l (i:Int)).2 (W.getD (bJ l (i:Int)).1.toNat 0))(hn:∀q,q<n->∀col,col<T+1->∀i,i<l.length->q_ l may T q col i=aB->rowAt l may T q col=(i:Int)):
 ∀{t:Tree} {x:bX} {u a:Nat},eH l t x u->0<=t.prod->Ir l E F W R M w t a->(∃r,w.drop a=fU l t++r)->Qr l (fun h a=>rowAt l may T h.toNat (dW T w a)) t a
 | .mk p k kids,x,u,a,h,hp,hl,⟨r,hr⟩=>by
  have hp:0<=p:=hp;obtain⟨a1,a2,a3,a4,a5⟩:=wX h hp;rw[Ir]at hl;rw[jy]at hr;obtain⟨Hl,_,_,hW,_⟩:=hl;obtain⟨pn,rfl⟩:∃pn:Nat,p=pn:=⟨p.toNat,by omega⟩;have xF:pn<l.length:=by omega
  obtain⟨s1,s2,s3⟩:=hs _ (fV hp a2);rw[Qr];refine⟨hn _ J _ ?_ pn xF ?_,Tr hC hs hT hw hm hn a5 Hl ⟨r,hr⟩⟩
  ·unfold dW
   split
   ·rename_i c
    have:=hw _ (bV c);have e:w.getD a 0=w[a]:=by rw[bD,bm c];rfl
    rw[e];omega
   omega
  unfold q_;rw[ff,decide_eq_true_iff];refine⟨by omega,?_⟩;have hb:=sg hC a5 ⟨r,hr⟩ (W.getD (bJ l (pn:Int)).1.toNat 0) 0 fun h0=>by rw[h0,ji]at hW;exact hW
  rw[adi hw,hm pn xF];have:=adh hb;unfold eE
  simpa using this
theorem Tr(hC:i_ l E F W R M)(hs:iR n l)(hT:T<=30)(hw:∀x∈w,0<=x/\x<(T:Int))(hm:∀i,i<l.length->may i=eE E F (bJ l (i:Int)).2 (W.getD (bJ l (i:Int)).1.toNat 0))(hn:∀q,q<n->∀col,col<T+1->∀i,i<l.length->q_ l may T q col i=aB->rowAt l may T q col=(i:Int)):
 ∀{ks:List Tree} {b:List bX} {u a:Nat},dl l ks b u->Fi l E F W R M w ks a->(∃r,w.drop a=gi l ks b++r)->M8 l (fun h a=>rowAt l may T h.toNat (dW T w a)) ks a
 |[],[],_,_,_,_,_=>by rw[M8];trivial
 | .mk p k kk::ks,y::b,u,a,h,hl,⟨r,hr⟩=>by
  rw[dl]at h;rw[Fi]at hl;rw[me,dL]at hr;have hlen:=pY h.1;have pC:w.drop (a+leaves (.mk p k kk))=gi l ks b++r:=by rw[<-iQ,hr,<-hlen,P9]
  rw[M8];refine⟨?_,Tr hC hs hT hw hm hn h.2 hl.2 ⟨r,pC⟩⟩
  by_cases c:p<0
  exact .inl c;have hx:ef l (.mk p k kk) y=fU l (.mk p k kk):=by unfold ef;rw[if_neg (show ¬(Tree.mk p k kk).prod<0 from c)]
  rw[hx]at hr;exact .inr (ZH hC hs hT hw hm hn h.1 (by show 0<=p;omega) (hl.1.resolve_left c) ⟨_,hr⟩)
 |[],_::_,_,_,h,_,_=>by simp[dl]at h
 |_::_,[],_,_,h,_,_=>by simp[dl]at h
end
end
end wZ
namespace dN
open aM
def ZI:Zx->bX
 | .ahead p=>(1,p)
 | .leaf _ q=>(2,q)
 | .behind p=>(3,p)
def evU:Zx->Option bX
 | .ahead _=>aj
 | .leaf _ q=>ah (2,q)
 | .behind p=>ah (4,p)
def xG(l:List aM.Prod)(t:Tree):List bX:=(dG l t).map ZI
def upE(l:List aM.Prod)(t:Tree):List bX:=(dG l t).filterMap evU
end dN
namespace dN
open aM
def sh(l:List aM.Prod)(t:Tree):List bX:=if t.prod<0 then [(2,t.tok)]else xG l t
theorem adj(l:List aM.Prod)(p k:Int)(kids:List Tree):dG l (.mk p k kids)= .ahead p::(nE l kids (bJ l p).2++[.behind p]):=by rw[dG]
theorem Fl(l:List aM.Prod)(t:Tree)(y:bX)(r:List Tree)(b:List bX):(nE l (t::r) (y::b)).map ZI=sh l t++(nE l r b).map ZI:=by
 obtain⟨p,k,kids⟩:=t;rw[nE];unfold sh xG;show P_ ZI _=(if p<0 then _ else _)++_
 split;simp[ZI,Tree.tok];simp
end dN
namespace gK
open aM dN ee dx o8 wZ
inductive TD where
 |sym (x:bX)
 |close (p:Int)
def bL:List TD->List bX->Nat->List TD×List bX×Nat×Bool
 |[],out,a=>([],out,a,aB)
 | .sym x::r,out,a=>(.sym x::r,out,a,aB)
 | .close p::r,out,a=>if a+1<=2000 then bL r (out++[(3,p)]) (a+1)else(r,out++[(3,p)],a+1,aD)
def opened(l:List aM.Prod)(p:Int)(r:List TD):List TD:=(bJ l p).2.map .sym++ .close p::r
def fW(l:List aM.Prod)(nx:Int->Int):Nat->List TD->List bX->Nat->List TD×List bX×Nat×Int
 |0,st,out,a=>(st,out,a,14)
 | f +1,st,out,a=>
  if(bL st out a).2.2.2=aD then((bL st out a).1,(bL st out a).2.1,(bL st out a).2.2.1,14)else
  match(bL st out a).1 with
  | .sym x::r=>
   if x.1=1 then((bL st out a).1,(bL st out a).2.1,(bL st out a).2.2.1,0)
   else if nx x.2<0 then((bL st out a).1,(bL st out a).2.1,(bL st out a).2.2.1,13)
   else if(bL st out a).2.2.1+1<=2000/\(opened l (nx x.2) r).length<=60 then fW l nx f (opened l (nx x.2) r) ((bL st out a).2.1++[(1,nx x.2)]) ((bL st out a).2.2.1+1)
   else(opened l (nx x.2) r,(bL st out a).2.1++[(1,nx x.2)],(bL st out a).2.2.1+1,14)
  |_=>((bL st out a).1,(bL st out a).2.1,(bL st out a).2.2.1,0)
def iB(l:List aM.Prod)(nx:Int->Int)(st:List TD)(seen:Nat)(t:Int):Int×List TD×List bX:=
 match fW l nx 2001 st [] 0 with
 | (st1,fv,a1,e)=>
  if e≠0 then(e,[],[])else
  match st1 with
  | .sym x::r=>if x.2≠t then(13,[],[])else if a1+1<=2000/\(bL r (fv++[(2,(seen:Int))]) (a1+1)).2.2.2=aB then(0,(bL r (fv++[(2,(seen:Int))]) (a1+1)).1,(bL r (fv++[(2,(seen:Int))]) (a1+1)).2.1)else(14,[],[])
  |_=>(13,[],[])
def tv(l:List aM.Prod)(nx:Int->Int)(st:List TD):Int×List bX:=
 match fW l nx 2001 st [] 0 with
 |(st1,fv,_,e)=>if e≠0 then(e,[])else match st1 with|[]=>(0,fv)|_=>(13,[])
def ja(l:List aM.Prod)(nx:Int->Nat->Int)(T:Nat):List Int->List TD->Nat->List bX->List bX×Nat×Int
 |[],st,a,out=>(out++(tv l (fun n=>nx n T) st).2,a,(tv l (fun n=>nx n T) st).1)
 | t::r,st,a,out=>
  if(iB l (fun n=>nx n t.toNat) st a t).1≠0 then(out,a,(iB l (fun n=>nx n t.toNat) st a t).1)
  else ja l nx T r (iB l (fun n=>nx n t.toNat) st a t).2.1 (a+1) (out++(iB l (fun n=>nx n t.toNat) st a t).2.2)
inductive sN(l:List aM.Prod)(C:Int->Nat->Int->Prop):List TD->Nat->List bX->List Int->Prop
 |nil {u:Nat}:sN l C [] u [] []
 |nf {x:bX} {st:List TD} {u:Nat} {E:List bX} {w:List Int} (hx:x.1=1) (h:sN l C st (u+1) E w):sN l C (.sym x::st) u ((2,(u:Int))::E) (x.2::w)
 |close {p:Int} {st:List TD} {u:Nat} {E:List bX} {w:List Int} (h:sN l C st u E w):sN l C (.close p::st) u ((3,p)::E) w
 |opn {x:bX} {p:Int} {st:List TD} {u:Nat} {E:List bX} {w:List Int} (hx:x.1≠1) (h0:0<=p) (h1:p<(l.length:Int)) (h2:(bJ l p).1=x.2) (hc:C x.2 u p) (h:sN l C (opened l p st) u E w):sN l C (.sym x::st) u ((1,p)::E) w
section
variable{l:List aM.Prod}{C:Int->Nat->Int->Prop}
theorem yL:∀{st:List TD} {out:List bX} {a:Nat},∃E1,(bL st out a).2.1=out++E1/\∀{u E w},sN l C (bL st out a).1 u E w->sN l C st u (E1++E) w
 |[],out,a=>⟨[],by simp[bL],fun h=>h⟩
 | .sym x::r,out,a=>⟨[],by simp[bL],fun h=>h⟩
 | .close p::r,out,a=>by
  unfold bL;split
  ·obtain⟨E1,h1,h2⟩:=@yL r (out++[(3,p)]) (a+1)
   exact⟨(3,p)::E1,by rw[h1];simp,fun h=> .close (h2 h)⟩
  exact⟨[(3,p)],rfl,fun h=> .close h⟩
theorem yM:∀{st:List TD} {out:List bX} {a u:Nat} {E:List bX} {w:List Int},sN l C st u E w->∃E1 E2,E=E1++E2/\(bL st out a).2.1=out++E1/\sN l C (bL st out a).1 u E2 w
 |[],out,a,u,E,w,h=>⟨[],E,rfl,by simp[bL],h⟩
 | .sym x::r,out,a,u,E,w,h=>⟨[],E,rfl,by simp[bL],h⟩
 | .close p::r,out,a,u,E,w,h=>by
  cases h with
  | close h=>
   unfold bL;split
   ·obtain⟨E1,E2,h1,h2,h3⟩:=yM (out:=out++[(3,p)]) (a:=a+1) h
    exact⟨(3,p)::E1,E2,by rw[h1];rfl,by rw[h2];simp,h3⟩
   exact⟨[(3,p)],_,rfl,rfl,h⟩
theorem yN:∀{st:List TD} {out:List bX} {a:Nat},(bL st out a).2.2.2=aB->(bL st out a).1=[]\/∃x r,(bL st out a).1= .sym x::r
 |[],out,a,_=> .inl I
 | .sym x::r,out,a,_=> .inr ⟨x,r,rfl⟩
 | .close p::r,out,a,h=>by
  unfold bL at h⊢;split
  ·rename_i c;rw[if_pos c]at h;exact yN h
  rename_i c;rw[if_neg c]at h;cases h
theorem tw:∀{st:List TD} {out:List bX} {a:Nat},(bL st out a).1.length<=st.length/\a<=(bL st out a).2.2.1/\((bL st out a).2.2.2=aB->a<=2000->(bL st out a).2.2.1<=2000)/\(bL st out a).2.1.length+a=out.length+(bL st out a).2.2.1
 |[],out,a=>⟨aT _,aT _,fun _ h=>h,rfl⟩
 | .sym x::r,out,a=>⟨aT _,aT _,fun _ h=>h,rfl⟩
 | .close p::r,out,a=>by
  unfold bL;split
  ·obtain⟨h1,h2,h3,h4⟩:=@tw r (out++[(3,p)]) (a+1)
   refine⟨by simp;omega,by omega,fun h _=>h3 h J,?_⟩;simp only[bK,cO,nU]at h4;omega
  refine⟨by simp,by simp,(fun h=>nomatch h),by simp;omega⟩
def pz(g:dF):TD->Prop
 | .sym x=>right g.aQ g.bB x=aB
 | .close p=>0<=p/\p<(g.az.length:Int)
theorem si{g:dF}:∀{st:List TD} {out:List bX} {a:Nat},(∀d∈st,pz g d)->∀d∈(bL st out a).1,pz g d
 |[],out,a,h=>h
 | .sym x::r,out,a,h=>h
 | .close p::r,out,a,h=>by
  unfold bL;split;exact si fun d hd=>h d (iI _ hd);exact fun d hd=>h d (iI _ hd)
theorem BA{g:dF}(hg:cD g=0){p:Int}(h0:0<=p)(h1:p<(g.az.length:Int)){r:List TD}(h:∀d∈r,pz g d):∀d∈opened g.az p r,pz g d:=by
 intro d hd;unfold opened at hd;rw[gH]at hd;rcases hd with hd|hd
 ·obtain⟨x,hx,rfl⟩:=eI.1 hd
  exact((cz hg).2.2.2.2.2 _ (fV h0 h1)).2.2.2 x hx
 rcases df.1 hd with rfl|hd
 exact⟨h0,h1⟩;exact h d hd
def Qs(l:List aM.Prod)(nx:Int->Int):Prop:=∀n,0<=nx n->nx n<(l.length:Int)/\((0<=n)->(bJ l (nx n)).1=n)
theorem vz{nx:Int->Int}:∀{f:Nat} {st:List TD} {out:List bX} {a:Nat},(fW l nx f st out a).2.2.2=0\/(fW l nx f st out a).2.2.2=13\/(fW l nx f st out a).2.2.2=14
 |0,st,out,a=> .inr (.inr I)
 | f +1,st,out,a=>by
  unfold fW;split;exact .inr (.inr I);split
  ·split
   exact .inl I;split;exact .inr (.inl I);split;exact vz;exact .inr (.inr I)
  exact .inl I
theorem p8{nx:Int->Int}{f:Nat}{st:List TD}{out:List bX}{a:Nat}{R:List TD×List bX×Nat×Int}(h:fW l nx (f+1) st out a=R):
    ((bL st out a).2.2.2=aD/\R.2.2.2=14)\/((bL st out a).2.2.2=aB/\
      (((bL st out a).1=[]/\R=([],(bL st out a).2.1,(bL st out a).2.2.1,0))\/
       ∃ x r,(bL st out a).1= .sym x::r/\((x.1=1/\R=(.sym x::r,(bL st out a).2.1,(bL st out a).2.2.1,0))\/(x.1≠1/\nx x.2<0/\R.2.2.2=13)\/
         (x.1≠1/\0<=nx x.2/\((((bL st out a).2.2.1+1<=2000/\(opened l (nx x.2) r).length<=60)/\fW l nx f (opened l (nx x.2) r) ((bL st out a).2.1++[(1,nx x.2)]) ((bL st out a).2.2.1+1)=R)\/R.2.2.2=14))))):=by
  unfold fW at h
  cases hc:(bL st out a).2.2.2 with
  |false=>rw[hc,if_pos I]at h;subst h;exact .inl ⟨rfl,rfl⟩
  | true=>
    rw[hc,if_neg (by simp)]at h;refine .inr ⟨rfl,?_⟩;rcases yN hc with he|⟨x,r,he⟩
    · rw[he]at h⊢
      exact .inl ⟨rfl,h.symm⟩
    rw[he]at h⊢;dsimp only at h;refine .inr ⟨x,r,rfl,?_⟩
    by_cases c1:x.1=1
    rw[if_pos c1]at h;exact .inl ⟨c1,h.symm⟩;rw[if_neg c1]at h
    by_cases c2:nx x.2<0
    rw[if_pos c2]at h;subst h;exact .inr (.inl ⟨c1,c2,rfl⟩);rw[if_neg c2]at h;refine .inr (.inr ⟨c1,by omega,?_⟩);split at h
    · rename_i c3;exact .inl ⟨c3,h⟩
    subst h;exact .inr I
theorem p_{nx:Int->Int}:∀{f:Nat} {st:List TD} {out:List bX} {a:Nat} {R:List TD×List bX×Nat×Int},fW l nx f st out a=R->R.2.2.2=0->R.1=[]\/∃x r,R.1= .sym x::r/\x.1=1
 |0,st,out,a,R,h,h0=>by subst h;cases h0
 |f+1,st,out,a,R,h,h0=>by
  rcases p8 h with⟨_,e⟩|⟨_,⟨_,rfl⟩|⟨x,r,_,⟨c,rfl⟩|⟨_,_,e⟩|⟨_,_,⟨_,e⟩|e⟩⟩⟩
  omega;exact .inl I;exact .inr ⟨x,r,rfl,c⟩;omega;exact p_ e h0;omega
theorem Ts{g:dF}(hg:cD g=0){nx:Int->Int}(hn:Qs g.az nx):∀{f:Nat} {st:List TD} {out:List bX} {a:Nat} {R:List TD×List bX×Nat×Int},fW g.az nx f st out a=R->R.2.2.2=0->(∀d∈st,pz g d)->∀d∈R.1,pz g d
 |0,st,out,a,R,h,h0,_=>by subst h;cases h0
 | f +1,st,out,a,R,h,h0,hs=>by
  have hc:=si (out:=out) (a:=a) hs;rcases p8 h with⟨_,e⟩|⟨_,⟨_,rfl⟩|⟨x,r,e1,⟨c,rfl⟩|⟨_,_,e⟩|⟨_,c,⟨_,e⟩|e⟩⟩⟩
  omega;exact fun d hd=>nomatch hd;rw[e1]at hc;exact hc;omega
  ·rw[e1]at hc
   exact Ts hg hn e h0 (BA hg c (hn _ c).1 fun d hd=>hc d (iI _ hd))
  omega
theorem Ag{nx:Int->Int}:∀{f:Nat} {st:List TD} {out:List bX} {a:Nat} {R:List TD×List bX×Nat×Int},fW l nx f st out a=R->R.2.2.2=0->st.length<=60->a<=2000->R.1.length<=60/\R.2.2.1<=2000/\R.2.1.length+a=out.length+R.2.2.1/\a<=R.2.2.1
 |0,st,out,a,R,h,h0,_,_=>by subst h;cases h0
 | f +1,st,out,a,R,h,h0,h1,h2=>by
  obtain⟨z1,z2,z3,z4⟩:=@tw st out a;rcases p8 h with⟨_,e⟩|⟨ec,⟨_,rfl⟩|⟨x,r,e1,⟨c,rfl⟩|⟨_,_,e⟩|⟨_,c,⟨cc,e⟩|e⟩⟩⟩
  omega
  ·have:=z3 ec h2
   exact⟨by simp,this,by omega,z2⟩
  ·rw[e1]at z1
   have:=z3 ec h2;exact⟨eC z1 h1,this,by omega,z2⟩
  omega
  ·obtain⟨y1,y2,y3,y4⟩:=Ag e h0 cc.2 cc.1
   rw[bK,nT]at y3;exact⟨y1,y2,by omega,by omega⟩
  omega
theorem Fm{g:dF}(hg:cD g=0){nx:Int->Int}(hn:Qs g.az nx)(hC:∀n u p,C n u p):∀{f:Nat} {st:List TD} {out:List bX} {a:Nat} {R:List TD×List bX×Nat×Int},fW g.az nx f st out a=R->R.2.2.2=0->(∀d∈st,pz g d)->∃E1,R.2.1=out++E1/\∀{u E w},sN g.az C R.1 u E w->sN g.az C st u (E1++E) w
 |0,st,out,a,R,h,h0,_=>by subst h;cases h0
 | f + 1,st,out,a,R,h,h0,hs=>by
  have hc:=si (out:=out) (a:=a) hs;obtain⟨E1,z1,z2⟩:=@yL g.az C st out a;rcases p8 h with⟨_,e⟩|⟨_,⟨e1,rfl⟩|⟨x,r,e1,⟨c,rfl⟩|⟨_,_,e⟩|⟨c0,c,⟨_,e⟩|e⟩⟩⟩
  omega;rw[e1]at z2;exact⟨E1,z1,z2⟩;rw[e1]at z2;exact⟨E1,z1,z2⟩;omega
  ·rw[e1]at hc z2
   have hx:right g.aQ g.bB x=true:=hc _ (fc ..);have hx0:0<=x.2:=by
    unfold right at hx;rw[if_neg c0]at hx;split at hx;simp at hx;exact hx.1
    cases hx
   obtain⟨E2,y1,y2⟩:=Fm hg hn hC e h0 (BA hg c (hn _ c).1 fun d hd=>hc d (iI _ hd));refine⟨E1++(1,nx x.2)::E2,by rw[y1,z1];simp,fun hr=>?_⟩;have:=z2 (.opn c0 c (hn _ c).1 ((hn _ c).2 hx0) (hC _ _ _) (y2 hr));rw[dL];exact this
  omega
theorem Fo{nx:Int->Int}{u:Nat}(hC:∀n p,C n u p->nx n=p):∀{f:Nat} {st:List TD} {out:List bX} {a:Nat} {R:List TD×List bX×Nat×Int},fW l nx f st out a=R->∀{E w},sN l C st u E w->R.2.2.2=14\/(R.2.2.2=0/\∃E1 E2,E=E1++E2/\R.2.1=out++E1/\sN l C R.1 u E2 w)
 |0,st,out,a,R,h,E,w,hr=>by subst h;exact .inl I
 | f + 1,st,out,a,R,h,E,w,hr=>by
  obtain⟨E1,E2,z1,z2,z3⟩:=yM (out:=out) (a:=a) hr;rcases p8 h with⟨_,e⟩|⟨_,⟨e1,rfl⟩|⟨x,r,e1,⟨c,rfl⟩|⟨c0,c1,e⟩|⟨c0,c,⟨_,e⟩|e⟩⟩⟩
  exact .inl e;rw[e1]at z3;exact .inr ⟨rfl,E1,E2,z1,z2,z3⟩;rw[e1]at z3;exact .inr ⟨rfl,E1,E2,z1,z2,z3⟩
  ·rw[e1]at z3
   cases z3 with
   |nf hx _=>exact absurd hx c0
   |opn hx h0 h1 h2 hc h=>rw[hC _ _ hc]at c1;omega
  ·rw[e1]at z3
   cases z3 with
   |nf hx _=>exact absurd hx c0
   | @opn _ p _ _ E3 _ hx h0 h1 h2 hc h=>
    rw[hC _ _ hc]at e;rcases Fo hC e h with e'|⟨e',E4,E5,y1,y2,y3⟩
    exact .inl e';refine .inr ⟨e',E1++(1,p)::E4,E5,by rw[z1,y1];simp,by rw[y2,z2];simp,y3⟩
  exact .inl e
theorem tA{nx:Int->Int}{st:List TD}{seen:Nat}{t:Int}{R:Int×List TD×List bX}(h:iB l nx st seen t=R):
 (R.1=13\/R.1=14)/\R.2=([],[])\/∃x r fv a1,fW l nx 2001 st [] 0=(.sym x::r,fv,a1,0)/\x.1=1/\x.2=t/\a1+1<=2000/\(bL r (fv++[(2,(seen:Int))]) (a1+1)).2.2.2=aB/\
  R=(0,(bL r (fv++[(2,(seen:Int))]) (a1+1)).1,(bL r (fv++[(2,(seen:Int))]) (a1+1)).2.1):=by
 unfold iB at h
 cases hd:fW l nx 2001 st [] 0 with
 |mk st1 R1=>
 obtain⟨fv,a1,e⟩:=R1;rw[hd]at h;dsimp only at h;have he:=@vz l nx 2001 st [] 0;rw[hd]at he;dsimp only at he
 by_cases c0:e=0
 ·subst c0
  rw[if_neg (by simp)]at h;rcases p_ hd rfl with e1|⟨x,r,e1,e2⟩
  dsimp only at e1;subst e1;subst h;exact .inl ⟨.inl I,rfl⟩;dsimp only at e1;subst e1;dsimp only at h
  by_cases c1:x.2≠t
  rw[if_pos c1]at h;subst h;exact .inl ⟨.inl I,rfl⟩;rw[if_neg c1]at h;split at h
  ·rename_i c2
   subst h;exact .inr ⟨x,r,fv,a1,rfl,e2,by simpa using c1,c2.1,c2.2,rfl⟩
  subst h;exact .inl ⟨.inr I,rfl⟩
 ·rw[if_pos c0]at h
  subst h;exact .inl ⟨by rcases he with h|h|h;exact absurd h c0;exact .inl h;exact .inr h,rfl⟩
theorem Tt{g:dF}(hg:cD g=0){nx:Int->Int}(hn:Qs g.az nx){st:List TD}{seen:Nat}{t:Int}{R:Int×List TD×List bX}(h:iB g.az nx st seen t=R)(h0:R.1=0)(hs:∀d∈st,pz g d)(hl:st.length<=60):(∀d∈R.2.1,pz g d)/\R.2.1.length<=60/\R.2.2.length<=2000:=by
 rcases tA h with⟨e|e,_⟩|⟨x,r,fv,a1,hd,_,_,h4,h5,rfl⟩
 omega;omega;have y1:=Ts hg hn hd I hs;obtain⟨y2,y3,y4,y5⟩:=Ag hd rfl hl J;obtain⟨z1,z2,z3,z4⟩:=@tw r (fv++[(2,(seen:Int))]) (a1+1);dsimp only at y1 y2 y3 y4 y5⊢;simp only[bK,cO,nU]at z4 y2 y4;have:=z3 h5 J;exact⟨si fun d hd=>y1 d (iI _ hd),by omega,by omega⟩
theorem M9{g:dF}(hg:cD g=0){nx:Int->Int}(hn:Qs g.az nx)(hC:∀n u p,C n u p){st:List TD}{seen:Nat}{t:Int}{R:Int×List TD×List bX}(h:iB g.az nx st seen t=R)(h0:R.1=0)(hs:∀d∈st,pz g d){E:List bX}{w:List Int}(hr:sN g.az C R.2.1 (seen+1) E w):sN g.az C st seen (R.2.2++E) (t::w):=by
 rcases tA h with⟨e|e,_⟩|⟨x,r,fv,a1,hd,h2,rfl,h4,h5,rfl⟩
 omega;omega;obtain⟨E1,y1,y2⟩:=Fm hg hn hC hd rfl hs;obtain⟨E2,z1,z2⟩:=@yL g.az C r (fv++[(2,(seen:Int))]) (a1+1);dsimp only at y1 y2 hr⊢;rw[z1,y1];have:=y2 (.nf h2 (z2 hr))
 simpa using this
theorem M_{nx:Int->Int}{st:List TD}{seen:Nat}{t:Int}(hC:∀n p,C n seen p->nx n=p){R:Int×List TD×List bX}(h:iB l nx st seen t=R){E:List bX}{w:List Int}(hr:sN l C st seen E (t::w)):R.1=14\/(R.1=0/\∃E2,E=R.2.2++E2/\sN l C R.2.1 (seen+1) E2 w):=by
 unfold iB at h
 cases hd:fW l nx 2001 st [] 0 with
 |mk st1 R1=>
 obtain⟨fv,a1,e⟩:=R1;rw[hd]at h;dsimp only at h;rcases Fo hC hd hr with e1|⟨e1,E1,E2,y1,y2,y3⟩
 dsimp only at e1;subst e1;rw[if_pos akV]at h;subst h;exact .inl I;dsimp only at e1 y2 y3;subst e1;rw[if_neg (by simp)]at h;rcases p_ hd rfl with e1|⟨x,r,e1,e2⟩
 dsimp only at e1;subst e1;cases y3;dsimp only at e1;subst e1;dsimp only at h
 cases y3 with
 | nf hx h3=>
  rw[if_neg (by simp)]at h;split at h
  ·rename_i c2
   subst h;obtain⟨E3,E4,z1,z2,z3⟩:=yM (out:=fv++[(2,(seen:Int))]) (a:=a1+1) h3;refine .inr ⟨rfl,E4,?_,z3⟩;dsimp only;rw[y1,z2,y2,z1];simp
  subst h;exact .inl I
 |opn hx=>exact absurd e2 hx
theorem adk{nx:Int->Int}{st:List TD}{u:Nat}(hC:∀n p,C n u p->nx n=p){R:Int×List bX}(h:tv l nx st=R){E:List bX}(hr:sN l C st u E []):R.1=14\/(R.1=0/\R.2=E):=by
 unfold tv at h
 cases hd:fW l nx 2001 st [] 0 with
 |mk st1 R1=>
 obtain⟨fv,a1,e⟩:=R1;rw[hd]at h;dsimp only at h;rcases Fo hC hd hr with e1|⟨e1,E1,E2,y1,y2,y3⟩
 dsimp only at e1;subst e1;rw[if_pos akV]at h;subst h;exact .inl I;dsimp only at e1 y2 y3;subst e1;rw[if_neg (by simp)]at h;rcases p_ hd rfl with e1|⟨x,r,e1,e2⟩
 ·dsimp only at e1;subst e1
  dsimp only at h;subst h
  cases y3
  exact .inr ⟨rfl,by dsimp only;rw[y1,y2];simp⟩
 dsimp only at e1;subst e1
 cases y3 with
 |opn hx=>exact absurd e2 hx
theorem w6{nx:Int->Int}{st:List TD}{R:Int×List bX}(h:tv l nx st=R):((R.1=13\/R.1=14)/\R.2=[])\/∃a1,fW l nx 2001 st [] 0=([],R.2,a1,0)/\R.1=0:=by
 unfold tv at h
 cases hd:fW l nx 2001 st [] 0 with
 |mk st1 R1=>
 obtain⟨fv,a1,e⟩:=R1;rw[hd]at h;dsimp only at h;have he:=@vz l nx 2001 st [] 0;rw[hd]at he;dsimp only at he
 by_cases c0:e=0
 ·subst c0
  rw[if_neg (by simp)]at h;rcases p_ hd rfl with e1|⟨x,r,e1,e2⟩
  dsimp only at e1;subst e1;subst h;exact .inr ⟨a1,rfl,rfl⟩;dsimp only at e1;subst e1;subst h;exact .inl ⟨.inl I,rfl⟩
 rw[if_pos c0]at h;subst h;exact .inl ⟨by rcases he with h|h|h;exact absurd h c0;exact .inl h;exact .inr h,rfl⟩
theorem adl{g:dF}(hg:cD g=0){nx:Int->Int}(hn:Qs g.az nx)(hC:∀n u p,C n u p){st:List TD}{u:Nat}{R:Int×List bX}(h:tv g.az nx st=R)(h0:R.1=0)(hs:∀d∈st,pz g d):sN g.az C st u R.2 []:=by
 rcases w6 h with⟨e|e,_⟩|⟨a1,hd,_⟩
 omega;omega;obtain⟨E1,y1,y2⟩:=Fm hg hn hC hd rfl hs;have:=@y2 u [] [] .nil;dsimp only at y1;rw[y1];simpa using this
end
end gK
namespace cg
open Go.RowKit cT ey aM dN gK
def tdB:TD->Bool| .sym _=>aD| .close _=>aB
def tdN:TD->Int| .sym _=>0| .close p=>p
def tdX:TD->bX| .sym x=>x| .close _=>(0,0)
def xH(d:TD):List Value:=[.bool (tdB d),ap av (tdN d),ap av (tdX d).1,ap av (tdX d).2]
theorem Kn(d:TD):(xH d).length=4:=rfl
theorem Ko(l:List TD):∀u∈l.flatMap xH,u.oneCell'=true:=by
 intro u hu;obtain⟨d,_,h⟩:=P8.1 hu;simp only[xH,df,fI,or_false]at h;rcases h with rfl|rfl|rfl|rfl<;>rfl
def L5(d:TD):Value:=aP (xH d).toArray
theorem Iv(x:bX)(w:World):(dm 231 #[(2,aP (dS x).toArray)]).run aC w= .ok (L5 (.sym x)) w:=by
 unfold L5 xH dS tdB tdN tdX;go_simp
theorem VP(p:Int)(w:World):(dm 231 #[(0,.bool aB),(1,ap av p)]).run aC w= .ok (L5 (.close p)) w:=by
 unfold L5 xH tdB tdN tdX;go_simp
def AW(vt:Value)(seen over:Int)(done:Bool):Value:=aP #[vt,ap av seen,ap av over,.bool done]
def Na(t n:Int)(vp vt vo:Value)(dG:Nat):Array Value:=#[ap av t,ap av n,vp,vt,vo,ap av (dG:Int)]
abbrev yO(gw:Nat)(t n:Int)(vp vt vo:Value)(dG:Nat):b9:=aO gw (Na t n vp vt vo dG) 329
abbrev xt(vt:Value)(st:List TD):b9:=bx 231 4 vt st.length (st.reverse.flatMap xH)
abbrev rT(vo:Value)(l:List bX):b9:=bx 55 2 vo l.length (l.flatMap dS)
theorem BB(k n:Int)(w:World):(dm 55 #[(0,ap av k),(1,ap av n)]).run aC w= .ok (aP (dS (k,n)).toArray) w:=by
 unfold dS;go_simp
theorem Tu{P:Program}{n:Nat}{W:b_}{fr:Fr}{L:List b9}{dst:Option Tmp}{t ty:TypeId}{pos:String}{after:Array Edge}{guard:Option (Nat×Bool)}{x:Operand}{f:Nat}{v u:Value}(hx:ev fr x=ah v)(h:∀w,(Y6 t v f).run P w= .ok u w):RR P n W ⟨dst,.field t x f,ty,pos,after,guard⟩ fr L u:= .mk fun a w hr _=>by
 simp[execOp,hr.ev hx,h]
theorem VQ(d:TD)(w:World):(Y6 231 (L5 d) 1).run aC w= .ok (ap av (tdN d)) w:=by
 unfold L5 xH;kernel_rfl
end cg
namespace cg
open Go.RowKit cT ey dj
theorem ZJ{j:Nat}(hj:j<64):2^j<18446744073709551616:=by
 have:=Zf (a:=2) akV hj
 rwa [show(2:Nat)^64=18446744073709551616 from I]at this
theorem ajx{P:Program}(j:Nat)(hj:j<64)(w:World):(iP .shl .u64 1 .i64 (j:Int)).run P w= .ok (.int .u64 ((2^j:Nat):Int)) w:=by
 have e:min j 64=j:=by omega
 have e2:(2:Int)^j=((2^j:Nat):Int):=by rw[Int.natCast_pow];rfl
 have e3:uz.wrap ((1:Int)*2^j)=((2^j:Nat):Int):=by
  have:=ZJ hj;rw[e2,sR,Int.one_mul];generalize 2^j=y at*;omega
 have h0:¬((j:Int)<0):=by omega
 simp only[iP,if_neg h0,lU,cX,e,e3,Sem.run_pure]
theorem Nb:∀b:Nat,b<256->bits .and .i64 (b:Int) 63=((b %64:Nat):Int):=by decide+kernel
theorem ZK(c:C4)(i:Nat)(h:i<4):(d_ c).toArray[i]?=ah (.int .u64 ((c.get i).toNat:Int)):=EG c i h
theorem ZL(c:C4)(i:Nat)(h:i<4)(v:BitVec 64):(d_ c).toArray.setIfInBounds i (.int .u64 (v.toNat:Int))=(d_ (c.set i v)).toArray:=by
 match i,h with
 |0,_=>rfl
 |1,_=>rfl
 |2,_=>rfl
 |3,_=>rfl
attribute [local irreducible] Op.shift Go.bits in
theorem tB(c:C4)(b:Nat)(hb:b<256)(w:World):Calls aC 152 #[pu c,ap av (b:Int)] w (cJ (ret (.bool (c.mem b))) w):=by
 refine enter (args:=[aP #[v64 c.a,v64 c.b,v64 c.c,v64 c.d],ap av (b:Int)]) (n:=14) Tryz.func152 I I I ?_;refine bY (a_ (bQ I I I fun g=>?_));have h1:b/64<4:=by omega
 have hc:(#[v64 c.a,v64 c.b,v64 c.c,v64 c.d]:Array Value)[0+b/64]?=ah (.int .u64 ((c.get (b/64)).toNat:Int)):=by rw[cI];exact EG c _ h1
 have hx:=(c.get (b/64)).isLt;have Dp:∀w,(iP .shr .i64 (b:Int) .u64 6).run aC w= .ok (ap av ((b/64:Nat):Int)) w:=fun w=>Y0 b 6 64 .i64 .u64 I akV w;have hs2:∀w,(iP .shr .u64 ((c.get (b/64)).toNat:Int) .i64 ((b %64:Nat):Int)).run aC w= .ok (.int .u64 (((c.get (b/64)).toNat/2^(b %64):Nat):Int)) w:=fun w=>Y0 _ (b %64) 64 .u64 .i64 I J w;have hm:c.mem b=decide ((c.get (b/64)).toNat/2^(b %64) %2=1):=by unfold C4.mem;rw[Nat.testBit_eq_decide_div_mod_eq]
 rw[hm];have hd:(c.get (b/64)).toNat/2^(b %64)<=(c.get (b/64)).toNat:=Nat.div_le_self _ _;have wP:=Nb b hb;generalize (c.get (b/64)).toNat=x at*;generalize b %64=k at*;generalize b/64=i at*;generalize x/2^k=y at*;have ha:bits .and .u64 (y:Int) 1=((y %2:Nat):Int):=by
  have:=bits_and_u64_nat y 1 J akV;rw[Nat.and_one_is_mod]at this;exact this
 repeat(first|refine GC ?_|refine gV (pT I I Dp) ?_|refine gV (io bI.eq aI.ty I I h1) ?_|refine gV (aw aI.ty I (aE (i:=0) I hc)) ?_|refine gV (nR I I wP) ?_|refine gV (pT I I hs2) ?_|refine gV (nR I I ha) ?_|refine gV (cP I I I) ?_|refine GB ?_)
 exact eU I I (by congr 1;rw[decide_eq_decide];omega)
attribute [local irreducible] Op.shift Go.bits in
theorem tC(c:C4)(b:Nat)(hb:b<256)(g:Nat)(w:World)(B:b_)(hm:Mem B [aO g (d_ c).toArray 303] w):
 Calls aC 154 #[aH (ah ⟨g,0,aj⟩),ap av (b:Int)] w (dX ⟨fun(_:Unit)=>True,fun _=> .tuple #[],fun _=>[aO g (d_ (c.bit b)).toArray 303]⟩ B):=by
 refine eR hm (args:=[aH (ah ⟨g,0,aj⟩),ap av (b:Int)]) (n:=16) Tryz.func154 I I I ?_;clear hm;have h1:b/64<4:=by omega
 have hc:(d_ c).toArray[0+b/64]?=ah (.int .u64 ((c.get (b/64)).toNat:Int)):=by rw[cI];exact ZK c _ h1
 have Dp:∀w,(iP .shr .i64 (b:Int) .u64 6).run aC w= .ok (ap av ((b/64:Nat):Int)) w:=fun w=>Y0 b 6 64 .i64 .u64 I akV w;have wP:=Nb b hb;have hsh:=ajx (P:=aC) (b %64) J;have sW:=ZL c (b/64) h1 (c.get (b/64)|||iF 64 (2^(b %64)));have Kp:c.bit b=c.set (b/64) (c.get (b/64)|||iF 64 (2^(b %64))):=rfl;rw[<-Kp]at sW;have L6:bits .or .u64 ((c.get (b/64)).toNat:Int) ((2^(b %64):Nat):Int)=(((c.get (b/64))|||iF 64 (2^(b %64))).toNat:Int):=by
  have hp:=ZJ (j:=b %64) J;rw[bits_or_u64_nat _ _ (c.get (b/64)).isLt hp,BitVec.toNat_or,DZ,Nat.mod_eq_of_lt hp]
 have hm0:b %64<64:=by omega
 generalize c.get (b/64)|||iF 64 (2^(b %64))=z at*
 generalize (c.get (b/64)).toNat=x at*;generalize 2^(b %64)=y at*;generalize b %64=k at*;generalize b/64=i at*;generalize c.bit b=c' at*;have hsz:dB (0+i) (d_ c).toArray.size=true:=by rw[Nat.blt_eq];show 0+i<4;omega
 rw[<-cI i]at sW;refine dK ([]) (.calm 0 (.calm 1 (.calm 2 (.calm 3 (.calm 4 (.calm 6 (.calm 7 (.calm 8 (.calm 10 (.one 5 (.calm 9 (.calm 11 (.one 12 (.done)))))))))))))) (bZ []) ?_
 repeat(first|refine GW ?_|(refine GN ?_;first|refine QW (pT I I Dp) ?_|refine QW (io bI.eq aI.ty I I h1) ?_|refine QW (nR I I wP) ?_|refine QW (En I I hsh) ?_))
 refine aJ I (dC (aw aI.ty I (aE (i:=0) I hc)) I I I (aK (bZ []) ?_))
 repeat(first|refine GW ?_|(refine GN ?_;first|refine QW (zt I I L6) ?_|refine QW (io bI.eq aI.ty I I h1) ?_))
 refine aJ I (bT (i:=0) I I I I I hsz (aK (bZ []) ?_))
 try refine GW ?_
 try refine GA ?_
 exact Bj I fun w hm=>hm.cZ (S:=⟨fun(_:Unit)=>True,fun _=> .tuple #[],fun _=>[aO g (d_ c').toArray 303]⟩) () trivial [0] akV (by rw[<-sW];rfl)
end cg
namespace eB
open dj gu Go.Lib
def vB(l:List Int):List Int:=l.mergeSort fun x y=>decide (x<=y)
def rH(a b:List Int):List Int:=compact (vB (a++b))
theorem Kq(l:List Int):(vB l).Pairwise (· <= ·):=by
 have:=List.pairwise_mergeSort (le:=fun x y:Int=>decide (x<=y)) (fun a b c=>by simp;omega) (fun a b=>by simp;omega) l;exact this.imp (by simp)
theorem t_{d:Array Int}(hs:∀i j,i<=j->j<d.size->d[i]! <=d[j]!):∀m,m<=d.size->(compactUpTo d m).Pairwise (· < ·)/\(∀x,x∈compactUpTo d m↔∃j,j<m/\d[j]! =x)
 |0,_=>⟨by unfold compactUpTo;simp,fun x=>by unfold compactUpTo;simp⟩
 | m + 1,hm=>by
  obtain⟨h1,h2⟩:=t_ hs m J;rw[compactUpTo_succ]
  by_cases hk:keeps d m=aB
  ·rw[if_pos hk]
   have nu:m=0\/d[m]! ≠d[m-1]! :=by unfold keeps at hk;simpa using hk
   refine⟨List.pairwise_append.2 ⟨h1,Y8 _ _,fun x hx y hy=>?_⟩,fun x=>?_⟩
   ·rw[dH.1 hy]
    obtain⟨j,hj,rfl⟩:=(h2 x).1 hx;have a1:=hs j (m-1) J J;have a2:=hs (m-1) m J J;rcases nu with h0|h0
    omega;omega
   rw[gH,dH,h2]
   constructor
   ·rintro(⟨j,hj,rfl⟩|rfl)
    exact⟨j,by omega,rfl⟩;exact⟨m,by omega,rfl⟩
   rintro⟨j,hj,rfl⟩
   by_cases c:j=m
   subst c;exact .inr I;exact .inl ⟨j,by omega,rfl⟩
  rw[if_neg hk,dQ];refine⟨h1,fun x=>?_⟩;rw[h2]
  constructor
  rintro⟨j,hj,rfl⟩;exact⟨j,by omega,rfl⟩;rintro⟨j,hj,rfl⟩
  by_cases c:j=m
  ·subst c
   have nu:¬(j=0\/d[j]! ≠d[j-1]!):=by unfold keeps at hk;simpa using hk
   have e:d[j]! =d[j-1]! :=by
    rcases af8 (d[j]! =d[j-1]!)with h|h
    exact h;exact absurd (.inr h) nu
   have:j≠0:=fun h=>nu (.inl h);exact⟨j-1,by omega,e.symm⟩
  exact⟨j,by omega,rfl⟩
theorem Qt{l:List Int}(h:l.Pairwise (· <= ·)):∀i j,i<=j->j<l.toArray.size->l.toArray[i]! <=l.toArray[j]! :=by
 intro i j uf hj;have qL:j<l.length:=by simpa using hj
 rw[getElem!_pos l.toArray i (by simp;omega),getElem!_pos l.toArray j hj]
 by_cases c:i=j
 subst c;exact Int.le_refl _;exact Ef.1 h i j J qL J
theorem Dv(a b:List Int):(rH a b).Pairwise (· < ·)/\∀x,x∈rH a b↔x∈a\/x∈b:=by
 have hs:=Qt (Kq (a++b));obtain⟨h1,h2⟩:=t_ hs (vB (a++b)).length (by simp);refine⟨h1,fun x=>?_⟩;unfold rH compact;rw[h2,<-gH,<-List.mem_mergeSort (l:=a++b) (le:=fun x y:Int=>decide (x<=y))];show _↔x∈vB (a++b)
 rw[jG]
 constructor
 rintro⟨j,hj,rfl⟩;exact⟨j,hj,by rw[getElem!_pos _ j (by simpa using hj)];rfl⟩;rintro⟨j,hj,rfl⟩;exact⟨j,hj,by rw[getElem!_pos _ j (by simpa using hj)];rfl⟩
def Iw(n:Nat)(l:List Int):Prop:=l.Pairwise (· < ·)/\∀x∈l,0<=x/\x<n
theorem jQ{n:Nat}{l:List Int}(h:Iw n l):l.length<=n:=by
 have key:∀(l:List Int) (lo:Int),l.Pairwise (· < ·)->(∀x∈l,lo<=x/\x<n)->lo<=n->(l.length:Int)<=n-lo:=by
  intro l
  induction l with
  |nil=>intro lo _ _ h;show(0:Int)<=_;omega
  |cons x r ih=>
   intro lo hp hx _;rw[Zb]at hp;have h1:=hx x (fc ..);have:=ih (x+1) hp.2 (fun y hy=>⟨by have:=hp.1 y hy;omega,(hx y (iI _ hy)).2⟩) J;rw[cO];omega
 have:=key l 0 h.1 h.2 J;omega
theorem w7(n:Nat):Iw n []:=⟨af9,fun x h=>by cases h⟩
theorem oI{n m:Nat}{l:List Int}(h:Iw n l)(hm:n<=m):Iw m l:=⟨h.1,fun x hx=>by have:=h.2 x hx;omega⟩
theorem tD{n:Nat}{a b:List Int}(ha:∀x∈a,0<=x/\x<n)(hb:∀x∈b,0<=x/\x<n):Iw n (rH a b):=
 ⟨(Dv a b).1,fun x hx=>((Dv a b).2 x|>.1 hx).elim (ha x) (hb x)⟩
theorem Fp:∀{a b:List Int},a.Pairwise (· < ·)->b.Pairwise (· < ·)->(∀x,x∈a↔x∈b)->a=b
 |[],[],_,_,_=>rfl
 |[],y::b,_,_,h=>by have:=(h y).2 (fc ..);cases this
 |x::a,[],_,_,h=>by have:=(h x).1 (fc ..);cases this
 | x ::a,y::b,ha,hb,h=>by
  rw[Zb]at ha hb;have hxy:x=y:=by
   rcases df.1 ((h x).1 (fc ..))with e|e
   exact e;rcases df.1 ((h y).2 (fc ..))with e'|e'
   exact e'.symm;have h1:=hb.1 x e;have h2:=ha.1 y e';omega
  subst hxy;rw[Fp ha.2 hb.2 fun z=>?_]
  constructor
  ·intro hz
   rcases df.1 ((h z).1 (iI _ hz))with e|e
   subst e;exact absurd (ha.1 z hz) J;exact e
  intro hz;rcases df.1 ((h z).2 (iI _ hz))with e|e
  subst e;exact absurd (hb.1 z hz) J;exact e
structure PS where
 aZ:List C4
 rules:List Int
 follow:List (List Int)
 last:List Bool
structure Shape where
 empty:Bool
 first:List Int
 last:List Int
def fG(nF:List (List Int))(last first:List Int):List (List Int):=last.foldl (fun f x=>f.set x.toNat (rH (f.getD x.toNat []) first)) nF
def cC(bU:Int):Re->PS->Shape×PS
  | .empty,p=>(⟨aB,[],[]⟩,p)
  | .none,p=>(⟨aD,[],[]⟩,p)
  | .byte c,p=>(⟨aD,[(p.aZ.length:Int)],[(p.aZ.length:Int)]⟩,⟨p.aZ++[c],p.rules++[bU],p.follow++[[]],p.last++[aD]⟩)
  | .star a,p=>(⟨aB,(cC bU a p).1.first,(cC bU a p).1.last⟩,{(cC bU a p).2 with follow:=fG (cC bU a p).2.follow (cC bU a p).1.last (cC bU a p).1.first})
  | .JR a b,p=>(⟨(cC bU a p).1.empty||(cC bU b (cC bU a p).2).1.empty,rH (cC bU a p).1.first (cC bU b (cC bU a p).2).1.first,rH (cC bU a p).1.last (cC bU b (cC bU a p).2).1.last⟩,(cC bU b (cC bU a p).2).2)
  | .JQ a b,p=>
    (⟨(cC bU a p).1.empty&&(cC bU b (cC bU a p).2).1.empty,
      if(cC bU a p).1.empty then rH (cC bU a p).1.first (cC bU b (cC bU a p).2).1.first else(cC bU a p).1.first,
      if(cC bU b (cC bU a p).2).1.empty then rH (cC bU a p).1.last (cC bU b (cC bU a p).2).1.last else(cC bU b (cC bU a p).2).1.last⟩,
     {(cC bU b (cC bU a p).2).2 with follow:=fG (cC bU b (cC bU a p).2).2.follow (cC bU a p).1.last (cC bU b (cC bU a p).2).1.first})
structure Nc(p:PS):Prop where
 rules:p.rules.length=p.aZ.length
 follow:p.follow.length=p.aZ.length
 last:p.last.length=p.aZ.length
 ris:∀l∈p.follow,Iw p.aZ.length l
theorem lq(nF:List (List Int))(last first:List Int):(fG nF last first).length=nF.length:=by
 unfold fG
 induction last generalizing nF with
 |nil=>rfl
 |cons x r ih=>rw[Zd,ih,J5]
theorem tE{n:Nat}{first:List Int}(hf:∀x∈first,0<=x/\x<n):∀(last:List Int) (nF:List (List Int)),(∀l∈nF,Iw n l)->∀l∈fG nF last first,Iw n l
 |[],nF,h=>h
 | x ::r,nF,h=>by
  show ∀l∈fG (nF.set x.toNat (rH (nF.getD x.toNat []) first)) r first,Iw n l
  refine tE hf r _ fun l hl=>?_;rcases EL hl with hl|rfl
  exact h l hl;refine tD (fun y hy=>?_) hf
  by_cases c:x.toNat<nF.length
  ·rw[bD,bm c]at hy
   exact(h _ (bV c)).2 y hy
  rw[bD,ii J]at hy
  cases hy
theorem mh(bU:Int):∀(e:Re) (p:PS),Nc p->Nc (cC bU e p).2/\p.aZ.length<=(cC bU e p).2.aZ.length/\(cC bU e p).2.aZ.length<=p.aZ.length+e.size/\Iw (cC bU e p).2.aZ.length (cC bU e p).1.first/\Iw (cC bU e p).2.aZ.length (cC bU e p).1.last
 | .empty,p,h=>⟨h,aT _,Bo _ _,w7 _,w7 _⟩
 | .none,p,h=>⟨h,aT _,Bo _ _,w7 _,w7 _⟩
 | .byte c,p,h=>by
  have h1:Iw (p.aZ++[c]).length [(p.aZ.length:Int)]:=⟨Y8 _ _,fun x hx=>by rw[dH.1 hx,bK,nT];omega⟩;refine⟨⟨?_,?_,?_,fun l hl=>?_⟩,?_,?_,h1,h1⟩;show(p.rules++[bU]).length=(p.aZ++[c]).length;rw[bK,bK,h.rules];rfl
  show(p.follow++[[]]).length=(p.aZ++[c]).length;rw[bK,bK,h.follow];rfl
  show(p.last++[aD]).length=(p.aZ++[c]).length;rw[bK,bK,h.last];rfl
  ·have hl:l∈p.follow++[[]]:=hl
   show Iw (p.aZ++[c]).length l
   rcases gH.1 hl with hl|hl
   exact oI (h.ris l hl) (by simp);rw[dH.1 hl];exact w7 _
  show p.aZ.length<=(p.aZ++[c]).length;simp
  show(p.aZ++[c]).length<=_;simp[Re.size]
 | .star a,p,h=>by
  obtain⟨h1,h2,h3,h4,h5⟩:=mh bU a p h;exact⟨⟨h1.rules,(lq _ _ _).trans h1.follow,h1.last,tE h4.2 _ _ h1.ris⟩,h2,by show _<=p.aZ.length+(a.size+1);exact eC h3 J,h4,h5⟩
 | .JR a b,p,h=>by
  obtain⟨h1,h2,h3,h4,h5⟩:=mh bU a p h;obtain⟨k1,k2,k3,k4,k5⟩:=mh bU b _ h1;exact⟨k1,eC h2 k2,by show _<=p.aZ.length+(a.size+b.size+1);exact eC k3 J,tD (oI h4 k2).2 k4.2,tD (oI h5 k2).2 k5.2⟩
 | .JQ a b,p,h=>by
  obtain⟨h1,h2,h3,h4,h5⟩:=mh bU a p h;obtain⟨k1,k2,k3,k4,k5⟩:=mh bU b _ h1;refine⟨⟨k1.rules,(lq _ _ _).trans k1.follow,k1.last,tE k4.2 _ _ k1.ris⟩,eC h2 k2,by show _<=p.aZ.length+(a.size+b.size+1);exact eC k3 J,?_,?_⟩
  ·show Iw _ (if _ then _ else _)
   split;exact tD (oI h4 k2).2 k4.2;exact oI h4 k2
  show Iw _ (if _ then _ else _)
  split;exact tD (oI h5 k2).2 k5.2;exact k5
end eB
namespace eB
open dj gu
structure MS where
 ps:PS
 first:List Int
 empty:List Bool
def MS.zero:MS:=⟨⟨[],[],[],[]⟩,[],[]⟩
def fC(last:List Bool)(l:List Int):List Bool:=l.foldl (fun b x=>b.set x.toNat aB) last
def xI(i:Nat)(m:MS)(e:Re):MS:=
 ⟨{(cC i e m.ps).2 with last:=fC (cC i e m.ps).2.last (cC i e m.ps).1.last},rH m.first (cC i e m.ps).1.first,m.empty++[(cC i e m.ps).1.empty]⟩
def mf:Nat->MS->List Re->Int×MS
 |_,m,[]=>(0,m)
 |i,m,e::r=>if 200<(xI i m e).ps.aZ.length then(2,.zero)else mf (i+1) (xI i m e) r
abbrev Nd(r:Rx):Int:=(lC r 1 0).1
def jR:List Rx->Int
 |[]=>0
 |r::l=>if Nd r≠0 then Nd r else jR l
structure Qu(m:MS):Prop where
 ps:Nc m.ps
 first:Iw m.ps.aZ.length m.first
theorem Fq(last:List Bool)(l:List Int):(fC last l).length=last.length:=by
 unfold fC
 induction l generalizing last with
 |nil=>rfl
 |cons x r ih=>rw[Zd,ih,J5]
theorem VR(last:List Bool)(l:List Int){k:Nat}(hk:k<l.length):fC last (l.take (k+1))=(fC last (l.take k)).set l[k].toNat true:=by
 unfold fC;rw[ir hk,P7];rfl
theorem Kr:Qu .zero:=⟨⟨rfl,rfl,rfl,fun l h=>by cases h⟩,w7 _⟩
theorem Tv(i:Nat){m:MS}(h:Qu m)(e:Re):Qu (xI i m e)/\(xI i m e).ps.aZ.length<=m.ps.aZ.length+e.size:=by
 obtain⟨h1,h2,h3,h4,h5⟩:=mh i e m.ps h.ps;exact⟨⟨⟨h1.rules,h1.follow,(Fq _ _).trans h1.last,h1.ris⟩,tD (oI h.first h2).2 h4.2⟩,h3⟩
theorem Ix:∀{l:List Rx},jR l=0->∀r∈l,Nd r=0
 |[],_,r,hr=>by cases hr
 | q::l,h,r,hr=>by
  rw[jR]at h;split at h;contradiction
  rename_i c
  rcases df.1 hr with rfl|hr
  simpa using c
  exact Ix h r hr
end eB
namespace eB
open dj gu
structure Ks(m:MS):Prop where
 ok:Qu m
 rules:∀r∈m.ps.rules,0<=r/\r<m.empty.length
 Cq:m.ps.aZ.length<=200
 some:0<m.empty.length
 adm:m.empty.length<=20
theorem n9(bU:Int):∀(e:Re) (p:PS),(∀r∈p.rules,0<=r/\r<=bU)->0<=bU->∀r∈(cC bU e p).2.rules,0<=r/\r<=bU
 | .empty,p,h,_=>h
 | .none,p,h,_=>h
 | .byte c,p,h,h0=>fun r hr=>by
  have hr:r∈p.rules++[bU]:=hr;rcases gH.1 hr with hr|hr
  exact h r hr;rw[dH.1 hr];omega
 | .star a,p,h,h0=>n9 bU a p h h0
 | .JR a b,p,h,h0=>n9 bU b _ (n9 bU a p h h0) h0
 | .JQ a b,p,h,h0=>n9 bU b _ (n9 bU a p h h0) h0
theorem Kt:∀(es:List Re) (i:Nat) (m m':MS),Qu m->m.empty.length=i->(∀r∈m.ps.rules,0<=r/\r<i)->m.ps.aZ.length<=200->mf i m es=(0,m')->Qu m'/\m'.empty.length=i+es.length/\(∀r∈m'.ps.rules,0<=r/\r<(i+es.length:Nat))/\m'.ps.aZ.length<=200
 | [],i,m,m',h1,h2,h3,h4,h=>by
  cases h
  exact⟨h1,h2,fun r hr=>by have:=h3 r hr;simpa using this,h4⟩
 | e ::r,i,m,m',h1,h2,h3,h4,h=>by
  rw[mf]at h;split at h
  cases h
  rename_i c
  have:=Kt r (i+1) (xI i m e) m' (Tv i h1 e).1 (by show(m.empty++[_]).length=_;simp[h2]) (fun x hx=>by
   have:=n9 i e m.ps (fun r hr=>by have:=h3 r hr;omega) J x hx;omega) J h
  rw[cO];rw[show i+(r.length+1)=i+1+r.length by omega];exact this
theorem Dw{es:List Re}{m:MS}(h0:0<es.length)(h20:es.length<=20)(h:mf 0 .zero es=(0,m)):Ks m:=by
 obtain⟨h1,h2,h3,h4⟩:=Kt es 0 .zero m Kr rfl (fun r hr=>by cases hr) (bC _) h;rw[cI]at h2 h3;exact⟨h1,fun r hr=>by have:=h3 r hr;omega,h4,by omega,by omega⟩
end eB
namespace nw
open dj gu eB c_
def qc(c:C4)(l:List Int):C4:=l.foldl (fun c x=>c.bit x.toNat) c
def n_(p:PS)(s:C4):Nat->C4
 |0=>C4.zero
 |i+1=>if s.mem i=aB then qc (n_ p s i) (p.follow.getD i [])else n_ p s i
def kf(m:MS)(S:List C4):Nat->C4
 |0=>qc C4.zero m.first
 |n+1=>n_ m.ps (S.getD n C4.zero) m.ps.follow.length
def Ku(p:PS)(all:C4)(b:Nat):Nat->C4
 |0=>C4.zero
 |i+1=>if all.mem i=aB/\(p.aZ.getD i C4.zero).mem b=aB then(Ku p all b i).bit i else Ku p all b i
def Kv(p:PS)(all:C4)(b:Nat):C4:=Ku p all b p.aZ.length
def kF(p:PS)(s:C4):Nat->Int
 |0=> -1
 |i+1=>if s.mem i=aB/\p.last.getD i aD=aB/\(kF p s i<0\/p.rules.getD i 0<kF p s i)then p.rules.getD i 0 else kF p s i
def mD(p:PS)(s:C4):Int:=kF p s p.aZ.length
structure DM where
 S:List C4
 tags:List Int
def iS(p:PS)(m:DM)(s:C4):Nat×DM:=if s∈m.S then(idx m.S s+1,m)else(m.S.length+1,⟨m.S++[s],m.tags++[mD p s]⟩)
def fX(p:PS)(all:C4)(b:Nat)(r:Row)(m:DM):Row×DM:=
 if Kv p all b=C4.zero then(if h:b<256 then r.set b (-1)else r,m)else(if h:b<256 then(r.set b (-1)).set b ((iS p m (Kv p all b)).1:Int)else r,(iS p m (Kv p all b)).2)
def ng(p:PS)(all:C4):Nat->Nat->Row->DM->Row×DM
 |0,_,r,m=>(r,m)
 |f+1,b,r,m=>if 200<(fX p all b r m).2.S.length+1 then fX p all b r m else ng p all f (b+1) (fX p all b r m).1 (fX p all b r m).2
def qM(m:MS)(n:Nat)(d:DM):Row×DM:=ng m.ps (kf m d.S n) 256 0 (eA 256 0) d
def tF(m:MS):Nat->Nat->List Row->DM->Option (List Row×DM)
 |0,_,_,_=>aj
 |f+1,n,R,d=>if n<d.S.length+1 then(if 200<(qM m n d).2.S.length+1 then aj else tF m f (n+1) (R++[(qM m n d).1]) (qM m n d).2)else ah (R,d)
def fD:List Bool->Int->Int
 |[],_=> -1
 |b::l,k=>if b=aB then k else fD l (k+1)
def vC(m:MS):Option (List Row×DM):=tF m 201 0 [] ⟨[],[fD m.empty 0]⟩
structure DOk(p:PS)(d:DM):Prop where
 nd:d.S.Nodup
 tags:d.tags.length=d.S.length+1
theorem Nf{p:PS}{d:DM}(h:DOk p d)(s:C4):DOk p (iS p d s).2/\d.S.length<=(iS p d s).2.S.length/\(iS p d s).2.S.length<=d.S.length+1/\0<(iS p d s).1/\(iS p d s).1<(iS p d s).2.S.length+1:=by
 unfold iS
 by_cases c:s∈d.S
 ·rw[if_pos c]
  have:=lf c;exact⟨h,aT _,Bp _,Zh _,by show idx d.S s+1<d.S.length+1;omega⟩
 rw[if_neg c];refine⟨⟨?_,?_⟩,?_,?_,Zh _,?_⟩
 ·show(d.S++[s]).Nodup
  rw[List.nodup_append];exact⟨h.nd,by simp,fun a ha b hb=>by rw[dH.1 hb];exact fun e=>c (e▸ha)⟩
 ·show(d.tags++[_]).length=(d.S++[s]).length+1
  rw[bK,bK,h.tags];rfl
 show _<=(d.S++[s]).length;simp
 show(d.S++[s]).length<=_;simp
 show d.S.length+1<(d.S++[s]).length+1;simp
theorem adn{p:PS}{d:DM}(h:DOk p d)(all:C4)(b:Nat)(r:Row):DOk p (fX p all b r d).2/\d.S.length<=(fX p all b r d).2.S.length/\(fX p all b r d).2.S.length<=d.S.length+1:=by
 unfold fX;split;exact⟨h,aT _,Bp _⟩;obtain⟨h1,h2,h3,_⟩:=Nf h (Kv p all b);exact⟨h1,h2,h3⟩
theorem Ng{p:PS}(all:C4):∀(f b:Nat) (r:Row) (d:DM),DOk p d->d.S.length+1<=200->DOk p (ng p all f b r d).2/\(ng p all f b r d).2.S.length+1<=201/\d.S.length<=(ng p all f b r d).2.S.length
 |0,_,_,d,h,hl=>⟨h,(by show d.S.length+1<=201;omega),aT _⟩
 | f+1,b,r,d,h,hl=>by
  obtain⟨h1,h2,h3⟩:=adn h all b r;rw[ng];split;exact⟨h1,by omega,h2⟩;obtain⟨q1,q2,q3⟩:=Ng all f (b+1) (fX p all b r d).1 _ h1 J;exact⟨q1,q2,by omega⟩
theorem Nh(c:C4)(l:List Int){k:Nat}(hk:k<l.length):qc c (l.take (k+1))=(qc c (l.take k)).bit l[k].toNat:=by
 unfold qc;rw[ir hk,P7];rfl
end nw
namespace cg
open Go.Shelf
def Ni:Go.Shelf.Ren:=⟨fun|189=>148|125=>176|257=>175|128=>197|129=>198|294=>188|295=>189|296=>190|297=>191|298=>192|299=>193|216=>194|300=>195|301=>196|328=>210|329=>211|330=>212|331=>213|332=>214|215=>207|343=>218|n=>n,fun|28=>26|3=>3|46=>281|0=>0|51=>360|53=>114|4=>4|183=>354|182=>353|131=>178|5=>5|9=>9|218=>369|222=>149|228=>376|229=>377|n=>n,fun|n=>n⟩
theorem Tw:Go.Proofs.Lays.n189 aC Ni:={
 mixed:=by kernel_rfl
 f125:=Tryz.func176.trans (congrArg ah (by kernel_rfl))
 f128:=Tryz.func197.trans (congrArg ah (by kernel_rfl))
 f129:=Tryz.func198.trans (congrArg ah (by kernel_rfl))
 f189:=Tryz.func148.trans (congrArg ah (by kernel_rfl))
 f215:=Tryz.func207.trans (congrArg ah (by kernel_rfl))
 f216:=Tryz.func194.trans (congrArg ah (by kernel_rfl))
 f257:=Tryz.func175.trans (congrArg ah (by kernel_rfl))
 f294:=Tryz.func188.trans (congrArg ah (by kernel_rfl))
 f295:=Tryz.func189.trans (congrArg ah (by kernel_rfl))
 f296:=Tryz.func190.trans (congrArg ah (by kernel_rfl))
 f297:=Tryz.func191.trans (congrArg ah (by kernel_rfl))
 f298:=Tryz.func192.trans (congrArg ah (by kernel_rfl))
 f299:=Tryz.func193.trans (congrArg ah (by kernel_rfl))
 f300:=Tryz.func195.trans (congrArg ah (by kernel_rfl))
 f301:=Tryz.func196.trans (congrArg ah (by kernel_rfl))
 f328:=Tryz.func210.trans (congrArg ah (by kernel_rfl))
 f329:=Tryz.func211.trans (congrArg ah (by kernel_rfl))
 f330:=Tryz.func212.trans (congrArg ah (by kernel_rfl))
 f331:=Tryz.func213.trans (congrArg ah (by kernel_rfl))
 f332:=Tryz.func214.trans (congrArg ah (by kernel_rfl))
 f343:=Tryz.func218.trans (congrArg ah (by kernel_rfl))
 t0:=Tryz.underlying0
 a0:=Tryz.isAgg0
 z0:=Tryz.sizeOf0
 v0:=Tryz.zeroValue0
 t3:=Tryz.underlying3
 a3:=Tryz.isAgg3
 z3:=Tryz.sizeOf3
 v3:=Tryz.zeroValue3
 t4:=Tryz.underlying4
 a4:=Tryz.isAgg4
 z4:=Tryz.sizeOf4
 v4:=Tryz.zeroValue4
 t5:=Tryz.underlying5
 a5:=Tryz.isAgg5
 z5:=Tryz.sizeOf5
 v5:=Tryz.zeroValue5
 t9:=Tryz.underlying9
 a9:=Tryz.isAgg9
 z9:=Tryz.sizeOf9
 v9:=Tryz.zeroValue9
 t28:=Tryz.underlying26
 a28:=Tryz.isAgg26
 z28:=Tryz.sizeOf26
 v28:=Tryz.zeroValue26
 t46:=Tryz.underlying281
 a46:=Tryz.isAgg281
 z46:=Tryz.sizeOf281
 v46:=Tryz.zeroValue281
 t51:=Tryz.underlying360
 a51:=Tryz.isAgg360
 z51:=Tryz.sizeOf360
 v51:=Tryz.zeroValue360
 t53:=Tryz.underlying114
 a53:=Tryz.isAgg114
 z53:=Tryz.sizeOf114
 v53:=Tryz.zeroValue114
 t131:=Tryz.underlying178
 a131:=Tryz.isAgg178
 z131:=Tryz.sizeOf178
 v131:=Tryz.zeroValue178
 t182:=Tryz.underlying353
 a182:=Tryz.isAgg353
 z182:=Tryz.sizeOf353
 v182:=Tryz.zeroValue353
 t183:=Tryz.underlying354
 a183:=Tryz.isAgg354
 z183:=Tryz.sizeOf354
 v183:=Tryz.zeroValue354
 t218:=Tryz.underlying369
 a218:=Tryz.isAgg369
 z218:=Tryz.sizeOf369
 v218:=Tryz.zeroValue369
 t222:=Tryz.underlying149
 a222:=Tryz.isAgg149
 z222:=Tryz.sizeOf149
 v222:=Tryz.zeroValue149
 t228:=Tryz.underlying376
 a228:=Tryz.isAgg376
 z228:=Tryz.sizeOf376
 v228:=Tryz.zeroValue376
 t229:=Tryz.underlying377
 a229:=Tryz.isAgg377
 z229:=Tryz.sizeOf377
 v229:=Tryz.zeroValue377}
open Go.Sort Go.RowKit in
theorem slices_Sort_int(CX off cap:Nat)(zs:List Int)(w:World)(hH:Holds (ap .i64) w CX off zs.toArray)(hblk:CX<w.heap.size)(hsz:zs.length<4611686018427387904):
 Calls aC 148 #[ak (ah ⟨CX,off,aj⟩) zs.length cap] w fun e w'=>
  e= .returned (.tuple #[])/\∃n os,w'=grow (putRow (ap .i64) (Sort.ahead w n) CX off (zs.mergeSort fun x y=>decide (x<=y)).toArray) os:=Any.slices_Sort_int Tw CX off cap zs w hH hblk hsz
def Hm:Go.Shelf.Ren:=⟨fun|20=>149|n=>n,fun|22=>26|3=>3|4=>4|0=>0|n=>n,fun|n=>n⟩
theorem Iy:Go.Proofs.Lays2.n20 aC Hm:={
 mixed:=by kernel_rfl
 f20:=Tryz.func149.trans (congrArg ah (by kernel_rfl))
 t0:=Tryz.underlying0
 a0:=Tryz.isAgg0
 z0:=Tryz.sizeOf0
 v0:=Tryz.zeroValue0
 t3:=Tryz.underlying3
 a3:=Tryz.isAgg3
 z3:=Tryz.sizeOf3
 v3:=Tryz.zeroValue3
 t4:=Tryz.underlying4
 a4:=Tryz.isAgg4
 z4:=Tryz.sizeOf4
 v4:=Tryz.zeroValue4
 t22:=Tryz.underlying26
 a22:=Tryz.isAgg26
 z22:=Tryz.sizeOf26
 v22:=Tryz.zeroValue26
 i3:=by kernel_rfl}
open Go.RowKit Go.Lib Go.Sort in
theorem slices_Compact_int(CX off cap:Nat)(zs:List Int)(w:World)(hH:Holds (ap .i64) w CX off zs.toArray)(hsz:zs.length<=9223372036854775807)(tb:zs.length<=cap):
 Calls aC 149 #[ak (ah ⟨CX,off,aj⟩) zs.length cap] w fun e w'=>e= .returned (ak (ah ⟨CX,off,aj⟩) (rD zs).length cap)/\∃q,w'=putRow (ap .i64) (Sort.ahead w q) CX off (rD zs++db (zs.length-(rD zs).length) 0).toArray:=Any.slices_Compact_int Iy CX off cap zs w hH hsz tb
open Go.RowKit Go.Lib Go.Sort in
theorem slices_Compact_int_empty(a:Option Addr)(cap:Nat)(w:World):
 Calls aC 149 #[ak a 0 cap] w fun e w'=>e= .returned (ak a 0 cap)/\w'=w:=Any.slices_Compact_int_empty Iy a cap w
open Go.RowKit Go.Sort in
theorem slices_Sort_int_none(p:Option Addr)(cap:Nat)(w:World):
 Calls aC 148 #[ak p 0 cap] w fun e w'=>e= .returned (.tuple #[])/\w'=w:=Any.slices_Sort_int_none Tw p cap w
end cg
namespace cg
open Go.RowKit cT ey Go.Sort
theorem VS(w:World)(n g:Nat)(d:Array Int)(os:Array Obj){k:Nat}(hk:k<w.heap.size)(hg:k≠g):(grow (putRow (ap .i64) (Go.Sort.ahead w n) g 0 d) os).heap[k]?=w.heap[k]?:=by
 rw[heap_grow_old _ _ (by rw[size_putRow];exact hk)];show(w.heap.modify g _)[k]?=w.heap[k]?
 rw[EI,if_neg (fun h=>hg h.symm)]
theorem Tz{B:b_}{w:World}{e:TypeId}{g cap m:Nat}{zs:List Int}(hm:Mem B [bx e 1 (ak (ah ⟨g,0,aj⟩) m cap) m (zs.map (ap .i64))] w)(d:Array Int)(hd:d.size=m)(m':Nat)(h':m'<=m)(n:Nat)(os:Array Obj):
 Mem B [bx e 1 (ak (ah ⟨g,0,aj⟩) m' cap) m' ((d.toList.take m').map (ap .i64))] (grow (putRow (ap .i64) (Go.Sort.ahead w n) g 0 d) os):=by
 have ho:w.ownsRow 0 e 1 (ak (ah ⟨g,0,aj⟩) m cap) m (zs.map (ap .i64)):=hm.get (i:=0) I;obtain⟨hl,hr⟩:=ho;rcases hr with⟨h,_⟩|⟨g2,agc,oU,hv,_,hg,hc,hx,hs,ht⟩
 ·cases h
 cases hv
 have Nj:B.may g:=(hm.owns.all 0 _ I).2 g (.inl I);have hgw:g<w.heap.size:=(kq.1 hg).1;have ZM:(grow (putRow (ap .i64) (Go.Sort.ahead w n) g 0 d) os).heap[g]?=ah (.cells (putCells (ap .i64) 0 d oU) e (0,0)):=by
  rw[heap_grow_old _ _ (by rw[size_putRow];exact hgw)];show(w.heap.modify g (onCells (putCells (ap .i64) 0 d)))[g]?=_
  rw[EI,if_pos I,hg];rfl
 refine⟨⟨hm.low.os,hm.low.tape,hm.low.output,?_,fun k hk hx=>?_⟩,fl.one ⟨?_,.inr ⟨g,cap,_,rfl,bC _,ZM,by omega,hx,?_,?_⟩⟩ fun k hk=>?_⟩
 ·rw[size_grow,size_putRow];exact eC hm.low.size (Bo _ _)
 ·have hkg:k≠g:=fun e=>by
   subst e;rcases Nj with h|h
   omega;exact hx h
  rw[VS w n g d os (jt hk hm.low.size) hkg];exact hm.low.block k hk hx
 ·rw[dw,gZ,Array.length_toList,hd];omega
 ·unfold putCells;rw[Array.size_mapIdx];exact hs
 ·apply mq
  intro j;rw[kQ,yw]
  by_cases hj:j<m'
  ·have hjc:j<oU.size:=by omega
   rw[if_pos hj,eQ,yw,if_pos hj,rC,rC];unfold putCells;rw[Array.getElem?_mapIdx,yu hjc,Option.map_some,if_pos ⟨bC _,by omega⟩,Nat.sub_zero,getElem!_pos d j J,yu (by omega:j<d.size)];rfl
  rw[if_neg hj,eQ,yw,if_neg hj];rfl
 ·rcases hk with h|h
  simp only[bx,Value.ownBlock,dg]at h;subst h;exact Nj;exact h.elim
theorem Iz{w:World}{e:TypeId}{g cap m:Nat}{zs:List Int}(ho:w.ownsRow 0 e 1 (ak (ah ⟨g,0,aj⟩) m cap) m (zs.map (ap .i64))):Holds (ap .i64) w g 0 zs.toArray/\g<w.heap.size/\m=zs.length/\m<=cap:=by
 obtain⟨hl,hr⟩:=ho;rcases hr with⟨h,_⟩|⟨g2,agc,oU,hv,_,hg,hc,hx,hs,ht⟩
 cases h
 cases hv
 rw[dw]at hl;refine⟨fun j hj=>?_,(kq.1 hg).1,by omega,hc⟩;have qL:j<zs.length:=by simpa using hj
 have hcj:oU[j]?=ah (ap av zs[j]):=by
  have:=congrArg (fun l=>l[j]?) ht;rw[kQ,yw,if_pos J,rC,eQ,bm qL]at this;exact this
 refine⟨?_,?_⟩;rw[cell_of_row w g (0+j) _ _ _ hg,cI,hcj,getElem!_pos zs.toArray j hj];rfl;unfold World.frozen?;rw[hg];simp
def vB(l:List Int):List Int:=l.mergeSort fun x y=>decide (x<=y)
theorem Nk(v:Value)(l:List Int)(w:World)(B:b_)(hm:Mem B [bx 3 1 v l.length (l.map (ap .i64))] w)(hl:l.length<4611686018427387904):
 Calls aC 148 #[v] w (dX ⟨fun(_:Unit)=>True,fun _=> .tuple #[],fun _=>[bx 3 1 v l.length ((vB l).map (ap .i64))]⟩ B):=by
 have ho:w.ownsRow 0 3 1 v l.length (l.map (ap .i64)):=hm.get (i:=0) I;have Hd:=ho;rcases ho.2 with⟨rfl,h0⟩|⟨g,cap,oU,rfl,_,hg,hc,hx,hs,ht⟩
 ·refine(slices_Sort_int_none aj 0 w).mono fun e w' ⟨he,hw⟩=>⟨(),trivial,he,?_⟩
  obtain rfl:l=[]:=Y9.1 h0;rw[hw];exact(by simpa[vB]using hm)
 ·obtain⟨h1,h2,h3,h4⟩:=Iz Hd
  refine(slices_Sort_int g 0 cap l w h1 h2 hl).mono fun e w' ⟨he,n,os,hw⟩=>⟨(),trivial,he,?_⟩;have hlen:(vB l).length=l.length:=Y_ _;have:=Tz hm (vB l).toArray (by simp[hlen]) l.length (aT _) n os;rw[ig (by simp[hlen])]at this;rw[hw];exact this
theorem Fs(v:Value)(l:List Int)(w:World)(B:b_)(hm:Mem B [bx 3 1 v l.length (l.map (ap .i64))] w):
 Calls aC 149 #[v] w (dX ⟨fun(_:Value)=>True,fun v'=>v',fun v'=>[bx 3 1 v' (rD l).length ((rD l).map (ap .i64))]⟩ B):=by
 have ho:w.ownsRow 0 3 1 v l.length (l.map (ap .i64)):=hm.get (i:=0) I;have Hd:=ho;rcases ho.2 with⟨rfl,h0⟩|⟨g,cap,oU,rfl,_,hg,hc,hx,hs,ht⟩
 ·refine(slices_Compact_int_empty aj 0 w).mono fun e w' ⟨he,hw⟩=>⟨ak aj 0 0,trivial,he,?_⟩
  obtain rfl:l=[]:=Y9.1 h0;rw[hw];exact hm
 ·obtain⟨h1,h2,h3,h4⟩:=Iz Hd
  refine(slices_Compact_int g 0 cap l w h1 (by unfold maxLen at hx;omega) J).mono fun e w' ⟨he,n,hw⟩=>⟨ak (ah ⟨g,0,aj⟩) (rD l).length cap,trivial,he,?_⟩;have hle:(rD l).length<=l.length:=Lib.compact_length_le l;have:=Tz hm (rD l++db (l.length-(rD l).length) 0).toArray (by simp;omega) (rD l).length hle n #[];rw[grow_empty]at this;simp only[List.toList_toArray,List.take_left]at this;rw[hw];exact this
end cg
namespace cg
open Go.RowKit cT ey
theorem TA(l:List Int):∀u∈l.flatMap cT.eX,u.oneCell'=true:=by
 intro u hu;obtain⟨f,_,h⟩:=P8.1 hu;simp only[cT.eX,df,fI,or_false]at h;subst h;rfl
theorem IA(l:List Int):l.flatMap cT.eX=l.map (.int .i64):=cT.aeV l
end cg
namespace cg
open Go.RowKit cT ey
theorem Nl(a:Int):(cT.eX a).length=1:=rfl
theorem ua(v:Value)(l:List Int)(w:World)(hs:Sl w v l.length (l.flatMap cT.eX))(hl:l.length*8<=140737488355328):
 Calls aC 97 #[v] w (cJ (dr 3 1 l.length (l.flatMap cT.eX) id) w):=by
 obtain⟨base,cap,rfl,tb,sc,fZ⟩:=hs;unfold maxLen at sc;refine enter (args:=[ak base l.length cap]) (n:=8) Tryz.func97 I I I ?_;have vD:∀w',Gr w w'->Sl w' (ak base l.length cap) l.length (l.flatMap cT.eX):=fun w' hg=>Sl.gr ⟨base,cap,rfl,tb,sc,fZ⟩ hg;clear fZ
 cases base with
 | none=>
  repeat(first|refine GC ?_|refine gV (r7 bI.eq I I I) ?_|refine GB ?_)
  have h0:l=[]:=by
   cases l with
   |nil=>rfl
   |cons x l=>obtain⟨_,_,h,_,_,h2⟩:=vD w (Gr.refl w);simp only[kr]at h;obtain⟨rfl,_⟩:=h;obtain⟨b,off,h,_⟩:=h2 (by simp);cases h
  subst h0;refine eL 3 1 ?_;exact dq I I fun w hm=>hm.meets (S:=dr 3 1 0 [] id) _ trivial [0] akV I
 |some p=>
  repeat(first|refine GC ?_|refine gV (r7 bI.eq I I I) ?_|refine GB ?_)
  refine JU I fun g=>?_
  try refine GA ?_
  refine eT (i:=0) I (fun w' hm=>vD w' hm.below) I I (nS Nl l) (TA l) J J I fun v'=>?_;rw[fN]
  try refine GA ?_
  refine dq I I fun w hm=>?_;exact hm.meets (S:=dr 3 1 l.length (l.flatMap cT.eX) id) v' trivial [0] akV (by simp[dr])
end cg
namespace cg
open Go.RowKit cT ey eB
theorem sj(l:List Int):l.flatMap cT.eX=l.map (ap .i64):=by
 induction l with
 |nil=>rfl
 |cons x r ih=>rw[jF,ih];rfl
abbrev gC(v:Value)(l:List Int):b9:=bx 3 1 v l.length (l.map (ap .i64))
def ub(l:List Int):Spec Value:=⟨fun _=>True,fun v=>v,fun v=>[gC v l]⟩
theorem iC(va vb:Value)(a b:List Int)(w:World)(ha:Sl w va a.length (a.map (ap .i64)))(hb:Sl w vb b.length (b.map (ap .i64)))(hla:a.length<=1000000)(hlb:b.length<=1000000):
 Calls aC 113 #[va,vb] w (cJ (ub (rH a b)) w):=by
 have jZ:=fun w' (hg:Gr w w')=>ua va a w' (by rw[sj];exact ha.gr hg) J;refine enter (args:=[va,vb]) (n:=14) Tryz.func113 I I I ?_
 try refine GA ?_
 refine aW (kZ aF.en I I) (fun w hm=>jZ _ hm.below) I I I ?_;intro v1 _;refine zL ?_;rw[sj]
 try refine GA ?_
 refine eT (i:=0) (bytes:=8) (m:=a.length) (xs:=a.map (ap .i64)) (k:=b.length) (ys:=b.map (ap .i64)) I (afO hb) I I (by rw[dw,kQ]) (fun u hu=>by obtain⟨x,_,rfl⟩:=eI.1 hu;rfl) J J I fun v2=>?_;rw[<-eb,<-bK];refine zL ?_
 try refine GA ?_
 refine bH [0] [] akV I I (kZ aF.en I I) (fun w hm hb=>Nk v2 (a++b) w _ hb (by rw[bK];omega)) I I I ?_;intro _ _;refine zL ?_
 try refine GA ?_
 rw[show(a++b).length=(cg.vB (a++b)).length from(Y_ _).symm];refine bH [0] [] akV I I (kZ aF.en I I) (fun w hm hb=>Fs v2 (cg.vB (a++b)) w _ hb) I I I ?_;intro v3 _;refine zL ?_
 try refine GA ?_
 exact dq I I fun w hm=>hm.meets (S:=ub (rH a b)) v3 trivial [0] akV I
end cg
namespace cg
open Go.RowKit cT ey eB
def Ah(v:Value):List Value:=[v]
theorem Nn(v:Value):(Ah v).length=1:=rfl
theorem VT(l:List Value):l.flatMap Ah=l:=by
 induction l with
 |nil=>rfl
 |cons x r ih=>rw[jF,ih];rfl
theorem Kw{w w':World}{e:TypeId}{size n:Nat}{v:Value}{xs:List Value}(h:w.ownsRow 0 e size v n xs)(hk:∀k,v.ownBlock=ah k->w'.heap[k]?=w.heap[k]?):w'.ownsRow 0 e size v n xs:=by
 refine⟨h.1,?_⟩;rcases h.2 with hn|⟨g,cap,oU,rfl,xl,hg,rest⟩
 exact .inl hn;exact .inr ⟨g,cap,oU,rfl,xl,by rw[hk g I];exact hg,rest⟩
def agd:zk (List Int):=
 ⟨1,fun F w cs l=>∃v,cs=[v]/\(∀x∈l,cT.dM x)/\w.ownsRow 0 3 1 v l.length (l.map (ap .i64))/\∀k,v.ownBlock=ah k->F k,fun⟨_,h,_⟩=>by rw[h];rfl,
  fun⟨v,h1,h2,h3,h4⟩ hk=>⟨v,h1,h2,Kw h3 fun k h=>hk k (h4 k h),h4⟩,fun⟨v,h1,h2,h3,h4⟩ hk=>⟨v,h1,h2,h3,fun k h=>hk k (h4 k h)⟩⟩
abbrev yP(v:Value)(vs:List Value):b9:=bx 26 1 v vs.length (vs.flatMap Ah)
abbrev vH(F:Nat->Prop)(vs:List Value)(nF:List (List Int)):b9:=eY agd F (vs.map Ah) nF
def TB(vc vr vf vfol vl ve:Value)(bU:Int):Array Value:=#[vc,vr,vf,vfol,vl,ve,ap av bU]
theorem ado{α:Type}{s:zk α}{F F2:Nat->Prop}{iG:List (List Value)}{cs:List Value}{l:List α}{a:α}{w:World}{k:Nat}(he:(eY s F iG l).holds w)(hs:s.is F2 w cs a)(h2:∀k,F2 k->k<w.heap.size):
 (eY s (fun k=>F k\/F2 k) (iG.set k cs) (l.set k a)).holds w:=by
 obtain⟨⟨h1,h3⟩,h4⟩:=he;refine⟨⟨by simp[h1],fun i hi pP=>?_⟩,fun k hk=>hk.elim (h4 k) (h2 k)⟩;rw[Zc,Zc]
 by_cases c:k=i
 ·subst c
  rw[if_pos I,if_pos I];exact s.mono hs fun q hq=> .inr hq
 ·rw[if_neg c,if_neg c]
  exact s.mono (h3 i (by simpa using hi) (by simpa using pP)) fun q hq=> .inl hq
theorem ZN{F:Nat->Prop}{vs:List Value}{nF:List (List Int)}{w:World}(he:(vH F vs nF).holds w){k:Nat}(hk:k<nF.length)(nu:k<vs.length):Sl w vs[k] nF[k].length (nF[k].map (ap .i64)):=by
 obtain⟨⟨h1,h3⟩,_⟩:=he;obtain⟨v,hv,_,hs,_⟩:=h3 k hk (by simpa using nu);rw[oZ]at hv;unfold Ah at hv;simp only[fg,and_true]at hv;rw[hv];exact Sl.dy hs
theorem age{w:World}{v:Value}{l:List Int}(hp:∀x∈l,cT.dM x)(h:(gC v l).holds w):agd.is (fun k=>v.ownBlock=ah k) w [v] l:=
 ⟨v,rfl,hp,h,fun _ h=>h⟩
def TC(g:Nat)(vc vr vf vfol vl ve:Value)(bU:Int)(va vb:Value)(nF:List (List Int))(last first:List Int):Spec (List Value×(Nat->Prop)):=
 ⟨fun x=>x.1.length=nF.length,fun _=> .tuple #[],fun x=>[aO g (TB vc vr vf vfol vl ve bU) 242,yP vfol x.1,vH x.2 x.1 (fG nF last first),gC va last,gC vb first]⟩
theorem No(nF:List (List Int))(last first:List Int){k:Nat}(hk:k<last.length):fG nF (last.take (k+1)) first=(fG nF (last.take k) first).set last[k].toNat (rH ((fG nF (last.take k) first).getD last[k].toNat []) first):=by
 unfold fG;rw[ir hk,P7];rfl
theorem Ai(g:Nat)(vc vr vf vfol vl ve:Value)(bU:Int)(va vb:Value)(vs:List Value)(F:Nat->Prop)(nF:List (List Int))(last first:List Int)(w:World)(B:b_)
 (hvs:vs.length=nF.length) (hn:nF.length<=100000) (ajy:∀l∈nF,Iw nF.length l) (hla:Iw nF.length last) (TE:Iw nF.length first)
 (hm:Mem B [aO g (TB vc vr vf vfol vl ve bU) 242,yP vfol vs,vH F vs nF,gC va last,gC vb first] w):
 Calls aC 147 #[aH (ah ⟨g,0,aj⟩),va,vb] w (dX (TC g vc vr vf vfol vl ve bU va vb nF last first) B):=by
 have akl:=jQ hla;have ajz:=jQ TE;have hva:∃a c,va=ak a last.length c:=by
  obtain⟨base,cap,h,_⟩:=Sl.dy (show w.ownsRow 0 3 1 va last.length (last.map (ap .i64))from hm.get (i:=3) rfl);exact⟨base,cap,h⟩
 obtain⟨aa,ca,rfl⟩:=hva;refine eR hm (args:=[aH (ah ⟨g,0,aj⟩),ak aa last.length ca,vb]) (n:=32) Tryz.func147 I I I ?_;clear hm
 try refine GA ?_
 refine dU (ι:=Nat×List Value×(Nat->Prop)) (fun(k,vs,F)=>k<=last.length/\vs.length=nF.length) (fun(k,_,_)=>[(0,aH (ah ⟨g,0,aj⟩)),(2,vb),(8,ak aa last.length ca),(9,ap av last.length),(10,ap av (k:Int))])
  (fun(k,vs,F)=>[aO g (TB vc vr vf vfol vl ve bU) 242,yP vfol vs,vH F vs (fG nF (last.take k) first),gC (ak aa last.length ca) last,gC vb first]) (fun(k,_,_)=>last.length-k) (0,vs,F) ⟨bC _,hvs⟩ ?_
 clear hvs vs F;rintro⟨k,vs,F⟩ ⟨i1,i2⟩;dsimp only at i1 i2⊢
 by_cases c6:k<last.length
 ·have hstep:=No nF last first c6
  have ajA:=tE (n:=nF.length) TE.2 (last.take k) nF ajy;have hlen:=lq nF (last.take k) first;have hx:=hla.2 last[k] (bV c6);have hgx:last[k]?=ah last[k]:=bm c6;generalize fG nF (last.take k) first=fo at*;generalize last[k]=x at*;obtain⟨xn,rfl⟩:=fz hx.1;rw[cX]at hstep;have hxn:xn<fo.length:=by omega
  have rI:fo.getD xn []=fo[xn]:=by rw[bD,bm hxn];rfl
  rw[rI]at hstep;have hrx:=ajA fo[xn] (bV hxn);have IB:=jQ hrx;have hru:=tD hrx.2 TE.2;have hul:=jQ hru;refine iH (i:=1) (φ:=∃gf cap,vfol=ak (ah ⟨gf,0,aj⟩) vs.length cap/\vs.length<=cap) I (fun w h=>by
   obtain⟨h1,h2⟩:=(show w.ownsRow 0 26 1 vfol vs.length (vs.flatMap Ah)from h);rcases h2 with⟨_,h0⟩|⟨gf,cap,oU,hv,_,_,hc,_⟩
   omega;exact⟨gf,cap,hv,hc⟩) fun hvf=>?_
  obtain⟨gf,agf,rfl,hcf⟩:=hvf;refine iH (i:=3) (φ:=∃ga,aa=ah ⟨ga,0,aj⟩) I (fun w h=>by
   obtain⟨h1,h2⟩:=(show w.ownsRow 0 3 1 (ak aa last.length ca) last.length (last.map (ap .i64))from h);rcases h2 with⟨_,h0⟩|⟨gf,cap,oU,hv,_,_,hc,_⟩
   omega
   cases hv;exact⟨gf,rfl⟩) fun hva=>?_
  obtain⟨ga,rfl⟩:=hva;have hxv:xn<vs.length:=by omega
  have gv:∀(L:List b9) (hi:L[1]?=ah (yP (ak (ah ⟨gf,0,aj⟩) vs.length agf) vs)),At B L ⟨gf,0+xn*1+0,aj⟩ vs[xn]:=fun L hi=>oC Nn hi hxv 0 _ I;have ajB:∀(L:List b9) (hi:L[3]?=ah (gC (ak (ah ⟨ga,0,aj⟩) last.length ca) last)),At B L ⟨ga,0+k*1,aj⟩ (ap av (xn:Int)):=fun L hi=>ku hi (by rw[eQ,cI,kQ,hgx];rfl)
  repeat(first|refine GA ?_|refine gV (aR bI.eq aI.ty I I c6) ?_|refine gV (aw (v:=ap av (xn:Int)) aI.ty I (ajB _ I)) ?_)
  (repeat refine bY ?_)
  refine dK ([aO g (TB vc vr vf (ak (ah ⟨gf,0,aj⟩) vs.length agf) vl ve bU) 242]) (.calm 0 (.calm 1 (.calm 2 (.calm 3 (.calm 4 (.calm 5 (.calm 6 (.calm 7 (.calm 8 (.calm 9 (.calm 10 (.calm 11 (.calm 12 (.calm 14 (.one 13 (.one 15 (.calm 16 (.one 17 (.done))))))))))))))))))) (bZ [0]) ?_
  repeat(first|refine GW ?_|(refine GN ?_;first|refine QW (aw (v:=ak (ah ⟨gf,0,aj⟩) vs.length agf) aI.ty I (aE (i:=0) I I)) ?_|refine QW (aR bI.eq aI.ty I I hxv) ?_))
  refine aJ I (dC (aw (v:=vs[xn]) aI.ty I (gv _ I)) I I I (aK (bZ [0]) ?_))
  try refine GW ?_
  refine aJ I (aW (fP aF.en I I I) (fun w' hm=>iC vs[xn] vb fo[xn] first w' (ZN (hm.get (i:=2) I) hxn hxv) (Sl.dy (hm.get (i:=4) I)) J J) I I I ?_);intro v _
  conv=>arg 8;simp only[zJ,dr,ret,id_eq,ub]
  refine aV (i:=5) I fun r8 zy=>?_;refine aK (bZ [0]) ?_
  repeat(first|refine GW ?_|(refine GN ?_;first|refine QW (aR bI.eq aI.ty I I hxv) ?_))
  refine aJ I (Bk Nn (i:=1) (k:=xn) (l:=vs) (a:=v) aI.ty I I J hxv I I r8 (by simp only[Ah,cV,dc,zy];rfl) (aK (bZ [0]) ?_))
  try refine GW ?_
  try refine GA ?_
  refine J0 (vH (fun k=>F k\/v.ownBlock=ah k) (vs.set xn v) (fo.set xn (rH fo[xn] first))) 5 2 [0,1,3,4] akV I I I (fun k hk=>hk.elim (fun h=>by cases h) fun h=>h.elim (fun h=> .inr (.inr h)) fun h=> .inl (.inl h)) (fun w hr he=>?_) ?_
  ·have:=ado (k:=xn) he (age (fun x hx=>⟨by have:=hru.2 x hx;omega,by have:=hru.2 x hx;omega⟩) hr) fun k hk=>(gC v (rH fo[xn] first)).lt w hr k (.inl hk)
   rw[show([v]:List Value)=Ah v from I,<-o7]at this;exact this
  refine dv [0,1,4,2,3] ?_;exact bO (k+1,vs.set xn v,fun k=>F k\/v.ownBlock=ah k) ⟨by omega,by rw[J5];exact i2⟩ (by show last.length-(k+1)<last.length-k;omega) (hl:=by dsimp only;rw[hstep];show _=[_,bx _ _ _ (vs.set xn v).length _,_,_,_];rw[J5];rfl)
 ·obtain rfl:k=last.length:=by omega
  rw[ig (aT _)]
  try refine GA ?_
  exact Bj I fun w hm=>hm.cZ (S:=TC g vc vr vf vfol vl ve bU (ak aa last.length ca) vb nF last first) (vs,F) i2 [0,1,2,3,4] akV I
end cg
namespace cg
open Go.RowKit cT ey dj gu eB
def BC(B:b_)(k:Nat):Prop:=k<B.w.heap.size/\¬B.X k
theorem tG{B:b_}{L:List b9}{b off:Nat}{cs:List Value}(hb:BC B b)(h:Rd B.w b off cs)(j:Nat)(v:Value)(hj:cs[j]?=ah v):At B L ⟨b,off+j,aj⟩ v:=fun _ hm=>
 rd_stay h (hm.low.block b hb.1 hb.2) j v hj
theorem agh{B:b_}{Lx:List b9}{w:World}(hm:Mem B Lx w){k:Nat}(hk:BC B k):BC (b_.on w Lx) k:=by
 refine⟨jt hk.1 hm.low.size,?_⟩;rintro⟨o,ho,hf⟩;obtain⟨i,hi⟩:=List.mem_iff_getElem?.1 ho;rcases(hm.owns.all i o hi).2 k hf with h|h
 have:=hk.1;omega;exact hk.2 h
theorem fj{B:b_}{Lx:List b9}{w:World}{v:Value}{r:Rx}(hm:Mem B Lx w)(h:oW (BC B) B.w v r):oW (BC (b_.on w Lx)) w v r:=
 (h.stay fun k hk=>hm.low.block k hk.1 hk.2).mono fun _ hk=>agh hm hk
structure Xw where
 vc:Value
 vr:Value
 vfol:Value
 vl:Value
 vs:List Value
 F:Nat->Prop
def ox(g:Nat)(vf ve:Value)(bU:Int)(x:Xw)(p:PS):List b9:=
 [aO g (TB x.vc x.vr vf x.vfol x.vl ve bU) 242,bx 116 4 x.vc p.aZ.length (p.aZ.flatMap d_),gC x.vr p.rules,yP x.vfol x.vs,vH x.F x.vs p.follow,bx 4 1 x.vl p.last.length (p.last.map gd)]
def cH(g:Nat)(vf ve:Value)(bU:Int)(R:Shape×PS):Spec (Xw×Value×Value):=
 ⟨fun x=>x.1.vs.length=R.2.follow.length,fun x=>aP #[.bool R.1.empty,x.2.1,x.2.2],fun x=>ox g vf ve bU x.1 R.2++[gC x.2.1 R.1.first,gC x.2.2 R.1.last]⟩
theorem Qv(w:World):(dm 244 (#[]:Array (Nat×Value))).run aC w= .ok (aP #[.bool aD,ak aj 0 0,ak aj 0 0]) w:=by
 go_simp
theorem Qw(w:World):(dm 244 #[(0,.bool aB)]).run aC w= .ok (aP #[.bool aB,ak aj 0 0,ak aj 0 0]) w:=by
 go_simp
def Kx(M:Nat):Prop:=∀(e:Re),e.size<=M->∀(g:Nat) (vf ve:Value) (bU:Int) (p:PS) (x:Xw) (v:Value) (w:World) (B:b_),Nc p->x.vs.length=p.follow.length->p.aZ.length+e.size<=100000->cT.dM bU->oW (BC B) B.w v (mb e)->Mem B (ox g vf ve bU x p) w->
 Calls aC 112 #[aH (ah ⟨g,0,aj⟩),v] w (dX (cH g vf ve bU (cC bU e p)) B)
theorem VU(g:Nat)(vf ve:Value)(bU:Int)(p:PS)(x:Xw)(v:Value)(w:World)(B:b_)(hx:x.vs.length=p.follow.length)(hv:oW (BC B) B.w v (mb .none))(hm:Mem B (ox g vf ve bU x p) w):
 Calls aC 112 #[aH (ah ⟨g,0,aj⟩),v] w (dX (cH g vf ve bU (cC bU .none p)) B):=by
 obtain⟨vk,rfl,_,Te⟩:=hv;obtain⟨bk,ck,rfl,-⟩:=Te;unfold ox at hm;refine eR hm (args:=[aH (ah ⟨g,0,aj⟩),rA (mb .none).kind (mb .none).uJ (ak bk (mb .none).kids.length ck)]) (n:=176) Tryz.func112 I I I ?_;clear hm;refine bY (a_ (bQ I I I fun g3=>aY I fun g4=>?_));refine zL ?_
 repeat(first|refine GA ?_|refine gV (aw (v:=ap av 1) aI.ty I (aE (i:=6) I I)) ?_|refine gV (bz I Qv) ?_)
 refine gG 7 ?_;refine zL ?_
 try refine GA ?_
 refine eL 3 1 (eL 3 1 ?_);exact gU (i:=7) I I I I fun w hm=>hm.cZ (S:=cH g vf ve bU (cC bU .none p)) (x,ak aj 0 0,ak aj 0 0) hx [0,1,2,3,4,5,8,9] akV I
theorem Qx(g:Nat)(vf ve:Value)(bU:Int)(p:PS)(x:Xw)(v:Value)(w:World)(B:b_)(hx:x.vs.length=p.follow.length)(hv:oW (BC B) B.w v (mb .empty))(hm:Mem B (ox g vf ve bU x p) w):
 Calls aC 112 #[aH (ah ⟨g,0,aj⟩),v] w (dX (cH g vf ve bU (cC bU .empty p)) B):=by
 obtain⟨vk,rfl,_,Te⟩:=hv;obtain⟨bk,ck,rfl,-⟩:=Te;unfold ox at hm;refine eR hm (args:=[aH (ah ⟨g,0,aj⟩),rA (mb .empty).kind (mb .empty).uJ (ak bk (mb .empty).kids.length ck)]) (n:=176) Tryz.func112 I I I ?_;clear hm;refine bY (a_ (bQ I I I fun g3=>aY I fun g4=>?_));refine zL ?_
 repeat(first|refine GA ?_|refine gV (aw (v:=ap av 2) aI.ty I (aE (i:=6) I I)) ?_|refine gV (bz I Qw) ?_)
 refine gG 7 ?_;refine zL ?_
 try refine GA ?_
 refine eL 3 1 (eL 3 1 ?_);exact gU (i:=7) I I I I fun w hm=>hm.cZ (S:=cH g vf ve bU (cC bU .empty p)) (x,ak aj 0 0,ak aj 0 0) hx [0,1,2,3,4,5,8,9] akV I
def Np(g:Nat)(bU:Int):b9:=
 ⟨ah g,fun _=>False,fun w=>∃vc vr vf vfol vl ve,w.heap[g]?=ah (.cells (TB vc vr vf vfol vl ve bU) 242 (0,0)),fun w ⟨_,_,_,_,_,_,h⟩ k hk=>by simp only[dg,or_false]at hk;subst hk;exact(kq.1 h).1,
  fun w w' ⟨vc,vr,vf,vfol,vl,ve,h⟩ _ hb=>⟨vc,vr,vf,vfol,vl,ve,by rw[hb g (.inl I)];exact h⟩⟩
theorem nh{B:b_}{L:List b9}{g:Nat}{vc vr vf vfol vl ve:Value}{bU:Int}(h:L[0]?=ah (aO g (TB vc vr vf vfol vl ve bU) 242)):∀w,Mem B L w->Mem B [Np g bU] w:=fun w hm=>by
 have h1:=hm.pick (L':=[aO g (TB vc vr vf vfol vl ve bU) 242]) [0] akV (by simp[h]);exact h1.acZ (i:=0) (Np g bU) I ⟨vc,vr,vf,vfol,vl,ve,h1.get (i:=0) I⟩ fun k hk=>hk
theorem adp{B:b_}{L:List b9}{g i:Nat}{bU:Int}(h:L[i]?=ah (Np g bU)):At B L ⟨g,6,aj⟩ (ap av bU):=fun w hm=>by
 obtain⟨vc,vr,vf,vfol,vl,ve,h⟩:=(hm.get h:(Np g bU).holds w);rw[cell_of_row w g 6 _ _ _ h];rfl
theorem TF(c:C4)(u:Value)(h:u∈d_ c):u.oneCell'=true:=by
 simp only[d_,df,fI,or_false]at h;rcases h with rfl|rfl|rfl|rfl<;>rfl
theorem VV(c:C4){k:Int}{vk v:Value}{j:Nat}(hj:(d_ c)[j]?=ah v):((mQ k c vk).toArray)[1+j]?=ah v:=by
 match j,hj with
 |0,hj=>exact hj
 |1,hj=>exact hj
 |2,hj=>exact hj
 |3,hj=>exact hj
theorem Qy(b b':Option Addr)(m m' k k':Nat)(w:World):(dm 244 #[(1,ak b m k),(2,ak b' m' k')]).run aC w= .ok (aP #[.bool aD,ak b m k,ak b' m' k']) w:=by
 go_simp
theorem IC(v:Value)(l:List Int)(x:Int):bx 3 1 v (l.length+1) (l.map (ap .i64)++[ap av x])=gC v (l++[x]):=by
 show _=bx 3 1 v (l++[x]).length ((l++[x]).map (ap .i64))
 rw[bK,eb];rfl
theorem ZO(v:Value)(l:List Value)(x:Value):bx 26 1 v (l.length+1) (l.flatMap Ah++[x])=yP v (l++[x]):=by
 show _=bx 26 1 v (l++[x]).length ((l++[x]).flatMap Ah)
 rw[bK,fH];rfl
theorem BD(v:Value)(l:List Bool)(x:Bool):bx 4 1 v (l.length+1) (l.map gd++[.bool x])=bx 4 1 v (l++[x]).length ((l++[x]).map gd):=by
 rw[bK,eb];rfl
theorem Ky{w:World}{g:Nat}{n:Int}(h:(aO g #[ap av n] 3).holds w):(gC (ak (ah ⟨g,0,aj⟩) 1 1) [n]).holds w:=
 ⟨rfl,.inr ⟨g,1,_,rfl,bC _,h,aT _,by decide,rfl,rfl⟩⟩
theorem VW(c:C4)(g:Nat)(vf ve:Value)(bU:Int)(p:PS)(x:Xw)(v:Value)(w:World)(B:b_)(hp:Nc p)(hx:x.vs.length=p.follow.length)(hn:p.aZ.length<=100000)(hv:oW (BC B) B.w v (mb (.byte c)))(hm:Mem B (ox g vf ve bU x p) w):
 Calls aC 112 #[aH (ah ⟨g,0,aj⟩),v] w (dX (cH g vf ve bU (cC bU (.byte c) p)) B):=by
 obtain⟨vk,rfl,_,Te⟩:=hv;obtain⟨bk,ck,rfl,-⟩:=Te;obtain⟨vc,vr,vfol,vl,vs,F⟩:=x;unfold ox at hm;dsimp only at hx hm;refine eR hm (args:=[aH (ah ⟨g,0,aj⟩),rA (mb (.byte c)).kind (mb (.byte c)).uJ (ak bk (mb (.byte c)).kids.length ck)]) (n:=176) Tryz.func112 I I I ?_;clear hm;refine bY (a_ (bQ I I I fun g3=>aY I fun g4=>?_));refine zL ?_;refine ot (i:=1) I fun bc cc hvc r8 C1=>?_;subst hvc
 repeat(first|refine GA ?_|refine gV (aw (v:=ap av 3) aI.ty I (aE (i:=6) I I)) ?_|refine gV (aw (v:=ak bc p.aZ.length cc) aI.ty I (aE (i:=0) I I)) ?_)
 (repeat refine bY ?_)
 refine my (ι:=Value) (fun _=>True) (fun _=>[(0,aH (ah ⟨g,0,aj⟩)),(3,aH (ah ⟨g3,0,aj⟩)),(4,aH (ah ⟨g4,0,aj⟩)),(5,ap av p.aZ.length)])
  (fun Hn=>[aO g (TB Hn vr vf vfol vl ve bU) 242,bx 116 4 Hn (p.aZ++[c]).length ((p.aZ++[c]).flatMap d_),gC vr p.rules,yP vfol vs,vH F vs p.follow,bx 4 1 vl p.last.length (p.last.map gd),aO g4 #[.bool aD,ak aj 0 0,ak aj 0 0] 244]) ?_ ?_
 ·refine dK ([aO g3 (mQ 3 c (ak bk 0 ck)).toArray 119]) (.calm 0 (.calm 1 (.calm 2 (.calm 3 (.calm 4 (.calm 6 (.calm 7 (.two 5 (.one 8 (.one 9 (.calm 10 (.calm 11 (.calm 12 (.one 13 (.done))))))) 8 (.one 5 (.one 9 (.calm 10 (.calm 11 (.calm 12 (.one 13 (.done))))))))))))))) (bZ [6]) ?_
  repeat(first|refine GW ?_|(refine GN ?_;first|refine QW (aU (cs:=d_ c) aI.ty I I (fun j v hj=>aE (i:=0) I (VV c hj))) ?_))
  refine fe I I ?_ ?_
  ·refine dC (aw (v:=ak bc p.aZ.length cc) aI.ty I (aE (i:=0) I I)) I I I (aK (bZ [6]) ?_)
   refine aJ I (fF (cs:=(d_ c).toArray) [pu c] I I I (by intro v hv;simp at hv;subst hv;rfl) I I I fun g33=>(aK (bZ [6]) ?_));refine aJ I (eT (i:=1) (e:=116) (size:=4) (bytes:=32) (m:=p.aZ.length) (xs:=p.aZ.flatMap d_) (k:=1) (ys:=d_ c) I (k9 (i:=8) I (fun j u h=>by simpa using h) (aT 1) akV) I I I (fun u hu=>TF c u hu) J J I fun Hn=>(aK (bZ [6]) ?_))
   try refine GW ?_
   refine aJ I (aV (i:=1) I fun jM nG=>bT (i:=0) I I I jM nG I (aK (bZ [6]) ?_))
   try refine GW ?_
   refine dv [0,1,2,3,4,5,7] ?_;exact e_ Hn trivial (by repeat' (first|exact cY|refine cK I ?_)) (by rw[bK,fH];rfl)
  refine fF (cs:=(d_ c).toArray) [pu c] I I I (by intro v hv;simp at hv;subst hv;rfl) I I I fun g33=>(aK (bZ [6]) ?_);refine aJ I (dC (aw (v:=ak bc p.aZ.length cc) aI.ty I (aE (i:=0) I I)) I I I (aK (bZ [6]) ?_));refine aJ I (eT (i:=1) (e:=116) (size:=4) (bytes:=32) (m:=p.aZ.length) (xs:=p.aZ.flatMap d_) (k:=1) (ys:=d_ c) I (k9 (i:=8) I (fun j u h=>by simpa using h) (aT 1) akV) I I I (fun u hu=>TF c u hu) J J I fun Hn=>(aK (bZ [6]) ?_))
  try refine GW ?_
  refine aJ I (aV (i:=1) I fun jM nG=>bT (i:=0) I I I jM nG I (aK (bZ [6]) ?_))
  try refine GW ?_
  refine dv [0,1,2,3,4,5,7] ?_;exact e_ Hn trivial (by repeat' (first|exact cY|refine cK I ?_)) (by rw[bK,fH];rfl)
 clear r8 C1;intro Hn _
 try refine GA ?_
 (repeat refine bY ?_)
 have IB:=hp.rules;refine my (ι:=Value) (fun _=>True) (fun _=>[(0,aH (ah ⟨g,0,aj⟩)),(4,aH (ah ⟨g4,0,aj⟩)),(5,ap av p.aZ.length)])
  (fun Dx=>[aO g (TB Hn Dx vf vfol vl ve bU) 242,bx 116 4 Hn (p.aZ++[c]).length ((p.aZ++[c]).flatMap d_),gC Dx (p.rules++[bU]),yP vfol vs,vH F vs p.follow,bx 4 1 vl p.last.length (p.last.map gd),aO g4 #[.bool aD,ak aj 0 0,ak aj 0 0] 244]) ?_ ?_
 ·refine dK ([Np g bU]) (.calm 0 (.calm 1 (.calm 2 (.calm 3 (.calm 4 (.calm 6 (.calm 7 (.calm 8 (.calm 9 (.two 5 (.one 10 (.one 11 (.calm 12 (.calm 13 (.calm 14 (.one 15 (.done))))))) 10 (.one 5 (.one 11 (.calm 12 (.calm 13 (.calm 14 (.one 15 (.done))))))))))))))))) (nh I) ?_
  repeat(first|refine GW ?_|(refine GN ?_;first|refine QW (aw (v:=ap av bU) aI.ty I (adp (i:=0) I)) ?_))
  refine fe I I ?_ ?_
  ·refine dC (aw (v:=vr) aI.ty I (aE (i:=0) I I)) I I I (aK (nh I) ?_)
   refine aJ I (fF (cs:=#[ap av bU]) [ap av bU] I I I (by intro v hv;simp at hv;subst hv;rfl) I I I fun g48=>(aK (nh I) ?_));refine aJ I (eT (i:=2) (e:=3) (size:=1) (bytes:=8) (m:=p.rules.length) (xs:=p.rules.map (ap .i64)) (k:=1) (ys:=[ap av bU]) I (k9 (i:=7) I (fun j u h=>by simpa using h) (aT 1) akV) I I I (fun u hu=>by rw[dH.1 hu];rfl) J J I fun Dx=>(aK (nh I) ?_))
   try refine GW ?_
   refine aJ I (aV (i:=2) I fun jM nG=>bT (i:=0) I I I jM nG I (aK (nh (vc:=Hn) (vr:=Dx) (vf:=vf) (vfol:=vfol) (vl:=vl) (ve:=ve) I) ?_))
   try refine GW ?_
   refine dv [0,1,2,3,4,5,6] ?_;exact e_ Dx trivial (by repeat' (first|exact cY|refine cK I ?_)) (by rw[<-IC Dx p.rules bU];rfl)
  refine fF (cs:=#[ap av bU]) [ap av bU] I I I (by intro v hv;simp at hv;subst hv;rfl) I I I fun g48=>(aK (nh I) ?_);refine aJ I (dC (aw (v:=vr) aI.ty I (aE (i:=0) I I)) I I I (aK (nh I) ?_));refine aJ I (eT (i:=2) (e:=3) (size:=1) (bytes:=8) (m:=p.rules.length) (xs:=p.rules.map (ap .i64)) (k:=1) (ys:=[ap av bU]) I (k9 (i:=7) I (fun j u h=>by simpa using h) (aT 1) akV) I I I (fun u hu=>by rw[dH.1 hu];rfl) J J I fun Dx=>(aK (nh I) ?_))
  try refine GW ?_
  refine aJ I (aV (i:=2) I fun jM nG=>bT (i:=0) I I I jM nG I (aK (nh (vc:=Hn) (vr:=Dx) (vf:=vf) (vfol:=vfol) (vl:=vl) (ve:=ve) I) ?_))
  try refine GW ?_
  refine dv [0,1,2,3,4,5,6] ?_;exact e_ Dx trivial (by repeat' (first|exact cY|refine cK I ?_)) (by rw[<-IC Dx p.rules bU];rfl)
 intro Dx _;have AX:=hp.follow;have Ve:=hp.last
 repeat(first|refine GA ?_|refine gV (aw (v:=vfol) aI.ty I (aE (i:=0) I I)) ?_)
 refine ka (i:=3) (bytes:=24) I I I I I I (fun z h=>by cases h;rfl) J J I fun z1 xJ=>?_;refine zL ?_
 try refine GA ?_
 refine aV (i:=3) I fun jM nG=>bT (i:=0) I I I jM nG I ?_;refine zL ?_
 repeat(first|refine GA ?_|refine gV (aw (v:=vl) aI.ty I (aE (i:=0) I I)) ?_)
 refine ka (i:=5) (bytes:=1) I I I I I I (fun z h=>by cases h;rfl) J J I fun z2 TG=>?_;refine zL ?_
 try refine GA ?_
 refine aV (i:=5) I fun jM nG=>bT (i:=0) I I I jM nG I ?_;refine zL ?_
 try refine GA ?_
 refine fF (cs:=#[ap av p.aZ.length]) [ap av p.aZ.length] I I I (by intro v hv;simp at hv;subst hv;rfl) I I I fun g76=>?_;refine zL ?_
 try refine GA ?_
 refine fF (cs:=#[ap av p.aZ.length]) [ap av p.aZ.length] I I I (by intro v hv;simp at hv;subst hv;rfl) I I I fun g78=>?_;refine zL ?_
 repeat(first|refine GA ?_|refine gV (bz I (Qy _ _ _ _ _ _)) ?_)
 refine gG 6 (cs':=#[.bool aD,ak (ah ⟨g76,0,aj⟩) 1 1,ak (ah ⟨g78,0,aj⟩) 1 1]) ?_;refine zL ?_
 try refine GA ?_
 refine pw (i:=7) (gC (ak (ah ⟨g76,0,aj⟩) 1 1) [(p.aZ.length:Int)]) I (fun w h=>Ky h) (fun k hk=>hk) ?_;refine pw (i:=8) (gC (ak (ah ⟨g78,0,aj⟩) 1 1) [(p.aZ.length:Int)]) I (fun w h=>Ky h) (fun k hk=>hk) ?_;refine pw (i:=4) (vH (fun k=>F k\/False) (vs++[ak aj 0 0]) (p.follow++[[]])) I (fun w h=>by
  have:=r9 (F2:=fun _=>False) h (show agd.is (fun _=>False) w [ak aj 0 0] []from⟨_,rfl,fun _ h=>(by cases h),⟨rfl,.inl ⟨rfl,rfl⟩⟩,fun _ h=>(by cases h)⟩) (fun k hk=>hk.elim);rw[show vs.map Ah++[[ak aj 0 0]]=(vs++[ak aj 0 0]).map Ah by rw[eb];rfl]at this;exact this) (fun k hk=>hk.elim (fun h=>by cases h) fun h=>h.elim (fun h=> .inr h) False.elim) ?_
 refine gU (i:=6) I I I I fun w hm=>?_;refine hm.cZ (S:=cH g vf ve bU (cC bU (.byte c) p)) (⟨Hn,Dx,xJ,TG,vs++[ak aj 0 0],fun k=>F k\/False⟩,ak (ah ⟨g76,0,aj⟩) 1 1,ak (ah ⟨g78,0,aj⟩) 1 1) (by show(vs++[_]).length=(p.follow++[[]]).length;rw[bK,bK,hx];rfl) [0,1,2,3,4,5,7,8] akV ?_;show[_,_,_,yP xJ (vs++[ak aj 0 0]),_,bx 4 1 TG (p.last++[aD]).length ((p.last++[aD]).map gd),_,_]=_
 rw[<-ZO,<-BD];rfl
end cg
namespace cg
open Go.RowKit cT ey dj gu eB
theorem VX{M:Nat}(IH:Kx M)(a:Re)(ha:a.size<=M)(g:Nat)(vf ve:Value)(bU:Int)(p:PS)(x:Xw)(v:Value)(w:World)(B:b_)(hp:Nc p)(hx:x.vs.length=p.follow.length)(hn:p.aZ.length+(a.size+1)<=100000)(Qz:cT.dM bU)(hv:oW (BC B) B.w v (mb (.star a)))(hm:Mem B (ox g vf ve bU x p) w):
 Calls aC 112 #[aH (ah ⟨g,0,aj⟩),v] w (dX (cH g vf ve bU (cC bU (.star a) p)) B):=by
 obtain⟨vk,rfl,_,Te⟩:=hv;obtain⟨bk,ck,rfl,h1,h2,h3⟩:=Te;obtain⟨b,off,rfl,hF,fZ⟩:=h3 (by show 0<1;decide);obtain⟨kb,kc,hr,VY⟩:=qX (k:=0) fZ (by show 0<1;decide);have eK:=fun(L:List b9) (j:Nat) (v:Value) hj=>tG (L:=L) hF hr j v hj;clear h3 fZ hr;obtain⟨Hf,Xx,ZP,hp4,hp5⟩:=mh bU a p hp;have ae_:cC bU (.star a) p=(⟨aB,(cC bU a p).1.first,(cC bU a p).1.last⟩,{(cC bU a p).2 with follow:=fG (cC bU a p).2.follow (cC bU a p).1.last (cC bU a p).1.first}):=rfl;have hIH:=fun w B hv hm=>IH a ha g vf ve bU p x (rA (mb a).kind (mb a).uJ (ak kb (mb a).kids.length kc)) w B hp hx J Qz hv hm;rw[ae_];generalize cC bU a p=R at*;obtain⟨⟨e,first,last⟩,p'⟩:=R;dsimp only at Hf Xx ZP hp4 hp5⊢;clear ae_;unfold ox at hm;refine eR hm (args:=[aH (ah ⟨g,0,aj⟩),rA 6 C4.zero (ak (ah ⟨b,off,aj⟩) 1 ck)]) (n:=176) Tryz.func112 I I I ?_;clear hm;refine bY (a_ (bQ I I I fun g3=>aY I fun g4=>?_));refine zL ?_
 repeat(first|refine GA ?_|refine gV (aw (v:=ap av 6) aI.ty I (aE (i:=6) I I)) ?_|refine gV (aw (v:=ak (ah ⟨b,off,aj⟩) 1 ck) aI.ty I (aE (i:=6) I I)) ?_|refine gV (aR (j:=0) bI.eq aI.ty I I akV) ?_|refine gV (aU aI.ty I I (eK _)) ?_)
 refine bH [0,1,2,3,4,5] [6,7] akV I I (fP aF.en I I I) (fun w hm hb=>hIH w _ (fj (hm.pick [0,1,2,3,4,5] akV I) VY) hb) I I I ?_;rintro⟨⟨vc,vr,vfol,vl,vs,F⟩,va,vb⟩ JM;have JM:vs.length=p'.follow.length:=JM
 conv=>arg 8;simp only[zJ,dr,ret,id_eq,cH,ox]
 conv=>arg 7;simp only[cH]
 refine aV (i:=8) I fun akv ahH=>?_;refine aV (i:=9) I fun akw ahI=>?_;refine aY I fun g6=>?_;refine zL ?_;refine aX (i:=10) (cs':=#[.bool e,va,vb]) I I I I (by simp only[cV,dc,ahH,ahI];rfl) I ?_;refine zL ?_
 repeat(first|refine GA ?_|refine gV (aw (v:=vb) aI.ty I (aE (i:=10) I I)) ?_|refine gV (aw (v:=va) aI.ty I (aE (i:=10) I I)) ?_)
 refine bH [2,5,6,9,8] [0,1,3,4,7,10] akV I I (ye aF.en I I I I) (fun w hm hb=>Ai g vc vr vf vfol vl ve bU vb va vs F p'.follow last first w _ JM (by rw[Hf.follow];omega) (by rw[Hf.follow];exact Hf.ris) (by rw[Hf.follow];exact hp5) (by rw[Hf.follow];exact hp4) hb) I I I ?_;rintro⟨qd,F'⟩ fQ;have fQ:qd.length=p'.follow.length:=fQ
 conv=>arg 8;simp only[zJ,dr,ret,id_eq,TC]
 try refine GA ?_
 refine bT (i:=5) I I I I I I ?_;refine zL ?_
 repeat(first|refine GA ?_|refine gV (aL (i:=5) aI.ty I I I) ?_)
 refine aX (i:=1) (cs':=#[.bool aB,va,vb]) I I I I (by simp only[cV,dc,ahH,ahI];rfl) I ?_;refine zL ?_
 try refine GA ?_
 refine gU (i:=1) I I I I fun w hm=>?_;exact hm.cZ (S:=cH g vf ve bU (⟨aB,first,last⟩,{p' with follow:=fG p'.follow last first})) (⟨vc,vr,vfol,vl,qd,F'⟩,va,vb) (by show qd.length=(fG p'.follow last first).length;rw[lq];exact fQ) [6,2,3,7,8,4,10,9] akV I
end cg
namespace cg
open Go.RowKit cT ey dj gu eB
theorem n'(e:Bool)(b b':Option Addr)(m m' k k':Nat)(w:World):(dm 244 #[(0,.bool e),(1,ak b m k),(2,ak b' m' k')]).run aC w= .ok (aP #[.bool e,ak b m k,ak b' m' k']) w:=by
 go_simp
set_option maxRecDepth 100000 in
theorem ZQ{M:Nat}(IH:Kx M)(a b1:Re)(ha:a.size<=M)(Ft:b1.size<=M)(g:Nat)(vf ve:Value)(bU:Int)(p:PS)(x:Xw)(v:Value)(w:World)(B:b_)(hp:Nc p)(hx:x.vs.length=p.follow.length)(hn:p.aZ.length+(a.size+b1.size+1)<=100000)(Qz:cT.dM bU)(hv:oW (BC B) B.w v (mb (.JR a b1)))(hm:Mem B (ox g vf ve bU x p) w):
 Calls aC 112 #[aH (ah ⟨g,0,aj⟩),v] w (dX (cH g vf ve bU (cC bU (.JR a b1) p)) B):=by
 obtain⟨vk,rfl,_,Te⟩:=hv;obtain⟨bk,ck,rfl,h1,h2,h3⟩:=Te;obtain⟨b,off,rfl,hF,fZ⟩:=h3 (by show 0<2;decide);obtain⟨kb,kc,hr,vJ⟩:=qX (k:=0) fZ (by show 0<2;decide);obtain⟨kb2,kc2,pC,lu⟩:=qX (k:=1) fZ (by show 1<2;decide);have Kz:=fun(L:List b9) (j:Nat) (v:Value) hj=>tG (L:=L) hF hr j v hj;have uj:=fun(L:List b9) (j:Nat) (v:Value) hj=>tG (L:=L) hF pC j v hj;clear h3 fZ hr pC;obtain⟨Hf,Xx,ZP,hp4,hp5⟩:=mh bU a p hp;obtain⟨kp1,kp2,kp3,kp4,kp5⟩:=mh bU b1 _ Hf;have VZ:=fun w B hv hm=>IH a ha g vf ve bU p x (rA (mb a).kind (mb a).uJ (ak kb (mb a).kids.length kc)) w B hp hx J Qz hv hm;have BE:=fun x1 kL w B hv hm=>IH b1 Ft g vf ve bU (cC bU a p).2 x1 (rA (mb b1).kind (mb b1).uJ (ak kb2 (mb b1).kids.length kc2)) w B Hf kL J Qz hv hm;rw[show cC bU (.JR a b1) p=(⟨(cC bU a p).1.empty||(cC bU b1 (cC bU a p).2).1.empty,rH (cC bU a p).1.first (cC bU b1 (cC bU a p).2).1.first,rH (cC bU a p).1.last (cC bU b1 (cC bU a p).2).1.last⟩,(cC bU b1 (cC bU a p).2).2)from I];generalize cC bU b1 (cC bU a p).2=R2 at*;generalize cC bU a p=R1 at*;obtain⟨⟨e1,il,kG⟩,p1⟩:=R1;obtain⟨⟨e2,iy,kg⟩,p2⟩:=R2;dsimp only at Hf Xx ZP hp4 hp5 kp1 kp2 kp3 kp4 kp5 BE⊢;unfold ox at hm;refine eR hm (args:=[aH (ah ⟨g,0,aj⟩),rA 5 C4.zero (ak (ah ⟨b,off,aj⟩) 2 ck)]) (n:=176) Tryz.func112 I I I ?_;clear hm;refine bY (a_ (bQ I I I fun g3=>aY I fun g4=>?_));refine zL ?_
 repeat(first|refine GA ?_|refine gV (aw (v:=ap av 5) aI.ty I (aE (i:=6) I I)) ?_)
 (repeat refine bY ?_)
 refine my (ι:=Xw×Value×Value×Value×Value×Nat×Nat) (fun y=>y.1.vs.length=p2.follow.length) (fun y=>[(0,aH (ah ⟨g,0,aj⟩)),(4,aH (ah ⟨g4,0,aj⟩)),(7,aH (ah ⟨y.2.2.2.2.2.1,0,aj⟩)),(8,aH (ah ⟨y.2.2.2.2.2.2,0,aj⟩))])
  (fun y=>ox g vf ve bU y.1 p2++[gC y.2.1 il,gC y.2.2.1 kG,gC y.2.2.2.1 iy,gC y.2.2.2.2.1 kg,aO g4 #[.bool aD,ak aj 0 0,ak aj 0 0] 244,aO y.2.2.2.2.2.1 #[.bool e1,y.2.1,y.2.2.1] 244,aO y.2.2.2.2.2.2 #[.bool e2,y.2.2.2.1,y.2.2.2.2.1] 244]) ?_ ?_
 ·refine dK ([aO g3 (mQ 5 C4.zero (ak (ah ⟨b,off,aj⟩) 2 ck)).toArray 119]) (.calm 0 (.calm 1 (.calm 2 (.calm 3 (.calm 4 (.calm 6 (.calm 7 (.calm 8 (.calm 9 (.calm 10 (.three 5 (.three 11 (.two 12 (.one 13 (.one 14 (.one 15 (.done)))) 13 (.one 12 (.one 14 (.one 15 (.done))))) 12 (.two 11 (.one 13 (.one 14 (.one 15 (.done)))) 13 (.one 11 (.one 14 (.one 15 (.done))))) 13 (.two 11 (.one 12 (.one 14 (.one 15 (.done)))) 12 (.one 11 (.one 14 (.one 15 (.done)))))) 12 (.two 5 (.two 11 (.one 13 (.one 14 (.one 15 (.done)))) 13 (.one 11 (.one 14 (.one 15 (.done))))) 13 (.one 5 (.one 11 (.one 14 (.one 15 (.done)))))) 13 (.two 5 (.two 11 (.one 12 (.one 14 (.one 15 (.done)))) 12 (.one 11 (.one 14 (.one 15 (.done))))) 12 (.one 5 (.one 11 (.one 14 (.one 15 (.done))))))))))))))))) (bZ [6]) ?_
  repeat(first|refine GW ?_|(refine GN ?_;first|refine QW (aw (v:=ak (ah ⟨b,off,aj⟩) 2 ck) aI.ty I (aE (i:=0) I I)) ?_|refine QW (aR (j:=0) bI.eq aI.ty I I akV) ?_|refine QW (aR (j:=1) bI.eq aI.ty I I akV) ?_|refine QW (aU aI.ty I I (Kz _)) ?_|refine QW (aU aI.ty I I (uj _)) ?_))
  refine zz I I I ?_ ?_ ?_
  ·refine bH [0,1,2,3,4,5] [6,7] akV I I (fP aF.en I I I) (fun w hm hb=>VZ w _ (fj (hm.pick [0,1,2,3,4,5] akV I) vJ) hb) I I I ?_
   rintro⟨⟨uo,uq,gT,ur,oJ,F1⟩,mE,l5⟩ kL;have kL:oJ.length=p1.follow.length:=kL
   conv=>arg 8;simp only[zJ,dr,ret,id_eq,cH,ox]
   conv=>arg 7;simp only[cH]
   refine aK (bZ [0]) ?_;refine zz I I I ?_ ?_ ?_
   ·refine bH [2,3,4,5,6,7] [0,1,8,9] akV I I (fP aF.en I I I) (fun w hm hb=>BE ⟨uo,uq,gT,ur,oJ,F1⟩ kL w _ (fj (hm.pick [2,3,4,5,6,7] akV I) lu) hb) I I I ?_
    rintro⟨⟨qN,qO,fm,qP,l6,F2⟩,jS,ky⟩ fQ;have fQ:l6.length=p2.follow.length:=fQ
    conv=>arg 8;simp only[zJ,dr,ret,id_eq,cH,ox]
    conv=>arg 7;simp only[cH]
    refine aK (bZ [0]) ?_;refine fe I I ?_ ?_
    ·refine aY I fun g7=>(aK (bZ [0]) ?_)
     refine aJ I (aY I fun g8=>(aK (bZ [0]) ?_));refine aJ I (aV (i:=2) I fun _ qe=>aV (i:=3) I fun _ qf=>aX (i:=12) (cs':=#[.bool e1,mE,l5]) I I I I (by simp only[cV,dc,qe,qf];rfl) I (aK (bZ [0]) ?_))
     try refine GW ?_
     refine aJ I (aV (i:=10) I fun _ qh=>aV (i:=11) I fun _ qi=>aX (i:=13) (cs':=#[.bool e2,jS,ky]) I I I I (by simp only[cV,dc,qh,qi];rfl) I (aK (bZ [0]) ?_))
     try refine GW ?_
     refine dv [4,5,6,7,8,9,2,3,10,11,1,12,13] ?_;exact e_ (⟨qN,qO,fm,qP,l6,F2⟩,mE,l5,jS,ky,g7,g8) fQ (by repeat' (first|exact cY|refine cK I ?_)) I
    refine aY I fun g8=>(aK (bZ [0]) ?_);refine aJ I (aY I fun g7=>(aK (bZ [0]) ?_));refine aJ I (aV (i:=2) I fun _ qe=>aV (i:=3) I fun _ qf=>aX (i:=13) (cs':=#[.bool e1,mE,l5]) I I I I (by simp only[cV,dc,qe,qf];rfl) I (aK (bZ [0]) ?_))
    try refine GW ?_
    refine aJ I (aV (i:=10) I fun _ qh=>aV (i:=11) I fun _ qi=>aX (i:=12) (cs':=#[.bool e2,jS,ky]) I I I I (by simp only[cV,dc,qh,qi];rfl) I (aK (bZ [0]) ?_))
    try refine GW ?_
    refine dv [4,5,6,7,8,9,2,3,10,11,1,13,12] ?_;exact e_ (⟨qN,qO,fm,qP,l6,F2⟩,mE,l5,jS,ky,g7,g8) fQ (by repeat' (first|exact cY|refine cK I ?_)) I
   ·refine aY I fun g7=>(aK (bZ [0]) ?_)
    refine fe I I ?_ ?_
    ·refine bH [2,3,4,5,6,7] [0,1,8,9,10] akV I I (fP aF.en I I I) (fun w hm hb=>BE ⟨uo,uq,gT,ur,oJ,F1⟩ kL w _ (fj (hm.pick [2,3,4,5,6,7] akV I) lu) hb) I I I ?_
     rintro⟨⟨qN,qO,fm,qP,l6,F2⟩,jS,ky⟩ fQ;have fQ:l6.length=p2.follow.length:=fQ
     conv=>arg 8;simp only[zJ,dr,ret,id_eq,cH,ox]
     conv=>arg 7;simp only[cH]
     refine aK (bZ [0]) ?_;refine aJ I (aY I fun g8=>(aK (bZ [0]) ?_));refine aJ I (aV (i:=2) I fun _ qe=>aV (i:=3) I fun _ qf=>aX (i:=4) (cs':=#[.bool e1,mE,l5]) I I I I (by simp only[cV,dc,qe,qf];rfl) I (aK (bZ [0]) ?_))
     try refine GW ?_
     refine aJ I (aV (i:=11) I fun _ qh=>aV (i:=12) I fun _ qi=>aX (i:=13) (cs':=#[.bool e2,jS,ky]) I I I I (by simp only[cV,dc,qh,qi];rfl) I (aK (bZ [0]) ?_))
     try refine GW ?_
     refine dv [5,6,7,8,9,10,2,3,11,12,1,4,13] ?_;exact e_ (⟨qN,qO,fm,qP,l6,F2⟩,mE,l5,jS,ky,g7,g8) fQ (by repeat' (first|exact cY|refine cK I ?_)) I
    refine aY I fun g8=>(aK (bZ [0]) ?_);refine aJ I (bH [2,3,4,5,6,7] [0,1,8,9,10,11] akV I I (fP aF.en I I I) (fun w hm hb=>BE ⟨uo,uq,gT,ur,oJ,F1⟩ kL w _ (fj (hm.pick [2,3,4,5,6,7] akV I) lu) hb) I I I ?_);rintro⟨⟨qN,qO,fm,qP,l6,F2⟩,jS,ky⟩ fQ;have fQ:l6.length=p2.follow.length:=fQ
    conv=>arg 8;simp only[zJ,dr,ret,id_eq,cH,ox]
    conv=>arg 7;simp only[cH]
    refine aK (bZ [0]) ?_;refine aJ I (aV (i:=2) I fun _ qe=>aV (i:=3) I fun _ qf=>aX (i:=4) (cs':=#[.bool e1,mE,l5]) I I I I (by simp only[cV,dc,qe,qf];rfl) I (aK (bZ [0]) ?_))
    try refine GW ?_
    refine aJ I (aV (i:=12) I fun _ qh=>aV (i:=13) I fun _ qi=>aX (i:=5) (cs':=#[.bool e2,jS,ky]) I I I I (by simp only[cV,dc,qh,qi];rfl) I (aK (bZ [0]) ?_))
    try refine GW ?_
    refine dv [6,7,8,9,10,11,2,3,12,13,1,4,5] ?_;exact e_ (⟨qN,qO,fm,qP,l6,F2⟩,mE,l5,jS,ky,g7,g8) fQ (by repeat' (first|exact cY|refine cK I ?_)) I
   refine aY I fun g8=>(aK (bZ [0]) ?_);refine fe I I ?_ ?_
   ·refine bH [2,3,4,5,6,7] [0,1,8,9,10] akV I I (fP aF.en I I I) (fun w hm hb=>BE ⟨uo,uq,gT,ur,oJ,F1⟩ kL w _ (fj (hm.pick [2,3,4,5,6,7] akV I) lu) hb) I I I ?_
    rintro⟨⟨qN,qO,fm,qP,l6,F2⟩,jS,ky⟩ fQ;have fQ:l6.length=p2.follow.length:=fQ
    conv=>arg 8;simp only[zJ,dr,ret,id_eq,cH,ox]
    conv=>arg 7;simp only[cH]
    refine aK (bZ [0]) ?_;refine aJ I (aY I fun g7=>(aK (bZ [0]) ?_));refine aJ I (aV (i:=2) I fun _ qe=>aV (i:=3) I fun _ qf=>aX (i:=13) (cs':=#[.bool e1,mE,l5]) I I I I (by simp only[cV,dc,qe,qf];rfl) I (aK (bZ [0]) ?_))
    try refine GW ?_
    refine aJ I (aV (i:=11) I fun _ qh=>aV (i:=12) I fun _ qi=>aX (i:=4) (cs':=#[.bool e2,jS,ky]) I I I I (by simp only[cV,dc,qh,qi];rfl) I (aK (bZ [0]) ?_))
    try refine GW ?_
    refine dv [5,6,7,8,9,10,2,3,11,12,1,13,4] ?_;exact e_ (⟨qN,qO,fm,qP,l6,F2⟩,mE,l5,jS,ky,g7,g8) fQ (by repeat' (first|exact cY|refine cK I ?_)) I
   refine aY I fun g7=>(aK (bZ [0]) ?_);refine aJ I (bH [2,3,4,5,6,7] [0,1,8,9,10,11] akV I I (fP aF.en I I I) (fun w hm hb=>BE ⟨uo,uq,gT,ur,oJ,F1⟩ kL w _ (fj (hm.pick [2,3,4,5,6,7] akV I) lu) hb) I I I ?_);rintro⟨⟨qN,qO,fm,qP,l6,F2⟩,jS,ky⟩ fQ;have fQ:l6.length=p2.follow.length:=fQ
   conv=>arg 8;simp only[zJ,dr,ret,id_eq,cH,ox]
   conv=>arg 7;simp only[cH]
   refine aK (bZ [0]) ?_;refine aJ I (aV (i:=2) I fun _ qe=>aV (i:=3) I fun _ qf=>aX (i:=5) (cs':=#[.bool e1,mE,l5]) I I I I (by simp only[cV,dc,qe,qf];rfl) I (aK (bZ [0]) ?_))
   try refine GW ?_
   refine aJ I (aV (i:=12) I fun _ qh=>aV (i:=13) I fun _ qi=>aX (i:=4) (cs':=#[.bool e2,jS,ky]) I I I I (by simp only[cV,dc,qh,qi];rfl) I (aK (bZ [0]) ?_))
   try refine GW ?_
   refine dv [6,7,8,9,10,11,2,3,12,13,1,5,4] ?_;exact e_ (⟨qN,qO,fm,qP,l6,F2⟩,mE,l5,jS,ky,g7,g8) fQ (by repeat' (first|exact cY|refine cK I ?_)) I
  ·refine aY I fun g7=>(aK (bZ [6]) ?_)
   refine fe I I ?_ ?_
   ·refine bH [0,1,2,3,4,5] [6,7,8] akV I I (fP aF.en I I I) (fun w hm hb=>VZ w _ (fj (hm.pick [0,1,2,3,4,5] akV I) vJ) hb) I I I ?_
    rintro⟨⟨uo,uq,gT,ur,oJ,F1⟩,mE,l5⟩ kL;have kL:oJ.length=p1.follow.length:=kL
    conv=>arg 8;simp only[zJ,dr,ret,id_eq,cH,ox]
    conv=>arg 7;simp only[cH]
    refine aK (bZ [0]) ?_;refine fe I I ?_ ?_
    ·refine bH [3,4,5,6,7,8] [0,1,2,9,10] akV I I (fP aF.en I I I) (fun w hm hb=>BE ⟨uo,uq,gT,ur,oJ,F1⟩ kL w _ (fj (hm.pick [3,4,5,6,7,8] akV I) lu) hb) I I I ?_
     rintro⟨⟨qN,qO,fm,qP,l6,F2⟩,jS,ky⟩ fQ;have fQ:l6.length=p2.follow.length:=fQ
     conv=>arg 8;simp only[zJ,dr,ret,id_eq,cH,ox]
     conv=>arg 7;simp only[cH]
     refine aK (bZ [0]) ?_;refine aJ I (aY I fun g8=>(aK (bZ [0]) ?_));refine aJ I (aV (i:=3) I fun _ qe=>aV (i:=4) I fun _ qf=>aX (i:=2) (cs':=#[.bool e1,mE,l5]) I I I I (by simp only[cV,dc,qe,qf];rfl) I (aK (bZ [0]) ?_))
     try refine GW ?_
     refine aJ I (aV (i:=11) I fun _ qh=>aV (i:=12) I fun _ qi=>aX (i:=13) (cs':=#[.bool e2,jS,ky]) I I I I (by simp only[cV,dc,qh,qi];rfl) I (aK (bZ [0]) ?_))
     try refine GW ?_
     refine dv [5,6,7,8,9,10,3,4,11,12,1,2,13] ?_;exact e_ (⟨qN,qO,fm,qP,l6,F2⟩,mE,l5,jS,ky,g7,g8) fQ (by repeat' (first|exact cY|refine cK I ?_)) I
    refine aY I fun g8=>(aK (bZ [0]) ?_);refine aJ I (bH [3,4,5,6,7,8] [0,1,2,9,10,11] akV I I (fP aF.en I I I) (fun w hm hb=>BE ⟨uo,uq,gT,ur,oJ,F1⟩ kL w _ (fj (hm.pick [3,4,5,6,7,8] akV I) lu) hb) I I I ?_);rintro⟨⟨qN,qO,fm,qP,l6,F2⟩,jS,ky⟩ fQ;have fQ:l6.length=p2.follow.length:=fQ
    conv=>arg 8;simp only[zJ,dr,ret,id_eq,cH,ox]
    conv=>arg 7;simp only[cH]
    refine aK (bZ [0]) ?_;refine aJ I (aV (i:=3) I fun _ qe=>aV (i:=4) I fun _ qf=>aX (i:=2) (cs':=#[.bool e1,mE,l5]) I I I I (by simp only[cV,dc,qe,qf];rfl) I (aK (bZ [0]) ?_))
    try refine GW ?_
    refine aJ I (aV (i:=12) I fun _ qh=>aV (i:=13) I fun _ qi=>aX (i:=5) (cs':=#[.bool e2,jS,ky]) I I I I (by simp only[cV,dc,qh,qi];rfl) I (aK (bZ [0]) ?_))
    try refine GW ?_
    refine dv [6,7,8,9,10,11,3,4,12,13,1,2,5] ?_;exact e_ (⟨qN,qO,fm,qP,l6,F2⟩,mE,l5,jS,ky,g7,g8) fQ (by repeat' (first|exact cY|refine cK I ?_)) I
   refine aY I fun g8=>(aK (bZ [6]) ?_);refine aJ I (bH [0,1,2,3,4,5] [6,7,8,9] akV I I (fP aF.en I I I) (fun w hm hb=>VZ w _ (fj (hm.pick [0,1,2,3,4,5] akV I) vJ) hb) I I I ?_);rintro⟨⟨uo,uq,gT,ur,oJ,F1⟩,mE,l5⟩ kL;have kL:oJ.length=p1.follow.length:=kL
   conv=>arg 8;simp only[zJ,dr,ret,id_eq,cH,ox]
   conv=>arg 7;simp only[cH]
   refine aK (bZ [0]) ?_;refine aJ I (bH [4,5,6,7,8,9] [0,1,2,3,10,11] akV I I (fP aF.en I I I) (fun w hm hb=>BE ⟨uo,uq,gT,ur,oJ,F1⟩ kL w _ (fj (hm.pick [4,5,6,7,8,9] akV I) lu) hb) I I I ?_);rintro⟨⟨qN,qO,fm,qP,l6,F2⟩,jS,ky⟩ fQ;have fQ:l6.length=p2.follow.length:=fQ
   conv=>arg 8;simp only[zJ,dr,ret,id_eq,cH,ox]
   conv=>arg 7;simp only[cH]
   refine aK (bZ [0]) ?_;refine aJ I (aV (i:=4) I fun _ qe=>aV (i:=5) I fun _ qf=>aX (i:=2) (cs':=#[.bool e1,mE,l5]) I I I I (by simp only[cV,dc,qe,qf];rfl) I (aK (bZ [0]) ?_))
   try refine GW ?_
   refine aJ I (aV (i:=12) I fun _ qh=>aV (i:=13) I fun _ qi=>aX (i:=3) (cs':=#[.bool e2,jS,ky]) I I I I (by simp only[cV,dc,qh,qi];rfl) I (aK (bZ [0]) ?_))
   try refine GW ?_
   refine dv [6,7,8,9,10,11,4,5,12,13,1,2,3] ?_;exact e_ (⟨qN,qO,fm,qP,l6,F2⟩,mE,l5,jS,ky,g7,g8) fQ (by repeat' (first|exact cY|refine cK I ?_)) I
  refine aY I fun g8=>(aK (bZ [6]) ?_);refine fe I I ?_ ?_
  ·refine bH [0,1,2,3,4,5] [6,7,8] akV I I (fP aF.en I I I) (fun w hm hb=>VZ w _ (fj (hm.pick [0,1,2,3,4,5] akV I) vJ) hb) I I I ?_
   rintro⟨⟨uo,uq,gT,ur,oJ,F1⟩,mE,l5⟩ kL;have kL:oJ.length=p1.follow.length:=kL
   conv=>arg 8;simp only[zJ,dr,ret,id_eq,cH,ox]
   conv=>arg 7;simp only[cH]
   refine aK (bZ [0]) ?_;refine fe I I ?_ ?_
   ·refine bH [3,4,5,6,7,8] [0,1,2,9,10] akV I I (fP aF.en I I I) (fun w hm hb=>BE ⟨uo,uq,gT,ur,oJ,F1⟩ kL w _ (fj (hm.pick [3,4,5,6,7,8] akV I) lu) hb) I I I ?_
    rintro⟨⟨qN,qO,fm,qP,l6,F2⟩,jS,ky⟩ fQ;have fQ:l6.length=p2.follow.length:=fQ
    conv=>arg 8;simp only[zJ,dr,ret,id_eq,cH,ox]
    conv=>arg 7;simp only[cH]
    refine aK (bZ [0]) ?_;refine aJ I (aY I fun g7=>(aK (bZ [0]) ?_));refine aJ I (aV (i:=3) I fun _ qe=>aV (i:=4) I fun _ qf=>aX (i:=13) (cs':=#[.bool e1,mE,l5]) I I I I (by simp only[cV,dc,qe,qf];rfl) I (aK (bZ [0]) ?_))
    try refine GW ?_
    refine aJ I (aV (i:=11) I fun _ qh=>aV (i:=12) I fun _ qi=>aX (i:=2) (cs':=#[.bool e2,jS,ky]) I I I I (by simp only[cV,dc,qh,qi];rfl) I (aK (bZ [0]) ?_))
    try refine GW ?_
    refine dv [5,6,7,8,9,10,3,4,11,12,1,13,2] ?_;exact e_ (⟨qN,qO,fm,qP,l6,F2⟩,mE,l5,jS,ky,g7,g8) fQ (by repeat' (first|exact cY|refine cK I ?_)) I
   refine aY I fun g7=>(aK (bZ [0]) ?_);refine aJ I (bH [3,4,5,6,7,8] [0,1,2,9,10,11] akV I I (fP aF.en I I I) (fun w hm hb=>BE ⟨uo,uq,gT,ur,oJ,F1⟩ kL w _ (fj (hm.pick [3,4,5,6,7,8] akV I) lu) hb) I I I ?_);rintro⟨⟨qN,qO,fm,qP,l6,F2⟩,jS,ky⟩ fQ;have fQ:l6.length=p2.follow.length:=fQ
   conv=>arg 8;simp only[zJ,dr,ret,id_eq,cH,ox]
   conv=>arg 7;simp only[cH]
   refine aK (bZ [0]) ?_;refine aJ I (aV (i:=3) I fun _ qe=>aV (i:=4) I fun _ qf=>aX (i:=5) (cs':=#[.bool e1,mE,l5]) I I I I (by simp only[cV,dc,qe,qf];rfl) I (aK (bZ [0]) ?_))
   try refine GW ?_
   refine aJ I (aV (i:=12) I fun _ qh=>aV (i:=13) I fun _ qi=>aX (i:=2) (cs':=#[.bool e2,jS,ky]) I I I I (by simp only[cV,dc,qh,qi];rfl) I (aK (bZ [0]) ?_))
   try refine GW ?_
   refine dv [6,7,8,9,10,11,3,4,12,13,1,5,2] ?_;exact e_ (⟨qN,qO,fm,qP,l6,F2⟩,mE,l5,jS,ky,g7,g8) fQ (by repeat' (first|exact cY|refine cK I ?_)) I
  refine aY I fun g7=>(aK (bZ [6]) ?_);refine aJ I (bH [0,1,2,3,4,5] [6,7,8,9] akV I I (fP aF.en I I I) (fun w hm hb=>VZ w _ (fj (hm.pick [0,1,2,3,4,5] akV I) vJ) hb) I I I ?_);rintro⟨⟨uo,uq,gT,ur,oJ,F1⟩,mE,l5⟩ kL;have kL:oJ.length=p1.follow.length:=kL
  conv=>arg 8;simp only[zJ,dr,ret,id_eq,cH,ox]
  conv=>arg 7;simp only[cH]
  refine aK (bZ [0]) ?_;refine aJ I (bH [4,5,6,7,8,9] [0,1,2,3,10,11] akV I I (fP aF.en I I I) (fun w hm hb=>BE ⟨uo,uq,gT,ur,oJ,F1⟩ kL w _ (fj (hm.pick [4,5,6,7,8,9] akV I) lu) hb) I I I ?_);rintro⟨⟨qN,qO,fm,qP,l6,F2⟩,jS,ky⟩ fQ;have fQ:l6.length=p2.follow.length:=fQ
  conv=>arg 8;simp only[zJ,dr,ret,id_eq,cH,ox]
  conv=>arg 7;simp only[cH]
  refine aK (bZ [0]) ?_;refine aJ I (aV (i:=4) I fun _ qe=>aV (i:=5) I fun _ qf=>aX (i:=3) (cs':=#[.bool e1,mE,l5]) I I I I (by simp only[cV,dc,qe,qf];rfl) I (aK (bZ [0]) ?_))
  try refine GW ?_
  refine aJ I (aV (i:=12) I fun _ qh=>aV (i:=13) I fun _ qi=>aX (i:=2) (cs':=#[.bool e2,jS,ky]) I I I I (by simp only[cV,dc,qh,qi];rfl) I (aK (bZ [0]) ?_))
  try refine GW ?_
  refine dv [6,7,8,9,10,11,4,5,12,13,1,3,2] ?_;exact e_ (⟨qN,qO,fm,qP,l6,F2⟩,mE,l5,jS,ky,g7,g8) fQ (by repeat' (first|exact cY|refine cK I ?_)) I
 clear VZ BE Kz uj;rintro⟨⟨vc,vr,vfol,vl,vs,F⟩,mE,l5,jS,ky,g7,g8⟩ fQ;have fQ:vs.length=p2.follow.length:=fQ;dsimp only
 conv=>arg 7;simp only[zA,zB,zC,zD,zE,zF,zG,zH,zI,dr,ret,id_eq,ox]
 have JW:=jQ hp4;have J1:=jQ hp5;have hl3:=jQ kp4;have hl4:=jQ kp5
 cases e1 with
 | true=>
  (repeat refine bY ?_)
  refine dK ([aO g7 #[.bool aB,mE,l5] 244,aO g8 #[.bool e2,jS,ky] 244]) (.calm 0 (.calm 1 (.calm 2 (.calm 3 (.calm 4 (.calm 5 (.calm 6 (.calm 7 (.calm 8 (.calm 9 (.calm 11 (.calm 12 (.calm 13 (.calm 14 (.one 10 (.one 15 (.calm 16 (.one 17 (.done))))))))))))))))))) (bZ [11,12]) ?_
  repeat(first|refine GW ?_|(refine GN ?_;first|refine QW (aw aI.ty I (aE (i:=0) I I)) ?_|refine QW (aw aI.ty I (aE (i:=1) I I)) ?_))
  refine aJ I (aW (fP aF.en I I I) (fun w' hm=>iC mE jS il iy w' (Sl.dy (hm.get (i:=6) I)) (Sl.dy (hm.get (i:=8) I)) J J) I I I ?_);intro vu _
  conv=>arg 8;simp only[zJ,dr,ret,id_eq,ub]
  refine aK (bZ [11,12]) ?_
  try refine GW ?_
  refine aJ I (aW (fP aF.en I I I) (fun w' hm=>iC l5 ky kG kg w' (Sl.dy (hm.get (i:=7) I)) (Sl.dy (hm.get (i:=9) I)) J J) I I I ?_);intro vu2 _
  conv=>arg 8;simp only[zJ,dr,ret,id_eq,ub]
  refine ot (i:=13) I fun bu cu hu _ _=>?_;refine ot (i:=14) I fun bu2 cu2 hu2 _ _=>?_;subst hu hu2;refine aK (bZ [11,12]) ?_
  repeat(first|refine GW ?_|(refine GN ?_;first|refine QW (bz I (n' _ _ _ _ _ _ _)) ?_))
  refine aJ I (aX (i:=10) (cs':=#[.bool aB,ak bu (rH il iy).length cu,ak bu2 (rH kG kg).length cu2]) I I I I I I (aK (bZ [11,12]) ?_))
  try refine GW ?_
  try refine GA ?_
  refine gU (i:=10) I I I I fun w hm=>?_;exact hm.cZ (S:=cH g vf ve bU (⟨aB||e2,rH il iy,rH kG kg⟩,p2)) (⟨vc,vr,vfol,vl,vs,F⟩,ak bu (rH il iy).length cu,ak bu2 (rH kG kg).length cu2) fQ [0,1,2,3,4,5,13,14] akV I
 | false=>
  (repeat refine bY ?_)
  refine dK ([aO g7 #[.bool aD,mE,l5] 244,aO g8 #[.bool e2,jS,ky] 244]) (.calm 0 (.calm 1 (.calm 2 (.calm 3 (.calm 4 (.calm 5 (.calm 6 (.calm 7 (.calm 8 (.calm 9 (.calm 11 (.calm 12 (.calm 13 (.calm 14 (.one 10 (.one 15 (.calm 16 (.one 17 (.done))))))))))))))))))) (bZ [11,12]) ?_
  repeat(first|refine GW ?_|(refine GN ?_;first|refine QW (aw aI.ty I (aE (i:=0) I I)) ?_|refine QW (aw aI.ty I (aE (i:=1) I I)) ?_))
  refine aJ I (aW (fP aF.en I I I) (fun w' hm=>iC mE jS il iy w' (Sl.dy (hm.get (i:=6) I)) (Sl.dy (hm.get (i:=8) I)) J J) I I I ?_);intro vu _
  conv=>arg 8;simp only[zJ,dr,ret,id_eq,ub]
  refine aK (bZ [11,12]) ?_
  try refine GW ?_
  refine aJ I (aW (fP aF.en I I I) (fun w' hm=>iC l5 ky kG kg w' (Sl.dy (hm.get (i:=7) I)) (Sl.dy (hm.get (i:=9) I)) J J) I I I ?_);intro vu2 _
  conv=>arg 8;simp only[zJ,dr,ret,id_eq,ub]
  refine ot (i:=13) I fun bu cu hu _ _=>?_;refine ot (i:=14) I fun bu2 cu2 hu2 _ _=>?_;subst hu hu2;refine aK (bZ [11,12]) ?_
  repeat(first|refine GW ?_|(refine GN ?_;first|refine QW (bz I (n' _ _ _ _ _ _ _)) ?_))
  refine aJ I (aX (i:=10) (cs':=#[.bool e2,ak bu (rH il iy).length cu,ak bu2 (rH kG kg).length cu2]) I I I I I I (aK (bZ [11,12]) ?_))
  try refine GW ?_
  try refine GA ?_
  refine gU (i:=10) I I I I fun w hm=>?_;exact hm.cZ (S:=cH g vf ve bU (⟨aD||e2,rH il iy,rH kG kg⟩,p2)) (⟨vc,vr,vfol,vl,vs,F⟩,ak bu (rH il iy).length cu,ak bu2 (rH kG kg).length cu2) fQ [0,1,2,3,4,5,13,14] akV I
end cg
namespace cg
open Go.RowKit cT ey dj gu eB
set_option maxRecDepth 100000 in
theorem ZR{M:Nat}(IH:Kx M)(a b1:Re)(ha:a.size<=M)(Ft:b1.size<=M)(g:Nat)(vf ve:Value)(bU:Int)(p:PS)(x:Xw)(v:Value)(w:World)(B:b_)(hp:Nc p)(hx:x.vs.length=p.follow.length)(hn:p.aZ.length+(a.size+b1.size+1)<=100000)(Qz:cT.dM bU)(hv:oW (BC B) B.w v (mb (.JQ a b1)))(hm:Mem B (ox g vf ve bU x p) w):
 Calls aC 112 #[aH (ah ⟨g,0,aj⟩),v] w (dX (cH g vf ve bU (cC bU (.JQ a b1) p)) B):=by
 obtain⟨vk,rfl,_,Te⟩:=hv;obtain⟨bk,ck,rfl,h1,h2,h3⟩:=Te;obtain⟨b,off,rfl,hF,fZ⟩:=h3 (by show 0<2;decide);obtain⟨kb,kc,hr,vJ⟩:=qX (k:=0) fZ (by show 0<2;decide);obtain⟨kb2,kc2,pC,lu⟩:=qX (k:=1) fZ (by show 1<2;decide);have Kz:=fun(L:List b9) (j:Nat) (v:Value) hj=>tG (L:=L) hF hr j v hj;have uj:=fun(L:List b9) (j:Nat) (v:Value) hj=>tG (L:=L) hF pC j v hj;clear h3 fZ hr pC;obtain⟨Hf,Xx,ZP,hp4,hp5⟩:=mh bU a p hp;obtain⟨kp1,kp2,kp3,kp4,kp5⟩:=mh bU b1 _ Hf;have VZ:=fun w B hv hm=>IH a ha g vf ve bU p x (rA (mb a).kind (mb a).uJ (ak kb (mb a).kids.length kc)) w B hp hx J Qz hv hm;have BE:=fun x1 kL w B hv hm=>IH b1 Ft g vf ve bU (cC bU a p).2 x1 (rA (mb b1).kind (mb b1).uJ (ak kb2 (mb b1).kids.length kc2)) w B Hf kL J Qz hv hm;rw[show cC bU (.JQ a b1) p=(⟨(cC bU a p).1.empty&&(cC bU b1 (cC bU a p).2).1.empty,if(cC bU a p).1.empty then rH (cC bU a p).1.first (cC bU b1 (cC bU a p).2).1.first else(cC bU a p).1.first,if(cC bU b1 (cC bU a p).2).1.empty then rH (cC bU a p).1.last (cC bU b1 (cC bU a p).2).1.last else(cC bU b1 (cC bU a p).2).1.last⟩,{(cC bU b1 (cC bU a p).2).2 with follow:=fG (cC bU b1 (cC bU a p).2).2.follow (cC bU a p).1.last (cC bU b1 (cC bU a p).2).1.first})from rfl];generalize cC bU b1 (cC bU a p).2=R2 at*;generalize cC bU a p=R1 at*;obtain⟨⟨e1,il,kG⟩,p1⟩:=R1;obtain⟨⟨e2,iy,kg⟩,p2⟩:=R2;dsimp only at Hf Xx ZP hp4 hp5 kp1 kp2 kp3 kp4 kp5 BE⊢;unfold ox at hm;refine eR hm (args:=[aH (ah ⟨g,0,aj⟩),rA 4 C4.zero (ak (ah ⟨b,off,aj⟩) 2 ck)]) (n:=176) Tryz.func112 I I I ?_;clear hm;refine bY (a_ (bQ I I I fun g3=>aY I fun g4=>?_));refine zL ?_
 repeat(first|refine GA ?_|refine gV (aw (v:=ap av 4) aI.ty I (aE (i:=6) I I)) ?_)
 (repeat refine bY ?_)
 refine my (ι:=Xw×Value×Value×Value×Value×Nat×Nat) (fun y=>y.1.vs.length=p2.follow.length) (fun y=>[(0,aH (ah ⟨g,0,aj⟩)),(4,aH (ah ⟨g4,0,aj⟩)),(9,aH (ah ⟨y.2.2.2.2.2.1,0,aj⟩)),(10,aH (ah ⟨y.2.2.2.2.2.2,0,aj⟩))])
  (fun y=>ox g vf ve bU y.1 p2++[gC y.2.1 il,gC y.2.2.1 kG,gC y.2.2.2.1 iy,gC y.2.2.2.2.1 kg,aO g4 #[.bool aD,ak aj 0 0,ak aj 0 0] 244,aO y.2.2.2.2.2.1 #[.bool e1,y.2.1,y.2.2.1] 244,aO y.2.2.2.2.2.2 #[.bool e2,y.2.2.2.1,y.2.2.2.2.1] 244]) ?_ ?_
 ·refine dK ([aO g3 (mQ 4 C4.zero (ak (ah ⟨b,off,aj⟩) 2 ck)).toArray 119]) (.calm 0 (.calm 1 (.calm 2 (.calm 3 (.calm 4 (.calm 6 (.calm 7 (.calm 8 (.calm 9 (.calm 10 (.three 5 (.three 11 (.two 12 (.one 13 (.one 14 (.one 15 (.done)))) 13 (.one 12 (.one 14 (.one 15 (.done))))) 12 (.two 11 (.one 13 (.one 14 (.one 15 (.done)))) 13 (.one 11 (.one 14 (.one 15 (.done))))) 13 (.two 11 (.one 12 (.one 14 (.one 15 (.done)))) 12 (.one 11 (.one 14 (.one 15 (.done)))))) 12 (.two 5 (.two 11 (.one 13 (.one 14 (.one 15 (.done)))) 13 (.one 11 (.one 14 (.one 15 (.done))))) 13 (.one 5 (.one 11 (.one 14 (.one 15 (.done)))))) 13 (.two 5 (.two 11 (.one 12 (.one 14 (.one 15 (.done)))) 12 (.one 11 (.one 14 (.one 15 (.done))))) 12 (.one 5 (.one 11 (.one 14 (.one 15 (.done))))))))))))))))) (bZ [6]) ?_
  repeat(first|refine GW ?_|(refine GN ?_;first|refine QW (aw (v:=ak (ah ⟨b,off,aj⟩) 2 ck) aI.ty I (aE (i:=0) I I)) ?_|refine QW (aR (j:=0) bI.eq aI.ty I I akV) ?_|refine QW (aR (j:=1) bI.eq aI.ty I I akV) ?_|refine QW (aU aI.ty I I (Kz _)) ?_|refine QW (aU aI.ty I I (uj _)) ?_))
  refine zz I I I ?_ ?_ ?_
  ·refine bH [0,1,2,3,4,5] [6,7] akV I I (fP aF.en I I I) (fun w hm hb=>VZ w _ (fj (hm.pick [0,1,2,3,4,5] akV I) vJ) hb) I I I ?_
   rintro⟨⟨uo,uq,gT,ur,oJ,F1⟩,mE,l5⟩ kL;have kL:oJ.length=p1.follow.length:=kL
   conv=>arg 8;simp only[zJ,dr,ret,id_eq,cH,ox]
   conv=>arg 7;simp only[cH]
   refine aK (bZ [0]) ?_;refine zz I I I ?_ ?_ ?_
   ·refine bH [2,3,4,5,6,7] [0,1,8,9] akV I I (fP aF.en I I I) (fun w hm hb=>BE ⟨uo,uq,gT,ur,oJ,F1⟩ kL w _ (fj (hm.pick [2,3,4,5,6,7] akV I) lu) hb) I I I ?_
    rintro⟨⟨qN,qO,fm,qP,l6,F2⟩,jS,ky⟩ fQ;have fQ:l6.length=p2.follow.length:=fQ
    conv=>arg 8;simp only[zJ,dr,ret,id_eq,cH,ox]
    conv=>arg 7;simp only[cH]
    refine aK (bZ [0]) ?_;refine fe I I ?_ ?_
    ·refine aY I fun g7=>(aK (bZ [0]) ?_)
     refine aJ I (aY I fun g8=>(aK (bZ [0]) ?_));refine aJ I (aV (i:=2) I fun _ qe=>aV (i:=3) I fun _ qf=>aX (i:=12) (cs':=#[.bool e1,mE,l5]) I I I I (by simp only[cV,dc,qe,qf];rfl) I (aK (bZ [0]) ?_))
     try refine GW ?_
     refine aJ I (aV (i:=10) I fun _ qh=>aV (i:=11) I fun _ qi=>aX (i:=13) (cs':=#[.bool e2,jS,ky]) I I I I (by simp only[cV,dc,qh,qi];rfl) I (aK (bZ [0]) ?_))
     try refine GW ?_
     refine dv [4,5,6,7,8,9,2,3,10,11,1,12,13] ?_;exact e_ (⟨qN,qO,fm,qP,l6,F2⟩,mE,l5,jS,ky,g7,g8) fQ (by repeat' (first|exact cY|refine cK I ?_)) I
    refine aY I fun g8=>(aK (bZ [0]) ?_);refine aJ I (aY I fun g7=>(aK (bZ [0]) ?_));refine aJ I (aV (i:=2) I fun _ qe=>aV (i:=3) I fun _ qf=>aX (i:=13) (cs':=#[.bool e1,mE,l5]) I I I I (by simp only[cV,dc,qe,qf];rfl) I (aK (bZ [0]) ?_))
    try refine GW ?_
    refine aJ I (aV (i:=10) I fun _ qh=>aV (i:=11) I fun _ qi=>aX (i:=12) (cs':=#[.bool e2,jS,ky]) I I I I (by simp only[cV,dc,qh,qi];rfl) I (aK (bZ [0]) ?_))
    try refine GW ?_
    refine dv [4,5,6,7,8,9,2,3,10,11,1,13,12] ?_;exact e_ (⟨qN,qO,fm,qP,l6,F2⟩,mE,l5,jS,ky,g7,g8) fQ (by repeat' (first|exact cY|refine cK I ?_)) I
   ·refine aY I fun g7=>(aK (bZ [0]) ?_)
    refine fe I I ?_ ?_
    ·refine bH [2,3,4,5,6,7] [0,1,8,9,10] akV I I (fP aF.en I I I) (fun w hm hb=>BE ⟨uo,uq,gT,ur,oJ,F1⟩ kL w _ (fj (hm.pick [2,3,4,5,6,7] akV I) lu) hb) I I I ?_
     rintro⟨⟨qN,qO,fm,qP,l6,F2⟩,jS,ky⟩ fQ;have fQ:l6.length=p2.follow.length:=fQ
     conv=>arg 8;simp only[zJ,dr,ret,id_eq,cH,ox]
     conv=>arg 7;simp only[cH]
     refine aK (bZ [0]) ?_;refine aJ I (aY I fun g8=>(aK (bZ [0]) ?_));refine aJ I (aV (i:=2) I fun _ qe=>aV (i:=3) I fun _ qf=>aX (i:=4) (cs':=#[.bool e1,mE,l5]) I I I I (by simp only[cV,dc,qe,qf];rfl) I (aK (bZ [0]) ?_))
     try refine GW ?_
     refine aJ I (aV (i:=11) I fun _ qh=>aV (i:=12) I fun _ qi=>aX (i:=13) (cs':=#[.bool e2,jS,ky]) I I I I (by simp only[cV,dc,qh,qi];rfl) I (aK (bZ [0]) ?_))
     try refine GW ?_
     refine dv [5,6,7,8,9,10,2,3,11,12,1,4,13] ?_;exact e_ (⟨qN,qO,fm,qP,l6,F2⟩,mE,l5,jS,ky,g7,g8) fQ (by repeat' (first|exact cY|refine cK I ?_)) I
    refine aY I fun g8=>(aK (bZ [0]) ?_);refine aJ I (bH [2,3,4,5,6,7] [0,1,8,9,10,11] akV I I (fP aF.en I I I) (fun w hm hb=>BE ⟨uo,uq,gT,ur,oJ,F1⟩ kL w _ (fj (hm.pick [2,3,4,5,6,7] akV I) lu) hb) I I I ?_);rintro⟨⟨qN,qO,fm,qP,l6,F2⟩,jS,ky⟩ fQ;have fQ:l6.length=p2.follow.length:=fQ
    conv=>arg 8;simp only[zJ,dr,ret,id_eq,cH,ox]
    conv=>arg 7;simp only[cH]
    refine aK (bZ [0]) ?_;refine aJ I (aV (i:=2) I fun _ qe=>aV (i:=3) I fun _ qf=>aX (i:=4) (cs':=#[.bool e1,mE,l5]) I I I I (by simp only[cV,dc,qe,qf];rfl) I (aK (bZ [0]) ?_))
    try refine GW ?_
    refine aJ I (aV (i:=12) I fun _ qh=>aV (i:=13) I fun _ qi=>aX (i:=5) (cs':=#[.bool e2,jS,ky]) I I I I (by simp only[cV,dc,qh,qi];rfl) I (aK (bZ [0]) ?_))
    try refine GW ?_
    refine dv [6,7,8,9,10,11,2,3,12,13,1,4,5] ?_;exact e_ (⟨qN,qO,fm,qP,l6,F2⟩,mE,l5,jS,ky,g7,g8) fQ (by repeat' (first|exact cY|refine cK I ?_)) I
   refine aY I fun g8=>(aK (bZ [0]) ?_);refine fe I I ?_ ?_
   ·refine bH [2,3,4,5,6,7] [0,1,8,9,10] akV I I (fP aF.en I I I) (fun w hm hb=>BE ⟨uo,uq,gT,ur,oJ,F1⟩ kL w _ (fj (hm.pick [2,3,4,5,6,7] akV I) lu) hb) I I I ?_
    rintro⟨⟨qN,qO,fm,qP,l6,F2⟩,jS,ky⟩ fQ;have fQ:l6.length=p2.follow.length:=fQ
    conv=>arg 8;simp only[zJ,dr,ret,id_eq,cH,ox]
    conv=>arg 7;simp only[cH]
    refine aK (bZ [0]) ?_;refine aJ I (aY I fun g7=>(aK (bZ [0]) ?_));refine aJ I (aV (i:=2) I fun _ qe=>aV (i:=3) I fun _ qf=>aX (i:=13) (cs':=#[.bool e1,mE,l5]) I I I I (by simp only[cV,dc,qe,qf];rfl) I (aK (bZ [0]) ?_))
    try refine GW ?_
    refine aJ I (aV (i:=11) I fun _ qh=>aV (i:=12) I fun _ qi=>aX (i:=4) (cs':=#[.bool e2,jS,ky]) I I I I (by simp only[cV,dc,qh,qi];rfl) I (aK (bZ [0]) ?_))
    try refine GW ?_
    refine dv [5,6,7,8,9,10,2,3,11,12,1,13,4] ?_;exact e_ (⟨qN,qO,fm,qP,l6,F2⟩,mE,l5,jS,ky,g7,g8) fQ (by repeat' (first|exact cY|refine cK I ?_)) I
   refine aY I fun g7=>(aK (bZ [0]) ?_);refine aJ I (bH [2,3,4,5,6,7] [0,1,8,9,10,11] akV I I (fP aF.en I I I) (fun w hm hb=>BE ⟨uo,uq,gT,ur,oJ,F1⟩ kL w _ (fj (hm.pick [2,3,4,5,6,7] akV I) lu) hb) I I I ?_);rintro⟨⟨qN,qO,fm,qP,l6,F2⟩,jS,ky⟩ fQ;have fQ:l6.length=p2.follow.length:=fQ
   conv=>arg 8;simp only[zJ,dr,ret,id_eq,cH,ox]
   conv=>arg 7;simp only[cH]
   refine aK (bZ [0]) ?_;refine aJ I (aV (i:=2) I fun _ qe=>aV (i:=3) I fun _ qf=>aX (i:=5) (cs':=#[.bool e1,mE,l5]) I I I I (by simp only[cV,dc,qe,qf];rfl) I (aK (bZ [0]) ?_))
   try refine GW ?_
   refine aJ I (aV (i:=12) I fun _ qh=>aV (i:=13) I fun _ qi=>aX (i:=4) (cs':=#[.bool e2,jS,ky]) I I I I (by simp only[cV,dc,qh,qi];rfl) I (aK (bZ [0]) ?_))
   try refine GW ?_
   refine dv [6,7,8,9,10,11,2,3,12,13,1,5,4] ?_;exact e_ (⟨qN,qO,fm,qP,l6,F2⟩,mE,l5,jS,ky,g7,g8) fQ (by repeat' (first|exact cY|refine cK I ?_)) I
  ·refine aY I fun g7=>(aK (bZ [6]) ?_)
   refine fe I I ?_ ?_
   ·refine bH [0,1,2,3,4,5] [6,7,8] akV I I (fP aF.en I I I) (fun w hm hb=>VZ w _ (fj (hm.pick [0,1,2,3,4,5] akV I) vJ) hb) I I I ?_
    rintro⟨⟨uo,uq,gT,ur,oJ,F1⟩,mE,l5⟩ kL;have kL:oJ.length=p1.follow.length:=kL
    conv=>arg 8;simp only[zJ,dr,ret,id_eq,cH,ox]
    conv=>arg 7;simp only[cH]
    refine aK (bZ [0]) ?_;refine fe I I ?_ ?_
    ·refine bH [3,4,5,6,7,8] [0,1,2,9,10] akV I I (fP aF.en I I I) (fun w hm hb=>BE ⟨uo,uq,gT,ur,oJ,F1⟩ kL w _ (fj (hm.pick [3,4,5,6,7,8] akV I) lu) hb) I I I ?_
     rintro⟨⟨qN,qO,fm,qP,l6,F2⟩,jS,ky⟩ fQ;have fQ:l6.length=p2.follow.length:=fQ
     conv=>arg 8;simp only[zJ,dr,ret,id_eq,cH,ox]
     conv=>arg 7;simp only[cH]
     refine aK (bZ [0]) ?_;refine aJ I (aY I fun g8=>(aK (bZ [0]) ?_));refine aJ I (aV (i:=3) I fun _ qe=>aV (i:=4) I fun _ qf=>aX (i:=2) (cs':=#[.bool e1,mE,l5]) I I I I (by simp only[cV,dc,qe,qf];rfl) I (aK (bZ [0]) ?_))
     try refine GW ?_
     refine aJ I (aV (i:=11) I fun _ qh=>aV (i:=12) I fun _ qi=>aX (i:=13) (cs':=#[.bool e2,jS,ky]) I I I I (by simp only[cV,dc,qh,qi];rfl) I (aK (bZ [0]) ?_))
     try refine GW ?_
     refine dv [5,6,7,8,9,10,3,4,11,12,1,2,13] ?_;exact e_ (⟨qN,qO,fm,qP,l6,F2⟩,mE,l5,jS,ky,g7,g8) fQ (by repeat' (first|exact cY|refine cK I ?_)) I
    refine aY I fun g8=>(aK (bZ [0]) ?_);refine aJ I (bH [3,4,5,6,7,8] [0,1,2,9,10,11] akV I I (fP aF.en I I I) (fun w hm hb=>BE ⟨uo,uq,gT,ur,oJ,F1⟩ kL w _ (fj (hm.pick [3,4,5,6,7,8] akV I) lu) hb) I I I ?_);rintro⟨⟨qN,qO,fm,qP,l6,F2⟩,jS,ky⟩ fQ;have fQ:l6.length=p2.follow.length:=fQ
    conv=>arg 8;simp only[zJ,dr,ret,id_eq,cH,ox]
    conv=>arg 7;simp only[cH]
    refine aK (bZ [0]) ?_;refine aJ I (aV (i:=3) I fun _ qe=>aV (i:=4) I fun _ qf=>aX (i:=2) (cs':=#[.bool e1,mE,l5]) I I I I (by simp only[cV,dc,qe,qf];rfl) I (aK (bZ [0]) ?_))
    try refine GW ?_
    refine aJ I (aV (i:=12) I fun _ qh=>aV (i:=13) I fun _ qi=>aX (i:=5) (cs':=#[.bool e2,jS,ky]) I I I I (by simp only[cV,dc,qh,qi];rfl) I (aK (bZ [0]) ?_))
    try refine GW ?_
    refine dv [6,7,8,9,10,11,3,4,12,13,1,2,5] ?_;exact e_ (⟨qN,qO,fm,qP,l6,F2⟩,mE,l5,jS,ky,g7,g8) fQ (by repeat' (first|exact cY|refine cK I ?_)) I
   refine aY I fun g8=>(aK (bZ [6]) ?_);refine aJ I (bH [0,1,2,3,4,5] [6,7,8,9] akV I I (fP aF.en I I I) (fun w hm hb=>VZ w _ (fj (hm.pick [0,1,2,3,4,5] akV I) vJ) hb) I I I ?_);rintro⟨⟨uo,uq,gT,ur,oJ,F1⟩,mE,l5⟩ kL;have kL:oJ.length=p1.follow.length:=kL
   conv=>arg 8;simp only[zJ,dr,ret,id_eq,cH,ox]
   conv=>arg 7;simp only[cH]
   refine aK (bZ [0]) ?_;refine aJ I (bH [4,5,6,7,8,9] [0,1,2,3,10,11] akV I I (fP aF.en I I I) (fun w hm hb=>BE ⟨uo,uq,gT,ur,oJ,F1⟩ kL w _ (fj (hm.pick [4,5,6,7,8,9] akV I) lu) hb) I I I ?_);rintro⟨⟨qN,qO,fm,qP,l6,F2⟩,jS,ky⟩ fQ;have fQ:l6.length=p2.follow.length:=fQ
   conv=>arg 8;simp only[zJ,dr,ret,id_eq,cH,ox]
   conv=>arg 7;simp only[cH]
   refine aK (bZ [0]) ?_;refine aJ I (aV (i:=4) I fun _ qe=>aV (i:=5) I fun _ qf=>aX (i:=2) (cs':=#[.bool e1,mE,l5]) I I I I (by simp only[cV,dc,qe,qf];rfl) I (aK (bZ [0]) ?_))
   try refine GW ?_
   refine aJ I (aV (i:=12) I fun _ qh=>aV (i:=13) I fun _ qi=>aX (i:=3) (cs':=#[.bool e2,jS,ky]) I I I I (by simp only[cV,dc,qh,qi];rfl) I (aK (bZ [0]) ?_))
   try refine GW ?_
   refine dv [6,7,8,9,10,11,4,5,12,13,1,2,3] ?_;exact e_ (⟨qN,qO,fm,qP,l6,F2⟩,mE,l5,jS,ky,g7,g8) fQ (by repeat' (first|exact cY|refine cK I ?_)) I
  refine aY I fun g8=>(aK (bZ [6]) ?_);refine fe I I ?_ ?_
  ·refine bH [0,1,2,3,4,5] [6,7,8] akV I I (fP aF.en I I I) (fun w hm hb=>VZ w _ (fj (hm.pick [0,1,2,3,4,5] akV I) vJ) hb) I I I ?_
   rintro⟨⟨uo,uq,gT,ur,oJ,F1⟩,mE,l5⟩ kL;have kL:oJ.length=p1.follow.length:=kL
   conv=>arg 8;simp only[zJ,dr,ret,id_eq,cH,ox]
   conv=>arg 7;simp only[cH]
   refine aK (bZ [0]) ?_;refine fe I I ?_ ?_
   ·refine bH [3,4,5,6,7,8] [0,1,2,9,10] akV I I (fP aF.en I I I) (fun w hm hb=>BE ⟨uo,uq,gT,ur,oJ,F1⟩ kL w _ (fj (hm.pick [3,4,5,6,7,8] akV I) lu) hb) I I I ?_
    rintro⟨⟨qN,qO,fm,qP,l6,F2⟩,jS,ky⟩ fQ;have fQ:l6.length=p2.follow.length:=fQ
    conv=>arg 8;simp only[zJ,dr,ret,id_eq,cH,ox]
    conv=>arg 7;simp only[cH]
    refine aK (bZ [0]) ?_;refine aJ I (aY I fun g7=>(aK (bZ [0]) ?_));refine aJ I (aV (i:=3) I fun _ qe=>aV (i:=4) I fun _ qf=>aX (i:=13) (cs':=#[.bool e1,mE,l5]) I I I I (by simp only[cV,dc,qe,qf];rfl) I (aK (bZ [0]) ?_))
    try refine GW ?_
    refine aJ I (aV (i:=11) I fun _ qh=>aV (i:=12) I fun _ qi=>aX (i:=2) (cs':=#[.bool e2,jS,ky]) I I I I (by simp only[cV,dc,qh,qi];rfl) I (aK (bZ [0]) ?_))
    try refine GW ?_
    refine dv [5,6,7,8,9,10,3,4,11,12,1,13,2] ?_;exact e_ (⟨qN,qO,fm,qP,l6,F2⟩,mE,l5,jS,ky,g7,g8) fQ (by repeat' (first|exact cY|refine cK I ?_)) I
   refine aY I fun g7=>(aK (bZ [0]) ?_);refine aJ I (bH [3,4,5,6,7,8] [0,1,2,9,10,11] akV I I (fP aF.en I I I) (fun w hm hb=>BE ⟨uo,uq,gT,ur,oJ,F1⟩ kL w _ (fj (hm.pick [3,4,5,6,7,8] akV I) lu) hb) I I I ?_);rintro⟨⟨qN,qO,fm,qP,l6,F2⟩,jS,ky⟩ fQ;have fQ:l6.length=p2.follow.length:=fQ
   conv=>arg 8;simp only[zJ,dr,ret,id_eq,cH,ox]
   conv=>arg 7;simp only[cH]
   refine aK (bZ [0]) ?_;refine aJ I (aV (i:=3) I fun _ qe=>aV (i:=4) I fun _ qf=>aX (i:=5) (cs':=#[.bool e1,mE,l5]) I I I I (by simp only[cV,dc,qe,qf];rfl) I (aK (bZ [0]) ?_))
   try refine GW ?_
   refine aJ I (aV (i:=12) I fun _ qh=>aV (i:=13) I fun _ qi=>aX (i:=2) (cs':=#[.bool e2,jS,ky]) I I I I (by simp only[cV,dc,qh,qi];rfl) I (aK (bZ [0]) ?_))
   try refine GW ?_
   refine dv [6,7,8,9,10,11,3,4,12,13,1,5,2] ?_;exact e_ (⟨qN,qO,fm,qP,l6,F2⟩,mE,l5,jS,ky,g7,g8) fQ (by repeat' (first|exact cY|refine cK I ?_)) I
  refine aY I fun g7=>(aK (bZ [6]) ?_);refine aJ I (bH [0,1,2,3,4,5] [6,7,8,9] akV I I (fP aF.en I I I) (fun w hm hb=>VZ w _ (fj (hm.pick [0,1,2,3,4,5] akV I) vJ) hb) I I I ?_);rintro⟨⟨uo,uq,gT,ur,oJ,F1⟩,mE,l5⟩ kL;have kL:oJ.length=p1.follow.length:=kL
  conv=>arg 8;simp only[zJ,dr,ret,id_eq,cH,ox]
  conv=>arg 7;simp only[cH]
  refine aK (bZ [0]) ?_;refine aJ I (bH [4,5,6,7,8,9] [0,1,2,3,10,11] akV I I (fP aF.en I I I) (fun w hm hb=>BE ⟨uo,uq,gT,ur,oJ,F1⟩ kL w _ (fj (hm.pick [4,5,6,7,8,9] akV I) lu) hb) I I I ?_);rintro⟨⟨qN,qO,fm,qP,l6,F2⟩,jS,ky⟩ fQ;have fQ:l6.length=p2.follow.length:=fQ
  conv=>arg 8;simp only[zJ,dr,ret,id_eq,cH,ox]
  conv=>arg 7;simp only[cH]
  refine aK (bZ [0]) ?_;refine aJ I (aV (i:=4) I fun _ qe=>aV (i:=5) I fun _ qf=>aX (i:=3) (cs':=#[.bool e1,mE,l5]) I I I I (by simp only[cV,dc,qe,qf];rfl) I (aK (bZ [0]) ?_))
  try refine GW ?_
  refine aJ I (aV (i:=12) I fun _ qh=>aV (i:=13) I fun _ qi=>aX (i:=2) (cs':=#[.bool e2,jS,ky]) I I I I (by simp only[cV,dc,qh,qi];rfl) I (aK (bZ [0]) ?_))
  try refine GW ?_
  refine dv [6,7,8,9,10,11,4,5,12,13,1,3,2] ?_;exact e_ (⟨qN,qO,fm,qP,l6,F2⟩,mE,l5,jS,ky,g7,g8) fQ (by repeat' (first|exact cY|refine cK I ?_)) I
 clear VZ BE Kz uj;rintro⟨⟨vc,vr,vfol,vl,vs,F⟩,mE,l5,jS,ky,g7,g8⟩ fQ;have fQ:vs.length=p2.follow.length:=fQ;dsimp only
 conv=>arg 7;simp only[zA,zB,zC,zD,zE,zF,zG,zH,zI,dr,ret,id_eq,ox]
 have JW:=jQ hp4;have J1:=jQ hp5;have hl3:=jQ kp4;have hl4:=jQ kp5
 repeat(first|refine GA ?_|refine gV (aw (v:=l5) aI.ty I (aE (i:=11) I I)) ?_|refine gV (aw (v:=jS) aI.ty I (aE (i:=12) I I)) ?_)
 refine bH [0,3,4,7,8] [1,2,5,6,9,10,11,12] akV I I (ye aF.en I I I I) (fun w hm hb=>Ai g vc vr vf vfol vl ve bU l5 jS vs F p2.follow kG iy w _ fQ (by rw[kp1.follow];omega) (by rw[kp1.follow];exact kp1.ris) (by rw[kp1.follow];exact oI hp5 kp2) (by rw[kp1.follow];exact kp4) hb) I I I ?_;rintro⟨qd,F'⟩ hx3;have hx3:qd.length=p2.follow.length:=hx3
 conv=>arg 8;simp only[zJ,dr,ret,id_eq,TC]
 refine ot (i:=3) I fun ba ca hva _ _=>?_;refine ot (i:=4) I fun bb cb Cf _ _=>?_;subst hva Cf
 cases e1 with
 | true=>
  cases e2 with
  | true=>
   repeat(first|refine GA ?_|refine gV (aw aI.ty I (aE (i:=6) I I)) ?_|refine gV (aw aI.ty I (aE (i:=7) I I)) ?_|refine gV (bz I (n' _ _ _ _ _ _ _)) ?_)
   refine aY I fun g11=>?_;refine zL ?_;refine gG 13 (cs':=#[.bool aB,ak ba il.length ca,ak bb kg.length cb]) ?_;refine zL ?_
   repeat(first|refine GA ?_|refine gV (aw aI.ty I (aE (i:=6) I I)) ?_|refine gV (aw aI.ty I (aE (i:=7) I I)) ?_)
   refine aW (fP aF.en I I I) (fun w' hm=>iC _ jS il iy w' (Sl.dy (hm.get (i:=3) I)) (Sl.dy (hm.get (i:=12) I)) J J) I I I ?_;intro vu _
   conv=>arg 8;simp only[zJ,dr,ret,id_eq,ub]
   try refine GA ?_
   refine aV (i:=14) I fun qu1 qu2=>bT (i:=13) I I I qu1 qu2 I ?_;refine zL ?_
   repeat(first|refine GA ?_|refine gV (aw aI.ty I (aE (i:=6) I I)) ?_|refine gV (aw aI.ty I (aE (i:=7) I I)) ?_)
   refine aW (fP aF.en I I I) (fun w' hm=>iC l5 _ kG kg w' (Sl.dy (hm.get (i:=11) I)) (Sl.dy (hm.get (i:=4) I)) J J) I I I ?_;intro vu2 _
   conv=>arg 8;simp only[zJ,dr,ret,id_eq,ub]
   try refine GA ?_
   refine aV (i:=15) I fun qv1 qv2=>bT (i:=13) I I I qv1 qv2 I ?_;refine zL ?_
   repeat(first|refine GA ?_|refine gV (aL (i:=13) aI.ty I I I) ?_|refine gV (aw aI.ty I (aE (i:=6) I I)) ?_|refine gV (aw aI.ty I (aE (i:=7) I I)) ?_)
   refine aX (i:=5) (cs':=#[.bool aB,vu,vu2]) I I I I (by simp only[cV,dc,qu2,qv2];rfl) I ?_;refine zL ?_
   try refine GA ?_
   refine gU (i:=5) I I I I fun w hm=>?_;exact hm.cZ (S:=cH g vf ve bU (⟨aB,rH il iy,rH kG kg⟩,{p2 with follow:=fG p2.follow kG iy})) (⟨vc,vr,vfol,vl,qd,F'⟩,vu,vu2) (by show qd.length=(fG p2.follow kG iy).length;rw[lq];exact hx3) [8,0,1,9,10,2,14,15] akV I
  | false=>
   repeat(first|refine GA ?_|refine gV (aw aI.ty I (aE (i:=6) I I)) ?_|refine gV (aw aI.ty I (aE (i:=7) I I)) ?_|refine gV (bz I (n' _ _ _ _ _ _ _)) ?_)
   refine aY I fun g11=>?_;refine zL ?_;refine gG 13 (cs':=#[.bool aD,ak ba il.length ca,ak bb kg.length cb]) ?_;refine zL ?_
   repeat(first|refine GA ?_|refine gV (aw aI.ty I (aE (i:=6) I I)) ?_|refine gV (aw aI.ty I (aE (i:=7) I I)) ?_)
   refine aW (fP aF.en I I I) (fun w' hm=>iC _ jS il iy w' (Sl.dy (hm.get (i:=3) I)) (Sl.dy (hm.get (i:=12) I)) J J) I I I ?_;intro vu _
   conv=>arg 8;simp only[zJ,dr,ret,id_eq,ub]
   try refine GA ?_
   refine aV (i:=14) I fun qu1 qu2=>bT (i:=13) I I I qu1 qu2 I ?_;refine zL ?_
   repeat(first|refine GA ?_|refine gV (aL (i:=13) aI.ty I I I) ?_|refine gV (aw aI.ty I (aE (i:=6) I I)) ?_|refine gV (aw aI.ty I (aE (i:=7) I I)) ?_)
   refine aX (i:=5) (cs':=#[.bool aD,vu,ak bb kg.length cb]) I I I I (by simp only[cV,dc,qu2];rfl) I ?_;refine zL ?_
   try refine GA ?_
   refine gU (i:=5) I I I I fun w hm=>?_;exact hm.cZ (S:=cH g vf ve bU (⟨aD,rH il iy,kg⟩,{p2 with follow:=fG p2.follow kG iy})) (⟨vc,vr,vfol,vl,qd,F'⟩,vu,ak bb kg.length cb) (by show qd.length=(fG p2.follow kG iy).length;rw[lq];exact hx3) [8,0,1,9,10,2,14,4] akV I
 | false=>
  cases e2 with
  | true=>
   repeat(first|refine GA ?_|refine gV (aw aI.ty I (aE (i:=6) I I)) ?_|refine gV (aw aI.ty I (aE (i:=7) I I)) ?_|refine gV (bz I (n' _ _ _ _ _ _ _)) ?_)
   refine aY I fun g11=>?_;refine zL ?_;refine gG 13 (cs':=#[.bool aD,ak ba il.length ca,ak bb kg.length cb]) ?_;refine zL ?_
   repeat(first|refine GA ?_|refine gV (aw aI.ty I (aE (i:=6) I I)) ?_|refine gV (aw aI.ty I (aE (i:=7) I I)) ?_)
   refine aW (fP aF.en I I I) (fun w' hm=>iC l5 _ kG kg w' (Sl.dy (hm.get (i:=11) I)) (Sl.dy (hm.get (i:=4) I)) J J) I I I ?_;intro vu2 _
   conv=>arg 8;simp only[zJ,dr,ret,id_eq,ub]
   try refine GA ?_
   refine aV (i:=14) I fun qv1 qv2=>bT (i:=13) I I I qv1 qv2 I ?_;refine zL ?_
   repeat(first|refine GA ?_|refine gV (aL (i:=13) aI.ty I I I) ?_|refine gV (aw aI.ty I (aE (i:=6) I I)) ?_|refine gV (aw aI.ty I (aE (i:=7) I I)) ?_)
   refine aX (i:=5) (cs':=#[.bool aD,ak ba il.length ca,vu2]) I I I I (by simp only[cV,dc,qv2];rfl) I ?_;refine zL ?_
   try refine GA ?_
   refine gU (i:=5) I I I I fun w hm=>?_;exact hm.cZ (S:=cH g vf ve bU (⟨aD,il,rH kG kg⟩,{p2 with follow:=fG p2.follow kG iy})) (⟨vc,vr,vfol,vl,qd,F'⟩,ak ba il.length ca,vu2) (by show qd.length=(fG p2.follow kG iy).length;rw[lq];exact hx3) [8,0,1,9,10,2,3,14] akV I
  | false=>
   repeat(first|refine GA ?_|refine gV (aw aI.ty I (aE (i:=6) I I)) ?_|refine gV (aw aI.ty I (aE (i:=7) I I)) ?_|refine gV (bz I (n' _ _ _ _ _ _ _)) ?_)
   refine aY I fun g11=>?_;refine zL ?_;refine gG 13 (cs':=#[.bool aD,ak ba il.length ca,ak bb kg.length cb]) ?_;refine zL ?_
   repeat(first|refine GA ?_|refine gV (aL (i:=13) aI.ty I I I) ?_|refine gV (aw aI.ty I (aE (i:=6) I I)) ?_|refine gV (aw aI.ty I (aE (i:=7) I I)) ?_)
   refine gG 5 (cs':=#[.bool aD,ak ba il.length ca,ak bb kg.length cb]) ?_;refine zL ?_
   try refine GA ?_
   refine gU (i:=5) I I I I fun w hm=>?_;exact hm.cZ (S:=cH g vf ve bU (⟨aD,il,kg⟩,{p2 with follow:=fG p2.follow kG iy})) (⟨vc,vr,vfol,vl,qd,F'⟩,ak ba il.length ca,ak bb kg.length cb) (by show qd.length=(fG p2.follow kG iy).length;rw[lq];exact hx3) [8,0,1,9,10,2,3,4] akV I
end cg
namespace cg
open Go.RowKit cT ey dj gu eB
theorem Dy:∀M,Kx M
 |0=>fun e h=>by have:=e.size_pos;omega
 | M +1=>fun e h g vf ve bU p x v w B hp hx hn hr hv hm=>by
  cases e with
  |none=>exact VU g vf ve bU p x v w B hx hv hm
  |empty=>exact Qx g vf ve bU p x v w B hx hv hm
  |byte c=>exact VW c g vf ve bU p x v w B hp hx J hv hm
  | star a=>
   have h:a.size+1<=M+1:=h;exact VX (Dy M) a J g vf ve bU p x v w B hp hx hn hr hv hm
  | JR a b=>
   have h:a.size+b.size+1<=M+1:=h;exact ZQ (Dy M) a b J J g vf ve bU p x v w B hp hx hn hr hv hm
  | JQ a b=>
   have h:a.size+b.size+1<=M+1:=h;exact ZR (Dy M) a b J J g vf ve bU p x v w B hp hx hn hr hv hm
end cg
namespace cg
open Go.RowKit cT ey dj gu eB
theorem tH(w:World):(dm 181 (#[]:Array (Nat×Value))).run aC w= .ok (aP #[ak aj 0 0,ak aj 0 0,ak aj 0 0,ak aj 0 0,ak aj 0 0,ak aj 0 0]) w:=by
 go_simp
theorem V0(w:World):(dm 242 (#[]:Array (Nat×Value))).run aC w= .ok (aP #[ak aj 0 0,ak aj 0 0,ak aj 0 0,ak aj 0 0,ak aj 0 0,ak aj 0 0,ap av 0]) w:=by
 go_simp
structure PIx where
 vc:Value
 vr:Value
 vf:Value
 vfol:Value
 vl:Value
 ve:Value
 vs:List Value
 F:Nat->Prop
def QB(x:PIx)(m:MS):List b9:=
 [bx 116 4 x.vc m.ps.aZ.length (m.ps.aZ.flatMap d_),gC x.vr m.ps.rules,gC x.vf m.first,yP x.vfol x.vs,vH x.F x.vs m.ps.follow,bx 4 1 x.vl m.ps.last.length (m.ps.last.map gd),bx 4 1 x.ve m.empty.length (m.empty.map gd)]
def QC(x:PIx):Array Value:=#[x.vc,x.vr,x.vf,x.vfol,x.vl,x.ve]
def rJ(R:Int×MS):Spec PIx:=⟨fun x=>x.vs.length=R.2.ps.follow.length,fun x=> .tuple #[.agg (QC x),ap av R.1],fun x=>QB x R.2⟩
def ZS:PIx:=⟨ak aj 0 0,ak aj 0 0,ak aj 0 0,ak aj 0 0,ak aj 0 0,ak aj 0 0,[],fun _=>False⟩
theorem KA{n:Nat}{W:b_}{Q:Exit->Act->World->Prop}{fr:Fr}{L:List b9}{e':Exit}(h:E n W e' Q fr (L++QB ZS .zero)):E n W e' Q fr L:=by
 refine eL 116 4 (eL 3 1 (eL 3 1 (eL 26 1 (tc (vH (fun _=>False) [] []) (fun k hk=>hk.elim (fun h=>by cases h) id) (fun w=>lF) (eL 4 1 (eL 4 1 ?_))))));simp only[dL,kt,fN];exact h
theorem adq{vc vr vf vfol vl ve v:Value}{bU:Int}{j:Nat}(h:[vc,vr,vf,vfol,vl,ve][j]?=ah v):(TB vc vr vf vfol vl ve bU)[0+j]?=ah v:=by
 rw[cI]
 match j,h with
 |0,h=>exact h
 |1,h=>exact h
 |2,h=>exact h
 |3,h=>exact h
 |4,h=>exact h
 |5,h=>exact h
def HP(b:Bool):List Value:=[.bool b]
theorem V1(b:Bool):(HP b).length=1:=rfl
theorem BF(l:List Bool):l.flatMap HP=l.map gd:=by
 induction l with
 |nil=>rfl
 |cons x r ih=>rw[jF,ih];rfl
def ID(rs:List Rx)(R:Int×MS):Prop:=
  ((rs.length=0\/20<rs.length)/\R=(1,.zero))\/(¬(rs.length=0\/20<rs.length)/\jR rs≠0/\R=(jR rs,.zero))\/
    (¬(rs.length=0\/20<rs.length)/\jR rs=0/\∃es:List Re,rs=es.map mb/\(∀e∈es,e.size<=100)/\R=mf 0 .zero es)
theorem QD{l:List Rx}{k:Nat}(h:k<l.length):jR (l.drop k)=if Nd l[k]≠0 then Nd l[k]else jR (l.drop (k+1)):=by
 rw[dJ h,jR]
theorem Fu(v:Value)(rs:List Rx)(R:Int×MS)(w:World)(hv:kK yo (sa w) w v rs)(hR:ID rs R):
    Calls aC 75 #[v] w (cJ (rJ R) w):=by
  obtain⟨bk,ck,rfl,h1,h2,h3⟩:=hv;unfold maxLen at h2;refine enter (args:=[ak bk rs.length ck]) (n:=104) Tryz.func75 I I I ?_;refine bY (a_ (aY I fun g2=>?_));refine zL ?_;rcases hR with⟨c1,rfl⟩|hR
  · by_cases c2:rs.length=0
    · repeat(first|refine GC ?_|refine gV (cP (b:=aB) I I (decide_eq_true J)) ?_|refine gV (bz I tH) ?_|refine GB ?_)
      refine gG 0 ?_;refine zL ?_
      try refine GA ?_
      refine KA ?_;exact ez (i:=0) I I I I I fun w hm=>hm.meets (S:=rJ (1,.zero)) ZS I [1,2,3,4,5,6,7] akV I
    have c3:20<rs.length:=c1.resolve_left c2
    repeat(first|refine GC ?_|refine gV (cP (b:=aD) I I (decide_eq_false J)) ?_|refine gV (eP (b:=aB) I I (decide_eq_true J)) ?_|refine gV (bz I tH) ?_|refine GB ?_)
    refine gG 0 ?_;refine zL ?_
    try refine GA ?_
    refine KA ?_;exact ez (i:=0) I I I I I fun w hm=>hm.meets (S:=rJ (1,.zero)) ZS I [1,2,3,4,5,6,7] akV I
  have hlen:¬(rs.length=0\/20<rs.length):=by rcases hR with⟨h,_⟩|⟨h,_⟩<;>exact h
  repeat(first|refine GC ?_|refine gV (cP (b:=aD) I I (decide_eq_false J)) ?_|refine gV (eP (b:=aD) I I (decide_eq_false J)) ?_|refine GB ?_)
  refine dU (ι:=Nat) (fun k=>k<=rs.length/\jR rs=jR (rs.drop k)) (fun k=>[(0,ak bk rs.length ck),(2,aH (ah ⟨g2,0,aj⟩)),(22,ak bk rs.length ck),(23,ap av rs.length),(24,ap av (k:Int))])
    (fun _=>[aO g2 #[ak aj 0 0,ak aj 0 0,ak aj 0 0,ak aj 0 0,ak aj 0 0,ak aj 0 0] 181]) (fun k=>rs.length-k) 0 ⟨bC _,rfl⟩ ?_
  rintro k ⟨i1,i2⟩
  by_cases c6:k<rs.length
  · obtain⟨b,off,rfl,hF,fZ⟩:=h3 J
    obtain⟨kb,kc,hr,VY⟩:=qX fZ c6;have eK:=fun(L:List b9) (j:Nat) (v:Value) (hj:(mQ rs[k].kind rs[k].uJ (.slice kb rs[k].kids.length kc))[j]?=ah v)=>jp (L:=L) hr hj;have h_:∀w',Gr w w'->Calls aC 111 #[rA rs[k].kind rs[k].uJ (.slice kb rs[k].kids.length kc)] w' (cJ (ret (ap av (Nd rs[k]))) w'):=fun w' hg=>uO _ _ w' (VY.gr hg);have hdr:=QD c6;clear h3 fZ hr;generalize rs[k]=r at*
    repeat(first|refine GA ?_|refine gV (aR bI.eq aI.ty I I c6) ?_|refine gV (aU aI.ty I I (eK _)) ?_)
    refine aY I fun g5=>?_;refine zL ?_;refine gG 1 (cs':=(mQ r.kind r.uJ (ak kb r.kids.length kc)).toArray) ?_;refine zL ?_
    repeat(first|refine GA ?_|refine gV (aL (i:=1) aI.ty I I I) ?_)
    refine aW (kZ aF.en I I) (fun w hm=>h_ _ hm.below) I I I ?_;intro _ _;refine zL ?_
    by_cases c7:Nd r=0
    · repeat(first|refine GC ?_|refine gV (dz (b:=aD) I I (decide_eq_false (by simpa using c7))) ?_|refine GB ?_)
      refine dv [0] ?_;exact bO (k+1) ⟨by omega,by rw[i2,hdr,if_neg (by simpa using c7)]⟩ (by show rs.length-(k+1)<rs.length-k;omega)
    have hne:jR rs≠0:=by rw[i2,hdr,if_pos c7];exact c7
    rcases hR with⟨_,_,rfl⟩|⟨_,h0,_⟩
    · rw[i2,hdr,if_pos c7]
      repeat(first|refine GC ?_|refine gV (dz (b:=aB) I I (decide_eq_true c7)) ?_|refine gV (bz I tH) ?_|refine GB ?_)
      refine gG 0 ?_;refine zL ?_
      try refine GA ?_
      refine KA ?_;exact ez (i:=0) I I I I I fun w hm=>hm.meets (S:=rJ (Nd r,.zero)) ZS I [2,3,4,5,6,7,8] akV I
    exact absurd h0 hne
  · obtain rfl:k=rs.length:=by omega
    have h0:jR rs=0:=by rw[i2,uS (aT _)];rfl
    obtain⟨es,rfl,hsz,rfl⟩:∃es:List Re,rs=es.map mb/\(∀e∈es,e.size<=100)/\R=mf 0 .zero es:=by
      rcases hR with⟨_,h,_⟩|⟨_,_,h⟩
      exact absurd h0 h;exact h
    have h20:(P_ mb es).length<=20:=by omega
    clear hR hlen i1 i2
    repeat(first|refine GA ?_|refine gV (bz I V0) ?_)
    refine bQ I I I fun g7=>?_;refine zL ?_
    try refine GA ?_
    refine jw 116 4 (jw 3 1 (jw 26 1 (pv (vH (fun _=>False) [] []) (fun k hk=>hk.elim (fun h=>by cases h) id) (fun w=>lF) (jw 4 1 (jw 3 1 (jw 4 1 ?_))))));refine dU (ι:=Nat×MS×Xw×Value×Value×Int) (fun(k,m,x,_,_,_)=>k<=es.length/\mf 0 .zero es=mf k m (es.drop k)/\Qu m/\m.ps.aZ.length<=200/\x.vs.length=m.ps.follow.length/\m.empty.length=k) (fun(k,_,_,_,_,_)=>[(2,aH (ah ⟨g2,0,aj⟩)),(7,aH (ah ⟨g7,0,aj⟩)),(37,ak bk (es.map mb).length ck),(38,ap av (es.map mb).length),(39,ap av (k:Int))])
      (fun(_,m,x,vf,ve,bU)=>[aO g2 #[ak aj 0 0,ak aj 0 0,ak aj 0 0,ak aj 0 0,ak aj 0 0,ak aj 0 0] 181]++ox g7 vf ve bU x m.ps++[gC vf m.first,bx 4 1 ve m.empty.length (m.empty.map gd)]) (fun(k,_,_,_,_,_)=>es.length-k)
      (0,.zero,⟨ak aj 0 0,ak aj 0 0,ak aj 0 0,ak aj 0 0,[],fun _=>False⟩,ak aj 0 0,ak aj 0 0,0) ⟨bC _,rfl,Kr,bC _,rfl,rfl⟩ ?_
    rintro⟨k,m,⟨vc,vr,vfol,vl,vs,F⟩,vf,ve,bU⟩ ⟨i1,i2,i3,i4,i5,i6⟩;dsimp only at i1 i2 i3 i4 i5 i6⊢
    conv=>arg 7;simp only[zA,zB,zC,zD,zE,zF,zG,zH,zI,dr,ret,id_eq,ox]
    have hml:(P_ mb es).length=es.length:=dw ..
    by_cases c6:k<es.length
    · obtain⟨b,off,rfl,hF,fZ⟩:=h3 J
      obtain⟨kb,kc,hr,VY⟩:=qX (k:=k) fZ J;have eK:=fun(L:List b9) (j:Nat) (v:Value) (hj:(mQ (es.map mb)[k].kind (es.map mb)[k].uJ (.slice kb (es.map mb)[k].kids.length kc))[j]?=ah v)=>jp (L:=L) hr hj;have hke:(es.map mb)[k]' J=mb es[k]:=oZ ..;rw[hke]at eK VY;have hse:=hsz es[k] (bV c6);rw[dJ c6,mf]at i2;clear h3 fZ hr hke;generalize es[k]=e at*;have hst:=Tv k i3 e;have PG:=mh k e m.ps i3.ps;have hno:=fun v w B hv hm=>Dy 100 e hse g7 vf ve k m.ps ⟨vc,vr,vfol,vl,vs,F⟩ v w B i3.ps i5 J ⟨by omega,by omega⟩ hv hm
      repeat(first|refine GA ?_|refine gV (aR bI.eq aI.ty I I J) ?_|refine gV (aU aI.ty I I (eK _)) ?_)
      refine aY I fun g9=>?_;refine zL ?_
      try refine GA ?_
      refine gG 9 (cs':=(mQ (mb e).kind (mb e).uJ (ak kb (mb e).kids.length kc)).toArray) ?_;refine zL ?_
      try refine GA ?_
      refine bT (i:=1) I I I I I I ?_;refine zL ?_
      repeat(first|refine GA ?_|refine gV (aL (i:=9) aI.ty I I I) ?_)
      refine bH [1,2,3,4,5,6] [0,7,8,9] akV I I (fP aF.en I I I) (fun w hm hb=>hno _ w _ (fj (hm.pick [1,2,3,4,5,6] akV I) (VY.mono fun k hk=>⟨hk,id⟩)) hb) I I I ?_;rintro⟨⟨Hn,Dx,xJ,TG,qd,F'⟩,va,vb⟩ JM
      conv=>arg 8;simp only[zJ,dr,ret,id_eq,cH,ox]
      conv=>arg 7;simp only[cH]
      have JM:qd.length=(cC k e m.ps).2.follow.length:=JM;unfold xI at i2 hst;generalize cC k e m.ps=R at*;obtain⟨⟨em,first,last⟩,p'⟩:=R;dsimp only at i2 hst PG JM⊢;obtain⟨n1,n2,n3,n4,n5⟩:=PG;have JW:=jQ i3.first;have J1:=jQ n4;have hl3:=jQ n5;refine aV (i:=10) I fun _ qa=>aV (i:=11) I fun _ qb=>aY I fun g10=>?_;refine zL ?_;refine aX (i:=12) (cs':=#[.bool em,va,vb]) I I I I (by simp only[cV,dc,qa,qb];rfl) I ?_;refine zL ?_
      try refine GA ?_
      (repeat refine bY ?_)
      refine my (ι:=Value) (fun Xy=>Xy.oneCell'=aB) (fun _=>[(2,aH (ah ⟨g2,0,aj⟩)),(7,aH (ah ⟨g7,0,aj⟩)),(10,aH (ah ⟨g10,0,aj⟩)),(37,ak (ah ⟨b,off,aj⟩) (es.map mb).length ck),(38,ap av (es.map mb).length),(39,ap av (k:Int))])
        (fun Xy=>[aO g2 #[ak aj 0 0,ak aj 0 0,ak aj 0 0,ak aj 0 0,ak aj 0 0,ak aj 0 0] 181,aO g7 (TB Hn Dx Xy xJ TG ve (k:Int)) 242,bx 116 4 Hn p'.aZ.length (p'.aZ.flatMap d_),gC Dx p'.rules,yP xJ qd,vH F' qd p'.follow,bx 4 1 TG p'.last.length (p'.last.map gd),gC Xy (rH m.first first),bx 4 1 ve m.empty.length (m.empty.map gd),aO g10 #[.bool em,va,vb] 244,gC vb last]) ?_ ?_
      · refine dK ([aO g10 #[.bool em,va,vb] 244]) (.calm 0 (.calm 1 (.calm 2 (.calm 3 (.calm 4 (.calm 6 (.calm 7 (.one 5 (.one 8 (.calm 9 (.calm 10 (.calm 11 (.one 12 (.done)))))))))))))) (bZ [12]) ?_
        repeat(first|refine GW ?_|(refine GN ?_;first|refine QW (aw aI.ty I (aE (i:=0) I I)) ?_))
        refine aJ I (dC (aw (v:=vf) aI.ty I (aE (i:=4) I I)) I I I (aK (bZ [12]) ?_));refine aJ I (aW (fP aF.en I I I) (fun w' hm=>iC vf va m.first first w' (Sl.dy (hm.get (i:=1) I)) (Sl.dy (hm.get (i:=10) I)) J J) I I I ?_);intro Xy _
        conv=>arg 8;simp only[zJ,dr,ret,id_eq,ub]
        refine aK (bZ [12]) ?_
        try refine GW ?_
        refine aJ I (aV (i:=13) I fun qf1 qf2=>bT (i:=4) I I I qf1 qf2 I (aK (bZ [12]) ?_))
        try refine GW ?_
        refine dv [0,4,5,6,7,8,9,13,2,12,11] ?_;exact e_ Xy qf2 (by repeat' (first|exact cY|refine cK I ?_)) I
      intro Xy AV
      (repeat refine bY ?_)
      refine my (ι:=Value) (fun TH=>TH.oneCell'=aB) (fun _=>[(2,aH (ah ⟨g2,0,aj⟩)),(7,aH (ah ⟨g7,0,aj⟩)),(10,aH (ah ⟨g10,0,aj⟩)),(37,ak (ah ⟨b,off,aj⟩) (es.map mb).length ck),(38,ap av (es.map mb).length),(39,ap av (k:Int))])
        (fun TH=>[aO g2 #[ak aj 0 0,ak aj 0 0,ak aj 0 0,ak aj 0 0,ak aj 0 0,ak aj 0 0] 181,aO g7 (TB Hn Dx Xy xJ TG TH (k:Int)) 242,bx 116 4 Hn p'.aZ.length (p'.aZ.flatMap d_),gC Dx p'.rules,yP xJ qd,vH F' qd p'.follow,bx 4 1 TG p'.last.length (p'.last.map gd),gC Xy (rH m.first first),bx 4 1 TH (m.empty++[em]).length ((m.empty++[em]).map gd),aO g10 #[.bool em,va,vb] 244,gC vb last]) ?_ ?_
      · refine dK ([aO g10 #[.bool em,va,vb] 244]) (.calm 0 (.calm 1 (.calm 2 (.calm 3 (.calm 4 (.calm 6 (.calm 7 (.two 5 (.one 8 (.one 9 (.calm 10 (.calm 11 (.calm 12 (.one 13 (.done))))))) 8 (.one 5 (.one 9 (.calm 10 (.calm 11 (.calm 12 (.one 13 (.done))))))))))))))) (bZ [9]) ?_
        repeat(first|refine GW ?_|(refine GN ?_;first|refine QW (aw aI.ty I (aE (i:=0) I I)) ?_))
        refine fe I I ?_ ?_
        · refine dC (aw (v:=ve) aI.ty I (aE (i:=1) I I)) I I I (aK (bZ [9]) ?_)
          refine aJ I (fF (cs:=#[.bool em]) [.bool em] I I I (by intro v hv;simp at hv;subst hv;rfl) I I I fun g71=>(aK (bZ [9]) ?_));refine aJ I (eT (i:=8) (e:=4) (size:=1) (bytes:=1) (m:=m.empty.length) (xs:=m.empty.map gd) (k:=1) (ys:=[.bool em]) I (k9 (i:=11) I (fun j u h=>by simpa using h) (aT 1) akV) I I I (fun u hu=>by rw[dH.1 hu];rfl) J J I fun TH=>(aK (bZ [9]) ?_))
          try refine GW ?_
          refine aJ I (aV (i:=8) I fun qe1 qe2=>bT (i:=1) I I I qe1 qe2 I (aK (bZ [9]) ?_))
          try refine GW ?_
          refine dv [0,1,2,3,4,5,6,7,8,9,10] ?_;exact e_ TH qe2 (by repeat' (first|exact cY|refine cK I ?_)) (by rw[<-BD TH m.empty em];rfl)
        refine fF (cs:=#[.bool em]) [.bool em] I I I (by intro v hv;simp at hv;subst hv;rfl) I I I fun g71=>(aK (bZ [9]) ?_);refine aJ I (dC (aw (v:=ve) aI.ty I (aE (i:=1) I I)) I I I (aK (bZ [9]) ?_));refine aJ I (eT (i:=8) (e:=4) (size:=1) (bytes:=1) (m:=m.empty.length) (xs:=m.empty.map gd) (k:=1) (ys:=[.bool em]) I (k9 (i:=11) I (fun j u h=>by simpa using h) (aT 1) akV) I I I (fun u hu=>by rw[dH.1 hu];rfl) J J I fun TH=>(aK (bZ [9]) ?_))
        try refine GW ?_
        refine aJ I (aV (i:=8) I fun qe1 qe2=>bT (i:=1) I I I qe1 qe2 I (aK (bZ [9]) ?_))
        try refine GW ?_
        refine dv [0,1,2,3,4,5,6,7,8,9,10] ?_;exact e_ TH qe2 (by repeat' (first|exact cY|refine cK I ?_)) (by rw[<-BD TH m.empty em];rfl)
      intro TH he';rw[show p'.last.map gd=p'.last.flatMap HP from(BF _).symm];refine iH (i:=10) (φ:=∃a c,vb=ak a last.length c/\(0<last.length->∃gl,a=ah ⟨gl,0,aj⟩)) I (fun w h=>by
        obtain⟨y1,y2⟩:=(show w.ownsRow 0 3 1 vb last.length (last.map (ap .i64))from h);rcases y2 with⟨y3,y4⟩|⟨gl,cap,oU,hv,_⟩
        exact⟨aj,0,by rw[y3,y4],fun h=>by omega⟩;exact⟨_,_,hv,fun _=>⟨gl,rfl⟩⟩) fun Cf=>?_
      obtain⟨al,cl,rfl,VN⟩:=Cf;refine iH (i:=6) (φ:=0<p'.last.length->∃gb cb,TG=ak (ah ⟨gb,0,aj⟩) p'.last.length cb) I (fun w h=>by
        obtain⟨y1,y2⟩:=(show w.ownsRow 0 4 1 TG p'.last.length (p'.last.flatMap HP)from h);rcases y2 with⟨y3,y4⟩|⟨gl,cap,oU,hv,_⟩
        intro h;omega;exact fun _=>⟨gl,cap,hv⟩) fun hvl=>?_
      repeat(first|refine GA ?_|refine gV (aw (v:=ak al last.length cl) aI.ty I (aE (i:=9) I I)) ?_)
      refine s7 [0,1,2,3,4,5,6,7,8,10] ?_;refine dU (ι:=Nat) (fun j=>j<=last.length) (fun j=>[(2,aH (ah ⟨g2,0,aj⟩)),(7,aH (ah ⟨g7,0,aj⟩)),(37,ak (ah ⟨b,off,aj⟩) (es.map mb).length ck),(38,ap av (es.map mb).length),(39,ap av (k:Int)),(77,ak al last.length cl),(78,ap av last.length),(79,ap av (j:Int))])
        (fun j=>[aO g2 #[ak aj 0 0,ak aj 0 0,ak aj 0 0,ak aj 0 0,ak aj 0 0,ak aj 0 0] 181,aO g7 (TB Hn Dx Xy xJ TG TH (k:Int)) 242,bx 116 4 Hn p'.aZ.length (p'.aZ.flatMap d_),gC Dx p'.rules,yP xJ qd,vH F' qd p'.follow,bx 4 1 TG p'.last.length ((fC p'.last (last.take j)).flatMap HP),gC Xy (rH m.first first),bx 4 1 TH (m.empty++[em]).length ((m.empty++[em]).map gd),gC (ak al last.length cl) last]) (fun j=>last.length-j) 0 (bC _) ?_
      intro j j1
      by_cases c7:j<last.length
      · obtain⟨gl,rfl⟩:=VN J
        have hx:=n5.2 last[j] (bV c7);have hgx:last[j]?=ah last[j]:=bm c7;have hms:=VR p'.last last c7;have akx:=Fq p'.last (last.take j);generalize last[j]=xx at*;obtain⟨xn,rfl⟩:=fz hx.1;rw[cX]at hms;have hxn:xn<p'.last.length:=by rw[n1.last];omega
        obtain⟨gb,cb,rfl⟩:=hvl J;have agi:∀(L:List b9) (hi:L[9]?=ah (gC (ak (ah ⟨gl,0,aj⟩) last.length cl) last)),At (w:b_) L ⟨gl,0+j*1,aj⟩ (ap av (xn:Int)):=fun L hi=>ku hi (by rw[eQ,cI,kQ,hgx];rfl)
        repeat(first|refine GA ?_|refine gV (aR bI.eq aI.ty I I c7) ?_|refine gV (aw (v:=ap av (xn:Int)) aI.ty I (agi _ I)) ?_|refine gV (aw (v:=ak (ah ⟨gb,0,aj⟩) p'.last.length cb) aI.ty I (aE (i:=1) I I)) ?_|refine gV (aR bI.eq aI.ty I I hxn) ?_)
        refine Bk V1 (i:=6) (k:=xn) (l:=fC p'.last (last.take j)) (a:=aB) aI.ty I I J J J I I I ?_;rw[<-hms];refine zL ?_
        try refine GA ?_
        exact bO (j+1) J (by show last.length-(j+1)<last.length-j;omega)
      obtain rfl:j=last.length:=by omega
      rw[ig (aT _),BF];refine iH (i:=2) (φ:=∃a c,Hn=ak a p'.aZ.length c) I (fun w h=>by
        obtain⟨a,c,h,_⟩:=Sl.dy (show w.ownsRow 0 116 4 Hn p'.aZ.length (p'.aZ.flatMap d_)from h);exact⟨a,c,h⟩) fun hvc=>?_
      obtain⟨ac,cc,rfl⟩:=hvc
      by_cases c8:200<p'.aZ.length
      · rw[if_pos c8]at i2
        rw[i2]
        repeat(first|refine GC ?_|refine gV (aw (v:=ak ac p'.aZ.length cc) aI.ty I (aE (i:=1) I I)) ?_|refine gV (eP (b:=aB) I I (decide_eq_true J)) ?_|refine gV (bz I tH) ?_|refine GB ?_)
        refine gG 0 ?_;refine zL ?_
        try refine GA ?_
        refine KA ?_;exact ez (i:=0) I I I I I fun w hm=>hm.meets (S:=rJ (2,.zero)) ZS I [10,11,12,13,14,15,16] akV I
      rw[if_neg c8]at i2
      repeat(first|refine GC ?_|refine gV (aw (v:=ak ac p'.aZ.length cc) aI.ty I (aE (i:=1) I I)) ?_|refine gV (eP (b:=aD) I I (decide_eq_false J)) ?_|refine GB ?_)
      refine dv [0,1,2,3,4,5,6,7,8] ?_;exact bO (k+1,⟨{p' with last:=fC p'.last last},rH m.first first,m.empty++[em]⟩,⟨ak ac p'.aZ.length cc,Dx,xJ,TG,qd,F'⟩,Xy,TH,(k:Int)) ⟨by omega,i2,hst.1,by show p'.aZ.length<=200;omega,JM,by rw[bK,nT,i6]⟩ (by show es.length-(k+1)<es.length-k;omega) (hl:=by dsimp only;rw[show p'.last.length=(fC p'.last last).length from(Fq _ _).symm];rfl)
    obtain rfl:k=es.length:=by omega
    rw[uS (aT _)]at i2;rw[i2]
    try refine GA ?_
    refine aV (i:=2) I fun _ a1=>aV (i:=3) I fun _ a2=>aV (i:=4) I fun _ a3=>aV (i:=6) I fun _ a4=>aV (i:=7) I fun _ a5=>aV (i:=8) I fun _ a6=>?_
    repeat(first|refine GA ?_|refine gV (aU (cs:=[vc,vr,vf,vfol,vl,ve]) aI.ty I I (fun j v hj=>aE (i:=1) I (adq hj))) ?_)
    refine aX (i:=0) (cs':=#[vc,vr,vf,vfol,vl,ve]) I I I I (by simp only[cV,dc,a1,a2,a3,a4,a5,a6];rfl) I ?_;refine zL ?_
    try refine GA ?_
    exact ez (i:=0) I I I I I fun w hm=>hm.meets (S:=rJ (0,m)) ⟨vc,vr,vf,vfol,vl,ve,vs,F⟩ i5 [2,3,7,4,5,6,8] akV I
end cg
namespace cg
open Go.RowKit cT ey dj gu eB lG
theorem TI:∀{rs:List Rx},jR rs=0->∃es:List Re,rs=es.map mb/\∀e∈es,Fit e 1 0
 |[],_=>⟨[],rfl,fun _ h=>by cases h⟩
 |r::l,h=>by
  have hr:=Ix h r (fc ..);have hl:jR l=0:=by rw[jR,if_neg (by simpa using hr)]at h;exact h
  obtain⟨es,rfl,h2⟩:=TI hl;obtain⟨e,rfl,hf,_⟩:=JS (tY r) r 1 0 (lC r 1 0).2 (aT _) (by rw[<-hr]);refine⟨e::es,rfl,fun x hx=>?_⟩;rcases df.1 hx with rfl|hx
  exact hf;exact h2 x hx
theorem ZT{e:Re}(h:Fit e 1 0):e.size<=100:=by have:=h.sz;omega
theorem IE:∀(es:List Re) (i:Nat) (m:MS),(mf i m es).1≠0->(mf i m es).2= .zero
 |[],_,_,h=>absurd I h
 |e::r,i,m,h=>by
  rw[mf]at h⊢;split at h
  ·rename_i c;rw[if_pos c]
  rename_i c;rw[if_neg c];exact IE r _ _ h
theorem V2(rs:List Rx):(∃k:Int,k≠0/\ID rs (k,.zero))\/∃(es:List Re) (m:MS),rs=es.map mb/\(∀e∈es,Fit e 1 0)/\0<es.length/\es.length<=20/\mf 0 .zero es=(0,m)/\ID rs (0,m):=by
 by_cases c:rs.length=0\/20<rs.length
 exact .inl ⟨1,by decide,.inl ⟨c,rfl⟩⟩
 by_cases h:jR rs=0
 ·obtain⟨es,h1,h2⟩:=TI h
  have hR:ID rs (mf 0 .zero es):= .inr (.inr ⟨c,h,es,h1,fun e he=>ZT (h2 e he),rfl⟩);have hz:=IE es 0 .zero;have hl:rs.length=es.length:=by rw[h1,dw]
  obtain⟨k,m,e⟩:∃k m,mf 0 .zero es=(k,m):=⟨_,_,rfl⟩;rw[e]at hR hz
  by_cases h0:k=0
  ·subst h0
   exact .inr ⟨es,m,h1,h2,by omega,by omega,e,hR⟩
  obtain rfl:m= .zero:=hz h0;exact .inl ⟨k,h0,hR⟩
 exact .inl ⟨jR rs,h,.inr (.inl ⟨c,h,rfl⟩)⟩
theorem gj{e:TypeId}{size n:Nat}{v:Value}{xs:List Value}(w:World)(h:(bx e size v n xs).holds w):∃a c,v=ak a n c/\n<=9223372036854775807/\(0<n->∃g,a=ah ⟨g,0,aj⟩):=by
 rcases(show w.ownsRow 0 e size v n xs from h).2 with⟨rfl,rfl⟩|⟨g,cap,oU,rfl,_,_,hn,hm,_⟩
 exact⟨_,_,rfl,by omega,fun h=>by omega⟩;exact⟨_,_,rfl,by unfold maxLen at hm;omega,fun _=>⟨g,rfl⟩⟩
theorem adr{F:Nat->Prop}{v:Value}{vs:List Value}{nF:List (List Int)}{w:World}(hr:(yP v vs).holds w)(he:(vH F vs nF).holds w)(hl:vs.length=nF.length):kK (cB iE) (sa w) w v nF:=by
 have Ca:w.ownsRow 0 26 1 v vs.length (vs.flatMap Ah):=hr;obtain⟨base,cap,h1,h2,h3,h4⟩:=Sl.dy Ca;rw[hl]at h1 h2;refine⟨base,cap,h1,h2,h3,fun h0=>?_⟩;obtain⟨b,off,h5,h6⟩:=h4 J;rw[VT]at h6;refine⟨b,off,h5,?_,fun i hi=>⟨[vs[i]' J],⟨vs[i]' J,rfl,?_⟩,fun j u hj=>?_⟩⟩
 ·have:=h6 0 _ (bm J)
  exact oP w _ this
 ·have hs:=ZN he hi J
  obtain⟨⟨q1,q2⟩,q3⟩:=he;obtain⟨v',YZ,mJ,_,hF⟩:=q2 i hi (by rw[dw];omega);rw[oZ]at YZ;simp only[Ah,fg,and_true]at YZ;rw[<-sj]at hs;refine kK.of_flat hs mJ (fun b hb=>q3 b (hF b (by rw[<-YZ];exact hb))) fun a n cp hv=>q3 a.block (hF _ (by rw[<-YZ,hv];rfl))
 have hj0:j=0:=by have:=(cU.1 hj).1;simp at this;exact this
 subst hj0;have:=h6 i u (by rw[bm J];exact hj);show w.cell? ⟨b,off+i*1+0,aj⟩=ah u
 rw[kQ,ji];exact this
end cg
namespace cg
open Go.RowKit cT ey
theorem kh(a:Int):(cT.eX a).length=1:=rfl
end cg
namespace cg
open Go.RowKit cT ey
def boC(b:Bool):List Value:=[.bool b]
theorem TJ(a:Bool):(boC a).length=1:=rfl
end cg
namespace cg
open Go.RowKit cT ey dj eB
theorem ads{F:Nat->Prop}{w:World}{cs:List Value}{l:List Int}(h:(cB iE).is F w cs l):∃v,cs=[v]/\Sl w v l.length (l.flatMap cT.eX):=by
 obtain⟨v,h1,h2⟩:=h;exact⟨v,h1,h2.flat akV⟩
theorem Dz{w w':World}{v:Value}{l:List (List Int)}(h:kK (cB iE) (sa w) w v l)(hg:Gr w w'):kK (cB iE) (sa w') w' v l:=
 (h.stay fun k hk=>hg.block k hk).mono fun _ hk=>jt hk hg.size
def Ho(w:World)(v:Value)(m:MS):Prop:=
 ∃ vc vr vf vfol vl ve,v=aP #[vc,vr,vf,vfol,vl,ve]/\Sl w vc m.ps.aZ.length (m.ps.aZ.flatMap d_)/\Sl w vr m.ps.rules.length (m.ps.rules.flatMap cT.eX)/\Sl w vf m.first.length (m.first.flatMap cT.eX)/\
  kK (cB iE) (sa w) w vfol m.ps.follow/\Sl w vl m.ps.last.length (m.ps.last.flatMap boC)/\Sl w ve m.empty.length (m.empty.flatMap boC)
theorem Ho.gr{w w':World}{v:Value}{m:MS}(h:Ho w v m)(hg:Gr w w'):Ho w' v m:=by
 obtain⟨vc,vr,vf,vfol,vl,ve,h0,h1,h2,h3,h4,h5,h6⟩:=h;exact⟨vc,vr,vf,vfol,vl,ve,h0,h1.gr hg,h2.gr hg,h3.gr hg,Dz h4 hg,h5.gr hg,h6.gr hg⟩
end cg
namespace cg
open Go.RowKit cT ey dj gu eB
theorem Nq(l:List Bool):l.flatMap boC=l.map gd:=BF l
theorem adt{w:World}{x:PIx}{m:MS}(hl:x.vs.length=m.ps.follow.length)(h0:(bx 116 4 x.vc m.ps.aZ.length (m.ps.aZ.flatMap d_)).holds w)(h1:(gC x.vr m.ps.rules).holds w)(h2:(gC x.vf m.first).holds w)(h3:(yP x.vfol x.vs).holds w)(h4:(vH x.F x.vs m.ps.follow).holds w)
 (h5:(bx 4 1 x.vl m.ps.last.length (m.ps.last.map gd)).holds w) (h6:(bx 4 1 x.ve m.empty.length (m.empty.map gd)).holds w):Ho w (.agg (QC x)) m:=by
 refine⟨_,_,_,_,_,_,rfl,Sl.dy h0,?_,?_,adr h3 h4 hl,?_,?_⟩
 ·rw[sj];exact Sl.dy h1
 ·rw[sj];exact Sl.dy h2
 ·rw[Nq];exact Sl.dy h5
 ·rw[Nq];exact Sl.dy h6
theorem Mem.ajC{w:World}{B:b_}{L:List b9}{x:PIx}{m:MS}(i:Nat)(hm:Mem B L w)(hl:x.vs.length=m.ps.follow.length)(h:QB x m=[i,i+1,i+2,i+3,i+4,i+5,i+6].filterMap fun j=>L[j]?)(hlen:i+6<L.length):Ho w (.agg (QC x)) m:=by
 have g:∀j,j<7->∃o,L[i+j]?=ah o/\(QB x m)[j]?=ah o:=by
  intro j hj;have e:∀k,k<7->∃o,L[i+k]?=ah o:=fun k hk=>⟨_,bm J⟩;rw[h];obtain⟨o0,e0⟩:∃o,L[i]?=ah o:=e 0 J;obtain⟨o1,e1⟩:=e 1 J;obtain⟨o2,e2⟩:=e 2 J;obtain⟨o3,e3⟩:=e 3 J;obtain⟨o4,e4⟩:=e 4 J;obtain⟨o5,e5⟩:=e 5 J;obtain⟨o6,e6⟩:=e 6 J;simp only[List.filterMap_cons,e0,e1,e2,e3,e4,e5,e6,List.filterMap_nil]
  match j,hj with
  |0,_=>exact⟨_,e0,rfl⟩
  |1,_=>exact⟨_,e1,rfl⟩
  |2,_=>exact⟨_,e2,rfl⟩
  |3,_=>exact⟨_,e3,rfl⟩
  |4,_=>exact⟨_,e4,rfl⟩
  |5,_=>exact⟨_,e5,rfl⟩
  |6,_=>exact⟨_,e6,rfl⟩
 have k:∀j o,j<7->(QB x m)[j]?=ah o->o.holds w:=fun j o hj ho=>by
  obtain⟨o',h1,h2⟩:=g j hj;rw[h2]at ho
  cases ho
  exact hm.get h1
 exact adt hl (k 0 _ J I) (k 1 _ J I) (k 2 _ J I) (k 3 _ J I) (k 4 _ J I) (k 5 _ J I) (k 6 _ J I)
end cg
namespace cg
open Go.RowKit cT ey dj gu eB
theorem Cr(v:Value)(l:List Int)(n:Nat)(w:World)(hv:Sl w v l.length (l.flatMap cT.eX))(h:Iw n l):
 Calls aC 150 #[v,ap av (n:Int)] w (cJ (ret (.bool aB)) w):=by
 obtain⟨base,cap,rfl,tb,sc,fZ⟩:=hv;unfold maxLen at sc;refine enter (args:=[ak base l.length cap,ap av (n:Int)]) (n:=35) Tryz.func150 I I I ?_
 try refine GA ?_
 refine dU (ι:=Nat) (fun k=>k<=l.length) (fun k=>[(0,ak base l.length cap),(1,ap av (n:Int)),(7,ak base l.length cap),(8,ap av l.length),(9,ap av (k:Int))]) (fun _=>[]) (fun k=>l.length-k) 0 (bC _) ?_;intro k h1
 by_cases c2:k<l.length
 ·obtain⟨b,off,rfl,hr⟩:=fZ J
  have eK:=hU (L:=([]:List b9)) kh hr c2 0 _ I;have hx:=h.2 _ (bV c2)
  by_cases c3:0<k
  ·have hp:=Ef.1 h.1 (k-1) k J c2 J
   have uj:=hU (L:=([]:List b9)) kh hr (k:=k-1) J 0 _ I;generalize l[k]=x at*;generalize l[k-1]' J=y at*
   repeat(first|refine GC ?_|refine gV (aR bI.eq aI.ty I I c2) ?_|refine gV (aw (v:=ap av x) aI.ty I eK) ?_|refine gV (dT (b:=aD) I I (decide_eq_false J)) ?_|refine gV (aR (j:=k-1) bI.eq aI.ty I I J) ?_|refine gV (aw (v:=ap av y) aI.ty I uj) ?_|refine gV (fx (b:=aD) I I (decide_eq_false J)) ?_|refine gV (eP (b:=aB) I I (decide_eq_true J)) ?_|refine gV (eD (r:=((k-1:Nat):Int)) I I J J J) ?_|refine gV (Bg (b:=aD) I I (decide_eq_false J)) ?_|refine GB ?_)
   exact bO (k+1) J (by show l.length-(k+1)<l.length-k;omega)
  generalize l[k]=x at*
  repeat(first|refine GC ?_|refine gV (aR bI.eq aI.ty I I c2) ?_|refine gV (aw (v:=ap av x) aI.ty I eK) ?_|refine gV (dT (b:=aD) I I (decide_eq_false J)) ?_|refine gV (fx (b:=aD) I I (decide_eq_false J)) ?_|refine gV (eP (b:=aD) I I (decide_eq_false J)) ?_|refine GB ?_)
  exact bO (k+1) J (by show l.length-(k+1)<l.length-k;omega)
 ·try refine GA ?_
  exact dR
theorem Fv{w:World}{b off:Nat}{l:List (List Int)}{F:Nat->Prop}(hr:∀i (h:i<l.length),∃cs,(cB iE).is F w cs l[i]/\Rd w b (off+i*(cB iE).c) cs){k:Nat}(hk:k<l.length):∃u,Sl w u l[k].length (l[k].flatMap cT.eX)/\Rd w b (off+k*1) [u]:=by
 obtain⟨cs,h1,h2⟩:=hr k hk;obtain⟨u,rfl,h3⟩:=ads h1;exact⟨u,h3,h2⟩
theorem Fw(v:Value)(m:MS)(w:World)(hp:Ho w v m)(h:Ks m):
 Calls aC 114 #[v] w (cJ (ret (ap av 0)) w):=by
 obtain⟨vc,vr,vf,vfol,vl,ve,rfl,h1,h2,h3,h4,h5,h6⟩:=hp;have hmR:=h.rules;have hmf:=h.Cq;have hms:=h.some;have xp:=h.adm;have l1:=h.ok.ps.rules;have l2:=h.ok.ps.follow;have l3:=h.ok.ps.last;have q1:=fun w' (hg:Gr w w')=>Cr vf m.first m.ps.aZ.length w' (h3.gr hg) h.ok.first;have ZU:=h.ok.ps.ris;clear h h3;obtain⟨⟨cl,rul,nF,la⟩,fi,em⟩:=m;dsimp only at*;rw[l1]at h2;obtain⟨ac,cc,rfl,_⟩:=h1;obtain⟨ar,cr,rfl,hcr,hmr,hrr⟩:=h2;obtain⟨afo,cfo,rfl,hcf,aky,hrf⟩:=h4;obtain⟨al,cl2,rfl,_⟩:=h5;obtain⟨ae,ce,rfl,_⟩:=h6;rw[l2]at hcf;unfold maxLen at*;have q1':=q1;clear q1;generalize hn:cl.length=n at*;refine enter (args:=[aP #[ak ac n cc,ak ar n cr,vf,ak afo nF.length cfo,ak al la.length cl2,ak ae em.length ce]]) (n:=80) Tryz.func114 I I I ?_;refine bY (a_ (bQ I I I fun g1=>?_));refine zL ?_
 repeat(first|refine GC ?_|refine gV (aw (v:=ak ac n cc) aI.ty I (aE (i:=0) I I)) ?_|refine gV (aw (v:=ak ar n cr) aI.ty I (aE (i:=0) I I)) ?_|refine gV (aw (v:=ak afo nF.length cfo) aI.ty I (aE (i:=0) I I)) ?_|refine gV (aw (v:=ak al la.length cl2) aI.ty I (aE (i:=0) I I)) ?_|refine gV (aw (v:=ak ae em.length ce) aI.ty I (aE (i:=0) I I)) ?_|refine gV (aw (v:=vf) aI.ty I (aE (i:=0) I I)) ?_|refine gV (dz (b:=aD) I I (decide_eq_false J)) ?_|refine gV (eP (b:=aD) I I (decide_eq_false J)) ?_|refine gV (cP (b:=aD) I I (decide_eq_false J)) ?_|refine GB ?_)
 refine kV (fP aF.en I I I) (fun w hm=>q1' _ hm.below) I I I I I ?_;intro _ _;refine zL ?_;clear q1'
 try refine GA ?_
 refine dU (ι:=Nat) (fun k=>k<=n) (fun k=>[(1,aH (ah ⟨g1,0,aj⟩)),(3,ap av (n:Int)),(46,ap av (n:Int)),(47,ap av (k:Int))]) (fun _=>[aO g1 #[ak ac n cc,ak ar n cr,vf,ak afo nF.length cfo,ak al la.length cl2,ak ae em.length ce] 181]) (fun k=>n-k) 0 (bC _) ?_;intro k hk
 by_cases c1:k<n
 ·obtain⟨br,QE,rfl,fZ⟩:=hrr J
  obtain⟨bf,adu,rfl,_,V3⟩:=hrf J;obtain⟨u,hu,hd⟩:=Fv V3 (show k<nF.length by omega);have agj:=fun(L:List b9)=>hU (L:=L) kh fZ (show k<rul.length by omega) 0 _ I;have agk:=fun(L:List b9)=>jp (L:=L) hd (j:=0) (v:=u) I;have hx:=hmR _ (bV (show k<rul.length by omega));have q:=fun w' (hg:Gr w w')=>Cr u nF[k] n w' (hu.gr hg) (ZU _ (bV _));clear hrr hrf fZ V3 hd hu;generalize rul[k]=x at*
  try refine GA ?_
  refine dK ([aO g1 #[ak ac n cc,ak (ah ⟨br,QE,aj⟩) n cr,vf,ak (ah ⟨bf,adu,aj⟩) nF.length cfo,ak al la.length cl2,ak ae em.length ce] 181]) (.calm 0 (.calm 1 (.calm 2 (.calm 3 (.calm 4 (.calm 5 (.calm 6 (.calm 7 (.calm 8 (.calm 9 (.calm 10 (.calm 11 (.calm 12 (.calm 13 (.calm 14 (.calm 15 (.calm 16 (.calm 17 (.calm 18 (.calm 19 (.calm 20 (.calm 21 (.calm 22 (.calm 23 (.one 24 (.calm 25 (.calm 26 (.done)))))))))))))))))))))))))))) (bZ [0]) ?_
  repeat(first|(refine GN ?_;first|refine QW QP ?_|refine QW (aw (v:=ak (ah ⟨br,QE,aj⟩) n cr) aI.ty I (aE (i:=0) I I)) ?_|refine QW (aR bI.eq aI.ty I I c1) ?_|refine QW (aw (v:=ap av x) aI.ty I (agj _)) ?_|refine QW (dT (b:=aD) I I (decide_eq_false J)) ?_|refine QW (aw (v:=ak ae em.length ce) aI.ty I (aE (i:=0) I I)) ?_|refine QW (aw (v:=ak (ah ⟨bf,adu,aj⟩) nF.length cfo) aI.ty I (aE (i:=0) I I)) ?_|refine QW (aR (j:=k) bI.eq aI.ty I I J) ?_|refine QW (aw (v:=u) aI.ty I (agk _)) ?_|refine QW (fx (b:=aD) I I (decide_eq_false J)) ?_|refine GX ?_)|refine GW ?_)
  refine aJ I (Dm I I I (aW (fP aF.en I I I) (fun w hm=>q w hm.below) I I I fun _ _=>(aK (bZ [0]) ?_)))
  try refine GW ?_
  try refine GA ?_
  refine dv [0] ?_;exact bO (k+1) J (by show n-(k+1)<n-k;omega)
 ·repeat(first|refine GC ?_|refine gV (eP (b:=aD) I I (decide_eq_false J)) ?_|refine GB ?_)
  exact dR
end cg
namespace cg
open Go.RowKit cT ey dj gu eB
theorem QF{α:Type}{f:α->List Value}{c:Nat}{W0:World}{W:b_}{L:List b9}{b off:Nat}{l:List α}(hc:∀a,(f a).length=c)(ho:mv W0 W)(h:Rd W0 b off (l.flatMap f)){k:Nat}(hk:k<l.length)(j:Nat)(u:Value)(hj:(f l[k])[j]?=ah u):At W L ⟨b,off+k*c+j,aj⟩ u:=by
 have hjc:j<c:=by rw[<-hc l[k]];exact(cU.1 hj).1
 rw[jH];exact Td ho h _ u (by rw[yi hc l k j hk hjc];exact hj)
end cg
namespace cg
open Go.RowKit cT ey dj gu eB nw
def L7(vc vr vf vfol vl ve vs num rows tags:Value):Array Value:=#[vc,vr,vf,vfol,vl,ve,vs,num,rows,tags]
def QG(S:List C4):List Value:=(C4.zero::S).flatMap d_
theorem adv{w:World}{g:Nat}{cs:Array Value}{T:TypeId}(hg:w.heap[g]?=ah (.cells cs T (0,0)))(L:List b9){k:Nat}{v:Value}(hv:cs[k]?=ah v):At (w:b_) L ⟨g,k,aj⟩ v:=
 hJ (by rw[cell_of_row w g k cs T (0,0) hg];exact hv)
theorem Hp(m:MS)(vc vr vf vfol vl ve vs num rows tags:Value)(S:List C4)(g n:Nat)(w:World)(hp:Ho w (aP #[vc,vr,vf,vfol,vl,ve]) m)(h:Ks m)(hg:w.heap[g]?=ah (.cells (L7 vc vr vf vfol vl ve vs num rows tags) 254 (0,0)))
 (hs:Sl w vs (S.length+1) (QG S)) (hn:n<=S.length):
 Calls aC 151 #[aH (ah ⟨g,0,aj⟩),ap av (n:Int)] w (cJ (ret (pu (kf m S n))) w):=by
 obtain⟨_,_,_,_,_,_,he,h1,h2,h3,h4,h5,h6⟩:=hp;simp only[nb,oX,fg,and_true]at he;obtain⟨rfl,rfl,rfl,rfl,rfl,rfl⟩:=he;have hmf:=h.Cq;have TE:=h.ok.first.2;have ZU:=h.ok.ps.ris;have AX:=h.ok.ps.follow;clear h h1 h2 h5 h6;obtain⟨af,cf,rfl,_,akz,hrf⟩:=h3;obtain⟨ao,co,rfl,_,hmo,hro⟩:=h4;obtain⟨ab,cs,rfl,hcs,hms,hrs⟩:=hs;unfold maxLen at*;have hm:=fun L k v hv=>adv (k:=k) (v:=v) hg L hv;refine enter (args:=[aH (ah ⟨g,0,aj⟩),ap av (n:Int)]) (n:=59) Tryz.func151 I I I ?_;refine bY (a_ (aY I fun g4=>?_));refine zL ?_
 try refine GA ?_
 refine aY I fun g5=>?_;refine zL ?_
 by_cases c0:n=0
 ·subst c0
  repeat(first|refine GC ?_|refine gV (cP (b:=aB) I I (decide_eq_true (by simp))) ?_|refine gV (aw (v:=ak af m.first.length cf) aI.ty I (hm _ 2 _ I)) ?_|refine GB ?_)
  refine dU (ι:=Nat) (fun k=>k<=m.first.length) (fun k=>[(4,aH (ah ⟨g4,0,aj⟩)),(5,aH (ah ⟨g5,0,aj⟩)),(18,ak af m.first.length cf),(19,ap av m.first.length),(20,ap av (k:Int))])
   (fun k=>[aO g4 (d_ C4.zero).toArray 303,aO g5 (d_ (qc C4.zero (m.first.take k))).toArray 303]) (fun k=>m.first.length-k) 0 (bC _) ?_
  intro k hk
  by_cases c1:k<m.first.length
  ·have hx:=TE _ (bV c1)
   have hst:=Nh C4.zero m.first c1;obtain⟨bf,adu,rfl,V3⟩:=hrf J;have eK:=fun(L:List b9)=>hU (L:=L) kh V3 c1 0 _ I;generalize m.first[k]=x at*;generalize qc C4.zero (m.first.take k)=c at*;obtain⟨xn,rfl⟩:=fz hx.1;rw[cX]at hst
   repeat(first|refine GA ?_|refine gV (aR bI.eq aI.ty I I c1) ?_|refine gV (aw (v:=ap av (xn:Int)) aI.ty I (eK _)) ?_)
   refine bH [1] [0] akV I I (fP aF.en I I I) (fun w hm hb=>tC c xn J g5 w _ hb) I I I ?_;intro _ _;refine zL ?_
   try refine GA ?_
   exact bO (k+1) J (by show m.first.length-(k+1)<m.first.length-k;omega) (hl:=by rw[hst])
  obtain rfl:k=m.first.length:=by omega
  rw[ig (aT _)];unfold kf;generalize qc C4.zero m.first=c at*
  repeat(first|refine GA ?_|refine gV (aL (i:=1) aI.ty I I I) ?_)
  refine gG 0 (cs':=(d_ c).toArray) ?_;refine zL ?_
  try refine GA ?_
  exact gU (i:=0) I I I I fun w hm=>hm.ret
 ·obtain⟨q,rfl⟩:∃q,n=q+1:=⟨n-1,by omega⟩
  obtain⟨bs,agl,rfl,ahJ⟩:=hrs J;have agm:=fun(L:List b9)=>hU (L:=L) (f:=d_) (c:=4) (fun _=>rfl) (show Rd w bs agl ((C4.zero::S).flatMap d_)from ahJ) (k:=q+1) (by simp;omega);have QH:S.getD q C4.zero=S[q]' J:=by rw[bD,bm J];rfl
  rw[show kf m S (q+1)=n_ m.ps (S.getD q C4.zero) m.ps.follow.length from I,QH];have agm:∀(L:List b9) (j:Nat) (u:Value),(d_ (S[q]' J))[j]?=ah u->At (w:b_) L ⟨bs,agl+(q+1)*4+j,aj⟩ u:=fun L j u hj=>agm L j u hj;clear QH ahJ hrs hrf TE;generalize S[q]' J=s at*
  repeat(first|refine GC ?_|refine gV (cP (b:=aD) I I (decide_eq_false J)) ?_|refine gV (aw (v:=ak ao m.ps.follow.length co) aI.ty I (hm _ 3 _ I)) ?_|refine GB ?_)
  refine dU (ι:=Nat) (fun k=>k<=m.ps.follow.length) (fun k=>[(0,aH (ah ⟨g,0,aj⟩)),(1,ap av ((q+1:Nat):Int)),(4,aH (ah ⟨g4,0,aj⟩)),(5,aH (ah ⟨g5,0,aj⟩)),(32,ak ao m.ps.follow.length co),(33,ap av m.ps.follow.length),(34,ap av (k:Int))])
   (fun k=>[aO g4 (d_ C4.zero).toArray 303,aO g5 (d_ (n_ m.ps s k)).toArray 303]) (fun k=>m.ps.follow.length-k) 0 (bC _) ?_
  intro k hk
  by_cases c1:k<m.ps.follow.length
  ·obtain⟨bo,ajD,rfl,_,ajE⟩:=hro J
   obtain⟨u,hu,hd⟩:=Fv ajE c1;have agk:=fun(L:List b9)=>jp (L:=L) hd (j:=0) (v:=u) I;have hrx:=(ZU _ (bV c1)).2;have QH:m.ps.follow.getD k []=m.ps.follow[k]:=by rw[bD,bm c1];rfl
   have hst:n_ m.ps s (k+1)=if s.mem k=aB then qc (n_ m.ps s k) m.ps.follow[k]else n_ m.ps s k:=by rw[n_,QH]
   clear QH;obtain⟨au,cu,rfl,_,hmu,hru⟩:=hu;unfold maxLen at hmu;generalize m.ps.follow[k]=l at*;generalize n_ m.ps s k=c at*
   repeat(first|refine GA ?_|refine gV (aR bI.eq aI.ty I I c1) ?_|refine gV (aw (v:=ak au l.length cu) aI.ty I (agk _)) ?_|refine gV (aw (v:=ak (ah ⟨bs,agl,aj⟩) (S.length+1) cs) aI.ty I (hm _ 6 _ I)) ?_|refine gV (aR (j:=q+1) bI.eq aI.ty I I J) ?_|refine gV (aU (cs:=d_ s) aI.ty I I (agm _)) ?_)
   have ZV:=fun w=>tB s k J w;generalize hb:s.mem k=b at*;refine aW (fP aF.en I I I) (fun w hm=>ZV w) I I I ?_;intro _ _;refine zL ?_
   by_cases c2:b=aB
   ·subst c2
    rw[if_pos I]at hst
    try refine GA ?_
    refine dU (ι:=Nat) (fun j=>j<=l.length) (fun j=>[(0,aH (ah ⟨g,0,aj⟩)),(1,ap av ((q+1:Nat):Int)),(4,aH (ah ⟨g4,0,aj⟩)),(5,aH (ah ⟨g5,0,aj⟩)),(32,ak (ah ⟨bo,ajD,aj⟩) m.ps.follow.length co),(33,ap av m.ps.follow.length),(34,ap av (k:Int)),(48,ak au l.length cu),(49,ap av l.length),(50,ap av (j:Int))])
     (fun j=>[aO g4 (d_ C4.zero).toArray 303,aO g5 (d_ (qc c (l.take j))).toArray 303]) (fun j=>l.length-j) 0 (bC _) ?_
    intro j hj
    by_cases c3:j<l.length
    ·have hx:=hrx _ (bV c3)
     have agn:=Nh c l c3;obtain⟨bf,adu,rfl,V3⟩:=hru J;have eK:=fun(L:List b9)=>hU (L:=L) kh V3 c3 0 _ I;generalize l[j]=x at*;generalize qc c (l.take j)=c' at*;obtain⟨xn,rfl⟩:=fz hx.1;rw[cX]at agn
     repeat(first|refine GA ?_|refine gV (aR bI.eq aI.ty I I c3) ?_|refine gV (aw (v:=ap av (xn:Int)) aI.ty I (eK _)) ?_)
     refine bH [1] [0] akV I I (fP aF.en I I I) (fun w hm hb=>tC c' xn J g5 w _ hb) I I I ?_;intro _ _;refine zL ?_
     try refine GA ?_
     exact bO (j+1) J (by show l.length-(j+1)<l.length-j;omega) (hl:=by rw[agn])
    obtain rfl:j=l.length:=by omega
    rw[ig (aT _)]
    try refine GA ?_
    exact bO (k+1) J (by show m.ps.follow.length-(k+1)<m.ps.follow.length-k;omega) (hl:=by rw[hst])
   rw[if_neg c2]at hst;obtain rfl:=Bool.eq_false_iff.2 c2
   try refine GA ?_
   exact bO (k+1) J (by show m.ps.follow.length-(k+1)<m.ps.follow.length-k;omega) (hl:=by rw[hst])
  obtain rfl:k=m.ps.follow.length:=by omega
  generalize n_ m.ps s m.ps.follow.length=c at*
  repeat(first|refine GA ?_|refine gV (aL (i:=1) aI.ty I I I) ?_)
  refine gG 0 (cs':=(d_ c).toArray) ?_;refine zL ?_
  try refine GA ?_
  exact gU (i:=0) I I I I fun w hm=>hm.ret
end cg
end Go.Proofs.YtdmgcnggnejnnaaGreat

/- Part 2 of what SessionOwn needs: GramL, StrK, ClassO1, RexI, DfaL, DfaO, Dfa, SmB, MapN, Fam, Sym, SymS, Gram, TreeL, TreeM, CountL, CountN, CountT, CountR, TreeW, CountX, FactsL, FactsM, FactsN, FactsP, FactsQ, Der, CountU, LlL, TreeS, IntO, FactsA, FactsB, FactsC, FactsD, FactsO, Look, GramN, Brk, SymS2, FactsE, FactsF, CountA, ItL, ItM, LrL, IntK, ItB, MapE, ItC, OrdK, OrdJ, ItH, ItN, SortC, SortI, PlacesL, PlU, PlB, PlN, PlS. -/
import Derived.Test.YtdmgcnggnejnnaaGreatMgA
import Derived.StringKeys
import Derived.Sort.Grow
import Derived.Deep.RegionWith
import Derived.Deep.RegionHeld
import Derived.Shelf.Sort.Plain
import Derived.Ground.Names2Prog
import Derived.Shelf.Slices.CompactI
import Derived.Shelf.Slices.In.SortNone
import Derived.Lib.RowBridge
import Derived.Lib.SlicesCompact
namespace Go.Proofs.YtdmgcnggnejnnaaGreat
set_option linter.unusedVariables false
set_option linter.unusedSimpArgs false
open _root_.And renaming intro->cJ
open _root_.Array renaming getElem?_eq_some_iff->jx,getElem?_toList->rh,getElem?_eq_getElem->yz,getElem?_modify->En,toList_modify->PL,ext'->q7,size_push->PM
open _root_.Array.mk renaming injEq->pI
open _root_.BitVec renaming ofNat->io,getLsbD_eq_getElem->PN,ofInt->x8,getLsbD_ofNat->PO,toNat_ofNat->DE,ofInt_natCast->Yl
open _root_.Bool renaming true->aC,false->aE,and_eq_true->eX,or_eq_true->nL,not_eq_true'->sH,or_eq_false_iff->Eo,not_eq_true->Ym
open _root_.ByteArray renaming size->I8
open _root_.Classical renaming choose_spec->DF,choose->I9,em->aff
open _root_.Go.Addr renaming add->x9
open _root_.Go.DataW renaming trod->yb
open _root_.Go.Instr renaming build->df,mapUpdate->AU,lookup->JB,entryStore->PP,mapEntry->PQ
open _root_.Go.IntKind renaming i64->az,bits->kX,wrap_u64->sN,signed->pt,u64->uA,wrap_u8->JC,min->AV,max->AW,u8->JD
open _root_.Go.Lib renaming compact->ri
open _root_.Go.MapKept renaming run_getObj_map->Bc,run_setObj_map->JE
open _root_.Go.Op renaming shift->iM
open _root_.Go.Oper renaming wp->gj
open _root_.Go.Program renaming keyLits->sO
open _root_.Go.Proofs.Tryz renaming prog->aD
open _root_.Go.Result renaming andThen->nD
open _root_.Go.Sem renaming run_pure->pu
open _root_.Go.Value renaming slice->ap,int->av,pointer->aJ,agg->aQ,bool->fT
open _root_.Go.Value.agg renaming injEq->ly
open _root_.Go.Value.int renaming injEq->yA
open _root_.Go.Value.slice renaming injEq->kH
open _root_.Int renaming toNat_natCast->dF,eq_ofNat_of_zero_le->iw,le_refl->lX,toNat_of_nonneg->vh
open _root_.Int.ofNat renaming inj->JF
open _root_.List renaming getElem?_eq_getElem->bK,getD_eq_getElem?_getD->cB,length_append->bI,getElem?_eq_some_iff->dg,getElem_mem->b_,replicate->cL,length_cons->db,all_cons->cY,mem_singleton->dO,all_nil->c_,drop_eq_getElem_cons->eZ,append_nil->du,length_map->dA,take_succ_eq_append_getElem->gX,append_assoc->dZ,mem_cons->dC,getElem?_append_left->iq,getElem?_map->fe,map_append->e7,take_of_length_le->fU,nil_append->eI,flatMap_append->fV,drop_of_length_le->ir,length_drop->ic,mem_append->fx,not_mem_nil->fH,range->eg,mem_cons_self->ia,mem_map->eT,mem_cons_of_mem->jR,mem_iff_getElem->iB,map_cons->gv,length_take->iN,cons_append->jf,length_singleton->nM,flatMap_cons->mg,mem_of_getElem?->mh,getElem?_cons_zero->px,length_range->pJ,mem_range->nG,ext_getElem?->mi,any_eq_true->rj,getElem_map->ta,getElem?_take->rl,mem_of_mem_drop->yB,filterMap_cons_some->A0,set_cons_zero->ye,map_set->tb,mem_or_eq_of_mem_set->PR,mem_append_left->uH,eq_of_mem_replicate->PT,map_nil->q_,filterMap_append->PU,length_mergeSort->PV,range_succ->Bd,mem_flatMap->vj,getElem?_range->Ep,set_cons_succ->DL,length_set->PW,mem_filter->DP,pairwise_mergeSort->Yn,length_eq_zero_iff->Yo,pairwise_singleton->Yp,modify_succ_cons->Yq,mergeSort_perm->Yr,pairwise_cons->Ys,getElem?_set->Yt,getElem_set->Yu
open _root_.List.Pairwise renaming and_mem->afg,nil->afh
open _root_.List.cons renaming injEq->gU
open _root_.Nat renaming le_refl->bz,zero_le->bH,zero_add->cX,lt_of_lt_of_le->iO,blt->dj,le_trans->fI,not_lt_zero->mz,add_zero->iu,add_assoc->k9,mul_one->k_,le_add_right->yC,lt_of_le_of_lt->JG,sub_self->pK,xor_lt_two_pow->PX,pow_lt_pow_right->Er,div_le_self->Es,or_lt_two_pow->Yv,min_le_left->Yw
open _root_.Option renaming some->aj,none->ak,isSome->PY,getD->Yx
open _root_.Option.some renaming injEq->dh
open _root_.Prod renaming ext->oH
open _root_.Prod.mk renaming injEq->fX
open _root_.True renaming intro->cT
open _root_.UInt8 renaming ofNat->fY,toNat_ofNat'->Yy
set_option maxHeartbeats 16000000
namespace aU
abbrev dr:=Int×Int
abbrev Prod:=Int×List dr
structure ep where
 aT:Int
 bC:Int
 aF:List Prod
def right(aT bC:Int)(x:dr):Bool:=if x.1=1 then decide (0<=x.2)&&decide (x.2<aT)else if x.1=2 then decide (0<=x.2)&&decide (x.2<bC)else aE
def zM(aT bC:Int)(p:Prod):Int:=if 8<p.2.length then 2 else if p.1<0 then 1 else if bC<=p.1 then 1 else if p.2.any (λx=>!right aT bC x)=aC then 1 else 0
def pL(aT bC:Int):List Prod->Int
 |[]=>0
 |p::r=>if zM aT bC p≠0 then zM aT bC p else pL aT bC r
def cz(g:ep):Int:=if g.aT<0 then 1 else if 30<g.aT then 1 else if g.bC<1 then 1 else if 20<g.bC then 1 else if 40<g.aF.length then 2 else pL g.aT g.bC g.aF
theorem Yz{t n:Int}{p:Prod}(h:zM t n p=0):p.2.length<=8/\0<=p.1/\p.1<n/\∀x∈p.2,right t n x=true:=by
 unfold zM at h;split at h;· simp at h
 split at h;· simp at h
 split at h;· simp at h
 split at h;· simp at h
 rename_i a b c d
 refine⟨by omega,by omega,by omega,λx hx=>?_⟩;simp only[rj,not_exists,not_and,sH,Bool.not_eq_false]at d
 simpa using d x hx
theorem HR{t n:Int}:∀{l:List Prod},pL t n l=0->∀p∈l,zM t n p=0
 |[],_,_,h=>by cases h
 | q::r,h,p,hp=>by
  unfold pL at h;split at h;contradiction
  rename_i c
  rcases dC.1 hp with rfl|hp
  simpa using c
  exact HR h p hp
theorem cV{g:ep}(h:cz g=0):0<=g.aT/\g.aT<=30/\1<=g.bC/\g.bC<=20/\g.aF.length<=40/\∀p∈g.aF,p.2.length<=8/\0<=p.1/\p.1<g.bC/\∀x∈p.2,right g.aT g.bC x=true:=by
 unfold cz at h;split at h;· simp at h
 split at h;· simp at h
 split at h;· simp at h
 split at h;· simp at h
 split at h;· simp at h
 exact⟨by omega,by omega,by omega,by omega,by omega,λp hp=>Yz (HR h p hp)⟩
end aU
namespace bZ
open Go.RowKit cK dS
theorem str_inj{x y:List UInt8}(h:str x=str y):x=y:=by
 unfold str at h
 simpa using h
def iC:yt aD 9 (List UInt8) where
 kv:=str
 ok l:=l.length<=9223372036854775807
 law:=Go.WideMaps.string_law Tryz.underlying9
 key l h:=⟨_,Go.WideMaps.keyOf_string_mk Tryz.underlying9 (by unfold maxLen;simpa[I8]using h)⟩
 inj x y h:=str_inj h
end bZ
namespace bZ
open Go.RowKit cK dS de
theorem Dd{n:Int}(h0:0<=n)(h1:n<=18446744073709551615):v64 (io 64 n.toNat)= .int .u64 n:=by
 simp only[v64,gB,DE]
 congr 1
 omega
set_option maxRecDepth 100000 in
theorem UX{H:Type}{enc0:TypeId×Value->H}{W:World}:uR enc0 aD W 116 (λcs x=>cs=ed x/\True):=λfuel cs x hf=>by
 have ho:uR enc0 aD W 116 (X3 .u64 0 18446744073709551615 4):=(LS (is:=isInt .u64 0 18446744073709551615) (c:=1) Tryz.underlying116 (by kernel_rfl) (UI Tryz.underlying114)).mono λcs l h=>by
  have e:aD.cellsOf 116=4:=by kernel_rfl
  exact LU (by rw[h.1,e]) h.2
 obtain⟨l,h1,h2,h3⟩:=ho fuel cs _ hf
 match l,h1 with
 |[p,q,r,s],_=>
  have b0:=h3 p (by simp);have b1:=h3 q (by simp);have b2:=h3 r (by simp);have b3:=h3 s (by simp);refine⟨⟨io 64 p.toNat,io 64 q.toNat,io 64 r.toNat,io 64 s.toNat⟩,?_,trivial⟩;show cs=[v64 (io 64 p.toNat),v64 (io 64 q.toNat),v64 (io 64 r.toNat),v64 (io 64 s.toNat)]
  rw[Dd b0.1 b0.2,Dd b1.1 b1.2,Dd b2.1 b2.2,Dd b3.1 b3.2,h2];rfl
end bZ
namespace bZ
open Go.RowKit cK dS de gd Go.ChangeShapes Go.WideShapes Go.ChangeAt
set_option maxRecDepth 100000
section
variable{H:Type}{enc0:TypeId×Value->H}{P:Program}{W:World}{M:Msr P H}
def Et(M:Msr P H)(enc0:TypeId×Value->H)(W:World)(fuel:Nat)(t:TypeId){α:Type}(is:List Value->α->Prop):Prop:=
 ∀cs x,yb enc0 P W 0 (λ_=>aC) aC fuel t cs=aj x->M.ok t x.1->∃a,is cs a
theorem lp.at{fuel:Nat}{t:TypeId}{α:Type}{is:List Value->α->Prop}(h:lp M enc0 W t is):Et M enc0 W fuel t is:=λcs x=>h fuel cs x
theorem JH{fuel:Nat}{t e:TypeId}{c:Nat}(ht:P.underlying t=aj (.slice e))(hc:P.cellsOf e=c)(Lo:0<c){α:Type}{is:List Value->α->Prop}(hd:∀n,fuel=n+1->Et M enc0 W n e is)(_:∀cs a,is cs a->cs.length=c):Et M enc0 W fuel t (λcs l=>agZ W is c cs l/\M.lim e l.length):=λcs x h hm=>by
 rcases DataW.trod_slice ht h with⟨rfl,_⟩|⟨a,len,cap,elems,rest,n,hf,rfl,hx,_,hlc,hmx,tU,DR,_⟩
 exact⟨[],⟨_,rfl,ak,0,rfl,bz _,by decide,λh=>by simp at h⟩,M.zero e⟩;rw[hx]at hm;obtain⟨Ec,qz⟩:=M.slice ht hm;have each:∀i,i<len->∃y:α,∃cs,W.cells? 0 (a.add (i*c)) c=aj cs/\is cs y:=λi hi=>by
  have h1:=DR i hi;rw[hc,bK J]at h1
  cases hcell:W.cells? 0 (a.add (i*c)) c with
  |none=>rw[hcell]at h1;simp at h1
  | some cs=>
   rw[hcell]at h1;obtain⟨y,hy⟩:=hd n hf cs _ h1 (qz _ (eT.2 ⟨_,b_ J,rfl⟩));exact⟨y,cs,rfl,hy⟩
 obtain⟨l,UJ,hp⟩:=C6 len each;subst UJ;refine⟨l,⟨_,rfl,aj a,cap,rfl,hlc,hmx,λh0=>?_⟩,by rw[dA,tU]at Ec;exact Ec⟩;obtain⟨cs0,h1,h2⟩:=hp 0 l[0] (bK h0);have h3:=(lc h1).2 0 Lo;have hlen:=(lc h1).1;rw[bK J]at h3;have hsp:=Hs h3;have e0:a.spot=none:=by
  rw[Nat.zero_mul]at hsp;unfold x9 at hsp
  simpa using hsp
 obtain⟨b,off,spot⟩:=a;obtain rfl:spot=none:=e0;refine⟨b,off,rfl,λi hi=>?_⟩;obtain⟨cs,h4,h5⟩:=hp i l[i] (bK hi);refine⟨cs,h5,λj u hj=>?_⟩;have hj2:j<c:=by
  have:=(dg.1 hj).1;rw[(lc h4).1]at this;exact this
 have h6:=(lc h4).2 j hj2;rw[hj]at h6;have e1:∀(o k:Nat),(⟨b,o,ak⟩:Addr).add k=⟨b,o+k,ak⟩:=λo k=>by unfold x9;simp
 rw[e1,e1]at h6;rw[<-h6]
theorem HT{t:TypeId}{fs:Array Field}(ht:P.underlying t=aj (.struct fs)){fuel:Nat}{cs:List Value}{x:DataW H×List MemPlace}(h:yb enc0 P W 0 (λ_=>aC) aC fuel t cs=aj x)(hm:M.ok t x.1):
 cs.length=P.cellsOf t/\∃n,fuel=n+1/\∀(i:Nat) (f:Field),fs[i]?=aj f->∀{α:Type} {is:List Value->α->Prop},Et M enc0 W n f.type is->∃a,is ((cs.drop f.offset).take (P.cellsOf f.type)) a:=by
 obtain⟨xs,n,hn,hx,hl,hlen,hf⟩:=DataW.trod_struct ht h;refine⟨hl,n,hn,λi f hi α is ho=>?_⟩;have h1:=hf i f hi;have hlt:i<xs.length:=by rw[hlen];exact(jx.1 hi).1
 rw[bK hlt]at h1;rw[hx]at hm;exact ho _ _ h1 (M.X4 ht hm i f _ hi (by rw[fe,bK hlt];rfl))
end
theorem YA{W:World}{v:Value}{l:List Rx}(h:UG W (λcs t=>kQ (qy W) W cs t) 6 v l):ky yv (qy W) W v l:=by
 obtain⟨base,cap,h1,h2,h3,h4⟩:=h;refine⟨base,cap,h1,h2,h3,λh0=>?_⟩;obtain⟨b,off,h5,h6⟩:=h4 h0;refine⟨b,off,h5,?_,λi hi=>?_⟩
 ·obtain⟨cs,h7,h8⟩:=h6 0 h0
  have h7':cs.length=6:=kQ.ae_ h7;have:=h8 0 _ (bK J);exact World.block_lt_of_cell? W _ this
 obtain⟨cs,h7,h8⟩:=h6 i hi;exact⟨cs,h7,h8⟩
theorem Eu{H:Type}{M:Msr aD H}{enc0:TypeId×Value->H}{W:World}:∀(F fuel:Nat),fuel<=F->Et M enc0 W fuel 119 (λcs t=>kQ (qy W) W cs t)
 | 0,fuel,hF,cs,x,h,hm=>by
  obtain⟨_,n,hn,_⟩:=HT Tryz.underlying119 h hm;omega
 | F +1,fuel,hF,cs,x,h,hm=>by
  obtain⟨hl,n,hn,SQ⟩:=HT Tryz.underlying119 h hm;have hl6:cs.length=6:=hl;obtain⟨p,e0,k1⟩:=SQ 0 _ rfl (lp.at (PC Tryz.underlying3));obtain⟨c,e1⟩:=SQ 1 _ rfl (lp.at (HE UX));obtain⟨l,⟨v,e2,hs⟩,_⟩:=SQ 2 _ rfl (JH (c:=6) Tryz.underlying117 (by kernel_rfl) akh (λm hm=>Eu F m J) λcs a h=>h.ae_)
  replace e0:(cs.drop 0).take 1=[av az p]:=e0
  replace e1:(cs.drop 1).take 4=ed c:=e1.1
  replace e2:(cs.drop 5).take 1=[v]:=e2
  refine⟨.mk p c l,zy.2 ⟨v,?_,k1,YA hs⟩⟩;unfold mQ;rw[<-e1]
  match cs,hl6 with
  | [x0,x1,x2,x3,x4,x5],_=>
   simp only[List.drop_succ_cons,List.drop_zero,List.take_succ_cons,List.take_zero,gU,and_true]at e0 e2;subst e0 e2;rfl
end bZ
namespace zN
def nO(n:Nat)(tag:Int)(row:List Int):Bool:=decide (tag< -1)||decide (20<=tag)||row.any λt=>decide (t< -1)||decide ((n:Int)<=t)
def Be(rows:List (List Int))(tags:List Int):Int:=
 if 200<rows.length then 2 else if rows.length=0\/tags.length≠rows.length then 1 else if(eg rows.length).any (λi=>nO rows.length (tags.getD i 0) (rows.getD i []))then 1 else 0
theorem YB{rows:List (List Int)}{tags:List Int}(h:Be rows tags=0):rows.length<=200/\0<rows.length/\tags.length=rows.length/\∀i,i<rows.length-> -1<=tags.getD i 0/\tags.getD i 0<20/\∀t∈rows.getD i [],-1<=t/\t<rows.length:=by
 unfold Be at h;split at h;simp at h;split at h;simp at h;split at h;simp at h
 rename_i c1 c2 c3
 refine⟨by omega,by omega,by omega,λi hi=>?_⟩;simp only[rj,nG,not_exists,not_and]at c3;have:=c3 i hi;simp only[nO,nL,decide_eq_true_eq,rj,not_or,not_exists,not_and]at this;obtain⟨⟨a,b⟩,c⟩:=this;refine⟨by omega,by omega,λt ht=>?_⟩;have:=c t ht;omega
end zN
namespace bZ
open Go.RowKit cK dS zN
set_option maxRecDepth 100000
def isRow(cs:List Value)(r:List Int):Prop:=r.length=256/\cs=r.map (.int .i16)/\∀x∈r,-32768<=x/\x<=32767
def Ma(W:World)(v:Value)(rows:List (List Int))(tags:List Int):Prop:=∃vr vt,v=aQ #[vr,vt]/\UG W isRow 256 vr rows/\UG W (isInt .i64 (-9223372036854775808) 9223372036854775807) 1 vt tags/\∀r∈rows,r.length=256
theorem Ma.up{W w:World}{L:List b9}{v:Value}{rows:List (List Int)}{tags:List Int}(h:Ma W v rows tags)(hm:Mem W L w):Ma w v rows tags:=
 let ⟨vr,vt,h1,h2,h3,h4⟩:=h;⟨vr,vt,h1,h2.up hm,h3.up hm,h4⟩
end bZ
namespace bZ
open Go.RowKit cK dS zN
theorem afi{rows:List (List Int)}{i:Nat}(hi:i<rows.length):rows.getD i []=rows[i]:=by rw[cB,bK hi];rfl
theorem PZ{l:List Int}{i:Nat}(hi:i<l.length):l.getD i 0=l[i]:=by rw[cB,bK hi];rfl
theorem UY{n i:Nat}{p:Nat->Bool}(hi:i<n)(h:p i=aC):(eg n).any p=true:=rj.2 ⟨i,nG.2 hi,h⟩
theorem Ew(v:Value)(rows:List (List Int))(tags:List Int)(w:World)(h:Ma w v rows tags):
 Calls aD 116 #[v] w (bY (ret (av az (Be rows tags))) w):=by
 obtain⟨vr,vt,rfl,hr,ht,ajM⟩:=h;obtain⟨br,cr,rfl,WD,ul,Ex⟩:=hr;have ht':=ht.sl (f:= .int .i64) λcs a h=>h.1;obtain⟨bt,ct,rfl,ht1,YC,Lp⟩:=ht';have htr:∀i (hi:i<tags.length),-9223372036854775808<=tags[i]/\tags[i]<=9223372036854775807:=λi hi=>by
  obtain⟨_,_,_,_,_,h5⟩:=ht;obtain⟨_,_,_,h6⟩:=h5 J;obtain⟨_,h7,_⟩:=h6 i hi;exact h7.2
 clear ht;unfold maxLen at ul YC;refine enter (args:=[aQ #[ap br rows.length cr,ap bt tags.length ct]]) (n:=57) Tryz.func116 I I I ?_;refine bW (bB (bP I I I λg=>?_))
 repeat(first|refine GA ?_|refine gV (aB aK.ty I (aH (i:=0) I I)) ?_)
 unfold Be
 by_cases c1:200<rows.length
 ·rw[if_pos c1]
  try refine GA ?_
  exact eH
 ·rw[if_neg c1]
  by_cases c2:rows.length=0
  ·rw[if_pos (.inl c2)]
   repeat(first|refine GA ?_|refine gV (aB aK.ty I (aH (i:=0) I I)) ?_)
   exact eH
  by_cases c3:tags.length=rows.length
  ·rw[if_neg J]
   repeat(first|refine GA ?_|refine gV (aB aK.ty I (aH (i:=0) I I)) ?_)
   refine mq (ι:=Nat) (λi=>i<=rows.length/\∀j,j<i->nO rows.length (tags.getD j 0) (rows.getD j [])=aE) (λi=>[(1,aJ (aj ⟨g,0,ak⟩)),(3,av az rows.length),(21,av az rows.length),(22,av az (i:Int))]) (λ_=>[aP g #[ap br rows.length cr,ap bt tags.length ct] 186]) (λi=>rows.length-i) 0 ⟨by omega,λj hj=>by omega⟩ ⟨rfl,rfl,rfl,rfl,trivial⟩ I ?_;rintro i ⟨h1,h2⟩
   by_cases c4:i<rows.length
   ·obtain⟨b,off,rfl,hb⟩:=Ex J
    obtain⟨b',zO,rfl,OJ⟩:=Lp J;have c4':i<tags.length:=by omega
    have dy:=Jo (L:=[aP g #[ap (aj ⟨b,off,ak⟩) rows.length cr,ap (aj ⟨b',zO,ak⟩) tags.length ct] 186]) OJ c4';obtain⟨cs,hcs,fJ⟩:=hb i c4;obtain⟨q1,q2,q3⟩:=hcs;have hti:=htr i c4';have hta:=PZ c4';have hra:=afi c4;have om:∀(P:Prop),nO rows.length (tags.getD i 0) (rows.getD i [])=aC->(if(eg rows.length).any (λi=>nO rows.length (tags.getD i 0) (rows.getD i []))=aC then(1:Int)else 0)=1:=λ_ h=>if_pos (UY c4 h);rw[hta,hra]at om
    by_cases c5:tags[i]< -1
    ·rw[om True (by simp[nO,c5])]
     repeat(first|refine GA ?_|refine gV (aB aK.ty I (aH (i:=0) I I)) ?_|refine gV (bU bM.eq aK.ty I I c4') ?_|refine gV (aB aK.ty I dy) ?_)
     exact eH
    by_cases c6:20<=tags[i]
    ·rw[om True (by simp[nO,c6])]
     repeat(first|refine GA ?_|refine gV (aB aK.ty I (aH (i:=0) I I)) ?_|refine gV (bU bM.eq aK.ty I I c4') ?_|refine gV (aB aK.ty I dy) ?_)
     exact eH
    repeat(first|refine GA ?_|refine gV (aB aK.ty I (aH (i:=0) I I)) ?_|refine gV (bU bM.eq aK.ty I I c4') ?_|refine gV (aB aK.ty I dy) ?_|refine gV (aY bM.eq aK.ty I I c4) ?_|refine gV (bm aK.ty I (by rw[q2,dA,q1]) (λj v hj=>jc fJ hj)) ?_)
    refine mq (ι:=Nat) (λb=>b<=256/\∀q,q<b-> -1<=rows[i].getD q 0/\rows[i].getD q 0<rows.length) (λb=>[(1,aJ (aj ⟨g,0,ak⟩)),(3,av az rows.length),(21,av az rows.length),(22,av az (i:Int)),(43,aQ cs.toArray),(44,av az (b:Int))]) (λ_=>[aP g #[ap (aj ⟨b,off,ak⟩) rows.length cr,ap (aj ⟨b',zO,ak⟩) tags.length ct] 186]) (λb=>256-b) 0 ⟨by omega,λq hq=>by omega⟩ ⟨rfl,rfl,rfl,rfl,rfl,rfl,trivial⟩ I ?_;rintro q ⟨k1,k2⟩
    by_cases c7:q<256
    ·have hql:q<rows[i].length:=by omega
     have hqv:=PZ hql;have hcell:cs.toArray[q]?=aj (.int .i16 rows[i][q]):=by rw[q2];simp[hql]
     have hq3:=q3 _ (b_ hql);have Ey:rows[i][q]∈rows[i]:=b_ hql;generalize rows[i][q]=z at*
     by_cases c8:z< -1
     ·rw[om True (by simp only[nO,nL,rj];exact .inr ⟨z,Ey,by simp[c8]⟩)]
      clear k2 h2 Ex Lp
      repeat(first|refine GA ?_|refine gV (jN bM.eq aK.ty I I c7 hcell) ?_|refine gV (jo bM.eq bM.eq I (n0 J J)) ?_)
      exact eH
     by_cases c9:(rows.length:Int)<=z
     ·rw[om True (by simp only[nO,nL,rj];exact .inr ⟨z,Ey,by simp[c9]⟩)]
      clear k2 h2 Ex Lp
      repeat(first|refine GA ?_|refine gV (jN bM.eq aK.ty I I c7 hcell) ?_|refine gV (jo bM.eq bM.eq I (n0 J J)) ?_)
      exact eH
     repeat(first|refine GA ?_|refine gV (jN bM.eq aK.ty I I c7 hcell) ?_|refine gV (jo bM.eq bM.eq I (n0 J J)) ?_)
     exact jH (q+1) ⟨by omega,λq' DU=>if e:q'<q then k2 q' e else(by obtain rfl:q'=q:=J;rw[hqv];omega)⟩ (by show 256-(q+1)<256-q;omega) ⟨rfl,rfl,rfl,rfl,rfl,rfl,trivial⟩ I
    have zP:nO rows.length (tags.getD i 0) (rows.getD i [])=false:=by
     rw[hta,hra];simp only[nO,Eo,decide_eq_false_iff_not,List.any_eq_false,Ym];refine⟨⟨c5,c6⟩,λz hz=>?_⟩;obtain⟨q',DU,rfl⟩:=iB.1 hz;have:=k2 q' J;rw[PZ DU]at this;simp;omega
    try refine GA ?_
    exact jH (i+1) ⟨by omega,λj hj=>if e:j<i then h2 j e else(by obtain rfl:j=i:=J;exact zP)⟩ (by show rows.length-(i+1)<rows.length-i;omega) ⟨rfl,rfl,rfl,rfl,trivial⟩ I
   have hno:¬(eg rows.length).any (λi=>nO rows.length (tags.getD i 0) (rows.getD i []))=true:=by
    simp only[rj,nG,not_exists,not_and];intro j hj;rw[h2 j J];simp
   rw[if_neg hno]
   try refine GA ?_
   exact eH
  rw[if_pos (.inr c3)]
  repeat(first|refine GA ?_|refine gV (aB aK.ty I (aH (i:=0) I I)) ?_)
  exact eH
end bZ
namespace cD
structure vm where
 n:Nat
 d:Nat->Nat->Int
 tag:Nat->Int
structure vm.Ok(A:vm):Prop where
 pos:0<A.n
 le:A.n<=200
 step:∀i,i<A.n->∀b,b<256-> -1<=A.d i b/\A.d i b<A.n
 tags:∀i,i<A.n-> -1<=A.tag i/\A.tag i<20
abbrev Row:=Vector Int 256
abbrev Kind:=Int×Row
section
variable(A:vm)
def val(now:Nat->Nat)(q:Int):Nat:=if q<0 then 0 else now q.toNat
def kind(now:Nat->Nat)(i:Nat):Kind:=((now i:Int),Vector.ofFn λb:Fin 256=>(val now (A.d i b):Int))
def dead:Kind:=(0,Vector.replicate 256 0)
def kinds(now:Nat->Nat):List Kind:=(eg A.n).map (kind A now)
def pM(now:Nat->Nat):List Kind:=dR [dead] (kinds A now)
def next(now:Nat->Nat)(i:Nat):Nat:=idx (pM A now) (kind A now i)
def HU:Nat->Nat->(Nat->Nat)->Nat->Nat
 |0,_,now=>now
 |f+1,n,now=>if(pM A now).length=n then next A now else HU f (pM A now).length (next A now)
def zQ(i:Nat):Nat:=(A.tag i+1).toNat
def dY:Nat->Nat:=HU A (A.n+2) 0 (zQ A)
def tg(q:Int):Int:=if q<0 then-1 else A.tag q.toNat
def dt(q:Int)(b:Nat):Int:=if q<0 then-1 else A.d q.toNat b
def go:Int->List UInt8->Int
 |q,[]=>q
 |q,b::s=>go (dt A q b.toNat) s
def St(q:Int):Prop:= -1<=q/\q<A.n
def same(q r:Int):Prop:=∀s,tg A (go A q s)=tg A (go A r s)
def kd(now:Nat->Nat)(q:Int):Kind:=if q<0 then dead else kind A now q.toNat
end
section
variable{A:vm}
theorem HV(hA:A.Ok){q:Int}(hq:St A q){b:Nat}(hb:b<256):St A (dt A q b):=by
 unfold St dt at*;have:=hA.pos;split;omega;exact hA.step q.toNat J b hb
theorem UZ{q r:Int}(h:same A q r)(b:Nat)(hb:b<256):same A (dt A q b) (dt A r b):=λs=>by
 have:=h (fY b::s);have e:(fY b).toNat=b:=by simp;omega
 simp only[go,e]at this;exact this
theorem JI(now:Nat->Nat)(q:Int):(kd A now q).1=(val now q:Int):=by
 unfold kd val dead kind;split<;>rfl
theorem JJ(now:Nat->Nat)(q:Int)(b:Nat)(hb:b<256):(kd A now q).2[b]=(val now (dt A q b):Int):=by
 unfold kd dt dead kind;split;simp[val];simp
theorem YD{now:Nat->Nat}{q r:Int}:kd A now q=kd A now r↔val now q=val now r/\∀b,b<256->val now (dt A q b)=val now (dt A r b):=by
 constructor
 ·intro h
  refine⟨?_,λb hb=>?_⟩
  ·have e:(kd A now q).1=(kd A now r).1:=by rw[h]
   rw[JI,JI]at e;exact JF e
  have e:(kd A now q).2[b]=(kd A now r).2[b]:=by rw[h]
  rw[JJ _ _ _ hb,JJ _ _ _ hb]at e;exact JF e
 rintro⟨h1,h2⟩;refine oH ?_ (Vector.ext λb hb=>?_);rw[JI,JI,h1];rw[JJ _ _ _ hb,JJ _ _ _ hb,h2 b hb]
theorem Mb(now:Nat->Nat):dead∈pM A now:=lx.2 (.inl (by simp))
theorem YE{now:Nat->Nat}{i:Nat}(h:i<A.n):kind A now i∈pM A now:=lx.2 (.inr (eT.2 ⟨i,nG.2 h,rfl⟩))
theorem YF{now:Nat->Nat}{q:Int}(h:q<A.n):kd A now q∈pM A now:=by
 unfold kd;split;exact Mb now;exact YE J
theorem U0(now:Nat->Nat):(pM A now).Nodup:=s_ _ _ (by simp)
theorem Bf(now:Nat->Nat):(pM A now).length<=A.n+1:=by
 have h:∀(l D:List Kind),(dR D l).length<=D.length+l.length:=by
  intro l
  induction l with
  |nil=>intro D;simp[dR]
  |cons k l ih=>
   intro D;have:=ih (more D k);have h2:(more D k).length<=D.length+1:=by unfold more;split<;>simp
   show(dR (more D k) l).length<=_
   simp;omega
 have:=h (kinds A now) [dead];unfold pM;simp[kinds]at this⊢;omega
theorem SR(now:Nat->Nat):0<(pM A now).length:=List.length_pos_of_mem (Mb now)
theorem vv(now:Nat->Nat){q:Int}:val (next A now) q=idx (pM A now) (kd A now q):=by
 unfold val kd;split
 ·obtain⟨E,h⟩:=s9 (kinds A now) [dead]
  rw[pM,h];exact(Yf dead E).symm
 rfl
theorem qR{now:Nat->Nat}{q:Int}(h:q<A.n):val (next A now) q<(pM A now).length:=by
 rw[vv];exact pH (YF h)
theorem JK{now:Nat->Nat}{q r:Int}(hq:q<A.n):val (next A now) q=val (next A now) r↔kd A now q=kd A now r:=by
 rw[vv,vv];exact⟨λh=>ab4 (YF hq) h,λh=>by rw[h]⟩
theorem Ez{now:Nat->Nat}{q r:Int}(hq:q<A.n)(h:val (next A now) q=val (next A now) r):val now q=val now r:=(YD.1 ((JK hq).1 h)).1
theorem YG{now:Nat->Nat}{v:Nat}(h:v<(pM A now).length):∃q:Int,St A q/\val (next A now) q=v:=by
 have hm:(pM A now)[v]∈pM A now:=b_ h;have hi:idx (pM A now) (pM A now)[v]=v:=Ej (U0 now) h;rcases lx.1 hm with hd|hk
 ·refine⟨-1,⟨by omega,by omega⟩,?_⟩
  rw[vv,show kd A now (-1)=dead from I,<-dO.1 hd];exact hi
 obtain⟨i,h1,h2⟩:=eT.1 hk;rw[nG]at h1;refine⟨i,⟨by omega,by omega⟩,?_⟩;have e:kd A now (i:Int)=kind A now i:=by unfold kd;rw[if_neg J,dF]
 rw[vv,e,h2];exact hi
def SS(A:vm)(n:Nat)(now:Nat->Nat):Prop:=∃was,now=next A was/\n=(pM A was).length
def Mc(A:vm)(x:Nat):Int:=if x<A.n then(x:Int)else-1
theorem YH{q:Int}(h:St A q):∃x,x<A.n+1/\Mc A x=q:=by
 unfold St at h
 by_cases c:q<0
 exact⟨A.n,by omega,by unfold Mc;rw[if_neg J];omega⟩;exact⟨q.toNat,by omega,by unfold Mc;rw[if_pos J];omega⟩
theorem JL(x:Nat):Mc A x<A.n:=by unfold Mc;split<;>omega
theorem yD{n:Nat}{now:Nat->Nat}(h:SS A n now):n<=(pM A now).length/\((pM A now).length=n->∀q r,St A q->St A r->val now q=val now r->val (next A now) q=val (next A now) r):=by
 obtain⟨was,rfl,rfl⟩:=h;have h:=PF (N:=A.n+1) (f:=λx=>val (next A was) (Mc A x)) (g:=λx=>val (next A (next A was)) (Mc A x)) (n:=(pM A was).length) (c:=(pM A (next A was)).length)
  (λv hv=>by
   obtain⟨q,hq,e⟩:=YG hv;obtain⟨x,hx,e2⟩:=YH hq;exact⟨x,hx,by show val (next A was) (Mc A x)=v;rw[e2];exact e⟩)
  (λx _=>qR (JL x)) (λx y _ _ e=>Ez (JL x) e)
 refine⟨h.1,λhc q r hq hr e=>?_⟩;obtain⟨x,hx,rfl⟩:=YH hq;obtain⟨y,hy,rfl⟩:=YH hr;exact h.2 hc (λx _=>qR (JL x)) x y hx hy e
structure Way(A:vm)(now:Nat->Nat):Prop where
 tags:∀q r,St A q->St A r->val now q=val now r->tg A q=tg A r
 coarse:∀q r,St A q->St A r->same A q r->val now q=val now r
theorem aiM(hA:A.Ok):Way A (zQ A) where
 tags q r hq hr h:=by
  unfold St at hq hr;unfold val zQ at h;unfold tg;have h1:=λc=>hA.tags q.toNat (c:q.toNat<A.n);have h2:=λc=>hA.tags r.toNat (c:r.toNat<A.n)
  by_cases c1:q<0<;>by_cases c2:r<0<;>simp only[c1,c2,if_true,if_false]at h⊢
  have:=h2 J;omega;have:=h1 J;omega;have:=h1 J;have:=h2 J;omega
 coarse q r hq hr h:=by
  have:=h [];simp only[go]at this;unfold tg at this;unfold val zQ
  by_cases c1:q<0<;>by_cases c2:r<0<;>simp only[c1,c2,if_true,if_false]at this⊢ <;>omega
theorem EA(hA:A.Ok){now:Nat->Nat}(h:Way A now):Way A (next A now) where
 tags q r hq hr e:=h.tags q r hq hr (Ez hq.2 e)
 coarse q r hq hr e:=(JK hq.2).2 (YD.2 ⟨h.coarse q r hq hr e,λb hb=>h.coarse _ _ (HV hA hq hb) (HV hA hr hb) (UZ e b hb)⟩)
structure EB(A:vm)(bl:Nat->Nat):Prop where
 le:∀i,i<A.n->bl i<=A.n
 tags:∀q r,St A q->St A r->val bl q=val bl r->tg A q=tg A r
 step:∀q r,St A q->St A r->val bl q=val bl r->∀b,b<256->val bl (dt A q b)=val bl (dt A r b)
 coarse:∀q r,St A q->St A r->same A q r->val bl q=val bl r
theorem P0(hA:A.Ok){n:Nat}{now:Nat->Nat}(hr:SS A n now)(hw:Way A now)(hc:(pM A now).length=n):EB A (next A now) where
 le i hi:=by
  have:=qR (A:=A) (now:=now) (q:=(i:Int)) J;have h2:=Bf (A:=A) now;unfold val at this;rw[if_neg J,dF]at this;omega
 tags:=(EA hA hw).tags
 coarse:=(EA hA hw).coarse
 step q r hq CG e b hb:=(yD hr).2 hc _ _ (HV hA hq hb) (HV hA CG hb) ((YD.1 ((JK hq.2).1 e)).2 b hb)
theorem YI(hA:A.Ok):∀(f n:Nat) (now:Nat->Nat),(n=0\/SS A n now)->n<=A.n+1->A.n+2<=f+n->Way A now->EB A (HU A f n now)
 |0,n,now,_,h1,h2,_=>by omega
 | f +1,n,now,hr,h1,h2,hw=>by
  unfold HU;have hp:=SR (A:=A) now;split
  ·rename_i hc
   rcases hr with rfl|hr
   omega;exact P0 hA hr hw hc
  rename_i hc
  refine YI hA f _ _ (.inr ⟨now,rfl,rfl⟩) (Bf now) ?_ (EA hA hw);rcases hr with rfl|hr
  omega;have:=(yD hr).1;omega
theorem U1(hA:A.Ok):EB A (dY A):=YI hA _ _ _ (.inl I) (bH _) J (aiM hA)
theorem EB.same(hA:A.Ok){bl:Nat->Nat}(h:EB A bl){q r:Int}(hq:St A q)(hr:St A r):val bl q=val bl r↔same A q r:=by
 refine⟨λe s=>?_,h.coarse q r hq hr⟩
 induction s generalizing q r with
 |nil=>exact h.tags q r hq hr e
 |cons b s ih=>exact ih (HV hA hq b.toNat_lt) (HV hA hr b.toNat_lt) (h.step q r hq hr e _ b.toNat_lt)
end
end cD
namespace bZ
open Go.RowKit cK dS cD
def kR{κ:Type}[DecidableEq κ](D:List κ)(x:κ):Option Value:=if x∈D then aj (av az (idx D x:Int))else ak
theorem HW{κ:Type}[DecidableEq κ]{D:List κ}{x:κ}(hn:x∉D):(λy=>if y=x then aj (av az (D.length:Int))else kR D y)=kR (D++[x]):=by
 funext y
 unfold kR
 by_cases c:y=x
 ·subst c
  rw[if_pos I,if_pos (by simp)];have:=rW (D:=D) (k:=y);unfold more at this;rw[if_neg hn,if_neg hn]at this;rw[this]
 rw[if_neg c]
 by_cases c2:y∈D
 rw[if_pos c2,if_pos (uH _ c2),qP c2];rw[if_neg c2,if_neg (by simp[c,c2])]
section
variable{P:Program}{k:TypeId}{κ:Type}{K:yt P k κ}
variable{W:bL}{fr:Fr}{L:List b9}{Q:Exit->Act->World->Prop}{ops:Array Oper}{rest:List Oper}{n d:Nat}{dst:Option Tmp}{ty:TypeId}{pos:String}{after:Array Edge}{guard:Option (Nat×Bool)}{i g c:Nat}{t e:TypeId}{D:List κ}{x:κ}{z:Value}{xm xk xv:Operand}[DecidableEq κ]
theorem vz(ht:P.underlying t=aj (.map k e))(hz:∀w,(zeroValue e).run P w= .ok z w)(hi:L[i]?=aj (fq K g (kR D) c))(hm:ev fr xm=aj (.map (aj g)))(hk:ev fr xk=aj (K.kv x))(hx:K.ok x)(hn:x∈D):RR P n W ⟨dst,.lookup t xm xk aC,ty,pos,after,guard⟩ fr L (.tuple #[av az (idx D x:Int),.bool aC]):=by
 have:=pg (n:=n) (W:=W) (dst:=dst) (ty:=ty) (pos:=pos) (after:=after) (guard:=guard) K ht hz hi hm hk hx;rw[show kR D x=aj (av az (idx D x:Int))from if_pos hn]at this;exact this
theorem vB(ht:P.underlying t=aj (.map k e))(hz:∀w,(zeroValue e).run P w= .ok z w)(hi:L[i]?=aj (fq K g (kR D) c))(hm:ev fr xm=aj (.map (aj g)))(hk:ev fr xk=aj (K.kv x))(hx:K.ok x)(hn:x∉D):RR P n W ⟨dst,.lookup t xm xk aC,ty,pos,after,guard⟩ fr L (.tuple #[z,.bool aE]):=by
 have:=pg (n:=n) (W:=W) (dst:=dst) (ty:=ty) (pos:=pos) (after:=after) (guard:=guard) K ht hz hi hm hk hx;rw[show kR D x=ak from if_neg hn]at this;exact this
theorem Bg(hn:dj d n=aC)(h:∀g,TL P n W ops Q rest ((d,.map (aj g))::fr) (L++[fq K g (kR []) 0])):
 TL P n W ops Q (⟨aj d,.makeMap t ak,ty,pos,after,ak⟩::rest) fr L:=by
 refine yu K hn λg=>?_;have e:(λ(_:κ)=>(none:Option Value))=kR []:=by funext y;unfold kR;rw[if_neg (by simp)]
 rw[e];exact h g
theorem Bh(ht:P.underlying t=aj (.map k e))(hi:L[i]?=aj (fq K g (kR D) D.length))(hm:ev fr xm=aj (.map (aj g)))(hk:ev fr xk=aj (K.kv x))(hv:ev fr xv=aj (av az (D.length:Int)))(hx:K.ok x)(hn:x∉D)(hc:D.length<=1152921504606846976)
 (h:TL P n W ops Q rest fr (L.set i (fq K g (kR (D++[x])) (D++[x]).length))):
 TL P n W ops Q (⟨ak,.mapUpdate t xm xk xv,ty,pos,after,ak⟩::rest) fr L:=by
 refine mI K ht hi hm hk hv hx hc ?_;rw[HW hn];rw[show kR D x=ak from if_neg hn];rw[show(D++[x]).length=D.length+1 by simp]at h;exact h
end
end bZ
namespace bZ
open Go.RowKit cK dS
def jB(D:Nat->Prop)(f:Nat->b9):b9 where
 A5:=ak
 more:=λk=>∃i,D i/\(f i).e_ k
 holds:=λw=>(∀i,D i->(f i).holds w)/\∀i j,D i->D j->i≠j->∀k,(f i).e_ k->¬(f j).e_ k
 lt:=λw h k hk=>by
  rcases hk with hk|⟨i,hi,hk⟩
  cases hk
  exact(f i).lt w (h.1 i hi) k hk
 stay:=λw w' h hs hb=>⟨λi hi=>(f i).stay w w' (h.1 i hi) hs λk hk=>hb k (.inr ⟨i,hi,hk⟩),h.2⟩
theorem Bi{D D':Nat->Prop}{f f':Nat->b9}(h1:∀k,D' k->D k)(h2:∀k,D' k->f' k=f k)(w:World)(h:(jB D f).holds w):(jB D' f').holds w:=
 ⟨λi hi=>by rw[h2 i hi];exact h.1 i (h1 i hi),λi j hi hj sE=>by rw[h2 i hi,h2 j hj];exact h.2 i j (h1 i hi) (h1 j hj) sE⟩
theorem EC{D D':Nat->Prop}{f f':Nat->b9}(h1:∀k,D' k->D k)(h2:∀k,D' k->f' k=f k)(k:Nat)(h:(jB D' f').e_ k):(jB D f).e_ k:=by
 rcases h with h|⟨i,hi,hk⟩
 cases h
 exact .inr ⟨i,h1 i hi,by simp_all⟩
def U2(f:Nat->b9)(i:Nat)(o:b9):Nat->b9:=λk=>if k=i then o else f k
theorem Bj{f:Nat->b9}{i j:Nat}{o:b9}(h:j≠i):U2 f i o j=f j:=by simp_all[U2]
theorem Bk{f:Nat->b9}{i:Nat}{o:b9}:U2 f i o i=o:=by simp[U2]
theorem ab7{D:Nat->Prop}{f:Nat->b9}{i:Nat}{o:b9}{w:World}(hi:¬D i)(h:(jB D f).holds w)(ho:o.holds w)(ha:∀k,(jB D f).e_ k->¬o.e_ k):(jB (λk=>D k\/k=i) (U2 f i o)).holds w:=by
 have hf:∀j,D j->U2 f i o j=f j:=λj hj=>Bj λe=>hi (by simp_all);have hg:U2 f i o i=o:=Bk;refine⟨λj hj=>?_,λj k hj hk hjk q hq DU=>?_⟩
 ·rcases hj with hj|rfl
  rw[hf j hj];exact h.1 j hj;rw[hg];exact ho
 rcases hj with hj|rfl<;>rcases hk with hk|rfl
 rw[hf j hj]at hq;rw[hf k hk]at DU;exact h.2 j k hj hk hjk q hq DU;rw[hf j hj]at hq;rw[hg]at DU;exact ha q (.inr ⟨j,hj,hq⟩) DU;rw[hg]at hq;rw[hf k hk]at DU;exact ha q (.inr ⟨k,hk,DU⟩) hq;exact hjk I
theorem YJ{D:Nat->Prop}{f:Nat->b9}{i:Nat}{o:b9}(hi:¬D i)(k:Nat)(h:(jB (λk=>D k\/k=i) (U2 f i o)).e_ k):(jB D f).e_ k\/o.e_ k:=by
 rcases h with h|⟨j,hj,hk⟩
 cases h
 rcases hj with hj|rfl
 exact .inl (.inr ⟨j,hj,by grind[Bj]⟩);exact .inr (by rw[Bk]at hk;exact hk)
section
variable{P:Program}{n:Nat}{W:bL}{fr:Fr}{L:List b9}{Q:Exit->Act->World->Prop}{ops:Array Oper}{rest:List Oper}{d:Nat}
theorem Mem.split{w:World}{q:Nat}{o:b9}(o1 o2:b9)(h:Mem W L w)(hq:L[q]?=aj o)(h1:∀w,o.holds w->o1.holds w)(h2:∀w,o.holds w->o2.holds w)(f1:∀k,o1.e_ k->o.e_ k)(f2:∀k,o2.e_ k->o.e_ k)(ha:∀w,o.holds w->∀k,o1.e_ k->¬o2.e_ k):Mem W (L.set q o1++[o2]) w:=by
 have hr:=h.qN o1 hq h1 f1;have hoq:=h.owns.all q o hq;have hlen:q<L.length:=(dg.1 hq).1;refine⟨h.low,ez.both hr.owns (ez.one (h2 w hoq.1) λk hk=>hoq.2 k (f2 k hk)) λi j a b hi hj k hk lO=>?_⟩
 match j,hj with
 |0,hj=>
  simp only[px,dh]at hj;subst hj
  by_cases e:q=i
  grind
  rw[List.getElem?_set_ne e]at hi;exact h.owns.apart i q a o (Ne.symm e) hi hq k hk (f2 k lO)
 |j+1,hj=>grind
theorem Mem.ab8{w:World}(o:b9)(i j:Nat)(js:List Nat){o1 o2:b9}{R:List b9}(h:Mem W L w)(hn:([i,j]++js).Nodup)(h1:L[i]?=aj o1)(h2:L[j]?=aj o2)(hR:R=js.filterMap λi=>L[i]?)(hf:∀k,o.e_ k->o1.e_ k\/o2.e_ k)(hh:∀w,o1.holds w->o2.holds w->(∀k,o1.e_ k->¬o2.e_ k)->o.holds w):Mem W (R++[o]) w:=by
 have sE:i≠j:=λe=>by simp_all
 have ha:=h.owns.apart i j o1 o2 sE h1 h2;refine Mem.merge o (h.pick ([i,j]++js) hn ?_) hf (λa b=>hh w a b ha);rw[PU,<-hR]
 congr 1
 rw[A0 (by exact h1),A0 (by exact h2)];rfl
theorem Mem.take{w:World}{q:Nat}{D:Nat->Prop}{f:Nat->b9}(i:Nat)(h:Mem W L w)(hq:L[q]?=aj (jB D f))(hi:D i):Mem W (L.set q (jB (λk=>D k/\k≠i) f)++[f i]) w:=
 h.split _ _ hq (λw h=>Bi (λk h=>h.1) (λ_ _=>rfl) w h) (λw h=>h.1 i hi) (λk h=>EC (λk h=>h.1) (λ_ _=>rfl) k h) (λk h=> .inr ⟨i,hi,h⟩) λw h k hk lO=>by
  rcases hk with hk|⟨j,⟨hj,hne⟩,hk⟩
  cases hk
  exact h.2 j i hj hi hne k hk lO
theorem P1{c:Code}{q:Nat}{D:Nat->Prop}{f:Nat->b9}(i:Nat)(hq:L[q]?=aj (jB D f))(hi:D i)(h:T P n W c Q fr (L.set q (jB (λk=>D k/\k≠i) f)++[f i])):T P n W c Q fr L:=⟨λa w hr hm=>h.go a w hr (hm.take i hq hi)⟩
theorem SU{q:Nat}{D:Nat->Prop}{f:Nat->b9}(i:Nat)(hq:L[q]?=aj (jB D f))(hi:D i)(h:TL P n W ops Q rest fr (L.set q (jB (λk=>D k/\k≠i) f)++[f i])):TL P n W ops Q rest fr L:=⟨λa w hr hm=>h.go a w hr (hm.take i hq hi)⟩
theorem Mem.put{w:World}{D D':Nat->Prop}{f f':Nat->b9}{o:b9}{R:List b9}(x q j:Nat)(js:List Nat)(h:Mem W L w)(hn:([q,j]++js).Nodup)(hq:L[q]?=aj (jB D f))(hj:L[j]?=aj o)(hR:R=js.filterMap λi=>L[i]?)(hx:¬D x)(hD:∀k,D' k->D k\/k=x)(hf:∀k,D' k->f' k=U2 f x o k):Mem W (R++[jB D' f']) w:=
 h.ab8 _ q j js hn hq hj hR (λk hk=>YJ hx k (EC hD hf k hk)) λw h1 h2 h3=>Bi hD hf w (ab7 hx h1 h2 h3)
theorem YK{D D':Nat->Prop}{f f':Nat->b9}{o:b9}{R:List b9}(x q j:Nat)(js:List Nat)(hn:([q,j]++js).Nodup)(hq:L[q]?=aj (jB D f))(hj:L[j]?=aj o)(hR:R=js.filterMap λi=>L[i]?)(hx:¬D x)(hD:∀k,D' k->D k\/k=x)(hf:∀k,D' k->f' k=U2 f x o k)(h:TL P n W ops Q rest fr (R++[jB D' f'])):TL P n W ops Q rest fr L:=⟨λa w hr hm=>h.go a w hr (hm.put x q j js hn hq hj hR hx hD hf)⟩
theorem SV{e:Exit}{D D':Nat->Prop}{f f':Nat->b9}{o:b9}{R:List b9}(x q j:Nat)(js:List Nat)(hn:([q,j]++js).Nodup)(hq:L[q]?=aj (jB D f))(hj:L[j]?=aj o)(hR:R=js.filterMap λi=>L[i]?)(hx:¬D x)(hD:∀k,D' k->D k\/k=x)(hf:∀k,D' k->f' k=U2 f x o k)(h:E n W e Q fr (R++[jB D' f'])):E n W e Q fr L:=⟨λa w hr hm=>h.go a w hr (hm.put x q j js hn hq hj hR hx hD hf)⟩
theorem ab9{q:Nat}{o:b9}{p:Addr}{v:Value}(hq:L[q]?=aj o)(h:∀w,o.holds w->w.cell? p=aj v):At W L p v:=λw hm=>h w (hm.get hq)
theorem zR{g off size cap m k:Nat}{e:TypeId}{xs:List Value}{v:Value}{w:World}(h:(aZ e size (ap (aj ⟨g,0,ak⟩) m cap) k xs).holds w)(hv:xs[off]?=aj v):w.cell? ⟨g,off,ak⟩=aj v:=by
 have h:w.ownsRow 0 e size (ap (aj ⟨g,0,ak⟩) m cap) k xs:=h;have:=h.cells (g:=g) I off v hv
 simp_all[eV]
def jp{α:Type}(len:Nat)(f:Nat->α):List α:=(eg len).map f
section
variable{α:Type}
theorem iS(len:Nat)(f:Nat->α):(jp len f).length=len:=by simp[jp]
theorem vC{len:Nat}(f:Nat->α){k:Nat}(h:k<len):(jp len f)[k]?=aj (f k):=by simp[jp,h]
theorem YL{len:Nat}(f g:Nat->α)(k:Nat)(v:α)(h:∀i,i<len->g i=if i=k then v else f i):(jp len f).set k v=jp len g:=by
 apply mi;intro i;rw[Yt]
 by_cases hi:i<len
 ·rw[vC g hi,h i hi]
  by_cases e:k=i
  simp_all[iS];rw[if_neg e,if_neg (λe'=>e e'.symm),vC f hi]
 simp_all[iS]
theorem P2{len:Nat}{f g:Nat->α}(h:∀i,i<len->f i=g i):jp len f=jp len g:=by
 simp_all[jp]
theorem P3(val:α->Value)(a:α)(len:Nat):(jp len λ_=>a).map val=cL len (val a):=by
 unfold jp;rw[List.map_map];apply mi;intro i
 by_cases h:i<len<;>simp[h]
def fv(e:TypeId)(val:α->Value)(g len:Nat)(f:Nat->α):b9:=aZ e 1 (ap (aj ⟨g,0,ak⟩) len len) len ((jp len f).map val)
theorem pN{e:TypeId}{val:α->Value}{g len:Nat}{f f':Nat->α}(h:∀i,i<len->f i=f' i):fv e val g len f=fv e val g len f':=by grind[fv,P2]
theorem gI{e:TypeId}{val:α->Value}{i g len k:Nat}{f:Nat->α}(hi:L[i]?=aj (fv e val g len f))(hk:k<len):At W L ⟨g,0+k,ak⟩ (val (f k)):=jh hi (by rw[cX,fe,vC f hk];rfl)
theorem Bl{e:TypeId}{val:α->Value}{g len k:Nat}{f:Nat->α}{w:World}(h:(fv e val g len f).holds w)(hk:k<len):w.cell? ⟨g,0+k,ak⟩=aj (val (f k)):=zR h (by rw[cX,fe,vC f hk];rfl)
theorem YM{e:TypeId}{val:α->Value}{g len k:Nat}{v:α}{f f':Nat->α}(h:∀i,i<len->f' i=if i=k then v else f i):aZ e 1 (ap (aj ⟨g,0,ak⟩) len len) len (((jp len f).map val).set k (val v))=fv e val g len f':=by
 unfold fv;rw[<-tb,YL f f' k v h]
theorem jl{e:TypeId}{val:α->Value}{ty:TypeId}{pos:String}{after:Array Edge}{t:TypeId}{p x:Operand}{i g off len:Nat}{v:α}{f:Nat->α}(f':Nat->α)(hT:Ty P t aE 1)(hi:L[i]?=aj (fv e val g len f))(hp:ev fr p=aj (aJ (aj ⟨g,0+off,ak⟩)))(hx:ev fr x=aj (val v))(h1:(val v).cells=#[val v])(h2:(val v).oneCell'=aC)(hk:off<len)(hf:∀i,i<len->f' i=if i=off then v else f i)
 (h:TL P n W ops Q rest fr (L.set i (fv e val g len f'))):TL P n W ops Q (⟨ak,.store t p x,ty,pos,after,ak⟩::rest) fr L:=
 mH hT hi hp hx h1 I h2 (by simp_all[iS]) (by rw[cX,YM hf];exact h)
theorem pO{t e:TypeId}{x y:Operand}{bytes m:Nat}{k k':IntKind}{ty:TypeId}{pos:String}{after:Array Edge}(val:α->Value)(z:α)[rO P t e 1 bytes][eQ P e #[val z]](hx:ev fr x=aj (.int k (m:Int)))(hy:ev fr y=aj (.int k' (m:Int)))(hb:bytes*m<=281474976710656)(qA:m<=9223372036854775807)(hn:dj d n=aC)
 (h:∀g,TL P n W ops Q rest ((d,ap (aj ⟨g,0,ak⟩) m m)::fr) (L++[fv e val g m λ_=>z])):TL P n W ops Q (⟨aj d,.makeSlice t x y,ty,pos,after,ak⟩::rest) fr L:=
 PD hx hy hb qA hn λg=>by
  simp_all[fv,P3]
end
end
end bZ
namespace bZ
open Go.RowKit cK dS aU
def eC(x:dr):List Value:=[av az x.1,av az x.2]
def YN(x:dr):Prop:=cK.dU x.1/\cK.dU x.2
theorem ab_(l:List dr):∀u∈l.flatMap eC,u.oneCell'=true:=by
 intro u hu;obtain⟨f,_,h⟩:=vj.1 hu;simp only[eC,dC,fH,or_false]at h;rcases h with rfl|rfl<;>rfl
theorem YO(f f':dr)(w:World):(Op.equalIn 10000 148 (aQ (eC f).toArray) (aQ (eC f').toArray)).run aD w= .ok (decide (f=f')) w:=by
 obtain⟨k,q⟩:=f;obtain⟨k',q'⟩:=f';unfold eC
 go_simp
 by_cases e1:k=k'<;>by_cases e2:q=q'<;>simp[e1,e2]
def aca:w8 dr:=zx eC 2 (λ_=>rfl) YN
def oR:w8 aU.Prod:=X9 fP (bO aca)
def dM(t n:Int)(vp:Value):Value:=aQ #[av az t,av az n,vp]
def kK(F:Nat->Prop)(w:World)(v:Value)(g:ep):Prop:=∃vp,v=dM g.aT g.bC vp/\ky oR F w vp g.aF/\cK.dU g.aT/\cK.dU g.bC
theorem kK.stay{F:Nat->Prop}{w w':World}{v:Value}{g:ep}(h:kK F w v g)(hk:∀k,F k->w'.heap[k]?=w.heap[k]?):kK F w' v g:=
 let ⟨vp,h1,h2,h3⟩:=h;⟨vp,h1,h2.stay hk,h3⟩
theorem ky.gr{α:Type}{s:w8 α}{w w':World}{v:Value}{l:List α}(h:ky s (λk=>k<w.heap.size) w v l)(hg:Gr w w'):ky s (λk=>k<w'.heap.size) w' v l:=
 (h.stay λk hk=>hg.block k hk).mono λ_ hk=>iO hk hg.size
theorem kK.gr{w w':World}{v:Value}{g:ep}(h:kK (λk=>k<w.heap.size) w v g)(hg:Gr w w'):kK (λk=>k<w'.heap.size) w' v g:=
 let ⟨vp,h1,h2,h3⟩:=h;⟨vp,h1,h2.gr hg,h3⟩
theorem ma{F:Nat->Prop}{w:World}{b off:Nat}{l:List aU.Prod}(h:∀i (h:i<l.length),∃cs,oR.is F w cs l[i]/\Rd w b (off+i*oR.c) cs){k:Nat}(hk:k<l.length):
 ∃base cap,Rd w b (off+k*2) [av az l[k].1,.slice base l[k].2.length cap]/\cK.dU l[k].1/\ky aca F w (.slice base l[k].2.length cap) l[k].2:=by
 obtain⟨cs,⟨c1,c2,rfl,⟨rfl,lT⟩,⟨vb,rfl,AM⟩⟩,hr⟩:=h k hk;have aiN:=AM;obtain⟨base,cap,rfl,_⟩:=aiN;exact⟨base,cap,hr,lT,AM⟩
end bZ
namespace bZ
open Go.RowKit cK dS aU
theorem oo(a:dr):(eC a).length=2:=rfl
theorem xu(v:Value)(l:List dr)(w:World)(hs:Sl w v l.length (l.flatMap eC))(pP:FuncId)(first cp:Array Value)(p:dr->Bool)(Bm:Enters aD pP)
 (hp:∀a∈l,∀w',Gr w w'->Calls aD pP (first++#[(aQ (eC a).toArray)]++cp) w' (bY (ret (.bool (p a))) w')):
 Calls aD 156 #[v,.func (.func pP) first cp] w (bY (ret (av az (rQ p l))) w):=by
 obtain⟨base,cap,rfl,lW,jS,eP⟩:=hs;unfold maxLen at jS;refine enter (args:=[ap base l.length cap,.func (.func pP) first cp]) (n:=19) Tryz.func156 I I I ?_
 try refine GA ?_
 refine d_ (ι:=Nat) (λk=>k<=l.length/\∀j (hj:j<l.length),j<k->p l[j]=aE) (λk=>[(0,ap base l.length cap),(1,.func (.func pP) first cp),(7,av az l.length),(8,av az (k:Int))]) (λ_=>[]) (λk=>l.length-k) 0 ⟨by omega,λj hj h=>by omega⟩ ?_;rintro k ⟨h1,h2⟩
 by_cases c2:k<l.length
 ·obtain⟨b,off,rfl,hr⟩:=eP J
  have dy:=ib (L:=([]:List b9)) oo hr c2;have jW:=hp l[k] (b_ c2)
  by_cases c3:p l[k]=aC
  ·rw[rR c2 c3 h2]
   rw[c3]at jW;clear hp h2 eP
   repeat(first|refine GA ?_|refine gV (aY bM.eq aK.ty I I c2) ?_|refine gV (bm aK.ty I I dy) ?_)
   refine aV (CJ Bm I I) (λw hm=>jW w hm.below) I I I ?_;intro _ _
   try refine GA ?_
   exact eH
  have OP:p l[k]=false:=by simpa using c3
  rw[OP]at jW;clear hp eP c3
  repeat(first|refine GA ?_|refine gV (aY bM.eq aK.ty I I c2) ?_|refine gV (bm aK.ty I I dy) ?_)
  refine aV (CJ Bm I I) (λw hm=>jW w hm.below) I I I ?_;intro _ _
  try refine GA ?_
  exact bT (k+1) ⟨by omega,λj hj h=>if e:j<k then h2 j hj e else(by obtain rfl:j=k:=J;exact OP)⟩ (by show l.length-(k+1)<l.length-k;omega)
 ·rw[rS λj hj=>h2 j hj J]
  clear hp h2 eP
  try refine GA ?_
  exact eH
theorem tc(v:Value)(l:List dr)(w:World)(hs:Sl w v l.length (l.flatMap eC))(pP:FuncId)(first cp:Array Value)(p:dr->Bool)(Bm:Enters aD pP)
 (hp:∀a∈l,∀w',Gr w w'->Calls aD pP (first++#[(aQ (eC a).toArray)]++cp) w' (bY (ret (.bool (p a))) w')):
 Calls aD 119 #[v,.func (.func pP) first cp] w (bY (ret (.bool (l.any p))) w):=by
 refine enter (args:=[v,.func (.func pP) first cp]) (n:=9) Tryz.func119 I I I ?_;have hh:=λw' (hg:Gr w w')=>xu v l w' (hs.gr hg) pP first cp p Bm λa ha Gz uf=>hp a ha Gz (hg.trans uf);have hr:=pE p l;rw[<-uU p l];generalize rQ p l=r at*
 try refine GA ?_
 refine aV (fB aI.en I I I) (λw hm=>hh _ hm.below) I I I ?_;intro _ _
 repeat(first|refine GC ?_|refine gV (ff I I I) ?_|refine GB ?_)
 exact eH
end bZ
namespace bZ
open Go.RowKit cK dS aU
theorem Me(t n:Int)(vp:Value)(x:dr)(w:World):Calls aD 121 #[dM t n vp,aQ (eC x).toArray] w (bY (ret (.bool (right t n x))) w):=by
 obtain⟨k,q⟩:=x;refine enter (args:=[dM t n vp,aQ (eC (k,q)).toArray]) (n:=31) Tryz.func121 I I I ?_;refine bW (bB (bP I I I λg0=>bP I I I λg1=>?_))
 repeat' (first
  |refine QV QP ?_
  |refine QZ ?_
  |refine OM I ?_
  |refine LL I ?_
  |refine qs I I I I I I ?_
  |(((try refine qg I I I ?_);first|refine QV QP ?_|refine QV (aB aK.ty I (aH (i:=0) I I)) ?_|refine QV (aB aK.ty I (aH (i:=1) I I)) ?_|refine QV QA ?_|refine QV QhT ?_|refine QV QhF ?_|refine QV QeT ?_|refine QV QeF ?_|refine QV QlT ?_|refine QV QlF ?_))
  |refine pA (dq I I I) I I I I I (λh=>?_) (λh=>?_)
  |refine uL (ff I I I) I I I (λh=>?_) (λh=>?_)
  |refine uL (cZ I I I) I I I (λh=>?_) (λh=>?_)
  |((fail_if_success (refine Jj I ?_));(fail_if_success (refine Jk I ?_));refine SB I (λh=>?_) (λh=>?_))
  |((fail_if_success (refine Pn I I I ?_));(fail_if_success (refine Po I I I ?_));refine A6 I I I (λh=>?_) (λh=>?_)))
 all_goals (refine dH I I ?_;congr 1;unfold right;dsimp only at*;repeat (first|rw[if_pos J]|rw[if_neg J]|rw[decide_eq_true (by assumption)]|rw[decide_eq_false (by assumption)]);try rfl)
theorem JM(t n:Int)(vp:Value)(x:dr)(g:Nat)(w:World)(hg:w.heap[g]?=aj (.cells (dM t n vp).cells 33 (0,0))):
 Calls aD 120 #[aQ (eC x).toArray,aJ (aj ⟨g,0,ak⟩)] w (bY (ret (.bool (!right t n x))) w):=by
 have hcell:∀(L:List b9) (j:Nat) (v:Value),([av az t,av az n,vp]:List Value)[j]?=aj v->At w L ⟨g,0+j,ak⟩ v:=λL j v hj=>kJ (by
  rw[cell_of_row w g (0+j) _ _ _ hg,cX];show(#[av az t,av az n,vp]:Array Value)[j]?=aj v
  simpa using hj)
 have hr:=Me t n vp x;refine enter (args:=[aQ (eC x).toArray,aJ (aj ⟨g,0,ak⟩)]) (n:=8) Tryz.func120 I I I ?_;refine bW (bB (bP I I I λg0=>?_))
 repeat(first|refine GA ?_|refine gV (bm aK.ty I I (hcell _)) ?_|refine gV (aO (i:=0) aK.ty I I I) ?_)
 refine aV (fB aI.en I I I) (λw hm=>hr w) I I I ?_;intro _ _
 try refine GA ?_
 exact eH
theorem Mf{t n:Int}{l:List aU.Prod}{k:Nat}(h:k<l.length)(h0:zM t n l[k]=0):pL t n (l.drop k)=pL t n (l.drop (k+1)):=by
 rw[eZ h,pL,if_neg (by simp[h0])]
theorem Mg{t n:Int}{l:List aU.Prod}{k:Nat}(h:k<l.length)(h0:zM t n l[k]≠0):pL t n (l.drop k)=zM t n l[k]:=by
 rw[eZ h,pL,if_pos h0]
theorem kj(v:Value)(g:ep)(w:World)(h:kK (λk=>k<w.heap.size) w v g):
 Calls aD 80 #[v] w (bY (ret (av az (cz g))) w):=by
 obtain⟨vp,rfl,h1,_⟩:=h;obtain⟨bp,cp,rfl,JN,GI,oT⟩:=h1;unfold maxLen at GI;obtain⟨t,n,aF⟩:=g;dsimp only at*;refine enter (args:=[dM t n (ap bp aF.length cp)]) (n:=57) Tryz.func80 I I I ?_;refine bW (bB (bP I I I λg0=>?_));unfold cz;dsimp only
 by_cases c1:t<0
 ·rw[if_pos c1]
  repeat(first|refine GA ?_|refine gV (aB aK.ty I (aH (i:=0) I I)) ?_)
  exact eH
 rw[if_neg c1]
 by_cases c2:30<t
 ·rw[if_pos c2]
  repeat(first|refine GA ?_|refine gV (aB aK.ty I (aH (i:=0) I I)) ?_)
  exact eH
 rw[if_neg c2]
 by_cases c3:n<1
 ·rw[if_pos c3]
  repeat(first|refine GA ?_|refine gV (aB aK.ty I (aH (i:=0) I I)) ?_)
  exact eH
 rw[if_neg c3]
 by_cases c4:20<n
 ·rw[if_pos c4]
  repeat(first|refine GA ?_|refine gV (aB aK.ty I (aH (i:=0) I I)) ?_)
  exact eH
 rw[if_neg c4]
 by_cases c5:40<aF.length
 ·rw[if_pos c5]
  repeat(first|refine GA ?_|refine gV (aB aK.ty I (aH (i:=0) I I)) ?_)
  exact eH
 rw[if_neg c5]
 repeat(first|refine GA ?_|refine gV (aB aK.ty I (aH (i:=0) I I)) ?_)
 refine d_ (ι:=Nat) (λk=>k<=aF.length/\pL t n aF=pL t n (aF.drop k)) (λk=>[(1,aJ (aj ⟨g0,0,ak⟩)),(30,ap bp aF.length cp),(31,av az aF.length),(32,av az (k:Int))]) (λ_=>[aP g0 (dM t n (ap bp aF.length cp)).cells 33]) (λk=>aF.length-k) 0 ⟨bH _,rfl⟩ ?_;rintro k ⟨i1,i2⟩;rw[i2];clear i2
 by_cases c6:k<aF.length
 ·obtain⟨b,off,rfl,_,hr⟩:=oT J
  obtain⟨bb,cb,q1,q2,q3⟩:=ma hr c6;have qQ:=Mg (t:=t) (n:=n) c6;have zS:=Mf (t:=t) (n:=n) c6;have dy:∀(L:List b9) (j:Nat) (v:Value),([av az aF[k].1,.slice bb aF[k].2.length cb]:List Value)[j]?=aj v->At w L ⟨b,off+k*2+j,ak⟩ v:=λL j v hj=>jc q1 hj;clear hr oT q1;generalize aF[k]=p at*;obtain⟨hd,body⟩:=p;have Lr:=λw' (hg:Gr w w') (hb:w'.heap[g0]?=aj (.cells (dM t n (ap (aj ⟨b,off,ak⟩) aF.length cp)).cells 33 (0,0)))=>tc (ap bb body.length cb) body w' ((q3.flat akh).gr hg) 120 #[] #[aJ (aj ⟨g0,0,ak⟩)] (λx=>!right t n x) aI.en (λa _ Gz uf=>JM t n _ a g0 Gz (by rw[uf.block g0 (jx.1 hb).1];exact hb));dsimp only at*
  repeat(first|refine GA ?_|refine gV (aY bM.eq aK.ty I I c6) ?_|refine gV (bm aK.ty I I (dy _)) ?_)
  clear dy;refine a8 I λg4=>?_;refine ij 1 ?_;refine zL ?_;unfold zM at qQ zS;dsimp only at qQ zS
  by_cases c7:8<body.length
  ·rw[if_pos c7]at qQ
   rw[qQ akh]
   repeat(first|refine GA ?_|refine gV (aB aK.ty I (aH (i:=1) I I)) ?_)
   exact eH
  rw[if_neg c7]at qQ zS
  by_cases c8:hd<0
  ·rw[if_pos c8]at qQ
   rw[qQ akh]
   repeat(first|refine GA ?_|refine gV (aB aK.ty I (aH (i:=1) I I)) ?_)
   exact eH
  rw[if_neg c8]at qQ zS
  by_cases c9:n<=hd
  ·rw[if_pos c9]at qQ
   rw[qQ akh]
   repeat(first|refine GA ?_|refine gV (aB aK.ty I (aH (i:=1) I I)) ?_|refine gV (aB aK.ty I (aH (i:=0) I I)) ?_)
   exact eH
  rw[if_neg c9]at qQ zS
  by_cases c10:body.any (λx=>!right t n x)=aC
  ·rw[if_pos c10]at qQ
   rw[qQ akh];rw[c10]at Lr
   repeat(first|refine GA ?_|refine gV (aB aK.ty I (aH (i:=1) I I)) ?_|refine gV (aB aK.ty I (aH (i:=0) I I)) ?_|refine gV (w7 I I) ?_)
   refine mV (fB aI.en I I I) (λw hm=>Lr _ hm.below (hm.get (i:=0) I)) I I I I I ?_;intro _ _
   try refine GA ?_
   exact eH
  have aiO:body.any (λx=>!right t n x)=false:=by simpa using c10
  rw[if_neg c10]at zS;rw[aiO]at Lr
  repeat(first|refine GA ?_|refine gV (aB aK.ty I (aH (i:=1) I I)) ?_|refine gV (aB aK.ty I (aH (i:=0) I I)) ?_|refine gV (w7 I I) ?_)
  refine mV (fB aI.en I I I) (λw hm=>Lr _ hm.below (hm.get (i:=0) I)) I I I I I ?_;intro _ _
  try refine GA ?_
  refine dm [0] ?_;exact bT (k+1) ⟨by omega,zS I⟩ (by show aF.length-(k+1)<aF.length-k;omega)
 ·rw[ir J]
  try refine GA ?_
  exact eH
end bZ
namespace dL
open aU
inductive Tree where
 |mk (prod tok:Int) (kids:List Tree)
def Tree.prod:Tree->Int| .mk p _ _=>p
def Tree.tok:Tree->Int| .mk _ t _=>t
def Tree.kids:Tree->List Tree| .mk _ _ k=>k
def dc(l:List aU.Prod)(p:Int):aU.Prod:=l.getD p.toNat (0,[])
mutual
def size:Tree->Nat
 | .mk _ _ kids=>aej kids+1
def aej:List Tree->Nat
 |[]=>0
 |k::r=>size k+aej r
end
mutual
def leaves:Tree->Nat
 | .mk p _ kids=>if p<0 then 1 else zT kids
def zT:List Tree->Nat
 |[]=>0
 |k::r=>leaves k+zT r
end
mutual
def HX(l:List aU.Prod):Tree->dr->Nat->Prop
 | .mk p k kids,x,v=>
  (x.1=1/\p= -1/\k=(v:Int)/\kids=[])\/(x.1≠1/\0<=p/\p<(l.length:Int)/\(dc l p).1=x.2/\k=0/\Bn l kids (dc l p).2 v)
def Bn(l:List aU.Prod):List Tree->List dr->Nat->Prop
 |[],[],_=>True
 |[],_::_,_=>False
 |_::_,[],_=>False
 |k::r,y::b,v=>HX l k y v/\Bn l r b (v+leaves k)
end
inductive afj where
 |ahead (p:Int)
 |behind (p:Int)
 |leaf (ED tok:Int)
mutual
def dK(l:List aU.Prod):Tree->List afj
 | .mk p _ kids=> .ahead p::(Mh l kids (dc l p).2++[.behind p])
def Mh(l:List aU.Prod):List Tree->List dr->List afj
 |[],_=>[]
 |_::_,[]=>[]
 | .mk p k ks::r,y::b=>(if p<0 then [.leaf y.2 k]else dK l (.mk p k ks))++Mh l r b
end
end dL
namespace dL
open aU
def P4:afj->Option Int
 | .leaf t _=>aj t
 |_=>ak
def Bo(l:List aU.Prod)(t:Tree):List Int:=(dK l t).filterMap P4
def yE(l:List aU.Prod)(ks:List Tree)(b:List dr):List Int:=(Mh l ks b).filterMap P4
theorem U3(l:List aU.Prod)(p k:Int)(kids:List Tree):Bo l (.mk p k kids)=yE l kids (dc l p).2:=by
 unfold Bo yE;rw[dK,List.filterMap_cons_none I,PU];simp[P4]
theorem Mi(l:List aU.Prod)(p k:Int)(ks r:List Tree)(y:dr)(b:List dr):yE l (.mk p k ks::r) (y::b)=(if p<0 then [y.2]else Bo l (.mk p k ks))++yE l r b:=by
 unfold yE Bo;rw[Mh,PU]
 congr 1
 split<;>rfl
mutual
theorem HY{l:List aU.Prod}:∀{t:Tree} {x:dr} {u:Nat},HX l t x u->0<=t.prod->(Bo l t).length=leaves t
 | .mk p k kids,x,u,h,hp=>by
  rw[HX]at h;have hp:0<=p:=hp;rw[U3,leaves,if_neg J];rcases h with⟨_,h,_⟩|⟨_,_,_,_,_,h⟩
  omega;exact EE h
theorem EE{l:List aU.Prod}:∀{ks:List Tree} {b:List dr} {u:Nat},Bn l ks b u->(yE l ks b).length=zT ks
 |[],[],_,_=>by rw[zT];simp[yE,Mh]
 | .mk p k kk::r,y::b,u,h=>by
  rw[Bn]at h;rw[Mi,bI,EE h.2,zT]
  congr 1
  split;rw[leaves,if_pos (by assumption)];rfl;exact HY h.1 (by show(0:Int)<=p;omega)
 |[],_::_,_,h=>by simp[Bn]at h
 |_::_,[],_,h=>by simp[Bn]at h
end
end dL
namespace f_
open aU
abbrev Span:=Int×Int×Int
abbrev qS:=Span->Nat
def nt(c:qS)(w:List Int)(x:dr)(a b:Nat):Nat:=if x.1=2 then c (x.2,(a:Int),(b:Int))else if b=a+1/\w[a]?=aj x.2 then 1 else 0
def fa(f:Nat->Nat):Nat->Nat
 |0=>0
 |k+1=>fa f k+f k
def nw(o:Nat->Nat->Nat)(f:Nat->Nat)(b:Nat):Nat:=min 2 (fa (λj=>f j*o j b) (b+1))
def Mj(o:dr->Nat->Nat->Nat)(a:Nat):List dr->(Nat->Nat)->Nat->Nat
 |[],f=>f
 |x::r,f=>Mj o a r (nw (λi j=>o x (a+i) (a+j)) f)
def EF(b:Nat):Nat:=if b=0 then 1 else 0
def Ml(o:dr->Nat->Nat->Nat)(l:List dr)(a b:Nat):Nat:=Mj o a l EF (b-a)
def U4(o:dr->Nat->Nat->Nat)(a b:Nat)(n:Nat):List aU.Prod->Nat
 |[]=>0
 |p::r=>(if p.1=(n:Int)then Ml o p.2 a b else 0)+U4 o a b n r
def YP(o:dr->Nat->Nat->Nat)(l:List aU.Prod)(a b n:Nat):Nat:=min 2 (U4 o a b n l)
def pM(len:Nat)(f:Nat->Nat):List Nat:=(eg len).map f
theorem ph(f:Nat->Nat):∀k,(∀j,j<k->f j=0)->fa f k=0
 |0,_=>rfl
 |k+1,h=>by rw[fa,ph f k λj hj=>h j J,h k J]
theorem YQ(o:Nat->Nat->Nat)(f:Nat->Nat)(b:Nat):nw o f b<=2:=Yw ..
theorem YR(b:Nat):EF b<=2:=by unfold EF;split<;>omega
theorem acb(o:dr->Nat->Nat->Nat)(l:List aU.Prod)(a b n:Nat):YP o l a b n<=2:=Yw ..
end f_
namespace f_
open aU
theorem Bp{f f':Nat->Nat}:∀k,(∀j,j<k->f j<=f' j)->fa f k<=fa f' k
 |0,_=>bz _
 |k+1,h=>by
  rw[fa,fa];exact Nat.add_le_add (Bp k λj hj=>h j J) (h k J)
def YS(n:Nat)(l:List aU.Prod):Prop:=∀p∈l,∀x∈p.2,x.1=2->0<=x.2/\x.2<(n:Int)
def YT(w:List Int)(l:List aU.Prod)(n:Nat)(S:qS):Prop:=∀k a b,k<n->a<=b->b<=w.length->YP (nt S w) l a b k<=S ((k:Int),(a:Int),(b:Int))
def acd(w:List Int)(l:List aU.Prod)(n:Nat)(c:qS)(a b:Nat):Prop:=∀k,k<n->c ((k:Int),(a:Int),(b:Int))=YP (nt c w) l a b k
structure Lfp(w:List Int)(l:List aU.Prod)(n:Nat)(c:qS):Prop where
 le2:∀x,c x<=2
 fixed:∀a b,a<=b->b<=w.length->acd w l n c a b
 least:∀S,YT w l n S->∀k a b,k<n->a<=b->b<=w.length->c ((k:Int),(a:Int),(b:Int))<=S ((k:Int),(a:Int),(b:Int))
structure ace(w:List Int)(l:List aU.Prod)(n:Nat)(D:Nat->Nat->Prop)(c:qS):Prop where
 le2:∀x,c x<=2
 fixed:∀a b,a<=b->b<=w.length->D a b->acd w l n c a b
 least:∀S,YT w l n S->∀k a b,k<n->a<=b->b<=w.length->c ((k:Int),(a:Int),(b:Int))<=S ((k:Int),(a:Int),(b:Int))
 zero:∀k a b,k<n->a<=b->b<=w.length->¬D a b->c ((k:Int),(a:Int),(b:Int))=0
structure ag2(w:List Int)(l:List aU.Prod)(n:Nat)(D:Nat->Nat->Prop)(a b:Nat)(c:qS):Prop where
 le2:∀x,c x<=2
 fixed:∀i j,i<=j->j<=w.length->D i j->acd w l n c i j
 least:∀S,YT w l n S->∀k i j,k<n->i<=j->j<=w.length->c ((k:Int),(i:Int),(j:Int))<=S ((k:Int),(i:Int),(j:Int))
 zero:∀k i j,k<n->i<=j->j<=w.length->¬D i j->¬(i=a/\j=b)->c ((k:Int),(i:Int),(j:Int))=0
 grow:∀k,k<n->c ((k:Int),(a:Int),(b:Int))<=YP (nt c w) l a b k
section
variable{w:List Int}{l:List aU.Prod}{n:Nat}{D D':Nat->Nat->Prop}{a b:Nat}{c:qS}
theorem ag2.done(h:ag2 w l n D a b c)(hf:acd w l n c a b)(hD:∀i j,i<=j->j<=w.length->(D' i j↔D i j\/(i=a/\j=b))):ace w l n D' c:=
 ⟨h.le2,λi j h1 h2 h3=>((hD i j h1 h2).1 h3).elim (h.fixed i j h1 h2) λ⟨e1,e2⟩=>by simp_all,h.least,λk i j hk h1 h2 h3=>by
  have:¬(D i j\/(i=a/\j=b)):=λh=>h3 ((hD i j h1 h2).2 h);exact h.zero k i j hk h1 h2 (λh=>this (.inl h)) λh=>this (.inr h)⟩
theorem ace.same(h:ace w l n D c)(hD:∀i j,i<=j->j<=w.length->(D' i j↔D i j)):ace w l n D' c:=
 ⟨h.le2,λi j h1 h2 h3=>h.fixed i j h1 h2 ((hD i j h1 h2).1 h3),h.least,λk i j hk h1 h2 h3=>h.zero k i j hk h1 h2 λh=>h3 ((hD i j h1 h2).2 h)⟩
end
end f_
namespace f_
open aU
theorem Lfp.pre{w:List Int}{l:List aU.Prod}{n:Nat}{c:qS}(h:Lfp w l n c):YT w l n c:=λk a b hk h1 h2=>by rw[<-h.fixed a b h1 h2 k hk];exact bz _
end f_
namespace f_
open aU
theorem mA{f g:Nat->Nat}:∀k,(∀j,j<k->f j=g j)->fa f k=fa g k
 |0,_=>rfl
 |k+1,h=>by rw[fa,fa,mA k λj hj=>h j J,h k J]
theorem Mm(f g:Nat->Nat):∀k,fa (λj=>f j+g j) k=fa f k+fa g k
 |0=>rfl
 |k+1=>by rw[fa,fa,fa,Mm f g k];omega
theorem Mn(v:Nat)(f:Nat->Nat):∀k,fa (λj=>v*f j) k=v*fa f k
 |0=>rfl
 |k+1=>by rw[fa,fa,Mn v f k,Nat.mul_add]
theorem HZ(v:Nat)(f:Nat->Nat):∀k,fa (λj=>f j*v) k=fa f k*v
 |0=>by simp[fa]
 |k+1=>by rw[fa,fa,HZ v f k,Nat.add_mul]
theorem H0(f:Nat->Nat->Nat)(m:Nat):∀k,fa (λi=>fa (λj=>f i j) m) k=fa (λj=>fa (λi=>f i j) k) m
 |0=>by rw[fa];exact(ph _ m λ_ _=>rfl).symm
 |k+1=>by rw[fa,H0 f m k,<-Mm];rfl
theorem EG(f:Nat->Nat):∀k,fa f (k+1)=f 0+fa (λj=>f (j+1)) k
 |0=>by simp[fa]
 |k+1=>by rw[fa,EG f k,fa];omega
theorem yF(f:Nat->Nat)(a:Nat):∀k,fa f (a+k)=fa f a+fa (λj=>f (a+j)) k
 |0=>by simp[fa]
 |k+1=>by rw[<-k9,fa,yF f a k,fa];omega
theorem YU(f:Nat->Nat){i k:Nat}(hi:i<k)(h:∀j,j<k->j≠i->f j=0):fa f k=f i:=by
 induction k with
 |zero=>omega
 | succ k ih=>
  rw[fa]
  by_cases e:i=k
  ·subst e
   rw[ph f i λj hj=>h j J J,cX]
  rw[ih J λj hj=>h j J,h k J (λe'=>e e'.symm),iu]
theorem YV(f:Nat->Nat->Nat)(d:Nat):fa (λj=>fa (λi=>f i j) (j+1)) (d+1)=fa (λi=>fa (λk=>f i (i+k)) (d-i+1)) (d+1):=by
 have h1:fa (λj=>fa (λi=>f i j) (j+1)) (d+1)=fa (λj=>fa (λi=>if i<=j then f i j else 0) (d+1)) (d+1):=by
  refine mA _ λj hj=>?_;rw[show d+1=(j+1)+(d-j)by omega,yF (λi=>if i<=j then f i j else 0)];rw[ph (λq=>if j+1+q<=j then f (j+1+q) j else 0) _ λq _=>if_neg J,iu];exact mA _ λi hi=>(if_pos J).symm
 rw[h1,H0];refine mA _ λi hi=>?_;rw[show d+1=i+(d-i+1)by omega,yF,ph _ i λj hj=>if_neg J,cX];exact mA _ λk _=>if_pos J
def zU(o:dr->Nat->Nat->Nat):List dr->Nat->Nat->Nat
 |[],a,b=>if a=b then 1 else 0
 |x::r,a,b=>fa (λi=>o x a (a+i)*zU o r (a+i) b) (b-a+1)
theorem SX(f g:Nat->Nat):∀k,(∀j,j<k->min 2 (f j)=min 2 (g j))->min 2 (fa f k)=min 2 (fa g k)
 |0,_=>rfl
 |k+1,h=>by
  have h1:=SX f g k λj hj=>h j J;have h2:=h k J;rw[fa,fa];omega
theorem acf(u v:Nat):min 2 (min 2 u*v)=min 2 (u*v):=by
 by_cases h:u<=2
 ·have e:min 2 u=u:=by omega
  rw[e]
 have e:min 2 u=2:=by omega
 rw[e]
 by_cases hv:v=0
 subst hv;simp;have:2<=2*v:=by omega
 have h2:2*v<=u*v:=Nat.mul_le_mul_right v J;omega
theorem SY(o:dr->Nat->Nat->Nat)(a:Nat):∀(l:List dr) (f:Nat->Nat) (d:Nat),(∀j,f j<=2)->Mj o a l f d=min 2 (fa (λi=>f i*zU o l (a+i) (a+d)) (d+1))
 | [],f,d,h=>by
  rw[Mj,YU _ (show d<d+1 by omega) λj _ hj=>by rw[zU,if_neg J,Nat.mul_zero],zU,if_pos I,k_];have:=h d;omega
 | x ::r,f,d,h=>by
  rw[Mj,SY o a r _ d (YQ _ _)];have h1:min 2 (fa (λi=>nw (λi j=>o x (a+i) (a+j)) f i*zU o r (a+i) (a+d)) (d+1))=min 2 (fa (λj=>fa (λi=>f i*o x (a+i) (a+j)*zU o r (a+j) (a+d)) (j+1)) (d+1)):=SX _ _ _ λj _=>by
   rw[HZ];exact acf _ _
  rw[h1,YV (λi j=>f i*o x (a+i) (a+j)*zU o r (a+j) (a+d))]
  congr 1
  refine mA _ λi hi=>?_;rw[zU,<-Mn,show a+d-(a+i)=d-i by omega];refine mA _ λk _=>?_;rw[Nat.mul_assoc,k9]
theorem P5(o:dr->Nat->Nat->Nat)(l:List dr){a b:Nat}(h:a<=b):Ml o l a b=min 2 (zU o l a b):=by
 unfold Ml;rw[SY o a l EF _ YR,EG];rw[ph (λj=>EF (j+1)*zU o l (a+(j+1)) (a+(b-a))) _ λj _=>by simp[EF]];rw[show a+(b-a)=b by omega];simp[EF]
end f_
namespace f_
open aU dL
def pQ(n:Nat)(l:List aU.Prod):Prop:=∀p∈l,0<=p.1/\p.1<(n:Int)/\∀x∈p.2,x.1=1\/(x.1=2/\0<=x.2/\x.2<(n:Int))
theorem U5{g:ep}{n:Nat}(h:cz g=0)(hn:g.bC=n):pQ n g.aF:=λp hp=>by
 obtain⟨_,_,_,_,_,a6⟩:=cV h;obtain⟨b1,b2,b3,b4⟩:=a6 p hp;refine⟨b2,by omega,λx hx=>?_⟩;have:=b4 x hx;unfold right at this;split at this;exact .inl (by assumption);split at this;simp at this;exact .inr ⟨by assumption,by omega,by omega⟩;simp at this
theorem pQ.bC{n:Nat}{l:List aU.Prod}(h:pQ n l):YS n l:=λp hp x hx h2=>by
 rcases(h p hp).2.2 x hx with h|h
 omega;exact h.2
theorem yG{l:List aU.Prod}{p:Int}(h0:0<=p)(h:p<(l.length:Int)):dc l p∈l:=by
 unfold dc;rw[cB,bK J];exact b_ _
def P6(l:List aU.Prod)(t:Tree)(x:dr):List Int:=if t.prod<0 then [x.2]else Bo l t
theorem P7{l:List aU.Prod}{t:Tree}{x:dr}{u:Nat}(h:HX l t x u):(P6 l t x).length=leaves t:=by
 unfold P6;split
 ·obtain⟨p,k,ks⟩:=t
  rw[leaves,if_pos (by assumption)];rfl
 exact HY h J
section
end
end f_
namespace f_
open aU dL
def afk(o:dr->Nat->Nat->Nat)(y:dr)(r:List dr)(a b m:Nat):Bool:=decide (0<o y a m)&&decide (0<Ml o r m b)
section
variable{o:dr->Nat->Nat->Nat}{l:List aU.Prod}{x:dr}{a b:Nat}
theorem Mo{f:Nat->Nat}:∀{k:Nat},0<fa f k->∃i,i<k/\0<f i
 |0,h=>by grind[fa]
 | k+1,h=>by
  rw[fa]at h
  by_cases c:0<f k
  grind;obtain⟨i,h1,h2⟩:=Mo (f:=f) (k:=k) J;exact⟨i,by omega,h2⟩
theorem acg{y:dr}{r:List dr}(EH:a<=b)(h:0<Ml o (y::r) a b):∃m,a<=m/\m<=b/\afk o y r a b m=true:=by
 rw[P5 _ _ EH,zU]at h;obtain⟨i,h1,h2⟩:=Mo (f:=λi=>o y a (a+i)*zU o r (a+i) b) (k:=b-a+1) J;have h2:0<o y a (a+i)*zU o r (a+i) b:=h2;refine⟨a+i,by omega,by omega,?_⟩;unfold afk;rw[P5 _ _ (by omega:a+i<=b),eX,decide_eq_true_iff,decide_eq_true_iff];exact⟨Nat.pos_of_mul_pos_right h2,by have:=Nat.pos_of_mul_pos_left h2;omega⟩
theorem Mp{n:Nat}:∀{l:List aU.Prod},0<U4 o a b n l->∃k,k<l.length/\(dc l (k:Int)).1=(n:Int)/\0<Ml o (dc l (k:Int)).2 a b
 |[],h=>by grind[U4]
 | p ::r,h=>by
  rw[U4]at h
  by_cases c:p.1=(n:Int)/\0<Ml o p.2 a b
  exact⟨0,by simp,c.1,c.2⟩;have:0<U4 o a b n r:=by
   simp_all
  obtain⟨k,h1,h2,h3⟩:=Mp this;exact⟨k+1,by simp_all,h2,h3⟩
theorem yH{k:Nat}(h:k<l.length):dc l (k:Int)=l[k]:=by
 simp_all[dc]
end
section
end
end f_
namespace dP
open aU
def gh(l:List Bool)(i:Nat)(b:Bool):List Bool×Bool:=if b=aC/\l.getD i aE=aE then(l.set i aC,aC)else(l,aE)
def pR(l:List Bool)(body:List dr)(aT:Bool):Bool:=body.all λx=>if x.1=1 then aT else if x.1=2 then l.getD x.2.toNat aE else aC
def oK(l:List Nat)(i:Nat)(b:Nat):List Nat×Bool:=(l.set i (l.getD i 0|||b),!decide ((l.getD i 0|||b)=l.getD i 0))
def na(E:List Bool)(F:List Nat)(behind:Nat):List dr->Nat->Nat
 |[],out=>out|||behind
 |x::r,out=>if x.1=1 then out|||2^x.2.toNat else if E.getD x.2.toNat aE=aC then na E F behind r (out|||F.getD x.2.toNat 0)else out|||F.getD x.2.toNat 0
def gC(E:List Bool)(F:List Nat)(body:List dr)(behind:Nat):Nat:=na E F behind body 0
theorem nP(l:List Bool)(i:Nat)(b:Bool):(gh l i b).1.length=l.length:=by
 unfold gh;split<;>simp
theorem YW(l:List Nat)(i:Nat)(b:Nat):(oK l i b).1.length=l.length:=by
 simp[oK]
structure FS where
 E:List Bool
 R:List Bool
 M:List Bool
 more:Bool
def B6(h:Nat)(x:dr)(R:List Bool)(more:Bool):List Bool×Bool:=if x.1=2 then((gh R x.2.toNat (R.getD h aE)).1,(gh R x.2.toNat (R.getD h aE)).2||more)else(R,more)
def nQ(h:Nat):List dr->List Bool->Bool->List Bool×Bool
 |[],R,more=>(R,more)
 |x::r,R,more=>nQ h r (B6 h x R more).1 (B6 h x R more).2
def pS(p:aU.Prod)(s:FS):FS:=
 let h:=p.1.toNat
 let a:=gh s.E h (pR s.E p.2 aE)
 let b:=gh s.M h (pR s.M p.2 aC)
 let c:=nQ h p.2 s.R (b.2||(a.2||s.more))
 ⟨a.1,c.1,b.1,c.2⟩
def ie:List aU.Prod->FS->FS
 |[],s=>s
 |p::r,s=>ie r (pS p s)
theorem U6(h:Nat)(x:dr)(R:List Bool)(more:Bool):(B6 h x R more).1.length=R.length:=by
 unfold B6;split;exact nP _ _ _;rfl
theorem EI(h:Nat):∀(body:List dr) (R:List Bool) (more:Bool),(nQ h body R more).1.length=R.length
 |[],_,_=>rfl
 |x::r,R,more=>by rw[nQ,EI h r,U6]
def pT(l:List Bool):Nat:=l.countP id
theorem Mq{l:List Bool}{i:Nat}{b:Bool}(hi:i<l.length):pT (gh l i b).1=pT l+(if(gh l i b).2=aC then 1 else 0):=by
 unfold gh;split
 ·rename_i c
  have h0:l[i]=false:=by
   have:=c.2;rw[cB,bK hi]at this
   simpa using this
  unfold pT;rw[List.countP_set hi];simp[h0]
 simp
end dP
namespace dP
open aU
def P8{σ:Type}(step:σ->σ×Bool):Nat->σ->σ
 |0,s=>s
 |f+1,s=>if(step s).2=aC then P8 step f (step s).1 else(step s).1
structure EJ{σ:Type}(step:σ->σ×Bool)(ok:σ->Prop)(μ:σ->Nat):Prop where
 keep:∀s,ok s->ok (step s).1
 dec:∀s,ok s->(step s).2=aC->μ (step s).1<μ s
def fix{σ:Type}(step:σ->σ×Bool)(μ:σ->Nat)(s:σ):σ:=P8 step (μ s+1) s
section
variable{σ:Type}{step:σ->σ×Bool}{ok:σ->Prop}{μ:σ->Nat}
theorem H2(h:EJ step ok μ):∀(f g:Nat) (s:σ),ok s->μ s<f->μ s<g->P8 step f s=P8 step g s
 |0,_,_,_,h1,_=>by omega
 |_,0,_,_,_,h2=>by omega
 | f +1,g+1,s,hs,h1,h2=>by
  unfold P8
  by_cases c:(step s).2=aC
  ·rw[if_pos c,if_pos c]
   have:=h.dec s hs c;exact H2 h f g _ (h.keep s hs) J J
  rw[if_neg c,if_neg c]
theorem JO(h:EJ step ok μ){s:σ}(hs:ok s)(c:(step s).2=aC):fix step μ s=fix step μ (step s).1:=by
 have:=h.dec s hs c;unfold fix;rw[P8,if_pos c];exact H2 h _ _ _ (h.keep s hs) J J
theorem zV{s:σ}(c:(step s).2=aE):fix step μ s=(step s).1:=by
 unfold fix;rw[P8,if_neg (by rw[c];decide)]
theorem zW(h:EJ step ok μ):∀(k:Nat) (s:σ),ok s->μ s<=k->∃s',ok s'/\(step s').2=aE/\fix step μ s=(step s').1
 | k,s,hs,hk=>by
  by_cases c:(step s).2=aC
  ·have hd:=h.dec s hs c
   match k with
   |0=>omega
   | k+1=>
    obtain⟨s',h1,h2,h3⟩:=zW h k (step s).1 (h.keep s hs) J;exact⟨s',h1,h2,by rw[JO h hs c,h3]⟩
  have c':(step s).2=false:=by simpa using c
  exact⟨s,hs,c',zV c'⟩
end
def H3(E:List Bool)(M:List Bool)(p:aU.Prod)(F:List Nat)(more:Bool):List Nat×Bool:=
 if pR M p.2 aC=aC then((oK F p.1.toNat (gC E F p.2 0)).1,(oK F p.1.toNat (gC E F p.2 0)).2||more)else(F,more)
def rY(E M:List Bool):List aU.Prod->List Nat->Bool->List Nat×Bool
 |[],F,more=>(F,more)
 |p::r,F,more=>rY E M r (H3 E M p F more).1 (H3 E M p F more).2
def jF(E:List Bool)(F:List Nat)(h:Nat)(x:dr)(r:List dr)(W:List Nat)(more:Bool):List Nat×Bool:=
 if x.1=2 then((oK W x.2.toNat (gC E F r (W.getD h 0))).1,(oK W x.2.toNat (gC E F r (W.getD h 0))).2||more)else(W,more)
def kl(E:List Bool)(F:List Nat)(h:Nat):List dr->List Nat->Bool->List Nat×Bool
 |[],W,more=>(W,more)
 |x::r,W,more=>kl E F h r (jF E F h x r W more).1 (jF E F h x r W more).2
def oq(E:List Bool)(F:List Nat):List aU.Prod->List Nat->Bool->List Nat×Bool
 |[],W,more=>(W,more)
 |p::r,W,more=>oq E F r (kl E F p.1.toNat p.2 W more).1 (kl E F p.1.toNat p.2 W more).2
def nS(l:List Nat):Nat:=(l.map λx=>18446744073709551616-x).sum
def AN(n:Nat)(l:List Nat):Prop:=l.length=n/\∀x∈l,x<18446744073709551616
theorem o9{n:Nat}{l:List Nat}(h:AN n l)(i:Nat):l.getD i 0<18446744073709551616:=by
 rw[cB]
 cases e:l[i]? with
 |none=>decide
 |some y=>exact h.2 y (mh e)
theorem w_{x y:Nat}(hx:x<18446744073709551616)(hy:y<18446744073709551616):x|||y<18446744073709551616:=Yv (n:=64) hx hy
theorem De{n:Nat}{l:List Nat}{i b:Nat}(h:AN n l)(hb:b<18446744073709551616):AN n (oK l i b).1:=by
 refine⟨by rw[YW];exact h.1,λx hx=>?_⟩;rcases PR hx with h1|rfl
 exact h.2 x h1;exact w_ (o9 h i) hb
theorem SZ:∀(l:List Nat) (i:Nat) (y:Nat) (h:i<l.length),((l.set i y).map λx=>18446744073709551616-x).sum+(18446744073709551616-l[i])=(l.map λx=>18446744073709551616-x).sum+(18446744073709551616-y)
 |a::r,0,y,h=>by simp;omega
 |a::r,i+1,y,h=>by
  have:=SZ r i y (by simpa using h);simp at this⊢;omega
theorem H4{n:Nat}{l:List Nat}{i b:Nat}(h:AN n l)(hi:i<n)(hb:b<18446744073709551616):nS (oK l i b).1<=nS l/\((oK l i b).2=aC->nS (oK l i b).1<nS l):=by
 have hil:i<l.length:=by rw[h.1];exact hi
 have hs:=SZ l i (l.getD i 0|||b) hil;have e:l.getD i 0=l[i]:=by rw[cB,bK hil];rfl
 have h1:l[i]<=l.getD i 0|||b:=by rw[e];exact Nat.left_le_or
 have h2:=w_ (o9 h i) hb;have h3:=h.2 _ (b_ hil);unfold nS oK;dsimp only;refine⟨by omega,λhc=>?_⟩;simp only[sH,decide_eq_false_iff_not]at hc;omega
theorem pj{E:List Bool}{F:List Nat}{n:Nat}{body:List dr}{behind:Nat}(hF:AN n F)(hb:behind<18446744073709551616)(hx:∀x∈body,x.1=1->x.2.toNat<64):gC E F body behind<18446744073709551616:=by
 have key:∀(body:List dr) (out:Nat),out<18446744073709551616->(∀x∈body,x.1=1->x.2.toNat<64)->na E F behind body out<18446744073709551616:=by
  intro body
  induction body with
  |nil=>intro out h _;exact w_ h hb
  | cons x r ih=>
   intro out h hx;unfold na;split
   ·rename_i c
    have hp:(2:Nat)^x.2.toNat<2^64:=Er akh (hx x (by simp) c);exact w_ h (by simpa using hp)
   split;exact ih _ (w_ h (o9 hF _)) λy hy=>hx y (by simp[hy]);exact w_ h (o9 hF _)
 exact key body 0 akh hx
structure EK(n:Nat)(l:List aU.Prod):Prop where
 head:∀p∈l,0<=p.1/\p.1.toNat<n
 ED:∀p∈l,∀x∈p.2,x.1=1->0<=x.2/\x.2.toNat<64
 non:∀p∈l,∀x∈p.2,x.1≠1->x.1=2/\0<=x.2/\x.2.toNat<n
theorem zX{g:ep}{n:Nat}(h:cz g=0)(hn:g.bC=n):EK n g.aF:=by
 obtain⟨a,b,c,d,e,f⟩:=cV h;refine⟨λp hp=>?_,λp hp x hx kz=>?_,λp hp x hx kz=>?_⟩;have:=f p hp;omega
 ·have:=(f p hp).2.2.2 x hx
  unfold right at this;rw[if_pos kz]at this;simp at this;omega
 have:=(f p hp).2.2.2 x hx;unfold right at this;rw[if_neg kz]at this;split at this
 ·rename_i h2
  simp at this;exact⟨h2,by omega,by omega⟩
 simp at this
theorem EK.tail{n:Nat}{p:aU.Prod}{l:List aU.Prod}(h:EK n (p::l)):EK n l:=
 ⟨λq hq=>h.head q (by simp[hq]),λq hq=>h.ED q (by simp[hq]),λq hq=>h.non q (by simp[hq])⟩
theorem vD{E M:List Bool}{n:Nat}:∀(l:List aU.Prod) (F:List Nat) (more:Bool),EK n l->AN n F->AN n (rY E M l F more).1/\nS (rY E M l F more).1<=nS F/\((rY E M l F more).2=aC->more=aC\/nS (rY E M l F more).1<nS F)
 |[],F,more,_,h=>⟨h,bz _,λc=> .inl c⟩
 | p ::r,F,more,hf,h=>by
  have hb:gC E F p.2 0<18446744073709551616:=pj h akh λx hx kz=>(hf.ED p (by simp) x hx kz).2;have hh:=hf.head p (by simp);rw[rY];unfold H3;split
  ·have h1:=De (i:=p.1.toNat) h hb
   have h2:=H4 h hh.2 hb;obtain⟨k1,k2,k3⟩:=vD r (oK F p.1.toNat (gC E F p.2 0)).1 ((oK F p.1.toNat (gC E F p.2 0)).2||more) hf.tail h1;refine⟨k1,fI k2 h2.1,λc=>?_⟩;rcases k3 c with c2|c2
   ·rw[nL]at c2
    rcases c2 with c2|c2
    exact .inr (JG k2 (h2.2 c2));exact .inl c2
   exact .inr (iO c2 h2.1)
  exact vD r F more hf.tail h
theorem H5{E:List Bool}{F:List Nat}{n h:Nat}(hF:AN n F)(hh:h<n):∀(body:List dr) (W:List Nat) (more:Bool),(∀x∈body,x.1=1->x.2.toNat<64)->(∀x∈body,x.1=2->x.2.toNat<n)->AN n W->AN n (kl E F h body W more).1/\nS (kl E F h body W more).1<=nS W/\((kl E F h body W more).2=aC->more=aC\/nS (kl E F h body W more).1<nS W)
 |[],W,more,_,_,hW=>⟨hW,bz _,λc=> .inl c⟩
 | x ::r,W,more,ht,hx,hW=>by
  have hb:gC E F r (W.getD h 0)<18446744073709551616:=pj hF (o9 hW h) λy hy=>ht y (by simp[hy]);have tl:=λW more=>H5 (E:=E) hF hh r W more (λy hy=>ht y (by simp[hy])) (λy hy=>hx y (by simp[hy]));rw[kl];unfold jF;split
  ·rename_i c0
   have h1:=De (i:=x.2.toNat) hW hb;have h2:=H4 hW (hx x (by simp) c0) hb;obtain⟨k1,k2,k3⟩:=tl (oK W x.2.toNat (gC E F r (W.getD h 0))).1 ((oK W x.2.toNat (gC E F r (W.getD h 0))).2||more) h1;refine⟨k1,fI k2 h2.1,λc=>?_⟩;rcases k3 c with c2|c2
   ·rw[nL]at c2
    rcases c2 with c2|c2
    exact .inr (JG k2 (h2.2 c2));exact .inl c2
   exact .inr (iO c2 h2.1)
  exact tl W more hW
theorem zY{E:List Bool}{F:List Nat}{n:Nat}(hF:AN n F):∀(l:List aU.Prod) (W:List Nat) (more:Bool),EK n l->AN n W->AN n (oq E F l W more).1/\nS (oq E F l W more).1<=nS W/\((oq E F l W more).2=aC->more=aC\/nS (oq E F l W more).1<nS W)
 |[],W,more,_,h=>⟨h,bz _,λc=> .inl c⟩
 | p ::r,W,more,hf,h=>by
  rw[oq];obtain⟨a1,a2,a3⟩:=H5 (E:=E) hF (hf.head p (by simp)).2 p.2 W more (λx hx h1=>(hf.ED p (by simp) x hx h1).2) (λx hx h2=>(hf.non p (by simp) x hx J).2.2) h;obtain⟨k1,k2,k3⟩:=zY hF r (kl E F p.1.toNat p.2 W more).1 (kl E F p.1.toNat p.2 W more).2 hf.tail a1;refine⟨k1,fI k2 a2,λc=>?_⟩;rcases k3 c with c2|c2
  ·rcases a3 c2 with c3|c3
   exact .inl c3;exact .inr (JG k2 c3)
  exact .inr (iO c2 a2)
theorem P9{E M:List Bool}{n:Nat}{l:List aU.Prod}(hf:EK n l):EJ (λF=>rY E M l F aE) (AN n) nS:=
 ⟨λs hs=>(vD l s aE hf hs).1,λs hs c=>by
  rcases(vD (E:=E) (M:=M) l s aE hf hs).2.2 c with h|h
  cases h
  exact h⟩
theorem YX{E:List Bool}{F:List Nat}{n:Nat}{l:List aU.Prod}(hF:AN n F)(hf:EK n l):EJ (λW=>oq E F l W aE) (AN n) nS:=
 ⟨λs hs=>(zY hF l s aE hf hs).1,λs hs c=>by
  rcases(zY (E:=E) hF l s aE hf hs).2.2 c with h|h
  cases h
  exact h⟩
end dP
namespace dP
open aU
def YY(n:Nat)(s:FS):Prop:=s.E.length=n/\s.R.length=n/\s.M.length=n
def had(s:FS):Nat:=pT s.E+pT s.R+pT s.M
def Mr(l:List aU.Prod)(s:FS):FS×Bool:=(ie l ⟨s.E,s.R,s.M,aE⟩,(ie l ⟨s.E,s.R,s.M,aE⟩).more)
theorem EL(l:List Bool):pT l<=l.length:=List.countP_le_length
theorem yI{l:List Bool}{i:Nat}{b:Bool}(hi:i<l.length):pT l<=pT (gh l i b).1/\((gh l i b).2=aC->pT l<pT (gh l i b).1):=by
 have:=Mq (b:=b) hi;refine⟨by split at this<;>omega,λh=>?_⟩;rw[if_pos h]at this;omega
theorem B7{h n:Nat}:∀(body:List dr) (R:List Bool) (more:Bool),(∀x∈body,x.1=2->x.2.toNat<n)->R.length=n->pT R<=pT (nQ h body R more).1/\((nQ h body R more).2=aC->more=aC\/pT R<pT (nQ h body R more).1)
 |[],R,more,_,_=>⟨bz _,λc=> .inl c⟩
 | x ::r,R,more,hx,hR=>by
  rw[nQ];have ih:=λR more=>B7 (h:=h) r R more λy hy=>hx y (by simp[hy]);unfold B6;split
  ·rename_i c0
   have hg:=yI (b:=R.getD h aE) (show x.2.toNat<R.length by rw[hR];exact hx x (by simp) c0);have hl:=nP R x.2.toNat (R.getD h aE);generalize gh R x.2.toNat (R.getD h aE)=a at*;obtain⟨R2,m2⟩:=a;dsimp only at*;obtain⟨k1,k2⟩:=ih R2 (m2||more) J;refine⟨by omega,λc=>?_⟩;rcases k2 c with c2|c2
   ·rw[nL]at c2
    rcases c2 with c2|c2
    ·have:=hg.2 c2
     exact .inr J
    exact .inl c2
   exact .inr J
  exact ih R more hR
theorem Ms{n:Nat}{p:aU.Prod}{s:FS}(hp:p.1.toNat<n)(hx:∀x∈p.2,x.1=2->x.2.toNat<n)(h:YY n s):YY n (pS p s)/\had s<=had (pS p s)/\((pS p s).more=aC->s.more=aC\/had s<had (pS p s)):=by
 obtain⟨E,R,M,more⟩:=s;obtain⟨h1,h2,h3⟩:=h;unfold pS YY had;dsimp only at*;have e1:=yI (b:=pR E p.2 aE) (show p.1.toNat<E.length by omega);have e2:=nP E p.1.toNat (pR E p.2 aE);have m1:=yI (b:=pR M p.2 aC) (show p.1.toNat<M.length by omega);have m2:=nP M p.1.toNat (pR M p.2 aC);generalize gh E p.1.toNat (pR E p.2 aE)=a at*;generalize gh M p.1.toNat (pR M p.2 aC)=b at*;obtain⟨E2,ce⟩:=a;obtain⟨M2,cm⟩:=b;dsimp only at*;have r1:=B7 (h:=p.1.toNat) p.2 R (cm||(ce||more)) hx h2;have r2:=EI p.1.toNat p.2 R (cm||(ce||more));generalize nQ p.1.toNat p.2 R (cm||(ce||more))=c at*;obtain⟨R2,cr⟩:=c;dsimp only at*;refine⟨⟨by omega,by omega,by omega⟩,by omega,λhc=>?_⟩;rcases r1.2 hc with h4|h4
 ·rw[nL,nL]at h4
  rcases h4 with h4|h4|h4
  ·have:=m1.2 h4
   exact .inr J
  ·have:=e1.2 h4
   exact .inr J
  exact .inl h4
 exact .inr J
theorem qU{n:Nat}:∀(l:List aU.Prod) (s:FS),EK n l->YY n s->YY n (ie l s)/\had s<=had (ie l s)/\((ie l s).more=aC->s.more=aC\/had s<had (ie l s))
 |[],s,_,h=>⟨h,bz _,λc=> .inl c⟩
 | p ::r,s,hf,h=>by
  rw[ie];obtain⟨a1,a2,a3⟩:=Ms (s:=s) (hf.head p (by simp)).2 (λx hx h2=>(hf.non p (by simp) x hx J).2.2) h;obtain⟨k1,k2,k3⟩:=qU r (pS p s) hf.tail a1;refine⟨k1,by omega,λc=>?_⟩;rcases k3 c with c2|c2
  ·rcases a3 c2 with c3|c3
   exact .inl c3;exact .inr J
  exact .inr J
theorem afl{n:Nat}{s:FS}(h:YY n s):had s<=3*n:=by
 have a:=EL s.E;have b:=EL s.R;have c:=EL s.M;obtain⟨h1,h2,h3⟩:=h;unfold had;omega
def B8(n:Nat)(s:FS):Nat:=3*n-had s
theorem EM{n:Nat}{l:List aU.Prod}(hf:EK n l):EJ (Mr l) (YY n) (B8 n):=
 ⟨λs hs=>(qU l ⟨s.E,s.R,s.M,aE⟩ hf hs).1,λs hs c=>by
  have h:=qU l ⟨s.E,s.R,s.M,aE⟩ hf hs;have h2:=afl h.1;rcases h.2.2 c with h3|h3
  cases h3
  have e:had ⟨s.E,s.R,s.M,aE⟩=had s:=rfl;show 3*n-had (ie l ⟨s.E,s.R,s.M,aE⟩)<3*n-had s
  omega⟩
end dP
namespace dP
open aU
theorem YZ(l:List Nat)(i:Nat):l.set i (l.getD i 0)=l:=by
 by_cases h:i<l.length
 ·have e:l.getD i 0=l[i]:=by rw[cB,bK h];rfl
  rw[e,List.set_getElem_self]
 rw[List.set_eq_of_length_le J]
end dP
namespace dP
open aU dL
theorem td{E:List Bool}{F:List Nat}{h:Nat}:∀(body:List dr) (W:List Nat) (more:Bool),(kl E F h body W more).2=aE->more=aE/\(kl E F h body W more).1=W/\∀pre x post,body=pre++x::post->x.1=2->W.getD x.2.toNat 0|||gC E F post (W.getD h 0)=W.getD x.2.toNat 0
 |[],W,more,hm=>⟨hm,rfl,λpre x post e=>by simp at e⟩
 | y ::r,W,more,hm=>by
  rw[kl]at hm⊢;unfold jF at hm⊢
  by_cases c:y.1=2
  ·rw[if_pos c]at hm⊢
   obtain⟨h1,h2,h3⟩:=td r _ _ hm;rw[Eo]at h1;have h4:W.getD y.2.toNat 0|||gC E F r (W.getD h 0)=W.getD y.2.toNat 0:=by
    have:=h1.1;unfold oK at this
    simpa using this
   have h5:(oK W y.2.toNat (gC E F r (W.getD h 0))).1=W:=by
    unfold oK;dsimp only;rw[h4,YZ]
   rw[h2];dsimp only at h3⊢;rw[h5]at h3⊢;refine⟨h1.2,rfl,λpre x post e hx=>?_⟩
   match pre,e with
   | [],e=>
    simp only[eI,gU]at e;obtain⟨rfl,rfl⟩:=e;exact h4
   | z::pre,e=>
    simp only[jf,gU]at e;exact h3 pre x post e.2 hx
  rw[if_neg c]at hm⊢;obtain⟨h1,h2,h3⟩:=td r _ _ hm;refine⟨h1,h2,λpre x post e hx=>?_⟩
  match pre,e with
  | [],e=>
   simp only[eI,gU]at e;obtain⟨rfl,rfl⟩:=e;exact absurd hx c
  | z::pre,e=>
   simp only[jf,gU]at e;exact h3 pre x post e.2 hx
theorem B9{E:List Bool}{F:List Nat}:∀(l:List aU.Prod) (W:List Nat) (more:Bool),(oq E F l W more).2=aE->more=aE/\(oq E F l W more).1=W/\∀p∈l,∀pre x post,p.2=pre++x::post->x.1=2->W.getD x.2.toNat 0|||gC E F post (W.getD p.1.toNat 0)=W.getD x.2.toNat 0
 |[],W,more,hm=>⟨hm,rfl,λp hp=>by cases hp⟩
 |p::r,W,more,hm=>by
  rw[oq]at hm⊢;obtain⟨h1,h2,h3⟩:=B9 r _ _ hm;obtain⟨k1,k2,k3⟩:=td p.2 W more h1;rw[k2]at h2 h3⊢;refine⟨k1,h2,λq hq=>?_⟩;rcases dC.1 hq with rfl|hq
  exact k3;exact h3 q hq
end dP
namespace yJ
open aU dL f_ dP
mutual
inductive GS(l:List aU.Prod):dr->List Int->Prop
 |ED {x:dr} (h:x.1=1):GS l x [x.2]
 |non {x:dr} {p:aU.Prod} {ws:List Int} (h:x.1≠1) (hp:p∈l) (hx:p.1=x.2) (hd:rZ l p.2 ws):GS l x ws
inductive rZ(l:List aU.Prod):List dr->List Int->Prop
 |nil:rZ l [] []
 |cons {y:dr} {r:List dr} {a b:List Int} (h1:GS l y a) (h2:rZ l r b):rZ l (y::r) (a++b)
end
theorem rZ.U7{l:List aU.Prod}:∀{r r':List dr} {a b:List Int},rZ l r a->rZ l r' b->rZ l (r++r') (a++b)
 |[],_,_,_,.nil,h=>h
 |_::_,_,_,_,.cons h1 h2,h=>by rw[dZ];exact .cons h1 (rZ.U7 h2 h)
theorem Y0{l:List aU.Prod}{x:dr}{a:List Int}(h:GS l x a):rZ l [x] a:=by
 have:=rZ.cons h rZ.nil
 rwa [du]at this
def cut(w:List Int)(a b:Nat):List Int:=(w.drop a).take (b-a)
theorem zZ{w:List Int}{a m b:Nat}(h1:a<=m)(h2:m<=b):cut w a m++cut w m b=cut w a b:=by
 unfold cut;have e3:w.drop m=(w.drop a).drop (m-a):=by rw[List.drop_drop,show a+(m-a)=m by omega]
 rw[e3,show b-a=(m-a)+(b-m)by omega,List.take_add]
theorem Mt(w:List Int)(a:Nat):cut w a a=[]:=by unfold cut;simp
theorem S3{w:List Int}{a n:Nat}(h:n=w.length):cut w a n=w.drop a:=by
 unfold cut;rw[fU (by simp;omega)]
theorem S4{w:List Int}{a b:Nat}(h1:a<=b)(h2:b<=w.length):(cut w a b).length=b-a:=by
 unfold cut;rw[iN,ic];omega
theorem Mu{l:List aU.Prod}{w:List Int}{o:dr->Nat->Nat->Nat}:∀(body:List dr) (a b:Nat),a<=b->(∀y∈body,∀i j,a<=i->i<=j->j<=b->0<o y i j->GS l y (cut w i j))->0<Ml o body a b->rZ l body (cut w a b)
 | [],a,b,EH,_,h=>by
  rw[P5 _ _ EH,zU]at h;have hE:a=b:=by
   by_cases c:a=b
   exact c;rw[if_neg c]at h;omega
  subst hE;rw[Mt];exact .nil
 |y::r,a,b,EH,ho,h=>by
  obtain⟨m,m1,m2,m3⟩:=acg EH h;unfold afk at m3;rw[eX,decide_eq_true_iff,decide_eq_true_iff]at m3;rw[<-zZ m1 m2];exact .cons (ho y (by simp) a m (bz _) m1 m2 m3.1) (Mu r m b m2 (λz hz i j h1 h2 h3=>ho z (by simp[hz]) i j J h2 h3) m3.2)
section
variable{w:List Int}{l:List aU.Prod}{n:Nat}{c:qS}
open Classical in
theorem JP(hc:Lfp w l n c)(hs:pQ n l){k a b:Nat}(hk:k<n)(EH:a<=b)(hb:b<=w.length)(h:0<c ((k:Int),(a:Int),(b:Int))):GS l (2,(k:Int)) (cut w a b):=by
 have hp:YT w l n (λx=>if GS l (2,x.1) (cut w x.2.1.toNat x.2.2.toNat)then 2 else 0):=λq i j hq sE hj=>by
  dsimp only;rw[dF,dF]
  by_cases cd:GS l (2,(q:Int)) (cut w i j)
  rw[if_pos cd];exact acb _ _ _ _ _;rw[if_neg cd];apply Nat.le_of_not_lt;intro h0;unfold YP at h0;obtain⟨r,r1,r2,r3⟩:=Mp (Nat.lt_min.1 h0).2;have hm:=yG (l:=l) (p:=(r:Int)) J J;refine cd (.non (by show(2:Int)≠1;decide) hm r2 (Mu _ i j sE (λy hy i' j' h1 h2 h3 h4=>?_) r3));unfold nt at h4
  by_cases e:y.1=2
  ·rw[if_pos e]at h4
   dsimp only at h4;rw[dF,dF]at h4;split at h4
   ·rename_i hd
    obtain⟨y1,y2⟩:=y;dsimp only at e hd;subst e;exact hd
   omega
  rw[if_neg e]at h4;split at h4
  ·rename_i h5
   obtain⟨h6,h7⟩:=h5;have e1:y.1=1:=((hs _ hm).2.2 y hy).resolve_right λh=>e h.1;obtain⟨h8,h9⟩:=dg.1 h7;have:cut w i' j'=[y.2]:=by
    unfold cut;rw[h6,show i'+1-i'=1 by omega,eZ h8,h9];rfl
   rw[this];exact .ED e1
  omega
 have:=hc.least _ hp k a b hk EH hb;dsimp only at this;rw[dF,dF]at this
 by_cases cd:GS l (2,(k:Int)) (cut w a b)
 exact cd;rw[if_neg cd]at this;omega
theorem P_(hc:Lfp w l n c)(hs:pQ n l){x:dr}{a b:Nat}(hx:x.1=1\/(x.1=2/\0<=x.2/\x.2<(n:Int)))(EH:a<=b)(hb:b<=w.length)(h:0<nt c w x a b):GS l x (cut w a b):=by
 unfold nt at h;rcases hx with hx|⟨h2,h3,h4⟩
 ·rw[if_neg J]at h
  split at h
  ·rename_i h5
   obtain⟨h6,h7⟩:=h5;obtain⟨h8,h9⟩:=dg.1 h7;have:cut w a b=[x.2]:=by
    unfold cut;rw[h6,show a+1-a=1 by omega,eZ h8,h9];rfl
   rw[this];exact .ED hx
  omega
 rw[if_pos h2]at h;obtain⟨x1,x2⟩:=x;dsimp only at*;subst h2;have e:x2=((x2.toNat:Nat):Int):=by omega
 rw[e]at h⊢;exact JP hc hs J EH hb h
end
section
end
def yK(l:List aU.Prod)(s:FS):Prop:=(∀i:Nat,s.E.getD i aE=aC->GS l (2,(i:Int)) [])/\∀i:Nat,s.M.getD i aE=aC->∃ws,GS l (2,(i:Int)) ws
theorem EN{l:List aU.Prod}{E:List Bool}(h:∀i:Nat,E.getD i aE=aC->GS l (2,(i:Int)) []):∀(b:List dr),(∀x∈b,x.1=1\/(x.1=2/\0<=x.2))->pR E b aE=aC->rZ l b []
 |[],_,_=> .nil
 | y::r,hx,ha=>by
  unfold pR at ha;rw[cY,eX]at ha;have ih:=EN h r (λz hz=>hx z (by simp[hz])) ha.2;rcases hx y (by simp)with c|⟨c1,c2⟩
  rw[if_pos c]at ha;simp at ha;rw[if_neg J,if_pos c1]at ha;have hd:=h _ ha.1;obtain⟨y1,y2⟩:=y;dsimp only at*;subst c1;rw[vh c2]at hd;exact .cons hd ih
theorem EO{l:List aU.Prod}{M:List Bool}(h:∀i:Nat,M.getD i aE=aC->∃ws,GS l (2,(i:Int)) ws):∀(b:List dr),(∀x∈b,x.1=1\/(x.1=2/\0<=x.2))->pR M b aC=aC->∃ws,rZ l b ws
 |[],_,_=>⟨[],.nil⟩
 | y::r,hx,ha=>by
  unfold pR at ha;rw[cY,eX]at ha;obtain⟨ws,ih⟩:=EO h r (λz hz=>hx z (by simp[hz])) ha.2;rcases hx y (by simp)with c|⟨c1,c2⟩
  exact⟨_,.cons (.ED c) ih⟩;rw[if_neg J,if_pos c1]at ha;obtain⟨us,hd⟩:=h _ ha.1;obtain⟨y1,y2⟩:=y;dsimp only at*;subst c1;rw[vh c2]at hd;exact⟨_,.cons hd ih⟩
theorem Mv{l:List Bool}{i k:Nat}{b:Bool}(h:(gh l i b).1.getD k aE=aC):l.getD k aE=aC\/(k=i/\b=aC):=by
 unfold gh at h;split at h
 ·rename_i c
  dsimp only at h;rw[cB,Yt]at h
  by_cases e:i=k
  exact .inr ⟨e.symm,c.1⟩;rw[if_neg e,<-cB]at h;exact .inl h
 exact .inl h
theorem JQ{n:Nat}{l:List aU.Prod}(hs:pQ n l){p:aU.Prod}(hp:p∈l){s:FS}(h:yK l s):yK l (pS p s):=by
 obtain⟨s1,s2,s3⟩:=hs p hp;have hx:∀x∈p.2,x.1=1\/(x.1=2/\0<=x.2):=λx hx=>(s3 x hx).imp id λh=>⟨h.1,h.2.1⟩;unfold pS;refine⟨λi hi=>?_,λi hi=>?_⟩
 ·rcases Mv hi with h1|⟨h1,h2⟩
  exact h.1 i h1;subst h1;exact .non (by show(2:Int)≠1;decide) hp J (EN h.1 _ hx h2)
 rcases Mv hi with h1|⟨h1,h2⟩
 exact h.2 i h1;subst h1;obtain⟨ws,hw⟩:=EO h.2 _ hx h2;exact⟨ws,.non (by show(2:Int)≠1;decide) hp J hw⟩
theorem z8{n:Nat}{l:List aU.Prod}(hs:pQ n l):∀(r:List aU.Prod),(∀p∈r,p∈l)->∀(s:FS),yK l s->yK l (ie r s)
 |[],_,s,h=>h
 |p::r,hr,s,h=>by
  rw[ie];exact z8 hs r (λq hq=>hr q (by simp[hq])) _ (JQ hs (hr p (by simp)) h)
end yJ
namespace yJ
open aU dL f_
def aek(l:List aU.Prod)(w:List Int)(x:dr)(a b:Nat)(t:Tree):Prop:=HX l t x a/\P6 l t x=cut w a b
theorem aek.leaves{l:List aU.Prod}{w:List Int}{x:dr}{a b:Nat}{t:Tree}(h:aek l w x a b t)(EH:a<=b)(hb:b<=w.length):leaves t=b-a:=by
 rw[<-P7 h.1,h.2,S4 EH hb]
section
end
section
end
end yJ
namespace CL
open aU dL f_ dP yJ
abbrev Cl:=Int×Int×Int×Int
def P'(T col:Nat):Nat:=if col=T then 9223372036854775808 else 2^col
section
variable(l:List aU.Prod)(may:Nat->Nat)(T:Nat)
def EP(n col i:Nat):Bool:=decide ((dc l (i:Int)).1=(n:Int))&&!decide ((may i&&&P' T col)=0)
def iD(n col:Nat):Nat->Int
 |0=> -1
 |k+1=>if iD n col k<0 then(if EP l may T n col k=aC then(k:Int)else iD n col k)else iD n col k
def yL(n col:Nat):Nat->List Cl->List Cl
 |0,out=>out
 |k+1,out=>if EP l may T n col k=aC then(if iD l may T n col k<0 then yL n col k out else yL n col k out++[((n:Int),(col:Int),iD l may T n col k,(k:Int))])else yL n col k out
def CM(n:Nat):Nat->List Cl->List Cl
 |0,out=>out
 |c+1,out=>yL l may T n c l.length (CM n c out)
def nb:Nat->List Cl
 |0=>[]
 |n+1=>CM l may T n (T+1) (nb n)
def rowAt(n col:Nat):Int:=iD l may T n col l.length
end
section
variable{l:List aU.Prod}{may:Nat->Nat}{T:Nat}
theorem vH(n col:Nat):∀k,-1<=iD l may T n col k/\iD l may T n col k<(k:Int)
 |0=>⟨by rw[iD];omega,by rw[iD];omega⟩
 |k+1=>by
  have:=vH n col k;rw[iD];split;split<;>omega;omega
theorem yM(n col:Nat):∀k,k<=l.length->0<=iD l may T n col k->(dc l (iD l may T n col k)).1=(n:Int)
 |0,_,h=>by rw[iD]at h;omega
 | k + 1,hk,h=>by
  have ih:=yM n col k J;rw[iD]at h⊢;split at h
  ·split at h
   ·rename_i c1 c2
    rw[if_pos c1,if_pos c2];unfold EP at c2;rw[eX,decide_eq_true_iff]at c2;exact c2.1
   omega
  rename_i c1
  rw[if_neg c1];exact ih h
end
def z_(T:Nat)(w:List Int)(a:Nat):Nat:=if a<w.length then(w.getD a 0).toNat else T
section
end
section
end
section
end
end CL
namespace bZ
open Go.RowKit cK dS aU dL
inductive pU(F:Nat->Prop)(w:World):List Value->Tree->Prop
 |mk {p k:Int} {kids:List Tree} {base:Option Addr} {cap:Nat} (gH:List (List Value)):cK.dU p->cK.dU k->kids.length<=cap->cap<=maxLen->gH.length=kids.length->
  (∀i (h:i<kids.length) (h':i<gH.length),pU F w gH[i] kids[i])->(0<kids.length->∃b off,base=aj ⟨b,off,ak⟩/\F b/\∀i (_:i<kids.length) (h':i<gH.length),Rd w b (off+i*3) gH[i])->
  pU F w [av az p,av az k,ap base kids.length cap] (.mk p k kids)
theorem pU.aiP{F:Nat->Prop}{w:World}{cs:List Value}{t:Tree}(h:pU F w cs t):cs.length=3:=by
 cases h;rfl
theorem pU.Jy{F:Nat->Prop}{w w':World}{cs:List Value}{t:Tree}(h:pU F w cs t)(hk:∀k,F k->w'.heap[k]?=w.heap[k]?):pU F w' cs t:=by
 induction h with
 |mk gH h1 h2 h3 h4 h5 h6 h7 ih=>
  refine .mk gH h1 h2 h3 h4 h5 ih λhl=>?_;obtain⟨b,off,e,hF,hr⟩:=h7 hl;exact⟨b,off,e,hF,λi hi qw=>rd_stay (hr i hi qw) (hk b hF)⟩
theorem pU.mono{F F':Nat->Prop}{w:World}{cs:List Value}{t:Tree}(h:pU F w cs t)(hk:∀k,F k->F' k):pU F' w cs t:=by
 induction h with
 |mk gH h1 h2 h3 h4 h5 h6 h7 ih=>
  refine .mk gH h1 h2 h3 h4 h5 ih λhl=>?_;obtain⟨b,off,e,hF,hr⟩:=h7 hl;exact⟨b,off,e,hk b hF,hr⟩
def ag3:w8 Tree:=⟨3,pU,λh=>h.aiP,λh hk=>h.Jy hk,λh hk=>h.mono hk⟩
def ag4(p k:Int)(v:Value):Value:=aQ #[av az p,av az k,v]
def Y1(F:Nat->Prop)(w:World)(v:Value)(t:Tree):Prop:=∃vk,v=ag4 t.prod t.tok vk/\cK.dU t.prod/\cK.dU t.tok/\ky ag3 F w vk t.kids
theorem Y1.gr{w w':World}{v:Value}{t:Tree}(h:Y1 (λk=>k<w.heap.size) w v t)(hg:Gr w w'):Y1 (λk=>k<w'.heap.size) w' v t:=
 let ⟨vk,h1,h2,h3,h4⟩:=h;⟨vk,h1,h2,h3,h4.gr hg⟩
section
end
end bZ
namespace bZ
open Go.RowKit cK dS
theorem S5(l:List Int):∀u∈l.flatMap cK.dQ,u.oneCell'=true:=by
 intro u hu;obtain⟨f,_,h⟩:=vj.1 hu;simp only[cK.dQ,dC,fH,or_false]at h;subst h;rfl
theorem Mw(l:List Int):l.flatMap cK.dQ=l.map (.int .i64):=cK.ad9 l
end bZ
namespace bZ
open Go.RowKit cK dS aU dP
def ik(n:Nat):Value:= .int .u64 (n:Int)
theorem Df{l:List Bool}{i:Nat}(hi:i<l.length):(l.map fT)[i]?=aj (.bool (l.getD i aE)):=by
 simp[hi]
theorem JR{l:List Nat}{i:Nat}(hi:i<l.length):(l.map ik)[i]?=aj (ik (l.getD i 0)):=by
 simp[hi]
theorem Qa(g cap:Nat)(l:List Bool)(i:Nat)(b:Bool)(w:World)(B:bL)(hi:i<l.length)(hm:Mem B [aZ 4 1 (ap (aj ⟨g,0,ak⟩) l.length cap) l.length (l.map .bool)] w):
 Calls aD 122 #[ap (aj ⟨g,0,ak⟩) l.length cap,av az (i:Int),.bool b] w (da ⟨λ(_:Unit)=>True,λ_=> .bool (gh l i b).2,λ_=>[aZ 4 1 (ap (aj ⟨g,0,ak⟩) l.length cap) l.length ((gh l i b).1.map .bool)]⟩ B):=by
 have hb:=Df hi;refine dB hm (args:=[ap (aj ⟨g,0,ak⟩) l.length cap,av az (i:Int),.bool b]) (n:=18) Tryz.func122 I I I ?_;unfold gh
 cases b
 ·rw[if_neg (by simp)]
  try refine GA ?_
  exact cO I I λw hm=>hm.cC (S:=⟨λ(_:Unit)=>True,λ_=> .bool aE,λ_=>[aZ 4 1 (ap (aj ⟨g,0,ak⟩) l.length cap) l.length (l.map .bool)]⟩) () trivial [0] akh I
 ·generalize hx:l.getD i aE=x at*
  cases x
  ·rw[if_pos ⟨rfl,rfl⟩]
   repeat(first|refine GA ?_|refine gV (bU bM.eq aK.ty I I hi) ?_|refine gV (aB aK.ty I (jh (i:=0) I (by rw[cX];exact hb))) ?_)
   refine mH (i:=0) aK.ty I I I I I I (by simpa using hi) ?_
   try refine GA ?_
   exact cO I I λw hm=>hm.cC (S:=⟨λ(_:Unit)=>True,λ_=> .bool aC,λ_=>[aZ 4 1 (ap (aj ⟨g,0,ak⟩) l.length cap) l.length ((l.set i aC).map .bool)]⟩) () trivial [0] akh (by simp[tb])
  rw[if_neg (by simp)]
  repeat(first|refine GA ?_|refine gV (bU bM.eq aK.ty I I hi) ?_|refine gV (aB aK.ty I (jh (i:=0) I (by rw[cX];exact hb))) ?_)
  exact cO I I λw hm=>hm.cC (S:=⟨λ(_:Unit)=>True,λ_=> .bool aE,λ_=>[aZ 4 1 (ap (aj ⟨g,0,ak⟩) l.length cap) l.length (l.map .bool)]⟩) () trivial [0] akh I
theorem yN(v vb:Value)(l:List Bool)(body:List dr)(aT:Bool)(w:World)(hs:Sl w v l.length (l.map .bool))(WC:Sl w vb body.length (body.flatMap eC))(lT:∀x∈body,x.1=2->0<=x.2/\x.2<l.length):
 Calls aD 123 #[v,vb,.bool aT] w (bY (ret (.bool (pR l body aT))) w):=by
 obtain⟨bv,cv,rfl,h1,h2,h3⟩:=hs;obtain⟨bb,cb,rfl,h4,h5,h6⟩:=WC;unfold maxLen at h2 h5;refine enter (args:=[ap bv l.length cv,ap bb body.length cb,.bool aT]) (n:=36) Tryz.func123 I I I ?_
 try refine GA ?_
 refine d_ (ι:=Nat) (λk=>k<=body.length/\pR l body aT=pR l (body.drop k) aT) (λk=>[(0,ap bv l.length cv),(2,.bool aT),(9,ap bb body.length cb),(10,av az body.length),(11,av az (k:Int))]) (λ_=>[]) (λk=>body.length-k) 0 ⟨bH _,rfl⟩ ?_;rintro k ⟨i1,i2⟩;rw[i2];clear i2
 by_cases c6:k<body.length
 ·obtain⟨b,off,rfl,hr⟩:=h6 J
  have dy:=ib (L:=([]:List b9)) oo hr c6;have ach:=lT body[k] (b_ c6);have hd:pR l (body.drop k) aT=((if body[k].1=1 then aT else if body[k].1=2 then l.getD body[k].2.toNat aE else aC)&&pR l (body.drop (k+1)) aT):=by
   rw[eZ c6];rfl
  rw[hd];clear hd h6 lT hr;generalize body[k]=x at*;obtain⟨q,m⟩:=x;dsimp only at*
  by_cases c1:q=1
  ·rw[if_pos c1]
   cases aT
   ·repeat(first|refine GA ?_|refine gV (aY bM.eq aK.ty I I c6) ?_|refine gV (bm aK.ty I I dy) ?_)
    refine a8 I λg8=>?_;refine ij 0 ?_
    repeat(first|refine GA ?_|refine gV (aB aK.ty I (aH (i:=0) I I)) ?_)
    exact eH
   repeat(first|refine GA ?_|refine gV (aY bM.eq aK.ty I I c6) ?_|refine gV (bm aK.ty I I dy) ?_)
   refine a8 I λg8=>?_;refine ij 0 ?_
   repeat(first|refine GA ?_|refine gV (aB aK.ty I (aH (i:=0) I I)) ?_)
   refine dm [] ?_;exact bT (k+1) ⟨by omega,by simp⟩ (by show body.length-(k+1)<body.length-k;omega)
  rw[if_neg c1]
  by_cases c2:q=2
  ·rw[if_pos c2]
   obtain⟨o1,o2⟩:=ach c2;obtain⟨mm,rfl⟩:∃mm:Nat,m=mm:=⟨m.toNat,by omega⟩;have sU:mm<l.length:=by omega
   obtain⟨b',zO,rfl,CG⟩:=h3 J;rw[dF];have hcell:=Df sU;generalize l.getD mm aE=y at*
   cases y
   ·repeat(first|refine GA ?_|refine gV (aY bM.eq aK.ty I I c6) ?_|refine gV (bm aK.ty I I dy) ?_)
    refine a8 I λg8=>?_;refine ij 0 ?_
    repeat(first|refine GA ?_|refine gV (aB aK.ty I (aH (i:=0) I I)) ?_|refine gV (bU bM.eq aK.ty I I sU) ?_|refine gV (aB aK.ty I (jc CG hcell)) ?_)
    exact eH
   repeat(first|refine GA ?_|refine gV (aY bM.eq aK.ty I I c6) ?_|refine gV (bm aK.ty I I dy) ?_)
   refine a8 I λg8=>?_;refine ij 0 ?_
   repeat(first|refine GA ?_|refine gV (aB aK.ty I (aH (i:=0) I I)) ?_|refine gV (bU bM.eq aK.ty I I sU) ?_|refine gV (aB aK.ty I (jc CG hcell)) ?_)
   refine dm [] ?_;exact bT (k+1) ⟨by omega,by simp⟩ (by show body.length-(k+1)<body.length-k;omega)
  rw[if_neg c2]
  repeat(first|refine GA ?_|refine gV (aY bM.eq aK.ty I I c6) ?_|refine gV (bm aK.ty I I dy) ?_)
  refine a8 I λg8=>?_;refine ij 0 ?_
  repeat(first|refine GA ?_|refine gV (aB aK.ty I (aH (i:=0) I I)) ?_)
  refine dm [] ?_;exact bT (k+1) ⟨by omega,by simp⟩ (by show body.length-(k+1)<body.length-k;omega)
 ·rw[ir J]
  try refine GA ?_
  exact eH
end bZ
namespace bZ
open Go.RowKit cK dS aU dP
theorem r7{x y:Nat}(hx:x<18446744073709551616)(hy:y<18446744073709551616):bits .or .u64 (x:Int) (y:Int)=((x|||y:Nat):Int):=by
 have h:=bits_nat .u64 64 akh (λn h0 h1=>by rw[sN];omega) x y (by simpa using hx) (by simpa using hy);exact h.2
theorem ag5{x y:Nat}(hx:x<18446744073709551616)(hy:y<18446744073709551616):x|||y<18446744073709551616:=Yv (n:=64) hx hy
theorem Aa{m:Nat}(h:m<64):2^m<18446744073709551616:=by
 have:(2:Nat)^m<2^64:=Er akh h
 simpa using this
theorem aci{P:Program}(m:Nat)(hm:m<64)(w:World):(iM .shl .u64 1 .i64 (m:Int)).run P w= .ok (.int .u64 ((2^m:Nat):Int)) w:=by
 have e:min m 64=m:=by omega
 have hp:=Aa hm;have e2:(2:Int)^m=((2^m:Nat):Int):=by rw[Int.natCast_pow];rfl
 have e3:uA.wrap ((1:Int)*2^m)=((2^m:Nat):Int):=by
  rw[e2,sN,Int.one_mul];generalize 2^m=q at hp;omega
 have h0:¬((m:Int)<0):=by omega
 simp only[iM,if_neg h0,kX,dF,e,e3,pu]
attribute [local irreducible] Op.shift Go.bits in
theorem U8(g cap:Nat)(l:List Nat)(i b:Nat)(w:World)(B:bL)(hi:i<l.length)(h64:∀x∈l,x<18446744073709551616)(hb:b<18446744073709551616)(hm:Mem B [aZ 114 1 (ap (aj ⟨g,0,ak⟩) l.length cap) l.length (l.map ik)] w):
 Calls aD 124 #[ap (aj ⟨g,0,ak⟩) l.length cap,av az (i:Int),ik b] w (da ⟨λ(_:Unit)=>True,λ_=> .bool (oK l i b).2,λ_=>[aZ 114 1 (ap (aj ⟨g,0,ak⟩) l.length cap) l.length ((oK l i b).1.map ik)]⟩ B):=by
 have hc:=JR hi;have acj:l.getD i 0<18446744073709551616:=by
  have e:l.getD i 0=l[i]:=by rw[cB,bK hi];rfl
  rw[e];exact h64 _ (b_ hi)
 refine dB hm (args:=[ap (aj ⟨g,0,ak⟩) l.length cap,av az (i:Int),ik b]) (n:=25) Tryz.func124 I I I ?_;unfold oK;generalize l.getD i 0=x at*;have Lt:=r7 acj hb;have rN:((l.map ik).set i (.int .u64 ((x|||b:Nat):Int)))[0+i]?=aj (.int .u64 ((x|||b:Nat):Int)):=by
  rw[cX,List.getElem?_set_self (by simpa using hi)]
 generalize x|||b=y at*
 by_cases c:y=x
 ·rw[show(!decide (y=x))=aE by simp[c]]
  repeat(first|refine GA ?_|refine gV (bU bM.eq aK.ty I I hi) ?_|refine gV (aB aK.ty I (jh (i:=0) I (by rw[cX];exact hc))) ?_|refine gV (zn I I Lt) ?_)
  refine mH (i:=0) aK.ty I I I I I I (by simpa using hi) ?_
  conv=>arg 8;simp only[ye,cX]
  repeat(first|refine GA ?_|refine gV (bU bM.eq aK.ty I I hi) ?_|refine gV (aB aK.ty I (jh (i:=0) I rN)) ?_)
  exact cO I I λw hm=>hm.cC (S:=⟨λ(_:Unit)=>True,λ_=> .bool aE,λ_=>[aZ 114 1 (ap (aj ⟨g,0,ak⟩) l.length cap) l.length ((l.set i y).map ik)]⟩) () trivial [0] akh (by simp[tb];rfl)
 ·rw[show(!decide (y=x))=aC by simp[c]]
  repeat(first|refine GA ?_|refine gV (bU bM.eq aK.ty I I hi) ?_|refine gV (aB aK.ty I (jh (i:=0) I (by rw[cX];exact hc))) ?_|refine gV (zn I I Lt) ?_)
  refine mH (i:=0) aK.ty I I I I I I (by simpa using hi) ?_
  conv=>arg 8;simp only[ye,cX]
  repeat(first|refine GA ?_|refine gV (bU bM.eq aK.ty I I hi) ?_|refine gV (aB aK.ty I (jh (i:=0) I rN)) ?_)
  exact cO I I λw hm=>hm.cC (S:=⟨λ(_:Unit)=>True,λ_=> .bool aC,λ_=>[aZ 114 1 (ap (aj ⟨g,0,ak⟩) l.length cap) l.length ((l.set i y).map ik)]⟩) () trivial [0] akh (by simp[tb];rfl)
theorem JS(E:List Bool)(F:List Nat)(behind:Nat)(x:dr)(r:List dr)(out:Nat):na E F behind (x::r) out=if x.1=1 then out|||2^x.2.toNat else if E.getD x.2.toNat aE=aC then na E F behind r (out|||F.getD x.2.toNat 0)else out|||F.getD x.2.toNat 0:=rfl
theorem Mx(E:List Bool)(F:List Nat)(behind out:Nat):na E F behind [] out=out|||behind:=rfl
def mR(vE vF vL vR vM:Value):Value:=aQ #[vE,vF,vL,vR,vM]
attribute [local irreducible] Op.shift Go.bits in
theorem vJ(vE vF vL vR vM vb:Value)(E:List Bool)(F:List Nat)(body:List dr)(behind:Nat)(w:World)(hE:Sl w vE E.length (E.map .bool))(hF:Sl w vF F.length (F.map ik))(hs:Sl w vb body.length (body.flatMap eC))(hEF:E.length=F.length)
 (lT:∀x∈body,(x.1=1->0<=x.2/\x.2<64)/\(x.1≠1->0<=x.2/\x.2<F.length)) (h64:∀x∈F,x<18446744073709551616) (hb:behind<18446744073709551616):
 Calls aD 125 #[mR vE vF vL vR vM,vb,ik behind] w (bY (ret (ik (gC E F body behind))) w):=by
 obtain⟨bE,cE,rfl,e1,e2,e3⟩:=hE;obtain⟨bF,cF,rfl,f1,f2,f3⟩:=hF;obtain⟨bb,cb,rfl,h4,h5,h6⟩:=hs;unfold maxLen at e2 f2 h5;refine enter (args:=[mR (ap bE E.length cE) (ap bF F.length cF) vL vR vM,ap bb body.length cb,ik behind]) (n:=44) Tryz.func125 I I I ?_;refine bW (bB (bP I I I λg3=>?_))
 try refine GA ?_
 unfold gC;refine d_ (ι:=Nat×Nat) (λ(k,out)=>k<=body.length/\out<18446744073709551616/\na E F behind body 0=na E F behind (body.drop k) out) (λ(k,out)=>[(2,ik behind),(3,aJ (aj ⟨g3,0,ak⟩)),(7,ik out),(10,ap bb body.length cb),(11,av az body.length),(12,av az (k:Int))]) (λ_=>[aP g3 (mR (ap bE E.length cE) (ap bF F.length cF) vL vR vM).cells 104]) (λ(k,_)=>body.length-k) (0,0) ⟨bH _,by decide,rfl⟩ ?_;rintro⟨k,out⟩ ⟨i1,i3,i2⟩;dsimp only at i1 i3 i2⊢;rw[i2];clear i2
 by_cases c6:k<body.length
 ·obtain⟨b,off,rfl,hr⟩:=h6 J
  have dy:=ib (L:=[aP g3 (mR (ap bE E.length cE) (ap bF F.length cF) vL vR vM).cells 104]) oo hr c6;have ach:=lT body[k] (b_ c6);have hd:na E F behind (body.drop k) out=na E F behind (body[k]::body.drop (k+1)) out:=by
   rw[eZ c6]
  rw[hd];clear hd h6 lT hr;generalize body[k]=x at*;obtain⟨q,m⟩:=x;dsimp only at*;rw[JS];dsimp only
  by_cases c1:q=1
  ·rw[if_pos c1]
   obtain⟨o1,o2⟩:=ach.1 c1;obtain⟨mm,rfl⟩:∃mm:Nat,m=mm:=⟨m.toNat,by omega⟩;rw[dF];have Yd:=λw=>aci (P:=aD) mm J w;have Lt:=r7 i3 (Aa (m:=mm) J)
   repeat(first|refine GA ?_|refine gV (aY bM.eq aK.ty I I c6) ?_|refine gV (bm aK.ty I I dy) ?_)
   refine a8 I λg8=>?_;refine ij 1 ?_
   repeat(first|refine GA ?_|refine gV (aB aK.ty I (aH (i:=1) I I)) ?_|refine gV (DW I I Yd) ?_|refine gV (zn I I Lt) ?_)
   exact eH
  rw[if_neg c1];obtain⟨o1,o2⟩:=ach.2 c1;obtain⟨mm,rfl⟩:∃mm:Nat,m=mm:=⟨m.toNat,by omega⟩;rw[dF];have sU:mm<F.length:=by omega
  have hmE:mm<E.length:=by omega
  obtain⟨b1,ajN,rfl,WD⟩:=e3 J;obtain⟨b2,Y2,rfl,ul⟩:=f3 J;have hcE:=Df hmE;have hcF:=JR sU;have acj:F.getD mm 0<18446744073709551616:=by
   have e:F.getD mm 0=F[mm]:=by rw[cB,bK sU];rfl
   rw[e];exact h64 _ (b_ sU)
  have Lt:=r7 i3 acj;have hlt:=ag5 i3 acj;generalize E.getD mm aE=y at*;generalize F.getD mm 0=z at*;generalize out|||z=o2 at*
  cases y
  ·rw[if_neg akh]
   repeat(first|refine GA ?_|refine gV (aY bM.eq aK.ty I I c6) ?_|refine gV (bm aK.ty I I dy) ?_)
   refine a8 I λg8=>?_;refine ij 1 ?_
   repeat(first|refine GA ?_|refine gV (aB aK.ty I (aH (i:=1) I I)) ?_|refine gV (aB aK.ty I (aH (i:=0) I I)) ?_|refine gV (bU bM.eq aK.ty I I sU) ?_|refine gV (bU bM.eq aK.ty I I hmE) ?_|refine gV (aB aK.ty I (jc WD hcE)) ?_|refine gV (aB aK.ty I (jc ul hcF)) ?_|refine gV (zn I I Lt) ?_)
   exact eH
  rw[if_pos I]
  repeat(first|refine GA ?_|refine gV (aY bM.eq aK.ty I I c6) ?_|refine gV (bm aK.ty I I dy) ?_)
  refine a8 I λg8=>?_;refine ij 1 ?_
  repeat(first|refine GA ?_|refine gV (aB aK.ty I (aH (i:=1) I I)) ?_|refine gV (aB aK.ty I (aH (i:=0) I I)) ?_|refine gV (bU bM.eq aK.ty I I sU) ?_|refine gV (bU bM.eq aK.ty I I hmE) ?_|refine gV (aB aK.ty I (jc WD hcE)) ?_|refine gV (aB aK.ty I (jc ul hcF)) ?_|refine gV (zn I I Lt) ?_)
  refine dm [0] ?_;exact bT (k+1,o2) ⟨by omega,hlt,rfl⟩ (by show body.length-(k+1)<body.length-k;omega)
 ·rw[ir J]
  have Lt:=r7 i3 hb;rw[Mx]
  repeat(first|refine GA ?_|refine gV (zn I I Lt) ?_)
  exact eH
end bZ
namespace bZ
open Go.RowKit cK dS aU dP
def eD(n g c:Nat)(l:List Bool):b9:=aZ 4 1 (ap (aj ⟨g,0,ak⟩) n c) n (l.map .bool)
theorem vO(n g cap:Nat)(l:List Bool)(i:Nat)(b:Bool)(w:World)(B:bL)(hl:l.length=n)(hi:i<n)(hm:Mem B [eD n g cap l] w):
 Calls aD 122 #[ap (aj ⟨g,0,ak⟩) n cap,av az (i:Int),.bool b] w (da ⟨λ(_:Unit)=>True,λ_=> .bool (gh l i b).2,λ_=>[eD n g cap (gh l i b).1]⟩ B):=by
 subst hl;exact Qa g cap l i b w B hi hm
structure ag6 where
 gE:Nat
 cE:Nat
 gR:Nat
 cR:Nat
 gM:Nat
 cM:Nat
def dw(n g c:Nat):Value:=ap (aj ⟨g,0,ak⟩) n c
theorem My(h:Nat)(x:dr)(r:List dr)(R:List Bool)(more:Bool):nQ h (x::r) R more=nQ h r (B6 h x R more).1 (B6 h x R more).2:=rfl
theorem Mz(p:aU.Prod)(r:List aU.Prod)(s:FS):ie (p::r) s=ie r (pS p s):=rfl
theorem MA(w0:World)(v:Value)(g:ep)(h:kK (λk=>k<w0.heap.size) w0 v g)(jw:cz g=0)(n:Nat)(hn:g.bC=n)(x:ag6)(vF vL:Value)(E R M:List Bool)(hE:E.length=n)(hR:R.length=n)(hM:M.length=n)(w:World)(B:bL)(ho:qx w0 B)(hm:Mem B [eD n x.gE x.cE E,eD n x.gR x.cR R,eD n x.gM x.cM M] w):
 Calls aD 81 #[v,mR (dw n x.gE x.cE) vF vL (dw n x.gR x.cR) (dw n x.gM x.cM)] w (da ⟨λ(_:Unit)=>True,λ_=> .bool (ie g.aF ⟨E,R,M,aE⟩).more,λ_=>[eD n x.gE x.cE (ie g.aF ⟨E,R,M,aE⟩).E,eD n x.gR x.cR (ie g.aF ⟨E,R,M,aE⟩).R,eD n x.gM x.cM (ie g.aF ⟨E,R,M,aE⟩).M]⟩ B):=by
 obtain⟨gE,cE,gR,cR,gM,cM⟩:=x;dsimp only at*;obtain⟨_,_,_,_,hlen,hps⟩:=cV jw;obtain⟨vp,rfl,h1,_⟩:=h;obtain⟨bp,cp,rfl,JN,GI,oT⟩:=h1;unfold maxLen at GI;obtain⟨t,nn,aF⟩:=g;dsimp only at*;subst hn;refine dB hm (args:=[dM t (n:Int) (ap bp aF.length cp),mR (dw n gE cE) vF vL (dw n gR cR) (dw n gM cM)]) (n:=70) Tryz.func81 I I I<|bW (bB (bP I I I λg2=>bP I I I λg3=>?_));refine zL ?_
 refine GM ?_
 refine rb [0,1,2,4] ?_;generalize jX:ie aF ⟨E,R,M,aE⟩=fin;refine d_ (ι:=Nat×FS) (λ(k,s)=>k<=aF.length/\s.E.length=n/\s.R.length=n/\s.M.length=n/\ie (aF.drop k) s=fin) (λ(k,s)=>[(3,aJ (aj ⟨g3,0,ak⟩)),(5,.bool s.more),(11,ap bp aF.length cp),(12,av az aF.length),(13,av az (k:Int))])
  (λ(_,s)=>[eD n gE cE s.E,eD n gR cR s.R,eD n gM cM s.M,aP g3 (mR (dw n gE cE) vF vL (dw n gR cR) (dw n gM cM)).cells 104]) (λ(k,_)=>aF.length-k) (0,⟨E,R,M,aE⟩) ⟨bH _,hE,hR,hM,jX⟩ ?_
 clear hm hE hR hM jX;rintro⟨k,E,R,M,more⟩ ⟨i1,i2,i3,i4,i5⟩;dsimp only at i1 i2 i3 i4 i5⊢
 by_cases c6:k<aF.length
 ·obtain⟨b,off,rfl,_,hr⟩:=oT J
  obtain⟨bb,cb,q1,q2,q3⟩:=ma hr c6;have dX:=hps aF[k] (b_ c6);rw[eZ c6,Mz]at i5;have dy:∀(L:List b9) (j:Nat) (v:Value),([av az aF[k].1,.slice bb aF[k].2.length cb]:List Value)[j]?=aj v->At B L ⟨b,off+k*2+j,ak⟩ v:=λL j v hj=>iX ho (q1 j v hj);have tW:=q3.flat akh;clear hr oT q1 hps q3;generalize aF[k]=p at*;obtain⟨hd,body⟩:=p;obtain⟨p1,p2,p3,p4⟩:=dX;dsimp only at*;obtain⟨hn,rfl⟩:∃hn:Nat,hd=hn:=⟨hd.toNat,by omega⟩;have hhn:hn<n:=by omega
  have S6:∀x∈body,x.1=2->0<=x.2/\x.2<(n:Int):=λx hx fO=>by
   have:=p4 x hx;unfold right at this;rw[if_neg J,if_pos fO]at this
   simpa using this
  have hsb:∀w' L,Mem B L w'->Sl w' (ap bb body.length cb) body.length (body.flatMap eC):=λw' L hm=>tW.gr (ho.mem hm);unfold pS at i5;dsimp only at i5;rw[dF]at i5;have Y3:=λw' L (hm:Mem B L w') (hx:Sl w' (dw n gE cE) E.length (E.map .bool))=>yN (dw n gE cE) (ap bb body.length cb) E body aE w' hx (hsb w' L hm) (λx hx fO=>by rw[i2];exact S6 x hx fO);have pV:=λw' L (hm:Mem B L w') (hx:Sl w' (dw n gM cM) M.length (M.map .bool))=>yN (dw n gM cM) (ap bb body.length cb) M body aC w' hx (hsb w' L hm) (λx hx fO=>by rw[i4];exact S6 x hx fO);generalize pR E body aE=a1 at*;generalize pR M body aC=a2 at*;have ag7:=λw' B' hm=>vO n gE cE E hn a1 w' B' i2 hhn hm;have ag8:=λw' B' hm=>vO n gM cM M hn a2 w' B' i4 hhn hm;have PB:=nP E hn a1;have HJ:=nP M hn a2;rw[i2]at PB Y3;rw[i4]at HJ pV;generalize gh E hn a1=m1 at*;generalize gh M hn a2=m2 at*;obtain⟨E1,b1⟩:=m1;obtain⟨M1,b2⟩:=m2;dsimp only at*
  repeat(first|refine GA ?_|refine gV (aY bM.eq aK.ty I I c6) ?_|refine gV (bm aK.ty I I (dy _)) ?_)
  clear dy;refine a8 I λg7=>?_;refine ij 4 ?_;refine zL ?_
  repeat(first|refine QV QP ?_|refine jg ?_|refine jA ?_|refine qs I I I I I I ?_|((try refine qg I I I ?_);first|refine QV QP ?_|refine QV QL ?_|refine QV QA ?_|refine QV QlT ?_|refine QV QlF ?_|refine QV QeT ?_|refine QV QeF ?_|refine QV QaA ?_))
  (repeat refine bW ?_)
  refine lU (ι:=Unit) (λ_=>True) (λ_=>[(3,aJ (aj ⟨g3,0,ak⟩)),(5,.bool (b1||more)),(7,aJ (aj ⟨g7,0,ak⟩)),(11,ap (aj ⟨b,off,ak⟩) aF.length cp),(12,av az aF.length),(13,av az (k:Int))])
   (λ_=>[eD n gE cE E1,eD n gR cR R,eD n gM cM M,aP g3 (mR (dw n gE cE) vF vL (dw n gR cR) (dw n gM cM)).cells 104,aP g7 #[av az (hn:Int),ap bb body.length cb] 140]) ?_ ?_
  ·refine dT ([aP g3 (mR (dw n gE cE) vF vL (dw n gR cR) (dw n gM cM)).cells 104,aP g7 #[av az (hn:Int),ap bb body.length cb] 140]) (.calm 0 (.calm 1 (.calm 2 (.calm 3 (.calm 4 (.calm 5 (.calm 6 (.calm 7 (.one 8 (.one 9 (.calm 10 (.calm 11 (.calm 12 (.calm 13 (.done))))))))))))))) (bX [3,4]) ?_
   repeat(first|refine GW ?_|(refine GN ?_;first|refine QW (aB aK.ty I (aH (i:=0) I I)) ?_|refine QW (aB aK.ty I (aH (i:=1) I I)) ?_))
   refine aL I<|aV (sV aI.en I I I I) (λw hm=>Y3 _ _ hm (lm (i:=0) I w hm)) I I I ?_;intro _ _;refine zL ?_;refine aM (bX [3,4])<|aL I<|bx [0] [1,2,3,4] akh I I (sV aI.en I I I I) (λw hm hb=>ag7 w _ hb) I I I ?_;intro _ _;refine zL ?_;refine aM (bX [2,3]) ?_
   cases b1
   ·refine GW ?_
    refine dm [4,0,1,2,3] ?_;exact ee () trivial (by repeat' (first|exact cT|refine cJ I ?_)) I
   refine GW ?_
   refine dm [4,0,1,2,3] ?_;exact ee () trivial (by repeat' (first|exact cT|refine cJ I ?_)) I
  intro _ _
  (repeat refine bW ?_)
  refine lU (ι:=Unit) (λ_=>True) (λ_=>[(3,aJ (aj ⟨g3,0,ak⟩)),(5,.bool (b2||(b1||more))),(7,aJ (aj ⟨g7,0,ak⟩)),(11,(ap (aj ⟨b,off,ak⟩) aF.length cp)),(12,av az aF.length),(13,av az (k:Int))])
   (λ_=>[eD n gE cE E1,eD n gR cR R,eD n gM cM M1,aP g3 (mR (dw n gE cE) vF vL (dw n gR cR) (dw n gM cM)).cells 104,aP g7 #[av az (hn:Int),ap bb body.length cb] 140]) ?_ ?_
  ·refine dT ([aP g3 (mR (dw n gE cE) vF vL (dw n gR cR) (dw n gM cM)).cells 104,aP g7 #[av az (hn:Int),ap bb body.length cb] 140]) (.calm 0 (.calm 1 (.calm 2 (.calm 3 (.calm 4 (.calm 5 (.calm 6 (.calm 7 (.one 8 (.one 9 (.calm 10 (.calm 11 (.calm 12 (.calm 13 (.done))))))))))))))) (bX [3,4]) ?_
   repeat(first|refine GW ?_|(refine GN ?_;first|refine QW (aB aK.ty I (aH (i:=0) I I)) ?_|refine QW (aB aK.ty I (aH (i:=1) I I)) ?_))
   refine aL I<|aV (sV aI.en I I I I) (λw hm=>pV _ _ hm (lm (i:=2) I w hm)) I I I ?_;intro _ _;refine zL ?_;refine aM (bX [3,4])<|aL I<|bx [2] [0,1,3,4] akh I I (sV aI.en I I I I) (λw hm hb=>ag8 w _ hb) I I I ?_;intro _ _;refine zL ?_;refine aM (bX [2,3]) ?_;generalize (b1||more)=mo
   cases b2
   ·refine GW ?_
    refine dm [0,1,4,2,3] ?_;exact ee () trivial (by repeat' (first|exact cT|refine cJ I ?_)) I
   refine GW ?_
   refine dm [0,1,4,2,3] ?_;exact ee () trivial (by repeat' (first|exact cT|refine cJ I ?_)) I
  intro _ _;generalize (b2||(b1||more))=mo at*;clear ag7 ag8 Y3 pV
  refine GM ?_
  generalize hfr:nQ hn body R mo=fr at*;obtain⟨R2,mo2⟩:=fr;dsimp only at i5;refine d_ (ι:=Nat×List Bool×Bool) (λ(j,R',m')=>j<=body.length/\R'.length=n/\nQ hn (body.drop j) R' m'=(R2,mo2)) (λ(j,_,m')=>[(3,aJ (aj ⟨g3,0,ak⟩)),(5,.bool m'),(7,aJ (aj ⟨g7,0,ak⟩)),(11,(ap (aj ⟨b,off,ak⟩) aF.length cp)),(12,av az aF.length),(13,av az (k:Int)),(44,ap bb body.length cb),(45,av az body.length),(46,av az (j:Int))])
   (λ(_,R',_)=>[eD n gE cE E1,eD n gR cR R',eD n gM cM M1,aP g3 (mR (dw n gE cE) vF vL (dw n gR cR) (dw n gM cM)).cells 104,aP g7 #[av az (hn:Int),ap bb body.length cb] 140]) (λ(j,_,_)=>body.length-j) (0,R,mo) ⟨bH _,i3,hfr⟩ ?_
  clear hfr;rintro⟨j,R',m'⟩ ⟨j1,j2,j3⟩;dsimp only at j1 j2 j3⊢
  by_cases c7:j<body.length
  ·obtain⟨b',zO,rfl,hrb⟩:=(by
    obtain⟨bs,cs,hv,_,_,eP⟩:=tW;simp only[kH,true_and]at hv;obtain⟨rfl,rfl⟩:=hv;exact eP J:∃b' zO,bb=aj ⟨b',zO,ak⟩/\Rd w0 b' zO (body.flatMap eC))
   have U9:∀(L:List b9) (q:Nat) (u:Value),(eC body[j])[q]?=aj u->At B L ⟨b',zO+j*2+q,ak⟩ u:=λL=>uT oo (λq u hq=>iX ho (hrb q u hq)) c7;have fO:=S6 body[j] (b_ c7);rw[eZ c7,My]at j3;clear S6 hrb tW hsb p4;generalize body[j]=x at*;obtain⟨q,m⟩:=x;dsimp only at fO;unfold B6 at j3;dsimp only at j3
   by_cases c8:q=2
   ·subst c8
    rw[if_pos I]at j3;obtain⟨y1,y2⟩:=fO rfl;obtain⟨mm,rfl⟩:∃mm:Nat,m=mm:=⟨m.toNat,by omega⟩;rw[dF]at j3;have hcell:=Df (l:=R') (i:=hn) J;generalize R'.getD hn aE=bh at*;have L6:=λw' B' hm=>vO n gR cR R' mm bh w' B' j2 J hm;have Y4:=nP R' mm bh;rw[j2]at Y4;generalize gh R' mm bh=m3 at*;obtain⟨R3,b3⟩:=m3;dsimp only at*
    repeat(first|refine GA ?_|refine gV (aY bM.eq aK.ty I I c7) ?_|refine gV (bm aK.ty I I (U9 _)) ?_)
    clear U9;refine a8 I λg9=>?_;refine ij 5 ?_;refine zL ?_
    refine GM ?_
    refine dT ([aP g3 (mR (dw n gE cE) vF vL (dw n gR cR) (dw n gM cM)).cells 104,aP g7 #[av az (hn:Int),ap (aj ⟨b',zO,ak⟩) body.length cb] 140,aP g9 #[av az 2,av az (mm:Int)] 148]) (.calm 0 (.calm 1 (.calm 2 (.calm 3 (.calm 4 (.calm 5 (.calm 6 (.calm 7 (.calm 8 (.one 9 (.one 10 (.calm 11 (.calm 12 (.calm 13 (.calm 14 (.done)))))))))))))))) (bX [3,4,5]) ?_
    repeat(first|refine GW ?_|(refine GN ?_;first|refine QW (aB aK.ty I (aH (i:=0) I I)) ?_|refine QW (aB aK.ty I (aH (i:=1) I I)) ?_|refine QW (aB aK.ty I (aH (i:=2) I I)) ?_|refine QW (bU bM.eq aK.ty I I (show hn<n by omega)) ?_))
    refine aL I (dx (aB aK.ty I (jh (i:=1) I (by rw[cX];exact hcell))) I I I (aM (bX [3,4,5]) ?_));refine aL I<|bx [1] [0,2,3,4,5] akh I I (sV aI.en I I I I) (λw hm hb=>L6 w _ hb) I I I ?_;intro _ _;refine zL ?_;refine aM (bX [2,3,4]) ?_
    cases b3
    ·refine GW ?_
     refine GA ?_
     refine dm [0,5,1,2,3] ?_;exact bT (j+1,R3,aE||m') ⟨by omega,Y4,j3⟩ J
    refine GW ?_
    refine GA ?_
    refine dm [0,5,1,2,3] ?_;exact bT (j+1,R3,aC||m') ⟨by omega,Y4,j3⟩ J
   rw[if_neg c8]at j3;dsimp only at j3
   repeat(first|refine GA ?_|refine gV (aY bM.eq aK.ty I I c7) ?_|refine gV (bm aK.ty I I (U9 _)) ?_)
   clear U9;refine a8 I λg9=>?_;refine ij 5 ?_;refine zL ?_
   refine GM ?_
   refine dm [0,1,2,3,4] ?_;exact bT (j+1,R',m') ⟨by omega,j2,j3⟩ J
  rw[ir J]at j3;have j3:(R',m')=(R2,mo2):=j3;simp only[fX]at j3;obtain⟨rfl,rfl⟩:=j3
  refine GA ?_
  refine dm [0,1,2,3] ?_;exact bT (k+1,⟨E1,R',M1,m'⟩) ⟨by omega,PB,j2,HJ,i5⟩ J
 ·rw[ir J]at i5
  have i5:(⟨E,R,M,more⟩:FS)=fin:=i5;subst i5
  refine GA ?_
  exact cO I I λw hm=>hm.cC (S:=⟨λ(_:Unit)=>True,λ_=> .bool more,λ_=>[eD n gE cE E,eD n gR cR R,eD n gM cM M]⟩) () trivial [0,1,2] akh I
end bZ
namespace bZ
open Go.RowKit cK dS aU dP
def iT(n g c:Nat)(l:List Nat):b9:=aZ 114 1 (ap (aj ⟨g,0,ak⟩) n c) n (l.map ik)
theorem EQ(n g cap:Nat)(l:List Nat)(i b:Nat)(w:World)(B:bL)(hl:AN n l)(hi:i<n)(hb:b<18446744073709551616)(hm:Mem B [iT n g cap l] w):
 Calls aD 124 #[ap (aj ⟨g,0,ak⟩) n cap,av az (i:Int),ik b] w (da ⟨λ(_:Unit)=>True,λ_=> .bool (oK l i b).2,λ_=>[iT n g cap (oK l i b).1]⟩ B):=by
 obtain⟨rfl,h64⟩:=hl;exact U8 g cap l i b w B hi h64 hb hm
structure Rows4 where
 gE:Nat
 cE:Nat
 gF:Nat
 cF:Nat
 gW:Nat
 cW:Nat
 gM:Nat
 cM:Nat
theorem Qb(E M:List Bool)(p:aU.Prod)(r:List aU.Prod)(F:List Nat)(more:Bool):rY E M (p::r) F more=rY E M r (H3 E M p F more).1 (H3 E M p F more).2:=rfl
theorem Qc(E:List Bool)(F:List Nat)(p:aU.Prod)(r:List aU.Prod)(W:List Nat)(more:Bool):oq E F (p::r) W more=oq E F r (kl E F p.1.toNat p.2 W more).1 (kl E F p.1.toNat p.2 W more).2:=rfl
theorem MB(E:List Bool)(F:List Nat)(h:Nat)(x:dr)(r:List dr)(W:List Nat)(more:Bool):kl E F h (x::r) W more=kl E F h r (jF E F h x r W more).1 (jF E F h x r W more).2:=rfl
def r8(E M:List Bool)(l:List aU.Prod)(F:List Nat):List Nat:=dP.fix (λF=>rY E M l F aE) nS F
def xH(E:List Bool)(F:List Nat)(l:List aU.Prod)(W:List Nat):List Nat:=dP.fix (λW=>oq E F l W aE) nS W
theorem Qd(w0:World)(v:Value)(g:ep)(h:kK (λk=>k<w0.heap.size) w0 v g)(jw:cz g=0)(n:Nat)(hn:g.bC=n)(x:Rows4)(vR:Value)(E:List Bool)(F W:List Nat)(M:List Bool)(hE:E.length=n)(hF:AN n F)(hW:AN n W)(hM:M.length=n)(w:World)(B:bL)(ho:qx w0 B)(hm:Mem B [eD n x.gE x.cE E,iT n x.gF x.cF F,iT n x.gW x.cW W,eD n x.gM x.cM M] w):
 Calls aD 82 #[v,mR (dw n x.gE x.cE) (dw n x.gF x.cF) (dw n x.gW x.cW) vR (dw n x.gM x.cM)] w (da ⟨λ(_:Unit)=>True,λ_=> .tuple #[],λ_=>[eD n x.gE x.cE E,iT n x.gF x.cF (r8 E M g.aF F),iT n x.gW x.cW (xH E (r8 E M g.aF F) g.aF W),eD n x.gM x.cM M]⟩ B):=by
 obtain⟨gE,cE,gF,cF,gW,cW,gM,cM⟩:=x;dsimp only at*;have r9:=zX jw hn;obtain⟨_,_,_,_,hlen,_⟩:=cV jw;obtain⟨vp,rfl,h1,_⟩:=h;obtain⟨bp,cp,rfl,JN,GI,oT⟩:=h1;unfold maxLen at GI;obtain⟨t,nn,aF⟩:=g;dsimp only at*;subst hn;have yO:=P9 (E:=E) (M:=M) r9;refine dB hm (args:=[dM t (n:Int) (ap bp aF.length cp),mR (dw n gE cE) (dw n gF cF) (dw n gW cW) vR (dw n gM cM)]) (n:=80) Tryz.func82 I I I<|bW (bB (bP I I I λg2=>bP I I I λg3=>?_));refine zL ?_
 refine GA ?_
 generalize jX:r8 E M aF F=fin;refine d_ (ι:=List Nat×Bool) (λ(F,more)=>AN n F/\(more=aC->r8 E M aF F=fin)/\(more=aE->F=fin)) (λ(_,more)=>[(2,aJ (aj ⟨g2,0,ak⟩)),(3,aJ (aj ⟨g3,0,ak⟩)),(4,.bool more)])
  (λ(F,_)=>[eD n gE cE E,iT n gF cF F,iT n gW cW W,eD n gM cM M,aP g2 (dM t (n:Int) (ap bp aF.length cp)).cells 33,aP g3 (mR (dw n gE cE) (dw n gF cF) (dw n gW cW) vR (dw n gM cM)).cells 104]) (λ(F,more)=>2*nS F+(if more=aC then 1 else 0)) (F,aC) ⟨hF,λ_=>jX,λh=>by cases h⟩ ?_
 clear hm hF jX;rintro⟨F,more⟩ ⟨i1,i2,i3⟩;dsimp only at i1 i2 i3⊢
 cases more
 ·have i3 :=i3 I
  subst i3;clear i2 yO;have yO:=YX (E:=E) i1 r9
  refine GA ?_
  generalize jX:xH E F aF W=fin;refine d_ (ι:=List Nat×Bool) (λ(W,more)=>AN n W/\(more=aC->xH E F aF W=fin)/\(more=aE->W=fin)) (λ(_,more)=>[(2,aJ (aj ⟨g2,0,ak⟩)),(3,aJ (aj ⟨g3,0,ak⟩)),(7,.bool more)])
   (λ(W,_)=>[eD n gE cE E,iT n gF cF F,iT n gW cW W,eD n gM cM M,aP g2 (dM t (n:Int) (ap bp aF.length cp)).cells 33,aP g3 (mR (dw n gE cE) (dw n gF cF) (dw n gW cW) vR (dw n gM cM)).cells 104]) (λ(W,more)=>2*nS W+(if more=aC then 1 else 0)) (W,aC) ⟨hW,λ_=>jX,λh=>by cases h⟩ ?_
  clear jX hW;clear W;rintro⟨W,more⟩ ⟨j1,j2,j3⟩;dsimp only at j1 j2 j3⊢
  cases more
  ·have j3:=j3 I
   subst j3
   refine GA ?_
   exact jP I λw hm=>hm.cC (S:=⟨λ(_:Unit)=>True,λ_=> .tuple #[],λ_=>[eD n gE cE E,iT n gF cF F,iT n gW cW W,eD n gM cM M]⟩) () trivial [0,1,2,3] akh I
  have j2:=j2 I;clear j3;have hdone:∀W' m',oq E F aF W aE=(W',m')->AN n W'/\(m'=aC->xH E F aF W'=fin)/\(m'=aE->W'=fin)/\2*nS W'+(if m'=aC then 1 else 0)<2*nS W+1:=λW' m' hp=>by
   have hk:=zY (E:=E) i1 aF W aE r9 j1;rw[hp]at hk;dsimp only at hk;refine⟨hk.1,λc=>?_,λc=>?_,?_⟩
   ·rw[<-j2]
    unfold xH;rw[JO yO j1 (by grind),hp]
   ·rw[<-j2]
    unfold xH;rw[zV (by grind),hp]
   grind
  refine GM ?_
  generalize hfp:oq E F aF W aE=fp at*;obtain⟨Wx,mx⟩:=fp;have hdone:=hdone Wx mx I;refine d_ (ι:=Nat×List Nat×Bool) (λ(k,W,m)=>k<=aF.length/\AN n W/\oq E F (aF.drop k) W m=(Wx,mx)) (λ(k,_,m)=>[(2,aJ (aj ⟨g2,0,ak⟩)),(3,aJ (aj ⟨g3,0,ak⟩)),(7,.bool m),(40,ap bp aF.length cp),(41,av az aF.length),(42,av az (k:Int))])
   (λ(_,W,_)=>[eD n gE cE E,iT n gF cF F,iT n gW cW W,eD n gM cM M,aP g2 (dM t (n:Int) (ap bp aF.length cp)).cells 33,aP g3 (mR (dw n gE cE) (dw n gF cF) (dw n gW cW) vR (dw n gM cM)).cells 104]) (λ(k,_,_)=>aF.length-k) (0,W,aE) ⟨bH _,j1,hfp⟩ ?_
  clear hfp j2;rintro⟨k,W',m⟩ ⟨k1,k2,k3⟩;dsimp only at k1 k2 k3⊢
  by_cases c6:k<aF.length
  ·obtain⟨b,off,rfl,_,hr⟩:=oT J
   obtain⟨bb,cb,q1,q2,q3⟩:=ma hr c6;have GJ:=r9.head aF[k] (b_ c6);have WE:=r9.ED aF[k] (b_ c6);have hp3:=r9.non aF[k] (b_ c6);rw[eZ c6,Qc]at k3;have dy:∀(L:List b9) (j:Nat) (v:Value),([av az aF[k].1,.slice bb aF[k].2.length cb]:List Value)[j]?=aj v->At B L ⟨b,off+k*2+j,ak⟩ v:=λL j v hj=>iX ho (q1 j v hj);have tW:=q3.flat akh;clear hr oT q1 q3;generalize aF[k]=p at*;obtain⟨hd,body⟩:=p;dsimp only at*;obtain⟨hn,rfl⟩:∃hn:Nat,hd=hn:=⟨hd.toNat,by omega⟩;rw[dF]at GJ k3;have hsb:∀w' L,Mem B L w'->Sl w' (ap bb body.length cb) body.length (body.flatMap eC):=λw' L hm=>tW.gr (ho.mem hm);obtain⟨bb2,cb2,he,h4,h5,h6⟩:=tW;simp only[kH,true_and]at he;obtain⟨rfl,rfl⟩:=he;unfold maxLen at h5
   repeat(first|refine GA ?_|refine gV (aY bM.eq aK.ty I I c6) ?_|refine gV (bm aK.ty I I (dy _)) ?_)
   clear dy;refine a8 I λg9=>?_;refine ij 6 ?_;refine zL ?_
   refine GM ?_
   refine d_ (ι:=Nat×List Nat×Bool) (λ(j,W,m)=>j<=body.length/\AN n W/\oq E F (aF.drop (k+1)) (kl E F hn (body.drop j) W m).1 (kl E F hn (body.drop j) W m).2=(Wx,mx)) (λ(j,_,m)=>[(2,aJ (aj ⟨g2,0,ak⟩)),(3,aJ (aj ⟨g3,0,ak⟩)),(7,.bool m),(9,aJ (aj ⟨g9,0,ak⟩)),(40,ap (aj ⟨b,off,ak⟩) aF.length cp),(41,av az aF.length),(42,av az (k:Int)),(47,ap bb body.length cb),(48,av az body.length),(49,av az (j:Int))])
    (λ(_,W,_)=>[eD n gE cE E,iT n gF cF F,iT n gW cW W,eD n gM cM M,aP g2 (dM t (n:Int) (ap (aj ⟨b,off,ak⟩) aF.length cp)).cells 33,aP g3 (mR (dw n gE cE) (dw n gF cF) (dw n gW cW) vR (dw n gM cM)).cells 104,aP g9 #[av az (hn:Int),ap bb body.length cb] 140]) (λ(j,_,_)=>body.length-j) (0,W',m) ⟨bH _,k2,k3⟩ ?_
   clear k2 k3;rintro⟨j,W2,m2⟩ ⟨k2,k3,k4⟩;dsimp only at k2 k3 k4⊢
   by_cases c7:j<body.length
   ·obtain⟨b2,Y2,rfl,ul⟩:=h6 J
    have rm:=uT (W:=B) (L:=[eD n gE cE E,iT n gF cF F,iT n gW cW W2,eD n gM cM M,aP g2 (dM t (n:Int) (ap (aj ⟨b,off,ak⟩) aF.length cp)).cells 33,aP g3 (mR (dw n gE cE) (dw n gF cF) (dw n gW cW) vR (dw n gM cM)).cells 104,aP g9 #[av az (hn:Int),ap (aj ⟨b2,Y2,ak⟩) body.length cb] 140]) oo (λq x hq=>iX ho (ul q x hq)) c7;have Y5:=hp3 body[j] (b_ c7);have lf:∀w' L,Mem B L w'->Sl w' (ue (aj ⟨b2,Y2,ak⟩) cb 2 (j+1) body.length) (body.drop (j+1)).length ((body.drop (j+1)).flatMap eC):=λw' L hm=>by
     have:=Ea oo (hsb w' L hm) (i:=j+1) (j:=body.length) J (bz _)
     grind
    have PH:gC E F (body.drop (j+1)) (W2.getD hn 0)<18446744073709551616:=pj i1 (o9 k3 _) λx hx h=>(WE x (yB hx) h).2;have CI:=λw' L (hm:Mem B L w') (hx:Sl w' (dw n gE cE) E.length (E.map .bool)) (hy:Sl w' (dw n gF cF) F.length (F.map ik))=>vJ (dw n gE cE) (dw n gF cF) (dw n gW cW) vR (dw n gM cM) _ E F (body.drop (j+1)) (W2.getD hn 0) w' hx hy (lf w' L hm) (by rw[hE,i1.1]) (λx hx=>⟨λh=>by grind,λh=>by have:=hp3 x (yB hx) h;rw[i1.1];omega⟩) i1.2 (o9 k3 _);rw[hE,i1.1]at CI;have hcW:(W2.map ik)[hn]?=aj (ik (W2.getD hn 0)):=JR (by rw[k3.1];exact GJ.2);rw[eZ c7,MB]at k4;generalize body[j]=x at*;obtain⟨q,mn⟩:=x;dsimp only at Y5;unfold jF at k4;dsimp only at k4;generalize W2.getD hn 0=bh at*;generalize gC E F (body.drop (j+1)) bh=bg at*
    repeat(first|refine GA ?_|refine gV (aY bM.eq aK.ty I I c7) ?_|refine gV (bm aK.ty I I rm) ?_)
    clear rm ul;refine a8 I λg11=>?_;refine zL ?_
    refine GA ?_
    refine ij 7 ?_;refine zL ?_
    by_cases c1:q=2
    ·rw[if_pos c1]at k4
     obtain⟨_,o1,o2⟩:=Y5 J;subst c1;obtain⟨mm,rfl⟩:∃mm:Nat,mn=mm:=⟨mn.toNat,by omega⟩;rw[dF]at k4 o2;have U_:=De (i:=mm) k3 PH;have GU:=λw' B' hm=>EQ n gW cW W2 mm bg w' B' k3 o2 PH hm;generalize oK W2 mm bg=ad at*;obtain⟨W3,ch⟩:=ad;dsimp only at k4 U_ GU
     refine GM ?_
     refine dT ([aP g3 (mR (dw n gE cE) (dw n gF cF) (dw n gW cW) vR (dw n gM cM)).cells 104,aP g9 #[av az (hn:Int),ap (aj ⟨b2,Y2,ak⟩) body.length cb] 140,aP g11 #[av az 2,av az (mm:Int)] 148]) (.calm 0 (.calm 1 (.calm 2 (.calm 3 (.calm 4 (.calm 5 (.calm 6 (.calm 7 (.calm 8 (.calm 9 (.calm 10 (.calm 11 (.calm 12 (.calm 13 (.calm 14 (.one 15 (.one 16 (.one 17 (.calm 18 (.calm 19 (.calm 20 (.calm 21 (.done))))))))))))))))))))))) (bX [5,6,7]) ?_
     repeat(first|(refine GN ?_;first|refine QW QP ?_|refine QW (aB aK.ty I (aH (i:=0) I I)) ?_|refine QW (aB aK.ty I (aH (i:=1) I I)) ?_|refine QW (aB aK.ty I (aH (i:=2) I I)) ?_|refine QW (aO (i:=0) aK.ty I I I) ?_|refine QW (rT (i:=j+1) bM.eq aK.ty I I c7 h4) ?_|refine QW (bU bM.eq aK.ty I I GJ.2) ?_|refine GX ?_)|refine GW ?_)
     refine aL I<|dx (aB aK.ty I (jh (i:=2) I (by grind))) I I I<|aM (bX [5,6,7])<|aL I<|aV (sV aI.en I I I I) (λw hm=>CI _ _ hm (lm (i:=0) I w hm) (lm (i:=1) I w hm)) I I I ?_;intro _ _;refine zL ?_;refine aM (bX [5,6,7])<|aL I<|bx [2] [0,1,3,4,5,6,7] akh I I (sV aI.en I I I I) (λw hm hb=>GU w _ hb) I I I ?_;intro _ _;refine zL ?_;refine aM (bX [4,5,6]) ?_
     cases ch
     ·refine GW ?_
      refine GA ?_
      refine dm [0,1,7,2,3,4,5] ?_;exact bT (j+1,W3,aE||m2) ⟨by omega,U_,k4⟩ J
     refine GW ?_
     refine GA ?_
     refine dm [0,1,7,2,3,4,5] ?_;exact bT (j+1,W3,aC||m2) ⟨by omega,U_,k4⟩ J
    rw[if_neg c1]at k4
    refine GM ?_
    refine dm [0,1,2,3,4,5,6] ?_;exact bT (j+1,W2,m2) ⟨c7,k3,k4⟩ J
   rw[show body.drop j=[]from ir J]at k4
   refine GA ?_
   refine dm [0,1,2,3,4,5] ?_;exact bT (k+1,W2,m2) ⟨by omega,k3,k4⟩ J
  rw[ir J]at k3;have k3:(W',m)=(Wx,mx):=k3;simp only[fX]at k3;obtain⟨rfl,rfl⟩:=k3;obtain⟨d1,d2,d3,d4⟩:=hdone
  refine GA ?_
  exact bT (W',m) ⟨d1,d2,d3⟩ d4
 ·have i2:=i2 I
  clear i3;have hdone:∀F' m',rY E M aF F aE=(F',m')->AN n F'/\(m'=aC->r8 E M aF F'=fin)/\(m'=aE->F'=fin)/\2*nS F'+(if m'=aC then 1 else 0)<2*nS F+1:=λF' m' hp=>by
   have hk:=vD (E:=E) (M:=M) aF F aE r9 i1;rw[hp]at hk;dsimp only at hk;refine⟨hk.1,λc=>?_,λc=>?_,?_⟩
   ·rw[<-i2]
    unfold r8;rw[JO yO i1 (by grind),hp]
   ·rw[<-i2]
    unfold r8;rw[zV (by grind),hp]
   grind
  refine GM ?_
  generalize hfp:rY E M aF F aE=fp at*;obtain⟨Fx,mx⟩:=fp;have hdone:=hdone Fx mx I;refine d_ (ι:=Nat×List Nat×Bool) (λ(k,F,m)=>k<=aF.length/\AN n F/\rY E M (aF.drop k) F m=(Fx,mx)) (λ(k,_,m)=>[(2,aJ (aj ⟨g2,0,ak⟩)),(3,aJ (aj ⟨g3,0,ak⟩)),(4,.bool m),(14,ap bp aF.length cp),(15,av az aF.length),(16,av az (k:Int))])
   (λ(_,F,_)=>[eD n gE cE E,iT n gF cF F,iT n gW cW W,eD n gM cM M,aP g2 (dM t (n:Int) (ap bp aF.length cp)).cells 33,aP g3 (mR (dw n gE cE) (dw n gF cF) (dw n gW cW) vR (dw n gM cM)).cells 104]) (λ(k,_,_)=>aF.length-k) (0,F,aE) ⟨bH _,i1,hfp⟩ ?_
  clear hfp i2;rintro⟨k,F',m⟩ ⟨j1,j2,j3⟩;dsimp only at j1 j2 j3⊢
  by_cases c6:k<aF.length
  ·obtain⟨b,off,rfl,_,hr⟩:=oT J
   obtain⟨bb,cb,q1,q2,q3⟩:=ma hr c6;have GJ:=r9.head aF[k] (b_ c6);have WE:=r9.ED aF[k] (b_ c6);have hp3:=r9.non aF[k] (b_ c6);rw[eZ c6,Qb]at j3;have dy:∀(L:List b9) (j:Nat) (v:Value),([av az aF[k].1,.slice bb aF[k].2.length cb]:List Value)[j]?=aj v->At B L ⟨b,off+k*2+j,ak⟩ v:=λL j v hj=>iX ho (q1 j v hj);have tW:=q3.flat akh;clear hr oT q1 q3;generalize aF[k]=p at*;obtain⟨hd,body⟩:=p;dsimp only at*;obtain⟨hn,rfl⟩:∃hn:Nat,hd=hn:=⟨hd.toNat,by omega⟩;rw[dF]at GJ;have hsb:∀w' L,Mem B L w'->Sl w' (ap bb body.length cb) body.length (body.flatMap eC):=λw' L hm=>tW.gr (ho.mem hm);have qz:=λw' L (hm:Mem B L w') (hx:Sl w' (dw n gM cM) M.length (M.map .bool))=>yN (dw n gM cM) (ap bb body.length cb) M body aC w' hx (hsb w' L hm) (λx hx fO=>by grind);rw[hM]at qz;have CI:=λw' L (hm:Mem B L w') (hx:Sl w' (dw n gE cE) E.length (E.map .bool)) (hy:Sl w' (dw n gF cF) F'.length (F'.map ik))=>vJ (dw n gE cE) (dw n gF cF) (dw n gW cW) vR (dw n gM cM) (ap bb body.length cb) E F' body 0 w' hx hy (hsb w' L hm) (by rw[hE,j2.1]) (λx hx=>⟨λh=>by grind,λh=>by have:=hp3 x hx h;rw[j2.1];omega⟩) j2.2 akh;rw[hE,j2.1]at CI;unfold H3 at j3;dsimp only at j3;rw[dF]at j3;generalize pR M body aC=a1 at*;have PH:gC E F' body 0<18446744073709551616:=pj j2 akh λx hx h=>(WE x hx h).2;generalize gC E F' body 0=bg at*
   repeat(first|refine GA ?_|refine gV (aY bM.eq aK.ty I I c6) ?_|refine gV (bm aK.ty I I (dy _)) ?_)
   clear dy;refine a8 I λg6=>?_;refine ij 6 ?_;refine zL ?_
   refine GM ?_
   refine aV (sV aI.en I I I I) (λw hm=>qz _ _ hm (lm (i:=3) I w hm)) I I I ?_;intro _ _;refine zL ?_
   cases a1
   ·rw[if_neg akh]at j3
    refine GA ?_
    refine dm [0,1,2,3,4,5] ?_;exact bT (k+1,F',m) ⟨by omega,j2,j3⟩ J
   rw[if_pos I]at j3;have U_:=De (i:=hn) j2 PH;have GU:=λw' B' hm=>EQ n gF cF F' hn bg w' B' j2 GJ.2 PH hm;generalize oK F' hn bg=ad at*;obtain⟨F2,ch⟩:=ad;dsimp only at*
   refine GA ?_
   refine dT ([aP g3 (mR (dw n gE cE) (dw n gF cF) (dw n gW cW) vR (dw n gM cM)).cells 104,aP g6 #[av az (hn:Int),ap bb body.length cb] 140]) (.calm 0 (.calm 1 (.calm 2 (.calm 3 (.calm 4 (.calm 5 (.calm 6 (.one 7 (.one 8 (.calm 9 (.calm 10 (.calm 11 (.calm 12 (.done)))))))))))))) (bX [5,6]) ?_
   repeat(first|refine GW ?_|(refine GN ?_;first|refine QW (aB aK.ty I (aH (i:=0) I I)) ?_|refine QW (aB aK.ty I (aH (i:=1) I I)) ?_|refine QW (aO (i:=0) aK.ty I I I) ?_))
   refine aL I<|aV (sV aI.en I I I I) (λw hm=>CI _ _ hm (lm (i:=0) I w hm) (lm (i:=1) I w hm)) I I I ?_;intro _ _;refine zL ?_;refine aM (bX [5,6])<|aL I<|bx [1] [0,2,3,4,5,6] akh I I (sV aI.en I I I I) (λw hm hb=>GU w _ hb) I I I ?_;intro _ _;refine zL ?_;refine aM (bX [4,5]) ?_
   cases ch
   ·refine GW ?_
    refine GA ?_
    refine dm [0,6,1,2,3,4] ?_;exact bT (k+1,F2,aE||m) ⟨by omega,U_,j3⟩ J
   refine GW ?_
   refine GA ?_
   refine dm [0,6,1,2,3,4] ?_;exact bT (k+1,F2,aC||m) ⟨by omega,U_,j3⟩ J
  rw[ir J]at j3;have j3:(F',m)=(Fx,mx):=j3;simp only[fX]at j3;obtain⟨rfl,rfl⟩:=j3;obtain⟨d1,d2,d3,d4⟩:=hdone
  refine GA ?_
  exact bT (F',m) ⟨d1,d2,d3⟩ d4
end bZ
namespace bZ
open Go.RowKit cK dS aU dP
def xw(n:Nat)(l:List aU.Prod):FS:=dP.fix (Mr l) (B8 n) ⟨cL n aE,(cL n aE).set 0 aC,cL n aE,aE⟩
def OQ(n:Nat)(l:List aU.Prod):List Nat:=r8 (xw n l).E (xw n l).M l (cL n 0)
def OR(n:Nat)(l:List aU.Prod):List Nat:=xH (xw n l).E (OQ n l) l ((cL n 0).set 0 9223372036854775808)
structure ER extends Rows4 where
 gR:Nat
 cR:Nat
def ER.val(n:Nat)(x:ER):Value:=mR (dw n x.gE x.cE) (dw n x.gF x.cF) (dw n x.gW x.cW) (dw n x.gR x.cR) (dw n x.gM x.cM)
theorem H6(a b c d e:Option Addr)(n1 n2 n3 n4 n5 c1 c2 c3 c4 c5:Nat)(w:World):(df 104 #[(0,ap a n1 c1),(1,ap b n2 c2),(2,ap c n3 c3),(3,ap d n4 c4),(4,ap e n5 c5)]).run aD w= .ok (aQ #[ap a n1 c1,ap b n2 c2,ap c n3 c3,ap d n4 c4,ap e n5 c5]) w:=by
 go_simp
def Y6(i d n:Nat):Mk:=⟨i,d,λg=>ap (aj ⟨g,0,ak⟩) n n,λg=>aP g (madeCells #[.bool aE] (n*1)) 4⟩
def mkN(i d n:Nat):Mk:=⟨i,d,λg=>ap (aj ⟨g,0,ak⟩) n n,λg=>aP g (madeCells #[.int .u64 0] (n*1)) 114⟩
def mkF(i d:Nat):Mk:=⟨i,d,λg=>aJ (aj ⟨g,0,ak⟩),λg=>aP g #[ap ak 0 0,ap ak 0 0,ap ak 0 0,ap ak 0 0,ap ak 0 0] 104⟩
theorem r_{P:Program}{k:Nat}{W:bL}{Q:Exit->Act->World->Prop}{fr:Fr}{L:List b9}{c:Code}{i g m:Nat}{e:TypeId}{z:Value}(hi:L[i]?=aj (aP g (madeCells #[z] (m*1)) e))(hm:m<=9223372036854775807)(h:T P k W c Q fr (L.set i (aZ e 1 (ap (aj ⟨g,0,ak⟩) m m) m (cL m z)))):T P k W c Q fr L:=
 X7 1 hi (by rw[size_madeCells]) (bz _) hm (by
  have:(madeCells #[z] (m*1)).toList.take (m*1)=cL m z:=by
   rw[ad7,Nat.mul_one,List.take_of_length_le (by simp)]
  rw[this];exact h)
theorem ES(v:Value)(g:ep)(w:World)(h:kK (λk=>k<w.heap.size) w v g)(jw:cz g=0)(n:Nat)(hn:g.bC=n):
 Calls aD 42 #[v] w (da ⟨λ(_:ER)=>True,λx=> .tuple #[x.val n,av az 0],λx=>[eD n x.gE x.cE (xw n g.aF).E,iT n x.gF x.cF (OQ n g.aF),iT n x.gW x.cW (OR n g.aF),eD n x.gR x.cR (xw n g.aF).R,eD n x.gM x.cM (xw n g.aF).M]⟩ w):=by
 obtain⟨n1,n2,_,_,hlen,_⟩:=cV jw;have hcc:=λw' L (hm:Mem w L w')=>kj v g w' (h.gr ((qx.self w).mem hm));rw[jw]at hcc;have h0:=h;obtain⟨vp,rfl,h1,_⟩:=h;obtain⟨bp,cp,rfl,JN,GI,oT⟩:=h1;unfold maxLen at GI;obtain⟨t,nn,aF⟩:=g;dsimp only at*;subst hn;refine enter (args:=[dM t (n:Int) (ap bp aF.length cp)]) (n:=39) Tryz.func42 I I I ?_;refine bW (bB (bP I I I λg1=>a8 I λg2=>?_));refine zL ?_
 repeat(first|refine GA ?_|refine gV (aO (i:=0) aK.ty I I I) ?_)
 refine aV (i_ aI.en I I) (λw hm=>hcc _ _ hm) I I I ?_;intro _ _;refine zL ?_
 repeat(first|refine GA ?_|refine gV (aB aK.ty I (aH (i:=0) I I)) ?_)
 refine lU (ι:=Nat×Nat×Nat×Nat×Nat×Nat) (λ_=>True) (λ(_,_,_,_,_,g6)=>[(1,aJ (aj ⟨g1,0,ak⟩)),(2,aJ (aj ⟨g2,0,ak⟩)),(6,aJ (aj ⟨g6,0,ak⟩))])
  (λ(gE,gF,gW,gR,gM,g6)=>[aP g1 (dM t (n:Int) (ap bp aF.length cp)).cells 33,aP g2 #[ap ak 0 0,ap ak 0 0,ap ak 0 0,ap ak 0 0,ap ak 0 0] 104,aP gE (madeCells #[.bool aE] (n*1)) 4,aP gF (madeCells #[.int .u64 0] (n*1)) 114,aP gW (madeCells #[.int .u64 0] (n*1)) 114,aP gR (madeCells #[.bool aE] (n*1)) 4,aP gM (madeCells #[.bool aE] (n*1)) 4,aP g6 (mR (dw n gE n) (dw n gF n) (dw n gW n) (dw n gR n) (dw n gM n)).cells 104]) ?_ ?_
 rotate_left
 ·rintro⟨gE,gF,gW,gR,gM,g6⟩ _
  dsimp only;refine r_ (i:=2) I J ?_;refine r_ (i:=3) I J ?_;refine r_ (i:=4) I J ?_;refine r_ (i:=5) I J ?_;refine r_ (i:=6) I J ?_
  conv=>arg 7;simp only[DL,ye]
  rw[show cL n (fT aE)=(cL n aE).map .bool by simp,show cL n (av .u64 0)=(cL n 0).map ik by simp[ik]];have hn0:0<n:=by omega
  repeat(first|refine GA ?_|refine gV (aB aK.ty I (aH (i:=7) I I)) ?_|refine gV (bU (j:=0) bM.eq aK.ty I I hn0) ?_)
  refine mH (i:=5) aK.ty I I I I I I (by simpa using hn0) ?_
  repeat(first|refine GA ?_|refine gV (aB aK.ty I (aH (i:=7) I I)) ?_|refine gV (bU (j:=0) bM.eq aK.ty I I hn0) ?_)
  refine mH (i:=4) aK.ty I I I I I I (by simpa using hn0) ?_
  conv=>arg 8;simp only[DL,ye,cX]
  try refine GA ?_
  generalize jX:xw n aF=fin;have r9:=zX (g:=⟨t,n,aF⟩) jw I;have yO:=EM r9;refine mq (ι:=FS) (λs=>YY n s/\dP.fix (Mr aF) (B8 n) s=fin) (λ_=>[(1,aJ (aj ⟨g1,0,ak⟩)),(2,aJ (aj ⟨g2,0,ak⟩)),(6,aJ (aj ⟨g6,0,ak⟩))])
   (λs=>[aP g1 (dM t (n:Int) (ap bp aF.length cp)).cells 33,aP g2 #[ap ak 0 0,ap ak 0 0,ap ak 0 0,ap ak 0 0,ap ak 0 0] 104,eD n gE n s.E,iT n gF n (cL n 0),iT n gW n ((cL n 0).set 0 9223372036854775808),eD n gR n s.R,eD n gM n s.M,aP g6 (mR (dw n gE n) (dw n gF n) (dw n gW n) (dw n gR n) (dw n gM n)).cells 104])
   (λs=>B8 n s) ⟨cL n aE,(cL n aE).set 0 aC,cL n aE,aE⟩ ⟨⟨by simp,by simp,by simp⟩,jX⟩ (by repeat' (first|exact cT|refine cJ I ?_)) (by simp[eD,iT,ik,tb]) ?_
  rintro⟨E,R,M,mo⟩ ⟨i1,i2⟩;dsimp only at i2⊢;have eP:=λw' B' (ho:qx w B') hm=>MA w _ ⟨t,n,aF⟩ h0 jw n I ⟨gE,n,gR,n,gM,n⟩ (dw n gF n) (dw n gW n) E R M i1.1 i1.2.1 i1.2.2 w' B' ho hm;dsimp only at eP
  repeat(first|refine GA ?_|refine gV (aO (i:=0) aK.ty I I I) ?_|refine gV (aO (i:=7) aK.ty I I I) ?_)
  refine bx [2,5,6] [0,1,3,4,7] akh I I (fB aI.en I I I) (λw' hm hb=>eP w' _ ((qx.self w).on hm (by intro o ho;simp at ho⊢;rcases ho with h|h|h<;>simp[h])) hb) I I I ?_;intro _ _;refine zL ?_;clear eP;have hk:=qU aF ⟨E,R,M,aE⟩ r9 i1;have hgo:(ie aF ⟨E,R,M,aE⟩).more=aC->dP.fix (Mr aF) (B8 n) (ie aF ⟨E,R,M,aE⟩)=fin/\B8 n (ie aF ⟨E,R,M,aE⟩)<B8 n ⟨E,R,M,mo⟩:=λc=>⟨by rw[<-i2,JO yO i1 c];rfl,yO.dec _ i1 c⟩;have hst:(ie aF ⟨E,R,M,aE⟩).more=aE->ie aF ⟨E,R,M,aE⟩=fin:=λc=>by rw[<-i2,zV (s:=(⟨E,R,M,mo⟩:FS)) c];rfl
  generalize ie aF ⟨E,R,M,aE⟩=r at*;obtain⟨E',R',M',m'⟩:=r;dsimp only at hgo hst⊢
  cases m'
  ·have hst:=hst I
   have ael:=λw' B' (ho:qx w B') hm=>Qd w _ ⟨t,n,aF⟩ h0 jw n I ⟨gE,n,gF,n,gW,n,gM,n⟩ (dw n gR n) E' (cL n 0) ((cL n 0).set 0 9223372036854775808) M' hk.1.1 ⟨by simp,λx hx=>by rw[PT hx];decide⟩ ⟨by simp,λx hx=>by
    rcases PR hx with h|h
    rw[PT h];decide;rw[h];decide⟩ hk.1.2.2 w' B' ho hm
   dsimp only at ael
   repeat(first|refine GA ?_|refine gV (aO (i:=0) aK.ty I I I) ?_|refine gV (aO (i:=4) aK.ty I I I) ?_)
   refine bx [5,2,3,7] [0,1,6,4] akh I I (fB aI.en I I I) (λw' hm hb=>ael w' _ ((qx.self w).on hm (by intro o ho;simp at ho⊢;rcases ho with h|h|h|h<;>simp[h])) hb) I I I ?_;intro _ _;refine zL ?_
   repeat(first|refine GA ?_|refine gV (aO (i:=3) aK.ty I I I) ?_)
   refine ij 1 ?_;refine zL ?_
   try refine GA ?_
   subst hst;have eF:OQ n aF=r8 E' M' aF (cL n 0):=by unfold OQ;rw[jX]
   have eW:OR n aF=xH E' (r8 E' M' aF (cL n 0)) aF ((cL n 0).set 0 9223372036854775808):=by unfold OR;rw[eF,jX]
   rw[eF,eW];refine eJ (i:=1) I I I I (z:=av az 0) ?_ λw' hm=>?_;rfl;exact hm.cC (S:=⟨λ(_:ER)=>True,λx=> .tuple #[x.val n,av az 0],λx=>[eD n x.gE x.cE E',iT n x.gF x.cF (r8 E' M' aF (cL n 0)),iT n x.gW x.cW (xH E' (r8 E' M' aF (cL n 0)) aF ((cL n 0).set 0 9223372036854775808)),eD n x.gR x.cR R',eD n x.gM x.cM M']⟩) ⟨⟨gE,n,gF,n,gW,n,gM,n⟩,gR,n⟩ trivial [4,5,6,2,7] akh I
  try refine GA ?_
  refine dm [0,1,5,2,3,6,7,4] ?_;exact bT ⟨E',R',M',aC⟩ ⟨hk.1,(hgo I).1⟩ (hgo I).2
 refine Yj [] w4 (by kernel_rfl) (by kernel_rfl) (by intro c a d v w h;cases d<;>exact h) ?_;refine rf 0 (by kernel_rfl) I (wW I) I I I ?_;refine rf 2 (by kernel_rfl) I (wW I) I I I ?_;refine rf 4 (by kernel_rfl) I (wW I) I I I ?_;refine rf 6 (by kernel_rfl) I (wW I) I I I ?_;refine rf 8 (by kernel_rfl) I (wW I) I I I ?_;refine L_ [Y6 1 16 n,mkN 3 18 n,mkN 5 20 n,Y6 7 22 n,Y6 9 24 n,mkF 11 6] (λm=>!Nat.beq m.i 11) 2 (by kernel_rfl) (by kernel_rfl) ?_ (λq=>?_) λq=>?_
 ·intro m hm
  simp only[dC,fH,or_false]at hm;rcases hm with rfl|rfl|rfl|rfl|rfl|rfl
  exact oh I I I (bz _) J J I;exact oh I I I (bz _) J J I;exact oh I I I (bz _) J J I;exact oh I I I (bz _) J J I;exact oh I I I (bz _) J J I;exact HQ I I
 ·simp only[Y6,mkN,mkF,gv,q_]
  generalize q 1=gE;generalize q 3=gF;generalize q 5=gW;generalize q 7=gR;generalize q 9=gM;generalize q 11=g6;clear q;refine Dc (.calm 10 (.one 12 .done)) (by kernel_rfl) I ?_
  repeat(first|refine GW ?_|(refine GN ?_;first|refine QW (bD I (H6 _ _ _ _ _ _ _ _ _ _ _ _ _ _ _)) ?_))
  refine aL I ?_;refine ij 7 ?_;refine aM w4 ?_
  try refine GW ?_
  exact ee (gE,gF,gW,gR,gM,g6) trivial (by repeat' (first|exact cT|refine cJ I ?_)) I
 ·rw[show List.filter (λm:Mk=>!Nat.beq m.i 11) [Y6 1 16 n,mkN 3 18 n,mkN 5 20 n,Y6 7 22 n,Y6 9 24 n,mkF 11 6]=[Y6 1 16 n,mkN 3 18 n,mkN 5 20 n,Y6 7 22 n,Y6 9 24 n]from I]
  simp only[Y6,mkN,mkF,gv,q_];generalize q 1=gE;generalize q 3=gF;generalize q 5=gW;generalize q 7=gR;generalize q 9=gM;clear q;refine Dc (.calm 10 (.one 11 (.one 12 .done))) (by kernel_rfl) (by kernel_rfl) ?_
  repeat(first|refine GW ?_|(refine GN ?_;first|refine QW (bD I (H6 _ _ _ _ _ _ _ _ _ _ _ _ _ _ _)) ?_))
  refine aL I ?_;refine a8 I λg6=>?_;refine aM w4 ?_;refine aL I ?_;refine ij 7 ?_;refine aM w4 ?_
  try refine GW ?_
  exact ee (gE,gF,gW,gR,gM,g6) trivial (by repeat' (first|exact cT|refine cJ I ?_)) I
end bZ
namespace bZ
open Go.RowKit cK dS aU dL dP f_
theorem Va{x y:Nat}(hx:x<18446744073709551616)(hy:y<18446744073709551616):bits .and .u64 (x:Int) (y:Int)=((x&&&y:Nat):Int):=bits_and_u64_nat x y hx hy
theorem ET{L:List b9}{R:List Nat}{o:b9}(h:o∈R.filterMap λi=>L[i]?):o∈L:=by
 obtain⟨i,_,hi⟩:=List.mem_filterMap.1 h;exact mh hi
end bZ
namespace bZ
open Go.RowKit cK dS aU
theorem Qf(h:Int)(b:Option Addr)(m c:Nat)(w:World):(df 140 #[(0,av az h),(1,ap b m c)]).run aD w= .ok (aQ #[av az h,ap b m c]) w:=by
 go_simp
def oL(F:Nat->Prop)(vp:Value)(l:List aU.Prod):b9:=GR (bO oR) F [vp] l
theorem B_{w:World}{hd:Int}{vb:Value}{body:List dr}(lT:cK.dU hd)(hp:∀x∈body,YN x)(h:(aZ 148 2 vb body.length (body.flatMap eC)).holds w):oR.is (λk=>vb.ownBlock=aj k) w [av az hd,vb] (hd,body):=
 ⟨[av az hd],[vb],rfl,⟨rfl,lT⟩,vb,rfl,ky.of_flat (Sl.dD h) hp (λ_ h=>h) (λa n cp hv=>by rw[hv];rfl)⟩
end bZ
namespace bZ
open Go.RowKit cK dS aU
theorem ack{α:Type}{s:w8 α}{F:Nat->Prop}{w:World}{v:Value}{l:List α}(h:ky s F w v l):v.oneCell'=true:=by
 obtain⟨b,c,rfl,_⟩:=h;rfl
theorem H7(k q:Int)(w:World):(df 148 #[(0,av az k),(1,av az q)]).run aD w= .ok (aQ #[av az k,av az q]) w:=by
 go_simp
theorem ok2:cK.dU 2:=⟨by decide,by decide⟩
end bZ
namespace bZ
open Go.RowKit cK dS aU
theorem CN(v:Value)(l:List dr)(w:World)(hs:Sl w v l.length (l.flatMap eC))(hl:l.length*16<=140737488355328):
 Calls aD 99 #[v] w (bY (cI 148 2 l.length (l.flatMap eC) id) w):=by
 obtain⟨base,cap,rfl,lW,jS,eP⟩:=hs;unfold maxLen at jS;refine enter (args:=[ap base l.length cap]) (n:=8) Tryz.func99 I I I ?_;have sa:∀w',Gr w w'->Sl w' (ap base l.length cap) l.length (l.flatMap eC):=λw' hg=>Sl.gr ⟨base,cap,rfl,lW,jS,eP⟩ hg;clear eP
 cases base with
 | none=>
  repeat(first|refine GC ?_|refine gV (kx bM.eq I I I) ?_|refine GB ?_)
  have h0:l=[]:=by
   cases l with
   |nil=>rfl
   |cons x l=>obtain⟨_,_,h,_,_,h2⟩:=sa w (Gr.refl w);simp only[kH]at h;obtain⟨rfl,_⟩:=h;obtain⟨b,off,h,_⟩:=h2 (by simp);cases h
  subst h0;refine dN 148 2 ?_;exact cO I I λw hm=>hm.meets (S:=cI 148 2 0 [] id) _ trivial [0] akh I
 |some p=>
  repeat(first|refine GC ?_|refine gV (kx bM.eq I I I) ?_|refine GB ?_)
  refine w6 I λg=>?_
  try refine GA ?_
  refine eM (i:=0) I (λw' hm=>sa w' hm.below) I I (lV oo l) (ab_ l) J J I λv'=>?_;rw[eI]
  try refine GA ?_
  refine cO I I λw hm=>?_;exact hm.meets (S:=cI 148 2 l.length (l.flatMap eC) id) v' trivial [0] akh (by simp[cI])
end bZ
namespace bZ
open Go.RowKit cK dS aU dP
section
variable{P:Program}{n:Nat}{W:bL}{fr:Fr}{L:List b9}{dst:Option Tmp}{ty:TypeId}{pos:String}{after:Array Edge}{guard:Option (Nat×Bool)}{t u:TypeId}{x y:Operand}{k:IntKind}{m m' r:Int}
theorem S7(hx:ev fr x=aj (.int k m))(hy:ev fr y=aj (.int k m'))(h:bits .andNot k m m'=r):RR P n W ⟨dst,.binOp .andNot t x y u,ty,pos,after,guard⟩ fr L (.int k r):=Jm (.inr (.inr (.inr I))) hx hy h
end
theorem EU{ι:Type}{S:Spec ι}{w w':World}{e:Ending}(h:da S w e w'):bY S w e w':=let ⟨x,h1,h2,h3⟩:=h;⟨x,h1,h2,h3.below,h3.ad'⟩
theorem Qg(w:World):(df 104 (#[]:Array (Nat×Value))).run aD w= .ok (aQ #[ap ak 0 0,ap ak 0 0,ap ak 0 0,ap ak 0 0,ap ak 0 0]) w:=by
 go_simp
theorem Vb(v:Value)(g:ep)(w:World)(h:kK (λk=>k<w.heap.size) w v g)(h0:cz g≠0):
 Calls aD 42 #[v] w (bY (ret (.tuple #[mR (ap ak 0 0) (ap ak 0 0) (ap ak 0 0) (ap ak 0 0) (ap ak 0 0),av az (cz g)])) w):=by
 have jw:=λw' (hg:Gr w w')=>kj v g w' (h.gr hg);obtain⟨vp,rfl,h1,_⟩:=h;obtain⟨bp,cp,rfl,JN,GI,oT⟩:=h1;generalize cz g=e at*;obtain⟨t,n,aF⟩:=g;dsimp only at*;refine enter (args:=[dM t n (ap bp aF.length cp)]) (n:=39) Tryz.func42 I I I ?_;refine bW (bB (bP I I I λg1=>a8 I λg2=>?_))
 repeat(first|refine GA ?_|refine gV (aO (i:=0) aK.ty I I I) ?_)
 refine aV (i_ aI.en I I) (λw hm=>jw _ hm.below) I I I ?_;intro _ _;refine zL ?_
 repeat(first|refine GA ?_|refine gV (bD I Qg) ?_)
 refine ij 1 ?_
 try refine GA ?_
 exact eJ (i:=1) I I I I I λw hm=>hm.ret
end bZ
namespace bZ
open Go.RowKit cK dS aU dP
def GV(t n:Int):List dr->Int
 |[]=>0
 |x::r=>if right t n x=aC then GV t n r else 1
theorem JT{t n:Int}:∀{l:List dr},GV t n l=0->∀x∈l,right t n x=aC
 |[],_,_,h=>by cases h
 | y ::r,h,x,hx=>by
  unfold GV at h;split at h
  ·rename_i c
   rcases dC.1 hx with rfl|hx
   exact c;exact JT h x hx
  cases h
theorem JU{t n:Int}:∀{l:List dr},(∀x∈l,right t n x=aC)->GV t n l=0
 |[],_=>rfl
 |y::r,h=>by unfold GV;rw[if_pos (h y (by simp))];exact JU λx hx=>h x (by simp[hx])
def vP(g:ep)(body:List dr):Int:=if cz g≠0 then cz g else if 60<body.length then 1 else GV g.aT g.bC body
def CO(g:ep)(body:List dr)(behind:Nat):Nat:=if vP g body=0 then gC (xw g.bC.toNat g.aF).E (OQ g.bC.toNat g.aF) body behind else 0
theorem MC{t n:Int}{x:dr}(h:right t n x=aE):(x.1≠1/\x.1≠2)\/(x.1=1/\x.2<0)\/(x.1=1/\0<=x.2/\t<=x.2)\/(x.1=2/\x.2<0)\/(x.1=2/\0<=x.2/\n<=x.2):=by
 unfold right at h;split at h;simp at h;omega;split at h;simp at h;omega;omega
theorem vU{t n:Int}{x:dr}(h:right t n x=aC):(x.1=1/\0<=x.2/\x.2<t)\/(x.1=2/\0<=x.2/\x.2<n):=by
 unfold right at h;split at h;simp at h;omega;split at h;simp at h;omega;simp at h
theorem JV{g:ep}{n:Nat}(jw:cz g=0)(hn:g.bC=n):YY n (xw n g.aF)/\AN n (OQ n g.aF):=by
 have hf:=zX jw hn
 constructor
 ·obtain⟨s',h1,h2,h3⟩:=zW (EM hf) _ ⟨cL n aE,(cL n aE).set 0 aC,cL n aE,aE⟩ ⟨by simp,by simp,by simp⟩ (bz _)
  unfold xw;rw[h3];exact(EM hf).keep _ h1
 obtain⟨s',h1,h2,h3⟩:=zW (P9 (E:=(xw n g.aF).E) (M:=(xw n g.aF).M) hf) _ (cL n 0) ⟨by simp,λx hx=>by rw[PT hx];decide⟩ (bz _);unfold OQ r8;rw[h3];exact(P9 hf).keep _ h1
theorem sb(v vb:Value)(g:ep)(body:List dr)(behind:Nat)(w:World)(h:kK (λk=>k<w.heap.size) w v g)(hs:Sl w vb body.length (body.flatMap eC))(hb:behind<18446744073709551616):
 Calls aD 84 #[v,vb,ik behind] w (bY (ret (.tuple #[ik (CO g body behind),av az (vP g body)])) w):=by
 by_cases c0:cz g=0
 ·obtain⟨_,_,k1,k2,k3,k4⟩:=cV c0
  obtain⟨n,hn⟩:∃n:Nat,g.bC=n:=⟨g.bC.toNat,by omega⟩;have Vc:=λw' (hg:Gr w w')=>ES v g w' (h.gr hg) c0 n hn;obtain⟨hS,hF⟩:=JV c0 hn;obtain⟨vp,rfl,h1,_⟩:=h;obtain⟨bp,cp,rfl,JN,GI,oT⟩:=h1;clear oT;have Py:=hs;obtain⟨bb,cb,rfl,h4,h5,h6⟩:=hs;unfold maxLen at h5;obtain⟨t,nn,aF⟩:=g;dsimp only at*;subst hn;have CI:=λ(vE vF vL vR vM:Value) w' (hg:Gr w w') (hE:Sl w' vE n ((xw n aF).E.map .bool)) (hF2:Sl w' vF n ((OQ n aF).map ik)) lT=>vJ vE vF vL vR vM _ (xw n aF).E (OQ n aF) body behind w' (by rw[hS.1];exact hE) (by rw[hF.1];exact hF2) (Py.gr hg) (by rw[hS.1,hF.1]) lT hF.2 hb;rw[hF.1]at CI;have hV:CO ⟨t,n,aF⟩ body behind=if vP ⟨t,n,aF⟩ body=0 then gC (xw n aF).E (OQ n aF) body behind else 0:=rfl
  have hE:vP ⟨t,n,aF⟩ body=if 60<body.length then 1 else GV t n body:=by
   unfold vP;rw[if_neg (by rw[c0];simp)]
  generalize CO ⟨t,n,aF⟩ body behind=rV at*;generalize vP ⟨t,n,aF⟩ body=rE at*;refine enter (args:=[dM t (n:Int) (ap bp aF.length cp),ap bb body.length cb,ik behind]) (n:=71) Tryz.func84 I I I ?_;refine bW (bB (bP I I I λg3=>?_))
  repeat(first|refine GA ?_|refine gV (aO (i:=0) aK.ty I I I) ?_)
  refine aV (i_ aI.en I I) (λw' hm=>(Vc w' hm.below).mono λe w2 h=>EU h) I I I ?_;intro x _
  conv=>arg 8;simp only[zJ,cI,ret,id_eq,ER.val]
  try refine GA ?_
  refine a8 I λg8=>?_;refine ij 6 ?_;refine zL ?_
  by_cases c1:60<body.length
  ·rw[if_pos c1]at hE
   subst hE;rw[if_neg akh]at hV;subst hV
   try refine GA ?_
   exact sS I I I λw hm=>hm.ret
  rw[if_neg c1]at hE
  try refine GA ?_
  refine d_ (ι:=Nat) (λk=>k<=body.length/\rE=GV t n (body.drop k)) (λk=>[(1,ap bb body.length cb),(2,ik behind),(3,aJ (aj ⟨g3,0,ak⟩)),(8,aJ (aj ⟨g8,0,ak⟩)),(23,ap bb body.length cb),(24,av az body.length),(25,av az (k:Int))])
   (λ_=>[aP g3 (dM t (n:Int) (ap bp aF.length cp)).cells 33,eD n x.gE x.cE (xw n aF).E,iT n x.gF x.cF (OQ n aF),iT n x.gW x.cW (OR n aF),eD n x.gR x.cR (xw n aF).R,eD n x.gM x.cM (xw n aF).M,aP g8 (mR (dw n x.gE x.cE) (dw n x.gF x.cF) (dw n x.gW x.cW) (dw n x.gR x.cR) (dw n x.gM x.cM)).cells 104]) (λk=>body.length-k) 0 ⟨bH _,hE⟩ ?_
  rintro k ⟨i1,i2⟩
  by_cases c6:k<body.length
  ·obtain⟨b,off,rfl,hr⟩:=h6 J
   have dy:=λL=>ib (L:=L) oo hr c6;rw[eZ c6,GV]at i2;clear h6 hr Py CI;generalize body[k]=y at*
   cases r:right t n y
   ·rw[if_neg (by rw[r];decide)]at i2
    clear hE;subst i2;rw[if_neg akh]at hV;subst hV;have r':=MC r;obtain⟨q,m⟩:=y;dsimp only at r';rcases r' with r'|r'|r'|r'|r'
    all_goals
     repeat(first|refine GA ?_|refine gV (aY bM.eq aK.ty I I c6) ?_|refine gV (bm aK.ty I I (dy _)) ?_)
     refine a8 I λg11=>?_;refine ij 7 ?_;refine zL ?_
     repeat(first|refine GA ?_|refine gV (aB aK.ty I (aH (i:=7) I I)) ?_|refine gV (aB aK.ty I (aH (i:=0) I I)) ?_)
     exact sS I I I λw hm=>hm.ret
   rw[if_pos r]at i2;have r':=vU r;obtain⟨q,m⟩:=y;dsimp only at r';rcases r' with r'|r'
   all_goals
    repeat(first|refine GA ?_|refine gV (aY bM.eq aK.ty I I c6) ?_|refine gV (bm aK.ty I I (dy _)) ?_)
    refine a8 I λg11=>?_;refine ij 7 ?_;refine zL ?_
    repeat(first|refine GA ?_|refine gV (aB aK.ty I (aH (i:=7) I I)) ?_|refine gV (aB aK.ty I (aH (i:=0) I I)) ?_)
    refine dm [0,1,2,3,4,5,6] ?_;exact bT (k+1) ⟨by omega,i2⟩ (by show body.length-(k+1)<body.length-k;omega)
  rw[ir J]at i2;have i2:rE=0:=by rw[i2];rfl
  have qz:∀x∈body,right t n x=true:=JT (hE.symm.trans i2);clear hE;rw[if_pos i2]at hV;subst i2 hV
  repeat(first|refine GA ?_|refine gV (aO (i:=6) aK.ty I I I) ?_)
  refine aV (sV aI.en I I I I) (λw hm=>CI _ _ _ _ _ w hm.below (lm (i:=1) I w hm) (lm (i:=2) I w hm) (λx hx=>by have:=vU (qz x hx);omega)) I I I ?_;intro _ _
  try refine GA ?_
  exact sS I I I λw hm=>hm.ret
 ·have Vc:=λw' (hg:Gr w w')=>Vb v g w' (h.gr hg) c0
  have hE:vP g body=cz g:=by unfold vP;rw[if_pos c0]
  have hV:CO g body behind=0:=by unfold CO;rw[hE,if_neg c0]
  rw[hE,hV];obtain⟨vp,rfl,h1,_⟩:=h;obtain⟨bb,cb,rfl,_⟩:=hs;generalize cz g=e at*;obtain⟨t,n,aF⟩:=g;dsimp only at*;refine enter (args:=[dM t n vp,ap bb body.length cb,ik behind]) (n:=71) Tryz.func84 I I I ?_;refine bW (bB (bP I I I λg3=>?_))
  repeat(first|refine GA ?_|refine gV (aO (i:=0) aK.ty I I I) ?_)
  refine aV (i_ aI.en I I) (λw hm=>Vc _ hm.below) I I I ?_;intro _ _
  try refine GA ?_
  refine a8 I λg8=>?_;refine ij 1 ?_
  try refine GA ?_
  exact sS I I I λw hm=>hm.ret
end bZ
namespace bZ
open Go.RowKit cK dS aU f_
theorem Y7:laidOutB aD=true:=by kernel_rfl
theorem S8:(146:TypeId)<aD.types.size:=of_decide_eq_true (by kernel_rfl)
theorem Y8:(match aD.underlying 146 with|some (.array _ _)|some (.struct _)=>aC|_=>aE)=true:=by kernel_rfl
def H8(x:Span):Value:=aQ #[av az x.1,av az x.2.1,av az x.2.2]
theorem Y9(x:Span)(h:cK.dU x.1/\cK.dU x.2.1/\cK.dU x.2.2):∃l,keyOf aD 146 (H8 x)=aj l:=by
 obtain⟨a,b,c⟩:=x;obtain⟨h1,h2,h3⟩:=h;have e1:aD.keyType 146=true:=by kernel_rfl
 have e2:aD.cellsOf 146=3:=by kernel_rfl
 have e3:aD.cellsOf 3=1:=by kernel_rfl
 have e4:∃d,aD.types.size+1=d+2:=⟨aD.types.size-1,by have:0<aD.types.size:=JG (bH 146) S8;omega⟩;obtain⟨d,e4⟩:=e4;have key:∀n:Int,cK.dU n->aD.keyLits (d+1) 3 [.int .i64 n]=aj [.int .i64 n]:=λn hn=>by
  have hw:(Lit.int .i64 n).wf=true:=by
   have h0: -9223372036854775808<=n:=hn.1;have h1:n<=9223372036854775807:=hn.2;simp[Lit.wf,AV,AW,pt,kX,h0,h1]
  simp[sO,Tryz.underlying3,hw]
 refine⟨.string (keyBytes ([.int .i64 a,.int .i64 b,.int .i64 c])),?_⟩;have hl:aD.keyLits (d+2) 146 [.int .i64 a,.int .i64 b,.int .i64 c]=aj [.int .i64 a,.int .i64 b,.int .i64 c]:=by
  unfold sO;simp[Tryz.underlying146,e2,e3,key _ h1,key _ h2,key _ h3]
 have hf:(H8 (a,b,c)).formed aD 146=true:=by simp[H8,Value.formed,Tryz.underlying146,e2]
 unfold keyOf;rw[Tryz.underlying146];show(if(aD.keyType 146&&(H8 (a,b,c)).formed aD 146)=aC then(aD.keyLits (aD.types.size+1) 146 [.int .i64 a,.int .i64 b,.int .i64 c]).map (λls=>Lit.string (keyBytes ls))else ak)=_
 rw[e1,hf,e4,hl];rfl
set_option maxRecDepth 100000 in
def ag9:yt aD 146 Span where
 kv:=H8
 ok x:=cK.dU x.1/\cK.dU x.2.1/\cK.dU x.2.2
 law:=deep_law_laid Y7 (m:=2) J S8 (by kernel_rfl) Y8
 key:=Y9
 inj x y h:=by
  obtain⟨a,b,c⟩:=x;obtain⟨a',b',c'⟩:=y;simp only[H8,ly,pI,gU,yA,true_and,and_true]at h;simp[h]
def chM(gm:Nat)(c:qS)(B:Nat):b9:=pG ag9 gm (av az 0) (λx=>av az (c x:Int)) B
def chV(t n:Int)(vp vw:Value)(gm:Nat):Array Value:=#[av az t,av az n,vp,vw,.map (aj gm)]
structure ChR(w:World)(gc gm:Nat)(t n:Int)(vp vw:Value)(word:List Int)(c:qS)(B:Nat):Prop where
 cell:w.heap[gc]?=aj (.cells (chV t n vp vw gm) 144 (0,0))
 map:(chM gm c B).holds w
 word:Sl w vw word.length (word.map (.int .i64))
theorem ChR.gr{w w':World}{gc gm:Nat}{t n:Int}{vp vw:Value}{word:List Int}{c:qS}{B:Nat}(h:ChR w gc gm t n vp vw word c B)(hg:Gr w w'):ChR w' gc gm t n vp vw word c B:=
 ⟨(hg.block gc (jx.1 h.cell).1).trans h.cell,(chM gm c B).stay w w' h.map hg.size λk hk=>hg.block k ((chM gm c B).lt w h.map k hk),h.word.gr hg⟩
theorem afm{W:World}{L:List b9}{b off:Nat}{l:List Int}(h:Rd W b off (l.map (.int .i64))){k:Nat}(hk:k<l.length):At W L ⟨b,off+k,ak⟩ (av az l[k]):=jc h (by simp[hk])
end bZ
namespace bJ
open aU dL cD
abbrev Item:=Int×Int×Int
def vV(a b:Int):Int:=if a<b then-1 else if b<a then 1 else 0
def MD(a b:Item):Int:=if vV a.1 b.1≠0 then vV a.1 b.1 else if vV a.2.1 b.2.1≠0 then vV a.2.1 b.2.1 else vV a.2.2 b.2.2
def Qh(a b:Item):Bool:=decide (MD a b<0)
theorem S9(a b:Item):Qh a b=aC↔a.1<b.1\/(a.1=b.1/\(a.2.1<b.2.1\/(a.2.1=b.2.1/\a.2.2<b.2.2))):=by
 unfold Qh MD vV;rw[decide_eq_true_eq]
 repeat' split
 all_goals omega
theorem Qi(a b:Item):Qh a b=aE↔¬(a.1<b.1\/(a.1=b.1/\(a.2.1<b.2.1\/(a.2.1=b.2.1/\a.2.2<b.2.2)))):=by
 rw[<-S9,Ym]
def OS(a b:Item):Bool:=!Qh b a
theorem Dg(a b:Item):OS a b=aC↔¬(b.1<a.1\/(b.1=a.1/\(b.2.1<a.2.1\/(b.2.1=a.2.1/\b.2.2<a.2.2)))):=by
 unfold OS;rw[sH,Qi]
theorem Vd(a b c:Item)(h1:OS a b=aC)(h2:OS b c=aC):OS a c=true:=by
 rw[Dg]at*;omega
theorem Ve(a b:Item):(OS a b||OS b a)=true:=by
 rw[nL,Dg,Dg];omega
theorem ME{a b:Item}(h1:OS a b=aC)(h2:OS b a=aC):a=b:=by
 rw[Dg]at*;obtain⟨a1,a2,a3⟩:=a;obtain⟨b1,b2,b3⟩:=b;dsimp only at h1 h2;rw[fX,fX];omega
theorem Vf(x y:Item)(h1:Qh x y=aE)(h2:Qh y x=aE):x=y:=ME (by unfold OS;rw[h2];rfl) (by unfold OS;rw[h1];rfl)
def afn(l:List Item):Prop:=l.Pairwise λa b=>Qh a b=aC
theorem S_(a:Item):Qh a a=false:=by rw[Qi];omega
theorem afp{a b c:Item}(h1:Qh a b=aC)(h2:Qh b c=aC):Qh a c=true:=by
 rw[S9]at*;omega
theorem Vg{l:List Item}(h:afn l):l.Nodup:=h.imp λ{a b} EH e=>by subst e;rw[S_]at EH;cases EH
def vW(l:List Item):List Item:=l.mergeSort OS
theorem Y_{l:List Item}{x:Item}:x∈vW l↔x∈l:=(Yr l OS).mem_iff
theorem MF(l:List Item):(vW l).length=l.length:=PV _
theorem Y'{l:List Item}(h:l.Nodup):afn (vW l):=by
 have h1:(vW l).Pairwise λa b=>OS a b=true:=Yn Vd Ve l;have h2:(vW l).Nodup:=(Yr l OS).nodup_iff.2 h;refine(h1.and h2).imp λ{a b} EH=>?_
 cases e:Qh a b with
 |true=>rfl
 |false=>exact absurd (ME EH.1 (by unfold OS;rw[e];rfl)) EH.2
section
variable(l:List aU.Prod)(T:Nat)(lk:Int->Int->Nat)
def fR(p:Int):List dr:=if p=(l.length:Int)then [(2,0)]else(dc l p).2
def qV(it:Item):Option dr:=(fR l it.1)[it.2.1.toNat]?
def vX(it:Item):Nat:=if(lk it.1 it.2.1).testBit 62=aC then(lk it.1 it.2.1^^^2^62)|||2^it.2.2.toNat else lk it.1 it.2.1
def fK(i:Nat)(bits:Nat)(out:List Item):Nat->List Item
 |0=>out
 |k+1=>if bits.testBit k=aC then more (fK i bits out k) ((i:Int),0,(k:Int))else fK i bits out k
def fL(N:Int)(bits:Nat)(out:List Item):Nat->List Item
 |0=>out
 |i+1=>if(dc l (i:Int)).1=N then fK i bits (fL N bits out i) (T+1)else fL N bits out i
def vY(it:Item)(out:List Item):List Item:=match qV l it with
 |some x=>if x.1=2 then fL l T x.2 (vX lk it) out l.length else out
 |none=>out
def tX:Nat->Nat->List Item->List Item
 |0,_,out=>out
 |f+1,n,out=>if n<out.length then tX f (n+1) (vY l T lk (out.getD n (0,0,0)) out)else out
def km(l0:List Item):List Item:=vW (tX l T lk 12000 0 (dR [] l0))
def JW(it x:Item):Prop:=∃N:Int,∃i k:Nat,qV l it=aj (2,N)/\i<l.length/\(dc l (i:Int)).1=N/\k<=T/\(vX lk it).testBit k=aC/\x=((i:Int),0,(k:Int))
inductive Cl(l0:List Item):Item->Prop
 |base {x:Item} (h:x∈l0):Cl l0 x
 |step {it x:Item} (h:Cl l0 it) (hx:JW l T lk it x):Cl l0 x
def eG(it:Item):Prop:=0<=it.1/\it.1<=(l.length:Int)/\0<=it.2.1/\it.2.1<=((fR l it.1).length:Int)/\0<=it.2.2/\it.2.2<=(T:Int)
end
section
variable{l:List aU.Prod}{T:Nat}{lk:Int->Int->Nat}
theorem vZ{i bits:Nat}{out:List Item}{x:Item}:∀k,x∈fK i bits out k↔x∈out\/∃j,j<k/\bits.testBit j=aC/\x=((i:Int),0,(j:Int))
 |0=>⟨.inl,λh=>h.elim id λ⟨j,hj,_⟩=>absurd hj (mz j)⟩
 | k + 1=>by
  rw[fK]
  by_cases c:bits.testBit k=aC
  ·rw[if_pos c,u_,vZ k]
   constructor
   ·rintro((h|⟨j,h1,h2⟩)|h)
    exact .inl h;exact .inr ⟨j,by omega,h2⟩;exact .inr ⟨k,by omega,c,h⟩
   rintro(h|⟨j,h1,h2,h3⟩);exact .inl (.inl h)
   by_cases e:j=k
   subst e;exact .inr h3;exact .inl (.inr ⟨j,by omega,h2,h3⟩)
  rw[if_neg c,vZ k]
  constructor
  ·rintro(h|⟨j,h1,h2⟩)
   exact .inl h;exact .inr ⟨j,by omega,h2⟩
  rintro(h|⟨j,h1,h2,h3⟩);exact .inl h
  by_cases e:j=k
  subst e;exact absurd h2 c;exact .inr ⟨j,by omega,h2,h3⟩
theorem Ca(i bits:Nat)(out:List Item):∀k,∃E,fK i bits out k=out++E
 |0=>⟨[],(du _).symm⟩
 | k +1=>by
  rw[fK];obtain⟨E,h⟩:=Ca i bits out k;split
  ·obtain⟨E2,h2⟩:=Eh (fK i bits out k) (((i:Int),0,(k:Int)):Item)
   exact⟨E++E2,by rw[h2,h,dZ]⟩
  exact⟨E,h⟩
theorem rp{i bits:Nat}{out:List Item}(h:out.Nodup):∀k,(fK i bits out k).Nodup
 |0=>h
 |k+1=>by
  rw[fK];split;exact Ei (rp h k);exact rp h k
theorem v7{N:Int}{bits:Nat}{out:List Item}{x:Item}:∀n,x∈fL l T N bits out n↔x∈out\/∃i k:Nat,i<n/\(dc l (i:Int)).1=N/\k<=T/\bits.testBit k=aC/\x=((i:Int),0,(k:Int))
 |0=>⟨.inl,λh=>h.elim id λ⟨j,_,hj,_⟩=>absurd hj (mz j)⟩
 | n + 1=>by
  rw[fL]
  by_cases c:(dc l (n:Int)).1=N
  ·rw[if_pos c,vZ,v7 n]
   constructor
   ·rintro((h|⟨i,k,h1,h2⟩)|⟨j,h1,h2,h3⟩)
    exact .inl h;exact .inr ⟨i,k,by omega,h2⟩;exact .inr ⟨n,j,by omega,c,by omega,h2,h3⟩
   rintro(h|⟨i,k,h1,h2,h3,h4,h5⟩);exact .inl (.inl h)
   by_cases e:i=n
   subst e;exact .inr ⟨k,by omega,h4,h5⟩;exact .inl (.inr ⟨i,k,by omega,h2,h3,h4,h5⟩)
  rw[if_neg c,v7 n]
  constructor
  ·rintro(h|⟨i,k,h1,h2⟩)
   exact .inl h;exact .inr ⟨i,k,by omega,h2⟩
  rintro(h|⟨i,k,h1,h2,h3⟩);exact .inl h
  by_cases e:i=n
  subst e;exact absurd h2 c;exact .inr ⟨i,k,by omega,h2,h3⟩
theorem v8(N:Int)(bits:Nat)(out:List Item):∀n,∃E,fL l T N bits out n=out++E
 |0=>⟨[],(du _).symm⟩
 | n +1=>by
  rw[fL];obtain⟨E,h⟩:=v8 N bits out n;split
  ·obtain⟨E2,h2⟩:=Ca n bits (fL l T N bits out n) (T+1)
   exact⟨E++E2,by rw[h2,h,dZ]⟩
  exact⟨E,h⟩
theorem rq{N:Int}{bits:Nat}{out:List Item}(h:out.Nodup):∀n,(fL l T N bits out n).Nodup
 |0=>h
 |n+1=>by
  rw[fL];split;exact rp (rq h n) _;exact rq h n
theorem Dh{it:Item}{out:List Item}{x:Item}:x∈vY l T lk it out↔x∈out\/JW l T lk it x:=by
 unfold vY JW
 cases e:qV l it with
 |none=>exact⟨.inl,λh=>h.elim id λ⟨_,_,_,h,_⟩=>by cases h⟩
 | some s=>
  obtain⟨k,N⟩:=s;dsimp only
  by_cases c:k=2
  ·subst c
   rw[if_pos I,v7]
   constructor
   ·rintro(h|⟨i,j,h1,h2,h3,h4,h5⟩)
    exact .inl h;exact .inr ⟨N,i,j,rfl,h1,h2,h3,h4,h5⟩
   rintro(h|⟨N',i,j,h0,h1,h2,h3,h4,h5⟩);exact .inl h;simp only[dh,fX,true_and]at h0;subst h0;exact .inr ⟨i,j,h1,h2,h3,h4,h5⟩
  rw[if_neg c];refine⟨.inl,λh=>h.elim id λ⟨N',_,_,h,_⟩=>?_⟩;simp only[dh,fX]at h;exact absurd h.1 c
theorem acm(it:Item)(out:List Item):∃E,vY l T lk it out=out++E:=by
 unfold vY;split
 ·split
  exact v8 _ _ _ _;exact⟨[],(du _).symm⟩
 exact⟨[],(du _).symm⟩
theorem Vh{it:Item}{out:List Item}(h:out.Nodup):(vY l T lk it out).Nodup:=by
 unfold vY;split
 ·split
  exact rq h _;exact h
 exact h
theorem nc{p:Int}(hw:∀q∈l,q.2.length<=8):(fR l p).length<=8:=by
 unfold fR;split
 decide
 unfold dc;rw[cB]
 cases e:l[p.toNat]? with
 |none=>exact bH _
 |some q=>exact hw q (mh e)
theorem Vi{it x:Item}(h:JW l T lk it x):eG l T x:=by
 obtain⟨N,i,k,_,h2,_,h4,_,rfl⟩:=h;exact⟨by dsimp only;omega,by dsimp only;omega,lX _,by dsimp only;omega,by dsimp only;omega,by dsimp only;omega⟩
theorem Ab{l0:List Item}(h0:∀x∈l0,eG l T x){x:Item}(h:Cl l T lk l0 x):eG l T x:=by
 cases h with
 |base h=>exact h0 x h
 |step _ hx=>exact Vi hx
theorem Bq{out:List Item}(hw:∀q∈l,q.2.length<=8)(hl:l.length<=40)(hT:T<=30)(hn:out.Nodup)(hr:∀x∈out,eG l T x):out.length<=11439:=by
 have:=og (l:=out.map λx:Item=>x.1.toNat*279+x.2.1.toNat*31+x.2.2.toNat) (m:=11439) ?_ ?_
 rwa [dA]at this
 ·rw[List.nodup_iff_pairwise_ne,List.pairwise_map]
  refine(afg.1 hn).imp λ{a b} EH e=>EH.2.2 ?_;have ha:=hr a EH.1;have hb:=hr b EH.2.1;have ha8:=nc (p:=a.1) hw;have hb8:=nc (p:=b.1) hw;unfold eG at ha hb;obtain⟨a1,a2,a3⟩:=a;obtain⟨b1,b2,b3⟩:=b;dsimp only at*;rw[fX,fX];omega
 intro x hx;obtain⟨a,ha,rfl⟩:=eT.1 hx;have h1:=hr a ha;have h8:=nc (p:=a.1) hw;unfold eG at h1;omega
structure WkI(l:List aU.Prod)(T:Nat)(lk:Int->Int->Nat)(l0:List Item)(n:Nat)(out:List Item):Prop where
 nd:out.Nodup
 le:n<=out.length
 has:∀x∈l0,x∈out
 cl:∀x∈out,Cl l T lk l0 x
 shut:∀j (h:j<out.length),j<n->∀x,JW l T lk out[j] x->x∈out
theorem Ta{l0:List Item}{n:Nat}{out:List Item}(h:WkI l T lk l0 n out)(hn:n<out.length):WkI l T lk l0 (n+1) (vY l T lk out[n] out):=by
 obtain⟨E,hE⟩:=acm (l:=l) (T:=T) (lk:=lk) out[n] out;have hlen:out.length<=(vY l T lk out[n] out).length:=by rw[hE,bI];omega
 have yP:∀j (h:j<out.length),(vY l T lk out[n] out)[j]' J=out[j]:=λj hj=>by
  simp only[hE,List.getElem_append_left hj]
 refine⟨Vh h.nd,by omega,λx hx=>Dh.2 (.inl (h.has x hx)),λx hx=>?_,λj hj hjn x hx=>?_⟩
 ·rcases Dh.1 hx with h1|h1
  exact h.cl x h1;exact .step (h.cl _ (b_ hn)) h1
 have sF:j<out.length:=by omega
 rw[yP j sF]at hx
 by_cases e:j=n
 subst e;exact Dh.2 (.inr hx);exact Dh.2 (.inl (h.shut j sF J x hx))
theorem EV{l0:List Item}(hw:∀q∈l,q.2.length<=8)(hl:l.length<=40)(hT:T<=30)(h0:∀x∈l0,eG l T x):∀(f n:Nat) (out:List Item),11440<=f+n->WkI l T lk l0 n out->WkI l T lk l0 (tX l T lk f n out).length (tX l T lk f n out)
 | 0,n,out,hf,h=>by
  have:=Bq hw hl hT h.nd λx hx=>Ab h0 (h.cl x hx);have:=h.le;omega
 | f +1,n,out,hf,h=>by
  rw[tX]
  by_cases c:n<out.length
  ·rw[if_pos c,cB,bK c,Option.getD_some]
   exact EV hw hl hT h0 f (n+1) _ J (Ta h c)
  rw[if_neg c];have:=h.le;rw[show out.length=n by omega];exact h
theorem EW(l0:List Item):WkI l T lk l0 0 (dR [] l0):=
 ⟨s_ l0 [] List.nodup_nil,bH _,λx hx=>lx.2 (.inr hx),λx hx=> .base ((lx.1 hx).resolve_left (by simp)),λj _ h=>absurd h (mz j)⟩
section
variable(hw:∀q∈l,q.2.length<=8)(hl:l.length<=40)(hT:T<=30)
include hw hl hT
theorem iv{l0:List Item}(h0:∀x∈l0,eG l T x){x:Item}:x∈km l T lk l0↔Cl l T lk l0 x:=by
 unfold km;rw[Y_];have h:=EV (lk:=lk) hw hl hT h0 12000 0 _ J (EW l0);refine⟨h.cl x,λhx=>?_⟩
 induction hx with
 |base hb=>exact h.has _ hb
 |step _ hx ih=>
  obtain⟨j,hj,rfl⟩:=iB.1 ih;exact h.shut j hj hj _ hx
theorem Qj{l0:List Item}(h0:∀x∈l0,eG l T x):afn (km l T lk l0):=
 Y' (EV (lk:=lk) hw hl hT h0 12000 0 _ J (EW l0)).nd
theorem jq{l0:List Item}(h0:∀x∈l0,eG l T x):∀x∈km l T lk l0,eG l T x:=λ_ hx=>Ab h0 ((iv hw hl hT h0).1 hx)
theorem te{l0:List Item}(h0:∀x∈l0,eG l T x):(km l T lk l0).length<=11439:=
 Bq hw hl hT (Vg (Qj hw hl hT h0)) (jq hw hl hT h0)
end
end
end bJ
namespace bJ
open aU dL cD
def acn(it:Item):Item:=(it.1,it.2.1+1,it.2.2)
section
variable(l:List aU.Prod)(T N:Nat)(lk:Int->Int->Nat)
def ng(s:List Item)(x:dr):List Item:=(s.filter λit=>decide (qV l it=aj x)).map acn
def jr(s:List Item)(x:dr):List Item:=km l T lk (ng l s x)
def nh:List dr:=(eg T).map (λn:Nat=>((1:Int),(n:Int)))++(eg N).map (λn:Nat=>((2:Int),(n:Int)))
def jC(S:List (List Item))(s:List Item):Nat×List (List Item):=if s∈S then(idx S s,S)else(S.length,S++[s])
def qW(s:List Item)(x:dr)(S:List (List Item)):Int×List (List Item):=if jr l T lk s x=[]then(-1,S)else(((jC S (jr l T lk s x)).1:Int),(jC S (jr l T lk s x)).2)
def Ac(s:List Item):List dr->List Int->List (List Item)->Option (List Int×List (List Item))
 |[],nx,S=>aj (nx,S)
 |x::r,nx,S=>if 200<(qW l T lk s x S).2.length then ak else Ac s r (nx++[(qW l T lk s x S).1]) (qW l T lk s x S).2
def xI:Nat->Nat->List (List Int)->List (List Item)->Option (List (List Int)×List (List Item))
 |0,_,_,_=>ak
 | f +1,n,Nx,S=>if n<S.length then(match Ac l T lk (S.getD n []) (nh T N) [] S with
  |none=>ak
  |some (nx,S')=>xI f (n+1) (Nx++[nx]) S')else aj (Nx,S)
def nT:List Item:=km l T lk [((l.length:Int),0,(T:Int))]
def allI:Option (List (List Int)×List (List Item)):=xI l T N lk 202 0 [] [nT l T lk]
end
theorem Ad(T N:Nat):(nh T N).length=T+N:=by unfold nh;rw[bI,dA,dA,pJ,pJ]
theorem Vj{T N k:Nat}(h:k<T):(nh T N)[k]?=aj (1,(k:Int)):=by
 unfold nh;rw[iq (by simpa using h),fe,Ep h];rfl
theorem Za{T N k:Nat}(h:k<N):(nh T N)[T+k]?=aj (2,(k:Int)):=by
 unfold nh;rw[List.getElem?_append_right (by simp),dA,pJ,Nat.add_sub_cancel_left,fe,Ep h];rfl
section
variable{l:List aU.Prod}{T N:Nat}{lk:Int->Int->Nat}
theorem MG{s:List Item}{x:dr}{y:Item}:y∈ng l s x↔∃it∈s,qV l it=aj x/\y=acn it:=by
 unfold ng;rw[eT]
 constructor
 ·rintro⟨it,h,rfl⟩
  rw[DP,decide_eq_true_eq]at h;exact⟨it,h.1,h.2,rfl⟩
 rintro⟨it,h1,h2,rfl⟩;exact⟨it,DP.2 ⟨h1,decide_eq_true h2⟩,rfl⟩
theorem lz{s:List Item}{x:dr}(hs:∀it∈s,eG l T it):∀y∈ng l s x,eG l T y:=by
 intro y hy;obtain⟨it,h1,h2,rfl⟩:=MG.1 hy;have hr:=hs it h1;have hd:=(dg.1 h2).1;unfold eG acn at*;dsimp only;omega
structure JX(l:List aU.Prod)(T:Nat)(lk:Int->Int->Nat)(S:List (List Item)):Prop where
 nd:S.Nodup
 right:∀s∈S,∀it∈s,eG l T it
 shut:∀s∈S,∀it∈s,∀x,JW l T lk it x->x∈s
def EX(l:List aU.Prod)(T:Nat)(lk:Int->Int->Nat)(S:List (List Item))(s:List Item)(x:dr)(c:Int):Prop:=
 (jr l T lk s x=[]/\c= -1)\/(jr l T lk s x≠[]/\jr l T lk s x∈S/\c=(idx S (jr l T lk s x):Int))
theorem EX.U7{S:List (List Item)}{s:List Item}{x:dr}{c:Int}(h:EX l T lk S s x c)(E:List (List Item)):EX l T lk (S++E) s x c:=by
 rcases h with h|⟨h1,h2,h3⟩
 exact .inl h;exact .inr ⟨h1,uH _ h2,by rw[h3,qP h2]⟩
section
variable(hw:∀q∈l,q.2.length<=8)(hl:l.length<=40)(hT:T<=30)
include hw hl hT
omit hw hl hT in
theorem Ql{S:List (List Item)}(hS:JX l T lk S){s:List Item}(hs:∀it∈s,eG l T it)(Yd:∀it∈s,∀x,JW l T lk it x->x∈s):(∃E,(jC S s).2=S++E)/\s∈(jC S s).2/\(jC S s).1=idx (jC S s).2 s/\JX l T lk (jC S s).2:=by
 unfold jC
 by_cases c:s∈S
 ·rw[if_pos c]
  exact⟨⟨[],(du _).symm⟩,c,rfl,hS⟩
 rw[if_neg c];refine⟨⟨[s],rfl⟩,List.mem_append_right _ (dO.2 I),?_,?_,?_,?_⟩
 ·show S.length=idx (S++[s]) s
  have:=rW (D:=S) (k:=s);unfold more at this;rw[if_neg c,if_neg c]at this;exact this.symm
 ·rw[List.nodup_append]
  exact⟨hS.nd,by simp,λa ha b hb e=>by rw[dO.1 hb]at e;subst e;exact c ha⟩
 ·intro s' wZ it hit
  rcases fx.1 wZ with h|h
  exact hS.right s' h it hit;rw[dO.1 h]at hit;exact hs it hit
 intro s' wZ it hit x hx;rcases fx.1 wZ with h|h
 exact hS.shut s' h it hit x hx;rw[dO.1 h]at hit⊢;exact Yd it hit x hx
theorem v_{l0:List Item}(h0:∀x∈l0,eG l T x):∀it∈km l T lk l0,∀x,JW l T lk it x->x∈km l T lk l0:=λ_ hit _ hx=>
 (iv hw hl hT h0).2 (.step ((iv hw hl hT h0).1 hit) hx)
theorem H9{S:List (List Item)}(hS:JX l T lk S){s:List Item}(hs:∀it∈s,eG l T it)(x:dr):(∃E,(qW l T lk s x S).2=S++E)/\EX l T lk (qW l T lk s x S).2 s x (qW l T lk s x S).1/\JX l T lk (qW l T lk s x S).2:=by
 unfold qW
 by_cases c:jr l T lk s x=[]
 ·rw[if_pos c]
  exact⟨⟨[],(du _).symm⟩,.inl ⟨c,rfl⟩,hS⟩
 rw[if_neg c];obtain⟨h1,h2,h3,h4⟩:=Ql hS (jq (lk:=lk) hw hl hT (lz (x:=x) hs)) (v_ hw hl hT (lz (x:=x) hs));exact⟨h1,.inr ⟨c,h2,congrArg _ h3⟩,h4⟩
theorem MH{s:List Item}(hs:∀it∈s,eG l T it):∀(xs:List dr) (nx:List Int) (S:List (List Item)) (done:List dr) (Zb:List Int) (S':List (List Item)),JX l T lk S->Ac l T lk s xs nx S=aj (Zb,S')->S.length<=200->nx.length=done.length->(∀k x,done[k]?=aj x->EX l T lk S s x (nx.getD k 0))->
 (∃E,S'=S++E)/\JX l T lk S'/\S'.length<=200/\Zb.length=(done++xs).length/\∀k x,(done++xs)[k]?=aj x->EX l T lk S' s x (Zb.getD k 0)
 | [],nx,S,done,Zb,S',hS,h,ag_,hlen,hd=>by
  simp only[Ac,dh,fX]at h;obtain⟨rfl,rfl⟩:=h;rw[du];exact⟨⟨[],(du _).symm⟩,hS,ag_,hlen,hd⟩
 | x ::xs,nx,S,done,Zb,S',hS,h,ag_,hlen,hd=>by
  rw[Ac]at h
  by_cases c:200<(qW l T lk s x S).2.length
  rw[if_pos c]at h;cases h;rw[if_neg c]at h;obtain⟨⟨E,h1⟩,h2,h3⟩:=H9 (lk:=lk) hw hl hT hS hs x;obtain⟨⟨E2,q1⟩,q2,q3,q4,q5⟩:=MH hs xs (nx++[(qW l T lk s x S).1]) _ (done++[x]) Zb S' h3 h J (by rw[bI,bI,hlen];rfl) (λk y hk=>by
   by_cases ek:k<done.length
   ·rw[iq ek]at hk
    rw[jQ J,h1];exact(hd k y hk).U7 E
   have lO:=(dg.1 hk).1;rw[bI,nM]at lO;obtain rfl:k=done.length:=by omega
   rw[List.getElem?_append_right (Nat.le_refl _),Nat.sub_self]at hk;simp only[List.getElem?_cons_zero,Option.some.injEq]at hk;subst hk;rw[my J,hlen,Nat.sub_self];exact h2)
  rw[dZ,List.singleton_append]at q4 q5;exact⟨⟨E++E2,by rw[q1,h1,dZ]⟩,q2,q3,q4,q5⟩
structure Vk(l:List aU.Prod)(T N:Nat)(lk:Int->Int->Nat)(n:Nat)(Nx:List (List Int))(S:List (List Item)):Prop where
 ss:JX l T lk S
 we:S.length<=200
 le:n<=S.length
 len:Nx.length=n
 start:S[0]?=aj (nT l T lk)
 wide:∀q,q<n->(Nx.getD q []).length=T+N
 cell:∀q,q<n->∀k x,(nh T N)[k]?=aj x->EX l T lk S (S.getD q []) x ((Nx.getD q []).getD k 0)
theorem MI:∀(f n:Nat) (Nx:List (List Int)) (S:List (List Item)) (Nx':List (List Int)) (S':List (List Item)),xI l T N lk f n Nx S=aj (Nx',S')->Vk l T N lk n Nx S->Vk l T N lk S'.length Nx' S'
  |0,_,_,_,_,_,h,_=>by cases h
  | f + 1,n,Nx,S,Nx',S',h,hi=>by
    rw[xI]at h
    by_cases c:n<S.length
    · rw[if_pos c]at h
      have yP:S.getD n []=S[n]:=by rw[cB,bK c];rfl
      have hs:∀it∈S.getD n [],eG l T it:=by rw[yP];exact hi.ss.right _ (b_ c)
      cases e:Ac l T lk (S.getD n []) (nh T N) [] S with
      |none=>rw[e]at h;cases h
      | some r=>
        obtain⟨nx,S1⟩:=r;rw[e]at h;dsimp only at h;obtain⟨⟨E,q1⟩,q2,q3,q4,q5⟩:=MH (lk:=lk) hw hl hT hs (nh T N) [] S [] nx S1 hi.ss e hi.we rfl (λk x hk=>by simp at hk);rw[eI]at q4 q5;have hlen:=congrArg List.length q1;rw[bI]at hlen;refine MI f (n+1) _ S1 Nx' S' h ⟨q2,q3,by omega,by rw[bI,hi.len];rfl,?_,λq hq=>?_,λq hq k x hk=>?_⟩;rw[q1,iq (by have:=(dg.1 hi.start).1;omega)];exact hi.start
        · by_cases eq:q=n
          · subst eq
            rw[my (by rw[hi.len];exact bz _),hi.len,pK];show nx.length=T+N
            rw[q4,Ad]
          rw[jQ (by rw[hi.len];omega)];exact hi.wide q J
        by_cases eq:q=n
        · subst eq
          rw[my (by rw[hi.len];exact bz _),hi.len,pK];have e1:S1.getD q []=S.getD q []:=by rw[q1,jQ c]
          rw[e1];exact q5 k x hk
        rw[jQ (by rw[hi.len];omega)];have e1:S1.getD q []=S.getD q []:=by rw[q1,jQ J]
        rw[e1,q1];exact(hi.cell q J k x hk).U7 E
    rw[if_neg c]at h;simp only[dh,fX]at h;obtain⟨rfl,rfl⟩:=h;have:n=S.length:=by have:=hi.le;omega
    rw[<-this];exact hi
omit hw in
theorem iI:∀x∈[(((l.length:Int),0,(T:Int)):Item)],eG l T x:=by
 intro x hx;rw[dO.1 hx];exact⟨by dsimp only;omega,lX _,lX _,by dsimp only;omega,by dsimp only;omega,lX _⟩
theorem MJ{Nx:List (List Int)}{S:List (List Item)}(h:allI l T N lk=aj (Nx,S)):Vk l T N lk S.length Nx S:=
 MI hw hl hT 202 0 [] [nT l T lk] Nx S h
  ⟨⟨by simp,λs hs it hit=>by rw[dO.1 hs]at hit;exact jq (lk:=lk) hw hl hT (iI hl hT) it hit,λs hs it hit x hx=>by rw[dO.1 hs]at hit⊢;exact v_ hw hl hT (iI hl hT) it hit x hx⟩,by simp,bH _,rfl,rfl,λq hq=>absurd hq (mz q),λq hq=>absurd hq (mz q)⟩
end
end
def iJ(s:List Item):List UInt8:=s.flatMap λit=>[fY it.1.toNat,fY it.2.1.toNat,fY it.2.2.toNat]
theorem Qm{a b:Int}(ha:0<=a/\a<256)(hb:0<=b/\b<256)(h:fY a.toNat=fY b.toNat):a=b:=by
 have:=congrArg UInt8.toNat h;rw[Yy,Yy]at this;omega
theorem EY:∀{s s':List Item},(∀it∈s,0<=it.1/\it.1<256/\0<=it.2.1/\it.2.1<256/\0<=it.2.2/\it.2.2<256)->(∀it∈s',0<=it.1/\it.1<256/\0<=it.2.1/\it.2.1<256/\0<=it.2.2/\it.2.2<256)->iJ s=iJ s'->s=s'
 |[],[],_,_,_=>rfl
 |[],b::s',_,_,h=>by simp[iJ]at h
 |a::s,[],_,_,h=>by simp[iJ]at h
 | a ::s,b::s',h1,h2,h=>by
  have ha:=h1 a (ia ..);have hb:=h2 b (ia ..);unfold iJ at h;rw[mg,mg]at h;simp only[jf,eI,gU]at h;obtain⟨e1,e2,e3,e4⟩:=h;have e1:=Qm ⟨ha.1,ha.2.1⟩ ⟨hb.1,hb.2.1⟩ e1;have e2:=Qm ⟨ha.2.2.1,ha.2.2.2.1⟩ ⟨hb.2.2.1,hb.2.2.2.1⟩ e2;have e3:=Qm ⟨ha.2.2.2.2.1,ha.2.2.2.2.2⟩ ⟨hb.2.2.2.2.1,hb.2.2.2.2.2⟩ e3;have e:a=b:=by
   obtain⟨a1,a2,a3⟩:=a;obtain⟨b1,b2,b3⟩:=b;simp only at e1 e2 e3;rw[e1,e2,e3]
  rw[e,EY (λit hit=>h1 it (jR _ hit)) (λit hit=>h2 it (jR _ hit)) e4]
end bJ
namespace bJ
open aU dL f_ dP cD
open CL (z_)
abbrev Act:=Int×Int
section
variable(l:List aU.Prod)(T:Nat)
def Ae(c:Nat)(it:Item):Option Act:=if it.2.2≠(c:Int)then ak else if it.1=(l.length:Int)/\it.2.1=1 then aj (3,0)else if it.1<(l.length:Int)/\it.2.1=((dc l it.1).2.length:Int)then aj (2,it.1)else ak
def kS(s:List Item)(nx:List Int)(c:Nat):List Act:=(if c<T/\0<=nx.getD c 0 then [(1,nx.getD c 0)]else [])++s.filterMap (Ae l c)
end
section
variable(l:List aU.Prod)(T:Nat)(Nx:List (List Int))(S:List (List Item))
def ot(q c:Nat):Act:=(kS l T (S.getD q []) (Nx.getD q []) c).headD (0,0)
def ag'(q:Nat)(n:Int):Int:=(Nx.getD q []).getD (T+n.toNat) 0
def aha:Prop:=∀q,q<S.length->∀c,c<=T->(kS l T (S.getD q []) (Nx.getD q []) c).length<=1
inductive CP(w:List Int):List Nat->Nat->List dr->List Nat->Nat->Prop
 |nil {σ:List Nat} {a:Nat}:CP w σ a [] σ a
 |shift {q s:Nat} {σ σ':List Nat} {a a':Nat} {E:List dr} (ha:a<w.length) (h:ot l T Nx S q (z_ T w a)=(1,(s:Int))) (hr:CP w (s::q::σ) (a+1) E σ' a'):CP w (q::σ) a ((2,(a:Int))::E) σ' a'
 |reduce {q r tq:Nat} {p:Int} {σ ρ σ':List Nat} {a a':Nat} {E:List dr} (h:ot l T Nx S q (z_ T w a)=(2,p)) (hd:(q::σ).drop (dc l p).2.length=r::ρ) (hg:ag' T Nx r (dc l p).1=(tq:Int)) (hr:CP w (tq::r::ρ) a E σ' a'):CP w (q::σ) a ((4,p)::E) σ' a'
end
section
variable{l:List aU.Prod}{T N:Nat}{lk:Int->Int->Nat}{Nx:List (List Int)}{S:List (List Item)}{w:List Int}
theorem CP.U7{σ σ1 σ2:List Nat}{a a1 a2:Nat}{E E2:List dr}(h:CP l T Nx S w σ a E σ1 a1)(h2:CP l T Nx S w σ1 a1 E2 σ2 a2):CP l T Nx S w σ a (E++E2) σ2 a2:=by
 induction h with
 |nil=>exact h2
 |shift ha h _ ih=>exact .shift ha h (ih h2)
 |reduce h hd hg _ ih=>exact .reduce h hd hg (ih h2)
theorem CP.det{σ σ1:List Nat}{a a1:Nat}{E:List dr}(h:CP l T Nx S w σ a E σ1 a1):∀{E2:List dr} {σ2:List Nat} {a2:Nat},CP l T Nx S w σ a E2 σ2 a2->(∀q ρ,σ1=q::ρ->ot l T Nx S q (z_ T w a1)=(3,0))->(∀q ρ,σ2=q::ρ->ot l T Nx S q (z_ T w a2)=(3,0))->E=E2:=by
 induction h with
 |nil=>
  intro E2 σ2 a2 h2 e1 e2
  cases h2 with
  |nil=>rfl
  |shift _ h _=>rw[e1 _ _ I]at h;cases h
  |reduce h _ _ _=>rw[e1 _ _ I]at h;cases h
 | shift ha h _ ih=>
  intro E2 σ2 a2 h2 e1 e2
  cases h2 with
  |nil=>rw[e2 _ _ I]at h;cases h
  |shift _ h' CG=>
   rw[h]at h';simp only[fX,true_and]at h';have h':=JF h';subst h';rw[ih CG e1 e2]
  |reduce h' _ _ _=>rw[h]at h';cases h'
 | reduce h hd hg _ ih=>
  intro E2 σ2 a2 h2 e1 e2
  cases h2 with
  |nil=>rw[e2 _ _ I]at h;cases h
  |shift _ h' _=>rw[h]at h';cases h'
  |reduce h' Pm uf CG=>
   rw[h]at h';simp only[fX,true_and]at h';subst h';rw[hd]at Pm;simp only[gU]at Pm;obtain⟨rfl,rfl⟩:=Pm;rw[hg]at uf;have uf:=JF uf;subst uf;rw[ih CG e1 e2]
section
end
section
end
end
end bJ
namespace bZ
open Go.RowKit cK dS
theorem MK(a:Int):(cK.dQ a).length=1:=rfl
theorem kA(v:Value)(l:List Int)(w:World)(hs:Sl w v l.length (l.flatMap cK.dQ))(hl:l.length*8<=140737488355328):
 Calls aD 97 #[v] w (bY (cI 3 1 l.length (l.flatMap cK.dQ) id) w):=by
 obtain⟨base,cap,rfl,lW,jS,eP⟩:=hs;unfold maxLen at jS;refine enter (args:=[ap base l.length cap]) (n:=8) Tryz.func97 I I I ?_;have sa:∀w',Gr w w'->Sl w' (ap base l.length cap) l.length (l.flatMap cK.dQ):=λw' hg=>Sl.gr ⟨base,cap,rfl,lW,jS,eP⟩ hg;clear eP
 cases base with
 | none=>
  repeat(first|refine GC ?_|refine gV (kx bM.eq I I I) ?_|refine GB ?_)
  have h0:l=[]:=by
   cases l with
   |nil=>rfl
   |cons x l=>obtain⟨_,_,h,_,_,h2⟩:=sa w (Gr.refl w);simp only[kH]at h;obtain⟨rfl,_⟩:=h;obtain⟨b,off,h,_⟩:=h2 (by simp);cases h
  subst h0;refine dN 3 1 ?_;exact cO I I λw hm=>hm.meets (S:=cI 3 1 0 [] id) _ trivial [0] akh I
 |some p=>
  repeat(first|refine GC ?_|refine gV (kx bM.eq I I I) ?_|refine GB ?_)
  refine w6 I λg=>?_
  try refine GA ?_
  refine eM (i:=0) I (λw' hm=>sa w' hm.below) I I (lV MK l) (S5 l) J J I λv'=>?_;rw[eI]
  try refine GA ?_
  refine cO I I λw hm=>?_;exact hm.meets (S:=cI 3 1 l.length (l.flatMap cK.dQ) id) v' trivial [0] akh (by simp[cI])
end bZ
namespace bZ
open Go.RowKit cK dS aU dL dP bJ
def jm(x:bJ.Item):List Value:=[av az x.1,av az x.2.1,av az x.2.2]
theorem mb(x:bJ.Item):(jm x).length=3:=rfl
def Br(x:Option Nat):b9:=match x with
 |some g=>aP g #[av az 2,av az 0] 148
 |none=>⟨ak,λ_=>False,λ_=>True,λ_ _ k h=>by rcases h with h|h;cases h;exact h.elim,λ_ _ _ _ _=>trivial⟩
def aco(vb:Nat->Value)(n:Nat)(x:Option Nat):Value:=match x with
 |some g=>ap (aj ⟨g,0,ak⟩) 1 1
 |none=>vb n
def Vl(F:Nat->Prop)(w:World)(vb:Nat->Value)(l:List aU.Prod):Prop:=∀i,i<l.length->ky aca F w (vb i) (dc l (i:Int)).2
def Af(vb:Nat->Value)(n P:Nat):Spec (Option Nat):=⟨λx=>x.isSome=decide (n=P),λx=>aco vb n x,λx=>[Br x]⟩
theorem Zc{F:Nat->Prop}{w:World}{vp:Value}{l:List aU.Prod}(h:ky oR F w vp l):∃(vb:Nat->Value) (bp:Option Addr) (cp:Nat),vp=ap bp l.length cp/\l.length<=cp/\cp<=maxLen/\Vl F w vb l/\(0<l.length->∃b off,bp=aj ⟨b,off,ak⟩/\F b/\∀i,i<l.length->Rd w b (off+i*2) [av az (dc l (i:Int)).1,vb i]/\cK.dU (dc l (i:Int)).1):=by
 obtain⟨bp,cp,rfl,h1,h2,h3⟩:=h
 by_cases h0:0<l.length
 ·obtain⟨b,off,rfl,hF,hr⟩:=h3 h0
  have key:∀i:Nat,∃v:Value,i<l.length->ky aca F w v (dc l (i:Int)).2/\Rd w b (off+i*2) [av az (dc l (i:Int)).1,v]/\cK.dU (dc l (i:Int)).1:=λi=>by
   by_cases hi:i<l.length
   ·obtain⟨base,cap,q1,q2,q3⟩:=ma hr hi
    have e:dc l (i:Int)=l[i]:=by unfold dc;rw[dF,cB,bK hi];rfl
    exact⟨_,λ_=>by rw[e];exact⟨q3,q1,q2⟩⟩
   exact⟨undef,λh=>absurd h hi⟩
  refine⟨λi=>I9 (key i),aj ⟨b,off,ak⟩,cp,rfl,h1,h2,λi hi=>(DF (key i) hi).1,λ_=>⟨b,off,rfl,hF,λi hi=>(DF (key i) hi).2⟩⟩
 exact⟨λ_=>undef,bp,cp,rfl,h1,h2,λi hi=>absurd hi J,λh=>absurd h h0⟩
theorem afq{n:Nat}{W:bL}{e:Exit}{Q:Exit->Act->World->Prop}{fr:Fr}{L:List b9}(h:E n W e Q fr (L++[Br ak])):E n W e Q fr L:=⟨λa w hr hm=>h.go a w hr ⟨hm.low,ez.both hm.owns (ez.one trivial λk hk=>by rcases hk with hk|hk;cases hk;exact hk.elim) λi j o o' _ hj k _ hk=>by
 match j,hj with
 |0,hj=>
  simp only[px,dh]at hj;subst hj;rcases hk with hk|hk
  cases hk
  exact hk.elim
 |j+1,hj=>simp at hj⟩⟩
theorem Qn(w:World):(df 148 #[(0,av az 2),(1,av az 0)]).run aD w= .ok (aQ #[av az 2,av az 0]) w:=by kernel_rfl
theorem tf(t n:Int)(bp:Option Addr)(cp:Nat)(l:List aU.Prod)(vb:Nat->Value)(w0 w:World)(B:bL)(k:Nat)(hk:k<=l.length)(ho:qx w0 B)(hm:Mem B [] w)(AM:∀i,i<l.length->∃bb m cc,vb i=ap bb m cc)
 (hr:0<l.length->∃b off,bp=aj ⟨b,off,ak⟩/\∀i,i<l.length->Rd w0 b (off+i*2) [av az (dc l (i:Int)).1,vb i]):
 Calls aD 158 #[dM t n (ap bp l.length cp),av az (k:Int)] w (bY (Af vb k l.length) w):=by
 have hb:=Qn;have hr:∀i,i<l.length->∃b off,bp=aj ⟨b,off,ak⟩/\Rd w b (off+i*2) [av az (dc l (i:Int)).1,vb i]:=λi hi=>by
  obtain⟨b,off,q1,q2⟩:=hr J;exact⟨b,off,q1,λj u hj=>ho.cell hm (q2 i hi j u hj)⟩
 clear hm ho;refine enter (args:=[dM t n (ap bp l.length cp),av az (k:Int)]) (n:=18) Tryz.func158 I I I ?_;refine bW (bB (bP I I I λg2=>?_));refine zL ?_
 by_cases c:k=l.length
 ·subst c
  repeat(first|refine GC ?_|refine gV (aB (v:=ap bp l.length cp) aK.ty I (aH (i:=0) I I)) ?_|refine gV (cZ (b:=aC) I I (decide_eq_true I)) ?_|refine gV (bD I hb) ?_|refine GB ?_)
  refine fD (cs:=#[av az 2,av az 0]) [aQ #[av az 2,av az 0]] I I I (by intro v hv;simp at hv;subst hv;rfl) I I I λg11=>?_;refine zL ?_
  try refine GA ?_
  exact cO I I λw hm=>hm.meets (S:=Af vb l.length l.length) (aj g11) (by show aC=decide (l.length=l.length);rw[decide_eq_true I]) [1] akh I
 ·obtain⟨b,off,rfl,eP⟩:=hr k J
  obtain⟨bb,m,cc,hv⟩:=AM k J;have dy:∀(L:List b9),At w L ⟨b,off+k*2+1,ak⟩ (vb k):=λL=>jc eP (j:=1) I;have hlt:k<l.length:=by omega
  repeat(first|refine GC ?_|refine gV (aB (v:=ap (aj ⟨b,off,ak⟩) l.length cp) aK.ty I (aH (i:=0) I I)) ?_|refine gV (cZ (b:=aE) I I (decide_eq_false J)) ?_|refine gV (aY (j:=k) bM.eq aK.ty I I hlt) ?_|refine gV (aB (v:=vb k) aK.ty I (dy _)) ?_|refine GB ?_)
  refine afq ?_;exact cO I I λw hm=>hm.meets (S:=Af vb k l.length) ak (by show aE=decide (k=l.length);rw[decide_eq_false c]) [1] akh I
end bZ
namespace bZ
open Go.RowKit cK dS
open Go.WideElems (Fit findIdx_arr findIdx_born modify_last)
open Go.ChangeMaps Go.MapKept Go.WideShapes
section
variable{P:Program}{k:TypeId}{κ:Type}(K:yt P k κ)
theorem Cb{α:Type}(f:α->α):∀(l:List α) (j:Nat) (a:α),l[j]?=aj a->f a=a->l.modify j f=l
 |[],_,_,h,_=>by simp at h
 |b::r,0,a,h,hf=>by simp at h;subst h;simp[hf]
 |b::r,j+1,a,h,hf=>by simp at h;simp[Yq,Cb f r j a h hf]
theorem modify_eq{α:Type}(f f':α->α):∀(l:List α) (j:Nat) (a:α),l[j]?=aj a->f a=f' a->l.modify j f=l.modify j f'
 |[],_,_,h,_=>by simp at h
 |b::r,0,a,h,hf=>by simp at h;subst h;simp[hf]
 |b::r,j+1,a,h,hf=>by simp at h;simp[Yq,modify_eq f f' r j a h hf]
def Zd(g:Nat)(x:κ)(st:Nat)(z:Value)(f:κ->Value)(b:Nat):b9:=
 ⟨aj g,λ_=>False,λw=>(pG K g z f b).holds w/\∃es clock e0,w.heap[g]?=aj (.map es clock)/\e0∈es.toList/\e0.key=K.kv x/\e0.born=st,
  λw h q hq=>(pG K g z f b).lt w h.1 q hq,
  λw w' ⟨h1,es,clock,e0,h2,h3⟩ hs hk=>⟨(pG K g z f b).stay w w' h1 hs hk,es,clock,e0,(hk g (.inl I)).trans h2,h3⟩⟩
theorem EZ{w:World}{g:Nat}{es:Array MapEntry}{c:Nat}(h:w.heap[g]?=aj (.map es c)):setBlock w g (.map es c)=w:=by
 have e:w.heap.setIfInBounds g (.map es c)=w.heap:=by
  apply Array.ext_getElem?;intro i
  by_cases hi:i=g
  subst hi;exact(heap_setBlock_same h _).trans h.symm;exact heap_setBlock_other h _ hi
 unfold setBlock;rw[e]
variable[DecidableEq κ]
theorem Vm{w:World}{t e:TypeId}{g b:Nat}{f:κ->Value}{x:κ}{z:Value}(ht:P.underlying t=aj (.map k e))(hz:∀u:World,(zeroValue e).run P u= .ok z u)(h:(pG K g z f b).holds w)(hx:K.ok x)(hc:b<=1152921504606846976):
 ∃st w1,(PQ t (.map (aj g)) (K.kv x)).run P w= .ok (.tuple #[f x,goInt (st:Nat)]) w1/\w.grownBy w1 (aj g)/\(Zd K g x st z f (b+1)).holds w1:=by
 have Cc:=HL K (f:=f) ht hz h hx;obtain⟨l,E0⟩:=K.key x hx;obtain⟨m,n,h1,⟨D,⟨es,clock,hb,F,hs,hD⟩,hi⟩,h3⟩:=id h;rcases K.law.find w E0 es.toList F.keys with⟨k1,k2⟩|⟨j,e0,k1,k2,k3⟩
 ·have hfx:f x=z:=by
   have:(JB t (.map (aj g)) (K.kv x) aE).run P w= .ok z w:=by
    simp[JB,run_underlying ht,Bc hb,K.law.check w _ E0,k1,hz,nD]
   rw[Cc]at this
   simpa using this
  obtain⟨w',r1,r2,r3⟩:=L3 K (f':=f) (v:=z) ht h hx hc (λy _=>by by_cases e:y=x<;>simp[e,hfx]);have r1':(AU t (.map (aj g)) (K.kv x) z).run P w= .ok () (setBlock w g (.map (es.push ⟨K.kv x,z,clock⟩) (clock+1))):=by
   simp[AU,run_underlying ht,Bc hb,K.law.check w aE E0,k1,JE _ hb,nD,setBlock]
  have ew:w'=setBlock w g (.map (es.push ⟨K.kv x,z,clock⟩) (clock+1)):=by
   rw[r1]at r1';simpa using r1'
  refine⟨clock,w',?_,r3,r2,es.push ⟨K.kv x,z,clock⟩,clock+1,⟨K.kv x,z,clock⟩,?_,by simp,rfl,rfl⟩
  ·rw[ew,hfx]
   simp[PQ,run_underlying ht,Bc hb,K.law.check w aE E0,k1,hz,JE _ hb,nD,setBlock]
  rw[ew];exact heap_setBlock_same hb _
 ·have hj:es[j]?=aj e0:=by simpa using k2
  have hfx:f x=e0.val:=by
   have:(JB t (.map (aj g)) (K.kv x) aE).run P w= .ok e0.val w:=by
    simp[JB,run_underlying ht,Bc hb,K.law.check w _ E0,k1,nD]
   rw[Cc]at this
   simpa using this
  have vd:es.modify j (λe=>{e with key:=K.kv x})=es:=by
   apply q7;rw[PL];exact Cb _ _ _ _ k2 (by rw[<-k3])
  refine⟨e0.born,w,?_,⟨rfl,rfl,rfl,bz _,λ_ _ _=>rfl⟩,UN J (λ_ _=>rfl) w h,es,clock,e0,hb,mh k2,k3,rfl⟩;rw[hfx];have:=EZ hb;simp[PQ,run_underlying ht,Bc hb,K.law.check w aE E0,k1,hj,k3,K.law.stays w E0,vd,JE _ hb,nD];exact this
theorem Vn{w:World}{t e:TypeId}{g b st:Nat}{f f':κ->Value}{x:κ}{z v:Value}(ht:P.underlying t=aj (.map k e))(h:(Zd K g x st z f b).holds w)(hx:K.ok x)(hc:b<=1152921504606846976)(hf:∀y,K.ok y->f' y=if y=x then v else f y):
 ∃w',(PP t (.map (aj g)) (goInt (st:Nat)) v).run P w= .ok () w'/\(pG K g z f' (b+1)).holds w'/\w.grownBy w' (aj g):=by
 obtain⟨h,es',aiQ,e1,OJ,i_,hk1,xt⟩:=h;obtain⟨w',r1,r2,r3⟩:=L3 K (f':=f') (v:=v) ht h hx hc hf;refine⟨w',?_,r2,r3⟩;rw[<-r1];obtain⟨l,E0⟩:=K.key x hx;obtain⟨m,n,h1,⟨D,⟨es,clock,hb,F,hs,hD⟩,hi⟩,h3⟩:=h;rw[hb]at OJ;simp only[dh,Obj.map.injEq]at OJ;obtain⟨rfl,rfl⟩:=OJ;obtain⟨s1,s2,s3⟩:=F.stamped;rcases K.law.find w E0 es.toList F.keys with⟨k1,k2⟩|⟨j,e0,k1,k2,k3⟩
 ·exact absurd hk1 (k2 e1 i_)
 ·have hj:es[j]?=aj e0:=by simpa using k2
  obtain⟨i,qw⟩:=List.getElem?_of_mem i_;have sE:i=j:=by
   have WB:=(dg.1 qw);have hj2:=(dg.1 k2);obtain⟨li,ei⟩:=WB;obtain⟨lj,ej⟩:=hj2;refine(List.getElem_inj (h₀:=by simpa using li) (h₁:=by simpa using lj) s3).1 ?_;simp only[ta,ei,ej,hk1,k3]
  subst sE;have e01:e1=e0:=by rw[qw]at k2;simpa using k2
  subst e01;subst xt;have afr:es.findIdx? (λe=>((e.born:Nat):Int)==((e1.born:Nat):Int))=aj i:=by
   rw[findIdx_arr];exact findIdx_born s2 k2
  have ae9:es.modify i (λe=>{e with val:=v})=es.modify i (λe'=>{e' with key:=K.kv x,val:=v}):=by
   apply q7;rw[PL,PL];exact modify_eq _ _ _ _ _ k2 (by rw[<-k3])
  simp[PP,AU,run_underlying ht,Bc hb,asInt,asIntOf,goInt,afr,ae9,K.law.check w aE E0,k1,hj,k3,K.law.stays w E0,JE _ hb,nD]
section
variable{W:bL}{fr:Fr}{L:List b9}{Q:Exit->Act->World->Prop}{ops:Array Oper}{rest:List Oper}{n d:Nat}{dst:Option Tmp}{ty:TypeId}{pos:String}{after:Array Edge}{guard:Option (Nat×Bool)}{i g b:Nat}{t e:TypeId}{f:κ->Value}{x:κ}{z:Value}{xm xk xv xs:Operand}
theorem ML(ht:P.underlying t=aj (.map k e))(hz:∀u:World,(zeroValue e).run P u= .ok z u)(hi:L[i]?=aj (pG K g z f b))(hm:ev fr xm=aj (.map (aj g)))(hk:ev fr xk=aj (K.kv x))(hx:K.ok x)(hc:b<=1152921504606846976)(hn:dj d n=aC)
 (h:∀st:Nat,TL P n W ops Q rest ((d,.tuple #[f x,av az (st:Int)])::fr) (L.set i (Zd K g x st z f (b+1)))):
 TL P n W ops Q (⟨aj d,.mapEntry t xm xk,ty,pos,after,ak⟩::rest) fr L:=lg I λa w hr hw KK hK=>by
 obtain⟨st,w1,h1,h2,h3⟩:=Vm K ht hz (hw.get hi) hx hc;have e1:(execOp a.eval ⟨aj d,.mapEntry t xm xk,ty,pos,after,ak⟩).run P w= .ok (.value (.tuple #[f x,av az (st:Int)])) w1:=by
  simp[execOp,hr.ev hm,hr.ev hk,h1,goInt,nD]
 unfold gj;rw[e1];exact hK _ _ ((h st).go _ _ (hr.put hn _) (hw.CH hi h2 h3 λq hq=> .inl hq))
theorem H_{st:Nat}{v:Value}(f':κ->Value)(ht:P.underlying t=aj (.map k e))(hi:L[i]?=aj (Zd K g x st z f b))(hm:ev fr xm=aj (.map (aj g)))(hs:ev fr xs=aj (av az (st:Int)))(hv:ev fr xv=aj v)(hx:K.ok x)(hc:b<=1152921504606846976)(hf:∀y,K.ok y->f' y=if y=x then v else f y)
 (h:TL P n W ops Q rest fr (L.set i (pG K g z f' (b+1)))):
 TL P n W ops Q (⟨ak,.entryStore t xm xs xv,ty,pos,after,ak⟩::rest) fr L:=lg I λa w hr hw KK hK=>by
 obtain⟨w1,h1,h2,h3⟩:=Vn K ht (hw.get hi) hx hc hf;have e1:(execOp a.eval ⟨ak,.entryStore t xm xs xv,ty,pos,after,ak⟩).run P w= .ok .skip w1:=by
  have h1':(PP t (.map (aj g)) (av az (st:Int)) v).run P w= .ok () w1:=h1;simp[execOp,hr.ev hm,hr.ev hs,hr.ev hv,h1',nD]
 unfold gj;rw[e1];exact hK _ _ (h.go _ _ (hr.uK undef) (hw.CH hi h3 h2 λq hq=> .inl hq))
omit [DecidableEq κ]in
theorem Ze{st:Nat}{v:Value}(ht:P.underlying t=aj (.map k e))(hz:∀w,(zeroValue e).run P w= .ok z w)(hi:L[i]?=aj (Zd K g x st z f b))(hm:ev fr xm=aj (.map (aj g)))(hk:ev fr xk=aj (K.kv x))(hx:K.ok x)(hv:f x=v):RR P n W ⟨dst,.lookup t xm xk aE,ty,pos,after,guard⟩ fr L v:=
 LZ K ht hz (λ_ hw=>(hw.get hi).1) hm hk hx hv
end
end
end bZ
namespace bZ
open Go.RowKit cK dS aU dL dP bJ
abbrev RK:=Int×Int
def rkV(x:RK):Value:=aQ #[av az x.1,av az x.2]
set_option maxRecDepth 100000 in
theorem afs(p:RK)(h:cK.dU p.1/\cK.dU p.2):∃l,keyOf aD 340 (rkV p)=aj l:=by
 have e1:aD.cellsOf 340=2:=by kernel_rfl
 have e3:aD.cellsOf 3=1:=by kernel_rfl
 refine Jz (cs:=[av az p.1,av az p.2]) (m:=2) (by kernel_rfl) (by kernel_rfl) (by rw[e1];rfl) (Da 2 (by kernel_rfl)) λd=>?_;refine Bb (d:=d+1) Tryz.underlying340 (by rw[e1];rfl) (by kernel_rfl) λf hf=>?_;simp only[dC,fH,or_false]at hf;rcases hf with rfl|rfl
 ·rw[e3]
  exact uZ Tryz.underlying3 h.1.1 h.1.2
 rw[e3];exact uZ Tryz.underlying3 h.2.1 h.2.2
theorem ahb:(340:TypeId)<aD.types.size:=of_decide_eq_true (by kernel_rfl)
set_option maxRecDepth 100000 in
def jt:yt aD 340 RK where
 kv:=rkV
 ok p:=cK.dU p.1/\cK.dU p.2
 law:=deep_law_laid C' (m:=2) J ahb (by kernel_rfl) (by kernel_rfl)
 key x h:=afs x h
 inj x y h:=by
  simp only[rkV,ly,pI,gU,yA,true_and,and_true]at h;exact oH h.1 h.2
set_option maxRecDepth 100000 in
theorem aft(p:bJ.Item)(h:cK.dU p.1/\cK.dU p.2.1/\cK.dU p.2.2):∃l,keyOf aD 278 (aQ (jm p).toArray)=aj l:=by
 have e1:aD.cellsOf 278=3:=by kernel_rfl
 have e3:aD.cellsOf 3=1:=by kernel_rfl
 refine Jz (cs:=jm p) (m:=2) (by kernel_rfl) (by kernel_rfl) (by rw[e1];rfl) (Da 2 (by kernel_rfl)) λd=>?_;refine Bb (d:=d+1) Tryz.underlying278 (by rw[e1];rfl) (by kernel_rfl) λf hf=>?_;simp only[dC,fH,or_false]at hf;rcases hf with rfl|rfl|rfl
 ·rw[e3]
  exact uZ Tryz.underlying3 h.1.1 h.1.2
 ·rw[e3]
  exact uZ Tryz.underlying3 h.2.1.1 h.2.1.2
 rw[e3];exact uZ Tryz.underlying3 h.2.2.1 h.2.2.2
theorem ahc:(278:TypeId)<aD.types.size:=of_decide_eq_true (by kernel_rfl)
set_option maxRecDepth 100000 in
def JY:yt aD 278 bJ.Item where
 kv x:=aQ (jm x).toArray
 ok p:=cK.dU p.1/\cK.dU p.2.1/\cK.dU p.2.2
 law:=deep_law_laid C' (m:=2) J ahc (by kernel_rfl) (by kernel_rfl)
 key x h:=aft x h
 inj x y h:=by
  simp only[jm,ly,pI,gU,yA,true_and,and_true]at h;exact oH h.1 (oH h.2.1 h.2.2)
theorem Tb{a b:Nat}(ha:a<=9223372036854775807)(hb:b<=9223372036854775807):jt.ok ((a:Int),(b:Int)):=by
 show cK.dU (a:Int)/\cK.dU (b:Int)
 exact⟨⟨by omega,by omega⟩,⟨by omega,by omega⟩⟩
theorem MM(w:World):(zeroValue 114).run aD w= .ok (.int .u64 0) w:=by kernel_rfl
theorem ow(w:World):(zeroValue 3).run aD w= .ok (av az 0) w:=by kernel_rfl
theorem E3{x:Nat}(hx:x<18446744073709551616)(h:x.testBit 62=aC):bits .andNot .u64 (x:Int) 4611686018427387904=((x^^^2^62:Nat):Int):=by
 have e0:(4611686018427387904:Int)=((2^62:Nat):Int):=by decide
 rw[e0];show uA.wrap ((x8 64 (x:Int)&&& ~~~ x8 64 ((2^62:Nat):Int)).toNat:Int)=_
 have hlt:x^^^2^62<2^64:=PX hx akh;have e:x8 64 (x:Int)&&& ~~~ x8 64 ((2^62:Nat):Int)=io 64 (x^^^2^62):=by
  rw[Yl,Yl]
  ext i hi
  simp only[BitVec.getElem_and,BitVec.getElem_not];rw[<-PN,<-PN,<-PN,PO,PO,PO];simp only[hi,decide_true,Bool.true_and,Nat.testBit_xor,Nat.testBit_two_pow]
  by_cases e:62=i
  subst e;rw[h];decide;rw[decide_eq_false e];simp
 rw[e,DE,Nat.mod_eq_of_lt hlt,sN];omega
theorem Zf{P:Program}(x j b:Nat)(k k':IntKind)(hb:k.bits=b)(hj:j<=b)(w:World):(iM .shr k (x:Int) k' (j:Int)).run P w= .ok (.int k ((x/2^j:Nat):Int)) w:=by
 have e:min j b=j:=by omega
 have h0:¬((j:Int)<0):=by omega
 have e2:(x:Int).fdiv (2^j)=((x/2^j:Nat):Int):=by
  rw[Int.fdiv_eq_ediv_of_nonneg _ (by have:(0:Int)<2^j:=Int.pow_pos akh;omega)];simp
 simp only[iM,if_neg h0,hb,dF,e,e2,pu]
theorem afu{y:Nat}(hy:y<18446744073709551616):bits .and .u64 (y:Int) 1=((y %2:Nat):Int):=by
 have h:=bits_nat .u64 64 akh (λn h0 h1=>by rw[sN];omega) y 1 (by simpa using hy) akh;rw[Nat.and_one_is_mod]at h;exact h.1
theorem Ag(x k:Nat):x.testBit k=decide (x/2^k %2=1):=Nat.testBit_eq_decide_div_mod_eq ..
def kG(g:ep)(p d:Int):Nat:=CO g ((fR g.aF p).drop (d.toNat+1)) 4611686018427387904
theorem Tc{g:ep}{body:List dr}{behind:Nat}(hb:behind<18446744073709551616):CO g body behind<18446744073709551616:=by
 unfold CO
 by_cases c:vP g body=0
 ·rw[if_pos c]
  have hg:cz g=0:=by
   unfold vP at c
   by_cases c2:cz g=0
   exact c2;rw[if_pos c2]at c;exact c
  have h60:¬60<body.length:=λh=>by
   unfold vP at c;rw[if_neg (by simpa using hg),if_pos h]at c;cases c
  have om:GV g.aT g.bC body=0:=by
   unfold vP at c;rw[if_neg (by simpa using hg),if_neg h60]at c;exact c
  have hn:=(cV hg).2.2.1;have ht:=(cV hg).2.1;refine pj (JV hg (n:=g.bC.toNat) J).2 hb λx hx h1=>?_;rcases vU (JT om x hx)with h|h
  omega;omega
 rw[if_neg c];decide
def Ce(t n:Int)(vp:Value)(gm:Nat):List Value:=[av az t,av az n,vp,.map (aj gm)]
def ko(lk:Int->Int->Nat)(f:RK->Option Value):Prop:=∀x v,f x=aj v->v=ik (lk x.1 x.2)
theorem Qo(a b:Int)(w:World):(df 340 #[(0,av az a),(1,av az b)]).run aD w= .ok (aQ #[av az a,av az b]) w:=by go_simp
theorem ko.put{lk:Int->Int->Nat}{f:RK->Option Value}(h:ko lk f)(x:RK):ko lk (λy=>if y=x then aj (ik (lk x.1 x.2))else f y):=by
 intro y v hv;dsimp only at hv
 by_cases c:y=x
 ·rw[if_pos c]at hv
  cases hv;rw[c]
 rw[if_neg c]at hv;exact h y v hv
theorem E4(a:dr):(eC a).length=2:=rfl
theorem JZ{t n:Int}{vp v:Value}{gm j:Nat}(h:[av az t,av az n,vp][j]?=aj v):(Ce t n vp gm).toArray[0+j]?=aj v:=by
 rw[cX]
 match j,h with
 |0,h=>exact h
 |1,h=>exact h
 |2,h=>exact h
theorem Ah{l:List aU.Prod}{w0:World}{W:bL}{L:List b9}{vb:Nat->Value}{k i:Nat}{x:Option Nat}(ho:qx w0 W)(hv:Vl (λq=>q<w0.heap.size) w0 vb l)(hk:k<=l.length)(hx:x.isSome=decide (k=l.length))(hi:L[i]?=aj (Br x)):∃b c,aco vb k x=ap b (fR l (k:Int)).length c/\(fR l (k:Int)).length<=c/\SlL W L (aco vb k x) (fR l (k:Int)).length ((fR l (k:Int)).flatMap eC):=by
 cases x with
 |some g=>
  have hk:k=l.length:=by simpa using hx
  subst hk;have e:fR l (l.length:Int)=[(2,0)]:=by unfold fR;rw[if_pos I]
  rw[e];exact⟨_,_,rfl,bz _,lq hi (λj u h=>by simpa[eC]using h) (bz _) akh⟩
 | none=>
  have lO:k<l.length:=by
   have:¬k=l.length:=by simpa using hx
   omega
  have e:fR l (k:Int)=(dc l (k:Int)).2:=by unfold fR;rw[if_neg J]
  rw[e];have h:=hv k lO;have hs:=h.flat (f:=eC) akh;obtain⟨b,c,e2,e3,_⟩:=id h;exact⟨b,c,e2,e3,λw hm=>hs.gr (ho.mem hm)⟩
attribute [local irreducible] Op.shift Go.bits in
theorem MN(g:ep)(hg:cz g=0)(bp:Option Addr)(cp:Nat)(vb:Nat->Value)(w0:World)(hG:kK (λq=>q<w0.heap.size) w0 (dM g.aT g.bC (ap bp g.aF.length cp)) g)(AM:Vl (λq=>q<w0.heap.size) w0 vb g.aF)(oT:0<g.aF.length->∃b off,bp=aj ⟨b,off,ak⟩/\∀i,i<g.aF.length->Rd w0 b (off+i*2) [av az (dc g.aF (i:Int)).1,vb i])
 (go gm c:Nat) (f:RK->Option Value) (it:bJ.Item) (T:Nat) (hT:T<=30) (hr:eG g.aF T it) (hd:it.2.1.toNat<(fR g.aF it.1).length) (hc:ko (kG g) f) (hcc:c<=1000000000000000) (w:World) (B:bL) (ho:qx w0 B)
 (hm:Mem B [aP go (Ce g.aT g.bC (ap bp g.aF.length cp) gm).toArray 314,fq jt gm f c] w):
 Calls aD 159 #[aJ (aj ⟨go,0,ak⟩),aQ (jm it).toArray] w (da ⟨λ(x:(RK->Option Value)×Nat)=>ko (kG g) x.1/\x.2<=c+1,λ_=>ik (vX (kG g) it),λx=>[aP go (Ce g.aT g.bC (ap bp g.aF.length cp) gm).toArray 314,fq jt gm x.1 x.2]⟩ B):=by
 obtain⟨p,d,lo⟩:=it;obtain⟨r1,r2,r3,r4,r5,r6⟩:=hr;dsimp only at r1 r2 r3 r4 r5 r6 hd;obtain⟨k,rfl⟩:=iw r1;obtain⟨dn,rfl⟩:=iw r3;obtain⟨ln,rfl⟩:=iw r5;rw[dF]at hd;have hk:k<=g.aF.length:=by omega
 have H':=λw' (rX:Mem B [] w')=>tf g.aT g.bC bp cp g.aF vb w0 w' B k hk ho rX (λi hi=>let ⟨b,c,h,_⟩:=AM i hi;⟨b,_,c,h⟩) oT;have CI:=λvs body w' (rX:Gr w0 w') hs=>sb _ vs g body 4611686018427387904 w' (hG.gr rX) hs akh;have hbr:=Qo (k:Int) (dn:Int);have hlt:kG g (k:Int) (dn:Int)<18446744073709551616:=Tc akh;have hb8:=nc (l:=g.aF) (p:=(k:Int)) (λq hq=>((cV hg).2.2.2.2.2 q hq).1);refine dB hm (args:=[aJ (aj ⟨go,0,ak⟩),aQ (jm ((k:Int),(dn:Int),(ln:Int))).toArray]) (n:=61) Tryz.func159 I I I ?_;refine bW (bB (bP I I I λg3=>?_));refine zL ?_
 repeat(first|refine GA ?_|refine gV (aB (v:=av az (k:Int)) aK.ty I (aH (i:=2) I I)) ?_|refine gV (aB (v:=av az (dn:Int)) aK.ty I (aH (i:=2) I I)) ?_|refine gV (bD I hbr) ?_)
 refine a8 I λg5=>?_;refine zL ?_;refine ij 3 (cs':=#[av az (k:Int),av az (dn:Int)]) ?_;refine zL ?_;have UO:jt.ok ((k:Int),(dn:Int)):=Tb (by have:=(cV hg).2.2.2.2.1;omega) J;have UO:jt.ok ((k:Int),(dn:Int)):=Tb (by have:=(cV hg).2.2.2.2.1;omega) J;have UO:jt.ok ((k:Int),(dn:Int)):=Tb (by have:=(cV hg).2.2.2.2.1;omega) J;have UO:jt.ok ((k:Int),(dn:Int)):=Tb (by have:=(cV hg).2.2.2.2.1;omega) J;have JN:=hc.put ((k:Int),(dn:Int));have Lu:kG g (k:Int) (dn:Int)=CO g ((fR g.aF (k:Int)).drop (dn+1)) 4611686018427387904:=by unfold kG;rw[dF]
 have pf:=hc ((k:Int),(dn:Int));dsimp only at JN pf;unfold vX;dsimp only;rw[dF];generalize hB0:kG g (k:Int) (dn:Int)=B0 at*
 try refine GA ?_
 cases hf:f ((k:Int),(dn:Int))with
 | some v=>
  have hv:=pf v hf;subst hv;clear H' CI JN pf;refine dT ([aP go (Ce g.aT g.bC (ap bp g.aF.length cp) gm).toArray 314,fq jt gm f c,aP g3 (aQ (jm ((k:Int),(dn:Int),(ln:Int))).toArray).cells 278,aP g5 #[av az (k:Int),av az (dn:Int)] 340]) (.calm 0 (.calm 1 (.calm 2 (.calm 3 (.calm 4 (.calm 5 (.calm 6 (.calm 7 (.calm 8 (.calm 9 (.calm 10 (.done)))))))))))) (λ_ h=>h) ?_
  repeat(first|refine GW ?_|(refine GN ?_;first|refine QW (aB (v:= .map (aj gm)) aK.ty I (aH (i:=0) I I)) ?_|refine QW (aO (i:=3) aK.ty I I I) ?_|refine QW (pg (x:=((k:Int),(dn:Int))) jt bM.eq MM (i:=1) I I I UO) ?_))
  rw[hf];dsimp only[Yx,PY]
  try refine GA ?_
  have hdv:B0/2^62<=B0:=Es _ _;have ha1:=afu (y:=B0/2^62) J;have xt:∀w,(iM .shr .u64 (B0:Int) .u64 62).run aD w= .ok (.int .u64 ((B0/2^62:Nat):Int)) w:=λw=>Zf B0 62 64 .u64 .u64 I akh w;have sa:∀w,(iM .shl .u64 1 .i64 (ln:Int)).run aD w= .ok (.int .u64 ((2^ln:Nat):Int)) w:=λw=>aci ln J w
  by_cases cb:B0.testBit 62=aC
  ·rw[if_pos cb]
   have hn:=E3 hlt cb;have fO:B0^^^2^62<18446744073709551616:=PX (n:=64) hlt akh;have Lt:=r7 fO (Aa (m:=ln) J);have GY:B0/2^62 %2=1:=by rw[Ag]at cb;exact of_decide_eq_true cb
   generalize B0/2^62=D1 at*;generalize B0^^^2^62=D2 at*;generalize 2^ln=D3 at*
   repeat(first|refine GC ?_|refine gV (pB I I xt) ?_|refine gV (nK I I ha1) ?_|refine gV (cZ (b:=aE) I I (decide_eq_false J)) ?_|refine gV (S7 I I hn) ?_|refine gV (aB (v:=av az (ln:Int)) aK.ty I (aH (i:=2) I I)) ?_|refine gV (DW I I sa) ?_|refine gV (zn I I Lt) ?_|refine GB ?_)
   exact cO I I λw hm=>hm.cC (S:=⟨λ(x:(RK->Option Value)×Nat)=>ko (kG g) x.1/\x.2<=c+1,λ_=>ik (D2|||D3),λx=>[aP go (Ce g.aT g.bC (ap bp g.aF.length cp) gm).toArray 314,fq jt gm x.1 x.2]⟩) (f,c) ⟨hc,by omega⟩ [0,1] akh I
  rw[if_neg cb];have C8:B0/2^62 %2=0:=by
   rw[Ag,decide_eq_true_eq]at cb;omega
  generalize B0/2^62=D1 at*
  repeat(first|refine GC ?_|refine gV (pB I I xt) ?_|refine gV (nK I I ha1) ?_|refine gV (cZ (b:=aC) I I (decide_eq_true J)) ?_|refine GB ?_)
  exact cO I I λw hm=>hm.cC (S:=⟨λ(x:(RK->Option Value)×Nat)=>ko (kG g) x.1/\x.2<=c+1,λ_=>ik B0,λx=>[aP go (Ce g.aT g.bC (ap bp g.aF.length cp) gm).toArray 314,fq jt gm x.1 x.2]⟩) (f,c) ⟨hc,by omega⟩ [0,1] akh I
 | none=>
  clear pf;refine dT ([aP go (Ce g.aT g.bC (ap bp g.aF.length cp) gm).toArray 314,fq jt gm f c,aP g3 (aQ (jm ((k:Int),(dn:Int),(ln:Int))).toArray).cells 278,aP g5 #[av az (k:Int),av az (dn:Int)] 340]) (.calm 0 (.calm 1 (.calm 2 (.calm 3 (.calm 4 (.calm 5 (.calm 6 (.calm 7 (.calm 8 (.calm 9 (.calm 10 (.done)))))))))))) (λ_ h=>h) ?_
  repeat(first|refine GW ?_|(refine GN ?_;first|refine QW (aB (v:= .map (aj gm)) aK.ty I (aH (i:=0) I I)) ?_|refine QW (aO (i:=3) aK.ty I I I) ?_|refine QW (pg (x:=((k:Int),(dn:Int))) jt bM.eq MM (i:=1) I I I UO) ?_))
  rw[hf];dsimp only[Yx,PY]
  try refine GA ?_
  refine dT ([aP go (Ce g.aT g.bC (ap bp g.aF.length cp) gm).toArray 314,aP g3 (aQ (jm ((k:Int),(dn:Int),(ln:Int))).toArray).cells 278]) (.calm 0 (.calm 1 (.calm 2 (.calm 3 (.calm 4 (.calm 5 (.calm 6 (.calm 7 (.calm 8 (.calm 9 (.calm 11 (.calm 12 (.calm 13 (.one 10 (.calm 14 (.one 15 (.calm 16 (.calm 17 (.calm 18 (.calm 19 (.done))))))))))))))))))))) (bX [0,2]) ?_
  repeat(first|(refine GN ?_;first|refine QW QP ?_|refine QW (bm aK.ty I (cs:=[av az g.aT,av az g.bC,ap bp g.aF.length cp]) I (λj v h=>aH (i:=0) I (JZ h))) ?_|refine QW (aB (v:=av az (k:Int)) aK.ty I (aH (i:=1) I I)) ?_|refine QW (aB (v:=av az (dn:Int)) aK.ty I (aH (i:=1) I I)) ?_|refine QW (dW (r:=((dn+1:Nat):Int)) I I J J J) ?_|refine GX ?_)|refine GW ?_)
  refine aL I ?_;refine aV (fB aI.en I I I) (λw hm=>H' _ (hm.pick [] akh I)) I I I ?_;rintro x hx
  conv=>arg 8;simp only[zJ,cI,ret,id_eq,Af]
  conv=>arg 7;simp only[Af]
  obtain⟨bb,cc,hv,hlc,sa⟩:=Ah (W:=B) (i:=4) (L:=[aP go (Ce g.aT g.bC (ap bp g.aF.length cp) gm).toArray 314,fq jt gm f c,aP g3 (aQ (jm ((k:Int),(dn:Int),(ln:Int))).toArray).cells 278,aP g5 #[av az (k:Int),av az (dn:Int)] 340,Br x]) ho AM hk hx rfl;rw[hv]at sa⊢;have pq:((fR g.aF (k:Int)).drop (dn+1)).take ((fR g.aF (k:Int)).length-(dn+1))=(fR g.aF (k:Int)).drop (dn+1):=fU (by rw[ic];exact bz _);have lf:=λw hm=>Ea (i:=dn+1) (j:=(fR g.aF (k:Int)).length) E4 (sa w hm) J (bz _);rw[pq]at lf;generalize PH:(fR g.aF (k:Int)).length=m at*;refine aM (bX [0,2]) ?_
  repeat(first|(refine GN ?_;first|refine QW QP ?_|refine QW (rT (i:=dn+1) bM.eq aK.ty I I J hlc) ?_|refine GX ?_)|refine GW ?_)
  refine aL I ?_;refine aV (sV aI.en I I I I) (λw hm=>CI _ _ _ (ho.mem hm) (lf w hm)) I I I ?_;intro _ _;refine zL ?_;rw[<-Lu];refine aM (bX [0,2]) ?_
  try refine GW ?_
  try refine GA ?_
  refine dT ([aP go (Ce g.aT g.bC (ap bp g.aF.length cp) gm).toArray 314,aP g5 #[av az (k:Int),av az (dn:Int)] 340]) (.calm 0 (.calm 1 (.calm 2 (.calm 3 (.calm 4 (.calm 5 (.one 6 (.done)))))))) (bX [0,3]) ?_
  repeat(first|refine GW ?_|(refine GN ?_;first|refine QW (aB (v:= .map (aj gm)) aK.ty I (aH (i:=0) I I)) ?_|refine QW (aO (i:=1) aK.ty I I I) ?_))
  refine aL I ?_;refine mI (i:=1) (x:=((k:Int),(dn:Int))) (v:=ik B0) jt bM.eq I I I I UO J ?_;refine zL ?_;rw[hf];dsimp only[PY];refine aM (bX [0,3]) ?_
  try refine GW ?_
  try refine GA ?_
  have hdv:B0/2^62<=B0:=Es _ _;have ha1:=afu (y:=B0/2^62) J;have xt:∀w,(iM .shr .u64 (B0:Int) .u64 62).run aD w= .ok (.int .u64 ((B0/2^62:Nat):Int)) w:=λw=>Zf B0 62 64 .u64 .u64 I akh w;have sa:∀w,(iM .shl .u64 1 .i64 (ln:Int)).run aD w= .ok (.int .u64 ((2^ln:Nat):Int)) w:=λw=>aci ln J w
  by_cases cb:B0.testBit 62=aC
  ·rw[if_pos cb]
   have hn:=E3 hlt cb;have fO:B0^^^2^62<18446744073709551616:=PX (n:=64) hlt akh;have Lt:=r7 fO (Aa (m:=ln) J);have GY:B0/2^62 %2=1:=by rw[Ag]at cb;exact of_decide_eq_true cb
   generalize B0/2^62=D1 at*;generalize B0^^^2^62=D2 at*;generalize 2^ln=D3 at*
   repeat(first|refine GC ?_|refine gV (pB I I xt) ?_|refine gV (nK I I ha1) ?_|refine gV (cZ (b:=aE) I I (decide_eq_false J)) ?_|refine gV (S7 I I hn) ?_|refine gV (aB (v:=av az (ln:Int)) aK.ty I (aH (i:=2) I I)) ?_|refine gV (DW I I sa) ?_|refine gV (zn I I Lt) ?_|refine GB ?_)
   exact cO I I λw hm=>hm.cC (S:=⟨λ(x:(RK->Option Value)×Nat)=>ko (kG g) x.1/\x.2<=c+1,λ_=>ik (D2|||D3),λx=>[aP go (Ce g.aT g.bC (ap bp g.aF.length cp) gm).toArray 314,fq jt gm x.1 x.2]⟩) (_,c+1) ⟨JN,bz _⟩ [0,1] akh I
  rw[if_neg cb];have C8:B0/2^62 %2=0:=by
   rw[Ag,decide_eq_true_eq]at cb;omega
  generalize B0/2^62=D1 at*
  repeat(first|refine GC ?_|refine gV (pB I I xt) ?_|refine gV (nK I I ha1) ?_|refine gV (cZ (b:=aC) I I (decide_eq_true J)) ?_|refine GB ?_)
  exact cO I I λw hm=>hm.cC (S:=⟨λ(x:(RK->Option Value)×Nat)=>ko (kG g) x.1/\x.2<=c+1,λ_=>ik B0,λx=>[aP go (Ce g.aT g.bC (ap bp g.aF.length cp) gm).toArray 314,fq jt gm x.1 x.2]⟩) (_,c+1) ⟨JN,bz _⟩ [0,1] akh I
end bZ
namespace bZ
open Go.RowKit cK dS bJ Go.Lib Go.Sort
theorem acp(x:Int)(w:World):Calls aD 207 #[av az x] w λe w'=>e= .returned (.bool aE)/\w'=w:=by
 go_enter Tryz.func207,Tryz.ntmps207
 go_wp2
 go_ret
 exact⟨by simp,rfl⟩
theorem Vo(x y:Int)(w:World):Calls aD 179 #[av az x,av az y] w λe w'=>e= .returned (av az (vV x y))/\w'=w:=by
 go_enter Tryz.func179,Tryz.ntmps179
 go_wp2_with (go_at_call 207;refine(acp _ _).mono ?_;rintro e w' ⟨rfl,hw⟩;rw[hw])
 all_goals (go_ret;refine⟨?_,rfl⟩;unfold vV;(repeat' split)<;>first|rfl|(exfalso;omega))
def orI(a b c:Int):Int:=if a≠0 then a else if b≠0 then b else c
theorem ahd{a b c:Int}(h:¬a=0):orI a b c=a:=if_pos h
theorem ahe{b c:Int}(h:¬b=0):orI 0 b c=b:=by unfold orI;rw[if_neg (by simp),if_pos h]
theorem aem{c:Int}:orI 0 0 c=c:=by unfold orI;rw[if_neg (by simp),if_neg (by simp)]
theorem aiR(g:Nat)(a b c:Int)(w:World)(h0:w.cell? ⟨g,0,ak⟩=aj (av az a))(h1:w.cell? ⟨g,1,ak⟩=aj (av az b))(h2:w.cell? ⟨g,2,ak⟩=aj (av az c)):
 Calls aD 178 #[ap (aj ⟨g,0,ak⟩) 3 3] w λe w'=>e= .returned (av az (orI a b c))/\w'=w:=by
 go_enter Tryz.func178,Tryz.ntmps178
 go_wp2
 by_cases ha:a=0
 ·subst ha
  refine wp_loop_rounds 4 ?_;rw[rounds_succ]
  go_wp2
  by_cases hb:b=0
  ·subst hb
   rw[rounds_succ]
   go_wp2
   by_cases hc:c=0
   ·subst hc
    rw[rounds_succ]
    go_wp2
    rw[rounds_succ]
    go_wp2
    go_ret
    exact⟨by rw[aem];rfl,rfl⟩
   rw[rounds_succ]
   go_wp2
   go_ret
   exact⟨by rw[aem];rfl,rfl⟩
  rw[rounds_succ]
  go_wp2
  go_ret
  exact⟨by rw[ahe hb];rfl,rfl⟩
 ·refine wp_loop_rounds 1 ?_
  rw[rounds_succ]
  go_wp2
  go_ret
  exact⟨by rw[ahd ha];rfl,rfl⟩
theorem ahf(o1 o2:Obj)(a b c:Int)(T:TypeId)(w:World):
 Calls aD 178 #[ap (aj ⟨w.heap.size+1+1,0,ak⟩) 3 3] (((w.alloc o1).alloc o2).alloc (.cells #[av az a,av az b,av az c] T)).drew λe w'=>e= .returned (av az (orI a b c))/\w'=(((w.alloc o1).alloc o2).alloc (.cells #[av az a,av az b,av az c] T)).drew:=by
 have hg:(((w.alloc o1).alloc o2).alloc (.cells #[av az a,av az b,av az c] T)).drew.heap[w.heap.size+1+1]?=aj (.cells #[av az a,av az b,av az c] T (0,0)):=by
  have h:=heap_alloc_new ((w.alloc o1).alloc o2) (.cells #[av az a,av az b,av az c] T);have e:((w.alloc o1).alloc o2).heap.size=w.heap.size+1+1:=by
   show((w.heap.push o1).push o2).size=_
   rw[PM,PM]
  rw[e]at h;exact h
 exact aiR _ a b c _ (cell_of_row _ _ 0 _ T (0,0) hg) (cell_of_row _ _ 1 _ T (0,0) hg) (cell_of_row _ _ 2 _ T (0,0) hg)
end bZ
namespace bZ
open Go.RowKit cK dS bJ Go.Lib Go.Sort
theorem Zg(a b:Obj)(w:World):((w.alloc a).alloc b).heap[w.heap.size]?=aj a/\((w.alloc a).alloc b).heap[w.heap.size+1]?=aj b:=by
 have e:(w.alloc a).heap.size=w.heap.size+1:=by
  show(w.heap.push a).size=_
  rw[PM]
 constructor
 ·rw[heap_alloc_old (w.alloc a) b J]
  exact heap_alloc_new w a
 have h:=heap_alloc_new (w.alloc a) b;rw[e]at h;exact h
theorem Qp(a b c:Obj)(w:World):(((w.alloc a).alloc b).alloc c).drew=grow (w.drewN 1) #[a,b,c]:=by
 rw[alloc_eq_grow,alloc_eq_grow,alloc_eq_grow,grow_grow,grow_grow];rfl
theorem acq(x y:bJ.Item)(w:World):Calls aD 161 #[aQ (jm x).toArray,aQ (jm y).toArray] w λe w'=>e= .returned (av az (MD x y))/\∃q os',w'=grow (w.drewN q) os':=by
 obtain⟨x1,x2,x3⟩:=x;obtain⟨y1,y2,y3⟩:=y;have ho:MD (x1,x2,x3) (y1,y2,y3)=orI (vV x1 y1) (vV x2 y2) (vV x3 y3):=rfl;rw[ho];clear ho;unfold jm;dsimp only;obtain⟨t1,t2⟩:=Zg (.cells #[av az x1,av az x2,av az x3] 278) (.cells #[av az y1,av az y2,av az y3] 278) w;have k1:=cell_of_row _ _ 0 _ _ (0,0) t1;have k2:=cell_of_row _ _ 1 _ _ (0,0) t1;have k3:=cell_of_row _ _ 2 _ _ (0,0) t1;have k4:=cell_of_row _ _ 0 _ _ (0,0) t2;have k5:=cell_of_row _ _ 1 _ _ (0,0) t2;have k6:=cell_of_row _ _ 2 _ _ (0,0) t2;clear t1 t2
 go_enter Tryz.func161,Tryz.ntmps161
 go_wp2
 go_region_held (λw'=>w'.cell? ⟨w.heap.size,0,ak⟩=aj (av az x1)/\w'.cell? ⟨w.heap.size,1,ak⟩=aj (av az x2)/\w'.cell? ⟨w.heap.size,2,ak⟩=aj (av az x3)/\w'.cell? ⟨w.heap.size+1,0,ak⟩=aj (av az y1)/\w'.cell? ⟨w.heap.size+1,1,ak⟩=aj (av az y2)/\w'.cell? ⟨w.heap.size+1,2,ak⟩=aj (av az y3)) (go_keep) (first|(go_at_call 179;refine(Vo _ _ _).mono ?_;rintro e w' ⟨rfl,rfl⟩)|(go_at_call 178;have hzz:=(ahf (.cells #[av az x1,av az x2,av az x3] 278) (.cells #[av az y1,av az y2,av az y3] 278) (vV x1 y1) (vV x2 y2) (vV x3 y3) 3 w);refine hzz.mono ?_;clear hzz;rintro e w' ⟨rfl,rfl⟩))
 go_wp2
 go_ret
 refine⟨rfl,1,#[.cells #[av az x1,av az x2,av az x3] 278,.cells #[av az y1,av az y2,av az y3] 278,.cells #[av az (vV x1 y1),av az (vV x2 y2),av az (vV x3 y3)] 3],?_⟩;exact Qp _ _ _ w
end bZ
namespace bZ
open Go.RowKit cK dS aU dL dP bJ
theorem Qq(t n:Int)(vp:Value)(gm:Nat)(w:World):(df 314 #[(0,dM t n vp),(1,.map (aj gm))]).run aD w= .ok (aQ (Ce t n vp gm).toArray) w:=by kernel_rfl
def acr(t n:Int)(vp:Value):Spec (Nat×Nat):=⟨λ_=>True,λx=>aJ (aj ⟨x.1,0,ak⟩),λx=>[fq jt x.2 (λ_=>ak) 0,aP x.1 (Ce t n vp x.2).toArray 314]⟩
theorem J0(t n:Int)(vp:Value)(w:World):Calls aD 126 #[dM t n vp] w (bY (acr t n vp) w):=by
 have hb:=Qq t n vp;refine enter (args:=[dM t n vp]) (n:=7) Tryz.func126 I I I ?_;refine bW (bB (bP I I I λg1=>?_));refine zL ?_
 repeat(first|refine GA ?_|refine gV (aO (i:=0) aK.ty I I I) ?_)
 refine yu jt I λgm=>?_;refine zL ?_
 repeat(first|refine GA ?_|refine gV (bD I (hb _)) ?_)
 refine bP I I I λgo=>?_;refine zL ?_
 try refine GA ?_
 exact cO I I λw hm=>hm.meets (S:=acr t n vp) (go,gm) trivial [1,2] akh I
end bZ
namespace bZ
open Go.RowKit cK dS aU dL dP bJ
theorem J1{x:Int}(h0:0<=x)(h1:x<256):JD.wrap x=(((fY x.toNat).toNat:Nat):Int):=by
 obtain⟨n,rfl⟩:=iw h0;rw[dF,JC];simp
theorem Ia(l:List bJ.Item):(iJ l).length=3*l.length:=by
 induction l with
 |nil=>rfl
 |cons x r ih=>
  have:iJ (x::r)=[fY x.1.toNat,fY x.2.1.toNat,fY x.2.2.toNat]++iJ r:=rfl;rw[this,bI,ih,db];show 3+3*r.length=3*(r.length+1)
  omega
theorem Qr{l:List bJ.Item}{k:Nat}(h:k<l.length):iJ (l.take (k+1))=iJ (l.take k)++[fY l[k].1.toNat,fY l[k].2.1.toNat,fY l[k].2.2.toNat]:=by
 unfold iJ;rw[gX h,fV];rfl
theorem E5(vl:Value)(l:List bJ.Item)(w:World)(hl:Sl w vl l.length (l.flatMap jm))(hb:∀it∈l,0<=it.1/\it.1<256/\0<=it.2.1/\it.2.1<256/\0<=it.2.2/\it.2.2<256)(hn:l.length<=20000):
 Calls aD 128 #[vl] w (bY (ret (str (iJ l))) w):=by
 obtain⟨bl,cl,rfl,pf,zw,J2⟩:=hl;unfold maxLen at zw;refine enter (args:=[ap bl l.length cl]) (n:=27) Tryz.func128 I I I ?_
 try refine GA ?_
 refine jd 5 1 ?_
 conv=>arg 7;simp only[zA,zB,zC,zD,zE,zF,zG,zH,zI,cI,ret,id_eq]
 refine d_ (ι:=Nat×Value) (λ(k,_)=>k<=l.length) (λ(k,v)=>[(3,v),(6,ap bl l.length cl),(7,av az l.length),(8,av az (k:Int))])
  (λ(k,v)=>[aZ 5 1 v (iJ (l.take k)).length ((iJ (l.take k)).map Xz)]) (λ(k,_)=>l.length-k) (0,ap ak 0 0) (bH _) ?_
 rintro⟨k,v⟩ i1;dsimp only at i1⊢
 by_cases c1:k<l.length
 ·obtain⟨b,off,rfl,eP⟩:=J2 J
  have dy:=λL=>ib (L:=L) mb eP c1;have E6:∀(L:List b9) (j:Nat) (u:Value),(jm l[k])[j]?=aj u->At (w:bL) L ⟨b,off+k*3+j,ak⟩ u:=dy;clear dy J2 eP;obtain⟨b1,b2,b3,b4,b5,b6⟩:=hb l[k] (b_ c1);have wg:=Qr c1;have xJ:(iJ (l.take k)).length<=60000:=by rw[Ia,iN];omega
  generalize l[k]=x at*;obtain⟨p,d,lo⟩:=x;dsimp only at b1 b2 b3 b4 b5 b6 wg;have e1:=J1 b1 b2;have e2:=J1 b3 b4;have e3:=J1 b5 b6;generalize fY p.toNat=y1 at*;generalize fY d.toNat=y2 at*;generalize fY lo.toNat=y3 at*;generalize hN:iJ (l.take k)=N at*
  repeat(first|refine GA ?_|refine gV (aY bM.eq aK.ty I I c1) ?_|refine gV (bm (cs:=jm (p,d,lo)) aK.ty I I (E6 _)) ?_)
  refine a8 I λg5=>?_;refine zL ?_;refine ij 1 (cs':=(jm (p,d,lo)).toArray) ?_;refine zL ?_
  repeat(first|refine GA ?_|refine gV (aB (v:=av az p) aK.ty I (aH (i:=1) I I)) ?_|refine gV (aB (v:=av az d) aK.ty I (aH (i:=1) I I)) ?_|refine gV (aB (v:=av az lo) aK.ty I (aH (i:=1) I I)) ?_|refine gV (jo bM.eq bM.eq I e1) ?_|refine gV (jo bM.eq bM.eq I e2) ?_|refine gV (jo bM.eq bM.eq I e3) ?_)
  refine SE [Xz y1,Xz y2,Xz y3] I I I (by intro v hv;simp at hv;rcases hv with rfl|rfl|rfl<;>rfl) I I λg22=>?_;refine zL ?_;refine eM (i:=0) (e:=5) (size:=1) (bytes:=1) (m:=N.length) (xs:=N.map Xz) (k:=3) (ys:=[Xz y1,Xz y2,Xz y3]) I (lq (i:=2) I (λj u h=>by simpa using h) (bz 3) akh) I I I (by intro u hu;simp at hu;rcases hu with rfl|rfl|rfl<;>rfl) J J I λv'=>?_;refine zL ?_
  try refine GA ?_
  refine dm [0] ?_;exact bT (k+1,v') (by show k+1<=l.length;omega) (by show l.length-(k+1)<l.length-k;omega) (hl:=by dsimp only;rw[wg,bI,e7];rfl)
 ·obtain rfl:k=l.length:=by omega
  rw[List.take_length]
  repeat(first|refine GA ?_|refine gV (Uz bM.eq bM.eq bM.eq I I (lm (i:=0) I)) ?_)
  exact eH
theorem GZ(T N:Nat)(hT:T<=1000)(hN:N<=1000)(vp:Value)(w:World):
 Calls aD 130 #[dM (T:Int) (N:Int) vp] w (bY (cI 148 2 (nh T N).length ((nh T N).flatMap eC) id) w):=by
 have GY:=λ(q:Int)=>H7 1 q;have OO:=λ(q:Int)=>H7 2 q;refine enter (args:=[dM (T:Int) (N:Int) vp]) (n:=29) Tryz.func130 I I I ?_;refine bW (bB (bP I I I λg1=>?_));refine zL ?_
 repeat(first|refine GA ?_|refine gV (aB (v:=av az (T:Int)) aK.ty I (aH (i:=0) I I)) ?_)
 refine jd 148 2 ?_
 conv=>arg 7;simp only[zA,zB,zC,zD,zE,zF,zG,zH,zI,cI,ret,id_eq]
 refine d_ (ι:=Nat×Value) (λ(k,_)=>k<=T) (λ(k,v)=>[(1,aJ (aj ⟨g1,0,ak⟩)),(3,v),(7,av az (T:Int)),(8,av az (k:Int))])
  (λ(k,v)=>[aP g1 (dM (T:Int) (N:Int) vp).cells 33,aZ 148 2 v ((eg k).map (λn:Nat=>((1:Int),(n:Int)))).length (((eg k).map (λn:Nat=>((1:Int),(n:Int)))).flatMap eC)]) (λ(k,_)=>T-k) (0,ap ak 0 0) (bH _) ?_
 rintro⟨k,v⟩ i1;dsimp only at i1⊢
 by_cases c1:k<T
 ·have wg:(eg (k+1)).map (λn:Nat=>((1:Int),(n:Int)))=(eg k).map (λn:Nat=>((1:Int),(n:Int)))++[((1:Int),(k:Int))]:=by rw[Bd,e7];rfl
  have xJ:((eg k).map (λn:Nat=>((1:Int),(n:Int)))).length=k:=by rw[dA,pJ]
  generalize hA:(eg k).map (λn:Nat=>((1:Int),(n:Int)))=A at*
  repeat(first|refine GA ?_|refine gV (bD I (GY _)) ?_)
  refine jO (i:=1) I I I I I I I (λz h=>by cases h;rfl) J J I λz v'=>?_;refine zL ?_
  try refine GA ?_
  exact bT (k+1,v') (by show k+1<=T;omega) (by show T-(k+1)<T-k;omega) (hl:=by dsimp only;rw[wg,bI,fV];rfl)
 obtain rfl:k=T:=by omega
 have xJ:((eg k).map (λn:Nat=>((1:Int),(n:Int)))).length=k:=by rw[dA,pJ]
 have hS:nh k N=(eg k).map (λn:Nat=>((1:Int),(n:Int)))++(eg N).map (λn:Nat=>((2:Int),(n:Int))):=rfl;generalize nh k N=S at*;generalize hA:(eg k).map (λn:Nat=>((1:Int),(n:Int)))=A at*
 repeat(first|refine GA ?_|refine gV (aB (v:=av az (N:Int)) aK.ty I (aH (i:=0) I I)) ?_)
 refine mq (ι:=Nat×Value) (λ(j,_)=>j<=N) (λ(j,v)=>[(3,v),(18,av az (N:Int)),(19,av az (j:Int))])
  (λ(j,v)=>[aP g1 (dM (k:Int) (N:Int) vp).cells 33,aZ 148 2 v (A++(eg j).map (λn:Nat=>((2:Int),(n:Int)))).length ((A++(eg j).map (λn:Nat=>((2:Int),(n:Int)))).flatMap eC)]) (λ(j,_)=>N-j) (0,v) (bH _) (by repeat' (first|exact cT|refine cJ I ?_)) (by simp only[List.range_zero,q_,du]) ?_
 rintro⟨j,v⟩ j1;dsimp only at j1⊢
 by_cases c2:j<N
 ·have wg:A++(eg (j+1)).map (λn:Nat=>((2:Int),(n:Int)))=(A++(eg j).map (λn:Nat=>((2:Int),(n:Int))))++[((2:Int),(j:Int))]:=by rw[Bd,e7,dZ];rfl
  have ajO:(A++(eg j).map (λn:Nat=>((2:Int),(n:Int)))).length<=2000:=by rw[bI,dA,pJ];omega
  generalize hD:A++(eg j).map (λn:Nat=>((2:Int),(n:Int)))=D at*
  repeat(first|refine GA ?_|refine gV (bD I (OO _)) ?_)
  refine jO (i:=1) I I I I I I I (λz h=>by cases h;rfl) J J I λz v'=>?_;refine zL ?_
  try refine GA ?_
  exact bT (j+1,v') (by show j+1<=N;omega) (by show N-(j+1)<N-j;omega) (hl:=by dsimp only;rw[wg,bI,fV];rfl)
 obtain rfl:j=N:=by omega
 rw[<-hS]
 try refine GA ?_
 exact cO I I λw hm=>hm.meets (S:=cI 148 2 S.length (S.flatMap eC) id) v trivial [1] akh I
end bZ
namespace bZ
open Go.Shelf
def MO:Go.Shelf.Ren:=⟨λ|189=>148|125=>176|257=>175|128=>197|129=>198|294=>188|295=>189|296=>190|297=>191|298=>192|299=>193|216=>194|300=>195|301=>196|328=>210|329=>211|330=>212|331=>213|332=>214|215=>207|343=>218|n=>n,λ|28=>26|3=>3|46=>281|0=>0|51=>360|53=>114|4=>4|183=>354|182=>353|131=>178|5=>5|9=>9|218=>369|222=>149|228=>376|229=>377|n=>n,λ|n=>n⟩
theorem Td:Go.Proofs.Lays.n189 aD MO:={
 mixed:=by kernel_rfl
 f125:=Tryz.func176.trans (congrArg aj (by kernel_rfl))
 f128:=Tryz.func197.trans (congrArg aj (by kernel_rfl))
 f129:=Tryz.func198.trans (congrArg aj (by kernel_rfl))
 f189:=Tryz.func148.trans (congrArg aj (by kernel_rfl))
 f215:=Tryz.func207.trans (congrArg aj (by kernel_rfl))
 f216:=Tryz.func194.trans (congrArg aj (by kernel_rfl))
 f257:=Tryz.func175.trans (congrArg aj (by kernel_rfl))
 f294:=Tryz.func188.trans (congrArg aj (by kernel_rfl))
 f295:=Tryz.func189.trans (congrArg aj (by kernel_rfl))
 f296:=Tryz.func190.trans (congrArg aj (by kernel_rfl))
 f297:=Tryz.func191.trans (congrArg aj (by kernel_rfl))
 f298:=Tryz.func192.trans (congrArg aj (by kernel_rfl))
 f299:=Tryz.func193.trans (congrArg aj (by kernel_rfl))
 f300:=Tryz.func195.trans (congrArg aj (by kernel_rfl))
 f301:=Tryz.func196.trans (congrArg aj (by kernel_rfl))
 f328:=Tryz.func210.trans (congrArg aj (by kernel_rfl))
 f329:=Tryz.func211.trans (congrArg aj (by kernel_rfl))
 f330:=Tryz.func212.trans (congrArg aj (by kernel_rfl))
 f331:=Tryz.func213.trans (congrArg aj (by kernel_rfl))
 f332:=Tryz.func214.trans (congrArg aj (by kernel_rfl))
 f343:=Tryz.func218.trans (congrArg aj (by kernel_rfl))
 t0:=Tryz.underlying0
 a0:=Tryz.isAgg0
 z0:=Tryz.sizeOf0
 v0:=Tryz.zeroValue0
 t3:=Tryz.underlying3
 a3:=Tryz.isAgg3
 z3:=Tryz.sizeOf3
 v3:=Tryz.zeroValue3
 t4:=Tryz.underlying4
 a4:=Tryz.isAgg4
 z4:=Tryz.sizeOf4
 v4:=Tryz.zeroValue4
 t5:=Tryz.underlying5
 a5:=Tryz.isAgg5
 z5:=Tryz.sizeOf5
 v5:=Tryz.zeroValue5
 t9:=Tryz.underlying9
 a9:=Tryz.isAgg9
 z9:=Tryz.sizeOf9
 v9:=Tryz.zeroValue9
 t28:=Tryz.underlying26
 a28:=Tryz.isAgg26
 z28:=Tryz.sizeOf26
 v28:=Tryz.zeroValue26
 t46:=Tryz.underlying281
 a46:=Tryz.isAgg281
 z46:=Tryz.sizeOf281
 v46:=Tryz.zeroValue281
 t51:=Tryz.underlying360
 a51:=Tryz.isAgg360
 z51:=Tryz.sizeOf360
 v51:=Tryz.zeroValue360
 t53:=Tryz.underlying114
 a53:=Tryz.isAgg114
 z53:=Tryz.sizeOf114
 v53:=Tryz.zeroValue114
 t131:=Tryz.underlying178
 a131:=Tryz.isAgg178
 z131:=Tryz.sizeOf178
 v131:=Tryz.zeroValue178
 t182:=Tryz.underlying353
 a182:=Tryz.isAgg353
 z182:=Tryz.sizeOf353
 v182:=Tryz.zeroValue353
 t183:=Tryz.underlying354
 a183:=Tryz.isAgg354
 z183:=Tryz.sizeOf354
 v183:=Tryz.zeroValue354
 t218:=Tryz.underlying369
 a218:=Tryz.isAgg369
 z218:=Tryz.sizeOf369
 v218:=Tryz.zeroValue369
 t222:=Tryz.underlying149
 a222:=Tryz.isAgg149
 z222:=Tryz.sizeOf149
 v222:=Tryz.zeroValue149
 t228:=Tryz.underlying376
 a228:=Tryz.isAgg376
 z228:=Tryz.sizeOf376
 v228:=Tryz.zeroValue376
 t229:=Tryz.underlying377
 a229:=Tryz.isAgg377
 z229:=Tryz.sizeOf377
 v229:=Tryz.zeroValue377}
open Go.Sort Go.RowKit in
theorem slices_Sort_int(A5 off cap:Nat)(zs:List Int)(w:World)(hH:Holds (av .i64) w A5 off zs.toArray)(hblk:A5<w.heap.size)(hsz:zs.length<4611686018427387904):
 Calls aD 148 #[ap (aj ⟨A5,off,ak⟩) zs.length cap] w λe w'=>
  e= .returned (.tuple #[])/\∃n os,w'=grow (putRow (av .i64) (Sort.ahead w n) A5 off (zs.mergeSort λx y=>decide (x<=y)).toArray) os:=Any.slices_Sort_int Td A5 off cap zs w hH hblk hsz
def G0:Go.Shelf.Ren:=⟨λ|20=>149|n=>n,λ|22=>26|3=>3|4=>4|0=>0|n=>n,λ|n=>n⟩
theorem Ib:Go.Proofs.Lays2.n20 aD G0:={
 mixed:=by kernel_rfl
 f20:=Tryz.func149.trans (congrArg aj (by kernel_rfl))
 t0:=Tryz.underlying0
 a0:=Tryz.isAgg0
 z0:=Tryz.sizeOf0
 v0:=Tryz.zeroValue0
 t3:=Tryz.underlying3
 a3:=Tryz.isAgg3
 z3:=Tryz.sizeOf3
 v3:=Tryz.zeroValue3
 t4:=Tryz.underlying4
 a4:=Tryz.isAgg4
 z4:=Tryz.sizeOf4
 v4:=Tryz.zeroValue4
 t22:=Tryz.underlying26
 a22:=Tryz.isAgg26
 z22:=Tryz.sizeOf26
 v22:=Tryz.zeroValue26
 i3:=by kernel_rfl}
open Go.RowKit Go.Lib Go.Sort in
theorem slices_Compact_int(A5 off cap:Nat)(zs:List Int)(w:World)(hH:Holds (av .i64) w A5 off zs.toArray)(hsz:zs.length<=9223372036854775807)(lW:zs.length<=cap):
 Calls aD 149 #[ap (aj ⟨A5,off,ak⟩) zs.length cap] w λe w'=>e= .returned (ap (aj ⟨A5,off,ak⟩) (ri zs).length cap)/\∃q,w'=putRow (av .i64) (Sort.ahead w q) A5 off (ri zs++cL (zs.length-(ri zs).length) 0).toArray:=Any.slices_Compact_int Ib A5 off cap zs w hH hsz lW
open Go.RowKit Go.Lib Go.Sort in
theorem slices_Compact_int_empty(a:Option Addr)(cap:Nat)(w:World):
 Calls aD 149 #[ap a 0 cap] w λe w'=>e= .returned (ap a 0 cap)/\w'=w:=Any.slices_Compact_int_empty Ib a cap w
open Go.RowKit Go.Sort in
theorem slices_Sort_int_none(p:Option Addr)(cap:Nat)(w:World):
 Calls aD 148 #[ap p 0 cap] w λe w'=>e= .returned (.tuple #[])/\w'=w:=Any.slices_Sort_int_none Td p cap w
end bZ
namespace bZ
open Go.RowKit cK dS Go.Sort
theorem Vp(w:World)(n g:Nat)(d:Array Int)(os:Array Obj){k:Nat}(hk:k<w.heap.size)(hg:k≠g):(grow (putRow (av .i64) (Go.Sort.ahead w n) g 0 d) os).heap[k]?=w.heap[k]?:=by
 rw[heap_grow_old _ _ (by rw[size_putRow];exact hk)];show(w.heap.modify g _)[k]?=w.heap[k]?
 rw[En,if_neg (λh=>hg h.symm)]
theorem Te{B:bL}{w:World}{e:TypeId}{g cap m:Nat}{zs:List Int}(hm:Mem B [aZ e 1 (ap (aj ⟨g,0,ak⟩) m cap) m (zs.map (av .i64))] w)(d:Array Int)(hd:d.size=m)(m':Nat)(h':m'<=m)(n:Nat)(os:Array Obj):
 Mem B [aZ e 1 (ap (aj ⟨g,0,ak⟩) m' cap) m' ((d.toList.take m').map (av .i64))] (grow (putRow (av .i64) (Go.Sort.ahead w n) g 0 d) os):=by
 have ho:w.ownsRow 0 e 1 (ap (aj ⟨g,0,ak⟩) m cap) m (zs.map (av .i64)):=hm.get (i:=0) I;obtain⟨hl,hr⟩:=ho;rcases hr with⟨h,_⟩|⟨g2,Qs,jZ,hv,_,hg,hc,hx,hs,ht⟩
 ·cases h
 cases hv
 have MP:B.may g:=(hm.owns.all 0 _ I).2 g (.inl I);have hgw:g<w.heap.size:=(jx.1 hg).1;have Zh:(grow (putRow (av .i64) (Go.Sort.ahead w n) g 0 d) os).heap[g]?=aj (.cells (putCells (av .i64) 0 d jZ) e (0,0)):=by
  rw[heap_grow_old _ _ (by rw[size_putRow];exact hgw)];show(w.heap.modify g (onCells (putCells (av .i64) 0 d)))[g]?=_
  rw[En,if_pos I,hg];rfl
 refine⟨⟨hm.low.os,hm.low.tape,hm.low.output,?_,λk hk hx=>?_⟩,ez.one ⟨?_,.inr ⟨g,cap,_,rfl,bH _,Zh,by omega,hx,?_,?_⟩⟩ λk hk=>?_⟩
 ·rw[size_grow,size_putRow];exact fI hm.low.size (yC _ _)
 ·have hkg:k≠g:=λe=>by
   subst e;rcases MP with h|h
   omega;exact hx h
  rw[Vp w n g d os (iO hk hm.low.size) hkg];exact hm.low.block k hk hx
 ·rw[dA,iN,Array.length_toList,hd];omega
 ·unfold putCells;rw[Array.size_mapIdx];exact hs
 ·apply mi
  intro j;rw[k_,rl]
  by_cases hj:j<m'
  ·have hjc:j<jZ.size:=by omega
   rw[if_pos hj,fe,rl,if_pos hj,rh,rh];unfold putCells;rw[Array.getElem?_mapIdx,yz hjc,Option.map_some,if_pos ⟨bH _,by omega⟩,Nat.sub_zero,getElem!_pos d j J,yz (by omega:j<d.size)];rfl
  rw[if_neg hj,fe,rl,if_neg hj];rfl
 ·rcases hk with h|h
  simp only[aZ,Value.ownBlock,dh]at h;subst h;exact MP;exact h.elim
theorem Ic{w:World}{e:TypeId}{g cap m:Nat}{zs:List Int}(ho:w.ownsRow 0 e 1 (ap (aj ⟨g,0,ak⟩) m cap) m (zs.map (av .i64))):Holds (av .i64) w g 0 zs.toArray/\g<w.heap.size/\m=zs.length/\m<=cap:=by
 obtain⟨hl,hr⟩:=ho;rcases hr with⟨h,_⟩|⟨g2,Qs,jZ,hv,_,hg,hc,hx,hs,ht⟩
 cases h
 cases hv
 rw[dA]at hl;refine⟨λj hj=>?_,(jx.1 hg).1,by omega,hc⟩;have sF:j<zs.length:=by simpa using hj
 have hcj:jZ[j]?=aj (av az zs[j]):=by
  have:=congrArg (λl=>l[j]?) ht;rw[k_,rl,if_pos J,rh,fe,bK sF]at this;exact this
 refine⟨?_,?_⟩;rw[cell_of_row w g (0+j) _ _ _ hg,cX,hcj,getElem!_pos zs.toArray j hj];rfl;unfold World.frozen?;rw[hg];simp
def wh(l:List Int):List Int:=l.mergeSort λx y=>decide (x<=y)
theorem MQ(v:Value)(l:List Int)(w:World)(B:bL)(hm:Mem B [aZ 3 1 v l.length (l.map (av .i64))] w)(hl:l.length<4611686018427387904):
 Calls aD 148 #[v] w (da ⟨λ(_:Unit)=>True,λ_=> .tuple #[],λ_=>[aZ 3 1 v l.length ((wh l).map (av .i64))]⟩ B):=by
 have ho:w.ownsRow 0 3 1 v l.length (l.map (av .i64)):=hm.get (i:=0) I;have C_:=ho;rcases ho.2 with⟨rfl,h0⟩|⟨g,cap,jZ,rfl,_,hg,hc,hx,hs,ht⟩
 ·refine(slices_Sort_int_none ak 0 w).mono λe w' ⟨he,hw⟩=>⟨(),trivial,he,?_⟩
  obtain rfl:l=[]:=Yo.1 h0;rw[hw];exact(by simpa[wh]using hm)
 ·obtain⟨h1,h2,h3,h4⟩:=Ic C_
  refine(slices_Sort_int g 0 cap l w h1 h2 hl).mono λe w' ⟨he,n,os,hw⟩=>⟨(),trivial,he,?_⟩;have hlen:(wh l).length=l.length:=PV _;have:=Te hm (wh l).toArray (by simp[hlen]) l.length (bz _) n os;rw[fU (by simp[hlen])]at this;rw[hw];exact this
theorem E7(v:Value)(l:List Int)(w:World)(B:bL)(hm:Mem B [aZ 3 1 v l.length (l.map (av .i64))] w):
 Calls aD 149 #[v] w (da ⟨λ(_:Value)=>True,λv'=>v',λv'=>[aZ 3 1 v' (ri l).length ((ri l).map (av .i64))]⟩ B):=by
 have ho:w.ownsRow 0 3 1 v l.length (l.map (av .i64)):=hm.get (i:=0) I;have C_:=ho;rcases ho.2 with⟨rfl,h0⟩|⟨g,cap,jZ,rfl,_,hg,hc,hx,hs,ht⟩
 ·refine(slices_Compact_int_empty ak 0 w).mono λe w' ⟨he,hw⟩=>⟨ap ak 0 0,trivial,he,?_⟩
  obtain rfl:l=[]:=Yo.1 h0;rw[hw];exact hm
 ·obtain⟨h1,h2,h3,h4⟩:=Ic C_
  refine(slices_Compact_int g 0 cap l w h1 (by unfold maxLen at hx;omega) J).mono λe w' ⟨he,n,hw⟩=>⟨ap (aj ⟨g,0,ak⟩) (ri l).length cap,trivial,he,?_⟩;have hle:(ri l).length<=l.length:=Lib.compact_length_le l;have:=Te hm (ri l++cL (l.length-(ri l).length) 0).toArray (by simp;omega) (ri l).length hle n #[];rw[grow_empty]at this;simp only[List.toList_toArray,List.take_left]at this;rw[hw];exact this
end bZ
namespace eE
open de gd Go.Lib
def wh(l:List Int):List Int:=l.mergeSort λx y=>decide (x<=y)
def rr(a b:List Int):List Int:=compact (wh (a++b))
theorem J3(l:List Int):(wh l).Pairwise (· <= ·):=by
 have:=Yn (le:=λx y:Int=>decide (x<=y)) (λa b c=>by simp;omega) (λa b=>by simp;omega) l;exact this.imp (by simp)
theorem tY{d:Array Int}(hs:∀i j,i<=j->j<d.size->d[i]! <=d[j]!):∀m,m<=d.size->(compactUpTo d m).Pairwise (· < ·)/\(∀x,x∈compactUpTo d m↔∃j,j<m/\d[j]! =x)
 |0,_=>⟨by unfold compactUpTo;simp,λx=>by unfold compactUpTo;simp⟩
 | m + 1,hm=>by
  obtain⟨h1,h2⟩:=tY hs m J;rw[compactUpTo_succ]
  by_cases hk:keeps d m=aC
  ·rw[if_pos hk]
   have lO:m=0\/d[m]! ≠d[m-1]! :=by unfold keeps at hk;simpa using hk
   refine⟨List.pairwise_append.2 ⟨h1,Yp _ _,λx hx y hy=>?_⟩,λx=>?_⟩
   ·rw[dO.1 hy]
    obtain⟨j,hj,rfl⟩:=(h2 x).1 hx;have a1:=hs j (m-1) J J;have a2:=hs (m-1) m J J;rcases lO with h0|h0
    omega;omega
   rw[fx,dO,h2]
   constructor
   ·rintro(⟨j,hj,rfl⟩|rfl)
    exact⟨j,by omega,rfl⟩;exact⟨m,by omega,rfl⟩
   rintro⟨j,hj,rfl⟩
   by_cases c:j=m
   subst c;exact .inr I;exact .inl ⟨j,by omega,rfl⟩
  rw[if_neg hk,du];refine⟨h1,λx=>?_⟩;rw[h2]
  constructor
  rintro⟨j,hj,rfl⟩;exact⟨j,by omega,rfl⟩;rintro⟨j,hj,rfl⟩
  by_cases c:j=m
  ·subst c
   have lO:¬(j=0\/d[j]! ≠d[j-1]!):=by unfold keeps at hk;simpa using hk
   have e:d[j]! =d[j-1]! :=by
    rcases aff (d[j]! =d[j-1]!)with h|h
    exact h;exact absurd (.inr h) lO
   have:j≠0:=λh=>lO (.inl h);exact⟨j-1,by omega,e.symm⟩
  exact⟨j,by omega,rfl⟩
theorem Qt{l:List Int}(h:l.Pairwise (· <= ·)):∀i j,i<=j->j<l.toArray.size->l.toArray[i]! <=l.toArray[j]! :=by
 intro i j sE hj;have sF:j<l.length:=by simpa using hj
 rw[getElem!_pos l.toArray i (by simp;omega),getElem!_pos l.toArray j hj]
 by_cases c:i=j
 subst c;exact lX _;exact List.pairwise_iff_getElem.1 h i j J sF J
theorem Di(a b:List Int):(rr a b).Pairwise (· < ·)/\∀x,x∈rr a b↔x∈a\/x∈b:=by
 have hs:=Qt (J3 (a++b));obtain⟨h1,h2⟩:=tY hs (wh (a++b)).length (by simp);refine⟨h1,λx=>?_⟩;unfold rr compact;rw[h2,<-fx,<-List.mem_mergeSort (l:=a++b) (le:=λx y:Int=>decide (x<=y))];show _↔x∈wh (a++b)
 rw[iB]
 constructor
 rintro⟨j,hj,rfl⟩;exact⟨j,hj,by rw[getElem!_pos _ j (by simpa using hj)];rfl⟩;rintro⟨j,hj,rfl⟩;exact⟨j,hj,by rw[getElem!_pos _ j (by simpa using hj)];rfl⟩
def Ie(n:Nat)(l:List Int):Prop:=l.Pairwise (· < ·)/\∀x∈l,0<=x/\x<n
theorem kp{n:Nat}{l:List Int}(h:Ie n l):l.length<=n:=by
 have key:∀(l:List Int) (lo:Int),l.Pairwise (· < ·)->(∀x∈l,lo<=x/\x<n)->lo<=n->(l.length:Int)<=n-lo:=by
  intro l
  induction l with
  |nil=>intro lo _ _ h;show(0:Int)<=_;omega
  |cons x r ih=>
   intro lo hp hx _;rw[Ys]at hp;have h1:=hx x (ia ..);have:=ih (x+1) hp.2 (λy hy=>⟨by have:=hp.1 y hy;omega,(hx y (jR _ hy)).2⟩) J;rw[db];omega
 have:=key l 0 h.1 h.2 J;omega
theorem xc(n:Nat):Ie n []:=⟨afh,λx h=>by cases h⟩
theorem ox{n m:Nat}{l:List Int}(h:Ie n l)(hm:n<=m):Ie m l:=⟨h.1,λx hx=>by have:=h.2 x hx;omega⟩
theorem th{n:Nat}{a b:List Int}(ha:∀x∈a,0<=x/\x<n)(hb:∀x∈b,0<=x/\x<n):Ie n (rr a b):=
 ⟨(Di a b).1,λx hx=>((Di a b).2 x|>.1 hx).elim (ha x) (hb x)⟩
theorem E8:∀{a b:List Int},a.Pairwise (· < ·)->b.Pairwise (· < ·)->(∀x,x∈a↔x∈b)->a=b
 |[],[],_,_,_=>rfl
 |[],y::b,_,_,h=>by have:=(h y).2 (ia ..);cases this
 |x::a,[],_,_,h=>by have:=(h x).1 (ia ..);cases this
 | x ::a,y::b,ha,hb,h=>by
  rw[Ys]at ha hb;have hxy:x=y:=by
   rcases dC.1 ((h x).1 (ia ..))with e|e
   exact e;rcases dC.1 ((h y).2 (ia ..))with e'|e'
   exact e'.symm;have h1:=hb.1 x e;have h2:=ha.1 y e';omega
  subst hxy;rw[E8 ha.2 hb.2 λz=>?_]
  constructor
  ·intro hz
   rcases dC.1 ((h z).1 (jR _ hz))with e|e
   subst e;exact absurd (ha.1 z hz) J;exact e
  intro hz;rcases dC.1 ((h z).2 (jR _ hz))with e|e
  subst e;exact absurd (hb.1 z hz) J;exact e
structure PS where
 a_:List C4
 rules:List Int
 follow:List (List Int)
 last:List Bool
structure Shape where
 empty:Bool
 first:List Int
 last:List Int
def fE(ny:List (List Int))(last first:List Int):List (List Int):=last.foldl (λf x=>f.set x.toNat (rr (f.getD x.toNat []) first)) ny
def cP(bQ:Int):Re->PS->Shape×PS
  | .empty,p=>(⟨aC,[],[]⟩,p)
  | .none,p=>(⟨aE,[],[]⟩,p)
  | .byte c,p=>(⟨aE,[(p.a_.length:Int)],[(p.a_.length:Int)]⟩,⟨p.a_++[c],p.rules++[bQ],p.follow++[[]],p.last++[aE]⟩)
  | .star a,p=>(⟨aC,(cP bQ a p).1.first,(cP bQ a p).1.last⟩,{(cP bQ a p).2 with follow:=fE (cP bQ a p).2.follow (cP bQ a p).1.last (cP bQ a p).1.first})
  | .Js a b,p=>(⟨(cP bQ a p).1.empty||(cP bQ b (cP bQ a p).2).1.empty,rr (cP bQ a p).1.first (cP bQ b (cP bQ a p).2).1.first,rr (cP bQ a p).1.last (cP bQ b (cP bQ a p).2).1.last⟩,(cP bQ b (cP bQ a p).2).2)
  | .Jr a b,p=>
    (⟨(cP bQ a p).1.empty&&(cP bQ b (cP bQ a p).2).1.empty,
      if(cP bQ a p).1.empty then rr (cP bQ a p).1.first (cP bQ b (cP bQ a p).2).1.first else(cP bQ a p).1.first,
      if(cP bQ b (cP bQ a p).2).1.empty then rr (cP bQ a p).1.last (cP bQ b (cP bQ a p).2).1.last else(cP bQ b (cP bQ a p).2).1.last⟩,
     {(cP bQ b (cP bQ a p).2).2 with follow:=fE (cP bQ b (cP bQ a p).2).2.follow (cP bQ a p).1.last (cP bQ b (cP bQ a p).2).1.first})
structure MU(p:PS):Prop where
 rules:p.rules.length=p.a_.length
 follow:p.follow.length=p.a_.length
 last:p.last.length=p.a_.length
 ris:∀l∈p.follow,Ie p.a_.length l
theorem lA(ny:List (List Int))(last first:List Int):(fE ny last first).length=ny.length:=by
 unfold fE
 induction last generalizing ny with
 |nil=>rfl
 |cons x r ih=>rw[List.foldl_cons,ih,PW]
theorem ti{n:Nat}{first:List Int}(hf:∀x∈first,0<=x/\x<n):∀(last:List Int) (ny:List (List Int)),(∀l∈ny,Ie n l)->∀l∈fE ny last first,Ie n l
 |[],ny,h=>h
 | x ::r,ny,h=>by
  show ∀l∈fE (ny.set x.toNat (rr (ny.getD x.toNat []) first)) r first,Ie n l
  refine ti hf r _ λl hl=>?_;rcases PR hl with hl|rfl
  exact h l hl;refine th (λy hy=>?_) hf
  by_cases c:x.toNat<ny.length
  ·rw[cB,bK c]at hy
   exact(h _ (b_ c)).2 y hy
  rw[cB,List.getElem?_eq_none J]at hy
  cases hy
theorem mc(bQ:Int):∀(e:Re) (p:PS),MU p->MU (cP bQ e p).2/\p.a_.length<=(cP bQ e p).2.a_.length/\(cP bQ e p).2.a_.length<=p.a_.length+e.size/\Ie (cP bQ e p).2.a_.length (cP bQ e p).1.first/\Ie (cP bQ e p).2.a_.length (cP bQ e p).1.last
 | .empty,p,h=>⟨h,bz _,yC _ _,xc _,xc _⟩
 | .none,p,h=>⟨h,bz _,yC _ _,xc _,xc _⟩
 | .byte c,p,h=>by
  have h1:Ie (p.a_++[c]).length [(p.a_.length:Int)]:=⟨Yp _ _,λx hx=>by rw[dO.1 hx,bI,nM];omega⟩;refine⟨⟨?_,?_,?_,λl hl=>?_⟩,?_,?_,h1,h1⟩;show(p.rules++[bQ]).length=(p.a_++[c]).length;rw[bI,bI,h.rules];rfl
  show(p.follow++[[]]).length=(p.a_++[c]).length;rw[bI,bI,h.follow];rfl
  show(p.last++[aE]).length=(p.a_++[c]).length;rw[bI,bI,h.last];rfl
  ·have hl:l∈p.follow++[[]]:=hl
   show Ie (p.a_++[c]).length l
   rcases fx.1 hl with hl|hl
   exact ox (h.ris l hl) (by simp);rw[dO.1 hl];exact xc _
  show p.a_.length<=(p.a_++[c]).length;simp
  show(p.a_++[c]).length<=_;simp[Re.size]
 | .star a,p,h=>by
  obtain⟨h1,h2,h3,h4,h5⟩:=mc bQ a p h;exact⟨⟨h1.rules,(lA _ _ _).trans h1.follow,h1.last,ti h4.2 _ _ h1.ris⟩,h2,by show _<=p.a_.length+(a.size+1);exact fI h3 J,h4,h5⟩
 | .Js a b,p,h=>by
  obtain⟨h1,h2,h3,h4,h5⟩:=mc bQ a p h;obtain⟨k1,k2,k3,k4,k5⟩:=mc bQ b _ h1;exact⟨k1,fI h2 k2,by show _<=p.a_.length+(a.size+b.size+1);exact fI k3 J,th (ox h4 k2).2 k4.2,th (ox h5 k2).2 k5.2⟩
 | .Jr a b,p,h=>by
  obtain⟨h1,h2,h3,h4,h5⟩:=mc bQ a p h;obtain⟨k1,k2,k3,k4,k5⟩:=mc bQ b _ h1;refine⟨⟨k1.rules,(lA _ _ _).trans k1.follow,k1.last,ti k4.2 _ _ k1.ris⟩,fI h2 k2,by show _<=p.a_.length+(a.size+b.size+1);exact fI k3 J,?_,?_⟩
  ·show Ie _ (if _ then _ else _)
   split;exact th (ox h4 k2).2 k4.2;exact ox h4 k2
  show Ie _ (if _ then _ else _)
  split;exact th (ox h5 k2).2 k5.2;exact k5
end eE
namespace bZ
open Go.RowKit cK dS eE
theorem sc(l:List Int):l.flatMap cK.dQ=l.map (av .i64):=by
 induction l with
 |nil=>rfl
 |cons x r ih=>rw[mg,ih];rfl
abbrev gJ(v:Value)(l:List Int):b9:=aZ 3 1 v l.length (l.map (av .i64))
def tZ(l:List Int):Spec Value:=⟨λ_=>True,λv=>v,λv=>[gJ v l]⟩
theorem iK(va vb:Value)(a b:List Int)(w:World)(ha:Sl w va a.length (a.map (av .i64)))(hb:Sl w vb b.length (b.map (av .i64)))(hla:a.length<=1000000)(hlb:b.length<=1000000):
 Calls aD 113 #[va,vb] w (bY (tZ (rr a b)) w):=by
 have jW:=λw' (hg:Gr w w')=>kA va a w' (by rw[sc];exact ha.gr hg) J;refine enter (args:=[va,vb]) (n:=14) Tryz.func113 I I I ?_
 try refine GA ?_
 refine aV (i_ aI.en I I) (λw hm=>jW _ hm.below) I I I ?_;intro v1 _;refine zL ?_;rw[sc]
 try refine GA ?_
 refine eM (i:=0) (bytes:=8) (m:=a.length) (xs:=a.map (av .i64)) (k:=b.length) (ys:=b.map (av .i64)) I (aeX hb) I I (by rw[dA,k_]) (λu hu=>by obtain⟨x,_,rfl⟩:=eT.1 hu;rfl) J J I λv2=>?_;rw[<-e7,<-bI];refine zL ?_
 try refine GA ?_
 refine bx [0] [] akh I I (i_ aI.en I I) (λw hm hb=>MQ v2 (a++b) w _ hb (by rw[bI];omega)) I I I ?_;intro _ _;refine zL ?_
 try refine GA ?_
 rw[show(a++b).length=(bZ.wh (a++b)).length from(PV _).symm];refine bx [0] [] akh I I (i_ aI.en I I) (λw hm hb=>E7 v2 (bZ.wh (a++b)) w _ hb) I I I ?_;intro v3 _;refine zL ?_
 try refine GA ?_
 exact cO I I λw hm=>hm.meets (S:=tZ (rr a b)) v3 trivial [0] akh I
end bZ
namespace bZ
open Go.RowKit cK dS eE
def Ai(v:Value):List Value:=[v]
theorem MV(v:Value):(Ai v).length=1:=rfl
theorem Vq(l:List Value):l.flatMap Ai=l:=by
 induction l with
 |nil=>rfl
 |cons x r ih=>rw[mg,ih];rfl
theorem J4{w w':World}{e:TypeId}{size n:Nat}{v:Value}{xs:List Value}(h:w.ownsRow 0 e size v n xs)(hk:∀k,v.ownBlock=aj k->w'.heap[k]?=w.heap[k]?):w'.ownsRow 0 e size v n xs:=by
 refine⟨h.1,?_⟩;rcases h.2 with hn|⟨g,cap,jZ,rfl,C8,hg,rest⟩
 exact .inl hn;exact .inr ⟨g,cap,jZ,rfl,C8,by rw[hk g I];exact hg,rest⟩
def afv:w8 (List Int):=
 ⟨1,λF w cs l=>∃v,cs=[v]/\(∀x∈l,cK.dU x)/\w.ownsRow 0 3 1 v l.length (l.map (av .i64))/\∀k,v.ownBlock=aj k->F k,λ⟨_,h,_⟩=>by rw[h];rfl,
  λ⟨v,h1,h2,h3,h4⟩ hk=>⟨v,h1,h2,J4 h3 λk h=>hk k (h4 k h),h4⟩,λ⟨v,h1,h2,h3,h4⟩ hk=>⟨v,h1,h2,h3,λk h=>hk k (h4 k h)⟩⟩
abbrev yQ(v:Value)(vs:List Value):b9:=aZ 26 1 v vs.length (vs.flatMap Ai)
abbrev wj(F:Nat->Prop)(vs:List Value)(ny:List (List Int)):b9:=eh afv F (vs.map Ai) ny
def Tf(vc vr vf vfol vl ve:Value)(bQ:Int):Array Value:=#[vc,vr,vf,vfol,vl,ve,av az bQ]
theorem acs{α:Type}{s:w8 α}{F F2:Nat->Prop}{gH:List (List Value)}{cs:List Value}{l:List α}{a:α}{w:World}{k:Nat}(he:(eh s F gH l).holds w)(hs:s.is F2 w cs a)(h2:∀k,F2 k->k<w.heap.size):
 (eh s (λk=>F k\/F2 k) (gH.set k cs) (l.set k a)).holds w:=by
 obtain⟨⟨h1,h3⟩,h4⟩:=he;refine⟨⟨by simp[h1],λi hi qw=>?_⟩,λk hk=>hk.elim (h4 k) (h2 k)⟩;rw[Yu,Yu]
 by_cases c:k=i
 ·subst c
  rw[if_pos I,if_pos I];exact s.mono hs λq hq=> .inr hq
 ·rw[if_neg c,if_neg c]
  exact s.mono (h3 i (by simpa using hi) (by simpa using qw)) λq hq=> .inl hq
theorem Zi{F:Nat->Prop}{vs:List Value}{ny:List (List Int)}{w:World}(he:(wj F vs ny).holds w){k:Nat}(hk:k<ny.length)(lO:k<vs.length):Sl w vs[k] ny[k].length (ny[k].map (av .i64)):=by
 obtain⟨⟨h1,h3⟩,_⟩:=he;obtain⟨v,hv,_,hs,_⟩:=h3 k hk (by simpa using lO);rw[ta]at hv;unfold Ai at hv;simp only[gU,and_true]at hv;rw[hv];exact Sl.dD hs
theorem afw{w:World}{v:Value}{l:List Int}(hp:∀x∈l,cK.dU x)(h:(gJ v l).holds w):afv.is (λk=>v.ownBlock=aj k) w [v] l:=
 ⟨v,rfl,hp,h,λ_ h=>h⟩
def Tg(g:Nat)(vc vr vf vfol vl ve:Value)(bQ:Int)(va vb:Value)(ny:List (List Int))(last first:List Int):Spec (List Value×(Nat->Prop)):=
 ⟨λx=>x.1.length=ny.length,λ_=> .tuple #[],λx=>[aP g (Tf vc vr vf vfol vl ve bQ) 242,yQ vfol x.1,wj x.2 x.1 (fE ny last first),gJ va last,gJ vb first]⟩
theorem MW(ny:List (List Int))(last first:List Int){k:Nat}(hk:k<last.length):fE ny (last.take (k+1)) first=(fE ny (last.take k) first).set last[k].toNat (rr ((fE ny (last.take k) first).getD last[k].toNat []) first):=by
 unfold fE;rw[gX hk,List.foldl_append];rfl
theorem Aj(g:Nat)(vc vr vf vfol vl ve:Value)(bQ:Int)(va vb:Value)(vs:List Value)(F:Nat->Prop)(ny:List (List Int))(last first:List Int)(w:World)(B:bL)
 (hvs:vs.length=ny.length) (hn:ny.length<=100000) (aiS:∀l∈ny,Ie ny.length l) (hla:Ie ny.length last) (WG:Ie ny.length first)
 (hm:Mem B [aP g (Tf vc vr vf vfol vl ve bQ) 242,yQ vfol vs,wj F vs ny,gJ va last,gJ vb first] w):
 Calls aD 147 #[aJ (aj ⟨g,0,ak⟩),va,vb] w (da (Tg g vc vr vf vfol vl ve bQ va vb ny last first) B):=by
 have aen:=kp hla;have aiT:=kp WG;have hva:∃a c,va=ap a last.length c:=by
  obtain⟨base,cap,h,_⟩:=Sl.dD (show w.ownsRow 0 3 1 va last.length (last.map (av .i64))from hm.get (i:=3) rfl);exact⟨base,cap,h⟩
 obtain⟨aa,ca,rfl⟩:=hva;refine dB hm (args:=[aJ (aj ⟨g,0,ak⟩),ap aa last.length ca,vb]) (n:=32) Tryz.func147 I I I ?_;clear hm
 try refine GA ?_
 refine d_ (ι:=Nat×List Value×(Nat->Prop)) (λ(k,vs,F)=>k<=last.length/\vs.length=ny.length) (λ(k,_,_)=>[(0,aJ (aj ⟨g,0,ak⟩)),(2,vb),(8,ap aa last.length ca),(9,av az last.length),(10,av az (k:Int))])
  (λ(k,vs,F)=>[aP g (Tf vc vr vf vfol vl ve bQ) 242,yQ vfol vs,wj F vs (fE ny (last.take k) first),gJ (ap aa last.length ca) last,gJ vb first]) (λ(k,_,_)=>last.length-k) (0,vs,F) ⟨bH _,hvs⟩ ?_
 clear hvs vs F;rintro⟨k,vs,F⟩ ⟨i1,i2⟩;dsimp only at i1 i2⊢
 by_cases c6:k<last.length
 ·have hstep:=MW ny last first c6
  have aiU:=ti (n:=ny.length) WG.2 (last.take k) ny aiS;have hlen:=lA ny (last.take k) first;have hx:=hla.2 last[k] (b_ c6);have hgx:last[k]?=aj last[k]:=bK c6;generalize fE ny (last.take k) first=fo at*;generalize last[k]=x at*;obtain⟨xn,rfl⟩:=iw hx.1;rw[dF]at hstep;have hxn:xn<fo.length:=by omega
  have yP:fo.getD xn []=fo[xn]:=by rw[cB,bK hxn];rfl
  rw[yP]at hstep;have hrx:=aiU fo[xn] (b_ hxn);have J2:=kp hrx;have OT:=th hrx.2 WG.2;have hul:=kp OT;refine iR (i:=1) (φ:=∃gf cap,vfol=ap (aj ⟨gf,0,ak⟩) vs.length cap/\vs.length<=cap) I (λw h=>by
   obtain⟨h1,h2⟩:=(show w.ownsRow 0 26 1 vfol vs.length (vs.flatMap Ai)from h);rcases h2 with⟨_,h0⟩|⟨gf,cap,jZ,hv,_,_,hc,_⟩
   omega;exact⟨gf,cap,hv,hc⟩) λhvf=>?_
  obtain⟨gf,afx,rfl,hcf⟩:=hvf;refine iR (i:=3) (φ:=∃ga,aa=aj ⟨ga,0,ak⟩) I (λw h=>by
   obtain⟨h1,h2⟩:=(show w.ownsRow 0 3 1 (ap aa last.length ca) last.length (last.map (av .i64))from h);rcases h2 with⟨_,h0⟩|⟨gf,cap,jZ,hv,_,_,hc,_⟩
   omega
   cases hv;exact⟨gf,rfl⟩) λhva=>?_
  obtain⟨ga,rfl⟩:=hva;have hxv:xn<vs.length:=by omega
  have fJ:∀(L:List b9) (hi:L[1]?=aj (yQ (ap (aj ⟨gf,0,ak⟩) vs.length afx) vs)),At B L ⟨gf,0+xn*1+0,ak⟩ vs[xn]:=λL hi=>rP MV hi hxv 0 _ I;have aiV:∀(L:List b9) (hi:L[3]?=aj (gJ (ap (aj ⟨ga,0,ak⟩) last.length ca) last)),At B L ⟨ga,0+k*1,ak⟩ (av az (xn:Int)):=λL hi=>jh hi (by rw[fe,cX,k_,hgx];rfl)
  repeat(first|refine GA ?_|refine gV (aY bM.eq aK.ty I I c6) ?_|refine gV (aB (v:=av az (xn:Int)) aK.ty I (aiV _ I)) ?_)
  (repeat refine bW ?_)
  refine dT ([aP g (Tf vc vr vf (ap (aj ⟨gf,0,ak⟩) vs.length afx) vl ve bQ) 242]) (.calm 0 (.calm 1 (.calm 2 (.calm 3 (.calm 4 (.calm 5 (.calm 6 (.calm 7 (.calm 8 (.calm 9 (.calm 10 (.calm 11 (.calm 12 (.calm 14 (.one 13 (.one 15 (.calm 16 (.one 17 (.done))))))))))))))))))) (bX [0]) ?_
  repeat(first|refine GW ?_|(refine GN ?_;first|refine QW (aB (v:=ap (aj ⟨gf,0,ak⟩) vs.length afx) aK.ty I (aH (i:=0) I I)) ?_|refine QW (aY bM.eq aK.ty I I hxv) ?_))
  refine aL I (dx (aB (v:=vs[xn]) aK.ty I (fJ _ I)) I I I (aM (bX [0]) ?_))
  try refine GW ?_
  refine aL I (aV (fB aI.en I I I) (λw' hm=>iK vs[xn] vb fo[xn] first w' (Zi (hm.get (i:=2) I) hxn hxv) (Sl.dD (hm.get (i:=4) I)) J J) I I I ?_);intro v _
  conv=>arg 8;simp only[zJ,cI,ret,id_eq,tZ]
  refine aW (i:=5) I λpf mY=>?_;refine aM (bX [0]) ?_
  repeat(first|refine GW ?_|(refine GN ?_;first|refine QW (aY bM.eq aK.ty I I hxv) ?_))
  refine aL I (A' MV (i:=1) (k:=xn) (l:=vs) (a:=v) aK.ty I I J hxv I I pf (by simp only[Ai,cY,c_,mY];rfl) (aM (bX [0]) ?_))
  try refine GW ?_
  try refine GA ?_
  refine oZ (wj (λk=>F k\/v.ownBlock=aj k) (vs.set xn v) (fo.set xn (rr fo[xn] first))) 5 2 [0,1,3,4] akh I I I (λk hk=>hk.elim (λh=>by cases h) λh=>h.elim (λh=> .inr (.inr h)) λh=> .inl (.inl h)) (λw hr he=>?_) ?_
  ·have:=acs (k:=xn) he (afw (λx hx=>⟨by have:=OT.2 x hx;omega,by have:=OT.2 x hx;omega⟩) hr) λk hk=>(gJ v (rr fo[xn] first)).lt w hr k (.inl hk)
   rw[show([v]:List Value)=Ai v from I,<-tb]at this;exact this
  refine dm [0,1,4,2,3] ?_;exact bT (k+1,vs.set xn v,λk=>F k\/v.ownBlock=aj k) ⟨by omega,by rw[PW];exact i2⟩ (by show last.length-(k+1)<last.length-k;omega) (hl:=by dsimp only;rw[hstep];show _=[_,aZ _ _ _ (vs.set xn v).length _,_,_,_];rw[PW];rfl)
 ·obtain rfl:k=last.length:=by omega
  rw[fU (bz _)]
  try refine GA ?_
  exact jP I λw hm=>hm.cC (S:=Tg g vc vr vf vfol vl ve bQ (ap aa last.length ca) vb ny last first) (vs,F) i2 [0,1,2,3,4] akh I
end bZ
namespace bZ
open Go.RowKit cK dS de gd eE
def Bt(B:bL)(k:Nat):Prop:=k<B.w.heap.size/\¬B.X k
theorem tj{B:bL}{L:List b9}{b off:Nat}{cs:List Value}(hb:Bt B b)(h:Rd B.w b off cs)(j:Nat)(v:Value)(hj:cs[j]?=aj v):At B L ⟨b,off+j,ak⟩ v:=λ_ hm=>
 rd_stay h (hm.low.block b hb.1 hb.2) j v hj
theorem afy{B:bL}{Lx:List b9}{w:World}(hm:Mem B Lx w){k:Nat}(hk:Bt B k):Bt (bL.on w Lx) k:=by
 refine⟨iO hk.1 hm.low.size,?_⟩;rintro⟨o,ho,hf⟩;obtain⟨i,hi⟩:=List.mem_iff_getElem?.1 ho;rcases(hm.owns.all i o hi).2 k hf with h|h
 have:=hk.1;omega;exact hk.2 h
theorem fh{B:bL}{Lx:List b9}{w:World}{v:Value}{r:Rx}(hm:Mem B Lx w)(h:oJ (Bt B) B.w v r):oJ (Bt (bL.on w Lx)) w v r:=
 (h.stay λk hk=>hm.low.block k hk.1 hk.2).mono λ_ hk=>afy hm hk
structure WH where
 vc:Value
 vr:Value
 vfol:Value
 vl:Value
 vs:List Value
 F:Nat->Prop
def n_(g:Nat)(vf ve:Value)(bQ:Int)(x:WH)(p:PS):List b9:=
 [aP g (Tf x.vc x.vr vf x.vfol x.vl ve bQ) 242,aZ 116 4 x.vc p.a_.length (p.a_.flatMap ed),gJ x.vr p.rules,yQ x.vfol x.vs,wj x.F x.vs p.follow,aZ 4 1 x.vl p.last.length (p.last.map fT)]
def cU(g:Nat)(vf ve:Value)(bQ:Int)(R:Shape×PS):Spec (WH×Value×Value):=
 ⟨λx=>x.1.vs.length=R.2.follow.length,λx=>aQ #[.bool R.1.empty,x.2.1,x.2.2],λx=>n_ g vf ve bQ x.1 R.2++[gJ x.2.1 R.1.first,gJ x.2.2 R.1.last]⟩
theorem Qu(w:World):(df 244 (#[]:Array (Nat×Value))).run aD w= .ok (aQ #[.bool aE,ap ak 0 0,ap ak 0 0]) w:=by
 go_simp
theorem Qv(w:World):(df 244 #[(0,.bool aC)]).run aD w= .ok (aQ #[.bool aC,ap ak 0 0,ap ak 0 0]) w:=by
 go_simp
def J5(M:Nat):Prop:=∀(e:Re),e.size<=M->∀(g:Nat) (vf ve:Value) (bQ:Int) (p:PS) (x:WH) (v:Value) (w:World) (B:bL),MU p->x.vs.length=p.follow.length->p.a_.length+e.size<=100000->cK.dU bQ->oJ (Bt B) B.w v (l9 e)->Mem B (n_ g vf ve bQ x p) w->
 Calls aD 112 #[aJ (aj ⟨g,0,ak⟩),v] w (da (cU g vf ve bQ (cP bQ e p)) B)
theorem Vr(g:Nat)(vf ve:Value)(bQ:Int)(p:PS)(x:WH)(v:Value)(w:World)(B:bL)(hx:x.vs.length=p.follow.length)(hv:oJ (Bt B) B.w v (l9 .none))(hm:Mem B (n_ g vf ve bQ x p) w):
 Calls aD 112 #[aJ (aj ⟨g,0,ak⟩),v] w (da (cU g vf ve bQ (cP bQ .none p)) B):=by
 obtain⟨vk,rfl,_,SO⟩:=hv;obtain⟨bk,ck,rfl,-⟩:=SO;unfold n_ at hm;refine dB hm (args:=[aJ (aj ⟨g,0,ak⟩),re (l9 .none).kind (l9 .none).uQ (ap bk (l9 .none).kids.length ck)]) (n:=176) Tryz.func112 I I I ?_;clear hm;refine bW (bB (bP I I I λg3=>a8 I λg4=>?_));refine zL ?_
 repeat(first|refine GA ?_|refine gV (aB (v:=av az 1) aK.ty I (aH (i:=6) I I)) ?_|refine gV (bD I Qu) ?_)
 refine ij 7 ?_;refine zL ?_
 try refine GA ?_
 refine dN 3 1 (dN 3 1 ?_);exact fZ (i:=7) I I I I λw hm=>hm.cC (S:=cU g vf ve bQ (cP bQ .none p)) (x,ap ak 0 0,ap ak 0 0) hx [0,1,2,3,4,5,8,9] akh I
theorem Qw(g:Nat)(vf ve:Value)(bQ:Int)(p:PS)(x:WH)(v:Value)(w:World)(B:bL)(hx:x.vs.length=p.follow.length)(hv:oJ (Bt B) B.w v (l9 .empty))(hm:Mem B (n_ g vf ve bQ x p) w):
 Calls aD 112 #[aJ (aj ⟨g,0,ak⟩),v] w (da (cU g vf ve bQ (cP bQ .empty p)) B):=by
 obtain⟨vk,rfl,_,SO⟩:=hv;obtain⟨bk,ck,rfl,-⟩:=SO;unfold n_ at hm;refine dB hm (args:=[aJ (aj ⟨g,0,ak⟩),re (l9 .empty).kind (l9 .empty).uQ (ap bk (l9 .empty).kids.length ck)]) (n:=176) Tryz.func112 I I I ?_;clear hm;refine bW (bB (bP I I I λg3=>a8 I λg4=>?_));refine zL ?_
 repeat(first|refine GA ?_|refine gV (aB (v:=av az 2) aK.ty I (aH (i:=6) I I)) ?_|refine gV (bD I Qv) ?_)
 refine ij 7 ?_;refine zL ?_
 try refine GA ?_
 refine dN 3 1 (dN 3 1 ?_);exact fZ (i:=7) I I I I λw hm=>hm.cC (S:=cU g vf ve bQ (cP bQ .empty p)) (x,ap ak 0 0,ap ak 0 0) hx [0,1,2,3,4,5,8,9] akh I
def MX(g:Nat)(bQ:Int):b9:=
 ⟨aj g,λ_=>False,λw=>∃vc vr vf vfol vl ve,w.heap[g]?=aj (.cells (Tf vc vr vf vfol vl ve bQ) 242 (0,0)),λw ⟨_,_,_,_,_,_,h⟩ k hk=>by simp only[dh,or_false]at hk;subst hk;exact(jx.1 h).1,
  λw w' ⟨vc,vr,vf,vfol,vl,ve,h⟩ _ hb=>⟨vc,vr,vf,vfol,vl,ve,by rw[hb g (.inl I)];exact h⟩⟩
theorem ni{B:bL}{L:List b9}{g:Nat}{vc vr vf vfol vl ve:Value}{bQ:Int}(h:L[0]?=aj (aP g (Tf vc vr vf vfol vl ve bQ) 242)):∀w,Mem B L w->Mem B [MX g bQ] w:=λw hm=>by
 have h1:=hm.pick (L':=[aP g (Tf vc vr vf vfol vl ve bQ) 242]) [0] akh (by simp[h]);exact h1.ab2 (i:=0) (MX g bQ) I ⟨vc,vr,vf,vfol,vl,ve,h1.get (i:=0) I⟩ λk hk=>hk
theorem acu{B:bL}{L:List b9}{g i:Nat}{bQ:Int}(h:L[i]?=aj (MX g bQ)):At B L ⟨g,6,ak⟩ (av az bQ):=λw hm=>by
 obtain⟨vc,vr,vf,vfol,vl,ve,h⟩:=(hm.get h:(MX g bQ).holds w);rw[cell_of_row w g 6 _ _ _ h];rfl
theorem Th(c:C4)(u:Value)(h:u∈ed c):u.oneCell'=true:=by
 simp only[ed,dC,fH,or_false]at h;rcases h with rfl|rfl|rfl|rfl<;>rfl
theorem Vs(c:C4){k:Int}{vk v:Value}{j:Nat}(hj:(ed c)[j]?=aj v):((mQ k c vk).toArray)[1+j]?=aj v:=by
 match j,hj with
 |0,hj=>exact hj
 |1,hj=>exact hj
 |2,hj=>exact hj
 |3,hj=>exact hj
theorem Qx(b b':Option Addr)(m m' k k':Nat)(w:World):(df 244 #[(1,ap b m k),(2,ap b' m' k')]).run aD w= .ok (aQ #[.bool aE,ap b m k,ap b' m' k']) w:=by
 go_simp
theorem If(v:Value)(l:List Int)(x:Int):aZ 3 1 v (l.length+1) (l.map (av .i64)++[av az x])=gJ v (l++[x]):=by
 show _=aZ 3 1 v (l++[x]).length ((l++[x]).map (av .i64))
 rw[bI,e7];rfl
theorem Zj(v:Value)(l:List Value)(x:Value):aZ 26 1 v (l.length+1) (l.flatMap Ai++[x])=yQ v (l++[x]):=by
 show _=aZ 26 1 v (l++[x]).length ((l++[x]).flatMap Ai)
 rw[bI,fV];rfl
theorem Bu(v:Value)(l:List Bool)(x:Bool):aZ 4 1 v (l.length+1) (l.map fT++[.bool x])=aZ 4 1 v (l++[x]).length ((l++[x]).map fT):=by
 rw[bI,e7];rfl
theorem J6{w:World}{g:Nat}{n:Int}(h:(aP g #[av az n] 3).holds w):(gJ (ap (aj ⟨g,0,ak⟩) 1 1) [n]).holds w:=
 ⟨rfl,.inr ⟨g,1,_,rfl,bH _,h,bz _,by decide,rfl,rfl⟩⟩
theorem Vt(c:C4)(g:Nat)(vf ve:Value)(bQ:Int)(p:PS)(x:WH)(v:Value)(w:World)(B:bL)(hp:MU p)(hx:x.vs.length=p.follow.length)(hn:p.a_.length<=100000)(hv:oJ (Bt B) B.w v (l9 (.byte c)))(hm:Mem B (n_ g vf ve bQ x p) w):
 Calls aD 112 #[aJ (aj ⟨g,0,ak⟩),v] w (da (cU g vf ve bQ (cP bQ (.byte c) p)) B):=by
 obtain⟨vk,rfl,_,SO⟩:=hv;obtain⟨bk,ck,rfl,-⟩:=SO;obtain⟨vc,vr,vfol,vl,vs,F⟩:=x;unfold n_ at hm;dsimp only at hx hm;refine dB hm (args:=[aJ (aj ⟨g,0,ak⟩),re (l9 (.byte c)).kind (l9 (.byte c)).uQ (ap bk (l9 (.byte c)).kids.length ck)]) (n:=176) Tryz.func112 I I I ?_;clear hm;refine bW (bB (bP I I I λg3=>a8 I λg4=>?_));refine zL ?_;refine n9 (i:=1) I λbc cc hvc pf zw=>?_;subst hvc
 repeat(first|refine GA ?_|refine gV (aB (v:=av az 3) aK.ty I (aH (i:=6) I I)) ?_|refine gV (aB (v:=ap bc p.a_.length cc) aK.ty I (aH (i:=0) I I)) ?_)
 (repeat refine bW ?_)
 refine lU (ι:=Value) (λ_=>True) (λ_=>[(0,aJ (aj ⟨g,0,ak⟩)),(3,aJ (aj ⟨g3,0,ak⟩)),(4,aJ (aj ⟨g4,0,ak⟩)),(5,av az p.a_.length)])
  (λG1=>[aP g (Tf G1 vr vf vfol vl ve bQ) 242,aZ 116 4 G1 (p.a_++[c]).length ((p.a_++[c]).flatMap ed),gJ vr p.rules,yQ vfol vs,wj F vs p.follow,aZ 4 1 vl p.last.length (p.last.map fT),aP g4 #[.bool aE,ap ak 0 0,ap ak 0 0] 244]) ?_ ?_
 ·refine dT ([aP g3 (mQ 3 c (ap bk 0 ck)).toArray 119]) (.calm 0 (.calm 1 (.calm 2 (.calm 3 (.calm 4 (.calm 6 (.calm 7 (.two 5 (.one 8 (.one 9 (.calm 10 (.calm 11 (.calm 12 (.one 13 (.done))))))) 8 (.one 5 (.one 9 (.calm 10 (.calm 11 (.calm 12 (.one 13 (.done))))))))))))))) (bX [6]) ?_
  repeat(first|refine GW ?_|(refine GN ?_;first|refine QW (bm (cs:=ed c) aK.ty I I (λj v hj=>aH (i:=0) I (Vs c hj))) ?_))
  refine eK I I ?_ ?_
  ·refine dx (aB (v:=ap bc p.a_.length cc) aK.ty I (aH (i:=0) I I)) I I I (aM (bX [6]) ?_)
   refine aL I (fD (cs:=(ed c).toArray) [oY c] I I I (by intro v hv;simp at hv;subst hv;rfl) I I I λg33=>(aM (bX [6]) ?_));refine aL I (eM (i:=1) (e:=116) (size:=4) (bytes:=32) (m:=p.a_.length) (xs:=p.a_.flatMap ed) (k:=1) (ys:=ed c) I (lq (i:=8) I (λj u h=>by simpa using h) (bz 1) akh) I I I (λu hu=>Th c u hu) J J I λG1=>(aM (bX [6]) ?_))
   try refine GW ?_
   refine aL I (aW (i:=1) I λlD me=>bV (i:=0) I I I lD me I (aM (bX [6]) ?_))
   try refine GW ?_
   refine dm [0,1,2,3,4,5,7] ?_;exact ee G1 trivial (by repeat' (first|exact cT|refine cJ I ?_)) (by rw[bI,fV];rfl)
  refine fD (cs:=(ed c).toArray) [oY c] I I I (by intro v hv;simp at hv;subst hv;rfl) I I I λg33=>(aM (bX [6]) ?_);refine aL I (dx (aB (v:=ap bc p.a_.length cc) aK.ty I (aH (i:=0) I I)) I I I (aM (bX [6]) ?_));refine aL I (eM (i:=1) (e:=116) (size:=4) (bytes:=32) (m:=p.a_.length) (xs:=p.a_.flatMap ed) (k:=1) (ys:=ed c) I (lq (i:=8) I (λj u h=>by simpa using h) (bz 1) akh) I I I (λu hu=>Th c u hu) J J I λG1=>(aM (bX [6]) ?_))
  try refine GW ?_
  refine aL I (aW (i:=1) I λlD me=>bV (i:=0) I I I lD me I (aM (bX [6]) ?_))
  try refine GW ?_
  refine dm [0,1,2,3,4,5,7] ?_;exact ee G1 trivial (by repeat' (first|exact cT|refine cJ I ?_)) (by rw[bI,fV];rfl)
 clear pf zw;intro G1 _
 try refine GA ?_
 (repeat refine bW ?_)
 have J2:=hp.rules;refine lU (ι:=Value) (λ_=>True) (λ_=>[(0,aJ (aj ⟨g,0,ak⟩)),(4,aJ (aj ⟨g4,0,ak⟩)),(5,av az p.a_.length)])
  (λCQ=>[aP g (Tf G1 CQ vf vfol vl ve bQ) 242,aZ 116 4 G1 (p.a_++[c]).length ((p.a_++[c]).flatMap ed),gJ CQ (p.rules++[bQ]),yQ vfol vs,wj F vs p.follow,aZ 4 1 vl p.last.length (p.last.map fT),aP g4 #[.bool aE,ap ak 0 0,ap ak 0 0] 244]) ?_ ?_
 ·refine dT ([MX g bQ]) (.calm 0 (.calm 1 (.calm 2 (.calm 3 (.calm 4 (.calm 6 (.calm 7 (.calm 8 (.calm 9 (.two 5 (.one 10 (.one 11 (.calm 12 (.calm 13 (.calm 14 (.one 15 (.done))))))) 10 (.one 5 (.one 11 (.calm 12 (.calm 13 (.calm 14 (.one 15 (.done))))))))))))))))) (ni I) ?_
  repeat(first|refine GW ?_|(refine GN ?_;first|refine QW (aB (v:=av az bQ) aK.ty I (acu (i:=0) I)) ?_))
  refine eK I I ?_ ?_
  ·refine dx (aB (v:=vr) aK.ty I (aH (i:=0) I I)) I I I (aM (ni I) ?_)
   refine aL I (fD (cs:=#[av az bQ]) [av az bQ] I I I (by intro v hv;simp at hv;subst hv;rfl) I I I λg48=>(aM (ni I) ?_));refine aL I (eM (i:=2) (e:=3) (size:=1) (bytes:=8) (m:=p.rules.length) (xs:=p.rules.map (av .i64)) (k:=1) (ys:=[av az bQ]) I (lq (i:=7) I (λj u h=>by simpa using h) (bz 1) akh) I I I (λu hu=>by rw[dO.1 hu];rfl) J J I λCQ=>(aM (ni I) ?_))
   try refine GW ?_
   refine aL I (aW (i:=2) I λlD me=>bV (i:=0) I I I lD me I (aM (ni (vc:=G1) (vr:=CQ) (vf:=vf) (vfol:=vfol) (vl:=vl) (ve:=ve) I) ?_))
   try refine GW ?_
   refine dm [0,1,2,3,4,5,6] ?_;exact ee CQ trivial (by repeat' (first|exact cT|refine cJ I ?_)) (by rw[<-If CQ p.rules bQ];rfl)
  refine fD (cs:=#[av az bQ]) [av az bQ] I I I (by intro v hv;simp at hv;subst hv;rfl) I I I λg48=>(aM (ni I) ?_);refine aL I (dx (aB (v:=vr) aK.ty I (aH (i:=0) I I)) I I I (aM (ni I) ?_));refine aL I (eM (i:=2) (e:=3) (size:=1) (bytes:=8) (m:=p.rules.length) (xs:=p.rules.map (av .i64)) (k:=1) (ys:=[av az bQ]) I (lq (i:=7) I (λj u h=>by simpa using h) (bz 1) akh) I I I (λu hu=>by rw[dO.1 hu];rfl) J J I λCQ=>(aM (ni I) ?_))
  try refine GW ?_
  refine aL I (aW (i:=2) I λlD me=>bV (i:=0) I I I lD me I (aM (ni (vc:=G1) (vr:=CQ) (vf:=vf) (vfol:=vfol) (vl:=vl) (ve:=ve) I) ?_))
  try refine GW ?_
  refine dm [0,1,2,3,4,5,6] ?_;exact ee CQ trivial (by repeat' (first|exact cT|refine cJ I ?_)) (by rw[<-If CQ p.rules bQ];rfl)
 intro CQ _;have tW:=hp.follow;have UJ:=hp.last
 repeat(first|refine GA ?_|refine gV (aB (v:=vfol) aK.ty I (aH (i:=0) I I)) ?_)
 refine ku (i:=3) (bytes:=24) I I I I I I (λz h=>by cases h;rfl) J J I λz1 xK=>?_;refine zL ?_
 try refine GA ?_
 refine aW (i:=3) I λlD me=>bV (i:=0) I I I lD me I ?_;refine zL ?_
 repeat(first|refine GA ?_|refine gV (aB (v:=vl) aK.ty I (aH (i:=0) I I)) ?_)
 refine ku (i:=5) (bytes:=1) I I I I I I (λz h=>by cases h;rfl) J J I λz2 Ti=>?_;refine zL ?_
 try refine GA ?_
 refine aW (i:=5) I λlD me=>bV (i:=0) I I I lD me I ?_;refine zL ?_
 try refine GA ?_
 refine fD (cs:=#[av az p.a_.length]) [av az p.a_.length] I I I (by intro v hv;simp at hv;subst hv;rfl) I I I λg76=>?_;refine zL ?_
 try refine GA ?_
 refine fD (cs:=#[av az p.a_.length]) [av az p.a_.length] I I I (by intro v hv;simp at hv;subst hv;rfl) I I I λg78=>?_;refine zL ?_
 repeat(first|refine GA ?_|refine gV (bD I (Qx _ _ _ _ _ _)) ?_)
 refine ij 6 (cs':=#[.bool aE,ap (aj ⟨g76,0,ak⟩) 1 1,ap (aj ⟨g78,0,ak⟩) 1 1]) ?_;refine zL ?_
 try refine GA ?_
 refine o7 (i:=7) (gJ (ap (aj ⟨g76,0,ak⟩) 1 1) [(p.a_.length:Int)]) I (λw h=>J6 h) (λk hk=>hk) ?_;refine o7 (i:=8) (gJ (ap (aj ⟨g78,0,ak⟩) 1 1) [(p.a_.length:Int)]) I (λw h=>J6 h) (λk hk=>hk) ?_;refine o7 (i:=4) (wj (λk=>F k\/False) (vs++[ap ak 0 0]) (p.follow++[[]])) I (λw h=>by
  have:=mZ (F2:=λ_=>False) h (show afv.is (λ_=>False) w [ap ak 0 0] []from⟨_,rfl,λ_ h=>(by cases h),⟨rfl,.inl ⟨rfl,rfl⟩⟩,λ_ h=>(by cases h)⟩) (λk hk=>hk.elim);rw[show vs.map Ai++[[ap ak 0 0]]=(vs++[ap ak 0 0]).map Ai by rw[e7];rfl]at this;exact this) (λk hk=>hk.elim (λh=>by cases h) λh=>h.elim (λh=> .inr h) False.elim) ?_
 refine fZ (i:=6) I I I I λw hm=>?_;refine hm.cC (S:=cU g vf ve bQ (cP bQ (.byte c) p)) (⟨G1,CQ,xK,Ti,vs++[ap ak 0 0],λk=>F k\/False⟩,ap (aj ⟨g76,0,ak⟩) 1 1,ap (aj ⟨g78,0,ak⟩) 1 1) (by show(vs++[_]).length=(p.follow++[[]]).length;rw[bI,bI,hx];rfl) [0,1,2,3,4,5,7,8] akh ?_;show[_,_,_,yQ xK (vs++[ap ak 0 0]),_,aZ 4 1 Ti (p.last++[aE]).length ((p.last++[aE]).map fT),_,_]=_
 rw[<-Zj,<-Bu];rfl
end bZ
namespace bZ
open Go.RowKit cK dS de gd eE
theorem Vu{M:Nat}(IH:J5 M)(a:Re)(ha:a.size<=M)(g:Nat)(vf ve:Value)(bQ:Int)(p:PS)(x:WH)(v:Value)(w:World)(B:bL)(hp:MU p)(hx:x.vs.length=p.follow.length)(hn:p.a_.length+(a.size+1)<=100000)(Qy:cK.dU bQ)(hv:oJ (Bt B) B.w v (l9 (.star a)))(hm:Mem B (n_ g vf ve bQ x p) w):
 Calls aD 112 #[aJ (aj ⟨g,0,ak⟩),v] w (da (cU g vf ve bQ (cP bQ (.star a) p)) B):=by
 obtain⟨vk,rfl,_,SO⟩:=hv;obtain⟨bk,ck,rfl,h1,h2,h3⟩:=SO;obtain⟨b,off,rfl,hF,eP⟩:=h3 (by show 0<1;decide);obtain⟨kb,kc,hr,Vv⟩:=qO (k:=0) eP (by show 0<1;decide);have dy:=λ(L:List b9) (j:Nat) (v:Value) hj=>tj (L:=L) hF hr j v hj;clear h3 eP hr;obtain⟨GJ,WE,hp3,hp4,hp5⟩:=mc bQ a p hp;have aeo:cP bQ (.star a) p=(⟨aC,(cP bQ a p).1.first,(cP bQ a p).1.last⟩,{(cP bQ a p).2 with follow:=fE (cP bQ a p).2.follow (cP bQ a p).1.last (cP bQ a p).1.first}):=rfl;have hIH:=λw B hv hm=>IH a ha g vf ve bQ p x (re (l9 a).kind (l9 a).uQ (ap kb (l9 a).kids.length kc)) w B hp hx J Qy hv hm;rw[aeo];generalize cP bQ a p=R at*;obtain⟨⟨e,first,last⟩,p'⟩:=R;dsimp only at GJ WE hp3 hp4 hp5⊢;clear aeo;unfold n_ at hm;refine dB hm (args:=[aJ (aj ⟨g,0,ak⟩),re 6 C4.zero (ap (aj ⟨b,off,ak⟩) 1 ck)]) (n:=176) Tryz.func112 I I I ?_;clear hm;refine bW (bB (bP I I I λg3=>a8 I λg4=>?_));refine zL ?_
 repeat(first|refine GA ?_|refine gV (aB (v:=av az 6) aK.ty I (aH (i:=6) I I)) ?_|refine gV (aB (v:=ap (aj ⟨b,off,ak⟩) 1 ck) aK.ty I (aH (i:=6) I I)) ?_|refine gV (aY (j:=0) bM.eq aK.ty I I akh) ?_|refine gV (bm aK.ty I I (dy _)) ?_)
 refine bx [0,1,2,3,4,5] [6,7] akh I I (fB aI.en I I I) (λw hm hb=>hIH w _ (fh (hm.pick [0,1,2,3,4,5] akh I) Vv) hb) I I I ?_;rintro⟨⟨vc,vr,vfol,vl,vs,F⟩,va,vb⟩ OK;have OK:vs.length=p'.follow.length:=OK
 conv=>arg 8;simp only[zJ,cI,ret,id_eq,cU,n_]
 conv=>arg 7;simp only[cU]
 refine aW (i:=8) I λajP ahg=>?_;refine aW (i:=9) I λajQ ahh=>?_;refine a8 I λg6=>?_;refine zL ?_;refine aX (i:=10) (cs':=#[.bool e,va,vb]) I I I I (by simp only[cY,c_,ahg,ahh];rfl) I ?_;refine zL ?_
 repeat(first|refine GA ?_|refine gV (aB (v:=vb) aK.ty I (aH (i:=10) I I)) ?_|refine gV (aB (v:=va) aK.ty I (aH (i:=10) I I)) ?_)
 refine bx [2,5,6,9,8] [0,1,3,4,7,10] akh I I (sV aI.en I I I I) (λw hm hb=>Aj g vc vr vf vfol vl ve bQ vb va vs F p'.follow last first w _ OK (by rw[GJ.follow];omega) (by rw[GJ.follow];exact GJ.ris) (by rw[GJ.follow];exact hp5) (by rw[GJ.follow];exact hp4) hb) I I I ?_;rintro⟨pW,F'⟩ fO;have fO:pW.length=p'.follow.length:=fO
 conv=>arg 8;simp only[zJ,cI,ret,id_eq,Tg]
 try refine GA ?_
 refine bV (i:=5) I I I I I I ?_;refine zL ?_
 repeat(first|refine GA ?_|refine gV (aO (i:=5) aK.ty I I I) ?_)
 refine aX (i:=1) (cs':=#[.bool aC,va,vb]) I I I I (by simp only[cY,c_,ahg,ahh];rfl) I ?_;refine zL ?_
 try refine GA ?_
 refine fZ (i:=1) I I I I λw hm=>?_;exact hm.cC (S:=cU g vf ve bQ (⟨aC,first,last⟩,{p' with follow:=fE p'.follow last first})) (⟨vc,vr,vfol,vl,pW,F'⟩,va,vb) (by show pW.length=(fE p'.follow last first).length;rw[lA];exact fO) [6,2,3,7,8,4,10,9] akh I
end bZ
end Go.Proofs.YtdmgcnggnejnnaaGreat

/- Part 2 of what SessionCreditUpto needs: SmL, ClsHas, RexM, LookOk, RexE, RexPl, RexPr, MixX, RexSz, GramL, StrK, ClassO1, RexI, DfaL, DfaO, Dfa, SmB, MapN, Fam, Sym, SymS, Gram, GramN, TreeL, TreeM, CountL, CountN, CountT, CountR, TreeW, CountX, FactsL, FactsM, FactsN, FactsP, FactsQ, Der, CountU, LlL, ClimbL, ClimbO, DfS, PlacesL, PlacesM, PlacesS, DfaP, SortC, SortI, IntO, IntK, PlU, PlB, PlN, PlS, PlA, PlC, PlD, PlM, PlR, SmIe, BoE, PlE, PlP, PlK, PlT, DfN, DfT, PlacesG. -/
import Derived.Test.YtaobbfedlnddcaaGreatMgA
import Derived.Laws.Bits64b
import Derived.Lib.Strings
import Derived.Lib.Slices
import Derived.Lib.Walk
import Derived.Lib.Bytealg
import Derived.StringKeys
import Derived.Lib.SlicesCompact
import Derived.Shelf.Sort.Plain
import Derived.Ground.Names2Prog
import Derived.Shelf.Slices.CompactI
import Derived.Shelf.Slices.In.SortNone
import Derived.Lib.RowBridge
namespace Go.Proofs.YtaobbfedlnddcaaGreat
set_option linter.unusedVariables false
set_option linter.unusedSimpArgs false
open _root_.And renaming intro->cC
open _root_.Array renaming getElem?_eq_some_iff->jt,getElem?_toList->qn,getElem?_eq_getElem->xt,replicate->wQ,getElem?_modify->Dc
open _root_.Array.mk renaming injEq->r8
open _root_.BitVec renaming ofNat->ik,toNat_ofNat->CG
open _root_.Bool renaming false->aE,true->aD,and_eq_true->eV,or_eq_true->lK,eq_false_iff->tU,or_eq_false_iff->Dd,not_eq_true'->CH
open _root_.ByteArray renaming size->HQ
open _root_.Classical renaming byContradiction->Nv,em->adI
open _root_.Go.Act renaming put->qd
open _root_.Go.Addr renaming add->ti
open _root_.Go.DataW renaming trod->qe
open _root_.Go.Instr renaming build->df,field->WH
open _root_.Go.IntKind renaming i64->az,bits->lF,wrap_u64->rK,signed->rL,u64->tp,min->HW,max->HX
open _root_.Go.Lib renaming compact->qo
open _root_.Go.Op renaming shift->il
open _root_.Go.Program renaming keyLits->zP
open _root_.Go.Proofs.Tryz renaming prog->aB
open _root_.Go.Region renaming ready->iF,noSelect->wV
open _root_.Go.Value renaming slice->ap,int->av,pointer->aJ,agg->aQ,bool->fN
open _root_.Go.Value.agg renaming injEq->lL
open _root_.Go.Value.int renaming injEq->De
open _root_.Go.Value.slice renaming injEq->iT
open _root_.Go.World renaming block_lt_of_cell?->nL
open _root_.Int renaming toNat_natCast->dB,eq_ofNat_of_zero_le->hY,toNat_of_nonneg->tV
open _root_.Int.ofNat renaming inj->WI
open _root_.List renaming getElem?_eq_getElem->bD,getD_eq_getElem?_getD->cH,length_append->bK,getElem?_eq_some_iff->dl,getElem_mem->cD,length_cons->c_,replicate->cZ,all_cons->cY,drop_eq_getElem_cons->eI,all_nil->da,mem_singleton->dQ,length_map->dI,take_succ_eq_append_getElem->iq,mem_cons->dx,map_append->eO,append_nil->eG,getElem?_map->eX,take_of_length_le->gK,append_assoc->eY,nil_append->eJ,flatMap_append->gO,mem_append->fj,mem_cons_self->gZ,not_mem_nil->fl,range->dV,mem_map->fa,mem_iff_getElem->g_,mem_cons_of_mem->kC,map_cons->gd,mem_of_getElem?->kR,length_take->iU,length_singleton->lO,flatMap_cons->mc,nodup_cons->qq,mem_range->mQ,drop_eq_nil_of_le->oL,cons_append->kS,any_eq_true->qt,getElem_map->r9,ext_getElem?->mR,getElem?_take->qu,pairwise_iff_getElem->Ij,mem_append_left->xu,length_erase_of_mem->Ik,filterMap_cons_some->zS,length_pos_of_mem->Il,mem_map_of_mem->Im,map_set->oM,filterMap_append->Oa,length_set->Io,mem_flatMap->Ad,mem_erase_of_ne->Ob,foldl_append->Oc,map_map->Ip,nodup_range->Od,nodup_append->Df,mem_or_eq_of_mem_set->WJ,pairwise_singleton->WK,length_eq_zero_iff->WL,length_mergeSort->WM,pairwise_cons->WN,idxOf_append->WO,getElem?_set->WQ,getElem_set->WR,foldl_cons->WT,map->WU
open _root_.List.Pairwise renaming imp_of_mem->adJ,nil->adK
open _root_.List.Perm renaming swap->adL
open _root_.List.cons renaming injEq->fO
open _root_.Nat renaming le_refl->bm,zero_le->bH,zero_add->cV,eq_of_beq_eq_true->kT,blt->dj,lt_of_lt_of_le->jv,le_trans->fv,beq->fw,add_zero->jw,add_assoc->lG,mul_one->kw,lt_of_le_of_lt->Iq,le_add_right->Ae,div_le_self->Af,testBit_eq_decide_div_mod_eq->WV,pow_lt_pow_right->Dg,succ_pos->Dh,min_le_left->WW,le_succ->WX
open _root_.Option renaming some->aj,none->ak,getD_some->kD
open _root_.Option.some renaming injEq->dr
open _root_.Prod.mk renaming injEq->hJ
open _root_.True renaming intro->cI
open _root_.UInt8 renaming ofNat->fx
open _root_.Vector renaming replicate->eb
set_option maxHeartbeats 16000000
namespace cT
section
variable{κ:Type}[DecidableEq κ]
def dH:List κ->List κ->List κ
 |D,[]=>D
 |D,k::r=>dH (if k∈D then D else D++[k]) r
def more(D:List κ)(k:κ):List κ:=if k∈D then D else D++[k]
theorem kE:∀(l D:List κ) (k:κ),dH D (l++[k])=more (dH D l) k
 |[],_,_=>rfl
 |_::l,_,k=>kE l _ k
theorem Di(D:List κ)(k:κ):∃E,more D k=D++E:=by
 unfold more;split;exact⟨[],by simp⟩;exact⟨[k],rfl⟩
theorem tW{D:List κ}{k x:κ}:x∈more D k↔x∈D\/x=k:=by
 unfold more;split
 ·rename_i h
  exact⟨.inl,λe=>e.elim id λe=>e▸h⟩
 simp
theorem r_:∀(l D:List κ),∃E,dH D l=D++E
 |[],D=>⟨[],by simp[dH]⟩
 |k::l,D=>by
  obtain⟨E,h⟩:=Di D k;obtain⟨E',h'⟩:=r_ l (more D k);exact⟨E++E',by show dH (more D k) l=_;rw[h',h,eY]⟩
theorem kF{x:κ}:∀{l D:List κ},x∈dH D l↔x∈D\/x∈l
 |[],D=>by simp[dH]
 |k::l,D=>by
  show x∈dH (more D k) l↔_
  rw[kF,tW,dx,or_assoc]
theorem Dj{D:List κ}{k:κ}(h:D.Nodup):(more D k).Nodup:=by
 unfold more;split;exact h
 rename_i hk
 exact Df.2 ⟨h,by simp,λa ha b hb e=>by simp at hb;subst hb e;exact hk ha⟩
theorem sa:∀(l D:List κ),D.Nodup->(dH D l).Nodup
 |[],_,h=>h
 |_::l,_,h=>sa l _ (Dj h)
def idx(D:List κ)(k:κ):Nat:=D.idxOf k
theorem oO{D:List κ}{k:κ}(h:k∈D):idx D k<D.length:=List.idxOf_lt_length_of_mem h
theorem Ca{D:List κ}{k:κ}(h:idx D k<D.length):D[idx D k]=k:=List.getElem_idxOf h
theorem Dk{D:List κ}(hn:D.Nodup){v:Nat}(h:v<D.length):idx D D[v]=v:=by
 have h1:=oO (cD h);exact(List.getElem_inj hn).1 (Ca h1)
theorem WY(k:κ)(E:List κ):idx (k::E) k=0:=by simp[idx]
theorem pU{D E:List κ}{k:κ}(h:k∈D):idx (D++E) k=idx D k:=by unfold idx;rw[WO,if_pos h]
theorem qU{D:List κ}{k:κ}:idx (more D k) k=if k∈D then idx D k else D.length:=by
 unfold more;split;rfl
 rename_i h
 unfold idx;rw[WO,if_neg h];simp
theorem WZ{l D:List κ}{i:Nat}(hi:i<l.length):idx (dH D l) l[i]=if l[i]∈dH D (l.take i)then idx (dH D (l.take i)) l[i]else(dH D (l.take i)).length:=by
 have e:l=l.take (i+1)++l.drop (i+1):=(List.take_append_drop _ _).symm;have h1:l.take (i+1)=l.take i++[l[i]]:=iq hi;have h2:∃E,dH D l=dH D (l.take (i+1))++E:=by
  obtain⟨E,h⟩:=r_ (l.drop (i+1)) (dH D (l.take (i+1)));refine⟨E,?_⟩;rw[<-h];have hap:∀(a b D:List κ),dH D (a++b)=dH (dH D a) b:=by
   intro a
   induction a with
   |nil=>intro b D;rfl
   |cons x a ih=>intro b D;exact ih b _
  rw[<-hap,<-e]
 obtain⟨E,h2⟩:=h2;rw[h2,pU,h1,kE,qU];rw[h1,kE,tW];exact .inr I
theorem aaA{D:List κ}{x y:κ}(hx:x∈D)(h:idx D x=idx D y):x=y:=by
 have h1:=oO hx;have h2:idx D y<D.length:=h▸h1;rw[<-Ca h1,<-Ca h2]
 congr 1
end
theorem jl{α:Type}{l m:List α}{k:Nat}{d:α}(h:k<l.length):(l++m).getD k d=l.getD k d:=by
 rw[cH,List.getElem?_append_left h,cH]
theorem mW{α:Type}{l m:List α}{k:Nat}{d:α}(h:l.length<=k):(l++m).getD k d=m.getD (k-l.length) d:=by
 rw[cH,List.getElem?_append_right h,cH]
theorem ny{l:List Nat}{m:Nat}(h:l.Nodup)(hb:∀x∈l,x<m):l.length<=m:=by
 have hs:∀(l l':List Nat),l.Nodup->(∀x∈l,x∈l')->l.length<=l'.length:=by
  intro l
  induction l with
  |nil=>intro l' _ _;simp
  |cons x l ih=>
   intro l' hn hs;rw[qq]at hn;have hx:x∈l':=hs x (by simp);have:=ih (l'.erase x) hn.2 (λy hy=>(Ob (by rintro rfl;exact hn.1 hy)).2 (hs y (by simp[hy])));rw[Ik hx]at this;have:0<l'.length:=Il hx;simp;omega
 have:=hs l (dV m) h λx hx=>mQ.2 (hb x hx)
 simpa using this
theorem Oe{N:Nat}{f g:Nat->Nat}{n c:Nat}(hf:∀v,v<n->∃x,x<N/\f x=v)(hg:∀x,x<N->g x<c)(hr:∀x y,x<N->y<N->g x=g y->f x=f y):
 n<=c/\(c=n->(∀x,x<N->f x<n)->∀x y,x<N->y<N->f x=f y->g x=g y):=by
 have hc:∃p:Nat->Nat,∀v,v<n->p v<N/\f (p v)=v:=by
  refine⟨λv=>if h:v<n then(hf v h).choose else 0,λv h=>?_⟩;simp only[dif_pos h];exact(hf v h).choose_spec
 obtain⟨p,hp⟩:=hc;have Kn:∀l:List Nat,l.Nodup->(∀v∈l,v<n)->(l.map λv=>g (p v)).Nodup:=by
  intro l hl hb;refine List.pairwise_map.2 (adJ (λ{a b} ha Nj hne e=>hne ?_) hl);have h1:=hp a (hb a ha);have h2:=hp b (hb b Nj);have:=hr _ _ h1.1 h2.1 e;rw[h1.2,h2.2]at this;exact this
 refine⟨?_,λhcn hfb x y hx hy hxy=>?_⟩
 ·have h1:=ny (m:=c) (Kn (dV n) Od λv hv=>mQ.1 hv) (λz hz=>by
   obtain⟨v,hv,rfl⟩:=fa.1 hz;exact hg _ (hp v (mQ.1 hv)).1)
  simpa using h1
 ·apply Nv
  intro hne;have hv:f x<n:=hfb x hx;have hl:((dV n).erase (f x)).Nodup:=Od.erase _;have hb:∀v∈(dV n).erase (f x),v<n/\v≠f x:=λv hv=>by
   have:=(Od.mem_erase_iff).1 hv;exact⟨mQ.1 this.2,this.1⟩
  have h1:=Kn _ hl λv hv=>(hb v hv).1;have SE:∀z,z<N->f z=f x->g z∉((dV n).erase (f x)).map λv=>g (p v):=by
   intro z hz he Fh;obtain⟨v,KP,e⟩:=fa.1 Fh;have h2:=hp v (hb v KP).1;have:=hr _ _ h2.1 hz e;rw[h2.2,he]at this;exact(hb v KP).2 this
  have h2:(g x::g y::((dV n).erase (f x)).map λv=>g (p v)).Nodup:=by
   rw[qq,qq];refine⟨?_,SE y hy hxy.symm,h1⟩;rw[dx,not_or];exact⟨hne,SE x hx I⟩
  have h3:=ny (m:=c) h2 (λz hz=>by
   simp only[dx]at hz;rcases hz with rfl|rfl|hz
   exact hg _ hx;exact hg _ hy;obtain⟨v,hv,rfl⟩:=fa.1 hz;exact hg _ (hp v (hb v hv).1).1)
  have h4:((dV n).erase (f x)).length=n-1:=by
   rw[Ik (mQ.2 hv)];simp
  simp[h4]at h3;omega
end cT
namespace bZ
open Go.RowKit cU dM dg
theorem W4{P:Program}(x j b:Nat)(k k':IntKind)(hb:k.bits=b)(hj:j<=b)(w:World):(il .shr k (x:Int) k' (j:Int)).run P w= .ok (.int k ((x/2^j:Nat):Int)) w:=by
 have e:min j b=j:=by omega
 have h0:¬((j:Int)<0):=by omega
 have e2:(x:Int).fdiv (2^j)=((x/2^j:Nat):Int):=by
  grind
 simp_all[il,if_neg]
theorem Dl(c:C4)(i:Nat)(h:i<4):(#[v64 c.a,v64 c.b,v64 c.c,v64 c.d]:Array Value)[i]?=aj (.int .u64 ((c.get i).toNat:Int)):=by
 match i,h with
 |0,_=>rfl
 |1,_=>rfl
 |2,_=>rfl
 |3,_=>rfl
theorem aaB:∀b:Nat,b<256->bits .and .u8 (b:Int) 63=((b %64:Nat):Int):=by decide+kernel
theorem Ta(c:C4)(b:Nat)(hb:b<256)(w:World):Calls aB 106 #[oa c,.int .u8 (b:Int)] w (cz (ret (.bool (c.mem b))) w):=by
 refine enter (args:=[aQ #[v64 c.a,v64 c.b,v64 c.c,v64 c.d],.int .u8 (b:Int)]) (n:=14) Tryz.func106 I I I<|b9 (bz (bQ I I I λg=>?_));have h1:b/64<4:=by omega
 have hc:(#[v64 c.a,v64 c.b,v64 c.c,v64 c.d]:Array Value)[0+b/64]?=aj (.int .u64 ((c.get (b/64)).toNat:Int)):=by rw[cV];exact Dl c _ h1
 have hx:=(c.get (b/64)).isLt;have A7:∀w,(il .shr .u8 (b:Int) .u64 6).run aB w= .ok (.int .u8 ((b/64:Nat):Int)) w:=λw=>W4 b 6 8 .u8 .u64 I aiz w;have Ka:∀w,(il .shr .u64 ((c.get (b/64)).toNat:Int) .u8 ((b %64:Nat):Int)).run aB w= .ok (.int .u64 (((c.get (b/64)).toNat/2^(b %64):Nat):Int)) w:=λw=>W4 _ (b %64) 64 .u64 .u8 I J w;have hm:c.mem b=decide ((c.get (b/64)).toNat/2^(b %64) %2=1):=by simp[C4.mem,WV]
 rw[hm];have hd:(c.get (b/64)).toNat/2^(b %64)<=(c.get (b/64)).toNat:=Af _ _;have qM:=aaB b hb;generalize (c.get (b/64)).toNat=x at*;generalize b %64=k at*;generalize b/64=i at*;generalize x/2^k=y at*;have ha:bits .and .u64 (y:Int) 1=((y %2:Nat):Int):=by
  grind[bits_and_u64_nat]
 repeat(first|refine GC ?_|refine gV (oH I I A7) ?_|refine gV (gY bL.eq aK.ty I I h1) ?_|refine gV (aC aK.ty I (aH (i:=0) I hc)) ?_|refine gV (mV I I qM) ?_|refine gV (oH I I Ka) ?_|refine gV (mV I I ha) ?_|refine gV (de I I I) ?_|refine GB ?_)
 exact dC I I (by congr 1;rw[decide_eq_decide];omega)
end bZ
namespace bZ
open Go.RowKit cU dM dg fZ kL
abbrev At2:=Int×Int
structure MOk(s:List UInt8)(N:Nat->Re)(m:At2->Option Value)(n:Nat):Prop where
 val:∀(k f:Nat) v,k<100->f<=s.length->m ((k:Int),(f:Int))=aj v->∃c,v=oa c/\afe s (N k) f c
 Wj:∃D:List Nat,D.Nodup/\D.length=n/\(∀x∈D,x<25600)/\∀(k f:Nat),k<100->f<256->((m ((k:Int),(f:Int))).isSome=aD↔k*256+f∈D)
theorem MOk.le{s:List UInt8}{N:Nat->Re}{m:At2->Option Value}{n:Nat}(h:MOk s N m n):n<=25600:=by
 obtain⟨D,h1,h2,h3,_⟩:=h.Wj;rw[<-h2];exact cT.ny h1 h3
theorem MOk.set{s:List UInt8}{N:Nat->Re}{m:At2->Option Value}{n:Nat}(h:MOk s N m n)(hs:s.length<=200){k f:Nat}(hk:k<100)(hf:f<=s.length){c:C4}(hc:afe s (N k) f c):
    MOk s N (λy=>if y=((k:Int),(f:Int))then aj (oa c)else m y) (if(m ((k:Int),(f:Int))).isSome then n else n+1):=by
  refine⟨λk' f' v mT B5 hv=>?_,?_⟩
  · by_cases e:((k':Int),(f':Int))=((k:Int),(f:Int))
    · rw[if_pos e]at hv
      simp only[hJ]at e;obtain rfl:k'=k:=by omega
      obtain rfl:f'=f:=by omega
      simp only[dr]at hv;exact⟨c,hv.symm,hc⟩
    rw[if_neg e]at hv;exact h.val k' f' v mT B5 hv
  · obtain⟨D,h1,h2,h3,h4⟩:=h.Wj
    by_cases e:(m ((k:Int),(f:Int))).isSome=aD
    · rw[if_pos e]
      refine⟨D,h1,h2,h3,λk' f' mT B5=>?_⟩
      by_cases e2:((k':Int),(f':Int))=((k:Int),(f:Int))
      · rw[if_pos e2]
        simp only[hJ]at e2;obtain rfl:k'=k:=by omega
        obtain rfl:f'=f:=by omega
        simpa using(h4 k' f' mT B5).1 e
      rw[if_neg e2];exact h4 k' f' mT B5
    rw[if_neg e];have hn:k*256+f∉D:=λhd=>e ((h4 k f hk J).2 hd);refine⟨(k*256+f)::D,qq.2 ⟨hn,h1⟩,by rw[c_,h2],λx hx=>?_,λk' f' mT B5=>?_⟩
    · rcases dx.1 hx with rfl|hx
      omega;exact h3 x hx
    by_cases e2:((k':Int),(f':Int))=((k:Int),(f:Int))
    · rw[if_pos e2]
      simp only[hJ]at e2;obtain rfl:k'=k:=by omega
      obtain rfl:f'=f:=by omega
      simp
    rw[if_neg e2,h4 k' f' mT B5,dx];have:¬k'*256+f'=k*256+f:=λh=>e2 (by
      have a:k'=k:=by omega
      have b:f'=f:=by omega
      rw[a,b])
    simp[this]
end bZ
namespace bZ
open Go.RowKit cU dM
section
variable{P:Program}{k:TypeId}{κ:Type}(K:yx P k κ)
variable{n:Nat}{W:bR}{fr:Fr}{L:List b_}{dst:Option Tmp}{ty:TypeId}{pos:String}{after:Array Edge}{guard:Option (Nat×Bool)}{i g c:Nat}{t e:TypeId}{m:κ->Option Value}{x:κ}{z v:Value}{xm xk:Operand}
theorem jB(ht:P.underlying t=aj (.map k e))(hz:∀w,(zeroValue e).run P w= .ok z w)(hi:L[i]?=aj (eZ K g m c))(hm:ev fr xm=aj (.map (aj g)))(hk:ev fr xk=aj (K.kv x))(hx:K.ok x)(hv:m x=aj v):RR P n W ⟨dst,.lookup t xm xk aD,ty,pos,after,guard⟩ fr L (.tuple #[v,.bool aD]):=by
 have:=oq K (n:=n) (W:=W) (dst:=dst) (ty:=ty) (pos:=pos) (after:=after) (guard:=guard) ht hz hi hm hk hx;rw[hv]at this;exact this
theorem jC(ht:P.underlying t=aj (.map k e))(hz:∀w,(zeroValue e).run P w= .ok z w)(hi:L[i]?=aj (eZ K g m c))(hm:ev fr xm=aj (.map (aj g)))(hk:ev fr xk=aj (K.kv x))(hx:K.ok x)(hv:m x=ak):RR P n W ⟨dst,.lookup t xm xk aD,ty,pos,after,guard⟩ fr L (.tuple #[z,.bool aE]):=by
 have:=oq K (n:=n) (W:=W) (dst:=dst) (ty:=ty) (pos:=pos) (after:=after) (guard:=guard) ht hz hi hm hk hx;rw[hv]at this;exact this
end
end bZ
namespace bZ
open Go.RowKit cU dM dg fZ kL
structure StI(s:List UInt8)(a:Re)(f:Nat)(out now:C4):Prop where
 sound:∀j,j<256->out.mem j=aD->Rch (SS a s) f j
 sub:∀j,j<256->now.mem j=aD->out.mem j=aD
 cl:∀i,i<256->out.mem i=aD->now.mem i=aE->∀j,SS a s i j->out.mem j=aD
 st:out.mem f=aD
theorem StI.le{s:List UInt8}{a:Re}{f:Nat}{out now:C4}(h:StI s a f out now)(hf:f<=s.length)(j:Nat)(hj:j<256)(hn:now.mem j=aD):j<=s.length:=
 ((Wl hf).2 (h.sound j hj (h.sub j hj hn))).2.1
end bZ
namespace bZ
open Go.RowKit cU dM dg fZ kL
theorem Og(c:C4)(w:World):(df 80 #[(0,av az 3),(1,oa c)]).run aB w= .ok (qm 3 c (ap ak 0 0)) w:=by kernel_rfl
theorem yz(b:Int)(w:World)(hb:cU.dX b):Calls aB 24 #[av az b] w (cz (ret (qm 3 (e_ b b) (ap ak 0 0))) w):=by
 have hr:=λw=>adH b b hb hb w;have Oh:=Og (e_ b b);generalize e_ b b=c at*;refine enter (args:=[av az b]) (n:=7) Tryz.func24 I I I ?_;refine b9 (bz (aY I λg2=>?_));refine zL ?_
 try refine GA ?_
 refine aW (fI aI.en I I I) (λw hm=>hr _) I I I ?_;intro _ _;refine zL ?_
 repeat(first|refine GA ?_|refine gV (bB I Oh) ?_)
 refine gh 0 (cs':=(l8 3 c (ap ak 0 0)).toArray) ?_;refine zL ?_
 try refine GA ?_
 exact fF (i:=0) I I I I λw hm=>hm.ret
end bZ
namespace bZ
open Go.RowKit cU dM dg fZ kL
section
end
def b8(l:List Nat):SU:=l.map fx
end bZ
namespace bZ
open Go.RowKit cU dM
theorem eA.perm{p:Nat->Prop}{w:World}{L L':List b_}(h:eA p w L)(hp:L.Perm L'):eA p w L':=by
 have hpw:L.Pairwise (λo o'=>∀k,o.e9 k->¬o'.e9 k):=Ij.2 λi j hi hj sM=>h.apart i j _ _ J (bD hi) (bD hj);have ah2:=Ij.1 ((hp.pairwise_iff (λhxy k h1 h2=>hxy k h2 h1)).1 hpw);refine⟨λi o hi=>?_,λi j o o' sM hi hj k h1 h2=>?_⟩
 ·obtain⟨j,hj⟩:=List.getElem?_of_mem (hp.symm.subset (kR hi))
  exact h.all j o hj
 grind
theorem Mem.perm{W:bR}{w:World}{L L':List b_}(h:Mem W L w)(hp:L.Perm L'):Mem W L' w:=⟨h.low,h.owns.perm hp⟩
theorem Tb{l l':Fr}(hp:l.Perm l'):(l.map (·.1)).Nodup->∀(fr:Fr) (i:Nat),look (l++fr) i=look (l'++fr) i:=by
 induction hp with
 |nil=>simp
 | cons x _ ih=>
  intro hn fr i;rw[gd,qq]at hn;obtain⟨k,v⟩:=x;show(bif fw k i then aj v else _)=(bif fw k i then aj v else _)
  simp_all
 | swap x y l=>
  intro hn fr i;obtain⟨k,v⟩:=x;obtain⟨k2,v2⟩:=y;simp only[gd,qq,dx,not_or]at hn;show(bif fw k2 i then aj v2 else bif fw k i then aj v else _)=(bif fw k i then aj v else bif fw k2 i then aj v2 else _)
  cases e:fw k2 i
  rfl
  cases e2:fw k i
  rfl;have a:=kT e;have b:=kT e2;exact absurd (a.trans b.symm) hn.1.1
 | trans h1 _ ih1 ih2=>
  grind
theorem Tc{α β:Type}(f:α->β){l l':List β}(h:l.Perm l'):∀dn:List α,dn.map f=l->∃dn':List α,dn'.Perm dn/\dn'.map f=l':=by
 induction h with
 |nil=>simp
 | cons x _ ih=>
  intro dn h
  match dn,h with
  |y::dn,h=>
   simp only[gd,fO]at h;obtain⟨d',h1,h2⟩:=ih dn h.2;exact⟨y::d',h1.cons y,by simp_all⟩
 | swap x y l=>
  intro dn h
  match dn,h with
  |a::b::dn,h=>
   simp only[gd,fO]at h;exact⟨b::a::dn,adL _ _ _,by simp_all⟩
 |trans _ _ ih1 ih2=>
  intro dn h;obtain⟨d1,h1,h2⟩:=ih1 dn h;obtain⟨d2,h3,h4⟩:=ih2 d1 h2;exact⟨d2,h3.trans h1,h4⟩
def Td:List Nat->List (List Nat)
 |[]=>[[]]
 |a::r=>Td r++(Td r).map (a:: ·)
theorem A8(p:Nat->Bool):∀l,l.filter p∈Td l
 |[]=>by simp[Td]
 |a::r=>by
  have ih:=A8 p r;unfold Td;rw[List.filter_cons];split;exact List.mem_append_right _ (Im ih);exact xu _ ih
structure Mk where
 i:Nat
 d:Nat
 v:Nat->Value
 own:Nat->b_
def od(dn:List (Mk×Nat)):Fr:=dn.map λx=>(x.1.d,x.1.v x.2)
def owm(dn:List (Mk×Nat)):List b_:=dn.map λx=>x.1.own x.2
def mH(listed:Array Bool)(D:List Nat):Array Bool:=D.foldl (λl i=>l.setIfInBounds i aD) listed
theorem Gs(D:List Nat):∀(listed:Array Bool) (j:Nat),(mH listed D)[j]?=(listed[j]?).map λb=>b||D.contains j:=by
 induction D with
 |nil=>simp[mH]
 |cons a r ih=>
  intro listed j;show(mH (listed.setIfInBounds a aD) r)[j]?=_
  grind
theorem xw{listed:Array Bool}{D D':List Nat}(h:∀j,D.contains j=D'.contains j):mH listed D=mH listed D':=by
 apply Array.ext_getElem?;intro j;rw[Gs,Gs,h j]
def acN(ops:Array Oper)(is:List Nat)(ends:List (List Nat))(listed:Array Bool):Bool:=(Td is).all λD=>ends.contains D||decide (iF .any ops (mH listed D)=is.filter λi=>!D.contains i)
theorem KQ:∀(l l':List Nat),l.Nodup->(∀x∈l,x∈l')->l.length<=l'.length
 |[],_,_,_=>bH _
 |a::r,l',hn,hs=>by
  rw[qq]at hn;have ha:=hs a (by simp);have:=KQ r (l'.erase a) hn.2 λx hx=>(Ob (λ(e:x=a)=>hn.1 (by simp_all))).2 (hs x (by grind));rw[Ik ha]at this;have:=Il ha;simp;omega
theorem Dm:∀(l l':List Nat),l.Nodup->(∀x∈l,x∈l')->l'.length<=l.length->l.Perm l'
 |[],l',_,_,h=>by
  simp_all
 |a::r,l',hn,hs,h=>by
  rw[qq]at hn;have ha:=hs a (by simp);have hl:=Ik ha;have h2:=Il ha;have:=Dm r (l'.erase a) hn.2 (λx hx=>(Ob (λ(e:x=a)=>hn.1 (by simp_all))).2 (hs x (by grind))) (by simp_all);exact(this.cons a).trans (List.perm_cons_erase ha).symm
theorem acO:∀(ms:List Mk),(ms.map (·.i)).Nodup->∀m∈ms,∀m'∈ms,m.i=m'.i->m=m'
 |[],_,_,hm,_,_,_=>by grind
 |y::ms,h,m,hm,m',qV,e=>by
  rw[gd,qq]at h;rcases dx.1 hm with a1|a1<;>rcases dx.1 qV with a2|a2
  grind;exact absurd (by rw[<-a1,e];exact Im a2) h.1;exact absurd (by rw[<-a2,<-e];exact Im a1) h.1;exact acO ms h.2 m a1 m' a2 e
theorem KR:∀(dn:List (Mk×Nat)) (ms all:List Mk),(∀m∈all,∀m'∈all,m.i=m'.i->m=m')->(∀x∈dn,x.1∈all)->(∀x∈ms,x∈all)->dn.map (·.1.i)=ms.map (·.i)->dn.map (·.1)=ms
 |[],ms,_,_,_,_,h=>by
  simp_all
 |y::dn,[],_,_,_,_,h=>by grind
 |y::dn,m::ms,all,hi,h1,h2,h=>by
  simp only[gd,fO]at h;rw[gd,KR dn ms all hi (λx hx=>h1 x (by grind)) (λx hx=>h2 x (by grind)) h.2,hi y.1 (h1 y (by simp)) m (h2 m (by simp)) h.1]
section
variable{P:Program}{n:Nat}{W:bR}{Q:Exit->Act->World->Prop}{fr:Fr}{L L0:List b_}{ops:Array Oper}
def Gt(P:Program)(n:Nat)(W:bR)(ops:Array Oper)(fr:Fr)(m:Mk):Prop:=
 ∃o,ops[m.i]?=aj o/\∀(Q:Exit->Act->World->Prop) (Fi:Fr) (L:List b_),(∀q v,look fr q=aj v->look Fi q=aj v)->(∀g,TL P n W ops Q [] ((m.d,m.v g)::Fi) (L++[m.own g]))->TL P n W ops Q [o] Fi L
theorem Gu:∀(l:Fr) {q:Nat} {v:Value},(∀x∈l,look fr x.1=ak)->look fr q=aj v->look (l++fr) q=aj v
 |[],_,_,_,h=>h
 |(k,u)::l,q,v,hl,h=>by
  show(bif fw k q then aj u else look (l++fr) q)=aj v
  cases e:fw k q
  exact Gu l (λx hx=>hl x (by grind)) h;have:=kT e;subst this;have:=hl (k,u) (by simp);rw[this]at h
  cases h
theorem nj.perm{a:Act}{l l':Fr}(h:nj n a (l++fr))(hp:l.Perm l')(hn:(l.map (·.1)).Nodup):nj n a (l'++fr):=
 ⟨h.size,h.defers,λi v hl=>h.get i v (by grind[Tb])⟩
theorem W5:∀(dn:List (Mk×Nat)),(dn.map (·.1.i)).Nodup->∃g:Nat->Nat,∀x∈dn,g x.1.i=x.2
 |[],_=>⟨λ_=>0,λx hx=>by grind⟩
 | y::dn,h=>by
  rw[gd,qq]at h;obtain⟨g,hg⟩:=W5 dn h.2;refine⟨λi=>if i=y.1.i then y.2 else g i,λx hx=>?_⟩;rcases dx.1 hx with rfl|hx
  simp;have:¬x.1.i=y.1.i:=λe=>h.1 (by rw[<-e];exact Im hx);simp only[if_neg this];exact hg x hx
theorem Oi(ms E:List Mk)(hn:(ms.map (·.i)).Nodup)(hEn:(E.map (·.i)).Nodup)(hEd:(E.map (·.d)).Nodup)(hE:∀m∈E,m∈ms)(dn:List (Mk×Nat))(h1:∀x∈dn,x.1∈ms)(hp:(dn.map (·.1.i)).Perm (E.map (·.i)))(a:Act)(hr:nj n a (od dn++fr)):
 ∃g:Nat->Nat,nj n a (E.map (λm=>(m.d,m.v (g m.i)))++fr)/\Mem W (L++owm dn)=Mem W (L++E.map λm=>m.own (g m.i)):=by
 obtain⟨d',p1,p2⟩:=Tc (λx:Mk×Nat=>x.1.i) hp dn I;have e1:=KR d' E ms (acO ms hn) (λx hx=>h1 x (p1.subset hx)) hE p2;obtain⟨g,hg⟩:=W5 d' (by simp_all);have e2:d'=E.map λm=>(m,g m.i):=by
  rw[<-e1,Ip]
  conv=>lhs;rw[<-List.map_id d']
  grind[List.map_congr_left]
 have Oj:((od dn).map (·.1)).Nodup:=by
  have:((od dn).map (·.1)).Perm (E.map (·.d)):=by
   have h5:=(p1.map λx:Mk×Nat=>x.1.d).symm;have e:d'.map (λx:Mk×Nat=>x.1.d)=E.map (·.d):=by simp_all
   rw[e]at h5;unfold od;rw[Ip];exact h5
  grind
 have H4:=hr.perm (p1.map _).symm Oj;refine⟨g,?_,?_⟩
 ·have:d'.map (λx=>(x.1.d,x.1.v x.2))=E.map (λm=>(m.d,m.v (g m.i))):=by simp_all
  grind
 ·have e:E.map (λm=>m.own (g m.i))=owm d':=by rw[e2,owm,Ip];rfl
  rw[e];exact funext λw=>propext ⟨λh=>h.perm (((p1.map _).symm).append_left L),λh=>h.perm ((p1.map _).append_left L)⟩
theorem aaC(ms:List Mk)(ends:List (List Mk))(listed:Array Bool)(U:World->Prop)(S0:Nat)(hUL:∀l,∀w,Mem W (L++l) w->U w)
 (hn:(ms.map (·.i)).Nodup) (hd:(ms.map (·.d)).Nodup) (hB:acN ops (ms.map (·.i)) (ends.map λE=>E.map (·.i)) listed=aD) (hm:∀m∈ms,Gt P n W ops fr m) (hf:∀m∈ms,look fr m.d=ak)
 (agY:∀E∈ms::ends,(∀m∈E,m∈ms)/\(E.map (·.i)).Nodup/\(E.map (·.d)).Nodup/\∀(k:Nat) (g:Nat->Nat) (a:Act),E.length+k=ms.length->nj n a (E.map (λm=>(m.d,m.v (g m.i)))++fr)->rX P .any ops Q U (k+S0) (mH listed (E.map (·.i))) a (Mem W (L++E.map λm=>m.own (g m.i)))):
 ∀(k:Nat) (dn:List (Mk×Nat)),(∀x∈dn,x.1∈ms)->(dn.map (·.1.i)).Nodup->dn.length+k=ms.length->∀a,nj n a (od dn++fr)->rX P .any ops Q U (k+S0) (mH listed (dn.map (·.1.i))) a (Mem W (L++owm dn)):=by
 have stop:∀E∈ms::ends,∀(k:Nat) (dn:List (Mk×Nat)),(∀x∈dn,x.1∈ms)->(dn.map (·.1.i)).Nodup->dn.length+k=ms.length->(dn.map (·.1.i)).Perm (E.map (·.i))->∀a,nj n a (od dn++fr)->rX P .any ops Q U (k+S0) (mH listed (dn.map (·.1.i))) a (Mem W (L++owm dn)):=by
  intro E hE k dn h1 h2 h3 hp a hr;obtain⟨q1,q2,q3,q4⟩:=agY E hE;obtain⟨g,r1,r2⟩:=Oi (W:=W) (L:=L) ms E hn q2 q3 q1 dn h1 hp a hr;have hlen:=hp.length_eq;simp only[dI]at hlen;rw[r2,xw (D':=E.map (·.i)) λj=>?_]
  simp_all;exact Bool.eq_iff_iff.2 (by simpa using hp.mem_iff)
 intro k
 induction k with
 | zero=>
  intro dn h1 h2 h3 a hr;exact stop ms (by simp) 0 dn h1 h2 h3 (Dm (dn.map (·.1.i)) (ms.map (·.i)) h2 (λx hx=>by
   grind) (by grind)) a hr
 | succ k ih=>
  intro dn h1 h2 h3 a hr;have pV:=λE hE hp=>stop E hE (k+1) dn h1 h2 h3 hp a hr;have kx:∀x∈dn.map (·.1.i),x∈ms.map (·.i):=λx hx=>by
   grind
  generalize hD:dn.map (·.1.i)=D at*
  have ahR:D.length=dn.length:=by grind
  have tX:∀j,D.contains j=((ms.map (·.i)).filter λi=>D.contains i).contains j:=λj=>by
   simp_all
  have hq:=List.all_eq_true.1 hB _ (A8 (λi=>D.contains i) (ms.map (·.i)))
  rw[lK]at hq;rcases hq with hq|hq
  grind
  have adM:iF .any ops (mH listed D)=(ms.map (·.i)).filter λi=>!D.contains i:=by
   have hq:=of_decide_eq_true hq;rw[xw tX,hq];exact List.filter_congr λi _=>by simp_all
  rw[show k+1+S0=(k+S0)+1 by omega];refine⟨λh0=>?_,λi hi w hw=>?_⟩
  ·exfalso
   have:(ms.map (·.i)).length<=D.length:=KQ _ _ hn λx hx=>by
    grind
   grind
  rw[adM,List.mem_filter]at hi;obtain⟨hi1,U0⟩:=hi;obtain⟨m,hm1,rfl⟩:=fa.1 hi1;have hi3:m.i∉D:=by simp_all
  obtain⟨o,ho,No⟩:=hm m hm1;refine jz ho ((No _ (od dn++fr) (L++owm dn) (λq v hq=>Gu (od dn) (λx hx=>?_) hq) λg=>?_).go a w hr hw)
  ·obtain⟨y,hy,rfl⟩:=fa.1 hx
   grind
  refine ky ⟨λa' w' H4 qV=>⟨Mem W (L++owm ((m,g)::dn)),im _ _,hUL _,qV.perm ?_,?_⟩⟩
  ·rw[eY]
   exact(List.perm_append_comm).append_left L
  have:=ih ((m,g)::dn) (λx hx=>by
   grind) (by simp_all) (by grind) a' H4
  rw[gd,hD]at this;have e:(mH listed D).setIfInBounds m.i aD=mH listed (m.i::D):=by
   have e0:(mH listed D).setIfInBounds m.i aD=mH listed (D++[m.i]):=by
    simp[mH]
   rw[e0];exact xw λj=>by
    grind
  simp_all
structure TX(P:Program)(n:Nat)(W:bR)(ops:Array Oper)(Q:Exit->Act->World->Prop)(L0:List b_)(listed:Array Bool)(f:Nat)(fr:Fr)(L:List b_):Prop where
 go:(∀w,Mem W L w->Mem W L0 w)->(∀c a d v w,Q (.panic c) (qd a d v) w->Q (.panic c) a w)->wV ops=aD->∀a,nj n a fr->rX P .any ops Q (Mem W L0) f listed a (Mem W L)
theorem mem_left{L l:List b_}{w:World}(h:Mem W (L++l) w):Mem W L w:=by
 have hl:∀(i:Nat) (o:b_),L[i]?=aj o->(L++l)[i]?=aj o:=λi o h=>by
  grind
 exact⟨h.low,⟨λi o hi=>h.owns.all i o (hl i o hi),λi j o o' sM hi hj=>h.owns.apart i j o o' sM (hl i o hi) (hl j o' hj)⟩⟩
theorem W6{id:Nat}{l:List Oper}(L0:List b_)(kx:∀w,Mem W L w->Mem W L0 w)(hm:P.follows .mixedOrders=aD)(l6:wV l.toArray=aD)
 (hQ:∀c a d v w,Q (.panic c) (qd a d v) w->Q (.panic c) a w)
 (h:TX P n W l.toArray Q L0 (wQ l.toArray.size aE) l.toArray.size fr L):T P n W (.region id l.toArray aD) Q fr L:=⟨λa w hr sY=>by
 refine wp_region_any hm ?_;exact xf (U:=Mem W L0) l.toArray.size (wQ l.toArray.size aE) a (Mem W L) w.drew sY.drew (h.go kx hQ l6 a hr)⟩
theorem Cb{listed:Array Bool}{f:Nat}(t:Ord)(ho:lJ .any ops t listed=aD)(hf:f=t.size)(h:TW P n W ops Q L0 t fr L):TX P n W ops Q L0 listed f fr L:=
 ⟨λkx hQ l6 a hr=>by subst hf;exact jA l6 hQ t listed a (Mem W L) (im W L) kx ho (h.go a hr)⟩
theorem qw{listed:Array Bool}{f d:Nat}{o:Oper}{v:Value}(i:Nat)(hi:((iF .any ops listed).contains i&&Region.free .any ops listed i)=aD)(ho:ops[i]?=aj o)(hr:RR P n W o fr L0 v)(hg:o.guard=ak)(hd:o.dst=aj d)(hn:dj d n=aD)
 (h:TX P n W ops Q L0 (listed.setIfInBounds i aD) f ((d,v)::fr) L):TX P n W ops Q L0 listed (f+1) fr L:=⟨λkx hQ l6 a gL=>by
 rw[eV]at hi;have hc:jx P ops (Mem W L0) o v a:= .inl ⟨pP hg,λw hw=>by unfold oz;rw[hr.go a w gL hw];exact⟨rfl,Gr.refl _⟩⟩;exact yr ho (Region.noSelect_spec l6) (λc a w=>hQ c a o.dst v w) f listed a (Mem W L) (im W L) kx (Region.free_spec ho hi.2) (by simp_all) hc
  (by rw[hd];exact h.go kx hQ l6 _ (gL.put hn v))⟩
def W7(ops:Array Oper)(ms:List Mk)(ends:List (List Nat))(listed:Array Bool)(fr:Fr):Bool:=
 decide (ms.map (·.i)).Nodup&&decide (ms.map (·.d)).Nodup&&acN ops (ms.map (·.i)) ends listed&&ms.all λm=>(look fr m.d).isNone
theorem KS{listed:Array Bool}{f:Nat}(ms:List Mk)(p:Mk->Bool)(S0:Nat)(hf:f=ms.length+S0)(hB:W7 ops ms [ms.map (·.i),(ms.filter p).map (·.i)] listed fr=aD)(hm:∀m∈ms,Gt P n W ops fr m)
 (h:∀g:Nat->Nat,TX P n W ops Q L0 (mH listed (ms.map (·.i))) S0 (ms.map (λm=>(m.d,m.v (g m.i)))++fr) (L++ms.map λm=>m.own (g m.i)))
 (h':∀g:Nat->Nat,TX P n W ops Q L0 (mH listed ((ms.filter p).map (·.i))) (ms.length-(ms.filter p).length+S0) ((ms.filter p).map (λm=>(m.d,m.v (g m.i)))++fr) (L++(ms.filter p).map λm=>m.own (g m.i))):TX P n W ops Q L0 listed f fr L:=⟨λkx hQ l6 a hr=>by
 subst hf;simp only[W7,eV,decide_eq_true_eq]at hB;obtain⟨⟨⟨b1,b2⟩,b3⟩,b4⟩:=hB;have:=aaC (Q:=Q) (L:=L) ms [ms,ms.filter p] listed (Mem W L0) S0 (λl w hw=>kx w (mem_left hw)) b1 b2 b3 hm (λm hm=>by simp_all)
  (λE hE=>by
   have hE:E=ms\/E=ms.filter p:=by
    simp_all
   rcases hE with rfl|rfl
   ·exact⟨λ_ h=>h,b1,b2,λk g a hk hr=>by
     obtain rfl:k=0:=by omega
     rw[Nat.zero_add];exact(h g).go (λw hw=>kx w (mem_left hw)) hQ l6 a hr⟩
   exact⟨λ_ h=>(List.mem_filter.1 h).1,b1.sublist (List.filter_sublist.map _),b2.sublist (List.filter_sublist.map _),λk g a hk hr=>by
    obtain rfl:k=ms.length-(ms.filter p).length:=by omega
    exact(h' g).go (λw hw=>kx w (mem_left hw)) hQ l6 a hr⟩) ms.length [] (λx hx=>by grind) (by simp) (by simp) a hr
 simp_all[mH,owm]⟩
theorem yA{fr Fi:Fr}(h:∀q v,look fr q=aj v->look Fi q=aj v){x:Operand}{v:Value}(hx:ev fr x=aj v):ev Fi x=aj v:=by
 cases x with
 |tmp t=>exact h _ _ hx
 |_=>exact hx
theorem nB{i d:Nat}{t e ty:TypeId}{pos:String}{after:Array Edge}{x y:Operand}{c bytes m cap:Nat}{k k':IntKind}{zs:Array Value}[qN P t e c bytes][bT P e zs](ho:ops[i]?=aj ⟨aj d,.makeSlice t x y,ty,pos,after,ak⟩)(hx:ev fr x=aj (.int k (m:Int)))(hy:ev fr y=aj (.int k' (cap:Int)))(Nl:m<=cap)(hb:bytes*cap<=281474976710656)(qM:cap<=9223372036854775807)(hn:dj d n=aD):
 Gt P n W ops fr ⟨i,d,λg=>ap (aj ⟨g,0,ak⟩) m cap,λg=>aP g (madeCells zs (cap*c)) e⟩:=
 ⟨_,ho,λ_ _ _ hl h=>tP (yA hl hx) (yA hl hy) Nl hb qM hn h⟩
theorem Gv{i d:Nat}{t ty:TypeId}{pos:String}{after:Array Edge}{cs:Array Value}[bT P t cs](ho:ops[i]?=aj ⟨aj d,.alloc t,ty,pos,after,ak⟩)(hn:dj d n=aD):
 Gt P n W ops fr ⟨i,d,λg=>aJ (aj ⟨g,0,ak⟩),λg=>aP g cs t⟩:=
 ⟨_,ho,λ_ _ _ _ h=>aY hn h⟩
end
end bZ
namespace fZ
open dg
def SzR(p0:Nat)(x:Rx)(st:RS):Prop:=p0<=st.p/\(st.e=0->sN x+1<=200*(st.p-p0))/\(st.e≠0->sN x<=200*(st.p-p0)+1)
section
variable{s:SU}
theorem SzR.le{p0:Nat}{x:Rx}{st:RS}(h:SzR p0 x st):sN x<=200*(st.p-p0)+1:=by
 by_cases e:st.e=0
 have:=h.2.1 e;omega;exact h.2.2 e
end
end fZ
namespace aT
abbrev dv:=Int×Int
abbrev Prod:=Int×List dv
structure d_ where
 aR:Int
 bC:Int
 aF:List Prod
def right(aR bC:Int)(x:dv):Bool:=if x.1=1 then decide (0<=x.2)&&decide (x.2<aR)else if x.1=2 then decide (0<=x.2)&&decide (x.2<bC)else aE
def yB(aR bC:Int)(p:Prod):Int:=if 8<p.2.length then 2 else if p.1<0 then 1 else if bC<=p.1 then 1 else if p.2.any (λx=>!right aR bC x)=aD then 1 else 0
def oP(aR bC:Int):List Prod->Int
 |[]=>0
 |p::r=>if yB aR bC p≠0 then yB aR bC p else oP aR bC r
def bX(g:d_):Int:=if g.aR<0 then 1 else if 30<g.aR then 1 else if g.bC<1 then 1 else if 20<g.bC then 1 else if 40<g.aF.length then 2 else oP g.aR g.bC g.aF
theorem W8{t n:Int}{p:Prod}(h:yB t n p=0):p.2.length<=8/\0<=p.1/\p.1<n/\∀x∈p.2,right t n x=true:=by
 unfold yB at h;split at h;· simp at h
 split at h;· simp at h
 split at h;· simp at h
 split at h;· simp at h
 rename_i a b c d
 refine⟨by omega,by omega,by omega,λx hx=>?_⟩;simp only[qt,not_exists,not_and,CH,Bool.not_eq_false]at d
 simpa using d x hx
theorem Gw{t n:Int}:∀{l:List Prod},oP t n l=0->∀p∈l,yB t n p=0
 |[],_,_,h=>by cases h
 | q::r,h,p,hp=>by
  unfold oP at h;split at h;contradiction
  rename_i c
  rcases dx.1 hp with rfl|hp
  simpa using c
  exact Gw h p hp
theorem cP{g:d_}(h:bX g=0):0<=g.aR/\g.aR<=30/\1<=g.bC/\g.bC<=20/\g.aF.length<=40/\∀p∈g.aF,p.2.length<=8/\0<=p.1/\p.1<g.bC/\∀x∈p.2,right g.aR g.bC x=true:=by
 unfold bX at h;split at h;· simp at h
 split at h;· simp at h
 split at h;· simp at h
 split at h;· simp at h
 split at h;· simp at h
 exact⟨by omega,by omega,by omega,by omega,by omega,λp hp=>W8 (Gw h p hp)⟩
end aT
namespace bZ
open Go.RowKit cU dM
theorem str_inj{x y:List UInt8}(h:str x=str y):x=y:=by
 unfold str at h
 simpa using h
def hZ:yx aB 9 (List UInt8) where
 kv:=str
 ok l:=l.length<=9223372036854775807
 law:=Go.WideMaps.string_law Tryz.underlying9
 key l h:=⟨_,Go.WideMaps.keyOf_string_mk Tryz.underlying9 (by unfold maxLen;simpa[HQ]using h)⟩
 inj x y h:=str_inj h
end bZ
namespace bZ
open Go.RowKit cU dM dg
theorem Cc{n:Int}(h0:0<=n)(h1:n<=18446744073709551615):v64 (ik 64 n.toNat)= .int .u64 n:=by
 simp only[v64,fP,CG]
 congr 1
 omega
set_option maxRecDepth 100000 in
theorem Te{H:Type}{enc0:TypeId×Value->H}{W:World}:pQ enc0 aB W 77 (λcs x=>cs=dR x/\True):=λfuel cs x hf=>by
 have ho:pQ enc0 aB W 77 (Wo .u64 0 18446744073709551615 4):=(KB (is:=isInt .u64 0 18446744073709551615) (c:=1) Tryz.underlying77 (by kernel_rfl) (SY Tryz.underlying75)).mono λcs l h=>by
  have e:aB.cellsOf 77=4:=by kernel_rfl
  exact KC (by rw[h.1,e]) h.2
 obtain⟨l,h1,h2,h3⟩:=ho fuel cs _ hf
 match l,h1 with
 |[p,q,r,s],_=>
  have b0:=h3 p (by simp);have b1:=h3 q (by simp);have b2:=h3 r (by simp);have b3:=h3 s (by simp);refine⟨⟨ik 64 p.toNat,ik 64 q.toNat,ik 64 r.toNat,ik 64 s.toNat⟩,?_,trivial⟩;show cs=[v64 (ik 64 p.toNat),v64 (ik 64 q.toNat),v64 (ik 64 r.toNat),v64 (ik 64 s.toNat)]
  rw[Cc b0.1 b0.2,Cc b1.1 b1.2,Cc b2.1 b2.2,Cc b3.1 b3.2,h2];rfl
end bZ
namespace bZ
open Go.RowKit cU dM dg fZ Go.ChangeShapes Go.WideShapes Go.ChangeAt
set_option maxRecDepth 100000
section
variable{H:Type}{enc0:TypeId×Value->H}{P:Program}{W:World}{M:Msr P H}
def Dn(M:Msr P H)(enc0:TypeId×Value->H)(W:World)(fuel:Nat)(t:TypeId){α:Type}(is:List Value->α->Prop):Prop:=
 ∀cs x,qe enc0 P W 0 (λ_=>aD) aD fuel t cs=aj x->M.ok t x.1->∃a,is cs a
theorem kB.at{fuel:Nat}{t:TypeId}{α:Type}{is:List Value->α->Prop}(h:kB M enc0 W t is):Dn M enc0 W fuel t is:=λcs x=>h fuel cs x
theorem Ir{fuel:Nat}{t e:TypeId}{c:Nat}(ht:P.underlying t=aj (.slice e))(hc:P.cellsOf e=c)(CQ:0<c){α:Type}{is:List Value->α->Prop}(hd:∀n,fuel=n+1->Dn M enc0 W n e is)(_:∀cs a,is cs a->cs.length=c):Dn M enc0 W fuel t (λcs l=>afh W is c cs l/\M.lim e l.length):=λcs x h hm=>by
 rcases DataW.trod_slice ht h with⟨rfl,_⟩|⟨a,len,cap,elems,rest,n,hf,rfl,hx,_,hlc,hmx,sW,yh,_⟩
 exact⟨[],⟨_,rfl,ak,0,rfl,bm _,by decide,λh=>by simp at h⟩,M.zero e⟩;rw[hx]at hm;obtain⟨C_,pF⟩:=M.slice ht hm;have each:∀i,i<len->∃y:α,∃cs,W.cells? 0 (a.add (i*c)) c=aj cs/\is cs y:=λi hi=>by
  have h1:=yh i hi;rw[hc,bD J]at h1
  cases hcell:W.cells? 0 (a.add (i*c)) c with
  |none=>rw[hcell]at h1;simp at h1
  | some cs=>
   rw[hcell]at h1;obtain⟨y,hy⟩:=hd n hf cs _ h1 (pF _ (fa.2 ⟨_,cD J,rfl⟩));exact⟨y,cs,rfl,hy⟩
 obtain⟨l,Ko,hp⟩:=yi len each;subst Ko;refine⟨l,⟨_,rfl,aj a,cap,rfl,hlc,hmx,λh0=>?_⟩,by rw[dI,sW]at C_;exact C_⟩;obtain⟨cs0,h1,h2⟩:=hp 0 l[0] (bD h0);have h3:=(iV h1).2 0 CQ;have hlen:=(iV h1).1;rw[bD J]at h3;have hsp:=zV h3;have e0:a.spot=none:=by
  rw[Nat.zero_mul]at hsp;unfold ti at hsp
  simpa using hsp
 obtain⟨b,off,spot⟩:=a;obtain rfl:spot=none:=e0;refine⟨b,off,rfl,λi hi=>?_⟩;obtain⟨cs,h4,h5⟩:=hp i l[i] (bD hi);refine⟨cs,h5,λj u hj=>?_⟩;have hj2:j<c:=by
  have:=(dl.1 hj).1;rw[(iV h4).1]at this;exact this
 have h6:=(iV h4).2 j hj2;rw[hj]at h6;have e1:∀(o k:Nat),(⟨b,o,ak⟩:Addr).add k=⟨b,o+k,ak⟩:=λo k=>by unfold ti;simp
 rw[e1,e1]at h6;rw[<-h6]
theorem Gx{t:TypeId}{fs:Array Field}(ht:P.underlying t=aj (.struct fs)){fuel:Nat}{cs:List Value}{x:DataW H×List MemPlace}(h:qe enc0 P W 0 (λ_=>aD) aD fuel t cs=aj x)(hm:M.ok t x.1):
 cs.length=P.cellsOf t/\∃n,fuel=n+1/\∀(i:Nat) (f:Field),fs[i]?=aj f->∀{α:Type} {is:List Value->α->Prop},Dn M enc0 W n f.type is->∃a,is ((cs.drop f.offset).take (P.cellsOf f.type)) a:=by
 obtain⟨xs,n,hn,hx,hl,hlen,hf⟩:=DataW.trod_struct ht h;refine⟨hl,n,hn,λi f hi α is ho=>?_⟩;have h1:=hf i f hi;have hlt:i<xs.length:=by rw[hlen];exact(jt.1 hi).1
 rw[bD hlt]at h1;rw[hx]at hm;exact ho _ _ h1 (M.Wq ht hm i f _ hi (by rw[eX,bD hlt];rfl))
end
theorem W9{W:World}{v:Value}{l:List Rx}(h:SX W (λcs t=>kh (pD W) W cs t) 6 v l):jQ xo (pD W) W v l:=by
 obtain⟨base,cap,h1,h2,h3,h4⟩:=h;refine⟨base,cap,h1,h2,h3,λh0=>?_⟩;obtain⟨b,off,h5,h6⟩:=h4 h0;refine⟨b,off,h5,?_,λi hi=>?_⟩
 ·obtain⟨cs,h7,h8⟩:=h6 0 h0
  have h7':cs.length=6:=kh.adC h7;have:=h8 0 _ (bD J);exact nL W _ this
 obtain⟨cs,h7,h8⟩:=h6 i hi;exact⟨cs,h7,h8⟩
theorem Dp{H:Type}{M:Msr aB H}{enc0:TypeId×Value->H}{W:World}:∀(F fuel:Nat),fuel<=F->Dn M enc0 W fuel 80 (λcs t=>kh (pD W) W cs t)
 | 0,fuel,hF,cs,x,h,hm=>by
  obtain⟨_,n,hn,_⟩:=Gx Tryz.underlying80 h hm;omega
 | F +1,fuel,hF,cs,x,h,hm=>by
  obtain⟨hl,n,hn,Kb⟩:=Gx Tryz.underlying80 h hm;have hl6:cs.length=6:=hl;obtain⟨p,e0,k1⟩:=Kb 0 _ rfl (kB.at (N8 Tryz.underlying3));obtain⟨c,e1⟩:=Kb 1 _ rfl (kB.at (Gl Te));obtain⟨l,⟨v,e2,hs⟩,_⟩:=Kb 2 _ rfl (Ir (c:=6) Tryz.underlying78 (by kernel_rfl) aiz (λm hm=>Dp F m J) λcs a h=>h.adC)
  replace e0:(cs.drop 0).take 1=[av az p]:=e0
  replace e1:(cs.drop 1).take 4=dR c:=e1.1
  replace e2:(cs.drop 5).take 1=[v]:=e2
  refine⟨.mk p c l,yy.2 ⟨v,?_,k1,W9 hs⟩⟩;unfold l8;rw[<-e1]
  match cs,hl6 with
  | [x0,x1,x2,x3,x4,x5],_=>
   simp only[List.drop_succ_cons,List.drop_zero,List.take_succ_cons,List.take_zero,fO,and_true]at e0 e2;subst e0 e2;rfl
end bZ
namespace yC
def mX(n:Nat)(tag:Int)(row:List Int):Bool:=decide (tag< -1)||decide (20<=tag)||row.any λt=>decide (t< -1)||decide ((n:Int)<=t)
def Ag(rows:List (List Int))(tags:List Int):Int:=
 if 200<rows.length then 2 else if rows.length=0\/tags.length≠rows.length then 1 else if(dV rows.length).any (λi=>mX rows.length (tags.getD i 0) (rows.getD i []))then 1 else 0
theorem W_{rows:List (List Int)}{tags:List Int}(h:Ag rows tags=0):rows.length<=200/\0<rows.length/\tags.length=rows.length/\∀i,i<rows.length-> -1<=tags.getD i 0/\tags.getD i 0<20/\∀t∈rows.getD i [],-1<=t/\t<rows.length:=by
 unfold Ag at h;split at h;simp at h;split at h;simp at h;split at h;simp at h
 rename_i c1 c2 c3
 refine⟨by omega,by omega,by omega,λi hi=>?_⟩;simp only[qt,mQ,not_exists,not_and]at c3;have:=c3 i hi;simp only[mX,lK,decide_eq_true_eq,qt,not_or,not_exists,not_and]at this;obtain⟨⟨a,b⟩,c⟩:=this;refine⟨by omega,by omega,λt ht=>?_⟩;have:=c t ht;omega
end yC
namespace bZ
open Go.RowKit cU dM yC
set_option maxRecDepth 100000
def isRow(cs:List Value)(r:List Int):Prop:=r.length=256/\cs=r.map (.int .i16)/\∀x∈r,-32768<=x/\x<=32767
def KT(W:World)(v:Value)(rows:List (List Int))(tags:List Int):Prop:=∃vr vt,v=aQ #[vr,vt]/\SX W isRow 256 vr rows/\SX W (isInt .i64 (-9223372036854775808) 9223372036854775807) 1 vt tags/\∀r∈rows,r.length=256
theorem KT.up{W w:World}{L:List b_}{v:Value}{rows:List (List Int)}{tags:List Int}(h:KT W v rows tags)(hm:Mem W L w):KT w v rows tags:=
 let ⟨vr,vt,h1,h2,h3,h4⟩:=h;⟨vr,vt,h1,h2.up hm,h3.up hm,h4⟩
end bZ
namespace bZ
open Go.RowKit cU dM yC
theorem adN{rows:List (List Int)}{i:Nat}(hi:i<rows.length):rows.getD i []=rows[i]:=by rw[cH,bD hi];rfl
theorem Ol{l:List Int}{i:Nat}(hi:i<l.length):l.getD i 0=l[i]:=by rw[cH,bD hi];rfl
theorem Tf{n i:Nat}{p:Nat->Bool}(hi:i<n)(h:p i=aD):(dV n).any p=true:=qt.2 ⟨i,mQ.2 hi,h⟩
theorem Dq(v:Value)(rows:List (List Int))(tags:List Int)(w:World)(h:KT w v rows tags):
 Calls aB 71 #[v] w (cz (ret (av az (Ag rows tags))) w):=by
 obtain⟨vr,vt,rfl,hr,ht,ah3⟩:=h;obtain⟨br,cr,rfl,U2,vC,Dr⟩:=hr;have ht':=ht.sl (f:= .int .i64) λcs a h=>h.1;obtain⟨bt,ct,rfl,ht1,Xa,Kc⟩:=ht';have htr:∀i (hi:i<tags.length),-9223372036854775808<=tags[i]/\tags[i]<=9223372036854775807:=λi hi=>by
  obtain⟨_,_,_,_,_,h5⟩:=ht;obtain⟨_,_,_,h6⟩:=h5 J;obtain⟨_,h7,_⟩:=h6 i hi;exact h7.2
 clear ht;unfold maxLen at vC Xa;refine enter (args:=[aQ #[ap br rows.length cr,ap bt tags.length ct]]) (n:=57) Tryz.func71 I I I ?_;refine b9 (bz (bQ I I I λg=>?_))
 repeat(first|refine GA ?_|refine gV (aC aK.ty I (aH (i:=0) I I)) ?_)
 unfold Ag
 by_cases c1:200<rows.length
 ·rw[if_pos c1]
  try refine GA ?_
  exact eE
 ·rw[if_neg c1]
  by_cases c2:rows.length=0
  ·rw[if_pos (.inl c2)]
   repeat(first|refine GA ?_|refine gV (aC aK.ty I (aH (i:=0) I I)) ?_)
   exact eE
  by_cases c3:tags.length=rows.length
  ·rw[if_neg J]
   repeat(first|refine GA ?_|refine gV (aC aK.ty I (aH (i:=0) I I)) ?_)
   refine nO (ι:=Nat) (λi=>i<=rows.length/\∀j,j<i->mX rows.length (tags.getD j 0) (rows.getD j [])=aE) (λi=>[(1,aJ (aj ⟨g,0,ak⟩)),(3,av az rows.length),(21,av az rows.length),(22,av az (i:Int))]) (λ_=>[aP g #[ap br rows.length cr,ap bt tags.length ct] 120]) (λi=>rows.length-i) 0 ⟨by omega,λj hj=>by omega⟩ ⟨rfl,rfl,rfl,rfl,trivial⟩ I ?_;rintro i ⟨h1,h2⟩
   by_cases c4:i<rows.length
   ·obtain⟨b,off,rfl,hb⟩:=Dr J
    obtain⟨b',Ah,rfl,Nj⟩:=Kc J;have c4':i<tags.length:=by omega
    have dz:=V5 (L:=[aP g #[ap (aj ⟨b,off,ak⟩) rows.length cr,ap (aj ⟨b',Ah,ak⟩) tags.length ct] 120]) Nj c4';obtain⟨cs,hcs,gC⟩:=hb i c4;obtain⟨q1,q2,q3⟩:=hcs;have hti:=htr i c4';have hta:=Ol c4';have hra:=adN c4;have nC:∀(P:Prop),mX rows.length (tags.getD i 0) (rows.getD i [])=aD->(if(dV rows.length).any (λi=>mX rows.length (tags.getD i 0) (rows.getD i []))=aD then(1:Int)else 0)=1:=λ_ h=>if_pos (Tf c4 h);rw[hta,hra]at nC
    by_cases c5:tags[i]< -1
    ·rw[nC True (by simp[mX,c5])]
     repeat(first|refine GA ?_|refine gV (aC aK.ty I (aH (i:=0) I I)) ?_|refine gV (bY bL.eq aK.ty I I c4') ?_|refine gV (aC aK.ty I dz) ?_)
     exact eE
    by_cases c6:20<=tags[i]
    ·rw[nC True (by simp[mX,c6])]
     repeat(first|refine GA ?_|refine gV (aC aK.ty I (aH (i:=0) I I)) ?_|refine gV (bY bL.eq aK.ty I I c4') ?_|refine gV (aC aK.ty I dz) ?_)
     exact eE
    repeat(first|refine GA ?_|refine gV (aC aK.ty I (aH (i:=0) I I)) ?_|refine gV (bY bL.eq aK.ty I I c4') ?_|refine gV (aC aK.ty I dz) ?_|refine gV (aX bL.eq aK.ty I I c4) ?_|refine gV (a8 aK.ty I (by rw[q2,dI,q1]) (λj v hj=>iD gC hj)) ?_)
    refine nO (ι:=Nat) (λb=>b<=256/\∀q,q<b-> -1<=rows[i].getD q 0/\rows[i].getD q 0<rows.length) (λb=>[(1,aJ (aj ⟨g,0,ak⟩)),(3,av az rows.length),(21,av az rows.length),(22,av az (i:Int)),(43,aQ cs.toArray),(44,av az (b:Int))]) (λ_=>[aP g #[ap (aj ⟨b,off,ak⟩) rows.length cr,ap (aj ⟨b',Ah,ak⟩) tags.length ct] 120]) (λb=>256-b) 0 ⟨by omega,λq hq=>by omega⟩ ⟨rfl,rfl,rfl,rfl,rfl,rfl,trivial⟩ I ?_;rintro q ⟨k1,k2⟩
    by_cases c7:q<256
    ·have hql:q<rows[i].length:=by omega
     have hqv:=Ol hql;have hcell:cs.toArray[q]?=aj (.int .i16 rows[i][q]):=by rw[q2];simp[hql]
     have hq3:=q3 _ (cD hql);have afk:rows[i][q]∈rows[i]:=cD hql;generalize rows[i][q]=z at*
     by_cases c8:z< -1
     ·rw[nC True (by simp only[mX,lK,qt];exact .inr ⟨z,afk,by simp[c8]⟩)]
      clear k2 h2 Dr Kc
      repeat(first|refine GA ?_|refine gV (jj bL.eq aK.ty I I c7 hcell) ?_|refine gV (iL bL.eq bL.eq I (nk J J)) ?_)
      exact eE
     by_cases c9:(rows.length:Int)<=z
     ·rw[nC True (by simp only[mX,lK,qt];exact .inr ⟨z,afk,by simp[c9]⟩)]
      clear k2 h2 Dr Kc
      repeat(first|refine GA ?_|refine gV (jj bL.eq aK.ty I I c7 hcell) ?_|refine gV (iL bL.eq bL.eq I (nk J J)) ?_)
      exact eE
     repeat(first|refine GA ?_|refine gV (jj bL.eq aK.ty I I c7 hcell) ?_|refine gV (iL bL.eq bL.eq I (nk J J)) ?_)
     exact jy (q+1) ⟨by omega,λq' CT=>if e:q'<q then k2 q' e else(by obtain rfl:q'=q:=J;rw[hqv];omega)⟩ (by show 256-(q+1)<256-q;omega) ⟨rfl,rfl,rfl,rfl,rfl,rfl,trivial⟩ I
    have yD:mX rows.length (tags.getD i 0) (rows.getD i [])=false:=by
     rw[hta,hra];simp only[mX,Dd,decide_eq_false_iff_not,List.any_eq_false,Bool.not_eq_true];refine⟨⟨c5,c6⟩,λz hz=>?_⟩;obtain⟨q',CT,rfl⟩:=g_.1 hz;have:=k2 q' J;rw[Ol CT]at this;simp;omega
    try refine GA ?_
    exact jy (i+1) ⟨by omega,λj hj=>if e:j<i then h2 j e else(by obtain rfl:j=i:=J;exact yD)⟩ (by show rows.length-(i+1)<rows.length-i;omega) ⟨rfl,rfl,rfl,rfl,trivial⟩ I
   have hno:¬(dV rows.length).any (λi=>mX rows.length (tags.getD i 0) (rows.getD i []))=true:=by
    simp only[qt,mQ,not_exists,not_and];intro j hj;rw[h2 j J];simp
   rw[if_neg hno]
   try refine GA ?_
   exact eE
  rw[if_pos (.inr c3)]
  repeat(first|refine GA ?_|refine gV (aC aK.ty I (aH (i:=0) I I)) ?_)
  exact eE
end bZ
namespace cT
structure tY where
 n:Nat
 d:Nat->Nat->Int
 tag:Nat->Int
structure tY.Ok(A:tY):Prop where
 pos:0<A.n
 le:A.n<=200
 step:∀i,i<A.n->∀b,b<256-> -1<=A.d i b/\A.d i b<A.n
 tags:∀i,i<A.n-> -1<=A.tag i/\A.tag i<20
abbrev Row:=Vector Int 256
abbrev Kind:=Int×Row
section
variable(A:tY)
def val(now:Nat->Nat)(q:Int):Nat:=if q<0 then 0 else now q.toNat
def kind(now:Nat->Nat)(i:Nat):Kind:=((now i:Int),Vector.ofFn λb:Fin 256=>(val now (A.d i b):Int))
def dead:Kind:=(0,eb 256 0)
def kinds(now:Nat->Nat):List Kind:=(dV A.n).map (kind A now)
def oQ(now:Nat->Nat):List Kind:=dH [dead] (kinds A now)
def next(now:Nat->Nat)(i:Nat):Nat:=idx (oQ A now) (kind A now i)
def Gy:Nat->Nat->(Nat->Nat)->Nat->Nat
 |0,_,now=>now
 |f+1,n,now=>if(oQ A now).length=n then next A now else Gy f (oQ A now).length (next A now)
def yE(i:Nat):Nat:=(A.tag i+1).toNat
def dN:Nat->Nat:=Gy A (A.n+2) 0 (yE A)
def tg(q:Int):Int:=if q<0 then-1 else A.tag q.toNat
def dt(q:Int)(b:Nat):Int:=if q<0 then-1 else A.d q.toNat b
def go:Int->List UInt8->Int
 |q,[]=>q
 |q,b::s=>go (dt A q b.toNat) s
def St(q:Int):Prop:= -1<=q/\q<A.n
def same(q r:Int):Prop:=∀s,tg A (go A q s)=tg A (go A r s)
def kd(now:Nat->Nat)(q:Int):Kind:=if q<0 then dead else kind A now q.toNat
end
section
variable{A:tY}
theorem Gz(hA:A.Ok){q:Int}(hq:St A q){b:Nat}(hb:b<256):St A (dt A q b):=by
 unfold St dt at*;have:=hA.pos;split;omega;exact hA.step q.toNat J b hb
theorem Tg{q r:Int}(h:same A q r)(b:Nat)(hb:b<256):same A (dt A q b) (dt A r b):=λs=>by
 have:=h (fx b::s);have e:(fx b).toNat=b:=by simp;omega
 simp only[go,e]at this;exact this
theorem Is(now:Nat->Nat)(q:Int):(kd A now q).1=(val now q:Int):=by
 unfold kd val dead kind;split<;>rfl
theorem It(now:Nat->Nat)(q:Int)(b:Nat)(hb:b<256):(kd A now q).2[b]=(val now (dt A q b):Int):=by
 unfold kd dt dead kind;split;simp[val];simp
theorem Xb{now:Nat->Nat}{q r:Int}:kd A now q=kd A now r↔val now q=val now r/\∀b,b<256->val now (dt A q b)=val now (dt A r b):=by
 constructor
 ·intro h
  refine⟨?_,λb hb=>?_⟩
  ·have e:(kd A now q).1=(kd A now r).1:=by rw[h]
   rw[Is,Is]at e;exact WI e
  have e:(kd A now q).2[b]=(kd A now r).2[b]:=by rw[h]
  rw[It _ _ _ hb,It _ _ _ hb]at e;exact WI e
 rintro⟨h1,h2⟩;refine Prod.ext ?_ (Vector.ext λb hb=>?_);rw[Is,Is,h1];rw[It _ _ _ hb,It _ _ _ hb,h2 b hb]
theorem KU(now:Nat->Nat):dead∈oQ A now:=kF.2 (.inl (by simp))
theorem Xc{now:Nat->Nat}{i:Nat}(h:i<A.n):kind A now i∈oQ A now:=kF.2 (.inr (fa.2 ⟨i,mQ.2 h,rfl⟩))
theorem Xd{now:Nat->Nat}{q:Int}(h:q<A.n):kd A now q∈oQ A now:=by
 unfold kd;split;exact KU now;exact Xc J
theorem Th(now:Nat->Nat):(oQ A now).Nodup:=sa _ _ (by simp)
theorem Ai(now:Nat->Nat):(oQ A now).length<=A.n+1:=by
 have h:∀(l D:List Kind),(dH D l).length<=D.length+l.length:=by
  intro l
  induction l with
  |nil=>intro D;simp[dH]
  |cons k l ih=>
   intro D;have:=ih (more D k);have h2:(more D k).length<=D.length+1:=by unfold more;split<;>simp
   show(dH (more D k) l).length<=_
   simp;omega
 have:=h (kinds A now) [dead];unfold oQ;simp[kinds]at this⊢;omega
theorem Q3(now:Nat->Nat):0<(oQ A now).length:=Il (KU now)
theorem tZ(now:Nat->Nat){q:Int}:val (next A now) q=idx (oQ A now) (kd A now q):=by
 unfold val kd;split
 ·obtain⟨E,h⟩:=r_ (kinds A now) [dead]
  rw[oQ,h];exact(WY dead E).symm
 rfl
theorem pW{now:Nat->Nat}{q:Int}(h:q<A.n):val (next A now) q<(oQ A now).length:=by
 rw[tZ];exact oO (Xd h)
theorem Iu{now:Nat->Nat}{q r:Int}(hq:q<A.n):val (next A now) q=val (next A now) r↔kd A now q=kd A now r:=by
 rw[tZ,tZ];exact⟨λh=>aaA (Xd hq) h,λh=>by rw[h]⟩
theorem Ds{now:Nat->Nat}{q r:Int}(hq:q<A.n)(h:val (next A now) q=val (next A now) r):val now q=val now r:=(Xb.1 ((Iu hq).1 h)).1
theorem Xe{now:Nat->Nat}{v:Nat}(h:v<(oQ A now).length):∃q:Int,St A q/\val (next A now) q=v:=by
 have hm:(oQ A now)[v]∈oQ A now:=cD h;have hi:idx (oQ A now) (oQ A now)[v]=v:=Dk (Th now) h;rcases kF.1 hm with hd|hk
 ·refine⟨-1,⟨by omega,by omega⟩,?_⟩
  rw[tZ,show kd A now (-1)=dead from I,<-dQ.1 hd];exact hi
 obtain⟨i,h1,h2⟩:=fa.1 hk;rw[mQ]at h1;refine⟨i,⟨by omega,by omega⟩,?_⟩;have e:kd A now (i:Int)=kind A now i:=by unfold kd;rw[if_neg J,dB]
 rw[tZ,e,h2];exact hi
def Q4(A:tY)(n:Nat)(now:Nat->Nat):Prop:=∃was,now=next A was/\n=(oQ A was).length
def KV(A:tY)(x:Nat):Int:=if x<A.n then(x:Int)else-1
theorem Xf{q:Int}(h:St A q):∃x,x<A.n+1/\KV A x=q:=by
 unfold St at h
 by_cases c:q<0
 exact⟨A.n,by omega,by unfold KV;rw[if_neg J];omega⟩;exact⟨q.toNat,by omega,by unfold KV;rw[if_pos J];omega⟩
theorem Iv(x:Nat):KV A x<A.n:=by unfold KV;split<;>omega
theorem xy{n:Nat}{now:Nat->Nat}(h:Q4 A n now):n<=(oQ A now).length/\((oQ A now).length=n->∀q r,St A q->St A r->val now q=val now r->val (next A now) q=val (next A now) r):=by
 obtain⟨was,rfl,rfl⟩:=h;have h:=Oe (N:=A.n+1) (f:=λx=>val (next A was) (KV A x)) (g:=λx=>val (next A (next A was)) (KV A x)) (n:=(oQ A was).length) (c:=(oQ A (next A was)).length)
  (λv hv=>by
   obtain⟨q,hq,e⟩:=Xe hv;obtain⟨x,hx,e2⟩:=Xf hq;exact⟨x,hx,by show val (next A was) (KV A x)=v;rw[e2];exact e⟩)
  (λx _=>pW (Iv x)) (λx y _ _ e=>Ds (Iv x) e)
 refine⟨h.1,λhc q r hq hr e=>?_⟩;obtain⟨x,hx,rfl⟩:=Xf hq;obtain⟨y,hy,rfl⟩:=Xf hr;exact h.2 hc (λx _=>pW (Iv x)) x y hx hy e
structure Way(A:tY)(now:Nat->Nat):Prop where
 tags:∀q r,St A q->St A r->val now q=val now r->tg A q=tg A r
 coarse:∀q r,St A q->St A r->same A q r->val now q=val now r
theorem agZ(hA:A.Ok):Way A (yE A) where
 tags q r hq hr h:=by
  unfold St at hq hr;unfold val yE at h;unfold tg;have h1:=λc=>hA.tags q.toNat (c:q.toNat<A.n);have h2:=λc=>hA.tags r.toNat (c:r.toNat<A.n)
  by_cases c1:q<0<;>by_cases c2:r<0<;>simp only[c1,c2,if_true,if_false]at h⊢
  have:=h2 J;omega;have:=h1 J;omega;have:=h1 J;have:=h2 J;omega
 coarse q r hq hr h:=by
  have:=h [];simp only[go]at this;unfold tg at this;unfold val yE
  by_cases c1:q<0<;>by_cases c2:r<0<;>simp only[c1,c2,if_true,if_false]at this⊢ <;>omega
theorem Dt(hA:A.Ok){now:Nat->Nat}(h:Way A now):Way A (next A now) where
 tags q r hq hr e:=h.tags q r hq hr (Ds hq.2 e)
 coarse q r hq hr e:=(Iu hq.2).2 (Xb.2 ⟨h.coarse q r hq hr e,λb hb=>h.coarse _ _ (Gz hA hq hb) (Gz hA hr hb) (Tg e b hb)⟩)
structure Du(A:tY)(bl:Nat->Nat):Prop where
 le:∀i,i<A.n->bl i<=A.n
 tags:∀q r,St A q->St A r->val bl q=val bl r->tg A q=tg A r
 step:∀q r,St A q->St A r->val bl q=val bl r->∀b,b<256->val bl (dt A q b)=val bl (dt A r b)
 coarse:∀q r,St A q->St A r->same A q r->val bl q=val bl r
theorem Om(hA:A.Ok){n:Nat}{now:Nat->Nat}(hr:Q4 A n now)(hw:Way A now)(hc:(oQ A now).length=n):Du A (next A now) where
 le i hi:=by
  have:=pW (A:=A) (now:=now) (q:=(i:Int)) J;have h2:=Ai (A:=A) now;unfold val at this;rw[if_neg J,dB]at this;omega
 tags:=(Dt hA hw).tags
 coarse:=(Dt hA hw).coarse
 step q r hq H4 e b hb:=(xy hr).2 hc _ _ (Gz hA hq hb) (Gz hA H4 hb) ((Xb.1 ((Iu hq.2).1 e)).2 b hb)
theorem Xg(hA:A.Ok):∀(f n:Nat) (now:Nat->Nat),(n=0\/Q4 A n now)->n<=A.n+1->A.n+2<=f+n->Way A now->Du A (Gy A f n now)
 |0,n,now,_,h1,h2,_=>by omega
 | f +1,n,now,hr,h1,h2,hw=>by
  unfold Gy;have hp:=Q3 (A:=A) now;split
  ·rename_i hc
   rcases hr with rfl|hr
   omega;exact Om hA hr hw hc
  rename_i hc
  refine Xg hA f _ _ (.inr ⟨now,rfl,rfl⟩) (Ai now) ?_ (Dt hA hw);rcases hr with rfl|hr
  omega;have:=(xy hr).1;omega
theorem Ti(hA:A.Ok):Du A (dN A):=Xg hA _ _ _ (.inl I) (bH _) J (agZ hA)
theorem Du.same(hA:A.Ok){bl:Nat->Nat}(h:Du A bl){q r:Int}(hq:St A q)(hr:St A r):val bl q=val bl r↔same A q r:=by
 refine⟨λe s=>?_,h.coarse q r hq hr⟩
 induction s generalizing q r with
 |nil=>exact h.tags q r hq hr e
 |cons b s ih=>exact ih (Gz hA hq b.toNat_lt) (Gz hA hr b.toNat_lt) (h.step q r hq hr e _ b.toNat_lt)
end
end cT
namespace bZ
open Go.RowKit cU dM cT
def ki{κ:Type}[DecidableEq κ](D:List κ)(x:κ):Option Value:=if x∈D then aj (av az (idx D x:Int))else ak
theorem GF{κ:Type}[DecidableEq κ]{D:List κ}{x:κ}(hn:x∉D):(λy=>if y=x then aj (av az (D.length:Int))else ki D y)=ki (D++[x]):=by
 funext y
 unfold ki
 by_cases c:y=x
 ·subst c
  rw[if_pos I,if_pos (by simp)];have:=qU (D:=D) (k:=y);unfold more at this;rw[if_neg hn,if_neg hn]at this;rw[this]
 rw[if_neg c]
 by_cases c2:y∈D
 rw[if_pos c2,if_pos (xu _ c2),pU c2];rw[if_neg c2,if_neg (by simp[c,c2])]
section
variable{P:Program}{k:TypeId}{κ:Type}{K:yx P k κ}
variable{W:bR}{fr:Fr}{L:List b_}{Q:Exit->Act->World->Prop}{ops:Array Oper}{rest:List Oper}{n d:Nat}{dst:Option Tmp}{ty:TypeId}{pos:String}{after:Array Edge}{guard:Option (Nat×Bool)}{i g c:Nat}{t e:TypeId}{D:List κ}{x:κ}{z:Value}{xm xk xv:Operand}[DecidableEq κ]
theorem t_(ht:P.underlying t=aj (.map k e))(hz:∀w,(zeroValue e).run P w= .ok z w)(hi:L[i]?=aj (eZ K g (ki D) c))(hm:ev fr xm=aj (.map (aj g)))(hk:ev fr xk=aj (K.kv x))(hx:K.ok x)(hn:x∈D):RR P n W ⟨dst,.lookup t xm xk aD,ty,pos,after,guard⟩ fr L (.tuple #[av az (idx D x:Int),.bool aD]):=by
 have:=oq (n:=n) (W:=W) (dst:=dst) (ty:=ty) (pos:=pos) (after:=after) (guard:=guard) K ht hz hi hm hk hx;rw[show ki D x=aj (av az (idx D x:Int))from if_pos hn]at this;exact this
theorem t'(ht:P.underlying t=aj (.map k e))(hz:∀w,(zeroValue e).run P w= .ok z w)(hi:L[i]?=aj (eZ K g (ki D) c))(hm:ev fr xm=aj (.map (aj g)))(hk:ev fr xk=aj (K.kv x))(hx:K.ok x)(hn:x∉D):RR P n W ⟨dst,.lookup t xm xk aD,ty,pos,after,guard⟩ fr L (.tuple #[z,.bool aE]):=by
 have:=oq (n:=n) (W:=W) (dst:=dst) (ty:=ty) (pos:=pos) (after:=after) (guard:=guard) K ht hz hi hm hk hx;rw[show ki D x=ak from if_neg hn]at this;exact this
theorem Aj(hn:dj d n=aD)(h:∀g,TL P n W ops Q rest ((d,.map (aj g))::fr) (L++[eZ K g (ki []) 0])):
 TL P n W ops Q (⟨aj d,.makeMap t ak,ty,pos,after,ak⟩::rest) fr L:=by
 refine xl K hn λg=>?_;have e:(λ(_:κ)=>(none:Option Value))=ki []:=by funext y;unfold ki;rw[if_neg (by simp)]
 rw[e];exact h g
theorem Ak(ht:P.underlying t=aj (.map k e))(hi:L[i]?=aj (eZ K g (ki D) D.length))(hm:ev fr xm=aj (.map (aj g)))(hk:ev fr xk=aj (K.kv x))(hv:ev fr xv=aj (av az (D.length:Int)))(hx:K.ok x)(hn:x∉D)(hc:D.length<=1152921504606846976)
 (h:TL P n W ops Q rest fr (L.set i (eZ K g (ki (D++[x])) (D++[x]).length))):
 TL P n W ops Q (⟨ak,.mapUpdate t xm xk xv,ty,pos,after,ak⟩::rest) fr L:=by
 refine lX K ht hi hm hk hv hx hc ?_;rw[GF hn];rw[show ki D x=ak from if_neg hn];rw[show(D++[x]).length=D.length+1 by simp]at h;exact h
end
end bZ
namespace bZ
open Go.RowKit cU dM
def jd(D:Nat->Prop)(f:Nat->b_):b_ where
 BH:=ak
 more:=λk=>∃i,D i/\(f i).e9 k
 holds:=λw=>(∀i,D i->(f i).holds w)/\∀i j,D i->D j->i≠j->∀k,(f i).e9 k->¬(f j).e9 k
 lt:=λw h k hk=>by
  rcases hk with hk|⟨i,hi,hk⟩
  cases hk
  exact(f i).lt w (h.1 i hi) k hk
 stay:=λw w' h hs hb=>⟨λi hi=>(f i).stay w w' (h.1 i hi) hs λk hk=>hb k (.inr ⟨i,hi,hk⟩),h.2⟩
theorem Al{D D':Nat->Prop}{f f':Nat->b_}(h1:∀k,D' k->D k)(h2:∀k,D' k->f' k=f k)(w:World)(h:(jd D f).holds w):(jd D' f').holds w:=
 ⟨λi hi=>by rw[h2 i hi];exact h.1 i (h1 i hi),λi j hi hj sM=>by rw[h2 i hi,h2 j hj];exact h.2 i j (h1 i hi) (h1 j hj) sM⟩
theorem Dv{D D':Nat->Prop}{f f':Nat->b_}(h1:∀k,D' k->D k)(h2:∀k,D' k->f' k=f k)(k:Nat)(h:(jd D' f').e9 k):(jd D f).e9 k:=by
 rcases h with h|⟨i,hi,hk⟩
 cases h
 exact .inr ⟨i,h1 i hi,by simp_all⟩
def Tj(f:Nat->b_)(i:Nat)(o:b_):Nat->b_:=λk=>if k=i then o else f k
theorem Am{f:Nat->b_}{i j:Nat}{o:b_}(h:j≠i):Tj f i o j=f j:=by simp_all[Tj]
theorem An{f:Nat->b_}{i:Nat}{o:b_}:Tj f i o i=o:=by simp[Tj]
theorem aaD{D:Nat->Prop}{f:Nat->b_}{i:Nat}{o:b_}{w:World}(hi:¬D i)(h:(jd D f).holds w)(ho:o.holds w)(ha:∀k,(jd D f).e9 k->¬o.e9 k):(jd (λk=>D k\/k=i) (Tj f i o)).holds w:=by
 have hf:∀j,D j->Tj f i o j=f j:=λj hj=>Am λe=>hi (by simp_all);have hg:Tj f i o i=o:=An;refine⟨λj hj=>?_,λj k hj hk hjk q hq CT=>?_⟩
 ·rcases hj with hj|rfl
  rw[hf j hj];exact h.1 j hj;rw[hg];exact ho
 rcases hj with hj|rfl<;>rcases hk with hk|rfl
 rw[hf j hj]at hq;rw[hf k hk]at CT;exact h.2 j k hj hk hjk q hq CT;rw[hf j hj]at hq;rw[hg]at CT;exact ha q (.inr ⟨j,hj,hq⟩) CT;rw[hg]at hq;rw[hf k hk]at CT;exact ha q (.inr ⟨k,hk,CT⟩) hq;exact hjk I
theorem Xh{D:Nat->Prop}{f:Nat->b_}{i:Nat}{o:b_}(hi:¬D i)(k:Nat)(h:(jd (λk=>D k\/k=i) (Tj f i o)).e9 k):(jd D f).e9 k\/o.e9 k:=by
 rcases h with h|⟨j,hj,hk⟩
 cases h
 rcases hj with hj|rfl
 exact .inl (.inr ⟨j,hj,by grind[Am]⟩);exact .inr (by rw[An]at hk;exact hk)
section
variable{P:Program}{n:Nat}{W:bR}{fr:Fr}{L:List b_}{Q:Exit->Act->World->Prop}{ops:Array Oper}{rest:List Oper}{d:Nat}
theorem Mem.split{w:World}{q:Nat}{o:b_}(o1 o2:b_)(h:Mem W L w)(hq:L[q]?=aj o)(h1:∀w,o.holds w->o1.holds w)(h2:∀w,o.holds w->o2.holds w)(f1:∀k,o1.e9 k->o.e9 k)(f2:∀k,o2.e9 k->o.e9 k)(ha:∀w,o.holds w->∀k,o1.e9 k->¬o2.e9 k):Mem W (L.set q o1++[o2]) w:=by
 have hr:=h.QX o1 hq h1 f1;have hoq:=h.owns.all q o hq;have hlen:q<L.length:=(dl.1 hq).1;refine⟨h.low,eA.both hr.owns (eA.one (h2 w hoq.1) λk hk=>hoq.2 k (f2 k hk)) λi j a b hi hj k hk mT=>?_⟩
 match j,hj with
 |0,hj=>
  simp only[List.getElem?_cons_zero,dr]at hj;subst hj
  by_cases e:q=i
  grind
  rw[List.getElem?_set_ne e]at hi;exact h.owns.apart i q a o (Ne.symm e) hi hq k hk (f2 k mT)
 |j+1,hj=>grind
theorem Mem.aaE{w:World}(o:b_)(i j:Nat)(js:List Nat){o1 o2:b_}{R:List b_}(h:Mem W L w)(hn:([i,j]++js).Nodup)(h1:L[i]?=aj o1)(h2:L[j]?=aj o2)(hR:R=js.filterMap λi=>L[i]?)(hf:∀k,o.e9 k->o1.e9 k\/o2.e9 k)(hh:∀w,o1.holds w->o2.holds w->(∀k,o1.e9 k->¬o2.e9 k)->o.holds w):Mem W (R++[o]) w:=by
 have sM:i≠j:=λe=>by simp_all
 have ha:=h.owns.apart i j o1 o2 sM h1 h2;refine Mem.merge o (h.pick ([i,j]++js) hn ?_) hf (λa b=>hh w a b ha);rw[Oa,<-hR]
 congr 1
 rw[zS (by exact h1),zS (by exact h2)];rfl
theorem Mem.take{w:World}{q:Nat}{D:Nat->Prop}{f:Nat->b_}(i:Nat)(h:Mem W L w)(hq:L[q]?=aj (jd D f))(hi:D i):Mem W (L.set q (jd (λk=>D k/\k≠i) f)++[f i]) w:=
 h.split _ _ hq (λw h=>Al (λk h=>h.1) (λ_ _=>rfl) w h) (λw h=>h.1 i hi) (λk h=>Dv (λk h=>h.1) (λ_ _=>rfl) k h) (λk h=> .inr ⟨i,hi,h⟩) λw h k hk mT=>by
  rcases hk with hk|⟨j,⟨hj,hne⟩,hk⟩
  cases hk
  exact h.2 j i hj hi hne k hk mT
theorem On{c:Code}{q:Nat}{D:Nat->Prop}{f:Nat->b_}(i:Nat)(hq:L[q]?=aj (jd D f))(hi:D i)(h:T P n W c Q fr (L.set q (jd (λk=>D k/\k≠i) f)++[f i])):T P n W c Q fr L:=⟨λa w hr hm=>h.go a w hr (hm.take i hq hi)⟩
theorem Q5{q:Nat}{D:Nat->Prop}{f:Nat->b_}(i:Nat)(hq:L[q]?=aj (jd D f))(hi:D i)(h:TL P n W ops Q rest fr (L.set q (jd (λk=>D k/\k≠i) f)++[f i])):TL P n W ops Q rest fr L:=⟨λa w hr hm=>h.go a w hr (hm.take i hq hi)⟩
theorem Mem.put{w:World}{D D':Nat->Prop}{f f':Nat->b_}{o:b_}{R:List b_}(x q j:Nat)(js:List Nat)(h:Mem W L w)(hn:([q,j]++js).Nodup)(hq:L[q]?=aj (jd D f))(hj:L[j]?=aj o)(hR:R=js.filterMap λi=>L[i]?)(hx:¬D x)(hD:∀k,D' k->D k\/k=x)(hf:∀k,D' k->f' k=Tj f x o k):Mem W (R++[jd D' f']) w:=
 h.aaE _ q j js hn hq hj hR (λk hk=>Xh hx k (Dv hD hf k hk)) λw h1 h2 h3=>Al hD hf w (aaD hx h1 h2 h3)
theorem Xi{D D':Nat->Prop}{f f':Nat->b_}{o:b_}{R:List b_}(x q j:Nat)(js:List Nat)(hn:([q,j]++js).Nodup)(hq:L[q]?=aj (jd D f))(hj:L[j]?=aj o)(hR:R=js.filterMap λi=>L[i]?)(hx:¬D x)(hD:∀k,D' k->D k\/k=x)(hf:∀k,D' k->f' k=Tj f x o k)(h:TL P n W ops Q rest fr (R++[jd D' f'])):TL P n W ops Q rest fr L:=⟨λa w hr hm=>h.go a w hr (hm.put x q j js hn hq hj hR hx hD hf)⟩
theorem Q6{e:Exit}{D D':Nat->Prop}{f f':Nat->b_}{o:b_}{R:List b_}(x q j:Nat)(js:List Nat)(hn:([q,j]++js).Nodup)(hq:L[q]?=aj (jd D f))(hj:L[j]?=aj o)(hR:R=js.filterMap λi=>L[i]?)(hx:¬D x)(hD:∀k,D' k->D k\/k=x)(hf:∀k,D' k->f' k=Tj f x o k)(h:E n W e Q fr (R++[jd D' f'])):E n W e Q fr L:=⟨λa w hr hm=>h.go a w hr (hm.put x q j js hn hq hj hR hx hD hf)⟩
theorem aaF{q:Nat}{o:b_}{p:Addr}{v:Value}(hq:L[q]?=aj o)(h:∀w,o.holds w->w.cell? p=aj v):At W L p v:=λw hm=>h w (hm.get hq)
theorem yF{g off size cap m k:Nat}{e:TypeId}{xs:List Value}{v:Value}{w:World}(h:(a_ e size (ap (aj ⟨g,0,ak⟩) m cap) k xs).holds w)(hv:xs[off]?=aj v):w.cell? ⟨g,off,ak⟩=aj v:=by
 have h:w.ownsRow 0 e size (ap (aj ⟨g,0,ak⟩) m cap) k xs:=h;have:=h.cells (g:=g) I off v hv
 simp_all[eB]
def lP{α:Type}(len:Nat)(f:Nat->α):List α:=(dV len).map f
section
variable{α:Type}
theorem ir(len:Nat)(f:Nat->α):(lP len f).length=len:=by simp[lP]
theorem ub{len:Nat}(f:Nat->α){k:Nat}(h:k<len):(lP len f)[k]?=aj (f k):=by simp[lP,h]
theorem Xj{len:Nat}(f g:Nat->α)(k:Nat)(v:α)(h:∀i,i<len->g i=if i=k then v else f i):(lP len f).set k v=lP len g:=by
 apply mR;intro i;rw[WQ]
 by_cases hi:i<len
 ·rw[ub g hi,h i hi]
  by_cases e:k=i
  simp_all[ir];rw[if_neg e,if_neg (λe'=>e e'.symm),ub f hi]
 simp_all[ir]
theorem Oo{len:Nat}{f g:Nat->α}(h:∀i,i<len->f i=g i):lP len f=lP len g:=by
 simp_all[lP]
theorem Oq(val:α->Value)(a:α)(len:Nat):(lP len λ_=>a).map val=cZ len (val a):=by
 unfold lP;rw[Ip];apply mR;intro i
 by_cases h:i<len<;>simp[h]
def fg(e:TypeId)(val:α->Value)(g len:Nat)(f:Nat->α):b_:=a_ e 1 (ap (aj ⟨g,0,ak⟩) len len) len ((lP len f).map val)
theorem oR{e:TypeId}{val:α->Value}{g len:Nat}{f f':Nat->α}(h:∀i,i<len->f i=f' i):fg e val g len f=fg e val g len f':=by grind[fg,Oo]
theorem fU{e:TypeId}{val:α->Value}{i g len k:Nat}{f:Nat->α}(hi:L[i]?=aj (fg e val g len f))(hk:k<len):At W L ⟨g,0+k,ak⟩ (val (f k)):=jY hi (by rw[cV,eX,ub f hk];rfl)
theorem Ao{e:TypeId}{val:α->Value}{g len k:Nat}{f:Nat->α}{w:World}(h:(fg e val g len f).holds w)(hk:k<len):w.cell? ⟨g,0+k,ak⟩=aj (val (f k)):=yF h (by rw[cV,eX,ub f hk];rfl)
theorem Xk{e:TypeId}{val:α->Value}{g len k:Nat}{v:α}{f f':Nat->α}(h:∀i,i<len->f' i=if i=k then v else f i):a_ e 1 (ap (aj ⟨g,0,ak⟩) len len) len (((lP len f).map val).set k (val v))=fg e val g len f':=by
 unfold fg;rw[<-oM,Xj f f' k v h]
theorem iJ{e:TypeId}{val:α->Value}{ty:TypeId}{pos:String}{after:Array Edge}{t:TypeId}{p x:Operand}{i g off len:Nat}{v:α}{f:Nat->α}(f':Nat->α)(hT:Ty P t aE 1)(hi:L[i]?=aj (fg e val g len f))(hp:ev fr p=aj (aJ (aj ⟨g,0+off,ak⟩)))(hx:ev fr x=aj (val v))(h1:(val v).cells=#[val v])(h2:(val v).oneCell'=aD)(hk:off<len)(hf:∀i,i<len->f' i=if i=off then v else f i)
 (h:TL P n W ops Q rest fr (L.set i (fg e val g len f'))):TL P n W ops Q (⟨ak,.store t p x,ty,pos,after,ak⟩::rest) fr L:=
 lW hT hi hp hx h1 I h2 (by simp_all[ir]) (by rw[cV,Xk hf];exact h)
theorem oT{t e:TypeId}{x y:Operand}{bytes m:Nat}{k k':IntKind}{ty:TypeId}{pos:String}{after:Array Edge}(val:α->Value)(z:α)[qN P t e 1 bytes][bT P e #[val z]](hx:ev fr x=aj (.int k (m:Int)))(hy:ev fr y=aj (.int k' (m:Int)))(hb:bytes*m<=281474976710656)(qM:m<=9223372036854775807)(hn:dj d n=aD)
 (h:∀g,TL P n W ops Q rest ((d,ap (aj ⟨g,0,ak⟩) m m)::fr) (L++[fg e val g m λ_=>z])):TL P n W ops Q (⟨aj d,.makeSlice t x y,ty,pos,after,ak⟩::rest) fr L:=
 N9 hx hy hb qM hn λg=>by
  simp_all[fg,Oq]
end
end
end bZ
namespace bZ
open Go.RowKit cU dM aT
def ep(x:dv):List Value:=[av az x.1,av az x.2]
def Xl(x:dv):Prop:=cU.dX x.1/\cU.dX x.2
theorem aaG(l:List dv):∀u∈l.flatMap ep,u.oneCell'=true:=by
 intro u hu;obtain⟨f,_,h⟩:=Ad.1 hu;simp only[ep,dx,fl,or_false]at h;rcases h with rfl|rfl<;>rfl
theorem Xm(f f':dv)(w:World):(Op.equalIn 10000 156 (aQ (ep f).toArray) (aQ (ep f').toArray)).run aB w= .ok (decide (f=f')) w:=by
 obtain⟨k,q⟩:=f;obtain⟨k',q'⟩:=f';unfold ep
 go_simp
 by_cases e1:k=k'<;>by_cases e2:q=q'<;>simp[e1,e2]
def aaH:vO dv:=yw ep 2 (λ_=>rfl) Xl
def nY:vO aT.Prod:=Ww fz (bM aaH)
def dE(t n:Int)(vp:Value):Value:=aQ #[av az t,av az n,vp]
def jZ(F:Nat->Prop)(w:World)(v:Value)(g:d_):Prop:=∃vp,v=dE g.aR g.bC vp/\jQ nY F w vp g.aF/\cU.dX g.aR/\cU.dX g.bC
theorem jZ.stay{F:Nat->Prop}{w w':World}{v:Value}{g:d_}(h:jZ F w v g)(hk:∀k,F k->w'.heap[k]?=w.heap[k]?):jZ F w' v g:=
 let ⟨vp,h1,h2,h3⟩:=h;⟨vp,h1,h2.stay hk,h3⟩
theorem jQ.gr{α:Type}{s:vO α}{w w':World}{v:Value}{l:List α}(h:jQ s (λk=>k<w.heap.size) w v l)(hg:Gr w w'):jQ s (λk=>k<w'.heap.size) w' v l:=
 (h.stay λk hk=>hg.block k hk).mono λ_ hk=>jv hk hg.size
theorem jZ.gr{w w':World}{v:Value}{g:d_}(h:jZ (λk=>k<w.heap.size) w v g)(hg:Gr w w'):jZ (λk=>k<w'.heap.size) w' v g:=
 let ⟨vp,h1,h2,h3⟩:=h;⟨vp,h1,h2.gr hg,h3⟩
theorem lx{F:Nat->Prop}{w:World}{b off:Nat}{l:List aT.Prod}(h:∀i (h:i<l.length),∃cs,nY.is F w cs l[i]/\Rd w b (off+i*nY.c) cs){k:Nat}(hk:k<l.length):
 ∃base cap,Rd w b (off+k*2) [av az l[k].1,.slice base l[k].2.length cap]/\cU.dX l[k].1/\jQ aaH F w (.slice base l[k].2.length cap) l[k].2:=by
 obtain⟨cs,⟨c1,c2,rfl,⟨rfl,lf⟩,⟨vb,rfl,zx⟩⟩,hr⟩:=h k hk;have ag0:=zx;obtain⟨base,cap,rfl,_⟩:=ag0;exact⟨base,cap,hr,lf,zx⟩
end bZ
namespace bZ
open Go.RowKit cU dM aT
theorem nD(a:dv):(ep a).length=2:=rfl
theorem wj(v:Value)(l:List dv)(w:World)(hs:Sl w v l.length (l.flatMap ep))(oU:FuncId)(first cp:Array Value)(p:dv->Bool)(Fv:Enters aB oU)
 (hp:∀a∈l,∀w',Gr w w'->Calls aB oU (first++#[(aQ (ep a).toArray)]++cp) w' (cz (ret (.bool (p a))) w')):
 Calls aB 109 #[v,.func (.func oU) first cp] w (cz (ret (av az (qP p l))) w):=by
 obtain⟨base,cap,rfl,lm,j0,eL⟩:=hs;unfold maxLen at j0;refine enter (args:=[ap base l.length cap,.func (.func oU) first cp]) (n:=19) Tryz.func109 I I I ?_
 try refine GA ?_
 refine dY (ι:=Nat) (λk=>k<=l.length/\∀j (hj:j<l.length),j<k->p l[j]=aE) (λk=>[(0,ap base l.length cap),(1,.func (.func oU) first cp),(7,av az l.length),(8,av az (k:Int))]) (λ_=>[]) (λk=>l.length-k) 0 ⟨by omega,λj hj h=>by omega⟩ ?_;rintro k ⟨h1,h2⟩
 by_cases c2:k<l.length
 ·obtain⟨b,off,rfl,hr⟩:=eL J
  have dz:=gG (L:=([]:List b_)) nD hr c2;have iz:=hp l[k] (cD c2)
  by_cases c3:p l[k]=aD
  ·rw[qQ c2 c3 h2]
   rw[c3]at iz;clear hp h2 eL
   repeat(first|refine GA ?_|refine gV (aX bL.eq aK.ty I I c2) ?_|refine gV (a8 aK.ty I I dz) ?_)
   refine aW (BK Fv I I) (λw hm=>iz w hm.below) I I I ?_;intro _ _
   try refine GA ?_
   exact eE
  have Np:p l[k]=false:=by simpa using c3
  rw[Np]at iz;clear hp eL c3
  repeat(first|refine GA ?_|refine gV (aX bL.eq aK.ty I I c2) ?_|refine gV (a8 aK.ty I I dz) ?_)
  refine aW (BK Fv I I) (λw hm=>iz w hm.below) I I I ?_;intro _ _
  try refine GA ?_
  exact bW (k+1) ⟨by omega,λj hj h=>if e:j<k then h2 j hj e else(by obtain rfl:j=k:=J;exact Np)⟩ (by show l.length-(k+1)<l.length-k;omega)
 ·rw[qR λj hj=>h2 j hj J]
  clear hp h2 eL
  try refine GA ?_
  exact eE
theorem sb(v:Value)(l:List dv)(w:World)(hs:Sl w v l.length (l.flatMap ep))(oU:FuncId)(first cp:Array Value)(p:dv->Bool)(Fv:Enters aB oU)
 (hp:∀a∈l,∀w',Gr w w'->Calls aB oU (first++#[(aQ (ep a).toArray)]++cp) w' (cz (ret (.bool (p a))) w')):
 Calls aB 74 #[v,.func (.func oU) first cp] w (cz (ret (.bool (l.any p))) w):=by
 refine enter (args:=[v,.func (.func oU) first cp]) (n:=9) Tryz.func74 I I I ?_;have hh:=λw' (hg:Gr w w')=>wj v l w' (hs.gr hg) oU first cp p Fv λa ha Fg yG=>hp a ha Fg (hg.trans yG);have hr:=oJ p l;rw[<-tN p l];generalize qP p l=r at*
 try refine GA ?_
 refine aW (fI aI.en I I I) (λw hm=>hh _ hm.below) I I I ?_;intro _ _
 repeat(first|refine GC ?_|refine gV (eN I I I) ?_|refine GB ?_)
 exact eE
end bZ
namespace bZ
open Go.RowKit cU dM aT
theorem KW(t n:Int)(vp:Value)(x:dv)(w:World):Calls aB 76 #[dE t n vp,aQ (ep x).toArray] w (cz (ret (.bool (right t n x))) w):=by
 obtain⟨k,q⟩:=x;refine enter (args:=[dE t n vp,aQ (ep (k,q)).toArray]) (n:=31) Tryz.func76 I I I ?_;refine b9 (bz (bQ I I I λg0=>bQ I I I λg1=>?_))
 repeat' (first
  |refine QV QP ?_
  |refine QZ ?_
  |refine qcT I ?_
  |refine qcF I ?_
  |refine qs I I I I I I ?_
  |(((try refine qg I I I ?_);first|refine QV QP ?_|refine QV (aC aK.ty I (aH (i:=0) I I)) ?_|refine QV (aC aK.ty I (aH (i:=1) I I)) ?_|refine QV QA ?_|refine QV QhT ?_|refine QV QhF ?_|refine QV QeT ?_|refine QV QeF ?_|refine QV QlT ?_|refine QV QlF ?_))
  |refine oE (dO I I I) I I I I I (λh=>?_) (λh=>?_)
  |refine tE (eN I I I) I I I (λh=>?_) (λh=>?_)
  |refine tE (de I I I) I I I (λh=>?_) (λh=>?_)
  |((fail_if_success (refine H6 I ?_));(fail_if_success (refine H7 I ?_));refine QF I (λh=>?_) (λh=>?_))
  |((fail_if_success (refine NU I I I ?_));(fail_if_success (refine NV I I I ?_));refine zX I I I (λh=>?_) (λh=>?_)))
 all_goals (refine dC I I ?_;congr 1;unfold right;dsimp only at*;repeat (first|rw[if_pos J]|rw[if_neg J]|rw[decide_eq_true (by assumption)]|rw[decide_eq_false (by assumption)]);try rfl)
theorem Iw(t n:Int)(vp:Value)(x:dv)(g:Nat)(w:World)(hg:w.heap[g]?=aj (.cells (dE t n vp).cells 34 (0,0))):
 Calls aB 75 #[aQ (ep x).toArray,aJ (aj ⟨g,0,ak⟩)] w (cz (ret (.bool (!right t n x))) w):=by
 have hcell:∀(L:List b_) (j:Nat) (v:Value),([av az t,av az n,vp]:List Value)[j]?=aj v->At w L ⟨g,0+j,ak⟩ v:=λL j v hj=>jX (by
  rw[cell_of_row w g (0+j) _ _ _ hg,cV];show(#[av az t,av az n,vp]:Array Value)[j]?=aj v
  simpa using hj)
 have hr:=KW t n vp x;refine enter (args:=[aQ (ep x).toArray,aJ (aj ⟨g,0,ak⟩)]) (n:=8) Tryz.func75 I I I ?_;refine b9 (bz (bQ I I I λg0=>?_))
 repeat(first|refine GA ?_|refine gV (a8 aK.ty I I (hcell _)) ?_|refine gV (aO (i:=0) aK.ty I I I) ?_)
 refine aW (fI aI.en I I I) (λw hm=>hr w) I I I ?_;intro _ _
 try refine GA ?_
 exact eE
theorem KX{t n:Int}{l:List aT.Prod}{k:Nat}(h:k<l.length)(h0:yB t n l[k]=0):oP t n (l.drop k)=oP t n (l.drop (k+1)):=by
 rw[eI h,oP,if_neg (by simp[h0])]
theorem KY{t n:Int}{l:List aT.Prod}{k:Nat}(h:k<l.length)(h0:yB t n l[k]≠0):oP t n (l.drop k)=yB t n l[k]:=by
 rw[eI h,oP,if_pos h0]
theorem jD(v:Value)(g:d_)(w:World)(h:jZ (λk=>k<w.heap.size) w v g):
 Calls aB 41 #[v] w (cz (ret (av az (bX g))) w):=by
 obtain⟨vp,rfl,h1,_⟩:=h;obtain⟨bp,cp,rfl,Ix,Fj,nZ⟩:=h1;unfold maxLen at Fj;obtain⟨t,n,aF⟩:=g;dsimp only at*;refine enter (args:=[dE t n (ap bp aF.length cp)]) (n:=57) Tryz.func41 I I I ?_;refine b9 (bz (bQ I I I λg0=>?_));unfold bX;dsimp only
 by_cases c1:t<0
 ·rw[if_pos c1]
  repeat(first|refine GA ?_|refine gV (aC aK.ty I (aH (i:=0) I I)) ?_)
  exact eE
 rw[if_neg c1]
 by_cases c2:30<t
 ·rw[if_pos c2]
  repeat(first|refine GA ?_|refine gV (aC aK.ty I (aH (i:=0) I I)) ?_)
  exact eE
 rw[if_neg c2]
 by_cases c3:n<1
 ·rw[if_pos c3]
  repeat(first|refine GA ?_|refine gV (aC aK.ty I (aH (i:=0) I I)) ?_)
  exact eE
 rw[if_neg c3]
 by_cases c4:20<n
 ·rw[if_pos c4]
  repeat(first|refine GA ?_|refine gV (aC aK.ty I (aH (i:=0) I I)) ?_)
  exact eE
 rw[if_neg c4]
 by_cases c5:40<aF.length
 ·rw[if_pos c5]
  repeat(first|refine GA ?_|refine gV (aC aK.ty I (aH (i:=0) I I)) ?_)
  exact eE
 rw[if_neg c5]
 repeat(first|refine GA ?_|refine gV (aC aK.ty I (aH (i:=0) I I)) ?_)
 refine dY (ι:=Nat) (λk=>k<=aF.length/\oP t n aF=oP t n (aF.drop k)) (λk=>[(1,aJ (aj ⟨g0,0,ak⟩)),(30,ap bp aF.length cp),(31,av az aF.length),(32,av az (k:Int))]) (λ_=>[aP g0 (dE t n (ap bp aF.length cp)).cells 34]) (λk=>aF.length-k) 0 ⟨bH _,rfl⟩ ?_;rintro k ⟨i1,i2⟩;rw[i2];clear i2
 by_cases c6:k<aF.length
 ·obtain⟨b,off,rfl,_,hr⟩:=nZ J
  obtain⟨bb,cb,q1,q2,q3⟩:=lx hr c6;have pV:=KY (t:=t) (n:=n) c6;have Dw:=KX (t:=t) (n:=n) c6;have dz:∀(L:List b_) (j:Nat) (v:Value),([av az aF[k].1,.slice bb aF[k].2.length cb]:List Value)[j]?=aj v->At w L ⟨b,off+k*2+j,ak⟩ v:=λL j v hj=>iD q1 hj;clear hr nZ q1;generalize aF[k]=p at*;obtain⟨hd,body⟩:=p;have Kd:=λw' (hg:Gr w w') (hb:w'.heap[g0]?=aj (.cells (dE t n (ap (aj ⟨b,off,ak⟩) aF.length cp)).cells 34 (0,0)))=>sb (ap bb body.length cb) body w' ((q3.flat aiz).gr hg) 75 #[] #[aJ (aj ⟨g0,0,ak⟩)] (λx=>!right t n x) aI.en (λa _ Fg yG=>Iw t n _ a g0 Fg (by rw[yG.block g0 (jt.1 hb).1];exact hb));dsimp only at*
  repeat(first|refine GA ?_|refine gV (aX bL.eq aK.ty I I c6) ?_|refine gV (a8 aK.ty I I (dz _)) ?_)
  clear dz;refine aY I λg4=>?_;refine gh 1 ?_;refine zL ?_;unfold yB at pV Dw;dsimp only at pV Dw
  by_cases c7:8<body.length
  ·rw[if_pos c7]at pV
   rw[pV aiz]
   repeat(first|refine GA ?_|refine gV (aC aK.ty I (aH (i:=1) I I)) ?_)
   exact eE
  rw[if_neg c7]at pV Dw
  by_cases c8:hd<0
  ·rw[if_pos c8]at pV
   rw[pV aiz]
   repeat(first|refine GA ?_|refine gV (aC aK.ty I (aH (i:=1) I I)) ?_)
   exact eE
  rw[if_neg c8]at pV Dw
  by_cases c9:n<=hd
  ·rw[if_pos c9]at pV
   rw[pV aiz]
   repeat(first|refine GA ?_|refine gV (aC aK.ty I (aH (i:=1) I I)) ?_|refine gV (aC aK.ty I (aH (i:=0) I I)) ?_)
   exact eE
  rw[if_neg c9]at pV Dw
  by_cases c10:body.any (λx=>!right t n x)=aD
  ·rw[if_pos c10]at pV
   rw[pV aiz];rw[c10]at Kd
   repeat(first|refine GA ?_|refine gV (aC aK.ty I (aH (i:=1) I I)) ?_|refine gV (aC aK.ty I (aH (i:=0) I I)) ?_|refine gV (vJ I I) ?_)
   refine mg (fI aI.en I I I) (λw hm=>Kd _ hm.below (hm.get (i:=0) I)) I I I I I ?_;intro _ _
   try refine GA ?_
   exact eE
  have ag1:body.any (λx=>!right t n x)=false:=by simpa using c10
  rw[if_neg c10]at Dw;rw[ag1]at Kd
  repeat(first|refine GA ?_|refine gV (aC aK.ty I (aH (i:=1) I I)) ?_|refine gV (aC aK.ty I (aH (i:=0) I I)) ?_|refine gV (vJ I I) ?_)
  refine mg (fI aI.en I I I) (λw hm=>Kd _ hm.below (hm.get (i:=0) I)) I I I I I ?_;intro _ _
  try refine GA ?_
  refine dh [0] ?_;exact bW (k+1) ⟨by omega,Dw I⟩ (by show aF.length-(k+1)<aF.length-k;omega)
 ·rw[List.drop_of_length_le J]
  try refine GA ?_
  exact eE
end bZ
namespace bZ
open Go.RowKit cU dM aT
theorem Ot(h:Int)(b:Option Addr)(m c:Nat)(w:World):(df 132 #[(0,av az h),(1,ap b m c)]).run aB w= .ok (aQ #[av az h,ap b m c]) w:=by
 go_simp
def nR(F:Nat->Prop)(vp:Value)(l:List aT.Prod):b_:=Fu (bM nY) F [vp] l
theorem A9{w:World}{hd:Int}{vb:Value}{body:List dv}(lf:cU.dX hd)(hp:∀x∈body,Xl x)(h:(a_ 156 2 vb body.length (body.flatMap ep)).holds w):nY.is (λk=>vb.ownBlock=aj k) w [av az hd,vb] (hd,body):=
 ⟨[av az hd],[vb],rfl,⟨rfl,lf⟩,vb,rfl,jQ.of_flat (Sl.dy h) hp (λ_ h=>h) (λa n cp hv=>by rw[hv];rfl)⟩
end bZ
namespace dL
open aT
inductive Tree where
 |mk (prod tok:Int) (kids:List Tree)
def Tree.prod:Tree->Int| .mk p _ _=>p
def Tree.tok:Tree->Int| .mk _ t _=>t
def Tree.kids:Tree->List Tree| .mk _ _ k=>k
def db(l:List aT.Prod)(p:Int):aT.Prod:=l.getD p.toNat (0,[])
mutual
def size:Tree->Nat
 | .mk _ _ kids=>acP kids+1
def acP:List Tree->Nat
 |[]=>0
 |k::r=>size k+acP r
end
mutual
def leaves:Tree->Nat
 | .mk p _ kids=>if p<0 then 1 else yH kids
def yH:List Tree->Nat
 |[]=>0
 |k::r=>leaves k+yH r
end
mutual
def GG(l:List aT.Prod):Tree->dv->Nat->Prop
 | .mk p k kids,x,v=>
  (x.1=1/\p= -1/\k=(v:Int)/\kids=[])\/(x.1≠1/\0<=p/\p<(l.length:Int)/\(db l p).1=x.2/\k=0/\Ap l kids (db l p).2 v)
def Ap(l:List aT.Prod):List Tree->List dv->Nat->Prop
 |[],[],_=>True
 |[],_::_,_=>False
 |_::_,[],_=>False
 |k::r,y::b,v=>GG l k y v/\Ap l r b (v+leaves k)
end
inductive adO where
 |ahead (p:Int)
 |behind (p:Int)
 |leaf (Dx tok:Int)
mutual
def dD(l:List aT.Prod):Tree->List adO
 | .mk p _ kids=> .ahead p::(KZ l kids (db l p).2++[.behind p])
def KZ(l:List aT.Prod):List Tree->List dv->List adO
 |[],_=>[]
 |_::_,[]=>[]
 | .mk p k ks::r,y::b=>(if p<0 then [.leaf y.2 k]else dD l (.mk p k ks))++KZ l r b
end
end dL
namespace dL
open aT
def Ou:adO->Option Int
 | .leaf t _=>aj t
 |_=>ak
def Aq(l:List aT.Prod)(t:Tree):List Int:=(dD l t).filterMap Ou
def xz(l:List aT.Prod)(ks:List Tree)(b:List dv):List Int:=(KZ l ks b).filterMap Ou
theorem Tk(l:List aT.Prod)(p k:Int)(kids:List Tree):Aq l (.mk p k kids)=xz l kids (db l p).2:=by
 unfold Aq xz;rw[dD,List.filterMap_cons_none I,Oa];simp[Ou]
theorem K0(l:List aT.Prod)(p k:Int)(ks r:List Tree)(y:dv)(b:List dv):xz l (.mk p k ks::r) (y::b)=(if p<0 then [y.2]else Aq l (.mk p k ks))++xz l r b:=by
 unfold xz Aq;rw[KZ,Oa]
 congr 1
 split<;>rfl
mutual
theorem GH{l:List aT.Prod}:∀{t:Tree} {x:dv} {u:Nat},GG l t x u->0<=t.prod->(Aq l t).length=leaves t
 | .mk p k kids,x,u,h,hp=>by
  rw[GG]at h;have hp:0<=p:=hp;rw[Tk,leaves,if_neg J];rcases h with⟨_,h,_⟩|⟨_,_,_,_,_,h⟩
  omega;exact Dy h
theorem Dy{l:List aT.Prod}:∀{ks:List Tree} {b:List dv} {u:Nat},Ap l ks b u->(xz l ks b).length=yH ks
 |[],[],_,_=>by rw[yH];simp[xz,KZ]
 | .mk p k kk::r,y::b,u,h=>by
  rw[Ap]at h;rw[K0,bK,Dy h.2,yH]
  congr 1
  split;rw[leaves,if_pos (by assumption)];rfl;exact GH h.1 (by show(0:Int)<=p;omega)
 |[],_::_,_,h=>by simp[Ap]at h
 |_::_,[],_,h=>by simp[Ap]at h
end
end dL
namespace fG
open aT
abbrev Span:=Int×Int×Int
abbrev uc:=Span->Nat
def Dz(c:uc)(w:List Int)(x:dv)(a b:Nat):Nat:=if x.1=2 then c (x.2,(a:Int),(b:Int))else if b=a+1/\w[a]?=aj x.2 then 1 else 0
def eK(f:Nat->Nat):Nat->Nat
 |0=>0
 |k+1=>eK f k+f k
def mI(o:Nat->Nat->Nat)(f:Nat->Nat)(b:Nat):Nat:=min 2 (eK (λj=>f j*o j b) (b+1))
def K1(o:dv->Nat->Nat->Nat)(a:Nat):List dv->(Nat->Nat)->Nat->Nat
 |[],f=>f
 |x::r,f=>K1 o a r (mI (λi j=>o x (a+i) (a+j)) f)
def DA(b:Nat):Nat:=if b=0 then 1 else 0
def K2(o:dv->Nat->Nat->Nat)(l:List dv)(a b:Nat):Nat:=K1 o a l DA (b-a)
def Tl(o:dv->Nat->Nat->Nat)(a b:Nat)(n:Nat):List aT.Prod->Nat
 |[]=>0
 |p::r=>(if p.1=(n:Int)then K2 o p.2 a b else 0)+Tl o a b n r
def Xn(o:dv->Nat->Nat->Nat)(l:List aT.Prod)(a b n:Nat):Nat:=min 2 (Tl o a b n l)
def oQ(len:Nat)(f:Nat->Nat):List Nat:=(dV len).map f
theorem ot(f:Nat->Nat):∀k,(∀j,j<k->f j=0)->eK f k=0
 |0,_=>rfl
 |k+1,h=>by rw[eK,ot f k λj hj=>h j J,h k J]
theorem Xo(o:Nat->Nat->Nat)(f:Nat->Nat)(b:Nat):mI o f b<=2:=WW ..
theorem Xp(b:Nat):DA b<=2:=by unfold DA;split<;>omega
theorem aaI(o:dv->Nat->Nat->Nat)(l:List aT.Prod)(a b n:Nat):Xn o l a b n<=2:=WW ..
end fG
namespace fG
open aT
theorem Ar{f f':Nat->Nat}:∀k,(∀j,j<k->f j<=f' j)->eK f k<=eK f' k
 |0,_=>bm _
 |k+1,h=>by
  rw[eK,eK];exact Nat.add_le_add (Ar k λj hj=>h j J) (h k J)
def Xq(n:Nat)(l:List aT.Prod):Prop:=∀p∈l,∀x∈p.2,x.1=2->0<=x.2/\x.2<(n:Int)
def Xr(w:List Int)(l:List aT.Prod)(n:Nat)(S:uc):Prop:=∀k a b,k<n->a<=b->b<=w.length->Xn (Dz S w) l a b k<=S ((k:Int),(a:Int),(b:Int))
def aaJ(w:List Int)(l:List aT.Prod)(n:Nat)(c:uc)(a b:Nat):Prop:=∀k,k<n->c ((k:Int),(a:Int),(b:Int))=Xn (Dz c w) l a b k
structure Lfp(w:List Int)(l:List aT.Prod)(n:Nat)(c:uc):Prop where
 le2:∀x,c x<=2
 fixed:∀a b,a<=b->b<=w.length->aaJ w l n c a b
 least:∀S,Xr w l n S->∀k a b,k<n->a<=b->b<=w.length->c ((k:Int),(a:Int),(b:Int))<=S ((k:Int),(a:Int),(b:Int))
structure aaK(w:List Int)(l:List aT.Prod)(n:Nat)(D:Nat->Nat->Prop)(c:uc):Prop where
 le2:∀x,c x<=2
 fixed:∀a b,a<=b->b<=w.length->D a b->aaJ w l n c a b
 least:∀S,Xr w l n S->∀k a b,k<n->a<=b->b<=w.length->c ((k:Int),(a:Int),(b:Int))<=S ((k:Int),(a:Int),(b:Int))
 zero:∀k a b,k<n->a<=b->b<=w.length->¬D a b->c ((k:Int),(a:Int),(b:Int))=0
structure afl(w:List Int)(l:List aT.Prod)(n:Nat)(D:Nat->Nat->Prop)(a b:Nat)(c:uc):Prop where
 le2:∀x,c x<=2
 fixed:∀i j,i<=j->j<=w.length->D i j->aaJ w l n c i j
 least:∀S,Xr w l n S->∀k i j,k<n->i<=j->j<=w.length->c ((k:Int),(i:Int),(j:Int))<=S ((k:Int),(i:Int),(j:Int))
 zero:∀k i j,k<n->i<=j->j<=w.length->¬D i j->¬(i=a/\j=b)->c ((k:Int),(i:Int),(j:Int))=0
 grow:∀k,k<n->c ((k:Int),(a:Int),(b:Int))<=Xn (Dz c w) l a b k
section
variable{w:List Int}{l:List aT.Prod}{n:Nat}{D D':Nat->Nat->Prop}{a b:Nat}{c:uc}
theorem afl.done(h:afl w l n D a b c)(hf:aaJ w l n c a b)(hD:∀i j,i<=j->j<=w.length->(D' i j↔D i j\/(i=a/\j=b))):aaK w l n D' c:=
 ⟨h.le2,λi j h1 h2 h3=>((hD i j h1 h2).1 h3).elim (h.fixed i j h1 h2) λ⟨e1,e2⟩=>by simp_all,h.least,λk i j hk h1 h2 h3=>by
  have:¬(D i j\/(i=a/\j=b)):=λh=>h3 ((hD i j h1 h2).2 h);exact h.zero k i j hk h1 h2 (λh=>this (.inl h)) λh=>this (.inr h)⟩
theorem aaK.same(h:aaK w l n D c)(hD:∀i j,i<=j->j<=w.length->(D' i j↔D i j)):aaK w l n D' c:=
 ⟨h.le2,λi j h1 h2 h3=>h.fixed i j h1 h2 ((hD i j h1 h2).1 h3),h.least,λk i j hk h1 h2 h3=>h.zero k i j hk h1 h2 λh=>h3 ((hD i j h1 h2).2 h)⟩
end
end fG
namespace fG
open aT
theorem Lfp.pre{w:List Int}{l:List aT.Prod}{n:Nat}{c:uc}(h:Lfp w l n c):Xr w l n c:=λk a b hk h1 h2=>by rw[<-h.fixed a b h1 h2 k hk];exact bm _
end fG
namespace fG
open aT
theorem lQ{f g:Nat->Nat}:∀k,(∀j,j<k->f j=g j)->eK f k=eK g k
 |0,_=>rfl
 |k+1,h=>by rw[eK,eK,lQ k λj hj=>h j J,h k J]
theorem K3(f g:Nat->Nat):∀k,eK (λj=>f j+g j) k=eK f k+eK g k
 |0=>rfl
 |k+1=>by rw[eK,eK,eK,K3 f g k];omega
theorem K4(v:Nat)(f:Nat->Nat):∀k,eK (λj=>v*f j) k=v*eK f k
 |0=>rfl
 |k+1=>by rw[eK,eK,K4 v f k,Nat.mul_add]
theorem GI(v:Nat)(f:Nat->Nat):∀k,eK (λj=>f j*v) k=eK f k*v
 |0=>by simp[eK]
 |k+1=>by rw[eK,eK,GI v f k,Nat.add_mul]
theorem GJ(f:Nat->Nat->Nat)(m:Nat):∀k,eK (λi=>eK (λj=>f i j) m) k=eK (λj=>eK (λi=>f i j) k) m
 |0=>by rw[eK];exact(ot _ m λ_ _=>rfl).symm
 |k+1=>by rw[eK,GJ f m k,<-K3];rfl
theorem DB(f:Nat->Nat):∀k,eK f (k+1)=f 0+eK (λj=>f (j+1)) k
 |0=>by simp[eK]
 |k+1=>by rw[eK,DB f k,eK];omega
theorem xA(f:Nat->Nat)(a:Nat):∀k,eK f (a+k)=eK f a+eK (λj=>f (a+j)) k
 |0=>by simp[eK]
 |k+1=>by rw[<-lG,eK,xA f a k,eK];omega
theorem Xs(f:Nat->Nat){i k:Nat}(hi:i<k)(h:∀j,j<k->j≠i->f j=0):eK f k=f i:=by
 induction k with
 |zero=>omega
 | succ k ih=>
  rw[eK]
  by_cases e:i=k
  ·subst e
   rw[ot f i λj hj=>h j J J,cV]
  rw[ih J λj hj=>h j J,h k J (λe'=>e e'.symm),jw]
theorem Xt(f:Nat->Nat->Nat)(d:Nat):eK (λj=>eK (λi=>f i j) (j+1)) (d+1)=eK (λi=>eK (λk=>f i (i+k)) (d-i+1)) (d+1):=by
 have h1:eK (λj=>eK (λi=>f i j) (j+1)) (d+1)=eK (λj=>eK (λi=>if i<=j then f i j else 0) (d+1)) (d+1):=by
  refine lQ _ λj hj=>?_;rw[show d+1=(j+1)+(d-j)by omega,xA (λi=>if i<=j then f i j else 0)];rw[ot (λq=>if j+1+q<=j then f (j+1+q) j else 0) _ λq _=>if_neg J,jw];exact lQ _ λi hi=>(if_pos J).symm
 rw[h1,GJ];refine lQ _ λi hi=>?_;rw[show d+1=i+(d-i+1)by omega,xA,ot _ i λj hj=>if_neg J,cV];exact lQ _ λk _=>if_pos J
def yI(o:dv->Nat->Nat->Nat):List dv->Nat->Nat->Nat
 |[],a,b=>if a=b then 1 else 0
 |x::r,a,b=>eK (λi=>o x a (a+i)*yI o r (a+i) b) (b-a+1)
theorem Q7(f g:Nat->Nat):∀k,(∀j,j<k->min 2 (f j)=min 2 (g j))->min 2 (eK f k)=min 2 (eK g k)
 |0,_=>rfl
 |k+1,h=>by
  have h1:=Q7 f g k λj hj=>h j J;have h2:=h k J;rw[eK,eK];omega
theorem aaL(u v:Nat):min 2 (min 2 u*v)=min 2 (u*v):=by
 by_cases h:u<=2
 ·have e:min 2 u=u:=by omega
  rw[e]
 have e:min 2 u=2:=by omega
 rw[e]
 by_cases hv:v=0
 subst hv;simp;have:2<=2*v:=by omega
 have h2:2*v<=u*v:=Nat.mul_le_mul_right v J;omega
theorem Q8(o:dv->Nat->Nat->Nat)(a:Nat):∀(l:List dv) (f:Nat->Nat) (d:Nat),(∀j,f j<=2)->K1 o a l f d=min 2 (eK (λi=>f i*yI o l (a+i) (a+d)) (d+1))
 | [],f,d,h=>by
  rw[K1,Xs _ (show d<d+1 by omega) λj _ hj=>by rw[yI,if_neg J,Nat.mul_zero],yI,if_pos I,kw];have:=h d;omega
 | x ::r,f,d,h=>by
  rw[K1,Q8 o a r _ d (Xo _ _)];have h1:min 2 (eK (λi=>mI (λi j=>o x (a+i) (a+j)) f i*yI o r (a+i) (a+d)) (d+1))=min 2 (eK (λj=>eK (λi=>f i*o x (a+i) (a+j)*yI o r (a+j) (a+d)) (j+1)) (d+1)):=Q7 _ _ _ λj _=>by
   rw[GI];exact aaL _ _
  rw[h1,Xt (λi j=>f i*o x (a+i) (a+j)*yI o r (a+j) (a+d))]
  congr 1
  refine lQ _ λi hi=>?_;rw[yI,<-K4,show a+d-(a+i)=d-i by omega];refine lQ _ λk _=>?_;rw[Nat.mul_assoc,lG]
theorem Ov(o:dv->Nat->Nat->Nat)(l:List dv){a b:Nat}(h:a<=b):K2 o l a b=min 2 (yI o l a b):=by
 unfold K2;rw[Q8 o a l DA _ Xp,DB];rw[ot (λj=>DA (j+1)*yI o l (a+(j+1)) (a+(b-a))) _ λj _=>by simp[DA]];rw[show a+(b-a)=b by omega];simp[DA]
end fG
namespace fG
open aT dL
def oV(n:Nat)(l:List aT.Prod):Prop:=∀p∈l,0<=p.1/\p.1<(n:Int)/\∀x∈p.2,x.1=1\/(x.1=2/\0<=x.2/\x.2<(n:Int))
theorem Tm{g:d_}{n:Nat}(h:bX g=0)(hn:g.bC=n):oV n g.aF:=λp hp=>by
 obtain⟨_,_,_,_,_,a6⟩:=cP h;obtain⟨b1,b2,b3,b4⟩:=a6 p hp;refine⟨b2,by omega,λx hx=>?_⟩;have:=b4 x hx;unfold right at this;split at this;exact .inl (by assumption);split at this;simp at this;exact .inr ⟨by assumption,by omega,by omega⟩;simp at this
theorem oV.bC{n:Nat}{l:List aT.Prod}(h:oV n l):Xq n l:=λp hp x hx h2=>by
 rcases(h p hp).2.2 x hx with h|h
 omega;exact h.2
theorem xB{l:List aT.Prod}{p:Int}(h0:0<=p)(h:p<(l.length:Int)):db l p∈l:=by
 unfold db;rw[cH,bD J];exact cD _
def Ow(l:List aT.Prod)(t:Tree)(x:dv):List Int:=if t.prod<0 then [x.2]else Aq l t
theorem Ox{l:List aT.Prod}{t:Tree}{x:dv}{u:Nat}(h:GG l t x u):(Ow l t x).length=leaves t:=by
 unfold Ow;split
 ·obtain⟨p,k,ks⟩:=t
  rw[leaves,if_pos (by assumption)];rfl
 exact GH h J
section
end
end fG
namespace fG
open aT dL
def adP(o:dv->Nat->Nat->Nat)(y:dv)(r:List dv)(a b m:Nat):Bool:=decide (0<o y a m)&&decide (0<K2 o r m b)
section
variable{o:dv->Nat->Nat->Nat}{l:List aT.Prod}{x:dv}{a b:Nat}
theorem K5{f:Nat->Nat}:∀{k:Nat},0<eK f k->∃i,i<k/\0<f i
 |0,h=>by grind[eK]
 | k+1,h=>by
  rw[eK]at h
  by_cases c:0<f k
  grind;obtain⟨i,h1,h2⟩:=K5 (f:=f) (k:=k) J;exact⟨i,by omega,h2⟩
theorem aaM{y:dv}{r:List dv}(Fw:a<=b)(h:0<K2 o (y::r) a b):∃m,a<=m/\m<=b/\adP o y r a b m=true:=by
 rw[Ov _ _ Fw,yI]at h;obtain⟨i,h1,h2⟩:=K5 (f:=λi=>o y a (a+i)*yI o r (a+i) b) (k:=b-a+1) J;have h2:0<o y a (a+i)*yI o r (a+i) b:=h2;refine⟨a+i,by omega,by omega,?_⟩;unfold adP;rw[Ov _ _ (by omega:a+i<=b),eV,decide_eq_true_iff,decide_eq_true_iff];exact⟨Nat.pos_of_mul_pos_right h2,by have:=Nat.pos_of_mul_pos_left h2;omega⟩
theorem K6{n:Nat}:∀{l:List aT.Prod},0<Tl o a b n l->∃k,k<l.length/\(db l (k:Int)).1=(n:Int)/\0<K2 o (db l (k:Int)).2 a b
 |[],h=>by grind[Tl]
 | p ::r,h=>by
  rw[Tl]at h
  by_cases c:p.1=(n:Int)/\0<K2 o p.2 a b
  exact⟨0,by simp,c.1,c.2⟩;have:0<Tl o a b n r:=by
   simp_all
  obtain⟨k,h1,h2,h3⟩:=K6 this;exact⟨k+1,by simp_all,h2,h3⟩
theorem xC{k:Nat}(h:k<l.length):db l (k:Int)=l[k]:=by
 simp_all[db]
end
section
end
end fG
namespace dG
open aT
def fK(l:List Bool)(i:Nat)(b:Bool):List Bool×Bool:=if b=aD/\l.getD i aE=aE then(l.set i aD,aD)else(l,aE)
def oW(l:List Bool)(body:List dv)(aR:Bool):Bool:=body.all λx=>if x.1=1 then aR else if x.1=2 then l.getD x.2.toNat aE else aD
def nS(l:List Nat)(i:Nat)(b:Nat):List Nat×Bool:=(l.set i (l.getD i 0|||b),!decide ((l.getD i 0|||b)=l.getD i 0))
def mq(E:List Bool)(F:List Nat)(behind:Nat):List dv->Nat->Nat
 |[],out=>out|||behind
 |x::r,out=>if x.1=1 then out|||2^x.2.toNat else if E.getD x.2.toNat aE=aD then mq E F behind r (out|||F.getD x.2.toNat 0)else out|||F.getD x.2.toNat 0
def fQ(E:List Bool)(F:List Nat)(body:List dv)(behind:Nat):Nat:=mq E F behind body 0
theorem mY(l:List Bool)(i:Nat)(b:Bool):(fK l i b).1.length=l.length:=by
 unfold fK;split<;>simp
theorem Xu(l:List Nat)(i:Nat)(b:Nat):(nS l i b).1.length=l.length:=by
 simp[nS]
structure FS where
 E:List Bool
 R:List Bool
 M:List Bool
 more:Bool
def A_(h:Nat)(x:dv)(R:List Bool)(more:Bool):List Bool×Bool:=if x.1=2 then((fK R x.2.toNat (R.getD h aE)).1,(fK R x.2.toNat (R.getD h aE)).2||more)else(R,more)
def mZ(h:Nat):List dv->List Bool->Bool->List Bool×Bool
 |[],R,more=>(R,more)
 |x::r,R,more=>mZ h r (A_ h x R more).1 (A_ h x R more).2
def oX(p:aT.Prod)(s:FS):FS:=
 let h:=p.1.toNat
 let a:=fK s.E h (oW s.E p.2 aE)
 let b:=fK s.M h (oW s.M p.2 aD)
 let c:=mZ h p.2 s.R (b.2||(a.2||s.more))
 ⟨a.1,c.1,b.1,c.2⟩
def gi:List aT.Prod->FS->FS
 |[],s=>s
 |p::r,s=>gi r (oX p s)
theorem Tn(h:Nat)(x:dv)(R:List Bool)(more:Bool):(A_ h x R more).1.length=R.length:=by
 unfold A_;split;exact mY _ _ _;rfl
theorem DC(h:Nat):∀(body:List dv) (R:List Bool) (more:Bool),(mZ h body R more).1.length=R.length
 |[],_,_=>rfl
 |x::r,R,more=>by rw[mZ,DC h r,Tn]
def oY(l:List Bool):Nat:=l.countP id
theorem K7{l:List Bool}{i:Nat}{b:Bool}(hi:i<l.length):oY (fK l i b).1=oY l+(if(fK l i b).2=aD then 1 else 0):=by
 unfold fK;split
 ·rename_i c
  have h0:l[i]=false:=by
   have:=c.2;rw[cH,bD hi]at this
   simpa using this
  unfold oY;rw[List.countP_set hi];simp[h0]
 simp
end dG
namespace dG
open aT
def Oy{σ:Type}(step:σ->σ×Bool):Nat->σ->σ
 |0,s=>s
 |f+1,s=>if(step s).2=aD then Oy step f (step s).1 else(step s).1
structure DD{σ:Type}(step:σ->σ×Bool)(ok:σ->Prop)(μ:σ->Nat):Prop where
 keep:∀s,ok s->ok (step s).1
 dec:∀s,ok s->(step s).2=aD->μ (step s).1<μ s
def fix{σ:Type}(step:σ->σ×Bool)(μ:σ->Nat)(s:σ):σ:=Oy step (μ s+1) s
section
variable{σ:Type}{step:σ->σ×Bool}{ok:σ->Prop}{μ:σ->Nat}
theorem GO(h:DD step ok μ):∀(f g:Nat) (s:σ),ok s->μ s<f->μ s<g->Oy step f s=Oy step g s
 |0,_,_,_,h1,_=>by omega
 |_,0,_,_,_,h2=>by omega
 | f +1,g+1,s,hs,h1,h2=>by
  unfold Oy
  by_cases c:(step s).2=aD
  ·rw[if_pos c,if_pos c]
   have:=h.dec s hs c;exact GO h f g _ (h.keep s hs) J J
  rw[if_neg c,if_neg c]
theorem Iy(h:DD step ok μ){s:σ}(hs:ok s)(c:(step s).2=aD):fix step μ s=fix step μ (step s).1:=by
 have:=h.dec s hs c;unfold fix;rw[Oy,if_pos c];exact GO h _ _ _ (h.keep s hs) J J
theorem yJ{s:σ}(c:(step s).2=aE):fix step μ s=(step s).1:=by
 unfold fix;rw[Oy,if_neg (by rw[c];decide)]
theorem yK(h:DD step ok μ):∀(k:Nat) (s:σ),ok s->μ s<=k->∃s',ok s'/\(step s').2=aE/\fix step μ s=(step s').1
 | k,s,hs,hk=>by
  by_cases c:(step s).2=aD
  ·have hd:=h.dec s hs c
   match k with
   |0=>omega
   | k+1=>
    obtain⟨s',h1,h2,h3⟩:=yK h k (step s).1 (h.keep s hs) J;exact⟨s',h1,h2,by rw[Iy h hs c,h3]⟩
  have c':(step s).2=false:=by simpa using c
  exact⟨s,hs,c',yJ c'⟩
end
def GP(E:List Bool)(M:List Bool)(p:aT.Prod)(F:List Nat)(more:Bool):List Nat×Bool:=
 if oW M p.2 aD=aD then((nS F p.1.toNat (fQ E F p.2 0)).1,(nS F p.1.toNat (fQ E F p.2 0)).2||more)else(F,more)
def qW(E M:List Bool):List aT.Prod->List Nat->Bool->List Nat×Bool
 |[],F,more=>(F,more)
 |p::r,F,more=>qW E M r (GP E M p F more).1 (GP E M p F more).2
def jb(E:List Bool)(F:List Nat)(h:Nat)(x:dv)(r:List dv)(W:List Nat)(more:Bool):List Nat×Bool:=
 if x.1=2 then((nS W x.2.toNat (fQ E F r (W.getD h 0))).1,(nS W x.2.toNat (fQ E F r (W.getD h 0))).2||more)else(W,more)
def jE(E:List Bool)(F:List Nat)(h:Nat):List dv->List Nat->Bool->List Nat×Bool
 |[],W,more=>(W,more)
 |x::r,W,more=>jE E F h r (jb E F h x r W more).1 (jb E F h x r W more).2
def nE(E:List Bool)(F:List Nat):List aT.Prod->List Nat->Bool->List Nat×Bool
 |[],W,more=>(W,more)
 |p::r,W,more=>nE E F r (jE E F p.1.toNat p.2 W more).1 (jE E F p.1.toNat p.2 W more).2
def m_(l:List Nat):Nat:=(l.map λx=>18446744073709551616-x).sum
def zy(n:Nat)(l:List Nat):Prop:=l.length=n/\∀x∈l,x<18446744073709551616
theorem oe{n:Nat}{l:List Nat}(h:zy n l)(i:Nat):l.getD i 0<18446744073709551616:=by
 rw[cH]
 cases e:l[i]? with
 |none=>decide
 |some y=>exact h.2 y (kR e)
theorem vV{x y:Nat}(hx:x<18446744073709551616)(hy:y<18446744073709551616):x|||y<18446744073709551616:=Nat.or_lt_two_pow (n:=64) hx hy
theorem Ce{n:Nat}{l:List Nat}{i b:Nat}(h:zy n l)(hb:b<18446744073709551616):zy n (nS l i b).1:=by
 refine⟨by rw[Xu];exact h.1,λx hx=>?_⟩;rcases WJ hx with h1|rfl
 exact h.2 x h1;exact vV (oe h i) hb
theorem Q9:∀(l:List Nat) (i:Nat) (y:Nat) (h:i<l.length),((l.set i y).map λx=>18446744073709551616-x).sum+(18446744073709551616-l[i])=(l.map λx=>18446744073709551616-x).sum+(18446744073709551616-y)
 |a::r,0,y,h=>by simp;omega
 |a::r,i+1,y,h=>by
  have:=Q9 r i y (by simpa using h);simp at this⊢;omega
theorem GQ{n:Nat}{l:List Nat}{i b:Nat}(h:zy n l)(hi:i<n)(hb:b<18446744073709551616):m_ (nS l i b).1<=m_ l/\((nS l i b).2=aD->m_ (nS l i b).1<m_ l):=by
 have hil:i<l.length:=by rw[h.1];exact hi
 have hs:=Q9 l i (l.getD i 0|||b) hil;have e:l.getD i 0=l[i]:=by rw[cH,bD hil];rfl
 have h1:l[i]<=l.getD i 0|||b:=by rw[e];exact Nat.left_le_or
 have h2:=vV (oe h i) hb;have h3:=h.2 _ (cD hil);unfold m_ nS;dsimp only;refine⟨by omega,λhc=>?_⟩;simp only[CH,decide_eq_false_iff_not]at hc;omega
theorem ow{E:List Bool}{F:List Nat}{n:Nat}{body:List dv}{behind:Nat}(hF:zy n F)(hb:behind<18446744073709551616)(hx:∀x∈body,x.1=1->x.2.toNat<64):fQ E F body behind<18446744073709551616:=by
 have key:∀(body:List dv) (out:Nat),out<18446744073709551616->(∀x∈body,x.1=1->x.2.toNat<64)->mq E F behind body out<18446744073709551616:=by
  intro body
  induction body with
  |nil=>intro out h _;exact vV h hb
  | cons x r ih=>
   intro out h hx;unfold mq;split
   ·rename_i c
    have hp:(2:Nat)^x.2.toNat<2^64:=Dg aiz (hx x (by simp) c);exact vV h (by simpa using hp)
   split;exact ih _ (vV h (oe hF _)) λy hy=>hx y (by simp[hy]);exact vV h (oe hF _)
 exact key body 0 aiz hx
structure DE(n:Nat)(l:List aT.Prod):Prop where
 head:∀p∈l,0<=p.1/\p.1.toNat<n
 Dx:∀p∈l,∀x∈p.2,x.1=1->0<=x.2/\x.2.toNat<64
 non:∀p∈l,∀x∈p.2,x.1≠1->x.1=2/\0<=x.2/\x.2.toNat<n
theorem yL{g:d_}{n:Nat}(h:bX g=0)(hn:g.bC=n):DE n g.aF:=by
 obtain⟨a,b,c,d,e,f⟩:=cP h;refine⟨λp hp=>?_,λp hp x hx j_=>?_,λp hp x hx j_=>?_⟩;have:=f p hp;omega
 ·have:=(f p hp).2.2.2 x hx
  unfold right at this;rw[if_pos j_]at this;simp at this;omega
 have:=(f p hp).2.2.2 x hx;unfold right at this;rw[if_neg j_]at this;split at this
 ·rename_i h2
  simp at this;exact⟨h2,by omega,by omega⟩
 simp at this
theorem DE.tail{n:Nat}{p:aT.Prod}{l:List aT.Prod}(h:DE n (p::l)):DE n l:=
 ⟨λq hq=>h.head q (by simp[hq]),λq hq=>h.Dx q (by simp[hq]),λq hq=>h.non q (by simp[hq])⟩
theorem ud{E M:List Bool}{n:Nat}:∀(l:List aT.Prod) (F:List Nat) (more:Bool),DE n l->zy n F->zy n (qW E M l F more).1/\m_ (qW E M l F more).1<=m_ F/\((qW E M l F more).2=aD->more=aD\/m_ (qW E M l F more).1<m_ F)
 |[],F,more,_,h=>⟨h,bm _,λc=> .inl c⟩
 | p ::r,F,more,hf,h=>by
  have hb:fQ E F p.2 0<18446744073709551616:=ow h aiz λx hx j_=>(hf.Dx p (by simp) x hx j_).2;have hh:=hf.head p (by simp);rw[qW];unfold GP;split
  ·have h1:=Ce (i:=p.1.toNat) h hb
   have h2:=GQ h hh.2 hb;obtain⟨k1,k2,k3⟩:=ud r (nS F p.1.toNat (fQ E F p.2 0)).1 ((nS F p.1.toNat (fQ E F p.2 0)).2||more) hf.tail h1;refine⟨k1,fv k2 h2.1,λc=>?_⟩;rcases k3 c with c2|c2
   ·rw[lK]at c2
    rcases c2 with c2|c2
    exact .inr (Iq k2 (h2.2 c2));exact .inl c2
   exact .inr (jv c2 h2.1)
  exact ud r F more hf.tail h
theorem GR{E:List Bool}{F:List Nat}{n h:Nat}(hF:zy n F)(hh:h<n):∀(body:List dv) (W:List Nat) (more:Bool),(∀x∈body,x.1=1->x.2.toNat<64)->(∀x∈body,x.1=2->x.2.toNat<n)->zy n W->zy n (jE E F h body W more).1/\m_ (jE E F h body W more).1<=m_ W/\((jE E F h body W more).2=aD->more=aD\/m_ (jE E F h body W more).1<m_ W)
 |[],W,more,_,_,hW=>⟨hW,bm _,λc=> .inl c⟩
 | x ::r,W,more,ht,hx,hW=>by
  have hb:fQ E F r (W.getD h 0)<18446744073709551616:=ow hF (oe hW h) λy hy=>ht y (by simp[hy]);have tl:=λW more=>GR (E:=E) hF hh r W more (λy hy=>ht y (by simp[hy])) (λy hy=>hx y (by simp[hy]));rw[jE];unfold jb;split
  ·rename_i c0
   have h1:=Ce (i:=x.2.toNat) hW hb;have h2:=GQ hW (hx x (by simp) c0) hb;obtain⟨k1,k2,k3⟩:=tl (nS W x.2.toNat (fQ E F r (W.getD h 0))).1 ((nS W x.2.toNat (fQ E F r (W.getD h 0))).2||more) h1;refine⟨k1,fv k2 h2.1,λc=>?_⟩;rcases k3 c with c2|c2
   ·rw[lK]at c2
    rcases c2 with c2|c2
    exact .inr (Iq k2 (h2.2 c2));exact .inl c2
   exact .inr (jv c2 h2.1)
  exact tl W more hW
theorem yM{E:List Bool}{F:List Nat}{n:Nat}(hF:zy n F):∀(l:List aT.Prod) (W:List Nat) (more:Bool),DE n l->zy n W->zy n (nE E F l W more).1/\m_ (nE E F l W more).1<=m_ W/\((nE E F l W more).2=aD->more=aD\/m_ (nE E F l W more).1<m_ W)
 |[],W,more,_,h=>⟨h,bm _,λc=> .inl c⟩
 | p ::r,W,more,hf,h=>by
  rw[nE];obtain⟨a1,a2,a3⟩:=GR (E:=E) hF (hf.head p (by simp)).2 p.2 W more (λx hx h1=>(hf.Dx p (by simp) x hx h1).2) (λx hx h2=>(hf.non p (by simp) x hx J).2.2) h;obtain⟨k1,k2,k3⟩:=yM hF r (jE E F p.1.toNat p.2 W more).1 (jE E F p.1.toNat p.2 W more).2 hf.tail a1;refine⟨k1,fv k2 a2,λc=>?_⟩;rcases k3 c with c2|c2
  ·rcases a3 c2 with c3|c3
   exact .inl c3;exact .inr (Iq k2 c3)
  exact .inr (jv c2 a2)
theorem Oz{E M:List Bool}{n:Nat}{l:List aT.Prod}(hf:DE n l):DD (λF=>qW E M l F aE) (zy n) m_:=
 ⟨λs hs=>(ud l s aE hf hs).1,λs hs c=>by
  rcases(ud (E:=E) (M:=M) l s aE hf hs).2.2 c with h|h
  cases h
  exact h⟩
theorem Xv{E:List Bool}{F:List Nat}{n:Nat}{l:List aT.Prod}(hF:zy n F)(hf:DE n l):DD (λW=>nE E F l W aE) (zy n) m_:=
 ⟨λs hs=>(yM hF l s aE hf hs).1,λs hs c=>by
  rcases(yM (E:=E) hF l s aE hf hs).2.2 c with h|h
  cases h
  exact h⟩
end dG
namespace dG
open aT
def Xw(n:Nat)(s:FS):Prop:=s.E.length=n/\s.R.length=n/\s.M.length=n
def had(s:FS):Nat:=oY s.E+oY s.R+oY s.M
def K8(l:List aT.Prod)(s:FS):FS×Bool:=(gi l ⟨s.E,s.R,s.M,aE⟩,(gi l ⟨s.E,s.R,s.M,aE⟩).more)
theorem DF(l:List Bool):oY l<=l.length:=List.countP_le_length
theorem xD{l:List Bool}{i:Nat}{b:Bool}(hi:i<l.length):oY l<=oY (fK l i b).1/\((fK l i b).2=aD->oY l<oY (fK l i b).1):=by
 have:=K7 (b:=b) hi;refine⟨by split at this<;>omega,λh=>?_⟩;rw[if_pos h]at this;omega
theorem A'{h n:Nat}:∀(body:List dv) (R:List Bool) (more:Bool),(∀x∈body,x.1=2->x.2.toNat<n)->R.length=n->oY R<=oY (mZ h body R more).1/\((mZ h body R more).2=aD->more=aD\/oY R<oY (mZ h body R more).1)
 |[],R,more,_,_=>⟨bm _,λc=> .inl c⟩
 | x ::r,R,more,hx,hR=>by
  rw[mZ];have ih:=λR more=>A' (h:=h) r R more λy hy=>hx y (by simp[hy]);unfold A_;split
  ·rename_i c0
   have hg:=xD (b:=R.getD h aE) (show x.2.toNat<R.length by rw[hR];exact hx x (by simp) c0);have hl:=mY R x.2.toNat (R.getD h aE);generalize fK R x.2.toNat (R.getD h aE)=a at*;obtain⟨R2,m2⟩:=a;dsimp only at*;obtain⟨k1,k2⟩:=ih R2 (m2||more) J;refine⟨by omega,λc=>?_⟩;rcases k2 c with c2|c2
   ·rw[lK]at c2
    rcases c2 with c2|c2
    ·have:=hg.2 c2
     exact .inr J
    exact .inl c2
   exact .inr J
  exact ih R more hR
theorem K9{n:Nat}{p:aT.Prod}{s:FS}(hp:p.1.toNat<n)(hx:∀x∈p.2,x.1=2->x.2.toNat<n)(h:Xw n s):Xw n (oX p s)/\had s<=had (oX p s)/\((oX p s).more=aD->s.more=aD\/had s<had (oX p s)):=by
 obtain⟨E,R,M,more⟩:=s;obtain⟨h1,h2,h3⟩:=h;unfold oX Xw had;dsimp only at*;have e1:=xD (b:=oW E p.2 aE) (show p.1.toNat<E.length by omega);have e2:=mY E p.1.toNat (oW E p.2 aE);have m1:=xD (b:=oW M p.2 aD) (show p.1.toNat<M.length by omega);have m2:=mY M p.1.toNat (oW M p.2 aD);generalize fK E p.1.toNat (oW E p.2 aE)=a at*;generalize fK M p.1.toNat (oW M p.2 aD)=b at*;obtain⟨E2,ce⟩:=a;obtain⟨M2,cm⟩:=b;dsimp only at*;have r1:=A' (h:=p.1.toNat) p.2 R (cm||(ce||more)) hx h2;have r2:=DC p.1.toNat p.2 R (cm||(ce||more));generalize mZ p.1.toNat p.2 R (cm||(ce||more))=c at*;obtain⟨R2,cr⟩:=c;dsimp only at*;refine⟨⟨by omega,by omega,by omega⟩,by omega,λhc=>?_⟩;rcases r1.2 hc with h4|h4
 ·rw[lK,lK]at h4
  rcases h4 with h4|h4|h4
  ·have:=m1.2 h4
   exact .inr J
  ·have:=e1.2 h4
   exact .inr J
  exact .inl h4
 exact .inr J
theorem pX{n:Nat}:∀(l:List aT.Prod) (s:FS),DE n l->Xw n s->Xw n (gi l s)/\had s<=had (gi l s)/\((gi l s).more=aD->s.more=aD\/had s<had (gi l s))
 |[],s,_,h=>⟨h,bm _,λc=> .inl c⟩
 | p ::r,s,hf,h=>by
  rw[gi];obtain⟨a1,a2,a3⟩:=K9 (s:=s) (hf.head p (by simp)).2 (λx hx h2=>(hf.non p (by simp) x hx J).2.2) h;obtain⟨k1,k2,k3⟩:=pX r (oX p s) hf.tail a1;refine⟨k1,by omega,λc=>?_⟩;rcases k3 c with c2|c2
  ·rcases a3 c2 with c3|c3
   exact .inl c3;exact .inr J
  exact .inr J
theorem adQ{n:Nat}{s:FS}(h:Xw n s):had s<=3*n:=by
 have a:=DF s.E;have b:=DF s.R;have c:=DF s.M;obtain⟨h1,h2,h3⟩:=h;unfold had;omega
def Ba(n:Nat)(s:FS):Nat:=3*n-had s
theorem DG{n:Nat}{l:List aT.Prod}(hf:DE n l):DD (K8 l) (Xw n) (Ba n):=
 ⟨λs hs=>(pX l ⟨s.E,s.R,s.M,aE⟩ hf hs).1,λs hs c=>by
  have h:=pX l ⟨s.E,s.R,s.M,aE⟩ hf hs;have h2:=adQ h.1;rcases h.2.2 c with h3|h3
  cases h3
  have e:had ⟨s.E,s.R,s.M,aE⟩=had s:=rfl;show 3*n-had (gi l ⟨s.E,s.R,s.M,aE⟩)<3*n-had s
  omega⟩
end dG
namespace dG
open aT
theorem Xx(l:List Nat)(i:Nat):l.set i (l.getD i 0)=l:=by
 by_cases h:i<l.length
 ·have e:l.getD i 0=l[i]:=by rw[cH,bD h];rfl
  rw[e,List.set_getElem_self]
 rw[List.set_eq_of_length_le J]
end dG
namespace dG
open aT dL
theorem sc{E:List Bool}{F:List Nat}{h:Nat}:∀(body:List dv) (W:List Nat) (more:Bool),(jE E F h body W more).2=aE->more=aE/\(jE E F h body W more).1=W/\∀pre x post,body=pre++x::post->x.1=2->W.getD x.2.toNat 0|||fQ E F post (W.getD h 0)=W.getD x.2.toNat 0
 |[],W,more,hm=>⟨hm,rfl,λpre x post e=>by simp at e⟩
 | y ::r,W,more,hm=>by
  rw[jE]at hm⊢;unfold jb at hm⊢
  by_cases c:y.1=2
  ·rw[if_pos c]at hm⊢
   obtain⟨h1,h2,h3⟩:=sc r _ _ hm;rw[Dd]at h1;have h4:W.getD y.2.toNat 0|||fQ E F r (W.getD h 0)=W.getD y.2.toNat 0:=by
    have:=h1.1;unfold nS at this
    simpa using this
   have h5:(nS W y.2.toNat (fQ E F r (W.getD h 0))).1=W:=by
    unfold nS;dsimp only;rw[h4,Xx]
   rw[h2];dsimp only at h3⊢;rw[h5]at h3⊢;refine⟨h1.2,rfl,λpre x post e hx=>?_⟩
   match pre,e with
   | [],e=>
    simp only[eJ,fO]at e;obtain⟨rfl,rfl⟩:=e;exact h4
   | z::pre,e=>
    simp only[kS,fO]at e;exact h3 pre x post e.2 hx
  rw[if_neg c]at hm⊢;obtain⟨h1,h2,h3⟩:=sc r _ _ hm;refine⟨h1,h2,λpre x post e hx=>?_⟩
  match pre,e with
  | [],e=>
   simp only[eJ,fO]at e;obtain⟨rfl,rfl⟩:=e;exact absurd hx c
  | z::pre,e=>
   simp only[kS,fO]at e;exact h3 pre x post e.2 hx
theorem Bb{E:List Bool}{F:List Nat}:∀(l:List aT.Prod) (W:List Nat) (more:Bool),(nE E F l W more).2=aE->more=aE/\(nE E F l W more).1=W/\∀p∈l,∀pre x post,p.2=pre++x::post->x.1=2->W.getD x.2.toNat 0|||fQ E F post (W.getD p.1.toNat 0)=W.getD x.2.toNat 0
 |[],W,more,hm=>⟨hm,rfl,λp hp=>by cases hp⟩
 |p::r,W,more,hm=>by
  rw[nE]at hm⊢;obtain⟨h1,h2,h3⟩:=Bb r _ _ hm;obtain⟨k1,k2,k3⟩:=sc p.2 W more h1;rw[k2]at h2 h3⊢;refine⟨k1,h2,λq hq=>?_⟩;rcases dx.1 hq with rfl|hq
  exact k3;exact h3 q hq
end dG
namespace xE
open aT dL fG dG
mutual
inductive Fy(l:List aT.Prod):dv->List Int->Prop
 |Dx {x:dv} (h:x.1=1):Fy l x [x.2]
 |non {x:dv} {p:aT.Prod} {ws:List Int} (h:x.1≠1) (hp:p∈l) (hx:p.1=x.2) (hd:qX l p.2 ws):Fy l x ws
inductive qX(l:List aT.Prod):List dv->List Int->Prop
 |nil:qX l [] []
 |cons {y:dv} {r:List dv} {a b:List Int} (h1:Fy l y a) (h2:qX l r b):qX l (y::r) (a++b)
end
theorem qX.To{l:List aT.Prod}:∀{r r':List dv} {a b:List Int},qX l r a->qX l r' b->qX l (r++r') (a++b)
 |[],_,_,_,.nil,h=>h
 |_::_,_,_,_,.cons h1 h2,h=>by rw[eY];exact .cons h1 (qX.To h2 h)
theorem Xy{l:List aT.Prod}{x:dv}{a:List Int}(h:Fy l x a):qX l [x] a:=by
 have:=qX.cons h qX.nil
 rwa [eG]at this
def cut(w:List Int)(a b:Nat):List Int:=(w.drop a).take (b-a)
theorem yN{w:List Int}{a m b:Nat}(h1:a<=m)(h2:m<=b):cut w a m++cut w m b=cut w a b:=by
 unfold cut;have e3:w.drop m=(w.drop a).drop (m-a):=by rw[List.drop_drop,show a+(m-a)=m by omega]
 rw[e3,show b-a=(m-a)+(b-m)by omega,List.take_add]
theorem K_(w:List Int)(a:Nat):cut w a a=[]:=by unfold cut;simp
theorem Q_{w:List Int}{a n:Nat}(h:n=w.length):cut w a n=w.drop a:=by
 unfold cut;rw[gK (by simp;omega)]
theorem Q'{w:List Int}{a b:Nat}(h1:a<=b)(h2:b<=w.length):(cut w a b).length=b-a:=by
 unfold cut;rw[iU,List.length_drop];omega
theorem K'{l:List aT.Prod}{w:List Int}{o:dv->Nat->Nat->Nat}:∀(body:List dv) (a b:Nat),a<=b->(∀y∈body,∀i j,a<=i->i<=j->j<=b->0<o y i j->Fy l y (cut w i j))->0<K2 o body a b->qX l body (cut w a b)
 | [],a,b,Fw,_,h=>by
  rw[Ov _ _ Fw,yI]at h;have hE:a=b:=by
   by_cases c:a=b
   exact c;rw[if_neg c]at h;omega
  subst hE;rw[K_];exact .nil
 |y::r,a,b,Fw,ho,h=>by
  obtain⟨m,m1,m2,m3⟩:=aaM Fw h;unfold adP at m3;rw[eV,decide_eq_true_iff,decide_eq_true_iff]at m3;rw[<-yN m1 m2];exact .cons (ho y (by simp) a m (bm _) m1 m2 m3.1) (K' r m b m2 (λz hz i j h1 h2 h3=>ho z (by simp[hz]) i j J h2 h3) m3.2)
section
variable{w:List Int}{l:List aT.Prod}{n:Nat}{c:uc}
open Classical in
theorem Iz(hc:Lfp w l n c)(hs:oV n l){k a b:Nat}(hk:k<n)(Fw:a<=b)(hb:b<=w.length)(h:0<c ((k:Int),(a:Int),(b:Int))):Fy l (2,(k:Int)) (cut w a b):=by
 have hp:Xr w l n (λx=>if Fy l (2,x.1) (cut w x.2.1.toNat x.2.2.toNat)then 2 else 0):=λq i j hq sM hj=>by
  dsimp only;rw[dB,dB]
  by_cases cd:Fy l (2,(q:Int)) (cut w i j)
  rw[if_pos cd];exact aaI _ _ _ _ _;rw[if_neg cd];apply Nat.le_of_not_lt;intro h0;unfold Xn at h0;obtain⟨r,r1,r2,r3⟩:=K6 (Nat.lt_min.1 h0).2;have hm:=xB (l:=l) (p:=(r:Int)) J J;refine cd (.non (by show(2:Int)≠1;decide) hm r2 (K' _ i j sM (λy hy i' j' h1 h2 h3 h4=>?_) r3));unfold Dz at h4
  by_cases e:y.1=2
  ·rw[if_pos e]at h4
   dsimp only at h4;rw[dB,dB]at h4;split at h4
   ·rename_i hd
    obtain⟨y1,y2⟩:=y;dsimp only at e hd;subst e;exact hd
   omega
  rw[if_neg e]at h4;split at h4
  ·rename_i h5
   obtain⟨h6,h7⟩:=h5;have e1:y.1=1:=((hs _ hm).2.2 y hy).resolve_right λh=>e h.1;obtain⟨h8,h9⟩:=dl.1 h7;have:cut w i' j'=[y.2]:=by
    unfold cut;rw[h6,show i'+1-i'=1 by omega,eI h8,h9];rfl
   rw[this];exact .Dx e1
  omega
 have:=hc.least _ hp k a b hk Fw hb;dsimp only at this;rw[dB,dB]at this
 by_cases cd:Fy l (2,(k:Int)) (cut w a b)
 exact cd;rw[if_neg cd]at this;omega
theorem OA(hc:Lfp w l n c)(hs:oV n l){x:dv}{a b:Nat}(hx:x.1=1\/(x.1=2/\0<=x.2/\x.2<(n:Int)))(Fw:a<=b)(hb:b<=w.length)(h:0<Dz c w x a b):Fy l x (cut w a b):=by
 unfold Dz at h;rcases hx with hx|⟨h2,h3,h4⟩
 ·rw[if_neg J]at h
  split at h
  ·rename_i h5
   obtain⟨h6,h7⟩:=h5;obtain⟨h8,h9⟩:=dl.1 h7;have:cut w a b=[x.2]:=by
    unfold cut;rw[h6,show a+1-a=1 by omega,eI h8,h9];rfl
   rw[this];exact .Dx hx
  omega
 rw[if_pos h2]at h;obtain⟨x1,x2⟩:=x;dsimp only at*;subst h2;have e:x2=((x2.toNat:Nat):Int):=by omega
 rw[e]at h⊢;exact Iz hc hs J Fw hb h
end
section
end
def xF(l:List aT.Prod)(s:FS):Prop:=(∀i:Nat,s.E.getD i aE=aD->Fy l (2,(i:Int)) [])/\∀i:Nat,s.M.getD i aE=aD->∃ws,Fy l (2,(i:Int)) ws
theorem DH{l:List aT.Prod}{E:List Bool}(h:∀i:Nat,E.getD i aE=aD->Fy l (2,(i:Int)) []):∀(b:List dv),(∀x∈b,x.1=1\/(x.1=2/\0<=x.2))->oW E b aE=aD->qX l b []
 |[],_,_=> .nil
 | y::r,hx,ha=>by
  unfold oW at ha;rw[cY,eV]at ha;have ih:=DH h r (λz hz=>hx z (by simp[hz])) ha.2;rcases hx y (by simp)with c|⟨c1,c2⟩
  rw[if_pos c]at ha;simp at ha;rw[if_neg J,if_pos c1]at ha;have hd:=h _ ha.1;obtain⟨y1,y2⟩:=y;dsimp only at*;subst c1;rw[tV c2]at hd;exact .cons hd ih
theorem DI{l:List aT.Prod}{M:List Bool}(h:∀i:Nat,M.getD i aE=aD->∃ws,Fy l (2,(i:Int)) ws):∀(b:List dv),(∀x∈b,x.1=1\/(x.1=2/\0<=x.2))->oW M b aD=aD->∃ws,qX l b ws
 |[],_,_=>⟨[],.nil⟩
 | y::r,hx,ha=>by
  unfold oW at ha;rw[cY,eV]at ha;obtain⟨ws,ih⟩:=DI h r (λz hz=>hx z (by simp[hz])) ha.2;rcases hx y (by simp)with c|⟨c1,c2⟩
  exact⟨_,.cons (.Dx c) ih⟩;rw[if_neg J,if_pos c1]at ha;obtain⟨us,hd⟩:=h _ ha.1;obtain⟨y1,y2⟩:=y;dsimp only at*;subst c1;rw[tV c2]at hd;exact⟨_,.cons hd ih⟩
theorem La{l:List Bool}{i k:Nat}{b:Bool}(h:(fK l i b).1.getD k aE=aD):l.getD k aE=aD\/(k=i/\b=aD):=by
 unfold fK at h;split at h
 ·rename_i c
  dsimp only at h;rw[cH,WQ]at h
  by_cases e:i=k
  exact .inr ⟨e.symm,c.1⟩;rw[if_neg e,<-cH]at h;exact .inl h
 exact .inl h
theorem IA{n:Nat}{l:List aT.Prod}(hs:oV n l){p:aT.Prod}(hp:p∈l){s:FS}(h:xF l s):xF l (oX p s):=by
 obtain⟨s1,s2,s3⟩:=hs p hp;have hx:∀x∈p.2,x.1=1\/(x.1=2/\0<=x.2):=λx hx=>(s3 x hx).imp id λh=>⟨h.1,h.2.1⟩;unfold oX;refine⟨λi hi=>?_,λi hi=>?_⟩
 ·rcases La hi with h1|⟨h1,h2⟩
  exact h.1 i h1;subst h1;exact .non (by show(2:Int)≠1;decide) hp J (DH h.1 _ hx h2)
 rcases La hi with h1|⟨h1,h2⟩
 exact h.2 i h1;subst h1;obtain⟨ws,hw⟩:=DI h.2 _ hx h2;exact⟨ws,.non (by show(2:Int)≠1;decide) hp J hw⟩
theorem yO{n:Nat}{l:List aT.Prod}(hs:oV n l):∀(r:List aT.Prod),(∀p∈r,p∈l)->∀(s:FS),xF l s->xF l (gi r s)
 |[],_,s,h=>h
 |p::r,hr,s,h=>by
  rw[gi];exact yO hs r (λq hq=>hr q (by simp[hq])) _ (IA hs (hr p (by simp)) h)
end xE
namespace xE
open aT dL fG
def acQ(l:List aT.Prod)(w:List Int)(x:dv)(a b:Nat)(t:Tree):Prop:=GG l t x a/\Ow l t x=cut w a b
theorem acQ.leaves{l:List aT.Prod}{w:List Int}{x:dv}{a b:Nat}{t:Tree}(h:acQ l w x a b t)(Fw:a<=b)(hb:b<=w.length):leaves t=b-a:=by
 rw[<-Ox h.1,h.2,Q' Fw hb]
section
end
section
end
end xE
namespace BM
open aT dL fG dG xE
abbrev Cl:=Int×Int×Int×Int
def OB(T col:Nat):Nat:=if col=T then 9223372036854775808 else 2^col
section
variable(l:List aT.Prod)(may:Nat->Nat)(T:Nat)
def DJ(n col i:Nat):Bool:=decide ((db l (i:Int)).1=(n:Int))&&!decide ((may i&&&OB T col)=0)
def h_(n col:Nat):Nat->Int
 |0=> -1
 |k+1=>if h_ n col k<0 then(if DJ l may T n col k=aD then(k:Int)else h_ n col k)else h_ n col k
def xG(n col:Nat):Nat->List Cl->List Cl
 |0,out=>out
 |k+1,out=>if DJ l may T n col k=aD then(if h_ l may T n col k<0 then xG n col k out else xG n col k out++[((n:Int),(col:Int),h_ l may T n col k,(k:Int))])else xG n col k out
def BN(n:Nat):Nat->List Cl->List Cl
 |0,out=>out
 |c+1,out=>xG l may T n c l.length (BN n c out)
def mu:Nat->List Cl
 |0=>[]
 |n+1=>BN l may T n (T+1) (mu n)
def rowAt(n col:Nat):Int:=h_ l may T n col l.length
end
section
variable{l:List aT.Prod}{may:Nat->Nat}{T:Nat}
theorem ue(n col:Nat):∀k,-1<=h_ l may T n col k/\h_ l may T n col k<(k:Int)
 |0=>⟨by rw[h_];omega,by rw[h_];omega⟩
 |k+1=>by
  have:=ue n col k;rw[h_];split;split<;>omega;omega
theorem xH(n col:Nat):∀k,k<=l.length->0<=h_ l may T n col k->(db l (h_ l may T n col k)).1=(n:Int)
 |0,_,h=>by rw[h_]at h;omega
 | k + 1,hk,h=>by
  have ih:=xH n col k J;rw[h_]at h⊢;split at h
  ·split at h
   ·rename_i c1 c2
    rw[if_pos c1,if_pos c2];unfold DJ at c2;rw[eV,decide_eq_true_iff]at c2;exact c2.1
   omega
  rename_i c1
  rw[if_neg c1];exact ih h
end
def DK(T:Nat)(w:List Int)(a:Nat):Nat:=if a<w.length then(w.getD a 0).toNat else T
section
end
section
end
section
end
end BM
namespace e8
open aT dL fG dG xE BM
inductive TD where
 |sym (x:dv)
 |close (p:Int)
def bP:List TD->List dv->Nat->List TD×List dv×Nat×Bool
 |[],out,a=>([],out,a,aD)
 | .sym x::r,out,a=>(.sym x::r,out,a,aD)
 | .close p::r,out,a=>if a+1<=2000 then bP r (out++[(3,p)]) (a+1)else(r,out++[(3,p)],a+1,aE)
def opened(l:List aT.Prod)(p:Int)(r:List TD):List TD:=(db l p).2.map .sym++ .close p::r
def fA(l:List aT.Prod)(nx:Int->Int):Nat->List TD->List dv->Nat->List TD×List dv×Nat×Int
 |0,st,out,a=>(st,out,a,14)
 | f +1,st,out,a=>
  if(bP st out a).2.2.2=aE then((bP st out a).1,(bP st out a).2.1,(bP st out a).2.2.1,14)else
  match(bP st out a).1 with
  | .sym x::r=>
   if x.1=1 then((bP st out a).1,(bP st out a).2.1,(bP st out a).2.2.1,0)
   else if nx x.2<0 then((bP st out a).1,(bP st out a).2.1,(bP st out a).2.2.1,13)
   else if(bP st out a).2.2.1+1<=2000/\(opened l (nx x.2) r).length<=60 then fA l nx f (opened l (nx x.2) r) ((bP st out a).2.1++[(1,nx x.2)]) ((bP st out a).2.2.1+1)
   else(opened l (nx x.2) r,(bP st out a).2.1++[(1,nx x.2)],(bP st out a).2.2.1+1,14)
  |_=>((bP st out a).1,(bP st out a).2.1,(bP st out a).2.2.1,0)
def jR(l:List aT.Prod)(nx:Int->Int)(st:List TD)(seen:Nat)(t:Int):Int×List TD×List dv:=
 match fA l nx 2001 st [] 0 with
 | (st1,gj,a1,e)=>
  if e≠0 then(e,[],[])else
  match st1 with
  | .sym x::r=>if x.2≠t then(13,[],[])else if a1+1<=2000/\(bP r (gj++[(2,(seen:Int))]) (a1+1)).2.2.2=aD then(0,(bP r (gj++[(2,(seen:Int))]) (a1+1)).1,(bP r (gj++[(2,(seen:Int))]) (a1+1)).2.1)else(14,[],[])
  |_=>(13,[],[])
def jm(l:List aT.Prod)(nx:Int->Int)(st:List TD):Int×List dv:=
 match fA l nx 2001 st [] 0 with
 |(st1,gj,_,e)=>if e≠0 then(e,[])else match st1 with|[]=>(0,gj)|_=>(13,[])
section
variable{l:List aT.Prod}{C:Int->Nat->Int->Prop}
theorem xI:∀{st:List TD} {out:List dv} {a:Nat},(bP st out a).2.2.2=aD->(bP st out a).1=[]\/∃x r,(bP st out a).1= .sym x::r
 |[],out,a,_=> .inl I
 | .sym x::r,out,a,_=> .inr ⟨x,r,rfl⟩
 | .close p::r,out,a,h=>by
  unfold bP at h⊢;split
  ·rename_i c;rw[if_pos c]at h;exact xI h
  simp_all
theorem sd:∀{st:List TD} {out:List dv} {a:Nat},(bP st out a).1.length<=st.length/\a<=(bP st out a).2.2.1/\((bP st out a).2.2.2=aD->a<=2000->(bP st out a).2.2.1<=2000)/\(bP st out a).2.1.length+a=out.length+(bP st out a).2.2.1
 |[],out,a=>⟨bm _,bm _,λ_ h=>h,rfl⟩
 | .sym x::r,out,a=>⟨bm _,bm _,λ_ h=>h,rfl⟩
 | .close p::r,out,a=>by
  unfold bP;split
  ·obtain⟨h1,h2,h3,h4⟩:=@sd r (out++[(3,p)]) (a+1)
   grind
  grind
def qx(g:d_):TD->Prop
 | .sym x=>right g.aR g.bC x=aD
 | .close p=>0<=p/\p<(g.aF.length:Int)
theorem qY{g:d_}:∀{st:List TD} {out:List dv} {a:Nat},(∀d∈st,qx g d)->∀d∈(bP st out a).1,qx g d
 |[],out,a,h=>h
 | .sym x::r,out,a,h=>h
 | .close p::r,out,a,h=>by
  unfold bP;split;exact qY λd hd=>h d (kC _ hd);exact λd hd=>h d (kC _ hd)
theorem As{g:d_}(hg:bX g=0){p:Int}(h0:0<=p)(h1:p<(g.aF.length:Int)){r:List TD}(h:∀d∈r,qx g d):∀d∈opened g.aF p r,qx g d:=by
 intro d hd;unfold opened at hd;rw[fj]at hd;rcases hd with hd|hd
 ·obtain⟨x,hx,rfl⟩:=fa.1 hd
  exact((cP hg).2.2.2.2.2 _ (xB h0 h1)).2.2.2 x hx
 rcases dx.1 hd with rfl|hd
 exact⟨h0,h1⟩;exact h d hd
def aaN(l:List aT.Prod)(nx:Int->Int):Prop:=∀n,0<=nx n->nx n<(l.length:Int)/\((0<=n)->(db l (nx n)).1=n)
theorem uf{nx:Int->Int}:∀{f:Nat} {st:List TD} {out:List dv} {a:Nat},(fA l nx f st out a).2.2.2=0\/(fA l nx f st out a).2.2.2=13\/(fA l nx f st out a).2.2.2=14
 |0,st,out,a=> .inr (.inr I)
 | f +1,st,out,a=>by
  unfold fA;split;exact .inr (.inr I);split
  ·split
   simp;split;exact .inr (.inl I);split;exact uf;exact .inr (.inr I)
  simp
theorem xJ{nx:Int->Int}{f:Nat}{st:List TD}{out:List dv}{a:Nat}{R:List TD×List dv×Nat×Int}(h:fA l nx (f+1) st out a=R):
    ((bP st out a).2.2.2=aE/\R.2.2.2=14)\/((bP st out a).2.2.2=aD/\
      (((bP st out a).1=[]/\R=([],(bP st out a).2.1,(bP st out a).2.2.1,0))\/
       ∃ x r,(bP st out a).1= .sym x::r/\((x.1=1/\R=(.sym x::r,(bP st out a).2.1,(bP st out a).2.2.1,0))\/(x.1≠1/\nx x.2<0/\R.2.2.2=13)\/
         (x.1≠1/\0<=nx x.2/\((((bP st out a).2.2.1+1<=2000/\(opened l (nx x.2) r).length<=60)/\fA l nx f (opened l (nx x.2) r) ((bP st out a).2.1++[(1,nx x.2)]) ((bP st out a).2.2.1+1)=R)\/R.2.2.2=14))))):=by
  unfold fA at h
  cases hc:(bP st out a).2.2.2 with
  |false=>grind
  | true=>
    rw[hc,if_neg (by simp)]at h;refine .inr ⟨rfl,?_⟩;rcases xI hc with he|⟨x,r,he⟩
    simp_all
    grind
theorem uh{nx:Int->Int}:∀{f:Nat} {st:List TD} {out:List dv} {a:Nat} {R:List TD×List dv×Nat×Int},fA l nx f st out a=R->R.2.2.2=0->R.1=[]\/∃x r,R.1= .sym x::r/\x.1=1
 |0,st,out,a,R,h,h0=>by subst h;cases h0
 |f+1,st,out,a,R,h,h0=>by
  rcases xJ h with⟨_,e⟩|⟨_,⟨_,rfl⟩|⟨x,r,_,⟨c,rfl⟩|⟨_,_,e⟩|⟨_,_,⟨_,e⟩|e⟩⟩⟩
  omega;exact .inl I;exact .inr ⟨x,r,rfl,c⟩;omega;exact uh e h0;omega
theorem IB{g:d_}(hg:bX g=0){nx:Int->Int}(hn:aaN g.aF nx):∀{f:Nat} {st:List TD} {out:List dv} {a:Nat} {R:List TD×List dv×Nat×Int},fA g.aF nx f st out a=R->R.2.2.2=0->(∀d∈st,qx g d)->∀d∈R.1,qx g d
 |0,st,out,a,R,h,h0,_=>by subst h;cases h0
 | f +1,st,out,a,R,h,h0,hs=>by
  have hc:=qY (out:=out) (a:=a) hs;rcases xJ h with⟨_,e⟩|⟨_,⟨_,rfl⟩|⟨x,r,e1,⟨c,rfl⟩|⟨_,_,e⟩|⟨_,c,⟨_,e⟩|e⟩⟩⟩
  omega;exact λd hd=>nomatch hd;rw[e1]at hc;exact hc;omega
  ·rw[e1]at hc
   exact IB hg hn e h0 (As hg c (hn _ c).1 λd hd=>hc d (kC _ hd))
  omega
theorem yP{nx:Int->Int}:∀{f:Nat} {st:List TD} {out:List dv} {a:Nat} {R:List TD×List dv×Nat×Int},fA l nx f st out a=R->R.2.2.2=0->st.length<=60->a<=2000->R.1.length<=60/\R.2.2.1<=2000/\R.2.1.length+a=out.length+R.2.2.1/\a<=R.2.2.1
 |0,st,out,a,R,h,h0,_,_=>by subst h;cases h0
 | f +1,st,out,a,R,h,h0,h1,h2=>by
  obtain⟨z1,z2,z3,z4⟩:=@sd st out a;rcases xJ h with⟨_,e⟩|⟨ec,⟨_,rfl⟩|⟨x,r,e1,⟨c,rfl⟩|⟨_,_,e⟩|⟨_,c,⟨cc,e⟩|e⟩⟩⟩
  omega
  simp_all
  grind
  omega
  ·obtain⟨y1,y2,y3,y4⟩:=yP e h0 cc.2 cc.1
   grind
  omega
theorem xK{nx:Int->Int}{st:List TD}{seen:Nat}{t:Int}{R:Int×List TD×List dv}(h:jR l nx st seen t=R):
 (R.1=13\/R.1=14)/\R.2=([],[])\/∃x r gj a1,fA l nx 2001 st [] 0=(.sym x::r,gj,a1,0)/\x.1=1/\x.2=t/\a1+1<=2000/\(bP r (gj++[(2,(seen:Int))]) (a1+1)).2.2.2=aD/\
  R=(0,(bP r (gj++[(2,(seen:Int))]) (a1+1)).1,(bP r (gj++[(2,(seen:Int))]) (a1+1)).2.1):=by
 unfold jR at h
 cases hd:fA l nx 2001 st [] 0 with
 |mk st1 R1=>
 obtain⟨gj,a1,e⟩:=R1;rw[hd]at h;dsimp only at h;have he:=@uf l nx 2001 st [] 0;rw[hd]at he;dsimp only at he
 by_cases c0:e=0
 ·subst c0
  rw[if_neg (by simp)]at h;rcases uh hd rfl with e1|⟨x,r,e1,e2⟩
  grind;dsimp only at e1;subst e1;dsimp only at h
  by_cases c1:x.2≠t
  rw[if_pos c1]at h;subst h;exact .inl ⟨.inl I,rfl⟩;rw[if_neg c1]at h;split at h
  ·rename_i c2
   subst h;exact .inr ⟨x,r,gj,a1,rfl,e2,by simpa using c1,c2.1,c2.2,rfl⟩
  subst h;exact .inl ⟨.inr I,rfl⟩
 grind
theorem aaO{g:d_}(hg:bX g=0){nx:Int->Int}(hn:aaN g.aF nx){st:List TD}{seen:Nat}{t:Int}{R:Int×List TD×List dv}(h:jR g.aF nx st seen t=R)(h0:R.1=0)(hs:∀d∈st,qx g d)(hl:st.length<=60):(∀d∈R.2.1,qx g d)/\R.2.1.length<=60/\R.2.2.length<=2000:=by
 rcases xK h with⟨e|e,_⟩|⟨x,r,gj,a1,hd,_,_,h4,h5,rfl⟩
 omega;omega;have y1:=IB hg hn hd I hs;obtain⟨y2,y3,y4,y5⟩:=yP hd rfl hl J;obtain⟨z1,z2,z3,z4⟩:=@sd r (gj++[(2,(seen:Int))]) (a1+1);dsimp only at y1 y2 y3 y4 y5⊢;simp only[bK,c_,List.length_nil]at z4 y2 y4;have:=z3 h5 J;exact⟨qY λd hd=>y1 d (kC _ hd),by omega,by omega⟩
theorem GS{nx:Int->Int}{st:List TD}{R:Int×List dv}(h:jm l nx st=R):((R.1=13\/R.1=14)/\R.2=[])\/∃a1,fA l nx 2001 st [] 0=([],R.2,a1,0)/\R.1=0:=by
 unfold jm at h
 cases hd:fA l nx 2001 st [] 0 with
 |mk st1 R1=>
 obtain⟨gj,a1,e⟩:=R1;rw[hd]at h;dsimp only at h;have he:=@uf l nx 2001 st [] 0;rw[hd]at he;dsimp only at he
 by_cases c0:e=0
 ·subst c0
  rw[if_neg (by simp)]at h;rcases uh hd rfl with e1|⟨x,r,e1,e2⟩
  dsimp only at e1;subst e1;subst h;exact .inr ⟨a1,rfl,rfl⟩;dsimp only at e1;subst e1;subst h;exact .inl ⟨.inl I,rfl⟩
 rw[if_pos c0]at h;subst h;exact .inl ⟨by rcases he with h|h|h;exact absurd h c0;exact .inl h;exact .inr h,rfl⟩
end
end e8
namespace bZ
open Go.RowKit cU dM aT dL e8
def tdB:TD->Bool| .sym _=>aE| .close _=>aD
def tdN:TD->Int| .sym _=>0| .close p=>p
def tdX:TD->dv| .sym x=>x| .close _=>(0,0)
def wy(d:TD):List Value:=[.bool (tdB d),av az (tdN d),av az (tdX d).1,av az (tdX d).2]
theorem IC(d:TD):(wy d).length=4:=rfl
theorem ID(l:List TD):∀u∈l.flatMap wy,u.oneCell'=true:=by
 intro u hu;obtain⟨d,_,h⟩:=Ad.1 hu;simp only[wy,dx,fl,or_false]at h;rcases h with rfl|rfl|rfl|rfl<;>rfl
def Ke(d:TD):Value:=aQ (wy d).toArray
theorem GU(x:dv)(w:World):(df 159 #[(2,aQ (ep x).toArray)]).run aB w= .ok (Ke (.sym x)) w:=by
 unfold Ke wy ep tdB tdN tdX;go_simp
theorem Tp(p:Int)(w:World):(df 159 #[(0,.bool aD),(1,av az p)]).run aB w= .ok (Ke (.close p)) w:=by
 unfold Ke wy tdB tdN tdX;go_simp
def sO(vt:Value)(seen over:Int)(done:Bool):Value:=aQ #[vt,av az seen,av az over,.bool done]
def Lb(t n:Int)(vp vt vo:Value)(dD:Nat):Array Value:=#[av az t,av az n,vp,vt,vo,av az (dD:Int)]
abbrev xL(gw:Nat)(t n:Int)(vp vt vo:Value)(dD:Nat):b_:=aP gw (Lb t n vp vt vo dD) 260
abbrev wk(vt:Value)(st:List TD):b_:=a_ 159 4 vt st.length (st.reverse.flatMap wy)
abbrev kM(vo:Value)(l:List dv):b_:=a_ 168 2 vo l.length (l.flatMap ep)
theorem Au(k n:Int)(w:World):(df 168 #[(0,av az k),(1,av az n)]).run aB w= .ok (aQ (ep (k,n)).toArray) w:=by
 unfold ep;go_simp
theorem Ra{P:Program}{n:Nat}{W:bR}{fr:Fr}{L:List b_}{dst:Option Tmp}{t ty:TypeId}{pos:String}{after:Array Edge}{guard:Option (Nat×Bool)}{x:Operand}{f:Nat}{v u:Value}(hx:ev fr x=aj v)(h:∀w,(WH t v f).run P w= .ok u w):RR P n W ⟨dst,.field t x f,ty,pos,after,guard⟩ fr L u:= .mk λa w hr _=>by
 simp[execOp,hr.ev hx,h]
theorem Tq(d:TD)(w:World):(WH 159 (Ke d) 1).run aB w= .ok (av az (tdN d)) w:=by
 unfold Ke wy;kernel_rfl
end bZ
namespace bZ
open Go.RowKit cU dM dg
theorem Xz{j:Nat}(hj:j<64):2^j<18446744073709551616:=by
 have:=Dg (a:=2) aiz hj
 rwa [show(2:Nat)^64=18446744073709551616 from I]at this
theorem ag2{P:Program}(j:Nat)(hj:j<64)(w:World):(il .shl .u64 1 .i64 (j:Int)).run P w= .ok (.int .u64 ((2^j:Nat):Int)) w:=by
 have e:min j 64=j:=by omega
 have e2:(2:Int)^j=((2^j:Nat):Int):=by rw[Int.natCast_pow];rfl
 have e3:tp.wrap ((1:Int)*2^j)=((2^j:Nat):Int):=by
  have:=Xz hj;rw[e2,rK,Int.one_mul];generalize 2^j=y at*;omega
 have h0:¬((j:Int)<0):=by omega
 simp only[il,if_neg h0,lF,dB,e,e3,Sem.run_pure]
theorem Lc:∀b:Nat,b<256->bits .and .i64 (b:Int) 63=((b %64:Nat):Int):=by decide+kernel
theorem XA(c:C4)(i:Nat)(h:i<4):(dR c).toArray[i]?=aj (.int .u64 ((c.get i).toNat:Int)):=Dl c i h
theorem XB(c:C4)(i:Nat)(h:i<4)(v:BitVec 64):(dR c).toArray.setIfInBounds i (.int .u64 (v.toNat:Int))=(dR (c.set i v)).toArray:=by
 match i,h with
 |0,_=>rfl
 |1,_=>rfl
 |2,_=>rfl
 |3,_=>rfl
attribute [local irreducible] Op.shift Go.bits in
theorem se(c:C4)(b:Nat)(hb:b<256)(w:World):Calls aB 105 #[oa c,av az (b:Int)] w (cz (ret (.bool (c.mem b))) w):=by
 refine enter (args:=[aQ #[v64 c.a,v64 c.b,v64 c.c,v64 c.d],av az (b:Int)]) (n:=14) Tryz.func105 I I I ?_;refine b9 (bz (bQ I I I λg=>?_));have h1:b/64<4:=by omega
 have hc:(#[v64 c.a,v64 c.b,v64 c.c,v64 c.d]:Array Value)[0+b/64]?=aj (.int .u64 ((c.get (b/64)).toNat:Int)):=by rw[cV];exact Dl c _ h1
 have hx:=(c.get (b/64)).isLt;have A7:∀w,(il .shr .i64 (b:Int) .u64 6).run aB w= .ok (av az ((b/64:Nat):Int)) w:=λw=>W4 b 6 64 .i64 .u64 I aiz w;have Ka:∀w,(il .shr .u64 ((c.get (b/64)).toNat:Int) .i64 ((b %64:Nat):Int)).run aB w= .ok (.int .u64 (((c.get (b/64)).toNat/2^(b %64):Nat):Int)) w:=λw=>W4 _ (b %64) 64 .u64 .i64 I J w;have hm:c.mem b=decide ((c.get (b/64)).toNat/2^(b %64) %2=1):=by unfold C4.mem;rw[WV]
 rw[hm];have hd:(c.get (b/64)).toNat/2^(b %64)<=(c.get (b/64)).toNat:=Af _ _;have qM:=Lc b hb;generalize (c.get (b/64)).toNat=x at*;generalize b %64=k at*;generalize b/64=i at*;generalize x/2^k=y at*;have ha:bits .and .u64 (y:Int) 1=((y %2:Nat):Int):=by
  have:=bits_and_u64_nat y 1 J aiz;rw[Nat.and_one_is_mod]at this;exact this
 repeat(first|refine GC ?_|refine gV (oH I I A7) ?_|refine gV (gY bL.eq aK.ty I I h1) ?_|refine gV (aC aK.ty I (aH (i:=0) I hc)) ?_|refine gV (mV I I qM) ?_|refine gV (oH I I Ka) ?_|refine gV (mV I I ha) ?_|refine gV (de I I I) ?_|refine GB ?_)
 exact dC I I (by congr 1;rw[decide_eq_decide];omega)
attribute [local irreducible] Op.shift Go.bits in
theorem sf(c:C4)(b:Nat)(hb:b<256)(g:Nat)(w:World)(B:bR)(hm:Mem B [aP g (dR c).toArray 233] w):
 Calls aB 107 #[aJ (aj ⟨g,0,ak⟩),av az (b:Int)] w (dc ⟨λ(_:Unit)=>True,λ_=> .tuple #[],λ_=>[aP g (dR (c.bit b)).toArray 233]⟩ B):=by
 refine dA hm (args:=[aJ (aj ⟨g,0,ak⟩),av az (b:Int)]) (n:=16) Tryz.func107 I I I ?_;clear hm;have h1:b/64<4:=by omega
 have hc:(dR c).toArray[0+b/64]?=aj (.int .u64 ((c.get (b/64)).toNat:Int)):=by rw[cV];exact XA c _ h1
 have A7:∀w,(il .shr .i64 (b:Int) .u64 6).run aB w= .ok (av az ((b/64:Nat):Int)) w:=λw=>W4 b 6 64 .i64 .u64 I aiz w;have qM:=Lc b hb;have WE:=ag2 (P:=aB) (b %64) J;have sX:=XB c (b/64) h1 (c.get (b/64)|||ik 64 (2^(b %64)));have aaP:c.bit b=c.set (b/64) (c.get (b/64)|||ik 64 (2^(b %64))):=rfl;rw[<-aaP]at sX;have Kf:bits .or .u64 ((c.get (b/64)).toNat:Int) ((2^(b %64):Nat):Int)=(((c.get (b/64))|||ik 64 (2^(b %64))).toNat:Int):=by
  have hp:=Xz (j:=b %64) J;rw[bits_or_u64_nat _ _ (c.get (b/64)).isLt hp,BitVec.toNat_or,CG,Nat.mod_eq_of_lt hp]
 have hm0:b %64<64:=by omega
 generalize c.get (b/64)|||ik 64 (2^(b %64))=z at*
 generalize (c.get (b/64)).toNat=x at*;generalize 2^(b %64)=y at*;generalize b %64=k at*;generalize b/64=i at*;generalize c.bit b=c' at*;have hsz:dj (0+i) (dR c).toArray.size=true:=by rw[Nat.blt_eq];show 0+i<4;omega
 rw[<-cV i]at sX;refine dK ([]) (.calm 0 (.calm 1 (.calm 2 (.calm 3 (.calm 4 (.calm 6 (.calm 7 (.calm 8 (.calm 10 (.one 5 (.calm 9 (.calm 11 (.one 12 (.done)))))))))))))) (bV []) ?_
 repeat(first|refine GW ?_|(refine GN ?_;first|refine QW (oH I I A7) ?_|refine QW (gY bL.eq aK.ty I I h1) ?_|refine QW (mV I I qM) ?_|refine QW (CW I I WE) ?_))
 refine aL I (du (aC aK.ty I (aH (i:=0) I hc)) I I I (aM (bV []) ?_))
 repeat(first|refine GW ?_|(refine GN ?_;first|refine QW (ym I I Kf) ?_|refine QW (gY bL.eq aK.ty I I h1) ?_))
 refine aL I (bU (i:=0) I I I I I hsz (aM (bV []) ?_))
 try refine GW ?_
 try refine GA ?_
 exact kY I λw hm=>hm.cB (S:=⟨λ(_:Unit)=>True,λ_=> .tuple #[],λ_=>[aP g (dR c').toArray 233]⟩) () trivial [0] aiz (by rw[<-sX];rfl)
end bZ
namespace ef
open dg fZ Go.Lib
def ui(l:List Int):List Int:=l.mergeSort λx y=>decide (x<=y)
def qy(a b:List Int):List Int:=compact (ui (a++b))
theorem IE(l:List Int):(ui l).Pairwise (· <= ·):=by
 have:=List.pairwise_mergeSort (le:=λx y:Int=>decide (x<=y)) (λa b c=>by simp;omega) (λa b=>by simp;omega) l;exact this.imp (by simp)
theorem sP{d:Array Int}(hs:∀i j,i<=j->j<d.size->d[i]! <=d[j]!):∀m,m<=d.size->(compactUpTo d m).Pairwise (· < ·)/\(∀x,x∈compactUpTo d m↔∃j,j<m/\d[j]! =x)
 |0,_=>⟨by unfold compactUpTo;simp,λx=>by unfold compactUpTo;simp⟩
 | m + 1,hm=>by
  obtain⟨h1,h2⟩:=sP hs m J;rw[compactUpTo_succ]
  by_cases hk:keeps d m=aD
  ·rw[if_pos hk]
   have mT:m=0\/d[m]! ≠d[m-1]! :=by unfold keeps at hk;simpa using hk
   refine⟨List.pairwise_append.2 ⟨h1,WK _ _,λx hx y hy=>?_⟩,λx=>?_⟩
   ·rw[dQ.1 hy]
    obtain⟨j,hj,rfl⟩:=(h2 x).1 hx;have a1:=hs j (m-1) J J;have a2:=hs (m-1) m J J;rcases mT with h0|h0
    omega;omega
   rw[fj,dQ,h2]
   constructor
   ·rintro(⟨j,hj,rfl⟩|rfl)
    exact⟨j,by omega,rfl⟩;exact⟨m,by omega,rfl⟩
   rintro⟨j,hj,rfl⟩
   by_cases c:j=m
   subst c;exact .inr I;exact .inl ⟨j,by omega,rfl⟩
  rw[if_neg hk,eG];refine⟨h1,λx=>?_⟩;rw[h2]
  constructor
  rintro⟨j,hj,rfl⟩;exact⟨j,by omega,rfl⟩;rintro⟨j,hj,rfl⟩
  by_cases c:j=m
  ·subst c
   have mT:¬(j=0\/d[j]! ≠d[j-1]!):=by unfold keeps at hk;simpa using hk
   have e:d[j]! =d[j-1]! :=by
    rcases adI (d[j]! =d[j-1]!)with h|h
    exact h;exact absurd (.inr h) mT
   have:j≠0:=λh=>mT (.inl h);exact⟨j-1,by omega,e.symm⟩
  exact⟨j,by omega,rfl⟩
theorem OC{l:List Int}(h:l.Pairwise (· <= ·)):∀i j,i<=j->j<l.toArray.size->l.toArray[i]! <=l.toArray[j]! :=by
 intro i j sM hj;have rB:j<l.length:=by simpa using hj
 rw[getElem!_pos l.toArray i (by simp;omega),getElem!_pos l.toArray j hj]
 by_cases c:i=j
 subst c;exact Int.le_refl _;exact Ij.1 h i j J rB J
theorem Cf(a b:List Int):(qy a b).Pairwise (· < ·)/\∀x,x∈qy a b↔x∈a\/x∈b:=by
 have hs:=OC (IE (a++b));obtain⟨h1,h2⟩:=sP hs (ui (a++b)).length (by simp);refine⟨h1,λx=>?_⟩;unfold qy compact;rw[h2,<-fj,<-List.mem_mergeSort (l:=a++b) (le:=λx y:Int=>decide (x<=y))];show _↔x∈ui (a++b)
 rw[g_]
 constructor
 rintro⟨j,hj,rfl⟩;exact⟨j,hj,by rw[getElem!_pos _ j (by simpa using hj)];rfl⟩;rintro⟨j,hj,rfl⟩;exact⟨j,hj,by rw[getElem!_pos _ j (by simpa using hj)];rfl⟩
def GV(n:Nat)(l:List Int):Prop:=l.Pairwise (· < ·)/\∀x∈l,0<=x/\x<n
theorem jF{n:Nat}{l:List Int}(h:GV n l):l.length<=n:=by
 have key:∀(l:List Int) (lo:Int),l.Pairwise (· < ·)->(∀x∈l,lo<=x/\x<n)->lo<=n->(l.length:Int)<=n-lo:=by
  intro l
  induction l with
  |nil=>intro lo _ _ h;show(0:Int)<=_;omega
  |cons x r ih=>
   intro lo hp hx _;rw[WN]at hp;have h1:=hx x (gZ ..);have:=ih (x+1) hp.2 (λy hy=>⟨by have:=hp.1 y hy;omega,(hx y (kC _ hy)).2⟩) J;rw[c_];omega
 have:=key l 0 h.1 h.2 J;omega
theorem vW(n:Nat):GV n []:=⟨adK,λx h=>by cases h⟩
theorem nF{n m:Nat}{l:List Int}(h:GV n l)(hm:n<=m):GV m l:=⟨h.1,λx hx=>by have:=h.2 x hx;omega⟩
theorem sg{n:Nat}{a b:List Int}(ha:∀x∈a,0<=x/\x<n)(hb:∀x∈b,0<=x/\x<n):GV n (qy a b):=
 ⟨(Cf a b).1,λx hx=>((Cf a b).2 x|>.1 hx).elim (ha x) (hb x)⟩
theorem DL:∀{a b:List Int},a.Pairwise (· < ·)->b.Pairwise (· < ·)->(∀x,x∈a↔x∈b)->a=b
 |[],[],_,_,_=>rfl
 |[],y::b,_,_,h=>by have:=(h y).2 (gZ ..);cases this
 |x::a,[],_,_,h=>by have:=(h x).1 (gZ ..);cases this
 | x ::a,y::b,ha,hb,h=>by
  rw[WN]at ha hb;have hxy:x=y:=by
   rcases dx.1 ((h x).1 (gZ ..))with e|e
   exact e;rcases dx.1 ((h y).2 (gZ ..))with e'|e'
   exact e'.symm;have h1:=hb.1 x e;have h2:=ha.1 y e';omega
  subst hxy;rw[DL ha.2 hb.2 λz=>?_]
  constructor
  ·intro hz
   rcases dx.1 ((h z).1 (kC _ hz))with e|e
   subst e;exact absurd (ha.1 z hz) J;exact e
  intro hz;rcases dx.1 ((h z).2 (kC _ hz))with e|e
  subst e;exact absurd (hb.1 z hz) J;exact e
structure PS where
 aZ:List C4
 rules:List Int
 follow:List (List Int)
 last:List Bool
structure Shape where
 empty:Bool
 first:List Int
 last:List Int
def fh(mJ:List (List Int))(last first:List Int):List (List Int):=last.foldl (λf x=>f.set x.toNat (qy (f.getD x.toNat []) first)) mJ
def cK(bO:Int):Re->PS->Shape×PS
  | .empty,p=>(⟨aD,[],[]⟩,p)
  | .none,p=>(⟨aE,[],[]⟩,p)
  | .byte c,p=>(⟨aE,[(p.aZ.length:Int)],[(p.aZ.length:Int)]⟩,⟨p.aZ++[c],p.rules++[bO],p.follow++[[]],p.last++[aE]⟩)
  | .star a,p=>(⟨aD,(cK bO a p).1.first,(cK bO a p).1.last⟩,{(cK bO a p).2 with follow:=fh (cK bO a p).2.follow (cK bO a p).1.last (cK bO a p).1.first})
  | .Ib a b,p=>(⟨(cK bO a p).1.empty||(cK bO b (cK bO a p).2).1.empty,qy (cK bO a p).1.first (cK bO b (cK bO a p).2).1.first,qy (cK bO a p).1.last (cK bO b (cK bO a p).2).1.last⟩,(cK bO b (cK bO a p).2).2)
  | .Ia a b,p=>
    (⟨(cK bO a p).1.empty&&(cK bO b (cK bO a p).2).1.empty,
      if(cK bO a p).1.empty then qy (cK bO a p).1.first (cK bO b (cK bO a p).2).1.first else(cK bO a p).1.first,
      if(cK bO b (cK bO a p).2).1.empty then qy (cK bO a p).1.last (cK bO b (cK bO a p).2).1.last else(cK bO b (cK bO a p).2).1.last⟩,
     {(cK bO b (cK bO a p).2).2 with follow:=fh (cK bO b (cK bO a p).2).2.follow (cK bO a p).1.last (cK bO b (cK bO a p).2).1.first})
structure Ld(p:PS):Prop where
 rules:p.rules.length=p.aZ.length
 follow:p.follow.length=p.aZ.length
 last:p.last.length=p.aZ.length
 ris:∀l∈p.follow,GV p.aZ.length l
theorem kG(mJ:List (List Int))(last first:List Int):(fh mJ last first).length=mJ.length:=by
 unfold fh
 induction last generalizing mJ with
 |nil=>rfl
 |cons x r ih=>rw[WT,ih,Io]
theorem sh{n:Nat}{first:List Int}(hf:∀x∈first,0<=x/\x<n):∀(last:List Int) (mJ:List (List Int)),(∀l∈mJ,GV n l)->∀l∈fh mJ last first,GV n l
 |[],mJ,h=>h
 | x ::r,mJ,h=>by
  show ∀l∈fh (mJ.set x.toNat (qy (mJ.getD x.toNat []) first)) r first,GV n l
  refine sh hf r _ λl hl=>?_;rcases WJ hl with hl|rfl
  exact h l hl;refine sg (λy hy=>?_) hf
  by_cases c:x.toNat<mJ.length
  ·rw[cH,bD c]at hy
   exact(h _ (cD c)).2 y hy
  rw[cH,List.getElem?_eq_none J]at hy
  cases hy
theorem ly(bO:Int):∀(e:Re) (p:PS),Ld p->Ld (cK bO e p).2/\p.aZ.length<=(cK bO e p).2.aZ.length/\(cK bO e p).2.aZ.length<=p.aZ.length+e.size/\GV (cK bO e p).2.aZ.length (cK bO e p).1.first/\GV (cK bO e p).2.aZ.length (cK bO e p).1.last
 | .empty,p,h=>⟨h,bm _,Ae _ _,vW _,vW _⟩
 | .none,p,h=>⟨h,bm _,Ae _ _,vW _,vW _⟩
 | .byte c,p,h=>by
  have h1:GV (p.aZ++[c]).length [(p.aZ.length:Int)]:=⟨WK _ _,λx hx=>by rw[dQ.1 hx,bK,lO];omega⟩;refine⟨⟨?_,?_,?_,λl hl=>?_⟩,?_,?_,h1,h1⟩;show(p.rules++[bO]).length=(p.aZ++[c]).length;rw[bK,bK,h.rules];rfl
  show(p.follow++[[]]).length=(p.aZ++[c]).length;rw[bK,bK,h.follow];rfl
  show(p.last++[aE]).length=(p.aZ++[c]).length;rw[bK,bK,h.last];rfl
  ·have hl:l∈p.follow++[[]]:=hl
   show GV (p.aZ++[c]).length l
   rcases fj.1 hl with hl|hl
   exact nF (h.ris l hl) (by simp);rw[dQ.1 hl];exact vW _
  show p.aZ.length<=(p.aZ++[c]).length;simp
  show(p.aZ++[c]).length<=_;simp[Re.size]
 | .star a,p,h=>by
  obtain⟨h1,h2,h3,h4,h5⟩:=ly bO a p h;exact⟨⟨h1.rules,(kG _ _ _).trans h1.follow,h1.last,sh h4.2 _ _ h1.ris⟩,h2,by show _<=p.aZ.length+(a.size+1);exact fv h3 J,h4,h5⟩
 | .Ib a b,p,h=>by
  obtain⟨h1,h2,h3,h4,h5⟩:=ly bO a p h;obtain⟨k1,k2,k3,k4,k5⟩:=ly bO b _ h1;exact⟨k1,fv h2 k2,by show _<=p.aZ.length+(a.size+b.size+1);exact fv k3 J,sg (nF h4 k2).2 k4.2,sg (nF h5 k2).2 k5.2⟩
 | .Ia a b,p,h=>by
  obtain⟨h1,h2,h3,h4,h5⟩:=ly bO a p h;obtain⟨k1,k2,k3,k4,k5⟩:=ly bO b _ h1;refine⟨⟨k1.rules,(kG _ _ _).trans k1.follow,k1.last,sh k4.2 _ _ k1.ris⟩,fv h2 k2,by show _<=p.aZ.length+(a.size+b.size+1);exact fv k3 J,?_,?_⟩
  ·show GV _ (if _ then _ else _)
   split;exact sg (nF h4 k2).2 k4.2;exact nF h4 k2
  show GV _ (if _ then _ else _)
  split;exact sg (nF h5 k2).2 k5.2;exact k5
end ef
namespace ef
open dg fZ
structure MS where
 ps:PS
 first:List Int
 empty:List Bool
def MS.zero:MS:=⟨⟨[],[],[],[]⟩,[],[]⟩
def fK(last:List Bool)(l:List Int):List Bool:=l.foldl (λb x=>b.set x.toNat aD) last
def wz(i:Nat)(m:MS)(e:Re):MS:=
 ⟨{(cK i e m.ps).2 with last:=fK (cK i e m.ps).2.last (cK i e m.ps).1.last},qy m.first (cK i e m.ps).1.first,m.empty++[(cK i e m.ps).1.empty]⟩
def lp:Nat->MS->List Re->Int×MS
 |_,m,[]=>(0,m)
 |i,m,e::r=>if 200<(wz i m e).ps.aZ.length then(2,.zero)else lp (i+1) (wz i m e) r
abbrev Le(r:Rx):Int:=(l7 r 1 0).1
def jG:List Rx->Int
 |[]=>0
 |r::l=>if Le r≠0 then Le r else jG l
structure OD(m:MS):Prop where
 ps:Ld m.ps
 first:GV m.ps.aZ.length m.first
theorem DN(last:List Bool)(l:List Int):(fK last l).length=last.length:=by
 unfold fK
 induction l generalizing last with
 |nil=>rfl
 |cons x r ih=>rw[WT,ih,Io]
theorem Tr(last:List Bool)(l:List Int){k:Nat}(hk:k<l.length):fK last (l.take (k+1))=(fK last (l.take k)).set l[k].toNat true:=by
 unfold fK;rw[iq hk,Oc];rfl
theorem IF:OD .zero:=⟨⟨rfl,rfl,rfl,λl h=>by cases h⟩,vW _⟩
theorem Rb(i:Nat){m:MS}(h:OD m)(e:Re):OD (wz i m e)/\(wz i m e).ps.aZ.length<=m.ps.aZ.length+e.size:=by
 obtain⟨h1,h2,h3,h4,h5⟩:=ly i e m.ps h.ps;exact⟨⟨⟨h1.rules,h1.follow,(DN _ _).trans h1.last,h1.ris⟩,sg (nF h.first h2).2 h4.2⟩,h3⟩
theorem GY:∀{l:List Rx},jG l=0->∀r∈l,Le r=0
 |[],_,r,hr=>by cases hr
 | q::l,h,r,hr=>by
  rw[jG]at h;split at h;contradiction
  rename_i c
  rcases dx.1 hr with rfl|hr
  simpa using c
  exact GY h r hr
end ef
namespace ef
open dg fZ
structure IG(m:MS):Prop where
 ok:OD m
 rules:∀r∈m.ps.rules,0<=r/\r<m.empty.length
 Cg:m.ps.aZ.length<=200
 some:0<m.empty.length
 qz:m.empty.length<=20
theorem na(bO:Int):∀(e:Re) (p:PS),(∀r∈p.rules,0<=r/\r<=bO)->0<=bO->∀r∈(cK bO e p).2.rules,0<=r/\r<=bO
 | .empty,p,h,_=>h
 | .none,p,h,_=>h
 | .byte c,p,h,h0=>λr hr=>by
  have hr:r∈p.rules++[bO]:=hr;rcases fj.1 hr with hr|hr
  exact h r hr;rw[dQ.1 hr];omega
 | .star a,p,h,h0=>na bO a p h h0
 | .Ib a b,p,h,h0=>na bO b _ (na bO a p h h0) h0
 | .Ia a b,p,h,h0=>na bO b _ (na bO a p h h0) h0
theorem II:∀(es:List Re) (i:Nat) (m m':MS),OD m->m.empty.length=i->(∀r∈m.ps.rules,0<=r/\r<i)->m.ps.aZ.length<=200->lp i m es=(0,m')->OD m'/\m'.empty.length=i+es.length/\(∀r∈m'.ps.rules,0<=r/\r<(i+es.length:Nat))/\m'.ps.aZ.length<=200
 | [],i,m,m',h1,h2,h3,h4,h=>by
  cases h
  exact⟨h1,h2,λr hr=>by have:=h3 r hr;simpa using this,h4⟩
 | e ::r,i,m,m',h1,h2,h3,h4,h=>by
  rw[lp]at h;split at h
  cases h
  rename_i c
  have:=II r (i+1) (wz i m e) m' (Rb i h1 e).1 (by show(m.empty++[_]).length=_;simp[h2]) (λx hx=>by
   have:=na i e m.ps (λr hr=>by have:=h3 r hr;omega) J x hx;omega) J h
  rw[c_];rw[show i+(r.length+1)=i+1+r.length by omega];exact this
theorem Ch{es:List Re}{m:MS}(h0:0<es.length)(h20:es.length<=20)(h:lp 0 .zero es=(0,m)):IG m:=by
 obtain⟨h1,h2,h3,h4⟩:=II es 0 .zero m IF rfl (λr hr=>by cases hr) (bH _) h;rw[cV]at h2 h3;exact⟨h1,λr hr=>by have:=h3 r hr;omega,h4,by omega,by omega⟩
end ef
namespace nb
open dg fZ ef cT
def oZ(c:C4)(l:List Int):C4:=l.foldl (λc x=>c.bit x.toNat) c
def nc(p:PS)(s:C4):Nat->C4
 |0=>C4.zero
 |i+1=>if s.mem i=aD then oZ (nc p s i) (p.follow.getD i [])else nc p s i
def mI(m:MS)(S:List C4):Nat->C4
 |0=>oZ C4.zero m.first
 |n+1=>nc m.ps (S.getD n C4.zero) m.ps.follow.length
def IJ(p:PS)(all:C4)(b:Nat):Nat->C4
 |0=>C4.zero
 |i+1=>if all.mem i=aD/\(p.aZ.getD i C4.zero).mem b=aD then(IJ p all b i).bit i else IJ p all b i
def IK(p:PS)(all:C4)(b:Nat):C4:=IJ p all b p.aZ.length
def kj(p:PS)(s:C4):Nat->Int
 |0=> -1
 |i+1=>if s.mem i=aD/\p.last.getD i aE=aD/\(kj p s i<0\/p.rules.getD i 0<kj p s i)then p.rules.getD i 0 else kj p s i
def wm(p:PS)(s:C4):Int:=kj p s p.aZ.length
structure DM where
 S:List C4
 tags:List Int
def iG(p:PS)(m:DM)(s:C4):Nat×DM:=if s∈m.S then(idx m.S s+1,m)else(m.S.length+1,⟨m.S++[s],m.tags++[wm p s]⟩)
def fL(p:PS)(all:C4)(b:Nat)(r:Row)(m:DM):Row×DM:=
 if IK p all b=C4.zero then(if h:b<256 then r.set b (-1)else r,m)else(if h:b<256 then(r.set b (-1)).set b ((iG p m (IK p all b)).1:Int)else r,(iG p m (IK p all b)).2)
def mv(p:PS)(all:C4):Nat->Nat->Row->DM->Row×DM
 |0,_,r,m=>(r,m)
 |f+1,b,r,m=>if 200<(fL p all b r m).2.S.length+1 then fL p all b r m else mv p all f (b+1) (fL p all b r m).1 (fL p all b r m).2
def pH(m:MS)(n:Nat)(d:DM):Row×DM:=mv m.ps (mI m d.S n) 256 0 (eb 256 0) d
def si(m:MS):Nat->Nat->List Row->DM->Option (List Row×DM)
 |0,_,_,_=>ak
 |f+1,n,R,d=>if n<d.S.length+1 then(if 200<(pH m n d).2.S.length+1 then ak else si m f (n+1) (R++[(pH m n d).1]) (pH m n d).2)else aj (R,d)
def fc:List Bool->Int->Int
 |[],_=> -1
 |b::l,k=>if b=aD then k else fc l (k+1)
def uj(m:MS):Option (List Row×DM):=si m 201 0 [] ⟨[],[fc m.empty 0]⟩
structure DOk(p:PS)(d:DM):Prop where
 nd:d.S.Nodup
 tags:d.tags.length=d.S.length+1
theorem Lf{p:PS}{d:DM}(h:DOk p d)(s:C4):DOk p (iG p d s).2/\d.S.length<=(iG p d s).2.S.length/\(iG p d s).2.S.length<=d.S.length+1/\0<(iG p d s).1/\(iG p d s).1<(iG p d s).2.S.length+1:=by
 unfold iG
 by_cases c:s∈d.S
 ·rw[if_pos c]
  have:=oO c;exact⟨h,bm _,WX _,Dh _,by show idx d.S s+1<d.S.length+1;omega⟩
 rw[if_neg c];refine⟨⟨?_,?_⟩,?_,?_,Dh _,?_⟩
 ·show(d.S++[s]).Nodup
  rw[Df];exact⟨h.nd,by simp,λa ha b hb=>by rw[dQ.1 hb];exact λe=>c (e▸ha)⟩
 ·show(d.tags++[_]).length=(d.S++[s]).length+1
  rw[bK,bK,h.tags];rfl
 show _<=(d.S++[s]).length;simp
 show(d.S++[s]).length<=_;simp
 show d.S.length+1<(d.S++[s]).length+1;simp
theorem aaQ{p:PS}{d:DM}(h:DOk p d)(all:C4)(b:Nat)(r:Row):DOk p (fL p all b r d).2/\d.S.length<=(fL p all b r d).2.S.length/\(fL p all b r d).2.S.length<=d.S.length+1:=by
 unfold fL;split;exact⟨h,bm _,WX _⟩;obtain⟨h1,h2,h3,_⟩:=Lf h (IK p all b);exact⟨h1,h2,h3⟩
theorem Lg{p:PS}(all:C4):∀(f b:Nat) (r:Row) (d:DM),DOk p d->d.S.length+1<=200->DOk p (mv p all f b r d).2/\(mv p all f b r d).2.S.length+1<=201/\d.S.length<=(mv p all f b r d).2.S.length
 |0,_,_,d,h,hl=>⟨h,(by show d.S.length+1<=201;omega),bm _⟩
 | f+1,b,r,d,h,hl=>by
  obtain⟨h1,h2,h3⟩:=aaQ h all b r;rw[mv];split;exact⟨h1,by omega,h2⟩;obtain⟨q1,q2,q3⟩:=Lg all f (b+1) (fL p all b r d).1 _ h1 J;exact⟨q1,q2,by omega⟩
theorem Lh(c:C4)(l:List Int){k:Nat}(hk:k<l.length):oZ c (l.take (k+1))=(oZ c (l.take k)).bit l[k].toNat:=by
 unfold oZ;rw[iq hk,Oc];rfl
end nb
namespace bZ
open Go.Shelf
def Li:Go.Shelf.Ren:=⟨λ|189=>101|125=>129|257=>128|128=>150|129=>151|294=>141|295=>142|296=>143|297=>144|298=>145|299=>146|216=>147|300=>148|301=>149|328=>163|329=>164|330=>165|331=>166|332=>167|215=>160|343=>171|n=>n,λ|28=>27|3=>3|46=>211|0=>0|51=>292|53=>75|4=>4|183=>286|182=>285|131=>112|5=>5|9=>9|218=>301|222=>229|228=>308|229=>309|n=>n,λ|n=>n⟩
theorem Rf:Go.Proofs.Lays.n189 aB Li:={
 mixed:=by kernel_rfl
 f125:=Tryz.func129.trans (congrArg aj (by kernel_rfl))
 f128:=Tryz.func150.trans (congrArg aj (by kernel_rfl))
 f129:=Tryz.func151.trans (congrArg aj (by kernel_rfl))
 f189:=Tryz.func101.trans (congrArg aj (by kernel_rfl))
 f215:=Tryz.func160.trans (congrArg aj (by kernel_rfl))
 f216:=Tryz.func147.trans (congrArg aj (by kernel_rfl))
 f257:=Tryz.func128.trans (congrArg aj (by kernel_rfl))
 f294:=Tryz.func141.trans (congrArg aj (by kernel_rfl))
 f295:=Tryz.func142.trans (congrArg aj (by kernel_rfl))
 f296:=Tryz.func143.trans (congrArg aj (by kernel_rfl))
 f297:=Tryz.func144.trans (congrArg aj (by kernel_rfl))
 f298:=Tryz.func145.trans (congrArg aj (by kernel_rfl))
 f299:=Tryz.func146.trans (congrArg aj (by kernel_rfl))
 f300:=Tryz.func148.trans (congrArg aj (by kernel_rfl))
 f301:=Tryz.func149.trans (congrArg aj (by kernel_rfl))
 f328:=Tryz.func163.trans (congrArg aj (by kernel_rfl))
 f329:=Tryz.func164.trans (congrArg aj (by kernel_rfl))
 f330:=Tryz.func165.trans (congrArg aj (by kernel_rfl))
 f331:=Tryz.func166.trans (congrArg aj (by kernel_rfl))
 f332:=Tryz.func167.trans (congrArg aj (by kernel_rfl))
 f343:=Tryz.func171.trans (congrArg aj (by kernel_rfl))
 t0:=Tryz.underlying0
 a0:=Tryz.isAgg0
 z0:=Tryz.sizeOf0
 v0:=Tryz.zeroValue0
 t3:=Tryz.underlying3
 a3:=Tryz.isAgg3
 z3:=Tryz.sizeOf3
 v3:=Tryz.zeroValue3
 t4:=Tryz.underlying4
 a4:=Tryz.isAgg4
 z4:=Tryz.sizeOf4
 v4:=Tryz.zeroValue4
 t5:=Tryz.underlying5
 a5:=Tryz.isAgg5
 z5:=Tryz.sizeOf5
 v5:=Tryz.zeroValue5
 t9:=Tryz.underlying9
 a9:=Tryz.isAgg9
 z9:=Tryz.sizeOf9
 v9:=Tryz.zeroValue9
 t28:=Tryz.underlying27
 a28:=Tryz.isAgg27
 z28:=Tryz.sizeOf27
 v28:=Tryz.zeroValue27
 t46:=Tryz.underlying211
 a46:=Tryz.isAgg211
 z46:=Tryz.sizeOf211
 v46:=Tryz.zeroValue211
 t51:=Tryz.underlying292
 a51:=Tryz.isAgg292
 z51:=Tryz.sizeOf292
 v51:=Tryz.zeroValue292
 t53:=Tryz.underlying75
 a53:=Tryz.isAgg75
 z53:=Tryz.sizeOf75
 v53:=Tryz.zeroValue75
 t131:=Tryz.underlying112
 a131:=Tryz.isAgg112
 z131:=Tryz.sizeOf112
 v131:=Tryz.zeroValue112
 t182:=Tryz.underlying285
 a182:=Tryz.isAgg285
 z182:=Tryz.sizeOf285
 v182:=Tryz.zeroValue285
 t183:=Tryz.underlying286
 a183:=Tryz.isAgg286
 z183:=Tryz.sizeOf286
 v183:=Tryz.zeroValue286
 t218:=Tryz.underlying301
 a218:=Tryz.isAgg301
 z218:=Tryz.sizeOf301
 v218:=Tryz.zeroValue301
 t222:=Tryz.underlying229
 a222:=Tryz.isAgg229
 z222:=Tryz.sizeOf229
 v222:=Tryz.zeroValue229
 t228:=Tryz.underlying308
 a228:=Tryz.isAgg308
 z228:=Tryz.sizeOf308
 v228:=Tryz.zeroValue308
 t229:=Tryz.underlying309
 a229:=Tryz.isAgg309
 z229:=Tryz.sizeOf309
 v229:=Tryz.zeroValue309}
open Go.Sort Go.RowKit in
theorem slices_Sort_int(BH off cap:Nat)(zs:List Int)(w:World)(hH:Holds (av .i64) w BH off zs.toArray)(hblk:BH<w.heap.size)(hsz:zs.length<4611686018427387904):
 Calls aB 101 #[ap (aj ⟨BH,off,ak⟩) zs.length cap] w λe w'=>
  e= .returned (.tuple #[])/\∃n os,w'=grow (putRow (av .i64) (Sort.ahead w n) BH off (zs.mergeSort λx y=>decide (x<=y)).toArray) os:=Any.slices_Sort_int Rf BH off cap zs w hH hblk hsz
def Fz:Go.Shelf.Ren:=⟨λ|20=>102|n=>n,λ|22=>27|3=>3|4=>4|0=>0|n=>n,λ|n=>n⟩
theorem GZ:Go.Proofs.Lays2.n20 aB Fz:={
 mixed:=by kernel_rfl
 f20:=Tryz.func102.trans (congrArg aj (by kernel_rfl))
 t0:=Tryz.underlying0
 a0:=Tryz.isAgg0
 z0:=Tryz.sizeOf0
 v0:=Tryz.zeroValue0
 t3:=Tryz.underlying3
 a3:=Tryz.isAgg3
 z3:=Tryz.sizeOf3
 v3:=Tryz.zeroValue3
 t4:=Tryz.underlying4
 a4:=Tryz.isAgg4
 z4:=Tryz.sizeOf4
 v4:=Tryz.zeroValue4
 t22:=Tryz.underlying27
 a22:=Tryz.isAgg27
 z22:=Tryz.sizeOf27
 v22:=Tryz.zeroValue27
 i3:=by kernel_rfl}
open Go.RowKit Go.Lib Go.Sort in
theorem slices_Compact_int(BH off cap:Nat)(zs:List Int)(w:World)(hH:Holds (av .i64) w BH off zs.toArray)(hsz:zs.length<=9223372036854775807)(lm:zs.length<=cap):
 Calls aB 102 #[ap (aj ⟨BH,off,ak⟩) zs.length cap] w λe w'=>e= .returned (ap (aj ⟨BH,off,ak⟩) (qo zs).length cap)/\∃q,w'=putRow (av .i64) (Sort.ahead w q) BH off (qo zs++cZ (zs.length-(qo zs).length) 0).toArray:=Any.slices_Compact_int GZ BH off cap zs w hH hsz lm
open Go.RowKit Go.Lib Go.Sort in
theorem slices_Compact_int_empty(a:Option Addr)(cap:Nat)(w:World):
 Calls aB 102 #[ap a 0 cap] w λe w'=>e= .returned (ap a 0 cap)/\w'=w:=Any.slices_Compact_int_empty GZ a cap w
open Go.RowKit Go.Sort in
theorem slices_Sort_int_none(p:Option Addr)(cap:Nat)(w:World):
 Calls aB 101 #[ap p 0 cap] w λe w'=>e= .returned (.tuple #[])/\w'=w:=Any.slices_Sort_int_none Rf p cap w
end bZ
namespace bZ
open Go.RowKit cU dM Go.Sort
theorem Ts(w:World)(n g:Nat)(d:Array Int)(os:Array Obj){k:Nat}(hk:k<w.heap.size)(hg:k≠g):(grow (putRow (av .i64) (Go.Sort.ahead w n) g 0 d) os).heap[k]?=w.heap[k]?:=by
 rw[heap_grow_old _ _ (by rw[size_putRow];exact hk)];show(w.heap.modify g _)[k]?=w.heap[k]?
 rw[Dc,if_neg (λh=>hg h.symm)]
theorem Rg{B:bR}{w:World}{e:TypeId}{g cap m:Nat}{zs:List Int}(hm:Mem B [a_ e 1 (ap (aj ⟨g,0,ak⟩) m cap) m (zs.map (av .i64))] w)(d:Array Int)(hd:d.size=m)(m':Nat)(h':m'<=m)(n:Nat)(os:Array Obj):
 Mem B [a_ e 1 (ap (aj ⟨g,0,ak⟩) m' cap) m' ((d.toList.take m').map (av .i64))] (grow (putRow (av .i64) (Go.Sort.ahead w n) g 0 d) os):=by
 have ho:w.ownsRow 0 e 1 (ap (aj ⟨g,0,ak⟩) m cap) m (zs.map (av .i64)):=hm.get (i:=0) I;obtain⟨hl,hr⟩:=ho;rcases hr with⟨h,_⟩|⟨g2,OE,jM,hv,_,hg,hc,hx,hs,ht⟩
 ·cases h
 cases hv
 have Lj:B.may g:=(hm.owns.all 0 _ I).2 g (.inl I);have hgw:g<w.heap.size:=(jt.1 hg).1;have XC:(grow (putRow (av .i64) (Go.Sort.ahead w n) g 0 d) os).heap[g]?=aj (.cells (putCells (av .i64) 0 d jM) e (0,0)):=by
  rw[heap_grow_old _ _ (by rw[size_putRow];exact hgw)];show(w.heap.modify g (onCells (putCells (av .i64) 0 d)))[g]?=_
  rw[Dc,if_pos I,hg];rfl
 refine⟨⟨hm.low.os,hm.low.tape,hm.low.output,?_,λk hk hx=>?_⟩,eA.one ⟨?_,.inr ⟨g,cap,_,rfl,bH _,XC,by omega,hx,?_,?_⟩⟩ λk hk=>?_⟩
 ·rw[size_grow,size_putRow];exact fv hm.low.size (Ae _ _)
 ·have hkg:k≠g:=λe=>by
   subst e;rcases Lj with h|h
   omega;exact hx h
  rw[Ts w n g d os (jv hk hm.low.size) hkg];exact hm.low.block k hk hx
 ·rw[dI,iU,Array.length_toList,hd];omega
 ·unfold putCells;rw[Array.size_mapIdx];exact hs
 ·apply mR
  intro j;rw[kw,qu]
  by_cases hj:j<m'
  ·have hjc:j<jM.size:=by omega
   rw[if_pos hj,eX,qu,if_pos hj,qn,qn];unfold putCells;rw[Array.getElem?_mapIdx,xt hjc,Option.map_some,if_pos ⟨bH _,by omega⟩,Nat.sub_zero,getElem!_pos d j J,xt (by omega:j<d.size)];rfl
  rw[if_neg hj,eX,qu,if_neg hj];rfl
 ·rcases hk with h|h
  simp only[a_,Value.ownBlock,dr]at h;subst h;exact Lj;exact h.elim
theorem G0{w:World}{e:TypeId}{g cap m:Nat}{zs:List Int}(ho:w.ownsRow 0 e 1 (ap (aj ⟨g,0,ak⟩) m cap) m (zs.map (av .i64))):Holds (av .i64) w g 0 zs.toArray/\g<w.heap.size/\m=zs.length/\m<=cap:=by
 obtain⟨hl,hr⟩:=ho;rcases hr with⟨h,_⟩|⟨g2,OE,jM,hv,_,hg,hc,hx,hs,ht⟩
 cases h
 cases hv
 rw[dI]at hl;refine⟨λj hj=>?_,(jt.1 hg).1,by omega,hc⟩;have rB:j<zs.length:=by simpa using hj
 have hcj:jM[j]?=aj (av az zs[j]):=by
  have:=congrArg (λl=>l[j]?) ht;rw[kw,qu,if_pos J,qn,eX,bD rB]at this;exact this
 refine⟨?_,?_⟩;rw[cell_of_row w g (0+j) _ _ _ hg,cV,hcj,getElem!_pos zs.toArray j hj];rfl;unfold World.frozen?;rw[hg];simp
def ui(l:List Int):List Int:=l.mergeSort λx y=>decide (x<=y)
theorem Lk(v:Value)(l:List Int)(w:World)(B:bR)(hm:Mem B [a_ 3 1 v l.length (l.map (av .i64))] w)(hl:l.length<4611686018427387904):
 Calls aB 101 #[v] w (dc ⟨λ(_:Unit)=>True,λ_=> .tuple #[],λ_=>[a_ 3 1 v l.length ((ui l).map (av .i64))]⟩ B):=by
 have ho:w.ownsRow 0 3 1 v l.length (l.map (av .i64)):=hm.get (i:=0) I;have zZ:=ho;rcases ho.2 with⟨rfl,h0⟩|⟨g,cap,jM,rfl,_,hg,hc,hx,hs,ht⟩
 ·refine(slices_Sort_int_none ak 0 w).mono λe w' ⟨he,hw⟩=>⟨(),trivial,he,?_⟩
  obtain rfl:l=[]:=WL.1 h0;rw[hw];exact(by simpa[ui]using hm)
 ·obtain⟨h1,h2,h3,h4⟩:=G0 zZ
  refine(slices_Sort_int g 0 cap l w h1 h2 hl).mono λe w' ⟨he,n,os,hw⟩=>⟨(),trivial,he,?_⟩;have hlen:(ui l).length=l.length:=WM _;have:=Rg hm (ui l).toArray (by simp[hlen]) l.length (bm _) n os;rw[gK (by simp[hlen])]at this;rw[hw];exact this
theorem DO(v:Value)(l:List Int)(w:World)(B:bR)(hm:Mem B [a_ 3 1 v l.length (l.map (av .i64))] w):
 Calls aB 102 #[v] w (dc ⟨λ(_:Value)=>True,λv'=>v',λv'=>[a_ 3 1 v' (qo l).length ((qo l).map (av .i64))]⟩ B):=by
 have ho:w.ownsRow 0 3 1 v l.length (l.map (av .i64)):=hm.get (i:=0) I;have zZ:=ho;rcases ho.2 with⟨rfl,h0⟩|⟨g,cap,jM,rfl,_,hg,hc,hx,hs,ht⟩
 ·refine(slices_Compact_int_empty ak 0 w).mono λe w' ⟨he,hw⟩=>⟨ap ak 0 0,trivial,he,?_⟩
  obtain rfl:l=[]:=WL.1 h0;rw[hw];exact hm
 ·obtain⟨h1,h2,h3,h4⟩:=G0 zZ
  refine(slices_Compact_int g 0 cap l w h1 (by unfold maxLen at hx;omega) J).mono λe w' ⟨he,n,hw⟩=>⟨ap (aj ⟨g,0,ak⟩) (qo l).length cap,trivial,he,?_⟩;have hle:(qo l).length<=l.length:=Lib.compact_length_le l;have:=Rg hm (qo l++cZ (l.length-(qo l).length) 0).toArray (by simp;omega) (qo l).length hle n #[];rw[grow_empty]at this;simp only[List.toList_toArray,List.take_left]at this;rw[hw];exact this
end bZ
namespace bZ
open Go.RowKit cU dM
theorem Rh(l:List Int):∀u∈l.flatMap cU.eo,u.oneCell'=true:=by
 intro u hu;obtain⟨f,_,h⟩:=Ad.1 hu;simp only[cU.eo,dx,fl,or_false]at h;subst h;rfl
theorem Ll(l:List Int):l.flatMap cU.eo=l.map (.int .i64):=cU.acD l
end bZ
namespace bZ
open Go.RowKit cU dM
theorem Lm(a:Int):(cU.eo a).length=1:=rfl
theorem jS(v:Value)(l:List Int)(w:World)(hs:Sl w v l.length (l.flatMap cU.eo))(hl:l.length*8<=140737488355328):
 Calls aB 53 #[v] w (cz (cL 3 1 l.length (l.flatMap cU.eo) id) w):=by
 obtain⟨base,cap,rfl,lm,j0,eL⟩:=hs;unfold maxLen at j0;refine enter (args:=[ap base l.length cap]) (n:=8) Tryz.func53 I I I ?_;have qZ:∀w',Gr w w'->Sl w' (ap base l.length cap) l.length (l.flatMap cU.eo):=λw' hg=>Sl.gr ⟨base,cap,rfl,lm,j0,eL⟩ hg;clear eL
 cases base with
 | none=>
  repeat(first|refine GC ?_|refine gV (jP bL.eq I I I) ?_|refine GB ?_)
  have h0:l=[]:=by
   cases l with
   |nil=>rfl
   |cons x l=>obtain⟨_,_,h,_,_,h2⟩:=qZ w (Gr.refl w);simp only[iT]at h;obtain⟨rfl,_⟩:=h;obtain⟨b,off,h,_⟩:=h2 (by simp);cases h
  subst h0;refine dF 3 1 ?_;exact cJ I I λw hm=>hm.meets (S:=cL 3 1 0 [] id) _ trivial [0] aiz I
 |some p=>
  repeat(first|refine GC ?_|refine gV (jP bL.eq I I I) ?_|refine GB ?_)
  refine vH I λg=>?_
  try refine GA ?_
  refine eD (i:=0) I (λw' hm=>qZ w' hm.below) I I (kW Lm l) (Rh l) J J I λv'=>?_;rw[eJ]
  try refine GA ?_
  refine cJ I I λw hm=>?_;exact hm.meets (S:=cL 3 1 l.length (l.flatMap cU.eo) id) v' trivial [0] aiz (by simp[cL])
end bZ
namespace bZ
open Go.RowKit cU dM ef
theorem q6(l:List Int):l.flatMap cU.eo=l.map (av .i64):=by
 induction l with
 |nil=>rfl
 |cons x r ih=>rw[mc,ih];rfl
abbrev fW(v:Value)(l:List Int):b_:=a_ 3 1 v l.length (l.map (av .i64))
def sQ(l:List Int):Spec Value:=⟨λ_=>True,λv=>v,λv=>[fW v l]⟩
theorem ie(va vb:Value)(a b:List Int)(w:World)(ha:Sl w va a.length (a.map (av .i64)))(hb:Sl w vb b.length (b.map (av .i64)))(hla:a.length<=1000000)(hlb:b.length<=1000000):
 Calls aB 68 #[va,vb] w (cz (sQ (qy a b)) w):=by
 have iz:=λw' (hg:Gr w w')=>jS va a w' (by rw[q6];exact ha.gr hg) J;refine enter (args:=[va,vb]) (n:=14) Tryz.func68 I I I ?_
 try refine GA ?_
 refine aW (iM aI.en I I) (λw hm=>iz _ hm.below) I I I ?_;intro v1 _;refine zL ?_;rw[q6]
 try refine GA ?_
 refine eD (i:=0) (bytes:=8) (m:=a.length) (xs:=a.map (av .i64)) (k:=b.length) (ys:=b.map (av .i64)) I (adr hb) I I (by rw[dI,kw]) (λu hu=>by obtain⟨x,_,rfl⟩:=fa.1 hu;rfl) J J I λv2=>?_;rw[<-eO,<-bK];refine zL ?_
 try refine GA ?_
 refine bx [0] [] aiz I I (iM aI.en I I) (λw hm hb=>Lk v2 (a++b) w _ hb (by rw[bK];omega)) I I I ?_;intro _ _;refine zL ?_
 try refine GA ?_
 rw[show(a++b).length=(bZ.ui (a++b)).length from(WM _).symm];refine bx [0] [] aiz I I (iM aI.en I I) (λw hm hb=>DO v2 (bZ.ui (a++b)) w _ hb) I I I ?_;intro v3 _;refine zL ?_
 try refine GA ?_
 exact cJ I I λw hm=>hm.meets (S:=sQ (qy a b)) v3 trivial [0] aiz I
end bZ
namespace bZ
open Go.RowKit cU dM ef
def yQ(v:Value):List Value:=[v]
theorem Ln(v:Value):(yQ v).length=1:=rfl
theorem Tt(l:List Value):l.flatMap yQ=l:=by
 induction l with
 |nil=>rfl
 |cons x r ih=>rw[mc,ih];rfl
theorem IL{w w':World}{e:TypeId}{size n:Nat}{v:Value}{xs:List Value}(h:w.ownsRow 0 e size v n xs)(hk:∀k,v.ownBlock=aj k->w'.heap[k]?=w.heap[k]?):w'.ownsRow 0 e size v n xs:=by
 refine⟨h.1,?_⟩;rcases h.2 with hn|⟨g,cap,jM,rfl,B7,hg,rest⟩
 exact .inl hn;exact .inr ⟨g,cap,jM,rfl,B7,by rw[hk g I];exact hg,rest⟩
def adR:vO (List Int):=
 ⟨1,λF w cs l=>∃v,cs=[v]/\(∀x∈l,cU.dX x)/\w.ownsRow 0 3 1 v l.length (l.map (av .i64))/\∀k,v.ownBlock=aj k->F k,λ⟨_,h,_⟩=>by rw[h];rfl,
  λ⟨v,h1,h2,h3,h4⟩ hk=>⟨v,h1,h2,IL h3 λk h=>hk k (h4 k h),h4⟩,λ⟨v,h1,h2,h3,h4⟩ hk=>⟨v,h1,h2,h3,λk h=>hk k (h4 k h)⟩⟩
abbrev xM(v:Value)(vs:List Value):b_:=a_ 27 1 v vs.length (vs.flatMap yQ)
abbrev uk(F:Nat->Prop)(vs:List Value)(mJ:List (List Int)):b_:=dZ adR F (vs.map yQ) mJ
def Ri(vc vr vf vfol vl ve:Value)(bO:Int):Array Value:=#[vc,vr,vf,vfol,vl,ve,av az bO]
theorem aaR{α:Type}{s:vO α}{F F2:Nat->Prop}{fT:List (List Value)}{cs:List Value}{l:List α}{a:α}{w:World}{k:Nat}(he:(dZ s F fT l).holds w)(hs:s.is F2 w cs a)(h2:∀k,F2 k->k<w.heap.size):
 (dZ s (λk=>F k\/F2 k) (fT.set k cs) (l.set k a)).holds w:=by
 obtain⟨⟨h1,h3⟩,h4⟩:=he;refine⟨⟨by simp[h1],λi hi pB=>?_⟩,λk hk=>hk.elim (h4 k) (h2 k)⟩;rw[WR,WR]
 by_cases c:k=i
 ·subst c
  rw[if_pos I,if_pos I];exact s.mono hs λq hq=> .inr hq
 ·rw[if_neg c,if_neg c]
  exact s.mono (h3 i (by simpa using hi) (by simpa using pB)) λq hq=> .inl hq
theorem XD{F:Nat->Prop}{vs:List Value}{mJ:List (List Int)}{w:World}(he:(uk F vs mJ).holds w){k:Nat}(hk:k<mJ.length)(mT:k<vs.length):Sl w vs[k] mJ[k].length (mJ[k].map (av .i64)):=by
 obtain⟨⟨h1,h3⟩,_⟩:=he;obtain⟨v,hv,_,hs,_⟩:=h3 k hk (by simpa using mT);rw[r9]at hv;unfold yQ at hv;simp only[fO,and_true]at hv;rw[hv];exact Sl.dy hs
theorem adS{w:World}{v:Value}{l:List Int}(hp:∀x∈l,cU.dX x)(h:(fW v l).holds w):adR.is (λk=>v.ownBlock=aj k) w [v] l:=
 ⟨v,rfl,hp,h,λ_ h=>h⟩
def Rj(g:Nat)(vc vr vf vfol vl ve:Value)(bO:Int)(va vb:Value)(mJ:List (List Int))(last first:List Int):Spec (List Value×(Nat->Prop)):=
 ⟨λx=>x.1.length=mJ.length,λ_=> .tuple #[],λx=>[aP g (Ri vc vr vf vfol vl ve bO) 172,xM vfol x.1,uk x.2 x.1 (fh mJ last first),fW va last,fW vb first]⟩
theorem Lo(mJ:List (List Int))(last first:List Int){k:Nat}(hk:k<last.length):fh mJ (last.take (k+1)) first=(fh mJ (last.take k) first).set last[k].toNat (qy ((fh mJ (last.take k) first).getD last[k].toNat []) first):=by
 unfold fh;rw[iq hk,Oc];rfl
theorem yR(g:Nat)(vc vr vf vfol vl ve:Value)(bO:Int)(va vb:Value)(vs:List Value)(F:Nat->Prop)(mJ:List (List Int))(last first:List Int)(w:World)(B:bR)
 (hvs:vs.length=mJ.length) (hn:mJ.length<=100000) (ag3:∀l∈mJ,GV mJ.length l) (hla:GV mJ.length last) (U3:GV mJ.length first)
 (hm:Mem B [aP g (Ri vc vr vf vfol vl ve bO) 172,xM vfol vs,uk F vs mJ,fW va last,fW vb first] w):
 Calls aB 100 #[aJ (aj ⟨g,0,ak⟩),va,vb] w (dc (Rj g vc vr vf vfol vl ve bO va vb mJ last first) B):=by
 have ahS:=jF hla;have ag4:=jF U3;have hva:∃a c,va=ap a last.length c:=by
  obtain⟨base,cap,h,_⟩:=Sl.dy (show w.ownsRow 0 3 1 va last.length (last.map (av .i64))from hm.get (i:=3) rfl);exact⟨base,cap,h⟩
 obtain⟨aa,ca,rfl⟩:=hva;refine dA hm (args:=[aJ (aj ⟨g,0,ak⟩),ap aa last.length ca,vb]) (n:=32) Tryz.func100 I I I ?_;clear hm
 try refine GA ?_
 refine dY (ι:=Nat×List Value×(Nat->Prop)) (λ(k,vs,F)=>k<=last.length/\vs.length=mJ.length) (λ(k,_,_)=>[(0,aJ (aj ⟨g,0,ak⟩)),(2,vb),(8,ap aa last.length ca),(9,av az last.length),(10,av az (k:Int))])
  (λ(k,vs,F)=>[aP g (Ri vc vr vf vfol vl ve bO) 172,xM vfol vs,uk F vs (fh mJ (last.take k) first),fW (ap aa last.length ca) last,fW vb first]) (λ(k,_,_)=>last.length-k) (0,vs,F) ⟨bH _,hvs⟩ ?_
 clear hvs vs F;rintro⟨k,vs,F⟩ ⟨i1,i2⟩;dsimp only at i1 i2⊢
 by_cases c6:k<last.length
 ·have hstep:=Lo mJ last first c6
  have ag5:=sh (n:=mJ.length) U3.2 (last.take k) mJ ag3;have hlen:=kG mJ (last.take k) first;have hx:=hla.2 last[k] (cD c6);have hgx:last[k]?=aj last[k]:=bD c6;generalize fh mJ (last.take k) first=fo at*;generalize last[k]=x at*;obtain⟨xn,rfl⟩:=hY hx.1;rw[dB]at hstep;have hxn:xn<fo.length:=by omega
  have xN:fo.getD xn []=fo[xn]:=by rw[cH,bD hxn];rfl
  rw[xN]at hstep;have hrx:=ag5 fo[xn] (cD hxn);have Fk:=jF hrx;have Nq:=sg hrx.2 U3.2;have hul:=jF Nq;refine io (i:=1) (φ:=∃gf cap,vfol=ap (aj ⟨gf,0,ak⟩) vs.length cap/\vs.length<=cap) I (λw h=>by
   obtain⟨h1,h2⟩:=(show w.ownsRow 0 27 1 vfol vs.length (vs.flatMap yQ)from h);rcases h2 with⟨_,h0⟩|⟨gf,cap,jM,hv,_,_,hc,_⟩
   omega;exact⟨gf,cap,hv,hc⟩) λhvf=>?_
  obtain⟨gf,adT,rfl,hcf⟩:=hvf;refine io (i:=3) (φ:=∃ga,aa=aj ⟨ga,0,ak⟩) I (λw h=>by
   obtain⟨h1,h2⟩:=(show w.ownsRow 0 3 1 (ap aa last.length ca) last.length (last.map (av .i64))from h);rcases h2 with⟨_,h0⟩|⟨gf,cap,jM,hv,_,_,hc,_⟩
   omega
   cases hv;exact⟨gf,rfl⟩) λhva=>?_
  obtain⟨ga,rfl⟩:=hva;have hxv:xn<vs.length:=by omega
  have gC:∀(L:List b_) (hi:L[1]?=aj (xM (ap (aj ⟨gf,0,ak⟩) vs.length adT) vs)),At B L ⟨gf,0+xn*1+0,ak⟩ vs[xn]:=λL hi=>qO Ln hi hxv 0 _ I;have ag6:∀(L:List b_) (hi:L[3]?=aj (fW (ap (aj ⟨ga,0,ak⟩) last.length ca) last)),At B L ⟨ga,0+k*1,ak⟩ (av az (xn:Int)):=λL hi=>jY hi (by rw[eX,cV,kw,hgx];rfl)
  repeat(first|refine GA ?_|refine gV (aX bL.eq aK.ty I I c6) ?_|refine gV (aC (v:=av az (xn:Int)) aK.ty I (ag6 _ I)) ?_)
  (repeat refine b9 ?_)
  refine dK ([aP g (Ri vc vr vf (ap (aj ⟨gf,0,ak⟩) vs.length adT) vl ve bO) 172]) (.calm 0 (.calm 1 (.calm 2 (.calm 3 (.calm 4 (.calm 5 (.calm 6 (.calm 7 (.calm 8 (.calm 9 (.calm 10 (.calm 11 (.calm 12 (.calm 14 (.one 13 (.one 15 (.calm 16 (.one 17 (.done))))))))))))))))))) (bV [0]) ?_
  repeat(first|refine GW ?_|(refine GN ?_;first|refine QW (aC (v:=ap (aj ⟨gf,0,ak⟩) vs.length adT) aK.ty I (aH (i:=0) I I)) ?_|refine QW (aX bL.eq aK.ty I I hxv) ?_))
  refine aL I (du (aC (v:=vs[xn]) aK.ty I (gC _ I)) I I I (aM (bV [0]) ?_))
  try refine GW ?_
  refine aL I (aW (fI aI.en I I I) (λw' hm=>ie vs[xn] vb fo[xn] first w' (XD (hm.get (i:=2) I) hxn hxv) (Sl.dy (hm.get (i:=4) I)) J J) I I I ?_);intro v _
  conv=>arg 8;simp only[zJ,cL,ret,id_eq,sQ]
  refine aU (i:=5) I λoo mi=>?_;refine aM (bV [0]) ?_
  repeat(first|refine GW ?_|(refine GN ?_;first|refine QW (aX bL.eq aK.ty I I hxv) ?_))
  refine aL I (Aa Ln (i:=1) (k:=xn) (l:=vs) (a:=v) aK.ty I I J hxv I I oo (by simp only[yQ,cY,da,mi];rfl) (aM (bV [0]) ?_))
  try refine GW ?_
  try refine GA ?_
  refine vP (uk (λk=>F k\/v.ownBlock=aj k) (vs.set xn v) (fo.set xn (qy fo[xn] first))) 5 2 [0,1,3,4] aiz I I I (λk hk=>hk.elim (λh=>by cases h) λh=>h.elim (λh=> .inr (.inr h)) λh=> .inl (.inl h)) (λw hr he=>?_) ?_
  ·have:=aaR (k:=xn) he (adS (λx hx=>⟨by have:=Nq.2 x hx;omega,by have:=Nq.2 x hx;omega⟩) hr) λk hk=>(fW v (qy fo[xn] first)).lt w hr k (.inl hk)
   rw[show([v]:List Value)=yQ v from I,<-oM]at this;exact this
  refine dh [0,1,4,2,3] ?_;exact bW (k+1,vs.set xn v,λk=>F k\/v.ownBlock=aj k) ⟨by omega,by rw[Io];exact i2⟩ (by show last.length-(k+1)<last.length-k;omega) (hl:=by dsimp only;rw[hstep];show _=[_,a_ _ _ _ (vs.set xn v).length _,_,_,_];rw[Io];rfl)
 ·obtain rfl:k=last.length:=by omega
  rw[gK (bm _)]
  try refine GA ?_
  exact kY I λw hm=>hm.cB (S:=Rj g vc vr vf vfol vl ve bO (ap aa last.length ca) vb mJ last first) (vs,F) i2 [0,1,2,3,4] aiz I
end bZ
namespace bZ
open Go.RowKit cU dM dg fZ ef
def Av(B:bR)(k:Nat):Prop:=k<B.w.heap.size/\¬B.X k
theorem sj{B:bR}{L:List b_}{b off:Nat}{cs:List Value}(hb:Av B b)(h:Rd B.w b off cs)(j:Nat)(v:Value)(hj:cs[j]?=aj v):At B L ⟨b,off+j,ak⟩ v:=λ_ hm=>
 rd_stay h (hm.low.block b hb.1 hb.2) j v hj
theorem adU{B:bR}{Lx:List b_}{w:World}(hm:Mem B Lx w){k:Nat}(hk:Av B k):Av (bR.on w Lx) k:=by
 refine⟨jv hk.1 hm.low.size,?_⟩;rintro⟨o,ho,hf⟩;obtain⟨i,hi⟩:=List.mem_iff_getElem?.1 ho;rcases(hm.owns.all i o hi).2 k hf with h|h
 have:=hk.1;omega;exact hk.2 h
theorem eS{B:bR}{Lx:List b_}{w:World}{v:Value}{r:Rx}(hm:Mem B Lx w)(h:nQ (Av B) B.w v r):nQ (Av (bR.on w Lx)) w v r:=
 (h.stay λk hk=>hm.low.block k hk.1 hk.2).mono λ_ hk=>adU hm hk
structure U4 where
 vc:Value
 vr:Value
 vfol:Value
 vl:Value
 vs:List Value
 F:Nat->Prop
def nl(g:Nat)(vf ve:Value)(bO:Int)(x:U4)(p:PS):List b_:=
 [aP g (Ri x.vc x.vr vf x.vfol x.vl ve bO) 172,a_ 77 4 x.vc p.aZ.length (p.aZ.flatMap dR),fW x.vr p.rules,xM x.vfol x.vs,uk x.F x.vs p.follow,a_ 4 1 x.vl p.last.length (p.last.map fN)]
def cO(g:Nat)(vf ve:Value)(bO:Int)(R:Shape×PS):Spec (U4×Value×Value):=
 ⟨λx=>x.1.vs.length=R.2.follow.length,λx=>aQ #[.bool R.1.empty,x.2.1,x.2.2],λx=>nl g vf ve bO x.1 R.2++[fW x.2.1 R.1.first,fW x.2.2 R.1.last]⟩
theorem OF(w:World):(df 174 (#[]:Array (Nat×Value))).run aB w= .ok (aQ #[.bool aE,ap ak 0 0,ap ak 0 0]) w:=by
 go_simp
theorem OG(w:World):(df 174 #[(0,.bool aD)]).run aB w= .ok (aQ #[.bool aD,ap ak 0 0,ap ak 0 0]) w:=by
 go_simp
def IM(M:Nat):Prop:=∀(e:Re),e.size<=M->∀(g:Nat) (vf ve:Value) (bO:Int) (p:PS) (x:U4) (v:Value) (w:World) (B:bR),Ld p->x.vs.length=p.follow.length->p.aZ.length+e.size<=100000->cU.dX bO->nQ (Av B) B.w v (lh e)->Mem B (nl g vf ve bO x p) w->
 Calls aB 67 #[aJ (aj ⟨g,0,ak⟩),v] w (dc (cO g vf ve bO (cK bO e p)) B)
theorem Tu(g:Nat)(vf ve:Value)(bO:Int)(p:PS)(x:U4)(v:Value)(w:World)(B:bR)(hx:x.vs.length=p.follow.length)(hv:nQ (Av B) B.w v (lh .none))(hm:Mem B (nl g vf ve bO x p) w):
 Calls aB 67 #[aJ (aj ⟨g,0,ak⟩),v] w (dc (cO g vf ve bO (cK bO .none p)) B):=by
 obtain⟨vk,rfl,_,Q1⟩:=hv;obtain⟨bk,ck,rfl,-⟩:=Q1;unfold nl at hm;refine dA hm (args:=[aJ (aj ⟨g,0,ak⟩),qm (lh .none).kind (lh .none).tK (ap bk (lh .none).kids.length ck)]) (n:=176) Tryz.func67 I I I ?_;clear hm;refine b9 (bz (bQ I I I λg3=>aY I λg4=>?_));refine zL ?_
 repeat(first|refine GA ?_|refine gV (aC (v:=av az 1) aK.ty I (aH (i:=6) I I)) ?_|refine gV (bB I OF) ?_)
 refine gh 7 ?_;refine zL ?_
 try refine GA ?_
 refine dF 3 1 (dF 3 1 ?_);exact fF (i:=7) I I I I λw hm=>hm.cB (S:=cO g vf ve bO (cK bO .none p)) (x,ap ak 0 0,ap ak 0 0) hx [0,1,2,3,4,5,8,9] aiz I
theorem OH(g:Nat)(vf ve:Value)(bO:Int)(p:PS)(x:U4)(v:Value)(w:World)(B:bR)(hx:x.vs.length=p.follow.length)(hv:nQ (Av B) B.w v (lh .empty))(hm:Mem B (nl g vf ve bO x p) w):
 Calls aB 67 #[aJ (aj ⟨g,0,ak⟩),v] w (dc (cO g vf ve bO (cK bO .empty p)) B):=by
 obtain⟨vk,rfl,_,Q1⟩:=hv;obtain⟨bk,ck,rfl,-⟩:=Q1;unfold nl at hm;refine dA hm (args:=[aJ (aj ⟨g,0,ak⟩),qm (lh .empty).kind (lh .empty).tK (ap bk (lh .empty).kids.length ck)]) (n:=176) Tryz.func67 I I I ?_;clear hm;refine b9 (bz (bQ I I I λg3=>aY I λg4=>?_));refine zL ?_
 repeat(first|refine GA ?_|refine gV (aC (v:=av az 2) aK.ty I (aH (i:=6) I I)) ?_|refine gV (bB I OG) ?_)
 refine gh 7 ?_;refine zL ?_
 try refine GA ?_
 refine dF 3 1 (dF 3 1 ?_);exact fF (i:=7) I I I I λw hm=>hm.cB (S:=cO g vf ve bO (cK bO .empty p)) (x,ap ak 0 0,ap ak 0 0) hx [0,1,2,3,4,5,8,9] aiz I
def Lp(g:Nat)(bO:Int):b_:=
 ⟨aj g,λ_=>False,λw=>∃vc vr vf vfol vl ve,w.heap[g]?=aj (.cells (Ri vc vr vf vfol vl ve bO) 172 (0,0)),λw ⟨_,_,_,_,_,_,h⟩ k hk=>by simp only[dr,or_false]at hk;subst hk;exact(jt.1 h).1,
  λw w' ⟨vc,vr,vf,vfol,vl,ve,h⟩ _ hb=>⟨vc,vr,vf,vfol,vl,ve,by rw[hb g (.inl I)];exact h⟩⟩
theorem mw{B:bR}{L:List b_}{g:Nat}{vc vr vf vfol vl ve:Value}{bO:Int}(h:L[0]?=aj (aP g (Ri vc vr vf vfol vl ve bO) 172)):∀w,Mem B L w->Mem B [Lp g bO] w:=λw hm=>by
 have h1:=hm.pick (L':=[aP g (Ri vc vr vf vfol vl ve bO) 172]) [0] aiz (by simp[h]);exact h1.aay (i:=0) (Lp g bO) I ⟨vc,vr,vf,vfol,vl,ve,h1.get (i:=0) I⟩ λk hk=>hk
theorem aaS{B:bR}{L:List b_}{g i:Nat}{bO:Int}(h:L[i]?=aj (Lp g bO)):At B L ⟨g,6,ak⟩ (av az bO):=λw hm=>by
 obtain⟨vc,vr,vf,vfol,vl,ve,h⟩:=(hm.get h:(Lp g bO).holds w);rw[cell_of_row w g 6 _ _ _ h];rfl
theorem Rk(c:C4)(u:Value)(h:u∈dR c):u.oneCell'=true:=by
 simp only[dR,dx,fl,or_false]at h;rcases h with rfl|rfl|rfl|rfl<;>rfl
theorem Tv(c:C4){k:Int}{vk v:Value}{j:Nat}(hj:(dR c)[j]?=aj v):((l8 k c vk).toArray)[1+j]?=aj v:=by
 match j,hj with
 |0,hj=>exact hj
 |1,hj=>exact hj
 |2,hj=>exact hj
 |3,hj=>exact hj
theorem OI(b b':Option Addr)(m m' k k':Nat)(w:World):(df 174 #[(1,ap b m k),(2,ap b' m' k')]).run aB w= .ok (aQ #[.bool aE,ap b m k,ap b' m' k']) w:=by
 go_simp
theorem G1(v:Value)(l:List Int)(x:Int):a_ 3 1 v (l.length+1) (l.map (av .i64)++[av az x])=fW v (l++[x]):=by
 show _=a_ 3 1 v (l++[x]).length ((l++[x]).map (av .i64))
 rw[bK,eO];rfl
theorem XE(v:Value)(l:List Value)(x:Value):a_ 27 1 v (l.length+1) (l.flatMap yQ++[x])=xM v (l++[x]):=by
 show _=a_ 27 1 v (l++[x]).length ((l++[x]).flatMap yQ)
 rw[bK,gO];rfl
theorem Aw(v:Value)(l:List Bool)(x:Bool):a_ 4 1 v (l.length+1) (l.map fN++[.bool x])=a_ 4 1 v (l++[x]).length ((l++[x]).map fN):=by
 rw[bK,eO];rfl
theorem IN{w:World}{g:Nat}{n:Int}(h:(aP g #[av az n] 3).holds w):(fW (ap (aj ⟨g,0,ak⟩) 1 1) [n]).holds w:=
 ⟨rfl,.inr ⟨g,1,_,rfl,bH _,h,bm _,by decide,rfl,rfl⟩⟩
theorem Tw(c:C4)(g:Nat)(vf ve:Value)(bO:Int)(p:PS)(x:U4)(v:Value)(w:World)(B:bR)(hp:Ld p)(hx:x.vs.length=p.follow.length)(hn:p.aZ.length<=100000)(hv:nQ (Av B) B.w v (lh (.byte c)))(hm:Mem B (nl g vf ve bO x p) w):
 Calls aB 67 #[aJ (aj ⟨g,0,ak⟩),v] w (dc (cO g vf ve bO (cK bO (.byte c) p)) B):=by
 obtain⟨vk,rfl,_,Q1⟩:=hv;obtain⟨bk,ck,rfl,-⟩:=Q1;obtain⟨vc,vr,vfol,vl,vs,F⟩:=x;unfold nl at hm;dsimp only at hx hm;refine dA hm (args:=[aJ (aj ⟨g,0,ak⟩),qm (lh (.byte c)).kind (lh (.byte c)).tK (ap bk (lh (.byte c)).kids.length ck)]) (n:=176) Tryz.func67 I I I ?_;clear hm;refine b9 (bz (bQ I I I λg3=>aY I λg4=>?_));refine zL ?_;refine lu (i:=1) I λbc cc hvc oo yv=>?_;subst hvc
 repeat(first|refine GA ?_|refine gV (aC (v:=av az 3) aK.ty I (aH (i:=6) I I)) ?_|refine gV (aC (v:=ap bc p.aZ.length cc) aK.ty I (aH (i:=0) I I)) ?_)
 (repeat refine b9 ?_)
 refine kV (ι:=Value) (λ_=>True) (λ_=>[(0,aJ (aj ⟨g,0,ak⟩)),(3,aJ (aj ⟨g3,0,ak⟩)),(4,aJ (aj ⟨g4,0,ak⟩)),(5,av az p.aZ.length)])
  (λFB=>[aP g (Ri FB vr vf vfol vl ve bO) 172,a_ 77 4 FB (p.aZ++[c]).length ((p.aZ++[c]).flatMap dR),fW vr p.rules,xM vfol vs,uk F vs p.follow,a_ 4 1 vl p.last.length (p.last.map fN),aP g4 #[.bool aE,ap ak 0 0,ap ak 0 0] 174]) ?_ ?_
 ·refine dK ([aP g3 (l8 3 c (ap bk 0 ck)).toArray 80]) (.calm 0 (.calm 1 (.calm 2 (.calm 3 (.calm 4 (.calm 6 (.calm 7 (.two 5 (.one 8 (.one 9 (.calm 10 (.calm 11 (.calm 12 (.one 13 (.done))))))) 8 (.one 5 (.one 9 (.calm 10 (.calm 11 (.calm 12 (.one 13 (.done))))))))))))))) (bV [6]) ?_
  repeat(first|refine GW ?_|(refine GN ?_;first|refine QW (a8 (cs:=dR c) aK.ty I I (λj v hj=>aH (i:=0) I (Tv c hj))) ?_))
  refine ez I I ?_ ?_
  ·refine du (aC (v:=ap bc p.aZ.length cc) aK.ty I (aH (i:=0) I I)) I I I (aM (bV [6]) ?_)
   refine aL I (fm (cs:=(dR c).toArray) [oa c] I I I (by intro v hv;simp at hv;subst hv;rfl) I I I λg33=>(aM (bV [6]) ?_));refine aL I (eD (i:=1) (e:=77) (size:=4) (bytes:=32) (m:=p.aZ.length) (xs:=p.aZ.flatMap dR) (k:=1) (ys:=dR c) I (kX (i:=8) I (λj u h=>by simpa using h) (bm 1) aiz) I I I (λu hu=>Rk c u hu) J J I λFB=>(aM (bV [6]) ?_))
   try refine GW ?_
   refine aL I (aU (i:=1) I λkK lz=>bU (i:=0) I I I kK lz I (aM (bV [6]) ?_))
   try refine GW ?_
   refine dh [0,1,2,3,4,5,7] ?_;exact dJ FB trivial (by repeat' (first|exact cI|refine cC I ?_)) (by rw[bK,gO];rfl)
  refine fm (cs:=(dR c).toArray) [oa c] I I I (by intro v hv;simp at hv;subst hv;rfl) I I I λg33=>(aM (bV [6]) ?_);refine aL I (du (aC (v:=ap bc p.aZ.length cc) aK.ty I (aH (i:=0) I I)) I I I (aM (bV [6]) ?_));refine aL I (eD (i:=1) (e:=77) (size:=4) (bytes:=32) (m:=p.aZ.length) (xs:=p.aZ.flatMap dR) (k:=1) (ys:=dR c) I (kX (i:=8) I (λj u h=>by simpa using h) (bm 1) aiz) I I I (λu hu=>Rk c u hu) J J I λFB=>(aM (bV [6]) ?_))
  try refine GW ?_
  refine aL I (aU (i:=1) I λkK lz=>bU (i:=0) I I I kK lz I (aM (bV [6]) ?_))
  try refine GW ?_
  refine dh [0,1,2,3,4,5,7] ?_;exact dJ FB trivial (by repeat' (first|exact cI|refine cC I ?_)) (by rw[bK,gO];rfl)
 clear oo yv;intro FB _
 try refine GA ?_
 (repeat refine b9 ?_)
 have Fk:=hp.rules;refine kV (ι:=Value) (λ_=>True) (λ_=>[(0,aJ (aj ⟨g,0,ak⟩)),(4,aJ (aj ⟨g4,0,ak⟩)),(5,av az p.aZ.length)])
  (λBO=>[aP g (Ri FB BO vf vfol vl ve bO) 172,a_ 77 4 FB (p.aZ++[c]).length ((p.aZ++[c]).flatMap dR),fW BO (p.rules++[bO]),xM vfol vs,uk F vs p.follow,a_ 4 1 vl p.last.length (p.last.map fN),aP g4 #[.bool aE,ap ak 0 0,ap ak 0 0] 174]) ?_ ?_
 ·refine dK ([Lp g bO]) (.calm 0 (.calm 1 (.calm 2 (.calm 3 (.calm 4 (.calm 6 (.calm 7 (.calm 8 (.calm 9 (.two 5 (.one 10 (.one 11 (.calm 12 (.calm 13 (.calm 14 (.one 15 (.done))))))) 10 (.one 5 (.one 11 (.calm 12 (.calm 13 (.calm 14 (.one 15 (.done))))))))))))))))) (mw I) ?_
  repeat(first|refine GW ?_|(refine GN ?_;first|refine QW (aC (v:=av az bO) aK.ty I (aaS (i:=0) I)) ?_))
  refine ez I I ?_ ?_
  ·refine du (aC (v:=vr) aK.ty I (aH (i:=0) I I)) I I I (aM (mw I) ?_)
   refine aL I (fm (cs:=#[av az bO]) [av az bO] I I I (by intro v hv;simp at hv;subst hv;rfl) I I I λg48=>(aM (mw I) ?_));refine aL I (eD (i:=2) (e:=3) (size:=1) (bytes:=8) (m:=p.rules.length) (xs:=p.rules.map (av .i64)) (k:=1) (ys:=[av az bO]) I (kX (i:=7) I (λj u h=>by simpa using h) (bm 1) aiz) I I I (λu hu=>by rw[dQ.1 hu];rfl) J J I λBO=>(aM (mw I) ?_))
   try refine GW ?_
   refine aL I (aU (i:=2) I λkK lz=>bU (i:=0) I I I kK lz I (aM (mw (vc:=FB) (vr:=BO) (vf:=vf) (vfol:=vfol) (vl:=vl) (ve:=ve) I) ?_))
   try refine GW ?_
   refine dh [0,1,2,3,4,5,6] ?_;exact dJ BO trivial (by repeat' (first|exact cI|refine cC I ?_)) (by rw[<-G1 BO p.rules bO];rfl)
  refine fm (cs:=#[av az bO]) [av az bO] I I I (by intro v hv;simp at hv;subst hv;rfl) I I I λg48=>(aM (mw I) ?_);refine aL I (du (aC (v:=vr) aK.ty I (aH (i:=0) I I)) I I I (aM (mw I) ?_));refine aL I (eD (i:=2) (e:=3) (size:=1) (bytes:=8) (m:=p.rules.length) (xs:=p.rules.map (av .i64)) (k:=1) (ys:=[av az bO]) I (kX (i:=7) I (λj u h=>by simpa using h) (bm 1) aiz) I I I (λu hu=>by rw[dQ.1 hu];rfl) J J I λBO=>(aM (mw I) ?_))
  try refine GW ?_
  refine aL I (aU (i:=2) I λkK lz=>bU (i:=0) I I I kK lz I (aM (mw (vc:=FB) (vr:=BO) (vf:=vf) (vfol:=vfol) (vl:=vl) (ve:=ve) I) ?_))
  try refine GW ?_
  refine dh [0,1,2,3,4,5,6] ?_;exact dJ BO trivial (by repeat' (first|exact cI|refine cC I ?_)) (by rw[<-G1 BO p.rules bO];rfl)
 intro BO _;have wo:=hp.follow;have Ko:=hp.last
 repeat(first|refine GA ?_|refine gV (aC (v:=vfol) aK.ty I (aH (i:=0) I I)) ?_)
 refine jN (i:=3) (bytes:=24) I I I I I I (λz h=>by cases h;rfl) J J I λz1 wB=>?_;refine zL ?_
 try refine GA ?_
 refine aU (i:=3) I λkK lz=>bU (i:=0) I I I kK lz I ?_;refine zL ?_
 repeat(first|refine GA ?_|refine gV (aC (v:=vl) aK.ty I (aH (i:=0) I I)) ?_)
 refine jN (i:=5) (bytes:=1) I I I I I I (λz h=>by cases h;rfl) J J I λz2 Rm=>?_;refine zL ?_
 try refine GA ?_
 refine aU (i:=5) I λkK lz=>bU (i:=0) I I I kK lz I ?_;refine zL ?_
 try refine GA ?_
 refine fm (cs:=#[av az p.aZ.length]) [av az p.aZ.length] I I I (by intro v hv;simp at hv;subst hv;rfl) I I I λg76=>?_;refine zL ?_
 try refine GA ?_
 refine fm (cs:=#[av az p.aZ.length]) [av az p.aZ.length] I I I (by intro v hv;simp at hv;subst hv;rfl) I I I λg78=>?_;refine zL ?_
 repeat(first|refine GA ?_|refine gV (bB I (OI _ _ _ _ _ _)) ?_)
 refine gh 6 (cs':=#[.bool aE,ap (aj ⟨g76,0,ak⟩) 1 1,ap (aj ⟨g78,0,ak⟩) 1 1]) ?_;refine zL ?_
 try refine GA ?_
 refine oc (i:=7) (fW (ap (aj ⟨g76,0,ak⟩) 1 1) [(p.aZ.length:Int)]) I (λw h=>IN h) (λk hk=>hk) ?_;refine oc (i:=8) (fW (ap (aj ⟨g78,0,ak⟩) 1 1) [(p.aZ.length:Int)]) I (λw h=>IN h) (λk hk=>hk) ?_;refine oc (i:=4) (uk (λk=>F k\/False) (vs++[ap ak 0 0]) (p.follow++[[]])) I (λw h=>by
  have:=mj (F2:=λ_=>False) h (show adR.is (λ_=>False) w [ap ak 0 0] []from⟨_,rfl,λ_ h=>(by cases h),⟨rfl,.inl ⟨rfl,rfl⟩⟩,λ_ h=>(by cases h)⟩) (λk hk=>hk.elim);rw[show vs.map yQ++[[ap ak 0 0]]=(vs++[ap ak 0 0]).map yQ by rw[eO];rfl]at this;exact this) (λk hk=>hk.elim (λh=>by cases h) λh=>h.elim (λh=> .inr h) False.elim) ?_
 refine fF (i:=6) I I I I λw hm=>?_;refine hm.cB (S:=cO g vf ve bO (cK bO (.byte c) p)) (⟨FB,BO,wB,Rm,vs++[ap ak 0 0],λk=>F k\/False⟩,ap (aj ⟨g76,0,ak⟩) 1 1,ap (aj ⟨g78,0,ak⟩) 1 1) (by show(vs++[_]).length=(p.follow++[[]]).length;rw[bK,bK,hx];rfl) [0,1,2,3,4,5,7,8] aiz ?_;show[_,_,_,xM wB (vs++[ap ak 0 0]),_,a_ 4 1 Rm (p.last++[aE]).length ((p.last++[aE]).map fN),_,_]=_
 rw[<-XE,<-Aw];rfl
end bZ
namespace bZ
open Go.RowKit cU dM dg fZ ef
theorem Tz{M:Nat}(IH:IM M)(a:Re)(ha:a.size<=M)(g:Nat)(vf ve:Value)(bO:Int)(p:PS)(x:U4)(v:Value)(w:World)(B:bR)(hp:Ld p)(hx:x.vs.length=p.follow.length)(hn:p.aZ.length+(a.size+1)<=100000)(OJ:cU.dX bO)(hv:nQ (Av B) B.w v (lh (.star a)))(hm:Mem B (nl g vf ve bO x p) w):
 Calls aB 67 #[aJ (aj ⟨g,0,ak⟩),v] w (dc (cO g vf ve bO (cK bO (.star a) p)) B):=by
 obtain⟨vk,rfl,_,Q1⟩:=hv;obtain⟨bk,ck,rfl,h1,h2,h3⟩:=Q1;obtain⟨b,off,rfl,hF,eL⟩:=h3 (by show 0<1;decide);obtain⟨kb,kc,hr,TA⟩:=pT (k:=0) eL (by show 0<1;decide);have dz:=λ(L:List b_) (j:Nat) (v:Value) hj=>sj (L:=L) hF hr j v hj;clear h3 eL hr;obtain⟨Fl,U5,hp3,hp4,hp5⟩:=ly bO a p hp;have acR:cK bO (.star a) p=(⟨aD,(cK bO a p).1.first,(cK bO a p).1.last⟩,{(cK bO a p).2 with follow:=fh (cK bO a p).2.follow (cK bO a p).1.last (cK bO a p).1.first}):=rfl;have hIH:=λw B hv hm=>IH a ha g vf ve bO p x (qm (lh a).kind (lh a).tK (ap kb (lh a).kids.length kc)) w B hp hx J OJ hv hm;rw[acR];generalize cK bO a p=R at*;obtain⟨⟨e,first,last⟩,p'⟩:=R;dsimp only at Fl U5 hp3 hp4 hp5⊢;clear acR;unfold nl at hm;refine dA hm (args:=[aJ (aj ⟨g,0,ak⟩),qm 6 C4.zero (ap (aj ⟨b,off,ak⟩) 1 ck)]) (n:=176) Tryz.func67 I I I ?_;clear hm;refine b9 (bz (bQ I I I λg3=>aY I λg4=>?_));refine zL ?_
 repeat(first|refine GA ?_|refine gV (aC (v:=av az 6) aK.ty I (aH (i:=6) I I)) ?_|refine gV (aC (v:=ap (aj ⟨b,off,ak⟩) 1 ck) aK.ty I (aH (i:=6) I I)) ?_|refine gV (aX (j:=0) bL.eq aK.ty I I aiz) ?_|refine gV (a8 aK.ty I I (dz _)) ?_)
 refine bx [0,1,2,3,4,5] [6,7] aiz I I (fI aI.en I I I) (λw hm hb=>hIH w _ (eS (hm.pick [0,1,2,3,4,5] aiz I) TA) hb) I I I ?_;rintro⟨⟨vc,vr,vfol,vl,vs,F⟩,va,vb⟩ QG;have QG:vs.length=p'.follow.length:=QG
 conv=>arg 8;simp only[zJ,cL,ret,id_eq,cO,nl]
 conv=>arg 7;simp only[cO]
 refine aU (i:=8) I λah4 afm=>?_;refine aU (i:=9) I λah5 afn=>?_;refine aY I λg6=>?_;refine zL ?_;refine aV (i:=10) (cs':=#[.bool e,va,vb]) I I I I (by simp only[cY,da,afm,afn];rfl) I ?_;refine zL ?_
 repeat(first|refine GA ?_|refine gV (aC (v:=vb) aK.ty I (aH (i:=10) I I)) ?_|refine gV (aC (v:=va) aK.ty I (aH (i:=10) I I)) ?_)
 refine bx [2,5,6,9,8] [0,1,3,4,7,10] aiz I I (sZ aI.en I I I I) (λw hm hb=>yR g vc vr vf vfol vl ve bO vb va vs F p'.follow last first w _ QG (by rw[Fl.follow];omega) (by rw[Fl.follow];exact Fl.ris) (by rw[Fl.follow];exact hp5) (by rw[Fl.follow];exact hp4) hb) I I I ?_;rintro⟨o7,F'⟩ fE;have fE:o7.length=p'.follow.length:=fE
 conv=>arg 8;simp only[zJ,cL,ret,id_eq,Rj]
 try refine GA ?_
 refine bU (i:=5) I I I I I I ?_;refine zL ?_
 repeat(first|refine GA ?_|refine gV (aO (i:=5) aK.ty I I I) ?_)
 refine aV (i:=1) (cs':=#[.bool aD,va,vb]) I I I I (by simp only[cY,da,afm,afn];rfl) I ?_;refine zL ?_
 try refine GA ?_
 refine fF (i:=1) I I I I λw hm=>?_;exact hm.cB (S:=cO g vf ve bO (⟨aD,first,last⟩,{p' with follow:=fh p'.follow last first})) (⟨vc,vr,vfol,vl,o7,F'⟩,va,vb) (by show o7.length=(fh p'.follow last first).length;rw[kG];exact fE) [6,2,3,7,8,4,10,9] aiz I
end bZ
namespace bZ
open Go.RowKit cU dM dg fZ ef
theorem nf(e:Bool)(b b':Option Addr)(m m' k k':Nat)(w:World):(df 174 #[(0,.bool e),(1,ap b m k),(2,ap b' m' k')]).run aB w= .ok (aQ #[.bool e,ap b m k,ap b' m' k']) w:=by
 go_simp
set_option maxRecDepth 100000 in
theorem XF{M:Nat}(IH:IM M)(a b1:Re)(ha:a.size<=M)(FC:b1.size<=M)(g:Nat)(vf ve:Value)(bO:Int)(p:PS)(x:U4)(v:Value)(w:World)(B:bR)(hp:Ld p)(hx:x.vs.length=p.follow.length)(hn:p.aZ.length+(a.size+b1.size+1)<=100000)(OJ:cU.dX bO)(hv:nQ (Av B) B.w v (lh (.Ib a b1)))(hm:Mem B (nl g vf ve bO x p) w):
 Calls aB 67 #[aJ (aj ⟨g,0,ak⟩),v] w (dc (cO g vf ve bO (cK bO (.Ib a b1) p)) B):=by
 obtain⟨vk,rfl,_,Q1⟩:=hv;obtain⟨bk,ck,rfl,h1,h2,h3⟩:=Q1;obtain⟨b,off,rfl,hF,eL⟩:=h3 (by show 0<2;decide);obtain⟨kb,kc,hr,ul⟩:=pT (k:=0) eL (by show 0<2;decide);obtain⟨kb2,kc2,vC,kH⟩:=pT (k:=1) eL (by show 1<2;decide);have IP:=λ(L:List b_) (j:Nat) (v:Value) hj=>sj (L:=L) hF hr j v hj;have s8:=λ(L:List b_) (j:Nat) (v:Value) hj=>sj (L:=L) hF vC j v hj;clear h3 eL hr vC;obtain⟨Fl,U5,hp3,hp4,hp5⟩:=ly bO a p hp;obtain⟨kp1,kp2,kp3,kp4,kp5⟩:=ly bO b1 _ Fl;have TB:=λw B hv hm=>IH a ha g vf ve bO p x (qm (lh a).kind (lh a).tK (ap kb (lh a).kids.length kc)) w B hp hx J OJ hv hm;have Ax:=λx1 j_ w B hv hm=>IH b1 FC g vf ve bO (cK bO a p).2 x1 (qm (lh b1).kind (lh b1).tK (ap kb2 (lh b1).kids.length kc2)) w B Fl j_ J OJ hv hm;rw[show cK bO (.Ib a b1) p=(⟨(cK bO a p).1.empty||(cK bO b1 (cK bO a p).2).1.empty,qy (cK bO a p).1.first (cK bO b1 (cK bO a p).2).1.first,qy (cK bO a p).1.last (cK bO b1 (cK bO a p).2).1.last⟩,(cK bO b1 (cK bO a p).2).2)from I];generalize cK bO b1 (cK bO a p).2=R2 at*;generalize cK bO a p=R1 at*;obtain⟨⟨e1,gT,kl⟩,p1⟩:=R1;obtain⟨⟨e2,ia,jT⟩,p2⟩:=R2;dsimp only at Fl U5 hp3 hp4 hp5 kp1 kp2 kp3 kp4 kp5 Ax⊢;unfold nl at hm;refine dA hm (args:=[aJ (aj ⟨g,0,ak⟩),qm 5 C4.zero (ap (aj ⟨b,off,ak⟩) 2 ck)]) (n:=176) Tryz.func67 I I I ?_;clear hm;refine b9 (bz (bQ I I I λg3=>aY I λg4=>?_));refine zL ?_
 repeat(first|refine GA ?_|refine gV (aC (v:=av az 5) aK.ty I (aH (i:=6) I I)) ?_)
 (repeat refine b9 ?_)
 refine kV (ι:=U4×Value×Value×Value×Value×Nat×Nat) (λy=>y.1.vs.length=p2.follow.length) (λy=>[(0,aJ (aj ⟨g,0,ak⟩)),(4,aJ (aj ⟨g4,0,ak⟩)),(7,aJ (aj ⟨y.2.2.2.2.2.1,0,ak⟩)),(8,aJ (aj ⟨y.2.2.2.2.2.2,0,ak⟩))])
  (λy=>nl g vf ve bO y.1 p2++[fW y.2.1 gT,fW y.2.2.1 kl,fW y.2.2.2.1 ia,fW y.2.2.2.2.1 jT,aP g4 #[.bool aE,ap ak 0 0,ap ak 0 0] 174,aP y.2.2.2.2.2.1 #[.bool e1,y.2.1,y.2.2.1] 174,aP y.2.2.2.2.2.2 #[.bool e2,y.2.2.2.1,y.2.2.2.2.1] 174]) ?_ ?_
 ·refine dK ([aP g3 (l8 5 C4.zero (ap (aj ⟨b,off,ak⟩) 2 ck)).toArray 80]) (.calm 0 (.calm 1 (.calm 2 (.calm 3 (.calm 4 (.calm 6 (.calm 7 (.calm 8 (.calm 9 (.calm 10 (.three 5 (.three 11 (.two 12 (.one 13 (.one 14 (.one 15 (.done)))) 13 (.one 12 (.one 14 (.one 15 (.done))))) 12 (.two 11 (.one 13 (.one 14 (.one 15 (.done)))) 13 (.one 11 (.one 14 (.one 15 (.done))))) 13 (.two 11 (.one 12 (.one 14 (.one 15 (.done)))) 12 (.one 11 (.one 14 (.one 15 (.done)))))) 12 (.two 5 (.two 11 (.one 13 (.one 14 (.one 15 (.done)))) 13 (.one 11 (.one 14 (.one 15 (.done))))) 13 (.one 5 (.one 11 (.one 14 (.one 15 (.done)))))) 13 (.two 5 (.two 11 (.one 12 (.one 14 (.one 15 (.done)))) 12 (.one 11 (.one 14 (.one 15 (.done))))) 12 (.one 5 (.one 11 (.one 14 (.one 15 (.done))))))))))))))))) (bV [6]) ?_
  repeat(first|refine GW ?_|(refine GN ?_;first|refine QW (aC (v:=ap (aj ⟨b,off,ak⟩) 2 ck) aK.ty I (aH (i:=0) I I)) ?_|refine QW (aX (j:=0) bL.eq aK.ty I I aiz) ?_|refine QW (aX (j:=1) bL.eq aK.ty I I aiz) ?_|refine QW (a8 aK.ty I I (IP _)) ?_|refine QW (a8 aK.ty I I (s8 _)) ?_))
  refine yu I I I ?_ ?_ ?_
  ·refine bx [0,1,2,3,4,5] [6,7] aiz I I (fI aI.en I I I) (λw hm hb=>TB w _ (eS (hm.pick [0,1,2,3,4,5] aiz I) ul) hb) I I I ?_
   rintro⟨⟨td,te,f_,tf,nG,F1⟩,lR,kZ⟩ j_;have j_:nG.length=p1.follow.length:=j_
   conv=>arg 8;simp only[zJ,cL,ret,id_eq,cO,nl]
   conv=>arg 7;simp only[cO]
   refine aM (bV [0]) ?_;refine yu I I I ?_ ?_ ?_
   ·refine bx [2,3,4,5,6,7] [0,1,8,9] aiz I I (fI aI.en I I I) (λw hm hb=>Ax ⟨td,te,f_,tf,nG,F1⟩ j_ w _ (eS (hm.pick [2,3,4,5,6,7] aiz I) kH) hb) I I I ?_
    rintro⟨⟨pI,pJ,eT,pK,k7,F2⟩,jH,ka⟩ fE;have fE:k7.length=p2.follow.length:=fE
    conv=>arg 8;simp only[zJ,cL,ret,id_eq,cO,nl]
    conv=>arg 7;simp only[cO]
    refine aM (bV [0]) ?_;refine ez I I ?_ ?_
    ·refine aY I λg7=>(aM (bV [0]) ?_)
     refine aL I (aY I λg8=>(aM (bV [0]) ?_));refine aL I (aU (i:=2) I λ_ o8=>aU (i:=3) I λ_ o9=>aV (i:=12) (cs':=#[.bool e1,lR,kZ]) I I I I (by simp only[cY,da,o8,o9];rfl) I (aM (bV [0]) ?_))
     try refine GW ?_
     refine aL I (aU (i:=10) I λ_ o_=>aU (i:=11) I λ_ pa=>aV (i:=13) (cs':=#[.bool e2,jH,ka]) I I I I (by simp only[cY,da,o_,pa];rfl) I (aM (bV [0]) ?_))
     try refine GW ?_
     refine dh [4,5,6,7,8,9,2,3,10,11,1,12,13] ?_;exact dJ (⟨pI,pJ,eT,pK,k7,F2⟩,lR,kZ,jH,ka,g7,g8) fE (by repeat' (first|exact cI|refine cC I ?_)) I
    refine aY I λg8=>(aM (bV [0]) ?_);refine aL I (aY I λg7=>(aM (bV [0]) ?_));refine aL I (aU (i:=2) I λ_ o8=>aU (i:=3) I λ_ o9=>aV (i:=13) (cs':=#[.bool e1,lR,kZ]) I I I I (by simp only[cY,da,o8,o9];rfl) I (aM (bV [0]) ?_))
    try refine GW ?_
    refine aL I (aU (i:=10) I λ_ o_=>aU (i:=11) I λ_ pa=>aV (i:=12) (cs':=#[.bool e2,jH,ka]) I I I I (by simp only[cY,da,o_,pa];rfl) I (aM (bV [0]) ?_))
    try refine GW ?_
    refine dh [4,5,6,7,8,9,2,3,10,11,1,13,12] ?_;exact dJ (⟨pI,pJ,eT,pK,k7,F2⟩,lR,kZ,jH,ka,g7,g8) fE (by repeat' (first|exact cI|refine cC I ?_)) I
   ·refine aY I λg7=>(aM (bV [0]) ?_)
    refine ez I I ?_ ?_
    ·refine bx [2,3,4,5,6,7] [0,1,8,9,10] aiz I I (fI aI.en I I I) (λw hm hb=>Ax ⟨td,te,f_,tf,nG,F1⟩ j_ w _ (eS (hm.pick [2,3,4,5,6,7] aiz I) kH) hb) I I I ?_
     rintro⟨⟨pI,pJ,eT,pK,k7,F2⟩,jH,ka⟩ fE;have fE:k7.length=p2.follow.length:=fE
     conv=>arg 8;simp only[zJ,cL,ret,id_eq,cO,nl]
     conv=>arg 7;simp only[cO]
     refine aM (bV [0]) ?_;refine aL I (aY I λg8=>(aM (bV [0]) ?_));refine aL I (aU (i:=2) I λ_ o8=>aU (i:=3) I λ_ o9=>aV (i:=4) (cs':=#[.bool e1,lR,kZ]) I I I I (by simp only[cY,da,o8,o9];rfl) I (aM (bV [0]) ?_))
     try refine GW ?_
     refine aL I (aU (i:=11) I λ_ o_=>aU (i:=12) I λ_ pa=>aV (i:=13) (cs':=#[.bool e2,jH,ka]) I I I I (by simp only[cY,da,o_,pa];rfl) I (aM (bV [0]) ?_))
     try refine GW ?_
     refine dh [5,6,7,8,9,10,2,3,11,12,1,4,13] ?_;exact dJ (⟨pI,pJ,eT,pK,k7,F2⟩,lR,kZ,jH,ka,g7,g8) fE (by repeat' (first|exact cI|refine cC I ?_)) I
    refine aY I λg8=>(aM (bV [0]) ?_);refine aL I (bx [2,3,4,5,6,7] [0,1,8,9,10,11] aiz I I (fI aI.en I I I) (λw hm hb=>Ax ⟨td,te,f_,tf,nG,F1⟩ j_ w _ (eS (hm.pick [2,3,4,5,6,7] aiz I) kH) hb) I I I ?_);rintro⟨⟨pI,pJ,eT,pK,k7,F2⟩,jH,ka⟩ fE;have fE:k7.length=p2.follow.length:=fE
    conv=>arg 8;simp only[zJ,cL,ret,id_eq,cO,nl]
    conv=>arg 7;simp only[cO]
    refine aM (bV [0]) ?_;refine aL I (aU (i:=2) I λ_ o8=>aU (i:=3) I λ_ o9=>aV (i:=4) (cs':=#[.bool e1,lR,kZ]) I I I I (by simp only[cY,da,o8,o9];rfl) I (aM (bV [0]) ?_))
    try refine GW ?_
    refine aL I (aU (i:=12) I λ_ o_=>aU (i:=13) I λ_ pa=>aV (i:=5) (cs':=#[.bool e2,jH,ka]) I I I I (by simp only[cY,da,o_,pa];rfl) I (aM (bV [0]) ?_))
    try refine GW ?_
    refine dh [6,7,8,9,10,11,2,3,12,13,1,4,5] ?_;exact dJ (⟨pI,pJ,eT,pK,k7,F2⟩,lR,kZ,jH,ka,g7,g8) fE (by repeat' (first|exact cI|refine cC I ?_)) I
   refine aY I λg8=>(aM (bV [0]) ?_);refine ez I I ?_ ?_
   ·refine bx [2,3,4,5,6,7] [0,1,8,9,10] aiz I I (fI aI.en I I I) (λw hm hb=>Ax ⟨td,te,f_,tf,nG,F1⟩ j_ w _ (eS (hm.pick [2,3,4,5,6,7] aiz I) kH) hb) I I I ?_
    rintro⟨⟨pI,pJ,eT,pK,k7,F2⟩,jH,ka⟩ fE;have fE:k7.length=p2.follow.length:=fE
    conv=>arg 8;simp only[zJ,cL,ret,id_eq,cO,nl]
    conv=>arg 7;simp only[cO]
    refine aM (bV [0]) ?_;refine aL I (aY I λg7=>(aM (bV [0]) ?_));refine aL I (aU (i:=2) I λ_ o8=>aU (i:=3) I λ_ o9=>aV (i:=13) (cs':=#[.bool e1,lR,kZ]) I I I I (by simp only[cY,da,o8,o9];rfl) I (aM (bV [0]) ?_))
    try refine GW ?_
    refine aL I (aU (i:=11) I λ_ o_=>aU (i:=12) I λ_ pa=>aV (i:=4) (cs':=#[.bool e2,jH,ka]) I I I I (by simp only[cY,da,o_,pa];rfl) I (aM (bV [0]) ?_))
    try refine GW ?_
    refine dh [5,6,7,8,9,10,2,3,11,12,1,13,4] ?_;exact dJ (⟨pI,pJ,eT,pK,k7,F2⟩,lR,kZ,jH,ka,g7,g8) fE (by repeat' (first|exact cI|refine cC I ?_)) I
   refine aY I λg7=>(aM (bV [0]) ?_);refine aL I (bx [2,3,4,5,6,7] [0,1,8,9,10,11] aiz I I (fI aI.en I I I) (λw hm hb=>Ax ⟨td,te,f_,tf,nG,F1⟩ j_ w _ (eS (hm.pick [2,3,4,5,6,7] aiz I) kH) hb) I I I ?_);rintro⟨⟨pI,pJ,eT,pK,k7,F2⟩,jH,ka⟩ fE;have fE:k7.length=p2.follow.length:=fE
   conv=>arg 8;simp only[zJ,cL,ret,id_eq,cO,nl]
   conv=>arg 7;simp only[cO]
   refine aM (bV [0]) ?_;refine aL I (aU (i:=2) I λ_ o8=>aU (i:=3) I λ_ o9=>aV (i:=5) (cs':=#[.bool e1,lR,kZ]) I I I I (by simp only[cY,da,o8,o9];rfl) I (aM (bV [0]) ?_))
   try refine GW ?_
   refine aL I (aU (i:=12) I λ_ o_=>aU (i:=13) I λ_ pa=>aV (i:=4) (cs':=#[.bool e2,jH,ka]) I I I I (by simp only[cY,da,o_,pa];rfl) I (aM (bV [0]) ?_))
   try refine GW ?_
   refine dh [6,7,8,9,10,11,2,3,12,13,1,5,4] ?_;exact dJ (⟨pI,pJ,eT,pK,k7,F2⟩,lR,kZ,jH,ka,g7,g8) fE (by repeat' (first|exact cI|refine cC I ?_)) I
  ·refine aY I λg7=>(aM (bV [6]) ?_)
   refine ez I I ?_ ?_
   ·refine bx [0,1,2,3,4,5] [6,7,8] aiz I I (fI aI.en I I I) (λw hm hb=>TB w _ (eS (hm.pick [0,1,2,3,4,5] aiz I) ul) hb) I I I ?_
    rintro⟨⟨td,te,f_,tf,nG,F1⟩,lR,kZ⟩ j_;have j_:nG.length=p1.follow.length:=j_
    conv=>arg 8;simp only[zJ,cL,ret,id_eq,cO,nl]
    conv=>arg 7;simp only[cO]
    refine aM (bV [0]) ?_;refine ez I I ?_ ?_
    ·refine bx [3,4,5,6,7,8] [0,1,2,9,10] aiz I I (fI aI.en I I I) (λw hm hb=>Ax ⟨td,te,f_,tf,nG,F1⟩ j_ w _ (eS (hm.pick [3,4,5,6,7,8] aiz I) kH) hb) I I I ?_
     rintro⟨⟨pI,pJ,eT,pK,k7,F2⟩,jH,ka⟩ fE;have fE:k7.length=p2.follow.length:=fE
     conv=>arg 8;simp only[zJ,cL,ret,id_eq,cO,nl]
     conv=>arg 7;simp only[cO]
     refine aM (bV [0]) ?_;refine aL I (aY I λg8=>(aM (bV [0]) ?_));refine aL I (aU (i:=3) I λ_ o8=>aU (i:=4) I λ_ o9=>aV (i:=2) (cs':=#[.bool e1,lR,kZ]) I I I I (by simp only[cY,da,o8,o9];rfl) I (aM (bV [0]) ?_))
     try refine GW ?_
     refine aL I (aU (i:=11) I λ_ o_=>aU (i:=12) I λ_ pa=>aV (i:=13) (cs':=#[.bool e2,jH,ka]) I I I I (by simp only[cY,da,o_,pa];rfl) I (aM (bV [0]) ?_))
     try refine GW ?_
     refine dh [5,6,7,8,9,10,3,4,11,12,1,2,13] ?_;exact dJ (⟨pI,pJ,eT,pK,k7,F2⟩,lR,kZ,jH,ka,g7,g8) fE (by repeat' (first|exact cI|refine cC I ?_)) I
    refine aY I λg8=>(aM (bV [0]) ?_);refine aL I (bx [3,4,5,6,7,8] [0,1,2,9,10,11] aiz I I (fI aI.en I I I) (λw hm hb=>Ax ⟨td,te,f_,tf,nG,F1⟩ j_ w _ (eS (hm.pick [3,4,5,6,7,8] aiz I) kH) hb) I I I ?_);rintro⟨⟨pI,pJ,eT,pK,k7,F2⟩,jH,ka⟩ fE;have fE:k7.length=p2.follow.length:=fE
    conv=>arg 8;simp only[zJ,cL,ret,id_eq,cO,nl]
    conv=>arg 7;simp only[cO]
    refine aM (bV [0]) ?_;refine aL I (aU (i:=3) I λ_ o8=>aU (i:=4) I λ_ o9=>aV (i:=2) (cs':=#[.bool e1,lR,kZ]) I I I I (by simp only[cY,da,o8,o9];rfl) I (aM (bV [0]) ?_))
    try refine GW ?_
    refine aL I (aU (i:=12) I λ_ o_=>aU (i:=13) I λ_ pa=>aV (i:=5) (cs':=#[.bool e2,jH,ka]) I I I I (by simp only[cY,da,o_,pa];rfl) I (aM (bV [0]) ?_))
    try refine GW ?_
    refine dh [6,7,8,9,10,11,3,4,12,13,1,2,5] ?_;exact dJ (⟨pI,pJ,eT,pK,k7,F2⟩,lR,kZ,jH,ka,g7,g8) fE (by repeat' (first|exact cI|refine cC I ?_)) I
   refine aY I λg8=>(aM (bV [6]) ?_);refine aL I (bx [0,1,2,3,4,5] [6,7,8,9] aiz I I (fI aI.en I I I) (λw hm hb=>TB w _ (eS (hm.pick [0,1,2,3,4,5] aiz I) ul) hb) I I I ?_);rintro⟨⟨td,te,f_,tf,nG,F1⟩,lR,kZ⟩ j_;have j_:nG.length=p1.follow.length:=j_
   conv=>arg 8;simp only[zJ,cL,ret,id_eq,cO,nl]
   conv=>arg 7;simp only[cO]
   refine aM (bV [0]) ?_;refine aL I (bx [4,5,6,7,8,9] [0,1,2,3,10,11] aiz I I (fI aI.en I I I) (λw hm hb=>Ax ⟨td,te,f_,tf,nG,F1⟩ j_ w _ (eS (hm.pick [4,5,6,7,8,9] aiz I) kH) hb) I I I ?_);rintro⟨⟨pI,pJ,eT,pK,k7,F2⟩,jH,ka⟩ fE;have fE:k7.length=p2.follow.length:=fE
   conv=>arg 8;simp only[zJ,cL,ret,id_eq,cO,nl]
   conv=>arg 7;simp only[cO]
   refine aM (bV [0]) ?_;refine aL I (aU (i:=4) I λ_ o8=>aU (i:=5) I λ_ o9=>aV (i:=2) (cs':=#[.bool e1,lR,kZ]) I I I I (by simp only[cY,da,o8,o9];rfl) I (aM (bV [0]) ?_))
   try refine GW ?_
   refine aL I (aU (i:=12) I λ_ o_=>aU (i:=13) I λ_ pa=>aV (i:=3) (cs':=#[.bool e2,jH,ka]) I I I I (by simp only[cY,da,o_,pa];rfl) I (aM (bV [0]) ?_))
   try refine GW ?_
   refine dh [6,7,8,9,10,11,4,5,12,13,1,2,3] ?_;exact dJ (⟨pI,pJ,eT,pK,k7,F2⟩,lR,kZ,jH,ka,g7,g8) fE (by repeat' (first|exact cI|refine cC I ?_)) I
  refine aY I λg8=>(aM (bV [6]) ?_);refine ez I I ?_ ?_
  ·refine bx [0,1,2,3,4,5] [6,7,8] aiz I I (fI aI.en I I I) (λw hm hb=>TB w _ (eS (hm.pick [0,1,2,3,4,5] aiz I) ul) hb) I I I ?_
   rintro⟨⟨td,te,f_,tf,nG,F1⟩,lR,kZ⟩ j_;have j_:nG.length=p1.follow.length:=j_
   conv=>arg 8;simp only[zJ,cL,ret,id_eq,cO,nl]
   conv=>arg 7;simp only[cO]
   refine aM (bV [0]) ?_;refine ez I I ?_ ?_
   ·refine bx [3,4,5,6,7,8] [0,1,2,9,10] aiz I I (fI aI.en I I I) (λw hm hb=>Ax ⟨td,te,f_,tf,nG,F1⟩ j_ w _ (eS (hm.pick [3,4,5,6,7,8] aiz I) kH) hb) I I I ?_
    rintro⟨⟨pI,pJ,eT,pK,k7,F2⟩,jH,ka⟩ fE;have fE:k7.length=p2.follow.length:=fE
    conv=>arg 8;simp only[zJ,cL,ret,id_eq,cO,nl]
    conv=>arg 7;simp only[cO]
    refine aM (bV [0]) ?_;refine aL I (aY I λg7=>(aM (bV [0]) ?_));refine aL I (aU (i:=3) I λ_ o8=>aU (i:=4) I λ_ o9=>aV (i:=13) (cs':=#[.bool e1,lR,kZ]) I I I I (by simp only[cY,da,o8,o9];rfl) I (aM (bV [0]) ?_))
    try refine GW ?_
    refine aL I (aU (i:=11) I λ_ o_=>aU (i:=12) I λ_ pa=>aV (i:=2) (cs':=#[.bool e2,jH,ka]) I I I I (by simp only[cY,da,o_,pa];rfl) I (aM (bV [0]) ?_))
    try refine GW ?_
    refine dh [5,6,7,8,9,10,3,4,11,12,1,13,2] ?_;exact dJ (⟨pI,pJ,eT,pK,k7,F2⟩,lR,kZ,jH,ka,g7,g8) fE (by repeat' (first|exact cI|refine cC I ?_)) I
   refine aY I λg7=>(aM (bV [0]) ?_);refine aL I (bx [3,4,5,6,7,8] [0,1,2,9,10,11] aiz I I (fI aI.en I I I) (λw hm hb=>Ax ⟨td,te,f_,tf,nG,F1⟩ j_ w _ (eS (hm.pick [3,4,5,6,7,8] aiz I) kH) hb) I I I ?_);rintro⟨⟨pI,pJ,eT,pK,k7,F2⟩,jH,ka⟩ fE;have fE:k7.length=p2.follow.length:=fE
   conv=>arg 8;simp only[zJ,cL,ret,id_eq,cO,nl]
   conv=>arg 7;simp only[cO]
   refine aM (bV [0]) ?_;refine aL I (aU (i:=3) I λ_ o8=>aU (i:=4) I λ_ o9=>aV (i:=5) (cs':=#[.bool e1,lR,kZ]) I I I I (by simp only[cY,da,o8,o9];rfl) I (aM (bV [0]) ?_))
   try refine GW ?_
   refine aL I (aU (i:=12) I λ_ o_=>aU (i:=13) I λ_ pa=>aV (i:=2) (cs':=#[.bool e2,jH,ka]) I I I I (by simp only[cY,da,o_,pa];rfl) I (aM (bV [0]) ?_))
   try refine GW ?_
   refine dh [6,7,8,9,10,11,3,4,12,13,1,5,2] ?_;exact dJ (⟨pI,pJ,eT,pK,k7,F2⟩,lR,kZ,jH,ka,g7,g8) fE (by repeat' (first|exact cI|refine cC I ?_)) I
  refine aY I λg7=>(aM (bV [6]) ?_);refine aL I (bx [0,1,2,3,4,5] [6,7,8,9] aiz I I (fI aI.en I I I) (λw hm hb=>TB w _ (eS (hm.pick [0,1,2,3,4,5] aiz I) ul) hb) I I I ?_);rintro⟨⟨td,te,f_,tf,nG,F1⟩,lR,kZ⟩ j_;have j_:nG.length=p1.follow.length:=j_
  conv=>arg 8;simp only[zJ,cL,ret,id_eq,cO,nl]
  conv=>arg 7;simp only[cO]
  refine aM (bV [0]) ?_;refine aL I (bx [4,5,6,7,8,9] [0,1,2,3,10,11] aiz I I (fI aI.en I I I) (λw hm hb=>Ax ⟨td,te,f_,tf,nG,F1⟩ j_ w _ (eS (hm.pick [4,5,6,7,8,9] aiz I) kH) hb) I I I ?_);rintro⟨⟨pI,pJ,eT,pK,k7,F2⟩,jH,ka⟩ fE;have fE:k7.length=p2.follow.length:=fE
  conv=>arg 8;simp only[zJ,cL,ret,id_eq,cO,nl]
  conv=>arg 7;simp only[cO]
  refine aM (bV [0]) ?_;refine aL I (aU (i:=4) I λ_ o8=>aU (i:=5) I λ_ o9=>aV (i:=3) (cs':=#[.bool e1,lR,kZ]) I I I I (by simp only[cY,da,o8,o9];rfl) I (aM (bV [0]) ?_))
  try refine GW ?_
  refine aL I (aU (i:=12) I λ_ o_=>aU (i:=13) I λ_ pa=>aV (i:=2) (cs':=#[.bool e2,jH,ka]) I I I I (by simp only[cY,da,o_,pa];rfl) I (aM (bV [0]) ?_))
  try refine GW ?_
  refine dh [6,7,8,9,10,11,4,5,12,13,1,3,2] ?_;exact dJ (⟨pI,pJ,eT,pK,k7,F2⟩,lR,kZ,jH,ka,g7,g8) fE (by repeat' (first|exact cI|refine cC I ?_)) I
 clear TB Ax IP s8;rintro⟨⟨vc,vr,vfol,vl,vs,F⟩,lR,kZ,jH,ka,g7,g8⟩ fE;have fE:vs.length=p2.follow.length:=fE;dsimp only
 conv=>arg 7;simp only[zA,zB,zC,zD,zE,zF,zG,zH,zI,cL,ret,id_eq,nl]
 have QR:=jF hp4;have J':=jF hp5;have XG:=jF kp4;have hl4:=jF kp5
 cases e1 with
 | true=>
  (repeat refine b9 ?_)
  refine dK ([aP g7 #[.bool aD,lR,kZ] 174,aP g8 #[.bool e2,jH,ka] 174]) (.calm 0 (.calm 1 (.calm 2 (.calm 3 (.calm 4 (.calm 5 (.calm 6 (.calm 7 (.calm 8 (.calm 9 (.calm 11 (.calm 12 (.calm 13 (.calm 14 (.one 10 (.one 15 (.calm 16 (.one 17 (.done))))))))))))))))))) (bV [11,12]) ?_
  repeat(first|refine GW ?_|(refine GN ?_;first|refine QW (aC aK.ty I (aH (i:=0) I I)) ?_|refine QW (aC aK.ty I (aH (i:=1) I I)) ?_))
  refine aL I (aW (fI aI.en I I I) (λw' hm=>ie lR jH gT ia w' (Sl.dy (hm.get (i:=6) I)) (Sl.dy (hm.get (i:=8) I)) J J) I I I ?_);intro vu _
  conv=>arg 8;simp only[zJ,cL,ret,id_eq,sQ]
  refine aM (bV [11,12]) ?_
  try refine GW ?_
  refine aL I (aW (fI aI.en I I I) (λw' hm=>ie kZ ka kl jT w' (Sl.dy (hm.get (i:=7) I)) (Sl.dy (hm.get (i:=9) I)) J J) I I I ?_);intro vu2 _
  conv=>arg 8;simp only[zJ,cL,ret,id_eq,sQ]
  refine lu (i:=13) I λbu cu hu _ _=>?_;refine lu (i:=14) I λbu2 cu2 hu2 _ _=>?_;subst hu hu2;refine aM (bV [11,12]) ?_
  repeat(first|refine GW ?_|(refine GN ?_;first|refine QW (bB I (nf _ _ _ _ _ _ _)) ?_))
  refine aL I (aV (i:=10) (cs':=#[.bool aD,ap bu (qy gT ia).length cu,ap bu2 (qy kl jT).length cu2]) I I I I I I (aM (bV [11,12]) ?_))
  try refine GW ?_
  try refine GA ?_
  refine fF (i:=10) I I I I λw hm=>?_;exact hm.cB (S:=cO g vf ve bO (⟨aD||e2,qy gT ia,qy kl jT⟩,p2)) (⟨vc,vr,vfol,vl,vs,F⟩,ap bu (qy gT ia).length cu,ap bu2 (qy kl jT).length cu2) fE [0,1,2,3,4,5,13,14] aiz I
 | false=>
  (repeat refine b9 ?_)
  refine dK ([aP g7 #[.bool aE,lR,kZ] 174,aP g8 #[.bool e2,jH,ka] 174]) (.calm 0 (.calm 1 (.calm 2 (.calm 3 (.calm 4 (.calm 5 (.calm 6 (.calm 7 (.calm 8 (.calm 9 (.calm 11 (.calm 12 (.calm 13 (.calm 14 (.one 10 (.one 15 (.calm 16 (.one 17 (.done))))))))))))))))))) (bV [11,12]) ?_
  repeat(first|refine GW ?_|(refine GN ?_;first|refine QW (aC aK.ty I (aH (i:=0) I I)) ?_|refine QW (aC aK.ty I (aH (i:=1) I I)) ?_))
  refine aL I (aW (fI aI.en I I I) (λw' hm=>ie lR jH gT ia w' (Sl.dy (hm.get (i:=6) I)) (Sl.dy (hm.get (i:=8) I)) J J) I I I ?_);intro vu _
  conv=>arg 8;simp only[zJ,cL,ret,id_eq,sQ]
  refine aM (bV [11,12]) ?_
  try refine GW ?_
  refine aL I (aW (fI aI.en I I I) (λw' hm=>ie kZ ka kl jT w' (Sl.dy (hm.get (i:=7) I)) (Sl.dy (hm.get (i:=9) I)) J J) I I I ?_);intro vu2 _
  conv=>arg 8;simp only[zJ,cL,ret,id_eq,sQ]
  refine lu (i:=13) I λbu cu hu _ _=>?_;refine lu (i:=14) I λbu2 cu2 hu2 _ _=>?_;subst hu hu2;refine aM (bV [11,12]) ?_
  repeat(first|refine GW ?_|(refine GN ?_;first|refine QW (bB I (nf _ _ _ _ _ _ _)) ?_))
  refine aL I (aV (i:=10) (cs':=#[.bool e2,ap bu (qy gT ia).length cu,ap bu2 (qy kl jT).length cu2]) I I I I I I (aM (bV [11,12]) ?_))
  try refine GW ?_
  try refine GA ?_
  refine fF (i:=10) I I I I λw hm=>?_;exact hm.cB (S:=cO g vf ve bO (⟨aE||e2,qy gT ia,qy kl jT⟩,p2)) (⟨vc,vr,vfol,vl,vs,F⟩,ap bu (qy gT ia).length cu,ap bu2 (qy kl jT).length cu2) fE [0,1,2,3,4,5,13,14] aiz I
end bZ
namespace bZ
open Go.RowKit cU dM dg fZ ef
set_option maxRecDepth 100000 in
theorem XH{M:Nat}(IH:IM M)(a b1:Re)(ha:a.size<=M)(FC:b1.size<=M)(g:Nat)(vf ve:Value)(bO:Int)(p:PS)(x:U4)(v:Value)(w:World)(B:bR)(hp:Ld p)(hx:x.vs.length=p.follow.length)(hn:p.aZ.length+(a.size+b1.size+1)<=100000)(OJ:cU.dX bO)(hv:nQ (Av B) B.w v (lh (.Ia a b1)))(hm:Mem B (nl g vf ve bO x p) w):
 Calls aB 67 #[aJ (aj ⟨g,0,ak⟩),v] w (dc (cO g vf ve bO (cK bO (.Ia a b1) p)) B):=by
 obtain⟨vk,rfl,_,Q1⟩:=hv;obtain⟨bk,ck,rfl,h1,h2,h3⟩:=Q1;obtain⟨b,off,rfl,hF,eL⟩:=h3 (by show 0<2;decide);obtain⟨kb,kc,hr,ul⟩:=pT (k:=0) eL (by show 0<2;decide);obtain⟨kb2,kc2,vC,kH⟩:=pT (k:=1) eL (by show 1<2;decide);have IP:=λ(L:List b_) (j:Nat) (v:Value) hj=>sj (L:=L) hF hr j v hj;have s8:=λ(L:List b_) (j:Nat) (v:Value) hj=>sj (L:=L) hF vC j v hj;clear h3 eL hr vC;obtain⟨Fl,U5,hp3,hp4,hp5⟩:=ly bO a p hp;obtain⟨kp1,kp2,kp3,kp4,kp5⟩:=ly bO b1 _ Fl;have TB:=λw B hv hm=>IH a ha g vf ve bO p x (qm (lh a).kind (lh a).tK (ap kb (lh a).kids.length kc)) w B hp hx J OJ hv hm;have Ax:=λx1 j_ w B hv hm=>IH b1 FC g vf ve bO (cK bO a p).2 x1 (qm (lh b1).kind (lh b1).tK (ap kb2 (lh b1).kids.length kc2)) w B Fl j_ J OJ hv hm;rw[show cK bO (.Ia a b1) p=(⟨(cK bO a p).1.empty&&(cK bO b1 (cK bO a p).2).1.empty,if(cK bO a p).1.empty then qy (cK bO a p).1.first (cK bO b1 (cK bO a p).2).1.first else(cK bO a p).1.first,if(cK bO b1 (cK bO a p).2).1.empty then qy (cK bO a p).1.last (cK bO b1 (cK bO a p).2).1.last else(cK bO b1 (cK bO a p).2).1.last⟩,{(cK bO b1 (cK bO a p).2).2 with follow:=fh (cK bO b1 (cK bO a p).2).2.follow (cK bO a p).1.last (cK bO b1 (cK bO a p).2).1.first})from rfl];generalize cK bO b1 (cK bO a p).2=R2 at*;generalize cK bO a p=R1 at*;obtain⟨⟨e1,gT,kl⟩,p1⟩:=R1;obtain⟨⟨e2,ia,jT⟩,p2⟩:=R2;dsimp only at Fl U5 hp3 hp4 hp5 kp1 kp2 kp3 kp4 kp5 Ax⊢;unfold nl at hm;refine dA hm (args:=[aJ (aj ⟨g,0,ak⟩),qm 4 C4.zero (ap (aj ⟨b,off,ak⟩) 2 ck)]) (n:=176) Tryz.func67 I I I ?_;clear hm;refine b9 (bz (bQ I I I λg3=>aY I λg4=>?_));refine zL ?_
 repeat(first|refine GA ?_|refine gV (aC (v:=av az 4) aK.ty I (aH (i:=6) I I)) ?_)
 (repeat refine b9 ?_)
 refine kV (ι:=U4×Value×Value×Value×Value×Nat×Nat) (λy=>y.1.vs.length=p2.follow.length) (λy=>[(0,aJ (aj ⟨g,0,ak⟩)),(4,aJ (aj ⟨g4,0,ak⟩)),(9,aJ (aj ⟨y.2.2.2.2.2.1,0,ak⟩)),(10,aJ (aj ⟨y.2.2.2.2.2.2,0,ak⟩))])
  (λy=>nl g vf ve bO y.1 p2++[fW y.2.1 gT,fW y.2.2.1 kl,fW y.2.2.2.1 ia,fW y.2.2.2.2.1 jT,aP g4 #[.bool aE,ap ak 0 0,ap ak 0 0] 174,aP y.2.2.2.2.2.1 #[.bool e1,y.2.1,y.2.2.1] 174,aP y.2.2.2.2.2.2 #[.bool e2,y.2.2.2.1,y.2.2.2.2.1] 174]) ?_ ?_
 ·refine dK ([aP g3 (l8 4 C4.zero (ap (aj ⟨b,off,ak⟩) 2 ck)).toArray 80]) (.calm 0 (.calm 1 (.calm 2 (.calm 3 (.calm 4 (.calm 6 (.calm 7 (.calm 8 (.calm 9 (.calm 10 (.three 5 (.three 11 (.two 12 (.one 13 (.one 14 (.one 15 (.done)))) 13 (.one 12 (.one 14 (.one 15 (.done))))) 12 (.two 11 (.one 13 (.one 14 (.one 15 (.done)))) 13 (.one 11 (.one 14 (.one 15 (.done))))) 13 (.two 11 (.one 12 (.one 14 (.one 15 (.done)))) 12 (.one 11 (.one 14 (.one 15 (.done)))))) 12 (.two 5 (.two 11 (.one 13 (.one 14 (.one 15 (.done)))) 13 (.one 11 (.one 14 (.one 15 (.done))))) 13 (.one 5 (.one 11 (.one 14 (.one 15 (.done)))))) 13 (.two 5 (.two 11 (.one 12 (.one 14 (.one 15 (.done)))) 12 (.one 11 (.one 14 (.one 15 (.done))))) 12 (.one 5 (.one 11 (.one 14 (.one 15 (.done))))))))))))))))) (bV [6]) ?_
  repeat(first|refine GW ?_|(refine GN ?_;first|refine QW (aC (v:=ap (aj ⟨b,off,ak⟩) 2 ck) aK.ty I (aH (i:=0) I I)) ?_|refine QW (aX (j:=0) bL.eq aK.ty I I aiz) ?_|refine QW (aX (j:=1) bL.eq aK.ty I I aiz) ?_|refine QW (a8 aK.ty I I (IP _)) ?_|refine QW (a8 aK.ty I I (s8 _)) ?_))
  refine yu I I I ?_ ?_ ?_
  ·refine bx [0,1,2,3,4,5] [6,7] aiz I I (fI aI.en I I I) (λw hm hb=>TB w _ (eS (hm.pick [0,1,2,3,4,5] aiz I) ul) hb) I I I ?_
   rintro⟨⟨td,te,f_,tf,nG,F1⟩,lR,kZ⟩ j_;have j_:nG.length=p1.follow.length:=j_
   conv=>arg 8;simp only[zJ,cL,ret,id_eq,cO,nl]
   conv=>arg 7;simp only[cO]
   refine aM (bV [0]) ?_;refine yu I I I ?_ ?_ ?_
   ·refine bx [2,3,4,5,6,7] [0,1,8,9] aiz I I (fI aI.en I I I) (λw hm hb=>Ax ⟨td,te,f_,tf,nG,F1⟩ j_ w _ (eS (hm.pick [2,3,4,5,6,7] aiz I) kH) hb) I I I ?_
    rintro⟨⟨pI,pJ,eT,pK,k7,F2⟩,jH,ka⟩ fE;have fE:k7.length=p2.follow.length:=fE
    conv=>arg 8;simp only[zJ,cL,ret,id_eq,cO,nl]
    conv=>arg 7;simp only[cO]
    refine aM (bV [0]) ?_;refine ez I I ?_ ?_
    ·refine aY I λg7=>(aM (bV [0]) ?_)
     refine aL I (aY I λg8=>(aM (bV [0]) ?_));refine aL I (aU (i:=2) I λ_ o8=>aU (i:=3) I λ_ o9=>aV (i:=12) (cs':=#[.bool e1,lR,kZ]) I I I I (by simp only[cY,da,o8,o9];rfl) I (aM (bV [0]) ?_))
     try refine GW ?_
     refine aL I (aU (i:=10) I λ_ o_=>aU (i:=11) I λ_ pa=>aV (i:=13) (cs':=#[.bool e2,jH,ka]) I I I I (by simp only[cY,da,o_,pa];rfl) I (aM (bV [0]) ?_))
     try refine GW ?_
     refine dh [4,5,6,7,8,9,2,3,10,11,1,12,13] ?_;exact dJ (⟨pI,pJ,eT,pK,k7,F2⟩,lR,kZ,jH,ka,g7,g8) fE (by repeat' (first|exact cI|refine cC I ?_)) I
    refine aY I λg8=>(aM (bV [0]) ?_);refine aL I (aY I λg7=>(aM (bV [0]) ?_));refine aL I (aU (i:=2) I λ_ o8=>aU (i:=3) I λ_ o9=>aV (i:=13) (cs':=#[.bool e1,lR,kZ]) I I I I (by simp only[cY,da,o8,o9];rfl) I (aM (bV [0]) ?_))
    try refine GW ?_
    refine aL I (aU (i:=10) I λ_ o_=>aU (i:=11) I λ_ pa=>aV (i:=12) (cs':=#[.bool e2,jH,ka]) I I I I (by simp only[cY,da,o_,pa];rfl) I (aM (bV [0]) ?_))
    try refine GW ?_
    refine dh [4,5,6,7,8,9,2,3,10,11,1,13,12] ?_;exact dJ (⟨pI,pJ,eT,pK,k7,F2⟩,lR,kZ,jH,ka,g7,g8) fE (by repeat' (first|exact cI|refine cC I ?_)) I
   ·refine aY I λg7=>(aM (bV [0]) ?_)
    refine ez I I ?_ ?_
    ·refine bx [2,3,4,5,6,7] [0,1,8,9,10] aiz I I (fI aI.en I I I) (λw hm hb=>Ax ⟨td,te,f_,tf,nG,F1⟩ j_ w _ (eS (hm.pick [2,3,4,5,6,7] aiz I) kH) hb) I I I ?_
     rintro⟨⟨pI,pJ,eT,pK,k7,F2⟩,jH,ka⟩ fE;have fE:k7.length=p2.follow.length:=fE
     conv=>arg 8;simp only[zJ,cL,ret,id_eq,cO,nl]
     conv=>arg 7;simp only[cO]
     refine aM (bV [0]) ?_;refine aL I (aY I λg8=>(aM (bV [0]) ?_));refine aL I (aU (i:=2) I λ_ o8=>aU (i:=3) I λ_ o9=>aV (i:=4) (cs':=#[.bool e1,lR,kZ]) I I I I (by simp only[cY,da,o8,o9];rfl) I (aM (bV [0]) ?_))
     try refine GW ?_
     refine aL I (aU (i:=11) I λ_ o_=>aU (i:=12) I λ_ pa=>aV (i:=13) (cs':=#[.bool e2,jH,ka]) I I I I (by simp only[cY,da,o_,pa];rfl) I (aM (bV [0]) ?_))
     try refine GW ?_
     refine dh [5,6,7,8,9,10,2,3,11,12,1,4,13] ?_;exact dJ (⟨pI,pJ,eT,pK,k7,F2⟩,lR,kZ,jH,ka,g7,g8) fE (by repeat' (first|exact cI|refine cC I ?_)) I
    refine aY I λg8=>(aM (bV [0]) ?_);refine aL I (bx [2,3,4,5,6,7] [0,1,8,9,10,11] aiz I I (fI aI.en I I I) (λw hm hb=>Ax ⟨td,te,f_,tf,nG,F1⟩ j_ w _ (eS (hm.pick [2,3,4,5,6,7] aiz I) kH) hb) I I I ?_);rintro⟨⟨pI,pJ,eT,pK,k7,F2⟩,jH,ka⟩ fE;have fE:k7.length=p2.follow.length:=fE
    conv=>arg 8;simp only[zJ,cL,ret,id_eq,cO,nl]
    conv=>arg 7;simp only[cO]
    refine aM (bV [0]) ?_;refine aL I (aU (i:=2) I λ_ o8=>aU (i:=3) I λ_ o9=>aV (i:=4) (cs':=#[.bool e1,lR,kZ]) I I I I (by simp only[cY,da,o8,o9];rfl) I (aM (bV [0]) ?_))
    try refine GW ?_
    refine aL I (aU (i:=12) I λ_ o_=>aU (i:=13) I λ_ pa=>aV (i:=5) (cs':=#[.bool e2,jH,ka]) I I I I (by simp only[cY,da,o_,pa];rfl) I (aM (bV [0]) ?_))
    try refine GW ?_
    refine dh [6,7,8,9,10,11,2,3,12,13,1,4,5] ?_;exact dJ (⟨pI,pJ,eT,pK,k7,F2⟩,lR,kZ,jH,ka,g7,g8) fE (by repeat' (first|exact cI|refine cC I ?_)) I
   refine aY I λg8=>(aM (bV [0]) ?_);refine ez I I ?_ ?_
   ·refine bx [2,3,4,5,6,7] [0,1,8,9,10] aiz I I (fI aI.en I I I) (λw hm hb=>Ax ⟨td,te,f_,tf,nG,F1⟩ j_ w _ (eS (hm.pick [2,3,4,5,6,7] aiz I) kH) hb) I I I ?_
    rintro⟨⟨pI,pJ,eT,pK,k7,F2⟩,jH,ka⟩ fE;have fE:k7.length=p2.follow.length:=fE
    conv=>arg 8;simp only[zJ,cL,ret,id_eq,cO,nl]
    conv=>arg 7;simp only[cO]
    refine aM (bV [0]) ?_;refine aL I (aY I λg7=>(aM (bV [0]) ?_));refine aL I (aU (i:=2) I λ_ o8=>aU (i:=3) I λ_ o9=>aV (i:=13) (cs':=#[.bool e1,lR,kZ]) I I I I (by simp only[cY,da,o8,o9];rfl) I (aM (bV [0]) ?_))
    try refine GW ?_
    refine aL I (aU (i:=11) I λ_ o_=>aU (i:=12) I λ_ pa=>aV (i:=4) (cs':=#[.bool e2,jH,ka]) I I I I (by simp only[cY,da,o_,pa];rfl) I (aM (bV [0]) ?_))
    try refine GW ?_
    refine dh [5,6,7,8,9,10,2,3,11,12,1,13,4] ?_;exact dJ (⟨pI,pJ,eT,pK,k7,F2⟩,lR,kZ,jH,ka,g7,g8) fE (by repeat' (first|exact cI|refine cC I ?_)) I
   refine aY I λg7=>(aM (bV [0]) ?_);refine aL I (bx [2,3,4,5,6,7] [0,1,8,9,10,11] aiz I I (fI aI.en I I I) (λw hm hb=>Ax ⟨td,te,f_,tf,nG,F1⟩ j_ w _ (eS (hm.pick [2,3,4,5,6,7] aiz I) kH) hb) I I I ?_);rintro⟨⟨pI,pJ,eT,pK,k7,F2⟩,jH,ka⟩ fE;have fE:k7.length=p2.follow.length:=fE
   conv=>arg 8;simp only[zJ,cL,ret,id_eq,cO,nl]
   conv=>arg 7;simp only[cO]
   refine aM (bV [0]) ?_;refine aL I (aU (i:=2) I λ_ o8=>aU (i:=3) I λ_ o9=>aV (i:=5) (cs':=#[.bool e1,lR,kZ]) I I I I (by simp only[cY,da,o8,o9];rfl) I (aM (bV [0]) ?_))
   try refine GW ?_
   refine aL I (aU (i:=12) I λ_ o_=>aU (i:=13) I λ_ pa=>aV (i:=4) (cs':=#[.bool e2,jH,ka]) I I I I (by simp only[cY,da,o_,pa];rfl) I (aM (bV [0]) ?_))
   try refine GW ?_
   refine dh [6,7,8,9,10,11,2,3,12,13,1,5,4] ?_;exact dJ (⟨pI,pJ,eT,pK,k7,F2⟩,lR,kZ,jH,ka,g7,g8) fE (by repeat' (first|exact cI|refine cC I ?_)) I
  ·refine aY I λg7=>(aM (bV [6]) ?_)
   refine ez I I ?_ ?_
   ·refine bx [0,1,2,3,4,5] [6,7,8] aiz I I (fI aI.en I I I) (λw hm hb=>TB w _ (eS (hm.pick [0,1,2,3,4,5] aiz I) ul) hb) I I I ?_
    rintro⟨⟨td,te,f_,tf,nG,F1⟩,lR,kZ⟩ j_;have j_:nG.length=p1.follow.length:=j_
    conv=>arg 8;simp only[zJ,cL,ret,id_eq,cO,nl]
    conv=>arg 7;simp only[cO]
    refine aM (bV [0]) ?_;refine ez I I ?_ ?_
    ·refine bx [3,4,5,6,7,8] [0,1,2,9,10] aiz I I (fI aI.en I I I) (λw hm hb=>Ax ⟨td,te,f_,tf,nG,F1⟩ j_ w _ (eS (hm.pick [3,4,5,6,7,8] aiz I) kH) hb) I I I ?_
     rintro⟨⟨pI,pJ,eT,pK,k7,F2⟩,jH,ka⟩ fE;have fE:k7.length=p2.follow.length:=fE
     conv=>arg 8;simp only[zJ,cL,ret,id_eq,cO,nl]
     conv=>arg 7;simp only[cO]
     refine aM (bV [0]) ?_;refine aL I (aY I λg8=>(aM (bV [0]) ?_));refine aL I (aU (i:=3) I λ_ o8=>aU (i:=4) I λ_ o9=>aV (i:=2) (cs':=#[.bool e1,lR,kZ]) I I I I (by simp only[cY,da,o8,o9];rfl) I (aM (bV [0]) ?_))
     try refine GW ?_
     refine aL I (aU (i:=11) I λ_ o_=>aU (i:=12) I λ_ pa=>aV (i:=13) (cs':=#[.bool e2,jH,ka]) I I I I (by simp only[cY,da,o_,pa];rfl) I (aM (bV [0]) ?_))
     try refine GW ?_
     refine dh [5,6,7,8,9,10,3,4,11,12,1,2,13] ?_;exact dJ (⟨pI,pJ,eT,pK,k7,F2⟩,lR,kZ,jH,ka,g7,g8) fE (by repeat' (first|exact cI|refine cC I ?_)) I
    refine aY I λg8=>(aM (bV [0]) ?_);refine aL I (bx [3,4,5,6,7,8] [0,1,2,9,10,11] aiz I I (fI aI.en I I I) (λw hm hb=>Ax ⟨td,te,f_,tf,nG,F1⟩ j_ w _ (eS (hm.pick [3,4,5,6,7,8] aiz I) kH) hb) I I I ?_);rintro⟨⟨pI,pJ,eT,pK,k7,F2⟩,jH,ka⟩ fE;have fE:k7.length=p2.follow.length:=fE
    conv=>arg 8;simp only[zJ,cL,ret,id_eq,cO,nl]
    conv=>arg 7;simp only[cO]
    refine aM (bV [0]) ?_;refine aL I (aU (i:=3) I λ_ o8=>aU (i:=4) I λ_ o9=>aV (i:=2) (cs':=#[.bool e1,lR,kZ]) I I I I (by simp only[cY,da,o8,o9];rfl) I (aM (bV [0]) ?_))
    try refine GW ?_
    refine aL I (aU (i:=12) I λ_ o_=>aU (i:=13) I λ_ pa=>aV (i:=5) (cs':=#[.bool e2,jH,ka]) I I I I (by simp only[cY,da,o_,pa];rfl) I (aM (bV [0]) ?_))
    try refine GW ?_
    refine dh [6,7,8,9,10,11,3,4,12,13,1,2,5] ?_;exact dJ (⟨pI,pJ,eT,pK,k7,F2⟩,lR,kZ,jH,ka,g7,g8) fE (by repeat' (first|exact cI|refine cC I ?_)) I
   refine aY I λg8=>(aM (bV [6]) ?_);refine aL I (bx [0,1,2,3,4,5] [6,7,8,9] aiz I I (fI aI.en I I I) (λw hm hb=>TB w _ (eS (hm.pick [0,1,2,3,4,5] aiz I) ul) hb) I I I ?_);rintro⟨⟨td,te,f_,tf,nG,F1⟩,lR,kZ⟩ j_;have j_:nG.length=p1.follow.length:=j_
   conv=>arg 8;simp only[zJ,cL,ret,id_eq,cO,nl]
   conv=>arg 7;simp only[cO]
   refine aM (bV [0]) ?_;refine aL I (bx [4,5,6,7,8,9] [0,1,2,3,10,11] aiz I I (fI aI.en I I I) (λw hm hb=>Ax ⟨td,te,f_,tf,nG,F1⟩ j_ w _ (eS (hm.pick [4,5,6,7,8,9] aiz I) kH) hb) I I I ?_);rintro⟨⟨pI,pJ,eT,pK,k7,F2⟩,jH,ka⟩ fE;have fE:k7.length=p2.follow.length:=fE
   conv=>arg 8;simp only[zJ,cL,ret,id_eq,cO,nl]
   conv=>arg 7;simp only[cO]
   refine aM (bV [0]) ?_;refine aL I (aU (i:=4) I λ_ o8=>aU (i:=5) I λ_ o9=>aV (i:=2) (cs':=#[.bool e1,lR,kZ]) I I I I (by simp only[cY,da,o8,o9];rfl) I (aM (bV [0]) ?_))
   try refine GW ?_
   refine aL I (aU (i:=12) I λ_ o_=>aU (i:=13) I λ_ pa=>aV (i:=3) (cs':=#[.bool e2,jH,ka]) I I I I (by simp only[cY,da,o_,pa];rfl) I (aM (bV [0]) ?_))
   try refine GW ?_
   refine dh [6,7,8,9,10,11,4,5,12,13,1,2,3] ?_;exact dJ (⟨pI,pJ,eT,pK,k7,F2⟩,lR,kZ,jH,ka,g7,g8) fE (by repeat' (first|exact cI|refine cC I ?_)) I
  refine aY I λg8=>(aM (bV [6]) ?_);refine ez I I ?_ ?_
  ·refine bx [0,1,2,3,4,5] [6,7,8] aiz I I (fI aI.en I I I) (λw hm hb=>TB w _ (eS (hm.pick [0,1,2,3,4,5] aiz I) ul) hb) I I I ?_
   rintro⟨⟨td,te,f_,tf,nG,F1⟩,lR,kZ⟩ j_;have j_:nG.length=p1.follow.length:=j_
   conv=>arg 8;simp only[zJ,cL,ret,id_eq,cO,nl]
   conv=>arg 7;simp only[cO]
   refine aM (bV [0]) ?_;refine ez I I ?_ ?_
   ·refine bx [3,4,5,6,7,8] [0,1,2,9,10] aiz I I (fI aI.en I I I) (λw hm hb=>Ax ⟨td,te,f_,tf,nG,F1⟩ j_ w _ (eS (hm.pick [3,4,5,6,7,8] aiz I) kH) hb) I I I ?_
    rintro⟨⟨pI,pJ,eT,pK,k7,F2⟩,jH,ka⟩ fE;have fE:k7.length=p2.follow.length:=fE
    conv=>arg 8;simp only[zJ,cL,ret,id_eq,cO,nl]
    conv=>arg 7;simp only[cO]
    refine aM (bV [0]) ?_;refine aL I (aY I λg7=>(aM (bV [0]) ?_));refine aL I (aU (i:=3) I λ_ o8=>aU (i:=4) I λ_ o9=>aV (i:=13) (cs':=#[.bool e1,lR,kZ]) I I I I (by simp only[cY,da,o8,o9];rfl) I (aM (bV [0]) ?_))
    try refine GW ?_
    refine aL I (aU (i:=11) I λ_ o_=>aU (i:=12) I λ_ pa=>aV (i:=2) (cs':=#[.bool e2,jH,ka]) I I I I (by simp only[cY,da,o_,pa];rfl) I (aM (bV [0]) ?_))
    try refine GW ?_
    refine dh [5,6,7,8,9,10,3,4,11,12,1,13,2] ?_;exact dJ (⟨pI,pJ,eT,pK,k7,F2⟩,lR,kZ,jH,ka,g7,g8) fE (by repeat' (first|exact cI|refine cC I ?_)) I
   refine aY I λg7=>(aM (bV [0]) ?_);refine aL I (bx [3,4,5,6,7,8] [0,1,2,9,10,11] aiz I I (fI aI.en I I I) (λw hm hb=>Ax ⟨td,te,f_,tf,nG,F1⟩ j_ w _ (eS (hm.pick [3,4,5,6,7,8] aiz I) kH) hb) I I I ?_);rintro⟨⟨pI,pJ,eT,pK,k7,F2⟩,jH,ka⟩ fE;have fE:k7.length=p2.follow.length:=fE
   conv=>arg 8;simp only[zJ,cL,ret,id_eq,cO,nl]
   conv=>arg 7;simp only[cO]
   refine aM (bV [0]) ?_;refine aL I (aU (i:=3) I λ_ o8=>aU (i:=4) I λ_ o9=>aV (i:=5) (cs':=#[.bool e1,lR,kZ]) I I I I (by simp only[cY,da,o8,o9];rfl) I (aM (bV [0]) ?_))
   try refine GW ?_
   refine aL I (aU (i:=12) I λ_ o_=>aU (i:=13) I λ_ pa=>aV (i:=2) (cs':=#[.bool e2,jH,ka]) I I I I (by simp only[cY,da,o_,pa];rfl) I (aM (bV [0]) ?_))
   try refine GW ?_
   refine dh [6,7,8,9,10,11,3,4,12,13,1,5,2] ?_;exact dJ (⟨pI,pJ,eT,pK,k7,F2⟩,lR,kZ,jH,ka,g7,g8) fE (by repeat' (first|exact cI|refine cC I ?_)) I
  refine aY I λg7=>(aM (bV [6]) ?_);refine aL I (bx [0,1,2,3,4,5] [6,7,8,9] aiz I I (fI aI.en I I I) (λw hm hb=>TB w _ (eS (hm.pick [0,1,2,3,4,5] aiz I) ul) hb) I I I ?_);rintro⟨⟨td,te,f_,tf,nG,F1⟩,lR,kZ⟩ j_;have j_:nG.length=p1.follow.length:=j_
  conv=>arg 8;simp only[zJ,cL,ret,id_eq,cO,nl]
  conv=>arg 7;simp only[cO]
  refine aM (bV [0]) ?_;refine aL I (bx [4,5,6,7,8,9] [0,1,2,3,10,11] aiz I I (fI aI.en I I I) (λw hm hb=>Ax ⟨td,te,f_,tf,nG,F1⟩ j_ w _ (eS (hm.pick [4,5,6,7,8,9] aiz I) kH) hb) I I I ?_);rintro⟨⟨pI,pJ,eT,pK,k7,F2⟩,jH,ka⟩ fE;have fE:k7.length=p2.follow.length:=fE
  conv=>arg 8;simp only[zJ,cL,ret,id_eq,cO,nl]
  conv=>arg 7;simp only[cO]
  refine aM (bV [0]) ?_;refine aL I (aU (i:=4) I λ_ o8=>aU (i:=5) I λ_ o9=>aV (i:=3) (cs':=#[.bool e1,lR,kZ]) I I I I (by simp only[cY,da,o8,o9];rfl) I (aM (bV [0]) ?_))
  try refine GW ?_
  refine aL I (aU (i:=12) I λ_ o_=>aU (i:=13) I λ_ pa=>aV (i:=2) (cs':=#[.bool e2,jH,ka]) I I I I (by simp only[cY,da,o_,pa];rfl) I (aM (bV [0]) ?_))
  try refine GW ?_
  refine dh [6,7,8,9,10,11,4,5,12,13,1,3,2] ?_;exact dJ (⟨pI,pJ,eT,pK,k7,F2⟩,lR,kZ,jH,ka,g7,g8) fE (by repeat' (first|exact cI|refine cC I ?_)) I
 clear TB Ax IP s8;rintro⟨⟨vc,vr,vfol,vl,vs,F⟩,lR,kZ,jH,ka,g7,g8⟩ fE;have fE:vs.length=p2.follow.length:=fE;dsimp only
 conv=>arg 7;simp only[zA,zB,zC,zD,zE,zF,zG,zH,zI,cL,ret,id_eq,nl]
 have QR:=jF hp4;have J':=jF hp5;have XG:=jF kp4;have hl4:=jF kp5
 repeat(first|refine GA ?_|refine gV (aC (v:=kZ) aK.ty I (aH (i:=11) I I)) ?_|refine gV (aC (v:=jH) aK.ty I (aH (i:=12) I I)) ?_)
 refine bx [0,3,4,7,8] [1,2,5,6,9,10,11,12] aiz I I (sZ aI.en I I I I) (λw hm hb=>yR g vc vr vf vfol vl ve bO kZ jH vs F p2.follow kl ia w _ fE (by rw[kp1.follow];omega) (by rw[kp1.follow];exact kp1.ris) (by rw[kp1.follow];exact nF hp5 kp2) (by rw[kp1.follow];exact kp4) hb) I I I ?_;rintro⟨o7,F'⟩ hx3;have hx3:o7.length=p2.follow.length:=hx3
 conv=>arg 8;simp only[zJ,cL,ret,id_eq,Rj]
 refine lu (i:=3) I λba ca hva _ _=>?_;refine lu (i:=4) I λbb cb zx _ _=>?_;subst hva zx
 cases e1 with
 | true=>
  cases e2 with
  | true=>
   repeat(first|refine GA ?_|refine gV (aC aK.ty I (aH (i:=6) I I)) ?_|refine gV (aC aK.ty I (aH (i:=7) I I)) ?_|refine gV (bB I (nf _ _ _ _ _ _ _)) ?_)
   refine aY I λg11=>?_;refine zL ?_;refine gh 13 (cs':=#[.bool aD,ap ba gT.length ca,ap bb jT.length cb]) ?_;refine zL ?_
   repeat(first|refine GA ?_|refine gV (aC aK.ty I (aH (i:=6) I I)) ?_|refine gV (aC aK.ty I (aH (i:=7) I I)) ?_)
   refine aW (fI aI.en I I I) (λw' hm=>ie _ jH gT ia w' (Sl.dy (hm.get (i:=3) I)) (Sl.dy (hm.get (i:=12) I)) J J) I I I ?_;intro vu _
   conv=>arg 8;simp only[zJ,cL,ret,id_eq,sQ]
   try refine GA ?_
   refine aU (i:=14) I λqu1 qu2=>bU (i:=13) I I I qu1 qu2 I ?_;refine zL ?_
   repeat(first|refine GA ?_|refine gV (aC aK.ty I (aH (i:=6) I I)) ?_|refine gV (aC aK.ty I (aH (i:=7) I I)) ?_)
   refine aW (fI aI.en I I I) (λw' hm=>ie kZ _ kl jT w' (Sl.dy (hm.get (i:=11) I)) (Sl.dy (hm.get (i:=4) I)) J J) I I I ?_;intro vu2 _
   conv=>arg 8;simp only[zJ,cL,ret,id_eq,sQ]
   try refine GA ?_
   refine aU (i:=15) I λqv1 qv2=>bU (i:=13) I I I qv1 qv2 I ?_;refine zL ?_
   repeat(first|refine GA ?_|refine gV (aO (i:=13) aK.ty I I I) ?_|refine gV (aC aK.ty I (aH (i:=6) I I)) ?_|refine gV (aC aK.ty I (aH (i:=7) I I)) ?_)
   refine aV (i:=5) (cs':=#[.bool aD,vu,vu2]) I I I I (by simp only[cY,da,qu2,qv2];rfl) I ?_;refine zL ?_
   try refine GA ?_
   refine fF (i:=5) I I I I λw hm=>?_;exact hm.cB (S:=cO g vf ve bO (⟨aD,qy gT ia,qy kl jT⟩,{p2 with follow:=fh p2.follow kl ia})) (⟨vc,vr,vfol,vl,o7,F'⟩,vu,vu2) (by show o7.length=(fh p2.follow kl ia).length;rw[kG];exact hx3) [8,0,1,9,10,2,14,15] aiz I
  | false=>
   repeat(first|refine GA ?_|refine gV (aC aK.ty I (aH (i:=6) I I)) ?_|refine gV (aC aK.ty I (aH (i:=7) I I)) ?_|refine gV (bB I (nf _ _ _ _ _ _ _)) ?_)
   refine aY I λg11=>?_;refine zL ?_;refine gh 13 (cs':=#[.bool aE,ap ba gT.length ca,ap bb jT.length cb]) ?_;refine zL ?_
   repeat(first|refine GA ?_|refine gV (aC aK.ty I (aH (i:=6) I I)) ?_|refine gV (aC aK.ty I (aH (i:=7) I I)) ?_)
   refine aW (fI aI.en I I I) (λw' hm=>ie _ jH gT ia w' (Sl.dy (hm.get (i:=3) I)) (Sl.dy (hm.get (i:=12) I)) J J) I I I ?_;intro vu _
   conv=>arg 8;simp only[zJ,cL,ret,id_eq,sQ]
   try refine GA ?_
   refine aU (i:=14) I λqu1 qu2=>bU (i:=13) I I I qu1 qu2 I ?_;refine zL ?_
   repeat(first|refine GA ?_|refine gV (aO (i:=13) aK.ty I I I) ?_|refine gV (aC aK.ty I (aH (i:=6) I I)) ?_|refine gV (aC aK.ty I (aH (i:=7) I I)) ?_)
   refine aV (i:=5) (cs':=#[.bool aE,vu,ap bb jT.length cb]) I I I I (by simp only[cY,da,qu2];rfl) I ?_;refine zL ?_
   try refine GA ?_
   refine fF (i:=5) I I I I λw hm=>?_;exact hm.cB (S:=cO g vf ve bO (⟨aE,qy gT ia,jT⟩,{p2 with follow:=fh p2.follow kl ia})) (⟨vc,vr,vfol,vl,o7,F'⟩,vu,ap bb jT.length cb) (by show o7.length=(fh p2.follow kl ia).length;rw[kG];exact hx3) [8,0,1,9,10,2,14,4] aiz I
 | false=>
  cases e2 with
  | true=>
   repeat(first|refine GA ?_|refine gV (aC aK.ty I (aH (i:=6) I I)) ?_|refine gV (aC aK.ty I (aH (i:=7) I I)) ?_|refine gV (bB I (nf _ _ _ _ _ _ _)) ?_)
   refine aY I λg11=>?_;refine zL ?_;refine gh 13 (cs':=#[.bool aE,ap ba gT.length ca,ap bb jT.length cb]) ?_;refine zL ?_
   repeat(first|refine GA ?_|refine gV (aC aK.ty I (aH (i:=6) I I)) ?_|refine gV (aC aK.ty I (aH (i:=7) I I)) ?_)
   refine aW (fI aI.en I I I) (λw' hm=>ie kZ _ kl jT w' (Sl.dy (hm.get (i:=11) I)) (Sl.dy (hm.get (i:=4) I)) J J) I I I ?_;intro vu2 _
   conv=>arg 8;simp only[zJ,cL,ret,id_eq,sQ]
   try refine GA ?_
   refine aU (i:=14) I λqv1 qv2=>bU (i:=13) I I I qv1 qv2 I ?_;refine zL ?_
   repeat(first|refine GA ?_|refine gV (aO (i:=13) aK.ty I I I) ?_|refine gV (aC aK.ty I (aH (i:=6) I I)) ?_|refine gV (aC aK.ty I (aH (i:=7) I I)) ?_)
   refine aV (i:=5) (cs':=#[.bool aE,ap ba gT.length ca,vu2]) I I I I (by simp only[cY,da,qv2];rfl) I ?_;refine zL ?_
   try refine GA ?_
   refine fF (i:=5) I I I I λw hm=>?_;exact hm.cB (S:=cO g vf ve bO (⟨aE,gT,qy kl jT⟩,{p2 with follow:=fh p2.follow kl ia})) (⟨vc,vr,vfol,vl,o7,F'⟩,ap ba gT.length ca,vu2) (by show o7.length=(fh p2.follow kl ia).length;rw[kG];exact hx3) [8,0,1,9,10,2,3,14] aiz I
  | false=>
   repeat(first|refine GA ?_|refine gV (aC aK.ty I (aH (i:=6) I I)) ?_|refine gV (aC aK.ty I (aH (i:=7) I I)) ?_|refine gV (bB I (nf _ _ _ _ _ _ _)) ?_)
   refine aY I λg11=>?_;refine zL ?_;refine gh 13 (cs':=#[.bool aE,ap ba gT.length ca,ap bb jT.length cb]) ?_;refine zL ?_
   repeat(first|refine GA ?_|refine gV (aO (i:=13) aK.ty I I I) ?_|refine gV (aC aK.ty I (aH (i:=6) I I)) ?_|refine gV (aC aK.ty I (aH (i:=7) I I)) ?_)
   refine gh 5 (cs':=#[.bool aE,ap ba gT.length ca,ap bb jT.length cb]) ?_;refine zL ?_
   try refine GA ?_
   refine fF (i:=5) I I I I λw hm=>?_;exact hm.cB (S:=cO g vf ve bO (⟨aE,gT,jT⟩,{p2 with follow:=fh p2.follow kl ia})) (⟨vc,vr,vfol,vl,o7,F'⟩,ap ba gT.length ca,ap bb jT.length cb) (by show o7.length=(fh p2.follow kl ia).length;rw[kG];exact hx3) [8,0,1,9,10,2,3,4] aiz I
end bZ
namespace bZ
open Go.RowKit cU dM dg fZ ef
theorem Ci:∀M,IM M
 |0=>λe h=>by have:=e.size_pos;omega
 | M +1=>λe h g vf ve bO p x v w B hp hx hn hr hv hm=>by
  cases e with
  |none=>exact Tu g vf ve bO p x v w B hx hv hm
  |empty=>exact OH g vf ve bO p x v w B hx hv hm
  |byte c=>exact Tw c g vf ve bO p x v w B hp hx J hv hm
  | star a=>
   have h:a.size+1<=M+1:=h;exact Tz (Ci M) a J g vf ve bO p x v w B hp hx hn hr hv hm
  | Ib a b=>
   have h:a.size+b.size+1<=M+1:=h;exact XF (Ci M) a b J J g vf ve bO p x v w B hp hx hn hr hv hm
  | Ia a b=>
   have h:a.size+b.size+1<=M+1:=h;exact XH (Ci M) a b J J g vf ve bO p x v w B hp hx hn hr hv hm
end bZ
namespace bZ
open Go.RowKit cU dM dg fZ ef
theorem sk(w:World):(df 115 (#[]:Array (Nat×Value))).run aB w= .ok (aQ #[ap ak 0 0,ap ak 0 0,ap ak 0 0,ap ak 0 0,ap ak 0 0,ap ak 0 0]) w:=by
 go_simp
theorem TC(w:World):(df 172 (#[]:Array (Nat×Value))).run aB w= .ok (aQ #[ap ak 0 0,ap ak 0 0,ap ak 0 0,ap ak 0 0,ap ak 0 0,ap ak 0 0,av az 0]) w:=by
 go_simp
structure PIx where
 vc:Value
 vr:Value
 vf:Value
 vfol:Value
 vl:Value
 ve:Value
 vs:List Value
 F:Nat->Prop
def OK(x:PIx)(m:MS):List b_:=
 [a_ 77 4 x.vc m.ps.aZ.length (m.ps.aZ.flatMap dR),fW x.vr m.ps.rules,fW x.vf m.first,xM x.vfol x.vs,uk x.F x.vs m.ps.follow,a_ 4 1 x.vl m.ps.last.length (m.ps.last.map fN),a_ 4 1 x.ve m.empty.length (m.empty.map fN)]
def OL(x:PIx):Array Value:=#[x.vc,x.vr,x.vf,x.vfol,x.vl,x.ve]
def qA(R:Int×MS):Spec PIx:=⟨λx=>x.vs.length=R.2.ps.follow.length,λx=> .tuple #[.agg (OL x),av az R.1],λx=>OK x R.2⟩
def XI:PIx:=⟨ap ak 0 0,ap ak 0 0,ap ak 0 0,ap ak 0 0,ap ak 0 0,ap ak 0 0,[],λ_=>False⟩
theorem IQ{n:Nat}{W:bR}{Q:Exit->Act->World->Prop}{fr:Fr}{L:List b_}{e':Exit}(h:E n W e' Q fr (L++OK XI .zero)):E n W e' Q fr L:=by
 refine dF 77 4 (dF 3 1 (dF 3 1 (dF 27 1 (pR (uk (λ_=>False) [] []) (λk hk=>hk.elim (λh=>by cases h) id) (λw=>je) (dF 4 1 (dF 4 1 ?_))))));simp only[eY,kS,eJ];exact h
theorem aaT{vc vr vf vfol vl ve v:Value}{bO:Int}{j:Nat}(h:[vc,vr,vf,vfol,vl,ve][j]?=aj v):(Ri vc vr vf vfol vl ve bO)[0+j]?=aj v:=by
 rw[cV]
 match j,h with
 |0,h=>exact h
 |1,h=>exact h
 |2,h=>exact h
 |3,h=>exact h
 |4,h=>exact h
 |5,h=>exact h
def Ga(b:Bool):List Value:=[.bool b]
theorem TE(b:Bool):(Ga b).length=1:=rfl
theorem Ay(l:List Bool):l.flatMap Ga=l.map fN:=by
 induction l with
 |nil=>rfl
 |cons x r ih=>rw[mc,ih];rfl
def G2(rs:List Rx)(R:Int×MS):Prop:=
  ((rs.length=0\/20<rs.length)/\R=(1,.zero))\/(¬(rs.length=0\/20<rs.length)/\jG rs≠0/\R=(jG rs,.zero))\/
    (¬(rs.length=0\/20<rs.length)/\jG rs=0/\∃es:List Re,rs=es.map lh/\(∀e∈es,e.size<=100)/\R=lp 0 .zero es)
theorem OM{l:List Rx}{k:Nat}(h:k<l.length):jG (l.drop k)=if Le l[k]≠0 then Le l[k]else jG (l.drop (k+1)):=by
 rw[eI h,jG]
theorem DP(v:Value)(rs:List Rx)(R:Int×MS)(w:World)(hv:jQ xo (pD w) w v rs)(hR:G2 rs R):
    Calls aB 36 #[v] w (cz (qA R) w):=by
  obtain⟨bk,ck,rfl,h1,h2,h3⟩:=hv;unfold maxLen at h2;refine enter (args:=[ap bk rs.length ck]) (n:=104) Tryz.func36 I I I ?_;refine b9 (bz (aY I λg2=>?_));refine zL ?_;rcases hR with⟨c1,rfl⟩|hR
  · by_cases c2:rs.length=0
    · repeat(first|refine GC ?_|refine gV (de (b:=aD) I I (decide_eq_true J)) ?_|refine gV (bB I sk) ?_|refine GB ?_)
      refine gh 0 ?_;refine zL ?_
      try refine GA ?_
      refine IQ ?_;exact ey (i:=0) I I I I I λw hm=>hm.meets (S:=qA (1,.zero)) XI I [1,2,3,4,5,6,7] aiz I
    have c3:20<rs.length:=c1.resolve_left c2
    repeat(first|refine GC ?_|refine gV (de (b:=aE) I I (decide_eq_false J)) ?_|refine gV (dP (b:=aD) I I (decide_eq_true J)) ?_|refine gV (bB I sk) ?_|refine GB ?_)
    refine gh 0 ?_;refine zL ?_
    try refine GA ?_
    refine IQ ?_;exact ey (i:=0) I I I I I λw hm=>hm.meets (S:=qA (1,.zero)) XI I [1,2,3,4,5,6,7] aiz I
  have hlen:¬(rs.length=0\/20<rs.length):=by rcases hR with⟨h,_⟩|⟨h,_⟩<;>exact h
  repeat(first|refine GC ?_|refine gV (de (b:=aE) I I (decide_eq_false J)) ?_|refine gV (dP (b:=aE) I I (decide_eq_false J)) ?_|refine GB ?_)
  refine dY (ι:=Nat) (λk=>k<=rs.length/\jG rs=jG (rs.drop k)) (λk=>[(0,ap bk rs.length ck),(2,aJ (aj ⟨g2,0,ak⟩)),(22,ap bk rs.length ck),(23,av az rs.length),(24,av az (k:Int))])
    (λ_=>[aP g2 #[ap ak 0 0,ap ak 0 0,ap ak 0 0,ap ak 0 0,ap ak 0 0,ap ak 0 0] 115]) (λk=>rs.length-k) 0 ⟨bH _,rfl⟩ ?_
  rintro k ⟨i1,i2⟩
  by_cases c6:k<rs.length
  · obtain⟨b,off,rfl,hF,eL⟩:=h3 J
    obtain⟨kb,kc,hr,TA⟩:=pT eL c6;have dz:=λ(L:List b_) (j:Nat) (v:Value) (hj:(l8 rs[k].kind rs[k].tK (.slice kb rs[k].kids.length kc))[j]?=aj v)=>iD (L:=L) hr hj;have iS:∀w',Gr w w'->Calls aB 66 #[qm rs[k].kind rs[k].tK (.slice kb rs[k].kids.length kc)] w' (cz (ret (av az (Le rs[k]))) w'):=λw' hg=>tR _ _ w' (TA.gr hg);have hdr:=OM c6;clear h3 eL hr;generalize rs[k]=r at*
    repeat(first|refine GA ?_|refine gV (aX bL.eq aK.ty I I c6) ?_|refine gV (a8 aK.ty I I (dz _)) ?_)
    refine aY I λg5=>?_;refine zL ?_;refine gh 1 (cs':=(l8 r.kind r.tK (ap kb r.kids.length kc)).toArray) ?_;refine zL ?_
    repeat(first|refine GA ?_|refine gV (aO (i:=1) aK.ty I I I) ?_)
    refine aW (iM aI.en I I) (λw hm=>iS _ hm.below) I I I ?_;intro _ _;refine zL ?_
    by_cases c7:Le r=0
    · repeat(first|refine GC ?_|refine gV (dm (b:=aE) I I (decide_eq_false (by simpa using c7))) ?_|refine GB ?_)
      refine dh [0] ?_;exact bW (k+1) ⟨by omega,by rw[i2,hdr,if_neg (by simpa using c7)]⟩ (by show rs.length-(k+1)<rs.length-k;omega)
    have hne:jG rs≠0:=by rw[i2,hdr,if_pos c7];exact c7
    rcases hR with⟨_,_,rfl⟩|⟨_,h0,_⟩
    · rw[i2,hdr,if_pos c7]
      repeat(first|refine GC ?_|refine gV (dm (b:=aD) I I (decide_eq_true c7)) ?_|refine gV (bB I sk) ?_|refine GB ?_)
      refine gh 0 ?_;refine zL ?_
      try refine GA ?_
      refine IQ ?_;exact ey (i:=0) I I I I I λw hm=>hm.meets (S:=qA (Le r,.zero)) XI I [2,3,4,5,6,7,8] aiz I
    exact absurd h0 hne
  · obtain rfl:k=rs.length:=by omega
    have h0:jG rs=0:=by rw[i2,oL (bm _)];rfl
    obtain⟨es,rfl,hsz,rfl⟩:∃es:List Re,rs=es.map lh/\(∀e∈es,e.size<=100)/\R=lp 0 .zero es:=by
      rcases hR with⟨_,h,_⟩|⟨_,_,h⟩
      exact absurd h0 h;exact h
    have h20:(WU lh es).length<=20:=by omega
    clear hR hlen i1 i2
    repeat(first|refine GA ?_|refine gV (bB I TC) ?_)
    refine bQ I I I λg7=>?_;refine zL ?_
    try refine GA ?_
    refine ja 77 4 (ja 3 1 (ja 27 1 (ml (uk (λ_=>False) [] []) (λk hk=>hk.elim (λh=>by cases h) id) (λw=>je) (ja 4 1 (ja 3 1 (ja 4 1 ?_))))));refine dY (ι:=Nat×MS×U4×Value×Value×Int) (λ(k,m,x,_,_,_)=>k<=es.length/\lp 0 .zero es=lp k m (es.drop k)/\OD m/\m.ps.aZ.length<=200/\x.vs.length=m.ps.follow.length/\m.empty.length=k) (λ(k,_,_,_,_,_)=>[(2,aJ (aj ⟨g2,0,ak⟩)),(7,aJ (aj ⟨g7,0,ak⟩)),(37,ap bk (es.map lh).length ck),(38,av az (es.map lh).length),(39,av az (k:Int))])
      (λ(_,m,x,vf,ve,bO)=>[aP g2 #[ap ak 0 0,ap ak 0 0,ap ak 0 0,ap ak 0 0,ap ak 0 0,ap ak 0 0] 115]++nl g7 vf ve bO x m.ps++[fW vf m.first,a_ 4 1 ve m.empty.length (m.empty.map fN)]) (λ(k,_,_,_,_,_)=>es.length-k)
      (0,.zero,⟨ap ak 0 0,ap ak 0 0,ap ak 0 0,ap ak 0 0,[],λ_=>False⟩,ap ak 0 0,ap ak 0 0,0) ⟨bH _,rfl,IF,bH _,rfl,rfl⟩ ?_
    rintro⟨k,m,⟨vc,vr,vfol,vl,vs,F⟩,vf,ve,bO⟩ ⟨i1,i2,i3,i4,i5,i6⟩;dsimp only at i1 i2 i3 i4 i5 i6⊢
    conv=>arg 7;simp only[zA,zB,zC,zD,zE,zF,zG,zH,zI,cL,ret,id_eq,nl]
    have hml:(WU lh es).length=es.length:=dI ..
    by_cases c6:k<es.length
    · obtain⟨b,off,rfl,hF,eL⟩:=h3 J
      obtain⟨kb,kc,hr,TA⟩:=pT (k:=k) eL J;have dz:=λ(L:List b_) (j:Nat) (v:Value) (hj:(l8 (es.map lh)[k].kind (es.map lh)[k].tK (.slice kb (es.map lh)[k].kids.length kc))[j]?=aj v)=>iD (L:=L) hr hj;have hke:(es.map lh)[k]' J=lh es[k]:=r9 ..;rw[hke]at dz TA;have hse:=hsz es[k] (cD c6);rw[eI c6,lp]at i2;clear h3 eL hr hke;generalize es[k]=e at*;have hst:=Rb k i3 e;have Kn:=ly k e m.ps i3.ps;have hno:=λv w B hv hm=>Ci 100 e hse g7 vf ve k m.ps ⟨vc,vr,vfol,vl,vs,F⟩ v w B i3.ps i5 J ⟨by omega,by omega⟩ hv hm
      repeat(first|refine GA ?_|refine gV (aX bL.eq aK.ty I I J) ?_|refine gV (a8 aK.ty I I (dz _)) ?_)
      refine aY I λg9=>?_;refine zL ?_
      try refine GA ?_
      refine gh 9 (cs':=(l8 (lh e).kind (lh e).tK (ap kb (lh e).kids.length kc)).toArray) ?_;refine zL ?_
      try refine GA ?_
      refine bU (i:=1) I I I I I I ?_;refine zL ?_
      repeat(first|refine GA ?_|refine gV (aO (i:=9) aK.ty I I I) ?_)
      refine bx [1,2,3,4,5,6] [0,7,8,9] aiz I I (fI aI.en I I I) (λw hm hb=>hno _ w _ (eS (hm.pick [1,2,3,4,5,6] aiz I) (TA.mono λk hk=>⟨hk,id⟩)) hb) I I I ?_;rintro⟨⟨FB,BO,wB,Rm,o7,F'⟩,va,vb⟩ QG
      conv=>arg 8;simp only[zJ,cL,ret,id_eq,cO,nl]
      conv=>arg 7;simp only[cO]
      have QG:o7.length=(cK k e m.ps).2.follow.length:=QG;unfold wz at i2 hst;generalize cK k e m.ps=R at*;obtain⟨⟨em,first,last⟩,p'⟩:=R;dsimp only at i2 hst Kn QG⊢;obtain⟨n1,n2,n3,n4,n5⟩:=Kn;have QR:=jF i3.first;have J':=jF n4;have XG:=jF n5;refine aU (i:=10) I λ_ qa=>aU (i:=11) I λ_ qb=>aY I λg10=>?_;refine zL ?_;refine aV (i:=12) (cs':=#[.bool em,va,vb]) I I I I (by simp only[cY,da,qa,qb];rfl) I ?_;refine zL ?_
      try refine GA ?_
      (repeat refine b9 ?_)
      refine kV (ι:=Value) (λU6=>U6.oneCell'=aD) (λ_=>[(2,aJ (aj ⟨g2,0,ak⟩)),(7,aJ (aj ⟨g7,0,ak⟩)),(10,aJ (aj ⟨g10,0,ak⟩)),(37,ap (aj ⟨b,off,ak⟩) (es.map lh).length ck),(38,av az (es.map lh).length),(39,av az (k:Int))])
        (λU6=>[aP g2 #[ap ak 0 0,ap ak 0 0,ap ak 0 0,ap ak 0 0,ap ak 0 0,ap ak 0 0] 115,aP g7 (Ri FB BO U6 wB Rm ve (k:Int)) 172,a_ 77 4 FB p'.aZ.length (p'.aZ.flatMap dR),fW BO p'.rules,xM wB o7,uk F' o7 p'.follow,a_ 4 1 Rm p'.last.length (p'.last.map fN),fW U6 (qy m.first first),a_ 4 1 ve m.empty.length (m.empty.map fN),aP g10 #[.bool em,va,vb] 174,fW vb last]) ?_ ?_
      · refine dK ([aP g10 #[.bool em,va,vb] 174]) (.calm 0 (.calm 1 (.calm 2 (.calm 3 (.calm 4 (.calm 6 (.calm 7 (.one 5 (.one 8 (.calm 9 (.calm 10 (.calm 11 (.one 12 (.done)))))))))))))) (bV [12]) ?_
        repeat(first|refine GW ?_|(refine GN ?_;first|refine QW (aC aK.ty I (aH (i:=0) I I)) ?_))
        refine aL I (du (aC (v:=vf) aK.ty I (aH (i:=4) I I)) I I I (aM (bV [12]) ?_));refine aL I (aW (fI aI.en I I I) (λw' hm=>ie vf va m.first first w' (Sl.dy (hm.get (i:=1) I)) (Sl.dy (hm.get (i:=10) I)) J J) I I I ?_);intro U6 _
        conv=>arg 8;simp only[zJ,cL,ret,id_eq,sQ]
        refine aM (bV [12]) ?_
        try refine GW ?_
        refine aL I (aU (i:=13) I λqf1 qf2=>bU (i:=4) I I I qf1 qf2 I (aM (bV [12]) ?_))
        try refine GW ?_
        refine dh [0,4,5,6,7,8,9,13,2,12,11] ?_;exact dJ U6 qf2 (by repeat' (first|exact cI|refine cC I ?_)) I
      intro U6 B5
      (repeat refine b9 ?_)
      refine kV (ι:=Value) (λRn=>Rn.oneCell'=aD) (λ_=>[(2,aJ (aj ⟨g2,0,ak⟩)),(7,aJ (aj ⟨g7,0,ak⟩)),(10,aJ (aj ⟨g10,0,ak⟩)),(37,ap (aj ⟨b,off,ak⟩) (es.map lh).length ck),(38,av az (es.map lh).length),(39,av az (k:Int))])
        (λRn=>[aP g2 #[ap ak 0 0,ap ak 0 0,ap ak 0 0,ap ak 0 0,ap ak 0 0,ap ak 0 0] 115,aP g7 (Ri FB BO U6 wB Rm Rn (k:Int)) 172,a_ 77 4 FB p'.aZ.length (p'.aZ.flatMap dR),fW BO p'.rules,xM wB o7,uk F' o7 p'.follow,a_ 4 1 Rm p'.last.length (p'.last.map fN),fW U6 (qy m.first first),a_ 4 1 Rn (m.empty++[em]).length ((m.empty++[em]).map fN),aP g10 #[.bool em,va,vb] 174,fW vb last]) ?_ ?_
      · refine dK ([aP g10 #[.bool em,va,vb] 174]) (.calm 0 (.calm 1 (.calm 2 (.calm 3 (.calm 4 (.calm 6 (.calm 7 (.two 5 (.one 8 (.one 9 (.calm 10 (.calm 11 (.calm 12 (.one 13 (.done))))))) 8 (.one 5 (.one 9 (.calm 10 (.calm 11 (.calm 12 (.one 13 (.done))))))))))))))) (bV [9]) ?_
        repeat(first|refine GW ?_|(refine GN ?_;first|refine QW (aC aK.ty I (aH (i:=0) I I)) ?_))
        refine ez I I ?_ ?_
        · refine du (aC (v:=ve) aK.ty I (aH (i:=1) I I)) I I I (aM (bV [9]) ?_)
          refine aL I (fm (cs:=#[.bool em]) [.bool em] I I I (by intro v hv;simp at hv;subst hv;rfl) I I I λg71=>(aM (bV [9]) ?_));refine aL I (eD (i:=8) (e:=4) (size:=1) (bytes:=1) (m:=m.empty.length) (xs:=m.empty.map fN) (k:=1) (ys:=[.bool em]) I (kX (i:=11) I (λj u h=>by simpa using h) (bm 1) aiz) I I I (λu hu=>by rw[dQ.1 hu];rfl) J J I λRn=>(aM (bV [9]) ?_))
          try refine GW ?_
          refine aL I (aU (i:=8) I λqe1 qe2=>bU (i:=1) I I I qe1 qe2 I (aM (bV [9]) ?_))
          try refine GW ?_
          refine dh [0,1,2,3,4,5,6,7,8,9,10] ?_;exact dJ Rn qe2 (by repeat' (first|exact cI|refine cC I ?_)) (by rw[<-Aw Rn m.empty em];rfl)
        refine fm (cs:=#[.bool em]) [.bool em] I I I (by intro v hv;simp at hv;subst hv;rfl) I I I λg71=>(aM (bV [9]) ?_);refine aL I (du (aC (v:=ve) aK.ty I (aH (i:=1) I I)) I I I (aM (bV [9]) ?_));refine aL I (eD (i:=8) (e:=4) (size:=1) (bytes:=1) (m:=m.empty.length) (xs:=m.empty.map fN) (k:=1) (ys:=[.bool em]) I (kX (i:=11) I (λj u h=>by simpa using h) (bm 1) aiz) I I I (λu hu=>by rw[dQ.1 hu];rfl) J J I λRn=>(aM (bV [9]) ?_))
        try refine GW ?_
        refine aL I (aU (i:=8) I λqe1 qe2=>bU (i:=1) I I I qe1 qe2 I (aM (bV [9]) ?_))
        try refine GW ?_
        refine dh [0,1,2,3,4,5,6,7,8,9,10] ?_;exact dJ Rn qe2 (by repeat' (first|exact cI|refine cC I ?_)) (by rw[<-Aw Rn m.empty em];rfl)
      intro Rn he';rw[show p'.last.map fN=p'.last.flatMap Ga from(Ay _).symm];refine io (i:=10) (φ:=∃a c,vb=ap a last.length c/\(0<last.length->∃gl,a=aj ⟨gl,0,ak⟩)) I (λw h=>by
        obtain⟨y1,y2⟩:=(show w.ownsRow 0 3 1 vb last.length (last.map (av .i64))from h);rcases y2 with⟨y3,y4⟩|⟨gl,cap,jM,hv,_⟩
        exact⟨ak,0,by rw[y3,y4],λh=>by omega⟩;exact⟨_,_,hv,λ_=>⟨gl,rfl⟩⟩) λzx=>?_
      obtain⟨al,cl,rfl,hal⟩:=zx;refine io (i:=6) (φ:=0<p'.last.length->∃gb cb,Rm=ap (aj ⟨gb,0,ak⟩) p'.last.length cb) I (λw h=>by
        obtain⟨y1,y2⟩:=(show w.ownsRow 0 4 1 Rm p'.last.length (p'.last.flatMap Ga)from h);rcases y2 with⟨y3,y4⟩|⟨gl,cap,jM,hv,_⟩
        intro h;omega;exact λ_=>⟨gl,cap,hv⟩) λhvl=>?_
      repeat(first|refine GA ?_|refine gV (aC (v:=ap al last.length cl) aK.ty I (aH (i:=9) I I)) ?_)
      refine tJ [0,1,2,3,4,5,6,7,8,10] ?_;refine dY (ι:=Nat) (λj=>j<=last.length) (λj=>[(2,aJ (aj ⟨g2,0,ak⟩)),(7,aJ (aj ⟨g7,0,ak⟩)),(37,ap (aj ⟨b,off,ak⟩) (es.map lh).length ck),(38,av az (es.map lh).length),(39,av az (k:Int)),(77,ap al last.length cl),(78,av az last.length),(79,av az (j:Int))])
        (λj=>[aP g2 #[ap ak 0 0,ap ak 0 0,ap ak 0 0,ap ak 0 0,ap ak 0 0,ap ak 0 0] 115,aP g7 (Ri FB BO U6 wB Rm Rn (k:Int)) 172,a_ 77 4 FB p'.aZ.length (p'.aZ.flatMap dR),fW BO p'.rules,xM wB o7,uk F' o7 p'.follow,a_ 4 1 Rm p'.last.length ((fK p'.last (last.take j)).flatMap Ga),fW U6 (qy m.first first),a_ 4 1 Rn (m.empty++[em]).length ((m.empty++[em]).map fN),fW (ap al last.length cl) last]) (λj=>last.length-j) 0 (bH _) ?_
      intro j j1
      by_cases c7:j<last.length
      · obtain⟨gl,rfl⟩:=hal J
        have hx:=n5.2 last[j] (cD c7);have hgx:last[j]?=aj last[j]:=bD c7;have hms:=Tr p'.last last c7;have ah6:=DN p'.last (last.take j);generalize last[j]=xx at*;obtain⟨xn,rfl⟩:=hY hx.1;rw[dB]at hms;have hxn:xn<p'.last.length:=by rw[n1.last];omega
        obtain⟨gb,cb,rfl⟩:=hvl J;have adV:∀(L:List b_) (hi:L[9]?=aj (fW (ap (aj ⟨gl,0,ak⟩) last.length cl) last)),At (w:bR) L ⟨gl,0+j*1,ak⟩ (av az (xn:Int)):=λL hi=>jY hi (by rw[eX,cV,kw,hgx];rfl)
        repeat(first|refine GA ?_|refine gV (aX bL.eq aK.ty I I c7) ?_|refine gV (aC (v:=av az (xn:Int)) aK.ty I (adV _ I)) ?_|refine gV (aC (v:=ap (aj ⟨gb,0,ak⟩) p'.last.length cb) aK.ty I (aH (i:=1) I I)) ?_|refine gV (aX bL.eq aK.ty I I hxn) ?_)
        refine Aa TE (i:=6) (k:=xn) (l:=fK p'.last (last.take j)) (a:=aD) aK.ty I I J J J I I I ?_;rw[<-hms];refine zL ?_
        try refine GA ?_
        exact bW (j+1) J (by show last.length-(j+1)<last.length-j;omega)
      obtain rfl:j=last.length:=by omega
      rw[gK (bm _),Ay];refine io (i:=2) (φ:=∃a c,FB=ap a p'.aZ.length c) I (λw h=>by
        obtain⟨a,c,h,_⟩:=Sl.dy (show w.ownsRow 0 77 4 FB p'.aZ.length (p'.aZ.flatMap dR)from h);exact⟨a,c,h⟩) λhvc=>?_
      obtain⟨ac,cc,rfl⟩:=hvc
      by_cases c8:200<p'.aZ.length
      · rw[if_pos c8]at i2
        rw[i2]
        repeat(first|refine GC ?_|refine gV (aC (v:=ap ac p'.aZ.length cc) aK.ty I (aH (i:=1) I I)) ?_|refine gV (dP (b:=aD) I I (decide_eq_true J)) ?_|refine gV (bB I sk) ?_|refine GB ?_)
        refine gh 0 ?_;refine zL ?_
        try refine GA ?_
        refine IQ ?_;exact ey (i:=0) I I I I I λw hm=>hm.meets (S:=qA (2,.zero)) XI I [10,11,12,13,14,15,16] aiz I
      rw[if_neg c8]at i2
      repeat(first|refine GC ?_|refine gV (aC (v:=ap ac p'.aZ.length cc) aK.ty I (aH (i:=1) I I)) ?_|refine gV (dP (b:=aE) I I (decide_eq_false J)) ?_|refine GB ?_)
      refine dh [0,1,2,3,4,5,6,7,8] ?_;exact bW (k+1,⟨{p' with last:=fK p'.last last},qy m.first first,m.empty++[em]⟩,⟨ap ac p'.aZ.length cc,BO,wB,Rm,o7,F'⟩,U6,Rn,(k:Int)) ⟨by omega,i2,hst.1,by show p'.aZ.length<=200;omega,QG,by rw[bK,lO,i6]⟩ (by show es.length-(k+1)<es.length-k;omega) (hl:=by dsimp only;rw[show p'.last.length=(fK p'.last last).length from(DN _ _).symm];rfl)
    obtain rfl:k=es.length:=by omega
    rw[oL (bm _)]at i2;rw[i2]
    try refine GA ?_
    refine aU (i:=2) I λ_ a1=>aU (i:=3) I λ_ a2=>aU (i:=4) I λ_ a3=>aU (i:=6) I λ_ a4=>aU (i:=7) I λ_ a5=>aU (i:=8) I λ_ a6=>?_
    repeat(first|refine GA ?_|refine gV (a8 (cs:=[vc,vr,vf,vfol,vl,ve]) aK.ty I I (λj v hj=>aH (i:=1) I (aaT hj))) ?_)
    refine aV (i:=0) (cs':=#[vc,vr,vf,vfol,vl,ve]) I I I I (by simp only[cY,da,a1,a2,a3,a4,a5,a6];rfl) I ?_;refine zL ?_
    try refine GA ?_
    exact ey (i:=0) I I I I I λw hm=>hm.meets (S:=qA (0,m)) ⟨vc,vr,vf,vfol,vl,ve,vs,F⟩ i5 [2,3,7,4,5,6,8] aiz I
end bZ
namespace bZ
open Go.RowKit cU dM dg fZ ef kL
theorem Ro:∀{rs:List Rx},jG rs=0->∃es:List Re,rs=es.map lh/\∀e∈es,Fit e 1 0
 |[],_=>⟨[],rfl,λ_ h=>by cases h⟩
 |r::l,h=>by
  have hr:=GY h r (gZ ..);have hl:jG l=0:=by rw[jG,if_neg (by simpa using hr)]at h;exact h
  obtain⟨es,rfl,h2⟩:=Ro hl;obtain⟨e,rfl,hf,_⟩:=Ic (sN r) r 1 0 (l7 r 1 0).2 (bm _) (by rw[<-hr]);refine⟨e::es,rfl,λx hx=>?_⟩;rcases dx.1 hx with rfl|hx
  exact hf;exact h2 x hx
theorem XJ{e:Re}(h:Fit e 1 0):e.size<=100:=by have:=h.sz;omega
theorem G3:∀(es:List Re) (i:Nat) (m:MS),(lp i m es).1≠0->(lp i m es).2= .zero
 |[],_,_,h=>absurd I h
 |e::r,i,m,h=>by
  rw[lp]at h⊢;split at h
  ·rename_i c;rw[if_pos c]
  rename_i c;rw[if_neg c];exact G3 r _ _ h
theorem TF(rs:List Rx):(∃k:Int,k≠0/\G2 rs (k,.zero))\/∃(es:List Re) (m:MS),rs=es.map lh/\(∀e∈es,Fit e 1 0)/\0<es.length/\es.length<=20/\lp 0 .zero es=(0,m)/\G2 rs (0,m):=by
 by_cases c:rs.length=0\/20<rs.length
 exact .inl ⟨1,by decide,.inl ⟨c,rfl⟩⟩
 by_cases h:jG rs=0
 ·obtain⟨es,h1,h2⟩:=Ro h
  have hR:G2 rs (lp 0 .zero es):= .inr (.inr ⟨c,h,es,h1,λe he=>XJ (h2 e he),rfl⟩);have hz:=G3 es 0 .zero;have hl:rs.length=es.length:=by rw[h1,dI]
  obtain⟨k,m,e⟩:∃k m,lp 0 .zero es=(k,m):=⟨_,_,rfl⟩;rw[e]at hR hz
  by_cases h0:k=0
  ·subst h0
   exact .inr ⟨es,m,h1,h2,by omega,by omega,e,hR⟩
  obtain rfl:m= .zero:=hz h0;exact .inl ⟨k,h0,hR⟩
 exact .inl ⟨jG rs,h,.inr (.inl ⟨c,h,rfl⟩)⟩
theorem fV{e:TypeId}{size n:Nat}{v:Value}{xs:List Value}(w:World)(h:(a_ e size v n xs).holds w):∃a c,v=ap a n c/\n<=9223372036854775807/\(0<n->∃g,a=aj ⟨g,0,ak⟩):=by
 rcases(show w.ownsRow 0 e size v n xs from h).2 with⟨rfl,rfl⟩|⟨g,cap,jM,rfl,_,_,hn,hm,_⟩
 exact⟨_,_,rfl,by omega,λh=>by omega⟩;exact⟨_,_,rfl,by unfold maxLen at hm;omega,λ_=>⟨g,rfl⟩⟩
theorem aaU{F:Nat->Prop}{v:Value}{vs:List Value}{mJ:List (List Int)}{w:World}(hr:(xM v vs).holds w)(he:(uk F vs mJ).holds w)(hl:vs.length=mJ.length):jQ (bM fz) (pD w) w v mJ:=by
 have H4:w.ownsRow 0 27 1 v vs.length (vs.flatMap yQ):=hr;obtain⟨base,cap,h1,h2,h3,h4⟩:=Sl.dy H4;rw[hl]at h1 h2;refine⟨base,cap,h1,h2,h3,λh0=>?_⟩;obtain⟨b,off,h5,h6⟩:=h4 J;rw[Tt]at h6;refine⟨b,off,h5,?_,λi hi=>⟨[vs[i]' J],⟨vs[i]' J,rfl,?_⟩,λj u hj=>?_⟩⟩
 ·have:=h6 0 _ (bD J)
  exact nL w _ this
 ·have hs:=XD he hi J
  obtain⟨⟨q1,q2⟩,q3⟩:=he;obtain⟨v',KP,lf,_,hF⟩:=q2 i hi (by rw[dI];omega);rw[r9]at KP;simp only[yQ,fO,and_true]at KP;rw[<-q6]at hs;refine jQ.of_flat hs lf (λb hb=>q3 b (hF b (by rw[<-KP];exact hb))) λa n cp hv=>q3 a.block (hF _ (by rw[<-KP,hv];rfl))
 have hj0:j=0:=by have:=(dl.1 hj).1;simp at this;exact this
 subst hj0;have:=h6 i u (by rw[bD J];exact hj);show w.cell? ⟨b,off+i*1+0,ak⟩=aj u
 rw[kw,jw];exact this
end bZ
namespace bZ
open Go.RowKit cU dM
theorem jU(a:Int):(cU.eo a).length=1:=rfl
end bZ
namespace bZ
open Go.RowKit cU dM
def boC(b:Bool):List Value:=[.bool b]
theorem Rp(a:Bool):(boC a).length=1:=rfl
end bZ
namespace bZ
open Go.RowKit cU dM dg ef
theorem aaV{F:Nat->Prop}{w:World}{cs:List Value}{l:List Int}(h:(bM fz).is F w cs l):∃v,cs=[v]/\Sl w v l.length (l.flatMap cU.eo):=by
 obtain⟨v,h1,h2⟩:=h;exact⟨v,h1,h2.flat aiz⟩
theorem sm{w w':World}{v:Value}{l:List (List Int)}(h:jQ (bM fz) (pD w) w v l)(hg:Gr w w'):jQ (bM fz) (pD w') w' v l:=
 (h.stay λk hk=>hg.block k hk).mono λ_ hk=>jv hk hg.size
def FD(w:World)(v:Value)(m:MS):Prop:=
 ∃ vc vr vf vfol vl ve,v=aQ #[vc,vr,vf,vfol,vl,ve]/\Sl w vc m.ps.aZ.length (m.ps.aZ.flatMap dR)/\Sl w vr m.ps.rules.length (m.ps.rules.flatMap cU.eo)/\Sl w vf m.first.length (m.first.flatMap cU.eo)/\
  jQ (bM fz) (pD w) w vfol m.ps.follow/\Sl w vl m.ps.last.length (m.ps.last.flatMap boC)/\Sl w ve m.empty.length (m.empty.flatMap boC)
theorem FD.gr{w w':World}{v:Value}{m:MS}(h:FD w v m)(hg:Gr w w'):FD w' v m:=by
 obtain⟨vc,vr,vf,vfol,vl,ve,h0,h1,h2,h3,h4,h5,h6⟩:=h;exact⟨vc,vr,vf,vfol,vl,ve,h0,h1.gr hg,h2.gr hg,h3.gr hg,sm h4 hg,h5.gr hg,h6.gr hg⟩
end bZ
namespace bZ
open Go.RowKit cU dM dg fZ ef
theorem Lr(l:List Bool):l.flatMap boC=l.map fN:=Ay l
theorem aaW{w:World}{x:PIx}{m:MS}(hl:x.vs.length=m.ps.follow.length)(h0:(a_ 77 4 x.vc m.ps.aZ.length (m.ps.aZ.flatMap dR)).holds w)(h1:(fW x.vr m.ps.rules).holds w)(h2:(fW x.vf m.first).holds w)(h3:(xM x.vfol x.vs).holds w)(h4:(uk x.F x.vs m.ps.follow).holds w)
 (h5:(a_ 4 1 x.vl m.ps.last.length (m.ps.last.map fN)).holds w) (h6:(a_ 4 1 x.ve m.empty.length (m.empty.map fN)).holds w):FD w (.agg (OL x)) m:=by
 refine⟨_,_,_,_,_,_,rfl,Sl.dy h0,?_,?_,aaU h3 h4 hl,?_,?_⟩
 ·rw[q6];exact Sl.dy h1
 ·rw[q6];exact Sl.dy h2
 ·rw[Lr];exact Sl.dy h5
 ·rw[Lr];exact Sl.dy h6
theorem Mem.ag7{w:World}{B:bR}{L:List b_}{x:PIx}{m:MS}(i:Nat)(hm:Mem B L w)(hl:x.vs.length=m.ps.follow.length)(h:OK x m=[i,i+1,i+2,i+3,i+4,i+5,i+6].filterMap λj=>L[j]?)(hlen:i+6<L.length):FD w (.agg (OL x)) m:=by
 have g:∀j,j<7->∃o,L[i+j]?=aj o/\(OK x m)[j]?=aj o:=by
  intro j hj;have e:∀k,k<7->∃o,L[i+k]?=aj o:=λk hk=>⟨_,bD J⟩;rw[h];obtain⟨o0,e0⟩:∃o,L[i]?=aj o:=e 0 J;obtain⟨o1,e1⟩:=e 1 J;obtain⟨o2,e2⟩:=e 2 J;obtain⟨o3,e3⟩:=e 3 J;obtain⟨o4,e4⟩:=e 4 J;obtain⟨o5,e5⟩:=e 5 J;obtain⟨o6,e6⟩:=e 6 J;simp only[List.filterMap_cons,e0,e1,e2,e3,e4,e5,e6,List.filterMap_nil]
  match j,hj with
  |0,_=>exact⟨_,e0,rfl⟩
  |1,_=>exact⟨_,e1,rfl⟩
  |2,_=>exact⟨_,e2,rfl⟩
  |3,_=>exact⟨_,e3,rfl⟩
  |4,_=>exact⟨_,e4,rfl⟩
  |5,_=>exact⟨_,e5,rfl⟩
  |6,_=>exact⟨_,e6,rfl⟩
 have k:∀j o,j<7->(OK x m)[j]?=aj o->o.holds w:=λj o hj ho=>by
  obtain⟨o',h1,h2⟩:=g j hj;rw[h2]at ho
  cases ho
  exact hm.get h1
 exact aaW hl (k 0 _ J I) (k 1 _ J I) (k 2 _ J I) (k 3 _ J I) (k 4 _ J I) (k 5 _ J I) (k 6 _ J I)
end bZ
namespace bZ
open Go.RowKit cU dM dg fZ ef
theorem Bc(v:Value)(l:List Int)(n:Nat)(w:World)(hv:Sl w v l.length (l.flatMap cU.eo))(h:GV n l):
 Calls aB 103 #[v,av az (n:Int)] w (cz (ret (.bool aD)) w):=by
 obtain⟨base,cap,rfl,lm,j0,eL⟩:=hv;unfold maxLen at j0;refine enter (args:=[ap base l.length cap,av az (n:Int)]) (n:=35) Tryz.func103 I I I ?_
 try refine GA ?_
 refine dY (ι:=Nat) (λk=>k<=l.length) (λk=>[(0,ap base l.length cap),(1,av az (n:Int)),(7,ap base l.length cap),(8,av az l.length),(9,av az (k:Int))]) (λ_=>[]) (λk=>l.length-k) 0 (bH _) ?_;intro k h1
 by_cases c2:k<l.length
 ·obtain⟨b,off,rfl,hr⟩:=eL J
  have dz:=gG (L:=([]:List b_)) jU hr c2 0 _ I;have hx:=h.2 _ (cD c2)
  by_cases c3:0<k
  ·have hp:=Ij.1 h.1 (k-1) k J c2 J
   have s8:=gG (L:=([]:List b_)) jU hr (k:=k-1) J 0 _ I;generalize l[k]=x at*;generalize l[k-1]' J=y at*
   repeat(first|refine GC ?_|refine gV (aX bL.eq aK.ty I I c2) ?_|refine gV (aC (v:=av az x) aK.ty I dz) ?_|refine gV (dO (b:=aE) I I (decide_eq_false J)) ?_|refine gV (aX (j:=k-1) bL.eq aK.ty I I J) ?_|refine gV (aC (v:=av az y) aK.ty I s8) ?_|refine gV (eN (b:=aE) I I (decide_eq_false J)) ?_|refine gV (dP (b:=aD) I I (decide_eq_true J)) ?_|refine gV (eC (r:=((k-1:Nat):Int)) I I J J J) ?_|refine gV (zY (b:=aE) I I (decide_eq_false J)) ?_|refine GB ?_)
   exact bW (k+1) J (by show l.length-(k+1)<l.length-k;omega)
  generalize l[k]=x at*
  repeat(first|refine GC ?_|refine gV (aX bL.eq aK.ty I I c2) ?_|refine gV (aC (v:=av az x) aK.ty I dz) ?_|refine gV (dO (b:=aE) I I (decide_eq_false J)) ?_|refine gV (eN (b:=aE) I I (decide_eq_false J)) ?_|refine gV (dP (b:=aE) I I (decide_eq_false J)) ?_|refine GB ?_)
  exact bW (k+1) J (by show l.length-(k+1)<l.length-k;omega)
 ·try refine GA ?_
  exact eE
theorem Az{w:World}{b off:Nat}{l:List (List Int)}{F:Nat->Prop}(hr:∀i (h:i<l.length),∃cs,(bM fz).is F w cs l[i]/\Rd w b (off+i*(bM fz).c) cs){k:Nat}(hk:k<l.length):∃u,Sl w u l[k].length (l[k].flatMap cU.eo)/\Rd w b (off+k*1) [u]:=by
 obtain⟨cs,h1,h2⟩:=hr k hk;obtain⟨u,rfl,h3⟩:=aaV h1;exact⟨u,h3,h2⟩
theorem DQ(v:Value)(m:MS)(w:World)(hp:FD w v m)(h:IG m):
 Calls aB 69 #[v] w (cz (ret (av az 0)) w):=by
 obtain⟨vc,vr,vf,vfol,vl,ve,rfl,h1,h2,h3,h4,h5,h6⟩:=hp;have hmR:=h.rules;have hmf:=h.Cg;have hms:=h.some;have sY:=h.qz;have l1:=h.ok.ps.rules;have l2:=h.ok.ps.follow;have l3:=h.ok.ps.last;have q1:=λw' (hg:Gr w w')=>Bc vf m.first m.ps.aZ.length w' (h3.gr hg) h.ok.first;have XK:=h.ok.ps.ris;clear h h3;obtain⟨⟨cl,rul,mJ,la⟩,fi,em⟩:=m;dsimp only at*;rw[l1]at h2;obtain⟨ac,cc,rfl,_⟩:=h1;obtain⟨ar,cr,rfl,hcr,hmr,hrr⟩:=h2;obtain⟨afo,cfo,rfl,hcf,ah7,hrf⟩:=h4;obtain⟨al,cl2,rfl,_⟩:=h5;obtain⟨ae,ce,rfl,_⟩:=h6;rw[l2]at hcf;unfold maxLen at*;have q1':=q1;clear q1;generalize hn:cl.length=n at*;refine enter (args:=[aQ #[ap ac n cc,ap ar n cr,vf,ap afo mJ.length cfo,ap al la.length cl2,ap ae em.length ce]]) (n:=80) Tryz.func69 I I I ?_;refine b9 (bz (bQ I I I λg1=>?_));refine zL ?_
 repeat(first|refine GC ?_|refine gV (aC (v:=ap ac n cc) aK.ty I (aH (i:=0) I I)) ?_|refine gV (aC (v:=ap ar n cr) aK.ty I (aH (i:=0) I I)) ?_|refine gV (aC (v:=ap afo mJ.length cfo) aK.ty I (aH (i:=0) I I)) ?_|refine gV (aC (v:=ap al la.length cl2) aK.ty I (aH (i:=0) I I)) ?_|refine gV (aC (v:=ap ae em.length ce) aK.ty I (aH (i:=0) I I)) ?_|refine gV (aC (v:=vf) aK.ty I (aH (i:=0) I I)) ?_|refine gV (dm (b:=aE) I I (decide_eq_false J)) ?_|refine gV (dP (b:=aE) I I (decide_eq_false J)) ?_|refine gV (de (b:=aE) I I (decide_eq_false J)) ?_|refine GB ?_)
 refine mg (fI aI.en I I I) (λw hm=>q1' _ hm.below) I I I I I ?_;intro _ _;refine zL ?_;clear q1'
 try refine GA ?_
 refine dY (ι:=Nat) (λk=>k<=n) (λk=>[(1,aJ (aj ⟨g1,0,ak⟩)),(3,av az (n:Int)),(46,av az (n:Int)),(47,av az (k:Int))]) (λ_=>[aP g1 #[ap ac n cc,ap ar n cr,vf,ap afo mJ.length cfo,ap al la.length cl2,ap ae em.length ce] 115]) (λk=>n-k) 0 (bH _) ?_;intro k hk
 by_cases c1:k<n
 ·obtain⟨br,ON,rfl,eL⟩:=hrr J
  obtain⟨bf,aaX,rfl,_,TG⟩:=hrf J;obtain⟨u,hu,hd⟩:=Az TG (show k<mJ.length by omega);have adW:=λ(L:List b_)=>gG (L:=L) jU eL (show k<rul.length by omega) 0 _ I;have adX:=λ(L:List b_)=>iD (L:=L) hd (j:=0) (v:=u) I;have hx:=hmR _ (cD (show k<rul.length by omega));have q:=λw' (hg:Gr w w')=>Bc u mJ[k] n w' (hu.gr hg) (XK _ (cD _));clear hrr hrf eL TG hd hu;generalize rul[k]=x at*
  try refine GA ?_
  refine dK ([aP g1 #[ap ac n cc,ap (aj ⟨br,ON,ak⟩) n cr,vf,ap (aj ⟨bf,aaX,ak⟩) mJ.length cfo,ap al la.length cl2,ap ae em.length ce] 115]) (.calm 0 (.calm 1 (.calm 2 (.calm 3 (.calm 4 (.calm 5 (.calm 6 (.calm 7 (.calm 8 (.calm 9 (.calm 10 (.calm 11 (.calm 12 (.calm 13 (.calm 14 (.calm 15 (.calm 16 (.calm 17 (.calm 18 (.calm 19 (.calm 20 (.calm 21 (.calm 22 (.calm 23 (.one 24 (.calm 25 (.calm 26 (.done)))))))))))))))))))))))))))) (bV [0]) ?_
  repeat(first|(refine GN ?_;first|refine QW QP ?_|refine QW (aC (v:=ap (aj ⟨br,ON,ak⟩) n cr) aK.ty I (aH (i:=0) I I)) ?_|refine QW (aX bL.eq aK.ty I I c1) ?_|refine QW (aC (v:=av az x) aK.ty I (adW _)) ?_|refine QW (dO (b:=aE) I I (decide_eq_false J)) ?_|refine QW (aC (v:=ap ae em.length ce) aK.ty I (aH (i:=0) I I)) ?_|refine QW (aC (v:=ap (aj ⟨bf,aaX,ak⟩) mJ.length cfo) aK.ty I (aH (i:=0) I I)) ?_|refine QW (aX (j:=k) bL.eq aK.ty I I J) ?_|refine QW (aC (v:=u) aK.ty I (adX _)) ?_|refine QW (eN (b:=aE) I I (decide_eq_false J)) ?_|refine GX ?_)|refine GW ?_)
  refine aL I (B8 I I I (aW (fI aI.en I I I) (λw hm=>q w hm.below) I I I λ_ _=>(aM (bV [0]) ?_)))
  try refine GW ?_
  try refine GA ?_
  refine dh [0] ?_;exact bW (k+1) J (by show n-(k+1)<n-k;omega)
 ·repeat(first|refine GC ?_|refine gV (dP (b:=aE) I I (decide_eq_false J)) ?_|refine GB ?_)
  exact eE
end bZ
namespace bZ
open Go.RowKit cU dM dg fZ ef
theorem OO{α:Type}{f:α->List Value}{c:Nat}{W0:World}{W:bR}{L:List b_}{b off:Nat}{l:List α}(hc:∀a,(f a).length=c)(ho:pC W0 W)(h:Rd W0 b off (l.flatMap f)){k:Nat}(hk:k<l.length)(j:Nat)(u:Value)(hj:(f l[k])[j]?=aj u):At W L ⟨b,off+k*c+j,ak⟩ u:=by
 have hjc:j<c:=by rw[<-hc l[k]];exact(dl.1 hj).1
 rw[lG];exact Q0 ho h _ u (by rw[tL hc l k j hk hjc];exact hj)
end bZ
namespace bZ
open Go.RowKit cU dM dg fZ ef nb
def Kg(vc vr vf vfol vl ve vs num rows tags:Value):Array Value:=#[vc,vr,vf,vfol,vl,ve,vs,num,rows,tags]
def OP(S:List C4):List Value:=(C4.zero::S).flatMap dR
theorem aaY{w:World}{g:Nat}{cs:Array Value}{T:TypeId}(hg:w.heap[g]?=aj (.cells cs T (0,0)))(L:List b_){k:Nat}{v:Value}(hv:cs[k]?=aj v):At (w:bR) L ⟨g,k,ak⟩ v:=
 jX (by rw[cell_of_row w g k cs T (0,0) hg];exact hv)
theorem FE(m:MS)(vc vr vf vfol vl ve vs num rows tags:Value)(S:List C4)(g n:Nat)(w:World)(hp:FD w (aQ #[vc,vr,vf,vfol,vl,ve]) m)(h:IG m)(hg:w.heap[g]?=aj (.cells (Kg vc vr vf vfol vl ve vs num rows tags) 184 (0,0)))
 (hs:Sl w vs (S.length+1) (OP S)) (hn:n<=S.length):
 Calls aB 104 #[aJ (aj ⟨g,0,ak⟩),av az (n:Int)] w (cz (ret (oa (mI m S n))) w):=by
 obtain⟨_,_,_,_,_,_,he,h1,h2,h3,h4,h5,h6⟩:=hp;simp only[lL,r8,fO,and_true]at he;obtain⟨rfl,rfl,rfl,rfl,rfl,rfl⟩:=he;have hmf:=h.Cg;have U3:=h.ok.first.2;have XK:=h.ok.ps.ris;have wo:=h.ok.ps.follow;clear h h1 h2 h5 h6;obtain⟨af,cf,rfl,_,ah8,hrf⟩:=h3;obtain⟨ao,co,rfl,_,hmo,hro⟩:=h4;obtain⟨ab,cs,rfl,hcs,hms,hrs⟩:=hs;unfold maxLen at*;have hm:=λL k v hv=>aaY (k:=k) (v:=v) hg L hv;refine enter (args:=[aJ (aj ⟨g,0,ak⟩),av az (n:Int)]) (n:=59) Tryz.func104 I I I ?_;refine b9 (bz (aY I λg4=>?_));refine zL ?_
 try refine GA ?_
 refine aY I λg5=>?_;refine zL ?_
 by_cases c0:n=0
 ·subst c0
  repeat(first|refine GC ?_|refine gV (de (b:=aD) I I (decide_eq_true (by simp))) ?_|refine gV (aC (v:=ap af m.first.length cf) aK.ty I (hm _ 2 _ I)) ?_|refine GB ?_)
  refine dY (ι:=Nat) (λk=>k<=m.first.length) (λk=>[(4,aJ (aj ⟨g4,0,ak⟩)),(5,aJ (aj ⟨g5,0,ak⟩)),(18,ap af m.first.length cf),(19,av az m.first.length),(20,av az (k:Int))])
   (λk=>[aP g4 (dR C4.zero).toArray 233,aP g5 (dR (oZ C4.zero (m.first.take k))).toArray 233]) (λk=>m.first.length-k) 0 (bH _) ?_
  intro k hk
  by_cases c1:k<m.first.length
  ·have hx:=U3 _ (cD c1)
   have hst:=Lh C4.zero m.first c1;obtain⟨bf,aaX,rfl,TG⟩:=hrf J;have dz:=λ(L:List b_)=>gG (L:=L) jU TG c1 0 _ I;generalize m.first[k]=x at*;generalize oZ C4.zero (m.first.take k)=c at*;obtain⟨xn,rfl⟩:=hY hx.1;rw[dB]at hst
   repeat(first|refine GA ?_|refine gV (aX bL.eq aK.ty I I c1) ?_|refine gV (aC (v:=av az (xn:Int)) aK.ty I (dz _)) ?_)
   refine bx [1] [0] aiz I I (fI aI.en I I I) (λw hm hb=>sf c xn J g5 w _ hb) I I I ?_;intro _ _;refine zL ?_
   try refine GA ?_
   exact bW (k+1) J (by show m.first.length-(k+1)<m.first.length-k;omega) (hl:=by rw[hst])
  obtain rfl:k=m.first.length:=by omega
  rw[gK (bm _)];unfold mI;generalize oZ C4.zero m.first=c at*
  repeat(first|refine GA ?_|refine gV (aO (i:=1) aK.ty I I I) ?_)
  refine gh 0 (cs':=(dR c).toArray) ?_;refine zL ?_
  try refine GA ?_
  exact fF (i:=0) I I I I λw hm=>hm.ret
 ·obtain⟨q,rfl⟩:∃q,n=q+1:=⟨n-1,by omega⟩
  obtain⟨bs,adY,rfl,afp⟩:=hrs J;have adZ:=λ(L:List b_)=>gG (L:=L) (f:=dR) (c:=4) (λ_=>rfl) (show Rd w bs adY ((C4.zero::S).flatMap dR)from afp) (k:=q+1) (by simp;omega);have hgd:S.getD q C4.zero=S[q]' J:=by rw[cH,bD J];rfl
  rw[show mI m S (q+1)=nc m.ps (S.getD q C4.zero) m.ps.follow.length from I,hgd];have adZ:∀(L:List b_) (j:Nat) (u:Value),(dR (S[q]' J))[j]?=aj u->At (w:bR) L ⟨bs,adY+(q+1)*4+j,ak⟩ u:=λL j u hj=>adZ L j u hj;clear hgd afp hrs hrf U3;generalize S[q]' J=s at*
  repeat(first|refine GC ?_|refine gV (de (b:=aE) I I (decide_eq_false J)) ?_|refine gV (aC (v:=ap ao m.ps.follow.length co) aK.ty I (hm _ 3 _ I)) ?_|refine GB ?_)
  refine dY (ι:=Nat) (λk=>k<=m.ps.follow.length) (λk=>[(0,aJ (aj ⟨g,0,ak⟩)),(1,av az ((q+1:Nat):Int)),(4,aJ (aj ⟨g4,0,ak⟩)),(5,aJ (aj ⟨g5,0,ak⟩)),(32,ap ao m.ps.follow.length co),(33,av az m.ps.follow.length),(34,av az (k:Int))])
   (λk=>[aP g4 (dR C4.zero).toArray 233,aP g5 (dR (nc m.ps s k)).toArray 233]) (λk=>m.ps.follow.length-k) 0 (bH _) ?_
  intro k hk
  by_cases c1:k<m.ps.follow.length
  ·obtain⟨bo,ag8,rfl,_,ag9⟩:=hro J
   obtain⟨u,hu,hd⟩:=Az ag9 c1;have adX:=λ(L:List b_)=>iD (L:=L) hd (j:=0) (v:=u) I;have hrx:=(XK _ (cD c1)).2;have hgd:m.ps.follow.getD k []=m.ps.follow[k]:=by rw[cH,bD c1];rfl
   have hst:nc m.ps s (k+1)=if s.mem k=aD then oZ (nc m.ps s k) m.ps.follow[k]else nc m.ps s k:=by rw[nc,hgd]
   clear hgd;obtain⟨au,cu,rfl,_,hmu,Nq⟩:=hu;unfold maxLen at hmu;generalize m.ps.follow[k]=l at*;generalize nc m.ps s k=c at*
   repeat(first|refine GA ?_|refine gV (aX bL.eq aK.ty I I c1) ?_|refine gV (aC (v:=ap au l.length cu) aK.ty I (adX _)) ?_|refine gV (aC (v:=ap (aj ⟨bs,adY,ak⟩) (S.length+1) cs) aK.ty I (hm _ 6 _ I)) ?_|refine gV (aX (j:=q+1) bL.eq aK.ty I I J) ?_|refine gV (a8 (cs:=dR s) aK.ty I I (adZ _)) ?_)
   have XL:=λw=>se s k J w;generalize hb:s.mem k=b at*;refine aW (fI aI.en I I I) (λw hm=>XL w) I I I ?_;intro _ _;refine zL ?_
   by_cases c2:b=aD
   ·subst c2
    rw[if_pos I]at hst
    try refine GA ?_
    refine dY (ι:=Nat) (λj=>j<=l.length) (λj=>[(0,aJ (aj ⟨g,0,ak⟩)),(1,av az ((q+1:Nat):Int)),(4,aJ (aj ⟨g4,0,ak⟩)),(5,aJ (aj ⟨g5,0,ak⟩)),(32,ap (aj ⟨bo,ag8,ak⟩) m.ps.follow.length co),(33,av az m.ps.follow.length),(34,av az (k:Int)),(48,ap au l.length cu),(49,av az l.length),(50,av az (j:Int))])
     (λj=>[aP g4 (dR C4.zero).toArray 233,aP g5 (dR (oZ c (l.take j))).toArray 233]) (λj=>l.length-j) 0 (bH _) ?_
    intro j hj
    by_cases c3:j<l.length
    ·have hx:=hrx _ (cD c3)
     have ad0:=Lh c l c3;obtain⟨bf,aaX,rfl,TG⟩:=Nq J;have dz:=λ(L:List b_)=>gG (L:=L) jU TG c3 0 _ I;generalize l[j]=x at*;generalize oZ c (l.take j)=c' at*;obtain⟨xn,rfl⟩:=hY hx.1;rw[dB]at ad0
     repeat(first|refine GA ?_|refine gV (aX bL.eq aK.ty I I c3) ?_|refine gV (aC (v:=av az (xn:Int)) aK.ty I (dz _)) ?_)
     refine bx [1] [0] aiz I I (fI aI.en I I I) (λw hm hb=>sf c' xn J g5 w _ hb) I I I ?_;intro _ _;refine zL ?_
     try refine GA ?_
     exact bW (j+1) J (by show l.length-(j+1)<l.length-j;omega) (hl:=by rw[ad0])
    obtain rfl:j=l.length:=by omega
    rw[gK (bm _)]
    try refine GA ?_
    exact bW (k+1) J (by show m.ps.follow.length-(k+1)<m.ps.follow.length-k;omega) (hl:=by rw[hst])
   rw[if_neg c2]at hst;obtain rfl:=tU.2 c2
   try refine GA ?_
   exact bW (k+1) J (by show m.ps.follow.length-(k+1)<m.ps.follow.length-k;omega) (hl:=by rw[hst])
  obtain rfl:k=m.ps.follow.length:=by omega
  generalize nc m.ps s m.ps.follow.length=c at*
  repeat(first|refine GA ?_|refine gV (aO (i:=1) aK.ty I I I) ?_)
  refine gh 0 (cs':=(dR c).toArray) ?_;refine zL ?_
  try refine GA ?_
  exact fF (i:=0) I I I I λw hm=>hm.ret
end bZ
namespace bZ
open Go.RowKit cU dM dg fZ ef nb cT
theorem aaZ:laidOutB aB=true:=by kernel_rfl
theorem setRow:(233:TypeId)<aB.types.size:=of_decide_eq_true (by kernel_rfl)
theorem aa0:(match aB.underlying 233 with|some (.array _ _)|some (.struct _)=>aD|_=>aE)=true:=by kernel_rfl
theorem aa1(x:C4):∃l,keyOf aB 233 (oa x)=aj l:=by
 obtain⟨a,b,c,d⟩:=x;have e1:aB.keyType 233=true:=by kernel_rfl
 have e2:aB.cellsOf 233=4:=by kernel_rfl
 have e3:aB.cellsOf 75=1:=by kernel_rfl
 have e4:∃d,aB.types.size+1=d+2:=⟨aB.types.size-1,by have:0<aB.types.size:=Iq (bH 233) setRow;omega⟩;obtain⟨dd,e4⟩:=e4;have key:∀v:BitVec 64,aB.keyLits (dd+1) 75 [.int .u64 (fP v)]=aj [.int .u64 (fP v)]:=λv=>by
  have hw:(Lit.int .u64 (fP v)).wf=true:=by
   have h0:=adu v;have h1:=adv v;simp[Lit.wf,HW,HX,rL,lF,h0,h1]
  simp[zP,Tryz.underlying75,hw]
 have hl:aB.keyLits (dd+2) 233 [.int .u64 (fP a),.int .u64 (fP b),.int .u64 (fP c),.int .u64 (fP d)]=aj [.int .u64 (fP a),.int .u64 (fP b),.int .u64 (fP c),.int .u64 (fP d)]:=by
  unfold zP;simp[Tryz.underlying233,e2,e3,List.range_succ_eq_map,key]
 have hf:(oa ⟨a,b,c,d⟩).formed aB 233=true:=by simp[oa,Value.formed,Tryz.underlying233,e2]
 unfold keyOf;rw[Tryz.underlying233];refine⟨.string (keyBytes ([.int .u64 (fP a),.int .u64 (fP b),.int .u64 (fP c),.int .u64 (fP d)])),?_⟩;show(if(aB.keyType 233&&(oa ⟨a,b,c,d⟩).formed aB 233)=aD then(aB.keyLits (aB.types.size+1) 233 [.int .u64 (fP a),.int .u64 (fP b),.int .u64 (fP c),.int .u64 (fP d)]).map (λls=>Lit.string (keyBytes ls))else ak)=_
 rw[e1,hf,e4,hl];rfl
set_option maxRecDepth 100000 in
def OQ:yx aB 233 C4 where
 kv:=oa
 ok _:=True
 law:=deep_law_laid aaZ (m:=2) J setRow (by kernel_rfl) aa0
 key x _:=aa1 x
 inj x y h:=by
  simp only[oa,lL,r8,fO,De,true_and,and_true]at h;exact C4.ext' (n' h.1) (n' h.2.1) (n' h.2.2.1) (n' h.2.2.2)
theorem Lt(w:World):(zeroValue 3).run aB w= .ok (av az 0) w:=by kernel_rfl
def pe(D:List C4)(x:C4):Option Value:=if x∈D then aj (av az ((idx D x+1:Nat):Int))else ak
theorem OR{D:List C4}{x:C4}(hn:x∉D):(λy=>if y=x then aj (av az ((D.length+1:Nat):Int))else pe D y)=pe (D++[x]):=by
 funext y
 unfold pe
 by_cases c:y=x
 ·subst c
  rw[if_pos I,if_pos (by simp)];have:=qU (D:=D) (k:=y);unfold more at this;rw[if_neg hn,if_neg hn]at this;rw[this]
 rw[if_neg c]
 by_cases c2:y∈D
 rw[if_pos c2,if_pos (xu _ c2),pU c2];rw[if_neg c2,if_neg (by simp[c,c2])]
theorem DR:(λ(_:C4)=>(none:Option Value))=pe []:=by funext y;unfold pe;rw[if_neg (by simp)]
abbrev n0(vs:Value)(S:List C4):b_:=a_ 233 4 vs (S.length+1) (OP S)
abbrev sn(gm:Nat)(S:List C4):b_:=eZ OQ gm (pe S) S.length
def Kh(vc vr vf vfol vl ve rows:Value)(g gm:Nat)(vs vt:Value)(d:DM):List b_:=
 [aP g (Kg vc vr vf vfol vl ve vs (.map (aj gm)) rows vt) 184,n0 vs d.S,sn gm d.S,fW vt d.tags]
def aa2(p:PS)(vc vr vf vfol vl ve rows:Value)(g gm:Nat)(d:DM)(s:C4):Spec (Value×Value):=
 ⟨λ_=>True,λ_=>av az ((iG p d s).1:Int),λx=>Kh vc vr vf vfol vl ve rows g gm x.1 x.2 (iG p d s).2⟩
theorem XM(v:Value)(l:List Int)(x:Int):fW v (l++[x])=a_ 3 1 v (l.length+1) (l.map (av .i64)++[av az x]):=by
 unfold fW;rw[bK,eO];rfl
theorem G4(S:List C4)(s:C4):OP (S++[s])=OP S++dR s:=by
 unfold OP;rw[<-kS,gO];simp
theorem Rq(s:C4):∀u∈dR s,u.oneCell'=true:=by
 intro u h;simp only[dR,dx,fl,or_false]at h;rcases h with rfl|rfl|rfl|rfl<;>rfl
theorem XN(p:PS)(s:C4)(i:Nat):kj p s (i+1)=if s.mem i=aD/\p.last.getD i aE=aD/\(kj p s i<0\/p.rules.getD i 0<kj p s i)then p.rules.getD i 0 else kj p s i:=rfl
theorem XO{S:List C4}{s:C4}{gm:Nat}(hn:s∉S):eZ OQ gm (λy=>if y=s then aj (av az ((S.length+1:Nat):Int))else pe S y) (if(pe S s).isSome then S.length else S.length+1)=sn gm (S++[s]):=by
 rw[OR hn,show pe S s=ak from if_neg hn];unfold sn;rw[bK];rfl
attribute [local irreducible] Op.shift Go.bits in
theorem DS(m:MS)(vc vr vf vfol vl ve rows:Value)(d:DM)(s:C4)(g gm:Nat)(vs vt:Value)(w0:World)(hp:FD w0 (aQ #[vc,vr,vf,vfol,vl,ve]) m)(h:IG m)(hd:d.S.length<=100000)(hdt:d.tags.length<=100001)(w:World)(B:bR)(ho:pC w0 B)
 (hm:Mem B (Kh vc vr vf vfol vl ve rows g gm vs vt d) w):
 Calls aB 108 #[aJ (aj ⟨g,0,ak⟩),oa s] w (dc (aa2 m.ps vc vr vf vfol vl ve rows g gm d s) B):=by
 obtain⟨_,_,_,_,_,_,he,h1,h2,h3,h4,h5,h6⟩:=hp;simp only[lL,r8,fO,and_true]at he;obtain⟨rfl,rfl,rfl,rfl,rfl,rfl⟩:=he;have hmf:=h.Cg;have NW:=h.ok.ps.rules;have Ko:=h.ok.ps.last;have hmr:=h.rules;clear h h3 h4 h6;obtain⟨ac,cc,rfl,-⟩:=h1;obtain⟨ar,cr,rfl,-,ah9,hrr⟩:=h2;obtain⟨al,cl,rfl,-,ah_,Fk⟩:=h5;unfold Kh at hm;unfold aa2;obtain⟨S,tags⟩:=d;obtain⟨p,fi,em⟩:=m;dsimp only at*;refine dA hm (args:=[aJ (aj ⟨g,0,ak⟩),oa s]) (n:=105) Tryz.func108 I I I ?_;clear hm;refine b9 (bz (bQ I I I λg3=>?_));refine zL ?_
 by_cases c1:s∈S
 ·have hst:iG p ⟨S,tags⟩ s=(idx S s+1,⟨S,tags⟩):=if_pos c1
  have Ki:pe S s=aj (av az ((idx S s+1:Nat):Int)):=if_pos c1;rw[hst]
  try refine GA ?_
  refine dK ([aP g (Kg (ap ac p.aZ.length cc) (ap ar p.rules.length cr) vf vfol (ap al p.last.length cl) ve vs (.map (aj gm)) rows vt) 184,sn gm S,aP g3 (dR s).toArray 233]) (.calm 0 (.calm 1 (.calm 2 (.calm 3 (.calm 4 (.calm 5 (.calm 6 (.calm 7 (.calm 8 (.calm 9 (.calm 10 (.done)))))))))))) (bV [0,2,4]) ?_
  repeat(first|refine GW ?_|(refine GN ?_;first|refine QW (aC (v:= .map (aj gm)) aK.ty I (aH (i:=0) I I)) ?_|refine QW (aO (i:=2) aK.ty I I I) ?_|refine QW (jB OQ (x:=s) bL.eq Lt (i:=1) I I I trivial Ki) ?_))
  try refine GA ?_
  refine dh [0,1,2,3] ?_;exact cJ I I λw hm=>hm.cB (S:=⟨λ(_:Value×Value)=>True,λ_=>av az ((idx S s+1:Nat):Int),λx=>Kh (ap ac p.aZ.length cc) (ap ar p.rules.length cr) vf vfol (ap al p.last.length cl) ve rows g gm x.1 x.2 ⟨S,tags⟩⟩) (vs,vt) trivial [0,1,2,3] aiz I
 ·have hst:iG p ⟨S,tags⟩ s=(S.length+1,⟨S++[s],tags++[wm p s]⟩):=if_neg c1
  have Ki:pe S s=none:=if_neg c1;rw[hst];refine pS (i:=1) I fV λgC=>?_;obtain⟨ab,cs,rfl,hmS,-⟩:=gC
  try refine GA ?_
  refine dK ([aP g (Kg (ap ac p.aZ.length cc) (ap ar p.rules.length cr) vf vfol (ap al p.last.length cl) ve (ap ab (S.length+1) cs) (.map (aj gm)) rows vt) 184,sn gm S,aP g3 (dR s).toArray 233]) (.calm 0 (.calm 1 (.calm 2 (.calm 3 (.calm 4 (.calm 5 (.calm 6 (.calm 7 (.calm 8 (.calm 9 (.calm 10 (.done)))))))))))) (bV [0,2,4]) ?_
  repeat(first|refine GW ?_|(refine GN ?_;first|refine QW (aC (v:= .map (aj gm)) aK.ty I (aH (i:=0) I I)) ?_|refine QW (aO (i:=2) aK.ty I I I) ?_|refine QW (jC OQ (x:=s) bL.eq Lt (i:=1) I I I trivial Ki) ?_))
  try refine GA ?_
  (repeat refine b9 ?_)
  refine kV (ι:=Unit) (λ_=>True) (λ_=>[(0,aJ (aj ⟨g,0,ak⟩)),(3,aJ (aj ⟨g3,0,ak⟩))]) (λ_=>[aP g (Kg (ap ac p.aZ.length cc) (ap ar p.rules.length cr) vf vfol (ap al p.last.length cl) ve (ap ab (S.length+1) cs) (.map (aj gm)) rows vt) 184,n0 (ap ab (S.length+1) cs) S,sn gm (S++[s]),fW vt tags,aP g3 (dR s).toArray 233]) ?_ ?_
  ·refine dK ([aP g (Kg (ap ac p.aZ.length cc) (ap ar p.rules.length cr) vf vfol (ap al p.last.length cl) ve (ap ab (S.length+1) cs) (.map (aj gm)) rows vt) 184,aP g3 (dR s).toArray 233]) (.calm 0 (.calm 1 (.calm 2 (.calm 3 (.calm 4 (.calm 5 (.calm 6 (.calm 7 (.calm 8 (.calm 9 (.one 10 (.done)))))))))))) (bV [0,4]) ?_
   repeat(first|refine GW ?_|(refine GN ?_;first|refine QW (aC (v:= .map (aj gm)) aK.ty I (aH (i:=0) I I)) ?_|refine QW (aO (i:=1) aK.ty I I I) ?_|refine QW (aC (v:=ap ab (S.length+1) cs) aK.ty I (aH (i:=0) I I)) ?_))
   refine aL I (lX OQ (i:=2) (x:=s) bL.eq I I I I trivial J (aM (bV [0,4]) ?_))
   try refine GW ?_
   exact dJ () trivial (by repeat' (first|exact cI|refine cC I ?_)) (by rw[<-XO c1];rfl)
  intro _ _
  (repeat refine b9 ?_)
  refine kV (ι:=Value) (λ_=>True) (λ_=>[(0,aJ (aj ⟨g,0,ak⟩)),(3,aJ (aj ⟨g3,0,ak⟩))]) (λo7=>[aP g (Kg (ap ac p.aZ.length cc) (ap ar p.rules.length cr) vf vfol (ap al p.last.length cl) ve o7 (.map (aj gm)) rows vt) 184,n0 o7 (S++[s]),sn gm (S++[s]),fW vt tags,aP g3 (dR s).toArray 233]) ?_ ?_
  ·refine dK ([aP g3 (dR s).toArray 233]) (.calm 0 (.calm 1 (.calm 2 (.calm 3 (.calm 5 (.two 4 (.one 6 (.one 7 (.calm 8 (.calm 9 (.one 10 (.done)))))) 6 (.one 4 (.one 7 (.calm 8 (.calm 9 (.one 10 (.done)))))))))))) (bV [4]) ?_
   repeat(first|refine GW ?_|(refine GN ?_;first|refine QW (aO (i:=0) aK.ty I I I) ?_))
   refine ez I I ?_ ?_
   ·refine du (aC (v:=ap ab (S.length+1) cs) aK.ty I (aH (i:=0) I I)) I I I (aM (bV [4]) ?_)
    refine aL I (fm (cs:=(dR s).toArray) [oa s] I I I (by intro v hv;simp at hv;subst hv;rfl) I I I λg36=>(aM (bV [4]) ?_));refine aL I (eD (i:=1) (e:=233) (size:=4) (bytes:=32) (m:=S.length+1) (xs:=OP S) (k:=1) (ys:=dR s) I (kX (i:=5) I (λj u h=>by simpa using h) (bm 1) aiz) I I I (λu hu=>Rq s u hu) J J I λo7=>(aM (bV [4]) ?_))
    try refine GW ?_
    refine aL I (aU (i:=1) I λkK lz=>bU (i:=0) I I I kK lz I (aM (bV [4]) ?_))
    try refine GW ?_
    refine dh [0,1,2,3,4] ?_;exact dJ o7 trivial (by repeat' (first|exact cI|refine cC I ?_)) (by unfold n0;rw[G4,bK];rfl)
   refine fm (cs:=(dR s).toArray) [oa s] I I I (by intro v hv;simp at hv;subst hv;rfl) I I I λg36=>(aM (bV [4]) ?_);refine aL I (du (aC (v:=ap ab (S.length+1) cs) aK.ty I (aH (i:=0) I I)) I I I (aM (bV [4]) ?_));refine aL I (eD (i:=1) (e:=233) (size:=4) (bytes:=32) (m:=S.length+1) (xs:=OP S) (k:=1) (ys:=dR s) I (kX (i:=5) I (λj u h=>by simpa using h) (bm 1) aiz) I I I (λu hu=>Rq s u hu) J J I λo7=>(aM (bV [4]) ?_))
   try refine GW ?_
   refine aL I (aU (i:=1) I λkK lz=>bU (i:=0) I I I kK lz I (aM (bV [4]) ?_))
   try refine GW ?_
   refine dh [0,1,2,3,4] ?_;exact dJ o7 trivial (by repeat' (first|exact cI|refine cC I ?_)) (by unfold n0;rw[G4,bK];rfl)
  clear hmS;intro o7 _;refine io (i:=1) I fV λgC=>?_;obtain⟨ab',cs',rfl,hmS,-⟩:=gC
  repeat(first|refine GA ?_|refine gV (aC (v:=ap ac p.aZ.length cc) aK.ty I (aH (i:=0) I I)) ?_)
  refine dY (ι:=Nat×Int) (λ(k,t)=>k<=p.aZ.length/\t=kj p s k) (λ(k,t)=>[(0,aJ (aj ⟨g,0,ak⟩)),(3,aJ (aj ⟨g3,0,ak⟩)),(7,av az t),(45,av az p.aZ.length),(46,av az (k:Int))])
   (λ_=>[aP g (Kg (ap ac p.aZ.length cc) (ap ar p.rules.length cr) vf vfol (ap al p.last.length cl) ve (ap ab' ((S++[s]).length+1) cs') (.map (aj gm)) rows vt) 184,n0 (ap ab' ((S++[s]).length+1) cs') (S++[s]),sn gm (S++[s]),fW vt tags,aP g3 (dR s).toArray 233]) (λ(k,_)=>p.aZ.length-k) (0,-1) ⟨bH _,rfl⟩ ?_
  rintro⟨k,t⟩ ⟨hk,ht⟩;dsimp only at hk ht⊢
  by_cases q1:k<p.aZ.length
  ·have hst:=XN p s k
   have hkr:k<p.rules.length:=by omega
   have hkl:k<p.last.length:=by omega
   rw[cH (l:=p.rules),bD hkr,kD,cH (l:=p.last),bD hkl,kD]at hst;obtain⟨br,ON,rfl,afq⟩:=hrr J;obtain⟨bl,XP,rfl,afr⟩:=Fk J;have adW:=λ(L:List b_)=>OO (L:=L) jU ho afq hkr 0 _ I;have ag_:=λ(L:List b_)=>OO (L:=L) Rp ho afr hkl 0 _ I;have hr0:=(hmr _ (cD hkr)).1;have XL:=λw=>se s k J w;clear afq afr hrr Fk hmr;generalize p.rules[k]=r at*;generalize p.last[k]=lb at*;generalize s.mem k=b at*;rw[<-ht]at hst;clear ht;have XQ:∀(L:List b_),At B L ⟨br,ON+k*1+0,ak⟩ (av az r):=adW;have Rr:∀(L:List b_),At B L ⟨bl,XP+k*1+0,ak⟩ (.bool lb):=ag_
   repeat(first|refine GA ?_|refine gV (aO (i:=4) aK.ty I I I) ?_)
   refine aW (fI aI.en I I I) (λw hm=>XL w) I I I ?_;intro _ _;refine zL ?_;have skip:∀(_:¬(b=aD/\lb=aD/\(t<0\/r<t))),kj p s (k+1)=t:=λh=>by rw[hst,if_neg h]
   have take:b=aD/\lb=aD/\(t<0\/r<t)->kj p s (k+1)=r:=λh=>by rw[hst,if_pos h]
   clear hst
   by_cases q2:b=aD
   ·subst q2
    by_cases q3:lb=aD
    ·subst q3
     by_cases q4:t<0
     ·have e:=(take ⟨rfl,rfl,.inl q4⟩).symm
      repeat(first|refine GC ?_|refine gV (aC (v:=ap (aj ⟨bl,XP,ak⟩) p.last.length cl) aK.ty I (aH (i:=0) I I)) ?_|refine gV (aX bL.eq aK.ty I I hkl) ?_|refine gV (aC (v:= .bool aD) aK.ty I (Rr _)) ?_|refine gV (dO (b:=aD) I I (decide_eq_true q4)) ?_|refine gV (aC (v:=ap (aj ⟨br,ON,ak⟩) p.rules.length cr) aK.ty I (aH (i:=0) I I)) ?_|refine gV (aX bL.eq aK.ty I I hkr) ?_|refine gV (aC (v:=av az r) aK.ty I (XQ _)) ?_|refine GB ?_)
      exact bW (k+1,r) ⟨by omega,e⟩ (by show p.aZ.length-(k+1)<p.aZ.length-k;omega)
     by_cases q5:r<t
     ·have e:=(take ⟨rfl,rfl,.inr q5⟩).symm
      repeat(first|refine GC ?_|refine gV (aC (v:=ap (aj ⟨bl,XP,ak⟩) p.last.length cl) aK.ty I (aH (i:=0) I I)) ?_|refine gV (aX bL.eq aK.ty I I hkl) ?_|refine gV (aC (v:= .bool aD) aK.ty I (Rr _)) ?_|refine gV (dO (b:=aE) I I (decide_eq_false q4)) ?_|refine gV (aC (v:=ap (aj ⟨br,ON,ak⟩) p.rules.length cr) aK.ty I (aH (i:=0) I I)) ?_|refine gV (aX bL.eq aK.ty I I hkr) ?_|refine gV (aC (v:=av az r) aK.ty I (XQ _)) ?_|refine gV (dO (b:=aD) I I (decide_eq_true q5)) ?_|refine GB ?_)
      exact bW (k+1,r) ⟨by omega,e⟩ (by show p.aZ.length-(k+1)<p.aZ.length-k;omega)
     have e:=(skip (λh=>h.2.2.elim q4 q5)).symm
     repeat(first|refine GC ?_|refine gV (aC (v:=ap (aj ⟨bl,XP,ak⟩) p.last.length cl) aK.ty I (aH (i:=0) I I)) ?_|refine gV (aX bL.eq aK.ty I I hkl) ?_|refine gV (aC (v:= .bool aD) aK.ty I (Rr _)) ?_|refine gV (dO (b:=aE) I I (decide_eq_false q4)) ?_|refine gV (aC (v:=ap (aj ⟨br,ON,ak⟩) p.rules.length cr) aK.ty I (aH (i:=0) I I)) ?_|refine gV (aX bL.eq aK.ty I I hkr) ?_|refine gV (aC (v:=av az r) aK.ty I (XQ _)) ?_|refine gV (dO (b:=aE) I I (decide_eq_false q5)) ?_|refine GB ?_)
     exact bW (k+1,t) ⟨by omega,e⟩ (by show p.aZ.length-(k+1)<p.aZ.length-k;omega)
    have e:=(skip (λh=>q3 h.2.1)).symm;obtain rfl:=tU.2 q3
    repeat(first|refine GA ?_|refine gV (aC (v:=ap (aj ⟨bl,XP,ak⟩) p.last.length cl) aK.ty I (aH (i:=0) I I)) ?_|refine gV (aX bL.eq aK.ty I I hkl) ?_|refine gV (aC (v:= .bool aE) aK.ty I (Rr _)) ?_)
    exact bW (k+1,t) ⟨by omega,e⟩ (by show p.aZ.length-(k+1)<p.aZ.length-k;omega)
   have e:=(skip (λh=>q2 h.1)).symm;obtain rfl:=tU.2 q2
   try refine GA ?_
   exact bW (k+1,t) ⟨by omega,e⟩ (by show p.aZ.length-(k+1)<p.aZ.length-k;omega)
  ·obtain rfl:k=p.aZ.length:=by omega
   rw[show wm p s=t from ht.symm]at*
   repeat(first|refine GA ?_|refine gV (aC (v:=vt) aK.ty I (aH (i:=0) I I)) ?_)
   refine jN (i:=3) I I I I I I (λz h=>by cases h;rfl) J J I λz' og=>?_;refine zL ?_
   try refine GA ?_
   refine aU (i:=3) I λkK lz=>bU (i:=0) I I I kK lz I ?_;refine zL ?_
   repeat(first|refine GC ?_|refine gV (aC (v:=ap ab' ((S++[s]).length+1) cs') aK.ty I (aH (i:=0) I I)) ?_|refine gV (eC (r:=((S.length+1:Nat):Int)) I I (by simp;omega) (by simp;omega) (by simp)) ?_|refine GB ?_)
   refine dh [0,1,2,3] ?_;exact cJ I I λw hm=>hm.cB (S:=⟨λ(_:Value×Value)=>True,λ_=>av az ((S.length+1:Nat):Int),λx=>Kh (ap ac p.aZ.length cc) (ap ar p.rules.length cr) vf vfol (ap al p.last.length cl) ve rows g gm x.1 x.2 ⟨S++[s],tags++[t]⟩⟩) (ap ab' ((S++[s]).length+1) cs',og) trivial [0,1,2,3] aiz (by unfold Kh;rw[<-XM];rfl)
  done
end bZ
namespace ef
open dg fZ
def npl:Re->Nat
 | .byte _=>1
 | .Ia a b=>npl a+npl b
 | .Ib a b=>npl a+npl b
 | .star a=>npl a
 |_=>0
inductive Rs(P:List Nat->Prop):List Nat->Prop
 |nil:Rs P []
 |cons {u v:List Nat}:P u->Rs P v->Rs P (u++v)
def Wd:Re->Nat->List Nat->Prop
 | .none,_,_=>False
 | .empty,_,l=>l=[]
 | .byte _,n,l=>l=[n]
 | .Ia a b,n,l=>∃u v,l=u++v/\Wd a n u/\Wd b (n+npl a) v
 | .Ib a b,n,l=>Wd a n l\/Wd b (n+npl a) l
 | .star a,n,l=>Rs (Wd a n) l
def Chn(F:Nat->Nat->Prop)(T:Nat->Prop):Nat->List Nat->Prop
 |x,[]=>T x
 |x,y::r=>F x y/\Chn F T y r
theorem Chn.mono{F F':Nat->Nat->Prop}{T T':Nat->Prop}(hF:∀x y,F x y->F' x y)(hT:∀x,T x->T' x):∀{l:List Nat} {x:Nat},Chn F T x l->Chn F' T' x l
 |[],_,h=>hT _ h
 |_::_,_,⟨h,h'⟩=>⟨hF _ _ h,Chn.mono hF hT h'⟩
theorem Chn.To{F F':Nat->Nat->Prop}{T T':Nat->Prop}(hF:∀x y,F x y->F' x y){y:Nat}{r:List Nat}(hT:∀x,T x->F' x y)(hr:Chn F' T' y r):∀{l:List Nat} {x:Nat},Chn F T x l->Chn F' T' x (l++y::r)
 |[],_,h=>⟨hT _ h,hr⟩
 |_::_,_,⟨h,h'⟩=>⟨hF _ _ h,Chn.To hF hT hr h'⟩
end ef
end Go.Proofs.YtaobbfedlnddcaaGreat

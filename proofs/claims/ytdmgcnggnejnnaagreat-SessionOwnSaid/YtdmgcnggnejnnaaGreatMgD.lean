/- Part 4 of what SessionOwn needs: SmT, SmK, SmW, SmD, DfX, DfM, AbcL, AppR, SeP, Ev, EvS, GateC, GateD, CfgP, SmX, SmY, SmA, CountC, CountD, LlM, LlC, LrA, LrK, LrC, ClimbB, ClimbC, LrP, LrT, BuA, BuB, ClimbD, ClimbE. -/
import Derived.Test.YtdmgcnggnejnnaaGreatMgC
namespace Go.Proofs.YtdmgcnggnejnnaaGreat
set_option linter.unusedVariables false
set_option linter.unusedSimpArgs false
open _root_.And renaming intro->cJ
open _root_.Array renaming getElem?_eq_some_iff->jx,length_toList->mf
open _root_.Array.mk renaming injEq->pI
open _root_.Bool renaming true->aC,false->aE,and_eq_true->eX,false_eq_true->nX,eq_false_iff->wk
open _root_.Classical renaming not_not->afL
open _root_.False renaming elim->oE
open _root_.Go.BigFrame renaming execOp_builtin->lP,builtin_append->sJ
open _root_.Go.Builtin renaming append_->ux,lenOf->AS,firstCells->DG
open _root_.Go.Instr renaming build->df
open _root_.Go.IntKind renaming i64->az,bits->kX,signed->pt,wrap_u8->JC,wrap->Z2,i16->Z3,u8->JD
open _root_.Go.Op renaming equalIn->lQ
open _root_.Go.Oper renaming wp->gj
open _root_.Go.Proofs.Tryz renaming prog->aD
open _root_.Go.Value renaming slice->ap,int->av,pointer->aJ,agg->aQ,oneCell'->eY,ownBlock->sP
open _root_.Go.Value.agg renaming injEq->ly
open _root_.Go.Value.int renaming injEq->yA
open _root_.Go.Value.slice renaming injEq->kH
open _root_.Go.World renaming ownsRow_nil->Z4
open _root_.Int renaming toNat_natCast->dF,eq_ofNat_of_zero_le->iw,toNat_of_nonneg->vh
open _root_.List renaming getElem?_eq_getElem->bK,getD_eq_getElem?_getD->cB,length_append->bI,getElem?_eq_some_iff->dg,getElem_mem->b_,replicate->cL,length_cons->db,mem_singleton->dO,drop_eq_getElem_cons->eZ,append_nil->du,length_map->dA,size_toArray->ey,take_succ_eq_append_getElem->gX,append_assoc->dZ,mem_cons->dC,getElem?_map->fe,map_append->e7,take_of_length_le->fU,nil_append->eI,flatMap_append->fV,drop_of_length_le->ir,length_drop->ic,mem_append->fx,not_mem_nil->fH,range->eg,getElem?_toArray->jz,mem_cons_self->ia,getElem?_set_ne->kZ,length_nil->gY,eq_nil_of_length_eq_zero->mS,mem_map->eT,mem_cons_of_mem->jR,mem_iff_getElem->iB,getElem?_set_self->nF,map_cons->gv,getElem?_eq_none->k7,length_take->iN,length_singleton->nM,length_range->pJ,drop_eq_nil_of_le->pX,ext_getElem?->mi,getElem?_take->rl,mem_of_mem_drop->yB,drop_zero->tk,setIfInBounds_toArray->uF,length_reverse->Kr,exists_cons_of_ne_nil->Q_,map_replicate->BF,length_tail->Ks,range_succ->Bd,getElem?_range->Ep,length->yZ,map_singleton->Fv,flatMap_def->Q',flatten_cons->DO,map_eq_flatMap->Z5,mem_reverse->Z6,take_left->Z7,map_take->Z8
open _root_.List.cons renaming injEq->gU
open _root_.Nat renaming le_refl->bz,zero_le->bH,zero_add->cX,blt->dj,le_trans->fI,lt_succ_self->mC,add_mul->iP,not_lt_zero->mz,succ_mul->ml,add_zero->iu,mul_one->k_,succ_ne_zero->y0,sub_self->pK,mul_le_mul->Fw,lt_irrefl->y6,add_sub_cancel->Ra,blt_eq->Fy,le_of_eq->Z9
open _root_.Option renaming some->aj,none->ak,getD_some->kL,map_some->Rb
open _root_.Option.some renaming injEq->dh,inj->ra
open _root_.Prod renaming ext->oH
open _root_.True renaming intro->cT
open _root_.Vector renaming replicate->eB,getElem_ofFn->l5,getElem_toList->nj,ext->kN,getElem_set->wB,ofFn->BG
set_option maxHeartbeats 16000000
namespace bZ
open Go.RowKit cK dS zN cD
theorem Aq{R:List Row}{tags:List Int}{i:Nat}(h:i<tags.length):(fA R tags).tag i=tags[i]:=by
 show tags.getD i 0=_
 rw[cB,bK h];rfl
theorem Ns{R:List Row}{tags:List Int}{i b:Nat}(h:i<R.length)(hb:b<256):(fA R tags).d i b=(R[i])[b]:=by
 show(R.getD i xD).toList.getD b 0=_
 rw[cB (l:=R),bK h,kL,cB,bK (by simpa using hb),kL,nj]
theorem TG(r:Row){b:Nat}(hb:b<256)(x:Int):(eU r).toArray.setIfInBounds b (.int .i16 x)=(eU (r.set b x)).toArray:=by
 unfold eU;rw[Vector.toList_set,List.map_set];simp
theorem sk{P:Program}{n:Nat}{W:bL}{fr:Fr}{L:List b9}{Q:Exit->Act->World->Prop}{ops:Array Oper}{rest:List Oper}{ty:TypeId}{pos:String}{after:Array Edge}{t:TypeId}{p x:Operand}{i g b:Nat}{r:Row}{T:TypeId}{agg:Bool}{z:Int}[hT:aK P t agg 1](hi:L[i]?=aj (aP g (eU r).toArray T))(hp:ev fr p=aj (aJ (aj ⟨g,0+b,ak⟩)))(hx:ev fr x=aj (.int .i16 z))(hb:b<256)
 (h:TL P n W ops Q rest fr (L.set i (aP g (eU (r.set b z)).toArray T))):TL P n W ops Q (⟨ak,.store t p x,ty,pos,after,ak⟩::rest) fr L:=by
 rw[cX]at hp;refine bV hi hp hx I I ?_ ?_
 ·rw[ey,dz];exact Fy▸hb
 ·rw[TG r hb];exact h
def Ar(x y:Int)(b:Nat):Row:=BG λi:Fin 256=>if i<b then x else y
theorem VQ(x y:Int)(b:Nat)(hb:b<256):(Ar x y b).set b x=Ar x y (b+1):=by
 refine kN λi hi=>?_;unfold Ar;rw[wB,l5,l5];split
 ·rename_i e;subst e;simp
 have:i<b↔i<b+1:=by omega
 simp only[this]
theorem ac3(x y:Int):Ar x y 0=eB 256 y:=by
 refine kN λi hi=>?_;unfold Ar;simp
theorem VR(x y:Int):Ar x y 256=eB 256 x:=by
 refine kN λi hi=>?_;unfold Ar;simp[hi]
theorem Fz:(cL 256 (av .i16 0)).toArray=(eU (eB 256 0)).toArray:=by
 unfold eU;rw[Vector.toList_replicate,BF]
def CT(r:Row):Value:=aQ (eU r).toArray
theorem Cp(x:Int)(w:World):Calls aD 118 #[.int .i16 x] w (bY (ret (CT (eB 256 x))) w):=by
 refine enter (args:=[.int .i16 x]) (n:=13) Tryz.func118 I I I ?_;refine bW (bB (a8 I λg=>?_))
 try refine GA ?_
 refine a8 I λg3=>?_;refine zL ?_;rw[Fz]
 try refine GA ?_
 rw[<-ac3 x 0];refine d_ (ι:=Nat) (λb=>b<=256) (λb=>[(0,.int .i16 x),(2,aJ (aj ⟨g,0,ak⟩)),(3,aJ (aj ⟨g3,0,ak⟩)),(5,av az (b:Int))]) (λb=>[aP g (eU (Ar x 0 0)).toArray 257,aP g3 (eU (Ar x 0 b)).toArray 257]) (λb=>256-b) 0 (bH _) ?_;intro b hb
 by_cases c:b<256
 ·repeat(first|refine GA ?_|refine gV (iz bM.eq aK.ty I I c) ?_)
  refine sk (i:=1) I I I c ?_;rw[VQ x 0 b c];refine zL ?_
  try refine GA ?_
  exact bT (b+1) J (by show 256-(b+1)<256-b;omega)
 obtain rfl:b=256:=by omega
 rw[VR]
 repeat(first|refine GA ?_|refine gV (aO (i:=1) aK.ty I I (by rw[ey,dz])) ?_)
 refine aX (i:=0) I I I (by rw[ey,dz]) (by have:=sj (eB 256 x);simpa using this) (by rw[ey,dz]) ?_;refine zL ?_
 try refine GA ?_
 exact fZ (i:=0) I I I (by rw[ey,dz]) λw hm=>hm.ret
end bZ
namespace bZ
open Go.RowKit cK dS cD
def qX(k:Kind):List Value:=av az k.1::eU k.2
def Nt(k:Kind):Value:=aQ (qX k).toArray
theorem mJ(k:Kind):(qX k).length=257:=by simp[qX,dz]
def TH(r:Row):Prop:=∀(b:Nat) (h:b<256),(-32768:Int)<=r[b]/\r[b]<=32767
theorem Z_{r r':Row}(h:eU r=eU r'):r=r':=by
 refine kN λb hb=>?_;have h1:=qh r hb;rw[h,qh r' hb]at h1;simp at h1;exact h1.symm
theorem afM{r:Row}(h:TH r)(d:Nat):KL aD (d+2) 257 (eU r):=by
 have e2:aD.cellsOf 257=256:=by kernel_rfl
 have e3:aD.cellsOf 255=1:=by kernel_rfl
 refine Ye (d:=d+1) Tryz.underlying257 (by rw[dz,e2]) λi hi=>?_;have hc:((eU r).drop (i*aD.cellsOf 255)).take (aD.cellsOf 255)=[.int .i16 r[i]]:=by
  rw[e3,k_];have hl:i<(eU r).length:=by rw[dz];exact hi
  rw[eZ hl];have:=qh r hi;rw[bK hl]at this;rw[ra this];rfl
 rw[hc];exact uZ Tryz.underlying255 (h i hi).1 (h i hi).2
set_option maxRecDepth 100000 in
theorem Z'(k:Kind)(h:cK.dU k.1/\TH k.2):∃l,keyOf aD 310 (Nt k)=aj l:=by
 have e1:aD.cellsOf 310=257:=by kernel_rfl
 have e2:aD.cellsOf 257=256:=by kernel_rfl
 have e3:aD.cellsOf 3=1:=by kernel_rfl
 refine Jz (m:=3) (by kernel_rfl) (by kernel_rfl) (by rw[mJ,e1]) (Da 3 (by kernel_rfl)) λd=>?_;refine Bb (d:=d+2) Tryz.underlying310 (by rw[mJ,e1]) (by kernel_rfl) λf hf=>?_;simp only[dC,fH,or_false]at hf;rcases hf with rfl|rfl
 ·rw[e3]
  exact uZ (d:=d+1) Tryz.underlying3 h.1.1 h.1.2
 show KL aD (d+2) 257 (((qX k).drop 1).take (aD.cellsOf 257))
 rw[e2];have:((qX k).drop 1).take 256=eU k.2:=by
  show(eU k.2).take 256=_
  rw[fU (by rw[dz];omega)]
 rw[this];exact afM h.2 d
theorem ac4:(310:TypeId)<aD.types.size:=of_decide_eq_true (by kernel_rfl)
set_option maxRecDepth 100000 in
def wC:yt aD 310 Kind where
 kv:=Nt
 ok k:=cK.dU k.1/\TH k.2
 law:=deep_law_laid C' (m:=3) J ac4 (by kernel_rfl) (by kernel_rfl)
 key x h:=Z' x h
 inj x y h:=by
  simp only[Nt,ly,pI,qX,gU,yA,true_and]at h;exact oH h.1 (Z_ h.2)
abbrev FB:=Vector Int 200
def y7(c:FB):List Value:=c.toList.map (.int .i16)
def afN(c:FB):Value:=aQ (y7 c).toArray
theorem sm(c:FB):(y7 c).length=200:=by simp[y7]
theorem FC(c:FB){b:Nat}(hb:b<200):(y7 c)[b]?=aj (.int .i16 c[b]):=by
 unfold y7;rw[fe,bK (by simpa using hb),nj];rfl
def aaa(c:FB):Prop:=∀(b:Nat) (h:b<200),(-32768:Int)<=c[b]/\c[b]<=32767
set_option maxRecDepth 100000 in
theorem ac5(c:FB)(h:aaa c):∃l,keyOf aD 263 (afN c)=aj l:=by
 have e2:aD.cellsOf 263=200:=by kernel_rfl
 have e3:aD.cellsOf 255=1:=by kernel_rfl
 refine Jz (m:=2) (by kernel_rfl) (by kernel_rfl) (by rw[sm,e2]) (Da 2 (by kernel_rfl)) λd=>?_;refine Ye (d:=d+1) Tryz.underlying263 (by rw[sm,e2]) λi hi=>?_;have hc:((y7 c).drop (i*aD.cellsOf 255)).take (aD.cellsOf 255)=[.int .i16 c[i]]:=by
  rw[e3,k_];have hl:i<(y7 c).length:=by rw[sm];exact hi
  rw[eZ hl];have:=FC c hi;rw[bK hl]at this;rw[ra this];rfl
 rw[hc];exact uZ Tryz.underlying255 (h i hi).1 (h i hi).2
theorem afO:(263:TypeId)<aD.types.size:=of_decide_eq_true (by kernel_rfl)
set_option maxRecDepth 100000 in
def Nu:yt aD 263 FB where
 kv:=afN
 ok:=aaa
 law:=deep_law_laid C' (m:=2) J afO (by kernel_rfl) (by kernel_rfl)
 key x h:=ac5 x h
 inj x y h:=by
  simp only[afN,ly,pI]at h;refine kN λb hb=>?_;have h1:=FC x hb;rw[h,FC y hb]at h1;simp at h1;exact h1.symm
theorem aab(w:World):(zeroValue 3).run aD w= .ok (av az 0) w:=by kernel_rfl
end bZ
namespace bZ
open Go.RowKit cK dS zN cD
set_option maxRecDepth 100000 in
theorem Rf(w:World):(df 310 #[(1,CT (eB 256 0))]).run aD w= .ok (Nt dead) w:=by kernel_rfl
set_option maxRecDepth 100000 in
theorem Rg(x:Int)(w:World):(df 310 #[(0,av az x)]).run aD w= .ok (Nt (x,eB 256 0)) w:=by kernel_rfl
theorem Rh{x:Int}(h0: -32768<=x)(h1:x<=32767):Z3.wrap x=x:=by
 simp only[Z2,kX,pt];simp;omega
abbrev l6(x:Int):Value:=av az x
theorem aac(x:Int)(r:Row){b:Nat}(hb:b<256)(y:Int):(qX (x,r)).toArray.setIfInBounds (1+b) (.int .i16 y)=(qX (x,r.set b y)).toArray:=by
 have e:1+b=b+1:=by omega
 unfold qX;rw[e,uF,List.set_cons_succ];have:=TG r hb y;rw[uF]at this;have h2:(eU r).set b (.int .i16 y)=eU (r.set b y):=by simpa using this
 rw[h2]
section
variable{P:Program}{n:Nat}{W:bL}{fr:Fr}{L:List b9}{Q:Exit->Act->World->Prop}{ops:Array Oper}{rest:List Oper}{ty:TypeId}{pos:String}{after:Array Edge}
theorem VS{t:TypeId}{p x:Operand}{i g b:Nat}{y:Int}{r:Row}{T:TypeId}{agg:Bool}{z:Int}[hT:aK P t agg 1](hi:L[i]?=aj (aP g (qX (y,r)).toArray T))(hp:ev fr p=aj (aJ (aj ⟨g,1+b,ak⟩)))(hx:ev fr x=aj (.int .i16 z))(hb:b<256)
 (h:TL P n W ops Q rest fr (L.set i (aP g (qX (y,r.set b z)).toArray T))):TL P n W ops Q (⟨ak,.store t p x,ty,pos,after,ak⟩::rest) fr L:=by
 refine bV hi hp hx I I ?_ ?_
 ·rw[ey,mJ];exact Fy▸(by omega:1+b<257)
 ·rw[aac y r hb];exact h
end
def FD(A:vm)(now:Nat->Nat)(i b:Nat):Row:=BG λj:Fin 256=>if j<b then(val now (A.d i j):Int)else 0
theorem afP(A:vm)(now:Nat->Nat)(i:Nat):FD A now i 0=eB 256 0:=by
 refine kN λj hj=>?_;unfold FD;simp
theorem aad(A:vm)(now:Nat->Nat)(i:Nat):((now i:Int),FD A now i 256)=kind A now i:=by
 refine oH I (kN λj hj=>?_);unfold FD kind;simp[hj]
theorem Nv(A:vm)(now:Nat->Nat)(i b:Nat)(hb:b<256):(FD A now i b).set b (val now (A.d i b):Int)=FD A now i (b+1):=by
 refine kN λj hj=>?_;unfold FD;rw[wB,l5,l5];split
 ·rename_i e;subst e;simp
 have:j<b↔j<b+1:=by omega
 simp only[this]
theorem VT(A:vm)(now:Nat->Nat)(i b:Nat)(hb:b<256)(h0:val now (A.d i b)=0):FD A now i b=FD A now i (b+1):=by
 rw[<-Nv A now i b hb,h0];refine kN λj hj=>?_;rw[wB];split
 ·rename_i e;subst e;unfold FD;simp
 rfl
structure Kt(A:vm)(f n:Nat)(now:Nat->Nat):Prop where
 eq:dY A=HU A f n now
 rd:n=0\/SS A n now
 le:n<=A.n+1
 fuel:A.n+2<=f+n
 lim:∀i,i<A.n->now i<=200
theorem ac6{A:vm}(hA:A.Ok):Kt A (A.n+2) 0 (zQ A):=⟨rfl,.inl I,bH _,by omega,λi hi=>by unfold zQ;have:=hA.tags i hi;omega⟩
theorem Nw{A:vm}(hA:A.Ok){f n:Nat}{now:Nat->Nat}(h:Kt A f n now):∃f',f=f'+1/\((pM A now).length=n->dY A=next A now)/\((pM A now).length≠n->Kt A f' (pM A now).length (next A now)):=by
 have h1:=h.le;have h2:=h.fuel;obtain⟨f',rfl⟩:∃f',f=f'+1:=⟨f-1,by omega⟩;have e:=h.eq;unfold HU at e;refine⟨f',rfl,λhc=>by rw[e,if_pos hc],λhc=>⟨by rw[e,if_neg hc],.inr ⟨now,rfl,rfl⟩,Bf now,?_,λi hi=>?_⟩⟩
 ·have hp:=SR (A:=A) now
  rcases h.rd with rfl|hr
  omega;have:=(yD hr).1;omega
 have:=qR (A:=A) (now:=now) (q:=(i:Int)) J;rw[Am]at this;have h3:=Bf (A:=A) now;have h4:=hA.le;omega
theorem ac7{A:vm}{now:Nat->Nat}(h:∀i,i<A.n->now i<=200){q:Int}(hq:St A q):val now q<=200:=by
 unfold val;split;omega;exact h _ (by unfold St at hq;omega)
theorem ac8{A:vm}(hA:A.Ok){now:Nat->Nat}(h:∀i,i<A.n->now i<=200){i:Nat}(hi:i<A.n):cK.dU (kind A now i).1/\TH (kind A now i).2:=by
 refine⟨?_,λb hb=>?_⟩
 ·have:=h i hi
  show cK.dU (now i:Int)
  exact⟨by omega,by omega⟩
 have:=ac7 h (hA.step i hi b hb);unfold kind;rw[l5];show-32768<=(val now (A.d i b):Int)/\(val now (A.d i b):Int)<=32767
 omega
def kE(A:vm)(now:Nat->Nat)(i:Nat):List Kind:=dR [dead] ((kinds A now).take i)
theorem VU(A:vm)(now:Nat->Nat):kE A now A.n=pM A now:=by unfold kE pM;rw[fU (by simp[kinds])]
theorem Ix(A:vm)(now:Nat->Nat){i:Nat}(hi:i<A.n):∃h:i<(kinds A now).length,(kinds A now)[i]=kind A now i:=⟨by simpa[kinds]using hi,by simp[kinds]⟩
theorem ac9(A:vm)(now:Nat->Nat){i:Nat}(hi:i<A.n)(h:kind A now i∈kE A now i):kE A now (i+1)=kE A now i/\next A now i=idx (kE A now i) (kind A now i):=by
 obtain⟨hl,e⟩:=Ix A now hi;have h2:=Yg (D:=[dead]) hl;unfold kE at h;rw[e,if_pos h]at h2;refine⟨?_,h2⟩;unfold kE;rw[gX hl,lu,e,more,if_pos];exact h
theorem ac_(A:vm)(now:Nat->Nat){i:Nat}(hi:i<A.n)(h:kind A now i∉kE A now i):kE A now (i+1)=kE A now i++[kind A now i]/\next A now i=(kE A now i).length:=by
 obtain⟨hl,e⟩:=Ix A now hi;have h2:=Yg (D:=[dead]) hl;unfold kE at h;rw[e,if_neg h]at h2;refine⟨?_,h2⟩;unfold kE;rw[gX hl,lu,e,more,if_neg];exact h
theorem aae(A:vm)(now:Nat->Nat)(i:Nat):(kE A now i).length<=A.n+1:=by
 have h:=Bf (A:=A) now;have e:kinds A now=(kinds A now).take i++(kinds A now).drop i:=(List.take_append_drop _ _).symm;have hap:∀(a b D:List Kind),dR D (a++b)=dR (dR D a) b:=by
  intro a
  induction a with
  |nil=>intro b D;rfl
  |cons x a ih=>intro b D;exact ih b _
 obtain⟨E,h2⟩:=s9 ((kinds A now).drop i) (kE A now i);have h3:pM A now=kE A now i++E:=by
  unfold pM;rw[e,hap];exact h2
 rw[h3,bI]at h;omega
set_option maxRecDepth 100000 in
theorem Ku(vr vt:Value)(R:List Row)(tags:List Int)(w:World)(h:G8 w vr vt R tags)(hc:mw R tags=0):
 Calls aD 117 #[ja vr vt] w (bY ⟨λ_=>True,λ(g:Nat)=>ap (aj ⟨g,0,ak⟩) R.length R.length,λg=>[fv 3 l6 g R.length λi=>(dY (fA R tags) i:Int)]⟩ w):=by
 obtain⟨hA,hlt⟩:=wz hc;obtain⟨bt,ct,rfl,ht1,YC,Lp⟩:=h.hT;obtain⟨br,cr,rfl,WD,ul,Ex⟩:=h.hR;have en:(fA R tags).n=R.length:=rfl;have An:0<R.length:=hA.pos;have hle:R.length<=200:=hA.le;obtain⟨b,off,rfl,hr⟩:=Ex An;obtain⟨bb,mK,rfl,hrt⟩:=Lp J;unfold maxLen at ul YC;have aj4:∀i,i<R.length->(fA R tags).tag i=tags.getD i 0:=λi _=>rfl;clear Ex Lp h;refine enter (args:=[ja (ap (aj ⟨b,off,ak⟩) R.length cr) (ap (aj ⟨bb,mK,ak⟩) tags.length ct)]) (n:=98) Tryz.func117 I I I ?_;refine bW (bB (bP I I I λg1=>?_))
 repeat(first|refine GA ?_|refine gV (aB aK.ty I (aH (i:=0) I I)) ?_)
 refine pO l6 0 I I J J I λg3=>?_;refine zL ?_
 repeat(first|refine GA ?_|refine gV (aB aK.ty I (aH (i:=0) I I)) ?_)
 refine mq (ι:=Nat) (λi=>i<=tags.length) (λi=>[(1,aJ (aj ⟨g1,0,ak⟩)),(3,ap (aj ⟨g3,0,ak⟩) R.length R.length),(22,ap (aj ⟨bb,mK,ak⟩) tags.length ct),(23,av az (tags.length:Int)),(24,av az (i:Int))])
  (λi=>[aP g1 (ja (ap (aj ⟨b,off,ak⟩) R.length cr) (ap (aj ⟨bb,mK,ak⟩) tags.length ct)).cells 186,fv 3 l6 g3 R.length λj=>if j<i then(zQ (fA R tags) j:Int)else 0]) (λi=>tags.length-i) 0 (bH _) (by repeat' (first|exact cT|refine cJ I ?_)) (by rw[pN (f':=λj=>if j<0 then(zQ (fA R tags) j:Int)else 0) λi _=>by simp]) ?_
 intro i hi
 by_cases c1:i<tags.length
 ·have dy:=ib (W:=w) (L:=[aP g1 (ja (ap (aj ⟨b,off,ak⟩) R.length cr) (ap (aj ⟨bb,mK,ak⟩) tags.length ct)).cells 186,fv 3 l6 g3 R.length λj=>if j<i then(zQ (fA R tags) j:Int)else 0]) (c:=1) (f:=cK.dQ) (λ_=>rfl) hrt c1 0 _ I
  have htg:=hA.tags i J;have h0:(zQ (fA R tags) i:Int)=tags[i]+1:=by
   unfold zQ;rw[Aq c1]at htg⊢;omega
  rw[Aq c1]at htg;generalize tags[i]=x at*
  repeat(first|refine GA ?_|refine gV (aY bM.eq aK.ty I I c1) ?_|refine gV (aB aK.ty I dy) ?_|refine gV (bU bM.eq aK.ty I I (show i<R.length by omega)) ?_)
  refine jl (i:=1) (off:=i) (v:=x+1) (λj=>if j<i+1 then(zQ (fA R tags) j:Int)else 0) aK.ty I I I I I J (λj hj=>?_) ?_
  ·by_cases e:j=i
   subst e;rw[if_pos J,if_pos I,h0];rw[if_neg e];have:j<i+1↔j<i:=by omega
   simp only[this]
  refine zL ?_
  try refine GA ?_
  exact bT (i+1) J (by show tags.length-(i+1)<tags.length-i;omega)
 ·obtain rfl:i=tags.length:=by omega
  rw[pN (f':=λj=>(zQ (fA R tags) j:Int)) λj hj=>if_pos (show j<tags.length by omega)];clear c1 hi
  try refine GA ?_
  refine d_ (ι:=Nat×Nat×(Nat->Nat)×Nat) (λ(f,c,now,_)=>Kt (fA R tags) f c now) (λ(_,c,_,g3)=>[(1,aJ (aj ⟨g1,0,ak⟩)),(3,ap (aj ⟨g3,0,ak⟩) R.length R.length),(6,av az (c:Int))])
   (λ(_,_,now,g3)=>[aP g1 (ja (ap (aj ⟨b,off,ak⟩) R.length cr) (ap (aj ⟨bb,mK,ak⟩) tags.length ct)).cells 186,fv 3 l6 g3 R.length λj=>(now j:Int)]) (λ(f,_,_,_)=>f) (R.length+2,0,zQ (fA R tags),g3) (ac6 hA) ?_
  clear g3;rintro⟨f,c,now,g3⟩ eP;dsimp only at eP⊢;obtain⟨f',rfl,ai9,hgo⟩:=Nw hA eP;have Ec:=eP.lim;have qz:=Cp 0;clear eP;have ahw:=Bf (A:=fA R tags) now;rw[en]at ahw
  try refine GA ?_
  refine Bg (K:=wC) I λgm=>?_;refine zL ?_
  try refine GA ?_
  refine aV (i_ aI.en I I) (λw hm=>qz _) I I I ?_;intro _ _
  repeat(first|refine GA ?_|refine gV (bD I Rf) ?_)
  refine a8 I λg8=>?_;refine zL ?_;refine aX (i:=3) (cs':=(qX dead).toArray) I I I (by rw[ey,mJ]) (by kernel_rfl) (by kernel_rfl) ?_;refine zL ?_
  repeat(first|refine GA ?_|refine gV (aO (i:=3) aK.ty I I (by rw[ey,mJ])) ?_)
  refine Bh (K:=wC) (i:=2) (D:=[]) (x:=dead) bM.eq I I I I ⟨⟨by decide,by decide⟩,λb hb=>by show-32768<=(eB 256 (0:Int))[b]/\(eB 256 (0:Int))[b]<=32767;rw[Vector.getElem_replicate];decide⟩ (by simp) akh ?_;refine zL ?_;refine zv [0,1,2] ?_
  try refine GA ?_
  refine pO l6 0 I I J J I λg9=>?_;refine zL ?_
  repeat(first|refine GA ?_|refine gV (aB aK.ty I (aH (i:=0) I I)) ?_)
  refine mq (ι:=Nat) (λi=>i<=R.length) (λi=>[(1,aJ (aj ⟨g1,0,ak⟩)),(3,ap (aj ⟨g3,0,ak⟩) R.length R.length),(6,av az (c:Int)),(7,.map (aj gm)),(9,ap (aj ⟨g9,0,ak⟩) R.length R.length),(44,ap (aj ⟨b,off,ak⟩) R.length cr),(45,av az (R.length:Int)),(46,av az (i:Int))])
   (λi=>[aP g1 (ja (ap (aj ⟨b,off,ak⟩) R.length cr) (ap (aj ⟨bb,mK,ak⟩) tags.length ct)).cells 186,fv 3 l6 g3 R.length λj=>(now j:Int),fq wC gm (kR (kE (fA R tags) now i)) (kE (fA R tags) now i).length,fv 3 l6 g9 R.length λj=>if j<i then(next (fA R tags) now j:Int)else 0]) (λi=>R.length-i) 0 (bH _) (by repeat' (first|exact cT|refine cJ I ?_)) (by rw[pN (g:=g9) (f:=λ_=>(0:Int)) (f':=λj=>if j<0 then(next (fA R tags) now j:Int)else 0) λi _=>by simp];rfl) ?_
  intro i hi
  by_cases c2:i<R.length
  ·have dy:=ib (W:=w) (L:=[aP g1 (ja (ap (aj ⟨b,off,ak⟩) R.length cr) (ap (aj ⟨bb,mK,ak⟩) tags.length ct)).cells 186,fv 3 l6 g3 R.length λj=>(now j:Int),fq wC gm (kR (kE (fA R tags) now i)) (kE (fA R tags) now i).length,fv 3 l6 g9 R.length λj=>if j<i then(next (fA R tags) now j:Int)else 0]) dz hr c2
   have fJ:∀(q:Nat) (hq:q<256),(fA R tags).d i q=(R[i])[q]:=λq hq=>Ns c2 hq;have hst:∀b,b<256->St (fA R tags) ((fA R tags).d i b):=λb hb=>hA.step i c2 b hb;generalize R[i]=r at*
   repeat(first|refine GA ?_|refine gV (aY bM.eq aK.ty I I c2) ?_|refine gV (bm aK.ty I (dz r) dy) ?_)
   refine a8 I λg11=>?_;refine zL ?_
   try refine GA ?_
   refine aX (i:=4) (cs':=(eU r).toArray) I I I (by rw[ey,dz]) (by simpa using sj r) (by kernel_rfl) ?_;refine zL ?_;have xJ:=Ec i c2
   repeat(first|refine GA ?_|refine gV (bU bM.eq aK.ty I I c2) ?_|refine gV (aB aK.ty I (gI (i:=1) I c2)) ?_|refine gV (bD I (Rg _)) ?_)
   refine a8 I λg12=>?_;refine zL ?_;refine aX (i:=5) (cs':=(qX ((now i:Int),eB 256 0)).toArray) I I I (by rw[ey,mJ]) (by rw[<-List.all_toArray];kernel_rfl) (by kernel_rfl) ?_;refine zL ?_
   repeat(first|refine GA ?_|refine gV (aO (i:=4) aK.ty I I (by rw[ey,dz])) ?_)
   rw[<-afP (fA R tags) now i];refine rb [0,1,2,3,5] ?_;refine d_ (ι:=Nat) (λq=>q<=256) (λq=>[(1,aJ (aj ⟨g1,0,ak⟩)),(3,ap (aj ⟨g3,0,ak⟩) R.length R.length),(6,av az (c:Int)),(7,.map (aj gm)),(9,ap (aj ⟨g9,0,ak⟩) R.length R.length),(44,ap (aj ⟨b,off,ak⟩) R.length cr),(45,av az (R.length:Int)),(46,av az (i:Int)),(10,av az (i:Int)),(12,aJ (aj ⟨g12,0,ak⟩)),(56,CT r),(57,av az (q:Int))])
    (λq=>[aP g1 (ja (ap (aj ⟨b,off,ak⟩) R.length cr) (ap (aj ⟨bb,mK,ak⟩) tags.length ct)).cells 186,fv 3 l6 g3 R.length λj=>(now j:Int),fq wC gm (kR (kE (fA R tags) now i)) (kE (fA R tags) now i).length,fv 3 l6 g9 R.length λj=>if j<i then(next (fA R tags) now j:Int)else 0,aP g12 (qX ((now i:Int),FD (fA R tags) now i q)).toArray 310]) (λq=>256-q) 0 (bH _) ?_
   intro q hq
   by_cases c3:q<256
   ·have hcell:(eU r).toArray[q]?=aj (.int .i16 r[q]):=by rw[jz];exact qh r c3
    have hdq:=fJ q c3;have hsq:=hst q c3;have rN:=Nv (fA R tags) now i q c3;have aep:=VT (fA R tags) now i q c3;rw[hdq]at hsq rN aep;clear hdq fJ hst;generalize r[q]=x at*;unfold St at hsq
    by_cases c4:x<0
    ·have hv:val now x=0:=by unfold val;rw[if_pos c4]
     rw[aep hv]
     repeat(first|refine GA ?_|refine gV (jN bM.eq aK.ty I I c3 hcell) ?_)
     exact bT (q+1) J (by show 256-(q+1)<256-q;omega)
    obtain⟨m,rfl⟩:∃m:Nat,x=m:=⟨x.toNat,by omega⟩;have hm:m<R.length:=by omega
    have hlm:=Ec m hm;rw[Am]at rN
    repeat(first|refine GA ?_|refine gV (jN bM.eq aK.ty I I c3 hcell) ?_|refine gV (bU bM.eq aK.ty I I hm) ?_|refine gV (aB aK.ty I (gI (i:=1) I hm)) ?_|refine gV (jo bM.eq bM.eq I (Rh J J)) ?_|refine gV (iz bM.eq aK.ty I I c3) ?_)
    refine VS (i:=4) I I I c3 ?_;rw[rN];refine zL ?_
    try refine GA ?_
    exact bT (q+1) J (by show 256-(q+1)<256-q;omega)
   obtain rfl:q=256:=by omega
   rw[aad];have lT:=ac8 hA Ec (i:=i) c2
   by_cases c5:kind (fA R tags) now i∈kE (fA R tags) now i
   ·obtain⟨e1,e2⟩:=ac9 (fA R tags) now (i:=i) c2 c5
    generalize kind (fA R tags) now i=k at*
    repeat(first|refine GA ?_|refine gV (aO (i:=4) aK.ty I I (by rw[ey,mJ])) ?_|refine gV (vz (K:=wC) (i:=2) (x:=k) bM.eq aab I I I lT c5) ?_|refine gV (bU bM.eq aK.ty I I c2) ?_)
    refine jl (i:=3) (off:=i) (v:=(next (fA R tags) now i:Int)) (λj=>if j<i+1 then(next (fA R tags) now j:Int)else 0) aK.ty I I (by rw[e2];rfl) I I c2 (λj hj=>?_) ?_
    ·by_cases e:j=i
     subst e;rw[if_pos J,if_pos I];rw[if_neg e];have:j<i+1↔j<i:=by omega
     simp only[this]
    refine zL ?_
    try refine GA ?_
    refine dm [0,1,2,3] ?_;exact bT (i+1) J (by show R.length-(i+1)<R.length-i;omega) (hl:=by rw[e1];rfl)
   obtain⟨e1,e2⟩:=ac_ (fA R tags) now (i:=i) c2 c5;have aeR:=aae (fA R tags) now i;rw[en]at aeR;generalize kind (fA R tags) now i=k at*
   repeat(first|refine GC ?_|refine gV (aO (i:=4) aK.ty I I (by rw[ey,mJ])) ?_|refine gV (vB (K:=wC) (i:=2) (x:=k) bM.eq aab I I I lT c5) ?_|refine gV (w9 wC bM.eq (i:=2) I I) ?_|refine GB ?_)
   refine Bh (K:=wC) (i:=2) (x:=k) bM.eq I I I I lT c5 J ?_;refine zL ?_
   repeat(first|refine GA ?_|refine gV (bU bM.eq aK.ty I I c2) ?_)
   refine jl (i:=3) (off:=i) (v:=(next (fA R tags) now i:Int)) (λj=>if j<i+1 then(next (fA R tags) now j:Int)else 0) aK.ty I I (by rw[e2];rfl) I I c2 (λj hj=>?_) ?_
   ·by_cases e:j=i
    subst e;rw[if_pos J,if_pos I];rw[if_neg e];have:j<i+1↔j<i:=by omega
    simp only[this]
   refine zL ?_
   try refine GA ?_
   refine dm [0,1,2,3] ?_;exact bT (i+1) J (by show R.length-(i+1)<R.length-i;omega) (hl:=by rw[e1];rfl)
  obtain rfl:i=R.length:=by omega
  rw[show kE (fA R tags) now R.length=pM (fA R tags) now from VU (fA R tags) now];rw[pN (f':=λj=>(next (fA R tags) now j:Int)) λj hj=>if_pos hj]
  by_cases c6:(pM (fA R tags) now).length=c
  ·rw[ai9 c6]
   repeat(first|refine GC ?_|refine gV (w9 wC bM.eq (i:=2) I I) ?_|refine gV (cZ (b:=aC) I I (decide_eq_true J)) ?_|refine GB ?_)
   exact cO I I λw hm=>hm.meets (S:=⟨λ_=>True,λ(g:Nat)=>ap (aj ⟨g,0,ak⟩) R.length R.length,λg=>[fv 3 l6 g R.length λi=>(next (fA R tags) now i:Int)]⟩) g9 trivial [3] akh I
  repeat(first|refine GC ?_|refine gV (w9 wC bM.eq (i:=2) I I) ?_|refine gV (cZ (b:=aE) I I (decide_eq_false J)) ?_|refine GB ?_)
  refine dm [0,3] ?_;exact bT (f',(pM (fA R tags) now).length,next (fA R tags) now,g9) (hgo c6) (mC f')
end bZ
namespace bZ
open Go.RowKit cK dS zN cD
theorem FE(vr vt:Value)(R:List Row)(tags:List Int)(w:World)(h:G8 w vr vt R tags):Calls aD 116 #[ja vr vt] w (bY (ret (av az (mw R tags))) w):=Ew _ _ _ w h.ahv
end bZ
namespace bZ
open Go.RowKit cK dS de gd eE nu cD
set_option maxRecDepth 100000 in
theorem afQ(x y:C4)(w:World):(lQ 10000 303 (aQ (ed x).toArray) (aQ (ed y).toArray)).run aD w= .ok (decide (x=y)) w:=by
 show(lQ 10000 303 (aQ #[v64 x.a,v64 x.b,v64 x.c,v64 x.d]) (aQ #[v64 y.a,v64 y.b,v64 y.c,v64 y.d])).run aD w=_
 have e:(lQ 10000 303 (aQ #[v64 x.a,v64 x.b,v64 x.c,v64 x.d]) (aQ #[v64 y.a,v64 y.b,v64 y.c,v64 y.d])).run aD w= .ok ((gB x.a==gB y.a)&&((gB x.b==gB y.b)&&((gB x.c==gB y.c)&&(gB x.d==gB y.d)))) w:=by
  unfold v64;rw[run_equalIn_array (P:=aD) w 9999 (n:=4) (e:=114) _ _ I I];have h1:aD.cellsOf 114=1:=rfl;simp[Op.eqItems,go_sem,List.range_succ_eq_map,h1]
  by_cases e1:gB x.a=gB y.a<;>by_cases e2:gB x.b=gB y.b<;>by_cases e3:gB x.c=gB y.c<;>by_cases e4:gB x.d=gB y.d<;>simp[e1,e2,e3,e4]
 rw[e]
 congr 1
 by_cases h:x=y
 subst h;simp;rw[decide_eq_false h]
 by_cases e1:gB x.a=gB y.a<;>by_cases e2:gB x.b=gB y.b<;>by_cases e3:gB x.c=gB y.c<;>by_cases e4:gB x.d=gB y.d<;>simp[e1,e2,e3,e4]
 exact h (C4.ext' (oX e1) (oX e2) (oX e3) (oX e4))
theorem Ri(w:World):(df 303 (#[]:Array (Nat×Value))).run aD w= .ok (aQ (ed C4.zero).toArray) w:=by kernel_rfl
theorem ac'{x:Int}(h0: -32768<=x)(h1:x<=32767):Z3.wrap x=x:=by
 simp only[Z2,kX,pt];simp;omega
theorem Ny(r:Row):(eU r).toArray.toList.all eY=true:=List.all_eq_true.2 λu hu=>row_one [r] u (by simpa using hu)
def Iy(m:MS)(vc vr vf vfol vl ve rows:Value)(g gm n:Nat)(d:DM):Spec (Value×Value):=
 ⟨λ_=>True,λ_=>CT (qH m n d).1,λx=>Lz vc vr vf vfol vl ve rows g gm x.1 x.2 (qH m n d).2⟩
theorem ada(p:PS)(all:C4)(b i:Nat):Ko p all b (i+1)=if all.mem i=aC/\(p.a_.getD i C4.zero).mem b=aC then(Ko p all b i).bit i else Ko p all b i:=rfl
theorem Rj(p:PS)(all:C4)(f b:Nat)(r:Row)(d:DM):nk p all (f+1) b r d=if 200<(gi p all b r d).2.S.length+1 then gi p all b r d else nk p all f (b+1) (gi p all b r d).1 (gi p all b r d).2:=rfl
theorem adb{p:PS}{all:C4}{b:Nat}{r:Row}{d:DM}(hb:b<256)(h:Kp p all b=C4.zero):gi p all b r d=(r.set b (-1),d):=by unfold gi;rw[if_pos h,dif_pos hb]
theorem ade{p:PS}{all:C4}{b:Nat}{r:Row}{d:DM}(hb:b<256)(h:Kp p all b≠C4.zero):gi p all b r d=((r.set b (-1)).set b ((ji p d (Kp p all b)).1:Int),(ji p d (Kp p all b)).2):=by unfold gi;rw[if_neg h,dif_pos hb]
set_option maxRecDepth 100000 in
theorem Kv(m:MS)(vc vr vf vfol vl ve rows:Value)(d:DM)(g gm n:Nat)(vs vt:Value)(w0:World)(hp:G5 w0 (aQ #[vc,vr,vf,vfol,vl,ve]) m)(h:Ke m)(hd:DOk m.ps d)(hd2:d.S.length+1<=200)(hn:n<=d.S.length)(w:World)(B:bL)(ho:qx w0 B)
 (hm:Mem B (Lz vc vr vf vfol vl ve rows g gm vs vt d) w):
 Calls aD 115 #[aJ (aj ⟨g,0,ak⟩),av az (n:Int)] w (da (Iy m vc vr vf vfol vl ve rows g gm n d) B):=by
 have wg:=λw' (hg:Gr w0 w') h1 h2=>G7 m vc vr vf vfol vl ve vs (.map (aj gm)) rows vt d.S g n w' (hp.gr hg) h h1 h2 hn;have hst:=λd' s pW o_ h1 h2 w' B' LN rX=>Fu m vc vr vf vfol vl ve rows d' s g gm pW o_ w0 hp h h1 h2 w' B' LN rX;obtain⟨_,_,_,_,_,_,he,h1,-⟩:=hp;simp only[ly,pI,gU,and_true]at he;obtain⟨rfl,rfl,rfl,rfl,rfl,rfl⟩:=he;have hmf:=h.we;clear h;obtain⟨ac,cc,rfl,-,-,hrc⟩:=h1;unfold Iy qH;generalize nw m d.S n=all at*;obtain⟨p,fi,em⟩:=m;dsimp only at*;unfold Lz at hm;have hB0:=Ri;refine dB hm (args:=[aJ (aj ⟨g,0,ak⟩),av az (n:Int)]) (n:=60) Tryz.func115 I I I ?_;clear hm;refine bW (bB (a8 I λg4=>?_));refine zL ?_;rw[Fz]
 try refine GA ?_
 refine aV (fB aI.en I I I) (λw hm=>wg w (ho.mem hm) (hm.get (i:=0) I) (Sl.dD (hm.get (i:=1) I))) I I I ?_;intro _ _;refine zL ?_;clear wg
 try refine GA ?_
 refine a8 I λg5=>?_;refine zL ?_;refine ij 5 (cs':=(ed all).toArray) ?_;refine zL ?_
 try refine GA ?_
 refine a8 I λg6=>?_;refine zL ?_;rw[Fz]
 try refine GA ?_
 clear hn;generalize jX:nk p all 256 0 (eB 256 0) d=fin;refine d_ (ι:=Nat×Row×DM×Value×Value) (λ(b,r,d,_,_)=>b<=256/\DOk p d/\d.S.length+1<=200/\nk p all (256-b) b r d=fin) (λ(b,_,_,_,_)=>[(0,aJ (aj ⟨g,0,ak⟩)),(4,aJ (aj ⟨g4,0,ak⟩)),(5,aJ (aj ⟨g5,0,ak⟩)),(6,aJ (aj ⟨g6,0,ak⟩)),(14,av az (b:Int))])
  (λ(_,r,d,vs,vt)=>[aP g (Ly (ap ac p.a_.length cc) vr vf vfol vl ve vs (.map (aj gm)) rows vt) 254,oU vs d.S,tD gm d.S,gJ vt d.tags,aP g4 (eU (eB 256 0)).toArray 257,aP g5 (ed all).toArray 303,aP g6 (eU r).toArray 257]) (λ(b,_,_,_,_)=>256-b) (0,eB 256 0,d,vs,vt) ⟨bH _,hd,hd2,jX⟩ ?_
 clear hd hd2 jX d vs vt;rintro⟨b,r,d,vs,vt⟩ ⟨i1,i2,i3,i4⟩;dsimp only at i1 i2 i3 i4⊢
 by_cases c1:b<256
 ·rw[show 256-b=(256-(b+1))+1 by omega,Rj]at i4
  try refine GA ?_
  refine a8 I λg8=>?_;refine zL ?_
  repeat(first|refine GA ?_|refine gV (aB (v:=ap ac p.a_.length cc) aK.ty I (aH (i:=0) I I)) ?_)
  refine d_ (ι:=Nat) (λk=>k<=p.a_.length) (λk=>[(0,aJ (aj ⟨g,0,ak⟩)),(4,aJ (aj ⟨g4,0,ak⟩)),(5,aJ (aj ⟨g5,0,ak⟩)),(6,aJ (aj ⟨g6,0,ak⟩)),(7,av az (b:Int)),(8,aJ (aj ⟨g8,0,ak⟩)),(14,av az (b:Int)),(21,ap ac p.a_.length cc),(22,av az p.a_.length),(23,av az (k:Int))])
   (λk=>[aP g (Ly (ap ac p.a_.length cc) vr vf vfol vl ve vs (.map (aj gm)) rows vt) 254,oU vs d.S,tD gm d.S,gJ vt d.tags,aP g4 (eU (eB 256 0)).toArray 257,aP g5 (ed all).toArray 303,aP g6 (eU r).toArray 257,aP g8 (ed (Ko p all b k)).toArray 303]) (λk=>p.a_.length-k) 0 (bH _) ?_
  intro k hk
  by_cases c2:k<p.a_.length
  ·have hts:=ada p all b k
   have hgd:p.a_.getD k C4.zero=p.a_[k]:=by rw[cB,bK c2];rfl
   rw[hgd]at hts;obtain⟨bc,ai_,rfl,ahx⟩:=hrc J;have ahy:=λ(L:List b9)=>Q6 (L:=L) (f:=ed) (c:=4) (λ_=>rfl) ho ahx c2;clear ahx hrc hgd;generalize p.a_[k]=c at*;have ahz:∀(L:List b9) (j:Nat) (u:Value),(ed c)[j]?=aj u->At B L ⟨bc,ai_+k*4+j,ak⟩ u:=ahy;clear ahy;have ZW:=λw=>tA all k J w;have ai':=λw=>US c b c1 w;generalize Ko p all b k=tz at*;generalize all.mem k=b1 at*;generalize c.mem b=b2 at*;have hu8:JD.wrap (b:Int)=(b:Int):=by rw[JC];omega
   repeat(first|refine GA ?_|refine gV (aY bM.eq aK.ty I I c2) ?_|refine gV (bm (cs:=ed c) aK.ty I I (ahz _)) ?_)
   refine a8 I λg10=>?_;refine zL ?_
   try refine GA ?_
   refine ij 8 (cs':=(ed c).toArray) ?_;refine zL ?_
   repeat(first|refine GA ?_|refine gV (aO (i:=5) aK.ty I I I) ?_)
   refine aV (fB aI.en I I I) (λw hm=>ZW w) I I I ?_;intro _ _;refine zL ?_
   by_cases q1:b1=aC
   ·subst q1
    repeat(first|refine GA ?_|refine gV (aO (i:=8) aK.ty I I I) ?_|refine gV (jo bM.eq bM.eq I hu8) ?_)
    refine mV (fB aI.en I I I) (λw hm=>ai' w) I I I I I ?_;intro _ _;refine zL ?_
    by_cases q2:b2=aC
    ·subst q2
     rw[if_pos ⟨rfl,rfl⟩]at hts
     try refine GA ?_
     refine bx [7] [0,1,2,3,4,5,6] akh I I (fB aI.en I I I) (λw hm hb=>tB tz k J g8 w _ hb) I I I ?_;intro _ _;refine zL ?_
     try refine GA ?_
     exact bT (k+1) J (by show p.a_.length-(k+1)<p.a_.length-k;omega) (hl:=by rw[hts])
    rw[if_neg (λh=>q2 h.2)]at hts;obtain rfl:=wk.2 q2
    try refine GA ?_
    refine dm [0,1,2,3,4,5,6,7] ?_;exact bT (k+1) J (by show p.a_.length-(k+1)<p.a_.length-k;omega) (hl:=by rw[hts];rfl)
   rw[if_neg (λh=>q1 h.1)]at hts;obtain rfl:=wk.2 q1
   try refine GA ?_
   refine dm [0,1,2,3,4,5,6,7] ?_;exact bT (k+1) J (by show p.a_.length-(k+1)<p.a_.length-k;omega) (hl:=by rw[hts];rfl)
  obtain rfl:k=p.a_.length:=by omega
  have hF:Ko p all b p.a_.length=Kp p all b:=rfl;rw[hF];have Lo:=adb (p:=p) (all:=all) (r:=r) (d:=d) c1;have pf:=ade (p:=p) (all:=all) (r:=r) (d:=d) c1;have Hw:=afQ (Kp p all b) C4.zero;clear hF hrc;generalize Kp p all b=tz at*
  repeat(first|refine GA ?_|refine gV (iz bM.eq aK.ty I I c1) ?_)
  refine sk (i:=6) I I I c1 ?_;refine zL ?_
  by_cases q1:tz=C4.zero
  ·rw[decide_eq_true q1]at Hw
   rw[Lo q1,if_neg (by show ¬200<d.S.length+1;omega)]at i4;refine jJ (i:=1) I fF λfJ=>?_;obtain⟨ab,cs,rfl,hmS,-⟩:=fJ
   repeat(first|refine GC ?_|refine gV (aO (i:=7) aK.ty I I I) ?_|refine gV (bD I hB0) ?_|refine gV (uO I I (by kernel_rfl) Hw I) ?_|refine gV (aB (v:=ap ab (d.S.length+1) cs) aK.ty I (aH (i:=0) I I)) ?_|refine gV (ea (b:=aE) I I (decide_eq_false J)) ?_|refine GB ?_)
   refine dm [0,1,2,3,4,5,6] ?_;exact bT (b+1,r.set b (-1),d,ap ab (d.S.length+1) cs,vt) ⟨by omega,i2,i3,i4⟩ (by show 256-(b+1)<256-b;omega)
  rw[decide_eq_false q1]at Hw;rw[pf q1]at i4;obtain⟨s1,s2,s3,s4,s5⟩:=No i2 tz
  repeat(first|refine GC ?_|refine gV (aO (i:=7) aK.ty I I I) ?_|refine gV (bD I hB0) ?_|refine gV (uO I I (by kernel_rfl) Hw I) ?_|refine GB ?_)
  refine bx [0,1,2,3] [4,5,6,7] akh I I (fB aI.en I I I) (λw hm hb=>hst d tz vs vt J (by have:=i2.tags;omega) w _ (ho.on hm (by simp[Lz])) hb) I I I ?_;rintro⟨pW,o_⟩ _
  conv=>arg 8;simp only[zJ,cI,ret,id_eq,ac2,Lz]
  conv=>arg 7;simp only[ac2]
  generalize ji p d tz=R at*;obtain⟨q,d'⟩:=R;dsimp only at i4 s1 s2 s3 s4 s5⊢;have hq:q<=200:=by omega
  refine jJ (i:=5) I fF λfJ=>?_;obtain⟨ab,cs,rfl,hmS,-⟩:=fJ
  repeat(first|refine GA ?_|refine gV (jo bM.eq bM.eq I (ac' J J)) ?_|refine gV (iz bM.eq aK.ty I I c1) ?_)
  refine sk (i:=2) I I I c1 ?_;refine zL ?_;generalize (r.set b (-1)).set b (q:Int)=r' at*
  by_cases q2:200<d'.S.length+1
  ·rw[if_pos q2]at i4
   subst i4
   repeat(first|refine GC ?_|refine gV (aB (v:=ap ab (d'.S.length+1) cs) aK.ty I (aH (i:=4) I I)) ?_|refine gV (ea (b:=aC) I I (decide_eq_true J)) ?_|refine gV (aO (i:=2) aK.ty I I (by rw[ey,dz])) ?_|refine GB ?_)
   refine aX (i:=0) (cs':=(eU r').toArray) I I I (by rw[ey,dz]) (Ny r') (by rw[ey,dz]) ?_;refine zL ?_
   try refine GA ?_
   exact fZ (i:=0) I I I (by rw[ey,dz]) λw hm=>hm.cC (S:=⟨λ(_:Value×Value)=>True,λ_=>CT r',λx=>Lz (ap ac p.a_.length cc) vr vf vfol vl ve rows g gm x.1 x.2 d'⟩) (ap ab (d'.S.length+1) cs,o_) trivial [4,5,6,7] akh I
  rw[if_neg q2]at i4
  repeat(first|refine GC ?_|refine gV (aB (v:=ap ab (d'.S.length+1) cs) aK.ty I (aH (i:=4) I I)) ?_|refine gV (ea (b:=aE) I I (decide_eq_false J)) ?_|refine GB ?_)
  refine dm [4,5,6,7,0,1,2] ?_;exact bT (b+1,r',d',ap ab (d'.S.length+1) cs,o_) ⟨by omega,s1,by show d'.S.length+1<=200;omega,i4⟩ (by show 256-(b+1)<256-b;omega)
 ·obtain rfl:b=256:=by omega
  have i4:(r,d)=fin:=i4;subst i4
  repeat(first|refine GA ?_|refine gV (aO (i:=6) aK.ty I I (by rw[ey,dz])) ?_)
  refine aX (i:=4) (cs':=(eU r).toArray) I I I (by rw[ey,dz]) (Ny r) (by rw[ey,dz]) ?_;refine zL ?_
  try refine GA ?_
  exact fZ (i:=4) I I I (by rw[ey,dz]) λw hm=>hm.cC (S:=⟨λ(_:Value×Value)=>True,λ_=>CT r,λx=>Lz (ap ac p.a_.length cc) vr vf vfol vl ve rows g gm x.1 x.2 d⟩) (vs,vt) trivial [0,1,2,3] akh I
end bZ
namespace bZ
open Go.RowKit cK dS de gd eE nu cD
def tE(m:MS):List Row×List Int×Int:=match wy m with
 |some (R,d)=>(R,d.tags,0)
 |none=>([],[],8)
def TI(m:MS):Spec (Value×Value):=⟨λ_=>True,λx=> .tuple #[ja x.1 x.2,av az (tE m).2.2],λx=>[aZ 257 256 x.1 (tE m).1.length ((tE m).1.flatMap eU),gJ x.2 (tE m).2.1]⟩
theorem FF{m:MS}{R:List Row}{d:DM}(h:wy m=aj (R,d)):tE m=(R,d.tags,0):=by unfold tE;rw[h]
theorem Rk{m:MS}(h:wy m=ak):tE m=([],[],8):=by unfold tE;rw[h]
theorem Iz(m:MS)(f n:Nat)(R:List Row)(d:DM):tC m (f+1) n R d=if n<d.S.length+1 then(if 200<(qH m n d).2.S.length+1 then ak else tC m f (n+1) (R++[(qH m n d).1]) (qH m n d).2)else aj (R,d):=rfl
theorem Rm(w:World):(df 186 (#[]:Array (Nat×Value))).run aD w= .ok (aQ #[ap ak 0 0,ap ak 0 0]) w:=by kernel_rfl
theorem Nz(vc vr vf vfol vl ve:Value)(g gm:Nat)(w:World):(df 254 #[(0,aQ #[vc,vr,vf,vfol,vl,ve]),(1,ap (aj ⟨g,0,ak⟩) 1 1),(2,.map (aj gm))]).run aD w= .ok (.agg (Ly vc vr vf vfol vl ve (ap (aj ⟨g,0,ak⟩) 1 1) (.map (aj gm)) (ap ak 0 0) (ap ak 0 0))) w:=by
 unfold Ly;go_simp
theorem NA{g:Nat}{w:World}(h:(aP g (madeCells #[av .u64 0,av .u64 0,av .u64 0,av .u64 0] (1*4)) 303).holds w):(oU (ap (aj ⟨g,0,ak⟩) 1 1) []).holds w:=by
 rw[aed (k:=4) I akh]at h;exact⟨rfl,.inr ⟨g,1,_,rfl,bH _,h,bz _,by decide,rfl,rfl⟩⟩
theorem BH(v:Value)(R:List Row)(r:Row):aZ 257 256 v (R++[r]).length ((R++[r]).flatMap eU)=aZ 257 256 v (R.length+1) (R.flatMap eU++eU r):=by
 rw[bI,fV];simp
theorem afR{vc vr vf vfol vl ve vs num rows tags v:Value}{j:Nat}(h:[rows,tags][j]?=aj v):(Ly vc vr vf vfol vl ve vs num rows tags)[8+j]?=aj v:=by
 match j,h with
 |0,h=>exact h
 |1,h=>exact h
theorem Kw(r:Row):(eU r).toArray=([CT r].flatMap λv=>v.cells.toList).toArray:=by
 show _=((eU r).toArray.toList++[]).toArray
 simp
theorem FH(r:Row):∀v∈[CT r],v.cells.size=256:=by
 intro v hv;rw[dO.1 hv];show(eU r).toArray.size=256
 rw[ey,dz]
set_option maxRecDepth 100000 in
theorem G9(v:Value)(m:MS)(w:World)(hp:G5 w v m)(h:Ke m):
 Calls aD 77 #[v] w (bY (TI m) w):=by
 have jw:=λw' (hg:Gr w w')=>Fl v m w' (hp.gr hg) h;obtain⟨vc,vr,vf,vfol,vl,ve,rfl,h1,h2,h3,h4,h5,h6⟩:=id hp;have hrw:=λrows d g gm n vs vt hd hd2 hn w' B ho hm=>Kv m vc vr vf vfol vl ve rows d g gm n vs vt w hp h hd hd2 hn w' B ho hm;clear h1 h2 h3 h4 h5 hp;have hms:=h.some;have sU:=h.rv;clear h;obtain⟨ae,ce,rfl,-,hme,hre⟩:=h6;unfold maxLen at hme;have hbz:=Rm;refine enter (args:=[aQ #[vc,vr,vf,vfol,vl,ap ae m.empty.length ce]]) (n:=78) Tryz.func77 I I I ?_;refine bW (bB (bP I I I λg1=>a8 I λg2=>?_));refine zL ?_
 repeat(first|refine GA ?_|refine gV (aO (i:=0) aK.ty I I I) ?_)
 refine aV (i_ aI.en I I) (λw hm=>jw _ hm.below) I I I ?_;intro _ _;refine zL ?_;clear jw
 repeat(first|refine GC ?_|refine gV (dl (b:=aE) I I (decide_eq_false (by simp))) ?_|refine GB ?_)
 (repeat refine bW ?_)
 refine lU (ι:=Nat×Nat×Nat) (λ_=>True) (λ(_,_,g5)=>[(1,aJ (aj ⟨g1,0,ak⟩)),(2,aJ (aj ⟨g2,0,ak⟩)),(5,aJ (aj ⟨g5,0,ak⟩))])
  (λ(gs,gm,g5)=>[aP g1 #[vc,vr,vf,vfol,vl,ap ae m.empty.length ce] 181,aP g2 #[ap ak 0 0,ap ak 0 0] 186,aP g5 (Ly vc vr vf vfol vl (ap ae m.empty.length ce) (ap (aj ⟨gs,0,ak⟩) 1 1) (.map (aj gm)) (ap ak 0 0) (ap ak 0 0)) 254,oU (ap (aj ⟨gs,0,ak⟩) 1 1) [],tD gm []]) ?_ ?_
 ·refine dT ([aP g1 #[vc,vr,vf,vfol,vl,ap ae m.empty.length ce] 181]) (.calm 0 (.two 1 (.one 2 (.calm 3 (.one 4 (.calm 5 (.done))))) 2 (.one 1 (.calm 3 (.one 4 (.calm 5 (.done))))))) (bX [0]) ?_
  repeat(first|refine GW ?_|(refine GN ?_;first|refine QW (aO (i:=0) aK.ty I I I) ?_))
  refine eK I I ?_ ?_
  ·refine uW (m:=1) (cap:=1) I I (bz 1) akh akh I λgs=>aM (bX [0]) ?_
   refine aL I (yu Q8 I λgm=>aM (bX [0]) ?_)
   repeat(first|refine GW ?_|(refine GN ?_;first|refine QW (bD I (Nz _ _ _ _ _ _ _ _)) ?_))
   refine aL I (bP I I I λg5=>aM (bX [0]) ?_)
   try refine GW ?_
   refine o7 (i:=2) (oU (ap (aj ⟨gs,0,ak⟩) 1 1) []) I (λw h=>NA h) (λk h=>h) ?_;refine o7 (i:=3) (tD gm []) I (λw h=>by unfold tD;rw[<-Ft];exact h) (λk h=>h) ?_;refine dm [0,1,4,2,3] ?_;exact ee (gs,gm,g5) trivial (by repeat' (first|exact cT|refine cJ I ?_)) I
  refine yu Q8 I λgm=>aM (bX [0]) ?_;refine aL I (uW (m:=1) (cap:=1) I I (bz 1) akh akh I λgs=>aM (bX [0]) ?_)
  repeat(first|refine GW ?_|(refine GN ?_;first|refine QW (bD I (Nz _ _ _ _ _ _ _ _)) ?_))
  refine aL I (bP I I I λg5=>aM (bX [0]) ?_)
  try refine GW ?_
  refine o7 (i:=3) (oU (ap (aj ⟨gs,0,ak⟩) 1 1) []) I (λw h=>NA h) (λk h=>h) ?_;refine o7 (i:=2) (tD gm []) I (λw h=>by unfold tD;rw[<-Ft];exact h) (λk h=>h) ?_;refine dm [0,1,4,3,2] ?_;exact ee (gs,gm,g5) trivial (by repeat' (first|exact cT|refine cJ I ?_)) I
 rintro⟨gs,gm,g5⟩ _;dsimp only
 try refine GA ?_
 refine fD (cs:=#[av az (-1)]) [av az (-1)] I I I (by intro v hv;simp at hv;subst hv;rfl) I I I λg20=>?_;refine zL ?_
 try refine GA ?_
 refine bV (i:=2) I I I I I I ?_;refine zL ?_
 repeat(first|refine GC ?_|refine gV (aB (v:=ap ae m.empty.length ce) aK.ty I (aH (i:=0) I I)) ?_|refine gV (eL (r:=(m.empty.length:Int)-1) I I J J I) ?_|refine GB ?_)
 refine mq (ι:=Nat) (λk=>k<=m.empty.length) (λk=>[(1,aJ (aj ⟨g1,0,ak⟩)),(2,aJ (aj ⟨g2,0,ak⟩)),(5,aJ (aj ⟨g5,0,ak⟩)),(6,av az ((k:Int)-1))])
  (λk=>[aP g1 #[vc,vr,vf,vfol,vl,ap ae m.empty.length ce] 181,aP g2 #[ap ak 0 0,ap ak 0 0] 186,aP g5 (Ly vc vr vf vfol vl (ap ae m.empty.length ce) (ap (aj ⟨gs,0,ak⟩) 1 1) (.map (aj gm)) (ap ak 0 0) (ap (aj ⟨g20,0,ak⟩) 1 1)) 254,oU (ap (aj ⟨gs,0,ak⟩) 1 1) [],tD gm [],aP g20 #[av az (fz (m.empty.drop k) k)] 3]) (λk=>k) m.empty.length (bz _) (by repeat' (first|exact cT|refine cJ I ?_)) (by rw[pX (bz _)];rfl) ?_
 intro k hk
 by_cases c1:0<k
 ·obtain⟨j,rfl⟩:∃j,k=j+1:=⟨k-1,by omega⟩
  have hj:j<m.empty.length:=by omega
  obtain⟨be,afS,rfl,aja⟩:=hre J;have ajb:=λ(L:List b9)=>ib (L:=L) Tq aja hj 0 _ I;have hst:fz (m.empty.drop j) j=if m.empty[j]=aC then(j:Int)else fz (m.empty.drop (j+1)) ((j:Int)+1):=by rw[eZ hj,fz]
  rw[show(((j+1:Nat):Int))=(j:Int)+1 by omega]at*;generalize fz (m.empty.drop (j+1)) ((j:Int)+1)=t at*;generalize m.empty[j]=b at*;rw[show(j:Int)+1-1=(j:Int)by omega];have aeq:∀(L:List b9),At (w:bL) L ⟨be,afS+j*1+0,ak⟩ (.bool b):=ajb
  by_cases c2:b=aC
  ·subst c2
   rw[if_pos I]at hst
   repeat(first|refine GC ?_|refine gV (ff (b:=aC) I I (decide_eq_true J)) ?_|refine gV (aB (v:=ap (aj ⟨be,afS,ak⟩) m.empty.length ce) aK.ty I (aH (i:=0) I I)) ?_|refine gV (aY bM.eq aK.ty I I hj) ?_|refine gV (aB (v:= .bool aC) aK.ty I (aeq _)) ?_|refine gV (aB (v:=ap (aj ⟨g20,0,ak⟩) 1 1) aK.ty I (aH (i:=2) I I)) ?_|refine gV (aY (j:=0) bM.eq aK.ty I I akh) ?_|refine GB ?_)
   refine bV (i:=5) I I I I I I ?_;refine zL ?_
   repeat(first|refine GC ?_|refine gV (eL (r:=(j:Int)-1) I I J J I) ?_|refine GB ?_)
   exact bT j J (by show j<j+1;omega) (hl:=by rw[hst];rfl)
  rw[if_neg c2]at hst;obtain rfl:=wk.2 c2
  repeat(first|refine GC ?_|refine gV (ff (b:=aC) I I (decide_eq_true J)) ?_|refine gV (aB (v:=ap (aj ⟨be,afS,ak⟩) m.empty.length ce) aK.ty I (aH (i:=0) I I)) ?_|refine gV (aY bM.eq aK.ty I I hj) ?_|refine gV (aB (v:= .bool aE) aK.ty I (aeq _)) ?_|refine gV (eL (r:=(j:Int)-1) I I J J I) ?_|refine GB ?_)
  exact bT j J (by show j<j+1;omega) (hl:=by rw[hst])
 ·obtain rfl:k=0:=by omega
  rw[show fz (m.empty.drop 0) ((0:Nat):Int)=fz m.empty 0 from I];have jX:tC m (201-0) 0 [] ⟨[],[fz m.empty 0]⟩=wy m:=rfl;generalize fz m.empty 0=t0 at*;refine SM (i:=5) (gJ (ap (aj ⟨g20,0,ak⟩) 1 1) [t0]) I (λw h=>J6 h) (λk h=>h) ?_
  repeat(first|refine GC ?_|refine gV (ff (b:=aE) I I (decide_eq_false J)) ?_|refine GB ?_)
  refine jd 257 256 ?_;refine rb [1,2,3,4,5,6] ?_;clear hre;refine d_ (ι:=Nat×List Row×DM×Value×Value×Value) (λ(n,R,d,_,_,_)=>R.length=n/\n<=d.S.length+1/\DOk m.ps d/\d.S.length+1<=200/\tC m (201-n) n R d=wy m) (λ(n,_,_,_,_,_)=>[(2,aJ (aj ⟨g2,0,ak⟩)),(5,aJ (aj ⟨g5,0,ak⟩)),(7,av az (n:Int))])
   (λ(_,R,d,vs,wD,vt)=>[aP g2 #[ap ak 0 0,ap ak 0 0] 186,aP g5 (Ly vc vr vf vfol vl (ap ae m.empty.length ce) vs (.map (aj gm)) wD vt) 254,oU vs d.S,tD gm d.S,gJ vt d.tags,aZ 257 256 wD R.length (R.flatMap eU)]) (λ(n,_,_,_,_,_)=>201-n) (0,[],⟨[],[t0]⟩,ap (aj ⟨gs,0,ak⟩) 1 1,ap ak 0 0,ap (aj ⟨g20,0,ak⟩) 1 1) ⟨rfl,bH _,⟨List.nodup_nil,rfl⟩,by show 0+1<=200;omega,jX⟩ ?_
  clear jX hk c1;rintro⟨n,R,d,vs,wD,vt⟩ ⟨i0,i1,i2,i3,i4⟩;dsimp only at i0 i1 i2 i3 i4⊢;refine iR (i:=2) I fF λfJ=>?_;obtain⟨ab,cs,rfl,hmS,-⟩:=fJ
  by_cases c1:n<d.S.length+1
  ·rw[show 201-n=(201-(n+1))+1 by omega,Iz,if_pos c1]at i4
   obtain⟨s1,s2,s3⟩:=Np (p:=m.ps) (nw m d.S n) 256 0 (eB 256 0) d i2 i3;have aaf:=λw' (rX:Mem (w:bL) [aP g2 #[ap ak 0 0,ap ak 0 0] 186,aP g5 (Ly vc vr vf vfol vl (ap ae m.empty.length ce) (ap ab (d.S.length+1) cs) (.map (aj gm)) wD vt) 254,oU (ap ab (d.S.length+1) cs) d.S,tD gm d.S,gJ vt d.tags,aZ 257 256 wD R.length (R.flatMap eU)] w') (hb:Mem (bL.on w' (Lz vc vr vf vfol vl (ap ae m.empty.length ce) wD g5 gm (ap ab (d.S.length+1) cs) vt d)) (Lz vc vr vf vfol vl (ap ae m.empty.length ce) wD g5 gm (ap ab (d.S.length+1) cs) vt d) w')=>hrw wD d g5 gm n (ap ab (d.S.length+1) cs) vt i2 i3 J w' _ ((qx.self w).on rX (by simp[Lz])) hb;rw[show nk m.ps (nw m d.S n) 256 0 (eB 256 0) d=qH m n d from I]at s1 s2 s3;obtain⟨r',d',oT⟩:∃r' d',qH m n d=(r',d'):=⟨_,_,rfl⟩;rw[oT]at i4 s1 s2 s3;dsimp only at i4 s1 s2 s3
   repeat(first|refine GC ?_|refine gV (aB (v:=ap ab (d.S.length+1) cs) aK.ty I (aH (i:=1) I I)) ?_|refine gV (dq (b:=aC) I I (decide_eq_true J)) ?_|refine GB ?_)
   (repeat refine bW ?_)
   refine lU (ι:=Value×Value×Value) (λ_=>True) (λ_=>[(2,aJ (aj ⟨g2,0,ak⟩)),(5,aJ (aj ⟨g5,0,ak⟩)),(7,av az (n:Int))])
    (λ(pW,rA,o_)=>[aP g2 #[ap ak 0 0,ap ak 0 0] 186,aP g5 (Ly vc vr vf vfol vl (ap ae m.empty.length ce) pW (.map (aj gm)) rA o_) 254,oU pW d'.S,tD gm d'.S,gJ o_ d'.tags,aZ 257 256 rA (R++[r']).length ((R++[r']).flatMap eU)]) ?_ ?_
   ·refine dT ([]) (.calm 0 (.calm 1 (.calm 2 (.calm 3 (.calm 4 (.calm 6 (.calm 7 (.two 5 (.one 8 (.one 9 (.one 10 (.calm 11 (.calm 12 (.calm 13 (.one 14 (.done)))))))) 8 (.two 5 (.one 9 (.one 10 (.calm 11 (.calm 12 (.calm 13 (.one 14 (.done))))))) 9 (.one 5 (.one 10 (.calm 11 (.calm 12 (.calm 13 (.one 14 (.done)))))))))))))))) (bX []) ?_
    try refine GW ?_
    refine eK I I ?_ ?_
    ·refine dx (aB (v:=wD) aK.ty I (aH (i:=1) I I)) I I I (aM (bX []) ?_)
     refine aL I (bx [1,2,3,4] [0,5] akh I I (fB aI.en I I I) (λw' hm hb=>aaf w' hm hb) I I I ?_);rintro⟨pW,o_⟩ _
     conv=>arg 8;simp only[zJ,cI,ret,id_eq,Iy,Lz]
     conv=>arg 7;simp only[Iy]
     rw[oT];dsimp only;refine aM (bX []) ?_;refine aL I (fD (cs:=(eU r').toArray) [CT r'] I I I (FH r') I (Kw r') I λg62=>(aM (bX []) ?_));refine aL I (eM (i:=1) (e:=257) (size:=256) (bytes:=512) (m:=R.length) (xs:=R.flatMap eU) (k:=1) (ys:=eU r') I (lq (i:=6) I (λj u h=>by simpa using h) (bz 1) akh) I I (by rw[dz]) (λu hu=>row_one [r'] u (by simpa using hu)) J J I λrA=>(aM (bX []) ?_))
     try refine GW ?_
     refine aL I (aW (i:=1) I λlD me=>bV (i:=2) I I I lD me I (aM (bX []) ?_))
     try refine GW ?_
     refine dm [0,2,3,4,5,1] ?_;exact ee (pW,rA,o_) trivial (by repeat' (first|exact cT|refine cJ I ?_)) (by dsimp only;rw[BH];rfl)
    refine bx [1,2,3,4] [0,5] akh I I (fB aI.en I I I) (λw' hm hb=>aaf w' hm hb) I I I ?_;rintro⟨pW,o_⟩ _
    conv=>arg 8;simp only[zJ,cI,ret,id_eq,Iy,Lz]
    conv=>arg 7;simp only[Iy]
    rw[oT];dsimp only;refine aM (bX []) ?_;refine eK I I ?_ ?_
    ·refine dx (aB (v:=wD) aK.ty I (aH (i:=2) I I)) I I I (aM (bX []) ?_)
     refine aL I (fD (cs:=(eU r').toArray) [CT r'] I I I (FH r') I (Kw r') I λg62=>(aM (bX []) ?_));refine aL I (eM (i:=1) (e:=257) (size:=256) (bytes:=512) (m:=R.length) (xs:=R.flatMap eU) (k:=1) (ys:=eU r') I (lq (i:=6) I (λj u h=>by simpa using h) (bz 1) akh) I I (by rw[dz]) (λu hu=>row_one [r'] u (by simpa using hu)) J J I λrA=>(aM (bX []) ?_))
     try refine GW ?_
     refine aL I (aW (i:=1) I λlD me=>bV (i:=2) I I I lD me I (aM (bX []) ?_))
     try refine GW ?_
     refine dm [0,2,3,4,5,1] ?_;exact ee (pW,rA,o_) trivial (by repeat' (first|exact cT|refine cJ I ?_)) (by dsimp only;rw[BH];rfl)
    refine fD (cs:=(eU r').toArray) [CT r'] I I I (FH r') I (Kw r') I λg62=>(aM (bX []) ?_);refine aL I (dx (aB (v:=wD) aK.ty I (aH (i:=2) I I)) I I I (aM (bX []) ?_));refine aL I (eM (i:=1) (e:=257) (size:=256) (bytes:=512) (m:=R.length) (xs:=R.flatMap eU) (k:=1) (ys:=eU r') I (lq (i:=6) I (λj u h=>by simpa using h) (bz 1) akh) I I (by rw[dz]) (λu hu=>row_one [r'] u (by simpa using hu)) J J I λrA=>(aM (bX []) ?_))
    try refine GW ?_
    refine aL I (aW (i:=1) I λlD me=>bV (i:=2) I I I lD me I (aM (bX []) ?_))
    try refine GW ?_
    refine dm [0,2,3,4,5,1] ?_;exact ee (pW,rA,o_) trivial (by repeat' (first|exact cT|refine cJ I ?_)) (by dsimp only;rw[BH];rfl)
   clear aaf;rintro⟨pW,rA,o_⟩ _;dsimp only;refine iR (i:=2) I fF λfJ=>?_;obtain⟨ab',cs',rfl,aj5,-⟩:=fJ
   by_cases c2:200<d'.S.length+1
   ·rw[if_pos c2]at i4
    have ho:=Rk i4.symm;unfold TI;rw[ho]
    repeat(first|refine GC ?_|refine gV (aB (v:=ap ab' (d'.S.length+1) cs') aK.ty I (aH (i:=1) I I)) ?_|refine gV (ea (b:=aC) I I (decide_eq_true J)) ?_|refine gV (bD I hbz) ?_|refine GB ?_)
    refine ij 0 ?_;refine zL ?_
    try refine GA ?_
    refine dN 257 256 (dN 3 1 ?_);exact eJ (i:=0) I I I I I λw hm=>hm.meets (S:=⟨λ(_:Value×Value)=>True,λx=> .tuple #[ja x.1 x.2,av az 8],λx=>[aZ 257 256 x.1 0 [],aZ 3 1 x.2 0 []]⟩) (ap ak 0 0,ap ak 0 0) trivial [6,7] akh I
   rw[if_neg c2]at i4
   repeat(first|refine GC ?_|refine gV (aB (v:=ap ab' (d'.S.length+1) cs') aK.ty I (aH (i:=1) I I)) ?_|refine gV (ea (b:=aE) I I (decide_eq_false J)) ?_|refine GB ?_)
   exact bT (n+1,R++[r'],d',ap ab' (d'.S.length+1) cs',rA,o_) ⟨by rw[bI,i0];rfl,by show n+1<=d'.S.length+1;omega,s1,by show d'.S.length+1<=200;omega,i4⟩ (by show 201-(n+1)<201-n;omega)
  have i5:wy m=aj (R,d):=by
   rw[<-i4,show 201-n=(201-(n+1))+1 by omega,Iz,if_neg c1]
  have ho:=FF i5;unfold TI;rw[ho];refine iR (i:=4) I fF λfJ=>?_;obtain⟨at',ct',rfl,-⟩:=fJ;refine iR (i:=5) I fF λfJ=>?_;obtain⟨ar',cr',rfl,-⟩:=fJ
  repeat(first|refine GC ?_|refine gV (aB (v:=ap ab (d.S.length+1) cs) aK.ty I (aH (i:=1) I I)) ?_|refine gV (dq (b:=aE) I I (decide_eq_false J)) ?_|refine gV (bm (cs:=[ap ar' R.length cr',ap at' d.tags.length ct']) aK.ty I I (λj v hj=>aH (i:=1) I (afR hj))) ?_|refine GB ?_)
  refine ij 0 (cs':=#[ap ar' R.length cr',ap at' d.tags.length ct']) ?_;refine zL ?_
  try refine GA ?_
  exact eJ (i:=0) I I I I I λw hm=>hm.meets (S:=⟨λ(_:Value×Value)=>True,λx=> .tuple #[ja x.1 x.2,av az 0],λx=>[aZ 257 256 x.1 R.length (R.flatMap eU),gJ x.2 d.tags]⟩) (ap ar' R.length cr',ap at' d.tags.length ct') trivial [5,4] akh I
end bZ
namespace nu
open de gd eE cD
theorem aag{a b c:List Int}(h1:c.Pairwise (· < ·))(h2:∀x,(x∈a\/x∈b)↔x∈c):rr a b=c:=
 E8 (Di _ _).1 h1 λx=>by rw[(Di _ _).2,h2]
end nu
namespace bZ
open Go.RowKit cK dS
theorem FI{P:Program}{n:Nat}{W:World}{fr:Fr}{L:List b9}{ops:Array Oper}{Q:Exit->Act->World->Prop}{rest:List Oper}{d:Nat}{ty:TypeId}{pos:String}{after:Array Edge}{t e:TypeId}{s x:Operand}{i j size bytes m k:Nat}{v v2:Value}{xs ys:List Value}[tU:rO P t e size bytes](hi:L[i]?=aj (aZ e size v m xs))(hj:L[j]?=aj (aZ e size v2 k ys))(hs:ev fr s=aj v)(hx:ev fr x=aj v2)
 (h1:∀u∈ys,u.oneCell'=aC) (qA:m+k<=140737488355328) (hb:(m+k)*bytes<=140737488355328) (hn:dj d n=aC)
 (h:∀v',TL P n W ops Q rest ((d,v')::fr) (L.set i (aZ e size v' (m+k) (xs++ys)))):
 TL P n W ops Q (⟨aj d,.call {callee:= .builtin .append,args:=#[s,x],argTypes:=#[t,t]},ty,pos,after,ak⟩::rest) fr L:=⟨λa w hr hm=>by
 have lR:w.ownsRow 0 e size v2 k ys:=hm.get hj;rcases lR.2 with⟨rfl,rfl⟩|⟨g,cap,jZ,rfl,_⟩
 ·have hy:ys=[]:=mS (by rw[lR.1];simp)
  subst hy;have rN:L.set i (aZ e size v (m+0) (xs++[]))=L:=by
   rw[du,iu];apply mi;intro q
   by_cases hq:i=q
   ·subst hq
    rw[nF (dg.1 hi).1,hi]
   rw[kZ hq]
  have h2:=h v;rw[rN]at h2;exact(D5 tU.el hi hs hx hn h2).go a w hr hm
 ·refine(Hz (c:=cap) tU.el hi hs hx (λq u hq=>?_) lR.1 h1 qA hb hn h).go a w hr hm
  rw[eV,cX];exact jh hj hq⟩
end bZ
namespace bZ
open Go.RowKit cK dS
def qi(w:World)(e:TypeId)(size:Nat)(v:Value)(n:Nat)(xs:List Value):Prop:=
 xs.length=n*size/\((v=ap ak 0 0/\n=0)\/∃g off cap jZ,v=ap (aj ⟨g,off,ak⟩) n cap/\w.heap[g]?=aj (.cells jZ e (0,0))/\n<=cap/\cap<=maxLen/\off+cap*size<=jZ.size/\(jZ.toList.drop off).take (n*size)=xs)
def rB(e:TypeId)(size:Nat)(v:Value)(n:Nat)(xs:List Value):b9:=
 ⟨v.ownBlock,λ_=>False,λw=>qi w e size v n xs,λw h k hk=>by
  rcases h.2 with⟨rfl,_⟩|⟨g,off,cap,jZ,rfl,hg,_⟩
  exact hk.elim (λh=>by cases h) oE
  ·simp only[sP,dh,or_false]at hk
   subst hk;exact(jx.1 hg).1,λw w' h _ hb=>by
  refine⟨h.1,?_⟩;rcases h.2 with hn|⟨g,off,cap,jZ,rfl,hg,rest⟩
  exact .inl hn;exact .inr ⟨g,off,cap,jZ,rfl,by rw[hb g (.inl I)];exact hg,rest⟩⟩
theorem VV{w:World}{e:TypeId}{size:Nat}{v:Value}{n:Nat}{xs:List Value}(h:w.ownsRow 0 e size v n xs):qi w e size v n xs:=by
 refine⟨h.1,?_⟩;rcases h.2 with hn|⟨g,cap,jZ,rfl,_,hg,h1,h2,h3,h4⟩
 exact .inl hn;exact .inr ⟨g,0,cap,jZ,rfl,hg,h1,h2,by omega,by rw[tk];exact h4⟩
theorem mD{w:World}{e:TypeId}{size:Nat}{v:Value}{n:Nat}{xs:List Value}(h:qi w e size v n xs):∃base cap,v=ap base n cap/\n<=cap/\cap<=maxLen/\(base=ak->cap=0):=by
 rcases h.2 with⟨rfl,rfl⟩|⟨g,off,cap,jZ,rfl,hg,h1,h2,h3,h4⟩
 exact⟨ak,0,rfl,bz _,bH _,λ_=>rfl⟩;exact⟨_,cap,rfl,h1,h2,λh=>by cases h⟩
theorem Cq{w:World}{e:TypeId}{size:Nat}{g off m cap n:Nat}{xs:List Value}(h:qi w e size (ap (aj ⟨g,off,ak⟩) m cap) n xs){j:Nat}{u:Value}(hu:xs[j]?=aj u):w.cell? ⟨g,off+j,ak⟩=aj u:=by
 rcases h.2 with⟨h,_⟩|⟨g',zO,A9,jZ,hv,hg,h1,h2,h3,h4⟩
 cases h
 cases hv
 rw[cell_of_row w g (off+j) jZ e (0,0) hg];rw[<-h4,rl]at hu;split at hu;rw[List.getElem?_drop]at hu;simpa using hu
 cases hu
theorem NB{w:World}{e:TypeId}{size:Nat}{base:Option Addr}{cap n:Nat}{xs:List Value}(h:qi w e size (ap base (n+1) cap) (n+1) xs):qi w e size (ue base cap size 1 (n+1)) n (xs.drop size):=by
 rcases h.2 with⟨_,h⟩|⟨g,off,A9,jZ,hv,hg,h1,h2,h3,h4⟩
 cases h
 cases hv
 have hl:=h.1;refine⟨by rw[ic,hl,ml];omega,.inr ?_⟩;unfold ue
 by_cases c:cap=1
 ·subst c
  obtain rfl:n=0:=by omega
  rw[if_pos I];refine⟨g,off,0,jZ,rfl,hg,bz _,bH _,by omega,?_⟩;have e:xs.drop size=[]:=ir (by rw[hl];omega);rw[e];simp
 rw[if_neg c];refine⟨g,off+size,cap-1,jZ,?_,hg,by omega,by omega,?_,?_⟩;rw[Rb,Nat.one_mul,eV,Ra]
 ·obtain⟨q,rfl⟩:∃q,cap=q+1:=⟨cap-1,by omega⟩
  rw[ml]at h3;rw[Ra];omega
 rw[<-h4,List.drop_take,List.drop_drop,ml,Ra]
section
variable{P:Program}{n:Nat}{W:bL}{fr:Fr}{L:List b9}{Q:Exit->Act->World->Prop}{ops:Array Oper}{rest:List Oper}{d:Nat}{ty:TypeId}{pos:String}{after:Array Edge}
theorem VW{i g off size cap m k:Nat}{e:TypeId}{xs:List Value}(hi:L[i]?=aj (rB e size (ap (aj ⟨g,off,ak⟩) m cap) k xs)){j:Nat}{v:Value}(hv:xs[j]?=aj v):At W L ⟨g,off+j,ak⟩ v:=λw hm=>Cq (hm.get hi) hv
theorem TJ{i size m:Nat}{e:TypeId}{v:Value}{xs:List Value}(hi:L[i]?=aj (rB e size v m xs))(h:∀base cap,v=ap base m cap->m<=cap->cap<=maxLen->(base=ak->cap=0)->TL P n W ops Q rest fr L):TL P n W ops Q rest fr L:=⟨λa w hr hm=>by
 obtain⟨base,cap,h1,h2,h3,h4⟩:=mD (hm.get hi:qi w e size v m xs);exact(h base cap h1 h2 h3 h4).go a w hr hm⟩
theorem aah(i:Nat){e:TypeId}{size m cap:Nat}{base:Option Addr}{xs:List Value}(hi:L[i]?=aj (rB e size (ap base (m+1) cap) (m+1) xs))(h:TL P n W ops Q rest fr (L.set i (rB e size (ue base cap size 1 (m+1)) m (xs.drop size)))):TL P n W ops Q rest fr L:=
 ab1 (rB e size (ue base cap size 1 (m+1)) m (xs.drop size)) hi (λ_ h=>NB h) (λk hk=>by
  cases base with
  |none=>unfold ue at hk;split at hk<;>cases hk
  | some q=>
   unfold ue at hk;split at hk;exact hk;simp only[rB,Rb,sP,dh]at hk⊢;unfold Addr.add at hk;split at hk<;>exact hk) (λ_ h=>oE h) h
theorem Kx{t ty e:TypeId}{i:TypeInfo}{z:Value}{size bytes:Nat}(ht:P.underlying t=aj (.slice e))(hi:P.info? e=aj i)(hz:i.zero=aj z)(oe:i.size=size)(OL:i.bytes=bytes)(Pv:z.cells.size=size)(hsz:0<size)(w:World)
 {v:Value} {m:Nat} {xs:List Value} (lR:qi w e size v m xs) {a:Addr} {k c:Nat} {news:List Value} (hl:news.length=k*size) (B2:∀j u,news[j]?=aj u->w.cell? (a.add j)=aj u) (h1:∀u∈news,u.oneCell'=aC)
 (qA:m+k<=maxLen) (Jp:(m+k)*bytes<=140737488355328):
 ∃v' w',(ux #[t,t] ty #[v,ap (aj a) k c]).run P w= .ok v' w'/\qi w' e size v' (m+k) (xs++news)/\w.grownBy w' v.ownBlock/\(∀q,v'.ownBlock=aj q->v.ownBlock=aj q\/w.heap.size<=q):=by
 rcases lR.2 with⟨rfl,rfl⟩|⟨g,off,cap,jZ,rfl,hg,hnc,LJ,hcs,zo⟩
 ·obtain⟨v',w',hr,h2,h3,h4⟩:=oI (ty:=ty) (c:=c) ht hi hz oe OL Pv hsz w (⟨lR.1,.inl ⟨rfl,rfl⟩⟩:w.ownsRow 0 e size (ap ak 0 0) 0 xs) hl B2 h1 qA Jp
  exact⟨v',w',hr,VV h2,h3,h4⟩
 ·have hlen:(xs++news).length=(m+k)*size:=by rw[bI,lR.1,hl,iP]
  have agM:((m+k:Nat):Int)<=9223372036854775807:=by simp only[maxLen]at qA;omega
  subst oe OL
  by_cases hroom:m+k<=cap
  ·have D0:off+m*i.size+news.length<=jZ.size:=by
    have:=Nat.mul_le_mul_right i.size hroom;rw[iP,<-hl]at this;omega
   have hf:=run_firstCells_some (P:=P) w i.size k a k c news hl B2;have hst:=run_storeCells_at P g (off+m*i.size) e news 0 jZ w hg (by simpa using D0) h1;simp only[iu]at hst;refine⟨ap (aj ⟨g,off,ak⟩) (m+k) cap,_,by simp[ux,run_underlying ht,sizeOf,typeInfo,hi,AS,hroom,hf,eV,hst];rfl,⟨hlen,.inr ⟨g,off,cap,_,rfl,setRow_heap w g jZ _ e _ hg,hroom,LJ,?_,?_⟩⟩,⟨rfl,rfl,rfl,by simp,λk hk h=>setRow_other w g k _ (λe=>h (by simp[sP,e]))⟩,λq hq=> .inl hq⟩
   ·simp only[ey,bI,iN,ic,mf]
    omega
   have e1:jZ.toList.take (off+m*i.size)=jZ.toList.take off++xs:=by rw[List.take_add,zo]
   have e2:(jZ.toList.take off).length=off:=by rw[iN,mf];omega
   show((jZ.toList.take (off+m*i.size)++(news++jZ.toList.drop (off+m*i.size+news.length))).drop off).take _=_
   rw[e1,dZ,List.drop_append,ir (Z9 e2),e2,pK,tk,eI,<-dZ,<-hlen];exact Z7
  have holds:∀j u,xs[j]?=aj u->w.cell? ((⟨g,off,ak⟩:Addr).add j)=aj u:=λj u hj=>by rw[eV];exact Cq lR hj
  have hr:=run_append_grow (P:=P) w t ty e i z ht hi hz ⟨g,off,ak⟩ m cap xs lR.1 holds a k c news hl B2 J agM (growslice_fits J Jp);have hge:=grownCap_ge w (m+k) cap e;have LJ:grownCap w (m+k) cap e<=maxLen:=grownCap_le_maxLen w (m+k) cap e qA;refine⟨_,_,hr,⟨hlen,.inr ⟨w.heap.size,0,_,_,rfl,heap_alloc_new w.drew _,hge,LJ,?_,?_⟩⟩,⟨rfl,rfl,rfl,by simp,λk hk _=>heap_alloc_old w.drew _ hk⟩,λq hq=> .inr ?_⟩
  ·simp only[Array.size_append,ey,size_zeroCells,Pv,lR.1,hl,<-iP,cX]
   exact Z9 (by congr 1;omega)
  ·simp only[Array.toList_append,dZ,tk]
   rw[<-dZ,<-hlen];exact Z7
  simp only[sP,dh]at hq;omega
theorem TK{t e:TypeId}{s x:Operand}{i j size bytes m k:Nat}{v v2:Value}{xs ys:List Value}[tU:rO P t e size bytes](hi:L[i]?=aj (rB e size v m xs))(hj:L[j]?=aj (aZ e size v2 k ys))(hs:ev fr s=aj v)(hx:ev fr x=aj v2)
 (h1:∀u∈ys,u.oneCell'=aC) (qA:m+k<=140737488355328) (hb:(m+k)*bytes<=140737488355328) (hn:dj d n=aC)
 (h:∀v',TL P n W ops Q rest ((d,v')::fr) (L.set i (rB e size v' (m+k) (xs++ys)))):
 TL P n W ops Q (⟨aj d,.call {callee:= .builtin .append,args:=#[s,x],argTypes:=#[t,t]},ty,pos,after,ak⟩::rest) fr L:=lg I λact w hr hm K hK=>by
 obtain⟨inf,z,ht,zq,hz,oe,OL,Pv,hsz⟩:=tU.el.ex;have lR:qi w e size v m xs:=hm.get hi;have aai:w.ownsRow 0 e size v2 k ys:=hm.get hj;rcases aai.2 with⟨rfl,rfl⟩|⟨g,cap,jZ,rfl,_⟩
 ·have hy:ys=[]:=mS (by rw[aai.1];simp)
  subst hy;have h2:=h v;have rN:L.set i (rB e size v (m+0) (xs++[]))=L:=by
   rw[du,iu];apply mi;intro q
   by_cases hq:i=q
   ·subst hq
    rw[nF (dg.1 hi).1,hi]
   rw[kZ hq]
  rw[rN]at h2;have e':(execOp act.eval ⟨aj d,.call {callee:= .builtin .append,args:=#[s,x],argTypes:=#[t,t]},ty,pos,after,ak⟩).run P w= .ok (.value v) w:=by
   obtain⟨base,cap,rfl,q1,q2,q3⟩:=mD lR
   cases base with
   | none=>
    obtain rfl:=q3 rfl;obtain rfl:m=0:=by omega
    simp[lP,sJ,hr.ev hs,hr.ev hx,ux,run_underlying ht,sizeOf,typeInfo,zq,AS,DG,loadCells,loadCellsFrom]
   |some q=>simp[lP,sJ,hr.ev hs,hr.ev hx,ux,run_underlying ht,sizeOf,typeInfo,zq,AS,DG,loadCells,loadCellsFrom,q1,storeCells]
  unfold gj;rw[e'];exact hK _ _ (h2.go _ _ (hr.put hn _) hm)
 ·obtain⟨v',w',hrun,h2,h3,h4⟩:=Kx (ty:=ty) (c:=cap) ht zq hz oe OL Pv hsz w lR aai.1 (λq u hq=>by rw[eV,cX];exact jh hj hq w hm) h1 (by unfold maxLen;omega) hb
  have e':(execOp act.eval ⟨aj d,.call {callee:= .builtin .append,args:=#[s,x],argTypes:=#[t,t]},ty,pos,after,ak⟩).run P w= .ok (.value v') w':=by
   simp only[lP,sJ,List.map_toArray,gv,List.map_nil,hr.ev hs,hr.ev hx,Sem.run_bind,hrun,Result.andThen_ok,Sem.run_pure]
  unfold gj;rw[e'];exact hK _ _ ((h v').go _ _ (hr.put hn _) (hm.CH hi h3 h2 h4))
end
end bZ
namespace bZ
open Go.RowKit cK dS gK
def rL(e:Ev):List Value:=[av az e.1,av az e.2]
theorem FJ(l:List Ev):∀u∈l.flatMap rL,u.oneCell'=true:=by
 intro u hu;obtain⟨f,_,h⟩:=List.mem_flatMap.1 hu;simp only[rL,dC,fH,or_false]at h;rcases h with rfl|rfl<;>rfl
theorem ahA(f f':Ev)(w:World):(lQ 10000 55 (aQ (rL f).toArray) (aQ (rL f').toArray)).run aD w= .ok (decide (f=f')) w:=by
 obtain⟨k,q⟩:=f;obtain⟨k',q'⟩:=f';unfold rL
 go_simp
 by_cases e1:k=k'<;>by_cases e2:q=q'<;>simp[e1,e2]
theorem IA(x:Ev)(w:World):Calls aD 137 #[aQ (rL x).toArray] w (bY (ret (.bool (qG x))) w):=by
 obtain⟨k,q⟩:=x;refine enter (args:=[aQ (rL (k,q)).toArray]) (n:=21) Tryz.func137 I I I ?_;refine bW (bB (bP I I I λg=>?_))
 repeat' (first
  |refine QV QP ?_
  |refine QZ ?_
  |refine qs I I I I I I ?_
  |(((try refine qg I I I ?_);first|refine QV QP ?_|refine QV (aB aK.ty I (aH (i:=0) I I)) ?_|refine QV QA ?_|refine QV QlT ?_|refine QV QlF ?_|refine QV QgT ?_|refine QV QgF ?_))
  |refine uL (dq I I I) I I I (λh=>?_) (λh=>?_)
  |refine pA (dq I I I) I I I I I (λh=>?_) (λh=>?_)
  |refine pA (ea I I I) I I I I I (λh=>?_) (λh=>?_)
  |((fail_if_success (refine Pn I I I ?_));(fail_if_success (refine Po I I I ?_));refine A6 I I I (λh=>?_) (λh=>?_)))
 all_goals (refine dH I I ?_;congr 1;unfold qG;dsimp only at*;simp only[*,decide_true,decide_false,Bool.true_or,Bool.false_or,Bool.or_true])
end bZ
namespace bZ
open Go.RowKit cK dS gK
theorem tF(a:Ev):(rL a).length=2:=rfl
theorem FK(v v':Value)(l l':List Ev)(w:World)(hs:Sl w v l.length (l.flatMap rL))(wZ:Sl w v' l'.length (l'.flatMap rL)):
 Calls aD 17 #[v,v'] w (bY (ret (.bool (decide (l=l')))) w):=by
 obtain⟨base,cap,rfl,lW,jS,eP⟩:=hs;obtain⟨M7,A9,rfl,ajC,ahB,ae7⟩:=wZ;unfold maxLen at jS ahB;refine enter (args:=[ap base l.length cap,ap M7 l'.length A9]) (n:=26) Tryz.func17 I I I ?_
 by_cases c1:l.length=l'.length
 ·try refine GA ?_
  refine mq (ι:=Nat) (λk=>k<=l.length/\l.take k=l'.take k) (λk=>[(0,ap base l.length cap),(1,ap M7 l'.length A9),(12,av az l.length),(13,av az (k:Int))]) (λ_=>[]) (λk=>l.length-k) 0 ⟨by omega,rfl⟩ ⟨rfl,rfl,rfl,rfl,trivial⟩ I ?_;rintro k ⟨h1,h2⟩
  by_cases c2:k<l.length
  ·obtain⟨b,off,rfl,hr⟩:=eP J
   obtain⟨b',zO,rfl,CG⟩:=ae7 J;have M6:k<l'.length:=by omega
   have dy:=ib (L:=([]:List b9)) tF hr c2;have ahC:=ib (L:=([]:List b9)) tF CG M6;have Hw:=ahA l[k] l'[k]
   by_cases c3:l[k]=l'[k]
   ·rw[decide_eq_true c3]at Hw
    try refine GA ?_
    refine XE 8 (cL 8 aC) I (by kernel_rfl) (by kernel_rfl) (by intro c a d v w h;cases d<;>exact h) ?_
    repeat(first|refine gG I (qp I) I I ?_|refine gG I (aY bM.eq aK.ty I I c2) I I ?_|refine gG I (aY bM.eq aK.ty I I M6) I I ?_|refine gG I (bm aK.ty I I dy) I I ?_|refine gG I (bm aK.ty I I ahC) I I ?_|refine gG I (xr bM.eq I) I I ?_|refine gG I (dq I I (qT J)) I I ?_|refine gG I (dq I I (qF J)) I I ?_|refine gG I (dl I I (qT J)) I I ?_|refine gG I (dl I I (qF J)) I I ?_|refine gG I (dW I I J J I) I I ?_|refine XF ?_)
    repeat(first|refine GC ?_|refine gV (uO I I (by kernel_rfl) Hw I) ?_|refine GB ?_)
    exact jH (k+1) ⟨by omega,by rw[gX c2,gX M6,h2,c3]⟩ (by show l.length-(k+1)<l.length-k;omega) ⟨rfl,rfl,rfl,rfl,trivial⟩ I
   rw[decide_eq_false c3]at Hw;rw[decide_eq_false (λh=>c3 (by subst h;rfl))]
   try refine GA ?_
   refine XE 8 (cL 8 aC) I (by kernel_rfl) (by kernel_rfl) (by intro c a d v w h;cases d<;>exact h) ?_
   repeat(first|refine gG I (qp I) I I ?_|refine gG I (aY bM.eq aK.ty I I c2) I I ?_|refine gG I (aY bM.eq aK.ty I I M6) I I ?_|refine gG I (bm aK.ty I I dy) I I ?_|refine gG I (bm aK.ty I I ahC) I I ?_|refine gG I (xr bM.eq I) I I ?_|refine gG I (dq I I (qT J)) I I ?_|refine gG I (dq I I (qF J)) I I ?_|refine gG I (dl I I (qT J)) I I ?_|refine gG I (dl I I (qF J)) I I ?_|refine gG I (dW I I J J I) I I ?_|refine XF ?_)
   repeat(first|refine GC ?_|refine gV (uO I I (by kernel_rfl) Hw I) ?_|refine GB ?_)
   exact eH
  have e:l=l':=by
   rw[fU J,fU J]at h2;exact h2
  rw[decide_eq_true e]
  try refine GA ?_
  exact eH
 ·rw[decide_eq_false (λh=>c1 (by rw[h]))]
  try refine GA ?_
  exact eH
theorem y8(v:Value)(l:List Ev)(w:World)(hs:Sl w v l.length (l.flatMap rL))(pP:FuncId)(first cp:Array Value)(p:Ev->Bool)(Bm:Enters aD pP)
 (hp:∀a∈l,∀w',Gr w w'->Calls aD pP (first++#[(aQ (rL a).toArray)]++cp) w' (bY (ret (.bool (p a))) w')):
 Calls aD 162 #[v,.func (.func pP) first cp] w (bY (ret (av az (rQ p l))) w):=by
 obtain⟨base,cap,rfl,lW,jS,eP⟩:=hs;unfold maxLen at jS;refine enter (args:=[ap base l.length cap,.func (.func pP) first cp]) (n:=19) Tryz.func162 I I I ?_
 try refine GA ?_
 refine d_ (ι:=Nat) (λk=>k<=l.length/\∀j (hj:j<l.length),j<k->p l[j]=aE) (λk=>[(0,ap base l.length cap),(1,.func (.func pP) first cp),(7,av az l.length),(8,av az (k:Int))]) (λ_=>[]) (λk=>l.length-k) 0 ⟨by omega,λj hj h=>by omega⟩ ?_;rintro k ⟨h1,h2⟩
 by_cases c2:k<l.length
 ·obtain⟨b,off,rfl,hr⟩:=eP J
  have dy:=ib (L:=([]:List b9)) tF hr c2;have jW:=hp l[k] (b_ c2)
  by_cases c3:p l[k]=aC
  ·rw[rR c2 c3 h2]
   rw[c3]at jW;clear hp h2 eP
   repeat(first|refine GA ?_|refine gV (aY bM.eq aK.ty I I c2) ?_|refine gV (bm aK.ty I I dy) ?_)
   refine aV (CJ Bm I I) (λw hm=>jW w hm.below) I I I ?_;intro _ _
   try refine GA ?_
   exact eH
  have OP:p l[k]=false:=by simpa using c3
  rw[OP]at jW;clear hp eP c3
  repeat(first|refine GA ?_|refine gV (aY bM.eq aK.ty I I c2) ?_|refine gV (bm aK.ty I I dy) ?_)
  refine aV (CJ Bm I I) (λw hm=>jW w hm.below) I I I ?_;intro _ _
  try refine GA ?_
  exact bT (k+1) ⟨by omega,λj hj h=>if e:j<k then h2 j hj e else(by obtain rfl:j=k:=J;exact OP)⟩ (by show l.length-(k+1)<l.length-k;omega)
 ·rw[rS λj hj=>h2 j hj J]
  clear hp h2 eP
  try refine GA ?_
  exact eH
theorem nB(v:Value)(l:List Ev)(w:World)(hs:Sl w v l.length (l.flatMap rL))(pP:FuncId)(first cp:Array Value)(p:Ev->Bool)(Bm:Enters aD pP)
 (hp:∀a∈l,∀w',Gr w w'->Calls aD pP (first++#[(aQ (rL a).toArray)]++cp) w' (bY (ret (.bool (p a))) w')):
 Calls aD 136 #[v,.func (.func pP) first cp] w (bY (ret (.bool (l.any p))) w):=by
 refine enter (args:=[v,.func (.func pP) first cp]) (n:=9) Tryz.func136 I I I ?_;have hh:=λw' (hg:Gr w w')=>y8 v l w' (hs.gr hg) pP first cp p Bm λa ha Gz uf=>hp a ha Gz (hg.trans uf);have hr:=pE p l;rw[<-uU p l];generalize rQ p l=r at*
 try refine GA ?_
 refine aV (fB aI.en I I I) (λw hm=>hh _ hm.below) I I I ?_;intro _ _
 repeat(first|refine GC ?_|refine gV (ff I I I) ?_|refine GB ?_)
 exact eH
theorem qj(v:Value)(l:List Ev)(w:World)(hs:Sl w v l.length (l.flatMap rL))(hl:l.length*16<=140737488355328):
 Calls aD 109 #[v] w (bY (cI 55 2 l.length (l.flatMap rL) id) w):=by
 obtain⟨base,cap,rfl,lW,jS,eP⟩:=hs;unfold maxLen at jS;refine enter (args:=[ap base l.length cap]) (n:=8) Tryz.func109 I I I ?_;have sa:∀w',Gr w w'->Sl w' (ap base l.length cap) l.length (l.flatMap rL):=λw' hg=>Sl.gr ⟨base,cap,rfl,lW,jS,eP⟩ hg;clear eP
 cases base with
 | none=>
  repeat(first|refine GC ?_|refine gV (kx bM.eq I I I) ?_|refine GB ?_)
  have h0:l=[]:=by
   cases l with
   |nil=>rfl
   |cons x l=>obtain⟨_,_,h,_,_,h2⟩:=sa w (Gr.refl w);simp only[kH]at h;obtain⟨rfl,_⟩:=h;obtain⟨b,off,h,_⟩:=h2 (by simp);cases h
  subst h0;refine dN 55 2 ?_;exact cO I I λw hm=>hm.meets (S:=cI 55 2 0 [] id) _ trivial [0] akh I
 |some p=>
  repeat(first|refine GC ?_|refine gV (kx bM.eq I I I) ?_|refine GB ?_)
  refine w6 I λg=>?_
  try refine GA ?_
  refine eM (i:=0) I (λw' hm=>sa w' hm.below) I I (lV tF l) (FJ l) J J I λv'=>?_;rw[eI]
  try refine GA ?_
  refine cO I I λw hm=>?_;exact hm.meets (S:=cI 55 2 l.length (l.flatMap rL) id) v' trivial [0] akh (by simp[cI])
end bZ
namespace bZ
open Go.RowKit cK dS gK
theorem kt{v:Value}{c g:Int}(h:v.oneCell'=aC):(#[v,av az c,av az g]:Array Value).toList.all eY=true:=by
 simp only[List.all_cons,List.all_nil,h];rfl
def As(v:Value)(c g:Int):Value:=aQ #[v,av az c,av az g]
theorem tG(v:Value)(wait:List Ev)(c g:Int)(w:World)(hs:Sl w v wait.length (wait.flatMap rL)):
 Calls aD 102 #[As v c g] w (bY (ret (av az (cz wait c g))) w):=by
 have Lr:=λw' (hg:Gr w w')=>nB v wait w' (hs.gr hg) 137 #[] #[] qG aI.en (λa _ Gz _=>IA a Gz);obtain⟨base,cap,rfl,lW,jS,eP⟩:=hs;unfold maxLen at jS;clear eP;refine enter (args:=[As (ap base wait.length cap) c g]) (n:=32) Tryz.func102 I I I ?_;refine bW (bB (bP I I I λgb=>?_))
 repeat' (first
  |refine QV QP ?_
  |refine QZ ?_
  |refine OM I ?_
  |refine LL I ?_
  |refine qs I I I I I I ?_
  |(((try refine qg I I I ?_);first|refine QV QP ?_|refine QV (aB aK.ty I (aH (i:=0) I I)) ?_|refine QV QL ?_|refine QV QA ?_|refine QV QlT ?_|refine QV QlF ?_|refine QV QgT ?_|refine QV QgF ?_))
  |refine uL (dq I I I) I I I (λh=>?_) (λh=>?_)
  |refine pA (dq I I I) I I I I I (λh=>?_) (λh=>?_)
  |refine uL (ea I I I) I I I (λh=>?_) (λh=>?_)
  |refine pA (ea I I I) I I I I I (λh=>?_) (λh=>?_)
  |refine mV (fB aI.en I I I) (λw hm=>Lr _ hm.below) I I I I I (λ_ _=>?_)
  |((fail_if_success (refine Jj I ?_));(fail_if_success (refine Jk I ?_));refine SB I (λh=>?_) (λh=>?_))
  |((fail_if_success (refine Pn I I I ?_));(fail_if_success (refine Po I I I ?_));refine A6 I I I (λh=>?_) (λh=>?_)))
 all_goals (refine dH I I ?_;unfold cz;repeat (first|rfl|rw[if_pos (by first|omega|assumption)]|rw[if_neg (by first|omega|assumption|simp only[*,nX,not_false_eq_true])]))
theorem wE(v:Value)(wait:List Ev)(c g:Int)(w:World)(hs:Sl w v wait.length (wait.flatMap rL))(hl:wait.length*16<=140737488355328):
 Calls aD 101 #[As v c g] w (bY (cI 55 2 wait.length (wait.flatMap rL) λv=>As v c g) w):=by
 have jW:=λw' (hg:Gr w w')=>qj v wait w' (hs.gr hg) hl;refine enter (args:=[As v c g]) (n:=8) Tryz.func101 I I I ?_;refine bW (bB (bP I I I λgb=>a8 I λg2=>?_))
 repeat(first|refine GA ?_|refine gV (aB aK.ty I (aH (i:=0) I I)) ?_)
 refine aV (i_ aI.en I I) (λw hm=>jW _ hm.below) I I I ?_;intro v2 _
 try refine GA ?_
 refine aW (i:=2) I λpf mY=>?_;refine bV (i:=0) I I I pf mY I ?_
 repeat(first|refine GA ?_|refine gV (aO (i:=0) aK.ty I I I) ?_)
 refine aX (i:=1) I I I I (kt mY) I ?_
 try refine GA ?_
 exact fZ (i:=1) I I I I λw hm=>hm.meets (S:=cI 55 2 wait.length (wait.flatMap rL) λv=>As v c g) v2 trivial [2] akh I
def Rn(m:List Ev)(c g e:Int):Spec Value:=cI 55 2 m.length (m.flatMap rL) λv=> .tuple #[As v c g,av az e]
theorem Ro(v:Value)(wait:List Ev)(c g:Int)(vl:Value)(l:List Ev)(w:World)(hs:Sl w v wait.length (wait.flatMap rL))(hl:wait.length*16<=140737488355328)(WC:Sl w vl l.length (l.flatMap rL)):
 Calls aD 173 #[As v c g,vl] w (bY (Rn (Kn wait c g l) c g (G6 wait c g l)) w):=by
 have jw:=λw' (hg:Gr w w')=>tG v wait c g w' (hs.gr hg);have hsm:=λw' (hg:Gr w w')=>wE v wait c g w' (hs.gr hg) hl;have Lr:=λw' (hg:Gr w w')=>nB vl l w' (WC.gr hg) 137 #[] #[] qG aI.en (λa _ Gz _=>IA a Gz);have sa:∀L,SlL w L vl l.length (l.flatMap rL):=λL w' hm=>WC.gr hm.below;obtain⟨base,cap,rfl,lW,jS,_⟩:=hs;obtain⟨aer,Qs,rfl,ajD,ahD,_⟩:=WC;unfold maxLen at jS ahD;refine enter (args:=[As (ap base wait.length cap) c g,ap aer l.length Qs]) (n:=35) Tryz.func173 I I I ?_;refine bW (bB (bP I I I λg0=>a8 I λg4=>?_));have lT:=acV (wait:=wait) (c:=c) (g:=g) (l:=l);generalize hE:G6 wait c g l=E at*
 repeat(first|refine GA ?_|refine gV (aO (i:=0) aK.ty I I I) ?_)
 refine aV (i_ aI.en I I) (λw hm=>jw _ hm.below) I I I ?_;intro _ _
 repeat(first|refine QV QP ?_|refine jg ?_|refine jA ?_|refine QV QL ?_|refine QV QA ?_|refine QV QgT ?_|refine QV QgF ?_|refine QV QeT ?_|refine QV QeF ?_|refine QV QnT ?_|refine QV QnF ?_|refine QV QaS ?_)
 refine XC (ι:=Unit) (λ_=>True) (λ_=>[(1,ap aer l.length Qs),(2,aJ (aj ⟨g0,0,ak⟩)),(4,aJ (aj ⟨g4,0,ak⟩)),(6,av az E)]) (λ_=>[aP g0 (As (ap base wait.length cap) c g).cells 166,aP g4 #[ap ak 0 0,av az 0,av az 0] 166]) ?_ ?_
 ·unfold G6 at hE
  by_cases c1:cz wait c g=0
  ·rw[if_neg (by simpa using c1)]at hE
   by_cases c2:l.any qG=aC
   ·rw[if_pos c2]at hE
    subst hE;rw[c2]at Lr;rw[c1]
    try refine GA ?_
    refine aV (fB aI.en I I I) (λw hm=>Lr _ hm.below) I I I ?_;intro _ _
    try refine GA ?_
    exact ee () trivial (by repeat' (first|exact cT|refine cJ I ?_)) I
   rw[if_neg c2]at hE;have M6:l.any qG=false:=by simpa using c2
   rw[M6]at Lr;rw[c1]
   by_cases c3:4200<wait.length+l.length
   ·rw[if_pos c3]at hE
    subst hE
    try refine GA ?_
    refine aV (fB aI.en I I I) (λw hm=>Lr _ hm.below) I I I ?_;intro _ _
    repeat(first|refine GA ?_|refine gV (aB aK.ty I (aH (i:=0) I I)) ?_)
    exact ee () trivial (by repeat' (first|exact cT|refine cJ I ?_)) I
   rw[if_neg c3]at hE;subst hE
   try refine GA ?_
   refine aV (fB aI.en I I I) (λw hm=>Lr _ hm.below) I I I ?_;intro _ _
   repeat(first|refine GA ?_|refine gV (aB aK.ty I (aH (i:=0) I I)) ?_)
   exact ee () trivial (by repeat' (first|exact cT|refine cJ I ?_)) I
  rw[if_pos c1]at hE;subst hE
  try refine GA ?_
  exact ee () trivial (by repeat' (first|exact cT|refine cJ I ?_)) I
 ·intro _ _
  repeat(first|refine GA ?_|refine gV (aO (i:=0) aK.ty I I I) ?_)
  refine aV (i_ aI.en I I) (λw hm=>hsm _ hm.below) I I I ?_;intro v2 _;refine aW (i:=2) I λpf mY=>?_;refine a8 I λg7=>?_;refine aX (i:=3) I I I I (kt mY) I ?_
  by_cases c1:E=0
  ·have hw:Kn wait c g l=wait++l:=by unfold Kn;rw[hE,if_pos c1]
   subst c1;obtain⟨_,_,k3⟩:=lT rfl;rw[hw]
   repeat(first|refine GA ?_|refine gV (aB aK.ty I (aH (i:=3) I I)) ?_)
   refine eM (i:=2) I (sa _) I I (lV tF l) (FJ l) J J I λv'=>?_
   try refine GA ?_
   refine aW (i:=2) I λzw C_=>?_;refine bV (i:=3) I I I zw C_ I ?_
   repeat(first|refine GA ?_|refine gV (aO (i:=3) aK.ty I I I) ?_)
   refine aX (i:=1) I I I I (kt C_) I ?_
   try refine GA ?_
   exact eJ (i:=1) I I I I I λw hm=>hm.meets (S:=Rn (wait++l) c g 0) v' trivial [2] akh (by simp[Rn,cI])
  have hw:Kn wait c g l=wait:=by unfold Kn;rw[hE,if_neg c1]
  rw[hw]
  repeat(first|refine GA ?_|refine gV (aO (i:=3) aK.ty I I I) ?_)
  refine aX (i:=1) I I I I (kt mY) I ?_
  try refine GA ?_
  exact eJ (i:=1) I I I I I λw hm=>hm.meets (S:=Rn wait c g E) v2 trivial [2] akh I
end bZ
namespace bZ
open Go.RowKit cK dS gK
theorem Ky(v:Value)(wait:List Ev)(c g n:Int)(w:World)(hs:Sl w v wait.length (wait.flatMap rL))(hl:wait.length*16<=140737488355328):
 Calls aD 67 #[As v c g,av az n] w (bY (Rn wait (yY wait c g n) g (oM wait c g n)) w):=by
 have jw:=λw' (hg:Gr w w')=>tG v wait c g w' (hs.gr hg);have hsm:=λw' (hg:Gr w w')=>wE v wait c g w' (hs.gr hg) hl;have lT:=VP (wait:=wait) (c:=c) (g:=g) (n:=n);have zw:=cV (wait:=wait) (c:=c) (g:=g);obtain⟨base,cap,rfl,lW,jS,_⟩:=hs;unfold maxLen at jS;refine enter (args:=[As (ap base wait.length cap) c g,av az n]) (n:=32) Tryz.func67 I I I ?_;refine bW (bB (bP I I I λg0=>a8 I λg4=>?_))
 repeat(first|refine QV QP ?_|refine jg ?_|refine jA ?_|refine qs I I I I I I ?_|((try refine qg I I I ?_);first|refine QV QP ?_|refine QV QA ?_|refine QV (DX I I J) ?_|refine QV QeT ?_|refine QV QeF ?_|refine QV QaA ?_|refine QV QlT ?_|refine QV QlF ?_|refine QV QgT ?_|refine QV QgF ?_))
 refine XC (ι:=Value×Nat) (λ(v2,_)=>v2.oneCell'=aC) (λ(v2,g6)=>[(1,av az n),(4,aJ (aj ⟨g4,0,ak⟩)),(6,aJ (aj ⟨g6,0,ak⟩)),(7,av az (cz wait c g))]) (λ(v2,g6)=>[aP g4 #[ap ak 0 0,av az 0,av az 0] 166,aZ 55 2 v2 wait.length (wait.flatMap rL),aP g6 (As v2 c g).cells 166]) ?_ ?_
 ·refine dT ([aP g0 (As (ap base wait.length cap) c g).cells 166]) (.calm 0 (.calm 2 (.two 1 (.calm 3 (.one 4 (.one 5 (.calm 6 (.done))))) 4 (.one 1 (.calm 3 (.one 5 (.calm 6 (.done)))))))) (bX [0]) ?_
  repeat(first|refine GW ?_|(refine GN ?_;first|refine QW (aO (i:=0) aK.ty I I I) ?_))
  refine eK I I ?_ ?_
  ·refine aV (i_ aI.en I I) (λw hm=>hsm _ hm.below) I I I ?_
   intro v2 _;refine aM (bX [0]) ?_;refine oW I (i_ aI.en I I) (λw hm=>jw _ hm.below) I I I ?_;refine aL I (a8 I λg6=>aM (bX [0]) ?_);refine aL I ?_;refine aW (i:=2) I λpf mY=>?_;refine aX (i:=3) I I I I (kt mY) I ?_;refine aM (bX [0]) ?_
   try refine GW ?_
   refine dm [1,2,3] ?_;exact ee (v2,g6) mY (by repeat' (first|exact cT|refine cJ I ?_)) I
  refine a8 I λg6=>?_;refine aM (bX [0]) ?_;refine aL I ?_;refine aV (i_ aI.en I I) (λw hm=>hsm _ hm.below) I I I ?_;intro v2 _;refine aM (bX [0]) ?_;refine oW I (i_ aI.en I I) (λw hm=>jw _ hm.below) I I I ?_;refine aL I ?_;refine aW (i:=3) I λpf mY=>?_;refine aX (i:=2) I I I I (kt mY) I ?_;refine aM (bX [0]) ?_
  try refine GW ?_
  refine dm [1,3,2] ?_;exact ee (v2,g6) mY (by repeat' (first|exact cT|refine cJ I ?_)) I
 rintro⟨v2,g6⟩ mY;dsimp only at mY⊢;unfold yY oM at*
 by_cases c1:cz wait c g=0
 ·obtain⟨_,b1,b2,_⟩:=zw c1
  rw[c1];simp only[ne_eq,not_true_eq_false,if_false]
  by_cases c2:n<1
  ·rw[if_pos c2]
   repeat(first|refine GA ?_|refine gV (aO (i:=2) aK.ty I I I) ?_)
   refine aX (i:=0) I I I I (kt mY) I ?_
   try refine GA ?_
   exact eJ (i:=0) I I I I I λw hm=>hm.meets (S:=Rn wait c g 1) v2 trivial [1] akh I
  rw[if_neg c2]
  by_cases c3:1073741824<n
  ·rw[if_pos c3]
   repeat(first|refine GA ?_|refine gV (aO (i:=2) aK.ty I I I) ?_)
   refine aX (i:=0) I I I I (kt mY) I ?_
   try refine GA ?_
   exact eJ (i:=0) I I I I I λw hm=>hm.meets (S:=Rn wait c g 1) v2 trivial [1] akh I
  rw[if_neg c3]
  repeat(first|refine GC ?_|refine gV (aB aK.ty I (aH (i:=2) I I)) ?_|refine gV (DX I I I) ?_|refine GB ?_)
  refine bV (i:=2) I I I I I I ?_
  repeat(first|refine GA ?_|refine gV (aO (i:=2) aK.ty I I I) ?_)
  refine aX (i:=0) I I I I (kt mY) I ?_
  try refine GA ?_
  exact eJ (i:=0) I I I I I λw hm=>hm.meets (S:=Rn wait (min (c+n) 1073741824) g 0) v2 trivial [1] akh I
 ·rw[if_pos c1,if_neg c1]
  repeat(first|refine GA ?_|refine gV (aO (i:=2) aK.ty I I I) ?_)
  refine aX (i:=0) I I I I (kt mY) I ?_
  try refine GA ?_
  exact eJ (i:=0) I I I I I λw hm=>hm.meets (S:=Rn wait c g (cz wait c g)) v2 trivial [1] akh I
def taS(wait:List Ev)(c g n:Int):Spec (Value×Value):=
 if Iu wait c g n=0 then
  ⟨λ_=>True,λx=> .tuple #[As x.1 (c-takeN wait c n) (g+takeN wait c n),x.2,av az 0],λx=>[aZ 55 2 x.1 (wait.length-takeN wait c n) ((wait.drop (takeN wait c n)).flatMap rL),aZ 55 2 x.2 (takeN wait c n) ((wait.take (takeN wait c n)).flatMap rL)]⟩
 else⟨λ_=>True,λx=> .tuple #[As x.1 c g,x.2,av az (Iu wait c g n)],λx=>[aZ 55 2 x.1 wait.length (wait.flatMap rL),aZ 55 2 x.2 0 []]⟩
theorem NC(v:Value)(wait:List Ev)(c g n:Int)(w:World)(hs:Sl w v wait.length (wait.flatMap rL))(hl:wait.length*16<=140737488355328):
 Calls aD 70 #[As v c g,av az n] w (bY (taS wait c g n) w):=by
 have jw:=λw' (hg:Gr w w')=>tG v wait c g w' (hs.gr hg);have hsm:=λw' (hg:Gr w w')=>wE v wait c g w' (hs.gr hg) hl;have zw:=cV (wait:=wait) (c:=c) (g:=g);obtain⟨base,cap,rfl,lW,jS,_⟩:=hs;unfold maxLen at jS;refine enter (args:=[As (ap base wait.length cap) c g,av az n]) (n:=55) Tryz.func70 I I I ?_;refine bW (bB (bP I I I λg0=>a8 I λg4=>?_))
 repeat(first|refine QV QP ?_|refine jg ?_|refine jA ?_|refine qs I I I I I I ?_|((try refine qg I I I ?_);first|refine QV QP ?_|refine QV QL ?_|refine QV QA ?_|refine QV (DX I I J) ?_|refine QV QeT ?_|refine QV QeF ?_|refine QV QnT ?_|refine QV QnF ?_|refine QV QaA ?_|refine QV QaS ?_|refine QV QlT ?_|refine QV QlF ?_))
 refine XC (ι:=Value×Nat) (λ(v2,_)=>v2.oneCell'=aC) (λ(v2,g6)=>[(1,av az n),(4,aJ (aj ⟨g4,0,ak⟩)),(7,aJ (aj ⟨g6,0,ak⟩)),(8,av az (cz wait c g))]) (λ(v2,g6)=>[aP g4 #[ap ak 0 0,av az 0,av az 0] 166,aZ 55 2 v2 wait.length (wait.flatMap rL),aP g6 (As v2 c g).cells 166]) ?_ ?_
 ·refine dT ([aP g0 (As (ap base wait.length cap) c g).cells 166]) (.calm 0 (.calm 2 (.two 1 (.calm 3 (.one 4 (.one 5 (.calm 6 (.done))))) 4 (.one 1 (.calm 3 (.one 5 (.calm 6 (.done)))))))) (bX [0]) ?_
  repeat(first|refine GW ?_|(refine GN ?_;first|refine QW (aO (i:=0) aK.ty I I I) ?_))
  refine eK I I ?_ ?_
  ·refine aV (i_ aI.en I I) (λw hm=>hsm _ hm.below) I I I ?_
   intro v2 _;refine aM (bX [0]) ?_;refine oW I (i_ aI.en I I) (λw hm=>jw _ hm.below) I I I ?_;refine aL I (a8 I λg6=>aM (bX [0]) ?_);refine aL I ?_;refine aW (i:=2) I λpf mY=>?_;refine aX (i:=3) I I I I (kt mY) I ?_;refine aM (bX [0]) ?_
   try refine GW ?_
   refine dm [1,2,3] ?_;exact ee (v2,g6) mY (by repeat' (first|exact cT|refine cJ I ?_)) I
  refine a8 I λg6=>?_;refine aM (bX [0]) ?_;refine aL I ?_;refine aV (i_ aI.en I I) (λw hm=>hsm _ hm.below) I I I ?_;intro v2 _;refine aM (bX [0]) ?_;refine oW I (i_ aI.en I I) (λw hm=>jw _ hm.below) I I I ?_;refine aL I ?_;refine aW (i:=3) I λpf mY=>?_;refine aX (i:=2) I I I I (kt mY) I ?_;refine aM (bX [0]) ?_
  try refine GW ?_
  refine dm [1,3,2] ?_;exact ee (v2,g6) mY (by repeat' (first|exact cT|refine cJ I ?_)) I
 rintro⟨v2,g6⟩ mY;dsimp only at mY⊢;unfold taS Iu
 by_cases c1:cz wait c g=0
 ·obtain⟨b0,b1,b2,b3,b4,_⟩:=zw c1
  rw[c1];simp only[ne_eq,not_true_eq_false,if_false]
  by_cases c2:n<0
  ·rw[if_pos c2,if_neg akh]
   repeat(first|refine GA ?_|refine gV (aO (i:=2) aK.ty I I I) ?_)
   refine aX (i:=0) I I I I (kt mY) I ?_
   try refine GA ?_
   refine dN 55 2 ?_;exact fC (i:=0) I I I I I I λw hm=>hm.meets (S:=⟨λ_=>True,λ(x:Value×Value)=> .tuple #[As x.1 c g,x.2,av az 1],λx=>[aZ 55 2 x.1 wait.length (wait.flatMap rL),aZ 55 2 x.2 0 []]⟩) (v2,ap ak 0 0) trivial [1,3] akh I
  rw[if_neg c2,if_pos I];have hN:(takeN wait c n:Int)=min n (min c wait.length):=by unfold takeN;omega
  have Yc:takeN wait c n<=wait.length:=by omega
  generalize takeN wait c n=N at*;have ajc:=λv' w' (hx:Sl w' v' ((wait.drop 0).take (N-0)).length (((wait.drop 0).take (N-0)).flatMap rL))=>qj v' ((wait.drop 0).take (N-0)) w' hx (by simp;omega);have ajd:=λv' w' (hx:Sl w' v' ((wait.drop N).take (wait.length-N)).length (((wait.drop N).take (wait.length-N)).flatMap rL))=>qj v' ((wait.drop N).take (wait.length-N)) w' hx (by simp;omega);refine Jv (i:=1) I λb2 Qs me q1 q2=>?_;subst me
  repeat(first|refine GC ?_|refine gV (aB aK.ty I (aH (i:=2) I I)) ?_|refine gV (abY I I I hN.symm) ?_|refine gV (HC bM.eq aK.ty I I J) ?_|refine GB ?_)
  refine aV (i_ aI.en I I) (λw hm=>ajc _ _ (Ea tF (lm (i:=1) I w hm) J Yc)) I I I ?_;intro vg _
  repeat(first|refine GC ?_|refine gV (aB aK.ty I (aH (i:=2) I I)) ?_|refine gV (rT bM.eq aK.ty I I Yc q1) ?_|refine GB ?_)
  refine aV (i_ aI.en I I) (λw hm=>ajd _ _ (Ea tF (lm (i:=1) I w hm) Yc J)) I I I ?_;intro vw _
  try refine GA ?_
  refine aW (i:=4) I λhc3 ho3=>?_;refine bV (i:=2) I I I hc3 ho3 I ?_
  repeat(first|refine GA ?_|refine gV (aB aK.ty I (aH (i:=2) I I)) ?_)
  refine bV (i:=2) I I I I I I ?_
  repeat(first|refine GA ?_|refine gV (aB aK.ty I (aH (i:=2) I I)) ?_)
  refine bV (i:=2) I I I I I I ?_
  repeat(first|refine GA ?_|refine gV (aO (i:=2) aK.ty I I I) ?_)
  refine aX (i:=0) I I I I (kt ho3) I ?_
  try refine GA ?_
  have e1:(wait.drop 0).take (N-0)=wait.take N:=by simp
  have e2:(wait.drop N).take (wait.length-N)=wait.drop N:=fU (by simp);have e3:(wait.take N).length=N:=by simp;omega
  have e4:(wait.drop N).length=wait.length-N:=by simp
  refine fC (i:=0) I I I I I I λw hm=>hm.meets (S:=⟨λ_=>True,λ(x:Value×Value)=> .tuple #[As x.1 (c-N) (g+N),x.2,av az 0],λx=>[aZ 55 2 x.1 (wait.length-N) ((wait.drop N).flatMap rL),aZ 55 2 x.2 N ((wait.take N).flatMap rL)]⟩) (vw,vg) trivial [4,3] akh ?_;show _=[aZ 55 2 vw ((wait.drop N).take (wait.length-N)).length (((wait.drop N).take (wait.length-N)).flatMap rL),aZ 55 2 vg ((wait.drop 0).take (N-0)).length (((wait.drop 0).take (N-0)).flatMap rL)]
  rw[e1,e2,e3,e4]
 ·rw[if_pos c1,if_neg (by simpa using c1)]
  repeat(first|refine GA ?_|refine gV (aO (i:=2) aK.ty I I I) ?_)
  refine aX (i:=0) I I I I (kt mY) I ?_
  try refine GA ?_
  refine dN 55 2 ?_;exact fC (i:=0) I I I I I I λw hm=>hm.meets (S:=⟨λ_=>True,λ(x:Value×Value)=> .tuple #[As x.1 c g,x.2,av az (cz wait c g)],λx=>[aZ 55 2 x.1 wait.length (wait.flatMap rL),aZ 55 2 x.2 0 []]⟩) (v2,ap ak 0 0) trivial [1,3] akh I
end bZ
namespace bZ
open Go.RowKit cK dS aU
theorem ND(k q:Int)(w:World):(df 148 #[(0,av az k),(1,av az q)]).run aD w= .ok (aQ #[av az k,av az q]) w:=by
 go_simp
end bZ
namespace bZ
open Go.RowKit cK dS zN cD
def Au(R:List Row)(tags:List Int):List Row:=if mw R tags=0 then(qE (fA R tags) (dY (fA R tags))).2 else []
def Av(R:List Row)(tags:List Int):List Int:=if mw R tags=0 then(qE (fA R tags) (dY (fA R tags))).1.map (fA R tags).tag else []
theorem TO{R:List Row}{tags:List Int}(h:mw R tags=0):(Au R tags).length=(Av R tags).length/\(Au R tags).length=(QG (fA R tags)).n:=by
 obtain⟨hA,_⟩:=wz h;have:=(QH (bl:=dY (fA R tags)) hA).2.len;unfold Au Av;rw[if_pos h,if_pos h,dA];exact⟨this,this⟩
theorem adf{R:List Row}{tags:List Int}(h:mw R tags=0):fA (Au R tags) (Av R tags)=QG (fA R tags):=by
 have hl:=(TO h).2;have e1:Au R tags=(qE (fA R tags) (dY (fA R tags))).2:=if_pos h;have e2:Av R tags=(qE (fA R tags) (dY (fA R tags))).1.map (fA R tags).tag:=if_pos h;show vm.mk (Au R tags).length _ _=_
 rw[hl];rw[e1,e2];rfl
theorem TP{R:List Row}{tags:List Int}(h:mw R tags=0):mw (Au R tags) (Av R tags)=0:=by
 refine Kq ?_ (TO h).1.symm;rw[adf h];exact acD (wz h).1
def wF(bl:Nat->Nat)(Q:List Nat)(b:Nat):Int:=if b∈Q.map bl then(idx (Q.map bl) b:Int)+1 else 0
theorem aaj{bl:Nat->Nat}{Q:List Nat}{q:Nat}(hn:bl q∉Q.map bl)(b:Nat):wF bl (Q++[q]) b=if b=bl q then(Q.length:Int)+1 else wF bl Q b:=by
 unfold wF;rw[e7,Fv]
 by_cases c:b=bl q
 ·subst c
  rw[if_pos (by simp),if_pos I];have:=rW (D:=Q.map bl) (k:=bl q);unfold more at this;rw[if_neg hn,if_neg hn]at this;rw[this,dA]
 rw[if_neg c]
 by_cases c2:b∈Q.map bl
 rw[if_pos c2,if_pos (List.mem_append_left _ c2),qP c2];rw[if_neg c2,if_neg];rw[fx,dO];rintro(h|h);exact c2 h;exact c h
def BI(l:List Int):Row:=BG λb:Fin 256=>if b<l.length then l.getD b 0 else-1
theorem aak:BI []=eB 256 (-1):=by
 refine kN λj hj=>?_;unfold BI;simp
theorem aal{l:List Int}(h:l.length=256):BI l=vec l:=by
 refine kN λj hj=>?_;unfold BI vec;simp[h,hj]
theorem FL(l:List Int)(x:Int)(h:l.length<256):(BI l).set l.length x=BI (l++[x]):=by
 refine kN λj hj=>?_;unfold BI;rw[wB,l5,l5];simp only[bI,nM];split
 ·rename_i e;subst e
  rw[if_pos J,my (bz _),pK];rfl
 by_cases c:j<l.length
 rw[if_pos c,if_pos J,jQ c];rw[if_neg c,if_neg J]
theorem VX(l:List Int)(h:l.length<256):BI (l++[-1])=BI l:=by
 rw[<-FL l (-1) h];refine kN λj hj=>?_;rw[wB];split
 ·rename_i e;subst e;unfold BI;simp
 rfl
structure aam(R:List Row)(tags:List Int)(f n:Nat)(Q:List Nat)(out:List Row):Prop where
 eq:qE (fA R tags) (dY (fA R tags))=xM (fA R tags) (dY (fA R tags)) f n Q out
 ok:VD (fA R tags) (dY (fA R tags)) Q
 outs:VE (fA R tags) (dY (fA R tags)) n Q out
 fuel:(fA R tags).n+1<=f+n
theorem ahE{R:List Row}{tags:List Int}(hA:(fA R tags).Ok):aam R tags (R.length+1) 0 [0] []:=⟨rfl,ahj hA,⟨rfl,bH _,λk hk=>by omega⟩,bz _⟩
theorem VY{R:List Row}{tags:List Int}(hA:(fA R tags).Ok){f n:Nat}{Q:List Nat}{out:List Row}(h:aam R tags f n Q out)(hn:n<Q.length):∃f',f=f'+1/\aam R tags f' (n+1) (lI (fA R tags) (dY (fA R tags)) (Q.getD n 0) Q 256).1 (out++[vec (lI (fA R tags) (dY (fA R tags)) (Q.getD n 0) Q 256).2]):=by
 have h1:=h.ok.len;have h2:=h.fuel;obtain⟨f',rfl⟩:∃f',f=f'+1:=⟨f-1,by omega⟩;have e:=h.eq;unfold xM at e;rw[if_pos hn]at e;exact⟨f',rfl,e,Dk hA h.ok (h.ok.lt _ (Al hn)) 256 (bz _),Ij hA h.outs hn,by omega⟩
theorem aan{R:List Row}{tags:List Int}{f n:Nat}{Q:List Nat}{out:List Row}(h:aam R tags f n Q out)(hn:¬n<Q.length):qE (fA R tags) (dY (fA R tags))=(Q,out)/\n=Q.length:=by
 have h1:=h.outs.le;refine⟨?_,by omega⟩;rw[h.eq]
 cases f with
 |zero=>rfl
 |succ f=>unfold xM;rw[if_neg hn]
def adg(R:List Row)(tags:List Int):Spec (Value×Value):=⟨λ_=>True,λx=> .tuple #[ja x.1 x.2,av az (mw R tags)],λx=>[aZ 257 256 x.1 (Au R tags).length ((Au R tags).flatMap eU),aZ 3 1 x.2 (Av R tags).length ((Av R tags).flatMap cK.dQ)]⟩
theorem Rp(w:World):(df 186 #[]).run aD w= .ok (ja (ap ak 0 0) (ap ak 0 0)) w:=by kernel_rfl
set_option maxRecDepth 100000 in
theorem G_(vr vt:Value)(R:List Row)(tags:List Int)(w:World)(h:G8 w vr vt R tags):
 Calls aD 78 #[ja vr vt] w (bY (adg R tags) w):=by
 have jw:=λw' (hg:Gr w w')=>FE vr vt R tags w' (h.gr hg);have PH:=λw' (hg:Gr w w') hc=>Ku vr vt R tags w' (h.gr hg) hc;obtain⟨bt,ct,rfl,ht1,YC,Lp⟩:=h.hT;obtain⟨br,cr,rfl,WD,ul,Ex⟩:=h.hR;have adh:=h.rng;unfold maxLen at ul YC;clear h
 by_cases hc:mw R tags=0
 ·obtain⟨hA,hlt⟩:=wz hc
  have hbo:=U1 hA;have en:(fA R tags).n=R.length:=rfl;have An:0<R.length:=hA.pos;have hle:R.length<=200:=hA.le;obtain⟨b,off,rfl,hr⟩:=Ex An;obtain⟨bb,mK,rfl,hrt⟩:=Lp J;clear Ex Lp;unfold adg;have er:Au R tags=(qE (fA R tags) (dY (fA R tags))).2:=if_pos hc;have et:Av R tags=(qE (fA R tags) (dY (fA R tags))).1.map (fA R tags).tag:=if_pos hc;rw[er,et];clear er et;have ahF:=hbo.le 0 An;rw[en]at ahF;rw[hc]at jw⊢;refine enter (args:=[ja (ap (aj ⟨b,off,ak⟩) R.length cr) (ap (aj ⟨bb,mK,ak⟩) tags.length ct)]) (n:=113) Tryz.func78 I I I ?_;refine bW (bB (bP I I I λg1=>?_));refine a8 I λg2=>?_;refine zL ?_
  repeat(first|refine GA ?_|refine gV (aB aK.ty I (aH (i:=0) I I)) ?_|refine gV (aO (i:=0) aK.ty I I I) ?_)
  refine aV (i_ aI.en I I) (λw hm=>jw _ hm.below) I I I ?_;intro _ _
  repeat(first|refine GA ?_|refine gV (aO (i:=0) aK.ty I I I) ?_)
  refine aV (i_ aI.en I I) (λw hm=>PH _ hm.below hc) I I I ?_;intro g5 _;refine zL ?_
  repeat(first|refine GA ?_|refine gV (aB aK.ty I (aH (i:=0) I I)) ?_)
  refine pO (m:=R.length+1) l6 0 (by rfl) (by rfl) J J I λg6=>?_;refine zL ?_
  try refine GA ?_
  refine a8 I λg7=>?_;refine zL ?_
  try refine GA ?_
  refine fN I I I I I λg8=>?_;refine zL ?_;refine zr (i:=5) (m:=1) 1 I I akh ?_;refine zL ?_
  repeat(first|refine GA ?_|refine gV (bU (j:=0) bM.eq aK.ty I I An) ?_|refine gV (aB aK.ty I (gI (i:=2) I An)) ?_|refine gV (bU (j:=dY (fA R tags) 0) bM.eq aK.ty I I J) ?_)
  refine jl (i:=3) (off:=dY (fA R tags) 0) (v:=1) (wF (dY (fA R tags)) [0]) aK.ty I I I I I J (λj hj=>?_) ?_
  ·by_cases e:j=dY (fA R tags) 0
   subst e;simp[wF,idx];rw[if_neg e];unfold wF;rw[if_neg (by simpa using e)]
  refine zL ?_
  try refine GA ?_
  refine jd 257 256 ?_;refine jd 3 1 ?_
  conv=>arg 7;simp only[zA,zB,zC,zD,zE,zF,zG,zH,zI,cI,ret,id_eq]
  have yx:=ahE (tags:=tags) hA;have jX:=λf n Q out=>@aan R tags f n Q out;have nC:=λf n Q out=>@VY R tags hA f n Q out;have aje:=hbo.le;clear ahF hbo PH jw;generalize ajf:dY (fA R tags)=nr at*;refine d_ (ι:=Nat×Nat×List Nat×List Row×Value×Value×Value) (λ(f,n,Q,out,_)=>aam R tags f n Q out) (λ(_,n,_,_,vQ,_,_)=>[(1,aJ (aj ⟨g1,0,ak⟩)),(2,aJ (aj ⟨g2,0,ak⟩)),(5,ap (aj ⟨g5,0,ak⟩) R.length R.length),(6,ap (aj ⟨g6,0,ak⟩) (R.length+1) (R.length+1)),(7,aJ (aj ⟨g7,0,ak⟩)),(8,vQ),(9,av az (n:Int))])
   (λ(_,n,Q,out,vQ,vR,vT)=>[aP g1 (ja (ap (aj ⟨b,off,ak⟩) R.length cr) (ap (aj ⟨bb,mK,ak⟩) tags.length ct)).cells 186,aP g2 (ja (ap ak 0 0) (ap ak 0 0)).cells 186,fv 3 l6 g5 R.length λi=>(nr i:Int),fv 3 l6 g6 (R.length+1) (wF nr Q),aP g7 (ja vR vT).cells 186,aZ 3 1 vQ Q.length (Q.map λq:Nat=>l6 q),aZ 257 256 vR out.length (out.flatMap eU),aZ 3 1 vT n (((Q.take n).map (fA R tags).tag).flatMap cK.dQ)]) (λ(f,_)=>f) (R.length+1,0,[0],[],ap (aj ⟨g8,0,ak⟩) 1 1,ap ak 0 0,ap ak 0 0) yx ?_
  rintro⟨f,n,Q,out,vQ,vR,vT⟩ hw;dsimp only at hw⊢;have hQ:=hw.ok;have hQl:=hQ.len;have aj6:=hw.outs.len;rw[ajf]at hQ;rw[en]at hQl
  by_cases c1:n<Q.length
  ·obtain⟨f',rfl,uk⟩:=nC _ _ _ _ hw c1
   have hq:=hQ.lt _ (Al c1);have hqc:(Q.map λq:Nat=>l6 q)[0+n]?=aj (l6 (Q.getD n 0)):=by rw[cX,fe,cB,bK c1];rfl
   rw[en]at hq;have qz:=Cp (-1);have hrw:=λk hk=>Dk (bl:=nr) hA hQ (q:=Q.getD n 0) (by rw[en];exact hq) k hk;have afT:=Kb (A:=fA R tags) (bl:=nr) (Q.getD n 0) Q;have J2:=Ka (A:=fA R tags) (bl:=nr) (Q.getD n 0) Q;have hst:∀k,k<256->St (fA R tags) ((fA R tags).d (Q.getD n 0) k):=λk hk=>hA.step _ hq k hk;have hd:∀(k:Nat) (hk:k<256),(fA R tags).d (Q.getD n 0) k=(R[Q.getD n 0]'hq)[k]:=λk hk=>Ns hq hk;have Kz:Q.getD n 0<tags.length:=by omega
   have htg:(fA R tags).tag (Q.getD n 0)=tags[Q.getD n 0]'Kz:=Aq Kz;have Rq:=λ(L:List b9)=>ib (W:=w) (L:=L) dz hr hq;have NE:=λ(L:List b9)=>ib (W:=w) (L:=L) (c:=1) (f:=cK.dQ) (λ_=>rfl) hrt Kz 0 _ I;have hQn:Q.getD n 0=Q[n]:=by rw[cB,bK c1];rfl
   clear jX nC hw;generalize hqq:Q.getD n 0=q at*;generalize hrr:R[q]=r at*
   repeat(first|refine GC ?_|refine gV (fg (i:=5) bM.eq I I) ?_|refine GB ?_)
   refine aV (i_ aI.en I I) (λw hm=>qz _) I I I ?_;intro _ _
   try refine GA ?_
   refine a8 I λg10=>?_;refine zL ?_;refine aX (i:=8) (cs':=(eU (eB 256 (-1))).toArray) I I I (by rw[ey,dz]) (by simpa using sj (eB 256 (-1))) (by kernel_rfl) ?_;refine zL ?_
   try refine GA ?_
   refine yw (i:=5) I J λgQ cQ hv hcQ aj7=>?_;subst hv
   (repeat refine bW ?_)
   refine dT ([aP g1 (ja (ap (aj ⟨b,off,ak⟩) R.length cr) (ap (aj ⟨bb,mK,ak⟩) tags.length ct)).cells 186,aZ 3 1 (ap (aj ⟨gQ,0,ak⟩) Q.length cQ) Q.length (Q.map λq:Nat=>l6 q)]) (.calm 0 (.calm 1 (.calm 2 (.calm 3 (.calm 4 (.calm 5 (.calm 6 (.calm 7 (.calm 8 (.done)))))))))) (bX [0,5]) ?_
   repeat(first|refine GW ?_|(refine GN ?_;first|refine QW (aB aK.ty I (aH (i:=0) I I)) ?_|refine QW (bU (j:=n) bM.eq aK.ty I I c1) ?_|refine QW (aB aK.ty I (jh (i:=1) I hqc)) ?_|refine QW (aY (j:=q) bM.eq aK.ty I I hq) ?_|refine QW (bm aK.ty I (dz r) (Rq _)) ?_))
   try refine GA ?_
   rw[<-aak];refine rb [0,1,2,3,4,6,7,8,5] ?_;refine d_ (ι:=Nat×Value) (λ(k,_)=>k<=256) (λ(k,vK)=>[(1,aJ (aj ⟨g1,0,ak⟩)),(2,aJ (aj ⟨g2,0,ak⟩)),(5,ap (aj ⟨g5,0,ak⟩) R.length R.length),(6,ap (aj ⟨g6,0,ak⟩) (R.length+1) (R.length+1)),(7,aJ (aj ⟨g7,0,ak⟩)),(8,vK),(9,av az (n:Int)),(10,aJ (aj ⟨g10,0,ak⟩)),(46,CT r),(47,av az (k:Int))])
    (λ(k,vK)=>[aP g1 (ja (ap (aj ⟨b,off,ak⟩) R.length cr) (ap (aj ⟨bb,mK,ak⟩) tags.length ct)).cells 186,aP g2 (ja (ap ak 0 0) (ap ak 0 0)).cells 186,fv 3 l6 g5 R.length λi=>(nr i:Int),fv 3 l6 g6 (R.length+1) (wF nr (lI (fA R tags) nr q Q k).1),aP g7 (ja vR vT).cells 186,aZ 257 256 vR out.length (out.flatMap eU),aZ 3 1 vT n (((Q.take n).map (fA R tags).tag).flatMap cK.dQ),aP g10 (eU (BI (lI (fA R tags) nr q Q k).2)).toArray 257,aZ 3 1 vK (lI (fA R tags) nr q Q k).1.length ((lI (fA R tags) nr q Q k).1.map λq:Nat=>l6 q)]) (λ(k,_)=>256-k) (0,ap (aj ⟨gQ,0,ak⟩) Q.length cQ) (bH _) ?_
   rintro⟨k,vK⟩ hk;dsimp only at hk⊢
   by_cases c2:k<256
   ·have hcell:(eU r).toArray[k]?=aj (.int .i16 r[k]):=by rw[jz];exact qh r c2
    have hx:=hd k c2;have hsx:=hst k c2;have lT:=hrw k hk;have hlen:=J2 k;have G':=(MZ lT hsx).len;have nC:lI (fA R tags) nr q Q (k+1)=((qc nr (lI (fA R tags) nr q Q k).1 ((fA R tags).d q k)).1,(lI (fA R tags) nr q Q k).2++[(qc nr (lI (fA R tags) nr q Q k).1 ((fA R tags).d q k)).2]):=rfl;rw[hx]at nC hsx G';clear hx hst hrw afT J2 hd Rq NE;generalize r[k]=x at*;generalize lI (fA R tags) nr q Q k=RQ at*;obtain⟨Qk,vk⟩:=RQ;dsimp only at lT hlen G' nC⊢;subst hlen;unfold St at hsx;rw[en]at hsx
    by_cases c3:val nr x=0
    ·have e:qc nr Qk x=(Qk,-1):=by unfold qc;rw[if_pos c3]
     rw[e]at nC;have aao:∀(S:List b9),S=[aP g1 (ja (ap (aj ⟨b,off,ak⟩) R.length cr) (ap (aj ⟨bb,mK,ak⟩) tags.length ct)).cells 186,aP g2 (ja (ap ak 0 0) (ap ak 0 0)).cells 186,fv 3 l6 g5 R.length λi=>(nr i:Int),fv 3 l6 g6 (R.length+1) (wF nr Qk),aP g7 (ja vR vT).cells 186,aZ 257 256 vR out.length (out.flatMap eU),aZ 3 1 vT n (((Q.take n).map (fA R tags).tag).flatMap cK.dQ),aP g10 (eU (BI vk)).toArray 257,aZ 3 1 vK Qk.length (Qk.map λq:Nat=>l6 q)]->S=[aP g1 (ja (ap (aj ⟨b,off,ak⟩) R.length cr) (ap (aj ⟨bb,mK,ak⟩) tags.length ct)).cells 186,aP g2 (ja (ap ak 0 0) (ap ak 0 0)).cells 186,fv 3 l6 g5 R.length λi=>(nr i:Int),fv 3 l6 g6 (R.length+1) (wF nr (lI (fA R tags) nr q Q (vk.length+1)).1),aP g7 (ja vR vT).cells 186,aZ 257 256 vR out.length (out.flatMap eU),aZ 3 1 vT n (((Q.take n).map (fA R tags).tag).flatMap cK.dQ),aP g10 (eU (BI (lI (fA R tags) nr q Q (vk.length+1)).2)).toArray 257,aZ 3 1 vK (lI (fA R tags) nr q Q (vk.length+1)).1.length ((lI (fA R tags) nr q Q (vk.length+1)).1.map λq:Nat=>l6 q)]:=λS h=>by
      rw[nC];dsimp only;rw[VX vk c2];exact h
     by_cases c4:x<0
     ·repeat(first|refine GA ?_|refine gV (jN bM.eq aK.ty I I c2 hcell) ?_)
      exact jH (vk.length+1,vK) (by show vk.length+1<=256;omega) (by show 256-(vk.length+1)<256-vk.length;omega) (by repeat' (first|exact cT|refine cJ I ?_)) (aao _ I)
     obtain⟨m,rfl⟩:∃m:Nat,x=m:=⟨x.toNat,by omega⟩;have hm:m<R.length:=by omega
     rw[Am]at c3
     repeat(first|refine GC ?_|refine gV (jN bM.eq aK.ty I I c2 hcell) ?_|refine gV (bU (j:=m) bM.eq aK.ty I I hm) ?_|refine gV (aB aK.ty I (gI (i:=2) I hm)) ?_|refine gV (cZ (b:=aC) I I (decide_eq_true J)) ?_|refine GB ?_)
     exact jH (vk.length+1,vK) (by show vk.length+1<=256;omega) (by show 256-(vk.length+1)<256-vk.length;omega) (by repeat' (first|exact cT|refine cJ I ?_)) (aao _ I)
    have c4:¬x<0:=λe=>c3 (by unfold val;rw[if_pos e]);obtain⟨m,rfl⟩:∃m:Nat,x=m:=⟨x.toNat,by omega⟩;have hm:m<R.length:=by omega
    rw[Am]at c3;have hbm:=aje m hm;rw[en]at hbm;have e:qc nr Qk (m:Int)=(Fb nr Qk (m:Int),(idx ((Fb nr Qk (m:Int)).map nr) (nr m):Int)):=by unfold qc;rw[Am,if_neg c3,dF]
    rw[e]at nC G';dsimp only at G' nC;rw[en]at G';unfold Fb at nC G';rw[dF]at nC G'
    by_cases c5:nr m∈Qk.map nr
    ·rw[if_pos c5]at nC G'
     have hid:=pH c5;rw[dA]at hid;have aap:wF nr Qk (nr m)=(idx (Qk.map nr) (nr m):Int)+1:=by unfold wF;rw[if_pos c5]
     generalize idx (Qk.map nr) (nr m)=z at*
     repeat(first|refine GC ?_|refine gV (jN bM.eq aK.ty I I c2 hcell) ?_|refine gV (bU (j:=m) bM.eq aK.ty I I hm) ?_|refine gV (aB aK.ty I (gI (i:=2) I hm)) ?_|refine gV (cZ (b:=aE) I I (decide_eq_false J)) ?_|refine gV (bU (j:=nr m) bM.eq aK.ty I I J) ?_|refine gV (aB aK.ty I (gI (i:=3) I (show nr m<R.length+1 by omega))) ?_|refine gV (eL (r:=(z:Int)) I I J J J) ?_|refine gV (jo bM.eq bM.eq I (Rh J J)) ?_|refine gV (iz bM.eq aK.ty I I c2) ?_|refine GB ?_)
     refine sk (i:=7) I I I c2 ?_;rw[FL vk z c2];refine zL ?_
     try refine GA ?_
     exact bT (vk.length+1,vK) (by show vk.length+1<=256;omega) (by show 256-(vk.length+1)<256-vk.length;omega) (hl:=by dsimp only;rw[nC])
    rw[if_neg c5]at nC G';have aap:wF nr Qk (nr m)=0:=by unfold wF;rw[if_neg c5]
    have GU:=aaj (q:=m) c5;have ahG:wF nr (Qk++[m]) (nr m)=(Qk.length:Int)+1:=by rw[GU,if_pos I]
    have afr:idx ((Qk++[m]).map nr) (nr m)=Qk.length:=by
     have h1:=ahG;unfold wF at h1;rw[if_pos (by simp)]at h1;omega
    rw[afr]at nC;rw[bI,nM]at G'
    repeat(first|refine GC ?_|refine gV (jN bM.eq aK.ty I I c2 hcell) ?_|refine gV (bU (j:=m) bM.eq aK.ty I I hm) ?_|refine gV (aB aK.ty I (gI (i:=2) I hm)) ?_|refine gV (cZ (b:=aE) I I (decide_eq_false (show ¬(nr m:Int)=0 by omega))) ?_|refine gV (bU (j:=nr m) bM.eq aK.ty I I J) ?_|refine gV (aB aK.ty I (gI (i:=3) I (show nr m<R.length+1 by omega))) ?_|refine gV (cZ (b:=aC) I I (decide_eq_true aap)) ?_|refine gV (jo bM.eq bM.eq I (n0 J J)) ?_|refine GB ?_)
    refine ku (i:=8) I I I I I I (λz h=>by cases h;rfl) J J I λz v2=>?_;refine zL ?_
    repeat(first|refine GC ?_|refine gV (bU (j:=m) bM.eq aK.ty I I hm) ?_|refine gV (aB aK.ty I (gI (i:=2) I hm)) ?_|refine gV (bU (j:=nr m) bM.eq aK.ty I I J) ?_|refine gV (fg (i:=8) bM.eq I I) ?_|refine GB ?_)
    refine jl (i:=3) (off:=nr m) (v:=((Qk.length+1:Nat):Int)) (wF nr (Qk++[m])) aK.ty I I I I I J (λj hj=>by rw[GU];rfl) ?_;refine zL ?_
    repeat(first|refine GC ?_|refine gV (bU (j:=m) bM.eq aK.ty I I hm) ?_|refine gV (aB aK.ty I (gI (i:=2) I hm)) ?_|refine gV (bU (j:=nr m) bM.eq aK.ty I I J) ?_|refine gV (aB aK.ty I (gI (i:=3) I (show nr m<R.length+1 by omega))) ?_|refine gV (eL (r:=(Qk.length:Int)) I I J J J) ?_|refine gV (jo bM.eq bM.eq I (Rh J J)) ?_|refine gV (iz bM.eq aK.ty I I c2) ?_|refine GB ?_)
    refine sk (i:=7) I I I c2 ?_;rw[FL vk (Qk.length:Int) c2];refine zL ?_
    try refine GA ?_
    exact bT (vk.length+1,v2) (by show vk.length+1<=256;omega) (by show 256-(vk.length+1)<256-vk.length;omega) (hl:=by dsimp only;rw[nC];simp)
   obtain rfl:k=256:=by omega
   have lT:=(hrw 256 (bz _)).len;obtain⟨E,hE⟩:=afT 256;have hv:=J2 256;clear hrw afT J2 hst hd Rq;generalize lI (fA R tags) nr q Q 256=RQ at*;obtain⟨Qe,ve⟩:=RQ;dsimp only at lT hE hv uk⊢;subst hE;rw[aal hv];rw[en]at lT;have hqe:((Q++E).map λq:Nat=>l6 q)[0+n]?=aj (l6 q):=by
    rw[cX,fe,List.getElem?_append_left c1,bK c1,<-hQn];rfl
   have pq:(((Q++E).take (n+1)).map (fA R tags).tag).flatMap cK.dQ=((Q.take n).map (fA R tags).tag).flatMap cK.dQ++[l6 tags[q]]:=by
    rw[List.take_append_of_le_length J,gX c1,<-hQn,e7,fV,Fv,List.flatMap_singleton,htg];rfl
   rw[bI]at lT;have ahH:n<(Q++E).length:=by rw[bI];omega
   repeat(first|refine GA ?_|refine gV (aB aK.ty I (aH (i:=4) I I)) ?_|refine gV (aO (i:=7) aK.ty I I (by rw[ey,dz])) ?_)
   refine jO (i:=5) I I (by rw[ey,dz]) I (by simpa using sj (vec ve)) I I (λz h=>by cases h;rfl) J J I λz v2=>?_;refine zL ?_
   try refine GA ?_
   refine aW (i:=5) I λpf mY=>?_;refine bV (i:=4) I I I pf mY I ?_;refine zL ?_
   try refine GA ?_
   refine yw (i:=8) I J λgQ' cQ' JA aj8 ajE=>?_;subst JA
   (repeat refine bW ?_)
   refine dT ([aP g1 (ja (ap (aj ⟨b,off,ak⟩) R.length cr) (ap (aj ⟨bb,mK,ak⟩) tags.length ct)).cells 186,aZ 3 1 (ap (aj ⟨gQ',0,ak⟩) (Q++E).length cQ') (Q++E).length ((Q++E).map λq:Nat=>l6 q)]) (.calm 0 (.calm 2 (.calm 3 (.calm 4 (.calm 5 (.calm 6 (.calm 7 (.calm 8 (.calm 9 (.two 1 (.one 10 (.one 11 (.calm 12 (.one 13 (.done))))) 10 (.one 1 (.one 11 (.calm 12 (.one 13 (.done))))))))))))))) (bX [0,8]) ?_
   repeat(first|refine GW ?_|(refine GN ?_;first|refine QW (aB aK.ty I (aH (i:=0) I I)) ?_|refine QW (bU (j:=n) bM.eq aK.ty I I ahH) ?_|refine QW (aB aK.ty I (jh (i:=1) I hqe)) ?_|refine QW (aY (j:=q) bM.eq aK.ty I I Kz) ?_|refine QW (aB aK.ty I (NE _)) ?_))
   refine eK I I ?_ ?_
   ·refine dx (aB aK.ty I (aH (i:=4) I I)) I I I (aM (bX [0,8]) ?_)
    refine aL I (fN I I I I I λajg=>aM (bX [0,8]) ?_);refine aL I (l8 (i:=6) (q:=9) I I I I I I J J I λv3=>aM (bX [0,8]) ?_)
    try refine GW ?_
    refine aL I (aW (i:=6) I λzw C_=>bV (i:=4) I I I zw C_ I (aM (bX [0,8]) ?_))
    try refine GW ?_
    try refine GA ?_
    refine dm [0,1,2,3,4,8,5,6] ?_;exact bT (f',n+1,Q++E,out++[vec ve],ap (aj ⟨gQ',0,ak⟩) (Q++E).length cQ',v2,v3) uk (mC f') (hl:=by dsimp only;rw[pq];simp;rfl)
   refine fN I I I I I λajg=>aM (bX [0,8]) ?_;refine aL I (dx (aB aK.ty I (aH (i:=4) I I)) I I I (aM (bX [0,8]) ?_));refine aL I (l8 (i:=6) (q:=9) I I I I I I J J I λv3=>aM (bX [0,8]) ?_)
   try refine GW ?_
   refine aL I (aW (i:=6) I λzw C_=>bV (i:=4) I I I zw C_ I (aM (bX [0,8]) ?_))
   try refine GW ?_
   try refine GA ?_
   refine dm [0,1,2,3,4,8,5,6] ?_;exact bT (f',n+1,Q++E,out++[vec ve],ap (aj ⟨gQ',0,ak⟩) (Q++E).length cQ',v2,v3) uk (mC f') (hl:=by dsimp only;rw[pq];simp;rfl)
  obtain⟨e,rfl⟩:=jX _ _ _ _ hw c1;rw[e]
  repeat(first|refine GC ?_|refine gV (fg (i:=5) bM.eq I I) ?_|refine gV (aO (i:=4) aK.ty I I I) ?_|refine GB ?_)
  refine aW (i:=6) I λpf mY=>?_;refine aW (i:=7) I λzw C_=>?_;refine aX (i:=1) (cs':=(ja vR vT).cells) I I I I (by show([vR,vT].all eY)=aC;simp[mY,C_]) I ?_;refine zL ?_
  try refine GA ?_
  refine eJ (i:=1) I I I I I λw hm=>?_;exact hm.meets (S:=⟨λ(_:Value×Value)=>True,λx=> .tuple #[ja x.1 x.2,av az 0],λx=>[aZ 257 256 x.1 out.length (out.flatMap eU),aZ 3 1 x.2 (Q.map (fA R tags).tag).length ((Q.map (fA R tags).tag).flatMap cK.dQ)]⟩) (vR,vT) trivial [6,7] akh (by simp)
 ·have er:Au R tags=[]:=if_neg hc
  have et:Av R tags=[]:=if_neg hc;unfold adg;rw[er,et];generalize mw R tags=e at*;refine enter (args:=[ja (ap br R.length cr) (ap bt tags.length ct)]) (n:=113) Tryz.func78 I I I ?_;refine bW (bB (bP I I I λg1=>?_));refine a8 I λg2=>?_;refine zL ?_
  repeat(first|refine GA ?_|refine gV (aO (i:=0) aK.ty I I I) ?_)
  refine aV (i_ aI.en I I) (λw hm=>jw _ hm.below) I I I ?_;intro _ _
  repeat(first|refine GC ?_|refine gV (bD I Rp) ?_|refine gV (dl (b:=aC) I I (decide_eq_true hc)) ?_|refine GB ?_)
  refine ij 1 ?_;refine zL ?_
  try refine GA ?_
  refine dN 257 256 (dN 3 1 ?_);refine eJ (i:=1) I I I I I λw hm=>?_;exact hm.meets (S:=⟨λ(_:Value×Value)=>True,λx=> .tuple #[ja x.1 x.2,av az e],λx=>[aZ 257 256 x.1 0 [],aZ 3 1 x.2 0 []]⟩) (ap ak 0 0,ap ak 0 0) trivial [2,3] akh I
end bZ
namespace bZ
open Go.RowKit cK dS zN cD
theorem TQ{R:List Row}{tags:List Int}(h:mw R tags=0):(∀r∈R,∀x∈r.toList,-32768<=x/\x<=32767)/\∀x∈tags,cK.dU x:=by
 obtain⟨hA,hl⟩:=wz h;have hle:R.length<=200:=hA.le;refine⟨λr hr x hx=>?_,λx hx=>?_⟩
 ·obtain⟨i,hi,rfl⟩:=iB.1 hr
  obtain⟨b,hb,rfl⟩:=iB.1 hx;have OJ:b<256:=by simpa using hb
  have:=hA.step i hi b OJ;rw[Ns hi OJ]at this;have e:(fA R tags).n=R.length:=rfl;rw[nj];omega
 obtain⟨i,hi,rfl⟩:=iB.1 hx;have:=hA.tags i (by show i<R.length;omega);rw[Aq hi]at this;exact⟨by omega,by omega⟩
theorem Mem.ahI{B:bL}{w:World}{L:List b9}{i j:Nat}{vr vt:Value}{R:List Row}{tags:List Int}(hm:Mem B L w)(hi:L[i]?=aj (aZ 257 256 vr R.length (R.flatMap eU)))(hj:L[j]?=aj (aZ 3 1 vt tags.length (tags.flatMap cK.dQ)))(hc:mw R tags=0):G8 w vr vt R tags:=
 ⟨lm hi _ hm,lm hj _ hm,(TQ hc).1,(TQ hc).2⟩
end bZ
namespace bZ
open Go.RowKit cK dS zN cD
section
end
theorem aaq{k:Nat}(h:k<256):JD.wrap (k:Int)=(k:Int):=by
 rw[JC];omega
end bZ
namespace bZ
open Go.RowKit cK dS aU f_
def ahJ(n:Nat)(l:List aU.Prod):Prop:=∀p∈l,0<=p.1/\p.1<(n:Int)/\∀x∈p.2,cK.dU x.2
end bZ
namespace bZ
open Go.RowKit cK dS aU f_
theorem aar{g:ep}{n:Nat}(h:cz g=0)(hn:g.bC=n):ahJ n g.aF/\YS n g.aF:=by
 obtain⟨a1,a2,a3,a4,a5,a6⟩:=cV h;refine⟨λp hp=>?_,λp hp x hx h2=>?_⟩
 ·obtain⟨b1,b2,b3,b4⟩:=a6 p hp
  refine⟨b2,by omega,λx hx=>?_⟩;have:=b4 x hx;unfold right at this;split at this;simp at this;exact⟨by omega,by omega⟩;split at this;simp at this;exact⟨by omega,by omega⟩;simp at this
 have:=(a6 p hp).2.2.2 x hx;unfold right at this;rw[if_neg J,if_pos h2]at this;simp at this;omega
end bZ
namespace bZ
open Go.RowKit cK dS aU dL f_ dP yJ CL
attribute [local irreducible] Op.shift Go.bits in
theorem VZ(t:Nat)(n:Int)(vp:Value)(col:Nat)(w:World)(ht:t<=30)(hc:col<=t)(hv:∃b m c,vp=ap b m c):
 Calls aD 85 #[dM (t:Int) n vp,av az (col:Int)] w (bY (ret (ik (P' t col))) w):=by
 obtain⟨b,m,c,rfl⟩:=hv;have Yd:=λw=>aci (P:=aD) col J w;unfold P';refine enter (args:=[dM (t:Int) n (ap b m c),av az (col:Int)]) (n:=11) Tryz.func85 I I I ?_;refine bW (bB (bP I I I λg2=>?_))
 by_cases e:col=t
 ·rw[if_pos e]
  repeat(first|refine GA ?_|refine gV (aB aK.ty I (aH (i:=0) I I)) ?_)
  exact eH
 ·rw[if_neg e]
  repeat(first|refine GA ?_|refine gV (aB aK.ty I (aH (i:=0) I I)) ?_|refine gV (DW I I Yd) ?_)
  exact eH
def clC(x:Cl):List Value:=[av az x.1,av az x.2.1,av az x.2.2.1,av az x.2.2.2]
theorem aas(a b c d:Int)(w:World):(df 200 #[(0,av az a),(1,av az b),(2,av az c),(3,av az d)]).run aD w= .ok (aQ (clC (a,b,c,d)).toArray) w:=by
 unfold clC;go_simp
abbrev wH(v:Value):Value:=v
def afU(n:Int):Value:=av az n
def CU(T n c j:Nat):Nat:=if j<n then T+1 else if j=n then c else 0
def mL(l:List aU.Prod)(may:Nat->Nat)(T:Nat)(vs:Nat->Value)(n c:Nat)(j:Nat):b9:=aZ 3 1 (vs j) (CU T n c j) ((jp (CU T n c j) (CL.rowAt l may T j)).map afU)
def aat(N T:Nat)(l:List aU.Prod)(may:Nat->Nat):Spec (Nat×(Nat->Value)×Value):=
 ⟨λ_=>True,λx=> .tuple #[ap (aj ⟨x.1,0,ak⟩) N N,x.2.2,av az 0],λx=>[fv 26 wH x.1 N x.2.1,jB (λj=>j<N) (mL l may T x.2.1 N 0),aZ 200 4 x.2.2 (nb l may T N).length ((nb l may T N).flatMap clC)]⟩
def y9(n:Nat)(l:List aU.Prod)(i:Nat):Nat:=gC (xw n l).E (OQ n l) (dc l (i:Int)).2 ((OR n l).getD (dc l (i:Int)).1.toNat 0)
section
variable{l:List aU.Prod}{may:Nat->Nat}{T:Nat}
theorem FM(n col:Nat):∀(k:Nat) (out:List Cl),(yL l may T n col k out).length<=out.length+k
 |0,out=>by rw[yL];omega
 | k +1,out=>by
  have:=FM n col k out;rw[yL];split
  ·split
   omega;rw[bI];simp;omega
  omega
theorem FP(n:Nat):∀(c:Nat) (out:List Cl),(CM l may T n c out).length<=out.length+c*l.length
 |0,out=>by rw[CM];omega
 |c+1,out=>by
  have h1:=FP n c out;have h2:=FM (l:=l) (may:=may) (T:=T) n c l.length (CM l may T n c out);rw[CM,ml];omega
theorem NF:∀(N:Nat),(nb l may T N).length<=N*((T+1)*l.length)
 |0=>by rw[nb];simp
 |N+1=>by
  have h1:=NF N;have h2:=FP (l:=l) (may:=may) (T:=T) N (T+1) (nb l may T N);rw[nb,ml];omega
end
theorem aau{g:ep}{n:Nat}(jw:cz g=0)(hn:g.bC=n):AN n (OR n g.aF):=by
 obtain⟨_,_,a3,_⟩:=cV jw;have hf:=zX jw hn;have hF:=(JV jw hn).2;have tW:=YX (E:=(xw n g.aF).E) hF hf;obtain⟨s',h1,h2,h3⟩:=zW tW _ ((cL n 0).set 0 9223372036854775808) ⟨by simp,λx hx=>by
  rcases List.mem_or_eq_of_mem_set hx with h|h
  rw[List.eq_of_mem_replicate h];decide;rw[h];decide⟩ (bz _)
 obtain⟨_,h4,h5⟩:=B9 _ _ _ h2;have h6:OR n g.aF=s':=by unfold OR xH;rw[h3];exact h4
 rw[h6];exact h1
attribute [local irreducible] Op.shift Go.bits Instr.build in
set_option maxRecDepth 100000 in
theorem KA(v:Value)(g:ep)(w:World)(h:kK (λk=>k<w.heap.size) w v g)(hg:cz g=0)(T N:Nat)(hT:g.aT=T)(hN:g.bC=N):
    Calls aD 44 #[v] w (bY (aat N T g.aF (y9 N g.aF)) w):=by
  obtain⟨a1,a2,a3,a4,a5,a6⟩:=cV hg;have Vc:=λw' (uf:Gr w w')=>ES v g w' (h.gr uf) hg N hN;have hbe:∀body:List dr,body∈g.aF.map (·.2)->vP g body=0/\∀b,CO g body b=gC (xw N g.aF).E (OQ N g.aF) body b:=λbody hb=>by
    obtain⟨p,hp,rfl⟩:=eT.1 hb;obtain⟨b1,b2,b3,b4⟩:=a6 p hp;have e:vP g p.2=0:=by
      unfold vP;rw[if_neg (by simpa using hg),if_neg J];exact JU b4
    refine⟨e,λb=>?_⟩;unfold CO;rw[if_pos e,show g.bC.toNat=N by omega]
  have hBg:=λvb body b w' (hg:Gr w w') hs=>sb v vb g body b w' (h.gr hg) hs;obtain⟨_,hF⟩:=JV hg hN;have hWW:=aau hg hN;have WG:=aar hg hN;have MP:y9 N g.aF=λi:Nat=>gC (xw N g.aF).E (OQ N g.aF) (dc g.aF (i:Int)).2 ((OR N g.aF).getD (dc g.aF (i:Int)).1.toNat 0):=rfl;have ajh:∀i,y9 N g.aF i<18446744073709551616:=λi=>by
    refine pj hF (o9 hWW _) λx hx h1=>?_
    by_cases c:i<g.aF.length
    · rw[yH c]at hx
      have:=(a6 _ (b_ c)).2.2.2 x hx;unfold right at this;rw[if_pos h1]at this;simp at this;omega
    unfold dc at hx;rw[dF,cB,k7 J]at hx
    cases hx
  generalize sU:y9 N g.aF=may at*;obtain⟨vp,rfl,h1,_⟩:=h;obtain⟨t,nn,aF⟩:=g;dsimp only at*;subst hT hN;have LA:=h1;obtain⟨bp,cp,rfl,JN,GI,oT⟩:=h1;unfold maxLen at GI;refine enter (args:=[dM (T:Int) (N:Int) (ap bp aF.length cp)]) (n:=119) Tryz.func44 I I I ?_;refine bW (bB (bP I I I λg1=>?_));refine zL ?_
  repeat(first|refine GA ?_|refine gV (aO (i:=0) aK.ty I I I) ?_)
  refine aV (i_ aI.en I I) (λw' hm=>(Vc w' hm.below).mono λe w2 h=>EU h) I I I ?_;intro x _
  conv=>arg 8;simp only[zJ,cI,ret,id_eq,ER.val]
  refine zv [0,3] ?_
  try refine GA ?_
  refine a8 I λg5=>?_;refine ij 2 ?_;refine zL ?_
  repeat(first|refine GA ?_|refine gV (aB aK.ty I (aH (i:=0) I I)) ?_)
  have hz:eQ aD 114 #[ik 0]:=(inferInstance:eQ aD 114 #[.int .u64 0]);refine pO ik 0 I I J J I λg7=>?_;refine zL ?_
  repeat(first|refine GA ?_|refine gV (aB aK.ty I (aH (i:=0) I I)) ?_)
  refine mq (ι:=Nat) (λk=>k<=aF.length) (λk=>[(1,aJ (aj ⟨g1,0,ak⟩)),(5,aJ (aj ⟨g5,0,ak⟩)),(7,ap (aj ⟨g7,0,ak⟩) aF.length aF.length),(30,ap bp aF.length cp),(31,av az aF.length),(32,av az (k:Int))])
    (λk=>[aP g1 (dM (T:Int) (N:Int) (ap bp aF.length cp)).cells 33,iT N x.gW x.cW (OR N aF),aP g5 (mR (dw N x.gE x.cE) (dw N x.gF x.cF) (dw N x.gW x.cW) (dw N x.gR x.cR) (dw N x.gM x.cM)).cells 104,fv 114 ik g7 aF.length (λj=>if j<k then may j else 0)]) (λk=>aF.length-k) 0 (bH _) (by repeat' (first|exact cT|refine cJ I ?_)) (by rw[show(λj=>if j<0 then may j else 0)=λ_=>0 from funext λj=>if_neg J];rfl) ?_
  intro k k1
  by_cases c7:k<aF.length
  · obtain⟨b,off,rfl,_,hr⟩:=oT J
    obtain⟨bb,cb,y1,y2,y3⟩:=ma hr c7;have dy:∀(L:List b9) (j:Nat) (v:Value),([av az aF[k].1,.slice bb aF[k].2.length cb]:List Value)[j]?=aj v->At w L ⟨b,off+k*2+j,ak⟩ v:=λL j v hj=>kJ (y1 j v hj);have tW:=y3.flat akh;obtain⟨b1,b2,b3,b4⟩:=a6 _ (b_ c7);obtain⟨GY,OO⟩:=hbe aF[k].2 (eT.2 ⟨_,b_ c7,rfl⟩);have L6:may k=gC (xw N aF).E (OQ N aF) aF[k].2 ((OR N aF).getD aF[k].1.toNat 0):=by rw[MP];dsimp only;rw[yH c7]
    clear y1 y3 hr hbe oT;generalize aF[k]=pd at*;obtain⟨hd,body⟩:=pd;dsimp only at*;obtain⟨hn,rfl⟩:∃hn:Nat,hd=hn:=⟨hd.toNat,by omega⟩;have hlt:hn<N:=by omega
    rw[dF]at L6;have aji:((OR N aF).map ik)[0+hn]?=aj (ik ((OR N aF).getD hn 0)):=by rw[cX];exact JR (by rw[hWW.1];exact hlt)
    have ajj:=o9 hWW hn;have hBg:=λw' hg hs=>hBg (ap bb body.length cb) body ((OR N aF).getD hn 0) w' hg hs ajj;rw[GY,OO,<-L6]at hBg;generalize (OR N aF).getD hn 0=wv at*
    repeat(first|refine GA ?_|refine gV (aY bM.eq aK.ty I I c7) ?_|refine gV (bm aK.ty I I (dy _)) ?_)
    refine a8 I λg9=>?_
    try refine GA ?_
    refine ij 4 ?_;refine zL ?_
    try refine GA ?_
    refine dT ([aP g1 (dM (T:Int) (N:Int) (ap (aj ⟨b,off,ak⟩) aF.length cp)).cells 33,iT N x.gW x.cW (OR N aF),aP g5 (mR (dw N x.gE x.cE) (dw N x.gF x.cF) (dw N x.gW x.cW) (dw N x.gR x.cR) (dw N x.gM x.cM)).cells 104,aP g9 #[av az (hn:Int),ap bb body.length cb] 140]) (.calm 0 (.calm 1 (.calm 2 (.calm 3 (.calm 4 (.calm 5 (.calm 6 (.calm 7 (.calm 8 (.calm 9 (.calm 10 (.calm 11 (.calm 12 (.calm 13 (.calm 14 (.calm 15 (.one 16 (.done)))))))))))))))))) (bX [0,1,2,4]) ?_
    repeat(first|refine GW ?_|(refine GN ?_;first|refine QW (aO (i:=0) aK.ty I I I) ?_|refine QW (aB aK.ty I (aH (i:=3) I I)) ?_|refine QW (aB aK.ty I (aH (i:=2) I I)) ?_|refine QW (bU bM.eq aK.ty I I hlt) ?_|refine QW (aB aK.ty I (jh (i:=1) I aji)) ?_))
    refine oW I (sV aI.en I I I I) (λw hm=>hBg _ hm.below (tW.gr hm.below)) I I I ?_
    repeat(first|refine GW ?_|(refine GN ?_;first|refine QW (bU bM.eq aK.ty I I c7) ?_))
    refine aL I ?_;refine jl (i:=3) (v:=may k) (λj=>if j<k+1 then may j else 0) aK.ty I I I I I c7 (λj _=>by
      by_cases e:j=k
      subst e;simp
      by_cases e2:j<k
      simp[e,e2,show j<k+1 by omega];simp[e,e2,show ¬j<k+1 by omega]) ?_
    refine zL ?_;refine aM (bX [0,1,2,4]) ?_
    try refine GW ?_
    try refine GA ?_
    refine dm [0,1,2,3] ?_;exact bT (k+1) J J
  · obtain rfl:k=aF.length:=by omega
    rw[show fv 114 ik g7 aF.length (λj=>if j<aF.length then may j else 0)=fv 114 ik g7 aF.length may from pN λj hj=>if_pos hj];clear hBg hbe Vc MP
    repeat(first|refine GA ?_|refine gV (aB aK.ty I (aH (i:=0) I I)) ?_)
    refine pO wH (ap ak 0 0) I I J J I λg10=>?_;refine zL ?_
    try refine GA ?_
    refine rb [0,3,4] ?_;refine m_ (jB (λj=>j<N) (mL aF may T (λ_=>ap ak 0 0) 0 0)) (λk hk=>hk.elim (λh=>by cases h) λ⟨i,hi,h⟩=>h.elim (λh=>by cases h) id) (λw=>⟨λi hi=>?_,λi j _ _ _ k h=>h.elim (λh=>by cases h) oE⟩) ?_
    · unfold mL CU
      rw[if_neg J,ite_self];exact Z4 _ _ _ _
    refine jd 200 4 ?_;refine d_ (ι:=Nat×(Nat->Value)×Value) (λ(n,_,_)=>n<=N) (λ(n,_,vo)=>[(1,aJ (aj ⟨g1,0,ak⟩)),(7,ap (aj ⟨g7,0,ak⟩) aF.length aF.length),(10,ap (aj ⟨g10,0,ak⟩) N N),(11,vo),(58,av az (N:Int)),(59,av az (n:Int))])
      (λ(n,vs,vo)=>[aP g1 (dM (T:Int) (N:Int) (ap bp aF.length cp)).cells 33,fv 114 ik g7 aF.length may,fv 26 wH g10 N vs,jB (λj=>j<N) (mL aF may T vs n 0),aZ 200 4 vo (nb aF may T n).length ((nb aF may T n).flatMap clC)]) (λ(n,_,_)=>N-n) (0,λ_=>ap ak 0 0,ap ak 0 0) (bH _) ?_
    rintro⟨n,vs,vo⟩ n1;dsimp only at n1⊢
    by_cases c8:n<N
    · repeat(first|refine GC ?_|refine gV (aB aK.ty I (aH (i:=0) I I)) ?_|refine gV (dW (r:=((T+1:Nat):Int)) I I J J J) ?_|refine GB ?_)
      refine d_ (ι:=Nat×(Nat->Value)×Value) (λ(c,_,_)=>c<=T+1) (λ(c,_,vo)=>[(1,aJ (aj ⟨g1,0,ak⟩)),(7,ap (aj ⟨g7,0,ak⟩) aF.length aF.length),(10,ap (aj ⟨g10,0,ak⟩) N N),(11,vo),(12,av az (n:Int)),(58,av az (N:Int)),(59,av az (n:Int)),(64,av az ((T+1:Nat):Int)),(65,av az (c:Int))])
        (λ(c,vs,vo)=>[aP g1 (dM (T:Int) (N:Int) (ap bp aF.length cp)).cells 33,fv 114 ik g7 aF.length may,fv 26 wH g10 N vs,jB (λj=>j<N) (mL aF may T vs n c),aZ 200 4 vo (CM aF may T n c (nb aF may T n)).length ((CM aF may T n c (nb aF may T n)).flatMap clC)]) (λ(c,_,_)=>T+1-c) (0,vs,vo) (bH _) ?_
      rintro⟨c,vs,vo⟩ cc;dsimp only at cc⊢
      by_cases c9:c<T+1
      · have ajF:=FP (l:=aF) (may:=may) (T:=T) n c (nb aF may T n)
        have ajG:=NF (l:=aF) (may:=may) (T:=T) n;have hm1:c*aF.length<=31*40:=Fw J a5;have XD:(T+1)*aF.length<=31*40:=Fw J a5;have hm3:n*((T+1)*aF.length)<=20*(31*40):=Fw J XD;have ajk:nb aF may T (n+1)=CM aF may T n (T+1) (nb aF may T n):=rfl;have ahK:CM aF may T n (c+1) (nb aF may T n)=yL aF may T n c aF.length (CM aF may T n c (nb aF may T n)):=rfl;have hbc:P' T c<18446744073709551616:=by
          unfold P';split
          decide
          exact Nat.lt_of_le_of_lt (Nat.pow_le_pow_right akh (show c<=30 by omega)) akh
        have acW:=λw=>VZ T (N:Int) (ap bp aF.length cp) c w J J ⟨_,_,_,rfl⟩;generalize CM aF may T n c (nb aF may T n)=wx at*
        repeat(first|refine GA ?_|refine gV (aB aK.ty I (aH (i:=0) I I)) ?_)
        refine d_ (ι:=Nat×Value) (λ(k,_)=>k<=aF.length) (λ(k,vo)=>[(1,aJ (aj ⟨g1,0,ak⟩)),(7,ap (aj ⟨g7,0,ak⟩) aF.length aF.length),(10,ap (aj ⟨g10,0,ak⟩) N N),(11,vo),(12,av az (n:Int)),(13,av az (c:Int)),(14,av az (iD aF may T n c k)),(58,av az (N:Int)),(59,av az (n:Int)),(64,av az ((T+1:Nat):Int)),(65,av az (c:Int)),(69,ap bp aF.length cp),(70,av az aF.length),(71,av az (k:Int))])
          (λ(k,vo)=>[aP g1 (dM (T:Int) (N:Int) (ap bp aF.length cp)).cells 33,fv 114 ik g7 aF.length may,fv 26 wH g10 N vs,jB (λj=>j<N) (mL aF may T vs n c),aZ 200 4 vo (yL aF may T n c k wx).length ((yL aF may T n c k wx).flatMap clC)]) (λ(k,_)=>aF.length-k) (0,vo) (bH _) ?_
        rintro⟨k,vo⟩ kk;dsimp only at kk⊢
        by_cases ck:k<aF.length
        · obtain⟨b,off,rfl,_,hr⟩:=oT J
          obtain⟨bb,cb,y1,y2,y3⟩:=ma hr ck;have dy:∀(L:List b9) (j:Nat) (v:Value),([av az aF[k].1,.slice bb aF[k].2.length cb]:List Value)[j]?=aj v->At w L ⟨b,off+k*2+j,ak⟩ v:=λL j v hj=>kJ (y1 j v hj);have hol:=FM (l:=aF) (may:=may) (T:=T) n c k wx;have hf:iD aF may T n c (k+1)=if iD aF may T n c k<0 then(if EP aF may T n c k=aC then(k:Int)else iD aF may T n c k)else iD aF may T n c k:=rfl
          have ho:yL aF may T n c (k+1) wx=if EP aF may T n c k=aC then(if iD aF may T n c k<0 then yL aF may T n c k wx else yL aF may T n c k wx++[((n:Int),(c:Int),iD aF may T n c k,(k:Int))])else yL aF may T n c k wx:=rfl
          have hcd:EP aF may T n c k=(decide (aF[k].1=(n:Int))&&!decide ((may k&&&P' T c)=0)):=by unfold EP;rw[yH ck]
          have hand:=Va (ajh k) hbc;have hfk:=vH (l:=aF) (may:=may) (T:=T) n c k;clear y1 y3 hr oT;generalize aF[k]=pd at*;obtain⟨hd,body⟩:=pd;dsimp only at*;generalize hzz:may k&&&P' T c=z at*;generalize iD aF may T n c k=fk at*;generalize yL aF may T n c k wx=ok at*
          repeat(first|refine GA ?_|refine gV (aY bM.eq aK.ty I I ck) ?_|refine gV (bm aK.ty I I (dy _)) ?_)
          refine a8 I λg16=>?_
          try refine GA ?_
          refine ij 5 ?_;refine zL ?_
          try refine GA ?_
          refine dT ([aP g1 (dM (T:Int) (N:Int) (ap (aj ⟨b,off,ak⟩) aF.length cp)).cells 33,fv 114 ik g7 aF.length may,aP g16 #[av az hd,ap bb body.length cb] 140]) (.calm 0 (.calm 1 (.calm 2 (.calm 3 (.calm 4 (.calm 5 (.calm 6 (.calm 7 (.calm 8 (.calm 9 (.calm 10 (.calm 11 (.calm 12 (.calm 13 (.calm 14 (.calm 15 (.done))))))))))))))))) (bX [0,1,5]) ?_
          by_cases e1:hd=(n:Int)
          · by_cases e2:z=0
            · rw[decide_eq_true e1,decide_eq_true e2]at hcd
              rw[hcd]at hf ho;simp only[Bool.not_true,Bool.and_false,nX,if_false,ite_self]at hf ho
              repeat(first|refine GW ?_|(refine GN ?_;first|refine QW (aB aK.ty I (aH (i:=2) I I)) ?_|refine QW (bU bM.eq aK.ty I I ck) ?_|refine QW (aB aK.ty I (gI (i:=1) I ck)) ?_|refine QW (aO (i:=0) aK.ty I I I) ?_))
              refine LO I (fB aI.en I I I) (λw hm=>acW _) I I I I I ?_
              repeat(first|refine GW ?_|(refine GN ?_;first|refine QW (nK I I hand) ?_))
              try refine GA ?_
              refine dm [0,1,2,3,4] ?_;exact jH (k+1,vo) (by show k+1<=aF.length;omega) (by show aF.length-(k+1)<aF.length-k;omega) (by dsimp only;rw[hf];repeat' (first|exact cT|refine cJ I ?_)) (by dsimp only;rw[ho];rfl)
            rw[decide_eq_true e1,decide_eq_false e2]at hcd;rw[hcd]at hf ho;simp only[Bool.not_false,Bool.and_true,if_true]at hf ho
            repeat(first|refine GW ?_|(refine GN ?_;first|refine QW (aB aK.ty I (aH (i:=2) I I)) ?_|refine QW (bU bM.eq aK.ty I I ck) ?_|refine QW (aB aK.ty I (gI (i:=1) I ck)) ?_|refine QW (aO (i:=0) aK.ty I I I) ?_))
            refine LO I (fB aI.en I I I) (λw hm=>acW _) I I I I I ?_
            repeat(first|refine GW ?_|(refine GN ?_;first|refine QW (nK I I hand) ?_))
            by_cases e3:fk<0
            · rw[if_pos e3]at hf ho
              try refine GA ?_
              refine dm [0,1,2,3,4] ?_;exact jH (k+1,vo) (by show k+1<=aF.length;omega) (by show aF.length-(k+1)<aF.length-k;omega) (by dsimp only;rw[hf];repeat' (first|exact cT|refine cJ I ?_)) (by dsimp only;rw[ho];rfl)
            rw[if_neg e3]at hf ho
            repeat(first|refine GA ?_|refine gV (bD I (aas _ _ _ _)) ?_)
            refine jO (i:=4) I I I I I I I (λz h=>by cases h;rfl) J J I λz' v2=>?_;refine zL ?_
            try refine GA ?_
            refine dm [0,1,2,3,4] ?_;exact jH (k+1,v2) (by show k+1<=aF.length;omega) (by show aF.length-(k+1)<aF.length-k;omega) (by dsimp only;rw[hf];repeat' (first|exact cT|refine cJ I ?_)) (by dsimp only;rw[ho,fV,bI];rfl)
          rw[decide_eq_false e1]at hcd;rw[hcd]at hf ho;simp only[Bool.false_and,nX,if_false,ite_self]at hf ho
          repeat(first|refine GW ?_|(refine GN ?_;first|refine QW (aB aK.ty I (aH (i:=2) I I)) ?_))
          try refine GA ?_
          refine dm [0,1,2,3,4] ?_;exact jH (k+1,vo) (by show k+1<=aF.length;omega) (by show aF.length-(k+1)<aF.length-k;omega) (by dsimp only;rw[hf];repeat' (first|exact cT|refine cJ I ?_)) (by dsimp only;rw[ho];rfl)
        obtain rfl:k=aF.length:=by omega
        rw[<-ahK];have hra:iD aF may T n c aF.length=CL.rowAt aF may T n c:=rfl;rw[hra];clear ahK ajk hra;have hcn:mL aF may T vs n c n=aZ 3 1 (vs n) c ((jp c (CL.rowAt aF may T n)).map afU):=by
          unfold mL CU;rw[if_neg (y6 n),if_pos I]
        repeat(first|refine GA ?_|refine gV (bU bM.eq aK.ty I I c8) ?_|refine gV (aB aK.ty I (gI (i:=2) I c8)) ?_)
        refine SU (q:=3) n I c8 ?_;rw[hcn];refine zL ?_;refine SE [av az (CL.rowAt aF may T n c)] I I I (by intro v hv;simp at hv;subst hv;rfl) I I λaj9=>?_;refine zL ?_;refine l8 (i:=5) (q:=6) I I I I I I J J I λv3=>?_;refine zL ?_;refine aW (i:=5) I λlD me=>?_
        repeat(first|refine GA ?_|refine gV (bU bM.eq aK.ty I I c8) ?_)
        refine jl (i:=2) (v:=v3) (λj=>if j=n then v3 else vs j) aK.ty I I I lD me c8 (λj _=>rfl) ?_;refine zL ?_;refine YK (D':=λj=>j<N) (f':=mL aF may T (λj=>if j=n then v3 else vs j) n (c+1)) n 3 5 [0,1,2,4] akh I I I (λh=>h.2 I) (λj hj=>by
          by_cases e:j=n
          exact .inr e;exact .inl ⟨hj,e⟩) (λj hj=>by
          by_cases e:j=n
          · subst e
            rw[Bk];unfold mL CU;rw[if_neg (y6 j),if_pos I];dsimp only;rw[if_pos I]
            congr 1
            unfold jp;rw[Bd,e7,e7];rfl
          rw[Bj e];have:CU T n (c+1) j=CU T n c j:=by unfold CU;rw[if_neg e,if_neg e]
          unfold mL;rw[this];dsimp only;rw[if_neg e]) ?_
        refine zL ?_;refine zv [0,1,2,4,3] ?_
        try refine GA ?_
        exact bT (c+1,λj=>if j=n then v3 else vs j,vo) (by show c+1<=T+1;omega) (by show T+1-(c+1)<T+1-c;omega)
      obtain rfl:c=T+1:=by omega
      have ajl:mL aF may T vs n (T+1)=mL aF may T vs (n+1) 0:=funext λj=>by
        have:CU T n (T+1) j=CU T (n+1) 0 j:=by
          unfold CU
          by_cases e:j<n
          rw[if_pos e,if_pos J];rw[if_neg e]
          by_cases e2:j=n
          rw[if_pos e2,if_pos J];rw[if_neg e2,if_neg J,ite_self]
        unfold mL;rw[this]
      try refine GA ?_
      exact bT (n+1,vs,vo) (by show n+1<=N;omega) (by show N-(n+1)<N-n;omega) (hl:=by rw[ajl];rfl)
    obtain rfl:n=N:=by omega
    try refine GA ?_
    exact mU I I I I λw hm=>hm.meets (S:=aat n T aF may) (g10,vs,vo) trivial [2,3,4] akh I
end bZ
namespace bZ
open Go.RowKit cK dS aU CL
def tH(l:List aU.Prod)(n:Nat):List Int->Int
 |[]=>0
 |p::r=>if p< -1 then 1 else if(l.length:Int)<=p then 1 else if 0<=p/\(l.getD p.toNat (0,[])).1≠(n:Int)then 1 else tH l n r
def qY(l:List aU.Prod)(t:Int):Nat->List (List Int)->Int
 |_,[]=>0
 |n,r::rs=>if(r.length:Int)≠t+1 then 1 else if tH l n r≠0 then 1 else qY l t (n+1) rs
def FQ(g:ep)(ll:List (List Int)):Int:=if cz g≠0 then cz g else if(ll.length:Int)≠g.bC then 1 else qY g.aF g.aT 0 ll
abbrev Aw(w:World)(v:Value)(ll:List (List Int)):Prop:=ky (bO fP) (λk=>k<w.heap.size) w v ll
theorem TR{F:Nat->Prop}{w:World}{b off:Nat}{ll:List (List Int)}(h:∀i (h:i<ll.length),∃cs,(bO fP).is F w cs ll[i]/\Rd w b (off+i*(bO fP).c) cs){k:Nat}(hk:k<ll.length):
 ∃vi,w.cell? ⟨b,off+k,ak⟩=aj vi/\Sl w vi ll[k].length (ll[k].map (.int .i64)):=by
 obtain⟨cs,⟨vi,rfl,h1⟩,hr⟩:=h k hk;refine⟨vi,?_,?_⟩
 ·have:=hr 0 vi I
  rwa [show(bO fP).c=1 from I,k_,iu]at this
 ·have:=h1.flat akh
  rw[show(ll[k].flatMap λn=>[av .i64 n])=ll[k].map (.int .i64)from by rw[Q'];induction ll[k]with
   |nil=>rfl
   |cons x r ih=>simp only[gv,DO,ih];rfl]at this
  exact this
set_option maxRecDepth 100000 in
theorem xP(v vr:Value)(g:ep)(ll:List (List Int))(w:World)(h:kK (λk=>k<w.heap.size) w v g)(hr:Aw w vr ll):
 Calls aD 90 #[v,vr] w (bY (ret (av az (FQ g ll))) w):=by
 have jw:=λw' (hg:Gr w w')=>kj v g w' (h.gr hg);obtain⟨vp,rfl,h1,_⟩:=h;obtain⟨br,cr,rfl,WD,ul,Ex⟩:=hr;unfold maxLen at ul;unfold FQ
 by_cases c0:cz g=0
 ·rw[if_neg (by simpa using c0)]
  obtain⟨a1,a2,a3,a4,a5,_⟩:=cV c0;rw[c0]at jw;obtain⟨t,nn,aF⟩:=g;dsimp only at*;obtain⟨bp,cp,rfl,JN,GI,oT⟩:=h1;unfold maxLen at GI;refine enter (args:=[dM t nn (ap bp aF.length cp),ap br ll.length cr]) (n:=64) Tryz.func90 I I I ?_;refine bW (bB (bP I I I λg2=>?_));refine zL ?_
  repeat(first|refine GA ?_|refine gV (aO (i:=0) aK.ty I I I) ?_)
  refine aV (i_ aI.en I I) (λw hm=>jw _ hm.below) I I I ?_;intro _ _;refine zL ?_
  by_cases c1:(ll.length:Int)=nn
  ·rw[if_neg (by simpa using c1)]
   repeat(first|refine GA ?_|refine gV (aB aK.ty I (aH (i:=0) I I)) ?_)
   generalize mO:qY aF t 0 ll=res;refine d_ (ι:=Nat) (λn=>n<=ll.length/\res=qY aF t n (ll.drop n)) (λn=>[(2,aJ (aj ⟨g2,0,ak⟩)),(20,ap br ll.length cr),(21,av az ll.length),(22,av az (n:Int))]) (λ_=>[aP g2 (dM t nn (ap bp aF.length cp)).cells 33]) (λn=>ll.length-n) 0 ⟨bH _,by rw[tk];exact mO.symm⟩ ?_;clear mO;rintro n ⟨i1,i2⟩
   by_cases c2:n<ll.length
   ·obtain⟨b,off,rfl,_,eP⟩:=Ex J
    obtain⟨vi,y1,y2⟩:=TR eP c2;have dy:∀L,At w L ⟨b,off+n,ak⟩ vi:=λL=>kJ y1;rw[eZ c2,qY]at i2;clear eP y1;generalize ll[n]=r at*;obtain⟨bi,ci,rfl,z1,z2,z3⟩:=y2;unfold maxLen at z2
    by_cases c3:(r.length:Int)=t+1
    ·rw[if_neg (by simpa using c3)]at i2
     repeat(first|refine GA ?_|refine gV (bU bM.eq aK.ty I I c2) ?_|refine gV (aB aK.ty I (dy _)) ?_|refine gV (aB aK.ty I (aH (i:=0) I I)) ?_)
     refine d_ (ι:=Nat) (λj=>j<=r.length/\tH aF n r=tH aF n (r.drop j)) (λj=>[(2,aJ (aj ⟨g2,0,ak⟩)),(6,av az (n:Int)),(20,ap (aj ⟨b,off,ak⟩) ll.length cr),(21,av az ll.length),(22,av az (n:Int)),(33,ap bi r.length ci),(34,av az r.length),(35,av az (j:Int))]) (λ_=>[aP g2 (dM t nn (ap bp aF.length cp)).cells 33]) (λj=>r.length-j) 0 ⟨bH _,rfl⟩ ?_;rintro j ⟨j1,j2⟩
     by_cases c4:j<r.length
     ·obtain⟨b',zO,rfl,CG⟩:=z3 J
      have aav:=λL=>afm (L:=L) CG c4;rw[eZ c4,tH]at j2;clear CG z3;generalize r[j]=p at*
      by_cases e1:p< -1
      ·rw[if_pos e1]at j2
       rw[j2,if_pos akh]at i2;subst i2
       repeat(first|refine GA ?_|refine gV (bU bM.eq aK.ty I I c4) ?_|refine gV (aB aK.ty I (aav _)) ?_|refine gV (aB aK.ty I (aH (i:=0) I I)) ?_)
       exact eH
      by_cases e2:(aF.length:Int)<=p
      ·rw[if_neg e1,if_pos e2]at j2
       rw[j2,if_pos akh]at i2;subst i2
       repeat(first|refine GA ?_|refine gV (bU bM.eq aK.ty I I c4) ?_|refine gV (aB aK.ty I (aav _)) ?_|refine gV (aB aK.ty I (aH (i:=0) I I)) ?_)
       exact eH
      rw[if_neg e1,if_neg e2]at j2
      by_cases e3:0<=p
      ·obtain⟨m,rfl⟩:∃m:Nat,p=m:=⟨p.toNat,by omega⟩
       have hm:m<aF.length:=by omega
       obtain⟨bq,ajm,rfl,_,hrq⟩:=oT J;obtain⟨bb,cb,q1,_,_⟩:=ma hrq hm;have ahL:∀(L:List b9),At w L ⟨bq,ajm+m*2+0,ak⟩ (av az aF[m].1):=λL=>kJ (q1 0 _ I);rw[dF,cB,bK hm]at j2;dsimp only[Option.getD]at j2;clear q1 hrq;generalize aF[m]=pd at*;obtain⟨hd,_⟩:=pd;dsimp only at*
       by_cases e4:hd=(n:Int)
       ·rw[if_neg (λh=>h.2 e4)]at j2
        repeat(first|refine GA ?_|refine gV (bU bM.eq aK.ty I I c4) ?_|refine gV (aB aK.ty I (aav _)) ?_|refine gV (aB aK.ty I (aH (i:=0) I I)) ?_|refine gV (aY bM.eq aK.ty I I hm) ?_|refine gV (aB aK.ty I (ahL _)) ?_)
        exact bT (j+1) ⟨by omega,j2⟩ J
       rw[if_pos ⟨e3,e4⟩]at j2;rw[j2,if_pos akh]at i2;subst i2
       repeat(first|refine GA ?_|refine gV (bU bM.eq aK.ty I I c4) ?_|refine gV (aB aK.ty I (aav _)) ?_|refine gV (aB aK.ty I (aH (i:=0) I I)) ?_|refine gV (aY bM.eq aK.ty I I hm) ?_|refine gV (aB aK.ty I (ahL _)) ?_)
       exact eH
      rw[if_neg (λh=>e3 h.1)]at j2
      repeat(first|refine GA ?_|refine gV (bU bM.eq aK.ty I I c4) ?_|refine gV (aB aK.ty I (aav _)) ?_|refine gV (aB aK.ty I (aH (i:=0) I I)) ?_)
      exact bT (j+1) ⟨by omega,j2⟩ J
     rw[ir J,tH]at j2;rw[j2,if_neg akh]at i2
     try refine GA ?_
     exact bT (n+1) ⟨by omega,i2⟩ J
    rw[if_pos (by simpa using c3)]at i2;subst i2
    repeat(first|refine GA ?_|refine gV (bU bM.eq aK.ty I I c2) ?_|refine gV (aB aK.ty I (dy _)) ?_|refine gV (aB aK.ty I (aH (i:=0) I I)) ?_)
    exact eH
   rw[ir J,qY]at i2;subst i2
   try refine GA ?_
   exact eH
  rw[if_pos (by simpa using c1)]
  repeat(first|refine GA ?_|refine gV (aB aK.ty I (aH (i:=0) I I)) ?_)
  exact eH
 ·rw[if_pos (by simpa using c0)]
  generalize cz g=e at*;refine enter (args:=[dM g.aT g.bC vp,ap br ll.length cr]) (n:=64) Tryz.func90 I I I ?_;refine bW (bB (bP I I I λg2=>?_));refine zL ?_
  repeat(first|refine GA ?_|refine gV (aO (i:=0) aK.ty I I I) ?_)
  refine aV (i_ aI.en I I) (λw hm=>jw _ hm.below) I I I ?_;intro _ _;refine zL ?_
  try refine GA ?_
  exact eH
theorem aaw{l:List aU.Prod}{may:Nat->Nat}{T N g:Nat}{vs:Nat->Value}{w:World}(hl:l.length<=40)(hN:N<=20)(h1:(fv 26 wH g N vs).holds w)(h2:(jB (λj=>j<N) (mL l may T vs N 0)).holds w):
 Aw w (ap (aj ⟨g,0,ak⟩) N N) (jp N λn=>jp (T+1) (CL.rowAt l may T n)):=by
 refine⟨aj ⟨g,0,ak⟩,N,by rw[iS],by rw[iS];exact bz _,by unfold maxLen;omega,λh0=>⟨g,0,rfl,(fv 26 wH g N vs).lt w h1 g (.inl I),λi hi=>?_⟩⟩;rw[iS]at hi;have hf:=h2.1 i hi;unfold mL CU at hf;rw[if_pos hi]at hf;have yP:(jp N λn=>jp (T+1) (CL.rowAt l may T n))[i]'(by rw[iS];exact hi)=jp (T+1) (CL.rowAt l may T i):=by simp[jp]
 rw[yP];refine⟨[vs i],⟨vs i,rfl,?_⟩,λj u hj=>?_⟩
 ·have hs:=Sl.dD hf
  refine ky.of_flat (p:=cK.dU) (by rw[iS];rw[show((jp (T+1) (CL.rowAt l may T i)).flatMap λn=>[av .i64 n])=(jp (T+1) (CL.rowAt l may T i)).map afU from by
   rw[Q']
   induction jp (T+1) (CL.rowAt l may T i)with
   |nil=>rfl
   |cons x r ih=>simp only[gv,DO,ih];rfl];exact hs) (λa ha=>?_) (λb hb=>(aZ 3 1 (vs i) (T+1) _).lt w hf b (.inl hb)) (λa n cp he=>?_)
  ·unfold jp at ha
   obtain⟨c,_,rfl⟩:=eT.1 ha;have:=vH (l:=l) (may:=may) (T:=T) i c l.length;unfold CL.rowAt;exact⟨by omega,by omega⟩
  have hr:w.ownsRow 0 3 1 (vs i) (T+1) _:=hf;rcases hr.2 with⟨hv,h⟩|⟨gg,cap,jZ,hv,_⟩
  omega;rw[hv]at he;simp only[kH,dh]at he;rw[<-he.1];exact(aZ 3 1 (vs i) (T+1) _).lt w hf gg (.inl (by rw[hv];rfl))
 ·have hj0:j=0:=by
   have:=(dg.1 hj).1;simp at this;omega
  subst hj0;simp only[List.getElem?_cons_zero,dh]at hj;subst hj;have:=Bl h1 hi;rw[show 0+i*(bO fP).c+0=0+i by rw[show(bO fP).c=1 from I];omega];exact this
end bZ
namespace bZ
open Go.RowKit cK dS aU dL dP bJ cD
def fw(x:bJ.Act):List Value:=[av az x.1,av az x.2]
theorem sn(x:bJ.Act):(fw x).length=2:=rfl
def gL(l:List aU.Prod)(T:Nat)(nx:List Int)(t:Nat)(s:List bJ.Item)(c:Nat):List bJ.Act:=(if c<t/\0<=nx.getD c 0 then [(1,nx.getD c 0)]else [])++s.filterMap (Ae l c)
theorem IB{l:List aU.Prod}{T:Nat}{nx:List Int}{s:List bJ.Item}{c:Nat}:gL l T nx T s c=kS l T s nx c:=rfl
def oO(vs:Nat->Value)(A:Nat->List bJ.Act)(j:Nat):b9:=aZ 94 2 (vs j) (A j).length ((A j).flatMap fw)
def NG(T:Nat)(A:Nat->List bJ.Act):Spec (Nat×(Nat->Value)):=⟨λ_=>True,λx=>ap (aj ⟨x.1,0,ak⟩) (T+1) (T+1),λx=>[fv 92 wH x.1 (T+1) x.2,jB (λj=>j<T+1) (oO x.2 A)]⟩
theorem Rr(n:Int)(w:World):(df 94 #[(0,av az 1),(1,av az n)]).run aD w= .ok (aQ (fw (1,n)).toArray) w:=by kernel_rfl
theorem Rs(n:Int)(w:World):(df 94 #[(0,av az 2),(1,av az n)]).run aD w= .ok (aQ (fw (2,n)).toArray) w:=by kernel_rfl
theorem Rt(w:World):(df 94 #[(0,av az 3)]).run aD w= .ok (aQ (fw (3,0)).toArray) w:=by kernel_rfl
theorem BJ{l:List aU.Prod}{T:Nat}{nx:List Int}{t:Nat}{s:List bJ.Item}{c:Nat}:(gL l T nx t s c).length<=1+s.length:=by
 unfold gL;rw[bI];have:=List.length_filterMap_le (Ae l c) s;split;rw[nM];omega;rw[gY];omega
theorem KB(v:Value)(g:ep)(T:Nat)(Kc:g.aT=(T:Int))(hT:T<=30)(bS oS lS cS bN oN lN cN n:Nat)(oy vn1:Value)(s:List bJ.Item)(nx:List Int)(w:World)(hG:kK (λk=>k<w.heap.size) w v g)(Ci:g.aF.length<=40)(hnS:n<lS)(hcS:w.cell? ⟨bS,oS+n,ak⟩=aj oy)(xt:Sl w oy s.length (s.flatMap jm))(hnN:n<lN)(hcN:w.cell? ⟨bN,oN+n,ak⟩=aj vn1)(hn1:Sl w vn1 nx.length (nx.map (av .i64)))(hnl:T<=nx.length)(hr:∀it∈s,eG g.aF T it)(sa:s.length<=20000)(_:n<=1000000):
 Calls aD 87 #[v,aQ #[ap (aj ⟨bS,oS,ak⟩) lS cS,ap (aj ⟨bN,oN,ak⟩) lN cN],av az (n:Int)] w (bY (NG T (kS g.aF T s nx)) w):=by
 obtain⟨vp,rfl,hp,-,-⟩:=hG;obtain⟨bp,cp,rfl,JN,GI,oT⟩:=hp;obtain⟨bs,cs,rfl,-,hmS,hrS⟩:=xt;obtain⟨bn,cn,rfl,-,hmN,hrN⟩:=hn1;unfold maxLen at hmS hmN;rw[Kc];have GY:=Rr;have OO:=Rs;have hb3:=Rt;refine enter (args:=[dM (T:Int) g.bC (ap bp g.aF.length cp),aQ #[ap (aj ⟨bS,oS,ak⟩) lS cS,ap (aj ⟨bN,oN,ak⟩) lN cN],av az (n:Int)]) (n:=113) Tryz.func87 I I I ?_;refine bW (bB (bP I I I λg3=>?_));refine zL ?_;refine bP I I I λg4=>?_;refine zL ?_
 repeat(first|refine GC ?_|refine gV (aB (v:=av az (T:Int)) aK.ty I (aH (i:=0) I I)) ?_|refine gV (dW (r:=((T+1:Nat):Int)) I I J J J) ?_|refine GB ?_)
 refine pO (m:=T+1) wH (ap ak 0 0) I I J J I λg7=>?_;refine zL ?_
 repeat(first|refine GA ?_|refine gV (aB (v:=av az (T:Int)) aK.ty I (aH (i:=0) I I)) ?_)
 refine m_ (jB (λj=>j<T+1) (oO (λ_=>ap ak 0 0) (gL g.aF T nx 0 []))) (λk hk=>hk.elim (λh=>by cases h) λ⟨i,hi,h⟩=>h.elim (λh=>by cases h) id) (λw=>⟨λi hi=>?_,λi j _ _ _ k h=>h.elim (λh=>by cases h) oE⟩) ?_
 ·unfold oO gL
  rw[if_neg J];exact Z4 _ _ _ _
 conv=>arg 7;simp only[zA,zB,zC,zD,zE,zF,zG,zH,zI,cI,ret,id_eq]
 refine d_ (ι:=Nat×(Nat->Value)) (λ(t,_)=>t<=T) (λ(t,_)=>[(2,av az (n:Int)),(3,aJ (aj ⟨g3,0,ak⟩)),(4,aJ (aj ⟨g4,0,ak⟩)),(7,ap (aj ⟨g7,0,ak⟩) (T+1) (T+1)),(17,av az (T:Int)),(18,av az (t:Int))])
  (λ(t,vs)=>[aP g3 (dM (T:Int) g.bC (ap bp g.aF.length cp)).cells 33,aP g4 (aQ #[ap (aj ⟨bS,oS,ak⟩) lS cS,ap (aj ⟨bN,oN,ak⟩) lN cN]).cells 203,fv 92 wH g7 (T+1) vs,jB (λj=>j<T+1) (oO vs (gL g.aF T nx t []))]) (λ(t,_)=>T-t) (0,λ_=>ap ak 0 0) (bH _) ?_
 rintro⟨t,vs⟩ i1;dsimp only at i1⊢
 by_cases c1:t<T
 ·obtain⟨b,off,rfl,eP⟩:=hrN J
  have hny:(nx.map (av .i64))[t]?=aj (av az (nx.getD t 0)):=by
   rw[fe,cB,bK J];rfl
  have dy:=λ(L:List b9)=>jc (W:=w) (L:=L) eP hny;have htl:t<nx.length:=by omega
  have Ru:∀j,j≠t->gL g.aF T nx (t+1) [] j=gL g.aF T nx t [] j:=λj hj=>by
   unfold gL;have:(j<t+1/\0<=nx.getD j 0)↔(j<t/\0<=nx.getD j 0):=by constructor<;>(rintro⟨h1,h2⟩;exact⟨by omega,h2⟩)
   simp only[this]
  have Cr:gL g.aF T nx (t+1) [] t=if 0<=nx.getD t 0 then [(1,nx.getD t 0)]else []:=by
   unfold gL
   by_cases c:0<=nx.getD t 0
   rw[if_pos ⟨mC t,c⟩,if_pos c];rfl;rw[if_neg (λh=>c h.2),if_neg c];rfl
  have aax:gL g.aF T nx t [] t=[]:=by unfold gL;rw[if_neg (λh=>y6 t h.1)];rfl
  generalize nx.getD t 0=y at*
  repeat(first|refine GA ?_|refine gV (aB (v:=ap (aj ⟨bN,oN,ak⟩) lN cN) aK.ty I (aH (i:=1) I I)) ?_|refine gV (bU bM.eq aK.ty I I hnN) ?_|refine gV (aB (v:=ap (aj ⟨b,off,ak⟩) nx.length cn) aK.ty I (kJ hcN)) ?_|refine gV (bU bM.eq aK.ty I I htl) ?_|refine gV (aB (v:=av az y) aK.ty I (dy _)) ?_)
  by_cases c2:0<=y
  ·rw[if_pos c2]at Cr
   repeat(first|refine GC ?_|refine gV (ff (b:=aC) I I (decide_eq_true c2)) ?_|refine gV (bU bM.eq aK.ty I I (show t<T+1 by omega)) ?_|refine gV (aB aK.ty I (gI (i:=2) I (show t<T+1 by omega))) ?_|refine gV (bD I (GY _)) ?_|refine GB ?_)
   refine SU (q:=3) t I (show t<T+1 by omega) ?_;have hFt:oO vs (gL g.aF T nx t []) t=aZ 94 2 (vs t) 0 []:=by unfold oO;rw[aax];rfl
   rw[hFt];refine zL ?_;refine jO (i:=4) I I I I I I I (λz h=>by cases h;rfl) J J I λz v3=>?_;refine zL ?_
   repeat(first|refine GA ?_|refine gV (bU bM.eq aK.ty I I (show t<T+1 by omega)) ?_)
   refine aW (i:=4) I λlD me=>?_;refine jl (i:=2) (v:=v3) (λj=>if j=t then v3 else vs j) aK.ty I I I lD me (show t<T+1 by omega) (λj _=>rfl) ?_;refine zL ?_;refine YK (D':=λj=>j<T+1) (f':=oO (λj=>if j=t then v3 else vs j) (gL g.aF T nx (t+1) [])) t 3 4 [0,1,2] akh I I I (λh=>h.2 I) (λj hj=>by
    by_cases e:j=t
    exact .inr e;exact .inl ⟨hj,e⟩) (λj hj=>by
    by_cases e:j=t
    ·subst e
     rw[Bk];unfold oO;dsimp only;rw[Cr,if_pos I];rfl
    rw[Bj e];unfold oO;dsimp only;rw[Ru j e,if_neg e]) ?_
   refine zL ?_
   try refine GA ?_
   exact bT (t+1,λj=>if j=t then v3 else vs j) (by show t+1<=T;omega) (by show T-(t+1)<T-t;omega)
  rw[if_neg c2]at Cr;have vd:gL g.aF T nx (t+1) []=gL g.aF T nx t []:=funext λj=>by
   by_cases e:j=t
   subst e;rw[Cr,aax];exact Ru j e
  repeat(first|refine GC ?_|refine gV (ff (b:=aE) I I (decide_eq_false c2)) ?_|refine GB ?_)
  exact bT (t+1,vs) (by show t+1<=T;omega) (by show T-(t+1)<T-t;omega) (hl:=by dsimp only;rw[vd])
 obtain rfl:t=T:=by omega
 repeat(first|refine GA ?_|refine gV (aB (v:=ap (aj ⟨bS,oS,ak⟩) lS cS) aK.ty I (aH (i:=1) I I)) ?_|refine gV (bU bM.eq aK.ty I I hnS) ?_|refine gV (aB (v:=ap bs s.length cs) aK.ty I (kJ hcS)) ?_)
 refine d_ (ι:=Nat×(Nat->Value)) (λ(k,_)=>k<=s.length) (λ(k,_)=>[(3,aJ (aj ⟨g3,0,ak⟩)),(7,ap (aj ⟨g7,0,ak⟩) (t+1) (t+1)),(47,ap bs s.length cs),(48,av az (s.length:Int)),(49,av az (k:Int))])
  (λ(k,vs)=>[aP g3 (dM (t:Int) g.bC (ap bp g.aF.length cp)).cells 33,aP g4 (aQ #[ap (aj ⟨bS,oS,ak⟩) lS cS,ap (aj ⟨bN,oN,ak⟩) lN cN]).cells 203,fv 92 wH g7 (t+1) vs,jB (λj=>j<t+1) (oO vs (gL g.aF t nx t (s.take k)))]) (λ(k,_)=>s.length-k) (0,vs) (bH _) ?_
 rintro⟨k,vs⟩ j1;dsimp only at j1⊢;clear GY
 by_cases c2:k<s.length
 ·obtain⟨b,off,rfl,eP⟩:=hrS J
  have dy:=λ(L:List b9)=>ib (L:=L) mb eP c2;have E6:∀(L:List b9) (j:Nat) (u:Value),(jm s[k])[j]?=aj u->At (w:bL) L ⟨b,off+k*3+j,ak⟩ u:=dy;clear dy eP hrS;have hxr:=hr s[k] (b_ c2);have pq:s.take (k+1)=s.take k++[s[k]]:=gX c2;have qz:∀c,gL g.aF t nx t (s.take (k+1)) c=gL g.aF t nx t (s.take k) c++(match Ae g.aF c s[k]with|some x=>[x]|none=>[]):=λc=>by
   rw[pq];unfold gL;rw[List.filterMap_append,<-dZ]
   congr 1
   rw[List.filterMap_cons]
   cases Ae g.aF c s[k]<;>rfl
  have hlen:∀c,(gL g.aF t nx t (s.take k) c).length<=20001:=λc=>fI BJ (by rw[iN];omega);generalize hit:s[k]=it at*;obtain⟨p,d,lo⟩:=it;obtain⟨r1,r2,r3,r4,r5,r6⟩:=hxr;dsimp only at r1 r2 r3 r4 r5 r6;obtain⟨pn,rfl⟩:=iw r1;obtain⟨dn,rfl⟩:=iw r3;obtain⟨ln,rfl⟩:=iw r5;have xJ:ln<t+1:=by omega
  have Ru:∀j,j≠ln->gL g.aF t nx t (s.take (k+1)) j=gL g.aF t nx t (s.take k) j:=λj hj=>by
   rw[qz j];have:Ae g.aF j ((pn:Int),(dn:Int),(ln:Int))=none:=by
    unfold Ae;rw[if_pos (by show(ln:Int)≠(j:Int);omega)]
   rw[this,du]
  have pV:=qz ln;unfold Ae at pV;rw[if_neg (by show ¬(ln:Int)≠(ln:Int);simp)]at pV;dsimp only at pV;clear qz pq
  repeat(first|refine GA ?_|refine gV (aY bM.eq aK.ty I I c2) ?_|refine gV (bm (cs:=jm ((pn:Int),(dn:Int),(ln:Int))) aK.ty I I (E6 _)) ?_)
  refine a8 I λg11=>?_;refine zL ?_;refine ij 4 (cs':=(jm ((pn:Int),(dn:Int),(ln:Int))).toArray) ?_;refine zL ?_;have hFt:oO vs (gL g.aF t nx t (s.take k)) ln=aZ 94 2 (vs ln) (gL g.aF t nx t (s.take k) ln).length ((gL g.aF t nx t (s.take k) ln).flatMap fw):=rfl;have UJ:=hlen ln
  by_cases q1:pn=g.aF.length
  ·subst q1
   by_cases q2:dn=1
   ·subst q2
    have Cr:gL g.aF t nx t (s.take (k+1)) ln=gL g.aF t nx t (s.take k) ln++[(3,0)]:=by
     rw[if_pos ⟨rfl,rfl⟩]at pV;exact pV
    repeat(first|refine GA ?_|refine gV (aB (v:=av az (g.aF.length:Int)) aK.ty I (aH (i:=4) I I)) ?_|refine gV (aB (v:=ap bp g.aF.length cp) aK.ty I (aH (i:=0) I I)) ?_|refine gV (aB (v:=av az 1) aK.ty I (aH (i:=4) I I)) ?_)
    refine P1 (q:=3) ln I xJ ?_;rw[hFt]
    conv=>arg 7;simp only[zA,zB,zC,zD,zE,zF,zG,zH,zI,cI,ret,id_eq]
    refine dT ([aP g11 (jm ((g.aF.length:Int),1,(ln:Int))).toArray 278]) (.calm 0 (.calm 1 (.calm 2 (.calm 3 (.calm 4 (.calm 5 (.calm 6 (.calm 8 (.two 7 (.one 9 (.one 10 (.calm 11 (.one 12 (.done))))) 9 (.one 7 (.one 10 (.calm 11 (.one 12 (.done)))))))))))))) (bX [4]) ?_
    repeat(first|refine GW ?_|(refine GN ?_;first|refine QW (aB (v:=av az (ln:Int)) aK.ty I (aH (i:=0) I I)) ?_|refine QW (bU bM.eq aK.ty I I xJ) ?_|refine QW (bD I hb3) ?_))
    refine eK I I ?ahM ?ahN
    case' ahM=>
     refine dx (aB aK.ty I (gI (i:=2) I xJ)) I I I (aM (bX [4]) ?_);refine aL I (fN (cs:=(fw (3,0)).toArray) I I I I I λg74=>aM (bX [4]) ?_)
    case' ahN=>
     refine fN (cs:=(fw (3,0)).toArray) I I I I I λg74=>aM (bX [4]) ?_;refine aL I (dx (aB aK.ty I (gI (i:=2) I xJ)) I I I (aM (bX [4]) ?_))
    all_goals
     refine aL I (mX (i:=5) (q:=6) I I I I I I J J I λv3=>aM (bX [4]) ?_)
     repeat(first|refine GW ?_|(refine GN ?_;first|refine QW (bU bM.eq aK.ty I I xJ) ?_))
     refine aL I (aW (i:=5) I λlD me=>jl (i:=2) (v:=v3) (λj=>if j=ln then v3 else vs j) aK.ty I I I lD me xJ (λj _=>rfl) (aM (bX [4]) ?_))
     try refine GW ?_
     refine SV (D':=λj=>j<t+1) (f':=oO (λj=>if j=ln then v3 else vs j) (gL g.aF t nx t (s.take (k+1)))) ln 3 5 [0,1,2] akh I I I (λh=>h.2 I) (λj hj=>by
      by_cases e:j=ln
      exact .inr e;exact .inl ⟨hj,e⟩) (λj hj=>by
      by_cases e:j=ln
      ·subst e
       rw[Bk];unfold oO;dsimp only;rw[Cr,if_pos I,bI,fV];rfl
      rw[Bj e];unfold oO;dsimp only;rw[Ru j e,if_neg e]) ?_
     try refine GA ?_
     exact bT (k+1,λj=>if j=ln then v3 else vs j) (by show k+1<=s.length;omega) (by show s.length-(k+1)<s.length-k;omega)
   have vd:gL g.aF t nx t (s.take (k+1))=gL g.aF t nx t (s.take k):=funext λj=>by
    by_cases e:j=ln
    ·subst e
     rw[if_neg (λh=>q2 (by have:=h.2;omega)),if_neg (λh=>by have:=h.1;omega)]at pV;rw[pV];exact du _
    exact Ru j e
   repeat(first|refine GA ?_|refine gV (aB (v:=av az (g.aF.length:Int)) aK.ty I (aH (i:=4) I I)) ?_|refine gV (aB (v:=ap bp g.aF.length cp) aK.ty I (aH (i:=0) I I)) ?_|refine gV (aB (v:=av az (dn:Int)) aK.ty I (aH (i:=4) I I)) ?_)
   refine dT ([aP g3 (dM (t:Int) g.bC (ap bp g.aF.length cp)).cells 33,aP g11 (jm ((g.aF.length:Int),(dn:Int),(ln:Int))).toArray 278]) (.calm 0 (.calm 1 (.calm 2 (.calm 3 (.calm 4 (.calm 5 (.calm 6 (.calm 7 (.calm 8 (.calm 9 (.calm 10 (.calm 11 (.calm 12 (.calm 13 (.calm 14 (.calm 15 (.calm 16 (.calm 17 (.calm 18 (.calm 19 (.done))))))))))))))))))))) (bX [0,4]) ?_
   repeat(first|refine GW ?_|(refine GN ?_;first|refine QW (aB (v:=av az (g.aF.length:Int)) aK.ty I (aH (i:=1) I I)) ?_|refine QW (aB (v:=ap bp g.aF.length cp) aK.ty I (aH (i:=0) I I)) ?_))
   try refine GA ?_
   refine dm [0,1,2,3] ?_;exact bT (k+1,vs) (by show k+1<=s.length;omega) (by show s.length-(k+1)<s.length-k;omega) (hl:=by dsimp only;rw[vd];rfl)
  have hpn:pn<g.aF.length:=by omega
  obtain⟨pb,po,rfl,hFb,hpr⟩:=oT J;obtain⟨bb,cb,hq1,hq2,hq3⟩:=ma hpr hpn;have hpg:g.aF[pn]=dc g.aF (pn:Int):=by
   unfold dc;rw[dF,cB,bK hpn];rfl
  rw[hpg]at hq1 hq2 hq3;have ahO:∀(L:List b9) (j:Nat) (v:Value),([av az (dc g.aF (pn:Int)).1,ap bb (dc g.aF (pn:Int)).2.length cb]:List Value)[j]?=aj v->At w L ⟨pb,po+pn*2+j,ak⟩ v:=λL j v hj=>jc hq1 hj;clear hpr oT hq1 hq3
  by_cases q2:dn=(dc g.aF (pn:Int)).2.length
  ·subst q2
   have Cr:gL g.aF t nx t (s.take (k+1)) ln=gL g.aF t nx t (s.take k) ln++[(2,(pn:Int))]:=by
    rw[if_neg (λh=>q1 (by have:=h.1;omega)),if_pos ⟨by omega,rfl⟩]at pV;exact pV
   repeat(first|refine GA ?_|refine gV (aB (v:=av az (pn:Int)) aK.ty I (aH (i:=4) I I)) ?_|refine gV (aB (v:=ap (aj ⟨pb,po,ak⟩) g.aF.length cp) aK.ty I (aH (i:=0) I I)) ?_)
   refine dT ([aP g3 (dM (t:Int) g.bC (ap (aj ⟨pb,po,ak⟩) g.aF.length cp)).cells 33,aP g11 (jm ((pn:Int),((dc g.aF (pn:Int)).2.length:Int),(ln:Int))).toArray 278]) (.calm 0 (.calm 1 (.calm 2 (.calm 3 (.calm 4 (.calm 5 (.calm 6 (.calm 7 (.calm 8 (.calm 9 (.calm 10 (.calm 11 (.calm 12 (.calm 13 (.calm 14 (.calm 15 (.calm 16 (.calm 17 (.calm 18 (.calm 19 (.done))))))))))))))))))))) (bX [0,4]) ?_
   repeat(first|refine GW ?_|(refine GN ?_;first|refine QW (aB (v:=av az (pn:Int)) aK.ty I (aH (i:=1) I I)) ?_|refine QW (aB (v:=av az ((dc g.aF (pn:Int)).2.length:Int)) aK.ty I (aH (i:=1) I I)) ?_|refine QW (aB (v:=ap (aj ⟨pb,po,ak⟩) g.aF.length cp) aK.ty I (aH (i:=0) I I)) ?_|refine QW (aY bM.eq aK.ty I I hpn) ?_|refine QW (aB (v:=ap bb (dc g.aF (pn:Int)).2.length cb) aK.ty I (ahO _ 1 _ I)) ?_))
   try refine GA ?_
   refine P1 (q:=3) ln I xJ ?_;rw[hFt]
   conv=>arg 7;simp only[zA,zB,zC,zD,zE,zF,zG,zH,zI,cI,ret,id_eq]
   refine dT ([aP g11 (jm ((pn:Int),((dc g.aF (pn:Int)).2.length:Int),(ln:Int))).toArray 278]) (.calm 0 (.calm 1 (.calm 2 (.calm 3 (.calm 4 (.calm 5 (.calm 6 (.calm 8 (.calm 9 (.calm 10 (.two 7 (.one 11 (.one 12 (.calm 13 (.one 14 (.done))))) 11 (.one 7 (.one 12 (.calm 13 (.one 14 (.done)))))))))))))))) (bX [4]) ?_
   repeat(first|refine GW ?_|(refine GN ?_;first|refine QW (aB (v:=av az (ln:Int)) aK.ty I (aH (i:=0) I I)) ?_|refine QW (aB (v:=av az (pn:Int)) aK.ty I (aH (i:=0) I I)) ?_|refine QW (bU bM.eq aK.ty I I xJ) ?_|refine QW (bD I (OO _)) ?_))
   refine eK I I ?ahP ?ahQ
   case' ahP=>
    refine dx (aB aK.ty I (gI (i:=2) I xJ)) I I I (aM (bX [4]) ?_);refine aL I (fN (cs:=(fw (2,(pn:Int))).toArray) I I I I I λg74=>aM (bX [4]) ?_)
   case' ahQ=>
    refine fN (cs:=(fw (2,(pn:Int))).toArray) I I I I I λg74=>aM (bX [4]) ?_;refine aL I (dx (aB aK.ty I (gI (i:=2) I xJ)) I I I (aM (bX [4]) ?_))
   all_goals
    refine aL I (mX (i:=5) (q:=6) I I I I I I J J I λv3=>aM (bX [4]) ?_)
    repeat(first|refine GW ?_|(refine GN ?_;first|refine QW (bU bM.eq aK.ty I I xJ) ?_))
    refine aL I (aW (i:=5) I λlD me=>jl (i:=2) (v:=v3) (λj=>if j=ln then v3 else vs j) aK.ty I I I lD me xJ (λj _=>rfl) (aM (bX [4]) ?_))
    try refine GW ?_
    refine SV (D':=λj=>j<t+1) (f':=oO (λj=>if j=ln then v3 else vs j) (gL g.aF t nx t (s.take (k+1)))) ln 3 5 [0,1,2] akh I I I (λh=>h.2 I) (λj hj=>by
     by_cases e:j=ln
     exact .inr e;exact .inl ⟨hj,e⟩) (λj hj=>by
     by_cases e:j=ln
     ·subst e
      rw[Bk];unfold oO;dsimp only;rw[Cr,if_pos I,bI,fV];rfl
     rw[Bj e];unfold oO;dsimp only;rw[Ru j e,if_neg e]) ?_
    try refine GA ?_
    exact bT (k+1,λj=>if j=ln then v3 else vs j) (by show k+1<=s.length;omega) (by show s.length-(k+1)<s.length-k;omega)
  have vd:gL g.aF t nx t (s.take (k+1))=gL g.aF t nx t (s.take k):=funext λj=>by
   by_cases e:j=ln
   ·subst e
    rw[if_neg (λh=>q1 (by have:=h.1;omega)),if_neg (λh=>q2 (by have:=h.2;omega))]at pV;rw[pV];exact du _
   exact Ru j e
  repeat(first|refine GA ?_|refine gV (aB (v:=av az (pn:Int)) aK.ty I (aH (i:=4) I I)) ?_|refine gV (aB (v:=ap (aj ⟨pb,po,ak⟩) g.aF.length cp) aK.ty I (aH (i:=0) I I)) ?_)
  refine dT ([aP g3 (dM (t:Int) g.bC (ap (aj ⟨pb,po,ak⟩) g.aF.length cp)).cells 33,aP g11 (jm ((pn:Int),(dn:Int),(ln:Int))).toArray 278]) (.calm 0 (.calm 1 (.calm 2 (.calm 3 (.calm 4 (.calm 5 (.calm 6 (.calm 7 (.calm 8 (.calm 9 (.calm 10 (.calm 11 (.calm 12 (.calm 13 (.calm 14 (.calm 15 (.calm 16 (.calm 17 (.calm 18 (.calm 19 (.done))))))))))))))))))))) (bX [0,4]) ?_
  repeat(first|refine GW ?_|(refine GN ?_;first|refine QW (aB (v:=av az (pn:Int)) aK.ty I (aH (i:=1) I I)) ?_|refine QW (aB (v:=av az (dn:Int)) aK.ty I (aH (i:=1) I I)) ?_|refine QW (aB (v:=ap (aj ⟨pb,po,ak⟩) g.aF.length cp) aK.ty I (aH (i:=0) I I)) ?_|refine QW (aY bM.eq aK.ty I I hpn) ?_|refine QW (aB (v:=ap bb (dc g.aF (pn:Int)).2.length cb) aK.ty I (ahO _ 1 _ I)) ?_))
  try refine GA ?_
  refine dm [0,1,2,3] ?_;exact bT (k+1,vs) (by show k+1<=s.length;omega) (by show s.length-(k+1)<s.length-k;omega) (hl:=by dsimp only;rw[vd];rfl)
 ·obtain rfl:k=s.length:=by omega
  rw[List.take_length]
  try refine GA ?_
  exact cO I I λw hm=>hm.meets (S:=NG t (kS g.aF t s nx)) (g7,vs) trivial [2,3] akh I
end bZ
namespace bZ
open Go.RowKit cK dS aU dL dP bJ cD
section
variable{P:Program}{n:Nat}{W:bL}{fr:Fr}{L:List b9}{Q:Exit->Act->World->Prop}{ops:Array Oper}{rest:List Oper}{d:Nat}{ty:TypeId}{pos:String}{after:Array Edge}
theorem NH{α:Type}{f:α->List Value}{c:Nat}(hc:∀a,(f a).length=c)(h0:0<c)(z:α){t e:TypeId}{x y:Operand}{bytes m:Nat}{k k':IntKind}{zs:Array Value}[rO P t e c bytes][eQ P e zs](hz:zs.toList=f z)(hx:ev fr x=aj (.int k (m:Int)))(hy:ev fr y=aj (.int k' (m:Int)))(hb:bytes*m<=281474976710656)(qA:m<=9223372036854775807)(hn:dj d n=aC)
 (h:∀g,TL P n W ops Q rest ((d,ap (aj ⟨g,0,ak⟩) m m)::fr) (L++[aZ e c (ap (aj ⟨g,0,ak⟩) m m) m ((cL m z).flatMap f)])):TL P n W ops Q (⟨aj d,.makeSlice t x y,ty,pos,after,ak⟩::rest) fr L:=by
 refine uW hx hy (bz _) hb qA hn λg=>HG (i:=L.length) c (List.getElem?_concat_length ..) (by rw[size_madeCells]) (bz _) qA ?_;have hsz:zs.size=c:=by rw[<-mf,hz,hc]
 have hl:(madeCells zs (m*c)).toList.take (m*c)=(cL m z).flatMap f:=by
  rw[aed hsz h0,fU (by simp[hz,hc]),hz,Q',BF]
 rw[hl];have:=h g
 rwa [List.set_append_right _ _ (bz _),pK,List.set_cons_zero]
end
abbrev WN:=Int×Int×bJ.Act×bJ.Act
def NI(x:WN):List Value:=[av az x.1,av az x.2.1,av az x.2.2.1.1,av az x.2.2.1.2,av az x.2.2.2.1,av az x.2.2.2.2]
def wI:w8 bJ.Act:=zx fw 2 (λ_=>rfl) (λ_=>True)
section
variable(l:List aU.Prod)(T:Nat)(Nx:List (List Int))(S:List (List bJ.Item))
abbrev FT(q c:Nat):List bJ.Act:=kS l T (S.getD q []) (Nx.getD q []) c
def xg(q c:Nat):List WN:=(FT l T Nx S q c).tail.map λx=>((q:Int),(c:Int),(FT l T Nx S q c).headD (0,0),x)
def iY(q:Nat):Nat->List WN
 |0=>[]
 |c+1=>iY q c++xg l T Nx S q c
def iZ:Nat->List WN
 |0=>[]
 |q+1=>iZ q++iY l T Nx S q (T+1)
def iy(q c:Nat):List bJ.Act:=(eg (T+1)).map λj=>if j<c then ot l T Nx S q j else(0,0)
def iG(n:Nat):List (List bJ.Act):=(eg n).map λq=>iy l T Nx S q (T+1)
def fM(n:Nat):List (List Int):=(eg n).map λq=>(Nx.getD q []).drop T
end
def iH(g:ep):List (List bJ.Act)×List (List Int)×List WN×Int:=if(jT g).2.2≠0 then([],[],[],(jT g).2.2)else(iG g.aF g.aT.toNat (jT g).1 (jT g).2.1 (jT g).2.1.length,fM g.aT.toNat (jT g).1 (jT g).2.1.length,iZ g.aF g.aT.toNat (jT g).1 (jT g).2.1 (jT g).2.1.length,0)
structure Rv where
 vA:Value
 BK:List Value
 FA:Nat->Prop
 vG:Value
 CV:List Value
 FG:Nat->Prop
def y_:w8 (List bJ.Act):=⟨1,λF w cs l=>(bO wI).is F w cs l/\∀v∈cs,WrI (wrP 94 2 F w) v,λh=>(bO wI).len h.1,λh hk=>⟨(bO wI).stay h.1 hk,λv hv=>(h.2 v hv).imp λg _ hp=>hp.stay (hk g hp.1)⟩,λh hk=>⟨(bO wI).mono h.1 hk,λv hv=>(h.2 v hv).imp λg _ hp=>⟨hk g hp.1,hp.2⟩⟩⟩
theorem aay{F:Nat->Prop}{gH:List (List Value)}{l:List (List bJ.Act)}{w:World}(h:(eh y_ F gH l).holds w):(eh (bO wI) F gH l).holds w:=
 ⟨⟨h.1.1,λi hi qw=>(h.1.2 i hi qw).1⟩,h.2⟩
def Rw(x:Rv)(A:List (List bJ.Act))(G:List (List Int)):List b9:=[aZ 92 1 x.vA A.length x.BK,eh y_ x.FA (x.BK.map λv=>[v]) A,aZ 26 1 x.vG G.length x.CV,eh (bO fP) x.FG (x.CV.map λv=>[v]) G]
def Ry(g:ep):Spec (Rv×Value):=⟨λ_=>True,λx=> .tuple #[aQ #[x.1.vA,x.1.vG],x.2,av az (iH g).2.2.2],λx=>Rw x.1 (iH g).1 (iH g).2.1++[aZ 208 6 x.2 (iH g).2.2.1.length ((iH g).2.2.1.flatMap NI)]⟩
theorem Rz(w:World):(df 36 (#[]:Array (Nat×Value))).run aD w= .ok (aQ #[ap ak 0 0,ap ak 0 0]) w:=by kernel_rfl
theorem V0(q c:Int)(a b:bJ.Act)(w:World):(df 208 #[(0,av az q),(1,av az c),(2,aQ (fw a).toArray),(3,aQ (fw b).toArray)]).run aD w= .ok (aQ (NI (q,c,a,b)).toArray) w:=by kernel_rfl
theorem FU{w:World}{v:Value}{l:List bJ.Act}(h:(aZ 94 2 v l.length (l.flatMap fw)).holds w):(bO wI).is (λk=>v.ownBlock=aj k) w [v] l:=
 ⟨v,rfl,ky.of_flat (Sl.dD h) (λ_ _=>trivial) (λ_ h=>h) (λa n cp hv=>by rw[hv];rfl)⟩
theorem aaz{w:World}{v:Value}{l:List bJ.Act}(h:(aZ 94 2 v l.length (l.flatMap fw)).holds w):y_.is (λk=>v.ownBlock=aj k) w [v] l:=
 ⟨FU h,λu hu=>by obtain rfl:=dO.1 hu;exact QU h⟩
theorem qk{l:List aU.Prod}{T:Nat}{Nx:List (List Int)}{S:List (List bJ.Item)}{q c:Nat}:(iy l T Nx S q c).length=T+1:=by unfold iy;rw[dA,pJ]
theorem aaA{l:List aU.Prod}{T:Nat}{Nx:List (List Int)}{S:List (List bJ.Item)}{q:Nat}:iy l T Nx S q 0=cL (T+1) (0,0):=by
 unfold iy;apply mi;intro j
 by_cases h:j<T+1
 simp[h];simp[h]
theorem RA{l:List aU.Prod}{T:Nat}{Nx:List (List Int)}{S:List (List bJ.Item)}{q c:Nat}(hc:c<T+1):(iy l T Nx S q c).set c (ot l T Nx S q c)=iy l T Nx S q (c+1):=by
 unfold iy;apply mi;intro j;rw[List.getElem?_set]
 by_cases h:j<T+1
 ·by_cases e:c=j
  subst e;simp[h];rw[if_neg e];simp only[fe,Ep h,Rb]
  by_cases e2:j<c
  rw[if_pos e2,if_pos J];rw[if_neg e2,if_neg J]
 have h1:(eg (T+1))[j]?=none:=k7 (by rw[pJ];omega);simp only[fe,h1,Option.map_none];split
 ·rename_i e;subst e;exact absurd hc h
 rfl
theorem NJ{l:List aU.Prod}{T:Nat}{Nx:List (List Int)}{S:List (List bJ.Item)}{q c:Nat}(h:FT l T Nx S q c=[]):iy l T Nx S q (c+1)=iy l T Nx S q c:=by
 unfold iy;apply List.map_congr_left;intro j hj
 by_cases e:j=c
 ·subst e
  rw[if_pos (mC _),if_neg (y6 _)];unfold ot;rw[show kS l T (S.getD q []) (Nx.getD q []) j=[]from h];rfl
 by_cases e2:j<c
 rw[if_pos e2,if_pos J];rw[if_neg e2,if_neg J]
theorem FV{l:List aU.Prod}{T:Nat}{Nx:List (List Int)}{S:List (List bJ.Item)}{q:Nat}{M:Nat}(h:(S.getD q []).length<=M):∀c,(iY l T Nx S q c).length<=c*(M+1)
 |0=>bH _
 | c +1=>by
  rw[iY,bI,ml];have h2:(xg l T Nx S q c).length<=M+1:=by
   unfold xg;rw[dA,Ks];have:(FT l T Nx S q c).length<=1+(S.getD q []).length:=by rw[FT,<-IB];exact BJ
   omega
  have:=FV (l:=l) (T:=T) (Nx:=Nx) h c;omega
theorem Cs{l:List aU.Prod}{T:Nat}{Nx:List (List Int)}{S:List (List bJ.Item)}{M:Nat}(h:∀q,(S.getD q []).length<=M):∀q,(iZ l T Nx S q).length<=q*((T+1)*(M+1))
 |0=>bH _
 |q+1=>by
  rw[iZ,bI,ml];have:=Cs (l:=l) (T:=T) (Nx:=Nx) h q;have:=FV (l:=l) (T:=T) (Nx:=Nx) (h q) (T+1);omega
theorem Ax{l:List aU.Prod}{T:Nat}{Nx:List (List Int)}{S:List (List bJ.Item)}{q c:Nat}:∀{d:Nat},c<=d->(iY l T Nx S q c).length<=(iY l T Nx S q d).length
  | 0, h => by obtain rfl:c=0:=by omega
               exact bz _
  | d+1,h=>by
    by_cases e:c=d+1
    subst e;exact bz _;rw[iY,bI];have:=Ax (l:=l) (T:=T) (Nx:=Nx) (S:=S) (q:=q) (c:=c) (d:=d) J;omega
theorem NK{l:List aU.Prod}{T:Nat}{Nx:List (List Int)}{S:List (List bJ.Item)}(n:Nat):iG l T Nx S (n+1)=iG l T Nx S n++[iy l T Nx S n (T+1)]:=by unfold iG;rw[Bd,e7];rfl
theorem KC{T:Nat}{Nx:List (List Int)}(n:Nat):fM T Nx (n+1)=fM T Nx n++[(Nx.getD n []).drop T]:=by unfold fM;rw[Bd,e7];rfl
theorem jD{l:List aU.Prod}{T:Nat}{Nx:List (List Int)}{S:List (List bJ.Item)}(n:Nat):(iG l T Nx S n).length=n:=by unfold iG;rw[dA,pJ]
theorem mM{T:Nat}{Nx:List (List Int)}(n:Nat):(fM T Nx n).length=n:=by unfold fM;rw[dA,pJ]
theorem KD(v:Value)(g:ep)(w:World)(hG:kK (λk=>k<w.heap.size) w v g):
 Calls aD 45 #[v] w (bY (Ry g) w):=by
 have hG0:=hG;have hal:=λw' (hg:Gr w w')=>VJ v g w' (hG.gr hg);have hac:=λT Kc hT bS oS lS cS bN oN lN cN n oy vn1 s nx w' (hg:Gr w w')=>KB v g T Kc hT bS oS lS cS bN oN lN cN n oy vn1 s nx w' (hG.gr hg);obtain⟨vp,rfl,-⟩:=hG;have C8:=Rz;have hO:iH g=if(jT g).2.2≠0 then([],[],[],(jT g).2.2)else(iG g.aF g.aT.toNat (jT g).1 (jT g).2.1 (jT g).2.1.length,fM g.aT.toNat (jT g).1 (jT g).2.1.length,iZ g.aF g.aT.toNat (jT g).1 (jT g).2.1 (jT g).2.1.length,0):=rfl
 unfold Ry Rw;refine enter (args:=[dM g.aT g.bC vp]) (n:=92) Tryz.func45 I I I ?_;refine bW (bB (bP I I I λg1=>?_));refine zL ?_
 try refine GA ?_
 refine a8 I λg2=>?_;refine zL ?_
 repeat(first|refine GA ?_|refine gV (aO (i:=0) aK.ty I I I) ?_)
 refine aV (i_ aI.en I I) (λw hm=>hal w hm.below) I I I ?_;rintro⟨vS,vN,xe,F,Ck,FN⟩ _
 conv=>arg 8;simp only[zJ,cI,ret,id_eq,acH]
 conv=>arg 7;simp only[acH]
 have lT:=Tp (g:=g);have hno:=acK (g:=g);obtain⟨⟨Nx,S,e⟩,hOA⟩:∃R,jT g=R:=⟨_,rfl⟩;rw[hOA]at lT hno hO;rw[hOA];dsimp only at lT hno hO⊢;refine jJ (i:=2) I fF λfJ=>?_;obtain⟨aS,cS,rfl,-,haS⟩:=fJ;refine jJ (i:=4) I fF λfJ=>?_;obtain⟨aN,cN,rfl,-,haN⟩:=fJ;clear hOA hal
 try refine GA ?_
 refine a8 I λg5=>?_;refine zL ?_;refine ij 6 (cs':=#[ap aS S.length cS,ap aN Nx.length cN]) ?_;refine zL ?_
 try refine GA ?_
 by_cases c0:e=0
 ·subst c0
  rw[if_neg (by simp)]at hO;obtain⟨hg,hA⟩:=lT rfl;obtain⟨hT1,hT2,hN1,Yc,Ci,hgb⟩:=cV hg;have Im:∀q∈g.aF,q.2.length<=8:=λq hq=>(hgb q hq).1;obtain⟨T,Kc⟩:∃T:Nat,g.aT=(T:Int):=⟨g.aT.toNat,by omega⟩;obtain⟨N,hNn⟩:∃N:Nat,g.bC=(N:Int):=⟨g.bC.toNat,by omega⟩;have hTn:g.aT.toNat=T:=by omega
  rw[hTn,show g.bC.toNat=N by omega]at hA;rw[hTn]at hO;have hT:T<=30:=by omega
  have hI:=MJ Im Ci hT hA;have QT:=acJ Im Ci hT hA;have hS0:0<S.length:=(dg.1 hI.start).1;have hS2:=hI.we;have hNl:=hI.len;have hac:=hac T Kc hT;obtain⟨gS,rfl⟩:=haS hS0;obtain⟨gN,rfl⟩:=haN J;clear lT hno haS haN;rw[Kc,hO];rw[Kc]at hac
  try refine GA ?_
  refine a8 I λg7=>?_;refine zL ?_
  repeat(first|refine GA ?_|refine gV (aB (v:=ap (aj ⟨gS,0,ak⟩) S.length cS) aK.ty I (aH (i:=6) I I)) ?_)
  refine jd 92 1 (m_ (eh y_ (λ_=>False) [] []) (λk hk=>hk.elim (λh=>by cases h) id) (λw=>jI) (jd 26 1 (m_ (eh (bO fP) (λ_=>False) [] []) (λk hk=>hk.elim (λh=>by cases h) id) (λw=>jI) (jd 208 6 ?_))))
  conv=>arg 7;simp only[zA,zB,zC,zD,zE,zF,zG,zH,zI,cI,ret,id_eq]
  refine d_ (ι:=Nat×Rv×Value) (λ(n,_,_)=>n<=S.length) (λ(n,_,vf)=>[(1,aJ (aj ⟨g1,0,ak⟩)),(2,aJ (aj ⟨g2,0,ak⟩)),(5,aJ (aj ⟨g5,0,ak⟩)),(7,aJ (aj ⟨g7,0,ak⟩)),(8,vf),(26,av az (S.length:Int)),(27,av az (n:Int))])
   (λ(n,x,vf)=>[aP g1 (dM (T:Int) g.bC vp).cells 33,aP g2 #[ap ak 0 0,ap ak 0 0] 36,aZ 273 1 (ap (aj ⟨gS,0,ak⟩) S.length cS) S.length xe,eh (bO J_) F (xe.map λv=>[v]) S,aZ 26 1 (ap (aj ⟨gN,0,ak⟩) Nx.length cN) Nx.length Ck,eh (bO fP) FN (Ck.map λv=>[v]) Nx,aP g5 #[ap (aj ⟨gS,0,ak⟩) S.length cS,ap (aj ⟨gN,0,ak⟩) Nx.length cN] 203,aP g7 #[x.vA,x.vG] 36,aZ 92 1 x.vA (iG g.aF T Nx S n).length x.BK,eh y_ x.FA (x.BK.map λv=>[v]) (iG g.aF T Nx S n),aZ 26 1 x.vG (fM T Nx n).length x.CV,eh (bO fP) x.FG (x.CV.map λv=>[v]) (fM T Nx n),aZ 208 6 vf (iZ g.aF T Nx S n).length ((iZ g.aF T Nx S n).flatMap NI)]) (λ(n,_,_)=>S.length-n) (0,⟨ap ak 0 0,[],λ_=>False,ap ak 0 0,[],λ_=>False⟩,ap ak 0 0) (bH _) ?_
  rintro⟨n,x,vf⟩ i1;dsimp only at i1⊢
  by_cases c1:n<S.length
  ·have hnN:n<Nx.length:=by omega
   have hSn:S.getD n []=S[n]:=by rw[cB,bK c1];rfl
   have afV:Nx.getD n []=Nx[n]:=by rw[cB,bK hnN];rfl
   have WL:=hI.ss.right S[n] (b_ c1);have hwd:=hI.wide n c1;rw[afV]at hwd;have sa:=QT S[n] (b_ c1);refine iR (i:=3) I (λw h=>Ik h) λhvl=>?_;refine iR (i:=5) I (λw h=>Ik h) λhnl=>?_;have hvq:xe[0+n]?=aj (xe[n]' J):=by rw[cX];exact bK _
   have ahR:xe[n]?=aj (xe[n]' J):=bK _;generalize xe[n]' J=vq at hvq ahR;have hnq:Ck[0+n]?=aj (Ck[n]' J):=by rw[cX];exact bK _
   have aaB:Ck[n]?=aj (Ck[n]' J):=bK _;generalize Ck[n]' J=nq at hnq aaB;refine iR (i:=5) I (λw h=>cJ (Zz h hnN aaB) (ky.okp (QM h hnN aaB))) λahS=>?_;obtain⟨⟨aq,cq,rfl,hcq,aj_,-⟩,ajn⟩:=ahS;have tW:(iZ g.aF T Nx S n++iY g.aF T Nx S n (T+1)).length<=100000000:=by
    have h1:=Cs (l:=g.aF) (T:=T) (Nx:=Nx) (S:=S) (M:=11439) (λq=>by
     by_cases hq:q<S.length
     rw[cB,bK hq];exact QT _ (b_ hq);rw[cB,k7 J];exact bH _) (n+1)
    rw[iZ]at h1;exact fI h1 (fI (Fw (show n+1<=200 by omega) (Fw (show T+1<=31 by omega) (bz _))) akh)
   have hS1:=λ(L:List b9) (i:Nat) (hL:L[i]?=aj (eh (bO J_) F (xe.map λv=>[v]) S))=>QN (W:=(w:bL)) (L:=L) (f:=jm) (c:=3) akh hL c1 ahR;have hN1:∀(L:List b9) (i:Nat) (hL:L[i]?=aj (eh (bO fP) FN (Ck.map λv=>[v]) Nx)),SlL (w:bL) L (.slice aq Nx[n].length cq) Nx[n].length (Nx[n].map (av .i64)):=λL i hL w' rX=>by
    have:=QN (W:=(w:bL)) (L:=L) (f:=λn=>[av .i64 n]) (c:=1) akh hL hnN aaB w' rX
    rwa [<-Z5]at this
   repeat(first|refine GC ?_|refine gV (aB (v:=av az (T:Int)) aK.ty I (aH (i:=0) I I)) ?_|refine gV (dW (r:=((T+1:Nat):Int)) I I J J J) ?_|refine GB ?_)
   refine NH sn akh (0,0) I I I J J I λg10=>?_;rw[<-aaA (l:=g.aF) (Nx:=Nx) (S:=S) (q:=n)];refine zL ?_
   repeat(first|refine GA ?_|refine gV (aO (i:=0) aK.ty I I I) ?_|refine gV (aO (i:=6) aK.ty I I I) ?_)
   refine aV (S:=NG T (kS g.aF T S[n] Nx[n])) (sV aI.en I I I I) (λw hm=>hac gS 0 S.length cS gN 0 Nx.length cN n vq (.slice aq Nx[n].length cq) S[n] Nx[n] w hm.below Ci c1 (zR (hm.get (i:=2) I) hvq) (hS1 _ 3 I w hm) hnN (zR (hm.get (i:=4) I) hnq) (hN1 _ 5 I w hm) J WL J J) I I I ?_;rintro⟨ga,vs⟩ _
   conv=>arg 8;simp only[zJ,cI,ret,id_eq,NG]
   conv=>arg 7;simp only[NG]
   rw[<-hSn,<-afV];clear hac
   try refine GA ?_
   refine mq (ι:=Nat×Value) (λ(c,_)=>c<=T+1) (λ(c,vf)=>[(1,aJ (aj ⟨g1,0,ak⟩)),(2,aJ (aj ⟨g2,0,ak⟩)),(5,aJ (aj ⟨g5,0,ak⟩)),(7,aJ (aj ⟨g7,0,ak⟩)),(8,vf),(26,av az (S.length:Int)),(27,av az (n:Int)),(9,av az (n:Int)),(10,ap (aj ⟨g10,0,ak⟩) (T+1) (T+1)),(37,ap (aj ⟨ga,0,ak⟩) (T+1) (T+1)),(38,av az ((T+1:Nat):Int)),(39,av az (c:Int))])
    (λ(c,vf)=>[aP g1 (dM (T:Int) g.bC vp).cells 33,aP g2 #[ap ak 0 0,ap ak 0 0] 36,aZ 273 1 (ap (aj ⟨gS,0,ak⟩) S.length cS) S.length xe,eh (bO J_) F (xe.map λv=>[v]) S,aZ 26 1 (ap (aj ⟨gN,0,ak⟩) Nx.length cN) Nx.length Ck,eh (bO fP) FN (Ck.map λv=>[v]) Nx,aP g5 #[ap (aj ⟨gS,0,ak⟩) S.length cS,ap (aj ⟨gN,0,ak⟩) Nx.length cN] 203,aP g7 #[x.vA,x.vG] 36,aZ 92 1 x.vA (iG g.aF T Nx S n).length x.BK,eh y_ x.FA (x.BK.map λv=>[v]) (iG g.aF T Nx S n),aZ 26 1 x.vG (fM T Nx n).length x.CV,eh (bO fP) x.FG (x.CV.map λv=>[v]) (fM T Nx n),aZ 208 6 vf (iZ g.aF T Nx S n++iY g.aF T Nx S n c).length ((iZ g.aF T Nx S n++iY g.aF T Nx S n c).flatMap NI),aZ 94 2 (ap (aj ⟨g10,0,ak⟩) (T+1) (T+1)) (T+1) ((iy g.aF T Nx S n c).flatMap fw),fv 92 wH ga (T+1) vs,jB (λj=>j<T+1) (oO vs (kS g.aF T (S.getD n []) (Nx.getD n [])))]) (λ(c,_)=>T+1-c) (0,vf) (bH _) (by repeat' (first|exact cT|refine cJ I ?_)) (by dsimp only;rw[iY,du]) ?_
   rintro⟨c,vf⟩ j1;dsimp only at j1⊢
   by_cases c2:c<T+1
   ·obtain⟨X,hX⟩:∃X,kS g.aF T (S.getD n []) (Nx.getD n []) c=X:=⟨_,rfl⟩
    have hXl:X.length<=11440:=by
     rw[<-hX,<-IB];have:=BJ (l:=g.aF) (T:=T) (nx:=Nx.getD n []) (t:=T) (s:=S.getD n []) (c:=c);rw[hSn]at this⊢;omega
    have ahT:=RA (l:=g.aF) (Nx:=Nx) (S:=S) (q:=n) c2;have ahU:X=[]->iy g.aF T Nx S n (c+1)=iy g.aF T Nx S n c:=λh=>NJ (by unfold FT;rw[hX,h]);have hhd:ot g.aF T Nx S n c=X.headD (0,0):=by unfold ot;rw[hX]
    have SQ:iY g.aF T Nx S n (c+1)=iY g.aF T Nx S n c++X.tail.map λx=>(((n:Int),(c:Int),X.headD (0,0),x):WN):=by
     rw[iY,xg];unfold FT;rw[hX]
    have aj':(iZ g.aF T Nx S n++iY g.aF T Nx S n c).length<=100000000:=by
     rw[bI]at tW⊢;have:=Ax (l:=g.aF) (T:=T) (Nx:=Nx) (S:=S) (q:=n) (show c<=T+1 by omega);omega
    generalize ahV:iZ g.aF T Nx S n++iY g.aF T Nx S n c=base at*;refine iR (i:=15) I (λw h=>fF w (h.1 c c2)) λfJ=>?_;obtain⟨ax,cx,hvc,-,hax⟩:=fJ;rw[hX]at hvc hax;have aaC:∀(L:List b9) (i:Nat) (gx:Nat),ax=aj ⟨gx,0,ak⟩->L[i]?=aj (jB (λj=>j<T+1) (oO vs (kS g.aF T (S.getD n []) (Nx.getD n []))))->∀k (hk:k<X.length) (j:Nat) (u:Value),(fw X[k])[j]?=aj u->At (w:bL) L ⟨gx,0+k*2+j,ak⟩ u:=λL i gx hgx hL k hk j u hu=>ab9 hL λw h=>by
     have h2:=h.1 c c2;unfold oO at h2;rw[hvc,hX,hgx]at h2;have hj2:j<2:=by rw[<-sn X[k]];exact(dg.1 hu).1
     exact zR h2 (by rw[cX,uS sn X k j hk hj2];exact hu)
    repeat(first|refine GA ?_|refine gV (bU bM.eq aK.ty I I c2) ?_|refine gV (aB (v:=ap ax X.length cx) aK.ty I (by have:=gI (W:=(w:bL)) (val:=wH) (i:=14) (f:=vs) (e:=92) (g:=ga) (len:=T+1) (L:=[aP g1 (dM (T:Int) g.bC vp).cells 33,aP g2 #[ap ak 0 0,ap ak 0 0] 36,aZ 273 1 (ap (aj ⟨gS,0,ak⟩) S.length cS) S.length xe,eh (bO J_) F (xe.map λv=>[v]) S,aZ 26 1 (ap (aj ⟨gN,0,ak⟩) Nx.length cN) Nx.length Ck,eh (bO fP) FN (Ck.map λv=>[v]) Nx,aP g5 #[ap (aj ⟨gS,0,ak⟩) S.length cS,ap (aj ⟨gN,0,ak⟩) Nx.length cN] 203,aP g7 #[x.vA,x.vG] 36,aZ 92 1 x.vA (iG g.aF T Nx S n).length x.BK,eh y_ x.FA (x.BK.map λv=>[v]) (iG g.aF T Nx S n),aZ 26 1 x.vG (fM T Nx n).length x.CV,eh (bO fP) x.FG (x.CV.map λv=>[v]) (fM T Nx n),aZ 208 6 vf (base).length ((base).flatMap NI),aZ 94 2 (ap (aj ⟨g10,0,ak⟩) (T+1) (T+1)) (T+1) ((iy g.aF T Nx S n c).flatMap fw),fv 92 wH ga (T+1) vs,jB (λj=>j<T+1) (oO vs (kS g.aF T (S.getD n []) (Nx.getD n [])))]) I c2;rw[hvc]at this;exact this)) ?_)
    refine mq (ι:=Nat×Value) (λ(i,_)=>i<=X.length) (λ(i,vf)=>[(1,aJ (aj ⟨g1,0,ak⟩)),(2,aJ (aj ⟨g2,0,ak⟩)),(5,aJ (aj ⟨g5,0,ak⟩)),(7,aJ (aj ⟨g7,0,ak⟩)),(8,vf),(26,av az (S.length:Int)),(27,av az (n:Int)),(9,av az (n:Int)),(10,ap (aj ⟨g10,0,ak⟩) (T+1) (T+1)),(37,ap (aj ⟨ga,0,ak⟩) (T+1) (T+1)),(38,av az ((T+1:Nat):Int)),(11,av az (c:Int)),(12,ap ax X.length cx),(39,av az (c:Int)),(44,ap ax X.length cx),(45,av az (X.length:Int)),(46,av az (i:Int))])
     (λ(i,vf)=>[aP g1 (dM (T:Int) g.bC vp).cells 33,aP g2 #[ap ak 0 0,ap ak 0 0] 36,aZ 273 1 (ap (aj ⟨gS,0,ak⟩) S.length cS) S.length xe,eh (bO J_) F (xe.map λv=>[v]) S,aZ 26 1 (ap (aj ⟨gN,0,ak⟩) Nx.length cN) Nx.length Ck,eh (bO fP) FN (Ck.map λv=>[v]) Nx,aP g5 #[ap (aj ⟨gS,0,ak⟩) S.length cS,ap (aj ⟨gN,0,ak⟩) Nx.length cN] 203,aP g7 #[x.vA,x.vG] 36,aZ 92 1 x.vA (iG g.aF T Nx S n).length x.BK,eh y_ x.FA (x.BK.map λv=>[v]) (iG g.aF T Nx S n),aZ 26 1 x.vG (fM T Nx n).length x.CV,eh (bO fP) x.FG (x.CV.map λv=>[v]) (fM T Nx n),aZ 208 6 vf ((base++(X.tail.take (i-1)).map λx=>(((n:Int),(c:Int),X.headD (0,0),x):WN))).length (((base++(X.tail.take (i-1)).map λx=>(((n:Int),(c:Int),X.headD (0,0),x):WN))).flatMap NI),aZ 94 2 (ap (aj ⟨g10,0,ak⟩) (T+1) (T+1)) (T+1) ((if i=0 then iy g.aF T Nx S n c else iy g.aF T Nx S n (c+1)).flatMap fw),fv 92 wH ga (T+1) vs,jB (λj=>j<T+1) (oO vs (kS g.aF T (S.getD n []) (Nx.getD n [])))]) (λ(i,_)=>X.length-i) (0,vf) (bH _) (by repeat' (first|exact cT|refine cJ I ?_)) (by simp) ?_
    rintro⟨i,vf⟩ k1;dsimp only at k1⊢
    by_cases c3:i<X.length
    ·have ajo:=λ(L:List b9) (k:Nat) (gx:Nat) (hgx:ax=aj ⟨gx,0,ak⟩) (hL:L[k]?=aj (jB (λj=>j<T+1) (oO vs (kS g.aF T (S.getD n []) (Nx.getD n [])))))=>aaC L k gx hgx hL i c3
     obtain⟨gx,rfl⟩:=hax J;have afW:∀(L:List b9) (k:Nat),L[k]?=aj (jB (λj=>j<T+1) (oO vs (kS g.aF T (S.getD n []) (Nx.getD n []))))->∀(j:Nat) (u:Value),(fw (X.headD (0,0)))[j]?=aj u->At (w:bL) L ⟨gx,0+0*2+j,ak⟩ u:=λL k hL j u hu=>aaC L k gx I hL 0 J j u (by
      have:X.headD (0,0)=X[0]' J:=by
       cases X with
       |nil=>exact absurd c3 (Nat.not_lt_zero _)
       |cons y r=>rfl
      rwa [this]at hu)
     have hXi:i=0->X[i]=ot g.aF T Nx S n c:=λe=>by
      subst e;rw[hhd]
      cases X with
      |nil=>exact absurd c3 (mz _)
      |cons y r=>rfl
     have hXt:i≠0->X.tail.take (i+1-1)=X.tail.take (i-1)++[X[i]]:=λe=>by
      obtain⟨m,rfl⟩:∃m,i=m+1:=⟨i-1,by omega⟩
      cases X with
      |nil=>exact absurd c3 (mz _)
      | cons y r=>
       have hm:m<r.length:=by simpa using c3
       show r.take (m+1)=r.take m++[r[m]]
       exact gX hm
     have ajH:(base++(X.tail.take (i-1)).map λx=>(((n:Int),(c:Int),X.headD (0,0),x):WN)).length<=100100000:=by
      rw[bI,dA,iN,Ks];omega
     have hbf:=V0 (n:Int) (c:Int) (X.headD (0,0));generalize hXX:X[i]=xa at*;clear aaC hS1 hN1
     repeat(first|refine GA ?_|refine gV (aY bM.eq aK.ty I I c3) ?_|refine gV (bm (cs:=fw xa) aK.ty I I (ajo _ 15 gx I I)) ?_)
     refine a8 I λg14=>?_;refine zL ?_
     try refine GA ?_
     refine ij 16 (cs':=(fw xa).toArray) ?_;refine zL ?_
     by_cases q1:i=0
     ·subst q1
      rw[if_pos I];have hXi:=hXi I
      repeat(first|refine GA ?_|refine gV (aO (i:=16) aK.ty I I I) ?_|refine gV (aY bM.eq aK.ty I I c2) ?_)
      refine A' sn (k:=c) (a:=xa) (i:=13) aK.ty I I J (by rw[qk];exact c2) qk.symm I I I ?_;rw[hXi,ahT];refine zL ?_
      try refine GA ?_
      refine dm [0,1,2,3,4,5,6,7,8,9,10,11,12,13,14,15] ?_;exact bT (0+1,vf) (by show 0+1<=X.length;omega) (by show X.length-(0+1)<X.length-0;omega) (hl:=by dsimp only;rw[if_neg J];rfl)
     rw[if_neg q1];have nC:base++(X.tail.take (i+1-1)).map (λx=>(((n:Int),(c:Int),X.headD (0,0),x):WN))=(base++(X.tail.take (i-1)).map λx=>(((n:Int),(c:Int),X.headD (0,0),x):WN))++[((n:Int),(c:Int),X.headD (0,0),xa)]:=by rw[hXt q1,e7,<-dZ];rfl
     clear hXt;generalize (base++(X.tail.take (i-1)).map λx=>(((n:Int),(c:Int),X.headD (0,0),x):WN))=fb at*
     try refine GA ?_
     refine dT ([jB (λj=>j<T+1) (oO vs (kS g.aF T (S.getD n []) (Nx.getD n []))),aP g14 (fw xa).toArray 94]) (.calm 0 (.calm 1 (.calm 2 (.calm 3 (.calm 4 (.calm 5 (.calm 6 (.calm 7 (.one 8 (.one 9 (.calm 10 (.done)))))))))))) (bX [15,16]) ?_
     repeat(first|refine GW ?_|(refine GN ?_;first|refine QW (aY (j:=0) bM.eq aK.ty I I (show 0<X.length by omega)) ?_|refine QW (bm (cs:=fw (X.headD (0,0))) aK.ty I I (afW _ 0 I)) ?_|refine QW (aO (i:=1) aK.ty I I I) ?_|refine QW (bD I (hbf _)) ?_))
     refine aL I (fN (cs:=(NI ((n:Int),(c:Int),X.headD (0,0),xa)).toArray) I I I I I λg65=>aM (bX [15,16]) ?_);refine aL I (mX (i:=12) (q:=17) I I I I I I J J I λvf2=>aM (bX [15,16]) ?_)
     try refine GW ?_
     try refine GA ?_
     refine dm [0,1,2,3,4,5,6,7,8,9,10,11,12,13,14,15] ?_;exact bT (i+1,vf2) (by show i+1<=X.length;omega) (by show X.length-(i+1)<X.length-i;omega) (hl:=by dsimp only;rw[if_neg J,nC,bI,fV];rfl)
    obtain rfl:i=X.length:=by omega
    have ahW:(if X.length=0 then iy g.aF T Nx S n c else iy g.aF T Nx S n (c+1))=iy g.aF T Nx S n (c+1):=by
     by_cases e:X.length=0
     rw[if_pos e];exact(ahU (mS e)).symm;rw[if_neg e]
    have htt:X.tail.take (X.length-1)=X.tail:=fU (by rw[Ks];exact bz _);rw[ahW,htt]
    try refine GA ?_
    exact bT (c+1,vf) (by show c+1<=T+1;omega) (by show T+1-(c+1)<T+1-c;omega) (hl:=by dsimp only;rw[SQ,<-dZ,ahV])
   obtain rfl:c=T+1:=by omega
   have hTN:T<=Nx[n].length:=by omega
   have Ur:(Nx[n].drop T).length=Nx[n].length-T:=ic;have pq:(Nx[n].drop T).take (Nx[n].length-T)=Nx[n].drop T:=fU (by rw[Ur];exact bz _);have hSub:∀(L:List b9) (i:Nat),L[i]?=aj (eh (bO fP) FN (Ck.map λv=>[v]) Nx)->SlL (w:bL) L (ue aq cq 1 T Nx[n].length) (Nx[n].length-T) ((Nx[n].drop T).map (av .i64)):=λL i hL w' rX=>by
    have h1:=QN (W:=(w:bL)) (L:=L) (f:=λn=>[av .i64 n]) (c:=1) akh hL hnN aaB w' rX;have h2:=Ea (i:=T) (j:=Nx[n].length) (f:=λn=>[av .i64 n]) (λ_=>rfl) h1 hTN (bz _);rw[pq,Ur,<-Z5]at h2;exact h2
   have aes:((Nx[n].drop T).map (av .i64)).length=(Nx[n].length-T)*1:=by rw[dA,Ur,k_]
   have aet:∀u∈(Nx[n].drop T).map (av .i64),u.oneCell'=true:=λu hu=>by obtain⟨y,_,rfl⟩:=eT.1 hu;rfl
   have hgo:∀{v:Value} {w':World},(aZ 3 1 v (0+(Nx[n].length-T)) ([]++(Nx[n].drop T).map (av .i64))).holds w'->(bO fP).is (λk=>v.ownBlock=aj k) w' [v] ((Nx.getD n []).drop T):=λ{v w'} h=>by
    rw[afV];rw[cX,eI,<-Ur]at h;exact Cj (λy hy=>ajn y (yB hy)) h
   repeat(first|refine GA ?_|refine gV (aB (v:=x.vA) aK.ty I (aH (i:=7) I I)) ?_)
   have hAl:=jD (l:=g.aF) (T:=T) (Nx:=Nx) (S:=S) n;have hGl:=mM (T:=T) (Nx:=Nx) n;refine ku (i:=8) I I I I I I (λz h=>by cases h;rfl) J J I λz vA2=>?_;refine zL ?_;refine pF (eh y_ (λk=>x.FA k\/(ap (aj ⟨g10,0,ak⟩) (T+1) (T+1)).ownBlock=aj k) ((x.BK.map λv=>[v])++[[ap (aj ⟨g10,0,ak⟩) (T+1) (T+1)]]) (iG g.aF T Nx S n++[iy g.aF T Nx S n (T+1)])) 13 9 [0,1,2,3,4,5,6,7,8,10,11,12] akh I I I (λk hk=>hk.elim (λh=>by cases h) λh=>h.elim (λh=> .inr (.inr h)) λh=> .inl (.inl h)) (λw hr he=>mZ he (aaz (by rw[qk];exact hr)) (Ak hr)) ?_;refine zL ?_
   try refine GA ?_
   refine aW (i:=8) I λlD me=>bV (i:=7) I I I lD me I ?_;refine zL ?_
   try refine GA ?_
   refine jd 3 1 ?_
   conv=>arg 7;simp only[zA,zB,zC,zD,zE,zF,zG,zH,zI,cI,ret,id_eq]
   refine dT ([aP g1 (dM (T:Int) g.bC vp).cells 33,aZ 26 1 (ap (aj ⟨gN,0,ak⟩) Nx.length cN) Nx.length Ck,eh (bO fP) FN (Ck.map λv=>[v]) Nx,aP g5 #[ap (aj ⟨gS,0,ak⟩) S.length cS,ap (aj ⟨gN,0,ak⟩) Nx.length cN] 203]) (.calm 0 (.calm 2 (.calm 3 (.calm 4 (.calm 5 (.calm 6 (.calm 7 (.calm 8 (.calm 9 (.two 1 (.one 10 (.one 11 (.one 12 (.calm 13 (.one 14 (.done)))))) 10 (.two 1 (.one 11 (.one 12 (.calm 13 (.one 14 (.done))))) 11 (.one 1 (.one 12 (.calm 13 (.one 14 (.done)))))))))))))))) (bX [0,4,5,6]) ?_
   repeat(first|(refine GN ?_;first|refine QW QP ?_|refine QW (aB (v:=ap (aj ⟨gN,0,ak⟩) Nx.length cN) aK.ty I (aH (i:=3) I I)) ?_|refine QW (bU bM.eq aK.ty I I hnN) ?_|refine QW (aB (v:= .slice aq Nx[n].length cq) aK.ty I (jh (i:=1) I hnq)) ?_|refine QW (aB (v:=av az (T:Int)) aK.ty I (aH (i:=0) I I)) ?_|refine QW (rT (i:=T) bM.eq aK.ty I I hTN hcq) ?_|refine GX ?_)|refine GW ?_)
   refine eK I I ?ahX ?ahY
   case' ahX=>
    refine dx (aB (v:=x.vG) aK.ty I (aH (i:=7) I I)) I I I (aM (bX [0,4,5,6]) ?_);refine aL I (eM (i:=13) (k:=Nx[n].length-T) I (hSub _ 5 I) I I aes aet J J I λvI=>aM (bX [0,4,5,6]) ?_);refine aL I (aW (i:=13) I λhw1 hw2=>fN (cs:=#[vI]) I hw1 I I I λg86=>aM (bX [0,4,5,6]) ?_)
   case' ahY=>
    refine eM (i:=13) (k:=Nx[n].length-T) I (hSub _ 5 I) I I aes aet J J I λvI=>aM (bX [0,4,5,6]) ?_;refine eK I I ?ahZ ?ah0
   case' ahZ=>
    refine dx (aB (v:=x.vG) aK.ty I (aH (i:=7) I I)) I I I (aM (bX [0,4,5,6]) ?_);refine aL I (aW (i:=13) I λhw1 hw2=>fN (cs:=#[vI]) I hw1 I I I λg86=>aM (bX [0,4,5,6]) ?_)
   case' ah0=>
    refine aW (i:=13) I λhw1 hw2=>fN (cs:=#[vI]) I hw1 I I I λg86=>aM (bX [0,4,5,6]) ?_;refine aL I (dx (aB (v:=x.vG) aK.ty I (aH (i:=7) I I)) I I I (aM (bX [0,4,5,6]) ?_))
   all_goals
    refine aL I (l8 (i:=9) (q:=14) I I I I I hw2 J J I λvG2=>aM (bX [0,4,5,6]) ?_)
    try refine GW ?_
    refine aL I (aW (i:=9) I λlD me=>bV (i:=7) I I I lD me I (aM (bX [0,4,5,6]) ?_))
    try refine GW ?_
    refine oZ (eh (bO fP) (λk=>x.FG k\/vI.ownBlock=aj k) ((x.CV.map λv=>[v])++[[vI]]) (fM T Nx n++[(Nx.getD n []).drop T])) 13 10 [0,1,2,3,4,5,6,7,8,9,11,12] akh I I I (λk hk=>hk.elim (λh=>by cases h) λh=>h.elim (λh=> .inr (.inr h)) λh=> .inl (.inl h)) (λw hr he=>mZ he (hgo hr) (Ak hr)) ?_
    try refine GA ?_
    refine dm [0,1,2,3,4,5,6,7,8,11,9,12,10] ?_;exact bT (n+1,⟨vA2,x.BK++[ap (aj ⟨g10,0,ak⟩) (T+1) (T+1)],λk=>x.FA k\/(ap (aj ⟨g10,0,ak⟩) (T+1) (T+1)).ownBlock=aj k,vG2,x.CV++[vI],λk=>x.FG k\/vI.ownBlock=aj k⟩,vf) (by show n+1<=S.length;omega) (by show S.length-(n+1)<S.length-n;omega) (hl:=by dsimp only;rw[show(iG g.aF T Nx S (n+1)).length=(iG g.aF T Nx S n).length+1 by rw[jD,jD],show(fM T Nx (n+1)).length=(fM T Nx n).length+1 by rw[mM,mM],NK,KC,e7,e7];rfl)
  obtain rfl:n=S.length:=by omega
  refine iR (i:=8) I (λw h=>fF w h) λfJ=>?_;obtain⟨aA,cA,hvA,-⟩:=fJ;refine iR (i:=10) I (λw h=>fF w h) λfJ=>?_;obtain⟨aG,cG,hvG,-⟩:=fJ;obtain⟨vA,BK,FA,vG,CV,FG⟩:=x;dsimp only at hvA hvG⊢;subst hvA hvG
  repeat(first|refine GA ?_|refine gV (aO (i:=7) aK.ty I I I) ?_)
  refine ij 1 ?_;refine zL ?_
  try refine GA ?_
  exact fC (i:=1) I I I I I I λw hm=>hm.meets (S:=⟨λ(_:Rv×Value)=>True,λx=> .tuple #[aQ #[x.1.vA,x.1.vG],x.2,av az 0],λx=>[aZ 92 1 x.1.vA (iG g.aF T Nx S S.length).length x.1.BK,eh y_ x.1.FA (x.1.BK.map λv=>[v]) (iG g.aF T Nx S S.length),aZ 26 1 x.1.vG (fM T Nx S.length).length x.1.CV,eh (bO fP) x.1.FG (x.1.CV.map λv=>[v]) (fM T Nx S.length),aZ 208 6 x.2 (iZ g.aF T Nx S S.length).length ((iZ g.aF T Nx S S.length).flatMap NI)]⟩) (⟨ap aA _ cA,BK,FA,ap aG _ cG,CV,FG⟩,vf) trivial [8,9,10,11,12] akh I
 ·rw[if_pos c0]at hO
  rw[hO]
  repeat(first|refine GC ?_|refine gV (dl (b:=aC) I I (decide_eq_true c0)) ?_|refine gV (bD I C8) ?_|refine GB ?_)
  refine ij 1 ?_;refine zL ?_
  try refine GA ?_
  refine dN 92 1 (qM (eh y_ (λ_=>False) [] []) (λk hk=>hk.elim (λh=>by cases h) id) (λw=>jI) (dN 26 1 (qM (eh (bO fP) (λ_=>False) [] []) (λk hk=>hk.elim (λh=>by cases h) id) (λw=>jI) (dN 208 6 ?_))));exact fC (i:=1) I I I I I I λw hm=>hm.meets (S:=⟨λ(_:Rv×Value)=>True,λx=> .tuple #[aQ #[x.1.vA,x.1.vG],x.2,av az e],λx=>[aZ 92 1 x.1.vA 0 x.1.BK,eh y_ x.1.FA (x.1.BK.map λv=>[v]) [],aZ 26 1 x.1.vG 0 x.1.CV,eh (bO fP) x.1.FG (x.1.CV.map λv=>[v]) [],aZ 208 6 x.2 0 []]⟩) (⟨ap ak 0 0,[],λ_=>False,ap ak 0 0,[],λ_=>False⟩,ap ak 0 0) trivial [7,8,9,10,11] akh I
end bZ
namespace bZ
open Go.RowKit cK dS aU dL dP bJ cD
def BL(w:World)(t:Value)(A:List (List bJ.Act))(G:List (List Int)):Prop:=∃vA vG,t=aQ #[vA,vG]/\ky (bO wI) (λk=>k<w.heap.size) w vA A/\ky (bO fP) (λk=>k<w.heap.size) w vG G
theorem BL.gr{w w':World}{t:Value}{A:List (List bJ.Act)}{G:List (List Int)}(h:BL w t A G)(hg:Gr w w'):BL w' t A G:=let ⟨a,b,h1,h2,h3⟩:=h;⟨a,b,h1,h2.gr hg,h3.gr hg⟩
theorem adi{w:World}{x:Rv}{A:List (List bJ.Act)}{G:List (List Int)}(h1:(aZ 92 1 x.vA A.length x.BK).holds w)(h2:(eh y_ x.FA (x.BK.map λv=>[v]) A).holds w)(h3:(aZ 26 1 x.vG G.length x.CV).holds w)(h4:(eh (bO fP) x.FG (x.CV.map λv=>[v]) G).holds w):BL w (aQ #[x.vA,x.vG]) A G:=by
 have h1':(aZ 92 (bO wI).c x.vA A.length (x.BK.map λv=>[v]).flatten).holds w:=by rw[Fg];exact h1
 have h3':(aZ 26 (bO fP).c x.vG G.length (x.CV.map λv=>[v]).flatten).holds w:=by rw[Fg];exact h3
 exact⟨x.vA,x.vG,rfl,(yq h1' (aay h2) akh).mono λk hk=>yr h1' h2 k hk,(yq h3' h4 akh).mono λk hk=>yr h3' h4 k hk⟩
theorem KE{α:Type}{s:w8 α}{F:Nat->Prop}{w:World}{base:Option Addr}{n cap:Nat}{l:List (List α)}(h:ky (bO s) F w (ap base n cap) l){i:Nat}(hi:i<l.length):∃b off vi,base=aj ⟨b,off,ak⟩/\w.cell? ⟨b,off+i,ak⟩=aj vi/\ky s F w vi l[i]:=by
 obtain⟨M7,A9,e,_,_,h3⟩:=h
 cases e
 obtain⟨b,off,rfl,_,h4⟩:=h3 J;obtain⟨cs,⟨vi,rfl,h5⟩,h6⟩:=h4 i hi;refine⟨b,off,vi,rfl,?_,h5⟩;have:=h6 0 vi I
 rwa [show off+i*(bO s).c+0=off+i by show off+i*1+0=_;omega]at this
theorem nl{α:Type}{s:w8 α}{F:Nat->Prop}{w:World}{v:Value}{l:List α}(h:ky s F w v l):∃base cap,v=ap base l.length cap/\l.length<=cap/\cap<=9223372036854775807:=let ⟨b,c,h1,h2,h3,_⟩:=h;⟨b,c,h1,h2,by unfold maxLen at h3;omega⟩
def wJ(T P n:Nat)(x:bJ.Act)(c:Nat):Prop:=(x.1=0/\x.2=0)\/(x.1=1/\c<T/\0<=x.2/\x.2<(n:Int))\/(x.1=2/\0<=x.2/\x.2<(P:Int))\/(x.1=3/\x.2=0/\c=T)
theorem KF(T P n:Nat)(nn:Int)(bp:Option Addr)(cp:Nat)(aA:Option Addr)(cA:Nat)(vG:Value)(x:bJ.Act)(c:Nat)(h:wJ T P n x c)(w:World):
 Calls aD 132 #[dM (T:Int) nn (ap bp P cp),aQ #[ap aA n cA,vG],aQ (fw x).toArray,av az (c:Int)] w (bY (ret (.bool aC)) w):=by
 obtain⟨k,m⟩:=x;unfold wJ at h;dsimp only at h;refine enter (args:=[dM (T:Int) nn (ap bp P cp),aQ #[ap aA n cA,vG],aQ (fw (k,m)).toArray,av az (c:Int)]) (n:=59) Tryz.func132 I I I ?_;refine bW (bB (bP I I I λg4=>?_));refine zL ?_;refine bP I I I λg5=>?_;refine zL ?_;refine bP I I I λg6=>?_;refine zL ?_;rcases h with⟨rfl,rfl⟩|⟨rfl,h1,h2,h3⟩|⟨rfl,h1,h2⟩|⟨rfl,rfl,rfl⟩
 ·repeat(first|refine GA ?_|refine gV (aB (v:=av az 0) aK.ty I (aH (i:=2) I I)) ?_)
  exact eH
 ·repeat(first|refine GA ?_|refine gV (aB (v:=av az 1) aK.ty I (aH (i:=2) I I)) ?_|refine gV (aB (v:=av az m) aK.ty I (aH (i:=2) I I)) ?_|refine gV (aB (v:=av az (T:Int)) aK.ty I (aH (i:=0) I I)) ?_|refine gV (aB (v:=ap aA n cA) aK.ty I (aH (i:=1) I I)) ?_)
  exact eH
 ·repeat(first|refine GA ?_|refine gV (aB (v:=av az 2) aK.ty I (aH (i:=2) I I)) ?_|refine gV (aB (v:=av az m) aK.ty I (aH (i:=2) I I)) ?_|refine gV (aB (v:=ap bp P cp) aK.ty I (aH (i:=0) I I)) ?_)
  exact eH
 ·repeat(first|refine GA ?_|refine gV (aB (v:=av az 3) aK.ty I (aH (i:=2) I I)) ?_|refine gV (aB (v:=av az 0) aK.ty I (aH (i:=2) I I)) ?_|refine gV (aB (v:=av az (c:Int)) aK.ty I (aH (i:=0) I I)) ?_)
  exact eH
structure so(g:ep)(T N:Nat)(A:List (List bJ.Act))(G:List (List Int)):Prop where
 KG:cz g=0
 aT:g.aT=(T:Int)
 bC:g.bC=(N:Int)
 pos:0<A.length
 we:A.length<=200
 same:G.length=A.length
 wA:∀i (h:i<A.length),A[i].length=T+1
 dK:∀i (h:i<A.length),∀c (hc:c<A[i].length),wJ T g.aF.length A.length A[i][c] c
 wG:∀i (h:i<G.length),G[i].length=N
 gos:∀i (h:i<G.length),∀y∈G[i],-1<=y/\y<(A.length:Int)
theorem xQ(v t:Value)(g:ep)(T N:Nat)(A:List (List bJ.Act))(G:List (List Int))(h:so g T N A G)(w:World)(hG:kK (λk=>k<w.heap.size) w v g)(ht:BL w t A G):
 Calls aD 91 #[v,t] w (bY (ret (av az 0)) w):=by
 have jw:=λw' (hg:Gr w w')=>kj v g w' (hG.gr hg);obtain⟨vp,rfl,hp,-,-⟩:=hG;obtain⟨bp,cp,rfl,-⟩:=hp;obtain⟨vA,vG,rfl,hA,hGo⟩:=ht;obtain⟨aA,cA,rfl,-,-⟩:=nl hA;obtain⟨aG,cG,rfl,-,-⟩:=nl hGo;obtain⟨hg,Kc,hNn,An,QT,vd,hwA,adj,hwG,aaD⟩:=h;obtain⟨hT1,hT2,-,Yc,Ci,-⟩:=cV hg;rw[hg]at jw;rw[Kc,hNn]at jw⊢;refine enter (args:=[dM (T:Int) (N:Int) (ap bp g.aF.length cp),aQ #[ap aA A.length cA,ap aG G.length cG]]) (n:=93) Tryz.func91 I I I ?_;refine bW (bB (bP I I I λg2=>?_));refine zL ?_;refine bP I I I λg3=>?_;refine zL ?_
 repeat(first|refine GA ?_|refine gV (aO (i:=0) aK.ty I I I) ?_)
 refine aV (i_ aI.en I I) (λw hm=>jw w hm.below) I I I ?_;intro _ _;refine zL ?_
 repeat(first|refine GA ?_|refine gV (aB (v:=ap aA A.length cA) aK.ty I (aH (i:=1) I I)) ?_|refine gV (aB (v:=ap aG G.length cG) aK.ty I (aH (i:=1) I I)) ?_)
 clear jw;refine d_ (ι:=Nat) (λi=>i<=A.length) (λi=>[(2,aJ (aj ⟨g2,0,ak⟩)),(3,aJ (aj ⟨g3,0,ak⟩)),(6,av az (A.length:Int)),(31,av az (A.length:Int)),(32,av az (i:Int))])
  (λ_=>[aP g2 (dM (T:Int) (N:Int) (ap bp g.aF.length cp)).cells 33,aP g3 (aQ #[ap aA A.length cA,ap aG G.length cG]).cells 36]) (λi=>A.length-i) 0 (bH _) ?_
 intro i i1
 by_cases c1:i<A.length
 ·have c1G:i<G.length:=by omega
  obtain⟨bA,oA,vi,rfl,hcA,hsA⟩:=KE hA c1;obtain⟨bG,oG,wi,rfl,hcG,hsG⟩:=KE hGo c1G;obtain⟨ai,ci,rfl,hci,aka⟩:=nl hsA;obtain⟨ei,di,rfl,hdi,ah1⟩:=nl hsG;have hfA:=hsA.flat (f:=fw) akh;have hfG:=hsG.flat (f:=λn=>[av .i64 n]) akh;have akb:=hwA i c1;have akc:=hwG i c1G;have ah2:=adj i c1;have ah3:=aaD i c1G;obtain⟨_,_,e1,-,-,hrA⟩:=hfA
  cases e1
  obtain⟨_,_,e2,-,-,hrG⟩:=hfG
  cases e2
  clear hsA hsG adj aaD hwA hwG;have adk:∀L,At (w:bL) L ⟨bA,oA+i,ak⟩ (.slice ai A[i].length ci):=λL=>kJ hcA;have adl:∀L,At (w:bL) L ⟨bG,oG+i,ak⟩ (.slice ei G[i].length di):=λL=>kJ hcG;generalize A[i]=X at*;generalize G[i]=Y at*
  try refine GA ?_
  refine dT ([aP g2 (dM (T:Int) (N:Int) (ap bp g.aF.length cp)).cells 33,aP g3 (aQ #[ap (aj ⟨bA,oA,ak⟩) A.length cA,ap (aj ⟨bG,oG,ak⟩) G.length cG]).cells 36]) (.calm 0 (.calm 1 (.calm 2 (.calm 3 (.calm 4 (.calm 5 (.calm 6 (.calm 7 (.calm 8 (.calm 9 (.calm 10 (.calm 11 (.calm 12 (.calm 13 (.calm 14 (.calm 15 (.calm 16 (.calm 17 (.calm 18 (.calm 19 (.calm 20 (.done)))))))))))))))))))))) (λ_ h=>h) ?_
  repeat(first|refine GW ?_|(refine GN ?_;first|refine QW (aB (v:=ap (aj ⟨bA,oA,ak⟩) A.length cA) aK.ty I (aH (i:=1) I I)) ?_|refine QW (bU bM.eq aK.ty I I c1) ?_|refine QW (aB (v:=ap ai X.length ci) aK.ty I (adk _)) ?_|refine QW (aB (v:=av az (T:Int)) aK.ty I (aH (i:=0) I I)) ?_|refine QW (aB (v:=ap (aj ⟨bG,oG,ak⟩) G.length cG) aK.ty I (aH (i:=1) I I)) ?_|refine QW (bU bM.eq aK.ty I I c1G) ?_|refine QW (aB (v:=ap ei Y.length di) aK.ty I (adl _)) ?_|refine QW (aB (v:=av az (N:Int)) aK.ty I (aH (i:=0) I I)) ?_))
  repeat(first|refine GA ?_|refine gV (aB (v:=ap (aj ⟨bA,oA,ak⟩) A.length cA) aK.ty I (aH (i:=1) I I)) ?_|refine gV (bU bM.eq aK.ty I I c1) ?_|refine gV (aB (v:=ap ai X.length ci) aK.ty I (adk _)) ?_)
  refine d_ (ι:=Nat) (λc=>c<=X.length) (λc=>[(2,aJ (aj ⟨g2,0,ak⟩)),(3,aJ (aj ⟨g3,0,ak⟩)),(6,av az (A.length:Int)),(7,av az (i:Int)),(31,av az (A.length:Int)),(32,av az (i:Int)),(60,ap ai X.length ci),(61,av az (X.length:Int)),(62,av az (c:Int))])
   (λ_=>[aP g2 (dM (T:Int) (N:Int) (ap bp g.aF.length cp)).cells 33,aP g3 (aQ #[ap (aj ⟨bA,oA,ak⟩) A.length cA,ap (aj ⟨bG,oG,ak⟩) G.length cG]).cells 36]) (λc=>X.length-c) 0 (bH _) ?_
  intro c j1
  by_cases c2:c<X.length
  ·obtain⟨b,off,rfl,eP⟩:=hrA J
   have dy:=λL=>ib (L:=L) sn eP c2;have E6:∀(L:List b9) (j:Nat) (u:Value),(fw X[c])[j]?=aj u->At (w:bL) L ⟨b,off+c*2+j,ak⟩ u:=dy;have Tr:=ah2 c c2;clear dy;generalize X[c]=x at*;have hrc:=KF T g.aF.length A.length (N:Int) bp cp (aj ⟨bA,oA,ak⟩) cA (ap (aj ⟨bG,oG,ak⟩) G.length cG) x c Tr
   repeat(first|refine GA ?_|refine gV (aY bM.eq aK.ty I I c2) ?_|refine gV (bm (cs:=fw x) aK.ty I I (E6 _)) ?_)
   refine a8 I λg9=>?_;refine zL ?_
   try refine GA ?_
   refine ij 2 (cs':=(fw x).toArray) ?_;refine zL ?_
   repeat(first|refine GA ?_|refine gV (aO (i:=0) aK.ty I I I) ?_|refine gV (aO (i:=1) aK.ty I I I) ?_|refine gV (aO (i:=2) aK.ty I I I) ?_)
   refine aV (UA aI.en I I I I I) (λw hm=>hrc w) I I I ?_;intro _ _;refine zL ?_
   try refine GA ?_
   refine dm [0,1] ?_;exact bT (c+1) J (by show X.length-(c+1)<X.length-c;omega)
  obtain rfl:c=X.length:=by omega
  repeat(first|refine GA ?_|refine gV (aB (v:=ap (aj ⟨bG,oG,ak⟩) G.length cG) aK.ty I (aH (i:=1) I I)) ?_|refine gV (bU bM.eq aK.ty I I c1G) ?_|refine gV (aB (v:=ap ei Y.length di) aK.ty I (adl _)) ?_)
  refine d_ (ι:=Nat) (λc=>c<=Y.length) (λc=>[(2,aJ (aj ⟨g2,0,ak⟩)),(3,aJ (aj ⟨g3,0,ak⟩)),(6,av az (A.length:Int)),(31,av az (A.length:Int)),(32,av az (i:Int)),(78,ap ei Y.length di),(79,av az (Y.length:Int)),(80,av az (c:Int))])
   (λ_=>[aP g2 (dM (T:Int) (N:Int) (ap bp g.aF.length cp)).cells 33,aP g3 (aQ #[ap (aj ⟨bA,oA,ak⟩) A.length cA,ap (aj ⟨bG,oG,ak⟩) G.length cG]).cells 36]) (λc=>Y.length-c) 0 (bH _) ?_
  intro c k1
  by_cases c3:c<Y.length
  ·obtain⟨b,off,rfl,eP⟩:=hrG J
   have dy:=λL=>ib (L:=L) (f:=λn=>[av .i64 n]) (c:=1) (λ_=>rfl) eP c3 0 _ I;have E6:∀(L:List b9),At (w:bL) L ⟨b,off+c*1+0,ak⟩ (av az Y[c]):=dy;have hgo:=ah3 Y[c] (b_ c3);clear dy;generalize Y[c]=y at*
   repeat(first|refine GA ?_|refine gV (aY bM.eq aK.ty I I c3) ?_|refine gV (aB (v:=av az y) aK.ty I (E6 _)) ?_)
   exact bT (c+1) J (by show Y.length-(c+1)<Y.length-c;omega)
  obtain rfl:c=Y.length:=by omega
  try refine GA ?_
  exact bT (i+1) J (by show A.length-(i+1)<A.length-i;omega)
 ·obtain rfl:i=A.length:=by omega
  try refine GA ?_
  exact eH
def aeu(g:ep):Bool:=decide ((iH g).2.2.2=0)&&decide ((iH g).2.2.1.length=0)
end bZ
namespace bZ
open Go.RowKit cK dS aU dL eO
theorem RB(w:World):(df 148 (#[]:Array (Nat×Value))).run aD w= .ok (aQ (eC (0,0)).toArray) w:=by
 unfold eC;go_simp
set_option maxRecDepth 100000 in
theorem Ha(g:ep)(b:Option Addr)(cp:Nat)(d:TD)(w:World)(hd:ry g d):Calls aD 182 #[dM g.aT g.bC (ap b g.aF.length cp),Lw d] w (bY (ret (.bool aC)) w):=by
 cases d with
 | close p=>
  obtain⟨h1,h2⟩:=hd;refine enter (args:=[dM g.aT g.bC (ap b g.aF.length cp),Lw (.close p)]) (n:=65) Tryz.func182 I I I<|bW (bB (bP I I I λg0=>bP I I I λg1=>?_))
  repeat(first|refine GC ?_|refine gV (aB (v:= .bool aC) aK.ty I (aH (i:=1) I I)) ?_|refine gV (aB (v:=av az p) aK.ty I (aH (i:=1) I I)) ?_|refine gV (aB aK.ty I (aH (i:=0) I I)) ?_|refine gV (bm (cs:=eC (0,0)) aK.ty I I (λj v hj=>aH (i:=1) I (by match j,hj with|0,h=>exact h|1,h=>exact h))) ?_|refine gV (bD I (RB)) ?_|refine gV (D6 (b:=aC) I I (by kernel_rfl) (λw=>by rw[YO];rfl)) ?_|refine GB ?_)
  exact eH
 | sym x=>
  obtain⟨k,m⟩:=x;have hd:right g.aT g.bC (k,m)=true:=hd;unfold right at hd
  by_cases c1:k=1
  ·subst c1
   rw[if_pos I]at hd;simp only[eX,decide_eq_true_eq]at hd;refine enter (args:=[dM g.aT g.bC (ap b g.aF.length cp),Lw (.sym (1,m))]) (n:=65) Tryz.func182 I I I<|bW (bB (bP I I I λg0=>bP I I I λg1=>?_))
   repeat(first|refine GA ?_|refine gV (aB (v:= .bool aE) aK.ty I (aH (i:=1) I I)) ?_|refine gV (aB (v:=av az 1) aK.ty I (aH (i:=1) I I)) ?_|refine gV (aB (v:=av az 0) aK.ty I (aH (i:=1) I I)) ?_|refine gV (aB (v:=av az m) aK.ty I (aH (i:=1) I I)) ?_|refine gV (aB aK.ty I (aH (i:=0) I I)) ?_)
   exact eH
  rw[if_neg c1]at hd
  by_cases c2:k=2
  ·subst c2
   rw[if_pos I]at hd;simp only[eX,decide_eq_true_eq]at hd;refine enter (args:=[dM g.aT g.bC (ap b g.aF.length cp),Lw (.sym (2,m))]) (n:=65) Tryz.func182 I I I<|bW (bB (bP I I I λg0=>bP I I I λg1=>?_))
   repeat(first|refine GA ?_|refine gV (aB (v:= .bool aE) aK.ty I (aH (i:=1) I I)) ?_|refine gV (aB (v:=av az 2) aK.ty I (aH (i:=1) I I)) ?_|refine gV (aB (v:=av az 0) aK.ty I (aH (i:=1) I I)) ?_|refine gV (aB (v:=av az m) aK.ty I (aH (i:=1) I I)) ?_|refine gV (aB aK.ty I (aH (i:=0) I I)) ?_)
   exact eH
  simp_all
theorem FW(g:ep)(b:Option Addr)(cp:Nat)(d:TD)(gg:Nat)(w:World)(hd:ry g d)(hg:w.heap[gg]?=aj (.cells (dM g.aT g.bC (ap b g.aF.length cp)).cells 33 (0,0))):
 Calls aD 181 #[Lw d,aJ (aj ⟨gg,0,ak⟩)] w (bY (ret (.bool aE)) w):=by
 have hcell:∀(L:List b9) (j:Nat) (v:Value),([av az g.aT,av az g.bC,ap b g.aF.length cp]:List Value)[j]?=aj v->At w L ⟨gg,0+j,ak⟩ v:=λL j v hj=>kJ (by
  rw[cell_of_row w gg (0+j) _ _ _ hg,cX];show(#[av az g.aT,av az g.bC,ap b g.aF.length cp]:Array Value)[j]?=aj v
  simp_all)
 have hr:=Ha g b cp d;refine enter (args:=[Lw d,aJ (aj ⟨gg,0,ak⟩)]) (n:=8) Tryz.func181 I I I<|bW (bB (bP I I I λg0=>?_))
 repeat(first|refine GL ?_|refine gV (bm aK.ty I I (hcell _)) ?_)
 refine aV (fB aI.en I I I) (λw hm=>hr w hd) I I I ?_;intro _ _
 refine GA ?_
 exact eH
abbrev TdR(w:World)(vt:Value)(st:List TD):Prop:=Sl w vt st.length (st.reverse.flatMap xN)
theorem sq(v vr vt:Value)(g:ep)(ll:List (List Int))(st:List TD)(seen col:Int)(w:World)(h:kK (λk=>k<w.heap.size) w v g)(hr:Aw w vr ll)(ht:TdR w vt st)(h0:FQ g ll=0)(hs:∀d∈st,ry g d)(hl:st.length<=60)(h1:0<=seen)(h2:seen<=1099511627776)(h3:0<=col)(h4:col<=g.aT):
 Calls aD 163 #[v,vr,t_ vt seen 0 aE,av az col] w (bY (ret (av az 0)) w):=by
 have jw:=λw' (hg:Gr w w')=>xP v vr g ll w' (h.gr hg) (hr.gr hg);rw[h0]at jw;obtain⟨vp,rfl,hp,_⟩:=h;obtain⟨bp,cp,rfl,_⟩:=hp;have Lr:=λw' (hg:Gr w w') gg (hb:w'.heap[gg]?=aj (.cells (dM g.aT g.bC (ap bp g.aF.length cp)).cells 33 (0,0)))=>uh vt st.reverse w' (by rw[Kr];exact ht.gr hg) 181 #[] #[aJ (aj ⟨gg,0,ak⟩)] (λ_=>aE) aI.en (λa ha Gz uf=>FW g bp cp a gg Gz (hs a (Z6.1 ha)) (by rw[uf.block gg (jx.1 hb).1];exact hb));have FX:st.reverse.any (λ_=>aE)=false:=by simp
 rw[FX]at Lr;obtain⟨bt,ct,rfl,_⟩:=ht;refine enter (args:=[dM g.aT g.bC (ap bp g.aF.length cp),vr,t_ (ap bt st.length ct) seen 0 aE,av az col]) (n:=54) Tryz.func163 I I I<|bW (bB (bP I I I λg0=>bP I I I λg1=>?_))
 refine GM ?_
 refine aV (fB aI.en I I I) (λw hm=>jw _ hm.below) I I I ?_;intro _ _;refine zL ?_
 repeat(first|refine GL ?_|refine gV (w7 I I) ?_)
 refine aV (fB aI.en I I I) (λw hm=>Lr _ hm.below _ (hm.get (i:=0) I)) I I I ?_;intro _ _;refine zL ?_
 refine GM ?_
 exact eH
end bZ
namespace bZ
open Go.RowKit cK dS aU dL eO
def jb(ll:List (List Int))(col:Nat)(n:Int):Int:=(ll.getD n.toNat []).getD col (-1)
structure FY(g:ep)(ll:List (List Int))(T N:Nat):Prop where
 aT:g.aT=T
 bC:g.bC=N
 len:ll.length=N
 row:∀r∈ll,r.length=T+1
 nx:∀col,acO g.aF (jb ll col)
theorem aaE{l:List aU.Prod}{nx:Int->Int}{f:Nat}{st:List TD}{out:List dr}{a:Nat}(h:(bR st out a).2.2.2=aE):fS l nx (f+1) st out a=((bR st out a).1,(bR st out a).2.1,(bR st out a).2.2.1,14):=by
 rw[fS,if_pos h]
theorem aaF{l:List aU.Prod}{nx:Int->Int}{f:Nat}{st:List TD}{out:List dr}{a:Nat}(h:(bR st out a).2.2.2=aC)(h2:(bR st out a).1=[]):fS l nx (f+1) st out a=([],(bR st out a).2.1,(bR st out a).2.2.1,0):=by
 rw[fS,if_neg (by simp[h])];simp only[h2]
theorem aaG{l:List aU.Prod}{nx:Int->Int}{f:Nat}{st:List TD}{out:List dr}{a:Nat}{x:dr}{r:List TD}(h:(bR st out a).2.2.2=aC)(h2:(bR st out a).1= .sym x::r):
 fS l nx (f+1) st out a=if x.1=1 then(.sym x::r,(bR st out a).2.1,(bR st out a).2.2.1,0)else if nx x.2<0 then(.sym x::r,(bR st out a).2.1,(bR st out a).2.2.1,13)
  else if(bR st out a).2.2.1+1<=2000/\(opened l (nx x.2) r).length<=60 then fS l nx f (opened l (nx x.2) r) ((bR st out a).2.1++[(1,nx x.2)]) ((bR st out a).2.2.1+1)
  else(opened l (nx x.2) r,(bR st out a).2.1++[(1,nx x.2)],(bR st out a).2.2.1+1,14):=by
 rw[fS,if_neg (by simp[h])];simp only[h2]
def dwS(gw:Nat)(t n:Int)(vp:Value)(R:List TD×List dr×Nat×Int):Spec (Value×Value):=⟨λ_=>True,λ_=>av az R.2.2.2,λx=>[yW gw t n vp x.1 x.2 R.2.2.1,xz x.1 R.1,jY x.2 R.2.1]⟩
theorem Ct(w0:World)(gw:Nat)(t n:Int)(vp vr:Value)(g:ep)(ll:List (List Int))(T N col:Nat)(hG:ky oR (λk=>k<w0.heap.size) w0 vp g.aF)(hR:Aw w0 vr ll)(hg:cz g=0)(hT:FY g ll T N)(akd:col<=T)
 (ZG ZH:Value) (WM:List TD) (w:World) (B:bL) (Py:∀d∈WM,ry g d) (hl0:WM.length<=60) (ho:qx w0 B) (hm:Mem B [yW gw t n vp ZG ZH 0,xz ZG WM,jY ZH []] w):
 Calls aD 166 #[aJ (aj ⟨gw,0,ak⟩),vr,av az (col:Int)] w (da (dwS gw t n vp (fS g.aF (jb ll col) 2001 WM [] 0)) B):=by
 obtain⟨a1,a2,a3,a4,a5,a6⟩:=cV hg;have Tu:=λp hp vt vo d r out dK w B h1 h2 h3 ho hm=>Q2 w0 gw t n vp g.aF hG J p hp (a6 _ (b_ hp)).1 vt vo d r out dK w B h1 h2 h3 ho hm;have wg:=hT.nx col;obtain⟨br,cr,rfl,WD,ul,Ex⟩:=hR;unfold maxLen at ul;refine dB hm (args:=[aJ (aj ⟨gw,0,ak⟩),ap br ll.length cr,av az (col:Int)]) (n:=60) Tryz.func166 I I I ?_;clear hm
 try refine GA ?_
 generalize hD:fS g.aF (jb ll col) 2001 WM [] 0=D;refine d_ (ι:=Nat×List TD×List dr×Nat×Value×Value) (λ(f,st,out,dK,_,_)=>fS g.aF (jb ll col) f st out dK=D/\2001<=f+dK/\st.length<=60/\dK<=2000/\out.length=dK/\∀d∈st,ry g d) (λ_=>[(0,aJ (aj ⟨gw,0,ak⟩)),(1,ap br ll.length cr),(2,av az (col:Int))])
  (λ(_,st,out,dK,vt,vo)=>[yW gw t n vp vt vo dK,xz vt st,jY vo out]) (λ(f,_,_,_,_,_)=>f) (2001,WM,[],0,ZG,ZH) ⟨hD,by omega,hl0,by omega,rfl,Py⟩ ?_
 clear hD Py hl0;rintro⟨f,st,out,dK,vt,vo⟩ ⟨hD,h1,h2,h3,h4,h5⟩;dsimp only at hD h1 h2 h3 h4 h5⊢;obtain⟨f,rfl⟩:∃f',f=f'+1:=⟨f-1,by omega⟩
 try refine GA ?_
 refine bx [0,1,2] [] akh I I (i_ aI.en I I) (λw hm hb=>sf gw t n vp vt vo st out dK w _ J h3 h4 hb) I I I ?_;obtain⟨z1,z2,z3,z4⟩:=@tr st out dK;have z5:=se (out:=out) (a:=dK) h5;rintro⟨ZJ,vo1⟩ _
 conv=>arg 8;simp only[zJ,cI,ret,id_eq,clS,eI]
 have hno:=@aaE g.aF (jb ll col) f st out dK;have afX:=@aaF g.aF (jb ll col) f st out dK;have ah4:=λx r=>@aaG g.aF (jb ll col) f st out dK x r;have ah5:=@yT st out dK;generalize bR st out dK=C at*;obtain⟨st1,ig,TS,ok⟩:=C;dsimp only at*
 cases ok with
 | false=>
  rw[hno I]at hD;subst hD
  try refine GA ?_
  exact cO I I λw hm=>hm.cC (S:=dwS gw t n vp (st1,ig,TS,14)) (ZJ,vo1) trivial [0,1,2] akh I
 | true=>
  have zz3:=z3 I h3;clear z3;rcases ah5 rfl with rfl|⟨x,r,rfl⟩
  ·rw[afX I I]at hD
   subst hD
   try refine GA ?_
   refine dT ([yW gw t n vp ZJ vo1 TS,xz ZJ []]) (.calm 0 (.calm 1 (.calm 2 (.calm 3 (.calm 4 (.calm 5 (.calm 6 (.calm 7 (.calm 8 (.calm 9 (.calm 10 (.calm 11 (.calm 12 (.calm 13 (.calm 14 (.calm 15 (.calm 16 (.calm 17 (.calm 18 (.calm 19 (.calm 20 (.calm 21 (.calm 22 (.done)))))))))))))))))))))))) (bX [0,1]) ?_
   repeat(first|(refine GN ?_;first|refine QW QP ?_|refine QW (aB (v:=ZJ) aK.ty I (aH (i:=0) I I)) ?_|refine QW (fg (i:=1) bM.eq I I) ?_|refine QW (cZ (b:=aC) I I I) ?_|refine GX ?_)|refine GW ?_)
   try refine GA ?_
   exact cO I I λw hm=>hm.cC (S:=dwS gw t n vp ([],ig,TS,0)) (ZJ,vo1) trivial [0,1,2] akh I
  have Lv:=ah4 x r I I;simp only[db]at z1;have z6:right g.aT g.bC x=true:=z5 _ (ia ..);have z7:=λd hd=>z5 d (jR _ hd);clear hno afX ah5 ah4
  try refine GA ?_
  refine yw (i:=1) I (by simp) λgt ct hv q1 q2=>?_;subst hv;simp only[db]at*;obtain⟨k,m⟩:=x
  by_cases c1:k=1
  ·subst c1
   rw[if_pos I]at Lv;rw[Lv]at hD;subst hD;refine dT ([yW gw t n vp (ap (aj ⟨gt,0,ak⟩) (r.length+1) ct) vo1 TS,xz (ap (aj ⟨gt,0,ak⟩) (r.length+1) ct) (.sym (1,m)::r)]) (.calm 0 (.calm 1 (.calm 2 (.calm 3 (.calm 4 (.calm 5 (.calm 6 (.calm 7 (.calm 8 (.calm 9 (.calm 10 (.calm 11 (.calm 12 (.calm 13 (.calm 14 (.calm 15 (.calm 16 (.calm 17 (.calm 18 (.calm 19 (.calm 20 (.calm 21 (.calm 22 (.done)))))))))))))))))))))))) (bX [0,1]) ?_
   repeat(first|(refine GN ?_;first|refine QW QP ?_|refine QW (aB (v:=ap (aj ⟨gt,0,ak⟩) (r.length+1) ct) aK.ty I (aH (i:=0) I I)) ?_|refine QW (eL (r:=(r.length:Int)) I I J J J) ?_|refine QW (aY (j:=r.length) bM.eq aK.ty I I J) ?_|refine QW (aB (v:=av az 1) aK.ty I (Cn (i:=1) I 2 _ I)) ?_|refine QW (cZ (b:=aE) I I (decide_eq_false J)) ?_|refine QW (cZ (b:=aC) I I I) ?_|refine GX ?_)|refine GW ?_)
   try refine GA ?_
   exact cO I I λw hm=>hm.cC (S:=dwS gw t n vp (.sym (1,m)::r,ig,TS,0)) (_,vo1) trivial [0,1,2] akh I
  rw[if_neg c1]at Lv;unfold right at z6;dsimp only at z6;rw[if_neg c1]at z6
  by_cases c2:k=2
  ·subst c2
   rw[if_pos I]at z6;simp only[eX,decide_eq_true_eq]at z6;obtain⟨q,rfl⟩:∃q:Nat,m=q:=⟨m.toNat,by omega⟩;have hq:q<ll.length:=by rw[hT.len];have:=hT.bC;omega
   obtain⟨b,off,rfl,_,eP⟩:=Ex J;obtain⟨vi,y1,y2⟩:=TR eP hq;have J2:=hT.row _ (b_ hq);have ah6:jb ll col (q:Int)=ll[q].getD col (-1):=by unfold jb;rw[dF,cB (l:=ll),bK hq];rfl
   have lT:=wg (q:Int);rw[ah6]at lT;dsimp only at Lv;rw[ah6]at Lv;generalize ll[q]=row at*;obtain⟨bi,ci,rfl,w1,w2,w3⟩:=y2;obtain⟨b3,adm,rfl,NL⟩:=w3 J;have hc:row[col]?=aj (row.getD col (-1)):=by rw[cB,bK J];rfl
   have J7:∀L,At B L ⟨b,off+q,ak⟩ (ap (aj ⟨b3,adm,ak⟩) row.length ci):=λL=>iX ho y1;have rm:∀L,At B L ⟨b3,adm+col,ak⟩ (av az (row.getD col (-1))):=λL=>iX ho (NL col _ (by rw[fe,hc];rfl));clear eP y1 NL w3 Ex;generalize row.getD col (-1)=p at*;refine dT ([yW gw t n vp (ap (aj ⟨gt,0,ak⟩) (r.length+1) ct) vo1 TS,xz (ap (aj ⟨gt,0,ak⟩) (r.length+1) ct) (.sym (2,(q:Int))::r)]) (.calm 0 (.calm 1 (.calm 2 (.calm 3 (.calm 4 (.calm 5 (.calm 6 (.calm 7 (.calm 8 (.calm 9 (.calm 10 (.calm 11 (.calm 12 (.calm 13 (.calm 14 (.calm 15 (.calm 16 (.calm 17 (.calm 18 (.calm 19 (.calm 20 (.calm 21 (.calm 22 (.done)))))))))))))))))))))))) (bX [0,1]) ?_
   repeat(first|(refine GN ?_;first|refine QW QP ?_|refine QW (aB (v:=ap (aj ⟨gt,0,ak⟩) (r.length+1) ct) aK.ty I (aH (i:=0) I I)) ?_|refine QW (eL (r:=(r.length:Int)) I I J J J) ?_|refine QW (aY (j:=r.length) bM.eq aK.ty I I J) ?_|refine QW (aB (v:=av az 2) aK.ty I (Cn (i:=1) I 2 _ I)) ?_|refine QW (cZ (b:=aE) I I (decide_eq_false J)) ?_|refine GX ?_)|refine GW ?_)
   try refine GA ?_
   refine dT ([yW gw t n vp (ap (aj ⟨gt,0,ak⟩) (r.length+1) ct) vo1 TS,xz (ap (aj ⟨gt,0,ak⟩) (r.length+1) ct) (.sym (2,(q:Int))::r)]) (.calm 0 (.calm 1 (.calm 2 (.calm 3 (.calm 4 (.calm 5 (.calm 6 (.calm 7 (.calm 8 (.calm 9 (.calm 10 (.calm 11 (.calm 12 (.calm 13 (.calm 14 (.calm 15 (.calm 16 (.calm 17 (.calm 18 (.calm 19 (.calm 20 (.done)))))))))))))))))))))) (bX [0,1]) ?_
   repeat(first|(refine GN ?_;first|refine QW QP ?_|refine QW (aB (v:=ap (aj ⟨gt,0,ak⟩) (r.length+1) ct) aK.ty I (aH (i:=0) I I)) ?_|refine QW (eL (r:=(r.length:Int)) I I J J J) ?_|refine QW (aY (j:=r.length) bM.eq aK.ty I I J) ?_|refine QW (aB (v:=av az (q:Int)) aK.ty I (Cn (i:=1) I 3 _ I)) ?_|refine QW (bU (j:=q) bM.eq aK.ty I I hq) ?_|refine QW (aB aK.ty I (J7 _)) ?_|refine QW (bU (j:=col) bM.eq aK.ty I I J) ?_|refine QW (aB aK.ty I (rm _)) ?_|refine GX ?_)|refine GW ?_)
   by_cases c3:p<0
   ·rw[if_pos c3]at Lv
    rw[Lv]at hD;subst hD
    try refine GA ?_
    exact cO I I λw hm=>hm.cC (S:=dwS gw t n vp (.sym (2,(q:Int))::r,ig,TS,13)) (_,vo1) trivial [0,1,2] akh I
   rw[if_neg c3]at Lv;obtain⟨pn,rfl⟩:∃pn:Nat,p=pn:=⟨p.toNat,by omega⟩;have hpn:pn<g.aF.length:=by have:=(lT J).1;omega
   have hop:=Tu pn hpn;have hoo:=BA hg (p:=(pn:Int)) J J z7
   try refine GA ?_
   refine bx [0,1,2] [] akh I I (fB aI.en I I I) (λw hm hb=>hop _ vo1 (.sym (2,(q:Int))) r ig TS w _ J zz3 J (ho.on hm λo h=>ET h) hb) I I I ?_;rintro⟨Tv,WO⟩ _
   conv=>arg 8;simp only[zJ,cI,ret,id_eq,opS,eI]
   conv=>arg 7;simp only[opS]
   have SC:(opened g.aF (pn:Int) r).length=(opened g.aF (pn:Int) r).length:=rfl;generalize afK:opened g.aF (pn:Int) r=st2 at*
   by_cases c4:TS+1<=2000/\st2.length<=60
   ·rw[if_pos c4]at Lv
    rw[Lv]at hD;rw[decide_eq_true c4]
    try refine GA ?_
    refine dm [0,1,2] ?_;exact bT (f,st2,ig++[(1,(pn:Int))],TS+1,Tv,WO) ⟨hD,(by show 2001<=f+(TS+1);omega),c4.2,c4.1,(by show(ig++[(1,(pn:Int))]).length=TS+1;simp;omega),hoo⟩ (by show f<f+1;omega)
   rw[if_neg c4]at Lv;rw[Lv]at hD;subst hD;rw[decide_eq_false c4]
   try refine GA ?_
   exact cO I I λw hm=>hm.cC (S:=dwS gw t n vp (st2,ig++[(1,(pn:Int))],TS+1,14)) (Tv,WO) trivial [0,1,2] akh I
  rw[if_neg c2]at z6;cases z6
end bZ
namespace bJ
open aU dL f_ dP cD yJ
open CL (z_)
section
variable(l:List aU.Prod)(act:Nat->Nat->Act)(gt:Nat->Int->Int)
def CW(σ:List Nat)(p:Int):Option (List Nat):=match σ.drop (dc l p).2.length with
 |r::ρ=>if 0<=gt r (dc l p).1 then aj ((gt r (dc l p).1).toNat::r::ρ)else ak
 |[]=>ak
def gO(col a:Nat):Nat->List Nat->List dr->Int×List Nat×List dr
 |0,_,_=>(14,[],[])
 | f +1,σ,o=>
  if f=0/\(act (σ.headD 0) col).1≠0 then(14,[],[])
  else if(act (σ.headD 0) col).1=3 then(0,σ,o)
  else if(act (σ.headD 0) col).1=1 then(if 60<σ.length+1 then(14,[],[])else(0,(act (σ.headD 0) col).2.toNat::σ,o++[(2,(a:Int))]))
  else if(act (σ.headD 0) col).1=2 then(match CW l gt σ (act (σ.headD 0) col).2 with
   |none=>(13,[],[])
   |some σ'=>if 60<σ'.length then(14,[],[])else gO col a f σ' (o++[(4,(act (σ.headD 0) col).2)]))
  else(13,[],[])
end
section
variable{l:List aU.Prod}{act:Nat->Nat->Act}{gt:Nat->Int->Int}{T N:Nat}{lk:Int->Int->Nat}{Nx:List (List Int)}{S:List (List Item)}
structure ajp(l:List aU.Prod)(act:Nat->Nat->Act)(gt:Nat->Int->Int)(T N:Nat)(Nx:List (List Int))(S:List (List Item)):Prop where
 act:∀q c,q<S.length->c<=T->act q c=ot l T Nx S q c
 gt:∀q n,q<S.length->0<=n->n<(N:Int)->gt q n=ag' T Nx q n
theorem afY{q c:Nat}{x:Act}(h:ot l T Nx S q c=x)(h0:x.1≠0):x∈kS l T (S.getD q []) (Nx.getD q []) c:=by
 unfold ot at h
 cases e:kS l T (S.getD q []) (Nx.getD q []) c with
 |nil=>grind
 |cons y r=>simp_all
theorem IC{q c:Nat}{x:Act}(h:x∈kS l T (S.getD q []) (Nx.getD q []) c):
 (x.1=1/\c<T/\0<=(Nx.getD q []).getD c 0/\x.2=(Nx.getD q []).getD c 0)\/(x=(3,0)/\(((l.length:Int),1,(c:Int)):Item)∈S.getD q [])\/(x.1=2/\x.2<(l.length:Int)/\((x.2,((dc l x.2).2.length:Int),(c:Int)):Item)∈S.getD q []):=by
 unfold kS at h;rcases fx.1 h with h|h
 simp_all
 ·obtain⟨it,hit,e⟩:=List.mem_filterMap.1 h
  obtain⟨p,d,k⟩:=it;unfold Ae at e
  grind
section
variable(hB:ajp l act gt T N Nx S)(hI:Vk l T N lk S.length Nx S)(hw:∀q∈l,q.2.length<=8)(hl:l.length<=40)(hT:T<=30)(hh:∀q∈l,0<=q.1/\q.1<(N:Int))
include hB hI hw hl hT hh
omit hB hw hl hT hh in
theorem V1{q k s:Nat}{x:dr}(hq:q<S.length)(hk:(nh T N)[k]?=aj x)(hs:(Nx.getD q []).getD k 0=(s:Int)):s<S.length/\S.getD s []=jr l T lk (S.getD q []) x/\jr l T lk (S.getD q []) x≠[]:=by
 rcases hI.cell q hq k x hk with⟨_,h2⟩|⟨h1,h2,h3⟩
 omega;rw[hs]at h3;obtain rfl:s=idx S (jr l T lk (S.getD q []) x):=by omega
 simp_all[pH,Db]
end
end
end bJ
namespace bZ
open aU dL f_ dP bJ cD yJ
open CL (z_)
structure oz(g:ep)(T N:Nat)(Nx:List (List Int))(S:List (List bJ.Item)):Prop where
 KG:cz g=0
 aT:g.aT=(T:Int)
 bC:g.bC=(N:Int)
 all:allI g.aF T N (kG g)=aj (Nx,S)
 dK:(iH g).1=iG g.aF T Nx S S.length
 gos:(iH g).2.1=fM T Nx S.length
 afZ:(iH g).2.2.1=iZ g.aF T Nx S S.length
theorem ID{g:ep}(h:(iH g).2.2.2=0):∃T N Nx S,oz g T N Nx S:=by
 unfold iH at h
 by_cases c:(jT g).2.2≠0
 rw[if_pos c]at h;exact absurd h c;have c2:(jT g).2.2=0:=afL.1 c;obtain⟨hg,hA⟩:=Tp c2;obtain⟨hT1,hT2,hN1,Yc,-⟩:=cV hg;exact⟨g.aT.toNat,g.bC.toNat,(jT g).1,(jT g).2.1,hg,by omega,by omega,hA,by unfold iH;rw[if_neg c],by unfold iH;rw[if_neg c],by unfold iH;rw[if_neg c]⟩
section
variable{g:ep}{T N:Nat}{Nx:List (List Int)}{S:List (List bJ.Item)}
theorem oz.wide(h:oz g T N Nx S):∀q∈g.aF,q.2.length<=8:=λq hq=>((cV h.KG).2.2.2.2.2 q hq).1
theorem oz.we(h:oz g T N Nx S):g.aF.length<=40:=(cV h.KG).2.2.2.2.1
theorem oz.t30(h:oz g T N Nx S):T<=30:=by have:=(cV h.KG).2.1;have:=h.aT;omega
theorem oz.law(h:oz g T N Nx S):Vk g.aF T N (kG g) S.length Nx S:=MJ h.wide h.we h.t30 h.all
theorem FZ{l:List aU.Prod}{i n:Nat}(h:i<n):(iG l T Nx S n)[i]?=aj (iy l T Nx S i (T+1)):=by unfold iG;simp[h]
theorem Cu{i n:Nat}(h:i<n):(fM T Nx n)[i]?=aj ((Nx.getD i []).drop T):=by unfold fM;simp[h]
theorem RC{l:List aU.Prod}{q c:Nat}(h:c<T+1):(iy l T Nx S q (T+1))[c]?=aj (ot l T Nx S q c):=by
 unfold iy;rw[fe,Ep h];simp[h]
theorem oz.right(h:oz g T N Nx S){q c:Nat}(hq:q<S.length)(_:c<T+1):wJ T g.aF.length S.length (ot g.aF T Nx S q c) c:=by
 have hI:=h.law
 by_cases h0:(ot g.aF T Nx S q c).1=0
 ·left
  refine⟨h0,?_⟩;unfold ot at h0⊢
  cases e:kS g.aF T (S.getD q []) (Nx.getD q []) c with
  |nil=>rfl
  |cons y r=>
   rw[e]at h0;have hm:y∈kS g.aF T (S.getD q []) (Nx.getD q []) c:=by rw[e];exact ia ..
   rcases IC hm with h'|h'|h'
   have:=h'.1;have h0:y.1=0:=h0;omega;have h0:y.1=0:=h0;rw[h'.1]at h0;cases h0;have:=h'.1;have h0:y.1=0:=h0;omega
 rcases IC (afY rfl h0)with h'|h'|h'
 ·obtain⟨h1,h2,h3,h4⟩:=h'
  obtain⟨s,hs⟩:=iw h3;obtain⟨k1,-,-⟩:=V1 hI hq (Vj h2) hs;exact .inr (.inl ⟨h1,h2,by omega,by rw[h4,hs];omega⟩)
 ·obtain⟨h1,h2⟩:=h'
  have ht:=acI h.wide h.we h.t30 h.all q hq _ h2 I;have ht:(c:Int)=(T:Int):=ht;exact .inr (.inr (.inr ⟨by rw[h1],by rw[h1],by omega⟩))
 obtain⟨h1,h2,h3⟩:=h';exact .inr (.inr (.inl ⟨h1,(Nc hI hq _ h3).1,h2⟩))
theorem oz.pM(h:oz g T N Nx S):so g T N (iG g.aF T Nx S S.length) (fM T Nx S.length) where
 KG:=h.KG
 aT:=h.aT
 bC:=h.bC
 pos:=by rw[jD];exact(dg.1 h.law.start).1
 we:=by rw[jD];exact h.law.we
 same:=by rw[jD,mM]
 wA:=λi hi=>by
  obtain⟨h1,h2⟩:=dg.1 (FZ (T:=T) (Nx:=Nx) (S:=S) (l:=g.aF) (show i<S.length by rw[jD]at hi;exact hi));rw[h2];exact qk
 dK:=λi hi c hc=>by
  have qw:i<S.length:=by rw[jD]at hi;exact hi
  obtain⟨h1,h2⟩:=dg.1 (FZ (T:=T) (Nx:=Nx) (S:=S) (l:=g.aF) qw);simp only[h2]at hc⊢;rw[qk]at hc;obtain⟨h3,h4⟩:=dg.1 (RC (l:=g.aF) (T:=T) (Nx:=Nx) (S:=S) (q:=i) hc);rw[h4,jD];exact h.right qw hc
 wG:=λi hi=>by
  have qw:i<S.length:=by rw[mM]at hi;exact hi
  obtain⟨h1,h2⟩:=dg.1 (Cu (T:=T) (Nx:=Nx) qw);rw[h2,ic,h.law.wide i qw];omega
 gos:=λi hi y hy=>by
  have qw:i<S.length:=by rw[mM]at hi;exact hi
  obtain⟨h1,h2⟩:=dg.1 (Cu (T:=T) (Nx:=Nx) qw);rw[h2]at hy;obtain⟨k,hk,rfl⟩:=List.getElem_of_mem hy;rw[jD];rw[ic,h.law.wide i qw]at hk;rw[List.getElem_drop];have hw:=h.law.wide i qw;have hg:(Nx.getD i [])[T+k]'(by rw[hw];omega)=(Nx.getD i []).getD (T+k) 0:=by rw[cB (l:=Nx.getD i []),bK (by rw[hw];omega)];rfl
  rw[hg];rcases h.law.cell i qw (T+k) _ (Za J)with⟨_,e⟩|⟨_,e1,e2⟩
  rw[e];omega;rw[e2];have:=pH e1;omega
def jj(A:List (List bJ.Act))(q c:Nat):bJ.Act:=(A.getD q []).getD c (0,0)
def fm(G:List (List Int))(q:Nat)(n:Int):Int:=(G.getD q []).getD n.toNat 0
theorem Cv{l:List aU.Prod}:∀n,(iZ l T Nx S n).length=0->∀q,q<n->∀c,c<=T->(kS l T (S.getD q []) (Nx.getD q []) c).length<=1
 |0,_,q,hq,_,_=>absurd hq (mz _)
 | n + 1,h,q,hq,c,hc=>by
  rw[iZ,bI]at h
  by_cases e:q=n
  ·subst e
   have row:∀d,(iY l T Nx S q d).length=0->∀c,c<d->(xg l T Nx S q c).length=0:=λd=>by
    induction d with
    |zero=>exact λ_ c hc=>absurd hc (mz _)
    | succ d ih=>
     intro h c hc;rw[iY,bI]at h
     by_cases e2:c=d
     subst e2;omega;exact ih J c J
   have:=row (T+1) J c J;unfold xg at this;rw[dA,Ks]at this;have h2:(kS l T (S.getD q []) (Nx.getD q []) c).length-1=0:=this;omega
  exact Cv n J q J c hc
theorem oz.calm(h:oz g T N Nx S)(hc:aeu g=aC):aha g.aF T Nx S:=by
 unfold aeu at hc;rw[eX,decide_eq_true_eq,decide_eq_true_eq,h.afZ]at hc;exact λq hq c hcT=>Cv S.length hc.2 q hq c hcT
theorem RD(hg:cz g=0){p:Int}:∀x∈fR g.aF p,right g.aT g.bC x=true:=λx hx=>by
 unfold fR at hx;split at hx
 ·rw[dO.1 hx]
  have:=(cV hg).2.2.1;unfold right;rw[if_neg akh,if_pos I];simp only[Int.le_refl,decide_true,Bool.true_and,decide_eq_true_eq];omega
 by_cases h2:p.toNat<g.aF.length
 ·have:dc g.aF p∈g.aF:=by unfold dc;rw[cB,bK h2];exact b_ h2
  exact((cV hg).2.2.2.2.2 _ this).2.2.2 x hx
 unfold dc at hx;rw[cB,k7 J]at hx
 cases hx
theorem oz.looks(h:oz g T N Nx S)(p d:Int):kG g p d=gC (xw N g.aF).E (OQ N g.aF) ((fR g.aF p).drop (d.toNat+1)) (2^62):=by
 unfold kG CO;have hb8:=nc (l:=g.aF) (p:=p) h.wide;have hE:vP g ((fR g.aF p).drop (d.toNat+1))=0:=by
  unfold vP;rw[if_neg (by rw[h.KG];simp),if_neg (by rw[ic];omega)];exact JU λx hx=>RD h.KG x (yB hx)
 rw[if_pos hE,show g.bC.toNat=N by rw[h.bC];rfl]
end
end bZ
namespace bZ
open Go.RowKit cK dS aU dL dP bJ cD
def sI(σ:List Nat):List Int:=σ.reverse.map λq:Nat=>(q:Int)
theorem wK(σ:List Nat):(sI σ).length=σ.length:=by unfold sI;simp
theorem Ay(q:Nat)(σ:List Nat):sI (q::σ)=sI σ++[(q:Int)]:=by unfold sI;simp
theorem TT(b:Nat)(σ:List Nat):sI (σ.drop b)=(sI σ).take (σ.length-b):=by
 unfold sI;rw[<-Z8,List.take_reverse]
 by_cases h:b<=σ.length
 rw[show σ.length-(σ.length-b)=b by omega];rw[pX J,pX J]
theorem aaH{b:Nat}{σ ρ:List Nat}{r n:Nat}(h:σ.drop b=r::ρ)(hn:σ.length=n+1+b):(sI σ)[n]?=aj (r:Int):=by
 have h1:=TT b σ;rw[h,Ay,show σ.length-b=n+1 by omega]at h1;have h2:ρ.length=n:=by
  have:=congrArg yZ h;rw[ic,db]at this;omega
 have h3:((sI σ).take (n+1))[n]?=aj (r:Int):=by
  rw[<-h1,List.getElem?_append_right (by rw[wK];omega),wK,h2,pK];rfl
 rwa [List.getElem?_take_of_lt (mC n)]at h3
abbrev skR(w:World)(vs:Value)(σ:List Nat):Prop:=Sl w vs σ.length ((sI σ).flatMap cK.dQ)
abbrev TU(vs:Value)(σ:List Nat):b9:=aZ 3 1 vs σ.length ((sI σ).flatMap cK.dQ)
def wL(vs:Value)(seen over:Int)(done:Bool):Value:=aQ #[vs,av az seen,av az over,.bool done]
theorem F0(aA:Option Addr)(nA cA:Nat)(vG:Value)(q:Int)(g5:Nat)(w:World)(h0:0<=q)(h1:q<(nA:Int))(hg:w.heap[g5]?=aj (.cells (aQ #[ap aA nA cA,vG]).cells 36 (0,0))):
 Calls aD 186 #[av az q,aJ (aj ⟨g5,0,ak⟩)] w (bY (ret (.bool aE)) w):=by
 have hcell:∀(L:List b9),At w L ⟨g5,0,ak⟩ (ap aA nA cA):=λL=>kJ (by
  rw[cell_of_row w g5 0 _ _ _ hg];rfl)
 clear hg;refine enter (args:=[av az q,aJ (aj ⟨g5,0,ak⟩)]) (n:=13) Tryz.func186 I I I ?_
 repeat(first|refine GC ?_|refine gV (dq (b:=aE) I I (decide_eq_false J)) ?_|refine gV (aB (v:=ap aA nA cA) aK.ty I (hcell _)) ?_|refine gV (ff (b:=aE) I I (decide_eq_false J)) ?_|refine GB ?_)
 exact eH
theorem xR(v t vs:Value)(g:ep)(T N:Nat)(A:List (List bJ.Act))(G:List (List Int))(σ:List Nat)(seen col:Int)(w:World)(hG:kK (λk=>k<w.heap.size) w v g)(ht:BL w t A G)(hs:skR w vs σ)(hT:so g T N A G)(hq:∀q∈σ,q<A.length)(h0:0<σ.length)(hl:σ.length<=60)(h1:0<=seen)(h2:seen<=1099511627776)(h3:0<=col)(h4:col<=g.aT):
 Calls aD 170 #[v,t,wL vs seen 0 aE,av az col] w (bY (ret (av az 0)) w):=by
 have jw:=λw' (hg:Gr w w')=>xQ v t g T N A G hT w' (hG.gr hg) (ht.gr hg);obtain⟨vp,rfl,hp,-,-⟩:=hG;obtain⟨bp,cp,rfl,-⟩:=hp;obtain⟨vA,vG,rfl,hA,hGo⟩:=ht;obtain⟨aA,cA,rfl,-,-⟩:=nl hA;clear hA hGo;have Lr:=λw' (hg:Gr w w') g5 (hb:w'.heap[g5]?=aj (.cells (aQ #[ap aA A.length cA,vG]).cells 36 (0,0)))=>tw vs (sI σ) w' (by rw[wK];exact hs.gr hg) 186 #[] #[aJ (aj ⟨g5,0,ak⟩)] (λ_=>aE) aI.en (λa ha Gz uf=>by
  unfold sI at ha;obtain⟨q,hq1,rfl⟩:=eT.1 ha;have:=hq q (Z6.1 hq1);exact F0 aA A.length cA vG (q:Int) g5 Gz J J (by rw[uf.block g5 (jx.1 hb).1];exact hb))
 have FX:(sI σ).any (λ_=>aE)=false:=by rw[List.any_eq_false];intro _ _ h;cases h
 rw[FX]at Lr;obtain⟨bs,cs,rfl,-⟩:=hs;refine enter (args:=[dM g.aT g.bC (ap bp g.aF.length cp),aQ #[ap aA A.length cA,vG],wL (ap bs σ.length cs) seen 0 aE,av az col]) (n:=66) Tryz.func170 I I I ?_;refine bW (bB (bP I I I λg4=>?_));refine zL ?_;refine bP I I I λg5=>?_;refine zL ?_;refine bP I I I λg6=>?_;refine zL ?_
 repeat(first|refine GA ?_|refine gV (aO (i:=0) aK.ty I I I) ?_|refine gV (aO (i:=1) aK.ty I I I) ?_)
 refine aV (fB aI.en I I I) (λw hm=>jw w hm.below) I I I ?_;intro _ _;refine zL ?_
 repeat(first|refine GA ?_|refine gV (aB (v:=ap bs σ.length cs) aK.ty I (aH (i:=2) I I)) ?_|refine gV (aB (v:=av az seen) aK.ty I (aH (i:=2) I I)) ?_|refine gV (aB (v:=av az 0) aK.ty I (aH (i:=2) I I)) ?_|refine gV (aB (v:= .bool aE) aK.ty I (aH (i:=2) I I)) ?_|refine gV (aB (v:=av az g.aT) aK.ty I (aH (i:=0) I I)) ?_|refine gV (w7 I I) ?_)
 refine aV (fB aI.en I I I) (λw hm=>Lr _ hm.below _ (hm.get (i:=1) I)) I I I ?_;intro _ _;refine zL ?_
 repeat(first|refine GA ?_|refine gV (aB (v:=av az 0) aK.ty I (aH (i:=2) I I)) ?_|refine gV (aB (v:= .bool aE) aK.ty I (aH (i:=2) I I)) ?_)
 exact eH
theorem V2(g:Nat)(w:World):(df 161 #[(0,ap (aj ⟨g,0,ak⟩) 1 1)]).run aD w= .ok (wL (ap (aj ⟨g,0,ak⟩) 1 1) 0 0 aE) w:=by
 unfold wL;go_simp
theorem IE(seen e:Int)(w:World):(df 161 #[(1,av az seen),(2,av az e)]).run aD w= .ok (wL (ap ak 0 0) seen e aE) w:=by
 unfold wL;go_simp
theorem V3(b:Option Addr)(m c:Nat)(seen:Int)(w:World):(df 161 #[(0,ap b m c),(1,av az seen)]).run aD w= .ok (wL (ap b m c) seen 0 aE) w:=by
 unfold wL;go_simp
theorem V4(seen:Int)(w:World):(df 161 #[(1,av az seen),(3,.bool aC)]).run aD w= .ok (wL (ap ak 0 0) seen 0 aC) w:=by
 unfold wL;go_simp
def Dp:Spec Value:=⟨λ_=>True,λvt=>wL vt 0 0 aE,λvt=>[TU vt [0]]⟩
theorem Hb(w:World):Calls aD 66 #[] w (bY Dp w):=by
 refine enter (args:=[]) (n:=3) Tryz.func66 I I I ?_;refine bW (bB (a8 I λg2=>?_));refine zL ?_
 try refine GA ?_
 refine fD (cs:=#[av az 0]) [av az 0] I I I (by intro v hv;simp at hv;subst hv;rfl) I I I λg3=>?_;refine zL ?_
 repeat(first|refine QZ ?_|refine QV (bD I (V2 _)) ?_)
 refine ij 0 (cs':=#[ap (aj ⟨g3,0,ak⟩) 1 1,av az 0,av az 0,.bool aE]) ?_;refine zL ?_;refine zr (i:=1) 1 I I J ?_;refine zL ?_
 try refine GA ?_
 exact fZ (i:=0) I I I I λw hm=>hm.meets (S:=Dp) (ap (aj ⟨g3,0,ak⟩) 1 1) trivial [1] akh I
def NM(R:Option (List Nat)):Spec Value:=⟨λ_=>True,λv=> .tuple #[v,.bool R.isSome],λv=>match R with|some σ'=>[TU v σ']|none=>[]⟩
theorem F3(v t vs:Value)(g:ep)(T N:Nat)(A:List (List bJ.Act))(G:List (List Int))(σ:List Nat)(p:Nat)(w:World)(hG:kK (λk=>k<w.heap.size) w v g)(ht:BL w t A G)(hs:skR w vs σ)(hT:so g T N A G)(hq:∀q∈σ,q<A.length)(hl:σ.length<=60)(hp:p<g.aF.length):
 Calls aD 187 #[v,t,vs,av az (p:Int)] w (bY (NM (CW g.aF (fm G) σ (p:Int))) w):=by
 obtain⟨hg,Kc,hNn,An,QT,vd,hwA,adj,hwG,aaD⟩:=hT;obtain⟨hT1,hT2,-,Yc,Ci,hpr⟩:=cV hg;have hpe:dc g.aF (p:Int)=g.aF[p]:=by unfold dc;rw[dF,cB,bK hp];rfl
 have hpp:=hpr _ (b_ hp);obtain⟨vp,rfl,hpg,-,-⟩:=hG;obtain⟨bp,cp,rfl,-,-,oT⟩:=hpg;obtain⟨b1,o1,rfl,-,oT⟩:=oT J;obtain⟨base,cap,eP,-,-⟩:=ma oT hp;clear oT;unfold CW;rw[hpe];have ajq:∀L,At (w:bL) L ⟨b1,o1+p*2+0,ak⟩ (av az g.aF[p].1):=λL=>jc eP I;have ah7:∀L,At (w:bL) L ⟨b1,o1+p*2+1,ak⟩ (.slice base g.aF[p].2.length cap):=λL=>jc eP I;clear eP hpe hpr;generalize g.aF[p]=pr at*;obtain⟨hd,bd⟩:=pr;dsimp only at*;obtain⟨vA,vG,rfl,-,hGo⟩:=ht;obtain⟨aG,cG,rfl,-,-⟩:=nl hGo;obtain⟨bs,cs,rfl,hcs,hms,hrS⟩:=hs;unfold maxLen at hms;refine enter (args:=[dM g.aT g.bC (ap (aj ⟨b1,o1,ak⟩) g.aF.length cp),aQ #[vA,ap aG G.length cG],ap bs σ.length cs,av az (p:Int)]) (n:=50) Tryz.func187 I I I ?_;refine bW (bB (bP I I I λg4=>?_));refine zL ?_;refine bP I I I λg5=>?_;refine zL ?_
 by_cases c:σ.length<=bd.length
 ·rw[pX c]
  repeat(first|refine GC ?_|refine gV (aB (v:=ap (aj ⟨b1,o1,ak⟩) g.aF.length cp) aK.ty I (aH (i:=0) I I)) ?_|refine gV (aY bM.eq aK.ty I I hp) ?_|refine gV (aB (v:=ap base bd.length cap) aK.ty I (ah7 _)) ?_|refine gV (eL (r:=(σ.length:Int)-(bd.length:Int)) I I I J J) ?_|refine gV (dq (b:=aC) I I (decide_eq_true J)) ?_|refine GB ?_)
  exact sS I I I λw hm=>hm.meets (S:=NM ak) (ap ak 0 0) trivial [] akh I
 obtain⟨n,hn⟩:∃n,σ.length=n+1+bd.length:=⟨σ.length-bd.length-1,by omega⟩;obtain⟨r,ρ,hdr⟩:∃r ρ,σ.drop bd.length=r::ρ:=Q_ λe=>by
  have:=congrArg yZ e;rw[ic,gY]at this;omega
 have Hc:=aaH hdr hn;have hdI:=TT bd.length σ;rw[hdr,Ay,show σ.length-bd.length=n+1 by omega]at hdI;have hrA:r<A.length:=hq r (yB (i:=bd.length) (by rw[hdr];exact ia ..));rw[hdr];dsimp only;have hrG:r<G.length:=by omega
 obtain⟨b2,o2,rfl,F4⟩:=hrS J;rw[Mw]at F4;have rm:∀L,At (w:bL) L ⟨b2,o2+n,ak⟩ (av az (r:Int)):=λL=>jc F4 (by rw[fe,Hc];rfl);have ah8:∀L j u,(((sI σ).take (n+1)).flatMap cK.dQ)[j]?=aj u->At (w:bL) L ⟨b2,o2+j,ak⟩ u:=λL j u hj=>jc F4 (by
  rw[Mw,Z8,rl]at hj
  by_cases cc:j<n+1
  rwa [if_pos cc]at hj
  rw[if_neg cc]at hj;cases hj)
 clear F4 hrS;obtain⟨bG,oG,wi,rfl,hcG,hsG⟩:=KE hGo hrG;have adl:∀L,At (w:bL) L ⟨bG,oG+r,ak⟩ wi:=λL=>kJ hcG;clear hcG;obtain⟨ei,di,rfl,hdi,ah1⟩:=nl hsG;have hfG:=hsG.flat (f:=λn=>[av .i64 n]) akh;obtain⟨_,_,e2,-,-,hrY⟩:=hfG
 cases e2
 have ake:=hwG r hrG;have hgo:=aaD r hrG;have LQ:fm G r hd=G[r].getD hd.toNat 0:=by unfold fm;rw[cB (l:=G),bK hrG];rfl
 rw[LQ];clear hsG LQ aaD hwG hwA adj hGo;generalize G[r]=Y at*;obtain⟨h,rfl⟩:=iw hpp.2.1;have hhY:h<Y.length:=by omega
 obtain⟨b3,o3,rfl,NL⟩:=hrY J;have hYh:Y[h]?=aj (Y.getD h 0):=by rw[cB,bK hhY];rfl
 have afA:∀L,At (w:bL) L ⟨b3,o3+h,ak⟩ (av az (Y.getD h 0)):=λL=>jc NL (by
  rw[show(Y.flatMap λn=>[av .i64 n])=Y.map (.int .i64)from Mw Y,fe,hYh];rfl)
 have hto:=hgo _ (List.mem_of_getElem? hYh);clear NL hrY hYh hgo;rw[show Y.getD ((h:Int)).toNat 0=Y.getD h 0 from I];generalize Y.getD h 0=to1 at*
 repeat(first|refine GC ?_|refine gV (aB (v:=ap (aj ⟨b1,o1,ak⟩) g.aF.length cp) aK.ty I (aH (i:=0) I I)) ?_|refine gV (aY bM.eq aK.ty I I hp) ?_|refine gV (aB (v:=ap base bd.length cap) aK.ty I (ah7 _)) ?_|refine gV (eL (r:=((n+1:Nat):Int)) I I J J J) ?_|refine gV (dq (b:=aE) I I (decide_eq_false J)) ?_|refine GB ?_)
 refine dT ([aP g4 (dM g.aT g.bC (ap (aj ⟨b1,o1,ak⟩) g.aF.length cp)).cells 33,aP g5 (aQ #[vA,ap (aj ⟨bG,oG,ak⟩) G.length cG]).cells 36]) (.calm 0 (.calm 1 (.calm 2 (.calm 3 (.calm 4 (.calm 5 (.calm 6 (.calm 7 (.calm 8 (.calm 9 (.calm 10 (.calm 11 (.calm 12 (.calm 13 (.calm 14 (.calm 15 (.calm 16 (.calm 17 (.done))))))))))))))))))) (λ_ h=>h) ?_
 repeat(first|(refine GN ?_;first|refine QW QP ?_|refine QW (aB (v:=ap (aj ⟨bG,oG,ak⟩) G.length cG) aK.ty I (aH (i:=1) I I)) ?_|refine QW (eL (r:=(n:Int)) I I J J J) ?_|refine QW (bU (j:=n) bM.eq aK.ty I I J) ?_|refine QW (aB (v:=av az (r:Int)) aK.ty I (rm _)) ?_|refine QW (bU (j:=r) bM.eq aK.ty I I hrG) ?_|refine QW (aB (v:=ap (aj ⟨b3,o3,ak⟩) Y.length di) aK.ty I (adl _)) ?_|refine QW (aB (v:=ap (aj ⟨b1,o1,ak⟩) g.aF.length cp) aK.ty I (aH (i:=0) I I)) ?_|refine QW (aY bM.eq aK.ty I I hp) ?_|refine QW (aB (v:=av az (h:Int)) aK.ty I (ajq _)) ?_|refine QW (bU (j:=h) bM.eq aK.ty I I hhY) ?_|refine QW (aB (v:=av az to1) aK.ty I (afA _)) ?_|refine GX ?_)|refine GW ?_)
 repeat(first|refine GC ?_|refine gV (afa (j:=n+1) bM.eq aK.ty I I I J) ?_|refine GB ?_)
 refine fN (cs:=#[av az to1]) I I I I I λg46=>?_;refine zL ?_;refine PE (q:=2) (m:=n+1) (olds:=((sI σ).take (n+1)).flatMap cK.dQ) I (ah8 _) (by rw[Mw,dA,iN,wK];show _=(n+1)*1;omega) I I I J J I λv'=>?_;refine zL ?_
 by_cases c2:0<=to1
 ·rw[if_pos c2]
  have e:aZ 3 1 v' (n+1+1) (((sI σ).take (n+1)).flatMap cK.dQ++[av az to1])=TU v' (to1.toNat::r::ρ):=by
   have PB:(to1.toNat::r::ρ).length=n+1+1:=by
    have:=congrArg yZ hdr;rw[ic]at this;simp only[db]at this⊢;omega
   show _=aZ 3 1 v' (to1.toNat::r::ρ).length ((sI (to1.toNat::r::ρ)).flatMap cK.dQ)
   rw[PB,Ay,Ay,hdI,fV,vh c2];rfl
  repeat(first|refine GC ?_|refine gV (ff (b:=aC) I I (decide_eq_true c2)) ?_|refine GB ?_)
  exact sS I I I λw hm=>hm.meets (S:=NM (aj (to1.toNat::r::ρ))) v' trivial [3] akh (by show[_]=[_];rw[<-e];rfl)
 ·rw[if_neg c2]
  repeat(first|refine GC ?_|refine gV (ff (b:=aE) I I (decide_eq_false c2)) ?_|refine GB ?_)
  exact sS I I I λw hm=>hm.meets (S:=NM ak) v' trivial [] akh I
end bZ
namespace bZ
open Go.RowKit cK dS aU dL dP bJ cD
theorem so.right{g:ep}{T N:Nat}{A:List (List bJ.Act)}{G:List (List Int)}(h:so g T N A G){q c:Nat}(hq:q<A.length)(hc:c<=T):wJ T g.aF.length A.length (jj A q c) c:=by
 have h1:c<A[q].length:=by rw[h.wA q hq];omega
 have:=h.dK q hq c h1;unfold jj;rw[cB (l:=A),bK hq,kL,cB,bK h1];exact this
theorem so.go{g:ep}{T N:Nat}{A:List (List bJ.Act)}{G:List (List Int)}(h:so g T N A G){q:Nat}{n:Int}(hq:q<A.length)(h0:0<=n)(h1:n<(N:Int)):fm G q n<(A.length:Int):=by
 have hqG:q<G.length:=by rw[h.same];exact hq
 have h2:n.toNat<G[q].length:=by rw[h.wG q hqG];omega
 have:=(h.gos q hqG _ (b_ h2)).2;unfold fm;rw[cB (l:=G),bK hqG,kL,cB,bK h2];exact this
theorem KH{g:ep}{T N:Nat}{A:List (List bJ.Act)}{G:List (List Int)}(h:so g T N A G){σ σ':List Nat}{p:Int}(h0:0<=p)(h1:p<(g.aF.length:Int))(hq:∀q∈σ,q<A.length)(hr:CW g.aF (fm G) σ p=aj σ'):σ'≠[]/\σ'.length<=σ.length+1/\∀q∈σ',q<A.length:=by
 unfold CW at hr
 cases e:σ.drop (dc g.aF p).2.length with
 |nil=>rw[e]at hr;cases hr
 | cons r ρ=>
  rw[e]at hr;dsimp only at hr;have lf:∀q∈r::ρ,q<A.length:=λq DU=>hq q (yB (i:=(dc g.aF p).2.length) (by rw[e];exact DU));have hlen:(r::ρ).length<=σ.length:=by rw[<-e,ic];omega
  split at hr
  ·rename_i c
   obtain rfl:=ra hr;have hh:=(cV h.KG).2.2.2.2.2 _ (f_.yG h0 h1);have:=h.go (lf r (ia ..)) hh.2.1 (by have:=h.bC;omega);refine⟨by simp,by simp only[db]at hlen⊢;omega,λq DU=>?_⟩;rcases dC.1 DU with rfl|DU
   omega;exact lf q DU
  cases hr
section
variable{l:List aU.Prod}{act:Nat->Nat->bJ.Act}{gt:Nat->Int->Int}{col a f q:Nat}{σ:List Nat}{o:List dr}
theorem ah9{m:Int}(h:act q col=(0,m)):gO l act gt col a (f+1) (q::σ) o=(13,[],[]):=by
 rw[gO,show(q::σ).headD 0=q from I,h,if_neg (by simp),if_neg (by simp),if_neg (by simp),if_neg (by simp)]
theorem aaI{x:bJ.Act}(h:act q col=x)(h0:x.1≠0):gO l act gt col a 1 (q::σ) o=(14,[],[]):=by
 rw[gO,show(q::σ).headD 0=q from I,h,if_pos ⟨rfl,h0⟩]
theorem ah_{m:Int}(h:act q col=(3,m)):gO l act gt col a (f+1+1) (q::σ) o=(0,q::σ,o):=by
 rw[gO,show(q::σ).headD 0=q from I,h,if_neg (λh=>y0 _ h.1),if_pos I]
theorem ah'{m:Int}(h:act q col=(1,m)):gO l act gt col a (f+1+1) (q::σ) o=if 60<(q::σ).length+1 then(14,[],[])else(0,m.toNat::q::σ,o++[(2,(a:Int))]):=by
 rw[gO,show(q::σ).headD 0=q from I,h,if_neg (λh=>y0 _ h.1),if_neg (by simp),if_pos I]
theorem aev{m:Int}(h:act q col=(2,m))(hr:CW l gt (q::σ) m=ak):gO l act gt col a (f+1+1) (q::σ) o=(13,[],[]):=by
 rw[gO,show(q::σ).headD 0=q from I,h,if_neg (λh=>y0 _ h.1),if_neg (by simp),if_neg (by simp),if_pos I];dsimp only;rw[hr]
theorem aia{m:Int}{σ':List Nat}(h:act q col=(2,m))(hr:CW l gt (q::σ) m=aj σ'):gO l act gt col a (f+1+1) (q::σ) o=if 60<σ'.length then(14,[],[])else gO l act gt col a (f+1) σ' (o++[(4,m)]):=by
 rw[gO,show(q::σ).headD 0=q from I,h,if_neg (λh=>y0 _ h.1),if_neg (by simp),if_neg (by simp),if_pos I];dsimp only;rw[hr]
end
theorem Dq{g:ep}{T N:Nat}{A:List (List bJ.Act)}{G:List (List Int)}(h:so g T N A G){col a:Nat}(hc:col<=T):∀(f:Nat) {σ:List Nat} {o:List dr},σ≠[]->(∀q∈σ,q<A.length)->σ.length<=60->(gO g.aF (jj A) (fm G) col a f σ o).1=0->
 (gO g.aF (jj A) (fm G) col a f σ o).2.1≠[]/\(∀q∈(gO g.aF (jj A) (fm G) col a f σ o).2.1,q<A.length)/\(gO g.aF (jj A) (fm G) col a f σ o).2.1.length<=60/\(gO g.aF (jj A) (fm G) col a f σ o).2.2.length<=o.length+f
 |0,_,_,_,_,_,h0=>by cases h0
 | f + 1,σ,o,hne,hq,hl,h0=>by
  obtain⟨q,σ,rfl⟩:=Q_ hne;have Tr:=h.right (hq q (ia ..)) hc;generalize hx:jj A q col=x at Tr;obtain⟨k,m⟩:=x
  by_cases ck:k=0
  subst ck;rw[ah9 hx]at h0;cases h0
  cases f with
  |zero=>rw[aaI hx ck]at h0;cases h0
  | succ f=>
   rcases Tr with⟨e,_⟩|⟨e,h1,h2,h3⟩|⟨e,h1,h2⟩|⟨e,_⟩<;>dsimp only at e<;>subst e
   exact absurd I ck
   ·rw[ah' hx]at h0⊢
    by_cases c:60<(q::σ).length+1
    rw[if_pos c]at h0;cases h0;rw[if_neg c];refine⟨by simp,λy hy=>?_,by simp only[db]at c⊢;omega,by simp⟩;rcases dC.1 hy with rfl|hy
    dsimp only at h2 h3;omega;exact hq y hy
   ·dsimp only at h1 h2
    cases hr:CW g.aF (fm G) (q::σ) m with
    |none=>rw[aev hx hr]at h0;cases h0
    | some σ'=>
     rw[aia hx hr]at h0⊢
     by_cases c:60<σ'.length
     rw[if_pos c]at h0;cases h0;rw[if_neg c]at h0⊢;obtain⟨r1,r2,r3⟩:=KH h h1 h2 hq hr;have:=Dq h hc (f+1) (o:=o++[(4,m)]) r1 r3 J h0;refine⟨this.1,this.2.1,this.2.2.1,fI this.2.2.2 ?_⟩;rw[bI,nM];omega
   rw[ah_ hx];exact⟨hne,hq,hl,by show o.length<=_;omega⟩
theorem aib{B:bL}{L:List b9}{i g cap:Nat}{q:Nat}{σ:List Nat}(hi:L[i]?=aj (TU (ap (aj ⟨g,0,ak⟩) (σ.length+1) cap) (q::σ))):At B L ⟨g,0+σ.length*1,ak⟩ (av az (q:Int)):=
 rP (f:=cK.dQ) MK hi (k:=σ.length) (by rw[wK];simp) 0 _ (by
  have:(sI (q::σ))[σ.length]?=aj (q:Int):=aaH (b:=0) (ρ:=σ) I I;rw[dg]at this;obtain⟨_,h⟩:=this;rw[h];rfl)
theorem adn{v:Value}{m:Int}{q:Nat}{σ:List Nat}(h:0<=m):aZ 3 1 v (σ.length+1+1) ((sI (q::σ)).flatMap cK.dQ++[av az m])=TU v (m.toNat::q::σ):=by
 show _=aZ 3 1 v (m.toNat::q::σ).length ((sI (m.toNat::q::σ)).flatMap cK.dQ)
 rw[Ay m.toNat,fV,vh h];rfl
theorem TV{v:Value}{x:dr}{o:List dr}:aZ 55 2 v (o.length+1) (o.flatMap eC++eC x)=jY v (o++[x]):=by
 show _=aZ 55 2 v (o++[x]).length ((o++[x]).flatMap eC)
 rw[bI,fV];simp
def su(R:Int×List Nat×List dr):Spec (Value×Value):=⟨λ_=>True,λx=>if R.1=0 then .tuple #[x.1,x.2,av az 0]else .tuple #[ap ak 0 0,ap ak 0 0,av az R.1],λx=>if R.1=0 then [TU x.1 R.2.1,jY x.2 R.2.2]else []⟩
theorem NN{σ:List Nat}{o:List dr}:su (0,σ,o)=⟨λ_=>True,λx=> .tuple #[x.1,x.2,av az 0],λx=>[TU x.1 σ,jY x.2 o]⟩:=by unfold su;simp
theorem NO{e:Int}(he:e≠0){x:List Nat×List dr}:su (e,x)=⟨λ_=>True,λ_=> .tuple #[ap ak 0 0,ap ak 0 0,av az e],λ_=>[]⟩:=by unfold su;simp[he]
attribute [local irreducible] Instr.build in
theorem Cw(v t vs:Value)(g:ep)(T N:Nat)(A:List (List bJ.Act))(G:List (List Int))(sG:List Nat)(seen col:Nat)(w:World)(hG:kK (λk=>k<w.heap.size) w v g)(ht:BL w t A G)(hs:skR w vs sG)(hT:so g T N A G)(hq:∀q∈sG,q<A.length)(hne:sG≠[])(hl:sG.length<=60)(hc:col<=T):
 Calls aD 172 #[v,t,wL vs (seen:Int) 0 aE,av az (col:Int)] w (bY (su (gO g.aF (jj A) (fm G) col seen 2001 sG [])) w):=by
 have jW:=λw' (hg:Gr w w')=>kA vs (sI sG) w' (by rw[wK];exact hs.gr hg) (by rw[wK];omega);rw[wK]at jW;have eP:=λpW σ p w' (hg:Gr w w') wZ DU hl' hp=>F3 v t pW g T N A G σ p w' (hG.gr hg) (ht.gr hg) wZ hT DU hl' hp;have aic:=λσ σ' p h0 h1 hq hr=>KH (σ:=σ) (σ':=σ') (p:=p) hT h0 h1 hq hr;have Tr:=λq (hq:q<A.length)=>hT.right hq hc;have hwA:=hT.wA;clear hT;obtain⟨vp,rfl,-⟩:=hG;obtain⟨vA,vG,rfl,hA,-⟩:=ht;obtain⟨aA,cA,rfl,-,-⟩:=nl hA;refine enter (args:=[dM g.aT g.bC vp,aQ #[ap aA A.length cA,vG],wL vs (seen:Int) 0 aE,av az (col:Int)]) (n:=87) Tryz.func172 I I I ?_;refine bW (bB (bP I I I λg4=>?_));refine zL ?_;refine bP I I I λg5=>?_;refine zL ?_;refine bP I I I λg6=>?_;refine zL ?_
 repeat(first|refine GA ?_|refine gV (aB (v:=vs) aK.ty I (aH (i:=2) I I)) ?_)
 refine aV (i_ aI.en I I) (λw hm=>jW w hm.below) I I I ?_;intro oy _;refine zL ?_
 try refine GA ?_
 refine jd 55 2 ?_;generalize hR:gO g.aF (jj A) (fm G) col seen 2001 sG []=R;clear jW hs;refine d_ (ι:=Nat×List Nat×List dr×Value×Value) (λ(f,σ,o,_,_)=>gO g.aF (jj A) (fm G) col seen f σ o=R/\f<=2001/\1<=f/\o.length+f<=2001/\σ≠[]/\σ.length<=60/\∀q∈σ,q<A.length)
  (λ(f,_,_,vs,vo)=>[(3,av az (col:Int)),(4,aJ (aj ⟨g4,0,ak⟩)),(5,aJ (aj ⟨g5,0,ak⟩)),(6,aJ (aj ⟨g6,0,ak⟩)),(11,vs),(12,vo),(13,av az ((2001-f:Nat):Int))])
  (λ(_,σ,o,pW,vo)=>[aP g4 (dM g.aT g.bC vp).cells 33,aP g5 (aQ #[ap aA A.length cA,vG]).cells 36,aP g6 (wL vs (seen:Int) 0 aE).cells 161,TU pW σ,jY vo o]) (λ(f,_,_,_,_)=>f) (2001,sG,[],oy,ap ak 0 0) ⟨hR,by omega,by omega,by simp,hne,hl,hq⟩ ?_
 clear hR hne hl hq;rintro⟨f,σ,o,pW,vo⟩ ⟨i1,i2,i3,i4,i5,i6,i7⟩;dsimp only at i1 i2 i3 i4 i5 i6 i7⊢;obtain⟨q,σ,rfl⟩:=Q_ i5;obtain⟨f,rfl⟩:∃f',f=f'+1:=⟨f-1,by omega⟩;have hqA:=i7 q (ia ..);have ajr:=Tr q hqA;obtain⟨bA,oA,wi,rfl,hcA,hsA⟩:=KE hA hqA;have adk:∀L,At (w:bL) L ⟨bA,oA+q,ak⟩ wi:=λL=>kJ hcA;obtain⟨ei,di,rfl,hdi,ah1⟩:=nl hsA;have hfA:=hsA.flat (f:=fw) akh;obtain⟨_,_,e2,-,-,hrX⟩:=hfA
 cases e2
 have akf:=hwA q hqA;have hxe:jj A q col=A[q].getD col (0,0):=by unfold jj;rw[cB (l:=A),bK hqA];rfl
 have hcX:col<A[q].length:=by omega
 obtain⟨b3,o3,rfl,NL⟩:=hrX J;have dy:=λL=>ib (L:=L) sn NL hcX;have aid:A[q][col]=jj A q col:=by rw[hxe,cB,bK hcX];rfl
 rw[aid]at dy;have E6:∀(L:List b9) (j:Nat) (u:Value),(fw (jj A q col))[j]?=aj u->At (w:bL) L ⟨b3,o3+col*2+j,ak⟩ u:=dy;clear dy NL hrX hxe aid hsA hcA hwA hA Tr;generalize A[q]=X at*;generalize hx:jj A q col=x at*;refine yw (i:=3) I (by simp) λgs cs hv q1 q2=>?_;subst hv;simp only[db]at i4 i6 q1⊢
 try refine GA ?_
 refine dT ([aP g5 (aQ #[ap (aj ⟨bA,oA,ak⟩) A.length cA,vG]).cells 36,TU (ap (aj ⟨gs,0,ak⟩) (σ.length+1) cs) (q::σ)]) (.calm 0 (.calm 1 (.calm 2 (.calm 3 (.calm 4 (.calm 5 (.calm 6 (.calm 7 (.calm 8 (.calm 9 (.calm 10 (.calm 11 (.calm 12 (.one 13 (.one 14 (.done)))))))))))))))) (bX [1,3]) ?_
 repeat(first|(refine GN ?_;first|refine QW QP ?_|refine QW (aB (v:=ap (aj ⟨bA,oA,ak⟩) A.length cA) aK.ty I (aH (i:=0) I I)) ?_|refine QW (eL (r:=(σ.length:Int)) I I J J J) ?_|refine QW (aY (j:=σ.length) bM.eq aK.ty I I J) ?_|refine QW (aB (v:=av az (q:Int)) aK.ty I (aib (i:=1) I)) ?_|refine QW (bU (j:=q) bM.eq aK.ty I I hqA) ?_|refine QW (aB (v:=ap (aj ⟨b3,o3,ak⟩) X.length di) aK.ty I (adk _)) ?_|refine QW (aY (j:=col) bM.eq aK.ty I I hcX) ?_|refine QW (bm (cs:=fw x) aK.ty I I (E6 _)) ?_|refine GX ?_)|refine GW ?_)
 refine aL I (a8 I λg14=>?_);refine zL ?_;refine aM (bX [1,3]) ?_;refine aL I (aX (i:=5) (cs':=(fw x).toArray) I I I I I I ?_);refine zL ?_;refine aM (bX [1,3]) ?_
 try refine GW ?_
 obtain⟨k,m⟩:=x;have KI:((2001-(f+1):Nat):Int)=2000↔f=0:=by omega
 by_cases ck:k=0
 ·subst ck
  rw[ah9 hx]at i1;subst i1
  by_cases c0:f=0
  ·repeat(first|refine GC ?_|refine gV (cZ (b:=aC) I I (decide_eq_true (KI.2 c0))) ?_|refine gV (aB (v:=av az 0) aK.ty I (aH (i:=5) I I)) ?_|refine GB ?_)
   exact mU I I I I λw hm=>hm.meets (S:=su (13,[],[])) (ap ak 0 0,ap ak 0 0) trivial [] akh I
  repeat(first|refine GC ?_|refine gV (cZ (b:=aE) I I (decide_eq_false λh=>c0 (KI.1 h))) ?_|refine gV (aB (v:=av az 0) aK.ty I (aH (i:=5) I I)) ?_|refine GB ?_)
  exact mU I I I I λw hm=>hm.meets (S:=su (13,[],[])) (ap ak 0 0,ap ak 0 0) trivial [] akh I
 by_cases c0:f=0
 ·subst c0
  rw[aaI hx ck]at i1;subst i1
  repeat(first|refine GC ?_|refine gV (cZ (b:=aC) I I (decide_eq_true (KI.2 I))) ?_|refine gV (aB (v:=av az k) aK.ty I (aH (i:=5) I I)) ?_|refine gV (dl (b:=aC) I I (decide_eq_true ck)) ?_|refine GB ?_)
  exact mU I I I I λw hm=>hm.meets (S:=su (14,[],[])) (ap ak 0 0,ap ak 0 0) trivial [] akh I
 have KI:¬((2001-(f+1):Nat):Int)=2000:=λh=>c0 (KI.1 h);obtain⟨f,rfl⟩:∃f',f=f'+1:=⟨f-1,by omega⟩;rcases ajr with⟨e,_⟩|⟨e,h1,h2,h3⟩|⟨e,h1,h2⟩|⟨e,_⟩<;>dsimp only at e<;>subst e
 ·exact absurd I ck
 ·dsimp only at h1 h2 h3
  rw[ah' hx]at i1
  repeat(first|refine GC ?_|refine gV (cZ (b:=aE) I I (decide_eq_false KI)) ?_|refine gV (aB (v:=av az 1) aK.ty I (aH (i:=5) I I)) ?_|refine GB ?_)
  refine dT ([aP g6 (wL vs (seen:Int) 0 aE).cells 161,aP g14 (fw (1,m)).toArray 94]) (.calm 0 (.calm 1 (.calm 2 (.calm 5 (.calm 6 (.calm 7 (.calm 8 (.two 3 (.two 4 (.one 9 (.one 10 (.calm 11 (.calm 12 (.done))))) 9 (.one 4 (.one 10 (.calm 11 (.calm 12 (.done)))))) 9 (.one 3 (.one 4 (.one 10 (.calm 11 (.calm 12 (.done)))))))))))))) (bX [2,5]) ?_
  repeat(first|refine GW ?_|(refine GN ?_;first|refine QW (aB (v:=av az m) aK.ty I (aH (i:=1) I I)) ?_|refine QW (aB (v:=av az (seen:Int)) aK.ty I (aH (i:=0) I I)) ?_|refine QW (bD I (BB _ _)) ?_))
  refine eK I I ?bw1 ?bw2
  case' bw1=>
   refine fN (cs:=#[av az m]) I I I I I λg52=>aM (bX [2,5]) ?_;refine eK I I ?bw3 ?bw4
  case' bw3=>
   refine l8 (i:=3) (q:=6) I I I I I I (by simp only[db];omega) (by simp only[db];omega) I λv3=>aM (bX [2,5]) ?_;refine aL I (fN (cs:=(eC (2,(seen:Int))).toArray) I I I I I λg58=>aM (bX [2,5]) ?_);refine aL I (mX (i:=4) (q:=7) I I I I I I J J I λv4=>aM (bX [2,5]) ?_)
  case' bw4=>
   refine fN (cs:=(eC (2,(seen:Int))).toArray) I I I I I λg58=>aM (bX [2,5]) ?_;refine aL I (l8 (i:=3) (q:=6) I I I I I I (by simp only[db];omega) (by simp only[db];omega) I λv3=>aM (bX [2,5]) ?_);refine aL I (mX (i:=4) (q:=7) I I I I I I J J I λv4=>aM (bX [2,5]) ?_)
  case' bw2=>
   refine fN (cs:=(eC (2,(seen:Int))).toArray) I I I I I λg58=>aM (bX [2,5]) ?_;refine aL I (fN (cs:=#[av az m]) I I I I I λg52=>aM (bX [2,5]) ?_);refine aL I (l8 (i:=3) (q:=7) I I I I I I (by simp only[db];omega) (by simp only[db];omega) I λv3=>aM (bX [2,5]) ?_);refine aL I (mX (i:=4) (q:=6) I I I I I I J J I λv4=>aM (bX [2,5]) ?_)
  all_goals
   try refine GW ?_
   by_cases c6:60<(q::σ).length+1
   ·rw[if_pos c6]at i1
    subst i1
    repeat(first|refine GC ?_|refine gV (fg (i:=3) bM.eq I I) ?_|refine gV (ea (b:=aC) I I (decide_eq_true J)) ?_|refine GB ?_)
    exact mU I I I I λw hm=>hm.meets (S:=su (14,[],[])) (ap ak 0 0,ap ak 0 0) trivial [] akh I
   ·rw[if_neg c6]at i1
    subst i1
    repeat(first|refine GC ?_|refine gV (fg (i:=3) bM.eq I I) ?_|refine gV (ea (b:=aE) I I (decide_eq_false J)) ?_|refine gV (aB (v:=av az 1) aK.ty I (aH (i:=5) I I)) ?_|refine GB ?_)
    exact mU I I I I λw hm=>hm.meets (S:=su (0,m.toNat::q::σ,o++[(2,(seen:Int))])) (v3,v4) trivial [3,4] akh (by
     show[TU v3 (m.toNat::q::σ),jY v4 (o++[(2,(seen:Int))])]=_
     rw[<-adn h2,<-TV];rfl)
 ·dsimp only at h1 h2
  obtain⟨pn,rfl⟩:=iw h1;have aie:=λw' uf wZ=>eP (ap (aj ⟨gs,0,ak⟩) (σ.length+1) cs) (q::σ) pn w' uf wZ i7 (by simp only[db];omega) J;have UO:=λσ'=>aic (q::σ) σ' (pn:Int) h1 h2 i7;have ajs:=λhr=>@aev g.aF (jj A) (fm G) col seen f q σ o (pn:Int) hx hr;have OO:=λσ' hr=>@aia g.aF (jj A) (fm G) col seen f q σ o (pn:Int) σ' hx hr;generalize CW g.aF (fm G) (q::σ) (pn:Int)=R2 at*;clear eP aic
  cases R2 with
  | none=>
   rw[ajs I]at i1;subst i1
   repeat(first|refine GC ?_|refine gV (cZ (b:=aE) I I (decide_eq_false KI)) ?_|refine gV (aB (v:=av az 2) aK.ty I (aH (i:=5) I I)) ?_|refine gV (aO (i:=0) aK.ty I I I) ?_|refine gV (aO (i:=1) aK.ty I I I) ?_|refine gV (aB (v:=av az (pn:Int)) aK.ty I (aH (i:=5) I I)) ?_|refine GB ?_)
   refine aV (UA aI.en I I I I I) (λw' hm=>aie w' hm.below (Sl.dD (hm.get (i:=3) I))) I I I ?_;intro v2 _
   conv=>arg 8;simp only[zJ,cI,ret,id_eq,NM]
   conv=>arg 7;simp only[NM]
   try refine GA ?_
   exact mU I I I I λw hm=>hm.meets (S:=su (13,[],[])) (ap ak 0 0,ap ak 0 0) trivial [] akh I
  | some σ'=>
   rw[OO σ' I]at i1;obtain⟨k1,k2,k3⟩:=UO σ' rfl;simp only[db]at k2
   repeat(first|refine GC ?_|refine gV (cZ (b:=aE) I I (decide_eq_false KI)) ?_|refine gV (aB (v:=av az 2) aK.ty I (aH (i:=5) I I)) ?_|refine gV (aO (i:=0) aK.ty I I I) ?_|refine gV (aO (i:=1) aK.ty I I I) ?_|refine gV (aB (v:=av az (pn:Int)) aK.ty I (aH (i:=5) I I)) ?_|refine GB ?_)
   refine aV (UA aI.en I I I I I) (λw' hm=>aie w' hm.below (Sl.dD (hm.get (i:=3) I))) I I I ?_;intro v2 _
   conv=>arg 8;simp only[zJ,cI,ret,id_eq,NM]
   conv=>arg 7;simp only[NM]
   repeat(first|refine GA ?_|refine gV (aB (v:=av az (pn:Int)) aK.ty I (aH (i:=5) I I)) ?_|refine gV (bD I (BB _ _)) ?_)
   refine jO (i:=4) I I I I I I I (λz h=>by cases h;rfl) J J I λz4 v4=>?_;refine zL ?_
   by_cases c6:60<σ'.length
   ·rw[if_pos c6]at i1
    subst i1
    repeat(first|refine GC ?_|refine gV (fg (i:=6) bM.eq I I) ?_|refine gV (ea (b:=aC) I I (decide_eq_true J)) ?_|refine GB ?_)
    exact mU I I I I λw hm=>hm.meets (S:=su (14,[],[])) (ap ak 0 0,ap ak 0 0) trivial [] akh I
   rw[if_neg c6]at i1
   repeat(first|refine GC ?_|refine gV (fg (i:=6) bM.eq I I) ?_|refine gV (ea (b:=aE) I I (decide_eq_false J)) ?_|refine gV (aB (v:=av az 2) aK.ty I (aH (i:=5) I I)) ?_|refine gV (dW (r:=((2001-(f+1):Nat):Int)) I I J J J) ?_|refine GB ?_)
   refine dm [0,1,2,6,4] ?_;exact bT (f+1,σ',o++[(4,(pn:Int))],v2,v4) ⟨i1,by omega,by omega,by show(o++[(4,(pn:Int))]).length+(f+1)<=2001;rw[bI,nM];omega,k1,by show σ'.length<=60;omega,k3⟩ (by show f+1<f+1+1;omega) (hl:=by rw[<-TV];rfl)
 ·rw[ah_ hx]at i1
  subst i1
  repeat(first|refine GC ?_|refine gV (cZ (b:=aE) I I (decide_eq_false KI)) ?_|refine gV (aB (v:=av az 3) aK.ty I (aH (i:=5) I I)) ?_|refine GB ?_)
  exact mU I I I I λw hm=>hm.meets (S:=su (0,q::σ,o)) (ap (aj ⟨gs,0,ak⟩) (σ.length+1) cs,vo) trivial [3,4] akh I
end bZ
namespace bZ
open Go.RowKit cK dS aU dL eO
theorem V5(w:World):(df 148 #[(0,av az 2)]).run aD w= .ok (aQ (eC (2,0)).toArray) w:=by
 unfold eC;go_simp
theorem V6(g:Nat)(w:World):(df 158 #[(0,ap (aj ⟨g,0,ak⟩) 1 1)]).run aD w= .ok (t_ (ap (aj ⟨g,0,ak⟩) 1 1) 0 0 aE) w:=by
 unfold t_;go_simp
def Dr:Spec Value:=⟨λ_=>True,λvt=>t_ vt 0 0 aE,λvt=>[xz vt [.sym (2,0)]]⟩
set_option maxRecDepth 100000 in
theorem BM(w:World):Calls aD 65 #[] w (bY Dr w):=by
 refine enter (args:=[]) (n:=5) Tryz.func65 I I I ?_;refine bW (bB (a8 I λg2=>?_));refine zL ?_
 repeat(first|refine QZ ?_|refine QV (bD I V5) ?_|refine QV (bD I (Ip (2,0))) ?_)
 refine fD (cs:=(xN (.sym (2,0))).toArray) [Lw (.sym (2,0))] I I I (by intro v hv;simp at hv;subst hv;rfl) I I I λg3=>?_;refine zL ?_
 repeat(first|refine QZ ?_|refine QV (bD I (V6 _)) ?_)
 refine ij 0 (cs':=#[ap (aj ⟨g3,0,ak⟩) 1 1,av az 0,av az 0,.bool aE]) ?_;refine zL ?_;refine zr (i:=1) 4 I I J ?_;refine zL ?_
 try refine GA ?_
 exact fZ (i:=0) I I I I λw hm=>hm.meets (S:=Dr) (ap (aj ⟨g3,0,ak⟩) 1 1) trivial [1] akh I
theorem aaJ(t n:Int)(bp:Option Addr)(mp cp:Nat)(bt:Option Addr)(mt ct:Nat)(w:World):(df 329 #[(0,dM t n (ap bp mp cp)),(1,ap bt mt ct)]).run aD w= .ok (.agg (Nb t n (ap bp mp cp) (ap bt mt ct) (ap ak 0 0) 0)) w:=by
 unfold dM Nb;go_simp
def KJ(t n:Int)(vp:Value)(st:List TD):Spec (Nat×Value):=⟨λ_=>True,λx=>aJ (aj ⟨x.1,0,ak⟩),λx=>[yW x.1 t n vp x.2 (ap ak 0 0) 0,xz x.2 st]⟩
theorem Cx(t n:Int)(vp vt:Value)(st:List TD)(seen over:Int)(done:Bool)(w:World)(ht:TdR w vt st)(hl:st.length<=60)(hvp:∃b m c,vp=ap b m c):
 Calls aD 165 #[dM t n vp,t_ vt seen over done] w (bY (KJ t n vp st) w):=by
 have jW:=λw' (hg:Gr w w')=>Fo vt st.reverse w' (by rw[Kr];exact ht.gr hg) (by rw[Kr];omega);rw[Kr]at jW;obtain⟨bp,mp,cp,rfl⟩:=hvp;refine enter (args:=[dM t n (ap bp mp cp),t_ vt seen over done]) (n:=11) Tryz.func165 I I I ?_;refine bW (bB (bP I I I λg0=>bP I I I λg1=>?_));refine zL ?_
 try refine GA ?_
 refine dT ([aP g0 (dM t n (ap bp mp cp)).cells 33,aP g1 (t_ vt seen over done).cells 158]) (.calm 0 (.calm 1 (.calm 2 (.one 3 (.calm 4 (.one 5 (.calm 6 (.done)))))))) (λ_ h=>h) ?_
 repeat(first|refine GW ?_|(refine GN ?_;first|refine QW (aO (i:=0) aK.ty I I I) ?_|refine QW (aB (v:=vt) aK.ty I (aH (i:=1) I I)) ?_))
 refine aL I ?_;refine aV (i_ aI.en I I) (λw hm=>jW _ hm.below) I I I ?_;intro o_ _;refine zL ?_;refine n9 (i:=2) I λbt ct hv q1 q2=>?_;subst hv;refine aM (bX [0,1]) ?_
 repeat(first|refine GW ?_|(refine GN ?_;first|refine QW (bD I (aaJ _ _ _ _ _ _ _ _)) ?_))
 refine aL I (bP I I I λg2=>?_);refine zL ?_;refine aM (bX [0,1]) ?_
 try refine GW ?_
 try refine GA ?_
 exact cO I I λw hm=>hm.meets (S:=KJ t n (ap bp mp cp) st) (g2,ap bt st.length ct) trivial [3,2] akh I
theorem NP{l:List aU.Prod}{nx:Int->Int}{st:List TD}{seen:Nat}{t:Int}{st1:List TD}{ig:List dr}{a1:Nat}{e:Int}(hD:fS l nx 2001 st [] 0=(st1,ig,a1,e))(he:e≠0):kD l nx st seen t=(e,[],[]):=by
 unfold kD;rw[hD];dsimp only;rw[if_pos he]
theorem aaK{l:List aU.Prod}{nx:Int->Int}{st:List TD}{seen:Nat}{t:Int}{ig:List dr}{a1:Nat}(hD:fS l nx 2001 st [] 0=([],ig,a1,0)):kD l nx st seen t=(13,[],[]):=by
 unfold kD;rw[hD];dsimp only;rw[if_neg akh]
theorem aaL{l:List aU.Prod}{nx:Int->Int}{st:List TD}{seen:Nat}{t:Int}{x:dr}{r:List TD}{ig:List dr}{a1:Nat}(hD:fS l nx 2001 st [] 0=(.sym x::r,ig,a1,0)):kD l nx st seen t=if x.2≠t then(13,[],[])else if a1+1<=2000/\(bR r (ig++[(2,(seen:Int))]) (a1+1)).2.2.2=aC then(0,(bR r (ig++[(2,(seen:Int))]) (a1+1)).1,(bR r (ig++[(2,(seen:Int))]) (a1+1)).2.1)else(14,[],[]):=by
 unfold kD;rw[hD];dsimp only;rw[if_neg akh]
theorem TY{l:List aU.Prod}{nx:Int->Int}{st:List TD}{st1:List TD}{ig:List dr}{a1:Nat}{e:Int}(hD:fS l nx 2001 st [] 0=(st1,ig,a1,e))(he:e≠0):iF l nx st=(e,[]):=by
 unfold iF;rw[hD];dsimp only;rw[if_pos he]
theorem ado{l:List aU.Prod}{nx:Int->Int}{st:List TD}{ig:List dr}{a1:Nat}(hD:fS l nx 2001 st [] 0=([],ig,a1,0)):iF l nx st=(0,ig):=by
 unfold iF;rw[hD];dsimp only;rw[if_neg akh]
theorem adp{l:List aU.Prod}{nx:Int->Int}{st:List TD}{x:dr}{r:List TD}{ig:List dr}{a1:Nat}(hD:fS l nx 2001 st [] 0=(.sym x::r,ig,a1,0)):iF l nx st=(13,[]):=by
 unfold iF;rw[hD];dsimp only;rw[if_neg akh]
def ub(seen:Int)(R:Int×List TD×List dr):Spec (Value×Value):=
 ⟨λ_=>True,λx=>if R.1=0 then .tuple #[t_ x.1 (seen+1) 0 aE,x.2,av az 0]else .tuple #[t_ (ap ak 0 0) seen R.1 aE,ap ak 0 0,av az R.1],λx=>if R.1=0 then [xz x.1 R.2.1,jY x.2 R.2.2]else []⟩
theorem lJ(seen e:Int)(w:World):(df 158 #[(1,av az seen),(2,av az e)]).run aD w= .ok (t_ (ap ak 0 0) seen e aE) w:=by
 unfold t_;go_simp
theorem V7(b:Option Addr)(m c:Nat)(seen:Int)(w:World):(df 158 #[(0,ap b m c),(1,av az seen)]).run aD w= .ok (t_ (ap b m c) seen 0 aE) w:=by
 unfold t_;go_simp
theorem CX(v vr vt:Value)(g:ep)(ll:List (List Int))(T N:Nat)(st:List TD)(seen t:Nat)(w:World)(h:kK (λk=>k<w.heap.size) w v g)(hr:Aw w vr ll)(ht:TdR w vt st)(h0:FQ g ll=0)(hg:cz g=0)(hT:FY g ll T N)(hs:∀d∈st,ry g d)(hl:st.length<=60)(h1:seen<=1000000)(h2:t<T):
 Calls aD 138 #[v,vr,t_ vt (seen:Int) 0 aE,av az (t:Int)] w (bY (ub (seen:Int) (kD g.aF (jb ll t) st seen (t:Int))) w):=by
 have jw:=λw' (uf:Gr w w')=>sq v vr vt g ll st (seen:Int) (t:Int) w' (h.gr uf) (hr.gr uf) (ht.gr uf) h0 hs hl J J J (by have:=hT.aT;omega);have IF:=hT.aT;obtain⟨vp,rfl,hp,_⟩:=h;have CI:=λw' (uf:Gr w w')=>Cx g.aT g.bC vp vt st (seen:Int) 0 aE w' (ht.gr uf) hl (by obtain⟨b,c,e,_⟩:=hp;exact⟨b,_,c,e⟩);have hdw:=λgw ZG ZH w' B ho hm=>Ct w gw g.aT g.bC vp vr g ll T N t hp hr hg hT J ZG ZH st w' B hs hl ho hm;have Ur:=λR=>@Ao g.aF (jb ll t) 2001 st [] 0 R;have hdt:=λR=>@ww g.aF (jb ll t) 2001 st [] 0 R;have hde:=@wu g.aF (jb ll t) 2001 st [] 0;generalize hD:fS g.aF (jb ll t) 2001 st [] 0=D at*;obtain⟨st1,ig,a1,e⟩:=D;have Ur:=λh=>Ur _ I h hl J;have hdt:=λh=>hdt _ I h;dsimp only at*;refine enter (args:=[dM g.aT g.bC vp,vr,t_ vt (seen:Int) 0 aE,av az (t:Int)]) (n:=96) Tryz.func138 I I I ?_;refine bW (bB (bP I I I λg0=>bP I I I λg1=>a8 I λg2=>?_));refine zL ?_
 repeat(first|refine GA ?_|refine gV (aB (v:=av az g.aT) aK.ty I (aH (i:=0) I I)) ?_|refine gV (aO (i:=0) aK.ty I I I) ?_|refine gV (aO (i:=1) aK.ty I I I) ?_)
 refine aV (UA aI.en I I I I I) (λw hm=>jw _ hm.below) I I I ?_;intro _ _;refine zL ?_
 repeat(first|refine GA ?_|refine gV (aO (i:=0) aK.ty I I I) ?_|refine gV (aO (i:=1) aK.ty I I I) ?_)
 refine aV (fB aI.en I I I) (λw hm=>CI _ hm.below) I I I ?_;rintro⟨gw,ZJ⟩ _
 conv=>arg 8;simp only[zJ,cI,ret,id_eq,KJ]
 try refine GA ?_
 refine wY 55 2 ?_;refine zL ?_;refine bx [3,4,5] [0,1,2] akh I I (sV aI.en I I I I) (λw' hm hb=>hdw gw ZJ _ w' _ ((qx.self w).on hm λo h=>ET h) hb) I I I ?_;rintro⟨Tv,WO⟩ _
 conv=>arg 8;simp only[zJ,cI,ret,id_eq,dwS]
 conv=>arg 7;simp only[dwS]
 rcases hde with rfl|rfl|rfl
 ·obtain⟨hd1,hd2,hd3,hd4⟩:=Ur rfl
  rcases hdt rfl with rfl|⟨x,r,rfl,hx⟩
  ·rw[aaK hD]
   try refine GA ?_
   refine dT ([yW gw g.aT g.bC vp Tv WO a1,xz Tv []]) (.calm 0 (.calm 1 (.calm 2 (.calm 3 (.calm 4 (.calm 5 (.calm 6 (.calm 7 (.calm 8 (.calm 9 (.calm 10 (.calm 11 (.calm 12 (.calm 13 (.calm 14 (.calm 15 (.calm 16 (.calm 17 (.calm 18 (.calm 19 (.calm 20 (.calm 21 (.calm 22 (.calm 23 (.calm 24 (.calm 25 (.calm 26 (.calm 27 (.done))))))))))))))))))))))))))))) (bX [3,4]) ?_
   repeat(first|(refine GN ?_;first|refine QW QP ?_|refine QW (aB (v:=Tv) aK.ty I (aH (i:=0) I I)) ?_|refine QW (cZ (b:=aC) I I I) ?_|refine QW (fg (i:=1) bM.eq I I) ?_|refine GX ?_)|refine GW ?_)
   repeat(first|refine GA ?_|refine gV (aB (v:=av az (seen:Int)) aK.ty I (aH (i:=1) I I)) ?_|refine gV (bD I (lJ _ _)) ?_)
   refine ij 2 (cs':=#[ap ak 0 0,av az (seen:Int),av az 13,.bool aE]) ?_;refine zL ?_
   try refine GA ?_
   exact fC (i:=2) I I I I I I λw hm=>hm.meets (S:=ub (seen:Int) (13,[],[])) (ap ak 0 0,ap ak 0 0) trivial [] akh I
  rw[aaL hD];obtain⟨k,m⟩:=x;dsimp only at hx;subst hx;simp only[db]at hd1
  try refine GA ?_
  refine yw (i:=4) I (by simp) λgt ct hv q1 q2=>?_;subst hv;simp only[db]at*
  by_cases c1:m≠(t:Int)
  ·rw[if_pos c1]
   refine dT ([yW gw g.aT g.bC vp (ap (aj ⟨gt,0,ak⟩) (r.length+1) ct) WO a1,xz (ap (aj ⟨gt,0,ak⟩) (r.length+1) ct) (.sym (1,m)::r)]) (.calm 0 (.calm 1 (.calm 2 (.calm 3 (.calm 4 (.calm 5 (.calm 6 (.calm 7 (.calm 8 (.calm 9 (.calm 10 (.calm 11 (.calm 12 (.calm 13 (.calm 14 (.calm 15 (.calm 16 (.calm 17 (.calm 18 (.calm 19 (.calm 20 (.calm 21 (.calm 22 (.calm 23 (.calm 24 (.calm 25 (.calm 26 (.calm 27 (.done))))))))))))))))))))))))))))) (bX [3,4]) ?_
   repeat(first|(refine GN ?_;first|refine QW QP ?_|refine QW (aB (v:=ap (aj ⟨gt,0,ak⟩) (r.length+1) ct) aK.ty I (aH (i:=0) I I)) ?_|refine QW (cZ (b:=aC) I I I) ?_|refine QW (cZ (b:=aE) I I (decide_eq_false J)) ?_|refine QW (aB (v:=av az m) aK.ty I (Cn (i:=1) I 3 _ I)) ?_|refine QW (dl (b:=aC) I I (decide_eq_true c1)) ?_|refine QW (eL (r:=(r.length:Int)) I I J J J) ?_|refine QW (aY (j:=r.length) bM.eq aK.ty I I J) ?_|refine GX ?_)|refine GW ?_)
   repeat(first|refine GA ?_|refine gV (aB (v:=av az (seen:Int)) aK.ty I (aH (i:=1) I I)) ?_|refine gV (bD I (lJ _ _)) ?_)
   refine ij 2 (cs':=#[ap ak 0 0,av az (seen:Int),av az 13,.bool aE]) ?_;refine zL ?_
   try refine GA ?_
   exact fC (i:=2) I I I I I I λw hm=>hm.meets (S:=ub (seen:Int) (13,[],[])) (ap ak 0 0,ap ak 0 0) trivial [] akh I
  rw[if_neg c1];obtain rfl:m=(t:Int):=by simpa using c1
  refine dT ([yW gw g.aT g.bC vp (ap (aj ⟨gt,0,ak⟩) (r.length+1) ct) WO a1,xz (ap (aj ⟨gt,0,ak⟩) (r.length+1) ct) (.sym (1,(t:Int))::r)]) (.calm 0 (.calm 1 (.calm 2 (.calm 3 (.calm 4 (.calm 5 (.calm 6 (.calm 7 (.calm 8 (.calm 9 (.calm 10 (.calm 11 (.calm 12 (.calm 13 (.calm 14 (.calm 15 (.calm 16 (.calm 17 (.calm 18 (.calm 19 (.calm 20 (.calm 21 (.calm 22 (.calm 23 (.calm 24 (.calm 25 (.calm 26 (.calm 27 (.done))))))))))))))))))))))))))))) (bX [3,4]) ?_
  repeat(first|(refine GN ?_;first|refine QW QP ?_|refine QW (aB (v:=ap (aj ⟨gt,0,ak⟩) (r.length+1) ct) aK.ty I (aH (i:=0) I I)) ?_|refine QW (cZ (b:=aC) I I I) ?_|refine QW (cZ (b:=aE) I I (decide_eq_false J)) ?_|refine QW (aB (v:=av az (t:Int)) aK.ty I (Cn (i:=1) I 3 _ I)) ?_|refine QW (dl (b:=aE) I I (decide_eq_false (by simp))) ?_|refine QW (eL (r:=(r.length:Int)) I I J J J) ?_|refine QW (aY (j:=r.length) bM.eq aK.ty I I J) ?_|refine GX ?_)|refine GW ?_)
  repeat(first|refine GC ?_|refine gV (cZ (b:=aC) I I I) ?_|refine GB ?_)
  refine bx [3,4] [0,1,2,5] akh I I (i_ aI.en I I) (λw hm hb=>BD gw g.aT g.bC vp _ WO (.sym (1,(t:Int))) r a1 w _ J hb) I I I ?_;intro Tw _;refine zL ?_;dsimp only
  repeat(first|refine GA ?_|refine gV (aB (v:=av az (seen:Int)) aK.ty I (aH (i:=1) I I)) ?_)
  refine bx [4,3] [0,1,2,5] akh I I (sV aI.en I I I I) (λw hm hb=>BC gw g.aT g.bC vp Tw WO ig a1 2 (seen:Int) w _ (by simp at hd3;omega) J hb) I I I ?_;intro vo3 _;refine zL ?_;dsimp only
  by_cases c2:a1+1<=2000
  ·rw[decide_eq_true (show((a1+1:Nat):Int)<=2000 by omega)]
   try refine GA ?_
   refine C9 I I I ?_;refine bx [4,3,5] [0,1,2] akh I I (i_ aI.en I I) (λw hm hb=>sf gw g.aT g.bC vp Tw vo3 r (ig++[(2,(seen:Int))]) (a1+1) w _ J c2 (by simp at hd3⊢;omega) hb) I I I ?_;rintro⟨vt4,vo4⟩ _
   conv=>arg 8;simp only[zJ,cI,ret,id_eq,clS]
   conv=>arg 7;simp only[clS]
   generalize bR r (ig++[(2,(seen:Int))]) (a1+1)=C;obtain⟨st3,ajt,a3,ok⟩:=C;dsimp only
   cases ok with
   | true=>
    rw[if_pos ⟨c2,rfl⟩]
    repeat(first|refine GC ?_|refine gV (cZ (b:=aC) I I I) ?_|refine GB ?_)
    refine Jv (i:=4) I λbt ct' hv q3 q4=>?_;subst hv;refine dT ([yW gw g.aT g.bC vp (ap bt st3.length ct') vo4 a3,aP g1 (t_ vt (seen:Int) 0 aE).cells 158]) (.calm 0 (.calm 1 (.calm 2 (.calm 3 (.calm 4 (.calm 5 (.calm 6 (.calm 7 (.calm 8 (.calm 9 (.calm 10 (.calm 11 (.one 12 (.calm 13 (.calm 14 (.done)))))))))))))))) (bX [3,1]) ?_
    repeat(first|refine GW ?_|(refine GN ?_;first|refine QW (aB (v:=ap bt st3.length ct') aK.ty I (aH (i:=0) I I)) ?_|refine QW (aB (v:=av az (seen:Int)) aK.ty I (aH (i:=1) I I)) ?_|refine QW (aB (v:=vo4) aK.ty I (aH (i:=0) I I)) ?_|refine QW (bD I (V7 _ _ _ _)) ?_))
    refine aL I (aX (i:=2) (cs':=#[ap bt st3.length ct',av az ((seen:Int)+1),av az 0,.bool aE]) I I I I I I (aM (bX [3,1]) ?_))
    try refine GW ?_
    try refine GA ?_
    exact fC (i:=2) I I I I I I λw hm=>hm.meets (S:=ub (seen:Int) (0,st3,ajt)) (ap bt st3.length ct',vo4) trivial [4,5] akh I
   | false=>
    rw[if_neg (by rintro⟨_,h⟩;cases h)]
    try refine GA ?_
    repeat(first|refine GA ?_|refine gV (aB (v:=av az (seen:Int)) aK.ty I (aH (i:=1) I I)) ?_|refine gV (bD I (lJ _ _)) ?_)
    refine ij 2 (cs':=#[ap ak 0 0,av az (seen:Int),av az 14,.bool aE]) ?_;refine zL ?_
    try refine GA ?_
    exact fC (i:=2) I I I I I I λw hm=>hm.meets (S:=ub (seen:Int) (14,[],[])) (ap ak 0 0,ap ak 0 0) trivial [] akh I
  rw[if_neg (by rintro⟨h,_⟩;exact c2 h)];rw[decide_eq_false (show ¬((a1+1:Nat):Int)<=2000 by omega)]
  try refine GA ?_
  repeat(first|refine GA ?_|refine gV (aB (v:=av az (seen:Int)) aK.ty I (aH (i:=1) I I)) ?_|refine gV (bD I (lJ _ _)) ?_)
  refine ij 2 (cs':=#[ap ak 0 0,av az (seen:Int),av az 14,.bool aE]) ?_;refine zL ?_
  try refine GA ?_
  exact fC (i:=2) I I I I I I λw hm=>hm.meets (S:=ub (seen:Int) (14,[],[])) (ap ak 0 0,ap ak 0 0) trivial [] akh I
 ·rw[NP hD akh]
  try refine GA ?_
  refine dT ([]) (.calm 0 (.calm 1 (.calm 2 (.calm 3 (.calm 4 (.calm 5 (.calm 6 (.calm 7 (.calm 8 (.calm 9 (.calm 10 (.calm 11 (.calm 12 (.calm 13 (.calm 14 (.calm 15 (.calm 16 (.calm 17 (.calm 18 (.calm 19 (.calm 20 (.calm 21 (.calm 22 (.calm 23 (.calm 24 (.calm 25 (.calm 26 (.calm 27 (.done))))))))))))))))))))))))))))) (bX []) ?_
  try refine GW ?_
  repeat(first|refine GA ?_|refine gV (aB (v:=av az (seen:Int)) aK.ty I (aH (i:=1) I I)) ?_|refine gV (bD I (lJ _ _)) ?_)
  refine ij 2 (cs':=#[ap ak 0 0,av az (seen:Int),av az 13,.bool aE]) ?_;refine zL ?_
  try refine GA ?_
  exact fC (i:=2) I I I I I I λw hm=>hm.meets (S:=ub (seen:Int) (13,[],[])) (ap ak 0 0,ap ak 0 0) trivial [] akh I
 ·rw[NP hD akh]
  try refine GA ?_
  refine dT ([]) (.calm 0 (.calm 1 (.calm 2 (.calm 3 (.calm 4 (.calm 5 (.calm 6 (.calm 7 (.calm 8 (.calm 9 (.calm 10 (.calm 11 (.calm 12 (.calm 13 (.calm 14 (.calm 15 (.calm 16 (.calm 17 (.calm 18 (.calm 19 (.calm 20 (.calm 21 (.calm 22 (.calm 23 (.calm 24 (.calm 25 (.calm 26 (.calm 27 (.done))))))))))))))))))))))))))))) (bX []) ?_
  try refine GW ?_
  repeat(first|refine GA ?_|refine gV (aB (v:=av az (seen:Int)) aK.ty I (aH (i:=1) I I)) ?_|refine gV (bD I (lJ _ _)) ?_)
  refine ij 2 (cs':=#[ap ak 0 0,av az (seen:Int),av az 14,.bool aE]) ?_;refine zL ?_
  try refine GA ?_
  exact fC (i:=2) I I I I I I λw hm=>hm.meets (S:=ub (seen:Int) (14,[],[])) (ap ak 0 0,ap ak 0 0) trivial [] akh I
def KM(seen:Int)(R:Int×List dr):Spec Value:=
 ⟨λ_=>True,λx=>if R.1=0 then .tuple #[t_ (ap ak 0 0) seen 0 aC,x,av az 0]else .tuple #[t_ (ap ak 0 0) seen R.1 aE,ap ak 0 0,av az R.1],λx=>if R.1=0 then [jY x R.2]else []⟩
theorem V8(seen:Int)(w:World):(df 158 #[(1,av az seen),(3,.bool aC)]).run aD w= .ok (t_ (ap ak 0 0) seen 0 aC) w:=by
 unfold t_;go_simp
theorem F5(v vr vt:Value)(g:ep)(ll:List (List Int))(T N:Nat)(st:List TD)(seen:Nat)(w:World)(h:kK (λk=>k<w.heap.size) w v g)(hr:Aw w vr ll)(ht:TdR w vt st)(h0:FQ g ll=0)(hg:cz g=0)(hT:FY g ll T N)(hs:∀d∈st,ry g d)(hl:st.length<=60)(h1:seen<=1000000):
 Calls aD 144 #[v,vr,t_ vt (seen:Int) 0 aE] w (bY (KM (seen:Int) (iF g.aF (jb ll T) st)) w):=by
 have IF:=hT.aT;have jw:=λw' (uf:Gr w w')=>sq v vr vt g ll st (seen:Int) g.aT w' (h.gr uf) (hr.gr uf) (ht.gr uf) h0 hs hl J J J J;obtain⟨vp,rfl,hp,_⟩:=h;have CI:=λw' (uf:Gr w w')=>Cx g.aT g.bC vp vt st (seen:Int) 0 aE w' (ht.gr uf) hl (by obtain⟨b,c,e,_⟩:=hp;exact⟨b,_,c,e⟩);have hdw:=λgw ZG ZH w' B ho hm=>Ct w gw g.aT g.bC vp vr g ll T N T hp hr hg hT J ZG ZH st w' B hs hl ho hm;rw[<-IF]at hdw;have hdt:=λR=>@ww g.aF (jb ll T) 2001 st [] 0 R;have hde:=@wu g.aF (jb ll T) 2001 st [] 0;generalize hD:fS g.aF (jb ll T) 2001 st [] 0=D at*;obtain⟨st1,ig,a1,e⟩:=D;have hdt:=λh=>hdt _ I h;dsimp only at*;refine enter (args:=[dM g.aT g.bC vp,vr,t_ vt (seen:Int) 0 aE]) (n:=55) Tryz.func144 I I I ?_;refine bW (bB (bP I I I λg0=>bP I I I λg1=>a8 I λg2=>?_));refine zL ?_
 repeat(first|refine GA ?_|refine gV (aB (v:=av az g.aT) aK.ty I (aH (i:=0) I I)) ?_|refine gV (aO (i:=0) aK.ty I I I) ?_|refine gV (aO (i:=1) aK.ty I I I) ?_)
 refine aV (UA aI.en I I I I I) (λw hm=>jw _ hm.below) I I I ?_;intro _ _;refine zL ?_
 repeat(first|refine GA ?_|refine gV (aO (i:=0) aK.ty I I I) ?_|refine gV (aO (i:=1) aK.ty I I I) ?_)
 refine aV (fB aI.en I I I) (λw hm=>CI _ hm.below) I I I ?_;rintro⟨gw,ZJ⟩ _
 conv=>arg 8;simp only[zJ,cI,ret,id_eq,KJ]
 repeat(first|refine GA ?_|refine gV (aB (v:=av az g.aT) aK.ty I (aH (i:=0) I I)) ?_)
 refine wY 55 2 ?_;refine zL ?_;refine bx [3,4,5] [0,1,2] akh I I (sV aI.en I I I I) (λw' hm hb=>hdw gw ZJ _ w' _ ((qx.self w).on hm λo h=>ET h) hb) I I I ?_;rintro⟨Tv,WO⟩ _
 conv=>arg 8;simp only[zJ,cI,ret,id_eq,dwS]
 conv=>arg 7;simp only[dwS]
 rcases hde with rfl|rfl|rfl
 ·rcases hdt rfl with rfl|⟨x,r,rfl,hx⟩
  ·rw[ado hD]
   repeat(first|refine GC ?_|refine gV (aB (v:=Tv) aK.ty I (aH (i:=3) I I)) ?_|refine gV (cZ (b:=aC) I I I) ?_|refine gV (fg (i:=4) bM.eq I I) ?_|refine gV (ea (b:=aE) I I I) ?_|refine GB ?_)
   refine dT ([yW gw g.aT g.bC vp Tv WO a1,aP g1 (t_ vt (seen:Int) 0 aE).cells 158]) (.calm 0 (.calm 1 (.calm 2 (.calm 3 (.calm 4 (.calm 5 (.calm 6 (.one 7 (.calm 8 (.calm 9 (.done))))))))))) (bX [3,1]) ?_
   repeat(first|refine GW ?_|(refine GN ?_;first|refine QW (aB (v:=av az (seen:Int)) aK.ty I (aH (i:=1) I I)) ?_|refine QW (aB (v:=WO) aK.ty I (aH (i:=0) I I)) ?_|refine QW (bD I (V8 _)) ?_))
   refine aL I (aX (i:=2) (cs':=#[ap ak 0 0,av az (seen:Int),av az 0,.bool aC]) I I I I I I (aM (bX [3,1]) ?_))
   try refine GW ?_
   try refine GA ?_
   exact fC (i:=2) I I I I I I λw hm=>hm.meets (S:=KM (seen:Int) (0,ig)) WO trivial [5] akh I
  rw[adp hD]
  repeat(first|refine GC ?_|refine gV (aB (v:=Tv) aK.ty I (aH (i:=3) I I)) ?_|refine gV (cZ (b:=aC) I I I) ?_|refine gV (aB (v:=av az (seen:Int)) aK.ty I (aH (i:=1) I I)) ?_|refine gV (bD I (lJ _ _)) ?_|refine gV (fg (i:=4) bM.eq I I) ?_|refine gV (ea (b:=aC) I I (decide_eq_true (by rw[db];omega))) ?_|refine GB ?_)
  refine ij 2 (cs':=#[ap ak 0 0,av az (seen:Int),av az 13,.bool aE]) ?_;refine zL ?_
  try refine GA ?_
  exact fC (i:=2) I I I I I I λw hm=>hm.meets (S:=KM (seen:Int) (13,[])) (ap ak 0 0) trivial [] akh I
 ·rw[TY hD akh]
  repeat(first|refine GA ?_|refine gV (aB (v:=av az (seen:Int)) aK.ty I (aH (i:=1) I I)) ?_|refine gV (bD I (lJ _ _)) ?_)
  refine ij 2 (cs':=#[ap ak 0 0,av az (seen:Int),av az 13,.bool aE]) ?_;refine zL ?_
  try refine GA ?_
  exact fC (i:=2) I I I I I I λw hm=>hm.meets (S:=KM (seen:Int) (13,[])) (ap ak 0 0) trivial [] akh I
 ·rw[TY hD akh]
  repeat(first|refine GA ?_|refine gV (aB (v:=av az (seen:Int)) aK.ty I (aH (i:=1) I I)) ?_|refine gV (bD I (lJ _ _)) ?_)
  refine ij 2 (cs':=#[ap ak 0 0,av az (seen:Int),av az 14,.bool aE]) ?_;refine zL ?_
  try refine GA ?_
  exact fC (i:=2) I I I I I I λw hm=>hm.meets (S:=KM (seen:Int) (14,[])) (ap ak 0 0) trivial [] akh I
end bZ
namespace bZ
open Go.RowKit cK dS aU dL eO CL f_ dP yJ
abbrev TZ(g:ep)(T N:Nat):List (List Int):=jp N λn=>jp (T+1) (CL.rowAt g.aF (y9 N g.aF) T n)
theorem NQ{α:Type}{len:Nat}{f:Nat->α}{d:α}(k:Nat):(jp len f).getD k d=if k<len then f k else d:=by
 rw[cB]
 by_cases h:k<len
 rw[vC _ h,if_pos h];rfl;rw[k7 (by rw[iS];omega),if_neg h];rfl
theorem af0{g:ep}{T N:Nat}(hT:g.aT=T)(hN:g.bC=N):FY g (TZ g T N) T N where
 aT:=hT
 bC:=hN
 len:=iS _ _
 row r hr:=by
  obtain⟨n,_,rfl⟩:=eT.1 hr;exact iS _ _
 nx col n h0:=by
  unfold jb at h0⊢;rw[NQ]at h0⊢
  by_cases h:n.toNat<N
  ·rw[if_pos h]at h0⊢
   rw[NQ]at h0⊢
   by_cases h2:col<T+1
   ·rw[if_pos h2]at h0⊢
    refine⟨(vH n.toNat col g.aF.length).2,λhn=>?_⟩;have:=yM (may:=y9 N g.aF) (T:=T) n.toNat col g.aF.length (bz _) h0;unfold CL.rowAt;rw[this];omega
   rw[if_neg h2]at h0;omega
  rw[if_neg h]at h0;have:([]:List Int).getD col (-1)= -1:=rfl;omega
theorem IG{l:List aU.Prod}{n:Nat}:∀r:List Int,(∀p∈r,-1<=p/\p<(l.length:Int)/\(0<=p->(dc l p).1=(n:Int)))->tH l n r=0
 |[],_=>rfl
 |p::r,h=>by
  have hp:=h p (ia ..);rw[tH,if_neg J,if_neg J,if_neg (by rintro⟨h1,h2⟩;exact h2 (hp.2.2 h1))];exact IG r λp hp=>h p (jR _ hp)
theorem F6{l:List aU.Prod}{t:Int}:∀(rows:List (List Int)) (n:Nat),(∀i (h:i<rows.length),(rows[i].length:Int)=t+1/\tH l (n+i) rows[i]=0)->qY l t n rows=0
 |[],_,_=>rfl
 | r ::rs,n,h=>by
  have h0:=h 0 (by simp);simp only[List.getElem_cons_zero,iu]at h0;rw[qY,if_neg (by simp[h0.1]),if_neg (by simp[h0.2])];exact F6 rs (n+1) λi hi=>by
   have:=h (i+1) (by simp;omega);simp only[List.getElem_cons_succ]at this;rw[show n+1+i=n+(i+1)by omega];exact this
theorem NR{g:ep}{T N:Nat}(hg:cz g=0)(hT:g.aT=T)(hN:g.bC=N):FQ g (TZ g T N)=0:=by
 unfold FQ;rw[if_neg (by simp[hg]),iS,if_neg (by simp[hN])];refine F6 _ 0 λi hi=>?_;rw[iS]at hi;have yP:(TZ g T N)[i]'(by rw[iS];exact hi)=jp (T+1) (CL.rowAt g.aF (y9 N g.aF) T i):=by simp[jp]
 rw[yP];refine⟨by rw[iS,hT];rfl,IG _ λp hp=>?_⟩;obtain⟨c,_,rfl⟩:=eT.1 hp;have h1:=vH (l:=g.aF) (may:=y9 N g.aF) (T:=T) i c g.aF.length;refine⟨h1.1,h1.2,λh0=>?_⟩;rw[cX];exact yM (l:=g.aF) (may:=y9 N g.aF) (T:=T) i c g.aF.length (bz _) h0
theorem aaM(seen:Int)(st:List TD)(l:List dr):ub seen (0,st,l)=⟨λ_=>True,λx=> .tuple #[t_ x.1 (seen+1) 0 aE,x.2,av az 0],λx=>[xz x.1 st,jY x.2 l]⟩:=by unfold ub;simp
theorem V9(seen:Int){e:Int}(he:e≠0)(st:List TD)(l:List dr):ub seen (e,st,l)=⟨λ_=>True,λx=> .tuple #[t_ (ap ak 0 0) seen e aE,ap ak 0 0,av az e],λx=>[]⟩:=by unfold ub;simp[he]
theorem adq(seen:Int)(l:List dr):KM seen (0,l)=⟨λ_=>True,λx=> .tuple #[t_ (ap ak 0 0) seen 0 aC,x,av az 0],λx=>[jY x l]⟩:=by unfold KM;simp
theorem aaN(seen:Int){e:Int}(he:e≠0)(l:List dr):KM seen (e,l)=⟨λ_=>True,λx=> .tuple #[t_ (ap ak 0 0) seen e aE,ap ak 0 0,av az e],λx=>[]⟩:=by unfold KM;simp[he]
theorem KN{v:Value}{a b:List dr}:aZ 55 2 v (a.length+b.length) (a.flatMap eC++b.flatMap eC)=jY v (a++b):=by unfold jY;rw[bI,fV]
end bZ
end Go.Proofs.YtdmgcnggnejnnaaGreat

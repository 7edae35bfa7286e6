/- Part 1 of what SessionSteps needs: Kit, Law, Open, Mix, Eng, Step, Ops, Opm, Cls, Opx, MixV, MixW, Go3, Ty, OpenE, ClassL, ClassQ, ClassR, RexL, RexF, RexG, Read, Seq, ReadM, Room, Shp, Map, RexS, ClsEq, App, RexC, ClassB, KeyG, SmL, ClsHas, RexM, LookOk, RexE, RexPr, MixX, RexSz, GramL, StrK, ClassO1, RexI, DfaL, DfaO. -/
import Derived.WalkKit
import Derived.WalkSpells
import Derived.WalkLawsBesides
import Derived.Deep.RegionLaw
import Derived.Deep.AppendLies
import Derived.Deep.QuietTactic
import Derived.BigQuiet
import Derived.Deep.DeepCutAuto
import Derived.Lib.Hide
import Derived.Test.YtdmgcnggnejnnaaGreatRows
import Derived.ProofKit
import Derived.OpenShut
import Derived.ShutString
import Derived.SizedLaws
import Derived.JoinedCond
import Derived.Deep.CondSized
import Derived.Deep.Quiet
import Derived.StillTail
import Derived.Deep.LoopGhost
import Derived.Laws.BitsLemmas
import Derived.Laws.BytesString
import Derived.Laws.StructEq
import Derived.Test.YtdmgcnggnejnnaaGreatProg
import Derived.Laws.Entries
import Derived.Laws.BitsAllLaws
import Derived.Lib.TrailingZeros
import Derived.Laws.MakeOwn
import Derived.Laws.AppendOwn
import Derived.Maps.OwnSet
import Derived.DeepKeys4
import Derived.WideKeyEntry
import Derived.ChangeKeysEq
import Derived.Laws.Bits64b
import Derived.Lib.Strings
import Derived.Lib.Slices
import Derived.Lib.Walk
import Derived.Lib.Bytealg
import Derived.StringKeys
namespace Go.Proofs.YtdmgcnggnejnnaaGreat
set_option linter.unusedVariables false
set_option linter.unusedSimpArgs false
open _root_.Array renaming getElem?_eq_some_iff->lA,length_toList->nj,getD_eq_getD_getElem?->xc,toArray_toList->xd,toList_setIfInBounds->Hx,toList_map->CA,replicate->Hy,range->CB,ext'->qJ,getElem?_append_left->Uk,ext_getElem?->Ul
open _root_.BitVec renaming ofNat->lY,eq_of_toNat_eq->Um
open _root_.Bool renaming false->aE,true->aD,and_eq_true->fU,or_eq_true->mA,beq_eq_decide_eq->Hz,not_eq_true'->zu,eq_iff_iff->MQ
open _root_.ByteArray renaming mk->sc,size->zv,get!->aca,toList->acb,ext->acd,data_extract->ace
open _root_.ByteArray.toList renaming loop->MU
open _root_.Classical renaming choose_spec->CC,byContradiction->Un,choose->HA
open _root_.False renaming elim->nk
open _root_.Go.Act renaming put_comm->zw,put->xe,eval->HB
open _root_.Go.Addr renaming add->zx
open _root_.Go.Addr.mk renaming injEq->MV
open _root_.Go.BigFrame renaming execOp_builtin->lZ,builtin_append->sd,builtin_len->MW,wpList_want->Uo,builtin_min->Up
open _root_.Go.Builtin renaming append_->tL,lenOf->zy,firstCells->CD,min_->Uq,min2->Ur,len_->Us
open _root_.Go.ByteArray renaming mk_append_mk->acf
open _root_.Go.Calls renaming mono->Ut
open _root_.Go.ChangeSpec renaming plain->acg
open _root_.Go.Conv renaming bytesToString->Uu
open _root_.Go.DataW renaming weightsEach->xf,weights->xg,weightsAll->CE,trod->zz,TrodAll->HC,trod_struct->Uv,trod_slice->Uw,Trod->Ux
open _root_.Go.Deferred renaming ofValue->zK
open _root_.Go.Exit renaming inBlock->tM
open _root_.Go.Instr renaming build->dR,sliceBounds->se,fill->jP,buildSlice->tN,sliceAt->sf,sureAddr->xh,slice->sg,sliceBound->HD,mapUpdate->zM,storeAt->MX,fieldAt->Uy,indexAt->Uz,loadAt->UA,index->UB
open _root_.Go.IntKind renaming i64->az,bits->lB,signed->oY,wrap_u64->tO,u64->xi,min->zN,max->zO
open _root_.Go.Maps renaming size->MY,has->MZ
open _root_.Go.Maps.Keyed renaming of_law->ach
open _root_.Go.Next renaming value->UC
open _root_.Go.Op renaming shift->jd,equalIn->oZ,intCmp->zP,intArith->M0,equal->HE,stringOp->UD
open _root_.Go.Oper renaming wp->gG,upon_enter->M3,upon->M4,upon_value->UE
open _root_.Go.Program renaming keyLits->sh
open _root_.Go.Proofs.Tryz renaming prog->aC
open _root_.Go.Region renaming wanted->n_,ready->nl,noSelect->HF,Mode->CF,binds->M5,noSelect_spec->UF,free_spec->UG,free->UH
open _root_.Go.Result renaming andThen_ok->n',andThen->l4,ok->M6
open _root_.Go.Rows renaming mono->UI
open _root_.Go.Sem renaming run_bind->l5,run_pure->mB
open _root_.Go.Value renaming slice->ap,int->av,pointer->aK,agg->aU,oneCell'->fG,bool->gi,ownBlock->qK,okWide->HG
open _root_.Go.Value.slice renaming injEq->jQ
open _root_.Go.WideElems renaming Trod_stays->aci
open _root_.Go.World renaming block_lt_of_cell?->np,cell?_of_block->UJ,ownsMap_made->UK
open _root_.Int renaming toNat_natCast->dP
open _root_.List renaming getElem?_eq_getElem->bQ,getD_eq_getElem?_getD->cK,length_append->bT,getElem?_eq_some_iff->dv,getElem_mem->cV,length_cons->dE,drop_eq_getElem_cons->ff,replicate->dJ,getElem?_append_left->fH,length_map->dX,size_toArray->eE,take_succ_eq_append_getElem->ia,append_nil->eB,append_assoc->eZ,getElem?_map->fx,mem_cons->ez,take_of_length_le->gj,flatMap_append->fV,nil_append->fg,getElem?_append_right->mC,mem_append->fC,range->eG,mem_map->e7,drop_of_length_le->je,getElem?_toArray->kt,getElem?_set_ne->mD,getElem?_set_self->mE,mem_cons_self->ir,mem_iff_getElem->jt,map_cons->gu,getElem?_eq_none->jE,eq_nil_of_length_eq_zero->si,not_mem_nil->iD,flatMap_cons->lC,length_take->jR,nodup_cons->oa,set_eq_take_append_cons_drop->CG,getElem?_cons_zero->sj,mem_of_getElem?->mF,mem_range->nr,cons_append->ku,ext_getElem?->mG,take_append_drop->tP,any_eq_true->oc,getElem?_of_mem->tQ,mem_map_of_mem->zQ,filterMap->tR,all_eq_true->sk,drop_zero->qL,drop_drop->qM,length_erase_of_mem->HH,findIdx?_eq_some_iff_getElem->M7,filterMap_cons_some->zR,mem_filter->tS,take_succ_cons->sm,take_zero->tU,filterMap_append->zS,getElem?_concat_length->M8,map_nil->o7,mem_append_left->tV,zipIdx_cons->HI,flatten_cons->zT,length_pos_of_mem->M9,getElem?_cons_succ->CH,map_map->CI,mem_erase_of_ne->M_,map_toArray->Na,nodup_range->Nb,take_left'->Nc,drop_left'->Nd,drop_take->Nf,findIdx?_eq_none_iff->UL,getElem_append_right->UM,pairwise_iff_getElem->UN,getElem_append_left->UO,getElem_cons_succ->UP,contains_iff_mem->UQ,getElem?_append->UR,set_append_left->US,nodup_append->UT,getElem_ofFn->UU,idxOf_append->UW,mapM_cons->UX,take_set->UY,ofFn->UZ
open _root_.List.Pairwise renaming imp_of_mem->acj
open _root_.List.Perm renaming swap->ack
open _root_.List.cons renaming injEq->ib
open _root_.Nat renaming le_refl->bJ,zero_le->bO,zero_add->du,eq_of_beq_eq_true->kP,blt->dM,le_trans->fI,lt_of_lt_of_le->jf,le_of_ble_eq_true->mH,add_mul->jF,mul_le_mul_right->o8,beq->fW,succ_mul->kQ,add_zero->iO,mul_one->kR,add_assoc->l6,min_eq_left->zU,ne_of_beq_eq_false->HJ,one_mul->tW,zero_mul->HK,ble->xj,div_lt_iff_lt_mul->U0,eq_zero_or_pos->U1,mod_lt->CJ
open _root_.Ne renaming symm->zV
open _root_.Option renaming some->aj,none->ak
open _root_.Option.some renaming injEq->dB,inj->o9
open _root_.Prod renaming ext->od
open _root_.Prod.mk renaming injEq->gH
open _root_.UInt8 renaming ofNat->gv
set_option maxHeartbeats 16000000
theorem I{α:Sort _}{a:α}:a=a:=rfl
theorem J{p:Prop}(h:p:=by omega):p:=h
theorem ahk{p:Prop}(h:p:=by decide):p:=h
namespace dr
open Go.RowKit
section
end
def U2(b:UInt8):Value:= .int .u8 b.toNat
def Rd(w:World)(g off:Nat)(xs:List Value):Prop:=∀j u,xs[j]?=aj u->w.cell? ⟨g,off+j,ak⟩=aj u
def Wr(w:World)(g off:Nat)(xs:List Value):Prop:=∀j u,xs[j]?=aj u->w.cell? ⟨g,off+j,ak⟩=aj u/\w.frozen? ⟨g,off+j,ak⟩=aE
theorem Wr.rd{w:World}{g off:Nat}{xs:List Value}(h:Wr w g off xs):Rd w g off xs:=λj u hj=>(h j u hj).1
theorem Rd.gr{w w':World}{g off:Nat}{xs:List Value}(h:Rd w g off xs)(hg:Below w.heap.size w w'):Rd w' g off xs:=λj u hj=>by
 have h1:=h j u hj;rw[hg.cell (np w _ h1)];exact h1
theorem Wr.gr{w w':World}{g off:Nat}{xs:List Value}(h:Wr w g off xs)(hg:Below w.heap.size w w'):Wr w' g off xs:=λj u hj=>by
 have h1:=h j u hj;rw[hg.cell (np w _ h1.1),hg.frozen (np w _ h1.1)];exact h1
theorem Rd.at{w:World}{g off:Nat}{xs:List Value}(h:Rd w g off xs)(j:Nat)(hj:j<xs.length):w.cell? ⟨g,off+j,ak⟩=aj xs[j]:=h j _ (bQ hj)
theorem Wr.at{w:World}{g off:Nat}{xs:List Value}(h:Wr w g off xs)(j:Nat)(hj:j<xs.length):w.cell? ⟨g,off+j,ak⟩=aj xs[j]/\w.frozen? ⟨g,off+j,ak⟩=false:=h j _ (bQ hj)
theorem Wr.set{w:World}{g off:Nat}{xs:List Value}(h:Wr w g off xs)(j:Nat)(hj:j<xs.length)(u:Value):Wr (w.setCell ⟨g,off+j,ak⟩ u) g off (xs.set j u):=λi v hi=>by
 have hlen:i<xs.length:=by simpa using(dv.1 hi).1
 refine⟨?_,by rw[World.frozen?_setCell];exact(h.at i hlen).2⟩
 by_cases e:i=j
 ·subst e
  rw[mE hj]at hi;rw[World.cell?_setCell_same _ _ _ (h.at i hj).1];exact hi
 rw[mD (zV e)]at hi;have hne:(⟨g,off+j,ak⟩:Addr)≠⟨g,off+i,ak⟩:=λhe=>e (by have:=congrArg Addr.off he;simp at this;omega);rw[World.cell?_setCell_other _ _ _ _ hne];exact(h i v hi).1
theorem Wr.grown{w w':World}{g off:Nat}{xs:List Value}{row:Option Nat}(h:Wr w g off xs)(hg:w.grownBy w' row)(hne:row≠aj g):Wr w' g off xs:=λj u hj=>by
 have h1:=h j u hj;have hb:=np w _ h1.1;have e:=hg.block g hb (λh=>hne h.symm);rw[UJ (w:=w) (a:=⟨g,off+j,ak⟩) e,World.frozen?_of_block (w:=w) (a:=⟨g,off+j,ak⟩) e];exact h1
theorem abD(z:Value)(n:Nat):(madeCells #[z] n).toList=dJ n z:=by
 apply mG;intro i
 by_cases h:i<n
 simp[madeCells,h,Nat.mod_one];simp[madeCells,h]
theorem Wr.append{w w':World}{g off:Nat}{xs:List Value}(h:Wr w g off xs){base:Nat}{e:TypeId}{size:Nat}{v:Value}{n:Nat}{ys:List Value}(mw:w.ownsRow base e size v n ys)(hg:w.grownBy w' v.ownBlock)(hb:g<base):Wr w' g off xs:=
 h.grown hg λe=>by have:=(mw.lt g e).1;omega
theorem Wr.nil(w:World)(g off:Nat):Wr w g off []:=λj u h=>by simp at h
theorem acm{w:World}{base:Nat}{e:TypeId}{size:Nat}{g n cap:Nat}{xs:List Value}(h:w.ownsRow base e size (ap (aj ⟨g,0,ak⟩) n cap) n xs):Wr w g 0 xs:=λj u hj=>by
 have hl:j<n*size:=by rw[<-h.1];exact(dv.1 hj).1
 rw[du];exact⟨(h.cellAt j hl).trans hj,h.frozenAt j⟩
theorem JY{P:Program}{src dst e:TypeId}(hs:P.underlying src=aj (.slice e))(he:P.underlying e=aj (.int .u8))(hd:P.underlying dst=aj .string){w:World}{g off n cap:Nat}{l:List UInt8}
 (hn:n=l.length) (h:Rd w g off (l.map U2)):(convert src dst (ap (aj ⟨g,off,ak⟩) n cap)).run P w= .ok (.string ⟨l.toArray⟩) w:=by
 subst hn;refine run_convert_bytes_back w src dst e ⟨g,off,ak⟩ cap l hs he hd λj hj=>?_;have:=h.at j (by simpa using hj);rw[show(⟨g,off,ak⟩:Addr).add j=⟨g,off+j,ak⟩by unfold zx;split<;>simp_all];rw[this];simp[U2]
end dr
namespace law
open Go.ChangeShapes Go.WideShapes Go.ChangeAt Go.RowKit
theorem own:ownKnob aC.godebug=none:=by kernel_rfl
theorem laidOut:laidOutB aC=true:=by kernel_rfl
structure ad4{H:Type}(enc:TypeId×Value->H)(fn:Func)(W:World)(base:Nat)(args:Array Value)(ds:List (DataW H))(p:List MemPlace):Prop where
 val:∀(j:Nat) t v,fn.params[j]?=aj t->args[j]?=aj v->HG aC W .any base t v
 trod:HC enc aC W 0 (λ_=>aD) aD fn.params.toList args.toList ds p
 sized:(xf aC fn.params.toList ds).all (· <=reachBytes)=aD
 free:W.noneFrozen p
noncomputable def abE(fn:Func):Bool:=fn.params.toList.all λt=>aC.readableRec t&&decide (t<aC.types.size)
section
variable{H:Type}{enc:TypeId×Value->H}
theorem wS{P:Program}(hl:laidOutB P=aD){W W':World}{sp':Nat->Bool}:∀{ts:List TypeId} {vs:List Value} {ds:List (DataW H)} {ps:List MemPlace},(ts.all λt=>P.readableRec t&&decide (t<P.types.size))=aD->
 HC enc P W 0 (λ_=>aD) aD ts vs ds ps->(∀p∈ps,W.sameAt W' p)->(∀p∈ps,sp' p.block=aD)->HC enc P W' 0 sp' aD ts vs ds ps
 |[],[],[],_,_,h,_,_=>h
 | t ::ts,v::vs,d::ds,_,hb,⟨p,q,h1,h2,e⟩,h3,h4=>by
  simp only[List.all_cons,fU,decide_eq_true_eq]at hb;subst e;exact⟨p,q,aci hl hb.1.1 hb.1.2 h1 (λx hx=>h3 x (by simp[hx])) (λx hx=>h4 x (by simp[hx])),
   wS hl hb.2 h2 (λx hx=>h3 x (by simp[hx])) (λx hx=>h4 x (by simp[hx])),rfl⟩
 |[],_::_,_,_,_,h,_,_=>h.elim
 |[],[],_::_,_,_,h,_,_=>h.elim
 |_::_,[],_,_,_,h,_,_=>h.elim
 |_::_,_::_,[],_,_,h,_,_=>h.elim
theorem tX{P:Program}{W:World}{sp:Nat->Bool}:∀{ts:List TypeId} {vs:List Value} {ds:List (DataW H)} {ps:List MemPlace},HC enc P W 0 sp aD ts vs ds ps->ds.length=ts.length
 |[],[],[],_,_=>rfl
 |_::ts,_::vs,_::ds,_,⟨_,_,_,h2,_⟩=>by simp[tX h2]
 |[],_::_,_,_,h=>h.elim
 |[],[],_::_,_,h=>h.elim
 |_::_,[],_,_,h=>h.elim
 |_::_,_::_,[],_,h=>h.elim
def JZ(fn:Func)(s:ChangeSpec):Prop:=s.vars=[]/\∀(H:Type) (ds:List (DataW H)),ds.length=fn.params.size->s.fn H ds={results:=[.lit (.bool aD)],args:=ds}
theorem Zj{fn:Func}{s:ChangeSpec}{W W':World}{args:Array Value}{ds gs:List (DataW H)}{before:List MemPlace}(hs:JZ fn s)(CK:abE fn=aD)(na:fn.resultTypes=#[4])
 (hW:DataW.Whole enc aC fn.params.toList s.vars aE W args.toList ds gs before) (hb:Below W.heap.size W W'):
 s.post enc aC fn aE aD aE aE W args (.bool aD) W':=by
 obtain⟨hv,hfn⟩:=hs;have hW':=hW;obtain⟨p,q,hA,hV,rfl,hfz,J0⟩:=hW;rw[hv]at hV;obtain⟨rfl,rfl⟩:=trodVars_none hV;have hlen:ds.length=fn.params.size:=by rw[tX hA];simp
 have hlt:∀x∈p,x.block<W.heap.size:=λx hx=>hW'.lt x (by simp[hx]);have he:s.fn H (ds++[])={results:=[.lit (.bool aD)],args:=ds}:=by rw[eB];exact hfn H ds hlen
 refine⟨ds,[],p++[],[],p,[],hW',?_,?_,?_,hb.frame _,λh=>by cases h⟩
 ·rw[he,na]
  exact trodAll_mk1 (shut_bool Tryz.underlying4 aD)
 ·rw[he]
  exact wS laidOut CK hA (λx hx=>hb.same (hlt x hx)) (λx hx=>by simpa using hlt x hx)
 ·rw[he,hv]
  rfl
end
set_option maxRecDepth 100000 in
theorem said{os:Os}{f:FuncId}{fn:Func}{s:ChangeSpec}(started:os.Started)(acn:aC.inits.idxOf? f=ak)(hf:aC.funcs[f]?=aj fn)(hs:JZ fn s)(CK:abE fn=aD)(na:fn.resultTypes=#[4])
  {H:Type} {enc:TypeId×Value->H}
  (witness:∃(w:World) (tape:Tape) (i:Input),w.os=os/\(w.forCall tape i).Shaped Tryz.checked.prog/\i.vars=[]/\Input.okWide Tryz.checked.prog (w.forCall tape i) .any w.heap.size f i/\
   s.pre6 enc Tryz.checked.prog fn [] aE (w.forCall tape i).memory i.args/\({}:Assume).holds Tryz.checked.prog (lone (Frame.enter Tryz.checked.prog f i.args .normal) [] (w.forCall tape i)))
  (walk:∀(W:World) (base:Nat) (args:Array Value) (ds:List (DataW H)) (p:List MemPlace),ad4 enc fn W base args ds p->Calls aC f args W λe W'=>e= .returned (.bool aD)/\Below W.heap.size W W'):
  ReturnsInHanded {} Tryz.checked os f .any (s.pre6 enc aC fn [] aE) (s.post enc aC fn aE aD aE aE):=by
 refine returnsInHanded_of_change_sized (C:=Tryz.checked) own started acn hf witness ?_;intro W base args ds gs before hval hW _ hsz _;have hW':=hW;obtain⟨p,q,hA,hV,rfl,hfz,J0⟩:=hW;rw[hs.1]at hV;obtain⟨rfl,rfl⟩:=trodVars_none hV;have afN:(xf aC fn.params.toList ds).all (· <=reachBytes)=true:=by
  have e:s.plain.varTypes aC=[]:=by simp[acg,DataSpec.varTypes,hs.1]
  have:=hsz;rw[show s.plain.varTypes Tryz.checked.prog=[]from e]at this;rw[eB,eB]at this;exact this
 refine(walk W base args ds p ⟨hval,hA,afN,λb off h=>hfz b off (by simp[h])⟩).mono λe W' ⟨he,hb⟩=>?_;exact⟨_,he,Zj hs CK na hW' hb⟩
end law
namespace dr
open Go.ChangeShapes Go.WideShapes Go.ChangeAt Go.RowKit
def Sl(w:World)(v:Value)(n:Nat)(xs:List Value):Prop:=
 ∃base cap,v=ap base n cap/\n<=cap/\cap<=maxLen/\(0<n->∃b off,base=aj ⟨b,off,ak⟩/\Rd w b off xs)
theorem Sl.gr{w w':World}{v:Value}{n:Nat}{xs:List Value}(h:Sl w v n xs)(hg:Below w.heap.size w w'):Sl w' v n xs:=
 let ⟨base,cap,h1,h2,h3,h4⟩:=h
 ⟨base,cap,h1,h2,h3,λhn=>let ⟨b,off,h5,h6⟩:=h4 hn;⟨b,off,h5,h6.gr hg⟩⟩
theorem Sl.dY{w:World}{base:Nat}{e:TypeId}{size:Nat}{v:Value}{n:Nat}{xs:List Value}(h:w.ownsRow base e size v n xs):Sl w v n xs:=by
 rcases h.2 with⟨rfl,rfl⟩|⟨g,cap,kg,rfl,hb,hg,hn,hm,r⟩
 exact⟨ak,0,rfl,bJ _,by decide,λh=>by omega⟩;exact⟨_,cap,rfl,hn,hm,λ_=>⟨g,0,rfl,(acm h).rd⟩⟩
theorem mapM_some{α β:Type}{f:α->Option β}:∀{l:List α} {r:List β},l.mapM f=aj r->r.length=l.length/\∀(i:Nat) (a:α),l[i]?=aj a->∃b,f a=aj b/\r[i]?=aj b
 | [],r,h=>by
  simp at h;subst h;exact⟨rfl,λi a h=>by simp at h⟩
 | x ::l,r,h=>by
  rw[UX]at h
  cases hx:f x with
  |none=>rw[hx]at h;simp at h
  | some y=>
   rw[hx]at h
   cases hr:l.mapM f with
   |none=>rw[hr]at h;simp at h
   | some r'=>
    rw[hr]at h;simp at h;subst h;obtain⟨h1,h2⟩:=mapM_some hr;refine⟨by simp[h1],λi a hi=>?_⟩
    cases i with
    |zero=>simp at hi;subst hi;exact⟨y,hx,rfl⟩
    |succ i=>simp at hi;simpa using h2 i a hi
theorem kS{w:World}{a:Addr}{n:Nat}{cs:List Value}(h:w.cells? 0 a n=aj cs):cs.length=n/\∀j,j<n->w.cell? (a.add j)=cs[j]?:=by
 unfold World.cells? at h;rw[if_pos (bO _)]at h;obtain⟨h1,h2⟩:=mapM_some h;rw[List.length_range]at h1;refine⟨h1,λj hj=>?_⟩;obtain⟨b,hb,hc⟩:=h2 j j (by simp[hj]);rw[hb,hc]
theorem fv(b off j:Nat):(⟨b,off,ak⟩:Addr).add j=⟨b,off+j,ak⟩:=by unfold zx;split<;>simp_all
theorem FT{w:World}{a:Addr}{v:Value}(h:w.cell? a=aj v):a.spot=none:=by
 unfold World.cell? at h;split at h
 ·cases hs:a.spot with
  |none=>rfl
  |some n=>rw[hs]at h;simp at h
 cases h
theorem A2{α:Type}{enc:α->List Value}{c:Nat}(hlen:∀a,(enc a).length=c):∀(l:List α) (i j:Nat) (a:α),l[i]?=aj a->j<c->(l.flatMap enc)[i*c+j]?=(enc a)[j]?
 |[],i,j,a,h,_=>by simp at h
 |x::l,0,j,a,h,hj=>by
  simp at h;subst h;rw[lC,fH (by rw[hlen];omega)];simp
 |x::l,i+1,j,a,h,hj=>by
  have ih:=A2 hlen l i j a (by simpa using h) hj;rw[lC,mC (by rw[hlen,jF];omega),hlen,show(i+1)*c+j-c=i*c+j by rw[jF];omega];exact ih
theorem J1{α:Type}{enc:α->List Value}{c:Nat}(hlen:∀a,(enc a).length=c)(l:List α):(l.flatMap enc).length=l.length*c:=by
 induction l with
 |nil=>simp
 |cons x l ih=>rw[lC,bT,hlen,ih,dE,jF];omega
section
variable{H:Type}{enc0:TypeId×Value->H}{P:Program}{W:World}
theorem B6{α:Type}{p:Nat->α->Prop}:∀(n:Nat),(∀i,i<n->∃a,p i a)->∃l:List α,l.length=n/\∀(i:Nat) (a:α),l[i]?=aj a->p i a
 |0,_=>⟨[],rfl,λi a h=>by simp at h⟩
 | n+1,h=>by
  obtain⟨l,hl,hp⟩:=B6 n λi hi=>h i J;obtain⟨a,ha⟩:=h n J;refine⟨l++[a],by simp[hl],λi b hb=>?_⟩
  by_cases hi:i<n
  rw[fH J]at hb;exact hp i b hb;have hlt:=(dv.1 hb).1;simp at hlt;obtain rfl:i=n:=by omega
  rw[mC J]at hb;rw[hl]at hb;simp at hb;subst hb;exact ha
end
def FU(b:Bool):List Value:=[.bool b]
def eV(n:Int):List Value:=[av az n]
theorem abF{α:Type}{f:α->Value}(l:List α):l.flatMap (λa=>[f a])=l.map f:=by
 induction l with
 |nil=>rfl
 |cons x l ih=>simp[lC,ih]
def eD(n:Int):Prop:= -9223372036854775808<=n/\n<=9223372036854775807
end dr
namespace eH
open Go.RowKit
abbrev Gr(w w':World):Prop:=Below w.heap.size w w'
theorem Gr.refl(w:World):Gr w w:=Below.refl _ _
theorem Gr.trans{a b c:World}(h:Gr a b)(k:Gr b c):Gr a c:=Below.trans h (k.mono h.size)
theorem Gr.drew(w:World):Gr w w.drew:=(Below.refl _ _).drew
def oe(S:World->Prop):Prop:=∀w w',S w->Gr w w'->S w'
section
variable{P:Program}{ops:Array Oper}{md:CF}{Q:Exit->Act->World->Prop}
def CL(P:Program)(w:World)(v:Value):Result Next->Prop
 | .ok (.value u) w'=>u=v/\Gr w w'
 | .ok .skip w'=>v=undef/\Gr w w'
 | .ok (.enter f args) w'=>Gr w w'/\Calls P f args w' (λe B7=>e= .returned v/\Gr w' B7)
 |_=>False
def o_(P:Program)(o:Oper)(a:Act)(w:World)(v:Value):Prop:=CL P w v ((execOp a.eval o).run P w)
def kT(P:Program)(ops:Array Oper)(S:World->Prop)(o:Oper)(v:Value)(a:Act):Prop:=
 (n_ o (yielded ops a.tmps)=aD/\∀w,S w->o_ P o a w v)\/(n_ o (yielded ops a.tmps)=aE/\v=undef)
theorem kT.mono{S S':World->Prop}{o:Oper}{v:Value}{a:Act}(hs:∀w,S' w->S w)(h:kT P ops S o v a):kT P ops S' o v a:=
 h.imp (λ⟨h1,h2⟩=>⟨h1,λw hw=>h2 w (hs w hw)⟩) id
theorem kT.of_same{S:World->Prop}{o:Oper}{v:Value}{a a':Act}(hy:kT P ops S o v a)(he:execOp a'.eval o=execOp a.eval o)
 (hw:n_ o (yielded ops a'.tmps)=n_ o (yielded ops a.tmps)):kT P ops S o v a':=by
 unfold kT o_ at*;rw[he,hw];exact hy
theorem kT.wpOp{S:World->Prop}{i:Nat}{o:Oper}{v:Value}{a:Act}(hi:ops[i]?=aj o)(hy:kT P ops S o v a)(lz:oe S)
 {K:Act->World->Prop} {w:World} (hS:S w) (h:∀w',S w'->K (a.put o.dst v) w'):wpOp P ops Q i K a w:=by
 unfold Go.wpOp;simp only[hi];rcases hy with⟨hw,hv⟩|⟨hw,rfl⟩
 ·simp only[hw,if_true]
  refine .inl ?_;have h1:=hv w hS;unfold o_ at h1;unfold gG;generalize (execOp a.eval o).run P w=r at*
  cases r with
  | ok n w'=>
   cases n<;>simp only[CL]at h1<;>simp only[M4]
   case value u=>rw[h1.1];exact h _ (lz _ _ hS h1.2)
   case skip=>rw[<-h1.1];exact h _ (lz _ _ hS h1.2)
   case enter f args=>
    refine h1.2.mono λe B7 ⟨he,hg⟩=>?_;subst he;exact h _ (lz _ _ (lz _ _ hS h1.1) hg)
  |halt x w'=>simp only[CL]at h1
 ·simp only[hw,Bool.false_eq_true,if_false];exact h _ hS
theorem RI{S:World->Prop}{j:Nat}{oi oj:Oper}{v:Value}(hj:ops[j]?=aj oj)(hap:oi.apart ops oj=aD)
 (hsi:∀cs b,oi.op≠ .select cs b) (hsj:∀cs b,oj.op≠ .select cs b)
 (hQ:∀c a w,Q (.panic c) (a.put oi.dst v) w->Q (.panic c) a w) {K:Act->World->Prop} {a:Act} {w:World}
 (hy:kT P ops S oi v a) (h:wpOp P ops Q j K (a.put oi.dst v) w):
 wpOp P ops Q j (λa' w'=>kT P ops S oi v a'/\K (a'.put oi.dst v) w') a w:=by
 obtain⟨h1,h2,h3⟩:=Oper.apart_spec hap;have keep:∀(a:Act),kT P ops S oi v a->∀u,kT P ops S oi v (a.put oj.dst u):=λa hy u=>
  hy.of_same (execOp_put oi hsi a oj.dst u h3) (wanted_put oi a oj.dst u h3)
 have ad5:∀d,kT P ops S oi v {a with defers:=d::a.defers}:=λd=>hy.of_same I I;unfold wpOp at*;simp only[hj]at*;rw[wanted_put oj a oi.dst v h1]at h;split
 ·rename_i hw
  simp only[hw,if_true]at h;rcases h with h|⟨abG,ad6⟩
  case inr=>exact .inr ⟨by unfold Oper.asks at*;rw[execOp_put oj hsj a oi.dst v h1]at abG;exact abG,ad6⟩
  refine .inl ?_;unfold gG at*;rw[execOp_put oj hsj a oi.dst v h1]at h;generalize (execOp a.eval oj).run P w=r at*
  cases r with
  | ok n w'=>
   cases n<;>simp only[M4]at h⊢
   case value u=>exact⟨keep a hy u,by rw[<-zw a v u h2];exact h⟩
   case skip=>exact⟨keep a hy _,by rw[<-zw a v undef h2];exact h⟩
   case defer d=>
    refine⟨keep _ (ad5 d) _,?_⟩;rw[<-zw _ v undef h2,<-Act.put_defers];exact h
   case enter f args=>
    refine Ut h λe B7 he=>?_
    cases e with
    |returned u=>exact⟨keep a hy u,by rw[<-zw a v u h2];exact he⟩
    |panicked c=>exact hQ _ _ _ he
    |outgrown=>exact he
   case row row args=>exact UI h λu B7 he=>⟨keep a hy u,by rw[<-zw a v u h2];exact he⟩
  | halt x w'=>
   cases x<;>simp only[M4]at h⊢
   case panic u=>exact hQ _ _ _ h
 ·rename_i hw
  simp only[hw]at h;exact⟨keep a hy _,by rw[<-zw a v undef h2];exact h⟩
section
end
end
end eH
namespace cZ
open Go.RowKit dr eH
abbrev Fr:=List (Nat×Value)
def look:Fr->Nat->Option Value
 |[],_=>ak
 |(k,v)::r,i=>bif fW k i then aj v else look r i
structure nH(n:Nat)(a:Act)(fr:Fr):Prop where
 size:a.tmps.size=n
 defers:a.defers=[]
 get:∀i v,look fr i=aj v->a.tmps[i]?=aj v
theorem nH.put{n:Nat}{a:Act}{fr:Fr}(h:nH n a fr){d:Nat}(hd:dM d n=aD)(v:Value):nH n (a.put (aj d) v) ((d,v)::fr):=by
 have U3:d<n:=mH hd;refine⟨by simp[xe,h.size],h.defers,λi u hi=>?_⟩;unfold look at hi;simp only[xe]
 cases e:fW d i
 ·rw[e]at hi
  rw[Array.getElem?_setIfInBounds_ne (HJ e)];exact h.get i u hi
 rw[e]at hi;obtain rfl:d=i:=kP e;simp only[cond_true,dB]at hi;subst hi;rw[Array.getElem?_setIfInBounds_self_of_lt (by rw[h.size];exact U3)]
theorem nH.tY{n:Nat}{a:Act}{fr:Fr}(h:nH n a fr)(v:Value):nH n (a.put ak v) fr:=h
def J2:Fr->Fr->Prop
 |[],_=>True
 |(i,v)::r,fr=>look fr i=aj v/\J2 r fr
theorem U4{E4 fr:Fr}(h:J2 E4 fr){i:Nat}{v:Value}(hl:look E4 i=aj v):look fr i=aj v:=by
 induction E4 with
 |nil=>cases hl
 |cons x r ih=>
  obtain⟨k,u⟩:=x;unfold look at hl
  cases e:fW k i
  rw[e]at hl;exact ih h.2 hl;rw[e]at hl;obtain rfl:k=i:=kP e;simp only[cond_true,dB]at hl;subst hl;exact h.1
theorem nH.sub{n:Nat}{a:Act}{fr E4:Fr}(h:nH n a fr)(hs:J2 E4 fr):nH n a E4:=⟨h.size,h.defers,λi v hl=>h.get i v (U4 hs hl)⟩
def ev(fr:Fr):Operand->Option Value
 | .tmp t=>look fr t
 | .const v=>aj v
 | .global g=>aj (aK (aj ⟨g,0,ak⟩))
 | .func f=>aj (.func (.func f) #[] #[])
theorem nH.ev{n:Nat}{a:Act}{fr:Fr}(h:nH n a fr){x:Operand}{v:Value}(hx:ev fr x=aj v):a.eval x=v:=by
 cases x with
 |tmp t=>simp[HB,xc,h.get t v hx]
 |const u=>simpa[cZ.ev,HB]using hx
 |global g=>simpa[cZ.ev,HB]using hx
 |func f=>simpa[cZ.ev,HB]using hx
theorem nH.yield{n:Nat}{a:Act}{fr:Fr}(h:nH n a fr){ops:Array Oper}{j d:Nat}{v:Value}(hj:(ops[j]?).bind (·.dst)=aj d)(hl:look fr d=aj v):
 yielded ops a.tmps j=match v with| .bool b=>aj b|_=>none:=by
 unfold yielded;rw[hj];simp only[Option.bind_some,h.get d v hl]
 cases v<;>rfl
structure cU where
 BF:Option Nat
 more:Nat->Prop
 holds:World->Prop
 lt:∀w,holds w->∀k,(BF=aj k\/more k)->k<w.heap.size
 stay:∀w w',holds w->w.heap.size<=w'.heap.size->(∀k,(BF=aj k\/more k)->w'.heap[k]?=w.heap[k]?)->holds w'
def cU.fF(o:cU)(k:Nat):Prop:=o.BF=aj k\/o.more k
def aR(g:Nat)(cs:Array Value)(T:TypeId):cU:=
 ⟨aj g,λ_=>False,λw=>w.heap[g]?=aj (.cells cs T (0,0)),λw h k hk=>by simp only[dB,or_false]at hk;subst hk;exact(lA.1 h).1,
  λw w' h _ hb=>by rw[hb g (.inl I)];exact h⟩
def bD(e:TypeId)(size:Nat)(v:Value)(n:Nat)(xs:List Value):cU:=
 ⟨v.ownBlock,λ_=>False,λw=>w.ownsRow 0 e size v n xs,λw h k hk=>(h.lt k (hk.elim id nk)).2,λw w' h _ hb=>by
  refine⟨h.1,?_⟩;rcases h.2 with hn|⟨g,cap,kg,rfl,FV,hg,rest⟩
  exact .inl hn;exact .inr ⟨g,cap,kg,rfl,FV,by rw[hb g (.inl I)];exact hg,rest⟩⟩
structure e_(p:Nat->Prop)(w:World)(L:List cU):Prop where
 all:∀(i:Nat) (o:cU),L[i]?=aj o->o.holds w/\∀k,o.fF k->p k
 apart:∀(i j:Nat) (o o':cU),i≠j->L[i]?=aj o->L[j]?=aj o'->∀k,o.fF k->¬o'.fF k
abbrev nO(B:Nat)(w:World)(L:List cU):Prop:=e_ (λk=>B<=k) w L
section
variable{p p':Nat->Prop}
theorem nO.nil(B:Nat)(w:World):nO B w []:=⟨λi o h=>by simp at h,λi j o o' _ h=>by simp at h⟩
theorem e_.nil(w:World):e_ p w []:=⟨λi o h=>by simp at h,λi j o o' _ h=>by simp at h⟩
theorem e_.gr{w w':World}{L:List cU}(h:e_ p w L)(hg:Gr w w'):e_ p w' L:=
 ⟨λi o hi=>⟨o.stay w w' (h.all i o hi).1 hg.size λk hk=>hg.block k (o.lt w (h.all i o hi).1 k hk),(h.all i o hi).2⟩,h.apart⟩
theorem e_.mono{w:World}{L:List cU}(h:e_ p w L)(hb:∀k,p k->p' k):e_ p' w L:=
 ⟨λi o hi=>⟨(h.all i o hi).1,λk hk=>hb k ((h.all i o hi).2 k hk)⟩,h.apart⟩
theorem e_.one{w:World}{o:cU}(h:o.holds w)(hb:∀k,o.fF k->p k):e_ p w [o]:=
  ⟨λi o' hi=>by
    match i,hi with
    |0,hi=>simp only[sj,dB]at hi;subst hi;exact⟨h,hb⟩
    |i+1,hi=>simp at hi,
   λi j a b rp hi hj=>by
    match i,j,hi,hj with
    |0,0,_,_=>exact absurd I rp
    |i+1,_,hi,_=>simp at hi
    |0,j+1,_,hj=>simp at hj⟩
theorem nO.one{B:Nat}{w:World}{o:cU}(h:o.holds w)(hb:∀k,o.BF=aj k->B<=k)(hmo:∀k,o.more k->B<=k:=by intro k hk;exact False.elim hk):nO B w [o]:=e_.one h λk hk=>hk.elim (hb k) (hmo k)
theorem e_.both{w:World}{L L':List cU}(h:e_ p w L)(h':e_ p w L')(ha:∀(i j:Nat) (o o':cU),L[i]?=aj o->L'[j]?=aj o'->∀k,o.fF k->¬o'.fF k):e_ p w (L++L'):=by
 refine⟨λi o hi=>?_,λi j o o' rp hi hj=>?_⟩
 ·rw[UR]at hi
  split at hi;exact h.all i o hi;exact h'.all _ o hi
 intro k hk mZ;rw[UR]at hi hj;split at hi<;>split at hj;exact h.apart i j o o' rp hi hj k hk mZ;exact ha _ _ o o' hi hj k hk mZ;exact ha _ _ o' o hj hi k mZ hk;exact h'.apart (i-L.length) (j-L.length) o o' J hi hj k hk mZ
theorem e_.pick{w:World}{L L':List cU}(h:e_ p w L)(is:List Nat)(hn:is.Nodup)(hl:L'=is.filterMap λi=>L[i]?):e_ p w L':=by
 subst hl
 induction is with
 |nil=>exact e_.nil _
 | cons i is ih=>
  rw[oa]at hn;have ih:=ih hn.2;have mem:∀j o,(is.filterMap λi=>L[i]?)[j]?=aj o->∃q∈is,L[q]?=aj o:=λj o hj=>by
   have:=mF hj;rw[List.mem_filterMap]at this;exact this
  cases e:L[i]? with
  |none=>rw[List.filterMap_cons_none e];exact ih
  | some o0=>
   rw[zR e];refine⟨λj o hj=>?_,λj j' o o' rp hj qc=>?_⟩
   ·match j,hj with
    |0,hj=>simp only[sj,dB]at hj;subst hj;exact h.all i _ e
    |j+1,hj=>exact ih.all j o (by simpa using hj)
   match j,j',hj,qc with
   |0,0,_,_=>exact absurd I rp
   | 0,j'+1,hj,qc=>
    simp only[sj,dB]at hj;subst hj;obtain⟨q,hq,CM⟩:=mem j' o' (by simpa using qc);exact h.apart i q _ o' (λe=>hn.1 (e▸hq)) e CM
   | j+1,0,hj,qc=>
    simp only[sj,dB]at qc;subst qc;obtain⟨q,hq,CM⟩:=mem j o (by simpa using hj);exact h.apart q i o _ (λe=>hn.1 (e▸hq)) CM e
   |j+1,j'+1,hj,qc=>exact ih.apart j j' o o' J (by simpa using hj) (by simpa using qc)
end
structure b9 where
 w:World
 X:Nat->Prop
instance:Coe World b9:=⟨λw=>⟨w,λ_=>False⟩⟩
def b9.on(w:World)(L:List cU):b9:=⟨w,λk=>∃o∈L,o.fF k⟩
def b9.may(W:b9)(k:Nat):Prop:=W.w.heap.size<=k\/W.X k
structure HL(W:b9)(w:World):Prop where
 os:w.os=W.w.os
 tape:w.tape=W.w.tape
 output:w.output=W.w.output
 size:W.w.heap.size<=w.heap.size
 block:∀k,k<W.w.heap.size->¬W.X k->w.heap[k]?=W.w.heap[k]?
structure Mem(W:b9)(L:List cU)(w:World):Prop where
 low:HL W w
 owns:e_ W.may w L
theorem Mem.start(W:World):Mem W [] W:=⟨⟨rfl,rfl,rfl,bJ _,λ_ _ _=>rfl⟩,e_.nil _⟩
theorem HL.gr{W:b9}{w w':World}(h:HL W w)(hg:Gr w w'):HL W w':=
 ⟨hg.os.trans h.os,hg.tape.trans h.tape,hg.output.trans h.output,fI h.size hg.size,λk hk hx=>(hg.block k (jf hk h.size)).trans (h.block k hk hx)⟩
theorem Mem.below{W w:World}{L:List cU}(h:Mem W L w):Below W.heap.size W w:=⟨h.low.os,h.low.tape,h.low.output,h.low.size,λk hk=>h.low.block k hk id⟩
theorem Mem.abH{W w:World}{L:List cU}(h:Mem W L w):nO W.heap.size w L:=h.owns.mono λ_ hk=>hk.elim id nk
section
variable{W:b9}
theorem Mem.gr{w w':World}{L:List cU}(h:Mem W L w)(hg:Gr w w'):Mem W L w':=⟨h.low.gr hg,h.owns.gr hg⟩
theorem Mem.drew{w:World}{L:List cU}(h:Mem W L w):Mem W L w.drew:=h.gr (Gr.drew w)
theorem iP(W:b9)(L:List cU):oe (Mem W L):=λ_ _ h k=>h.gr k
theorem Mem.pick{w:World}{L L':List cU}(h:Mem W L w)(is:List Nat)(hn:is.Nodup)(hl:L'=is.filterMap λi=>L[i]?):Mem W L' w:=⟨h.low,h.owns.pick is hn hl⟩
theorem Mem.append{w w':World}{L L':List cU}(h:Mem W L w)(hg:Gr w w')(h':nO w.heap.size w' L'):Mem W (L++L') w':=by
 have hsz:W.w.heap.size<=w.heap.size:=h.low.size;refine⟨h.low.gr hg,e_.both (h.owns.gr hg) (h'.mono λk hk=> .inl (fI hsz hk)) λi j o o' hi hj k hk mZ=>?_⟩;have a1:=o.lt w (h.owns.all i o hi).1 k hk;have a2:w.heap.size<=k:=(h'.all _ o' hj).2 k mZ;omega
theorem Mem.BG{w w':World}{L:List cU}(h:Mem W L w){i:Nat}{o o':cU}(hi:L[i]?=aj o)(hg:w.grownBy w' o.BF)(ho:o'.holds w')(hb:∀k,o'.BF=aj k->o.BF=aj k\/w.heap.size<=k)(hmo:∀k,o'.more k->o.fF k:=by intro k hk;exact False.elim hk):Mem W (L.set i o') w':=by
 have hle:W.w.heap.size<=w.heap.size:=h.low.size;have hoB:=(h.owns.all i o hi).2;have hlen:i<L.length:=(dv.1 hi).1;have MH:∀k,o'.fF k->o.fF k\/w.heap.size<=k:=λk hk=>hk.elim (λh=>(hb k h).imp .inl id) (λh=> .inl (hmo k h));refine⟨⟨hg.os.trans h.low.os,hg.tape.trans h.low.tape,hg.output.trans h.low.output,fI hle hg.size,λk hk hx=>?_⟩,?_,?_⟩
 ·rw[hg.block k (jf hk hle) λe=>(hoB k (.inl e.symm)).elim (λh=>by omega) hx]
  exact h.low.block k hk hx
 ·intro j q hj
  by_cases e:i=j
  ·subst e
   rw[mE hlen]at hj;simp only[dB]at hj;subst hj;exact⟨ho,λk hk=>(MH k hk).elim (hoB k) (λh=> .inl (fI hle h))⟩
  rw[mD e]at hj;have h1:=h.owns.all j q hj;refine⟨q.stay w w' h1.1 hg.size λk hk=>hg.block k (q.lt w h1.1 k hk) λe'=>?_,h1.2⟩;exact h.owns.apart i j o q e hi hj k (.inl e'.symm) hk
 intro j j' q q' rp hj qc k hk mZ
 by_cases e:i=j
 ·subst e
  rw[mE hlen]at hj;rw[mD rp]at qc;simp only[dB]at hj;subst hj;have h2:=(h.owns.all j' q' qc).1;rcases MH k hk with h1|h1
  exact h.owns.apart i j' o q' rp hi qc k h1 mZ;have:=q'.lt w h2 k mZ;omega
 rw[mD e]at hj;have h2:=(h.owns.all j q hj).1
 by_cases e':i=j'
 ·subst e'
  rw[mE hlen]at qc;simp only[dB]at qc;subst qc;rcases MH k mZ with h1|h1
  exact h.owns.apart i j o q e hi hj k h1 hk;have:=q.lt w h2 k hk;omega
 rw[mD e']at qc;exact h.owns.apart j j' q q' rp hj qc k hk mZ
theorem Mem.merge{w:World}{R:List cU}{o1 o2:cU}(o:cU)(h:Mem W ([o1,o2]++R) w)(hf:∀k,o.fF k->o1.fF k\/o2.fF k)(hh:o1.holds w->o2.holds w->o.holds w):Mem W (R++[o]) w:=by
 have h1:=h.owns.all 0 o1 I;have h2:=h.owns.all 1 o2 I;refine⟨h.low,e_.both ⟨λi q hi=>h.owns.all (i+2) q (by simpa using hi),λi j q q' rp hi hj=>h.owns.apart (i+2) (j+2) q q' J (by simpa using hi) (by simpa using hj)⟩ (e_.one (hh h1.1 h2.1) λk hk=>(hf k hk).elim (h1.2 k) (h2.2 k)) ?_⟩;intro i j q q' hi hj k hk mZ
 match j,hj with
 |0,hj=>
  simp only[sj,dB]at hj;subst hj;have qN:([o1,o2]++R)[i+2]?=aj q:=by simpa using hi
  rcases hf k mZ with h3|h3
  exact h.owns.apart 0 (i+2) o1 q J I qN k h3 hk;exact h.owns.apart 1 (i+2) o2 q J I qN k h3 hk
 |j+1,hj=>simp at hj
theorem Mem.get{w:World}{L:List cU}(h:Mem W L w){i:Nat}{o:cU}(hi:L[i]?=aj o):o.holds w:=(h.owns.all i o hi).1
theorem Mem.over{w:World}{L:List cU}(h:Mem W L w):Mem (b9.on w L) L w:=
 ⟨⟨rfl,rfl,rfl,bJ _,λ_ _ _=>rfl⟩,λi o hi=>⟨(h.owns.all i o hi).1,λ_ hk=> .inr ⟨o,mF hi,hk⟩⟩,h.owns.apart⟩
theorem Mem.back{w w':World}{L R O:List cU}(h:Mem W (L++R) w)(h':Mem (b9.on w L) O w'):Mem W (R++O) w':=by
 have hle:W.w.heap.size<=w.heap.size:=h.low.size;have hL:∀o∈L,∀k,o.fF k->W.may k:=λo ho k hk=>by
  obtain⟨i,hi⟩:=tQ ho;exact(h.owns.all i o (by rw[fH (dv.1 hi).1];exact hi)).2 k hk
 have hR:∀(i:Nat) (o:cU),R[i]?=aj o->o.holds w/\(∀k,o.fF k->W.may k)/\∀k,o.fF k->k<w.heap.size/\¬(b9.on w L).X k:=λi o hi=>by
  have qN:(L++R)[L.length+i]?=aj o:=by rw[mC J];simpa using hi
  have h1:=h.owns.all _ o qN;refine⟨h1.1,h1.2,λk hk=>⟨o.lt w h1.1 k hk,?_⟩⟩;rintro⟨q,hq,hqk⟩;obtain⟨j,hj⟩:=tQ hq;have U5:=(dv.1 hj).1;exact h.owns.apart j (L.length+i) q o J (by rw[fH U5];exact hj) qN k hqk hk
 refine⟨⟨h'.low.os.trans h.low.os,h'.low.tape.trans h.low.tape,h'.low.output.trans h.low.output,fI hle h'.low.size,λk hk hx=>?_⟩,e_.both ⟨λi o hi=>?_,?_⟩ ?_ ?_⟩
 ·rw[h'.low.block k (jf hk hle) ?_]
  exact h.low.block k hk hx;rintro⟨o,ho,l7⟩;exact(hL o ho k l7).elim (λh=>by omega) hx
 ·obtain⟨h1,h2,h3⟩:=hR i o hi
  exact⟨o.stay w w' h1 h'.low.size λk hk=>h'.low.block k (h3 k hk).1 (h3 k hk).2,h2⟩
 ·intro i j o o' rp hi hj
  exact h.owns.apart (L.length+i) (L.length+j) o o' J (by rw[mC J];simpa using hi) (by rw[mC J];simpa using hj)
 exact h'.owns.mono λk hk=>hk.elim (λh1=> .inl (fI hle h1)) λ⟨o,ho,l7⟩=>hL o ho k l7;intro i j o o' hi hj k hk mZ;obtain⟨h1,h2,h3⟩:=hR i o hi;rcases(h'.owns.all j o' hj).2 k mZ with h4|h4
 ·have h4:w.heap.size<=k:=h4
  have:=(h3 k hk).1;omega
 exact(h3 k hk).2 h4
end
theorem Mem.cell{W w:World}{L:List cU}(h:Mem W L w){p:Addr}{v:Value}(hp:W.cell? p=aj v):w.cell? p=aj v:=by
 rw[h.below.cell (np W p hp)];exact hp
structure p_(W0:World)(W:b9):Prop where
 below:Below W0.heap.size W0 W.w
 free:∀k,k<W0.heap.size->¬W.X k
theorem p_.self(W:World):p_ W W:=⟨Below.refl _ _,λ_ _=>id⟩
theorem p_.mem{W0:World}{W:b9}(ho:p_ W0 W){L:List cU}{w:World}(h:Mem W L w):Below W0.heap.size W0 w:=
 ⟨h.low.os.trans ho.below.os,h.low.tape.trans ho.below.tape,h.low.output.trans ho.below.output,fI ho.below.size h.low.size,λk hk=>(h.low.block k (jf hk ho.below.size) (ho.free k hk)).trans (ho.below.block k hk)⟩
theorem p_.cell{W0:World}{W:b9}(ho:p_ W0 W){L:List cU}{w:World}(h:Mem W L w){p:Addr}{v:Value}(hp:W0.cell? p=aj v):w.cell? p=aj v:=by
 rw[(ho.mem h).cell (np W0 p hp)];exact hp
theorem p_.on{W0:World}{W:b9}(ho:p_ W0 W){L L':List cU}{w:World}(h:Mem W L w)(hs:∀o∈L',o∈L):p_ W0 (b9.on w L'):=
 ⟨ho.mem h,λk hk ⟨o,hm,hb⟩=>by
  obtain⟨i,hi⟩:=tQ (hs o hm);rcases(h.owns.all i o hi).2 k hb with h1|h1
  ·have:=ho.below.size
   have h1:W.w.heap.size<=k:=h1;omega
  exact ho.free k hk h1⟩
end cZ
namespace cZ
open Go.RowKit dr eH
structure T(P:Program)(n:Nat)(W:b9)(c:Code)(Q:Exit->Act->World->Prop)(fr:Fr)(L:List cU):Prop where
 go:∀a w,nH n a fr->Mem W L w->c.wp P Q a w
structure E(n:Nat)(W:b9)(e:Exit)(Q:Exit->Act->World->Prop)(fr:Fr)(L:List cU):Prop where
 go:∀a w,nH n a fr->Mem W L w->Q e a w
structure TL(P:Program)(n:Nat)(W:b9)(ops:Array Oper)(Q:Exit->Act->World->Prop)(l:List Oper)(fr:Fr)(L:List cU):Prop where
 go:∀a w,nH n a fr->Mem W L w->wpList P ops Q l a w
structure RR(P:Program)(n:Nat)(W:b9)(o:Oper)(fr:Fr)(L:List cU)(v:Value):Prop where
 go:∀a w,nH n a fr->Mem W L w->(execOp a.eval o).run P w= .ok (.value v) w
structure Spec(ι:Type) where
 ok:ι->Prop
 val:ι->Value
 own:ι->List cU
def cY{ι:Type}(S:Spec ι)(w:World)(e:Ending)(w':World):Prop:=∃x,S.ok x/\e= .returned (S.val x)/\Gr w w'/\nO w.heap.size w' (S.own x)
def ret(v:Value):Spec Unit:=⟨λ_=>True,λ_=>v,λ_=>[]⟩
theorem CN{v:Value}{w w':World}{e:Ending}(h:cY (ret v) w e w'):e= .returned v/\Gr w w':=let ⟨_,_,h1,h2,_⟩:=h;⟨h1,h2⟩
section
variable{P:Program}{n:Nat}{W:b9}{Q:Exit->Act->World->Prop}{fr:Fr}{L:List cU}
theorem bC{x y:Code}(h:T P n W x (Exit.then (y.wp P Q) Q) fr L):T P n W (x.seq y) Q fr L:= .mk λa w hr hm=>wp_seq (h.go a w hr hm)
theorem c_(h:E n W .normal Q fr L):T P n W .skip Q fr L:= .mk λa w hr hm=>wp_skip (h.go a w hr hm)
theorem eQ{id:Nat}(h:E n W (.exit id) Q fr L):T P n W (.exit id) Q fr L:= .mk λa w hr hm=>wp_exit (h.go a w hr hm)
theorem dx(h:E n W .ret Q fr L):T P n W .ret Q fr L:= .mk λa w hr hm=>wp_ret (h.go a w hr hm)
theorem dm{id:Nat}{c:Code}(h:T P n W c (tM id Q) fr L):T P n W (.block id c) Q fr L:= .mk λa w hr hm=>wp_block (h.go a w hr hm)
theorem dN{c:Operand}{x y:Code}(hc:ev fr c=aj (.bool aD))(h:T P n W x Q fr L):T P n W (.cond c x y) Q fr L:= .mk λa w hr hm=>wp_cond_true (hr.ev hc) (h.go a w hr hm)
theorem dO{c:Operand}{x y:Code}(hc:ev fr c=aj (.bool aE))(h:T P n W y Q fr L):T P n W (.cond c x y) Q fr L:= .mk λa w hr hm=>wp_cond_false (hr.ev hc) (h.go a w hr hm)
theorem aco{c:Code}{L':List cU}(is:List Nat)(hn:is.Nodup)(hl:L'=is.filterMap λi=>L[i]?)(h:T P n W c Q fr L'):T P n W c Q fr L:= .mk λa w hr hm=>h.go a w hr (hm.pick is hn hl)
theorem acp{e:Exit}{L':List cU}(is:List Nat)(hn:is.Nodup)(hl:L'=is.filterMap λi=>L[i]?)(h:E n W e Q fr L'):E n W e Q fr L:= .mk λa w hr hm=>h.go a w hr (hm.pick is hn hl)
theorem cB{y:Code}(h:T P n W y Q fr L):E n W .normal (Exit.then (y.wp P Q) Q) fr L:=⟨h.go⟩
theorem eb{id:Nat}{K:Act->World->Prop}(h:E n W (.exit id) Q fr L):E n W (.exit id) (Exit.then K Q) fr L:=⟨h.go⟩
theorem bU{K:Act->World->Prop}(h:E n W .ret Q fr L):E n W .ret (Exit.then K Q) fr L:=⟨h.go⟩
theorem cO{id:Nat}(h:E n W .normal Q fr L):E n W .normal (tM id Q) fr L:=⟨h.go⟩
theorem cP{id:Nat}(h:E n W .ret Q fr L):E n W .ret (tM id Q) fr L:=⟨h.go⟩
theorem dK{id:Nat}(h:E n W .normal Q fr L):E n W (.exit id) (tM id Q) fr L:= .mk λa w hr hm=>by
 show(if id=id then Q .normal a w else Q (.exit id) a w)
 rw[if_pos I];exact h.go a w hr hm
theorem dL{id id':Nat}(hne:fW id' id=aE)(h:E n W (.exit id') Q fr L):E n W (.exit id') (tM id Q) fr L:= .mk λa w hr hm=>by
 show(if id'=id then Q .normal a w else Q (.exit id') a w)
 rw[if_neg (HJ hne)];exact h.go a w hr hm
def Zk{ι:Type}(n:Nat)(W:b9)(ah:ι->Prop)(F:ι->Fr)(M:ι->List cU)(μ:ι->Nat)(x:ι)(a:Act)(w:World):Prop:=∃x',ah x'/\μ x'<μ x/\nH n a (F x')/\Mem W (M x') w
def Mid{ι:Type}(n:Nat)(W:b9)(ah:ι->Prop)(F:ι->Fr)(M:ι->List cU)(a:Act)(w:World):Prop:=∃i,ah i/\nH n a (F i)/\Mem W (M i) w
theorem U6{x y:Code}{ι:Type}(ah:ι->Prop)(F:ι->Fr)(M:ι->List cU)
 (hx:T P n W x (Exit.then (Mid n W ah F M) Q) fr L) (hy:∀i,ah i->T P n W y Q (F i) (M i)):T P n W (x.seq y) Q fr L:= .mk λa w hr hm=>
 wp_seq (wp_mono (hx.go a w hr hm) λe a w h=>by
  cases e with
  |normal=>obtain⟨i,h1,h2,h3⟩:=h;exact(hy i h1).go a w h2 h3
  |_=>exact h)
theorem eJ{ι:Type}{ah:ι->Prop}{F:ι->Fr}{M:ι->List cU}(i:ι)(hi:ah i)(hf:J2 (F i) fr)(hl:L=M i):E n W .normal (Exit.then (Mid n W ah F M) Q) fr L:=
 ⟨λ_ _ hr hm=>⟨i,hi,hr.sub hf,hl▸hm⟩⟩
theorem og{c:Code}{ι:Type}(ah:ι->Prop)(F:ι->Fr)(M:ι->List cU)(μ:ι->Nat)(x0:ι)(h0:ah x0)(hf:J2 (F x0) fr)(hl:L=M x0)
 (round:∀x,ah x->T P n W c (Exit.then (Zk n W ah F M μ x) Q) (F x) (M x)):T P n W (.loop c) Q fr L:=by
 refine⟨λa w hr hm=>?_⟩;refine wp_loop_ghost (λk a w=>∃x,μ x=k/\ah x/\nH n a (F x)/\Mem W (M x) w) (μ x0) ⟨x0,rfl,h0,hr.sub hf,hl▸hm⟩ ?_;rintro k a w ⟨x,rfl,hi,hr,hm⟩;refine wp_mono ((round x hi).go a w hr hm) λe a w h=>?_
 cases e with
 |normal=>obtain⟨x',h1,h2,h3,h4⟩:=h;exact⟨μ x',h2,x',rfl,h1,h3,h4⟩
 |_=>exact h
theorem jS{ι:Type}{ah:ι->Prop}{F:ι->Fr}{M:ι->List cU}{μ:ι->Nat}{x:ι}(x':ι)(hi:ah x')(hμ:μ x'<μ x)(hf:J2 (F x') fr)(hl:L=M x'):
 E n W .normal (Exit.then (Zk n W ah F M μ x) Q) fr L:=
 ⟨λ_ _ hr hm=>⟨x',hi,hμ,hr.sub hf,hl▸hm⟩⟩
theorem CO{fn:Func}{R:Ending->World->Prop}(h:∀a w,nH n a fr->Mem W L w->∃v,(results fn a.tmps).run P w= .ok v w/\R (.returned v) w):E n W .ret (bodyPost P fn R) fr L:=
 ⟨λa w hr hm=>⟨hr.defers,h a w hr hm⟩⟩
theorem da{fn:Func}{R:Ending->World->Prop}{t:Tmp}{v:Value}(na:fn.results=#[.tmp t])(hv:look fr t=aj v)(h:∀w,Mem W L w->R (.returned v) w):E n W .ret (bodyPost P fn R) fr L:=
 CO λa w hr hm=>⟨v,by simp[results,na,xc,hr.get t v hv],h w hm⟩
theorem sn{fn:Func}{R:Ending->World->Prop}{t u:Tmp}{v z:Value}(na:fn.results=#[.tmp t,.tmp u])(hv:look fr t=aj v)(hz:look fr u=aj z)(h:∀w,Mem W L w->R (.returned (.tuple #[v,z])) w):E n W .ret (bodyPost P fn R) fr L:=
 CO λa w hr hm=>⟨_,by simp[results,na,xc,hr.get t v hv,hr.get u z hz],h w hm⟩
theorem mI{fn:Func}{R:Ending->World->Prop}{t u s:Tmp}{v z y:Value}(na:fn.results=#[.tmp t,.tmp u,.tmp s])(hv:look fr t=aj v)(hz:look fr u=aj z)(hy:look fr s=aj y)(h:∀w,Mem W L w->R (.returned (.tuple #[v,z,y])) w):E n W .ret (bodyPost P fn R) fr L:=
 CO λa w hr hm=>⟨_,by simp[results,na,xc,hr.get t v hv,hr.get u z hz,hr.get s y hy],h w hm⟩
theorem Mem.meets{ι:Type}{S:Spec ι}{W w:World}(x:ι)(hm:Mem W L w)(hx:S.ok x)(is:List Nat)(hn:is.Nodup)(hl:S.own x=is.filterMap λi=>L[i]?):cY S W (.returned (S.val x)) w:=
 ⟨x,hx,rfl,hm.below,hm.abH.pick is hn hl⟩
theorem Mem.ret{v:Value}{W w:World}(hm:Mem W L w):cY (ret v) W (.returned v) w:=⟨(),trivial,rfl,hm.below,nO.nil _ _⟩
theorem ea{fn:Func}{W:World}{t:Tmp}{v v0:Value}(na:fn.results=#[.tmp t])(hv:look fr t=aj v)(h:v=v0):E n W .ret (bodyPost P fn (cY (ret v0) W)) fr L:=by
 subst h;exact da na hv λw hm=>hm.ret
theorem HM{fn:Func}{W:World}{t u s:Tmp}{v z y v0:Value}(na:fn.results=#[.tmp t,.tmp u,.tmp s])(hv:look fr t=aj v)(hz:look fr u=aj z)(hy:look fr s=aj y)(h: .tuple #[v,z,y]=v0):E n W .ret (bodyPost P fn (cY (ret v0) W)) fr L:=by
 subst h;exact mI na hv hz hy λw hm=>hm.ret
def ym:Nat->List Value->Fr
 |_,[]=>[]
 |k,v::r=>(k,v)::ym (k+1) r
theorem so:∀(vs:List Value) (k i:Nat) (v:Value),look (ym k vs) i=aj v->k<=i/\vs[i-k]?=aj v
 |[],_,_,_,h=>by cases h
 | u ::r,k,i,v,h=>by
  unfold ym look at h
  cases e:fW k i
  ·rw[e]at h
   have hne:=HJ e;obtain⟨h1,h2⟩:=so r (k+1) i v h;refine⟨by omega,?_⟩;rw[show i-k=(i-(k+1))+1 by omega,CH];exact h2
  rw[e]at h;obtain rfl:k=i:=kP e;simp only[cond_true,dB]at h;subst h;simp
theorem enter{w:World}{f:FuncId}{fn:Func}{c:Code}{args:List Value}{R:Ending->World->Prop}(hf:P.funcs[f]?=aj fn)(hb:fn.body=aj c)(hn:fn.ntmps=n)(hle:xj args.length n=aD)
 (h:T P n w c (bodyPost P fn R) (ym 0 args) []):Calls P f args.toArray w R:=by
 have acq:args.length<=n:=mH hle;refine calls_of_wp hf hb (h.go _ w ⟨?_,rfl,λi v hi=>?_⟩ (Mem.start w))
 ·simp[hn];omega
 ·obtain⟨_,h2⟩:=so args 0 i v hi
  have hlt:=(dv.1 h2).1;rw[Uk (by simpa using hlt)]
  simpa using h2
theorem dZ{B:b9}{w:World}{f:FuncId}{fn:Func}{c:Code}{args:List Value}{R:Ending->World->Prop}(hm:Mem B L w)(hf:P.funcs[f]?=aj fn)(hb:fn.body=aj c)(hn:fn.ntmps=n)(hle:xj args.length n=aD)
 (h:T P n B c (bodyPost P fn R) (ym 0 args) L):Calls P f args.toArray w R:=by
 have acq:args.length<=n:=mH hle;refine calls_of_wp hf hb (h.go _ w ⟨?_,rfl,λi v hi=>?_⟩ hm)
 ·simp[hn];omega
 ·obtain⟨_,h2⟩:=so args 0 i v hi
  have hlt:=(dv.1 h2).1;rw[Uk (by simpa using hlt)]
  simpa using h2
section
variable{ops:Array Oper}{K:Act->World->Prop}{ks:List Bool}{o:Oper}{rest:List Oper}{v:Value}{d:Nat}
theorem aM{id:Nat}{l:List Oper}(h:TL P n W l.toArray Q l fr L):T P n W (.region id l.toArray aE) Q fr L:= .mk λa w hr hm=>wp_region_lit (h.go a w hr hm)
theorem cz(h:E n W .normal Q fr L):TL P n W ops Q [] fr L:= .mk λa w hr hm=>wpList_nil (h.go a w hr hm)
theorem nP{a:Act}(hg:o.guard=ak):n_ o (yielded ops a.tmps)=true:=by simp[n_,hg]
theorem ns{a:Act}{j e:Nat}{b:Bool}(hr:nH n a fr)(hg:o.guard=aj (j,b))(hj:(ops[j]?).bind (·.dst)=aj e)(hl:look fr e=aj (.bool b)):n_ o (yielded ops a.tmps)=true:=by
 simp[n_,hg,hr.yield hj hl]
def Zl(b:Bool):Value->Bool
 | .bool c=>c !=b
 |_=>aD
theorem FW{a:Act}{j e:Nat}{b:Bool}{u:Value}(hr:nH n a fr)(hg:o.guard=aj (j,b))(hj:(ops[j]?).bind (·.dst)=aj e)(hl:look fr e=aj u)(hu:Zl b u=aD):n_ o (yielded ops a.tmps)=false:=by
 simp only[n_,hg,hr.yield hj hl]
 cases u<;>first|rfl|(rename_i c;cases c<;>cases b<;>first|rfl|cases hu)
theorem aI(hr:RR P n W o fr L v)(hg:o.guard=ak)(hd:o.dst=aj d)(hn:dM d n=aD)(h:TL P n W ops Q rest ((d,v)::fr) L):TL P n W ops Q (o::rest) fr L:= .mk λa w gC hm=>
 wpList_plain hg λK hK=>by
  unfold gG;rw[hr.go a w gC hm];rw[UE,hd];exact hK _ _ (h.go _ w (gC.put hn v) hm)
theorem bI{j e:Nat}{b:Bool}(hr:RR P n W o fr L v)(hg:o.guard=aj (j,b))(hj:(ops[j]?).bind (·.dst)=aj e)(hl:look fr e=aj (.bool b))(hd:o.dst=aj d)(hn:dM d n=aD)(h:TL P n W ops Q rest ((d,v)::fr) L):TL P n W ops Q (o::rest) fr L:= .mk λa w gC hm=>
 Uo (ns gC hg hj hl) λK hK=>by
  unfold gG;rw[hr.go a w gC hm];rw[UE,hd];exact hK _ _ (h.go _ w (gC.put hn v) hm)
theorem fM{j e:Nat}{b:Bool}{u:Value}(hg:o.guard=aj (j,b))(hj:(ops[j]?).bind (·.dst)=aj e)(hl:look fr e=aj u)(hu:Zl b u=aD)(hd:o.dst=aj d)(hn:dM d n=aD)(h:TL P n W ops Q rest ((d,undef)::fr) L):TL P n W ops Q (o::rest) fr L:= .mk λa w gC hm=>
 wpList_skip (FW gC hg hj hl hu) (by rw[hd];exact h.go _ w (gC.put hn undef) hm)
theorem tZ{p:Prop}{inst:Decidable p}(hr:RR P n W o fr L (.bool (decide p)))(hg:o.guard=ak)(hd:o.dst=aj d)(hn:dM d n=aD)(ht:p->TL P n W ops Q rest ((d,.bool aD)::fr) L)(hf:¬p->TL P n W ops Q rest ((d,.bool aE)::fr) L):TL P n W ops Q (o::rest) fr L:=by
 by_cases h:p
 exact aI (by rwa [decide_eq_true h]at hr) hg hd hn (ht h);exact aI (by rwa [decide_eq_false h]at hr) hg hd hn (hf h)
theorem pa{p:Prop}{inst:Decidable p}{j e:Nat}{b:Bool}(hr:RR P n W o fr L (.bool (decide p)))(hg:o.guard=aj (j,b))(hj:(ops[j]?).bind (·.dst)=aj e)(hl:look fr e=aj (.bool b))(hd:o.dst=aj d)(hn:dM d n=aD)(ht:p->TL P n W ops Q rest ((d,.bool aD)::fr) L)(hf:¬p->TL P n W ops Q rest ((d,.bool aE)::fr) L):TL P n W ops Q (o::rest) fr L:=by
 by_cases h:p
 exact bI (by rwa [decide_eq_true h]at hr) hg hj hl hd hn (ht h);exact bI (by rwa [decide_eq_false h]at hr) hg hj hl hd hn (hf h)
theorem nH.Zm{a:Act}{e:Nat}{v:Value}(h:nH n a fr)(hl:look fr e=aj v):nH n a ((e,v)::fr):=⟨h.size,h.defers,λi u hi=>by
 unfold look at hi
 cases c:fW e i
 rw[c]at hi;exact h.get i u hi;rw[c]at hi;obtain rfl:e=i:=kP c;simp only[cond_true,dB]at hi;subst hi;exact h.get e v hl⟩
theorem zW{j e:Nat}{b0 b:Bool}(_:o.guard=aj (j,b0))(_:(ops[j]?).bind (·.dst)=aj e)(hl:look fr e=aj (.bool b))(ht:b=aD->TL P n W ops Q (o::rest) ((e,.bool aD)::fr) L)(hf:b=aE->TL P n W ops Q (o::rest) ((e,.bool aE)::fr) L):TL P n W ops Q (o::rest) fr L:= .mk λa w hr hm=>by
 cases b
 exact(hf I).go a w (hr.Zm hl) hm;exact(ht I).go a w (hr.Zm hl) hm
theorem Ng{j e:Nat}{b0:Bool}(_:o.guard=aj (j,b0))(_:(ops[j]?).bind (·.dst)=aj e)(_:look fr e=aj (.bool aD))(h:TL P n W ops Q (o::rest) fr L):TL P n W ops Q (o::rest) fr L:=h
theorem Nh{j e:Nat}{b0:Bool}(_:o.guard=aj (j,b0))(_:(ops[j]?).bind (·.dst)=aj e)(_:look fr e=aj (.bool aE))(h:TL P n W ops Q (o::rest) fr L):TL P n W ops Q (o::rest) fr L:=h
theorem P0{c:Tmp}{x y:Code}{b:Bool}(hl:look fr c=aj (.bool b))(ht:b=aD->T P n W x Q ((c,.bool aD)::fr) L)(hf:b=aE->T P n W y Q ((c,.bool aE)::fr) L):T P n W (.cond (.tmp c) x y) Q fr L:= .mk λa w hr hm=>by
 cases b
 exact wp_cond_false (hr.ev (x:= .tmp c) hl) ((hf I).go a w (hr.Zm hl) hm);exact wp_cond_true (hr.ev (x:= .tmp c) hl) ((ht I).go a w (hr.Zm hl) hm)
theorem a8{f:FuncId}{args:Array Value}{ι:Type}{S:Spec ι}(he:∀a w,nH n a fr->(execOp a.eval o).run P w= .ok (.enter f args) w)(hc:∀w,Mem W L w->Calls P f args w (cY S w))(hg:o.guard=ak)(hd:o.dst=aj d)(hn:dM d n=aD)
 (h:∀x,S.ok x->TL P n W ops Q rest ((d,S.val x)::fr) (L++S.own x)):TL P n W ops Q (o::rest) fr L:= .mk λa w gC hm=>
 wpList_plain hg λK hK=>by
  unfold gG;rw[he a w gC,M3];refine(hc w hm).mono λe w' ⟨x,h1,h2,h3,h4⟩=>?_;subst h2;simp only[hd];exact hK _ _ ((h x h1).go _ w' (gC.put hn _) (hm.append h3 h4))
theorem mJ{f:FuncId}{args:Array Value}{ι:Type}{S:Spec ι}{j e:Nat}{b:Bool}(he:∀a w,nH n a fr->(execOp a.eval o).run P w= .ok (.enter f args) w)(hc:∀w,Mem W L w->Calls P f args w (cY S w))(hg:o.guard=aj (j,b))(hj:(ops[j]?).bind (·.dst)=aj e)(hl:look fr e=aj (.bool b))(hd:o.dst=aj d)(hn:dM d n=aD)
 (h:∀x,S.ok x->TL P n W ops Q rest ((d,S.val x)::fr) (L++S.own x)):TL P n W ops Q (o::rest) fr L:= .mk λa w gC hm=>
 Uo (ns gC hg hj hl) λK hK=>by
  unfold gG;rw[he a w gC,M3];refine(hc w hm).mono λe w' ⟨x,h1,h2,h3,h4⟩=>?_;subst h2;simp only[hd];exact hK _ _ ((h x h1).go _ w' (gC.put hn _) (hm.append h3 h4))
def dF{ι:Type}(S:Spec ι)(B:b9)(e:Ending)(w':World):Prop:=∃x,S.ok x/\e= .returned (S.val x)/\Mem B (S.own x) w'
theorem Mem.cX{ι:Type}{S:Spec ι}{w:World}(x:ι)(hm:Mem W L w)(hx:S.ok x)(is:List Nat)(hn:is.Nodup)(hl:S.own x=is.filterMap λi=>L[i]?):dF S W (.returned (S.val x)) w:=
 ⟨x,hx,rfl,hm.pick is hn hl⟩
theorem xl{is js:List Nat}{Lx R:List cU}(Zn:Lx=is.filterMap λi=>L[i]?)(MI:R=js.filterMap λi=>L[i]?):Lx++R=(is++js).filterMap λi=>L[i]?:=by
 rw[zS,<-Zn,<-MI]
theorem bK{f:FuncId}{args:Array Value}{ι:Type}{S:Spec ι}(is js:List Nat){Lx R:List cU}(Zo:(is++js).Nodup)(Zn:Lx=is.filterMap λi=>L[i]?)(MI:R=js.filterMap λi=>L[i]?)
 (he:∀a w,nH n a fr->(execOp a.eval o).run P w= .ok (.enter f args) w) (hc:∀w,Mem W L w->Mem (b9.on w Lx) Lx w->Calls P f args w (dF S (b9.on w Lx))) (hg:o.guard=ak) (hd:o.dst=aj d) (hn:dM d n=aD)
 (h:∀x,S.ok x->TL P n W ops Q rest ((d,S.val x)::fr) (R++S.own x)):TL P n W ops Q (o::rest) fr L:= .mk λa w gC hm=>
 wpList_plain hg λK hK=>by
  have U7:Mem W (Lx++R) w:=hm.pick (is++js) Zo (xl Zn MI);have hm3:Mem W Lx w:=hm.pick is (UT.1 Zo).1 Zn;unfold gG;rw[he a w gC,M3];refine(hc w hm hm3.over).mono λe w' ⟨x,h1,h2,h3⟩=>?_;subst h2;simp only[hd];exact hK _ _ ((h x h1).go _ w' (gC.put hn _) (U7.back h3))
theorem kU(hg:o.guard=ak)(h:∀a w,nH n a fr->Mem W L w->∀K:Act->World->Prop,(∀a w,wpList P ops Q rest a w->K a w)->o.wp P a w K Q):TL P n W ops Q (o::rest) fr L:= .mk λa w gC hm=>
 wpList_plain hg λK hK=>h a w gC hm K hK
theorem B8{q e:Nat}{b:Bool}(hg:o.guard=aj (q,b))(hj:(ops[q]?).bind (·.dst)=aj e)(hl:look fr e=aj (.bool b))(h:TL P n W ops Q ({o with guard:=ak}::rest) fr L):TL P n W ops Q (o::rest) fr L:= .mk λa w hr hm=>by
 have h1:=h.go a w hr hm;unfold wpList at h1⊢;rw[if_pos (nP I)]at h1;rw[if_pos (ns hr hg hj hl)];exact h1
end
end
end cZ
namespace cZ
open Go.RowKit dr eH
def str(l:List UInt8):Value:= .string ⟨l.toArray⟩
theorem U8(s:ByteArray):Value.string s=str s.data.toList:=by unfold str;congr
structure Ty(P:Program)(t:TypeId)(agg:Bool)(c:Nat):Prop where
 agg:∀w,(isAgg t).run P w= .ok agg w
 size:∀w,(sizeOf t).run P w= .ok c w
def tyB(P:Program)(t:TypeId)(agg:Bool)(c:Nat):Bool:=
 (match P.underlying t with|some (.struct _)=>agg|some (.array _ _)=>agg|some _=>!agg|none=>aE)&&(match P.info? t with|some i=>fW i.size c|none=>aE)
theorem Ty.of{P:Program}{t:TypeId}{agg:Bool}{c:Nat}(h:tyB P t agg c=aD):Ty P t agg c:=by
 unfold tyB at h;rw[fU]at h;obtain⟨h1,h2⟩:=h;refine⟨λw=>?_,λw=>?_⟩
 ·cases e:P.underlying t with
  |none=>rw[e]at h1;cases h1
  |some d=>
   rw[e]at h1
   cases agg<;>cases d<;>first|(cases h1;done)|simp[isAgg,run_underlying e]
 cases e:P.info? t with
 |none=>rw[e]at h2;cases h2
 |some i=>
  rw[e]at h2;obtain rfl:i.size=c:=kP h2;simp[sizeOf,typeInfo,e]
section
variable{P:Program}{n:Nat}{W:b9}{fr:Fr}{L:List cU}{dst:Option Tmp}{ty:TypeId}{pos:String}{after:Array Edge}{guard:Option (Nat×Bool)}
theorem bX{x:Operand}{v:Value}(hx:ev fr x=aj v):RR P n W ⟨dst,.move x,ty,pos,after,guard⟩ fr L v:= .mk λa w hr _=>by
 show M6 (UC (a.eval x)) w=_;rw[hr.ev hx]
theorem cC{x:Operand}{v:Value}(hx:ev fr x=aj v):RR P n W ⟨dst,.assign x,ty,pos,after,guard⟩ fr L v:= .mk λa w hr _=>by
 show M6 (UC (a.eval x)) w=_;rw[hr.ev hx]
theorem dH{c x y:Operand}{v:Value}(hc:ev fr c=aj (.bool aD))(hx:ev fr x=aj v):RR P n W ⟨dst,.pick c x y,ty,pos,after,guard⟩ fr L v:= .mk λa w hr _=>by
 simp[execOp,hr.ev hc,hr.ev hx,asBool]
theorem dI{c x y:Operand}{v:Value}(hc:ev fr c=aj (.bool aE))(hy:ev fr y=aj v):RR P n W ⟨dst,.pick c x y,ty,pos,after,guard⟩ fr L v:= .mk λa w hr _=>by
 simp[execOp,hr.ev hc,hr.ev hy,asBool]
theorem Ni{t:Operand}{i:Nat}{vs:Array Value}{v:Value}(ht:ev fr t=aj (.tuple vs))(hv:vs[i]?=aj v):RR P n W ⟨dst,.extract t i,ty,pos,after,guard⟩ fr L v:= .mk λa w hr _=>by
 simp[execOp,hr.ev ht,Instr.extract,hv]
section
variable{t u:TypeId}{x y:Operand}{k:IntKind}{m m':Int}
theorem qO{op:BinOp}{v:Value}(hx:ev fr x=aj (.int k m))(hy:ev fr y=aj (.int k m'))(h:∀w,(binOp op t (.int k m) (.int k m')).run P w= .ok v w):RR P n W ⟨dst,.binOp op t x y u,ty,pos,after,guard⟩ fr L v:= .mk λa w hr _=>by
 have e:(eqGuard op t x y (.int k m) (.int k m')).run P w= .ok () w:=by
  unfold eqGuard;cases op<;>rfl
 simp[execOp,hr.ev hx,hr.ev hy,e,h]
theorem acr(hx:ev fr x=aj (.int k m))(hy:ev fr y=aj (.int k m')):RR P n W ⟨dst,.binOp .add t x y u,ty,pos,after,guard⟩ fr L (.int k (k.wrap (m+m'))):=qO hx hy λw=>by simp[binOp,M0]
theorem acs(hx:ev fr x=aj (.int k m))(hy:ev fr y=aj (.int k m')):RR P n W ⟨dst,.binOp .sub t x y u,ty,pos,after,guard⟩ fr L (.int k (k.wrap (m-m'))):=qO hx hy λw=>by simp[binOp,M0]
theorem acu(hx:ev fr x=aj (.int k m))(hy:ev fr y=aj (.int k m')):RR P n W ⟨dst,.binOp .mul t x y u,ty,pos,after,guard⟩ fr L (.int k (k.wrap (m*m'))):=qO hx hy λw=>by simp[binOp,M0]
theorem nI{r:Int}(h0: -9223372036854775808<=r)(h1:r<=9223372036854775807):az.wrap r=r:=IntWalk.i64_in _ J
theorem bL{r:Int}(hx:ev fr x=aj (av az m))(hy:ev fr y=aj (av az m'))(h0: -9223372036854775808<=m+m')(h1:m+m'<=9223372036854775807)(hr:m+m'=r):RR P n W ⟨dst,.binOp .add t x y u,ty,pos,after,guard⟩ fr L (av az r):=by
 have:=acr (P:=P) (n:=n) (W:=W) (L:=L) (dst:=dst) (ty:=ty) (pos:=pos) (after:=after) (guard:=guard) (t:=t) (u:=u) hx hy;rwa [nI h0 h1,hr]at this
theorem df{r:Int}(hx:ev fr x=aj (av az m))(hy:ev fr y=aj (av az m'))(h0: -9223372036854775808<=m-m')(h1:m-m'<=9223372036854775807)(hr:m-m'=r):RR P n W ⟨dst,.binOp .sub t x y u,ty,pos,after,guard⟩ fr L (av az r):=by
 have:=acs (P:=P) (n:=n) (W:=W) (L:=L) (dst:=dst) (ty:=ty) (pos:=pos) (after:=after) (guard:=guard) (t:=t) (u:=u) hx hy;rwa [nI h0 h1,hr]at this
theorem U9{r:Int}(hx:ev fr x=aj (av az m))(hy:ev fr y=aj (av az m'))(h0: -9223372036854775808<=m*m')(h1:m*m'<=9223372036854775807)(hr:m*m'=r):RR P n W ⟨dst,.binOp .mul t x y u,ty,pos,after,guard⟩ fr L (av az r):=by
 have:=acu (P:=P) (n:=n) (W:=W) (L:=L) (dst:=dst) (ty:=ty) (pos:=pos) (after:=after) (guard:=guard) (t:=t) (u:=u) hx hy;rwa [nI h0 h1,hr]at this
theorem aW{b:Bool}(hx:ev fr x=aj (.int k m))(hy:ev fr y=aj (.int k m'))(h:decide (m<m')=b):RR P n W ⟨dst,.binOp .lss t x y u,ty,pos,after,guard⟩ fr L (.bool b):=qO hx hy λw=>by simp[binOp,zP,<-h]
theorem zX{b:Bool}(hx:ev fr x=aj (.int k m))(hy:ev fr y=aj (.int k m'))(h:decide (m<=m')=b):RR P n W ⟨dst,.binOp .leq t x y u,ty,pos,after,guard⟩ fr L (.bool b):=qO hx hy λw=>by simp[binOp,zP,<-h]
theorem bB{b:Bool}(hx:ev fr x=aj (.int k m))(hy:ev fr y=aj (.int k m'))(h:decide (m'<m)=b):RR P n W ⟨dst,.binOp .gtr t x y u,ty,pos,after,guard⟩ fr L (.bool b):=qO hx hy λw=>by simp[binOp,zP,<-h]
theorem dQ{b:Bool}(hx:ev fr x=aj (.int k m))(hy:ev fr y=aj (.int k m'))(h:decide (m'<=m)=b):RR P n W ⟨dst,.binOp .geq t x y u,ty,pos,after,guard⟩ fr L (.bool b):=qO hx hy λw=>by simp[binOp,zP,<-h]
theorem aX{b:Bool}(hx:ev fr x=aj (.int k m))(hy:ev fr y=aj (.int k m'))(h:decide (m=m')=b):RR P n W ⟨dst,.binOp .eql t x y u,ty,pos,after,guard⟩ fr L (.bool b):=qO hx hy λw=>by
 have:(m==m')=b:=by rw[<-h];exact Hz m m'
 simp[binOp,zP,this]
theorem bm{b:Bool}(hx:ev fr x=aj (.int k m))(hy:ev fr y=aj (.int k m'))(h:decide (m≠m')=b):RR P n W ⟨dst,.binOp .neq t x y u,ty,pos,after,guard⟩ fr L (.bool b):=qO hx hy λw=>by
 have:(m !=m')=b:=by rw[<-h,bne,Hz];simp
 simp[binOp,zP,this]
theorem HN{op:BinOp}{r:Int}(hop:op= .and\/op= .or\/op= .xor\/op= .andNot)(hx:ev fr x=aj (.int k m))(hy:ev fr y=aj (.int k m'))(h:bits op k m m'=r):RR P n W ⟨dst,.binOp op t x y u,ty,pos,after,guard⟩ fr L (.int k r):=qO hx hy λw=>by
 subst h;rcases hop with rfl|rfl|rfl|rfl<;>simp[binOp,Op.intBits,bits]
theorem J3{op:BinOp}{k':IntKind}{v:Value}(hop:op= .shl\/op= .shr)(hx:ev fr x=aj (.int k m))(hy:ev fr y=aj (.int k' m'))(h:∀w,(jd op k m k' m').run P w= .ok v w):RR P n W ⟨dst,.binOp op t x y u,ty,pos,after,guard⟩ fr L v:= .mk λa w hr _=>by
 have e:(eqGuard op t x y (.int k m) (.int k' m')).run P w= .ok () w:=by unfold eqGuard;rcases hop with rfl|rfl<;>rfl
 rcases hop with rfl|rfl<;>simp[execOp,hr.ev hx,hr.ev hy,e,binOp,h]
theorem nt{r:Int}(hx:ev fr x=aj (.int k m))(hy:ev fr y=aj (.int k m'))(h:bits .and k m m'=r):RR P n W ⟨dst,.binOp .and t x y u,ty,pos,after,guard⟩ fr L (.int k r):=HN (.inl I) hx hy h
theorem yo{r:Int}(hx:ev fr x=aj (.int k m))(hy:ev fr y=aj (.int k m'))(h:bits .or k m m'=r):RR P n W ⟨dst,.binOp .or t x y u,ty,pos,after,guard⟩ fr L (.int k r):=HN (.inr (.inl I)) hx hy h
theorem CP{k':IntKind}{v:Value}(hx:ev fr x=aj (.int k m))(hy:ev fr y=aj (.int k' m'))(h:∀w,(jd .shl k m k' m').run P w= .ok v w):RR P n W ⟨dst,.binOp .shl t x y u,ty,pos,after,guard⟩ fr L v:=J3 (.inl I) hx hy h
theorem pe{k':IntKind}{v:Value}(hx:ev fr x=aj (.int k m))(hy:ev fr y=aj (.int k' m'))(h:∀w,(jd .shr k m k' m').run P w= .ok v w):RR P n W ⟨dst,.binOp .shr t x y u,ty,pos,after,guard⟩ fr L v:=J3 (.inr I) hx hy h
theorem jl{k':IntKind}{r:Int}(hs:P.underlying t=aj (.int k'))(hd:P.underlying u=aj (.int k))(hx:ev fr x=aj (.int k' m))(h:k.wrap m=r):RR P n W ⟨dst,.convert t u x,ty,pos,after,guard⟩ fr L (.int k r):= .mk λa w hr _=>by
 simp[execOp,hr.ev hx,convert,run_underlying hs,run_underlying hd,Conv.intToInt,h]
end
theorem iu{t:TypeId}{x:Operand}{b c:Bool}(hx:ev fr x=aj (.bool b))(h:(!b)=c):RR P n W ⟨dst,.unOp .not t x,ty,pos,after,guard⟩ fr L (.bool c):= .mk λa w hr _=>by
 subst h;simp[execOp,hr.ev hx,Op.unary]
theorem fQ{t u:TypeId}{x y:Operand}{m m' r:Int}(hx:ev fr x=aj (av az m))(hy:ev fr y=aj (av az m'))(h:min m m'=r):RR P n W ⟨dst,.call {callee:= .builtin .min,args:=#[x,y],argTypes:=#[t,u]},ty,pos,after,guard⟩ fr L (av az r):= .mk λa w hr _=>by
 subst h;have h1:=hr.ev hx;have h2:=hr.ev hy;have e:(if m'<m then m' else m)=min m m':=by split<;>omega
 simp[lZ,Up,h1,h2,Uq,Ur,e]
theorem U_{t u:TypeId}{x y:Operand}{m m' r:Int}(hx:ev fr x=aj (av az m))(hy:ev fr y=aj (av az m'))(h:max m m'=r):RR P n W ⟨dst,.call {callee:= .builtin .max,args:=#[x,y],argTypes:=#[t,u]},ty,pos,after,guard⟩ fr L (av az r):= .mk λa w hr _=>by
 subst h;have h1:=hr.ev hx;have h2:=hr.ev hy;have e:(if m'>m then m' else m)=max m m':=by split<;>omega
 have e2:(if m<m' then m' else m)=max m m':=e;simp[lZ,BigFrame.builtin_max,h1,h2,Builtin.max_,Builtin.max2,e2]
theorem CQ{t:TypeId}{a b:Bool}(ht:P.underlying t=aj .bool)(d:Nat)(w:World):(oZ (d+1) t (.bool a) (.bool b)).run P w= .ok (a==b) w:=by simp[oZ,run_underlying ht]
theorem FX{t u:TypeId}{x y:Operand}{a b c:Bool}(ht:P.underlying t=aj .bool)(hx:ev fr x=aj (.bool a))(hy:ev fr y=aj (.bool b))(h:(a==b)=c):RR P n W ⟨dst,.binOp .eql t x y u,ty,pos,after,guard⟩ fr L (.bool c):= .mk λac w hr _=>by
 have e:(eqGuard .eql t x y (.bool a) (.bool b)).run P w= .ok () w:=rfl;have e2:(binOp .eql t (.bool a) (.bool b)).run P w= .ok (.bool c) w:=by
  show((HE t (.bool a) (.bool b))>>=λr=>pure (gi r)).run P w=_
  have:(HE t (.bool a) (.bool b)).run P w= .ok (a==b) w:=CQ ht 9999 w;rw[l5,this,h];rfl
 simp[execOp,hr.ev hx,hr.ev hy,e,e2]
theorem RJ{t u:TypeId}{x y:Operand}{a b c:Bool}(ht:P.underlying t=aj .bool)(hx:ev fr x=aj (.bool a))(hy:ev fr y=aj (.bool b))(h:(!(a==b))=c):RR P n W ⟨dst,.binOp .neq t x y u,ty,pos,after,guard⟩ fr L (.bool c):= .mk λac w hr _=>by
 have e:(eqGuard .neq t x y (.bool a) (.bool b)).run P w= .ok () w:=rfl;have e2:(binOp .neq t (.bool a) (.bool b)).run P w= .ok (.bool c) w:=by
  show((HE t (.bool a) (.bool b))>>=λr=>pure (gi (!r))).run P w=_
  have:(HE t (.bool a) (.bool b)).run P w= .ok (a==b) w:=CQ ht 9999 w;rw[l5,this];show M6 (gi (!(a==b))) w=_
  rw[h]
 simp[execOp,hr.ev hx,hr.ev hy,e,e2]
section
variable{t u:TypeId}{x y:Operand}{l l':List UInt8}
theorem dD(ht:P.underlying t=aj .string)(hx:ev fr x=aj (str l)):RR P n W ⟨dst,.call {callee:= .builtin .len,args:=#[x],argTypes:=#[t]},ty,pos,after,guard⟩ fr L (av az l.length):= .mk λa w hr _=>by
 have Nj:=hr.ev hx;unfold str at Nj;have hsz:(sc l.toArray).size=l.length:=eE;simp[lZ,MW,Us,Nj,run_underlying ht,goInt,hsz]
theorem acv(l:List UInt8):(sc l.toArray).toList=l:=by
 have h:∀(m:List UInt8) (i:Nat) (r:List UInt8),i+m.length=l.length->l.drop i=m->MU ⟨l.toArray⟩ i r=r.reverse++m:=by
  intro m
  induction m with
  |nil=>
   intro i r hi _;unfold MU;rw[if_neg (by simp[zv]at*;omega)];simp
  |cons b m ih=>
   intro i r hi hd;unfold MU;have hlt:i<l.length:=by simp at hi;omega
   rw[if_pos (by simpa[zv]using hlt)];rw[ff hlt]at hd;injection hd with h1 h2
   rw[ih (i+1) _ (by simp at hi;omega) h2];have:(sc l.toArray).get! i=b:=by simp[aca,hlt,h1]
   rw[this];simp
 unfold acb;rw[h l 0 [] (by simp) I];simp
theorem pf{b:Bool}(hx:ev fr x=aj (str l))(hy:ev fr y=aj (str l'))(h:decide (l=l')=b):RR P n W ⟨dst,.binOp .eql t x y u,ty,pos,after,guard⟩ fr L (.bool b):= .mk λa w hr _=>by
 have e:(eqGuard .eql t x y (str l) (str l')).run P w= .ok () w:=rfl;have e2:(l==l')=b:=by rw[<-h];exact Hz l l'
 unfold str at*;simp[execOp,hr.ev hx,hr.ev hy,e,binOp,UD,e2]
theorem kV{b:Bool}(hx:ev fr x=aj (str l))(hy:ev fr y=aj (str l'))(h:decide (l≠l')=b):RR P n W ⟨dst,.binOp .neq t x y u,ty,pos,after,guard⟩ fr L (.bool b):= .mk λa w hr _=>by
 have e:(eqGuard .neq t x y (str l) (str l')).run P w= .ok () w:=rfl;have e2:(!(l==l'))=b:=by rw[<-h,Hz];simp
 unfold str at*;simp[execOp,hr.ev hx,hr.ev hy,e,binOp,UD,e2]
theorem FY(hx:ev fr x=aj (str l))(hy:ev fr y=aj (str l'))(h:l.length+l'.length<=9223372036854775807):RR P n W ⟨dst,.binOp .add t x y u,ty,pos,after,guard⟩ fr L (str (l++l')):= .mk λa w hr _=>by
 have e:(eqGuard .add t x y (str l) (str l')).run P w= .ok () w:=rfl;have e2:=run_string_add_sum (P:=P) w ⟨l.toArray⟩ ⟨l'.toArray⟩ (by simpa[zv]using h);rw[acf]at e2;unfold str at*;simp[execOp,hr.ev hx,hr.ev hy,e,binOp,e2]
theorem v_{i:Int}{b:UInt8}{k:IntKind}(ht:P.underlying t=aj .string)(hx:ev fr x=aj (str l))(hy:ev fr y=aj (.int k i))(h0:0<=i)(h:l[i.toNat]?=aj b):RR P n W ⟨dst,.index t x y,ty,pos,after,guard⟩ fr L (.int .u8 b.toNat):= .mk λa w hr _=>by
 have hlt:=(dv.1 h).1;have e:(if 0<=i then(sc l.toArray)[i.toNat]? else ak)=aj b:=by
  rw[if_pos h0];have hs:i.toNat<(sc l.toArray).size:=by simpa[zv]using hlt
  rw[getElem?_pos (sc l.toArray) i.toNat hs];have:=(dv.1 h).2;exact congrArg aj (by rw[<-this];rfl)
 unfold str at*;simp only[execOp,hr.ev hx,hr.ev hy,UB,asIntOf,l5,mB,n',run_underlying ht,e]
theorem t_{lo hi:Option Operand}{i j:Int}(ht:P.underlying t=aj .string)(hx:ev fr x=aj (str l))(P1:match lo with|none=>i=0|some z=>∃k,ev fr z=aj (.int k i))(RL:match hi with|none=>j=l.length|some z=>∃k,ev fr z=aj (.int k j))
 (h0:0<=i) (h1:i<=j) (h2:j<=l.length):RR P n W ⟨dst,.slice t x lo hi ak,ty,pos,after,guard⟩ fr L (str ((l.take j.toNat).drop i.toNat)):= .mk λa w hr _=>by
 have hsz:(sc l.toArray).size=l.length:=by simp[zv]
 have ex:∀p q,(sc l.toArray).extract p q=⟨((l.take q).drop p).toArray⟩:=λp q=>by
  apply acd;simp[ace,List.extract_eq_take_drop,Nf]
 have h2':j<=((sc l.toArray).size:Int):=by rw[hsz];exact h2
 have h0j:0<=j:=by omega
 have ej:(j.toNat:Int)=j:=Int.toNat_of_nonneg h0j;unfold str at*
 cases lo<;>cases hi
 ·simp only at P1 RL
  subst P1 RL;simp[execOp,hr.ev hx,sf,sg,run_underlying ht,se]
 ·obtain⟨k,hk⟩:=RL
  simp only at P1;subst P1;simp[execOp,hr.ev hx,hr.ev hk,sf,sg,run_underlying ht,se,run_sliceBound,ex,hsz,h0j,h2]
 ·obtain⟨k,hk⟩:=P1
  simp only at RL;subst RL;simp[execOp,hr.ev hx,hr.ev hk,sf,sg,run_underlying ht,se,run_sliceBound,ex,hsz,h0,h1]
 ·obtain⟨k,hk⟩:=P1
  obtain⟨k',mZ⟩:=RL;have h1':i<=(j.toNat:Int):=by omega
  have hb:=λc=>run_sliceBound (P:=P) w k i j.toNat c h0 h1';simp[execOp,hr.ev hx,hr.ev hk,hr.ev mZ,sf,sg,run_underlying ht,se,run_sliceBound w k' j,hb,ex,hsz,h0j,h2]
theorem CR{z:Operand}{k:IntKind}{i:Nat}(ht:P.underlying t=aj .string)(hx:ev fr x=aj (str l))(hz:ev fr z=aj (.int k (i:Int)))(h:i<=l.length):RR P n W ⟨dst,.slice t x (aj z) ak ak,ty,pos,after,guard⟩ fr L (str (l.drop i)):=by
 have:=t_ (P:=P) (n:=n) (W:=W) (fr:=fr) (L:=L) (dst:=dst) (ty:=ty) (pos:=pos) (after:=after) (guard:=guard) (lo:=aj z) (hi:=ak) (i:=(i:Int)) (j:=(l.length:Int)) ht hx ⟨k,hz⟩ I J J J
 rwa [dP,dP,gj (bJ _)]at this
theorem Nk{z:Operand}{k:IntKind}{j:Nat}(ht:P.underlying t=aj .string)(hx:ev fr x=aj (str l))(hz:ev fr z=aj (.int k (j:Int)))(h:j<=l.length):RR P n W ⟨dst,.slice t x ak (aj z) ak,ty,pos,after,guard⟩ fr L (str (l.take j)):=by
 have:=t_ (P:=P) (n:=n) (W:=W) (fr:=fr) (L:=L) (dst:=dst) (ty:=ty) (pos:=pos) (after:=after) (guard:=guard) (lo:=ak) (hi:=aj z) (i:=0) (j:=(j:Int)) ht hx I ⟨k,hz⟩ J J J
 rwa [dP,Int.toNat_zero,qL]at this
theorem RM{z z':Operand}{k k':IntKind}{i j:Nat}(ht:P.underlying t=aj .string)(hx:ev fr x=aj (str l))(hz:ev fr z=aj (.int k (i:Int)))(hz':ev fr z'=aj (.int k' (j:Int)))(h0:i<=j)(h:j<=l.length):RR P n W ⟨dst,.slice t x (aj z) (aj z') ak,ty,pos,after,guard⟩ fr L (str ((l.drop i).take (j-i))):=by
 have:=t_ (P:=P) (n:=n) (W:=W) (fr:=fr) (L:=L) (dst:=dst) (ty:=ty) (pos:=pos) (after:=after) (guard:=guard) (lo:=aj z) (hi:=aj z') (i:=(i:Int)) (j:=(j:Int)) ht hx ⟨k,hz⟩ ⟨k',hz'⟩ J J J
 rwa [dP,dP,Nf]at this
end
end
end cZ
namespace cZ
open Go.RowKit dr eH
section
variable{P:Program}{n:Nat}{W:b9}{fr:Fr}{L:List cU}{dst:Option Tmp}{ty:TypeId}{pos:String}{after:Array Edge}{guard:Option (Nat×Bool)}
def At(W:b9)(L:List cU)(p:Addr)(v:Value):Prop:=∀w,Mem W L w->w.cell? p=aj v
theorem kw{W:World}{p:Addr}{v:Value}(h:W.cell? p=aj v):At W L p v:=λ_ hm=>hm.cell h
theorem iW{W0:World}{p:Addr}{v:Value}(ho:p_ W0 W)(h:W0.cell? p=aj v):At W L p v:=λ_ hm=>ho.cell hm h
theorem aH{i g off:Nat}{cs:Array Value}{T:TypeId}{v:Value}(hi:L[i]?=aj (aR g cs T))(hv:cs[off]?=aj v):At W L ⟨g,off,ak⟩ v:=λw hm=>by
 rw[cell_of_row w g off cs T (0,0) (hm.get hi)];exact hv
theorem kx{i g off size cap m k:Nat}{e:TypeId}{xs:List Value}{v:Value}(hi:L[i]?=aj (bD e size (ap (aj ⟨g,0,ak⟩) m cap) k xs))(hv:xs[off]?=aj v):At W L ⟨g,off,ak⟩ v:=λw hm=>by
 have h:w.ownsRow 0 e size (ap (aj ⟨g,0,ak⟩) m cap) k xs:=hm.get hi;have:=h.cells (g:=g) I off v hv
 rwa [fv,du]at this
theorem jb{W:World}{b off j:Nat}{xs:List Value}{v:Value}(h:Rd W b off xs)(hv:xs[j]?=aj v):At W L ⟨b,off+j,ak⟩ v:=kw (h j v hv)
theorem aB{t:TypeId}{x:Operand}{p:Addr}{c:Nat}{v:Value}(hT:Ty P t aE c)(hx:ev fr x=aj (aK (aj p)))(h:At W L p v):RR P n W ⟨dst,.load t x,ty,pos,after,guard⟩ fr L v:= .mk λa w hr hm=>by
 simp[execOp,hr.ev hx,UA,xh,loadVar,hT.agg,h w hm]
theorem bH{t:TypeId}{x:Operand}{b off c:Nat}{cs:List Value}(hT:Ty P t aD c)(hx:ev fr x=aj (aK (aj ⟨b,off,ak⟩)))(hl:cs.length=c)(h:∀j v,cs[j]?=aj v->At W L ⟨b,off+j,ak⟩ v):RR P n W ⟨dst,.load t x,ty,pos,after,guard⟩ fr L (aU cs.toArray):= .mk λa w hr hm=>by
 subst hl;have:=run_loadCells_list (P:=P) w ⟨b,off,ak⟩ cs λj v hj=>by rw[fv];exact h j v hj w hm
 simp[execOp,hr.ev hx,UA,xh,loadVar,hT.agg,hT.size,this]
theorem aQ{t:TypeId}{x:Operand}{i g c:Nat}{cs:Array Value}{T:TypeId}(hT:Ty P t aD c)(hx:ev fr x=aj (aK (aj ⟨g,0,ak⟩)))(hi:L[i]?=aj (aR g cs T))(hl:cs.size=c):RR P n W ⟨dst,.load t x,ty,pos,after,guard⟩ fr L (.agg cs):=by
 have:=bH (P:=P) (n:=n) (W:=W) (L:=L) (dst:=dst) (ty:=ty) (pos:=pos) (after:=after) (guard:=guard) (cs:=cs.toList) hT hx (by simpa using hl) λj v hj=>by rw[du];exact aH hi (by simpa using hj)
 simpa using this
theorem Va{W:World}{α:Type}{f:α->Value}{b off j:Nat}{l:List α}(h:Rd W b off (l.map f))(hj:j<l.length):At W L ⟨b,off+j,ak⟩ (f l[j]):=jb h (by simp[hj])
structure Fld(P:Program)(s:TypeId)(f o:Nat):Prop where
 run:∀(a:Addr) w,(Uy s (aK (aj a)) f).run P w= .ok (aK (aj (a.add o))) w
def ad7(P:Program)(s:TypeId)(f o:Nat):Bool:=
 match P.underlying s with
 |some (.struct fs)=>(match fs[f]? with|some d=>fW d.offset o&&(match P.info? d.type with|some i=>!(fW i.size 0)|none=>aE)|none=>aE)
 |_=>aE
theorem Fld.of{P:Program}{s:TypeId}{f o:Nat}(h:ad7 P s f o=aD):Fld P s f o:=by
 unfold ad7 at h
 cases e:P.underlying s with
 |none=>rw[e]at h;cases h
 | some d=>
  rw[e]at h
  cases d<;>try (cases h;done)
  rename_i fs
  simp only at h
  cases e2:fs[f]? with
  |none=>rw[e2]at h;cases h
  | some d=>
   rw[e2]at h;simp only[fU]at h;obtain⟨h1,h2⟩:=h;obtain rfl:=kP h1
   cases e3:P.info? d.type with
   |none=>rw[e3]at h2;cases h2
   | some i=>
    rw[e3]at h2;simp only[zu]at h2;have:=HJ h2;exact⟨λa w=>by simp[Uy,run_underlying e,e2,xh,fieldPlace,sizeOf,typeInfo,e3,this]⟩
theorem dj{s:TypeId}{x:Operand}{f o b off r:Nat}(hf:Fld P s f o)(hx:ev fr x=aj (aK (aj ⟨b,off,ak⟩)))(hr:off+o=r):RR P n W ⟨dst,.fieldAddr s x f,ty,pos,after,guard⟩ fr L (aK (aj ⟨b,r,ak⟩)):= .mk λa w h _=>by
 subst hr;simp[execOp,h.ev hx,hf.run,fv]
theorem Vb{t e:TypeId}{x y:Operand}{agg:Bool}{c b off len cap r:Nat}{k:IntKind}{i:Int}(ht:P.underlying t=aj (.slice e))(he:Ty P e agg c)(hx:ev fr x=aj (ap (aj ⟨b,off,ak⟩) len cap))(hy:ev fr y=aj (.int k i))(h0:0<=i)(h1:i<len)(hr:off+i.toNat*c=r):
 RR P n W ⟨dst,.indexAddr t x y,ty,pos,after,guard⟩ fr L (aK (aj ⟨b,r,ak⟩)):= .mk λa w h _=>by
 subst hr;simp[execOp,h.ev hx,h.ev hy,Uz,asIntOf,run_underlying ht,he.size,h0,h1,fv]
theorem cT{t e:TypeId}{x y:Operand}{agg:Bool}{b off len cap j:Nat}{k:IntKind}(ht:P.underlying t=aj (.slice e))(he:Ty P e agg 1)(hx:ev fr x=aj (ap (aj ⟨b,off,ak⟩) len cap))(hy:ev fr y=aj (.int k (j:Int)))(h1:j<len):
 RR P n W ⟨dst,.indexAddr t x y,ty,pos,after,guard⟩ fr L (aK (aj ⟨b,off+j,ak⟩)):=Vb ht he hx hy J J (by simp)
theorem a_{t e:TypeId}{x y:Operand}{agg:Bool}{c b off len cap j:Nat}{k:IntKind}(ht:P.underlying t=aj (.slice e))(he:Ty P e agg c)(hx:ev fr x=aj (ap (aj ⟨b,off,ak⟩) len cap))(hy:ev fr y=aj (.int k (j:Int)))(h1:j<len):
 RR P n W ⟨dst,.indexAddr t x y,ty,pos,after,guard⟩ fr L (aK (aj ⟨b,off+j*c,ak⟩)):=Vb ht he hx hy J J (by simp)
theorem Zp{t e:TypeId}{x y:Operand}{agg:Bool}{c b off len r:Nat}{k:IntKind}{i:Int}(ht:P.underlying t=aj (.array len e))(he:Ty P e agg c)(hx:ev fr x=aj (aK (aj ⟨b,off,ak⟩)))(hy:ev fr y=aj (.int k i))(h0:0<=i)(h1:i<len)(hr:off+i.toNat*c=r):
 RR P n W ⟨dst,.indexAddr t x y,ty,pos,after,guard⟩ fr L (aK (aj ⟨b,r,ak⟩)):= .mk λa w h _=>by
 subst hr;simp[execOp,h.ev hx,h.ev hy,Uz,asIntOf,run_underlying ht,he.size,h0,h1,fv,xh]
theorem iz{t e:TypeId}{x y:Operand}{agg:Bool}{b off len j:Nat}{k:IntKind}(ht:P.underlying t=aj (.array len e))(he:Ty P e agg 1)(hx:ev fr x=aj (aK (aj ⟨b,off,ak⟩)))(hy:ev fr y=aj (.int k (j:Int)))(h1:j<len):
 RR P n W ⟨dst,.indexAddr t x y,ty,pos,after,guard⟩ fr L (aK (aj ⟨b,off+j,ak⟩)):=Zp ht he hx hy J J (by simp)
theorem jG{t e:TypeId}{x y:Operand}{len j:Nat}{k:IntKind}{cs:Array Value}{v:Value}(ht:P.underlying t=aj (.array len e))(he:Ty P e aE 1)(hx:ev fr x=aj (.agg cs))(hy:ev fr y=aj (.int k (j:Int)))(h1:j<len)(hv:cs[j]?=aj v):
 RR P n W ⟨dst,.index t x y,ty,pos,after,guard⟩ fr L v:= .mk λa w h _=>by
 have h0:(0:Int)<=(j:Int)/\(j:Int)<(len:Int):=by omega
 simp[execOp,h.ev hx,h.ev hy,UB,asIntOf,run_underlying ht,he.size,h1,part,he.agg,hv]
theorem eR{t e:TypeId}{x:Operand}{p:Option Addr}{m cap:Nat}(ht:P.underlying t=aj (.slice e))(hx:ev fr x=aj (ap p m cap)):RR P n W ⟨dst,.call {callee:= .builtin .len,args:=#[x],argTypes:=#[t]},ty,pos,after,guard⟩ fr L (av az m):= .mk λa w hr _=>by
 have Nj:=hr.ev hx;simp[lZ,MW,Us,Nj,run_underlying ht,goInt]
theorem fy{t e e':TypeId}{x:Operand}{i size m:Nat}{v:Value}{xs:List Value}(ht:P.underlying t=aj (.slice e))(hi:L[i]?=aj (bD e' size v m xs))(hx:ev fr x=aj v):RR P n W ⟨dst,.call {callee:= .builtin .len,args:=#[x],argTypes:=#[t]},ty,pos,after,guard⟩ fr L (av az m):= .mk λa w hr hm=>by
 have h:w.ownsRow 0 e' size v m xs:=hm.get hi;rcases h.2 with⟨rfl,rfl⟩|⟨g,cap,kg,rfl,_⟩
 exact(eR (P:=P) (W:=W) (L:=L) ht hx).go a w hr hm;exact(eR (P:=P) (W:=W) (L:=L) ht hx).go a w hr hm
def Y8(W:b9)(L:List cU)(v:Value)(m:Nat)(xs:List Value):Prop:=∀w,Mem W L w->Sl w v m xs
theorem acw{W:World}{v:Value}{m:Nat}{xs:List Value}(h:Sl W v m xs):Y8 W L v m xs:=λw hm=>by
 obtain⟨base,cap,h1,h2,h3,h4⟩:=h;exact⟨base,cap,h1,h2,h3,λhn=>let ⟨b,off,h5,h6⟩:=h4 hn;⟨b,off,h5,λj u hj=>hm.cell (h6 j u hj)⟩⟩
theorem l8{i size m:Nat}{e:TypeId}{v:Value}{xs:List Value}(hi:L[i]?=aj (bD e size v m xs)):Y8 W L v m xs:=λ_ hm=>Sl.dY (hm.get hi)
section
variable{Q:Exit->Act->World->Prop}{ops:Array Oper}{rest:List Oper}{d:Nat}
theorem b_{t:TypeId}{x:Operand}{v:Value}{cs:Array Value}(hx:ev fr x=aj v)(hv:v.cells=cs)(hn:dM d n=aD)(h:∀g,TL P n W ops Q rest ((d,aK (aj ⟨g,0,ak⟩))::fr) (L++[aR g cs t])):
 TL P n W ops Q (⟨aj d,.box t x,ty,pos,after,ak⟩::rest) fr L:=kU I λa w hr hm K hK=>by
 subst hv;have e:(execOp a.eval ⟨aj d,.box t x,ty,pos,after,ak⟩).run P w= .ok (.value (aK (aj ⟨w.heap.size,0,ak⟩))) (w.alloc (.cells v.cells t)):=by
  simp[execOp,hr.ev hx,Instr.box,newVar,newRow]
 unfold gG;rw[e];exact hK _ _ ((h w.heap.size).go _ _ (hr.put hn _) (hm.append (RN w _) (nO.one (heap_alloc_new w _) λk hk=>by simp only[aR,dB]at hk;omega)))
where
 RN (w:World) (o:Obj):Gr w (w.alloc o):=(Below.refl _ _).alloc (bJ _) _
theorem pg(w:World)(o:Obj):Gr w (w.alloc o):=(Below.refl _ _).alloc (bJ _) _
theorem Vc{t:TypeId}{i:TypeInfo}{z:Value}{cs:Array Value}(hi:P.info? t=aj i)(hz:i.zero=aj z)(hv:z.cells=cs)(hn:dM d n=aD)(h:∀g,TL P n W ops Q rest ((d,aK (aj ⟨g,0,ak⟩))::fr) (L++[aR g cs t])):
 TL P n W ops Q (⟨aj d,.alloc t,ty,pos,after,ak⟩::rest) fr L:=kU I λa w hr hm K hK=>by
 subst hv;have e:(execOp a.eval ⟨aj d,.alloc t,ty,pos,after,ak⟩).run P w= .ok (.value (aK (aj ⟨w.heap.size,0,ak⟩))) (w.alloc (.cells z.cells t)):=by
  simp[execOp,Instr.alloc,zeroValue,typeInfo,hi,hz,newVar,newRow]
 unfold gG;rw[e];exact hK _ _ ((h w.heap.size).go _ _ (hr.put hn _) (hm.append (pg w _) (nO.one (heap_alloc_new w _) λk hk=>by simp only[aR,dB]at hk;omega)))
theorem Nl{t e:TypeId}{m:Nat}{parts:Array (Nat×Operand)}{cs:Array Value}(hrun:∀a w,nH n a fr->(tN t m (parts.map λ(i,x)=>(i,a.eval x))).run P w= .ok (ap (aj ⟨w.heap.size,0,ak⟩) m m) (w.alloc (.cells cs e)))(hn:dM d n=aD)
 (h:∀g,TL P n W ops Q rest ((d,ap (aj ⟨g,0,ak⟩) m m)::fr) (L++[aR g cs e])):
 TL P n W ops Q (⟨aj d,.buildSlice t m parts,ty,pos,after,ak⟩::rest) fr L:=kU I λa w hr hm K hK=>by
 have e':(execOp a.eval ⟨aj d,.buildSlice t m parts,ty,pos,after,ak⟩).run P w= .ok (.value (ap (aj ⟨w.heap.size,0,ak⟩) m m)) (w.alloc (.cells cs e)):=by
  simp only[execOp,l5,hrun a w hr,n',mB]
 unfold gG;rw[e'];exact hK _ _ ((h w.heap.size).go _ _ (hr.put hn _) (hm.append (pg w _) (nO.one (heap_alloc_new w _) λk hk=>by simp only[aR,dB]at hk;omega)))
theorem Vd{t e:TypeId}{i:TypeInfo}{z v:Value}{c:Nat}(ht:P.underlying t=aj (.slice e))(hi:P.info? e=aj i)(hz:i.zero=aj z)(hc:i.size=c)(hzc:z.cells.size=c)(hv:v.cells.size=c)(h0:0<c)(hs:c<=16777216)(w:World):
 (tN t 1 #[(0,v)]).run P w= .ok (ap (aj ⟨w.heap.size,0,ak⟩) 1 1) (w.alloc (.cells v.cells e)):=by
 have t':jP (λi=>aj (i*c,c)) ((CB (1*c)).map (z.cells[· %z.cells.size]!)) [(0,v)]=aj v.cells:=by
  simp only[jP,hv,HK,du,Array.size_map,Array.size_range,tW];rw[if_neg (by simp)]
  congr 1
  have key:∀(l:List Value) (k:Nat) (acc:Array Value),k+l.length=acc.size->(l.zipIdx k).foldl (λcs (x:Value×Nat)=>cs.setIfInBounds (0+x.2) x.1) acc=(acc.toList.take k++l).toArray:=by
   intro l
   induction l with
   | nil=>
    intro k acc h;simp at h;simp only[List.zipIdx_nil,List.foldl_nil,eB];rw[gj (by simp;omega)]
   | cons x l ih=>
    intro k acc h;simp only[dE]at h;rw[HI,List.foldl_cons,ih (k+1) _ (by simp;omega)];simp only[du,Hx]
    congr 1
    rw[ia (by simp;omega)];simp[UY];rw[List.set_eq_of_length_le (by simp;omega)]
  have:=key v.cells.toList 0 ((CB c).map (z.cells[· %z.cells.size]!)) (by simp[hv])
  simp only[tU,fg,xd]at this;rw[<-Array.foldl_toList]
  simpa[Array.toList_zipIdx]using this
 have hne:¬(1*c>2^24):=by omega
 have Ve:¬(1*c=0):=by omega
 simp only[tN,l5,run_underlying ht,n',sizeOf,typeInfo,run_program,hi,mB,hc,zeroValue,hz,if_neg hne,if_neg Ve,t',newRow];simp[newRow]
theorem Zq{t e:TypeId}{x:Operand}{i:TypeInfo}{z v:Value}{c:Nat}{cs:Array Value}(ht:P.underlying t=aj (.slice e))(hi:P.info? e=aj i)(hz:i.zero=aj z)(hc:i.size=c)(hzc:z.cells.size=c)(hx:ev fr x=aj v)(hcs:v.cells=cs)(hv:cs.size=c)(h0:0<c)(hs:c<=16777216)(hn:dM d n=aD)
 (h:∀g,TL P n W ops Q rest ((d,ap (aj ⟨g,0,ak⟩) 1 1)::fr) (L++[aR g cs e])):TL P n W ops Q (⟨aj d,.buildSlice t 1 #[(0,x)],ty,pos,after,ak⟩::rest) fr L:=by
 subst hcs;exact Nl (λa w hr=>by simpa[hr.ev hx]using Vd ht hi hz hc hzc hv h0 hs w) hn h
theorem oh{t ty e:TypeId}{i:TypeInfo}{z:Value}{size bytes:Nat}(ht:P.underlying t=aj (.slice e))(hi:P.info? e=aj i)(hz:i.zero=aj z)(mi:i.size=size)(JN:i.bytes=bytes)(Nn:z.cells.size=size)(hsz:0<size)(w:World)
 {v:Value} {m:Nat} {xs:List Value} (mw:w.ownsRow 0 e size v m xs) {a:Addr} {k c:Nat} {news:List Value} (hl:news.length=k*size) (A3:∀j u,news[j]?=aj u->w.cell? (a.add j)=aj u) (h1:∀u∈news,u.oneCell'=aD)
 (r9:m+k<=maxLen) (zY:(m+k)*bytes<=140737488355328):
 ∃v' w',(tL #[t,t] ty #[v,ap (aj a) k c]).run P w= .ok v' w'/\w'.ownsRow 0 e size v' (m+k) (xs++news)/\w.grownBy w' v.ownBlock/\(∀q,v'.ownBlock=aj q->v.ownBlock=aj q\/w.heap.size<=q):=by
 obtain⟨v',w',hr,h2,h3,h4⟩:=run_append_own (P:=P) w 0 t ty e i z size bytes ht hi hz mi JN Nn hsz v m xs mw a k c news hl A3 h1 r9 zY (bO _);refine⟨v',w',hr,h2,h3,λq hq=>?_⟩;have ad8:((m+k:Nat):Int)<=9223372036854775807:=by simp only[maxLen]at r9;omega
 rcases mw.2 with⟨rfl,rfl⟩|⟨g,cap,kg,rfl,BH,hg,hnc,No,hcs,yp⟩
 ·by_cases hk:k=0
  rw[h4.2 ⟨rfl,hk⟩]at hq;cases hq;have we:=run_append_nil (P:=P) w t ty e i z ht hi hz a k c news (by rw[mi];exact hl) A3 J J (by rw[JN];have hb:=zY;simp only[du]at hb;omega);rw[hr]at we;injection we with e1 _
  subst e1;simp only[qK,dB]at hq;exact .inr J
 ·by_cases hroom:m+k<=cap
  ·have CS:m*i.size+news.length<=kg.size:=by rw[hl,hcs,mi,<-jF];exact o8 _ hroom
   have we:=run_append_room (P:=P) w t ty e i ht hi g m cap kg hg a k c news (by rw[mi];exact hl) A3 h1 hroom CS;rw[hr]at we;injection we with e1 _
   subst e1;exact .inl hq
  have holds:∀j u,xs[j]?=aj u->w.cell? ((⟨g,0,ak⟩:Addr).add j)=aj u:=mw.cells (g:=g) I;have we:=run_append_grow (P:=P) w t ty e i z ht hi hz ⟨g,0,ak⟩ m cap xs (by rw[mi];exact mw.1) holds a k c news (by rw[mi];exact hl) A3 J J (growslice_fits J (by rw[JN];exact zY));rw[hr]at we;injection we with e1 _
  subst e1;simp only[qK,dB]at hq;exact .inr J
structure El(P:Program)(t e:TypeId)(size bytes:Nat):Prop where
 ex:∃i z,P.underlying t=aj (.slice e)/\P.info? e=aj i/\i.zero=aj z/\i.size=size/\i.bytes=bytes/\z.cells.size=size/\0<size
def elB(P:Program)(t e:TypeId)(size bytes:Nat):Bool:=
 (match P.underlying t with|some (.slice e')=>fW e' e|_=>aE)&&(match P.info? e with|some i=>fW i.size size&&fW i.bytes bytes&&(match i.zero with|some z=>fW z.cells.size size|none=>aE)|none=>aE)&&dM 0 size
theorem El.of{t e:TypeId}{size bytes:Nat}(h:elB P t e size bytes=aD):El P t e size bytes:=by
 unfold elB at h;simp only[fU]at h;obtain⟨⟨h1,h2⟩,h3⟩:=h
 cases e1:P.underlying t with
 |none=>rw[e1]at h1;cases h1
 | some d=>
  rw[e1]at h1
  cases d<;>try (cases h1;done)
  rename_i e'
  obtain rfl:=kP h1
  cases e2:P.info? e' with
  |none=>rw[e2]at h2;cases h2
  | some i=>
   rw[e2]at h2;simp only[fU]at h2;obtain⟨⟨h4,h5⟩,h6⟩:=h2
   cases e3:i.zero with
   |none=>rw[e3]at h6;cases h6
   | some z=>
    rw[e3]at h6;exact⟨i,z,e1,e2,e3,kP h4,kP h5,kP h6,mH h3⟩
theorem RO{t e:TypeId}{s x:Operand}{i size bytes m k c:Nat}{v:Value}{xs ys:List Value}{a:Addr}(ub:El P t e size bytes)(hi:L[i]?=aj (bD e size v m xs))(hs:ev fr s=aj v)(hx:ev fr x=aj (ap (aj a) k c))
 (hy:∀j u,ys[j]?=aj u->At W L (a.add j) u) (hl:ys.length=k*size) (h1:∀u∈ys,u.oneCell'=aD) (r9:m+k<=140737488355328) (hb:(m+k)*bytes<=140737488355328) (hn:dM d n=aD)
 (h:∀v',TL P n W ops Q rest ((d,v')::fr) (L.set i (bD e size v' (m+k) (xs++ys)))):
 TL P n W ops Q (⟨aj d,.call {callee:= .builtin .append,args:=#[s,x],argTypes:=#[t,t]},ty,pos,after,ak⟩::rest) fr L:=kU I λact w hr hm K hK=>by
 obtain⟨inf,z,ht,yq,hz,mi,JN,Nn,hsz⟩:=ub.ex;obtain⟨v',w',hrun,h2,h3,h4⟩:=oh (ty:=ty) (c:=c) ht yq hz mi JN Nn hsz w (hm.get hi:w.ownsRow 0 e size v m xs) hl (λj u hj=>hy j u hj w hm) h1 (by unfold maxLen;omega) hb;have e':(execOp act.eval ⟨aj d,.call {callee:= .builtin .append,args:=#[s,x],argTypes:=#[t,t]},ty,pos,after,ak⟩).run P w= .ok (.value v') w':=by
  simp only[lZ,sd,Na,gu,o7,hr.ev hs,hr.ev hx,l5,hrun,n',mB]
 unfold gG;rw[e'];exact hK _ _ ((h v').go _ _ (hr.put hn _) (hm.BG hi h3 h2 h4))
theorem HO{t e:TypeId}{s x:Operand}{i size bytes m k c:Nat}{v:Value}{xs ys:List Value}{p:Addr}{act:Act}{w:World}(ub:El P t e size bytes)(hi:L[i]?=aj (bD e size v m xs))(hs:ev fr s=aj v)(hx:ev fr x=aj (ap (aj p) k c))
 (hy:∀j u,ys[j]?=aj u->w.cell? (p.add j)=aj u) (hl:ys.length=k*size) (h1:∀u∈ys,u.oneCell'=aD) (r9:m+k<=140737488355328) (hb:(m+k)*bytes<=140737488355328) (hn:dM d n=aD)
 (h:∀v',TL P n W ops Q rest ((d,v')::fr) (L.set i (bD e size v' (m+k) (xs++ys)))) (hr:nH n act fr) (hm:Mem W L w):
 wpList P ops Q (⟨aj d,.call {callee:= .builtin .append,args:=#[s,x],argTypes:=#[t,t]},ty,pos,after,ak⟩::rest) act w:=by
 refine wpList_plain I λK hK=>?_;obtain⟨inf,z,ht,yq,hz,mi,JN,Nn,hsz⟩:=ub.ex;obtain⟨v',w',hrun,h2,h3,h4⟩:=oh (ty:=ty) (c:=c) ht yq hz mi JN Nn hsz w (hm.get hi:w.ownsRow 0 e size v m xs) hl hy h1 (by unfold maxLen;omega) hb;have e':(execOp act.eval ⟨aj d,.call {callee:= .builtin .append,args:=#[s,x],argTypes:=#[t,t]},ty,pos,after,ak⟩).run P w= .ok (.value v') w':=by
  simp only[lZ,sd,Na,gu,o7,hr.ev hs,hr.ev hx,l5,hrun,n',mB]
 unfold gG;rw[e'];exact hK _ _ ((h v').go _ _ (hr.put hn _) (hm.BG hi h3 h2 h4))
theorem Np{t e:TypeId}{s x:Operand}{i size bytes m c:Nat}{v:Value}{xs:List Value}(ub:El P t e size bytes)(hi:L[i]?=aj (bD e size v m xs))(hs:ev fr s=aj v)(hx:ev fr x=aj (ap ak 0 c))(hn:dM d n=aD)
 (h:TL P n W ops Q rest ((d,v)::fr) L):
 TL P n W ops Q (⟨aj d,.call {callee:= .builtin .append,args:=#[s,x],argTypes:=#[t,t]},ty,pos,after,ak⟩::rest) fr L:=kU I λact w hr hm K hK=>by
 obtain⟨inf,z,ht,yq,hz,mi,JN,Nn,hsz⟩:=ub.ex;have mw:w.ownsRow 0 e size v m xs:=hm.get hi;have e':(execOp act.eval ⟨aj d,.call {callee:= .builtin .append,args:=#[s,x],argTypes:=#[t,t]},ty,pos,after,ak⟩).run P w= .ok (.value v) w:=by
  rcases mw.2 with⟨rfl,rfl⟩|⟨g,cap,kg,rfl,BH,hg,hnc,No,hcs,yp⟩
  simp[lZ,sd,hr.ev hs,hr.ev hx,tL,run_underlying ht,sizeOf,typeInfo,yq,zy,CD];simp[lZ,sd,hr.ev hs,hr.ev hx,tL,run_underlying ht,sizeOf,typeInfo,yq,zy,CD,loadCells,hnc,storeCells]
 unfold gG;rw[e'];exact hK _ _ (h.go _ _ (hr.put hn _) hm)
theorem uc{t:TypeId}{p x:Operand}{i g off c:Nat}{cs cs':Array Value}{T:TypeId}{agg:Bool}{v:Value}(hT:Ty P t agg c)(hi:L[i]?=aj (aR g cs T))(hp:ev fr p=aj (aK (aj ⟨g,off,ak⟩)))(hx:ev fr x=aj v)(hv:v.cells.size=c)(h1:v.cells.toList.all fG=aD)
 (CS:off+c<=cs.size) (hcs:cs'=(cs.toList.take off++v.cells.toList++cs.toList.drop (off+c)).toArray) (h:TL P n W ops Q rest fr (L.set i (aR g cs' T))):
 TL P n W ops Q (⟨ak,.store t p x,ty,pos,after,ak⟩::rest) fr L:=kU I λact w hr hm K hK=>by
 have hg:w.heap[g]?=aj (.cells cs T (0,0)):=hm.get hi;have hst:=run_storeCells_at P g off T v.cells.toList 0 cs w hg (by simp[hv];omega) (sk.1 h1);simp only[iO,nj,hv]at hst;rw[<-hcs]at hst;have e':(execOp act.eval ⟨ak,.store t p x,ty,pos,after,ak⟩).run P w= .ok .skip (w.setRow g cs'):=by
  simp[execOp,hr.ev hp,hr.ev hx,MX,xh,storeVar,hT.size,hv,hst]
 unfold gG;rw[e'];exact hK _ _ (h.go _ _ (hr.tY undef) (hm.BG hi ⟨rfl,rfl,rfl,by simp,λk _ hk=>setRow_other w g k _ (λe=>hk (by subst e;rfl))⟩ (setRow_heap w g cs _ T _ hg) λk hk=> .inl hk))
theorem mj{t:TypeId}{p x:Operand}{i g off c size cap m k:Nat}{xs:List Value}{e:TypeId}{v:Value}(hT:Ty P t aE c)(hi:L[i]?=aj (bD e size (ap (aj ⟨g,0,ak⟩) m cap) k xs))(hp:ev fr p=aj (aK (aj ⟨g,off,ak⟩)))(hx:ev fr x=aj v)(hv:v.cells=#[v])(hc:c=1)(h1:v.oneCell'=aD)
 (CS:off<xs.length) (h:TL P n W ops Q rest fr (L.set i (bD e size (ap (aj ⟨g,0,ak⟩) m cap) k (xs.set off v)))):
 TL P n W ops Q (⟨ak,.store t p x,ty,pos,after,ak⟩::rest) fr L:=kU I λact w hr hm K hK=>by
 subst hc;have mw:w.ownsRow 0 e size (ap (aj ⟨g,0,ak⟩) m cap) k xs:=hm.get hi;have ad9:=mw;rcases mw.2 with⟨h0,_⟩|⟨g',HP,kg,he,BH,hg,hnc,No,hcs,yp⟩
 ·cases h0
 simp only[jQ,dB,MV,and_true]at he;obtain⟨rfl,rfl,rfl⟩:=he;have hlen:xs.length=m*size:=mw.1;have acx:off<kg.size:=by rw[hcs];exact jf J (o8 size hnc)
 have hst:=run_storeCells_at P g off e [v] 0 kg w hg (by simp;omega) (by simpa using h1);simp only[iO,List.length_singleton]at hst;have tv:kg.toList.take off++[v]++kg.toList.drop (off+1)=kg.toList.set off v:=by
  rw[CG,if_pos (by simpa using acx)];simp
 rw[tv]at hst;have e':(execOp act.eval ⟨ak,.store t p x,ty,pos,after,ak⟩).run P w= .ok .skip (w.setRow g (kg.toList.set off v).toArray):=by
  simp[execOp,hr.ev hp,hr.ev hx,MX,xh,storeVar,hT.size,hv,hst]
 unfold gG;rw[e'];refine hK _ _ (h.go _ _ (hr.tY undef) (hm.BG hi ⟨rfl,rfl,rfl,by simp,λk _ hk=>setRow_other w g k _ (λe=>hk (by subst e;rfl))⟩ ?_ λk hk=> .inl hk));refine⟨by rw[List.length_set];exact mw.1,.inr ⟨g,cap,_,rfl,BH,setRow_heap w g kg _ e _ hg,hnc,No,by simp[hcs],?_⟩⟩;simp only[UY];rw[yp]
theorem RP{t u e:TypeId}{x:Operand}{m:Nat}{v:Value}{l:List UInt8}(ht:P.underlying t=aj (.slice e))(he:P.underlying e=aj (.int .u8))(hu:P.underlying u=aj .string)(hx:ev fr x=aj v)(hm:m=l.length)(h:Y8 W L v m (l.map U2)):RR P n W ⟨dst,.convert t u x,ty,pos,after,guard⟩ fr L (str l):= .mk λa w hr tw=>by
 subst hm;have Nj:=hr.ev hx;obtain⟨base,cap,rfl,_,_,fl⟩:=h w tw;have e':(convert t u (ap base l.length cap)).run P w= .ok (str l) w:=by
  cases l with
  |nil=>
   cases base with
   |none=>simp[convert,run_underlying ht,run_underlying hu,run_underlying he,Uu,str];rfl
   |some p=>simp[convert,run_underlying ht,run_underlying hu,run_underlying he,Uu,str,loadCells,loadCellsFrom];rfl
  |cons b l=>
   obtain⟨g,off,rfl,hh⟩:=fl (by simp);exact JY ht he hu I hh
 simp only[execOp,Nj,l5,e',n',mB]
end
def Enters(P:Program)(f:FuncId):Prop:=∀args w,(callFunc f args).run P w= .ok (.enter f args) w
def P2(P:Program)(f:FuncId):Bool:=match P.funcs[f]? with|some fn=>fn.body.isSome&&!(fn.name== "runtime.NumGoroutine")|none=>aE
theorem Enters.of{f:FuncId}(h:P2 P f=aD):Enters P f:=by
 unfold P2 at h
 cases e:P.funcs[f]? with
 |none=>rw[e]at h;cases h
 |some fn=>
  rw[e]at h;simp only[fU,zu]at h;intro args w;have h1:¬fn.body=none:=λhb=>by rw[hb]at h;simp at h
  have h2:¬fn.name= "runtime.NumGoroutine" :=by simpa using h.2
  simp[callFunc,e,h2,h1]
section
variable{f:FuncId}{ts:Array TypeId}{cl x1 x2 x3 x4 x5:Operand}{v1 v2 v3 v4 v5:Value}{first cap:Array Value}
theorem he0(hf:Enters P f)(hc:ev fr cl=aj (.func (.func f) #[] #[])):∀a w,nH n a fr->(execOp a.eval ⟨dst,.call {callee:= .value cl,args:=#[],argTypes:=ts},ty,pos,after,guard⟩).run P w= .ok (.enter f #[]) w:=λa w hr=>by
 have E5:∀args w,(callFunc f args).run P w= .ok (.enter f args) w:=hf;simp[execOp,resolve,hr.ev hc,zK,invoke,E5]
theorem ju(hf:Enters P f)(hc:ev fr cl=aj (.func (.func f) #[] #[]))(h1:ev fr x1=aj v1):∀a w,nH n a fr->(execOp a.eval ⟨dst,.call {callee:= .value cl,args:=#[x1],argTypes:=ts},ty,pos,after,guard⟩).run P w= .ok (.enter f #[v1]) w:=λa w hr=>by
 have E5:∀args w,(callFunc f args).run P w= .ok (.enter f args) w:=hf;simp[execOp,resolve,hr.ev hc,hr.ev h1,zK,invoke,E5]
theorem gK(hf:Enters P f)(hc:ev fr cl=aj (.func (.func f) #[] #[]))(h1:ev fr x1=aj v1)(h2:ev fr x2=aj v2):∀a w,nH n a fr->(execOp a.eval ⟨dst,.call {callee:= .value cl,args:=#[x1,x2],argTypes:=ts},ty,pos,after,guard⟩).run P w= .ok (.enter f #[v1,v2]) w:=λa w hr=>by
 have E5:∀args w,(callFunc f args).run P w= .ok (.enter f args) w:=hf;simp[execOp,resolve,hr.ev hc,hr.ev h1,hr.ev h2,zK,invoke,E5]
theorem tH(hf:Enters P f)(hc:ev fr cl=aj (.func (.func f) #[] #[]))(h1:ev fr x1=aj v1)(h2:ev fr x2=aj v2)(h3:ev fr x3=aj v3):∀a w,nH n a fr->(execOp a.eval ⟨dst,.call {callee:= .value cl,args:=#[x1,x2,x3],argTypes:=ts},ty,pos,after,guard⟩).run P w= .ok (.enter f #[v1,v2,v3]) w:=λa w hr=>by
 have E5:∀args w,(callFunc f args).run P w= .ok (.enter f args) w:=hf;simp[execOp,resolve,hr.ev hc,hr.ev h1,hr.ev h2,hr.ev h3,zK,invoke,E5]
theorem RT(hf:Enters P f)(hc:ev fr cl=aj (.func (.func f) #[] #[]))(h1:ev fr x1=aj v1)(h2:ev fr x2=aj v2)(h3:ev fr x3=aj v3)(h4:ev fr x4=aj v4):∀a w,nH n a fr->(execOp a.eval ⟨dst,.call {callee:= .value cl,args:=#[x1,x2,x3,x4],argTypes:=ts},ty,pos,after,guard⟩).run P w= .ok (.enter f #[v1,v2,v3,v4]) w:=λa w hr=>by
 have E5:∀args w,(callFunc f args).run P w= .ok (.enter f args) w:=hf;simp[execOp,resolve,hr.ev hc,hr.ev h1,hr.ev h2,hr.ev h3,hr.ev h4,zK,invoke,E5]
theorem BI(hf:Enters P f)(hc:ev fr cl=aj (.func (.func f) first cap))(h1:ev fr x1=aj v1):∀a w,nH n a fr->(execOp a.eval ⟨dst,.call {callee:= .value cl,args:=#[x1],argTypes:=ts},ty,pos,after,guard⟩).run P w= .ok (.enter f (first++#[v1]++cap)) w:=λa w hr=>by
 have E5:∀args w,(callFunc f args).run P w= .ok (.enter f args) w:=hf;simp[execOp,resolve,hr.ev hc,hr.ev h1,zK,invoke,E5]
end
end
end cZ
namespace cZ
open Go.RowKit dr eH
class bR(P:Program)(t:TypeId)(d:outParam TypeDesc):Prop where
 eq:P.underlying t=aj d
class aL(P:Program)(t:TypeId)(agg:outParam Bool)(c:outParam Nat):Prop where
 ty:Ty P t agg c:=by exact Ty.of (by kernel_rfl)
class cI(P:Program)(t:TypeId)(f:Nat)(o:outParam Nat):Prop where
 iC:Fld P t f o:=by exact Fld.of (by kernel_rfl)
class tA(P:Program)(t:TypeId)(e:outParam TypeId)(size bytes:outParam Nat):Prop where
 el:El P t e size bytes:=by exact El.of (by kernel_rfl)
class aJ(P:Program)(f:FuncId):Prop where
 en:Enters P f:=by exact Enters.of (by kernel_rfl)
class fm(P:Program)(t:TypeId)(cs:outParam (Array Value)):Prop where
 zero:(P.info? t).map (λi=>i.zero.map Value.cells)=aj (aj cs):=by kernel_rfl
section
variable{P:Program}{n:Nat}{W:b9}{fr:Fr}{L:List cU}{Q:Exit->Act->World->Prop}{ops:Array Oper}{rest:List Oper}{d:Nat}{ty:TypeId}{pos:String}{after:Array Edge}
theorem fm.ex{t:TypeId}{cs:Array Value}[h:fm P t cs]:∃i z,P.info? t=aj i/\i.zero=aj z/\z.cells=cs:=by
 have h1:=h.zero
 cases e:P.info? t with
 |none=>rw[e]at h1;simp at h1
 |some i=>
  rw[e]at h1
  cases e2:i.zero with
  |none=>simp[e2]at h1
  |some z=>simp[e2]at h1;exact⟨i,z,rfl,e2,h1⟩
theorem bz{t:TypeId}{cs:Array Value}[fm P t cs](hn:dM d n=aD)(h:∀g,TL P n W ops Q rest ((d,aK (aj ⟨g,0,ak⟩))::fr) (L++[aR g cs t])):
 TL P n W ops Q (⟨aj d,.alloc t,ty,pos,after,ak⟩::rest) fr L:=by
 obtain⟨i,z,h1,h2,h3⟩:=fm.ex (P:=P) (t:=t);exact Vc h1 h2 h3 hn h
theorem fX{t e:TypeId}{x:Operand}{v:Value}{c bytes:Nat}{cs:Array Value}[ub:tA P t e c bytes](hx:ev fr x=aj v)(hcs:v.cells=cs)(hv:cs.size=c)(hs:xj c 16777216=aD)(hn:dM d n=aD)
 (h:∀g,TL P n W ops Q rest ((d,ap (aj ⟨g,0,ak⟩) 1 1)::fr) (L++[aR g cs e])):TL P n W ops Q (⟨aj d,.buildSlice t 1 #[(0,x)],ty,pos,after,ak⟩::rest) fr L:=by
 obtain⟨inf,z,ht,yq,hz,mi,JN,Nn,hsz⟩:=ub.el.ex;exact Zq ht yq hz mi Nn hx hcs hv hsz (mH hs) hn h
theorem Mem.Nq{w:World}(e:TypeId)(size:Nat)(h:Mem W L w):Mem W (L++[bD e size (ap ak 0 0) 0 []]) w:=
 h.append (Gr.refl w) (nO.one (World.ownsRow_nil _ _ _ _) λk hk=>by cases hk)
theorem jy{c:Code}(e:TypeId)(size:Nat)(h:T P n W c Q fr (L++[bD e size (ap ak 0 0) 0 []])):T P n W c Q fr L:=⟨λa w hr hm=>h.go a w hr (hm.Nq e size)⟩
theorem wg(e:TypeId)(size:Nat)(h:TL P n W ops Q rest fr (L++[bD e size (ap ak 0 0) 0 []])):TL P n W ops Q rest fr L:=⟨λa w hr hm=>h.go a w hr (hm.Nq e size)⟩
theorem Zr{L':List cU}(is:List Nat)(hn:is.Nodup)(hl:L'=is.filterMap λi=>L[i]?)(h:TL P n W ops Q rest fr L'):TL P n W ops Q rest fr L:=⟨λa w hr hm=>h.go a w hr (hm.pick is hn hl)⟩
theorem mK{t e:TypeId}{s x:Operand}{i q g size bytes m:Nat}{v:Value}{xs:List Value}{cs:Array Value}{T:TypeId}[ub:tA P t e size bytes](hi:L[i]?=aj (bD e size v m xs))(hq:L[q]?=aj (aR g cs T))(hs:ev fr s=aj v)(hx:ev fr x=aj (ap (aj ⟨g,0,ak⟩) 1 1))
 (hl:cs.size=size) (h1:cs.toList.all fG=aD) (r9:m+1<=140737488355328) (hb:(m+1)*bytes<=140737488355328) (hn:dM d n=aD)
 (h:∀v',TL P n W ops Q rest ((d,v')::fr) (L.set i (bD e size v' (m+1) (xs++cs.toList)))):
 TL P n W ops Q (⟨aj d,.call {callee:= .builtin .append,args:=#[s,x],argTypes:=#[t,t]},ty,pos,after,ak⟩::rest) fr L:=
 RO ub.el hi hs hx (λj u hj=>by rw[dr.fv,du];exact aH hq (by simpa using hj)) (by simpa using hl) (sk.1 h1) r9 hb hn h
theorem lO{t e:TypeId}{s x:Operand}{i q g bytes m:Nat}{v u:Value}{xs:List Value}{cs:Array Value}{T:TypeId}[ub:tA P t e 1 bytes](hi:L[i]?=aj (bD e 1 v m xs))(hq:L[q]?=aj (aR g cs T))(hs:ev fr s=aj v)(hx:ev fr x=aj (ap (aj ⟨g,0,ak⟩) 1 1))
 (hu:cs=#[u]) (h1:u.oneCell'=aD) (r9:m+1<=140737488355328) (hb:(m+1)*bytes<=140737488355328) (hn:dM d n=aD)
 (h:∀v',TL P n W ops Q rest ((d,v')::fr) (L.set i (bD e 1 v' (m+1) (xs++[u])))):
 TL P n W ops Q (⟨aj d,.call {callee:= .builtin .append,args:=#[s,x],argTypes:=#[t,t]},ty,pos,after,ak⟩::rest) fr L:=by
 subst hu;exact mK hi hq hs hx I (by simp[h1]) r9 hb hn h
theorem e_.front{p:Nat->Prop}{w:World}{L L':List cU}(h:e_ p w (L++L')):e_ p w L:=
  ⟨λi o hi=>h.all i o (by rw[fH (dv.1 hi).1];exact hi),
   λi j o o' rp hi hj=>h.apart i j o o' rp (by rw[fH (dv.1 hi).1];exact hi) (by rw[fH (dv.1 hj).1];exact hj)⟩
theorem Mem.front{w:World}{L L':List cU}(h:Mem W (L++L') w):Mem W L w:=⟨h.low,h.owns.front⟩
theorem J4{L':List cU}(h:TL P n W ops Q rest fr L):TL P n W ops Q rest fr (L++L'):=⟨λa w hr hm=>h.go a w hr hm.front⟩
theorem kh{t e:TypeId}{s x:Operand}{i bytes m d':Nat}{v u:Value}{xs:List Value}{ty':TypeId}{pos':String}{Nr:Array Edge}[ub:tA P t e 1 bytes](hi:L[i]?=aj (bD e 1 v m xs))(hx:ev fr x=aj u)(hu:u.cells=#[u])(h1:u.oneCell'=aD)(hn':dM d' n=aD)
 (hs:ev ((d',undef)::fr) s=aj v) (hne:∀z,s= .tmp z->fW d' z=aE) (r9:m+1<=140737488355328) (hb:(m+1)*bytes<=140737488355328) (hn:dM d n=aD)
 (h:∀z v',TL P n W ops Q rest ((d,v')::(d',z)::fr) (L.set i (bD e 1 v' (m+1) (xs++[u])))):
 TL P n W ops Q (⟨aj d',.buildSlice t 1 #[(0,x)],ty',pos',Nr,ak⟩::⟨aj d,.call {callee:= .builtin .append,args:=#[s,.tmp d'],argTypes:=#[t,t]},ty,pos,after,ak⟩::rest) fr L:=by
 have Zs:i<L.length:=(dv.1 hi).1;have xo:∀z,ev ((d',z)::fr) s=aj v:=λz=>by
  cases s with
  |tmp q=>have e:=hne q I;simp only[ev,look,e,cond_false]at hs⊢;exact hs
  |const q=>exact hs
  |global q=>exact hs
  |func q=>exact hs
 refine fX hx hu I I hn' λg=>?_;refine mK (i:=i) (q:=L.length) (by rw[fH Zs];exact hi) (M8) (xo _) (by simp[ev,look]) I (by simp[h1]) r9 hb hn λv'=>?_;rw[US _ _ Zs];exact J4 (h _ v')
theorem jH{t e:TypeId}{s x:Operand}{i c bytes m d':Nat}{v:Value}{cs:Array Value}{xs:List Value}{ty':TypeId}{pos':String}{Nr:Array Edge}[ub:tA P t e c bytes](hi:L[i]?=aj (bD e c v m xs))(hx:ev fr x=aj (.agg cs))(hc:cs.size=c)(T5:xj c 16777216=aD)(h1:cs.toList.all fG=aD)(hn':dM d' n=aD)
 (hs:ev ((d',undef)::fr) s=aj v) (hne:∀z,s= .tmp z->fW d' z=aE) (r9:m+1<=140737488355328) (hb:(m+1)*bytes<=140737488355328) (hn:dM d n=aD)
 (h:∀z v',TL P n W ops Q rest ((d,v')::(d',z)::fr) (L.set i (bD e c v' (m+1) (xs++cs.toList)))):
 TL P n W ops Q (⟨aj d',.buildSlice t 1 #[(0,x)],ty',pos',Nr,ak⟩::⟨aj d,.call {callee:= .builtin .append,args:=#[s,.tmp d'],argTypes:=#[t,t]},ty,pos,after,ak⟩::rest) fr L:=by
 have Zs:i<L.length:=(dv.1 hi).1;have xo:∀z,ev ((d',z)::fr) s=aj v:=λz=>by
  cases s with
  |tmp q=>have e:=hne q I;simp only[ev,look,e,cond_false]at hs⊢;exact hs
  |const q=>exact hs
  |global q=>exact hs
  |func q=>exact hs
 refine fX hx I hc T5 hn' λg=>?_;refine mK (i:=i) (q:=L.length) (by rw[fH Zs];exact hi) (M8) (xo _) (by simp[ev,look]) hc h1 r9 hb hn λv'=>?_;rw[US _ _ Zs];exact J4 (h _ v')
theorem ef{e':Exit}(e:TypeId)(size:Nat)(h:E n W e' Q fr (L++[bD e size (ap ak 0 0) 0 []])):E n W e' Q fr L:=⟨λa w hr hm=>h.go a w hr (hm.Nq e size)⟩
def dg(e:TypeId)(size m:Nat)(xs:List Value)(f:Value->Value):Spec Value:=⟨λ_=>True,f,λv=>[bD e size v m xs]⟩
end
def Vf(fr:Fr):Op->Option Value
 | .move x=>ev fr x
 | .assign x=>ev fr x
 | .extract t i=>match ev fr t with
  |some (.tuple vs)=>vs[i]?
  |_=>ak
 | .pick c x y=>match ev fr c with
  |some (.bool aD)=>ev fr x
  |some (.bool aE)=>ev fr y
  |_=>ak
 | .unOp .not _ x=>match ev fr x with
  |some (.bool aD)=>aj (.bool aE)
  |some (.bool aE)=>aj (.bool aD)
  |_=>ak
 |_=>ak
section
variable{P:Program}{n:Nat}{W:b9}{fr:Fr}{L:List cU}{dst:Option Tmp}{ty:TypeId}{pos:String}{after:Array Edge}{guard:Option (Nat×Bool)}
theorem qp{op:Op}{v:Value}(h:Vf fr op=aj v):RR P n W ⟨dst,op,ty,pos,after,guard⟩ fr L v:=by
 unfold Vf at h;split at h;exact bX h;exact cC h
 ·split at h
  ·rename_i e;exact Ni e h
  cases h
 ·split at h
  ·rename_i e;exact dH e h
  ·rename_i e;exact dI e h
  cases h
 ·split at h
  ·rename_i e
   simp only[dB]at h;subst h;exact iu e I
  ·rename_i e
   simp only[dB]at h;subst h;exact iu e I
  cases h
 cases h
end
section
variable{P:Program}{n:Nat}{W:b9}{fr:Fr}{L:List cU}{Q:Exit->Act->World->Prop}{ops:Array Oper}{rest:List Oper}{d:Nat}{o:Oper}{v:Value}
theorem qv(hg:o.guard=ak)(hr:RR P n W o fr L v)(hd:o.dst=aj d)(hn:dM d n=aD)(h:TL P n W ops Q rest ((d,v)::fr) L):TL P n W ops Q (o::rest) fr L:=aI hr hg hd hn h
theorem qg{q e:Nat}{b:Bool}(hg:o.guard=aj (q,b))(hj:(ops[q]?).bind (·.dst)=aj e)(hl:look fr e=aj (.bool b))(h:TL P n W ops Q ({o with guard:=ak}::rest) fr L):TL P n W ops Q (o::rest) fr L:=B8 hg hj hl h
theorem qs{j e:Nat}{b:Bool}{u:Value}(hg:o.guard=aj (j,b))(hj:(ops[j]?).bind (·.dst)=aj e)(hl:look fr e=aj u)(hu:Zl b u=aD)(hd:o.dst=aj d)(hn:dM d n=aD)(h:TL P n W ops Q rest ((d,undef)::fr) L):TL P n W ops Q (o::rest) fr L:=fM hg hj hl hu hd hn h
theorem qn{c:Operand}{x y:Code}(hc:ev fr c=aj (.bool aD))(h:T P n W x Q fr L):T P n W (.cond c x y) Q fr L:=dN hc h
theorem qo{c:Operand}{x y:Code}(hc:ev fr c=aj (.bool aE))(h:T P n W y Q fr L):T P n W (.cond c x y) Q fr L:=dO hc h
theorem qT{p:Prop}[inst:Decidable p](h:p):decide p=true:=decide_eq_true h
theorem qF{p:Prop}[inst:Decidable p](h:¬p):decide p=false:=decide_eq_false h
variable{dst:Option Tmp}{ty:TypeId}{pos:String}{after:Array Edge}{guard:Option (Nat×Bool)}
theorem sq{t e:TypeId}{x:Operand}{p:Option Addr}{m cap:Nat}(ht:P.underlying t=aj (.slice e))(hx:ev fr x=aj (ap p m cap)):RR P n W ⟨dst,.call {callee:= .builtin .len,args:=#[x],argTypes:=#[t]},ty,pos,after,guard⟩ fr L (av az m):=eR ht hx
theorem iQ{s:TypeId}{x:Operand}{f o b off r:Nat}(hf:Fld P s f o)(hx:ev fr x=aj (aK (aj ⟨b,off,ak⟩)))(hr:off+o=r):RR P n W ⟨dst,.fieldAddr s x f,ty,pos,after,guard⟩ fr L (aK (aj ⟨b,r,ak⟩)):=dj hf hx hr
end
section
variable{P:Program}{n:Nat}{W:b9}{fr:Fr}{L:List cU}{Q:Exit->Act->World->Prop}{ops:Array Oper}{rest:List Oper}{d:Nat}{o:Oper}{v:Value}{dst:Option Tmp}{ty:TypeId}{pos:String}{after:Array Edge}{guard:Option (Nat×Bool)}{t u:TypeId}{x y:Operand}{k:IntKind}{m m':Int}
theorem QV(hr:RR P n W o fr L v)(h:TL P n W ops Q rest ((d,v)::fr) L)(hg:o.guard=none:=by exact I)(hd:o.dst=aj d:=by exact I)(hn:dM d n=true:=by exact I):TL P n W ops Q (o::rest) fr L:=aI hr hg hd hn h
theorem QP{op:Op}(h:Vf fr op=aj v:=by exact I):RR P n W ⟨dst,op,ty,pos,after,guard⟩ fr L v:=qp h
theorem QS{l:List UInt8}(hx:ev fr x=aj (str l):=by exact I)(ht:P.underlying t=aj .string:=by exact bR.eq):RR P n W ⟨dst,.call {callee:= .builtin .len,args:=#[x],argTypes:=#[t]},ty,pos,after,guard⟩ fr L (av az l.length):=dD ht hx
theorem QL{e:TypeId}{p:Option Addr}{m cap:Nat}(hx:ev fr x=aj (ap p m cap):=by exact I)(ht:P.underlying t=aj (.slice e):=by exact bR.eq):RR P n W ⟨dst,.call {callee:= .builtin .len,args:=#[x],argTypes:=#[t]},ty,pos,after,guard⟩ fr L (av az m):=sq ht hx
theorem QA{s:TypeId}{f o b off r:Nat}(hx:ev fr x=aj (aK (aj ⟨b,off,ak⟩)):=by exact I)(hf:Fld P s f o:=by exact cI.iC)(hr:off+o=r:=by exact I):RR P n W ⟨dst,.fieldAddr s x f,ty,pos,after,guard⟩ fr L (aK (aj ⟨b,r,ak⟩)):=dj hf hx hr
theorem QlT(hx:ev fr x=aj (.int k m):=by exact I)(hy:ev fr y=aj (.int k m'):=by exact I)(h:m<m':=by omega):RR P n W ⟨dst,.binOp .lss t x y u,ty,pos,after,guard⟩ fr L (.bool aD):=aW hx hy (decide_eq_true h)
theorem QlF(hx:ev fr x=aj (.int k m):=by exact I)(hy:ev fr y=aj (.int k m'):=by exact I)(h:¬(m<m'):=by omega):RR P n W ⟨dst,.binOp .lss t x y u,ty,pos,after,guard⟩ fr L (.bool aE):=aW hx hy (decide_eq_false h)
theorem QmT(hx:ev fr x=aj (.int k m):=by exact I)(hy:ev fr y=aj (.int k m'):=by exact I)(h:m<=m':=by omega):RR P n W ⟨dst,.binOp .leq t x y u,ty,pos,after,guard⟩ fr L (.bool aD):=zX hx hy (decide_eq_true h)
theorem QmF(hx:ev fr x=aj (.int k m):=by exact I)(hy:ev fr y=aj (.int k m'):=by exact I)(h:¬(m<=m'):=by omega):RR P n W ⟨dst,.binOp .leq t x y u,ty,pos,after,guard⟩ fr L (.bool aE):=zX hx hy (decide_eq_false h)
theorem QgT(hx:ev fr x=aj (.int k m):=by exact I)(hy:ev fr y=aj (.int k m'):=by exact I)(h:m'<m:=by omega):RR P n W ⟨dst,.binOp .gtr t x y u,ty,pos,after,guard⟩ fr L (.bool aD):=bB hx hy (decide_eq_true h)
theorem QgF(hx:ev fr x=aj (.int k m):=by exact I)(hy:ev fr y=aj (.int k m'):=by exact I)(h:¬(m'<m):=by omega):RR P n W ⟨dst,.binOp .gtr t x y u,ty,pos,after,guard⟩ fr L (.bool aE):=bB hx hy (decide_eq_false h)
theorem QhT(hx:ev fr x=aj (.int k m):=by exact I)(hy:ev fr y=aj (.int k m'):=by exact I)(h:m'<=m:=by omega):RR P n W ⟨dst,.binOp .geq t x y u,ty,pos,after,guard⟩ fr L (.bool aD):=dQ hx hy (decide_eq_true h)
theorem QhF(hx:ev fr x=aj (.int k m):=by exact I)(hy:ev fr y=aj (.int k m'):=by exact I)(h:¬(m'<=m):=by omega):RR P n W ⟨dst,.binOp .geq t x y u,ty,pos,after,guard⟩ fr L (.bool aE):=dQ hx hy (decide_eq_false h)
theorem QeT(hx:ev fr x=aj (.int k m):=by exact I)(hy:ev fr y=aj (.int k m'):=by exact I)(h:m=m':=by omega):RR P n W ⟨dst,.binOp .eql t x y u,ty,pos,after,guard⟩ fr L (.bool aD):=aX hx hy (decide_eq_true h)
theorem QeF(hx:ev fr x=aj (.int k m):=by exact I)(hy:ev fr y=aj (.int k m'):=by exact I)(h:¬(m=m'):=by omega):RR P n W ⟨dst,.binOp .eql t x y u,ty,pos,after,guard⟩ fr L (.bool aE):=aX hx hy (decide_eq_false h)
theorem QnT(hx:ev fr x=aj (.int k m):=by exact I)(hy:ev fr y=aj (.int k m'):=by exact I)(h:m≠m':=by omega):RR P n W ⟨dst,.binOp .neq t x y u,ty,pos,after,guard⟩ fr L (.bool aD):=bm hx hy (decide_eq_true h)
theorem QnF(hx:ev fr x=aj (.int k m):=by exact I)(hy:ev fr y=aj (.int k m'):=by exact I)(h:¬(m≠m'):=by omega):RR P n W ⟨dst,.binOp .neq t x y u,ty,pos,after,guard⟩ fr L (.bool aE):=bm hx hy (decide_eq_false h)
theorem QaA{r:Int}(hx:ev fr x=aj (av az m):=by exact I)(hy:ev fr y=aj (av az m'):=by exact I)(h0: -9223372036854775808<=m+m':=by omega)(h1:m+m'<=9223372036854775807:=by omega)(hr:m+m'=r:=by exact I):RR P n W ⟨dst,.binOp .add t x y u,ty,pos,after,guard⟩ fr L (av az r):=bL hx hy h0 h1 hr
theorem QaS{r:Int}(hx:ev fr x=aj (av az m):=by exact I)(hy:ev fr y=aj (av az m'):=by exact I)(h0: -9223372036854775808<=m-m':=by omega)(h1:m-m'<=9223372036854775807:=by omega)(hr:m-m'=r:=by exact I):RR P n W ⟨dst,.binOp .sub t x y u,ty,pos,after,guard⟩ fr L (av az r):=df hx hy h0 h1 hr
theorem QaM{r:Int}(hx:ev fr x=aj (av az m):=by exact I)(hy:ev fr y=aj (av az m'):=by exact I)(h0: -9223372036854775808<=m*m':=by omega)(h1:m*m'<=9223372036854775807:=by omega)(hr:m*m'=r:=by exact I):RR P n W ⟨dst,.binOp .mul t x y u,ty,pos,after,guard⟩ fr L (av az r):=U9 hx hy h0 h1 hr
end
class Cd(p:Prop)(q:outParam Prop):Prop where
 go:q->p
theorem QZ{p q:Prop}[h:Cd p q](x:q):p:=h.go x
section
variable{P:Program}{n:Nat}{W:b9}{fr:Fr}{L:List cU}{Q:Exit->Act->World->Prop}{ops:Array Oper}{x y:Code}{id:Nat}{l:List Oper}{K:Act->World->Prop}
instance:Cd (TL P n W ops Q [] fr L) (E n W .normal Q fr L):=⟨cz⟩
instance:Cd (T P n W (x.seq y) Q fr L) (T P n W x (Exit.then (y.wp P Q) Q) fr L):=⟨bC⟩
instance:Cd (T P n W (.region id l.toArray aE) Q fr L) (TL P n W l.toArray Q l fr L):=⟨aM⟩
instance:Cd (T P n W .skip Q fr L) (E n W .normal Q fr L):=⟨c_⟩
instance:Cd (T P n W (.exit id) Q fr L) (E n W (.exit id) Q fr L):=⟨eQ⟩
instance:Cd (T P n W .ret Q fr L) (E n W .ret Q fr L):=⟨dx⟩
instance:Cd (T P n W (.block id x) Q fr L) (T P n W x (tM id Q) fr L):=⟨dm⟩
instance:Cd (E n W .normal (Exit.then (y.wp P Q) Q) fr L) (T P n W y Q fr L):=⟨cB⟩
instance:Cd (E n W (.exit id) (Exit.then K Q) fr L) (E n W (.exit id) Q fr L):=⟨eb⟩
instance:Cd (E n W .ret (Exit.then K Q) fr L) (E n W .ret Q fr L):=⟨bU⟩
instance:Cd (E n W .normal (tM id Q) fr L) (E n W .normal Q fr L):=⟨cO⟩
instance:Cd (E n W .ret (tM id Q) fr L) (E n W .ret Q fr L):=⟨cP⟩
end
section
variable{α β:Type}
theorem zA{a:α}{l m:List α}:a::l++m=a::(l++m):=rfl
theorem zB{l:List α}:[]++l=l:=rfl
theorem zC{l:List α}:l++[]=l:=eB l
theorem zD{f:α->Option β}{a:α}{l:List α}:tR f (a::l)=match f a with
 |none=>tR f l
 |some b=>b::tR f l:=List.filterMap_cons
theorem zE{f:α->Option β}:tR f []=[]:=rfl
theorem zF{a:α}{l:List α}{i:Nat}:(a::l)[i+1]?=l[i]?:=CH
theorem zG{a:α}{l:List α}:(a::l)[0]?=aj a:=rfl
theorem zH{a b:α}{l:List α}:(a::l).set 0 b=b::l:=rfl
theorem zI{a b:α}{l:List α}{i:Nat}:(a::l).set (i+1) b=a::l.set i b:=rfl
end
end cZ
namespace cZ
open Go.RowKit dr eH
section
variable{P:Program}{n:Nat}{W:b9}{fr:Fr}{L:List cU}{Q:Exit->Act->World->Prop}{ops:Array Oper}{rest:List Oper}{d:Nat}{dst:Option Tmp}{ty:TypeId}{pos:String}{after:Array Edge}{guard:Option (Nat×Bool)}
def su(fr:Fr):List (Nat×Operand)->Option (List (Nat×Value))
 |[]=>aj []
 |(i,x)::r=>match ev fr x,su fr r with|some v,aj l=>aj ((i,v)::l)|_,_=>ak
theorem sv{a:Act}(hr:nH n a fr):∀(l:List (Nat×Operand)) (vs:List (Nat×Value)),su fr l=aj vs->l.map (λ(i,x)=>(i,a.eval x))=vs
 |[],vs,h=>by simp only[su,dB]at h;subst h;rfl
 | (i,x)::r,vs,h=>by
  simp only[su]at h;split at h
  ·rename_i v l h1 h2
   simp only[dB]at h;subst h;simp[hr.ev h1,sv hr r l h2]
  cases h
theorem bP{t:TypeId}{parts:Array (Nat×Operand)}{ps:List (Nat×Value)}{cs:Array Value}(hp:su fr parts.toList=aj ps)(hrun:∀w,(dR t ps.toArray).run P w= .ok (.agg cs) w):RR P n W ⟨dst,.build t parts,ty,pos,after,guard⟩ fr L (.agg cs):= .mk λa w hr _=>by
 have e:(parts.map λ(i,x)=>(i,a.eval x))=ps.toArray:=by
  rw[<-sv hr _ _ hp,<-CA,xd]
 simp only[execOp,l5];rw[e,hrun w];rfl
theorem J5(c0:Nat->Option (Nat×Nat))(JO:∀i,c0 i=aj (i,1)):∀(vs:List Value) (k:Nat) (acc:Array Value),k+vs.length<=acc.size->(∀v∈vs,v.cells=#[v])->jP c0 acc ((vs.zipIdx k).map λ(v,i)=>(i,v))=aj (acc.toList.take k++vs++acc.toList.drop (k+vs.length)).toArray
 |[],k,acc,h,_=>by simp[jP]
 | v ::vs,k,acc,h,h1=>by
  simp only[dE]at h;have hv:=h1 v (by simp);rw[HI,gu];simp only[jP,JO,hv];rw[if_neg (by simp;omega)];have e:((#[v]:Array Value).zipIdx.foldl (λcs (x:Value×Nat)=>cs.setIfInBounds (k+x.2) x.1) acc)=acc.setIfInBounds k v:=by simp
  rw[e,J5 c0 JO vs (k+1) _ (by simp;omega) (λu hu=>h1 u (by simp[hu]))]
  congr 2
  have hA:(acc.toList.take k).length=k:=by simp;omega
  have hA1:(acc.toList.take k++[v]).length=k+1:=by rw[bT,hA];rfl
  have e2:acc.toList.set k v=(acc.toList.take k++[v])++acc.toList.drop (k+1):=by
   rw[CG,if_pos (by simp;omega)];simp
  simp only[Hx,dE];rw[e2,Nc hA1,<-qM,Nd hA1,qM];simp only[eZ,ku,fg];rw[show k+1+vs.length=k+(vs.length+1)by omega]
theorem Vg{t e:TypeId}{bytes:Nat}(ub:El P t e 1 bytes)(vs:List Value)(h1:∀v∈vs,v.cells=#[v])(h0:0<vs.length)(hm:vs.length<=16777216)(w:World):
 (tN t vs.length (vs.zipIdx.map λ(v,i)=>(i,v)).toArray).run P w= .ok (ap (aj ⟨w.heap.size,0,ak⟩) vs.length vs.length) (w.alloc (.cells vs.toArray e)):=by
 obtain⟨i,z,ht,hi,hz,hc,_,hzc,_⟩:=ub.ex;have t':=J5 (λi=>aj (i*1,1)) (by simp) vs 0 ((CB (vs.length*1)).map (z.cells[· %z.cells.size]!)) (by simp) h1
 simp only[tU,fg,du]at t';rw[je (by simp)]at t';simp only[eB]at t';have hne:¬(vs.length*1>2^24):=by omega
 have Ve:¬(vs.length*1=0):=by omega
 simp only[tN,l5,run_underlying ht,n',sizeOf,typeInfo,run_program,hi,mB,hc,zeroValue,hz,if_neg hne,if_neg Ve];simp only[t',newRow];simp
theorem P3{t e:TypeId}{bytes m:Nat}{parts:Array (Nat×Operand)}(vs:List Value)[ub:tA P t e 1 bytes](hp:su fr parts.toList=aj (vs.zipIdx.map λ(v,i)=>(i,v)))(hm:vs.length=m)(h0:dM 0 m=aD)(h1:∀v∈vs,v.cells=#[v])(hs:xj m 16777216=aD)(hn:dM d n=aD)
 (h:∀g,TL P n W ops Q rest ((d,ap (aj ⟨g,0,ak⟩) m m)::fr) (L++[aR g vs.toArray e])):TL P n W ops Q (⟨aj d,.buildSlice t m parts,ty,pos,after,ak⟩::rest) fr L:=by
 subst hm;refine Nl (λa w hr=>?_) hn h;have e:(parts.map λ(i,x)=>(i,a.eval x))=(vs.zipIdx.map λ(v,i)=>(i,v)).toArray:=by
  rw[<-sv hr _ _ hp,<-CA,xd]
 rw[e];exact Vg ub.el vs h1 (mH h0) (mH hs) w
theorem Mem.ad_{w:World}{i g m size:Nat}{cs:Array Value}{e:TypeId}(h:Mem W L w)(hi:L[i]?=aj (aR g cs e))(hc:cs.size=m*size)(hm:m<=140737488355328):Mem W (L.set i (bD e size (ap (aj ⟨g,0,ak⟩) m m) m cs.toList)) w:=
 h.BG hi ⟨rfl,rfl,rfl,bJ _,λ_ _ _=>rfl⟩ ⟨by simp[hc],.inr ⟨g,m,cs,rfl,bO _,h.get hi,bJ _,by unfold maxLen;omega,hc,by rw[gj (by simp[hc])]⟩⟩ λk hk=> .inl hk
theorem yr{i g m:Nat}{cs:Array Value}{e:TypeId}(size:Nat)(hi:L[i]?=aj (aR g cs e))(hc:cs.size=m*size)(hm:m<=140737488355328)(h:TL P n W ops Q rest fr (L.set i (bD e size (ap (aj ⟨g,0,ak⟩) m m) m cs.toList))):TL P n W ops Q rest fr L:=
 ⟨λa w hr tw=>h.go a w hr (tw.ad_ hi hc hm)⟩
theorem aZ{t:TypeId}{p x:Operand}{i g c:Nat}{cs cs':Array Value}{T:TypeId}{agg:Bool}[hT:aL P t agg c](hi:L[i]?=aj (aR g cs T))(hp:ev fr p=aj (aK (aj ⟨g,0,ak⟩)))(hx:ev fr x=aj (.agg cs'))(hv:cs'.size=c)(h1:cs'.toList.all fG=aD)
 (hc:cs.size=c) (h:TL P n W ops Q rest fr (L.set i (aR g cs' T))):
 TL P n W ops Q (⟨ak,.store t p x,ty,pos,after,ak⟩::rest) fr L:=
 uc hT.ty hi hp hx hv h1 J (by
  show cs'=(cs.toList.take 0++cs'.toList++cs.toList.drop (0+c)).toArray
  rw[je (by simp[hc])];simp) h
theorem cD{t:TypeId}{p x:Operand}{i g off:Nat}{cs:Array Value}{T:TypeId}{agg:Bool}{v:Value}[hT:aL P t agg 1](hi:L[i]?=aj (aR g cs T))(hp:ev fr p=aj (aK (aj ⟨g,off,ak⟩)))(hx:ev fr x=aj v)(hv:v.cells=#[v])(h1:v.oneCell'=aD)
 (hc:dM off cs.size=aD) (h:TL P n W ops Q rest fr (L.set i (aR g (cs.setIfInBounds off v) T))):
 TL P n W ops Q (⟨ak,.store t p x,ty,pos,after,ak⟩::rest) fr L:=by
 have hlt:off<cs.size:=mH hc;refine uc hT.ty hi hp hx (by rw[hv];rfl) (by rw[hv];simp[h1]) J ?_ h;rw[hv];apply qJ;simp only[Hx];rw[CG,if_pos (by simpa using hlt)];simp
theorem CT{t u:TypeId}{x y:Operand}{xs ys:Array Value}{b:Bool}(hx:ev fr x=aj (.agg xs))(hy:ev fr y=aj (.agg ys))(hg:P.eqGuardType P.depth t=aE)(h:∀w,(oZ 10000 t (.agg xs) (.agg ys)).run P w= .ok b w):RR P n W ⟨dst,.binOp .eql t x y u,ty,pos,after,guard⟩ fr L (.bool b):= .mk λa w hr _=>by
 simp only[execOp,hr.ev hx,hr.ev hy,l5,run_eqGuard_agg w .eql t x y xs ys hg,n',run_eql_struct,h w];rfl
theorem CU{t u:TypeId}{x y:Operand}{xs ys:Array Value}{b c:Bool}(hx:ev fr x=aj (.agg xs))(hy:ev fr y=aj (.agg ys))(hg:P.eqGuardType P.depth t=aE)(h:∀w,(oZ 10000 t (.agg xs) (.agg ys)).run P w= .ok b w)(hc:(!b)=c):RR P n W ⟨dst,.binOp .neq t x y u,ty,pos,after,guard⟩ fr L (.bool c):= .mk λa w hr _=>by
 subst hc;simp only[execOp,hr.ev hx,hr.ev hy,l5,run_eqGuard_agg w .neq t x y xs ys hg,n',run_neq_struct,h w];rfl
theorem e8{fn:Func}{R:Ending->World->Prop}{t u:Tmp}{T:TypeId}{i g c:Nat}{cs:Array Value}{T':TypeId}{z:Value}[hT:aL P T aD c](na:fn.results=#[.cell t T,.tmp u])(hp:look fr t=aj (aK (aj ⟨g,0,ak⟩)))(hi:L[i]?=aj (aR g cs T'))(hc:cs.size=c)(hz:look fr u=aj z)
 (h:∀w,Mem W L w->R (.returned (.tuple #[.agg cs,z])) w):E n W .ret (bodyPost P fn R) fr L:=
 CO λa w hr tw=>⟨_,by
  have CV:=run_loadCells_list (P:=P) w ⟨g,0,ak⟩ cs.toList λj v hj=>by rw[fv,du];exact aH hi (by simpa using hj) w tw
  have hl:(loadCells ⟨g,0,ak⟩ c).run P w= .ok cs w:=by rw[<-hc];simpa using CV
  have hv:(loadVar T ⟨g,0,ak⟩).run P w= .ok (.agg cs) w:=by simp[loadVar,hT.ty.agg,hT.ty.size,hl]
  simp[results,na,xc,hr.get t _ hp,hr.get u z hz,asAddr,hv],h w tw⟩
theorem fN{fn:Func}{R:Ending->World->Prop}{t u s:Tmp}{T:TypeId}{i g c:Nat}{cs:Array Value}{T':TypeId}{z y:Value}[hT:aL P T aD c](na:fn.results=#[.cell t T,.tmp u,.tmp s])(hp:look fr t=aj (aK (aj ⟨g,0,ak⟩)))(hi:L[i]?=aj (aR g cs T'))(hc:cs.size=c)(hz:look fr u=aj z)(hy:look fr s=aj y)
 (h:∀w,Mem W L w->R (.returned (.tuple #[.agg cs,z,y])) w):E n W .ret (bodyPost P fn R) fr L:=
 CO λa w hr tw=>⟨_,by
  have CV:=run_loadCells_list (P:=P) w ⟨g,0,ak⟩ cs.toList λj v hj=>by rw[fv,du];exact aH hi (by simpa using hj) w tw
  have hl:(loadCells ⟨g,0,ak⟩ c).run P w= .ok cs w:=by rw[<-hc];simpa using CV
  have hv:(loadVar T ⟨g,0,ak⟩).run P w= .ok (.agg cs) w:=by simp[loadVar,hT.ty.agg,hT.ty.size,hl]
  simp[results,na,xc,hr.get t _ hp,hr.get u z hz,hr.get s y hy,asAddr,hv],h w tw⟩
theorem h_{fn:Func}{R:Ending->World->Prop}{t:Tmp}{T:TypeId}{i g c:Nat}{cs:Array Value}{T':TypeId}[hT:aL P T aD c](na:fn.results=#[.cell t T])(hp:look fr t=aj (aK (aj ⟨g,0,ak⟩)))(hi:L[i]?=aj (aR g cs T'))(hc:cs.size=c)
 (h:∀w,Mem W L w->R (.returned (.agg cs)) w):E n W .ret (bodyPost P fn R) fr L:=
 CO λa w hr tw=>⟨_,by
  have CV:=run_loadCells_list (P:=P) w ⟨g,0,ak⟩ cs.toList λj v hj=>by rw[fv,du];exact aH hi (by simpa using hj) w tw
  have hl:(loadCells ⟨g,0,ak⟩ c).run P w= .ok cs w:=by rw[<-hc];simpa using CV
  have hv:(loadVar T ⟨g,0,ak⟩).run P w= .ok (.agg cs) w:=by simp[loadVar,hT.ty.agg,hT.ty.size,hl]
  simp[results,na,xc,hr.get t _ hp,asAddr,hv],h w tw⟩
end
end cZ
namespace cZ
open Go.RowKit dr eH
section
variable{P:Program}{ops:Array Oper}{md:CF}{Q:Exit->Act->World->Prop}{U:World->Prop}
theorem jT{K:Act->World->Prop}{i:Nat}{o:Oper}{a:Act}{w:World}(hi:ops[i]?=aj o)(h:wpList P ops (Exit.then K Q) [o] a w):wpOp P ops Q i K a w:=by
 have key:∀r,o.upon P a (wpList P ops (Exit.then K Q) []) (Exit.then K Q) r->o.upon P a K Q r:=λr hr=>by
  cases r with
  | ok x w'=>
   cases x<;>first
    |exact hr
    |(refine Ut hr λe B7 he=>?_;cases e<;>exact he)
    |exact UI hr λv B7 he=>he
  |halt x w'=>cases x<;>exact hr
 unfold wpList at h;unfold wpOp;rw[hi];simp only;split
 ·rename_i hw
  rw[if_pos hw]at h;rcases h with h|h
  exact .inl (key _ h);exact .inr h
 rename_i hw
 rw[if_neg hw]at h;exact h
def sw(P:Program)(md:CF)(ops:Array Oper)(Q:Exit->Act->World->Prop)(U:World->Prop):Nat->Array Bool->Act->(World->Prop)->Prop
 |0,listed,a,S=>nl md ops listed=[]/\∀w,S w->Q .normal a w
 | f+1,listed,a,S=>(nl md ops listed=[]->∀w,S w->Q .normal a w)/\
  ∀i∈nl md ops listed,∀w,S w->wpOp P ops Q i (λa' w'=>∃S',oe S'/\(∀x,S' x->U x)/\S' w'/\sw P md ops Q U f (listed.setIfInBounds i aD) a' S') a w
theorem xp:∀(f:Nat) (listed:Array Bool) (a:Act) (S:World->Prop) (w:World),S w->sw P md ops Q U f listed a S->wpAny P md ops Q f listed a w
 |0,_,_,_,w,hw,h=>⟨h.1,h.2 w hw⟩
 |f+1,_,_,_,w,hw,h=>⟨λh0=>h.1 h0 w hw,λi hi=>wpOp_mono (λa' w' ⟨S',_,_,A4,h'⟩=>xp f _ a' S' w' A4 h') (h.2 i hi w hw)⟩
theorem yt{i:Nat}{oi:Oper}{v:Value}(hi:ops[i]?=aj oi)(qP:∀(j:Nat) (o:Oper) cs b,ops[j]?=aj o->o.op≠ .select cs b)
 (hQ:∀c a w,Q (.panic c) (a.put oi.dst v) w->Q (.panic c) a w):
 ∀ (f:Nat) (listed:Array Bool) (a:Act) (S:World->Prop),oe S->(∀x,S x->U x)->
  (∀j oj,ops[j]?=aj oj->j≠i->listed.getD j aD=aE->(∀e∈oj.after,M5 md e=aD->e.on≠i)->oi.apart ops oj=aD)->
  i∈nl md ops listed->kT P ops U oi v a->
  sw P md ops Q U f (listed.setIfInBounds i aD) (a.put oi.dst v) S->sw P md ops Q U (f+1) listed a S:=by
 intro f
 induction f with
 | zero=>
  intro listed a S lz Vh _ hr hy H;refine⟨λh=>(by rw[h]at hr;cases hr),λj hj w hw=>?_⟩
  by_cases Y9:j=i
  subst Y9;exact(hy.mono Vh).wpOp hi lz hw λw' A4=>⟨S,lz,Vh,A4,H⟩;have:=ready_mono (md:=md) hj Y9;rw[H.1]at this;cases this
 | succ f ih=>
  intro listed a S lz Vh Vi hr hy H;have Fa:=(mem_ready.1 hr).1;refine⟨λh=>(by rw[h]at hr;cases hr),λj hj w hw=>?_⟩
  by_cases Y9:j=i
  subst Y9;exact(hy.mono Vh).wpOp hi lz hw λw' A4=>⟨S,lz,Vh,A4,H⟩;have h1:=H.2 j (ready_mono hj Y9) w hw;obtain⟨ad',oj,Y_,qQ⟩:=mem_ready.1 hj;have Zt:∀e∈oj.after,M5 md e=aD->e.on≠i:=λe he hb P4=>by
   have h1:=qQ e he hb;rw[P4,getD_both Fa]at h1
   cases h1
  have h2:=RI Y_ (Vi j oj Y_ Y9 ad' Zt) (λcs b=>qP i oi cs b hi) (λcs b=>qP j oj cs b Y_) hQ hy h1;have acy:∀k ok,ops[k]?=aj ok->k≠i->(listed.setIfInBounds j aD).getD k aD=aE->
   (∀e∈ok.after,M5 md e=aD->e.on≠i)->oi.apart ops ok=true:=λk ok hk hki Fa hno=>by
   refine Vi k ok hk hki ?_ hno
   by_cases hjk:j=k
   ·subst hjk;exact ad'
   ·rw[getD_set_ne aD hjk]at Fa;exact Fa
  refine wpOp_mono (λa' w' h3=>?_) h2;obtain⟨h3,S',rq,lP,A4,h4⟩:=h3;refine⟨S',rq,lP,A4,ih (listed.setIfInBounds j aD) a' S' rq lP acy (ready_mono hr (zV Y9)) h3 ?_⟩;rw[Array.setIfInBounds_comm _ _ Y9];exact h4
end
section
variable{P:Program}{n:Nat}{W:b9}{Q:Exit->Act->World->Prop}{fr:Fr}{L L0:List cU}{ops:Array Oper}{ks:List Bool}{o:Oper}{rest:List Oper}{v:Value}{d:Nat}
theorem Vj{L':List cU}(is:List Nat)(hn:is.Nodup)(hl:L'=is.filterMap λi=>L[i]?):∀w,Mem W L w->Mem W L' w:=λ_ h=>h.pick is hn hl
theorem wh:∀w,Mem W L w->Mem W [] w:=λ_ h=>⟨h.low,e_.nil _⟩
end
end cZ
namespace cZ
open Go.RowKit dr eH
inductive Ord where
 |done
 |calm (i:Nat) (t:Ord)
 |one (i:Nat) (t:Ord)
 |two (i:Nat) (t:Ord) (j:Nat) (u:Ord)
 |three (i:Nat) (t:Ord) (j:Nat) (u:Ord) (k:Nat) (v:Ord)
def Ord.size:Ord->Nat
 | .done=>0
 | .calm _ t=>t.size+1
 | .one _ t=>t.size+1
 | .two _ t _ _=>t.size+1
 | .three _ t _ _ _ _=>t.size+1
section
variable{P:Program}{ops:Array Oper}{md:CF}{Q:Exit->Act->World->Prop}{U:World->Prop}
def Vk(P:Program)(ops:Array Oper)(Q:Exit->Act->World->Prop)(U:World->Prop):Ord->Act->(World->Prop)->Prop
 | .calm i t,a,S=>∃o v,ops[i]?=aj o/\(if n_ o (yielded ops a.tmps)then ∀w,U w->o_ P o a w v else v=undef)/\Vk P ops Q U t (a.put o.dst v) S
 | .one i t,a,S=>∃o,ops[i]?=aj o/\∀w,S w->wpList P ops (Exit.then (λa' w'=>∃S',oe S'/\(∀x,S' x->U x)/\S' w'/\Vk P ops Q U t a' S') Q) [o] a w
 | .two i t j u,a,S=>(∃o,ops[i]?=aj o/\∀w,S w->wpList P ops (Exit.then (λa' w'=>∃S',oe S'/\(∀x,S' x->U x)/\S' w'/\Vk P ops Q U t a' S') Q) [o] a w)/\
  (∃o,ops[j]?=aj o/\∀w,S w->wpList P ops (Exit.then (λa' w'=>∃S',oe S'/\(∀x,S' x->U x)/\S' w'/\Vk P ops Q U u a' S') Q) [o] a w)
 | .three i t j u k v,a,S=>(∃o,ops[i]?=aj o/\∀w,S w->wpList P ops (Exit.then (λa' w'=>∃S',oe S'/\(∀x,S' x->U x)/\S' w'/\Vk P ops Q U t a' S') Q) [o] a w)/\
  (∃o,ops[j]?=aj o/\∀w,S w->wpList P ops (Exit.then (λa' w'=>∃S',oe S'/\(∀x,S' x->U x)/\S' w'/\Vk P ops Q U u a' S') Q) [o] a w)/\
  (∃o,ops[k]?=aj o/\∀w,S w->wpList P ops (Exit.then (λa' w'=>∃S',oe S'/\(∀x,S' x->U x)/\S' w'/\Vk P ops Q U v a' S') Q) [o] a w)
 | .done,a,S=>∀w,S w->Q .normal a w
def l9(md:CF)(ops:Array Oper):Ord->Array Bool->Bool
 | .calm i t,listed=>(nl md ops listed).contains i&&UH md ops listed i&&l9 md ops t (listed.setIfInBounds i aD)
 | .one i t,listed=>decide (nl md ops listed=[i])&&l9 md ops t (listed.setIfInBounds i aD)
 | .two i t j u,listed=>decide (nl md ops listed=[i,j])&&fW t.size u.size&&l9 md ops t (listed.setIfInBounds i aD)&&l9 md ops u (listed.setIfInBounds j aD)
 | .three i t j u k v,listed=>decide (nl md ops listed=[i,j,k])&&fW t.size u.size&&fW t.size v.size&&l9 md ops t (listed.setIfInBounds i aD)&&l9 md ops u (listed.setIfInBounds j aD)&&l9 md ops v (listed.setIfInBounds k aD)
 | .done,listed=>decide (nl md ops listed=[])
theorem jU(qP:HF ops=aD)(hQ:∀c a d v w,Q (.panic c) (xe a d v) w->Q (.panic c) a w):
 ∀(t:Ord) (listed:Array Bool) (a:Act) (S:World->Prop),oe S->(∀x,S x->U x)->l9 md ops t listed=aD->
 Vk P ops Q U t a S->sw P md ops Q U t.size listed a S
 | .done,listed,a,S,_,_,ho,h=>⟨by simpa[l9]using ho,h⟩
 | .calm i t,listed,a,S,lz,Vh,ho,h=>by
  simp only[l9,fU]at ho;obtain⟨⟨hr,hf⟩,J6⟩:=ho;have Ns:i∈nl md ops listed:=by simpa using hr
  obtain⟨o,v,h0,hy,hK⟩:=h;have hy':kT P ops U o v a:=by
   by_cases hw:n_ o (yielded ops a.tmps)=aD
   rw[if_pos hw]at hy;exact .inl ⟨hw,hy⟩;rw[if_neg hw]at hy;exact .inr ⟨by simpa using hw,hy⟩
  exact yt h0 (UF qP) (λc a w=>hQ c a o.dst v w) t.size listed a S lz Vh (UG h0 hf) Ns hy'
   (jU qP hQ t _ _ S lz Vh J6 hK)
 | .one i t,listed,a,S,lz,Vh,ho,h=>by
  simp only[l9,fU,decide_eq_true_eq]at ho;obtain⟨hr,J6⟩:=ho;obtain⟨o,h0,h⟩:=h;refine⟨λh'=>(by rw[hr]at h';cases h'),λj hj w hw=>?_⟩;obtain rfl:j=i:=by rw[hr]at hj;simpa using hj
  refine wpOp_mono (λa' w' ⟨S',rq,ud,A4,hK⟩=>⟨S',rq,ud,A4,?_⟩) (jT h0 (h w hw));exact jU qP hQ t _ _ S' rq ud J6 hK
 | .two i t j u,listed,a,S,lz,Vh,ho,h=>by
  simp only[l9,fU,decide_eq_true_eq]at ho;obtain⟨⟨⟨hr,hs⟩,mL⟩,B9⟩:=ho;obtain⟨⟨o,h0,h⟩,⟨o2,h02,h2⟩⟩:=h;have hs:=kP hs;refine⟨λh'=>(by rw[hr]at h';cases h'),λq hq w hw=>?_⟩;rw[hr]at hq;simp only[ez,iD,or_false]at hq;rcases hq with rfl|rfl
  ·refine wpOp_mono (λa' w' ⟨S',rq,ud,A4,hK⟩=>⟨S',rq,ud,A4,?_⟩) (jT h0 (h w hw))
   exact jU qP hQ t _ _ S' rq ud mL hK
  refine wpOp_mono (λa' w' ⟨S',rq,ud,A4,hK⟩=>⟨S',rq,ud,A4,?_⟩) (jT h02 (h2 w hw));rw[hs];exact jU qP hQ u _ _ S' rq ud B9 hK
 | .three i t j u k v,listed,a,S,lz,Vh,ho,h=>by
  simp only[l9,fU,decide_eq_true_eq]at ho;obtain⟨⟨⟨⟨⟨hr,hs⟩,hs3⟩,mL⟩,B9⟩,Zu⟩:=ho;obtain⟨⟨o,h0,h⟩,⟨o2,h02,h2⟩,⟨o3,h03,h3⟩⟩:=h;have hs:=kP hs;have hs3:=kP hs3;refine⟨λh'=>(by rw[hr]at h';cases h'),λq hq w hw=>?_⟩;rw[hr]at hq;simp only[ez,iD,or_false]at hq;rcases hq with rfl|rfl|rfl
  ·refine wpOp_mono (λa' w' ⟨S',rq,ud,A4,hK⟩=>⟨S',rq,ud,A4,?_⟩) (jT h0 (h w hw))
   exact jU qP hQ t _ _ S' rq ud mL hK
  ·refine wpOp_mono (λa' w' ⟨S',rq,ud,A4,hK⟩=>⟨S',rq,ud,A4,?_⟩) (jT h02 (h2 w hw))
   rw[hs];exact jU qP hQ u _ _ S' rq ud B9 hK
  refine wpOp_mono (λa' w' ⟨S',rq,ud,A4,hK⟩=>⟨S',rq,ud,A4,?_⟩) (jT h03 (h3 w hw));rw[hs3];exact jU qP hQ v _ _ S' rq ud Zu hK
end
structure TW(P:Program)(n:Nat)(W:b9)(ops:Array Oper)(Q:Exit->Act->World->Prop)(L0:List cU)(t:Ord)(fr:Fr)(L:List cU):Prop where
 go:∀a,nH n a fr->Vk P ops Q (Mem W L0) t a (Mem W L)
section
variable{P:Program}{n:Nat}{W:b9}{Q:Exit->Act->World->Prop}{fr:Fr}{L L0:List cU}{ops:Array Oper}{o:Oper}{t u:Ord}{i j:Nat}{v:Value}{d:Nat}
def acz(l:List Oper)(t:Ord):Bool:=fW t.size l.length&&HF l.toArray&&l9 .any l.toArray t (Hy l.toArray.size aE)
theorem aea{id:Nat}{l:List Oper}(L0:List cU)(t:Ord)(lP:∀w,Mem W L w->Mem W L0 w)(hm:P.follows .mixedOrders=aD)(hB:acz l t=aD)
 (hQ:∀c a d v w,Q (.panic c) (xe a d v) w->Q (.panic c) a w)
 (h:TW P n W l.toArray Q L0 t fr L):T P n W (.region id l.toArray aD) Q fr L:=⟨λa w hr tw=>by
 simp only[acz,fU]at hB;obtain⟨⟨h1,h2⟩,h3⟩:=hB;have hlen:=kP h1;refine wp_region_any hm ?_;have hsz:l.toArray.size=t.size:=by rw[hlen];simp
 have:=xp (U:=Mem W L0) t.size (Hy l.toArray.size aE) a (Mem W L) w.drew tw.drew
  (jU h2 hQ t _ a (Mem W L) (iP W L) lP h3 (h.go a hr))
 rw[<-hsz]at this;exact this⟩
theorem dG(ho:ops[i]?=aj o)(hr:RR P n W o fr L0 v)(hg:o.guard=ak)(hd:o.dst=aj d)(hn:dM d n=aD)(h:TW P n W ops Q L0 t ((d,v)::fr) L):TW P n W ops Q L0 (.calm i t) fr L:=⟨λa gC=>
 ⟨o,v,ho,by rw[if_pos (nP hg)];intro w hw;unfold o_;rw[hr.go a w gC hw];exact⟨rfl,Gr.refl _⟩,by rw[hd];exact h.go _ (gC.put hn v)⟩⟩
theorem fe{q e:Nat}{b:Bool}(ho:ops[i]?=aj o)(hr:RR P n W o fr L0 v)(hg:o.guard=aj (q,b))(hj:(ops[q]?).bind (·.dst)=aj e)(hl:look fr e=aj (.bool b))(hd:o.dst=aj d)(hn:dM d n=aD)(h:TW P n W ops Q L0 t ((d,v)::fr) L):TW P n W ops Q L0 (.calm i t) fr L:=⟨λa gC=>
 ⟨o,v,ho,by rw[if_pos (ns gC hg hj hl)];intro w hw;unfold o_;rw[hr.go a w gC hw];exact⟨rfl,Gr.refl _⟩,by rw[hd];exact h.go _ (gC.put hn v)⟩⟩
theorem qq{q e:Nat}{b:Bool}{x:Value}(ho:ops[i]?=aj o)(hg:o.guard=aj (q,b))(hj:(ops[q]?).bind (·.dst)=aj e)(hl:look fr e=aj x)(hu:Zl b x=aD)(hd:o.dst=aj d)(hn:dM d n=aD)(h:TW P n W ops Q L0 t ((d,undef)::fr) L):TW P n W ops Q L0 (.calm i t) fr L:=⟨λa gC=>
 ⟨o,undef,ho,by rw[FW gC hg hj hl hu];rfl,by rw[hd];exact h.go _ (gC.put hn undef)⟩⟩
theorem oF{f:FuncId}{args:Array Value}(ho:ops[i]?=aj o)(he:∀a w,nH n a fr->(execOp a.eval o).run P w= .ok (.enter f args) w)(hc:∀w,Mem W L0 w->Calls P f args w (cY (ret v) w))(hg:o.guard=ak)(hd:o.dst=aj d)(hn:dM d n=aD)
 (h:TW P n W ops Q L0 t ((d,v)::fr) L):TW P n W ops Q L0 (.calm i t) fr L:=⟨λa gC=>
 ⟨o,v,ho,by rw[if_pos (nP hg)];intro w hw;unfold o_;rw[he a w gC];exact⟨Gr.refl _,(hc w hw).mono λ_ _ h=>CN h⟩,by rw[hd];exact h.go _ (gC.put hn v)⟩⟩
theorem J7{f:FuncId}{args:Array Value}{q e:Nat}{b:Bool}(ho:ops[i]?=aj o)(he:∀a w,nH n a fr->(execOp a.eval o).run P w= .ok (.enter f args) w)(hc:∀w,Mem W L0 w->Calls P f args w (cY (ret v) w))(hg:o.guard=aj (q,b))(hj:(ops[q]?).bind (·.dst)=aj e)(hl:look fr e=aj (.bool b))(hd:o.dst=aj d)(hn:dM d n=aD)
 (h:TW P n W ops Q L0 t ((d,v)::fr) L):TW P n W ops Q L0 (.calm i t) fr L:=⟨λa gC=>
 ⟨o,v,ho,by rw[if_pos (ns gC hg hj hl)];intro w hw;unfold o_;rw[he a w gC];exact⟨Gr.refl _,(hc w hw).mono λ_ _ h=>CN h⟩,by rw[hd];exact h.go _ (gC.put hn v)⟩⟩
abbrev after(P:Program)(W:b9)(ops:Array Oper)(Q:Exit->Act->World->Prop)(L0:List cU)(t:Ord):Exit->Act->World->Prop:=Exit.then (λa' w'=>∃S',oe S'/\(∀x,S' x->Mem W L0 x)/\S' w'/\Vk P ops Q (Mem W L0) t a' S') Q
theorem aO(ho:ops[i]?=aj o)(h:TL P n W ops (after P W ops Q L0 t) [o] fr L):TW P n W ops Q L0 (.one i t) fr L:=⟨λa gC=>⟨o,ho,λw hw=>h.go a w gC hw⟩⟩
theorem e9{o2:Oper}(ho:ops[i]?=aj o)(B9:ops[j]?=aj o2)(h:TL P n W ops (after P W ops Q L0 t) [o] fr L)(h2:TL P n W ops (after P W ops Q L0 u) [o2] fr L):TW P n W ops Q L0 (.two i t j u) fr L:=
 ⟨λa gC=>⟨⟨o,ho,λw hw=>h.go a w gC hw⟩,⟨o2,B9,λw hw=>h2.go a w gC hw⟩⟩⟩
theorem yu{o2 o3:Oper}{k:Nat}{u2:Ord}(ho:ops[i]?=aj o)(B9:ops[j]?=aj o2)(Zu:ops[k]?=aj o3)(h:TL P n W ops (after P W ops Q L0 t) [o] fr L)(h2:TL P n W ops (after P W ops Q L0 u) [o2] fr L)(h3:TL P n W ops (after P W ops Q L0 u2) [o3] fr L):TW P n W ops Q L0 (.three i t j u k u2) fr L:=
 ⟨λa gC=>⟨⟨o,ho,λw hw=>h.go a w gC hw⟩,⟨o2,B9,λw hw=>h2.go a w gC hw⟩,⟨o3,Zu,λw hw=>h3.go a w gC hw⟩⟩⟩
theorem aP{L':List cU}{E4:Fr}(lP:∀w,Mem W L' w->Mem W L0 w)(h:TW P n W ops Q L0 t E4 L'):TL P n W ops (after P W ops Q L0 t) [] E4 L':=
 cz ⟨λa _ hr hm=>⟨Mem W L',iP _ _,lP,hm,h.go a hr⟩⟩
theorem jV(h:E n W .normal Q fr L):TW P n W ops Q L0 .done fr L:=⟨λa hr w hw=>h.go a w hr hw⟩
theorem l_{x y:Code}{ι:Type}(ah:ι->Prop)(F:ι->Fr)(M:ι->List cU)
 (hx:T P n W x (Exit.then (Mid n W ah F M) Q) fr L) (hy:∀i,ah i->T P n W y Q (F i) (M i)):T P n W x (Exit.then (y.wp P Q) Q) fr L:= .mk λa w hr hm=>
 wp_mono (hx.go a w hr hm) λe a w h=>by
  cases e with
  |normal=>obtain⟨i,h1,h2,h3⟩:=h;exact(hy i h1).go a w h2 h3
  |_=>exact h
structure TN(P:Program)(n:Nat)(W:b9)(ops:Array Oper)(Q:Exit->Act->World->Prop)(L0:List cU)(o:Oper)(t:Ord)(fr:Fr)(L:List cU):Prop where
 go:∀a,nH n a fr->∃v,(∀w,Mem W L0 w->o_ P o a w v)/\Vk P ops Q (Mem W L0) t (a.put o.dst v) (Mem W L)
theorem nQ(ho:ops[i]?=aj o)(hg:o.guard=ak)(h:TN P n W ops Q L0 o t fr L):TW P n W ops Q L0 (.calm i t) fr L:=⟨λa gC=>by
 obtain⟨v,h1,h2⟩:=h.go a gC;exact⟨o,v,ho,by rw[if_pos (nP hg)];exact h1,h2⟩⟩
theorem qt{q e:Nat}{b:Bool}(ho:ops[i]?=aj o)(hg:o.guard=aj (q,b))(hj:(ops[q]?).bind (·.dst)=aj e)(hl:look fr e=aj (.bool b))(h:TN P n W ops Q L0 o t fr L):TW P n W ops Q L0 (.calm i t) fr L:=⟨λa gC=>by
 obtain⟨v,h1,h2⟩:=h.go a gC;exact⟨o,v,ho,by rw[if_pos (ns gC hg hj hl)];exact h1,h2⟩⟩
theorem dy(hr:RR P n W o fr L0 v)(hd:o.dst=aj d)(hn:dM d n=aD)(h:TW P n W ops Q L0 t ((d,v)::fr) L):TN P n W ops Q L0 o t fr L:=⟨λa gC=>
 ⟨v,λw hw=>by unfold o_;rw[hr.go a w gC hw];exact⟨rfl,Gr.refl _⟩,by rw[hd];exact h.go _ (gC.put hn v)⟩⟩
theorem QW(hr:RR P n W o fr L0 v)(h:TW P n W ops Q L0 t ((d,v)::fr) L)(hd:o.dst=aj d:=by exact I)(hn:dM d n=true:=by exact I):TN P n W ops Q L0 o t fr L:=dy hr hd hn h
end
end cZ
namespace cZ
open Go.RowKit dr eH
section
variable{P:Program}{n:Nat}{W:b9}{fr:Fr}{L L0:List cU}{Q:Exit->Act->World->Prop}{ops:Array Oper}{rest:List Oper}{d i:Nat}{o:Oper}{v:Value}{t:Ord}
inductive Gd(ops:Array Oper)(fr:Fr)(o:Oper):Prop
 |no (h:o.guard=ak)
 |yes (q e:Nat) (b:Bool) (hg:o.guard=aj (q,b)) (hj:(ops[q]?).bind (·.dst)=aj e) (hl:look fr e=aj (.bool b))
theorem RR.bare(h:RR P n W o fr L v):RR P n W {o with guard:=ak} fr L v:=⟨λa w hr hm=>h.go a w hr hm⟩
theorem aeb(hr:RR P n W o fr L v)(hg:Gd ops fr o)(hd:o.dst=aj d)(hn:dM d n=aD)(h:TL P n W ops Q rest ((d,v)::fr) L):TL P n W ops Q (o::rest) fr L:=by
 rcases hg with hg|⟨q,e,b,hg,hj,hl⟩
 exact aI hr hg hd hn h;exact B8 hg hj hl (aI hr.bare I hd hn h)
theorem gV(hr:RR P n W o fr L v)(h:TL P n W ops Q rest ((d,v)::fr) L)(hg:Gd ops fr o:=by first|exact Gd.no I|exact Gd.yes _ _ _ I I I)(hd:o.dst=aj d:=by exact I)(hn:dM d n=true:=by exact I):TL P n W ops Q (o::rest) fr L:=aeb hr hg hd hn h
theorem QK{dst:Option Tmp}{ty:TypeId}{pos:String}{after:Array Edge}{guard:Option (Nat×Bool)}{x:Operand}{a:Addr}(hx:ev fr x=aj (aK (aj a)):=by exact I):RR P n W ⟨dst,.nilCheck x,ty,pos,after,guard⟩ fr L (aK (aj a)):= .mk λact w hr _=>by
 simp[execOp,hr.ev hx]
end
structure Hid(B:Prop):Prop where
 go:B
theorem GC{A B:Prop}(h:B)(t:Hid B->A:=by
 intro h0
 first|refine gV QP ?_|refine QZ ?_|refine qn I ?_|refine qo I ?_|refine dK ?_|refine dL I ?_|refine qs I I I I I I ?_
 repeat (first|refine gV QP ?_|refine QZ ?_|refine qn I ?_|refine qo I ?_|refine dK ?_|refine dL I ?_|refine qs I I I I I I ?_)
 exact h0.go):A:=t ⟨h⟩
theorem GB{A B:Prop}(h:B)(t:Hid B->A:=by
 intro h0;refine gV (by first|exact QA|exact QK|exact QL|exact QS|exact iu I I|exact QlT|exact QlF|exact QeT|exact QeF|exact QnT|exact QnF|exact QaA|exact QgT|exact QgF|exact QhT|exact QhF|exact QmT|exact QmF|exact QaS|exact QaM|exact fQ I I J|exact U_ I I J) ?_;exact h0.go):A:=t ⟨h⟩
theorem GA{A B:Prop}(h:B)(t:Hid B->A:=by
 intro h0
 first|refine GC ?_|refine GB ?_
 repeat (first|refine GC ?_|refine GB ?_)
 exact h0.go):A:=t ⟨h⟩
theorem GD{A B:Prop}(h:B)(t:Hid B->A:=by
 intro h0;refine gV (by first|exact aB aL.ty I (by first|exact aH (i:=0) I I|exact aH (i:=1) I I|exact aH (i:=2) I I|exact aH (i:=3) I I|exact aH (i:=4) I I|exact aH (i:=5) I I|exact aH (i:=6) I I|exact aH (i:=7) I I|exact aH (i:=8) I I|exact aH (i:=9) I I|exact aH (i:=10) I I|exact aH (i:=11) I I|exact aH (i:=12) I I|exact aH (i:=13) I I|exact aH (i:=14) I I|exact aH (i:=15) I I)|exact aQ (i:=0) aL.ty I I I|exact aQ (i:=1) aL.ty I I I|exact aQ (i:=2) aL.ty I I I|exact aQ (i:=3) aL.ty I I I|exact aQ (i:=4) aL.ty I I I|exact aQ (i:=5) aL.ty I I I|exact aQ (i:=6) aL.ty I I I|exact aQ (i:=7) aL.ty I I I|exact aQ (i:=8) aL.ty I I I|exact aQ (i:=9) aL.ty I I I|exact aQ (i:=10) aL.ty I I I|exact aQ (i:=11) aL.ty I I I|exact aQ (i:=12) aL.ty I I I|exact aQ (i:=13) aL.ty I I I|exact aQ (i:=14) aL.ty I I I|exact aQ (i:=15) aL.ty I I I) ?_;exact h0.go):A:=t ⟨h⟩
theorem GK{A B:Prop}(h:B)(t:Hid B->A:=by
 intro h0
 first|refine GB ?_|refine GD ?_
 exact h0.go):A:=t ⟨h⟩
theorem GL{A B:Prop}(h:B)(t:Hid B->A:=by
 intro h0
 first|refine GA ?_|refine GD ?_
 exact h0.go):A:=t ⟨h⟩
theorem GM{A B:Prop}(h:B)(t:Hid B->A:=by
 intro h0;refine GL ?_
 repeat refine GL ?_
 exact h0.go):A:=t ⟨h⟩
theorem GN{A B:Prop}(h:B)(t:Hid B->A:=by
 intro h0
 first|refine nQ I I ?_|refine qt I I I I ?_
 exact h0.go):A:=t ⟨h⟩
theorem GX{A B:Prop}(h:B)(t:Hid B->A:=by
 intro h0
 first|refine QW QP ?_|refine QW (by first|exact QA|exact QK|exact QL|exact QS|exact iu I I|exact QlT|exact QlF|exact QeT|exact QeF|exact QnT|exact QnF|exact QaA|exact QgT|exact QgF|exact QhT|exact QhF|exact QmT|exact QmF|exact QaS|exact QaM|exact fQ I I J|exact U_ I I J) ?_
 exact h0.go):A:=t ⟨h⟩
theorem GW{A B:Prop}(h:B)(t:Hid B->A:=by
 intro h0
 first|(refine GN ?_;refine GX ?_)|refine qq I I I I I I I ?_|refine jV ?_
 repeat (first|(refine GN ?_;refine GX ?_)|refine qq I I I I I I I ?_|refine jV ?_)
 exact h0.go):A:=t ⟨h⟩
section
variable{P:Program}{n:Nat}{W:b9}{fr:Fr}{L L':List cU}{Q:Exit->Act->World->Prop}{ops:Array Oper}{rest:List Oper}
theorem cJ{ι:Type}{ah:ι->Prop}{F:ι->Fr}{M:ι->List cU}{μ:ι->Nat}{x:ι}(x':ι)(hi:ah x')(hμ:μ x'<μ x)(hf:J2 (F x') fr:=by repeat' (first|exact True.intro|refine And.intro rfl ?_))(hl:L=M x':=by exact rfl):
 E n W .normal (Exit.then (Zk n W ah F M μ x) Q) fr L:=jS x' hi hμ hf hl
theorem eK{c:Code}{ι:Type}(ah:ι->Prop)(F:ι->Fr)(M:ι->List cU)(μ:ι->Nat)(x0:ι)(h0:ah x0)
 (round:∀x,ah x->T P n W c (Exit.then (Zk n W ah F M μ x) Q) (F x) (M x)) (hf:J2 (F x0) fr:=by repeat' (first|exact True.intro|refine And.intro rfl ?_)) (hl:L=M x0:=by exact rfl):T P n W (.loop c) Q fr L:=og ah F M μ x0 h0 hf hl round
theorem zL{A B:Prop}(h:B)(t:Hid B->A:=by
 intro h0
 (conv=>arg 8;simp only[zA,zB,zC,zD,zE,zF,zG,zH,zI,dg,ret,id_eq])
 exact h0.go):A:=t ⟨h⟩
end
theorem zJ:(∀{α:Type} {a:α} {l m:List α},a::l++m=a::(l++m))/\(∀{α:Type} {l:List α},[]++l=l)/\(∀{α:Type} {l:List α},l++[]=l)/\(∀{α β:Type} {f:α->Option β} {a:α} {l:List α},tR f (a::l)=match f a with
 |none=>tR f l
 |some b=>b::tR f l)/\(∀{α β:Type} {f:α->Option β},tR f []=[])/\(∀{α:Type} {a:α} {l:List α} {i:Nat},(a::l)[i+1]?=l[i]?)/\(∀{α:Type} {a:α} {l:List α},(a::l)[0]?=aj a)/\(∀{α:Type} {a b:α} {l:List α},(a::l).set 0 b=b::l)/\(∀{α:Type} {a b:α} {l:List α} {i:Nat},(a::l).set (i+1) b=a::l.set i b):=
 ⟨zA,zB,zC,zD,zE,zF,zG,zH,zI⟩
section
variable{P:Program}{n:Nat}{W:b9}{fr:Fr}{L L':List cU}{Q:Exit->Act->World->Prop}{ops:Array Oper}{rest:List Oper}
theorem cH(is:List Nat)(hn:is.Nodup:=by decide)(hl:L'=is.filterMap λi=>L[i]?:=by exact I):∀w,Mem W L w->Mem W L' w:=Vj is hn hl
theorem P5(is:List Nat)(h:TL P n W ops Q rest fr L')(hn:is.Nodup:=by decide)(hl:L'=is.filterMap λi=>L[i]?:=by exact I):TL P n W ops Q rest fr L:=Zr is hn hl h
theorem ue{c:Code}(is:List Nat)(h:T P n W c Q fr L')(hn:is.Nodup:=by decide)(hl:L'=is.filterMap λi=>L[i]?:=by exact I):T P n W c Q fr L:=aco is hn hl h
theorem dS{e:Exit}(is:List Nat)(h:E n W e Q fr L')(hn:is.Nodup:=by decide)(hl:L'=is.filterMap λi=>L[i]?:=by exact I):E n W e Q fr L:=acp is hn hl h
theorem eo{id:Nat}{l:List Oper}(L0:List cU)(t:Ord)(lP:∀w,Mem W L w->Mem W L0 w)(h:TW P n W l.toArray Q L0 t fr L)(hm:P.follows .mixedOrders=true:=by kernel_rfl)(hB:acz l t=true:=by kernel_rfl)
 (hQ:∀c a d v w,Q (.panic c) (xe a d v) w->Q (.panic c) a w:=by intro c a d v w h;cases d<;>exact h):T P n W (.region id l.toArray aD) Q fr L:=aea L0 t lP hm hB hQ h
theorem fa{fn:Func}{w0:World}{t:Tmp}{v:Value}(na:fn.results=#[.tmp t]:=by exact I)(hv:look fr t=aj v:=by exact I):E n w0 .ret (bodyPost P fn (cY (ret v) w0)) fr L:=da na hv λw hm=>hm.ret
theorem il{ty:TypeId}{pos:String}{after:Array Edge}{t:TypeId}{p x:Operand}(i:Nat){g c:Nat}{cs cs':Array Value}{T:TypeId}{agg:Bool}[hT:aL P t agg c](h:TL P n W ops Q rest fr (L.set i (aR g cs' T)))(hi:L[i]?=aj (aR g cs T):=by exact I)(hp:ev fr p=aj (aK (aj ⟨g,0,ak⟩)):=by exact I)(hx:ev fr x=aj (.agg cs'):=by exact I)(hv:cs'.size=c:=by exact I)(h1:cs'.toList.all fG=true:=by exact I)(hc:cs.size=c:=by exact I):
 TL P n W ops Q (⟨ak,.store t p x,ty,pos,after,ak⟩::rest) fr L:=aZ hi hp hx hv h1 hc h
end
end cZ
namespace cZ
instance:bR aC 3 (.int .i64):=⟨Tryz.underlying3⟩
instance:aL aC 3 aE 1:={}
instance:fm aC 3 #[av az 0]:={}
instance:bR aC 4 (.bool):=⟨Tryz.underlying4⟩
instance:aL aC 4 aE 1:={}
instance:fm aC 4 #[.bool aE]:={}
instance:bR aC 5 (.int .u8):=⟨Tryz.underlying5⟩
instance:aL aC 5 aE 1:={}
instance:bR aC 9 (.string):=⟨Tryz.underlying9⟩
instance:aL aC 9 aE 1:={}
instance:bR aC 22 (.slice 122):=⟨Tryz.underlying22⟩
instance:aL aC 22 aE 1:={}
instance:bR aC 23 (.slice 124):=⟨Tryz.underlying23⟩
instance:aL aC 23 aE 1:={}
instance:cI aC 25 0 0:={}
instance:cI aC 25 1 1:={}
instance:aL aC 25 aD 2:={}
instance:bR aC 26 (.slice 3):=⟨Tryz.underlying26⟩
instance:aL aC 26 aE 1:={}
instance:tA aC 26 3 1 8:={}
instance:fm aC 26 #[ap ak 0 0]:={}
instance:bR aC 27 (.array 256 5):=⟨Tryz.underlying27⟩
instance:aL aC 27 aD 256:={}
instance:bR aC 28 (.slice 26):=⟨Tryz.underlying28⟩
instance:aL aC 28 aE 1:={}
instance:tA aC 28 26 1 24:={}
instance:cI aC 30 0 0:={}
instance:cI aC 30 1 256:={}
instance:cI aC 30 2 257:={}
instance:aL aC 30 aD 258:={}
instance:fm aC 30 (dJ 256 (.int .u8 0:Value)++([ap ak 0 0,ap ak 0 0]:List Value)).toArray:={}
instance:bR aC 31 (.slice 140):=⟨Tryz.underlying31⟩
instance:aL aC 31 aE 1:={}
instance:tA aC 31 140 2 32:={}
instance:cI aC 33 0 0:={}
instance:cI aC 33 1 1:={}
instance:cI aC 33 2 2:={}
instance:aL aC 33 aD 3:={}
instance:bR aC 34 (.slice 92):=⟨Tryz.underlying34⟩
instance:aL aC 34 aE 1:={}
instance:tA aC 34 92 1 24:={}
instance:cI aC 36 0 0:={}
instance:cI aC 36 1 1:={}
instance:aL aC 36 aD 2:={}
instance:fm aC 36 #[ap ak 0 0,ap ak 0 0]:={}
instance:cI aC 38 0 0:={}
instance:cI aC 38 1 1:={}
instance:cI aC 38 2 259:={}
instance:cI aC 38 3 262:={}
instance:cI aC 38 4 263:={}
instance:cI aC 38 5 264:={}
instance:aL aC 38 aD 266:={}
instance:fm aC 38 (([ap ak 0 0]:List Value)++dJ 256 (.int .u8 0:Value)++([ap ak 0 0,ap ak 0 0,av az 0,av az 0,ap ak 0 0,av az 0,ap ak 0 0,ap ak 0 0,ap ak 0 0]:List Value)).toArray:={}
instance:aL aC 39 aE 1:={}
instance:bR aC 43 (.slice 55):=⟨Tryz.underlying43⟩
instance:aL aC 43 aE 1:={}
instance:tA aC 43 55 2 16:={}
instance:bR aC 48 (.slice 53):=⟨Tryz.underlying48⟩
instance:aL aC 48 aE 1:={}
instance:tA aC 48 53 3 24:={}
instance:cI aC 53 0 0:={}
instance:cI aC 53 1 1:={}
instance:cI aC 53 2 2:={}
instance:aL aC 53 aD 3:={}
instance:fm aC 53 #[av az 0,av az 0,av az 0]:={}
instance:cI aC 55 0 0:={}
instance:cI aC 55 1 1:={}
instance:aL aC 55 aD 2:={}
instance:bR aC 90 (.slice 9):=⟨Tryz.underlying90⟩
instance:aL aC 90 aE 1:={}
instance:bR aC 92 (.slice 94):=⟨Tryz.underlying92⟩
instance:aL aC 92 aE 1:={}
instance:tA aC 92 94 2 16:={}
instance:fm aC 92 #[ap ak 0 0]:={}
instance:cI aC 94 0 0:={}
instance:cI aC 94 1 1:={}
instance:aL aC 94 aD 2:={}
instance:fm aC 94 #[av az 0,av az 0]:={}
instance:bR aC 101 (.slice 4):=⟨Tryz.underlying101⟩
instance:aL aC 101 aE 1:={}
instance:tA aC 101 4 1 1:={}
instance:bR aC 102 (.slice 114):=⟨Tryz.underlying102⟩
instance:aL aC 102 aE 1:={}
instance:tA aC 102 114 1 8:={}
instance:cI aC 104 0 0:={}
instance:cI aC 104 1 1:={}
instance:cI aC 104 2 2:={}
instance:cI aC 104 3 3:={}
instance:cI aC 104 4 4:={}
instance:aL aC 104 aD 5:={}
instance:fm aC 104 #[ap ak 0 0,ap ak 0 0,ap ak 0 0,ap ak 0 0,ap ak 0 0]:={}
instance:bR aC 108 (.slice 200):=⟨Tryz.underlying108⟩
instance:tA aC 108 200 4 32:={}
instance:bR aC 111 (.slice 208):=⟨Tryz.underlying111⟩
instance:tA aC 111 208 6 48:={}
instance:aL aC 114 aE 1:={}
instance:fm aC 114 #[.int .u64 0]:={}
instance:bR aC 116 (.array 4 114):=⟨Tryz.underlying116⟩
instance:aL aC 116 aD 4:={}
instance:fm aC 116 #[.int .u64 0,.int .u64 0,.int .u64 0,.int .u64 0]:={}
instance:bR aC 117 (.slice 119):=⟨Tryz.underlying117⟩
instance:aL aC 117 aE 1:={}
instance:tA aC 117 119 6 64:={}
instance:cI aC 119 0 0:={}
instance:cI aC 119 1 1:={}
instance:cI aC 119 2 5:={}
instance:aL aC 119 aD 6:={}
instance:fm aC 119 #[av az 0,.int .u64 0,.int .u64 0,.int .u64 0,.int .u64 0,ap ak 0 0]:={}
instance:cI aC 122 0 0:={}
instance:cI aC 122 1 1:={}
instance:aL aC 122 aD 7:={}
instance:fm aC 122 #[.string ⟨#[]⟩,av az 0,.int .u64 0,.int .u64 0,.int .u64 0,.int .u64 0,ap ak 0 0]:={}
instance:cI aC 124 0 0:={}
instance:cI aC 124 1 1:={}
instance:aL aC 124 aD 2:={}
instance:fm aC 124 #[.string ⟨#[]⟩,ap ak 0 0]:={}
instance:bR aC 138 (.slice 148):=⟨Tryz.underlying138⟩
instance:aL aC 138 aE 1:={}
instance:tA aC 138 148 2 16:={}
instance:cI aC 140 0 0:={}
instance:cI aC 140 1 1:={}
instance:aL aC 140 aD 2:={}
instance:fm aC 140 #[av az 0,ap ak 0 0]:={}
instance:cI aC 148 0 0:={}
instance:cI aC 148 1 1:={}
instance:aL aC 148 aD 2:={}
instance:fm aC 148 #[av az 0,av az 0]:={}
instance:bR aC 156 (.slice 231):=⟨Tryz.underlying156⟩
instance:aL aC 156 aE 1:={}
instance:tA aC 156 231 4 32:={}
instance:cI aC 158 0 0:={}
instance:cI aC 158 1 1:={}
instance:cI aC 158 2 2:={}
instance:cI aC 158 3 3:={}
instance:aL aC 158 aD 4:={}
instance:fm aC 158 #[ap ak 0 0,av az 0,av az 0,.bool aE]:={}
instance:cI aC 161 0 0:={}
instance:cI aC 161 1 1:={}
instance:cI aC 161 2 2:={}
instance:cI aC 161 3 3:={}
instance:aL aC 161 aD 4:={}
instance:fm aC 161 #[ap ak 0 0,av az 0,av az 0,.bool aE]:={}
instance:cI aC 164 0 0:={}
instance:cI aC 164 1 1:={}
instance:cI aC 164 2 2:={}
instance:aL aC 164 aD 3:={}
instance:fm aC 164 #[av az 0,.string ⟨#[]⟩,av az 0]:={}
instance:cI aC 166 0 0:={}
instance:cI aC 166 1 1:={}
instance:cI aC 166 2 2:={}
instance:aL aC 166 aD 3:={}
instance:fm aC 166 #[ap ak 0 0,av az 0,av az 0]:={}
instance:cI aC 168 0 0:={}
instance:cI aC 168 1 266:={}
instance:cI aC 168 3 268:={}
instance:cI aC 168 4 269:={}
instance:cI aC 168 5 270:={}
instance:cI aC 168 6 271:={}
instance:cI aC 168 7 272:={}
instance:cI aC 168 8 275:={}
instance:cI aC 168 9 276:={}
instance:cI aC 168 10 277:={}
instance:cI aC 168 11 281:={}
instance:cI aC 168 12 285:={}
instance:cI aC 168 13 288:={}
instance:cI aC 168 14 289:={}
instance:cI aC 168 15 290:={}
instance:bR aC 175 (.map 9 3):=⟨Tryz.underlying175⟩
instance:aL aC 175 aE 1:={}
instance:fm aC 175 #[.map ak]:={}
instance:bR aC 179 (.slice 116):=⟨Tryz.underlying179⟩
instance:aL aC 179 aE 1:={}
instance:tA aC 179 116 4 32:={}
instance:cI aC 181 0 0:={}
instance:cI aC 181 1 1:={}
instance:cI aC 181 2 2:={}
instance:cI aC 181 3 3:={}
instance:cI aC 181 4 4:={}
instance:cI aC 181 5 5:={}
instance:aL aC 181 aD 6:={}
instance:fm aC 181 #[ap ak 0 0,ap ak 0 0,ap ak 0 0,ap ak 0 0,ap ak 0 0,ap ak 0 0]:={}
instance:bR aC 184 (.slice 257):=⟨Tryz.underlying184⟩
instance:aL aC 184 aE 1:={}
instance:tA aC 184 257 256 512:={}
instance:cI aC 186 0 0:={}
instance:cI aC 186 1 1:={}
instance:aL aC 186 aD 2:={}
instance:fm aC 186 #[ap ak 0 0,ap ak 0 0]:={}
instance:bR aC 201 (.slice 273):=⟨Tryz.underlying201⟩
instance:aL aC 201 aE 1:={}
instance:tA aC 201 273 1 24:={}
instance:cI aC 203 0 0:={}
instance:cI aC 203 1 1:={}
instance:aL aC 203 aD 2:={}
instance:fm aC 203 #[ap ak 0 0,ap ak 0 0]:={}
instance:cI aC 231 0 0:={}
instance:cI aC 231 1 1:={}
instance:cI aC 231 2 2:={}
instance:aL aC 231 aD 4:={}
instance:fm aC 231 #[.bool aE,av az 0,av az 0,av az 0]:={}
instance:cI aC 242 0 0:={}
instance:cI aC 242 1 6:={}
instance:cI aC 244 0 0:={}
instance:cI aC 244 1 1:={}
instance:cI aC 244 2 2:={}
instance:aL aC 244 aD 3:={}
instance:fm aC 244 #[.bool aE,ap ak 0 0,ap ak 0 0]:={}
instance:bR aC 247 (.map 9 148):=⟨Tryz.underlying247⟩
instance:bR aC 251 (.slice 303):=⟨Tryz.underlying251⟩
instance:aL aC 251 aE 1:={}
instance:tA aC 251 303 4 32:={}
instance:bR aC 252 (.map 303 3):=⟨Tryz.underlying252⟩
instance:aL aC 252 aE 1:={}
instance:cI aC 254 0 0:={}
instance:cI aC 254 1 6:={}
instance:cI aC 254 2 7:={}
instance:cI aC 254 3 8:={}
instance:bR aC 255 (.int .i16):=⟨Tryz.underlying255⟩
instance:aL aC 255 aE 1:={}
instance:bR aC 257 (.array 256 255):=⟨Tryz.underlying257⟩
instance:aL aC 257 aD 256:={}
instance:fm aC 257 (dJ 256 (.int .i16 0:Value)).toArray:={}
instance:bR aC 262 (.map 263 3):=⟨Tryz.underlying262⟩
instance:bR aC 263 (.array 200 255):=⟨Tryz.underlying263⟩
instance:aL aC 263 aD 200:={}
instance:fm aC 263 (dJ 200 (.int .i16 0:Value)).toArray:={}
instance:bR aC 273 (.slice 278):=⟨Tryz.underlying273⟩
instance:aL aC 273 aE 1:={}
instance:tA aC 273 278 3 24:={}
instance:fm aC 273 #[ap ak 0 0]:={}
instance:cI aC 278 0 0:={}
instance:cI aC 278 1 1:={}
instance:cI aC 278 2 2:={}
instance:aL aC 278 aD 3:={}
instance:fm aC 278 #[av az 0,av az 0,av az 0]:={}
instance:bR aC 303 (.array 4 114):=⟨Tryz.underlying303⟩
instance:aL aC 303 aD 4:={}
instance:fm aC 303 #[.int .u64 0,.int .u64 0,.int .u64 0,.int .u64 0]:={}
instance:bR aC 308 (.map 310 3):=⟨Tryz.underlying308⟩
instance:cI aC 310 1 1:={}
instance:aL aC 310 aD 257:={}
instance:fm aC 310 (([av az 0]:List Value)++dJ 256 (.int .i16 0:Value)).toArray:={}
instance:bR aC 312 (.map 340 114):=⟨Tryz.underlying312⟩
instance:aL aC 312 aE 1:={}
instance:cI aC 314 0 0:={}
instance:cI aC 314 1 3:={}
instance:bR aC 315 (.slice 5):=⟨Tryz.underlying315⟩
instance:tA aC 315 5 1 1:={}
instance:bR aC 316 (.map 278 3):=⟨Tryz.underlying316⟩
instance:aL aC 316 aE 1:={}
instance:fm aC 316 #[.map ak]:={}
instance:cI aC 329 0 0:={}
instance:cI aC 329 1 3:={}
instance:cI aC 329 2 4:={}
instance:cI aC 329 3 5:={}
instance:aL aC 340 aD 2:={}
instance:fm aC 340 #[av az 0,av az 0]:={}
instance:aJ aC 12:={}
instance:aJ aC 25:={}
instance:aJ aC 26:={}
instance:aJ aC 27:={}
instance:aJ aC 28:={}
instance:aJ aC 29:={}
instance:aJ aC 30:={}
instance:aJ aC 31:={}
instance:aJ aC 32:={}
instance:aJ aC 40:={}
instance:aJ aC 41:={}
instance:aJ aC 42:={}
instance:aJ aC 43:={}
instance:aJ aC 44:={}
instance:aJ aC 45:={}
instance:aJ aC 47:={}
instance:aJ aC 64:={}
instance:aJ aC 65:={}
instance:aJ aC 66:={}
instance:aJ aC 67:={}
instance:aJ aC 68:={}
instance:aJ aC 69:={}
instance:aJ aC 70:={}
instance:aJ aC 73:={}
instance:aJ aC 74:={}
instance:aJ aC 75:={}
instance:aJ aC 76:={}
instance:aJ aC 77:={}
instance:aJ aC 78:={}
instance:aJ aC 79:={}
instance:aJ aC 80:={}
instance:aJ aC 81:={}
instance:aJ aC 82:={}
instance:aJ aC 83:={}
instance:aJ aC 84:={}
instance:aJ aC 85:={}
instance:aJ aC 86:={}
instance:aJ aC 87:={}
instance:aJ aC 89:={}
instance:aJ aC 90:={}
instance:aJ aC 91:={}
instance:aJ aC 97:={}
instance:aJ aC 98:={}
instance:aJ aC 99:={}
instance:aJ aC 100:={}
instance:aJ aC 101:={}
instance:aJ aC 102:={}
instance:aJ aC 103:={}
instance:aJ aC 104:={}
instance:aJ aC 105:={}
instance:aJ aC 106:={}
instance:aJ aC 107:={}
instance:aJ aC 108:={}
instance:aJ aC 109:={}
instance:aJ aC 111:={}
instance:aJ aC 112:={}
instance:aJ aC 113:={}
instance:aJ aC 114:={}
instance:aJ aC 115:={}
instance:aJ aC 116:={}
instance:aJ aC 117:={}
instance:aJ aC 118:={}
instance:aJ aC 119:={}
instance:aJ aC 120:={}
instance:aJ aC 121:={}
instance:aJ aC 122:={}
instance:aJ aC 123:={}
instance:aJ aC 124:={}
instance:aJ aC 125:={}
instance:aJ aC 126:={}
instance:aJ aC 127:={}
instance:aJ aC 128:={}
instance:aJ aC 129:={}
instance:aJ aC 130:={}
instance:aJ aC 131:={}
instance:aJ aC 132:={}
instance:aJ aC 135:={}
instance:aJ aC 136:={}
instance:aJ aC 137:={}
instance:aJ aC 138:={}
instance:aJ aC 139:={}
instance:aJ aC 140:={}
instance:aJ aC 141:={}
instance:aJ aC 142:={}
instance:aJ aC 143:={}
instance:aJ aC 144:={}
instance:aJ aC 145:={}
instance:aJ aC 146:={}
instance:aJ aC 147:={}
instance:aJ aC 148:={}
instance:aJ aC 149:={}
instance:aJ aC 150:={}
instance:aJ aC 151:={}
instance:aJ aC 152:={}
instance:aJ aC 153:={}
instance:aJ aC 154:={}
instance:aJ aC 155:={}
instance:aJ aC 156:={}
instance:aJ aC 157:={}
instance:aJ aC 158:={}
instance:aJ aC 159:={}
instance:aJ aC 160:={}
instance:aJ aC 161:={}
instance:aJ aC 162:={}
instance:aJ aC 163:={}
instance:aJ aC 165:={}
instance:aJ aC 166:={}
instance:aJ aC 167:={}
instance:aJ aC 168:={}
instance:aJ aC 169:={}
instance:aJ aC 170:={}
instance:aJ aC 172:={}
instance:aJ aC 173:={}
instance:aJ aC 174:={}
instance:aJ aC 180:={}
instance:aJ aC 181:={}
instance:aJ aC 182:={}
instance:aJ aC 183:={}
instance:aJ aC 184:={}
instance:aJ aC 185:={}
instance:aJ aC 186:={}
instance:aJ aC 187:={}
instance:aJ aC 208:={}
instance:aJ aC 209:={}
end cZ
namespace cZ
open Go.RowKit dr eH
theorem fin{P:Program}{f:FuncId}{args:Array Value}{w:World}(h:Calls P f args w (cY (ret (.bool aD)) w)):Calls P f args w λe w'=>e= .returned (.bool aD)/\Below w.heap.size w w':=h.mono λ_ _ h=>CN h
end cZ
namespace dT
def iN(x:BitVec 64):Int:=x.toNat
abbrev v64(x:BitVec 64):Value:= .int .u64 (iN x)
theorem acA(x:BitVec 64):0<=iN x:=by unfold iN;omega
theorem acB(x:BitVec 64):iN x<=18446744073709551615:=by have:=x.isLt;unfold iN;omega
theorem oH{x y:BitVec 64}(h:iN x=iN y):x=y:=by
 apply Um;unfold iN at h;omega
theorem acC(x y:BitVec 64):(iN x==iN y)=(x==y):=by
 by_cases h:x=y
 subst h;simp;have:iN x≠iN y:=λe=>h (oH e);rw[beq_eq_false_iff_ne.2 this,beq_eq_false_iff_ne.2 h]
theorem wrap64(x:BitVec 64):xi.wrap (iN x)=iN x:=by
 have:=x.isLt;unfold iN;rw[tO];omega
theorem ofInt64(x:BitVec 64):BitVec.ofInt 64 (iN x)=x:=by
 apply Um;simp[iN]
theorem aec(x y:BitVec 64):bits .and .u64 (iN x) (iN y)=iN (x&&&y):=by
 unfold bits;simp only[lB,ofInt64];exact wrap64 _
theorem afO(x y:BitVec 64):bits .or .u64 (iN x) (iN y)=iN (x|||y):=by
 unfold bits;simp only[lB,ofInt64];exact wrap64 _
theorem abI(x y:BitVec 64):bits .xor .u64 (iN x) (iN y)=iN (x^^^y):=by
 unfold bits;simp only[lB,ofInt64];exact wrap64 _
theorem aed(x:BitVec 64):bits .xor .u64 xi.max (iN x)=iN (~~~ x):=by
 have h:=abI (BitVec.allOnes 64) x;rw[BitVec.allOnes_xor]at h;rw[<-h];rfl
structure C4 where
 a:BitVec 64
 b:BitVec 64
 c:BitVec 64
 d:BitVec 64
 deriving DecidableEq
def C4.get(x:C4)(i:Nat):BitVec 64:=if i=0 then x.a else if i=1 then x.b else if i=2 then x.c else x.d
def C4.set(x:C4)(i:Nat)(v:BitVec 64):C4:=if i=0 then {x with a:=v}else if i=1 then {x with b:=v}else if i=2 then {x with c:=v}else {x with d:=v}
def C4.zero:C4:=⟨0,0,0,0⟩
def C4.Vl(x y:C4):C4:=⟨x.a&&&y.a,x.b&&&y.b,x.c&&&y.c,x.d&&&y.d⟩
def C4.not(x:C4):C4:=⟨~~~x.a,~~~x.b,~~~x.c,~~~x.d⟩
def fh(x:C4):List Value:=[.int .u64 (iN x.a),.int .u64 (iN x.b),.int .u64 (iN x.c),.int .u64 (iN x.d)]
def rr(x:C4):Value:=aU #[.int .u64 (iN x.a),.int .u64 (iN x.b),.int .u64 (iN x.c),.int .u64 (iN x.d)]
def C4.bit(x:C4)(n:Nat):C4:=x.set (n/64) (x.get (n/64)|||lY 64 (2^(n %64)))
theorem C4.ext'{x y:C4}(h1:x.a=y.a)(h2:x.b=y.b)(h3:x.c=y.c)(h4:x.d=y.d):x=y:=by
 cases x;cases y;simp_all
theorem b5(p q:Bool):(p||(p&&q))=p:=by cases p<;>cases q<;>rfl
end dT
namespace dT
def b8(b:Nat):Nat:=((b/4)&&&51)+(b&&&51)
def c8(b:Nat):Nat:=(b/16+b)&&&15
theorem k1:∀t<2,∀c<128,(c+128*t)&&&85=c&&&85:=by decide+kernel
theorem k2:∀t<4,∀c<64,(c+64*t)&&&51=c&&&51:=by decide+kernel
theorem k3:∀t<5,∀p<5,∀q<5,(p+(q+16*p)+16*t)&&&15=c8 (q+16*p):=by decide+kernel
def s1(x:Nat):Nat:=((x/2)&&&6148914691236517205)+(x&&&6148914691236517205)
def s2(x:Nat):Nat:=((x/4)&&&3689348814741910323)+(x&&&3689348814741910323)
def s3(x:Nat):Nat:=(x/16+x)&&&1085102592571150095
def s4(x:Nat):Nat:=x+x/256
def s5(x:Nat):Nat:=x+x/65536
end dT
namespace dT
def C4.mem(x:C4)(n:Nat):Bool:=(x.get (n/64)).toNat.testBit (n %64)
def xr(x:C4):List Nat:=(eG 256).filter x.mem
def T6(x:C4):Nat:=(xr x).length
theorem get_mem(x:C4)(n:Nat):x.mem n=(x.get (n/64)).getLsbD (n %64):=by
 unfold C4.mem;rw[BitVec.getLsbD]
theorem J8(n:Nat):C4.zero.mem n=false:=by
 rw[get_mem];have:C4.zero.get (n/64)=0:=by unfold C4.get C4.zero;split;rfl;split;rfl;split<;>rfl
 rw[this];simp
theorem ext_mem{x y:C4}(h:∀n,n<256->x.mem n=y.mem n):x=y:=by
 have w:∀i,i<4->x.get i=y.get i:=λi hi=>by
  apply BitVec.eq_of_getLsbD_eq;intro j hj;have:=h (64*i+j) J;rw[get_mem,get_mem,show(64*i+j)/64=i by omega,show(64*i+j) %64=j by omega]at this;exact this
 exact C4.ext' (w 0 ahk) (w 1 ahk) (w 2 ahk) (w 3 ahk)
theorem RU{x:C4}{n:Nat}:n∈xr x↔n<256/\x.mem n=true:=by
 unfold xr;rw[tS,nr]
end dT
namespace iA
open dT
inductive Rx where
 |mk (kind:Int) (c:C4) (kids:List Rx)
def Rx.kind:Rx->Int| .mk k _ _=>k
def Rx.uf:Rx->C4| .mk _ c _=>c
def Rx.kids:Rx->List Rx| .mk _ _ l=>l
def CW(k:Int):Int:=if k=1 then 0 else if k=2 then 0 else if k=3 then 0 else if k=6 then 1 else if k=4 then 2 else if k=5 then 2 else-1
mutual
def my:Rx->Nat->Nat->Int×Nat
 | .mk k c l,deep,n=>if 100<n+1 then(2,n+1)else if 30<deep then(7,n+1)else if CW k≠(l.length:Int)then(1,n+1)else if(decide (k=3) !=decide (c≠C4.zero))=aD then(1,n+1)else BJ l (deep+1) (n+1)
def BJ:List Rx->Nat->Nat->Int×Nat
 |[],_,n=>(0,n)
 |r::l,deep,n=>if(my r deep n).1≠0 then my r deep n else BJ l deep (my r deep n).2
end
mutual
def te:Rx->Nat
 | .mk _ _ l=>sx l+1
def sx:List Rx->Nat
 |[]=>0
 |r::l=>te r+sx l
end
theorem FZ(r:Rx):0<te r:=by obtain⟨k,c,l⟩:=r;rw[te];omega
theorem CX:∀{l:List Rx} {r:Rx},r∈l->te r<=sx l
 |x::l,r,h=>by
  rw[sx];rcases ez.1 h with rfl|h
  omega;have:=CX h;omega
inductive Re where
 |none
 |empty
 |byte (c:C4)
 |HQ (a b:Re)
 |HR (a b:Re)
 |star (a:Re)
def Re.size:Re->Nat
 | .HQ a b=>a.size+b.size+1
 | .HR a b=>a.size+b.size+1
 | .star a=>a.size+1
 |_=>1
def Re.J9:Re->Nat
 | .HQ a b=>max a.J9 b.J9+1
 | .HR a b=>max a.J9 b.J9+1
 | .star a=>a.J9+1
 |_=>1
def Re.nz:Re->Prop
 | .byte c=>c≠C4.zero
 | .HQ a b=>a.nz/\b.nz
 | .HR a b=>a.nz/\b.nz
 | .star a=>a.nz
 |_=>True
def Re.kind:Re->Int
 | .none=>1
 | .empty=>2
 | .byte _=>3
 | .HQ _ _=>4
 | .HR _ _=>5
 | .star _=>6
def Re.uf:Re->C4
 | .byte c=>c
 |_=>C4.zero
def Re.kids:Re->List Re
 | .HQ a b=>[a,b]
 | .HR a b=>[a,b]
 | .star a=>[a]
 |_=>[]
def lQ:Re->Rx
 | .none=> .mk 1 C4.zero []
 | .empty=> .mk 2 C4.zero []
 | .byte c=> .mk 3 c []
 | .HQ a b=> .mk 4 C4.zero [lQ a,lQ b]
 | .HR a b=> .mk 5 C4.zero [lQ a,lQ b]
 | .star a=> .mk 6 C4.zero [lQ a]
theorem acD(r:Re):lQ r= .mk r.kind r.uf (r.kids.map lQ):=by cases r<;>rfl
theorem Re.size_pos(r:Re):0<r.size:=by cases r<;>simp[Re.size]
theorem P6{α:Type}{l:List α}(h:l.length=2):∃a b,l=[a,b]:=
 match l,h with
 |[a,b],_=>⟨a,b,rfl⟩
structure Fit(r:Re)(deep n:Nat):Prop where
 nz:r.nz
 sz:n+r.size<=100
 dp:deep+r.J9<=31
theorem CY{p:Int×Nat}{q:Nat}(h:p=(0,q)):p.1=0/\p.2=q:=by subst h;exact⟨rfl,rfl⟩
theorem HT:∀(N:Nat) (r:Rx) (deep n q:Nat),te r<=N->my r deep n=(0,q)->∃e:Re,r=lQ e/\Fit e deep n/\q=n+e.size
 |0,r,_,_,_,h,_=>by have:=FZ r;omega
 | N + 1,.mk k c l,deep,n,q,hN,h=>by
  have IH:=HT N;rw[te]at hN;rw[my]at h;split at h;simp at h;split at h;simp at h;split at h;simp at h;split at h;simp at h
  rename_i h1 h2 h3 h4
  have h3:CW k=(l.length:Int):=by simpa using h3
  have h4:decide (k=3)=decide (c≠C4.zero):=by
   generalize decide (k=3)=x at*;generalize decide (c≠C4.zero)=y at*
   cases x<;>cases y<;>simp_all
  have leaf:∀e:Re,k=e.kind->c=e.uf->l=[]->e.kids=[]->e.size=1->e.J9=1->e.nz->∃e:Re,Rx.mk k c l=lQ e/\Fit e deep n/\q=n+e.size:=λe a1 a2 a3 a4 a5 a6 a7=>by
   subst a1 a2 a3;rw[BJ]at h;refine⟨e,by rw[acD,a4];rfl,⟨a7,by omega,by omega⟩,?_⟩;simp at h;omega
  unfold CW at h3;have hz:k≠3->c=C4.zero:=λhk=>by
   rw[decide_eq_false hk]at h4;exact Un λhc=>by rw[decide_eq_true hc]at h4;cases h4
  by_cases k1:k=1
  ·rw[if_pos k1]at h3
   exact leaf .none k1 (hz J) (si J) I I I trivial
  rw[if_neg k1]at h3
  by_cases k2:k=2
  ·rw[if_pos k2]at h3
   exact leaf .empty k2 (hz J) (si J) I I I trivial
  rw[if_neg k2]at h3
  by_cases k3:k=3
  ·rw[if_pos k3]at h3
   rw[decide_eq_true k3]at h4;exact leaf (.byte c) k3 I (si J) I I I (by show c≠C4.zero;exact of_decide_eq_true h4.symm)
  rw[if_neg k3]at h3;have hc:=hz k3;subst hc;have two:∀(a b:Rx),l=[a,b]->∃x y:Re,a=lQ x/\b=lQ y/\Fit x (deep+1) (n+1)/\Fit y (deep+1) (n+1+x.size)/\q=n+1+x.size+y.size:=λa b hl=>by
   subst hl;rw[sx,sx,sx]at hN;rw[BJ,BJ,BJ]at h
   by_cases e1:(my a (deep+1) (n+1)).1=0
   ·rw[if_neg (by simpa using e1)]at h
    obtain⟨x,rfl,f1,g1⟩:=IH a (deep+1) (n+1) (my a (deep+1) (n+1)).2 J (od e1 rfl);rw[g1]at h
    by_cases e2:(my b (deep+1) (n+1+x.size)).1=0
    ·rw[if_neg (by simpa using e2)]at h
     obtain⟨y,rfl,f2,g2⟩:=IH b (deep+1) (n+1+x.size) (my b (deep+1) (n+1+x.size)).2 J (od e2 rfl);exact⟨x,y,rfl,rfl,f1,f2,by rw[g2]at h;simp at h;omega⟩
    rw[if_pos e2]at h;exact absurd (CY h).1 e2
   rw[if_pos e1]at h;exact absurd (CY h).1 e1
  by_cases k6:k=6
  ·rw[if_pos k6]at h3
   obtain⟨a,rfl⟩:∃a,l=[a]:=List.length_eq_one_iff.1 J;rw[sx,sx]at hN;rw[BJ,BJ]at h
   by_cases e1:(my a (deep+1) (n+1)).1=0
   ·rw[if_neg (by simpa using e1)]at h
    obtain⟨x,rfl,f1,g1⟩:=IH a (deep+1) (n+1) (my a (deep+1) (n+1)).2 J (od e1 rfl);have:=f1.sz;have:=f1.dp;exact⟨.star x,by rw[k6];rfl,⟨f1.nz,by simp only[Re.size];omega,by simp only[Re.J9];omega⟩,by rw[g1]at h;simp at h;simp only[Re.size];omega⟩
   rw[if_pos e1]at h;exact absurd (CY h).1 e1
  rw[if_neg k6]at h3
  by_cases k4:k=4
  ·rw[if_pos k4]at h3
   obtain⟨a,b,rfl⟩:∃a b,l=[a,b]:=P6 J;obtain⟨x,y,rfl,rfl,f1,f2,g⟩:=two a b rfl;have:=f1.dp;have:=f2.dp;have:=f2.sz;exact⟨.HQ x y,by rw[k4];rfl,⟨⟨f1.nz,f2.nz⟩,by simp only[Re.size];omega,by simp only[Re.J9];omega⟩,by simp only[Re.size];omega⟩
  rw[if_neg k4]at h3
  by_cases k5:k=5
  ·rw[if_pos k5]at h3
   obtain⟨a,b,rfl⟩:∃a b,l=[a,b]:=P6 J;obtain⟨x,y,rfl,rfl,f1,f2,g⟩:=two a b rfl;have:=f1.dp;have:=f2.dp;have:=f2.sz;exact⟨.HR x y,by rw[k5];rfl,⟨⟨f1.nz,f2.nz⟩,by simp only[Re.size];omega,by simp only[Re.J9];omega⟩,by simp only[Re.size];omega⟩
  rw[if_neg k5]at h3;omega
inductive Fb(P:List UInt8->Prop):List UInt8->Prop
 |nil:Fb P []
 |cons {u v:List UInt8}:P u->Fb P v->Fb P (u++v)
def J_:Re->List UInt8->Prop
 | .none,_=>False
 | .empty,s=>s=[]
 | .byte c,s=>∃b:UInt8,s=[b]/\c.mem b.toNat=aD
 | .HQ a b,s=>∃u v,s=u++v/\J_ a u/\J_ b v
 | .HR a b,s=>J_ a s\/J_ b s
 | .star a,s=>Fb (J_ a) s
theorem RV{P:List UInt8->Prop}{u v:List UInt8}(h:Fb P u)(hv:P v):Fb P (u++v):=by
 induction h with
 |nil=>have:=Fb.cons hv .nil;simpa using this
 |cons h1 _ ih=>rw[eZ];exact .cons h1 ih
def Nt(s:List UInt8)(f j:Nat):List UInt8:=(s.drop f).take (j-f)
theorem HU{s:List UInt8}{f j:Nat}(h:j<=s.length):(Nt s f j).length=j-f:=by unfold Nt;rw[jR,List.length_drop];omega
theorem Vm(s:List UInt8)(f:Nat):Nt s f f=[]:=by unfold Nt;simp
theorem P7{s:List UInt8}{f i j:Nat}(h1:f<=i)(h2:i<=j):Nt s f j=Nt s f i++Nt s i j:=by
 unfold Nt;rw[show j-f=(i-f)+(j-i)by omega,List.take_add,qM,show f+(i-f)=i by omega]
theorem Zv{s u v:List UInt8}{f j:Nat}(hf:f<=j)(hj:j<=s.length)(h:Nt s f j=u++v):f+u.length<=j/\u=Nt s f (f+u.length)/\v=Nt s (f+u.length) j:=by
 have hl:=HU (s:=s) (f:=f) hj;rw[h,bT]at hl;have h1:f+u.length<=j:=by omega
 have e:=P7 (s:=s) (f:=f) (i:=f+u.length) (j:=j) J h1;rw[h]at e;have hlu:u.length=(Nt s f (f+u.length)).length:=by rw[HU J];omega
 have:=List.append_inj e hlu;exact⟨h1,this.1,this.2⟩
def RW(r:Re)(s:List UInt8)(f j:Nat):Prop:=f<=j/\j<=s.length/\J_ r (Nt s f j)
inductive Y'(R:Nat->Nat->Prop)(f:Nat):Nat->Prop
 |refl:Y' R f f
 |step {i j:Nat}:Y' R f i->R i j->Y' R f j
theorem Y'.cons{R:Nat->Nat->Prop}{f i j:Nat}(h:R f i)(h':Y' R i j):Y' R f j:=by
 induction h' with
 |refl=>exact .step .refl h
 |step _ h2 ih=>exact .step ih h2
theorem Vn{a:Re}{s:List UInt8}{f j:Nat}(hf:f<=s.length):RW (.star a) s f j↔Y' (RW a s) f j:=by
 constructor
 ·rintro⟨h1,h2,h⟩
  have h:Fb (J_ a) (Nt s f j):=h;have aux:∀w,Fb (J_ a) w->∀f,f<=j->Nt s f j=w->Y' (RW a s) f j:=by
   intro w hw
   induction hw with
   | nil=>
    intro f E5 e;have:=HU (s:=s) (f:=f) h2;rw[e]at this;have:f=j:=by simp at this;omega
    subst this;exact .refl
   | cons hu _ ih=>
    intro f E5 e;obtain⟨a1,a2,a3⟩:=Zv E5 h2 e;exact Y'.cons ⟨Nat.le_add_right _ _,by omega,by rw[<-a2];exact hu⟩ (ih _ a1 a3.symm)
  exact aux _ h f h1 I
 intro h
 induction h with
 |refl=>exact⟨bJ _,hf,by rw[Vm];exact Fb.nil⟩
 | step _ h2 ih=>
  obtain⟨a1,a2,a3⟩:=ih;obtain⟨b1,b2,b3⟩:=h2;exact⟨by omega,b2,by rw[P7 a1 b1];exact RV a3 b3⟩
def aee(s:List UInt8)(r:Re)(f:Nat)(c:C4):Prop:=∀j,j<256->(c.mem j=aD↔RW r s f j)
end iA
namespace iA
open dT
abbrev RX:=List UInt8
structure RS where
 p:Nat
 o:Nat
 e:Int
def RS.up(st:RS):RS:={st with p:=st.p+1}
def afP:RX:=[48,49,50,51,52,53,54,55,56,57,97,98,99,100,101,102]
def acE:RX:=[40,41,91,93,124,42,43,63,46,94,45,92]
section
variable{s:RX}
structure RY(s:RX)(st st':RS):Prop where
 o:st'.o=st.o
 ge:st.p<=st'.p
 le:st'.p<=s.length
theorem RY.trans{a b c:RS}(h:RY s a b)(h':RY s b c):RY s a c:=⟨by rw[h'.o,h.o],fI h.ge h'.ge,h'.le⟩
theorem RY.refl{st:RS}(h:st.p<=s.length):RY s st st:=⟨rfl,bJ _,h⟩
end
end iA
namespace iA
open dT
def aef(n:Nat):UInt8:=afP.getD n 0
def Vo(b:UInt8):RX:=
 if b=10 then [92,110]else if b=9 then [92,116]else if b=32 then [92,115]
 else if b<33\/126<b then [92,120,aef (b.toNat/16),aef (b.toNat %16)]
 else if b∈acE then [92,b]else [b]
def acF:Nat->List Nat->Nat
 |_,[]=>0
 |b,x::r=>if x=b+1 then acF (b+1) r+1 else 0
def aeg(b k:Nat):RX:=Vo (gv b)++((if 1<k then [45]else [])++(if 0<k then Vo (gv (b+k))else []))
def Nu:Nat->List Nat->RX
 |0,_=>[]
 |_+1,[]=>[]
 |f+1,b::r=>aeg b (acF b r)++Nu f (r.drop (acF b r))
def acG(c:C4):RX:=
 if T6 c=1 then Vo (gv ((xr c).getD 0 0))
 else if T6 c=255/\c.mem 10=aE then [46]
 else if 128<T6 c then [91,94]++(Nu 256 (xr c.not)++[93])
 else [91]++(Nu 256 (xr c)++[93])
def Vp(lv:Nat)(e:Re):Bool:=decide (1<=lv/\e.kind=5\/2<=lv/\e.kind=4\/3<=lv/\e.kind=6)
def wrap(b:Bool)(t:RX):RX:=if b then [40]++(t++[41])else t
def body:Re->RX
 | .empty=>[40,41]
 | .none=>[91,93]
 | .byte c=>acG c
 | .star a=>wrap (Vp 3 a) (body a)++[42]
 | .HQ a b=>wrap (Vp 1 a) (body a)++wrap (Vp 2 b) (body b)
 | .HR a b=>wrap (Vp 0 a) (body a)++([124]++wrap (Vp 1 b) (body b))
section
end
end iA
namespace cZ
open Go.RowKit dr eH Go.ChangeShapes Go.WideShapes Go.ChangeAt
section
variable{H:Type}{enc0:TypeId×Value->H}{P:Program}{W:World}
def RZ{α:Type}(W:World)(is:List Value->α->Prop)(c:Nat)(v:Value)(l:List α):Prop:=
 ∃base cap,v=ap base l.length cap/\l.length<=cap/\cap<=maxLen/\(0<l.length->∃b off,base=aj ⟨b,off,ak⟩/\∀i (h:i<l.length),∃cs,is cs l[i]/\Rd W b (off+i*c) cs)
def uh(enc0:TypeId×Value->H)(P:Program)(W:World)(t:TypeId){α:Type}(is:List Value->α->Prop):Prop:=
 ∀fuel cs x,zz enc0 P W 0 (λ_=>aD) aD fuel t cs=aj x->∃a,is cs a
theorem uh.mono{t:TypeId}{α:Type}{is is':List Value->α->Prop}(h:uh enc0 P W t is)(hi:∀cs a,is cs a->is' cs a):uh enc0 P W t is':=λf cs x hx=>let ⟨a,ha⟩:=h f cs x hx;⟨a,hi _ _ ha⟩
def isInt(k:IntKind)(lo hi:Int)(cs:List Value)(n:Int):Prop:=cs=[.int k n]/\lo<=n/\n<=hi
def aeh(cs:List Value)(s:List UInt8):Prop:=cs=[str s]/\s.length<=9223372036854775807
theorem F0{t:TypeId}{k:IntKind}(ht:P.underlying t=aj (.int k)):uh enc0 P W t (isInt k k.min k.max):=λf cs x h=>by
 obtain⟨n,h1,_,h3⟩:=DataW.trod_int ht h;simp only[Lit.wf,fU,decide_eq_true_eq]at h3;exact⟨n,h1,h3.1,h3.2⟩
theorem R0{t:TypeId}(ht:P.underlying t=aj (.int .i64)):uh enc0 P W t (isInt .i64 (-9223372036854775808) 9223372036854775807):=(F0 ht).mono λcs n h=>⟨h.1,by simpa[zN,oY,lB]using h.2.1,by simpa[zO,oY,lB]using h.2.2⟩
theorem R4{t:TypeId}(ht:P.underlying t=aj (.int .u64)):uh enc0 P W t (isInt .u64 0 18446744073709551615):=(F0 ht).mono λcs n h=>⟨h.1,by simpa[zN,oY,lB]using h.2.1,by simpa[zO,oY,lB]using h.2.2⟩
def aei{α:Type}(W:World)(is:List Value->α->Prop)(c:Nat)(cs:List Value)(l:List α):Prop:=∃v,cs=[v]/\RZ W is c v l
def abJ{α:Type}(is:List Value->α->Prop)(m c:Nat)(cs:List Value)(l:List α):Prop:=l.length=m/\∀i (h:i<l.length),is ((cs.drop (i*c)).take c) l[i]
theorem J'{t e:TypeId}{m c:Nat}(ht:P.underlying t=aj (.array m e))(hc:P.cellsOf e=c){α:Type}{is:List Value->α->Prop}(hd:uh enc0 P W e is):uh enc0 P W t (λcs l=>cs.length=P.cellsOf t/\abJ is m c cs l):=λfuel cs x h=>by
 obtain⟨xs,n,_,_,hl,hlen,hf⟩:=DataW.trod_array ht h;have each:∀i,i<m->∃y:α,is ((cs.drop (i*c)).take c) y:=λi hi=>by
  have h1:=hf i hi;rw[hc,bQ J]at h1;exact hd n _ _ h1
 obtain⟨l,R5,hp⟩:=B6 m each;exact⟨l,hl,R5,λi hi=>hp i _ (bQ hi)⟩
def Vq(k:IntKind)(lo hi:Int)(m:Nat)(cs:List Value)(l:List Int):Prop:=l.length=m/\cs=l.map (.int k)/\∀x∈l,lo<=x/\x<=hi
theorem Ka{k:IntKind}{lo hi:Int}{m:Nat}{cs:List Value}{l:List Int}(hl:cs.length=m)(h:abJ (isInt k lo hi) m 1 cs l):Vq k lo hi m cs l:=by
 obtain⟨h1,h2⟩:=h;refine⟨h1,?_,λx hx=>?_⟩
 ·apply mG
  intro i
  by_cases hi:i<l.length
  ·have h3:=(h2 i hi).1
   rw[kR]at h3;have hic:i<cs.length:=by omega
   rw[ff hic,sm,tU]at h3;injection h3 with h3 _
   rw[bQ hic,fx,bQ hi,h3];rfl
  rw[jE J,jE (by simp;omega)]
 obtain⟨i,hi,rfl⟩:=jt.1 hx;exact(h2 i hi).2
theorem Zw{t:TypeId}{fs:Array Field}(ht:P.underlying t=aj (.struct fs)){base:Nat}{v:Value}{d:DataW H}{ps:List MemPlace}(hv:HG P W .any base t v)(h:Ux enc0 P W 0 (λ_=>aD) aD t v d ps):∃cs fuel,v= .agg cs/\zz enc0 P W 0 (λ_=>aD) aD fuel t cs.toList=aj (d,ps):=by
 simp only[HG,ht]at hv;obtain⟨cs,rfl,_,_⟩:=hv;obtain⟨fuel,hf⟩:=h;exact⟨cs,fuel,rfl,hf⟩
end
theorem RZ.sl{α:Type}{W:World}{is:List Value->α->Prop}{f:α->Value}{v:Value}{l:List α}(h:RZ W is 1 v l)(hf:∀cs a,is cs a->cs=[f a]):Sl W v l.length (l.map f):=by
 obtain⟨base,cap,h1,h2,h3,h4⟩:=h;refine⟨base,cap,h1,h2,h3,λh0=>?_⟩;obtain⟨b,off,h5,h6⟩:=h4 h0;refine⟨b,off,h5,λj u hj=>?_⟩;have U5:j<l.length:=by simpa using(dv.1 hj).1
 obtain⟨cs,h7,h8⟩:=h6 j U5;have:=h8 0 (f l[j]) (by rw[hf _ _ h7];rfl);simp only[kR,iO]at this;rw[this,<-hj];simp[U5]
theorem RZ.up{α:Type}{W w:World}{L:List cU}{is:List Value->α->Prop}{c:Nat}{v:Value}{l:List α}(h:RZ W is c v l)(hm:Mem W L w):RZ w is c v l:=by
 obtain⟨base,cap,h1,h2,h3,h4⟩:=h;exact⟨base,cap,h1,h2,h3,λh0=>let ⟨b,off,h5,h6⟩:=h4 h0;⟨b,off,h5,λi hi=>let ⟨cs,h7,h8⟩:=h6 i hi;⟨cs,h7,λj u hj=>hm.cell (h8 j u hj)⟩⟩⟩
end cZ
namespace cZ
open Go.RowKit dr eH
section
variable{α:Type}{f:α->List Value}{c:Nat}
theorem ui(hc:∀a,(f a).length=c):∀(l:List α) (k j:Nat) (h:k<l.length),j<c->(l.flatMap f)[k*c+j]?=(f l[k])[j]?
 |a::r,0,j,h,hj=>by
  rw[lC,fH (by rw[hc];omega)];simp
 |a::r,k+1,j,h,hj=>by
  have ih:=ui hc r k j (by simpa using h) hj;rw[lC,mC (by rw[hc,kQ];omega),hc];simp only[UP];rw[<-ih,kQ]
  congr 1
  omega
theorem lD(hc:∀a,(f a).length=c):∀(l:List α),(l.flatMap f).length=l.length*c
 |[]=>by simp
 |a::r=>by rw[lC,bT,hc,lD hc r,dE,kQ,Nat.add_comm]
theorem iB(hc:∀a,(f a).length=c){W:World}{L:List cU}{b off:Nat}{l:List α}(h:Rd W b off (l.flatMap f)){k:Nat}(hk:k<l.length)(j:Nat)(u:Value)(hu:(f l[k])[j]?=aj u):At W L ⟨b,off+k*c+j,ak⟩ u:=by
 have hj:j<c:=by rw[<-hc l[k]];exact(dv.1 hu).1
 rw[l6];exact jb h (by rw[ui hc l k j hk hj];exact hu)
theorem uj(hc:∀a,(f a).length=c){W:b9}{L:List cU}{b off:Nat}{l:List α}(h:∀j u,(l.flatMap f)[j]?=aj u->At W L ⟨b,off+j,ak⟩ u){k:Nat}(hk:k<l.length)(j:Nat)(u:Value)(hu:(f l[k])[j]?=aj u):At W L ⟨b,off+k*c+j,ak⟩ u:=by
 have hj:j<c:=by rw[<-hc l[k]];exact(dv.1 hu).1
 rw[l6];exact h _ _ (by rw[ui hc l k j hk hj];exact hu)
theorem ru(hc:∀a,(f a).length=c){W:b9}{L:List cU}{i g m cap n size:Nat}{e:TypeId}{l:List α}(hi:L[i]?=aj (bD e size (ap (aj ⟨g,0,ak⟩) m cap) n (l.flatMap f))){k:Nat}(hk:k<l.length)(j:Nat)(u:Value)(hu:(f l[k])[j]?=aj u):At W L ⟨g,0+k*c+j,ak⟩ u:=
 uj hc (off:=0) (λq x hq=>by rw[du];exact kx hi hq) hk j u hu
end
def rv{α:Type}(p:α->Bool)(l:List α):Int:=match l.findIdx? p with|some i=>i|none=> -1
theorem ry{α:Type}{p:α->Bool}{l:List α}{i:Nat}(hi:i<l.length)(h:p l[i]=aD)(hb:∀j (hj:j<l.length),j<i->p l[j]=aE):rv p l=i:=by
 have:l.findIdx? p=aj i:=M7.2 ⟨hi,h,λj Y9=>by simpa using hb j J Y9⟩;simp[rv,this]
theorem rz{α:Type}{p:α->Bool}{l:List α}(hb:∀j (hj:j<l.length),p l[j]=aE):rv p l= -1:=by
 have:l.findIdx? p=none:=UL.2 λx hx=>by
  obtain⟨j,hj,rfl⟩:=jt.1 hx;exact hb j hj
 simp[rv,this]
theorem uk{α:Type}(p:α->Bool)(l:List α):decide (0<=rv p l)=l.any p:=by
 unfold rv
 cases e:l.findIdx? p with
 | none=>
  have:=UL.1 e;have h2:l.any p=false:=by
   rw[List.any_eq_false];intro x hx;simp[this x hx]
  rw[h2];rfl
 |some i=>
  obtain⟨h1,h2,_⟩:=M7.1 e;have h3:l.any p=true:=oc.2 ⟨l[i],cV h1,h2⟩;rw[h3];simp
theorem ph{α:Type}(p:α->Bool)(l:List α): -1<=rv p l/\rv p l<l.length\/rv p l= -1:=by
 unfold rv
 cases e:l.findIdx? p with
 |none=>right;rfl
 |some i=>
  obtain⟨h1,h2,_⟩:=M7.1 e
  left;simp only;omega
section
variable{P:Program}{n:Nat}{W:b9}{fr:Fr}{L:List cU}{Q:Exit->Act->World->Prop}{ops:Array Oper}{rest:List Oper}{d:Nat}{dst:Option Tmp}{ty:TypeId}{pos:String}{after:Array Edge}{guard:Option (Nat×Bool)}
theorem ki{t e u:TypeId}{x y:Operand}{a:Option Addr}{m c:Nat}{b:Bool}(ht:P.underlying t=aj (.slice e))(hx:ev fr x=aj (ap a m c))(hy:ev fr y=aj (ap ak 0 0))(hb:a.isNone=b):RR P n W ⟨dst,.binOp .eql t x y u,ty,pos,after,guard⟩ fr L (.bool b):= .mk λac w hr _=>by
 subst hb;have e1:(eqGuard .eql t x y (ap a m c) (ap ak 0 0)).run P w= .ok () w:=rfl;simp[execOp,hr.ev hx,hr.ev hy,e1,Go.Lib.run_eql_slice_nil w t e a m c 0 0 ht]
theorem wj{t e:TypeId}{c bytes:Nat}[ub:tA P t e c bytes](hn:dM d n=aD)
 (h:∀g,TL P n W ops Q rest ((d,ap (aj ⟨g,0,ak⟩) 0 0)::fr) (L++[bD e c (ap (aj ⟨g,0,ak⟩) 0 0) 0 []])):TL P n W ops Q (⟨aj d,.buildSlice t 0 #[],ty,pos,after,ak⟩::rest) fr L:=kU I λa w hr hm K hK=>by
 obtain⟨i,z,ht,hi,hz,hc,_,hzc,h0⟩:=ub.el.ex;have e':(execOp a.eval ⟨aj d,.buildSlice t 0 #[],ty,pos,after,ak⟩).run P w= .ok (.value (ap (aj ⟨w.heap.size,0,ak⟩) 0 0)) (w.alloc (.cells #[] e)):=by
  have hne:¬(0*c>2^24):=by omega
  simp[execOp,tN,run_underlying ht,sizeOf,typeInfo,hi,jP,newRow];have e0:CB 0=#[]:=by simp
  rw[e0,Array.map_empty]
 unfold gG;rw[e'];exact hK _ _ ((h w.heap.size).go _ _ (hr.put hn _) (hm.append (pg w _) (nO.one (World.ownsRow_made w #[] 0 (bO _) ahk (by simp)) λk hk=>by
  have:w.heap.size=k:=o9 hk;omega)))
theorem fc{t e:TypeId}{s x:Operand}{i size bytes m k:Nat}{v v2:Value}{xs ys:List Value}[ub:tA P t e size bytes](hi:L[i]?=aj (bD e size v m xs))(gh:Y8 W L v2 k ys)(hs:ev fr s=aj v)(hx:ev fr x=aj v2)(hk:ys.length=k*size)
 (h1:∀u∈ys,u.oneCell'=aD) (r9:m+k<=140737488355328) (hb:(m+k)*bytes<=140737488355328) (hn:dM d n=aD)
 (h:∀v',TL P n W ops Q rest ((d,v')::fr) (L.set i (bD e size v' (m+k) (xs++ys)))):
 TL P n W ops Q (⟨aj d,.call {callee:= .builtin .append,args:=#[s,x],argTypes:=#[t,t]},ty,pos,after,ak⟩::rest) fr L:=⟨λa w hr hm=>by
 obtain⟨base,cap,rfl,oQ,xt,fl⟩:=gh w hm;have tv:ys=[]->L.set i (bD e size v (m+0) (xs++[]))=L:=λ_=>by
  rw[eB,iO];apply mG;intro q
  by_cases hq:i=q
  ·subst hq
   rw[mE (dv.1 hi).1,hi]
  rw[mD hq]
 cases base with
 | none=>
  have hk0:k=0:=by
   rcases U1 k with h|h
   exact h;obtain⟨b,off,h,_⟩:=fl h;cases h
  subst hk0;have hy:ys=[]:=si (by rw[hk];simp);subst hy;have h2:=h v;rw[tv I]at h2;exact(Np ub.el hi hs hx hn h2).go a w hr hm
 | some p=>
  have afQ:∀j u,ys[j]?=aj u->w.cell? (p.add j)=aj u:=λj u hj=>by
   obtain⟨b,off,hb,hr⟩:=fl (by
    rcases U1 k with h|h
    ·subst h
     have:=(dv.1 hj).1;rw[hk]at this;simp at this
    exact h)
   simp only[dB]at hb;subst hb;rw[fv];exact hr j u hj
  exact HO (c:=cap) ub.el hi hs hx afQ hk h1 r9 hb hn h hr hm⟩
theorem aY{i size m:Nat}{e:TypeId}{v:Value}{xs:List Value}(hi:L[i]?=aj (bD e size v m xs))(h:v.cells=#[v]->v.oneCell'=aD->TL P n W ops Q rest fr L):TL P n W ops Q rest fr L:=⟨λa w hr hm=>by
 have h1:w.ownsRow 0 e size v m xs:=hm.get hi;rcases h1.2 with⟨hv,_⟩|⟨g,cap,kg,hv,_⟩
 exact(h (by rw[hv];rfl) (by rw[hv];rfl)).go a w hr hm;exact(h (by rw[hv];rfl) (by rw[hv];rfl)).go a w hr hm⟩
def tB(base:Option Addr)(cap c i j:Nat):Value:=ap (if cap=i then base else base.map (λ(q:Addr)=>q.add (i*c))) (j-i) (cap-i)
theorem Kb{t e:TypeId}{x:Operand}{lo hi:Option Operand}{agg:Bool}{c i j len cap:Nat}{base:Option Addr}(ht:P.underlying t=aj (.slice e))(he:Ty P e agg c)(hx:ev fr x=aj (ap base len cap))
 (P1:match lo with|none=>i=0|some z=>∃k,ev fr z=aj (.int k (i:Int))) (RL:match hi with|none=>j=len|some z=>∃k,ev fr z=aj (.int k (j:Int))) (h1:i<=j) (h2:j<=cap):
 RR P n W ⟨dst,.slice t x lo hi ak,ty,pos,after,guard⟩ fr L (tB base cap c i j):= .mk λa w hr _=>by
 have e0:(0:Int)<=(i:Int):=by omega
 have hb:∀(k:IntKind) (p q:Nat) (cd:BoundsCode),p<=q->(HD (.int k (p:Int)) q cd).run P w= .ok p w:=λk p q cd h=>by
  have:(0:Int)<=(p:Int)/\(p:Int)<=(q:Int):=by omega
  simp[HD,asIntOf,this]
 unfold tB
 cases lo<;>cases hi
 ·simp only at P1 RL
  subst P1 RL;simp[execOp,hr.ev hx,sf,sg,run_underlying ht,se,he.size]
 ·obtain⟨k,hk⟩:=RL
  simp only at P1;subst P1;simp[execOp,hr.ev hx,hr.ev hk,sf,sg,run_underlying ht,se,he.size,hb k j cap _ h2]
 ·obtain⟨k,hk⟩:=P1
  simp only at RL;subst RL;simp[execOp,hr.ev hx,hr.ev hk,sf,sg,run_underlying ht,se,he.size,hb k i j _ h1]
 ·obtain⟨k,hk⟩:=P1
  obtain⟨k',mZ⟩:=RL;simp[execOp,hr.ev hx,hr.ev hk,hr.ev mZ,sf,sg,run_underlying ht,se,he.size,hb k i j _ h1,hb k' j cap _ h2]
theorem oR{t e:TypeId}{x z:Operand}{agg:Bool}{c i len cap:Nat}{base:Option Addr}{k:IntKind}(ht:P.underlying t=aj (.slice e))(he:Ty P e agg c)(hx:ev fr x=aj (ap base len cap))(hz:ev fr z=aj (.int k (i:Int)))(h1:i<=len)(h2:len<=cap):
 RR P n W ⟨dst,.slice t x (aj z) ak ak,ty,pos,after,guard⟩ fr L (tB base cap c i len):=Kb (lo:=aj z) (hi:=ak) ht he hx ⟨k,hz⟩ I h1 h2
theorem zZ{t e:TypeId}{x z:Operand}{agg:Bool}{c j len cap:Nat}{base:Option Addr}{k:IntKind}(ht:P.underlying t=aj (.slice e))(he:Ty P e agg c)(hx:ev fr x=aj (ap base len cap))(hz:ev fr z=aj (.int k (j:Int)))(h2:j<=cap):
 RR P n W ⟨dst,.slice t x ak (aj z) ak,ty,pos,after,guard⟩ fr L (tB base cap c 0 j):=Kb (lo:=ak) (hi:=aj z) ht he hx I ⟨k,hz⟩ (bO _) h2
theorem Zx{t u s:TypeId}{x y z:Operand}{m m' m2 r:Int}(hx:ev fr x=aj (av az m))(hy:ev fr y=aj (av az m'))(hz:ev fr z=aj (av az m2))(h:min m (min m' m2)=r):RR P n W ⟨dst,.call {callee:= .builtin .min,args:=#[x,y,z],argTypes:=#[t,u,s]},ty,pos,after,guard⟩ fr L (av az r):= .mk λa w hr _=>by
 subst h;have h1:=hr.ev hx;have h2:=hr.ev hy;have h3:=hr.ev hz;have e:∀a b:Int,(if b<a then b else a)=min a b:=λa b=>by split<;>omega
 simp[lZ,Up,h1,h2,h3,Uq,Ur,e,Int.min_assoc]
theorem CZ{α:Type}{f:α->List Value}{c:Nat}(hc:∀a,(f a).length=c){w:World}{base:Option Addr}{cap:Nat}{l:List α}(h:Sl w (ap base l.length cap) l.length (l.flatMap f)){i j:Nat}(h1:i<=j)(h2:j<=l.length):
 Sl w (tB base cap c i j) ((l.drop i).take (j-i)).length (((l.drop i).take (j-i)).flatMap f):=by
 obtain⟨b,cp,he,k1,k2,k3⟩:=h;simp only[jQ,true_and]at he;obtain⟨rfl,rfl⟩:=he;have hlen:((l.drop i).take (j-i)).length=j-i:=by simp;omega
 refine⟨_,cap-i,by rw[hlen];rfl,by rw[hlen];omega,by omega,λh0=>?_⟩;rw[hlen]at h0;obtain⟨b,off,rfl,hr⟩:=k3 J;refine⟨b,off+i*c,by rw[if_neg J,Option.map_some,fv],λq u hq=>?_⟩;have e:l.flatMap f=(l.take i).flatMap f++((l.drop i).take (j-i)).flatMap f++((l.drop i).drop (j-i)).flatMap f:=by
  rw[<-fV,<-fV,eZ,tP,tP]
 have Nv:((l.take i).flatMap f).length=i*c:=by rw[lD hc,jR,zU J]
 have:=hr (i*c+q) u (by
  rw[e,eZ,mC J,Nv,Nat.add_sub_cancel_left,fH (dv.1 hq).1];exact hq)
 rw[l6];exact this
theorem nJ{i size m:Nat}{e:TypeId}{v:Value}{xs:List Value}(hi:L[i]?=aj (bD e size v m xs))(h:∀base cap,v=ap base m cap->m<=cap->cap<=9223372036854775807->TL P n W ops Q rest fr L):TL P n W ops Q rest fr L:=⟨λa w hr hm=>by
 have h1:w.ownsRow 0 e size v m xs:=hm.get hi;obtain⟨base,cap,hv,oQ,xt,_⟩:=Sl.dY h1;exact(h base cap hv oQ (by unfold maxLen at xt;omega)).go a w hr hm⟩
theorem HV{c:Code}{i size m:Nat}{e:TypeId}{v:Value}{xs:List Value}(hi:L[i]?=aj (bD e size v m xs))(h:∀base cap,v=ap base m cap->m<=cap->cap<=9223372036854775807->T P n W c Q fr L):T P n W c Q fr L:=⟨λa w hr hm=>by
 have h1:w.ownsRow 0 e size v m xs:=hm.get hi;obtain⟨base,cap,hv,oQ,xt,_⟩:=Sl.dY h1;exact(h base cap hv oQ (by unfold maxLen at xt;omega)).go a w hr hm⟩
theorem abK{c:Code}{i size m:Nat}{e:TypeId}{v:Value}{xs:List Value}(hi:L[i]?=aj (bD e size v m xs))(h:v.cells=#[v]->v.oneCell'=aD->T P n W c Q fr L):T P n W c Q fr L:=⟨λa w hr hm=>by
 have h1:w.ownsRow 0 e size v m xs:=hm.get hi;obtain⟨base,cap,hv,_⟩:=Sl.dY h1;exact(h (by rw[hv];rfl) (by rw[hv];rfl)).go a w hr hm⟩
def F3(fr:Fr):List Operand->Option (List Value)
 |[]=>aj []
 |x::r=>match ev fr x,F3 fr r with|some v,aj l=>aj (v::l)|_,_=>ak
theorem C0{a:Act}(hr:nH n a fr):∀(l:List Operand) (vs:List Value),F3 fr l=aj vs->l.map a.eval=vs
 |[],vs,h=>by simp only[F3,dB]at h;subst h;rfl
 | x ::r,vs,h=>by
  simp only[F3]at h;split at h
  ·rename_i v l h1 h2
   simp only[dB]at h;subst h;simp[hr.ev h1,C0 hr r l h2]
  cases h
theorem wk{fn:Fn}{first cap:Array Operand}{vs us:List Value}(h1:F3 fr first.toList=aj vs)(h2:F3 fr cap.toList=aj us):RR P n W ⟨dst,.makeFunc fn first cap,ty,pos,after,guard⟩ fr L (.func fn vs.toArray us.toArray):= .mk λa w hr _=>by
 have e1:first.map a.eval=vs.toArray:=by rw[<-C0 hr _ _ h1,<-CA,xd]
 have e2:cap.map a.eval=us.toArray:=by rw[<-C0 hr _ _ h2,<-CA,xd]
 simp only[execOp,e1,e2];rfl
end
end cZ
namespace cZ
open Go.RowKit dr eH Go.ChangeShapes Go.WideShapes Go.ChangeAt
structure Zy(P:Program)(H:Type) where
 ok:TypeId->DataW H->Prop
 lim:TypeId->Nat->Prop
 acH:Nat->Prop
 zero:∀e,lim e 0
 slice:∀{t e:TypeId} {elems spare:List (DataW H)},P.underlying t=aj (.slice e)->ok t (.slice elems spare)->lim e elems.length/\∀d∈elems,ok e d
 Vr:∀{t:TypeId} {fs:Array Field} {parts:List (DataW H)},P.underlying t=aj (.struct fs)->ok t (.agg parts)->∀(i:Nat) (f:Field) (d:DataW H),fs[i]?=aj f->parts[i]?=aj d->ok f.type d
 arr:∀{t e:TypeId} {m:Nat} {parts:List (DataW H)},P.underlying t=aj (.array m e)->ok t (.agg parts)->∀d∈parts,ok e d
 str:∀{t:TypeId} {b:List UInt8},ok t (.lit (.string b))->acH b.length
section
variable{H:Type}{P:Program}
theorem ul{e:TypeId}:∀(l:List (DataW H)) (d:DataW H),d∈l->∀n∈d.weights P e,n∈CE P e l
 |[],_,h,_,_=>by cases h
 |x::r,d,h,n,hn=>by
  rw[CE,fC];rcases ez.1 h with rfl|h
  exact .inl hn;exact .inr (ul r d h n hn)
theorem sy:∀(ts:List TypeId) (l:List (DataW H)) (i:Nat) (t:TypeId) (d:DataW H),ts[i]?=aj t->l[i]?=aj d->∀n∈d.weights P t,n∈xf P ts l
 |[],_,_,_,_,h,_,_,_=>by simp at h
 |_::_,[],_,_,_,_,h,_,_=>by simp at h
 |t0::ts,d0::l,0,t,d,ht,hd,n,hn=>by
  simp only[sj,dB]at ht hd;subst ht hd;rw[xf,fC];exact .inl hn
 |t0::ts,d0::l,i+1,t,d,ht,hd,n,hn=>by
  rw[xf,fC];exact .inr (sy ts l i t d (by simpa using ht) (by simpa using hd) n hn)
def P8(P:Program)(H:Type):Zy P H where
 ok t d:=∀n∈d.weights P t,n<=reachBytes
 lim e n:=n*P.bytesOf e<=reachBytes
 acH n:=n<=reachBytes
 zero e:=by simp
 slice:=λ{t e elems spare} ht h=>by
  have hw:xg P t (.slice elems spare)=(elems.length+spare.length)*P.bytesOf e::(CE P e elems++CE P e spare):=by rw[xg,ht]
  rw[hw]at h;refine⟨?_,λd hd n hn=>h n ?_⟩
  ·have h1:=h _ (ir)
   exact fI (o8 _ J) h1
  exact List.mem_cons_of_mem _ (tV _ (ul elems d hd n hn))
 Vr:=λ{t fs parts} ht h i f d hf hd n hn=>by
  have hw:xg P t (.agg parts)=xf P (fs.toList.map (·.type)) parts:=by rw[xg,ht]
  rw[hw]at h;exact h n (sy _ _ i f.type d (by rw[fx,Array.getElem?_toList,hf];rfl) hd n hn)
 arr:=λ{t e m parts} ht h d hd n hn=>by
  have hw:xg P t (.agg parts)=CE P e parts:=by rw[xg,ht]
  rw[hw]at h;exact h n (ul parts d hd n hn)
 str:=λ{t b} h=>h _ (by rw[xg];exact ir)
theorem Kc{ts:List TypeId}{ds:List (DataW H)}(hsz:(xf P ts ds).all (· <=reachBytes)=aD)(j:Nat){t:TypeId}{d:DataW H}(ht:ts[j]?=aj t)(hd:ds[j]?=aj d):(P8 P H).ok t d:=λn hn=>by
 have:=sk.1 hsz n (sy ts ds j t d ht hd n hn)
 simpa using this
end
section
variable{H:Type}{enc0:TypeId×Value->H}{P:Program}{W:World}{M:Zy P H}
def kW(M:Zy P H)(enc0:TypeId×Value->H)(W:World)(t:TypeId){α:Type}(is:List Value->α->Prop):Prop:=
 ∀fuel cs x,zz enc0 P W 0 (λ_=>aD) aD fuel t cs=aj x->M.ok t x.1->∃a,is cs a
theorem kW.mono{t:TypeId}{α β:Type}{is:List Value->α->Prop}{is':List Value->β->Prop}(h:kW M enc0 W t is)(hi:∀cs a,is cs a->∃b,is' cs b):kW M enc0 W t is':=λf cs x hx hm=>let ⟨_,ha⟩:=h f cs x hx hm;hi _ _ ha
theorem F4{t:TypeId}{α:Type}{is:List Value->α->Prop}(h:uh enc0 P W t is):kW M enc0 W t is:=λf cs x hx _=>h f cs x hx
theorem Nw{t:TypeId}(ht:P.underlying t=aj (.int .i64)):kW M enc0 W t (isInt .i64 (-9223372036854775808) 9223372036854775807):=F4 (R0 ht)
theorem xu{t:TypeId}(ht:P.underlying t=aj .string):kW M enc0 W t (λcs s=>aeh cs s/\M.acH s.length):=λf cs x h hm=>by
 obtain⟨s,h1,h2,h3⟩:=DataW.trod_string ht h;refine⟨s.data.toList,⟨by rw[h1,U8],?_⟩,?_⟩
 ·have e:s.data.toList.length=s.size:=nj
  unfold maxLen at h3;omega
 rw[h2]at hm;exact M.str hm
theorem sA{t e:TypeId}{c:Nat}(ht:P.underlying t=aj (.slice e))(hc:P.cellsOf e=c)(JO:0<c){α:Type}{is:List Value->α->Prop}(hd:kW M enc0 W e is)(_:∀cs a,is cs a->cs.length=c):kW M enc0 W t (λcs l=>aei W is c cs l/\M.lim e l.length):=λfuel cs x h hm=>by
 rcases Uw ht h with⟨rfl,_⟩|⟨a,len,cap,elems,rest,n,_,rfl,hx,_,hlc,hmx,ub,CK,_⟩
 exact⟨[],⟨_,rfl,ak,0,rfl,bJ _,by decide,λh=>by simp at h⟩,M.zero e⟩;rw[hx]at hm;obtain⟨C1,qQ⟩:=M.slice ht hm;have each:∀i,i<len->∃y:α,∃cs,W.cells? 0 (a.add (i*c)) c=aj cs/\is cs y:=λi hi=>by
  have h1:=CK i hi;rw[hc,bQ J]at h1
  cases hcell:W.cells? 0 (a.add (i*c)) c with
  |none=>rw[hcell]at h1;simp at h1
  | some cs=>
   rw[hcell]at h1;obtain⟨y,hy⟩:=hd n cs _ h1 (qQ _ (e7.2 ⟨_,cV J,rfl⟩));exact⟨y,cs,rfl,hy⟩
 obtain⟨l,R5,hp⟩:=B6 len each;subst R5;refine⟨l,⟨_,rfl,aj a,cap,rfl,hlc,hmx,λh0=>?_⟩,by rw[dX,ub]at C1;exact C1⟩;obtain⟨cs0,h1,h2⟩:=hp 0 l[0] (bQ h0);have h3:=(kS h1).2 0 JO;have hlen:=(kS h1).1;rw[bQ J]at h3;have hsp:=FT h3;have e0:a.spot=none:=by
  rw[HK]at hsp;unfold zx at hsp
  simpa using hsp
 obtain⟨b,off,spot⟩:=a;simp only at e0;subst e0;refine⟨b,off,rfl,λi hi=>?_⟩;obtain⟨cs,h4,h5⟩:=hp i l[i] (bQ hi);refine⟨cs,h5,λj u hj=>?_⟩;have U5:j<c:=by have:=(dv.1 hj).1;rw[(kS h4).1]at this;exact this
 have h6:=(kS h4).2 j U5;rw[fv,fv]at h6;rw[h6];exact hj
theorem z8{t:TypeId}{fs:Array Field}(ht:P.underlying t=aj (.struct fs)){fuel:Nat}{cs:List Value}{x:DataW H×List MemPlace}(h:zz enc0 P W 0 (λ_=>aD) aD fuel t cs=aj x)(hm:M.ok t x.1):
 cs.length=P.cellsOf t/\∀(i:Nat) (f:Field),fs[i]?=aj f->∀{α:Type} {is:List Value->α->Prop},kW M enc0 W f.type is->∃a,is ((cs.drop f.offset).take (P.cellsOf f.type)) a:=by
 obtain⟨xs,n,_,hx,hl,hlen,hf⟩:=Uv ht h;refine⟨hl,λi f hi α is ho=>?_⟩;have h1:=hf i f hi;have hlt:i<xs.length:=by rw[hlen];exact(lA.1 hi).1
 rw[bQ hlt]at h1;rw[hx]at hm;exact ho n _ _ h1 (M.Vr ht hm i f _ hi (by rw[fx,bQ hlt];rfl))
theorem Vs{t:TypeId}{fs:Array Field}(ht:P.underlying t=aj (.struct fs)){base:Nat}{v:Value}{d:DataW H}{ps:List MemPlace}(hv:HG P W .any base t v)(h:Ux enc0 P W 0 (λ_=>aD) aD t v d ps){α:Type}{is:List Value->α->Prop}(ho:kW M enc0 W t is)(hm:M.ok t d):∃cs a,v= .agg cs/\is cs.toList a:=by
 obtain⟨cs,fuel,rfl,hf⟩:=Zw ht hv h;obtain⟨a,ha⟩:=ho fuel cs.toList _ hf hm;exact⟨cs,a,rfl,ha⟩
end
theorem RZ.flat{α:Type}{W:World}{is:List Value->α->Prop}{f:α->List Value}{c:Nat}{v:Value}{l:List α}(h:RZ W is c v l)(hc:∀a,(f a).length=c)(JO:0<c)(hf:∀cs a,is cs a->cs=f a):Sl W v l.length (l.flatMap f):=by
 obtain⟨base,cap,h1,h2,h3,h4⟩:=h;refine⟨base,cap,h1,h2,h3,λh0=>?_⟩;obtain⟨b,off,h5,h6⟩:=h4 h0;refine⟨b,off,h5,λj u hj=>?_⟩;have U5:=(dv.1 hj).1;rw[J1 hc]at U5;have hi:j/c<l.length:=(U0 JO).2 U5;have acI:=CJ j JO;have hdm:j/c*c+j %c=j:=by rw[Nat.mul_comm];exact Nat.div_add_mod j c
 obtain⟨cs,h7,h8⟩:=h6 (j/c) hi;rw[hf _ _ h7]at h8;have h9:=A2 hc l (j/c) (j %c) l[j/c] (bQ hi) acI;rw[hdm]at h9;rw[h9]at hj;have:=h8 (j %c) u hj;rw[l6,hdm]at this;exact this
end cZ
namespace cZ
open Go.RowKit dr eH
section
variable{P:Program}{n:Nat}{W:b9}{fr:Fr}{L:List cU}{Q:Exit->Act->World->Prop}{ops:Array Oper}{rest:List Oper}{d:Nat}{dst:Option Tmp}{ty:TypeId}{pos:String}{after:Array Edge}{guard:Option (Nat×Bool)}
theorem um{t e:TypeId}{x y:Operand}{c bytes m cap:Nat}{k k':IntKind}{zs:Array Value}[ub:tA P t e c bytes][hz0:fm P e zs](hx:ev fr x=aj (.int k (m:Int)))(hy:ev fr y=aj (.int k' (cap:Int)))(P9:m<=cap)(hb:bytes*cap<=281474976710656)(r9:cap<=9223372036854775807)(hn:dM d n=aD)
 (h:∀g,TL P n W ops Q rest ((d,ap (aj ⟨g,0,ak⟩) m cap)::fr) (L++[aR g (madeCells zs (cap*c)) e])):TL P n W ops Q (⟨aj d,.makeSlice t x y,ty,pos,after,ak⟩::rest) fr L:=kU I λa w hr hm K hK=>by
 obtain⟨i,z,ht,hi,hz,hc,JN,hzc,h0⟩:=ub.el.ex;obtain⟨i2,z2,R6,hz2,hz3⟩:=fm.ex (P:=P) (t:=e);rw[hi]at R6;obtain rfl:i=i2:=o9 R6;rw[hz]at hz2;obtain rfl:z=z2:=o9 hz2;have MJ:(i.bytes:Int)*(cap:Int)<=281474976710656:=by
  rw[JN,<-Int.natCast_mul];omega
 have hrun:=run_make (P:=P) w t e i z ht hi hz k k' (m:Int) (cap:Int) J J MJ J;rw[dP,dP,hc,hz3]at hrun;have e':(execOp a.eval ⟨aj d,.makeSlice t x y,ty,pos,after,ak⟩).run P w= .ok (.value (ap (aj ⟨w.heap.size,0,ak⟩) m cap)) (w.alloc (.cells (madeCells zs (cap*c)) e)):=by
  simp only[execOp,hr.ev hx,hr.ev hy,l5,hrun,n',mB]
 unfold gG;rw[e'];exact hK _ _ ((h w.heap.size).go _ _ (hr.put hn _) (hm.append (pg w _) (nO.one (heap_alloc_new w _) λk hk=>by simp only[aR,dB]at hk;omega)))
theorem Mem.Vt{w:World}{i g m cap size:Nat}{cs:Array Value}{e:TypeId}(h:Mem W L w)(hi:L[i]?=aj (aR g cs e))(hc:cs.size=cap*size)(P9:m<=cap)(lR:cap<=9223372036854775807):Mem W (L.set i (bD e size (ap (aj ⟨g,0,ak⟩) m cap) m (cs.toList.take (m*size)))) w:=
 h.BG hi ⟨rfl,rfl,rfl,bJ _,λ_ _ _=>rfl⟩ ⟨by rw[jR,nj,hc,zU (o8 _ P9)],.inr ⟨g,cap,cs,rfl,bO _,h.get hi,P9,by unfold maxLen;omega,hc,rfl⟩⟩ λk hk=> .inl hk
theorem F5{i g m cap:Nat}{cs:Array Value}{e:TypeId}(size:Nat)(hi:L[i]?=aj (aR g cs e))(hc:cs.size=cap*size)(P9:m<=cap)(lR:cap<=9223372036854775807)(h:TL P n W ops Q rest fr (L.set i (bD e size (ap (aj ⟨g,0,ak⟩) m cap) m (cs.toList.take (m*size))))):TL P n W ops Q rest fr L:=
 ⟨λa w hr tw=>h.go a w hr (tw.Vt hi hc P9 lR)⟩
theorem Vu{c:Code}{i g m cap:Nat}{cs:Array Value}{e:TypeId}(size:Nat)(hi:L[i]?=aj (aR g cs e))(hc:cs.size=cap*size)(P9:m<=cap)(lR:cap<=9223372036854775807)(h:T P n W c Q fr (L.set i (bD e size (ap (aj ⟨g,0,ak⟩) m cap) m (cs.toList.take (m*size))))):T P n W c Q fr L:=
 ⟨λa w hr tw=>h.go a w hr (tw.Vt hi hc P9 lR)⟩
theorem lE{i g m cap:Nat}{cs:Array Value}{T:TypeId}{xs:List Value}(hi:L[i]?=aj (aR g cs T))(hx:∀(j:Nat) (u:Value),xs[j]?=aj u->cs[j]?=aj u)(P9:m<=cap)(lR:cap<=9223372036854775807):Y8 W L (ap (aj ⟨g,0,ak⟩) m cap) m xs:=λw hm=>
 ⟨_,cap,rfl,P9,by unfold maxLen;omega,λ_=>⟨g,0,rfl,λj u hj=>by
  rw[du];exact aH hi (hx j u hj) w hm⟩⟩
end
theorem abL{z:Array Value}{k m:Nat}(h:z.size=k)(h0:0<k):madeCells z (m*k)=((dJ m z.toList).flatten).toArray:=by
 subst h;apply Ul;intro j;unfold madeCells
 by_cases hj:j<m*z.size
 ·have h2:j/z.size<m:=(U0 h0).2 hj
  have h3:=CJ j h0;have key:∀(m j:Nat),j<m*z.size->((dJ m z.toList).flatten)[j]?=z.toList[j %z.size]?:=by
   intro m
   induction m with
   |zero=>intro j hj;simp at hj
   | succ m ih=>
    intro j hj;rw[List.replicate_succ,zT]
    by_cases hc:j<z.size
    rw[fH (by simpa using hc),Nat.mod_eq_of_lt hc];rw[mC (by simp;omega)];simp only[nj];rw[ih (j-z.size) (by rw[kQ]at hj;omega)]
    congr 1
    exact(Nat.mod_eq_sub_mod J).symm
  simp only[kt,key m j hj];simp[hj,h3]
 have:((dJ m z.toList).flatten).length=m*z.size:=by simp
 rw[Array.getElem?_eq_none (by simp;omega),kt,jE J]
theorem F6:∀(xs:List Value) (acc:Array Value) (off k:Nat),off+k+xs.length<=acc.size->(xs.toArray.zipIdx k).foldl (λcs (x:Value×Nat)=>cs.setIfInBounds (off+x.2) x.1) acc=(acc.toList.take (off+k)++xs++acc.toList.drop (off+k+xs.length)).toArray
 | [],acc,off,k,_=>by
  have e0:(([]:List Value).toArray.zipIdx k)=#[]:=by apply qJ;simp
  rw[e0];simp
 | x ::xs,acc,off,k,h=>by
  simp only[dE]at h;have e:(x::xs).toArray.zipIdx k=#[(x,k)]++xs.toArray.zipIdx (k+1):=by
   apply qJ;simp[HI]
  rw[e,Array.foldl_append];have e2:(#[(x,k)]:Array (Value×Nat)).foldl (λcs (x:Value×Nat)=>cs.setIfInBounds (off+x.2) x.1) acc=acc.setIfInBounds (off+k) x:=by simp
  rw[e2,F6 xs _ off (k+1) (by simp;omega)]
  congr 1
  have hA:(acc.toList.take (off+k)).length=off+k:=by simp;omega
  have hA1:(acc.toList.take (off+k)++[x]).length=off+k+1:=by rw[bT,hA];rfl
  have e3:acc.toList.set (off+k) x=(acc.toList.take (off+k)++[x])++acc.toList.drop (off+k+1):=by
   rw[CG,if_pos (by simp;omega)];simp
  simp only[Hx,dE];rw[e3,show off+(k+1)=off+k+1 by omega,Nc hA1,<-qM,Nd hA1,qM];simp only[eZ,ku,fg];rw[show off+k+1+xs.length=off+k+(xs.length+1)by omega]
theorem abM{c:Nat}(c0:Nat->Option (Nat×Nat))(JO:∀i,c0 i=aj (i*c,c)):∀(vs:List Value) (k:Nat) (acc:Array Value),(k+vs.length)*c<=acc.size->(∀v∈vs,v.cells.size=c)->
 jP c0 acc ((vs.zipIdx k).map λ(v,i)=>(i,v))=aj (acc.toList.take (k*c)++vs.flatMap (λv=>v.cells.toList)++acc.toList.drop ((k+vs.length)*c)).toArray
 |[],k,acc,h,_=>by simp[jP]
 | v ::vs,k,acc,h,h1=>by
  simp only[dE]at h;have hv:=h1 v (by simp);have hsz:k*c+c<=acc.size:=by
   have:(k+1)*c<=(k+(vs.length+1))*c:=o8 _ J;rw[jF,tW]at this;omega
  rw[HI,gu];simp only[jP,JO];rw[if_neg (by simp[hv];omega)];have abN:=F6 v.cells.toList acc (k*c) 0 (by simp[hv];exact hsz);simp only[xd,iO,nj,hv]at abN;rw[abN,abM c0 JO vs (k+1) _ (by simp[hv];rw[jF,jF]at*;omega) (λu hu=>h1 u (by simp[hu]))]
  congr 2
  have hA:(acc.toList.take (k*c)).length=k*c:=by simp;omega
  have hA1:(acc.toList.take (k*c)++v.cells.toList).length=(k+1)*c:=by rw[bT,hA,nj,hv,jF,tW]
  simp only[lC,dE];rw[Nc hA1];have e5:(k+1+vs.length)*c=(k+1)*c+vs.length*c:=jF _ _ _;rw[e5,<-qM,Nd hA1,qM];simp only[eZ];rw[show k*c+c+vs.length*c=(k+(vs.length+1))*c by rw[jF,jF,tW];omega]
theorem Vv{P:Program}{t e:TypeId}{c bytes:Nat}(ub:El P t e c bytes)(vs:List Value)(h1:∀v∈vs,v.cells.size=c)(h0:0<vs.length)(hm:vs.length*c<=16777216)(w:World):
 (tN t vs.length (vs.zipIdx.map λ(v,i)=>(i,v)).toArray).run P w= .ok (ap (aj ⟨w.heap.size,0,ak⟩) vs.length vs.length) (w.alloc (.cells (vs.flatMap λv=>v.cells.toList).toArray e)):=by
 obtain⟨i,z,ht,hi,hz,hc,_,hzc,hp⟩:=ub.ex;have t':=abM (c:=c) (λi=>aj (i*c,c)) (by simp) vs 0 ((CB (vs.length*c)).map (z.cells[· %z.cells.size]!)) (by simp) h1
 simp only[HK,tU,fg,du]at t';rw[je (by simp)]at t';simp only[eB]at t';have hne:¬(vs.length*c>2^24):=by omega
 have Ve:¬(vs.length*c=0):=by
  have:=Nat.mul_pos h0 hp;omega
 simp only[tN,l5,run_underlying ht,n',sizeOf,typeInfo,run_program,hi,mB,hc,zeroValue,hz,if_neg hne,if_neg Ve];simp only[t',newRow];simp
section
variable{P:Program}{n:Nat}{W:b9}{fr:Fr}{L:List cU}{Q:Exit->Act->World->Prop}{ops:Array Oper}{rest:List Oper}{d:Nat}{dst:Option Tmp}{ty:TypeId}{pos:String}{after:Array Edge}{guard:Option (Nat×Bool)}
theorem im{t e:TypeId}{c bytes m:Nat}{parts:Array (Nat×Operand)}{cs:Array Value}(vs:List Value)[ub:tA P t e c bytes](hp:su fr parts.toList=aj (vs.zipIdx.map λ(v,i)=>(i,v)))(hm:vs.length=m)(h0:dM 0 m=aD)(h1:∀v∈vs,v.cells.size=c)(hs:xj (m*c) 16777216=aD)(hcs:cs=(vs.flatMap λv=>v.cells.toList).toArray)(hn:dM d n=aD)
 (h:∀g,TL P n W ops Q rest ((d,ap (aj ⟨g,0,ak⟩) m m)::fr) (L++[aR g cs e])):TL P n W ops Q (⟨aj d,.buildSlice t m parts,ty,pos,after,ak⟩::rest) fr L:=by
 subst hm hcs;refine Nl (λa w hr=>?_) hn h;have e:(parts.map λ(i,x)=>(i,a.eval x))=(vs.zipIdx.map λ(v,i)=>(i,v)).toArray:=by
  rw[<-sv hr _ _ hp,<-CA,xd]
 rw[e];exact Vv ub.el vs h1 (mH h0) (mH hs) w
theorem Kd{t e:TypeId}{x z:Operand}{agg:Bool}{c j len cap:Nat}{base:Option Addr}{k:IntKind}(ht:P.underlying t=aj (.slice e))(he:Ty P e agg c)(hx:ev fr x=aj (ap base len cap))(hz:ev fr z=aj (.int k (j:Int)))(h:j<=cap):RR P n W ⟨dst,.slice t x ak (aj z) ak,ty,pos,after,guard⟩ fr L (ap base j cap):= .mk λa w hr hm=>by
 have h1:=(zZ (P:=P) (n:=n) (W:=W) (L:=L) (dst:=dst) (ty:=ty) (pos:=pos) (after:=after) (guard:=guard) ht he hx hz h).go a w hr hm;have e1:tB base cap c 0 j=ap base j cap:=by
  unfold tB
  cases base with
  |none=>simp
  |some q=>simp[zx]
 rw[e1]at h1;exact h1
theorem lF{fn:Func}{R:Ending->World->Prop}(na:fn.results=#[])(h:∀w,Mem W L w->R (.returned (.tuple #[])) w):E n W .normal (bodyPost P fn R) fr L:=
 ⟨λa w hr hm=>⟨hr.defers,.tuple #[],by simp[results,na],h w hm⟩⟩
end
end cZ
namespace cZ
open Go.RowKit dr eH
structure wF(α:Type) where
 c:Nat
 is:(Nat->Prop)->World->List Value->α->Prop
 len:∀{F w cs a},is F w cs a->cs.length=c
 stay:∀{F w w' cs a},is F w cs a->(∀k,F k->w'.heap[k]?=w.heap[k]?)->is F w' cs a
 mono:∀{F F' w cs a},is F w cs a->(∀k,F k->F' k)->is F' w cs a
def All:Nat->Prop:=λ_=>True
theorem rd_stay{w w':World}{b off:Nat}{cs:List Value}(h:Rd w b off cs)(hk:w'.heap[b]?=w.heap[b]?):Rd w' b off cs:=λj u hj=>by
 rw[UJ (w:=w) (a:=⟨b,off+j,ak⟩) hk];exact h j u hj
def kH{α:Type}(s:wF α)(F:Nat->Prop)(w:World)(v:Value)(l:List α):Prop:=
 ∃base cap,v=ap base l.length cap/\l.length<=cap/\cap<=maxLen/\(0<l.length->∃b off,base=aj ⟨b,off,ak⟩/\F b/\∀i (h:i<l.length),∃cs,s.is F w cs l[i]/\Rd w b (off+i*s.c) cs)
section
variable{α β:Type}{s:wF α}{F F':Nat->Prop}{w w':World}{v:Value}{l:List α}
theorem kH.stay(h:kH s F w v l)(hk:∀k,F k->w'.heap[k]?=w.heap[k]?):kH s F w' v l:=
 let ⟨base,cap,h1,h2,h3,h4⟩:=h
 ⟨base,cap,h1,h2,h3,λh0=>let ⟨b,off,h5,h6,h7⟩:=h4 h0;⟨b,off,h5,h6,λi hi=>let ⟨cs,h8,h9⟩:=h7 i hi;⟨cs,s.stay h8 hk,rd_stay h9 (hk b h6)⟩⟩⟩
theorem kH.mono(h:kH s F w v l)(hk:∀k,F k->F' k):kH s F' w v l:=
 let ⟨base,cap,h1,h2,h3,h4⟩:=h
 ⟨base,cap,h1,h2,h3,λh0=>let ⟨b,off,h5,h6,h7⟩:=h4 h0;⟨b,off,h5,hk b h6,λi hi=>let ⟨cs,h8,h9⟩:=h7 i hi;⟨cs,s.mono h8 hk,h9⟩⟩⟩
theorem kH.nil:kH s F w (ap ak 0 0) []:=⟨ak,0,rfl,bJ _,by decide,λh=>by simp at h⟩
def yv(f:α->List Value)(c:Nat)(hc:∀a,(f a).length=c)(p:α->Prop):wF α:=
 ⟨c,λ_ _ cs a=>cs=f a/\p a,λh=>by rw[h.1,hc],λh _=>h,λh _=>h⟩
def fY:wF Int:=yv (λn=>[av az n]) 1 (λ_=>rfl) dr.eD
def Vw:wF (List UInt8):=yv (λs=>[str s]) 1 (λ_=>rfl) (λs=>s.length<=9223372036854775807)
def bW(s:wF α):wF (List α):=
 ⟨1,λF w cs l=>∃v,cs=[v]/\kH s F w v l,λ⟨_,h,_⟩=>by rw[h];rfl,λ⟨v,h1,h2⟩ hk=>⟨v,h1,h2.stay hk⟩,λ⟨v,h1,h2⟩ hk=>⟨v,h1,h2.mono hk⟩⟩
def Vx(s:wF α)(t:wF β):wF (α×β):=
 ⟨s.c+t.c,λF w cs x=>∃c1 c2,cs=c1++c2/\s.is F w c1 x.1/\t.is F w c2 x.2,λ⟨_,_,h,h1,h2⟩=>by rw[h,bT,s.len h1,t.len h2],
  λ⟨c1,c2,h,h1,h2⟩ hk=>⟨c1,c2,h,s.stay h1 hk,t.stay h2 hk⟩,λ⟨c1,c2,h,h1,h2⟩ hk=>⟨c1,c2,h,s.mono h1 hk,t.mono h2 hk⟩⟩
theorem kH.flat{f:α->List Value}{c:Nat}{hc:∀a,(f a).length=c}{p:α->Prop}(JO:0<c)(h:kH (yv f c hc p) F w v l):Sl w v l.length (l.flatMap f):=by
 obtain⟨base,cap,h1,h2,h3,h4⟩:=h;have hx:RZ w (λcs a=>cs=f a) c v l:=⟨base,cap,h1,h2,h3,λh0=>let ⟨b,off,h5,_,h7⟩:=h4 h0;⟨b,off,h5,λi hi=>let ⟨cs,h8,h9⟩:=h7 i hi;⟨cs,h8.1,h9⟩⟩⟩;exact hx.flat hc JO λcs a h=>h
theorem kH.okp{f:α->List Value}{c:Nat}{hc:∀a,(f a).length=c}{p:α->Prop}(h:kH (yv f c hc p) F w v l):∀a∈l,p a:=λa ha=>by
 obtain⟨i,hi,rfl⟩:=jt.1 ha;obtain⟨base,cap,h1,h2,h3,h4⟩:=h;obtain⟨b,off,_,_,h7⟩:=h4 J;obtain⟨cs,h8,_⟩:=h7 i hi;exact h8.2
theorem kH.of_flat{f:α->List Value}{c:Nat}{hc:∀a,(f a).length=c}{p:α->Prop}(h:Sl w v l.length (l.flatMap f))(hp:∀a∈l,p a)(_:∀b,v.ownBlock=aj b->F b)(hF2:∀a n cp,v=ap (aj a) n cp->F a.block):kH (yv f c hc p) F w v l:=by
 obtain⟨base,cap,h1,h2,h3,h4⟩:=h;refine⟨base,cap,h1,h2,h3,λh0=>?_⟩;obtain⟨b,off,h5,h6⟩:=h4 h0;refine⟨b,off,h5,hF2 ⟨b,off,ak⟩ l.length cap (by rw[h1,h5]),λi hi=>⟨f l[i],⟨rfl,hp _ (cV hi)⟩,λj u hj=>?_⟩⟩;have Zz:j<c:=by rw[<-hc l[i]];exact(dv.1 hj).1
 have:=h6 (i*c+j) u (by rw[ui hc l i j hi Zz];exact hj);rw[l6];exact this
def Fc(s:wF α)(F:Nat->Prop)(cs:List Value)(a:α):cU:=
 ⟨ak,F,λw=>s.is F w cs a/\∀k,F k->k<w.heap.size,λw h k hk=>h.2 k (hk.elim (λh=>by cases h) id),λw w' h hs hb=>⟨s.stay h.1 λk hk=>hb k (.inr hk),λk hk=>jf (h.2 k hk) hs⟩⟩
def eO(s:wF α)(F:Nat->Prop)(gY:List (List Value))(l:List α):cU:=
 ⟨ak,F,λw=>(gY.length=l.length/\∀i (h:i<l.length) (h':i<gY.length),s.is F w gY[i] l[i])/\∀k,F k->k<w.heap.size,λw h k hk=>h.2 k (hk.elim (λh=>by cases h) id),
  λw w' h hs hb=>⟨⟨h.1.1,λi hi qN=>s.stay (h.1.2 i hi qN) λk hk=>hb k (.inr hk)⟩,λk hk=>jf (h.2 k hk) hs⟩⟩
end
def Vy(F:Nat->Prop)(v:Value):Nat->Prop:=λk=>F k\/v.ownBlock=aj k
theorem uo{c:Nat}:∀(gY:List (List Value)) (_:∀x∈gY,x.length=c) (i j:Nat) (h:i<gY.length),j<c->gY.flatten[i*c+j]?=gY[i][j]?
 |x::r,hc,0,j,h,hj=>by
  rw[zT,fH (by rw[hc x (by simp)];omega)];simp
 |x::r,hc,i+1,j,h,hj=>by
  have hx:=hc x (by simp);have ih:=uo r (λy hy=>hc y (by simp[hy])) i j (by simpa using h) hj;rw[zT,mC (by rw[hx,kQ];omega),hx];simp only[UP];rw[<-ih,kQ]
  congr 1;omega
section
variable{α:Type}{s:wF α}{F:Nat->Prop}{w:World}{v:Value}{l:List α}
theorem xw{e:TypeId}{gY:List (List Value)}(hr:(bD e s.c v l.length gY.flatten).holds w)(he:(eO s F gY l).holds w)(_:0<s.c):kH s (Vy F v) w v l:=by
 have hr:w.ownsRow 0 e s.c v l.length gY.flatten:=hr;obtain⟨⟨h1,h2⟩,h3⟩:=he;have hlen:∀x∈gY,x.length=s.c:=λx hx=>by
  obtain⟨i,hi,rfl⟩:=jt.1 hx;exact s.len (h2 i J hi)
 obtain⟨base,cap,h4,h5,h6,h7⟩:=Sl.dY hr;refine⟨base,cap,h4,h5,h6,λh0=>?_⟩;have hb:∃g,v=ap (aj ⟨g,0,ak⟩) l.length cap/\v.ownBlock=aj g:=by
  rcases hr.2 with⟨hv,h0'⟩|⟨g,HP,kg,hv,_⟩
  omega;rw[h4]at hv;simp only[jQ,true_and]at hv;obtain⟨rfl,rfl⟩:=hv;exact⟨g,h4,by rw[h4];rfl⟩
 obtain⟨g,hv,hg⟩:=hb;rw[h4]at hv;simp only[jQ,and_true]at hv;subst hv;obtain⟨b,off,h8,h9⟩:=h7 h0;simp only[dB,MV,and_true]at h8;obtain⟨rfl,rfl⟩:=h8;refine⟨g,0,rfl,.inr hg,λi hi=>⟨gY[i]' J,s.mono (h2 i hi J) λk hk=> .inl hk,λj u hj=>?_⟩⟩;have Zz:j<s.c:=by rw[<-hlen (gY[i]' J) (cV _)];exact(dv.1 hj).1
 have:=h9 (i*s.c+j) u (by rw[uo gY hlen i j J Zz];exact hj);rw[l6];exact this
theorem xy{e:TypeId}{gY:List (List Value)}{n c:Nat}(hr:(bD e c v n gY.flatten).holds w)(he:(eO s F gY l).holds w):∀k,Vy F v k->k<w.heap.size:=λk hk=>hk.elim (he.2 k) λh=>((bD e c v n gY.flatten).lt w hr k (.inl h))
theorem mM{F2:Nat->Prop}{gY:List (List Value)}{cs:List Value}{a:α}(he:(eO s F gY l).holds w)(hs:s.is F2 w cs a)(h2:∀k,F2 k->k<w.heap.size):(eO s (λk=>F k\/F2 k) (gY++[cs]) (l++[a])).holds w:=by
 obtain⟨⟨h1,h3⟩,h4⟩:=he;refine⟨⟨by simp[h1],λi hi qN=>?_⟩,λk hk=>hk.elim (h4 k) (h2 k)⟩
 by_cases c:i<l.length
 ·rw[UO J,UO c]
  exact s.mono (h3 i c J) λk hk=> .inl hk
 have R6:i=l.length:=by simp at hi;omega
 subst R6;rw[UM J,UM (bJ _)];simp only[h1,Nat.sub_self,List.getElem_cons_zero];exact s.mono hs λk hk=> .inr hk
theorem jD:(eO s (λ_=>False) [] []).holds w:=⟨⟨rfl,λi h=>by simp at h⟩,λk h=>h.elim⟩
end
section
variable{P:Program}{n:Nat}{W:b9}{fr:Fr}{L:List cU}{Q:Exit->Act->World->Prop}{ops:Array Oper}{rest:List Oper}{d:Nat}
theorem Mem.Vz{w:World}(o:cU)(i j:Nat)(js:List Nat){o1 o2:cU}{R:List cU}(h:Mem W L w)(hn:([i,j]++js).Nodup)(h1:L[i]?=aj o1)(h2:L[j]?=aj o2)(hR:R=js.filterMap λi=>L[i]?)(hf:∀k,o.fF k->o1.fF k\/o2.fF k)(hh:∀w,o1.holds w->o2.holds w->o.holds w):Mem W (R++[o]) w:=by
 refine Mem.merge o (h.pick ([i,j]++js) hn ?_) hf (hh w);rw[zS,<-hR]
 congr 1
 rw[zR (by exact h1),zR (by exact h2)];rfl
theorem pj(o:cU)(i j:Nat)(js:List Nat){o1 o2:cU}{R:List cU}(hn:([i,j]++js).Nodup)(h1:L[i]?=aj o1)(h2:L[j]?=aj o2)(hR:R=js.filterMap λi=>L[i]?)(hf:∀k,o.fF k->o1.fF k\/o2.fF k)(hh:∀w,o1.holds w->o2.holds w->o.holds w)(h:TL P n W ops Q rest fr (R++[o])):TL P n W ops Q rest fr L:=⟨λa w hr hm=>h.go a w hr (hm.Vz o i j js hn h1 h2 hR hf hh)⟩
theorem wm{e:Exit}(o:cU)(i j:Nat)(js:List Nat){o1 o2:cU}{R:List cU}(hn:([i,j]++js).Nodup)(h1:L[i]?=aj o1)(h2:L[j]?=aj o2)(hR:R=js.filterMap λi=>L[i]?)(hf:∀k,o.fF k->o1.fF k\/o2.fF k)(hh:∀w,o1.holds w->o2.holds w->o.holds w)(h:E n W e Q fr (R++[o])):E n W e Q fr L:=⟨λa w hr hm=>h.go a w hr (hm.Vz o i j js hn h1 h2 hR hf hh)⟩
theorem Mem.VA{w:World}(o:cU)(h:Mem W L w)(hf:∀k,¬o.fF k)(hh:o.holds w):Mem W (L++[o]) w:=
 h.append (Gr.refl w) (e_.one hh λk hk=>absurd hk (hf k))
theorem mN{c:Code}(o:cU)(hf:∀k,¬o.fF k)(hh:∀w,o.holds w)(h:T P n W c Q fr (L++[o])):T P n W c Q fr L:=⟨λa w hr hm=>h.go a w hr (hm.VA o hf (hh w))⟩
theorem Ke(o:cU)(hf:∀k,¬o.fF k)(hh:∀w,o.holds w)(h:TL P n W ops Q rest fr (L++[o])):TL P n W ops Q rest fr L:=⟨λa w hr hm=>h.go a w hr (hm.VA o hf (hh w))⟩
theorem qu{e:Exit}(o:cU)(hf:∀k,¬o.fF k)(hh:∀w,o.holds w)(h:E n W e Q fr (L++[o])):E n W e Q fr L:=⟨λa w hr hm=>h.go a w hr (hm.VA o hf (hh w))⟩
theorem z_{α:Type}{f:α->List Value}{c:Nat}(hc:∀a,(f a).length=c){t e:TypeId}{p x:Operand}{i g off cap k m:Nat}{agg:Bool}{l:List α}{a:α}{v:Value}(hT:Ty P t agg c)(hi:L[i]?=aj (bD e c (ap (aj ⟨g,0,ak⟩) m cap) m (l.flatMap f)))(hp:ev fr p=aj (aK (aj ⟨g,off,ak⟩)))(acx:off=k*c)(hk:k<l.length)(hm0:m=l.length)(hx:ev fr x=aj v)(hv:v.cells=(f a).toArray)(h1:(f a).all fG=aD)
 {ty:TypeId} {pos:String} {after:Array Edge}
 (h:TL P n W ops Q rest fr (L.set i (bD e c (ap (aj ⟨g,0,ak⟩) m cap) m ((l.set k a).flatMap f)))):
 TL P n W ops Q (⟨ak,.store t p x,ty,pos,after,ak⟩::rest) fr L:=kU I λact w hr hm K hK=>by
 subst acx hm0;have mw:w.ownsRow 0 e c (ap (aj ⟨g,0,ak⟩) l.length cap) l.length (l.flatMap f):=hm.get hi;have ad9:=mw;rcases mw.2 with⟨h0,_⟩|⟨g',HP,kg,he,BH,hg,hnc,No,hcs,yp⟩
 ·cases h0
 simp only[jQ,dB,MV,and_true,true_and]at he;obtain⟨rfl,rfl⟩:=he;have CS:k*c+c<=kg.size:=by
  have:(k+1)*c<=cap*c:=o8 _ J;rw[hcs];rw[jF,tW]at this;omega
 have hst:=run_storeCells_at P g (k*c) e (f a) 0 kg w hg (by simp[hc];exact CS) (sk.1 h1);simp only[iO,hc]at hst;have e':(execOp act.eval ⟨ak,.store t p x,ty,pos,after,ak⟩).run P w= .ok .skip (w.setRow g (kg.toList.take (k*c)++f a++kg.toList.drop (k*c+c)).toArray):=by
  simp[execOp,hr.ev hp,hr.ev hx,MX,xh,storeVar,hT.size,hv,hst,hc]
 unfold gG;rw[e'];refine hK _ _ (h.go _ _ (hr.tY undef) (hm.BG hi ⟨rfl,rfl,rfl,by simp,λk _ hk=>setRow_other w g k _ (λe=>hk (by subst e;rfl))⟩ ?_ λk hk=> .inl hk));have hlen:=lD hc l;refine⟨by rw[lD hc];simp,.inr ⟨g,cap,_,rfl,BH,setRow_heap w g kg _ e _ hg,hnc,No,by simp[hc];omega,?_⟩⟩;have e1:(l.set k a).flatMap f=(l.flatMap f).take (k*c)++f a++(l.flatMap f).drop (k*c+c):=by
  have Nv:((l.take k).flatMap f).length=k*c:=by rw[lD hc,jR,zU J]
  have Ny:((l.take (k+1)).flatMap f).length=k*c+c:=by rw[lD hc,jR,zU J,jF,tW]
  have t1:(l.flatMap f).take (k*c)=(l.take k).flatMap f:=by
   rw[<-Nv]
   conv=>lhs;rw[<-tP k l,fV]
   simp
  have t2:(l.flatMap f).drop (k*c+c)=(l.drop (k+1)).flatMap f:=by
   rw[<-Ny]
   conv=>lhs;rw[<-tP (k+1) l,fV]
   simp
  rw[t1,t2,CG,if_pos hk];simp
 rw[e1,<-yp];have hkl:k*c+c<=l.length*c:=by
  have:(k+1)*c<=l.length*c:=o8 _ J;rw[jF,tW]at this;exact this
 simp only[List.take_take,List.take_append,bT,hc,jR,nj];rw[zU (by omega:k*c<=kg.size),Nat.min_eq_right (by omega:k*c<=l.length*c),zU (by omega:k*c<=l.length*c)];rw[gj (by rw[hc];omega:(f a).length<=l.length*c-k*c)]
 congr 1
 rw[Nf]
theorem qw{i:Nat}{o:cU}{φ:Prop}(hi:L[i]?=aj o)(hφ:∀w,o.holds w->φ)(h:φ->TL P n W ops Q rest fr L):TL P n W ops Q rest fr L:=⟨λa w hr hm=>(h (hφ w (hm.get hi))).go a w hr hm⟩
theorem iR{c:Code}{i:Nat}{o:cU}{φ:Prop}(hi:L[i]?=aj o)(hφ:∀w,o.holds w->φ)(h:φ->T P n W c Q fr L):T P n W c Q fr L:=⟨λa w hr hm=>(h (hφ w (hm.get hi))).go a w hr hm⟩
end
end cZ
namespace cZ
open Go.RowKit dr eH
open Go.WideMaps (KeyLaw)
def C2(v:Value):Option (DataW Value×List MemPlace):=aj (.held v,[])
structure xz(P:Program)(k:TypeId)(κ:Type) where
 kv:κ->Value
 ok:κ->Prop
 law:KeyLaw P k
 key:∀x,ok x->∃l,keyOf P k (kv x)=aj l
 inj:∀x y,kv x=kv y->x=y
section
variable{P:Program}{k:TypeId}{κ:Type}
theorem xz.keyed(K:xz P k κ):Maps.Keyed P k:=ach K.law
variable(K:xz P k κ)
def Kf(D:DataW Value)(m:κ->Option Value)(n:Nat):Prop:=
 MY D=n/\∀x l,K.ok x->keyOf P k (K.kv x)=aj l->match m x with|some v=>MZ D l=aD/\(∀z,D.atKey l z= .held v)|none=>MZ D l=aE
def fD(g:Nat)(m:κ->Option Value)(n:Nat):cU:=
 ⟨aj g,λ_=>False,λw=>∃D,w.ownsMap P k C2 g n D/\Kf K D m n,λw ⟨D,h,_⟩ q hq=>by simp only[dB,or_false]at hq;subst hq;exact h.lt,
  λw w' ⟨D,⟨es,clock,hb,h⟩,h2⟩ _ hk=>⟨D,⟨es,clock,(hk g (.inl I)).trans hb,h⟩,h2⟩⟩
theorem R7{w:World}{R:Value->Option (DataW Value×List MemPlace)}{b n:Nat}{D:DataW Value}(h:w.ownsMap P k R b n D):w.ownsMap P k R b (MY D) D:=by
 obtain⟨es,clock,hb,F,hs,rfl⟩:=h;exact⟨es,clock,hb,F,by simp[MY,length_sorted],rfl⟩
theorem F7:Kf K (.map []) (λ_=>ak) 0:=⟨rfl,λ_ _ _ _=>rfl⟩
theorem R8[DecidableEq κ]{w:World}{g n:Nat}{D:DataW Value}{m:κ->Option Value}(ho:w.ownsMap P k C2 g n D)(h:Kf K D m n){x:κ}{l:Lit}(hx:K.ok x)(hl:keyOf P k (K.kv x)=aj l)(v:Value):
 Kf K (D.put l (.held v)) (λy=>if y=x then aj v else m y) (if(m x).isSome then n else n+1):=by
 have hk:=K.keyed.key hl;have ht:=ho.tidy K.keyed;refine⟨?_,λy l' hy ZA=>?_⟩
 ·have h2:=h.2 x l hx hl
  rw[Maps.size_put ht]
  cases e:m x with
  |none=>rw[e]at h2;rw[h2];simp[h.1]
  |some u=>rw[e]at h2;rw[h2.1];simp[h.1]
 ·by_cases e:y=x
  ·subst e
   rw[hl]at ZA;simp only[dB]at ZA;subst ZA;simp only[if_true];exact⟨Maps.has_put_same ht.isMap hk _,λz=>Maps.atKey_put_same ht.isMap hk _ _⟩
  have hne:l'≠l:=λe'=>e (K.inj _ _ (K.keyed.inj (by rw[<-e'];exact ZA) hl));simp only[if_neg e];have h2:=h.2 y l' hy ZA;rw[Maps.has_put_other hne]
  cases e2:m y with
  |none=>rw[e2]at h2;exact h2
  |some u=>rw[e2]at h2;exact⟨h2.1,λz=>by rw[Maps.atKey_put_other hne];exact h2.2 z⟩
theorem HW{D:DataW Value}{m:κ->Option Value}{n:Nat}(h:Kf K D m n){x:κ}{l:Lit}(hx:K.ok x)(hl:keyOf P k (K.kv x)=aj l)(z:Value):D.atKey l (.held z)= .held ((m x).getD z)/\MZ D l=(m x).isSome:=by
 have h2:=h.2 x l hx hl
 cases e:m x with
 |none=>rw[e]at h2;exact⟨Maps.atKey_of_not_has h2 _,h2⟩
 |some u=>rw[e]at h2;exact⟨h2.2 _,h2.1⟩
section
variable{W:b9}{fr:Fr}{L:List cU}{Q:Exit->Act->World->Prop}{ops:Array Oper}{rest:List Oper}{n d:Nat}{dst:Option Tmp}{ty:TypeId}{pos:String}{after:Array Edge}{guard:Option (Nat×Bool)}{i g c:Nat}{t e:TypeId}{m:κ->Option Value}{x:κ}{z:Value}{xm xk xv:Operand}
theorem ZB(ht:P.underlying t=aj (.map k e))(hz:∀w,(zeroValue e).run P w= .ok z w)(hi:L[i]?=aj (fD K g m c))(hm:ev fr xm=aj (.map (aj g)))(hk:ev fr xk=aj (K.kv x))(hx:K.ok x):RR P n W ⟨dst,.lookup t xm xk aE,ty,pos,after,guard⟩ fr L ((m x).getD z):= .mk λa w hr hw=>by
 obtain⟨D,ho,h⟩:=hw.get hi;obtain⟨l,hl⟩:=K.key x hx;obtain⟨v,ps,hrun,hv⟩:=ho.lookup K.keyed ht (hz w) (zd:= .held z) (zp:=[]) rfl hl;have h2:=(HW K h hx hl z).1;simp only[C2,dB,gH]at hv;rw[h2]at hv;have lm:v=(m x).getD z:=by simpa using hv.1
 subst lm;simp[execOp,hr.ev hm,hr.ev hk,hrun,l4]
theorem oT(ht:P.underlying t=aj (.map k e))(hz:∀w,(zeroValue e).run P w= .ok z w)(hi:L[i]?=aj (fD K g m c))(hm:ev fr xm=aj (.map (aj g)))(hk:ev fr xk=aj (K.kv x))(hx:K.ok x):RR P n W ⟨dst,.lookup t xm xk aD,ty,pos,after,guard⟩ fr L (.tuple #[(m x).getD z,.bool (m x).isSome]):= .mk λa w hr hw=>by
 obtain⟨D,ho,h⟩:=hw.get hi;obtain⟨l,hl⟩:=K.key x hx;obtain⟨v,ps,hrun,hv⟩:=ho.look_ok K.keyed ht (hz w) (zd:= .held z) (zp:=[]) rfl hl;have h2:=HW K h hx hl z;simp only[C2,dB,gH]at hv;rw[h2.1]at hv;rw[h2.2]at hrun;have lm:v=(m x).getD z:=by simpa using hv.1
 subst lm;simp[execOp,hr.ev hm,hr.ev hk,hrun,l4]
theorem wo(ht:P.underlying t=aj (.map k e))(hi:L[i]?=aj (fD K g m c))(hm:ev fr xm=aj (.map (aj g))):RR P n W ⟨dst,.call {callee:= .builtin .len,args:=#[xm],argTypes:=#[t]},ty,pos,after,guard⟩ fr L (av az c):= .mk λa w hr hw=>by
 obtain⟨D,ho,h⟩:=hw.get hi;have hrun:=ho.len ht ty;rw[h.1]at hrun;simp[lZ,MW,hr.ev hm,hrun]
theorem xA(hn:dM d n=aD)(h:∀g,TL P n W ops Q rest ((d,.map (aj g))::fr) (L++[fD K g (λ_=>ak) 0])):
 TL P n W ops Q (⟨aj d,.makeMap t ak,ty,pos,after,ak⟩::rest) fr L:=kU I λa w hr hm KK hK=>by
 have e1:(execOp a.eval ⟨aj d,.makeMap t ak,ty,pos,after,ak⟩).run P w= .ok (.value (.map (aj w.heap.size))) (w.alloc (.map #[] 0)):=by
  simp[execOp,run_makeMap,l4]
 unfold gG;rw[e1];exact hK _ _ ((h w.heap.size).go _ _ (hr.put hn _) (hm.append (pg w _) (nO.one ⟨.map [],UK w P k C2,F7 K⟩ λq hq=>by simp only[fD,dB]at hq;omega)))
theorem P_[DecidableEq κ]{w:World}(ht:P.underlying t=aj (.map k e))(h:(fD K g m c).holds w)(hx:K.ok x)(hc:c<=1152921504606846976)(v:Value):
 ∃w',(zM t (.map (aj g)) (K.kv x) v).run P w= .ok () w'/\(fD K g (λy=>if y=x then aj v else m y) (if(m x).isSome then c else c+1)).holds w'/\w.grownBy w' (aj g):=by
 obtain⟨D,ho,h⟩:=h;obtain⟨l,hl⟩:=K.key x hx;obtain⟨w',hrun,J6,hg⟩:=ho.update K.keyed ht (by unfold maxLen;omega) (val:=v) (d:= .held v) (ps:=[]) hl I;have hp:=R8 K ho h hx hl v;exact⟨w',hrun,⟨_,by have:=R7 J6;rwa [hp.1]at this,hp⟩,hg⟩
theorem ml[DecidableEq κ]{v:Value}(ht:P.underlying t=aj (.map k e))(hi:L[i]?=aj (fD K g m c))(hm:ev fr xm=aj (.map (aj g)))(hk:ev fr xk=aj (K.kv x))(hv:ev fr xv=aj v)(hx:K.ok x)(hc:c<=1152921504606846976)
 (h:TL P n W ops Q rest fr (L.set i (fD K g (λy=>if y=x then aj v else m y) (if(m x).isSome then c else c+1)))):
 TL P n W ops Q (⟨ak,.mapUpdate t xm xk xv,ty,pos,after,ak⟩::rest) fr L:=kU I λa w hr hw KK hK=>by
 obtain⟨w',hrun,J6,hg⟩:=P_ K ht (hw.get hi) hx hc v;have e1:(execOp a.eval ⟨ak,.mapUpdate t xm xk xv,ty,pos,after,ak⟩).run P w= .ok .skip w':=by
  simp[execOp,hr.ev hm,hr.ev hk,hr.ev hv,hrun,l4]
 unfold gG;rw[e1];exact hK _ _ (h.go _ _ (hr.tY undef) (hw.BG hi hg J6 λq hq=> .inl hq))
end
def pq(g:Nat)(z:Value)(f:κ->Value)(b:Nat):cU:=
 ⟨aj g,λ_=>False,λw=>∃m n,n<=b/\(fD K g m n).holds w/\∀x,K.ok x->(m x).getD z=f x,λw ⟨m,n,_,h,_⟩ q hq=>(fD K g m n).lt w h q hq,
  λw w' ⟨m,n,h1,h,h2⟩ hs hk=>⟨m,n,h1,(fD K g m n).stay w w' h hs hk,h2⟩⟩
section
variable{W:b9}{fr:Fr}{L:List cU}{Q:Exit->Act->World->Prop}{ops:Array Oper}{rest:List Oper}{n d:Nat}{dst:Option Tmp}{ty:TypeId}{pos:String}{after:Array Edge}{guard:Option (Nat×Bool)}{i g b:Nat}{t e:TypeId}{f f':κ->Value}{x:κ}{z v:Value}{xm xk xv:Operand}
theorem F8{w:World}(ht:P.underlying t=aj (.map k e))(hz:∀w,(zeroValue e).run P w= .ok z w)(h:(pq K g z f b).holds w)(hx:K.ok x):(Instr.lookup t (.map (aj g)) (K.kv x) aE).run P w= .ok (f x) w:=by
 obtain⟨m,n,_,⟨D,ho,hi⟩,hf⟩:=h;obtain⟨l,hl⟩:=K.key x hx;obtain⟨v,ps,hrun,hv⟩:=ho.lookup K.keyed ht (hz w) (zd:= .held z) (zp:=[]) rfl hl;have h2:=(HW K hi hx hl z).1;simp only[C2,dB,gH]at hv;rw[h2,hf x hx]at hv;have lm:v=f x:=by simpa using hv.1
 rw[<-lm];exact hrun
theorem Kg(ht:P.underlying t=aj (.map k e))(hz:∀w,(zeroValue e).run P w= .ok z w)(hh:∀w,Mem W L w->(pq K g z f b).holds w)(hm:ev fr xm=aj (.map (aj g)))(hk:ev fr xk=aj (K.kv x))(hx:K.ok x)(hv:f x=v):RR P n W ⟨dst,.lookup t xm xk aE,ty,pos,after,guard⟩ fr L v:= .mk λa w hr hw=>by
 subst hv;have hrun:=F8 K ht hz (hh w hw) hx;simp[execOp,hr.ev hm,hr.ev hk,hrun,l4]
theorem C3(ht:P.underlying t=aj (.map k e))(hz:∀w,(zeroValue e).run P w= .ok z w)(hi:L[i]?=aj (pq K g z f b))(hm:ev fr xm=aj (.map (aj g)))(hk:ev fr xk=aj (K.kv x))(hx:K.ok x)(hv:f x=v):RR P n W ⟨dst,.lookup t xm xk aE,ty,pos,after,guard⟩ fr L v:=
 Kg K ht hz (λ_ hw=>hw.get hi) hm hk hx hv
theorem ZC(hn:dM d n=aD)(h:∀g,TL P n W ops Q rest ((d,.map (aj g))::fr) (L++[pq K g z (λ_=>z) 0])):
 TL P n W ops Q (⟨aj d,.makeMap t ak,ty,pos,after,ak⟩::rest) fr L:=kU I λa w hr hm KK hK=>by
 have e1:(execOp a.eval ⟨aj d,.makeMap t ak,ty,pos,after,ak⟩).run P w= .ok (.value (.map (aj w.heap.size))) (w.alloc (.map #[] 0)):=by
  simp[execOp,run_makeMap,l4]
 unfold gG;rw[e1];exact hK _ _ ((h w.heap.size).go _ _ (hr.put hn _) (hm.append (pg w _) (nO.one ⟨λ_=>ak,0,bJ _,⟨.map [],UK w P k C2,F7 K⟩,λ_ _=>rfl⟩ λq hq=>by simp only[pq,dB]at hq;omega)))
theorem Kh[DecidableEq κ]{w:World}(ht:P.underlying t=aj (.map k e))(h:(pq K g z f b).holds w)(hx:K.ok x)(hc:b<=1152921504606846976)(hf:∀y,K.ok y->f' y=if y=x then v else f y):
 ∃w',(zM t (.map (aj g)) (K.kv x) v).run P w= .ok () w'/\(pq K g z f' (b+1)).holds w'/\w.grownBy w' (aj g):=by
 obtain⟨m,n,h1,h2,h3⟩:=h;obtain⟨w',hrun,ho,hg⟩:=P_ K ht h2 hx J v;refine⟨w',hrun,⟨_,_,?_,ho,λy hy=>?_⟩,hg⟩
 ·split<;>omega
 ·rw[hf y hy]
  by_cases e:y=x
  simp[e];simp only[if_neg e];exact h3 y hy
end
end
end cZ
namespace cZ
open Go.RowKit dr eH
theorem afM{P:Program}{n:Nat}{W:b9}{fr:Fr}{L:List cU}{dst:Option Tmp}{ty:TypeId}{pos:String}{after:Array Edge}{guard:Option (Nat×Bool)}{x:Operand}{a:Addr}(hx:ev fr x=aj (aK (aj a))):RR P n W ⟨dst,.nilCheck x,ty,pos,after,guard⟩ fr L (aK (aj a)):= .mk λact w hr _=>by
 simp[execOp,hr.ev hx]
end cZ
namespace cZ
open Go.RowKit dr eH
section
variable{P:Program}{n:Nat}{W:b9}{fr:Fr}{L:List cU}{Q:Exit->Act->World->Prop}{ops:Array Oper}{rest:List Oper}{d:Nat}{ty:TypeId}{pos:String}{after:Array Edge}
theorem Nz{t e:TypeId}{x y:Operand}{bytes m:Nat}{k k':IntKind}{z:Value}[tA P t e 1 bytes][fm P e #[z]](hx:ev fr x=aj (.int k (m:Int)))(hy:ev fr y=aj (.int k' (m:Int)))(hb:bytes*m<=281474976710656)(r9:m<=9223372036854775807)(hn:dM d n=aD)
 (h:∀g,TL P n W ops Q rest ((d,ap (aj ⟨g,0,ak⟩) m m)::fr) (L++[bD e 1 (ap (aj ⟨g,0,ak⟩) m m) m (dJ m z)])):TL P n W ops Q (⟨aj d,.makeSlice t x y,ty,pos,after,ak⟩::rest) fr L:=
 um hx hy (bJ _) hb r9 hn λg=>F5 (i:=L.length) 1 (M8 ..) (by rw[size_madeCells]) (bJ _) r9 (by
  have e1:(madeCells #[z] (m*1)).toList.take (m*1)=dJ m z:=by
   rw[abD,Nat.mul_one,List.take_of_length_le (by simp)]
  rw[e1,List.set_append_right _ _ (Nat.le_refl _),Nat.sub_self];exact h g)
end
end cZ
namespace cZ
open Go.RowKit dr eH
section
variable{P:Program}{n:Nat}{W:b9}{fr:Fr}{L:List cU}{Q:Exit->Act->World->Prop}{ops:Array Oper}{rest:List Oper}
theorem Mem.afR{w:World}{i:Nat}{o:cU}(o':cU)(h:Mem W L w)(hi:L[i]?=aj o)(hh:∀w,o.holds w->o'.holds w)(hb:∀k,o'.BF=aj k->o.BF=aj k)(hmo:∀k,o'.more k->o.fF k:=by intro k hk;exact False.elim hk):Mem W (L.set i o') w:=
 h.BG hi ⟨rfl,rfl,rfl,bJ _,λ_ _ _=>rfl⟩ (hh w (h.get hi)) (λk hk=> .inl (hb k hk)) hmo
theorem ZD{i:Nat}{o:cU}(o':cU)(hi:L[i]?=aj o)(hh:∀w,o.holds w->o'.holds w)(hb:∀k,o'.BF=aj k->o.BF=aj k)(hmo:∀k,o'.more k->o.fF k)(h:TL P n W ops Q rest fr (L.set i o')):TL P n W ops Q rest fr L:= .mk λa w hr hm=>h.go a w hr (hm.afR o' hi hh hb hmo)
end
theorem R9{P:Program}{k:TypeId}{κ:Type}{K:xz P k κ}{g b b':Nat}{z:Value}{f f':κ->Value}(hb:b<=b')(hf:∀x,K.ok x->f' x=f x)(w:World)(h:(pq K g z f b).holds w):(pq K g z f' b').holds w:=by
 obtain⟨m,n,h1,h2,h3⟩:=h;exact⟨m,n,by omega,h2,λx hx=>by rw[hf x hx];exact h3 x hx⟩
end cZ
namespace cZ
open Go.RowKit dr eH
section
variable{P:Program}{n:Nat}{W:b9}{fr:Fr}{L:List cU}{Q:Exit->Act->World->Prop}{ops:Array Oper}{rest:List Oper}
theorem Mem.P'{w:World}{i:Nat}{o:cU}(o':cU)(h:Mem W L w)(hi:L[i]?=aj o)(hh:∀w,o.holds w->o'.holds w)(hf:∀k,o'.fF k->o.fF k):Mem W (L.set i o') w:=by
  have hlen:i<L.length:=(dv.1 hi).1;have hoi:=h.owns.all i o hi;refine⟨h.low,λj q hj=>?_,λj j' q q' rp hj qc k hk mZ=>?_⟩
  · by_cases e:i=j
    · subst e
      rw[mE hlen]at hj;simp only[dB]at hj;subst hj;exact⟨hh w hoi.1,λk hk=>hoi.2 k (hf k hk)⟩
    rw[mD e]at hj;exact h.owns.all j q hj
  by_cases e:i=j
  · subst e
    rw[mE hlen]at hj;rw[mD rp]at qc;simp only[dB]at hj;subst hj;exact h.owns.apart i j' o q' rp hi qc k (hf k hk) mZ
  rw[mD e]at hj
  by_cases e':i=j'
  · subst e'
    rw[mE hlen]at qc;simp only[dB]at qc;subst qc;exact h.owns.apart j i q o rp hj hi k hk (hf k mZ)
  rw[mD e']at qc;exact h.owns.apart j j' q q' rp hj qc k hk mZ
theorem Qa{c:Code}{i:Nat}{o:cU}(o':cU)(hi:L[i]?=aj o)(hh:∀w,o.holds w->o'.holds w)(hf:∀k,o'.fF k->o.fF k)(h:T P n W c Q fr (L.set i o')):T P n W c Q fr L:= .mk λa w hr hm=>h.go a w hr (hm.P' o' hi hh hf)
theorem oI{e:Exit}{i:Nat}{o:cU}(o':cU)(hi:L[i]?=aj o)(hh:∀w,o.holds w->o'.holds w)(hf:∀k,o'.fF k->o.fF k)(h:E n W e Q fr (L.set i o')):E n W e Q fr L:= .mk λa w hr hm=>h.go a w hr (hm.P' o' hi hh hf)
end
end cZ
namespace cZ
open Go.RowKit dr eH dT iA
inductive kX(F:Nat->Prop)(w:World):List Value->Rx->Prop
 |mk {k:Int} {c:C4} {kids:List Rx} {base:Option Addr} {cap:Nat} (gY:List (List Value)):dr.eD k->kids.length<=cap->cap<=maxLen->gY.length=kids.length->
  (∀i (h:i<kids.length) (h':i<gY.length),kX F w gY[i] kids[i])->(0<kids.length->∃b off,base=aj ⟨b,off,ak⟩/\F b/\∀i (_:i<kids.length) (h':i<gY.length),Rd w b (off+i*6) gY[i])->
  kX F w (av az k::(fh c++[ap base kids.length cap])) (.mk k c kids)
theorem kX.acJ{F:Nat->Prop}{w:World}{cs:List Value}{t:Rx}(h:kX F w cs t):cs.length=6:=by
 cases h;rfl
theorem kX.HX{F:Nat->Prop}{w w':World}{cs:List Value}{t:Rx}(h:kX F w cs t)(hk:∀k,F k->w'.heap[k]?=w.heap[k]?):kX F w' cs t:=by
 induction h with
 |mk gY h2 h3 h4 h5 h6 h7 ih=>
  refine .mk gY h2 h3 h4 h5 ih λhl=>?_;obtain⟨b,off,e,hF,hr⟩:=h7 hl;exact⟨b,off,e,hF,λi hi qN=>rd_stay (hr i hi qN) (hk b hF)⟩
theorem kX.mono{F F':Nat->Prop}{w:World}{cs:List Value}{t:Rx}(h:kX F w cs t)(hk:∀k,F k->F' k):kX F' w cs t:=by
 induction h with
 |mk gY h2 h3 h4 h5 h6 h7 ih=>
  refine .mk gY h2 h3 h4 h5 ih λhl=>?_;obtain⟨b,off,e,hF,hr⟩:=h7 hl;exact⟨b,off,e,hk b hF,hr⟩
def xB:wF Rx:=⟨6,kX,λh=>h.acJ,λh hk=>h.HX hk,λh hk=>h.mono hk⟩
def nR(k:Int)(c:C4)(v:Value):List Value:=av az k::(fh c++[v])
def sB(k:Int)(c:C4)(v:Value):Value:=aU (nR k c v).toArray
theorem B_{F:Nat->Prop}{w:World}{cs:List Value}{k:Int}{c:C4}{kids:List Rx}:kX F w cs (.mk k c kids)↔∃v,cs=nR k c v/\dr.eD k/\kH xB F w v kids:=by
 constructor
 ·intro h
  cases h with
  |mk gY h2 h3 h4 h5 h6 h7=>
   refine⟨_,rfl,h2,_,_,rfl,h3,h4,λhl=>?_⟩;obtain⟨b,off,e,hF,hr⟩:=h7 hl;exact⟨b,off,e,hF,λi hi=>⟨gY[i]' J,h6 i hi J,hr i hi J⟩⟩
 rintro⟨v,rfl,h2,base,cap,rfl,h3,h4,h5⟩
 by_cases hl:0<kids.length
 ·obtain⟨b,off,e,hF,hr⟩:=h5 hl
  have hlen:(UZ λi:Fin kids.length=>HA (hr i i.2)).length=kids.length:=by simp
  refine .mk (UZ λi:Fin kids.length=>HA (hr i i.2)) h2 h3 h4 hlen (λi hi qN=>?_) λ_=>⟨b,off,e,hF,λi hi qN=>?_⟩;rw[UU];exact(CC (hr i hi)).1;rw[UU];exact(CC (hr i hi)).2
 have:kids=[]:=si J;subst this;exact .mk [] h2 h3 h4 I (λi hi=>absurd hi (by simp)) λh=>absurd h (by simp)
def om(F:Nat->Prop)(w:World)(v:Value)(r:Rx):Prop:=∃vk,v=sB r.kind r.uf vk/\dr.eD r.kind/\kH xB F w vk r.kids
theorem om.stay{F:Nat->Prop}{w w':World}{v:Value}{r:Rx}(h:om F w v r)(hk:∀k,F k->w'.heap[k]?=w.heap[k]?):om F w' v r:=
 let ⟨vk,h1,h2,h3⟩:=h;⟨vk,h1,h2,h3.stay hk⟩
theorem om.mono{F F':Nat->Prop}{w:World}{v:Value}{r:Rx}(h:om F w v r)(hk:∀k,F k->F' k):om F' w v r:=
 let ⟨vk,h1,h2,h3⟩:=h;⟨vk,h1,h2,h3.mono hk⟩
def ri(w:World):Nat->Prop:=λk=>k<w.heap.size
theorem om.gr{w w':World}{v:Value}{r:Rx}(h:om (ri w) w v r)(hg:Gr w w'):om (ri w') w' v r:=
 (h.stay λk hk=>hg.block k hk).mono λ_ hk=>jf hk hg.size
theorem om.is{F:Nat->Prop}{w:World}{v:Value}{r:Rx}(h:om F w v r):∃cs,v=aU cs.toArray/\kX F w cs r:=by
 obtain⟨k,c,kids⟩:=r;obtain⟨vk,rfl,h1,h2⟩:=h;exact⟨_,rfl,B_.2 ⟨vk,rfl,h1,h2⟩⟩
theorem kX.r{F:Nat->Prop}{w:World}{cs:List Value}{r:Rx}(h:kX F w cs r):om F w (aU cs.toArray) r:=by
 obtain⟨k,c,kids⟩:=r;obtain⟨vk,rfl,h1,h2⟩:=B_.1 h;exact⟨vk,rfl,h1,h2⟩
theorem qx{F:Nat->Prop}{w:World}{b off:Nat}{l:List Rx}(h:∀i (h:i<l.length),∃cs,xB.is F w cs l[i]/\Rd w b (off+i*xB.c) cs){k:Nat}(hk:k<l.length):
 ∃base cap,Rd w b (off+k*6) (nR l[k].kind l[k].uf (.slice base l[k].kids.length cap))/\om F w (sB l[k].kind l[k].uf (.slice base l[k].kids.length cap)) l[k]:=by
 obtain⟨cs,h1,hr⟩:=h k hk;have h1:kX F w cs l[k]:=h1;generalize l[k]=r at*;obtain⟨kd,c,kids⟩:=r;obtain⟨vk,rfl,a1,a2⟩:=B_.1 h1;have a2':=a2;obtain⟨base,cap,rfl,_⟩:=a2';exact⟨base,cap,hr,_,rfl,a1,a2⟩
def C5(r:Re)(k:Nat):List (Re×Nat):=match r with
 | .HQ a b=>[(a,k+1),(b,k+1+a.size)]
 | .HR a b=>[(a,k+1),(b,k+1+a.size)]
 | .star a=>[(a,k+1)]
 |_=>[]
inductive A5(F:Nat->Prop)(w:World):List Value->Re×Nat->Prop
 |mk {r:Re} {k:Nat} {vk:Value} {base:Option Addr} {cap:Nat} (gY:List (List Value)):vk.oneCell'=aD->(C5 r k).length<=cap->cap<=maxLen->gY.length=(C5 r k).length->
  (∀i (h:i<(C5 r k).length) (h':i<gY.length),A5 F w gY[i] (C5 r k)[i])->(0<(C5 r k).length->∃b off,base=aj ⟨b,off,ak⟩/\F b/\∀i (_:i<(C5 r k).length) (h':i<gY.length),Rd w b (off+i*8) gY[i])->
  A5 F w (av az r.kind::(fh r.uf++[vk,av az (k:Int),ap base (C5 r k).length cap])) (r,k)
theorem A5.HX{F:Nat->Prop}{w w':World}{cs:List Value}{t:Re×Nat}(h:A5 F w cs t)(hk:∀k,F k->w'.heap[k]?=w.heap[k]?):A5 F w' cs t:=by
 induction h with
 |mk gY h2 h3 h4 h5 h6 h7 ih=>
  refine .mk gY h2 h3 h4 h5 ih λhl=>?_;obtain⟨b,off,e,hF,hr⟩:=h7 hl;exact⟨b,off,e,hF,λi hi qN=>rd_stay (hr i hi qN) (hk b hF)⟩
theorem A5.mono{F F':Nat->Prop}{w:World}{cs:List Value}{t:Re×Nat}(h:A5 F w cs t)(hk:∀k,F k->F' k):A5 F' w cs t:=by
 induction h with
 |mk gY h2 h3 h4 h5 h6 h7 ih=>
  refine .mk gY h2 h3 h4 h5 ih λhl=>?_;obtain⟨b,off,e,hF,hr⟩:=h7 hl;exact⟨b,off,e,hk b hF,hr⟩
section
variable{P:Program}{n:Nat}{W:b9}{fr:Fr}{L:List cU}{Q:Exit->Act->World->Prop}{ops:Array Oper}{rest:List Oper}
theorem Mem.ZE{w:World}{i:Nat}{o:cU}(o':cU)(h:Mem W L w)(hi:L[i]?=aj o)(hh:o'.holds w)(hf:∀k,o'.fF k->o.fF k):Mem W (L.set i o') w:=by
  have hlen:i<L.length:=(dv.1 hi).1;have hoi:=h.owns.all i o hi;refine⟨h.low,λj q hj=>?_,λj j' q q' rp hj qc k hk mZ=>?_⟩
  · by_cases e:i=j
    · subst e
      rw[mE hlen]at hj;simp only[dB]at hj;subst hj;exact⟨hh,λk hk=>hoi.2 k (hf k hk)⟩
    rw[mD e]at hj;exact h.owns.all j q hj
  by_cases e:i=j
  · subst e
    rw[mE hlen]at hj;rw[mD rp]at qc;simp only[dB]at hj;subst hj;exact h.owns.apart i j' o q' rp hi qc k (hf k hk) mZ
  rw[mD e]at hj
  by_cases e':i=j'
  · subst e'
    rw[mE hlen]at qc;simp only[dB]at qc;subst qc;exact h.owns.apart j i q o rp hj hi k hk (hf k mZ)
  rw[mD e']at qc;exact h.owns.apart j j' q q' rp hj qc k hk mZ
end
end cZ
namespace oU
open Go.RowKit dr eH dT cZ
set_option maxRecDepth 100000 in
theorem acK(x y:C4)(w:World):(oZ 10000 116 (aU #[v64 x.a,v64 x.b,v64 x.c,v64 x.d]) (aU #[v64 y.a,v64 y.b,v64 y.c,v64 y.d])).run aC w= .ok (decide (x=y)) w:=by
  have e:(oZ 10000 116 (aU #[v64 x.a,v64 x.b,v64 x.c,v64 x.d]) (aU #[v64 y.a,v64 y.b,v64 y.c,v64 y.d])).run aC w= .ok ((iN x.a==iN y.a)&&((iN x.b==iN y.b)&&((iN x.c==iN y.c)&&(iN x.d==iN y.d)))) w:=by
    unfold v64;rw[run_equalIn_array (P:=aC) w 9999 (n:=4) (e:=114) _ _ I I];have h1:aC.cellsOf 114=1:=rfl;simp[Op.eqItems,go_sem,List.range_succ_eq_map,h1]
    by_cases e1:iN x.a=iN y.a<;>by_cases e2:iN x.b=iN y.b<;>by_cases e3:iN x.c=iN y.c<;>by_cases e4:iN x.d=iN y.d<;>simp[e1,e2,e3,e4]
  rw[e]
  congr 1
  by_cases h:x=y
  subst h;simp;rw[decide_eq_false h];simp only[acC,Bool.and_eq_false_iff]
  by_cases h1:x.a=y.a
  · by_cases h2:x.b=y.b
    · by_cases h3:x.c=y.c
      · by_cases h4:x.d=y.d
        exact absurd (C4.ext' h1 h2 h3 h4) h;simp[h4]
      simp[h3]
    simp[h2]
  simp[h1]
end oU
namespace cZ
open Go.RowKit dr eH
section
variable{P:Program}{n:Nat}{W:b9}{fr:Fr}{L:List cU}{Q:Exit->Act->World->Prop}{ops:Array Oper}{rest:List Oper}{d:Nat}{dst:Option Tmp}{ty:TypeId}{pos:String}{after:Array Edge}{guard:Option (Nat×Bool)}
theorem acL{t e:TypeId}{x z z':Operand}{agg:Bool}{c j len cap b off:Nat}{k k':IntKind}(ht:P.underlying t=aj (.slice e))(he:Ty P e agg c)(hx:ev fr x=aj (ap (aj ⟨b,off,ak⟩) len cap))(hz:ev fr z=aj (.int k (j:Int)))(hz':ev fr z'=aj (.int k' (j:Int)))(h2:j<=cap):
 RR P n W ⟨dst,.slice t x ak (aj z) (aj z'),ty,pos,after,guard⟩ fr L (ap (aj ⟨b,off,ak⟩) j j):= .mk λa w hr _=>by
 have hb:∀(k:IntKind) (p q:Nat) (cd:BoundsCode),p<=q->(HD (.int k (p:Int)) q cd).run P w= .ok p w:=λk p q cd h=>by
  have:(0:Int)<=(p:Int)/\(p:Int)<=(q:Int):=by omega
  simp[HD,asIntOf,this]
 have e1:((⟨b,off,ak⟩:Addr).add 0)=⟨b,off,ak⟩:=by rw[fv];rfl
 simp[execOp,hr.ev hx,hr.ev hz,hr.ev hz',sf,sg,run_underlying ht,se,he.size,hb k' j cap _ h2,hb k j j _ (bJ _),e1]
theorem NA{t e:TypeId}{s x:Operand}{q g b off size bytes m:Nat}{olds:List Value}{cs:Array Value}{T:TypeId}[ub:tA P t e size bytes](hs:ev fr s=aj (ap (aj ⟨b,off,ak⟩) m m))(hold:∀j v,olds[j]?=aj v->At W L ⟨b,off+j,ak⟩ v)(hol:olds.length=m*size)(hq:L[q]?=aj (aR g cs T))(hx:ev fr x=aj (ap (aj ⟨g,0,ak⟩) 1 1))
 (hl:cs.size=size) (r9:m+1<=140737488355328) (hb:(m+1)*bytes<=140737488355328) (hn:dM d n=aD)
 (h:∀v',TL P n W ops Q rest ((d,v')::fr) (L++[bD e size v' (m+1) (olds++cs.toList)])):
 TL P n W ops Q (⟨aj d,.call {callee:= .builtin .append,args:=#[s,x],argTypes:=#[t,t]},ty,pos,after,ak⟩::rest) fr L:=kU I λact w hr hm K hK=>by
 obtain⟨inf,z,ht,yq,hz,mi,JN,Nn,hsz⟩:=ub.el.ex;subst mi JN;have hrun:=run_append_grow (P:=P) w t ty e inf z ht yq hz ⟨b,off,ak⟩ m m olds hol (λj v hj=>by rw[fv];exact hold j v hj w hm) ⟨g,0,ak⟩ 1 1 cs.toList (by simpa using hl) (λj v hj=>by rw[fv,du];exact aH hq (by simpa using hj) w hm) J J (growslice_fits J hb);have e':(execOp act.eval ⟨aj d,.call {callee:= .builtin .append,args:=#[s,x],argTypes:=#[t,t]},ty,pos,after,ak⟩).run P w= .ok (.value (ap (aj ⟨w.heap.size,0,ak⟩) (m+1) (grownCap w (m+1) m e))) (w.drew.alloc (.cells (olds.toArray++cs.toList.toArray++Builtin.zeroCells z.cells (grownCap w (m+1) m e-(m+1))) e)):=by
  simp only[lZ,sd,Na,gu,o7,hr.ev hs,hr.ev hx,l5,hrun,n',mB]
 unfold gG;rw[e'];have hge:=grownCap_ge w (m+1) m e;have No:grownCap w (m+1) m e<=maxLen:=grownCap_le_maxLen w (m+1) m e (by unfold maxLen;omega);have hlen:(olds++cs.toList).length=(m+1)*inf.size:=by rw[bT,hol,nj,hl,kQ]
 refine hK _ _ ((h _).go _ _ (hr.put hn _) (hm.append ((Below.refl _ _).drew.alloc (bJ _) _) (nO.one ?_ ?_)))
 ·refine(⟨hlen,.inr ⟨w.heap.size,_,_,rfl,bO _,heap_alloc_new w.drew _,hge,No,?_,?_⟩⟩:World.ownsRow _ 0 e inf.size _ (m+1) (olds++cs.toList))
  ·simp only[Array.size_append,eE,size_zeroCells,Nn,hol,hl]
   have:grownCap w (m+1) m e=m+1+(grownCap w (m+1) m e-(m+1)):=by omega
   conv=>rhs;rw[this,jF,jF,tW]
  simp only[Array.toList_append];rw[<-hlen];exact List.take_left
 ·intro k hk
  have hk:qK (ap (aj ⟨w.heap.size,0,ak⟩) (m+1) (grownCap w (m+1) m e))=aj k:=hk;simp only[qK,dB]at hk;omega
def gA(G:Option Nat):Option Addr:=G.map λg=>⟨g,0,ak⟩
theorem Ki{w:World}{e:TypeId}{size m:Nat}{v:Value}{xs:List Value}(h:(bD e size v m xs).holds w):∃G cap,v=ap (gA G) m cap/\m<=cap/\cap<=maxLen/\(G=ak->cap=0):=by
 have h:w.ownsRow 0 e size v m xs:=h;rcases h.2 with⟨hv,h0⟩|⟨g,cap,kg,hv,_,_,h1,h2,_⟩
 exact⟨ak,0,by rw[hv,h0];rfl,by omega,by decide,λ_=>rfl⟩;exact⟨aj g,cap,hv,h1,h2,λh=>by cases h⟩
theorem acM{c:Code}{i size m:Nat}{e:TypeId}{v:Value}{xs:List Value}(hi:L[i]?=aj (bD e size v m xs))(h:∀G cap,v=ap (gA G) m cap->m<=cap->cap<=9223372036854775807->(G=ak->cap=0)->T P n W c Q fr L):T P n W c Q fr L:= .mk λa w hr hm=>by
 obtain⟨G,cap,h1,h2,h3,h4⟩:=Ki (hm.get hi);exact(h G cap h1 h2 h3 h4).go a w hr hm
theorem xC{c:Code}{i size m:Nat}{e:TypeId}{v:Value}{xs:List Value}(hi:L[i]?=aj (bD e size v m xs))(h0:0<m)(h:∀g cap,v=ap (aj ⟨g,0,ak⟩) m cap->m<=cap->cap<=9223372036854775807->T P n W c Q fr L):T P n W c Q fr L:=by
 refine acM hi λG cap hv h1 h2 h3=>?_
 cases G with
 |none=>have:=h3 I;omega
 |some g=>exact h g cap hv h1 h2
end
end cZ
namespace cZ
open Go.RowKit dr eH dT iA
theorem Kj(k:Int)(w:World):Calls aC 174 #[av az k] w (cY (ret (av az (CW k))) w):=by
 unfold CW;refine enter (args:=[av az k]) (n:=13) Tryz.func174 I I I ?_
 by_cases k1:k=1
 ·rw[if_pos k1]
  try refine GA ?_
  exact fa
 rw[if_neg k1]
 by_cases k2:k=2
 ·rw[if_pos k2]
  try refine GA ?_
  exact fa
 rw[if_neg k2]
 by_cases k3:k=3
 ·rw[if_pos k3]
  try refine GA ?_
  exact fa
 rw[if_neg k3]
 by_cases k6:k=6
 ·rw[if_pos k6]
  try refine GA ?_
  exact fa
 rw[if_neg k6]
 by_cases k4:k=4
 ·rw[if_pos k4]
  try refine GA ?_
  exact fa
 rw[if_neg k4]
 by_cases k5:k=5
 ·rw[if_pos k5]
  try refine GA ?_
  exact fa
 rw[if_neg k5]
 try refine GA ?_
 exact fa
theorem acN{r:Rx}{deep n:Nat}(h:(my r deep n).1=0):(my r deep n).2<=100:=by
 obtain⟨e,_,h1,h2⟩:=HT _ r deep n (my r deep n).2 (bJ _) (od h rfl);have:=h1.sz;omega
theorem VB(w:World):(dR 116 (#[]:Array (Nat×Value))).run aC w= .ok (rr C4.zero) w:=by kernel_rfl
theorem aej(x y:C4)(w:World):(oZ 10000 116 (rr x) (rr y)).run aC w= .ok (decide (x=y)) w:=oU.acK x y w
theorem Qb{W0:World}{W:b9}{L:List cU}{b off:Nat}{cs:List Value}(ho:p_ W0 W)(h:Rd W0 b off cs)(j:Nat)(v:Value)(hj:cs[j]?=aj v):At W L ⟨b,off+j,ak⟩ v:=iW ho (h j v hj)
theorem ZF{k:Int}{c:C4}{vk:Value}{j:Nat}{v:Value}(h:(fh c)[j]?=aj v):(nR k c vk).toArray[0+1+j]?=aj v:=by
 have hj:j<(fh c).length:=(dv.1 h).1;rw[kt,show 0+1+j=j+1 by omega];show(fh c++[vk])[j]?=_
 rw[fH hj];exact h
set_option maxRecDepth 100000 in
theorem A6(w0:World)(gn:Nat):∀(N:Nat) (r:Rx),te r<=N->∀(v:Value) (deep n:Nat) (w:World) (B:b9),om (ri w0) w0 v r->n<=100->deep<=31->p_ w0 B->Mem B [aR gn #[av az (n:Int)] 3] w->
 Calls aC 146 #[v,av az (deep:Int),aK (aj ⟨gn,0,ak⟩)] w (dF ⟨λ(_:Unit)=>True,λ_=>av az (my r deep n).1,λ_=>[aR gn #[av az ((my r deep n).2:Int)] 3]⟩ B)
 |0,r,h,_,_,_,_,_,_,_,_,_,_=>by have:=FZ r;omega
 | N + 1,.mk k c kids,hN,v,deep,n,w,B,hv,hn,hd,ho,hm=>by
  have IH:=A6 w0 gn N;obtain⟨vk,rfl,afS,Qc⟩:=hv;dsimp only[Rx.kind,Rx.uf,Rx.kids]at afS Qc⊢;obtain⟨bk,ck,rfl,jr,MK,R_⟩:=Qc;unfold maxLen at MK;rw[my];rw[te]at hN;have hkc:=λw=>Kj k w;have P4:=aej c C4.zero;have hcz:=VB;refine dZ hm (args:=[sB k c (ap bk kids.length ck),av az (deep:Int),aK (aj ⟨gn,0,ak⟩)]) (n:=55) Tryz.func146 I I I ?_;clear hm;refine bC (aM (b_ I I I λg3=>?_));refine zL ?_
  repeat(first|refine GC ?_|refine gV (aB aL.ty I (aH (i:=0) I I)) ?_|refine gV (bL (r:=((n+1:Nat):Int)) I I J J J) ?_|refine GB ?_)
  refine cD (i:=0) I I I I I I ?_;rw[show(#[av az (n:Int)]:Array Value).setIfInBounds 0 (av az ((n+1:Nat):Int))=#[av az ((n+1:Nat):Int)]from I];refine zL ?_
  by_cases c1:100<n+1
  ·rw[if_pos c1]
   repeat(first|refine GA ?_|refine gV (aB aL.ty I (aH (i:=0) I I)) ?_)
   exact da I I λw hm=>hm.cX (S:=⟨λ(_:Unit)=>True,λ_=>av az 2,λ_=>[aR gn #[av az ((n+1:Nat):Int)] 3]⟩) () trivial [0] ahk I
  rw[if_neg c1]
  by_cases c2:30<deep
  ·rw[if_pos c2]
   repeat(first|refine GA ?_|refine gV (aB aL.ty I (aH (i:=0) I I)) ?_)
   exact da I I λw hm=>hm.cX (S:=⟨λ(_:Unit)=>True,λ_=>av az 7,λ_=>[aR gn #[av az ((n+1:Nat):Int)] 3]⟩) () trivial [0] ahk I
  rw[if_neg c2]
  repeat(first|refine GA ?_|refine gV (aB aL.ty I (aH (i:=0) I I)) ?_)
  by_cases c3:CW k≠(kids.length:Int)
  ·rw[if_pos c3]
   (repeat refine bC ?_)
   refine eo ([aR g3 (nR k c (ap bk kids.length ck)).toArray 119]) (.calm 0 (.calm 1 (.calm 2 (.calm 3 (.calm 4 (.calm 5 (.calm 6 (.calm 7 (.done))))))))) (cH [1]) ?_
   repeat(first|refine GW ?_|(refine GN ?_;first|refine QW (aB aL.ty I (aH (i:=0) I I)) ?_))
   refine oF I (ju aJ.en I I) (λw hm=>hkc _) I I I ?_
   repeat(first|(refine GN ?_;first|refine QW QP ?_|refine QW (aB aL.ty I (aH (i:=0) I I)) ?_|refine QW (bm (b:=aD) I I (decide_eq_true c3)) ?_|refine GX ?_)|refine GW ?_)
   try refine GA ?_
   exact da I I λw hm=>hm.cX (S:=⟨λ(_:Unit)=>True,λ_=>av az 1,λ_=>[aR gn #[av az ((n+1:Nat):Int)] 3]⟩) () trivial [0] ahk I
  rw[if_neg c3];have Kk:CW k=(kids.length:Int):=by simpa using c3
  rw[Kk]at hkc
  (repeat refine bC ?_)
  refine eo ([aR g3 (nR k c (ap bk kids.length ck)).toArray 119]) (.calm 0 (.calm 1 (.calm 2 (.calm 3 (.calm 4 (.calm 5 (.calm 6 (.calm 7 (.done))))))))) (cH [1]) ?_
  repeat(first|refine GW ?_|(refine GN ?_;first|refine QW (aB aL.ty I (aH (i:=0) I I)) ?_))
  refine oF I (ju aJ.en I I) (λw hm=>hkc _) I I I ?_
  repeat(first|(refine GN ?_;first|refine QW QP ?_|refine QW (aB aL.ty I (aH (i:=0) I I)) ?_|refine QW (bm (b:=aE) I I (decide_eq_false (λh=>h I))) ?_|refine GX ?_)|refine GW ?_)
  try refine GA ?_
  generalize hD:(decide (k=3) !=decide (c≠C4.zero))=D;have hD':(!(decide (k=3)==!decide (c=C4.zero)))=D:=by
   rw[<-hD,decide_not]
   cases decide (k=3)<;>cases decide (c=C4.zero)<;>rfl
  (repeat refine bC ?_)
  refine eo ([aR g3 (nR k c (ap bk kids.length ck)).toArray 119]) (.calm 0 (.calm 1 (.calm 2 (.calm 3 (.calm 4 (.calm 5 (.calm 6 (.calm 7 (.calm 8 (.done)))))))))) (cH [1]) ?_
  repeat(first|(refine GN ?_;first|refine QW QP ?_|refine QW (aB aL.ty I (aH (i:=0) I I)) ?_|refine QW (aX (b:=decide (k=3)) I I I) ?_|refine QW (bH (cs:=fh c) aL.ty I I (λj v hj=>aH (i:=0) I (ZF hj))) ?_|refine QW (bP I hcz) ?_|refine QW (CU I I (by kernel_rfl) P4 I) ?_|refine QW (RJ (c:=D) bR.eq I I hD') ?_|refine GX ?_)|refine GW ?_)
  clear hD hD' P4 hcz hkc
  cases D with
  | true=>
   rw[if_pos I]
   try refine GA ?_
   exact da I I λw hm=>hm.cX (S:=⟨λ(_:Unit)=>True,λ_=>av az 1,λ_=>[aR gn #[av az ((n+1:Nat):Int)] 3]⟩) () trivial [0] ahk I
  | false=>
   rw[if_neg ahk]
   repeat(first|refine GA ?_|refine gV (aB aL.ty I (aH (i:=1) I I)) ?_)
   refine ue [0] ?_;refine eK (ι:=Nat×Nat) (λ(j,q)=>j<=kids.length/\q<=100/\BJ kids (deep+1) (n+1)=BJ (kids.drop j) (deep+1) q) (λ(j,_)=>[(1,av az (deep:Int)),(2,aK (aj ⟨gn,0,ak⟩)),(40,ap bk kids.length ck),(41,av az (kids.length:Int)),(42,av az (j:Int))])
    (λ(_,q)=>[aR gn #[av az (q:Int)] 3]) (λ(j,_)=>kids.length-j) (0,n+1) ⟨bO _,by omega,rfl⟩ ?_
   rintro⟨j,q⟩ ⟨hj,hq,hk⟩;dsimp only at hj hq hk⊢;rw[hk]
   by_cases c4:j<kids.length
   ·obtain⟨b,off,rfl,_,hr⟩:=R_ J
    obtain⟨bj,cj,fl,hkr⟩:=qx hr c4;have U3:kids.drop j=kids[j]::kids.drop (j+1):=ff c4;rw[U3,BJ]at hk⊢;have hsz:=CX (cV c4);have hle:=λh=>acN (r:=kids[j]'c4) (deep:=deep+1) (n:=q) h;have d_:=λ(L:List cU) j v hj=>Qb (L:=L) ho fl j v hj;generalize kids[j]=r at*;generalize r.kids.length=m at*
    repeat(first|refine GA ?_|refine gV (a_ (j:=j) bR.eq aL.ty I I c4) ?_|refine gV (bH aL.ty I I (d_ _)) ?_)
    refine bz I λg8=>?_;refine zL ?_;refine il 1 (cs':=(nR r.kind r.uf (ap bj m cj)).toArray) ?_;refine zL ?_
    repeat(first|refine GC ?_|refine gV (aQ (i:=1) aL.ty I I I) ?_|refine gV (bL (r:=((deep+1:Nat):Int)) I I J J J) ?_|refine GB ?_)
    refine bK [0] [1] ahk I I (tH aJ.en I I I I) (λw hm hb=>IH r J _ (deep+1) q w _ hkr hq J (ho.on hm (by intro o ho;simp at ho⊢;simp[ho])) hb) I I I ?_;intro _ _;dsimp only;refine zL ?_
    by_cases e1:(my r (deep+1) q).1=0
    ·rw[if_neg (by simpa using e1)]
     rw[if_neg (by simpa using e1)]at hk;have CM:=hle e1;rw[e1];generalize (my r (deep+1) q).2=q' at*
     try refine GA ?_
     refine dS [1] ?_;exact cJ (j+1,q') ⟨by show j+1<=kids.length;omega,CM,rfl⟩ (by show kids.length-(j+1)<kids.length-j;omega)
    rw[if_pos e1];generalize my r (deep+1) q=z at*
    repeat(first|refine GC ?_|refine gV (bm (b:=aD) I I (decide_eq_true e1)) ?_|refine GB ?_)
    exact da I I λw hm=>hm.cX (S:=⟨λ(_:Unit)=>True,λ_=>av az z.1,λ_=>[aR gn #[av az (z.2:Int)] 3]⟩) () trivial [1] ahk I
   obtain rfl:j=kids.length:=by omega
   rw[List.drop_length,BJ]at hk⊢
   try refine GA ?_
   exact da I I λw hm=>hm.cX (S:=⟨λ(_:Unit)=>True,λ_=>av az 0,λ_=>[aR gn #[av az (q:Int)] 3]⟩) () trivial [0] ahk I
def VC(r:Rx):Int:=(my r 1 0).1
theorem uu(v:Value)(r:Rx)(w:World)(hv:om (ri w) w v r):Calls aC 111 #[v] w (cY (ret (av az (VC r))) w):=by
 have hc:=λgn w' B ho hm=>A6 w gn _ r (bJ _) v 1 0 w' B hv J J ho hm;obtain⟨vk,rfl,_,hs⟩:=hv;obtain⟨bk,ck,rfl,-⟩:=hs;generalize r.kids.length=m at*;refine enter (args:=[sB r.kind r.uf (ap bk m ck)]) (n:=6) Tryz.func111 I I I ?_;refine bC (aM (b_ I I I λg1=>?_))
 try refine GA ?_
 refine bz I λg3=>?_;refine zL ?_;refine cD (i:=1) I I I I I I ?_;refine zL ?_
 repeat(first|refine GA ?_|refine gV (aQ (i:=0) aL.ty I I I) ?_)
 refine bK [1] [0] ahk I I (tH aJ.en I I I I) (λw hm hb=>hc g3 w _ ((p_.self _).on hm (by intro o ho;simp at ho⊢;simp[ho])) hb) I I I ?_;intro _ _;dsimp only;unfold VC
 try refine GA ?_
 exact fa
end cZ
section
open Go.RowKit dr eH dT
attribute [local go_sem] aec afO abI aed
theorem pg(w:World)(o:Obj):Below w.heap.size w (w.alloc o):=(Below.refl _ _).alloc (bJ _) _
end
namespace cZ
open Go.RowKit dr eH
theorem mapM_some{α β:Type}{f:α->Option β}:∀{l:List α},(∀x∈l,∃y,f x=aj y)->∃ys,l.mapM f=aj ys
 |[],_=>⟨[],by simp⟩
 |a::l,h=>by
  obtain⟨y,hy⟩:=h a (by simp);obtain⟨ys,hys⟩:=mapM_some (l:=l) λx hx=>h x (by simp[hx]);exact⟨y::ys,by simp[UX,hy,hys]⟩
section
variable{P:Program}
def KL(P:Program)(d:Nat)(t:TypeId)(cs:List Value):Prop:=∃ls,P.keyLits d t cs=aj ls
theorem uv{d:Nat}{t:TypeId}{q:IntKind}{n:Int}(ht:P.underlying t=aj (.int q))(h0:q.min<=n)(h1:n<=q.max):KL P (d+1) t [.int q n]:=by
 refine⟨[.int q n],?_⟩;have hw:(Lit.int q n).wf=true:=by simp[Lit.wf,h0,h1]
 simp[sh,ht,hw]
theorem VD{d n:Nat}{t e:TypeId}{cs:List Value}(ht:P.underlying t=aj (.array n e))(hl:cs.length=P.cellsOf t)(h:∀i,i<n->KL P d e ((cs.drop (i*P.cellsOf e)).take (P.cellsOf e))):KL P (d+1) t cs:=by
 obtain⟨ys,hy⟩:=mapM_some (f:=λi=>P.keyLits d e ((cs.drop (i*P.cellsOf e)).take (P.cellsOf e))) (l:=eG n) λi hi=>h i (nr.1 hi);refine⟨ys.flatten,?_⟩;unfold sh;simp only[ht];rw[if_pos hl,hy];rfl
theorem Aa{d:Nat}{t:TypeId}{fs:Array Field}{cs:List Value}(ht:P.underlying t=aj (.struct fs))(hl:cs.length=P.cellsOf t)(hn:fs.all (·.name != "_")=aD)(h:∀f∈fs.toList,KL P d f.type ((cs.drop f.offset).take (P.cellsOf f.type))):KL P (d+1) t cs:=by
 obtain⟨ys,hy⟩:=mapM_some (f:=λf:Field=>P.keyLits d f.type ((cs.drop f.offset).take (P.cellsOf f.type))) (l:=fs.toList) h;refine⟨ys.flatten,?_⟩;unfold sh;simp only[ht];rw[if_pos ⟨hl,hn⟩,hy];rfl
theorem HY{t:TypeId}{cs:List Value}{m:Nat}(hw:(match P.underlying t with|some (.array _ _)|some (.struct _)=>aD|_=>aE)=aD)(hk:P.keyType t=aD)(hl:cs.length=P.cellsOf t)(hm:∃d,P.types.size+1=d+m)(h:∀d,KL P (d+m) t cs):∃l,keyOf P t (aU cs.toArray)=aj l:=by
 obtain⟨d,e⟩:=hm;obtain⟨ls,hls⟩:=h d;refine⟨.string (keyBytes ls),?_⟩;have hf:(aU cs.toArray).formed P t=true:=by
  unfold Value.formed;split at hw<;>simp_all
 have hc:(aU cs.toArray).cells.toList=cs:=rfl;have key:(if(P.keyType t&&(aU cs.toArray).formed P t)=aD then(P.keyLits (P.types.size+1) t (aU cs.toArray).cells.toList).map (λls=>Lit.string (keyBytes ls))else ak)=aj (.string (keyBytes ls)):=by
  rw[hk,hf,hc,e,hls];rfl
 unfold keyOf;split at hw
 ·rename_i h1;rw[h1];exact key
 ·rename_i h1;rw[h1];exact key
 cases hw
end
theorem Ca:laidOutB aC=true:=by kernel_rfl
theorem Cb(m:Nat)(h:xj m (aC.types.size+1)=aD):∃d,aC.types.size+1=d+m:=⟨aC.types.size+1-m,by have:=mH h;omega⟩
end cZ
namespace dq
section
variable{κ:Type}[DecidableEq κ]
def eh:List κ->List κ->List κ
 |D,[]=>D
 |D,k::r=>eh (if k∈D then D else D++[k]) r
def more(D:List κ)(k:κ):List κ:=if k∈D then D else D++[k]
theorem kY:∀(l D:List κ) (k:κ),eh D (l++[k])=more (eh D l) k
 |[],_,_=>rfl
 |_::l,_,k=>kY l _ k
theorem C6(D:List κ)(k:κ):∃E,more D k=D++E:=by
 unfold more;split;exact⟨[],by simp⟩;exact⟨[k],rfl⟩
theorem ux{D:List κ}{k x:κ}:x∈more D k↔x∈D\/x=k:=by
 unfold more;split
 ·rename_i h
  exact⟨.inl,λe=>e.elim id λe=>e▸h⟩
 simp
theorem sC:∀(l D:List κ),∃E,eh D l=D++E
 |[],D=>⟨[],by simp[eh]⟩
 |k::l,D=>by
  obtain⟨E,h⟩:=C6 D k;obtain⟨E',h'⟩:=sC l (more D k);exact⟨E++E',by show eh (more D k) l=_;rw[h',h,eZ]⟩
theorem kZ{x:κ}:∀{l D:List κ},x∈eh D l↔x∈D\/x∈l
 |[],D=>by simp[eh]
 |k::l,D=>by
  show x∈eh (more D k) l↔_
  rw[kZ,ux,ez,or_assoc]
theorem C7{D:List κ}{k:κ}(h:D.Nodup):(more D k).Nodup:=by
 unfold more;split;exact h
 rename_i hk
 exact UT.2 ⟨h,by simp,λa ha b hb e=>by simp at hb;subst hb e;exact hk ha⟩
theorem sD:∀(l D:List κ),D.Nodup->(eh D l).Nodup
 |[],_,h=>h
 |_::l,_,h=>sD l _ (C7 h)
def idx(D:List κ)(k:κ):Nat:=D.idxOf k
theorem nu{D:List κ}{k:κ}(h:k∈D):idx D k<D.length:=List.idxOf_lt_length_of_mem h
theorem Cc{D:List κ}{k:κ}(h:idx D k<D.length):D[idx D k]=k:=List.getElem_idxOf h
theorem C8{D:List κ}(hn:D.Nodup){v:Nat}(h:v<D.length):idx D D[v]=v:=by
 have h1:=nu (cV h);exact(List.getElem_inj hn).1 (Cc h1)
theorem VE(k:κ)(E:List κ):idx (k::E) k=0:=by simp[idx]
theorem qy{D E:List κ}{k:κ}(h:k∈D):idx (D++E) k=idx D k:=by unfold idx;rw[UW,if_pos h]
theorem rA{D:List κ}{k:κ}:idx (more D k) k=if k∈D then idx D k else D.length:=by
 unfold more;split;rfl
 rename_i h
 unfold idx;rw[UW,if_neg h];simp
theorem VF{l D:List κ}{i:Nat}(hi:i<l.length):idx (eh D l) l[i]=if l[i]∈eh D (l.take i)then idx (eh D (l.take i)) l[i]else(eh D (l.take i)).length:=by
 have e:l=l.take (i+1)++l.drop (i+1):=(tP _ _).symm;have h1:l.take (i+1)=l.take i++[l[i]]:=ia hi;have h2:∃E,eh D l=eh D (l.take (i+1))++E:=by
  obtain⟨E,h⟩:=sC (l.drop (i+1)) (eh D (l.take (i+1)));refine⟨E,?_⟩;rw[<-h];have hap:∀(a b D:List κ),eh D (a++b)=eh (eh D a) b:=by
   intro a
   induction a with
   |nil=>intro b D;rfl
   |cons x a ih=>intro b D;exact ih b _
  rw[<-hap,<-e]
 obtain⟨E,h2⟩:=h2;rw[h2,qy,h1,kY,rA];rw[h1,kY,ux];exact .inr I
theorem ZG{D:List κ}{x y:κ}(hx:x∈D)(h:idx D x=idx D y):x=y:=by
 have h1:=nu hx;have h2:idx D y<D.length:=h▸h1;rw[<-Cc h1,<-Cc h2]
 congr 1
end
theorem jI{α:Type}{l m:List α}{k:Nat}{d:α}(h:k<l.length):(l++m).getD k d=l.getD k d:=by
 rw[cK,fH h,cK]
theorem ma{α:Type}{l m:List α}{k:Nat}{d:α}(h:l.length<=k):(l++m).getD k d=m.getD (k-l.length) d:=by
 rw[cK,mC h,cK]
theorem nS{l:List Nat}{m:Nat}(h:l.Nodup)(hb:∀x∈l,x<m):l.length<=m:=by
 have hs:∀(l l':List Nat),l.Nodup->(∀x∈l,x∈l')->l.length<=l'.length:=by
  intro l
  induction l with
  |nil=>intro l' _ _;simp
  |cons x l ih=>
   intro l' hn hs;rw[oa]at hn;have hx:x∈l':=hs x (by simp);have:=ih (l'.erase x) hn.2 (λy hy=>(M_ (by rintro rfl;exact hn.1 hy)).2 (hs y (by simp[hy])));rw[HH hx]at this;have:0<l'.length:=M9 hx;simp;omega
 have:=hs l (eG m) h λx hx=>nr.2 (hb x hx)
 simpa using this
theorem NB{N:Nat}{f g:Nat->Nat}{n c:Nat}(hf:∀v,v<n->∃x,x<N/\f x=v)(hg:∀x,x<N->g x<c)(hr:∀x y,x<N->y<N->g x=g y->f x=f y):
 n<=c/\(c=n->(∀x,x<N->f x<n)->∀x y,x<N->y<N->f x=f y->g x=g y):=by
 have hc:∃p:Nat->Nat,∀v,v<n->p v<N/\f (p v)=v:=by
  refine⟨λv=>if h:v<n then(hf v h).choose else 0,λv h=>?_⟩;simp only[dif_pos h];exact(hf v h).choose_spec
 obtain⟨p,hp⟩:=hc;have J0:∀l:List Nat,l.Nodup->(∀v∈l,v<n)->(l.map λv=>g (p v)).Nodup:=by
  intro l hl hb;refine List.pairwise_map.2 (acj (λ{a b} ha MH hne e=>hne ?_) hl);have h1:=hp a (hb a ha);have h2:=hp b (hb b MH);have:=hr _ _ h1.1 h2.1 e;rw[h1.2,h2.2]at this;exact this
 refine⟨?_,λhcn hfb x y hx hy hxy=>?_⟩
 ·have h1:=nS (m:=c) (J0 (eG n) Nb λv hv=>nr.1 hv) (λz hz=>by
   obtain⟨v,hv,rfl⟩:=e7.1 hz;exact hg _ (hp v (nr.1 hv)).1)
  simpa using h1
 ·apply Un
  intro hne;have hv:f x<n:=hfb x hx;have hl:((eG n).erase (f x)).Nodup:=Nb.erase _;have hb:∀v∈(eG n).erase (f x),v<n/\v≠f x:=λv hv=>by
   have:=(Nb.mem_erase_iff).1 hv;exact⟨nr.1 this.2,this.1⟩
  have h1:=J0 _ hl λv hv=>(hb v hv).1;have Zt:∀z,z<N->f z=f x->g z∉((eG n).erase (f x)).map λv=>g (p v):=by
   intro z hz he HZ;obtain⟨v,Sa,e⟩:=e7.1 HZ;have h2:=hp v (hb v Sa).1;have:=hr _ _ h2.1 hz e;rw[h2.2,he]at this;exact(hb v Sa).2 this
  have h2:(g x::g y::((eG n).erase (f x)).map λv=>g (p v)).Nodup:=by
   rw[oa,oa];refine⟨?_,Zt y hy hxy.symm,h1⟩;rw[ez,not_or];exact⟨hne,Zt x hx I⟩
  have h3:=nS (m:=c) h2 (λz hz=>by
   simp only[ez]at hz;rcases hz with rfl|rfl|hz
   exact hg _ hx;exact hg _ hy;obtain⟨v,hv,rfl⟩:=e7.1 hz;exact hg _ (hp v (hb v hv).1).1)
  have h4:((eG n).erase (f x)).length=n-1:=by
   rw[HH (nr.2 hv)];simp
  simp[h4]at h3;omega
end dq
namespace cZ
open Go.RowKit dr eH dT
theorem VG{P:Program}(x j b:Nat)(k k':IntKind)(hb:k.bits=b)(hj:j<=b)(w:World):(jd .shr k (x:Int) k' (j:Int)).run P w= .ok (.int k ((x/2^j:Nat):Int)) w:=by
 have e:min j b=j:=by omega
 have h0:¬((j:Int)<0):=by omega
 have e2:(x:Int).fdiv (2^j)=((x/2^j:Nat):Int):=by
  rw[Int.fdiv_eq_ediv_of_nonneg _ (by have:(0:Int)<2^j:=Int.pow_pos ahk;omega)];simp
 simp only[jd,if_neg h0,hb,dP,e,e2,mB]
theorem C9(c:C4)(i:Nat)(h:i<4):(#[v64 c.a,v64 c.b,v64 c.c,v64 c.d]:Array Value)[i]?=aj (.int .u64 ((c.get i).toNat:Int)):=by
 match i,h with
 |0,_=>rfl
 |1,_=>rfl
 |2,_=>rfl
 |3,_=>rfl
theorem ZH:∀b:Nat,b<256->bits .and .u8 (b:Int) 63=((b %64:Nat):Int):=by decide+kernel
theorem Sb(c:C4)(b:Nat)(hb:b<256)(w:World):Calls aC 153 #[rr c,.int .u8 (b:Int)] w (cY (ret (.bool (c.mem b))) w):=by
 refine enter (args:=[aU #[v64 c.a,v64 c.b,v64 c.c,v64 c.d],.int .u8 (b:Int)]) (n:=14) Tryz.func153 I I I ?_;refine bC (aM (b_ I I I λg=>?_));have h1:b/64<4:=by omega
 have hc:(#[v64 c.a,v64 c.b,v64 c.c,v64 c.d]:Array Value)[0+b/64]?=aj (.int .u64 ((c.get (b/64)).toNat:Int)):=by rw[du];exact C9 c _ h1
 have hx:=(c.get (b/64)).isLt;have C_:∀w,(jd .shr .u8 (b:Int) .u64 6).run aC w= .ok (.int .u8 ((b/64:Nat):Int)) w:=λw=>VG b 6 8 .u8 .u64 I ahk w;have ZI:∀w,(jd .shr .u64 ((c.get (b/64)).toNat:Int) .u8 ((b %64:Nat):Int)).run aC w= .ok (.int .u64 (((c.get (b/64)).toNat/2^(b %64):Nat):Int)) w:=λw=>VG _ (b %64) 64 .u64 .u8 I J w;have hm:c.mem b=decide ((c.get (b/64)).toNat/2^(b %64) %2=1):=by unfold C4.mem;rw[Nat.testBit_eq_decide_div_mod_eq]
 rw[hm];have hd:(c.get (b/64)).toNat/2^(b %64)<=(c.get (b/64)).toNat:=Nat.div_le_self _ _;have r9:=ZH b hb;generalize (c.get (b/64)).toNat=x at*;generalize b %64=k at*;generalize b/64=i at*;generalize x/2^k=y at*;have ha:bits .and .u64 (y:Int) 1=((y %2:Nat):Int):=by
  have:=bits_and_u64_nat y 1 J ahk;rw[Nat.and_one_is_mod]at this;exact this
 repeat(first|refine GC ?_|refine gV (pe I I C_) ?_|refine gV (iz bR.eq aL.ty I I h1) ?_|refine gV (aB aL.ty I (aH (i:=0) I hc)) ?_|refine gV (nt I I r9) ?_|refine gV (pe I I ZI) ?_|refine gV (nt I I ha) ?_|refine gV (aX I I I) ?_|refine GB ?_)
 exact ea I I (by congr 1;rw[decide_eq_decide];omega)
end cZ
namespace cZ
open Go.RowKit dr eH dT iA oU
abbrev At2:=Int×Int
structure MOk(s:List UInt8)(N:Nat->Re)(m:At2->Option Value)(n:Nat):Prop where
 val:∀(k f:Nat) v,k<100->f<=s.length->m ((k:Int),(f:Int))=aj v->∃c,v=rr c/\aee s (N k) f c
 T6:∃D:List Nat,D.Nodup/\D.length=n/\(∀x∈D,x<25600)/\∀(k f:Nat),k<100->f<256->((m ((k:Int),(f:Int))).isSome=aD↔k*256+f∈D)
theorem MOk.le{s:List UInt8}{N:Nat->Re}{m:At2->Option Value}{n:Nat}(h:MOk s N m n):n<=25600:=by
 obtain⟨D,h1,h2,h3,_⟩:=h.T6;rw[<-h2];exact dq.nS h1 h3
theorem MOk.set{s:List UInt8}{N:Nat->Re}{m:At2->Option Value}{n:Nat}(h:MOk s N m n)(hs:s.length<=200){k f:Nat}(hk:k<100)(hf:f<=s.length){c:C4}(hc:aee s (N k) f c):
    MOk s N (λy=>if y=((k:Int),(f:Int))then aj (rr c)else m y) (if(m ((k:Int),(f:Int))).isSome then n else n+1):=by
  refine⟨λk' f' v mZ E5 hv=>?_,?_⟩
  · by_cases e:((k':Int),(f':Int))=((k:Int),(f:Int))
    · rw[if_pos e]at hv
      simp only[gH]at e;obtain rfl:k'=k:=by omega
      obtain rfl:f'=f:=by omega
      simp only[dB]at hv;exact⟨c,hv.symm,hc⟩
    rw[if_neg e]at hv;exact h.val k' f' v mZ E5 hv
  · obtain⟨D,h1,h2,h3,h4⟩:=h.T6
    by_cases e:(m ((k:Int),(f:Int))).isSome=aD
    · rw[if_pos e]
      refine⟨D,h1,h2,h3,λk' f' mZ E5=>?_⟩
      by_cases e2:((k':Int),(f':Int))=((k:Int),(f:Int))
      · rw[if_pos e2]
        simp only[gH]at e2;obtain rfl:k'=k:=by omega
        obtain rfl:f'=f:=by omega
        simpa using(h4 k' f' mZ E5).1 e
      rw[if_neg e2];exact h4 k' f' mZ E5
    rw[if_neg e];have hn:k*256+f∉D:=λhd=>e ((h4 k f hk J).2 hd);refine⟨(k*256+f)::D,oa.2 ⟨hn,h1⟩,by rw[dE,h2],λx hx=>?_,λk' f' mZ E5=>?_⟩
    · rcases ez.1 hx with rfl|hx
      omega;exact h3 x hx
    by_cases e2:((k':Int),(f':Int))=((k:Int),(f:Int))
    · rw[if_pos e2]
      simp only[gH]at e2;obtain rfl:k'=k:=by omega
      obtain rfl:f'=f:=by omega
      simp
    rw[if_neg e2,h4 k' f' mZ E5,ez];have:¬k'*256+f'=k*256+f:=λh=>e2 (by
      have a:k'=k:=by omega
      have b:f'=f:=by omega
      rw[a,b])
    simp[this]
end cZ
namespace cZ
open Go.RowKit dr eH
section
variable{P:Program}{k:TypeId}{κ:Type}(K:xz P k κ)
variable{n:Nat}{W:b9}{fr:Fr}{L:List cU}{dst:Option Tmp}{ty:TypeId}{pos:String}{after:Array Edge}{guard:Option (Nat×Bool)}{i g c:Nat}{t e:TypeId}{m:κ->Option Value}{x:κ}{z v:Value}{xm xk:Operand}
theorem jW(ht:P.underlying t=aj (.map k e))(hz:∀w,(zeroValue e).run P w= .ok z w)(hi:L[i]?=aj (fD K g m c))(hm:ev fr xm=aj (.map (aj g)))(hk:ev fr xk=aj (K.kv x))(hx:K.ok x)(hv:m x=aj v):RR P n W ⟨dst,.lookup t xm xk aD,ty,pos,after,guard⟩ fr L (.tuple #[v,.bool aD]):=by
 have:=oT K (n:=n) (W:=W) (dst:=dst) (ty:=ty) (pos:=pos) (after:=after) (guard:=guard) ht hz hi hm hk hx;rw[hv]at this;exact this
theorem jX(ht:P.underlying t=aj (.map k e))(hz:∀w,(zeroValue e).run P w= .ok z w)(hi:L[i]?=aj (fD K g m c))(hm:ev fr xm=aj (.map (aj g)))(hk:ev fr xk=aj (K.kv x))(hx:K.ok x)(hv:m x=ak):RR P n W ⟨dst,.lookup t xm xk aD,ty,pos,after,guard⟩ fr L (.tuple #[z,.bool aE]):=by
 have:=oT K (n:=n) (W:=W) (dst:=dst) (ty:=ty) (pos:=pos) (after:=after) (guard:=guard) ht hz hi hm hk hx;rw[hv]at this;exact this
end
end cZ
namespace cZ
open Go.RowKit dr eH dT iA oU
structure StI(s:List UInt8)(a:Re)(f:Nat)(out now:C4):Prop where
 sound:∀j,j<256->out.mem j=aD->Y' (RW a s) f j
 sub:∀j,j<256->now.mem j=aD->out.mem j=aD
 cl:∀i,i<256->out.mem i=aD->now.mem i=aE->∀j,RW a s i j->out.mem j=aD
 st:out.mem f=aD
theorem StI.le{s:List UInt8}{a:Re}{f:Nat}{out now:C4}(h:StI s a f out now)(hf:f<=s.length)(j:Nat)(hj:j<256)(hn:now.mem j=aD):j<=s.length:=
 ((Vn hf).2 (h.sound j hj (h.sub j hj hn))).2.1
end cZ
namespace cZ
open Go.RowKit dr eH dT iA oU
section
end
def b8(l:List Nat):RX:=l.map gv
end cZ
namespace cZ
open Go.RowKit dr eH
theorem e_.perm{p:Nat->Prop}{w:World}{L L':List cU}(h:e_ p w L)(hp:L.Perm L'):e_ p w L':=by
 have hpw:L.Pairwise (λo o'=>∀k,o.fF k->¬o'.fF k):=UN.2 λi j hi hj rp=>h.apart i j _ _ J (bQ hi) (bQ hj);have aek:=UN.1 ((hp.pairwise_iff (λhxy k h1 h2=>hxy k h2 h1)).1 hpw);refine⟨λi o hi=>?_,λi j o o' rp hi hj k h1 h2=>?_⟩
 ·obtain⟨j,hj⟩:=tQ (hp.symm.subset (mF hi))
  exact h.all j o hj
 obtain⟨qN,rfl⟩:=dv.1 hi;obtain⟨qc,rfl⟩:=dv.1 hj;rcases Nat.lt_or_gt_of_ne rp with h3|h3
 exact aek i j qN qc h3 k h1 h2;exact aek j i qc qN h3 k h2 h1
theorem Mem.perm{W:b9}{w:World}{L L':List cU}(h:Mem W L w)(hp:L.Perm L'):Mem W L' w:=⟨h.low,h.owns.perm hp⟩
theorem Sc{l l':Fr}(hp:l.Perm l'):(l.map (·.1)).Nodup->∀(fr:Fr) (i:Nat),look (l++fr) i=look (l'++fr) i:=by
 induction hp with
 |nil=>intro _ _ _;rfl
 | cons x _ ih=>
  intro hn fr i;rw[gu,oa]at hn;obtain⟨k,v⟩:=x;show(bif fW k i then aj v else _)=(bif fW k i then aj v else _)
  have e:=ih hn.2 fr i;exact congrArg (λz=>bif fW k i then aj v else z) e
 | swap x y l=>
  intro hn fr i;obtain⟨k,v⟩:=x;obtain⟨k2,v2⟩:=y;simp only[gu,oa,ez,not_or]at hn;show(bif fW k2 i then aj v2 else bif fW k i then aj v else _)=(bif fW k i then aj v else bif fW k2 i then aj v2 else _)
  cases e:fW k2 i
  rfl
  cases e2:fW k i
  rfl;have a:=kP e;have b:=kP e2;exact absurd (a.trans b.symm) hn.1.1
 | trans h1 _ ih1 ih2=>
  intro hn fr i;rw[ih1 hn,ih2 ((h1.map _).nodup_iff.1 hn)]
theorem Sd{α β:Type}(f:α->β){l l':List β}(h:l.Perm l'):∀dn:List α,dn.map f=l->∃dn':List α,dn'.Perm dn/\dn'.map f=l':=by
 induction h with
 |nil=>exact λdn h=>⟨dn,.refl _,h⟩
 | cons x _ ih=>
  intro dn h
  match dn,h with
  |y::dn,h=>
   simp only[gu,ib]at h;obtain⟨d',h1,h2⟩:=ih dn h.2;exact⟨y::d',h1.cons y,by simp[h.1,h2]⟩
 | swap x y l=>
  intro dn h
  match dn,h with
  |a::b::dn,h=>
   simp only[gu,ib]at h;exact⟨b::a::dn,ack _ _ _,by simp[h.1,h.2.1,h.2.2]⟩
 |trans _ _ ih1 ih2=>
  intro dn h;obtain⟨d1,h1,h2⟩:=ih1 dn h;obtain⟨d2,h3,h4⟩:=ih2 d1 h2;exact⟨d2,h3.trans h1,h4⟩
def Se:List Nat->List (List Nat)
 |[]=>[[]]
 |a::r=>Se r++(Se r).map (a:: ·)
theorem A7(p:Nat->Bool):∀l,l.filter p∈Se l
 |[]=>by simp[Se]
 |a::r=>by
  have ih:=A7 p r;unfold Se;rw[List.filter_cons];split;exact List.mem_append_right _ (zQ ih);exact tV _ ih
structure Mk where
 i:Nat
 d:Nat
 v:Nat->Value
 own:Nat->cU
def oJ(dn:List (Mk×Nat)):Fr:=dn.map λx=>(x.1.d,x.1.v x.2)
def owm(dn:List (Mk×Nat)):List cU:=dn.map λx=>x.1.own x.2
def nb(listed:Array Bool)(D:List Nat):Array Bool:=D.foldl (λl i=>l.setIfInBounds i aD) listed
theorem F9(D:List Nat):∀(listed:Array Bool) (j:Nat),(nb listed D)[j]?=(listed[j]?).map λb=>b||D.contains j:=by
 induction D with
 |nil=>intro listed j;simp[nb]
 | cons a r ih=>
  intro listed j;show(nb (listed.setIfInBounds a aD) r)[j]?=_
  rw[ih,Array.getElem?_setIfInBounds]
  by_cases c:a=j
  ·subst c
   simp;split<;>simp_all
  rw[if_neg c];have:¬j=a:=λh=>c h.symm;simp[this]
theorem xD{listed:Array Bool}{D D':List Nat}(h:∀j,D.contains j=D'.contains j):nb listed D=nb listed D':=by
 apply Ul;intro j;rw[F9,F9,h j]
def abO(ops:Array Oper)(is:List Nat)(ends:List (List Nat))(listed:Array Bool):Bool:=(Se is).all λD=>ends.contains D||decide (nl .any ops (nb listed D)=is.filter λi=>!D.contains i)
theorem C':∀(l l':List Nat),l.Nodup->(∀x∈l,x∈l')->l.length<=l'.length
 |[],_,_,_=>bO _
 |a::r,l',hn,hs=>by
  rw[oa]at hn;have ha:=hs a (by simp);have:=C' r (l'.erase a) hn.2 λx hx=>(M_ (λ(e:x=a)=>hn.1 (by rw[<-e];exact hx))).2 (hs x (by simp[hx]));rw[HH ha]at this;have:=M9 ha;simp;omega
theorem xE:∀(l l':List Nat),l.Nodup->(∀x∈l,x∈l')->l'.length<=l.length->l.Perm l'
 |[],l',_,_,h=>by
  have:l'=[]:=List.length_eq_zero_iff.1 (by simpa using h);subst this;exact .refl _
 |a::r,l',hn,hs,h=>by
  rw[oa]at hn;have ha:=hs a (by simp);have hl:=HH ha;have h2:=M9 ha;have:=xE r (l'.erase a) hn.2 (λx hx=>(M_ (λ(e:x=a)=>hn.1 (by rw[<-e];exact hx))).2 (hs x (by simp[hx]))) (by simp at h;omega);exact(this.cons a).trans (List.perm_cons_erase ha).symm
theorem abP:∀(ms:List Mk),(ms.map (·.i)).Nodup->∀m∈ms,∀m'∈ms,m.i=m'.i->m=m'
 |[],_,_,hm,_,_,_=>by cases hm
 |y::ms,h,m,hm,m',rB,e=>by
  rw[gu,oa]at h;rcases ez.1 hm with a1|a1<;>rcases ez.1 rB with a2|a2
  rw[a1,a2];exact absurd (by rw[<-a1,e];exact zQ a2) h.1;exact absurd (by rw[<-a2,<-e];exact zQ a1) h.1;exact abP ms h.2 m a1 m' a2 e
theorem Kl:∀(dn:List (Mk×Nat)) (ms all:List Mk),(∀m∈all,∀m'∈all,m.i=m'.i->m=m')->(∀x∈dn,x.1∈all)->(∀x∈ms,x∈all)->dn.map (·.1.i)=ms.map (·.i)->dn.map (·.1)=ms
 |[],ms,_,_,_,_,h=>by
  simp only[o7]at h;exact(List.map_eq_nil_iff.1 h.symm).symm
 |y::dn,[],_,_,_,_,h=>by simp at h
 |y::dn,m::ms,all,hi,h1,h2,h=>by
  simp only[gu,ib]at h;rw[gu,Kl dn ms all hi (λx hx=>h1 x (by simp[hx])) (λx hx=>h2 x (by simp[hx])) h.2,hi y.1 (h1 y (by simp)) m (h2 m (by simp)) h.1]
section
variable{P:Program}{n:Nat}{W:b9}{Q:Exit->Act->World->Prop}{fr:Fr}{L L0:List cU}{ops:Array Oper}
def F_(P:Program)(n:Nat)(W:b9)(ops:Array Oper)(fr:Fr)(m:Mk):Prop:=
 ∃o,ops[m.i]?=aj o/\∀(Q:Exit->Act->World->Prop) (E4:Fr) (L:List cU),(∀q v,look fr q=aj v->look E4 q=aj v)->(∀g,TL P n W ops Q [] ((m.d,m.v g)::E4) (L++[m.own g]))->TL P n W ops Q [o] E4 L
theorem Ga:∀(l:Fr) {q:Nat} {v:Value},(∀x∈l,look fr x.1=ak)->look fr q=aj v->look (l++fr) q=aj v
 |[],_,_,_,h=>h
 |(k,u)::l,q,v,hl,h=>by
  show(bif fW k q then aj u else look (l++fr) q)=aj v
  cases e:fW k q
  exact Ga l (λx hx=>hl x (by simp[hx])) h;have:=kP e;subst this;have:=hl (k,u) (by simp);rw[this]at h
  cases h
theorem nH.perm{a:Act}{l l':Fr}(h:nH n a (l++fr))(hp:l.Perm l')(hn:(l.map (·.1)).Nodup):nH n a (l'++fr):=
 ⟨h.size,h.defers,λi v hl=>h.get i v (by rw[Sc hp hn fr i];exact hl)⟩
theorem VH:∀(dn:List (Mk×Nat)),(dn.map (·.1.i)).Nodup->∃g:Nat->Nat,∀x∈dn,g x.1.i=x.2
 |[],_=>⟨λ_=>0,λx hx=>by cases hx⟩
 | y::dn,h=>by
  rw[gu,oa]at h;obtain⟨g,hg⟩:=VH dn h.2;refine⟨λi=>if i=y.1.i then y.2 else g i,λx hx=>?_⟩;rcases ez.1 hx with rfl|hx
  simp;have:¬x.1.i=y.1.i:=λe=>h.1 (by rw[<-e];exact zQ hx);simp only[if_neg this];exact hg x hx
theorem NC(ms E:List Mk)(hn:(ms.map (·.i)).Nodup)(hEn:(E.map (·.i)).Nodup)(hEd:(E.map (·.d)).Nodup)(hE:∀m∈E,m∈ms)(dn:List (Mk×Nat))(h1:∀x∈dn,x.1∈ms)(hp:(dn.map (·.1.i)).Perm (E.map (·.i)))(a:Act)(hr:nH n a (oJ dn++fr)):
 ∃g:Nat->Nat,nH n a (E.map (λm=>(m.d,m.v (g m.i)))++fr)/\Mem W (L++owm dn)=Mem W (L++E.map λm=>m.own (g m.i)):=by
 obtain⟨d',p1,p2⟩:=Sd (λx:Mk×Nat=>x.1.i) hp dn I;have e1:=Kl d' E ms (abP ms hn) (λx hx=>h1 x (p1.subset hx)) hE p2;obtain⟨g,hg⟩:=VH d' (by rw[p2];exact hEn);have e2:d'=E.map λm=>(m,g m.i):=by
  rw[<-e1,CI]
  conv=>lhs;rw[<-List.map_id d']
  exact List.map_congr_left λx hx=>by
   obtain⟨m,q⟩:=x;have:=hg _ hx;dsimp only at this;simp[this]
 have ND:((oJ dn).map (·.1)).Nodup:=by
  have:((oJ dn).map (·.1)).Perm (E.map (·.d)):=by
   have h5:=(p1.map λx:Mk×Nat=>x.1.d).symm;have e:d'.map (λx:Mk×Nat=>x.1.d)=E.map (·.d):=by rw[<-e1,CI];rfl
   rw[e]at h5;unfold oJ;rw[CI];exact h5
  exact this.nodup_iff.2 hEd
 have Ns:=hr.perm (p1.map _).symm ND;refine⟨g,?_,?_⟩
 ·have:d'.map (λx=>(x.1.d,x.1.v x.2))=E.map (λm=>(m.d,m.v (g m.i))):=by rw[e2,CI];rfl
  rw[<-this];exact Ns
 ·have e:E.map (λm=>m.own (g m.i))=owm d':=by rw[e2,owm,CI];rfl
  rw[e];exact funext λw=>propext ⟨λh=>h.perm (((p1.map _).symm).append_left L),λh=>h.perm ((p1.map _).append_left L)⟩
theorem ZJ(ms:List Mk)(ends:List (List Mk))(listed:Array Bool)(U:World->Prop)(S0:Nat)(hUL:∀l,∀w,Mem W (L++l) w->U w)
 (hn:(ms.map (·.i)).Nodup) (hd:(ms.map (·.d)).Nodup) (hB:abO ops (ms.map (·.i)) (ends.map λE=>E.map (·.i)) listed=aD) (hm:∀m∈ms,F_ P n W ops fr m) (hf:∀m∈ms,look fr m.d=ak)
 (afT:∀E∈ms::ends,(∀m∈E,m∈ms)/\(E.map (·.i)).Nodup/\(E.map (·.d)).Nodup/\∀(k:Nat) (g:Nat->Nat) (a:Act),E.length+k=ms.length->nH n a (E.map (λm=>(m.d,m.v (g m.i)))++fr)->sw P .any ops Q U (k+S0) (nb listed (E.map (·.i))) a (Mem W (L++E.map λm=>m.own (g m.i)))):
 ∀(k:Nat) (dn:List (Mk×Nat)),(∀x∈dn,x.1∈ms)->(dn.map (·.1.i)).Nodup->dn.length+k=ms.length->∀a,nH n a (oJ dn++fr)->sw P .any ops Q U (k+S0) (nb listed (dn.map (·.1.i))) a (Mem W (L++owm dn)):=by
 have stop:∀E∈ms::ends,∀(k:Nat) (dn:List (Mk×Nat)),(∀x∈dn,x.1∈ms)->(dn.map (·.1.i)).Nodup->dn.length+k=ms.length->(dn.map (·.1.i)).Perm (E.map (·.i))->∀a,nH n a (oJ dn++fr)->sw P .any ops Q U (k+S0) (nb listed (dn.map (·.1.i))) a (Mem W (L++owm dn)):=by
  intro E hE k dn h1 h2 h3 hp a hr;obtain⟨q1,q2,q3,q4⟩:=afT E hE;obtain⟨g,r1,r2⟩:=NC (W:=W) (L:=L) ms E hn q2 q3 q1 dn h1 hp a hr;have hlen:=hp.length_eq;simp only[dX]at hlen;rw[r2,xD (D':=E.map (·.i)) λj=>?_]
  exact q4 k g a J r1;exact MQ.2 (by simpa using hp.mem_iff)
 intro k
 induction k with
 | zero=>
  intro dn h1 h2 h3 a hr;exact stop ms (by simp) 0 dn h1 h2 h3 (xE (dn.map (·.1.i)) (ms.map (·.i)) h2 (λx hx=>by
   obtain⟨y,hy,rfl⟩:=e7.1 hx;exact zQ (f:=(·.i)) (h1 y hy)) (by simp;omega)) a hr
 | succ k ih=>
  intro dn h1 h2 h3 a hr;have pt:=λE hE hp=>stop E hE (k+1) dn h1 h2 h3 hp a hr;have lP:∀x∈dn.map (·.1.i),x∈ms.map (·.i):=λx hx=>by
   obtain⟨y,hy,rfl⟩:=e7.1 hx;exact zQ (f:=(·.i)) (h1 y hy)
  generalize hD:dn.map (·.1.i)=D at*
  have agI:D.length=dn.length:=by rw[<-hD];simp
  have tf:∀j,D.contains j=((ms.map (·.i)).filter λi=>D.contains i).contains j:=λj=>by
   apply MQ.2;simp only[UQ,tS];exact⟨λh=>⟨lP j h,h⟩,λh=>h.2⟩
  have hq:=sk.1 hB _ (A7 (λi=>D.contains i) (ms.map (·.i)))
  rw[mA]at hq;rcases hq with hq|hq
  ·rw[UQ]at hq
   obtain⟨E,hE,e⟩:=e7.1 hq;refine pt E (by simp[hE]) ?_;rw[e];refine xE _ _ h2 (λx hx=>tS.2 ⟨lP x hx,by simpa using hx⟩) ?_;exact C' _ _ (hn.filter _) λx hx=>by simpa using(tS.1 hx).2
  have VI:nl .any ops (nb listed D)=(ms.map (·.i)).filter λi=>!D.contains i:=by
   have hq:=of_decide_eq_true hq;rw[xD tf,hq];exact List.filter_congr λi _=>by rw[<-tf i]
  rw[show k+1+S0=(k+S0)+1 by omega];refine⟨λh0=>?_,λi hi w hw=>?_⟩
  ·exfalso
   have:(ms.map (·.i)).length<=D.length:=C' _ _ hn λx hx=>by
    rw[VI]at h0;have:=List.filter_eq_nil_iff.1 h0 x hx
    simpa using this
   simp at this;omega
  rw[VI,tS]at hi;obtain⟨hi1,R6⟩:=hi;obtain⟨m,ZK,rfl⟩:=e7.1 hi1;have hi3:m.i∉D:=by simpa using R6
  obtain⟨o,ho,MK⟩:=hm m ZK;refine jT ho ((MK _ (oJ dn++fr) (L++owm dn) (λq v hq=>Ga (oJ dn) (λx hx=>?_) hq) λg=>?_).go a w hr hw)
  ·obtain⟨y,hy,rfl⟩:=e7.1 hx
   exact hf y.1 (h1 y hy)
  refine cz ⟨λa' w' Ns rB=>⟨Mem W (L++owm ((m,g)::dn)),iP _ _,hUL _,rB.perm ?_,?_⟩⟩
  ·rw[eZ]
   exact(List.perm_append_comm).append_left L
  have:=ih ((m,g)::dn) (λx hx=>by
   rcases ez.1 hx with rfl|hx
   exact ZK;exact h1 x hx) (by rw[gu,hD,oa];exact⟨hi3,h2⟩) (by simp;omega) a' Ns
  rw[gu,hD]at this;have e:(nb listed D).setIfInBounds m.i aD=nb listed (m.i::D):=by
   have e0:(nb listed D).setIfInBounds m.i aD=nb listed (D++[m.i]):=by
    unfold nb;rw[List.foldl_append];rfl
   rw[e0];exact xD λj=>by
    apply MQ.2;simp[or_comm]
  rw[e];exact this
structure TX(P:Program)(n:Nat)(W:b9)(ops:Array Oper)(Q:Exit->Act->World->Prop)(L0:List cU)(listed:Array Bool)(f:Nat)(fr:Fr)(L:List cU):Prop where
 go:(∀w,Mem W L w->Mem W L0 w)->(∀c a d v w,Q (.panic c) (xe a d v) w->Q (.panic c) a w)->HF ops=aD->∀a,nH n a fr->sw P .any ops Q (Mem W L0) f listed a (Mem W L)
theorem mem_left{L l:List cU}{w:World}(h:Mem W (L++l) w):Mem W L w:=by
 have hl:∀(i:Nat) (o:cU),L[i]?=aj o->(L++l)[i]?=aj o:=λi o h=>by
  rw[fH (dv.1 h).1];exact h
 exact⟨h.low,⟨λi o hi=>h.owns.all i o (hl i o hi),λi j o o' rp hi hj=>h.owns.apart i j o o' rp (hl i o hi) (hl j o' hj)⟩⟩
theorem VJ{id:Nat}{l:List Oper}(L0:List cU)(lP:∀w,Mem W L w->Mem W L0 w)(hm:P.follows .mixedOrders=aD)(qP:HF l.toArray=aD)
 (hQ:∀c a d v w,Q (.panic c) (xe a d v) w->Q (.panic c) a w)
 (h:TX P n W l.toArray Q L0 (Hy l.toArray.size aE) l.toArray.size fr L):T P n W (.region id l.toArray aD) Q fr L:=⟨λa w hr tw=>by
 refine wp_region_any hm ?_;exact xp (U:=Mem W L0) l.toArray.size (Hy l.toArray.size aE) a (Mem W L) w.drew tw.drew (h.go lP hQ qP a hr)⟩
theorem Ce{listed:Array Bool}{f:Nat}(t:Ord)(ho:l9 .any ops t listed=aD)(hf:f=t.size)(h:TW P n W ops Q L0 t fr L):TX P n W ops Q L0 listed f fr L:=
 ⟨λlP hQ qP a hr=>by subst hf;exact jU qP hQ t listed a (Mem W L) (iP W L) lP ho (h.go a hr)⟩
theorem qR{listed:Array Bool}{f d:Nat}{o:Oper}{v:Value}(i:Nat)(hi:((nl .any ops listed).contains i&&UH .any ops listed i)=aD)(ho:ops[i]?=aj o)(hr:RR P n W o fr L0 v)(hg:o.guard=ak)(hd:o.dst=aj d)(hn:dM d n=aD)
 (h:TX P n W ops Q L0 (listed.setIfInBounds i aD) f ((d,v)::fr) L):TX P n W ops Q L0 listed (f+1) fr L:=⟨λlP hQ qP a gC=>by
 rw[fU]at hi;have hc:kT P ops (Mem W L0) o v a:= .inl ⟨nP hg,λw hw=>by unfold o_;rw[hr.go a w gC hw];exact⟨rfl,Gr.refl _⟩⟩;exact yt ho (UF qP) (λc a w=>hQ c a o.dst v w) f listed a (Mem W L) (iP W L) lP (UG ho hi.2) (by simpa using hi.1) hc
  (by rw[hd];exact h.go lP hQ qP _ (gC.put hn v))⟩
def VK(ops:Array Oper)(ms:List Mk)(ends:List (List Nat))(listed:Array Bool)(fr:Fr):Bool:=
 decide (ms.map (·.i)).Nodup&&decide (ms.map (·.d)).Nodup&&abO ops (ms.map (·.i)) ends listed&&ms.all λm=>(look fr m.d).isNone
theorem Km{listed:Array Bool}{f:Nat}(ms:List Mk)(p:Mk->Bool)(S0:Nat)(hf:f=ms.length+S0)(hB:VK ops ms [ms.map (·.i),(ms.filter p).map (·.i)] listed fr=aD)(hm:∀m∈ms,F_ P n W ops fr m)
 (h:∀g:Nat->Nat,TX P n W ops Q L0 (nb listed (ms.map (·.i))) S0 (ms.map (λm=>(m.d,m.v (g m.i)))++fr) (L++ms.map λm=>m.own (g m.i)))
 (h':∀g:Nat->Nat,TX P n W ops Q L0 (nb listed ((ms.filter p).map (·.i))) (ms.length-(ms.filter p).length+S0) ((ms.filter p).map (λm=>(m.d,m.v (g m.i)))++fr) (L++(ms.filter p).map λm=>m.own (g m.i))):TX P n W ops Q L0 listed f fr L:=⟨λlP hQ qP a hr=>by
 subst hf;simp only[VK,fU,decide_eq_true_eq]at hB;obtain⟨⟨⟨b1,b2⟩,b3⟩,b4⟩:=hB;have:=ZJ (Q:=Q) (L:=L) ms [ms,ms.filter p] listed (Mem W L0) S0 (λl w hw=>lP w (mem_left hw)) b1 b2 b3 hm (λm hm=>by simpa using sk.1 b4 m hm)
  (λE hE=>by
   have hE:E=ms\/E=ms.filter p:=by
    simp only[List.mem_cons,List.not_mem_nil,or_false]at hE;rcases hE with h|h|h
    exact .inl h;exact .inl h;exact .inr h
   rcases hE with rfl|rfl
   ·exact⟨λ_ h=>h,b1,b2,λk g a hk hr=>by
     obtain rfl:k=0:=by omega
     rw[Nat.zero_add];exact(h g).go (λw hw=>lP w (mem_left hw)) hQ qP a hr⟩
   exact⟨λ_ h=>(List.mem_filter.1 h).1,b1.sublist (List.filter_sublist.map _),b2.sublist (List.filter_sublist.map _),λk g a hk hr=>by
    obtain rfl:k=ms.length-(ms.filter p).length:=by omega
    exact(h' g).go (λw hw=>lP w (mem_left hw)) hQ qP a hr⟩) ms.length [] (λx hx=>by cases hx) (by simp) (by simp) a hr
 simpa[nb,owm]using this⟩
theorem yw{fr E4:Fr}(h:∀q v,look fr q=aj v->look E4 q=aj v){x:Operand}{v:Value}(hx:ev fr x=aj v):ev E4 x=aj v:=by
 cases x with
 |tmp t=>exact h _ _ hx
 |_=>exact hx
theorem nT{i d:Nat}{t e ty:TypeId}{pos:String}{after:Array Edge}{x y:Operand}{c bytes m cap:Nat}{k k':IntKind}{zs:Array Value}[tA P t e c bytes][fm P e zs](ho:ops[i]?=aj ⟨aj d,.makeSlice t x y,ty,pos,after,ak⟩)(hx:ev fr x=aj (.int k (m:Int)))(hy:ev fr y=aj (.int k' (cap:Int)))(P9:m<=cap)(hb:bytes*cap<=281474976710656)(r9:cap<=9223372036854775807)(hn:dM d n=aD):
 F_ P n W ops fr ⟨i,d,λg=>ap (aj ⟨g,0,ak⟩) m cap,λg=>aR g (madeCells zs (cap*c)) e⟩:=
 ⟨_,ho,λ_ _ _ hl h=>um (yw hl hx) (yw hl hy) P9 hb r9 hn h⟩
theorem Gb{i d:Nat}{t ty:TypeId}{pos:String}{after:Array Edge}{cs:Array Value}[fm P t cs](ho:ops[i]?=aj ⟨aj d,.alloc t,ty,pos,after,ak⟩)(hn:dM d n=aD):
 F_ P n W ops fr ⟨i,d,λg=>aK (aj ⟨g,0,ak⟩),λg=>aR g cs t⟩:=
 ⟨_,ho,λ_ _ _ _ h=>bz hn h⟩
end
end cZ
namespace iA
open dT
def SzR(p0:Nat)(x:Rx)(st:RS):Prop:=p0<=st.p/\(st.e=0->te x+1<=200*(st.p-p0))/\(st.e≠0->te x<=200*(st.p-p0)+1)
section
variable{s:RX}
theorem SzR.le{p0:Nat}{x:Rx}{st:RS}(h:SzR p0 x st):te x<=200*(st.p-p0)+1:=by
 by_cases e:st.e=0
 have:=h.2.1 e;omega;exact h.2.2 e
end
end iA
namespace aV
abbrev dV:=Int×Int
abbrev Prod:=Int×List dV
structure eL where
 aT:Int
 bM:Int
 aF:List Prod
def right(aT bM:Int)(x:dV):Bool:=if x.1=1 then decide (0<=x.2)&&decide (x.2<aT)else if x.1=2 then decide (0<=x.2)&&decide (x.2<bM)else aE
def yx(aT bM:Int)(p:Prod):Int:=if 8<p.2.length then 2 else if p.1<0 then 1 else if bM<=p.1 then 1 else if p.2.any (λx=>!right aT bM x)=aD then 1 else 0
def pu(aT bM:Int):List Prod->Int
 |[]=>0
 |p::r=>if yx aT bM p≠0 then yx aT bM p else pu aT bM r
def cL(g:eL):Int:=if g.aT<0 then 1 else if 30<g.aT then 1 else if g.bM<1 then 1 else if 20<g.bM then 1 else if 40<g.aF.length then 2 else pu g.aT g.bM g.aF
theorem VL{t n:Int}{p:Prod}(h:yx t n p=0):p.2.length<=8/\0<=p.1/\p.1<n/\∀x∈p.2,right t n x=true:=by
 unfold yx at h;split at h;· simp at h
 split at h;· simp at h
 split at h;· simp at h
 split at h;· simp at h
 rename_i a b c d
 refine⟨by omega,by omega,by omega,λx hx=>?_⟩;simp only[oc,not_exists,not_and,zu,Bool.not_eq_false]at d
 simpa using d x hx
theorem Gc{t n:Int}:∀{l:List Prod},pu t n l=0->∀p∈l,yx t n p=0
 |[],_,_,h=>by cases h
 | q::r,h,p,hp=>by
  unfold pu at h;split at h;contradiction
  rename_i c
  rcases ez.1 hp with rfl|hp
  simpa using c
  exact Gc h p hp
theorem de{g:eL}(h:cL g=0):0<=g.aT/\g.aT<=30/\1<=g.bM/\g.bM<=20/\g.aF.length<=40/\∀p∈g.aF,p.2.length<=8/\0<=p.1/\p.1<g.bM/\∀x∈p.2,right g.aT g.bM x=true:=by
 unfold cL at h;split at h;· simp at h
 split at h;· simp at h
 split at h;· simp at h
 split at h;· simp at h
 split at h;· simp at h
 exact⟨by omega,by omega,by omega,by omega,by omega,λp hp=>VL (Gc h p hp)⟩
end aV
namespace cZ
open Go.RowKit dr eH
theorem str_inj{x y:List UInt8}(h:str x=str y):x=y:=by
 unfold str at h
 simpa using h
def iE:xz aC 9 (List UInt8) where
 kv:=str
 ok l:=l.length<=9223372036854775807
 law:=Go.WideMaps.string_law Tryz.underlying9
 key l h:=⟨_,Go.WideMaps.keyOf_string_mk Tryz.underlying9 (by unfold maxLen;simpa[zv]using h)⟩
 inj x y h:=str_inj h
end cZ
namespace cZ
open Go.RowKit dr eH dT
theorem Cf{n:Int}(h0:0<=n)(h1:n<=18446744073709551615):v64 (lY 64 n.toNat)= .int .u64 n:=by
 simp only[v64,iN,BitVec.toNat_ofNat]
 congr 1
 omega
set_option maxRecDepth 100000 in
theorem Sf{H:Type}{enc0:TypeId×Value->H}{W:World}:uh enc0 aC W 116 (λcs x=>cs=fh x/\True):=λfuel cs x hf=>by
 have ho:uh enc0 aC W 116 (Vq .u64 0 18446744073709551615 4):=(J' (is:=isInt .u64 0 18446744073709551615) (c:=1) Tryz.underlying116 (by kernel_rfl) (R4 Tryz.underlying114)).mono λcs l h=>by
  have e:aC.cellsOf 116=4:=by kernel_rfl
  exact Ka (by rw[h.1,e]) h.2
 obtain⟨l,h1,h2,h3⟩:=ho fuel cs _ hf
 match l,h1 with
 |[p,q,r,s],_=>
  have b0:=h3 p (by simp);have b1:=h3 q (by simp);have b2:=h3 r (by simp);have b3:=h3 s (by simp);refine⟨⟨lY 64 p.toNat,lY 64 q.toNat,lY 64 r.toNat,lY 64 s.toNat⟩,?_,trivial⟩;show cs=[v64 (lY 64 p.toNat),v64 (lY 64 q.toNat),v64 (lY 64 r.toNat),v64 (lY 64 s.toNat)]
  rw[Cf b0.1 b0.2,Cf b1.1 b1.2,Cf b2.1 b2.2,Cf b3.1 b3.2,h2];rfl
end cZ
namespace cZ
open Go.RowKit dr eH dT iA Go.ChangeShapes Go.WideShapes Go.ChangeAt
set_option maxRecDepth 100000
section
variable{H:Type}{enc0:TypeId×Value->H}{P:Program}{W:World}{M:Zy P H}
def Da(M:Zy P H)(enc0:TypeId×Value->H)(W:World)(fuel:Nat)(t:TypeId){α:Type}(is:List Value->α->Prop):Prop:=
 ∀cs x,zz enc0 P W 0 (λ_=>aD) aD fuel t cs=aj x->M.ok t x.1->∃a,is cs a
theorem kW.at{fuel:Nat}{t:TypeId}{α:Type}{is:List Value->α->Prop}(h:kW M enc0 W t is):Da M enc0 W fuel t is:=λcs x=>h fuel cs x
theorem H0{fuel:Nat}{t e:TypeId}{c:Nat}(ht:P.underlying t=aj (.slice e))(hc:P.cellsOf e=c)(JO:0<c){α:Type}{is:List Value->α->Prop}(hd:∀n,fuel=n+1->Da M enc0 W n e is)(_:∀cs a,is cs a->cs.length=c):Da M enc0 W fuel t (λcs l=>aei W is c cs l/\M.lim e l.length):=λcs x h hm=>by
 rcases Uw ht h with⟨rfl,_⟩|⟨a,len,cap,elems,rest,n,hf,rfl,hx,_,hlc,hmx,ub,CK,_⟩
 exact⟨[],⟨_,rfl,ak,0,rfl,bJ _,by decide,λh=>by simp at h⟩,M.zero e⟩;rw[hx]at hm;obtain⟨C1,qQ⟩:=M.slice ht hm;have each:∀i,i<len->∃y:α,∃cs,W.cells? 0 (a.add (i*c)) c=aj cs/\is cs y:=λi hi=>by
  have h1:=CK i hi;rw[hc,bQ J]at h1
  cases hcell:W.cells? 0 (a.add (i*c)) c with
  |none=>rw[hcell]at h1;simp at h1
  | some cs=>
   rw[hcell]at h1;obtain⟨y,hy⟩:=hd n hf cs _ h1 (qQ _ (e7.2 ⟨_,cV J,rfl⟩));exact⟨y,cs,rfl,hy⟩
 obtain⟨l,R5,hp⟩:=B6 len each;subst R5;refine⟨l,⟨_,rfl,aj a,cap,rfl,hlc,hmx,λh0=>?_⟩,by rw[dX,ub]at C1;exact C1⟩;obtain⟨cs0,h1,h2⟩:=hp 0 l[0] (bQ h0);have h3:=(kS h1).2 0 JO;have hlen:=(kS h1).1;rw[bQ J]at h3;have hsp:=FT h3;have e0:a.spot=none:=by
  rw[HK]at hsp;unfold zx at hsp
  simpa using hsp
 obtain⟨b,off,spot⟩:=a;obtain rfl:spot=none:=e0;refine⟨b,off,rfl,λi hi=>?_⟩;obtain⟨cs,h4,h5⟩:=hp i l[i] (bQ hi);refine⟨cs,h5,λj u hj=>?_⟩;have hj2:j<c:=by
  have:=(dv.1 hj).1;rw[(kS h4).1]at this;exact this
 have h6:=(kS h4).2 j hj2;rw[hj]at h6;have e1:∀(o k:Nat),(⟨b,o,ak⟩:Addr).add k=⟨b,o+k,ak⟩:=λo k=>by unfold zx;simp
 rw[e1,e1]at h6;rw[<-h6]
theorem Ge{t:TypeId}{fs:Array Field}(ht:P.underlying t=aj (.struct fs)){fuel:Nat}{cs:List Value}{x:DataW H×List MemPlace}(h:zz enc0 P W 0 (λ_=>aD) aD fuel t cs=aj x)(hm:M.ok t x.1):
 cs.length=P.cellsOf t/\∃n,fuel=n+1/\∀(i:Nat) (f:Field),fs[i]?=aj f->∀{α:Type} {is:List Value->α->Prop},Da M enc0 W n f.type is->∃a,is ((cs.drop f.offset).take (P.cellsOf f.type)) a:=by
 obtain⟨xs,n,hn,hx,hl,hlen,hf⟩:=Uv ht h;refine⟨hl,n,hn,λi f hi α is ho=>?_⟩;have h1:=hf i f hi;have hlt:i<xs.length:=by rw[hlen];exact(lA.1 hi).1
 rw[bQ hlt]at h1;rw[hx]at hm;exact ho _ _ h1 (M.Vr ht hm i f _ hi (by rw[fx,bQ hlt];rfl))
end
theorem VM{W:World}{v:Value}{l:List Rx}(h:RZ W (λcs t=>kX (ri W) W cs t) 6 v l):kH xB (ri W) W v l:=by
 obtain⟨base,cap,h1,h2,h3,h4⟩:=h;refine⟨base,cap,h1,h2,h3,λh0=>?_⟩;obtain⟨b,off,h5,h6⟩:=h4 h0;refine⟨b,off,h5,?_,λi hi=>?_⟩
 ·obtain⟨cs,h7,h8⟩:=h6 0 h0
  have h7':cs.length=6:=kX.acJ h7;have:=h8 0 _ (bQ J);exact np W _ this
 obtain⟨cs,h7,h8⟩:=h6 i hi;exact⟨cs,h7,h8⟩
theorem Db{H:Type}{M:Zy aC H}{enc0:TypeId×Value->H}{W:World}:∀(F fuel:Nat),fuel<=F->Da M enc0 W fuel 119 (λcs t=>kX (ri W) W cs t)
 | 0,fuel,hF,cs,x,h,hm=>by
  obtain⟨_,n,hn,_⟩:=Ge Tryz.underlying119 h hm;omega
 | F +1,fuel,hF,cs,x,h,hm=>by
  obtain⟨hl,n,hn,Qd⟩:=Ge Tryz.underlying119 h hm;have hl6:cs.length=6:=hl;obtain⟨p,e0,k1⟩:=Qd 0 _ rfl (kW.at (Nw Tryz.underlying3));obtain⟨c,e1⟩:=Qd 1 _ rfl (kW.at (F4 Sf));obtain⟨l,⟨v,e2,hs⟩,_⟩:=Qd 2 _ rfl (H0 (c:=6) Tryz.underlying117 (by kernel_rfl) ahk (λm hm=>Db F m J) λcs a h=>h.acJ)
  replace e0:(cs.drop 0).take 1=[av az p]:=e0
  replace e1:(cs.drop 1).take 4=fh c:=e1.1
  replace e2:(cs.drop 5).take 1=[v]:=e2
  refine⟨.mk p c l,B_.2 ⟨v,?_,k1,VM hs⟩⟩;unfold nR;rw[<-e1]
  match cs,hl6 with
  | [x0,x1,x2,x3,x4,x5],_=>
   simp only[List.drop_succ_cons,qL,sm,tU,ib,and_true]at e0 e2;subst e0 e2;rfl
end cZ
namespace yy
def nv(n:Nat)(tag:Int)(row:List Int):Bool:=decide (tag< -1)||decide (20<=tag)||row.any λt=>decide (t< -1)||decide ((n:Int)<=t)
def Ab(rows:List (List Int))(tags:List Int):Int:=
 if 200<rows.length then 2 else if rows.length=0\/tags.length≠rows.length then 1 else if(eG rows.length).any (λi=>nv rows.length (tags.getD i 0) (rows.getD i []))then 1 else 0
theorem VN{rows:List (List Int)}{tags:List Int}(h:Ab rows tags=0):rows.length<=200/\0<rows.length/\tags.length=rows.length/\∀i,i<rows.length-> -1<=tags.getD i 0/\tags.getD i 0<20/\∀t∈rows.getD i [],-1<=t/\t<rows.length:=by
 unfold Ab at h;split at h;simp at h;split at h;simp at h;split at h;simp at h
 rename_i c1 c2 c3
 refine⟨by omega,by omega,by omega,λi hi=>?_⟩;simp only[oc,nr,not_exists,not_and]at c3;have:=c3 i hi;simp only[nv,mA,decide_eq_true_eq,oc,not_or,not_exists,not_and]at this;obtain⟨⟨a,b⟩,c⟩:=this;refine⟨by omega,by omega,λt ht=>?_⟩;have:=c t ht;omega
end yy
namespace cZ
open Go.RowKit dr eH yy
set_option maxRecDepth 100000
def isRow(cs:List Value)(r:List Int):Prop:=r.length=256/\cs=r.map (.int .i16)/\∀x∈r,-32768<=x/\x<=32767
def Kn(W:World)(v:Value)(rows:List (List Int))(tags:List Int):Prop:=∃vr vt,v=aU #[vr,vt]/\RZ W isRow 256 vr rows/\RZ W (isInt .i64 (-9223372036854775808) 9223372036854775807) 1 vt tags/\∀r∈rows,r.length=256
theorem Kn.up{W w:World}{L:List cU}{v:Value}{rows:List (List Int)}{tags:List Int}(h:Kn W v rows tags)(hm:Mem W L w):Kn w v rows tags:=
 let ⟨vr,vt,h1,h2,h3,h4⟩:=h;⟨vr,vt,h1,h2.up hm,h3.up hm,h4⟩
end cZ
end Go.Proofs.YtdmgcnggnejnnaaGreat

/- Part 1 of what SessionOwn needs: Kit, Law, Open, Mix, Eng, Step, Ops, Opm, Cls, Opx, MixV, MixW, Go3, Ty, OpenE, ClassL, ClassQ, ClassR, RexL, RexF, RexG, Read, Seq, ReadM, Room, Shp, Map, RexS, ClsEq, App, RexC, ClassB, ClsRg, KeyG, SmL, ClsHas, RexM, LookOk, RexE, RexPl, RexPr, RexH, MixX, RexSz. -/
import Derived.WalkKit
import Derived.WalkSpells
import Derived.WalkLawsBesides
import Derived.Deep.RegionLaw
import Derived.Deep.AppendLies
import Derived.Deep.QuietTactic
import Derived.BigQuiet
import Derived.Deep.DeepCutAuto
import Derived.Lib.Hide
import Derived.Test.YtdmgcnggnejnnaaGreatRows
import Derived.ProofKit
import Derived.OpenShut
import Derived.ShutString
import Derived.SizedLaws
import Derived.JoinedCond
import Derived.Deep.CondSized
import Derived.Deep.Quiet
import Derived.StillTail
import Derived.Deep.LoopGhost
import Derived.Laws.BitsLemmas
import Derived.Laws.BytesString
import Derived.Laws.StructEq
import Derived.Test.YtdmgcnggnejnnaaGreatProg
import Derived.Laws.Entries
import Derived.Laws.BitsAllLaws
import Derived.Lib.TrailingZeros
import Derived.Laws.MakeOwn
import Derived.Laws.AppendOwn
import Derived.Maps.OwnSet
import Derived.DeepKeys4
import Derived.WideKeyEntry
import Derived.ChangeKeysEq
import Derived.Laws.Bits64b
import Derived.Lib.Strings
import Derived.Lib.Slices
import Derived.Lib.Walk
import Derived.Lib.Bytealg
namespace Go.Proofs.YtdmgcnggnejnnaaGreat
set_option linter.unusedVariables false
set_option linter.unusedSimpArgs false
open _root_.And renaming intro->cJ
open _root_.Array renaming getElem?_eq_some_iff->jx,length_toList->mf,getD_eq_getD_getElem?->x7,toList_setIfInBounds->I7,toArray_toList->DB,replicate->AQ,toList_map->DC,range->DD,ext'->q7,setIfInBounds_comm->WU,ext_getElem?->WV
open _root_.BitVec renaming ofNat->io,ofInt->x8,toNat_ofNat->DE,eq_of_toNat_eq->WW
open _root_.Bool renaming true->aC,false->aE,and_eq_true->eX,not_eq_true'->sH,beq_eq_decide_eq->WX
open _root_.ByteArray renaming mk->uv,size->I8,ext->aeF,data_extract->aeG
open _root_.Classical renaming choose_spec->DF,byContradiction->WY,choose->I9
open _root_.False renaming elim->oE
open _root_.Go.Act renaming put_comm->AR,put->q8,eval->I_
open _root_.Go.Addr renaming add->x9
open _root_.Go.Addr.mk renaming injEq->OW
open _root_.Go.BigFrame renaming execOp_builtin->lP,builtin_append->sJ,builtin_len->OX,wpList_want->WZ,builtin_min->W1
open _root_.Go.Builtin renaming append_->ux,lenOf->AS,firstCells->DG,min_->W4,min2->W5,len_->W6
open _root_.Go.ByteArray renaming mk_append_mk->aeH
open _root_.Go.Calls renaming mono->W7
open _root_.Go.ChangeSpec renaming plain->aeI
open _root_.Go.Code renaming region->W8
open _root_.Go.Conv renaming bytesToString->W9
open _root_.Go.DataW renaming weightsEach->x_,weights->ya,weightsAll->DH,TrodAll->I',trod->yb,Trod->W_
open _root_.Go.Deferred renaming ofValue->AT
open _root_.Go.Exit renaming inBlock->uy
open _root_.Go.Instr renaming build->df,sliceBounds->sK,fill->j_,buildSlice->uz,sliceAt->sL,sureAddr->yc,slice->sM,sliceBound->Ja,mapUpdate->AU,storeAt->OY,fieldAt->Xa,indexAt->Xb,loadAt->Xc,index->Xd
open _root_.Go.IntKind renaming i64->az,bits->kX,wrap_u64->sN,signed->pt,u64->uA,min->AV,max->AW
open _root_.Go.Lib renaming hid->DI
open _root_.Go.Maps renaming size->OZ,has->O0
open _root_.Go.Maps.Keyed renaming of_law->aeJ
open _root_.Go.Next renaming value->Xe
open _root_.Go.Op renaming shift->iM,equalIn->lQ,intCmp->AX,intArith->O1,equal->Jb,stringOp->Xf
open _root_.Go.Oper renaming wp->gj,upon_enter->O2,upon->O3,upon_value->Xg
open _root_.Go.Program renaming keyLits->sO
open _root_.Go.Proofs.Tryz renaming prog->aD
open _root_.Go.Region renaming ready->jy,wanted->kY,noSelect->AY,Mode->uB,binds->AZ,noSelect_spec->O4,free_spec->O5,chainB->O6,sinkB->O7,free->O8,seqB->O9
open _root_.Go.Result renaming andThen_ok->q9,andThen->nD,ok->O_
open _root_.Go.Sem renaming run_bind->nE,run_pure->pu
open _root_.Go.Value renaming slice->ap,int->av,pointer->aJ,agg->aQ,oneCell'->eY,bool->fT,ownBlock->sP,okWide->Jc
open _root_.Go.Value.slice renaming injEq->kH
open _root_.Go.WideElems renaming Trod_stays->aeK
open _root_.Go.World renaming block_lt_of_cell?->oF,cell?_setCell_other->Xh,frozen?_setCell->Xi,cell?_of_block->Xj,ownsMap_made->Xk
open _root_.Int renaming toNat_natCast->dF
open _root_.List renaming getElem?_eq_getElem->bK,getD_eq_getElem?_getD->cB,length_append->bI,getElem?_eq_some_iff->dg,getElem_mem->b_,replicate->cL,length_cons->db,drop_eq_getElem_cons->eZ,append_nil->du,length_map->dA,size_toArray->ey,append_assoc->dZ,mem_cons->dC,getElem?_append_left->iq,getElem?_map->fe,take_of_length_le->fU,nil_append->eI,flatMap_append->fV,drop_of_length_le->ir,mem_append->fx,not_mem_nil->fH,range->eg,getElem?_toArray->jz,mem_cons_self->ia,getElem?_set_ne->kZ,eq_nil_of_length_eq_zero->mS,mem_map->eT,mem_iff_getElem->iB,getElem?_set_self->nF,getElem?_append_right->pv,map_cons->gv,getElem?_eq_none->k7,length_take->iN,cons_append->jf,drop_drop->kI,flatMap_cons->mg,mem_of_getElem?->mh,nodup_cons->pw,set_eq_take_append_cons_drop->DJ,getElem?_cons_zero->px,mem_range->nG,ext_getElem?->mi,getElem?_of_mem->uC,filterMap->uD,take_append_drop->yd,length_erase_of_mem->Jd,all_eq_true->uE,setIfInBounds_toArray->uF,filterMap_cons_some->A0,take_succ_cons->sQ,set_cons_zero->ye,take_zero->uG,getElem?_concat_length->Pa,mem_map_of_mem->Je,mem_append_left->uH,zipIdx_cons->Jf,length_pos_of_mem->Pb,map_nil->q_,getElem?_cons_succ->DK,mem_erase_of_ne->Pc,take_left'->A1,drop_left'->A2,findIdx?_eq_some_iff_getElem->Xl,map_toArray->Pd,set_cons_succ->DL,nodup_range->Pe,nodup_append->DN,flatten_cons->DO,drop_take->Pf,getElem_append_right->Xm,pairwise_iff_getElem->Xn,getElem_append_left->Xo,mem_filter->DP,getElem_cons_succ->Xp,map_map->Pg,getElem?_append->Xq,set_append_left->Xr,getElem_ofFn->Xs,idxOf_append->Xt,mapM_cons->Xu,ofFn->Xv
open _root_.List.Pairwise renaming imp_of_mem->aeL
open _root_.List.Perm renaming swap->aeM
open _root_.List.cons renaming injEq->gU
open _root_.Nat renaming le_refl->bz,zero_le->bH,zero_add->cX,eq_of_beq_eq_true->mj,lt_of_lt_of_le->iO,blt->dj,le_of_ble_eq_true->k8,le_trans->fI,add_mul->iP,beq->fW,succ_mul->ml,add_zero->iu,mul_le_mul_right->sR,add_assoc->k9,mul_one->k_,ne_of_beq_eq_false->Jg,one_mul->uI,min_eq_left->DQ,zero_mul->yf,mod_eq_of_lt->Ph,ble->yg,add_comm->Pj,div_lt_iff_lt_mul->Xw,mod_lt->A3,lt_or_ge->Xx
open _root_.Ne renaming symm->yh
open _root_.Option renaming some->aj,none->ak
open _root_.Option.some renaming injEq->dh,inj->ra
open _root_.Prod renaming ext->oH
open _root_.Prod.mk renaming injEq->fX
open _root_.UInt8 renaming ofNat->fY
set_option maxHeartbeats 16000000
theorem I{α:Sort _}{a:α}:a=a:=rfl
theorem J{p:Prop}(h:p:=by omega):p:=h
theorem akh{p:Prop}(h:p:=by decide):p:=h
namespace cK
open Go.RowKit
section
end
theorem Xy{B:Nat}{w0 w w':World}(h:Below B w0 w)(hB:B<=w.heap.size)(hg:Below w.heap.size w w'):Below B w0 w':=h.trans (hg.mono hB)
def Xz(b:UInt8):Value:= .int .u8 b.toNat
def Rd(w:World)(g off:Nat)(xs:List Value):Prop:=∀j u,xs[j]?=aj u->w.cell? ⟨g,off+j,ak⟩=aj u
def Wr(w:World)(g off:Nat)(xs:List Value):Prop:=∀j u,xs[j]?=aj u->w.cell? ⟨g,off+j,ak⟩=aj u/\w.frozen? ⟨g,off+j,ak⟩=aE
theorem Wr.rd{w:World}{g off:Nat}{xs:List Value}(h:Wr w g off xs):Rd w g off xs:=λj u hj=>(h j u hj).1
theorem Rd.gr{w w':World}{g off:Nat}{xs:List Value}(h:Rd w g off xs)(hg:Below w.heap.size w w'):Rd w' g off xs:=λj u hj=>by
 have h1:=h j u hj;rw[hg.cell (oF w _ h1)];exact h1
theorem Wr.gr{w w':World}{g off:Nat}{xs:List Value}(h:Wr w g off xs)(hg:Below w.heap.size w w'):Wr w' g off xs:=λj u hj=>by
 have h1:=h j u hj;rw[hg.cell (oF w _ h1.1),hg.frozen (oF w _ h1.1)];exact h1
theorem Rd.at{w:World}{g off:Nat}{xs:List Value}(h:Rd w g off xs)(j:Nat)(hj:j<xs.length):w.cell? ⟨g,off+j,ak⟩=aj xs[j]:=h j _ (bK hj)
theorem Wr.at{w:World}{g off:Nat}{xs:List Value}(h:Wr w g off xs)(j:Nat)(hj:j<xs.length):w.cell? ⟨g,off+j,ak⟩=aj xs[j]/\w.frozen? ⟨g,off+j,ak⟩=false:=h j _ (bK hj)
theorem Wr.set{w:World}{g off:Nat}{xs:List Value}(h:Wr w g off xs)(j:Nat)(hj:j<xs.length)(u:Value):Wr (w.setCell ⟨g,off+j,ak⟩ u) g off (xs.set j u):=λi v hi=>by
 have hlen:i<xs.length:=by simpa using(dg.1 hi).1
 refine⟨?_,by rw[Xi];exact(h.at i hlen).2⟩
 by_cases e:i=j
 ·subst e
  rw[nF hj]at hi;rw[World.cell?_setCell_same _ _ _ (h.at i hj).1];exact hi
 rw[kZ (yh e)]at hi;have hne:(⟨g,off+j,ak⟩:Addr)≠⟨g,off+i,ak⟩:=λhe=>e (by have:=congrArg Addr.off he;simp at this;omega);rw[Xh _ _ _ _ hne];exact(h i v hi).1
theorem Wr.grown{w w':World}{g off:Nat}{xs:List Value}{row:Option Nat}(h:Wr w g off xs)(hg:w.grownBy w' row)(hne:row≠aj g):Wr w' g off xs:=λj u hj=>by
 have h1:=h j u hj;have hb:=oF w _ h1.1;have e:=hg.block g hb (λh=>hne h.symm);rw[Xj (w:=w) (a:=⟨g,off+j,ak⟩) e,World.frozen?_of_block (w:=w) (a:=⟨g,off+j,ak⟩) e];exact h1
theorem Wr.far{w:World}{g off:Nat}{xs:List Value}(h:Wr w g off xs){a:Addr}(ha:a.block≠g)(u:Value):Wr (w.setCell a u) g off xs:=λj v hj=>by
 have h1:=h j v hj;rw[Xi,Xh _ _ _ _ (λe=>ha (by rw[e]))];exact h1
theorem ad7(z:Value)(n:Nat):(madeCells #[z] n).toList=cL n z:=by
 apply mi;intro i
 by_cases h:i<n
 simp[madeCells,h,Nat.mod_one];simp[madeCells,h]
theorem abK(W:World)(o:Obj)(n:Nat)(h:W.heap.size=n):(W.alloc o).heap[n]?=aj o:=h▸heap_alloc_new W o
theorem Wr.append{w w':World}{g off:Nat}{xs:List Value}(h:Wr w g off xs){base:Nat}{e:TypeId}{size:Nat}{v:Value}{n:Nat}{ys:List Value}(lR:w.ownsRow base e size v n ys)(hg:w.grownBy w' v.ownBlock)(hb:g<base):Wr w' g off xs:=
 h.grown hg λe=>by have:=(lR.lt g e).1;omega
theorem Wr.nil(w:World)(g off:Nat):Wr w g off []:=λj u h=>by simp at h
theorem aeN{w:World}{base:Nat}{e:TypeId}{size:Nat}{g n cap:Nat}{xs:List Value}(h:w.ownsRow base e size (ap (aj ⟨g,0,ak⟩) n cap) n xs):Wr w g 0 xs:=λj u hj=>by
 have hl:j<n*size:=by rw[<-h.1];exact(dg.1 hj).1
 rw[cX];exact⟨(h.cellAt j hl).trans hj,h.frozenAt j⟩
theorem LB{P:Program}{src dst e:TypeId}(hs:P.underlying src=aj (.slice e))(he:P.underlying e=aj (.int .u8))(hd:P.underlying dst=aj .string){w:World}{g off n cap:Nat}{l:List UInt8}
 (hn:n=l.length) (h:Rd w g off (l.map Xz)):(convert src dst (ap (aj ⟨g,off,ak⟩) n cap)).run P w= .ok (.string ⟨l.toArray⟩) w:=by
 subst hn;refine run_convert_bytes_back w src dst e ⟨g,off,ak⟩ cap l hs he hd λj hj=>?_;have:=h.at j (by simpa using hj);rw[show(⟨g,off,ak⟩:Addr).add j=⟨g,off+j,ak⟩by unfold x9;split<;>simp_all];rw[this];simp[Xz]
end cK
namespace law
open Go.ChangeShapes Go.WideShapes Go.ChangeAt Go.RowKit
theorem own:ownKnob aD.godebug=none:=by kernel_rfl
theorem laidOut:laidOutB aD=true:=by kernel_rfl
structure agJ{H:Type}(enc:TypeId×Value->H)(fn:Func)(W:World)(base:Nat)(args:Array Value)(ds:List (DataW H))(p:List MemPlace):Prop where
 val:∀(j:Nat) t v,fn.params[j]?=aj t->args[j]?=aj v->Jc aD W .any base t v
 trod:I' enc aD W 0 (λ_=>aC) aC fn.params.toList args.toList ds p
 sized:(x_ aD fn.params.toList ds).all (· <=reachBytes)=aC
 free:W.noneFrozen p
noncomputable def ad8(fn:Func):Bool:=fn.params.toList.all λt=>aD.readableRec t&&decide (t<aD.types.size)
section
variable{H:Type}{enc:TypeId×Value->H}
theorem xG{P:Program}(hl:laidOutB P=aC){W W':World}{sp':Nat->Bool}:∀{ts:List TypeId} {vs:List Value} {ds:List (DataW H)} {ps:List MemPlace},(ts.all λt=>P.readableRec t&&decide (t<P.types.size))=aC->
 I' enc P W 0 (λ_=>aC) aC ts vs ds ps->(∀p∈ps,W.sameAt W' p)->(∀p∈ps,sp' p.block=aC)->I' enc P W' 0 sp' aC ts vs ds ps
 |[],[],[],_,_,h,_,_=>h
 | t ::ts,v::vs,d::ds,_,hb,⟨p,q,h1,h2,e⟩,h3,h4=>by
  simp only[List.all_cons,eX,decide_eq_true_eq]at hb;subst e;exact⟨p,q,aeK hl hb.1.1 hb.1.2 h1 (λx hx=>h3 x (by simp[hx])) (λx hx=>h4 x (by simp[hx])),
   xG hl hb.2 h2 (λx hx=>h3 x (by simp[hx])) (λx hx=>h4 x (by simp[hx])),rfl⟩
 |[],_::_,_,_,_,h,_,_=>h.elim
 |[],[],_::_,_,_,h,_,_=>h.elim
 |_::_,[],_,_,_,h,_,_=>h.elim
 |_::_,_::_,[],_,_,h,_,_=>h.elim
theorem uJ{P:Program}{W:World}{sp:Nat->Bool}:∀{ts:List TypeId} {vs:List Value} {ds:List (DataW H)} {ps:List MemPlace},I' enc P W 0 sp aC ts vs ds ps->ds.length=ts.length
 |[],[],[],_,_=>rfl
 |_::ts,_::vs,_::ds,_,⟨_,_,_,h2,_⟩=>by simp[uJ h2]
 |[],_::_,_,_,h=>h.elim
 |[],[],_::_,_,h=>h.elim
 |_::_,[],_,_,h=>h.elim
 |_::_,_::_,[],_,h=>h.elim
def LC(fn:Func)(s:ChangeSpec):Prop:=s.vars=[]/\∀(H:Type) (ds:List (DataW H)),ds.length=fn.params.size->s.fn H ds={results:=[.lit (.bool aC)],args:=ds}
theorem abL{fn:Func}{s:ChangeSpec}{W W':World}{args:Array Value}{ds gs:List (DataW H)}{before:List MemPlace}(hs:LC fn s)(DR:ad8 fn=aC)(mO:fn.resultTypes=#[4])
 (hW:DataW.Whole enc aD fn.params.toList s.vars aE W args.toList ds gs before) (hb:Below W.heap.size W W'):
 s.post enc aD fn aE aC aE aE W args (.bool aC) W':=by
 obtain⟨hv,hfn⟩:=hs;have hW':=hW;obtain⟨p,q,hA,hV,rfl,hfz,LD⟩:=hW;rw[hv]at hV;obtain⟨rfl,rfl⟩:=trodVars_none hV;have hlen:ds.length=fn.params.size:=by rw[uJ hA];simp
 have hlt:∀x∈p,x.block<W.heap.size:=λx hx=>hW'.lt x (by simp[hx]);have he:s.fn H (ds++[])={results:=[.lit (.bool aC)],args:=ds}:=by rw[du];exact hfn H ds hlen
 refine⟨ds,[],p++[],[],p,[],hW',?_,?_,?_,hb.frame _,λh=>by cases h⟩
 ·rw[he,mO]
  exact trodAll_mk1 (shut_bool Tryz.underlying4 aC)
 ·rw[he]
  exact xG laidOut DR hA (λx hx=>hb.same (hlt x hx)) (λx hx=>by simpa using hlt x hx)
 ·rw[he,hv]
  rfl
end
set_option maxRecDepth 100000 in
theorem said{os:Os}{f:FuncId}{fn:Func}{s:ChangeSpec}(started:os.Started)(aeO:aD.inits.idxOf? f=ak)(hf:aD.funcs[f]?=aj fn)(hs:LC fn s)(DR:ad8 fn=aC)(mO:fn.resultTypes=#[4])
  {H:Type} {enc:TypeId×Value->H}
  (witness:∃(w:World) (tape:Tape) (i:Input),w.os=os/\(w.forCall tape i).Shaped Tryz.checked.prog/\i.vars=[]/\Input.okWide Tryz.checked.prog (w.forCall tape i) .any w.heap.size f i/\
   s.pre6 enc Tryz.checked.prog fn [] aE (w.forCall tape i).memory i.args/\({}:Assume).holds Tryz.checked.prog (lone (Frame.enter Tryz.checked.prog f i.args .normal) [] (w.forCall tape i)))
  (walk:∀(W:World) (base:Nat) (args:Array Value) (ds:List (DataW H)) (p:List MemPlace),agJ enc fn W base args ds p->Calls aD f args W λe W'=>e= .returned (.bool aC)/\Below W.heap.size W W'):
  ReturnsInHanded {} Tryz.checked os f .any (s.pre6 enc aD fn [] aE) (s.post enc aD fn aE aC aE aE):=by
 refine returnsInHanded_of_change_sized (C:=Tryz.checked) own started aeO hf witness ?_;intro W base args ds gs before hval hW _ hsz _;have hW':=hW;obtain⟨p,q,hA,hV,rfl,hfz,LD⟩:=hW;rw[hs.1]at hV;obtain⟨rfl,rfl⟩:=trodVars_none hV;have aiE:(x_ aD fn.params.toList ds).all (· <=reachBytes)=true:=by
  have e:s.plain.varTypes aD=[]:=by simp[aeI,DataSpec.varTypes,hs.1]
  have:=hsz;rw[show s.plain.varTypes Tryz.checked.prog=[]from e]at this;rw[du,du]at this;exact this
 refine(walk W base args ds p ⟨hval,hA,aiE,λb off h=>hfz b off (by simp[h])⟩).mono λe W' ⟨he,hb⟩=>?_;exact⟨_,he,abL hs DR mO hW' hb⟩
end law
namespace cK
open Go.ChangeShapes Go.WideShapes Go.ChangeAt Go.RowKit
def Sl(w:World)(v:Value)(n:Nat)(xs:List Value):Prop:=
 ∃base cap,v=ap base n cap/\n<=cap/\cap<=maxLen/\(0<n->∃b off,base=aj ⟨b,off,ak⟩/\Rd w b off xs)
theorem Sl.gr{w w':World}{v:Value}{n:Nat}{xs:List Value}(h:Sl w v n xs)(hg:Below w.heap.size w w'):Sl w' v n xs:=
 let ⟨base,cap,h1,h2,h3,h4⟩:=h
 ⟨base,cap,h1,h2,h3,λhn=>let ⟨b,off,h5,h6⟩:=h4 hn;⟨b,off,h5,h6.gr hg⟩⟩
theorem Sl.dD{w:World}{base:Nat}{e:TypeId}{size:Nat}{v:Value}{n:Nat}{xs:List Value}(h:w.ownsRow base e size v n xs):Sl w v n xs:=by
 rcases h.2 with⟨rfl,rfl⟩|⟨g,cap,jZ,rfl,hb,hg,hn,hm,r⟩
 exact⟨ak,0,rfl,bz _,by decide,λh=>by omega⟩;exact⟨_,cap,rfl,hn,hm,λ_=>⟨g,0,rfl,(aeN h).rd⟩⟩
theorem mapM_some{α β:Type}{f:α->Option β}:∀{l:List α} {r:List β},l.mapM f=aj r->r.length=l.length/\∀(i:Nat) (a:α),l[i]?=aj a->∃b,f a=aj b/\r[i]?=aj b
 | [],r,h=>by
  simp at h;subst h;exact⟨rfl,λi a h=>by simp at h⟩
 | x ::l,r,h=>by
  rw[Xu]at h
  cases hx:f x with
  |none=>rw[hx]at h;simp at h
  | some y=>
   rw[hx]at h
   cases hr:l.mapM f with
   |none=>rw[hr]at h;simp at h
   | some r'=>
    rw[hr]at h;simp at h;subst h;obtain⟨h1,h2⟩:=mapM_some hr;refine⟨by simp[h1],λi a hi=>?_⟩
    cases i with
    |zero=>simp at hi;subst hi;exact⟨y,hx,rfl⟩
    |succ i=>simp at hi;simpa using h2 i a hi
theorem lc{w:World}{a:Addr}{n:Nat}{cs:List Value}(h:w.cells? 0 a n=aj cs):cs.length=n/\∀j,j<n->w.cell? (a.add j)=cs[j]?:=by
 unfold World.cells? at h;rw[if_pos (bH _)]at h;obtain⟨h1,h2⟩:=mapM_some h;rw[List.length_range]at h1;refine⟨h1,λj hj=>?_⟩;obtain⟨b,hb,hc⟩:=h2 j j (by simp[hj]);rw[hb,hc]
theorem eV(b off j:Nat):(⟨b,off,ak⟩:Addr).add j=⟨b,off+j,ak⟩:=by unfold x9;split<;>simp_all
theorem Hs{w:World}{a:Addr}{v:Value}(h:w.cell? a=aj v):a.spot=none:=by
 unfold World.cell? at h;split at h
 ·cases hs:a.spot with
  |none=>rfl
  |some n=>rw[hs]at h;simp at h
 cases h
theorem BY{α:Type}{enc:α->List Value}{c:Nat}(hlen:∀a,(enc a).length=c):∀(l:List α) (i j:Nat) (a:α),l[i]?=aj a->j<c->(l.flatMap enc)[i*c+j]?=(enc a)[j]?
 |[],i,j,a,h,_=>by simp at h
 |x::l,0,j,a,h,hj=>by
  simp at h;subst h;rw[mg,iq (by rw[hlen];omega)];simp
 |x::l,i+1,j,a,h,hj=>by
  have ih:=BY hlen l i j a (by simpa using h) hj;rw[mg,pv (by rw[hlen,iP];omega),hlen,show(i+1)*c+j-c=i*c+j by rw[iP];omega];exact ih
theorem LF{α:Type}{enc:α->List Value}{c:Nat}(hlen:∀a,(enc a).length=c)(l:List α):(l.flatMap enc).length=l.length*c:=by
 induction l with
 |nil=>simp
 |cons x l ih=>rw[mg,bI,hlen,ih,db,iP];omega
section
variable{H:Type}{enc0:TypeId×Value->H}{P:Program}{W:World}
theorem C6{α:Type}{p:Nat->α->Prop}:∀(n:Nat),(∀i,i<n->∃a,p i a)->∃l:List α,l.length=n/\∀(i:Nat) (a:α),l[i]?=aj a->p i a
 |0,_=>⟨[],rfl,λi a h=>by simp at h⟩
 | n+1,h=>by
  obtain⟨l,hl,hp⟩:=C6 n λi hi=>h i J;obtain⟨a,ha⟩:=h n J;refine⟨l++[a],by simp[hl],λi b hb=>?_⟩
  by_cases hi:i<n
  rw[iq J]at hb;exact hp i b hb;have hlt:=(dg.1 hb).1;simp at hlt;obtain rfl:i=n:=by omega
  rw[pv J]at hb;rw[hl]at hb;simp at hb;subst hb;exact ha
end
def Ht(b:Bool):List Value:=[.bool b]
def dQ(n:Int):List Value:=[av az n]
theorem ad9{α:Type}{f:α->Value}(l:List α):l.flatMap (λa=>[f a])=l.map f:=by
 induction l with
 |nil=>rfl
 |cons x l ih=>simp[mg,ih]
def dU(n:Int):Prop:= -9223372036854775808<=n/\n<=9223372036854775807
end cK
namespace dS
open Go.RowKit
abbrev Gr(w w':World):Prop:=Below w.heap.size w w'
theorem Gr.refl(w:World):Gr w w:=Below.refl _ _
theorem Gr.trans{a b c:World}(h:Gr a b)(k:Gr b c):Gr a c:=Below.trans h (k.mono h.size)
theorem Gr.drew(w:World):Gr w w.drew:=(Below.refl _ _).drew
def Up(w w':World):Prop:=Gr w w'
def jK(S:World->Prop):Prop:=∀w w',S w->Gr w w'->S w'
theorem Un(w:World):jK (Up w):=λ_ _ h k=>Gr.trans h k
section
variable{P:Program}{ops:Array Oper}{md:uB}{Q:Exit->Act->World->Prop}
def DS(P:Program)(w:World)(v:Value):Result Next->Prop
 | .ok (.value u) w'=>u=v/\Gr w w'
 | .ok .skip w'=>v=undef/\Gr w w'
 | .ok (.enter f args) w'=>Gr w w'/\Calls P f args w' (λe Gz=>e= .returned v/\Gr w' Gz)
 |_=>False
def py(P:Program)(o:Oper)(a:Act)(w:World)(v:Value):Prop:=DS P w v ((execOp a.eval o).run P w)
def ka(P:Program)(ops:Array Oper)(S:World->Prop)(o:Oper)(v:Value)(a:Act):Prop:=
 (kY o (yielded ops a.tmps)=aC/\∀w,S w->py P o a w v)\/(kY o (yielded ops a.tmps)=aE/\v=undef)
theorem ka.mono{S S':World->Prop}{o:Oper}{v:Value}{a:Act}(hs:∀w,S' w->S w)(h:ka P ops S o v a):ka P ops S' o v a:=
 h.imp (λ⟨h1,h2⟩=>⟨h1,λw hw=>h2 w (hs w hw)⟩) id
theorem ka.of_same{S:World->Prop}{o:Oper}{v:Value}{a a':Act}(hy:ka P ops S o v a)(he:execOp a'.eval o=execOp a.eval o)
 (hw:kY o (yielded ops a'.tmps)=kY o (yielded ops a.tmps)):ka P ops S o v a':=by
 simp_all[ka,py]
theorem ka.wpOp{S:World->Prop}{i:Nat}{o:Oper}{v:Value}{a:Act}(hi:ops[i]?=aj o)(hy:ka P ops S o v a)(jW:jK S)
 {K:Act->World->Prop} {w:World} (hS:S w) (h:∀w',S w'->K (a.put o.dst v) w'):wpOp P ops Q i K a w:=by
 unfold Go.wpOp;simp only[hi];rcases hy with⟨hw,hv⟩|⟨hw,rfl⟩
 ·simp only[hw,if_true]
  refine .inl ?_;have h1:=hv w hS;unfold py at h1;unfold gj;generalize (execOp a.eval o).run P w=r at*
  cases r with
  | ok n w'=>
   cases n<;>simp only[DS]at h1<;>simp only[O3]
   case value u=>rw[h1.1];exact h _ (jW _ _ hS h1.2)
   case skip=>rw[<-h1.1];exact h _ (jW _ _ hS h1.2)
   case enter f args=>
    refine h1.2.mono λe Gz ⟨he,hg⟩=>?_;subst he;exact h _ (jW _ _ (jW _ _ hS h1.1) hg)
  |halt x w'=>simp_all[DS]
 simp_all
theorem Hu{S:World->Prop}{j:Nat}{oi oj:Oper}{v:Value}(hj:ops[j]?=aj oj)(hap:oi.apart ops oj=aC)
 (hsi:∀cs b,oi.op≠ .select cs b) (hsj:∀cs b,oj.op≠ .select cs b)
 (hQ:∀c a w,Q (.panic c) (a.put oi.dst v) w->Q (.panic c) a w) {K:Act->World->Prop} {a:Act} {w:World}
 (hy:ka P ops S oi v a) (h:wpOp P ops Q j K (a.put oi.dst v) w):
 wpOp P ops Q j (λa' w'=>ka P ops S oi v a'/\K (a'.put oi.dst v) w') a w:=by
 obtain⟨h1,h2,h3⟩:=Oper.apart_spec hap;have keep:∀(a:Act),ka P ops S oi v a->∀u,ka P ops S oi v (a.put oj.dst u):=λa hy u=>
  hy.of_same (execOp_put oi hsi a oj.dst u h3) (wanted_put oi a oj.dst u h3)
 have ajz:∀d,ka P ops S oi v {a with defers:=d::a.defers}:=λd=>hy.of_same I I;unfold wpOp at*;simp only[hj]at*;rw[wanted_put oj a oi.dst v h1]at h;split
 ·rename_i hw
  simp only[hw,if_true]at h;rcases h with h|⟨ad_,agK⟩
  case inr=>exact .inr ⟨by unfold Oper.asks at*;rw[execOp_put oj hsj a oi.dst v h1]at ad_;exact ad_,agK⟩
  refine .inl ?_;unfold gj at*;rw[execOp_put oj hsj a oi.dst v h1]at h;generalize (execOp a.eval oj).run P w=r at*
  cases r with
  | ok n w'=>
   cases n<;>simp only[O3]at h⊢
   grind[AR]
   grind[AR]
   case defer d=>
    grind[AR,Act.put_defers]
   grind[W7,AR]
   grind[AR]
  | halt x w'=>
   cases x<;>simp_all[O3]
 grind[AR]
def A4(P:Program)(md:uB)(ops:Array Oper)(Q:Exit->Act->World->Prop)(n:Nat)(L:Array Bool->Act->World->Prop):Nat->Array Bool->Act->(World->Prop)->Prop
 |0,listed,a,S=>∀w,S w->L listed a w
 | f+1,listed,a,S=>jy md ops listed≠[]/\
  ∀i∈jy md ops listed,i<n/\∀w,S w->wpOp P ops Q i (λa' w'=>∃S',jK S'/\(∀x,S' x->S x)/\S' w'/\A4 P md ops Q n L f (listed.setIfInBounds i aC) a' S') a w
theorem DT{n g:Nat}{L:Array Bool->Act->World->Prop}(hL:∀listed a w,L listed a w->wpAny P md ops Q g listed a w):
 ∀(f:Nat) (listed:Array Bool) (a:Act) (S:World->Prop) (w:World),S w->A4 P md ops Q n L f listed a S->wpAny P md ops Q (f+g) listed a w
 |0,listed,a,S,w,hw,h=>by rw[cX];exact hL _ _ _ (h w hw)
 |f+1,listed,a,S,w,hw,h=>by
  rw[show f+1+g=(f+g)+1 by omega];exact⟨λh0=>absurd h0 h.1,λi hi=>wpOp_mono (λa' w' ⟨S',_,_,uk,h'⟩=>DT hL f _ a' S' w' uk h') ((h.2 i hi).2 w hw)⟩
theorem Jh{n i:Nat}{oi:Oper}{v:Value}{L:Array Bool->Act->World->Prop}(hi:ops[i]?=aj oi)(mP:∀(j:Nat) (o:Oper) cs b,ops[j]?=aj o->o.op≠ .select cs b)
 (hs:O7 md ops n=aC) (hc:O6 md ops n=aC) (hn:n<ops.size) (GF:i<n)
 (hQ:∀c a w,Q (.panic c) (a.put oi.dst v) w->Q (.panic c) a w)
 (hdone:∀listed a w,L listed a w->∀j∈jy md ops listed,n<=j):
 ∀ (f:Nat) (listed:Array Bool) (a:Act) (S:World->Prop),jK S->HeadInv md ops n listed->
  (∀j oj,ops[j]?=aj oj->j≠i->listed.getD j aC=aE->(∀e∈oj.after,AZ md e=aC->e.on≠i)->oi.apart ops oj=aC)->
  i∈jy md ops listed->ka P ops S oi v a->
  A4 P md ops Q n L f (listed.setIfInBounds i aC) (a.put oi.dst v) S->A4 P md ops Q n L (f+1) listed a S:=by
 intro f
 induction f with
 | zero=>
  intro listed a S jW inv _ hr hy H;have BZ:=(mem_ready.1 hr).1;refine⟨λh=>(by simp_all),λj hj=>?_⟩;have hjn:j<n:=by
   rcases Xx j n with h|h
   exact h;exact absurd hj (tail_waits hs hc hn inv _ i I GF BZ j h)
  refine⟨hjn,λw hw=>?_⟩
  by_cases Ln:j=i
  subst Ln;exact hy.wpOp hi jW hw λw' uk=>⟨S,jW,λ_ h=>h,uk,H⟩;have:=hdone _ _ _ (H w hw) j (ready_mono hj Ln);omega
 | succ f ih=>
  intro listed a S jW inv Hv hr hy H;have BZ:=(mem_ready.1 hr).1;refine⟨λh=>(by simp_all),λj hj=>?_⟩;have hjn:j<n:=by
   rcases Xx j n with h|h
   exact h;exact absurd hj (tail_waits hs hc hn inv _ i I GF BZ j h)
  refine⟨hjn,λw hw=>?_⟩
  by_cases Ln:j=i
  subst Ln;exact hy.wpOp hi jW hw λw' uk=>⟨S,jW,λ_ h=>h,uk,H⟩;have h1:=(H.2 j (ready_mono hj Ln)).2 w hw;obtain⟨abM,oj,Sx,qz⟩:=mem_ready.1 hj;have Uo:∀e∈oj.after,AZ md e=aC->e.on≠i:=λe he hb Hw=>by
   grind
  have h2:=Hu Sx (Hv j oj Sx Ln abM Uo) (λcs b=>mP i oi cs b hi) (λcs b=>mP j oj cs b Sx) hQ hy h1;have Pk:∀k ok,ops[k]?=aj ok->k≠i->(listed.setIfInBounds j aC).getD k aC=aE->
   (∀e∈ok.after,AZ md e=aC->e.on≠i)->oi.apart ops ok=true:=λk ok hk hki BZ hno=>by
   refine Hv k ok hk hki ?_ hno
   by_cases hjk:j=k
   simp_all
   simp_all
  refine wpOp_mono (λa' w' h3=>?_) h2;obtain⟨h3,S',ns,lf,uk,h4⟩:=h3;refine⟨S',ns,lf,uk,ih (listed.setIfInBounds j aC) a' S' ns (inv.set hj hjn) Pk (ready_mono hr (yh Ln)) (h3.mono lf) ?_⟩;rw[WU _ _ Ln];exact h4
def Uq(P:Program)(ops:Array Oper)(Q:Exit->Act->World->Prop)(L:Act->World->Prop):List Bool->List Oper->Act->(World->Prop)->Prop
 |true::ks,o::rest,a,S=>∃v,(if kY o (yielded ops a.tmps)then ∀w,S w->py P o a w v else v=undef)/\Uq P ops Q L ks rest (a.put o.dst v) S
 | false::ks,o::rest,a,S=>∀w,S w->if kY o (yielded ops a.tmps)then
  o.wp P a w (λa' w'=>∃S',jK S'/\(∀x,S' x->S x)/\S' w'/\Uq P ops Q L ks rest a' S') Q
  else Uq P ops Q L ks rest (a.put o.dst undef) S
 |_,_,a,S=>∀w,S w->L a w
def yi(md:uB)(ops:Array Oper)(g:Nat):List Bool->Nat->Array Bool->Bool
 |true::ks,k,listed=>(jy md ops listed).contains k&&O8 md ops listed k&&yi md ops g ks (k+1) (listed.setIfInBounds k aC)
 |false::ks,k,listed=>decide (jy md ops listed=[k])&&yi md ops g ks (k+1) (listed.setIfInBounds k aC)
 |[],k,listed=>O9 md ops g k listed
def abN(md:uB)(ops:Array Oper)(ks:List Bool):Bool:=
 AY ops&&decide (ks.length<ops.size)&&O7 md ops ks.length&&O6 md ops ks.length&&yi md ops (ops.size-ks.length) ks 0 (AQ ops.size aE)
theorem yj{n g:Nat}{Lq:Act->World->Prop}(mP:AY ops=aC)(hs:O7 md ops n=aC)(hc:O6 md ops n=aC)(hn:n<ops.size)
 (hQ:∀c a d v w,Q (.panic c) (a.put d v) w->Q (.panic c) a w):
 ∀(ks:List Bool) (l:List Oper) (k:Nat) (listed:Array Bool) (a:Act) (S:World->Prop),jK S->l.length=ks.length->(∀j,j<l.length->l[j]?=ops[k+j]?)->k+l.length=n->HeadInv md ops n listed->
 yi md ops g ks k listed=aC->Uq P ops Q Lq ks l a S->
 A4 P md ops Q n (λC7 a' w'=>O9 md ops g n C7=aC/\Lq a' w') ks.length listed a S
 |[],[],k,listed,a,S,_,_,_,hk,_,hB,h=>by
  have:k=n:=by omega
  subst this;exact λw hw=>⟨by simp_all[yi],h w hw⟩
 |[],_::_,_,_,_,_,_,hlen,_,_,_,_,_=>by simp_all
 |_::_,[],_,_,_,_,_,hlen,_,_,_,_,_=>by simp_all
 | true::ks,o::l,k,listed,a,S,jW,hlen,hl,hk,inv,hB,h=>by
  have h0:ops[k]?=aj o:=by simpa using(hl 0 (by simp)).symm
  simp only[yi,eX]at hB;obtain⟨⟨hr,hf⟩,hB'⟩:=hB;have hkn:k<n:=by grind
  have CG:k∈jy md ops listed:=by simp_all
  obtain⟨v,hy,hK⟩:=h;have hy':ka P ops S o v a:=by
   by_cases hw:kY o (yielded ops a.tmps)=aC
   rw[if_pos hw]at hy;exact .inl ⟨hw,hy⟩;rw[if_neg hw]at hy;exact .inr ⟨by simp_all,hy⟩
  exact Jh h0 (O4 mP) hs hc hn hkn (λc a w=>hQ c a o.dst v w) (λC7 a' w' hL=>seqB_ready hL.1) ks.length listed a S jW inv (O5 h0 hf) CG hy'
   (yj mP hs hc hn hQ ks l (k+1) _ _ S jW (by simp_all) (λj hj=>by have:=hl (j+1) (by grind);simpa[k9,Pj 1 j]using this) (by grind) (inv.set CG hkn) hB' hK)
 | false::ks,o::l,k,listed,a,S,jW,hlen,hl,hk,inv,hB,h=>by
  have h0:ops[k]?=aj o:=by simpa using(hl 0 (by simp)).symm
  simp only[yi,eX,decide_eq_true_eq]at hB;obtain⟨hr,hB'⟩:=hB;have hkn:k<n:=by grind
  have CG:k∈jy md ops listed:=by grind
  have next:∀a' S',jK S'->Uq P ops Q Lq ks l a' S'->A4 P md ops Q n (λC7 a' w'=>O9 md ops g n C7=aC/\Lq a' w') ks.length (listed.setIfInBounds k aC) a' S':=λa' S' ns hK=>
   yj mP hs hc hn hQ ks l (k+1) _ _ S' ns (by simp_all) (λj hj=>by have:=hl (j+1) (by grind);simpa[k9,Pj 1 j]using this) (by grind) (inv.set CG hkn) hB' hK
  refine⟨by simp_all,λi hi=>?_⟩;obtain rfl:i=k:=by simp_all
  refine⟨hkn,λw hw=>?_⟩;have h1:=h w hw;unfold wpOp;simp only[h0];split
  ·rename_i hwt
   rw[if_pos hwt]at h1;exact .inl (Oper.wp_mono (λa' w' ⟨S',ns,lf,uk,hK⟩=>⟨S',ns,lf,uk,next _ _ ns hK⟩) h1)
  grind
theorem GP{id:Nat}{a:Act}{w:World}{l:List Oper}(ks:List Bool)(hm:P.follows .mixedOrders=aC)(hB:abN .any l.toArray ks=aC)
 (hQ:∀c a d v w,Q (.panic c) (a.put d v) w->Q (.panic c) a w) (S:World->Prop) (jW:jK S) (hS:S w.drew)
 (h:Uq P l.toArray Q (λa' w'=>wpList P l.toArray Q (l.drop ks.length) a' w') ks (l.take ks.length) a S):(W8 id l.toArray aC).wp P Q a w:=by
 simp only[abN,eX,decide_eq_true_eq]at hB;obtain⟨⟨⟨⟨mP,hn⟩,hs⟩,hc⟩,Pl⟩:=hB;have hn':ks.length<l.length:=by omega
 have htl:(l.take ks.length).length=ks.length:=by grind
 have Ur:(l.drop ks.length).length=l.toArray.size-ks.length:=by simp
 have aiF:HeadInv .any l.toArray ks.length (AQ l.toArray.size aE):=
  ⟨by simp,λj oj _ hl=>(by grind[getD_replicate_false]),λt _ ht=>getD_in (by simp_all) (getD_replicate_false _ _)⟩
 have H:=yj (md:= .any) (g:=l.toArray.size-ks.length) mP hs hc hn hQ ks (l.take ks.length) 0 _ a S jW htl (λj hj=>by
  simp_all) J aiF Pl h
 refine wp_region_any hm ?_;have:=DT (Q:=Q) (g:=l.toArray.size-ks.length) (λlisted a' w' hL=>by
  grind[wpAny_of_seq]) _ _ _ S w.drew hS H
 rw[show ks.length+(l.toArray.size-ks.length)=l.toArray.size by omega]at this;exact this
theorem dS{id:Nat}{a:Act}{w:World}{l:List Oper}(n:Nat)(ks:List Bool)(hn:ks.length=n)(hm:P.follows .mixedOrders=aC)(hB:abN .any l.toArray ks=aC)
 (hQ:∀c a d v w,Q (.panic c) (a.put d v) w->Q (.panic c) a w) (S:World->Prop) (jW:jK S) (hS:S w.drew)
 (h:Uq P l.toArray Q (λa' w'=>wpList P l.toArray Q (l.drop n) a' w') ks (l.take n) a S):(W8 id l.toArray aC).wp P Q a w:=by
 grind[GP]
section
variable{L:Act->World->Prop}{ks:List Bool}{o:Oper}{rest:List Oper}{a:Act}{S:World->Prop}
theorem Sy{u:Value}(hw:kY o (yielded ops a.tmps)=aC)(h:∀w,S w->(execOp a.eval o).run P w= .ok (.value u) w)(hk:Uq P ops Q L ks rest (a.put o.dst u) S):
 Uq P ops Q L (true::ks) (o::rest) a S:=
 ⟨u,by rw[if_pos hw];intro w hS;unfold py;rw[h w hS];exact⟨rfl,Gr.refl _⟩,hk⟩
theorem XA(hw:kY o (yielded ops a.tmps)=aE)(hk:Uq P ops Q L ks rest (a.put o.dst undef) S):
 Uq P ops Q L (true::ks) (o::rest) a S:=
 ⟨undef,by simp_all,hk⟩
theorem Sz{l:List Oper}(h:∀w,S w->L a w):Uq P ops Q L [] l a S:=h
end
end
end dS
namespace bZ
open Go.RowKit cK dS
abbrev Fr:=List (Nat×Value)
def look:Fr->Nat->Option Value
 |[],_=>ak
 |(k,v)::r,i=>bif fW k i then aj v else look r i
structure nH(n:Nat)(a:Act)(fr:Fr):Prop where
 size:a.tmps.size=n
 defers:a.defers=[]
 get:∀i v,look fr i=aj v->a.tmps[i]?=aj v
theorem nH.put{n:Nat}{a:Act}{fr:Fr}(h:nH n a fr){d:Nat}(hd:dj d n=aC)(v:Value):nH n (a.put (aj d) v) ((d,v)::fr):=by
 have Pm:d<n:=k8 hd;refine⟨by simp[q8,h.size],h.defers,λi u hi=>?_⟩;unfold look at hi;simp only[q8]
 cases e:fW d i
 ·rw[e]at hi
  rw[Array.getElem?_setIfInBounds_ne (Jg e)];exact h.get i u hi
 rw[e]at hi;obtain rfl:d=i:=mj e;simp only[cond_true,dh]at hi;subst hi;rw[Array.getElem?_setIfInBounds_self_of_lt (by rw[h.size];exact Pm)]
theorem nH.uK{n:Nat}{a:Act}{fr:Fr}(h:nH n a fr)(v:Value):nH n (a.put ak v) fr:=h
def LG:Fr->Fr->Prop
 |[],_=>True
 |(i,v)::r,fr=>look fr i=aj v/\LG r fr
theorem XB{GG fr:Fr}(h:LG GG fr){i:Nat}{v:Value}(hl:look GG i=aj v):look fr i=aj v:=by
 induction GG with
 |nil=>cases hl
 |cons x r ih=>
  obtain⟨k,u⟩:=x;unfold look at hl
  cases e:fW k i
  rw[e]at hl;exact ih h.2 hl;rw[e]at hl;obtain rfl:k=i:=mj e;simp only[cond_true,dh]at hl;subst hl;exact h.1
theorem nH.sub{n:Nat}{a:Act}{fr GG:Fr}(h:nH n a fr)(hs:LG GG fr):nH n a GG:=⟨h.size,h.defers,λi v hl=>h.get i v (XB hs hl)⟩
def ev(fr:Fr):Operand->Option Value
 | .tmp t=>look fr t
 | .const v=>aj v
 | .global g=>aj (aJ (aj ⟨g,0,ak⟩))
 | .func f=>aj (.func (.func f) #[] #[])
theorem nH.ev{n:Nat}{a:Act}{fr:Fr}(h:nH n a fr){x:Operand}{v:Value}(hx:ev fr x=aj v):a.eval x=v:=by
 cases x with
 |tmp t=>simp[I_,x7,h.get t v hx]
 |const u=>simp_all[bZ.ev,I_]
 |global g=>simp_all[bZ.ev,I_]
 |func f=>simp_all[bZ.ev,I_]
theorem nH.yield{n:Nat}{a:Act}{fr:Fr}(h:nH n a fr){ops:Array Oper}{j d:Nat}{v:Value}(hj:(ops[j]?).bind (·.dst)=aj d)(hl:look fr d=aj v):
 yielded ops a.tmps j=match v with| .bool b=>aj b|_=>none:=by
 unfold yielded;rw[hj];simp only[Option.bind_some,h.get d v hl]
 cases v<;>rfl
structure b9 where
 A5:Option Nat
 more:Nat->Prop
 holds:World->Prop
 lt:∀w,holds w->∀k,(A5=aj k\/more k)->k<w.heap.size
 stay:∀w w',holds w->w.heap.size<=w'.heap.size->(∀k,(A5=aj k\/more k)->w'.heap[k]?=w.heap[k]?)->holds w'
def b9.e_(o:b9)(k:Nat):Prop:=o.A5=aj k\/o.more k
def aP(g:Nat)(cs:Array Value)(T:TypeId):b9:=
 ⟨aj g,λ_=>False,λw=>w.heap[g]?=aj (.cells cs T (0,0)),λw h k hk=>by simp only[dh,or_false]at hk;subst hk;exact(jx.1 h).1,
  λw w' h _ hb=>by rw[hb g (.inl I)];exact h⟩
def aZ(e:TypeId)(size:Nat)(v:Value)(n:Nat)(xs:List Value):b9:=
 ⟨v.ownBlock,λ_=>False,λw=>w.ownsRow 0 e size v n xs,λw h k hk=>(h.lt k (hk.elim id oE)).2,λw w' h _ hb=>by
  refine⟨h.1,?_⟩;rcases h.2 with hn|⟨g,cap,jZ,rfl,C8,hg,rest⟩
  exact .inl hn;exact .inr ⟨g,cap,jZ,rfl,C8,by rw[hb g (.inl I)];exact hg,rest⟩⟩
structure ez(p:Nat->Prop)(w:World)(L:List b9):Prop where
 all:∀(i:Nat) (o:b9),L[i]?=aj o->o.holds w/\∀k,o.e_ k->p k
 apart:∀(i j:Nat) (o o':b9),i≠j->L[i]?=aj o->L[j]?=aj o'->∀k,o.e_ k->¬o'.e_ k
abbrev nI(B:Nat)(w:World)(L:List b9):Prop:=ez (λk=>B<=k) w L
section
variable{p p':Nat->Prop}
theorem nI.nil(B:Nat)(w:World):nI B w []:=⟨λi o h=>by grind,λi j o o' _ h=>by simp⟩
theorem ez.nil(w:World):ez p w []:=⟨λi o h=>by grind,λi j o o' _ h=>by simp⟩
theorem ez.gr{w w':World}{L:List b9}(h:ez p w L)(hg:Gr w w'):ez p w' L:=
 ⟨λi o hi=>⟨o.stay w w' (h.all i o hi).1 hg.size λk hk=>hg.block k (o.lt w (h.all i o hi).1 k hk),(h.all i o hi).2⟩,h.apart⟩
theorem ez.mono{w:World}{L:List b9}(h:ez p w L)(hb:∀k,p k->p' k):ez p' w L:=
 ⟨λi o hi=>⟨(h.all i o hi).1,λk hk=>hb k ((h.all i o hi).2 k hk)⟩,h.apart⟩
theorem ez.one{w:World}{o:b9}(h:o.holds w)(hb:∀k,o.e_ k->p k):ez p w [o]:=
  ⟨λi o' hi=>by
    grind,
   λi j a b sE hi hj=>by
    grind⟩
theorem nI.one{B:Nat}{w:World}{o:b9}(h:o.holds w)(hb:∀k,o.A5=aj k->B<=k)(hmo:∀k,o.more k->B<=k:=by intro k hk;exact False.elim hk):nI B w [o]:=ez.one h λk hk=>hk.elim (hb k) (hmo k)
theorem ez.both{w:World}{L L':List b9}(h:ez p w L)(h':ez p w L')(ha:∀(i j:Nat) (o o':b9),L[i]?=aj o->L'[j]?=aj o'->∀k,o.e_ k->¬o'.e_ k):ez p w (L++L'):=by
 refine⟨λi o hi=>?_,λi j o o' sE hi hj=>?_⟩
 ·rw[Xq]at hi
  split at hi;exact h.all i o hi;exact h'.all _ o hi
 intro k hk lO;rw[Xq]at hi hj;split at hi<;>split at hj;exact h.apart i j o o' sE hi hj k hk lO;exact ha _ _ o o' hi hj k hk lO;exact ha _ _ o' o hj hi k lO hk;exact h'.apart (i-L.length) (j-L.length) o o' J hi hj k hk lO
theorem ez.pick{w:World}{L L':List b9}(h:ez p w L)(is:List Nat)(hn:is.Nodup)(hl:L'=is.filterMap λi=>L[i]?):ez p w L':=by
 subst hl
 induction is with
 |nil=>exact ez.nil _
 | cons i is ih=>
  rw[pw]at hn;have ih:=ih hn.2;have mem:∀j o,(is.filterMap λi=>L[i]?)[j]?=aj o->∃q∈is,L[q]?=aj o:=λj o hj=>by
   have:=mh hj;rw[List.mem_filterMap]at this;exact this
  cases e:L[i]? with
  |none=>simp_all
  | some o0=>
   rw[A0 e];refine⟨λj o hj=>?_,λj j' o o' sE hj sF=>?_⟩
   ·match j,hj with
    |0,hj=>simp only[px,dh]at hj;subst hj;exact h.all i _ e
    |j+1,hj=>exact ih.all j o (by simp_all)
   match j,j',hj,sF with
   |0,0,_,_=>omega
   | 0,j'+1,hj,sF=>
    simp only[px,dh]at hj;subst hj;obtain⟨q,hq,DU⟩:=mem j' o' (by simp_all);exact h.apart i q _ o' (λe=>hn.1 (e▸hq)) e DU
   | j+1,0,hj,sF=>
    simp only[px,dh]at sF;subst sF;obtain⟨q,hq,DU⟩:=mem j o (by simp_all);exact h.apart q i o _ (λe=>hn.1 (e▸hq)) DU e
   |j+1,j'+1,hj,sF=>exact ih.apart j j' o o' J (by simp_all) (by simp_all)
end
structure bL where
 w:World
 X:Nat->Prop
instance:Coe World bL:=⟨λw=>⟨w,λ_=>False⟩⟩
def bL.on(w:World)(L:List b9):bL:=⟨w,λk=>∃o∈L,o.e_ k⟩
def bL.may(W:bL)(k:Nat):Prop:=W.w.heap.size<=k\/W.X k
structure Ji(W:bL)(w:World):Prop where
 os:w.os=W.w.os
 tape:w.tape=W.w.tape
 output:w.output=W.w.output
 size:W.w.heap.size<=w.heap.size
 block:∀k,k<W.w.heap.size->¬W.X k->w.heap[k]?=W.w.heap[k]?
structure Mem(W:bL)(L:List b9)(w:World):Prop where
 low:Ji W w
 owns:ez W.may w L
theorem Mem.start(W:World):Mem W [] W:=⟨⟨rfl,rfl,rfl,bz _,λ_ _ _=>rfl⟩,ez.nil _⟩
theorem Ji.gr{W:bL}{w w':World}(h:Ji W w)(hg:Gr w w'):Ji W w':=
 ⟨hg.os.trans h.os,hg.tape.trans h.tape,hg.output.trans h.output,fI h.size hg.size,λk hk hx=>(hg.block k (iO hk h.size)).trans (h.block k hk hx)⟩
theorem Mem.below{W w:World}{L:List b9}(h:Mem W L w):Below W.heap.size W w:=⟨h.low.os,h.low.tape,h.low.output,h.low.size,λk hk=>h.low.block k hk id⟩
theorem Mem.ad'{W w:World}{L:List b9}(h:Mem W L w):nI W.heap.size w L:=h.owns.mono λ_ hk=>hk.elim id oE
section
variable{W:bL}
theorem Mem.gr{w w':World}{L:List b9}(h:Mem W L w)(hg:Gr w w'):Mem W L w':=⟨h.low.gr hg,h.owns.gr hg⟩
theorem Mem.drew{w:World}{L:List b9}(h:Mem W L w):Mem W L w.drew:=h.gr (Gr.drew w)
theorem iv(W:bL)(L:List b9):jK (Mem W L):=λ_ _ h k=>h.gr k
theorem Mem.pick{w:World}{L L':List b9}(h:Mem W L w)(is:List Nat)(hn:is.Nodup)(hl:L'=is.filterMap λi=>L[i]?):Mem W L' w:=⟨h.low,h.owns.pick is hn hl⟩
theorem Mem.append{w w':World}{L L':List b9}(h:Mem W L w)(hg:Gr w w')(h':nI w.heap.size w' L'):Mem W (L++L') w':=by
 have hsz:W.w.heap.size<=w.heap.size:=h.low.size;refine⟨h.low.gr hg,ez.both (h.owns.gr hg) (h'.mono λk hk=> .inl (fI hsz hk)) λi j o o' hi hj k hk lO=>?_⟩;have a1:=o.lt w (h.owns.all i o hi).1 k hk;have a2:w.heap.size<=k:=(h'.all _ o' hj).2 k lO;omega
theorem Mem.CH{w w':World}{L:List b9}(h:Mem W L w){i:Nat}{o o':b9}(hi:L[i]?=aj o)(hg:w.grownBy w' o.A5)(ho:o'.holds w')(hb:∀k,o'.A5=aj k->o.A5=aj k\/w.heap.size<=k)(hmo:∀k,o'.more k->o.e_ k:=by intro k hk;exact False.elim hk):Mem W (L.set i o') w':=by
 have hle:W.w.heap.size<=w.heap.size:=h.low.size;have hoB:=(h.owns.all i o hi).2;have hlen:i<L.length:=(dg.1 hi).1;have OJ:∀k,o'.e_ k->o.e_ k\/w.heap.size<=k:=λk hk=>hk.elim (λh=>(hb k h).imp .inl id) (λh=> .inl (hmo k h));refine⟨⟨hg.os.trans h.low.os,hg.tape.trans h.low.tape,hg.output.trans h.low.output,fI hle hg.size,λk hk hx=>?_⟩,?_,?_⟩
 ·rw[hg.block k (iO hk hle) λe=>(hoB k (.inl e.symm)).elim (λh=>by omega) hx]
  exact h.low.block k hk hx
 ·intro j q hj
  by_cases e:i=j
  ·subst e
   rw[nF hlen]at hj;simp only[dh]at hj;subst hj;exact⟨ho,λk hk=>(OJ k hk).elim (hoB k) (λh=> .inl (fI hle h))⟩
  rw[kZ e]at hj;have h1:=h.owns.all j q hj;refine⟨q.stay w w' h1.1 hg.size λk hk=>hg.block k (q.lt w h1.1 k hk) λe'=>?_,h1.2⟩;exact h.owns.apart i j o q e hi hj k (.inl e'.symm) hk
 intro j j' q q' sE hj sF k hk lO
 by_cases e:i=j
 ·subst e
  rw[nF hlen]at hj;rw[kZ sE]at sF;simp only[dh]at hj;subst hj;have h2:=(h.owns.all j' q' sF).1;rcases OJ k hk with h1|h1
  exact h.owns.apart i j' o q' sE hi sF k h1 lO;have:=q'.lt w h2 k lO;omega
 rw[kZ e]at hj;have h2:=(h.owns.all j q hj).1
 by_cases e':i=j'
 ·subst e'
  rw[nF hlen]at sF;simp only[dh]at sF;subst sF;rcases OJ k lO with h1|h1
  exact h.owns.apart i j o q e hi hj k h1 hk;have:=q.lt w h2 k hk;omega
 rw[kZ e']at sF;exact h.owns.apart j j' q q' sE hj sF k hk lO
theorem Mem.merge{w:World}{R:List b9}{o1 o2:b9}(o:b9)(h:Mem W ([o1,o2]++R) w)(hf:∀k,o.e_ k->o1.e_ k\/o2.e_ k)(hh:o1.holds w->o2.holds w->o.holds w):Mem W (R++[o]) w:=by
 have h1:=h.owns.all 0 o1 I;have h2:=h.owns.all 1 o2 I;refine⟨h.low,ez.both ⟨λi q hi=>h.owns.all (i+2) q (by simp_all),λi j q q' sE hi hj=>h.owns.apart (i+2) (j+2) q q' J (by simp_all) (by simp_all)⟩ (ez.one (hh h1.1 h2.1) λk hk=>(hf k hk).elim (h1.2 k) (h2.2 k)) ?_⟩;intro i j q q' hi hj k hk lO
 match j,hj with
 |0,hj=>
  simp only[px,dh]at hj;subst hj;have qw:([o1,o2]++R)[i+2]?=aj q:=by simp_all
  rcases hf k lO with h3|h3
  exact h.owns.apart 0 (i+2) o1 q J I qw k h3 hk;exact h.owns.apart 1 (i+2) o2 q J I qw k h3 hk
 |j+1,hj=>grind
theorem Mem.get{w:World}{L:List b9}(h:Mem W L w){i:Nat}{o:b9}(hi:L[i]?=aj o):o.holds w:=(h.owns.all i o hi).1
theorem Mem.over{w:World}{L:List b9}(h:Mem W L w):Mem (bL.on w L) L w:=
 ⟨⟨rfl,rfl,rfl,bz _,λ_ _ _=>rfl⟩,λi o hi=>⟨(h.owns.all i o hi).1,λ_ hk=> .inr ⟨o,mh hi,hk⟩⟩,h.owns.apart⟩
theorem Mem.back{w w':World}{L R O:List b9}(h:Mem W (L++R) w)(h':Mem (bL.on w L) O w'):Mem W (R++O) w':=by
 have hle:W.w.heap.size<=w.heap.size:=h.low.size;have hL:∀o∈L,∀k,o.e_ k->W.may k:=λo ho k hk=>by
  obtain⟨i,hi⟩:=uC ho;exact(h.owns.all i o (by grind)).2 k hk
 have hR:∀(i:Nat) (o:b9),R[i]?=aj o->o.holds w/\(∀k,o.e_ k->W.may k)/\∀k,o.e_ k->k<w.heap.size/\¬(bL.on w L).X k:=λi o hi=>by
  have qw:(L++R)[L.length+i]?=aj o:=by grind
  have h1:=h.owns.all _ o qw;refine⟨h1.1,h1.2,λk hk=>⟨o.lt w h1.1 k hk,?_⟩⟩;rintro⟨q,hq,hqk⟩;obtain⟨j,hj⟩:=uC hq;have hjl:=(dg.1 hj).1;exact h.owns.apart j (L.length+i) q o J (by grind) qw k hqk hk
 refine⟨⟨h'.low.os.trans h.low.os,h'.low.tape.trans h.low.tape,h'.low.output.trans h.low.output,fI hle h'.low.size,λk hk hx=>?_⟩,ez.both ⟨λi o hi=>?_,?_⟩ ?_ ?_⟩
 ·rw[h'.low.block k (iO hk hle) ?_]
  exact h.low.block k hk hx;rintro⟨o,ho,lT⟩;exact(hL o ho k lT).elim (λh=>by omega) hx
 ·obtain⟨h1,h2,h3⟩:=hR i o hi
  exact⟨o.stay w w' h1 h'.low.size λk hk=>h'.low.block k (h3 k hk).1 (h3 k hk).2,h2⟩
 ·intro i j o o' sE hi hj
  exact h.owns.apart (L.length+i) (L.length+j) o o' J (by grind) (by grind)
 exact h'.owns.mono λk hk=>hk.elim (λh1=> .inl (fI hle h1)) λ⟨o,ho,lT⟩=>hL o ho k lT;intro i j o o' hi hj k hk lO;obtain⟨h1,h2,h3⟩:=hR i o hi;rcases(h'.owns.all j o' hj).2 k lO with h4|h4
 ·have h4:w.heap.size<=k:=h4
  grind
 simp_all
end
theorem Mem.cell{W w:World}{L:List b9}(h:Mem W L w){p:Addr}{v:Value}(hp:W.cell? p=aj v):w.cell? p=aj v:=by
 rw[h.below.cell (oF W p hp)];exact hp
structure qx(W0:World)(W:bL):Prop where
 below:Below W0.heap.size W0 W.w
 free:∀k,k<W0.heap.size->¬W.X k
theorem qx.self(W:World):qx W W:=⟨Below.refl _ _,λ_ _=>id⟩
theorem qx.mem{W0:World}{W:bL}(ho:qx W0 W){L:List b9}{w:World}(h:Mem W L w):Below W0.heap.size W0 w:=
 ⟨h.low.os.trans ho.below.os,h.low.tape.trans ho.below.tape,h.low.output.trans ho.below.output,fI ho.below.size h.low.size,λk hk=>(h.low.block k (iO hk ho.below.size) (ho.free k hk)).trans (ho.below.block k hk)⟩
theorem qx.cell{W0:World}{W:bL}(ho:qx W0 W){L:List b9}{w:World}(h:Mem W L w){p:Addr}{v:Value}(hp:W0.cell? p=aj v):w.cell? p=aj v:=by
 rw[(ho.mem h).cell (oF W0 p hp)];exact hp
theorem qx.on{W0:World}{W:bL}(ho:qx W0 W){L L':List b9}{w:World}(h:Mem W L w)(hs:∀o∈L',o∈L):qx W0 (bL.on w L'):=
 ⟨ho.mem h,λk hk ⟨o,hm,hb⟩=>by
  obtain⟨i,hi⟩:=uC (hs o hm);rcases(h.owns.all i o hi).2 k hb with h1|h1
  ·have:=ho.below.size
   omega
  exact ho.free k hk h1⟩
end bZ
namespace bZ
open Go.RowKit cK dS
structure T(P:Program)(n:Nat)(W:bL)(c:Code)(Q:Exit->Act->World->Prop)(fr:Fr)(L:List b9):Prop where
 go:∀a w,nH n a fr->Mem W L w->c.wp P Q a w
structure E(n:Nat)(W:bL)(e:Exit)(Q:Exit->Act->World->Prop)(fr:Fr)(L:List b9):Prop where
 go:∀a w,nH n a fr->Mem W L w->Q e a w
structure TL(P:Program)(n:Nat)(W:bL)(ops:Array Oper)(Q:Exit->Act->World->Prop)(l:List Oper)(fr:Fr)(L:List b9):Prop where
 go:∀a w,nH n a fr->Mem W L w->wpList P ops Q l a w
structure TM(P:Program)(n:Nat)(W:bL)(ops:Array Oper)(Q:Exit->Act->World->Prop)(K:Act->World->Prop)(ks:List Bool)(l:List Oper)(fr:Fr)(L:List b9):Prop where
 go:∀a,nH n a fr->Uq P ops Q K ks l a (Mem W L)
structure RR(P:Program)(n:Nat)(W:bL)(o:Oper)(fr:Fr)(L:List b9)(v:Value):Prop where
 go:∀a w,nH n a fr->Mem W L w->(execOp a.eval o).run P w= .ok (.value v) w
structure Spec(ι:Type) where
 ok:ι->Prop
 val:ι->Value
 own:ι->List b9
def bY{ι:Type}(S:Spec ι)(w:World)(e:Ending)(w':World):Prop:=∃x,S.ok x/\e= .returned (S.val x)/\Gr w w'/\nI w.heap.size w' (S.own x)
def ret(v:Value):Spec Unit:=⟨λ_=>True,λ_=>v,λ_=>[]⟩
theorem Us{v:Value}{w w':World}{e:Ending}(h:e= .returned v)(hg:Gr w w'):bY (ret v) w e w':=⟨(),trivial,h,hg,nI.nil _ _⟩
theorem DV{v:Value}{w w':World}{e:Ending}(h:bY (ret v) w e w'):e= .returned v/\Gr w w':=let ⟨_,_,h1,h2,_⟩:=h;⟨h1,h2⟩
section
variable{P:Program}{n:Nat}{W:bL}{Q:Exit->Act->World->Prop}{fr:Fr}{L:List b9}
theorem bW{x y:Code}(h:T P n W x (Exit.then (y.wp P Q) Q) fr L):T P n W (x.seq y) Q fr L:= .mk λa w hr hm=>wp_seq (h.go a w hr hm)
theorem nJ(h:E n W .normal Q fr L):T P n W .skip Q fr L:= .mk λa w hr hm=>wp_skip (h.go a w hr hm)
theorem mT{id:Nat}(h:E n W (.exit id) Q fr L):T P n W (.exit id) Q fr L:= .mk λa w hr hm=>wp_exit (h.go a w hr hm)
theorem zl(h:E n W .ret Q fr L):T P n W .ret Q fr L:= .mk λa w hr hm=>wp_ret (h.go a w hr hm)
theorem lG{id:Nat}{c:Code}(h:T P n W c (uy id Q) fr L):T P n W (.block id c) Q fr L:= .mk λa w hr hm=>wp_block (h.go a w hr hm)
theorem Jj{c:Operand}{x y:Code}(hc:ev fr c=aj (.bool aC))(h:T P n W x Q fr L):T P n W (.cond c x y) Q fr L:= .mk λa w hr hm=>wp_cond_true (hr.ev hc) (h.go a w hr hm)
theorem Jk{c:Operand}{x y:Code}(hc:ev fr c=aj (.bool aE))(h:T P n W y Q fr L):T P n W (.cond c x y) Q fr L:= .mk λa w hr hm=>wp_cond_false (hr.ev hc) (h.go a w hr hm)
theorem aeP{c:Code}{L':List b9}(is:List Nat)(hn:is.Nodup)(hl:L'=is.filterMap λi=>L[i]?)(h:T P n W c Q fr L'):T P n W c Q fr L:= .mk λa w hr hm=>h.go a w hr (hm.pick is hn hl)
theorem aeQ{e:Exit}{L':List b9}(is:List Nat)(hn:is.Nodup)(hl:L'=is.filterMap λi=>L[i]?)(h:E n W e Q fr L'):E n W e Q fr L:= .mk λa w hr hm=>h.go a w hr (hm.pick is hn hl)
theorem jA{y:Code}(h:T P n W y Q fr L):E n W .normal (Exit.then (y.wp P Q) Q) fr L:=⟨h.go⟩
theorem kP{id:Nat}{K:Act->World->Prop}(h:E n W (.exit id) Q fr L):E n W (.exit id) (Exit.then K Q) fr L:=⟨h.go⟩
theorem ke{K:Act->World->Prop}(h:E n W .ret Q fr L):E n W .ret (Exit.then K Q) fr L:=⟨h.go⟩
theorem jL{id:Nat}(h:E n W .normal Q fr L):E n W .normal (uy id Q) fr L:=⟨h.go⟩
theorem jM{id:Nat}(h:E n W .ret Q fr L):E n W .ret (uy id Q) fr L:=⟨h.go⟩
theorem iQ{id:Nat}(h:E n W .normal Q fr L):E n W (.exit id) (uy id Q) fr L:= .mk λa w hr hm=>by
 show(if id=id then Q .normal a w else Q (.exit id) a w)
 rw[if_pos I];exact h.go a w hr hm
theorem jn{id id':Nat}(hne:fW id' id=aE)(h:E n W (.exit id') Q fr L):E n W (.exit id') (uy id Q) fr L:= .mk λa w hr hm=>by
 show(if id'=id then Q .normal a w else Q (.exit id') a w)
 rw[if_neg (Jg hne)];exact h.go a w hr hm
def Rnd{ι:Type}(n:Nat)(W:bL)(ah:ι->Prop)(F:ι->Fr)(M:ι->List b9)(μ:ι->Nat)(x:ι)(a:Act)(w:World):Prop:=∃x',ah x'/\μ x'<μ x/\nH n a (F x')/\Mem W (M x') w
def Mid{ι:Type}(n:Nat)(W:bL)(ah:ι->Prop)(F:ι->Fr)(M:ι->List b9)(a:Act)(w:World):Prop:=∃i,ah i/\nH n a (F i)/\Mem W (M i) w
theorem XC{x y:Code}{ι:Type}(ah:ι->Prop)(F:ι->Fr)(M:ι->List b9)
 (hx:T P n W x (Exit.then (Mid n W ah F M) Q) fr L) (hy:∀i,ah i->T P n W y Q (F i) (M i)):T P n W (x.seq y) Q fr L:= .mk λa w hr hm=>
 wp_seq (wp_mono (hx.go a w hr hm) λe a w h=>by
  cases e with
  |normal=>obtain⟨i,h1,h2,h3⟩:=h;exact(hy i h1).go a w h2 h3
  |_=>exact h)
theorem ee{ι:Type}{ah:ι->Prop}{F:ι->Fr}{M:ι->List b9}(i:ι)(hi:ah i)(hf:LG (F i) fr)(hl:L=M i):E n W .normal (Exit.then (Mid n W ah F M) Q) fr L:=
 ⟨λ_ _ hr hm=>⟨i,hi,hr.sub hf,hl▸hm⟩⟩
theorem mq{c:Code}{ι:Type}(ah:ι->Prop)(F:ι->Fr)(M:ι->List b9)(μ:ι->Nat)(x0:ι)(h0:ah x0)(hf:LG (F x0) fr)(hl:L=M x0)
 (round:∀x,ah x->T P n W c (Exit.then (Rnd n W ah F M μ x) Q) (F x) (M x)):T P n W (.loop c) Q fr L:=by
 refine⟨λa w hr hm=>?_⟩;refine wp_loop_ghost (λk a w=>∃x,μ x=k/\ah x/\nH n a (F x)/\Mem W (M x) w) (μ x0) ⟨x0,rfl,h0,hr.sub hf,hl▸hm⟩ ?_;rintro k a w ⟨x,rfl,hi,hr,hm⟩;refine wp_mono ((round x hi).go a w hr hm) λe a w h=>?_
 cases e with
 |normal=>obtain⟨x',h1,h2,h3,h4⟩:=h;exact⟨μ x',h2,x',rfl,h1,h3,h4⟩
 |_=>exact h
theorem jH{ι:Type}{ah:ι->Prop}{F:ι->Fr}{M:ι->List b9}{μ:ι->Nat}{x:ι}(x':ι)(hi:ah x')(hμ:μ x'<μ x)(hf:LG (F x') fr)(hl:L=M x'):
 E n W .normal (Exit.then (Rnd n W ah F M μ x) Q) fr L:=
 ⟨λ_ _ hr hm=>⟨x',hi,hμ,hr.sub hf,hl▸hm⟩⟩
theorem B1{fn:Func}{R:Ending->World->Prop}(h:∀a w,nH n a fr->Mem W L w->∃v,(results fn a.tmps).run P w= .ok v w/\R (.returned v) w):E n W .ret (bodyPost P fn R) fr L:=
 ⟨λa w hr hm=>⟨hr.defers,h a w hr hm⟩⟩
theorem cO{fn:Func}{R:Ending->World->Prop}{t:Tmp}{v:Value}(mO:fn.results=#[.tmp t])(hv:look fr t=aj v)(h:∀w,Mem W L w->R (.returned v) w):E n W .ret (bodyPost P fn R) fr L:=
 B1 λa w hr hm=>⟨v,by simp[results,mO,x7,hr.get t v hv],h w hm⟩
theorem sS{fn:Func}{R:Ending->World->Prop}{t u:Tmp}{v z:Value}(mO:fn.results=#[.tmp t,.tmp u])(hv:look fr t=aj v)(hz:look fr u=aj z)(h:∀w,Mem W L w->R (.returned (.tuple #[v,z])) w):E n W .ret (bodyPost P fn R) fr L:=
 B1 λa w hr hm=>⟨_,by simp[results,mO,x7,hr.get t v hv,hr.get u z hz],h w hm⟩
theorem mU{fn:Func}{R:Ending->World->Prop}{t u s:Tmp}{v z y:Value}(mO:fn.results=#[.tmp t,.tmp u,.tmp s])(hv:look fr t=aj v)(hz:look fr u=aj z)(hy:look fr s=aj y)(h:∀w,Mem W L w->R (.returned (.tuple #[v,z,y])) w):E n W .ret (bodyPost P fn R) fr L:=
 B1 λa w hr hm=>⟨_,by simp[results,mO,x7,hr.get t v hv,hr.get u z hz,hr.get s y hy],h w hm⟩
theorem Mem.meets{ι:Type}{S:Spec ι}{W w:World}(x:ι)(hm:Mem W L w)(hx:S.ok x)(is:List Nat)(hn:is.Nodup)(hl:S.own x=is.filterMap λi=>L[i]?):bY S W (.returned (S.val x)) w:=
 ⟨x,hx,rfl,hm.below,hm.ad'.pick is hn hl⟩
theorem Mem.ret{v:Value}{W w:World}(hm:Mem W L w):bY (ret v) W (.returned v) w:=⟨(),trivial,rfl,hm.below,nI.nil _ _⟩
theorem dH{fn:Func}{W:World}{t:Tmp}{v v0:Value}(mO:fn.results=#[.tmp t])(hv:look fr t=aj v)(h:v=v0):E n W .ret (bodyPost P fn (bY (ret v0) W)) fr L:=by
 subst h;exact cO mO hv λw hm=>hm.ret
theorem Jl{fn:Func}{W:World}{t u s:Tmp}{v z y v0:Value}(mO:fn.results=#[.tmp t,.tmp u,.tmp s])(hv:look fr t=aj v)(hz:look fr u=aj z)(hy:look fr s=aj y)(h: .tuple #[v,z,y]=v0):E n W .ret (bodyPost P fn (bY (ret v0) W)) fr L:=by
 subst h;exact mU mO hv hz hy λw hm=>hm.ret
def zm:Nat->List Value->Fr
 |_,[]=>[]
 |k,v::r=>(k,v)::zm (k+1) r
theorem sT:∀(vs:List Value) (k i:Nat) (v:Value),look (zm k vs) i=aj v->k<=i/\vs[i-k]?=aj v
 |[],_,_,_,h=>by cases h
 | u ::r,k,i,v,h=>by
  unfold zm look at h
  cases e:fW k i
  ·rw[e]at h
   have hne:=Jg e;obtain⟨h1,h2⟩:=sT r (k+1) i v h;refine⟨by omega,?_⟩;rw[show i-k=(i-(k+1))+1 by omega,DK];exact h2
  simp_all
theorem enter{w:World}{f:FuncId}{fn:Func}{c:Code}{args:List Value}{R:Ending->World->Prop}(hf:P.funcs[f]?=aj fn)(hb:fn.body=aj c)(hn:fn.ntmps=n)(hle:yg args.length n=aC)
 (h:T P n w c (bodyPost P fn R) (zm 0 args) []):Calls P f args.toArray w R:=by
 have aeR:args.length<=n:=k8 hle;refine calls_of_wp hf hb (h.go _ w ⟨?_,rfl,λi v hi=>?_⟩ (Mem.start w))
 simp_all
 ·obtain⟨_,h2⟩:=sT args 0 i v hi
  grind
theorem dB{B:bL}{w:World}{f:FuncId}{fn:Func}{c:Code}{args:List Value}{R:Ending->World->Prop}(hm:Mem B L w)(hf:P.funcs[f]?=aj fn)(hb:fn.body=aj c)(hn:fn.ntmps=n)(hle:yg args.length n=aC)
 (h:T P n B c (bodyPost P fn R) (zm 0 args) L):Calls P f args.toArray w R:=by
 have aeR:args.length<=n:=k8 hle;refine calls_of_wp hf hb (h.go _ w ⟨?_,rfl,λi v hi=>?_⟩ hm)
 simp_all
 ·obtain⟨_,h2⟩:=sT args 0 i v hi
  grind
section
variable{ops:Array Oper}{K:Act->World->Prop}{ks:List Bool}{o:Oper}{rest:List Oper}{v:Value}{d:Nat}
theorem bB{id:Nat}{l:List Oper}(h:TL P n W l.toArray Q l fr L):T P n W (.region id l.toArray aE) Q fr L:= .mk λa w hr hm=>wp_region_lit (h.go a w hr hm)
theorem jg(h:E n W .normal Q fr L):TL P n W ops Q [] fr L:= .mk λa w hr hm=>wpList_nil (h.go a w hr hm)
theorem oc{a:Act}(hg:o.guard=ak):kY o (yielded ops a.tmps)=true:=by simp[kY,hg]
theorem pz{a:Act}{j e:Nat}{b:Bool}(hr:nH n a fr)(hg:o.guard=aj (j,b))(hj:(ops[j]?).bind (·.dst)=aj e)(hl:look fr e=aj (.bool b)):kY o (yielded ops a.tmps)=true:=by
 simp[kY,hg,hr.yield hj hl]
def abO(b:Bool):Value->Bool
 | .bool c=>c !=b
 |_=>aC
theorem Hx{a:Act}{j e:Nat}{b:Bool}{u:Value}(hr:nH n a fr)(hg:o.guard=aj (j,b))(hj:(ops[j]?).bind (·.dst)=aj e)(hl:look fr e=aj u)(hu:abO b u=aC):kY o (yielded ops a.tmps)=false:=by
 simp only[kY,hg,hr.yield hj hl]
 cases u<;>first|rfl|(rename_i c;cases c<;>cases b<;>first|rfl|cases hu)
theorem dx(hr:RR P n W o fr L v)(hg:o.guard=ak)(hd:o.dst=aj d)(hn:dj d n=aC)(h:TL P n W ops Q rest ((d,v)::fr) L):TL P n W ops Q (o::rest) fr L:= .mk λa w h_ hm=>
 wpList_plain hg λK hK=>by
  unfold gj;rw[hr.go a w h_ hm,Xg,hd];exact hK _ _ (h.go _ w (h_.put hn v) hm)
theorem SA{j e:Nat}{b:Bool}(hr:RR P n W o fr L v)(hg:o.guard=aj (j,b))(hj:(ops[j]?).bind (·.dst)=aj e)(hl:look fr e=aj (.bool b))(hd:o.dst=aj d)(hn:dj d n=aC)(h:TL P n W ops Q rest ((d,v)::fr) L):TL P n W ops Q (o::rest) fr L:= .mk λa w h_ hm=>
 WZ (pz h_ hg hj hl) λK hK=>by
  unfold gj;rw[hr.go a w h_ hm,Xg,hd];exact hK _ _ (h.go _ w (h_.put hn v) hm)
theorem abP{j e:Nat}{b:Bool}{u:Value}(hg:o.guard=aj (j,b))(hj:(ops[j]?).bind (·.dst)=aj e)(hl:look fr e=aj u)(hu:abO b u=aC)(hd:o.dst=aj d)(hn:dj d n=aC)(h:TL P n W ops Q rest ((d,undef)::fr) L):TL P n W ops Q (o::rest) fr L:= .mk λa w h_ hm=>
 wpList_skip (Hx h_ hg hj hl hu) (by rw[hd];exact h.go _ w (h_.put hn undef) hm)
theorem uL{p:Prop}{inst:Decidable p}(hr:RR P n W o fr L (.bool (decide p)))(hg:o.guard=ak)(hd:o.dst=aj d)(hn:dj d n=aC)(ht:p->TL P n W ops Q rest ((d,.bool aC)::fr) L)(hf:¬p->TL P n W ops Q rest ((d,.bool aE)::fr) L):TL P n W ops Q (o::rest) fr L:=by
 by_cases h:p
 grind[dx];exact dx (by rwa [decide_eq_false h]at hr) hg hd hn (hf h)
theorem pA{p:Prop}{inst:Decidable p}{j e:Nat}{b:Bool}(hr:RR P n W o fr L (.bool (decide p)))(hg:o.guard=aj (j,b))(hj:(ops[j]?).bind (·.dst)=aj e)(hl:look fr e=aj (.bool b))(hd:o.dst=aj d)(hn:dj d n=aC)(ht:p->TL P n W ops Q rest ((d,.bool aC)::fr) L)(hf:¬p->TL P n W ops Q rest ((d,.bool aE)::fr) L):TL P n W ops Q (o::rest) fr L:=by
 by_cases h:p
 grind[SA];exact SA (by rwa [decide_eq_false h]at hr) hg hj hl hd hn (hf h)
theorem nH.abQ{a:Act}{e:Nat}{v:Value}(h:nH n a fr)(hl:look fr e=aj v):nH n a ((e,v)::fr):=⟨h.size,h.defers,λi u hi=>by
 unfold look at hi
 cases c:fW e i
 rw[c]at hi;exact h.get i u hi;rw[c]at hi;obtain rfl:e=i:=mj c;simp only[cond_true,dh]at hi;subst hi;exact h.get e v hl⟩
theorem A6{j e:Nat}{b0 b:Bool}(_:o.guard=aj (j,b0))(_:(ops[j]?).bind (·.dst)=aj e)(hl:look fr e=aj (.bool b))(ht:b=aC->TL P n W ops Q (o::rest) ((e,.bool aC)::fr) L)(hf:b=aE->TL P n W ops Q (o::rest) ((e,.bool aE)::fr) L):TL P n W ops Q (o::rest) fr L:= .mk λa w hr hm=>by
 cases b
 exact(hf I).go a w (hr.abQ hl) hm;exact(ht I).go a w (hr.abQ hl) hm
theorem Pn{j e:Nat}{b0:Bool}(_:o.guard=aj (j,b0))(_:(ops[j]?).bind (·.dst)=aj e)(_:look fr e=aj (.bool aC))(h:TL P n W ops Q (o::rest) fr L):TL P n W ops Q (o::rest) fr L:=h
theorem Po{j e:Nat}{b0:Bool}(_:o.guard=aj (j,b0))(_:(ops[j]?).bind (·.dst)=aj e)(_:look fr e=aj (.bool aE))(h:TL P n W ops Q (o::rest) fr L):TL P n W ops Q (o::rest) fr L:=h
theorem SB{c:Tmp}{x y:Code}{b:Bool}(hl:look fr c=aj (.bool b))(ht:b=aC->T P n W x Q ((c,.bool aC)::fr) L)(hf:b=aE->T P n W y Q ((c,.bool aE)::fr) L):T P n W (.cond (.tmp c) x y) Q fr L:= .mk λa w hr hm=>by
 cases b
 exact wp_cond_false (hr.ev (x:= .tmp c) hl) ((hf I).go a w (hr.abQ hl) hm);exact wp_cond_true (hr.ev (x:= .tmp c) hl) ((ht I).go a w (hr.abQ hl) hm)
theorem aV{f:FuncId}{args:Array Value}{ι:Type}{S:Spec ι}(he:∀a w,nH n a fr->(execOp a.eval o).run P w= .ok (.enter f args) w)(hc:∀w,Mem W L w->Calls P f args w (bY S w))(hg:o.guard=ak)(hd:o.dst=aj d)(hn:dj d n=aC)
 (h:∀x,S.ok x->TL P n W ops Q rest ((d,S.val x)::fr) (L++S.own x)):TL P n W ops Q (o::rest) fr L:= .mk λa w h_ hm=>
 wpList_plain hg λK hK=>by
  unfold gj;rw[he a w h_,O2];refine(hc w hm).mono λe w' ⟨x,h1,h2,h3,h4⟩=>?_;subst h2;simp only[hd];exact hK _ _ ((h x h1).go _ w' (h_.put hn _) (hm.append h3 h4))
theorem mV{f:FuncId}{args:Array Value}{ι:Type}{S:Spec ι}{j e:Nat}{b:Bool}(he:∀a w,nH n a fr->(execOp a.eval o).run P w= .ok (.enter f args) w)(hc:∀w,Mem W L w->Calls P f args w (bY S w))(hg:o.guard=aj (j,b))(hj:(ops[j]?).bind (·.dst)=aj e)(hl:look fr e=aj (.bool b))(hd:o.dst=aj d)(hn:dj d n=aC)
 (h:∀x,S.ok x->TL P n W ops Q rest ((d,S.val x)::fr) (L++S.own x)):TL P n W ops Q (o::rest) fr L:= .mk λa w h_ hm=>
 WZ (pz h_ hg hj hl) λK hK=>by
  unfold gj;rw[he a w h_,O2];refine(hc w hm).mono λe w' ⟨x,h1,h2,h3,h4⟩=>?_;subst h2;simp only[hd];exact hK _ _ ((h x h1).go _ w' (h_.put hn _) (hm.append h3 h4))
def da{ι:Type}(S:Spec ι)(B:bL)(e:Ending)(w':World):Prop:=∃x,S.ok x/\e= .returned (S.val x)/\Mem B (S.own x) w'
theorem Mem.cC{ι:Type}{S:Spec ι}{w:World}(x:ι)(hm:Mem W L w)(hx:S.ok x)(is:List Nat)(hn:is.Nodup)(hl:S.own x=is.filterMap λi=>L[i]?):da S W (.returned (S.val x)) w:=
 ⟨x,hx,rfl,hm.pick is hn hl⟩
theorem yl{is js:List Nat}{Lx R:List b9}(hlx:Lx=is.filterMap λi=>L[i]?)(Pp:R=js.filterMap λi=>L[i]?):Lx++R=(is++js).filterMap λi=>L[i]?:=by
 simp_all
theorem bx{f:FuncId}{args:Array Value}{ι:Type}{S:Spec ι}(is js:List Nat){Lx R:List b9}(hn2:(is++js).Nodup)(hlx:Lx=is.filterMap λi=>L[i]?)(Pp:R=js.filterMap λi=>L[i]?)
 (he:∀a w,nH n a fr->(execOp a.eval o).run P w= .ok (.enter f args) w) (hc:∀w,Mem W L w->Mem (bL.on w Lx) Lx w->Calls P f args w (da S (bL.on w Lx))) (hg:o.guard=ak) (hd:o.dst=aj d) (hn:dj d n=aC)
 (h:∀x,S.ok x->TL P n W ops Q rest ((d,S.val x)::fr) (R++S.own x)):TL P n W ops Q (o::rest) fr L:= .mk λa w h_ hm=>
 wpList_plain hg λK hK=>by
  have XD:Mem W (Lx++R) w:=hm.pick (is++js) hn2 (yl hlx Pp);have hm3:Mem W Lx w:=hm.pick is (DN.1 hn2).1 hlx;unfold gj;rw[he a w h_,O2];refine(hc w hm hm3.over).mono λe w' ⟨x,h1,h2,h3⟩=>?_;subst h2;simp only[hd];exact hK _ _ ((h x h1).go _ w' (h_.put hn _) (XD.back h3))
theorem lg(hg:o.guard=ak)(h:∀a w,nH n a fr->Mem W L w->∀K:Act->World->Prop,(∀a w,wpList P ops Q rest a w->K a w)->o.wp P a w K Q):TL P n W ops Q (o::rest) fr L:= .mk λa w h_ hm=>
 wpList_plain hg λK hK=>h a w h_ hm K hK
theorem XE{id:Nat}{l:List Oper}(k:Nat)(ks:List Bool)(hk:ks.length=k)(hm:P.follows .mixedOrders=aC)(hB:abN .any l.toArray ks=aC)
 (hQ:∀c a d v w,Q (.panic c) (q8 a d v) w->Q (.panic c) a w)
 (h:TM P n W l.toArray Q (λa' w'=>wpList P l.toArray Q (l.drop k) a' w') ks (l.take k) fr L):T P n W (.region id l.toArray aC) Q fr L:= .mk λa _ hr sU=>
 dS.dS k ks hk hm hB (λc a d v w=>hQ c a d v w) (Mem W L) (iv W L) sU.drew (h.go a hr)
theorem XF{l:List Oper}(h:TL P n W ops Q l fr L):TM P n W ops Q (λa' w'=>wpList P ops Q l a' w') [] [] fr L:= .mk λa hr=>Sz λw hw=>h.go a w hr hw
theorem aeS(hr:RR P n W o fr L v)(hg:o.guard=ak)(hd:o.dst=aj d)(hn:dj d n=aC)(h:TM P n W ops Q K ks rest ((d,v)::fr) L):TM P n W ops Q K (true::ks) (o::rest) fr L:= .mk λa h_=>
 Sy (oc hg) (λw hS=>hr.go a w h_ hS) (by rw[hd];exact h.go _ (h_.put hn v))
theorem C9{q e:Nat}{b:Bool}(hg:o.guard=aj (q,b))(hj:(ops[q]?).bind (·.dst)=aj e)(hl:look fr e=aj (.bool b))(h:TL P n W ops Q ({o with guard:=ak}::rest) fr L):TL P n W ops Q (o::rest) fr L:= .mk λa w hr hm=>by
 have h1:=h.go a w hr hm;unfold wpList at h1⊢;rw[if_pos (oc I)]at h1;rw[if_pos (pz hr hg hj hl)];exact h1
theorem gG(hg:o.guard=ak)(hr:RR P n W o fr L v)(hd:o.dst=aj d)(hn:dj d n=aC)(h:TM P n W ops Q K ks rest ((d,v)::fr) L):TM P n W ops Q K (true::ks) (o::rest) fr L:=aeS hr hg hd hn h
end
end
end bZ
namespace bZ
open Go.RowKit cK dS
def str(l:List UInt8):Value:= .string ⟨l.toArray⟩
theorem XG(s:ByteArray):Value.string s=str s.data.toList:=by rfl
structure Ty(P:Program)(t:TypeId)(agg:Bool)(c:Nat):Prop where
 agg:∀w,(isAgg t).run P w= .ok agg w
 size:∀w,(sizeOf t).run P w= .ok c w
def tyB(P:Program)(t:TypeId)(agg:Bool)(c:Nat):Bool:=
 (match P.underlying t with|some (.struct _)=>agg|some (.array _ _)=>agg|some _=>!agg|none=>aE)&&(match P.info? t with|some i=>fW i.size c|none=>aE)
theorem Ty.of{P:Program}{t:TypeId}{agg:Bool}{c:Nat}(h:tyB P t agg c=aC):Ty P t agg c:=by
 unfold tyB at h;rw[eX]at h;obtain⟨h1,h2⟩:=h;refine⟨λw=>?_,λw=>?_⟩
 ·cases e:P.underlying t with
  |none=>simp_all
  |some d=>
   rw[e]at h1
   cases agg<;>cases d<;>simp_all[isAgg,run_underlying]
 cases e:P.info? t with
 |none=>simp_all
 |some i=>
  simp_all[sizeOf,typeInfo]
section
variable{P:Program}{n:Nat}{W:bL}{fr:Fr}{L:List b9}{dst:Option Tmp}{ty:TypeId}{pos:String}{after:Array Edge}{guard:Option (Nat×Bool)}
theorem wW{x:Operand}{v:Value}(hx:ev fr x=aj v):RR P n W ⟨dst,.move x,ty,pos,after,guard⟩ fr L v:= .mk λa w hr _=>by
 show O_ (Xe (a.eval x)) w=_;rw[hr.ev hx]
theorem Ut{x:Operand}{v:Value}(hx:ev fr x=aj v):RR P n W ⟨dst,.assign x,ty,pos,after,guard⟩ fr L v:= .mk λa w hr _=>by
 show O_ (Xe (a.eval x)) w=_;rw[hr.ev hx]
theorem XH{c x y:Operand}{v:Value}(hc:ev fr c=aj (.bool aC))(hx:ev fr x=aj v):RR P n W ⟨dst,.pick c x y,ty,pos,after,guard⟩ fr L v:= .mk λa w hr _=>by
 simp[execOp,hr.ev hc,hr.ev hx,asBool]
theorem XI{c x y:Operand}{v:Value}(hc:ev fr c=aj (.bool aE))(hy:ev fr y=aj v):RR P n W ⟨dst,.pick c x y,ty,pos,after,guard⟩ fr L v:= .mk λa w hr _=>by
 simp[execOp,hr.ev hc,hr.ev hy,asBool]
theorem Pq{t:Operand}{i:Nat}{vs:Array Value}{v:Value}(ht:ev fr t=aj (.tuple vs))(hv:vs[i]?=aj v):RR P n W ⟨dst,.extract t i,ty,pos,after,guard⟩ fr L v:= .mk λa w hr _=>by
 simp[execOp,hr.ev ht,Instr.extract,hv]
section
variable{t u:TypeId}{x y:Operand}{k:IntKind}{m m':Int}
theorem mW{op:BinOp}{v:Value}(hx:ev fr x=aj (.int k m))(hy:ev fr y=aj (.int k m'))(h:∀w,(binOp op t (.int k m) (.int k m')).run P w= .ok v w):RR P n W ⟨dst,.binOp op t x y u,ty,pos,after,guard⟩ fr L v:= .mk λa w hr _=>by
 have e:(eqGuard op t x y (.int k m) (.int k m')).run P w= .ok () w:=by
  simp[eqGuard]
 simp[execOp,hr.ev hx,hr.ev hy,e,h]
theorem aeT(hx:ev fr x=aj (.int k m))(hy:ev fr y=aj (.int k m')):RR P n W ⟨dst,.binOp .add t x y u,ty,pos,after,guard⟩ fr L (.int k (k.wrap (m+m'))):=mW hx hy λw=>by simp[binOp,O1]
theorem aeU(hx:ev fr x=aj (.int k m))(hy:ev fr y=aj (.int k m')):RR P n W ⟨dst,.binOp .sub t x y u,ty,pos,after,guard⟩ fr L (.int k (k.wrap (m-m'))):=mW hx hy λw=>by simp[binOp,O1]
theorem aeV(hx:ev fr x=aj (.int k m))(hy:ev fr y=aj (.int k m')):RR P n W ⟨dst,.binOp .mul t x y u,ty,pos,after,guard⟩ fr L (.int k (k.wrap (m*m'))):=mW hx hy λw=>by simp[binOp,O1]
theorem n0{r:Int}(h0: -9223372036854775808<=r)(h1:r<=9223372036854775807):az.wrap r=r:=IntWalk.i64_in _ J
theorem dW{r:Int}(hx:ev fr x=aj (av az m))(hy:ev fr y=aj (av az m'))(h0: -9223372036854775808<=m+m')(h1:m+m'<=9223372036854775807)(hr:m+m'=r):RR P n W ⟨dst,.binOp .add t x y u,ty,pos,after,guard⟩ fr L (av az r):=by
 have:=aeT (P:=P) (n:=n) (W:=W) (L:=L) (dst:=dst) (ty:=ty) (pos:=pos) (after:=after) (guard:=guard) (t:=t) (u:=u) hx hy;rwa [n0 h0 h1,hr]at this
theorem eL{r:Int}(hx:ev fr x=aj (av az m))(hy:ev fr y=aj (av az m'))(h0: -9223372036854775808<=m-m')(h1:m-m'<=9223372036854775807)(hr:m-m'=r):RR P n W ⟨dst,.binOp .sub t x y u,ty,pos,after,guard⟩ fr L (av az r):=by
 have:=aeU (P:=P) (n:=n) (W:=W) (L:=L) (dst:=dst) (ty:=ty) (pos:=pos) (after:=after) (guard:=guard) (t:=t) (u:=u) hx hy;rwa [n0 h0 h1,hr]at this
theorem XJ{r:Int}(hx:ev fr x=aj (av az m))(hy:ev fr y=aj (av az m'))(h0: -9223372036854775808<=m*m')(h1:m*m'<=9223372036854775807)(hr:m*m'=r):RR P n W ⟨dst,.binOp .mul t x y u,ty,pos,after,guard⟩ fr L (av az r):=by
 have:=aeV (P:=P) (n:=n) (W:=W) (L:=L) (dst:=dst) (ty:=ty) (pos:=pos) (after:=after) (guard:=guard) (t:=t) (u:=u) hx hy;rwa [n0 h0 h1,hr]at this
theorem dq{b:Bool}(hx:ev fr x=aj (.int k m))(hy:ev fr y=aj (.int k m'))(h:decide (m<m')=b):RR P n W ⟨dst,.binOp .lss t x y u,ty,pos,after,guard⟩ fr L (.bool b):=mW hx hy λw=>by simp[binOp,AX,<-h]
theorem A7{b:Bool}(hx:ev fr x=aj (.int k m))(hy:ev fr y=aj (.int k m'))(h:decide (m<=m')=b):RR P n W ⟨dst,.binOp .leq t x y u,ty,pos,after,guard⟩ fr L (.bool b):=mW hx hy λw=>by simp[binOp,AX,<-h]
theorem ea{b:Bool}(hx:ev fr x=aj (.int k m))(hy:ev fr y=aj (.int k m'))(h:decide (m'<m)=b):RR P n W ⟨dst,.binOp .gtr t x y u,ty,pos,after,guard⟩ fr L (.bool b):=mW hx hy λw=>by simp[binOp,AX,<-h]
theorem ff{b:Bool}(hx:ev fr x=aj (.int k m))(hy:ev fr y=aj (.int k m'))(h:decide (m'<=m)=b):RR P n W ⟨dst,.binOp .geq t x y u,ty,pos,after,guard⟩ fr L (.bool b):=mW hx hy λw=>by simp[binOp,AX,<-h]
theorem cZ{b:Bool}(hx:ev fr x=aj (.int k m))(hy:ev fr y=aj (.int k m'))(h:decide (m=m')=b):RR P n W ⟨dst,.binOp .eql t x y u,ty,pos,after,guard⟩ fr L (.bool b):=mW hx hy λw=>by
 simp_all[WX,binOp,AX]
theorem dl{b:Bool}(hx:ev fr x=aj (.int k m))(hy:ev fr y=aj (.int k m'))(h:decide (m≠m')=b):RR P n W ⟨dst,.binOp .neq t x y u,ty,pos,after,guard⟩ fr L (.bool b):=mW hx hy λw=>by
 simp_all[bne,WX,binOp,AX]
theorem Jm{op:BinOp}{r:Int}(hop:op= .and\/op= .or\/op= .xor\/op= .andNot)(hx:ev fr x=aj (.int k m))(hy:ev fr y=aj (.int k m'))(h:bits op k m m'=r):RR P n W ⟨dst,.binOp op t x y u,ty,pos,after,guard⟩ fr L (.int k r):=mW hx hy λw=>by
 subst h;rcases hop with rfl|rfl|rfl|rfl<;>simp[binOp,Op.intBits,bits]
theorem LH{op:BinOp}{k':IntKind}{v:Value}(hop:op= .shl\/op= .shr)(hx:ev fr x=aj (.int k m))(hy:ev fr y=aj (.int k' m'))(h:∀w,(iM op k m k' m').run P w= .ok v w):RR P n W ⟨dst,.binOp op t x y u,ty,pos,after,guard⟩ fr L v:= .mk λa w hr _=>by
 have e:(eqGuard op t x y (.int k m) (.int k' m')).run P w= .ok () w:=by simp[eqGuard]
 rcases hop with rfl|rfl<;>simp[execOp,hr.ev hx,hr.ev hy,e,binOp,h]
theorem nK{r:Int}(hx:ev fr x=aj (.int k m))(hy:ev fr y=aj (.int k m'))(h:bits .and k m m'=r):RR P n W ⟨dst,.binOp .and t x y u,ty,pos,after,guard⟩ fr L (.int k r):=Jm (.inl I) hx hy h
theorem zn{r:Int}(hx:ev fr x=aj (.int k m))(hy:ev fr y=aj (.int k m'))(h:bits .or k m m'=r):RR P n W ⟨dst,.binOp .or t x y u,ty,pos,after,guard⟩ fr L (.int k r):=Jm (.inr (.inl I)) hx hy h
theorem DW{k':IntKind}{v:Value}(hx:ev fr x=aj (.int k m))(hy:ev fr y=aj (.int k' m'))(h:∀w,(iM .shl k m k' m').run P w= .ok v w):RR P n W ⟨dst,.binOp .shl t x y u,ty,pos,after,guard⟩ fr L v:=LH (.inl I) hx hy h
theorem pB{k':IntKind}{v:Value}(hx:ev fr x=aj (.int k m))(hy:ev fr y=aj (.int k' m'))(h:∀w,(iM .shr k m k' m').run P w= .ok v w):RR P n W ⟨dst,.binOp .shr t x y u,ty,pos,after,guard⟩ fr L v:=LH (.inr I) hx hy h
theorem jo{k':IntKind}{r:Int}(hs:P.underlying t=aj (.int k'))(hd:P.underlying u=aj (.int k))(hx:ev fr x=aj (.int k' m))(h:k.wrap m=r):RR P n W ⟨dst,.convert t u x,ty,pos,after,guard⟩ fr L (.int k r):= .mk λa w hr _=>by
 simp[execOp,hr.ev hx,convert,run_underlying hs,run_underlying hd,Conv.intToInt,h]
end
theorem Jn{t:TypeId}{x:Operand}{b c:Bool}(hx:ev fr x=aj (.bool b))(h:(!b)=c):RR P n W ⟨dst,.unOp .not t x,ty,pos,after,guard⟩ fr L (.bool c):= .mk λa w hr _=>by
 subst h;simp[execOp,hr.ev hx,Op.unary]
theorem DX{t u:TypeId}{x y:Operand}{m m' r:Int}(hx:ev fr x=aj (av az m))(hy:ev fr y=aj (av az m'))(h:min m m'=r):RR P n W ⟨dst,.call {callee:= .builtin .min,args:=#[x,y],argTypes:=#[t,u]},ty,pos,after,guard⟩ fr L (av az r):= .mk λa w hr _=>by
 subst h;have h1:=hr.ev hx;have h2:=hr.ev hy;have e:(if m'<m then m' else m)=min m m':=by omega
 simp_all[lP,W1,W4,W5]
theorem XK{t u:TypeId}{x y:Operand}{m m' r:Int}(hx:ev fr x=aj (av az m))(hy:ev fr y=aj (av az m'))(h:max m m'=r):RR P n W ⟨dst,.call {callee:= .builtin .max,args:=#[x,y],argTypes:=#[t,u]},ty,pos,after,guard⟩ fr L (av az r):= .mk λa w hr _=>by
 subst h;have h1:=hr.ev hx;have h2:=hr.ev hy;have e:(if m'>m then m' else m)=max m m':=by omega
 simp_all[lP,BigFrame.builtin_max,Builtin.max_,Builtin.max2]
theorem DY{t:TypeId}{a b:Bool}(ht:P.underlying t=aj .bool)(d:Nat)(w:World):(lQ (d+1) t (.bool a) (.bool b)).run P w= .ok (a==b) w:=by simp[lQ,run_underlying ht]
theorem A8{t u:TypeId}{x y:Operand}{a b c:Bool}(ht:P.underlying t=aj .bool)(hx:ev fr x=aj (.bool a))(hy:ev fr y=aj (.bool b))(h:(a==b)=c):RR P n W ⟨dst,.binOp .eql t x y u,ty,pos,after,guard⟩ fr L (.bool c):= .mk λac w hr _=>by
 have e:(eqGuard .eql t x y (.bool a) (.bool b)).run P w= .ok () w:=rfl;have e2:(binOp .eql t (.bool a) (.bool b)).run P w= .ok (.bool c) w:=by
  show((Jb t (.bool a) (.bool b))>>=λr=>pure (fT r)).run P w=_
  have:(Jb t (.bool a) (.bool b)).run P w= .ok (a==b) w:=DY ht 9999 w;rw[nE,this,h];rfl
 simp[execOp,hr.ev hx,hr.ev hy,e,e2]
theorem Uu{t u:TypeId}{x y:Operand}{a b c:Bool}(ht:P.underlying t=aj .bool)(hx:ev fr x=aj (.bool a))(hy:ev fr y=aj (.bool b))(h:(!(a==b))=c):RR P n W ⟨dst,.binOp .neq t x y u,ty,pos,after,guard⟩ fr L (.bool c):= .mk λac w hr _=>by
 have e:(eqGuard .neq t x y (.bool a) (.bool b)).run P w= .ok () w:=rfl;have e2:(binOp .neq t (.bool a) (.bool b)).run P w= .ok (.bool c) w:=by
  show((Jb t (.bool a) (.bool b))>>=λr=>pure (fT (!r))).run P w=_
  have:(Jb t (.bool a) (.bool b)).run P w= .ok (a==b) w:=DY ht 9999 w;rw[nE,this];show O_ (fT (!(a==b))) w=_
  rw[h]
 simp[execOp,hr.ev hx,hr.ev hy,e,e2]
section
variable{t u:TypeId}{x y:Operand}{l l':List UInt8}
theorem Uv(ht:P.underlying t=aj .string)(hx:ev fr x=aj (str l)):RR P n W ⟨dst,.call {callee:= .builtin .len,args:=#[x],argTypes:=#[t]},ty,pos,after,guard⟩ fr L (av az l.length):= .mk λa w hr _=>by
 have OK:=hr.ev hx;unfold str at OK;have hsz:(uv l.toArray).size=l.length:=ey;simp[lP,OX,W6,OK,run_underlying ht,goInt,hsz]
theorem aeW(l:List UInt8):(uv l.toArray).toList=l:=by
 simp
theorem pC{b:Bool}(hx:ev fr x=aj (str l))(hy:ev fr y=aj (str l'))(h:decide (l=l')=b):RR P n W ⟨dst,.binOp .eql t x y u,ty,pos,after,guard⟩ fr L (.bool b):= .mk λa w hr _=>by
 have e:(eqGuard .eql t x y (str l) (str l')).run P w= .ok () w:=rfl;have e2:(l==l')=b:=by grind
 unfold str at*;simp[execOp,hr.ev hx,hr.ev hy,e,binOp,Xf,e2]
theorem lh{b:Bool}(hx:ev fr x=aj (str l))(hy:ev fr y=aj (str l'))(h:decide (l≠l')=b):RR P n W ⟨dst,.binOp .neq t x y u,ty,pos,after,guard⟩ fr L (.bool b):= .mk λa w hr _=>by
 have e:(eqGuard .neq t x y (str l) (str l')).run P w= .ok () w:=rfl;have e2:(!(l==l'))=b:=by grind
 unfold str at*;simp[execOp,hr.ev hx,hr.ev hy,e,binOp,Xf,e2]
theorem Hy(hx:ev fr x=aj (str l))(hy:ev fr y=aj (str l'))(h:l.length+l'.length<=9223372036854775807):RR P n W ⟨dst,.binOp .add t x y u,ty,pos,after,guard⟩ fr L (str (l++l')):= .mk λa w hr _=>by
 have e:(eqGuard .add t x y (str l) (str l')).run P w= .ok () w:=rfl;have e2:=run_string_add_sum (P:=P) w ⟨l.toArray⟩ ⟨l'.toArray⟩ (by simp_all[I8]);rw[aeH]at e2;unfold str at*;simp[execOp,hr.ev hx,hr.ev hy,e,binOp,e2]
theorem wX{i:Int}{b:UInt8}{k:IntKind}(ht:P.underlying t=aj .string)(hx:ev fr x=aj (str l))(hy:ev fr y=aj (.int k i))(h0:0<=i)(h:l[i.toNat]?=aj b):RR P n W ⟨dst,.index t x y,ty,pos,after,guard⟩ fr L (.int .u8 b.toNat):= .mk λa w hr _=>by
 have hlt:=(dg.1 h).1;have e:(if 0<=i then(uv l.toArray)[i.toNat]? else ak)=aj b:=by
  rw[if_pos h0];have hs:i.toNat<(uv l.toArray).size:=by simp_all[I8]
  rw[getElem?_pos (uv l.toArray) i.toNat hs];have:=(dg.1 h).2;exact congrArg aj (by rw[<-this];rfl)
 unfold str at*;simp only[execOp,hr.ev hx,hr.ev hy,Xd,asIntOf,nE,pu,q9,run_underlying ht,e]
theorem uM{lo hi:Option Operand}{i j:Int}(ht:P.underlying t=aj .string)(hx:ev fr x=aj (str l))(SC:match lo with|none=>i=0|some z=>∃k,ev fr z=aj (.int k i))(Uw:match hi with|none=>j=l.length|some z=>∃k,ev fr z=aj (.int k j))
 (h0:0<=i) (h1:i<=j) (h2:j<=l.length):RR P n W ⟨dst,.slice t x lo hi ak,ty,pos,after,guard⟩ fr L (str ((l.take j.toNat).drop i.toNat)):= .mk λa w hr _=>by
 have hsz:(uv l.toArray).size=l.length:=by rfl
 have ex:∀p q,(uv l.toArray).extract p q=⟨((l.take q).drop p).toArray⟩:=λp q=>by
  apply aeF;simp[aeG,List.extract_eq_take_drop,Pf]
 have h2':j<=((uv l.toArray).size:Int):=by omega
 have h0j:0<=j:=by omega
 have ej:(j.toNat:Int)=j:=Int.toNat_of_nonneg h0j;unfold str at*
 cases lo<;>cases hi
 ·simp only at SC Uw
  subst SC Uw;simp[execOp,hr.ev hx,sL,sM,run_underlying ht,sK]
 ·obtain⟨k,hk⟩:=Uw
  simp only at SC;subst SC;simp[execOp,hr.ev hx,hr.ev hk,sL,sM,run_underlying ht,sK,run_sliceBound,ex,hsz,h0j,h2]
 ·obtain⟨k,hk⟩:=SC
  simp only at Uw;subst Uw;simp[execOp,hr.ev hx,hr.ev hk,sL,sM,run_underlying ht,sK,run_sliceBound,ex,hsz,h0,h1]
 ·obtain⟨k,hk⟩:=SC
  obtain⟨k',lO⟩:=Uw;have h1':i<=(j.toNat:Int):=by omega
  have hb:=λc=>run_sliceBound (P:=P) w k i j.toNat c h0 h1';simp[execOp,hr.ev hx,hr.ev hk,hr.ev lO,sL,sM,run_underlying ht,sK,run_sliceBound w k' j,hb,ex,hsz,h0j,h2]
theorem DZ{z:Operand}{k:IntKind}{i:Nat}(ht:P.underlying t=aj .string)(hx:ev fr x=aj (str l))(hz:ev fr z=aj (.int k (i:Int)))(h:i<=l.length):RR P n W ⟨dst,.slice t x (aj z) ak ak,ty,pos,after,guard⟩ fr L (str (l.drop i)):=by
 have:=uM (P:=P) (n:=n) (W:=W) (fr:=fr) (L:=L) (dst:=dst) (ty:=ty) (pos:=pos) (after:=after) (guard:=guard) (lo:=aj z) (hi:=ak) (i:=(i:Int)) (j:=(l.length:Int)) ht hx ⟨k,hz⟩ I J J J
 simp_all
theorem Ps{z:Operand}{k:IntKind}{j:Nat}(ht:P.underlying t=aj .string)(hx:ev fr x=aj (str l))(hz:ev fr z=aj (.int k (j:Int)))(h:j<=l.length):RR P n W ⟨dst,.slice t x ak (aj z) ak,ty,pos,after,guard⟩ fr L (str (l.take j)):=by
 have:=uM (P:=P) (n:=n) (W:=W) (fr:=fr) (L:=L) (dst:=dst) (ty:=ty) (pos:=pos) (after:=after) (guard:=guard) (lo:=ak) (hi:=aj z) (i:=0) (j:=(j:Int)) ht hx I ⟨k,hz⟩ J J J
 simp_all
theorem Ux{z z':Operand}{k k':IntKind}{i j:Nat}(ht:P.underlying t=aj .string)(hx:ev fr x=aj (str l))(hz:ev fr z=aj (.int k (i:Int)))(hz':ev fr z'=aj (.int k' (j:Int)))(h0:i<=j)(h:j<=l.length):RR P n W ⟨dst,.slice t x (aj z) (aj z') ak,ty,pos,after,guard⟩ fr L (str ((l.drop i).take (j-i))):=by
 have:=uM (P:=P) (n:=n) (W:=W) (fr:=fr) (L:=L) (dst:=dst) (ty:=ty) (pos:=pos) (after:=after) (guard:=guard) (lo:=aj z) (hi:=aj z') (i:=(i:Int)) (j:=(j:Int)) ht hx ⟨k,hz⟩ ⟨k',hz'⟩ J J J
 simp_all[Pf]
end
end
end bZ
namespace bZ
open Go.RowKit cK dS
section
variable{P:Program}{n:Nat}{W:bL}{fr:Fr}{L:List b9}{dst:Option Tmp}{ty:TypeId}{pos:String}{after:Array Edge}{guard:Option (Nat×Bool)}
def At(W:bL)(L:List b9)(p:Addr)(v:Value):Prop:=∀w,Mem W L w->w.cell? p=aj v
theorem kJ{W:World}{p:Addr}{v:Value}(h:W.cell? p=aj v):At W L p v:=λ_ hm=>hm.cell h
theorem iX{W0:World}{p:Addr}{v:Value}(ho:qx W0 W)(h:W0.cell? p=aj v):At W L p v:=λ_ hm=>ho.cell hm h
theorem aH{i g off:Nat}{cs:Array Value}{T:TypeId}{v:Value}(hi:L[i]?=aj (aP g cs T))(hv:cs[off]?=aj v):At W L ⟨g,off,ak⟩ v:=λw hm=>by
 rw[cell_of_row w g off cs T (0,0) (hm.get hi)];exact hv
theorem jh{i g off size cap m k:Nat}{e:TypeId}{xs:List Value}{v:Value}(hi:L[i]?=aj (aZ e size (ap (aj ⟨g,0,ak⟩) m cap) k xs))(hv:xs[off]?=aj v):At W L ⟨g,off,ak⟩ v:=λw hm=>by
 have h:w.ownsRow 0 e size (ap (aj ⟨g,0,ak⟩) m cap) k xs:=hm.get hi;have:=h.cells (g:=g) I off v hv
 simp_all[eV]
theorem jc{W:World}{b off j:Nat}{xs:List Value}{v:Value}(h:Rd W b off xs)(hv:xs[j]?=aj v):At W L ⟨b,off+j,ak⟩ v:=kJ (h j v hv)
theorem aB{t:TypeId}{x:Operand}{p:Addr}{c:Nat}{v:Value}(hT:Ty P t aE c)(hx:ev fr x=aj (aJ (aj p)))(h:At W L p v):RR P n W ⟨dst,.load t x,ty,pos,after,guard⟩ fr L v:= .mk λa w hr hm=>by
 simp[execOp,hr.ev hx,Xc,yc,loadVar,hT.agg,h w hm]
theorem bm{t:TypeId}{x:Operand}{b off c:Nat}{cs:List Value}(hT:Ty P t aC c)(hx:ev fr x=aj (aJ (aj ⟨b,off,ak⟩)))(hl:cs.length=c)(h:∀j v,cs[j]?=aj v->At W L ⟨b,off+j,ak⟩ v):RR P n W ⟨dst,.load t x,ty,pos,after,guard⟩ fr L (aQ cs.toArray):= .mk λa w hr hm=>by
 subst hl;have:=run_loadCells_list (P:=P) w ⟨b,off,ak⟩ cs λj v hj=>by rw[eV];exact h j v hj w hm
 simp[execOp,hr.ev hx,Xc,yc,loadVar,hT.agg,hT.size,this]
theorem aO{t:TypeId}{x:Operand}{i g c:Nat}{cs:Array Value}{T:TypeId}(hT:Ty P t aC c)(hx:ev fr x=aj (aJ (aj ⟨g,0,ak⟩)))(hi:L[i]?=aj (aP g cs T))(hl:cs.size=c):RR P n W ⟨dst,.load t x,ty,pos,after,guard⟩ fr L (.agg cs):=by
 have:=bm (P:=P) (n:=n) (W:=W) (L:=L) (dst:=dst) (ty:=ty) (pos:=pos) (after:=after) (guard:=guard) (cs:=cs.toList) hT hx J λj v hj=>by rw[cX];exact aH hi (by simpa using hj)
 omega
theorem Jo{W:World}{α:Type}{f:α->Value}{b off j:Nat}{l:List α}(h:Rd W b off (l.map f))(hj:j<l.length):At W L ⟨b,off+j,ak⟩ (f l[j]):=jc h (by grind)
structure Fld(P:Program)(s:TypeId)(f o:Nat):Prop where
 run:∀(a:Addr) w,(Xa s (aJ (aj a)) f).run P w= .ok (aJ (aj (a.add o))) w
def agL(P:Program)(s:TypeId)(f o:Nat):Bool:=
 match P.underlying s with
 |some (.struct fs)=>(match fs[f]? with|some d=>fW d.offset o&&(match P.info? d.type with|some i=>!(fW i.size 0)|none=>aE)|none=>aE)
 |_=>aE
theorem Fld.of{P:Program}{s:TypeId}{f o:Nat}(h:agL P s f o=aC):Fld P s f o:=by
 unfold agL at h
 cases e:P.underlying s with
 |none=>simp_all
 | some d=>
  rw[e]at h
  cases d<;>try (cases h;done)
  rename_i fs
  simp only at h
  cases e2:fs[f]? with
  |none=>simp_all
  | some d=>
   rw[e2]at h;simp only[eX]at h;obtain⟨h1,h2⟩:=h;obtain rfl:=mj h1
   cases e3:P.info? d.type with
   |none=>simp_all
   | some i=>
    rw[e3]at h2;simp only[sH]at h2;have:=Jg h2;exact⟨λa w=>by simp_all[Xa,run_underlying,yc,fieldPlace,sizeOf,typeInfo]⟩
theorem LI{s:TypeId}{x:Operand}{f o b off r:Nat}(hf:Fld P s f o)(hx:ev fr x=aj (aJ (aj ⟨b,off,ak⟩)))(hr:off+o=r):RR P n W ⟨dst,.fieldAddr s x f,ty,pos,after,guard⟩ fr L (aJ (aj ⟨b,r,ak⟩)):= .mk λa w h _=>by
 subst hr;simp[execOp,h.ev hx,hf.run,eV]
theorem XL{t e:TypeId}{x y:Operand}{agg:Bool}{c b off len cap r:Nat}{k:IntKind}{i:Int}(ht:P.underlying t=aj (.slice e))(he:Ty P e agg c)(hx:ev fr x=aj (ap (aj ⟨b,off,ak⟩) len cap))(hy:ev fr y=aj (.int k i))(h0:0<=i)(h1:i<len)(hr:off+i.toNat*c=r):
 RR P n W ⟨dst,.indexAddr t x y,ty,pos,after,guard⟩ fr L (aJ (aj ⟨b,r,ak⟩)):= .mk λa w h _=>by
 subst hr;simp[execOp,h.ev hx,h.ev hy,Xb,asIntOf,run_underlying ht,he.size,h0,h1,eV]
theorem bU{t e:TypeId}{x y:Operand}{agg:Bool}{b off len cap j:Nat}{k:IntKind}(ht:P.underlying t=aj (.slice e))(he:Ty P e agg 1)(hx:ev fr x=aj (ap (aj ⟨b,off,ak⟩) len cap))(hy:ev fr y=aj (.int k (j:Int)))(h1:j<len):
 RR P n W ⟨dst,.indexAddr t x y,ty,pos,after,guard⟩ fr L (aJ (aj ⟨b,off+j,ak⟩)):=XL ht he hx hy J J (by simp)
theorem aY{t e:TypeId}{x y:Operand}{agg:Bool}{c b off len cap j:Nat}{k:IntKind}(ht:P.underlying t=aj (.slice e))(he:Ty P e agg c)(hx:ev fr x=aj (ap (aj ⟨b,off,ak⟩) len cap))(hy:ev fr y=aj (.int k (j:Int)))(h1:j<len):
 RR P n W ⟨dst,.indexAddr t x y,ty,pos,after,guard⟩ fr L (aJ (aj ⟨b,off+j*c,ak⟩)):=XL ht he hx hy J J (by simp)
theorem abR{t e:TypeId}{x y:Operand}{agg:Bool}{c b off len r:Nat}{k:IntKind}{i:Int}(ht:P.underlying t=aj (.array len e))(he:Ty P e agg c)(hx:ev fr x=aj (aJ (aj ⟨b,off,ak⟩)))(hy:ev fr y=aj (.int k i))(h0:0<=i)(h1:i<len)(hr:off+i.toNat*c=r):
 RR P n W ⟨dst,.indexAddr t x y,ty,pos,after,guard⟩ fr L (aJ (aj ⟨b,r,ak⟩)):= .mk λa w h _=>by
 subst hr;simp[execOp,h.ev hx,h.ev hy,Xb,asIntOf,run_underlying ht,he.size,h0,h1,eV,yc]
theorem iz{t e:TypeId}{x y:Operand}{agg:Bool}{b off len j:Nat}{k:IntKind}(ht:P.underlying t=aj (.array len e))(he:Ty P e agg 1)(hx:ev fr x=aj (aJ (aj ⟨b,off,ak⟩)))(hy:ev fr y=aj (.int k (j:Int)))(h1:j<len):
 RR P n W ⟨dst,.indexAddr t x y,ty,pos,after,guard⟩ fr L (aJ (aj ⟨b,off+j,ak⟩)):=abR ht he hx hy J J (by simp)
theorem jN{t e:TypeId}{x y:Operand}{len j:Nat}{k:IntKind}{cs:Array Value}{v:Value}(ht:P.underlying t=aj (.array len e))(he:Ty P e aE 1)(hx:ev fr x=aj (.agg cs))(hy:ev fr y=aj (.int k (j:Int)))(h1:j<len)(hv:cs[j]?=aj v):
 RR P n W ⟨dst,.index t x y,ty,pos,after,guard⟩ fr L v:= .mk λa w h _=>by
 have h0:(0:Int)<=(j:Int)/\(j:Int)<(len:Int):=by omega
 simp[execOp,h.ev hx,h.ev hy,Xd,asIntOf,run_underlying ht,he.size,h1,part,he.agg,hv]
theorem Pt{t e:TypeId}{x:Operand}{p:Option Addr}{m cap:Nat}(ht:P.underlying t=aj (.slice e))(hx:ev fr x=aj (ap p m cap)):RR P n W ⟨dst,.call {callee:= .builtin .len,args:=#[x],argTypes:=#[t]},ty,pos,after,guard⟩ fr L (av az m):= .mk λa w hr _=>by
 have OK:=hr.ev hx;simp[lP,OX,W6,OK,run_underlying ht,goInt]
theorem fg{t e e':TypeId}{x:Operand}{i size m:Nat}{v:Value}{xs:List Value}(ht:P.underlying t=aj (.slice e))(hi:L[i]?=aj (aZ e' size v m xs))(hx:ev fr x=aj v):RR P n W ⟨dst,.call {callee:= .builtin .len,args:=#[x],argTypes:=#[t]},ty,pos,after,guard⟩ fr L (av az m):= .mk λa w hr hm=>by
 have h:w.ownsRow 0 e' size v m xs:=hm.get hi;rcases h.2 with⟨rfl,rfl⟩|⟨g,cap,jZ,rfl,_⟩
 exact(Pt (P:=P) (W:=W) (L:=L) ht hx).go a w hr hm;exact(Pt (P:=P) (W:=W) (L:=L) ht hx).go a w hr hm
def SlL(W:bL)(L:List b9)(v:Value)(m:Nat)(xs:List Value):Prop:=∀w,Mem W L w->Sl w v m xs
theorem aeX{W:World}{v:Value}{m:Nat}{xs:List Value}(h:Sl W v m xs):SlL W L v m xs:=λw hm=>by
 obtain⟨base,cap,h1,h2,h3,h4⟩:=h;exact⟨base,cap,h1,h2,h3,λhn=>let ⟨b,off,h5,h6⟩:=h4 hn;⟨b,off,h5,λj u hj=>hm.cell (h6 j u hj)⟩⟩
theorem lm{i size m:Nat}{e:TypeId}{v:Value}{xs:List Value}(hi:L[i]?=aj (aZ e size v m xs)):SlL W L v m xs:=λ_ hm=>Sl.dD (hm.get hi)
section
variable{Q:Exit->Act->World->Prop}{ops:Array Oper}{rest:List Oper}{d:Nat}
theorem bP{t:TypeId}{x:Operand}{v:Value}{cs:Array Value}(hx:ev fr x=aj v)(hv:v.cells=cs)(hn:dj d n=aC)(h:∀g,TL P n W ops Q rest ((d,aJ (aj ⟨g,0,ak⟩))::fr) (L++[aP g cs t])):
 TL P n W ops Q (⟨aj d,.box t x,ty,pos,after,ak⟩::rest) fr L:=lg I λa w hr hm K hK=>by
 subst hv;have e:(execOp a.eval ⟨aj d,.box t x,ty,pos,after,ak⟩).run P w= .ok (.value (aJ (aj ⟨w.heap.size,0,ak⟩))) (w.alloc (.cells v.cells t)):=by
  simp[execOp,hr.ev hx,Instr.box,newVar,newRow]
 unfold gj;rw[e];exact hK _ _ ((h w.heap.size).go _ _ (hr.put hn _) (hm.append (Uy w _) (nI.one (heap_alloc_new w _) λk hk=>by simp_all[aP])))
where
 Uy (w:World) (o:Obj):Gr w (w.alloc o):=(Below.refl _ _).alloc (bz _) _
theorem od(w:World)(o:Obj):Gr w (w.alloc o):=(Below.refl _ _).alloc (bz _) _
theorem XM{t:TypeId}{i:TypeInfo}{z:Value}{cs:Array Value}(hi:P.info? t=aj i)(hz:i.zero=aj z)(hv:z.cells=cs)(hn:dj d n=aC)(h:∀g,TL P n W ops Q rest ((d,aJ (aj ⟨g,0,ak⟩))::fr) (L++[aP g cs t])):
 TL P n W ops Q (⟨aj d,.alloc t,ty,pos,after,ak⟩::rest) fr L:=lg I λa w hr hm K hK=>by
 subst hv;have e:(execOp a.eval ⟨aj d,.alloc t,ty,pos,after,ak⟩).run P w= .ok (.value (aJ (aj ⟨w.heap.size,0,ak⟩))) (w.alloc (.cells z.cells t)):=by
  simp[execOp,Instr.alloc,zeroValue,typeInfo,hi,hz,newVar,newRow]
 unfold gj;rw[e];exact hK _ _ ((h w.heap.size).go _ _ (hr.put hn _) (hm.append (od w _) (nI.one (heap_alloc_new w _) λk hk=>by simp_all[aP])))
theorem Pu{t e:TypeId}{m:Nat}{parts:Array (Nat×Operand)}{cs:Array Value}(hrun:∀a w,nH n a fr->(uz t m (parts.map λ(i,x)=>(i,a.eval x))).run P w= .ok (ap (aj ⟨w.heap.size,0,ak⟩) m m) (w.alloc (.cells cs e)))(hn:dj d n=aC)
 (h:∀g,TL P n W ops Q rest ((d,ap (aj ⟨g,0,ak⟩) m m)::fr) (L++[aP g cs e])):
 TL P n W ops Q (⟨aj d,.buildSlice t m parts,ty,pos,after,ak⟩::rest) fr L:=lg I λa w hr hm K hK=>by
 have e':(execOp a.eval ⟨aj d,.buildSlice t m parts,ty,pos,after,ak⟩).run P w= .ok (.value (ap (aj ⟨w.heap.size,0,ak⟩) m m)) (w.alloc (.cells cs e)):=by
  simp_all[execOp]
 unfold gj;rw[e'];exact hK _ _ ((h w.heap.size).go _ _ (hr.put hn _) (hm.append (od w _) (nI.one (heap_alloc_new w _) λk hk=>by simp_all[aP])))
theorem XN{t e:TypeId}{i:TypeInfo}{z v:Value}{c:Nat}(ht:P.underlying t=aj (.slice e))(hi:P.info? e=aj i)(hz:i.zero=aj z)(hc:i.size=c)(hzc:z.cells.size=c)(hv:v.cells.size=c)(h0:0<c)(hs:c<=16777216)(w:World):
 (uz t 1 #[(0,v)]).run P w= .ok (ap (aj ⟨w.heap.size,0,ak⟩) 1 1) (w.alloc (.cells v.cells e)):=by
 have uN:j_ (λi=>aj (i*c,c)) ((DD (1*c)).map (z.cells[· %z.cells.size]!)) [(0,v)]=aj v.cells:=by
  simp only[j_,hv,yf,cX,Array.size_map,Array.size_range,uI];rw[if_neg (by simp)]
  congr 1
  have key:∀(l:List Value) (k:Nat) (acc:Array Value),k+l.length=acc.size->(l.zipIdx k).foldl (λcs (x:Value×Nat)=>cs.setIfInBounds (0+x.2) x.1) acc=(acc.toList.take k++l).toArray:=by
   intro l
   induction l with
   | nil=>
    simp_all[fU]
   | cons x l ih=>
    intro k acc h;simp only[db]at h;rw[Jf,List.foldl_cons,ih (k+1) _ (by grind)];simp only[cX,I7]
    grind
  have:=key v.cells.toList 0 ((DD c).map (z.cells[· %z.cells.size]!)) (by grind)
  simp only[uG,eI,DB]at this;rw[<-Array.foldl_toList]
  simpa[Array.toList_zipIdx]using this
 have hne:¬(1*c>2^24):=by omega
 have XO:¬(1*c=0):=by omega
 simp only[uz,nE,run_underlying ht,q9,sizeOf,typeInfo,run_program,hi,pu,hc,zeroValue,hz,if_neg hne,if_neg XO,uN,newRow];simp[newRow]
theorem abS{t e:TypeId}{x:Operand}{i:TypeInfo}{z v:Value}{c:Nat}{cs:Array Value}(ht:P.underlying t=aj (.slice e))(hi:P.info? e=aj i)(hz:i.zero=aj z)(hc:i.size=c)(hzc:z.cells.size=c)(hx:ev fr x=aj v)(hcs:v.cells=cs)(hv:cs.size=c)(h0:0<c)(hs:c<=16777216)(hn:dj d n=aC)
 (h:∀g,TL P n W ops Q rest ((d,ap (aj ⟨g,0,ak⟩) 1 1)::fr) (L++[aP g cs e])):TL P n W ops Q (⟨aj d,.buildSlice t 1 #[(0,x)],ty,pos,after,ak⟩::rest) fr L:=by
 subst hcs;exact Pu (λa w hr=>by simpa[hr.ev hx]using XN ht hi hz hc hzc hv h0 hs w) hn h
theorem oI{t ty e:TypeId}{i:TypeInfo}{z:Value}{size bytes:Nat}(ht:P.underlying t=aj (.slice e))(hi:P.info? e=aj i)(hz:i.zero=aj z)(oe:i.size=size)(OL:i.bytes=bytes)(Pv:z.cells.size=size)(hsz:0<size)(w:World)
 {v:Value} {m:Nat} {xs:List Value} (lR:w.ownsRow 0 e size v m xs) {a:Addr} {k c:Nat} {news:List Value} (hl:news.length=k*size) (B2:∀j u,news[j]?=aj u->w.cell? (a.add j)=aj u) (h1:∀u∈news,u.oneCell'=aC)
 (qA:m+k<=maxLen) (Jp:(m+k)*bytes<=140737488355328):
 ∃v' w',(ux #[t,t] ty #[v,ap (aj a) k c]).run P w= .ok v' w'/\w'.ownsRow 0 e size v' (m+k) (xs++news)/\w.grownBy w' v.ownBlock/\(∀q,v'.ownBlock=aj q->v.ownBlock=aj q\/w.heap.size<=q):=by
 obtain⟨v',w',hr,h2,h3,h4⟩:=run_append_own (P:=P) w 0 t ty e i z size bytes ht hi hz oe OL Pv hsz v m xs lR a k c news hl B2 h1 qA Jp (bH _);refine⟨v',w',hr,h2,h3,λq hq=>?_⟩;have agM:((m+k:Nat):Int)<=9223372036854775807:=by grind[maxLen]
 rcases lR.2 with⟨rfl,rfl⟩|⟨g,cap,jZ,rfl,CI,hg,hnc,LJ,hcs,zo⟩
 ·by_cases hk:k=0
  simp_all;have ul:=run_append_nil (P:=P) w t ty e i z ht hi hz a k c news (by simp_all) B2 J J (by grind);rw[hr]at ul;injection ul with e1 _
  subst e1;simp only[sP,dh]at hq;exact .inr J
 ·by_cases hroom:m+k<=cap
  ·have D0:m*i.size+news.length<=jZ.size:=by rw[hl,hcs,oe,<-iP];exact sR _ hroom
   have ul:=run_append_room (P:=P) w t ty e i ht hi g m cap jZ hg a k c news (by simp_all) B2 h1 hroom D0;rw[hr]at ul;injection ul with e1 _
   subst e1;exact .inl hq
  have holds:∀j u,xs[j]?=aj u->w.cell? ((⟨g,0,ak⟩:Addr).add j)=aj u:=lR.cells (g:=g) I;have ul:=run_append_grow (P:=P) w t ty e i z ht hi hz ⟨g,0,ak⟩ m cap xs (by rw[oe];exact lR.1) holds a k c news (by simp_all) B2 J J (growslice_fits J (by simp_all));rw[hr]at ul;injection ul with e1 _
  subst e1;simp only[sP,dh]at hq;exact .inr J
structure El(P:Program)(t e:TypeId)(size bytes:Nat):Prop where
 ex:∃i z,P.underlying t=aj (.slice e)/\P.info? e=aj i/\i.zero=aj z/\i.size=size/\i.bytes=bytes/\z.cells.size=size/\0<size
def elB(P:Program)(t e:TypeId)(size bytes:Nat):Bool:=
 (match P.underlying t with|some (.slice e')=>fW e' e|_=>aE)&&(match P.info? e with|some i=>fW i.size size&&fW i.bytes bytes&&(match i.zero with|some z=>fW z.cells.size size|none=>aE)|none=>aE)&&dj 0 size
theorem El.of{t e:TypeId}{size bytes:Nat}(h:elB P t e size bytes=aC):El P t e size bytes:=by
 unfold elB at h;simp only[eX]at h;obtain⟨⟨h1,h2⟩,h3⟩:=h
 cases e1:P.underlying t with
 |none=>simp_all
 | some d=>
  rw[e1]at h1
  cases d<;>try (cases h1;done)
  rename_i e'
  obtain rfl:=mj h1
  cases e2:P.info? e' with
  |none=>simp_all
  | some i=>
   rw[e2]at h2;simp only[eX]at h2;obtain⟨⟨h4,h5⟩,h6⟩:=h2
   cases e3:i.zero with
   |none=>simp_all
   | some z=>
    rw[e3]at h6;exact⟨i,z,e1,e2,e3,mj h4,mj h5,mj h6,k8 h3⟩
theorem Hz{t e:TypeId}{s x:Operand}{i size bytes m k c:Nat}{v:Value}{xs ys:List Value}{a:Addr}(tU:El P t e size bytes)(hi:L[i]?=aj (aZ e size v m xs))(hs:ev fr s=aj v)(hx:ev fr x=aj (ap (aj a) k c))
 (hy:∀j u,ys[j]?=aj u->At W L (a.add j) u) (hl:ys.length=k*size) (h1:∀u∈ys,u.oneCell'=aC) (qA:m+k<=140737488355328) (hb:(m+k)*bytes<=140737488355328) (hn:dj d n=aC)
 (h:∀v',TL P n W ops Q rest ((d,v')::fr) (L.set i (aZ e size v' (m+k) (xs++ys)))):
 TL P n W ops Q (⟨aj d,.call {callee:= .builtin .append,args:=#[s,x],argTypes:=#[t,t]},ty,pos,after,ak⟩::rest) fr L:=lg I λact w hr hm K hK=>by
 obtain⟨inf,z,ht,zq,hz,oe,OL,Pv,hsz⟩:=tU.ex;obtain⟨v',w',hrun,h2,h3,h4⟩:=oI (ty:=ty) (c:=c) ht zq hz oe OL Pv hsz w (hm.get hi:w.ownsRow 0 e size v m xs) hl (λj u hj=>hy j u hj w hm) h1 (by grind[maxLen]) hb;have e':(execOp act.eval ⟨aj d,.call {callee:= .builtin .append,args:=#[s,x],argTypes:=#[t,t]},ty,pos,after,ak⟩).run P w= .ok (.value v') w':=by
  simp only[lP,sJ,Pd,gv,q_,hr.ev hs,hr.ev hx,nE,hrun,q9,pu]
 unfold gj;rw[e'];exact hK _ _ ((h v').go _ _ (hr.put hn _) (hm.CH hi h3 h2 h4))
theorem Jq{t e:TypeId}{s x:Operand}{i size bytes m k c:Nat}{v:Value}{xs ys:List Value}{p:Addr}{act:Act}{w:World}(tU:El P t e size bytes)(hi:L[i]?=aj (aZ e size v m xs))(hs:ev fr s=aj v)(hx:ev fr x=aj (ap (aj p) k c))
 (hy:∀j u,ys[j]?=aj u->w.cell? (p.add j)=aj u) (hl:ys.length=k*size) (h1:∀u∈ys,u.oneCell'=aC) (qA:m+k<=140737488355328) (hb:(m+k)*bytes<=140737488355328) (hn:dj d n=aC)
 (h:∀v',TL P n W ops Q rest ((d,v')::fr) (L.set i (aZ e size v' (m+k) (xs++ys)))) (hr:nH n act fr) (hm:Mem W L w):
 wpList P ops Q (⟨aj d,.call {callee:= .builtin .append,args:=#[s,x],argTypes:=#[t,t]},ty,pos,after,ak⟩::rest) act w:=by
 refine wpList_plain I λK hK=>?_;obtain⟨inf,z,ht,zq,hz,oe,OL,Pv,hsz⟩:=tU.ex;obtain⟨v',w',hrun,h2,h3,h4⟩:=oI (ty:=ty) (c:=c) ht zq hz oe OL Pv hsz w (hm.get hi:w.ownsRow 0 e size v m xs) hl hy h1 (by grind[maxLen]) hb;have e':(execOp act.eval ⟨aj d,.call {callee:= .builtin .append,args:=#[s,x],argTypes:=#[t,t]},ty,pos,after,ak⟩).run P w= .ok (.value v') w':=by
  simp only[lP,sJ,Pd,gv,q_,hr.ev hs,hr.ev hx,nE,hrun,q9,pu]
 unfold gj;rw[e'];exact hK _ _ ((h v').go _ _ (hr.put hn _) (hm.CH hi h3 h2 h4))
theorem D5{t e:TypeId}{s x:Operand}{i size bytes m c:Nat}{v:Value}{xs:List Value}(tU:El P t e size bytes)(hi:L[i]?=aj (aZ e size v m xs))(hs:ev fr s=aj v)(hx:ev fr x=aj (ap ak 0 c))(hn:dj d n=aC)
 (h:TL P n W ops Q rest ((d,v)::fr) L):
 TL P n W ops Q (⟨aj d,.call {callee:= .builtin .append,args:=#[s,x],argTypes:=#[t,t]},ty,pos,after,ak⟩::rest) fr L:=lg I λact w hr hm K hK=>by
 obtain⟨inf,z,ht,zq,hz,oe,OL,Pv,hsz⟩:=tU.ex;have lR:w.ownsRow 0 e size v m xs:=hm.get hi;have e':(execOp act.eval ⟨aj d,.call {callee:= .builtin .append,args:=#[s,x],argTypes:=#[t,t]},ty,pos,after,ak⟩).run P w= .ok (.value v) w:=by
  rcases lR.2 with⟨rfl,rfl⟩|⟨g,cap,jZ,rfl,CI,hg,hnc,LJ,hcs,zo⟩
  simp[lP,sJ,hr.ev hs,hr.ev hx,ux,run_underlying ht,sizeOf,typeInfo,zq,AS,DG];simp[lP,sJ,hr.ev hs,hr.ev hx,ux,run_underlying ht,sizeOf,typeInfo,zq,AS,DG,loadCells,hnc,storeCells]
 unfold gj;rw[e'];exact hK _ _ (h.go _ _ (hr.put hn _) hm)
theorem pD{t:TypeId}{p x:Operand}{i g off c:Nat}{cs cs':Array Value}{T:TypeId}{agg:Bool}{v:Value}(hT:Ty P t agg c)(hi:L[i]?=aj (aP g cs T))(hp:ev fr p=aj (aJ (aj ⟨g,off,ak⟩)))(hx:ev fr x=aj v)(hv:v.cells.size=c)(h1:v.cells.toList.all eY=aC)
 (D0:off+c<=cs.size) (hcs:cs'=(cs.toList.take off++v.cells.toList++cs.toList.drop (off+c)).toArray) (h:TL P n W ops Q rest fr (L.set i (aP g cs' T))):
 TL P n W ops Q (⟨ak,.store t p x,ty,pos,after,ak⟩::rest) fr L:=lg I λact w hr hm K hK=>by
 have hg:w.heap[g]?=aj (.cells cs T (0,0)):=hm.get hi;have hst:=run_storeCells_at P g off T v.cells.toList 0 cs w hg (by simp_all) (uE.1 h1);simp only[iu,mf,hv]at hst;rw[<-hcs]at hst;have e':(execOp act.eval ⟨ak,.store t p x,ty,pos,after,ak⟩).run P w= .ok .skip (w.setRow g cs'):=by
  simp[execOp,hr.ev hp,hr.ev hx,OY,yc,storeVar,hT.size,hv,hst]
 unfold gj;rw[e'];exact hK _ _ (h.go _ _ (hr.uK undef) (hm.CH hi ⟨rfl,rfl,rfl,by simp,λk _ hk=>setRow_other w g k _ (λe=>hk (by subst e;rfl))⟩ (setRow_heap w g cs _ T _ hg) λk hk=> .inl hk))
theorem mH{t:TypeId}{p x:Operand}{i g off c size cap m k:Nat}{xs:List Value}{e:TypeId}{v:Value}(hT:Ty P t aE c)(hi:L[i]?=aj (aZ e size (ap (aj ⟨g,0,ak⟩) m cap) k xs))(hp:ev fr p=aj (aJ (aj ⟨g,off,ak⟩)))(hx:ev fr x=aj v)(hv:v.cells=#[v])(hc:c=1)(h1:v.oneCell'=aC)
 (D0:off<xs.length) (h:TL P n W ops Q rest fr (L.set i (aZ e size (ap (aj ⟨g,0,ak⟩) m cap) k (xs.set off v)))):
 TL P n W ops Q (⟨ak,.store t p x,ty,pos,after,ak⟩::rest) fr L:=lg I λact w hr hm K hK=>by
 subst hc;have lR:w.ownsRow 0 e size (ap (aj ⟨g,0,ak⟩) m cap) k xs:=hm.get hi;have agN:=lR;rcases lR.2 with⟨h0,_⟩|⟨g',A9,jZ,he,CI,hg,hnc,LJ,hcs,zo⟩
 grind
 simp only[kH,dh,OW,and_true]at he;obtain⟨rfl,rfl,rfl⟩:=he;have hlen:xs.length=m*size:=lR.1;have agO:off<jZ.size:=by grind
 have hst:=run_storeCells_at P g off e [v] 0 jZ w hg (by grind) (by simp_all);simp only[iu,List.length_singleton]at hst;have rN:jZ.toList.take off++[v]++jZ.toList.drop (off+1)=jZ.toList.set off v:=by
  simp_all[DJ]
 rw[rN]at hst;have e':(execOp act.eval ⟨ak,.store t p x,ty,pos,after,ak⟩).run P w= .ok .skip (w.setRow g (jZ.toList.set off v).toArray):=by
  simp[execOp,hr.ev hp,hr.ev hx,OY,yc,storeVar,hT.size,hv,hst]
 unfold gj;rw[e'];refine hK _ _ (h.go _ _ (hr.uK undef) (hm.CH hi ⟨rfl,rfl,rfl,by simp,λk _ hk=>setRow_other w g k _ (λe=>hk (by subst e;rfl))⟩ ?_ λk hk=> .inl hk));refine⟨by simp_all,.inr ⟨g,cap,_,rfl,CI,setRow_heap w g jZ _ e _ hg,hnc,LJ,by grind,?_⟩⟩;simp only[List.take_set];rw[zo]
theorem Uz{t u e:TypeId}{x:Operand}{m:Nat}{v:Value}{l:List UInt8}(ht:P.underlying t=aj (.slice e))(he:P.underlying e=aj (.int .u8))(hu:P.underlying u=aj .string)(hx:ev fr x=aj v)(hm:m=l.length)(h:SlL W L v m (l.map Xz)):RR P n W ⟨dst,.convert t u x,ty,pos,after,guard⟩ fr L (str l):= .mk λa w hr sU=>by
 subst hm;have OK:=hr.ev hx;obtain⟨base,cap,rfl,_,_,eP⟩:=h w sU;have e':(convert t u (ap base l.length cap)).run P w= .ok (str l) w:=by
  cases l with
  |nil=>
   cases base with
   |none=>simp[convert,run_underlying ht,run_underlying hu,run_underlying he,W9,str];rfl
   |some p=>simp[convert,run_underlying ht,run_underlying hu,run_underlying he,W9,str,loadCells,loadCellsFrom];rfl
  |cons b l=>
   obtain⟨g,off,rfl,hh⟩:=eP (by simp);exact LB ht he hu I hh
 simp_all[execOp]
end
def Enters(P:Program)(f:FuncId):Prop:=∀args w,(callFunc f args).run P w= .ok (.enter f args) w
def SD(P:Program)(f:FuncId):Bool:=match P.funcs[f]? with|some fn=>fn.body.isSome&&!(fn.name== "runtime.NumGoroutine")|none=>aE
theorem Enters.of{f:FuncId}(h:SD P f=aC):Enters P f:=by
 unfold SD at h
 cases e:P.funcs[f]? with
 |none=>simp_all
 |some fn=>
  rw[e]at h;simp only[eX,sH]at h;intro args w;have h1:¬fn.body=none:=λhb=>by simp_all
  simp_all[callFunc]
section
variable{f:FuncId}{ts:Array TypeId}{cl x1 x2 x3 x4 x5:Operand}{v1 v2 v3 v4 v5:Value}{first cap:Array Value}
theorem he0(hf:Enters P f)(hc:ev fr cl=aj (.func (.func f) #[] #[])):∀a w,nH n a fr->(execOp a.eval ⟨dst,.call {callee:= .value cl,args:=#[],argTypes:=ts},ty,pos,after,guard⟩).run P w= .ok (.enter f #[]) w:=λa w hr=>by
 have GH:∀args w,(callFunc f args).run P w= .ok (.enter f args) w:=hf;simp[execOp,resolve,hr.ev hc,AT,invoke,GH]
theorem i_(hf:Enters P f)(hc:ev fr cl=aj (.func (.func f) #[] #[]))(h1:ev fr x1=aj v1):∀a w,nH n a fr->(execOp a.eval ⟨dst,.call {callee:= .value cl,args:=#[x1],argTypes:=ts},ty,pos,after,guard⟩).run P w= .ok (.enter f #[v1]) w:=λa w hr=>by
 have GH:∀args w,(callFunc f args).run P w= .ok (.enter f args) w:=hf;simp[execOp,resolve,hr.ev hc,hr.ev h1,AT,invoke,GH]
theorem fB(hf:Enters P f)(hc:ev fr cl=aj (.func (.func f) #[] #[]))(h1:ev fr x1=aj v1)(h2:ev fr x2=aj v2):∀a w,nH n a fr->(execOp a.eval ⟨dst,.call {callee:= .value cl,args:=#[x1,x2],argTypes:=ts},ty,pos,after,guard⟩).run P w= .ok (.enter f #[v1,v2]) w:=λa w hr=>by
 have GH:∀args w,(callFunc f args).run P w= .ok (.enter f args) w:=hf;simp[execOp,resolve,hr.ev hc,hr.ev h1,hr.ev h2,AT,invoke,GH]
theorem sV(hf:Enters P f)(hc:ev fr cl=aj (.func (.func f) #[] #[]))(h1:ev fr x1=aj v1)(h2:ev fr x2=aj v2)(h3:ev fr x3=aj v3):∀a w,nH n a fr->(execOp a.eval ⟨dst,.call {callee:= .value cl,args:=#[x1,x2,x3],argTypes:=ts},ty,pos,after,guard⟩).run P w= .ok (.enter f #[v1,v2,v3]) w:=λa w hr=>by
 have GH:∀args w,(callFunc f args).run P w= .ok (.enter f args) w:=hf;simp[execOp,resolve,hr.ev hc,hr.ev h1,hr.ev h2,hr.ev h3,AT,invoke,GH]
theorem UA(hf:Enters P f)(hc:ev fr cl=aj (.func (.func f) #[] #[]))(h1:ev fr x1=aj v1)(h2:ev fr x2=aj v2)(h3:ev fr x3=aj v3)(h4:ev fr x4=aj v4):∀a w,nH n a fr->(execOp a.eval ⟨dst,.call {callee:= .value cl,args:=#[x1,x2,x3,x4],argTypes:=ts},ty,pos,after,guard⟩).run P w= .ok (.enter f #[v1,v2,v3,v4]) w:=λa w hr=>by
 have GH:∀args w,(callFunc f args).run P w= .ok (.enter f args) w:=hf;simp[execOp,resolve,hr.ev hc,hr.ev h1,hr.ev h2,hr.ev h3,hr.ev h4,AT,invoke,GH]
theorem CJ(hf:Enters P f)(hc:ev fr cl=aj (.func (.func f) first cap))(h1:ev fr x1=aj v1):∀a w,nH n a fr->(execOp a.eval ⟨dst,.call {callee:= .value cl,args:=#[x1],argTypes:=ts},ty,pos,after,guard⟩).run P w= .ok (.enter f (first++#[v1]++cap)) w:=λa w hr=>by
 have GH:∀args w,(callFunc f args).run P w= .ok (.enter f args) w:=hf;simp[execOp,resolve,hr.ev hc,hr.ev h1,AT,invoke,GH]
end
end
end bZ
namespace bZ
open Go.RowKit cK dS
class bM(P:Program)(t:TypeId)(d:outParam TypeDesc):Prop where
 eq:P.underlying t=aj d
class aK(P:Program)(t:TypeId)(agg:outParam Bool)(c:outParam Nat):Prop where
 ty:Ty P t agg c:=by exact Ty.of (by kernel_rfl)
class dJ(P:Program)(t:TypeId)(f:Nat)(o:outParam Nat):Prop where
 fld:Fld P t f o:=by exact Fld.of (by kernel_rfl)
class rO(P:Program)(t:TypeId)(e:outParam TypeId)(size bytes:outParam Nat):Prop where
 el:El P t e size bytes:=by exact El.of (by kernel_rfl)
class aI(P:Program)(f:FuncId):Prop where
 en:Enters P f:=by exact Enters.of (by kernel_rfl)
class eQ(P:Program)(t:TypeId)(cs:outParam (Array Value)):Prop where
 zero:(P.info? t).map (λi=>i.zero.map Value.cells)=aj (aj cs):=by kernel_rfl
section
variable{P:Program}{n:Nat}{W:bL}{fr:Fr}{L:List b9}{Q:Exit->Act->World->Prop}{ops:Array Oper}{rest:List Oper}{d:Nat}{ty:TypeId}{pos:String}{after:Array Edge}
theorem eQ.ex{t:TypeId}{cs:Array Value}[h:eQ P t cs]:∃i z,P.info? t=aj i/\i.zero=aj z/\z.cells=cs:=by
 have h1:=h.zero
 simp_all
theorem a8{t:TypeId}{cs:Array Value}[eQ P t cs](hn:dj d n=aC)(h:∀g,TL P n W ops Q rest ((d,aJ (aj ⟨g,0,ak⟩))::fr) (L++[aP g cs t])):
 TL P n W ops Q (⟨aj d,.alloc t,ty,pos,after,ak⟩::rest) fr L:=by
 obtain⟨i,z,h1,h2,h3⟩:=eQ.ex (P:=P) (t:=t);exact XM h1 h2 h3 hn h
theorem fN{t e:TypeId}{x:Operand}{v:Value}{c bytes:Nat}{cs:Array Value}[tU:rO P t e c bytes](hx:ev fr x=aj v)(hcs:v.cells=cs)(hv:cs.size=c)(hs:yg c 16777216=aC)(hn:dj d n=aC)
 (h:∀g,TL P n W ops Q rest ((d,ap (aj ⟨g,0,ak⟩) 1 1)::fr) (L++[aP g cs e])):TL P n W ops Q (⟨aj d,.buildSlice t 1 #[(0,x)],ty,pos,after,ak⟩::rest) fr L:=by
 obtain⟨inf,z,ht,zq,hz,oe,OL,Pv,hsz⟩:=tU.el.ex;exact abS ht zq hz oe Pv hx hcs hv hsz (k8 hs) hn h
theorem Mem.Pw{w:World}(e:TypeId)(size:Nat)(h:Mem W L w):Mem W (L++[aZ e size (ap ak 0 0) 0 []]) w:=
 h.append (Gr.refl w) (nI.one (World.ownsRow_nil _ _ _ _) λk hk=>by cases hk)
theorem jd{c:Code}(e:TypeId)(size:Nat)(h:T P n W c Q fr (L++[aZ e size (ap ak 0 0) 0 []])):T P n W c Q fr L:=⟨λa w hr hm=>h.go a w hr (hm.Pw e size)⟩
theorem wY(e:TypeId)(size:Nat)(h:TL P n W ops Q rest fr (L++[aZ e size (ap ak 0 0) 0 []])):TL P n W ops Q rest fr L:=⟨λa w hr hm=>h.go a w hr (hm.Pw e size)⟩
theorem abT{L':List b9}(is:List Nat)(hn:is.Nodup)(hl:L'=is.filterMap λi=>L[i]?)(h:TL P n W ops Q rest fr L'):TL P n W ops Q rest fr L:=⟨λa w hr hm=>h.go a w hr (hm.pick is hn hl)⟩
theorem mX{t e:TypeId}{s x:Operand}{i q g size bytes m:Nat}{v:Value}{xs:List Value}{cs:Array Value}{T:TypeId}[tU:rO P t e size bytes](hi:L[i]?=aj (aZ e size v m xs))(hq:L[q]?=aj (aP g cs T))(hs:ev fr s=aj v)(hx:ev fr x=aj (ap (aj ⟨g,0,ak⟩) 1 1))
 (hl:cs.size=size) (h1:cs.toList.all eY=aC) (qA:m+1<=140737488355328) (hb:(m+1)*bytes<=140737488355328) (hn:dj d n=aC)
 (h:∀v',TL P n W ops Q rest ((d,v')::fr) (L.set i (aZ e size v' (m+1) (xs++cs.toList)))):
 TL P n W ops Q (⟨aj d,.call {callee:= .builtin .append,args:=#[s,x],argTypes:=#[t,t]},ty,pos,after,ak⟩::rest) fr L:=
 Hz tU.el hi hs hx (λj u hj=>by rw[cK.eV,cX];exact aH hq (by simpa using hj)) (by simp_all) (uE.1 h1) qA hb hn h
theorem l8{t e:TypeId}{s x:Operand}{i q g bytes m:Nat}{v u:Value}{xs:List Value}{cs:Array Value}{T:TypeId}[tU:rO P t e 1 bytes](hi:L[i]?=aj (aZ e 1 v m xs))(hq:L[q]?=aj (aP g cs T))(hs:ev fr s=aj v)(hx:ev fr x=aj (ap (aj ⟨g,0,ak⟩) 1 1))
 (hu:cs=#[u]) (h1:u.oneCell'=aC) (qA:m+1<=140737488355328) (hb:(m+1)*bytes<=140737488355328) (hn:dj d n=aC)
 (h:∀v',TL P n W ops Q rest ((d,v')::fr) (L.set i (aZ e 1 v' (m+1) (xs++[u])))):
 TL P n W ops Q (⟨aj d,.call {callee:= .builtin .append,args:=#[s,x],argTypes:=#[t,t]},ty,pos,after,ak⟩::rest) fr L:=by
 subst hu;exact mX hi hq hs hx I (by grind) qA hb hn h
theorem ez.front{p:Nat->Prop}{w:World}{L L':List b9}(h:ez p w (L++L')):ez p w L:=
  ⟨λi o hi=>h.all i o (by grind),
   λi j o o' sE hi hj=>h.apart i j o o' sE (by grind) (by grind)⟩
theorem Mem.front{w:World}{L L':List b9}(h:Mem W (L++L') w):Mem W L w:=⟨h.low,h.owns.front⟩
theorem LK{L':List b9}(h:TL P n W ops Q rest fr L):TL P n W ops Q rest fr (L++L'):=⟨λa w hr hm=>h.go a w hr hm.front⟩
theorem ku{t e:TypeId}{s x:Operand}{i bytes m d':Nat}{v u:Value}{xs:List Value}{ty':TypeId}{pos':String}{Px:Array Edge}[tU:rO P t e 1 bytes](hi:L[i]?=aj (aZ e 1 v m xs))(hx:ev fr x=aj u)(hu:u.cells=#[u])(h1:u.oneCell'=aC)(hn':dj d' n=aC)
 (hs:ev ((d',undef)::fr) s=aj v) (hne:∀z,s= .tmp z->fW d' z=aE) (qA:m+1<=140737488355328) (hb:(m+1)*bytes<=140737488355328) (hn:dj d n=aC)
 (h:∀z v',TL P n W ops Q rest ((d,v')::(d',z)::fr) (L.set i (aZ e 1 v' (m+1) (xs++[u])))):
 TL P n W ops Q (⟨aj d',.buildSlice t 1 #[(0,x)],ty',pos',Px,ak⟩::⟨aj d,.call {callee:= .builtin .append,args:=#[s,.tmp d'],argTypes:=#[t,t]},ty,pos,after,ak⟩::rest) fr L:=by
 have hil:i<L.length:=(dg.1 hi).1;have wZ:∀z,ev ((d',z)::fr) s=aj v:=λz=>by
  cases s with
  |tmp q=>simp_all[ev,look]
  |const q=>exact hs
  |global q=>exact hs
  |func q=>exact hs
 refine fN hx hu I I hn' λg=>?_;refine mX (i:=i) (q:=L.length) (by rw[iq hil];exact hi) (Pa) (wZ _) (by simp[ev,look]) I (by grind) qA hb hn λv'=>?_;rw[Xr _ _ hil];exact LK (h _ v')
theorem jO{t e:TypeId}{s x:Operand}{i c bytes m d':Nat}{v:Value}{cs:Array Value}{xs:List Value}{ty':TypeId}{pos':String}{Px:Array Edge}[tU:rO P t e c bytes](hi:L[i]?=aj (aZ e c v m xs))(hx:ev fr x=aj (.agg cs))(hc:cs.size=c)(Py:yg c 16777216=aC)(h1:cs.toList.all eY=aC)(hn':dj d' n=aC)
 (hs:ev ((d',undef)::fr) s=aj v) (hne:∀z,s= .tmp z->fW d' z=aE) (qA:m+1<=140737488355328) (hb:(m+1)*bytes<=140737488355328) (hn:dj d n=aC)
 (h:∀z v',TL P n W ops Q rest ((d,v')::(d',z)::fr) (L.set i (aZ e c v' (m+1) (xs++cs.toList)))):
 TL P n W ops Q (⟨aj d',.buildSlice t 1 #[(0,x)],ty',pos',Px,ak⟩::⟨aj d,.call {callee:= .builtin .append,args:=#[s,.tmp d'],argTypes:=#[t,t]},ty,pos,after,ak⟩::rest) fr L:=by
 have hil:i<L.length:=(dg.1 hi).1;have wZ:∀z,ev ((d',z)::fr) s=aj v:=λz=>by
  cases s with
  |tmp q=>simp_all[ev,look]
  |const q=>exact hs
  |global q=>exact hs
  |func q=>exact hs
 refine fN hx I hc Py hn' λg=>?_;refine mX (i:=i) (q:=L.length) (by rw[iq hil];exact hi) (Pa) (wZ _) (by simp[ev,look]) hc h1 qA hb hn λv'=>?_;rw[Xr _ _ hil];exact LK (h _ v')
theorem dN{e':Exit}(e:TypeId)(size:Nat)(h:E n W e' Q fr (L++[aZ e size (ap ak 0 0) 0 []])):E n W e' Q fr L:=⟨λa w hr hm=>h.go a w hr (hm.Pw e size)⟩
def cI(e:TypeId)(size m:Nat)(xs:List Value)(f:Value->Value):Spec Value:=⟨λ_=>True,f,λv=>[aZ e size v m xs]⟩
end
def XP(fr:Fr):Op->Option Value
 | .move x=>ev fr x
 | .assign x=>ev fr x
 | .extract t i=>match ev fr t with
  |some (.tuple vs)=>vs[i]?
  |_=>ak
 | .pick c x y=>match ev fr c with
  |some (.bool aC)=>ev fr x
  |some (.bool aE)=>ev fr y
  |_=>ak
 | .unOp .not _ x=>match ev fr x with
  |some (.bool aC)=>aj (.bool aE)
  |some (.bool aE)=>aj (.bool aC)
  |_=>ak
 |_=>ak
section
variable{P:Program}{n:Nat}{W:bL}{fr:Fr}{L:List b9}{dst:Option Tmp}{ty:TypeId}{pos:String}{after:Array Edge}{guard:Option (Nat×Bool)}
theorem qp{op:Op}{v:Value}(h:XP fr op=aj v):RR P n W ⟨dst,op,ty,pos,after,guard⟩ fr L v:=by
 unfold XP at h;split at h;exact wW h;exact Ut h
 grind[Pq]
 grind[XH,XI]
 ·split at h
  ·rename_i e
   simp only[dh]at h;subst h;exact Jn e I
  ·rename_i e
   simp only[dh]at h;subst h;exact Jn e I
  cases h
 cases h
end
section
variable{P:Program}{n:Nat}{W:bL}{fr:Fr}{L:List b9}{Q:Exit->Act->World->Prop}{ops:Array Oper}{rest:List Oper}{d:Nat}{o:Oper}{v:Value}
theorem qv(hg:o.guard=ak)(hr:RR P n W o fr L v)(hd:o.dst=aj d)(hn:dj d n=aC)(h:TL P n W ops Q rest ((d,v)::fr) L):TL P n W ops Q (o::rest) fr L:=dx hr hg hd hn h
theorem qg{q e:Nat}{b:Bool}(hg:o.guard=aj (q,b))(hj:(ops[q]?).bind (·.dst)=aj e)(hl:look fr e=aj (.bool b))(h:TL P n W ops Q ({o with guard:=ak}::rest) fr L):TL P n W ops Q (o::rest) fr L:=C9 hg hj hl h
theorem qs{j e:Nat}{b:Bool}{u:Value}(hg:o.guard=aj (j,b))(hj:(ops[j]?).bind (·.dst)=aj e)(hl:look fr e=aj u)(hu:abO b u=aC)(hd:o.dst=aj d)(hn:dj d n=aC)(h:TL P n W ops Q rest ((d,undef)::fr) L):TL P n W ops Q (o::rest) fr L:=abP hg hj hl hu hd hn h
theorem OM{c:Operand}{x y:Code}(hc:ev fr c=aj (.bool aC))(h:T P n W x Q fr L):T P n W (.cond c x y) Q fr L:=Jj hc h
theorem LL{c:Operand}{x y:Code}(hc:ev fr c=aj (.bool aE))(h:T P n W y Q fr L):T P n W (.cond c x y) Q fr L:=Jk hc h
theorem qT{p:Prop}[inst:Decidable p](h:p):decide p=true:=decide_eq_true h
theorem qF{p:Prop}[inst:Decidable p](h:¬p):decide p=false:=decide_eq_false h
variable{dst:Option Tmp}{ty:TypeId}{pos:String}{after:Array Edge}{guard:Option (Nat×Bool)}
theorem xr{t e:TypeId}{x:Operand}{p:Option Addr}{m cap:Nat}(ht:P.underlying t=aj (.slice e))(hx:ev fr x=aj (ap p m cap)):RR P n W ⟨dst,.call {callee:= .builtin .len,args:=#[x],argTypes:=#[t]},ty,pos,after,guard⟩ fr L (av az m):=Pt ht hx
theorem agP{s:TypeId}{x:Operand}{f o b off r:Nat}(hf:Fld P s f o)(hx:ev fr x=aj (aJ (aj ⟨b,off,ak⟩)))(hr:off+o=r):RR P n W ⟨dst,.fieldAddr s x f,ty,pos,after,guard⟩ fr L (aJ (aj ⟨b,r,ak⟩)):=LI hf hx hr
end
section
variable{P:Program}{n:Nat}{W:bL}{fr:Fr}{L:List b9}{Q:Exit->Act->World->Prop}{ops:Array Oper}{rest:List Oper}{d:Nat}{o:Oper}{v:Value}{dst:Option Tmp}{ty:TypeId}{pos:String}{after:Array Edge}{guard:Option (Nat×Bool)}{t u:TypeId}{x y:Operand}{k:IntKind}{m m':Int}
theorem QV(hr:RR P n W o fr L v)(h:TL P n W ops Q rest ((d,v)::fr) L)(hg:o.guard=none:=by exact I)(hd:o.dst=aj d:=by exact I)(hn:dj d n=true:=by exact I):TL P n W ops Q (o::rest) fr L:=dx hr hg hd hn h
theorem QP{op:Op}(h:XP fr op=aj v:=by exact I):RR P n W ⟨dst,op,ty,pos,after,guard⟩ fr L v:=qp h
theorem QS{l:List UInt8}(hx:ev fr x=aj (str l):=by exact I)(ht:P.underlying t=aj .string:=by exact bM.eq):RR P n W ⟨dst,.call {callee:= .builtin .len,args:=#[x],argTypes:=#[t]},ty,pos,after,guard⟩ fr L (av az l.length):=Uv ht hx
theorem QL{e:TypeId}{p:Option Addr}{m cap:Nat}(hx:ev fr x=aj (ap p m cap):=by exact I)(ht:P.underlying t=aj (.slice e):=by exact bM.eq):RR P n W ⟨dst,.call {callee:= .builtin .len,args:=#[x],argTypes:=#[t]},ty,pos,after,guard⟩ fr L (av az m):=xr ht hx
theorem QA{s:TypeId}{f o b off r:Nat}(hx:ev fr x=aj (aJ (aj ⟨b,off,ak⟩)):=by exact I)(hf:Fld P s f o:=by exact dJ.fld)(hr:off+o=r:=by exact I):RR P n W ⟨dst,.fieldAddr s x f,ty,pos,after,guard⟩ fr L (aJ (aj ⟨b,r,ak⟩)):=LI hf hx hr
theorem QlT(hx:ev fr x=aj (.int k m):=by exact I)(hy:ev fr y=aj (.int k m'):=by exact I)(h:m<m':=by omega):RR P n W ⟨dst,.binOp .lss t x y u,ty,pos,after,guard⟩ fr L (.bool aC):=dq hx hy (decide_eq_true h)
theorem QlF(hx:ev fr x=aj (.int k m):=by exact I)(hy:ev fr y=aj (.int k m'):=by exact I)(h:¬(m<m'):=by omega):RR P n W ⟨dst,.binOp .lss t x y u,ty,pos,after,guard⟩ fr L (.bool aE):=dq hx hy (decide_eq_false h)
theorem QmT(hx:ev fr x=aj (.int k m):=by exact I)(hy:ev fr y=aj (.int k m'):=by exact I)(h:m<=m':=by omega):RR P n W ⟨dst,.binOp .leq t x y u,ty,pos,after,guard⟩ fr L (.bool aC):=A7 hx hy (decide_eq_true h)
theorem QmF(hx:ev fr x=aj (.int k m):=by exact I)(hy:ev fr y=aj (.int k m'):=by exact I)(h:¬(m<=m'):=by omega):RR P n W ⟨dst,.binOp .leq t x y u,ty,pos,after,guard⟩ fr L (.bool aE):=A7 hx hy (decide_eq_false h)
theorem QgT(hx:ev fr x=aj (.int k m):=by exact I)(hy:ev fr y=aj (.int k m'):=by exact I)(h:m'<m:=by omega):RR P n W ⟨dst,.binOp .gtr t x y u,ty,pos,after,guard⟩ fr L (.bool aC):=ea hx hy (decide_eq_true h)
theorem QgF(hx:ev fr x=aj (.int k m):=by exact I)(hy:ev fr y=aj (.int k m'):=by exact I)(h:¬(m'<m):=by omega):RR P n W ⟨dst,.binOp .gtr t x y u,ty,pos,after,guard⟩ fr L (.bool aE):=ea hx hy (decide_eq_false h)
theorem QhT(hx:ev fr x=aj (.int k m):=by exact I)(hy:ev fr y=aj (.int k m'):=by exact I)(h:m'<=m:=by omega):RR P n W ⟨dst,.binOp .geq t x y u,ty,pos,after,guard⟩ fr L (.bool aC):=ff hx hy (decide_eq_true h)
theorem QhF(hx:ev fr x=aj (.int k m):=by exact I)(hy:ev fr y=aj (.int k m'):=by exact I)(h:¬(m'<=m):=by omega):RR P n W ⟨dst,.binOp .geq t x y u,ty,pos,after,guard⟩ fr L (.bool aE):=ff hx hy (decide_eq_false h)
theorem QeT(hx:ev fr x=aj (.int k m):=by exact I)(hy:ev fr y=aj (.int k m'):=by exact I)(h:m=m':=by omega):RR P n W ⟨dst,.binOp .eql t x y u,ty,pos,after,guard⟩ fr L (.bool aC):=cZ hx hy (decide_eq_true h)
theorem QeF(hx:ev fr x=aj (.int k m):=by exact I)(hy:ev fr y=aj (.int k m'):=by exact I)(h:¬(m=m'):=by omega):RR P n W ⟨dst,.binOp .eql t x y u,ty,pos,after,guard⟩ fr L (.bool aE):=cZ hx hy (decide_eq_false h)
theorem QnT(hx:ev fr x=aj (.int k m):=by exact I)(hy:ev fr y=aj (.int k m'):=by exact I)(h:m≠m':=by omega):RR P n W ⟨dst,.binOp .neq t x y u,ty,pos,after,guard⟩ fr L (.bool aC):=dl hx hy (decide_eq_true h)
theorem QnF(hx:ev fr x=aj (.int k m):=by exact I)(hy:ev fr y=aj (.int k m'):=by exact I)(h:¬(m≠m'):=by omega):RR P n W ⟨dst,.binOp .neq t x y u,ty,pos,after,guard⟩ fr L (.bool aE):=dl hx hy (decide_eq_false h)
theorem QaA{r:Int}(hx:ev fr x=aj (av az m):=by exact I)(hy:ev fr y=aj (av az m'):=by exact I)(h0: -9223372036854775808<=m+m':=by omega)(h1:m+m'<=9223372036854775807:=by omega)(hr:m+m'=r:=by exact I):RR P n W ⟨dst,.binOp .add t x y u,ty,pos,after,guard⟩ fr L (av az r):=dW hx hy h0 h1 hr
theorem QaS{r:Int}(hx:ev fr x=aj (av az m):=by exact I)(hy:ev fr y=aj (av az m'):=by exact I)(h0: -9223372036854775808<=m-m':=by omega)(h1:m-m'<=9223372036854775807:=by omega)(hr:m-m'=r:=by exact I):RR P n W ⟨dst,.binOp .sub t x y u,ty,pos,after,guard⟩ fr L (av az r):=eL hx hy h0 h1 hr
theorem QaM{r:Int}(hx:ev fr x=aj (av az m):=by exact I)(hy:ev fr y=aj (av az m'):=by exact I)(h0: -9223372036854775808<=m*m':=by omega)(h1:m*m'<=9223372036854775807:=by omega)(hr:m*m'=r:=by exact I):RR P n W ⟨dst,.binOp .mul t x y u,ty,pos,after,guard⟩ fr L (av az r):=XJ hx hy h0 h1 hr
end
class Cd(p:Prop)(q:outParam Prop):Prop where
 go:q->p
theorem QZ{p q:Prop}[h:Cd p q](x:q):p:=h.go x
section
variable{P:Program}{n:Nat}{W:bL}{fr:Fr}{L:List b9}{Q:Exit->Act->World->Prop}{ops:Array Oper}{x y:Code}{id:Nat}{l:List Oper}{K:Act->World->Prop}
instance:Cd (TL P n W ops Q [] fr L) (E n W .normal Q fr L):=⟨jg⟩
instance:Cd (T P n W (x.seq y) Q fr L) (T P n W x (Exit.then (y.wp P Q) Q) fr L):=⟨bW⟩
instance:Cd (T P n W (.region id l.toArray aE) Q fr L) (TL P n W l.toArray Q l fr L):=⟨bB⟩
instance:Cd (T P n W .skip Q fr L) (E n W .normal Q fr L):=⟨nJ⟩
instance:Cd (T P n W (.exit id) Q fr L) (E n W (.exit id) Q fr L):=⟨mT⟩
instance:Cd (T P n W .ret Q fr L) (E n W .ret Q fr L):=⟨zl⟩
instance:Cd (T P n W (.block id x) Q fr L) (T P n W x (uy id Q) fr L):=⟨lG⟩
instance:Cd (E n W .normal (Exit.then (y.wp P Q) Q) fr L) (T P n W y Q fr L):=⟨jA⟩
instance:Cd (E n W (.exit id) (Exit.then K Q) fr L) (E n W (.exit id) Q fr L):=⟨kP⟩
instance:Cd (E n W .ret (Exit.then K Q) fr L) (E n W .ret Q fr L):=⟨ke⟩
instance:Cd (E n W .normal (uy id Q) fr L) (E n W .normal Q fr L):=⟨jL⟩
instance:Cd (E n W .ret (uy id Q) fr L) (E n W .ret Q fr L):=⟨jM⟩
end
section
variable{α β:Type}
theorem zA{a:α}{l m:List α}:a::l++m=a::(l++m):=rfl
theorem zB{l:List α}:[]++l=l:=rfl
theorem zC{l:List α}:l++[]=l:=du l
theorem zD{f:α->Option β}{a:α}{l:List α}:uD f (a::l)=match f a with
 |none=>uD f l
 |some b=>b::uD f l:=List.filterMap_cons
theorem zE{f:α->Option β}:uD f []=[]:=rfl
theorem zF{a:α}{l:List α}{i:Nat}:(a::l)[i+1]?=l[i]?:=DK
theorem zG{a:α}{l:List α}:(a::l)[0]?=aj a:=rfl
theorem zH{a b:α}{l:List α}:(a::l).set 0 b=b::l:=rfl
theorem zI{a b:α}{l:List α}{i:Nat}:(a::l).set (i+1) b=a::l.set i b:=rfl
end
end bZ
namespace bZ
open Go.RowKit cK dS
section
variable{P:Program}{n:Nat}{W:bL}{fr:Fr}{L:List b9}{Q:Exit->Act->World->Prop}{ops:Array Oper}{rest:List Oper}{d:Nat}{dst:Option Tmp}{ty:TypeId}{pos:String}{after:Array Edge}{guard:Option (Nat×Bool)}
def sW(fr:Fr):List (Nat×Operand)->Option (List (Nat×Value))
 |[]=>aj []
 |(i,x)::r=>match ev fr x,sW fr r with|some v,aj l=>aj ((i,v)::l)|_,_=>ak
theorem sX{a:Act}(hr:nH n a fr):∀(l:List (Nat×Operand)) (vs:List (Nat×Value)),sW fr l=aj vs->l.map (λ(i,x)=>(i,a.eval x))=vs
 |[],vs,h=>by simp only[sW,dh]at h;subst h;rfl
 | (i,x)::r,vs,h=>by
  simp only[sW]at h;split at h
  ·rename_i v l h1 h2
   simp only[dh]at h;subst h;simp[hr.ev h1,sX hr r l h2]
  cases h
theorem bD{t:TypeId}{parts:Array (Nat×Operand)}{ps:List (Nat×Value)}{cs:Array Value}(hp:sW fr parts.toList=aj ps)(hrun:∀w,(df t ps.toArray).run P w= .ok (.agg cs) w):RR P n W ⟨dst,.build t parts,ty,pos,after,guard⟩ fr L (.agg cs):= .mk λa w hr _=>by
 have e:(parts.map λ(i,x)=>(i,a.eval x))=ps.toArray:=by
  rw[<-sX hr _ _ hp,<-DC,DB]
 simp only[execOp,nE];rw[e,hrun w];rfl
theorem LM(c0:Nat->Option (Nat×Nat))(Lo:∀i,c0 i=aj (i,1)):∀(vs:List Value) (k:Nat) (acc:Array Value),k+vs.length<=acc.size->(∀v∈vs,v.cells=#[v])->j_ c0 acc ((vs.zipIdx k).map λ(v,i)=>(i,v))=aj (acc.toList.take k++vs++acc.toList.drop (k+vs.length)).toArray
 |[],k,acc,h,_=>by simp[j_]
 | v ::vs,k,acc,h,h1=>by
  simp only[db]at h;have hv:=h1 v (by simp);rw[Jf,gv];simp only[j_,Lo,hv];rw[if_neg (by simp;omega)];have e:((#[v]:Array Value).zipIdx.foldl (λcs (x:Value×Nat)=>cs.setIfInBounds (k+x.2) x.1) acc)=acc.setIfInBounds k v:=by simp
  rw[e,LM c0 Lo vs (k+1) _ (by simp;omega) (λu hu=>h1 u (by simp[hu]))]
  congr 2
  have hA:(acc.toList.take k).length=k:=by simp;omega
  have hA1:(acc.toList.take k++[v]).length=k+1:=by rw[bI,hA];rfl
  have e2:acc.toList.set k v=(acc.toList.take k++[v])++acc.toList.drop (k+1):=by
   rw[DJ,if_pos (by simp;omega)];simp
  simp only[I7,db];rw[e2,A1 hA1,<-kI,A2 hA1,kI];simp only[dZ,jf,eI];rw[show k+1+vs.length=k+(vs.length+1)by omega]
theorem XQ{t e:TypeId}{bytes:Nat}(tU:El P t e 1 bytes)(vs:List Value)(h1:∀v∈vs,v.cells=#[v])(h0:0<vs.length)(hm:vs.length<=16777216)(w:World):
 (uz t vs.length (vs.zipIdx.map λ(v,i)=>(i,v)).toArray).run P w= .ok (ap (aj ⟨w.heap.size,0,ak⟩) vs.length vs.length) (w.alloc (.cells vs.toArray e)):=by
 obtain⟨i,z,ht,hi,hz,hc,_,hzc,_⟩:=tU.ex;have uN:=LM (λi=>aj (i*1,1)) (by simp) vs 0 ((DD (vs.length*1)).map (z.cells[· %z.cells.size]!)) (by simp) h1
 simp only[uG,eI,cX]at uN;rw[ir (by simp)]at uN;simp only[du]at uN;have hne:¬(vs.length*1>2^24):=by omega
 have XO:¬(vs.length*1=0):=by omega
 simp only[uz,nE,run_underlying ht,q9,sizeOf,typeInfo,run_program,hi,pu,hc,zeroValue,hz,if_neg hne,if_neg XO];simp only[uN,newRow];simp
theorem SE{t e:TypeId}{bytes m:Nat}{parts:Array (Nat×Operand)}(vs:List Value)[tU:rO P t e 1 bytes](hp:sW fr parts.toList=aj (vs.zipIdx.map λ(v,i)=>(i,v)))(hm:vs.length=m)(h0:dj 0 m=aC)(h1:∀v∈vs,v.cells=#[v])(hs:yg m 16777216=aC)(hn:dj d n=aC)
 (h:∀g,TL P n W ops Q rest ((d,ap (aj ⟨g,0,ak⟩) m m)::fr) (L++[aP g vs.toArray e])):TL P n W ops Q (⟨aj d,.buildSlice t m parts,ty,pos,after,ak⟩::rest) fr L:=by
 subst hm;refine Pu (λa w hr=>?_) hn h;have e:(parts.map λ(i,x)=>(i,a.eval x))=(vs.zipIdx.map λ(v,i)=>(i,v)).toArray:=by
  rw[<-sX hr _ _ hp,<-DC,DB]
 rw[e];exact XQ tU.el vs h1 (k8 h0) (k8 hs) w
theorem Mem.agQ{w:World}{i g m size:Nat}{cs:Array Value}{e:TypeId}(h:Mem W L w)(hi:L[i]?=aj (aP g cs e))(hc:cs.size=m*size)(hm:m<=140737488355328):Mem W (L.set i (aZ e size (ap (aj ⟨g,0,ak⟩) m m) m cs.toList)) w:=
 h.CH hi ⟨rfl,rfl,rfl,bz _,λ_ _ _=>rfl⟩ ⟨by simp[hc],.inr ⟨g,m,cs,rfl,bH _,h.get hi,bz _,by unfold maxLen;omega,hc,by rw[fU (by simp[hc])]⟩⟩ λk hk=> .inl hk
theorem zr{i g m:Nat}{cs:Array Value}{e:TypeId}(size:Nat)(hi:L[i]?=aj (aP g cs e))(hc:cs.size=m*size)(hm:m<=140737488355328)(h:TL P n W ops Q rest fr (L.set i (aZ e size (ap (aj ⟨g,0,ak⟩) m m) m cs.toList))):TL P n W ops Q rest fr L:=
 ⟨λa w hr sU=>h.go a w hr (sU.agQ hi hc hm)⟩
theorem aX{t:TypeId}{p x:Operand}{i g c:Nat}{cs cs':Array Value}{T:TypeId}{agg:Bool}[hT:aK P t agg c](hi:L[i]?=aj (aP g cs T))(hp:ev fr p=aj (aJ (aj ⟨g,0,ak⟩)))(hx:ev fr x=aj (.agg cs'))(hv:cs'.size=c)(h1:cs'.toList.all eY=aC)
 (hc:cs.size=c) (h:TL P n W ops Q rest fr (L.set i (aP g cs' T))):
 TL P n W ops Q (⟨ak,.store t p x,ty,pos,after,ak⟩::rest) fr L:=
 pD hT.ty hi hp hx hv h1 J (by
  show cs'=(cs.toList.take 0++cs'.toList++cs.toList.drop (0+c)).toArray
  rw[ir (by simp[hc])];simp) h
theorem bV{t:TypeId}{p x:Operand}{i g off:Nat}{cs:Array Value}{T:TypeId}{agg:Bool}{v:Value}[hT:aK P t agg 1](hi:L[i]?=aj (aP g cs T))(hp:ev fr p=aj (aJ (aj ⟨g,off,ak⟩)))(hx:ev fr x=aj v)(hv:v.cells=#[v])(h1:v.oneCell'=aC)
 (hc:dj off cs.size=aC) (h:TL P n W ops Q rest fr (L.set i (aP g (cs.setIfInBounds off v) T))):
 TL P n W ops Q (⟨ak,.store t p x,ty,pos,after,ak⟩::rest) fr L:=by
 have hlt:off<cs.size:=k8 hc;refine pD hT.ty hi hp hx (by rw[hv];rfl) (by rw[hv];simp[h1]) J ?_ h;rw[hv];apply q7;simp only[I7];rw[DJ,if_pos (by simpa using hlt)];simp
theorem D6{t u:TypeId}{x y:Operand}{xs ys:Array Value}{b:Bool}(hx:ev fr x=aj (.agg xs))(hy:ev fr y=aj (.agg ys))(hg:P.eqGuardType P.depth t=aE)(h:∀w,(lQ 10000 t (.agg xs) (.agg ys)).run P w= .ok b w):RR P n W ⟨dst,.binOp .eql t x y u,ty,pos,after,guard⟩ fr L (.bool b):= .mk λa w hr _=>by
 simp only[execOp,hr.ev hx,hr.ev hy,nE,run_eqGuard_agg w .eql t x y xs ys hg,q9,run_eql_struct,h w];rfl
theorem uO{t u:TypeId}{x y:Operand}{xs ys:Array Value}{b c:Bool}(hx:ev fr x=aj (.agg xs))(hy:ev fr y=aj (.agg ys))(hg:P.eqGuardType P.depth t=aE)(h:∀w,(lQ 10000 t (.agg xs) (.agg ys)).run P w= .ok b w)(hc:(!b)=c):RR P n W ⟨dst,.binOp .neq t x y u,ty,pos,after,guard⟩ fr L (.bool c):= .mk λa w hr _=>by
 subst hc;simp only[execOp,hr.ev hx,hr.ev hy,nE,run_eqGuard_agg w .neq t x y xs ys hg,q9,run_neq_struct,h w];rfl
theorem eJ{fn:Func}{R:Ending->World->Prop}{t u:Tmp}{T:TypeId}{i g c:Nat}{cs:Array Value}{T':TypeId}{z:Value}[hT:aK P T aC c](mO:fn.results=#[.cell t T,.tmp u])(hp:look fr t=aj (aJ (aj ⟨g,0,ak⟩)))(hi:L[i]?=aj (aP g cs T'))(hc:cs.size=c)(hz:look fr u=aj z)
 (h:∀w,Mem W L w->R (.returned (.tuple #[.agg cs,z])) w):E n W .ret (bodyPost P fn R) fr L:=
 B1 λa w hr sU=>⟨_,by
  have D7:=run_loadCells_list (P:=P) w ⟨g,0,ak⟩ cs.toList λj v hj=>by rw[eV,cX];exact aH hi (by simpa using hj) w sU
  have hl:(loadCells ⟨g,0,ak⟩ c).run P w= .ok cs w:=by rw[<-hc];simpa using D7
  have hv:(loadVar T ⟨g,0,ak⟩).run P w= .ok (.agg cs) w:=by simp[loadVar,hT.ty.agg,hT.ty.size,hl]
  simp[results,mO,x7,hr.get t _ hp,hr.get u z hz,asAddr,hv],h w sU⟩
theorem fC{fn:Func}{R:Ending->World->Prop}{t u s:Tmp}{T:TypeId}{i g c:Nat}{cs:Array Value}{T':TypeId}{z y:Value}[hT:aK P T aC c](mO:fn.results=#[.cell t T,.tmp u,.tmp s])(hp:look fr t=aj (aJ (aj ⟨g,0,ak⟩)))(hi:L[i]?=aj (aP g cs T'))(hc:cs.size=c)(hz:look fr u=aj z)(hy:look fr s=aj y)
 (h:∀w,Mem W L w->R (.returned (.tuple #[.agg cs,z,y])) w):E n W .ret (bodyPost P fn R) fr L:=
 B1 λa w hr sU=>⟨_,by
  have D7:=run_loadCells_list (P:=P) w ⟨g,0,ak⟩ cs.toList λj v hj=>by rw[eV,cX];exact aH hi (by simpa using hj) w sU
  have hl:(loadCells ⟨g,0,ak⟩ c).run P w= .ok cs w:=by rw[<-hc];simpa using D7
  have hv:(loadVar T ⟨g,0,ak⟩).run P w= .ok (.agg cs) w:=by simp[loadVar,hT.ty.agg,hT.ty.size,hl]
  simp[results,mO,x7,hr.get t _ hp,hr.get u z hz,hr.get s y hy,asAddr,hv],h w sU⟩
theorem fZ{fn:Func}{R:Ending->World->Prop}{t:Tmp}{T:TypeId}{i g c:Nat}{cs:Array Value}{T':TypeId}[hT:aK P T aC c](mO:fn.results=#[.cell t T])(hp:look fr t=aj (aJ (aj ⟨g,0,ak⟩)))(hi:L[i]?=aj (aP g cs T'))(hc:cs.size=c)
 (h:∀w,Mem W L w->R (.returned (.agg cs)) w):E n W .ret (bodyPost P fn R) fr L:=
 B1 λa w hr sU=>⟨_,by
  have D7:=run_loadCells_list (P:=P) w ⟨g,0,ak⟩ cs.toList λj v hj=>by rw[eV,cX];exact aH hi (by simpa using hj) w sU
  have hl:(loadCells ⟨g,0,ak⟩ c).run P w= .ok cs w:=by rw[<-hc];simpa using D7
  have hv:(loadVar T ⟨g,0,ak⟩).run P w= .ok (.agg cs) w:=by simp[loadVar,hT.ty.agg,hT.ty.size,hl]
  simp[results,mO,x7,hr.get t _ hp,asAddr,hv],h w sU⟩
end
end bZ
namespace bZ
open Go.RowKit cK dS
section
variable{P:Program}{ops:Array Oper}{md:uB}{Q:Exit->Act->World->Prop}{U:World->Prop}
theorem kf{K:Act->World->Prop}{i:Nat}{o:Oper}{a:Act}{w:World}(hi:ops[i]?=aj o)(h:wpList P ops (Exit.then K Q) [o] a w):wpOp P ops Q i K a w:=by
 have key:∀r,o.upon P a (wpList P ops (Exit.then K Q) []) (Exit.then K Q) r->o.upon P a K Q r:=λr hr=>by
  cases r with
  | ok x w'=>
   cases x<;>first
    |exact hr
    |(refine W7 hr λe Gz he=>?_;cases e<;>exact he)
    |exact Rows.mono hr λv Gz he=>he
  |halt x w'=>cases x<;>exact hr
 unfold wpList at h;unfold wpOp;rw[hi];simp only;split
 ·rename_i hw
  rw[if_pos hw]at h;rcases h with h|h
  exact .inl (key _ h);exact .inr h
 rename_i hw
 rw[if_neg hw]at h;exact h
def sY(P:Program)(md:uB)(ops:Array Oper)(Q:Exit->Act->World->Prop)(U:World->Prop):Nat->Array Bool->Act->(World->Prop)->Prop
 |0,listed,a,S=>jy md ops listed=[]/\∀w,S w->Q .normal a w
 | f+1,listed,a,S=>(jy md ops listed=[]->∀w,S w->Q .normal a w)/\
  ∀i∈jy md ops listed,∀w,S w->wpOp P ops Q i (λa' w'=>∃S',jK S'/\(∀x,S' x->U x)/\S' w'/\sY P md ops Q U f (listed.setIfInBounds i aC) a' S') a w
theorem ym:∀(f:Nat) (listed:Array Bool) (a:Act) (S:World->Prop) (w:World),S w->sY P md ops Q U f listed a S->wpAny P md ops Q f listed a w
 |0,_,_,_,w,hw,h=>⟨h.1,h.2 w hw⟩
 |f+1,_,_,_,w,hw,h=>⟨λh0=>h.1 h0 w hw,λi hi=>wpOp_mono (λa' w' ⟨S',_,_,uk,h'⟩=>ym f _ a' S' w' uk h') (h.2 i hi w hw)⟩
theorem zt{i:Nat}{oi:Oper}{v:Value}(hi:ops[i]?=aj oi)(mP:∀(j:Nat) (o:Oper) cs b,ops[j]?=aj o->o.op≠ .select cs b)
 (hQ:∀c a w,Q (.panic c) (a.put oi.dst v) w->Q (.panic c) a w):
 ∀ (f:Nat) (listed:Array Bool) (a:Act) (S:World->Prop),jK S->(∀x,S x->U x)->
  (∀j oj,ops[j]?=aj oj->j≠i->listed.getD j aC=aE->(∀e∈oj.after,AZ md e=aC->e.on≠i)->oi.apart ops oj=aC)->
  i∈jy md ops listed->ka P ops U oi v a->
  sY P md ops Q U f (listed.setIfInBounds i aC) (a.put oi.dst v) S->sY P md ops Q U (f+1) listed a S:=by
 intro f
 induction f with
 | zero=>
  intro listed a S jW XR _ hr hy H;refine⟨λh=>(by rw[h]at hr;cases hr),λj hj w hw=>?_⟩
  by_cases Ln:j=i
  subst Ln;exact(hy.mono XR).wpOp hi jW hw λw' uk=>⟨S,jW,XR,uk,H⟩;have:=ready_mono (md:=md) hj Ln;rw[H.1]at this;cases this
 | succ f ih=>
  intro listed a S jW XR Hv hr hy H;have BZ:=(mem_ready.1 hr).1;refine⟨λh=>(by rw[h]at hr;cases hr),λj hj w hw=>?_⟩
  by_cases Ln:j=i
  subst Ln;exact(hy.mono XR).wpOp hi jW hw λw' uk=>⟨S,jW,XR,uk,H⟩;have h1:=H.2 j (ready_mono hj Ln) w hw;obtain⟨abM,oj,Sx,qz⟩:=mem_ready.1 hj;have Uo:∀e∈oj.after,AZ md e=aC->e.on≠i:=λe he hb Hw=>by
   have h1:=qz e he hb;rw[Hw,getD_both BZ]at h1
   cases h1
  have h2:=Hu Sx (Hv j oj Sx Ln abM Uo) (λcs b=>mP i oi cs b hi) (λcs b=>mP j oj cs b Sx) hQ hy h1;have Pk:∀k ok,ops[k]?=aj ok->k≠i->(listed.setIfInBounds j aC).getD k aC=aE->
   (∀e∈ok.after,AZ md e=aC->e.on≠i)->oi.apart ops ok=true:=λk ok hk hki BZ hno=>by
   refine Hv k ok hk hki ?_ hno
   by_cases hjk:j=k
   ·subst hjk;exact abM
   ·rw[getD_set_ne aC hjk]at BZ;exact BZ
  refine wpOp_mono (λa' w' h3=>?_) h2;obtain⟨h3,S',ns,lf,uk,h4⟩:=h3;refine⟨S',ns,lf,uk,ih (listed.setIfInBounds j aC) a' S' ns lf Pk (ready_mono hr (yh Ln)) h3 ?_⟩;rw[WU _ _ Ln];exact h4
end
section
variable{P:Program}{n:Nat}{W:bL}{Q:Exit->Act->World->Prop}{fr:Fr}{L L0:List b9}{ops:Array Oper}{ks:List Bool}{o:Oper}{rest:List Oper}{v:Value}{d:Nat}
theorem XS{L':List b9}(is:List Nat)(hn:is.Nodup)(hl:L'=is.filterMap λi=>L[i]?):∀w,Mem W L w->Mem W L' w:=λ_ h=>h.pick is hn hl
theorem w4:∀w,Mem W L w->Mem W [] w:=λ_ h=>⟨h.low,ez.nil _⟩
end
end bZ
namespace bZ
open Go.RowKit cK dS
inductive Ord where
 |done
 |calm (i:Nat) (t:Ord)
 |one (i:Nat) (t:Ord)
 |two (i:Nat) (t:Ord) (j:Nat) (u:Ord)
 |three (i:Nat) (t:Ord) (j:Nat) (u:Ord) (k:Nat) (v:Ord)
def Ord.size:Ord->Nat
 | .done=>0
 | .calm _ t=>t.size+1
 | .one _ t=>t.size+1
 | .two _ t _ _=>t.size+1
 | .three _ t _ _ _ _=>t.size+1
section
variable{P:Program}{ops:Array Oper}{md:uB}{Q:Exit->Act->World->Prop}{U:World->Prop}
def XT(P:Program)(ops:Array Oper)(Q:Exit->Act->World->Prop)(U:World->Prop):Ord->Act->(World->Prop)->Prop
 | .calm i t,a,S=>∃o v,ops[i]?=aj o/\(if kY o (yielded ops a.tmps)then ∀w,U w->py P o a w v else v=undef)/\XT P ops Q U t (a.put o.dst v) S
 | .one i t,a,S=>∃o,ops[i]?=aj o/\∀w,S w->wpList P ops (Exit.then (λa' w'=>∃S',jK S'/\(∀x,S' x->U x)/\S' w'/\XT P ops Q U t a' S') Q) [o] a w
 | .two i t j u,a,S=>(∃o,ops[i]?=aj o/\∀w,S w->wpList P ops (Exit.then (λa' w'=>∃S',jK S'/\(∀x,S' x->U x)/\S' w'/\XT P ops Q U t a' S') Q) [o] a w)/\
  (∃o,ops[j]?=aj o/\∀w,S w->wpList P ops (Exit.then (λa' w'=>∃S',jK S'/\(∀x,S' x->U x)/\S' w'/\XT P ops Q U u a' S') Q) [o] a w)
 | .three i t j u k v,a,S=>(∃o,ops[i]?=aj o/\∀w,S w->wpList P ops (Exit.then (λa' w'=>∃S',jK S'/\(∀x,S' x->U x)/\S' w'/\XT P ops Q U t a' S') Q) [o] a w)/\
  (∃o,ops[j]?=aj o/\∀w,S w->wpList P ops (Exit.then (λa' w'=>∃S',jK S'/\(∀x,S' x->U x)/\S' w'/\XT P ops Q U u a' S') Q) [o] a w)/\
  (∃o,ops[k]?=aj o/\∀w,S w->wpList P ops (Exit.then (λa' w'=>∃S',jK S'/\(∀x,S' x->U x)/\S' w'/\XT P ops Q U v a' S') Q) [o] a w)
 | .done,a,S=>∀w,S w->Q .normal a w
def mv(md:uB)(ops:Array Oper):Ord->Array Bool->Bool
 | .calm i t,listed=>(jy md ops listed).contains i&&O8 md ops listed i&&mv md ops t (listed.setIfInBounds i aC)
 | .one i t,listed=>decide (jy md ops listed=[i])&&mv md ops t (listed.setIfInBounds i aC)
 | .two i t j u,listed=>decide (jy md ops listed=[i,j])&&fW t.size u.size&&mv md ops t (listed.setIfInBounds i aC)&&mv md ops u (listed.setIfInBounds j aC)
 | .three i t j u k v,listed=>decide (jy md ops listed=[i,j,k])&&fW t.size u.size&&fW t.size v.size&&mv md ops t (listed.setIfInBounds i aC)&&mv md ops u (listed.setIfInBounds j aC)&&mv md ops v (listed.setIfInBounds k aC)
 | .done,listed=>decide (jy md ops listed=[])
theorem kg(mP:AY ops=aC)(hQ:∀c a d v w,Q (.panic c) (q8 a d v) w->Q (.panic c) a w):
 ∀(t:Ord) (listed:Array Bool) (a:Act) (S:World->Prop),jK S->(∀x,S x->U x)->mv md ops t listed=aC->
 XT P ops Q U t a S->sY P md ops Q U t.size listed a S
 | .done,listed,a,S,_,_,ho,h=>⟨by simpa[mv]using ho,h⟩
 | .calm i t,listed,a,S,jW,XR,ho,h=>by
  simp only[mv,eX]at ho;obtain⟨⟨hr,hf⟩,LN⟩:=ho;have CG:i∈jy md ops listed:=by simpa using hr
  obtain⟨o,v,h0,hy,hK⟩:=h;have hy':ka P ops U o v a:=by
   by_cases hw:kY o (yielded ops a.tmps)=aC
   rw[if_pos hw]at hy;exact .inl ⟨hw,hy⟩;rw[if_neg hw]at hy;exact .inr ⟨by simpa using hw,hy⟩
  exact zt h0 (O4 mP) (λc a w=>hQ c a o.dst v w) t.size listed a S jW XR (O5 h0 hf) CG hy'
   (kg mP hQ t _ _ S jW XR LN hK)
 | .one i t,listed,a,S,jW,XR,ho,h=>by
  simp only[mv,eX,decide_eq_true_eq]at ho;obtain⟨hr,LN⟩:=ho;obtain⟨o,h0,h⟩:=h;refine⟨λh'=>(by rw[hr]at h';cases h'),λj hj w hw=>?_⟩;obtain rfl:j=i:=by rw[hr]at hj;simpa using hj
  refine wpOp_mono (λa' w' ⟨S',ns,uP,uk,hK⟩=>⟨S',ns,uP,uk,?_⟩) (kf h0 (h w hw));exact kg mP hQ t _ _ S' ns uP LN hK
 | .two i t j u,listed,a,S,jW,XR,ho,h=>by
  simp only[mv,eX,decide_eq_true_eq]at ho;obtain⟨⟨⟨hr,hs⟩,mY⟩,C_⟩:=ho;obtain⟨⟨o,h0,h⟩,⟨o2,h02,h2⟩⟩:=h;have hs:=mj hs;refine⟨λh'=>(by rw[hr]at h';cases h'),λq hq w hw=>?_⟩;rw[hr]at hq;simp only[dC,fH,or_false]at hq;rcases hq with rfl|rfl
  ·refine wpOp_mono (λa' w' ⟨S',ns,uP,uk,hK⟩=>⟨S',ns,uP,uk,?_⟩) (kf h0 (h w hw))
   exact kg mP hQ t _ _ S' ns uP mY hK
  refine wpOp_mono (λa' w' ⟨S',ns,uP,uk,hK⟩=>⟨S',ns,uP,uk,?_⟩) (kf h02 (h2 w hw));rw[hs];exact kg mP hQ u _ _ S' ns uP C_ hK
 | .three i t j u k v,listed,a,S,jW,XR,ho,h=>by
  simp only[mv,eX,decide_eq_true_eq]at ho;obtain⟨⟨⟨⟨⟨hr,hs⟩,hs3⟩,mY⟩,C_⟩,ho3⟩:=ho;obtain⟨⟨o,h0,h⟩,⟨o2,h02,h2⟩,⟨o3,h03,h3⟩⟩:=h;have hs:=mj hs;have hs3:=mj hs3;refine⟨λh'=>(by rw[hr]at h';cases h'),λq hq w hw=>?_⟩;rw[hr]at hq;simp only[dC,fH,or_false]at hq;rcases hq with rfl|rfl|rfl
  ·refine wpOp_mono (λa' w' ⟨S',ns,uP,uk,hK⟩=>⟨S',ns,uP,uk,?_⟩) (kf h0 (h w hw))
   exact kg mP hQ t _ _ S' ns uP mY hK
  ·refine wpOp_mono (λa' w' ⟨S',ns,uP,uk,hK⟩=>⟨S',ns,uP,uk,?_⟩) (kf h02 (h2 w hw))
   rw[hs];exact kg mP hQ u _ _ S' ns uP C_ hK
  refine wpOp_mono (λa' w' ⟨S',ns,uP,uk,hK⟩=>⟨S',ns,uP,uk,?_⟩) (kf h03 (h3 w hw));rw[hs3];exact kg mP hQ v _ _ S' ns uP ho3 hK
end
structure TW(P:Program)(n:Nat)(W:bL)(ops:Array Oper)(Q:Exit->Act->World->Prop)(L0:List b9)(t:Ord)(fr:Fr)(L:List b9):Prop where
 go:∀a,nH n a fr->XT P ops Q (Mem W L0) t a (Mem W L)
section
variable{P:Program}{n:Nat}{W:bL}{Q:Exit->Act->World->Prop}{fr:Fr}{L L0:List b9}{ops:Array Oper}{o:Oper}{t u:Ord}{i j:Nat}{v:Value}{d:Nat}
def aeY(l:List Oper)(t:Ord):Bool:=fW t.size l.length&&AY l.toArray&&mv .any l.toArray t (AQ l.toArray.size aE)
theorem agR{id:Nat}{l:List Oper}(L0:List b9)(t:Ord)(lf:∀w,Mem W L w->Mem W L0 w)(hm:P.follows .mixedOrders=aC)(hB:aeY l t=aC)
 (hQ:∀c a d v w,Q (.panic c) (q8 a d v) w->Q (.panic c) a w)
 (h:TW P n W l.toArray Q L0 t fr L):T P n W (.region id l.toArray aC) Q fr L:=⟨λa w hr sU=>by
 simp only[aeY,eX]at hB;obtain⟨⟨h1,h2⟩,h3⟩:=hB;have hlen:=mj h1;refine wp_region_any hm ?_;have hsz:l.toArray.size=t.size:=by rw[hlen];simp
 have:=ym (U:=Mem W L0) t.size (AQ l.toArray.size aE) a (Mem W L) w.drew sU.drew
  (kg h2 hQ t _ a (Mem W L) (iv W L) lf h3 (h.go a hr))
 rw[<-hsz]at this;exact this⟩
theorem SF{q e:Nat}{b:Bool}{x:Value}(ho:ops[i]?=aj o)(hg:o.guard=aj (q,b))(hj:(ops[q]?).bind (·.dst)=aj e)(hl:look fr e=aj x)(hu:abO b x=aC)(hd:o.dst=aj d)(hn:dj d n=aC)(h:TW P n W ops Q L0 t ((d,undef)::fr) L):TW P n W ops Q L0 (.calm i t) fr L:=⟨λa h_=>
 ⟨o,undef,ho,by rw[Hx h_ hg hj hl hu];rfl,by rw[hd];exact h.go _ (h_.put hn undef)⟩⟩
theorem oW{f:FuncId}{args:Array Value}(ho:ops[i]?=aj o)(he:∀a w,nH n a fr->(execOp a.eval o).run P w= .ok (.enter f args) w)(hc:∀w,Mem W L0 w->Calls P f args w (bY (ret v) w))(hg:o.guard=ak)(hd:o.dst=aj d)(hn:dj d n=aC)
 (h:TW P n W ops Q L0 t ((d,v)::fr) L):TW P n W ops Q L0 (.calm i t) fr L:=⟨λa h_=>
 ⟨o,v,ho,by rw[if_pos (oc hg)];intro w hw;unfold py;rw[he a w h_];exact⟨Gr.refl _,(hc w hw).mono λ_ _ h=>DV h⟩,by rw[hd];exact h.go _ (h_.put hn v)⟩⟩
theorem LO{f:FuncId}{args:Array Value}{q e:Nat}{b:Bool}(ho:ops[i]?=aj o)(he:∀a w,nH n a fr->(execOp a.eval o).run P w= .ok (.enter f args) w)(hc:∀w,Mem W L0 w->Calls P f args w (bY (ret v) w))(hg:o.guard=aj (q,b))(hj:(ops[q]?).bind (·.dst)=aj e)(hl:look fr e=aj (.bool b))(hd:o.dst=aj d)(hn:dj d n=aC)
 (h:TW P n W ops Q L0 t ((d,v)::fr) L):TW P n W ops Q L0 (.calm i t) fr L:=⟨λa h_=>
 ⟨o,v,ho,by rw[if_pos (pz h_ hg hj hl)];intro w hw;unfold py;rw[he a w h_];exact⟨Gr.refl _,(hc w hw).mono λ_ _ h=>DV h⟩,by rw[hd];exact h.go _ (h_.put hn v)⟩⟩
abbrev after(P:Program)(W:bL)(ops:Array Oper)(Q:Exit->Act->World->Prop)(L0:List b9)(t:Ord):Exit->Act->World->Prop:=Exit.then (λa' w'=>∃S',jK S'/\(∀x,S' x->Mem W L0 x)/\S' w'/\XT P ops Q (Mem W L0) t a' S') Q
theorem aL(ho:ops[i]?=aj o)(h:TL P n W ops (after P W ops Q L0 t) [o] fr L):TW P n W ops Q L0 (.one i t) fr L:=⟨λa h_=>⟨o,ho,λw hw=>h.go a w h_ hw⟩⟩
theorem eK{o2:Oper}(ho:ops[i]?=aj o)(C_:ops[j]?=aj o2)(h:TL P n W ops (after P W ops Q L0 t) [o] fr L)(h2:TL P n W ops (after P W ops Q L0 u) [o2] fr L):TW P n W ops Q L0 (.two i t j u) fr L:=
 ⟨λa h_=>⟨⟨o,ho,λw hw=>h.go a w h_ hw⟩,⟨o2,C_,λw hw=>h2.go a w h_ hw⟩⟩⟩
theorem zu{o2 o3:Oper}{k:Nat}{u2:Ord}(ho:ops[i]?=aj o)(C_:ops[j]?=aj o2)(ho3:ops[k]?=aj o3)(h:TL P n W ops (after P W ops Q L0 t) [o] fr L)(h2:TL P n W ops (after P W ops Q L0 u) [o2] fr L)(h3:TL P n W ops (after P W ops Q L0 u2) [o3] fr L):TW P n W ops Q L0 (.three i t j u k u2) fr L:=
 ⟨λa h_=>⟨⟨o,ho,λw hw=>h.go a w h_ hw⟩,⟨o2,C_,λw hw=>h2.go a w h_ hw⟩,⟨o3,ho3,λw hw=>h3.go a w h_ hw⟩⟩⟩
theorem aM{L':List b9}{GG:Fr}(lf:∀w,Mem W L' w->Mem W L0 w)(h:TW P n W ops Q L0 t GG L'):TL P n W ops (after P W ops Q L0 t) [] GG L':=
 jg ⟨λa _ hr hm=>⟨Mem W L',iv _ _,lf,hm,h.go a hr⟩⟩
theorem SG(h:E n W .normal Q fr L):TW P n W ops Q L0 .done fr L:=⟨λa hr w hw=>h.go a w hr hw⟩
theorem lU{x y:Code}{ι:Type}(ah:ι->Prop)(F:ι->Fr)(M:ι->List b9)
 (hx:T P n W x (Exit.then (Mid n W ah F M) Q) fr L) (hy:∀i,ah i->T P n W y Q (F i) (M i)):T P n W x (Exit.then (y.wp P Q) Q) fr L:= .mk λa w hr hm=>
 wp_mono (hx.go a w hr hm) λe a w h=>by
  cases e with
  |normal=>obtain⟨i,h1,h2,h3⟩:=h;exact(hy i h1).go a w h2 h3
  |_=>exact h
structure TN(P:Program)(n:Nat)(W:bL)(ops:Array Oper)(Q:Exit->Act->World->Prop)(L0:List b9)(o:Oper)(t:Ord)(fr:Fr)(L:List b9):Prop where
 go:∀a,nH n a fr->∃v,(∀w,Mem W L0 w->py P o a w v)/\XT P ops Q (Mem W L0) t (a.put o.dst v) (Mem W L)
theorem XU(ho:ops[i]?=aj o)(hg:o.guard=ak)(h:TN P n W ops Q L0 o t fr L):TW P n W ops Q L0 (.calm i t) fr L:=⟨λa h_=>by
 obtain⟨v,h1,h2⟩:=h.go a h_;exact⟨o,v,ho,by rw[if_pos (oc hg)];exact h1,h2⟩⟩
theorem abU{q e:Nat}{b:Bool}(ho:ops[i]?=aj o)(hg:o.guard=aj (q,b))(hj:(ops[q]?).bind (·.dst)=aj e)(hl:look fr e=aj (.bool b))(h:TN P n W ops Q L0 o t fr L):TW P n W ops Q L0 (.calm i t) fr L:=⟨λa h_=>by
 obtain⟨v,h1,h2⟩:=h.go a h_;exact⟨o,v,ho,by rw[if_pos (pz h_ hg hj hl)];exact h1,h2⟩⟩
theorem aeZ(hr:RR P n W o fr L0 v)(hd:o.dst=aj d)(hn:dj d n=aC)(h:TW P n W ops Q L0 t ((d,v)::fr) L):TN P n W ops Q L0 o t fr L:=⟨λa h_=>
 ⟨v,λw hw=>by unfold py;rw[hr.go a w h_ hw];exact⟨rfl,Gr.refl _⟩,by rw[hd];exact h.go _ (h_.put hn v)⟩⟩
theorem QW(hr:RR P n W o fr L0 v)(h:TW P n W ops Q L0 t ((d,v)::fr) L)(hd:o.dst=aj d:=by exact I)(hn:dj d n=true:=by exact I):TN P n W ops Q L0 o t fr L:=aeZ hr hd hn h
end
end bZ
namespace bZ
open Go.RowKit cK dS
section
variable{P:Program}{n:Nat}{W:bL}{fr:Fr}{L L0:List b9}{Q:Exit->Act->World->Prop}{ops:Array Oper}{rest:List Oper}{d i:Nat}{o:Oper}{v:Value}{t:Ord}
inductive Gd(ops:Array Oper)(fr:Fr)(o:Oper):Prop
 |no (h:o.guard=ak)
 |yes (q e:Nat) (b:Bool) (hg:o.guard=aj (q,b)) (hj:(ops[q]?).bind (·.dst)=aj e) (hl:look fr e=aj (.bool b))
theorem RR.bare(h:RR P n W o fr L v):RR P n W {o with guard:=ak} fr L v:=⟨λa w hr hm=>h.go a w hr hm⟩
theorem agS(hr:RR P n W o fr L v)(hg:Gd ops fr o)(hd:o.dst=aj d)(hn:dj d n=aC)(h:TL P n W ops Q rest ((d,v)::fr) L):TL P n W ops Q (o::rest) fr L:=by
 rcases hg with hg|⟨q,e,b,hg,hj,hl⟩
 exact dx hr hg hd hn h;exact C9 hg hj hl (dx hr.bare I hd hn h)
theorem gV(hr:RR P n W o fr L v)(h:TL P n W ops Q rest ((d,v)::fr) L)(hg:Gd ops fr o:=by first|exact Gd.no I|exact Gd.yes _ _ _ I I I)(hd:o.dst=aj d:=by exact I)(hn:dj d n=true:=by exact I):TL P n W ops Q (o::rest) fr L:=agS hr hg hd hn h
theorem QK{dst:Option Tmp}{ty:TypeId}{pos:String}{after:Array Edge}{guard:Option (Nat×Bool)}{x:Operand}{a:Addr}(hx:ev fr x=aj (aJ (aj a)):=by exact I):RR P n W ⟨dst,.nilCheck x,ty,pos,after,guard⟩ fr L (aJ (aj a)):= .mk λact w hr _=>by
 simp[execOp,hr.ev hx]
end
structure Hid(B:Prop):Prop where
 go:B
theorem GC{A B:Prop}(h:B)(t:Hid B->A:=by
 intro h0
 first|refine gV QP ?_|refine QZ ?_|refine OM I ?_|refine LL I ?_|refine iQ ?_|refine jn I ?_|refine qs I I I I I I ?_
 repeat (first|refine gV QP ?_|refine QZ ?_|refine OM I ?_|refine LL I ?_|refine iQ ?_|refine jn I ?_|refine qs I I I I I I ?_)
 exact h0.go):A:=t ⟨h⟩
theorem GB{A B:Prop}(h:B)(t:Hid B->A:=by
 intro h0;refine gV (by first|exact QA|exact QK|exact QL|exact QS|exact Jn I I|exact QlT|exact QlF|exact QeT|exact QeF|exact QnT|exact QnF|exact QaA|exact QgT|exact QgF|exact QhT|exact QhF|exact QmT|exact QmF|exact QaS|exact QaM|exact DX I I J|exact XK I I J) ?_;exact h0.go):A:=t ⟨h⟩
theorem GA{A B:Prop}(h:B)(t:Hid B->A:=by
 intro h0
 first|refine GC ?_|refine GB ?_
 repeat (first|refine GC ?_|refine GB ?_)
 exact h0.go):A:=t ⟨h⟩
theorem GD{A B:Prop}(h:B)(t:Hid B->A:=by
 intro h0;refine gV (by first|exact aB aK.ty I (by first|exact aH (i:=0) I I|exact aH (i:=1) I I|exact aH (i:=2) I I|exact aH (i:=3) I I|exact aH (i:=4) I I|exact aH (i:=5) I I|exact aH (i:=6) I I|exact aH (i:=7) I I|exact aH (i:=8) I I|exact aH (i:=9) I I|exact aH (i:=10) I I|exact aH (i:=11) I I|exact aH (i:=12) I I|exact aH (i:=13) I I|exact aH (i:=14) I I|exact aH (i:=15) I I)|exact aO (i:=0) aK.ty I I I|exact aO (i:=1) aK.ty I I I|exact aO (i:=2) aK.ty I I I|exact aO (i:=3) aK.ty I I I|exact aO (i:=4) aK.ty I I I|exact aO (i:=5) aK.ty I I I|exact aO (i:=6) aK.ty I I I|exact aO (i:=7) aK.ty I I I|exact aO (i:=8) aK.ty I I I|exact aO (i:=9) aK.ty I I I|exact aO (i:=10) aK.ty I I I|exact aO (i:=11) aK.ty I I I|exact aO (i:=12) aK.ty I I I|exact aO (i:=13) aK.ty I I I|exact aO (i:=14) aK.ty I I I|exact aO (i:=15) aK.ty I I I) ?_;exact h0.go):A:=t ⟨h⟩
theorem GK{A B:Prop}(h:B)(t:Hid B->A:=by
 intro h0
 first|refine GB ?_|refine GD ?_
 exact h0.go):A:=t ⟨h⟩
theorem GL{A B:Prop}(h:B)(t:Hid B->A:=by
 intro h0
 first|refine GA ?_|refine GD ?_
 exact h0.go):A:=t ⟨h⟩
theorem GM{A B:Prop}(h:B)(t:Hid B->A:=by
 intro h0;refine GL ?_
 repeat refine GL ?_
 exact h0.go):A:=t ⟨h⟩
theorem GN{A B:Prop}(h:B)(t:Hid B->A:=by
 intro h0
 first|refine XU I I ?_|refine abU I I I I ?_
 exact h0.go):A:=t ⟨h⟩
theorem GX{A B:Prop}(h:B)(t:Hid B->A:=by
 intro h0
 first|refine QW QP ?_|refine QW (by first|exact QA|exact QK|exact QL|exact QS|exact Jn I I|exact QlT|exact QlF|exact QeT|exact QeF|exact QnT|exact QnF|exact QaA|exact QgT|exact QgF|exact QhT|exact QhF|exact QmT|exact QmF|exact QaS|exact QaM|exact DX I I J|exact XK I I J) ?_
 exact h0.go):A:=t ⟨h⟩
theorem GW{A B:Prop}(h:B)(t:Hid B->A:=by
 intro h0
 first|(refine GN ?_;refine GX ?_)|refine SF I I I I I I I ?_|refine SG ?_
 repeat (first|(refine GN ?_;refine GX ?_)|refine SF I I I I I I I ?_|refine SG ?_)
 exact h0.go):A:=t ⟨h⟩
section
variable{P:Program}{n:Nat}{W:bL}{fr:Fr}{L L':List b9}{Q:Exit->Act->World->Prop}{ops:Array Oper}{rest:List Oper}
theorem bT{ι:Type}{ah:ι->Prop}{F:ι->Fr}{M:ι->List b9}{μ:ι->Nat}{x:ι}(x':ι)(hi:ah x')(hμ:μ x'<μ x)(hf:LG (F x') fr:=by repeat' (first|exact True.intro|refine And.intro rfl ?_))(hl:L=M x':=by exact rfl):
 E n W .normal (Exit.then (Rnd n W ah F M μ x) Q) fr L:=jH x' hi hμ hf hl
theorem d_{c:Code}{ι:Type}(ah:ι->Prop)(F:ι->Fr)(M:ι->List b9)(μ:ι->Nat)(x0:ι)(h0:ah x0)
 (round:∀x,ah x->T P n W c (Exit.then (Rnd n W ah F M μ x) Q) (F x) (M x)) (hf:LG (F x0) fr:=by repeat' (first|exact True.intro|refine And.intro rfl ?_)) (hl:L=M x0:=by exact rfl):T P n W (.loop c) Q fr L:=mq ah F M μ x0 h0 hf hl round
theorem zL{A B:Prop}(h:B)(t:Hid B->A:=by
 intro h0
 (conv=>arg 8;simp only[zA,zB,zC,zD,zE,zF,zG,zH,zI,cI,ret,id_eq])
 exact h0.go):A:=t ⟨h⟩
end
theorem zJ:(∀{α:Type} {a:α} {l m:List α},a::l++m=a::(l++m))/\(∀{α:Type} {l:List α},[]++l=l)/\(∀{α:Type} {l:List α},l++[]=l)/\(∀{α β:Type} {f:α->Option β} {a:α} {l:List α},uD f (a::l)=match f a with
 |none=>uD f l
 |some b=>b::uD f l)/\(∀{α β:Type} {f:α->Option β},uD f []=[])/\(∀{α:Type} {a:α} {l:List α} {i:Nat},(a::l)[i+1]?=l[i]?)/\(∀{α:Type} {a:α} {l:List α},(a::l)[0]?=aj a)/\(∀{α:Type} {a b:α} {l:List α},(a::l).set 0 b=b::l)/\(∀{α:Type} {a b:α} {l:List α} {i:Nat},(a::l).set (i+1) b=a::l.set i b):=
 ⟨zA,zB,zC,zD,zE,zF,zG,zH,zI⟩
section
variable{P:Program}{n:Nat}{W:bL}{fr:Fr}{L L':List b9}{Q:Exit->Act->World->Prop}{ops:Array Oper}{rest:List Oper}
theorem bX(is:List Nat)(hn:is.Nodup:=by decide)(hl:L'=is.filterMap λi=>L[i]?:=by exact I):∀w,Mem W L w->Mem W L' w:=XS is hn hl
theorem zv(is:List Nat)(h:TL P n W ops Q rest fr L')(hn:is.Nodup:=by decide)(hl:L'=is.filterMap λi=>L[i]?:=by exact I):TL P n W ops Q rest fr L:=abT is hn hl h
theorem rb{c:Code}(is:List Nat)(h:T P n W c Q fr L')(hn:is.Nodup:=by decide)(hl:L'=is.filterMap λi=>L[i]?:=by exact I):T P n W c Q fr L:=aeP is hn hl h
theorem dm{e:Exit}(is:List Nat)(h:E n W e Q fr L')(hn:is.Nodup:=by decide)(hl:L'=is.filterMap λi=>L[i]?:=by exact I):E n W e Q fr L:=aeQ is hn hl h
theorem dT{id:Nat}{l:List Oper}(L0:List b9)(t:Ord)(lf:∀w,Mem W L w->Mem W L0 w)(h:TW P n W l.toArray Q L0 t fr L)(hm:P.follows .mixedOrders=true:=by kernel_rfl)(hB:aeY l t=true:=by kernel_rfl)
 (hQ:∀c a d v w,Q (.panic c) (q8 a d v) w->Q (.panic c) a w:=by intro c a d v w h;cases d<;>exact h):T P n W (.region id l.toArray aC) Q fr L:=agR L0 t lf hm hB hQ h
theorem eH{fn:Func}{w0:World}{t:Tmp}{v:Value}(mO:fn.results=#[.tmp t]:=by exact I)(hv:look fr t=aj v:=by exact I):E n w0 .ret (bodyPost P fn (bY (ret v) w0)) fr L:=cO mO hv λw hm=>hm.ret
theorem ij{ty:TypeId}{pos:String}{after:Array Edge}{t:TypeId}{p x:Operand}(i:Nat){g c:Nat}{cs cs':Array Value}{T:TypeId}{agg:Bool}[hT:aK P t agg c](h:TL P n W ops Q rest fr (L.set i (aP g cs' T)))(hi:L[i]?=aj (aP g cs T):=by exact I)(hp:ev fr p=aj (aJ (aj ⟨g,0,ak⟩)):=by exact I)(hx:ev fr x=aj (.agg cs'):=by exact I)(hv:cs'.size=c:=by exact I)(h1:cs'.toList.all eY=true:=by exact I)(hc:cs.size=c:=by exact I):
 TL P n W ops Q (⟨ak,.store t p x,ty,pos,after,ak⟩::rest) fr L:=aX hi hp hx hv h1 hc h
end
end bZ
namespace bZ
instance:bM aD 3 (.int .i64):=⟨Tryz.underlying3⟩
instance:aK aD 3 aE 1:={}
instance:eQ aD 3 #[av az 0]:={}
instance:bM aD 4 (.bool):=⟨Tryz.underlying4⟩
instance:aK aD 4 aE 1:={}
instance:eQ aD 4 #[.bool aE]:={}
instance:bM aD 5 (.int .u8):=⟨Tryz.underlying5⟩
instance:aK aD 5 aE 1:={}
instance:bM aD 9 (.string):=⟨Tryz.underlying9⟩
instance:aK aD 9 aE 1:={}
instance:bM aD 22 (.slice 122):=⟨Tryz.underlying22⟩
instance:aK aD 22 aE 1:={}
instance:rO aD 22 122 7 80:={}
instance:bM aD 23 (.slice 124):=⟨Tryz.underlying23⟩
instance:aK aD 23 aE 1:={}
instance:rO aD 23 124 2 40:={}
instance:dJ aD 25 0 0:={}
instance:dJ aD 25 1 1:={}
instance:aK aD 25 aC 2:={}
instance:eQ aD 25 #[ap ak 0 0,ap ak 0 0]:={}
instance:bM aD 26 (.slice 3):=⟨Tryz.underlying26⟩
instance:aK aD 26 aE 1:={}
instance:rO aD 26 3 1 8:={}
instance:eQ aD 26 #[ap ak 0 0]:={}
instance:bM aD 27 (.array 256 5):=⟨Tryz.underlying27⟩
instance:aK aD 27 aC 256:={}
instance:bM aD 28 (.slice 26):=⟨Tryz.underlying28⟩
instance:aK aD 28 aE 1:={}
instance:rO aD 28 26 1 24:={}
instance:dJ aD 30 0 0:={}
instance:dJ aD 30 1 256:={}
instance:dJ aD 30 2 257:={}
instance:aK aD 30 aC 258:={}
instance:eQ aD 30 (cL 256 (.int .u8 0:Value)++([ap ak 0 0,ap ak 0 0]:List Value)).toArray:={}
instance:bM aD 31 (.slice 140):=⟨Tryz.underlying31⟩
instance:aK aD 31 aE 1:={}
instance:rO aD 31 140 2 32:={}
instance:dJ aD 33 0 0:={}
instance:dJ aD 33 1 1:={}
instance:dJ aD 33 2 2:={}
instance:aK aD 33 aC 3:={}
instance:bM aD 34 (.slice 92):=⟨Tryz.underlying34⟩
instance:aK aD 34 aE 1:={}
instance:rO aD 34 92 1 24:={}
instance:dJ aD 36 0 0:={}
instance:dJ aD 36 1 1:={}
instance:aK aD 36 aC 2:={}
instance:eQ aD 36 #[ap ak 0 0,ap ak 0 0]:={}
instance:dJ aD 38 0 0:={}
instance:dJ aD 38 1 1:={}
instance:dJ aD 38 2 259:={}
instance:dJ aD 38 3 262:={}
instance:dJ aD 38 4 263:={}
instance:dJ aD 38 5 264:={}
instance:aK aD 38 aC 266:={}
instance:eQ aD 38 (([ap ak 0 0]:List Value)++cL 256 (.int .u8 0:Value)++([ap ak 0 0,ap ak 0 0,av az 0,av az 0,ap ak 0 0,av az 0,ap ak 0 0,ap ak 0 0,ap ak 0 0]:List Value)).toArray:={}
instance:aK aD 39 aE 1:={}
instance:bM aD 43 (.slice 55):=⟨Tryz.underlying43⟩
instance:aK aD 43 aE 1:={}
instance:rO aD 43 55 2 16:={}
instance:bM aD 48 (.slice 53):=⟨Tryz.underlying48⟩
instance:aK aD 48 aE 1:={}
instance:rO aD 48 53 3 24:={}
instance:dJ aD 53 0 0:={}
instance:dJ aD 53 1 1:={}
instance:dJ aD 53 2 2:={}
instance:aK aD 53 aC 3:={}
instance:eQ aD 53 #[av az 0,av az 0,av az 0]:={}
instance:dJ aD 55 0 0:={}
instance:dJ aD 55 1 1:={}
instance:aK aD 55 aC 2:={}
instance:bM aD 90 (.slice 9):=⟨Tryz.underlying90⟩
instance:aK aD 90 aE 1:={}
instance:rO aD 90 9 1 16:={}
instance:bM aD 92 (.slice 94):=⟨Tryz.underlying92⟩
instance:aK aD 92 aE 1:={}
instance:rO aD 92 94 2 16:={}
instance:eQ aD 92 #[ap ak 0 0]:={}
instance:dJ aD 94 0 0:={}
instance:dJ aD 94 1 1:={}
instance:aK aD 94 aC 2:={}
instance:eQ aD 94 #[av az 0,av az 0]:={}
instance:bM aD 101 (.slice 4):=⟨Tryz.underlying101⟩
instance:aK aD 101 aE 1:={}
instance:rO aD 101 4 1 1:={}
instance:bM aD 102 (.slice 114):=⟨Tryz.underlying102⟩
instance:aK aD 102 aE 1:={}
instance:rO aD 102 114 1 8:={}
instance:dJ aD 104 0 0:={}
instance:dJ aD 104 1 1:={}
instance:dJ aD 104 2 2:={}
instance:dJ aD 104 3 3:={}
instance:dJ aD 104 4 4:={}
instance:aK aD 104 aC 5:={}
instance:eQ aD 104 #[ap ak 0 0,ap ak 0 0,ap ak 0 0,ap ak 0 0,ap ak 0 0]:={}
instance:bM aD 108 (.slice 200):=⟨Tryz.underlying108⟩
instance:rO aD 108 200 4 32:={}
instance:bM aD 111 (.slice 208):=⟨Tryz.underlying111⟩
instance:rO aD 111 208 6 48:={}
instance:aK aD 114 aE 1:={}
instance:eQ aD 114 #[.int .u64 0]:={}
instance:bM aD 116 (.array 4 114):=⟨Tryz.underlying116⟩
instance:aK aD 116 aC 4:={}
instance:eQ aD 116 #[.int .u64 0,.int .u64 0,.int .u64 0,.int .u64 0]:={}
instance:bM aD 117 (.slice 119):=⟨Tryz.underlying117⟩
instance:aK aD 117 aE 1:={}
instance:rO aD 117 119 6 64:={}
instance:dJ aD 119 0 0:={}
instance:dJ aD 119 1 1:={}
instance:dJ aD 119 2 5:={}
instance:aK aD 119 aC 6:={}
instance:eQ aD 119 #[av az 0,.int .u64 0,.int .u64 0,.int .u64 0,.int .u64 0,ap ak 0 0]:={}
instance:dJ aD 122 0 0:={}
instance:dJ aD 122 1 1:={}
instance:aK aD 122 aC 7:={}
instance:eQ aD 122 #[.string ⟨#[]⟩,av az 0,.int .u64 0,.int .u64 0,.int .u64 0,.int .u64 0,ap ak 0 0]:={}
instance:dJ aD 124 0 0:={}
instance:dJ aD 124 1 1:={}
instance:aK aD 124 aC 2:={}
instance:eQ aD 124 #[.string ⟨#[]⟩,ap ak 0 0]:={}
instance:bM aD 138 (.slice 148):=⟨Tryz.underlying138⟩
instance:aK aD 138 aE 1:={}
instance:rO aD 138 148 2 16:={}
instance:dJ aD 140 0 0:={}
instance:dJ aD 140 1 1:={}
instance:aK aD 140 aC 2:={}
instance:eQ aD 140 #[av az 0,ap ak 0 0]:={}
instance:dJ aD 148 0 0:={}
instance:dJ aD 148 1 1:={}
instance:aK aD 148 aC 2:={}
instance:eQ aD 148 #[av az 0,av az 0]:={}
instance:bM aD 156 (.slice 231):=⟨Tryz.underlying156⟩
instance:aK aD 156 aE 1:={}
instance:rO aD 156 231 4 32:={}
instance:dJ aD 158 0 0:={}
instance:dJ aD 158 1 1:={}
instance:dJ aD 158 2 2:={}
instance:dJ aD 158 3 3:={}
instance:aK aD 158 aC 4:={}
instance:eQ aD 158 #[ap ak 0 0,av az 0,av az 0,.bool aE]:={}
instance:dJ aD 161 0 0:={}
instance:dJ aD 161 1 1:={}
instance:dJ aD 161 2 2:={}
instance:dJ aD 161 3 3:={}
instance:aK aD 161 aC 4:={}
instance:eQ aD 161 #[ap ak 0 0,av az 0,av az 0,.bool aE]:={}
instance:dJ aD 164 0 0:={}
instance:dJ aD 164 1 1:={}
instance:dJ aD 164 2 2:={}
instance:aK aD 164 aC 3:={}
instance:eQ aD 164 #[av az 0,.string ⟨#[]⟩,av az 0]:={}
instance:dJ aD 166 0 0:={}
instance:dJ aD 166 1 1:={}
instance:dJ aD 166 2 2:={}
instance:aK aD 166 aC 3:={}
instance:eQ aD 166 #[ap ak 0 0,av az 0,av az 0]:={}
instance:dJ aD 168 0 0:={}
instance:dJ aD 168 1 266:={}
instance:dJ aD 168 3 268:={}
instance:dJ aD 168 4 269:={}
instance:dJ aD 168 5 270:={}
instance:dJ aD 168 6 271:={}
instance:dJ aD 168 7 272:={}
instance:dJ aD 168 8 275:={}
instance:dJ aD 168 9 276:={}
instance:dJ aD 168 10 277:={}
instance:dJ aD 168 11 281:={}
instance:dJ aD 168 12 285:={}
instance:dJ aD 168 13 288:={}
instance:dJ aD 168 14 289:={}
instance:dJ aD 168 15 290:={}
instance:bM aD 175 (.map 9 3):=⟨Tryz.underlying175⟩
instance:aK aD 175 aE 1:={}
instance:eQ aD 175 #[.map ak]:={}
instance:bM aD 179 (.slice 116):=⟨Tryz.underlying179⟩
instance:aK aD 179 aE 1:={}
instance:rO aD 179 116 4 32:={}
instance:dJ aD 181 0 0:={}
instance:dJ aD 181 1 1:={}
instance:dJ aD 181 2 2:={}
instance:dJ aD 181 3 3:={}
instance:dJ aD 181 4 4:={}
instance:dJ aD 181 5 5:={}
instance:aK aD 181 aC 6:={}
instance:eQ aD 181 #[ap ak 0 0,ap ak 0 0,ap ak 0 0,ap ak 0 0,ap ak 0 0,ap ak 0 0]:={}
instance:bM aD 184 (.slice 257):=⟨Tryz.underlying184⟩
instance:aK aD 184 aE 1:={}
instance:rO aD 184 257 256 512:={}
instance:dJ aD 186 0 0:={}
instance:dJ aD 186 1 1:={}
instance:aK aD 186 aC 2:={}
instance:eQ aD 186 #[ap ak 0 0,ap ak 0 0]:={}
instance:bM aD 201 (.slice 273):=⟨Tryz.underlying201⟩
instance:aK aD 201 aE 1:={}
instance:rO aD 201 273 1 24:={}
instance:dJ aD 203 0 0:={}
instance:dJ aD 203 1 1:={}
instance:aK aD 203 aC 2:={}
instance:eQ aD 203 #[ap ak 0 0,ap ak 0 0]:={}
instance:dJ aD 231 0 0:={}
instance:dJ aD 231 1 1:={}
instance:dJ aD 231 2 2:={}
instance:aK aD 231 aC 4:={}
instance:eQ aD 231 #[.bool aE,av az 0,av az 0,av az 0]:={}
instance:dJ aD 242 0 0:={}
instance:dJ aD 242 1 6:={}
instance:dJ aD 244 0 0:={}
instance:dJ aD 244 1 1:={}
instance:dJ aD 244 2 2:={}
instance:aK aD 244 aC 3:={}
instance:eQ aD 244 #[.bool aE,ap ak 0 0,ap ak 0 0]:={}
instance:bM aD 247 (.map 9 148):=⟨Tryz.underlying247⟩
instance:bM aD 251 (.slice 303):=⟨Tryz.underlying251⟩
instance:aK aD 251 aE 1:={}
instance:rO aD 251 303 4 32:={}
instance:bM aD 252 (.map 303 3):=⟨Tryz.underlying252⟩
instance:aK aD 252 aE 1:={}
instance:dJ aD 254 0 0:={}
instance:dJ aD 254 1 6:={}
instance:dJ aD 254 2 7:={}
instance:dJ aD 254 3 8:={}
instance:bM aD 255 (.int .i16):=⟨Tryz.underlying255⟩
instance:aK aD 255 aE 1:={}
instance:bM aD 257 (.array 256 255):=⟨Tryz.underlying257⟩
instance:aK aD 257 aC 256:={}
instance:eQ aD 257 (cL 256 (.int .i16 0:Value)).toArray:={}
instance:bM aD 262 (.map 263 3):=⟨Tryz.underlying262⟩
instance:bM aD 263 (.array 200 255):=⟨Tryz.underlying263⟩
instance:aK aD 263 aC 200:={}
instance:eQ aD 263 (cL 200 (.int .i16 0:Value)).toArray:={}
instance:bM aD 273 (.slice 278):=⟨Tryz.underlying273⟩
instance:aK aD 273 aE 1:={}
instance:rO aD 273 278 3 24:={}
instance:eQ aD 273 #[ap ak 0 0]:={}
instance:dJ aD 278 0 0:={}
instance:dJ aD 278 1 1:={}
instance:dJ aD 278 2 2:={}
instance:aK aD 278 aC 3:={}
instance:eQ aD 278 #[av az 0,av az 0,av az 0]:={}
instance:bM aD 303 (.array 4 114):=⟨Tryz.underlying303⟩
instance:aK aD 303 aC 4:={}
instance:eQ aD 303 #[.int .u64 0,.int .u64 0,.int .u64 0,.int .u64 0]:={}
instance:bM aD 308 (.map 310 3):=⟨Tryz.underlying308⟩
instance:dJ aD 310 1 1:={}
instance:aK aD 310 aC 257:={}
instance:eQ aD 310 (([av az 0]:List Value)++cL 256 (.int .i16 0:Value)).toArray:={}
instance:bM aD 312 (.map 340 114):=⟨Tryz.underlying312⟩
instance:aK aD 312 aE 1:={}
instance:dJ aD 314 0 0:={}
instance:dJ aD 314 1 3:={}
instance:bM aD 315 (.slice 5):=⟨Tryz.underlying315⟩
instance:rO aD 315 5 1 1:={}
instance:bM aD 316 (.map 278 3):=⟨Tryz.underlying316⟩
instance:aK aD 316 aE 1:={}
instance:eQ aD 316 #[.map ak]:={}
instance:dJ aD 329 0 0:={}
instance:dJ aD 329 1 3:={}
instance:dJ aD 329 2 4:={}
instance:dJ aD 329 3 5:={}
instance:aK aD 340 aC 2:={}
instance:eQ aD 340 #[av az 0,av az 0]:={}
instance:aI aD 12:={}
instance:aI aD 13:={}
instance:aI aD 17:={}
instance:aI aD 25:={}
instance:aI aD 26:={}
instance:aI aD 27:={}
instance:aI aD 28:={}
instance:aI aD 29:={}
instance:aI aD 30:={}
instance:aI aD 31:={}
instance:aI aD 32:={}
instance:aI aD 33:={}
instance:aI aD 34:={}
instance:aI aD 35:={}
instance:aI aD 40:={}
instance:aI aD 41:={}
instance:aI aD 42:={}
instance:aI aD 43:={}
instance:aI aD 44:={}
instance:aI aD 45:={}
instance:aI aD 46:={}
instance:aI aD 47:={}
instance:aI aD 64:={}
instance:aI aD 65:={}
instance:aI aD 66:={}
instance:aI aD 67:={}
instance:aI aD 68:={}
instance:aI aD 69:={}
instance:aI aD 70:={}
instance:aI aD 73:={}
instance:aI aD 74:={}
instance:aI aD 75:={}
instance:aI aD 76:={}
instance:aI aD 77:={}
instance:aI aD 78:={}
instance:aI aD 79:={}
instance:aI aD 80:={}
instance:aI aD 81:={}
instance:aI aD 82:={}
instance:aI aD 83:={}
instance:aI aD 84:={}
instance:aI aD 85:={}
instance:aI aD 86:={}
instance:aI aD 87:={}
instance:aI aD 88:={}
instance:aI aD 89:={}
instance:aI aD 90:={}
instance:aI aD 91:={}
instance:aI aD 97:={}
instance:aI aD 98:={}
instance:aI aD 99:={}
instance:aI aD 100:={}
instance:aI aD 101:={}
instance:aI aD 102:={}
instance:aI aD 103:={}
instance:aI aD 104:={}
instance:aI aD 105:={}
instance:aI aD 106:={}
instance:aI aD 107:={}
instance:aI aD 108:={}
instance:aI aD 109:={}
instance:aI aD 111:={}
instance:aI aD 112:={}
instance:aI aD 113:={}
instance:aI aD 114:={}
instance:aI aD 115:={}
instance:aI aD 116:={}
instance:aI aD 117:={}
instance:aI aD 118:={}
instance:aI aD 119:={}
instance:aI aD 120:={}
instance:aI aD 121:={}
instance:aI aD 122:={}
instance:aI aD 123:={}
instance:aI aD 124:={}
instance:aI aD 125:={}
instance:aI aD 126:={}
instance:aI aD 127:={}
instance:aI aD 128:={}
instance:aI aD 129:={}
instance:aI aD 130:={}
instance:aI aD 131:={}
instance:aI aD 132:={}
instance:aI aD 135:={}
instance:aI aD 136:={}
instance:aI aD 137:={}
instance:aI aD 138:={}
instance:aI aD 139:={}
instance:aI aD 140:={}
instance:aI aD 141:={}
instance:aI aD 142:={}
instance:aI aD 143:={}
instance:aI aD 144:={}
instance:aI aD 145:={}
instance:aI aD 146:={}
instance:aI aD 147:={}
instance:aI aD 148:={}
instance:aI aD 149:={}
instance:aI aD 150:={}
instance:aI aD 151:={}
instance:aI aD 152:={}
instance:aI aD 153:={}
instance:aI aD 154:={}
instance:aI aD 155:={}
instance:aI aD 156:={}
instance:aI aD 157:={}
instance:aI aD 158:={}
instance:aI aD 159:={}
instance:aI aD 160:={}
instance:aI aD 161:={}
instance:aI aD 162:={}
instance:aI aD 163:={}
instance:aI aD 165:={}
instance:aI aD 166:={}
instance:aI aD 167:={}
instance:aI aD 168:={}
instance:aI aD 169:={}
instance:aI aD 170:={}
instance:aI aD 172:={}
instance:aI aD 173:={}
instance:aI aD 174:={}
instance:aI aD 180:={}
instance:aI aD 181:={}
instance:aI aD 182:={}
instance:aI aD 183:={}
instance:aI aD 184:={}
instance:aI aD 185:={}
instance:aI aD 186:={}
instance:aI aD 187:={}
instance:aI aD 208:={}
instance:aI aD 209:={}
end bZ
namespace bZ
open Go.RowKit cK dS
theorem fin{P:Program}{f:FuncId}{args:Array Value}{w:World}(h:Calls P f args w (bY (ret (.bool aC)) w)):Calls P f args w λe w'=>e= .returned (.bool aC)/\Below w.heap.size w w':=h.mono λ_ _ h=>DV h
end bZ
namespace de
def gB(x:BitVec 64):Int:=x.toNat
abbrev v64(x:BitVec 64):Value:= .int .u64 (gB x)
theorem ae0(x:BitVec 64):0<=gB x:=by unfold gB;omega
theorem ae1(x:BitVec 64):gB x<=18446744073709551615:=by have:=x.isLt;unfold gB;omega
theorem oX{x y:BitVec 64}(h:gB x=gB y):x=y:=by
 apply WW;unfold gB at h;omega
theorem ae2(x y:BitVec 64):(gB x==gB y)=(x==y):=by
 by_cases h:x=y
 subst h;simp;have:gB x≠gB y:=λe=>h (oX e);rw[beq_eq_false_iff_ne.2 this,beq_eq_false_iff_ne.2 h]
theorem wrap64(x:BitVec 64):uA.wrap (gB x)=gB x:=by
 have:=x.isLt;unfold gB;rw[sN];omega
theorem ofInt64(x:BitVec 64):x8 64 (gB x)=x:=by
 apply WW;simp[gB]
theorem agT(x y:BitVec 64):bits .and .u64 (gB x) (gB y)=gB (x&&&y):=by
 unfold bits;simp only[kX,ofInt64];exact wrap64 _
theorem aiG(x y:BitVec 64):bits .or .u64 (gB x) (gB y)=gB (x|||y):=by
 unfold bits;simp only[kX,ofInt64];exact wrap64 _
theorem aea(x y:BitVec 64):bits .xor .u64 (gB x) (gB y)=gB (x^^^y):=by
 unfold bits;simp only[kX,ofInt64];exact wrap64 _
theorem agU(x:BitVec 64):bits .xor .u64 uA.max (gB x)=gB (~~~ x):=by
 have h:=aea (BitVec.allOnes 64) x;rw[BitVec.allOnes_xor]at h;rw[<-h];rfl
theorem UB(b:Nat)(h:b<4294967296):bits .and .i64 (b:Int) 63=((b %64:Nat):Int):=by
 have e1:x8 64 (b:Int)=io 64 b:=by simp
 have e2:(io 64 b&&&63#64).toNat=b %64:=by
  rw[BitVec.toNat_and,DE,Ph (by omega:b<2^64)];exact Nat.and_two_pow_sub_one_eq_mod b 6
 have e3:bits .and .i64 (b:Int) 63=az.wrap (((io 64 b&&&63#64).toNat:Nat):Int):=by
  unfold bits;simp only[kX,e1];rfl
 rw[e3,e2,IntKind.wrap_i64];omega
theorem abV(k:Nat)(h:k<64):uA.wrap ((2:Int)^k)=gB (io 64 (2^k)):=by
 have this:2^k<2^64:=Nat.pow_lt_pow_right akh h;unfold gB;rw[DE,Ph this,sN];have e:(2:Int)^k=((2^k:Nat):Int):=by simp
 rw[e];generalize 2^k=m at*;omega
structure C4 where
 a:BitVec 64
 b:BitVec 64
 c:BitVec 64
 d:BitVec 64
 deriving DecidableEq
def C4.get(x:C4)(i:Nat):BitVec 64:=if i=0 then x.a else if i=1 then x.b else if i=2 then x.c else x.d
def C4.set(x:C4)(i:Nat)(v:BitVec 64):C4:=if i=0 then {x with a:=v}else if i=1 then {x with b:=v}else if i=2 then {x with c:=v}else {x with d:=v}
def C4.zero:C4:=⟨0,0,0,0⟩
def C4.XV(x y:C4):C4:=⟨x.a&&&y.a,x.b&&&y.b,x.c&&&y.c,x.d&&&y.d⟩
def C4.not(x:C4):C4:=⟨~~~x.a,~~~x.b,~~~x.c,~~~x.d⟩
def ed(x:C4):List Value:=[.int .u64 (gB x.a),.int .u64 (gB x.b),.int .u64 (gB x.c),.int .u64 (gB x.d)]
def oY(x:C4):Value:=aQ #[.int .u64 (gB x.a),.int .u64 (gB x.b),.int .u64 (gB x.c),.int .u64 (gB x.d)]
theorem XW(x:C4)(i:Nat)(h:i<4):(ed x)[i]?=aj (v64 (x.get i)):=by
 match i,h with
 |0,_=>rfl
 |1,_=>rfl
 |2,_=>rfl
 |3,_=>rfl
theorem XX(x:C4)(i:Nat)(h:i<4)(v:BitVec 64):(ed x).set i (v64 v)=ed (x.set i v):=by
 match i,h with
 |0,_=>rfl
 |1,_=>rfl
 |2,_=>rfl
 |3,_=>rfl
def C4.bit(x:C4)(n:Nat):C4:=x.set (n/64) (x.get (n/64)|||io 64 (2^(n %64)))
def C4.kw(x:C4)(b:Nat):Nat->C4
 |0=>x
 |n+1=>(C4.kw x b n).bit (b+n)
theorem XY(x:C4)(b n:Nat):(C4.kw x b n).set ((b+n)/64) ((C4.kw x b n).get ((b+n)/64)|||io 64 (2^((b+n) %64)))=C4.kw x b (n+1):=rfl
def fy(lo hi:Int):C4:=C4.kw C4.zero (max lo 0).toNat (min hi 255+1-max lo 0).toNat
theorem C4.ext'{x y:C4}(h1:x.a=y.a)(h2:x.b=y.b)(h3:x.c=y.c)(h4:x.d=y.d):x=y:=by
 cases x;cases y;simp_all
theorem b5(p q:Bool):(p||(p&&q))=p:=by cases p<;>cases q<;>rfl
end de
namespace de
def b8(b:Nat):Nat:=((b/4)&&&51)+(b&&&51)
def c8(b:Nat):Nat:=(b/16+b)&&&15
theorem k1:∀t<2,∀c<128,(c+128*t)&&&85=c&&&85:=by decide+kernel
theorem k2:∀t<4,∀c<64,(c+64*t)&&&51=c&&&51:=by decide+kernel
theorem k3:∀t<5,∀p<5,∀q<5,(p+(q+16*p)+16*t)&&&15=c8 (q+16*p):=by decide+kernel
def s1(x:Nat):Nat:=((x/2)&&&6148914691236517205)+(x&&&6148914691236517205)
def s2(x:Nat):Nat:=((x/4)&&&3689348814741910323)+(x&&&3689348814741910323)
def s3(x:Nat):Nat:=(x/16+x)&&&1085102592571150095
def s4(x:Nat):Nat:=x+x/256
def s5(x:Nat):Nat:=x+x/65536
def s6(x:Nat):Nat:=x+x/4294967296
end de
namespace de
def C4.mem(x:C4)(n:Nat):Bool:=(x.get (n/64)).toNat.testBit (n %64)
def yo(x:C4):List Nat:=(eg 256).filter x.mem
def WA(x:C4):Nat:=(yo x).length
theorem get_mem(x:C4)(n:Nat):x.mem n=(x.get (n/64)).getLsbD (n %64):=by
 unfold C4.mem;rw[BitVec.getLsbD]
theorem LP(n:Nat):C4.zero.mem n=false:=by
 rw[get_mem];have:C4.zero.get (n/64)=0:=by unfold C4.get C4.zero;split;rfl;split;rfl;split<;>rfl
 rw[this];simp
theorem ext_mem{x y:C4}(h:∀n,n<256->x.mem n=y.mem n):x=y:=by
 have w:∀i,i<4->x.get i=y.get i:=λi hi=>by
  apply BitVec.eq_of_getLsbD_eq;intro j hj;have:=h (64*i+j) J;rw[get_mem,get_mem,show(64*i+j)/64=i by omega,show(64*i+j) %64=j by omega]at this;exact this
 exact C4.ext' (w 0 akh) (w 1 akh) (w 2 akh) (w 3 akh)
theorem UC{x:C4}{n:Nat}:n∈yo x↔n<256/\x.mem n=true:=by
 unfold yo;rw[DP,nG]
end de
namespace gd
open de
inductive Rx where
 |mk (kind:Int) (c:C4) (kids:List Rx)
def Rx.kind:Rx->Int| .mk k _ _=>k
def Rx.uQ:Rx->C4| .mk _ c _=>c
def Rx.kids:Rx->List Rx| .mk _ _ l=>l
def D8(k:Int):Int:=if k=1 then 0 else if k=2 then 0 else if k=3 then 0 else if k=6 then 1 else if k=4 then 2 else if k=5 then 2 else-1
mutual
def mw:Rx->Nat->Nat->Int×Nat
 | .mk k c l,deep,n=>if 100<n+1 then(2,n+1)else if 30<deep then(7,n+1)else if D8 k≠(l.length:Int)then(1,n+1)else if(decide (k=3) !=decide (c≠C4.zero))=aC then(1,n+1)else CK l (deep+1) (n+1)
def CK:List Rx->Nat->Nat->Int×Nat
 |[],_,n=>(0,n)
 |r::l,deep,n=>if(mw r deep n).1≠0 then mw r deep n else CK l deep (mw r deep n).2
end
mutual
def tV:Rx->Nat
 | .mk _ _ l=>sZ l+1
def sZ:List Rx->Nat
 |[]=>0
 |r::l=>tV r+sZ l
end
theorem HA(r:Rx):0<tV r:=by obtain⟨k,c,l⟩:=r;rw[tV];omega
theorem D9:∀{l:List Rx} {r:Rx},r∈l->tV r<=sZ l
 |x::l,r,h=>by
  rw[sZ];rcases dC.1 h with rfl|h
  omega;have:=D9 h;omega
inductive Re where
 |none
 |empty
 |byte (c:C4)
 |Jr (a b:Re)
 |Js (a b:Re)
 |star (a:Re)
def Re.size:Re->Nat
 | .Jr a b=>a.size+b.size+1
 | .Js a b=>a.size+b.size+1
 | .star a=>a.size+1
 |_=>1
def Re.LQ:Re->Nat
 | .Jr a b=>max a.LQ b.LQ+1
 | .Js a b=>max a.LQ b.LQ+1
 | .star a=>a.LQ+1
 |_=>1
def Re.nz:Re->Prop
 | .byte c=>c≠C4.zero
 | .Jr a b=>a.nz/\b.nz
 | .Js a b=>a.nz/\b.nz
 | .star a=>a.nz
 |_=>True
def Re.kind:Re->Int
 | .none=>1
 | .empty=>2
 | .byte _=>3
 | .Jr _ _=>4
 | .Js _ _=>5
 | .star _=>6
def Re.uQ:Re->C4
 | .byte c=>c
 |_=>C4.zero
def Re.kids:Re->List Re
 | .Jr a b=>[a,b]
 | .Js a b=>[a,b]
 | .star a=>[a]
 |_=>[]
def l9:Re->Rx
 | .none=> .mk 1 C4.zero []
 | .empty=> .mk 2 C4.zero []
 | .byte c=> .mk 3 c []
 | .Jr a b=> .mk 4 C4.zero [l9 a,l9 b]
 | .Js a b=> .mk 5 C4.zero [l9 a,l9 b]
 | .star a=> .mk 6 C4.zero [l9 a]
theorem ae3(r:Re):l9 r= .mk r.kind r.uQ (r.kids.map l9):=by cases r<;>rfl
theorem Re.size_pos(r:Re):0<r.size:=by cases r<;>simp[Re.size]
theorem SH{α:Type}{l:List α}(h:l.length=2):∃a b,l=[a,b]:=
 match l,h with
 |[a,b],_=>⟨a,b,rfl⟩
structure Fit(r:Re)(deep n:Nat):Prop where
 nz:r.nz
 sz:n+r.size<=100
 dp:deep+r.LQ<=31
theorem D_{p:Int×Nat}{q:Nat}(h:p=(0,q)):p.1=0/\p.2=q:=by subst h;exact⟨rfl,rfl⟩
theorem Jt:∀(N:Nat) (r:Rx) (deep n q:Nat),tV r<=N->mw r deep n=(0,q)->∃e:Re,r=l9 e/\Fit e deep n/\q=n+e.size
 |0,r,_,_,_,h,_=>by have:=HA r;omega
 | N + 1,.mk k c l,deep,n,q,hN,h=>by
  have IH:=Jt N;rw[tV]at hN;rw[mw]at h;split at h;simp at h;split at h;simp at h;split at h;simp at h;split at h;simp at h
  rename_i h1 h2 h3 h4
  have h3:D8 k=(l.length:Int):=by simpa using h3
  have h4:decide (k=3)=decide (c≠C4.zero):=by
   generalize decide (k=3)=x at*;generalize decide (c≠C4.zero)=y at*
   cases x<;>cases y<;>simp_all
  have leaf:∀e:Re,k=e.kind->c=e.uQ->l=[]->e.kids=[]->e.size=1->e.LQ=1->e.nz->∃e:Re,Rx.mk k c l=l9 e/\Fit e deep n/\q=n+e.size:=λe a1 a2 a3 a4 a5 a6 a7=>by
   subst a1 a2 a3;rw[CK]at h;refine⟨e,by rw[ae3,a4];rfl,⟨a7,by omega,by omega⟩,?_⟩;simp at h;omega
  unfold D8 at h3;have hz:k≠3->c=C4.zero:=λhk=>by
   rw[decide_eq_false hk]at h4;exact WY λhc=>by rw[decide_eq_true hc]at h4;cases h4
  by_cases k1:k=1
  ·rw[if_pos k1]at h3
   exact leaf .none k1 (hz J) (mS J) I I I trivial
  rw[if_neg k1]at h3
  by_cases k2:k=2
  ·rw[if_pos k2]at h3
   exact leaf .empty k2 (hz J) (mS J) I I I trivial
  rw[if_neg k2]at h3
  by_cases k3:k=3
  ·rw[if_pos k3]at h3
   rw[decide_eq_true k3]at h4;exact leaf (.byte c) k3 I (mS J) I I I (by show c≠C4.zero;exact of_decide_eq_true h4.symm)
  rw[if_neg k3]at h3;have hc:=hz k3;subst hc;have two:∀(a b:Rx),l=[a,b]->∃x y:Re,a=l9 x/\b=l9 y/\Fit x (deep+1) (n+1)/\Fit y (deep+1) (n+1+x.size)/\q=n+1+x.size+y.size:=λa b hl=>by
   subst hl;rw[sZ,sZ,sZ]at hN;rw[CK,CK,CK]at h
   by_cases e1:(mw a (deep+1) (n+1)).1=0
   ·rw[if_neg (by simpa using e1)]at h
    obtain⟨x,rfl,f1,g1⟩:=IH a (deep+1) (n+1) (mw a (deep+1) (n+1)).2 J (oH e1 rfl);rw[g1]at h
    by_cases e2:(mw b (deep+1) (n+1+x.size)).1=0
    ·rw[if_neg (by simpa using e2)]at h
     obtain⟨y,rfl,f2,g2⟩:=IH b (deep+1) (n+1+x.size) (mw b (deep+1) (n+1+x.size)).2 J (oH e2 rfl);exact⟨x,y,rfl,rfl,f1,f2,by rw[g2]at h;simp at h;omega⟩
    rw[if_pos e2]at h;exact absurd (D_ h).1 e2
   rw[if_pos e1]at h;exact absurd (D_ h).1 e1
  by_cases k6:k=6
  ·rw[if_pos k6]at h3
   obtain⟨a,rfl⟩:∃a,l=[a]:=List.length_eq_one_iff.1 J;rw[sZ,sZ]at hN;rw[CK,CK]at h
   by_cases e1:(mw a (deep+1) (n+1)).1=0
   ·rw[if_neg (by simpa using e1)]at h
    obtain⟨x,rfl,f1,g1⟩:=IH a (deep+1) (n+1) (mw a (deep+1) (n+1)).2 J (oH e1 rfl);have:=f1.sz;have:=f1.dp;exact⟨.star x,by rw[k6];rfl,⟨f1.nz,by simp only[Re.size];omega,by simp only[Re.LQ];omega⟩,by rw[g1]at h;simp at h;simp only[Re.size];omega⟩
   rw[if_pos e1]at h;exact absurd (D_ h).1 e1
  rw[if_neg k6]at h3
  by_cases k4:k=4
  ·rw[if_pos k4]at h3
   obtain⟨a,b,rfl⟩:∃a b,l=[a,b]:=SH J;obtain⟨x,y,rfl,rfl,f1,f2,g⟩:=two a b rfl;have:=f1.dp;have:=f2.dp;have:=f2.sz;exact⟨.Jr x y,by rw[k4];rfl,⟨⟨f1.nz,f2.nz⟩,by simp only[Re.size];omega,by simp only[Re.LQ];omega⟩,by simp only[Re.size];omega⟩
  rw[if_neg k4]at h3
  by_cases k5:k=5
  ·rw[if_pos k5]at h3
   obtain⟨a,b,rfl⟩:∃a b,l=[a,b]:=SH J;obtain⟨x,y,rfl,rfl,f1,f2,g⟩:=two a b rfl;have:=f1.dp;have:=f2.dp;have:=f2.sz;exact⟨.Js x y,by rw[k5];rfl,⟨⟨f1.nz,f2.nz⟩,by simp only[Re.size];omega,by simp only[Re.LQ];omega⟩,by simp only[Re.size];omega⟩
  rw[if_neg k5]at h3;omega
inductive GQ(P:List UInt8->Prop):List UInt8->Prop
 |nil:GQ P []
 |cons {u v:List UInt8}:P u->GQ P v->GQ P (u++v)
def LR:Re->List UInt8->Prop
 | .none,_=>False
 | .empty,s=>s=[]
 | .byte c,s=>∃b:UInt8,s=[b]/\c.mem b.toNat=aC
 | .Jr a b,s=>∃u v,s=u++v/\LR a u/\LR b v
 | .Js a b,s=>LR a s\/LR b s
 | .star a,s=>GQ (LR a) s
theorem UD{P:List UInt8->Prop}{u v:List UInt8}(h:GQ P u)(hv:P v):GQ P (u++v):=by
 induction h with
 |nil=>have:=GQ.cons hv .nil;simpa using this
 |cons h1 _ ih=>rw[dZ];exact .cons h1 ih
def Pz(s:List UInt8)(f j:Nat):List UInt8:=(s.drop f).take (j-f)
theorem Ju{s:List UInt8}{f j:Nat}(h:j<=s.length):(Pz s f j).length=j-f:=by unfold Pz;rw[iN,List.length_drop];omega
theorem XZ(s:List UInt8)(f:Nat):Pz s f f=[]:=by unfold Pz;simp
theorem SI{s:List UInt8}{f i j:Nat}(h1:f<=i)(h2:i<=j):Pz s f j=Pz s f i++Pz s i j:=by
 unfold Pz;rw[show j-f=(i-f)+(j-i)by omega,List.take_add,kI,show f+(i-f)=i by omega]
theorem abW{s u v:List UInt8}{f j:Nat}(hf:f<=j)(hj:j<=s.length)(h:Pz s f j=u++v):f+u.length<=j/\u=Pz s f (f+u.length)/\v=Pz s (f+u.length) j:=by
 have hl:=Ju (s:=s) (f:=f) hj;rw[h,bI]at hl;have h1:f+u.length<=j:=by omega
 have e:=SI (s:=s) (f:=f) (i:=f+u.length) (j:=j) J h1;rw[h]at e;have hlu:u.length=(Pz s f (f+u.length)).length:=by rw[Ju J];omega
 have:=List.append_inj e hlu;exact⟨h1,this.1,this.2⟩
def UE(r:Re)(s:List UInt8)(f j:Nat):Prop:=f<=j/\j<=s.length/\LR r (Pz s f j)
inductive Rch(R:Nat->Nat->Prop)(f:Nat):Nat->Prop
 |refl:Rch R f f
 |step {i j:Nat}:Rch R f i->R i j->Rch R f j
theorem Rch.cons{R:Nat->Nat->Prop}{f i j:Nat}(h:R f i)(h':Rch R i j):Rch R f j:=by
 induction h' with
 |refl=>exact .step .refl h
 |step _ h2 ih=>exact .step ih h2
theorem X0{a:Re}{s:List UInt8}{f j:Nat}(hf:f<=s.length):UE (.star a) s f j↔Rch (UE a s) f j:=by
 constructor
 ·rintro⟨h1,h2,h⟩
  have h:GQ (LR a) (Pz s f j):=h;have aux:∀w,GQ (LR a) w->∀f,f<=j->Pz s f j=w->Rch (UE a s) f j:=by
   intro w hw
   induction hw with
   | nil=>
    intro f GH e;have:=Ju (s:=s) (f:=f) h2;rw[e]at this;have:f=j:=by simp at this;omega
    subst this;exact .refl
   | cons hu _ ih=>
    intro f GH e;obtain⟨a1,a2,a3⟩:=abW GH h2 e;exact Rch.cons ⟨Nat.le_add_right _ _,by omega,by rw[<-a2];exact hu⟩ (ih _ a1 a3.symm)
  exact aux _ h f h1 I
 intro h
 induction h with
 |refl=>exact⟨bz _,hf,by rw[XZ];exact GQ.nil⟩
 | step _ h2 ih=>
  obtain⟨a1,a2,a3⟩:=ih;obtain⟨b1,b2,b3⟩:=h2;exact⟨by omega,b2,by rw[SI a1 b1];exact UD a3 b3⟩
def agV(s:List UInt8)(r:Re)(f:Nat)(c:C4):Prop:=∀j,j<256->(c.mem j=aC↔UE r s f j)
end gd
namespace gd
open de
abbrev SJ:=List UInt8
structure RS where
 p:Nat
 o:Nat
 e:Int
def RS.up(st:RS):RS:={st with p:=st.p+1}
def aiH:SJ:=[48,49,50,51,52,53,54,55,56,57,97,98,99,100,101,102]
def ae4:SJ:=[40,41,91,93,124,42,43,63,46,94,45,92]
section
variable{s:SJ}
structure UF(s:SJ)(st st':RS):Prop where
 o:st'.o=st.o
 ge:st.p<=st'.p
 le:st'.p<=s.length
theorem UF.trans{a b c:RS}(h:UF s a b)(h':UF s b c):UF s a c:=⟨by rw[h'.o,h.o],fI h.ge h'.ge,h'.le⟩
theorem UF.refl{st:RS}(h:st.p<=s.length):UF s st st:=⟨rfl,bz _,h⟩
end
end gd
namespace gd
open de
def agW(n:Nat):UInt8:=aiH.getD n 0
def X1(b:UInt8):SJ:=
 if b=10 then [92,110]else if b=9 then [92,116]else if b=32 then [92,115]
 else if b<33\/126<b then [92,120,agW (b.toNat/16),agW (b.toNat %16)]
 else if b∈ae4 then [92,b]else [b]
def ae5:Nat->List Nat->Nat
 |_,[]=>0
 |b,x::r=>if x=b+1 then ae5 (b+1) r+1 else 0
def agX(b k:Nat):SJ:=X1 (fY b)++((if 1<k then [45]else [])++(if 0<k then X1 (fY (b+k))else []))
def PA:Nat->List Nat->SJ
 |0,_=>[]
 |_+1,[]=>[]
 |f+1,b::r=>agX b (ae5 b r)++PA f (r.drop (ae5 b r))
def ae6(c:C4):SJ:=
 if WA c=1 then X1 (fY ((yo c).getD 0 0))
 else if WA c=255/\c.mem 10=aE then [46]
 else if 128<WA c then [91,94]++(PA 256 (yo c.not)++[93])
 else [91]++(PA 256 (yo c)++[93])
def X2(lv:Nat)(e:Re):Bool:=decide (1<=lv/\e.kind=5\/2<=lv/\e.kind=4\/3<=lv/\e.kind=6)
def wrap(b:Bool)(t:SJ):SJ:=if b then [40]++(t++[41])else t
def body:Re->SJ
 | .empty=>[40,41]
 | .none=>[91,93]
 | .byte c=>ae6 c
 | .star a=>wrap (X2 3 a) (body a)++[42]
 | .Jr a b=>wrap (X2 1 a) (body a)++wrap (X2 2 b) (body b)
 | .Js a b=>wrap (X2 0 a) (body a)++([124]++wrap (X2 1 b) (body b))
section
end
end gd
namespace bZ
open Go.RowKit cK dS Go.ChangeShapes Go.WideShapes Go.ChangeAt
section
variable{H:Type}{enc0:TypeId×Value->H}{P:Program}{W:World}
def UG{α:Type}(W:World)(is:List Value->α->Prop)(c:Nat)(v:Value)(l:List α):Prop:=
 ∃base cap,v=ap base l.length cap/\l.length<=cap/\cap<=maxLen/\(0<l.length->∃b off,base=aj ⟨b,off,ak⟩/\∀i (h:i<l.length),∃cs,is cs l[i]/\Rd W b (off+i*c) cs)
def uR(enc0:TypeId×Value->H)(P:Program)(W:World)(t:TypeId){α:Type}(is:List Value->α->Prop):Prop:=
 ∀fuel cs x,yb enc0 P W 0 (λ_=>aC) aC fuel t cs=aj x->∃a,is cs a
theorem uR.mono{t:TypeId}{α:Type}{is is':List Value->α->Prop}(h:uR enc0 P W t is)(hi:∀cs a,is cs a->is' cs a):uR enc0 P W t is':=λf cs x hx=>let ⟨a,ha⟩:=h f cs x hx;⟨a,hi _ _ ha⟩
def isInt(k:IntKind)(lo hi:Int)(cs:List Value)(n:Int):Prop:=cs=[.int k n]/\lo<=n/\n<=hi
def agY(cs:List Value)(s:List UInt8):Prop:=cs=[str s]/\s.length<=9223372036854775807
theorem HB{t:TypeId}{k:IntKind}(ht:P.underlying t=aj (.int k)):uR enc0 P W t (isInt k k.min k.max):=λf cs x h=>by
 obtain⟨n,h1,_,h3⟩:=DataW.trod_int ht h;simp only[Lit.wf,eX,decide_eq_true_eq]at h3;exact⟨n,h1,h3.1,h3.2⟩
theorem UH{t:TypeId}(ht:P.underlying t=aj (.int .i64)):uR enc0 P W t (isInt .i64 (-9223372036854775808) 9223372036854775807):=(HB ht).mono λcs n h=>⟨h.1,by simpa[AV,pt,kX]using h.2.1,by simpa[AW,pt,kX]using h.2.2⟩
theorem UI{t:TypeId}(ht:P.underlying t=aj (.int .u64)):uR enc0 P W t (isInt .u64 0 18446744073709551615):=(HB ht).mono λcs n h=>⟨h.1,by simpa[AV,pt,kX]using h.2.1,by simpa[AW,pt,kX]using h.2.2⟩
def agZ{α:Type}(W:World)(is:List Value->α->Prop)(c:Nat)(cs:List Value)(l:List α):Prop:=∃v,cs=[v]/\UG W is c v l
def aeb{α:Type}(is:List Value->α->Prop)(m c:Nat)(cs:List Value)(l:List α):Prop:=l.length=m/\∀i (h:i<l.length),is ((cs.drop (i*c)).take c) l[i]
theorem LS{t e:TypeId}{m c:Nat}(ht:P.underlying t=aj (.array m e))(hc:P.cellsOf e=c){α:Type}{is:List Value->α->Prop}(hd:uR enc0 P W e is):uR enc0 P W t (λcs l=>cs.length=P.cellsOf t/\aeb is m c cs l):=λfuel cs x h=>by
 obtain⟨xs,n,_,_,hl,hlen,hf⟩:=DataW.trod_array ht h;have each:∀i,i<m->∃y:α,is ((cs.drop (i*c)).take c) y:=λi hi=>by
  have h1:=hf i hi;rw[hc,bK J]at h1;exact hd n _ _ h1
 obtain⟨l,UJ,hp⟩:=C6 m each;exact⟨l,hl,UJ,λi hi=>hp i _ (bK hi)⟩
def X3(k:IntKind)(lo hi:Int)(m:Nat)(cs:List Value)(l:List Int):Prop:=l.length=m/\cs=l.map (.int k)/\∀x∈l,lo<=x/\x<=hi
theorem LU{k:IntKind}{lo hi:Int}{m:Nat}{cs:List Value}{l:List Int}(hl:cs.length=m)(h:aeb (isInt k lo hi) m 1 cs l):X3 k lo hi m cs l:=by
 obtain⟨h1,h2⟩:=h;refine⟨h1,?_,λx hx=>?_⟩
 ·apply mi
  intro i
  by_cases hi:i<l.length
  ·have h3:=(h2 i hi).1
   rw[k_]at h3;have hic:i<cs.length:=by omega
   rw[eZ hic,sQ,uG]at h3;injection h3 with h3 _
   rw[bK hic,fe,bK hi,h3];rfl
  rw[k7 J,k7 (by simp;omega)]
 obtain⟨i,hi,rfl⟩:=iB.1 hx;exact(h2 i hi).2
theorem abX{t:TypeId}{fs:Array Field}(ht:P.underlying t=aj (.struct fs)){base:Nat}{v:Value}{d:DataW H}{ps:List MemPlace}(hv:Jc P W .any base t v)(h:W_ enc0 P W 0 (λ_=>aC) aC t v d ps):∃cs fuel,v= .agg cs/\yb enc0 P W 0 (λ_=>aC) aC fuel t cs.toList=aj (d,ps):=by
 simp only[Jc,ht]at hv;obtain⟨cs,rfl,_,_⟩:=hv;obtain⟨fuel,hf⟩:=h;exact⟨cs,fuel,rfl,hf⟩
end
theorem UG.sl{α:Type}{W:World}{is:List Value->α->Prop}{f:α->Value}{v:Value}{l:List α}(h:UG W is 1 v l)(hf:∀cs a,is cs a->cs=[f a]):Sl W v l.length (l.map f):=by
 obtain⟨base,cap,h1,h2,h3,h4⟩:=h;refine⟨base,cap,h1,h2,h3,λh0=>?_⟩;obtain⟨b,off,h5,h6⟩:=h4 h0;refine⟨b,off,h5,λj u hj=>?_⟩;have hjl:j<l.length:=by simpa using(dg.1 hj).1
 obtain⟨cs,h7,h8⟩:=h6 j hjl;have:=h8 0 (f l[j]) (by rw[hf _ _ h7];rfl);simp only[k_,iu]at this;rw[this,<-hj];simp[hjl]
theorem UG.up{α:Type}{W w:World}{L:List b9}{is:List Value->α->Prop}{c:Nat}{v:Value}{l:List α}(h:UG W is c v l)(hm:Mem W L w):UG w is c v l:=by
 obtain⟨base,cap,h1,h2,h3,h4⟩:=h;exact⟨base,cap,h1,h2,h3,λh0=>let ⟨b,off,h5,h6⟩:=h4 h0;⟨b,off,h5,λi hi=>let ⟨cs,h7,h8⟩:=h6 i hi;⟨cs,h7,λj u hj=>hm.cell (h8 j u hj)⟩⟩⟩
end bZ
namespace bZ
open Go.RowKit cK dS
section
variable{α:Type}{f:α->List Value}{c:Nat}
theorem uS(hc:∀a,(f a).length=c):∀(l:List α) (k j:Nat) (h:k<l.length),j<c->(l.flatMap f)[k*c+j]?=(f l[k])[j]?
 |a::r,0,j,h,hj=>by
  grind
 |a::r,k+1,j,h,hj=>by
  have ih:=uS hc r k j (by simp_all) hj;rw[mg,pv (by rw[hc,ml];omega),hc];simp only[Xp];rw[<-ih,ml]
  congr 1
  omega
theorem lV(hc:∀a,(f a).length=c):∀(l:List α),(l.flatMap f).length=l.length*c
 |[]=>by simp
 |a::r=>by rw[mg,bI,hc,lV hc r,db,ml,Pj]
theorem ib(hc:∀a,(f a).length=c){W:World}{L:List b9}{b off:Nat}{l:List α}(h:Rd W b off (l.flatMap f)){k:Nat}(hk:k<l.length)(j:Nat)(u:Value)(hu:(f l[k])[j]?=aj u):At W L ⟨b,off+k*c+j,ak⟩ u:=by
 have hj:j<c:=by grind
 rw[k9];exact jc h (by simp_all[uS])
theorem uT(hc:∀a,(f a).length=c){W:bL}{L:List b9}{b off:Nat}{l:List α}(h:∀j u,(l.flatMap f)[j]?=aj u->At W L ⟨b,off+j,ak⟩ u){k:Nat}(hk:k<l.length)(j:Nat)(u:Value)(hu:(f l[k])[j]?=aj u):At W L ⟨b,off+k*c+j,ak⟩ u:=by
 have hj:j<c:=by grind
 simp_all[k9,uS]
theorem rP(hc:∀a,(f a).length=c){W:bL}{L:List b9}{i g m cap n size:Nat}{e:TypeId}{l:List α}(hi:L[i]?=aj (aZ e size (ap (aj ⟨g,0,ak⟩) m cap) n (l.flatMap f))){k:Nat}(hk:k<l.length)(j:Nat)(u:Value)(hu:(f l[k])[j]?=aj u):At W L ⟨g,0+k*c+j,ak⟩ u:=
 uT hc (off:=0) (λq x hq=>by rw[cX];exact jh hi hq) hk j u hu
end
def rQ{α:Type}(p:α->Bool)(l:List α):Int:=match l.findIdx? p with|some i=>i|none=> -1
theorem rR{α:Type}{p:α->Bool}{l:List α}{i:Nat}(hi:i<l.length)(h:p l[i]=aC)(hb:∀j (hj:j<l.length),j<i->p l[j]=aE):rQ p l=i:=by
 have:l.findIdx? p=aj i:=Xl.2 ⟨hi,h,λj Ln=>by simp_all⟩;simp[rQ,this]
theorem rS{α:Type}{p:α->Bool}{l:List α}(hb:∀j (hj:j<l.length),p l[j]=aE):rQ p l= -1:=by
 have:l.findIdx? p=none:=List.findIdx?_eq_none_iff.2 λx hx=>by
  obtain⟨j,hj,rfl⟩:=iB.1 hx;exact hb j hj
 grind[rQ]
theorem uU{α:Type}(p:α->Bool)(l:List α):decide (0<=rQ p l)=l.any p:=by
 unfold rQ
 grind
theorem pE{α:Type}(p:α->Bool)(l:List α): -1<=rQ p l/\rQ p l<l.length\/rQ p l= -1:=by
 unfold rQ
 cases e:l.findIdx? p with
 |none=>simp
 |some i=>
  obtain⟨h1,h2,_⟩:=Xl.1 e
  simp_all
section
variable{P:Program}{n:Nat}{W:bL}{fr:Fr}{L:List b9}{Q:Exit->Act->World->Prop}{ops:Array Oper}{rest:List Oper}{d:Nat}{dst:Option Tmp}{ty:TypeId}{pos:String}{after:Array Edge}{guard:Option (Nat×Bool)}
theorem kx{t e u:TypeId}{x y:Operand}{a:Option Addr}{m c:Nat}{b:Bool}(ht:P.underlying t=aj (.slice e))(hx:ev fr x=aj (ap a m c))(hy:ev fr y=aj (ap ak 0 0))(hb:a.isNone=b):RR P n W ⟨dst,.binOp .eql t x y u,ty,pos,after,guard⟩ fr L (.bool b):= .mk λac w hr _=>by
 subst hb;have e1:(eqGuard .eql t x y (ap a m c) (ap ak 0 0)).run P w= .ok () w:=rfl;simp[execOp,hr.ev hx,hr.ev hy,e1,Go.Lib.run_eql_slice_nil w t e a m c 0 0 ht]
theorem w6{t e:TypeId}{c bytes:Nat}[tU:rO P t e c bytes](hn:dj d n=aC)
 (h:∀g,TL P n W ops Q rest ((d,ap (aj ⟨g,0,ak⟩) 0 0)::fr) (L++[aZ e c (ap (aj ⟨g,0,ak⟩) 0 0) 0 []])):TL P n W ops Q (⟨aj d,.buildSlice t 0 #[],ty,pos,after,ak⟩::rest) fr L:=lg I λa w hr hm K hK=>by
 obtain⟨i,z,ht,hi,hz,hc,_,hzc,h0⟩:=tU.el.ex;have e':(execOp a.eval ⟨aj d,.buildSlice t 0 #[],ty,pos,after,ak⟩).run P w= .ok (.value (ap (aj ⟨w.heap.size,0,ak⟩) 0 0)) (w.alloc (.cells #[] e)):=by
  have hne:¬(0*c>2^24):=by omega
  simp[execOp,uz,run_underlying ht,sizeOf,typeInfo,hi,j_,newRow];have e0:DD 0=#[]:=by simp
  rw[e0,Array.map_empty]
 unfold gj;rw[e'];exact hK _ _ ((h w.heap.size).go _ _ (hr.put hn _) (hm.append (od w _) (nI.one (World.ownsRow_made w #[] 0 (bH _) akh (by simp)) λk hk=>by
  have:w.heap.size=k:=ra hk;omega)))
theorem eM{t e:TypeId}{s x:Operand}{i size bytes m k:Nat}{v v2:Value}{xs ys:List Value}[tU:rO P t e size bytes](hi:L[i]?=aj (aZ e size v m xs))(fO:SlL W L v2 k ys)(hs:ev fr s=aj v)(hx:ev fr x=aj v2)(hk:ys.length=k*size)
 (h1:∀u∈ys,u.oneCell'=aC) (qA:m+k<=140737488355328) (hb:(m+k)*bytes<=140737488355328) (hn:dj d n=aC)
 (h:∀v',TL P n W ops Q rest ((d,v')::fr) (L.set i (aZ e size v' (m+k) (xs++ys)))):
 TL P n W ops Q (⟨aj d,.call {callee:= .builtin .append,args:=#[s,x],argTypes:=#[t,t]},ty,pos,after,ak⟩::rest) fr L:=⟨λa w hr hm=>by
 obtain⟨base,cap,rfl,pf,zw,eP⟩:=fO w hm;have rN:ys=[]->L.set i (aZ e size v (m+0) (xs++[]))=L:=λ_=>by
  rw[du,iu];apply mi;intro q
  by_cases hq:i=q
  ·subst hq
   rw[nF (dg.1 hi).1,hi]
  rw[kZ hq]
 cases base with
 | none=>
  have hk0:k=0:=by
   simp_all
  subst hk0;have hy:ys=[]:=mS J;subst hy;have h2:=h v;rw[rN I]at h2;exact(D5 tU.el hi hs hx hn h2).go a w hr hm
 | some p=>
  have ae7:∀j u,ys[j]?=aj u->w.cell? (p.add j)=aj u:=λj u hj=>by
   obtain⟨b,off,hb,hr⟩:=eP (by
    grind)
   simp only[dh]at hb;subst hb;rw[eV];exact hr j u hj
  exact Jq (c:=cap) tU.el hi hs hx ae7 hk h1 qA hb hn h hr hm⟩
theorem aW{i size m:Nat}{e:TypeId}{v:Value}{xs:List Value}(hi:L[i]?=aj (aZ e size v m xs))(h:v.cells=#[v]->v.oneCell'=aC->TL P n W ops Q rest fr L):TL P n W ops Q rest fr L:=⟨λa w hr hm=>by
 have h1:w.ownsRow 0 e size v m xs:=hm.get hi;rcases h1.2 with⟨hv,_⟩|⟨g,cap,jZ,hv,_⟩
 exact(h (by rw[hv];rfl) (by rw[hv];rfl)).go a w hr hm;exact(h (by rw[hv];rfl) (by rw[hv];rfl)).go a w hr hm⟩
def ue(base:Option Addr)(cap c i j:Nat):Value:=ap (if cap=i then base else base.map (λ(q:Addr)=>q.add (i*c))) (j-i) (cap-i)
theorem LV{t e:TypeId}{x:Operand}{lo hi:Option Operand}{agg:Bool}{c i j len cap:Nat}{base:Option Addr}(ht:P.underlying t=aj (.slice e))(he:Ty P e agg c)(hx:ev fr x=aj (ap base len cap))
 (SC:match lo with|none=>i=0|some z=>∃k,ev fr z=aj (.int k (i:Int))) (Uw:match hi with|none=>j=len|some z=>∃k,ev fr z=aj (.int k (j:Int))) (h1:i<=j) (h2:j<=cap):
 RR P n W ⟨dst,.slice t x lo hi ak,ty,pos,after,guard⟩ fr L (ue base cap c i j):= .mk λa w hr _=>by
 have e0:(0:Int)<=(i:Int):=by omega
 have hb:∀(k:IntKind) (p q:Nat) (cd:BoundsCode),p<=q->(Ja (.int k (p:Int)) q cd).run P w= .ok p w:=λk p q cd h=>by
  simp_all[Ja,asIntOf]
 unfold ue
 cases lo<;>cases hi
 ·simp only at SC Uw
  subst SC Uw;simp[execOp,hr.ev hx,sL,sM,run_underlying ht,sK,he.size]
 ·obtain⟨k,hk⟩:=Uw
  simp only at SC;subst SC;simp[execOp,hr.ev hx,hr.ev hk,sL,sM,run_underlying ht,sK,he.size,hb k j cap _ h2]
 ·obtain⟨k,hk⟩:=SC
  simp only at Uw;subst Uw;simp[execOp,hr.ev hx,hr.ev hk,sL,sM,run_underlying ht,sK,he.size,hb k i j _ h1]
 ·obtain⟨k,hk⟩:=SC
  obtain⟨k',lO⟩:=Uw;simp[execOp,hr.ev hx,hr.ev hk,hr.ev lO,sL,sM,run_underlying ht,sK,he.size,hb k i j _ h1,hb k' j cap _ h2]
theorem rT{t e:TypeId}{x z:Operand}{agg:Bool}{c i len cap:Nat}{base:Option Addr}{k:IntKind}(ht:P.underlying t=aj (.slice e))(he:Ty P e agg c)(hx:ev fr x=aj (ap base len cap))(hz:ev fr z=aj (.int k (i:Int)))(h1:i<=len)(h2:len<=cap):
 RR P n W ⟨dst,.slice t x (aj z) ak ak,ty,pos,after,guard⟩ fr L (ue base cap c i len):=LV (lo:=aj z) (hi:=ak) ht he hx ⟨k,hz⟩ I h1 h2
theorem HC{t e:TypeId}{x z:Operand}{agg:Bool}{c j len cap:Nat}{base:Option Addr}{k:IntKind}(ht:P.underlying t=aj (.slice e))(he:Ty P e agg c)(hx:ev fr x=aj (ap base len cap))(hz:ev fr z=aj (.int k (j:Int)))(h2:j<=cap):
 RR P n W ⟨dst,.slice t x ak (aj z) ak,ty,pos,after,guard⟩ fr L (ue base cap c 0 j):=LV (lo:=ak) (hi:=aj z) ht he hx I ⟨k,hz⟩ (bH _) h2
theorem abY{t u s:TypeId}{x y z:Operand}{m m' m2 r:Int}(hx:ev fr x=aj (av az m))(hy:ev fr y=aj (av az m'))(hz:ev fr z=aj (av az m2))(h:min m (min m' m2)=r):RR P n W ⟨dst,.call {callee:= .builtin .min,args:=#[x,y,z],argTypes:=#[t,u,s]},ty,pos,after,guard⟩ fr L (av az r):= .mk λa w hr _=>by
 subst h;have h1:=hr.ev hx;have h2:=hr.ev hy;have h3:=hr.ev hz;have e:∀a b:Int,(if b<a then b else a)=min a b:=λa b=>by omega
 simp_all[lP,W1,W4,W5]
theorem Ea{α:Type}{f:α->List Value}{c:Nat}(hc:∀a,(f a).length=c){w:World}{base:Option Addr}{cap:Nat}{l:List α}(h:Sl w (ap base l.length cap) l.length (l.flatMap f)){i j:Nat}(h1:i<=j)(h2:j<=l.length):
 Sl w (ue base cap c i j) ((l.drop i).take (j-i)).length (((l.drop i).take (j-i)).flatMap f):=by
 obtain⟨b,cp,he,k1,k2,k3⟩:=h;simp only[kH,true_and]at he;obtain⟨rfl,rfl⟩:=he;have hlen:((l.drop i).take (j-i)).length=j-i:=by grind
 refine⟨_,cap-i,by rw[hlen];rfl,by omega,by omega,λh0=>?_⟩;rw[hlen]at h0;obtain⟨b,off,rfl,hr⟩:=k3 J;refine⟨b,off+i*c,by rw[if_neg J,Option.map_some,eV],λq u hq=>?_⟩;have e:l.flatMap f=(l.take i).flatMap f++((l.drop i).take (j-i)).flatMap f++((l.drop i).drop (j-i)).flatMap f:=by
  grind[yd]
 have PB:((l.take i).flatMap f).length=i*c:=by grind[lV,iN]
 have:=hr (i*c+q) u (by
  grind)
 grind
theorem n9{i size m:Nat}{e:TypeId}{v:Value}{xs:List Value}(hi:L[i]?=aj (aZ e size v m xs))(h:∀base cap,v=ap base m cap->m<=cap->cap<=9223372036854775807->TL P n W ops Q rest fr L):TL P n W ops Q rest fr L:=⟨λa w hr hm=>by
 have h1:w.ownsRow 0 e size v m xs:=hm.get hi;obtain⟨base,cap,hv,pf,zw,_⟩:=Sl.dD h1;exact(h base cap hv pf (by simp_all[maxLen])).go a w hr hm⟩
theorem Jv{c:Code}{i size m:Nat}{e:TypeId}{v:Value}{xs:List Value}(hi:L[i]?=aj (aZ e size v m xs))(h:∀base cap,v=ap base m cap->m<=cap->cap<=9223372036854775807->T P n W c Q fr L):T P n W c Q fr L:=⟨λa w hr hm=>by
 have h1:w.ownsRow 0 e size v m xs:=hm.get hi;obtain⟨base,cap,hv,pf,zw,_⟩:=Sl.dD h1;exact(h base cap hv pf (by simp_all[maxLen])).go a w hr hm⟩
theorem aec{c:Code}{i size m:Nat}{e:TypeId}{v:Value}{xs:List Value}(hi:L[i]?=aj (aZ e size v m xs))(h:v.cells=#[v]->v.oneCell'=aC->T P n W c Q fr L):T P n W c Q fr L:=⟨λa w hr hm=>by
 have h1:w.ownsRow 0 e size v m xs:=hm.get hi;obtain⟨base,cap,hv,_⟩:=Sl.dD h1;exact(h (by rw[hv];rfl) (by rw[hv];rfl)).go a w hr hm⟩
def HD(fr:Fr):List Operand->Option (List Value)
 |[]=>aj []
 |x::r=>match ev fr x,HD fr r with|some v,aj l=>aj (v::l)|_,_=>ak
theorem Eb{a:Act}(hr:nH n a fr):∀(l:List Operand) (vs:List Value),HD fr l=aj vs->l.map a.eval=vs
 |[],vs,h=>by simp_all[HD]
 | x ::r,vs,h=>by
  simp only[HD]at h;split at h
  ·rename_i v l h1 h2
   simp only[dh]at h;subst h;simp[hr.ev h1,Eb hr r l h2]
  cases h
theorem w7{fn:Fn}{first cap:Array Operand}{vs us:List Value}(h1:HD fr first.toList=aj vs)(h2:HD fr cap.toList=aj us):RR P n W ⟨dst,.makeFunc fn first cap,ty,pos,after,guard⟩ fr L (.func fn vs.toArray us.toArray):= .mk λa w hr _=>by
 have e1:first.map a.eval=vs.toArray:=by grind[Eb,DC]
 have e2:cap.map a.eval=us.toArray:=by grind[Eb,DC]
 simp only[execOp,e1,e2];rfl
end
end bZ
namespace bZ
open Go.RowKit cK dS Go.ChangeShapes Go.WideShapes Go.ChangeAt
structure Msr(P:Program)(H:Type) where
 ok:TypeId->DataW H->Prop
 lim:TypeId->Nat->Prop
 ae8:Nat->Prop
 zero:∀e,lim e 0
 slice:∀{t e:TypeId} {elems spare:List (DataW H)},P.underlying t=aj (.slice e)->ok t (.slice elems spare)->lim e elems.length/\∀d∈elems,ok e d
 X4:∀{t:TypeId} {fs:Array Field} {parts:List (DataW H)},P.underlying t=aj (.struct fs)->ok t (.agg parts)->∀(i:Nat) (f:Field) (d:DataW H),fs[i]?=aj f->parts[i]?=aj d->ok f.type d
 arr:∀{t e:TypeId} {m:Nat} {parts:List (DataW H)},P.underlying t=aj (.array m e)->ok t (.agg parts)->∀d∈parts,ok e d
 str:∀{t:TypeId} {b:List UInt8},ok t (.lit (.string b))->ae8 b.length
section
variable{H:Type}{P:Program}
theorem uV{e:TypeId}:∀(l:List (DataW H)) (d:DataW H),d∈l->∀n∈d.weights P e,n∈DH P e l
 |[],_,h,_,_=>by cases h
 |x::r,d,h,n,hn=>by
  rw[DH,fx];rcases dC.1 h with rfl|h
  exact .inl hn;exact .inr (uV r d h n hn)
theorem s7:∀(ts:List TypeId) (l:List (DataW H)) (i:Nat) (t:TypeId) (d:DataW H),ts[i]?=aj t->l[i]?=aj d->∀n∈d.weights P t,n∈x_ P ts l
 |[],_,_,_,_,h,_,_,_=>by simp at h
 |_::_,[],_,_,_,_,h,_,_=>by simp at h
 |t0::ts,d0::l,0,t,d,ht,hd,n,hn=>by
  simp only[px,dh]at ht hd;subst ht hd;rw[x_,fx];exact .inl hn
 |t0::ts,d0::l,i+1,t,d,ht,hd,n,hn=>by
  rw[x_,fx];exact .inr (s7 ts l i t d (by simpa using ht) (by simpa using hd) n hn)
def SK(P:Program)(H:Type):Msr P H where
 ok t d:=∀n∈d.weights P t,n<=reachBytes
 lim e n:=n*P.bytesOf e<=reachBytes
 ae8 n:=n<=reachBytes
 zero e:=by simp
 slice:=λ{t e elems spare} ht h=>by
  have hw:ya P t (.slice elems spare)=(elems.length+spare.length)*P.bytesOf e::(DH P e elems++DH P e spare):=by rw[ya,ht]
  rw[hw]at h;refine⟨?_,λd hd n hn=>h n ?_⟩
  ·have h1:=h _ (ia)
   exact fI (sR _ J) h1
  exact List.mem_cons_of_mem _ (uH _ (uV elems d hd n hn))
 X4:=λ{t fs parts} ht h i f d hf hd n hn=>by
  have hw:ya P t (.agg parts)=x_ P (fs.toList.map (·.type)) parts:=by rw[ya,ht]
  rw[hw]at h;exact h n (s7 _ _ i f.type d (by rw[fe,Array.getElem?_toList,hf];rfl) hd n hn)
 arr:=λ{t e m parts} ht h d hd n hn=>by
  have hw:ya P t (.agg parts)=DH P e parts:=by rw[ya,ht]
  rw[hw]at h;exact h n (uV parts d hd n hn)
 str:=λ{t b} h=>h _ (by rw[ya];exact ia)
theorem LW{ts:List TypeId}{ds:List (DataW H)}(hsz:(x_ P ts ds).all (· <=reachBytes)=aC)(j:Nat){t:TypeId}{d:DataW H}(ht:ts[j]?=aj t)(hd:ds[j]?=aj d):(SK P H).ok t d:=λn hn=>by
 have:=uE.1 hsz n (s7 ts ds j t d ht hd n hn)
 simpa using this
end
section
variable{H:Type}{enc0:TypeId×Value->H}{P:Program}{W:World}{M:Msr P H}
def lp(M:Msr P H)(enc0:TypeId×Value->H)(W:World)(t:TypeId){α:Type}(is:List Value->α->Prop):Prop:=
 ∀fuel cs x,yb enc0 P W 0 (λ_=>aC) aC fuel t cs=aj x->M.ok t x.1->∃a,is cs a
theorem lp.mono{t:TypeId}{α β:Type}{is:List Value->α->Prop}{is':List Value->β->Prop}(h:lp M enc0 W t is)(hi:∀cs a,is cs a->∃b,is' cs b):lp M enc0 W t is':=λf cs x hx hm=>let ⟨_,ha⟩:=h f cs x hx hm;hi _ _ ha
theorem HE{t:TypeId}{α:Type}{is:List Value->α->Prop}(h:uR enc0 P W t is):lp M enc0 W t is:=λf cs x hx _=>h f cs x hx
theorem PC{t:TypeId}(ht:P.underlying t=aj (.int .i64)):lp M enc0 W t (isInt .i64 (-9223372036854775808) 9223372036854775807):=HE (UH ht)
theorem yp{t:TypeId}(ht:P.underlying t=aj .string):lp M enc0 W t (λcs s=>agY cs s/\M.ae8 s.length):=λf cs x h hm=>by
 obtain⟨s,h1,h2,h3⟩:=DataW.trod_string ht h;refine⟨s.data.toList,⟨by rw[h1,XG],?_⟩,?_⟩
 ·have e:s.data.toList.length=s.size:=mf
  unfold maxLen at h3;omega
 rw[h2]at hm;exact M.str hm
theorem s8{t e:TypeId}{c:Nat}(ht:P.underlying t=aj (.slice e))(hc:P.cellsOf e=c)(Lo:0<c){α:Type}{is:List Value->α->Prop}(hd:lp M enc0 W e is)(_:∀cs a,is cs a->cs.length=c):lp M enc0 W t (λcs l=>agZ W is c cs l/\M.lim e l.length):=λfuel cs x h hm=>by
 rcases DataW.trod_slice ht h with⟨rfl,_⟩|⟨a,len,cap,elems,rest,n,_,rfl,hx,_,hlc,hmx,tU,DR,_⟩
 exact⟨[],⟨_,rfl,ak,0,rfl,bz _,by decide,λh=>by simp at h⟩,M.zero e⟩;rw[hx]at hm;obtain⟨Ec,qz⟩:=M.slice ht hm;have each:∀i,i<len->∃y:α,∃cs,W.cells? 0 (a.add (i*c)) c=aj cs/\is cs y:=λi hi=>by
  have h1:=DR i hi;rw[hc,bK J]at h1
  cases hcell:W.cells? 0 (a.add (i*c)) c with
  |none=>rw[hcell]at h1;simp at h1
  | some cs=>
   rw[hcell]at h1;obtain⟨y,hy⟩:=hd n cs _ h1 (qz _ (eT.2 ⟨_,b_ J,rfl⟩));exact⟨y,cs,rfl,hy⟩
 obtain⟨l,UJ,hp⟩:=C6 len each;subst UJ;refine⟨l,⟨_,rfl,aj a,cap,rfl,hlc,hmx,λh0=>?_⟩,by rw[dA,tU]at Ec;exact Ec⟩;obtain⟨cs0,h1,h2⟩:=hp 0 l[0] (bK h0);have h3:=(lc h1).2 0 Lo;have hlen:=(lc h1).1;rw[bK J]at h3;have hsp:=Hs h3;have e0:a.spot=none:=by
  rw[yf]at hsp;unfold x9 at hsp
  simpa using hsp
 obtain⟨b,off,spot⟩:=a;simp only at e0;subst e0;refine⟨b,off,rfl,λi hi=>?_⟩;obtain⟨cs,h4,h5⟩:=hp i l[i] (bK hi);refine⟨cs,h5,λj u hj=>?_⟩;have hjl:j<c:=by have:=(dg.1 hj).1;rw[(lc h4).1]at this;exact this
 have h6:=(lc h4).2 j hjl;rw[eV,eV]at h6;rw[h6];exact hj
theorem A_{t:TypeId}{fs:Array Field}(ht:P.underlying t=aj (.struct fs)){fuel:Nat}{cs:List Value}{x:DataW H×List MemPlace}(h:yb enc0 P W 0 (λ_=>aC) aC fuel t cs=aj x)(hm:M.ok t x.1):
 cs.length=P.cellsOf t/\∀(i:Nat) (f:Field),fs[i]?=aj f->∀{α:Type} {is:List Value->α->Prop},lp M enc0 W f.type is->∃a,is ((cs.drop f.offset).take (P.cellsOf f.type)) a:=by
 obtain⟨xs,n,_,hx,hl,hlen,hf⟩:=DataW.trod_struct ht h;refine⟨hl,λi f hi α is ho=>?_⟩;have h1:=hf i f hi;have hlt:i<xs.length:=by rw[hlen];exact(jx.1 hi).1
 rw[bK hlt]at h1;rw[hx]at hm;exact ho n _ _ h1 (M.X4 ht hm i f _ hi (by rw[fe,bK hlt];rfl))
theorem X5{t:TypeId}{fs:Array Field}(ht:P.underlying t=aj (.struct fs)){base:Nat}{v:Value}{d:DataW H}{ps:List MemPlace}(hv:Jc P W .any base t v)(h:W_ enc0 P W 0 (λ_=>aC) aC t v d ps){α:Type}{is:List Value->α->Prop}(ho:lp M enc0 W t is)(hm:M.ok t d):∃cs a,v= .agg cs/\is cs.toList a:=by
 obtain⟨cs,fuel,rfl,hf⟩:=abX ht hv h;obtain⟨a,ha⟩:=ho fuel cs.toList _ hf hm;exact⟨cs,a,rfl,ha⟩
end
theorem UG.flat{α:Type}{W:World}{is:List Value->α->Prop}{f:α->List Value}{c:Nat}{v:Value}{l:List α}(h:UG W is c v l)(hc:∀a,(f a).length=c)(Lo:0<c)(hf:∀cs a,is cs a->cs=f a):Sl W v l.length (l.flatMap f):=by
 obtain⟨base,cap,h1,h2,h3,h4⟩:=h;refine⟨base,cap,h1,h2,h3,λh0=>?_⟩;obtain⟨b,off,h5,h6⟩:=h4 h0;refine⟨b,off,h5,λj u hj=>?_⟩;have hjl:=(dg.1 hj).1;rw[LF hc]at hjl;have hi:j/c<l.length:=(Xw Lo).2 hjl;have ae9:=A3 j Lo;have hdm:j/c*c+j %c=j:=by rw[Nat.mul_comm];exact Nat.div_add_mod j c
 obtain⟨cs,h7,h8⟩:=h6 (j/c) hi;rw[hf _ _ h7]at h8;have h9:=BY hc l (j/c) (j %c) l[j/c] (bK hi) ae9;rw[hdm]at h9;rw[h9]at hj;have:=h8 (j %c) u hj;rw[k9,hdm]at this;exact this
end bZ
namespace bZ
open Go.RowKit cK dS
section
variable{P:Program}{n:Nat}{W:bL}{fr:Fr}{L:List b9}{Q:Exit->Act->World->Prop}{ops:Array Oper}{rest:List Oper}{d:Nat}{dst:Option Tmp}{ty:TypeId}{pos:String}{after:Array Edge}{guard:Option (Nat×Bool)}
theorem Jw{t e:TypeId}{x:Operand}{p:Option Addr}{m cap:Nat}(ht:P.underlying t=aj (.slice e))(hx:ev fr x=aj (ap p m cap)):RR P n W ⟨dst,.call {callee:= .builtin .cap,args:=#[x],argTypes:=#[t]},ty,pos,after,guard⟩ fr L (av az cap):= .mk λa w hr _=>by
 have OK:=hr.ev hx;simp[lP,BigFrame.builtin_cap,Builtin.cap_,OK,run_underlying ht,goInt]
theorem uW{t e:TypeId}{x y:Operand}{c bytes m cap:Nat}{k k':IntKind}{zs:Array Value}[tU:rO P t e c bytes][hz0:eQ P e zs](hx:ev fr x=aj (.int k (m:Int)))(hy:ev fr y=aj (.int k' (cap:Int)))(ON:m<=cap)(hb:bytes*cap<=281474976710656)(qA:cap<=9223372036854775807)(hn:dj d n=aC)
 (h:∀g,TL P n W ops Q rest ((d,ap (aj ⟨g,0,ak⟩) m cap)::fr) (L++[aP g (madeCells zs (cap*c)) e])):TL P n W ops Q (⟨aj d,.makeSlice t x y,ty,pos,after,ak⟩::rest) fr L:=lg I λa w hr hm K hK=>by
 obtain⟨i,z,ht,hi,hz,hc,OL,hzc,h0⟩:=tU.el.ex;obtain⟨i2,z2,WB,hz2,hz3⟩:=eQ.ex (P:=P) (t:=e);rw[hi]at WB;obtain rfl:i=i2:=ra WB;rw[hz]at hz2;obtain rfl:z=z2:=ra hz2;have OO:(i.bytes:Int)*(cap:Int)<=281474976710656:=by
  rw[OL,<-Int.natCast_mul];omega
 have hrun:=run_make (P:=P) w t e i z ht hi hz k k' (m:Int) (cap:Int) J J OO J;rw[dF,dF,hc,hz3]at hrun;have e':(execOp a.eval ⟨aj d,.makeSlice t x y,ty,pos,after,ak⟩).run P w= .ok (.value (ap (aj ⟨w.heap.size,0,ak⟩) m cap)) (w.alloc (.cells (madeCells zs (cap*c)) e)):=by
  simp only[execOp,hr.ev hx,hr.ev hy,nE,hrun,q9,pu]
 unfold gj;rw[e'];exact hK _ _ ((h w.heap.size).go _ _ (hr.put hn _) (hm.append (od w _) (nI.one (heap_alloc_new w _) λk hk=>by simp only[aP,dh]at hk;omega)))
theorem Mem.X6{w:World}{i g m cap size:Nat}{cs:Array Value}{e:TypeId}(h:Mem W L w)(hi:L[i]?=aj (aP g cs e))(hc:cs.size=cap*size)(ON:m<=cap)(lW:cap<=9223372036854775807):Mem W (L.set i (aZ e size (ap (aj ⟨g,0,ak⟩) m cap) m (cs.toList.take (m*size)))) w:=
 h.CH hi ⟨rfl,rfl,rfl,bz _,λ_ _ _=>rfl⟩ ⟨by rw[iN,mf,hc,DQ (sR _ ON)],.inr ⟨g,cap,cs,rfl,bH _,h.get hi,ON,by unfold maxLen;omega,hc,rfl⟩⟩ λk hk=> .inl hk
theorem HG{i g m cap:Nat}{cs:Array Value}{e:TypeId}(size:Nat)(hi:L[i]?=aj (aP g cs e))(hc:cs.size=cap*size)(ON:m<=cap)(lW:cap<=9223372036854775807)(h:TL P n W ops Q rest fr (L.set i (aZ e size (ap (aj ⟨g,0,ak⟩) m cap) m (cs.toList.take (m*size))))):TL P n W ops Q rest fr L:=
 ⟨λa w hr sU=>h.go a w hr (sU.X6 hi hc ON lW)⟩
theorem X7{c:Code}{i g m cap:Nat}{cs:Array Value}{e:TypeId}(size:Nat)(hi:L[i]?=aj (aP g cs e))(hc:cs.size=cap*size)(ON:m<=cap)(lW:cap<=9223372036854775807)(h:T P n W c Q fr (L.set i (aZ e size (ap (aj ⟨g,0,ak⟩) m cap) m (cs.toList.take (m*size))))):T P n W c Q fr L:=
 ⟨λa w hr sU=>h.go a w hr (sU.X6 hi hc ON lW)⟩
theorem lq{i g m cap:Nat}{cs:Array Value}{T:TypeId}{xs:List Value}(hi:L[i]?=aj (aP g cs T))(hx:∀(j:Nat) (u:Value),xs[j]?=aj u->cs[j]?=aj u)(ON:m<=cap)(lW:cap<=9223372036854775807):SlL W L (ap (aj ⟨g,0,ak⟩) m cap) m xs:=λw hm=>
 ⟨_,cap,rfl,ON,by unfold maxLen;omega,λ_=>⟨g,0,rfl,λj u hj=>by
  rw[cX];exact aH hi (hx j u hj) w hm⟩⟩
end
theorem aed{z:Array Value}{k m:Nat}(h:z.size=k)(h0:0<k):madeCells z (m*k)=((cL m z.toList).flatten).toArray:=by
 subst h;apply WV;intro j;unfold madeCells
 by_cases hj:j<m*z.size
 ·have h2:j/z.size<m:=(Xw h0).2 hj
  have h3:=A3 j h0;have key:∀(m j:Nat),j<m*z.size->((cL m z.toList).flatten)[j]?=z.toList[j %z.size]?:=by
   intro m
   induction m with
   |zero=>intro j hj;simp at hj
   | succ m ih=>
    intro j hj;rw[List.replicate_succ,DO]
    by_cases hc:j<z.size
    rw[iq (by simpa using hc),Ph hc];rw[pv (by simp;omega)];simp only[mf];rw[ih (j-z.size) (by rw[ml]at hj;omega)]
    congr 1
    exact(Nat.mod_eq_sub_mod J).symm
  simp only[jz,key m j hj];simp[hj,h3]
 have:((cL m z.toList).flatten).length=m*z.size:=by simp
 rw[Array.getElem?_eq_none (by simp;omega),jz,k7 J]
theorem HH:∀(xs:List Value) (acc:Array Value) (off k:Nat),off+k+xs.length<=acc.size->(xs.toArray.zipIdx k).foldl (λcs (x:Value×Nat)=>cs.setIfInBounds (off+x.2) x.1) acc=(acc.toList.take (off+k)++xs++acc.toList.drop (off+k+xs.length)).toArray
 | [],acc,off,k,_=>by
  have e0:(([]:List Value).toArray.zipIdx k)=#[]:=by apply q7;simp
  rw[e0];simp
 | x ::xs,acc,off,k,h=>by
  simp only[db]at h;have e:(x::xs).toArray.zipIdx k=#[(x,k)]++xs.toArray.zipIdx (k+1):=by
   apply q7;simp[Jf]
  rw[e,Array.foldl_append];have e2:(#[(x,k)]:Array (Value×Nat)).foldl (λcs (x:Value×Nat)=>cs.setIfInBounds (off+x.2) x.1) acc=acc.setIfInBounds (off+k) x:=by simp
  rw[e2,HH xs _ off (k+1) (by simp;omega)]
  congr 1
  have hA:(acc.toList.take (off+k)).length=off+k:=by simp;omega
  have hA1:(acc.toList.take (off+k)++[x]).length=off+k+1:=by rw[bI,hA];rfl
  have e3:acc.toList.set (off+k) x=(acc.toList.take (off+k)++[x])++acc.toList.drop (off+k+1):=by
   rw[DJ,if_pos (by simp;omega)];simp
  simp only[I7,db];rw[e3,show off+(k+1)=off+k+1 by omega,A1 hA1,<-kI,A2 hA1,kI];simp only[dZ,jf,eI];rw[show off+k+1+xs.length=off+k+(xs.length+1)by omega]
theorem aee{c:Nat}(c0:Nat->Option (Nat×Nat))(Lo:∀i,c0 i=aj (i*c,c)):∀(vs:List Value) (k:Nat) (acc:Array Value),(k+vs.length)*c<=acc.size->(∀v∈vs,v.cells.size=c)->
 j_ c0 acc ((vs.zipIdx k).map λ(v,i)=>(i,v))=aj (acc.toList.take (k*c)++vs.flatMap (λv=>v.cells.toList)++acc.toList.drop ((k+vs.length)*c)).toArray
 |[],k,acc,h,_=>by simp[j_]
 | v ::vs,k,acc,h,h1=>by
  simp only[db]at h;have hv:=h1 v (by simp);have hsz:k*c+c<=acc.size:=by
   have:(k+1)*c<=(k+(vs.length+1))*c:=sR _ J;rw[iP,uI]at this;omega
  rw[Jf,gv];simp only[j_,Lo];rw[if_neg (by simp[hv];omega)];have aef:=HH v.cells.toList acc (k*c) 0 (by simp[hv];exact hsz);simp only[DB,iu,mf,hv]at aef;rw[aef,aee c0 Lo vs (k+1) _ (by simp[hv];rw[iP,iP]at*;omega) (λu hu=>h1 u (by simp[hu]))]
  congr 2
  have hA:(acc.toList.take (k*c)).length=k*c:=by simp;omega
  have hA1:(acc.toList.take (k*c)++v.cells.toList).length=(k+1)*c:=by rw[bI,hA,mf,hv,iP,uI]
  simp only[mg,db];rw[A1 hA1];have e5:(k+1+vs.length)*c=(k+1)*c+vs.length*c:=iP _ _ _;rw[e5,<-kI,A2 hA1,kI];simp only[dZ];rw[show k*c+c+vs.length*c=(k+(vs.length+1))*c by rw[iP,iP,uI];omega]
theorem X8{P:Program}{t e:TypeId}{c bytes:Nat}(tU:El P t e c bytes)(vs:List Value)(h1:∀v∈vs,v.cells.size=c)(h0:0<vs.length)(hm:vs.length*c<=16777216)(w:World):
 (uz t vs.length (vs.zipIdx.map λ(v,i)=>(i,v)).toArray).run P w= .ok (ap (aj ⟨w.heap.size,0,ak⟩) vs.length vs.length) (w.alloc (.cells (vs.flatMap λv=>v.cells.toList).toArray e)):=by
 obtain⟨i,z,ht,hi,hz,hc,_,hzc,hp⟩:=tU.ex;have uN:=aee (c:=c) (λi=>aj (i*c,c)) (by simp) vs 0 ((DD (vs.length*c)).map (z.cells[· %z.cells.size]!)) (by simp) h1
 simp only[yf,uG,eI,cX]at uN;rw[ir (by simp)]at uN;simp only[du]at uN;have hne:¬(vs.length*c>2^24):=by omega
 have XO:¬(vs.length*c=0):=by
  have:=Nat.mul_pos h0 hp;omega
 simp only[uz,nE,run_underlying ht,q9,sizeOf,typeInfo,run_program,hi,pu,hc,zeroValue,hz,if_neg hne,if_neg XO];simp only[uN,newRow];simp
section
variable{P:Program}{n:Nat}{W:bL}{fr:Fr}{L:List b9}{Q:Exit->Act->World->Prop}{ops:Array Oper}{rest:List Oper}{d:Nat}{dst:Option Tmp}{ty:TypeId}{pos:String}{after:Array Edge}{guard:Option (Nat×Bool)}
theorem fD{t e:TypeId}{c bytes m:Nat}{parts:Array (Nat×Operand)}{cs:Array Value}(vs:List Value)[tU:rO P t e c bytes](hp:sW fr parts.toList=aj (vs.zipIdx.map λ(v,i)=>(i,v)))(hm:vs.length=m)(h0:dj 0 m=aC)(h1:∀v∈vs,v.cells.size=c)(hs:yg (m*c) 16777216=aC)(hcs:cs=(vs.flatMap λv=>v.cells.toList).toArray)(hn:dj d n=aC)
 (h:∀g,TL P n W ops Q rest ((d,ap (aj ⟨g,0,ak⟩) m m)::fr) (L++[aP g cs e])):TL P n W ops Q (⟨aj d,.buildSlice t m parts,ty,pos,after,ak⟩::rest) fr L:=by
 subst hm hcs;refine Pu (λa w hr=>?_) hn h;have e:(parts.map λ(i,x)=>(i,a.eval x))=(vs.zipIdx.map λ(v,i)=>(i,v)).toArray:=by
  rw[<-sX hr _ _ hp,<-DC,DB]
 rw[e];exact X8 tU.el vs h1 (k8 h0) (k8 hs) w
theorem rU{t e:TypeId}{x z:Operand}{agg:Bool}{c j len cap:Nat}{base:Option Addr}{k:IntKind}(ht:P.underlying t=aj (.slice e))(he:Ty P e agg c)(hx:ev fr x=aj (ap base len cap))(hz:ev fr z=aj (.int k (j:Int)))(h:j<=cap):RR P n W ⟨dst,.slice t x ak (aj z) ak,ty,pos,after,guard⟩ fr L (ap base j cap):= .mk λa w hr hm=>by
 have h1:=(HC (P:=P) (n:=n) (W:=W) (L:=L) (dst:=dst) (ty:=ty) (pos:=pos) (after:=after) (guard:=guard) ht he hx hz h).go a w hr hm;have e1:ue base cap c 0 j=ap base j cap:=by
  unfold ue
  cases base with
  |none=>simp
  |some q=>simp[x9]
 rw[e1]at h1;exact h1
theorem jP{fn:Func}{R:Ending->World->Prop}(mO:fn.results=#[])(h:∀w,Mem W L w->R (.returned (.tuple #[])) w):E n W .normal (bodyPost P fn R) fr L:=
 ⟨λa w hr hm=>⟨hr.defers,.tuple #[],by simp[results,mO],h w hm⟩⟩
end
end bZ
namespace bZ
open Go.RowKit cK dS
structure w8(α:Type) where
 c:Nat
 is:(Nat->Prop)->World->List Value->α->Prop
 len:∀{F w cs a},is F w cs a->cs.length=c
 stay:∀{F w w' cs a},is F w cs a->(∀k,F k->w'.heap[k]?=w.heap[k]?)->is F w' cs a
 mono:∀{F F' w cs a},is F w cs a->(∀k,F k->F' k)->is F' w cs a
def All:Nat->Prop:=λ_=>True
theorem rd_stay{w w':World}{b off:Nat}{cs:List Value}(h:Rd w b off cs)(hk:w'.heap[b]?=w.heap[b]?):Rd w' b off cs:=λj u hj=>by
 rw[Xj (w:=w) (a:=⟨b,off+j,ak⟩) hk];exact h j u hj
def ky{α:Type}(s:w8 α)(F:Nat->Prop)(w:World)(v:Value)(l:List α):Prop:=
 ∃base cap,v=ap base l.length cap/\l.length<=cap/\cap<=maxLen/\(0<l.length->∃b off,base=aj ⟨b,off,ak⟩/\F b/\∀i (h:i<l.length),∃cs,s.is F w cs l[i]/\Rd w b (off+i*s.c) cs)
section
variable{α β:Type}{s:w8 α}{F F':Nat->Prop}{w w':World}{v:Value}{l:List α}
theorem ky.stay(h:ky s F w v l)(hk:∀k,F k->w'.heap[k]?=w.heap[k]?):ky s F w' v l:=
 let ⟨base,cap,h1,h2,h3,h4⟩:=h
 ⟨base,cap,h1,h2,h3,λh0=>let ⟨b,off,h5,h6,h7⟩:=h4 h0;⟨b,off,h5,h6,λi hi=>let ⟨cs,h8,h9⟩:=h7 i hi;⟨cs,s.stay h8 hk,rd_stay h9 (hk b h6)⟩⟩⟩
theorem ky.mono(h:ky s F w v l)(hk:∀k,F k->F' k):ky s F' w v l:=
 let ⟨base,cap,h1,h2,h3,h4⟩:=h
 ⟨base,cap,h1,h2,h3,λh0=>let ⟨b,off,h5,h6,h7⟩:=h4 h0;⟨b,off,h5,hk b h6,λi hi=>let ⟨cs,h8,h9⟩:=h7 i hi;⟨cs,s.mono h8 hk,h9⟩⟩⟩
theorem ky.nil:ky s F w (ap ak 0 0) []:=⟨ak,0,rfl,bz _,by decide,λh=>by grind⟩
def zx(f:α->List Value)(c:Nat)(hc:∀a,(f a).length=c)(p:α->Prop):w8 α:=
 ⟨c,λ_ _ cs a=>cs=f a/\p a,λh=>by rw[h.1,hc],λh _=>h,λh _=>h⟩
def fP:w8 Int:=zx (λn=>[av az n]) 1 (λ_=>rfl) cK.dU
def UK:w8 (List UInt8):=zx (λs=>[str s]) 1 (λ_=>rfl) (λs=>s.length<=9223372036854775807)
def bO(s:w8 α):w8 (List α):=
 ⟨1,λF w cs l=>∃v,cs=[v]/\ky s F w v l,λ⟨_,h,_⟩=>by rw[h];rfl,λ⟨v,h1,h2⟩ hk=>⟨v,h1,h2.stay hk⟩,λ⟨v,h1,h2⟩ hk=>⟨v,h1,h2.mono hk⟩⟩
def X9(s:w8 α)(t:w8 β):w8 (α×β):=
 ⟨s.c+t.c,λF w cs x=>∃c1 c2,cs=c1++c2/\s.is F w c1 x.1/\t.is F w c2 x.2,λ⟨_,_,h,h1,h2⟩=>by rw[h,bI,s.len h1,t.len h2],
  λ⟨c1,c2,h,h1,h2⟩ hk=>⟨c1,c2,h,s.stay h1 hk,t.stay h2 hk⟩,λ⟨c1,c2,h,h1,h2⟩ hk=>⟨c1,c2,h,s.mono h1 hk,t.mono h2 hk⟩⟩
theorem ky.flat{f:α->List Value}{c:Nat}{hc:∀a,(f a).length=c}{p:α->Prop}(Lo:0<c)(h:ky (zx f c hc p) F w v l):Sl w v l.length (l.flatMap f):=by
 obtain⟨base,cap,h1,h2,h3,h4⟩:=h;have hx:UG w (λcs a=>cs=f a) c v l:=⟨base,cap,h1,h2,h3,λh0=>let ⟨b,off,h5,_,h7⟩:=h4 h0;⟨b,off,h5,λi hi=>let ⟨cs,h8,h9⟩:=h7 i hi;⟨cs,h8.1,h9⟩⟩⟩;exact hx.flat hc Lo λcs a h=>h
theorem ky.okp{f:α->List Value}{c:Nat}{hc:∀a,(f a).length=c}{p:α->Prop}(h:ky (zx f c hc p) F w v l):∀a∈l,p a:=λa ha=>by
 obtain⟨i,hi,rfl⟩:=iB.1 ha;obtain⟨base,cap,h1,h2,h3,h4⟩:=h;obtain⟨b,off,_,_,h7⟩:=h4 J;obtain⟨cs,h8,_⟩:=h7 i hi;exact h8.2
theorem ky.of_flat{f:α->List Value}{c:Nat}{hc:∀a,(f a).length=c}{p:α->Prop}(h:Sl w v l.length (l.flatMap f))(hp:∀a∈l,p a)(_:∀b,v.ownBlock=aj b->F b)(hF2:∀a n cp,v=ap (aj a) n cp->F a.block):ky (zx f c hc p) F w v l:=by
 obtain⟨base,cap,h1,h2,h3,h4⟩:=h;refine⟨base,cap,h1,h2,h3,λh0=>?_⟩;obtain⟨b,off,h5,h6⟩:=h4 h0;refine⟨b,off,h5,hF2 ⟨b,off,ak⟩ l.length cap (by grind),λi hi=>⟨f l[i],⟨rfl,hp _ (b_ hi)⟩,λj u hj=>?_⟩⟩;have hjc:j<c:=by grind
 have:=h6 (i*c+j) u (by simp_all[uS]);rw[k9];exact this
def GR(s:w8 α)(F:Nat->Prop)(cs:List Value)(a:α):b9:=
 ⟨ak,F,λw=>s.is F w cs a/\∀k,F k->k<w.heap.size,λw h k hk=>h.2 k (hk.elim (λh=>by cases h) id),λw w' h hs hb=>⟨s.stay h.1 λk hk=>hb k (.inr hk),λk hk=>iO (h.2 k hk) hs⟩⟩
def eh(s:w8 α)(F:Nat->Prop)(gH:List (List Value))(l:List α):b9:=
 ⟨ak,F,λw=>(gH.length=l.length/\∀i (h:i<l.length) (h':i<gH.length),s.is F w gH[i] l[i])/\∀k,F k->k<w.heap.size,λw h k hk=>h.2 k (hk.elim (λh=>by cases h) id),
  λw w' h hs hb=>⟨⟨h.1.1,λi hi qw=>s.stay (h.1.2 i hi qw) λk hk=>hb k (.inr hk)⟩,λk hk=>iO (h.2 k hk) hs⟩⟩
end
def X_(F:Nat->Prop)(v:Value):Nat->Prop:=λk=>F k\/v.ownBlock=aj k
theorem uX{c:Nat}:∀(gH:List (List Value)) (_:∀x∈gH,x.length=c) (i j:Nat) (h:i<gH.length),j<c->gH.flatten[i*c+j]?=gH[i][j]?
 |x::r,hc,0,j,h,hj=>by
  grind
 |x::r,hc,i+1,j,h,hj=>by
  have hx:=hc x (by simp);have ih:=uX r (λy hy=>hc y (by grind)) i j (by simp_all) hj;rw[DO,pv (by rw[hx,ml];omega),hx];simp only[Xp];rw[<-ih,ml]
  congr 1;omega
section
variable{α:Type}{s:w8 α}{F:Nat->Prop}{w:World}{v:Value}{l:List α}
theorem yq{e:TypeId}{gH:List (List Value)}(hr:(aZ e s.c v l.length gH.flatten).holds w)(he:(eh s F gH l).holds w)(_:0<s.c):ky s (X_ F v) w v l:=by
 have hr:w.ownsRow 0 e s.c v l.length gH.flatten:=hr;obtain⟨⟨h1,h2⟩,h3⟩:=he;have hlen:∀x∈gH,x.length=s.c:=λx hx=>by
  obtain⟨i,hi,rfl⟩:=iB.1 hx;exact s.len (h2 i J hi)
 obtain⟨base,cap,h4,h5,h6,h7⟩:=Sl.dD hr;refine⟨base,cap,h4,h5,h6,λh0=>?_⟩;have hb:∃g,v=ap (aj ⟨g,0,ak⟩) l.length cap/\v.ownBlock=aj g:=by
  rcases hr.2 with⟨hv,h0'⟩|⟨g,A9,jZ,hv,_⟩
  omega;rw[h4]at hv;simp only[kH,true_and]at hv;obtain⟨rfl,rfl⟩:=hv;exact⟨g,h4,by rw[h4];rfl⟩
 obtain⟨g,hv,hg⟩:=hb;rw[h4]at hv;simp only[kH,and_true]at hv;subst hv;obtain⟨b,off,h8,h9⟩:=h7 h0;simp only[dh,OW,and_true]at h8;obtain⟨rfl,rfl⟩:=h8;refine⟨g,0,rfl,.inr hg,λi hi=>⟨gH[i]' J,s.mono (h2 i hi J) λk hk=> .inl hk,λj u hj=>?_⟩⟩;have hjc:j<s.c:=by grind
 have:=h9 (i*s.c+j) u (by simp_all[uX]);rw[k9];exact this
theorem yr{e:TypeId}{gH:List (List Value)}{n c:Nat}(hr:(aZ e c v n gH.flatten).holds w)(he:(eh s F gH l).holds w):∀k,X_ F v k->k<w.heap.size:=λk hk=>hk.elim (he.2 k) λh=>((aZ e c v n gH.flatten).lt w hr k (.inl h))
theorem mZ{F2:Nat->Prop}{gH:List (List Value)}{cs:List Value}{a:α}(he:(eh s F gH l).holds w)(hs:s.is F2 w cs a)(h2:∀k,F2 k->k<w.heap.size):(eh s (λk=>F k\/F2 k) (gH++[cs]) (l++[a])).holds w:=by
 obtain⟨⟨h1,h3⟩,h4⟩:=he;refine⟨⟨by grind,λi hi qw=>?_⟩,λk hk=>hk.elim (h4 k) (h2 k)⟩
 by_cases c:i<l.length
 ·rw[Xo J,Xo c]
  exact s.mono (h3 i c J) λk hk=> .inl hk
 have WB:i=l.length:=by grind
 subst WB;rw[Xm J,Xm (bz _)];simp only[h1,Nat.sub_self,List.getElem_cons_zero];exact s.mono hs λk hk=> .inr hk
theorem jI:(eh s (λ_=>False) [] []).holds w:=⟨⟨rfl,λi h=>by simp⟩,λk h=>h.elim⟩
end
section
variable{P:Program}{n:Nat}{W:bL}{fr:Fr}{L:List b9}{Q:Exit->Act->World->Prop}{ops:Array Oper}{rest:List Oper}{d:Nat}
theorem Mem.X'{w:World}(o:b9)(i j:Nat)(js:List Nat){o1 o2:b9}{R:List b9}(h:Mem W L w)(hn:([i,j]++js).Nodup)(h1:L[i]?=aj o1)(h2:L[j]?=aj o2)(hR:R=js.filterMap λi=>L[i]?)(hf:∀k,o.e_ k->o1.e_ k\/o2.e_ k)(hh:∀w,o1.holds w->o2.holds w->o.holds w):Mem W (R++[o]) w:=by
 refine Mem.merge o (h.pick ([i,j]++js) hn ?_) hf (hh w);rw[List.filterMap_append,<-hR]
 congr 1
 rw[A0 (by exact h1),A0 (by exact h2)];rfl
theorem pF(o:b9)(i j:Nat)(js:List Nat){o1 o2:b9}{R:List b9}(hn:([i,j]++js).Nodup)(h1:L[i]?=aj o1)(h2:L[j]?=aj o2)(hR:R=js.filterMap λi=>L[i]?)(hf:∀k,o.e_ k->o1.e_ k\/o2.e_ k)(hh:∀w,o1.holds w->o2.holds w->o.holds w)(h:TL P n W ops Q rest fr (R++[o])):TL P n W ops Q rest fr L:=⟨λa w hr hm=>h.go a w hr (hm.X' o i j js hn h1 h2 hR hf hh)⟩
theorem oZ{e:Exit}(o:b9)(i j:Nat)(js:List Nat){o1 o2:b9}{R:List b9}(hn:([i,j]++js).Nodup)(h1:L[i]?=aj o1)(h2:L[j]?=aj o2)(hR:R=js.filterMap λi=>L[i]?)(hf:∀k,o.e_ k->o1.e_ k\/o2.e_ k)(hh:∀w,o1.holds w->o2.holds w->o.holds w)(h:E n W e Q fr (R++[o])):E n W e Q fr L:=⟨λa w hr hm=>h.go a w hr (hm.X' o i j js hn h1 h2 hR hf hh)⟩
theorem Mem.Ed{w:World}(o:b9)(h:Mem W L w)(hf:∀k,¬o.e_ k)(hh:o.holds w):Mem W (L++[o]) w:=
 h.append (Gr.refl w) (ez.one hh λk hk=>absurd hk (hf k))
theorem m_{c:Code}(o:b9)(hf:∀k,¬o.e_ k)(hh:∀w,o.holds w)(h:T P n W c Q fr (L++[o])):T P n W c Q fr L:=⟨λa w hr hm=>h.go a w hr (hm.Ed o hf (hh w))⟩
theorem LX(o:b9)(hf:∀k,¬o.e_ k)(hh:∀w,o.holds w)(h:TL P n W ops Q rest fr (L++[o])):TL P n W ops Q rest fr L:=⟨λa w hr hm=>h.go a w hr (hm.Ed o hf (hh w))⟩
theorem qM{e:Exit}(o:b9)(hf:∀k,¬o.e_ k)(hh:∀w,o.holds w)(h:E n W e Q fr (L++[o])):E n W e Q fr L:=⟨λa w hr hm=>h.go a w hr (hm.Ed o hf (hh w))⟩
theorem A'{α:Type}{f:α->List Value}{c:Nat}(hc:∀a,(f a).length=c){t e:TypeId}{p x:Operand}{i g off cap k m:Nat}{agg:Bool}{l:List α}{a:α}{v:Value}(hT:Ty P t agg c)(hi:L[i]?=aj (aZ e c (ap (aj ⟨g,0,ak⟩) m cap) m (l.flatMap f)))(hp:ev fr p=aj (aJ (aj ⟨g,off,ak⟩)))(agO:off=k*c)(hk:k<l.length)(hm0:m=l.length)(hx:ev fr x=aj v)(hv:v.cells=(f a).toArray)(h1:(f a).all eY=aC)
 {ty:TypeId} {pos:String} {after:Array Edge}
 (h:TL P n W ops Q rest fr (L.set i (aZ e c (ap (aj ⟨g,0,ak⟩) m cap) m ((l.set k a).flatMap f)))):
 TL P n W ops Q (⟨ak,.store t p x,ty,pos,after,ak⟩::rest) fr L:=lg I λact w hr hm K hK=>by
 subst agO hm0;have lR:w.ownsRow 0 e c (ap (aj ⟨g,0,ak⟩) l.length cap) l.length (l.flatMap f):=hm.get hi;have agN:=lR;rcases lR.2 with⟨h0,_⟩|⟨g',A9,jZ,he,CI,hg,hnc,LJ,hcs,zo⟩
 ·cases h0
 simp only[kH,dh,OW,and_true,true_and]at he;obtain⟨rfl,rfl⟩:=he;have D0:k*c+c<=jZ.size:=by
  have:(k+1)*c<=cap*c:=sR _ J;rw[hcs];rw[iP,uI]at this;omega
 have hst:=run_storeCells_at P g (k*c) e (f a) 0 jZ w hg (by simp[hc];exact D0) (uE.1 h1);simp only[iu,hc]at hst;have e':(execOp act.eval ⟨ak,.store t p x,ty,pos,after,ak⟩).run P w= .ok .skip (w.setRow g (jZ.toList.take (k*c)++f a++jZ.toList.drop (k*c+c)).toArray):=by
  simp[execOp,hr.ev hp,hr.ev hx,OY,yc,storeVar,hT.size,hv,hst,hc]
 unfold gj;rw[e'];refine hK _ _ (h.go _ _ (hr.uK undef) (hm.CH hi ⟨rfl,rfl,rfl,by simp,λk _ hk=>setRow_other w g k _ (λe=>hk (by subst e;rfl))⟩ ?_ λk hk=> .inl hk));have hlen:=lV hc l;refine⟨by rw[lV hc];simp,.inr ⟨g,cap,_,rfl,CI,setRow_heap w g jZ _ e _ hg,hnc,LJ,by simp[hc];omega,?_⟩⟩;have e1:(l.set k a).flatMap f=(l.flatMap f).take (k*c)++f a++(l.flatMap f).drop (k*c+c):=by
  have PB:((l.take k).flatMap f).length=k*c:=by rw[lV hc,iN,DQ J]
  have HJ:((l.take (k+1)).flatMap f).length=k*c+c:=by rw[lV hc,iN,DQ J,iP,uI]
  have t1:(l.flatMap f).take (k*c)=(l.take k).flatMap f:=by
   rw[<-PB]
   conv=>lhs;rw[<-yd k l,fV]
   simp
  have t2:(l.flatMap f).drop (k*c+c)=(l.drop (k+1)).flatMap f:=by
   rw[<-HJ]
   conv=>lhs;rw[<-yd (k+1) l,fV]
   simp
  rw[t1,t2,DJ,if_pos hk];simp
 rw[e1,<-zo];have hkl:k*c+c<=l.length*c:=by
  have:(k+1)*c<=l.length*c:=sR _ J;rw[iP,uI]at this;exact this
 simp only[List.take_take,List.take_append,bI,hc,iN,mf];rw[DQ (by omega:k*c<=jZ.size),Nat.min_eq_right (by omega:k*c<=l.length*c),DQ (by omega:k*c<=l.length*c)];rw[fU (by rw[hc];omega:(f a).length<=l.length*c-k*c)]
 congr 1
 rw[Pf]
theorem jJ{i:Nat}{o:b9}{φ:Prop}(hi:L[i]?=aj o)(hφ:∀w,o.holds w->φ)(h:φ->TL P n W ops Q rest fr L):TL P n W ops Q rest fr L:=⟨λa w hr hm=>(h (hφ w (hm.get hi))).go a w hr hm⟩
theorem iR{c:Code}{i:Nat}{o:b9}{φ:Prop}(hi:L[i]?=aj o)(hφ:∀w,o.holds w->φ)(h:φ->T P n W c Q fr L):T P n W c Q fr L:=⟨λa w hr hm=>(h (hφ w (hm.get hi))).go a w hr hm⟩
end
end bZ
namespace bZ
open Go.RowKit cK dS
open Go.WideMaps (KeyLaw)
def Ee(v:Value):Option (DataW Value×List MemPlace):=aj (.held v,[])
structure yt(P:Program)(k:TypeId)(κ:Type) where
 kv:κ->Value
 ok:κ->Prop
 law:KeyLaw P k
 key:∀x,ok x->∃l,keyOf P k (kv x)=aj l
 inj:∀x y,kv x=kv y->x=y
section
variable{P:Program}{k:TypeId}{κ:Type}
theorem yt.keyed(K:yt P k κ):Maps.Keyed P k:=aeJ K.law
variable(K:yt P k κ)
def LY(D:DataW Value)(m:κ->Option Value)(n:Nat):Prop:=
 OZ D=n/\∀x l,K.ok x->keyOf P k (K.kv x)=aj l->match m x with|some v=>O0 D l=aC/\(∀z,D.atKey l z= .held v)|none=>O0 D l=aE
def fq(g:Nat)(m:κ->Option Value)(n:Nat):b9:=
 ⟨aj g,λ_=>False,λw=>∃D,w.ownsMap P k Ee g n D/\LY K D m n,λw ⟨D,h,_⟩ q hq=>by simp only[dh,or_false]at hq;subst hq;exact h.lt,
  λw w' ⟨D,⟨es,clock,hb,h⟩,h2⟩ _ hk=>⟨D,⟨es,clock,(hk g (.inl I)).trans hb,h⟩,h2⟩⟩
theorem UL{w:World}{R:Value->Option (DataW Value×List MemPlace)}{b n:Nat}{D:DataW Value}(h:w.ownsMap P k R b n D):w.ownsMap P k R b (OZ D) D:=by
 obtain⟨es,clock,hb,F,hs,rfl⟩:=h;exact⟨es,clock,hb,F,by simp[OZ,length_sorted],rfl⟩
theorem HK:LY K (.map []) (λ_=>ak) 0:=⟨rfl,λ_ _ _ _=>rfl⟩
theorem UM[DecidableEq κ]{w:World}{g n:Nat}{D:DataW Value}{m:κ->Option Value}(ho:w.ownsMap P k Ee g n D)(h:LY K D m n){x:κ}{l:Lit}(hx:K.ok x)(hl:keyOf P k (K.kv x)=aj l)(v:Value):
 LY K (D.put l (.held v)) (λy=>if y=x then aj v else m y) (if(m x).isSome then n else n+1):=by
 have hk:=K.keyed.key hl;have ht:=ho.tidy K.keyed;refine⟨?_,λy l' hy hl'=>?_⟩
 ·have h2:=h.2 x l hx hl
  rw[Maps.size_put ht]
  cases e:m x with
  |none=>rw[e]at h2;rw[h2];simp[h.1]
  |some u=>rw[e]at h2;rw[h2.1];simp[h.1]
 ·by_cases e:y=x
  ·subst e
   rw[hl]at hl';simp only[dh]at hl';subst hl';simp only[if_true];exact⟨Maps.has_put_same ht.isMap hk _,λz=>Maps.atKey_put_same ht.isMap hk _ _⟩
  have hne:l'≠l:=λe'=>e (K.inj _ _ (K.keyed.inj (by simp_all) hl));simp only[if_neg e];have h2:=h.2 y l' hy hl';rw[Maps.has_put_other hne]
  cases e2:m y with
  |none=>rw[e2]at h2;exact h2
  |some u=>rw[e2]at h2;exact⟨h2.1,λz=>by rw[Maps.atKey_put_other hne];exact h2.2 z⟩
theorem Jx{D:DataW Value}{m:κ->Option Value}{n:Nat}(h:LY K D m n){x:κ}{l:Lit}(hx:K.ok x)(hl:keyOf P k (K.kv x)=aj l)(z:Value):D.atKey l (.held z)= .held ((m x).getD z)/\O0 D l=(m x).isSome:=by
 have h2:=h.2 x l hx hl
 grind[Maps.atKey_of_not_has]
section
variable{W:bL}{fr:Fr}{L:List b9}{Q:Exit->Act->World->Prop}{ops:Array Oper}{rest:List Oper}{n d:Nat}{dst:Option Tmp}{ty:TypeId}{pos:String}{after:Array Edge}{guard:Option (Nat×Bool)}{i g c:Nat}{t e:TypeId}{m:κ->Option Value}{x:κ}{z:Value}{xm xk xv:Operand}
theorem abZ(ht:P.underlying t=aj (.map k e))(hz:∀w,(zeroValue e).run P w= .ok z w)(hi:L[i]?=aj (fq K g m c))(hm:ev fr xm=aj (.map (aj g)))(hk:ev fr xk=aj (K.kv x))(hx:K.ok x):RR P n W ⟨dst,.lookup t xm xk aE,ty,pos,after,guard⟩ fr L ((m x).getD z):= .mk λa w hr hw=>by
 obtain⟨D,ho,h⟩:=hw.get hi;obtain⟨l,hl⟩:=K.key x hx;obtain⟨v,ps,hrun,hv⟩:=ho.lookup K.keyed ht (hz w) (zd:= .held z) (zp:=[]) rfl hl;have h2:=(Jx K h hx hl z).1;simp only[Ee,dh,fX]at hv;rw[h2]at hv;have lD:v=(m x).getD z:=by simp_all
 subst lD;simp[execOp,hr.ev hm,hr.ev hk,hrun,nD]
theorem pg(ht:P.underlying t=aj (.map k e))(hz:∀w,(zeroValue e).run P w= .ok z w)(hi:L[i]?=aj (fq K g m c))(hm:ev fr xm=aj (.map (aj g)))(hk:ev fr xk=aj (K.kv x))(hx:K.ok x):RR P n W ⟨dst,.lookup t xm xk aC,ty,pos,after,guard⟩ fr L (.tuple #[(m x).getD z,.bool (m x).isSome]):= .mk λa w hr hw=>by
 obtain⟨D,ho,h⟩:=hw.get hi;obtain⟨l,hl⟩:=K.key x hx;obtain⟨v,ps,hrun,hv⟩:=ho.look_ok K.keyed ht (hz w) (zd:= .held z) (zp:=[]) rfl hl;have h2:=Jx K h hx hl z;simp only[Ee,dh,fX]at hv;rw[h2.1]at hv;rw[h2.2]at hrun;have lD:v=(m x).getD z:=by simp_all
 subst lD;simp[execOp,hr.ev hm,hr.ev hk,hrun,nD]
theorem w9(ht:P.underlying t=aj (.map k e))(hi:L[i]?=aj (fq K g m c))(hm:ev fr xm=aj (.map (aj g))):RR P n W ⟨dst,.call {callee:= .builtin .len,args:=#[xm],argTypes:=#[t]},ty,pos,after,guard⟩ fr L (av az c):= .mk λa w hr hw=>by
 obtain⟨D,ho,h⟩:=hw.get hi;have hrun:=ho.len ht ty;rw[h.1]at hrun;simp[lP,OX,hr.ev hm,hrun]
theorem yu(hn:dj d n=aC)(h:∀g,TL P n W ops Q rest ((d,.map (aj g))::fr) (L++[fq K g (λ_=>ak) 0])):
 TL P n W ops Q (⟨aj d,.makeMap t ak,ty,pos,after,ak⟩::rest) fr L:=lg I λa w hr hm KK hK=>by
 have e1:(execOp a.eval ⟨aj d,.makeMap t ak,ty,pos,after,ak⟩).run P w= .ok (.value (.map (aj w.heap.size))) (w.alloc (.map #[] 0)):=by
  rfl
 unfold gj;rw[e1];exact hK _ _ ((h w.heap.size).go _ _ (hr.put hn _) (hm.append (od w _) (nI.one ⟨.map [],Xk w P k Ee,HK K⟩ λq hq=>by simp_all[fq])))
theorem SL[DecidableEq κ]{w:World}(ht:P.underlying t=aj (.map k e))(h:(fq K g m c).holds w)(hx:K.ok x)(hc:c<=1152921504606846976)(v:Value):
 ∃w',(AU t (.map (aj g)) (K.kv x) v).run P w= .ok () w'/\(fq K g (λy=>if y=x then aj v else m y) (if(m x).isSome then c else c+1)).holds w'/\w.grownBy w' (aj g):=by
 obtain⟨D,ho,h⟩:=h;obtain⟨l,hl⟩:=K.key x hx;obtain⟨w',hrun,LN,hg⟩:=ho.update K.keyed ht (by grind[maxLen]) (val:=v) (d:= .held v) (ps:=[]) hl rfl;have hp:=UM K ho h hx hl v;exact⟨w',hrun,⟨_,by have:=UL LN;rwa [hp.1]at this,hp⟩,hg⟩
theorem mI[DecidableEq κ]{v:Value}(ht:P.underlying t=aj (.map k e))(hi:L[i]?=aj (fq K g m c))(hm:ev fr xm=aj (.map (aj g)))(hk:ev fr xk=aj (K.kv x))(hv:ev fr xv=aj v)(hx:K.ok x)(hc:c<=1152921504606846976)
 (h:TL P n W ops Q rest fr (L.set i (fq K g (λy=>if y=x then aj v else m y) (if(m x).isSome then c else c+1)))):
 TL P n W ops Q (⟨ak,.mapUpdate t xm xk xv,ty,pos,after,ak⟩::rest) fr L:=lg I λa w hr hw KK hK=>by
 obtain⟨w',hrun,LN,hg⟩:=SL K ht (hw.get hi) hx hc v;have e1:(execOp a.eval ⟨ak,.mapUpdate t xm xk xv,ty,pos,after,ak⟩).run P w= .ok .skip w':=by
  simp[execOp,hr.ev hm,hr.ev hk,hr.ev hv,hrun,nD]
 unfold gj;rw[e1];exact hK _ _ (h.go _ _ (hr.uK undef) (hw.CH hi hg LN λq hq=> .inl hq))
end
def pG(g:Nat)(z:Value)(f:κ->Value)(b:Nat):b9:=
 ⟨aj g,λ_=>False,λw=>∃m n,n<=b/\(fq K g m n).holds w/\∀x,K.ok x->(m x).getD z=f x,λw ⟨m,n,_,h,_⟩ q hq=>(fq K g m n).lt w h q hq,
  λw w' ⟨m,n,h1,h,h2⟩ hs hk=>⟨m,n,h1,(fq K g m n).stay w w' h hs hk,h2⟩⟩
section
variable{W:bL}{fr:Fr}{L:List b9}{Q:Exit->Act->World->Prop}{ops:Array Oper}{rest:List Oper}{n d:Nat}{dst:Option Tmp}{ty:TypeId}{pos:String}{after:Array Edge}{guard:Option (Nat×Bool)}{i g b:Nat}{t e:TypeId}{f f':κ->Value}{x:κ}{z v:Value}{xm xk xv:Operand}
theorem HL{w:World}(ht:P.underlying t=aj (.map k e))(hz:∀w,(zeroValue e).run P w= .ok z w)(h:(pG K g z f b).holds w)(hx:K.ok x):(Instr.lookup t (.map (aj g)) (K.kv x) aE).run P w= .ok (f x) w:=by
 obtain⟨m,n,_,⟨D,ho,hi⟩,hf⟩:=h;obtain⟨l,hl⟩:=K.key x hx;obtain⟨v,ps,hrun,hv⟩:=ho.lookup K.keyed ht (hz w) (zd:= .held z) (zp:=[]) rfl hl;have h2:=(Jx K hi hx hl z).1;simp only[Ee,dh,fX]at hv;rw[h2,hf x hx]at hv;have lD:v=f x:=by simpa using hv.1
 rw[<-lD];exact hrun
theorem LZ(ht:P.underlying t=aj (.map k e))(hz:∀w,(zeroValue e).run P w= .ok z w)(hh:∀w,Mem W L w->(pG K g z f b).holds w)(hm:ev fr xm=aj (.map (aj g)))(hk:ev fr xk=aj (K.kv x))(hx:K.ok x)(hv:f x=v):RR P n W ⟨dst,.lookup t xm xk aE,ty,pos,after,guard⟩ fr L v:= .mk λa w hr hw=>by
 subst hv;have hrun:=HL K ht hz (hh w hw) hx;simp[execOp,hr.ev hm,hr.ev hk,hrun,nD]
theorem Ef(ht:P.underlying t=aj (.map k e))(hz:∀w,(zeroValue e).run P w= .ok z w)(hi:L[i]?=aj (pG K g z f b))(hm:ev fr xm=aj (.map (aj g)))(hk:ev fr xk=aj (K.kv x))(hx:K.ok x)(hv:f x=v):RR P n W ⟨dst,.lookup t xm xk aE,ty,pos,after,guard⟩ fr L v:=
 LZ K ht hz (λ_ hw=>hw.get hi) hm hk hx hv
theorem ab0(hn:dj d n=aC)(h:∀g,TL P n W ops Q rest ((d,.map (aj g))::fr) (L++[pG K g z (λ_=>z) 0])):
 TL P n W ops Q (⟨aj d,.makeMap t ak,ty,pos,after,ak⟩::rest) fr L:=lg I λa w hr hm KK hK=>by
 have e1:(execOp a.eval ⟨aj d,.makeMap t ak,ty,pos,after,ak⟩).run P w= .ok (.value (.map (aj w.heap.size))) (w.alloc (.map #[] 0)):=by
  rfl
 unfold gj;rw[e1];exact hK _ _ ((h w.heap.size).go _ _ (hr.put hn _) (hm.append (od w _) (nI.one ⟨λ_=>ak,0,bz _,⟨.map [],Xk w P k Ee,HK K⟩,λ_ _=>rfl⟩ λq hq=>by simp_all[pG])))
theorem L3[DecidableEq κ]{w:World}(ht:P.underlying t=aj (.map k e))(h:(pG K g z f b).holds w)(hx:K.ok x)(hc:b<=1152921504606846976)(hf:∀y,K.ok y->f' y=if y=x then v else f y):
 ∃w',(AU t (.map (aj g)) (K.kv x) v).run P w= .ok () w'/\(pG K g z f' (b+1)).holds w'/\w.grownBy w' (aj g):=by
 obtain⟨m,n,h1,h2,h3⟩:=h;obtain⟨w',hrun,ho,hg⟩:=SL K ht h2 hx J v;refine⟨w',hrun,⟨_,_,?_,ho,λy hy=>?_⟩,hg⟩
 grind
 grind
end
end
end bZ
namespace bZ
open Go.RowKit cK dS
theorem aiD{P:Program}{n:Nat}{W:bL}{fr:Fr}{L:List b9}{dst:Option Tmp}{ty:TypeId}{pos:String}{after:Array Edge}{guard:Option (Nat×Bool)}{x:Operand}{a:Addr}(hx:ev fr x=aj (aJ (aj a))):RR P n W ⟨dst,.nilCheck x,ty,pos,after,guard⟩ fr L (aJ (aj a)):= .mk λact w hr _=>by
 simp[execOp,hr.ev hx]
end bZ
namespace bZ
open Go.RowKit cK dS
section
variable{P:Program}{n:Nat}{W:bL}{fr:Fr}{L:List b9}{Q:Exit->Act->World->Prop}{ops:Array Oper}{rest:List Oper}{d:Nat}{ty:TypeId}{pos:String}{after:Array Edge}
theorem PD{t e:TypeId}{x y:Operand}{bytes m:Nat}{k k':IntKind}{z:Value}[rO P t e 1 bytes][eQ P e #[z]](hx:ev fr x=aj (.int k (m:Int)))(hy:ev fr y=aj (.int k' (m:Int)))(hb:bytes*m<=281474976710656)(qA:m<=9223372036854775807)(hn:dj d n=aC)
 (h:∀g,TL P n W ops Q rest ((d,ap (aj ⟨g,0,ak⟩) m m)::fr) (L++[aZ e 1 (ap (aj ⟨g,0,ak⟩) m m) m (cL m z)])):TL P n W ops Q (⟨aj d,.makeSlice t x y,ty,pos,after,ak⟩::rest) fr L:=
 uW hx hy (bz _) hb qA hn λg=>HG (i:=L.length) 1 (Pa ..) (by rw[size_madeCells]) (bz _) qA (by
  have e1:(madeCells #[z] (m*1)).toList.take (m*1)=cL m z:=by
   simp[ad7]
  simp_all)
end
end bZ
namespace bZ
open Go.RowKit cK dS
section
variable{P:Program}{n:Nat}{W:bL}{fr:Fr}{L:List b9}{Q:Exit->Act->World->Prop}{ops:Array Oper}{rest:List Oper}
theorem Mem.aiI{w:World}{i:Nat}{o:b9}(o':b9)(h:Mem W L w)(hi:L[i]?=aj o)(hh:∀w,o.holds w->o'.holds w)(hb:∀k,o'.A5=aj k->o.A5=aj k)(hmo:∀k,o'.more k->o.e_ k:=by intro k hk;exact False.elim hk):Mem W (L.set i o') w:=
 h.CH hi ⟨rfl,rfl,rfl,bz _,λ_ _ _=>rfl⟩ (hh w (h.get hi)) (λk hk=> .inl (hb k hk)) hmo
theorem ab1{i:Nat}{o:b9}(o':b9)(hi:L[i]?=aj o)(hh:∀w,o.holds w->o'.holds w)(hb:∀k,o'.A5=aj k->o.A5=aj k)(hmo:∀k,o'.more k->o.e_ k)(h:TL P n W ops Q rest fr (L.set i o')):TL P n W ops Q rest fr L:= .mk λa w hr hm=>h.go a w hr (hm.aiI o' hi hh hb hmo)
end
theorem UN{P:Program}{k:TypeId}{κ:Type}{K:yt P k κ}{g b b':Nat}{z:Value}{f f':κ->Value}(hb:b<=b')(hf:∀x,K.ok x->f' x=f x)(w:World)(h:(pG K g z f b).holds w):(pG K g z f' b').holds w:=by
 obtain⟨m,n,h1,h2,h3⟩:=h;exact⟨m,n,by omega,h2,λx hx=>by simp_all⟩
end bZ
namespace bZ
open Go.RowKit cK dS
section
variable{P:Program}{n:Nat}{W:bL}{fr:Fr}{L:List b9}{Q:Exit->Act->World->Prop}{ops:Array Oper}{rest:List Oper}
theorem Mem.qN{w:World}{i:Nat}{o:b9}(o':b9)(h:Mem W L w)(hi:L[i]?=aj o)(hh:∀w,o.holds w->o'.holds w)(hf:∀k,o'.e_ k->o.e_ k):Mem W (L.set i o') w:=by
 have hlen:i<L.length:=(dg.1 hi).1;have hoi:=h.owns.all i o hi;refine⟨h.low,λj q hj=>?_,λj j' q q' sE hj sF k hk lO=>?_⟩
 ·by_cases e:i=j
  simp_all
  rw[kZ e]at hj;exact h.owns.all j q hj
 by_cases e:i=j
 ·subst e
  rw[nF hlen]at hj;rw[kZ sE]at sF;simp only[dh]at hj;subst hj;exact h.owns.apart i j' o q' sE hi sF k (hf k hk) lO
 rw[kZ e]at hj
 by_cases e':i=j'
 ·subst e'
  rw[nF hlen]at sF;simp only[dh]at sF;subst sF;exact h.owns.apart j i q o sE hj hi k hk (hf k lO)
 rw[kZ e']at sF;exact h.owns.apart j j' q q' sE hj sF k hk lO
theorem SM{c:Code}{i:Nat}{o:b9}(o':b9)(hi:L[i]?=aj o)(hh:∀w,o.holds w->o'.holds w)(hf:∀k,o'.e_ k->o.e_ k)(h:T P n W c Q fr (L.set i o')):T P n W c Q fr L:= .mk λa w hr hm=>h.go a w hr (hm.qN o' hi hh hf)
theorem o7{e:Exit}{i:Nat}{o:b9}(o':b9)(hi:L[i]?=aj o)(hh:∀w,o.holds w->o'.holds w)(hf:∀k,o'.e_ k->o.e_ k)(h:E n W e Q fr (L.set i o')):E n W e Q fr L:= .mk λa w hr hm=>h.go a w hr (hm.qN o' hi hh hf)
end
end bZ
namespace bZ
open Go.RowKit cK dS de gd
inductive kQ(F:Nat->Prop)(w:World):List Value->Rx->Prop
 |mk {k:Int} {c:C4} {kids:List Rx} {base:Option Addr} {cap:Nat} (gH:List (List Value)):cK.dU k->kids.length<=cap->cap<=maxLen->gH.length=kids.length->
  (∀i (h:i<kids.length) (h':i<gH.length),kQ F w gH[i] kids[i])->(0<kids.length->∃b off,base=aj ⟨b,off,ak⟩/\F b/\∀i (_:i<kids.length) (h':i<gH.length),Rd w b (off+i*6) gH[i])->
  kQ F w (av az k::(ed c++[ap base kids.length cap])) (.mk k c kids)
theorem kQ.ae_{F:Nat->Prop}{w:World}{cs:List Value}{t:Rx}(h:kQ F w cs t):cs.length=6:=by
 cases h;rfl
theorem kQ.Jy{F:Nat->Prop}{w w':World}{cs:List Value}{t:Rx}(h:kQ F w cs t)(hk:∀k,F k->w'.heap[k]?=w.heap[k]?):kQ F w' cs t:=by
 induction h with
 |mk gH h2 h3 h4 h5 h6 h7 ih=>
  refine .mk gH h2 h3 h4 h5 ih λhl=>?_;obtain⟨b,off,e,hF,hr⟩:=h7 hl;exact⟨b,off,e,hF,λi hi qw=>rd_stay (hr i hi qw) (hk b hF)⟩
theorem kQ.mono{F F':Nat->Prop}{w:World}{cs:List Value}{t:Rx}(h:kQ F w cs t)(hk:∀k,F k->F' k):kQ F' w cs t:=by
 induction h with
 |mk gH h2 h3 h4 h5 h6 h7 ih=>
  refine .mk gH h2 h3 h4 h5 ih λhl=>?_;obtain⟨b,off,e,hF,hr⟩:=h7 hl;exact⟨b,off,e,hk b hF,hr⟩
def yv:w8 Rx:=⟨6,kQ,λh=>h.ae_,λh hk=>h.Jy hk,λh hk=>h.mono hk⟩
def mQ(k:Int)(c:C4)(v:Value):List Value:=av az k::(ed c++[v])
def re(k:Int)(c:C4)(v:Value):Value:=aQ (mQ k c v).toArray
theorem zy{F:Nat->Prop}{w:World}{cs:List Value}{k:Int}{c:C4}{kids:List Rx}:kQ F w cs (.mk k c kids)↔∃v,cs=mQ k c v/\cK.dU k/\ky yv F w v kids:=by
 constructor
 ·intro h
  cases h with
  |mk gH h2 h3 h4 h5 h6 h7=>
   refine⟨_,rfl,h2,_,_,rfl,h3,h4,λhl=>?_⟩;obtain⟨b,off,e,hF,hr⟩:=h7 hl;exact⟨b,off,e,hF,λi hi=>⟨gH[i]' J,h6 i hi J,hr i hi J⟩⟩
 rintro⟨v,rfl,h2,base,cap,rfl,h3,h4,h5⟩
 by_cases hl:0<kids.length
 ·obtain⟨b,off,e,hF,hr⟩:=h5 hl
  have hlen:(Xv λi:Fin kids.length=>I9 (hr i i.2)).length=kids.length:=by simp
  refine .mk (Xv λi:Fin kids.length=>I9 (hr i i.2)) h2 h3 h4 hlen (λi hi qw=>?_) λ_=>⟨b,off,e,hF,λi hi qw=>?_⟩;rw[Xs];exact(DF (hr i hi)).1;rw[Xs];exact(DF (hr i hi)).2
 have:kids=[]:=mS J;subst this;exact .mk [] h2 h3 h4 I (λi hi=>absurd hi (by simp)) λh=>absurd h (by simp)
def oJ(F:Nat->Prop)(w:World)(v:Value)(r:Rx):Prop:=∃vk,v=re r.kind r.uQ vk/\cK.dU r.kind/\ky yv F w vk r.kids
theorem oJ.stay{F:Nat->Prop}{w w':World}{v:Value}{r:Rx}(h:oJ F w v r)(hk:∀k,F k->w'.heap[k]?=w.heap[k]?):oJ F w' v r:=
 let ⟨vk,h1,h2,h3⟩:=h;⟨vk,h1,h2,h3.stay hk⟩
theorem oJ.mono{F F':Nat->Prop}{w:World}{v:Value}{r:Rx}(h:oJ F w v r)(hk:∀k,F k->F' k):oJ F' w v r:=
 let ⟨vk,h1,h2,h3⟩:=h;⟨vk,h1,h2,h3.mono hk⟩
def qy(w:World):Nat->Prop:=λk=>k<w.heap.size
theorem oJ.gr{w w':World}{v:Value}{r:Rx}(h:oJ (qy w) w v r)(hg:Gr w w'):oJ (qy w') w' v r:=
 (h.stay λk hk=>hg.block k hk).mono λ_ hk=>iO hk hg.size
theorem oJ.is{F:Nat->Prop}{w:World}{v:Value}{r:Rx}(h:oJ F w v r):∃cs,v=aQ cs.toArray/\kQ F w cs r:=by
 obtain⟨k,c,kids⟩:=r;obtain⟨vk,rfl,h1,h2⟩:=h;exact⟨_,rfl,zy.2 ⟨vk,rfl,h1,h2⟩⟩
theorem kQ.r{F:Nat->Prop}{w:World}{cs:List Value}{r:Rx}(h:kQ F w cs r):oJ F w (aQ cs.toArray) r:=by
 obtain⟨k,c,kids⟩:=r;obtain⟨vk,rfl,h1,h2⟩:=zy.1 h;exact⟨vk,rfl,h1,h2⟩
theorem qO{F:Nat->Prop}{w:World}{b off:Nat}{l:List Rx}(h:∀i (h:i<l.length),∃cs,yv.is F w cs l[i]/\Rd w b (off+i*yv.c) cs){k:Nat}(hk:k<l.length):
 ∃base cap,Rd w b (off+k*6) (mQ l[k].kind l[k].uQ (.slice base l[k].kids.length cap))/\oJ F w (re l[k].kind l[k].uQ (.slice base l[k].kids.length cap)) l[k]:=by
 obtain⟨cs,h1,hr⟩:=h k hk;have h1:kQ F w cs l[k]:=h1;generalize l[k]=r at*;obtain⟨kd,c,kids⟩:=r;obtain⟨vk,rfl,a1,a2⟩:=zy.1 h1;have a2':=a2;obtain⟨base,cap,rfl,_⟩:=a2';exact⟨base,cap,hr,_,rfl,a1,a2⟩
def Eg(r:Re)(k:Nat):List (Re×Nat):=match r with
 | .Jr a b=>[(a,k+1),(b,k+1+a.size)]
 | .Js a b=>[(a,k+1),(b,k+1+a.size)]
 | .star a=>[(a,k+1)]
 |_=>[]
inductive B3(F:Nat->Prop)(w:World):List Value->Re×Nat->Prop
 |mk {r:Re} {k:Nat} {vk:Value} {base:Option Addr} {cap:Nat} (gH:List (List Value)):vk.oneCell'=aC->(Eg r k).length<=cap->cap<=maxLen->gH.length=(Eg r k).length->
  (∀i (h:i<(Eg r k).length) (h':i<gH.length),B3 F w gH[i] (Eg r k)[i])->(0<(Eg r k).length->∃b off,base=aj ⟨b,off,ak⟩/\F b/\∀i (_:i<(Eg r k).length) (h':i<gH.length),Rd w b (off+i*8) gH[i])->
  B3 F w (av az r.kind::(ed r.uQ++[vk,av az (k:Int),ap base (Eg r k).length cap])) (r,k)
theorem B3.Jy{F:Nat->Prop}{w w':World}{cs:List Value}{t:Re×Nat}(h:B3 F w cs t)(hk:∀k,F k->w'.heap[k]?=w.heap[k]?):B3 F w' cs t:=by
 induction h with
 |mk gH h2 h3 h4 h5 h6 h7 ih=>
  refine .mk gH h2 h3 h4 h5 ih λhl=>?_;obtain⟨b,off,e,hF,hr⟩:=h7 hl;exact⟨b,off,e,hF,λi hi qw=>rd_stay (hr i hi qw) (hk b hF)⟩
theorem B3.mono{F F':Nat->Prop}{w:World}{cs:List Value}{t:Re×Nat}(h:B3 F w cs t)(hk:∀k,F k->F' k):B3 F' w cs t:=by
 induction h with
 |mk gH h2 h3 h4 h5 h6 h7 ih=>
  refine .mk gH h2 h3 h4 h5 ih λhl=>?_;obtain⟨b,off,e,hF,hr⟩:=h7 hl;exact⟨b,off,e,hk b hF,hr⟩
section
variable{P:Program}{n:Nat}{W:bL}{fr:Fr}{L:List b9}{Q:Exit->Act->World->Prop}{ops:Array Oper}{rest:List Oper}
theorem Mem.ab2{w:World}{i:Nat}{o:b9}(o':b9)(h:Mem W L w)(hi:L[i]?=aj o)(hh:o'.holds w)(hf:∀k,o'.e_ k->o.e_ k):Mem W (L.set i o') w:=by
  have hlen:i<L.length:=(dg.1 hi).1;have hoi:=h.owns.all i o hi;refine⟨h.low,λj q hj=>?_,λj j' q q' sE hj sF k hk lO=>?_⟩
  · by_cases e:i=j
    · subst e
      rw[nF hlen]at hj;simp only[dh]at hj;subst hj;exact⟨hh,λk hk=>hoi.2 k (hf k hk)⟩
    rw[kZ e]at hj;exact h.owns.all j q hj
  by_cases e:i=j
  · subst e
    rw[nF hlen]at hj;rw[kZ sE]at sF;simp only[dh]at hj;subst hj;exact h.owns.apart i j' o q' sE hi sF k (hf k hk) lO
  rw[kZ e]at hj
  by_cases e':i=j'
  · subst e'
    rw[nF hlen]at sF;simp only[dh]at sF;subst sF;exact h.owns.apart j i q o sE hj hi k hk (hf k lO)
  rw[kZ e']at sF;exact h.owns.apart j j' q q' sE hj sF k hk lO
end
end bZ
namespace lH
open Go.RowKit cK dS de bZ
set_option maxRecDepth 100000 in
theorem ae'(x y:C4)(w:World):(lQ 10000 116 (aQ #[v64 x.a,v64 x.b,v64 x.c,v64 x.d]) (aQ #[v64 y.a,v64 y.b,v64 y.c,v64 y.d])).run aD w= .ok (decide (x=y)) w:=by
  have e:(lQ 10000 116 (aQ #[v64 x.a,v64 x.b,v64 x.c,v64 x.d]) (aQ #[v64 y.a,v64 y.b,v64 y.c,v64 y.d])).run aD w= .ok ((gB x.a==gB y.a)&&((gB x.b==gB y.b)&&((gB x.c==gB y.c)&&(gB x.d==gB y.d)))) w:=by
    unfold v64;rw[run_equalIn_array (P:=aD) w 9999 (n:=4) (e:=114) _ _ I I];have h1:aD.cellsOf 114=1:=rfl;simp[Op.eqItems,go_sem,List.range_succ_eq_map,h1]
    by_cases e1:gB x.a=gB y.a<;>by_cases e2:gB x.b=gB y.b<;>by_cases e3:gB x.c=gB y.c<;>by_cases e4:gB x.d=gB y.d<;>simp[e1,e2,e3,e4]
  rw[e]
  congr 1
  by_cases h:x=y
  subst h;simp;rw[decide_eq_false h];simp only[ae2,Bool.and_eq_false_iff]
  by_cases h1:x.a=y.a
  · by_cases h2:x.b=y.b
    · by_cases h3:x.c=y.c
      · by_cases h4:x.d=y.d
        exact absurd (C4.ext' h1 h2 h3 h4) h;simp[h4]
      simp[h3]
    simp[h2]
  simp[h1]
end lH
namespace bZ
open Go.RowKit cK dS
section
variable{P:Program}{n:Nat}{W:bL}{fr:Fr}{L:List b9}{Q:Exit->Act->World->Prop}{ops:Array Oper}{rest:List Oper}{d:Nat}{dst:Option Tmp}{ty:TypeId}{pos:String}{after:Array Edge}{guard:Option (Nat×Bool)}
theorem afa{t e:TypeId}{x z z':Operand}{agg:Bool}{c j len cap b off:Nat}{k k':IntKind}(ht:P.underlying t=aj (.slice e))(he:Ty P e agg c)(hx:ev fr x=aj (ap (aj ⟨b,off,ak⟩) len cap))(hz:ev fr z=aj (.int k (j:Int)))(hz':ev fr z'=aj (.int k' (j:Int)))(h2:j<=cap):
 RR P n W ⟨dst,.slice t x ak (aj z) (aj z'),ty,pos,after,guard⟩ fr L (ap (aj ⟨b,off,ak⟩) j j):= .mk λa w hr _=>by
 have hb:∀(k:IntKind) (p q:Nat) (cd:BoundsCode),p<=q->(Ja (.int k (p:Int)) q cd).run P w= .ok p w:=λk p q cd h=>by
  have:(0:Int)<=(p:Int)/\(p:Int)<=(q:Int):=by omega
  simp[Ja,asIntOf,this]
 have e1:((⟨b,off,ak⟩:Addr).add 0)=⟨b,off,ak⟩:=by rw[eV];rfl
 simp[execOp,hr.ev hx,hr.ev hz,hr.ev hz',sL,sM,run_underlying ht,sK,he.size,hb k' j cap _ h2,hb k j j _ (bz _),e1]
theorem PE{t e:TypeId}{s x:Operand}{q g b off size bytes m:Nat}{olds:List Value}{cs:Array Value}{T:TypeId}[tU:rO P t e size bytes](hs:ev fr s=aj (ap (aj ⟨b,off,ak⟩) m m))(hold:∀j v,olds[j]?=aj v->At W L ⟨b,off+j,ak⟩ v)(hol:olds.length=m*size)(hq:L[q]?=aj (aP g cs T))(hx:ev fr x=aj (ap (aj ⟨g,0,ak⟩) 1 1))
 (hl:cs.size=size) (qA:m+1<=140737488355328) (hb:(m+1)*bytes<=140737488355328) (hn:dj d n=aC)
 (h:∀v',TL P n W ops Q rest ((d,v')::fr) (L++[aZ e size v' (m+1) (olds++cs.toList)])):
 TL P n W ops Q (⟨aj d,.call {callee:= .builtin .append,args:=#[s,x],argTypes:=#[t,t]},ty,pos,after,ak⟩::rest) fr L:=lg I λact w hr hm K hK=>by
 obtain⟨inf,z,ht,zq,hz,oe,OL,Pv,hsz⟩:=tU.el.ex;subst oe OL;have hrun:=run_append_grow (P:=P) w t ty e inf z ht zq hz ⟨b,off,ak⟩ m m olds hol (λj v hj=>by rw[eV];exact hold j v hj w hm) ⟨g,0,ak⟩ 1 1 cs.toList (by simpa using hl) (λj v hj=>by rw[eV,cX];exact aH hq (by simpa using hj) w hm) J J (growslice_fits J hb);have e':(execOp act.eval ⟨aj d,.call {callee:= .builtin .append,args:=#[s,x],argTypes:=#[t,t]},ty,pos,after,ak⟩).run P w= .ok (.value (ap (aj ⟨w.heap.size,0,ak⟩) (m+1) (grownCap w (m+1) m e))) (w.drew.alloc (.cells (olds.toArray++cs.toList.toArray++Builtin.zeroCells z.cells (grownCap w (m+1) m e-(m+1))) e)):=by
  simp only[lP,sJ,Pd,gv,q_,hr.ev hs,hr.ev hx,nE,hrun,q9,pu]
 unfold gj;rw[e'];have hge:=grownCap_ge w (m+1) m e;have LJ:grownCap w (m+1) m e<=maxLen:=grownCap_le_maxLen w (m+1) m e (by unfold maxLen;omega);have hlen:(olds++cs.toList).length=(m+1)*inf.size:=by rw[bI,hol,mf,hl,ml]
 refine hK _ _ ((h _).go _ _ (hr.put hn _) (hm.append ((Below.refl _ _).drew.alloc (bz _) _) (nI.one ?_ ?_)))
 ·refine(⟨hlen,.inr ⟨w.heap.size,_,_,rfl,bH _,heap_alloc_new w.drew _,hge,LJ,?_,?_⟩⟩:World.ownsRow _ 0 e inf.size _ (m+1) (olds++cs.toList))
  ·simp only[Array.size_append,ey,size_zeroCells,Pv,hol,hl]
   have:grownCap w (m+1) m e=m+1+(grownCap w (m+1) m e-(m+1)):=by omega
   conv=>rhs;rw[this,iP,iP,uI]
  simp only[Array.toList_append];rw[<-hlen];exact List.take_left
 ·intro k hk
  have hk:sP (ap (aj ⟨w.heap.size,0,ak⟩) (m+1) (grownCap w (m+1) m e))=aj k:=hk;simp only[sP,dh]at hk;omega
def gA(G:Option Nat):Option Addr:=G.map λg=>⟨g,0,ak⟩
theorem L4{w:World}{e:TypeId}{size m:Nat}{v:Value}{xs:List Value}(h:(aZ e size v m xs).holds w):∃G cap,v=ap (gA G) m cap/\m<=cap/\cap<=maxLen/\(G=ak->cap=0):=by
 have h:w.ownsRow 0 e size v m xs:=h;rcases h.2 with⟨hv,h0⟩|⟨g,cap,jZ,hv,_,_,h1,h2,_⟩
 exact⟨ak,0,by rw[hv,h0];rfl,by omega,by decide,λ_=>rfl⟩;exact⟨aj g,cap,hv,h1,h2,λh=>by cases h⟩
theorem afb{c:Code}{i size m:Nat}{e:TypeId}{v:Value}{xs:List Value}(hi:L[i]?=aj (aZ e size v m xs))(h:∀G cap,v=ap (gA G) m cap->m<=cap->cap<=9223372036854775807->(G=ak->cap=0)->T P n W c Q fr L):T P n W c Q fr L:= .mk λa w hr hm=>by
 obtain⟨G,cap,h1,h2,h3,h4⟩:=L4 (hm.get hi);exact(h G cap h1 h2 h3 h4).go a w hr hm
theorem yw{c:Code}{i size m:Nat}{e:TypeId}{v:Value}{xs:List Value}(hi:L[i]?=aj (aZ e size v m xs))(h0:0<m)(h:∀g cap,v=ap (aj ⟨g,0,ak⟩) m cap->m<=cap->cap<=9223372036854775807->T P n W c Q fr L):T P n W c Q fr L:=by
 refine afb hi λG cap hv h1 h2 h3=>?_
 cases G with
 |none=>have:=h3 I;omega
 |some g=>exact h g cap hv h1 h2
end
end bZ
namespace bZ
open Go.RowKit cK dS de gd
theorem L5(k:Int)(w:World):Calls aD 174 #[av az k] w (bY (ret (av az (D8 k))) w):=by
 unfold D8;refine enter (args:=[av az k]) (n:=13) Tryz.func174 I I I ?_
 by_cases k1:k=1
 ·rw[if_pos k1]
  try refine GA ?_
  exact eH
 rw[if_neg k1]
 by_cases k2:k=2
 ·rw[if_pos k2]
  try refine GA ?_
  exact eH
 rw[if_neg k2]
 by_cases k3:k=3
 ·rw[if_pos k3]
  try refine GA ?_
  exact eH
 rw[if_neg k3]
 by_cases k6:k=6
 ·rw[if_pos k6]
  try refine GA ?_
  exact eH
 rw[if_neg k6]
 by_cases k4:k=4
 ·rw[if_pos k4]
  try refine GA ?_
  exact eH
 rw[if_neg k4]
 by_cases k5:k=5
 ·rw[if_pos k5]
  try refine GA ?_
  exact eH
 rw[if_neg k5]
 try refine GA ?_
 exact eH
theorem afc{r:Rx}{deep n:Nat}(h:(mw r deep n).1=0):(mw r deep n).2<=100:=by
 obtain⟨e,_,h1,h2⟩:=Jt _ r deep n (mw r deep n).2 (bz _) (oH h rfl);have:=h1.sz;omega
theorem Ya(w:World):(df 116 (#[]:Array (Nat×Value))).run aD w= .ok (oY C4.zero) w:=by kernel_rfl
theorem ag0(x y:C4)(w:World):(lQ 10000 116 (oY x) (oY y)).run aD w= .ok (decide (x=y)) w:=lH.ae' x y w
theorem SN{W0:World}{W:bL}{L:List b9}{b off:Nat}{cs:List Value}(ho:qx W0 W)(h:Rd W0 b off cs)(j:Nat)(v:Value)(hj:cs[j]?=aj v):At W L ⟨b,off+j,ak⟩ v:=iX ho (h j v hj)
theorem ab3{k:Int}{c:C4}{vk:Value}{j:Nat}{v:Value}(h:(ed c)[j]?=aj v):(mQ k c vk).toArray[0+1+j]?=aj v:=by
 have hj:j<(ed c).length:=(dg.1 h).1;rw[jz,show 0+1+j=j+1 by omega];show(ed c++[vk])[j]?=_
 rw[iq hj];exact h
set_option maxRecDepth 100000 in
theorem B4(w0:World)(gn:Nat):∀(N:Nat) (r:Rx),tV r<=N->∀(v:Value) (deep n:Nat) (w:World) (B:bL),oJ (qy w0) w0 v r->n<=100->deep<=31->qx w0 B->Mem B [aP gn #[av az (n:Int)] 3] w->
 Calls aD 146 #[v,av az (deep:Int),aJ (aj ⟨gn,0,ak⟩)] w (da ⟨λ(_:Unit)=>True,λ_=>av az (mw r deep n).1,λ_=>[aP gn #[av az ((mw r deep n).2:Int)] 3]⟩ B)
 |0,r,h,_,_,_,_,_,_,_,_,_,_=>by have:=HA r;omega
 | N + 1,.mk k c kids,hN,v,deep,n,w,B,hv,hn,hd,ho,hm=>by
  have IH:=B4 w0 gn N;obtain⟨vk,rfl,aiJ,SO⟩:=hv;dsimp only[Rx.kind,Rx.uQ,Rx.kids]at aiJ SO⊢;obtain⟨bk,ck,rfl,jw,L6,UO⟩:=SO;unfold maxLen at L6;rw[mw];rw[tV]at hN;have hkc:=λw=>L5 k w;have Hw:=ag0 c C4.zero;have hcz:=Ya;refine dB hm (args:=[re k c (ap bk kids.length ck),av az (deep:Int),aJ (aj ⟨gn,0,ak⟩)]) (n:=55) Tryz.func146 I I I ?_;clear hm;refine bW (bB (bP I I I λg3=>?_));refine zL ?_
  repeat(first|refine GC ?_|refine gV (aB aK.ty I (aH (i:=0) I I)) ?_|refine gV (dW (r:=((n+1:Nat):Int)) I I J J J) ?_|refine GB ?_)
  refine bV (i:=0) I I I I I I ?_;rw[show(#[av az (n:Int)]:Array Value).setIfInBounds 0 (av az ((n+1:Nat):Int))=#[av az ((n+1:Nat):Int)]from I];refine zL ?_
  by_cases c1:100<n+1
  ·rw[if_pos c1]
   repeat(first|refine GA ?_|refine gV (aB aK.ty I (aH (i:=0) I I)) ?_)
   exact cO I I λw hm=>hm.cC (S:=⟨λ(_:Unit)=>True,λ_=>av az 2,λ_=>[aP gn #[av az ((n+1:Nat):Int)] 3]⟩) () trivial [0] akh I
  rw[if_neg c1]
  by_cases c2:30<deep
  ·rw[if_pos c2]
   repeat(first|refine GA ?_|refine gV (aB aK.ty I (aH (i:=0) I I)) ?_)
   exact cO I I λw hm=>hm.cC (S:=⟨λ(_:Unit)=>True,λ_=>av az 7,λ_=>[aP gn #[av az ((n+1:Nat):Int)] 3]⟩) () trivial [0] akh I
  rw[if_neg c2]
  repeat(first|refine GA ?_|refine gV (aB aK.ty I (aH (i:=0) I I)) ?_)
  by_cases c3:D8 k≠(kids.length:Int)
  ·rw[if_pos c3]
   (repeat refine bW ?_)
   refine dT ([aP g3 (mQ k c (ap bk kids.length ck)).toArray 119]) (.calm 0 (.calm 1 (.calm 2 (.calm 3 (.calm 4 (.calm 5 (.calm 6 (.calm 7 (.done))))))))) (bX [1]) ?_
   repeat(first|refine GW ?_|(refine GN ?_;first|refine QW (aB aK.ty I (aH (i:=0) I I)) ?_))
   refine oW I (i_ aI.en I I) (λw hm=>hkc _) I I I ?_
   repeat(first|(refine GN ?_;first|refine QW QP ?_|refine QW (aB aK.ty I (aH (i:=0) I I)) ?_|refine QW (dl (b:=aC) I I (decide_eq_true c3)) ?_|refine GX ?_)|refine GW ?_)
   try refine GA ?_
   exact cO I I λw hm=>hm.cC (S:=⟨λ(_:Unit)=>True,λ_=>av az 1,λ_=>[aP gn #[av az ((n+1:Nat):Int)] 3]⟩) () trivial [0] akh I
  rw[if_neg c3];have OP:D8 k=(kids.length:Int):=by simpa using c3
  rw[OP]at hkc
  (repeat refine bW ?_)
  refine dT ([aP g3 (mQ k c (ap bk kids.length ck)).toArray 119]) (.calm 0 (.calm 1 (.calm 2 (.calm 3 (.calm 4 (.calm 5 (.calm 6 (.calm 7 (.done))))))))) (bX [1]) ?_
  repeat(first|refine GW ?_|(refine GN ?_;first|refine QW (aB aK.ty I (aH (i:=0) I I)) ?_))
  refine oW I (i_ aI.en I I) (λw hm=>hkc _) I I I ?_
  repeat(first|(refine GN ?_;first|refine QW QP ?_|refine QW (aB aK.ty I (aH (i:=0) I I)) ?_|refine QW (dl (b:=aE) I I (decide_eq_false (λh=>h I))) ?_|refine GX ?_)|refine GW ?_)
  try refine GA ?_
  generalize hD:(decide (k=3) !=decide (c≠C4.zero))=D;have hD':(!(decide (k=3)==!decide (c=C4.zero)))=D:=by
   rw[<-hD,decide_not]
   cases decide (k=3)<;>cases decide (c=C4.zero)<;>rfl
  (repeat refine bW ?_)
  refine dT ([aP g3 (mQ k c (ap bk kids.length ck)).toArray 119]) (.calm 0 (.calm 1 (.calm 2 (.calm 3 (.calm 4 (.calm 5 (.calm 6 (.calm 7 (.calm 8 (.done)))))))))) (bX [1]) ?_
  repeat(first|(refine GN ?_;first|refine QW QP ?_|refine QW (aB aK.ty I (aH (i:=0) I I)) ?_|refine QW (cZ (b:=decide (k=3)) I I I) ?_|refine QW (bm (cs:=ed c) aK.ty I I (λj v hj=>aH (i:=0) I (ab3 hj))) ?_|refine QW (bD I hcz) ?_|refine QW (uO I I (by kernel_rfl) Hw I) ?_|refine QW (Uu (c:=D) bM.eq I I hD') ?_|refine GX ?_)|refine GW ?_)
  clear hD hD' Hw hcz hkc
  cases D with
  | true=>
   rw[if_pos I]
   try refine GA ?_
   exact cO I I λw hm=>hm.cC (S:=⟨λ(_:Unit)=>True,λ_=>av az 1,λ_=>[aP gn #[av az ((n+1:Nat):Int)] 3]⟩) () trivial [0] akh I
  | false=>
   rw[if_neg akh]
   repeat(first|refine GA ?_|refine gV (aB aK.ty I (aH (i:=1) I I)) ?_)
   refine rb [0] ?_;refine d_ (ι:=Nat×Nat) (λ(j,q)=>j<=kids.length/\q<=100/\CK kids (deep+1) (n+1)=CK (kids.drop j) (deep+1) q) (λ(j,_)=>[(1,av az (deep:Int)),(2,aJ (aj ⟨gn,0,ak⟩)),(40,ap bk kids.length ck),(41,av az (kids.length:Int)),(42,av az (j:Int))])
    (λ(_,q)=>[aP gn #[av az (q:Int)] 3]) (λ(j,_)=>kids.length-j) (0,n+1) ⟨bH _,by omega,rfl⟩ ?_
   rintro⟨j,q⟩ ⟨hj,hq,hk⟩;dsimp only at hj hq hk⊢;rw[hk]
   by_cases c4:j<kids.length
   ·obtain⟨b,off,rfl,_,hr⟩:=UO J
    obtain⟨bj,cj,eP,hkr⟩:=qO hr c4;have Pm:kids.drop j=kids[j]::kids.drop (j+1):=eZ c4;rw[Pm,CK]at hk⊢;have hsz:=D9 (b_ c4);have hle:=λh=>afc (r:=kids[j]'c4) (deep:=deep+1) (n:=q) h;have dy:=λ(L:List b9) j v hj=>SN (L:=L) ho eP j v hj;generalize kids[j]=r at*;generalize r.kids.length=m at*
    repeat(first|refine GA ?_|refine gV (aY (j:=j) bM.eq aK.ty I I c4) ?_|refine gV (bm aK.ty I I (dy _)) ?_)
    refine a8 I λg8=>?_;refine zL ?_;refine ij 1 (cs':=(mQ r.kind r.uQ (ap bj m cj)).toArray) ?_;refine zL ?_
    repeat(first|refine GC ?_|refine gV (aO (i:=1) aK.ty I I I) ?_|refine gV (dW (r:=((deep+1:Nat):Int)) I I J J J) ?_|refine GB ?_)
    refine bx [0] [1] akh I I (sV aI.en I I I I) (λw hm hb=>IH r J _ (deep+1) q w _ hkr hq J (ho.on hm (by intro o ho;simp at ho⊢;simp[ho])) hb) I I I ?_;intro _ _;dsimp only;refine zL ?_
    by_cases e1:(mw r (deep+1) q).1=0
    ·rw[if_neg (by simpa using e1)]
     rw[if_neg (by simpa using e1)]at hk;have DU:=hle e1;rw[e1];generalize (mw r (deep+1) q).2=q' at*
     try refine GA ?_
     refine dm [1] ?_;exact bT (j+1,q') ⟨by show j+1<=kids.length;omega,DU,rfl⟩ (by show kids.length-(j+1)<kids.length-j;omega)
    rw[if_pos e1];generalize mw r (deep+1) q=z at*
    repeat(first|refine GC ?_|refine gV (dl (b:=aC) I I (decide_eq_true e1)) ?_|refine GB ?_)
    exact cO I I λw hm=>hm.cC (S:=⟨λ(_:Unit)=>True,λ_=>av az z.1,λ_=>[aP gn #[av az (z.2:Int)] 3]⟩) () trivial [1] akh I
   obtain rfl:j=kids.length:=by omega
   rw[List.drop_length,CK]at hk⊢
   try refine GA ?_
   exact cO I I λw hm=>hm.cC (S:=⟨λ(_:Unit)=>True,λ_=>av az 0,λ_=>[aP gn #[av az (q:Int)] 3]⟩) () trivial [0] akh I
def Yb(r:Rx):Int:=(mw r 1 0).1
theorem uY(v:Value)(r:Rx)(w:World)(hv:oJ (qy w) w v r):Calls aD 111 #[v] w (bY (ret (av az (Yb r))) w):=by
 have hc:=λgn w' B ho hm=>B4 w gn _ r (bz _) v 1 0 w' B hv J J ho hm;obtain⟨vk,rfl,_,hs⟩:=hv;obtain⟨bk,ck,rfl,-⟩:=hs;generalize r.kids.length=m at*;refine enter (args:=[re r.kind r.uQ (ap bk m ck)]) (n:=6) Tryz.func111 I I I ?_;refine bW (bB (bP I I I λg1=>?_))
 try refine GA ?_
 refine a8 I λg3=>?_;refine zL ?_;refine bV (i:=1) I I I I I I ?_;refine zL ?_
 repeat(first|refine GA ?_|refine gV (aO (i:=0) aK.ty I I I) ?_)
 refine bx [1] [0] akh I I (sV aI.en I I I I) (λw hm hb=>hc g3 w _ ((qx.self _).on hm (by intro o ho;simp at ho⊢;simp[ho])) hb) I I I ?_;intro _ _;dsimp only;unfold Yb
 try refine GA ?_
 exact eH
end bZ
section
open Go.RowKit cK dS de
attribute [local go_sem] agT aiG aea agU
theorem UP{w:World}{g:Nat}{x:C4}(h:Wr w g 0 (ed x)):w.cell? ⟨g,0,ak⟩=aj (v64 x.a)/\w.cell? ⟨g,1,ak⟩=aj (v64 x.b)/\w.cell? ⟨g,2,ak⟩=aj (v64 x.c)/\w.cell? ⟨g,3,ak⟩=aj (v64 x.d):=
 ⟨(h 0 _ I).1,(h 1 _ I).1,(h 2 _ I).1,(h 3 _ I).1⟩
theorem UQ{w:World}{g:Nat}{x:C4}{T:TypeId}(h:w.heap[g]?=aj (.cells #[.int .u64 (gB x.a),.int .u64 (gB x.b),.int .u64 (gB x.c),.int .u64 (gB x.d)] T (0,0))):Wr w g 0 (ed x):=λj u hj=>by
 rw[cX,cell_of_row w g j _ T (0,0) h];exact⟨by simpa[ed]using hj,frozen_of_row w g j _ T h⟩
theorem SP{w:World}{B:Nat}(hB:w.heap.size=B)(x:C4)(T:TypeId):Wr (w.alloc (.cells #[.int .u64 (gB x.a),.int .u64 (gB x.b),.int .u64 (gB x.c),.int .u64 (gB x.d)] T)) B 0 (ed x):=
 UQ (abK w _ B hB)
theorem od(w:World)(o:Obj):Below w.heap.size w (w.alloc o):=(Below.refl _ _).alloc (bz _) _
theorem Ba{w:World}{g:Nat}{x:C4}(h:Wr w g 0 (ed x))(i:Nat)(hi:i<4):w.cell? ⟨g,i,ak⟩=aj (.int .u64 (gB (x.get i)))/\w.frozen? ⟨g,i,ak⟩=false:=by
 have:=h i _ (XW x i hi);rw[cX]at this;exact this
theorem UR{w:World}{g:Nat}{x:C4}(h:Wr w g 0 (ed x))(i:Nat)(hi:i<4)(v:BitVec 64):Wr (w.setCell ⟨g,i,ak⟩ (.int .u64 (gB v))) g 0 (ed (x.set i v)):=by
 have:=h.set i (by simp[ed];omega) (v64 v);rw[cX,XX x i hi v]at this;exact this
theorem L7(lo hi:Int)(w:World)(h1:dU lo)(h2:dU hi):
    Calls aD 88 #[av az lo,av az hi] w λe w'=>e= .returned (oY (fy lo hi))/\Below w.heap.size w w':=by
  obtain⟨l1,l2⟩:=h1;obtain⟨m1,m2⟩:=h2;unfold oY;have yx:Below w.heap.size w ((w.alloc (.cells #[.int .u64 0,.int .u64 0,.int .u64 0,.int .u64 0] 116)).alloc (.cells #[.int .u64 0,.int .u64 0,.int .u64 0,.int .u64 0] 116))/\Wr ((w.alloc (.cells #[.int .u64 0,.int .u64 0,.int .u64 0,.int .u64 0] 116)).alloc (.cells #[.int .u64 0,.int .u64 0,.int .u64 0,.int .u64 0] 116)) w.heap.size 0 (ed C4.zero)/\Wr ((w.alloc (.cells #[.int .u64 0,.int .u64 0,.int .u64 0,.int .u64 0] 116)).alloc (.cells #[.int .u64 0,.int .u64 0,.int .u64 0,.int .u64 0] 116)) (w.heap.size+1) 0 (ed C4.zero):=
    ⟨(((Below.refl _ _).alloc (bz _) _).alloc (by simp) _),((SP I C4.zero _).gr (od _ _)),(SP (by simp) C4.zero _)⟩
  obtain⟨B,hB⟩:∃B,B=w.heap.size:=⟨_,rfl⟩;rw[<-hB]at yx
  go_enter Tryz.func88,Tryz.ntmps88
  go_upto_region 2 with(fail)
  rw[<-hB];have aiK:w.heap.size<=B:=by omega
  have ajJ:B<=w.heap.size:=by omega
  clear hB
  go_cut [6] (λs6 w'=>w'=((w.alloc (.cells #[.int .u64 0,.int .u64 0,.int .u64 0,.int .u64 0] 116)).alloc (.cells #[.int .u64 0,.int .u64 0,.int .u64 0,.int .u64 0] 116))/\s6=av az (max lo 0))
  case first=>
    go_wp2
    all_goals
      go_meet
      case rel=>exact⟨rfl,by congr 1<;>omega⟩
  case rest=>
    obtain⟨rfl,rfl⟩:=hcut;obtain⟨b0,C8⟩:∃b0:Nat,(b0:Int)=max lo 0:=⟨(max lo 0).toNat,by omega⟩;have hF:fy lo hi=C4.kw C4.zero b0 (min hi 255+1-b0).toNat:=by unfold fy;rw[<-C8];rfl
    have HF:=DI hF;rw[<-C8];clear hF C8;obtain⟨xt,WC,hs3⟩:=yx;obtain⟨N,hN⟩:∃N,N=(min hi 255+1-b0).toNat:=⟨_,rfl⟩;have HN:=DI hN;have hN1:0<N->(b0:Int)+N=min hi 255+1:=λh=>by omega
    have hN0:N=0->min hi 255<(b0:Int):=λh=>by omega
    have Yc:N=0\/b0+N<=256:=by omega
    clear hN;rcases(show 255<hi\/hi<=255 by omega)with hh|hh
    all_goals
      go_wp2_with fail
      go_loopg [6] N (λg c wr=>∃i:Nat,i+g=N/\c=av az ((b0+i:Nat):Int)/\Below B w wr/\Wr wr B 0 (ed C4.zero)/\Wr wr (B+1) 0 (ed (C4.kw C4.zero b0 i)))
      case atStart=>exact⟨0,by omega,rfl,xt,WC,hs3⟩
      case round=>
        obtain⟨i,qw,rfl,hb,hr,hx⟩:=hrel;clear xt WC hs3
        by_cases hlt:i<N
        · have hbb:((b0+i:Nat):Int)<=hi:=by have:=hN1 J;omega
          have ag1:b0+i<=255:=by omega
          have hstep:=XY C4.zero b0 i;generalize hbn:b0+i=b at hbb ag1 hstep⊢;have h4:b/64<4:=by omega
          have cx:∀w',Up wr.drew w'->w'.cell? ⟨B+1,b/64,ak⟩=aj (.int .u64 (gB ((C4.kw C4.zero b0 i).get (b/64)))):=λw' hw=>(Ba ((hx.gr (Gr.drew _)).gr hw) (b/64) h4).1;have hand:=UB b J;have Yd:=abV (b %64) (A3 _ akh);have HS0:=DI hstep;have HI:=DI qw;clear hN1 hN0 Yc hstep qw
          go_wp2_with fail
          refine dS 9 (cL 9 aC) I (by kernel_rfl) (by kernel_rfl) (by intro c a d v w h;cases d<;>exact h) (Up wr.drew) (Un _) (Gr.refl _) ?_;simp only[sQ,uG,List.drop_succ_cons,List.drop_zero,cL]
          repeat(first|(refine Sy (by rfl) (λw hSw=>by go_simp;(try (simp only[↓IntWalk.iteOmega];try go_simp));(try go_bits);first|done|with_reducible rfl) ?_;simp only[q8,uF,ye,DL])|(refine XA (by rfl) ?_;simp only[q8,uF,ye,DL]))
          refine Sz λw5 hw5=>?_;have hx5:=(hx.gr (Gr.drew _)).gr hw5;have hr5:=(hr.gr (Gr.drew _)).gr hw5;have hb5:Below B w w5:=Xy hb.drew (by have:=hb.size;simp;omega) hw5;obtain⟨c1,c2⟩:=Ba hx5 (b/64) h4;have hs:=UR hx5 (b/64) h4 ((C4.kw C4.zero b0 i).get (b/64)|||io 64 (2^(b %64)));have hf1:=hr5.far (a:=⟨B+1,b/64,ak⟩) (by simp) (.int .u64 (gB ((C4.kw C4.zero b0 i).get (b/64)|||io 64 (2^(b %64)))));have hbs:=hb5.setCell (p:=⟨B+1,b/64,ak⟩) (by simp) (.int .u64 (gB ((C4.kw C4.zero b0 i).get (b/64)|||io 64 (2^(b %64)))));rw[HS0.out]at hs;have HS:=DI (cJ hs (cJ hf1 hbs));clear hs hf1 hbs hx5 hr5 hb5 cx hx hr hb hw5 hand Yd
          go_wp2_with fail
          have qw:=HI.out
          go_roundg (gk-1)
          case measure=>omega
          case rel=>exact⟨i+1,by omega,by go_num,HS.out.2.2,HS.out.2.1,HS.out.1⟩
        obtain rfl:i=N:=by omega
        have ajK:min hi 255<((b0+i:Nat):Int):=by
          by_cases h0:i=0
          have:=hN0 h0;omega;have:=hN1 J;omega
        have hE:C4.kw C4.zero b0 i=fy lo hi:=by rw[HF.out,<-HN.out]
        rw[hE]at hx;obtain⟨c0,c1,c2,c3⟩:=UP hx;obtain⟨⟨r0,f0⟩,⟨r1,f1⟩,⟨r2,f2⟩,⟨r3,f3⟩⟩:_/\_/\_/\_:=⟨Ba hr 0 akh,Ba hr 1 akh,Ba hr 2 akh,Ba hr 3 akh⟩;clear hN1 hN0 Yc hE;generalize b0+i=b at*;have ajA:¬(b:Int)<=min hi 255:=by omega
        go_wp2_with fail
        refine bodyPost_ret (v:=aQ #[.int .u64 (gB (fy lo hi).a),.int .u64 (gB (fy lo hi).b),.int .u64 (gB (fy lo hi).c),.int .u64 (gB (fy lo hi).d)]) (by simp[results,Tryz.results88,go_sem,r0,r1,r2,r3]) I ⟨rfl,?_⟩;exact((((hb.setCell (by simp) _).setCell (by simp) _).setCell (by simp) _).setCell (by simp) _).mono aiK
end
namespace lH
open Go.RowKit cK dS de bZ
theorem afd(lo hi:Int)(h1:dU lo)(h2:dU hi)(w:World):Calls aD 88 #[av az lo,av az hi] w (bY (ret (oY (fy lo hi))) w):=(L7 lo hi w h1 h2).mono λ_ _ ⟨he,hb⟩=>Us he hb
end lH
namespace bZ
open Go.RowKit cK dS
theorem mapM_some{α β:Type}{f:α->Option β}:∀{l:List α},(∀x∈l,∃y,f x=aj y)->∃ys,l.mapM f=aj ys
 |[],_=>⟨[],by simp⟩
 |a::l,h=>by
  obtain⟨y,hy⟩:=h a (by simp);obtain⟨ys,hys⟩:=mapM_some (l:=l) λx hx=>h x (by simp[hx]);exact⟨y::ys,by simp[Xu,hy,hys]⟩
section
variable{P:Program}
def KL(P:Program)(d:Nat)(t:TypeId)(cs:List Value):Prop:=∃ls,P.keyLits d t cs=aj ls
theorem uZ{d:Nat}{t:TypeId}{q:IntKind}{n:Int}(ht:P.underlying t=aj (.int q))(h0:q.min<=n)(h1:n<=q.max):KL P (d+1) t [.int q n]:=by
 refine⟨[.int q n],?_⟩;have hw:(Lit.int q n).wf=true:=by simp[Lit.wf,h0,h1]
 simp[sO,ht,hw]
theorem Ye{d n:Nat}{t e:TypeId}{cs:List Value}(ht:P.underlying t=aj (.array n e))(hl:cs.length=P.cellsOf t)(h:∀i,i<n->KL P d e ((cs.drop (i*P.cellsOf e)).take (P.cellsOf e))):KL P (d+1) t cs:=by
 obtain⟨ys,hy⟩:=mapM_some (f:=λi=>P.keyLits d e ((cs.drop (i*P.cellsOf e)).take (P.cellsOf e))) (l:=eg n) λi hi=>h i (nG.1 hi);refine⟨ys.flatten,?_⟩;unfold sO;simp only[ht];rw[if_pos hl,hy];rfl
theorem Bb{d:Nat}{t:TypeId}{fs:Array Field}{cs:List Value}(ht:P.underlying t=aj (.struct fs))(hl:cs.length=P.cellsOf t)(hn:fs.all (·.name != "_")=aC)(h:∀f∈fs.toList,KL P d f.type ((cs.drop f.offset).take (P.cellsOf f.type))):KL P (d+1) t cs:=by
 obtain⟨ys,hy⟩:=mapM_some (f:=λf:Field=>P.keyLits d f.type ((cs.drop f.offset).take (P.cellsOf f.type))) (l:=fs.toList) h;refine⟨ys.flatten,?_⟩;unfold sO;simp only[ht];rw[if_pos ⟨hl,hn⟩,hy];rfl
theorem Jz{t:TypeId}{cs:List Value}{m:Nat}(hw:(match P.underlying t with|some (.array _ _)|some (.struct _)=>aC|_=>aE)=aC)(hk:P.keyType t=aC)(hl:cs.length=P.cellsOf t)(hm:∃d,P.types.size+1=d+m)(h:∀d,KL P (d+m) t cs):∃l,keyOf P t (aQ cs.toArray)=aj l:=by
 obtain⟨d,e⟩:=hm;obtain⟨ls,hls⟩:=h d;refine⟨.string (keyBytes ls),?_⟩;have hf:(aQ cs.toArray).formed P t=true:=by
  unfold Value.formed;split at hw<;>simp_all
 have hc:(aQ cs.toArray).cells.toList=cs:=rfl;have key:(if(P.keyType t&&(aQ cs.toArray).formed P t)=aC then(P.keyLits (P.types.size+1) t (aQ cs.toArray).cells.toList).map (λls=>Lit.string (keyBytes ls))else ak)=aj (.string (keyBytes ls)):=by
  rw[hk,hf,hc,e,hls];rfl
 unfold keyOf;split at hw
 ·rename_i h1;rw[h1];exact key
 ·rename_i h1;rw[h1];exact key
 cases hw
end
theorem C':laidOutB aD=true:=by kernel_rfl
theorem Da(m:Nat)(h:yg m (aD.types.size+1)=aC):∃d,aD.types.size+1=d+m:=⟨aD.types.size+1-m,by have:=k8 h;omega⟩
end bZ
namespace cD
section
variable{κ:Type}[DecidableEq κ]
def dR:List κ->List κ->List κ
 |D,[]=>D
 |D,k::r=>dR (if k∈D then D else D++[k]) r
def more(D:List κ)(k:κ):List κ:=if k∈D then D else D++[k]
theorem lu:∀(l D:List κ) (k:κ),dR D (l++[k])=more (dR D l) k
 |[],_,_=>rfl
 |_::l,_,k=>lu l _ k
theorem Eh(D:List κ)(k:κ):∃E,more D k=D++E:=by
 unfold more;split;exact⟨[],by simp⟩;exact⟨[k],rfl⟩
theorem u_{D:List κ}{k x:κ}:x∈more D k↔x∈D\/x=k:=by
 unfold more;split
 ·rename_i h
  exact⟨.inl,λe=>e.elim id λe=>e▸h⟩
 simp
theorem s9:∀(l D:List κ),∃E,dR D l=D++E
 |[],D=>⟨[],by simp[dR]⟩
 |k::l,D=>by
  obtain⟨E,h⟩:=Eh D k;obtain⟨E',h'⟩:=s9 l (more D k);exact⟨E++E',by show dR (more D k) l=_;rw[h',h,dZ]⟩
theorem lx{x:κ}:∀{l D:List κ},x∈dR D l↔x∈D\/x∈l
 |[],D=>by simp[dR]
 |k::l,D=>by
  show x∈dR (more D k) l↔_
  rw[lx,u_,dC,or_assoc]
theorem Ei{D:List κ}{k:κ}(h:D.Nodup):(more D k).Nodup:=by
 unfold more;split;exact h
 rename_i hk
 exact DN.2 ⟨h,by simp,λa ha b hb e=>by simp at hb;subst hb e;exact hk ha⟩
theorem s_:∀(l D:List κ),D.Nodup->(dR D l).Nodup
 |[],_,h=>h
 |_::l,_,h=>s_ l _ (Ei h)
def idx(D:List κ)(k:κ):Nat:=D.idxOf k
theorem pH{D:List κ}{k:κ}(h:k∈D):idx D k<D.length:=List.idxOf_lt_length_of_mem h
theorem Db{D:List κ}{k:κ}(h:idx D k<D.length):D[idx D k]=k:=List.getElem_idxOf h
theorem Ej{D:List κ}(hn:D.Nodup){v:Nat}(h:v<D.length):idx D D[v]=v:=by
 have h1:=pH (b_ h);exact(List.getElem_inj hn).1 (Db h1)
theorem Yf(k:κ)(E:List κ):idx (k::E) k=0:=by simp[idx]
theorem qP{D E:List κ}{k:κ}(h:k∈D):idx (D++E) k=idx D k:=by unfold idx;rw[Xt,if_pos h]
theorem rW{D:List κ}{k:κ}:idx (more D k) k=if k∈D then idx D k else D.length:=by
 unfold more;split;rfl
 rename_i h
 unfold idx;rw[Xt,if_neg h];simp
theorem Yg{l D:List κ}{i:Nat}(hi:i<l.length):idx (dR D l) l[i]=if l[i]∈dR D (l.take i)then idx (dR D (l.take i)) l[i]else(dR D (l.take i)).length:=by
 have e:l=l.take (i+1)++l.drop (i+1):=(yd _ _).symm;have h1:l.take (i+1)=l.take i++[l[i]]:=List.take_succ_eq_append_getElem hi;have h2:∃E,dR D l=dR D (l.take (i+1))++E:=by
  obtain⟨E,h⟩:=s9 (l.drop (i+1)) (dR D (l.take (i+1)));refine⟨E,?_⟩;rw[<-h];have hap:∀(a b D:List κ),dR D (a++b)=dR (dR D a) b:=by
   intro a
   induction a with
   |nil=>intro b D;rfl
   |cons x a ih=>intro b D;exact ih b _
  rw[<-hap,<-e]
 obtain⟨E,h2⟩:=h2;rw[h2,qP,h1,lu,rW];rw[h1,lu,u_];exact .inr I
theorem ab4{D:List κ}{x y:κ}(hx:x∈D)(h:idx D x=idx D y):x=y:=by
 have h1:=pH hx;have h2:idx D y<D.length:=h▸h1;rw[<-Db h1,<-Db h2]
 congr 1
end
theorem jQ{α:Type}{l m:List α}{k:Nat}{d:α}(h:k<l.length):(l++m).getD k d=l.getD k d:=by
 rw[cB,iq h,cB]
theorem my{α:Type}{l m:List α}{k:Nat}{d:α}(h:l.length<=k):(l++m).getD k d=m.getD (k-l.length) d:=by
 rw[cB,pv h,cB]
theorem og{l:List Nat}{m:Nat}(h:l.Nodup)(hb:∀x∈l,x<m):l.length<=m:=by
 have hs:∀(l l':List Nat),l.Nodup->(∀x∈l,x∈l')->l.length<=l'.length:=by
  intro l
  induction l with
  |nil=>intro l' _ _;simp
  |cons x l ih=>
   intro l' hn hs;rw[pw]at hn;have hx:x∈l':=hs x (by simp);have:=ih (l'.erase x) hn.2 (λy hy=>(Pc (by rintro rfl;exact hn.1 hy)).2 (hs y (by simp[hy])));rw[Jd hx]at this;have:0<l'.length:=Pb hx;simp;omega
 have:=hs l (eg m) h λx hx=>nG.2 (hb x hx)
 simpa using this
theorem PF{N:Nat}{f g:Nat->Nat}{n c:Nat}(hf:∀v,v<n->∃x,x<N/\f x=v)(hg:∀x,x<N->g x<c)(hr:∀x y,x<N->y<N->g x=g y->f x=f y):
 n<=c/\(c=n->(∀x,x<N->f x<n)->∀x y,x<N->y<N->f x=f y->g x=g y):=by
 have hc:∃p:Nat->Nat,∀v,v<n->p v<N/\f (p v)=v:=by
  refine⟨λv=>if h:v<n then(hf v h).choose else 0,λv h=>?_⟩;simp only[dif_pos h];exact(hf v h).choose_spec
 obtain⟨p,hp⟩:=hc;have LD:∀l:List Nat,l.Nodup->(∀v∈l,v<n)->(l.map λv=>g (p v)).Nodup:=by
  intro l hl hb;refine List.pairwise_map.2 (aeL (λ{a b} ha OJ hne e=>hne ?_) hl);have h1:=hp a (hb a ha);have h2:=hp b (hb b OJ);have:=hr _ _ h1.1 h2.1 e;rw[h1.2,h2.2]at this;exact this
 refine⟨?_,λhcn hfb x y hx hy hxy=>?_⟩
 ·have h1:=og (m:=c) (LD (eg n) Pe λv hv=>nG.1 hv) (λz hz=>by
   obtain⟨v,hv,rfl⟩:=eT.1 hz;exact hg _ (hp v (nG.1 hv)).1)
  simpa using h1
 ·apply WY
  intro hne;have hv:f x<n:=hfb x hx;have hl:((eg n).erase (f x)).Nodup:=Pe.erase _;have hb:∀v∈(eg n).erase (f x),v<n/\v≠f x:=λv hv=>by
   have:=(Pe.mem_erase_iff).1 hv;exact⟨nG.1 this.2,this.1⟩
  have h1:=LD _ hl λv hv=>(hb v hv).1;have Uo:∀z,z<N->f z=f x->g z∉((eg n).erase (f x)).map λv=>g (p v):=by
   intro z hz he GF;obtain⟨v,JA,e⟩:=eT.1 GF;have h2:=hp v (hb v JA).1;have:=hr _ _ h2.1 hz e;rw[h2.2,he]at this;exact(hb v JA).2 this
  have h2:(g x::g y::((eg n).erase (f x)).map λv=>g (p v)).Nodup:=by
   rw[pw,pw];refine⟨?_,Uo y hy hxy.symm,h1⟩;rw[dC,not_or];exact⟨hne,Uo x hx I⟩
  have h3:=og (m:=c) h2 (λz hz=>by
   simp only[dC]at hz;rcases hz with rfl|rfl|hz
   exact hg _ hx;exact hg _ hy;obtain⟨v,hv,rfl⟩:=eT.1 hz;exact hg _ (hp v (hb v hv).1).1)
  have h4:((eg n).erase (f x)).length=n-1:=by
   rw[Jd (nG.2 hv)];simp
  simp[h4]at h3;omega
end cD
namespace bZ
open Go.RowKit cK dS de
theorem Yh{P:Program}(x j b:Nat)(k k':IntKind)(hb:k.bits=b)(hj:j<=b)(w:World):(iM .shr k (x:Int) k' (j:Int)).run P w= .ok (.int k ((x/2^j:Nat):Int)) w:=by
 have e:min j b=j:=by omega
 have h0:¬((j:Int)<0):=by omega
 have e2:(x:Int).fdiv (2^j)=((x/2^j:Nat):Int):=by
  grind
 simp_all[iM,if_neg]
theorem Ek(c:C4)(i:Nat)(h:i<4):(#[v64 c.a,v64 c.b,v64 c.c,v64 c.d]:Array Value)[i]?=aj (.int .u64 ((c.get i).toNat:Int)):=by
 match i,h with
 |0,_=>rfl
 |1,_=>rfl
 |2,_=>rfl
 |3,_=>rfl
theorem ab5:∀b:Nat,b<256->bits .and .u8 (b:Int) 63=((b %64:Nat):Int):=by decide+kernel
theorem US(c:C4)(b:Nat)(hb:b<256)(w:World):Calls aD 153 #[oY c,.int .u8 (b:Int)] w (bY (ret (.bool (c.mem b))) w):=by
 refine enter (args:=[aQ #[v64 c.a,v64 c.b,v64 c.c,v64 c.d],.int .u8 (b:Int)]) (n:=14) Tryz.func153 I I I<|bW (bB (bP I I I λg=>?_));have h1:b/64<4:=by omega
 have hc:(#[v64 c.a,v64 c.b,v64 c.c,v64 c.d]:Array Value)[0+b/64]?=aj (.int .u64 ((c.get (b/64)).toNat:Int)):=by rw[cX];exact Ek c _ h1
 have hx:=(c.get (b/64)).isLt;have xt:∀w,(iM .shr .u8 (b:Int) .u64 6).run aD w= .ok (.int .u8 ((b/64:Nat):Int)) w:=λw=>Yh b 6 8 .u8 .u64 I akh w;have WC:∀w,(iM .shr .u64 ((c.get (b/64)).toNat:Int) .u8 ((b %64:Nat):Int)).run aD w= .ok (.int .u64 (((c.get (b/64)).toNat/2^(b %64):Nat):Int)) w:=λw=>Yh _ (b %64) 64 .u64 .u8 I J w;have hm:c.mem b=decide ((c.get (b/64)).toNat/2^(b %64) %2=1):=by simp[C4.mem,Nat.testBit_eq_decide_div_mod_eq]
 rw[hm];have hd:(c.get (b/64)).toNat/2^(b %64)<=(c.get (b/64)).toNat:=Nat.div_le_self _ _;have qA:=ab5 b hb;generalize (c.get (b/64)).toNat=x at*;generalize b %64=k at*;generalize b/64=i at*;generalize x/2^k=y at*;have ha:bits .and .u64 (y:Int) 1=((y %2:Nat):Int):=by
  grind[bits_and_u64_nat]
 repeat(first|refine GC ?_|refine gV (pB I I xt) ?_|refine gV (iz bM.eq aK.ty I I h1) ?_|refine gV (aB aK.ty I (aH (i:=0) I hc)) ?_|refine gV (nK I I qA) ?_|refine gV (pB I I WC) ?_|refine gV (nK I I ha) ?_|refine gV (cZ I I I) ?_|refine GB ?_)
 exact dH I I (by congr 1;rw[decide_eq_decide];omega)
end bZ
namespace bZ
open Go.RowKit cK dS de gd lH
abbrev At2:=Int×Int
structure MOk(s:List UInt8)(N:Nat->Re)(m:At2->Option Value)(n:Nat):Prop where
 val:∀(k f:Nat) v,k<100->f<=s.length->m ((k:Int),(f:Int))=aj v->∃c,v=oY c/\agV s (N k) f c
 WA:∃D:List Nat,D.Nodup/\D.length=n/\(∀x∈D,x<25600)/\∀(k f:Nat),k<100->f<256->((m ((k:Int),(f:Int))).isSome=aC↔k*256+f∈D)
theorem MOk.le{s:List UInt8}{N:Nat->Re}{m:At2->Option Value}{n:Nat}(h:MOk s N m n):n<=25600:=by
 obtain⟨D,h1,h2,h3,_⟩:=h.WA;rw[<-h2];exact cD.og h1 h3
theorem MOk.set{s:List UInt8}{N:Nat->Re}{m:At2->Option Value}{n:Nat}(h:MOk s N m n)(hs:s.length<=200){k f:Nat}(hk:k<100)(hf:f<=s.length){c:C4}(hc:agV s (N k) f c):
    MOk s N (λy=>if y=((k:Int),(f:Int))then aj (oY c)else m y) (if(m ((k:Int),(f:Int))).isSome then n else n+1):=by
  refine⟨λk' f' v lO GH hv=>?_,?_⟩
  · by_cases e:((k':Int),(f':Int))=((k:Int),(f:Int))
    · rw[if_pos e]at hv
      simp only[fX]at e;obtain rfl:k'=k:=by omega
      obtain rfl:f'=f:=by omega
      simp only[dh]at hv;exact⟨c,hv.symm,hc⟩
    rw[if_neg e]at hv;exact h.val k' f' v lO GH hv
  · obtain⟨D,h1,h2,h3,h4⟩:=h.WA
    by_cases e:(m ((k:Int),(f:Int))).isSome=aC
    · rw[if_pos e]
      refine⟨D,h1,h2,h3,λk' f' lO GH=>?_⟩
      by_cases e2:((k':Int),(f':Int))=((k:Int),(f:Int))
      · rw[if_pos e2]
        simp only[fX]at e2;obtain rfl:k'=k:=by omega
        obtain rfl:f'=f:=by omega
        simpa using(h4 k' f' lO GH).1 e
      rw[if_neg e2];exact h4 k' f' lO GH
    rw[if_neg e];have hn:k*256+f∉D:=λhd=>e ((h4 k f hk J).2 hd);refine⟨(k*256+f)::D,pw.2 ⟨hn,h1⟩,by rw[db,h2],λx hx=>?_,λk' f' lO GH=>?_⟩
    · rcases dC.1 hx with rfl|hx
      omega;exact h3 x hx
    by_cases e2:((k':Int),(f':Int))=((k:Int),(f:Int))
    · rw[if_pos e2]
      simp only[fX]at e2;obtain rfl:k'=k:=by omega
      obtain rfl:f'=f:=by omega
      simp
    rw[if_neg e2,h4 k' f' lO GH,dC];have:¬k'*256+f'=k*256+f:=λh=>e2 (by
      have a:k'=k:=by omega
      have b:f'=f:=by omega
      rw[a,b])
    simp[this]
end bZ
namespace bZ
open Go.RowKit cK dS
section
variable{P:Program}{k:TypeId}{κ:Type}(K:yt P k κ)
variable{n:Nat}{W:bL}{fr:Fr}{L:List b9}{dst:Option Tmp}{ty:TypeId}{pos:String}{after:Array Edge}{guard:Option (Nat×Bool)}{i g c:Nat}{t e:TypeId}{m:κ->Option Value}{x:κ}{z v:Value}{xm xk:Operand}
theorem kh(ht:P.underlying t=aj (.map k e))(hz:∀w,(zeroValue e).run P w= .ok z w)(hi:L[i]?=aj (fq K g m c))(hm:ev fr xm=aj (.map (aj g)))(hk:ev fr xk=aj (K.kv x))(hx:K.ok x)(hv:m x=aj v):RR P n W ⟨dst,.lookup t xm xk aC,ty,pos,after,guard⟩ fr L (.tuple #[v,.bool aC]):=by
 have:=pg K (n:=n) (W:=W) (dst:=dst) (ty:=ty) (pos:=pos) (after:=after) (guard:=guard) ht hz hi hm hk hx;rw[hv]at this;exact this
theorem ki(ht:P.underlying t=aj (.map k e))(hz:∀w,(zeroValue e).run P w= .ok z w)(hi:L[i]?=aj (fq K g m c))(hm:ev fr xm=aj (.map (aj g)))(hk:ev fr xk=aj (K.kv x))(hx:K.ok x)(hv:m x=ak):RR P n W ⟨dst,.lookup t xm xk aC,ty,pos,after,guard⟩ fr L (.tuple #[z,.bool aE]):=by
 have:=pg K (n:=n) (W:=W) (dst:=dst) (ty:=ty) (pos:=pos) (after:=after) (guard:=guard) ht hz hi hm hk hx;rw[hv]at this;exact this
end
end bZ
namespace bZ
open Go.RowKit cK dS de gd lH
structure StI(s:List UInt8)(a:Re)(f:Nat)(out now:C4):Prop where
 sound:∀j,j<256->out.mem j=aC->Rch (UE a s) f j
 sub:∀j,j<256->now.mem j=aC->out.mem j=aC
 cl:∀i,i<256->out.mem i=aC->now.mem i=aE->∀j,UE a s i j->out.mem j=aC
 st:out.mem f=aC
theorem StI.le{s:List UInt8}{a:Re}{f:Nat}{out now:C4}(h:StI s a f out now)(hf:f<=s.length)(j:Nat)(hj:j<256)(hn:now.mem j=aC):j<=s.length:=
 ((X0 hf).2 (h.sound j hj (h.sub j hj hn))).2.1
end bZ
namespace bZ
open Go.RowKit cK dS de gd lH
theorem PG(c:C4)(w:World):(df 119 #[(0,av az 3),(1,oY c)]).run aD w= .ok (re 3 c (ap ak 0 0)) w:=by kernel_rfl
theorem zz(b:Int)(w:World)(hb:cK.dU b):Calls aD 46 #[av az b] w (bY (ret (re 3 (fy b b) (ap ak 0 0))) w):=by
 have hr:=λw=>afd b b hb hb w;have PH:=PG (fy b b);generalize fy b b=c at*;refine enter (args:=[av az b]) (n:=7) Tryz.func46 I I I ?_;refine bW (bB (a8 I λg2=>?_));refine zL ?_
 try refine GA ?_
 refine aV (fB aI.en I I I) (λw hm=>hr _) I I I ?_;intro _ _;refine zL ?_
 repeat(first|refine GA ?_|refine gV (bD I PH) ?_)
 refine ij 0 (cs':=(mQ 3 c (ap ak 0 0)).toArray) ?_;refine zL ?_
 try refine GA ?_
 exact fZ (i:=0) I I I I λw hm=>hm.ret
end bZ
namespace bZ
open Go.RowKit cK dS de gd lH
section
end
def b8(l:List Nat):SJ:=l.map fY
end bZ
namespace gd
open de
section
variable{s:SJ}
theorem aeg{α:Type}{F:Nat->Option α}(hm:∀{f R},F f=aj R->F (f+1)=aj R){f f':Nat}{R:α}(h:F f=aj R)(hl:f<=f'):F f'=aj R:=by
 induction hl with
 |refl=>exact h
 |step _ ih=>exact hm ih
theorem both{α:Type}{F:Nat->Option α}(hm:∀{f R},F f=aj R->F (f+1)=aj R){f f':Nat}{R R':α}(h:F f=aj R)(h':F f'=aj R'):R=R':=by
 have h1:=aeg (F:=F) (λ{f R}=>hm) h (Nat.le_max_left f f');have h2:=aeg (F:=F) (λ{f R}=>hm) h' (Nat.le_max_right f f');rw[h1]at h2;exact ra h2
end
end gd
namespace bZ
open Go.RowKit cK dS
theorem ez.perm{p:Nat->Prop}{w:World}{L L':List b9}(h:ez p w L)(hp:L.Perm L'):ez p w L':=by
 have hpw:L.Pairwise (λo o'=>∀k,o.e_ k->¬o'.e_ k):=Xn.2 λi j hi hj sE=>h.apart i j _ _ J (bK hi) (bK hj);have ajL:=Xn.1 ((hp.pairwise_iff (λhxy k h1 h2=>hxy k h2 h1)).1 hpw);refine⟨λi o hi=>?_,λi j o o' sE hi hj k h1 h2=>?_⟩
 ·obtain⟨j,hj⟩:=uC (hp.symm.subset (mh hi))
  exact h.all j o hj
 grind
theorem Mem.perm{W:bL}{w:World}{L L':List b9}(h:Mem W L w)(hp:L.Perm L'):Mem W L' w:=⟨h.low,h.owns.perm hp⟩
theorem UT{l l':Fr}(hp:l.Perm l'):(l.map (·.1)).Nodup->∀(fr:Fr) (i:Nat),look (l++fr) i=look (l'++fr) i:=by
 induction hp with
 |nil=>simp
 | cons x _ ih=>
  intro hn fr i;rw[gv,pw]at hn;obtain⟨k,v⟩:=x;show(bif fW k i then aj v else _)=(bif fW k i then aj v else _)
  simp_all
 | swap x y l=>
  intro hn fr i;obtain⟨k,v⟩:=x;obtain⟨k2,v2⟩:=y;simp only[gv,pw,dC,not_or]at hn;show(bif fW k2 i then aj v2 else bif fW k i then aj v else _)=(bif fW k i then aj v else bif fW k2 i then aj v2 else _)
  cases e:fW k2 i
  rfl
  cases e2:fW k i
  rfl;have a:=mj e;have b:=mj e2;exact absurd (a.trans b.symm) hn.1.1
 | trans h1 _ ih1 ih2=>
  grind
theorem UU{α β:Type}(f:α->β){l l':List β}(h:l.Perm l'):∀dn:List α,dn.map f=l->∃dn':List α,dn'.Perm dn/\dn'.map f=l':=by
 induction h with
 |nil=>simp
 | cons x _ ih=>
  intro dn h
  match dn,h with
  |y::dn,h=>
   simp only[gv,gU]at h;obtain⟨d',h1,h2⟩:=ih dn h.2;exact⟨y::d',h1.cons y,by simp_all⟩
 | swap x y l=>
  intro dn h
  match dn,h with
  |a::b::dn,h=>
   simp only[gv,gU]at h;exact⟨b::a::dn,aeM _ _ _,by simp_all⟩
 |trans _ _ ih1 ih2=>
  intro dn h;obtain⟨d1,h1,h2⟩:=ih1 dn h;obtain⟨d2,h3,h4⟩:=ih2 d1 h2;exact⟨d2,h3.trans h1,h4⟩
def UW:List Nat->List (List Nat)
 |[]=>[[]]
 |a::r=>UW r++(UW r).map (a:: ·)
theorem B5(p:Nat->Bool):∀l,l.filter p∈UW l
 |[]=>by simp[UW]
 |a::r=>by
  have ih:=B5 p r;unfold UW;rw[List.filter_cons];split;exact List.mem_append_right _ (Je ih);exact uH _ ih
structure Mk where
 i:Nat
 d:Nat
 v:Nat->Value
 own:Nat->b9
def o8(dn:List (Mk×Nat)):Fr:=dn.map λx=>(x.1.d,x.1.v x.2)
def owm(dn:List (Mk×Nat)):List b9:=dn.map λx=>x.1.own x.2
def nv(listed:Array Bool)(D:List Nat):Array Bool:=D.foldl (λl i=>l.setIfInBounds i aC) listed
theorem HM(D:List Nat):∀(listed:Array Bool) (j:Nat),(nv listed D)[j]?=(listed[j]?).map λb=>b||D.contains j:=by
 induction D with
 |nil=>simp[nv]
 |cons a r ih=>
  intro listed j;show(nv (listed.setIfInBounds a aC) r)[j]?=_
  grind
theorem yy{listed:Array Bool}{D D':List Nat}(h:∀j,D.contains j=D'.contains j):nv listed D=nv listed D':=by
 apply WV;intro j;rw[HM,HM,h j]
def aeh(ops:Array Oper)(is:List Nat)(ends:List (List Nat))(listed:Array Bool):Bool:=(UW is).all λD=>ends.contains D||decide (jy .any ops (nv listed D)=is.filter λi=>!D.contains i)
theorem L8:∀(l l':List Nat),l.Nodup->(∀x∈l,x∈l')->l.length<=l'.length
 |[],_,_,_=>bH _
 |a::r,l',hn,hs=>by
  rw[pw]at hn;have ha:=hs a (by simp);have:=L8 r (l'.erase a) hn.2 λx hx=>(Pc (λ(e:x=a)=>hn.1 (by simp_all))).2 (hs x (by grind));rw[Jd ha]at this;have:=Pb ha;simp;omega
theorem Em:∀(l l':List Nat),l.Nodup->(∀x∈l,x∈l')->l'.length<=l.length->l.Perm l'
 |[],l',_,_,h=>by
  simp_all
 |a::r,l',hn,hs,h=>by
  rw[pw]at hn;have ha:=hs a (by simp);have hl:=Jd ha;have h2:=Pb ha;have:=Em r (l'.erase a) hn.2 (λx hx=>(Pc (λ(e:x=a)=>hn.1 (by simp_all))).2 (hs x (by grind))) (by simp_all);exact(this.cons a).trans (List.perm_cons_erase ha).symm
theorem aei:∀(ms:List Mk),(ms.map (·.i)).Nodup->∀m∈ms,∀m'∈ms,m.i=m'.i->m=m'
 |[],_,_,hm,_,_,_=>by grind
 |y::ms,h,m,hm,m',rX,e=>by
  rw[gv,pw]at h;rcases dC.1 hm with a1|a1<;>rcases dC.1 rX with a2|a2
  grind;exact absurd (by rw[<-a1,e];exact Je a2) h.1;exact absurd (by rw[<-a2,<-e];exact Je a1) h.1;exact aei ms h.2 m a1 m' a2 e
theorem L9:∀(dn:List (Mk×Nat)) (ms all:List Mk),(∀m∈all,∀m'∈all,m.i=m'.i->m=m')->(∀x∈dn,x.1∈all)->(∀x∈ms,x∈all)->dn.map (·.1.i)=ms.map (·.i)->dn.map (·.1)=ms
 |[],ms,_,_,_,_,h=>by
  simp_all
 |y::dn,[],_,_,_,_,h=>by grind
 |y::dn,m::ms,all,hi,h1,h2,h=>by
  simp only[gv,gU]at h;rw[gv,L9 dn ms all hi (λx hx=>h1 x (by grind)) (λx hx=>h2 x (by grind)) h.2,hi y.1 (h1 y (by simp)) m (h2 m (by simp)) h.1]
section
variable{P:Program}{n:Nat}{W:bL}{Q:Exit->Act->World->Prop}{fr:Fr}{L L0:List b9}{ops:Array Oper}
def HO(P:Program)(n:Nat)(W:bL)(ops:Array Oper)(fr:Fr)(m:Mk):Prop:=
 ∃o,ops[m.i]?=aj o/\∀(Q:Exit->Act->World->Prop) (GG:Fr) (L:List b9),(∀q v,look fr q=aj v->look GG q=aj v)->(∀g,TL P n W ops Q [] ((m.d,m.v g)::GG) (L++[m.own g]))->TL P n W ops Q [o] GG L
theorem HP:∀(l:Fr) {q:Nat} {v:Value},(∀x∈l,look fr x.1=ak)->look fr q=aj v->look (l++fr) q=aj v
 |[],_,_,_,h=>h
 |(k,u)::l,q,v,hl,h=>by
  show(bif fW k q then aj u else look (l++fr) q)=aj v
  cases e:fW k q
  exact HP l (λx hx=>hl x (by grind)) h;have:=mj e;subst this;have:=hl (k,u) (by simp);rw[this]at h
  cases h
theorem nH.perm{a:Act}{l l':Fr}(h:nH n a (l++fr))(hp:l.Perm l')(hn:(l.map (·.1)).Nodup):nH n a (l'++fr):=
 ⟨h.size,h.defers,λi v hl=>h.get i v (by grind[UT])⟩
theorem Yi:∀(dn:List (Mk×Nat)),(dn.map (·.1.i)).Nodup->∃g:Nat->Nat,∀x∈dn,g x.1.i=x.2
 |[],_=>⟨λ_=>0,λx hx=>by grind⟩
 | y::dn,h=>by
  rw[gv,pw]at h;obtain⟨g,hg⟩:=Yi dn h.2;refine⟨λi=>if i=y.1.i then y.2 else g i,λx hx=>?_⟩;rcases dC.1 hx with rfl|hx
  simp;have:¬x.1.i=y.1.i:=λe=>h.1 (by rw[<-e];exact Je hx);simp only[if_neg this];exact hg x hx
theorem PI(ms E:List Mk)(hn:(ms.map (·.i)).Nodup)(hEn:(E.map (·.i)).Nodup)(hEd:(E.map (·.d)).Nodup)(hE:∀m∈E,m∈ms)(dn:List (Mk×Nat))(h1:∀x∈dn,x.1∈ms)(hp:(dn.map (·.1.i)).Perm (E.map (·.i)))(a:Act)(hr:nH n a (o8 dn++fr)):
 ∃g:Nat->Nat,nH n a (E.map (λm=>(m.d,m.v (g m.i)))++fr)/\Mem W (L++owm dn)=Mem W (L++E.map λm=>m.own (g m.i)):=by
 obtain⟨d',p1,p2⟩:=UU (λx:Mk×Nat=>x.1.i) hp dn I;have e1:=L9 d' E ms (aei ms hn) (λx hx=>h1 x (p1.subset hx)) hE p2;obtain⟨g,hg⟩:=Yi d' (by simp_all);have e2:d'=E.map λm=>(m,g m.i):=by
  rw[<-e1,Pg]
  conv=>lhs;rw[<-List.map_id d']
  grind[List.map_congr_left]
 have PJ:((o8 dn).map (·.1)).Nodup:=by
  have:((o8 dn).map (·.1)).Perm (E.map (·.d)):=by
   have h5:=(p1.map λx:Mk×Nat=>x.1.d).symm;have e:d'.map (λx:Mk×Nat=>x.1.d)=E.map (·.d):=by simp_all
   rw[e]at h5;unfold o8;rw[Pg];exact h5
  grind
 have CG:=hr.perm (p1.map _).symm PJ;refine⟨g,?_,?_⟩
 ·have:d'.map (λx=>(x.1.d,x.1.v x.2))=E.map (λm=>(m.d,m.v (g m.i))):=by simp_all
  grind
 ·have e:E.map (λm=>m.own (g m.i))=owm d':=by rw[e2,owm,Pg];rfl
  rw[e];exact funext λw=>propext ⟨λh=>h.perm (((p1.map _).symm).append_left L),λh=>h.perm ((p1.map _).append_left L)⟩
theorem ab6(ms:List Mk)(ends:List (List Mk))(listed:Array Bool)(U:World->Prop)(S0:Nat)(hUL:∀l,∀w,Mem W (L++l) w->U w)
 (hn:(ms.map (·.i)).Nodup) (hd:(ms.map (·.d)).Nodup) (hB:aeh ops (ms.map (·.i)) (ends.map λE=>E.map (·.i)) listed=aC) (hm:∀m∈ms,HO P n W ops fr m) (hf:∀m∈ms,look fr m.d=ak)
 (aiL:∀E∈ms::ends,(∀m∈E,m∈ms)/\(E.map (·.i)).Nodup/\(E.map (·.d)).Nodup/\∀(k:Nat) (g:Nat->Nat) (a:Act),E.length+k=ms.length->nH n a (E.map (λm=>(m.d,m.v (g m.i)))++fr)->sY P .any ops Q U (k+S0) (nv listed (E.map (·.i))) a (Mem W (L++E.map λm=>m.own (g m.i)))):
 ∀(k:Nat) (dn:List (Mk×Nat)),(∀x∈dn,x.1∈ms)->(dn.map (·.1.i)).Nodup->dn.length+k=ms.length->∀a,nH n a (o8 dn++fr)->sY P .any ops Q U (k+S0) (nv listed (dn.map (·.1.i))) a (Mem W (L++owm dn)):=by
 have stop:∀E∈ms::ends,∀(k:Nat) (dn:List (Mk×Nat)),(∀x∈dn,x.1∈ms)->(dn.map (·.1.i)).Nodup->dn.length+k=ms.length->(dn.map (·.1.i)).Perm (E.map (·.i))->∀a,nH n a (o8 dn++fr)->sY P .any ops Q U (k+S0) (nv listed (dn.map (·.1.i))) a (Mem W (L++owm dn)):=by
  intro E hE k dn h1 h2 h3 hp a hr;obtain⟨q1,q2,q3,q4⟩:=aiL E hE;obtain⟨g,r1,r2⟩:=PI (W:=W) (L:=L) ms E hn q2 q3 q1 dn h1 hp a hr;have hlen:=hp.length_eq;simp only[dA]at hlen;rw[r2,yy (D':=E.map (·.i)) λj=>?_]
  simp_all;exact Bool.eq_iff_iff.2 (by simpa using hp.mem_iff)
 intro k
 induction k with
 | zero=>
  intro dn h1 h2 h3 a hr;exact stop ms (by simp) 0 dn h1 h2 h3 (Em (dn.map (·.1.i)) (ms.map (·.i)) h2 (λx hx=>by
   grind) (by grind)) a hr
 | succ k ih=>
  intro dn h1 h2 h3 a hr;have qQ:=λE hE hp=>stop E hE (k+1) dn h1 h2 h3 hp a hr;have lf:∀x∈dn.map (·.1.i),x∈ms.map (·.i):=λx hx=>by
   grind
  generalize hD:dn.map (·.1.i)=D at*
  have ajB:D.length=dn.length:=by grind
  have vd:∀j,D.contains j=((ms.map (·.i)).filter λi=>D.contains i).contains j:=λj=>by
   simp_all
  have hq:=uE.1 hB _ (B5 (λi=>D.contains i) (ms.map (·.i)))
  rw[Bool.or_eq_true]at hq;rcases hq with hq|hq
  grind
  have afe:jy .any ops (nv listed D)=(ms.map (·.i)).filter λi=>!D.contains i:=by
   have hq:=of_decide_eq_true hq;rw[yy vd,hq];exact List.filter_congr λi _=>by simp_all
  rw[show k+1+S0=(k+S0)+1 by omega];refine⟨λh0=>?_,λi hi w hw=>?_⟩
  ·exfalso
   have:(ms.map (·.i)).length<=D.length:=L8 _ _ hn λx hx=>by
    grind
   grind
  rw[afe,DP]at hi;obtain⟨hi1,WB⟩:=hi;obtain⟨m,hm1,rfl⟩:=eT.1 hi1;have hi3:m.i∉D:=by simp_all
  obtain⟨o,ho,L6⟩:=hm m hm1;refine kf ho ((L6 _ (o8 dn++fr) (L++owm dn) (λq v hq=>HP (o8 dn) (λx hx=>?_) hq) λg=>?_).go a w hr hw)
  ·obtain⟨y,hy,rfl⟩:=eT.1 hx
   grind
  refine jg ⟨λa' w' CG rX=>⟨Mem W (L++owm ((m,g)::dn)),iv _ _,hUL _,rX.perm ?_,?_⟩⟩
  ·rw[dZ]
   exact(List.perm_append_comm).append_left L
  have:=ih ((m,g)::dn) (λx hx=>by
   grind) (by simp_all) (by grind) a' CG
  rw[gv,hD]at this;have e:(nv listed D).setIfInBounds m.i aC=nv listed (m.i::D):=by
   have e0:(nv listed D).setIfInBounds m.i aC=nv listed (D++[m.i]):=by
    simp[nv]
   rw[e0];exact yy λj=>by
    grind
  simp_all
structure TX(P:Program)(n:Nat)(W:bL)(ops:Array Oper)(Q:Exit->Act->World->Prop)(L0:List b9)(listed:Array Bool)(f:Nat)(fr:Fr)(L:List b9):Prop where
 go:(∀w,Mem W L w->Mem W L0 w)->(∀c a d v w,Q (.panic c) (q8 a d v) w->Q (.panic c) a w)->AY ops=aC->∀a,nH n a fr->sY P .any ops Q (Mem W L0) f listed a (Mem W L)
theorem mem_left{L l:List b9}{w:World}(h:Mem W (L++l) w):Mem W L w:=by
 have hl:∀(i:Nat) (o:b9),L[i]?=aj o->(L++l)[i]?=aj o:=λi o h=>by
  grind
 exact⟨h.low,⟨λi o hi=>h.owns.all i o (hl i o hi),λi j o o' sE hi hj=>h.owns.apart i j o o' sE (hl i o hi) (hl j o' hj)⟩⟩
theorem Yj{id:Nat}{l:List Oper}(L0:List b9)(lf:∀w,Mem W L w->Mem W L0 w)(hm:P.follows .mixedOrders=aC)(mP:AY l.toArray=aC)
 (hQ:∀c a d v w,Q (.panic c) (q8 a d v) w->Q (.panic c) a w)
 (h:TX P n W l.toArray Q L0 (AQ l.toArray.size aE) l.toArray.size fr L):T P n W (.region id l.toArray aC) Q fr L:=⟨λa w hr sU=>by
 refine wp_region_any hm ?_;exact ym (U:=Mem W L0) l.toArray.size (AQ l.toArray.size aE) a (Mem W L) w.drew sU.drew (h.go lf hQ mP a hr)⟩
theorem Dc{listed:Array Bool}{f:Nat}(t:Ord)(ho:mv .any ops t listed=aC)(hf:f=t.size)(h:TW P n W ops Q L0 t fr L):TX P n W ops Q L0 listed f fr L:=
 ⟨λlf hQ mP a hr=>by subst hf;exact kg mP hQ t listed a (Mem W L) (iv W L) lf ho (h.go a hr)⟩
theorem rf{listed:Array Bool}{f d:Nat}{o:Oper}{v:Value}(i:Nat)(hi:((jy .any ops listed).contains i&&O8 .any ops listed i)=aC)(ho:ops[i]?=aj o)(hr:RR P n W o fr L0 v)(hg:o.guard=ak)(hd:o.dst=aj d)(hn:dj d n=aC)
 (h:TX P n W ops Q L0 (listed.setIfInBounds i aC) f ((d,v)::fr) L):TX P n W ops Q L0 listed (f+1) fr L:=⟨λlf hQ mP a h_=>by
 rw[eX]at hi;have hc:ka P ops (Mem W L0) o v a:= .inl ⟨oc hg,λw hw=>by unfold py;rw[hr.go a w h_ hw];exact⟨rfl,Gr.refl _⟩⟩;exact zt ho (O4 mP) (λc a w=>hQ c a o.dst v w) f listed a (Mem W L) (iv W L) lf (O5 ho hi.2) (by simp_all) hc
  (by rw[hd];exact h.go lf hQ mP _ (h_.put hn v))⟩
def Yk(ops:Array Oper)(ms:List Mk)(ends:List (List Nat))(listed:Array Bool)(fr:Fr):Bool:=
 decide (ms.map (·.i)).Nodup&&decide (ms.map (·.d)).Nodup&&aeh ops (ms.map (·.i)) ends listed&&ms.all λm=>(look fr m.d).isNone
theorem L_{listed:Array Bool}{f:Nat}(ms:List Mk)(p:Mk->Bool)(S0:Nat)(hf:f=ms.length+S0)(hB:Yk ops ms [ms.map (·.i),(ms.filter p).map (·.i)] listed fr=aC)(hm:∀m∈ms,HO P n W ops fr m)
 (h:∀g:Nat->Nat,TX P n W ops Q L0 (nv listed (ms.map (·.i))) S0 (ms.map (λm=>(m.d,m.v (g m.i)))++fr) (L++ms.map λm=>m.own (g m.i)))
 (h':∀g:Nat->Nat,TX P n W ops Q L0 (nv listed ((ms.filter p).map (·.i))) (ms.length-(ms.filter p).length+S0) ((ms.filter p).map (λm=>(m.d,m.v (g m.i)))++fr) (L++(ms.filter p).map λm=>m.own (g m.i))):TX P n W ops Q L0 listed f fr L:=⟨λlf hQ mP a hr=>by
 subst hf;simp only[Yk,eX,decide_eq_true_eq]at hB;obtain⟨⟨⟨b1,b2⟩,b3⟩,b4⟩:=hB;have:=ab6 (Q:=Q) (L:=L) ms [ms,ms.filter p] listed (Mem W L0) S0 (λl w hw=>lf w (mem_left hw)) b1 b2 b3 hm (λm hm=>by simp_all)
  (λE hE=>by
   have hE:E=ms\/E=ms.filter p:=by
    simp_all
   rcases hE with rfl|rfl
   ·exact⟨λ_ h=>h,b1,b2,λk g a hk hr=>by
     obtain rfl:k=0:=by omega
     rw[Nat.zero_add];exact(h g).go (λw hw=>lf w (mem_left hw)) hQ mP a hr⟩
   exact⟨λ_ h=>(List.mem_filter.1 h).1,b1.sublist (List.filter_sublist.map _),b2.sublist (List.filter_sublist.map _),λk g a hk hr=>by
    obtain rfl:k=ms.length-(ms.filter p).length:=by omega
    exact(h' g).go (λw hw=>lf w (mem_left hw)) hQ mP a hr⟩) ms.length [] (λx hx=>by grind) (by simp) (by simp) a hr
 simp_all[nv,owm]⟩
theorem zK{fr GG:Fr}(h:∀q v,look fr q=aj v->look GG q=aj v){x:Operand}{v:Value}(hx:ev fr x=aj v):ev GG x=aj v:=by
 cases x with
 |tmp t=>exact h _ _ hx
 |_=>exact hx
theorem oh{i d:Nat}{t e ty:TypeId}{pos:String}{after:Array Edge}{x y:Operand}{c bytes m cap:Nat}{k k':IntKind}{zs:Array Value}[rO P t e c bytes][eQ P e zs](ho:ops[i]?=aj ⟨aj d,.makeSlice t x y,ty,pos,after,ak⟩)(hx:ev fr x=aj (.int k (m:Int)))(hy:ev fr y=aj (.int k' (cap:Int)))(ON:m<=cap)(hb:bytes*cap<=281474976710656)(qA:cap<=9223372036854775807)(hn:dj d n=aC):
 HO P n W ops fr ⟨i,d,λg=>ap (aj ⟨g,0,ak⟩) m cap,λg=>aP g (madeCells zs (cap*c)) e⟩:=
 ⟨_,ho,λ_ _ _ hl h=>uW (zK hl hx) (zK hl hy) ON hb qA hn h⟩
theorem HQ{i d:Nat}{t ty:TypeId}{pos:String}{after:Array Edge}{cs:Array Value}[eQ P t cs](ho:ops[i]?=aj ⟨aj d,.alloc t,ty,pos,after,ak⟩)(hn:dj d n=aC):
 HO P n W ops fr ⟨i,d,λg=>aJ (aj ⟨g,0,ak⟩),λg=>aP g cs t⟩:=
 ⟨_,ho,λ_ _ _ _ h=>a8 hn h⟩
end
end bZ
namespace gd
open de
def SzR(p0:Nat)(x:Rx)(st:RS):Prop:=p0<=st.p/\(st.e=0->tV x+1<=200*(st.p-p0))/\(st.e≠0->tV x<=200*(st.p-p0)+1)
section
variable{s:SJ}
theorem SzR.le{p0:Nat}{x:Rx}{st:RS}(h:SzR p0 x st):tV x<=200*(st.p-p0)+1:=by
 by_cases e:st.e=0
 have:=h.2.1 e;omega;exact h.2.2 e
end
end gd
end Go.Proofs.YtdmgcnggnejnnaaGreat

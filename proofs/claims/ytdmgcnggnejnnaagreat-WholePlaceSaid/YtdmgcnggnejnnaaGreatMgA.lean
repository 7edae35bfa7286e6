/- Part 1 of what WholePlace needs: Kit, Law, Open, Mix, Eng, Step, Ops, Opm, Cls, Opx, MixV, MixW, Go3, Ty, OpenE, ClassL, ClassQ, ClassR, RexL, RexF, RexG, Read, Seq, ReadM, Room, Shp, Map, RexS, ClsEq, App, RexC, ClassB, ClsRg, KeyG, SmL, ClsHas, RexM, LookOk, RexE, RexPl, RexPr, MixX, RexSz, GramL. -/
import Derived.WalkKit
import Derived.WalkSpells
import Derived.WalkLawsBesides
import Derived.Deep.RegionLaw
import Derived.Deep.AppendLies
import Derived.Deep.QuietTactic
import Derived.BigQuiet
import Derived.Deep.DeepCutAuto
import Derived.Lib.Hide
import Derived.Test.YtdmgcnggnejnnaaGreatRows
import Derived.ProofKit
import Derived.OpenShut
import Derived.ShutString
import Derived.SizedLaws
import Derived.JoinedCond
import Derived.Deep.CondSized
import Derived.Deep.Quiet
import Derived.StillTail
import Derived.Deep.LoopGhost
import Derived.Laws.BitsLemmas
import Derived.Laws.BytesString
import Derived.Laws.StructEq
import Derived.Test.YtdmgcnggnejnnaaGreatProg
import Derived.Laws.Entries
import Derived.Laws.BitsAllLaws
import Derived.Lib.TrailingZeros
import Derived.Laws.MakeOwn
import Derived.Laws.AppendOwn
import Derived.Maps.OwnSet
import Derived.DeepKeys4
import Derived.WideKeyEntry
import Derived.ChangeKeysEq
import Derived.Laws.Bits64b
import Derived.Lib.Strings
import Derived.Lib.Slices
import Derived.Lib.Walk
import Derived.Lib.Bytealg
namespace Go.Proofs.YtdmgcnggnejnnaaGreat
set_option linter.unusedVariables false
set_option linter.unusedSimpArgs false
open _root_.And renaming intro->cK
open _root_.Array renaming getElem?_eq_some_iff->kq,getD_eq_getD_getElem?->xU,length_toList->pL,toArray_toList->xV,toList_setIfInBounds->Jt,replicate->AZ,toList_map->DX,range->DY,getElem?_append_left->XG,ext'->sO,setIfInBounds_comm->XH,ext_getElem?->XI
open _root_.BitVec renaming ofNat->iF,ofInt->xW,toNat_ofNat->DZ,eq_of_toNat_eq->XJ
open _root_.Bool renaming true->aB,false->aD,and_eq_true->ff,beq_eq_decide_eq->Ju,not_eq_true'->A0,eq_iff_iff->Pg
open _root_.ByteArray renaming mk->A1,size->D0,get!->afu,toList->afv
open _root_.ByteArray.toList renaming loop->Ph
open _root_.Classical renaming choose_spec->D4,byContradiction->XK,choose->Jv
open _root_.False renaming elim->A2
open _root_.Go.Act renaming put_comm->A3,put->sP,eval->Jw
open _root_.Go.Addr renaming add->rl
open _root_.Go.Addr.mk renaming injEq->D5
open _root_.Go.BigFrame renaming execOp_builtin->rm,builtin_append->D6,builtin_len->Pj,wpList_want->XL
open _root_.Go.Builtin renaming append_->Pk,firstCells->XM,lenOf->XN,len_->XO
open _root_.Go.Calls renaming mono->XP
open _root_.Go.ChangeSpec renaming plain->afw
open _root_.Go.Code renaming region->XQ
open _root_.Go.Conv renaming bytesToString->XR
open _root_.Go.DataW renaming weightsEach->xX,weights->xY,weightsAll->D7,TrodAll->Jx,trod->xZ,Trod->XS
open _root_.Go.Deferred renaming ofValue->uv
open _root_.Go.Exit renaming inBlock->uw
open _root_.Go.Instr renaming build->dm,buildSlice->ux,fill->lT,sureAddr->x6,sliceBounds->D8,sliceAt->D9,sliceBound->Jy,slice->uy,mapUpdate->A4,storeAt->Pl,fieldAt->XT,indexAt->XU,loadAt->XV,index->XW
open _root_.Go.IntKind renaming i64->av,bits->lU,signed->sQ,wrap_u64->sR,u64->uz,min->D_,max->Ea
open _root_.Go.Lib renaming hid->Eb
open _root_.Go.Maps renaming size->Pm,has->Pn
open _root_.Go.Maps.Keyed renaming of_law->afx
open _root_.Go.Next renaming value->XX
open _root_.Go.Op renaming shift->iP,equalIn->pM,intCmp->A5,intArith->Po,equal->Jz,stringOp->XY
open _root_.Go.Oper renaming wp->gY,upon_enter->Pp,upon->Pq,upon_value->XZ
open _root_.Go.Program renaming keyLits->uA
open _root_.Go.Proofs.Tryz renaming prog->aC
open _root_.Go.Region renaming ready->jg,wanted->kM,noSelect->A6,Mode->uB,binds->A7,noSelect_spec->Pr,free_spec->Ps,chainB->Pt,sinkB->Pu,free->Pv,seqB->Pw
open _root_.Go.Result renaming andThen_ok->oO,andThen->lV,ok->Px
open _root_.Go.Rows renaming mono->X0
open _root_.Go.Sem renaming run_bind->mj,run_pure->mT
open _root_.Go.Value renaming slice->ak,int->ap,pointer->aH,agg->aP,oneCell'->f_,bool->gd,ownBlock->JA,okWide->JB
open _root_.Go.Value.slice renaming injEq->kr
open _root_.Go.WideElems renaming Trod_stays->afy
open _root_.Go.World renaming block_lt_of_cell?->oP,cell?_setCell_other->X1,frozen?_setCell->X2,cell?_of_block->X3,ownsMap_made->X4
open _root_.Int renaming toNat_natCast->cX
open _root_.List renaming getElem?_eq_getElem->bm,getD_eq_getElem?_getD->bD,length_append->bK,getElem?_eq_some_iff->cU,getElem_mem->bV,length_cons->cO,drop_eq_getElem_cons->dJ,replicate->db,length_map->dw,mem_cons->df,append_assoc->dL,getElem?_append_left->fR,size_toArray->eN,append_nil->dQ,take_succ_eq_append_getElem->ir,mem_cons_self->fc,getElem?_map->eQ,drop_of_length_le->fS,flatMap_append->fH,take_of_length_le->ig,getElem?_eq_none->ii,not_mem_nil->fI,getElem?_append_right->kN,mem_map->eI,range->eu,getElem?_toArray->jh,map_cons->fw,getElem?_set_self->ml,getElem?_set_ne->mU,nil_append->fN,length_take->gZ,mem_append->gH,mem_of_getElem?->kO,flatMap_cons->jF,mem_iff_getElem->jG,drop_drop->iQ,take_succ_cons->mV,nodup_cons->oQ,take_append_drop->rp,set_eq_take_append_cons_drop->Ec,getElem?_cons_zero->sS,mem_range->nL,eq_nil_of_length_eq_zero->Ed,cons_append->kt,ext_getElem?->mq,all_eq_true->oR,any_eq_true->oT,mem_append_left->uC,mem_map_of_mem->A8,filterMap->uD,getElem?_concat_length->A9,getElem?_of_mem->x7,filterMap_append->sT,mem_filter->pN,length_erase_of_mem->JC,take_zero->sU,map_nil->mu,findIdx?_eq_some_iff_getElem->Py,filterMap_cons_some->A_,set_cons_zero->x8,setIfInBounds_toArray->Ee,set_cons_succ->A',pairwise_iff_getElem->Ef,zipIdx_cons->JD,flatten_cons->Ba,length_pos_of_mem->Pz,map_map->Eg,mem_erase_of_ne->PA,map_toArray->PB,nodup_range->PC,nodup_append->Eh,take_left'->PD,drop_left'->PE,findIdx?_eq_none_iff->X5,getElem_append_right->X6,getElem_append_left->X7,getElem?_cons_succ->X8,getElem_cons_succ->X9,contains_iff_mem->X_,getElem?_append->X',set_append_left->Ya,getElem_ofFn->Yb,idxOf_append->Yc,mapM_cons->Yd,take_set->Ye,ofFn->Yf
open _root_.List.Pairwise renaming imp_of_mem->afz
open _root_.List.Perm renaming swap->afA
open _root_.List.cons renaming injEq->fg
open _root_.Nat renaming le_refl->aT,zero_le->bC,zero_add->cI,eq_of_beq_eq_true->kP,le_trans->eC,lt_of_lt_of_le->jt,blt->dB,le_of_ble_eq_true->mW,add_assoc->jH,add_mul->lW,beq->fO,mul_le_mul_right->ru,add_zero->ji,succ_mul->nM,mul_one->kQ,min_eq_left->Bb,ne_of_beq_eq_false->JE,one_mul->uE,lt_or_ge->x9,add_comm->x_,mod_eq_of_lt->PF,ble->ya,zero_mul->Bc,div_lt_iff_lt_mul->Yg,mod_lt->Be,eq_zero_or_pos->Yh
open _root_.Ne renaming symm->yb
open _root_.Option renaming some->ah,none->aj
open _root_.Option.some renaming injEq->dg,inj->nO
open _root_.Prod renaming ext->nP
open _root_.Prod.mk renaming injEq->iu
open _root_.UInt8 renaming ofNat->fT
set_option maxHeartbeats 16000000
theorem I{α:Sort _}{a:α}:a=a:=rfl
theorem J{p:Prop}(h:p:=by omega):p:=h
theorem akV{p:Prop}(h:p:=by decide):p:=h
namespace cT
open Go.RowKit
section
end
theorem Yi{B:Nat}{w0 w w':World}(h:Below B w0 w)(hB:B<=w.heap.size)(hg:Below w.heap.size w w'):Below B w0 w':=h.trans (hg.mono hB)
def Yj(b:UInt8):Value:= .int .u8 b.toNat
def Rd(w:World)(g off:Nat)(xs:List Value):Prop:=∀j u,xs[j]?=ah u->w.cell? ⟨g,off+j,aj⟩=ah u
def Wr(w:World)(g off:Nat)(xs:List Value):Prop:=∀j u,xs[j]?=ah u->w.cell? ⟨g,off+j,aj⟩=ah u/\w.frozen? ⟨g,off+j,aj⟩=aD
theorem Wr.rd{w:World}{g off:Nat}{xs:List Value}(h:Wr w g off xs):Rd w g off xs:=fun j u hj=>(h j u hj).1
theorem Rd.gr{w w':World}{g off:Nat}{xs:List Value}(h:Rd w g off xs)(hg:Below w.heap.size w w'):Rd w' g off xs:=fun j u hj=>by
 have h1:=h j u hj;rw[hg.cell (oP w _ h1)];exact h1
theorem Wr.gr{w w':World}{g off:Nat}{xs:List Value}(h:Wr w g off xs)(hg:Below w.heap.size w w'):Wr w' g off xs:=fun j u hj=>by
 have h1:=h j u hj;rw[hg.cell (oP w _ h1.1),hg.frozen (oP w _ h1.1)];exact h1
theorem Rd.at{w:World}{g off:Nat}{xs:List Value}(h:Rd w g off xs)(j:Nat)(hj:j<xs.length):w.cell? ⟨g,off+j,aj⟩=ah xs[j]:=h j _ (bm hj)
theorem Wr.at{w:World}{g off:Nat}{xs:List Value}(h:Wr w g off xs)(j:Nat)(hj:j<xs.length):w.cell? ⟨g,off+j,aj⟩=ah xs[j]/\w.frozen? ⟨g,off+j,aj⟩=false:=h j _ (bm hj)
theorem Wr.set{w:World}{g off:Nat}{xs:List Value}(h:Wr w g off xs)(j:Nat)(hj:j<xs.length)(u:Value):Wr (w.setCell ⟨g,off+j,aj⟩ u) g off (xs.set j u):=fun i v hi=>by
 have hlen:i<xs.length:=by simpa using(cU.1 hi).1
 refine⟨?_,by rw[X2];exact(h.at i hlen).2⟩
 by_cases e:i=j
 ·subst e
  rw[ml hj]at hi;rw[World.cell?_setCell_same _ _ _ (h.at i hj).1];exact hi
 rw[mU (yb e)]at hi;have hne:(⟨g,off+j,aj⟩:Addr)≠⟨g,off+i,aj⟩:=fun he=>e (by have:=congrArg Addr.off he;simp at this;omega);rw[X1 _ _ _ _ hne];exact(h i v hi).1
theorem Wr.grown{w w':World}{g off:Nat}{xs:List Value}{row:Option Nat}(h:Wr w g off xs)(hg:w.grownBy w' row)(hne:row≠ah g):Wr w' g off xs:=fun j u hj=>by
 have h1:=h j u hj;have hb:=oP w _ h1.1;have e:=hg.block g hb (fun h=>hne h.symm);rw[X3 (w:=w) (a:=⟨g,off+j,aj⟩) e,World.frozen?_of_block (w:=w) (a:=⟨g,off+j,aj⟩) e];exact h1
theorem Wr.far{w:World}{g off:Nat}{xs:List Value}(h:Wr w g off xs){a:Addr}(ha:a.block≠g)(u:Value):Wr (w.setCell a u) g off xs:=fun j v hj=>by
 have h1:=h j v hj;rw[X2,X1 _ _ _ _ (fun e=>ha (by rw[e]))];exact h1
theorem aeT(z:Value)(n:Nat):(madeCells #[z] n).toList=db n z:=by
 apply mq;intro i
 by_cases h:i<n
 simp[madeCells,h,Nat.mod_one];simp[madeCells,h]
theorem acJ(W:World)(o:Obj)(n:Nat)(h:W.heap.size=n):(W.alloc o).heap[n]?=ah o:=h▸heap_alloc_new W o
theorem Wr.append{w w':World}{g off:Nat}{xs:List Value}(h:Wr w g off xs){base:Nat}{e:TypeId}{size:Nat}{v:Value}{n:Nat}{ys:List Value}(xj:w.ownsRow base e size v n ys)(hg:w.grownBy w' v.ownBlock)(hb:g<base):Wr w' g off xs:=
 h.grown hg fun e=>by have:=(xj.lt g e).1;omega
theorem Wr.nil(w:World)(g off:Nat):Wr w g off []:=fun j u h=>by simp at h
theorem afB{w:World}{base:Nat}{e:TypeId}{size:Nat}{g n cap:Nat}{xs:List Value}(h:w.ownsRow base e size (ak (ah ⟨g,0,aj⟩) n cap) n xs):Wr w g 0 xs:=fun j u hj=>by
 have hl:j<n*size:=by rw[<-h.1];exact(cU.1 hj).1
 rw[cI];exact⟨(h.cellAt j hl).trans hj,h.frozenAt j⟩
theorem Ma{P:Program}{src dst e:TypeId}(hs:P.underlying src=ah (.slice e))(he:P.underlying e=ah (.int .u8))(hd:P.underlying dst=ah .string){w:World}{g off n cap:Nat}{l:List UInt8}
 (hn:n=l.length) (h:Rd w g off (l.map Yj)):(convert src dst (ak (ah ⟨g,off,aj⟩) n cap)).run P w= .ok (.string ⟨l.toArray⟩) w:=by
 subst hn;refine run_convert_bytes_back w src dst e ⟨g,off,aj⟩ cap l hs he hd fun j hj=>?_;have:=h.at j (by simpa using hj);rw[show(⟨g,off,aj⟩:Addr).add j=⟨g,off+j,aj⟩by unfold rl;split<;>simp_all];rw[this];simp[Yj]
end cT
namespace law
open Go.ChangeShapes Go.WideShapes Go.ChangeAt Go.RowKit
theorem own:ownKnob aC.godebug=none:=by kernel_rfl
theorem laidOut:laidOutB aC=true:=by kernel_rfl
structure ahn{H:Type}(enc:TypeId×Value->H)(fn:Func)(W:World)(base:Nat)(args:Array Value)(ds:List (DataW H))(p:List MemPlace):Prop where
 val:∀(j:Nat) t v,fn.params[j]?=ah t->args[j]?=ah v->JB aC W .any base t v
 trod:Jx enc aC W 0 (fun _=>aB) aB fn.params.toList args.toList ds p
 sized:(xX aC fn.params.toList ds).all (· <=reachBytes)=aB
 free:W.noneFrozen p
noncomputable def aeU(fn:Func):Bool:=fn.params.toList.all fun t=>aC.readableRec t&&decide (t<aC.types.size)
section
variable{H:Type}{enc:TypeId×Value->H}
theorem xB{P:Program}(hl:laidOutB P=aB){W W':World}{sp':Nat->Bool}:∀{ts:List TypeId} {vs:List Value} {ds:List (DataW H)} {ps:List MemPlace},(ts.all fun t=>P.readableRec t&&decide (t<P.types.size))=aB->
 Jx enc P W 0 (fun _=>aB) aB ts vs ds ps->(∀p∈ps,W.sameAt W' p)->(∀p∈ps,sp' p.block=aB)->Jx enc P W' 0 sp' aB ts vs ds ps
 |[],[],[],_,_,h,_,_=>h
 | t ::ts,v::vs,d::ds,_,hb,⟨p,q,h1,h2,e⟩,h3,h4=>by
  simp only[List.all_cons,ff,decide_eq_true_eq]at hb;subst e;exact⟨p,q,afy hl hb.1.1 hb.1.2 h1 (fun x hx=>h3 x (by simp[hx])) (fun x hx=>h4 x (by simp[hx])),
   xB hl hb.2 h2 (fun x hx=>h3 x (by simp[hx])) (fun x hx=>h4 x (by simp[hx])),rfl⟩
 |[],_::_,_,_,_,h,_,_=>h.elim
 |[],[],_::_,_,_,h,_,_=>h.elim
 |_::_,[],_,_,_,h,_,_=>h.elim
 |_::_,_::_,[],_,_,h,_,_=>h.elim
theorem uF{P:Program}{W:World}{sp:Nat->Bool}:∀{ts:List TypeId} {vs:List Value} {ds:List (DataW H)} {ps:List MemPlace},Jx enc P W 0 sp aB ts vs ds ps->ds.length=ts.length
 |[],[],[],_,_=>rfl
 |_::ts,_::vs,_::ds,_,⟨_,_,_,h2,_⟩=>by simp[uF h2]
 |[],_::_,_,_,h=>h.elim
 |[],[],_::_,_,h=>h.elim
 |_::_,[],_,_,h=>h.elim
 |_::_,_::_,[],_,h=>h.elim
def Mb(fn:Func)(s:ChangeSpec):Prop:=s.vars=[]/\∀(H:Type) (ds:List (DataW H)),ds.length=fn.params.size->s.fn H ds={results:=[.lit (.bool aB)],args:=ds}
theorem acK{fn:Func}{s:ChangeSpec}{W W':World}{args:Array Value}{ds gs:List (DataW H)}{before:List MemPlace}(hs:Mb fn s)(Ei:aeU fn=aB)(nQ:fn.resultTypes=#[4])
 (hW:DataW.Whole enc aC fn.params.toList s.vars aD W args.toList ds gs before) (hb:Below W.heap.size W W'):
 s.post enc aC fn aD aB aD aD W args (.bool aB) W':=by
 obtain⟨hv,hfn⟩:=hs;have hW':=hW;obtain⟨p,q,hA,hV,rfl,hfz,PG⟩:=hW;rw[hv]at hV;obtain⟨rfl,rfl⟩:=trodVars_none hV;have hlen:ds.length=fn.params.size:=by rw[uF hA];simp
 have hlt:∀x∈p,x.block<W.heap.size:=fun x hx=>hW'.lt x (by simp[hx]);have he:s.fn H (ds++[])={results:=[.lit (.bool aB)],args:=ds}:=by rw[dQ];exact hfn H ds hlen
 refine⟨ds,[],p++[],[],p,[],hW',?_,?_,?_,hb.frame _,fun h=>by cases h⟩
 ·rw[he,nQ]
  exact trodAll_mk1 (shut_bool Tryz.underlying4 aB)
 ·rw[he]
  exact xB laidOut Ei hA (fun x hx=>hb.same (hlt x hx)) (fun x hx=>by simpa using hlt x hx)
 ·rw[he,hv]
  rfl
end
set_option maxRecDepth 100000 in
theorem said{os:Os}{f:FuncId}{fn:Func}{s:ChangeSpec}(started:os.Started)(afC:aC.inits.idxOf? f=aj)(hf:aC.funcs[f]?=ah fn)(hs:Mb fn s)(Ei:aeU fn=aB)(nQ:fn.resultTypes=#[4])
  {H:Type} {enc:TypeId×Value->H}
  (witness:∃(w:World) (tape:Tape) (i:Input),w.os=os/\(w.forCall tape i).Shaped Tryz.checked.prog/\i.vars=[]/\Input.okWide Tryz.checked.prog (w.forCall tape i) .any w.heap.size f i/\
   s.pre6 enc Tryz.checked.prog fn [] aD (w.forCall tape i).memory i.args/\({}:Assume).holds Tryz.checked.prog (lone (Frame.enter Tryz.checked.prog f i.args .normal) [] (w.forCall tape i)))
  (walk:∀(W:World) (base:Nat) (args:Array Value) (ds:List (DataW H)) (p:List MemPlace),ahn enc fn W base args ds p->Calls aC f args W fun e W'=>e= .returned (.bool aB)/\Below W.heap.size W W'):
  ReturnsInHanded {} Tryz.checked os f .any (s.pre6 enc aC fn [] aD) (s.post enc aC fn aD aB aD aD):=by
 refine returnsInHanded_of_change_sized (C:=Tryz.checked) own started afC hf witness ?_;intro W base args ds gs before hval hW _ hsz _;have hW':=hW;obtain⟨p,q,hA,hV,rfl,hfz,PG⟩:=hW;rw[hs.1]at hV;obtain⟨rfl,rfl⟩:=trodVars_none hV;have ajl:(xX aC fn.params.toList ds).all (· <=reachBytes)=true:=by
  have e:s.plain.varTypes aC=[]:=by simp[afw,DataSpec.varTypes,hs.1]
  have:=hsz;rw[show s.plain.varTypes Tryz.checked.prog=[]from e]at this;rw[dQ,dQ]at this;exact this
 refine(walk W base args ds p ⟨hval,hA,ajl,fun b off h=>hfz b off (by simp[h])⟩).mono fun e W' ⟨he,hb⟩=>?_;exact⟨_,he,acK hs Ei nQ hW' hb⟩
end law
namespace cT
open Go.ChangeShapes Go.WideShapes Go.ChangeAt Go.RowKit
def Sl(w:World)(v:Value)(n:Nat)(xs:List Value):Prop:=
 ∃base cap,v=ak base n cap/\n<=cap/\cap<=maxLen/\(0<n->∃b off,base=ah ⟨b,off,aj⟩/\Rd w b off xs)
theorem Sl.gr{w w':World}{v:Value}{n:Nat}{xs:List Value}(h:Sl w v n xs)(hg:Below w.heap.size w w'):Sl w' v n xs:=
 let ⟨base,cap,h1,h2,h3,h4⟩:=h
 ⟨base,cap,h1,h2,h3,fun hn=>let ⟨b,off,h5,h6⟩:=h4 hn;⟨b,off,h5,h6.gr hg⟩⟩
theorem Sl.dy{w:World}{base:Nat}{e:TypeId}{size:Nat}{v:Value}{n:Nat}{xs:List Value}(h:w.ownsRow base e size v n xs):Sl w v n xs:=by
 rcases h.2 with⟨rfl,rfl⟩|⟨g,cap,oU,rfl,hb,hg,hn,hm,r⟩
 exact⟨aj,0,rfl,aT _,by decide,fun h=>by omega⟩;exact⟨_,cap,rfl,hn,hm,fun _=>⟨g,0,rfl,(afB h).rd⟩⟩
theorem mapM_some{α β:Type}{f:α->Option β}:∀{l:List α} {r:List β},l.mapM f=ah r->r.length=l.length/\∀(i:Nat) (a:α),l[i]?=ah a->∃b,f a=ah b/\r[i]?=ah b
 | [],r,h=>by
  simp at h;subst h;exact⟨rfl,fun i a h=>by simp at h⟩
 | x ::l,r,h=>by
  rw[Yd]at h
  cases hx:f x with
  |none=>rw[hx]at h;simp at h
  | some y=>
   rw[hx]at h
   cases hr:l.mapM f with
   |none=>rw[hr]at h;simp at h
   | some r'=>
    rw[hr]at h;simp at h;subst h;obtain⟨h1,h2⟩:=mapM_some hr;refine⟨by simp[h1],fun i a hi=>?_⟩
    cases i with
    |zero=>simp at hi;subst hi;exact⟨y,hx,rfl⟩
    |succ i=>simp at hi;simpa using h2 i a hi
theorem kR{w:World}{a:Addr}{n:Nat}{cs:List Value}(h:w.cells? 0 a n=ah cs):cs.length=n/\∀j,j<n->w.cell? (a.add j)=cs[j]?:=by
 unfold World.cells? at h;rw[if_pos (bC _)]at h;obtain⟨h1,h2⟩:=mapM_some h;rw[List.length_range]at h1;refine⟨h1,fun j hj=>?_⟩;obtain⟨b,hb,hc⟩:=h2 j j (by simp[hj]);rw[hb,hc]
theorem g_(b off j:Nat):(⟨b,off,aj⟩:Addr).add j=⟨b,off+j,aj⟩:=by unfold rl;split<;>simp_all
theorem HO{w:World}{a:Addr}{v:Value}(h:w.cell? a=ah v):a.spot=none:=by
 unfold World.cell? at h;split at h
 ·cases hs:a.spot with
  |none=>rfl
  |some n=>rw[hs]at h;simp at h
 cases h
theorem B_{α:Type}{enc:α->List Value}{c:Nat}(hlen:∀a,(enc a).length=c):∀(l:List α) (i j:Nat) (a:α),l[i]?=ah a->j<c->(l.flatMap enc)[i*c+j]?=(enc a)[j]?
 |[],i,j,a,h,_=>by simp at h
 |x::l,0,j,a,h,hj=>by
  simp at h;subst h;rw[jF,fR (by rw[hlen];omega)];simp
 |x::l,i+1,j,a,h,hj=>by
  have ih:=B_ hlen l i j a (by simpa using h) hj;rw[jF,kN (by rw[hlen,lW];omega),hlen,show(i+1)*c+j-c=i*c+j by rw[lW];omega];exact ih
theorem Mc{α:Type}{enc:α->List Value}{c:Nat}(hlen:∀a,(enc a).length=c)(l:List α):(l.flatMap enc).length=l.length*c:=by
 induction l with
 |nil=>simp
 |cons x l ih=>rw[jF,bK,hlen,ih,cO,lW];omega
section
variable{H:Type}{enc0:TypeId×Value->H}{P:Program}{W:World}
theorem Dk{α:Type}{p:Nat->α->Prop}:∀(n:Nat),(∀i,i<n->∃a,p i a)->∃l:List α,l.length=n/\∀(i:Nat) (a:α),l[i]?=ah a->p i a
 |0,_=>⟨[],rfl,fun i a h=>by simp at h⟩
 | n+1,h=>by
  obtain⟨l,hl,hp⟩:=Dk n fun i hi=>h i J;obtain⟨a,ha⟩:=h n J;refine⟨l++[a],by simp[hl],fun i b hb=>?_⟩
  by_cases hi:i<n
  rw[fR J]at hb;exact hp i b hb;have hlt:=(cU.1 hb).1;simp at hlt;obtain rfl:i=n:=by omega
  rw[kN J]at hb;rw[hl]at hb;simp at hb;subst hb;exact ha
end
def HP(b:Bool):List Value:=[.bool b]
def eX(n:Int):List Value:=[ap av n]
theorem aeV{α:Type}{f:α->Value}(l:List α):l.flatMap (fun a=>[f a])=l.map f:=by
 induction l with
 |nil=>rfl
 |cons x l ih=>simp[jF,ih]
def dM(n:Int):Prop:= -9223372036854775808<=n/\n<=9223372036854775807
end cT
namespace ey
open Go.RowKit
abbrev Gr(w w':World):Prop:=Below w.heap.size w w'
theorem Gr.refl(w:World):Gr w w:=Below.refl _ _
theorem Gr.trans{a b c:World}(h:Gr a b)(k:Gr b c):Gr a c:=Below.trans h (k.mono h.size)
theorem Gr.drew(w:World):Gr w w.drew:=(Below.refl _ _).drew
def Up(w w':World):Prop:=Gr w w'
def ju(S:World->Prop):Prop:=∀w w',S w->Gr w w'->S w'
theorem UT(w:World):ju (Up w):=fun _ _ h k=>Gr.trans h k
section
variable{P:Program}{ops:Array Oper}{md:uB}{Q:Exit->Act->World->Prop}
def Ej(P:Program)(w:World)(v:Value):Result Next->Prop
 | .ok (.value u) w'=>u=v/\Gr w w'
 | .ok .skip w'=>v=undef/\Gr w w'
 | .ok (.enter f args) w'=>Gr w w'/\Calls P f args w' (fun e L2=>e= .returned v/\Gr w' L2)
 |_=>False
def pO(P:Program)(o:Oper)(a:Act)(w:World)(v:Value):Prop:=Ej P w v ((execOp a.eval o).run P w)
def jI(P:Program)(ops:Array Oper)(S:World->Prop)(o:Oper)(v:Value)(a:Act):Prop:=
 (kM o (yielded ops a.tmps)=aB/\∀w,S w->pO P o a w v)\/(kM o (yielded ops a.tmps)=aD/\v=undef)
theorem jI.mono{S S':World->Prop}{o:Oper}{v:Value}{a:Act}(hs:∀w,S' w->S w)(h:jI P ops S o v a):jI P ops S' o v a:=
 h.imp (fun⟨h1,h2⟩=>⟨h1,fun w hw=>h2 w (hs w hw)⟩) id
theorem jI.of_same{S:World->Prop}{o:Oper}{v:Value}{a a':Act}(hy:jI P ops S o v a)(he:execOp a'.eval o=execOp a.eval o)
 (hw:kM o (yielded ops a'.tmps)=kM o (yielded ops a.tmps)):jI P ops S o v a':=by
 unfold jI pO at*;rw[he,hw];exact hy
theorem jI.wpOp{S:World->Prop}{i:Nat}{o:Oper}{v:Value}{a:Act}(hi:ops[i]?=ah o)(hy:jI P ops S o v a)(jZ:ju S)
 {K:Act->World->Prop} {w:World} (hS:S w) (h:∀w',S w'->K (a.put o.dst v) w'):wpOp P ops Q i K a w:=by
 unfold Go.wpOp;simp only[hi];rcases hy with⟨hw,hv⟩|⟨hw,rfl⟩
 ·simp only[hw,if_true]
  refine .inl ?_;have h1:=hv w hS;unfold pO at h1;unfold gY;generalize (execOp a.eval o).run P w=r at*
  cases r with
  | ok n w'=>
   cases n<;>simp only[Ej]at h1<;>simp only[Pq]
   case value u=>rw[h1.1];exact h _ (jZ _ _ hS h1.2)
   case skip=>rw[<-h1.1];exact h _ (jZ _ _ hS h1.2)
   case enter f args=>
    refine h1.2.mono fun e L2 ⟨he,hg⟩=>?_;subst he;exact h _ (jZ _ _ (jZ _ _ hS h1.1) hg)
  |halt x w'=>simp only[Ej]at h1
 ·simp only[hw,Bool.false_eq_true,if_false];exact h _ hS
theorem HQ{S:World->Prop}{j:Nat}{oi oj:Oper}{v:Value}(hj:ops[j]?=ah oj)(hap:oi.apart ops oj=aB)
 (hsi:∀cs b,oi.op≠ .select cs b) (hsj:∀cs b,oj.op≠ .select cs b)
 (hQ:∀c a w,Q (.panic c) (a.put oi.dst v) w->Q (.panic c) a w) {K:Act->World->Prop} {a:Act} {w:World}
 (hy:jI P ops S oi v a) (h:wpOp P ops Q j K (a.put oi.dst v) w):
 wpOp P ops Q j (fun a' w'=>jI P ops S oi v a'/\K (a'.put oi.dst v) w') a w:=by
 obtain⟨h1,h2,h3⟩:=Oper.apart_spec hap;have keep:∀(a:Act),jI P ops S oi v a->∀u,jI P ops S oi v (a.put oj.dst u):=fun a hy u=>
  hy.of_same (execOp_put oi hsi a oj.dst u h3) (wanted_put oi a oj.dst u h3)
 have aho:∀d,jI P ops S oi v {a with defers:=d::a.defers}:=fun d=>hy.of_same I I;unfold wpOp at*;simp only[hj]at*;rw[wanted_put oj a oi.dst v h1]at h;split
 ·rename_i hw
  simp only[hw,if_true]at h;rcases h with h|⟨aeW,ahp⟩
  case inr=>exact .inr ⟨by unfold Oper.asks at*;rw[execOp_put oj hsj a oi.dst v h1]at aeW;exact aeW,ahp⟩
  refine .inl ?_;unfold gY at*;rw[execOp_put oj hsj a oi.dst v h1]at h;generalize (execOp a.eval oj).run P w=r at*
  cases r with
  | ok n w'=>
   cases n<;>simp only[Pq]at h⊢
   case value u=>exact⟨keep a hy u,by rw[<-A3 a v u h2];exact h⟩
   case skip=>exact⟨keep a hy _,by rw[<-A3 a v undef h2];exact h⟩
   case defer d=>
    refine⟨keep _ (aho d) _,?_⟩;rw[<-A3 _ v undef h2,<-Act.put_defers];exact h
   case enter f args=>
    refine XP h fun e L2 he=>?_
    cases e with
    |returned u=>exact⟨keep a hy u,by rw[<-A3 a v u h2];exact he⟩
    |panicked c=>exact hQ _ _ _ he
    |outgrown=>exact he
   case row row args=>exact X0 h fun u L2 he=>⟨keep a hy u,by rw[<-A3 a v u h2];exact he⟩
  | halt x w'=>
   cases x<;>simp only[Pq]at h⊢
   case panic u=>exact hQ _ _ _ h
 ·rename_i hw
  simp only[hw]at h;exact⟨keep a hy _,by rw[<-A3 a v undef h2];exact h⟩
def Bf(P:Program)(md:uB)(ops:Array Oper)(Q:Exit->Act->World->Prop)(n:Nat)(L:Array Bool->Act->World->Prop):Nat->Array Bool->Act->(World->Prop)->Prop
 |0,listed,a,S=>∀w,S w->L listed a w
 | f+1,listed,a,S=>jg md ops listed≠[]/\
  ∀i∈jg md ops listed,i<n/\∀w,S w->wpOp P ops Q i (fun a' w'=>∃S',ju S'/\(∀x,S' x->S x)/\S' w'/\Bf P md ops Q n L f (listed.setIfInBounds i aB) a' S') a w
theorem Ek{n g:Nat}{L:Array Bool->Act->World->Prop}(hL:∀listed a w,L listed a w->wpAny P md ops Q g listed a w):
 ∀(f:Nat) (listed:Array Bool) (a:Act) (S:World->Prop) (w:World),S w->Bf P md ops Q n L f listed a S->wpAny P md ops Q (f+g) listed a w
 |0,listed,a,S,w,hw,h=>by rw[cI];exact hL _ _ _ (h w hw)
 |f+1,listed,a,S,w,hw,h=>by
  rw[show f+1+g=(f+g)+1 by omega];exact⟨fun h0=>absurd h0 h.1,fun i hi=>wpOp_mono (fun a' w' ⟨S',_,_,um,h'⟩=>Ek hL f _ a' S' w' um h') ((h.2 i hi).2 w hw)⟩
theorem JF{n i:Nat}{oi:Oper}{v:Value}{L:Array Bool->Act->World->Prop}(hi:ops[i]?=ah oi)(mP:∀(j:Nat) (o:Oper) cs b,ops[j]?=ah o->o.op≠ .select cs b)
 (hs:Pu md ops n=aB) (hc:Pt md ops n=aB) (hn:n<ops.size) (JG:i<n)
 (hQ:∀c a w,Q (.panic c) (a.put oi.dst v) w->Q (.panic c) a w)
 (hdone:∀listed a w,L listed a w->∀j∈jg md ops listed,n<=j):
 ∀ (f:Nat) (listed:Array Bool) (a:Act) (S:World->Prop),ju S->HeadInv md ops n listed->
  (∀j oj,ops[j]?=ah oj->j≠i->listed.getD j aB=aD->(∀e∈oj.after,A7 md e=aB->e.on≠i)->oi.apart ops oj=aB)->
  i∈jg md ops listed->jI P ops S oi v a->
  Bf P md ops Q n L f (listed.setIfInBounds i aB) (a.put oi.dst v) S->Bf P md ops Q n L (f+1) listed a S:=by
 intro f
 induction f with
 | zero=>
  intro listed a S jZ inv _ hr hy H;have Xr:=(mem_ready.1 hr).1;refine⟨fun h=>(by rw[h]at hr;cases hr),fun j hj=>?_⟩;have hjn:j<n:=by
   rcases x9 j n with h|h
   exact h;exact absurd hj (tail_waits hs hc hn inv _ i I JG Xr j h)
  refine⟨hjn,fun w hw=>?_⟩
  by_cases JH:j=i
  subst JH;exact hy.wpOp hi jZ hw fun w' um=>⟨S,jZ,fun _ h=>h,um,H⟩;have:=hdone _ _ _ (H w hw) j (ready_mono hj JH);omega
 | succ f ih=>
  intro listed a S jZ inv HR hr hy H;have Xr:=(mem_ready.1 hr).1;refine⟨fun h=>(by rw[h]at hr;cases hr),fun j hj=>?_⟩;have hjn:j<n:=by
   rcases x9 j n with h|h
   exact h;exact absurd hj (tail_waits hs hc hn inv _ i I JG Xr j h)
  refine⟨hjn,fun w hw=>?_⟩
  by_cases JH:j=i
  subst JH;exact hy.wpOp hi jZ hw fun w' um=>⟨S,jZ,fun _ h=>h,um,H⟩;have h1:=(H.2 j (ready_mono hj JH)).2 w hw;obtain⟨Yk,oj,SP,rv⟩:=mem_ready.1 hj;have UU:∀e∈oj.after,A7 md e=aB->e.on≠i:=fun e he hb Pa=>by
   have h1:=rv e he hb;rw[Pa,getD_both Xr]at h1
   cases h1
  have h2:=HQ SP (HR j oj SP JH Yk UU) (fun cs b=>mP i oi cs b hi) (fun cs b=>mP j oj cs b SP) hQ hy h1;have PH:∀k ok,ops[k]?=ah ok->k≠i->(listed.setIfInBounds j aB).getD k aB=aD->
   (∀e∈ok.after,A7 md e=aB->e.on≠i)->oi.apart ops ok=true:=fun k ok hk hki Xr hno=>by
   refine HR k ok hk hki ?_ hno
   by_cases hjk:j=k
   ·subst hjk;exact Yk
   ·rw[getD_set_ne aB hjk]at Xr;exact Xr
  refine wpOp_mono (fun a' w' h3=>?_) h2;obtain⟨h3,S',ns,kS,um,h4⟩:=h3;refine⟨S',ns,kS,um,ih (listed.setIfInBounds j aB) a' S' ns (inv.set hj hjn) PH (ready_mono hr (yb JH)) (h3.mono kS) ?_⟩;rw[XH _ _ JH];exact h4
def Xs(P:Program)(ops:Array Oper)(Q:Exit->Act->World->Prop)(L:Act->World->Prop):List Bool->List Oper->Act->(World->Prop)->Prop
 |true::ks,o::rest,a,S=>∃v,(if kM o (yielded ops a.tmps)then ∀w,S w->pO P o a w v else v=undef)/\Xs P ops Q L ks rest (a.put o.dst v) S
 | false::ks,o::rest,a,S=>∀w,S w->if kM o (yielded ops a.tmps)then
  o.wp P a w (fun a' w'=>∃S',ju S'/\(∀x,S' x->S x)/\S' w'/\Xs P ops Q L ks rest a' S') Q
  else Xs P ops Q L ks rest (a.put o.dst undef) S
 |_,_,a,S=>∀w,S w->L a w
def yc(md:uB)(ops:Array Oper)(g:Nat):List Bool->Nat->Array Bool->Bool
 |true::ks,k,listed=>(jg md ops listed).contains k&&Pv md ops listed k&&yc md ops g ks (k+1) (listed.setIfInBounds k aB)
 |false::ks,k,listed=>decide (jg md ops listed=[k])&&yc md ops g ks (k+1) (listed.setIfInBounds k aB)
 |[],k,listed=>Pw md ops g k listed
def afD(md:uB)(ops:Array Oper)(ks:List Bool):Bool:=
 A6 ops&&decide (ks.length<ops.size)&&Pu md ops ks.length&&Pt md ops ks.length&&yc md ops (ops.size-ks.length) ks 0 (AZ ops.size aD)
theorem yd{n g:Nat}{Lq:Act->World->Prop}(mP:A6 ops=aB)(hs:Pu md ops n=aB)(hc:Pt md ops n=aB)(hn:n<ops.size)
 (hQ:∀c a d v w,Q (.panic c) (a.put d v) w->Q (.panic c) a w):
 ∀(ks:List Bool) (l:List Oper) (k:Nat) (listed:Array Bool) (a:Act) (S:World->Prop),ju S->l.length=ks.length->(∀j,j<l.length->l[j]?=ops[k+j]?)->k+l.length=n->HeadInv md ops n listed->
 yc md ops g ks k listed=aB->Xs P ops Q Lq ks l a S->
 Bf P md ops Q n (fun Dl a' w'=>Pw md ops g n Dl=aB/\Lq a' w') ks.length listed a S
 |[],[],k,listed,a,S,_,_,_,hk,_,hB,h=>by
  have:k=n:=by simpa using hk
  subst this;exact fun w hw=>⟨by simpa[yc]using hB,h w hw⟩
 |[],_::_,_,_,_,_,_,hlen,_,_,_,_,_=>by simp at hlen
 |_::_,[],_,_,_,_,_,hlen,_,_,_,_,_=>by simp at hlen
 | true::ks,o::l,k,listed,a,S,jZ,hlen,hl,hk,inv,hB,h=>by
  have h0:ops[k]?=ah o:=by simpa using(hl 0 (by simp)).symm
  simp only[yc,ff]at hB;obtain⟨⟨hr,hf⟩,hB'⟩:=hB;have hkn:k<n:=by simp only[cO]at hk;omega
  have Ca:k∈jg md ops listed:=by simpa using hr
  obtain⟨v,hy,hK⟩:=h;have hy':jI P ops S o v a:=by
   by_cases hw:kM o (yielded ops a.tmps)=aB
   rw[if_pos hw]at hy;exact .inl ⟨hw,hy⟩;rw[if_neg hw]at hy;exact .inr ⟨by simpa using hw,hy⟩
  exact JF h0 (Pr mP) hs hc hn hkn (fun c a w=>hQ c a o.dst v w) (fun Dl a' w' hL=>seqB_ready hL.1) ks.length listed a S jZ inv (Ps h0 hf) Ca hy'
   (yd mP hs hc hn hQ ks l (k+1) _ _ S jZ (by simpa using hlen) (fun j hj=>by have:=hl (j+1) (by simp;omega);simpa[jH,x_ 1 j]using this) (by simp only[cO]at hk;omega) (inv.set Ca hkn) hB' hK)
 | false::ks,o::l,k,listed,a,S,jZ,hlen,hl,hk,inv,hB,h=>by
  have h0:ops[k]?=ah o:=by simpa using(hl 0 (by simp)).symm
  simp only[yc,ff,decide_eq_true_eq]at hB;obtain⟨hr,hB'⟩:=hB;have hkn:k<n:=by simp only[cO]at hk;omega
  have Ca:k∈jg md ops listed:=by simp[hr]
  have next:∀a' S',ju S'->Xs P ops Q Lq ks l a' S'->Bf P md ops Q n (fun Dl a' w'=>Pw md ops g n Dl=aB/\Lq a' w') ks.length (listed.setIfInBounds k aB) a' S':=fun a' S' ns hK=>
   yd mP hs hc hn hQ ks l (k+1) _ _ S' ns (by simpa using hlen) (fun j hj=>by have:=hl (j+1) (by simp;omega);simpa[jH,x_ 1 j]using this) (by simp only[cO]at hk;omega) (inv.set Ca hkn) hB' hK
  refine⟨by rw[hr];simp,fun i hi=>?_⟩;obtain rfl:i=k:=by rw[hr]at hi;simpa using hi
  refine⟨hkn,fun w hw=>?_⟩;have h1:=h w hw;unfold wpOp;simp only[h0];split
  ·rename_i hwt
   rw[if_pos hwt]at h1;exact .inl (Oper.wp_mono (fun a' w' ⟨S',ns,kS,um,hK⟩=>⟨S',ns,kS,um,next _ _ ns hK⟩) h1)
  rename_i hwt
  rw[if_neg hwt]at h1;exact⟨S,jZ,fun _ h=>h,hw,next _ _ jZ h1⟩
theorem Hg{id:Nat}{a:Act}{w:World}{l:List Oper}(ks:List Bool)(hm:P.follows .mixedOrders=aB)(hB:afD .any l.toArray ks=aB)
 (hQ:∀c a d v w,Q (.panic c) (a.put d v) w->Q (.panic c) a w) (S:World->Prop) (jZ:ju S) (hS:S w.drew)
 (h:Xs P l.toArray Q (fun a' w'=>wpList P l.toArray Q (l.drop ks.length) a' w') ks (l.take ks.length) a S):(XQ id l.toArray aB).wp P Q a w:=by
 simp only[afD,ff,decide_eq_true_eq]at hB;obtain⟨⟨⟨⟨mP,hn⟩,hs⟩,hc⟩,PI⟩:=hB;have hn':ks.length<l.length:=by simpa using hn
 have htl:(l.take ks.length).length=ks.length:=by simp;omega
 have Xt:(l.drop ks.length).length=l.toArray.size-ks.length:=by simp
 have afE:HeadInv .any l.toArray ks.length (AZ l.toArray.size aD):=
  ⟨by simp,fun j oj _ hl=>(by rw[getD_replicate_false]at hl;cases hl),fun t _ ht=>getD_in (by simpa using ht) (getD_replicate_false _ _)⟩
 have H:=yd (md:= .any) (g:=l.toArray.size-ks.length) mP hs hc hn hQ ks (l.take ks.length) 0 _ a S jZ htl (fun j hj=>by
  have qL:j<ks.length:=by rw[htl]at hj;exact hj
  simp[qL]) (by simpa using htl) afE PI h
 refine wp_region_any hm ?_;have:=Ek (Q:=Q) (g:=l.toArray.size-ks.length) (fun listed a' w' hL=>by
  have:=wpAny_of_seq (md:= .any) (Q':=Q) (l.drop ks.length) ks.length listed a' w' (fun j=>by simp[List.getElem?_drop]) (by rw[Xt];exact hL.1) hL.2
  rwa [Xt]at this) _ _ _ S w.drew hS H
 rw[show ks.length+(l.toArray.size-ks.length)=l.toArray.size by omega]at this;exact this
theorem ey{id:Nat}{a:Act}{w:World}{l:List Oper}(n:Nat)(ks:List Bool)(hn:ks.length=n)(hm:P.follows .mixedOrders=aB)(hB:afD .any l.toArray ks=aB)
 (hQ:∀c a d v w,Q (.panic c) (a.put d v) w->Q (.panic c) a w) (S:World->Prop) (jZ:ju S) (hS:S w.drew)
 (h:Xs P l.toArray Q (fun a' w'=>wpList P l.toArray Q (l.drop n) a' w') ks (l.take n) a S):(XQ id l.toArray aB).wp P Q a w:=by
 subst hn;exact Hg ks hm hB hQ S jZ hS h
section
variable{L:Act->World->Prop}{ks:List Bool}{o:Oper}{rest:List Oper}{a:Act}{S:World->Prop}
theorem acL{u:Value}(hw:kM o (yielded ops a.tmps)=aB)(h:∀w,S w->(execOp a.eval o).run P w= .ok (.value u) w)(hk:Xs P ops Q L ks rest (a.put o.dst u) S):
 Xs P ops Q L (true::ks) (o::rest) a S:=
 ⟨u,by rw[if_pos hw];intro w hS;unfold pO;rw[h w hS];exact⟨rfl,Gr.refl _⟩,hk⟩
theorem Yl(hw:kM o (yielded ops a.tmps)=aD)(hk:Xs P ops Q L ks rest (a.put o.dst undef) S):
 Xs P ops Q L (true::ks) (o::rest) a S:=
 ⟨undef,by rw[if_neg (by rw[hw];exact Bool.false_ne_true)],hk⟩
theorem acM{l:List Oper}(h:∀w,S w->L a w):Xs P ops Q L [] l a S:=h
end
end
end ey
namespace cg
open Go.RowKit cT ey
abbrev Fr:=List (Nat×Value)
def look:Fr->Nat->Option Value
 |[],_=>aj
 |(k,v)::r,i=>bif fO k i then ah v else look r i
structure nt(n:Nat)(a:Act)(fr:Fr):Prop where
 size:a.tmps.size=n
 defers:a.defers=[]
 get:∀i v,look fr i=ah v->a.tmps[i]?=ah v
theorem nt.put{n:Nat}{a:Act}{fr:Fr}(h:nt n a fr){d:Nat}(hd:dB d n=aB)(v:Value):nt n (a.put (ah d) v) ((d,v)::fr):=by
 have hd':d<n:=mW hd;refine⟨by simp[sP,h.size],h.defers,fun i u hi=>?_⟩;unfold look at hi;simp only[sP]
 cases e:fO d i
 ·rw[e]at hi
  rw[Array.getElem?_setIfInBounds_ne (JE e)];exact h.get i u hi
 rw[e]at hi;obtain rfl:d=i:=kP e;simp only[cond_true,dg]at hi;subst hi;rw[Array.getElem?_setIfInBounds_self_of_lt (by rw[h.size];exact hd')]
theorem nt.rU{n:Nat}{a:Act}{fr:Fr}(h:nt n a fr)(v:Value):nt n (a.put aj v) fr:=h
def Me:Fr->Fr->Prop
 |[],_=>True
 |(i,v)::r,fr=>look fr i=ah v/\Me r fr
theorem Ym{Hb fr:Fr}(h:Me Hb fr){i:Nat}{v:Value}(hl:look Hb i=ah v):look fr i=ah v:=by
 induction Hb with
 |nil=>cases hl
 |cons x r ih=>
  obtain⟨k,u⟩:=x;unfold look at hl
  cases e:fO k i
  rw[e]at hl;exact ih h.2 hl;rw[e]at hl;obtain rfl:k=i:=kP e;simp only[cond_true,dg]at hl;subst hl;exact h.1
theorem nt.sub{n:Nat}{a:Act}{fr Hb:Fr}(h:nt n a fr)(hs:Me Hb fr):nt n a Hb:=⟨h.size,h.defers,fun i v hl=>h.get i v (Ym hs hl)⟩
def ev(fr:Fr):Operand->Option Value
 | .tmp t=>look fr t
 | .const v=>ah v
 | .global g=>ah (aH (ah ⟨g,0,aj⟩))
 | .func f=>ah (.func (.func f) #[] #[])
theorem nt.ev{n:Nat}{a:Act}{fr:Fr}(h:nt n a fr){x:Operand}{v:Value}(hx:ev fr x=ah v):a.eval x=v:=by
 cases x with
 |tmp t=>simp[Jw,xU,h.get t v hx]
 |const u=>simpa[cg.ev,Jw]using hx
 |global g=>simpa[cg.ev,Jw]using hx
 |func f=>simpa[cg.ev,Jw]using hx
theorem nt.yield{n:Nat}{a:Act}{fr:Fr}(h:nt n a fr){ops:Array Oper}{j d:Nat}{v:Value}(hj:(ops[j]?).bind (·.dst)=ah d)(hl:look fr d=ah v):
 yielded ops a.tmps j=match v with| .bool b=>ah b|_=>none:=by
 unfold yielded;rw[hj];simp only[Option.bind_some,h.get d v hl]
 cases v<;>rfl
structure b9 where
 CX:Option Nat
 more:Nat->Prop
 holds:World->Prop
 lt:∀w,holds w->∀k,(CX=ah k\/more k)->k<w.heap.size
 stay:∀w w',holds w->w.heap.size<=w'.heap.size->(∀k,(CX=ah k\/more k)->w'.heap[k]?=w.heap[k]?)->holds w'
def b9.fu(o:b9)(k:Nat):Prop:=o.CX=ah k\/o.more k
def aO(g:Nat)(cs:Array Value)(T:TypeId):b9:=
 ⟨ah g,fun _=>False,fun w=>w.heap[g]?=ah (.cells cs T (0,0)),fun w h k hk=>by simp only[dg,or_false]at hk;subst hk;exact(kq.1 h).1,
  fun w w' h _ hb=>by rw[hb g (.inl I)];exact h⟩
def bx(e:TypeId)(size:Nat)(v:Value)(n:Nat)(xs:List Value):b9:=
 ⟨v.ownBlock,fun _=>False,fun w=>w.ownsRow 0 e size v n xs,fun w h k hk=>(h.lt k (hk.elim id A2)).2,fun w w' h _ hb=>by
  refine⟨h.1,?_⟩;rcases h.2 with hn|⟨g,cap,oU,rfl,xl,hg,rest⟩
  exact .inl hn;exact .inr ⟨g,cap,oU,rfl,xl,by rw[hb g (.inl I)];exact hg,rest⟩⟩
structure fl(p:Nat->Prop)(w:World)(L:List b9):Prop where
 all:∀(i:Nat) (o:b9),L[i]?=ah o->o.holds w/\∀k,o.fu k->p k
 apart:∀(i j:Nat) (o o':b9),i≠j->L[i]?=ah o->L[j]?=ah o'->∀k,o.fu k->¬o'.fu k
abbrev rW(B:Nat)(w:World)(L:List b9):Prop:=fl (fun k=>B<=k) w L
section
variable{p p':Nat->Prop}
theorem rW.nil(B:Nat)(w:World):rW B w []:=⟨fun i o h=>by simp at h,fun i j o o' _ h=>by simp at h⟩
theorem fl.nil(w:World):fl p w []:=⟨fun i o h=>by simp at h,fun i j o o' _ h=>by simp at h⟩
theorem fl.gr{w w':World}{L:List b9}(h:fl p w L)(hg:Gr w w'):fl p w' L:=
 ⟨fun i o hi=>⟨o.stay w w' (h.all i o hi).1 hg.size fun k hk=>hg.block k (o.lt w (h.all i o hi).1 k hk),(h.all i o hi).2⟩,h.apart⟩
theorem fl.mono{w:World}{L:List b9}(h:fl p w L)(hb:∀k,p k->p' k):fl p' w L:=
 ⟨fun i o hi=>⟨(h.all i o hi).1,fun k hk=>hb k ((h.all i o hi).2 k hk)⟩,h.apart⟩
theorem fl.one{w:World}{o:b9}(h:o.holds w)(hb:∀k,o.fu k->p k):fl p w [o]:=
  ⟨fun i o' hi=>by
    match i,hi with
    |0,hi=>simp only[sS,dg]at hi;subst hi;exact⟨h,hb⟩
    |i+1,hi=>simp at hi,
   fun i j a b uf hi hj=>by
    match i,j,hi,hj with
    |0,0,_,_=>exact absurd I uf
    |i+1,_,hi,_=>simp at hi
    |0,j+1,_,hj=>simp at hj⟩
theorem rW.one{B:Nat}{w:World}{o:b9}(h:o.holds w)(hb:∀k,o.CX=ah k->B<=k)(hmo:∀k,o.more k->B<=k:=by intro k hk;exact False.elim hk):rW B w [o]:=fl.one h fun k hk=>hk.elim (hb k) (hmo k)
theorem fl.both{w:World}{L L':List b9}(h:fl p w L)(h':fl p w L')(ha:∀(i j:Nat) (o o':b9),L[i]?=ah o->L'[j]?=ah o'->∀k,o.fu k->¬o'.fu k):fl p w (L++L'):=by
 refine⟨fun i o hi=>?_,fun i j o o' uf hi hj=>?_⟩
 ·rw[X']at hi
  split at hi;exact h.all i o hi;exact h'.all _ o hi
 intro k hk nu;rw[X']at hi hj;split at hi<;>split at hj;exact h.apart i j o o' uf hi hj k hk nu;exact ha _ _ o o' hi hj k hk nu;exact ha _ _ o' o hj hi k nu hk;exact h'.apart (i-L.length) (j-L.length) o o' J hi hj k hk nu
theorem fl.pick{w:World}{L L':List b9}(h:fl p w L)(is:List Nat)(hn:is.Nodup)(hl:L'=is.filterMap fun i=>L[i]?):fl p w L':=by
 subst hl
 induction is with
 |nil=>exact fl.nil _
 | cons i is ih=>
  rw[oQ]at hn;have ih:=ih hn.2;have mem:∀j o,(is.filterMap fun i=>L[i]?)[j]?=ah o->∃q∈is,L[q]?=ah o:=fun j o hj=>by
   have:=kO hj;rw[List.mem_filterMap]at this;exact this
  cases e:L[i]? with
  |none=>rw[List.filterMap_cons_none e];exact ih
  | some o0=>
   rw[A_ e];refine⟨fun j o hj=>?_,fun j j' o o' uf hj qL=>?_⟩
   ·match j,hj with
    |0,hj=>simp only[sS,dg]at hj;subst hj;exact h.all i _ e
    |j+1,hj=>exact ih.all j o (by simpa using hj)
   match j,j',hj,qL with
   |0,0,_,_=>exact absurd I uf
   | 0,j'+1,hj,qL=>
    simp only[sS,dg]at hj;subst hj;obtain⟨q,hq,zq⟩:=mem j' o' (by simpa using qL);exact h.apart i q _ o' (fun e=>hn.1 (e▸hq)) e zq
   | j+1,0,hj,qL=>
    simp only[sS,dg]at qL;subst qL;obtain⟨q,hq,zq⟩:=mem j o (by simpa using hj);exact h.apart q i o _ (fun e=>hn.1 (e▸hq)) zq e
   |j+1,j'+1,hj,qL=>exact ih.apart j j' o o' J (by simpa using hj) (by simpa using qL)
end
structure b_ where
 w:World
 X:Nat->Prop
instance:Coe World b_:=⟨fun w=>⟨w,fun _=>False⟩⟩
def b_.on(w:World)(L:List b9):b_:=⟨w,fun k=>∃o∈L,o.fu k⟩
def b_.may(W:b_)(k:Nat):Prop:=W.w.heap.size<=k\/W.X k
structure JI(W:b_)(w:World):Prop where
 os:w.os=W.w.os
 tape:w.tape=W.w.tape
 output:w.output=W.w.output
 size:W.w.heap.size<=w.heap.size
 block:∀k,k<W.w.heap.size->¬W.X k->w.heap[k]?=W.w.heap[k]?
structure Mem(W:b_)(L:List b9)(w:World):Prop where
 low:JI W w
 owns:fl W.may w L
theorem Mem.start(W:World):Mem W [] W:=⟨⟨rfl,rfl,rfl,aT _,fun _ _ _=>rfl⟩,fl.nil _⟩
theorem JI.gr{W:b_}{w w':World}(h:JI W w)(hg:Gr w w'):JI W w':=
 ⟨hg.os.trans h.os,hg.tape.trans h.tape,hg.output.trans h.output,eC h.size hg.size,fun k hk hx=>(hg.block k (jt hk h.size)).trans (h.block k hk hx)⟩
theorem Mem.below{W w:World}{L:List b9}(h:Mem W L w):Below W.heap.size W w:=⟨h.low.os,h.low.tape,h.low.output,h.low.size,fun k hk=>h.low.block k hk id⟩
theorem Mem.aeX{W w:World}{L:List b9}(h:Mem W L w):rW W.heap.size w L:=h.owns.mono fun _ hk=>hk.elim id A2
section
variable{W:b_}
theorem Mem.gr{w w':World}{L:List b9}(h:Mem W L w)(hg:Gr w w'):Mem W L w':=⟨h.low.gr hg,h.owns.gr hg⟩
theorem Mem.drew{w:World}{L:List b9}(h:Mem W L w):Mem W L w.drew:=h.gr (Gr.drew w)
theorem eO(W:b_)(L:List b9):ju (Mem W L):=fun _ _ h k=>h.gr k
theorem Mem.pick{w:World}{L L':List b9}(h:Mem W L w)(is:List Nat)(hn:is.Nodup)(hl:L'=is.filterMap fun i=>L[i]?):Mem W L' w:=⟨h.low,h.owns.pick is hn hl⟩
theorem Mem.append{w w':World}{L L':List b9}(h:Mem W L w)(hg:Gr w w')(h':rW w.heap.size w' L'):Mem W (L++L') w':=by
 have hsz:W.w.heap.size<=w.heap.size:=h.low.size;refine⟨h.low.gr hg,fl.both (h.owns.gr hg) (h'.mono fun k hk=> .inl (eC hsz hk)) fun i j o o' hi hj k hk nu=>?_⟩;have a1:=o.lt w (h.owns.all i o hi).1 k hk;have a2:w.heap.size<=k:=(h'.all _ o' hj).2 k nu;omega
theorem Mem.CY{w w':World}{L:List b9}(h:Mem W L w){i:Nat}{o o':b9}(hi:L[i]?=ah o)(hg:w.grownBy w' o.CX)(ho:o'.holds w')(hb:∀k,o'.CX=ah k->o.CX=ah k\/w.heap.size<=k)(hmo:∀k,o'.more k->o.fu k:=by intro k hk;exact False.elim hk):Mem W (L.set i o') w':=by
 have hle:W.w.heap.size<=w.heap.size:=h.low.size;have hoB:=(h.owns.all i o hi).2;have hlen:i<L.length:=(cU.1 hi).1;have JJ:∀k,o'.fu k->o.fu k\/w.heap.size<=k:=fun k hk=>hk.elim (fun h=>(hb k h).imp .inl id) (fun h=> .inl (hmo k h));refine⟨⟨hg.os.trans h.low.os,hg.tape.trans h.low.tape,hg.output.trans h.low.output,eC hle hg.size,fun k hk hx=>?_⟩,?_,?_⟩
 ·rw[hg.block k (jt hk hle) fun e=>(hoB k (.inl e.symm)).elim (fun h=>by omega) hx]
  exact h.low.block k hk hx
 ·intro j q hj
  by_cases e:i=j
  ·subst e
   rw[ml hlen]at hj;simp only[dg]at hj;subst hj;exact⟨ho,fun k hk=>(JJ k hk).elim (hoB k) (fun h=> .inl (eC hle h))⟩
  rw[mU e]at hj;have h1:=h.owns.all j q hj;refine⟨q.stay w w' h1.1 hg.size fun k hk=>hg.block k (q.lt w h1.1 k hk) fun e'=>?_,h1.2⟩;exact h.owns.apart i j o q e hi hj k (.inl e'.symm) hk
 intro j j' q q' uf hj qL k hk nu
 by_cases e:i=j
 ·subst e
  rw[ml hlen]at hj;rw[mU uf]at qL;simp only[dg]at hj;subst hj;have h2:=(h.owns.all j' q' qL).1;rcases JJ k hk with h1|h1
  exact h.owns.apart i j' o q' uf hi qL k h1 nu;have:=q'.lt w h2 k nu;omega
 rw[mU e]at hj;have h2:=(h.owns.all j q hj).1
 by_cases e':i=j'
 ·subst e'
  rw[ml hlen]at qL;simp only[dg]at qL;subst qL;rcases JJ k nu with h1|h1
  exact h.owns.apart i j o q e hi hj k h1 hk;have:=q.lt w h2 k hk;omega
 rw[mU e']at qL;exact h.owns.apart j j' q q' uf hj qL k hk nu
theorem Mem.merge{w:World}{R:List b9}{o1 o2:b9}(o:b9)(h:Mem W ([o1,o2]++R) w)(hf:∀k,o.fu k->o1.fu k\/o2.fu k)(hh:o1.holds w->o2.holds w->o.holds w):Mem W (R++[o]) w:=by
 have h1:=h.owns.all 0 o1 I;have h2:=h.owns.all 1 o2 I;refine⟨h.low,fl.both ⟨fun i q hi=>h.owns.all (i+2) q (by simpa using hi),fun i j q q' uf hi hj=>h.owns.apart (i+2) (j+2) q q' J (by simpa using hi) (by simpa using hj)⟩ (fl.one (hh h1.1 h2.1) fun k hk=>(hf k hk).elim (h1.2 k) (h2.2 k)) ?_⟩;intro i j q q' hi hj k hk nu
 match j,hj with
 |0,hj=>
  simp only[sS,dg]at hj;subst hj;have pP:([o1,o2]++R)[i+2]?=ah q:=by simpa using hi
  rcases hf k nu with h3|h3
  exact h.owns.apart 0 (i+2) o1 q J I pP k h3 hk;exact h.owns.apart 1 (i+2) o2 q J I pP k h3 hk
 |j+1,hj=>simp at hj
theorem Mem.get{w:World}{L:List b9}(h:Mem W L w){i:Nat}{o:b9}(hi:L[i]?=ah o):o.holds w:=(h.owns.all i o hi).1
theorem Mem.over{w:World}{L:List b9}(h:Mem W L w):Mem (b_.on w L) L w:=
 ⟨⟨rfl,rfl,rfl,aT _,fun _ _ _=>rfl⟩,fun i o hi=>⟨(h.owns.all i o hi).1,fun _ hk=> .inr ⟨o,kO hi,hk⟩⟩,h.owns.apart⟩
theorem Mem.back{w w':World}{L R O:List b9}(h:Mem W (L++R) w)(h':Mem (b_.on w L) O w'):Mem W (R++O) w':=by
 have hle:W.w.heap.size<=w.heap.size:=h.low.size;have hL:∀o∈L,∀k,o.fu k->W.may k:=fun o ho k hk=>by
  obtain⟨i,hi⟩:=x7 ho;exact(h.owns.all i o (by rw[fR (cU.1 hi).1];exact hi)).2 k hk
 have hR:∀(i:Nat) (o:b9),R[i]?=ah o->o.holds w/\(∀k,o.fu k->W.may k)/\∀k,o.fu k->k<w.heap.size/\¬(b_.on w L).X k:=fun i o hi=>by
  have pP:(L++R)[L.length+i]?=ah o:=by rw[kN J];simpa using hi
  have h1:=h.owns.all _ o pP;refine⟨h1.1,h1.2,fun k hk=>⟨o.lt w h1.1 k hk,?_⟩⟩;rintro⟨q,hq,hqk⟩;obtain⟨j,hj⟩:=x7 hq;have Yn:=(cU.1 hj).1;exact h.owns.apart j (L.length+i) q o J (by rw[fR Yn];exact hj) pP k hqk hk
 refine⟨⟨h'.low.os.trans h.low.os,h'.low.tape.trans h.low.tape,h'.low.output.trans h.low.output,eC hle h'.low.size,fun k hk hx=>?_⟩,fl.both ⟨fun i o hi=>?_,?_⟩ ?_ ?_⟩
 ·rw[h'.low.block k (jt hk hle) ?_]
  exact h.low.block k hk hx;rintro⟨o,ho,mJ⟩;exact(hL o ho k mJ).elim (fun h=>by omega) hx
 ·obtain⟨h1,h2,h3⟩:=hR i o hi
  exact⟨o.stay w w' h1 h'.low.size fun k hk=>h'.low.block k (h3 k hk).1 (h3 k hk).2,h2⟩
 ·intro i j o o' uf hi hj
  exact h.owns.apart (L.length+i) (L.length+j) o o' J (by rw[kN J];simpa using hi) (by rw[kN J];simpa using hj)
 exact h'.owns.mono fun k hk=>hk.elim (fun h1=> .inl (eC hle h1)) fun⟨o,ho,mJ⟩=>hL o ho k mJ;intro i j o o' hi hj k hk nu;obtain⟨h1,h2,h3⟩:=hR i o hi;rcases(h'.owns.all j o' hj).2 k nu with h4|h4
 ·have h4:w.heap.size<=k:=h4
  have:=(h3 k hk).1;omega
 exact(h3 k hk).2 h4
end
theorem Mem.cell{W w:World}{L:List b9}(h:Mem W L w){p:Addr}{v:Value}(hp:W.cell? p=ah v):w.cell? p=ah v:=by
 rw[h.below.cell (oP W p hp)];exact hp
structure mv(W0:World)(W:b_):Prop where
 below:Below W0.heap.size W0 W.w
 free:∀k,k<W0.heap.size->¬W.X k
theorem mv.self(W:World):mv W W:=⟨Below.refl _ _,fun _ _=>id⟩
theorem mv.mem{W0:World}{W:b_}(ho:mv W0 W){L:List b9}{w:World}(h:Mem W L w):Below W0.heap.size W0 w:=
 ⟨h.low.os.trans ho.below.os,h.low.tape.trans ho.below.tape,h.low.output.trans ho.below.output,eC ho.below.size h.low.size,fun k hk=>(h.low.block k (jt hk ho.below.size) (ho.free k hk)).trans (ho.below.block k hk)⟩
theorem mv.cell{W0:World}{W:b_}(ho:mv W0 W){L:List b9}{w:World}(h:Mem W L w){p:Addr}{v:Value}(hp:W0.cell? p=ah v):w.cell? p=ah v:=by
 rw[(ho.mem h).cell (oP W0 p hp)];exact hp
theorem mv.on{W0:World}{W:b_}(ho:mv W0 W){L L':List b9}{w:World}(h:Mem W L w)(hs:∀o∈L',o∈L):mv W0 (b_.on w L'):=
 ⟨ho.mem h,fun k hk ⟨o,hm,hb⟩=>by
  obtain⟨i,hi⟩:=x7 (hs o hm);rcases(h.owns.all i o hi).2 k hb with h1|h1
  ·have:=ho.below.size
   have h1:W.w.heap.size<=k:=h1;omega
  exact ho.free k hk h1⟩
end cg
namespace cg
open Go.RowKit cT ey
structure T(P:Program)(n:Nat)(W:b_)(c:Code)(Q:Exit->Act->World->Prop)(fr:Fr)(L:List b9):Prop where
 go:∀a w,nt n a fr->Mem W L w->c.wp P Q a w
structure E(n:Nat)(W:b_)(e:Exit)(Q:Exit->Act->World->Prop)(fr:Fr)(L:List b9):Prop where
 go:∀a w,nt n a fr->Mem W L w->Q e a w
structure TL(P:Program)(n:Nat)(W:b_)(ops:Array Oper)(Q:Exit->Act->World->Prop)(l:List Oper)(fr:Fr)(L:List b9):Prop where
 go:∀a w,nt n a fr->Mem W L w->wpList P ops Q l a w
structure RR(P:Program)(n:Nat)(W:b_)(o:Oper)(fr:Fr)(L:List b9)(v:Value):Prop where
 go:∀a w,nt n a fr->Mem W L w->(execOp a.eval o).run P w= .ok (.value v) w
structure Spec(ι:Type) where
 ok:ι->Prop
 val:ι->Value
 own:ι->List b9
def cJ{ι:Type}(S:Spec ι)(w:World)(e:Ending)(w':World):Prop:=∃x,S.ok x/\e= .returned (S.val x)/\Gr w w'/\rW w.heap.size w' (S.own x)
def ret(v:Value):Spec Unit:=⟨fun _=>True,fun _=>v,fun _=>[]⟩
theorem UW{v:Value}{w w':World}{e:Ending}(h:e= .returned v)(hg:Gr w w'):cJ (ret v) w e w':=⟨(),trivial,h,hg,rW.nil _ _⟩
theorem Em{v:Value}{w w':World}{e:Ending}(h:cJ (ret v) w e w'):e= .returned v/\Gr w w':=let ⟨_,_,h1,h2,_⟩:=h;⟨h1,h2⟩
section
variable{P:Program}{n:Nat}{W:b_}{Q:Exit->Act->World->Prop}{fr:Fr}{L:List b9}
theorem bY{x y:Code}(h:T P n W x (Exit.then (y.wp P Q) Q) fr L):T P n W (x.seq y) Q fr L:= .mk fun a w hr hm=>wp_seq (h.go a w hr hm)
theorem pQ(h:E n W .normal Q fr L):T P n W .skip Q fr L:= .mk fun a w hr hm=>wp_skip (h.go a w hr hm)
theorem pR{id:Nat}(h:E n W (.exit id) Q fr L):T P n W (.exit id) Q fr L:= .mk fun a w hr hm=>wp_exit (h.go a w hr hm)
theorem rX(h:E n W .ret Q fr L):T P n W .ret Q fr L:= .mk fun a w hr hm=>wp_ret (h.go a w hr hm)
theorem mX{id:Nat}{c:Code}(h:T P n W c (uw id Q) fr L):T P n W (.block id c) Q fr L:= .mk fun a w hr hm=>wp_block (h.go a w hr hm)
theorem SQ{c:Operand}{x y:Code}(hc:ev fr c=ah (.bool aB))(h:T P n W x Q fr L):T P n W (.cond c x y) Q fr L:= .mk fun a w hr hm=>wp_cond_true (hr.ev hc) (h.go a w hr hm)
theorem SR{c:Operand}{x y:Code}(hc:ev fr c=ah (.bool aD))(h:T P n W y Q fr L):T P n W (.cond c x y) Q fr L:= .mk fun a w hr hm=>wp_cond_false (hr.ev hc) (h.go a w hr hm)
theorem afF{c:Code}{L':List b9}(is:List Nat)(hn:is.Nodup)(hl:L'=is.filterMap fun i=>L[i]?)(h:T P n W c Q fr L'):T P n W c Q fr L:= .mk fun a w hr hm=>h.go a w hr (hm.pick is hn hl)
theorem afG{e:Exit}{L':List b9}(is:List Nat)(hn:is.Nodup)(hl:L'=is.filterMap fun i=>L[i]?)(h:E n W e Q fr L'):E n W e Q fr L:= .mk fun a w hr hm=>h.go a w hr (hm.pick is hn hl)
theorem mY{y:Code}(h:T P n W y Q fr L):E n W .normal (Exit.then (y.wp P Q) Q) fr L:=⟨h.go⟩
theorem mZ{id:Nat}{K:Act->World->Prop}(h:E n W (.exit id) Q fr L):E n W (.exit id) (Exit.then K Q) fr L:=⟨h.go⟩
theorem lD{K:Act->World->Prop}(h:E n W .ret Q fr L):E n W .ret (Exit.then K Q) fr L:=⟨h.go⟩
theorem kT{id:Nat}(h:E n W .normal Q fr L):E n W .normal (uw id Q) fr L:=⟨h.go⟩
theorem kU{id:Nat}(h:E n W .ret Q fr L):E n W .ret (uw id Q) fr L:=⟨h.go⟩
theorem j0{id:Nat}(h:E n W .normal Q fr L):E n W (.exit id) (uw id Q) fr L:= .mk fun a w hr hm=>by
 show(if id=id then Q .normal a w else Q (.exit id) a w)
 rw[if_pos I];exact h.go a w hr hm
theorem j_{id id':Nat}(hne:fO id' id=aD)(h:E n W (.exit id') Q fr L):E n W (.exit id') (uw id Q) fr L:= .mk fun a w hr hm=>by
 show(if id'=id then Q .normal a w else Q (.exit id') a w)
 rw[if_neg (JE hne)];exact h.go a w hr hm
def Rnd{ι:Type}(n:Nat)(W:b_)(ag:ι->Prop)(F:ι->Fr)(M:ι->List b9)(μ:ι->Nat)(x:ι)(a:Act)(w:World):Prop:=∃x',ag x'/\μ x'<μ x/\nt n a (F x')/\Mem W (M x') w
def Mid{ι:Type}(n:Nat)(W:b_)(ag:ι->Prop)(F:ι->Fr)(M:ι->List b9)(a:Act)(w:World):Prop:=∃i,ag i/\nt n a (F i)/\Mem W (M i) w
theorem e_{ι:Type}{ag:ι->Prop}{F:ι->Fr}{M:ι->List b9}(i:ι)(hi:ag i)(hf:Me (F i) fr)(hl:L=M i):E n W .normal (Exit.then (Mid n W ag F M) Q) fr L:=
 ⟨fun _ _ hr hm=>⟨i,hi,hr.sub hf,hl▸hm⟩⟩
theorem lX{c:Code}{ι:Type}(ag:ι->Prop)(F:ι->Fr)(M:ι->List b9)(μ:ι->Nat)(x0:ι)(h0:ag x0)(hf:Me (F x0) fr)(hl:L=M x0)
 (round:∀x,ag x->T P n W c (Exit.then (Rnd n W ag F M μ x) Q) (F x) (M x)):T P n W (.loop c) Q fr L:=by
 refine⟨fun a w hr hm=>?_⟩;refine wp_loop_ghost (fun k a w=>∃x,μ x=k/\ag x/\nt n a (F x)/\Mem W (M x) w) (μ x0) ⟨x0,rfl,h0,hr.sub hf,hl▸hm⟩ ?_;rintro k a w ⟨x,rfl,hi,hr,hm⟩;refine wp_mono ((round x hi).go a w hr hm) fun e a w h=>?_
 cases e with
 |normal=>obtain⟨x',h1,h2,h3,h4⟩:=h;exact⟨μ x',h2,x',rfl,h1,h3,h4⟩
 |_=>exact h
theorem iU{ι:Type}{ag:ι->Prop}{F:ι->Fr}{M:ι->List b9}{μ:ι->Nat}{x:ι}(x':ι)(hi:ag x')(hμ:μ x'<μ x)(hf:Me (F x') fr)(hl:L=M x'):
 E n W .normal (Exit.then (Rnd n W ag F M μ x) Q) fr L:=
 ⟨fun _ _ hr hm=>⟨x',hi,hμ,hr.sub hf,hl▸hm⟩⟩
theorem HT{fn:Func}{R:Ending->World->Prop}(h:∀a w,nt n a fr->Mem W L w->∃v,(results fn a.tmps).run P w= .ok v w/\R (.returned v) w):E n W .ret (bodyPost P fn R) fr L:=
 ⟨fun a w hr hm=>⟨hr.defers,h a w hr hm⟩⟩
theorem dq{fn:Func}{R:Ending->World->Prop}{t:Tmp}{v:Value}(nQ:fn.results=#[.tmp t])(hv:look fr t=ah v)(h:∀w,Mem W L w->R (.returned v) w):E n W .ret (bodyPost P fn R) fr L:=
 HT fun a w hr hm=>⟨v,by simp[results,nQ,xU,hr.get t v hv],h w hm⟩
theorem jJ{fn:Func}{R:Ending->World->Prop}{t u:Tmp}{v z:Value}(nQ:fn.results=#[.tmp t,.tmp u])(hv:look fr t=ah v)(hz:look fr u=ah z)(h:∀w,Mem W L w->R (.returned (.tuple #[v,z])) w):E n W .ret (bodyPost P fn R) fr L:=
 HT fun a w hr hm=>⟨_,by simp[results,nQ,xU,hr.get t v hv,hr.get u z hz],h w hm⟩
theorem m_{fn:Func}{R:Ending->World->Prop}{t u s:Tmp}{v z y:Value}(nQ:fn.results=#[.tmp t,.tmp u,.tmp s])(hv:look fr t=ah v)(hz:look fr u=ah z)(hy:look fr s=ah y)(h:∀w,Mem W L w->R (.returned (.tuple #[v,z,y])) w):E n W .ret (bodyPost P fn R) fr L:=
 HT fun a w hr hm=>⟨_,by simp[results,nQ,xU,hr.get t v hv,hr.get u z hz,hr.get s y hy],h w hm⟩
theorem Mem.meets{ι:Type}{S:Spec ι}{W w:World}(x:ι)(hm:Mem W L w)(hx:S.ok x)(is:List Nat)(hn:is.Nodup)(hl:S.own x=is.filterMap fun i=>L[i]?):cJ S W (.returned (S.val x)) w:=
 ⟨x,hx,rfl,hm.below,hm.aeX.pick is hn hl⟩
theorem Mem.ret{v:Value}{W w:World}(hm:Mem W L w):cJ (ret v) W (.returned v) w:=⟨(),trivial,rfl,hm.below,rW.nil _ _⟩
theorem eU{fn:Func}{W:World}{t:Tmp}{v v0:Value}(nQ:fn.results=#[.tmp t])(hv:look fr t=ah v)(h:v=v0):E n W .ret (bodyPost P fn (cJ (ret v0) W)) fr L:=by
 subst h;exact dq nQ hv fun w hm=>hm.ret
def zr:Nat->List Value->Fr
 |_,[]=>[]
 |k,v::r=>(k,v)::zr (k+1) r
theorem sV:∀(vs:List Value) (k i:Nat) (v:Value),look (zr k vs) i=ah v->k<=i/\vs[i-k]?=ah v
 |[],_,_,_,h=>by cases h
 | u ::r,k,i,v,h=>by
  unfold zr look at h
  cases e:fO k i
  ·rw[e]at h
   have hne:=JE e;obtain⟨h1,h2⟩:=sV r (k+1) i v h;refine⟨by omega,?_⟩;rw[show i-k=(i-(k+1))+1 by omega,X8];exact h2
  rw[e]at h;obtain rfl:k=i:=kP e;simp only[cond_true,dg]at h;subst h;simp
theorem enter{w:World}{f:FuncId}{fn:Func}{c:Code}{args:List Value}{R:Ending->World->Prop}(hf:P.funcs[f]?=ah fn)(hb:fn.body=ah c)(hn:fn.ntmps=n)(hle:ya args.length n=aB)
 (h:T P n w c (bodyPost P fn R) (zr 0 args) []):Calls P f args.toArray w R:=by
 have afH:args.length<=n:=mW hle;refine calls_of_wp hf hb (h.go _ w ⟨?_,rfl,fun i v hi=>?_⟩ (Mem.start w))
 ·simp[hn];omega
 ·obtain⟨_,h2⟩:=sV args 0 i v hi
  have hlt:=(cU.1 h2).1;rw[XG (by simpa using hlt)]
  simpa using h2
theorem eR{B:b_}{w:World}{f:FuncId}{fn:Func}{c:Code}{args:List Value}{R:Ending->World->Prop}(hm:Mem B L w)(hf:P.funcs[f]?=ah fn)(hb:fn.body=ah c)(hn:fn.ntmps=n)(hle:ya args.length n=aB)
 (h:T P n B c (bodyPost P fn R) (zr 0 args) L):Calls P f args.toArray w R:=by
 have afH:args.length<=n:=mW hle;refine calls_of_wp hf hb (h.go _ w ⟨?_,rfl,fun i v hi=>?_⟩ hm)
 ·simp[hn];omega
 ·obtain⟨_,h2⟩:=sV args 0 i v hi
  have hlt:=(cU.1 h2).1;rw[XG (by simpa using hlt)]
  simpa using h2
section
variable{ops:Array Oper}{K:Act->World->Prop}{ks:List Bool}{o:Oper}{rest:List Oper}{v:Value}{d:Nat}
theorem a_{id:Nat}{l:List Oper}(h:TL P n W l.toArray Q l fr L):T P n W (.region id l.toArray aD) Q fr L:= .mk fun a w hr hm=>wp_region_lit (h.go a w hr hm)
theorem lY(h:E n W .normal Q fr L):TL P n W ops Q [] fr L:= .mk fun a w hr hm=>wpList_nil (h.go a w hr hm)
theorem qU{a:Act}(hg:o.guard=aj):kM o (yielded ops a.tmps)=true:=by simp[kM,hg]
theorem pS{a:Act}{j e:Nat}{b:Bool}(hr:nt n a fr)(hg:o.guard=ah (j,b))(hj:(ops[j]?).bind (·.dst)=ah e)(hl:look fr e=ah (.bool b)):kM o (yielded ops a.tmps)=true:=by
 simp[kM,hg,hr.yield hj hl]
def acN(b:Bool):Value->Bool
 | .bool c=>c !=b
 |_=>aB
theorem HU{a:Act}{j e:Nat}{b:Bool}{u:Value}(hr:nt n a fr)(hg:o.guard=ah (j,b))(hj:(ops[j]?).bind (·.dst)=ah e)(hl:look fr e=ah u)(hu:acN b u=aB):kM o (yielded ops a.tmps)=false:=by
 simp only[kM,hg,hr.yield hj hl]
 cases u<;>first|rfl|(rename_i c;cases c<;>cases b<;>first|rfl|cases hu)
theorem dC(hr:RR P n W o fr L v)(hg:o.guard=aj)(hd:o.dst=ah d)(hn:dB d n=aB)(h:TL P n W ops Q rest ((d,v)::fr) L):TL P n W ops Q (o::rest) fr L:= .mk fun a w ij hm=>
 wpList_plain hg fun K hK=>by
  unfold gY;rw[hr.go a w ij hm];rw[XZ,hd];exact hK _ _ (h.go _ w (ij.put hn v) hm)
theorem SS{j e:Nat}{b:Bool}(hr:RR P n W o fr L v)(hg:o.guard=ah (j,b))(hj:(ops[j]?).bind (·.dst)=ah e)(hl:look fr e=ah (.bool b))(hd:o.dst=ah d)(hn:dB d n=aB)(h:TL P n W ops Q rest ((d,v)::fr) L):TL P n W ops Q (o::rest) fr L:= .mk fun a w ij hm=>
 XL (pS ij hg hj hl) fun K hK=>by
  unfold gY;rw[hr.go a w ij hm];rw[XZ,hd];exact hK _ _ (h.go _ w (ij.put hn v) hm)
theorem acO{j e:Nat}{b:Bool}{u:Value}(hg:o.guard=ah (j,b))(hj:(ops[j]?).bind (·.dst)=ah e)(hl:look fr e=ah u)(hu:acN b u=aB)(hd:o.dst=ah d)(hn:dB d n=aB)(h:TL P n W ops Q rest ((d,undef)::fr) L):TL P n W ops Q (o::rest) fr L:= .mk fun a w ij hm=>
 wpList_skip (HU ij hg hj hl hu) (by rw[hd];exact h.go _ w (ij.put hn undef) hm)
theorem Mg{p:Prop}{inst:Decidable p}(hr:RR P n W o fr L (.bool (decide p)))(hg:o.guard=aj)(hd:o.dst=ah d)(hn:dB d n=aB)(ht:p->TL P n W ops Q rest ((d,.bool aB)::fr) L)(hf:¬p->TL P n W ops Q rest ((d,.bool aD)::fr) L):TL P n W ops Q (o::rest) fr L:=by
 by_cases h:p
 exact dC (by rwa [decide_eq_true h]at hr) hg hd hn (ht h);exact dC (by rwa [decide_eq_false h]at hr) hg hd hn (hf h)
theorem PJ{p:Prop}{inst:Decidable p}{j e:Nat}{b:Bool}(hr:RR P n W o fr L (.bool (decide p)))(hg:o.guard=ah (j,b))(hj:(ops[j]?).bind (·.dst)=ah e)(hl:look fr e=ah (.bool b))(hd:o.dst=ah d)(hn:dB d n=aB)(ht:p->TL P n W ops Q rest ((d,.bool aB)::fr) L)(hf:¬p->TL P n W ops Q rest ((d,.bool aD)::fr) L):TL P n W ops Q (o::rest) fr L:=by
 by_cases h:p
 exact SS (by rwa [decide_eq_true h]at hr) hg hj hl hd hn (ht h);exact SS (by rwa [decide_eq_false h]at hr) hg hj hl hd hn (hf h)
theorem nt.acP{a:Act}{e:Nat}{v:Value}(h:nt n a fr)(hl:look fr e=ah v):nt n a ((e,v)::fr):=⟨h.size,h.defers,fun i u hi=>by
 unfold look at hi
 cases c:fO e i
 rw[c]at hi;exact h.get i u hi;rw[c]at hi;obtain rfl:e=i:=kP c;simp only[cond_true,dg]at hi;subst hi;exact h.get e v hl⟩
theorem UX{j e:Nat}{b0 b:Bool}(_:o.guard=ah (j,b0))(_:(ops[j]?).bind (·.dst)=ah e)(hl:look fr e=ah (.bool b))(ht:b=aB->TL P n W ops Q (o::rest) ((e,.bool aB)::fr) L)(hf:b=aD->TL P n W ops Q (o::rest) ((e,.bool aD)::fr) L):TL P n W ops Q (o::rest) fr L:= .mk fun a w hr hm=>by
 cases b
 exact(hf I).go a w (hr.acP hl) hm;exact(ht I).go a w (hr.acP hl) hm
theorem afI{j e:Nat}{b0:Bool}(_:o.guard=ah (j,b0))(_:(ops[j]?).bind (·.dst)=ah e)(_:look fr e=ah (.bool aB))(h:TL P n W ops Q (o::rest) fr L):TL P n W ops Q (o::rest) fr L:=h
theorem afJ{j e:Nat}{b0:Bool}(_:o.guard=ah (j,b0))(_:(ops[j]?).bind (·.dst)=ah e)(_:look fr e=ah (.bool aD))(h:TL P n W ops Q (o::rest) fr L):TL P n W ops Q (o::rest) fr L:=h
theorem acQ{c:Tmp}{x y:Code}{b:Bool}(hl:look fr c=ah (.bool b))(ht:b=aB->T P n W x Q ((c,.bool aB)::fr) L)(hf:b=aD->T P n W y Q ((c,.bool aD)::fr) L):T P n W (.cond (.tmp c) x y) Q fr L:= .mk fun a w hr hm=>by
 cases b
 exact wp_cond_false (hr.ev (x:= .tmp c) hl) ((hf I).go a w (hr.acP hl) hm);exact wp_cond_true (hr.ev (x:= .tmp c) hl) ((ht I).go a w (hr.acP hl) hm)
theorem aW{f:FuncId}{args:Array Value}{ι:Type}{S:Spec ι}(he:∀a w,nt n a fr->(execOp a.eval o).run P w= .ok (.enter f args) w)(hc:∀w,Mem W L w->Calls P f args w (cJ S w))(hg:o.guard=aj)(hd:o.dst=ah d)(hn:dB d n=aB)
 (h:∀x,S.ok x->TL P n W ops Q rest ((d,S.val x)::fr) (L++S.own x)):TL P n W ops Q (o::rest) fr L:= .mk fun a w ij hm=>
 wpList_plain hg fun K hK=>by
  unfold gY;rw[he a w ij,Pp];refine(hc w hm).mono fun e w' ⟨x,h1,h2,h3,h4⟩=>?_;subst h2;simp only[hd];exact hK _ _ ((h x h1).go _ w' (ij.put hn _) (hm.append h3 h4))
theorem kV{f:FuncId}{args:Array Value}{ι:Type}{S:Spec ι}{j e:Nat}{b:Bool}(he:∀a w,nt n a fr->(execOp a.eval o).run P w= .ok (.enter f args) w)(hc:∀w,Mem W L w->Calls P f args w (cJ S w))(hg:o.guard=ah (j,b))(hj:(ops[j]?).bind (·.dst)=ah e)(hl:look fr e=ah (.bool b))(hd:o.dst=ah d)(hn:dB d n=aB)
 (h:∀x,S.ok x->TL P n W ops Q rest ((d,S.val x)::fr) (L++S.own x)):TL P n W ops Q (o::rest) fr L:= .mk fun a w ij hm=>
 XL (pS ij hg hj hl) fun K hK=>by
  unfold gY;rw[he a w ij,Pp];refine(hc w hm).mono fun e w' ⟨x,h1,h2,h3,h4⟩=>?_;subst h2;simp only[hd];exact hK _ _ ((h x h1).go _ w' (ij.put hn _) (hm.append h3 h4))
def dX{ι:Type}(S:Spec ι)(B:b_)(e:Ending)(w':World):Prop:=∃x,S.ok x/\e= .returned (S.val x)/\Mem B (S.own x) w'
theorem Mem.cZ{ι:Type}{S:Spec ι}{w:World}(x:ι)(hm:Mem W L w)(hx:S.ok x)(is:List Nat)(hn:is.Nodup)(hl:S.own x=is.filterMap fun i=>L[i]?):dX S W (.returned (S.val x)) w:=
 ⟨x,hx,rfl,hm.pick is hn hl⟩
theorem PL{is js:List Nat}{Lx R:List b9}(hlx:Lx=is.filterMap fun i=>L[i]?)(SU:R=js.filterMap fun i=>L[i]?):Lx++R=(is++js).filterMap fun i=>L[i]?:=by
 rw[sT,<-hlx,<-SU]
theorem bH{f:FuncId}{args:Array Value}{ι:Type}{S:Spec ι}(is js:List Nat){Lx R:List b9}(hn2:(is++js).Nodup)(hlx:Lx=is.filterMap fun i=>L[i]?)(SU:R=js.filterMap fun i=>L[i]?)
 (he:∀a w,nt n a fr->(execOp a.eval o).run P w= .ok (.enter f args) w) (hc:∀w,Mem W L w->Mem (b_.on w Lx) Lx w->Calls P f args w (dX S (b_.on w Lx))) (hg:o.guard=aj) (hd:o.dst=ah d) (hn:dB d n=aB)
 (h:∀x,S.ok x->TL P n W ops Q rest ((d,S.val x)::fr) (R++S.own x)):TL P n W ops Q (o::rest) fr L:= .mk fun a w ij hm=>
 wpList_plain hg fun K hK=>by
  have Hc:Mem W (Lx++R) w:=hm.pick (is++js) hn2 (PL hlx SU);have hm3:Mem W Lx w:=hm.pick is (Eh.1 hn2).1 hlx;unfold gY;rw[he a w ij,Pp];refine(hc w hm hm3.over).mono fun e w' ⟨x,h1,h2,h3⟩=>?_;subst h2;simp only[hd];exact hK _ _ ((h x h1).go _ w' (ij.put hn _) (Hc.back h3))
theorem kW(hg:o.guard=aj)(h:∀a w,nt n a fr->Mem W L w->∀K:Act->World->Prop,(∀a w,wpList P ops Q rest a w->K a w)->o.wp P a w K Q):TL P n W ops Q (o::rest) fr L:= .mk fun a w ij hm=>
 wpList_plain hg fun K hK=>h a w ij hm K hK
theorem Dm{q e:Nat}{b:Bool}(hg:o.guard=ah (q,b))(hj:(ops[q]?).bind (·.dst)=ah e)(hl:look fr e=ah (.bool b))(h:TL P n W ops Q ({o with guard:=aj}::rest) fr L):TL P n W ops Q (o::rest) fr L:= .mk fun a w hr hm=>by
 have h1:=h.go a w hr hm;unfold wpList at h1⊢;rw[if_pos (qU I)]at h1;rw[if_pos (pS hr hg hj hl)];exact h1
end
end
end cg
namespace cg
open Go.RowKit cT ey
def str(l:List UInt8):Value:= .string ⟨l.toArray⟩
theorem Yo(s:ByteArray):Value.string s=str s.data.toList:=by unfold str;congr
structure Ty(P:Program)(t:TypeId)(agg:Bool)(c:Nat):Prop where
 agg:∀w,(isAgg t).run P w= .ok agg w
 size:∀w,(sizeOf t).run P w= .ok c w
def tyB(P:Program)(t:TypeId)(agg:Bool)(c:Nat):Bool:=
 (match P.underlying t with|some (.struct _)=>agg|some (.array _ _)=>agg|some _=>!agg|none=>aD)&&(match P.info? t with|some i=>fO i.size c|none=>aD)
theorem Ty.of{P:Program}{t:TypeId}{agg:Bool}{c:Nat}(h:tyB P t agg c=aB):Ty P t agg c:=by
 unfold tyB at h;rw[ff]at h;obtain⟨h1,h2⟩:=h;refine⟨fun w=>?_,fun w=>?_⟩
 ·cases e:P.underlying t with
  |none=>rw[e]at h1;cases h1
  |some d=>
   rw[e]at h1
   cases agg<;>cases d<;>first|(cases h1;done)|simp[isAgg,run_underlying e]
 cases e:P.info? t with
 |none=>rw[e]at h2;cases h2
 |some i=>
  rw[e]at h2;obtain rfl:i.size=c:=kP h2;simp[sizeOf,typeInfo,e]
section
variable{P:Program}{n:Nat}{W:b_}{fr:Fr}{L:List b9}{dst:Option Tmp}{ty:TypeId}{pos:String}{after:Array Edge}{guard:Option (Nat×Bool)}
theorem wN{x:Operand}{v:Value}(hx:ev fr x=ah v):RR P n W ⟨dst,.move x,ty,pos,after,guard⟩ fr L v:= .mk fun a w hr _=>by
 show Px (XX (a.eval x)) w=_;rw[hr.ev hx]
theorem UY{x:Operand}{v:Value}(hx:ev fr x=ah v):RR P n W ⟨dst,.assign x,ty,pos,after,guard⟩ fr L v:= .mk fun a w hr _=>by
 show Px (XX (a.eval x)) w=_;rw[hr.ev hx]
theorem Yp{c x y:Operand}{v:Value}(hc:ev fr c=ah (.bool aB))(hx:ev fr x=ah v):RR P n W ⟨dst,.pick c x y,ty,pos,after,guard⟩ fr L v:= .mk fun a w hr _=>by
 simp[execOp,hr.ev hc,hr.ev hx,asBool]
theorem Yq{c x y:Operand}{v:Value}(hc:ev fr c=ah (.bool aD))(hy:ev fr y=ah v):RR P n W ⟨dst,.pick c x y,ty,pos,after,guard⟩ fr L v:= .mk fun a w hr _=>by
 simp[execOp,hr.ev hc,hr.ev hy,asBool]
theorem PM{t:Operand}{i:Nat}{vs:Array Value}{v:Value}(ht:ev fr t=ah (.tuple vs))(hv:vs[i]?=ah v):RR P n W ⟨dst,.extract t i,ty,pos,after,guard⟩ fr L v:= .mk fun a w hr _=>by
 simp[execOp,hr.ev ht,Instr.extract,hv]
section
variable{t u:TypeId}{x y:Operand}{k:IntKind}{m m':Int}
theorem ry{op:BinOp}{v:Value}(hx:ev fr x=ah (.int k m))(hy:ev fr y=ah (.int k m'))(h:∀w,(binOp op t (.int k m) (.int k m')).run P w= .ok v w):RR P n W ⟨dst,.binOp op t x y u,ty,pos,after,guard⟩ fr L v:= .mk fun a w hr _=>by
 have e:(eqGuard op t x y (.int k m) (.int k m')).run P w= .ok () w:=by
  unfold eqGuard;cases op<;>rfl
 simp[execOp,hr.ev hx,hr.ev hy,e,h]
theorem afK(hx:ev fr x=ah (.int k m))(hy:ev fr y=ah (.int k m')):RR P n W ⟨dst,.binOp .add t x y u,ty,pos,after,guard⟩ fr L (.int k (k.wrap (m+m'))):=ry hx hy fun w=>by simp[binOp,Po]
theorem afL(hx:ev fr x=ah (.int k m))(hy:ev fr y=ah (.int k m')):RR P n W ⟨dst,.binOp .sub t x y u,ty,pos,after,guard⟩ fr L (.int k (k.wrap (m-m'))):=ry hx hy fun w=>by simp[binOp,Po]
theorem afM(hx:ev fr x=ah (.int k m))(hy:ev fr y=ah (.int k m')):RR P n W ⟨dst,.binOp .mul t x y u,ty,pos,after,guard⟩ fr L (.int k (k.wrap (m*m'))):=ry hx hy fun w=>by simp[binOp,Po]
theorem om{r:Int}(h0: -9223372036854775808<=r)(h1:r<=9223372036854775807):av.wrap r=r:=IntWalk.i64_in _ J
theorem dh{r:Int}(hx:ev fr x=ah (ap av m))(hy:ev fr y=ah (ap av m'))(h0: -9223372036854775808<=m+m')(h1:m+m'<=9223372036854775807)(hr:m+m'=r):RR P n W ⟨dst,.binOp .add t x y u,ty,pos,after,guard⟩ fr L (ap av r):=by
 have:=afK (P:=P) (n:=n) (W:=W) (L:=L) (dst:=dst) (ty:=ty) (pos:=pos) (after:=after) (guard:=guard) (t:=t) (u:=u) hx hy;rwa [om h0 h1,hr]at this
theorem eD{r:Int}(hx:ev fr x=ah (ap av m))(hy:ev fr y=ah (ap av m'))(h0: -9223372036854775808<=m-m')(h1:m-m'<=9223372036854775807)(hr:m-m'=r):RR P n W ⟨dst,.binOp .sub t x y u,ty,pos,after,guard⟩ fr L (ap av r):=by
 have:=afL (P:=P) (n:=n) (W:=W) (L:=L) (dst:=dst) (ty:=ty) (pos:=pos) (after:=after) (guard:=guard) (t:=t) (u:=u) hx hy;rwa [om h0 h1,hr]at this
theorem Mh{r:Int}(hx:ev fr x=ah (ap av m))(hy:ev fr y=ah (ap av m'))(h0: -9223372036854775808<=m*m')(h1:m*m'<=9223372036854775807)(hr:m*m'=r):RR P n W ⟨dst,.binOp .mul t x y u,ty,pos,after,guard⟩ fr L (ap av r):=by
 have:=afM (P:=P) (n:=n) (W:=W) (L:=L) (dst:=dst) (ty:=ty) (pos:=pos) (after:=after) (guard:=guard) (t:=t) (u:=u) hx hy;rwa [om h0 h1,hr]at this
theorem dT{b:Bool}(hx:ev fr x=ah (.int k m))(hy:ev fr y=ah (.int k m'))(h:decide (m<m')=b):RR P n W ⟨dst,.binOp .lss t x y u,ty,pos,after,guard⟩ fr L (.bool b):=ry hx hy fun w=>by simp[binOp,A5,<-h]
theorem Bg{b:Bool}(hx:ev fr x=ah (.int k m))(hy:ev fr y=ah (.int k m'))(h:decide (m<=m')=b):RR P n W ⟨dst,.binOp .leq t x y u,ty,pos,after,guard⟩ fr L (.bool b):=ry hx hy fun w=>by simp[binOp,A5,<-h]
theorem eP{b:Bool}(hx:ev fr x=ah (.int k m))(hy:ev fr y=ah (.int k m'))(h:decide (m'<m)=b):RR P n W ⟨dst,.binOp .gtr t x y u,ty,pos,after,guard⟩ fr L (.bool b):=ry hx hy fun w=>by simp[binOp,A5,<-h]
theorem fx{b:Bool}(hx:ev fr x=ah (.int k m))(hy:ev fr y=ah (.int k m'))(h:decide (m'<=m)=b):RR P n W ⟨dst,.binOp .geq t x y u,ty,pos,after,guard⟩ fr L (.bool b):=ry hx hy fun w=>by simp[binOp,A5,<-h]
theorem cP{b:Bool}(hx:ev fr x=ah (.int k m))(hy:ev fr y=ah (.int k m'))(h:decide (m=m')=b):RR P n W ⟨dst,.binOp .eql t x y u,ty,pos,after,guard⟩ fr L (.bool b):=ry hx hy fun w=>by
 have:(m==m')=b:=by rw[<-h];exact Ju m m'
 simp[binOp,A5,this]
theorem dz{b:Bool}(hx:ev fr x=ah (.int k m))(hy:ev fr y=ah (.int k m'))(h:decide (m≠m')=b):RR P n W ⟨dst,.binOp .neq t x y u,ty,pos,after,guard⟩ fr L (.bool b):=ry hx hy fun w=>by
 have:(m !=m')=b:=by rw[<-h,bne,Ju];simp
 simp[binOp,A5,this]
theorem JK{op:BinOp}{r:Int}(hop:op= .and\/op= .or\/op= .xor\/op= .andNot)(hx:ev fr x=ah (.int k m))(hy:ev fr y=ah (.int k m'))(h:bits op k m m'=r):RR P n W ⟨dst,.binOp op t x y u,ty,pos,after,guard⟩ fr L (.int k r):=ry hx hy fun w=>by
 subst h;rcases hop with rfl|rfl|rfl|rfl<;>simp[binOp,Op.intBits,bits]
theorem Mi{op:BinOp}{k':IntKind}{v:Value}(hop:op= .shl\/op= .shr)(hx:ev fr x=ah (.int k m))(hy:ev fr y=ah (.int k' m'))(h:∀w,(iP op k m k' m').run P w= .ok v w):RR P n W ⟨dst,.binOp op t x y u,ty,pos,after,guard⟩ fr L v:= .mk fun a w hr _=>by
 have e:(eqGuard op t x y (.int k m) (.int k' m')).run P w= .ok () w:=by unfold eqGuard;rcases hop with rfl|rfl<;>rfl
 rcases hop with rfl|rfl<;>simp[execOp,hr.ev hx,hr.ev hy,e,binOp,h]
theorem nR{r:Int}(hx:ev fr x=ah (.int k m))(hy:ev fr y=ah (.int k m'))(h:bits .and k m m'=r):RR P n W ⟨dst,.binOp .and t x y u,ty,pos,after,guard⟩ fr L (.int k r):=JK (.inl I) hx hy h
theorem zt{r:Int}(hx:ev fr x=ah (.int k m))(hy:ev fr y=ah (.int k m'))(h:bits .or k m m'=r):RR P n W ⟨dst,.binOp .or t x y u,ty,pos,after,guard⟩ fr L (.int k r):=JK (.inr (.inl I)) hx hy h
theorem En{k':IntKind}{v:Value}(hx:ev fr x=ah (.int k m))(hy:ev fr y=ah (.int k' m'))(h:∀w,(iP .shl k m k' m').run P w= .ok v w):RR P n W ⟨dst,.binOp .shl t x y u,ty,pos,after,guard⟩ fr L v:=Mi (.inl I) hx hy h
theorem pT{k':IntKind}{v:Value}(hx:ev fr x=ah (.int k m))(hy:ev fr y=ah (.int k' m'))(h:∀w,(iP .shr k m k' m').run P w= .ok v w):RR P n W ⟨dst,.binOp .shr t x y u,ty,pos,after,guard⟩ fr L v:=Mi (.inr I) hx hy h
theorem iV{k':IntKind}{r:Int}(hs:P.underlying t=ah (.int k'))(hd:P.underlying u=ah (.int k))(hx:ev fr x=ah (.int k' m))(h:k.wrap m=r):RR P n W ⟨dst,.convert t u x,ty,pos,after,guard⟩ fr L (.int k r):= .mk fun a w hr _=>by
 simp[execOp,hr.ev hx,convert,run_underlying hs,run_underlying hd,Conv.intToInt,h]
end
theorem JL{t:TypeId}{x:Operand}{b c:Bool}(hx:ev fr x=ah (.bool b))(h:(!b)=c):RR P n W ⟨dst,.unOp .not t x,ty,pos,after,guard⟩ fr L (.bool c):= .mk fun a w hr _=>by
 subst h;simp[execOp,hr.ev hx,Op.unary]
theorem PN{t u:TypeId}{x y:Operand}{m m' r:Int}(hx:ev fr x=ah (ap av m))(hy:ev fr y=ah (ap av m'))(h:min m m'=r):RR P n W ⟨dst,.call {callee:= .builtin .min,args:=#[x,y],argTypes:=#[t,u]},ty,pos,after,guard⟩ fr L (ap av r):= .mk fun a w hr _=>by
 subst h;have h1:=hr.ev hx;have h2:=hr.ev hy;have e:(if m'<m then m' else m)=min m m':=by split<;>omega
 simp[rm,BigFrame.builtin_min,h1,h2,Builtin.min_,Builtin.min2,e]
theorem Yr{t u:TypeId}{x y:Operand}{m m' r:Int}(hx:ev fr x=ah (ap av m))(hy:ev fr y=ah (ap av m'))(h:max m m'=r):RR P n W ⟨dst,.call {callee:= .builtin .max,args:=#[x,y],argTypes:=#[t,u]},ty,pos,after,guard⟩ fr L (ap av r):= .mk fun a w hr _=>by
 subst h;have h1:=hr.ev hx;have h2:=hr.ev hy;have e:(if m'>m then m' else m)=max m m':=by split<;>omega
 have e2:(if m<m' then m' else m)=max m m':=e;simp[rm,BigFrame.builtin_max,h1,h2,Builtin.max_,Builtin.max2,e2]
theorem Eo{t:TypeId}{a b:Bool}(ht:P.underlying t=ah .bool)(d:Nat)(w:World):(pM (d+1) t (.bool a) (.bool b)).run P w= .ok (a==b) w:=by simp[pM,run_underlying ht]
theorem HV{t u:TypeId}{x y:Operand}{a b c:Bool}(ht:P.underlying t=ah .bool)(hx:ev fr x=ah (.bool a))(hy:ev fr y=ah (.bool b))(h:(a==b)=c):RR P n W ⟨dst,.binOp .eql t x y u,ty,pos,after,guard⟩ fr L (.bool c):= .mk fun ac w hr _=>by
 have e:(eqGuard .eql t x y (.bool a) (.bool b)).run P w= .ok () w:=rfl;have e2:(binOp .eql t (.bool a) (.bool b)).run P w= .ok (.bool c) w:=by
  show((Jz t (.bool a) (.bool b))>>=fun r=>pure (gd r)).run P w=_
  have:(Jz t (.bool a) (.bool b)).run P w= .ok (a==b) w:=Eo ht 9999 w;rw[mj,this,h];rfl
 simp[execOp,hr.ev hx,hr.ev hy,e,e2]
theorem UZ{t u:TypeId}{x y:Operand}{a b c:Bool}(ht:P.underlying t=ah .bool)(hx:ev fr x=ah (.bool a))(hy:ev fr y=ah (.bool b))(h:(!(a==b))=c):RR P n W ⟨dst,.binOp .neq t x y u,ty,pos,after,guard⟩ fr L (.bool c):= .mk fun ac w hr _=>by
 have e:(eqGuard .neq t x y (.bool a) (.bool b)).run P w= .ok () w:=rfl;have e2:(binOp .neq t (.bool a) (.bool b)).run P w= .ok (.bool c) w:=by
  show((Jz t (.bool a) (.bool b))>>=fun r=>pure (gd (!r))).run P w=_
  have:(Jz t (.bool a) (.bool b)).run P w= .ok (a==b) w:=Eo ht 9999 w;rw[mj,this];show Px (gd (!(a==b))) w=_
  rw[h]
 simp[execOp,hr.ev hx,hr.ev hy,e,e2]
section
variable{t u:TypeId}{x y:Operand}{l l':List UInt8}
theorem U0(ht:P.underlying t=ah .string)(hx:ev fr x=ah (str l)):RR P n W ⟨dst,.call {callee:= .builtin .len,args:=#[x],argTypes:=#[t]},ty,pos,after,guard⟩ fr L (ap av l.length):= .mk fun a w hr _=>by
 have JM:=hr.ev hx;unfold str at JM;have hsz:(A1 l.toArray).size=l.length:=eN;simp[rm,Pj,XO,JM,run_underlying ht,goInt,hsz]
theorem afN(l:List UInt8):(A1 l.toArray).toList=l:=by
 have h:∀(m:List UInt8) (i:Nat) (r:List UInt8),i+m.length=l.length->l.drop i=m->Ph ⟨l.toArray⟩ i r=r.reverse++m:=by
  intro m
  induction m with
  |nil=>
   intro i r hi _;unfold Ph;rw[if_neg (by simp[D0]at*;omega)];simp
  |cons b m ih=>
   intro i r hi hd;unfold Ph;have hlt:i<l.length:=by simp at hi;omega
   rw[if_pos (by simpa[D0]using hlt)];rw[dJ hlt]at hd;injection hd with h1 h2
   rw[ih (i+1) _ (by simp at hi;omega) h2];have:(A1 l.toArray).get! i=b:=by simp[afu,hlt,h1]
   rw[this];simp
 unfold afv;rw[h l 0 [] (by simp) I];simp
theorem uG{b:Bool}(hx:ev fr x=ah (str l))(hy:ev fr y=ah (str l'))(h:decide (l=l')=b):RR P n W ⟨dst,.binOp .eql t x y u,ty,pos,after,guard⟩ fr L (.bool b):= .mk fun a w hr _=>by
 have e:(eqGuard .eql t x y (str l) (str l')).run P w= .ok () w:=rfl;have e2:(l==l')=b:=by rw[<-h];exact Ju l l'
 unfold str at*;simp[execOp,hr.ev hx,hr.ev hy,e,binOp,XY,e2]
theorem zu{b:Bool}(hx:ev fr x=ah (str l))(hy:ev fr y=ah (str l'))(h:decide (l≠l')=b):RR P n W ⟨dst,.binOp .neq t x y u,ty,pos,after,guard⟩ fr L (.bool b):= .mk fun a w hr _=>by
 have e:(eqGuard .neq t x y (str l) (str l')).run P w= .ok () w:=rfl;have e2:(!(l==l'))=b:=by rw[<-h,Ju];simp
 unfold str at*;simp[execOp,hr.ev hx,hr.ev hy,e,binOp,XY,e2]
theorem wO{i:Int}{b:UInt8}{k:IntKind}(ht:P.underlying t=ah .string)(hx:ev fr x=ah (str l))(hy:ev fr y=ah (.int k i))(h0:0<=i)(h:l[i.toNat]?=ah b):RR P n W ⟨dst,.index t x y,ty,pos,after,guard⟩ fr L (.int .u8 b.toNat):= .mk fun a w hr _=>by
 have hlt:=(cU.1 h).1;have e:(if 0<=i then(A1 l.toArray)[i.toNat]? else aj)=ah b:=by
  rw[if_pos h0];have hs:i.toNat<(A1 l.toArray).size:=by simpa[D0]using hlt
  rw[getElem?_pos (A1 l.toArray) i.toNat hs];have:=(cU.1 h).2;exact congrArg ah (by rw[<-this];rfl)
 unfold str at*;simp only[execOp,hr.ev hx,hr.ev hy,XW,asIntOf,mj,mT,oO,run_underlying ht,e]
end
end
end cg
namespace cg
open Go.RowKit cT ey
section
variable{P:Program}{n:Nat}{W:b_}{fr:Fr}{L:List b9}{dst:Option Tmp}{ty:TypeId}{pos:String}{after:Array Edge}{guard:Option (Nat×Bool)}
def At(W:b_)(L:List b9)(p:Addr)(v:Value):Prop:=∀w,Mem W L w->w.cell? p=ah v
theorem hJ{W:World}{p:Addr}{v:Value}(h:W.cell? p=ah v):At W L p v:=fun _ hm=>hm.cell h
theorem iv{W0:World}{p:Addr}{v:Value}(ho:mv W0 W)(h:W0.cell? p=ah v):At W L p v:=fun _ hm=>ho.cell hm h
theorem aE{i g off:Nat}{cs:Array Value}{T:TypeId}{v:Value}(hi:L[i]?=ah (aO g cs T))(hv:cs[off]?=ah v):At W L ⟨g,off,aj⟩ v:=fun w hm=>by
 rw[cell_of_row w g off cs T (0,0) (hm.get hi)];exact hv
theorem ku{i g off size cap m k:Nat}{e:TypeId}{xs:List Value}{v:Value}(hi:L[i]?=ah (bx e size (ak (ah ⟨g,0,aj⟩) m cap) k xs))(hv:xs[off]?=ah v):At W L ⟨g,off,aj⟩ v:=fun w hm=>by
 have h:w.ownsRow 0 e size (ak (ah ⟨g,0,aj⟩) m cap) k xs:=hm.get hi;have:=h.cells (g:=g) I off v hv
 rwa [g_,cI]at this
theorem jp{W:World}{b off j:Nat}{xs:List Value}{v:Value}(h:Rd W b off xs)(hv:xs[j]?=ah v):At W L ⟨b,off+j,aj⟩ v:=hJ (h j v hv)
theorem aw{t:TypeId}{x:Operand}{p:Addr}{c:Nat}{v:Value}(hT:Ty P t aD c)(hx:ev fr x=ah (aH (ah p)))(h:At W L p v):RR P n W ⟨dst,.load t x,ty,pos,after,guard⟩ fr L v:= .mk fun a w hr hm=>by
 simp[execOp,hr.ev hx,XV,x6,loadVar,hT.agg,h w hm]
theorem aU{t:TypeId}{x:Operand}{b off c:Nat}{cs:List Value}(hT:Ty P t aB c)(hx:ev fr x=ah (aH (ah ⟨b,off,aj⟩)))(hl:cs.length=c)(h:∀j v,cs[j]?=ah v->At W L ⟨b,off+j,aj⟩ v):RR P n W ⟨dst,.load t x,ty,pos,after,guard⟩ fr L (aP cs.toArray):= .mk fun a w hr hm=>by
 subst hl;have:=run_loadCells_list (P:=P) w ⟨b,off,aj⟩ cs fun j v hj=>by rw[g_];exact h j v hj w hm
 simp[execOp,hr.ev hx,XV,x6,loadVar,hT.agg,hT.size,this]
theorem aL{t:TypeId}{x:Operand}{i g c:Nat}{cs:Array Value}{T:TypeId}(hT:Ty P t aB c)(hx:ev fr x=ah (aH (ah ⟨g,0,aj⟩)))(hi:L[i]?=ah (aO g cs T))(hl:cs.size=c):RR P n W ⟨dst,.load t x,ty,pos,after,guard⟩ fr L (.agg cs):=by
 have:=aU (P:=P) (n:=n) (W:=W) (L:=L) (dst:=dst) (ty:=ty) (pos:=pos) (after:=after) (guard:=guard) (cs:=cs.toList) hT hx (by simpa using hl) fun j v hj=>by rw[cI];exact aE hi (by simpa using hj)
 simpa using this
theorem Ys{W:World}{α:Type}{f:α->Value}{b off j:Nat}{l:List α}(h:Rd W b off (l.map f))(hj:j<l.length):At W L ⟨b,off+j,aj⟩ (f l[j]):=jp h (by simp[hj])
structure Fld(P:Program)(s:TypeId)(f o:Nat):Prop where
 run:∀(a:Addr) w,(XT s (aH (ah a)) f).run P w= .ok (aH (ah (a.add o))) w
def ahq(P:Program)(s:TypeId)(f o:Nat):Bool:=
 match P.underlying s with
 |some (.struct fs)=>(match fs[f]? with|some d=>fO d.offset o&&(match P.info? d.type with|some i=>!(fO i.size 0)|none=>aD)|none=>aD)
 |_=>aD
theorem Fld.of{P:Program}{s:TypeId}{f o:Nat}(h:ahq P s f o=aB):Fld P s f o:=by
 unfold ahq at h
 cases e:P.underlying s with
 |none=>rw[e]at h;cases h
 | some d=>
  rw[e]at h
  cases d<;>try (cases h;done)
  rename_i fs
  simp only at h
  cases e2:fs[f]? with
  |none=>rw[e2]at h;cases h
  | some d=>
   rw[e2]at h;simp only[ff]at h;obtain⟨h1,h2⟩:=h;obtain rfl:=kP h1
   cases e3:P.info? d.type with
   |none=>rw[e3]at h2;cases h2
   | some i=>
    rw[e3]at h2;simp only[A0]at h2;have:=JE h2;exact⟨fun a w=>by simp[XT,run_underlying e,e2,x6,fieldPlace,sizeOf,typeInfo,e3,this]⟩
theorem Mj{s:TypeId}{x:Operand}{f o b off r:Nat}(hf:Fld P s f o)(hx:ev fr x=ah (aH (ah ⟨b,off,aj⟩)))(hr:off+o=r):RR P n W ⟨dst,.fieldAddr s x f,ty,pos,after,guard⟩ fr L (aH (ah ⟨b,r,aj⟩)):= .mk fun a w h _=>by
 subst hr;simp[execOp,h.ev hx,hf.run,g_]
theorem Yt{t e:TypeId}{x y:Operand}{agg:Bool}{c b off len cap r:Nat}{k:IntKind}{i:Int}(ht:P.underlying t=ah (.slice e))(he:Ty P e agg c)(hx:ev fr x=ah (ak (ah ⟨b,off,aj⟩) len cap))(hy:ev fr y=ah (.int k i))(h0:0<=i)(h1:i<len)(hr:off+i.toNat*c=r):
 RR P n W ⟨dst,.indexAddr t x y,ty,pos,after,guard⟩ fr L (aH (ah ⟨b,r,aj⟩)):= .mk fun a w h _=>by
 subst hr;simp[execOp,h.ev hx,h.ev hy,XU,asIntOf,run_underlying ht,he.size,h0,h1,g_]
theorem a8{t e:TypeId}{x y:Operand}{agg:Bool}{b off len cap j:Nat}{k:IntKind}(ht:P.underlying t=ah (.slice e))(he:Ty P e agg 1)(hx:ev fr x=ah (ak (ah ⟨b,off,aj⟩) len cap))(hy:ev fr y=ah (.int k (j:Int)))(h1:j<len):
 RR P n W ⟨dst,.indexAddr t x y,ty,pos,after,guard⟩ fr L (aH (ah ⟨b,off+j,aj⟩)):=Yt ht he hx hy J J (by simp)
theorem aR{t e:TypeId}{x y:Operand}{agg:Bool}{c b off len cap j:Nat}{k:IntKind}(ht:P.underlying t=ah (.slice e))(he:Ty P e agg c)(hx:ev fr x=ah (ak (ah ⟨b,off,aj⟩) len cap))(hy:ev fr y=ah (.int k (j:Int)))(h1:j<len):
 RR P n W ⟨dst,.indexAddr t x y,ty,pos,after,guard⟩ fr L (aH (ah ⟨b,off+j*c,aj⟩)):=Yt ht he hx hy J J (by simp)
theorem acR{t e:TypeId}{x y:Operand}{agg:Bool}{c b off len r:Nat}{k:IntKind}{i:Int}(ht:P.underlying t=ah (.array len e))(he:Ty P e agg c)(hx:ev fr x=ah (aH (ah ⟨b,off,aj⟩)))(hy:ev fr y=ah (.int k i))(h0:0<=i)(h1:i<len)(hr:off+i.toNat*c=r):
 RR P n W ⟨dst,.indexAddr t x y,ty,pos,after,guard⟩ fr L (aH (ah ⟨b,r,aj⟩)):= .mk fun a w h _=>by
 subst hr;simp[execOp,h.ev hx,h.ev hy,XU,asIntOf,run_underlying ht,he.size,h0,h1,g_,x6]
theorem io{t e:TypeId}{x y:Operand}{agg:Bool}{b off len j:Nat}{k:IntKind}(ht:P.underlying t=ah (.array len e))(he:Ty P e agg 1)(hx:ev fr x=ah (aH (ah ⟨b,off,aj⟩)))(hy:ev fr y=ah (.int k (j:Int)))(h1:j<len):
 RR P n W ⟨dst,.indexAddr t x y,ty,pos,after,guard⟩ fr L (aH (ah ⟨b,off+j,aj⟩)):=acR ht he hx hy J J (by simp)
theorem jv{t e:TypeId}{x y:Operand}{len j:Nat}{k:IntKind}{cs:Array Value}{v:Value}(ht:P.underlying t=ah (.array len e))(he:Ty P e aD 1)(hx:ev fr x=ah (.agg cs))(hy:ev fr y=ah (.int k (j:Int)))(h1:j<len)(hv:cs[j]?=ah v):
 RR P n W ⟨dst,.index t x y,ty,pos,after,guard⟩ fr L v:= .mk fun a w h _=>by
 have h0:(0:Int)<=(j:Int)/\(j:Int)<(len:Int):=by omega
 simp[execOp,h.ev hx,h.ev hy,XW,asIntOf,run_underlying ht,he.size,h1,part,he.agg,hv]
theorem PO{t e:TypeId}{x:Operand}{p:Option Addr}{m cap:Nat}(ht:P.underlying t=ah (.slice e))(hx:ev fr x=ah (ak p m cap)):RR P n W ⟨dst,.call {callee:= .builtin .len,args:=#[x],argTypes:=#[t]},ty,pos,after,guard⟩ fr L (ap av m):= .mk fun a w hr _=>by
 have JM:=hr.ev hx;simp[rm,Pj,XO,JM,run_underlying ht,goInt]
theorem dV{t e e':TypeId}{x:Operand}{i size m:Nat}{v:Value}{xs:List Value}(ht:P.underlying t=ah (.slice e))(hi:L[i]?=ah (bx e' size v m xs))(hx:ev fr x=ah v):RR P n W ⟨dst,.call {callee:= .builtin .len,args:=#[x],argTypes:=#[t]},ty,pos,after,guard⟩ fr L (ap av m):= .mk fun a w hr hm=>by
 have h:w.ownsRow 0 e' size v m xs:=hm.get hi;rcases h.2 with⟨rfl,rfl⟩|⟨g,cap,oU,rfl,_⟩
 exact(PO (P:=P) (W:=W) (L:=L) ht hx).go a w hr hm;exact(PO (P:=P) (W:=W) (L:=L) ht hx).go a w hr hm
def SlL(W:b_)(L:List b9)(v:Value)(m:Nat)(xs:List Value):Prop:=∀w,Mem W L w->Sl w v m xs
theorem afO{W:World}{v:Value}{m:Nat}{xs:List Value}(h:Sl W v m xs):SlL W L v m xs:=fun w hm=>by
 obtain⟨base,cap,h1,h2,h3,h4⟩:=h;exact⟨base,cap,h1,h2,h3,fun hn=>let ⟨b,off,h5,h6⟩:=h4 hn;⟨b,off,h5,fun j u hj=>hm.cell (h6 j u hj)⟩⟩
theorem kX{i size m:Nat}{e:TypeId}{v:Value}{xs:List Value}(hi:L[i]?=ah (bx e size v m xs)):SlL W L v m xs:=fun _ hm=>Sl.dy (hm.get hi)
section
variable{Q:Exit->Act->World->Prop}{ops:Array Oper}{rest:List Oper}{d:Nat}
theorem bQ{t:TypeId}{x:Operand}{v:Value}{cs:Array Value}(hx:ev fr x=ah v)(hv:v.cells=cs)(hn:dB d n=aB)(h:∀g,TL P n W ops Q rest ((d,aH (ah ⟨g,0,aj⟩))::fr) (L++[aO g cs t])):
 TL P n W ops Q (⟨ah d,.box t x,ty,pos,after,aj⟩::rest) fr L:=kW I fun a w hr hm K hK=>by
 subst hv;have e:(execOp a.eval ⟨ah d,.box t x,ty,pos,after,aj⟩).run P w= .ok (.value (aH (ah ⟨w.heap.size,0,aj⟩))) (w.alloc (.cells v.cells t)):=by
  simp[execOp,hr.ev hx,Instr.box,newVar,newRow]
 unfold gY;rw[e];exact hK _ _ ((h w.heap.size).go _ _ (hr.put hn _) (hm.append (U1 w _) (rW.one (heap_alloc_new w _) fun k hk=>by simp only[aO,dg]at hk;omega)))
where
 U1 (w:World) (o:Obj):Gr w (w.alloc o):=(Below.refl _ _).alloc (aT _) _
theorem oB(w:World)(o:Obj):Gr w (w.alloc o):=(Below.refl _ _).alloc (aT _) _
theorem Yu{t:TypeId}{i:TypeInfo}{z:Value}{cs:Array Value}(hi:P.info? t=ah i)(hz:i.zero=ah z)(hv:z.cells=cs)(hn:dB d n=aB)(h:∀g,TL P n W ops Q rest ((d,aH (ah ⟨g,0,aj⟩))::fr) (L++[aO g cs t])):
 TL P n W ops Q (⟨ah d,.alloc t,ty,pos,after,aj⟩::rest) fr L:=kW I fun a w hr hm K hK=>by
 subst hv;have e:(execOp a.eval ⟨ah d,.alloc t,ty,pos,after,aj⟩).run P w= .ok (.value (aH (ah ⟨w.heap.size,0,aj⟩))) (w.alloc (.cells z.cells t)):=by
  simp[execOp,Instr.alloc,zeroValue,typeInfo,hi,hz,newVar,newRow]
 unfold gY;rw[e];exact hK _ _ ((h w.heap.size).go _ _ (hr.put hn _) (hm.append (oB w _) (rW.one (heap_alloc_new w _) fun k hk=>by simp only[aO,dg]at hk;omega)))
theorem PP{t e:TypeId}{m:Nat}{parts:Array (Nat×Operand)}{cs:Array Value}(hrun:∀a w,nt n a fr->(ux t m (parts.map fun(i,x)=>(i,a.eval x))).run P w= .ok (ak (ah ⟨w.heap.size,0,aj⟩) m m) (w.alloc (.cells cs e)))(hn:dB d n=aB)
 (h:∀g,TL P n W ops Q rest ((d,ak (ah ⟨g,0,aj⟩) m m)::fr) (L++[aO g cs e])):
 TL P n W ops Q (⟨ah d,.buildSlice t m parts,ty,pos,after,aj⟩::rest) fr L:=kW I fun a w hr hm K hK=>by
 have e':(execOp a.eval ⟨ah d,.buildSlice t m parts,ty,pos,after,aj⟩).run P w= .ok (.value (ak (ah ⟨w.heap.size,0,aj⟩) m m)) (w.alloc (.cells cs e)):=by
  simp only[execOp,mj,hrun a w hr,oO,mT]
 unfold gY;rw[e'];exact hK _ _ ((h w.heap.size).go _ _ (hr.put hn _) (hm.append (oB w _) (rW.one (heap_alloc_new w _) fun k hk=>by simp only[aO,dg]at hk;omega)))
theorem Yv{t e:TypeId}{i:TypeInfo}{z v:Value}{c:Nat}(ht:P.underlying t=ah (.slice e))(hi:P.info? e=ah i)(hz:i.zero=ah z)(hc:i.size=c)(hzc:z.cells.size=c)(hv:v.cells.size=c)(h0:0<c)(hs:c<=16777216)(w:World):
 (ux t 1 #[(0,v)]).run P w= .ok (ak (ah ⟨w.heap.size,0,aj⟩) 1 1) (w.alloc (.cells v.cells e)):=by
 have rY:lT (fun i=>ah (i*c,c)) ((DY (1*c)).map (z.cells[· %z.cells.size]!)) [(0,v)]=ah v.cells:=by
  simp only[lT,hv,Bc,cI,Array.size_map,Array.size_range,uE];rw[if_neg (by simp)]
  congr 1
  have key:∀(l:List Value) (k:Nat) (acc:Array Value),k+l.length=acc.size->(l.zipIdx k).foldl (fun cs (x:Value×Nat)=>cs.setIfInBounds (0+x.2) x.1) acc=(acc.toList.take k++l).toArray:=by
   intro l
   induction l with
   | nil=>
    intro k acc h;simp at h;simp only[List.zipIdx_nil,List.foldl_nil,dQ];rw[ig (by simp;omega)]
   | cons x l ih=>
    intro k acc h;simp only[cO]at h;rw[JD,List.foldl_cons,ih (k+1) _ (by simp;omega)];simp only[cI,Jt]
    congr 1
    rw[ir (by simp;omega)];simp[Ye];rw[List.set_eq_of_length_le (by simp;omega)]
  have:=key v.cells.toList 0 ((DY c).map (z.cells[· %z.cells.size]!)) (by simp[hv])
  simp only[sU,fN,xV]at this;rw[<-Array.foldl_toList]
  simpa[Array.toList_zipIdx]using this
 have hne:¬(1*c>2^24):=by omega
 have Yw:¬(1*c=0):=by omega
 simp only[ux,mj,run_underlying ht,oO,sizeOf,typeInfo,run_program,hi,mT,hc,zeroValue,hz,if_neg hne,if_neg Yw,rY,newRow];simp[newRow]
theorem acS{t e:TypeId}{x:Operand}{i:TypeInfo}{z v:Value}{c:Nat}{cs:Array Value}(ht:P.underlying t=ah (.slice e))(hi:P.info? e=ah i)(hz:i.zero=ah z)(hc:i.size=c)(hzc:z.cells.size=c)(hx:ev fr x=ah v)(hcs:v.cells=cs)(hv:cs.size=c)(h0:0<c)(hs:c<=16777216)(hn:dB d n=aB)
 (h:∀g,TL P n W ops Q rest ((d,ak (ah ⟨g,0,aj⟩) 1 1)::fr) (L++[aO g cs e])):TL P n W ops Q (⟨ah d,.buildSlice t 1 #[(0,x)],ty,pos,after,aj⟩::rest) fr L:=by
 subst hcs;exact PP (fun a w hr=>by simpa[hr.ev hx]using Yv ht hi hz hc hzc hv h0 hs w) hn h
theorem tX{t ty e:TypeId}{i:TypeInfo}{z:Value}{size bytes:Nat}(ht:P.underlying t=ah (.slice e))(hi:P.info? e=ah i)(hz:i.zero=ah z)(pU:i.size=size)(U2:i.bytes=bytes)(hzs:z.cells.size=size)(hsz:0<size)(w:World)
 {v:Value} {m:Nat} {xs:List Value} (xj:w.ownsRow 0 e size v m xs) {a:Addr} {k c:Nat} {news:List Value} (hl:news.length=k*size) (SV:∀j u,news[j]?=ah u->w.cell? (a.add j)=ah u) (h1:∀u∈news,u.oneCell'=aB)
 (wP:m+k<=maxLen) (PQ:(m+k)*bytes<=140737488355328):
 ∃v' w',(Pk #[t,t] ty #[v,ak (ah a) k c]).run P w= .ok v' w'/\w'.ownsRow 0 e size v' (m+k) (xs++news)/\w.grownBy w' v.ownBlock/\(∀q,v'.ownBlock=ah q->v.ownBlock=ah q\/w.heap.size<=q):=by
 obtain⟨v',w',hr,h2,h3,h4⟩:=run_append_own (P:=P) w 0 t ty e i z size bytes ht hi hz pU U2 hzs hsz v m xs xj a k c news hl SV h1 wP PQ (bC _);refine⟨v',w',hr,h2,h3,fun q hq=>?_⟩;have akr:((m+k:Nat):Int)<=9223372036854775807:=by simp only[maxLen]at wP;omega
 rcases xj.2 with⟨rfl,rfl⟩|⟨g,cap,oU,rfl,zv,hg,hnc,hcm,hcs,Ml⟩
 ·by_cases hk:k=0
  rw[h4.2 ⟨rfl,hk⟩]at hq;cases hq;have pC:=run_append_nil (P:=P) w t ty e i z ht hi hz a k c news (by rw[pU];exact hl) SV J J (by rw[U2];have hb:=PQ;simp only[cI]at hb;omega);rw[hr]at pC;injection pC with e1 _
  subst e1;simp only[JA,dg]at hq;exact .inr J
 ·by_cases hroom:m+k<=cap
  ·have JN:m*i.size+news.length<=oU.size:=by rw[hl,hcs,pU,<-lW];exact ru _ hroom
   have pC:=run_append_room (P:=P) w t ty e i ht hi g m cap oU hg a k c news (by rw[pU];exact hl) SV h1 hroom JN;rw[hr]at pC;injection pC with e1 _
   subst e1;exact .inl hq
  have holds:∀j u,xs[j]?=ah u->w.cell? ((⟨g,0,aj⟩:Addr).add j)=ah u:=xj.cells (g:=g) I;have pC:=run_append_grow (P:=P) w t ty e i z ht hi hz ⟨g,0,aj⟩ m cap xs (by rw[pU];exact xj.1) holds a k c news (by rw[pU];exact hl) SV J J (growslice_fits J (by rw[U2];exact PQ));rw[hr]at pC;injection pC with e1 _
  subst e1;simp only[JA,dg]at hq;exact .inr J
structure El(P:Program)(t e:TypeId)(size bytes:Nat):Prop where
 ex:∃i z,P.underlying t=ah (.slice e)/\P.info? e=ah i/\i.zero=ah z/\i.size=size/\i.bytes=bytes/\z.cells.size=size/\0<size
def elB(P:Program)(t e:TypeId)(size bytes:Nat):Bool:=
 (match P.underlying t with|some (.slice e')=>fO e' e|_=>aD)&&(match P.info? e with|some i=>fO i.size size&&fO i.bytes bytes&&(match i.zero with|some z=>fO z.cells.size size|none=>aD)|none=>aD)&&dB 0 size
theorem El.of{t e:TypeId}{size bytes:Nat}(h:elB P t e size bytes=aB):El P t e size bytes:=by
 unfold elB at h;simp only[ff]at h;obtain⟨⟨h1,h2⟩,h3⟩:=h
 cases e1:P.underlying t with
 |none=>rw[e1]at h1;cases h1
 | some d=>
  rw[e1]at h1
  cases d<;>try (cases h1;done)
  rename_i e'
  obtain rfl:=kP h1
  cases e2:P.info? e' with
  |none=>rw[e2]at h2;cases h2
  | some i=>
   rw[e2]at h2;simp only[ff]at h2;obtain⟨⟨h4,h5⟩,h6⟩:=h2
   cases e3:i.zero with
   |none=>rw[e3]at h6;cases h6
   | some z=>
    rw[e3]at h6;exact⟨i,z,e1,e2,e3,kP h4,kP h5,kP h6,mW h3⟩
theorem U3{t e:TypeId}{s x:Operand}{i size bytes m k c:Nat}{v:Value}{xs ys:List Value}{a:Addr}(xo:El P t e size bytes)(hi:L[i]?=ah (bx e size v m xs))(hs:ev fr s=ah v)(hx:ev fr x=ah (ak (ah a) k c))
 (hy:∀j u,ys[j]?=ah u->At W L (a.add j) u) (hl:ys.length=k*size) (h1:∀u∈ys,u.oneCell'=aB) (wP:m+k<=140737488355328) (hb:(m+k)*bytes<=140737488355328) (hn:dB d n=aB)
 (h:∀v',TL P n W ops Q rest ((d,v')::fr) (L.set i (bx e size v' (m+k) (xs++ys)))):
 TL P n W ops Q (⟨ah d,.call {callee:= .builtin .append,args:=#[s,x],argTypes:=#[t,t]},ty,pos,after,aj⟩::rest) fr L:=kW I fun act w hr hm K hK=>by
 obtain⟨inf,z,ht,Hh,hz,pU,U2,hzs,hsz⟩:=xo.ex;obtain⟨v',w',hrun,h2,h3,h4⟩:=tX (ty:=ty) (c:=c) ht Hh hz pU U2 hzs hsz w (hm.get hi:w.ownsRow 0 e size v m xs) hl (fun j u hj=>hy j u hj w hm) h1 (by unfold maxLen;omega) hb;have e':(execOp act.eval ⟨ah d,.call {callee:= .builtin .append,args:=#[s,x],argTypes:=#[t,t]},ty,pos,after,aj⟩).run P w= .ok (.value v') w':=by
  simp only[rm,D6,PB,fw,mu,hr.ev hs,hr.ev hx,mj,hrun,oO,mT]
 unfold gY;rw[e'];exact hK _ _ ((h v').go _ _ (hr.put hn _) (hm.CY hi h3 h2 h4))
theorem JO{t e:TypeId}{s x:Operand}{i size bytes m k c:Nat}{v:Value}{xs ys:List Value}{p:Addr}{act:Act}{w:World}(xo:El P t e size bytes)(hi:L[i]?=ah (bx e size v m xs))(hs:ev fr s=ah v)(hx:ev fr x=ah (ak (ah p) k c))
 (hy:∀j u,ys[j]?=ah u->w.cell? (p.add j)=ah u) (hl:ys.length=k*size) (h1:∀u∈ys,u.oneCell'=aB) (wP:m+k<=140737488355328) (hb:(m+k)*bytes<=140737488355328) (hn:dB d n=aB)
 (h:∀v',TL P n W ops Q rest ((d,v')::fr) (L.set i (bx e size v' (m+k) (xs++ys)))) (hr:nt n act fr) (hm:Mem W L w):
 wpList P ops Q (⟨ah d,.call {callee:= .builtin .append,args:=#[s,x],argTypes:=#[t,t]},ty,pos,after,aj⟩::rest) act w:=by
 refine wpList_plain I fun K hK=>?_;obtain⟨inf,z,ht,Hh,hz,pU,U2,hzs,hsz⟩:=xo.ex;obtain⟨v',w',hrun,h2,h3,h4⟩:=tX (ty:=ty) (c:=c) ht Hh hz pU U2 hzs hsz w (hm.get hi:w.ownsRow 0 e size v m xs) hl hy h1 (by unfold maxLen;omega) hb;have e':(execOp act.eval ⟨ah d,.call {callee:= .builtin .append,args:=#[s,x],argTypes:=#[t,t]},ty,pos,after,aj⟩).run P w= .ok (.value v') w':=by
  simp only[rm,D6,PB,fw,mu,hr.ev hs,hr.ev hx,mj,hrun,oO,mT]
 unfold gY;rw[e'];exact hK _ _ ((h v').go _ _ (hr.put hn _) (hm.CY hi h3 h2 h4))
theorem PR{t e:TypeId}{s x:Operand}{i size bytes m c:Nat}{v:Value}{xs:List Value}(xo:El P t e size bytes)(hi:L[i]?=ah (bx e size v m xs))(hs:ev fr s=ah v)(hx:ev fr x=ah (ak aj 0 c))(hn:dB d n=aB)
 (h:TL P n W ops Q rest ((d,v)::fr) L):
 TL P n W ops Q (⟨ah d,.call {callee:= .builtin .append,args:=#[s,x],argTypes:=#[t,t]},ty,pos,after,aj⟩::rest) fr L:=kW I fun act w hr hm K hK=>by
 obtain⟨inf,z,ht,Hh,hz,pU,U2,hzs,hsz⟩:=xo.ex;have xj:w.ownsRow 0 e size v m xs:=hm.get hi;have e':(execOp act.eval ⟨ah d,.call {callee:= .builtin .append,args:=#[s,x],argTypes:=#[t,t]},ty,pos,after,aj⟩).run P w= .ok (.value v) w:=by
  rcases xj.2 with⟨rfl,rfl⟩|⟨g,cap,oU,rfl,zv,hg,hnc,hcm,hcs,Ml⟩
  simp[rm,D6,hr.ev hs,hr.ev hx,Pk,run_underlying ht,sizeOf,typeInfo,Hh,XN,XM];simp[rm,D6,hr.ev hs,hr.ev hx,Pk,run_underlying ht,sizeOf,typeInfo,Hh,XN,XM,loadCells,hnc,storeCells]
 unfold gY;rw[e'];exact hK _ _ (h.go _ _ (hr.put hn _) hm)
theorem uH{t:TypeId}{p x:Operand}{i g off c:Nat}{cs cs':Array Value}{T:TypeId}{agg:Bool}{v:Value}(hT:Ty P t agg c)(hi:L[i]?=ah (aO g cs T))(hp:ev fr p=ah (aH (ah ⟨g,off,aj⟩)))(hx:ev fr x=ah v)(hv:v.cells.size=c)(h1:v.cells.toList.all f_=aB)
 (JN:off+c<=cs.size) (hcs:cs'=(cs.toList.take off++v.cells.toList++cs.toList.drop (off+c)).toArray) (h:TL P n W ops Q rest fr (L.set i (aO g cs' T))):
 TL P n W ops Q (⟨aj,.store t p x,ty,pos,after,aj⟩::rest) fr L:=kW I fun act w hr hm K hK=>by
 have hg:w.heap[g]?=ah (.cells cs T (0,0)):=hm.get hi;have hst:=run_storeCells_at P g off T v.cells.toList 0 cs w hg (by simp[hv];omega) (oR.1 h1);simp only[ji,pL,hv]at hst;rw[<-hcs]at hst;have e':(execOp act.eval ⟨aj,.store t p x,ty,pos,after,aj⟩).run P w= .ok .skip (w.setRow g cs'):=by
  simp[execOp,hr.ev hp,hr.ev hx,Pl,x6,storeVar,hT.size,hv,hst]
 unfold gY;rw[e'];exact hK _ _ (h.go _ _ (hr.rU undef) (hm.CY hi ⟨rfl,rfl,rfl,by simp,fun k _ hk=>setRow_other w g k _ (fun e=>hk (by subst e;rfl))⟩ (setRow_heap w g cs _ T _ hg) fun k hk=> .inl hk))
theorem kY{t:TypeId}{p x:Operand}{i g off c size cap m k:Nat}{xs:List Value}{e:TypeId}{v:Value}(hT:Ty P t aD c)(hi:L[i]?=ah (bx e size (ak (ah ⟨g,0,aj⟩) m cap) k xs))(hp:ev fr p=ah (aH (ah ⟨g,off,aj⟩)))(hx:ev fr x=ah v)(hv:v.cells=#[v])(hc:c=1)(h1:v.oneCell'=aB)
 (JN:off<xs.length) (h:TL P n W ops Q rest fr (L.set i (bx e size (ak (ah ⟨g,0,aj⟩) m cap) k (xs.set off v)))):
 TL P n W ops Q (⟨aj,.store t p x,ty,pos,after,aj⟩::rest) fr L:=kW I fun act w hr hm K hK=>by
 subst hc;have xj:w.ownsRow 0 e size (ak (ah ⟨g,0,aj⟩) m cap) k xs:=hm.get hi;have ahr:=xj;rcases xj.2 with⟨h0,_⟩|⟨g',PT,oU,he,zv,hg,hnc,hcm,hcs,Ml⟩
 ·cases h0
 simp only[kr,dg,D5,and_true]at he;obtain⟨rfl,rfl,rfl⟩:=he;have hlen:xs.length=m*size:=xj.1;have afP:off<oU.size:=by rw[hcs];exact jt J (ru size hnc)
 have hst:=run_storeCells_at P g off e [v] 0 oU w hg (by simp;omega) (by simpa using h1);simp only[ji,List.length_singleton]at hst;have sW:oU.toList.take off++[v]++oU.toList.drop (off+1)=oU.toList.set off v:=by
  rw[Ec,if_pos (by simpa using afP)];simp
 rw[sW]at hst;have e':(execOp act.eval ⟨aj,.store t p x,ty,pos,after,aj⟩).run P w= .ok .skip (w.setRow g (oU.toList.set off v).toArray):=by
  simp[execOp,hr.ev hp,hr.ev hx,Pl,x6,storeVar,hT.size,hv,hst]
 unfold gY;rw[e'];refine hK _ _ (h.go _ _ (hr.rU undef) (hm.CY hi ⟨rfl,rfl,rfl,by simp,fun k _ hk=>setRow_other w g k _ (fun e=>hk (by subst e;rfl))⟩ ?_ fun k hk=> .inl hk));refine⟨by rw[List.length_set];exact xj.1,.inr ⟨g,cap,_,rfl,zv,setRow_heap w g oU _ e _ hg,hnc,hcm,by simp[hcs],?_⟩⟩;simp only[Ye];rw[Ml]
theorem U4{t u e:TypeId}{x:Operand}{m:Nat}{v:Value}{l:List UInt8}(ht:P.underlying t=ah (.slice e))(he:P.underlying e=ah (.int .u8))(hu:P.underlying u=ah .string)(hx:ev fr x=ah v)(hm:m=l.length)(h:SlL W L v m (l.map Yj)):RR P n W ⟨dst,.convert t u x,ty,pos,after,guard⟩ fr L (str l):= .mk fun a w hr xp=>by
 subst hm;have JM:=hr.ev hx;obtain⟨base,cap,rfl,_,_,fZ⟩:=h w xp;have e':(convert t u (ak base l.length cap)).run P w= .ok (str l) w:=by
  cases l with
  |nil=>
   cases base with
   |none=>simp[convert,run_underlying ht,run_underlying hu,run_underlying he,XR,str];rfl
   |some p=>simp[convert,run_underlying ht,run_underlying hu,run_underlying he,XR,str,loadCells,loadCellsFrom];rfl
  |cons b l=>
   obtain⟨g,off,rfl,hh⟩:=fZ (by simp);exact Ma ht he hu I hh
 simp only[execOp,JM,mj,e',oO,mT]
end
def Enters(P:Program)(f:FuncId):Prop:=∀args w,(callFunc f args).run P w= .ok (.enter f args) w
def SX(P:Program)(f:FuncId):Bool:=match P.funcs[f]? with|some fn=>fn.body.isSome&&!(fn.name== "runtime.NumGoroutine")|none=>aD
theorem Enters.of{f:FuncId}(h:SX P f=aB):Enters P f:=by
 unfold SX at h
 cases e:P.funcs[f]? with
 |none=>rw[e]at h;cases h
 |some fn=>
  rw[e]at h;simp only[ff,A0]at h;intro args w;have h1:¬fn.body=none:=fun hb=>by rw[hb]at h;simp at h
  have h2:¬fn.name= "runtime.NumGoroutine" :=by simpa using h.2
  simp[callFunc,e,h2,h1]
section
variable{f:FuncId}{ts:Array TypeId}{cl x1 x2 x3 x4 x5:Operand}{v1 v2 v3 v4 v5:Value}{first cap:Array Value}
theorem he0(hf:Enters P f)(hc:ev fr cl=ah (.func (.func f) #[] #[])):∀a w,nt n a fr->(execOp a.eval ⟨dst,.call {callee:= .value cl,args:=#[],argTypes:=ts},ty,pos,after,guard⟩).run P w= .ok (.enter f #[]) w:=fun a w hr=>by
 have AV:∀args w,(callFunc f args).run P w= .ok (.enter f args) w:=hf;simp[execOp,resolve,hr.ev hc,uv,invoke,AV]
theorem kZ(hf:Enters P f)(hc:ev fr cl=ah (.func (.func f) #[] #[]))(h1:ev fr x1=ah v1):∀a w,nt n a fr->(execOp a.eval ⟨dst,.call {callee:= .value cl,args:=#[x1],argTypes:=ts},ty,pos,after,guard⟩).run P w= .ok (.enter f #[v1]) w:=fun a w hr=>by
 have AV:∀args w,(callFunc f args).run P w= .ok (.enter f args) w:=hf;simp[execOp,resolve,hr.ev hc,hr.ev h1,uv,invoke,AV]
theorem fP(hf:Enters P f)(hc:ev fr cl=ah (.func (.func f) #[] #[]))(h1:ev fr x1=ah v1)(h2:ev fr x2=ah v2):∀a w,nt n a fr->(execOp a.eval ⟨dst,.call {callee:= .value cl,args:=#[x1,x2],argTypes:=ts},ty,pos,after,guard⟩).run P w= .ok (.enter f #[v1,v2]) w:=fun a w hr=>by
 have AV:∀args w,(callFunc f args).run P w= .ok (.enter f args) w:=hf;simp[execOp,resolve,hr.ev hc,hr.ev h1,hr.ev h2,uv,invoke,AV]
theorem ye(hf:Enters P f)(hc:ev fr cl=ah (.func (.func f) #[] #[]))(h1:ev fr x1=ah v1)(h2:ev fr x2=ah v2)(h3:ev fr x3=ah v3):∀a w,nt n a fr->(execOp a.eval ⟨dst,.call {callee:= .value cl,args:=#[x1,x2,x3],argTypes:=ts},ty,pos,after,guard⟩).run P w= .ok (.enter f #[v1,v2,v3]) w:=fun a w hr=>by
 have AV:∀args w,(callFunc f args).run P w= .ok (.enter f args) w:=hf;simp[execOp,resolve,hr.ev hc,hr.ev h1,hr.ev h2,hr.ev h3,uv,invoke,AV]
theorem Hi(hf:Enters P f)(hc:ev fr cl=ah (.func (.func f) #[] #[]))(h1:ev fr x1=ah v1)(h2:ev fr x2=ah v2)(h3:ev fr x3=ah v3)(h4:ev fr x4=ah v4):∀a w,nt n a fr->(execOp a.eval ⟨dst,.call {callee:= .value cl,args:=#[x1,x2,x3,x4],argTypes:=ts},ty,pos,after,guard⟩).run P w= .ok (.enter f #[v1,v2,v3,v4]) w:=fun a w hr=>by
 have AV:∀args w,(callFunc f args).run P w= .ok (.enter f args) w:=hf;simp[execOp,resolve,hr.ev hc,hr.ev h1,hr.ev h2,hr.ev h3,hr.ev h4,uv,invoke,AV]
theorem Ep(hf:Enters P f)(hc:ev fr cl=ah (.func (.func f) first cap))(h1:ev fr x1=ah v1):∀a w,nt n a fr->(execOp a.eval ⟨dst,.call {callee:= .value cl,args:=#[x1],argTypes:=ts},ty,pos,after,guard⟩).run P w= .ok (.enter f (first++#[v1]++cap)) w:=fun a w hr=>by
 have AV:∀args w,(callFunc f args).run P w= .ok (.enter f args) w:=hf;simp[execOp,resolve,hr.ev hc,hr.ev h1,uv,invoke,AV]
end
end
end cg
namespace cg
open Go.RowKit cT ey
class bI(P:Program)(t:TypeId)(d:outParam TypeDesc):Prop where
 eq:P.underlying t=ah d
class aI(P:Program)(t:TypeId)(agg:outParam Bool)(c:outParam Nat):Prop where
 ty:Ty P t agg c:=by exact Ty.of (by kernel_rfl)
class dZ(P:Program)(t:TypeId)(f:Nat)(o:outParam Nat):Prop where
 fld:Fld P t f o:=by exact Fld.of (by kernel_rfl)
class sM(P:Program)(t:TypeId)(e:outParam TypeId)(size bytes:outParam Nat):Prop where
 el:El P t e size bytes:=by exact El.of (by kernel_rfl)
class aF(P:Program)(f:FuncId):Prop where
 en:Enters P f:=by exact Enters.of (by kernel_rfl)
class eS(P:Program)(t:TypeId)(cs:outParam (Array Value)):Prop where
 zero:(P.info? t).map (fun i=>i.zero.map Value.cells)=ah (ah cs):=by kernel_rfl
section
variable{P:Program}{n:Nat}{W:b_}{fr:Fr}{L:List b9}{Q:Exit->Act->World->Prop}{ops:Array Oper}{rest:List Oper}{d:Nat}{ty:TypeId}{pos:String}{after:Array Edge}
theorem eS.ex{t:TypeId}{cs:Array Value}[h:eS P t cs]:∃i z,P.info? t=ah i/\i.zero=ah z/\z.cells=cs:=by
 have h1:=h.zero
 cases e:P.info? t with
 |none=>rw[e]at h1;simp at h1
 |some i=>
  rw[e]at h1
  cases e2:i.zero with
  |none=>simp[e2]at h1
  |some z=>simp[e2]at h1;exact⟨i,z,rfl,e2,h1⟩
theorem aY{t:TypeId}{cs:Array Value}[eS P t cs](hn:dB d n=aB)(h:∀g,TL P n W ops Q rest ((d,aH (ah ⟨g,0,aj⟩))::fr) (L++[aO g cs t])):
 TL P n W ops Q (⟨ah d,.alloc t,ty,pos,after,aj⟩::rest) fr L:=by
 obtain⟨i,z,h1,h2,h3⟩:=eS.ex (P:=P) (t:=t);exact Yu h1 h2 h3 hn h
theorem gI{t e:TypeId}{x:Operand}{v:Value}{c bytes:Nat}{cs:Array Value}[xo:sM P t e c bytes](hx:ev fr x=ah v)(hcs:v.cells=cs)(hv:cs.size=c)(hs:ya c 16777216=aB)(hn:dB d n=aB)
 (h:∀g,TL P n W ops Q rest ((d,ak (ah ⟨g,0,aj⟩) 1 1)::fr) (L++[aO g cs e])):TL P n W ops Q (⟨ah d,.buildSlice t 1 #[(0,x)],ty,pos,after,aj⟩::rest) fr L:=by
 obtain⟨inf,z,ht,Hh,hz,pU,U2,hzs,hsz⟩:=xo.el.ex;exact acS ht Hh hz pU hzs hx hcs hv hsz (mW hs) hn h
theorem Mem.PU{w:World}(e:TypeId)(size:Nat)(h:Mem W L w):Mem W (L++[bx e size (ak aj 0 0) 0 []]) w:=
 h.append (Gr.refl w) (rW.one (World.ownsRow_nil _ _ _ _) fun k hk=>by cases hk)
theorem jw{c:Code}(e:TypeId)(size:Nat)(h:T P n W c Q fr (L++[bx e size (ak aj 0 0) 0 []])):T P n W c Q fr L:=⟨fun a w hr hm=>h.go a w hr (hm.PU e size)⟩
theorem rZ(e:TypeId)(size:Nat)(h:TL P n W ops Q rest fr (L++[bx e size (ak aj 0 0) 0 []])):TL P n W ops Q rest fr L:=⟨fun a w hr hm=>h.go a w hr (hm.PU e size)⟩
theorem acT{L':List b9}(is:List Nat)(hn:is.Nodup)(hl:L'=is.filterMap fun i=>L[i]?)(h:TL P n W ops Q rest fr L'):TL P n W ops Q rest fr L:=⟨fun a w hr hm=>h.go a w hr (hm.pick is hn hl)⟩
theorem oq{t e:TypeId}{s x:Operand}{i q g size bytes m:Nat}{v:Value}{xs:List Value}{cs:Array Value}{T:TypeId}[xo:sM P t e size bytes](hi:L[i]?=ah (bx e size v m xs))(hq:L[q]?=ah (aO g cs T))(hs:ev fr s=ah v)(hx:ev fr x=ah (ak (ah ⟨g,0,aj⟩) 1 1))
 (hl:cs.size=size) (h1:cs.toList.all f_=aB) (wP:m+1<=140737488355328) (hb:(m+1)*bytes<=140737488355328) (hn:dB d n=aB)
 (h:∀v',TL P n W ops Q rest ((d,v')::fr) (L.set i (bx e size v' (m+1) (xs++cs.toList)))):
 TL P n W ops Q (⟨ah d,.call {callee:= .builtin .append,args:=#[s,x],argTypes:=#[t,t]},ty,pos,after,aj⟩::rest) fr L:=
 U3 xo.el hi hs hx (fun j u hj=>by rw[cT.g_,cI];exact aE hq (by simpa using hj)) (by simpa using hl) (oR.1 h1) wP hb hn h
theorem ma{t e:TypeId}{s x:Operand}{i q g bytes m:Nat}{v u:Value}{xs:List Value}{cs:Array Value}{T:TypeId}[xo:sM P t e 1 bytes](hi:L[i]?=ah (bx e 1 v m xs))(hq:L[q]?=ah (aO g cs T))(hs:ev fr s=ah v)(hx:ev fr x=ah (ak (ah ⟨g,0,aj⟩) 1 1))
 (hu:cs=#[u]) (h1:u.oneCell'=aB) (wP:m+1<=140737488355328) (hb:(m+1)*bytes<=140737488355328) (hn:dB d n=aB)
 (h:∀v',TL P n W ops Q rest ((d,v')::fr) (L.set i (bx e 1 v' (m+1) (xs++[u])))):
 TL P n W ops Q (⟨ah d,.call {callee:= .builtin .append,args:=#[s,x],argTypes:=#[t,t]},ty,pos,after,aj⟩::rest) fr L:=by
 subst hu;exact oq hi hq hs hx I (by simp[h1]) wP hb hn h
theorem fl.front{p:Nat->Prop}{w:World}{L L':List b9}(h:fl p w (L++L')):fl p w L:=
  ⟨fun i o hi=>h.all i o (by rw[fR (cU.1 hi).1];exact hi),
   fun i j o o' uf hi hj=>h.apart i j o o' uf (by rw[fR (cU.1 hi).1];exact hi) (by rw[fR (cU.1 hj).1];exact hj)⟩
theorem Mem.front{w:World}{L L':List b9}(h:Mem W (L++L') w):Mem W L w:=⟨h.low,h.owns.front⟩
theorem Mm{L':List b9}(h:TL P n W ops Q rest fr L):TL P n W ops Q rest fr (L++L'):=⟨fun a w hr hm=>h.go a w hr hm.front⟩
theorem ka{t e:TypeId}{s x:Operand}{i bytes m d':Nat}{v u:Value}{xs:List Value}{ty':TypeId}{pos':String}{PV:Array Edge}[xo:sM P t e 1 bytes](hi:L[i]?=ah (bx e 1 v m xs))(hx:ev fr x=ah u)(hu:u.cells=#[u])(h1:u.oneCell'=aB)(hn':dB d' n=aB)
 (hs:ev ((d',undef)::fr) s=ah v) (hne:∀z,s= .tmp z->fO d' z=aD) (wP:m+1<=140737488355328) (hb:(m+1)*bytes<=140737488355328) (hn:dB d n=aB)
 (h:∀z v',TL P n W ops Q rest ((d,v')::(d',z)::fr) (L.set i (bx e 1 v' (m+1) (xs++[u])))):
 TL P n W ops Q (⟨ah d',.buildSlice t 1 #[(0,x)],ty',pos',PV,aj⟩::⟨ah d,.call {callee:= .builtin .append,args:=#[s,.tmp d'],argTypes:=#[t,t]},ty,pos,after,aj⟩::rest) fr L:=by
 have hil:i<L.length:=(cU.1 hi).1;have yf:∀z,ev ((d',z)::fr) s=ah v:=fun z=>by
  cases s with
  |tmp q=>have e:=hne q I;simp only[ev,look,e,cond_false]at hs⊢;exact hs
  |const q=>exact hs
  |global q=>exact hs
  |func q=>exact hs
 refine gI hx hu I I hn' fun g=>?_;refine oq (i:=i) (q:=L.length) (by rw[fR hil];exact hi) (A9) (yf _) (by simp[ev,look]) I (by simp[h1]) wP hb hn fun v'=>?_;rw[Ya _ _ hil];exact Mm (h _ v')
theorem k7{t e:TypeId}{s x:Operand}{i c bytes m d':Nat}{v:Value}{cs:Array Value}{xs:List Value}{ty':TypeId}{pos':String}{PV:Array Edge}[xo:sM P t e c bytes](hi:L[i]?=ah (bx e c v m xs))(hx:ev fr x=ah (.agg cs))(hc:cs.size=c)(SY:ya c 16777216=aB)(h1:cs.toList.all f_=aB)(hn':dB d' n=aB)
 (hs:ev ((d',undef)::fr) s=ah v) (hne:∀z,s= .tmp z->fO d' z=aD) (wP:m+1<=140737488355328) (hb:(m+1)*bytes<=140737488355328) (hn:dB d n=aB)
 (h:∀z v',TL P n W ops Q rest ((d,v')::(d',z)::fr) (L.set i (bx e c v' (m+1) (xs++cs.toList)))):
 TL P n W ops Q (⟨ah d',.buildSlice t 1 #[(0,x)],ty',pos',PV,aj⟩::⟨ah d,.call {callee:= .builtin .append,args:=#[s,.tmp d'],argTypes:=#[t,t]},ty,pos,after,aj⟩::rest) fr L:=by
 have hil:i<L.length:=(cU.1 hi).1;have yf:∀z,ev ((d',z)::fr) s=ah v:=fun z=>by
  cases s with
  |tmp q=>have e:=hne q I;simp only[ev,look,e,cond_false]at hs⊢;exact hs
  |const q=>exact hs
  |global q=>exact hs
  |func q=>exact hs
 refine gI hx I hc SY hn' fun g=>?_;refine oq (i:=i) (q:=L.length) (by rw[fR hil];exact hi) (A9) (yf _) (by simp[ev,look]) hc h1 wP hb hn fun v'=>?_;rw[Ya _ _ hil];exact Mm (h _ v')
theorem eL{e':Exit}(e:TypeId)(size:Nat)(h:E n W e' Q fr (L++[bx e size (ak aj 0 0) 0 []])):E n W e' Q fr L:=⟨fun a w hr hm=>h.go a w hr (hm.PU e size)⟩
def dr(e:TypeId)(size m:Nat)(xs:List Value)(f:Value->Value):Spec Value:=⟨fun _=>True,f,fun v=>[bx e size v m xs]⟩
end
def Yx(fr:Fr):Op->Option Value
 | .move x=>ev fr x
 | .assign x=>ev fr x
 | .extract t i=>match ev fr t with
  |some (.tuple vs)=>vs[i]?
  |_=>aj
 | .pick c x y=>match ev fr c with
  |some (.bool aB)=>ev fr x
  |some (.bool aD)=>ev fr y
  |_=>aj
 | .unOp .not _ x=>match ev fr x with
  |some (.bool aB)=>ah (.bool aD)
  |some (.bool aD)=>ah (.bool aB)
  |_=>aj
 |_=>aj
section
variable{P:Program}{n:Nat}{W:b_}{fr:Fr}{L:List b9}{dst:Option Tmp}{ty:TypeId}{pos:String}{after:Array Edge}{guard:Option (Nat×Bool)}
theorem qp{op:Op}{v:Value}(h:Yx fr op=ah v):RR P n W ⟨dst,op,ty,pos,after,guard⟩ fr L v:=by
 unfold Yx at h;split at h;exact wN h;exact UY h
 ·split at h
  ·rename_i e;exact PM e h
  cases h
 ·split at h
  ·rename_i e;exact Yp e h
  ·rename_i e;exact Yq e h
  cases h
 ·split at h
  ·rename_i e
   simp only[dg]at h;subst h;exact JL e I
  ·rename_i e
   simp only[dg]at h;subst h;exact JL e I
  cases h
 cases h
end
section
variable{P:Program}{n:Nat}{W:b_}{fr:Fr}{L:List b9}{Q:Exit->Act->World->Prop}{ops:Array Oper}{rest:List Oper}{d:Nat}{o:Oper}{v:Value}
theorem qv(hg:o.guard=aj)(hr:RR P n W o fr L v)(hd:o.dst=ah d)(hn:dB d n=aB)(h:TL P n W ops Q rest ((d,v)::fr) L):TL P n W ops Q (o::rest) fr L:=dC hr hg hd hn h
theorem qg{q e:Nat}{b:Bool}(hg:o.guard=ah (q,b))(hj:(ops[q]?).bind (·.dst)=ah e)(hl:look fr e=ah (.bool b))(h:TL P n W ops Q ({o with guard:=aj}::rest) fr L):TL P n W ops Q (o::rest) fr L:=Dm hg hj hl h
theorem qs{j e:Nat}{b:Bool}{u:Value}(hg:o.guard=ah (j,b))(hj:(ops[j]?).bind (·.dst)=ah e)(hl:look fr e=ah u)(hu:acN b u=aB)(hd:o.dst=ah d)(hn:dB d n=aB)(h:TL P n W ops Q rest ((d,undef)::fr) L):TL P n W ops Q (o::rest) fr L:=acO hg hj hl hu hd hn h
theorem U5{c:Operand}{x y:Code}(hc:ev fr c=ah (.bool aB))(h:T P n W x Q fr L):T P n W (.cond c x y) Q fr L:=SQ hc h
theorem U6{c:Operand}{x y:Code}(hc:ev fr c=ah (.bool aD))(h:T P n W y Q fr L):T P n W (.cond c x y) Q fr L:=SR hc h
theorem qT{p:Prop}[inst:Decidable p](h:p):decide p=true:=decide_eq_true h
theorem qF{p:Prop}[inst:Decidable p](h:¬p):decide p=false:=decide_eq_false h
variable{dst:Option Tmp}{ty:TypeId}{pos:String}{after:Array Edge}{guard:Option (Nat×Bool)}
theorem CZ{t e:TypeId}{x:Operand}{p:Option Addr}{m cap:Nat}(ht:P.underlying t=ah (.slice e))(hx:ev fr x=ah (ak p m cap)):RR P n W ⟨dst,.call {callee:= .builtin .len,args:=#[x],argTypes:=#[t]},ty,pos,after,guard⟩ fr L (ap av m):=PO ht hx
theorem ahs{s:TypeId}{x:Operand}{f o b off r:Nat}(hf:Fld P s f o)(hx:ev fr x=ah (aH (ah ⟨b,off,aj⟩)))(hr:off+o=r):RR P n W ⟨dst,.fieldAddr s x f,ty,pos,after,guard⟩ fr L (aH (ah ⟨b,r,aj⟩)):=Mj hf hx hr
end
section
variable{P:Program}{n:Nat}{W:b_}{fr:Fr}{L:List b9}{Q:Exit->Act->World->Prop}{ops:Array Oper}{rest:List Oper}{d:Nat}{o:Oper}{v:Value}{dst:Option Tmp}{ty:TypeId}{pos:String}{after:Array Edge}{guard:Option (Nat×Bool)}{t u:TypeId}{x y:Operand}{k:IntKind}{m m':Int}
theorem QV(hr:RR P n W o fr L v)(h:TL P n W ops Q rest ((d,v)::fr) L)(hg:o.guard=none:=by exact I)(hd:o.dst=ah d:=by exact I)(hn:dB d n=true:=by exact I):TL P n W ops Q (o::rest) fr L:=dC hr hg hd hn h
theorem QP{op:Op}(h:Yx fr op=ah v:=by exact I):RR P n W ⟨dst,op,ty,pos,after,guard⟩ fr L v:=qp h
theorem QS{l:List UInt8}(hx:ev fr x=ah (str l):=by exact I)(ht:P.underlying t=ah .string:=by exact bI.eq):RR P n W ⟨dst,.call {callee:= .builtin .len,args:=#[x],argTypes:=#[t]},ty,pos,after,guard⟩ fr L (ap av l.length):=U0 ht hx
theorem QL{e:TypeId}{p:Option Addr}{m cap:Nat}(hx:ev fr x=ah (ak p m cap):=by exact I)(ht:P.underlying t=ah (.slice e):=by exact bI.eq):RR P n W ⟨dst,.call {callee:= .builtin .len,args:=#[x],argTypes:=#[t]},ty,pos,after,guard⟩ fr L (ap av m):=CZ ht hx
theorem QA{s:TypeId}{f o b off r:Nat}(hx:ev fr x=ah (aH (ah ⟨b,off,aj⟩)):=by exact I)(hf:Fld P s f o:=by exact dZ.fld)(hr:off+o=r:=by exact I):RR P n W ⟨dst,.fieldAddr s x f,ty,pos,after,guard⟩ fr L (aH (ah ⟨b,r,aj⟩)):=Mj hf hx hr
theorem QlT(hx:ev fr x=ah (.int k m):=by exact I)(hy:ev fr y=ah (.int k m'):=by exact I)(h:m<m':=by omega):RR P n W ⟨dst,.binOp .lss t x y u,ty,pos,after,guard⟩ fr L (.bool aB):=dT hx hy (decide_eq_true h)
theorem QlF(hx:ev fr x=ah (.int k m):=by exact I)(hy:ev fr y=ah (.int k m'):=by exact I)(h:¬(m<m'):=by omega):RR P n W ⟨dst,.binOp .lss t x y u,ty,pos,after,guard⟩ fr L (.bool aD):=dT hx hy (decide_eq_false h)
theorem QmT(hx:ev fr x=ah (.int k m):=by exact I)(hy:ev fr y=ah (.int k m'):=by exact I)(h:m<=m':=by omega):RR P n W ⟨dst,.binOp .leq t x y u,ty,pos,after,guard⟩ fr L (.bool aB):=Bg hx hy (decide_eq_true h)
theorem QmF(hx:ev fr x=ah (.int k m):=by exact I)(hy:ev fr y=ah (.int k m'):=by exact I)(h:¬(m<=m'):=by omega):RR P n W ⟨dst,.binOp .leq t x y u,ty,pos,after,guard⟩ fr L (.bool aD):=Bg hx hy (decide_eq_false h)
theorem QgT(hx:ev fr x=ah (.int k m):=by exact I)(hy:ev fr y=ah (.int k m'):=by exact I)(h:m'<m:=by omega):RR P n W ⟨dst,.binOp .gtr t x y u,ty,pos,after,guard⟩ fr L (.bool aB):=eP hx hy (decide_eq_true h)
theorem QgF(hx:ev fr x=ah (.int k m):=by exact I)(hy:ev fr y=ah (.int k m'):=by exact I)(h:¬(m'<m):=by omega):RR P n W ⟨dst,.binOp .gtr t x y u,ty,pos,after,guard⟩ fr L (.bool aD):=eP hx hy (decide_eq_false h)
theorem QhT(hx:ev fr x=ah (.int k m):=by exact I)(hy:ev fr y=ah (.int k m'):=by exact I)(h:m'<=m:=by omega):RR P n W ⟨dst,.binOp .geq t x y u,ty,pos,after,guard⟩ fr L (.bool aB):=fx hx hy (decide_eq_true h)
theorem QhF(hx:ev fr x=ah (.int k m):=by exact I)(hy:ev fr y=ah (.int k m'):=by exact I)(h:¬(m'<=m):=by omega):RR P n W ⟨dst,.binOp .geq t x y u,ty,pos,after,guard⟩ fr L (.bool aD):=fx hx hy (decide_eq_false h)
theorem QeT(hx:ev fr x=ah (.int k m):=by exact I)(hy:ev fr y=ah (.int k m'):=by exact I)(h:m=m':=by omega):RR P n W ⟨dst,.binOp .eql t x y u,ty,pos,after,guard⟩ fr L (.bool aB):=cP hx hy (decide_eq_true h)
theorem QeF(hx:ev fr x=ah (.int k m):=by exact I)(hy:ev fr y=ah (.int k m'):=by exact I)(h:¬(m=m'):=by omega):RR P n W ⟨dst,.binOp .eql t x y u,ty,pos,after,guard⟩ fr L (.bool aD):=cP hx hy (decide_eq_false h)
theorem QnT(hx:ev fr x=ah (.int k m):=by exact I)(hy:ev fr y=ah (.int k m'):=by exact I)(h:m≠m':=by omega):RR P n W ⟨dst,.binOp .neq t x y u,ty,pos,after,guard⟩ fr L (.bool aB):=dz hx hy (decide_eq_true h)
theorem QnF(hx:ev fr x=ah (.int k m):=by exact I)(hy:ev fr y=ah (.int k m'):=by exact I)(h:¬(m≠m'):=by omega):RR P n W ⟨dst,.binOp .neq t x y u,ty,pos,after,guard⟩ fr L (.bool aD):=dz hx hy (decide_eq_false h)
theorem QaA{r:Int}(hx:ev fr x=ah (ap av m):=by exact I)(hy:ev fr y=ah (ap av m'):=by exact I)(h0: -9223372036854775808<=m+m':=by omega)(h1:m+m'<=9223372036854775807:=by omega)(hr:m+m'=r:=by exact I):RR P n W ⟨dst,.binOp .add t x y u,ty,pos,after,guard⟩ fr L (ap av r):=dh hx hy h0 h1 hr
theorem QaS{r:Int}(hx:ev fr x=ah (ap av m):=by exact I)(hy:ev fr y=ah (ap av m'):=by exact I)(h0: -9223372036854775808<=m-m':=by omega)(h1:m-m'<=9223372036854775807:=by omega)(hr:m-m'=r:=by exact I):RR P n W ⟨dst,.binOp .sub t x y u,ty,pos,after,guard⟩ fr L (ap av r):=eD hx hy h0 h1 hr
theorem QaM{r:Int}(hx:ev fr x=ah (ap av m):=by exact I)(hy:ev fr y=ah (ap av m'):=by exact I)(h0: -9223372036854775808<=m*m':=by omega)(h1:m*m'<=9223372036854775807:=by omega)(hr:m*m'=r:=by exact I):RR P n W ⟨dst,.binOp .mul t x y u,ty,pos,after,guard⟩ fr L (ap av r):=Mh hx hy h0 h1 hr
end
class Cd(p:Prop)(q:outParam Prop):Prop where
 go:q->p
theorem QZ{p q:Prop}[h:Cd p q](x:q):p:=h.go x
section
variable{P:Program}{n:Nat}{W:b_}{fr:Fr}{L:List b9}{Q:Exit->Act->World->Prop}{ops:Array Oper}{x y:Code}{id:Nat}{l:List Oper}{K:Act->World->Prop}
instance:Cd (TL P n W ops Q [] fr L) (E n W .normal Q fr L):=⟨lY⟩
instance:Cd (T P n W (x.seq y) Q fr L) (T P n W x (Exit.then (y.wp P Q) Q) fr L):=⟨bY⟩
instance:Cd (T P n W (.region id l.toArray aD) Q fr L) (TL P n W l.toArray Q l fr L):=⟨a_⟩
instance:Cd (T P n W .skip Q fr L) (E n W .normal Q fr L):=⟨pQ⟩
instance:Cd (T P n W (.exit id) Q fr L) (E n W (.exit id) Q fr L):=⟨pR⟩
instance:Cd (T P n W .ret Q fr L) (E n W .ret Q fr L):=⟨rX⟩
instance:Cd (T P n W (.block id x) Q fr L) (T P n W x (uw id Q) fr L):=⟨mX⟩
instance:Cd (E n W .normal (Exit.then (y.wp P Q) Q) fr L) (T P n W y Q fr L):=⟨mY⟩
instance:Cd (E n W (.exit id) (Exit.then K Q) fr L) (E n W (.exit id) Q fr L):=⟨mZ⟩
instance:Cd (E n W .ret (Exit.then K Q) fr L) (E n W .ret Q fr L):=⟨lD⟩
instance:Cd (E n W .normal (uw id Q) fr L) (E n W .normal Q fr L):=⟨kT⟩
instance:Cd (E n W .ret (uw id Q) fr L) (E n W .ret Q fr L):=⟨kU⟩
end
section
variable{α β:Type}
theorem zA{a:α}{l m:List α}:a::l++m=a::(l++m):=rfl
theorem zB{l:List α}:[]++l=l:=rfl
theorem zC{l:List α}:l++[]=l:=dQ l
theorem zD{f:α->Option β}{a:α}{l:List α}:uD f (a::l)=match f a with
 |none=>uD f l
 |some b=>b::uD f l:=List.filterMap_cons
theorem zE{f:α->Option β}:uD f []=[]:=rfl
theorem zF{a:α}{l:List α}{i:Nat}:(a::l)[i+1]?=l[i]?:=X8
theorem zG{a:α}{l:List α}:(a::l)[0]?=ah a:=rfl
theorem zH{a b:α}{l:List α}:(a::l).set 0 b=b::l:=rfl
theorem zI{a b:α}{l:List α}{i:Nat}:(a::l).set (i+1) b=a::l.set i b:=rfl
end
end cg
namespace cg
open Go.RowKit cT ey
section
variable{P:Program}{n:Nat}{W:b_}{fr:Fr}{L:List b9}{Q:Exit->Act->World->Prop}{ops:Array Oper}{rest:List Oper}{d:Nat}{dst:Option Tmp}{ty:TypeId}{pos:String}{after:Array Edge}{guard:Option (Nat×Bool)}
def sX(fr:Fr):List (Nat×Operand)->Option (List (Nat×Value))
 |[]=>ah []
 |(i,x)::r=>match ev fr x,sX fr r with|some v,ah l=>ah ((i,v)::l)|_,_=>aj
theorem sY{a:Act}(hr:nt n a fr):∀(l:List (Nat×Operand)) (vs:List (Nat×Value)),sX fr l=ah vs->l.map (fun(i,x)=>(i,a.eval x))=vs
 |[],vs,h=>by simp only[sX,dg]at h;subst h;rfl
 | (i,x)::r,vs,h=>by
  simp only[sX]at h;split at h
  ·rename_i v l h1 h2
   simp only[dg]at h;subst h;simp[hr.ev h1,sY hr r l h2]
  cases h
theorem bz{t:TypeId}{parts:Array (Nat×Operand)}{ps:List (Nat×Value)}{cs:Array Value}(hp:sX fr parts.toList=ah ps)(hrun:∀w,(dm t ps.toArray).run P w= .ok (.agg cs) w):RR P n W ⟨dst,.build t parts,ty,pos,after,guard⟩ fr L (.agg cs):= .mk fun a w hr _=>by
 have e:(parts.map fun(i,x)=>(i,a.eval x))=ps.toArray:=by
  rw[<-sY hr _ _ hp,<-DX,xV]
 simp only[execOp,mj];rw[e,hrun w];rfl
theorem Mn(c0:Nat->Option (Nat×Nat))(L3:∀i,c0 i=ah (i,1)):∀(vs:List Value) (k:Nat) (acc:Array Value),k+vs.length<=acc.size->(∀v∈vs,v.cells=#[v])->lT c0 acc ((vs.zipIdx k).map fun(v,i)=>(i,v))=ah (acc.toList.take k++vs++acc.toList.drop (k+vs.length)).toArray
 |[],k,acc,h,_=>by simp[lT]
 | v ::vs,k,acc,h,h1=>by
  simp only[cO]at h;have hv:=h1 v (by simp);rw[JD,fw];simp only[lT,L3,hv];rw[if_neg (by simp;omega)];have e:((#[v]:Array Value).zipIdx.foldl (fun cs (x:Value×Nat)=>cs.setIfInBounds (k+x.2) x.1) acc)=acc.setIfInBounds k v:=by simp
  rw[e,Mn c0 L3 vs (k+1) _ (by simp;omega) (fun u hu=>h1 u (by simp[hu]))]
  congr 2
  have hA:(acc.toList.take k).length=k:=by simp;omega
  have hA1:(acc.toList.take k++[v]).length=k+1:=by rw[bK,hA];rfl
  have e2:acc.toList.set k v=(acc.toList.take k++[v])++acc.toList.drop (k+1):=by
   rw[Ec,if_pos (by simp;omega)];simp
  simp only[Jt,cO];rw[e2,PD hA1,<-iQ,PE hA1,iQ];simp only[dL,kt,fN];rw[show k+1+vs.length=k+(vs.length+1)by omega]
theorem Yy{t e:TypeId}{bytes:Nat}(xo:El P t e 1 bytes)(vs:List Value)(h1:∀v∈vs,v.cells=#[v])(h0:0<vs.length)(hm:vs.length<=16777216)(w:World):
 (ux t vs.length (vs.zipIdx.map fun(v,i)=>(i,v)).toArray).run P w= .ok (ak (ah ⟨w.heap.size,0,aj⟩) vs.length vs.length) (w.alloc (.cells vs.toArray e)):=by
 obtain⟨i,z,ht,hi,hz,hc,_,hzc,_⟩:=xo.ex;have rY:=Mn (fun i=>ah (i*1,1)) (by simp) vs 0 ((DY (vs.length*1)).map (z.cells[· %z.cells.size]!)) (by simp) h1
 simp only[sU,fN,cI]at rY;rw[fS (by simp)]at rY;simp only[dQ]at rY;have hne:¬(vs.length*1>2^24):=by omega
 have Yw:¬(vs.length*1=0):=by omega
 simp only[ux,mj,run_underlying ht,oO,sizeOf,typeInfo,run_program,hi,mT,hc,zeroValue,hz,if_neg hne,if_neg Yw];simp only[rY,newRow];simp
theorem SZ{t e:TypeId}{bytes m:Nat}{parts:Array (Nat×Operand)}(vs:List Value)[xo:sM P t e 1 bytes](hp:sX fr parts.toList=ah (vs.zipIdx.map fun(v,i)=>(i,v)))(hm:vs.length=m)(h0:dB 0 m=aB)(h1:∀v∈vs,v.cells=#[v])(hs:ya m 16777216=aB)(hn:dB d n=aB)
 (h:∀g,TL P n W ops Q rest ((d,ak (ah ⟨g,0,aj⟩) m m)::fr) (L++[aO g vs.toArray e])):TL P n W ops Q (⟨ah d,.buildSlice t m parts,ty,pos,after,aj⟩::rest) fr L:=by
 subst hm;refine PP (fun a w hr=>?_) hn h;have e:(parts.map fun(i,x)=>(i,a.eval x))=(vs.zipIdx.map fun(v,i)=>(i,v)).toArray:=by
  rw[<-sY hr _ _ hp,<-DX,xV]
 rw[e];exact Yy xo.el vs h1 (mW h0) (mW hs) w
theorem Mem.aht{w:World}{i g m size:Nat}{cs:Array Value}{e:TypeId}(h:Mem W L w)(hi:L[i]?=ah (aO g cs e))(hc:cs.size=m*size)(hm:m<=140737488355328):Mem W (L.set i (bx e size (ak (ah ⟨g,0,aj⟩) m m) m cs.toList)) w:=
 h.CY hi ⟨rfl,rfl,rfl,aT _,fun _ _ _=>rfl⟩ ⟨by simp[hc],.inr ⟨g,m,cs,rfl,bC _,h.get hi,aT _,by unfold maxLen;omega,hc,by rw[ig (by simp[hc])]⟩⟩ fun k hk=> .inl hk
theorem zw{i g m:Nat}{cs:Array Value}{e:TypeId}(size:Nat)(hi:L[i]?=ah (aO g cs e))(hc:cs.size=m*size)(hm:m<=140737488355328)(h:TL P n W ops Q rest fr (L.set i (bx e size (ak (ah ⟨g,0,aj⟩) m m) m cs.toList))):TL P n W ops Q rest fr L:=
 ⟨fun a w hr xp=>h.go a w hr (xp.aht hi hc hm)⟩
theorem aX{t:TypeId}{p x:Operand}{i g c:Nat}{cs cs':Array Value}{T:TypeId}{agg:Bool}[hT:aI P t agg c](hi:L[i]?=ah (aO g cs T))(hp:ev fr p=ah (aH (ah ⟨g,0,aj⟩)))(hx:ev fr x=ah (.agg cs'))(hv:cs'.size=c)(h1:cs'.toList.all f_=aB)
 (hc:cs.size=c) (h:TL P n W ops Q rest fr (L.set i (aO g cs' T))):
 TL P n W ops Q (⟨aj,.store t p x,ty,pos,after,aj⟩::rest) fr L:=
 uH hT.ty hi hp hx hv h1 J (by
  show cs'=(cs.toList.take 0++cs'.toList++cs.toList.drop (0+c)).toArray
  rw[fS (by simp[hc])];simp) h
theorem bT{t:TypeId}{p x:Operand}{i g off:Nat}{cs:Array Value}{T:TypeId}{agg:Bool}{v:Value}[hT:aI P t agg 1](hi:L[i]?=ah (aO g cs T))(hp:ev fr p=ah (aH (ah ⟨g,off,aj⟩)))(hx:ev fr x=ah v)(hv:v.cells=#[v])(h1:v.oneCell'=aB)
 (hc:dB off cs.size=aB) (h:TL P n W ops Q rest fr (L.set i (aO g (cs.setIfInBounds off v) T))):
 TL P n W ops Q (⟨aj,.store t p x,ty,pos,after,aj⟩::rest) fr L:=by
 have hlt:off<cs.size:=mW hc;refine uH hT.ty hi hp hx (by rw[hv];rfl) (by rw[hv];simp[h1]) J ?_ h;rw[hv];apply sO;simp only[Jt];rw[Ec,if_pos (by simpa using hlt)];simp
theorem Er{t u:TypeId}{x y:Operand}{xs ys:Array Value}{b:Bool}(hx:ev fr x=ah (.agg xs))(hy:ev fr y=ah (.agg ys))(hg:P.eqGuardType P.depth t=aD)(h:∀w,(pM 10000 t (.agg xs) (.agg ys)).run P w= .ok b w):RR P n W ⟨dst,.binOp .eql t x y u,ty,pos,after,guard⟩ fr L (.bool b):= .mk fun a w hr _=>by
 simp only[execOp,hr.ev hx,hr.ev hy,mj,run_eqGuard_agg w .eql t x y xs ys hg,oO,run_eql_struct,h w];rfl
theorem Es{t u:TypeId}{x y:Operand}{xs ys:Array Value}{b c:Bool}(hx:ev fr x=ah (.agg xs))(hy:ev fr y=ah (.agg ys))(hg:P.eqGuardType P.depth t=aD)(h:∀w,(pM 10000 t (.agg xs) (.agg ys)).run P w= .ok b w)(hc:(!b)=c):RR P n W ⟨dst,.binOp .neq t x y u,ty,pos,after,guard⟩ fr L (.bool c):= .mk fun a w hr _=>by
 subst hc;simp only[execOp,hr.ev hx,hr.ev hy,mj,run_eqGuard_agg w .neq t x y xs ys hg,oO,run_neq_struct,h w];rfl
theorem ez{fn:Func}{R:Ending->World->Prop}{t u:Tmp}{T:TypeId}{i g c:Nat}{cs:Array Value}{T':TypeId}{z:Value}[hT:aI P T aB c](nQ:fn.results=#[.cell t T,.tmp u])(hp:look fr t=ah (aH (ah ⟨g,0,aj⟩)))(hi:L[i]?=ah (aO g cs T'))(hc:cs.size=c)(hz:look fr u=ah z)
 (h:∀w,Mem W L w->R (.returned (.tuple #[.agg cs,z])) w):E n W .ret (bodyPost P fn R) fr L:=
 HT fun a w hr xp=>⟨_,by
  have Mo:=run_loadCells_list (P:=P) w ⟨g,0,aj⟩ cs.toList fun j v hj=>by rw[g_,cI];exact aE hi (by simpa using hj) w xp
  have hl:(loadCells ⟨g,0,aj⟩ c).run P w= .ok cs w:=by rw[<-hc];simpa using Mo
  have hv:(loadVar T ⟨g,0,aj⟩).run P w= .ok (.agg cs) w:=by simp[loadVar,hT.ty.agg,hT.ty.size,hl]
  simp[results,nQ,xU,hr.get t _ hp,hr.get u z hz,asAddr,hv],h w xp⟩
theorem iW{fn:Func}{R:Ending->World->Prop}{t u s:Tmp}{T:TypeId}{i g c:Nat}{cs:Array Value}{T':TypeId}{z y:Value}[hT:aI P T aB c](nQ:fn.results=#[.cell t T,.tmp u,.tmp s])(hp:look fr t=ah (aH (ah ⟨g,0,aj⟩)))(hi:L[i]?=ah (aO g cs T'))(hc:cs.size=c)(hz:look fr u=ah z)(hy:look fr s=ah y)
 (h:∀w,Mem W L w->R (.returned (.tuple #[.agg cs,z,y])) w):E n W .ret (bodyPost P fn R) fr L:=
 HT fun a w hr xp=>⟨_,by
  have Mo:=run_loadCells_list (P:=P) w ⟨g,0,aj⟩ cs.toList fun j v hj=>by rw[g_,cI];exact aE hi (by simpa using hj) w xp
  have hl:(loadCells ⟨g,0,aj⟩ c).run P w= .ok cs w:=by rw[<-hc];simpa using Mo
  have hv:(loadVar T ⟨g,0,aj⟩).run P w= .ok (.agg cs) w:=by simp[loadVar,hT.ty.agg,hT.ty.size,hl]
  simp[results,nQ,xU,hr.get t _ hp,hr.get u z hz,hr.get s y hy,asAddr,hv],h w xp⟩
theorem gU{fn:Func}{R:Ending->World->Prop}{t:Tmp}{T:TypeId}{i g c:Nat}{cs:Array Value}{T':TypeId}[hT:aI P T aB c](nQ:fn.results=#[.cell t T])(hp:look fr t=ah (aH (ah ⟨g,0,aj⟩)))(hi:L[i]?=ah (aO g cs T'))(hc:cs.size=c)
 (h:∀w,Mem W L w->R (.returned (.agg cs)) w):E n W .ret (bodyPost P fn R) fr L:=
 HT fun a w hr xp=>⟨_,by
  have Mo:=run_loadCells_list (P:=P) w ⟨g,0,aj⟩ cs.toList fun j v hj=>by rw[g_,cI];exact aE hi (by simpa using hj) w xp
  have hl:(loadCells ⟨g,0,aj⟩ c).run P w= .ok cs w:=by rw[<-hc];simpa using Mo
  have hv:(loadVar T ⟨g,0,aj⟩).run P w= .ok (.agg cs) w:=by simp[loadVar,hT.ty.agg,hT.ty.size,hl]
  simp[results,nQ,xU,hr.get t _ hp,asAddr,hv],h w xp⟩
end
end cg
namespace cg
open Go.RowKit cT ey
section
variable{P:Program}{ops:Array Oper}{md:uB}{Q:Exit->Act->World->Prop}{U:World->Prop}
theorem jK{K:Act->World->Prop}{i:Nat}{o:Oper}{a:Act}{w:World}(hi:ops[i]?=ah o)(h:wpList P ops (Exit.then K Q) [o] a w):wpOp P ops Q i K a w:=by
 have key:∀r,o.upon P a (wpList P ops (Exit.then K Q) []) (Exit.then K Q) r->o.upon P a K Q r:=fun r hr=>by
  cases r with
  | ok x w'=>
   cases x<;>first
    |exact hr
    |(refine XP hr fun e L2 he=>?_;cases e<;>exact he)
    |exact X0 hr fun v L2 he=>he
  |halt x w'=>cases x<;>exact hr
 unfold wpList at h;unfold wpOp;rw[hi];simp only;split
 ·rename_i hw
  rw[if_pos hw]at h;rcases h with h|h
  exact .inl (key _ h);exact .inr h
 rename_i hw
 rw[if_neg hw]at h;exact h
def sZ(P:Program)(md:uB)(ops:Array Oper)(Q:Exit->Act->World->Prop)(U:World->Prop):Nat->Array Bool->Act->(World->Prop)->Prop
 |0,listed,a,S=>jg md ops listed=[]/\∀w,S w->Q .normal a w
 | f+1,listed,a,S=>(jg md ops listed=[]->∀w,S w->Q .normal a w)/\
  ∀i∈jg md ops listed,∀w,S w->wpOp P ops Q i (fun a' w'=>∃S',ju S'/\(∀x,S' x->U x)/\S' w'/\sZ P md ops Q U f (listed.setIfInBounds i aB) a' S') a w
theorem yg:∀(f:Nat) (listed:Array Bool) (a:Act) (S:World->Prop) (w:World),S w->sZ P md ops Q U f listed a S->wpAny P md ops Q f listed a w
 |0,_,_,_,w,hw,h=>⟨h.1,h.2 w hw⟩
 |f+1,_,_,_,w,hw,h=>⟨fun h0=>h.1 h0 w hw,fun i hi=>wpOp_mono (fun a' w' ⟨S',_,_,um,h'⟩=>yg f _ a' S' w' um h') (h.2 i hi w hw)⟩
theorem zx{i:Nat}{oi:Oper}{v:Value}(hi:ops[i]?=ah oi)(mP:∀(j:Nat) (o:Oper) cs b,ops[j]?=ah o->o.op≠ .select cs b)
 (hQ:∀c a w,Q (.panic c) (a.put oi.dst v) w->Q (.panic c) a w):
 ∀ (f:Nat) (listed:Array Bool) (a:Act) (S:World->Prop),ju S->(∀x,S x->U x)->
  (∀j oj,ops[j]?=ah oj->j≠i->listed.getD j aB=aD->(∀e∈oj.after,A7 md e=aB->e.on≠i)->oi.apart ops oj=aB)->
  i∈jg md ops listed->jI P ops U oi v a->
  sZ P md ops Q U f (listed.setIfInBounds i aB) (a.put oi.dst v) S->sZ P md ops Q U (f+1) listed a S:=by
 intro f
 induction f with
 | zero=>
  intro listed a S jZ Yz _ hr hy H;refine⟨fun h=>(by rw[h]at hr;cases hr),fun j hj w hw=>?_⟩
  by_cases JH:j=i
  subst JH;exact(hy.mono Yz).wpOp hi jZ hw fun w' um=>⟨S,jZ,Yz,um,H⟩;have:=ready_mono (md:=md) hj JH;rw[H.1]at this;cases this
 | succ f ih=>
  intro listed a S jZ Yz HR hr hy H;have Xr:=(mem_ready.1 hr).1;refine⟨fun h=>(by rw[h]at hr;cases hr),fun j hj w hw=>?_⟩
  by_cases JH:j=i
  subst JH;exact(hy.mono Yz).wpOp hi jZ hw fun w' um=>⟨S,jZ,Yz,um,H⟩;have h1:=H.2 j (ready_mono hj JH) w hw;obtain⟨Yk,oj,SP,rv⟩:=mem_ready.1 hj;have UU:∀e∈oj.after,A7 md e=aB->e.on≠i:=fun e he hb Pa=>by
   have h1:=rv e he hb;rw[Pa,getD_both Xr]at h1
   cases h1
  have h2:=HQ SP (HR j oj SP JH Yk UU) (fun cs b=>mP i oi cs b hi) (fun cs b=>mP j oj cs b SP) hQ hy h1;have PH:∀k ok,ops[k]?=ah ok->k≠i->(listed.setIfInBounds j aB).getD k aB=aD->
   (∀e∈ok.after,A7 md e=aB->e.on≠i)->oi.apart ops ok=true:=fun k ok hk hki Xr hno=>by
   refine HR k ok hk hki ?_ hno
   by_cases hjk:j=k
   ·subst hjk;exact Yk
   ·rw[getD_set_ne aB hjk]at Xr;exact Xr
  refine wpOp_mono (fun a' w' h3=>?_) h2;obtain⟨h3,S',ns,kS,um,h4⟩:=h3;refine⟨S',ns,kS,um,ih (listed.setIfInBounds j aB) a' S' ns kS PH (ready_mono hr (yb JH)) h3 ?_⟩;rw[XH _ _ JH];exact h4
end
section
variable{P:Program}{n:Nat}{W:b_}{Q:Exit->Act->World->Prop}{fr:Fr}{L L0:List b9}{ops:Array Oper}{ks:List Bool}{o:Oper}{rest:List Oper}{v:Value}{d:Nat}
theorem YA{L':List b9}(is:List Nat)(hn:is.Nodup)(hl:L'=is.filterMap fun i=>L[i]?):∀w,Mem W L w->Mem W L' w:=fun _ h=>h.pick is hn hl
theorem Dn:∀w,Mem W L w->Mem W [] w:=fun _ h=>⟨h.low,fl.nil _⟩
end
end cg
namespace cg
open Go.RowKit cT ey
inductive Ord where
 |done
 |calm (i:Nat) (t:Ord)
 |one (i:Nat) (t:Ord)
 |two (i:Nat) (t:Ord) (j:Nat) (u:Ord)
 |three (i:Nat) (t:Ord) (j:Nat) (u:Ord) (k:Nat) (v:Ord)
def Ord.size:Ord->Nat
 | .done=>0
 | .calm _ t=>t.size+1
 | .one _ t=>t.size+1
 | .two _ t _ _=>t.size+1
 | .three _ t _ _ _ _=>t.size+1
section
variable{P:Program}{ops:Array Oper}{md:uB}{Q:Exit->Act->World->Prop}{U:World->Prop}
def YB(P:Program)(ops:Array Oper)(Q:Exit->Act->World->Prop)(U:World->Prop):Ord->Act->(World->Prop)->Prop
 | .calm i t,a,S=>∃o v,ops[i]?=ah o/\(if kM o (yielded ops a.tmps)then ∀w,U w->pO P o a w v else v=undef)/\YB P ops Q U t (a.put o.dst v) S
 | .one i t,a,S=>∃o,ops[i]?=ah o/\∀w,S w->wpList P ops (Exit.then (fun a' w'=>∃S',ju S'/\(∀x,S' x->U x)/\S' w'/\YB P ops Q U t a' S') Q) [o] a w
 | .two i t j u,a,S=>(∃o,ops[i]?=ah o/\∀w,S w->wpList P ops (Exit.then (fun a' w'=>∃S',ju S'/\(∀x,S' x->U x)/\S' w'/\YB P ops Q U t a' S') Q) [o] a w)/\
  (∃o,ops[j]?=ah o/\∀w,S w->wpList P ops (Exit.then (fun a' w'=>∃S',ju S'/\(∀x,S' x->U x)/\S' w'/\YB P ops Q U u a' S') Q) [o] a w)
 | .three i t j u k v,a,S=>(∃o,ops[i]?=ah o/\∀w,S w->wpList P ops (Exit.then (fun a' w'=>∃S',ju S'/\(∀x,S' x->U x)/\S' w'/\YB P ops Q U t a' S') Q) [o] a w)/\
  (∃o,ops[j]?=ah o/\∀w,S w->wpList P ops (Exit.then (fun a' w'=>∃S',ju S'/\(∀x,S' x->U x)/\S' w'/\YB P ops Q U u a' S') Q) [o] a w)/\
  (∃o,ops[k]?=ah o/\∀w,S w->wpList P ops (Exit.then (fun a' w'=>∃S',ju S'/\(∀x,S' x->U x)/\S' w'/\YB P ops Q U v a' S') Q) [o] a w)
 | .done,a,S=>∀w,S w->Q .normal a w
def mw(md:uB)(ops:Array Oper):Ord->Array Bool->Bool
 | .calm i t,listed=>(jg md ops listed).contains i&&Pv md ops listed i&&mw md ops t (listed.setIfInBounds i aB)
 | .one i t,listed=>decide (jg md ops listed=[i])&&mw md ops t (listed.setIfInBounds i aB)
 | .two i t j u,listed=>decide (jg md ops listed=[i,j])&&fO t.size u.size&&mw md ops t (listed.setIfInBounds i aB)&&mw md ops u (listed.setIfInBounds j aB)
 | .three i t j u k v,listed=>decide (jg md ops listed=[i,j,k])&&fO t.size u.size&&fO t.size v.size&&mw md ops t (listed.setIfInBounds i aB)&&mw md ops u (listed.setIfInBounds j aB)&&mw md ops v (listed.setIfInBounds k aB)
 | .done,listed=>decide (jg md ops listed=[])
theorem jL(mP:A6 ops=aB)(hQ:∀c a d v w,Q (.panic c) (sP a d v) w->Q (.panic c) a w):
 ∀(t:Ord) (listed:Array Bool) (a:Act) (S:World->Prop),ju S->(∀x,S x->U x)->mw md ops t listed=aB->
 YB P ops Q U t a S->sZ P md ops Q U t.size listed a S
 | .done,listed,a,S,_,_,ho,h=>⟨by simpa[mw]using ho,h⟩
 | .calm i t,listed,a,S,jZ,Yz,ho,h=>by
  simp only[mw,ff]at ho;obtain⟨⟨hr,hf⟩,JP⟩:=ho;have Ca:i∈jg md ops listed:=by simpa using hr
  obtain⟨o,v,h0,hy,hK⟩:=h;have hy':jI P ops U o v a:=by
   by_cases hw:kM o (yielded ops a.tmps)=aB
   rw[if_pos hw]at hy;exact .inl ⟨hw,hy⟩;rw[if_neg hw]at hy;exact .inr ⟨by simpa using hw,hy⟩
  exact zx h0 (Pr mP) (fun c a w=>hQ c a o.dst v w) t.size listed a S jZ Yz (Ps h0 hf) Ca hy'
   (jL mP hQ t _ _ S jZ Yz JP hK)
 | .one i t,listed,a,S,jZ,Yz,ho,h=>by
  simp only[mw,ff,decide_eq_true_eq]at ho;obtain⟨hr,JP⟩:=ho;obtain⟨o,h0,h⟩:=h;refine⟨fun h'=>(by rw[hr]at h';cases h'),fun j hj w hw=>?_⟩;obtain rfl:j=i:=by rw[hr]at hj;simpa using hj
  refine wpOp_mono (fun a' w' ⟨S',ns,uI,um,hK⟩=>⟨S',ns,uI,um,?_⟩) (jK h0 (h w hw));exact jL mP hQ t _ _ S' ns uI JP hK
 | .two i t j u,listed,a,S,jZ,Yz,ho,h=>by
  simp only[mw,ff,decide_eq_true_eq]at ho;obtain⟨⟨⟨hr,hs⟩,zy⟩,Hd⟩:=ho;obtain⟨⟨o,h0,h⟩,⟨o2,h02,h2⟩⟩:=h;have hs:=kP hs;refine⟨fun h'=>(by rw[hr]at h';cases h'),fun q hq w hw=>?_⟩;rw[hr]at hq;simp only[df,fI,or_false]at hq;rcases hq with rfl|rfl
  ·refine wpOp_mono (fun a' w' ⟨S',ns,uI,um,hK⟩=>⟨S',ns,uI,um,?_⟩) (jK h0 (h w hw))
   exact jL mP hQ t _ _ S' ns uI zy hK
  refine wpOp_mono (fun a' w' ⟨S',ns,uI,um,hK⟩=>⟨S',ns,uI,um,?_⟩) (jK h02 (h2 w hw));rw[hs];exact jL mP hQ u _ _ S' ns uI Hd hK
 | .three i t j u k v,listed,a,S,jZ,Yz,ho,h=>by
  simp only[mw,ff,decide_eq_true_eq]at ho;obtain⟨⟨⟨⟨⟨hr,hs⟩,Xu⟩,zy⟩,Hd⟩,ho3⟩:=ho;obtain⟨⟨o,h0,h⟩,⟨o2,h02,h2⟩,⟨o3,h03,h3⟩⟩:=h;have hs:=kP hs;have Xu:=kP Xu;refine⟨fun h'=>(by rw[hr]at h';cases h'),fun q hq w hw=>?_⟩;rw[hr]at hq;simp only[df,fI,or_false]at hq;rcases hq with rfl|rfl|rfl
  ·refine wpOp_mono (fun a' w' ⟨S',ns,uI,um,hK⟩=>⟨S',ns,uI,um,?_⟩) (jK h0 (h w hw))
   exact jL mP hQ t _ _ S' ns uI zy hK
  ·refine wpOp_mono (fun a' w' ⟨S',ns,uI,um,hK⟩=>⟨S',ns,uI,um,?_⟩) (jK h02 (h2 w hw))
   rw[hs];exact jL mP hQ u _ _ S' ns uI Hd hK
  refine wpOp_mono (fun a' w' ⟨S',ns,uI,um,hK⟩=>⟨S',ns,uI,um,?_⟩) (jK h03 (h3 w hw));rw[Xu];exact jL mP hQ v _ _ S' ns uI ho3 hK
end
structure TW(P:Program)(n:Nat)(W:b_)(ops:Array Oper)(Q:Exit->Act->World->Prop)(L0:List b9)(t:Ord)(fr:Fr)(L:List b9):Prop where
 go:∀a,nt n a fr->YB P ops Q (Mem W L0) t a (Mem W L)
section
variable{P:Program}{n:Nat}{W:b_}{Q:Exit->Act->World->Prop}{fr:Fr}{L L0:List b9}{ops:Array Oper}{o:Oper}{t u:Ord}{i j:Nat}{v:Value}{d:Nat}
def afQ(l:List Oper)(t:Ord):Bool:=fO t.size l.length&&A6 l.toArray&&mw .any l.toArray t (AZ l.toArray.size aD)
theorem ahu{id:Nat}{l:List Oper}(L0:List b9)(t:Ord)(kS:∀w,Mem W L w->Mem W L0 w)(hm:P.follows .mixedOrders=aB)(hB:afQ l t=aB)
 (hQ:∀c a d v w,Q (.panic c) (sP a d v) w->Q (.panic c) a w)
 (h:TW P n W l.toArray Q L0 t fr L):T P n W (.region id l.toArray aB) Q fr L:=⟨fun a w hr xp=>by
 simp only[afQ,ff]at hB;obtain⟨⟨h1,h2⟩,h3⟩:=hB;have hlen:=kP h1;refine wp_region_any hm ?_;have hsz:l.toArray.size=t.size:=by rw[hlen];simp
 have:=yg (U:=Mem W L0) t.size (AZ l.toArray.size aD) a (Mem W L) w.drew xp.drew
  (jL h2 hQ t _ a (Mem W L) (eO W L) kS h3 (h.go a hr))
 rw[<-hsz]at this;exact this⟩
theorem S3{q e:Nat}{b:Bool}{x:Value}(ho:ops[i]?=ah o)(hg:o.guard=ah (q,b))(hj:(ops[q]?).bind (·.dst)=ah e)(hl:look fr e=ah x)(hu:acN b x=aB)(hd:o.dst=ah d)(hn:dB d n=aB)(h:TW P n W ops Q L0 t ((d,undef)::fr) L):TW P n W ops Q L0 (.calm i t) fr L:=⟨fun a ij=>
 ⟨o,undef,ho,by rw[HU ij hg hj hl hu];rfl,by rw[hd];exact h.go _ (ij.put hn undef)⟩⟩
theorem na{f:FuncId}{args:Array Value}(ho:ops[i]?=ah o)(he:∀a w,nt n a fr->(execOp a.eval o).run P w= .ok (.enter f args) w)(hc:∀w,Mem W L0 w->Calls P f args w (cJ (ret v) w))(hg:o.guard=aj)(hd:o.dst=ah d)(hn:dB d n=aB)
 (h:TW P n W ops Q L0 t ((d,v)::fr) L):TW P n W ops Q L0 (.calm i t) fr L:=⟨fun a ij=>
 ⟨o,v,ho,by rw[if_pos (qU hg)];intro w hw;unfold pO;rw[he a w ij];exact⟨Gr.refl _,(hc w hw).mono fun _ _ h=>Em h⟩,by rw[hd];exact h.go _ (ij.put hn v)⟩⟩
theorem Mp{f:FuncId}{args:Array Value}{q e:Nat}{b:Bool}(ho:ops[i]?=ah o)(he:∀a w,nt n a fr->(execOp a.eval o).run P w= .ok (.enter f args) w)(hc:∀w,Mem W L0 w->Calls P f args w (cJ (ret v) w))(hg:o.guard=ah (q,b))(hj:(ops[q]?).bind (·.dst)=ah e)(hl:look fr e=ah (.bool b))(hd:o.dst=ah d)(hn:dB d n=aB)
 (h:TW P n W ops Q L0 t ((d,v)::fr) L):TW P n W ops Q L0 (.calm i t) fr L:=⟨fun a ij=>
 ⟨o,v,ho,by rw[if_pos (pS ij hg hj hl)];intro w hw;unfold pO;rw[he a w ij];exact⟨Gr.refl _,(hc w hw).mono fun _ _ h=>Em h⟩,by rw[hd];exact h.go _ (ij.put hn v)⟩⟩
abbrev after(P:Program)(W:b_)(ops:Array Oper)(Q:Exit->Act->World->Prop)(L0:List b9)(t:Ord):Exit->Act->World->Prop:=Exit.then (fun a' w'=>∃S',ju S'/\(∀x,S' x->Mem W L0 x)/\S' w'/\YB P ops Q (Mem W L0) t a' S') Q
theorem aJ(ho:ops[i]?=ah o)(h:TL P n W ops (after P W ops Q L0 t) [o] fr L):TW P n W ops Q L0 (.one i t) fr L:=⟨fun a ij=>⟨o,ho,fun w hw=>h.go a w ij hw⟩⟩
theorem fe{o2:Oper}(ho:ops[i]?=ah o)(Hd:ops[j]?=ah o2)(h:TL P n W ops (after P W ops Q L0 t) [o] fr L)(h2:TL P n W ops (after P W ops Q L0 u) [o2] fr L):TW P n W ops Q L0 (.two i t j u) fr L:=
 ⟨fun a ij=>⟨⟨o,ho,fun w hw=>h.go a w ij hw⟩,⟨o2,Hd,fun w hw=>h2.go a w ij hw⟩⟩⟩
theorem zz{o2 o3:Oper}{k:Nat}{u2:Ord}(ho:ops[i]?=ah o)(Hd:ops[j]?=ah o2)(ho3:ops[k]?=ah o3)(h:TL P n W ops (after P W ops Q L0 t) [o] fr L)(h2:TL P n W ops (after P W ops Q L0 u) [o2] fr L)(h3:TL P n W ops (after P W ops Q L0 u2) [o3] fr L):TW P n W ops Q L0 (.three i t j u k u2) fr L:=
 ⟨fun a ij=>⟨⟨o,ho,fun w hw=>h.go a w ij hw⟩,⟨o2,Hd,fun w hw=>h2.go a w ij hw⟩,⟨o3,ho3,fun w hw=>h3.go a w ij hw⟩⟩⟩
theorem aK{L':List b9}{Hb:Fr}(kS:∀w,Mem W L' w->Mem W L0 w)(h:TW P n W ops Q L0 t Hb L'):TL P n W ops (after P W ops Q L0 t) [] Hb L':=
 lY ⟨fun a _ hr hm=>⟨Mem W L',eO _ _,kS,hm,h.go a hr⟩⟩
theorem S4(h:E n W .normal Q fr L):TW P n W ops Q L0 .done fr L:=⟨fun a hr w hw=>h.go a w hr hw⟩
theorem my{x y:Code}{ι:Type}(ag:ι->Prop)(F:ι->Fr)(M:ι->List b9)
 (hx:T P n W x (Exit.then (Mid n W ag F M) Q) fr L) (hy:∀i,ag i->T P n W y Q (F i) (M i)):T P n W x (Exit.then (y.wp P Q) Q) fr L:= .mk fun a w hr hm=>
 wp_mono (hx.go a w hr hm) fun e a w h=>by
  cases e with
  |normal=>obtain⟨i,h1,h2,h3⟩:=h;exact(hy i h1).go a w h2 h3
  |_=>exact h
structure TN(P:Program)(n:Nat)(W:b_)(ops:Array Oper)(Q:Exit->Act->World->Prop)(L0:List b9)(o:Oper)(t:Ord)(fr:Fr)(L:List b9):Prop where
 go:∀a,nt n a fr->∃v,(∀w,Mem W L0 w->pO P o a w v)/\YB P ops Q (Mem W L0) t (a.put o.dst v) (Mem W L)
theorem YC(ho:ops[i]?=ah o)(hg:o.guard=aj)(h:TN P n W ops Q L0 o t fr L):TW P n W ops Q L0 (.calm i t) fr L:=⟨fun a ij=>by
 obtain⟨v,h1,h2⟩:=h.go a ij;exact⟨o,v,ho,by rw[if_pos (qU hg)];exact h1,h2⟩⟩
theorem acU{q e:Nat}{b:Bool}(ho:ops[i]?=ah o)(hg:o.guard=ah (q,b))(hj:(ops[q]?).bind (·.dst)=ah e)(hl:look fr e=ah (.bool b))(h:TN P n W ops Q L0 o t fr L):TW P n W ops Q L0 (.calm i t) fr L:=⟨fun a ij=>by
 obtain⟨v,h1,h2⟩:=h.go a ij;exact⟨o,v,ho,by rw[if_pos (pS ij hg hj hl)];exact h1,h2⟩⟩
theorem afR(hr:RR P n W o fr L0 v)(hd:o.dst=ah d)(hn:dB d n=aB)(h:TW P n W ops Q L0 t ((d,v)::fr) L):TN P n W ops Q L0 o t fr L:=⟨fun a ij=>
 ⟨v,fun w hw=>by unfold pO;rw[hr.go a w ij hw];exact⟨rfl,Gr.refl _⟩,by rw[hd];exact h.go _ (ij.put hn v)⟩⟩
theorem QW(hr:RR P n W o fr L0 v)(h:TW P n W ops Q L0 t ((d,v)::fr) L)(hd:o.dst=ah d:=by exact I)(hn:dB d n=true:=by exact I):TN P n W ops Q L0 o t fr L:=afR hr hd hn h
end
end cg
namespace cg
open Go.RowKit cT ey
section
variable{P:Program}{n:Nat}{W:b_}{fr:Fr}{L L0:List b9}{Q:Exit->Act->World->Prop}{ops:Array Oper}{rest:List Oper}{d i:Nat}{o:Oper}{v:Value}{t:Ord}
inductive Gd(ops:Array Oper)(fr:Fr)(o:Oper):Prop
 |no (h:o.guard=aj)
 |yes (q e:Nat) (b:Bool) (hg:o.guard=ah (q,b)) (hj:(ops[q]?).bind (·.dst)=ah e) (hl:look fr e=ah (.bool b))
theorem RR.bare(h:RR P n W o fr L v):RR P n W {o with guard:=aj} fr L v:=⟨fun a w hr hm=>h.go a w hr hm⟩
theorem ahv(hr:RR P n W o fr L v)(hg:Gd ops fr o)(hd:o.dst=ah d)(hn:dB d n=aB)(h:TL P n W ops Q rest ((d,v)::fr) L):TL P n W ops Q (o::rest) fr L:=by
 rcases hg with hg|⟨q,e,b,hg,hj,hl⟩
 exact dC hr hg hd hn h;exact Dm hg hj hl (dC hr.bare I hd hn h)
theorem gV(hr:RR P n W o fr L v)(h:TL P n W ops Q rest ((d,v)::fr) L)(hg:Gd ops fr o:=by first|exact Gd.no I|exact Gd.yes _ _ _ I I I)(hd:o.dst=ah d:=by exact I)(hn:dB d n=true:=by exact I):TL P n W ops Q (o::rest) fr L:=ahv hr hg hd hn h
theorem QK{dst:Option Tmp}{ty:TypeId}{pos:String}{after:Array Edge}{guard:Option (Nat×Bool)}{x:Operand}{a:Addr}(hx:ev fr x=ah (aH (ah a)):=by exact I):RR P n W ⟨dst,.nilCheck x,ty,pos,after,guard⟩ fr L (aH (ah a)):= .mk fun act w hr _=>by
 simp[execOp,hr.ev hx]
end
structure Hid(B:Prop):Prop where
 go:B
theorem GC{A B:Prop}(h:B)(t:Hid B->A:=by
 intro h0
 first|refine gV QP ?_|refine QZ ?_|refine U5 I ?_|refine U6 I ?_|refine j0 ?_|refine j_ I ?_|refine qs I I I I I I ?_
 repeat (first|refine gV QP ?_|refine QZ ?_|refine U5 I ?_|refine U6 I ?_|refine j0 ?_|refine j_ I ?_|refine qs I I I I I I ?_)
 exact h0.go):A:=t ⟨h⟩
theorem GB{A B:Prop}(h:B)(t:Hid B->A:=by
 intro h0;refine gV (by first|exact QA|exact QK|exact QL|exact QS|exact JL I I|exact QlT|exact QlF|exact QeT|exact QeF|exact QnT|exact QnF|exact QaA|exact QgT|exact QgF|exact QhT|exact QhF|exact QmT|exact QmF|exact QaS|exact QaM|exact PN I I J|exact Yr I I J) ?_;exact h0.go):A:=t ⟨h⟩
theorem GA{A B:Prop}(h:B)(t:Hid B->A:=by
 intro h0
 first|refine GC ?_|refine GB ?_
 repeat (first|refine GC ?_|refine GB ?_)
 exact h0.go):A:=t ⟨h⟩
theorem GN{A B:Prop}(h:B)(t:Hid B->A:=by
 intro h0
 first|refine YC I I ?_|refine acU I I I I ?_
 exact h0.go):A:=t ⟨h⟩
theorem GX{A B:Prop}(h:B)(t:Hid B->A:=by
 intro h0
 first|refine QW QP ?_|refine QW (by first|exact QA|exact QK|exact QL|exact QS|exact JL I I|exact QlT|exact QlF|exact QeT|exact QeF|exact QnT|exact QnF|exact QaA|exact QgT|exact QgF|exact QhT|exact QhF|exact QmT|exact QmF|exact QaS|exact QaM|exact PN I I J|exact Yr I I J) ?_
 exact h0.go):A:=t ⟨h⟩
theorem GW{A B:Prop}(h:B)(t:Hid B->A:=by
 intro h0
 first|(refine GN ?_;refine GX ?_)|refine S3 I I I I I I I ?_|refine S4 ?_
 repeat (first|(refine GN ?_;refine GX ?_)|refine S3 I I I I I I I ?_|refine S4 ?_)
 exact h0.go):A:=t ⟨h⟩
section
variable{P:Program}{n:Nat}{W:b_}{fr:Fr}{L L':List b9}{Q:Exit->Act->World->Prop}{ops:Array Oper}{rest:List Oper}
theorem bO{ι:Type}{ag:ι->Prop}{F:ι->Fr}{M:ι->List b9}{μ:ι->Nat}{x:ι}(x':ι)(hi:ag x')(hμ:μ x'<μ x)(hf:Me (F x') fr:=by repeat' (first|exact True.intro|refine And.intro rfl ?_))(hl:L=M x':=by exact rfl):
 E n W .normal (Exit.then (Rnd n W ag F M μ x) Q) fr L:=iU x' hi hμ hf hl
theorem dU{c:Code}{ι:Type}(ag:ι->Prop)(F:ι->Fr)(M:ι->List b9)(μ:ι->Nat)(x0:ι)(h0:ag x0)
 (round:∀x,ag x->T P n W c (Exit.then (Rnd n W ag F M μ x) Q) (F x) (M x)) (hf:Me (F x0) fr:=by repeat' (first|exact True.intro|refine And.intro rfl ?_)) (hl:L=M x0:=by exact rfl):T P n W (.loop c) Q fr L:=lX ag F M μ x0 h0 hf hl round
theorem zL{A B:Prop}(h:B)(t:Hid B->A:=by
 intro h0
 (conv=>arg 8;simp only[zA,zB,zC,zD,zE,zF,zG,zH,zI,dr,ret,id_eq])
 exact h0.go):A:=t ⟨h⟩
end
theorem zJ:(∀{α:Type} {a:α} {l m:List α},a::l++m=a::(l++m))/\(∀{α:Type} {l:List α},[]++l=l)/\(∀{α:Type} {l:List α},l++[]=l)/\(∀{α β:Type} {f:α->Option β} {a:α} {l:List α},uD f (a::l)=match f a with
 |none=>uD f l
 |some b=>b::uD f l)/\(∀{α β:Type} {f:α->Option β},uD f []=[])/\(∀{α:Type} {a:α} {l:List α} {i:Nat},(a::l)[i+1]?=l[i]?)/\(∀{α:Type} {a:α} {l:List α},(a::l)[0]?=ah a)/\(∀{α:Type} {a b:α} {l:List α},(a::l).set 0 b=b::l)/\(∀{α:Type} {a b:α} {l:List α} {i:Nat},(a::l).set (i+1) b=a::l.set i b):=
 ⟨zA,zB,zC,zD,zE,zF,zG,zH,zI⟩
section
variable{P:Program}{n:Nat}{W:b_}{fr:Fr}{L L':List b9}{Q:Exit->Act->World->Prop}{ops:Array Oper}{rest:List Oper}
theorem bZ(is:List Nat)(hn:is.Nodup:=by decide)(hl:L'=is.filterMap fun i=>L[i]?:=by exact I):∀w,Mem W L w->Mem W L' w:=YA is hn hl
theorem Et(is:List Nat)(h:TL P n W ops Q rest fr L')(hn:is.Nodup:=by decide)(hl:L'=is.filterMap fun i=>L[i]?:=by exact I):TL P n W ops Q rest fr L:=acT is hn hl h
theorem s7{c:Code}(is:List Nat)(h:T P n W c Q fr L')(hn:is.Nodup:=by decide)(hl:L'=is.filterMap fun i=>L[i]?:=by exact I):T P n W c Q fr L:=afF is hn hl h
theorem dv{e:Exit}(is:List Nat)(h:E n W e Q fr L')(hn:is.Nodup:=by decide)(hl:L'=is.filterMap fun i=>L[i]?:=by exact I):E n W e Q fr L:=afG is hn hl h
theorem dK{id:Nat}{l:List Oper}(L0:List b9)(t:Ord)(kS:∀w,Mem W L w->Mem W L0 w)(h:TW P n W l.toArray Q L0 t fr L)(hm:P.follows .mixedOrders=true:=by kernel_rfl)(hB:afQ l t=true:=by kernel_rfl)
 (hQ:∀c a d v w,Q (.panic c) (sP a d v) w->Q (.panic c) a w:=by intro c a d v w h;cases d<;>exact h):T P n W (.region id l.toArray aB) Q fr L:=ahu L0 t kS hm hB hQ h
theorem dR{fn:Func}{w0:World}{t:Tmp}{v:Value}(nQ:fn.results=#[.tmp t]:=by exact I)(hv:look fr t=ah v:=by exact I):E n w0 .ret (bodyPost P fn (cJ (ret v) w0)) fr L:=dq nQ hv fun w hm=>hm.ret
theorem gG{ty:TypeId}{pos:String}{after:Array Edge}{t:TypeId}{p x:Operand}(i:Nat){g c:Nat}{cs cs':Array Value}{T:TypeId}{agg:Bool}[hT:aI P t agg c](h:TL P n W ops Q rest fr (L.set i (aO g cs' T)))(hi:L[i]?=ah (aO g cs T):=by exact I)(hp:ev fr p=ah (aH (ah ⟨g,0,aj⟩)):=by exact I)(hx:ev fr x=ah (.agg cs'):=by exact I)(hv:cs'.size=c:=by exact I)(h1:cs'.toList.all f_=true:=by exact I)(hc:cs.size=c:=by exact I):
 TL P n W ops Q (⟨aj,.store t p x,ty,pos,after,aj⟩::rest) fr L:=aX hi hp hx hv h1 hc h
end
end cg
namespace cg
instance:bI aC 3 (.int .i64):=⟨Tryz.underlying3⟩
instance:aI aC 3 aD 1:={}
instance:eS aC 3 #[ap av 0]:={}
instance:bI aC 4 (.bool):=⟨Tryz.underlying4⟩
instance:aI aC 4 aD 1:={}
instance:eS aC 4 #[.bool aD]:={}
instance:bI aC 5 (.int .u8):=⟨Tryz.underlying5⟩
instance:aI aC 5 aD 1:={}
instance:bI aC 9 (.string):=⟨Tryz.underlying9⟩
instance:aI aC 9 aD 1:={}
instance:bI aC 22 (.slice 122):=⟨Tryz.underlying22⟩
instance:aI aC 22 aD 1:={}
instance:sM aC 22 122 7 80:={}
instance:bI aC 23 (.slice 124):=⟨Tryz.underlying23⟩
instance:aI aC 23 aD 1:={}
instance:sM aC 23 124 2 40:={}
instance:dZ aC 25 0 0:={}
instance:dZ aC 25 1 1:={}
instance:aI aC 25 aB 2:={}
instance:eS aC 25 #[ak aj 0 0,ak aj 0 0]:={}
instance:bI aC 26 (.slice 3):=⟨Tryz.underlying26⟩
instance:aI aC 26 aD 1:={}
instance:sM aC 26 3 1 8:={}
instance:eS aC 26 #[ak aj 0 0]:={}
instance:bI aC 27 (.array 256 5):=⟨Tryz.underlying27⟩
instance:aI aC 27 aB 256:={}
instance:bI aC 28 (.slice 26):=⟨Tryz.underlying28⟩
instance:aI aC 28 aD 1:={}
instance:sM aC 28 26 1 24:={}
instance:dZ aC 30 0 0:={}
instance:dZ aC 30 1 256:={}
instance:dZ aC 30 2 257:={}
instance:aI aC 30 aB 258:={}
instance:eS aC 30 (db 256 (.int .u8 0:Value)++([ak aj 0 0,ak aj 0 0]:List Value)).toArray:={}
instance:bI aC 31 (.slice 140):=⟨Tryz.underlying31⟩
instance:aI aC 31 aD 1:={}
instance:sM aC 31 140 2 32:={}
instance:dZ aC 33 0 0:={}
instance:dZ aC 33 1 1:={}
instance:dZ aC 33 2 2:={}
instance:aI aC 33 aB 3:={}
instance:bI aC 34 (.slice 92):=⟨Tryz.underlying34⟩
instance:aI aC 34 aD 1:={}
instance:sM aC 34 92 1 24:={}
instance:dZ aC 36 0 0:={}
instance:dZ aC 36 1 1:={}
instance:aI aC 36 aB 2:={}
instance:eS aC 36 #[ak aj 0 0,ak aj 0 0]:={}
instance:dZ aC 38 0 0:={}
instance:dZ aC 38 1 1:={}
instance:dZ aC 38 2 259:={}
instance:dZ aC 38 3 262:={}
instance:dZ aC 38 4 263:={}
instance:dZ aC 38 5 264:={}
instance:aI aC 38 aB 266:={}
instance:eS aC 38 (([ak aj 0 0]:List Value)++db 256 (.int .u8 0:Value)++([ak aj 0 0,ak aj 0 0,ap av 0,ap av 0,ak aj 0 0,ap av 0,ak aj 0 0,ak aj 0 0,ak aj 0 0]:List Value)).toArray:={}
instance:aI aC 39 aD 1:={}
instance:aI aC 43 aD 1:={}
instance:sM aC 43 55 2 16:={}
instance:dZ aC 45 0 0:={}
instance:dZ aC 45 1 1:={}
instance:dZ aC 45 2 2:={}
instance:aI aC 45 aB 3:={}
instance:eS aC 45 #[ak aj 0 0,ap av 0,ap av 0]:={}
instance:bI aC 48 (.slice 53):=⟨Tryz.underlying48⟩
instance:sM aC 48 53 3 24:={}
instance:dZ aC 53 0 0:={}
instance:dZ aC 53 1 1:={}
instance:dZ aC 53 2 2:={}
instance:aI aC 53 aB 3:={}
instance:eS aC 53 #[ap av 0,ap av 0,ap av 0]:={}
instance:bI aC 90 (.slice 9):=⟨Tryz.underlying90⟩
instance:aI aC 90 aD 1:={}
instance:sM aC 90 9 1 16:={}
instance:bI aC 92 (.slice 94):=⟨Tryz.underlying92⟩
instance:aI aC 92 aD 1:={}
instance:sM aC 92 94 2 16:={}
instance:eS aC 92 #[ak aj 0 0]:={}
instance:dZ aC 94 0 0:={}
instance:dZ aC 94 1 1:={}
instance:aI aC 94 aB 2:={}
instance:eS aC 94 #[ap av 0,ap av 0]:={}
instance:bI aC 101 (.slice 4):=⟨Tryz.underlying101⟩
instance:aI aC 101 aD 1:={}
instance:sM aC 101 4 1 1:={}
instance:eS aC 101 #[ak aj 0 0]:={}
instance:bI aC 102 (.slice 114):=⟨Tryz.underlying102⟩
instance:aI aC 102 aD 1:={}
instance:sM aC 102 114 1 8:={}
instance:dZ aC 104 0 0:={}
instance:dZ aC 104 1 1:={}
instance:dZ aC 104 2 2:={}
instance:dZ aC 104 3 3:={}
instance:dZ aC 104 4 4:={}
instance:aI aC 104 aB 5:={}
instance:eS aC 104 #[ak aj 0 0,ak aj 0 0,ak aj 0 0,ak aj 0 0,ak aj 0 0]:={}
instance:bI aC 108 (.slice 200):=⟨Tryz.underlying108⟩
instance:sM aC 108 200 4 32:={}
instance:bI aC 111 (.slice 208):=⟨Tryz.underlying111⟩
instance:sM aC 111 208 6 48:={}
instance:aI aC 114 aD 1:={}
instance:eS aC 114 #[.int .u64 0]:={}
instance:bI aC 116 (.array 4 114):=⟨Tryz.underlying116⟩
instance:aI aC 116 aB 4:={}
instance:eS aC 116 #[.int .u64 0,.int .u64 0,.int .u64 0,.int .u64 0]:={}
instance:bI aC 117 (.slice 119):=⟨Tryz.underlying117⟩
instance:aI aC 117 aD 1:={}
instance:sM aC 117 119 6 64:={}
instance:dZ aC 119 0 0:={}
instance:dZ aC 119 1 1:={}
instance:dZ aC 119 2 5:={}
instance:aI aC 119 aB 6:={}
instance:eS aC 119 #[ap av 0,.int .u64 0,.int .u64 0,.int .u64 0,.int .u64 0,ak aj 0 0]:={}
instance:dZ aC 122 0 0:={}
instance:dZ aC 122 1 1:={}
instance:aI aC 122 aB 7:={}
instance:eS aC 122 #[.string ⟨#[]⟩,ap av 0,.int .u64 0,.int .u64 0,.int .u64 0,.int .u64 0,ak aj 0 0]:={}
instance:dZ aC 124 0 0:={}
instance:dZ aC 124 1 1:={}
instance:aI aC 124 aB 2:={}
instance:eS aC 124 #[.string ⟨#[]⟩,ak aj 0 0]:={}
instance:bI aC 137 (.slice 101):=⟨Tryz.underlying137⟩
instance:sM aC 137 101 1 24:={}
instance:bI aC 138 (.slice 148):=⟨Tryz.underlying138⟩
instance:aI aC 138 aD 1:={}
instance:sM aC 138 148 2 16:={}
instance:dZ aC 140 0 0:={}
instance:dZ aC 140 1 1:={}
instance:aI aC 140 aB 2:={}
instance:eS aC 140 #[ap av 0,ak aj 0 0]:={}
instance:bI aC 142 (.map 146 3):=⟨Tryz.underlying142⟩
instance:aI aC 142 aD 1:={}
instance:dZ aC 144 0 0:={}
instance:dZ aC 144 1 3:={}
instance:dZ aC 144 2 4:={}
instance:aI aC 146 aB 3:={}
instance:eS aC 146 #[ap av 0,ap av 0,ap av 0]:={}
instance:dZ aC 148 0 0:={}
instance:dZ aC 148 1 1:={}
instance:aI aC 148 aB 2:={}
instance:eS aC 148 #[ap av 0,ap av 0]:={}
instance:bI aC 156 (.slice 231):=⟨Tryz.underlying156⟩
instance:aI aC 156 aD 1:={}
instance:sM aC 156 231 4 32:={}
instance:dZ aC 158 0 0:={}
instance:dZ aC 158 1 1:={}
instance:dZ aC 158 2 2:={}
instance:dZ aC 158 3 3:={}
instance:aI aC 158 aB 4:={}
instance:eS aC 158 #[ak aj 0 0,ap av 0,ap av 0,.bool aD]:={}
instance:dZ aC 161 0 0:={}
instance:dZ aC 161 1 1:={}
instance:dZ aC 161 2 2:={}
instance:dZ aC 161 3 3:={}
instance:aI aC 161 aB 4:={}
instance:eS aC 161 #[ak aj 0 0,ap av 0,ap av 0,.bool aD]:={}
instance:bI aC 175 (.map 9 3):=⟨Tryz.underlying175⟩
instance:aI aC 175 aD 1:={}
instance:eS aC 175 #[.map aj]:={}
instance:bI aC 179 (.slice 116):=⟨Tryz.underlying179⟩
instance:aI aC 179 aD 1:={}
instance:sM aC 179 116 4 32:={}
instance:dZ aC 181 0 0:={}
instance:dZ aC 181 1 1:={}
instance:dZ aC 181 2 2:={}
instance:dZ aC 181 3 3:={}
instance:dZ aC 181 4 4:={}
instance:dZ aC 181 5 5:={}
instance:aI aC 181 aB 6:={}
instance:eS aC 181 #[ak aj 0 0,ak aj 0 0,ak aj 0 0,ak aj 0 0,ak aj 0 0,ak aj 0 0]:={}
instance:bI aC 184 (.slice 257):=⟨Tryz.underlying184⟩
instance:aI aC 184 aD 1:={}
instance:sM aC 184 257 256 512:={}
instance:dZ aC 186 0 0:={}
instance:dZ aC 186 1 1:={}
instance:aI aC 186 aB 2:={}
instance:eS aC 186 #[ak aj 0 0,ak aj 0 0]:={}
instance:bI aC 201 (.slice 273):=⟨Tryz.underlying201⟩
instance:aI aC 201 aD 1:={}
instance:sM aC 201 273 1 24:={}
instance:dZ aC 203 0 0:={}
instance:dZ aC 203 1 1:={}
instance:aI aC 203 aB 2:={}
instance:eS aC 203 #[ak aj 0 0,ak aj 0 0]:={}
instance:dZ aC 215 0 0:={}
instance:dZ aC 215 1 266:={}
instance:dZ aC 218 0 0:={}
instance:dZ aC 218 1 266:={}
instance:dZ aC 231 0 0:={}
instance:dZ aC 231 1 1:={}
instance:dZ aC 231 2 2:={}
instance:aI aC 231 aB 4:={}
instance:eS aC 231 #[.bool aD,ap av 0,ap av 0,ap av 0]:={}
instance:dZ aC 242 0 0:={}
instance:dZ aC 242 1 6:={}
instance:dZ aC 244 0 0:={}
instance:dZ aC 244 1 1:={}
instance:dZ aC 244 2 2:={}
instance:aI aC 244 aB 3:={}
instance:eS aC 244 #[.bool aD,ak aj 0 0,ak aj 0 0]:={}
instance:bI aC 247 (.map 9 148):=⟨Tryz.underlying247⟩
instance:bI aC 251 (.slice 303):=⟨Tryz.underlying251⟩
instance:aI aC 251 aD 1:={}
instance:sM aC 251 303 4 32:={}
instance:bI aC 252 (.map 303 3):=⟨Tryz.underlying252⟩
instance:aI aC 252 aD 1:={}
instance:dZ aC 254 0 0:={}
instance:dZ aC 254 1 6:={}
instance:dZ aC 254 2 7:={}
instance:dZ aC 254 3 8:={}
instance:bI aC 255 (.int .i16):=⟨Tryz.underlying255⟩
instance:aI aC 255 aD 1:={}
instance:bI aC 257 (.array 256 255):=⟨Tryz.underlying257⟩
instance:aI aC 257 aB 256:={}
instance:eS aC 257 (db 256 (.int .i16 0:Value)).toArray:={}
instance:bI aC 262 (.map 263 3):=⟨Tryz.underlying262⟩
instance:bI aC 263 (.array 200 255):=⟨Tryz.underlying263⟩
instance:aI aC 263 aB 200:={}
instance:eS aC 263 (db 200 (.int .i16 0:Value)).toArray:={}
instance:bI aC 273 (.slice 278):=⟨Tryz.underlying273⟩
instance:aI aC 273 aD 1:={}
instance:sM aC 273 278 3 24:={}
instance:eS aC 273 #[ak aj 0 0]:={}
instance:dZ aC 278 0 0:={}
instance:dZ aC 278 1 1:={}
instance:dZ aC 278 2 2:={}
instance:aI aC 278 aB 3:={}
instance:eS aC 278 #[ap av 0,ap av 0,ap av 0]:={}
instance:bI aC 303 (.array 4 114):=⟨Tryz.underlying303⟩
instance:aI aC 303 aB 4:={}
instance:eS aC 303 #[.int .u64 0,.int .u64 0,.int .u64 0,.int .u64 0]:={}
instance:bI aC 308 (.map 310 3):=⟨Tryz.underlying308⟩
instance:dZ aC 310 1 1:={}
instance:aI aC 310 aB 257:={}
instance:eS aC 310 (([ap av 0]:List Value)++db 256 (.int .i16 0:Value)).toArray:={}
instance:bI aC 312 (.map 340 114):=⟨Tryz.underlying312⟩
instance:aI aC 312 aD 1:={}
instance:dZ aC 314 0 0:={}
instance:dZ aC 314 1 3:={}
instance:bI aC 315 (.slice 5):=⟨Tryz.underlying315⟩
instance:sM aC 315 5 1 1:={}
instance:bI aC 316 (.map 278 3):=⟨Tryz.underlying316⟩
instance:aI aC 316 aD 1:={}
instance:eS aC 316 #[.map aj]:={}
instance:dZ aC 329 0 0:={}
instance:dZ aC 329 1 3:={}
instance:dZ aC 329 2 4:={}
instance:dZ aC 329 3 5:={}
instance:aI aC 340 aB 2:={}
instance:eS aC 340 #[ap av 0,ap av 0]:={}
instance:aF aC 12:={}
instance:aF aC 13:={}
instance:aF aC 14:={}
instance:aF aC 15:={}
instance:aF aC 18:={}
instance:aF aC 19:={}
instance:aF aC 20:={}
instance:aF aC 21:={}
instance:aF aC 40:={}
instance:aF aC 41:={}
instance:aF aC 42:={}
instance:aF aC 43:={}
instance:aF aC 44:={}
instance:aF aC 45:={}
instance:aF aC 46:={}
instance:aF aC 47:={}
instance:aF aC 48:={}
instance:aF aC 49:={}
instance:aF aC 50:={}
instance:aF aC 51:={}
instance:aF aC 52:={}
instance:aF aC 53:={}
instance:aF aC 65:={}
instance:aF aC 66:={}
instance:aF aC 73:={}
instance:aF aC 74:={}
instance:aF aC 75:={}
instance:aF aC 76:={}
instance:aF aC 77:={}
instance:aF aC 78:={}
instance:aF aC 79:={}
instance:aF aC 80:={}
instance:aF aC 81:={}
instance:aF aC 82:={}
instance:aF aC 83:={}
instance:aF aC 84:={}
instance:aF aC 85:={}
instance:aF aC 86:={}
instance:aF aC 87:={}
instance:aF aC 88:={}
instance:aF aC 89:={}
instance:aF aC 90:={}
instance:aF aC 91:={}
instance:aF aC 92:={}
instance:aF aC 93:={}
instance:aF aC 94:={}
instance:aF aC 95:={}
instance:aF aC 97:={}
instance:aF aC 111:={}
instance:aF aC 112:={}
instance:aF aC 113:={}
instance:aF aC 114:={}
instance:aF aC 115:={}
instance:aF aC 116:={}
instance:aF aC 117:={}
instance:aF aC 118:={}
instance:aF aC 119:={}
instance:aF aC 120:={}
instance:aF aC 121:={}
instance:aF aC 122:={}
instance:aF aC 123:={}
instance:aF aC 124:={}
instance:aF aC 125:={}
instance:aF aC 126:={}
instance:aF aC 127:={}
instance:aF aC 128:={}
instance:aF aC 129:={}
instance:aF aC 130:={}
instance:aF aC 131:={}
instance:aF aC 132:={}
instance:aF aC 133:={}
instance:aF aC 134:={}
instance:aF aC 138:={}
instance:aF aC 139:={}
instance:aF aC 144:={}
instance:aF aC 145:={}
instance:aF aC 146:={}
instance:aF aC 147:={}
instance:aF aC 148:={}
instance:aF aC 149:={}
instance:aF aC 150:={}
instance:aF aC 151:={}
instance:aF aC 152:={}
instance:aF aC 153:={}
instance:aF aC 154:={}
instance:aF aC 155:={}
instance:aF aC 156:={}
instance:aF aC 157:={}
instance:aF aC 158:={}
instance:aF aC 159:={}
instance:aF aC 160:={}
instance:aF aC 161:={}
instance:aF aC 163:={}
instance:aF aC 165:={}
instance:aF aC 166:={}
instance:aF aC 167:={}
instance:aF aC 168:={}
instance:aF aC 169:={}
instance:aF aC 170:={}
instance:aF aC 172:={}
instance:aF aC 174:={}
instance:aF aC 180:={}
instance:aF aC 181:={}
instance:aF aC 182:={}
instance:aF aC 183:={}
instance:aF aC 184:={}
instance:aF aC 185:={}
instance:aF aC 186:={}
instance:aF aC 187:={}
instance:aF aC 208:={}
instance:aF aC 209:={}
end cg
namespace cg
open Go.RowKit cT ey
theorem fin{P:Program}{f:FuncId}{args:Array Value}{w:World}(h:Calls P f args w (cJ (ret (.bool aB)) w)):Calls P f args w fun e w'=>e= .returned (.bool aB)/\Below w.heap.size w w':=h.mono fun _ _ h=>Em h
end cg
namespace dj
def gh(x:BitVec 64):Int:=x.toNat
abbrev v64(x:BitVec 64):Value:= .int .u64 (gh x)
theorem afS(x:BitVec 64):0<=gh x:=by unfold gh;omega
theorem afT(x:BitVec 64):gh x<=18446744073709551615:=by have:=x.isLt;unfold gh;omega
theorem pt{x y:BitVec 64}(h:gh x=gh y):x=y:=by
 apply XJ;unfold gh at h;omega
theorem afU(x y:BitVec 64):(gh x==gh y)=(x==y):=by
 by_cases h:x=y
 subst h;simp;have:gh x≠gh y:=fun e=>h (pt e);rw[beq_eq_false_iff_ne.2 this,beq_eq_false_iff_ne.2 h]
theorem wrap64(x:BitVec 64):uz.wrap (gh x)=gh x:=by
 have:=x.isLt;unfold gh;rw[sR];omega
theorem ofInt64(x:BitVec 64):xW 64 (gh x)=x:=by
 apply XJ;simp[gh]
theorem ahw(x y:BitVec 64):bits .and .u64 (gh x) (gh y)=gh (x&&&y):=by
 unfold bits;simp only[lU,ofInt64];exact wrap64 _
theorem ajm(x y:BitVec 64):bits .or .u64 (gh x) (gh y)=gh (x|||y):=by
 unfold bits;simp only[lU,ofInt64];exact wrap64 _
theorem aeY(x y:BitVec 64):bits .xor .u64 (gh x) (gh y)=gh (x^^^y):=by
 unfold bits;simp only[lU,ofInt64];exact wrap64 _
theorem ahx(x:BitVec 64):bits .xor .u64 uz.max (gh x)=gh (~~~ x):=by
 have h:=aeY (BitVec.allOnes 64) x;rw[BitVec.allOnes_xor]at h;rw[<-h];rfl
theorem U7(b:Nat)(h:b<4294967296):bits .and .i64 (b:Int) 63=((b %64:Nat):Int):=by
 have e1:xW 64 (b:Int)=iF 64 b:=by simp
 have e2:(iF 64 b&&&63#64).toNat=b %64:=by
  rw[BitVec.toNat_and,DZ,PF (by omega:b<2^64)];exact Nat.and_two_pow_sub_one_eq_mod b 6
 have e3:bits .and .i64 (b:Int) 63=av.wrap (((iF 64 b&&&63#64).toNat:Nat):Int):=by
  unfold bits;simp only[lU,e1];rfl
 rw[e3,e2,IntKind.wrap_i64];omega
theorem acV(k:Nat)(h:k<64):uz.wrap ((2:Int)^k)=gh (iF 64 (2^k)):=by
 have this:2^k<2^64:=Nat.pow_lt_pow_right akV h;unfold gh;rw[DZ,PF this,sR];have e:(2:Int)^k=((2^k:Nat):Int):=by simp
 rw[e];generalize 2^k=m at*;omega
structure C4 where
 a:BitVec 64
 b:BitVec 64
 c:BitVec 64
 d:BitVec 64
 deriving DecidableEq
def C4.get(x:C4)(i:Nat):BitVec 64:=if i=0 then x.a else if i=1 then x.b else if i=2 then x.c else x.d
def C4.set(x:C4)(i:Nat)(v:BitVec 64):C4:=if i=0 then {x with a:=v}else if i=1 then {x with b:=v}else if i=2 then {x with c:=v}else {x with d:=v}
def C4.zero:C4:=⟨0,0,0,0⟩
def C4.YD(x y:C4):C4:=⟨x.a&&&y.a,x.b&&&y.b,x.c&&&y.c,x.d&&&y.d⟩
def C4.not(x:C4):C4:=⟨~~~x.a,~~~x.b,~~~x.c,~~~x.d⟩
def d_(x:C4):List Value:=[.int .u64 (gh x.a),.int .u64 (gh x.b),.int .u64 (gh x.c),.int .u64 (gh x.d)]
def pu(x:C4):Value:=aP #[.int .u64 (gh x.a),.int .u64 (gh x.b),.int .u64 (gh x.c),.int .u64 (gh x.d)]
theorem YE(x:C4)(i:Nat)(h:i<4):(d_ x)[i]?=ah (v64 (x.get i)):=by
 match i,h with
 |0,_=>rfl
 |1,_=>rfl
 |2,_=>rfl
 |3,_=>rfl
theorem YF(x:C4)(i:Nat)(h:i<4)(v:BitVec 64):(d_ x).set i (v64 v)=d_ (x.set i v):=by
 match i,h with
 |0,_=>rfl
 |1,_=>rfl
 |2,_=>rfl
 |3,_=>rfl
def C4.bit(x:C4)(n:Nat):C4:=x.set (n/64) (x.get (n/64)|||iF 64 (2^(n %64)))
def C4.ke(x:C4)(b:Nat):Nat->C4
 |0=>x
 |n+1=>(C4.ke x b n).bit (b+n)
theorem YG(x:C4)(b n:Nat):(C4.ke x b n).set ((b+n)/64) ((C4.ke x b n).get ((b+n)/64)|||iF 64 (2^((b+n) %64)))=C4.ke x b (n+1):=rfl
def fy(lo hi:Int):C4:=C4.ke C4.zero (max lo 0).toNat (min hi 255+1-max lo 0).toNat
theorem C4.ext'{x y:C4}(h1:x.a=y.a)(h2:x.b=y.b)(h3:x.c=y.c)(h4:x.d=y.d):x=y:=by
 cases x;cases y;simp_all
theorem b5(p q:Bool):(p||(p&&q))=p:=by cases p<;>cases q<;>rfl
end dj
namespace dj
def b8(b:Nat):Nat:=((b/4)&&&51)+(b&&&51)
def c8(b:Nat):Nat:=(b/16+b)&&&15
theorem k1:∀t<2,∀c<128,(c+128*t)&&&85=c&&&85:=by decide+kernel
theorem k2:∀t<4,∀c<64,(c+64*t)&&&51=c&&&51:=by decide+kernel
theorem k3:∀t<5,∀p<5,∀q<5,(p+(q+16*p)+16*t)&&&15=c8 (q+16*p):=by decide+kernel
def s1(x:Nat):Nat:=((x/2)&&&6148914691236517205)+(x&&&6148914691236517205)
def s2(x:Nat):Nat:=((x/4)&&&3689348814741910323)+(x&&&3689348814741910323)
def s3(x:Nat):Nat:=(x/16+x)&&&1085102592571150095
def s4(x:Nat):Nat:=x+x/256
def s5(x:Nat):Nat:=x+x/65536
def s6(x:Nat):Nat:=x+x/4294967296
end dj
namespace dj
def C4.mem(x:C4)(n:Nat):Bool:=(x.get (n/64)).toNat.testBit (n %64)
def yh(x:C4):List Nat:=(eu 256).filter x.mem
def cnt(x:C4):Nat:=(yh x).length
theorem get_mem(x:C4)(n:Nat):x.mem n=(x.get (n/64)).getLsbD (n %64):=by
 unfold C4.mem;rw[BitVec.getLsbD]
theorem Mq(n:Nat):C4.zero.mem n=false:=by
 rw[get_mem];have:C4.zero.get (n/64)=0:=by unfold C4.get C4.zero;split;rfl;split;rfl;split<;>rfl
 rw[this];simp
theorem ext_mem{x y:C4}(h:∀n,n<256->x.mem n=y.mem n):x=y:=by
 have w:∀i,i<4->x.get i=y.get i:=fun i hi=>by
  apply BitVec.eq_of_getLsbD_eq;intro j hj;have:=h (64*i+j) J;rw[get_mem,get_mem,show(64*i+j)/64=i by omega,show(64*i+j) %64=j by omega]at this;exact this
 exact C4.ext' (w 0 akV) (w 1 akV) (w 2 akV) (w 3 akV)
theorem U8{x:C4}{n:Nat}:n∈yh x↔n<256/\x.mem n=true:=by
 unfold yh;rw[pN,nL]
end dj
namespace gu
open dj
inductive Rx where
 |mk (kind:Int) (c:C4) (kids:List Rx)
def Rx.kind:Rx->Int| .mk k _ _=>k
def Rx.uJ:Rx->C4| .mk _ c _=>c
def Rx.kids:Rx->List Rx| .mk _ _ l=>l
def Eu(k:Int):Int:=if k=1 then 0 else if k=2 then 0 else if k=3 then 0 else if k=6 then 1 else if k=4 then 2 else if k=5 then 2 else-1
mutual
def lC:Rx->Nat->Nat->Int×Nat
 | .mk k c l,deep,n=>if 100<n+1 then(2,n+1)else if 30<deep then(7,n+1)else if Eu k≠(l.length:Int)then(1,n+1)else if(decide (k=3) !=decide (c≠C4.zero))=aB then(1,n+1)else C0 l (deep+1) (n+1)
def C0:List Rx->Nat->Nat->Int×Nat
 |[],_,n=>(0,n)
 |r::l,deep,n=>if(lC r deep n).1≠0 then lC r deep n else C0 l deep (lC r deep n).2
end
mutual
def tY:Rx->Nat
 | .mk _ _ l=>s8 l+1
def s8:List Rx->Nat
 |[]=>0
 |r::l=>tY r+s8 l
end
theorem HW(r:Rx):0<tY r:=by obtain⟨k,c,l⟩:=r;rw[tY];omega
theorem Ev:∀{l:List Rx} {r:Rx},r∈l->tY r<=s8 l
 |x::l,r,h=>by
  rw[s8];rcases df.1 h with rfl|h
  omega;have:=Ev h;omega
inductive Re where
 |none
 |empty
 |byte (c:C4)
 |JQ (a b:Re)
 |JR (a b:Re)
 |star (a:Re)
def Re.size:Re->Nat
 | .JQ a b=>a.size+b.size+1
 | .JR a b=>a.size+b.size+1
 | .star a=>a.size+1
 |_=>1
def Re.U9:Re->Nat
 | .JQ a b=>max a.U9 b.U9+1
 | .JR a b=>max a.U9 b.U9+1
 | .star a=>a.U9+1
 |_=>1
def Re.nz:Re->Prop
 | .byte c=>c≠C4.zero
 | .JQ a b=>a.nz/\b.nz
 | .JR a b=>a.nz/\b.nz
 | .star a=>a.nz
 |_=>True
def Re.kind:Re->Int
 | .none=>1
 | .empty=>2
 | .byte _=>3
 | .JQ _ _=>4
 | .JR _ _=>5
 | .star _=>6
def Re.uJ:Re->C4
 | .byte c=>c
 |_=>C4.zero
def Re.kids:Re->List Re
 | .JQ a b=>[a,b]
 | .JR a b=>[a,b]
 | .star a=>[a]
 |_=>[]
def mb:Re->Rx
 | .none=> .mk 1 C4.zero []
 | .empty=> .mk 2 C4.zero []
 | .byte c=> .mk 3 c []
 | .JQ a b=> .mk 4 C4.zero [mb a,mb b]
 | .JR a b=> .mk 5 C4.zero [mb a,mb b]
 | .star a=> .mk 6 C4.zero [mb a]
theorem afV(r:Re):mb r= .mk r.kind r.uJ (r.kids.map mb):=by cases r<;>rfl
theorem Re.size_pos(r:Re):0<r.size:=by cases r<;>simp[Re.size]
theorem S5{α:Type}{l:List α}(h:l.length=2):∃a b,l=[a,b]:=
 match l,h with
 |[a,b],_=>⟨a,b,rfl⟩
structure Fit(r:Re)(deep n:Nat):Prop where
 nz:r.nz
 sz:n+r.size<=100
 dp:deep+r.U9<=31
theorem Ew{p:Int×Nat}{q:Nat}(h:p=(0,q)):p.1=0/\p.2=q:=by subst h;exact⟨rfl,rfl⟩
theorem JS:∀(N:Nat) (r:Rx) (deep n q:Nat),tY r<=N->lC r deep n=(0,q)->∃e:Re,r=mb e/\Fit e deep n/\q=n+e.size
 |0,r,_,_,_,h,_=>by have:=HW r;omega
 | N + 1,.mk k c l,deep,n,q,hN,h=>by
  have IH:=JS N;rw[tY]at hN;rw[lC]at h;split at h;simp at h;split at h;simp at h;split at h;simp at h;split at h;simp at h
  rename_i h1 h2 h3 h4
  have h3:Eu k=(l.length:Int):=by simpa using h3
  have h4:decide (k=3)=decide (c≠C4.zero):=by
   generalize decide (k=3)=x at*;generalize decide (c≠C4.zero)=y at*
   cases x<;>cases y<;>simp_all
  have leaf:∀e:Re,k=e.kind->c=e.uJ->l=[]->e.kids=[]->e.size=1->e.U9=1->e.nz->∃e:Re,Rx.mk k c l=mb e/\Fit e deep n/\q=n+e.size:=fun e a1 a2 a3 a4 a5 a6 a7=>by
   subst a1 a2 a3;rw[C0]at h;refine⟨e,by rw[afV,a4];rfl,⟨a7,by omega,by omega⟩,?_⟩;simp at h;omega
  unfold Eu at h3;have hz:k≠3->c=C4.zero:=fun hk=>by
   rw[decide_eq_false hk]at h4;exact XK fun hc=>by rw[decide_eq_true hc]at h4;cases h4
  by_cases k1:k=1
  ·rw[if_pos k1]at h3
   exact leaf .none k1 (hz J) (Ed J) I I I trivial
  rw[if_neg k1]at h3
  by_cases k2:k=2
  ·rw[if_pos k2]at h3
   exact leaf .empty k2 (hz J) (Ed J) I I I trivial
  rw[if_neg k2]at h3
  by_cases k3:k=3
  ·rw[if_pos k3]at h3
   rw[decide_eq_true k3]at h4;exact leaf (.byte c) k3 I (Ed J) I I I (by show c≠C4.zero;exact of_decide_eq_true h4.symm)
  rw[if_neg k3]at h3;have hc:=hz k3;subst hc;have two:∀(a b:Rx),l=[a,b]->∃x y:Re,a=mb x/\b=mb y/\Fit x (deep+1) (n+1)/\Fit y (deep+1) (n+1+x.size)/\q=n+1+x.size+y.size:=fun a b hl=>by
   subst hl;rw[s8,s8,s8]at hN;rw[C0,C0,C0]at h
   by_cases e1:(lC a (deep+1) (n+1)).1=0
   ·rw[if_neg (by simpa using e1)]at h
    obtain⟨x,rfl,f1,g1⟩:=IH a (deep+1) (n+1) (lC a (deep+1) (n+1)).2 J (nP e1 rfl);rw[g1]at h
    by_cases e2:(lC b (deep+1) (n+1+x.size)).1=0
    ·rw[if_neg (by simpa using e2)]at h
     obtain⟨y,rfl,f2,g2⟩:=IH b (deep+1) (n+1+x.size) (lC b (deep+1) (n+1+x.size)).2 J (nP e2 rfl);exact⟨x,y,rfl,rfl,f1,f2,by rw[g2]at h;simp at h;omega⟩
    rw[if_pos e2]at h;exact absurd (Ew h).1 e2
   rw[if_pos e1]at h;exact absurd (Ew h).1 e1
  by_cases k6:k=6
  ·rw[if_pos k6]at h3
   obtain⟨a,rfl⟩:∃a,l=[a]:=List.length_eq_one_iff.1 J;rw[s8,s8]at hN;rw[C0,C0]at h
   by_cases e1:(lC a (deep+1) (n+1)).1=0
   ·rw[if_neg (by simpa using e1)]at h
    obtain⟨x,rfl,f1,g1⟩:=IH a (deep+1) (n+1) (lC a (deep+1) (n+1)).2 J (nP e1 rfl);have:=f1.sz;have:=f1.dp;exact⟨.star x,by rw[k6];rfl,⟨f1.nz,by simp only[Re.size];omega,by simp only[Re.U9];omega⟩,by rw[g1]at h;simp at h;simp only[Re.size];omega⟩
   rw[if_pos e1]at h;exact absurd (Ew h).1 e1
  rw[if_neg k6]at h3
  by_cases k4:k=4
  ·rw[if_pos k4]at h3
   obtain⟨a,b,rfl⟩:∃a b,l=[a,b]:=S5 J;obtain⟨x,y,rfl,rfl,f1,f2,g⟩:=two a b rfl;have:=f1.dp;have:=f2.dp;have:=f2.sz;exact⟨.JQ x y,by rw[k4];rfl,⟨⟨f1.nz,f2.nz⟩,by simp only[Re.size];omega,by simp only[Re.U9];omega⟩,by simp only[Re.size];omega⟩
  rw[if_neg k4]at h3
  by_cases k5:k=5
  ·rw[if_pos k5]at h3
   obtain⟨a,b,rfl⟩:∃a b,l=[a,b]:=S5 J;obtain⟨x,y,rfl,rfl,f1,f2,g⟩:=two a b rfl;have:=f1.dp;have:=f2.dp;have:=f2.sz;exact⟨.JR x y,by rw[k5];rfl,⟨⟨f1.nz,f2.nz⟩,by simp only[Re.size];omega,by simp only[Re.U9];omega⟩,by simp only[Re.size];omega⟩
  rw[if_neg k5]at h3;omega
inductive Hj(P:List UInt8->Prop):List UInt8->Prop
 |nil:Hj P []
 |cons {u v:List UInt8}:P u->Hj P v->Hj P (u++v)
def Mr:Re->List UInt8->Prop
 | .none,_=>False
 | .empty,s=>s=[]
 | .byte c,s=>∃b:UInt8,s=[b]/\c.mem b.toNat=aB
 | .JQ a b,s=>∃u v,s=u++v/\Mr a u/\Mr b v
 | .JR a b,s=>Mr a s\/Mr b s
 | .star a,s=>Hj (Mr a) s
theorem U_{P:List UInt8->Prop}{u v:List UInt8}(h:Hj P u)(hv:P v):Hj P (u++v):=by
 induction h with
 |nil=>have:=Hj.cons hv .nil;simpa using this
 |cons h1 _ ih=>rw[dL];exact .cons h1 ih
def PW(s:List UInt8)(f j:Nat):List UInt8:=(s.drop f).take (j-f)
theorem JT{s:List UInt8}{f j:Nat}(h:j<=s.length):(PW s f j).length=j-f:=by unfold PW;rw[gZ,List.length_drop];omega
theorem YH(s:List UInt8)(f:Nat):PW s f f=[]:=by unfold PW;simp
theorem S6{s:List UInt8}{f i j:Nat}(h1:f<=i)(h2:i<=j):PW s f j=PW s f i++PW s i j:=by
 unfold PW;rw[show j-f=(i-f)+(j-i)by omega,List.take_add,iQ,show f+(i-f)=i by omega]
theorem acW{s u v:List UInt8}{f j:Nat}(hf:f<=j)(hj:j<=s.length)(h:PW s f j=u++v):f+u.length<=j/\u=PW s f (f+u.length)/\v=PW s (f+u.length) j:=by
 have hl:=JT (s:=s) (f:=f) hj;rw[h,bK]at hl;have h1:f+u.length<=j:=by omega
 have e:=S6 (s:=s) (f:=f) (i:=f+u.length) (j:=j) J h1;rw[h]at e;have hlu:u.length=(PW s f (f+u.length)).length:=by rw[JT J];omega
 have:=List.append_inj e hlu;exact⟨h1,this.1,this.2⟩
def U'(r:Re)(s:List UInt8)(f j:Nat):Prop:=f<=j/\j<=s.length/\Mr r (PW s f j)
inductive Rch(R:Nat->Nat->Prop)(f:Nat):Nat->Prop
 |refl:Rch R f f
 |step {i j:Nat}:Rch R f i->R i j->Rch R f j
theorem Rch.cons{R:Nat->Nat->Prop}{f i j:Nat}(h:R f i)(h':Rch R i j):Rch R f j:=by
 induction h' with
 |refl=>exact .step .refl h
 |step _ h2 ih=>exact .step ih h2
theorem YI{a:Re}{s:List UInt8}{f j:Nat}(hf:f<=s.length):U' (.star a) s f j↔Rch (U' a s) f j:=by
 constructor
 ·rintro⟨h1,h2,h⟩
  have h:Hj (Mr a) (PW s f j):=h;have aux:∀w,Hj (Mr a) w->∀f,f<=j->PW s f j=w->Rch (U' a s) f j:=by
   intro w hw
   induction hw with
   | nil=>
    intro f AV e;have:=JT (s:=s) (f:=f) h2;rw[e]at this;have:f=j:=by simp at this;omega
    subst this;exact .refl
   | cons hu _ ih=>
    intro f AV e;obtain⟨a1,a2,a3⟩:=acW AV h2 e;exact Rch.cons ⟨Nat.le_add_right _ _,by omega,by rw[<-a2];exact hu⟩ (ih _ a1 a3.symm)
  exact aux _ h f h1 I
 intro h
 induction h with
 |refl=>exact⟨aT _,hf,by rw[YH];exact Hj.nil⟩
 | step _ h2 ih=>
  obtain⟨a1,a2,a3⟩:=ih;obtain⟨b1,b2,b3⟩:=h2;exact⟨by omega,b2,by rw[S6 a1 b1];exact U_ a3 b3⟩
def ahy(s:List UInt8)(r:Re)(f:Nat)(c:C4):Prop:=∀j,j<256->(c.mem j=aB↔U' r s f j)
end gu
namespace gu
open dj
abbrev Va:=List UInt8
structure RS where
 p:Nat
 o:Nat
 e:Int
def ajn:Va:=[48,49,50,51,52,53,54,55,56,57,97,98,99,100,101,102]
def afW:Va:=[40,41,91,93,124,42,43,63,46,94,45,92]
section
variable{s:Va}
structure Vb(s:Va)(st st':RS):Prop where
 o:st'.o=st.o
 ge:st.p<=st'.p
 le:st'.p<=s.length
theorem Vb.trans{a b c:RS}(h:Vb s a b)(h':Vb s b c):Vb s a c:=⟨by rw[h'.o,h.o],eC h.ge h'.ge,h'.le⟩
theorem Vb.refl{st:RS}(h:st.p<=s.length):Vb s st st:=⟨rfl,aT _,h⟩
end
end gu
namespace gu
open dj
def ahz(n:Nat):UInt8:=ajn.getD n 0
def YJ(b:UInt8):Va:=
 if b=10 then [92,110]else if b=9 then [92,116]else if b=32 then [92,115]
 else if b<33\/126<b then [92,120,ahz (b.toNat/16),ahz (b.toNat %16)]
 else if b∈afW then [92,b]else [b]
def afX:Nat->List Nat->Nat
 |_,[]=>0
 |b,x::r=>if x=b+1 then afX (b+1) r+1 else 0
def ahA(b k:Nat):Va:=YJ (fT b)++((if 1<k then [45]else [])++(if 0<k then YJ (fT (b+k))else []))
def PX:Nat->List Nat->Va
 |0,_=>[]
 |_+1,[]=>[]
 |f+1,b::r=>ahA b (afX b r)++PX f (r.drop (afX b r))
def afY(c:C4):Va:=
 if cnt c=1 then YJ (fT ((yh c).getD 0 0))
 else if cnt c=255/\c.mem 10=aD then [46]
 else if 128<cnt c then [91,94]++(PX 256 (yh c.not)++[93])
 else [91]++(PX 256 (yh c)++[93])
def YK(lv:Nat)(e:Re):Bool:=decide (1<=lv/\e.kind=5\/2<=lv/\e.kind=4\/3<=lv/\e.kind=6)
def wrap(b:Bool)(t:Va):Va:=if b then [40]++(t++[41])else t
def body:Re->Va
 | .empty=>[40,41]
 | .none=>[91,93]
 | .byte c=>afY c
 | .star a=>wrap (YK 3 a) (body a)++[42]
 | .JQ a b=>wrap (YK 1 a) (body a)++wrap (YK 2 b) (body b)
 | .JR a b=>wrap (YK 0 a) (body a)++([124]++wrap (YK 1 b) (body b))
section
end
end gu
namespace cg
open Go.RowKit cT ey Go.ChangeShapes Go.WideShapes Go.ChangeAt
section
variable{H:Type}{enc0:TypeId×Value->H}{P:Program}{W:World}
def SlX{α:Type}(W:World)(is:List Value->α->Prop)(c:Nat)(v:Value)(l:List α):Prop:=
 ∃base cap,v=ak base l.length cap/\l.length<=cap/\cap<=maxLen/\(0<l.length->∃b off,base=ah ⟨b,off,aj⟩/\∀i (h:i<l.length),∃cs,is cs l[i]/\Rd W b (off+i*c) cs)
def uK(enc0:TypeId×Value->H)(P:Program)(W:World)(t:TypeId){α:Type}(is:List Value->α->Prop):Prop:=
 ∀fuel cs x,xZ enc0 P W 0 (fun _=>aB) aB fuel t cs=ah x->∃a,is cs a
theorem uK.mono{t:TypeId}{α:Type}{is is':List Value->α->Prop}(h:uK enc0 P W t is)(hi:∀cs a,is cs a->is' cs a):uK enc0 P W t is':=fun f cs x hx=>let ⟨a,ha⟩:=h f cs x hx;⟨a,hi _ _ ha⟩
def isInt(k:IntKind)(lo hi:Int)(cs:List Value)(n:Int):Prop:=cs=[.int k n]/\lo<=n/\n<=hi
def ahB(cs:List Value)(s:List UInt8):Prop:=cs=[str s]/\s.length<=9223372036854775807
theorem HX{t:TypeId}{k:IntKind}(ht:P.underlying t=ah (.int k)):uK enc0 P W t (isInt k k.min k.max):=fun f cs x h=>by
 obtain⟨n,h1,_,h3⟩:=DataW.trod_int ht h;simp only[Lit.wf,ff,decide_eq_true_eq]at h3;exact⟨n,h1,h3.1,h3.2⟩
theorem Vc{t:TypeId}(ht:P.underlying t=ah (.int .i64)):uK enc0 P W t (isInt .i64 (-9223372036854775808) 9223372036854775807):=(HX ht).mono fun cs n h=>⟨h.1,by simpa[D_,sQ,lU]using h.2.1,by simpa[Ea,sQ,lU]using h.2.2⟩
theorem Vd{t:TypeId}(ht:P.underlying t=ah (.int .u64)):uK enc0 P W t (isInt .u64 0 18446744073709551615):=(HX ht).mono fun cs n h=>⟨h.1,by simpa[D_,sQ,lU]using h.2.1,by simpa[Ea,sQ,lU]using h.2.2⟩
def ahC{α:Type}(W:World)(is:List Value->α->Prop)(c:Nat)(cs:List Value)(l:List α):Prop:=∃v,cs=[v]/\SlX W is c v l
def aeZ{α:Type}(is:List Value->α->Prop)(m c:Nat)(cs:List Value)(l:List α):Prop:=l.length=m/\∀i (h:i<l.length),is ((cs.drop (i*c)).take c) l[i]
theorem Ms{t e:TypeId}{m c:Nat}(ht:P.underlying t=ah (.array m e))(hc:P.cellsOf e=c){α:Type}{is:List Value->α->Prop}(hd:uK enc0 P W e is):uK enc0 P W t (fun cs l=>cs.length=P.cellsOf t/\aeZ is m c cs l):=fun fuel cs x h=>by
 obtain⟨xs,n,_,_,hl,hlen,hf⟩:=DataW.trod_array ht h;have each:∀i,i<m->∃y:α,is ((cs.drop (i*c)).take c) y:=fun i hi=>by
  have h1:=hf i hi;rw[hc,bm J]at h1;exact hd n _ _ h1
 obtain⟨l,Ve,hp⟩:=Dk m each;exact⟨l,hl,Ve,fun i hi=>hp i _ (bm hi)⟩
def YL(k:IntKind)(lo hi:Int)(m:Nat)(cs:List Value)(l:List Int):Prop:=l.length=m/\cs=l.map (.int k)/\∀x∈l,lo<=x/\x<=hi
theorem Mt{k:IntKind}{lo hi:Int}{m:Nat}{cs:List Value}{l:List Int}(hl:cs.length=m)(h:aeZ (isInt k lo hi) m 1 cs l):YL k lo hi m cs l:=by
 obtain⟨h1,h2⟩:=h;refine⟨h1,?_,fun x hx=>?_⟩
 ·apply mq
  intro i
  by_cases hi:i<l.length
  ·have h3:=(h2 i hi).1
   rw[kQ]at h3;have hic:i<cs.length:=by omega
   rw[dJ hic,mV,sU]at h3;injection h3 with h3 _
   rw[bm hic,eQ,bm hi,h3];rfl
  rw[ii J,ii (by simp;omega)]
 obtain⟨i,hi,rfl⟩:=jG.1 hx;exact(h2 i hi).2
theorem acX{t:TypeId}{fs:Array Field}(ht:P.underlying t=ah (.struct fs)){base:Nat}{v:Value}{d:DataW H}{ps:List MemPlace}(hv:JB P W .any base t v)(h:XS enc0 P W 0 (fun _=>aB) aB t v d ps):∃cs fuel,v= .agg cs/\xZ enc0 P W 0 (fun _=>aB) aB fuel t cs.toList=ah (d,ps):=by
 simp only[JB,ht]at hv;obtain⟨cs,rfl,_,_⟩:=hv;obtain⟨fuel,hf⟩:=h;exact⟨cs,fuel,rfl,hf⟩
end
theorem SlX.sl{α:Type}{W:World}{is:List Value->α->Prop}{f:α->Value}{v:Value}{l:List α}(h:SlX W is 1 v l)(hf:∀cs a,is cs a->cs=[f a]):Sl W v l.length (l.map f):=by
 obtain⟨base,cap,h1,h2,h3,h4⟩:=h;refine⟨base,cap,h1,h2,h3,fun h0=>?_⟩;obtain⟨b,off,h5,h6⟩:=h4 h0;refine⟨b,off,h5,fun j u hj=>?_⟩;have Yn:j<l.length:=by simpa using(cU.1 hj).1
 obtain⟨cs,h7,h8⟩:=h6 j Yn;have:=h8 0 (f l[j]) (by rw[hf _ _ h7];rfl);simp only[kQ,ji]at this;rw[this,<-hj];simp[Yn]
end cg
namespace cg
open Go.RowKit cT ey
section
variable{α:Type}{f:α->List Value}{c:Nat}
theorem yi(hc:∀a,(f a).length=c):∀(l:List α) (k j:Nat) (h:k<l.length),j<c->(l.flatMap f)[k*c+j]?=(f l[k])[j]?
 |a::r,0,j,h,hj=>by
  rw[jF,fR (by rw[hc];omega)];simp
 |a::r,k+1,j,h,hj=>by
  have ih:=yi hc r k j (by simpa using h) hj;rw[jF,kN (by rw[hc,nM];omega),hc];simp only[X9];rw[<-ih,nM]
  congr 1
  omega
theorem nS(hc:∀a,(f a).length=c):∀(l:List α),(l.flatMap f).length=l.length*c
 |[]=>by simp
 |a::r=>by rw[jF,bK,hc,nS hc r,cO,nM,x_]
theorem hU(hc:∀a,(f a).length=c){W:World}{L:List b9}{b off:Nat}{l:List α}(h:Rd W b off (l.flatMap f)){k:Nat}(hk:k<l.length)(j:Nat)(u:Value)(hu:(f l[k])[j]?=ah u):At W L ⟨b,off+k*c+j,aj⟩ u:=by
 have hj:j<c:=by rw[<-hc l[k]];exact(cU.1 hu).1
 rw[jH];exact jp h (by rw[yi hc l k j hk hj];exact hu)
theorem rz(hc:∀a,(f a).length=c){W:b_}{L:List b9}{b off:Nat}{l:List α}(h:∀j u,(l.flatMap f)[j]?=ah u->At W L ⟨b,off+j,aj⟩ u){k:Nat}(hk:k<l.length)(j:Nat)(u:Value)(hu:(f l[k])[j]?=ah u):At W L ⟨b,off+k*c+j,aj⟩ u:=by
 have hj:j<c:=by rw[<-hc l[k]];exact(cU.1 hu).1
 rw[jH];exact h _ _ (by rw[yi hc l k j hk hj];exact hu)
theorem oC(hc:∀a,(f a).length=c){W:b_}{L:List b9}{i g m cap n size:Nat}{e:TypeId}{l:List α}(hi:L[i]?=ah (bx e size (ak (ah ⟨g,0,aj⟩) m cap) n (l.flatMap f))){k:Nat}(hk:k<l.length)(j:Nat)(u:Value)(hu:(f l[k])[j]?=ah u):At W L ⟨g,0+k*c+j,aj⟩ u:=
 rz hc (off:=0) (fun q x hq=>by rw[cI];exact ku hi hq) hk j u hu
end
def ug{α:Type}(p:α->Bool)(l:List α):Int:=match l.findIdx? p with|some i=>i|none=> -1
theorem wQ{α:Type}{p:α->Bool}{l:List α}{i:Nat}(hi:i<l.length)(h:p l[i]=aB)(hb:∀j (hj:j<l.length),j<i->p l[j]=aD):ug p l=i:=by
 have:l.findIdx? p=ah i:=Py.2 ⟨hi,h,fun j JH=>by simpa using hb j J JH⟩;simp[ug,this]
theorem wR{α:Type}{p:α->Bool}{l:List α}(hb:∀j (hj:j<l.length),p l[j]=aD):ug p l= -1:=by
 have:l.findIdx? p=none:=X5.2 fun x hx=>by
  obtain⟨j,hj,rfl⟩:=jG.1 hx;exact hb j hj
 simp[ug,this]
theorem zK{α:Type}(p:α->Bool)(l:List α):decide (0<=ug p l)=l.any p:=by
 unfold ug
 cases e:l.findIdx? p with
 | none=>
  have:=X5.1 e;have h2:l.any p=false:=by
   rw[List.any_eq_false];intro x hx;simp[this x hx]
  rw[h2];rfl
 |some i=>
  obtain⟨h1,h2,_⟩:=Py.1 e;have h3:l.any p=true:=oT.2 ⟨l[i],bV h1,h2⟩;rw[h3];simp
theorem s9{α:Type}(p:α->Bool)(l:List α): -1<=ug p l/\ug p l<l.length\/ug p l= -1:=by
 unfold ug
 cases e:l.findIdx? p with
 |none=>right;rfl
 |some i=>
  obtain⟨h1,h2,_⟩:=Py.1 e
  left;simp only;omega
section
variable{P:Program}{n:Nat}{W:b_}{fr:Fr}{L:List b9}{Q:Exit->Act->World->Prop}{ops:Array Oper}{rest:List Oper}{d:Nat}{dst:Option Tmp}{ty:TypeId}{pos:String}{after:Array Edge}{guard:Option (Nat×Bool)}
theorem r7{t e u:TypeId}{x y:Operand}{a:Option Addr}{m c:Nat}{b:Bool}(ht:P.underlying t=ah (.slice e))(hx:ev fr x=ah (ak a m c))(hy:ev fr y=ah (ak aj 0 0))(hb:a.isNone=b):RR P n W ⟨dst,.binOp .eql t x y u,ty,pos,after,guard⟩ fr L (.bool b):= .mk fun ac w hr _=>by
 subst hb;have e1:(eqGuard .eql t x y (ak a m c) (ak aj 0 0)).run P w= .ok () w:=rfl;simp[execOp,hr.ev hx,hr.ev hy,e1,Go.Lib.run_eql_slice_nil w t e a m c 0 0 ht]
theorem JU{t e:TypeId}{c bytes:Nat}[xo:sM P t e c bytes](hn:dB d n=aB)
 (h:∀g,TL P n W ops Q rest ((d,ak (ah ⟨g,0,aj⟩) 0 0)::fr) (L++[bx e c (ak (ah ⟨g,0,aj⟩) 0 0) 0 []])):TL P n W ops Q (⟨ah d,.buildSlice t 0 #[],ty,pos,after,aj⟩::rest) fr L:=kW I fun a w hr hm K hK=>by
 obtain⟨i,z,ht,hi,hz,hc,_,hzc,h0⟩:=xo.el.ex;have e':(execOp a.eval ⟨ah d,.buildSlice t 0 #[],ty,pos,after,aj⟩).run P w= .ok (.value (ak (ah ⟨w.heap.size,0,aj⟩) 0 0)) (w.alloc (.cells #[] e)):=by
  have hne:¬(0*c>2^24):=by omega
  simp[execOp,ux,run_underlying ht,sizeOf,typeInfo,hi,lT,newRow];have e0:DY 0=#[]:=by simp
  rw[e0,Array.map_empty]
 unfold gY;rw[e'];exact hK _ _ ((h w.heap.size).go _ _ (hr.put hn _) (hm.append (oB w _) (rW.one (World.ownsRow_made w #[] 0 (bC _) akV (by simp)) fun k hk=>by
  have:w.heap.size=k:=nO hk;omega)))
theorem eT{t e:TypeId}{s x:Operand}{i size bytes m k:Nat}{v v2:Value}{xs ys:List Value}[xo:sM P t e size bytes](hi:L[i]?=ah (bx e size v m xs))(fQ:SlL W L v2 k ys)(hs:ev fr s=ah v)(hx:ev fr x=ah v2)(hk:ys.length=k*size)
 (h1:∀u∈ys,u.oneCell'=aB) (wP:m+k<=140737488355328) (hb:(m+k)*bytes<=140737488355328) (hn:dB d n=aB)
 (h:∀v',TL P n W ops Q rest ((d,v')::fr) (L.set i (bx e size v' (m+k) (xs++ys)))):
 TL P n W ops Q (⟨ah d,.call {callee:= .builtin .append,args:=#[s,x],argTypes:=#[t,t]},ty,pos,after,aj⟩::rest) fr L:=⟨fun a w hr hm=>by
 obtain⟨base,cap,rfl,r8,C1,fZ⟩:=fQ w hm;have sW:ys=[]->L.set i (bx e size v (m+0) (xs++[]))=L:=fun _=>by
  rw[dQ,ji];apply mq;intro q
  by_cases hq:i=q
  ·subst hq
   rw[ml (cU.1 hi).1,hi]
  rw[mU hq]
 cases base with
 | none=>
  have hk0:k=0:=by
   rcases Yh k with h|h
   exact h;obtain⟨b,off,h,_⟩:=fZ h;cases h
  subst hk0;have hy:ys=[]:=Ed (by rw[hk];simp);subst hy;have h2:=h v;rw[sW I]at h2;exact(PR xo.el hi hs hx hn h2).go a w hr hm
 | some p=>
  have ajo:∀j u,ys[j]?=ah u->w.cell? (p.add j)=ah u:=fun j u hj=>by
   obtain⟨b,off,hb,hr⟩:=fZ (by
    rcases Yh k with h|h
    ·subst h
     have:=(cU.1 hj).1;rw[hk]at this;simp at this
    exact h)
   simp only[dg]at hb;subst hb;rw[g_];exact hr j u hj
  exact JO (c:=cap) xo.el hi hs hx ajo hk h1 wP hb hn h hr hm⟩
theorem aV{i size m:Nat}{e:TypeId}{v:Value}{xs:List Value}(hi:L[i]?=ah (bx e size v m xs))(h:v.cells=#[v]->v.oneCell'=aB->TL P n W ops Q rest fr L):TL P n W ops Q rest fr L:=⟨fun a w hr hm=>by
 have h1:w.ownsRow 0 e size v m xs:=hm.get hi;rcases h1.2 with⟨hv,_⟩|⟨g,cap,oU,hv,_⟩
 exact(h (by rw[hv];rfl) (by rw[hv];rfl)).go a w hr hm;exact(h (by rw[hv];rfl) (by rw[hv];rfl)).go a w hr hm⟩
def JV(base:Option Addr)(cap c i j:Nat):Value:=ak (if cap=i then base else base.map (fun(q:Addr)=>q.add (i*c))) (j-i) (cap-i)
theorem Mu{t e:TypeId}{x:Operand}{lo hi:Option Operand}{agg:Bool}{c i j len cap:Nat}{base:Option Addr}(ht:P.underlying t=ah (.slice e))(he:Ty P e agg c)(hx:ev fr x=ah (ak base len cap))
 (hlo:match lo with|none=>i=0|some z=>∃k,ev fr z=ah (.int k (i:Int))) (hhi:match hi with|none=>j=len|some z=>∃k,ev fr z=ah (.int k (j:Int))) (h1:i<=j) (h2:j<=cap):
 RR P n W ⟨dst,.slice t x lo hi aj,ty,pos,after,guard⟩ fr L (JV base cap c i j):= .mk fun a w hr _=>by
 have e0:(0:Int)<=(i:Int):=by omega
 have hb:∀(k:IntKind) (p q:Nat) (cd:BoundsCode),p<=q->(Jy (.int k (p:Int)) q cd).run P w= .ok p w:=fun k p q cd h=>by
  have:(0:Int)<=(p:Int)/\(p:Int)<=(q:Int):=by omega
  simp[Jy,asIntOf,this]
 unfold JV
 cases lo<;>cases hi
 ·simp only at hlo hhi
  subst hlo hhi;simp[execOp,hr.ev hx,D9,uy,run_underlying ht,D8,he.size]
 ·obtain⟨k,hk⟩:=hhi
  simp only at hlo;subst hlo;simp[execOp,hr.ev hx,hr.ev hk,D9,uy,run_underlying ht,D8,he.size,hb k j cap _ h2]
 ·obtain⟨k,hk⟩:=hlo
  simp only at hhi;subst hhi;simp[execOp,hr.ev hx,hr.ev hk,D9,uy,run_underlying ht,D8,he.size,hb k i j _ h1]
 ·obtain⟨k,hk⟩:=hlo
  obtain⟨k',nu⟩:=hhi;simp[execOp,hr.ev hx,hr.ev hk,hr.ev nu,D9,uy,run_underlying ht,D8,he.size,hb k i j _ h1,hb k' j cap _ h2]
theorem Bh{t e:TypeId}{x z:Operand}{agg:Bool}{c i len cap:Nat}{base:Option Addr}{k:IntKind}(ht:P.underlying t=ah (.slice e))(he:Ty P e agg c)(hx:ev fr x=ah (ak base len cap))(hz:ev fr z=ah (.int k (i:Int)))(h1:i<=len)(h2:len<=cap):
 RR P n W ⟨dst,.slice t x (ah z) aj aj,ty,pos,after,guard⟩ fr L (JV base cap c i len):=Mu (lo:=ah z) (hi:=aj) ht he hx ⟨k,hz⟩ I h1 h2
theorem Vf{t e:TypeId}{x z:Operand}{agg:Bool}{c j len cap:Nat}{base:Option Addr}{k:IntKind}(ht:P.underlying t=ah (.slice e))(he:Ty P e agg c)(hx:ev fr x=ah (ak base len cap))(hz:ev fr z=ah (.int k (j:Int)))(h2:j<=cap):
 RR P n W ⟨dst,.slice t x aj (ah z) aj,ty,pos,after,guard⟩ fr L (JV base cap c 0 j):=Mu (lo:=aj) (hi:=ah z) ht he hx I ⟨k,hz⟩ (bC _) h2
theorem PY{α:Type}{f:α->List Value}{c:Nat}(hc:∀a,(f a).length=c){w:World}{base:Option Addr}{cap:Nat}{l:List α}(h:Sl w (ak base l.length cap) l.length (l.flatMap f)){i j:Nat}(h1:i<=j)(h2:j<=l.length):
 Sl w (JV base cap c i j) ((l.drop i).take (j-i)).length (((l.drop i).take (j-i)).flatMap f):=by
 obtain⟨b,cp,he,k1,k2,k3⟩:=h;simp only[kr,true_and]at he;obtain⟨rfl,rfl⟩:=he;have hlen:((l.drop i).take (j-i)).length=j-i:=by simp;omega
 refine⟨_,cap-i,by rw[hlen];rfl,by rw[hlen];omega,by omega,fun h0=>?_⟩;rw[hlen]at h0;obtain⟨b,off,rfl,hr⟩:=k3 J;refine⟨b,off+i*c,by rw[if_neg J,Option.map_some,g_],fun q u hq=>?_⟩;have e:l.flatMap f=(l.take i).flatMap f++((l.drop i).take (j-i)).flatMap f++((l.drop i).drop (j-i)).flatMap f:=by
  rw[<-fH,<-fH,dL,rp,rp]
 have JW:((l.take i).flatMap f).length=i*c:=by rw[nS hc,gZ,Bb J]
 have:=hr (i*c+q) u (by
  rw[e,dL,kN J,JW,Nat.add_sub_cancel_left,fR (cU.1 hq).1];exact hq)
 rw[jH];exact this
theorem ot{i size m:Nat}{e:TypeId}{v:Value}{xs:List Value}(hi:L[i]?=ah (bx e size v m xs))(h:∀base cap,v=ak base m cap->m<=cap->cap<=9223372036854775807->TL P n W ops Q rest fr L):TL P n W ops Q rest fr L:=⟨fun a w hr hm=>by
 have h1:w.ownsRow 0 e size v m xs:=hm.get hi;obtain⟨base,cap,hv,r8,C1,_⟩:=Sl.dy h1;exact(h base cap hv r8 (by unfold maxLen at C1;omega)).go a w hr hm⟩
theorem afZ{c:Code}{i size m:Nat}{e:TypeId}{v:Value}{xs:List Value}(hi:L[i]?=ah (bx e size v m xs))(h:∀base cap,v=ak base m cap->m<=cap->cap<=9223372036854775807->T P n W c Q fr L):T P n W c Q fr L:=⟨fun a w hr hm=>by
 have h1:w.ownsRow 0 e size v m xs:=hm.get hi;obtain⟨base,cap,hv,r8,C1,_⟩:=Sl.dy h1;exact(h base cap hv r8 (by unfold maxLen at C1;omega)).go a w hr hm⟩
theorem S7{c:Code}{i size m:Nat}{e:TypeId}{v:Value}{xs:List Value}(hi:L[i]?=ah (bx e size v m xs))(h:v.cells=#[v]->v.oneCell'=aB->T P n W c Q fr L):T P n W c Q fr L:=⟨fun a w hr hm=>by
 have h1:w.ownsRow 0 e size v m xs:=hm.get hi;obtain⟨base,cap,hv,_⟩:=Sl.dy h1;exact(h (by rw[hv];rfl) (by rw[hv];rfl)).go a w hr hm⟩
def HY(fr:Fr):List Operand->Option (List Value)
 |[]=>ah []
 |x::r=>match ev fr x,HY fr r with|some v,ah l=>ah (v::l)|_,_=>aj
theorem Ex{a:Act}(hr:nt n a fr):∀(l:List Operand) (vs:List Value),HY fr l=ah vs->l.map a.eval=vs
 |[],vs,h=>by simp only[HY,dg]at h;subst h;rfl
 | x ::r,vs,h=>by
  simp only[HY]at h;split at h
  ·rename_i v l h1 h2
   simp only[dg]at h;subst h;simp[hr.ev h1,Ex hr r l h2]
  cases h
theorem qV{fn:Fn}{first cap:Array Operand}{vs us:List Value}(h1:HY fr first.toList=ah vs)(h2:HY fr cap.toList=ah us):RR P n W ⟨dst,.makeFunc fn first cap,ty,pos,after,guard⟩ fr L (.func fn vs.toArray us.toArray):= .mk fun a w hr _=>by
 have e1:first.map a.eval=vs.toArray:=by rw[<-Ex hr _ _ h1,<-DX,xV]
 have e2:cap.map a.eval=us.toArray:=by rw[<-Ex hr _ _ h2,<-DX,xV]
 simp only[execOp,e1,e2];rfl
end
end cg
namespace cg
open Go.RowKit cT ey Go.ChangeShapes Go.WideShapes Go.ChangeAt
structure Msr(P:Program)(H:Type) where
 ok:TypeId->DataW H->Prop
 lim:TypeId->Nat->Prop
 af0:Nat->Prop
 zero:∀e,lim e 0
 slice:∀{t e:TypeId} {elems spare:List (DataW H)},P.underlying t=ah (.slice e)->ok t (.slice elems spare)->lim e elems.length/\∀d∈elems,ok e d
 YM:∀{t:TypeId} {fs:Array Field} {parts:List (DataW H)},P.underlying t=ah (.struct fs)->ok t (.agg parts)->∀(i:Nat) (f:Field) (d:DataW H),fs[i]?=ah f->parts[i]?=ah d->ok f.type d
 arr:∀{t e:TypeId} {m:Nat} {parts:List (DataW H)},P.underlying t=ah (.array m e)->ok t (.agg parts)->∀d∈parts,ok e d
 str:∀{t:TypeId} {b:List UInt8},ok t (.lit (.string b))->af0 b.length
section
variable{H:Type}{P:Program}
theorem uL{e:TypeId}:∀(l:List (DataW H)) (d:DataW H),d∈l->∀n∈d.weights P e,n∈D7 P e l
 |[],_,h,_,_=>by cases h
 |x::r,d,h,n,hn=>by
  rw[D7,gH];rcases df.1 h with rfl|h
  exact .inl hn;exact .inr (uL r d h n hn)
theorem s_:∀(ts:List TypeId) (l:List (DataW H)) (i:Nat) (t:TypeId) (d:DataW H),ts[i]?=ah t->l[i]?=ah d->∀n∈d.weights P t,n∈xX P ts l
 |[],_,_,_,_,h,_,_,_=>by simp at h
 |_::_,[],_,_,_,_,h,_,_=>by simp at h
 |t0::ts,d0::l,0,t,d,ht,hd,n,hn=>by
  simp only[sS,dg]at ht hd;subst ht hd;rw[xX,gH];exact .inl hn
 |t0::ts,d0::l,i+1,t,d,ht,hd,n,hn=>by
  rw[xX,gH];exact .inr (s_ ts l i t d (by simpa using ht) (by simpa using hd) n hn)
def S8(P:Program)(H:Type):Msr P H where
 ok t d:=∀n∈d.weights P t,n<=reachBytes
 lim e n:=n*P.bytesOf e<=reachBytes
 af0 n:=n<=reachBytes
 zero e:=by simp
 slice:=fun {t e elems spare} ht h=>by
  have hw:xY P t (.slice elems spare)=(elems.length+spare.length)*P.bytesOf e::(D7 P e elems++D7 P e spare):=by rw[xY,ht]
  rw[hw]at h;refine⟨?_,fun d hd n hn=>h n ?_⟩
  ·have h1:=h _ (fc)
   exact eC (ru _ J) h1
  exact List.mem_cons_of_mem _ (uC _ (uL elems d hd n hn))
 YM:=fun {t fs parts} ht h i f d hf hd n hn=>by
  have hw:xY P t (.agg parts)=xX P (fs.toList.map (·.type)) parts:=by rw[xY,ht]
  rw[hw]at h;exact h n (s_ _ _ i f.type d (by rw[eQ,Array.getElem?_toList,hf];rfl) hd n hn)
 arr:=fun {t e m parts} ht h d hd n hn=>by
  have hw:xY P t (.agg parts)=D7 P e parts:=by rw[xY,ht]
  rw[hw]at h;exact h n (uL parts d hd n hn)
 str:=fun {t b} h=>h _ (by rw[xY];exact fc)
theorem Mv{ts:List TypeId}{ds:List (DataW H)}(hsz:(xX P ts ds).all (· <=reachBytes)=aB)(j:Nat){t:TypeId}{d:DataW H}(ht:ts[j]?=ah t)(hd:ds[j]?=ah d):(S8 P H).ok t d:=fun n hn=>by
 have:=oR.1 hsz n (s_ ts ds j t d ht hd n hn)
 simpa using this
end
section
variable{H:Type}{enc0:TypeId×Value->H}{P:Program}{W:World}{M:Msr P H}
def k8(M:Msr P H)(enc0:TypeId×Value->H)(W:World)(t:TypeId){α:Type}(is:List Value->α->Prop):Prop:=
 ∀fuel cs x,xZ enc0 P W 0 (fun _=>aB) aB fuel t cs=ah x->M.ok t x.1->∃a,is cs a
theorem k8.mono{t:TypeId}{α β:Type}{is:List Value->α->Prop}{is':List Value->β->Prop}(h:k8 M enc0 W t is)(hi:∀cs a,is cs a->∃b,is' cs b):k8 M enc0 W t is':=fun f cs x hx hm=>let ⟨_,ha⟩:=h f cs x hx hm;hi _ _ ha
theorem HZ{t:TypeId}{α:Type}{is:List Value->α->Prop}(h:uK enc0 P W t is):k8 M enc0 W t is:=fun f cs x hx _=>h f cs x hx
theorem PZ{t:TypeId}(ht:P.underlying t=ah (.int .i64)):k8 M enc0 W t (isInt .i64 (-9223372036854775808) 9223372036854775807):=HZ (Vc ht)
theorem yj{t:TypeId}(ht:P.underlying t=ah .string):k8 M enc0 W t (fun cs s=>ahB cs s/\M.af0 s.length):=fun f cs x h hm=>by
 obtain⟨s,h1,h2,h3⟩:=DataW.trod_string ht h;refine⟨s.data.toList,⟨by rw[h1,Yo],?_⟩,?_⟩
 ·have e:s.data.toList.length=s.size:=pL
  unfold maxLen at h3;omega
 rw[h2]at hm;exact M.str hm
theorem ta{t e:TypeId}{c:Nat}(ht:P.underlying t=ah (.slice e))(hc:P.cellsOf e=c)(L3:0<c){α:Type}{is:List Value->α->Prop}(hd:k8 M enc0 W e is)(_:∀cs a,is cs a->cs.length=c):k8 M enc0 W t (fun cs l=>ahC W is c cs l/\M.lim e l.length):=fun fuel cs x h hm=>by
 rcases DataW.trod_slice ht h with⟨rfl,_⟩|⟨a,len,cap,elems,rest,n,_,rfl,hx,_,hlc,hmx,xo,Ei,_⟩
 exact⟨[],⟨_,rfl,aj,0,rfl,aT _,by decide,fun h=>by simp at h⟩,M.zero e⟩;rw[hx]at hm;obtain⟨Ey,rv⟩:=M.slice ht hm;have each:∀i,i<len->∃y:α,∃cs,W.cells? 0 (a.add (i*c)) c=ah cs/\is cs y:=fun i hi=>by
  have h1:=Ei i hi;rw[hc,bm J]at h1
  cases hcell:W.cells? 0 (a.add (i*c)) c with
  |none=>rw[hcell]at h1;simp at h1
  | some cs=>
   rw[hcell]at h1;obtain⟨y,hy⟩:=hd n cs _ h1 (rv _ (eI.2 ⟨_,bV J,rfl⟩));exact⟨y,cs,rfl,hy⟩
 obtain⟨l,Ve,hp⟩:=Dk len each;subst Ve;refine⟨l,⟨_,rfl,ah a,cap,rfl,hlc,hmx,fun h0=>?_⟩,by rw[dw,xo]at Ey;exact Ey⟩;obtain⟨cs0,h1,h2⟩:=hp 0 l[0] (bm h0);have h3:=(kR h1).2 0 L3;have hlen:=(kR h1).1;rw[bm J]at h3;have hsp:=HO h3;have e0:a.spot=none:=by
  rw[Bc]at hsp;unfold rl at hsp
  simpa using hsp
 obtain⟨b,off,spot⟩:=a;simp only at e0;subst e0;refine⟨b,off,rfl,fun i hi=>?_⟩;obtain⟨cs,h4,h5⟩:=hp i l[i] (bm hi);refine⟨cs,h5,fun j u hj=>?_⟩;have Yn:j<c:=by have:=(cU.1 hj).1;rw[(kR h4).1]at this;exact this
 have h6:=(kR h4).2 j Yn;rw[g_,g_]at h6;rw[h6];exact hj
theorem Bi{t:TypeId}{fs:Array Field}(ht:P.underlying t=ah (.struct fs)){fuel:Nat}{cs:List Value}{x:DataW H×List MemPlace}(h:xZ enc0 P W 0 (fun _=>aB) aB fuel t cs=ah x)(hm:M.ok t x.1):
 cs.length=P.cellsOf t/\∀(i:Nat) (f:Field),fs[i]?=ah f->∀{α:Type} {is:List Value->α->Prop},k8 M enc0 W f.type is->∃a,is ((cs.drop f.offset).take (P.cellsOf f.type)) a:=by
 obtain⟨xs,n,_,hx,hl,hlen,hf⟩:=DataW.trod_struct ht h;refine⟨hl,fun i f hi α is ho=>?_⟩;have h1:=hf i f hi;have hlt:i<xs.length:=by rw[hlen];exact(kq.1 hi).1
 rw[bm hlt]at h1;rw[hx]at hm;exact ho n _ _ h1 (M.YM ht hm i f _ hi (by rw[eQ,bm hlt];rfl))
theorem YN{t:TypeId}{fs:Array Field}(ht:P.underlying t=ah (.struct fs)){base:Nat}{v:Value}{d:DataW H}{ps:List MemPlace}(hv:JB P W .any base t v)(h:XS enc0 P W 0 (fun _=>aB) aB t v d ps){α:Type}{is:List Value->α->Prop}(ho:k8 M enc0 W t is)(hm:M.ok t d):∃cs a,v= .agg cs/\is cs.toList a:=by
 obtain⟨cs,fuel,rfl,hf⟩:=acX ht hv h;obtain⟨a,ha⟩:=ho fuel cs.toList _ hf hm;exact⟨cs,a,rfl,ha⟩
end
theorem SlX.flat{α:Type}{W:World}{is:List Value->α->Prop}{f:α->List Value}{c:Nat}{v:Value}{l:List α}(h:SlX W is c v l)(hc:∀a,(f a).length=c)(L3:0<c)(hf:∀cs a,is cs a->cs=f a):Sl W v l.length (l.flatMap f):=by
 obtain⟨base,cap,h1,h2,h3,h4⟩:=h;refine⟨base,cap,h1,h2,h3,fun h0=>?_⟩;obtain⟨b,off,h5,h6⟩:=h4 h0;refine⟨b,off,h5,fun j u hj=>?_⟩;have Yn:=(cU.1 hj).1;rw[Mc hc]at Yn;have hi:j/c<l.length:=(Yg L3).2 Yn;have af1:=Be j L3;have hdm:j/c*c+j %c=j:=by rw[Nat.mul_comm];exact Nat.div_add_mod j c
 obtain⟨cs,h7,h8⟩:=h6 (j/c) hi;rw[hf _ _ h7]at h8;have h9:=B_ hc l (j/c) (j %c) l[j/c] (bm hi) af1;rw[hdm]at h9;rw[h9]at hj;have:=h8 (j %c) u hj;rw[jH,hdm]at this;exact this
end cg
namespace cg
open Go.RowKit cT ey
section
variable{P:Program}{n:Nat}{W:b_}{fr:Fr}{L:List b9}{Q:Exit->Act->World->Prop}{ops:Array Oper}{rest:List Oper}{d:Nat}{dst:Option Tmp}{ty:TypeId}{pos:String}{after:Array Edge}{guard:Option (Nat×Bool)}
theorem uM{t e:TypeId}{x y:Operand}{c bytes m cap:Nat}{k k':IntKind}{zs:Array Value}[xo:sM P t e c bytes][hz0:eS P e zs](hx:ev fr x=ah (.int k (m:Int)))(hy:ev fr y=ah (.int k' (cap:Int)))(S9:m<=cap)(hb:bytes*cap<=281474976710656)(wP:cap<=9223372036854775807)(hn:dB d n=aB)
 (h:∀g,TL P n W ops Q rest ((d,ak (ah ⟨g,0,aj⟩) m cap)::fr) (L++[aO g (madeCells zs (cap*c)) e])):TL P n W ops Q (⟨ah d,.makeSlice t x y,ty,pos,after,aj⟩::rest) fr L:=kW I fun a w hr hm K hK=>by
 obtain⟨i,z,ht,hi,hz,hc,U2,hzc,h0⟩:=xo.el.ex;obtain⟨i2,z2,Pb,hz2,hz3⟩:=eS.ex (P:=P) (t:=e);rw[hi]at Pb;obtain rfl:i=i2:=nO Pb;rw[hz]at hz2;obtain rfl:z=z2:=nO hz2;have JX:(i.bytes:Int)*(cap:Int)<=281474976710656:=by
  rw[U2,<-Int.natCast_mul];omega
 have hrun:=run_make (P:=P) w t e i z ht hi hz k k' (m:Int) (cap:Int) J J JX J;rw[cX,cX,hc,hz3]at hrun;have e':(execOp a.eval ⟨ah d,.makeSlice t x y,ty,pos,after,aj⟩).run P w= .ok (.value (ak (ah ⟨w.heap.size,0,aj⟩) m cap)) (w.alloc (.cells (madeCells zs (cap*c)) e)):=by
  simp only[execOp,hr.ev hx,hr.ev hy,mj,hrun,oO,mT]
 unfold gY;rw[e'];exact hK _ _ ((h w.heap.size).go _ _ (hr.put hn _) (hm.append (oB w _) (rW.one (heap_alloc_new w _) fun k hk=>by simp only[aO,dg]at hk;omega)))
theorem Mem.YO{w:World}{i g m cap size:Nat}{cs:Array Value}{e:TypeId}(h:Mem W L w)(hi:L[i]?=ah (aO g cs e))(hc:cs.size=cap*size)(S9:m<=cap)(tb:cap<=9223372036854775807):Mem W (L.set i (bx e size (ak (ah ⟨g,0,aj⟩) m cap) m (cs.toList.take (m*size)))) w:=
 h.CY hi ⟨rfl,rfl,rfl,aT _,fun _ _ _=>rfl⟩ ⟨by rw[gZ,pL,hc,Bb (ru _ S9)],.inr ⟨g,cap,cs,rfl,bC _,h.get hi,S9,by unfold maxLen;omega,hc,rfl⟩⟩ fun k hk=> .inl hk
theorem H0{i g m cap:Nat}{cs:Array Value}{e:TypeId}(size:Nat)(hi:L[i]?=ah (aO g cs e))(hc:cs.size=cap*size)(S9:m<=cap)(tb:cap<=9223372036854775807)(h:TL P n W ops Q rest fr (L.set i (bx e size (ak (ah ⟨g,0,aj⟩) m cap) m (cs.toList.take (m*size))))):TL P n W ops Q rest fr L:=
 ⟨fun a w hr xp=>h.go a w hr (xp.YO hi hc S9 tb)⟩
theorem YP{c:Code}{i g m cap:Nat}{cs:Array Value}{e:TypeId}(size:Nat)(hi:L[i]?=ah (aO g cs e))(hc:cs.size=cap*size)(S9:m<=cap)(tb:cap<=9223372036854775807)(h:T P n W c Q fr (L.set i (bx e size (ak (ah ⟨g,0,aj⟩) m cap) m (cs.toList.take (m*size))))):T P n W c Q fr L:=
 ⟨fun a w hr xp=>h.go a w hr (xp.YO hi hc S9 tb)⟩
theorem k9{i g m cap:Nat}{cs:Array Value}{T:TypeId}{xs:List Value}(hi:L[i]?=ah (aO g cs T))(hx:∀(j:Nat) (u:Value),xs[j]?=ah u->cs[j]?=ah u)(S9:m<=cap)(tb:cap<=9223372036854775807):SlL W L (ak (ah ⟨g,0,aj⟩) m cap) m xs:=fun w hm=>
 ⟨_,cap,rfl,S9,by unfold maxLen;omega,fun _=>⟨g,0,rfl,fun j u hj=>by
  rw[cI];exact aE hi (hx j u hj) w hm⟩⟩
end
theorem ae0{z:Array Value}{k m:Nat}(h:z.size=k)(h0:0<k):madeCells z (m*k)=((db m z.toList).flatten).toArray:=by
 subst h;apply XI;intro j;unfold madeCells
 by_cases hj:j<m*z.size
 ·have h2:j/z.size<m:=(Yg h0).2 hj
  have h3:=Be j h0;have key:∀(m j:Nat),j<m*z.size->((db m z.toList).flatten)[j]?=z.toList[j %z.size]?:=by
   intro m
   induction m with
   |zero=>intro j hj;simp at hj
   | succ m ih=>
    intro j hj;rw[List.replicate_succ,Ba]
    by_cases hc:j<z.size
    rw[fR (by simpa using hc),PF hc];rw[kN (by simp;omega)];simp only[pL];rw[ih (j-z.size) (by rw[nM]at hj;omega)]
    congr 1
    exact(Nat.mod_eq_sub_mod J).symm
  simp only[jh,key m j hj];simp[hj,h3]
 have:((db m z.toList).flatten).length=m*z.size:=by simp
 rw[Array.getElem?_eq_none (by simp;omega),jh,ii J]
theorem H2:∀(xs:List Value) (acc:Array Value) (off k:Nat),off+k+xs.length<=acc.size->(xs.toArray.zipIdx k).foldl (fun cs (x:Value×Nat)=>cs.setIfInBounds (off+x.2) x.1) acc=(acc.toList.take (off+k)++xs++acc.toList.drop (off+k+xs.length)).toArray
 | [],acc,off,k,_=>by
  have e0:(([]:List Value).toArray.zipIdx k)=#[]:=by apply sO;simp
  rw[e0];simp
 | x ::xs,acc,off,k,h=>by
  simp only[cO]at h;have e:(x::xs).toArray.zipIdx k=#[(x,k)]++xs.toArray.zipIdx (k+1):=by
   apply sO;simp[JD]
  rw[e,Array.foldl_append];have e2:(#[(x,k)]:Array (Value×Nat)).foldl (fun cs (x:Value×Nat)=>cs.setIfInBounds (off+x.2) x.1) acc=acc.setIfInBounds (off+k) x:=by simp
  rw[e2,H2 xs _ off (k+1) (by simp;omega)]
  congr 1
  have hA:(acc.toList.take (off+k)).length=off+k:=by simp;omega
  have hA1:(acc.toList.take (off+k)++[x]).length=off+k+1:=by rw[bK,hA];rfl
  have e3:acc.toList.set (off+k) x=(acc.toList.take (off+k)++[x])++acc.toList.drop (off+k+1):=by
   rw[Ec,if_pos (by simp;omega)];simp
  simp only[Jt,cO];rw[e3,show off+(k+1)=off+k+1 by omega,PD hA1,<-iQ,PE hA1,iQ];simp only[dL,kt,fN];rw[show off+k+1+xs.length=off+k+(xs.length+1)by omega]
theorem ae1{c:Nat}(c0:Nat->Option (Nat×Nat))(L3:∀i,c0 i=ah (i*c,c)):∀(vs:List Value) (k:Nat) (acc:Array Value),(k+vs.length)*c<=acc.size->(∀v∈vs,v.cells.size=c)->
 lT c0 acc ((vs.zipIdx k).map fun(v,i)=>(i,v))=ah (acc.toList.take (k*c)++vs.flatMap (fun v=>v.cells.toList)++acc.toList.drop ((k+vs.length)*c)).toArray
 |[],k,acc,h,_=>by simp[lT]
 | v ::vs,k,acc,h,h1=>by
  simp only[cO]at h;have hv:=h1 v (by simp);have hsz:k*c+c<=acc.size:=by
   have:(k+1)*c<=(k+(vs.length+1))*c:=ru _ J;rw[lW,uE]at this;omega
  rw[JD,fw];simp only[lT,L3];rw[if_neg (by simp[hv];omega)];have ae2:=H2 v.cells.toList acc (k*c) 0 (by simp[hv];exact hsz);simp only[xV,ji,pL,hv]at ae2;rw[ae2,ae1 c0 L3 vs (k+1) _ (by simp[hv];rw[lW,lW]at*;omega) (fun u hu=>h1 u (by simp[hu]))]
  congr 2
  have hA:(acc.toList.take (k*c)).length=k*c:=by simp;omega
  have hA1:(acc.toList.take (k*c)++v.cells.toList).length=(k+1)*c:=by rw[bK,hA,pL,hv,lW,uE]
  simp only[jF,cO];rw[PD hA1];have e5:(k+1+vs.length)*c=(k+1)*c+vs.length*c:=lW _ _ _;rw[e5,<-iQ,PE hA1,iQ];simp only[dL];rw[show k*c+c+vs.length*c=(k+(vs.length+1))*c by rw[lW,lW,uE];omega]
theorem YQ{P:Program}{t e:TypeId}{c bytes:Nat}(xo:El P t e c bytes)(vs:List Value)(h1:∀v∈vs,v.cells.size=c)(h0:0<vs.length)(hm:vs.length*c<=16777216)(w:World):
 (ux t vs.length (vs.zipIdx.map fun(v,i)=>(i,v)).toArray).run P w= .ok (ak (ah ⟨w.heap.size,0,aj⟩) vs.length vs.length) (w.alloc (.cells (vs.flatMap fun v=>v.cells.toList).toArray e)):=by
 obtain⟨i,z,ht,hi,hz,hc,_,hzc,hp⟩:=xo.ex;have rY:=ae1 (c:=c) (fun i=>ah (i*c,c)) (by simp) vs 0 ((DY (vs.length*c)).map (z.cells[· %z.cells.size]!)) (by simp) h1
 simp only[Bc,sU,fN,cI]at rY;rw[fS (by simp)]at rY;simp only[dQ]at rY;have hne:¬(vs.length*c>2^24):=by omega
 have Yw:¬(vs.length*c=0):=by
  have:=Nat.mul_pos h0 hp;omega
 simp only[ux,mj,run_underlying ht,oO,sizeOf,typeInfo,run_program,hi,mT,hc,zeroValue,hz,if_neg hne,if_neg Yw];simp only[rY,newRow];simp
section
variable{P:Program}{n:Nat}{W:b_}{fr:Fr}{L:List b9}{Q:Exit->Act->World->Prop}{ops:Array Oper}{rest:List Oper}{d:Nat}{dst:Option Tmp}{ty:TypeId}{pos:String}{after:Array Edge}{guard:Option (Nat×Bool)}
theorem fF{t e:TypeId}{c bytes m:Nat}{parts:Array (Nat×Operand)}{cs:Array Value}(vs:List Value)[xo:sM P t e c bytes](hp:sX fr parts.toList=ah (vs.zipIdx.map fun(v,i)=>(i,v)))(hm:vs.length=m)(h0:dB 0 m=aB)(h1:∀v∈vs,v.cells.size=c)(hs:ya (m*c) 16777216=aB)(hcs:cs=(vs.flatMap fun v=>v.cells.toList).toArray)(hn:dB d n=aB)
 (h:∀g,TL P n W ops Q rest ((d,ak (ah ⟨g,0,aj⟩) m m)::fr) (L++[aO g cs e])):TL P n W ops Q (⟨ah d,.buildSlice t m parts,ty,pos,after,aj⟩::rest) fr L:=by
 subst hm hcs;refine PP (fun a w hr=>?_) hn h;have e:(parts.map fun(i,x)=>(i,a.eval x))=(vs.zipIdx.map fun(v,i)=>(i,v)).toArray:=by
  rw[<-sY hr _ _ hp,<-DX,xV]
 rw[e];exact YQ xo.el vs h1 (mW h0) (mW hs) w
theorem Mw{t e:TypeId}{x z:Operand}{agg:Bool}{c j len cap:Nat}{base:Option Addr}{k:IntKind}(ht:P.underlying t=ah (.slice e))(he:Ty P e agg c)(hx:ev fr x=ah (ak base len cap))(hz:ev fr z=ah (.int k (j:Int)))(h:j<=cap):RR P n W ⟨dst,.slice t x aj (ah z) aj,ty,pos,after,guard⟩ fr L (ak base j cap):= .mk fun a w hr hm=>by
 have h1:=(Vf (P:=P) (n:=n) (W:=W) (L:=L) (dst:=dst) (ty:=ty) (pos:=pos) (after:=after) (guard:=guard) ht he hx hz h).go a w hr hm;have e1:JV base cap c 0 j=ak base j cap:=by
  unfold JV
  cases base with
  |none=>simp
  |some q=>simp[rl]
 rw[e1]at h1;exact h1
theorem Bj{fn:Func}{R:Ending->World->Prop}(nQ:fn.results=#[])(h:∀w,Mem W L w->R (.returned (.tuple #[])) w):E n W .normal (bodyPost P fn R) fr L:=
 ⟨fun a w hr hm=>⟨hr.defers,.tuple #[],by simp[results,nQ],h w hm⟩⟩
end
end cg
namespace cg
open Go.RowKit cT ey
structure zk(α:Type) where
 c:Nat
 is:(Nat->Prop)->World->List Value->α->Prop
 len:∀{F w cs a},is F w cs a->cs.length=c
 stay:∀{F w w' cs a},is F w cs a->(∀k,F k->w'.heap[k]?=w.heap[k]?)->is F w' cs a
 mono:∀{F F' w cs a},is F w cs a->(∀k,F k->F' k)->is F' w cs a
def All:Nat->Prop:=fun _=>True
theorem rd_stay{w w':World}{b off:Nat}{cs:List Value}(h:Rd w b off cs)(hk:w'.heap[b]?=w.heap[b]?):Rd w' b off cs:=fun j u hj=>by
 rw[X3 (w:=w) (a:=⟨b,off+j,aj⟩) hk];exact h j u hj
def kK{α:Type}(s:zk α)(F:Nat->Prop)(w:World)(v:Value)(l:List α):Prop:=
 ∃base cap,v=ak base l.length cap/\l.length<=cap/\cap<=maxLen/\(0<l.length->∃b off,base=ah ⟨b,off,aj⟩/\F b/\∀i (h:i<l.length),∃cs,s.is F w cs l[i]/\Rd w b (off+i*s.c) cs)
section
variable{α β:Type}{s:zk α}{F F':Nat->Prop}{w w':World}{v:Value}{l:List α}
theorem kK.stay(h:kK s F w v l)(hk:∀k,F k->w'.heap[k]?=w.heap[k]?):kK s F w' v l:=
 let ⟨base,cap,h1,h2,h3,h4⟩:=h
 ⟨base,cap,h1,h2,h3,fun h0=>let ⟨b,off,h5,h6,h7⟩:=h4 h0;⟨b,off,h5,h6,fun i hi=>let ⟨cs,h8,h9⟩:=h7 i hi;⟨cs,s.stay h8 hk,rd_stay h9 (hk b h6)⟩⟩⟩
theorem kK.mono(h:kK s F w v l)(hk:∀k,F k->F' k):kK s F' w v l:=
 let ⟨base,cap,h1,h2,h3,h4⟩:=h
 ⟨base,cap,h1,h2,h3,fun h0=>let ⟨b,off,h5,h6,h7⟩:=h4 h0;⟨b,off,h5,hk b h6,fun i hi=>let ⟨cs,h8,h9⟩:=h7 i hi;⟨cs,s.mono h8 hk,h9⟩⟩⟩
theorem kK.nil:kK s F w (ak aj 0 0) []:=⟨aj,0,rfl,aT _,by decide,fun h=>by simp at h⟩
def zM(f:α->List Value)(c:Nat)(hc:∀a,(f a).length=c)(p:α->Prop):zk α:=
 ⟨c,fun _ _ cs a=>cs=f a/\p a,fun h=>by rw[h.1,hc],fun h _=>h,fun h _=>h⟩
def iE:zk Int:=zM (fun n=>[ap av n]) 1 (fun _=>rfl) cT.dM
def Vg:zk (List UInt8):=zM (fun s=>[str s]) 1 (fun _=>rfl) (fun s=>s.length<=9223372036854775807)
def cB(s:zk α):zk (List α):=
 ⟨1,fun F w cs l=>∃v,cs=[v]/\kK s F w v l,fun⟨_,h,_⟩=>by rw[h];rfl,fun⟨v,h1,h2⟩ hk=>⟨v,h1,h2.stay hk⟩,fun⟨v,h1,h2⟩ hk=>⟨v,h1,h2.mono hk⟩⟩
def YR(s:zk α)(t:zk β):zk (α×β):=
 ⟨s.c+t.c,fun F w cs x=>∃c1 c2,cs=c1++c2/\s.is F w c1 x.1/\t.is F w c2 x.2,fun⟨_,_,h,h1,h2⟩=>by rw[h,bK,s.len h1,t.len h2],
  fun⟨c1,c2,h,h1,h2⟩ hk=>⟨c1,c2,h,s.stay h1 hk,t.stay h2 hk⟩,fun⟨c1,c2,h,h1,h2⟩ hk=>⟨c1,c2,h,s.mono h1 hk,t.mono h2 hk⟩⟩
theorem kK.flat{f:α->List Value}{c:Nat}{hc:∀a,(f a).length=c}{p:α->Prop}(L3:0<c)(h:kK (zM f c hc p) F w v l):Sl w v l.length (l.flatMap f):=by
 obtain⟨base,cap,h1,h2,h3,h4⟩:=h;have hx:SlX w (fun cs a=>cs=f a) c v l:=⟨base,cap,h1,h2,h3,fun h0=>let ⟨b,off,h5,_,h7⟩:=h4 h0;⟨b,off,h5,fun i hi=>let ⟨cs,h8,h9⟩:=h7 i hi;⟨cs,h8.1,h9⟩⟩⟩;exact hx.flat hc L3 fun cs a h=>h
theorem kK.okp{f:α->List Value}{c:Nat}{hc:∀a,(f a).length=c}{p:α->Prop}(h:kK (zM f c hc p) F w v l):∀a∈l,p a:=fun a ha=>by
 obtain⟨i,hi,rfl⟩:=jG.1 ha;obtain⟨base,cap,h1,h2,h3,h4⟩:=h;obtain⟨b,off,_,_,h7⟩:=h4 J;obtain⟨cs,h8,_⟩:=h7 i hi;exact h8.2
theorem kK.of_flat{f:α->List Value}{c:Nat}{hc:∀a,(f a).length=c}{p:α->Prop}(h:Sl w v l.length (l.flatMap f))(hp:∀a∈l,p a)(_:∀b,v.ownBlock=ah b->F b)(hF2:∀a n cp,v=ak (ah a) n cp->F a.block):kK (zM f c hc p) F w v l:=by
 obtain⟨base,cap,h1,h2,h3,h4⟩:=h;refine⟨base,cap,h1,h2,h3,fun h0=>?_⟩;obtain⟨b,off,h5,h6⟩:=h4 h0;refine⟨b,off,h5,hF2 ⟨b,off,aj⟩ l.length cap (by rw[h1,h5]),fun i hi=>⟨f l[i],⟨rfl,hp _ (bV hi)⟩,fun j u hj=>?_⟩⟩;have hjc:j<c:=by rw[<-hc l[i]];exact(cU.1 hj).1
 have:=h6 (i*c+j) u (by rw[yi hc l i j hi hjc];exact hj);rw[jH];exact this
def ajp(s:zk α)(F:Nat->Prop)(cs:List Value)(a:α):b9:=
 ⟨aj,F,fun w=>s.is F w cs a/\∀k,F k->k<w.heap.size,fun w h k hk=>h.2 k (hk.elim (fun h=>by cases h) id),fun w w' h hs hb=>⟨s.stay h.1 fun k hk=>hb k (.inr hk),fun k hk=>jt (h.2 k hk) hs⟩⟩
def eY(s:zk α)(F:Nat->Prop)(iG:List (List Value))(l:List α):b9:=
 ⟨aj,F,fun w=>(iG.length=l.length/\∀i (h:i<l.length) (h':i<iG.length),s.is F w iG[i] l[i])/\∀k,F k->k<w.heap.size,fun w h k hk=>h.2 k (hk.elim (fun h=>by cases h) id),
  fun w w' h hs hb=>⟨⟨h.1.1,fun i hi pP=>s.stay (h.1.2 i hi pP) fun k hk=>hb k (.inr hk)⟩,fun k hk=>jt (h.2 k hk) hs⟩⟩
end
def Or1(F:Nat->Prop)(v:Value):Nat->Prop:=fun k=>F k\/v.ownBlock=ah k
theorem uN{c:Nat}:∀(iG:List (List Value)) (_:∀x∈iG,x.length=c) (i j:Nat) (h:i<iG.length),j<c->iG.flatten[i*c+j]?=iG[i][j]?
 |x::r,hc,0,j,h,hj=>by
  rw[Ba,fR (by rw[hc x (by simp)];omega)];simp
 |x::r,hc,i+1,j,h,hj=>by
  have hx:=hc x (by simp);have ih:=uN r (fun y hy=>hc y (by simp[hy])) i j (by simpa using h) hj;rw[Ba,kN (by rw[hx,nM];omega),hx];simp only[X9];rw[<-ih,nM]
  congr 1;omega
section
variable{α:Type}{s:zk α}{F:Nat->Prop}{w:World}{v:Value}{l:List α}
theorem JY{e:TypeId}{iG:List (List Value)}(hr:(bx e s.c v l.length iG.flatten).holds w)(he:(eY s F iG l).holds w)(_:0<s.c):kK s (Or1 F v) w v l:=by
 have hr:w.ownsRow 0 e s.c v l.length iG.flatten:=hr;obtain⟨⟨h1,h2⟩,h3⟩:=he;have hlen:∀x∈iG,x.length=s.c:=fun x hx=>by
  obtain⟨i,hi,rfl⟩:=jG.1 hx;exact s.len (h2 i J hi)
 obtain⟨base,cap,h4,h5,h6,h7⟩:=Sl.dy hr;refine⟨base,cap,h4,h5,h6,fun h0=>?_⟩;have hb:∃g,v=ak (ah ⟨g,0,aj⟩) l.length cap/\v.ownBlock=ah g:=by
  rcases hr.2 with⟨hv,h0'⟩|⟨g,PT,oU,hv,_⟩
  omega;rw[h4]at hv;simp only[kr,true_and]at hv;obtain⟨rfl,rfl⟩:=hv;exact⟨g,h4,by rw[h4];rfl⟩
 obtain⟨g,hv,hg⟩:=hb;rw[h4]at hv;simp only[kr,and_true]at hv;subst hv;obtain⟨b,off,h8,h9⟩:=h7 h0;simp only[dg,D5,and_true]at h8;obtain⟨rfl,rfl⟩:=h8;refine⟨g,0,rfl,.inr hg,fun i hi=>⟨iG[i]' J,s.mono (h2 i hi J) fun k hk=> .inl hk,fun j u hj=>?_⟩⟩;have hjc:j<s.c:=by rw[<-hlen (iG[i]' J) (bV _)];exact(cU.1 hj).1
 have:=h9 (i*s.c+j) u (by rw[uN iG hlen i j J hjc];exact hj);rw[jH];exact this
theorem JZ{e:TypeId}{iG:List (List Value)}{n c:Nat}(hr:(bx e c v n iG.flatten).holds w)(he:(eY s F iG l).holds w):∀k,Or1 F v k->k<w.heap.size:=fun k hk=>hk.elim (he.2 k) fun h=>((bx e c v n iG.flatten).lt w hr k (.inl h))
theorem r9{F2:Nat->Prop}{iG:List (List Value)}{cs:List Value}{a:α}(he:(eY s F iG l).holds w)(hs:s.is F2 w cs a)(h2:∀k,F2 k->k<w.heap.size):(eY s (fun k=>F k\/F2 k) (iG++[cs]) (l++[a])).holds w:=by
 obtain⟨⟨h1,h3⟩,h4⟩:=he;refine⟨⟨by simp[h1],fun i hi pP=>?_⟩,fun k hk=>hk.elim (h4 k) (h2 k)⟩
 by_cases c:i<l.length
 ·rw[X7 J,X7 c]
  exact s.mono (h3 i c J) fun k hk=> .inl hk
 have Pb:i=l.length:=by simp at hi;omega
 subst Pb;rw[X6 J,X6 (aT _)];simp only[h1,Nat.sub_self,List.getElem_cons_zero];exact s.mono hs fun k hk=> .inr hk
theorem lF:(eY s (fun _=>False) [] []).holds w:=⟨⟨rfl,fun i h=>by simp at h⟩,fun k h=>h.elim⟩
end
section
variable{P:Program}{n:Nat}{W:b_}{fr:Fr}{L:List b9}{Q:Exit->Act->World->Prop}{ops:Array Oper}{rest:List Oper}{d:Nat}
theorem Mem.YS{w:World}(o:b9)(i j:Nat)(js:List Nat){o1 o2:b9}{R:List b9}(h:Mem W L w)(hn:([i,j]++js).Nodup)(h1:L[i]?=ah o1)(h2:L[j]?=ah o2)(hR:R=js.filterMap fun i=>L[i]?)(hf:∀k,o.fu k->o1.fu k\/o2.fu k)(hh:∀w,o1.holds w->o2.holds w->o.holds w):Mem W (R++[o]) w:=by
 refine Mem.merge o (h.pick ([i,j]++js) hn ?_) hf (hh w);rw[sT,<-hR]
 congr 1
 rw[A_ (by exact h1),A_ (by exact h2)];rfl
theorem zN(o:b9)(i j:Nat)(js:List Nat){o1 o2:b9}{R:List b9}(hn:([i,j]++js).Nodup)(h1:L[i]?=ah o1)(h2:L[j]?=ah o2)(hR:R=js.filterMap fun i=>L[i]?)(hf:∀k,o.fu k->o1.fu k\/o2.fu k)(hh:∀w,o1.holds w->o2.holds w->o.holds w)(h:TL P n W ops Q rest fr (R++[o])):TL P n W ops Q rest fr L:=⟨fun a w hr hm=>h.go a w hr (hm.YS o i j js hn h1 h2 hR hf hh)⟩
theorem J0{e:Exit}(o:b9)(i j:Nat)(js:List Nat){o1 o2:b9}{R:List b9}(hn:([i,j]++js).Nodup)(h1:L[i]?=ah o1)(h2:L[j]?=ah o2)(hR:R=js.filterMap fun i=>L[i]?)(hf:∀k,o.fu k->o1.fu k\/o2.fu k)(hh:∀w,o1.holds w->o2.holds w->o.holds w)(h:E n W e Q fr (R++[o])):E n W e Q fr L:=⟨fun a w hr hm=>h.go a w hr (hm.YS o i j js hn h1 h2 hR hf hh)⟩
theorem Mem.YT{w:World}(o:b9)(h:Mem W L w)(hf:∀k,¬o.fu k)(hh:o.holds w):Mem W (L++[o]) w:=
 h.append (Gr.refl w) (fl.one hh fun k hk=>absurd hk (hf k))
theorem pv{c:Code}(o:b9)(hf:∀k,¬o.fu k)(hh:∀w,o.holds w)(h:T P n W c Q fr (L++[o])):T P n W c Q fr L:=⟨fun a w hr hm=>h.go a w hr (hm.YT o hf (hh w))⟩
theorem Mx(o:b9)(hf:∀k,¬o.fu k)(hh:∀w,o.holds w)(h:TL P n W ops Q rest fr (L++[o])):TL P n W ops Q rest fr L:=⟨fun a w hr hm=>h.go a w hr (hm.YT o hf (hh w))⟩
theorem tc{e:Exit}(o:b9)(hf:∀k,¬o.fu k)(hh:∀w,o.holds w)(h:E n W e Q fr (L++[o])):E n W e Q fr L:=⟨fun a w hr hm=>h.go a w hr (hm.YT o hf (hh w))⟩
theorem Bk{α:Type}{f:α->List Value}{c:Nat}(hc:∀a,(f a).length=c){t e:TypeId}{p x:Operand}{i g off cap k m:Nat}{agg:Bool}{l:List α}{a:α}{v:Value}(hT:Ty P t agg c)(hi:L[i]?=ah (bx e c (ak (ah ⟨g,0,aj⟩) m cap) m (l.flatMap f)))(hp:ev fr p=ah (aH (ah ⟨g,off,aj⟩)))(afP:off=k*c)(hk:k<l.length)(hm0:m=l.length)(hx:ev fr x=ah v)(hv:v.cells=(f a).toArray)(h1:(f a).all f_=aB)
 {ty:TypeId} {pos:String} {after:Array Edge}
 (h:TL P n W ops Q rest fr (L.set i (bx e c (ak (ah ⟨g,0,aj⟩) m cap) m ((l.set k a).flatMap f)))):
 TL P n W ops Q (⟨aj,.store t p x,ty,pos,after,aj⟩::rest) fr L:=kW I fun act w hr hm K hK=>by
 subst afP hm0;have xj:w.ownsRow 0 e c (ak (ah ⟨g,0,aj⟩) l.length cap) l.length (l.flatMap f):=hm.get hi;have ahr:=xj;rcases xj.2 with⟨h0,_⟩|⟨g',PT,oU,he,zv,hg,hnc,hcm,hcs,Ml⟩
 ·cases h0
 simp only[kr,dg,D5,and_true,true_and]at he;obtain⟨rfl,rfl⟩:=he;have JN:k*c+c<=oU.size:=by
  have:(k+1)*c<=cap*c:=ru _ J;rw[hcs];rw[lW,uE]at this;omega
 have hst:=run_storeCells_at P g (k*c) e (f a) 0 oU w hg (by simp[hc];exact JN) (oR.1 h1);simp only[ji,hc]at hst;have e':(execOp act.eval ⟨aj,.store t p x,ty,pos,after,aj⟩).run P w= .ok .skip (w.setRow g (oU.toList.take (k*c)++f a++oU.toList.drop (k*c+c)).toArray):=by
  simp[execOp,hr.ev hp,hr.ev hx,Pl,x6,storeVar,hT.size,hv,hst,hc]
 unfold gY;rw[e'];refine hK _ _ (h.go _ _ (hr.rU undef) (hm.CY hi ⟨rfl,rfl,rfl,by simp,fun k _ hk=>setRow_other w g k _ (fun e=>hk (by subst e;rfl))⟩ ?_ fun k hk=> .inl hk));have hlen:=nS hc l;refine⟨by rw[nS hc];simp,.inr ⟨g,cap,_,rfl,zv,setRow_heap w g oU _ e _ hg,hnc,hcm,by simp[hc];omega,?_⟩⟩;have e1:(l.set k a).flatMap f=(l.flatMap f).take (k*c)++f a++(l.flatMap f).drop (k*c+c):=by
  have JW:((l.take k).flatMap f).length=k*c:=by rw[nS hc,gZ,Bb J]
  have J1:((l.take (k+1)).flatMap f).length=k*c+c:=by rw[nS hc,gZ,Bb J,lW,uE]
  have t1:(l.flatMap f).take (k*c)=(l.take k).flatMap f:=by
   rw[<-JW]
   conv=>lhs;rw[<-rp k l,fH]
   simp
  have t2:(l.flatMap f).drop (k*c+c)=(l.drop (k+1)).flatMap f:=by
   rw[<-J1]
   conv=>lhs;rw[<-rp (k+1) l,fH]
   simp
  rw[t1,t2,Ec,if_pos hk];simp
 rw[e1,<-Ml];have hkl:k*c+c<=l.length*c:=by
  have:(k+1)*c<=l.length*c:=ru _ J;rw[lW,uE]at this;exact this
 simp only[List.take_take,List.take_append,bK,hc,gZ,pL];rw[Bb (by omega:k*c<=oU.size),Nat.min_eq_right (by omega:k*c<=l.length*c),Bb (by omega:k*c<=l.length*c)];rw[ig (by rw[hc];omega:(f a).length<=l.length*c-k*c)]
 congr 1
 rw[List.drop_take]
theorem qW{i:Nat}{o:b9}{φ:Prop}(hi:L[i]?=ah o)(hφ:∀w,o.holds w->φ)(h:φ->TL P n W ops Q rest fr L):TL P n W ops Q rest fr L:=⟨fun a w hr hm=>(h (hφ w (hm.get hi))).go a w hr hm⟩
theorem iH{c:Code}{i:Nat}{o:b9}{φ:Prop}(hi:L[i]?=ah o)(hφ:∀w,o.holds w->φ)(h:φ->T P n W c Q fr L):T P n W c Q fr L:=⟨fun a w hr hm=>(h (hφ w (hm.get hi))).go a w hr hm⟩
end
end cg
namespace cg
open Go.RowKit cT ey
open Go.WideMaps (KeyLaw)
def Ez(v:Value):Option (DataW Value×List MemPlace):=ah (.held v,[])
structure yl(P:Program)(k:TypeId)(κ:Type) where
 kv:κ->Value
 ok:κ->Prop
 law:KeyLaw P k
 key:∀x,ok x->∃l,keyOf P k (kv x)=ah l
 inj:∀x y,kv x=kv y->x=y
section
variable{P:Program}{k:TypeId}{κ:Type}
theorem yl.keyed(K:yl P k κ):Maps.Keyed P k:=afx K.law
variable(K:yl P k κ)
def My(D:DataW Value)(m:κ->Option Value)(n:Nat):Prop:=
 Pm D=n/\∀x l,K.ok x->keyOf P k (K.kv x)=ah l->match m x with|some v=>Pn D l=aB/\(∀z,D.atKey l z= .held v)|none=>Pn D l=aD
def fq(g:Nat)(m:κ->Option Value)(n:Nat):b9:=
 ⟨ah g,fun _=>False,fun w=>∃D,w.ownsMap P k Ez g n D/\My K D m n,fun w ⟨D,h,_⟩ q hq=>by simp only[dg,or_false]at hq;subst hq;exact h.lt,
  fun w w' ⟨D,⟨es,clock,hb,h⟩,h2⟩ _ hk=>⟨D,⟨es,clock,(hk g (.inl I)).trans hb,h⟩,h2⟩⟩
theorem Vh{w:World}{R:Value->Option (DataW Value×List MemPlace)}{b n:Nat}{D:DataW Value}(h:w.ownsMap P k R b n D):w.ownsMap P k R b (Pm D) D:=by
 obtain⟨es,clock,hb,F,hs,rfl⟩:=h;exact⟨es,clock,hb,F,by simp[Pm,length_sorted],rfl⟩
theorem H3:My K (.map []) (fun _=>aj) 0:=⟨rfl,fun _ _ _ _=>rfl⟩
theorem Vi[DecidableEq κ]{w:World}{g n:Nat}{D:DataW Value}{m:κ->Option Value}(ho:w.ownsMap P k Ez g n D)(h:My K D m n){x:κ}{l:Lit}(hx:K.ok x)(hl:keyOf P k (K.kv x)=ah l)(v:Value):
 My K (D.put l (.held v)) (fun y=>if y=x then ah v else m y) (if(m x).isSome then n else n+1):=by
 have hk:=K.keyed.key hl;have ht:=ho.tidy K.keyed;refine⟨?_,fun y l' hy hl'=>?_⟩
 ·have h2:=h.2 x l hx hl
  rw[Maps.size_put ht]
  cases e:m x with
  |none=>rw[e]at h2;rw[h2];simp[h.1]
  |some u=>rw[e]at h2;rw[h2.1];simp[h.1]
 ·by_cases e:y=x
  ·subst e
   rw[hl]at hl';simp only[dg]at hl';subst hl';simp only[if_true];exact⟨Maps.has_put_same ht.isMap hk _,fun z=>Maps.atKey_put_same ht.isMap hk _ _⟩
  have hne:l'≠l:=fun e'=>e (K.inj _ _ (K.keyed.inj (by rw[<-e'];exact hl') hl));simp only[if_neg e];have h2:=h.2 y l' hy hl';rw[Maps.has_put_other hne]
  cases e2:m y with
  |none=>rw[e2]at h2;exact h2
  |some u=>rw[e2]at h2;exact⟨h2.1,fun z=>by rw[Maps.atKey_put_other hne];exact h2.2 z⟩
theorem J2{D:DataW Value}{m:κ->Option Value}{n:Nat}(h:My K D m n){x:κ}{l:Lit}(hx:K.ok x)(hl:keyOf P k (K.kv x)=ah l)(z:Value):D.atKey l (.held z)= .held ((m x).getD z)/\Pn D l=(m x).isSome:=by
 have h2:=h.2 x l hx hl
 cases e:m x with
 |none=>rw[e]at h2;exact⟨Maps.atKey_of_not_has h2 _,h2⟩
 |some u=>rw[e]at h2;exact⟨h2.2 _,h2.1⟩
section
variable{W:b_}{fr:Fr}{L:List b9}{Q:Exit->Act->World->Prop}{ops:Array Oper}{rest:List Oper}{n d:Nat}{dst:Option Tmp}{ty:TypeId}{pos:String}{after:Array Edge}{guard:Option (Nat×Bool)}{i g c:Nat}{t e:TypeId}{m:κ->Option Value}{x:κ}{z:Value}{xm xk xv:Operand}
theorem acY(ht:P.underlying t=ah (.map k e))(hz:∀w,(zeroValue e).run P w= .ok z w)(hi:L[i]?=ah (fq K g m c))(hm:ev fr xm=ah (.map (ah g)))(hk:ev fr xk=ah (K.kv x))(hx:K.ok x):RR P n W ⟨dst,.lookup t xm xk aD,ty,pos,after,guard⟩ fr L ((m x).getD z):= .mk fun a w hr hw=>by
 obtain⟨D,ho,h⟩:=hw.get hi;obtain⟨l,hl⟩:=K.key x hx;obtain⟨v,ps,hrun,hv⟩:=ho.lookup K.keyed ht (hz w) (zd:= .held z) (zp:=[]) rfl hl;have h2:=(J2 K h hx hl z).1;simp only[Ez,dg,iu]at hv;rw[h2]at hv;have jM:v=(m x).getD z:=by simpa using hv.1
 subst jM;simp[execOp,hr.ev hm,hr.ev hk,hrun,lV]
theorem pD(ht:P.underlying t=ah (.map k e))(hz:∀w,(zeroValue e).run P w= .ok z w)(hi:L[i]?=ah (fq K g m c))(hm:ev fr xm=ah (.map (ah g)))(hk:ev fr xk=ah (K.kv x))(hx:K.ok x):RR P n W ⟨dst,.lookup t xm xk aB,ty,pos,after,guard⟩ fr L (.tuple #[(m x).getD z,.bool (m x).isSome]):= .mk fun a w hr hw=>by
 obtain⟨D,ho,h⟩:=hw.get hi;obtain⟨l,hl⟩:=K.key x hx;obtain⟨v,ps,hrun,hv⟩:=ho.look_ok K.keyed ht (hz w) (zd:= .held z) (zp:=[]) rfl hl;have h2:=J2 K h hx hl z;simp only[Ez,dg,iu]at hv;rw[h2.1]at hv;rw[h2.2]at hrun;have jM:v=(m x).getD z:=by simpa using hv.1
 subst jM;simp[execOp,hr.ev hm,hr.ev hk,hrun,lV]
theorem wS(ht:P.underlying t=ah (.map k e))(hi:L[i]?=ah (fq K g m c))(hm:ev fr xm=ah (.map (ah g))):RR P n W ⟨dst,.call {callee:= .builtin .len,args:=#[xm],argTypes:=#[t]},ty,pos,after,guard⟩ fr L (ap av c):= .mk fun a w hr hw=>by
 obtain⟨D,ho,h⟩:=hw.get hi;have hrun:=ho.len ht ty;rw[h.1]at hrun;simp[rm,Pj,hr.ev hm,hrun]
theorem ym(hn:dB d n=aB)(h:∀g,TL P n W ops Q rest ((d,.map (ah g))::fr) (L++[fq K g (fun _=>aj) 0])):
 TL P n W ops Q (⟨ah d,.makeMap t aj,ty,pos,after,aj⟩::rest) fr L:=kW I fun a w hr hm KK hK=>by
 have e1:(execOp a.eval ⟨ah d,.makeMap t aj,ty,pos,after,aj⟩).run P w= .ok (.value (.map (ah w.heap.size))) (w.alloc (.map #[] 0)):=by
  simp[execOp,run_makeMap,lV]
 unfold gY;rw[e1];exact hK _ _ ((h w.heap.size).go _ _ (hr.put hn _) (hm.append (oB w _) (rW.one ⟨.map [],X4 w P k Ez,H3 K⟩ fun q hq=>by simp only[fq,dg]at hq;omega)))
theorem S_[DecidableEq κ]{w:World}(ht:P.underlying t=ah (.map k e))(h:(fq K g m c).holds w)(hx:K.ok x)(hc:c<=1152921504606846976)(v:Value):
 ∃w',(A4 t (.map (ah g)) (K.kv x) v).run P w= .ok () w'/\(fq K g (fun y=>if y=x then ah v else m y) (if(m x).isSome then c else c+1)).holds w'/\w.grownBy w' (ah g):=by
 obtain⟨D,ho,h⟩:=h;obtain⟨l,hl⟩:=K.key x hx;obtain⟨w',hrun,JP,hg⟩:=ho.update K.keyed ht (by unfold maxLen;omega) (val:=v) (d:= .held v) (ps:=[]) hl I;have hp:=Vi K ho h hx hl v;exact⟨w',hrun,⟨_,by have:=Vh JP;rwa [hp.1]at this,hp⟩,hg⟩
theorem mK[DecidableEq κ]{v:Value}(ht:P.underlying t=ah (.map k e))(hi:L[i]?=ah (fq K g m c))(hm:ev fr xm=ah (.map (ah g)))(hk:ev fr xk=ah (K.kv x))(hv:ev fr xv=ah v)(hx:K.ok x)(hc:c<=1152921504606846976)
 (h:TL P n W ops Q rest fr (L.set i (fq K g (fun y=>if y=x then ah v else m y) (if(m x).isSome then c else c+1)))):
 TL P n W ops Q (⟨aj,.mapUpdate t xm xk xv,ty,pos,after,aj⟩::rest) fr L:=kW I fun a w hr hw KK hK=>by
 obtain⟨w',hrun,JP,hg⟩:=S_ K ht (hw.get hi) hx hc v;have e1:(execOp a.eval ⟨aj,.mapUpdate t xm xk xv,ty,pos,after,aj⟩).run P w= .ok .skip w':=by
  simp[execOp,hr.ev hm,hr.ev hk,hr.ev hv,hrun,lV]
 unfold gY;rw[e1];exact hK _ _ (h.go _ _ (hr.rU undef) (hw.CY hi hg JP fun q hq=> .inl hq))
end
def oV(g:Nat)(z:Value)(f:κ->Value)(b:Nat):b9:=
 ⟨ah g,fun _=>False,fun w=>∃m n,n<=b/\(fq K g m n).holds w/\∀x,K.ok x->(m x).getD z=f x,fun w ⟨m,n,_,h,_⟩ q hq=>(fq K g m n).lt w h q hq,
  fun w w' ⟨m,n,h1,h,h2⟩ hs hk=>⟨m,n,h1,(fq K g m n).stay w w' h hs hk,h2⟩⟩
section
variable{W:b_}{fr:Fr}{L:List b9}{Q:Exit->Act->World->Prop}{ops:Array Oper}{rest:List Oper}{n d:Nat}{dst:Option Tmp}{ty:TypeId}{pos:String}{after:Array Edge}{guard:Option (Nat×Bool)}{i g b:Nat}{t e:TypeId}{f f':κ->Value}{x:κ}{z v:Value}{xm xk xv:Operand}
theorem H4{w:World}(ht:P.underlying t=ah (.map k e))(hz:∀w,(zeroValue e).run P w= .ok z w)(h:(oV K g z f b).holds w)(hx:K.ok x):(Instr.lookup t (.map (ah g)) (K.kv x) aD).run P w= .ok (f x) w:=by
 obtain⟨m,n,_,⟨D,ho,hi⟩,hf⟩:=h;obtain⟨l,hl⟩:=K.key x hx;obtain⟨v,ps,hrun,hv⟩:=ho.lookup K.keyed ht (hz w) (zd:= .held z) (zp:=[]) rfl hl;have h2:=(J2 K hi hx hl z).1;simp only[Ez,dg,iu]at hv;rw[h2,hf x hx]at hv;have jM:v=f x:=by simpa using hv.1
 rw[<-jM];exact hrun
theorem EA(ht:P.underlying t=ah (.map k e))(hz:∀w,(zeroValue e).run P w= .ok z w)(hh:∀w,Mem W L w->(oV K g z f b).holds w)(hm:ev fr xm=ah (.map (ah g)))(hk:ev fr xk=ah (K.kv x))(hx:K.ok x)(hv:f x=v):RR P n W ⟨dst,.lookup t xm xk aD,ty,pos,after,guard⟩ fr L v:= .mk fun a w hr hw=>by
 subst hv;have hrun:=H4 K ht hz (hh w hw) hx;simp[execOp,hr.ev hm,hr.ev hk,hrun,lV]
theorem r_(ht:P.underlying t=ah (.map k e))(hz:∀w,(zeroValue e).run P w= .ok z w)(hi:L[i]?=ah (oV K g z f b))(hm:ev fr xm=ah (.map (ah g)))(hk:ev fr xk=ah (K.kv x))(hx:K.ok x)(hv:f x=v):RR P n W ⟨dst,.lookup t xm xk aD,ty,pos,after,guard⟩ fr L v:=
 EA K ht hz (fun _ hw=>hw.get hi) hm hk hx hv
theorem Ta(hn:dB d n=aB)(h:∀g,TL P n W ops Q rest ((d,.map (ah g))::fr) (L++[oV K g z (fun _=>z) 0])):
 TL P n W ops Q (⟨ah d,.makeMap t aj,ty,pos,after,aj⟩::rest) fr L:=kW I fun a w hr hm KK hK=>by
 have e1:(execOp a.eval ⟨ah d,.makeMap t aj,ty,pos,after,aj⟩).run P w= .ok (.value (.map (ah w.heap.size))) (w.alloc (.map #[] 0)):=by
  simp[execOp,run_makeMap,lV]
 unfold gY;rw[e1];exact hK _ _ ((h w.heap.size).go _ _ (hr.put hn _) (hm.append (oB w _) (rW.one ⟨fun _=>aj,0,aT _,⟨.map [],X4 w P k Ez,H3 K⟩,fun _ _=>rfl⟩ fun q hq=>by simp only[oV,dg]at hq;omega)))
theorem EB[DecidableEq κ]{w:World}(ht:P.underlying t=ah (.map k e))(h:(oV K g z f b).holds w)(hx:K.ok x)(hc:b<=1152921504606846976)(hf:∀y,K.ok y->f' y=if y=x then v else f y):
 ∃w',(A4 t (.map (ah g)) (K.kv x) v).run P w= .ok () w'/\(oV K g z f' (b+1)).holds w'/\w.grownBy w' (ah g):=by
 obtain⟨m,n,h1,h2,h3⟩:=h;obtain⟨w',hrun,ho,hg⟩:=S_ K ht h2 hx J v;refine⟨w',hrun,⟨_,_,?_,ho,fun y hy=>?_⟩,hg⟩
 ·split<;>omega
 ·rw[hf y hy]
  by_cases e:y=x
  simp[e];simp only[if_neg e];exact h3 y hy
theorem P0[DecidableEq κ](f':κ->Value)(ht:P.underlying t=ah (.map k e))(hi:L[i]?=ah (oV K g z f b))(hm:ev fr xm=ah (.map (ah g)))(hk:ev fr xk=ah (K.kv x))(hv:ev fr xv=ah v)(hx:K.ok x)(hc:b<=1152921504606846976)(hf:∀y,K.ok y->f' y=if y=x then v else f y)
 (h:TL P n W ops Q rest fr (L.set i (oV K g z f' (b+1)))):
 TL P n W ops Q (⟨aj,.mapUpdate t xm xk xv,ty,pos,after,aj⟩::rest) fr L:=kW I fun a w hr hw KK hK=>by
 obtain⟨w',hrun,JP,hg⟩:=EB K ht (hw.get hi) hx hc hf;have e1:(execOp a.eval ⟨aj,.mapUpdate t xm xk xv,ty,pos,after,aj⟩).run P w= .ok .skip w':=by
  simp[execOp,hr.ev hm,hr.ev hk,hr.ev hv,hrun,lV]
 unfold gY;rw[e1];exact hK _ _ (h.go _ _ (hr.rU undef) (hw.CY hi hg JP fun q hq=> .inl hq))
end
end
end cg
namespace cg
open Go.RowKit cT ey
theorem ajk{P:Program}{n:Nat}{W:b_}{fr:Fr}{L:List b9}{dst:Option Tmp}{ty:TypeId}{pos:String}{after:Array Edge}{guard:Option (Nat×Bool)}{x:Operand}{a:Addr}(hx:ev fr x=ah (aH (ah a))):RR P n W ⟨dst,.nilCheck x,ty,pos,after,guard⟩ fr L (aH (ah a)):= .mk fun act w hr _=>by
 simp[execOp,hr.ev hx]
end cg
namespace cg
open Go.RowKit cT ey
section
variable{P:Program}{n:Nat}{W:b_}{fr:Fr}{L:List b9}{Q:Exit->Act->World->Prop}{ops:Array Oper}{rest:List Oper}{d:Nat}{ty:TypeId}{pos:String}{after:Array Edge}
theorem td{t e:TypeId}{x y:Operand}{bytes m:Nat}{k k':IntKind}{z:Value}[sM P t e 1 bytes][eS P e #[z]](hx:ev fr x=ah (.int k (m:Int)))(hy:ev fr y=ah (.int k' (m:Int)))(hb:bytes*m<=281474976710656)(wP:m<=9223372036854775807)(hn:dB d n=aB)
 (h:∀g,TL P n W ops Q rest ((d,ak (ah ⟨g,0,aj⟩) m m)::fr) (L++[bx e 1 (ak (ah ⟨g,0,aj⟩) m m) m (db m z)])):TL P n W ops Q (⟨ah d,.makeSlice t x y,ty,pos,after,aj⟩::rest) fr L:=
 uM hx hy (aT _) hb wP hn fun g=>H0 (i:=L.length) 1 (A9 ..) (by rw[size_madeCells]) (aT _) wP (by
  have e1:(madeCells #[z] (m*1)).toList.take (m*1)=db m z:=by
   rw[aeT,Nat.mul_one,List.take_of_length_le (by simp)]
  rw[e1,List.set_append_right _ _ (Nat.le_refl _),Nat.sub_self];exact h g)
end
end cg
namespace cg
open Go.RowKit cT ey
section
variable{P:Program}{n:Nat}{W:b_}{fr:Fr}{L:List b9}{Q:Exit->Act->World->Prop}{ops:Array Oper}{rest:List Oper}
theorem Mem.ajq{w:World}{i:Nat}{o:b9}(o':b9)(h:Mem W L w)(hi:L[i]?=ah o)(hh:∀w,o.holds w->o'.holds w)(hb:∀k,o'.CX=ah k->o.CX=ah k)(hmo:∀k,o'.more k->o.fu k:=by intro k hk;exact False.elim hk):Mem W (L.set i o') w:=
 h.CY hi ⟨rfl,rfl,rfl,aT _,fun _ _ _=>rfl⟩ (hh w (h.get hi)) (fun k hk=> .inl (hb k hk)) hmo
theorem af2{e:Exit}{i:Nat}{o:b9}(o':b9)(hi:L[i]?=ah o)(hh:∀w,o.holds w->o'.holds w)(hb:∀k,o'.CX=ah k->o.CX=ah k)(hmo:∀k,o'.more k->o.fu k)(h:E n W e Q fr (L.set i o')):E n W e Q fr L:= .mk fun a w hr hm=>h.go a w hr (hm.ajq o' hi hh hb hmo)
end
theorem H5{P:Program}{k:TypeId}{κ:Type}{K:yl P k κ}{g b b':Nat}{z:Value}{f f':κ->Value}(hb:b<=b')(hf:∀x,K.ok x->f' x=f x)(w:World)(h:(oV K g z f b).holds w):(oV K g z f' b').holds w:=by
 obtain⟨m,n,h1,h2,h3⟩:=h;exact⟨m,n,by omega,h2,fun x hx=>by rw[hf x hx];exact h3 x hx⟩
end cg
namespace cg
open Go.RowKit cT ey
section
variable{P:Program}{n:Nat}{W:b_}{fr:Fr}{L:List b9}{Q:Exit->Act->World->Prop}{ops:Array Oper}{rest:List Oper}
theorem Mem.Tb{w:World}{i:Nat}{o:b9}(o':b9)(h:Mem W L w)(hi:L[i]?=ah o)(hh:∀w,o.holds w->o'.holds w)(hf:∀k,o'.fu k->o.fu k):Mem W (L.set i o') w:=by
  have hlen:i<L.length:=(cU.1 hi).1;have hoi:=h.owns.all i o hi;refine⟨h.low,fun j q hj=>?_,fun j j' q q' uf hj qL k hk nu=>?_⟩
  · by_cases e:i=j
    · subst e
      rw[ml hlen]at hj;simp only[dg]at hj;subst hj;exact⟨hh w hoi.1,fun k hk=>hoi.2 k (hf k hk)⟩
    rw[mU e]at hj;exact h.owns.all j q hj
  by_cases e:i=j
  · subst e
    rw[ml hlen]at hj;rw[mU uf]at qL;simp only[dg]at hj;subst hj;exact h.owns.apart i j' o q' uf hi qL k (hf k hk) nu
  rw[mU e]at hj
  by_cases e':i=j'
  · subst e'
    rw[ml hlen]at qL;simp only[dg]at qL;subst qL;exact h.owns.apart j i q o uf hj hi k hk (hf k nu)
  rw[mU e']at qL;exact h.owns.apart j j' q q' uf hj qL k hk nu
theorem Tc{c:Code}{i:Nat}{o:b9}(o':b9)(hi:L[i]?=ah o)(hh:∀w,o.holds w->o'.holds w)(hf:∀k,o'.fu k->o.fu k)(h:T P n W c Q fr (L.set i o')):T P n W c Q fr L:= .mk fun a w hr hm=>h.go a w hr (hm.Tb o' hi hh hf)
theorem pw{e:Exit}{i:Nat}{o:b9}(o':b9)(hi:L[i]?=ah o)(hh:∀w,o.holds w->o'.holds w)(hf:∀k,o'.fu k->o.fu k)(h:E n W e Q fr (L.set i o')):E n W e Q fr L:= .mk fun a w hr hm=>h.go a w hr (hm.Tb o' hi hh hf)
end
end cg
namespace cg
open Go.RowKit cT ey dj gu
inductive kC(F:Nat->Prop)(w:World):List Value->Rx->Prop
 |mk {k:Int} {c:C4} {kids:List Rx} {base:Option Addr} {cap:Nat} (iG:List (List Value)):cT.dM k->kids.length<=cap->cap<=maxLen->iG.length=kids.length->
  (∀i (h:i<kids.length) (h':i<iG.length),kC F w iG[i] kids[i])->(0<kids.length->∃b off,base=ah ⟨b,off,aj⟩/\F b/\∀i (_:i<kids.length) (h':i<iG.length),Rd w b (off+i*6) iG[i])->
  kC F w (ap av k::(d_ c++[ak base kids.length cap])) (.mk k c kids)
theorem kC.af3{F:Nat->Prop}{w:World}{cs:List Value}{t:Rx}(h:kC F w cs t):cs.length=6:=by
 cases h;rfl
theorem kC.J3{F:Nat->Prop}{w w':World}{cs:List Value}{t:Rx}(h:kC F w cs t)(hk:∀k,F k->w'.heap[k]?=w.heap[k]?):kC F w' cs t:=by
 induction h with
 |mk iG h2 h3 h4 h5 h6 h7 ih=>
  refine .mk iG h2 h3 h4 h5 ih fun hl=>?_;obtain⟨b,off,e,hF,hr⟩:=h7 hl;exact⟨b,off,e,hF,fun i hi pP=>rd_stay (hr i hi pP) (hk b hF)⟩
theorem kC.mono{F F':Nat->Prop}{w:World}{cs:List Value}{t:Rx}(h:kC F w cs t)(hk:∀k,F k->F' k):kC F' w cs t:=by
 induction h with
 |mk iG h2 h3 h4 h5 h6 h7 ih=>
  refine .mk iG h2 h3 h4 h5 ih fun hl=>?_;obtain⟨b,off,e,hF,hr⟩:=h7 hl;exact⟨b,off,e,hk b hF,hr⟩
def yo:zk Rx:=⟨6,kC,fun h=>h.af3,fun h hk=>h.J3 hk,fun h hk=>h.mono hk⟩
def mQ(k:Int)(c:C4)(v:Value):List Value:=ap av k::(d_ c++[v])
def rA(k:Int)(c:C4)(v:Value):Value:=aP (mQ k c v).toArray
theorem zO{F:Nat->Prop}{w:World}{cs:List Value}{k:Int}{c:C4}{kids:List Rx}:kC F w cs (.mk k c kids)↔∃v,cs=mQ k c v/\cT.dM k/\kK yo F w v kids:=by
 constructor
 ·intro h
  cases h with
  |mk iG h2 h3 h4 h5 h6 h7=>
   refine⟨_,rfl,h2,_,_,rfl,h3,h4,fun hl=>?_⟩;obtain⟨b,off,e,hF,hr⟩:=h7 hl;exact⟨b,off,e,hF,fun i hi=>⟨iG[i]' J,h6 i hi J,hr i hi J⟩⟩
 rintro⟨v,rfl,h2,base,cap,rfl,h3,h4,h5⟩
 by_cases hl:0<kids.length
 ·obtain⟨b,off,e,hF,hr⟩:=h5 hl
  have hlen:(Yf fun i:Fin kids.length=>Jv (hr i i.2)).length=kids.length:=by simp
  refine .mk (Yf fun i:Fin kids.length=>Jv (hr i i.2)) h2 h3 h4 hlen (fun i hi pP=>?_) fun _=>⟨b,off,e,hF,fun i hi pP=>?_⟩;rw[Yb];exact(D4 (hr i hi)).1;rw[Yb];exact(D4 (hr i hi)).2
 have:kids=[]:=Ed J;subst this;exact .mk [] h2 h3 h4 I (fun i hi=>absurd hi (by simp)) fun h=>absurd h (by simp)
def oW(F:Nat->Prop)(w:World)(v:Value)(r:Rx):Prop:=∃vk,v=rA r.kind r.uJ vk/\cT.dM r.kind/\kK yo F w vk r.kids
theorem oW.stay{F:Nat->Prop}{w w':World}{v:Value}{r:Rx}(h:oW F w v r)(hk:∀k,F k->w'.heap[k]?=w.heap[k]?):oW F w' v r:=
 let ⟨vk,h1,h2,h3⟩:=h;⟨vk,h1,h2,h3.stay hk⟩
theorem oW.mono{F F':Nat->Prop}{w:World}{v:Value}{r:Rx}(h:oW F w v r)(hk:∀k,F k->F' k):oW F' w v r:=
 let ⟨vk,h1,h2,h3⟩:=h;⟨vk,h1,h2,h3.mono hk⟩
def sa(w:World):Nat->Prop:=fun k=>k<w.heap.size
theorem oW.gr{w w':World}{v:Value}{r:Rx}(h:oW (sa w) w v r)(hg:Gr w w'):oW (sa w') w' v r:=
 (h.stay fun k hk=>hg.block k hk).mono fun _ hk=>jt hk hg.size
theorem oW.is{F:Nat->Prop}{w:World}{v:Value}{r:Rx}(h:oW F w v r):∃cs,v=aP cs.toArray/\kC F w cs r:=by
 obtain⟨k,c,kids⟩:=r;obtain⟨vk,rfl,h1,h2⟩:=h;exact⟨_,rfl,zO.2 ⟨vk,rfl,h1,h2⟩⟩
theorem kC.r{F:Nat->Prop}{w:World}{cs:List Value}{r:Rx}(h:kC F w cs r):oW F w (aP cs.toArray) r:=by
 obtain⟨k,c,kids⟩:=r;obtain⟨vk,rfl,h1,h2⟩:=zO.1 h;exact⟨vk,rfl,h1,h2⟩
theorem qX{F:Nat->Prop}{w:World}{b off:Nat}{l:List Rx}(h:∀i (h:i<l.length),∃cs,yo.is F w cs l[i]/\Rd w b (off+i*yo.c) cs){k:Nat}(hk:k<l.length):
 ∃base cap,Rd w b (off+k*6) (mQ l[k].kind l[k].uJ (.slice base l[k].kids.length cap))/\oW F w (rA l[k].kind l[k].uJ (.slice base l[k].kids.length cap)) l[k]:=by
 obtain⟨cs,h1,hr⟩:=h k hk;have h1:kC F w cs l[k]:=h1;generalize l[k]=r at*;obtain⟨kd,c,kids⟩:=r;obtain⟨vk,rfl,a1,a2⟩:=zO.1 h1;have a2':=a2;obtain⟨base,cap,rfl,_⟩:=a2';exact⟨base,cap,hr,_,rfl,a1,a2⟩
def EC(r:Re)(k:Nat):List (Re×Nat):=match r with
 | .JQ a b=>[(a,k+1),(b,k+1+a.size)]
 | .JR a b=>[(a,k+1),(b,k+1+a.size)]
 | .star a=>[(a,k+1)]
 |_=>[]
inductive Cb(F:Nat->Prop)(w:World):List Value->Re×Nat->Prop
 |mk {r:Re} {k:Nat} {vk:Value} {base:Option Addr} {cap:Nat} (iG:List (List Value)):vk.oneCell'=aB->(EC r k).length<=cap->cap<=maxLen->iG.length=(EC r k).length->
  (∀i (h:i<(EC r k).length) (h':i<iG.length),Cb F w iG[i] (EC r k)[i])->(0<(EC r k).length->∃b off,base=ah ⟨b,off,aj⟩/\F b/\∀i (_:i<(EC r k).length) (h':i<iG.length),Rd w b (off+i*8) iG[i])->
  Cb F w (ap av r.kind::(d_ r.uJ++[vk,ap av (k:Int),ak base (EC r k).length cap])) (r,k)
theorem Cb.J3{F:Nat->Prop}{w w':World}{cs:List Value}{t:Re×Nat}(h:Cb F w cs t)(hk:∀k,F k->w'.heap[k]?=w.heap[k]?):Cb F w' cs t:=by
 induction h with
 |mk iG h2 h3 h4 h5 h6 h7 ih=>
  refine .mk iG h2 h3 h4 h5 ih fun hl=>?_;obtain⟨b,off,e,hF,hr⟩:=h7 hl;exact⟨b,off,e,hF,fun i hi pP=>rd_stay (hr i hi pP) (hk b hF)⟩
theorem Cb.mono{F F':Nat->Prop}{w:World}{cs:List Value}{t:Re×Nat}(h:Cb F w cs t)(hk:∀k,F k->F' k):Cb F' w cs t:=by
 induction h with
 |mk iG h2 h3 h4 h5 h6 h7 ih=>
  refine .mk iG h2 h3 h4 h5 ih fun hl=>?_;obtain⟨b,off,e,hF,hr⟩:=h7 hl;exact⟨b,off,e,hk b hF,hr⟩
section
variable{P:Program}{n:Nat}{W:b_}{fr:Fr}{L:List b9}{Q:Exit->Act->World->Prop}{ops:Array Oper}{rest:List Oper}
theorem Mem.acZ{w:World}{i:Nat}{o:b9}(o':b9)(h:Mem W L w)(hi:L[i]?=ah o)(hh:o'.holds w)(hf:∀k,o'.fu k->o.fu k):Mem W (L.set i o') w:=by
  have hlen:i<L.length:=(cU.1 hi).1;have hoi:=h.owns.all i o hi;refine⟨h.low,fun j q hj=>?_,fun j j' q q' uf hj qL k hk nu=>?_⟩
  · by_cases e:i=j
    · subst e
      rw[ml hlen]at hj;simp only[dg]at hj;subst hj;exact⟨hh,fun k hk=>hoi.2 k (hf k hk)⟩
    rw[mU e]at hj;exact h.owns.all j q hj
  by_cases e:i=j
  · subst e
    rw[ml hlen]at hj;rw[mU uf]at qL;simp only[dg]at hj;subst hj;exact h.owns.apart i j' o q' uf hi qL k (hf k hk) nu
  rw[mU e]at hj
  by_cases e':i=j'
  · subst e'
    rw[ml hlen]at qL;simp only[dg]at qL;subst qL;exact h.owns.apart j i q o uf hj hi k hk (hf k nu)
  rw[mU e']at qL;exact h.owns.apart j j' q q' uf hj qL k hk nu
end
end cg
namespace lG
open Go.RowKit cT ey dj cg
set_option maxRecDepth 100000 in
theorem af4(x y:C4)(w:World):(pM 10000 116 (aP #[v64 x.a,v64 x.b,v64 x.c,v64 x.d]) (aP #[v64 y.a,v64 y.b,v64 y.c,v64 y.d])).run aC w= .ok (decide (x=y)) w:=by
  have e:(pM 10000 116 (aP #[v64 x.a,v64 x.b,v64 x.c,v64 x.d]) (aP #[v64 y.a,v64 y.b,v64 y.c,v64 y.d])).run aC w= .ok ((gh x.a==gh y.a)&&((gh x.b==gh y.b)&&((gh x.c==gh y.c)&&(gh x.d==gh y.d)))) w:=by
    unfold v64;rw[run_equalIn_array (P:=aC) w 9999 (n:=4) (e:=114) _ _ I I];have h1:aC.cellsOf 114=1:=rfl;simp[Op.eqItems,go_sem,List.range_succ_eq_map,h1]
    by_cases e1:gh x.a=gh y.a<;>by_cases e2:gh x.b=gh y.b<;>by_cases e3:gh x.c=gh y.c<;>by_cases e4:gh x.d=gh y.d<;>simp[e1,e2,e3,e4]
  rw[e]
  congr 1
  by_cases h:x=y
  subst h;simp;rw[decide_eq_false h];simp only[afU,Bool.and_eq_false_iff]
  by_cases h1:x.a=y.a
  · by_cases h2:x.b=y.b
    · by_cases h3:x.c=y.c
      · by_cases h4:x.d=y.d
        exact absurd (C4.ext' h1 h2 h3 h4) h;simp[h4]
      simp[h3]
    simp[h2]
  simp[h1]
end lG
namespace cg
open Go.RowKit cT ey
section
variable{P:Program}{n:Nat}{W:b_}{fr:Fr}{L:List b9}{Q:Exit->Act->World->Prop}{ops:Array Oper}{rest:List Oper}{d:Nat}{dst:Option Tmp}{ty:TypeId}{pos:String}{after:Array Edge}{guard:Option (Nat×Bool)}
theorem af5{t e:TypeId}{x z z':Operand}{agg:Bool}{c j len cap b off:Nat}{k k':IntKind}(ht:P.underlying t=ah (.slice e))(he:Ty P e agg c)(hx:ev fr x=ah (ak (ah ⟨b,off,aj⟩) len cap))(hz:ev fr z=ah (.int k (j:Int)))(hz':ev fr z'=ah (.int k' (j:Int)))(h2:j<=cap):
 RR P n W ⟨dst,.slice t x aj (ah z) (ah z'),ty,pos,after,guard⟩ fr L (ak (ah ⟨b,off,aj⟩) j j):= .mk fun a w hr _=>by
 have hb:∀(k:IntKind) (p q:Nat) (cd:BoundsCode),p<=q->(Jy (.int k (p:Int)) q cd).run P w= .ok p w:=fun k p q cd h=>by
  have:(0:Int)<=(p:Int)/\(p:Int)<=(q:Int):=by omega
  simp[Jy,asIntOf,this]
 have e1:((⟨b,off,aj⟩:Addr).add 0)=⟨b,off,aj⟩:=by rw[g_];rfl
 simp[execOp,hr.ev hx,hr.ev hz,hr.ev hz',D9,uy,run_underlying ht,D8,he.size,hb k' j cap _ h2,hb k j j _ (aT _),e1]
theorem P1{t e:TypeId}{s x:Operand}{q g b off size bytes m:Nat}{olds:List Value}{cs:Array Value}{T:TypeId}[xo:sM P t e size bytes](hs:ev fr s=ah (ak (ah ⟨b,off,aj⟩) m m))(hold:∀j v,olds[j]?=ah v->At W L ⟨b,off+j,aj⟩ v)(hol:olds.length=m*size)(hq:L[q]?=ah (aO g cs T))(hx:ev fr x=ah (ak (ah ⟨g,0,aj⟩) 1 1))
 (hl:cs.size=size) (wP:m+1<=140737488355328) (hb:(m+1)*bytes<=140737488355328) (hn:dB d n=aB)
 (h:∀v',TL P n W ops Q rest ((d,v')::fr) (L++[bx e size v' (m+1) (olds++cs.toList)])):
 TL P n W ops Q (⟨ah d,.call {callee:= .builtin .append,args:=#[s,x],argTypes:=#[t,t]},ty,pos,after,aj⟩::rest) fr L:=kW I fun act w hr hm K hK=>by
 obtain⟨inf,z,ht,Hh,hz,pU,U2,hzs,hsz⟩:=xo.el.ex;subst pU U2;have hrun:=run_append_grow (P:=P) w t ty e inf z ht Hh hz ⟨b,off,aj⟩ m m olds hol (fun j v hj=>by rw[g_];exact hold j v hj w hm) ⟨g,0,aj⟩ 1 1 cs.toList (by simpa using hl) (fun j v hj=>by rw[g_,cI];exact aE hq (by simpa using hj) w hm) J J (growslice_fits J hb);have e':(execOp act.eval ⟨ah d,.call {callee:= .builtin .append,args:=#[s,x],argTypes:=#[t,t]},ty,pos,after,aj⟩).run P w= .ok (.value (ak (ah ⟨w.heap.size,0,aj⟩) (m+1) (grownCap w (m+1) m e))) (w.drew.alloc (.cells (olds.toArray++cs.toList.toArray++Builtin.zeroCells z.cells (grownCap w (m+1) m e-(m+1))) e)):=by
  simp only[rm,D6,PB,fw,mu,hr.ev hs,hr.ev hx,mj,hrun,oO,mT]
 unfold gY;rw[e'];have hge:=grownCap_ge w (m+1) m e;have hcm:grownCap w (m+1) m e<=maxLen:=grownCap_le_maxLen w (m+1) m e (by unfold maxLen;omega);have hlen:(olds++cs.toList).length=(m+1)*inf.size:=by rw[bK,hol,pL,hl,nM]
 refine hK _ _ ((h _).go _ _ (hr.put hn _) (hm.append ((Below.refl _ _).drew.alloc (aT _) _) (rW.one ?_ ?_)))
 ·refine(⟨hlen,.inr ⟨w.heap.size,_,_,rfl,bC _,heap_alloc_new w.drew _,hge,hcm,?_,?_⟩⟩:World.ownsRow _ 0 e inf.size _ (m+1) (olds++cs.toList))
  ·simp only[Array.size_append,eN,size_zeroCells,hzs,hol,hl]
   have:grownCap w (m+1) m e=m+1+(grownCap w (m+1) m e-(m+1)):=by omega
   conv=>rhs;rw[this,lW,lW,uE]
  simp only[Array.toList_append];rw[<-hlen];exact List.take_left
 ·intro k hk
  have hk:JA (ak (ah ⟨w.heap.size,0,aj⟩) (m+1) (grownCap w (m+1) m e))=ah k:=hk;simp only[JA,dg]at hk;omega
def gA(G:Option Nat):Option Addr:=G.map fun g=>⟨g,0,aj⟩
theorem Mz{w:World}{e:TypeId}{size m:Nat}{v:Value}{xs:List Value}(h:(bx e size v m xs).holds w):∃G cap,v=ak (gA G) m cap/\m<=cap/\cap<=maxLen/\(G=aj->cap=0):=by
 have h:w.ownsRow 0 e size v m xs:=h;rcases h.2 with⟨hv,h0⟩|⟨g,cap,oU,hv,_,_,h1,h2,_⟩
 exact⟨aj,0,by rw[hv,h0];rfl,by omega,by decide,fun _=>rfl⟩;exact⟨ah g,cap,hv,h1,h2,fun h=>by cases h⟩
theorem P2{c:Code}{i size m:Nat}{e:TypeId}{v:Value}{xs:List Value}(hi:L[i]?=ah (bx e size v m xs))(h:∀G cap,v=ak (gA G) m cap->m<=cap->cap<=9223372036854775807->(G=aj->cap=0)->T P n W c Q fr L):T P n W c Q fr L:= .mk fun a w hr hm=>by
 obtain⟨G,cap,h1,h2,h3,h4⟩:=Mz (hm.get hi);exact(h G cap h1 h2 h3 h4).go a w hr hm
theorem yp{c:Code}{i size m:Nat}{e:TypeId}{v:Value}{xs:List Value}(hi:L[i]?=ah (bx e size v m xs))(h0:0<m)(h:∀g cap,v=ak (ah ⟨g,0,aj⟩) m cap->m<=cap->cap<=9223372036854775807->T P n W c Q fr L):T P n W c Q fr L:=by
 refine P2 hi fun G cap hv h1 h2 h3=>?_
 cases G with
 |none=>have:=h3 I;omega
 |some g=>exact h g cap hv h1 h2
end
end cg
namespace cg
open Go.RowKit cT ey dj gu
theorem MA(k:Int)(w:World):Calls aC 174 #[ap av k] w (cJ (ret (ap av (Eu k))) w):=by
 unfold Eu;refine enter (args:=[ap av k]) (n:=13) Tryz.func174 I I I ?_
 by_cases k1:k=1
 ·rw[if_pos k1]
  try refine GA ?_
  exact dR
 rw[if_neg k1]
 by_cases k2:k=2
 ·rw[if_pos k2]
  try refine GA ?_
  exact dR
 rw[if_neg k2]
 by_cases k3:k=3
 ·rw[if_pos k3]
  try refine GA ?_
  exact dR
 rw[if_neg k3]
 by_cases k6:k=6
 ·rw[if_pos k6]
  try refine GA ?_
  exact dR
 rw[if_neg k6]
 by_cases k4:k=4
 ·rw[if_pos k4]
  try refine GA ?_
  exact dR
 rw[if_neg k4]
 by_cases k5:k=5
 ·rw[if_pos k5]
  try refine GA ?_
  exact dR
 rw[if_neg k5]
 try refine GA ?_
 exact dR
theorem af6{r:Rx}{deep n:Nat}(h:(lC r deep n).1=0):(lC r deep n).2<=100:=by
 obtain⟨e,_,h1,h2⟩:=JS _ r deep n (lC r deep n).2 (aT _) (nP h rfl);have:=h1.sz;omega
theorem YU(w:World):(dm 116 (#[]:Array (Nat×Value))).run aC w= .ok (pu C4.zero) w:=by kernel_rfl
theorem ahD(x y:C4)(w:World):(pM 10000 116 (pu x) (pu y)).run aC w= .ok (decide (x=y)) w:=lG.af4 x y w
theorem Td{W0:World}{W:b_}{L:List b9}{b off:Nat}{cs:List Value}(ho:mv W0 W)(h:Rd W0 b off cs)(j:Nat)(v:Value)(hj:cs[j]?=ah v):At W L ⟨b,off+j,aj⟩ v:=iv ho (h j v hj)
theorem ac0{k:Int}{c:C4}{vk:Value}{j:Nat}{v:Value}(h:(d_ c)[j]?=ah v):(mQ k c vk).toArray[0+1+j]?=ah v:=by
 have hj:j<(d_ c).length:=(cU.1 h).1;rw[jh,show 0+1+j=j+1 by omega];show(d_ c++[vk])[j]?=_
 rw[fR hj];exact h
set_option maxRecDepth 100000 in
theorem Cc(w0:World)(gn:Nat):∀(N:Nat) (r:Rx),tY r<=N->∀(v:Value) (deep n:Nat) (w:World) (B:b_),oW (sa w0) w0 v r->n<=100->deep<=31->mv w0 B->Mem B [aO gn #[ap av (n:Int)] 3] w->
 Calls aC 146 #[v,ap av (deep:Int),aH (ah ⟨gn,0,aj⟩)] w (dX ⟨fun(_:Unit)=>True,fun _=>ap av (lC r deep n).1,fun _=>[aO gn #[ap av ((lC r deep n).2:Int)] 3]⟩ B)
 |0,r,h,_,_,_,_,_,_,_,_,_,_=>by have:=HW r;omega
 | N + 1,.mk k c kids,hN,v,deep,n,w,B,hv,hn,hd,ho,hm=>by
  have IH:=Cc w0 gn N;obtain⟨vk,rfl,ajr,Te⟩:=hv;dsimp only[Rx.kind,Rx.uJ,Rx.kids]at ajr Te⊢;obtain⟨bk,ck,rfl,h_,Pc,Vj⟩:=Te;unfold maxLen at Pc;rw[lC];rw[tY]at hN;have hkc:=fun w=>MA k w;have Pa:=ahD c C4.zero;have hcz:=YU;refine eR hm (args:=[rA k c (ak bk kids.length ck),ap av (deep:Int),aH (ah ⟨gn,0,aj⟩)]) (n:=55) Tryz.func146 I I I ?_;clear hm;refine bY (a_ (bQ I I I fun g3=>?_));refine zL ?_
  repeat(first|refine GC ?_|refine gV (aw aI.ty I (aE (i:=0) I I)) ?_|refine gV (dh (r:=((n+1:Nat):Int)) I I J J J) ?_|refine GB ?_)
  refine bT (i:=0) I I I I I I ?_;rw[show(#[ap av (n:Int)]:Array Value).setIfInBounds 0 (ap av ((n+1:Nat):Int))=#[ap av ((n+1:Nat):Int)]from I];refine zL ?_
  by_cases c1:100<n+1
  ·rw[if_pos c1]
   repeat(first|refine GA ?_|refine gV (aw aI.ty I (aE (i:=0) I I)) ?_)
   exact dq I I fun w hm=>hm.cZ (S:=⟨fun(_:Unit)=>True,fun _=>ap av 2,fun _=>[aO gn #[ap av ((n+1:Nat):Int)] 3]⟩) () trivial [0] akV I
  rw[if_neg c1]
  by_cases c2:30<deep
  ·rw[if_pos c2]
   repeat(first|refine GA ?_|refine gV (aw aI.ty I (aE (i:=0) I I)) ?_)
   exact dq I I fun w hm=>hm.cZ (S:=⟨fun(_:Unit)=>True,fun _=>ap av 7,fun _=>[aO gn #[ap av ((n+1:Nat):Int)] 3]⟩) () trivial [0] akV I
  rw[if_neg c2]
  repeat(first|refine GA ?_|refine gV (aw aI.ty I (aE (i:=0) I I)) ?_)
  by_cases c3:Eu k≠(kids.length:Int)
  ·rw[if_pos c3]
   (repeat refine bY ?_)
   refine dK ([aO g3 (mQ k c (ak bk kids.length ck)).toArray 119]) (.calm 0 (.calm 1 (.calm 2 (.calm 3 (.calm 4 (.calm 5 (.calm 6 (.calm 7 (.done))))))))) (bZ [1]) ?_
   repeat(first|refine GW ?_|(refine GN ?_;first|refine QW (aw aI.ty I (aE (i:=0) I I)) ?_))
   refine na I (kZ aF.en I I) (fun w hm=>hkc _) I I I ?_
   repeat(first|(refine GN ?_;first|refine QW QP ?_|refine QW (aw aI.ty I (aE (i:=0) I I)) ?_|refine QW (dz (b:=aB) I I (decide_eq_true c3)) ?_|refine GX ?_)|refine GW ?_)
   try refine GA ?_
   exact dq I I fun w hm=>hm.cZ (S:=⟨fun(_:Unit)=>True,fun _=>ap av 1,fun _=>[aO gn #[ap av ((n+1:Nat):Int)] 3]⟩) () trivial [0] akV I
  rw[if_neg c3];have Tf:Eu k=(kids.length:Int):=by simpa using c3
  rw[Tf]at hkc
  (repeat refine bY ?_)
  refine dK ([aO g3 (mQ k c (ak bk kids.length ck)).toArray 119]) (.calm 0 (.calm 1 (.calm 2 (.calm 3 (.calm 4 (.calm 5 (.calm 6 (.calm 7 (.done))))))))) (bZ [1]) ?_
  repeat(first|refine GW ?_|(refine GN ?_;first|refine QW (aw aI.ty I (aE (i:=0) I I)) ?_))
  refine na I (kZ aF.en I I) (fun w hm=>hkc _) I I I ?_
  repeat(first|(refine GN ?_;first|refine QW QP ?_|refine QW (aw aI.ty I (aE (i:=0) I I)) ?_|refine QW (dz (b:=aD) I I (decide_eq_false (fun h=>h I))) ?_|refine GX ?_)|refine GW ?_)
  try refine GA ?_
  generalize hD:(decide (k=3) !=decide (c≠C4.zero))=D;have hD':(!(decide (k=3)==!decide (c=C4.zero)))=D:=by
   rw[<-hD,decide_not]
   cases decide (k=3)<;>cases decide (c=C4.zero)<;>rfl
  (repeat refine bY ?_)
  refine dK ([aO g3 (mQ k c (ak bk kids.length ck)).toArray 119]) (.calm 0 (.calm 1 (.calm 2 (.calm 3 (.calm 4 (.calm 5 (.calm 6 (.calm 7 (.calm 8 (.done)))))))))) (bZ [1]) ?_
  repeat(first|(refine GN ?_;first|refine QW QP ?_|refine QW (aw aI.ty I (aE (i:=0) I I)) ?_|refine QW (cP (b:=decide (k=3)) I I I) ?_|refine QW (aU (cs:=d_ c) aI.ty I I (fun j v hj=>aE (i:=0) I (ac0 hj))) ?_|refine QW (bz I hcz) ?_|refine QW (Es I I (by kernel_rfl) Pa I) ?_|refine QW (UZ (c:=D) bI.eq I I hD') ?_|refine GX ?_)|refine GW ?_)
  clear hD hD' Pa hcz hkc
  cases D with
  | true=>
   rw[if_pos I]
   try refine GA ?_
   exact dq I I fun w hm=>hm.cZ (S:=⟨fun(_:Unit)=>True,fun _=>ap av 1,fun _=>[aO gn #[ap av ((n+1:Nat):Int)] 3]⟩) () trivial [0] akV I
  | false=>
   rw[if_neg akV]
   repeat(first|refine GA ?_|refine gV (aw aI.ty I (aE (i:=1) I I)) ?_)
   refine s7 [0] ?_;refine dU (ι:=Nat×Nat) (fun(j,q)=>j<=kids.length/\q<=100/\C0 kids (deep+1) (n+1)=C0 (kids.drop j) (deep+1) q) (fun(j,_)=>[(1,ap av (deep:Int)),(2,aH (ah ⟨gn,0,aj⟩)),(40,ak bk kids.length ck),(41,ap av (kids.length:Int)),(42,ap av (j:Int))])
    (fun(_,q)=>[aO gn #[ap av (q:Int)] 3]) (fun(j,_)=>kids.length-j) (0,n+1) ⟨bC _,by omega,rfl⟩ ?_
   rintro⟨j,q⟩ ⟨hj,hq,hk⟩;dsimp only at hj hq hk⊢;rw[hk]
   by_cases c4:j<kids.length
   ·obtain⟨b,off,rfl,_,hr⟩:=Vj J
    obtain⟨bj,cj,fZ,hkr⟩:=qX hr c4;have hd':kids.drop j=kids[j]::kids.drop (j+1):=dJ c4;rw[hd',C0]at hk⊢;have hsz:=Ev (bV c4);have hle:=fun h=>af6 (r:=kids[j]'c4) (deep:=deep+1) (n:=q) h;have eK:=fun(L:List b9) j v hj=>Td (L:=L) ho fZ j v hj;generalize kids[j]=r at*;generalize r.kids.length=m at*
    repeat(first|refine GA ?_|refine gV (aR (j:=j) bI.eq aI.ty I I c4) ?_|refine gV (aU aI.ty I I (eK _)) ?_)
    refine aY I fun g8=>?_;refine zL ?_;refine gG 1 (cs':=(mQ r.kind r.uJ (ak bj m cj)).toArray) ?_;refine zL ?_
    repeat(first|refine GC ?_|refine gV (aL (i:=1) aI.ty I I I) ?_|refine gV (dh (r:=((deep+1:Nat):Int)) I I J J J) ?_|refine GB ?_)
    refine bH [0] [1] akV I I (ye aF.en I I I I) (fun w hm hb=>IH r J _ (deep+1) q w _ hkr hq J (ho.on hm (by intro o ho;simp at ho⊢;simp[ho])) hb) I I I ?_;intro _ _;dsimp only;refine zL ?_
    by_cases e1:(lC r (deep+1) q).1=0
    ·rw[if_neg (by simpa using e1)]
     rw[if_neg (by simpa using e1)]at hk;have zq:=hle e1;rw[e1];generalize (lC r (deep+1) q).2=q' at*
     try refine GA ?_
     refine dv [1] ?_;exact bO (j+1,q') ⟨by show j+1<=kids.length;omega,zq,rfl⟩ (by show kids.length-(j+1)<kids.length-j;omega)
    rw[if_pos e1];generalize lC r (deep+1) q=z at*
    repeat(first|refine GC ?_|refine gV (dz (b:=aB) I I (decide_eq_true e1)) ?_|refine GB ?_)
    exact dq I I fun w hm=>hm.cZ (S:=⟨fun(_:Unit)=>True,fun _=>ap av z.1,fun _=>[aO gn #[ap av (z.2:Int)] 3]⟩) () trivial [1] akV I
   obtain rfl:j=kids.length:=by omega
   rw[List.drop_length,C0]at hk⊢
   try refine GA ?_
   exact dq I I fun w hm=>hm.cZ (S:=⟨fun(_:Unit)=>True,fun _=>ap av 0,fun _=>[aO gn #[ap av (q:Int)] 3]⟩) () trivial [0] akV I
def YV(r:Rx):Int:=(lC r 1 0).1
theorem uO(v:Value)(r:Rx)(w:World)(hv:oW (sa w) w v r):Calls aC 111 #[v] w (cJ (ret (ap av (YV r))) w):=by
 have hc:=fun gn w' B ho hm=>Cc w gn _ r (aT _) v 1 0 w' B hv J J ho hm;obtain⟨vk,rfl,_,hs⟩:=hv;obtain⟨bk,ck,rfl,-⟩:=hs;generalize r.kids.length=m at*;refine enter (args:=[rA r.kind r.uJ (ak bk m ck)]) (n:=6) Tryz.func111 I I I ?_;refine bY (a_ (bQ I I I fun g1=>?_))
 try refine GA ?_
 refine aY I fun g3=>?_;refine zL ?_;refine bT (i:=1) I I I I I I ?_;refine zL ?_
 repeat(first|refine GA ?_|refine gV (aL (i:=0) aI.ty I I I) ?_)
 refine bH [1] [0] akV I I (ye aF.en I I I I) (fun w hm hb=>hc g3 w _ ((mv.self _).on hm (by intro o ho;simp at ho⊢;simp[ho])) hb) I I I ?_;intro _ _;dsimp only;unfold YV
 try refine GA ?_
 exact dR
end cg
section
open Go.RowKit cT ey dj
attribute [local go_sem] ahw ajm aeY ahx
theorem Vk{w:World}{g:Nat}{x:C4}(h:Wr w g 0 (d_ x)):w.cell? ⟨g,0,aj⟩=ah (v64 x.a)/\w.cell? ⟨g,1,aj⟩=ah (v64 x.b)/\w.cell? ⟨g,2,aj⟩=ah (v64 x.c)/\w.cell? ⟨g,3,aj⟩=ah (v64 x.d):=
 ⟨(h 0 _ I).1,(h 1 _ I).1,(h 2 _ I).1,(h 3 _ I).1⟩
theorem Vl{w:World}{g:Nat}{x:C4}{T:TypeId}(h:w.heap[g]?=ah (.cells #[.int .u64 (gh x.a),.int .u64 (gh x.b),.int .u64 (gh x.c),.int .u64 (gh x.d)] T (0,0))):Wr w g 0 (d_ x):=fun j u hj=>by
 rw[cI,cell_of_row w g j _ T (0,0) h];exact⟨by simpa[d_]using hj,frozen_of_row w g j _ T h⟩
theorem Tg{w:World}{B:Nat}(hB:w.heap.size=B)(x:C4)(T:TypeId):Wr (w.alloc (.cells #[.int .u64 (gh x.a),.int .u64 (gh x.b),.int .u64 (gh x.c),.int .u64 (gh x.d)] T)) B 0 (d_ x):=
 Vl (acJ w _ B hB)
theorem oB(w:World)(o:Obj):Below w.heap.size w (w.alloc o):=(Below.refl _ _).alloc (aT _) _
theorem Bl{w:World}{g:Nat}{x:C4}(h:Wr w g 0 (d_ x))(i:Nat)(hi:i<4):w.cell? ⟨g,i,aj⟩=ah (.int .u64 (gh (x.get i)))/\w.frozen? ⟨g,i,aj⟩=false:=by
 have:=h i _ (YE x i hi);rw[cI]at this;exact this
theorem Vm{w:World}{g:Nat}{x:C4}(h:Wr w g 0 (d_ x))(i:Nat)(hi:i<4)(v:BitVec 64):Wr (w.setCell ⟨g,i,aj⟩ (.int .u64 (gh v))) g 0 (d_ (x.set i v)):=by
 have:=h.set i (by simp[d_];omega) (v64 v);rw[cI,YF x i hi v]at this;exact this
theorem MB(lo hi:Int)(w:World)(h1:dM lo)(h2:dM hi):
    Calls aC 88 #[ap av lo,ap av hi] w fun e w'=>e= .returned (pu (fy lo hi))/\Below w.heap.size w w':=by
  obtain⟨l1,l2⟩:=h1;obtain⟨m1,m2⟩:=h2;unfold pu;have yq:Below w.heap.size w ((w.alloc (.cells #[.int .u64 0,.int .u64 0,.int .u64 0,.int .u64 0] 116)).alloc (.cells #[.int .u64 0,.int .u64 0,.int .u64 0,.int .u64 0] 116))/\Wr ((w.alloc (.cells #[.int .u64 0,.int .u64 0,.int .u64 0,.int .u64 0] 116)).alloc (.cells #[.int .u64 0,.int .u64 0,.int .u64 0,.int .u64 0] 116)) w.heap.size 0 (d_ C4.zero)/\Wr ((w.alloc (.cells #[.int .u64 0,.int .u64 0,.int .u64 0,.int .u64 0] 116)).alloc (.cells #[.int .u64 0,.int .u64 0,.int .u64 0,.int .u64 0] 116)) (w.heap.size+1) 0 (d_ C4.zero):=
    ⟨(((Below.refl _ _).alloc (aT _) _).alloc (by simp) _),((Tg I C4.zero _).gr (oB _ _)),(Tg (by simp) C4.zero _)⟩
  obtain⟨B,hB⟩:∃B,B=w.heap.size:=⟨_,rfl⟩;rw[<-hB]at yq
  go_enter Tryz.func88,Tryz.ntmps88
  go_upto_region 2 with(fail)
  rw[<-hB];have ajs:w.heap.size<=B:=by omega
  have aks:B<=w.heap.size:=by omega
  clear hB
  go_cut [6] (fun s6 w'=>w'=((w.alloc (.cells #[.int .u64 0,.int .u64 0,.int .u64 0,.int .u64 0] 116)).alloc (.cells #[.int .u64 0,.int .u64 0,.int .u64 0,.int .u64 0] 116))/\s6=ap av (max lo 0))
  case first=>
    go_wp2
    all_goals
      go_meet
      case rel=>exact⟨rfl,by congr 1<;>omega⟩
  case rest=>
    obtain⟨rfl,rfl⟩:=hcut;obtain⟨b0,xl⟩:∃b0:Nat,(b0:Int)=max lo 0:=⟨(max lo 0).toNat,by omega⟩;have hF:fy lo hi=C4.ke C4.zero b0 (min hi 255+1-b0).toNat:=by unfold fy;rw[<-xl];rfl
    have HF:=Eb hF;rw[<-xl];clear hF xl;obtain⟨Dp,hs2,Xu⟩:=yq;obtain⟨N,hN⟩:∃N,N=(min hi 255+1-b0).toNat:=⟨_,rfl⟩;have HN:=Eb hN;have hN1:0<N->(b0:Int)+N=min hi 255+1:=fun h=>by omega
    have hN0:N=0->min hi 255<(b0:Int):=fun h=>by omega
    have hN2:N=0\/b0+N<=256:=by omega
    clear hN;rcases(show 255<hi\/hi<=255 by omega)with hh|hh
    all_goals
      go_wp2_with fail
      go_loopg [6] N (fun g c wr=>∃i:Nat,i+g=N/\c=ap av ((b0+i:Nat):Int)/\Below B w wr/\Wr wr B 0 (d_ C4.zero)/\Wr wr (B+1) 0 (d_ (C4.ke C4.zero b0 i)))
      case atStart=>exact⟨0,by omega,rfl,Dp,hs2,Xu⟩
      case round=>
        obtain⟨i,pP,rfl,hb,hr,hx⟩:=hrel;clear Dp hs2 Xu
        by_cases hlt:i<N
        · have hbb:((b0+i:Nat):Int)<=hi:=by have:=hN1 J;omega
          have ahE:b0+i<=255:=by omega
          have hstep:=YG C4.zero b0 i;generalize hbn:b0+i=b at hbb ahE hstep⊢;have h4:b/64<4:=by omega
          have cx:∀w',Up wr.drew w'->w'.cell? ⟨B+1,b/64,aj⟩=ah (.int .u64 (gh ((C4.ke C4.zero b0 i).get (b/64)))):=fun w' hw=>(Bl ((hx.gr (Gr.drew _)).gr hw) (b/64) h4).1;have hand:=U7 b J;have hsh:=acV (b %64) (Be _ akV);have HS0:=Eb hstep;have HI:=Eb pP;clear hN1 hN0 hN2 hstep pP
          go_wp2_with fail
          refine ey 9 (db 9 aB) I (by kernel_rfl) (by kernel_rfl) (by intro c a d v w h;cases d<;>exact h) (Up wr.drew) (UT _) (Gr.refl _) ?_;simp only[mV,sU,List.drop_succ_cons,List.drop_zero,db]
          repeat(first|(refine acL (by rfl) (fun w hSw=>by go_simp;(try (simp only[↓IntWalk.iteOmega];try go_simp));(try go_bits);first|done|with_reducible rfl) ?_;simp only[sP,Ee,x8,A'])|(refine Yl (by rfl) ?_;simp only[sP,Ee,x8,A']))
          refine acM fun w5 hw5=>?_;have hx5:=(hx.gr (Gr.drew _)).gr hw5;have hr5:=(hr.gr (Gr.drew _)).gr hw5;have hb5:Below B w w5:=Yi hb.drew (by have:=hb.size;simp;omega) hw5;obtain⟨c1,c2⟩:=Bl hx5 (b/64) h4;have hs:=Vm hx5 (b/64) h4 ((C4.ke C4.zero b0 i).get (b/64)|||iF 64 (2^(b %64)));have hf1:=hr5.far (a:=⟨B+1,b/64,aj⟩) (by simp) (.int .u64 (gh ((C4.ke C4.zero b0 i).get (b/64)|||iF 64 (2^(b %64)))));have hbs:=hb5.setCell (p:=⟨B+1,b/64,aj⟩) (by simp) (.int .u64 (gh ((C4.ke C4.zero b0 i).get (b/64)|||iF 64 (2^(b %64)))));rw[HS0.out]at hs;have HS:=Eb (cK hs (cK hf1 hbs));clear hs hf1 hbs hx5 hr5 hb5 cx hx hr hb hw5 hand hsh
          go_wp2_with fail
          have pP:=HI.out
          go_roundg (gk-1)
          case measure=>omega
          case rel=>exact⟨i+1,by omega,by go_num,HS.out.2.2,HS.out.2.1,HS.out.1⟩
        obtain rfl:i=N:=by omega
        have akt:min hi 255<((b0+i:Nat):Int):=by
          by_cases h0:i=0
          have:=hN0 h0;omega;have:=hN1 J;omega
        have hE:C4.ke C4.zero b0 i=fy lo hi:=by rw[HF.out,<-HN.out]
        rw[hE]at hx;obtain⟨c0,c1,c2,c3⟩:=Vk hx;obtain⟨⟨r0,f0⟩,⟨r1,f1⟩,⟨r2,f2⟩,⟨r3,f3⟩⟩:_/\_/\_/\_:=⟨Bl hr 0 akV,Bl hr 1 akV,Bl hr 2 akV,Bl hr 3 akV⟩;clear hN1 hN0 hN2 hE;generalize b0+i=b at*;have akj:¬(b:Int)<=min hi 255:=by omega
        go_wp2_with fail
        refine bodyPost_ret (v:=aP #[.int .u64 (gh (fy lo hi).a),.int .u64 (gh (fy lo hi).b),.int .u64 (gh (fy lo hi).c),.int .u64 (gh (fy lo hi).d)]) (by simp[results,Tryz.results88,go_sem,r0,r1,r2,r3]) I ⟨rfl,?_⟩;exact((((hb.setCell (by simp) _).setCell (by simp) _).setCell (by simp) _).setCell (by simp) _).mono ajs
end
namespace lG
open Go.RowKit cT ey dj cg
theorem af7(lo hi:Int)(h1:dM lo)(h2:dM hi)(w:World):Calls aC 88 #[ap av lo,ap av hi] w (cJ (ret (pu (fy lo hi))) w):=(MB lo hi w h1 h2).mono fun _ _ ⟨he,hb⟩=>UW he hb
end lG
namespace cg
open Go.RowKit cT ey
theorem mapM_some{α β:Type}{f:α->Option β}:∀{l:List α},(∀x∈l,∃y,f x=ah y)->∃ys,l.mapM f=ah ys
 |[],_=>⟨[],by simp⟩
 |a::l,h=>by
  obtain⟨y,hy⟩:=h a (by simp);obtain⟨ys,hys⟩:=mapM_some (l:=l) fun x hx=>h x (by simp[hx]);exact⟨y::ys,by simp[Yd,hy,hys]⟩
section
variable{P:Program}
def KL(P:Program)(d:Nat)(t:TypeId)(cs:List Value):Prop:=∃ls,P.keyLits d t cs=ah ls
theorem uP{d:Nat}{t:TypeId}{q:IntKind}{n:Int}(ht:P.underlying t=ah (.int q))(h0:q.min<=n)(h1:n<=q.max):KL P (d+1) t [.int q n]:=by
 refine⟨[.int q n],?_⟩;have hw:(Lit.int q n).wf=true:=by simp[Lit.wf,h0,h1]
 simp[uA,ht,hw]
theorem YW{d n:Nat}{t e:TypeId}{cs:List Value}(ht:P.underlying t=ah (.array n e))(hl:cs.length=P.cellsOf t)(h:∀i,i<n->KL P d e ((cs.drop (i*P.cellsOf e)).take (P.cellsOf e))):KL P (d+1) t cs:=by
 obtain⟨ys,hy⟩:=mapM_some (f:=fun i=>P.keyLits d e ((cs.drop (i*P.cellsOf e)).take (P.cellsOf e))) (l:=eu n) fun i hi=>h i (nL.1 hi);refine⟨ys.flatten,?_⟩;unfold uA;simp only[ht];rw[if_pos hl,hy];rfl
theorem Bm{d:Nat}{t:TypeId}{fs:Array Field}{cs:List Value}(ht:P.underlying t=ah (.struct fs))(hl:cs.length=P.cellsOf t)(hn:fs.all (·.name != "_")=aB)(h:∀f∈fs.toList,KL P d f.type ((cs.drop f.offset).take (P.cellsOf f.type))):KL P (d+1) t cs:=by
 obtain⟨ys,hy⟩:=mapM_some (f:=fun f:Field=>P.keyLits d f.type ((cs.drop f.offset).take (P.cellsOf f.type))) (l:=fs.toList) h;refine⟨ys.flatten,?_⟩;unfold uA;simp only[ht];rw[if_pos ⟨hl,hn⟩,hy];rfl
theorem J4{t:TypeId}{cs:List Value}{m:Nat}(hw:(match P.underlying t with|some (.array _ _)|some (.struct _)=>aB|_=>aD)=aB)(hk:P.keyType t=aB)(hl:cs.length=P.cellsOf t)(hm:∃d,P.types.size+1=d+m)(h:∀d,KL P (d+m) t cs):∃l,keyOf P t (aP cs.toArray)=ah l:=by
 obtain⟨d,e⟩:=hm;obtain⟨ls,hls⟩:=h d;refine⟨.string (keyBytes ls),?_⟩;have hf:(aP cs.toArray).formed P t=true:=by
  unfold Value.formed;split at hw<;>simp_all
 have hc:(aP cs.toArray).cells.toList=cs:=rfl;have key:(if(P.keyType t&&(aP cs.toArray).formed P t)=aB then(P.keyLits (P.types.size+1) t (aP cs.toArray).cells.toList).map (fun ls=>Lit.string (keyBytes ls))else aj)=ah (.string (keyBytes ls)):=by
  rw[hk,hf,hc,e,hls];rfl
 unfold keyOf;split at hw
 ·rename_i h1;rw[h1];exact key
 ·rename_i h1;rw[h1];exact key
 cases hw
end
theorem Dq:laidOutB aC=true:=by kernel_rfl
theorem Dr(m:Nat)(h:ya m (aC.types.size+1)=aB):∃d,aC.types.size+1=d+m:=⟨aC.types.size+1-m,by have:=mW h;omega⟩
end cg
namespace c_
section
variable{κ:Type}[DecidableEq κ]
def dO:List κ->List κ->List κ
 |D,[]=>D
 |D,k::r=>dO (if k∈D then D else D++[k]) r
def more(D:List κ)(k:κ):List κ:=if k∈D then D else D++[k]
theorem k_:∀(l D:List κ) (k:κ),dO D (l++[k])=more (dO D l) k
 |[],_,_=>rfl
 |_::l,_,k=>k_ l _ k
theorem ED(D:List κ)(k:κ):∃E,more D k=D++E:=by
 unfold more;split;exact⟨[],by simp⟩;exact⟨[k],rfl⟩
theorem uQ{D:List κ}{k x:κ}:x∈more D k↔x∈D\/x=k:=by
 unfold more;split
 ·rename_i h
  exact⟨.inl,fun e=>e.elim id fun e=>e▸h⟩
 simp
theorem te:∀(l D:List κ),∃E,dO D l=D++E
 |[],D=>⟨[],by simp[dO]⟩
 |k::l,D=>by
  obtain⟨E,h⟩:=ED D k;obtain⟨E',h'⟩:=te l (more D k);exact⟨E++E',by show dO (more D k) l=_;rw[h',h,dL]⟩
theorem lc{x:κ}:∀{l D:List κ},x∈dO D l↔x∈D\/x∈l
 |[],D=>by simp[dO]
 |k::l,D=>by
  show x∈dO (more D k) l↔_
  rw[lc,uQ,df,or_assoc]
theorem EE{D:List κ}{k:κ}(h:D.Nodup):(more D k).Nodup:=by
 unfold more;split;exact h
 rename_i hk
 exact Eh.2 ⟨h,by simp,fun a ha b hb e=>by simp at hb;subst hb e;exact hk ha⟩
theorem tf:∀(l D:List κ),D.Nodup->(dO D l).Nodup
 |[],_,h=>h
 |_::l,_,h=>tf l _ (EE h)
def idx(D:List κ)(k:κ):Nat:=D.idxOf k
theorem lf{D:List κ}{k:κ}(h:k∈D):idx D k<D.length:=List.idxOf_lt_length_of_mem h
theorem th{D:List κ}{k:κ}(h:idx D k<D.length):D[idx D k]=k:=List.getElem_idxOf h
theorem EF{D:List κ}(hn:D.Nodup){v:Nat}(h:v<D.length):idx D D[v]=v:=by
 have h1:=lf (bV h);exact(List.getElem_inj hn).1 (th h1)
theorem YX(k:κ)(E:List κ):idx (k::E) k=0:=by simp[idx]
theorem qY{D E:List κ}{k:κ}(h:k∈D):idx (D++E) k=idx D k:=by unfold idx;rw[Yc,if_pos h]
theorem sb{D:List κ}{k:κ}:idx (more D k) k=if k∈D then idx D k else D.length:=by
 unfold more;split;rfl
 rename_i h
 unfold idx;rw[Yc,if_neg h];simp
theorem YY{l D:List κ}{i:Nat}(hi:i<l.length):idx (dO D l) l[i]=if l[i]∈dO D (l.take i)then idx (dO D (l.take i)) l[i]else(dO D (l.take i)).length:=by
 have e:l=l.take (i+1)++l.drop (i+1):=(rp _ _).symm;have h1:l.take (i+1)=l.take i++[l[i]]:=ir hi;have h2:∃E,dO D l=dO D (l.take (i+1))++E:=by
  obtain⟨E,h⟩:=te (l.drop (i+1)) (dO D (l.take (i+1)));refine⟨E,?_⟩;rw[<-h];have hap:∀(a b D:List κ),dO D (a++b)=dO (dO D a) b:=by
   intro a
   induction a with
   |nil=>intro b D;rfl
   |cons x a ih=>intro b D;exact ih b _
  rw[<-hap,<-e]
 obtain⟨E,h2⟩:=h2;rw[h2,qY,h1,k_,sb];rw[h1,k_,uQ];exact .inr I
theorem ac1{D:List κ}{x y:κ}(hx:x∈D)(h:idx D x=idx D y):x=y:=by
 have h1:=lf hx;have h2:idx D y<D.length:=h▸h1;rw[<-th h1,<-th h2]
 congr 1
end
theorem jx{α:Type}{l m:List α}{k:Nat}{d:α}(h:k<l.length):(l++m).getD k d=l.getD k d:=by
 rw[bD,fR h,bD]
theorem mz{α:Type}{l m:List α}{k:Nat}{d:α}(h:l.length<=k):(l++m).getD k d=m.getD (k-l.length) d:=by
 rw[bD,kN h,bD]
theorem oD{l:List Nat}{m:Nat}(h:l.Nodup)(hb:∀x∈l,x<m):l.length<=m:=by
 have hs:∀(l l':List Nat),l.Nodup->(∀x∈l,x∈l')->l.length<=l'.length:=by
  intro l
  induction l with
  |nil=>intro l' _ _;simp
  |cons x l ih=>
   intro l' hn hs;rw[oQ]at hn;have hx:x∈l':=hs x (by simp);have:=ih (l'.erase x) hn.2 (fun y hy=>(PA (by rintro rfl;exact hn.1 hy)).2 (hs y (by simp[hy])));rw[JC hx]at this;have:0<l'.length:=Pz hx;simp;omega
 have:=hs l (eu m) h fun x hx=>nL.2 (hb x hx)
 simpa using this
theorem P3{N:Nat}{f g:Nat->Nat}{n c:Nat}(hf:∀v,v<n->∃x,x<N/\f x=v)(hg:∀x,x<N->g x<c)(hr:∀x y,x<N->y<N->g x=g y->f x=f y):
 n<=c/\(c=n->(∀x,x<N->f x<n)->∀x y,x<N->y<N->f x=f y->g x=g y):=by
 have hc:∃p:Nat->Nat,∀v,v<n->p v<N/\f (p v)=v:=by
  refine⟨fun v=>if h:v<n then(hf v h).choose else 0,fun v h=>?_⟩;simp only[dif_pos h];exact(hf v h).choose_spec
 obtain⟨p,hp⟩:=hc;have PG:∀l:List Nat,l.Nodup->(∀v∈l,v<n)->(l.map fun v=>g (p v)).Nodup:=by
  intro l hl hb;refine List.pairwise_map.2 (afz (fun {a b} ha JJ hne e=>hne ?_) hl);have h1:=hp a (hb a ha);have h2:=hp b (hb b JJ);have:=hr _ _ h1.1 h2.1 e;rw[h1.2,h2.2]at this;exact this
 refine⟨?_,fun hcn hfb x y hx hy hxy=>?_⟩
 ·have h1:=oD (m:=c) (PG (eu n) PC fun v hv=>nL.1 hv) (fun z hz=>by
   obtain⟨v,hv,rfl⟩:=eI.1 hz;exact hg _ (hp v (nL.1 hv)).1)
  simpa using h1
 ·apply XK
  intro hne;have hv:f x<n:=hfb x hx;have hl:((eu n).erase (f x)).Nodup:=PC.erase _;have hb:∀v∈(eu n).erase (f x),v<n/\v≠f x:=fun v hv=>by
   have:=(PC.mem_erase_iff).1 hv;exact⟨nL.1 this.2,this.1⟩
  have h1:=PG _ hl fun v hv=>(hb v hv).1;have UU:∀z,z<N->f z=f x->g z∉((eu n).erase (f x)).map fun v=>g (p v):=by
   intro z hz he JG;obtain⟨v,YZ,e⟩:=eI.1 JG;have h2:=hp v (hb v YZ).1;have:=hr _ _ h2.1 hz e;rw[h2.2,he]at this;exact(hb v YZ).2 this
  have h2:(g x::g y::((eu n).erase (f x)).map fun v=>g (p v)).Nodup:=by
   rw[oQ,oQ];refine⟨?_,UU y hy hxy.symm,h1⟩;rw[df,not_or];exact⟨hne,UU x hx I⟩
  have h3:=oD (m:=c) h2 (fun z hz=>by
   simp only[df]at hz;rcases hz with rfl|rfl|hz
   exact hg _ hx;exact hg _ hy;obtain⟨v,hv,rfl⟩:=eI.1 hz;exact hg _ (hp v (hb v hv).1).1)
  have h4:((eu n).erase (f x)).length=n-1:=by
   rw[JC (nL.2 hv)];simp
  simp[h4]at h3;omega
end c_
namespace cg
open Go.RowKit cT ey dj
theorem Y0{P:Program}(x j b:Nat)(k k':IntKind)(hb:k.bits=b)(hj:j<=b)(w:World):(iP .shr k (x:Int) k' (j:Int)).run P w= .ok (.int k ((x/2^j:Nat):Int)) w:=by
 have e:min j b=j:=by omega
 have h0:¬((j:Int)<0):=by omega
 have e2:(x:Int).fdiv (2^j)=((x/2^j:Nat):Int):=by
  rw[Int.fdiv_eq_ediv_of_nonneg _ (by have:(0:Int)<2^j:=Int.pow_pos akV;omega)];simp
 simp only[iP,if_neg h0,hb,cX,e,e2,mT]
theorem EG(c:C4)(i:Nat)(h:i<4):(#[v64 c.a,v64 c.b,v64 c.c,v64 c.d]:Array Value)[i]?=ah (.int .u64 ((c.get i).toNat:Int)):=by
 match i,h with
 |0,_=>rfl
 |1,_=>rfl
 |2,_=>rfl
 |3,_=>rfl
theorem ac2:∀b:Nat,b<256->bits .and .u8 (b:Int) 63=((b %64:Nat):Int):=by decide+kernel
theorem Vn(c:C4)(b:Nat)(hb:b<256)(w:World):Calls aC 153 #[pu c,.int .u8 (b:Int)] w (cJ (ret (.bool (c.mem b))) w):=by
 refine enter (args:=[aP #[v64 c.a,v64 c.b,v64 c.c,v64 c.d],.int .u8 (b:Int)]) (n:=14) Tryz.func153 I I I ?_;refine bY (a_ (bQ I I I fun g=>?_));have h1:b/64<4:=by omega
 have hc:(#[v64 c.a,v64 c.b,v64 c.c,v64 c.d]:Array Value)[0+b/64]?=ah (.int .u64 ((c.get (b/64)).toNat:Int)):=by rw[cI];exact EG c _ h1
 have hx:=(c.get (b/64)).isLt;have Dp:∀w,(iP .shr .u8 (b:Int) .u64 6).run aC w= .ok (.int .u8 ((b/64:Nat):Int)) w:=fun w=>Y0 b 6 8 .u8 .u64 I akV w;have hs2:∀w,(iP .shr .u64 ((c.get (b/64)).toNat:Int) .u8 ((b %64:Nat):Int)).run aC w= .ok (.int .u64 (((c.get (b/64)).toNat/2^(b %64):Nat):Int)) w:=fun w=>Y0 _ (b %64) 64 .u64 .u8 I J w;have hm:c.mem b=decide ((c.get (b/64)).toNat/2^(b %64) %2=1):=by unfold C4.mem;rw[Nat.testBit_eq_decide_div_mod_eq]
 rw[hm];have hd:(c.get (b/64)).toNat/2^(b %64)<=(c.get (b/64)).toNat:=Nat.div_le_self _ _;have wP:=ac2 b hb;generalize (c.get (b/64)).toNat=x at*;generalize b %64=k at*;generalize b/64=i at*;generalize x/2^k=y at*;have ha:bits .and .u64 (y:Int) 1=((y %2:Nat):Int):=by
  have:=bits_and_u64_nat y 1 J akV;rw[Nat.and_one_is_mod]at this;exact this
 repeat(first|refine GC ?_|refine gV (pT I I Dp) ?_|refine gV (io bI.eq aI.ty I I h1) ?_|refine gV (aw aI.ty I (aE (i:=0) I hc)) ?_|refine gV (nR I I wP) ?_|refine gV (pT I I hs2) ?_|refine gV (nR I I ha) ?_|refine gV (cP I I I) ?_|refine GB ?_)
 exact eU I I (by congr 1;rw[decide_eq_decide];omega)
end cg
namespace cg
open Go.RowKit cT ey dj gu lG
abbrev At2:=Int×Int
structure MOk(s:List UInt8)(N:Nat->Re)(m:At2->Option Value)(n:Nat):Prop where
 val:∀(k f:Nat) v,k<100->f<=s.length->m ((k:Int),(f:Int))=ah v->∃c,v=pu c/\ahy s (N k) f c
 cnt:∃D:List Nat,D.Nodup/\D.length=n/\(∀x∈D,x<25600)/\∀(k f:Nat),k<100->f<256->((m ((k:Int),(f:Int))).isSome=aB↔k*256+f∈D)
theorem MOk.le{s:List UInt8}{N:Nat->Re}{m:At2->Option Value}{n:Nat}(h:MOk s N m n):n<=25600:=by
 obtain⟨D,h1,h2,h3,_⟩:=h.cnt;rw[<-h2];exact c_.oD h1 h3
theorem MOk.set{s:List UInt8}{N:Nat->Re}{m:At2->Option Value}{n:Nat}(h:MOk s N m n)(hs:s.length<=200){k f:Nat}(hk:k<100)(hf:f<=s.length){c:C4}(hc:ahy s (N k) f c):
    MOk s N (fun y=>if y=((k:Int),(f:Int))then ah (pu c)else m y) (if(m ((k:Int),(f:Int))).isSome then n else n+1):=by
  refine⟨fun k' f' v nu AV hv=>?_,?_⟩
  · by_cases e:((k':Int),(f':Int))=((k:Int),(f:Int))
    · rw[if_pos e]at hv
      simp only[iu]at e;obtain rfl:k'=k:=by omega
      obtain rfl:f'=f:=by omega
      simp only[dg]at hv;exact⟨c,hv.symm,hc⟩
    rw[if_neg e]at hv;exact h.val k' f' v nu AV hv
  · obtain⟨D,h1,h2,h3,h4⟩:=h.cnt
    by_cases e:(m ((k:Int),(f:Int))).isSome=aB
    · rw[if_pos e]
      refine⟨D,h1,h2,h3,fun k' f' nu AV=>?_⟩
      by_cases e2:((k':Int),(f':Int))=((k:Int),(f:Int))
      · rw[if_pos e2]
        simp only[iu]at e2;obtain rfl:k'=k:=by omega
        obtain rfl:f'=f:=by omega
        simpa using(h4 k' f' nu AV).1 e
      rw[if_neg e2];exact h4 k' f' nu AV
    rw[if_neg e];have hn:k*256+f∉D:=fun hd=>e ((h4 k f hk J).2 hd);refine⟨(k*256+f)::D,oQ.2 ⟨hn,h1⟩,by rw[cO,h2],fun x hx=>?_,fun k' f' nu AV=>?_⟩
    · rcases df.1 hx with rfl|hx
      omega;exact h3 x hx
    by_cases e2:((k':Int),(f':Int))=((k:Int),(f:Int))
    · rw[if_pos e2]
      simp only[iu]at e2;obtain rfl:k'=k:=by omega
      obtain rfl:f'=f:=by omega
      simp
    rw[if_neg e2,h4 k' f' nu AV,df];have:¬k'*256+f'=k*256+f:=fun h=>e2 (by
      have a:k'=k:=by omega
      have b:f'=f:=by omega
      rw[a,b])
    simp[this]
end cg
namespace cg
open Go.RowKit cT ey
section
variable{P:Program}{k:TypeId}{κ:Type}(K:yl P k κ)
variable{n:Nat}{W:b_}{fr:Fr}{L:List b9}{dst:Option Tmp}{ty:TypeId}{pos:String}{after:Array Edge}{guard:Option (Nat×Bool)}{i g c:Nat}{t e:TypeId}{m:κ->Option Value}{x:κ}{z v:Value}{xm xk:Operand}
theorem jN(ht:P.underlying t=ah (.map k e))(hz:∀w,(zeroValue e).run P w= .ok z w)(hi:L[i]?=ah (fq K g m c))(hm:ev fr xm=ah (.map (ah g)))(hk:ev fr xk=ah (K.kv x))(hx:K.ok x)(hv:m x=ah v):RR P n W ⟨dst,.lookup t xm xk aB,ty,pos,after,guard⟩ fr L (.tuple #[v,.bool aB]):=by
 have:=pD K (n:=n) (W:=W) (dst:=dst) (ty:=ty) (pos:=pos) (after:=after) (guard:=guard) ht hz hi hm hk hx;rw[hv]at this;exact this
theorem jO(ht:P.underlying t=ah (.map k e))(hz:∀w,(zeroValue e).run P w= .ok z w)(hi:L[i]?=ah (fq K g m c))(hm:ev fr xm=ah (.map (ah g)))(hk:ev fr xk=ah (K.kv x))(hx:K.ok x)(hv:m x=aj):RR P n W ⟨dst,.lookup t xm xk aB,ty,pos,after,guard⟩ fr L (.tuple #[z,.bool aD]):=by
 have:=pD K (n:=n) (W:=W) (dst:=dst) (ty:=ty) (pos:=pos) (after:=after) (guard:=guard) ht hz hi hm hk hx;rw[hv]at this;exact this
end
end cg
namespace cg
open Go.RowKit cT ey dj gu lG
structure StI(s:List UInt8)(a:Re)(f:Nat)(out now:C4):Prop where
 sound:∀j,j<256->out.mem j=aB->Rch (U' a s) f j
 sub:∀j,j<256->now.mem j=aB->out.mem j=aB
 cl:∀i,i<256->out.mem i=aB->now.mem i=aD->∀j,U' a s i j->out.mem j=aB
 st:out.mem f=aB
theorem StI.le{s:List UInt8}{a:Re}{f:Nat}{out now:C4}(h:StI s a f out now)(hf:f<=s.length)(j:Nat)(hj:j<256)(hn:now.mem j=aB):j<=s.length:=
 ((YI hf).2 (h.sound j hj (h.sub j hj hn))).2.1
end cg
namespace cg
open Go.RowKit cT ey dj gu lG
theorem P4(c:C4)(w:World):(dm 119 #[(0,ap av 3),(1,pu c)]).run aC w= .ok (rA 3 c (ak aj 0 0)) w:=by kernel_rfl
theorem zP(b:Int)(w:World)(hb:cT.dM b):Calls aC 46 #[ap av b] w (cJ (ret (rA 3 (fy b b) (ak aj 0 0))) w):=by
 have hr:=fun w=>af7 b b hb hb w;have Vo:=P4 (fy b b);generalize fy b b=c at*;refine enter (args:=[ap av b]) (n:=7) Tryz.func46 I I I ?_;refine bY (a_ (aY I fun g2=>?_));refine zL ?_
 try refine GA ?_
 refine aW (fP aF.en I I I) (fun w hm=>hr _) I I I ?_;intro _ _;refine zL ?_
 repeat(first|refine GA ?_|refine gV (bz I Vo) ?_)
 refine gG 0 (cs':=(mQ 3 c (ak aj 0 0)).toArray) ?_;refine zL ?_
 try refine GA ?_
 exact gU (i:=0) I I I I fun w hm=>hm.ret
end cg
namespace cg
open Go.RowKit cT ey dj gu lG
section
end
def b8(l:List Nat):Va:=l.map fT
end cg
namespace cg
open Go.RowKit cT ey
theorem fl.perm{p:Nat->Prop}{w:World}{L L':List b9}(h:fl p w L)(hp:L.Perm L'):fl p w L':=by
 have hpw:L.Pairwise (fun o o'=>∀k,o.fu k->¬o'.fu k):=Ef.2 fun i j hi hj uf=>h.apart i j _ _ J (bm hi) (bm hj);have ahF:=Ef.1 ((hp.pairwise_iff (fun hxy k h1 h2=>hxy k h2 h1)).1 hpw);refine⟨fun i o hi=>?_,fun i j o o' uf hi hj k h1 h2=>?_⟩
 ·obtain⟨j,hj⟩:=x7 (hp.symm.subset (kO hi))
  exact h.all j o hj
 obtain⟨pP,rfl⟩:=cU.1 hi;obtain⟨qL,rfl⟩:=cU.1 hj;rcases Nat.lt_or_gt_of_ne uf with h3|h3
 exact ahF i j pP qL h3 k h1 h2;exact ahF j i qL pP h3 k h2 h1
theorem Mem.perm{W:b_}{w:World}{L L':List b9}(h:Mem W L w)(hp:L.Perm L'):Mem W L' w:=⟨h.low,h.owns.perm hp⟩
theorem Vp{l l':Fr}(hp:l.Perm l'):(l.map (·.1)).Nodup->∀(fr:Fr) (i:Nat),look (l++fr) i=look (l'++fr) i:=by
 induction hp with
 |nil=>intro _ _ _;rfl
 | cons x _ ih=>
  intro hn fr i;rw[fw,oQ]at hn;obtain⟨k,v⟩:=x;show(bif fO k i then ah v else _)=(bif fO k i then ah v else _)
  have e:=ih hn.2 fr i;exact congrArg (fun z=>bif fO k i then ah v else z) e
 | swap x y l=>
  intro hn fr i;obtain⟨k,v⟩:=x;obtain⟨k2,v2⟩:=y;simp only[fw,oQ,df,not_or]at hn;show(bif fO k2 i then ah v2 else bif fO k i then ah v else _)=(bif fO k i then ah v else bif fO k2 i then ah v2 else _)
  cases e:fO k2 i
  rfl
  cases e2:fO k i
  rfl;have a:=kP e;have b:=kP e2;exact absurd (a.trans b.symm) hn.1.1
 | trans h1 _ ih1 ih2=>
  intro hn fr i;rw[ih1 hn,ih2 ((h1.map _).nodup_iff.1 hn)]
theorem Vq{α β:Type}(f:α->β){l l':List β}(h:l.Perm l'):∀dn:List α,dn.map f=l->∃dn':List α,dn'.Perm dn/\dn'.map f=l':=by
 induction h with
 |nil=>exact fun dn h=>⟨dn,.refl _,h⟩
 | cons x _ ih=>
  intro dn h
  match dn,h with
  |y::dn,h=>
   simp only[fw,fg]at h;obtain⟨d',h1,h2⟩:=ih dn h.2;exact⟨y::d',h1.cons y,by simp[h.1,h2]⟩
 | swap x y l=>
  intro dn h
  match dn,h with
  |a::b::dn,h=>
   simp only[fw,fg]at h;exact⟨b::a::dn,afA _ _ _,by simp[h.1,h.2.1,h.2.2]⟩
 |trans _ _ ih1 ih2=>
  intro dn h;obtain⟨d1,h1,h2⟩:=ih1 dn h;obtain⟨d2,h3,h4⟩:=ih2 d1 h2;exact⟨d2,h3.trans h1,h4⟩
def Vr:List Nat->List (List Nat)
 |[]=>[[]]
 |a::r=>Vr r++(Vr r).map (a:: ·)
theorem Ce(p:Nat->Bool):∀l,l.filter p∈Vr l
 |[]=>by simp[Vr]
 |a::r=>by
  have ih:=Ce p r;unfold Vr;rw[List.filter_cons];split;exact List.mem_append_right _ (A8 ih);exact uC _ ih
structure Mk where
 i:Nat
 d:Nat
 v:Nat->Value
 own:Nat->b9
def eh(dn:List (Mk×Nat)):Fr:=dn.map fun x=>(x.1.d,x.1.v x.2)
def owm(dn:List (Mk×Nat)):List b9:=dn.map fun x=>x.1.own x.2
def nD(listed:Array Bool)(D:List Nat):Array Bool:=D.foldl (fun l i=>l.setIfInBounds i aB) listed
theorem H6(D:List Nat):∀(listed:Array Bool) (j:Nat),(nD listed D)[j]?=(listed[j]?).map fun b=>b||D.contains j:=by
 induction D with
 |nil=>intro listed j;simp[nD]
 | cons a r ih=>
  intro listed j;show(nD (listed.setIfInBounds a aB) r)[j]?=_
  rw[ih,Array.getElem?_setIfInBounds]
  by_cases c:a=j
  ·subst c
   simp;split<;>simp_all
  rw[if_neg c];have:¬j=a:=fun h=>c h.symm;simp[this]
theorem yr{listed:Array Bool}{D D':List Nat}(h:∀j,D.contains j=D'.contains j):nD listed D=nD listed D':=by
 apply XI;intro j;rw[H6,H6,h j]
def ae3(ops:Array Oper)(is:List Nat)(ends:List (List Nat))(listed:Array Bool):Bool:=(Vr is).all fun D=>ends.contains D||decide (jg .any ops (nD listed D)=is.filter fun i=>!D.contains i)
theorem EH:∀(l l':List Nat),l.Nodup->(∀x∈l,x∈l')->l.length<=l'.length
 |[],_,_,_=>bC _
 |a::r,l',hn,hs=>by
  rw[oQ]at hn;have ha:=hs a (by simp);have:=EH r (l'.erase a) hn.2 fun x hx=>(PA (fun(e:x=a)=>hn.1 (by rw[<-e];exact hx))).2 (hs x (by simp[hx]));rw[JC ha]at this;have:=Pz ha;simp;omega
theorem yt:∀(l l':List Nat),l.Nodup->(∀x∈l,x∈l')->l'.length<=l.length->l.Perm l'
 |[],l',_,_,h=>by
  have:l'=[]:=List.length_eq_zero_iff.1 (by simpa using h);subst this;exact .refl _
 |a::r,l',hn,hs,h=>by
  rw[oQ]at hn;have ha:=hs a (by simp);have hl:=JC ha;have h2:=Pz ha;have:=yt r (l'.erase a) hn.2 (fun x hx=>(PA (fun(e:x=a)=>hn.1 (by rw[<-e];exact hx))).2 (hs x (by simp[hx]))) (by simp at h;omega);exact(this.cons a).trans (List.perm_cons_erase ha).symm
theorem ae4:∀(ms:List Mk),(ms.map (·.i)).Nodup->∀m∈ms,∀m'∈ms,m.i=m'.i->m=m'
 |[],_,_,hm,_,_,_=>by cases hm
 |y::ms,h,m,hm,m',pV,e=>by
  rw[fw,oQ]at h;rcases df.1 hm with a1|a1<;>rcases df.1 pV with a2|a2
  rw[a1,a2];exact absurd (by rw[<-a1,e];exact A8 a2) h.1;exact absurd (by rw[<-a2,<-e];exact A8 a1) h.1;exact ae4 ms h.2 m a1 m' a2 e
theorem MC:∀(dn:List (Mk×Nat)) (ms all:List Mk),(∀m∈all,∀m'∈all,m.i=m'.i->m=m')->(∀x∈dn,x.1∈all)->(∀x∈ms,x∈all)->dn.map (·.1.i)=ms.map (·.i)->dn.map (·.1)=ms
 |[],ms,_,_,_,_,h=>by
  simp only[mu]at h;exact(List.map_eq_nil_iff.1 h.symm).symm
 |y::dn,[],_,_,_,_,h=>by simp at h
 |y::dn,m::ms,all,hi,h1,h2,h=>by
  simp only[fw,fg]at h;rw[fw,MC dn ms all hi (fun x hx=>h1 x (by simp[hx])) (fun x hx=>h2 x (by simp[hx])) h.2,hi y.1 (h1 y (by simp)) m (h2 m (by simp)) h.1]
section
variable{P:Program}{n:Nat}{W:b_}{Q:Exit->Act->World->Prop}{fr:Fr}{L L0:List b9}{ops:Array Oper}
def H7(P:Program)(n:Nat)(W:b_)(ops:Array Oper)(fr:Fr)(m:Mk):Prop:=
 ∃o,ops[m.i]?=ah o/\∀(Q:Exit->Act->World->Prop) (Hb:Fr) (L:List b9),(∀q v,look fr q=ah v->look Hb q=ah v)->(∀g,TL P n W ops Q [] ((m.d,m.v g)::Hb) (L++[m.own g]))->TL P n W ops Q [o] Hb L
theorem H8:∀(l:Fr) {q:Nat} {v:Value},(∀x∈l,look fr x.1=aj)->look fr q=ah v->look (l++fr) q=ah v
 |[],_,_,_,h=>h
 |(k,u)::l,q,v,hl,h=>by
  show(bif fO k q then ah u else look (l++fr) q)=ah v
  cases e:fO k q
  exact H8 l (fun x hx=>hl x (by simp[hx])) h;have:=kP e;subst this;have:=hl (k,u) (by simp);rw[this]at h
  cases h
theorem nt.perm{a:Act}{l l':Fr}(h:nt n a (l++fr))(hp:l.Perm l')(hn:(l.map (·.1)).Nodup):nt n a (l'++fr):=
 ⟨h.size,h.defers,fun i v hl=>h.get i v (by rw[Vp hp hn fr i];exact hl)⟩
theorem Y1:∀(dn:List (Mk×Nat)),(dn.map (·.1.i)).Nodup->∃g:Nat->Nat,∀x∈dn,g x.1.i=x.2
 |[],_=>⟨fun _=>0,fun x hx=>by cases hx⟩
 | y::dn,h=>by
  rw[fw,oQ]at h;obtain⟨g,hg⟩:=Y1 dn h.2;refine⟨fun i=>if i=y.1.i then y.2 else g i,fun x hx=>?_⟩;rcases df.1 hx with rfl|hx
  simp;have:¬x.1.i=y.1.i:=fun e=>h.1 (by rw[<-e];exact A8 hx);simp only[if_neg this];exact hg x hx
theorem P5(ms E:List Mk)(hn:(ms.map (·.i)).Nodup)(hEn:(E.map (·.i)).Nodup)(hEd:(E.map (·.d)).Nodup)(hE:∀m∈E,m∈ms)(dn:List (Mk×Nat))(h1:∀x∈dn,x.1∈ms)(hp:(dn.map (·.1.i)).Perm (E.map (·.i)))(a:Act)(hr:nt n a (eh dn++fr)):
 ∃g:Nat->Nat,nt n a (E.map (fun m=>(m.d,m.v (g m.i)))++fr)/\Mem W (L++owm dn)=Mem W (L++E.map fun m=>m.own (g m.i)):=by
 obtain⟨d',p1,p2⟩:=Vq (fun x:Mk×Nat=>x.1.i) hp dn I;have e1:=MC d' E ms (ae4 ms hn) (fun x hx=>h1 x (p1.subset hx)) hE p2;obtain⟨g,hg⟩:=Y1 d' (by rw[p2];exact hEn);have e2:d'=E.map fun m=>(m,g m.i):=by
  rw[<-e1,Eg]
  conv=>lhs;rw[<-List.map_id d']
  exact List.map_congr_left fun x hx=>by
   obtain⟨m,q⟩:=x;have:=hg _ hx;dsimp only at this;simp[this]
 have hpd:((eh dn).map (·.1)).Nodup:=by
  have:((eh dn).map (·.1)).Perm (E.map (·.d)):=by
   have h5:=(p1.map fun x:Mk×Nat=>x.1.d).symm;have e:d'.map (fun x:Mk×Nat=>x.1.d)=E.map (·.d):=by rw[<-e1,Eg];rfl
   rw[e]at h5;unfold eh;rw[Eg];exact h5
  exact this.nodup_iff.2 hEd
 have Ca:=hr.perm (p1.map _).symm hpd;refine⟨g,?_,?_⟩
 ·have:d'.map (fun x=>(x.1.d,x.1.v x.2))=E.map (fun m=>(m.d,m.v (g m.i))):=by rw[e2,Eg];rfl
  rw[<-this];exact Ca
 ·have e:E.map (fun m=>m.own (g m.i))=owm d':=by rw[e2,owm,Eg];rfl
  rw[e];exact funext fun w=>propext ⟨fun h=>h.perm (((p1.map _).symm).append_left L),fun h=>h.perm ((p1.map _).append_left L)⟩
theorem ac3(ms:List Mk)(ends:List (List Mk))(listed:Array Bool)(U:World->Prop)(S0:Nat)(hUL:∀l,∀w,Mem W (L++l) w->U w)
 (hn:(ms.map (·.i)).Nodup) (hd:(ms.map (·.d)).Nodup) (hB:ae3 ops (ms.map (·.i)) (ends.map fun E=>E.map (·.i)) listed=aB) (hm:∀m∈ms,H7 P n W ops fr m) (hf:∀m∈ms,look fr m.d=aj)
 (ajt:∀E∈ms::ends,(∀m∈E,m∈ms)/\(E.map (·.i)).Nodup/\(E.map (·.d)).Nodup/\∀(k:Nat) (g:Nat->Nat) (a:Act),E.length+k=ms.length->nt n a (E.map (fun m=>(m.d,m.v (g m.i)))++fr)->sZ P .any ops Q U (k+S0) (nD listed (E.map (·.i))) a (Mem W (L++E.map fun m=>m.own (g m.i)))):
 ∀(k:Nat) (dn:List (Mk×Nat)),(∀x∈dn,x.1∈ms)->(dn.map (·.1.i)).Nodup->dn.length+k=ms.length->∀a,nt n a (eh dn++fr)->sZ P .any ops Q U (k+S0) (nD listed (dn.map (·.1.i))) a (Mem W (L++owm dn)):=by
 have stop:∀E∈ms::ends,∀(k:Nat) (dn:List (Mk×Nat)),(∀x∈dn,x.1∈ms)->(dn.map (·.1.i)).Nodup->dn.length+k=ms.length->(dn.map (·.1.i)).Perm (E.map (·.i))->∀a,nt n a (eh dn++fr)->sZ P .any ops Q U (k+S0) (nD listed (dn.map (·.1.i))) a (Mem W (L++owm dn)):=by
  intro E hE k dn h1 h2 h3 hp a hr;obtain⟨q1,q2,q3,q4⟩:=ajt E hE;obtain⟨g,r1,r2⟩:=P5 (W:=W) (L:=L) ms E hn q2 q3 q1 dn h1 hp a hr;have hlen:=hp.length_eq;simp only[dw]at hlen;rw[r2,yr (D':=E.map (·.i)) fun j=>?_]
  exact q4 k g a J r1;exact Pg.2 (by simpa using hp.mem_iff)
 intro k
 induction k with
 | zero=>
  intro dn h1 h2 h3 a hr;exact stop ms (by simp) 0 dn h1 h2 h3 (yt (dn.map (·.1.i)) (ms.map (·.i)) h2 (fun x hx=>by
   obtain⟨y,hy,rfl⟩:=eI.1 hx;exact A8 (f:=(·.i)) (h1 y hy)) (by simp;omega)) a hr
 | succ k ih=>
  intro dn h1 h2 h3 a hr;have pW:=fun E hE hp=>stop E hE (k+1) dn h1 h2 h3 hp a hr;have kS:∀x∈dn.map (·.1.i),x∈ms.map (·.i):=fun x hx=>by
   obtain⟨y,hy,rfl⟩:=eI.1 hx;exact A8 (f:=(·.i)) (h1 y hy)
  generalize hD:dn.map (·.1.i)=D at*
  have akk:D.length=dn.length:=by rw[<-hD];simp
  have tZ:∀j,D.contains j=((ms.map (·.i)).filter fun i=>D.contains i).contains j:=fun j=>by
   apply Pg.2;simp only[X_,pN];exact⟨fun h=>⟨kS j h,h⟩,fun h=>h.2⟩
  have hq:=oR.1 hB _ (Ce (fun i=>D.contains i) (ms.map (·.i)))
  rw[Bool.or_eq_true]at hq;rcases hq with hq|hq
  ·rw[X_]at hq
   obtain⟨E,hE,e⟩:=eI.1 hq;refine pW E (by simp[hE]) ?_;rw[e];refine yt _ _ h2 (fun x hx=>pN.2 ⟨kS x hx,by simpa using hx⟩) ?_;exact EH _ _ (hn.filter _) fun x hx=>by simpa using(pN.1 hx).2
  have Y2:jg .any ops (nD listed D)=(ms.map (·.i)).filter fun i=>!D.contains i:=by
   have hq:=of_decide_eq_true hq;rw[yr tZ,hq];exact List.filter_congr fun i _=>by rw[<-tZ i]
  rw[show k+1+S0=(k+S0)+1 by omega];refine⟨fun h0=>?_,fun i hi w hw=>?_⟩
  ·exfalso
   have:(ms.map (·.i)).length<=D.length:=EH _ _ hn fun x hx=>by
    rw[Y2]at h0;have:=List.filter_eq_nil_iff.1 h0 x hx
    simpa using this
   simp at this;omega
  rw[Y2,pN]at hi;obtain⟨hi1,Pb⟩:=hi;obtain⟨m,hm1,rfl⟩:=eI.1 hi1;have hi3:m.i∉D:=by simpa using Pb
  obtain⟨o,ho,Pc⟩:=hm m hm1;refine jK ho ((Pc _ (eh dn++fr) (L++owm dn) (fun q v hq=>H8 (eh dn) (fun x hx=>?_) hq) fun g=>?_).go a w hr hw)
  ·obtain⟨y,hy,rfl⟩:=eI.1 hx
   exact hf y.1 (h1 y hy)
  refine lY ⟨fun a' w' Ca pV=>⟨Mem W (L++owm ((m,g)::dn)),eO _ _,hUL _,pV.perm ?_,?_⟩⟩
  ·rw[dL]
   exact(List.perm_append_comm).append_left L
  have:=ih ((m,g)::dn) (fun x hx=>by
   rcases df.1 hx with rfl|hx
   exact hm1;exact h1 x hx) (by rw[fw,hD,oQ];exact⟨hi3,h2⟩) (by simp;omega) a' Ca
  rw[fw,hD]at this;have e:(nD listed D).setIfInBounds m.i aB=nD listed (m.i::D):=by
   have e0:(nD listed D).setIfInBounds m.i aB=nD listed (D++[m.i]):=by
    unfold nD;rw[List.foldl_append];rfl
   rw[e0];exact yr fun j=>by
    apply Pg.2;simp[or_comm]
  rw[e];exact this
structure TX(P:Program)(n:Nat)(W:b_)(ops:Array Oper)(Q:Exit->Act->World->Prop)(L0:List b9)(listed:Array Bool)(f:Nat)(fr:Fr)(L:List b9):Prop where
 go:(∀w,Mem W L w->Mem W L0 w)->(∀c a d v w,Q (.panic c) (sP a d v) w->Q (.panic c) a w)->A6 ops=aB->∀a,nt n a fr->sZ P .any ops Q (Mem W L0) f listed a (Mem W L)
theorem mem_left{L l:List b9}{w:World}(h:Mem W (L++l) w):Mem W L w:=by
 have hl:∀(i:Nat) (o:b9),L[i]?=ah o->(L++l)[i]?=ah o:=fun i o h=>by
  rw[fR (cU.1 h).1];exact h
 exact⟨h.low,⟨fun i o hi=>h.owns.all i o (hl i o hi),fun i j o o' uf hi hj=>h.owns.apart i j o o' uf (hl i o hi) (hl j o' hj)⟩⟩
theorem Y3{id:Nat}{l:List Oper}(L0:List b9)(kS:∀w,Mem W L w->Mem W L0 w)(hm:P.follows .mixedOrders=aB)(mP:A6 l.toArray=aB)
 (hQ:∀c a d v w,Q (.panic c) (sP a d v) w->Q (.panic c) a w)
 (h:TX P n W l.toArray Q L0 (AZ l.toArray.size aD) l.toArray.size fr L):T P n W (.region id l.toArray aB) Q fr L:=⟨fun a w hr xp=>by
 refine wp_region_any hm ?_;exact yg (U:=Mem W L0) l.toArray.size (AZ l.toArray.size aD) a (Mem W L) w.drew xp.drew (h.go kS hQ mP a hr)⟩
theorem Ds{listed:Array Bool}{f:Nat}(t:Ord)(ho:mw .any ops t listed=aB)(hf:f=t.size)(h:TW P n W ops Q L0 t fr L):TX P n W ops Q L0 listed f fr L:=
 ⟨fun kS hQ mP a hr=>by subst hf;exact jL mP hQ t listed a (Mem W L) (eO W L) kS ho (h.go a hr)⟩
theorem rB{listed:Array Bool}{f d:Nat}{o:Oper}{v:Value}(i:Nat)(hi:((jg .any ops listed).contains i&&Pv .any ops listed i)=aB)(ho:ops[i]?=ah o)(hr:RR P n W o fr L0 v)(hg:o.guard=aj)(hd:o.dst=ah d)(hn:dB d n=aB)
 (h:TX P n W ops Q L0 (listed.setIfInBounds i aB) f ((d,v)::fr) L):TX P n W ops Q L0 listed (f+1) fr L:=⟨fun kS hQ mP a ij=>by
 rw[ff]at hi;have hc:jI P ops (Mem W L0) o v a:= .inl ⟨qU hg,fun w hw=>by unfold pO;rw[hr.go a w ij hw];exact⟨rfl,Gr.refl _⟩⟩;exact zx ho (Pr mP) (fun c a w=>hQ c a o.dst v w) f listed a (Mem W L) (eO W L) kS (Ps ho hi.2) (by simpa using hi.1) hc
  (by rw[hd];exact h.go kS hQ mP _ (ij.put hn v))⟩
def Y4(ops:Array Oper)(ms:List Mk)(ends:List (List Nat))(listed:Array Bool)(fr:Fr):Bool:=
 decide (ms.map (·.i)).Nodup&&decide (ms.map (·.d)).Nodup&&ae3 ops (ms.map (·.i)) ends listed&&ms.all fun m=>(look fr m.d).isNone
theorem MD{listed:Array Bool}{f:Nat}(ms:List Mk)(p:Mk->Bool)(S0:Nat)(hf:f=ms.length+S0)(hB:Y4 ops ms [ms.map (·.i),(ms.filter p).map (·.i)] listed fr=aB)(hm:∀m∈ms,H7 P n W ops fr m)
 (h:∀g:Nat->Nat,TX P n W ops Q L0 (nD listed (ms.map (·.i))) S0 (ms.map (fun m=>(m.d,m.v (g m.i)))++fr) (L++ms.map fun m=>m.own (g m.i)))
 (h':∀g:Nat->Nat,TX P n W ops Q L0 (nD listed ((ms.filter p).map (·.i))) (ms.length-(ms.filter p).length+S0) ((ms.filter p).map (fun m=>(m.d,m.v (g m.i)))++fr) (L++(ms.filter p).map fun m=>m.own (g m.i))):TX P n W ops Q L0 listed f fr L:=⟨fun kS hQ mP a hr=>by
 subst hf;simp only[Y4,ff,decide_eq_true_eq]at hB;obtain⟨⟨⟨b1,b2⟩,b3⟩,b4⟩:=hB;have:=ac3 (Q:=Q) (L:=L) ms [ms,ms.filter p] listed (Mem W L0) S0 (fun l w hw=>kS w (mem_left hw)) b1 b2 b3 hm (fun m hm=>by simpa using oR.1 b4 m hm)
  (fun E hE=>by
   have hE:E=ms\/E=ms.filter p:=by
    simp only[List.mem_cons,List.not_mem_nil,or_false]at hE;rcases hE with h|h|h
    exact .inl h;exact .inl h;exact .inr h
   rcases hE with rfl|rfl
   ·exact⟨fun _ h=>h,b1,b2,fun k g a hk hr=>by
     obtain rfl:k=0:=by omega
     rw[Nat.zero_add];exact(h g).go (fun w hw=>kS w (mem_left hw)) hQ mP a hr⟩
   exact⟨fun _ h=>(List.mem_filter.1 h).1,b1.sublist (List.filter_sublist.map _),b2.sublist (List.filter_sublist.map _),fun k g a hk hr=>by
    obtain rfl:k=ms.length-(ms.filter p).length:=by omega
    exact(h' g).go (fun w hw=>kS w (mem_left hw)) hQ mP a hr⟩) ms.length [] (fun x hx=>by cases hx) (by simp) (by simp) a hr
 simpa[nD,owm]using this⟩
theorem zQ{fr Hb:Fr}(h:∀q v,look fr q=ah v->look Hb q=ah v){x:Operand}{v:Value}(hx:ev fr x=ah v):ev Hb x=ah v:=by
 cases x with
 |tmp t=>exact h _ _ hx
 |_=>exact hx
theorem oE{i d:Nat}{t e ty:TypeId}{pos:String}{after:Array Edge}{x y:Operand}{c bytes m cap:Nat}{k k':IntKind}{zs:Array Value}[sM P t e c bytes][eS P e zs](ho:ops[i]?=ah ⟨ah d,.makeSlice t x y,ty,pos,after,aj⟩)(hx:ev fr x=ah (.int k (m:Int)))(hy:ev fr y=ah (.int k' (cap:Int)))(S9:m<=cap)(hb:bytes*cap<=281474976710656)(wP:cap<=9223372036854775807)(hn:dB d n=aB):
 H7 P n W ops fr ⟨i,d,fun g=>ak (ah ⟨g,0,aj⟩) m cap,fun g=>aO g (madeCells zs (cap*c)) e⟩:=
 ⟨_,ho,fun _ _ _ hl h=>uM (zQ hl hx) (zQ hl hy) S9 hb wP hn h⟩
theorem H9{i d:Nat}{t ty:TypeId}{pos:String}{after:Array Edge}{cs:Array Value}[eS P t cs](ho:ops[i]?=ah ⟨ah d,.alloc t,ty,pos,after,aj⟩)(hn:dB d n=aB):
 H7 P n W ops fr ⟨i,d,fun g=>aH (ah ⟨g,0,aj⟩),fun g=>aO g cs t⟩:=
 ⟨_,ho,fun _ _ _ _ h=>aY hn h⟩
end
end cg
namespace gu
open dj
def SzR(p0:Nat)(x:Rx)(st:RS):Prop:=p0<=st.p/\(st.e=0->tY x+1<=200*(st.p-p0))/\(st.e≠0->tY x<=200*(st.p-p0)+1)
section
variable{s:Va}
theorem SzR.le{p0:Nat}{x:Rx}{st:RS}(h:SzR p0 x st):tY x<=200*(st.p-p0)+1:=by
 by_cases e:st.e=0
 have:=h.2.1 e;omega;exact h.2.2 e
end
end gu
namespace aM
abbrev bX:=Int×Int
abbrev Prod:=Int×List bX
structure dF where
 aQ:Int
 bB:Int
 az:List Prod
def right(aQ bB:Int)(x:bX):Bool:=if x.1=1 then decide (0<=x.2)&&decide (x.2<aQ)else if x.1=2 then decide (0<=x.2)&&decide (x.2<bB)else aD
def zR(aQ bB:Int)(p:Prod):Int:=if 8<p.2.length then 2 else if p.1<0 then 1 else if bB<=p.1 then 1 else if p.2.any (fun x=>!right aQ bB x)=aB then 1 else 0
def pX(aQ bB:Int):List Prod->Int
 |[]=>0
 |p::r=>if zR aQ bB p≠0 then zR aQ bB p else pX aQ bB r
def cD(g:dF):Int:=if g.aQ<0 then 1 else if 30<g.aQ then 1 else if g.bB<1 then 1 else if 20<g.bB then 1 else if 40<g.az.length then 2 else pX g.aQ g.bB g.az
theorem Y5{t n:Int}{p:Prod}(h:zR t n p=0):p.2.length<=8/\0<=p.1/\p.1<n/\∀x∈p.2,right t n x=true:=by
 unfold zR at h;split at h;· simp at h
 split at h;· simp at h
 split at h;· simp at h
 split at h;· simp at h
 rename_i a b c d
 refine⟨by omega,by omega,by omega,fun x hx=>?_⟩;simp only[oT,not_exists,not_and,A0,Bool.not_eq_false]at d
 simpa using d x hx
theorem H_{t n:Int}:∀{l:List Prod},pX t n l=0->∀p∈l,zR t n p=0
 |[],_,_,h=>by cases h
 | q::r,h,p,hp=>by
  unfold pX at h;split at h;contradiction
  rename_i c
  rcases df.1 hp with rfl|hp
  simpa using c
  exact H_ h p hp
theorem cz{g:dF}(h:cD g=0):0<=g.aQ/\g.aQ<=30/\1<=g.bB/\g.bB<=20/\g.az.length<=40/\∀p∈g.az,p.2.length<=8/\0<=p.1/\p.1<g.bB/\∀x∈p.2,right g.aQ g.bB x=true:=by
 unfold cD at h;split at h;· simp at h
 split at h;· simp at h
 split at h;· simp at h
 split at h;· simp at h
 split at h;· simp at h
 exact⟨by omega,by omega,by omega,by omega,by omega,fun p hp=>Y5 (H_ h p hp)⟩
end aM
end Go.Proofs.YtdmgcnggnejnnaaGreat

/- Part 1 of what WholeTree needs: Kit, Law, Open, Mix, Eng, Step, Ops, Opm, Cls, Opx, MixV, MixW, Go3, Ty, OpenE, ClassL, ClassQ, ClassR, RexL, RexF, RexG, Read, Seq, ReadM, Room, Shp, Map, RexS, ClsEq, App, RexC, ClassB, ClsRg, KeyG, SmL, ClsHas, RexM, LookOk, RexE, RexPl, RexPr, MixX, RexSz, GramL, StrK, ClassO1, RexI, DfaL, DfaO. -/
import Derived.WalkKit
import Derived.WalkSpells
import Derived.WalkLawsBesides
import Derived.Deep.RegionLaw
import Derived.Deep.AppendLies
import Derived.Deep.QuietTactic
import Derived.BigQuiet
import Derived.Deep.DeepCutAuto
import Derived.Lib.Hide
import Derived.Test.YtahecdbmhhpanaaGreatRows
import Derived.ProofKit
import Derived.OpenShut
import Derived.ShutString
import Derived.SizedLaws
import Derived.JoinedCond
import Derived.Deep.CondSized
import Derived.Deep.Quiet
import Derived.StillTail
import Derived.Deep.LoopGhost
import Derived.Laws.BitsLemmas
import Derived.Laws.BytesString
import Derived.Laws.StructEq
import Derived.Test.YtahecdbmhhpanaaGreatProg
import Derived.Laws.Entries
import Derived.Laws.BitsAllLaws
import Derived.Lib.TrailingZeros
import Derived.Laws.MakeOwn
import Derived.Laws.AppendOwn
import Derived.Maps.OwnSet
import Derived.DeepKeys4
import Derived.WideKeyEntry
import Derived.ChangeKeysEq
import Derived.Laws.Bits64b
import Derived.Lib.Strings
import Derived.Lib.Slices
import Derived.Lib.Walk
import Derived.Lib.Bytealg
import Derived.StringKeys
namespace Go.Proofs.YtahecdbmhhpanaaGreat
set_option linter.unusedVariables false
set_option linter.unusedSimpArgs false
open _root_.And renaming intro->cP
open _root_.Array renaming getElem?_eq_some_iff->lL,getD_eq_getD_getElem?->x7,length_toList->uj,toList_setIfInBounds->JR,replicate->AW,toList_map->DV,range->DW,setIfInBounds_comm->Yx,toArray_toList->Yy,ext_getElem?->Yz
open _root_.BitVec renaming ofNat->iw,ofInt->x8,toNat_ofNat->YA
open _root_.Bool renaming true->aB,false->aE,and_eq_true->eE,or_eq_true->ko,not_eq_true'->PG,beq_eq_decide_eq->YB
open _root_.ByteArray renaming mk->JS,size->YC
open _root_.Classical renaming choose_spec->x9,choose->AX,byContradiction->agx
open _root_.False renaming elim->AY
open _root_.Go.Act renaming put_comm->AZ,put->qY,eval->JT
open _root_.Go.Addr renaming add->A0
open _root_.Go.Addr.mk renaming injEq->PH
open _root_.Go.BigFrame renaming execOp_builtin->qZ,builtin_append->DX,builtin_len->PI,wpList_want->YD
open _root_.Go.Builtin renaming append_->PJ,firstCells->YE,lenOf->YF,len_->YG
open _root_.Go.Calls renaming mono->YH
open _root_.Go.ChangeSpec renaming plain->agy
open _root_.Go.Code renaming region->YI
open _root_.Go.Conv renaming bytesToString->YJ
open _root_.Go.DataW renaming weightsEach->x_,weights->ya,weightsAll->DY,trod->A1,TrodAll->JU,trod_struct->YK,trod_slice->YL,Trod->YM
open _root_.Go.Deferred renaming ofValue->py
open _root_.Go.Exit renaming inBlock->uk
open _root_.Go.Instr renaming build->da,buildSlice->ul,fill->lO,sureAddr->yb,sliceBounds->DZ,sliceAt->D0,sliceBound->JV,mapUpdate->A2,slice->D4,storeAt->PL,fieldAt->YN,indexAt->YO,loadAt->YP,index->YQ
open _root_.Go.IntKind renaming i64->av,bits->me,signed->sx,wrap_u64->um,u64->uo,min->D5,max->D6
open _root_.Go.Lib renaming hid->D7
open _root_.Go.Maps renaming size->PM,has->PN
open _root_.Go.Maps.Keyed renaming of_law->agz
open _root_.Go.Next renaming value->YR
open _root_.Go.Op renaming shift->iM,equalIn->pz,intCmp->A3,intArith->PO,equal->JW,stringOp->YS
open _root_.Go.Oper renaming wp->gU,upon_enter->PP,upon->PQ,upon_value->YT
open _root_.Go.Program renaming keyLits->uq
open _root_.Go.Proofs.Tryz renaming prog->aC
open _root_.Go.Region renaming ready->jd,wanted->kM,noSelect->A4,Mode->ur,binds->A5,noSelect_spec->PR,free_spec->PT,chainB->PU,sinkB->PV,free->PW,seqB->PX
open _root_.Go.Result renaming andThen_ok->q6,andThen->mR,ok->PY
open _root_.Go.Sem renaming run_bind->oJ,run_pure->pA
open _root_.Go.Value renaming slice->ak,int->ap,pointer->aH,agg->aP,oneCell'->fV,bool->fW,ownBlock->JX,okWide->JY
open _root_.Go.Value.slice renaming injEq->kq
open _root_.Go.WideElems renaming Trod_stays->agA
open _root_.Go.World renaming block_lt_of_cell?->q7,cell?_setCell_other->YU,frozen?_setCell->YV,cell?_of_block->YW,ownsMap_made->YX
open _root_.Int renaming toNat_natCast->de
open _root_.List renaming getElem?_eq_getElem->bL,length_append->bT,getElem_mem->bX,getElem?_eq_some_iff->dK,drop_eq_getElem_cons->dL,length_cons->dj,replicate->c_,mem_cons->dw,size_toArray->eT,append_assoc->eu,length_map->dY,drop_of_length_le->ia,take_of_length_le->gD,mem_cons_self->gX,append_nil->fj,not_mem_nil->fC,map_cons->fm,range->d_,getElem?_set_ne->mS,nil_append->fD,getElem?_map->iN,getElem?_append_left->lP,mem_map->fE,mem_append->ib,eq_nil_of_length_eq_zero->mT,getElem?_set_self->sy,mem_of_getElem?->kr,mem_iff_getElem->ku,drop_drop->kw,length_take->jr,set_eq_take_append_cons_drop->D8,take_append_drop->oK,flatMap_cons->lQ,ext_getElem?->mf,nodup_cons->sA,getElem?_cons_zero->uv,getElem?_append_right->yc,mem_append_left->uw,filterMap->ux,mem_range->q8,all_eq_true->pB,any_eq_true->pC,getElem?_of_mem->yd,cons_append->mg,filterMap_cons_some->A6,set_cons_zero->ye,map_nil->mU,getElem?_concat_length->PZ,mem_map_of_mem->JZ,take_zero->D9,setIfInBounds_toArray->D_,length_erase_of_mem->P0,set_cons_succ->A7,length_pos_of_mem->P1,mem_erase_of_ne->P2,findIdx?_eq_some_iff_getElem->YY,zipIdx_cons->P3,map_toArray->P4,nodup_range->P5,take_left'->P6,drop_left'->P7,flatten_cons->Ea,getElem_ofFn->Eb,getElem_append_right->YZ,pairwise_iff_getElem->Y0,getElem_append_left->Y4,getElem?_cons_succ->Y5,getElem_cons_succ->Y6,map_map->P8,getElem?_append->Y7,set_append_left->Y8,take_succ_cons->Y9,idxOf_append->Y_,mapM_cons->Y',ofFn->Ec
open _root_.List.Pairwise renaming imp_of_mem->agB
open _root_.List.Perm renaming swap->agC
open _root_.List.cons renaming injEq->fL
open _root_.Nat renaming le_refl->aX,zero_le->bC,zero_add->cU,eq_of_beq_eq_true->mh,le_trans->eL,lt_of_lt_of_le->jt,blt->dx,le_of_ble_eq_true->nB,add_assoc->iO,beq->fM,add_mul->sB,mul_le_mul_right->yf,ne_of_beq_eq_false->J0,add_zero->mi,mul_one->lR,succ_mul->oL,one_mul->Ed,ble->yg,min_eq_left->P9,add_comm->A8,zero_mul->P_,div_lt_iff_lt_mul->Za,mod_lt->A9,mod_eq_of_lt->Zb,lt_or_ge->Zc
open _root_.Ne renaming symm->Qa
open _root_.Option renaming some->ah,none->aj
open _root_.Option.some renaming injEq->dM,inj->pD
open _root_.Prod renaming ext->pE
open _root_.Prod.mk renaming injEq->ju
open _root_.UInt8 renaming ofNat->fN
set_option maxHeartbeats 16000000
theorem I{α:Sort _}{a:α}:a=a:=rfl
theorem J{p:Prop}(h:p:=by omega):p:=h
theorem alt{p:Prop}(h:p:=by decide):p:=h
namespace cL
open Go.RowKit
section
end
theorem Zd{B:Nat}{w0 w w':World}(h:Below B w0 w)(hB:B<=w.heap.size)(hg:Below w.heap.size w w'):Below B w0 w':=h.trans (hg.mono hB)
def Ze(b:UInt8):Value:= .int .u8 b.toNat
def Rd(w:World)(g off:Nat)(xs:List Value):Prop:=∀j u,xs[j]?=ah u->w.cell? ⟨g,off+j,aj⟩=ah u
def Wr(w:World)(g off:Nat)(xs:List Value):Prop:=∀j u,xs[j]?=ah u->w.cell? ⟨g,off+j,aj⟩=ah u/\w.frozen? ⟨g,off+j,aj⟩=aE
theorem Wr.rd{w:World}{g off:Nat}{xs:List Value}(h:Wr w g off xs):Rd w g off xs:=λj u hj=>(h j u hj).1
theorem Rd.gr{w w':World}{g off:Nat}{xs:List Value}(h:Rd w g off xs)(hg:Below w.heap.size w w'):Rd w' g off xs:=λj u hj=>by
 have h1:=h j u hj;rw[hg.cell (q7 w _ h1)];exact h1
theorem Wr.gr{w w':World}{g off:Nat}{xs:List Value}(h:Wr w g off xs)(hg:Below w.heap.size w w'):Wr w' g off xs:=λj u hj=>by
 have h1:=h j u hj;rw[hg.cell (q7 w _ h1.1),hg.frozen (q7 w _ h1.1)];exact h1
theorem Rd.at{w:World}{g off:Nat}{xs:List Value}(h:Rd w g off xs)(j:Nat)(hj:j<xs.length):w.cell? ⟨g,off+j,aj⟩=ah xs[j]:=h j _ (bL hj)
theorem Wr.at{w:World}{g off:Nat}{xs:List Value}(h:Wr w g off xs)(j:Nat)(hj:j<xs.length):w.cell? ⟨g,off+j,aj⟩=ah xs[j]/\w.frozen? ⟨g,off+j,aj⟩=false:=h j _ (bL hj)
theorem Wr.set{w:World}{g off:Nat}{xs:List Value}(h:Wr w g off xs)(j:Nat)(hj:j<xs.length)(u:Value):Wr (w.setCell ⟨g,off+j,aj⟩ u) g off (xs.set j u):=λi v hi=>by
 have hlen:i<xs.length:=by grind
 refine⟨?_,by rw[YV];exact(h.at i hlen).2⟩
 by_cases e:i=j
 ·subst e
  rw[sy hj]at hi;rw[World.cell?_setCell_same _ _ _ (h.at i hj).1];exact hi
 rw[mS (Qa e)]at hi;have hne:(⟨g,off+j,aj⟩:Addr)≠⟨g,off+i,aj⟩:=λhe=>e (by simp_all);rw[YU _ _ _ _ hne];exact(h i v hi).1
theorem Wr.grown{w w':World}{g off:Nat}{xs:List Value}{row:Option Nat}(h:Wr w g off xs)(hg:w.grownBy w' row)(hne:row≠ah g):Wr w' g off xs:=λj u hj=>by
 have h1:=h j u hj;have hb:=q7 w _ h1.1;have e:=hg.block g hb (λh=>hne h.symm);rw[YW (w:=w) (a:=⟨g,off+j,aj⟩) e,World.frozen?_of_block (w:=w) (a:=⟨g,off+j,aj⟩) e];exact h1
theorem Wr.far{w:World}{g off:Nat}{xs:List Value}(h:Wr w g off xs){a:Addr}(ha:a.block≠g)(u:Value):Wr (w.setCell a u) g off xs:=λj v hj=>by
 have h1:=h j v hj;rw[YV,YU _ _ _ _ (λe=>ha (by rw[e]))];exact h1
theorem af0(z:Value)(n:Nat):(madeCells #[z] n).toList=c_ n z:=by
 apply mf;intro i
 by_cases h:i<n
 simp[madeCells,h,Nat.mod_one];simp[madeCells,h]
theorem adN(W:World)(o:Obj)(n:Nat)(h:W.heap.size=n):(W.alloc o).heap[n]?=ah o:=h▸heap_alloc_new W o
theorem Wr.append{w w':World}{g off:Nat}{xs:List Value}(h:Wr w g off xs){base:Nat}{e:TypeId}{size:Nat}{v:Value}{n:Nat}{ys:List Value}(yh:w.ownsRow base e size v n ys)(hg:w.grownBy w' v.ownBlock)(hb:g<base):Wr w' g off xs:=
 h.grown hg λe=>by have:=(yh.lt g e).1;omega
theorem Wr.nil(w:World)(g off:Nat):Wr w g off []:=λj u h=>by grind
theorem agD{w:World}{base:Nat}{e:TypeId}{size:Nat}{g n cap:Nat}{xs:List Value}(h:w.ownsRow base e size (ak (ah ⟨g,0,aj⟩) n cap) n xs):Wr w g 0 xs:=λj u hj=>by
 have hl:j<n*size:=by rw[<-h.1];exact(dK.1 hj).1
 rw[cU];exact⟨(h.cellAt j hl).trans hj,h.frozenAt j⟩
theorem Mj{P:Program}{src dst e:TypeId}(hs:P.underlying src=ah (.slice e))(he:P.underlying e=ah (.int .u8))(hd:P.underlying dst=ah .string){w:World}{g off n cap:Nat}{l:List UInt8}
 (hn:n=l.length) (h:Rd w g off (l.map Ze)):(convert src dst (ak (ah ⟨g,off,aj⟩) n cap)).run P w= .ok (.string ⟨l.toArray⟩) w:=by
 subst hn;refine run_convert_bytes_back w src dst e ⟨g,off,aj⟩ cap l hs he hd λj hj=>?_;have:=h.at j (by simp_all);rw[show(⟨g,off,aj⟩:Addr).add j=⟨g,off+j,aj⟩by unfold A0;split<;>simp_all,this];simp[Ze]
end cL
namespace law
open Go.ChangeShapes Go.WideShapes Go.ChangeAt Go.RowKit
theorem own:ownKnob aC.godebug=none:=by kernel_rfl
theorem laidOut:laidOutB aC=true:=by kernel_rfl
structure aiw{H:Type}(enc:TypeId×Value->H)(fn:Func)(W:World)(base:Nat)(args:Array Value)(ds:List (DataW H))(p:List MemPlace):Prop where
 val:∀(j:Nat) t v,fn.params[j]?=ah t->args[j]?=ah v->JY aC W .any base t v
 trod:JU enc aC W 0 (λ_=>aB) aB fn.params.toList args.toList ds p
 sized:(x_ aC fn.params.toList ds).all (· <=reachBytes)=aB
 free:W.noneFrozen p
noncomputable def af1(fn:Func):Bool:=fn.params.toList.all λt=>aC.readableRec t&&decide (t<aC.types.size)
section
variable{H:Type}{enc:TypeId×Value->H}
theorem xC{P:Program}(hl:laidOutB P=aB){W W':World}{sp':Nat->Bool}:∀{ts:List TypeId} {vs:List Value} {ds:List (DataW H)} {ps:List MemPlace},(ts.all λt=>P.readableRec t&&decide (t<P.types.size))=aB->
 JU enc P W 0 (λ_=>aB) aB ts vs ds ps->(∀p∈ps,W.sameAt W' p)->(∀p∈ps,sp' p.block=aB)->JU enc P W' 0 sp' aB ts vs ds ps
 |[],[],[],_,_,h,_,_=>h
 | t ::ts,v::vs,d::ds,_,hb,⟨p,q,h1,h2,e⟩,h3,h4=>by
  simp only[List.all_cons,eE,decide_eq_true_eq]at hb;subst e;exact⟨p,q,agA hl hb.1.1 hb.1.2 h1 (λx hx=>h3 x (by simp[hx])) (λx hx=>h4 x (by simp[hx])),
   xC hl hb.2 h2 (λx hx=>h3 x (by simp[hx])) (λx hx=>h4 x (by simp[hx])),rfl⟩
 |[],_::_,_,_,_,h,_,_=>h.elim
 |[],[],_::_,_,_,h,_,_=>h.elim
 |_::_,[],_,_,_,h,_,_=>h.elim
 |_::_,_::_,[],_,_,h,_,_=>h.elim
theorem uy{P:Program}{W:World}{sp:Nat->Bool}:∀{ts:List TypeId} {vs:List Value} {ds:List (DataW H)} {ps:List MemPlace},JU enc P W 0 sp aB ts vs ds ps->ds.length=ts.length
 |[],[],[],_,_=>rfl
 |_::ts,_::vs,_::ds,_,⟨_,_,_,h2,_⟩=>by simp[uy h2]
 |[],_::_,_,_,h=>h.elim
 |[],[],_::_,_,h=>h.elim
 |_::_,[],_,_,h=>h.elim
 |_::_,_::_,[],_,h=>h.elim
def Ml(fn:Func)(s:ChangeSpec):Prop:=s.vars=[]/\∀(H:Type) (ds:List (DataW H)),ds.length=fn.params.size->s.fn H ds={results:=[.lit (.bool aB)],args:=ds}
theorem adO{fn:Func}{s:ChangeSpec}{W W':World}{args:Array Value}{ds gs:List (DataW H)}{before:List MemPlace}(hs:Ml fn s)(Ee:af1 fn=aB)(mV:fn.resultTypes=#[4])
 (hW:DataW.Whole enc aC fn.params.toList s.vars aE W args.toList ds gs before) (hb:Below W.heap.size W W'):
 s.post enc aC fn aE aB aE aE W args (.bool aB) W':=by
 obtain⟨hv,hfn⟩:=hs;have hW':=hW;obtain⟨p,q,hA,hV,rfl,hfz,Qb⟩:=hW;rw[hv]at hV;obtain⟨rfl,rfl⟩:=trodVars_none hV;have hlen:ds.length=fn.params.size:=by rw[uy hA];simp
 have hlt:∀x∈p,x.block<W.heap.size:=λx hx=>hW'.lt x (by simp[hx]);have he:s.fn H (ds++[])={results:=[.lit (.bool aB)],args:=ds}:=by rw[fj];exact hfn H ds hlen
 refine⟨ds,[],p++[],[],p,[],hW',?_,?_,?_,hb.frame _,λh=>by cases h⟩
 ·rw[he,mV]
  exact trodAll_mk1 (shut_bool Tryz.underlying4 aB)
 ·rw[he]
  exact xC laidOut Ee hA (λx hx=>hb.same (hlt x hx)) (λx hx=>by simpa using hlt x hx)
 ·rw[he,hv]
  rfl
end
set_option maxRecDepth 100000 in
theorem said{os:Os}{f:FuncId}{fn:Func}{s:ChangeSpec}(started:os.Started)(agE:aC.inits.idxOf? f=aj)(hf:aC.funcs[f]?=ah fn)(hs:Ml fn s)(Ee:af1 fn=aB)(mV:fn.resultTypes=#[4])
  {H:Type} {enc:TypeId×Value->H}
  (witness:∃(w:World) (tape:Tape) (i:Input),w.os=os/\(w.forCall tape i).Shaped Tryz.checked.prog/\i.vars=[]/\Input.okWide Tryz.checked.prog (w.forCall tape i) .any w.heap.size f i/\
   s.pre6 enc Tryz.checked.prog fn [] aE (w.forCall tape i).memory i.args/\({}:Assume).holds Tryz.checked.prog (lone (Frame.enter Tryz.checked.prog f i.args .normal) [] (w.forCall tape i)))
  (walk:∀(W:World) (base:Nat) (args:Array Value) (ds:List (DataW H)) (p:List MemPlace),aiw enc fn W base args ds p->Calls aC f args W λe W'=>e= .returned (.bool aB)/\Below W.heap.size W W'):
  ReturnsInHanded {} Tryz.checked os f .any (s.pre6 enc aC fn [] aE) (s.post enc aC fn aE aB aE aE):=by
 refine returnsInHanded_of_change_sized (C:=Tryz.checked) own started agE hf witness ?_;intro W base args ds gs before hval hW _ hsz _;have hW':=hW;obtain⟨p,q,hA,hV,rfl,hfz,Qb⟩:=hW;rw[hs.1]at hV;obtain⟨rfl,rfl⟩:=trodVars_none hV;have akk:(x_ aC fn.params.toList ds).all (· <=reachBytes)=true:=by
  have e:s.plain.varTypes aC=[]:=by simp[agy,DataSpec.varTypes,hs.1]
  have:=hsz;rw[show s.plain.varTypes Tryz.checked.prog=[]from e]at this;rw[fj,fj]at this;exact this
 refine(walk W base args ds p ⟨hval,hA,akk,λb off h=>hfz b off (by simp[h])⟩).mono λe W' ⟨he,hb⟩=>?_;exact⟨_,he,adO hs Ee mV hW' hb⟩
end law
namespace cL
open Go.ChangeShapes Go.WideShapes Go.ChangeAt Go.RowKit
def Sl(w:World)(v:Value)(n:Nat)(xs:List Value):Prop:=
 ∃base cap,v=ak base n cap/\n<=cap/\cap<=maxLen/\(0<n->∃b off,base=ah ⟨b,off,aj⟩/\Rd w b off xs)
theorem Sl.gr{w w':World}{v:Value}{n:Nat}{xs:List Value}(h:Sl w v n xs)(hg:Below w.heap.size w w'):Sl w' v n xs:=
 let ⟨base,cap,h1,h2,h3,h4⟩:=h
 ⟨base,cap,h1,h2,h3,λhn=>let ⟨b,off,h5,h6⟩:=h4 hn;⟨b,off,h5,h6.gr hg⟩⟩
theorem Sl.dF{w:World}{base:Nat}{e:TypeId}{size:Nat}{v:Value}{n:Nat}{xs:List Value}(h:w.ownsRow base e size v n xs):Sl w v n xs:=by
 rcases h.2 with⟨rfl,rfl⟩|⟨g,cap,oM,rfl,hb,hg,hn,hm,r⟩
 exact⟨aj,0,rfl,aX _,by decide,λh=>by omega⟩;exact⟨_,cap,rfl,hn,hm,λ_=>⟨g,0,rfl,(agD h).rd⟩⟩
theorem mapM_some{α β:Type}{f:α->Option β}:∀{l:List α} {r:List β},l.mapM f=ah r->r.length=l.length/\∀(i:Nat) (a:α),l[i]?=ah a->∃b,f a=ah b/\r[i]?=ah b
 | [],r,h=>by
  simp_all
 | x ::l,r,h=>by
  rw[Y']at h
  cases hx:f x with
  |none=>simp_all
  | some y=>
   rw[hx]at h
   cases hr:l.mapM f with
   |none=>simp_all
   | some r'=>
    rw[hr]at h;simp at h;subst h;obtain⟨h1,h2⟩:=mapM_some hr;refine⟨by simp[h1],λi a hi=>?_⟩
    cases i with
    |zero=>simp at hi;subst hi;exact⟨y,hx,rfl⟩
    |succ i=>simp at hi;simpa using h2 i a hi
theorem kN{w:World}{a:Addr}{n:Nat}{cs:List Value}(h:w.cells? 0 a n=ah cs):cs.length=n/\∀j,j<n->w.cell? (a.add j)=cs[j]?:=by
 unfold World.cells? at h;rw[if_pos (bC _)]at h;obtain⟨h1,h2⟩:=mapM_some h;rw[List.length_range]at h1;refine⟨h1,λj hj=>?_⟩;obtain⟨b,hb,hc⟩:=h2 j j (by grind);rw[hb,hc]
theorem ii(b off j:Nat):(⟨b,off,aj⟩:Addr).add j=⟨b,off+j,aj⟩:=by simp[A0]
theorem H2{w:World}{a:Addr}{v:Value}(h:w.cell? a=ah v):a.spot=none:=by
 unfold World.cell? at h;split at h
 simp_all
 cases h
theorem Ca{α:Type}{enc:α->List Value}{c:Nat}(hlen:∀a,(enc a).length=c):∀(l:List α) (i j:Nat) (a:α),l[i]?=ah a->j<c->(l.flatMap enc)[i*c+j]?=(enc a)[j]?
 |[],i,j,a,h,_=>by grind
 |x::l,0,j,a,h,hj=>by
  grind
 |x::l,i+1,j,a,h,hj=>by
  have ih:=Ca hlen l i j a (by simp_all) hj;rw[lQ,yc (by rw[hlen,sB];omega),hlen,show(i+1)*c+j-c=i*c+j by rw[sB];omega];exact ih
theorem Mm{α:Type}{enc:α->List Value}{c:Nat}(hlen:∀a,(enc a).length=c)(l:List α):(l.flatMap enc).length=l.length*c:=by
 induction l with
 |nil=>simp
 |cons x l ih=>grind
section
variable{H:Type}{enc0:TypeId×Value->H}{P:Program}{W:World}
theorem Df{α:Type}{p:Nat->α->Prop}:∀(n:Nat),(∀i,i<n->∃a,p i a)->∃l:List α,l.length=n/\∀(i:Nat) (a:α),l[i]?=ah a->p i a
 |0,_=>⟨[],rfl,λi a h=>by grind⟩
 | n+1,h=>by
  obtain⟨l,hl,hp⟩:=Df n λi hi=>h i J;obtain⟨a,ha⟩:=h n J;refine⟨l++[a],by grind,λi b hb=>?_⟩
  grind
end
def H3(b:Bool):List Value:=[.bool b]
def eP(n:Int):List Value:=[ap av n]
theorem af2{α:Type}{f:α->Value}(l:List α):l.flatMap (λa=>[f a])=l.map f:=by
 induction l with
 |nil=>rfl
 |cons x l ih=>simp_all
def dv(n:Int):Prop:= -9223372036854775808<=n/\n<=9223372036854775807
end cL
namespace dV
open Go.RowKit
abbrev Gr(w w':World):Prop:=Below w.heap.size w w'
theorem Gr.refl(w:World):Gr w w:=Below.refl _ _
theorem Gr.trans{a b c:World}(h:Gr a b)(k:Gr b c):Gr a c:=Below.trans h (k.mono h.size)
theorem Gr.drew(w:World):Gr w w.drew:=(Below.refl _ _).drew
def Up(w w':World):Prop:=Gr w w'
def jv(S:World->Prop):Prop:=∀w w',S w->Gr w w'->S w'
theorem VI(w:World):jv (Up w):=λ_ _ h k=>Gr.trans h k
section
variable{P:Program}{ops:Array Oper}{md:ur}{Q:Exit->Act->World->Prop}
def Ef(P:Program)(w:World)(v:Value):Result Next->Prop
 | .ok (.value u) w'=>u=v/\Gr w w'
 | .ok .skip w'=>v=undef/\Gr w w'
 | .ok (.enter f args) w'=>Gr w w'/\Calls P f args w' (λe Pz=>e= .returned v/\Gr w' Pz)
 |_=>False
def pF(P:Program)(o:Oper)(a:Act)(w:World)(v:Value):Prop:=Ef P w v ((execOp a.eval o).run P w)
def jK(P:Program)(ops:Array Oper)(S:World->Prop)(o:Oper)(v:Value)(a:Act):Prop:=
 (kM o (yielded ops a.tmps)=aB/\∀w,S w->pF P o a w v)\/(kM o (yielded ops a.tmps)=aE/\v=undef)
theorem jK.mono{S S':World->Prop}{o:Oper}{v:Value}{a:Act}(hs:∀w,S' w->S w)(h:jK P ops S o v a):jK P ops S' o v a:=
 h.imp (λ⟨h1,h2⟩=>⟨h1,λw hw=>h2 w (hs w hw)⟩) id
theorem jK.of_same{S:World->Prop}{o:Oper}{v:Value}{a a':Act}(hy:jK P ops S o v a)(he:execOp a'.eval o=execOp a.eval o)
 (hw:kM o (yielded ops a'.tmps)=kM o (yielded ops a.tmps)):jK P ops S o v a':=by
 simp_all[jK,pF]
theorem jK.wpOp{S:World->Prop}{i:Nat}{o:Oper}{v:Value}{a:Act}(hi:ops[i]?=ah o)(hy:jK P ops S o v a)(lI:jv S)
 {K:Act->World->Prop} {w:World} (hS:S w) (h:∀w',S w'->K (a.put o.dst v) w'):wpOp P ops Q i K a w:=by
 unfold Go.wpOp;simp only[hi];rcases hy with⟨hw,hv⟩|⟨hw,rfl⟩
 ·simp only[hw,if_true]
  refine .inl ?_;have h1:=hv w hS;unfold pF at h1;unfold gU;generalize (execOp a.eval o).run P w=r at*
  cases r with
  | ok n w'=>
   cases n<;>simp only[Ef]at h1<;>simp only[PQ]
   case value u=>rw[h1.1];exact h _ (lI _ _ hS h1.2)
   case skip=>rw[<-h1.1];exact h _ (lI _ _ hS h1.2)
   case enter f args=>
    refine h1.2.mono λe Pz ⟨he,hg⟩=>?_;subst he;exact h _ (lI _ _ (lI _ _ hS h1.1) hg)
  |halt x w'=>simp_all[Ef]
 simp_all
theorem H4{S:World->Prop}{j:Nat}{oi oj:Oper}{v:Value}(hj:ops[j]?=ah oj)(hap:oi.apart ops oj=aB)
 (hsi:∀cs b,oi.op≠ .select cs b) (hsj:∀cs b,oj.op≠ .select cs b)
 (hQ:∀c a w,Q (.panic c) (a.put oi.dst v) w->Q (.panic c) a w) {K:Act->World->Prop} {a:Act} {w:World}
 (hy:jK P ops S oi v a) (h:wpOp P ops Q j K (a.put oi.dst v) w):
 wpOp P ops Q j (λa' w'=>jK P ops S oi v a'/\K (a'.put oi.dst v) w') a w:=by
 obtain⟨h1,h2,h3⟩:=Oper.apart_spec hap;have keep:∀(a:Act),jK P ops S oi v a->∀u,jK P ops S oi v (a.put oj.dst u):=λa hy u=>
  hy.of_same (execOp_put oi hsi a oj.dst u h3) (wanted_put oi a oj.dst u h3)
 have alj:∀d,jK P ops S oi v {a with defers:=d::a.defers}:=λd=>hy.of_same I I;unfold wpOp at*;simp only[hj]at*;rw[wanted_put oj a oi.dst v h1]at h;split
 ·rename_i hw
  simp only[hw,if_true]at h;rcases h with h|⟨af3,aix⟩
  case inr=>exact .inr ⟨by unfold Oper.asks at*;rw[execOp_put oj hsj a oi.dst v h1]at af3;exact af3,aix⟩
  refine .inl ?_;unfold gU at*;rw[execOp_put oj hsj a oi.dst v h1]at h;generalize (execOp a.eval oj).run P w=r at*
  cases r with
  | ok n w'=>
   cases n<;>simp only[PQ]at h⊢
   grind[AZ]
   grind[AZ]
   case defer d=>
    grind[AZ,Act.put_defers]
   grind[YH,AZ]
   grind[AZ]
  | halt x w'=>
   cases x<;>simp_all[PQ]
 grind[AZ]
def A_(P:Program)(md:ur)(ops:Array Oper)(Q:Exit->Act->World->Prop)(n:Nat)(L:Array Bool->Act->World->Prop):Nat->Array Bool->Act->(World->Prop)->Prop
 |0,listed,a,S=>∀w,S w->L listed a w
 | f+1,listed,a,S=>jd md ops listed≠[]/\
  ∀i∈jd md ops listed,i<n/\∀w,S w->wpOp P ops Q i (λa' w'=>∃S',jv S'/\(∀x,S' x->S x)/\S' w'/\A_ P md ops Q n L f (listed.setIfInBounds i aB) a' S') a w
theorem Eg{n g:Nat}{L:Array Bool->Act->World->Prop}(hL:∀listed a w,L listed a w->wpAny P md ops Q g listed a w):
 ∀(f:Nat) (listed:Array Bool) (a:Act) (S:World->Prop) (w:World),S w->A_ P md ops Q n L f listed a S->wpAny P md ops Q (f+g) listed a w
 |0,listed,a,S,w,hw,h=>by rw[cU];exact hL _ _ _ (h w hw)
 |f+1,listed,a,S,w,hw,h=>by
  rw[show f+1+g=(f+g)+1 by omega];exact⟨λh0=>absurd h0 h.1,λi hi=>wpOp_mono (λa' w' ⟨S',_,_,uf,h'⟩=>Eg hL f _ a' S' w' uf h') ((h.2 i hi).2 w hw)⟩
theorem J1{n i:Nat}{oi:Oper}{v:Value}{L:Array Bool->Act->World->Prop}(hi:ops[i]?=ah oi)(mJ:∀(j:Nat) (o:Oper) cs b,ops[j]?=ah o->o.op≠ .select cs b)
 (hs:PV md ops n=aB) (hc:PU md ops n=aB) (hn:n<ops.size) (J2:i<n)
 (hQ:∀c a w,Q (.panic c) (a.put oi.dst v) w->Q (.panic c) a w)
 (hdone:∀listed a w,L listed a w->∀j∈jd md ops listed,n<=j):
 ∀ (f:Nat) (listed:Array Bool) (a:Act) (S:World->Prop),jv S->HeadInv md ops n listed->
  (∀j oj,ops[j]?=ah oj->j≠i->listed.getD j aB=aE->(∀e∈oj.after,A5 md e=aB->e.on≠i)->oi.apart ops oj=aB)->
  i∈jd md ops listed->jK P ops S oi v a->
  A_ P md ops Q n L f (listed.setIfInBounds i aB) (a.put oi.dst v) S->A_ P md ops Q n L (f+1) listed a S:=by
 intro f
 induction f with
 | zero=>
  intro listed a S lI inv _ hr hy H;have hun:=(mem_ready.1 hr).1;refine⟨λh=>(by simp_all),λj hj=>?_⟩;have hjn:j<n:=by
   rcases Zc j n with h|h
   exact h;exact absurd hj (tail_waits hs hc hn inv _ i I J2 hun j h)
  refine⟨hjn,λw hw=>?_⟩
  by_cases L_:j=i
  subst L_;exact hy.wpOp hi lI hw λw' uf=>⟨S,lI,λ_ h=>h,uf,H⟩;have:=hdone _ _ _ (H w hw) j (ready_mono hj L_);omega
 | succ f ih=>
  intro listed a S lI inv H5 hr hy H;have hun:=(mem_ready.1 hr).1;refine⟨λh=>(by simp_all),λj hj=>?_⟩;have hjn:j<n:=by
   rcases Zc j n with h|h
   exact h;exact absurd hj (tail_waits hs hc hn inv _ i I J2 hun j h)
  refine⟨hjn,λw hw=>?_⟩
  by_cases L_:j=i
  subst L_;exact hy.wpOp hi lI hw λw' uf=>⟨S,lI,λ_ h=>h,uf,H⟩;have h1:=(H.2 j (ready_mono hj L_)).2 w hw;obtain⟨agF,oj,TB,q9⟩:=mem_ready.1 hj;have adP:∀e∈oj.after,A5 md e=aB->e.on≠i:=λe he hb J3=>by
   grind
  have h2:=H4 TB (H5 j oj TB L_ agF adP) (λcs b=>mJ i oi cs b hi) (λcs b=>mJ j oj cs b TB) hQ hy h1;have Qc:∀k ok,ops[k]?=ah ok->k≠i->(listed.setIfInBounds j aB).getD k aB=aE->
   (∀e∈ok.after,A5 md e=aB->e.on≠i)->oi.apart ops ok=true:=λk ok hk hki hun hno=>by
   refine H5 k ok hk hki ?_ hno
   by_cases hjk:j=k
   simp_all
   simp_all
  refine wpOp_mono (λa' w' h3=>?_) h2;obtain⟨h3,S',nl,kK,uf,h4⟩:=h3;refine⟨S',nl,kK,uf,ih (listed.setIfInBounds j aB) a' S' nl (inv.set hj hjn) Qc (ready_mono hr (Qa L_)) (h3.mono kK) ?_⟩;rw[Yx _ _ L_];exact h4
def VJ(P:Program)(ops:Array Oper)(Q:Exit->Act->World->Prop)(L:Act->World->Prop):List Bool->List Oper->Act->(World->Prop)->Prop
 |true::ks,o::rest,a,S=>∃v,(if kM o (yielded ops a.tmps)then ∀w,S w->pF P o a w v else v=undef)/\VJ P ops Q L ks rest (a.put o.dst v) S
 | false::ks,o::rest,a,S=>∀w,S w->if kM o (yielded ops a.tmps)then
  o.wp P a w (λa' w'=>∃S',jv S'/\(∀x,S' x->S x)/\S' w'/\VJ P ops Q L ks rest a' S') Q
  else VJ P ops Q L ks rest (a.put o.dst undef) S
 |_,_,a,S=>∀w,S w->L a w
def yi(md:ur)(ops:Array Oper)(g:Nat):List Bool->Nat->Array Bool->Bool
 |true::ks,k,listed=>(jd md ops listed).contains k&&PW md ops listed k&&yi md ops g ks (k+1) (listed.setIfInBounds k aB)
 |false::ks,k,listed=>decide (jd md ops listed=[k])&&yi md ops g ks (k+1) (listed.setIfInBounds k aB)
 |[],k,listed=>PX md ops g k listed
def adQ(md:ur)(ops:Array Oper)(ks:List Bool):Bool:=
 A4 ops&&decide (ks.length<ops.size)&&PV md ops ks.length&&PU md ops ks.length&&yi md ops (ops.size-ks.length) ks 0 (AW ops.size aE)
theorem yj{n g:Nat}{Lq:Act->World->Prop}(mJ:A4 ops=aB)(hs:PV md ops n=aB)(hc:PU md ops n=aB)(hn:n<ops.size)
 (hQ:∀c a d v w,Q (.panic c) (a.put d v) w->Q (.panic c) a w):
 ∀(ks:List Bool) (l:List Oper) (k:Nat) (listed:Array Bool) (a:Act) (S:World->Prop),jv S->l.length=ks.length->(∀j,j<l.length->l[j]?=ops[k+j]?)->k+l.length=n->HeadInv md ops n listed->
 yi md ops g ks k listed=aB->VJ P ops Q Lq ks l a S->
 A_ P md ops Q n (λDg a' w'=>PX md ops g n Dg=aB/\Lq a' w') ks.length listed a S
 |[],[],k,listed,a,S,_,_,_,hk,_,hB,h=>by
  have:k=n:=by omega
  subst this;exact λw hw=>⟨by simp_all[yi],h w hw⟩
 |[],_::_,_,_,_,_,_,hlen,_,_,_,_,_=>by simp_all
 |_::_,[],_,_,_,_,_,hlen,_,_,_,_,_=>by simp_all
 | true::ks,o::l,k,listed,a,S,lI,hlen,hl,hk,inv,hB,h=>by
  have h0:ops[k]?=ah o:=by simpa using(hl 0 (by simp)).symm
  simp only[yi,eE]at hB;obtain⟨⟨hr,hf⟩,hB'⟩:=hB;have hkn:k<n:=by grind
  have uz:k∈jd md ops listed:=by simp_all
  obtain⟨v,hy,hK⟩:=h;have hy':jK P ops S o v a:=by
   by_cases hw:kM o (yielded ops a.tmps)=aB
   rw[if_pos hw]at hy;exact .inl ⟨hw,hy⟩;rw[if_neg hw]at hy;exact .inr ⟨by simp_all,hy⟩
  exact J1 h0 (PR mJ) hs hc hn hkn (λc a w=>hQ c a o.dst v w) (λDg a' w' hL=>seqB_ready hL.1) ks.length listed a S lI inv (PT h0 hf) uz hy'
   (yj mJ hs hc hn hQ ks l (k+1) _ _ S lI (by simp_all) (λj hj=>by have:=hl (j+1) (by grind);simpa[iO,A8 1 j]using this) (by grind) (inv.set uz hkn) hB' hK)
 | false::ks,o::l,k,listed,a,S,lI,hlen,hl,hk,inv,hB,h=>by
  have h0:ops[k]?=ah o:=by simpa using(hl 0 (by simp)).symm
  simp only[yi,eE,decide_eq_true_eq]at hB;obtain⟨hr,hB'⟩:=hB;have hkn:k<n:=by grind
  have uz:k∈jd md ops listed:=by grind
  have next:∀a' S',jv S'->VJ P ops Q Lq ks l a' S'->A_ P md ops Q n (λDg a' w'=>PX md ops g n Dg=aB/\Lq a' w') ks.length (listed.setIfInBounds k aB) a' S':=λa' S' nl hK=>
   yj mJ hs hc hn hQ ks l (k+1) _ _ S' nl (by simp_all) (λj hj=>by have:=hl (j+1) (by grind);simpa[iO,A8 1 j]using this) (by grind) (inv.set uz hkn) hB' hK
  refine⟨by simp_all,λi hi=>?_⟩;obtain rfl:i=k:=by simp_all
  refine⟨hkn,λw hw=>?_⟩;have h1:=h w hw;unfold wpOp;simp only[h0];split
  ·rename_i hwt
   rw[if_pos hwt]at h1;exact .inl (Oper.wp_mono (λa' w' ⟨S',nl,kK,uf,hK⟩=>⟨S',nl,kK,uf,next _ _ nl hK⟩) h1)
  grind
theorem Hp{id:Nat}{a:Act}{w:World}{l:List Oper}(ks:List Bool)(hm:P.follows .mixedOrders=aB)(hB:adQ .any l.toArray ks=aB)
 (hQ:∀c a d v w,Q (.panic c) (a.put d v) w->Q (.panic c) a w) (S:World->Prop) (lI:jv S) (hS:S w.drew)
 (h:VJ P l.toArray Q (λa' w'=>wpList P l.toArray Q (l.drop ks.length) a' w') ks (l.take ks.length) a S):(YI id l.toArray aB).wp P Q a w:=by
 simp only[adQ,eE,decide_eq_true_eq]at hB;obtain⟨⟨⟨⟨mJ,hn⟩,hs⟩,hc⟩,Qd⟩:=hB;have hn':ks.length<l.length:=by omega
 have htl:(l.take ks.length).length=ks.length:=by grind
 have hdl:(l.drop ks.length).length=l.toArray.size-ks.length:=by simp
 have agG:HeadInv .any l.toArray ks.length (AW l.toArray.size aE):=
  ⟨by simp,λj oj _ hl=>(by grind[getD_replicate_false]),λt _ ht=>getD_in (by simp_all) (getD_replicate_false _ _)⟩
 have H:=yj (md:= .any) (g:=l.toArray.size-ks.length) mJ hs hc hn hQ ks (l.take ks.length) 0 _ a S lI htl (λj hj=>by
  simp_all) J agG Qd h
 refine wp_region_any hm ?_;have:=Eg (Q:=Q) (g:=l.toArray.size-ks.length) (λlisted a' w' hL=>by
  grind[wpAny_of_seq]) _ _ _ S w.drew hS H
 rw[show ks.length+(l.toArray.size-ks.length)=l.toArray.size by omega]at this;exact this
theorem dV{id:Nat}{a:Act}{w:World}{l:List Oper}(n:Nat)(ks:List Bool)(hn:ks.length=n)(hm:P.follows .mixedOrders=aB)(hB:adQ .any l.toArray ks=aB)
 (hQ:∀c a d v w,Q (.panic c) (a.put d v) w->Q (.panic c) a w) (S:World->Prop) (lI:jv S) (hS:S w.drew)
 (h:VJ P l.toArray Q (λa' w'=>wpList P l.toArray Q (l.drop n) a' w') ks (l.take n) a S):(YI id l.toArray aB).wp P Q a w:=by
 grind[Hp]
section
variable{L:Act->World->Prop}{ks:List Bool}{o:Oper}{rest:List Oper}{a:Act}{S:World->Prop}
theorem TC{u:Value}(hw:kM o (yielded ops a.tmps)=aB)(h:∀w,S w->(execOp a.eval o).run P w= .ok (.value u) w)(hk:VJ P ops Q L ks rest (a.put o.dst u) S):
 VJ P ops Q L (true::ks) (o::rest) a S:=
 ⟨u,by rw[if_pos hw];intro w hS;unfold pF;rw[h w hS];exact⟨rfl,Gr.refl _⟩,hk⟩
theorem Zf(hw:kM o (yielded ops a.tmps)=aE)(hk:VJ P ops Q L ks rest (a.put o.dst undef) S):
 VJ P ops Q L (true::ks) (o::rest) a S:=
 ⟨undef,by simp_all,hk⟩
theorem TE{l:List Oper}(h:∀w,S w->L a w):VJ P ops Q L [] l a S:=h
end
end
end dV
namespace cB
open Go.RowKit cL dV
abbrev Fr:=List (Nat×Value)
def look:Fr->Nat->Option Value
 |[],_=>aj
 |(k,v)::r,i=>bif fM k i then ah v else look r i
structure mK(n:Nat)(a:Act)(fr:Fr):Prop where
 size:a.tmps.size=n
 defers:a.defers=[]
 get:∀i v,look fr i=ah v->a.tmps[i]?=ah v
theorem mK.put{n:Nat}{a:Act}{fr:Fr}(h:mK n a fr){d:Nat}(hd:dx d n=aB)(v:Value):mK n (a.put (ah d) v) ((d,v)::fr):=by
 have PA:d<n:=nB hd;refine⟨by simp[qY,h.size],h.defers,λi u hi=>?_⟩;unfold look at hi;simp only[qY]
 cases e:fM d i
 ·rw[e]at hi
  rw[Array.getElem?_setIfInBounds_ne (J0 e)];exact h.get i u hi
 rw[e]at hi;obtain rfl:d=i:=mh e;simp only[cond_true,dM]at hi;subst hi;rw[Array.getElem?_setIfInBounds_self_of_lt (by rw[h.size];exact PA)]
theorem mK.rH{n:Nat}{a:Act}{fr:Fr}(h:mK n a fr)(v:Value):mK n (a.put aj v) fr:=h
def J4:Fr->Fr->Prop
 |[],_=>True
 |(i,v)::r,fr=>look fr i=ah v/\J4 r fr
theorem Zg{Hk fr:Fr}(h:J4 Hk fr){i:Nat}{v:Value}(hl:look Hk i=ah v):look fr i=ah v:=by
 induction Hk with
 |nil=>cases hl
 |cons x r ih=>
  obtain⟨k,u⟩:=x;unfold look at hl
  cases e:fM k i
  rw[e]at hl;exact ih h.2 hl;rw[e]at hl;obtain rfl:k=i:=mh e;simp only[cond_true,dM]at hl;subst hl;exact h.1
theorem mK.sub{n:Nat}{a:Act}{fr Hk:Fr}(h:mK n a fr)(hs:J4 Hk fr):mK n a Hk:=⟨h.size,h.defers,λi v hl=>h.get i v (Zg hs hl)⟩
def ev(fr:Fr):Operand->Option Value
 | .tmp t=>look fr t
 | .const v=>ah v
 | .global g=>ah (aH (ah ⟨g,0,aj⟩))
 | .func f=>ah (.func (.func f) #[] #[])
theorem mK.ev{n:Nat}{a:Act}{fr:Fr}(h:mK n a fr){x:Operand}{v:Value}(hx:ev fr x=ah v):a.eval x=v:=by
 cases x with
 |tmp t=>simp[JT,x7,h.get t v hx]
 |const u=>simp_all[cB.ev,JT]
 |global g=>simp_all[cB.ev,JT]
 |func f=>simp_all[cB.ev,JT]
theorem mK.yield{n:Nat}{a:Act}{fr:Fr}(h:mK n a fr){ops:Array Oper}{j d:Nat}{v:Value}(hj:(ops[j]?).bind (·.dst)=ah d)(hl:look fr d=ah v):
 yielded ops a.tmps j=match v with| .bool b=>ah b|_=>none:=by
 unfold yielded;rw[hj];simp only[Option.bind_some,h.get d v hl]
 cases v<;>rfl
structure b_ where
 CV:Option Nat
 more:Nat->Prop
 holds:World->Prop
 lt:∀w,holds w->∀k,(CV=ah k\/more k)->k<w.heap.size
 stay:∀w w',holds w->w.heap.size<=w'.heap.size->(∀k,(CV=ah k\/more k)->w'.heap[k]?=w.heap[k]?)->holds w'
def b_.ft(o:b_)(k:Nat):Prop:=o.CV=ah k\/o.more k
def aK(g:Nat)(cs:Array Value)(T:TypeId):b_:=
 ⟨ah g,λ_=>False,λw=>w.heap[g]?=ah (.cells cs T (0,0)),λw h k hk=>by simp only[dM,or_false]at hk;subst hk;exact(lL.1 h).1,
  λw w' h _ hb=>by rw[hb g (.inl I)];exact h⟩
def bm(e:TypeId)(size:Nat)(v:Value)(n:Nat)(xs:List Value):b_:=
 ⟨v.ownBlock,λ_=>False,λw=>w.ownsRow 0 e size v n xs,λw h k hk=>(h.lt k (hk.elim id AY)).2,λw w' h _ hb=>by
  refine⟨h.1,?_⟩;rcases h.2 with hn|⟨g,cap,oM,rfl,zm,hg,rest⟩
  exact .inl hn;exact .inr ⟨g,cap,oM,rfl,zm,by rw[hb g (.inl I)];exact hg,rest⟩⟩
structure fg(p:Nat->Prop)(w:World)(L:List b_):Prop where
 all:∀(i:Nat) (o:b_),L[i]?=ah o->o.holds w/\∀k,o.ft k->p k
 apart:∀(i j:Nat) (o o':b_),i≠j->L[i]?=ah o->L[j]?=ah o'->∀k,o.ft k->¬o'.ft k
abbrev rI(B:Nat)(w:World)(L:List b_):Prop:=fg (λk=>B<=k) w L
section
variable{p p':Nat->Prop}
theorem rI.nil(B:Nat)(w:World):rI B w []:=⟨λi o h=>by grind,λi j o o' _ h=>by simp⟩
theorem fg.nil(w:World):fg p w []:=⟨λi o h=>by grind,λi j o o' _ h=>by simp⟩
theorem fg.gr{w w':World}{L:List b_}(h:fg p w L)(hg:Gr w w'):fg p w' L:=
 ⟨λi o hi=>⟨o.stay w w' (h.all i o hi).1 hg.size λk hk=>hg.block k (o.lt w (h.all i o hi).1 k hk),(h.all i o hi).2⟩,h.apart⟩
theorem fg.mono{w:World}{L:List b_}(h:fg p w L)(hb:∀k,p k->p' k):fg p' w L:=
 ⟨λi o hi=>⟨(h.all i o hi).1,λk hk=>hb k ((h.all i o hi).2 k hk)⟩,h.apart⟩
theorem fg.one{w:World}{o:b_}(h:o.holds w)(hb:∀k,o.ft k->p k):fg p w [o]:=
  ⟨λi o' hi=>by
    grind,
   λi j a b rG hi hj=>by
    grind⟩
theorem rI.one{B:Nat}{w:World}{o:b_}(h:o.holds w)(hb:∀k,o.CV=ah k->B<=k)(hmo:∀k,o.more k->B<=k:=by intro k hk;exact False.elim hk):rI B w [o]:=fg.one h λk hk=>hk.elim (hb k) (hmo k)
theorem fg.both{w:World}{L L':List b_}(h:fg p w L)(h':fg p w L')(ha:∀(i j:Nat) (o o':b_),L[i]?=ah o->L'[j]?=ah o'->∀k,o.ft k->¬o'.ft k):fg p w (L++L'):=by
 refine⟨λi o hi=>?_,λi j o o' rG hi hj=>?_⟩
 ·rw[Y7]at hi
  split at hi;exact h.all i o hi;exact h'.all _ o hi
 intro k hk qD;rw[Y7]at hi hj;split at hi<;>split at hj;exact h.apart i j o o' rG hi hj k hk qD;exact ha _ _ o o' hi hj k hk qD;exact ha _ _ o' o hj hi k qD hk;exact h'.apart (i-L.length) (j-L.length) o o' J hi hj k hk qD
theorem fg.pick{w:World}{L L':List b_}(h:fg p w L)(is:List Nat)(hn:is.Nodup)(hl:L'=is.filterMap λi=>L[i]?):fg p w L':=by
 subst hl
 induction is with
 |nil=>exact fg.nil _
 | cons i is ih=>
  rw[sA]at hn;have ih:=ih hn.2;have mem:∀j o,(is.filterMap λi=>L[i]?)[j]?=ah o->∃q∈is,L[q]?=ah o:=λj o hj=>by
   have:=kr hj;rw[List.mem_filterMap]at this;exact this
  cases e:L[i]? with
  |none=>simp_all
  | some o0=>
   rw[A6 e];refine⟨λj o hj=>?_,λj j' o o' rG hj tJ=>?_⟩
   ·match j,hj with
    |0,hj=>simp only[uv,dM]at hj;subst hj;exact h.all i _ e
    |j+1,hj=>exact ih.all j o (by simp_all)
   match j,j',hj,tJ with
   |0,0,_,_=>omega
   | 0,j'+1,hj,tJ=>
    simp only[uv,dM]at hj;subst hj;obtain⟨q,hq,zn⟩:=mem j' o' (by simp_all);exact h.apart i q _ o' (λe=>hn.1 (e▸hq)) e zn
   | j+1,0,hj,tJ=>
    simp only[uv,dM]at tJ;subst tJ;obtain⟨q,hq,zn⟩:=mem j o (by simp_all);exact h.apart q i o _ (λe=>hn.1 (e▸hq)) zn e
   |j+1,j'+1,hj,tJ=>exact ih.apart j j' o o' J (by simp_all) (by simp_all)
end
structure bV where
 w:World
 X:Nat->Prop
instance:Coe World bV:=⟨λw=>⟨w,λ_=>False⟩⟩
def bV.on(w:World)(L:List b_):bV:=⟨w,λk=>∃o∈L,o.ft k⟩
def bV.may(W:bV)(k:Nat):Prop:=W.w.heap.size<=k\/W.X k
structure J5(W:bV)(w:World):Prop where
 os:w.os=W.w.os
 tape:w.tape=W.w.tape
 output:w.output=W.w.output
 size:W.w.heap.size<=w.heap.size
 block:∀k,k<W.w.heap.size->¬W.X k->w.heap[k]?=W.w.heap[k]?
structure Mem(W:bV)(L:List b_)(w:World):Prop where
 low:J5 W w
 owns:fg W.may w L
theorem Mem.start(W:World):Mem W [] W:=⟨⟨rfl,rfl,rfl,aX _,λ_ _ _=>rfl⟩,fg.nil _⟩
theorem J5.gr{W:bV}{w w':World}(h:J5 W w)(hg:Gr w w'):J5 W w':=
 ⟨hg.os.trans h.os,hg.tape.trans h.tape,hg.output.trans h.output,eL h.size hg.size,λk hk hx=>(hg.block k (jt hk h.size)).trans (h.block k hk hx)⟩
theorem Mem.below{W w:World}{L:List b_}(h:Mem W L w):Below W.heap.size W w:=⟨h.low.os,h.low.tape,h.low.output,h.low.size,λk hk=>h.low.block k hk id⟩
theorem Mem.af4{W w:World}{L:List b_}(h:Mem W L w):rI W.heap.size w L:=h.owns.mono λ_ hk=>hk.elim id AY
section
variable{W:bV}
theorem Mem.gr{w w':World}{L:List b_}(h:Mem W L w)(hg:Gr w w'):Mem W L w':=⟨h.low.gr hg,h.owns.gr hg⟩
theorem Mem.drew{w:World}{L:List b_}(h:Mem W L w):Mem W L w.drew:=h.gr (Gr.drew w)
theorem eZ(W:bV)(L:List b_):jv (Mem W L):=λ_ _ h k=>h.gr k
theorem Mem.pick{w:World}{L L':List b_}(h:Mem W L w)(is:List Nat)(hn:is.Nodup)(hl:L'=is.filterMap λi=>L[i]?):Mem W L' w:=⟨h.low,h.owns.pick is hn hl⟩
theorem Mem.append{w w':World}{L L':List b_}(h:Mem W L w)(hg:Gr w w')(h':rI w.heap.size w' L'):Mem W (L++L') w':=by
 have hsz:W.w.heap.size<=w.heap.size:=h.low.size;refine⟨h.low.gr hg,fg.both (h.owns.gr hg) (h'.mono λk hk=> .inl (eL hsz hk)) λi j o o' hi hj k hk qD=>?_⟩;have a1:=o.lt w (h.owns.all i o hi).1 k hk;have a2:w.heap.size<=k:=(h'.all _ o' hj).2 k qD;omega
theorem Mem.CW{w w':World}{L:List b_}(h:Mem W L w){i:Nat}{o o':b_}(hi:L[i]?=ah o)(hg:w.grownBy w' o.CV)(ho:o'.holds w')(hb:∀k,o'.CV=ah k->o.CV=ah k\/w.heap.size<=k)(hmo:∀k,o'.more k->o.ft k:=by intro k hk;exact False.elim hk):Mem W (L.set i o') w':=by
 have hle:W.w.heap.size<=w.heap.size:=h.low.size;have hoB:=(h.owns.all i o hi).2;have hlen:i<L.length:=(dK.1 hi).1;have Mn:∀k,o'.ft k->o.ft k\/w.heap.size<=k:=λk hk=>hk.elim (λh=>(hb k h).imp .inl id) (λh=> .inl (hmo k h));refine⟨⟨hg.os.trans h.low.os,hg.tape.trans h.low.tape,hg.output.trans h.low.output,eL hle hg.size,λk hk hx=>?_⟩,?_,?_⟩
 ·rw[hg.block k (jt hk hle) λe=>(hoB k (.inl e.symm)).elim (λh=>by omega) hx]
  exact h.low.block k hk hx
 ·intro j q hj
  by_cases e:i=j
  ·subst e
   rw[sy hlen]at hj;simp only[dM]at hj;subst hj;exact⟨ho,λk hk=>(Mn k hk).elim (hoB k) (λh=> .inl (eL hle h))⟩
  rw[mS e]at hj;have h1:=h.owns.all j q hj;refine⟨q.stay w w' h1.1 hg.size λk hk=>hg.block k (q.lt w h1.1 k hk) λe'=>?_,h1.2⟩;exact h.owns.apart i j o q e hi hj k (.inl e'.symm) hk
 intro j j' q q' rG hj tJ k hk qD
 by_cases e:i=j
 ·subst e
  rw[sy hlen]at hj;rw[mS rG]at tJ;simp only[dM]at hj;subst hj;have h2:=(h.owns.all j' q' tJ).1;rcases Mn k hk with h1|h1
  exact h.owns.apart i j' o q' rG hi tJ k h1 qD;have:=q'.lt w h2 k qD;omega
 rw[mS e]at hj;have h2:=(h.owns.all j q hj).1
 by_cases e':i=j'
 ·subst e'
  rw[sy hlen]at tJ;simp only[dM]at tJ;subst tJ;rcases Mn k qD with h1|h1
  exact h.owns.apart i j o q e hi hj k h1 hk;have:=q.lt w h2 k hk;omega
 rw[mS e']at tJ;exact h.owns.apart j j' q q' rG hj tJ k hk qD
theorem Mem.merge{w:World}{R:List b_}{o1 o2:b_}(o:b_)(h:Mem W ([o1,o2]++R) w)(hf:∀k,o.ft k->o1.ft k\/o2.ft k)(hh:o1.holds w->o2.holds w->o.holds w):Mem W (R++[o]) w:=by
 have h1:=h.owns.all 0 o1 I;have h2:=h.owns.all 1 o2 I;refine⟨h.low,fg.both ⟨λi q hi=>h.owns.all (i+2) q (by simp_all),λi j q q' rG hi hj=>h.owns.apart (i+2) (j+2) q q' J (by simp_all) (by simp_all)⟩ (fg.one (hh h1.1 h2.1) λk hk=>(hf k hk).elim (h1.2 k) (h2.2 k)) ?_⟩;intro i j q q' hi hj k hk qD
 match j,hj with
 |0,hj=>
  simp only[uv,dM]at hj;subst hj;have qw:([o1,o2]++R)[i+2]?=ah q:=by simp_all
  rcases hf k qD with h3|h3
  exact h.owns.apart 0 (i+2) o1 q J I qw k h3 hk;exact h.owns.apart 1 (i+2) o2 q J I qw k h3 hk
 |j+1,hj=>grind
theorem Mem.get{w:World}{L:List b_}(h:Mem W L w){i:Nat}{o:b_}(hi:L[i]?=ah o):o.holds w:=(h.owns.all i o hi).1
theorem Mem.over{w:World}{L:List b_}(h:Mem W L w):Mem (bV.on w L) L w:=
 ⟨⟨rfl,rfl,rfl,aX _,λ_ _ _=>rfl⟩,λi o hi=>⟨(h.owns.all i o hi).1,λ_ hk=> .inr ⟨o,kr hi,hk⟩⟩,h.owns.apart⟩
theorem Mem.back{w w':World}{L R O:List b_}(h:Mem W (L++R) w)(h':Mem (bV.on w L) O w'):Mem W (R++O) w':=by
 have hle:W.w.heap.size<=w.heap.size:=h.low.size;have hL:∀o∈L,∀k,o.ft k->W.may k:=λo ho k hk=>by
  obtain⟨i,hi⟩:=yd ho;exact(h.owns.all i o (by grind)).2 k hk
 have hR:∀(i:Nat) (o:b_),R[i]?=ah o->o.holds w/\(∀k,o.ft k->W.may k)/\∀k,o.ft k->k<w.heap.size/\¬(bV.on w L).X k:=λi o hi=>by
  have qw:(L++R)[L.length+i]?=ah o:=by grind
  have h1:=h.owns.all _ o qw;refine⟨h1.1,h1.2,λk hk=>⟨o.lt w h1.1 k hk,?_⟩⟩;rintro⟨q,hq,hqk⟩;obtain⟨j,hj⟩:=yd hq;have hjl:=(dK.1 hj).1;exact h.owns.apart j (L.length+i) q o J (by grind) qw k hqk hk
 refine⟨⟨h'.low.os.trans h.low.os,h'.low.tape.trans h.low.tape,h'.low.output.trans h.low.output,eL hle h'.low.size,λk hk hx=>?_⟩,fg.both ⟨λi o hi=>?_,?_⟩ ?_ ?_⟩
 ·rw[h'.low.block k (jt hk hle) ?_]
  exact h.low.block k hk hx;rintro⟨o,ho,mP⟩;exact(hL o ho k mP).elim (λh=>by omega) hx
 ·obtain⟨h1,h2,h3⟩:=hR i o hi
  exact⟨o.stay w w' h1 h'.low.size λk hk=>h'.low.block k (h3 k hk).1 (h3 k hk).2,h2⟩
 ·intro i j o o' rG hi hj
  exact h.owns.apart (L.length+i) (L.length+j) o o' J (by grind) (by grind)
 exact h'.owns.mono λk hk=>hk.elim (λh1=> .inl (eL hle h1)) λ⟨o,ho,mP⟩=>hL o ho k mP;intro i j o o' hi hj k hk qD;obtain⟨h1,h2,h3⟩:=hR i o hi;rcases(h'.owns.all j o' hj).2 k qD with h4|h4
 ·have h4:w.heap.size<=k:=h4
  grind
 simp_all
end
theorem Mem.cell{W w:World}{L:List b_}(h:Mem W L w){p:Addr}{v:Value}(hp:W.cell? p=ah v):w.cell? p=ah v:=by
 rw[h.below.cell (q7 W p hp)];exact hp
structure ly(W0:World)(W:bV):Prop where
 below:Below W0.heap.size W0 W.w
 free:∀k,k<W0.heap.size->¬W.X k
theorem ly.self(W:World):ly W W:=⟨Below.refl _ _,λ_ _=>id⟩
theorem ly.mem{W0:World}{W:bV}(ho:ly W0 W){L:List b_}{w:World}(h:Mem W L w):Below W0.heap.size W0 w:=
 ⟨h.low.os.trans ho.below.os,h.low.tape.trans ho.below.tape,h.low.output.trans ho.below.output,eL ho.below.size h.low.size,λk hk=>(h.low.block k (jt hk ho.below.size) (ho.free k hk)).trans (ho.below.block k hk)⟩
theorem ly.cell{W0:World}{W:bV}(ho:ly W0 W){L:List b_}{w:World}(h:Mem W L w){p:Addr}{v:Value}(hp:W0.cell? p=ah v):w.cell? p=ah v:=by
 rw[(ho.mem h).cell (q7 W0 p hp)];exact hp
theorem ly.on{W0:World}{W:bV}(ho:ly W0 W){L L':List b_}{w:World}(h:Mem W L w)(hs:∀o∈L',o∈L):ly W0 (bV.on w L'):=
 ⟨ho.mem h,λk hk ⟨o,hm,hb⟩=>by
  obtain⟨i,hi⟩:=yd (hs o hm);rcases(h.owns.all i o hi).2 k hb with h1|h1
  ·have:=ho.below.size
   omega
  exact ho.free k hk h1⟩
structure T(P:Program)(n:Nat)(W:bV)(c:Code)(Q:Exit->Act->World->Prop)(fr:Fr)(L:List b_):Prop where
 go:∀a w,mK n a fr->Mem W L w->c.wp P Q a w
structure E(n:Nat)(W:bV)(e:Exit)(Q:Exit->Act->World->Prop)(fr:Fr)(L:List b_):Prop where
 go:∀a w,mK n a fr->Mem W L w->Q e a w
structure TL(P:Program)(n:Nat)(W:bV)(ops:Array Oper)(Q:Exit->Act->World->Prop)(l:List Oper)(fr:Fr)(L:List b_):Prop where
 go:∀a w,mK n a fr->Mem W L w->wpList P ops Q l a w
structure TM(P:Program)(n:Nat)(W:bV)(ops:Array Oper)(Q:Exit->Act->World->Prop)(K:Act->World->Prop)(ks:List Bool)(l:List Oper)(fr:Fr)(L:List b_):Prop where
 go:∀a,mK n a fr->VJ P ops Q K ks l a (Mem W L)
structure RR(P:Program)(n:Nat)(W:bV)(o:Oper)(fr:Fr)(L:List b_)(v:Value):Prop where
 go:∀a w,mK n a fr->Mem W L w->(execOp a.eval o).run P w= .ok (.value v) w
structure Spec(ι:Type) where
 ok:ι->Prop
 val:ι->Value
 own:ι->List b_
def cJ{ι:Type}(S:Spec ι)(w:World)(e:Ending)(w':World):Prop:=∃x,S.ok x/\e= .returned (S.val x)/\Gr w w'/\rI w.heap.size w' (S.own x)
def ret(v:Value):Spec Unit:=⟨λ_=>True,λ_=>v,λ_=>[]⟩
theorem VK{v:Value}{w w':World}{e:Ending}(h:e= .returned v)(hg:Gr w w'):cJ (ret v) w e w':=⟨(),trivial,h,hg,rI.nil _ _⟩
theorem Eh{v:Value}{w w':World}{e:Ending}(h:cJ (ret v) w e w'):e= .returned v/\Gr w w':=let ⟨_,_,h1,h2,_⟩:=h;⟨h1,h2⟩
section
variable{P:Program}{n:Nat}{W:bV}{Q:Exit->Act->World->Prop}{fr:Fr}{L:List b_}
theorem bZ{x y:Code}(h:T P n W x (Exit.then (y.wp P Q) Q) fr L):T P n W (x.seq y) Q fr L:= .mk λa w hr hm=>wp_seq (h.go a w hr hm)
theorem Zh(h:E n W .normal Q fr L):T P n W .skip Q fr L:= .mk λa w hr hm=>wp_skip (h.go a w hr hm)
theorem agH{id:Nat}(h:E n W (.exit id) Q fr L):T P n W (.exit id) Q fr L:= .mk λa w hr hm=>wp_exit (h.go a w hr hm)
theorem aiy(h:E n W .ret Q fr L):T P n W .ret Q fr L:= .mk λa w hr hm=>wp_ret (h.go a w hr hm)
theorem adR{id:Nat}{c:Code}(h:T P n W c (uk id Q) fr L):T P n W (.block id c) Q fr L:= .mk λa w hr hm=>wp_block (h.go a w hr hm)
theorem TF{c:Operand}{x y:Code}(hc:ev fr c=ah (.bool aB))(h:T P n W x Q fr L):T P n W (.cond c x y) Q fr L:= .mk λa w hr hm=>wp_cond_true (hr.ev hc) (h.go a w hr hm)
theorem TG{c:Operand}{x y:Code}(hc:ev fr c=ah (.bool aE))(h:T P n W y Q fr L):T P n W (.cond c x y) Q fr L:= .mk λa w hr hm=>wp_cond_false (hr.ev hc) (h.go a w hr hm)
theorem agI{c:Code}{L':List b_}(is:List Nat)(hn:is.Nodup)(hl:L'=is.filterMap λi=>L[i]?)(h:T P n W c Q fr L'):T P n W c Q fr L:= .mk λa w hr hm=>h.go a w hr (hm.pick is hn hl)
theorem agJ{e:Exit}{L':List b_}(is:List Nat)(hn:is.Nodup)(hl:L'=is.filterMap λi=>L[i]?)(h:E n W e Q fr L'):E n W e Q fr L:= .mk λa w hr hm=>h.go a w hr (hm.pick is hn hl)
theorem J6{y:Code}(h:T P n W y Q fr L):E n W .normal (Exit.then (y.wp P Q) Q) fr L:=⟨h.go⟩
theorem adS{id:Nat}{K:Act->World->Prop}(h:E n W (.exit id) Q fr L):E n W (.exit id) (Exit.then K Q) fr L:=⟨h.go⟩
theorem adT{K:Act->World->Prop}(h:E n W .ret Q fr L):E n W .ret (Exit.then K Q) fr L:=⟨h.go⟩
theorem Zi{id:Nat}(h:E n W .normal Q fr L):E n W .normal (uk id Q) fr L:=⟨h.go⟩
theorem Zj{id:Nat}(h:E n W .ret Q fr L):E n W .ret (uk id Q) fr L:=⟨h.go⟩
theorem Mo{id:Nat}(h:E n W .normal Q fr L):E n W (.exit id) (uk id Q) fr L:= .mk λa w hr hm=>by
 show(if id=id then Q .normal a w else Q (.exit id) a w)
 rw[if_pos I];exact h.go a w hr hm
theorem Mp{id id':Nat}(hne:fM id' id=aE)(h:E n W (.exit id') Q fr L):E n W (.exit id') (uk id Q) fr L:= .mk λa w hr hm=>by
 show(if id'=id then Q .normal a w else Q (.exit id') a w)
 rw[if_neg (J0 hne)];exact h.go a w hr hm
def Rnd{ι:Type}(n:Nat)(W:bV)(ag:ι->Prop)(F:ι->Fr)(M:ι->List b_)(μ:ι->Nat)(x:ι)(a:Act)(w:World):Prop:=∃x',ag x'/\μ x'<μ x/\mK n a (F x')/\Mem W (M x') w
def Mid{ι:Type}(n:Nat)(W:bV)(ag:ι->Prop)(F:ι->Fr)(M:ι->List b_)(a:Act)(w:World):Prop:=∃i,ag i/\mK n a (F i)/\Mem W (M i) w
theorem eQ{ι:Type}{ag:ι->Prop}{F:ι->Fr}{M:ι->List b_}(i:ι)(hi:ag i)(hf:J4 (F i) fr)(hl:L=M i):E n W .normal (Exit.then (Mid n W ag F M) Q) fr L:=
 ⟨λ_ _ hr hm=>⟨i,hi,hr.sub hf,hl▸hm⟩⟩
theorem kO{c:Code}{ι:Type}(ag:ι->Prop)(F:ι->Fr)(M:ι->List b_)(μ:ι->Nat)(x0:ι)(h0:ag x0)(hf:J4 (F x0) fr)(hl:L=M x0)
 (round:∀x,ag x->T P n W c (Exit.then (Rnd n W ag F M μ x) Q) (F x) (M x)):T P n W (.loop c) Q fr L:=by
 refine⟨λa w hr hm=>?_⟩;refine wp_loop_ghost (λk a w=>∃x,μ x=k/\ag x/\mK n a (F x)/\Mem W (M x) w) (μ x0) ⟨x0,rfl,h0,hr.sub hf,hl▸hm⟩ ?_;rintro k a w ⟨x,rfl,hi,hr,hm⟩;refine wp_mono ((round x hi).go a w hr hm) λe a w h=>?_
 cases e with
 |normal=>obtain⟨x',h1,h2,h3,h4⟩:=h;exact⟨μ x',h2,x',rfl,h1,h3,h4⟩
 |_=>exact h
theorem ik{ι:Type}{ag:ι->Prop}{F:ι->Fr}{M:ι->List b_}{μ:ι->Nat}{x:ι}(x':ι)(hi:ag x')(hμ:μ x'<μ x)(hf:J4 (F x') fr)(hl:L=M x'):
 E n W .normal (Exit.then (Rnd n W ag F M μ x) Q) fr L:=
 ⟨λ_ _ hr hm=>⟨x',hi,hμ,hr.sub hf,hl▸hm⟩⟩
theorem H6{fn:Func}{R:Ending->World->Prop}(h:∀a w,mK n a fr->Mem W L w->∃v,(results fn a.tmps).run P w= .ok v w/\R (.returned v) w):E n W .ret (bodyPost P fn R) fr L:=
 ⟨λa w hr hm=>⟨hr.defers,h a w hr hm⟩⟩
theorem cV{fn:Func}{R:Ending->World->Prop}{t:Tmp}{v:Value}(mV:fn.results=#[.tmp t])(hv:look fr t=ah v)(h:∀w,Mem W L w->R (.returned v) w):E n W .ret (bodyPost P fn R) fr L:=
 H6 λa w hr hm=>⟨v,by simp[results,mV,x7,hr.get t v hv],h w hm⟩
theorem kP{fn:Func}{R:Ending->World->Prop}{t u:Tmp}{v z:Value}(mV:fn.results=#[.tmp t,.tmp u])(hv:look fr t=ah v)(hz:look fr u=ah z)(h:∀w,Mem W L w->R (.returned (.tuple #[v,z])) w):E n W .ret (bodyPost P fn R) fr L:=
 H6 λa w hr hm=>⟨_,by simp[results,mV,x7,hr.get t v hv,hr.get u z hz],h w hm⟩
theorem mW{fn:Func}{R:Ending->World->Prop}{t u s:Tmp}{v z y:Value}(mV:fn.results=#[.tmp t,.tmp u,.tmp s])(hv:look fr t=ah v)(hz:look fr u=ah z)(hy:look fr s=ah y)(h:∀w,Mem W L w->R (.returned (.tuple #[v,z,y])) w):E n W .ret (bodyPost P fn R) fr L:=
 H6 λa w hr hm=>⟨_,by simp[results,mV,x7,hr.get t v hv,hr.get u z hz,hr.get s y hy],h w hm⟩
theorem Mem.meets{ι:Type}{S:Spec ι}{W w:World}(x:ι)(hm:Mem W L w)(hx:S.ok x)(is:List Nat)(hn:is.Nodup)(hl:S.own x=is.filterMap λi=>L[i]?):cJ S W (.returned (S.val x)) w:=
 ⟨x,hx,rfl,hm.below,hm.af4.pick is hn hl⟩
theorem Mem.ret{v:Value}{W w:World}(hm:Mem W L w):cJ (ret v) W (.returned v) w:=⟨(),trivial,rfl,hm.below,rI.nil _ _⟩
theorem eN{fn:Func}{W:World}{t:Tmp}{v v0:Value}(mV:fn.results=#[.tmp t])(hv:look fr t=ah v)(h:v=v0):E n W .ret (bodyPost P fn (cJ (ret v0) W)) fr L:=by
 subst h;exact cV mV hv λw hm=>hm.ret
def zo:Nat->List Value->Fr
 |_,[]=>[]
 |k,v::r=>(k,v)::zo (k+1) r
theorem sC:∀(vs:List Value) (k i:Nat) (v:Value),look (zo k vs) i=ah v->k<=i/\vs[i-k]?=ah v
 |[],_,_,_,h=>by cases h
 | u ::r,k,i,v,h=>by
  unfold zo look at h
  cases e:fM k i
  ·rw[e]at h
   have hne:=J0 e;obtain⟨h1,h2⟩:=sC r (k+1) i v h;refine⟨by omega,?_⟩;rw[show i-k=(i-(k+1))+1 by omega,Y5];exact h2
  simp_all
theorem enter{w:World}{f:FuncId}{fn:Func}{c:Code}{args:List Value}{R:Ending->World->Prop}(hf:P.funcs[f]?=ah fn)(hb:fn.body=ah c)(hn:fn.ntmps=n)(hle:yg args.length n=aB)
 (h:T P n w c (bodyPost P fn R) (zo 0 args) []):Calls P f args.toArray w R:=by
 have agK:args.length<=n:=nB hle;refine calls_of_wp hf hb (h.go _ w ⟨?_,rfl,λi v hi=>?_⟩ (Mem.start w))
 simp_all
 ·obtain⟨_,h2⟩:=sC args 0 i v hi
  grind
theorem dT{B:bV}{w:World}{f:FuncId}{fn:Func}{c:Code}{args:List Value}{R:Ending->World->Prop}(hm:Mem B L w)(hf:P.funcs[f]?=ah fn)(hb:fn.body=ah c)(hn:fn.ntmps=n)(hle:yg args.length n=aB)
 (h:T P n B c (bodyPost P fn R) (zo 0 args) L):Calls P f args.toArray w R:=by
 have agK:args.length<=n:=nB hle;refine calls_of_wp hf hb (h.go _ w ⟨?_,rfl,λi v hi=>?_⟩ hm)
 simp_all
 ·obtain⟨_,h2⟩:=sC args 0 i v hi
  grind
section
variable{ops:Array Oper}{K:Act->World->Prop}{ks:List Bool}{o:Oper}{rest:List Oper}{v:Value}{d:Nat}
theorem bx{id:Nat}{l:List Oper}(h:TL P n W l.toArray Q l fr L):T P n W (.region id l.toArray aE) Q fr L:= .mk λa w hr hm=>wp_region_lit (h.go a w hr hm)
theorem A'(h:E n W .normal Q fr L):TL P n W ops Q [] fr L:= .mk λa w hr hm=>wpList_nil (h.go a w hr hm)
theorem oq{a:Act}(hg:o.guard=aj):kM o (yielded ops a.tmps)=true:=by simp[kM,hg]
theorem pG{a:Act}{j e:Nat}{b:Bool}(hr:mK n a fr)(hg:o.guard=ah (j,b))(hj:(ops[j]?).bind (·.dst)=ah e)(hl:look fr e=ah (.bool b)):kM o (yielded ops a.tmps)=true:=by
 simp[kM,hg,hr.yield hj hl]
def adU(b:Bool):Value->Bool
 | .bool c=>c !=b
 |_=>aB
theorem H7{a:Act}{j e:Nat}{b:Bool}{u:Value}(hr:mK n a fr)(hg:o.guard=ah (j,b))(hj:(ops[j]?).bind (·.dst)=ah e)(hl:look fr e=ah u)(hu:adU b u=aB):kM o (yielded ops a.tmps)=false:=by
 simp only[kM,hg,hr.yield hj hl]
 cases u<;>first|rfl|(rename_i c;cases c<;>cases b<;>first|rfl|cases hu)
theorem dy(hr:RR P n W o fr L v)(hg:o.guard=aj)(hd:o.dst=ah d)(hn:dx d n=aB)(h:TL P n W ops Q rest ((d,v)::fr) L):TL P n W ops Q (o::rest) fr L:= .mk λa w gO hm=>
 wpList_plain hg λK hK=>by
  unfold gU;rw[hr.go a w gO hm,YT,hd];exact hK _ _ (h.go _ w (gO.put hn v) hm)
theorem TH{j e:Nat}{b:Bool}(hr:RR P n W o fr L v)(hg:o.guard=ah (j,b))(hj:(ops[j]?).bind (·.dst)=ah e)(hl:look fr e=ah (.bool b))(hd:o.dst=ah d)(hn:dx d n=aB)(h:TL P n W ops Q rest ((d,v)::fr) L):TL P n W ops Q (o::rest) fr L:= .mk λa w gO hm=>
 YD (pG gO hg hj hl) λK hK=>by
  unfold gU;rw[hr.go a w gO hm,YT,hd];exact hK _ _ (h.go _ w (gO.put hn v) hm)
theorem adV{j e:Nat}{b:Bool}{u:Value}(hg:o.guard=ah (j,b))(hj:(ops[j]?).bind (·.dst)=ah e)(hl:look fr e=ah u)(hu:adU b u=aB)(hd:o.dst=ah d)(hn:dx d n=aB)(h:TL P n W ops Q rest ((d,undef)::fr) L):TL P n W ops Q (o::rest) fr L:= .mk λa w gO hm=>
 wpList_skip (H7 gO hg hj hl hu) (by rw[hd];exact h.go _ w (gO.put hn undef) hm)
theorem Mq{p:Prop}{inst:Decidable p}(hr:RR P n W o fr L (.bool (decide p)))(hg:o.guard=aj)(hd:o.dst=ah d)(hn:dx d n=aB)(ht:p->TL P n W ops Q rest ((d,.bool aB)::fr) L)(hf:¬p->TL P n W ops Q rest ((d,.bool aE)::fr) L):TL P n W ops Q (o::rest) fr L:=by
 by_cases h:p
 grind[dy];exact dy (by rwa [decide_eq_false h]at hr) hg hd hn (hf h)
theorem Qf{p:Prop}{inst:Decidable p}{j e:Nat}{b:Bool}(hr:RR P n W o fr L (.bool (decide p)))(hg:o.guard=ah (j,b))(hj:(ops[j]?).bind (·.dst)=ah e)(hl:look fr e=ah (.bool b))(hd:o.dst=ah d)(hn:dx d n=aB)(ht:p->TL P n W ops Q rest ((d,.bool aB)::fr) L)(hf:¬p->TL P n W ops Q rest ((d,.bool aE)::fr) L):TL P n W ops Q (o::rest) fr L:=by
 by_cases h:p
 grind[TH];exact TH (by rwa [decide_eq_false h]at hr) hg hj hl hd hn (hf h)
theorem mK.adW{a:Act}{e:Nat}{v:Value}(h:mK n a fr)(hl:look fr e=ah v):mK n a ((e,v)::fr):=⟨h.size,h.defers,λi u hi=>by
 unfold look at hi
 cases c:fM e i
 rw[c]at hi;exact h.get i u hi;rw[c]at hi;obtain rfl:e=i:=mh c;simp only[cond_true,dM]at hi;subst hi;exact h.get e v hl⟩
theorem VL{j e:Nat}{b0 b:Bool}(_:o.guard=ah (j,b0))(_:(ops[j]?).bind (·.dst)=ah e)(hl:look fr e=ah (.bool b))(ht:b=aB->TL P n W ops Q (o::rest) ((e,.bool aB)::fr) L)(hf:b=aE->TL P n W ops Q (o::rest) ((e,.bool aE)::fr) L):TL P n W ops Q (o::rest) fr L:= .mk λa w hr hm=>by
 cases b
 exact(hf I).go a w (hr.adW hl) hm;exact(ht I).go a w (hr.adW hl) hm
theorem agL{j e:Nat}{b0:Bool}(_:o.guard=ah (j,b0))(_:(ops[j]?).bind (·.dst)=ah e)(_:look fr e=ah (.bool aB))(h:TL P n W ops Q (o::rest) fr L):TL P n W ops Q (o::rest) fr L:=h
theorem agM{j e:Nat}{b0:Bool}(_:o.guard=ah (j,b0))(_:(ops[j]?).bind (·.dst)=ah e)(_:look fr e=ah (.bool aE))(h:TL P n W ops Q (o::rest) fr L):TL P n W ops Q (o::rest) fr L:=h
theorem adX{c:Tmp}{x y:Code}{b:Bool}(hl:look fr c=ah (.bool b))(ht:b=aB->T P n W x Q ((c,.bool aB)::fr) L)(hf:b=aE->T P n W y Q ((c,.bool aE)::fr) L):T P n W (.cond (.tmp c) x y) Q fr L:= .mk λa w hr hm=>by
 cases b
 exact wp_cond_false (hr.ev (x:= .tmp c) hl) ((hf I).go a w (hr.adW hl) hm);exact wp_cond_true (hr.ev (x:= .tmp c) hl) ((ht I).go a w (hr.adW hl) hm)
theorem aT{f:FuncId}{args:Array Value}{ι:Type}{S:Spec ι}(he:∀a w,mK n a fr->(execOp a.eval o).run P w= .ok (.enter f args) w)(hc:∀w,Mem W L w->Calls P f args w (cJ S w))(hg:o.guard=aj)(hd:o.dst=ah d)(hn:dx d n=aB)
 (h:∀x,S.ok x->TL P n W ops Q rest ((d,S.val x)::fr) (L++S.own x)):TL P n W ops Q (o::rest) fr L:= .mk λa w gO hm=>
 wpList_plain hg λK hK=>by
  unfold gU;rw[he a w gO,PP];refine(hc w hm).mono λe w' ⟨x,h1,h2,h3,h4⟩=>?_;subst h2;simp only[hd];exact hK _ _ ((h x h1).go _ w' (gO.put hn _) (hm.append h3 h4))
theorem l5{f:FuncId}{args:Array Value}{ι:Type}{S:Spec ι}{j e:Nat}{b:Bool}(he:∀a w,mK n a fr->(execOp a.eval o).run P w= .ok (.enter f args) w)(hc:∀w,Mem W L w->Calls P f args w (cJ S w))(hg:o.guard=ah (j,b))(hj:(ops[j]?).bind (·.dst)=ah e)(hl:look fr e=ah (.bool b))(hd:o.dst=ah d)(hn:dx d n=aB)
 (h:∀x,S.ok x->TL P n W ops Q rest ((d,S.val x)::fr) (L++S.own x)):TL P n W ops Q (o::rest) fr L:= .mk λa w gO hm=>
 YD (pG gO hg hj hl) λK hK=>by
  unfold gU;rw[he a w gO,PP];refine(hc w hm).mono λe w' ⟨x,h1,h2,h3,h4⟩=>?_;subst h2;simp only[hd];exact hK _ _ ((h x h1).go _ w' (gO.put hn _) (hm.append h3 h4))
def dz{ι:Type}(S:Spec ι)(B:bV)(e:Ending)(w':World):Prop:=∃x,S.ok x/\e= .returned (S.val x)/\Mem B (S.own x) w'
theorem Mem.cg{ι:Type}{S:Spec ι}{w:World}(x:ι)(hm:Mem W L w)(hx:S.ok x)(is:List Nat)(hn:is.Nodup)(hl:S.own x=is.filterMap λi=>L[i]?):dz S W (.returned (S.val x)) w:=
 ⟨x,hx,rfl,hm.pick is hn hl⟩
theorem Qg{is js:List Nat}{Lx R:List b_}(Zk:Lx=is.filterMap λi=>L[i]?)(Qh:R=js.filterMap λi=>L[i]?):Lx++R=(is++js).filterMap λi=>L[i]?:=by
 simp_all
theorem bz{f:FuncId}{args:Array Value}{ι:Type}{S:Spec ι}(is js:List Nat){Lx R:List b_}(hn2:(is++js).Nodup)(Zk:Lx=is.filterMap λi=>L[i]?)(Qh:R=js.filterMap λi=>L[i]?)
 (he:∀a w,mK n a fr->(execOp a.eval o).run P w= .ok (.enter f args) w) (hc:∀w,Mem W L w->Mem (bV.on w Lx) Lx w->Calls P f args w (dz S (bV.on w Lx))) (hg:o.guard=aj) (hd:o.dst=ah d) (hn:dx d n=aB)
 (h:∀x,S.ok x->TL P n W ops Q rest ((d,S.val x)::fr) (R++S.own x)):TL P n W ops Q (o::rest) fr L:= .mk λa w gO hm=>
 wpList_plain hg λK hK=>by
  have VM:Mem W (Lx++R) w:=hm.pick (is++js) hn2 (Qg Zk Qh);have hm3:Mem W Lx w:=hm.pick is (List.nodup_append.1 hn2).1 Zk;unfold gU;rw[he a w gO,PP];refine(hc w hm hm3.over).mono λe w' ⟨x,h1,h2,h3⟩=>?_;subst h2;simp only[hd];exact hK _ _ ((h x h1).go _ w' (gO.put hn _) (VM.back h3))
theorem kQ(hg:o.guard=aj)(h:∀a w,mK n a fr->Mem W L w->∀K:Act->World->Prop,(∀a w,wpList P ops Q rest a w->K a w)->o.wp P a w K Q):TL P n W ops Q (o::rest) fr L:= .mk λa w gO hm=>
 wpList_plain hg λK hK=>h a w gO hm K hK
theorem Zl{id:Nat}{l:List Oper}(k:Nat)(ks:List Bool)(hk:ks.length=k)(hm:P.follows .mixedOrders=aB)(hB:adQ .any l.toArray ks=aB)
 (hQ:∀c a d v w,Q (.panic c) (qY a d v) w->Q (.panic c) a w)
 (h:TM P n W l.toArray Q (λa' w'=>wpList P l.toArray Q (l.drop k) a' w') ks (l.take k) fr L):T P n W (.region id l.toArray aB) Q fr L:= .mk λa _ hr uA=>
 dV.dV k ks hk hm hB (λc a d v w=>hQ c a d v w) (Mem W L) (eZ W L) uA.drew (h.go a hr)
theorem Zm{l:List Oper}(h:TL P n W ops Q l fr L):TM P n W ops Q (λa' w'=>wpList P ops Q l a' w') [] [] fr L:= .mk λa hr=>TE λw hw=>h.go a w hr hw
theorem agN(hr:RR P n W o fr L v)(hg:o.guard=aj)(hd:o.dst=ah d)(hn:dx d n=aB)(h:TM P n W ops Q K ks rest ((d,v)::fr) L):TM P n W ops Q K (true::ks) (o::rest) fr L:= .mk λa gO=>
 TC (oq hg) (λw hS=>hr.go a w gO hS) (by rw[hd];exact h.go _ (gO.put hn v))
theorem Dh{q e:Nat}{b:Bool}(hg:o.guard=ah (q,b))(hj:(ops[q]?).bind (·.dst)=ah e)(hl:look fr e=ah (.bool b))(h:TL P n W ops Q ({o with guard:=aj}::rest) fr L):TL P n W ops Q (o::rest) fr L:= .mk λa w hr hm=>by
 have h1:=h.go a w hr hm;unfold wpList at h1⊢;rw[if_pos (oq I)]at h1;rw[if_pos (pG hr hg hj hl)];exact h1
theorem gd(hg:o.guard=aj)(hr:RR P n W o fr L v)(hd:o.dst=ah d)(hn:dx d n=aB)(h:TM P n W ops Q K ks rest ((d,v)::fr) L):TM P n W ops Q K (true::ks) (o::rest) fr L:=agN hr hg hd hn h
end
end
def str(l:List UInt8):Value:= .string ⟨l.toArray⟩
theorem Zn(s:ByteArray):Value.string s=str s.data.toList:=by rfl
structure Ty(P:Program)(t:TypeId)(agg:Bool)(c:Nat):Prop where
 agg:∀w,(isAgg t).run P w= .ok agg w
 size:∀w,(sizeOf t).run P w= .ok c w
def tyB(P:Program)(t:TypeId)(agg:Bool)(c:Nat):Bool:=
 (match P.underlying t with|some (.struct _)=>agg|some (.array _ _)=>agg|some _=>!agg|none=>aE)&&(match P.info? t with|some i=>fM i.size c|none=>aE)
theorem Ty.of{P:Program}{t:TypeId}{agg:Bool}{c:Nat}(h:tyB P t agg c=aB):Ty P t agg c:=by
 unfold tyB at h;rw[eE]at h;obtain⟨h1,h2⟩:=h;refine⟨λw=>?_,λw=>?_⟩
 ·cases e:P.underlying t with
  |none=>simp_all
  |some d=>
   rw[e]at h1
   cases agg<;>cases d<;>simp_all[isAgg,run_underlying]
 cases e:P.info? t with
 |none=>simp_all
 |some i=>
  simp_all[sizeOf,typeInfo]
section
variable{P:Program}{n:Nat}{W:bV}{fr:Fr}{L:List b_}{dst:Option Tmp}{ty:TypeId}{pos:String}{after:Array Edge}{guard:Option (Nat×Bool)}
theorem wK{x:Operand}{v:Value}(hx:ev fr x=ah v):RR P n W ⟨dst,.move x,ty,pos,after,guard⟩ fr L v:= .mk λa w hr _=>by
 show PY (YR (a.eval x)) w=_;rw[hr.ev hx]
theorem VN{x:Operand}{v:Value}(hx:ev fr x=ah v):RR P n W ⟨dst,.assign x,ty,pos,after,guard⟩ fr L v:= .mk λa w hr _=>by
 show PY (YR (a.eval x)) w=_;rw[hr.ev hx]
theorem Zo{c x y:Operand}{v:Value}(hc:ev fr c=ah (.bool aB))(hx:ev fr x=ah v):RR P n W ⟨dst,.pick c x y,ty,pos,after,guard⟩ fr L v:= .mk λa w hr _=>by
 simp[execOp,hr.ev hc,hr.ev hx,asBool]
theorem Zp{c x y:Operand}{v:Value}(hc:ev fr c=ah (.bool aE))(hy:ev fr y=ah v):RR P n W ⟨dst,.pick c x y,ty,pos,after,guard⟩ fr L v:= .mk λa w hr _=>by
 simp[execOp,hr.ev hc,hr.ev hy,asBool]
theorem Qi{t:Operand}{i:Nat}{vs:Array Value}{v:Value}(ht:ev fr t=ah (.tuple vs))(hv:vs[i]?=ah v):RR P n W ⟨dst,.extract t i,ty,pos,after,guard⟩ fr L v:= .mk λa w hr _=>by
 simp[execOp,hr.ev ht,Instr.extract,hv]
section
variable{t u:TypeId}{x y:Operand}{k:IntKind}{m m':Int}
theorem q_{op:BinOp}{v:Value}(hx:ev fr x=ah (.int k m))(hy:ev fr y=ah (.int k m'))(h:∀w,(binOp op t (.int k m) (.int k m')).run P w= .ok v w):RR P n W ⟨dst,.binOp op t x y u,ty,pos,after,guard⟩ fr L v:= .mk λa w hr _=>by
 have e:(eqGuard op t x y (.int k m) (.int k m')).run P w= .ok () w:=by
  simp[eqGuard]
 simp[execOp,hr.ev hx,hr.ev hy,e,h]
theorem agO(hx:ev fr x=ah (.int k m))(hy:ev fr y=ah (.int k m')):RR P n W ⟨dst,.binOp .add t x y u,ty,pos,after,guard⟩ fr L (.int k (k.wrap (m+m'))):=q_ hx hy λw=>by simp[binOp,PO]
theorem agP(hx:ev fr x=ah (.int k m))(hy:ev fr y=ah (.int k m')):RR P n W ⟨dst,.binOp .sub t x y u,ty,pos,after,guard⟩ fr L (.int k (k.wrap (m-m'))):=q_ hx hy λw=>by simp[binOp,PO]
theorem agQ(hx:ev fr x=ah (.int k m))(hy:ev fr y=ah (.int k m')):RR P n W ⟨dst,.binOp .mul t x y u,ty,pos,after,guard⟩ fr L (.int k (k.wrap (m*m'))):=q_ hx hy λw=>by simp[binOp,PO]
theorem n9{r:Int}(h0: -9223372036854775808<=r)(h1:r<=9223372036854775807):av.wrap r=r:=IntWalk.i64_in _ J
theorem dN{r:Int}(hx:ev fr x=ah (ap av m))(hy:ev fr y=ah (ap av m'))(h0: -9223372036854775808<=m+m')(h1:m+m'<=9223372036854775807)(hr:m+m'=r):RR P n W ⟨dst,.binOp .add t x y u,ty,pos,after,guard⟩ fr L (ap av r):=by
 have:=agO (P:=P) (n:=n) (W:=W) (L:=L) (dst:=dst) (ty:=ty) (pos:=pos) (after:=after) (guard:=guard) (t:=t) (u:=u) hx hy;rwa [n9 h0 h1,hr]at this
theorem ey{r:Int}(hx:ev fr x=ah (ap av m))(hy:ev fr y=ah (ap av m'))(h0: -9223372036854775808<=m-m')(h1:m-m'<=9223372036854775807)(hr:m-m'=r):RR P n W ⟨dst,.binOp .sub t x y u,ty,pos,after,guard⟩ fr L (ap av r):=by
 have:=agP (P:=P) (n:=n) (W:=W) (L:=L) (dst:=dst) (ty:=ty) (pos:=pos) (after:=after) (guard:=guard) (t:=t) (u:=u) hx hy;rwa [n9 h0 h1,hr]at this
theorem Mr{r:Int}(hx:ev fr x=ah (ap av m))(hy:ev fr y=ah (ap av m'))(h0: -9223372036854775808<=m*m')(h1:m*m'<=9223372036854775807)(hr:m*m'=r):RR P n W ⟨dst,.binOp .mul t x y u,ty,pos,after,guard⟩ fr L (ap av r):=by
 have:=agQ (P:=P) (n:=n) (W:=W) (L:=L) (dst:=dst) (ty:=ty) (pos:=pos) (after:=after) (guard:=guard) (t:=t) (u:=u) hx hy;rwa [n9 h0 h1,hr]at this
theorem fI{b:Bool}(hx:ev fr x=ah (.int k m))(hy:ev fr y=ah (.int k m'))(h:decide (m<m')=b):RR P n W ⟨dst,.binOp .lss t x y u,ty,pos,after,guard⟩ fr L (.bool b):=q_ hx hy λw=>by simp[binOp,A3,<-h]
theorem Ba{b:Bool}(hx:ev fr x=ah (.int k m))(hy:ev fr y=ah (.int k m'))(h:decide (m<=m')=b):RR P n W ⟨dst,.binOp .leq t x y u,ty,pos,after,guard⟩ fr L (.bool b):=q_ hx hy λw=>by simp[binOp,A3,<-h]
theorem eO{b:Bool}(hx:ev fr x=ah (.int k m))(hy:ev fr y=ah (.int k m'))(h:decide (m'<m)=b):RR P n W ⟨dst,.binOp .gtr t x y u,ty,pos,after,guard⟩ fr L (.bool b):=q_ hx hy λw=>by simp[binOp,A3,<-h]
theorem fX{b:Bool}(hx:ev fr x=ah (.int k m))(hy:ev fr y=ah (.int k m'))(h:decide (m'<=m)=b):RR P n W ⟨dst,.binOp .geq t x y u,ty,pos,after,guard⟩ fr L (.bool b):=q_ hx hy λw=>by simp[binOp,A3,<-h]
theorem dc{b:Bool}(hx:ev fr x=ah (.int k m))(hy:ev fr y=ah (.int k m'))(h:decide (m=m')=b):RR P n W ⟨dst,.binOp .eql t x y u,ty,pos,after,guard⟩ fr L (.bool b):=q_ hx hy λw=>by
 simp_all[YB,binOp,A3]
theorem dh{b:Bool}(hx:ev fr x=ah (.int k m))(hy:ev fr y=ah (.int k m'))(h:decide (m≠m')=b):RR P n W ⟨dst,.binOp .neq t x y u,ty,pos,after,guard⟩ fr L (.bool b):=q_ hx hy λw=>by
 simp_all[bne,YB,binOp,A3]
theorem J7{op:BinOp}{r:Int}(hop:op= .and\/op= .or\/op= .xor\/op= .andNot)(hx:ev fr x=ah (.int k m))(hy:ev fr y=ah (.int k m'))(h:bits op k m m'=r):RR P n W ⟨dst,.binOp op t x y u,ty,pos,after,guard⟩ fr L (.int k r):=q_ hx hy λw=>by
 subst h;rcases hop with rfl|rfl|rfl|rfl<;>simp[binOp,Op.intBits,bits]
theorem Ms{op:BinOp}{k':IntKind}{v:Value}(hop:op= .shl\/op= .shr)(hx:ev fr x=ah (.int k m))(hy:ev fr y=ah (.int k' m'))(h:∀w,(iM op k m k' m').run P w= .ok v w):RR P n W ⟨dst,.binOp op t x y u,ty,pos,after,guard⟩ fr L v:= .mk λa w hr _=>by
 have e:(eqGuard op t x y (.int k m) (.int k' m')).run P w= .ok () w:=by simp[eqGuard]
 rcases hop with rfl|rfl<;>simp[execOp,hr.ev hx,hr.ev hy,e,binOp,h]
theorem nC{r:Int}(hx:ev fr x=ah (.int k m))(hy:ev fr y=ah (.int k m'))(h:bits .and k m m'=r):RR P n W ⟨dst,.binOp .and t x y u,ty,pos,after,guard⟩ fr L (.int k r):=J7 (.inl I) hx hy h
theorem zq{r:Int}(hx:ev fr x=ah (.int k m))(hy:ev fr y=ah (.int k m'))(h:bits .or k m m'=r):RR P n W ⟨dst,.binOp .or t x y u,ty,pos,after,guard⟩ fr L (.int k r):=J7 (.inr (.inl I)) hx hy h
theorem Ei{k':IntKind}{v:Value}(hx:ev fr x=ah (.int k m))(hy:ev fr y=ah (.int k' m'))(h:∀w,(iM .shl k m k' m').run P w= .ok v w):RR P n W ⟨dst,.binOp .shl t x y u,ty,pos,after,guard⟩ fr L v:=Ms (.inl I) hx hy h
theorem pH{k':IntKind}{v:Value}(hx:ev fr x=ah (.int k m))(hy:ev fr y=ah (.int k' m'))(h:∀w,(iM .shr k m k' m').run P w= .ok v w):RR P n W ⟨dst,.binOp .shr t x y u,ty,pos,after,guard⟩ fr L v:=Ms (.inr I) hx hy h
theorem iT{k':IntKind}{r:Int}(hs:P.underlying t=ah (.int k'))(hd:P.underlying u=ah (.int k))(hx:ev fr x=ah (.int k' m))(h:k.wrap m=r):RR P n W ⟨dst,.convert t u x,ty,pos,after,guard⟩ fr L (.int k r):= .mk λa w hr _=>by
 simp[execOp,hr.ev hx,convert,run_underlying hs,run_underlying hd,Conv.intToInt,h]
end
theorem J8{t:TypeId}{x:Operand}{b c:Bool}(hx:ev fr x=ah (.bool b))(h:(!b)=c):RR P n W ⟨dst,.unOp .not t x,ty,pos,after,guard⟩ fr L (.bool c):= .mk λa w hr _=>by
 subst h;simp[execOp,hr.ev hx,Op.unary]
theorem Qj{t u:TypeId}{x y:Operand}{m m' r:Int}(hx:ev fr x=ah (ap av m))(hy:ev fr y=ah (ap av m'))(h:min m m'=r):RR P n W ⟨dst,.call {callee:= .builtin .min,args:=#[x,y],argTypes:=#[t,u]},ty,pos,after,guard⟩ fr L (ap av r):= .mk λa w hr _=>by
 subst h;have h1:=hr.ev hx;have h2:=hr.ev hy;have e:(if m'<m then m' else m)=min m m':=by omega
 simp_all[qZ,BigFrame.builtin_min,Builtin.min_,Builtin.min2]
theorem Zq{t u:TypeId}{x y:Operand}{m m' r:Int}(hx:ev fr x=ah (ap av m))(hy:ev fr y=ah (ap av m'))(h:max m m'=r):RR P n W ⟨dst,.call {callee:= .builtin .max,args:=#[x,y],argTypes:=#[t,u]},ty,pos,after,guard⟩ fr L (ap av r):= .mk λa w hr _=>by
 subst h;have h1:=hr.ev hx;have h2:=hr.ev hy;have e:(if m'>m then m' else m)=max m m':=by omega
 simp_all[qZ,BigFrame.builtin_max,Builtin.max_,Builtin.max2]
theorem Ej{t:TypeId}{a b:Bool}(ht:P.underlying t=ah .bool)(d:Nat)(w:World):(pz (d+1) t (.bool a) (.bool b)).run P w= .ok (a==b) w:=by simp[pz,run_underlying ht]
theorem H8{t u:TypeId}{x y:Operand}{a b c:Bool}(ht:P.underlying t=ah .bool)(hx:ev fr x=ah (.bool a))(hy:ev fr y=ah (.bool b))(h:(a==b)=c):RR P n W ⟨dst,.binOp .eql t x y u,ty,pos,after,guard⟩ fr L (.bool c):= .mk λac w hr _=>by
 have e:(eqGuard .eql t x y (.bool a) (.bool b)).run P w= .ok () w:=rfl;have e2:(binOp .eql t (.bool a) (.bool b)).run P w= .ok (.bool c) w:=by
  show((JW t (.bool a) (.bool b))>>=λr=>pure (fW r)).run P w=_
  have:(JW t (.bool a) (.bool b)).run P w= .ok (a==b) w:=Ej ht 9999 w;rw[oJ,this,h];rfl
 simp[execOp,hr.ev hx,hr.ev hy,e,e2]
theorem VO{t u:TypeId}{x y:Operand}{a b c:Bool}(ht:P.underlying t=ah .bool)(hx:ev fr x=ah (.bool a))(hy:ev fr y=ah (.bool b))(h:(!(a==b))=c):RR P n W ⟨dst,.binOp .neq t x y u,ty,pos,after,guard⟩ fr L (.bool c):= .mk λac w hr _=>by
 have e:(eqGuard .neq t x y (.bool a) (.bool b)).run P w= .ok () w:=rfl;have e2:(binOp .neq t (.bool a) (.bool b)).run P w= .ok (.bool c) w:=by
  show((JW t (.bool a) (.bool b))>>=λr=>pure (fW (!r))).run P w=_
  have:(JW t (.bool a) (.bool b)).run P w= .ok (a==b) w:=Ej ht 9999 w;rw[oJ,this];show PY (fW (!(a==b))) w=_
  rw[h]
 simp[execOp,hr.ev hx,hr.ev hy,e,e2]
section
variable{t u:TypeId}{x y:Operand}{l l':List UInt8}
theorem VP(ht:P.underlying t=ah .string)(hx:ev fr x=ah (str l)):RR P n W ⟨dst,.call {callee:= .builtin .len,args:=#[x],argTypes:=#[t]},ty,pos,after,guard⟩ fr L (ap av l.length):= .mk λa w hr _=>by
 have TI:=hr.ev hx;unfold str at TI;have hsz:(JS l.toArray).size=l.length:=eT;simp[qZ,PI,YG,TI,run_underlying ht,goInt,hsz]
theorem uB{b:Bool}(hx:ev fr x=ah (str l))(hy:ev fr y=ah (str l'))(h:decide (l=l')=b):RR P n W ⟨dst,.binOp .eql t x y u,ty,pos,after,guard⟩ fr L (.bool b):= .mk λa w hr _=>by
 have e:(eqGuard .eql t x y (str l) (str l')).run P w= .ok () w:=rfl;have e2:(l==l')=b:=by grind
 unfold str at*;simp[execOp,hr.ev hx,hr.ev hy,e,binOp,YS,e2]
theorem zr{b:Bool}(hx:ev fr x=ah (str l))(hy:ev fr y=ah (str l'))(h:decide (l≠l')=b):RR P n W ⟨dst,.binOp .neq t x y u,ty,pos,after,guard⟩ fr L (.bool b):= .mk λa w hr _=>by
 have e:(eqGuard .neq t x y (str l) (str l')).run P w= .ok () w:=rfl;have e2:(!(l==l'))=b:=by grind
 unfold str at*;simp[execOp,hr.ev hx,hr.ev hy,e,binOp,YS,e2]
theorem wL{i:Int}{b:UInt8}{k:IntKind}(ht:P.underlying t=ah .string)(hx:ev fr x=ah (str l))(hy:ev fr y=ah (.int k i))(h0:0<=i)(h:l[i.toNat]?=ah b):RR P n W ⟨dst,.index t x y,ty,pos,after,guard⟩ fr L (.int .u8 b.toNat):= .mk λa w hr _=>by
 have hlt:=(dK.1 h).1;have e:(if 0<=i then(JS l.toArray)[i.toNat]? else aj)=ah b:=by
  rw[if_pos h0];have hs:i.toNat<(JS l.toArray).size:=by simp_all[YC]
  rw[getElem?_pos (JS l.toArray) i.toNat hs];have:=(dK.1 h).2;exact congrArg ah (by rw[<-this];rfl)
 unfold str at*;simp only[execOp,hr.ev hx,hr.ev hy,YQ,asIntOf,oJ,pA,q6,run_underlying ht,e]
end
end
section
variable{P:Program}{n:Nat}{W:bV}{fr:Fr}{L:List b_}{dst:Option Tmp}{ty:TypeId}{pos:String}{after:Array Edge}{guard:Option (Nat×Bool)}
def At(W:bV)(L:List b_)(p:Addr)(v:Value):Prop:=∀w,Mem W L w->w.cell? p=ah v
theorem jL{W:World}{p:Addr}{v:Value}(h:W.cell? p=ah v):At W L p v:=λ_ hm=>hm.cell h
theorem eY{W0:World}{p:Addr}{v:Value}(ho:ly W0 W)(h:W0.cell? p=ah v):At W L p v:=λ_ hm=>ho.cell hm h
theorem aD{i g off:Nat}{cs:Array Value}{T:TypeId}{v:Value}(hi:L[i]?=ah (aK g cs T))(hv:cs[off]?=ah v):At W L ⟨g,off,aj⟩ v:=λw hm=>by
 rw[cell_of_row w g off cs T (0,0) (hm.get hi)];exact hv
theorem kx{i g off size cap m k:Nat}{e:TypeId}{xs:List Value}{v:Value}(hi:L[i]?=ah (bm e size (ak (ah ⟨g,0,aj⟩) m cap) k xs))(hv:xs[off]?=ah v):At W L ⟨g,off,aj⟩ v:=λw hm=>by
 have h:w.ownsRow 0 e size (ak (ah ⟨g,0,aj⟩) m cap) k xs:=hm.get hi;have:=h.cells (g:=g) I off v hv
 simp_all[ii]
theorem jE{W:World}{b off j:Nat}{xs:List Value}{v:Value}(h:Rd W b off xs)(hv:xs[j]?=ah v):At W L ⟨b,off+j,aj⟩ v:=jL (h j v hv)
theorem aw{t:TypeId}{x:Operand}{p:Addr}{c:Nat}{v:Value}(hT:Ty P t aE c)(hx:ev fr x=ah (aH (ah p)))(h:At W L p v):RR P n W ⟨dst,.load t x,ty,pos,after,guard⟩ fr L v:= .mk λa w hr hm=>by
 simp[execOp,hr.ev hx,YP,yb,loadVar,hT.agg,h w hm]
theorem aW{t:TypeId}{x:Operand}{b off c:Nat}{cs:List Value}(hT:Ty P t aB c)(hx:ev fr x=ah (aH (ah ⟨b,off,aj⟩)))(hl:cs.length=c)(h:∀j v,cs[j]?=ah v->At W L ⟨b,off+j,aj⟩ v):RR P n W ⟨dst,.load t x,ty,pos,after,guard⟩ fr L (aP cs.toArray):= .mk λa w hr hm=>by
 subst hl;have:=run_loadCells_list (P:=P) w ⟨b,off,aj⟩ cs λj v hj=>by rw[ii];exact h j v hj w hm
 simp[execOp,hr.ev hx,YP,yb,loadVar,hT.agg,hT.size,this]
theorem aJ{t:TypeId}{x:Operand}{i g c:Nat}{cs:Array Value}{T:TypeId}(hT:Ty P t aB c)(hx:ev fr x=ah (aH (ah ⟨g,0,aj⟩)))(hi:L[i]?=ah (aK g cs T))(hl:cs.size=c):RR P n W ⟨dst,.load t x,ty,pos,after,guard⟩ fr L (.agg cs):=by
 have:=aW (P:=P) (n:=n) (W:=W) (L:=L) (dst:=dst) (ty:=ty) (pos:=pos) (after:=after) (guard:=guard) (cs:=cs.toList) hT hx J λj v hj=>by rw[cU];exact aD hi (by simpa using hj)
 omega
theorem Zr{W:World}{α:Type}{f:α->Value}{b off j:Nat}{l:List α}(h:Rd W b off (l.map f))(hj:j<l.length):At W L ⟨b,off+j,aj⟩ (f l[j]):=jE h (by grind)
structure Fld(P:Program)(s:TypeId)(f o:Nat):Prop where
 run:∀(a:Addr) w,(YN s (aH (ah a)) f).run P w= .ok (aH (ah (a.add o))) w
def aiz(P:Program)(s:TypeId)(f o:Nat):Bool:=
 match P.underlying s with
 |some (.struct fs)=>(match fs[f]? with|some d=>fM d.offset o&&(match P.info? d.type with|some i=>!(fM i.size 0)|none=>aE)|none=>aE)
 |_=>aE
theorem Fld.of{P:Program}{s:TypeId}{f o:Nat}(h:aiz P s f o=aB):Fld P s f o:=by
 unfold aiz at h
 cases e:P.underlying s with
 |none=>simp_all
 | some d=>
  rw[e]at h
  cases d<;>try (cases h;done)
  rename_i fs
  simp only at h
  cases e2:fs[f]? with
  |none=>simp_all
  | some d=>
   rw[e2]at h;simp only[eE]at h;obtain⟨h1,h2⟩:=h;obtain rfl:=mh h1
   cases e3:P.info? d.type with
   |none=>simp_all
   | some i=>
    rw[e3]at h2;simp only[PG]at h2;have:=J0 h2;exact⟨λa w=>by simp_all[YN,run_underlying,yb,fieldPlace,sizeOf,typeInfo]⟩
theorem Mt{s:TypeId}{x:Operand}{f o b off r:Nat}(hf:Fld P s f o)(hx:ev fr x=ah (aH (ah ⟨b,off,aj⟩)))(hr:off+o=r):RR P n W ⟨dst,.fieldAddr s x f,ty,pos,after,guard⟩ fr L (aH (ah ⟨b,r,aj⟩)):= .mk λa w h _=>by
 subst hr;simp[execOp,h.ev hx,hf.run,ii]
theorem Zs{t e:TypeId}{x y:Operand}{agg:Bool}{c b off len cap r:Nat}{k:IntKind}{i:Int}(ht:P.underlying t=ah (.slice e))(he:Ty P e agg c)(hx:ev fr x=ah (ak (ah ⟨b,off,aj⟩) len cap))(hy:ev fr y=ah (.int k i))(h0:0<=i)(h1:i<len)(hr:off+i.toNat*c=r):
 RR P n W ⟨dst,.indexAddr t x y,ty,pos,after,guard⟩ fr L (aH (ah ⟨b,r,aj⟩)):= .mk λa w h _=>by
 subst hr;simp[execOp,h.ev hx,h.ev hy,YO,asIntOf,run_underlying ht,he.size,h0,h1,ii]
theorem bO{t e:TypeId}{x y:Operand}{agg:Bool}{b off len cap j:Nat}{k:IntKind}(ht:P.underlying t=ah (.slice e))(he:Ty P e agg 1)(hx:ev fr x=ah (ak (ah ⟨b,off,aj⟩) len cap))(hy:ev fr y=ah (.int k (j:Int)))(h1:j<len):
 RR P n W ⟨dst,.indexAddr t x y,ty,pos,after,guard⟩ fr L (aH (ah ⟨b,off+j,aj⟩)):=Zs ht he hx hy J J (by simp)
theorem aR{t e:TypeId}{x y:Operand}{agg:Bool}{c b off len cap j:Nat}{k:IntKind}(ht:P.underlying t=ah (.slice e))(he:Ty P e agg c)(hx:ev fr x=ah (ak (ah ⟨b,off,aj⟩) len cap))(hy:ev fr y=ah (.int k (j:Int)))(h1:j<len):
 RR P n W ⟨dst,.indexAddr t x y,ty,pos,after,guard⟩ fr L (aH (ah ⟨b,off+j*c,aj⟩)):=Zs ht he hx hy J J (by simp)
theorem adY{t e:TypeId}{x y:Operand}{agg:Bool}{c b off len r:Nat}{k:IntKind}{i:Int}(ht:P.underlying t=ah (.array len e))(he:Ty P e agg c)(hx:ev fr x=ah (aH (ah ⟨b,off,aj⟩)))(hy:ev fr y=ah (.int k i))(h0:0<=i)(h1:i<len)(hr:off+i.toNat*c=r):
 RR P n W ⟨dst,.indexAddr t x y,ty,pos,after,guard⟩ fr L (aH (ah ⟨b,r,aj⟩)):= .mk λa w h _=>by
 subst hr;simp[execOp,h.ev hx,h.ev hy,YO,asIntOf,run_underlying ht,he.size,h0,h1,ii,yb]
theorem ij{t e:TypeId}{x y:Operand}{agg:Bool}{b off len j:Nat}{k:IntKind}(ht:P.underlying t=ah (.array len e))(he:Ty P e agg 1)(hx:ev fr x=ah (aH (ah ⟨b,off,aj⟩)))(hy:ev fr y=ah (.int k (j:Int)))(h1:j<len):
 RR P n W ⟨dst,.indexAddr t x y,ty,pos,after,guard⟩ fr L (aH (ah ⟨b,off+j,aj⟩)):=adY ht he hx hy J J (by simp)
theorem jw{t e:TypeId}{x y:Operand}{len j:Nat}{k:IntKind}{cs:Array Value}{v:Value}(ht:P.underlying t=ah (.array len e))(he:Ty P e aE 1)(hx:ev fr x=ah (.agg cs))(hy:ev fr y=ah (.int k (j:Int)))(h1:j<len)(hv:cs[j]?=ah v):
 RR P n W ⟨dst,.index t x y,ty,pos,after,guard⟩ fr L v:= .mk λa w h _=>by
 have h0:(0:Int)<=(j:Int)/\(j:Int)<(len:Int):=by omega
 simp[execOp,h.ev hx,h.ev hy,YQ,asIntOf,run_underlying ht,he.size,h1,part,he.agg,hv]
theorem Ql{t e:TypeId}{x:Operand}{p:Option Addr}{m cap:Nat}(ht:P.underlying t=ah (.slice e))(hx:ev fr x=ah (ak p m cap)):RR P n W ⟨dst,.call {callee:= .builtin .len,args:=#[x],argTypes:=#[t]},ty,pos,after,guard⟩ fr L (ap av m):= .mk λa w hr _=>by
 have TI:=hr.ev hx;simp[qZ,PI,YG,TI,run_underlying ht,goInt]
theorem dW{t e e':TypeId}{x:Operand}{i size m:Nat}{v:Value}{xs:List Value}(ht:P.underlying t=ah (.slice e))(hi:L[i]?=ah (bm e' size v m xs))(hx:ev fr x=ah v):RR P n W ⟨dst,.call {callee:= .builtin .len,args:=#[x],argTypes:=#[t]},ty,pos,after,guard⟩ fr L (ap av m):= .mk λa w hr hm=>by
 have h:w.ownsRow 0 e' size v m xs:=hm.get hi;rcases h.2 with⟨rfl,rfl⟩|⟨g,cap,oM,rfl,_⟩
 exact(Ql (P:=P) (W:=W) (L:=L) ht hx).go a w hr hm;exact(Ql (P:=P) (W:=W) (L:=L) ht hx).go a w hr hm
def SlL(W:bV)(L:List b_)(v:Value)(m:Nat)(xs:List Value):Prop:=∀w,Mem W L w->Sl w v m xs
theorem agR{W:World}{v:Value}{m:Nat}{xs:List Value}(h:Sl W v m xs):SlL W L v m xs:=λw hm=>by
 obtain⟨base,cap,h1,h2,h3,h4⟩:=h;exact⟨base,cap,h1,h2,h3,λhn=>let ⟨b,off,h5,h6⟩:=h4 hn;⟨b,off,h5,λj u hj=>hm.cell (h6 j u hj)⟩⟩
theorem lT{i size m:Nat}{e:TypeId}{v:Value}{xs:List Value}(hi:L[i]?=ah (bm e size v m xs)):SlL W L v m xs:=λ_ hm=>Sl.dF (hm.get hi)
section
variable{Q:Exit->Act->World->Prop}{ops:Array Oper}{rest:List Oper}{d:Nat}
theorem bH{t:TypeId}{x:Operand}{v:Value}{cs:Array Value}(hx:ev fr x=ah v)(hv:v.cells=cs)(hn:dx d n=aB)(h:∀g,TL P n W ops Q rest ((d,aH (ah ⟨g,0,aj⟩))::fr) (L++[aK g cs t])):
 TL P n W ops Q (⟨ah d,.box t x,ty,pos,after,aj⟩::rest) fr L:=kQ I λa w hr hm K hK=>by
 subst hv;have e:(execOp a.eval ⟨ah d,.box t x,ty,pos,after,aj⟩).run P w= .ok (.value (aH (ah ⟨w.heap.size,0,aj⟩))) (w.alloc (.cells v.cells t)):=by
  simp[execOp,hr.ev hx,Instr.box,newVar,newRow]
 unfold gU;rw[e];exact hK _ _ ((h w.heap.size).go _ _ (hr.put hn _) (hm.append (VQ w _) (rI.one (heap_alloc_new w _) λk hk=>by simp_all[aK])))
where
 VQ (w:World) (o:Obj):Gr w (w.alloc o):=(Below.refl _ _).alloc (aX _) _
theorem ot(w:World)(o:Obj):Gr w (w.alloc o):=(Below.refl _ _).alloc (aX _) _
theorem Zt{t:TypeId}{i:TypeInfo}{z:Value}{cs:Array Value}(hi:P.info? t=ah i)(hz:i.zero=ah z)(hv:z.cells=cs)(hn:dx d n=aB)(h:∀g,TL P n W ops Q rest ((d,aH (ah ⟨g,0,aj⟩))::fr) (L++[aK g cs t])):
 TL P n W ops Q (⟨ah d,.alloc t,ty,pos,after,aj⟩::rest) fr L:=kQ I λa w hr hm K hK=>by
 subst hv;have e:(execOp a.eval ⟨ah d,.alloc t,ty,pos,after,aj⟩).run P w= .ok (.value (aH (ah ⟨w.heap.size,0,aj⟩))) (w.alloc (.cells z.cells t)):=by
  simp[execOp,Instr.alloc,zeroValue,typeInfo,hi,hz,newVar,newRow]
 unfold gU;rw[e];exact hK _ _ ((h w.heap.size).go _ _ (hr.put hn _) (hm.append (ot w _) (rI.one (heap_alloc_new w _) λk hk=>by simp_all[aK])))
theorem Qm{t e:TypeId}{m:Nat}{parts:Array (Nat×Operand)}{cs:Array Value}(hrun:∀a w,mK n a fr->(ul t m (parts.map λ(i,x)=>(i,a.eval x))).run P w= .ok (ak (ah ⟨w.heap.size,0,aj⟩) m m) (w.alloc (.cells cs e)))(hn:dx d n=aB)
 (h:∀g,TL P n W ops Q rest ((d,ak (ah ⟨g,0,aj⟩) m m)::fr) (L++[aK g cs e])):
 TL P n W ops Q (⟨ah d,.buildSlice t m parts,ty,pos,after,aj⟩::rest) fr L:=kQ I λa w hr hm K hK=>by
 have e':(execOp a.eval ⟨ah d,.buildSlice t m parts,ty,pos,after,aj⟩).run P w= .ok (.value (ak (ah ⟨w.heap.size,0,aj⟩) m m)) (w.alloc (.cells cs e)):=by
  simp_all[execOp]
 unfold gU;rw[e'];exact hK _ _ ((h w.heap.size).go _ _ (hr.put hn _) (hm.append (ot w _) (rI.one (heap_alloc_new w _) λk hk=>by simp_all[aK])))
theorem Zu{t e:TypeId}{i:TypeInfo}{z v:Value}{c:Nat}(ht:P.underlying t=ah (.slice e))(hi:P.info? e=ah i)(hz:i.zero=ah z)(hc:i.size=c)(hzc:z.cells.size=c)(hv:v.cells.size=c)(h0:0<c)(hs:c<=16777216)(w:World):
 (ul t 1 #[(0,v)]).run P w= .ok (ak (ah ⟨w.heap.size,0,aj⟩) 1 1) (w.alloc (.cells v.cells e)):=by
 have rJ:lO (λi=>ah (i*c,c)) ((DW (1*c)).map (z.cells[· %z.cells.size]!)) [(0,v)]=ah v.cells:=by
  simp only[lO,hv,P_,cU,Array.size_map,Array.size_range,Ed];rw[if_neg (by simp)]
  congr 1
  have key:∀(l:List Value) (k:Nat) (acc:Array Value),k+l.length=acc.size->(l.zipIdx k).foldl (λcs (x:Value×Nat)=>cs.setIfInBounds (0+x.2) x.1) acc=(acc.toList.take k++l).toArray:=by
   intro l
   induction l with
   | nil=>
    simp_all[gD]
   | cons x l ih=>
    intro k acc h;simp only[dj]at h;rw[P3,List.foldl_cons,ih (k+1) _ (by grind)];simp only[cU,JR]
    grind
  have:=key v.cells.toList 0 ((DW c).map (z.cells[· %z.cells.size]!)) (by grind)
  simp only[D9,fD,Yy]at this;rw[<-Array.foldl_toList]
  simpa[Array.toList_zipIdx]using this
 have hne:¬(1*c>2^24):=by omega
 have Zv:¬(1*c=0):=by omega
 simp only[ul,oJ,run_underlying ht,q6,sizeOf,typeInfo,run_program,hi,pA,hc,zeroValue,hz,if_neg hne,if_neg Zv,rJ,newRow];simp[newRow]
theorem adZ{t e:TypeId}{x:Operand}{i:TypeInfo}{z v:Value}{c:Nat}{cs:Array Value}(ht:P.underlying t=ah (.slice e))(hi:P.info? e=ah i)(hz:i.zero=ah z)(hc:i.size=c)(hzc:z.cells.size=c)(hx:ev fr x=ah v)(hcs:v.cells=cs)(hv:cs.size=c)(h0:0<c)(hs:c<=16777216)(hn:dx d n=aB)
 (h:∀g,TL P n W ops Q rest ((d,ak (ah ⟨g,0,aj⟩) 1 1)::fr) (L++[aK g cs e])):TL P n W ops Q (⟨ah d,.buildSlice t 1 #[(0,x)],ty,pos,after,aj⟩::rest) fr L:=by
 subst hcs;exact Qm (λa w hr=>by simpa[hr.ev hx]using Zu ht hi hz hc hzc hv h0 hs w) hn h
theorem tK{t ty e:TypeId}{i:TypeInfo}{z:Value}{size bytes:Nat}(ht:P.underlying t=ah (.slice e))(hi:P.info? e=ah i)(hz:i.zero=ah z)(tL:i.size=size)(hby:i.bytes=bytes)(hzs:z.cells.size=size)(hsz:0<size)(w:World)
 {v:Value} {m:Nat} {xs:List Value} (yh:w.ownsRow 0 e size v m xs) {a:Addr} {k c:Nat} {news:List Value} (hl:news.length=k*size) (TJ:∀j u,news[j]?=ah u->w.cell? (a.add j)=ah u) (h1:∀u∈news,u.oneCell'=aB)
 (xi:m+k<=maxLen) (agS:(m+k)*bytes<=140737488355328):
 ∃v' w',(PJ #[t,t] ty #[v,ak (ah a) k c]).run P w= .ok v' w'/\w'.ownsRow 0 e size v' (m+k) (xs++news)/\w.grownBy w' v.ownBlock/\(∀q,v'.ownBlock=ah q->v.ownBlock=ah q\/w.heap.size<=q):=by
 obtain⟨v',w',hr,h2,h3,h4⟩:=run_append_own (P:=P) w 0 t ty e i z size bytes ht hi hz tL hby hzs hsz v m xs yh a k c news hl TJ h1 xi agS (bC _);refine⟨v',w',hr,h2,h3,λq hq=>?_⟩;have alx:((m+k:Nat):Int)<=9223372036854775807:=by grind[maxLen]
 rcases yh.2 with⟨rfl,rfl⟩|⟨g,cap,oM,rfl,Bb,hg,hnc,hcm,hcs,Mu⟩
 ·by_cases hk:k=0
  simp_all;have qE:=run_append_nil (P:=P) w t ty e i z ht hi hz a k c news (by simp_all) TJ J J (by grind);rw[hr]at qE;injection qE with e1 _
  subst e1;simp only[JX,dM]at hq;exact .inr J
 ·by_cases hroom:m+k<=cap
  ·have Mv:m*i.size+news.length<=oM.size:=by rw[hl,hcs,tL,<-sB];exact yf _ hroom
   have qE:=run_append_room (P:=P) w t ty e i ht hi g m cap oM hg a k c news (by simp_all) TJ h1 hroom Mv;rw[hr]at qE;injection qE with e1 _
   subst e1;exact .inl hq
  have holds:∀j u,xs[j]?=ah u->w.cell? ((⟨g,0,aj⟩:Addr).add j)=ah u:=yh.cells (g:=g) I;have qE:=run_append_grow (P:=P) w t ty e i z ht hi hz ⟨g,0,aj⟩ m cap xs (by rw[tL];exact yh.1) holds a k c news (by simp_all) TJ J J (growslice_fits J (by simp_all));rw[hr]at qE;injection qE with e1 _
  subst e1;simp only[JX,dM]at hq;exact .inr J
structure El(P:Program)(t e:TypeId)(size bytes:Nat):Prop where
 ex:∃i z,P.underlying t=ah (.slice e)/\P.info? e=ah i/\i.zero=ah z/\i.size=size/\i.bytes=bytes/\z.cells.size=size/\0<size
def elB(P:Program)(t e:TypeId)(size bytes:Nat):Bool:=
 (match P.underlying t with|some (.slice e')=>fM e' e|_=>aE)&&(match P.info? e with|some i=>fM i.size size&&fM i.bytes bytes&&(match i.zero with|some z=>fM z.cells.size size|none=>aE)|none=>aE)&&dx 0 size
theorem El.of{t e:TypeId}{size bytes:Nat}(h:elB P t e size bytes=aB):El P t e size bytes:=by
 unfold elB at h;simp only[eE]at h;obtain⟨⟨h1,h2⟩,h3⟩:=h
 cases e1:P.underlying t with
 |none=>simp_all
 | some d=>
  rw[e1]at h1
  cases d<;>try (cases h1;done)
  rename_i e'
  obtain rfl:=mh h1
  cases e2:P.info? e' with
  |none=>simp_all
  | some i=>
   rw[e2]at h2;simp only[eE]at h2;obtain⟨⟨h4,h5⟩,h6⟩:=h2
   cases e3:i.zero with
   |none=>simp_all
   | some z=>
    rw[e3]at h6;exact⟨i,z,e1,e2,e3,mh h4,mh h5,mh h6,nB h3⟩
theorem VR{t e:TypeId}{s x:Operand}{i size bytes m k c:Nat}{v:Value}{xs ys:List Value}{a:Addr}(xD:El P t e size bytes)(hi:L[i]?=ah (bm e size v m xs))(hs:ev fr s=ah v)(hx:ev fr x=ah (ak (ah a) k c))
 (hy:∀j u,ys[j]?=ah u->At W L (a.add j) u) (hl:ys.length=k*size) (h1:∀u∈ys,u.oneCell'=aB) (xi:m+k<=140737488355328) (hb:(m+k)*bytes<=140737488355328) (hn:dx d n=aB)
 (h:∀v',TL P n W ops Q rest ((d,v')::fr) (L.set i (bm e size v' (m+k) (xs++ys)))):
 TL P n W ops Q (⟨ah d,.call {callee:= .builtin .append,args:=#[s,x],argTypes:=#[t,t]},ty,pos,after,aj⟩::rest) fr L:=kQ I λact w hr hm K hK=>by
 obtain⟨inf,z,ht,Hq,hz,tL,hby,hzs,hsz⟩:=xD.ex;obtain⟨v',w',hrun,h2,h3,h4⟩:=tK (ty:=ty) (c:=c) ht Hq hz tL hby hzs hsz w (hm.get hi:w.ownsRow 0 e size v m xs) hl (λj u hj=>hy j u hj w hm) h1 (by grind[maxLen]) hb;have e':(execOp act.eval ⟨ah d,.call {callee:= .builtin .append,args:=#[s,x],argTypes:=#[t,t]},ty,pos,after,aj⟩).run P w= .ok (.value v') w':=by
  simp only[qZ,DX,P4,fm,mU,hr.ev hs,hr.ev hx,oJ,hrun,q6,pA]
 unfold gU;rw[e'];exact hK _ _ ((h v').go _ _ (hr.put hn _) (hm.CW hi h3 h2 h4))
theorem J9{t e:TypeId}{s x:Operand}{i size bytes m k c:Nat}{v:Value}{xs ys:List Value}{p:Addr}{act:Act}{w:World}(xD:El P t e size bytes)(hi:L[i]?=ah (bm e size v m xs))(hs:ev fr s=ah v)(hx:ev fr x=ah (ak (ah p) k c))
 (hy:∀j u,ys[j]?=ah u->w.cell? (p.add j)=ah u) (hl:ys.length=k*size) (h1:∀u∈ys,u.oneCell'=aB) (xi:m+k<=140737488355328) (hb:(m+k)*bytes<=140737488355328) (hn:dx d n=aB)
 (h:∀v',TL P n W ops Q rest ((d,v')::fr) (L.set i (bm e size v' (m+k) (xs++ys)))) (hr:mK n act fr) (hm:Mem W L w):
 wpList P ops Q (⟨ah d,.call {callee:= .builtin .append,args:=#[s,x],argTypes:=#[t,t]},ty,pos,after,aj⟩::rest) act w:=by
 refine wpList_plain I λK hK=>?_;obtain⟨inf,z,ht,Hq,hz,tL,hby,hzs,hsz⟩:=xD.ex;obtain⟨v',w',hrun,h2,h3,h4⟩:=tK (ty:=ty) (c:=c) ht Hq hz tL hby hzs hsz w (hm.get hi:w.ownsRow 0 e size v m xs) hl hy h1 (by grind[maxLen]) hb;have e':(execOp act.eval ⟨ah d,.call {callee:= .builtin .append,args:=#[s,x],argTypes:=#[t,t]},ty,pos,after,aj⟩).run P w= .ok (.value v') w':=by
  simp only[qZ,DX,P4,fm,mU,hr.ev hs,hr.ev hx,oJ,hrun,q6,pA]
 unfold gU;rw[e'];exact hK _ _ ((h v').go _ _ (hr.put hn _) (hm.CW hi h3 h2 h4))
theorem Qn{t e:TypeId}{s x:Operand}{i size bytes m c:Nat}{v:Value}{xs:List Value}(xD:El P t e size bytes)(hi:L[i]?=ah (bm e size v m xs))(hs:ev fr s=ah v)(hx:ev fr x=ah (ak aj 0 c))(hn:dx d n=aB)
 (h:TL P n W ops Q rest ((d,v)::fr) L):
 TL P n W ops Q (⟨ah d,.call {callee:= .builtin .append,args:=#[s,x],argTypes:=#[t,t]},ty,pos,after,aj⟩::rest) fr L:=kQ I λact w hr hm K hK=>by
 obtain⟨inf,z,ht,Hq,hz,tL,hby,hzs,hsz⟩:=xD.ex;have yh:w.ownsRow 0 e size v m xs:=hm.get hi;have e':(execOp act.eval ⟨ah d,.call {callee:= .builtin .append,args:=#[s,x],argTypes:=#[t,t]},ty,pos,after,aj⟩).run P w= .ok (.value v) w:=by
  rcases yh.2 with⟨rfl,rfl⟩|⟨g,cap,oM,rfl,Bb,hg,hnc,hcm,hcs,Mu⟩
  simp[qZ,DX,hr.ev hs,hr.ev hx,PJ,run_underlying ht,sizeOf,typeInfo,Hq,YF,YE];simp[qZ,DX,hr.ev hs,hr.ev hx,PJ,run_underlying ht,sizeOf,typeInfo,Hq,YF,YE,loadCells,hnc,storeCells]
 unfold gU;rw[e'];exact hK _ _ (h.go _ _ (hr.put hn _) hm)
theorem uC{t:TypeId}{p x:Operand}{i g off c:Nat}{cs cs':Array Value}{T:TypeId}{agg:Bool}{v:Value}(hT:Ty P t agg c)(hi:L[i]?=ah (aK g cs T))(hp:ev fr p=ah (aH (ah ⟨g,off,aj⟩)))(hx:ev fr x=ah v)(hv:v.cells.size=c)(h1:v.cells.toList.all fV=aB)
 (Mv:off+c<=cs.size) (hcs:cs'=(cs.toList.take off++v.cells.toList++cs.toList.drop (off+c)).toArray) (h:TL P n W ops Q rest fr (L.set i (aK g cs' T))):
 TL P n W ops Q (⟨aj,.store t p x,ty,pos,after,aj⟩::rest) fr L:=kQ I λact w hr hm K hK=>by
 have hg:w.heap[g]?=ah (.cells cs T (0,0)):=hm.get hi;have hst:=run_storeCells_at P g off T v.cells.toList 0 cs w hg (by simp_all) (pB.1 h1);simp only[mi,uj,hv]at hst;rw[<-hcs]at hst;have e':(execOp act.eval ⟨aj,.store t p x,ty,pos,after,aj⟩).run P w= .ok .skip (w.setRow g cs'):=by
  simp[execOp,hr.ev hp,hr.ev hx,PL,yb,storeVar,hT.size,hv,hst]
 unfold gU;rw[e'];exact hK _ _ (h.go _ _ (hr.rH undef) (hm.CW hi ⟨rfl,rfl,rfl,by simp,λk _ hk=>setRow_other w g k _ (λe=>hk (by subst e;rfl))⟩ (setRow_heap w g cs _ T _ hg) λk hk=> .inl hk))
theorem kR{t:TypeId}{p x:Operand}{i g off c size cap m k:Nat}{xs:List Value}{e:TypeId}{v:Value}(hT:Ty P t aE c)(hi:L[i]?=ah (bm e size (ak (ah ⟨g,0,aj⟩) m cap) k xs))(hp:ev fr p=ah (aH (ah ⟨g,off,aj⟩)))(hx:ev fr x=ah v)(hv:v.cells=#[v])(hc:c=1)(h1:v.oneCell'=aB)
 (Mv:off<xs.length) (h:TL P n W ops Q rest fr (L.set i (bm e size (ak (ah ⟨g,0,aj⟩) m cap) k (xs.set off v)))):
 TL P n W ops Q (⟨aj,.store t p x,ty,pos,after,aj⟩::rest) fr L:=kQ I λact w hr hm K hK=>by
 subst hc;have yh:w.ownsRow 0 e size (ak (ah ⟨g,0,aj⟩) m cap) k xs:=hm.get hi;have aiA:=yh;rcases yh.2 with⟨h0,_⟩|⟨g',Hr,oM,he,Bb,hg,hnc,hcm,hcs,Mu⟩
 grind
 simp only[kq,dM,PH,and_true]at he;obtain⟨rfl,rfl,rfl⟩:=he;have hlen:xs.length=m*size:=yh.1;have aiB:off<oM.size:=by grind
 have hst:=run_storeCells_at P g off e [v] 0 oM w hg (by grind) (by simp_all);simp only[mi,List.length_singleton]at hst;have xj:oM.toList.take off++[v]++oM.toList.drop (off+1)=oM.toList.set off v:=by
  simp_all[D8]
 rw[xj]at hst;have e':(execOp act.eval ⟨aj,.store t p x,ty,pos,after,aj⟩).run P w= .ok .skip (w.setRow g (oM.toList.set off v).toArray):=by
  simp[execOp,hr.ev hp,hr.ev hx,PL,yb,storeVar,hT.size,hv,hst]
 unfold gU;rw[e'];refine hK _ _ (h.go _ _ (hr.rH undef) (hm.CW hi ⟨rfl,rfl,rfl,by simp,λk _ hk=>setRow_other w g k _ (λe=>hk (by subst e;rfl))⟩ ?_ λk hk=> .inl hk));refine⟨by simp_all,.inr ⟨g,cap,_,rfl,Bb,setRow_heap w g oM _ e _ hg,hnc,hcm,by grind,?_⟩⟩;simp only[List.take_set];rw[Mu]
theorem VS{t u e:TypeId}{x:Operand}{m:Nat}{v:Value}{l:List UInt8}(ht:P.underlying t=ah (.slice e))(he:P.underlying e=ah (.int .u8))(hu:P.underlying u=ah .string)(hx:ev fr x=ah v)(hm:m=l.length)(h:SlL W L v m (l.map Ze)):RR P n W ⟨dst,.convert t u x,ty,pos,after,guard⟩ fr L (str l):= .mk λa w hr uA=>by
 subst hm;have TI:=hr.ev hx;obtain⟨base,cap,rfl,_,_,gu⟩:=h w uA;have e':(convert t u (ak base l.length cap)).run P w= .ok (str l) w:=by
  cases l with
  |nil=>
   cases base with
   |none=>simp[convert,run_underlying ht,run_underlying hu,run_underlying he,YJ,str];rfl
   |some p=>simp[convert,run_underlying ht,run_underlying hu,run_underlying he,YJ,str,loadCells,loadCellsFrom];rfl
  |cons b l=>
   obtain⟨g,off,rfl,hh⟩:=gu (by simp);exact Mj ht he hu I hh
 simp_all[execOp]
end
def Enters(P:Program)(f:FuncId):Prop:=∀args w,(callFunc f args).run P w= .ok (.enter f args) w
def TK(P:Program)(f:FuncId):Bool:=match P.funcs[f]? with|some fn=>fn.body.isSome&&!(fn.name== "runtime.NumGoroutine")|none=>aE
theorem Enters.of{f:FuncId}(h:TK P f=aB):Enters P f:=by
 unfold TK at h
 cases e:P.funcs[f]? with
 |none=>simp_all
 |some fn=>
  rw[e]at h;simp only[eE,PG]at h;intro args w;have h1:¬fn.body=none:=λhb=>by simp_all
  simp_all[callFunc]
section
variable{f:FuncId}{ts:Array TypeId}{cl x1 x2 x3 x4 x5:Operand}{v1 v2 v3 v4 v5:Value}{first cap:Array Value}
theorem he0(hf:Enters P f)(hc:ev fr cl=ah (.func (.func f) #[] #[])):∀a w,mK n a fr->(execOp a.eval ⟨dst,.call {callee:= .value cl,args:=#[],argTypes:=ts},ty,pos,after,guard⟩).run P w= .ok (.enter f #[]) w:=λa w hr=>by
 have AR:∀args w,(callFunc f args).run P w= .ok (.enter f args) w:=hf;simp[execOp,resolve,hr.ev hc,py,invoke,AR]
theorem lz(hf:Enters P f)(hc:ev fr cl=ah (.func (.func f) #[] #[]))(h1:ev fr x1=ah v1):∀a w,mK n a fr->(execOp a.eval ⟨dst,.call {callee:= .value cl,args:=#[x1],argTypes:=ts},ty,pos,after,guard⟩).run P w= .ok (.enter f #[v1]) w:=λa w hr=>by
 have AR:∀args w,(callFunc f args).run P w= .ok (.enter f args) w:=hf;simp[execOp,resolve,hr.ev hc,hr.ev h1,py,invoke,AR]
theorem gh(hf:Enters P f)(hc:ev fr cl=ah (.func (.func f) #[] #[]))(h1:ev fr x1=ah v1)(h2:ev fr x2=ah v2):∀a w,mK n a fr->(execOp a.eval ⟨dst,.call {callee:= .value cl,args:=#[x1,x2],argTypes:=ts},ty,pos,after,guard⟩).run P w= .ok (.enter f #[v1,v2]) w:=λa w hr=>by
 have AR:∀args w,(callFunc f args).run P w= .ok (.enter f args) w:=hf;simp[execOp,resolve,hr.ev hc,hr.ev h1,hr.ev h2,py,invoke,AR]
theorem xE(hf:Enters P f)(hc:ev fr cl=ah (.func (.func f) #[] #[]))(h1:ev fr x1=ah v1)(h2:ev fr x2=ah v2)(h3:ev fr x3=ah v3):∀a w,mK n a fr->(execOp a.eval ⟨dst,.call {callee:= .value cl,args:=#[x1,x2,x3],argTypes:=ts},ty,pos,after,guard⟩).run P w= .ok (.enter f #[v1,v2,v3]) w:=λa w hr=>by
 have AR:∀args w,(callFunc f args).run P w= .ok (.enter f args) w:=hf;simp[execOp,resolve,hr.ev hc,hr.ev h1,hr.ev h2,hr.ev h3,py,invoke,AR]
theorem Bc(hf:Enters P f)(hc:ev fr cl=ah (.func (.func f) #[] #[]))(h1:ev fr x1=ah v1)(h2:ev fr x2=ah v2)(h3:ev fr x3=ah v3)(h4:ev fr x4=ah v4):∀a w,mK n a fr->(execOp a.eval ⟨dst,.call {callee:= .value cl,args:=#[x1,x2,x3,x4],argTypes:=ts},ty,pos,after,guard⟩).run P w= .ok (.enter f #[v1,v2,v3,v4]) w:=λa w hr=>by
 have AR:∀args w,(callFunc f args).run P w= .ok (.enter f args) w:=hf;simp[execOp,resolve,hr.ev hc,hr.ev h1,hr.ev h2,hr.ev h3,hr.ev h4,py,invoke,AR]
theorem sD(hf:Enters P f)(hc:ev fr cl=ah (.func (.func f) first cap))(h1:ev fr x1=ah v1):∀a w,mK n a fr->(execOp a.eval ⟨dst,.call {callee:= .value cl,args:=#[x1],argTypes:=ts},ty,pos,after,guard⟩).run P w= .ok (.enter f (first++#[v1]++cap)) w:=λa w hr=>by
 have AR:∀args w,(callFunc f args).run P w= .ok (.enter f args) w:=hf;simp[execOp,resolve,hr.ev hc,hr.ev h1,py,invoke,AR]
end
end
class bM(P:Program)(t:TypeId)(d:outParam TypeDesc):Prop where
 eq:P.underlying t=ah d
class aI(P:Program)(t:TypeId)(agg:outParam Bool)(c:outParam Nat):Prop where
 ty:Ty P t agg c:=by exact Ty.of (by kernel_rfl)
class dS(P:Program)(t:TypeId)(f:Nat)(o:outParam Nat):Prop where
 fld:Fld P t f o:=by exact Fld.of (by kernel_rfl)
class sw(P:Program)(t:TypeId)(e:outParam TypeId)(size bytes:outParam Nat):Prop where
 el:El P t e size bytes:=by exact El.of (by kernel_rfl)
class aF(P:Program)(f:FuncId):Prop where
 en:Enters P f:=by exact Enters.of (by kernel_rfl)
class eH(P:Program)(t:TypeId)(cs:outParam (Array Value)):Prop where
 zero:(P.info? t).map (λi=>i.zero.map Value.cells)=ah (ah cs):=by kernel_rfl
section
variable{P:Program}{n:Nat}{W:bV}{fr:Fr}{L:List b_}{Q:Exit->Act->World->Prop}{ops:Array Oper}{rest:List Oper}{d:Nat}{ty:TypeId}{pos:String}{after:Array Edge}
theorem eH.ex{t:TypeId}{cs:Array Value}[h:eH P t cs]:∃i z,P.info? t=ah i/\i.zero=ah z/\z.cells=cs:=by
 have h1:=h.zero
 simp_all
theorem aY{t:TypeId}{cs:Array Value}[eH P t cs](hn:dx d n=aB)(h:∀g,TL P n W ops Q rest ((d,aH (ah ⟨g,0,aj⟩))::fr) (L++[aK g cs t])):
 TL P n W ops Q (⟨ah d,.alloc t,ty,pos,after,aj⟩::rest) fr L:=by
 obtain⟨i,z,h1,h2,h3⟩:=eH.ex (P:=P) (t:=t);exact Zt h1 h2 h3 hn h
theorem gG{t e:TypeId}{x:Operand}{v:Value}{c bytes:Nat}{cs:Array Value}[xD:sw P t e c bytes](hx:ev fr x=ah v)(hcs:v.cells=cs)(hv:cs.size=c)(hs:yg c 16777216=aB)(hn:dx d n=aB)
 (h:∀g,TL P n W ops Q rest ((d,ak (ah ⟨g,0,aj⟩) 1 1)::fr) (L++[aK g cs e])):TL P n W ops Q (⟨ah d,.buildSlice t 1 #[(0,x)],ty,pos,after,aj⟩::rest) fr L:=by
 obtain⟨inf,z,ht,Hq,hz,tL,hby,hzs,hsz⟩:=xD.el.ex;exact adZ ht Hq hz tL hzs hx hcs hv hsz (nB hs) hn h
theorem Mem.Qo{w:World}(e:TypeId)(size:Nat)(h:Mem W L w):Mem W (L++[bm e size (ak aj 0 0) 0 []]) w:=
 h.append (Gr.refl w) (rI.one (World.ownsRow_nil _ _ _ _) λk hk=>by cases hk)
theorem iJ{c:Code}(e:TypeId)(size:Nat)(h:T P n W c Q fr (L++[bm e size (ak aj 0 0) 0 []])):T P n W c Q fr L:=⟨λa w hr hm=>h.go a w hr (hm.Qo e size)⟩
theorem rK(e:TypeId)(size:Nat)(h:TL P n W ops Q rest fr (L++[bm e size (ak aj 0 0) 0 []])):TL P n W ops Q rest fr L:=⟨λa w hr hm=>h.go a w hr (hm.Qo e size)⟩
theorem ad0{L':List b_}(is:List Nat)(hn:is.Nodup)(hl:L'=is.filterMap λi=>L[i]?)(h:TL P n W ops Q rest fr L'):TL P n W ops Q rest fr L:=⟨λa w hr hm=>h.go a w hr (hm.pick is hn hl)⟩
theorem n_{t e:TypeId}{s x:Operand}{i q g size bytes m:Nat}{v:Value}{xs:List Value}{cs:Array Value}{T:TypeId}[xD:sw P t e size bytes](hi:L[i]?=ah (bm e size v m xs))(hq:L[q]?=ah (aK g cs T))(hs:ev fr s=ah v)(hx:ev fr x=ah (ak (ah ⟨g,0,aj⟩) 1 1))
 (hl:cs.size=size) (h1:cs.toList.all fV=aB) (xi:m+1<=140737488355328) (hb:(m+1)*bytes<=140737488355328) (hn:dx d n=aB)
 (h:∀v',TL P n W ops Q rest ((d,v')::fr) (L.set i (bm e size v' (m+1) (xs++cs.toList)))):
 TL P n W ops Q (⟨ah d,.call {callee:= .builtin .append,args:=#[s,x],argTypes:=#[t,t]},ty,pos,after,aj⟩::rest) fr L:=
 VR xD.el hi hs hx (λj u hj=>by rw[cL.ii,cU];exact aD hq (by simpa using hj)) (by simp_all) (pB.1 h1) xi hb hn h
theorem l6{t e:TypeId}{s x:Operand}{i q g bytes m:Nat}{v u:Value}{xs:List Value}{cs:Array Value}{T:TypeId}[xD:sw P t e 1 bytes](hi:L[i]?=ah (bm e 1 v m xs))(hq:L[q]?=ah (aK g cs T))(hs:ev fr s=ah v)(hx:ev fr x=ah (ak (ah ⟨g,0,aj⟩) 1 1))
 (hu:cs=#[u]) (h1:u.oneCell'=aB) (xi:m+1<=140737488355328) (hb:(m+1)*bytes<=140737488355328) (hn:dx d n=aB)
 (h:∀v',TL P n W ops Q rest ((d,v')::fr) (L.set i (bm e 1 v' (m+1) (xs++[u])))):
 TL P n W ops Q (⟨ah d,.call {callee:= .builtin .append,args:=#[s,x],argTypes:=#[t,t]},ty,pos,after,aj⟩::rest) fr L:=by
 subst hu;exact n_ hi hq hs hx I (by grind) xi hb hn h
theorem fg.front{p:Nat->Prop}{w:World}{L L':List b_}(h:fg p w (L++L')):fg p w L:=
  ⟨λi o hi=>h.all i o (by grind),
   λi j o o' rG hi hj=>h.apart i j o o' rG (by grind) (by grind)⟩
theorem Mem.front{w:World}{L L':List b_}(h:Mem W (L++L') w):Mem W L w:=⟨h.low,h.owns.front⟩
theorem Mw{L':List b_}(h:TL P n W ops Q rest fr L):TL P n W ops Q rest fr (L++L'):=⟨λa w hr hm=>h.go a w hr hm.front⟩
theorem kf{t e:TypeId}{s x:Operand}{i bytes m d':Nat}{v u:Value}{xs:List Value}{ty':TypeId}{pos':String}{Qp:Array Edge}[xD:sw P t e 1 bytes](hi:L[i]?=ah (bm e 1 v m xs))(hx:ev fr x=ah u)(hu:u.cells=#[u])(h1:u.oneCell'=aB)(hn':dx d' n=aB)
 (hs:ev ((d',undef)::fr) s=ah v) (hne:∀z,s= .tmp z->fM d' z=aE) (xi:m+1<=140737488355328) (hb:(m+1)*bytes<=140737488355328) (hn:dx d n=aB)
 (h:∀z v',TL P n W ops Q rest ((d,v')::(d',z)::fr) (L.set i (bm e 1 v' (m+1) (xs++[u])))):
 TL P n W ops Q (⟨ah d',.buildSlice t 1 #[(0,x)],ty',pos',Qp,aj⟩::⟨ah d,.call {callee:= .builtin .append,args:=#[s,.tmp d'],argTypes:=#[t,t]},ty,pos,after,aj⟩::rest) fr L:=by
 have hil:i<L.length:=(dK.1 hi).1;have xF:∀z,ev ((d',z)::fr) s=ah v:=λz=>by
  cases s with
  |tmp q=>simp_all[ev,look]
  |const q=>exact hs
  |global q=>exact hs
  |func q=>exact hs
 refine gG hx hu I I hn' λg=>?_;refine n_ (i:=i) (q:=L.length) (by rw[lP hil];exact hi) (PZ) (xF _) (by simp[ev,look]) I (by grind) xi hb hn λv'=>?_;rw[Y8 _ _ hil];exact Mw (h _ v')
theorem iU{t e:TypeId}{s x:Operand}{i c bytes m d':Nat}{v:Value}{cs:Array Value}{xs:List Value}{ty':TypeId}{pos':String}{Qp:Array Edge}[xD:sw P t e c bytes](hi:L[i]?=ah (bm e c v m xs))(hx:ev fr x=ah (.agg cs))(hc:cs.size=c)(TO:yg c 16777216=aB)(h1:cs.toList.all fV=aB)(hn':dx d' n=aB)
 (hs:ev ((d',undef)::fr) s=ah v) (hne:∀z,s= .tmp z->fM d' z=aE) (xi:m+1<=140737488355328) (hb:(m+1)*bytes<=140737488355328) (hn:dx d n=aB)
 (h:∀z v',TL P n W ops Q rest ((d,v')::(d',z)::fr) (L.set i (bm e c v' (m+1) (xs++cs.toList)))):
 TL P n W ops Q (⟨ah d',.buildSlice t 1 #[(0,x)],ty',pos',Qp,aj⟩::⟨ah d,.call {callee:= .builtin .append,args:=#[s,.tmp d'],argTypes:=#[t,t]},ty,pos,after,aj⟩::rest) fr L:=by
 have hil:i<L.length:=(dK.1 hi).1;have xF:∀z,ev ((d',z)::fr) s=ah v:=λz=>by
  cases s with
  |tmp q=>simp_all[ev,look]
  |const q=>exact hs
  |global q=>exact hs
  |func q=>exact hs
 refine gG hx I hc TO hn' λg=>?_;refine n_ (i:=i) (q:=L.length) (by rw[lP hil];exact hi) (PZ) (xF _) (by simp[ev,look]) hc h1 xi hb hn λv'=>?_;rw[Y8 _ _ hil];exact Mw (h _ v')
theorem eI{e':Exit}(e:TypeId)(size:Nat)(h:E n W e' Q fr (L++[bm e size (ak aj 0 0) 0 []])):E n W e' Q fr L:=⟨λa w hr hm=>h.go a w hr (hm.Qo e size)⟩
def df(e:TypeId)(size m:Nat)(xs:List Value)(f:Value->Value):Spec Value:=⟨λ_=>True,f,λv=>[bm e size v m xs]⟩
end
def Zw(fr:Fr):Op->Option Value
 | .move x=>ev fr x
 | .assign x=>ev fr x
 | .extract t i=>match ev fr t with
  |some (.tuple vs)=>vs[i]?
  |_=>aj
 | .pick c x y=>match ev fr c with
  |some (.bool aB)=>ev fr x
  |some (.bool aE)=>ev fr y
  |_=>aj
 | .unOp .not _ x=>match ev fr x with
  |some (.bool aB)=>ah (.bool aE)
  |some (.bool aE)=>ah (.bool aB)
  |_=>aj
 |_=>aj
section
variable{P:Program}{n:Nat}{W:bV}{fr:Fr}{L:List b_}{dst:Option Tmp}{ty:TypeId}{pos:String}{after:Array Edge}{guard:Option (Nat×Bool)}
theorem qp{op:Op}{v:Value}(h:Zw fr op=ah v):RR P n W ⟨dst,op,ty,pos,after,guard⟩ fr L v:=by
 unfold Zw at h;split at h;exact wK h;exact VN h
 grind[Qi]
 grind[Zo,Zp]
 ·split at h
  ·rename_i e
   simp only[dM]at h;subst h;exact J8 e I
  ·rename_i e
   simp only[dM]at h;subst h;exact J8 e I
  cases h
 cases h
end
section
variable{P:Program}{n:Nat}{W:bV}{fr:Fr}{L:List b_}{Q:Exit->Act->World->Prop}{ops:Array Oper}{rest:List Oper}{d:Nat}{o:Oper}{v:Value}
theorem qg{q e:Nat}{b:Bool}(hg:o.guard=ah (q,b))(hj:(ops[q]?).bind (·.dst)=ah e)(hl:look fr e=ah (.bool b))(h:TL P n W ops Q ({o with guard:=aj}::rest) fr L):TL P n W ops Q (o::rest) fr L:=Dh hg hj hl h
theorem qs{j e:Nat}{b:Bool}{u:Value}(hg:o.guard=ah (j,b))(hj:(ops[j]?).bind (·.dst)=ah e)(hl:look fr e=ah u)(hu:adU b u=aB)(hd:o.dst=ah d)(hn:dx d n=aB)(h:TL P n W ops Q rest ((d,undef)::fr) L):TL P n W ops Q (o::rest) fr L:=adV hg hj hl hu hd hn h
theorem qcT{c:Operand}{x y:Code}(hc:ev fr c=ah (.bool aB))(h:T P n W x Q fr L):T P n W (.cond c x y) Q fr L:=TF hc h
theorem qcF{c:Operand}{x y:Code}(hc:ev fr c=ah (.bool aE))(h:T P n W y Q fr L):T P n W (.cond c x y) Q fr L:=TG hc h
theorem qT{p:Prop}[inst:Decidable p](h:p):decide p=true:=decide_eq_true h
theorem qF{p:Prop}[inst:Decidable p](h:¬p):decide p=false:=decide_eq_false h
variable{dst:Option Tmp}{ty:TypeId}{pos:String}{after:Array Edge}{guard:Option (Nat×Bool)}
theorem ad1{t e:TypeId}{x:Operand}{p:Option Addr}{m cap:Nat}(ht:P.underlying t=ah (.slice e))(hx:ev fr x=ah (ak p m cap)):RR P n W ⟨dst,.call {callee:= .builtin .len,args:=#[x],argTypes:=#[t]},ty,pos,after,guard⟩ fr L (ap av m):=Ql ht hx
theorem aiC{s:TypeId}{x:Operand}{f o b off r:Nat}(hf:Fld P s f o)(hx:ev fr x=ah (aH (ah ⟨b,off,aj⟩)))(hr:off+o=r):RR P n W ⟨dst,.fieldAddr s x f,ty,pos,after,guard⟩ fr L (aH (ah ⟨b,r,aj⟩)):=Mt hf hx hr
end
section
variable{P:Program}{n:Nat}{W:bV}{fr:Fr}{L:List b_}{Q:Exit->Act->World->Prop}{ops:Array Oper}{rest:List Oper}{d:Nat}{o:Oper}{v:Value}{dst:Option Tmp}{ty:TypeId}{pos:String}{after:Array Edge}{guard:Option (Nat×Bool)}{t u:TypeId}{x y:Operand}{k:IntKind}{m m':Int}
theorem QV(hr:RR P n W o fr L v)(h:TL P n W ops Q rest ((d,v)::fr) L)(hg:o.guard=none:=by exact I)(hd:o.dst=ah d:=by exact I)(hn:dx d n=true:=by exact I):TL P n W ops Q (o::rest) fr L:=dy hr hg hd hn h
theorem QP{op:Op}(h:Zw fr op=ah v:=by exact I):RR P n W ⟨dst,op,ty,pos,after,guard⟩ fr L v:=qp h
theorem QS{l:List UInt8}(hx:ev fr x=ah (str l):=by exact I)(ht:P.underlying t=ah .string:=by exact bM.eq):RR P n W ⟨dst,.call {callee:= .builtin .len,args:=#[x],argTypes:=#[t]},ty,pos,after,guard⟩ fr L (ap av l.length):=VP ht hx
theorem QL{e:TypeId}{p:Option Addr}{m cap:Nat}(hx:ev fr x=ah (ak p m cap):=by exact I)(ht:P.underlying t=ah (.slice e):=by exact bM.eq):RR P n W ⟨dst,.call {callee:= .builtin .len,args:=#[x],argTypes:=#[t]},ty,pos,after,guard⟩ fr L (ap av m):=ad1 ht hx
theorem QA{s:TypeId}{f o b off r:Nat}(hx:ev fr x=ah (aH (ah ⟨b,off,aj⟩)):=by exact I)(hf:Fld P s f o:=by exact dS.fld)(hr:off+o=r:=by exact I):RR P n W ⟨dst,.fieldAddr s x f,ty,pos,after,guard⟩ fr L (aH (ah ⟨b,r,aj⟩)):=Mt hf hx hr
theorem QlT(hx:ev fr x=ah (.int k m):=by exact I)(hy:ev fr y=ah (.int k m'):=by exact I)(h:m<m':=by omega):RR P n W ⟨dst,.binOp .lss t x y u,ty,pos,after,guard⟩ fr L (.bool aB):=fI hx hy (decide_eq_true h)
theorem QlF(hx:ev fr x=ah (.int k m):=by exact I)(hy:ev fr y=ah (.int k m'):=by exact I)(h:¬(m<m'):=by omega):RR P n W ⟨dst,.binOp .lss t x y u,ty,pos,after,guard⟩ fr L (.bool aE):=fI hx hy (decide_eq_false h)
theorem QmT(hx:ev fr x=ah (.int k m):=by exact I)(hy:ev fr y=ah (.int k m'):=by exact I)(h:m<=m':=by omega):RR P n W ⟨dst,.binOp .leq t x y u,ty,pos,after,guard⟩ fr L (.bool aB):=Ba hx hy (decide_eq_true h)
theorem QmF(hx:ev fr x=ah (.int k m):=by exact I)(hy:ev fr y=ah (.int k m'):=by exact I)(h:¬(m<=m'):=by omega):RR P n W ⟨dst,.binOp .leq t x y u,ty,pos,after,guard⟩ fr L (.bool aE):=Ba hx hy (decide_eq_false h)
theorem QgT(hx:ev fr x=ah (.int k m):=by exact I)(hy:ev fr y=ah (.int k m'):=by exact I)(h:m'<m:=by omega):RR P n W ⟨dst,.binOp .gtr t x y u,ty,pos,after,guard⟩ fr L (.bool aB):=eO hx hy (decide_eq_true h)
theorem QgF(hx:ev fr x=ah (.int k m):=by exact I)(hy:ev fr y=ah (.int k m'):=by exact I)(h:¬(m'<m):=by omega):RR P n W ⟨dst,.binOp .gtr t x y u,ty,pos,after,guard⟩ fr L (.bool aE):=eO hx hy (decide_eq_false h)
theorem QhT(hx:ev fr x=ah (.int k m):=by exact I)(hy:ev fr y=ah (.int k m'):=by exact I)(h:m'<=m:=by omega):RR P n W ⟨dst,.binOp .geq t x y u,ty,pos,after,guard⟩ fr L (.bool aB):=fX hx hy (decide_eq_true h)
theorem QhF(hx:ev fr x=ah (.int k m):=by exact I)(hy:ev fr y=ah (.int k m'):=by exact I)(h:¬(m'<=m):=by omega):RR P n W ⟨dst,.binOp .geq t x y u,ty,pos,after,guard⟩ fr L (.bool aE):=fX hx hy (decide_eq_false h)
theorem QeT(hx:ev fr x=ah (.int k m):=by exact I)(hy:ev fr y=ah (.int k m'):=by exact I)(h:m=m':=by omega):RR P n W ⟨dst,.binOp .eql t x y u,ty,pos,after,guard⟩ fr L (.bool aB):=dc hx hy (decide_eq_true h)
theorem QeF(hx:ev fr x=ah (.int k m):=by exact I)(hy:ev fr y=ah (.int k m'):=by exact I)(h:¬(m=m'):=by omega):RR P n W ⟨dst,.binOp .eql t x y u,ty,pos,after,guard⟩ fr L (.bool aE):=dc hx hy (decide_eq_false h)
theorem QnT(hx:ev fr x=ah (.int k m):=by exact I)(hy:ev fr y=ah (.int k m'):=by exact I)(h:m≠m':=by omega):RR P n W ⟨dst,.binOp .neq t x y u,ty,pos,after,guard⟩ fr L (.bool aB):=dh hx hy (decide_eq_true h)
theorem QnF(hx:ev fr x=ah (.int k m):=by exact I)(hy:ev fr y=ah (.int k m'):=by exact I)(h:¬(m≠m'):=by omega):RR P n W ⟨dst,.binOp .neq t x y u,ty,pos,after,guard⟩ fr L (.bool aE):=dh hx hy (decide_eq_false h)
theorem QaA{r:Int}(hx:ev fr x=ah (ap av m):=by exact I)(hy:ev fr y=ah (ap av m'):=by exact I)(h0: -9223372036854775808<=m+m':=by omega)(h1:m+m'<=9223372036854775807:=by omega)(hr:m+m'=r:=by exact I):RR P n W ⟨dst,.binOp .add t x y u,ty,pos,after,guard⟩ fr L (ap av r):=dN hx hy h0 h1 hr
theorem QaS{r:Int}(hx:ev fr x=ah (ap av m):=by exact I)(hy:ev fr y=ah (ap av m'):=by exact I)(h0: -9223372036854775808<=m-m':=by omega)(h1:m-m'<=9223372036854775807:=by omega)(hr:m-m'=r:=by exact I):RR P n W ⟨dst,.binOp .sub t x y u,ty,pos,after,guard⟩ fr L (ap av r):=ey hx hy h0 h1 hr
theorem QaM{r:Int}(hx:ev fr x=ah (ap av m):=by exact I)(hy:ev fr y=ah (ap av m'):=by exact I)(h0: -9223372036854775808<=m*m':=by omega)(h1:m*m'<=9223372036854775807:=by omega)(hr:m*m'=r:=by exact I):RR P n W ⟨dst,.binOp .mul t x y u,ty,pos,after,guard⟩ fr L (ap av r):=Mr hx hy h0 h1 hr
end
class Cd(p:Prop)(q:outParam Prop):Prop where
 go:q->p
theorem QZ{p q:Prop}[h:Cd p q](x:q):p:=h.go x
section
variable{P:Program}{n:Nat}{W:bV}{fr:Fr}{L:List b_}{Q:Exit->Act->World->Prop}{ops:Array Oper}{x y:Code}{id:Nat}{l:List Oper}{K:Act->World->Prop}
instance:Cd (TL P n W ops Q [] fr L) (E n W .normal Q fr L):=⟨A'⟩
instance:Cd (T P n W (x.seq y) Q fr L) (T P n W x (Exit.then (y.wp P Q) Q) fr L):=⟨bZ⟩
instance:Cd (T P n W (.region id l.toArray aE) Q fr L) (TL P n W l.toArray Q l fr L):=⟨bx⟩
instance:Cd (T P n W .skip Q fr L) (E n W .normal Q fr L):=⟨Zh⟩
instance:Cd (T P n W (.exit id) Q fr L) (E n W (.exit id) Q fr L):=⟨agH⟩
instance:Cd (T P n W .ret Q fr L) (E n W .ret Q fr L):=⟨aiy⟩
instance:Cd (T P n W (.block id x) Q fr L) (T P n W x (uk id Q) fr L):=⟨adR⟩
instance:Cd (E n W .normal (Exit.then (y.wp P Q) Q) fr L) (T P n W y Q fr L):=⟨J6⟩
instance:Cd (E n W (.exit id) (Exit.then K Q) fr L) (E n W (.exit id) Q fr L):=⟨adS⟩
instance:Cd (E n W .ret (Exit.then K Q) fr L) (E n W .ret Q fr L):=⟨adT⟩
instance:Cd (E n W .normal (uk id Q) fr L) (E n W .normal Q fr L):=⟨Zi⟩
instance:Cd (E n W .ret (uk id Q) fr L) (E n W .ret Q fr L):=⟨Zj⟩
end
section
variable{α β:Type}
theorem zA{a:α}{l m:List α}:a::l++m=a::(l++m):=rfl
theorem zB{l:List α}:[]++l=l:=rfl
theorem zC{l:List α}:l++[]=l:=fj l
theorem zD{f:α->Option β}{a:α}{l:List α}:ux f (a::l)=match f a with
 |none=>ux f l
 |some b=>b::ux f l:=List.filterMap_cons
theorem zE{f:α->Option β}:ux f []=[]:=rfl
theorem zF{a:α}{l:List α}{i:Nat}:(a::l)[i+1]?=l[i]?:=Y5
theorem zG{a:α}{l:List α}:(a::l)[0]?=ah a:=rfl
theorem zH{a b:α}{l:List α}:(a::l).set 0 b=b::l:=rfl
theorem zI{a b:α}{l:List α}{i:Nat}:(a::l).set (i+1) b=a::l.set i b:=rfl
end
section
variable{P:Program}{n:Nat}{W:bV}{fr:Fr}{L:List b_}{Q:Exit->Act->World->Prop}{ops:Array Oper}{rest:List Oper}{d:Nat}{dst:Option Tmp}{ty:TypeId}{pos:String}{after:Array Edge}{guard:Option (Nat×Bool)}
def sE(fr:Fr):List (Nat×Operand)->Option (List (Nat×Value))
 |[]=>ah []
 |(i,x)::r=>match ev fr x,sE fr r with|some v,ah l=>ah ((i,v)::l)|_,_=>aj
theorem sF{a:Act}(hr:mK n a fr):∀(l:List (Nat×Operand)) (vs:List (Nat×Value)),sE fr l=ah vs->l.map (λ(i,x)=>(i,a.eval x))=vs
 |[],vs,h=>by simp_all[sE]
 | (i,x)::r,vs,h=>by
  simp only[sE]at h;split at h
  ·rename_i v l h1 h2
   simp only[dM]at h;subst h;simp[hr.ev h1,sF hr r l h2]
  cases h
theorem aZ{t:TypeId}{parts:Array (Nat×Operand)}{ps:List (Nat×Value)}{cs:Array Value}(hp:sE fr parts.toList=ah ps)(hrun:∀w,(da t ps.toArray).run P w= .ok (.agg cs) w):RR P n W ⟨dst,.build t parts,ty,pos,after,guard⟩ fr L (.agg cs):= .mk λa w hr _=>by
 have e:(parts.map λ(i,x)=>(i,a.eval x))=ps.toArray:=by
  grind[sF,DV]
 simp_all[execOp]
theorem Mx(c0:Nat->Option (Nat×Nat))(Ma:∀i,c0 i=ah (i,1)):∀(vs:List Value) (k:Nat) (acc:Array Value),k+vs.length<=acc.size->(∀v∈vs,v.cells=#[v])->lO c0 acc ((vs.zipIdx k).map λ(v,i)=>(i,v))=ah (acc.toList.take k++vs++acc.toList.drop (k+vs.length)).toArray
 |[],k,acc,h,_=>by simp[lO]
 | v ::vs,k,acc,h,h1=>by
  simp only[dj]at h;have hv:=h1 v (by simp);rw[P3,fm];simp only[lO,Ma,hv];rw[if_neg (by grind)];have e:((#[v]:Array Value).zipIdx.foldl (λcs (x:Value×Nat)=>cs.setIfInBounds (k+x.2) x.1) acc)=acc.setIfInBounds k v:=by simp
  rw[e,Mx c0 Ma vs (k+1) _ (by grind) (λu hu=>h1 u (by grind))]
  congr 2
  have hA:(acc.toList.take k).length=k:=by grind
  have hA1:(acc.toList.take k++[v]).length=k+1:=by simp_all
  have e2:acc.toList.set k v=(acc.toList.take k++[v])++acc.toList.drop (k+1):=by
   rw[D8,if_pos (by grind)];simp
  simp only[JR,dj];rw[e2,P6 hA1,<-kw,P7 hA1,kw];simp only[eu,mg,fD];rw[show k+1+vs.length=k+(vs.length+1)by omega]
theorem Zx{t e:TypeId}{bytes:Nat}(xD:El P t e 1 bytes)(vs:List Value)(h1:∀v∈vs,v.cells=#[v])(h0:0<vs.length)(hm:vs.length<=16777216)(w:World):
 (ul t vs.length (vs.zipIdx.map λ(v,i)=>(i,v)).toArray).run P w= .ok (ak (ah ⟨w.heap.size,0,aj⟩) vs.length vs.length) (w.alloc (.cells vs.toArray e)):=by
 obtain⟨i,z,ht,hi,hz,hc,_,hzc,_⟩:=xD.ex;have rJ:=Mx (λi=>ah (i*1,1)) (by simp) vs 0 ((DW (vs.length*1)).map (z.cells[· %z.cells.size]!)) (by simp) h1
 simp only[D9,fD,cU]at rJ;rw[ia (by simp)]at rJ;simp only[fj]at rJ;have hne:¬(vs.length*1>2^24):=by omega
 have Zv:¬(vs.length*1=0):=by omega
 simp only[ul,oJ,run_underlying ht,q6,sizeOf,typeInfo,run_program,hi,pA,hc,zeroValue,hz,if_neg hne,if_neg Zv];simp only[rJ,newRow];simp
theorem TP{t e:TypeId}{bytes m:Nat}{parts:Array (Nat×Operand)}(vs:List Value)[xD:sw P t e 1 bytes](hp:sE fr parts.toList=ah (vs.zipIdx.map λ(v,i)=>(i,v)))(hm:vs.length=m)(h0:dx 0 m=aB)(h1:∀v∈vs,v.cells=#[v])(hs:yg m 16777216=aB)(hn:dx d n=aB)
 (h:∀g,TL P n W ops Q rest ((d,ak (ah ⟨g,0,aj⟩) m m)::fr) (L++[aK g vs.toArray e])):TL P n W ops Q (⟨ah d,.buildSlice t m parts,ty,pos,after,aj⟩::rest) fr L:=by
 subst hm;refine Qm (λa w hr=>?_) hn h;have e:(parts.map λ(i,x)=>(i,a.eval x))=(vs.zipIdx.map λ(v,i)=>(i,v)).toArray:=by
  grind[sF,DV]
 rw[e];exact Zx xD.el vs h1 (nB h0) (nB hs) w
theorem Mem.aiD{w:World}{i g m size:Nat}{cs:Array Value}{e:TypeId}(h:Mem W L w)(hi:L[i]?=ah (aK g cs e))(hc:cs.size=m*size)(hm:m<=140737488355328):Mem W (L.set i (bm e size (ak (ah ⟨g,0,aj⟩) m m) m cs.toList)) w:=
 h.CW hi ⟨rfl,rfl,rfl,aX _,λ_ _ _=>rfl⟩ ⟨by omega,.inr ⟨g,m,cs,rfl,bC _,h.get hi,aX _,by grind[maxLen],hc,by simp_all[gD]⟩⟩ λk hk=> .inl hk
theorem zt{i g m:Nat}{cs:Array Value}{e:TypeId}(size:Nat)(hi:L[i]?=ah (aK g cs e))(hc:cs.size=m*size)(hm:m<=140737488355328)(h:TL P n W ops Q rest fr (L.set i (bm e size (ak (ah ⟨g,0,aj⟩) m m) m cs.toList))):TL P n W ops Q rest fr L:=
 ⟨λa w hr uA=>h.go a w hr (uA.aiD hi hc hm)⟩
theorem aV{t:TypeId}{p x:Operand}{i g c:Nat}{cs cs':Array Value}{T:TypeId}{agg:Bool}[hT:aI P t agg c](hi:L[i]?=ah (aK g cs T))(hp:ev fr p=ah (aH (ah ⟨g,0,aj⟩)))(hx:ev fr x=ah (.agg cs'))(hv:cs'.size=c)(h1:cs'.toList.all fV=aB)
 (hc:cs.size=c) (h:TL P n W ops Q rest fr (L.set i (aK g cs' T))):
 TL P n W ops Q (⟨aj,.store t p x,ty,pos,after,aj⟩::rest) fr L:=
 uC hT.ty hi hp hx hv h1 J (by
  show cs'=(cs.toList.take 0++cs'.toList++cs.toList.drop (0+c)).toArray
  grind) h
theorem bD{t:TypeId}{p x:Operand}{i g off:Nat}{cs:Array Value}{T:TypeId}{agg:Bool}{v:Value}[hT:aI P t agg 1](hi:L[i]?=ah (aK g cs T))(hp:ev fr p=ah (aH (ah ⟨g,off,aj⟩)))(hx:ev fr x=ah v)(hv:v.cells=#[v])(h1:v.oneCell'=aB)
 (hc:dx off cs.size=aB) (h:TL P n W ops Q rest fr (L.set i (aK g (cs.setIfInBounds off v) T))):
 TL P n W ops Q (⟨aj,.store t p x,ty,pos,after,aj⟩::rest) fr L:=by
 have hlt:off<cs.size:=nB hc;refine uC hT.ty hi hp hx (by grind) (by simp_all) J ?_ h;rw[hv];apply Array.ext';simp only[JR];rw[D8,if_pos (by simpa using hlt)];simp
theorem Ek{t u:TypeId}{x y:Operand}{xs ys:Array Value}{b:Bool}(hx:ev fr x=ah (.agg xs))(hy:ev fr y=ah (.agg ys))(hg:P.eqGuardType P.depth t=aE)(h:∀w,(pz 10000 t (.agg xs) (.agg ys)).run P w= .ok b w):RR P n W ⟨dst,.binOp .eql t x y u,ty,pos,after,guard⟩ fr L (.bool b):= .mk λa w hr _=>by
 simp only[execOp,hr.ev hx,hr.ev hy,oJ,run_eqGuard_agg w .eql t x y xs ys hg,q6,run_eql_struct,h w];rfl
theorem uD{t u:TypeId}{x y:Operand}{xs ys:Array Value}{b c:Bool}(hx:ev fr x=ah (.agg xs))(hy:ev fr y=ah (.agg ys))(hg:P.eqGuardType P.depth t=aE)(h:∀w,(pz 10000 t (.agg xs) (.agg ys)).run P w= .ok b w)(hc:(!b)=c):RR P n W ⟨dst,.binOp .neq t x y u,ty,pos,after,guard⟩ fr L (.bool c):= .mk λa w hr _=>by
 subst hc;simp only[execOp,hr.ev hx,hr.ev hy,oJ,run_eqGuard_agg w .neq t x y xs ys hg,q6,run_neq_struct,h w];rfl
theorem dH{fn:Func}{R:Ending->World->Prop}{t u:Tmp}{T:TypeId}{i g c:Nat}{cs:Array Value}{T':TypeId}{z:Value}[hT:aI P T aB c](mV:fn.results=#[.cell t T,.tmp u])(hp:look fr t=ah (aH (ah ⟨g,0,aj⟩)))(hi:L[i]?=ah (aK g cs T'))(hc:cs.size=c)(hz:look fr u=ah z)
 (h:∀w,Mem W L w->R (.returned (.tuple #[.agg cs,z])) w):E n W .ret (bodyPost P fn R) fr L:=
 H6 λa w hr uA=>⟨_,by
  have af5:=run_loadCells_list (P:=P) w ⟨g,0,aj⟩ cs.toList λj v hj=>by rw[ii,cU];exact aD hi (by simp_all) w uA
  have hl:(loadCells ⟨g,0,aj⟩ c).run P w= .ok cs w:=by simp_all
  have hv:(loadVar T ⟨g,0,aj⟩).run P w= .ok (.agg cs) w:=by simp[loadVar,hT.ty.agg,hT.ty.size,hl]
  simp[results,mV,x7,hr.get t _ hp,hr.get u z hz,asAddr,hv],h w uA⟩
theorem iW{fn:Func}{R:Ending->World->Prop}{t u s:Tmp}{T:TypeId}{i g c:Nat}{cs:Array Value}{T':TypeId}{z y:Value}[hT:aI P T aB c](mV:fn.results=#[.cell t T,.tmp u,.tmp s])(hp:look fr t=ah (aH (ah ⟨g,0,aj⟩)))(hi:L[i]?=ah (aK g cs T'))(hc:cs.size=c)(hz:look fr u=ah z)(hy:look fr s=ah y)
 (h:∀w,Mem W L w->R (.returned (.tuple #[.agg cs,z,y])) w):E n W .ret (bodyPost P fn R) fr L:=
 H6 λa w hr uA=>⟨_,by
  have af5:=run_loadCells_list (P:=P) w ⟨g,0,aj⟩ cs.toList λj v hj=>by rw[ii,cU];exact aD hi (by simp_all) w uA
  have hl:(loadCells ⟨g,0,aj⟩ c).run P w= .ok cs w:=by simp_all
  have hv:(loadVar T ⟨g,0,aj⟩).run P w= .ok (.agg cs) w:=by simp[loadVar,hT.ty.agg,hT.ty.size,hl]
  simp[results,mV,x7,hr.get t _ hp,hr.get u z hz,hr.get s y hy,asAddr,hv],h w uA⟩
theorem gT{fn:Func}{R:Ending->World->Prop}{t:Tmp}{T:TypeId}{i g c:Nat}{cs:Array Value}{T':TypeId}[hT:aI P T aB c](mV:fn.results=#[.cell t T])(hp:look fr t=ah (aH (ah ⟨g,0,aj⟩)))(hi:L[i]?=ah (aK g cs T'))(hc:cs.size=c)
 (h:∀w,Mem W L w->R (.returned (.agg cs)) w):E n W .ret (bodyPost P fn R) fr L:=
 H6 λa w hr uA=>⟨_,by
  have af5:=run_loadCells_list (P:=P) w ⟨g,0,aj⟩ cs.toList λj v hj=>by rw[ii,cU];exact aD hi (by simp_all) w uA
  have hl:(loadCells ⟨g,0,aj⟩ c).run P w= .ok cs w:=by simp_all
  have hv:(loadVar T ⟨g,0,aj⟩).run P w= .ok (.agg cs) w:=by simp[loadVar,hT.ty.agg,hT.ty.size,hl]
  simp[results,mV,x7,hr.get t _ hp,asAddr,hv],h w uA⟩
end
section
variable{P:Program}{ops:Array Oper}{md:ur}{Q:Exit->Act->World->Prop}{U:World->Prop}
theorem jM{K:Act->World->Prop}{i:Nat}{o:Oper}{a:Act}{w:World}(hi:ops[i]?=ah o)(h:wpList P ops (Exit.then K Q) [o] a w):wpOp P ops Q i K a w:=by
 have key:∀r,o.upon P a (wpList P ops (Exit.then K Q) []) (Exit.then K Q) r->o.upon P a K Q r:=λr hr=>by
  cases r with
  | ok x w'=>
   cases x<;>first
    |exact hr
    |(refine YH hr λe Pz he=>?_;cases e<;>exact he)
    |exact Rows.mono hr λv Pz he=>he
  |halt x w'=>cases x<;>exact hr
 unfold wpList at h;unfold wpOp;rw[hi];simp only;split
 ·rename_i hw
  rw[if_pos hw]at h;rcases h with h|h
  exact .inl (key _ h);exact .inr h
 rename_i hw
 rw[if_neg hw]at h;exact h
def sG(P:Program)(md:ur)(ops:Array Oper)(Q:Exit->Act->World->Prop)(U:World->Prop):Nat->Array Bool->Act->(World->Prop)->Prop
 |0,listed,a,S=>jd md ops listed=[]/\∀w,S w->Q .normal a w
 | f+1,listed,a,S=>(jd md ops listed=[]->∀w,S w->Q .normal a w)/\
  ∀i∈jd md ops listed,∀w,S w->wpOp P ops Q i (λa' w'=>∃S',jv S'/\(∀x,S' x->U x)/\S' w'/\sG P md ops Q U f (listed.setIfInBounds i aB) a' S') a w
theorem yl:∀(f:Nat) (listed:Array Bool) (a:Act) (S:World->Prop) (w:World),S w->sG P md ops Q U f listed a S->wpAny P md ops Q f listed a w
 |0,_,_,_,w,hw,h=>⟨h.1,h.2 w hw⟩
 |f+1,_,_,_,w,hw,h=>⟨λh0=>h.1 h0 w hw,λi hi=>wpOp_mono (λa' w' ⟨S',_,_,uf,h'⟩=>yl f _ a' S' w' uf h') (h.2 i hi w hw)⟩
theorem zu{i:Nat}{oi:Oper}{v:Value}(hi:ops[i]?=ah oi)(mJ:∀(j:Nat) (o:Oper) cs b,ops[j]?=ah o->o.op≠ .select cs b)
 (hQ:∀c a w,Q (.panic c) (a.put oi.dst v) w->Q (.panic c) a w):
 ∀ (f:Nat) (listed:Array Bool) (a:Act) (S:World->Prop),jv S->(∀x,S x->U x)->
  (∀j oj,ops[j]?=ah oj->j≠i->listed.getD j aB=aE->(∀e∈oj.after,A5 md e=aB->e.on≠i)->oi.apart ops oj=aB)->
  i∈jd md ops listed->jK P ops U oi v a->
  sG P md ops Q U f (listed.setIfInBounds i aB) (a.put oi.dst v) S->sG P md ops Q U (f+1) listed a S:=by
 intro f
 induction f with
 | zero=>
  intro listed a S lI Zy _ hr hy H;refine⟨λh=>(by simp_all),λj hj w hw=>?_⟩
  by_cases L_:j=i
  subst L_;exact(hy.mono Zy).wpOp hi lI hw λw' uf=>⟨S,lI,Zy,uf,H⟩;have:=ready_mono (md:=md) hj L_;rw[H.1]at this;cases this
 | succ f ih=>
  intro listed a S lI Zy H5 hr hy H;have hun:=(mem_ready.1 hr).1;refine⟨λh=>(by simp_all),λj hj w hw=>?_⟩
  by_cases L_:j=i
  subst L_;exact(hy.mono Zy).wpOp hi lI hw λw' uf=>⟨S,lI,Zy,uf,H⟩;have h1:=H.2 j (ready_mono hj L_) w hw;obtain⟨agF,oj,TB,q9⟩:=mem_ready.1 hj;have adP:∀e∈oj.after,A5 md e=aB->e.on≠i:=λe he hb J3=>by
   grind
  have h2:=H4 TB (H5 j oj TB L_ agF adP) (λcs b=>mJ i oi cs b hi) (λcs b=>mJ j oj cs b TB) hQ hy h1;have Qc:∀k ok,ops[k]?=ah ok->k≠i->(listed.setIfInBounds j aB).getD k aB=aE->
   (∀e∈ok.after,A5 md e=aB->e.on≠i)->oi.apart ops ok=true:=λk ok hk hki hun hno=>by
   refine H5 k ok hk hki ?_ hno
   by_cases hjk:j=k
   simp_all
   simp_all
  refine wpOp_mono (λa' w' h3=>?_) h2;obtain⟨h3,S',nl,kK,uf,h4⟩:=h3;refine⟨S',nl,kK,uf,ih (listed.setIfInBounds j aB) a' S' nl kK Qc (ready_mono hr (Qa L_)) h3 ?_⟩;rw[Yx _ _ L_];exact h4
end
section
variable{P:Program}{n:Nat}{W:bV}{Q:Exit->Act->World->Prop}{fr:Fr}{L L0:List b_}{ops:Array Oper}{ks:List Bool}{o:Oper}{rest:List Oper}{v:Value}{d:Nat}
theorem Zz{L':List b_}(is:List Nat)(hn:is.Nodup)(hl:L'=is.filterMap λi=>L[i]?):∀w,Mem W L w->Mem W L' w:=λ_ h=>h.pick is hn hl
theorem Di:∀w,Mem W L w->Mem W [] w:=λ_ h=>⟨h.low,fg.nil _⟩
end
inductive Ord where
 |done
 |calm (i:Nat) (t:Ord)
 |one (i:Nat) (t:Ord)
 |two (i:Nat) (t:Ord) (j:Nat) (u:Ord)
 |three (i:Nat) (t:Ord) (j:Nat) (u:Ord) (k:Nat) (v:Ord)
def Ord.size:Ord->Nat
 | .done=>0
 | .calm _ t=>t.size+1
 | .one _ t=>t.size+1
 | .two _ t _ _=>t.size+1
 | .three _ t _ _ _ _=>t.size+1
section
variable{P:Program}{ops:Array Oper}{md:ur}{Q:Exit->Act->World->Prop}{U:World->Prop}
def ZA(P:Program)(ops:Array Oper)(Q:Exit->Act->World->Prop)(U:World->Prop):Ord->Act->(World->Prop)->Prop
 | .calm i t,a,S=>∃o v,ops[i]?=ah o/\(if kM o (yielded ops a.tmps)then ∀w,U w->pF P o a w v else v=undef)/\ZA P ops Q U t (a.put o.dst v) S
 | .one i t,a,S=>∃o,ops[i]?=ah o/\∀w,S w->wpList P ops (Exit.then (λa' w'=>∃S',jv S'/\(∀x,S' x->U x)/\S' w'/\ZA P ops Q U t a' S') Q) [o] a w
 | .two i t j u,a,S=>(∃o,ops[i]?=ah o/\∀w,S w->wpList P ops (Exit.then (λa' w'=>∃S',jv S'/\(∀x,S' x->U x)/\S' w'/\ZA P ops Q U t a' S') Q) [o] a w)/\
  (∃o,ops[j]?=ah o/\∀w,S w->wpList P ops (Exit.then (λa' w'=>∃S',jv S'/\(∀x,S' x->U x)/\S' w'/\ZA P ops Q U u a' S') Q) [o] a w)
 | .three i t j u k v,a,S=>(∃o,ops[i]?=ah o/\∀w,S w->wpList P ops (Exit.then (λa' w'=>∃S',jv S'/\(∀x,S' x->U x)/\S' w'/\ZA P ops Q U t a' S') Q) [o] a w)/\
  (∃o,ops[j]?=ah o/\∀w,S w->wpList P ops (Exit.then (λa' w'=>∃S',jv S'/\(∀x,S' x->U x)/\S' w'/\ZA P ops Q U u a' S') Q) [o] a w)/\
  (∃o,ops[k]?=ah o/\∀w,S w->wpList P ops (Exit.then (λa' w'=>∃S',jv S'/\(∀x,S' x->U x)/\S' w'/\ZA P ops Q U v a' S') Q) [o] a w)
 | .done,a,S=>∀w,S w->Q .normal a w
def mj(md:ur)(ops:Array Oper):Ord->Array Bool->Bool
 | .calm i t,listed=>(jd md ops listed).contains i&&PW md ops listed i&&mj md ops t (listed.setIfInBounds i aB)
 | .one i t,listed=>decide (jd md ops listed=[i])&&mj md ops t (listed.setIfInBounds i aB)
 | .two i t j u,listed=>decide (jd md ops listed=[i,j])&&fM t.size u.size&&mj md ops t (listed.setIfInBounds i aB)&&mj md ops u (listed.setIfInBounds j aB)
 | .three i t j u k v,listed=>decide (jd md ops listed=[i,j,k])&&fM t.size u.size&&fM t.size v.size&&mj md ops t (listed.setIfInBounds i aB)&&mj md ops u (listed.setIfInBounds j aB)&&mj md ops v (listed.setIfInBounds k aB)
 | .done,listed=>decide (jd md ops listed=[])
theorem jN(mJ:A4 ops=aB)(hQ:∀c a d v w,Q (.panic c) (qY a d v) w->Q (.panic c) a w):
 ∀(t:Ord) (listed:Array Bool) (a:Act) (S:World->Prop),jv S->(∀x,S x->U x)->mj md ops t listed=aB->
 ZA P ops Q U t a S->sG P md ops Q U t.size listed a S
 | .done,listed,a,S,_,_,ho,h=>⟨by simp_all[mj],h⟩
 | .calm i t,listed,a,S,lI,Zy,ho,h=>by
  simp only[mj,eE]at ho;obtain⟨⟨hr,hf⟩,Hs⟩:=ho;have uz:i∈jd md ops listed:=by simp_all
  obtain⟨o,v,h0,hy,hK⟩:=h;have hy':jK P ops U o v a:=by
   by_cases hw:kM o (yielded ops a.tmps)=aB
   rw[if_pos hw]at hy;exact .inl ⟨hw,hy⟩;rw[if_neg hw]at hy;exact .inr ⟨by simp_all,hy⟩
  exact zu h0 (PR mJ) (λc a w=>hQ c a o.dst v w) t.size listed a S lI Zy (PT h0 hf) uz hy'
   (jN mJ hQ t _ _ S lI Zy Hs hK)
 | .one i t,listed,a,S,lI,Zy,ho,h=>by
  simp only[mj,eE,decide_eq_true_eq]at ho;obtain⟨hr,Hs⟩:=ho;obtain⟨o,h0,h⟩:=h;refine⟨λh'=>(by simp_all),λj hj w hw=>?_⟩;obtain rfl:j=i:=by simp_all
  refine wpOp_mono (λa' w' ⟨S',nl,uE,uf,hK⟩=>⟨S',nl,uE,uf,?_⟩) (jM h0 (h w hw));exact jN mJ hQ t _ _ S' nl uE Hs hK
 | .two i t j u,listed,a,S,lI,Zy,ho,h=>by
  simp only[mj,eE,decide_eq_true_eq]at ho;obtain⟨⟨⟨hr,hs⟩,zv⟩,Be⟩:=ho;obtain⟨⟨o,h0,h⟩,⟨o2,h02,h2⟩⟩:=h;have hs:=mh hs;refine⟨λh'=>(by simp_all),λq hq w hw=>?_⟩;rw[hr]at hq;simp only[dw,fC,or_false]at hq;rcases hq with rfl|rfl
  ·refine wpOp_mono (λa' w' ⟨S',nl,uE,uf,hK⟩=>⟨S',nl,uE,uf,?_⟩) (jM h0 (h w hw))
   exact jN mJ hQ t _ _ S' nl uE zv hK
  refine wpOp_mono (λa' w' ⟨S',nl,uE,uf,hK⟩=>⟨S',nl,uE,uf,?_⟩) (jM h02 (h2 w hw));rw[hs];exact jN mJ hQ u _ _ S' nl uE Be hK
 | .three i t j u k v,listed,a,S,lI,Zy,ho,h=>by
  simp only[mj,eE,decide_eq_true_eq]at ho;obtain⟨⟨⟨⟨⟨hr,hs⟩,hs3⟩,zv⟩,Be⟩,ho3⟩:=ho;obtain⟨⟨o,h0,h⟩,⟨o2,h02,h2⟩,⟨o3,h03,h3⟩⟩:=h;have hs:=mh hs;have hs3:=mh hs3;refine⟨λh'=>(by simp_all),λq hq w hw=>?_⟩;rw[hr]at hq;simp only[dw,fC,or_false]at hq;rcases hq with rfl|rfl|rfl
  ·refine wpOp_mono (λa' w' ⟨S',nl,uE,uf,hK⟩=>⟨S',nl,uE,uf,?_⟩) (jM h0 (h w hw))
   exact jN mJ hQ t _ _ S' nl uE zv hK
  ·refine wpOp_mono (λa' w' ⟨S',nl,uE,uf,hK⟩=>⟨S',nl,uE,uf,?_⟩) (jM h02 (h2 w hw))
   rw[hs];exact jN mJ hQ u _ _ S' nl uE Be hK
  refine wpOp_mono (λa' w' ⟨S',nl,uE,uf,hK⟩=>⟨S',nl,uE,uf,?_⟩) (jM h03 (h3 w hw));rw[hs3];exact jN mJ hQ v _ _ S' nl uE ho3 hK
end
structure TW(P:Program)(n:Nat)(W:bV)(ops:Array Oper)(Q:Exit->Act->World->Prop)(L0:List b_)(t:Ord)(fr:Fr)(L:List b_):Prop where
 go:∀a,mK n a fr->ZA P ops Q (Mem W L0) t a (Mem W L)
section
variable{P:Program}{n:Nat}{W:bV}{Q:Exit->Act->World->Prop}{fr:Fr}{L L0:List b_}{ops:Array Oper}{o:Oper}{t u:Ord}{i j:Nat}{v:Value}{d:Nat}
def agT(l:List Oper)(t:Ord):Bool:=fM t.size l.length&&A4 l.toArray&&mj .any l.toArray t (AW l.toArray.size aE)
theorem aiE{id:Nat}{l:List Oper}(L0:List b_)(t:Ord)(kK:∀w,Mem W L w->Mem W L0 w)(hm:P.follows .mixedOrders=aB)(hB:agT l t=aB)
 (hQ:∀c a d v w,Q (.panic c) (qY a d v) w->Q (.panic c) a w)
 (h:TW P n W l.toArray Q L0 t fr L):T P n W (.region id l.toArray aB) Q fr L:=⟨λa w hr uA=>by
 simp only[agT,eE]at hB;obtain⟨⟨h1,h2⟩,h3⟩:=hB;have hlen:=mh h1;refine wp_region_any hm ?_;have hsz:l.toArray.size=t.size:=by simp_all
 have:=yl (U:=Mem W L0) t.size (AW l.toArray.size aE) a (Mem W L) w.drew uA.drew
  (jN h2 hQ t _ a (Mem W L) (eZ W L) kK h3 (h.go a hr))
 simp_all⟩
theorem TQ{q e:Nat}{b:Bool}{x:Value}(ho:ops[i]?=ah o)(hg:o.guard=ah (q,b))(hj:(ops[q]?).bind (·.dst)=ah e)(hl:look fr e=ah x)(hu:adU b x=aB)(hd:o.dst=ah d)(hn:dx d n=aB)(h:TW P n W ops Q L0 t ((d,undef)::fr) L):TW P n W ops Q L0 (.calm i t) fr L:=⟨λa gO=>
 ⟨o,undef,ho,by rw[H7 gO hg hj hl hu];rfl,by rw[hd];exact h.go _ (gO.put hn undef)⟩⟩
theorem o9{f:FuncId}{args:Array Value}(ho:ops[i]?=ah o)(he:∀a w,mK n a fr->(execOp a.eval o).run P w= .ok (.enter f args) w)(hc:∀w,Mem W L0 w->Calls P f args w (cJ (ret v) w))(hg:o.guard=aj)(hd:o.dst=ah d)(hn:dx d n=aB)
 (h:TW P n W ops Q L0 t ((d,v)::fr) L):TW P n W ops Q L0 (.calm i t) fr L:=⟨λa gO=>
 ⟨o,v,ho,by rw[if_pos (oq hg)];intro w hw;unfold pF;rw[he a w gO];exact⟨Gr.refl _,(hc w hw).mono λ_ _ h=>Eh h⟩,by rw[hd];exact h.go _ (gO.put hn v)⟩⟩
theorem zw{f:FuncId}{args:Array Value}{q e:Nat}{b:Bool}(ho:ops[i]?=ah o)(he:∀a w,mK n a fr->(execOp a.eval o).run P w= .ok (.enter f args) w)(hc:∀w,Mem W L0 w->Calls P f args w (cJ (ret v) w))(hg:o.guard=ah (q,b))(hj:(ops[q]?).bind (·.dst)=ah e)(hl:look fr e=ah (.bool b))(hd:o.dst=ah d)(hn:dx d n=aB)
 (h:TW P n W ops Q L0 t ((d,v)::fr) L):TW P n W ops Q L0 (.calm i t) fr L:=⟨λa gO=>
 ⟨o,v,ho,by rw[if_pos (pG gO hg hj hl)];intro w hw;unfold pF;rw[he a w gO];exact⟨Gr.refl _,(hc w hw).mono λ_ _ h=>Eh h⟩,by rw[hd];exact h.go _ (gO.put hn v)⟩⟩
abbrev after(P:Program)(W:bV)(ops:Array Oper)(Q:Exit->Act->World->Prop)(L0:List b_)(t:Ord):Exit->Act->World->Prop:=Exit.then (λa' w'=>∃S',jv S'/\(∀x,S' x->Mem W L0 x)/\S' w'/\ZA P ops Q (Mem W L0) t a' S') Q
theorem aM(ho:ops[i]?=ah o)(h:TL P n W ops (after P W ops Q L0 t) [o] fr L):TW P n W ops Q L0 (.one i t) fr L:=⟨λa gO=>⟨o,ho,λw hw=>h.go a w gO hw⟩⟩
theorem e_{o2:Oper}(ho:ops[i]?=ah o)(Be:ops[j]?=ah o2)(h:TL P n W ops (after P W ops Q L0 t) [o] fr L)(h2:TL P n W ops (after P W ops Q L0 u) [o2] fr L):TW P n W ops Q L0 (.two i t j u) fr L:=
 ⟨λa gO=>⟨⟨o,ho,λw hw=>h.go a w gO hw⟩,⟨o2,Be,λw hw=>h2.go a w gO hw⟩⟩⟩
theorem zx{o2 o3:Oper}{k:Nat}{u2:Ord}(ho:ops[i]?=ah o)(Be:ops[j]?=ah o2)(ho3:ops[k]?=ah o3)(h:TL P n W ops (after P W ops Q L0 t) [o] fr L)(h2:TL P n W ops (after P W ops Q L0 u) [o2] fr L)(h3:TL P n W ops (after P W ops Q L0 u2) [o3] fr L):TW P n W ops Q L0 (.three i t j u k u2) fr L:=
 ⟨λa gO=>⟨⟨o,ho,λw hw=>h.go a w gO hw⟩,⟨o2,Be,λw hw=>h2.go a w gO hw⟩,⟨o3,ho3,λw hw=>h3.go a w gO hw⟩⟩⟩
theorem aO{L':List b_}{Hk:Fr}(kK:∀w,Mem W L' w->Mem W L0 w)(h:TW P n W ops Q L0 t Hk L'):TL P n W ops (after P W ops Q L0 t) [] Hk L':=
 A' ⟨λa _ hr hm=>⟨Mem W L',eZ _ _,kK,hm,h.go a hr⟩⟩
theorem TR(h:E n W .normal Q fr L):TW P n W ops Q L0 .done fr L:=⟨λa hr w hw=>h.go a w hr hw⟩
theorem ml{x y:Code}{ι:Type}(ag:ι->Prop)(F:ι->Fr)(M:ι->List b_)
 (hx:T P n W x (Exit.then (Mid n W ag F M) Q) fr L) (hy:∀i,ag i->T P n W y Q (F i) (M i)):T P n W x (Exit.then (y.wp P Q) Q) fr L:= .mk λa w hr hm=>
 wp_mono (hx.go a w hr hm) λe a w h=>by
  cases e with
  |normal=>obtain⟨i,h1,h2,h3⟩:=h;exact(hy i h1).go a w h2 h3
  |_=>exact h
structure TN(P:Program)(n:Nat)(W:bV)(ops:Array Oper)(Q:Exit->Act->World->Prop)(L0:List b_)(o:Oper)(t:Ord)(fr:Fr)(L:List b_):Prop where
 go:∀a,mK n a fr->∃v,(∀w,Mem W L0 w->pF P o a w v)/\ZA P ops Q (Mem W L0) t (a.put o.dst v) (Mem W L)
theorem ZB(ho:ops[i]?=ah o)(hg:o.guard=aj)(h:TN P n W ops Q L0 o t fr L):TW P n W ops Q L0 (.calm i t) fr L:=⟨λa gO=>by
 obtain⟨v,h1,h2⟩:=h.go a gO;exact⟨o,v,ho,by simp_all[oq],h2⟩⟩
theorem ad2{q e:Nat}{b:Bool}(ho:ops[i]?=ah o)(hg:o.guard=ah (q,b))(hj:(ops[q]?).bind (·.dst)=ah e)(hl:look fr e=ah (.bool b))(h:TN P n W ops Q L0 o t fr L):TW P n W ops Q L0 (.calm i t) fr L:=⟨λa gO=>by
 obtain⟨v,h1,h2⟩:=h.go a gO;exact⟨o,v,ho,by rw[if_pos (pG gO hg hj hl)];exact h1,h2⟩⟩
theorem agU(hr:RR P n W o fr L0 v)(hd:o.dst=ah d)(hn:dx d n=aB)(h:TW P n W ops Q L0 t ((d,v)::fr) L):TN P n W ops Q L0 o t fr L:=⟨λa gO=>
 ⟨v,λw hw=>by unfold pF;rw[hr.go a w gO hw];exact⟨rfl,Gr.refl _⟩,by rw[hd];exact h.go _ (gO.put hn v)⟩⟩
theorem QW(hr:RR P n W o fr L0 v)(h:TW P n W ops Q L0 t ((d,v)::fr) L)(hd:o.dst=ah d:=by exact I)(hn:dx d n=true:=by exact I):TN P n W ops Q L0 o t fr L:=agU hr hd hn h
end
section
variable{P:Program}{n:Nat}{W:bV}{fr:Fr}{L L0:List b_}{Q:Exit->Act->World->Prop}{ops:Array Oper}{rest:List Oper}{d i:Nat}{o:Oper}{v:Value}{t:Ord}
abbrev pV(g:Nat):Value:=aH (ah ⟨g,0,aj⟩)
abbrev sV(g n c:Nat):Value:=ak (ah ⟨g,0,aj⟩) n c
abbrev sW(g o n c:Nat):Value:=ak (ah ⟨g,o,aj⟩) n c
abbrev iV(x:Int):Value:=ap av x
def oC:List Nat->Ord->Ord
 |[],t=>t
 |i::r,t=> .calm i (oC r t)
inductive Gd(ops:Array Oper)(fr:Fr)(o:Oper):Prop
 |no (h:o.guard=aj)
 |yes (q e:Nat) (b:Bool) (hg:o.guard=ah (q,b)) (hj:(ops[q]?).bind (·.dst)=ah e) (hl:look fr e=ah (.bool b))
theorem RR.bare(h:RR P n W o fr L v):RR P n W {o with guard:=aj} fr L v:=⟨λa w hr hm=>h.go a w hr hm⟩
theorem aiF(hr:RR P n W o fr L v)(hg:Gd ops fr o)(hd:o.dst=ah d)(hn:dx d n=aB)(h:TL P n W ops Q rest ((d,v)::fr) L):TL P n W ops Q (o::rest) fr L:=by
 rcases hg with hg|⟨q,e,b,hg,hj,hl⟩
 grind[dy];exact Dh hg hj hl (dy hr.bare I hd hn h)
theorem gV(hr:RR P n W o fr L v)(h:TL P n W ops Q rest ((d,v)::fr) L)(hg:Gd ops fr o:=by first|exact Gd.no I|exact Gd.yes _ _ _ I I I)(hd:o.dst=ah d:=by exact I)(hn:dx d n=true:=by exact I):TL P n W ops Q (o::rest) fr L:=aiF hr hg hd hn h
theorem QK{dst:Option Tmp}{ty:TypeId}{pos:String}{after:Array Edge}{guard:Option (Nat×Bool)}{x:Operand}{a:Addr}(hx:ev fr x=ah (aH (ah a)):=by exact I):RR P n W ⟨dst,.nilCheck x,ty,pos,after,guard⟩ fr L (aH (ah a)):= .mk λact w hr _=>by
 simp[execOp,hr.ev hx]
end
structure Hid(B:Prop):Prop where
 go:B
theorem GC{A B:Prop}(h:B)(t:Hid B->A:=by
 intro h0
 first|refine gV QP ?_|refine QZ ?_|refine qcT I ?_|refine qcF I ?_|refine Mo ?_|refine Mp I ?_|refine qs I I I I I I ?_
 repeat (first|refine gV QP ?_|refine QZ ?_|refine qcT I ?_|refine qcF I ?_|refine Mo ?_|refine Mp I ?_|refine qs I I I I I I ?_)
 exact h0.go):A:=t ⟨h⟩
theorem GB{A B:Prop}(h:B)(t:Hid B->A:=by
 intro h0;refine gV (by first|exact QA|exact QK|exact QL|exact QS|exact J8 I I|exact QlT|exact QlF|exact QeT|exact QeF|exact QnT|exact QnF|exact QaA|exact QgT|exact QgF|exact QhT|exact QhF|exact QmT|exact QmF|exact QaS|exact QaM|exact Qj I I J|exact Zq I I J) ?_;exact h0.go):A:=t ⟨h⟩
theorem GA{A B:Prop}(h:B)(t:Hid B->A:=by
 intro h0
 first|refine GC ?_|refine GB ?_
 repeat (first|refine GC ?_|refine GB ?_)
 exact h0.go):A:=t ⟨h⟩
theorem GD{A B:Prop}(h:B)(t:Hid B->A:=by
 intro h0;refine gV (by first|exact aw aI.ty I (by first|exact aD (i:=0) I I|exact aD (i:=1) I I|exact aD (i:=2) I I|exact aD (i:=3) I I|exact aD (i:=4) I I|exact aD (i:=5) I I|exact aD (i:=6) I I|exact aD (i:=7) I I|exact aD (i:=8) I I|exact aD (i:=9) I I|exact aD (i:=10) I I|exact aD (i:=11) I I|exact aD (i:=12) I I|exact aD (i:=13) I I|exact aD (i:=14) I I|exact aD (i:=15) I I)|exact aJ (i:=0) aI.ty I I I|exact aJ (i:=1) aI.ty I I I|exact aJ (i:=2) aI.ty I I I|exact aJ (i:=3) aI.ty I I I|exact aJ (i:=4) aI.ty I I I|exact aJ (i:=5) aI.ty I I I|exact aJ (i:=6) aI.ty I I I|exact aJ (i:=7) aI.ty I I I|exact aJ (i:=8) aI.ty I I I|exact aJ (i:=9) aI.ty I I I|exact aJ (i:=10) aI.ty I I I|exact aJ (i:=11) aI.ty I I I|exact aJ (i:=12) aI.ty I I I|exact aJ (i:=13) aI.ty I I I|exact aJ (i:=14) aI.ty I I I|exact aJ (i:=15) aI.ty I I I) ?_;exact h0.go):A:=t ⟨h⟩
theorem GL{A B:Prop}(h:B)(t:Hid B->A:=by
 intro h0
 first|refine GA ?_|refine GD ?_
 exact h0.go):A:=t ⟨h⟩
theorem GM{A B:Prop}(h:B)(t:Hid B->A:=by
 intro h0;refine GL ?_
 repeat refine GL ?_
 exact h0.go):A:=t ⟨h⟩
theorem GN{A B:Prop}(h:B)(t:Hid B->A:=by
 intro h0
 first|refine ZB I I ?_|refine ad2 I I I I ?_
 exact h0.go):A:=t ⟨h⟩
theorem GX{A B:Prop}(h:B)(t:Hid B->A:=by
 intro h0
 first|refine QW QP ?_|refine QW (by first|exact QA|exact QK|exact QL|exact QS|exact J8 I I|exact QlT|exact QlF|exact QeT|exact QeF|exact QnT|exact QnF|exact QaA|exact QgT|exact QgF|exact QhT|exact QhF|exact QmT|exact QmF|exact QaS|exact QaM|exact Qj I I J|exact Zq I I J) ?_
 exact h0.go):A:=t ⟨h⟩
theorem GW{A B:Prop}(h:B)(t:Hid B->A:=by
 intro h0
 first|(refine GN ?_;refine GX ?_)|refine TQ I I I I I I I ?_|refine TR ?_
 repeat (first|(refine GN ?_;refine GX ?_)|refine TQ I I I I I I I ?_|refine TR ?_)
 exact h0.go):A:=t ⟨h⟩
section
variable{P:Program}{n:Nat}{W:bV}{fr:Fr}{L L':List b_}{Q:Exit->Act->World->Prop}{ops:Array Oper}{rest:List Oper}
theorem bQ{ι:Type}{ag:ι->Prop}{F:ι->Fr}{M:ι->List b_}{μ:ι->Nat}{x:ι}(x':ι)(hi:ag x')(hμ:μ x'<μ x)(hf:J4 (F x') fr:=by repeat' (first|exact True.intro|refine And.intro rfl ?_))(hl:L=M x':=by exact rfl):
 E n W .normal (Exit.then (Rnd n W ag F M μ x) Q) fr L:=ik x' hi hμ hf hl
theorem dZ{c:Code}{ι:Type}(ag:ι->Prop)(F:ι->Fr)(M:ι->List b_)(μ:ι->Nat)(x0:ι)(h0:ag x0)
 (round:∀x,ag x->T P n W c (Exit.then (Rnd n W ag F M μ x) Q) (F x) (M x)) (hf:J4 (F x0) fr:=by repeat' (first|exact True.intro|refine And.intro rfl ?_)) (hl:L=M x0:=by exact rfl):T P n W (.loop c) Q fr L:=kO ag F M μ x0 h0 hf hl round
theorem zL{A B:Prop}(h:B)(t:Hid B->A:=by
 intro h0
 (conv=>arg 8;simp only[zA,zB,zC,zD,zE,zF,zG,zH,zI,df,ret,id_eq])
 exact h0.go):A:=t ⟨h⟩
end
theorem zJ:(∀{α:Type} {a:α} {l m:List α},a::l++m=a::(l++m))/\(∀{α:Type} {l:List α},[]++l=l)/\(∀{α:Type} {l:List α},l++[]=l)/\(∀{α β:Type} {f:α->Option β} {a:α} {l:List α},ux f (a::l)=match f a with
 |none=>ux f l
 |some b=>b::ux f l)/\(∀{α β:Type} {f:α->Option β},ux f []=[])/\(∀{α:Type} {a:α} {l:List α} {i:Nat},(a::l)[i+1]?=l[i]?)/\(∀{α:Type} {a:α} {l:List α},(a::l)[0]?=ah a)/\(∀{α:Type} {a b:α} {l:List α},(a::l).set 0 b=b::l)/\(∀{α:Type} {a b:α} {l:List α} {i:Nat},(a::l).set (i+1) b=a::l.set i b):=
 ⟨zA,zB,zC,zD,zE,zF,zG,zH,zI⟩
section
variable{P:Program}{n:Nat}{W:bV}{fr:Fr}{L L':List b_}{Q:Exit->Act->World->Prop}{ops:Array Oper}{rest:List Oper}
theorem bY(is:List Nat)(hn:is.Nodup:=by decide)(hl:L'=is.filterMap λi=>L[i]?:=by exact I):∀w,Mem W L w->Mem W L' w:=Zz is hn hl
theorem H9(is:List Nat)(h:TL P n W ops Q rest fr L')(hn:is.Nodup:=by decide)(hl:L'=is.filterMap λi=>L[i]?:=by exact I):TL P n W ops Q rest fr L:=ad0 is hn hl h
theorem tY{c:Code}(is:List Nat)(h:T P n W c Q fr L')(hn:is.Nodup:=by decide)(hl:L'=is.filterMap λi=>L[i]?:=by exact I):T P n W c Q fr L:=agI is hn hl h
theorem dq{e:Exit}(is:List Nat)(h:E n W e Q fr L')(hn:is.Nodup:=by decide)(hl:L'=is.filterMap λi=>L[i]?:=by exact I):E n W e Q fr L:=agJ is hn hl h
theorem dG{id:Nat}{l:List Oper}(L0:List b_)(t:Ord)(kK:∀w,Mem W L w->Mem W L0 w)(h:TW P n W l.toArray Q L0 t fr L)(hm:P.follows .mixedOrders=true:=by kernel_rfl)(hB:agT l t=true:=by kernel_rfl)
 (hQ:∀c a d v w,Q (.panic c) (qY a d v) w->Q (.panic c) a w:=by intro c a d v w h;cases d<;>exact h):T P n W (.region id l.toArray aB) Q fr L:=aiE L0 t kK hm hB hQ h
theorem dQ{fn:Func}{w0:World}{t:Tmp}{v:Value}(mV:fn.results=#[.tmp t]:=by exact I)(hv:look fr t=ah v:=by exact I):E n w0 .ret (bodyPost P fn (cJ (ret v) w0)) fr L:=cV mV hv λw hm=>hm.ret
theorem fR{ty:TypeId}{pos:String}{after:Array Edge}{t:TypeId}{p x:Operand}(i:Nat){g c:Nat}{cs cs':Array Value}{T:TypeId}{agg:Bool}[hT:aI P t agg c](h:TL P n W ops Q rest fr (L.set i (aK g cs' T)))(hi:L[i]?=ah (aK g cs T):=by exact I)(hp:ev fr p=ah (pV g):=by exact I)(hx:ev fr x=ah (.agg cs'):=by exact I)(hv:cs'.size=c:=by exact I)(h1:cs'.toList.all fV=true:=by exact I)(hc:cs.size=c:=by exact I):
 TL P n W ops Q (⟨aj,.store t p x,ty,pos,after,aj⟩::rest) fr L:=aV hi hp hx hv h1 hc h
end
section
variable{P:Program}{n:Nat}{W:bV}{fr:Fr}{L L0:List b_}{Q:Exit->Act->World->Prop}{ops:Array Oper}{rest:List Oper}{o:Oper}{d:Nat}{fn:Func}{f:FuncId}
theorem CB{args:Array Value}{ι:Type}{S:Spec ι}(is js:List Nat){Lx R:List b_}(hc:∀w,Mem W L w->Mem (bV.on w Lx) Lx w->Calls P f args w (dz S (bV.on w Lx)))(h:∀x,S.ok x->TL P n W ops Q rest ((d,S.val x)::fr) (R++S.own x))(Zk:Lx=is.filterMap λi=>L[i]?:=by exact I)(Qh:R=js.filterMap λi=>L[i]?:=by exact I)(he:∀a w,mK n a fr->(execOp a.eval o).run P w= .ok (.enter f args) w:=by first|exact lz aF.en I I|exact gh aF.en I I I|exact xE aF.en I I I I|exact Bc aF.en I I I I I)(hn2:(is++js).Nodup:=by decide)(hg:o.guard=none:=by exact I)(hd:o.dst=ah d:=by exact I)(hn:dx d n=true:=by exact I):TL P n W ops Q (o::rest) fr L:=bz is js hn2 Zk Qh he hc hg hd hn h
theorem ER{ι:Type}{ag:ι->Prop}{F:ι->Fr}{M:ι->List b_}{μ:ι->Nat}{x:ι}(x':ι)(hi:ag x')(hf:J4 (F x') fr:=by repeat' (first|exact True.intro|refine And.intro rfl ?_))(hl:L=M x':=by exact rfl)(hμ:μ x'<μ x:=by first|omega|(dsimp only;omega)):
 E n W .normal (Exit.then (Rnd n W ag F M μ x) Q) fr L:=ik x' hi hμ hf hl
theorem RB{ι:Type}{S:Spec ι}{t:Tmp}(x:ι)(hx:S.ok x)(is:List Nat)(mV:fn.results=#[.tmp t]:=by exact I)(hv:look fr t=ah (S.val x):=by exact I)(hn:is.Nodup:=by decide)(hl:S.own x=is.filterMap λi=>L[i]?:=by exact I):E n W .ret (bodyPost P fn (dz S W)) fr L:=cV mV hv λw hm=>hm.cg x hx is hn hl
end
instance:bM aC 3 (.int .i64):=⟨Tryz.underlying3⟩
instance:aI aC 3 aE 1:={}
instance:eH aC 3 #[ap av 0]:={}
instance:bM aC 4 (.bool):=⟨Tryz.underlying4⟩
instance:aI aC 4 aE 1:={}
instance:eH aC 4 #[.bool aE]:={}
instance:bM aC 5 (.int .u8):=⟨Tryz.underlying5⟩
instance:aI aC 5 aE 1:={}
instance:bM aC 9 (.string):=⟨Tryz.underlying9⟩
instance:aI aC 9 aE 1:={}
instance:bM aC 22 (.slice 100):=⟨Tryz.underlying22⟩
instance:aI aC 22 aE 1:={}
instance:sw aC 22 100 7 80:={}
instance:bM aC 23 (.slice 102):=⟨Tryz.underlying23⟩
instance:aI aC 23 aE 1:={}
instance:sw aC 23 102 2 40:={}
instance:dS aC 25 0 0:={}
instance:dS aC 25 1 1:={}
instance:aI aC 25 aB 2:={}
instance:eH aC 25 #[ak aj 0 0,ak aj 0 0]:={}
instance:bM aC 26 (.slice 3):=⟨Tryz.underlying26⟩
instance:aI aC 26 aE 1:={}
instance:sw aC 26 3 1 8:={}
instance:eH aC 26 #[ak aj 0 0]:={}
instance:bM aC 27 (.array 256 5):=⟨Tryz.underlying27⟩
instance:aI aC 27 aB 256:={}
instance:bM aC 28 (.slice 26):=⟨Tryz.underlying28⟩
instance:aI aC 28 aE 1:={}
instance:sw aC 28 26 1 24:={}
instance:dS aC 30 0 0:={}
instance:dS aC 30 1 256:={}
instance:dS aC 30 2 257:={}
instance:aI aC 30 aB 258:={}
instance:eH aC 30 (c_ 256 (.int .u8 0:Value)++([ak aj 0 0,ak aj 0 0]:List Value)).toArray:={}
instance:bM aC 31 (.slice 174):=⟨Tryz.underlying31⟩
instance:aI aC 31 aE 1:={}
instance:sw aC 31 174 2 32:={}
instance:dS aC 33 0 0:={}
instance:dS aC 33 1 1:={}
instance:dS aC 33 2 2:={}
instance:aI aC 33 aB 3:={}
instance:bM aC 34 (.slice 185):=⟨Tryz.underlying34⟩
instance:aI aC 34 aE 1:={}
instance:sw aC 34 185 1 24:={}
instance:dS aC 36 0 0:={}
instance:dS aC 36 1 1:={}
instance:aI aC 36 aB 2:={}
instance:eH aC 36 #[ak aj 0 0,ak aj 0 0]:={}
instance:dS aC 38 0 0:={}
instance:dS aC 38 1 1:={}
instance:dS aC 38 2 259:={}
instance:dS aC 38 3 262:={}
instance:dS aC 38 4 263:={}
instance:dS aC 38 5 264:={}
instance:aI aC 38 aB 266:={}
instance:eH aC 38 (([ak aj 0 0]:List Value)++c_ 256 (.int .u8 0:Value)++([ak aj 0 0,ak aj 0 0,ap av 0,ap av 0,ak aj 0 0,ap av 0,ak aj 0 0,ak aj 0 0,ak aj 0 0]:List Value)).toArray:={}
instance:aI aC 39 aE 1:={}
instance:bM aC 43 (.slice 59):=⟨Tryz.underlying43⟩
instance:aI aC 43 aE 1:={}
instance:sw aC 43 59 2 16:={}
instance:eH aC 43 #[ak aj 0 0]:={}
instance:dS aC 45 0 0:={}
instance:dS aC 45 1 1:={}
instance:dS aC 45 2 2:={}
instance:aI aC 45 aB 3:={}
instance:eH aC 45 #[ak aj 0 0,ap av 0,ap av 0]:={}
instance:bM aC 50 (.slice 52):=⟨Tryz.underlying50⟩
instance:aI aC 50 aE 1:={}
instance:sw aC 50 52 3 40:={}
instance:dS aC 52 0 0:={}
instance:dS aC 52 1 1:={}
instance:dS aC 52 2 2:={}
instance:aI aC 52 aB 3:={}
instance:eH aC 52 #[ap av 0,ap av 0,ak aj 0 0]:={}
instance:aI aC 59 aB 2:={}
instance:bM aC 63 (.slice 9):=⟨Tryz.underlying63⟩
instance:aI aC 63 aE 1:={}
instance:sw aC 63 9 1 16:={}
instance:bM aC 79 (.slice 4):=⟨Tryz.underlying79⟩
instance:aI aC 79 aE 1:={}
instance:sw aC 79 4 1 1:={}
instance:bM aC 80 (.slice 92):=⟨Tryz.underlying80⟩
instance:aI aC 80 aE 1:={}
instance:sw aC 80 92 1 8:={}
instance:dS aC 82 0 0:={}
instance:dS aC 82 1 1:={}
instance:dS aC 82 2 2:={}
instance:dS aC 82 3 3:={}
instance:dS aC 82 4 4:={}
instance:aI aC 82 aB 5:={}
instance:eH aC 82 #[ak aj 0 0,ak aj 0 0,ak aj 0 0,ak aj 0 0,ak aj 0 0]:={}
instance:bM aC 86 (.slice 179):=⟨Tryz.underlying86⟩
instance:sw aC 86 179 4 32:={}
instance:bM aC 89 (.slice 189):=⟨Tryz.underlying89⟩
instance:sw aC 89 189 6 48:={}
instance:aI aC 92 aE 1:={}
instance:eH aC 92 #[.int .u64 0]:={}
instance:bM aC 94 (.array 4 92):=⟨Tryz.underlying94⟩
instance:aI aC 94 aB 4:={}
instance:eH aC 94 #[.int .u64 0,.int .u64 0,.int .u64 0,.int .u64 0]:={}
instance:bM aC 95 (.slice 97):=⟨Tryz.underlying95⟩
instance:aI aC 95 aE 1:={}
instance:sw aC 95 97 6 64:={}
instance:dS aC 97 0 0:={}
instance:dS aC 97 1 1:={}
instance:dS aC 97 2 5:={}
instance:aI aC 97 aB 6:={}
instance:eH aC 97 #[ap av 0,.int .u64 0,.int .u64 0,.int .u64 0,.int .u64 0,ak aj 0 0]:={}
instance:dS aC 100 0 0:={}
instance:dS aC 100 1 1:={}
instance:aI aC 100 aB 7:={}
instance:eH aC 100 #[.string ⟨#[]⟩,ap av 0,.int .u64 0,.int .u64 0,.int .u64 0,.int .u64 0,ak aj 0 0]:={}
instance:dS aC 102 0 0:={}
instance:dS aC 102 1 1:={}
instance:aI aC 102 aB 2:={}
instance:eH aC 102 #[.string ⟨#[]⟩,ak aj 0 0]:={}
instance:bM aC 104 (.slice 111):=⟨Tryz.underlying104⟩
instance:sw aC 104 111 3 24:={}
instance:dS aC 111 0 0:={}
instance:dS aC 111 1 1:={}
instance:dS aC 111 2 2:={}
instance:aI aC 111 aB 3:={}
instance:eH aC 111 #[ap av 0,ap av 0,ap av 0]:={}
instance:bM aC 117 (.map 121 3):=⟨Tryz.underlying117⟩
instance:aI aC 117 aE 1:={}
instance:dS aC 119 0 0:={}
instance:dS aC 119 1 3:={}
instance:dS aC 119 2 4:={}
instance:aI aC 121 aB 3:={}
instance:eH aC 121 #[ap av 0,ap av 0,ap av 0]:={}
instance:dS aC 123 0 0:={}
instance:dS aC 123 1 1:={}
instance:aI aC 123 aB 2:={}
instance:eH aC 123 #[ap av 0,ap av 0]:={}
instance:bM aC 132 (.slice 215):=⟨Tryz.underlying132⟩
instance:aI aC 132 aE 1:={}
instance:sw aC 132 215 4 32:={}
instance:dS aC 134 0 0:={}
instance:dS aC 134 1 1:={}
instance:dS aC 134 2 2:={}
instance:dS aC 134 3 3:={}
instance:aI aC 134 aB 4:={}
instance:eH aC 134 #[ak aj 0 0,ap av 0,ap av 0,.bool aE]:={}
instance:dS aC 137 0 0:={}
instance:dS aC 137 1 1:={}
instance:dS aC 137 2 2:={}
instance:dS aC 137 3 3:={}
instance:aI aC 137 aB 4:={}
instance:eH aC 137 #[ak aj 0 0,ap av 0,ap av 0,.bool aE]:={}
instance:bM aC 151 (.map 9 3):=⟨Tryz.underlying151⟩
instance:aI aC 151 aE 1:={}
instance:eH aC 151 #[.map aj]:={}
instance:bM aC 155 (.slice 94):=⟨Tryz.underlying155⟩
instance:aI aC 155 aE 1:={}
instance:sw aC 155 94 4 32:={}
instance:dS aC 157 0 0:={}
instance:dS aC 157 1 1:={}
instance:dS aC 157 2 2:={}
instance:dS aC 157 3 3:={}
instance:dS aC 157 4 4:={}
instance:dS aC 157 5 5:={}
instance:aI aC 157 aB 6:={}
instance:eH aC 157 #[ak aj 0 0,ak aj 0 0,ak aj 0 0,ak aj 0 0,ak aj 0 0,ak aj 0 0]:={}
instance:bM aC 160 (.slice 240):=⟨Tryz.underlying160⟩
instance:aI aC 160 aE 1:={}
instance:sw aC 160 240 256 512:={}
instance:dS aC 162 0 0:={}
instance:dS aC 162 1 1:={}
instance:aI aC 162 aB 2:={}
instance:eH aC 162 #[ak aj 0 0,ak aj 0 0]:={}
instance:bM aC 172 (.slice 123):=⟨Tryz.underlying172⟩
instance:aI aC 172 aE 1:={}
instance:sw aC 172 123 2 16:={}
instance:dS aC 174 0 0:={}
instance:dS aC 174 1 1:={}
instance:aI aC 174 aB 2:={}
instance:eH aC 174 #[ap av 0,ak aj 0 0]:={}
instance:bM aC 180 (.slice 256):=⟨Tryz.underlying180⟩
instance:aI aC 180 aE 1:={}
instance:sw aC 180 256 1 24:={}
instance:dS aC 182 0 0:={}
instance:dS aC 182 1 1:={}
instance:aI aC 182 aB 2:={}
instance:eH aC 182 #[ak aj 0 0,ak aj 0 0]:={}
instance:bM aC 185 (.slice 187):=⟨Tryz.underlying185⟩
instance:aI aC 185 aE 1:={}
instance:sw aC 185 187 2 16:={}
instance:eH aC 185 #[ak aj 0 0]:={}
instance:dS aC 187 0 0:={}
instance:dS aC 187 1 1:={}
instance:aI aC 187 aB 2:={}
instance:eH aC 187 #[ap av 0,ap av 0]:={}
instance:dS aC 199 0 0:={}
instance:dS aC 199 1 266:={}
instance:dS aC 202 0 0:={}
instance:dS aC 202 1 266:={}
instance:dS aC 207 0 0:={}
instance:dS aC 207 1 3:={}
instance:dS aC 207 2 4:={}
instance:dS aC 215 0 0:={}
instance:dS aC 215 1 1:={}
instance:dS aC 215 2 2:={}
instance:aI aC 215 aB 4:={}
instance:eH aC 215 #[.bool aE,ap av 0,ap av 0,ap av 0]:={}
instance:dS aC 225 0 0:={}
instance:dS aC 225 1 6:={}
instance:dS aC 227 0 0:={}
instance:dS aC 227 1 1:={}
instance:dS aC 227 2 2:={}
instance:aI aC 227 aB 3:={}
instance:eH aC 227 #[.bool aE,ak aj 0 0,ak aj 0 0]:={}
instance:bM aC 230 (.map 9 123):=⟨Tryz.underlying230⟩
instance:bM aC 234 (.slice 286):=⟨Tryz.underlying234⟩
instance:aI aC 234 aE 1:={}
instance:sw aC 234 286 4 32:={}
instance:bM aC 235 (.map 286 3):=⟨Tryz.underlying235⟩
instance:aI aC 235 aE 1:={}
instance:dS aC 237 0 0:={}
instance:dS aC 237 1 6:={}
instance:dS aC 237 2 7:={}
instance:dS aC 237 3 8:={}
instance:bM aC 238 (.int .i16):=⟨Tryz.underlying238⟩
instance:aI aC 238 aE 1:={}
instance:bM aC 240 (.array 256 238):=⟨Tryz.underlying240⟩
instance:aI aC 240 aB 256:={}
instance:eH aC 240 (c_ 256 (.int .i16 0:Value)).toArray:={}
instance:bM aC 245 (.map 246 3):=⟨Tryz.underlying245⟩
instance:bM aC 246 (.array 200 238):=⟨Tryz.underlying246⟩
instance:aI aC 246 aB 200:={}
instance:eH aC 246 (c_ 200 (.int .i16 0:Value)).toArray:={}
instance:bM aC 256 (.slice 261):=⟨Tryz.underlying256⟩
instance:aI aC 256 aE 1:={}
instance:sw aC 256 261 3 24:={}
instance:eH aC 256 #[ak aj 0 0]:={}
instance:dS aC 261 0 0:={}
instance:dS aC 261 1 1:={}
instance:dS aC 261 2 2:={}
instance:aI aC 261 aB 3:={}
instance:eH aC 261 #[ap av 0,ap av 0,ap av 0]:={}
instance:bM aC 286 (.array 4 92):=⟨Tryz.underlying286⟩
instance:aI aC 286 aB 4:={}
instance:eH aC 286 #[.int .u64 0,.int .u64 0,.int .u64 0,.int .u64 0]:={}
instance:bM aC 291 (.map 293 3):=⟨Tryz.underlying291⟩
instance:dS aC 293 1 1:={}
instance:aI aC 293 aB 257:={}
instance:eH aC 293 (([ap av 0]:List Value)++c_ 256 (.int .i16 0:Value)).toArray:={}
instance:bM aC 295 (.map 323 92):=⟨Tryz.underlying295⟩
instance:aI aC 295 aE 1:={}
instance:dS aC 297 0 0:={}
instance:dS aC 297 1 3:={}
instance:bM aC 298 (.slice 5):=⟨Tryz.underlying298⟩
instance:sw aC 298 5 1 1:={}
instance:bM aC 299 (.map 261 3):=⟨Tryz.underlying299⟩
instance:aI aC 299 aE 1:={}
instance:eH aC 299 #[.map aj]:={}
instance:dS aC 312 0 0:={}
instance:dS aC 312 1 3:={}
instance:dS aC 312 2 4:={}
instance:dS aC 312 3 5:={}
instance:aI aC 323 aB 2:={}
instance:eH aC 323 #[ap av 0,ap av 0]:={}
instance:aF aC 6:={}
instance:aF aC 7:={}
instance:aF aC 8:={}
instance:aF aC 9:={}
instance:aF aC 10:={}
instance:aF aC 11:={}
instance:aF aC 12:={}
instance:aF aC 13:={}
instance:aF aC 22:={}
instance:aF aC 23:={}
instance:aF aC 24:={}
instance:aF aC 25:={}
instance:aF aC 26:={}
instance:aF aC 27:={}
instance:aF aC 28:={}
instance:aF aC 29:={}
instance:aF aC 30:={}
instance:aF aC 31:={}
instance:aF aC 32:={}
instance:aF aC 33:={}
instance:aF aC 34:={}
instance:aF aC 35:={}
instance:aF aC 36:={}
instance:aF aC 37:={}
instance:aF aC 38:={}
instance:aF aC 39:={}
instance:aF aC 40:={}
instance:aF aC 41:={}
instance:aF aC 42:={}
instance:aF aC 43:={}
instance:aF aC 47:={}
instance:aF aC 48:={}
instance:aF aC 54:={}
instance:aF aC 55:={}
instance:aF aC 56:={}
instance:aF aC 57:={}
instance:aF aC 58:={}
instance:aF aC 59:={}
instance:aF aC 60:={}
instance:aF aC 61:={}
instance:aF aC 62:={}
instance:aF aC 63:={}
instance:aF aC 64:={}
instance:aF aC 65:={}
instance:aF aC 66:={}
instance:aF aC 67:={}
instance:aF aC 68:={}
instance:aF aC 69:={}
instance:aF aC 70:={}
instance:aF aC 71:={}
instance:aF aC 72:={}
instance:aF aC 73:={}
instance:aF aC 74:={}
instance:aF aC 75:={}
instance:aF aC 76:={}
instance:aF aC 77:={}
instance:aF aC 78:={}
instance:aF aC 80:={}
instance:aF aC 93:={}
instance:aF aC 94:={}
instance:aF aC 95:={}
instance:aF aC 96:={}
instance:aF aC 97:={}
instance:aF aC 98:={}
instance:aF aC 99:={}
instance:aF aC 100:={}
instance:aF aC 101:={}
instance:aF aC 102:={}
instance:aF aC 103:={}
instance:aF aC 104:={}
instance:aF aC 105:={}
instance:aF aC 106:={}
instance:aF aC 107:={}
instance:aF aC 108:={}
instance:aF aC 109:={}
instance:aF aC 110:={}
instance:aF aC 111:={}
instance:aF aC 112:={}
instance:aF aC 113:={}
instance:aF aC 114:={}
instance:aF aC 115:={}
instance:aF aC 116:={}
instance:aF aC 120:={}
instance:aF aC 121:={}
instance:aF aC 126:={}
instance:aF aC 127:={}
instance:aF aC 128:={}
instance:aF aC 129:={}
instance:aF aC 130:={}
instance:aF aC 131:={}
instance:aF aC 132:={}
instance:aF aC 133:={}
instance:aF aC 134:={}
instance:aF aC 135:={}
instance:aF aC 136:={}
instance:aF aC 137:={}
instance:aF aC 138:={}
instance:aF aC 139:={}
instance:aF aC 140:={}
instance:aF aC 141:={}
instance:aF aC 142:={}
instance:aF aC 143:={}
instance:aF aC 145:={}
instance:aF aC 147:={}
instance:aF aC 148:={}
instance:aF aC 149:={}
instance:aF aC 150:={}
instance:aF aC 151:={}
instance:aF aC 152:={}
instance:aF aC 154:={}
instance:aF aC 156:={}
instance:aF aC 162:={}
instance:aF aC 163:={}
instance:aF aC 164:={}
instance:aF aC 165:={}
instance:aF aC 166:={}
instance:aF aC 167:={}
instance:aF aC 168:={}
instance:aF aC 169:={}
instance:aF aC 190:={}
instance:aF aC 191:={}
theorem fin{P:Program}{f:FuncId}{args:Array Value}{w:World}(h:Calls P f args w (cJ (ret (.bool aB)) w)):Calls P f args w λe w'=>e= .returned (.bool aB)/\Below w.heap.size w w':=h.mono λ_ _ h=>Eh h
end cB
namespace dg
def g_(x:BitVec 64):Int:=x.toNat
abbrev v64(x:BitVec 64):Value:= .int .u64 (g_ x)
theorem agV(x:BitVec 64):0<=g_ x:=by simp[g_]
theorem agW(x:BitVec 64):g_ x<=18446744073709551615:=by have:=x.isLt;unfold g_;omega
theorem o_{x y:BitVec 64}(h:g_ x=g_ y):x=y:=by
 grind[BitVec.eq_of_toNat_eq,g_]
theorem agX(x y:BitVec 64):(g_ x==g_ y)=(x==y):=by
 grind[o_]
theorem wrap64(x:BitVec 64):uo.wrap (g_ x)=g_ x:=by
 have:=x.isLt;unfold g_;rw[um];omega
theorem ofInt64(x:BitVec 64):x8 64 (g_ x)=x:=by
 simp[g_]
theorem aiG(x y:BitVec 64):bits .and .u64 (g_ x) (g_ y)=g_ (x&&&y):=by
 unfold bits;simp only[me,ofInt64];exact wrap64 _
theorem akl(x y:BitVec 64):bits .or .u64 (g_ x) (g_ y)=g_ (x|||y):=by
 unfold bits;simp only[me,ofInt64];exact wrap64 _
theorem af6(x y:BitVec 64):bits .xor .u64 (g_ x) (g_ y)=g_ (x^^^y):=by
 unfold bits;simp only[me,ofInt64];exact wrap64 _
theorem aiH(x:BitVec 64):bits .xor .u64 uo.max (g_ x)=g_ (~~~ x):=by
 have h:=af6 (BitVec.allOnes 64) x;rw[BitVec.allOnes_xor]at h;rw[<-h];rfl
theorem VT(b:Nat)(h:b<4294967296):bits .and .i64 (b:Int) 63=((b %64:Nat):Int):=by
 have e1:x8 64 (b:Int)=iw 64 b:=by simp
 have e2:(iw 64 b&&&63#64).toNat=b %64:=by
  rw[BitVec.toNat_and,YA,Zb (by omega:b<2^64)];exact Nat.and_two_pow_sub_one_eq_mod b 6
 have e3:bits .and .i64 (b:Int) 63=av.wrap (((iw 64 b&&&63#64).toNat:Nat):Int):=by
  rfl
 grind[IntKind.wrap_i64]
theorem ad3(k:Nat)(h:k<64):uo.wrap ((2:Int)^k)=g_ (iw 64 (2^k)):=by
 rfl
structure C4 where
 a:BitVec 64
 b:BitVec 64
 c:BitVec 64
 d:BitVec 64
 deriving DecidableEq
def C4.get(x:C4)(i:Nat):BitVec 64:=if i=0 then x.a else if i=1 then x.b else if i=2 then x.c else x.d
def C4.set(x:C4)(i:Nat)(v:BitVec 64):C4:=if i=0 then {x with a:=v}else if i=1 then {x with b:=v}else if i=2 then {x with c:=v}else {x with d:=v}
def C4.zero:C4:=⟨0,0,0,0⟩
def C4.ZC(x y:C4):C4:=⟨x.a&&&y.a,x.b&&&y.b,x.c&&&y.c,x.d&&&y.d⟩
def C4.not(x:C4):C4:=⟨~~~x.a,~~~x.b,~~~x.c,~~~x.d⟩
def dX(x:C4):List Value:=[.int .u64 (g_ x.a),.int .u64 (g_ x.b),.int .u64 (g_ x.c),.int .u64 (g_ x.d)]
def pc(x:C4):Value:=aP #[.int .u64 (g_ x.a),.int .u64 (g_ x.b),.int .u64 (g_ x.c),.int .u64 (g_ x.d)]
theorem ZD(x:C4)(i:Nat)(h:i<4):(dX x)[i]?=ah (v64 (x.get i)):=by
 match i,h with
 |0,_=>rfl
 |1,_=>rfl
 |2,_=>rfl
 |3,_=>rfl
theorem ZE(x:C4)(i:Nat)(h:i<4)(v:BitVec 64):(dX x).set i (v64 v)=dX (x.set i v):=by
 match i,h with
 |0,_=>rfl
 |1,_=>rfl
 |2,_=>rfl
 |3,_=>rfl
def C4.bit(x:C4)(n:Nat):C4:=x.set (n/64) (x.get (n/64)|||iw 64 (2^(n %64)))
def C4.kg(x:C4)(b:Nat):Nat->C4
 |0=>x
 |n+1=>(C4.kg x b n).bit (b+n)
theorem ZF(x:C4)(b n:Nat):(C4.kg x b n).set ((b+n)/64) ((C4.kg x b n).get ((b+n)/64)|||iw 64 (2^((b+n) %64)))=C4.kg x b (n+1):=rfl
def fv(lo hi:Int):C4:=C4.kg C4.zero (max lo 0).toNat (min hi 255+1-max lo 0).toNat
theorem C4.ext'{x y:C4}(h1:x.a=y.a)(h2:x.b=y.b)(h3:x.c=y.c)(h4:x.d=y.d):x=y:=by
 cases x;cases y;simp_all
theorem b5(p q:Bool):(p||(p&&q))=p:=by simp_all
def b8(b:Nat):Nat:=((b/4)&&&51)+(b&&&51)
def c8(b:Nat):Nat:=(b/16+b)&&&15
theorem k1:∀t<2,∀c<128,(c+128*t)&&&85=c&&&85:=by decide+kernel
theorem k2:∀t<4,∀c<64,(c+64*t)&&&51=c&&&51:=by decide+kernel
theorem k3:∀t<5,∀p<5,∀q<5,(p+(q+16*p)+16*t)&&&15=c8 (q+16*p):=by decide+kernel
def s1(x:Nat):Nat:=((x/2)&&&6148914691236517205)+(x&&&6148914691236517205)
def s2(x:Nat):Nat:=((x/4)&&&3689348814741910323)+(x&&&3689348814741910323)
def s3(x:Nat):Nat:=(x/16+x)&&&1085102592571150095
def s4(x:Nat):Nat:=x+x/256
def s5(x:Nat):Nat:=x+x/65536
def s6(x:Nat):Nat:=x+x/4294967296
def C4.mem(x:C4)(n:Nat):Bool:=(x.get (n/64)).toNat.testBit (n %64)
def yo(x:C4):List Nat:=(d_ 256).filter x.mem
def cnt(x:C4):Nat:=(yo x).length
theorem get_mem(x:C4)(n:Nat):x.mem n=(x.get (n/64)).getLsbD (n %64):=by
 rfl
theorem My(n:Nat):C4.zero.mem n=false:=by
 simp[get_mem,C4.get,C4.zero]
theorem ext_mem{x y:C4}(h:∀n,n<256->x.mem n=y.mem n):x=y:=by
 have w:∀i,i<4->x.get i=y.get i:=λi hi=>by
  apply BitVec.eq_of_getLsbD_eq;intro j hj;have:=h (64*i+j) J;rw[get_mem,get_mem,show(64*i+j)/64=i by omega,show(64*i+j) %64=j by omega]at this;exact this
 exact C4.ext' (w 0 alt) (w 1 alt) (w 2 alt) (w 3 alt)
theorem VU{x:C4}{n:Nat}:n∈yo x↔n<256/\x.mem n=true:=by
 simp[yo]
end dg
namespace gv
open dg
inductive Rx where
 |mk (kind:Int) (c:C4) (kids:List Rx)
def Rx.kind:Rx->Int| .mk k _ _=>k
def Rx.uF:Rx->C4| .mk _ c _=>c
def Rx.kids:Rx->List Rx| .mk _ _ l=>l
def Em(k:Int):Int:=if k=1 then 0 else if k=2 then 0 else if k=3 then 0 else if k=6 then 1 else if k=4 then 2 else if k=5 then 2 else-1
mutual
def lZ:Rx->Nat->Nat->Int×Nat
 | .mk k c l,deep,n=>if 100<n+1 then(2,n+1)else if 30<deep then(7,n+1)else if Em k≠(l.length:Int)then(1,n+1)else if(decide (k=3) !=decide (c≠C4.zero))=aB then(1,n+1)else CX l (deep+1) (n+1)
def CX:List Rx->Nat->Nat->Int×Nat
 |[],_,n=>(0,n)
 |r::l,deep,n=>if(lZ r deep n).1≠0 then lZ r deep n else CX l deep (lZ r deep n).2
end
mutual
def tM:Rx->Nat
 | .mk _ _ l=>sH l+1
def sH:List Rx->Nat
 |[]=>0
 |r::l=>tM r+sH l
end
theorem H_(r:Rx):0<tM r:=by obtain⟨k,c,l⟩:=r;rw[tM];omega
theorem En:∀{l:List Rx} {r:Rx},r∈l->tM r<=sH l
 |x::l,r,h=>by
  rw[sH];rcases dw.1 h with rfl|h
  omega;have:=En h;omega
inductive Re where
 |none
 |empty
 |byte (c:C4)
 |J_ (a b:Re)
 |J' (a b:Re)
 |star (a:Re)
def Re.size:Re->Nat
 | .J_ a b=>a.size+b.size+1
 | .J' a b=>a.size+b.size+1
 | .star a=>a.size+1
 |_=>1
def Re.VV:Re->Nat
 | .J_ a b=>max a.VV b.VV+1
 | .J' a b=>max a.VV b.VV+1
 | .star a=>a.VV+1
 |_=>1
def Re.nz:Re->Prop
 | .byte c=>c≠C4.zero
 | .J_ a b=>a.nz/\b.nz
 | .J' a b=>a.nz/\b.nz
 | .star a=>a.nz
 |_=>True
def Re.kind:Re->Int
 | .none=>1
 | .empty=>2
 | .byte _=>3
 | .J_ _ _=>4
 | .J' _ _=>5
 | .star _=>6
def Re.uF:Re->C4
 | .byte c=>c
 |_=>C4.zero
def Re.kids:Re->List Re
 | .J_ a b=>[a,b]
 | .J' a b=>[a,b]
 | .star a=>[a]
 |_=>[]
def l7:Re->Rx
 | .none=> .mk 1 C4.zero []
 | .empty=> .mk 2 C4.zero []
 | .byte c=> .mk 3 c []
 | .J_ a b=> .mk 4 C4.zero [l7 a,l7 b]
 | .J' a b=> .mk 5 C4.zero [l7 a,l7 b]
 | .star a=> .mk 6 C4.zero [l7 a]
theorem agY(r:Re):l7 r= .mk r.kind r.uF (r.kids.map l7):=by cases r<;>rfl
theorem Re.size_pos(r:Re):0<r.size:=by cases r<;>simp[Re.size]
theorem TS{α:Type}{l:List α}(h:l.length=2):∃a b,l=[a,b]:=
 match l,h with
 |[a,b],_=>⟨a,b,rfl⟩
structure Fit(r:Re)(deep n:Nat):Prop where
 nz:r.nz
 sz:n+r.size<=100
 dp:deep+r.VV<=31
theorem Ka:∀(N:Nat) (r:Rx) (deep n q:Nat),tM r<=N->lZ r deep n=(0,q)->∃e:Re,r=l7 e/\Fit e deep n/\q=n+e.size
 |0,r,_,_,_,h,_=>by grind[H_]
 | N + 1,.mk k c l,deep,n,q,hN,h=>by
  have IH:=Ka N;rw[tM]at hN;rw[lZ]at h;split at h;simp at h;split at h;simp at h;split at h;simp at h;split at h;simp at h
  rename_i h1 h2 h3 h4
  have h3:Em k=(l.length:Int):=by omega
  have h4:decide (k=3)=decide (c≠C4.zero):=by
   grind
  have leaf:∀e:Re,k=e.kind->c=e.uF->l=[]->e.kids=[]->e.size=1->e.VV=1->e.nz->∃e:Re,Rx.mk k c l=l7 e/\Fit e deep n/\q=n+e.size:=λe a1 a2 a3 a4 a5 a6 a7=>by
   subst a1 a2 a3;rw[CX]at h;refine⟨e,by rw[agY,a4];rfl,⟨a7,by omega,by omega⟩,?_⟩;simp at h;omega
  unfold Em at h3;have hz:k≠3->c=C4.zero:=λhk=>by
   simp_all
  by_cases k1:k=1
  ·rw[if_pos k1]at h3
   exact leaf .none k1 (hz J) (mT J) I I I trivial
  rw[if_neg k1]at h3
  by_cases k2:k=2
  ·rw[if_pos k2]at h3
   exact leaf .empty k2 (hz J) (mT J) I I I trivial
  rw[if_neg k2]at h3
  by_cases k3:k=3
  ·rw[if_pos k3]at h3
   rw[decide_eq_true k3]at h4;exact leaf (.byte c) k3 I (mT J) I I I (by show c≠C4.zero;exact of_decide_eq_true h4.symm)
  rw[if_neg k3]at h3;have hc:=hz k3;subst hc;have two:∀(a b:Rx),l=[a,b]->∃x y:Re,a=l7 x/\b=l7 y/\Fit x (deep+1) (n+1)/\Fit y (deep+1) (n+1+x.size)/\q=n+1+x.size+y.size:=λa b hl=>by
   subst hl;rw[sH,sH,sH]at hN;rw[CX,CX,CX]at h
   grind
  by_cases k6:k=6
  ·rw[if_pos k6]at h3
   obtain⟨a,rfl⟩:∃a,l=[a]:=List.length_eq_one_iff.1 J;rw[sH,sH]at hN;rw[CX,CX]at h
   by_cases e1:(lZ a (deep+1) (n+1)).1=0
   ·rw[if_neg J]at h
    obtain⟨x,rfl,f1,g1⟩:=IH a (deep+1) (n+1) (lZ a (deep+1) (n+1)).2 J (pE e1 rfl);have:=f1.sz;have:=f1.dp;exact⟨.star x,by rw[k6];rfl,⟨f1.nz,by grind[Re.size],by grind[Re.VV]⟩,by grind[Re.size]⟩
   grind
  rw[if_neg k6]at h3
  by_cases k4:k=4
  ·rw[if_pos k4]at h3
   obtain⟨a,b,rfl⟩:∃a b,l=[a,b]:=TS J;obtain⟨x,y,rfl,rfl,f1,f2,g⟩:=two a b rfl;have:=f1.dp;have:=f2.dp;have:=f2.sz;exact⟨.J_ x y,by rw[k4];rfl,⟨⟨f1.nz,f2.nz⟩,by grind[Re.size],by grind[Re.VV]⟩,by grind[Re.size]⟩
  rw[if_neg k4]at h3
  by_cases k5:k=5
  ·rw[if_pos k5]at h3
   obtain⟨a,b,rfl⟩:∃a b,l=[a,b]:=TS J;obtain⟨x,y,rfl,rfl,f1,f2,g⟩:=two a b rfl;have:=f1.dp;have:=f2.dp;have:=f2.sz;exact⟨.J' x y,by rw[k5];rfl,⟨⟨f1.nz,f2.nz⟩,by grind[Re.size],by grind[Re.VV]⟩,by grind[Re.size]⟩
  omega
inductive Ht(P:List UInt8->Prop):List UInt8->Prop
 |nil:Ht P []
 |cons {u v:List UInt8}:P u->Ht P v->Ht P (u++v)
def Mz:Re->List UInt8->Prop
 | .none,_=>False
 | .empty,s=>s=[]
 | .byte c,s=>∃b:UInt8,s=[b]/\c.mem b.toNat=aB
 | .J_ a b,s=>∃u v,s=u++v/\Mz a u/\Mz b v
 | .J' a b,s=>Mz a s\/Mz b s
 | .star a,s=>Ht (Mz a) s
theorem VW{P:List UInt8->Prop}{u v:List UInt8}(h:Ht P u)(hv:P v):Ht P (u++v):=by
 induction h with
 |nil=>have:=Ht.cons hv .nil;simpa using this
 |cons h1 _ ih=>rw[eu];exact .cons h1 ih
def Qq(s:List UInt8)(f j:Nat):List UInt8:=(s.drop f).take (j-f)
theorem TT{s:List UInt8}{f j:Nat}(h:j<=s.length):(Qq s f j).length=j-f:=by grind[Qq]
theorem ZG(s:List UInt8)(f:Nat):Qq s f f=[]:=by simp[Qq]
theorem TU{s:List UInt8}{f i j:Nat}(h1:f<=i)(h2:i<=j):Qq s f j=Qq s f i++Qq s i j:=by
 unfold Qq;rw[show j-f=(i-f)+(j-i)by omega,List.take_add,kw,show f+(i-f)=i by omega]
theorem ad4{s u v:List UInt8}{f j:Nat}(hf:f<=j)(hj:j<=s.length)(h:Qq s f j=u++v):f+u.length<=j/\u=Qq s f (f+u.length)/\v=Qq s (f+u.length) j:=by
 grind[TT,bT,TU,Qq,List.append_inj]
def VX(r:Re)(s:List UInt8)(f j:Nat):Prop:=f<=j/\j<=s.length/\Mz r (Qq s f j)
inductive Rch(R:Nat->Nat->Prop)(f:Nat):Nat->Prop
 |refl:Rch R f f
 |step {i j:Nat}:Rch R f i->R i j->Rch R f j
theorem Rch.cons{R:Nat->Nat->Prop}{f i j:Nat}(h:R f i)(h':Rch R i j):Rch R f j:=by
 induction h' with
 |refl=>exact .step .refl h
 |step _ h2 ih=>exact .step ih h2
theorem ZH{a:Re}{s:List UInt8}{f j:Nat}(hf:f<=s.length):VX (.star a) s f j↔Rch (VX a s) f j:=by
 constructor
 ·rintro⟨h1,h2,h⟩
  have h:Ht (Mz a) (Qq s f j):=h;have aux:∀w,Ht (Mz a) w->∀f,f<=j->Qq s f j=w->Rch (VX a s) f j:=by
   intro w hw
   induction hw with
   | nil=>
    intro f AR e;have:=TT (s:=s) (f:=f) h2;rw[e]at this;have:f=j:=by grind
    subst this;exact .refl
   | cons hu _ ih=>
    intro f AR e;obtain⟨a1,a2,a3⟩:=ad4 AR h2 e;exact Rch.cons ⟨Nat.le_add_right _ _,by omega,by grind⟩ (ih _ a1 a3.symm)
  grind
 intro h
 induction h with
 |refl=>exact⟨aX _,hf,by rw[ZG];exact Ht.nil⟩
 | step _ h2 ih=>
  obtain⟨a1,a2,a3⟩:=ih;obtain⟨b1,b2,b3⟩:=h2;exact⟨by omega,b2,by rw[TU a1 b1];exact VW a3 b3⟩
def aiI(s:List UInt8)(r:Re)(f:Nat)(c:C4):Prop:=∀j,j<256->(c.mem j=aB↔VX r s f j)
abbrev VY:=List UInt8
structure RS where
 p:Nat
 o:Nat
 e:Int
def akm:VY:=[48,49,50,51,52,53,54,55,56,57,97,98,99,100,101,102]
def agZ:VY:=[40,41,91,93,124,42,43,63,46,94,45,92]
section
variable{s:VY}
structure VZ(s:VY)(st st':RS):Prop where
 o:st'.o=st.o
 ge:st.p<=st'.p
 le:st'.p<=s.length
theorem VZ.trans{a b c:RS}(h:VZ s a b)(h':VZ s b c):VZ s a c:=⟨by rw[h'.o,h.o],eL h.ge h'.ge,h'.le⟩
theorem VZ.refl{st:RS}(h:st.p<=s.length):VZ s st st:=⟨rfl,aX _,h⟩
end
def aiJ(n:Nat):UInt8:=akm.getD n 0
def ZI(b:UInt8):VY:=
 if b=10 then [92,110]else if b=9 then [92,116]else if b=32 then [92,115]
 else if b<33\/126<b then [92,120,aiJ (b.toNat/16),aiJ (b.toNat %16)]
 else if b∈agZ then [92,b]else [b]
def ag0:Nat->List Nat->Nat
 |_,[]=>0
 |b,x::r=>if x=b+1 then ag0 (b+1) r+1 else 0
def aiK(b k:Nat):VY:=ZI (fN b)++((if 1<k then [45]else [])++(if 0<k then ZI (fN (b+k))else []))
def Qr:Nat->List Nat->VY
 |0,_=>[]
 |_+1,[]=>[]
 |f+1,b::r=>aiK b (ag0 b r)++Qr f (r.drop (ag0 b r))
def ag1(c:C4):VY:=
 if cnt c=1 then ZI (fN ((yo c).getD 0 0))
 else if cnt c=255/\c.mem 10=aE then [46]
 else if 128<cnt c then [91,94]++(Qr 256 (yo c.not)++[93])
 else [91]++(Qr 256 (yo c)++[93])
def ZJ(lv:Nat)(e:Re):Bool:=decide (1<=lv/\e.kind=5\/2<=lv/\e.kind=4\/3<=lv/\e.kind=6)
def wrap(b:Bool)(t:VY):VY:=if b then [40]++(t++[41])else t
def body:Re->VY
 | .empty=>[40,41]
 | .none=>[91,93]
 | .byte c=>ag1 c
 | .star a=>wrap (ZJ 3 a) (body a)++[42]
 | .J_ a b=>wrap (ZJ 1 a) (body a)++wrap (ZJ 2 b) (body b)
 | .J' a b=>wrap (ZJ 0 a) (body a)++([124]++wrap (ZJ 1 b) (body b))
section
end
end gv
namespace cB
open Go.RowKit cL dV Go.ChangeShapes Go.WideShapes Go.ChangeAt
section
variable{H:Type}{enc0:TypeId×Value->H}{P:Program}{W:World}
def SlX{α:Type}(W:World)(is:List Value->α->Prop)(c:Nat)(v:Value)(l:List α):Prop:=
 ∃base cap,v=ak base l.length cap/\l.length<=cap/\cap<=maxLen/\(0<l.length->∃b off,base=ah ⟨b,off,aj⟩/\∀i (h:i<l.length),∃cs,is cs l[i]/\Rd W b (off+i*c) cs)
def uG(enc0:TypeId×Value->H)(P:Program)(W:World)(t:TypeId){α:Type}(is:List Value->α->Prop):Prop:=
 ∀fuel cs x,A1 enc0 P W 0 (λ_=>aB) aB fuel t cs=ah x->∃a,is cs a
theorem uG.mono{t:TypeId}{α:Type}{is is':List Value->α->Prop}(h:uG enc0 P W t is)(hi:∀cs a,is cs a->is' cs a):uG enc0 P W t is':=λf cs x hx=>let ⟨a,ha⟩:=h f cs x hx;⟨a,hi _ _ ha⟩
def isInt(k:IntKind)(lo hi:Int)(cs:List Value)(n:Int):Prop:=cs=[.int k n]/\lo<=n/\n<=hi
def aiL(cs:List Value)(s:List UInt8):Prop:=cs=[str s]/\s.length<=9223372036854775807
theorem H'{t:TypeId}{k:IntKind}(ht:P.underlying t=ah (.int k)):uG enc0 P W t (isInt k k.min k.max):=λf cs x h=>by
 obtain⟨n,h1,_,h3⟩:=DataW.trod_int ht h;simp only[Lit.wf,eE,decide_eq_true_eq]at h3;exact⟨n,h1,h3.1,h3.2⟩
theorem V0{t:TypeId}(ht:P.underlying t=ah (.int .i64)):uG enc0 P W t (isInt .i64 (-9223372036854775808) 9223372036854775807):=(H' ht).mono λcs n h=>⟨h.1,by simpa[D5,sx,me]using h.2.1,by simpa[D6,sx,me]using h.2.2⟩
theorem V1{t:TypeId}(ht:P.underlying t=ah (.int .u64)):uG enc0 P W t (isInt .u64 0 18446744073709551615):=(H' ht).mono λcs n h=>⟨h.1,by simpa[D5,sx,me]using h.2.1,by simpa[D6,sx,me]using h.2.2⟩
def aiM{α:Type}(W:World)(is:List Value->α->Prop)(c:Nat)(cs:List Value)(l:List α):Prop:=∃v,cs=[v]/\SlX W is c v l
def af7{α:Type}(is:List Value->α->Prop)(m c:Nat)(cs:List Value)(l:List α):Prop:=l.length=m/\∀i (h:i<l.length),is ((cs.drop (i*c)).take c) l[i]
theorem MA{t e:TypeId}{m c:Nat}(ht:P.underlying t=ah (.array m e))(hc:P.cellsOf e=c){α:Type}{is:List Value->α->Prop}(hd:uG enc0 P W e is):uG enc0 P W t (λcs l=>cs.length=P.cellsOf t/\af7 is m c cs l):=λfuel cs x h=>by
 obtain⟨xs,n,_,_,hl,hlen,hf⟩:=DataW.trod_array ht h;have each:∀i,i<m->∃y:α,is ((cs.drop (i*c)).take c) y:=λi hi=>by
  have h1:=hf i hi;rw[hc,bL J]at h1;exact hd n _ _ h1
 obtain⟨l,Qs,hp⟩:=Df m each;exact⟨l,hl,Qs,λi hi=>hp i _ (bL hi)⟩
def ZK(k:IntKind)(lo hi:Int)(m:Nat)(cs:List Value)(l:List Int):Prop:=l.length=m/\cs=l.map (.int k)/\∀x∈l,lo<=x/\x<=hi
theorem MB{k:IntKind}{lo hi:Int}{m:Nat}{cs:List Value}{l:List Int}(hl:cs.length=m)(h:af7 (isInt k lo hi) m 1 cs l):ZK k lo hi m cs l:=by
 obtain⟨h1,h2⟩:=h;refine⟨h1,?_,λx hx=>?_⟩
 ·apply mf
  intro i
  by_cases hi:i<l.length
  ·have h3:=(h2 i hi).1
   rw[lR]at h3;have hic:i<cs.length:=by omega
   rw[dL hic,Y9,D9]at h3;injection h3 with h3 _
   rw[bL hic,iN,bL hi,h3];rfl
  simp_all
 obtain⟨i,hi,rfl⟩:=ku.1 hx;exact(h2 i hi).2
theorem ad5{t:TypeId}{fs:Array Field}(ht:P.underlying t=ah (.struct fs)){base:Nat}{v:Value}{d:DataW H}{ps:List MemPlace}(hv:JY P W .any base t v)(h:YM enc0 P W 0 (λ_=>aB) aB t v d ps):∃cs fuel,v= .agg cs/\A1 enc0 P W 0 (λ_=>aB) aB fuel t cs.toList=ah (d,ps):=by
 simp only[JY,ht]at hv;obtain⟨cs,rfl,_,_⟩:=hv;obtain⟨fuel,hf⟩:=h;exact⟨cs,fuel,rfl,hf⟩
end
theorem SlX.sl{α:Type}{W:World}{is:List Value->α->Prop}{f:α->Value}{v:Value}{l:List α}(h:SlX W is 1 v l)(hf:∀cs a,is cs a->cs=[f a]):Sl W v l.length (l.map f):=by
 obtain⟨base,cap,h1,h2,h3,h4⟩:=h;refine⟨base,cap,h1,h2,h3,λh0=>?_⟩;obtain⟨b,off,h5,h6⟩:=h4 h0;refine⟨b,off,h5,λj u hj=>?_⟩;have hjl:j<l.length:=by grind
 obtain⟨cs,h7,h8⟩:=h6 j hjl;have:=h8 0 (f l[j]) (by grind);simp only[lR,mi]at this;rw[this,<-hj];simp[hjl]
end cB
namespace cB
open Go.RowKit cL dV
section
variable{α:Type}{f:α->List Value}{c:Nat}
theorem yp(hc:∀a,(f a).length=c):∀(l:List α) (k j:Nat) (h:k<l.length),j<c->(l.flatMap f)[k*c+j]?=(f l[k])[j]?
 |a::r,0,j,h,hj=>by
  grind
 |a::r,k+1,j,h,hj=>by
  have ih:=yp hc r k j (by simp_all) hj;rw[lQ,yc (by rw[hc,oL];omega),hc];simp only[Y6];rw[<-ih,oL]
  congr 1
  omega
theorem nD(hc:∀a,(f a).length=c):∀(l:List α),(l.flatMap f).length=l.length*c
 |[]=>by simp
 |a::r=>by rw[lQ,bT,hc,nD hc r,dj,oL,A8]
theorem gK(hc:∀a,(f a).length=c){W:World}{L:List b_}{b off:Nat}{l:List α}(h:Rd W b off (l.flatMap f)){k:Nat}(hk:k<l.length)(j:Nat)(u:Value)(hu:(f l[k])[j]?=ah u):At W L ⟨b,off+k*c+j,aj⟩ u:=by
 have hj:j<c:=by grind
 rw[iO];exact jE h (by simp_all[yp])
theorem pI(hc:∀a,(f a).length=c){W:bV}{L:List b_}{b off:Nat}{l:List α}(h:∀j u,(l.flatMap f)[j]?=ah u->At W L ⟨b,off+j,aj⟩ u){k:Nat}(hk:k<l.length)(j:Nat)(u:Value)(hu:(f l[k])[j]?=ah u):At W L ⟨b,off+k*c+j,aj⟩ u:=by
 have hj:j<c:=by grind
 simp_all[iO,yp]
theorem ow(hc:∀a,(f a).length=c){W:bV}{L:List b_}{i g m cap n size:Nat}{e:TypeId}{l:List α}(hi:L[i]?=ah (bm e size (ak (ah ⟨g,0,aj⟩) m cap) n (l.flatMap f))){k:Nat}(hk:k<l.length)(j:Nat)(u:Value)(hu:(f l[k])[j]?=ah u):At W L ⟨g,0+k*c+j,aj⟩ u:=
 pI hc (off:=0) (λq x hq=>by rw[cU];exact kx hi hq) hk j u hu
end
def tZ{α:Type}(p:α->Bool)(l:List α):Int:=match l.findIdx? p with|some i=>i|none=> -1
theorem wM{α:Type}{p:α->Bool}{l:List α}{i:Nat}(hi:i<l.length)(h:p l[i]=aB)(hb:∀j (hj:j<l.length),j<i->p l[j]=aE):tZ p l=i:=by
 have:l.findIdx? p=ah i:=YY.2 ⟨hi,h,λj L_=>by simp_all⟩;simp[tZ,this]
theorem wN{α:Type}{p:α->Bool}{l:List α}(hb:∀j (hj:j<l.length),p l[j]=aE):tZ p l= -1:=by
 have:l.findIdx? p=none:=List.findIdx?_eq_none_iff.2 λx hx=>by
  obtain⟨j,hj,rfl⟩:=ku.1 hx;exact hb j hj
 grind[tZ]
theorem zy{α:Type}(p:α->Bool)(l:List α):decide (0<=tZ p l)=l.any p:=by
 unfold tZ
 grind
theorem sJ{α:Type}(p:α->Bool)(l:List α): -1<=tZ p l/\tZ p l<l.length\/tZ p l= -1:=by
 unfold tZ
 cases e:l.findIdx? p with
 |none=>simp
 |some i=>
  obtain⟨h1,h2,_⟩:=YY.1 e
  simp_all
section
variable{P:Program}{n:Nat}{W:bV}{fr:Fr}{L:List b_}{Q:Exit->Act->World->Prop}{ops:Array Oper}{rest:List Oper}{d:Nat}{dst:Option Tmp}{ty:TypeId}{pos:String}{after:Array Edge}{guard:Option (Nat×Bool)}
theorem rL{t e u:TypeId}{x y:Operand}{a:Option Addr}{m c:Nat}{b:Bool}(ht:P.underlying t=ah (.slice e))(hx:ev fr x=ah (ak a m c))(hy:ev fr y=ah (ak aj 0 0))(hb:a.isNone=b):RR P n W ⟨dst,.binOp .eql t x y u,ty,pos,after,guard⟩ fr L (.bool b):= .mk λac w hr _=>by
 subst hb;have e1:(eqGuard .eql t x y (ak a m c) (ak aj 0 0)).run P w= .ok () w:=rfl;simp[execOp,hr.ev hx,hr.ev hy,e1,Go.Lib.run_eql_slice_nil w t e a m c 0 0 ht]
theorem Kb{t e:TypeId}{c bytes:Nat}[xD:sw P t e c bytes](hn:dx d n=aB)
 (h:∀g,TL P n W ops Q rest ((d,ak (ah ⟨g,0,aj⟩) 0 0)::fr) (L++[bm e c (ak (ah ⟨g,0,aj⟩) 0 0) 0 []])):TL P n W ops Q (⟨ah d,.buildSlice t 0 #[],ty,pos,after,aj⟩::rest) fr L:=kQ I λa w hr hm K hK=>by
 obtain⟨i,z,ht,hi,hz,hc,_,hzc,h0⟩:=xD.el.ex;have e':(execOp a.eval ⟨ah d,.buildSlice t 0 #[],ty,pos,after,aj⟩).run P w= .ok (.value (ak (ah ⟨w.heap.size,0,aj⟩) 0 0)) (w.alloc (.cells #[] e)):=by
  have hne:¬(0*c>2^24):=by omega
  simp[execOp,ul,run_underlying ht,sizeOf,typeInfo,hi,lO,newRow];have e0:DW 0=#[]:=by simp
  rw[e0,Array.map_empty]
 unfold gU;rw[e'];exact hK _ _ ((h w.heap.size).go _ _ (hr.put hn _) (hm.append (ot w _) (rI.one (World.ownsRow_made w #[] 0 (bC _) alt (by simp)) λk hk=>by
  have:w.heap.size=k:=pD hk;omega)))
theorem eM{t e:TypeId}{s x:Operand}{i size bytes m k:Nat}{v v2:Value}{xs ys:List Value}[xD:sw P t e size bytes](hi:L[i]?=ah (bm e size v m xs))(fy:SlL W L v2 k ys)(hs:ev fr s=ah v)(hx:ev fr x=ah v2)(hk:ys.length=k*size)
 (h1:∀u∈ys,u.oneCell'=aB) (xi:m+k<=140737488355328) (hb:(m+k)*bytes<=140737488355328) (hn:dx d n=aB)
 (h:∀v',TL P n W ops Q rest ((d,v')::fr) (L.set i (bm e size v' (m+k) (xs++ys)))):
 TL P n W ops Q (⟨ah d,.call {callee:= .builtin .append,args:=#[s,x],argTypes:=#[t,t]},ty,pos,after,aj⟩::rest) fr L:=⟨λa w hr hm=>by
 obtain⟨base,cap,rfl,rM,Eo,gu⟩:=fy w hm;have xj:ys=[]->L.set i (bm e size v (m+0) (xs++[]))=L:=λ_=>by
  rw[fj,mi];apply mf;intro q
  by_cases hq:i=q
  ·subst hq
   rw[sy (dK.1 hi).1,hi]
  rw[mS hq]
 cases base with
 | none=>
  have hk0:k=0:=by
   simp_all
  subst hk0;have hy:ys=[]:=mT J;subst hy;have h2:=h v;rw[xj I]at h2;exact(Qn xD.el hi hs hx hn h2).go a w hr hm
 | some p=>
  have ag2:∀j u,ys[j]?=ah u->w.cell? (p.add j)=ah u:=λj u hj=>by
   obtain⟨b,off,hb,hr⟩:=gu (by
    grind)
   simp only[dM]at hb;subst hb;rw[ii];exact hr j u hj
  exact J9 (c:=cap) xD.el hi hs hx ag2 hk h1 xi hb hn h hr hm⟩
theorem aU{i size m:Nat}{e:TypeId}{v:Value}{xs:List Value}(hi:L[i]?=ah (bm e size v m xs))(h:v.cells=#[v]->v.oneCell'=aB->TL P n W ops Q rest fr L):TL P n W ops Q rest fr L:=⟨λa w hr hm=>by
 have h1:w.ownsRow 0 e size v m xs:=hm.get hi;rcases h1.2 with⟨hv,_⟩|⟨g,cap,oM,hv,_⟩
 exact(h (by rw[hv];rfl) (by rw[hv];rfl)).go a w hr hm;exact(h (by rw[hv];rfl) (by rw[hv];rfl)).go a w hr hm⟩
def Hu(base:Option Addr)(cap c i j:Nat):Value:=ak (if cap=i then base else base.map (λ(q:Addr)=>q.add (i*c))) (j-i) (cap-i)
theorem MC{t e:TypeId}{x:Operand}{lo hi:Option Operand}{agg:Bool}{c i j len cap:Nat}{base:Option Addr}(ht:P.underlying t=ah (.slice e))(he:Ty P e agg c)(hx:ev fr x=ah (ak base len cap))
 (hlo:match lo with|none=>i=0|some z=>∃k,ev fr z=ah (.int k (i:Int))) (hhi:match hi with|none=>j=len|some z=>∃k,ev fr z=ah (.int k (j:Int))) (h1:i<=j) (h2:j<=cap):
 RR P n W ⟨dst,.slice t x lo hi aj,ty,pos,after,guard⟩ fr L (Hu base cap c i j):= .mk λa w hr _=>by
 have e0:(0:Int)<=(i:Int):=by omega
 have hb:∀(k:IntKind) (p q:Nat) (cd:BoundsCode),p<=q->(JV (.int k (p:Int)) q cd).run P w= .ok p w:=λk p q cd h=>by
  simp_all[JV,asIntOf]
 unfold Hu
 cases lo<;>cases hi
 ·simp only at hlo hhi
  subst hlo hhi;simp[execOp,hr.ev hx,D0,D4,run_underlying ht,DZ,he.size]
 ·obtain⟨k,hk⟩:=hhi
  simp only at hlo;subst hlo;simp[execOp,hr.ev hx,hr.ev hk,D0,D4,run_underlying ht,DZ,he.size,hb k j cap _ h2]
 ·obtain⟨k,hk⟩:=hlo
  simp only at hhi;subst hhi;simp[execOp,hr.ev hx,hr.ev hk,D0,D4,run_underlying ht,DZ,he.size,hb k i j _ h1]
 ·obtain⟨k,hk⟩:=hlo
  obtain⟨k',qD⟩:=hhi;simp[execOp,hr.ev hx,hr.ev hk,hr.ev qD,D0,D4,run_underlying ht,DZ,he.size,hb k i j _ h1,hb k' j cap _ h2]
theorem rN{t e:TypeId}{x z:Operand}{agg:Bool}{c i len cap:Nat}{base:Option Addr}{k:IntKind}(ht:P.underlying t=ah (.slice e))(he:Ty P e agg c)(hx:ev fr x=ah (ak base len cap))(hz:ev fr z=ah (.int k (i:Int)))(h1:i<=len)(h2:len<=cap):
 RR P n W ⟨dst,.slice t x (ah z) aj aj,ty,pos,after,guard⟩ fr L (Hu base cap c i len):=MC (lo:=ah z) (hi:=aj) ht he hx ⟨k,hz⟩ I h1 h2
theorem V2{t e:TypeId}{x z:Operand}{agg:Bool}{c j len cap:Nat}{base:Option Addr}{k:IntKind}(ht:P.underlying t=ah (.slice e))(he:Ty P e agg c)(hx:ev fr x=ah (ak base len cap))(hz:ev fr z=ah (.int k (j:Int)))(h2:j<=cap):
 RR P n W ⟨dst,.slice t x aj (ah z) aj,ty,pos,after,guard⟩ fr L (Hu base cap c 0 j):=MC (lo:=aj) (hi:=ah z) ht he hx I ⟨k,hz⟩ (bC _) h2
theorem Kc{α:Type}{f:α->List Value}{c:Nat}(hc:∀a,(f a).length=c){w:World}{base:Option Addr}{cap:Nat}{l:List α}(h:Sl w (ak base l.length cap) l.length (l.flatMap f)){i j:Nat}(h1:i<=j)(h2:j<=l.length):
 Sl w (Hu base cap c i j) ((l.drop i).take (j-i)).length (((l.drop i).take (j-i)).flatMap f):=by
 obtain⟨b,cp,he,k1,k2,k3⟩:=h;simp only[kq,true_and]at he;obtain⟨rfl,rfl⟩:=he;have hlen:((l.drop i).take (j-i)).length=j-i:=by grind
 refine⟨_,cap-i,by rw[hlen];rfl,by omega,by omega,λh0=>?_⟩;rw[hlen]at h0;obtain⟨b,off,rfl,hr⟩:=k3 J;refine⟨b,off+i*c,by rw[if_neg J,Option.map_some,ii],λq u hq=>?_⟩;have e:l.flatMap f=(l.take i).flatMap f++((l.drop i).take (j-i)).flatMap f++((l.drop i).drop (j-i)).flatMap f:=by
  grind[oK]
 have Ia:((l.take i).flatMap f).length=i*c:=by grind[nD,jr]
 have:=hr (i*c+q) u (by
  grind)
 grind
theorem n'{i size m:Nat}{e:TypeId}{v:Value}{xs:List Value}(hi:L[i]?=ah (bm e size v m xs))(h:∀base cap,v=ak base m cap->m<=cap->cap<=9223372036854775807->TL P n W ops Q rest fr L):TL P n W ops Q rest fr L:=⟨λa w hr hm=>by
 have h1:w.ownsRow 0 e size v m xs:=hm.get hi;obtain⟨base,cap,hv,rM,Eo,_⟩:=Sl.dF h1;exact(h base cap hv rM (by simp_all[maxLen])).go a w hr hm⟩
theorem ag3{c:Code}{i size m:Nat}{e:TypeId}{v:Value}{xs:List Value}(hi:L[i]?=ah (bm e size v m xs))(h:∀base cap,v=ak base m cap->m<=cap->cap<=9223372036854775807->T P n W c Q fr L):T P n W c Q fr L:=⟨λa w hr hm=>by
 have h1:w.ownsRow 0 e size v m xs:=hm.get hi;obtain⟨base,cap,hv,rM,Eo,_⟩:=Sl.dF h1;exact(h base cap hv rM (by simp_all[maxLen])).go a w hr hm⟩
theorem TV{c:Code}{i size m:Nat}{e:TypeId}{v:Value}{xs:List Value}(hi:L[i]?=ah (bm e size v m xs))(h:v.cells=#[v]->v.oneCell'=aB->T P n W c Q fr L):T P n W c Q fr L:=⟨λa w hr hm=>by
 have h1:w.ownsRow 0 e size v m xs:=hm.get hi;obtain⟨base,cap,hv,_⟩:=Sl.dF h1;exact(h (by rw[hv];rfl) (by rw[hv];rfl)).go a w hr hm⟩
def Ib(fr:Fr):List Operand->Option (List Value)
 |[]=>ah []
 |x::r=>match ev fr x,Ib fr r with|some v,ah l=>ah (v::l)|_,_=>aj
theorem Ep{a:Act}(hr:mK n a fr):∀(l:List Operand) (vs:List Value),Ib fr l=ah vs->l.map a.eval=vs
 |[],vs,h=>by simp_all[Ib]
 | x ::r,vs,h=>by
  simp only[Ib]at h;split at h
  ·rename_i v l h1 h2
   simp only[dM]at h;subst h;simp[hr.ev h1,Ep hr r l h2]
  cases h
theorem lA{fn:Fn}{first cap:Array Operand}{vs us:List Value}(h1:Ib fr first.toList=ah vs)(h2:Ib fr cap.toList=ah us):RR P n W ⟨dst,.makeFunc fn first cap,ty,pos,after,guard⟩ fr L (.func fn vs.toArray us.toArray):= .mk λa w hr _=>by
 have e1:first.map a.eval=vs.toArray:=by grind[Ep,DV]
 have e2:cap.map a.eval=us.toArray:=by grind[Ep,DV]
 simp only[execOp,e1,e2];rfl
end
open Go.ChangeShapes Go.WideShapes Go.ChangeAt
structure Msr(P:Program)(H:Type) where
 ok:TypeId->DataW H->Prop
 lim:TypeId->Nat->Prop
 ag4:Nat->Prop
 zero:∀e,lim e 0
 slice:∀{t e:TypeId} {elems spare:List (DataW H)},P.underlying t=ah (.slice e)->ok t (.slice elems spare)->lim e elems.length/\∀d∈elems,ok e d
 ZL:∀{t:TypeId} {fs:Array Field} {parts:List (DataW H)},P.underlying t=ah (.struct fs)->ok t (.agg parts)->∀(i:Nat) (f:Field) (d:DataW H),fs[i]?=ah f->parts[i]?=ah d->ok f.type d
 arr:∀{t e:TypeId} {m:Nat} {parts:List (DataW H)},P.underlying t=ah (.array m e)->ok t (.agg parts)->∀d∈parts,ok e d
 str:∀{t:TypeId} {b:List UInt8},ok t (.lit (.string b))->ag4 b.length
section
variable{H:Type}{P:Program}
theorem uH{e:TypeId}:∀(l:List (DataW H)) (d:DataW H),d∈l->∀n∈d.weights P e,n∈DY P e l
 |[],_,h,_,_=>by cases h
 |x::r,d,h,n,hn=>by
  rw[DY,ib];rcases dw.1 h with rfl|h
  exact .inl hn;exact .inr (uH r d h n hn)
theorem sK:∀(ts:List TypeId) (l:List (DataW H)) (i:Nat) (t:TypeId) (d:DataW H),ts[i]?=ah t->l[i]?=ah d->∀n∈d.weights P t,n∈x_ P ts l
 |[],_,_,_,_,h,_,_,_=>by simp at h
 |_::_,[],_,_,_,_,h,_,_=>by simp at h
 |t0::ts,d0::l,0,t,d,ht,hd,n,hn=>by
  simp only[uv,dM]at ht hd;subst ht hd;rw[x_,ib];exact .inl hn
 |t0::ts,d0::l,i+1,t,d,ht,hd,n,hn=>by
  rw[x_,ib];exact .inr (sK ts l i t d (by simpa using ht) (by simpa using hd) n hn)
def TY(P:Program)(H:Type):Msr P H where
 ok t d:=∀n∈d.weights P t,n<=reachBytes
 lim e n:=n*P.bytesOf e<=reachBytes
 ag4 n:=n<=reachBytes
 zero e:=by simp
 slice:=λ{t e elems spare} ht h=>by
  have hw:ya P t (.slice elems spare)=(elems.length+spare.length)*P.bytesOf e::(DY P e elems++DY P e spare):=by rw[ya,ht]
  rw[hw]at h;refine⟨?_,λd hd n hn=>h n ?_⟩
  ·have h1:=h _ (gX)
   exact eL (yf _ J) h1
  exact List.mem_cons_of_mem _ (uw _ (uH elems d hd n hn))
 ZL:=λ{t fs parts} ht h i f d hf hd n hn=>by
  have hw:ya P t (.agg parts)=x_ P (fs.toList.map (·.type)) parts:=by rw[ya,ht]
  rw[hw]at h;exact h n (sK _ _ i f.type d (by rw[iN,Array.getElem?_toList,hf];rfl) hd n hn)
 arr:=λ{t e m parts} ht h d hd n hn=>by
  have hw:ya P t (.agg parts)=DY P e parts:=by rw[ya,ht]
  rw[hw]at h;exact h n (uH parts d hd n hn)
 str:=λ{t b} h=>h _ (by rw[ya];exact gX)
theorem MD{ts:List TypeId}{ds:List (DataW H)}(hsz:(x_ P ts ds).all (· <=reachBytes)=aB)(j:Nat){t:TypeId}{d:DataW H}(ht:ts[j]?=ah t)(hd:ds[j]?=ah d):(TY P H).ok t d:=λn hn=>by
 have:=pB.1 hsz n (sK ts ds j t d ht hd n hn)
 simpa using this
end
section
variable{H:Type}{enc0:TypeId×Value->H}{P:Program}{W:World}{M:Msr P H}
def kS(M:Msr P H)(enc0:TypeId×Value->H)(W:World)(t:TypeId){α:Type}(is:List Value->α->Prop):Prop:=
 ∀fuel cs x,A1 enc0 P W 0 (λ_=>aB) aB fuel t cs=ah x->M.ok t x.1->∃a,is cs a
theorem kS.mono{t:TypeId}{α β:Type}{is:List Value->α->Prop}{is':List Value->β->Prop}(h:kS M enc0 W t is)(hi:∀cs a,is cs a->∃b,is' cs b):kS M enc0 W t is':=λf cs x hx hm=>let ⟨_,ha⟩:=h f cs x hx hm;hi _ _ ha
theorem Ic{t:TypeId}{α:Type}{is:List Value->α->Prop}(h:uG enc0 P W t is):kS M enc0 W t is:=λf cs x hx _=>h f cs x hx
theorem Qt{t:TypeId}(ht:P.underlying t=ah (.int .i64)):kS M enc0 W t (isInt .i64 (-9223372036854775808) 9223372036854775807):=Ic (V0 ht)
theorem yr{t:TypeId}(ht:P.underlying t=ah .string):kS M enc0 W t (λcs s=>aiL cs s/\M.ag4 s.length):=λf cs x h hm=>by
 obtain⟨s,h1,h2,h3⟩:=DataW.trod_string ht h;refine⟨s.data.toList,⟨by rw[h1,Zn],?_⟩,?_⟩
 ·have e:s.data.toList.length=s.size:=uj
  unfold maxLen at h3;omega
 rw[h2]at hm;exact M.str hm
theorem sL{t e:TypeId}{c:Nat}(ht:P.underlying t=ah (.slice e))(hc:P.cellsOf e=c)(Ma:0<c){α:Type}{is:List Value->α->Prop}(hd:kS M enc0 W e is)(_:∀cs a,is cs a->cs.length=c):kS M enc0 W t (λcs l=>aiM W is c cs l/\M.lim e l.length):=λfuel cs x h hm=>by
 rcases YL ht h with⟨rfl,_⟩|⟨a,len,cap,elems,rest,n,_,rfl,hx,_,hlc,hmx,xD,Ee,_⟩
 exact⟨[],⟨_,rfl,aj,0,rfl,aX _,by decide,λh=>by simp at h⟩,M.zero e⟩;rw[hx]at hm;obtain⟨Kd,q9⟩:=M.slice ht hm;have each:∀i,i<len->∃y:α,∃cs,W.cells? 0 (a.add (i*c)) c=ah cs/\is cs y:=λi hi=>by
  have h1:=Ee i hi;rw[hc,bL J]at h1
  cases hcell:W.cells? 0 (a.add (i*c)) c with
  |none=>rw[hcell]at h1;simp at h1
  | some cs=>
   rw[hcell]at h1;obtain⟨y,hy⟩:=hd n cs _ h1 (q9 _ (fE.2 ⟨_,bX J,rfl⟩));exact⟨y,cs,rfl,hy⟩
 obtain⟨l,Qs,hp⟩:=Df len each;subst Qs;refine⟨l,⟨_,rfl,ah a,cap,rfl,hlc,hmx,λh0=>?_⟩,by rw[dY,xD]at Kd;exact Kd⟩;obtain⟨cs0,h1,h2⟩:=hp 0 l[0] (bL h0);have h3:=(kN h1).2 0 Ma;have hlen:=(kN h1).1;rw[bL J]at h3;have hsp:=H2 h3;have e0:a.spot=none:=by
  rw[P_]at hsp;unfold A0 at hsp
  simpa using hsp
 obtain⟨b,off,spot⟩:=a;simp only at e0;subst e0;refine⟨b,off,rfl,λi hi=>?_⟩;obtain⟨cs,h4,h5⟩:=hp i l[i] (bL hi);refine⟨cs,h5,λj u hj=>?_⟩;have hjl:j<c:=by have:=(dK.1 hj).1;rw[(kN h4).1]at this;exact this
 have h6:=(kN h4).2 j hjl;rw[ii,ii]at h6;rw[h6];exact hj
theorem Bf{t:TypeId}{fs:Array Field}(ht:P.underlying t=ah (.struct fs)){fuel:Nat}{cs:List Value}{x:DataW H×List MemPlace}(h:A1 enc0 P W 0 (λ_=>aB) aB fuel t cs=ah x)(hm:M.ok t x.1):
 cs.length=P.cellsOf t/\∀(i:Nat) (f:Field),fs[i]?=ah f->∀{α:Type} {is:List Value->α->Prop},kS M enc0 W f.type is->∃a,is ((cs.drop f.offset).take (P.cellsOf f.type)) a:=by
 obtain⟨xs,n,_,hx,hl,hlen,hf⟩:=YK ht h;refine⟨hl,λi f hi α is ho=>?_⟩;have h1:=hf i f hi;have hlt:i<xs.length:=by rw[hlen];exact(lL.1 hi).1
 rw[bL hlt]at h1;rw[hx]at hm;exact ho n _ _ h1 (M.ZL ht hm i f _ hi (by rw[iN,bL hlt];rfl))
theorem ZM{t:TypeId}{fs:Array Field}(ht:P.underlying t=ah (.struct fs)){base:Nat}{v:Value}{d:DataW H}{ps:List MemPlace}(hv:JY P W .any base t v)(h:YM enc0 P W 0 (λ_=>aB) aB t v d ps){α:Type}{is:List Value->α->Prop}(ho:kS M enc0 W t is)(hm:M.ok t d):∃cs a,v= .agg cs/\is cs.toList a:=by
 obtain⟨cs,fuel,rfl,hf⟩:=ad5 ht hv h;obtain⟨a,ha⟩:=ho fuel cs.toList _ hf hm;exact⟨cs,a,rfl,ha⟩
end
theorem SlX.flat{α:Type}{W:World}{is:List Value->α->Prop}{f:α->List Value}{c:Nat}{v:Value}{l:List α}(h:SlX W is c v l)(hc:∀a,(f a).length=c)(Ma:0<c)(hf:∀cs a,is cs a->cs=f a):Sl W v l.length (l.flatMap f):=by
 obtain⟨base,cap,h1,h2,h3,h4⟩:=h;refine⟨base,cap,h1,h2,h3,λh0=>?_⟩;obtain⟨b,off,h5,h6⟩:=h4 h0;refine⟨b,off,h5,λj u hj=>?_⟩;have hjl:=(dK.1 hj).1;rw[Mm hc]at hjl;have hi:j/c<l.length:=(Za Ma).2 hjl;have ag5:=A9 j Ma;have hdm:j/c*c+j %c=j:=by rw[Nat.mul_comm];exact Nat.div_add_mod j c
 obtain⟨cs,h7,h8⟩:=h6 (j/c) hi;rw[hf _ _ h7]at h8;have h9:=Ca hc l (j/c) (j %c) l[j/c] (bL hi) ag5;rw[hdm]at h9;rw[h9]at hj;have:=h8 (j %c) u hj;rw[iO,hdm]at this;exact this
end cB
namespace cB
open Go.RowKit cL dV
section
variable{P:Program}{n:Nat}{W:bV}{fr:Fr}{L:List b_}{Q:Exit->Act->World->Prop}{ops:Array Oper}{rest:List Oper}{d:Nat}{dst:Option Tmp}{ty:TypeId}{pos:String}{after:Array Edge}{guard:Option (Nat×Bool)}
theorem uI{t e:TypeId}{x y:Operand}{c bytes m cap:Nat}{k k':IntKind}{zs:Array Value}[xD:sw P t e c bytes][hz0:eH P e zs](hx:ev fr x=ah (.int k (m:Int)))(hy:ev fr y=ah (.int k' (cap:Int)))(Qu:m<=cap)(hb:bytes*cap<=281474976710656)(xi:cap<=9223372036854775807)(hn:dx d n=aB)
 (h:∀g,TL P n W ops Q rest ((d,ak (ah ⟨g,0,aj⟩) m cap)::fr) (L++[aK g (madeCells zs (cap*c)) e])):TL P n W ops Q (⟨ah d,.makeSlice t x y,ty,pos,after,aj⟩::rest) fr L:=kQ I λa w hr hm K hK=>by
 obtain⟨i,z,ht,hi,hz,hc,hby,hzc,h0⟩:=xD.el.ex;obtain⟨i2,z2,Qv,hz2,hz3⟩:=eH.ex (P:=P) (t:=e);rw[hi]at Qv;obtain rfl:i=i2:=pD Qv;rw[hz]at hz2;obtain rfl:z=z2:=pD hz2;have Qw:(i.bytes:Int)*(cap:Int)<=281474976710656:=by
  grind
 have hrun:=run_make (P:=P) w t e i z ht hi hz k k' (m:Int) (cap:Int) J J Qw J;rw[de,de,hc,hz3]at hrun;have e':(execOp a.eval ⟨ah d,.makeSlice t x y,ty,pos,after,aj⟩).run P w= .ok (.value (sV w.heap.size m cap)) (w.alloc (.cells (madeCells zs (cap*c)) e)):=by
  simp only[execOp,hr.ev hx,hr.ev hy,oJ,hrun,q6,pA]
 unfold gU;rw[e'];exact hK _ _ ((h w.heap.size).go _ _ (hr.put hn _) (hm.append (ot w _) (rI.one (heap_alloc_new w _) λk hk=>by simp_all[aK])))
theorem Mem.ZN{w:World}{i g m cap size:Nat}{cs:Array Value}{e:TypeId}(h:Mem W L w)(hi:L[i]?=ah (aK g cs e))(hc:cs.size=cap*size)(Qu:m<=cap)(sM:cap<=9223372036854775807):Mem W (L.set i (bm e size (ak (ah ⟨g,0,aj⟩) m cap) m (cs.toList.take (m*size)))) w:=
 h.CW hi ⟨rfl,rfl,rfl,aX _,λ_ _ _=>rfl⟩ ⟨by simp_all,.inr ⟨g,cap,cs,rfl,bC _,h.get hi,Qu,by simp_all[maxLen],hc,rfl⟩⟩ λk hk=> .inl hk
theorem Ie{i g m cap:Nat}{cs:Array Value}{e:TypeId}(size:Nat)(hi:L[i]?=ah (aK g cs e))(hc:cs.size=cap*size)(Qu:m<=cap)(sM:cap<=9223372036854775807)(h:TL P n W ops Q rest fr (L.set i (bm e size (ak (ah ⟨g,0,aj⟩) m cap) m (cs.toList.take (m*size))))):TL P n W ops Q rest fr L:=
 ⟨λa w hr uA=>h.go a w hr (uA.ZN hi hc Qu sM)⟩
theorem ZO{c:Code}{i g m cap:Nat}{cs:Array Value}{e:TypeId}(size:Nat)(hi:L[i]?=ah (aK g cs e))(hc:cs.size=cap*size)(Qu:m<=cap)(sM:cap<=9223372036854775807)(h:T P n W c Q fr (L.set i (bm e size (ak (ah ⟨g,0,aj⟩) m cap) m (cs.toList.take (m*size))))):T P n W c Q fr L:=
 ⟨λa w hr uA=>h.go a w hr (uA.ZN hi hc Qu sM)⟩
theorem kT{i g m cap:Nat}{cs:Array Value}{T:TypeId}{xs:List Value}(hi:L[i]?=ah (aK g cs T))(hx:∀(j:Nat) (u:Value),xs[j]?=ah u->cs[j]?=ah u)(Qu:m<=cap)(sM:cap<=9223372036854775807):SlL W L (ak (ah ⟨g,0,aj⟩) m cap) m xs:=λw hm=>
 ⟨_,cap,rfl,Qu,by simp_all[maxLen],λ_=>⟨g,0,rfl,λj u hj=>by
  rw[cU];exact aD hi (hx j u hj) w hm⟩⟩
end
theorem af8{z:Array Value}{k m:Nat}(h:z.size=k)(h0:0<k):madeCells z (m*k)=((c_ m z.toList).flatten).toArray:=by
 subst h;apply Yz;intro j;unfold madeCells
 by_cases hj:j<m*z.size
 ·have h2:j/z.size<m:=(Za h0).2 hj
  have h3:=A9 j h0;have key:∀(m j:Nat),j<m*z.size->((c_ m z.toList).flatten)[j]?=z.toList[j %z.size]?:=by
   intro m
   induction m with
   |zero=>omega
   | succ m ih=>
    intro j hj;rw[List.replicate_succ,Ea]
    by_cases hc:j<z.size
    simp_all[lP,Zb];rw[yc (by grind)];simp only[uj];rw[ih (j-z.size) (by grind)]
    congr 1
    simp_all[Nat.mod_eq_sub_mod]
  simp_all
 simp_all
theorem If:∀(xs:List Value) (acc:Array Value) (off k:Nat),off+k+xs.length<=acc.size->(xs.toArray.zipIdx k).foldl (λcs (x:Value×Nat)=>cs.setIfInBounds (off+x.2) x.1) acc=(acc.toList.take (off+k)++xs++acc.toList.drop (off+k+xs.length)).toArray
 | [],acc,off,k,_=>by
  have e0:(([]:List Value).toArray.zipIdx k)=#[]:=by rfl
  rw[e0];simp
 | x ::xs,acc,off,k,h=>by
  simp only[dj]at h;have e:(x::xs).toArray.zipIdx k=#[(x,k)]++xs.toArray.zipIdx (k+1):=by
   simp
  rw[e,Array.foldl_append];have e2:(#[(x,k)]:Array (Value×Nat)).foldl (λcs (x:Value×Nat)=>cs.setIfInBounds (off+x.2) x.1) acc=acc.setIfInBounds (off+k) x:=by simp
  rw[e2,If xs _ off (k+1) (by grind)]
  congr 1
  have hA:(acc.toList.take (off+k)).length=off+k:=by grind
  have hA1:(acc.toList.take (off+k)++[x]).length=off+k+1:=by simp_all
  have e3:acc.toList.set (off+k) x=(acc.toList.take (off+k)++[x])++acc.toList.drop (off+k+1):=by
   rw[D8,if_pos (by grind)];simp
  simp only[JR,dj];rw[e3,show off+(k+1)=off+k+1 by omega,P6 hA1,<-kw,P7 hA1,kw];simp only[eu,mg,fD];rw[show off+k+1+xs.length=off+k+(xs.length+1)by omega]
theorem af9{c:Nat}(c0:Nat->Option (Nat×Nat))(Ma:∀i,c0 i=ah (i*c,c)):∀(vs:List Value) (k:Nat) (acc:Array Value),(k+vs.length)*c<=acc.size->(∀v∈vs,v.cells.size=c)->
 lO c0 acc ((vs.zipIdx k).map λ(v,i)=>(i,v))=ah (acc.toList.take (k*c)++vs.flatMap (λv=>v.cells.toList)++acc.toList.drop ((k+vs.length)*c)).toArray
 |[],k,acc,h,_=>by simp[lO]
 | v ::vs,k,acc,h,h1=>by
  simp only[dj]at h;have hv:=h1 v (by simp);have hsz:k*c+c<=acc.size:=by
   grind
  rw[P3,fm];simp only[lO,Ma];rw[if_neg (by simp_all)];have af_:=If v.cells.toList acc (k*c) 0 (by simp_all);simp only[Yy,mi,uj,hv]at af_;rw[af_,af9 c0 Ma vs (k+1) _ (by grind) (λu hu=>h1 u (by grind))]
  congr 2
  have hA:(acc.toList.take (k*c)).length=k*c:=by grind
  have hA1:(acc.toList.take (k*c)++v.cells.toList).length=(k+1)*c:=by grind
  simp only[lQ,dj];rw[P6 hA1];have e5:(k+1+vs.length)*c=(k+1)*c+vs.length*c:=sB _ _ _;rw[e5,<-kw,P7 hA1,kw];simp only[eu];rw[show k*c+c+vs.length*c=(k+(vs.length+1))*c by rw[sB,sB,Ed];omega]
theorem ZP{P:Program}{t e:TypeId}{c bytes:Nat}(xD:El P t e c bytes)(vs:List Value)(h1:∀v∈vs,v.cells.size=c)(h0:0<vs.length)(hm:vs.length*c<=16777216)(w:World):
 (ul t vs.length (vs.zipIdx.map λ(v,i)=>(i,v)).toArray).run P w= .ok (ak (ah ⟨w.heap.size,0,aj⟩) vs.length vs.length) (w.alloc (.cells (vs.flatMap λv=>v.cells.toList).toArray e)):=by
 obtain⟨i,z,ht,hi,hz,hc,_,hzc,hp⟩:=xD.ex;have rJ:=af9 (c:=c) (λi=>ah (i*c,c)) (by simp) vs 0 ((DW (vs.length*c)).map (z.cells[· %z.cells.size]!)) (by simp) h1
 simp only[P_,D9,fD,cU]at rJ;rw[ia (by simp)]at rJ;simp only[fj]at rJ;have hne:¬(vs.length*c>2^24):=by omega
 have Zv:¬(vs.length*c=0):=by
  have:=Nat.mul_pos h0 hp;omega
 simp only[ul,oJ,run_underlying ht,q6,sizeOf,typeInfo,run_program,hi,pA,hc,zeroValue,hz,if_neg hne,if_neg Zv];simp only[rJ,newRow];simp
section
variable{P:Program}{n:Nat}{W:bV}{fr:Fr}{L:List b_}{Q:Exit->Act->World->Prop}{ops:Array Oper}{rest:List Oper}{d:Nat}{dst:Option Tmp}{ty:TypeId}{pos:String}{after:Array Edge}{guard:Option (Nat×Bool)}
theorem fz{t e:TypeId}{c bytes m:Nat}{parts:Array (Nat×Operand)}{cs:Array Value}(vs:List Value)[xD:sw P t e c bytes](hp:sE fr parts.toList=ah (vs.zipIdx.map λ(v,i)=>(i,v)))(hm:vs.length=m)(h0:dx 0 m=aB)(h1:∀v∈vs,v.cells.size=c)(hs:yg (m*c) 16777216=aB)(hcs:cs=(vs.flatMap λv=>v.cells.toList).toArray)(hn:dx d n=aB)
 (h:∀g,TL P n W ops Q rest ((d,ak (ah ⟨g,0,aj⟩) m m)::fr) (L++[aK g cs e])):TL P n W ops Q (⟨ah d,.buildSlice t m parts,ty,pos,after,aj⟩::rest) fr L:=by
 subst hm hcs;refine Qm (λa w hr=>?_) hn h;have e:(parts.map λ(i,x)=>(i,a.eval x))=(vs.zipIdx.map λ(v,i)=>(i,v)).toArray:=by
  grind[sF,DV]
 rw[e];exact ZP xD.el vs h1 (nB h0) (nB hs) w
theorem ME{t e:TypeId}{x z:Operand}{agg:Bool}{c j len cap:Nat}{base:Option Addr}{k:IntKind}(ht:P.underlying t=ah (.slice e))(he:Ty P e agg c)(hx:ev fr x=ah (ak base len cap))(hz:ev fr z=ah (.int k (j:Int)))(h:j<=cap):RR P n W ⟨dst,.slice t x aj (ah z) aj,ty,pos,after,guard⟩ fr L (ak base j cap):= .mk λa w hr hm=>by
 have h1:=(V2 (P:=P) (n:=n) (W:=W) (L:=L) (dst:=dst) (ty:=ty) (pos:=pos) (after:=after) (guard:=guard) ht he hx hz h).go a w hr hm;have e1:Hu base cap c 0 j=ak base j cap:=by
  unfold Hu
  cases base with
  |none=>simp
  |some q=>simp[A0]
 rw[e1]at h1;exact h1
theorem oO{fn:Func}{R:Ending->World->Prop}(mV:fn.results=#[])(h:∀w,Mem W L w->R (.returned (.tuple #[])) w):E n W .normal (bodyPost P fn R) fr L:=
 ⟨λa w hr hm=>⟨hr.defers,.tuple #[],by simp[results,mV],h w hm⟩⟩
end
structure yt(α:Type) where
 c:Nat
 is:(Nat->Prop)->World->List Value->α->Prop
 len:∀{F w cs a},is F w cs a->cs.length=c
 stay:∀{F w w' cs a},is F w cs a->(∀k,F k->w'.heap[k]?=w.heap[k]?)->is F w' cs a
 mono:∀{F F' w cs a},is F w cs a->(∀k,F k->F' k)->is F' w cs a
def All:Nat->Prop:=λ_=>True
theorem rd_stay{w w':World}{b off:Nat}{cs:List Value}(h:Rd w b off cs)(hk:w'.heap[b]?=w.heap[b]?):Rd w' b off cs:=λj u hj=>by
 rw[YW (w:=w) (a:=⟨b,off+j,aj⟩) hk];exact h j u hj
def jO{α:Type}(s:yt α)(F:Nat->Prop)(w:World)(v:Value)(l:List α):Prop:=
 ∃base cap,v=ak base l.length cap/\l.length<=cap/\cap<=maxLen/\(0<l.length->∃b off,base=ah ⟨b,off,aj⟩/\F b/\∀i (h:i<l.length),∃cs,s.is F w cs l[i]/\Rd w b (off+i*s.c) cs)
section
variable{α β:Type}{s:yt α}{F F':Nat->Prop}{w w':World}{v:Value}{l:List α}
theorem jO.stay(h:jO s F w v l)(hk:∀k,F k->w'.heap[k]?=w.heap[k]?):jO s F w' v l:=
 let ⟨base,cap,h1,h2,h3,h4⟩:=h
 ⟨base,cap,h1,h2,h3,λh0=>let ⟨b,off,h5,h6,h7⟩:=h4 h0;⟨b,off,h5,h6,λi hi=>let ⟨cs,h8,h9⟩:=h7 i hi;⟨cs,s.stay h8 hk,rd_stay h9 (hk b h6)⟩⟩⟩
theorem jO.mono(h:jO s F w v l)(hk:∀k,F k->F' k):jO s F' w v l:=
 let ⟨base,cap,h1,h2,h3,h4⟩:=h
 ⟨base,cap,h1,h2,h3,λh0=>let ⟨b,off,h5,h6,h7⟩:=h4 h0;⟨b,off,h5,hk b h6,λi hi=>let ⟨cs,h8,h9⟩:=h7 i hi;⟨cs,s.mono h8 hk,h9⟩⟩⟩
theorem jO.nil:jO s F w (ak aj 0 0) []:=⟨aj,0,rfl,aX _,by decide,λh=>by grind⟩
def zz(f:α->List Value)(c:Nat)(hc:∀a,(f a).length=c)(p:α->Prop):yt α:=
 ⟨c,λ_ _ cs a=>cs=f a/\p a,λh=>by rw[h.1,hc],λh _=>h,λh _=>h⟩
def iv:yt Int:=zz (λn=>[ap av n]) 1 (λ_=>rfl) cL.dv
def V3:yt (List UInt8):=zz (λs=>[str s]) 1 (λ_=>rfl) (λs=>s.length<=9223372036854775807)
def cO(s:yt α):yt (List α):=
 ⟨1,λF w cs l=>∃v,cs=[v]/\jO s F w v l,λ⟨_,h,_⟩=>by rw[h];rfl,λ⟨v,h1,h2⟩ hk=>⟨v,h1,h2.stay hk⟩,λ⟨v,h1,h2⟩ hk=>⟨v,h1,h2.mono hk⟩⟩
def ZQ(s:yt α)(t:yt β):yt (α×β):=
 ⟨s.c+t.c,λF w cs x=>∃c1 c2,cs=c1++c2/\s.is F w c1 x.1/\t.is F w c2 x.2,λ⟨_,_,h,h1,h2⟩=>by rw[h,bT,s.len h1,t.len h2],
  λ⟨c1,c2,h,h1,h2⟩ hk=>⟨c1,c2,h,s.stay h1 hk,t.stay h2 hk⟩,λ⟨c1,c2,h,h1,h2⟩ hk=>⟨c1,c2,h,s.mono h1 hk,t.mono h2 hk⟩⟩
theorem jO.flat{f:α->List Value}{c:Nat}{hc:∀a,(f a).length=c}{p:α->Prop}(Ma:0<c)(h:jO (zz f c hc p) F w v l):Sl w v l.length (l.flatMap f):=by
 obtain⟨base,cap,h1,h2,h3,h4⟩:=h;have hx:SlX w (λcs a=>cs=f a) c v l:=⟨base,cap,h1,h2,h3,λh0=>let ⟨b,off,h5,_,h7⟩:=h4 h0;⟨b,off,h5,λi hi=>let ⟨cs,h8,h9⟩:=h7 i hi;⟨cs,h8.1,h9⟩⟩⟩;exact hx.flat hc Ma λcs a h=>h
theorem jO.okp{f:α->List Value}{c:Nat}{hc:∀a,(f a).length=c}{p:α->Prop}(h:jO (zz f c hc p) F w v l):∀a∈l,p a:=λa ha=>by
 obtain⟨i,hi,rfl⟩:=ku.1 ha;obtain⟨base,cap,h1,h2,h3,h4⟩:=h;obtain⟨b,off,_,_,h7⟩:=h4 J;obtain⟨cs,h8,_⟩:=h7 i hi;exact h8.2
theorem jO.of_flat{f:α->List Value}{c:Nat}{hc:∀a,(f a).length=c}{p:α->Prop}(h:Sl w v l.length (l.flatMap f))(hp:∀a∈l,p a)(_:∀b,v.ownBlock=ah b->F b)(hF2:∀a n cp,v=ak (ah a) n cp->F a.block):jO (zz f c hc p) F w v l:=by
 obtain⟨base,cap,h1,h2,h3,h4⟩:=h;refine⟨base,cap,h1,h2,h3,λh0=>?_⟩;obtain⟨b,off,h5,h6⟩:=h4 h0;refine⟨b,off,h5,hF2 ⟨b,off,aj⟩ l.length cap (by grind),λi hi=>⟨f l[i],⟨rfl,hp _ (bX hi)⟩,λj u hj=>?_⟩⟩;have hjc:j<c:=by grind
 have:=h6 (i*c+j) u (by simp_all[yp]);rw[iO];exact this
def aiN(s:yt α)(F:Nat->Prop)(cs:List Value)(a:α):b_:=
 ⟨aj,F,λw=>s.is F w cs a/\∀k,F k->k<w.heap.size,λw h k hk=>h.2 k (hk.elim (λh=>by cases h) id),λw w' h hs hb=>⟨s.stay h.1 λk hk=>hb k (.inr hk),λk hk=>jt (h.2 k hk) hs⟩⟩
def eG(s:yt α)(F:Nat->Prop)(gY:List (List Value))(l:List α):b_:=
 ⟨aj,F,λw=>(gY.length=l.length/\∀i (h:i<l.length) (h':i<gY.length),s.is F w gY[i] l[i])/\∀k,F k->k<w.heap.size,λw h k hk=>h.2 k (hk.elim (λh=>by cases h) id),
  λw w' h hs hb=>⟨⟨h.1.1,λi hi qw=>s.stay (h.1.2 i hi qw) λk hk=>hb k (.inr hk)⟩,λk hk=>jt (h.2 k hk) hs⟩⟩
end
def Or1(F:Nat->Prop)(v:Value):Nat->Prop:=λk=>F k\/v.ownBlock=ah k
theorem uJ{c:Nat}:∀(gY:List (List Value)) (_:∀x∈gY,x.length=c) (i j:Nat) (h:i<gY.length),j<c->gY.flatten[i*c+j]?=gY[i][j]?
 |x::r,hc,0,j,h,hj=>by
  grind
 |x::r,hc,i+1,j,h,hj=>by
  have hx:=hc x (by simp);have ih:=uJ r (λy hy=>hc y (by grind)) i j (by simp_all) hj;rw[Ea,yc (by rw[hx,oL];omega),hx];simp only[Y6];rw[<-ih,oL]
  congr 1;omega
section
variable{α:Type}{s:yt α}{F:Nat->Prop}{w:World}{v:Value}{l:List α}
theorem Er{e:TypeId}{gY:List (List Value)}(hr:(bm e s.c v l.length gY.flatten).holds w)(he:(eG s F gY l).holds w)(_:0<s.c):jO s (Or1 F v) w v l:=by
 have hr:w.ownsRow 0 e s.c v l.length gY.flatten:=hr;obtain⟨⟨h1,h2⟩,h3⟩:=he;have hlen:∀x∈gY,x.length=s.c:=λx hx=>by
  obtain⟨i,hi,rfl⟩:=ku.1 hx;exact s.len (h2 i J hi)
 obtain⟨base,cap,h4,h5,h6,h7⟩:=Sl.dF hr;refine⟨base,cap,h4,h5,h6,λh0=>?_⟩;have hb:∃g,v=sV g l.length cap/\v.ownBlock=ah g:=by
  rcases hr.2 with⟨hv,h0'⟩|⟨g,Hr,oM,hv,_⟩
  omega;rw[h4]at hv;simp only[kq,true_and]at hv;obtain⟨rfl,rfl⟩:=hv;exact⟨g,h4,by rw[h4];rfl⟩
 obtain⟨g,hv,hg⟩:=hb;rw[h4]at hv;simp only[kq,and_true]at hv;subst hv;obtain⟨b,off,h8,h9⟩:=h7 h0;simp only[dM,PH,and_true]at h8;obtain⟨rfl,rfl⟩:=h8;refine⟨g,0,rfl,.inr hg,λi hi=>⟨gY[i]' J,s.mono (h2 i hi J) λk hk=> .inl hk,λj u hj=>?_⟩⟩;have hjc:j<s.c:=by grind
 have:=h9 (i*s.c+j) u (by simp_all[uJ]);rw[iO];exact this
theorem Es{e:TypeId}{gY:List (List Value)}{n c:Nat}(hr:(bm e c v n gY.flatten).holds w)(he:(eG s F gY l).holds w):∀k,Or1 F v k->k<w.heap.size:=λk hk=>hk.elim (he.2 k) λh=>((bm e c v n gY.flatten).lt w hr k (.inl h))
theorem pJ{F2:Nat->Prop}{gY:List (List Value)}{cs:List Value}{a:α}(he:(eG s F gY l).holds w)(hs:s.is F2 w cs a)(h2:∀k,F2 k->k<w.heap.size):(eG s (λk=>F k\/F2 k) (gY++[cs]) (l++[a])).holds w:=by
 obtain⟨⟨h1,h3⟩,h4⟩:=he;refine⟨⟨by grind,λi hi qw=>?_⟩,λk hk=>hk.elim (h4 k) (h2 k)⟩
 by_cases c:i<l.length
 ·rw[Y4 J,Y4 c]
  exact s.mono (h3 i c J) λk hk=> .inl hk
 have Qv:i=l.length:=by grind
 subst Qv;rw[YZ J,YZ (aX _)];simp only[h1,Nat.sub_self,List.getElem_cons_zero];exact s.mono hs λk hk=> .inr hk
theorem kG:(eG s (λ_=>False) [] []).holds w:=⟨⟨rfl,λi h=>by simp⟩,λk h=>h.elim⟩
end
section
variable{P:Program}{n:Nat}{W:bV}{fr:Fr}{L:List b_}{Q:Exit->Act->World->Prop}{ops:Array Oper}{rest:List Oper}{d:Nat}
theorem Mem.ZR{w:World}(o:b_)(i j:Nat)(js:List Nat){o1 o2:b_}{R:List b_}(h:Mem W L w)(hn:([i,j]++js).Nodup)(h1:L[i]?=ah o1)(h2:L[j]?=ah o2)(hR:R=js.filterMap λi=>L[i]?)(hf:∀k,o.ft k->o1.ft k\/o2.ft k)(hh:∀w,o1.holds w->o2.holds w->o.holds w):Mem W (R++[o]) w:=by
 refine Mem.merge o (h.pick ([i,j]++js) hn ?_) hf (hh w);rw[List.filterMap_append,<-hR]
 congr 1
 rw[A6 (by exact h1),A6 (by exact h2)];rfl
theorem uK(o:b_)(i j:Nat)(js:List Nat){o1 o2:b_}{R:List b_}(hn:([i,j]++js).Nodup)(h1:L[i]?=ah o1)(h2:L[j]?=ah o2)(hR:R=js.filterMap λi=>L[i]?)(hf:∀k,o.ft k->o1.ft k\/o2.ft k)(hh:∀w,o1.holds w->o2.holds w->o.holds w)(h:TL P n W ops Q rest fr (R++[o])):TL P n W ops Q rest fr L:=⟨λa w hr hm=>h.go a w hr (hm.ZR o i j js hn h1 h2 hR hf hh)⟩
theorem Dj{e:Exit}(o:b_)(i j:Nat)(js:List Nat){o1 o2:b_}{R:List b_}(hn:([i,j]++js).Nodup)(h1:L[i]?=ah o1)(h2:L[j]?=ah o2)(hR:R=js.filterMap λi=>L[i]?)(hf:∀k,o.ft k->o1.ft k\/o2.ft k)(hh:∀w,o1.holds w->o2.holds w->o.holds w)(h:E n W e Q fr (R++[o])):E n W e Q fr L:=⟨λa w hr hm=>h.go a w hr (hm.ZR o i j js hn h1 h2 hR hf hh)⟩
theorem Mem.ZS{w:World}(o:b_)(h:Mem W L w)(hf:∀k,¬o.ft k)(hh:o.holds w):Mem W (L++[o]) w:=
 h.append (Gr.refl w) (fg.one hh λk hk=>absurd hk (hf k))
theorem oc{c:Code}(o:b_)(hf:∀k,¬o.ft k)(hh:∀w,o.holds w)(h:T P n W c Q fr (L++[o])):T P n W c Q fr L:=⟨λa w hr hm=>h.go a w hr (hm.ZS o hf (hh w))⟩
theorem MF(o:b_)(hf:∀k,¬o.ft k)(hh:∀w,o.holds w)(h:TL P n W ops Q rest fr (L++[o])):TL P n W ops Q rest fr L:=⟨λa w hr hm=>h.go a w hr (hm.ZS o hf (hh w))⟩
theorem jP{e:Exit}(o:b_)(hf:∀k,¬o.ft k)(hh:∀w,o.holds w)(h:E n W e Q fr (L++[o])):E n W e Q fr L:=⟨λa w hr hm=>h.go a w hr (hm.ZS o hf (hh w))⟩
theorem Bg{α:Type}{f:α->List Value}{c:Nat}(hc:∀a,(f a).length=c){t e:TypeId}{p x:Operand}{i g off cap k m:Nat}{agg:Bool}{l:List α}{a:α}{v:Value}(hT:Ty P t agg c)(hi:L[i]?=ah (bm e c (ak (ah ⟨g,0,aj⟩) m cap) m (l.flatMap f)))(hp:ev fr p=ah (aH (ah ⟨g,off,aj⟩)))(aiB:off=k*c)(hk:k<l.length)(hm0:m=l.length)(hx:ev fr x=ah v)(hv:v.cells=(f a).toArray)(h1:(f a).all fV=aB)
 {ty:TypeId} {pos:String} {after:Array Edge}
 (h:TL P n W ops Q rest fr (L.set i (bm e c (ak (ah ⟨g,0,aj⟩) m cap) m ((l.set k a).flatMap f)))):
 TL P n W ops Q (⟨aj,.store t p x,ty,pos,after,aj⟩::rest) fr L:=kQ I λact w hr hm K hK=>by
 subst aiB hm0;have yh:w.ownsRow 0 e c (ak (ah ⟨g,0,aj⟩) l.length cap) l.length (l.flatMap f):=hm.get hi;have aiA:=yh;rcases yh.2 with⟨h0,_⟩|⟨g',Hr,oM,he,Bb,hg,hnc,hcm,hcs,Mu⟩
 omega
 simp only[kq,dM,PH,and_true,true_and]at he;obtain⟨rfl,rfl⟩:=he;have Mv:k*c+c<=oM.size:=by
  have:(k+1)*c<=cap*c:=yf _ J;rw[hcs];rw[sB,Ed]at this;omega
 have hst:=run_storeCells_at P g (k*c) e (f a) 0 oM w hg (by simp_all) (pB.1 h1);simp only[mi,hc]at hst;have e':(execOp act.eval ⟨aj,.store t p x,ty,pos,after,aj⟩).run P w= .ok .skip (w.setRow g (oM.toList.take (k*c)++f a++oM.toList.drop (k*c+c)).toArray):=by
  simp[execOp,hr.ev hp,hr.ev hx,PL,yb,storeVar,hT.size,hv,hst,hc]
 unfold gU;rw[e'];refine hK _ _ (h.go _ _ (hr.rH undef) (hm.CW hi ⟨rfl,rfl,rfl,by simp,λk _ hk=>setRow_other w g k _ (λe=>hk (by subst e;rfl))⟩ ?_ λk hk=> .inl hk));have hlen:=nD hc l;refine⟨by rw[nD hc];simp,.inr ⟨g,cap,_,rfl,Bb,setRow_heap w g oM _ e _ hg,hnc,hcm,by grind,?_⟩⟩;have e1:(l.set k a).flatMap f=(l.flatMap f).take (k*c)++f a++(l.flatMap f).drop (k*c+c):=by
  have Ia:((l.take k).flatMap f).length=k*c:=by grind[nD,jr]
  have Ig:((l.take (k+1)).flatMap f).length=k*c+c:=by rw[nD hc,jr,P9 J,sB,Ed]
  have t1:(l.flatMap f).take (k*c)=(l.take k).flatMap f:=by
   grind[oK]
  have t2:(l.flatMap f).drop (k*c+c)=(l.drop (k+1)).flatMap f:=by
   grind[oK]
  simp_all[D8]
 rw[e1,<-Mu];have ZT:k*c+c<=l.length*c:=by
  have:(k+1)*c<=l.length*c:=yf _ J;rw[sB,Ed]at this;exact this
 simp only[List.take_take,List.take_append,bT,hc,jr,uj];rw[P9 (by omega:k*c<=oM.size),Nat.min_eq_right (by omega:k*c<=l.length*c),P9 (by omega:k*c<=l.length*c),gD (by grind:(f a).length<=l.length*c-k*c)]
 congr 1
 rw[List.drop_take]
theorem mX{i:Nat}{o:b_}{φ:Prop}(hi:L[i]?=ah o)(hφ:∀w,o.holds w->φ)(h:φ->TL P n W ops Q rest fr L):TL P n W ops Q rest fr L:=⟨λa w hr hm=>(h (hφ w (hm.get hi))).go a w hr hm⟩
theorem ix{c:Code}{i:Nat}{o:b_}{φ:Prop}(hi:L[i]?=ah o)(hφ:∀w,o.holds w->φ)(h:φ->T P n W c Q fr L):T P n W c Q fr L:=⟨λa w hr hm=>(h (hφ w (hm.get hi))).go a w hr hm⟩
end
open Go.WideMaps (KeyLaw)
def Et(v:Value):Option (DataW Value×List MemPlace):=ah (.held v,[])
structure yu(P:Program)(k:TypeId)(κ:Type) where
 kv:κ->Value
 ok:κ->Prop
 law:KeyLaw P k
 key:∀x,ok x->∃l,keyOf P k (kv x)=ah l
 inj:∀x y,kv x=kv y->x=y
section
variable{P:Program}{k:TypeId}{κ:Type}
theorem yu.keyed(K:yu P k κ):Maps.Keyed P k:=agz K.law
variable(K:yu P k κ)
def MG(D:DataW Value)(m:κ->Option Value)(n:Nat):Prop:=
 PM D=n/\∀x l,K.ok x->keyOf P k (K.kv x)=ah l->match m x with|some v=>PN D l=aB/\(∀z,D.atKey l z= .held v)|none=>PN D l=aE
def fq(g:Nat)(m:κ->Option Value)(n:Nat):b_:=
 ⟨ah g,λ_=>False,λw=>∃D,w.ownsMap P k Et g n D/\MG K D m n,λw ⟨D,h,_⟩ q hq=>by simp only[dM,or_false]at hq;subst hq;exact h.lt,
  λw w' ⟨D,⟨es,clock,hb,h⟩,h2⟩ _ hk=>⟨D,⟨es,clock,(hk g (.inl I)).trans hb,h⟩,h2⟩⟩
theorem V4{w:World}{R:Value->Option (DataW Value×List MemPlace)}{b n:Nat}{D:DataW Value}(h:w.ownsMap P k R b n D):w.ownsMap P k R b (PM D) D:=by
 obtain⟨es,clock,hb,F,hs,rfl⟩:=h;exact⟨es,clock,hb,F,by simp[PM,length_sorted],rfl⟩
theorem Ih:MG K (.map []) (λ_=>aj) 0:=⟨rfl,λ_ _ _ _=>rfl⟩
theorem V5[DecidableEq κ]{w:World}{g n:Nat}{D:DataW Value}{m:κ->Option Value}(ho:w.ownsMap P k Et g n D)(h:MG K D m n){x:κ}{l:Lit}(hx:K.ok x)(hl:keyOf P k (K.kv x)=ah l)(v:Value):
 MG K (D.put l (.held v)) (λy=>if y=x then ah v else m y) (if(m x).isSome then n else n+1):=by
 have hk:=K.keyed.key hl;have ht:=ho.tidy K.keyed;refine⟨?_,λy l' hy hl'=>?_⟩
 ·have h2:=h.2 x l hx hl
  rw[Maps.size_put ht]
  cases e:m x with
  |none=>rw[e]at h2;rw[h2];simp[h.1]
  |some u=>rw[e]at h2;rw[h2.1];simp[h.1]
 ·by_cases e:y=x
  ·subst e
   rw[hl]at hl';simp only[dM]at hl';subst hl';simp only[if_true];exact⟨Maps.has_put_same ht.isMap hk _,λz=>Maps.atKey_put_same ht.isMap hk _ _⟩
  have hne:l'≠l:=λe'=>e (K.inj _ _ (K.keyed.inj (by simp_all) hl));simp only[if_neg e];have h2:=h.2 y l' hy hl';rw[Maps.has_put_other hne]
  cases e2:m y with
  |none=>rw[e2]at h2;exact h2
  |some u=>rw[e2]at h2;exact⟨h2.1,λz=>by rw[Maps.atKey_put_other hne];exact h2.2 z⟩
theorem Ke{D:DataW Value}{m:κ->Option Value}{n:Nat}(h:MG K D m n){x:κ}{l:Lit}(hx:K.ok x)(hl:keyOf P k (K.kv x)=ah l)(z:Value):D.atKey l (.held z)= .held ((m x).getD z)/\PN D l=(m x).isSome:=by
 have h2:=h.2 x l hx hl
 grind[Maps.atKey_of_not_has]
section
variable{W:bV}{fr:Fr}{L:List b_}{Q:Exit->Act->World->Prop}{ops:Array Oper}{rest:List Oper}{n d:Nat}{dst:Option Tmp}{ty:TypeId}{pos:String}{after:Array Edge}{guard:Option (Nat×Bool)}{i g c:Nat}{t e:TypeId}{m:κ->Option Value}{x:κ}{z:Value}{xm xk xv:Operand}
theorem ad6(ht:P.underlying t=ah (.map k e))(hz:∀w,(zeroValue e).run P w= .ok z w)(hi:L[i]?=ah (fq K g m c))(hm:ev fr xm=ah (.map (ah g)))(hk:ev fr xk=ah (K.kv x))(hx:K.ok x):RR P n W ⟨dst,.lookup t xm xk aE,ty,pos,after,guard⟩ fr L ((m x).getD z):= .mk λa w hr hw=>by
 obtain⟨D,ho,h⟩:=hw.get hi;obtain⟨l,hl⟩:=K.key x hx;obtain⟨v,ps,hrun,hv⟩:=ho.lookup K.keyed ht (hz w) (zd:= .held z) (zp:=[]) rfl hl;have h2:=(Ke K h hx hl z).1;simp only[Et,dM,ju]at hv;rw[h2]at hv;have jm:v=(m x).getD z:=by simp_all
 subst jm;simp[execOp,hr.ev hm,hr.ev hk,hrun,mR]
theorem pu(ht:P.underlying t=ah (.map k e))(hz:∀w,(zeroValue e).run P w= .ok z w)(hi:L[i]?=ah (fq K g m c))(hm:ev fr xm=ah (.map (ah g)))(hk:ev fr xk=ah (K.kv x))(hx:K.ok x):RR P n W ⟨dst,.lookup t xm xk aB,ty,pos,after,guard⟩ fr L (.tuple #[(m x).getD z,.bool (m x).isSome]):= .mk λa w hr hw=>by
 obtain⟨D,ho,h⟩:=hw.get hi;obtain⟨l,hl⟩:=K.key x hx;obtain⟨v,ps,hrun,hv⟩:=ho.look_ok K.keyed ht (hz w) (zd:= .held z) (zp:=[]) rfl hl;have h2:=Ke K h hx hl z;simp only[Et,dM,ju]at hv;rw[h2.1]at hv;rw[h2.2]at hrun;have jm:v=(m x).getD z:=by simp_all
 subst jm;simp[execOp,hr.ev hm,hr.ev hk,hrun,mR]
theorem wO(ht:P.underlying t=ah (.map k e))(hi:L[i]?=ah (fq K g m c))(hm:ev fr xm=ah (.map (ah g))):RR P n W ⟨dst,.call {callee:= .builtin .len,args:=#[xm],argTypes:=#[t]},ty,pos,after,guard⟩ fr L (ap av c):= .mk λa w hr hw=>by
 obtain⟨D,ho,h⟩:=hw.get hi;have hrun:=ho.len ht ty;rw[h.1]at hrun;simp[qZ,PI,hr.ev hm,hrun]
theorem yv(hn:dx d n=aB)(h:∀g,TL P n W ops Q rest ((d,.map (ah g))::fr) (L++[fq K g (λ_=>aj) 0])):
 TL P n W ops Q (⟨ah d,.makeMap t aj,ty,pos,after,aj⟩::rest) fr L:=kQ I λa w hr hm KK hK=>by
 have e1:(execOp a.eval ⟨ah d,.makeMap t aj,ty,pos,after,aj⟩).run P w= .ok (.value (.map (ah w.heap.size))) (w.alloc (.map #[] 0)):=by
  rfl
 unfold gU;rw[e1];exact hK _ _ ((h w.heap.size).go _ _ (hr.put hn _) (hm.append (ot w _) (rI.one ⟨.map [],YX w P k Et,Ih K⟩ λq hq=>by simp_all[fq])))
theorem TZ[DecidableEq κ]{w:World}(ht:P.underlying t=ah (.map k e))(h:(fq K g m c).holds w)(hx:K.ok x)(hc:c<=1152921504606846976)(v:Value):
 ∃w',(A2 t (.map (ah g)) (K.kv x) v).run P w= .ok () w'/\(fq K g (λy=>if y=x then ah v else m y) (if(m x).isSome then c else c+1)).holds w'/\w.grownBy w' (ah g):=by
 obtain⟨D,ho,h⟩:=h;obtain⟨l,hl⟩:=K.key x hx;obtain⟨w',hrun,Hs,hg⟩:=ho.update K.keyed ht (by grind[maxLen]) (val:=v) (d:= .held v) (ps:=[]) hl rfl;have hp:=V5 K ho h hx hl v;exact⟨w',hrun,⟨_,by have:=V4 Hs;rwa [hp.1]at this,hp⟩,hg⟩
theorem mD[DecidableEq κ]{v:Value}(ht:P.underlying t=ah (.map k e))(hi:L[i]?=ah (fq K g m c))(hm:ev fr xm=ah (.map (ah g)))(hk:ev fr xk=ah (K.kv x))(hv:ev fr xv=ah v)(hx:K.ok x)(hc:c<=1152921504606846976)
 (h:TL P n W ops Q rest fr (L.set i (fq K g (λy=>if y=x then ah v else m y) (if(m x).isSome then c else c+1)))):
 TL P n W ops Q (⟨aj,.mapUpdate t xm xk xv,ty,pos,after,aj⟩::rest) fr L:=kQ I λa w hr hw KK hK=>by
 obtain⟨w',hrun,Hs,hg⟩:=TZ K ht (hw.get hi) hx hc v;have e1:(execOp a.eval ⟨aj,.mapUpdate t xm xk xv,ty,pos,after,aj⟩).run P w= .ok .skip w':=by
  simp[execOp,hr.ev hm,hr.ev hk,hr.ev hv,hrun,mR]
 unfold gU;rw[e1];exact hK _ _ (h.go _ _ (hr.rH undef) (hw.CW hi hg Hs λq hq=> .inl hq))
end
def oP(g:Nat)(z:Value)(f:κ->Value)(b:Nat):b_:=
 ⟨ah g,λ_=>False,λw=>∃m n,n<=b/\(fq K g m n).holds w/\∀x,K.ok x->(m x).getD z=f x,λw ⟨m,n,_,h,_⟩ q hq=>(fq K g m n).lt w h q hq,
  λw w' ⟨m,n,h1,h,h2⟩ hs hk=>⟨m,n,h1,(fq K g m n).stay w w' h hs hk,h2⟩⟩
section
variable{W:bV}{fr:Fr}{L:List b_}{Q:Exit->Act->World->Prop}{ops:Array Oper}{rest:List Oper}{n d:Nat}{dst:Option Tmp}{ty:TypeId}{pos:String}{after:Array Edge}{guard:Option (Nat×Bool)}{i g b:Nat}{t e:TypeId}{f f':κ->Value}{x:κ}{z v:Value}{xm xk xv:Operand}
theorem Ii{w:World}(ht:P.underlying t=ah (.map k e))(hz:∀w,(zeroValue e).run P w= .ok z w)(h:(oP K g z f b).holds w)(hx:K.ok x):(Instr.lookup t (.map (ah g)) (K.kv x) aE).run P w= .ok (f x) w:=by
 obtain⟨m,n,_,⟨D,ho,hi⟩,hf⟩:=h;obtain⟨l,hl⟩:=K.key x hx;obtain⟨v,ps,hrun,hv⟩:=ho.lookup K.keyed ht (hz w) (zd:= .held z) (zp:=[]) rfl hl;have h2:=(Ke K hi hx hl z).1;simp only[Et,dM,ju]at hv;rw[h2,hf x hx]at hv;have jm:v=f x:=by simpa using hv.1
 rw[<-jm];exact hrun
theorem Eu(ht:P.underlying t=ah (.map k e))(hz:∀w,(zeroValue e).run P w= .ok z w)(hh:∀w,Mem W L w->(oP K g z f b).holds w)(hm:ev fr xm=ah (.map (ah g)))(hk:ev fr xk=ah (K.kv x))(hx:K.ok x)(hv:f x=v):RR P n W ⟨dst,.lookup t xm xk aE,ty,pos,after,guard⟩ fr L v:= .mk λa w hr hw=>by
 subst hv;have hrun:=Ii K ht hz (hh w hw) hx;simp[execOp,hr.ev hm,hr.ev hk,hrun,mR]
theorem rO(ht:P.underlying t=ah (.map k e))(hz:∀w,(zeroValue e).run P w= .ok z w)(hi:L[i]?=ah (oP K g z f b))(hm:ev fr xm=ah (.map (ah g)))(hk:ev fr xk=ah (K.kv x))(hx:K.ok x)(hv:f x=v):RR P n W ⟨dst,.lookup t xm xk aE,ty,pos,after,guard⟩ fr L v:=
 Eu K ht hz (λ_ hw=>hw.get hi) hm hk hx hv
theorem T2(hn:dx d n=aB)(h:∀g,TL P n W ops Q rest ((d,.map (ah g))::fr) (L++[oP K g z (λ_=>z) 0])):
 TL P n W ops Q (⟨ah d,.makeMap t aj,ty,pos,after,aj⟩::rest) fr L:=kQ I λa w hr hm KK hK=>by
 have e1:(execOp a.eval ⟨ah d,.makeMap t aj,ty,pos,after,aj⟩).run P w= .ok (.value (.map (ah w.heap.size))) (w.alloc (.map #[] 0)):=by
  rfl
 unfold gU;rw[e1];exact hK _ _ ((h w.heap.size).go _ _ (hr.put hn _) (hm.append (ot w _) (rI.one ⟨λ_=>aj,0,aX _,⟨.map [],YX w P k Et,Ih K⟩,λ_ _=>rfl⟩ λq hq=>by simp_all[oP])))
theorem Ev[DecidableEq κ]{w:World}(ht:P.underlying t=ah (.map k e))(h:(oP K g z f b).holds w)(hx:K.ok x)(hc:b<=1152921504606846976)(hf:∀y,K.ok y->f' y=if y=x then v else f y):
 ∃w',(A2 t (.map (ah g)) (K.kv x) v).run P w= .ok () w'/\(oP K g z f' (b+1)).holds w'/\w.grownBy w' (ah g):=by
 obtain⟨m,n,h1,h2,h3⟩:=h;obtain⟨w',hrun,ho,hg⟩:=TZ K ht h2 hx J v;refine⟨w',hrun,⟨_,_,?_,ho,λy hy=>?_⟩,hg⟩
 grind
 grind
theorem Qx[DecidableEq κ](f':κ->Value)(ht:P.underlying t=ah (.map k e))(hi:L[i]?=ah (oP K g z f b))(hm:ev fr xm=ah (.map (ah g)))(hk:ev fr xk=ah (K.kv x))(hv:ev fr xv=ah v)(hx:K.ok x)(hc:b<=1152921504606846976)(hf:∀y,K.ok y->f' y=if y=x then v else f y)
 (h:TL P n W ops Q rest fr (L.set i (oP K g z f' (b+1)))):
 TL P n W ops Q (⟨aj,.mapUpdate t xm xk xv,ty,pos,after,aj⟩::rest) fr L:=kQ I λa w hr hw KK hK=>by
 obtain⟨w',hrun,Hs,hg⟩:=Ev K ht (hw.get hi) hx hc hf;have e1:(execOp a.eval ⟨aj,.mapUpdate t xm xk xv,ty,pos,after,aj⟩).run P w= .ok .skip w':=by
  simp[execOp,hr.ev hm,hr.ev hk,hr.ev hv,hrun,mR]
 unfold gU;rw[e1];exact hK _ _ (h.go _ _ (hr.rH undef) (hw.CW hi hg Hs λq hq=> .inl hq))
end
end
section
variable{P:Program}{n:Nat}{W:bV}{fr:Fr}{L:List b_}{Q:Exit->Act->World->Prop}{ops:Array Oper}{rest:List Oper}{d:Nat}{ty:TypeId}{pos:String}{after:Array Edge}
theorem sN{t e:TypeId}{x y:Operand}{bytes m:Nat}{k k':IntKind}{z:Value}[sw P t e 1 bytes][eH P e #[z]](hx:ev fr x=ah (.int k (m:Int)))(hy:ev fr y=ah (.int k' (m:Int)))(hb:bytes*m<=281474976710656)(xi:m<=9223372036854775807)(hn:dx d n=aB)
 (h:∀g,TL P n W ops Q rest ((d,ak (ah ⟨g,0,aj⟩) m m)::fr) (L++[bm e 1 (ak (ah ⟨g,0,aj⟩) m m) m (c_ m z)])):TL P n W ops Q (⟨ah d,.makeSlice t x y,ty,pos,after,aj⟩::rest) fr L:=
 uI hx hy (aX _) hb xi hn λg=>Ie (i:=L.length) 1 (PZ ..) (by rw[size_madeCells]) (aX _) xi (by
  have e1:(madeCells #[z] (m*1)).toList.take (m*1)=c_ m z:=by
   simp[af0]
  simp_all)
end
section
variable{P:Program}{n:Nat}{W:bV}{fr:Fr}{L:List b_}{Q:Exit->Act->World->Prop}{ops:Array Oper}{rest:List Oper}
theorem Mem.akn{w:World}{i:Nat}{o:b_}(o':b_)(h:Mem W L w)(hi:L[i]?=ah o)(hh:∀w,o.holds w->o'.holds w)(hb:∀k,o'.CV=ah k->o.CV=ah k)(hmo:∀k,o'.more k->o.ft k:=by intro k hk;exact False.elim hk):Mem W (L.set i o') w:=
 h.CW hi ⟨rfl,rfl,rfl,aX _,λ_ _ _=>rfl⟩ (hh w (h.get hi)) (λk hk=> .inl (hb k hk)) hmo
theorem ag6{e:Exit}{i:Nat}{o:b_}(o':b_)(hi:L[i]?=ah o)(hh:∀w,o.holds w->o'.holds w)(hb:∀k,o'.CV=ah k->o.CV=ah k)(hmo:∀k,o'.more k->o.ft k)(h:E n W e Q fr (L.set i o')):E n W e Q fr L:= .mk λa w hr hm=>h.go a w hr (hm.akn o' hi hh hb hmo)
end
theorem Ij{P:Program}{k:TypeId}{κ:Type}{K:yu P k κ}{g b b':Nat}{z:Value}{f f':κ->Value}(hb:b<=b')(hf:∀x,K.ok x->f' x=f x)(w:World)(h:(oP K g z f b).holds w):(oP K g z f' b').holds w:=by
 obtain⟨m,n,h1,h2,h3⟩:=h;exact⟨m,n,by omega,h2,λx hx=>by simp_all⟩
section
variable{P:Program}{n:Nat}{W:bV}{fr:Fr}{L:List b_}{Q:Exit->Act->World->Prop}{ops:Array Oper}{rest:List Oper}
theorem Mem.T3{w:World}{i:Nat}{o:b_}(o':b_)(h:Mem W L w)(hi:L[i]?=ah o)(hh:∀w,o.holds w->o'.holds w)(hf:∀k,o'.ft k->o.ft k):Mem W (L.set i o') w:=by
 have hlen:i<L.length:=(dK.1 hi).1;have hoi:=h.owns.all i o hi;refine⟨h.low,λj q hj=>?_,λj j' q q' rG hj tJ k hk qD=>?_⟩
 ·by_cases e:i=j
  simp_all
  rw[mS e]at hj;exact h.owns.all j q hj
 by_cases e:i=j
 ·subst e
  rw[sy hlen]at hj;rw[mS rG]at tJ;simp only[dM]at hj;subst hj;exact h.owns.apart i j' o q' rG hi tJ k (hf k hk) qD
 rw[mS e]at hj
 by_cases e':i=j'
 ·subst e'
  rw[sy hlen]at tJ;simp only[dM]at tJ;subst tJ;exact h.owns.apart j i q o rG hj hi k hk (hf k qD)
 rw[mS e']at tJ;exact h.owns.apart j j' q q' rG hj tJ k hk qD
theorem T4{c:Code}{i:Nat}{o:b_}(o':b_)(hi:L[i]?=ah o)(hh:∀w,o.holds w->o'.holds w)(hf:∀k,o'.ft k->o.ft k)(h:T P n W c Q fr (L.set i o')):T P n W c Q fr L:= .mk λa w hr hm=>h.go a w hr (hm.T3 o' hi hh hf)
theorem pe{e:Exit}{i:Nat}{o:b_}(o':b_)(hi:L[i]?=ah o)(hh:∀w,o.holds w->o'.holds w)(hf:∀k,o'.ft k->o.ft k)(h:E n W e Q fr (L.set i o')):E n W e Q fr L:= .mk λa w hr hm=>h.go a w hr (hm.T3 o' hi hh hf)
end
open dg gv
inductive kH(F:Nat->Prop)(w:World):List Value->Rx->Prop
 |mk {k:Int} {c:C4} {kids:List Rx} {base:Option Addr} {cap:Nat} (gY:List (List Value)):cL.dv k->kids.length<=cap->cap<=maxLen->gY.length=kids.length->
  (∀i (h:i<kids.length) (h':i<gY.length),kH F w gY[i] kids[i])->(0<kids.length->∃b off,base=ah ⟨b,off,aj⟩/\F b/\∀i (_:i<kids.length) (h':i<gY.length),Rd w b (off+i*6) gY[i])->
  kH F w (ap av k::(dX c++[ak base kids.length cap])) (.mk k c kids)
theorem kH.ag7{F:Nat->Prop}{w:World}{cs:List Value}{t:Rx}(h:kH F w cs t):cs.length=6:=by
 cases h;rfl
theorem kH.Kf{F:Nat->Prop}{w w':World}{cs:List Value}{t:Rx}(h:kH F w cs t)(hk:∀k,F k->w'.heap[k]?=w.heap[k]?):kH F w' cs t:=by
 induction h with
 |mk gY h2 h3 h4 h5 h6 h7 ih=>
  refine .mk gY h2 h3 h4 h5 ih λhl=>?_;obtain⟨b,off,e,hF,hr⟩:=h7 hl;exact⟨b,off,e,hF,λi hi qw=>rd_stay (hr i hi qw) (hk b hF)⟩
theorem kH.mono{F F':Nat->Prop}{w:World}{cs:List Value}{t:Rx}(h:kH F w cs t)(hk:∀k,F k->F' k):kH F' w cs t:=by
 induction h with
 |mk gY h2 h3 h4 h5 h6 h7 ih=>
  refine .mk gY h2 h3 h4 h5 ih λhl=>?_;obtain⟨b,off,e,hF,hr⟩:=h7 hl;exact⟨b,off,e,hk b hF,hr⟩
def yw:yt Rx:=⟨6,kH,λh=>h.ag7,λh hk=>h.Kf hk,λh hk=>h.mono hk⟩
def mL(k:Int)(c:C4)(v:Value):List Value:=ap av k::(dX c++[v])
def ra(k:Int)(c:C4)(v:Value):Value:=aP (mL k c v).toArray
theorem zK{F:Nat->Prop}{w:World}{cs:List Value}{k:Int}{c:C4}{kids:List Rx}:kH F w cs (.mk k c kids)↔∃v,cs=mL k c v/\cL.dv k/\jO yw F w v kids:=by
 constructor
 ·intro h
  cases h with
  |mk gY h2 h3 h4 h5 h6 h7=>
   refine⟨_,rfl,h2,_,_,rfl,h3,h4,λhl=>?_⟩;obtain⟨b,off,e,hF,hr⟩:=h7 hl;exact⟨b,off,e,hF,λi hi=>⟨gY[i]' J,h6 i hi J,hr i hi J⟩⟩
 rintro⟨v,rfl,h2,base,cap,rfl,h3,h4,h5⟩
 by_cases hl:0<kids.length
 ·obtain⟨b,off,e,hF,hr⟩:=h5 hl
  have hlen:(Ec λi:Fin kids.length=>AX (hr i i.2)).length=kids.length:=by simp
  refine .mk (Ec λi:Fin kids.length=>AX (hr i i.2)) h2 h3 h4 hlen (λi hi qw=>?_) λ_=>⟨b,off,e,hF,λi hi qw=>?_⟩;rw[Eb];exact(x9 (hr i hi)).1;rw[Eb];exact(x9 (hr i hi)).2
 have:kids=[]:=mT J;subst this;exact .mk [] h2 h3 h4 I (λi hi=>absurd hi (by simp)) λh=>absurd h (by simp)
def oQ(F:Nat->Prop)(w:World)(v:Value)(r:Rx):Prop:=∃vk,v=ra r.kind r.uF vk/\cL.dv r.kind/\jO yw F w vk r.kids
theorem oQ.stay{F:Nat->Prop}{w w':World}{v:Value}{r:Rx}(h:oQ F w v r)(hk:∀k,F k->w'.heap[k]?=w.heap[k]?):oQ F w' v r:=
 let ⟨vk,h1,h2,h3⟩:=h;⟨vk,h1,h2,h3.stay hk⟩
theorem oQ.mono{F F':Nat->Prop}{w:World}{v:Value}{r:Rx}(h:oQ F w v r)(hk:∀k,F k->F' k):oQ F' w v r:=
 let ⟨vk,h1,h2,h3⟩:=h;⟨vk,h1,h2,h3.mono hk⟩
def rP(w:World):Nat->Prop:=λk=>k<w.heap.size
theorem oQ.gr{w w':World}{v:Value}{r:Rx}(h:oQ (rP w) w v r)(hg:Gr w w'):oQ (rP w') w' v r:=
 (h.stay λk hk=>hg.block k hk).mono λ_ hk=>jt hk hg.size
theorem oQ.is{F:Nat->Prop}{w:World}{v:Value}{r:Rx}(h:oQ F w v r):∃cs,v=aP cs.toArray/\kH F w cs r:=by
 obtain⟨k,c,kids⟩:=r;obtain⟨vk,rfl,h1,h2⟩:=h;exact⟨_,rfl,zK.2 ⟨vk,rfl,h1,h2⟩⟩
theorem kH.r{F:Nat->Prop}{w:World}{cs:List Value}{r:Rx}(h:kH F w cs r):oQ F w (aP cs.toArray) r:=by
 obtain⟨k,c,kids⟩:=r;obtain⟨vk,rfl,h1,h2⟩:=zK.1 h;exact⟨vk,rfl,h1,h2⟩
theorem qG{F:Nat->Prop}{w:World}{b off:Nat}{l:List Rx}(h:∀i (h:i<l.length),∃cs,yw.is F w cs l[i]/\Rd w b (off+i*yw.c) cs){k:Nat}(hk:k<l.length):
 ∃base cap,Rd w b (off+k*6) (mL l[k].kind l[k].uF (.slice base l[k].kids.length cap))/\oQ F w (ra l[k].kind l[k].uF (.slice base l[k].kids.length cap)) l[k]:=by
 obtain⟨cs,h1,hr⟩:=h k hk;have h1:kH F w cs l[k]:=h1;generalize l[k]=r at*;obtain⟨kd,c,kids⟩:=r;obtain⟨vk,rfl,a1,a2⟩:=zK.1 h1;have a2':=a2;obtain⟨base,cap,rfl,_⟩:=a2';exact⟨base,cap,hr,_,rfl,a1,a2⟩
def Ew(r:Re)(k:Nat):List (Re×Nat):=match r with
 | .J_ a b=>[(a,k+1),(b,k+1+a.size)]
 | .J' a b=>[(a,k+1),(b,k+1+a.size)]
 | .star a=>[(a,k+1)]
 |_=>[]
inductive Cb(F:Nat->Prop)(w:World):List Value->Re×Nat->Prop
 |mk {r:Re} {k:Nat} {vk:Value} {base:Option Addr} {cap:Nat} (gY:List (List Value)):vk.oneCell'=aB->(Ew r k).length<=cap->cap<=maxLen->gY.length=(Ew r k).length->
  (∀i (h:i<(Ew r k).length) (h':i<gY.length),Cb F w gY[i] (Ew r k)[i])->(0<(Ew r k).length->∃b off,base=ah ⟨b,off,aj⟩/\F b/\∀i (_:i<(Ew r k).length) (h':i<gY.length),Rd w b (off+i*8) gY[i])->
  Cb F w (ap av r.kind::(dX r.uF++[vk,ap av (k:Int),ak base (Ew r k).length cap])) (r,k)
theorem Cb.Kf{F:Nat->Prop}{w w':World}{cs:List Value}{t:Re×Nat}(h:Cb F w cs t)(hk:∀k,F k->w'.heap[k]?=w.heap[k]?):Cb F w' cs t:=by
 induction h with
 |mk gY h2 h3 h4 h5 h6 h7 ih=>
  refine .mk gY h2 h3 h4 h5 ih λhl=>?_;obtain⟨b,off,e,hF,hr⟩:=h7 hl;exact⟨b,off,e,hF,λi hi qw=>rd_stay (hr i hi qw) (hk b hF)⟩
theorem Cb.mono{F F':Nat->Prop}{w:World}{cs:List Value}{t:Re×Nat}(h:Cb F w cs t)(hk:∀k,F k->F' k):Cb F' w cs t:=by
 induction h with
 |mk gY h2 h3 h4 h5 h6 h7 ih=>
  refine .mk gY h2 h3 h4 h5 ih λhl=>?_;obtain⟨b,off,e,hF,hr⟩:=h7 hl;exact⟨b,off,e,hk b hF,hr⟩
section
variable{P:Program}{n:Nat}{W:bV}{fr:Fr}{L:List b_}{Q:Exit->Act->World->Prop}{ops:Array Oper}{rest:List Oper}
theorem Mem.ad7{w:World}{i:Nat}{o:b_}(o':b_)(h:Mem W L w)(hi:L[i]?=ah o)(hh:o'.holds w)(hf:∀k,o'.ft k->o.ft k):Mem W (L.set i o') w:=by
 have hlen:i<L.length:=(dK.1 hi).1;have hoi:=h.owns.all i o hi;refine⟨h.low,λj q hj=>?_,λj j' q q' rG hj tJ k hk qD=>?_⟩
 ·by_cases e:i=j
  simp_all
  rw[mS e]at hj;exact h.owns.all j q hj
 by_cases e:i=j
 ·subst e
  rw[sy hlen]at hj;rw[mS rG]at tJ;simp only[dM]at hj;subst hj;exact h.owns.apart i j' o q' rG hi tJ k (hf k hk) qD
 rw[mS e]at hj
 by_cases e':i=j'
 ·subst e'
  rw[sy hlen]at tJ;simp only[dM]at tJ;subst tJ;exact h.owns.apart j i q o rG hj hi k hk (hf k qD)
 rw[mS e']at tJ;exact h.owns.apart j j' q q' rG hj tJ k hk qD
end
end cB
namespace lB
open Go.RowKit cL dV dg cB
set_option maxRecDepth 100000 in
theorem ag8(x y:C4)(w:World):(pz 10000 94 (aP #[v64 x.a,v64 x.b,v64 x.c,v64 x.d]) (aP #[v64 y.a,v64 y.b,v64 y.c,v64 y.d])).run aC w= .ok (decide (x=y)) w:=by
 have e:(pz 10000 94 (aP #[v64 x.a,v64 x.b,v64 x.c,v64 x.d]) (aP #[v64 y.a,v64 y.b,v64 y.c,v64 y.d])).run aC w= .ok ((g_ x.a==g_ y.a)&&((g_ x.b==g_ y.b)&&((g_ x.c==g_ y.c)&&(g_ x.d==g_ y.d)))) w:=by
  unfold v64;rw[run_equalIn_array (P:=aC) w 9999 (n:=4) (e:=92) _ _ I I];have h1:aC.cellsOf 92=1:=rfl;simp[Op.eqItems,go_sem,List.range_succ_eq_map,h1]
  grind
 rw[e]
 congr 1
 grind[agX,C4.ext']
end lB
namespace cB
open Go.RowKit cL dV
section
variable{P:Program}{n:Nat}{W:bV}{fr:Fr}{L:List b_}{Q:Exit->Act->World->Prop}{ops:Array Oper}{rest:List Oper}{d:Nat}{dst:Option Tmp}{ty:TypeId}{pos:String}{after:Array Edge}{guard:Option (Nat×Bool)}
theorem ag9{t e:TypeId}{x z z':Operand}{agg:Bool}{c j len cap b off:Nat}{k k':IntKind}(ht:P.underlying t=ah (.slice e))(he:Ty P e agg c)(hx:ev fr x=ah (ak (ah ⟨b,off,aj⟩) len cap))(hz:ev fr z=ah (.int k (j:Int)))(hz':ev fr z'=ah (.int k' (j:Int)))(h2:j<=cap):
 RR P n W ⟨dst,.slice t x aj (ah z) (ah z'),ty,pos,after,guard⟩ fr L (ak (ah ⟨b,off,aj⟩) j j):= .mk λa w hr _=>by
 have hb:∀(k:IntKind) (p q:Nat) (cd:BoundsCode),p<=q->(JV (.int k (p:Int)) q cd).run P w= .ok p w:=λk p q cd h=>by
  simp_all[JV,asIntOf]
 have e1:((⟨b,off,aj⟩:Addr).add 0)=⟨b,off,aj⟩:=by rfl
 simp[execOp,hr.ev hx,hr.ev hz,hr.ev hz',D0,D4,run_underlying ht,DZ,he.size,hb k' j cap _ h2,hb k j j _ (aX _),e1]
theorem Qy{t e:TypeId}{s x:Operand}{q g b off size bytes m:Nat}{olds:List Value}{cs:Array Value}{T:TypeId}[xD:sw P t e size bytes](hs:ev fr s=ah (ak (ah ⟨b,off,aj⟩) m m))(hold:∀j v,olds[j]?=ah v->At W L ⟨b,off+j,aj⟩ v)(hol:olds.length=m*size)(hq:L[q]?=ah (aK g cs T))(hx:ev fr x=ah (ak (ah ⟨g,0,aj⟩) 1 1))
 (hl:cs.size=size) (xi:m+1<=140737488355328) (hb:(m+1)*bytes<=140737488355328) (hn:dx d n=aB)
 (h:∀v',TL P n W ops Q rest ((d,v')::fr) (L++[bm e size v' (m+1) (olds++cs.toList)])):
 TL P n W ops Q (⟨ah d,.call {callee:= .builtin .append,args:=#[s,x],argTypes:=#[t,t]},ty,pos,after,aj⟩::rest) fr L:=kQ I λact w hr hm K hK=>by
 obtain⟨inf,z,ht,Hq,hz,tL,hby,hzs,hsz⟩:=xD.el.ex;subst tL hby;have hrun:=run_append_grow (P:=P) w t ty e inf z ht Hq hz ⟨b,off,aj⟩ m m olds hol (λj v hj=>by rw[ii];exact hold j v hj w hm) ⟨g,0,aj⟩ 1 1 cs.toList (by simp_all) (λj v hj=>by rw[ii,cU];exact aD hq (by simp_all) w hm) J J (growslice_fits J hb);have e':(execOp act.eval ⟨ah d,.call {callee:= .builtin .append,args:=#[s,x],argTypes:=#[t,t]},ty,pos,after,aj⟩).run P w= .ok (.value (ak (ah ⟨w.heap.size,0,aj⟩) (m+1) (grownCap w (m+1) m e))) (w.drew.alloc (.cells (olds.toArray++cs.toList.toArray++Builtin.zeroCells z.cells (grownCap w (m+1) m e-(m+1))) e)):=by
  simp only[qZ,DX,P4,fm,mU,hr.ev hs,hr.ev hx,oJ,hrun,q6,pA]
 unfold gU;rw[e'];have hge:=grownCap_ge w (m+1) m e;have hcm:grownCap w (m+1) m e<=maxLen:=grownCap_le_maxLen w (m+1) m e (by grind[maxLen]);have hlen:(olds++cs.toList).length=(m+1)*inf.size:=by grind
 refine hK _ _ ((h _).go _ _ (hr.put hn _) (hm.append ((Below.refl _ _).drew.alloc (aX _) _) (rI.one ?_ ?_)))
 ·refine(⟨hlen,.inr ⟨w.heap.size,_,_,rfl,bC _,heap_alloc_new w.drew _,hge,hcm,?_,?_⟩⟩:World.ownsRow _ 0 e inf.size _ (m+1) (olds++cs.toList))
  ·simp only[Array.size_append,eT,size_zeroCells,hzs,hol,hl]
   have:grownCap w (m+1) m e=m+1+(grownCap w (m+1) m e-(m+1)):=by omega
   grind
  grind
 ·intro k hk
  have hk:JX (sV w.heap.size (m+1) (grownCap w (m+1) m e))=ah k:=hk;simp only[JX,dM]at hk;omega
def gA(G:Option Nat):Option Addr:=G.map λg=>⟨g,0,aj⟩
theorem MH{w:World}{e:TypeId}{size m:Nat}{v:Value}{xs:List Value}(h:(bm e size v m xs).holds w):∃G cap,v=ak (gA G) m cap/\m<=cap/\cap<=maxLen/\(G=aj->cap=0):=by
 have h:w.ownsRow 0 e size v m xs:=h;rcases h.2 with⟨hv,h0⟩|⟨g,cap,oM,hv,_,_,h1,h2,_⟩
 exact⟨aj,0,by rw[hv,h0];rfl,by omega,by decide,λ_=>rfl⟩;exact⟨ah g,cap,hv,h1,h2,λh=>by cases h⟩
theorem Qz{c:Code}{i size m:Nat}{e:TypeId}{v:Value}{xs:List Value}(hi:L[i]?=ah (bm e size v m xs))(h:∀G cap,v=ak (gA G) m cap->m<=cap->cap<=9223372036854775807->(G=aj->cap=0)->T P n W c Q fr L):T P n W c Q fr L:= .mk λa w hr hm=>by
 obtain⟨G,cap,h1,h2,h3,h4⟩:=MH (hm.get hi);exact(h G cap h1 h2 h3 h4).go a w hr hm
theorem yx{c:Code}{i size m:Nat}{e:TypeId}{v:Value}{xs:List Value}(hi:L[i]?=ah (bm e size v m xs))(h0:0<m)(h:∀g cap,v=ak (ah ⟨g,0,aj⟩) m cap->m<=cap->cap<=9223372036854775807->T P n W c Q fr L):T P n W c Q fr L:=by
 refine Qz hi λG cap hv h1 h2 h3=>?_
 cases G with
 |none=>simp_all
 |some g=>exact h g cap hv h1 h2
end
open dg gv
theorem MI(k:Int)(w:World):Calls aC 156 #[ap av k] w (cJ (ret (ap av (Em k))) w):=by
 unfold Em;refine enter (args:=[ap av k]) (n:=13) Tryz.func156 I I I ?_
 by_cases k1:k=1
 ·rw[if_pos k1]
  try refine GA ?_
  exact dQ
 rw[if_neg k1]
 by_cases k2:k=2
 ·rw[if_pos k2]
  try refine GA ?_
  exact dQ
 rw[if_neg k2]
 by_cases k3:k=3
 ·rw[if_pos k3]
  try refine GA ?_
  exact dQ
 rw[if_neg k3]
 by_cases k6:k=6
 ·rw[if_pos k6]
  try refine GA ?_
  exact dQ
 rw[if_neg k6]
 by_cases k4:k=4
 ·rw[if_pos k4]
  try refine GA ?_
  exact dQ
 rw[if_neg k4]
 by_cases k5:k=5
 ·rw[if_pos k5]
  try refine GA ?_
  exact dQ
 rw[if_neg k5]
 try refine GA ?_
 exact dQ
theorem ag_{r:Rx}{deep n:Nat}(h:(lZ r deep n).1=0):(lZ r deep n).2<=100:=by
 obtain⟨e,_,h1,h2⟩:=Ka _ r deep n (lZ r deep n).2 (aX _) (pE h rfl);have:=h1.sz;omega
theorem ZU(w:World):(da 94 (#[]:Array (Nat×Value))).run aC w= .ok (pc C4.zero) w:=by kernel_rfl
theorem aiO(x y:C4)(w:World):(pz 10000 94 (pc x) (pc y)).run aC w= .ok (decide (x=y)) w:=lB.ag8 x y w
theorem T5{W0:World}{W:bV}{L:List b_}{b off:Nat}{cs:List Value}(ho:ly W0 W)(h:Rd W0 b off cs)(j:Nat)(v:Value)(hj:cs[j]?=ah v):At W L ⟨b,off+j,aj⟩ v:=eY ho (h j v hj)
theorem ad8{k:Int}{c:C4}{vk:Value}{j:Nat}{v:Value}(h:(dX c)[j]?=ah v):(mL k c vk).toArray[0+1+j]?=ah v:=by
 have hj:j<(dX c).length:=(dK.1 h).1;rw[List.getElem?_toArray,show 0+1+j=j+1 by omega];show(dX c++[vk])[j]?=_
 rw[lP hj];exact h
set_option maxRecDepth 100000 in
theorem Cc(w0:World)(gn:Nat):∀(N:Nat) (r:Rx),tM r<=N->∀(v:Value) (deep n:Nat) (w:World) (B:bV),oQ (rP w0) w0 v r->n<=100->deep<=31->ly w0 B->Mem B [aK gn #[ap av (n:Int)] 3] w->
 Calls aC 128 #[v,ap av (deep:Int),aH (ah ⟨gn,0,aj⟩)] w (dz ⟨λ(_:Unit)=>True,λ_=>ap av (lZ r deep n).1,λ_=>[aK gn #[ap av ((lZ r deep n).2:Int)] 3]⟩ B)
 |0,r,h,_,_,_,_,_,_,_,_,_,_=>by have:=H_ r;omega
 | N + 1,.mk k c kids,hN,v,deep,n,w,B,hv,hn,hd,ho,hm=>by
  have IH:=Cc w0 gn N;obtain⟨vk,rfl,ZV,Ik⟩:=hv;dsimp only[Rx.kind,Rx.uF,Rx.kids]at ZV Ik⊢;obtain⟨bk,ck,rfl,fS,Il,MJ⟩:=Ik;unfold maxLen at Il;rw[lZ];rw[tM]at hN;have hkc:=λw=>MI k w;have J3:=aiO c C4.zero;have hcz:=ZU;refine dT hm (args:=[ra k c (ak bk kids.length ck),ap av (deep:Int),aH (ah ⟨gn,0,aj⟩)]) (n:=55) Tryz.func128 I I I ?_;clear hm;refine bZ (bx (bH I I I λg3=>?_));refine zL ?_
  repeat(first|refine GC ?_|refine gV (aw aI.ty I (aD (i:=0) I I)) ?_|refine gV (dN (r:=((n+1:Nat):Int)) I I J J J) ?_|refine GB ?_)
  refine bD (i:=0) I I I I I I ?_;rw[show(#[ap av (n:Int)]:Array Value).setIfInBounds 0 (ap av ((n+1:Nat):Int))=#[ap av ((n+1:Nat):Int)]from I];refine zL ?_
  by_cases c1:100<n+1
  ·rw[if_pos c1]
   repeat(first|refine GA ?_|refine gV (aw aI.ty I (aD (i:=0) I I)) ?_)
   exact cV I I λw hm=>hm.cg (S:=⟨λ(_:Unit)=>True,λ_=>ap av 2,λ_=>[aK gn #[ap av ((n+1:Nat):Int)] 3]⟩) () trivial [0] alt I
  rw[if_neg c1]
  by_cases c2:30<deep
  ·rw[if_pos c2]
   repeat(first|refine GA ?_|refine gV (aw aI.ty I (aD (i:=0) I I)) ?_)
   exact cV I I λw hm=>hm.cg (S:=⟨λ(_:Unit)=>True,λ_=>ap av 7,λ_=>[aK gn #[ap av ((n+1:Nat):Int)] 3]⟩) () trivial [0] alt I
  rw[if_neg c2]
  repeat(first|refine GA ?_|refine gV (aw aI.ty I (aD (i:=0) I I)) ?_)
  by_cases c3:Em k≠(kids.length:Int)
  ·rw[if_pos c3]
   (repeat refine bZ ?_)
   refine dG ([aK g3 (mL k c (ak bk kids.length ck)).toArray 97]) (.calm 0 (.calm 1 (.calm 2 (.calm 3 (.calm 4 (.calm 5 (.calm 6 (.calm 7 (.done))))))))) (bY [1]) ?_
   repeat(first|refine GW ?_|(refine GN ?_;first|refine QW (aw aI.ty I (aD (i:=0) I I)) ?_))
   refine o9 I (lz aF.en I I) (λw hm=>hkc _) I I I ?_
   repeat(first|(refine GN ?_;first|refine QW QP ?_|refine QW (aw aI.ty I (aD (i:=0) I I)) ?_|refine QW (dh (b:=aB) I I (decide_eq_true c3)) ?_|refine GX ?_)|refine GW ?_)
   try refine GA ?_
   exact cV I I λw hm=>hm.cg (S:=⟨λ(_:Unit)=>True,λ_=>ap av 1,λ_=>[aK gn #[ap av ((n+1:Nat):Int)] 3]⟩) () trivial [0] alt I
  rw[if_neg c3];have V6:Em k=(kids.length:Int):=by simpa using c3
  rw[V6]at hkc
  (repeat refine bZ ?_)
  refine dG ([aK g3 (mL k c (ak bk kids.length ck)).toArray 97]) (.calm 0 (.calm 1 (.calm 2 (.calm 3 (.calm 4 (.calm 5 (.calm 6 (.calm 7 (.done))))))))) (bY [1]) ?_
  repeat(first|refine GW ?_|(refine GN ?_;first|refine QW (aw aI.ty I (aD (i:=0) I I)) ?_))
  refine o9 I (lz aF.en I I) (λw hm=>hkc _) I I I ?_
  repeat(first|(refine GN ?_;first|refine QW QP ?_|refine QW (aw aI.ty I (aD (i:=0) I I)) ?_|refine QW (dh (b:=aE) I I (decide_eq_false (λh=>h I))) ?_|refine GX ?_)|refine GW ?_)
  try refine GA ?_
  generalize hD:(decide (k=3) !=decide (c≠C4.zero))=D;have hD':(!(decide (k=3)==!decide (c=C4.zero)))=D:=by
   rw[<-hD,decide_not]
   cases decide (k=3)<;>cases decide (c=C4.zero)<;>rfl
  (repeat refine bZ ?_)
  refine dG ([aK g3 (mL k c (ak bk kids.length ck)).toArray 97]) (.calm 0 (.calm 1 (.calm 2 (.calm 3 (.calm 4 (.calm 5 (.calm 6 (.calm 7 (.calm 8 (.done)))))))))) (bY [1]) ?_
  repeat(first|(refine GN ?_;first|refine QW QP ?_|refine QW (aw aI.ty I (aD (i:=0) I I)) ?_|refine QW (dc (b:=decide (k=3)) I I I) ?_|refine QW (aW (cs:=dX c) aI.ty I I (λj v hj=>aD (i:=0) I (ad8 hj))) ?_|refine QW (aZ I hcz) ?_|refine QW (uD I I (by kernel_rfl) J3 I) ?_|refine QW (VO (c:=D) bM.eq I I hD') ?_|refine GX ?_)|refine GW ?_)
  clear hD hD' J3 hcz hkc
  cases D with
  | true=>
   rw[if_pos I]
   try refine GA ?_
   exact cV I I λw hm=>hm.cg (S:=⟨λ(_:Unit)=>True,λ_=>ap av 1,λ_=>[aK gn #[ap av ((n+1:Nat):Int)] 3]⟩) () trivial [0] alt I
  | false=>
   rw[if_neg alt]
   repeat(first|refine GA ?_|refine gV (aw aI.ty I (aD (i:=1) I I)) ?_)
   refine tY [0] ?_;refine dZ (ι:=Nat×Nat) (λ(j,q)=>j<=kids.length/\q<=100/\CX kids (deep+1) (n+1)=CX (kids.drop j) (deep+1) q) (λ(j,_)=>[(1,ap av (deep:Int)),(2,aH (ah ⟨gn,0,aj⟩)),(40,ak bk kids.length ck),(41,ap av (kids.length:Int)),(42,ap av (j:Int))])
    (λ(_,q)=>[aK gn #[ap av (q:Int)] 3]) (λ(j,_)=>kids.length-j) (0,n+1) ⟨bC _,by omega,rfl⟩ ?_
   rintro⟨j,q⟩ ⟨hj,hq,hk⟩;dsimp only at hj hq hk⊢;rw[hk]
   by_cases c4:j<kids.length
   ·obtain⟨b,off,rfl,_,hr⟩:=MJ J
    obtain⟨bj,cj,gu,hkr⟩:=qG hr c4;have PA:kids.drop j=kids[j]::kids.drop (j+1):=dL c4;rw[PA,CX]at hk⊢;have hsz:=En (bX c4);have hle:=λh=>ag_ (r:=kids[j]'c4) (deep:=deep+1) (n:=q) h;have eC:=λ(L:List b_) j v hj=>T5 (L:=L) ho gu j v hj;generalize kids[j]=r at*;generalize r.kids.length=m at*
    repeat(first|refine GA ?_|refine gV (aR (j:=j) bM.eq aI.ty I I c4) ?_|refine gV (aW aI.ty I I (eC _)) ?_)
    refine aY I λg8=>?_;refine zL ?_;refine fR 1 (cs':=(mL r.kind r.uF (ak bj m cj)).toArray) ?_;refine zL ?_
    repeat(first|refine GC ?_|refine gV (aJ (i:=1) aI.ty I I I) ?_|refine gV (dN (r:=((deep+1:Nat):Int)) I I J J J) ?_|refine GB ?_)
    refine bz [0] [1] alt I I (xE aF.en I I I I) (λw hm hb=>IH r J _ (deep+1) q w _ hkr hq J (ho.on hm (by intro o ho;simp at ho⊢;simp[ho])) hb) I I I ?_;intro _ _;dsimp only;refine zL ?_
    by_cases e1:(lZ r (deep+1) q).1=0
    ·rw[if_neg (by simpa using e1)]
     rw[if_neg (by simpa using e1)]at hk;have zn:=hle e1;rw[e1];generalize (lZ r (deep+1) q).2=q' at*
     try refine GA ?_
     refine dq [1] ?_;exact bQ (j+1,q') ⟨by show j+1<=kids.length;omega,zn,rfl⟩ (by show kids.length-(j+1)<kids.length-j;omega)
    rw[if_pos e1];generalize lZ r (deep+1) q=z at*
    repeat(first|refine GC ?_|refine gV (dh (b:=aB) I I (decide_eq_true e1)) ?_|refine GB ?_)
    exact cV I I λw hm=>hm.cg (S:=⟨λ(_:Unit)=>True,λ_=>ap av z.1,λ_=>[aK gn #[ap av (z.2:Int)] 3]⟩) () trivial [1] alt I
   obtain rfl:j=kids.length:=by omega
   rw[List.drop_length,CX]at hk⊢
   try refine GA ?_
   exact cV I I λw hm=>hm.cg (S:=⟨λ(_:Unit)=>True,λ_=>ap av 0,λ_=>[aK gn #[ap av (q:Int)] 3]⟩) () trivial [0] alt I
def ZW(r:Rx):Int:=(lZ r 1 0).1
theorem uL(v:Value)(r:Rx)(w:World)(hv:oQ (rP w) w v r):Calls aC 93 #[v] w (cJ (ret (ap av (ZW r))) w):=by
 have hc:=λgn w' B ho hm=>Cc w gn _ r (aX _) v 1 0 w' B hv J J ho hm;obtain⟨vk,rfl,_,hs⟩:=hv;obtain⟨bk,ck,rfl,-⟩:=hs;generalize r.kids.length=m at*;refine enter (args:=[ra r.kind r.uF (ak bk m ck)]) (n:=6) Tryz.func93 I I I ?_;refine bZ (bx (bH I I I λg1=>?_))
 try refine GA ?_
 refine aY I λg3=>?_;refine zL ?_;refine bD (i:=1) I I I I I I ?_;refine zL ?_
 repeat(first|refine GA ?_|refine gV (aJ (i:=0) aI.ty I I I) ?_)
 refine bz [1] [0] alt I I (xE aF.en I I I I) (λw hm hb=>hc g3 w _ ((ly.self _).on hm (by intro o ho;simp at ho⊢;simp[ho])) hb) I I I ?_;intro _ _;dsimp only;unfold ZW
 try refine GA ?_
 exact dQ
end cB
section
open Go.RowKit cL dV dg
attribute [local go_sem] aiG akl af6 aiH
theorem V7{w:World}{g:Nat}{x:C4}(h:Wr w g 0 (dX x)):w.cell? ⟨g,0,aj⟩=ah (v64 x.a)/\w.cell? ⟨g,1,aj⟩=ah (v64 x.b)/\w.cell? ⟨g,2,aj⟩=ah (v64 x.c)/\w.cell? ⟨g,3,aj⟩=ah (v64 x.d):=
 ⟨(h 0 _ I).1,(h 1 _ I).1,(h 2 _ I).1,(h 3 _ I).1⟩
theorem V8{w:World}{g:Nat}{x:C4}{T:TypeId}(h:w.heap[g]?=ah (.cells #[.int .u64 (g_ x.a),.int .u64 (g_ x.b),.int .u64 (g_ x.c),.int .u64 (g_ x.d)] T (0,0))):Wr w g 0 (dX x):=λj u hj=>by
 rw[cU,cell_of_row w g j _ T (0,0) h];exact⟨by simpa[dX]using hj,frozen_of_row w g j _ T h⟩
theorem T6{w:World}{B:Nat}(hB:w.heap.size=B)(x:C4)(T:TypeId):Wr (w.alloc (.cells #[.int .u64 (g_ x.a),.int .u64 (g_ x.b),.int .u64 (g_ x.c),.int .u64 (g_ x.d)] T)) B 0 (dX x):=
 V8 (adN w _ B hB)
theorem ot(w:World)(o:Obj):Below w.heap.size w (w.alloc o):=(Below.refl _ _).alloc (aX _) _
theorem Bh{w:World}{g:Nat}{x:C4}(h:Wr w g 0 (dX x))(i:Nat)(hi:i<4):w.cell? ⟨g,i,aj⟩=ah (.int .u64 (g_ (x.get i)))/\w.frozen? ⟨g,i,aj⟩=false:=by
 have:=h i _ (ZD x i hi);rw[cU]at this;exact this
theorem V9{w:World}{g:Nat}{x:C4}(h:Wr w g 0 (dX x))(i:Nat)(hi:i<4)(v:BitVec 64):Wr (w.setCell ⟨g,i,aj⟩ (.int .u64 (g_ v))) g 0 (dX (x.set i v)):=by
 have:=h.set i (by simp[dX];omega) (v64 v);rw[cU,ZE x i hi v]at this;exact this
theorem MK(lo hi:Int)(w:World)(h1:dv lo)(h2:dv hi):
    Calls aC 69 #[ap av lo,ap av hi] w λe w'=>e= .returned (pc (fv lo hi))/\Below w.heap.size w w':=by
  obtain⟨l1,l2⟩:=h1;obtain⟨m1,m2⟩:=h2;unfold pc;have yy:Below w.heap.size w ((w.alloc (.cells #[.int .u64 0,.int .u64 0,.int .u64 0,.int .u64 0] 94)).alloc (.cells #[.int .u64 0,.int .u64 0,.int .u64 0,.int .u64 0] 94))/\Wr ((w.alloc (.cells #[.int .u64 0,.int .u64 0,.int .u64 0,.int .u64 0] 94)).alloc (.cells #[.int .u64 0,.int .u64 0,.int .u64 0,.int .u64 0] 94)) w.heap.size 0 (dX C4.zero)/\Wr ((w.alloc (.cells #[.int .u64 0,.int .u64 0,.int .u64 0,.int .u64 0] 94)).alloc (.cells #[.int .u64 0,.int .u64 0,.int .u64 0,.int .u64 0] 94)) (w.heap.size+1) 0 (dX C4.zero):=
    ⟨(((Below.refl _ _).alloc (aX _) _).alloc (by simp) _),((T6 I C4.zero _).gr (ot _ _)),(T6 (by simp) C4.zero _)⟩
  obtain⟨B,hB⟩:∃B,B=w.heap.size:=⟨_,rfl⟩;rw[<-hB]at yy
  go_enter Tryz.func69,Tryz.ntmps69
  go_upto_region 2 with(fail)
  rw[<-hB];have ako:w.heap.size<=B:=by omega
  have aly:B<=w.heap.size:=by omega
  clear hB
  go_cut [6] (λs6 w'=>w'=((w.alloc (.cells #[.int .u64 0,.int .u64 0,.int .u64 0,.int .u64 0] 94)).alloc (.cells #[.int .u64 0,.int .u64 0,.int .u64 0,.int .u64 0] 94))/\s6=ap av (max lo 0))
  case first=>
    go_wp2
    all_goals
      go_meet
      case rel=>exact⟨rfl,by congr 1<;>omega⟩
  case rest=>
    obtain⟨rfl,rfl⟩:=hcut;obtain⟨b0,zm⟩:∃b0:Nat,(b0:Int)=max lo 0:=⟨(max lo 0).toNat,by omega⟩;have hF:fv lo hi=C4.kg C4.zero b0 (min hi 255+1-b0).toNat:=by unfold fv;rw[<-zm];rfl
    have HF:=D7 hF;rw[<-zm];clear hF zm;obtain⟨Dk,hs2,hs3⟩:=yy;obtain⟨N,hN⟩:∃N,N=(min hi 255+1-b0).toNat:=⟨_,rfl⟩;have HN:=D7 hN;have hN1:0<N->(b0:Int)+N=min hi 255+1:=λh=>by omega
    have hN0:N=0->min hi 255<(b0:Int):=λh=>by omega
    have hN2:N=0\/b0+N<=256:=by omega
    clear hN;rcases(show 255<hi\/hi<=255 by omega)with hh|hh
    all_goals
      go_wp2_with fail
      go_loopg [6] N (λg c wr=>∃i:Nat,i+g=N/\c=ap av ((b0+i:Nat):Int)/\Below B w wr/\Wr wr B 0 (dX C4.zero)/\Wr wr (B+1) 0 (dX (C4.kg C4.zero b0 i)))
      case atStart=>exact⟨0,by omega,rfl,Dk,hs2,hs3⟩
      case round=>
        obtain⟨i,qw,rfl,hb,hr,hx⟩:=hrel;clear Dk hs2 hs3
        by_cases hlt:i<N
        · have hbb:((b0+i:Nat):Int)<=hi:=by have:=hN1 J;omega
          have aiP:b0+i<=255:=by omega
          have hstep:=ZF C4.zero b0 i;generalize hbn:b0+i=b at hbb aiP hstep⊢;have h4:b/64<4:=by omega
          have cx:∀w',Up wr.drew w'->w'.cell? ⟨B+1,b/64,aj⟩=ah (.int .u64 (g_ ((C4.kg C4.zero b0 i).get (b/64)))):=λw' hw=>(Bh ((hx.gr (Gr.drew _)).gr hw) (b/64) h4).1;have hand:=VT b J;have hsh:=ad3 (b %64) (A9 _ alt);have HS0:=D7 hstep;have HI:=D7 qw;clear hN1 hN0 hN2 hstep qw
          go_wp2_with fail
          refine dV 9 (c_ 9 aB) I (by kernel_rfl) (by kernel_rfl) (by intro c a d v w h;cases d<;>exact h) (Up wr.drew) (VI _) (Gr.refl _) ?_;simp only[Y9,D9,List.drop_succ_cons,List.drop_zero,c_]
          repeat(first|(refine TC (by rfl) (λw hSw=>by go_simp;(try (simp only[↓IntWalk.iteOmega];try go_simp));(try go_bits);first|done|with_reducible rfl) ?_;simp only[qY,D_,ye,A7])|(refine Zf (by rfl) ?_;simp only[qY,D_,ye,A7]))
          refine TE λw5 hw5=>?_;have hx5:=(hx.gr (Gr.drew _)).gr hw5;have hr5:=(hr.gr (Gr.drew _)).gr hw5;have Yi:Below B w w5:=Zd hb.drew (by have:=hb.size;simp;omega) hw5;obtain⟨c1,c2⟩:=Bh hx5 (b/64) h4;have hs:=V9 hx5 (b/64) h4 ((C4.kg C4.zero b0 i).get (b/64)|||iw 64 (2^(b %64)));have hf1:=hr5.far (a:=⟨B+1,b/64,aj⟩) (by simp) (.int .u64 (g_ ((C4.kg C4.zero b0 i).get (b/64)|||iw 64 (2^(b %64)))));have hbs:=Yi.setCell (p:=⟨B+1,b/64,aj⟩) (by simp) (.int .u64 (g_ ((C4.kg C4.zero b0 i).get (b/64)|||iw 64 (2^(b %64)))));rw[HS0.out]at hs;have HS:=D7 (cP hs (cP hf1 hbs));clear hs hf1 hbs hx5 hr5 Yi cx hx hr hb hw5 hand hsh
          go_wp2_with fail
          have qw:=HI.out
          go_roundg (gk-1)
          case measure=>omega
          case rel=>exact⟨i+1,by omega,by go_num,HS.out.2.2,HS.out.2.1,HS.out.1⟩
        obtain rfl:i=N:=by omega
        have alz:min hi 255<((b0+i:Nat):Int):=by
          by_cases h0:i=0
          have:=hN0 h0;omega;have:=hN1 J;omega
        have hE:C4.kg C4.zero b0 i=fv lo hi:=by rw[HF.out,<-HN.out]
        rw[hE]at hx;obtain⟨c0,c1,c2,c3⟩:=V7 hx;obtain⟨⟨r0,f0⟩,⟨r1,f1⟩,⟨r2,f2⟩,⟨r3,f3⟩⟩:_/\_/\_/\_:=⟨Bh hr 0 alt,Bh hr 1 alt,Bh hr 2 alt,Bh hr 3 alt⟩;clear hN1 hN0 hN2 hE;generalize b0+i=b at*;have alk:¬(b:Int)<=min hi 255:=by omega
        go_wp2_with fail
        refine bodyPost_ret (v:=aP #[.int .u64 (g_ (fv lo hi).a),.int .u64 (g_ (fv lo hi).b),.int .u64 (g_ (fv lo hi).c),.int .u64 (g_ (fv lo hi).d)]) (by simp[results,Tryz.results69,go_sem,r0,r1,r2,r3]) I ⟨rfl,?_⟩;exact((((hb.setCell (by simp) _).setCell (by simp) _).setCell (by simp) _).setCell (by simp) _).mono ako
end
namespace lB
open Go.RowKit cL dV dg cB
theorem ag'(lo hi:Int)(h1:dv lo)(h2:dv hi)(w:World):Calls aC 69 #[ap av lo,ap av hi] w (cJ (ret (pc (fv lo hi))) w):=(MK lo hi w h1 h2).mono λ_ _ ⟨he,hb⟩=>VK he hb
end lB
namespace cB
open Go.RowKit cL dV
theorem mapM_some{α β:Type}{f:α->Option β}:∀{l:List α},(∀x∈l,∃y,f x=ah y)->∃ys,l.mapM f=ah ys
 |[],_=>⟨[],by simp⟩
 |a::l,h=>by
  obtain⟨y,hy⟩:=h a (by simp);obtain⟨ys,hys⟩:=mapM_some (l:=l) λx hx=>h x (by grind);exact⟨y::ys,by simp[Y',hy,hys]⟩
section
variable{P:Program}
def KL(P:Program)(d:Nat)(t:TypeId)(cs:List Value):Prop:=∃ls,P.keyLits d t cs=ah ls
theorem uM{d:Nat}{t:TypeId}{q:IntKind}{n:Int}(ht:P.underlying t=ah (.int q))(h0:q.min<=n)(h1:n<=q.max):KL P (d+1) t [.int q n]:=by
 refine⟨[.int q n],?_⟩;have hw:(Lit.int q n).wf=true:=by simp[Lit.wf,h0,h1]
 simp[uq,ht,hw]
theorem ZX{d n:Nat}{t e:TypeId}{cs:List Value}(ht:P.underlying t=ah (.array n e))(hl:cs.length=P.cellsOf t)(h:∀i,i<n->KL P d e ((cs.drop (i*P.cellsOf e)).take (P.cellsOf e))):KL P (d+1) t cs:=by
 obtain⟨ys,hy⟩:=mapM_some (f:=λi=>P.keyLits d e ((cs.drop (i*P.cellsOf e)).take (P.cellsOf e))) (l:=d_ n) λi hi=>h i (q8.1 hi);refine⟨ys.flatten,?_⟩;unfold uq;simp only[ht];rw[if_pos hl,hy];rfl
theorem Bi{d:Nat}{t:TypeId}{fs:Array Field}{cs:List Value}(ht:P.underlying t=ah (.struct fs))(hl:cs.length=P.cellsOf t)(hn:fs.all (·.name != "_")=aB)(h:∀f∈fs.toList,KL P d f.type ((cs.drop f.offset).take (P.cellsOf f.type))):KL P (d+1) t cs:=by
 obtain⟨ys,hy⟩:=mapM_some (f:=λf:Field=>P.keyLits d f.type ((cs.drop f.offset).take (P.cellsOf f.type))) (l:=fs.toList) h;refine⟨ys.flatten,?_⟩;unfold uq;simp only[ht];rw[if_pos ⟨hl,hn⟩,hy];rfl
theorem Kg{t:TypeId}{cs:List Value}{m:Nat}(hw:(match P.underlying t with|some (.array _ _)|some (.struct _)=>aB|_=>aE)=aB)(hk:P.keyType t=aB)(hl:cs.length=P.cellsOf t)(hm:∃d,P.types.size+1=d+m)(h:∀d,KL P (d+m) t cs):∃l,keyOf P t (aP cs.toArray)=ah l:=by
 obtain⟨d,e⟩:=hm;obtain⟨ls,hls⟩:=h d;refine⟨.string (keyBytes ls),?_⟩;have hf:(aP cs.toArray).formed P t=true:=by
  grind[Value.formed]
 have hc:(aP cs.toArray).cells.toList=cs:=rfl;have key:(if(P.keyType t&&(aP cs.toArray).formed P t)=aB then(P.keyLits (P.types.size+1) t (aP cs.toArray).cells.toList).map (λls=>Lit.string (keyBytes ls))else aj)=ah (.string (keyBytes ls)):=by
  simp_all
 grind[keyOf]
end
theorem Dl:laidOutB aC=true:=by kernel_rfl
theorem Dm(m:Nat)(h:yg m (aC.types.size+1)=aB):∃d,aC.types.size+1=d+m:=⟨aC.types.size+1-m,by simp_all⟩
end cB
namespace cX
section
variable{κ:Type}[DecidableEq κ]
def dO:List κ->List κ->List κ
 |D,[]=>D
 |D,k::r=>dO (if k∈D then D else D++[k]) r
def more(D:List κ)(k:κ):List κ:=if k∈D then D else D++[k]
theorem kU:∀(l D:List κ) (k:κ),dO D (l++[k])=more (dO D l) k
 |[],_,_=>rfl
 |_::l,_,k=>kU l _ k
theorem Ex(D:List κ)(k:κ):∃E,more D k=D++E:=by
 unfold more;split;exact⟨[],by simp⟩;exact⟨[k],rfl⟩
theorem uN{D:List κ}{k x:κ}:x∈more D k↔x∈D\/x=k:=by
 grind[more]
theorem sO:∀(l D:List κ),∃E,dO D l=D++E
 |[],D=>⟨[],by simp[dO]⟩
 |k::l,D=>by
  obtain⟨E,h⟩:=Ex D k;obtain⟨E',h'⟩:=sO l (more D k);exact⟨E++E',by show dO (more D k) l=_;rw[h',h,eu]⟩
theorem kV{x:κ}:∀{l D:List κ},x∈dO D l↔x∈D\/x∈l
 |[],D=>by simp[dO]
 |k::l,D=>by
  show x∈dO (more D k) l↔_
  rw[kV,uN,dw,or_assoc]
theorem Ey{D:List κ}{k:κ}(h:D.Nodup):(more D k).Nodup:=by
 grind[more]
theorem sP:∀(l D:List κ),D.Nodup->(dO D l).Nodup
 |[],_,h=>h
 |_::l,_,h=>sP l _ (Ey h)
def idx(D:List κ)(k:κ):Nat:=D.idxOf k
theorem mY{D:List κ}{k:κ}(h:k∈D):idx D k<D.length:=List.idxOf_lt_length_of_mem h
theorem sQ{D:List κ}{k:κ}(h:idx D k<D.length):D[idx D k]=k:=List.getElem_idxOf h
theorem Ez{D:List κ}(hn:D.Nodup){v:Nat}(h:v<D.length):idx D D[v]=v:=by
 have h1:=mY (bX h);exact(List.getElem_inj hn).1 (sQ h1)
theorem ZY(k:κ)(E:List κ):idx (k::E) k=0:=by simp[idx]
theorem qH{D E:List κ}{k:κ}(h:k∈D):idx (D++E) k=idx D k:=by simp_all[idx,Y_]
theorem rQ{D:List κ}{k:κ}:idx (more D k) k=if k∈D then idx D k else D.length:=by
 unfold more;split;rfl
 simp_all[idx,Y_]
theorem ZZ{l D:List κ}{i:Nat}(hi:i<l.length):idx (dO D l) l[i]=if l[i]∈dO D (l.take i)then idx (dO D (l.take i)) l[i]else(dO D (l.take i)).length:=by
 have e:l=l.take (i+1)++l.drop (i+1):=(oK _ _).symm;have h1:l.take (i+1)=l.take i++[l[i]]:=List.take_succ_eq_append_getElem hi;have h2:∃E,dO D l=dO D (l.take (i+1))++E:=by
  obtain⟨E,h⟩:=sO (l.drop (i+1)) (dO D (l.take (i+1)));refine⟨E,?_⟩;rw[<-h];have hap:∀(a b D:List κ),dO D (a++b)=dO (dO D a) b:=by
   intro a
   induction a with
   |nil=>intro b D;rfl
   |cons x a ih=>intro b D;exact ih b _
  grind
 obtain⟨E,h2⟩:=h2;rw[h2,qH,h1,kU,rQ];rw[h1,kU,uN];exact .inr I
theorem ad9{D:List κ}{x y:κ}(hx:x∈D)(h:idx D x=idx D y):x=y:=by
 have h1:=mY hx;have h2:idx D y<D.length:=h▸h1;rw[<-sQ h1,<-sQ h2]
 congr 1
end
theorem lC{α:Type}{l m:List α}{k:Nat}{d:α}(h:k<l.length):(l++m).getD k d=l.getD k d:=by
 grind
theorem sR{α:Type}{l m:List α}{k:Nat}{d:α}(h:l.length<=k):(l++m).getD k d=m.getD (k-l.length) d:=by
 grind
theorem ox{l:List Nat}{m:Nat}(h:l.Nodup)(hb:∀x∈l,x<m):l.length<=m:=by
 have hs:∀(l l':List Nat),l.Nodup->(∀x∈l,x∈l')->l.length<=l'.length:=by
  intro l
  induction l with
  |nil=>simp
  |cons x l ih=>
   intro l' hn hs;rw[sA]at hn;have hx:x∈l':=hs x (by simp);have:=ih (l'.erase x) hn.2 (λy hy=>(P2 (by grind)).2 (hs y (by grind)));rw[P0 hx]at this;have:0<l'.length:=P1 hx;simp;omega
 have:=hs l (d_ m) h λx hx=>q8.2 (hb x hx)
 simp_all
theorem QB{N:Nat}{f g:Nat->Nat}{n c:Nat}(hf:∀v,v<n->∃x,x<N/\f x=v)(hg:∀x,x<N->g x<c)(hr:∀x y,x<N->y<N->g x=g y->f x=f y):
 n<=c/\(c=n->(∀x,x<N->f x<n)->∀x y,x<N->y<N->f x=f y->g x=g y):=by
 have hc:∃p:Nat->Nat,∀v,v<n->p v<N/\f (p v)=v:=by
  refine⟨λv=>if h:v<n then(hf v h).choose else 0,λv h=>?_⟩;simp only[dif_pos h];exact(hf v h).choose_spec
 obtain⟨p,hp⟩:=hc;have Qb:∀l:List Nat,l.Nodup->(∀v∈l,v<n)->(l.map λv=>g (p v)).Nodup:=by
  grind[agB]
 refine⟨?_,λhcn hfb x y hx hy hxy=>?_⟩
 ·have h1:=ox (m:=c) (Qb (d_ n) P5 λv hv=>q8.1 hv) (λz hz=>by
   grind)
  simp_all
 ·apply agx
  intro hne;have hv:f x<n:=hfb x hx;have hl:((d_ n).erase (f x)).Nodup:=P5.erase _;have hb:∀v∈(d_ n).erase (f x),v<n/\v≠f x:=λv hv=>by
   have:=(P5.mem_erase_iff).1 hv;exact⟨q8.1 this.2,this.1⟩
  have h1:=Qb _ hl λv hv=>(hb v hv).1;have adP:∀z,z<N->f z=f x->g z∉((d_ n).erase (f x)).map λv=>g (p v):=by
   intro z hz he J2;obtain⟨v,hv',e⟩:=fE.1 J2;have h2:=hp v (hb v hv').1;have:=hr _ _ h2.1 hz e;rw[h2.2,he]at this;exact(hb v hv').2 this
  have h2:(g x::g y::((d_ n).erase (f x)).map λv=>g (p v)).Nodup:=by
   simp_all
  have h3:=ox (m:=c) h2 (λz hz=>by
   simp only[dw]at hz;rcases hz with rfl|rfl|hz
   simp_all;exact hg _ hy;obtain⟨v,hv,rfl⟩:=fE.1 hz;exact hg _ (hp v (hb v hv).1).1)
  grind
end cX
namespace cB
open Go.RowKit cL dV dg
theorem Z0{P:Program}(x j b:Nat)(k k':IntKind)(hb:k.bits=b)(hj:j<=b)(w:World):(iM .shr k (x:Int) k' (j:Int)).run P w= .ok (.int k ((x/2^j:Nat):Int)) w:=by
 have e:min j b=j:=by omega
 have h0:¬((j:Int)<0):=by omega
 have e2:(x:Int).fdiv (2^j)=((x/2^j:Nat):Int):=by
  grind
 simp_all[iM,if_neg]
theorem EA(c:C4)(i:Nat)(h:i<4):(#[v64 c.a,v64 c.b,v64 c.c,v64 c.d]:Array Value)[i]?=ah (.int .u64 ((c.get i).toNat:Int)):=by
 match i,h with
 |0,_=>rfl
 |1,_=>rfl
 |2,_=>rfl
 |3,_=>rfl
theorem ad_:∀b:Nat,b<256->bits .and .u8 (b:Int) 63=((b %64:Nat):Int):=by decide+kernel
theorem V_(c:C4)(b:Nat)(hb:b<256)(w:World):Calls aC 135 #[pc c,.int .u8 (b:Int)] w (cJ (ret (.bool (c.mem b))) w):=by
 refine enter (args:=[aP #[v64 c.a,v64 c.b,v64 c.c,v64 c.d],.int .u8 (b:Int)]) (n:=14) Tryz.func135 I I I<|bZ (bx (bH I I I λg=>?_));have h1:b/64<4:=by omega
 have hc:(#[v64 c.a,v64 c.b,v64 c.c,v64 c.d]:Array Value)[0+b/64]?=ah (.int .u64 ((c.get (b/64)).toNat:Int)):=by rw[cU];exact EA c _ h1
 have hx:=(c.get (b/64)).isLt;have Dk:∀w,(iM .shr .u8 (b:Int) .u64 6).run aC w= .ok (.int .u8 ((b/64:Nat):Int)) w:=λw=>Z0 b 6 8 .u8 .u64 I alt w;have hs2:∀w,(iM .shr .u64 ((c.get (b/64)).toNat:Int) .u8 ((b %64:Nat):Int)).run aC w= .ok (.int .u64 (((c.get (b/64)).toNat/2^(b %64):Nat):Int)) w:=λw=>Z0 _ (b %64) 64 .u64 .u8 I J w;have hm:c.mem b=decide ((c.get (b/64)).toNat/2^(b %64) %2=1):=by simp[C4.mem,Nat.testBit_eq_decide_div_mod_eq]
 rw[hm];have hd:(c.get (b/64)).toNat/2^(b %64)<=(c.get (b/64)).toNat:=Nat.div_le_self _ _;have xi:=ad_ b hb;generalize (c.get (b/64)).toNat=x at*;generalize b %64=k at*;generalize b/64=i at*;generalize x/2^k=y at*;have ha:bits .and .u64 (y:Int) 1=((y %2:Nat):Int):=by
  grind[bits_and_u64_nat]
 repeat(first|refine GC ?_|refine gV (pH I I Dk) ?_|refine gV (ij bM.eq aI.ty I I h1) ?_|refine gV (aw aI.ty I (aD (i:=0) I hc)) ?_|refine gV (nC I I xi) ?_|refine gV (pH I I hs2) ?_|refine gV (nC I I ha) ?_|refine gV (dc I I I) ?_|refine GB ?_)
 exact eN I I (by congr 1;rw[decide_eq_decide];omega)
open gv lB
abbrev At2:=Int×Int
structure MOk(s:List UInt8)(N:Nat->Re)(m:At2->Option Value)(n:Nat):Prop where
 val:∀(k f:Nat) v,k<100->f<=s.length->m ((k:Int),(f:Int))=ah v->∃c,v=pc c/\aiI s (N k) f c
 cnt:∃D:List Nat,D.Nodup/\D.length=n/\(∀x∈D,x<25600)/\∀(k f:Nat),k<100->f<256->((m ((k:Int),(f:Int))).isSome=aB↔k*256+f∈D)
theorem MOk.le{s:List UInt8}{N:Nat->Re}{m:At2->Option Value}{n:Nat}(h:MOk s N m n):n<=25600:=by
 obtain⟨D,h1,h2,h3,_⟩:=h.cnt;rw[<-h2];exact cX.ox h1 h3
theorem MOk.set{s:List UInt8}{N:Nat->Re}{m:At2->Option Value}{n:Nat}(h:MOk s N m n)(hs:s.length<=200){k f:Nat}(hk:k<100)(hf:f<=s.length){c:C4}(hc:aiI s (N k) f c):
 MOk s N (λy=>if y=((k:Int),(f:Int))then ah (pc c)else m y) (if(m ((k:Int),(f:Int))).isSome then n else n+1):=by
 refine⟨λk' f' v qD AR hv=>?_,?_⟩
 ·by_cases e:((k':Int),(f':Int))=((k:Int),(f:Int))
  grind
  rw[if_neg e]at hv;exact h.val k' f' v qD AR hv
 ·obtain⟨D,h1,h2,h3,h4⟩:=h.cnt
  by_cases e:(m ((k:Int),(f:Int))).isSome=aB
  grind
  rw[if_neg e];have hn:k*256+f∉D:=λhd=>e ((h4 k f hk J).2 hd);refine⟨(k*256+f)::D,sA.2 ⟨hn,h1⟩,by simp_all,λx hx=>?_,λk' f' qD AR=>?_⟩
  grind
  grind
section
variable{P:Program}{k:TypeId}{κ:Type}(K:yu P k κ)
variable{n:Nat}{W:bV}{fr:Fr}{L:List b_}{dst:Option Tmp}{ty:TypeId}{pos:String}{after:Array Edge}{guard:Option (Nat×Bool)}{i g c:Nat}{t e:TypeId}{m:κ->Option Value}{x:κ}{z v:Value}{xm xk:Operand}
theorem jQ(ht:P.underlying t=ah (.map k e))(hz:∀w,(zeroValue e).run P w= .ok z w)(hi:L[i]?=ah (fq K g m c))(hm:ev fr xm=ah (.map (ah g)))(hk:ev fr xk=ah (K.kv x))(hx:K.ok x)(hv:m x=ah v):RR P n W ⟨dst,.lookup t xm xk aB,ty,pos,after,guard⟩ fr L (.tuple #[v,.bool aB]):=by
 have:=pu K (n:=n) (W:=W) (dst:=dst) (ty:=ty) (pos:=pos) (after:=after) (guard:=guard) ht hz hi hm hk hx;rw[hv]at this;exact this
theorem jR(ht:P.underlying t=ah (.map k e))(hz:∀w,(zeroValue e).run P w= .ok z w)(hi:L[i]?=ah (fq K g m c))(hm:ev fr xm=ah (.map (ah g)))(hk:ev fr xk=ah (K.kv x))(hx:K.ok x)(hv:m x=aj):RR P n W ⟨dst,.lookup t xm xk aB,ty,pos,after,guard⟩ fr L (.tuple #[z,.bool aE]):=by
 have:=pu K (n:=n) (W:=W) (dst:=dst) (ty:=ty) (pos:=pos) (after:=after) (guard:=guard) ht hz hi hm hk hx;rw[hv]at this;exact this
end
structure StI(s:List UInt8)(a:Re)(f:Nat)(out now:C4):Prop where
 sound:∀j,j<256->out.mem j=aB->Rch (VX a s) f j
 sub:∀j,j<256->now.mem j=aB->out.mem j=aB
 cl:∀i,i<256->out.mem i=aB->now.mem i=aE->∀j,VX a s i j->out.mem j=aB
 st:out.mem f=aB
theorem StI.le{s:List UInt8}{a:Re}{f:Nat}{out now:C4}(h:StI s a f out now)(hf:f<=s.length)(j:Nat)(hj:j<256)(hn:now.mem j=aB):j<=s.length:=
 ((ZH hf).2 (h.sound j hj (h.sub j hj hn))).2.1
theorem QC(c:C4)(w:World):(da 97 #[(0,ap av 3),(1,pc c)]).run aC w= .ok (ra 3 c (ak aj 0 0)) w:=by kernel_rfl
theorem zM(b:Int)(w:World)(hb:cL.dv b):Calls aC 28 #[ap av b] w (cJ (ret (ra 3 (fv b b) (ak aj 0 0))) w):=by
 have hr:=λw=>ag' b b hb hb w;have V':=QC (fv b b);generalize fv b b=c at*;refine enter (args:=[ap av b]) (n:=7) Tryz.func28 I I I ?_;refine bZ (bx (aY I λg2=>?_));refine zL ?_
 try refine GA ?_
 refine aT (gh aF.en I I I) (λw hm=>hr _) I I I ?_;intro _ _;refine zL ?_
 repeat(first|refine GA ?_|refine gV (aZ I V') ?_)
 refine fR 0 (cs':=(mL 3 c (ak aj 0 0)).toArray) ?_;refine zL ?_
 try refine GA ?_
 exact gT (i:=0) I I I I λw hm=>hm.ret
section
end
def b8(l:List Nat):VY:=l.map fN
theorem fg.perm{p:Nat->Prop}{w:World}{L L':List b_}(h:fg p w L)(hp:L.Perm L'):fg p w L':=by
 have hpw:L.Pairwise (λo o'=>∀k,o.ft k->¬o'.ft k):=Y0.2 λi j hi hj rG=>h.apart i j _ _ J (bL hi) (bL hj);have alA:=Y0.1 ((hp.pairwise_iff (λhxy k h1 h2=>hxy k h2 h1)).1 hpw);refine⟨λi o hi=>?_,λi j o o' rG hi hj k h1 h2=>?_⟩
 ·obtain⟨j,hj⟩:=yd (hp.symm.subset (kr hi))
  exact h.all j o hj
 grind
theorem Mem.perm{W:bV}{w:World}{L L':List b_}(h:Mem W L w)(hp:L.Perm L'):Mem W L' w:=⟨h.low,h.owns.perm hp⟩
theorem Wa{l l':Fr}(hp:l.Perm l'):(l.map (·.1)).Nodup->∀(fr:Fr) (i:Nat),look (l++fr) i=look (l'++fr) i:=by
 induction hp with
 |nil=>simp
 | cons x _ ih=>
  intro hn fr i;rw[fm,sA]at hn;obtain⟨k,v⟩:=x;show(bif fM k i then ah v else _)=(bif fM k i then ah v else _)
  simp_all
 | swap x y l=>
  intro hn fr i;obtain⟨k,v⟩:=x;obtain⟨k2,v2⟩:=y;simp only[fm,sA,dw,not_or]at hn;show(bif fM k2 i then ah v2 else bif fM k i then ah v else _)=(bif fM k i then ah v else bif fM k2 i then ah v2 else _)
  cases e:fM k2 i
  rfl
  cases e2:fM k i
  rfl;have a:=mh e;have b:=mh e2;exact absurd (a.trans b.symm) hn.1.1
 | trans h1 _ ih1 ih2=>
  grind
theorem Wb{α β:Type}(f:α->β){l l':List β}(h:l.Perm l'):∀dn:List α,dn.map f=l->∃dn':List α,dn'.Perm dn/\dn'.map f=l':=by
 induction h with
 |nil=>simp
 | cons x _ ih=>
  intro dn h
  match dn,h with
  |y::dn,h=>
   simp only[fm,fL]at h;obtain⟨d',h1,h2⟩:=ih dn h.2;exact⟨y::d',h1.cons y,by simp_all⟩
 | swap x y l=>
  intro dn h
  match dn,h with
  |a::b::dn,h=>
   simp only[fm,fL]at h;exact⟨b::a::dn,agC _ _ _,by simp_all⟩
 |trans _ _ ih1 ih2=>
  intro dn h;obtain⟨d1,h1,h2⟩:=ih1 dn h;obtain⟨d2,h3,h4⟩:=ih2 d1 h2;exact⟨d2,h3.trans h1,h4⟩
def Wc:List Nat->List (List Nat)
 |[]=>[[]]
 |a::r=>Wc r++(Wc r).map (a:: ·)
theorem Ce(p:Nat->Bool):∀l,l.filter p∈Wc l
 |[]=>by simp[Wc]
 |a::r=>by
  have ih:=Ce p r;unfold Wc;rw[List.filter_cons];split;exact List.mem_append_right _ (JZ ih);exact uw _ ih
structure Mk where
 i:Nat
 d:Nat
 v:Nat->Value
 own:Nat->b_
def pf(dn:List (Mk×Nat)):Fr:=dn.map λx=>(x.1.d,x.1.v x.2)
def owm(dn:List (Mk×Nat)):List b_:=dn.map λx=>x.1.own x.2
def nt(listed:Array Bool)(D:List Nat):Array Bool:=D.foldl (λl i=>l.setIfInBounds i aB) listed
theorem Im(D:List Nat):∀(listed:Array Bool) (j:Nat),(nt listed D)[j]?=(listed[j]?).map λb=>b||D.contains j:=by
 induction D with
 |nil=>simp[nt]
 |cons a r ih=>
  intro listed j;show(nt (listed.setIfInBounds a aB) r)[j]?=_
  grind
theorem yz{listed:Array Bool}{D D':List Nat}(h:∀j,D.contains j=D'.contains j):nt listed D=nt listed D':=by
 apply Yz;intro j;rw[Im,Im,h j]
def af'(ops:Array Oper)(is:List Nat)(ends:List (List Nat))(listed:Array Bool):Bool:=(Wc is).all λD=>ends.contains D||decide (jd .any ops (nt listed D)=is.filter λi=>!D.contains i)
theorem ML:∀(l l':List Nat),l.Nodup->(∀x∈l,x∈l')->l.length<=l'.length
 |[],_,_,_=>bC _
 |a::r,l',hn,hs=>by
  rw[sA]at hn;have ha:=hs a (by simp);have:=ML r (l'.erase a) hn.2 λx hx=>(P2 (λ(e:x=a)=>hn.1 (by simp_all))).2 (hs x (by grind));rw[P0 ha]at this;have:=P1 ha;simp;omega
theorem EB:∀(l l':List Nat),l.Nodup->(∀x∈l,x∈l')->l'.length<=l.length->l.Perm l'
 |[],l',_,_,h=>by
  simp_all
 |a::r,l',hn,hs,h=>by
  rw[sA]at hn;have ha:=hs a (by simp);have hl:=P0 ha;have h2:=P1 ha;have:=EB r (l'.erase a) hn.2 (λx hx=>(P2 (λ(e:x=a)=>hn.1 (by simp_all))).2 (hs x (by grind))) (by simp_all);exact(this.cons a).trans (List.perm_cons_erase ha).symm
theorem aga:∀(ms:List Mk),(ms.map (·.i)).Nodup->∀m∈ms,∀m'∈ms,m.i=m'.i->m=m'
 |[],_,_,hm,_,_,_=>by grind
 |y::ms,h,m,hm,m',pg,e=>by
  rw[fm,sA]at h;rcases dw.1 hm with a1|a1<;>rcases dw.1 pg with a2|a2
  grind;exact absurd (by rw[<-a1,e];exact JZ a2) h.1;exact absurd (by rw[<-a2,<-e];exact JZ a1) h.1;exact aga ms h.2 m a1 m' a2 e
theorem MM:∀(dn:List (Mk×Nat)) (ms all:List Mk),(∀m∈all,∀m'∈all,m.i=m'.i->m=m')->(∀x∈dn,x.1∈all)->(∀x∈ms,x∈all)->dn.map (·.1.i)=ms.map (·.i)->dn.map (·.1)=ms
 |[],ms,_,_,_,_,h=>by
  simp_all
 |y::dn,[],_,_,_,_,h=>by grind
 |y::dn,m::ms,all,hi,h1,h2,h=>by
  simp only[fm,fL]at h;rw[fm,MM dn ms all hi (λx hx=>h1 x (by grind)) (λx hx=>h2 x (by grind)) h.2,hi y.1 (h1 y (by simp)) m (h2 m (by simp)) h.1]
section
variable{P:Program}{n:Nat}{W:bV}{Q:Exit->Act->World->Prop}{fr:Fr}{L L0:List b_}{ops:Array Oper}
def Io(P:Program)(n:Nat)(W:bV)(ops:Array Oper)(fr:Fr)(m:Mk):Prop:=
 ∃o,ops[m.i]?=ah o/\∀(Q:Exit->Act->World->Prop) (Hk:Fr) (L:List b_),(∀q v,look fr q=ah v->look Hk q=ah v)->(∀g,TL P n W ops Q [] ((m.d,m.v g)::Hk) (L++[m.own g]))->TL P n W ops Q [o] Hk L
theorem Ip:∀(l:Fr) {q:Nat} {v:Value},(∀x∈l,look fr x.1=aj)->look fr q=ah v->look (l++fr) q=ah v
 |[],_,_,_,h=>h
 |(k,u)::l,q,v,hl,h=>by
  show(bif fM k q then ah u else look (l++fr) q)=ah v
  cases e:fM k q
  exact Ip l (λx hx=>hl x (by grind)) h;have:=mh e;subst this;have:=hl (k,u) (by simp);rw[this]at h
  cases h
theorem mK.perm{a:Act}{l l':Fr}(h:mK n a (l++fr))(hp:l.Perm l')(hn:(l.map (·.1)).Nodup):mK n a (l'++fr):=
 ⟨h.size,h.defers,λi v hl=>h.get i v (by grind[Wa])⟩
theorem Z1:∀(dn:List (Mk×Nat)),(dn.map (·.1.i)).Nodup->∃g:Nat->Nat,∀x∈dn,g x.1.i=x.2
 |[],_=>⟨λ_=>0,λx hx=>by grind⟩
 | y::dn,h=>by
  rw[fm,sA]at h;obtain⟨g,hg⟩:=Z1 dn h.2;refine⟨λi=>if i=y.1.i then y.2 else g i,λx hx=>?_⟩;rcases dw.1 hx with rfl|hx
  simp;have:¬x.1.i=y.1.i:=λe=>h.1 (by rw[<-e];exact JZ hx);simp only[if_neg this];exact hg x hx
theorem QD(ms E:List Mk)(hn:(ms.map (·.i)).Nodup)(hEn:(E.map (·.i)).Nodup)(hEd:(E.map (·.d)).Nodup)(hE:∀m∈E,m∈ms)(dn:List (Mk×Nat))(h1:∀x∈dn,x.1∈ms)(hp:(dn.map (·.1.i)).Perm (E.map (·.i)))(a:Act)(hr:mK n a (pf dn++fr)):
 ∃g:Nat->Nat,mK n a (E.map (λm=>(m.d,m.v (g m.i)))++fr)/\Mem W (L++owm dn)=Mem W (L++E.map λm=>m.own (g m.i)):=by
 obtain⟨d',p1,p2⟩:=Wb (λx:Mk×Nat=>x.1.i) hp dn I;have e1:=MM d' E ms (aga ms hn) (λx hx=>h1 x (p1.subset hx)) hE p2;obtain⟨g,hg⟩:=Z1 d' (by simp_all);have e2:d'=E.map λm=>(m,g m.i):=by
  rw[<-e1,P8]
  conv=>lhs;rw[<-List.map_id d']
  grind[List.map_congr_left]
 have hpd:((pf dn).map (·.1)).Nodup:=by
  have:((pf dn).map (·.1)).Perm (E.map (·.d)):=by
   have h5:=(p1.map λx:Mk×Nat=>x.1.d).symm;have e:d'.map (λx:Mk×Nat=>x.1.d)=E.map (·.d):=by simp_all
   rw[e]at h5;unfold pf;rw[P8];exact h5
  grind
 have uz:=hr.perm (p1.map _).symm hpd;refine⟨g,?_,?_⟩
 ·have:d'.map (λx=>(x.1.d,x.1.v x.2))=E.map (λm=>(m.d,m.v (g m.i))):=by simp_all
  grind
 ·have e:E.map (λm=>m.own (g m.i))=owm d':=by rw[e2,owm,P8];rfl
  rw[e];exact funext λw=>propext ⟨λh=>h.perm (((p1.map _).symm).append_left L),λh=>h.perm ((p1.map _).append_left L)⟩
theorem ad'(ms:List Mk)(ends:List (List Mk))(listed:Array Bool)(U:World->Prop)(S0:Nat)(hUL:∀l,∀w,Mem W (L++l) w->U w)
 (hn:(ms.map (·.i)).Nodup) (hd:(ms.map (·.d)).Nodup) (hB:af' ops (ms.map (·.i)) (ends.map λE=>E.map (·.i)) listed=aB) (hm:∀m∈ms,Io P n W ops fr m) (hf:∀m∈ms,look fr m.d=aj)
 (akp:∀E∈ms::ends,(∀m∈E,m∈ms)/\(E.map (·.i)).Nodup/\(E.map (·.d)).Nodup/\∀(k:Nat) (g:Nat->Nat) (a:Act),E.length+k=ms.length->mK n a (E.map (λm=>(m.d,m.v (g m.i)))++fr)->sG P .any ops Q U (k+S0) (nt listed (E.map (·.i))) a (Mem W (L++E.map λm=>m.own (g m.i)))):
 ∀(k:Nat) (dn:List (Mk×Nat)),(∀x∈dn,x.1∈ms)->(dn.map (·.1.i)).Nodup->dn.length+k=ms.length->∀a,mK n a (pf dn++fr)->sG P .any ops Q U (k+S0) (nt listed (dn.map (·.1.i))) a (Mem W (L++owm dn)):=by
 have stop:∀E∈ms::ends,∀(k:Nat) (dn:List (Mk×Nat)),(∀x∈dn,x.1∈ms)->(dn.map (·.1.i)).Nodup->dn.length+k=ms.length->(dn.map (·.1.i)).Perm (E.map (·.i))->∀a,mK n a (pf dn++fr)->sG P .any ops Q U (k+S0) (nt listed (dn.map (·.1.i))) a (Mem W (L++owm dn)):=by
  intro E hE k dn h1 h2 h3 hp a hr;obtain⟨q1,q2,q3,q4⟩:=akp E hE;obtain⟨g,r1,r2⟩:=QD (W:=W) (L:=L) ms E hn q2 q3 q1 dn h1 hp a hr;have hlen:=hp.length_eq;simp only[dY]at hlen;rw[r2,yz (D':=E.map (·.i)) λj=>?_]
  simp_all;exact Bool.eq_iff_iff.2 (by simpa using hp.mem_iff)
 intro k
 induction k with
 | zero=>
  intro dn h1 h2 h3 a hr;exact stop ms (by simp) 0 dn h1 h2 h3 (EB (dn.map (·.1.i)) (ms.map (·.i)) h2 (λx hx=>by
   grind) (by grind)) a hr
 | succ k ih=>
  intro dn h1 h2 h3 a hr;have qI:=λE hE hp=>stop E hE (k+1) dn h1 h2 h3 hp a hr;have kK:∀x∈dn.map (·.1.i),x∈ms.map (·.i):=λx hx=>by
   grind
  generalize hD:dn.map (·.1.i)=D at*
  have alm:D.length=dn.length:=by grind
  have uO:∀j,D.contains j=((ms.map (·.i)).filter λi=>D.contains i).contains j:=λj=>by
   simp_all
  have hq:=pB.1 hB _ (Ce (λi=>D.contains i) (ms.map (·.i)))
  rw[ko]at hq;rcases hq with hq|hq
  grind
  have aha:jd .any ops (nt listed D)=(ms.map (·.i)).filter λi=>!D.contains i:=by
   have hq:=of_decide_eq_true hq;rw[yz uO,hq];exact List.filter_congr λi _=>by simp_all
  rw[show k+1+S0=(k+S0)+1 by omega];refine⟨λh0=>?_,λi hi w hw=>?_⟩
  ·exfalso
   have:(ms.map (·.i)).length<=D.length:=ML _ _ hn λx hx=>by
    grind
   grind
  rw[aha,List.mem_filter]at hi;obtain⟨hi1,Qv⟩:=hi;obtain⟨m,hm1,rfl⟩:=fE.1 hi1;have hi3:m.i∉D:=by simp_all
  obtain⟨o,ho,Il⟩:=hm m hm1;refine jM ho ((Il _ (pf dn++fr) (L++owm dn) (λq v hq=>Ip (pf dn) (λx hx=>?_) hq) λg=>?_).go a w hr hw)
  ·obtain⟨y,hy,rfl⟩:=fE.1 hx
   grind
  refine A' ⟨λa' w' uz pg=>⟨Mem W (L++owm ((m,g)::dn)),eZ _ _,hUL _,pg.perm ?_,?_⟩⟩
  ·rw[eu]
   exact(List.perm_append_comm).append_left L
  have:=ih ((m,g)::dn) (λx hx=>by
   grind) (by simp_all) (by grind) a' uz
  rw[fm,hD]at this;have e:(nt listed D).setIfInBounds m.i aB=nt listed (m.i::D):=by
   have e0:(nt listed D).setIfInBounds m.i aB=nt listed (D++[m.i]):=by
    simp[nt]
   rw[e0];exact yz λj=>by
    grind
  simp_all
structure TX(P:Program)(n:Nat)(W:bV)(ops:Array Oper)(Q:Exit->Act->World->Prop)(L0:List b_)(listed:Array Bool)(f:Nat)(fr:Fr)(L:List b_):Prop where
 go:(∀w,Mem W L w->Mem W L0 w)->(∀c a d v w,Q (.panic c) (qY a d v) w->Q (.panic c) a w)->A4 ops=aB->∀a,mK n a fr->sG P .any ops Q (Mem W L0) f listed a (Mem W L)
theorem mem_left{L l:List b_}{w:World}(h:Mem W (L++l) w):Mem W L w:=by
 have hl:∀(i:Nat) (o:b_),L[i]?=ah o->(L++l)[i]?=ah o:=λi o h=>by
  grind
 exact⟨h.low,⟨λi o hi=>h.owns.all i o (hl i o hi),λi j o o' rG hi hj=>h.owns.apart i j o o' rG (hl i o hi) (hl j o' hj)⟩⟩
theorem Z2{id:Nat}{l:List Oper}(L0:List b_)(kK:∀w,Mem W L w->Mem W L0 w)(hm:P.follows .mixedOrders=aB)(mJ:A4 l.toArray=aB)
 (hQ:∀c a d v w,Q (.panic c) (qY a d v) w->Q (.panic c) a w)
 (h:TX P n W l.toArray Q L0 (AW l.toArray.size aE) l.toArray.size fr L):T P n W (.region id l.toArray aB) Q fr L:=⟨λa w hr uA=>by
 refine wp_region_any hm ?_;exact yl (U:=Mem W L0) l.toArray.size (AW l.toArray.size aE) a (Mem W L) w.drew uA.drew (h.go kK hQ mJ a hr)⟩
theorem Dn{listed:Array Bool}{f:Nat}(t:Ord)(ho:mj .any ops t listed=aB)(hf:f=t.size)(h:TW P n W ops Q L0 t fr L):TX P n W ops Q L0 listed f fr L:=
 ⟨λkK hQ mJ a hr=>by subst hf;exact jN mJ hQ t listed a (Mem W L) (eZ W L) kK ho (h.go a hr)⟩
theorem rb{listed:Array Bool}{f d:Nat}{o:Oper}{v:Value}(i:Nat)(hi:((jd .any ops listed).contains i&&PW .any ops listed i)=aB)(ho:ops[i]?=ah o)(hr:RR P n W o fr L0 v)(hg:o.guard=aj)(hd:o.dst=ah d)(hn:dx d n=aB)
 (h:TX P n W ops Q L0 (listed.setIfInBounds i aB) f ((d,v)::fr) L):TX P n W ops Q L0 listed (f+1) fr L:=⟨λkK hQ mJ a gO=>by
 rw[eE]at hi;have hc:jK P ops (Mem W L0) o v a:= .inl ⟨oq hg,λw hw=>by unfold pF;rw[hr.go a w gO hw];exact⟨rfl,Gr.refl _⟩⟩;exact zu ho (PR mJ) (λc a w=>hQ c a o.dst v w) f listed a (Mem W L) (eZ W L) kK (PT ho hi.2) (by simp_all) hc
  (by rw[hd];exact h.go kK hQ mJ _ (gO.put hn v))⟩
def Z3(ops:Array Oper)(ms:List Mk)(ends:List (List Nat))(listed:Array Bool)(fr:Fr):Bool:=
 decide (ms.map (·.i)).Nodup&&decide (ms.map (·.d)).Nodup&&af' ops (ms.map (·.i)) ends listed&&ms.all λm=>(look fr m.d).isNone
theorem MN{listed:Array Bool}{f:Nat}(ms:List Mk)(p:Mk->Bool)(S0:Nat)(hf:f=ms.length+S0)(hB:Z3 ops ms [ms.map (·.i),(ms.filter p).map (·.i)] listed fr=aB)(hm:∀m∈ms,Io P n W ops fr m)
 (h:∀g:Nat->Nat,TX P n W ops Q L0 (nt listed (ms.map (·.i))) S0 (ms.map (λm=>(m.d,m.v (g m.i)))++fr) (L++ms.map λm=>m.own (g m.i)))
 (h':∀g:Nat->Nat,TX P n W ops Q L0 (nt listed ((ms.filter p).map (·.i))) (ms.length-(ms.filter p).length+S0) ((ms.filter p).map (λm=>(m.d,m.v (g m.i)))++fr) (L++(ms.filter p).map λm=>m.own (g m.i))):TX P n W ops Q L0 listed f fr L:=⟨λkK hQ mJ a hr=>by
 subst hf;simp only[Z3,eE,decide_eq_true_eq]at hB;obtain⟨⟨⟨b1,b2⟩,b3⟩,b4⟩:=hB;have:=ad' (Q:=Q) (L:=L) ms [ms,ms.filter p] listed (Mem W L0) S0 (λl w hw=>kK w (mem_left hw)) b1 b2 b3 hm (λm hm=>by simp_all)
  (λE hE=>by
   have hE:E=ms\/E=ms.filter p:=by
    simp_all
   rcases hE with rfl|rfl
   ·exact⟨λ_ h=>h,b1,b2,λk g a hk hr=>by
     obtain rfl:k=0:=by omega
     rw[Nat.zero_add];exact(h g).go (λw hw=>kK w (mem_left hw)) hQ mJ a hr⟩
   exact⟨λ_ h=>(List.mem_filter.1 h).1,b1.sublist (List.filter_sublist.map _),b2.sublist (List.filter_sublist.map _),λk g a hk hr=>by
    obtain rfl:k=ms.length-(ms.filter p).length:=by omega
    exact(h' g).go (λw hw=>kK w (mem_left hw)) hQ mJ a hr⟩) ms.length [] (λx hx=>by grind) (by simp) (by simp) a hr
 simp_all[nt,owm]⟩
theorem zN{fr Hk:Fr}(h:∀q v,look fr q=ah v->look Hk q=ah v){x:Operand}{v:Value}(hx:ev fr x=ah v):ev Hk x=ah v:=by
 cases x with
 |tmp t=>exact h _ _ hx
 |_=>exact hx
theorem oy{i d:Nat}{t e ty:TypeId}{pos:String}{after:Array Edge}{x y:Operand}{c bytes m cap:Nat}{k k':IntKind}{zs:Array Value}[sw P t e c bytes][eH P e zs](ho:ops[i]?=ah ⟨ah d,.makeSlice t x y,ty,pos,after,aj⟩)(hx:ev fr x=ah (.int k (m:Int)))(hy:ev fr y=ah (.int k' (cap:Int)))(Qu:m<=cap)(hb:bytes*cap<=281474976710656)(xi:cap<=9223372036854775807)(hn:dx d n=aB):
 Io P n W ops fr ⟨i,d,λg=>ak (ah ⟨g,0,aj⟩) m cap,λg=>aK g (madeCells zs (cap*c)) e⟩:=
 ⟨_,ho,λ_ _ _ hl h=>uI (zN hl hx) (zN hl hy) Qu hb xi hn h⟩
theorem Iq{i d:Nat}{t ty:TypeId}{pos:String}{after:Array Edge}{cs:Array Value}[eH P t cs](ho:ops[i]?=ah ⟨ah d,.alloc t,ty,pos,after,aj⟩)(hn:dx d n=aB):
 Io P n W ops fr ⟨i,d,λg=>aH (ah ⟨g,0,aj⟩),λg=>aK g cs t⟩:=
 ⟨_,ho,λ_ _ _ _ h=>aY hn h⟩
end
end cB
namespace gv
open dg
def SzR(p0:Nat)(x:Rx)(st:RS):Prop:=p0<=st.p/\(st.e=0->tM x+1<=200*(st.p-p0))/\(st.e≠0->tM x<=200*(st.p-p0)+1)
section
variable{s:VY}
theorem SzR.le{p0:Nat}{x:Rx}{st:RS}(h:SzR p0 x st):tM x<=200*(st.p-p0)+1:=by
 by_cases e:st.e=0
 have:=h.2.1 e;omega;exact h.2.2 e
end
end gv
namespace aL
abbrev bJ:=Int×Int
abbrev Prod:=Int×List bJ
structure dD where
 aQ:Int
 bB:Int
 az:List Prod
def right(aQ bB:Int)(x:bJ):Bool:=if x.1=1 then decide (0<=x.2)&&decide (x.2<aQ)else if x.1=2 then decide (0<=x.2)&&decide (x.2<bB)else aE
def zO(aQ bB:Int)(p:Prod):Int:=if 8<p.2.length then 2 else if p.1<0 then 1 else if bB<=p.1 then 1 else if p.2.any (λx=>!right aQ bB x)=aB then 1 else 0
def pK(aQ bB:Int):List Prod->Int
 |[]=>0
 |p::r=>if zO aQ bB p≠0 then zO aQ bB p else pK aQ bB r
def cI(g:dD):Int:=if g.aQ<0 then 1 else if 30<g.aQ then 1 else if g.bB<1 then 1 else if 20<g.bB then 1 else if 40<g.az.length then 2 else pK g.aQ g.bB g.az
theorem Z4{t n:Int}{p:Prod}(h:zO t n p=0):p.2.length<=8/\0<=p.1/\p.1<n/\∀x∈p.2,right t n x=true:=by
 unfold zO at h;split at h;· simp at h
 split at h;· simp at h
 split at h;· simp at h
 split at h;· simp at h
 rename_i a b c d
 refine⟨by omega,by omega,by omega,λx hx=>?_⟩;simp only[pC,not_exists,not_and,PG,Bool.not_eq_false]at d
 simpa using d x hx
theorem Ir{t n:Int}:∀{l:List Prod},pK t n l=0->∀p∈l,zO t n p=0
 |[],_,_,h=>by cases h
 | q::r,h,p,hp=>by
  unfold pK at h;split at h;contradiction
  rename_i c
  rcases dw.1 hp with rfl|hp
  omega
  exact Ir h p hp
theorem cz{g:dD}(h:cI g=0):0<=g.aQ/\g.aQ<=30/\1<=g.bB/\g.bB<=20/\g.az.length<=40/\∀p∈g.az,p.2.length<=8/\0<=p.1/\p.1<g.bB/\∀x∈p.2,right g.aQ g.bB x=true:=by
 unfold cI at h;split at h;· simp at h
 split at h;· simp at h
 split at h;· simp at h
 split at h;· simp at h
 split at h;· simp at h
 exact⟨by omega,by omega,by omega,by omega,by omega,λp hp=>Z4 (Ir h p hp)⟩
end aL
namespace cB
open Go.RowKit cL dV
theorem str_inj{x y:List UInt8}(h:str x=str y):x=y:=by
 simp_all[str]
def il:yu aC 9 (List UInt8) where
 kv:=str
 ok l:=l.length<=9223372036854775807
 law:=Go.WideMaps.string_law Tryz.underlying9
 key l h:=⟨_,Go.WideMaps.keyOf_string_mk Tryz.underlying9 (by unfold maxLen;simpa[YC]using h)⟩
 inj x y h:=str_inj h
open dg
theorem aea{n:Int}(h0:0<=n)(h1:n<=18446744073709551615):v64 (iw 64 n.toNat)= .int .u64 n:=by
 simp only[v64,g_,YA]
 grind
set_option maxRecDepth 100000 in
theorem We{H:Type}{enc0:TypeId×Value->H}{W:World}:uG enc0 aC W 94 (λcs x=>cs=dX x/\True):=λfuel cs x hf=>by
 have ho:uG enc0 aC W 94 (ZK .u64 0 18446744073709551615 4):=(MA (is:=isInt .u64 0 18446744073709551615) (c:=1) Tryz.underlying94 (by rfl) (V1 Tryz.underlying92)).mono λcs l h=>by
  have e:aC.cellsOf 94=4:=by rfl
  simp_all[MB]
 obtain⟨l,h1,h2,h3⟩:=ho fuel cs _ hf
 match l,h1 with
 |[p,q,r,s],_=>
  have b0:=h3 p (by simp);have b1:=h3 q (by simp);have b2:=h3 r (by simp);have b3:=h3 s (by simp);refine⟨⟨iw 64 p.toNat,iw 64 q.toNat,iw 64 r.toNat,iw 64 s.toNat⟩,?_,trivial⟩;show cs=[v64 (iw 64 p.toNat),v64 (iw 64 q.toNat),v64 (iw 64 r.toNat),v64 (iw 64 s.toNat)]
  simp_all[aea]
open gv Go.ChangeShapes Go.WideShapes Go.ChangeAt
set_option maxRecDepth 100000
section
variable{H:Type}{enc0:TypeId×Value->H}{P:Program}{W:World}{M:Msr P H}
def EC(M:Msr P H)(enc0:TypeId×Value->H)(W:World)(fuel:Nat)(t:TypeId){α:Type}(is:List Value->α->Prop):Prop:=
 ∀cs x,A1 enc0 P W 0 (λ_=>aB) aB fuel t cs=ah x->M.ok t x.1->∃a,is cs a
theorem kS.at{fuel:Nat}{t:TypeId}{α:Type}{is:List Value->α->Prop}(h:kS M enc0 W t is):EC M enc0 W fuel t is:=λcs x=>h fuel cs x
theorem Kh{fuel:Nat}{t e:TypeId}{c:Nat}(ht:P.underlying t=ah (.slice e))(hc:P.cellsOf e=c)(Ma:0<c){α:Type}{is:List Value->α->Prop}(hd:∀n,fuel=n+1->EC M enc0 W n e is)(_:∀cs a,is cs a->cs.length=c):EC M enc0 W fuel t (λcs l=>aiM W is c cs l/\M.lim e l.length):=λcs x h hm=>by
 rcases YL ht h with⟨rfl,_⟩|⟨a,len,cap,elems,rest,n,hf,rfl,hx,_,hlc,hmx,xD,Ee,_⟩
 exact⟨[],⟨_,rfl,aj,0,rfl,aX _,by decide,λh=>by grind⟩,M.zero e⟩;rw[hx]at hm;obtain⟨Kd,q9⟩:=M.slice ht hm;have each:∀i,i<len->∃y:α,∃cs,W.cells? 0 (a.add (i*c)) c=ah cs/\is cs y:=λi hi=>by
  have h1:=Ee i hi;rw[hc,bL J]at h1
  cases hcell:W.cells? 0 (a.add (i*c)) c with
  |none=>simp_all
  | some cs=>
   rw[hcell]at h1;obtain⟨y,hy⟩:=hd n hf cs _ h1 (q9 _ (fE.2 ⟨_,bX J,rfl⟩));exact⟨y,cs,rfl,hy⟩
 obtain⟨l,Qs,hp⟩:=Df len each;subst Qs;refine⟨l,⟨_,rfl,ah a,cap,rfl,hlc,hmx,λh0=>?_⟩,by simp_all⟩;obtain⟨cs0,h1,h2⟩:=hp 0 l[0] (bL h0);have h3:=(kN h1).2 0 Ma;have hlen:=(kN h1).1;rw[bL J]at h3;have hsp:=H2 h3;have e0:a.spot=none:=by
  simp_all[A0]
 obtain⟨b,off,spot⟩:=a;obtain rfl:spot=none:=e0;refine⟨b,off,rfl,λi hi=>?_⟩;obtain⟨cs,h4,h5⟩:=hp i l[i] (bL hi);refine⟨cs,h5,λj u hj=>?_⟩;have hj2:j<c:=by
  have:=(dK.1 hj).1;rw[(kN h4).1]at this;exact this
 have h6:=(kN h4).2 j hj2;rw[hj]at h6;have e1:∀(o k:Nat),(⟨b,o,aj⟩:Addr).add k=⟨b,o+k,aj⟩:=λo k=>by unfold A0;simp
 rw[e1,e1]at h6;rw[<-h6]
theorem Is{t:TypeId}{fs:Array Field}(ht:P.underlying t=ah (.struct fs)){fuel:Nat}{cs:List Value}{x:DataW H×List MemPlace}(h:A1 enc0 P W 0 (λ_=>aB) aB fuel t cs=ah x)(hm:M.ok t x.1):
 cs.length=P.cellsOf t/\∃n,fuel=n+1/\∀(i:Nat) (f:Field),fs[i]?=ah f->∀{α:Type} {is:List Value->α->Prop},EC M enc0 W n f.type is->∃a,is ((cs.drop f.offset).take (P.cellsOf f.type)) a:=by
 obtain⟨xs,n,hn,hx,hl,hlen,hf⟩:=YK ht h;refine⟨hl,n,hn,λi f hi α is ho=>?_⟩;have h1:=hf i f hi;have hlt:i<xs.length:=by grind
 rw[bL hlt]at h1;rw[hx]at hm;exact ho _ _ h1 (M.ZL ht hm i f _ hi (by grind))
end
theorem Z5{W:World}{v:Value}{l:List Rx}(h:SlX W (λcs t=>kH (rP W) W cs t) 6 v l):jO yw (rP W) W v l:=by
 obtain⟨base,cap,h1,h2,h3,h4⟩:=h;refine⟨base,cap,h1,h2,h3,λh0=>?_⟩;obtain⟨b,off,h5,h6⟩:=h4 h0;refine⟨b,off,h5,?_,λi hi=>?_⟩
 ·obtain⟨cs,h7,h8⟩:=h6 0 h0
  have h7':cs.length=6:=kH.ag7 h7;have:=h8 0 _ (bL J);exact q7 W _ this
 obtain⟨cs,h7,h8⟩:=h6 i hi;exact⟨cs,h7,h8⟩
theorem ED{H:Type}{M:Msr aC H}{enc0:TypeId×Value->H}{W:World}:∀(F fuel:Nat),fuel<=F->EC M enc0 W fuel 97 (λcs t=>kH (rP W) W cs t)
 | 0,fuel,hF,cs,x,h,hm=>by
  obtain⟨_,n,hn,_⟩:=Is Tryz.underlying97 h hm;omega
 | F +1,fuel,hF,cs,x,h,hm=>by
  obtain⟨hl,n,hn,T7⟩:=Is Tryz.underlying97 h hm;have hl6:cs.length=6:=hl;obtain⟨p,e0,k1⟩:=T7 0 _ rfl (kS.at (Qt Tryz.underlying3));obtain⟨c,e1⟩:=T7 1 _ rfl (kS.at (Ic We));obtain⟨l,⟨v,e2,hs⟩,_⟩:=T7 2 _ rfl (Kh (c:=6) Tryz.underlying95 J alt (λm hm=>ED F m J) λcs a h=>h.ag7)
  replace e0:(cs.drop 0).take 1=[ap av p]:=e0
  replace e1:(cs.drop 1).take 4=dX c:=e1.1
  replace e2:(cs.drop 5).take 1=[v]:=e2
  refine⟨.mk p c l,zK.2 ⟨v,?_,k1,Z5 hs⟩⟩;unfold mL;rw[<-e1]
  match cs,hl6 with
  | [x0,x1,x2,x3,x4,x5],_=>
   grind
end cB
namespace zP
def nE(n:Nat)(tag:Int)(row:List Int):Bool:=decide (tag< -1)||decide (20<=tag)||row.any λt=>decide (t< -1)||decide ((n:Int)<=t)
def Bj(rows:List (List Int))(tags:List Int):Int:=
 if 200<rows.length then 2 else if rows.length=0\/tags.length≠rows.length then 1 else if(d_ rows.length).any (λi=>nE rows.length (tags.getD i 0) (rows.getD i []))then 1 else 0
theorem Z6{rows:List (List Int)}{tags:List Int}(h:Bj rows tags=0):rows.length<=200/\0<rows.length/\tags.length=rows.length/\∀i,i<rows.length-> -1<=tags.getD i 0/\tags.getD i 0<20/\∀t∈rows.getD i [],-1<=t/\t<rows.length:=by
 unfold Bj at h;split at h;simp at h;split at h;simp at h;split at h;simp at h
 rename_i c1 c2 c3
 refine⟨by omega,by omega,by omega,λi hi=>?_⟩;simp only[pC,q8,not_exists,not_and]at c3;have:=c3 i hi;simp only[nE,ko,decide_eq_true_eq,pC,not_or,not_exists,not_and]at this;obtain⟨⟨a,b⟩,c⟩:=this;refine⟨by omega,by omega,λt ht=>?_⟩;have:=c t ht;omega
end zP
namespace cB
open Go.RowKit cL dV zP
set_option maxRecDepth 100000
def isRow(cs:List Value)(r:List Int):Prop:=r.length=256/\cs=r.map (.int .i16)/\∀x∈r,-32768<=x/\x<=32767
def agb(W:World)(v:Value)(rows:List (List Int))(tags:List Int):Prop:=∃vr vt,v=aP #[vr,vt]/\SlX W isRow 256 vr rows/\SlX W (isInt .i64 (-9223372036854775808) 9223372036854775807) 1 vt tags/\∀r∈rows,r.length=256
end cB
end Go.Proofs.YtahecdbmhhpanaaGreat

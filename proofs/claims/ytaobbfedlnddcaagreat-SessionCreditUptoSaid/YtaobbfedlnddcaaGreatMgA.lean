/- Part 1 of what SessionCreditUpto needs: Kit, Law, Open, Mix, Eng, Step, Ops, Opm, Cls, Opx, MixV, MixW, Go3, Ty, OpenE, ClassL, ClassQ, ClassR, RexL, RexF, RexG, Read, Seq, ReadM, Room, Shp, Map, RexS, ClsEq, App, RexC, ClassB, ClsRg, KeyG. -/
import Derived.WalkKit
import Derived.WalkSpells
import Derived.WalkLawsBesides
import Derived.Deep.RegionLaw
import Derived.Deep.AppendLies
import Derived.Deep.QuietTactic
import Derived.BigQuiet
import Derived.Deep.DeepCutAuto
import Derived.Lib.Hide
import Derived.Test.YtaobbfedlnddcaaGreatRows
import Derived.ProofKit
import Derived.OpenShut
import Derived.ShutString
import Derived.SizedLaws
import Derived.JoinedCond
import Derived.Deep.CondSized
import Derived.Deep.Quiet
import Derived.StillTail
import Derived.Deep.LoopGhost
import Derived.Laws.BitsLemmas
import Derived.Laws.BytesString
import Derived.Laws.StructEq
import Derived.Test.YtaobbfedlnddcaaGreatProg
import Derived.Laws.Entries
import Derived.Laws.BitsAllLaws
import Derived.Lib.TrailingZeros
import Derived.Laws.MakeOwn
import Derived.Laws.AppendOwn
import Derived.Maps.OwnSet
import Derived.DeepKeys4
import Derived.WideKeyEntry
import Derived.ChangeKeysEq
namespace Go.Proofs.YtaobbfedlnddcaaGreat
set_option linter.unusedVariables false
set_option linter.unusedSimpArgs false
open _root_.And renaming intro->cC
open _root_.Array renaming getElem?_eq_some_iff->jt,length_toList->lC,getD_eq_getD_getElem?->wP,toList_setIfInBounds->HP,toArray_toList->CD,toList_map->CE,replicate->wQ,range->CF,ext'->rF,setIfInBounds_comm->Vf
open _root_.BitVec renaming ofNat->ik,ofInt->wR,toNat_ofNat->CG,eq_of_toNat_eq->Vg
open _root_.Bool renaming false->aE,true->aD,and_eq_true->eV,not_eq_true'->CH,beq_eq_decide_eq->Vh
open _root_.ByteArray renaming mk->th,size->HQ,ext->ac',data_extract->ada
open _root_.Classical renaming choose_spec->CI,choose->HR,byContradiction->Nv
open _root_.False renaming elim->nK
open _root_.Go.Act renaming put_comm->zz,put->qd,eval->HT
open _root_.Go.Addr renaming add->ti
open _root_.Go.Addr.mk renaming injEq->Nw
open _root_.Go.BigFrame renaming execOp_builtin->lD,builtin_append->rG,builtin_len->Ny,wpList_want->Vi,builtin_min->Vj
open _root_.Go.Builtin renaming append_->tj,lenOf->zK,firstCells->CJ,min_->Vk,min2->Vl,len_->Vm
open _root_.Go.ByteArray renaming mk_append_mk->adb
open _root_.Go.Calls renaming mono->Vn
open _root_.Go.ChangeSpec renaming plain->ade
open _root_.Go.Code renaming region->Vo
open _root_.Go.Conv renaming bytesToString->Vp
open _root_.Go.DataW renaming weightsEach->wS,weights->wT,weightsAll->CK,trod->qe,TrodAll->HU,Trod->Nz,trod_string->Vq,trod_struct->Vr,trod_slice->Vs
open _root_.Go.Deferred renaming ofValue->zM
open _root_.Go.Exit renaming inBlock->tk
open _root_.Go.Instr renaming build->df,sliceBounds->rH,fill->ju,buildSlice->tm,sliceAt->rI,sureAddr->wU,slice->rJ,sliceBound->HV,mapUpdate->zN,storeAt->NA,fieldAt->Vt,indexAt->Vu,loadAt->Vv,index->Vw
open _root_.Go.IntKind renaming i64->az,bits->lF,wrap_u64->rK,signed->rL,u64->tp,min->HW,max->HX
open _root_.Go.Lib renaming hid->CL
open _root_.Go.Maps renaming size->NB,has->NC
open _root_.Go.Maps.Keyed renaming of_law->adf
open _root_.Go.Next renaming value->Vx
open _root_.Go.Op renaming shift->il,equalIn->ox,intCmp->zO,intArith->ND,equal->HY,stringOp->Vy
open _root_.Go.Oper renaming wp->fM,upon_enter->NE,upon->NF,upon_value->Vz
open _root_.Go.Program renaming keyLits->zP
open _root_.Go.Proofs.Tryz renaming prog->aB
open _root_.Go.Region renaming ready->iF,wanted->kt,Mode->tr,noSelect->wV,binds->zQ,chainB->NG,sinkB->NH,noSelect_spec->VA,seqB->NI,free_spec->VB,free->VC
open _root_.Go.Result renaming andThen_ok->qf,andThen->mN,ok->NJ
open _root_.Go.Sem renaming run_bind->mO,run_pure->oy
open _root_.Go.Value renaming slice->ap,int->av,pointer->aJ,agg->aQ,oneCell'->eQ,bool->fN,ownBlock->rM,okWide->CM
open _root_.Go.Value.slice renaming injEq->iT
open _root_.Go.WideElems renaming Trod_stays->adg
open _root_.Go.World renaming block_lt_of_cell?->nL,cell?_setCell_other->VD,frozen?_setCell->VE,cell?_of_block->VF,ownsMap_made->VG
open _root_.Int renaming toNat_natCast->dB
open _root_.List renaming getElem?_eq_getElem->bD,length_append->bK,getElem?_eq_some_iff->dl,getElem_mem->cD,length_cons->c_,replicate->cZ,drop_eq_getElem_cons->eI,size_toArray->dU,mem_cons->dx,getElem?_append_left->gJ,append_nil->eG,getElem?_map->eX,take_of_length_le->gK,append_assoc->eY,nil_append->eJ,getElem?_toArray->jf,mem_append->fj,mem_cons_self->gZ,not_mem_nil->fl,range->dV,drop_of_length_le->jg,getElem?_set_ne->mb,mem_iff_getElem->g_,map_cons->gd,getElem?_append_right->mP,getElem?_set_self->qh,getElem?_eq_none->ku,eq_nil_of_length_eq_zero->rN,mem_of_getElem?->kR,length_take->iU,set_eq_take_append_cons_drop->CN,flatMap_cons->mc,mem_range->mQ,cons_append->kS,getElem?_cons_zero->tu,filterMap->tv,drop_drop->qi,ext_getElem?->mR,take_zero->nM,getElem?_concat_length->zR,getElem?_of_mem->wW,setIfInBounds_toArray->tw,take_succ_cons->wX,filterMap_cons_some->zS,all_eq_true->qj,set_cons_zero->wY,take_append_drop->zT,set_cons_succ->zU,zipIdx_cons->HZ,map_nil->qk,getElem?_cons_succ->CO,findIdx?_eq_some_iff_getElem->VH,map_toArray->NK,take_left'->NL,drop_left'->NM,flatten_cons->CP,drop_take->NN,getElem_append_right->VI,getElem_append_left->VJ,getElem_cons_succ->VK,getElem?_append->VL,set_append_left->VM,getElem_ofFn->VN,mapM_cons->VO,ofFn->VP
open _root_.List.cons renaming injEq->fO
open _root_.Nat renaming le_refl->bm,zero_le->bH,zero_add->cV,eq_of_beq_eq_true->kT,blt->dj,lt_of_lt_of_le->jv,le_of_ble_eq_true->me,le_trans->fv,add_mul->jh,beq->fw,mul_le_mul_right->rO,add_zero->jw,add_assoc->lG,succ_mul->kU,mul_one->kw,ne_of_beq_eq_false->H0,one_mul->tA,div_lt_iff_lt_mul->NO,min_eq_left->H2,zero_mul->wZ,mod_eq_of_lt->NP,ble->w4,mod_lt->w6,add_comm->NQ,div_add_mod->VQ,mul_comm->VR,lt_or_ge->VS
open _root_.Ne renaming symm->w7
open _root_.Option renaming some->aj,none->ak
open _root_.Option.some renaming injEq->dr,inj->rP
open _root_.Prod renaming ext->ql
open _root_.Prod.mk renaming injEq->hJ
open _root_.UInt8 renaming ofNat->fx
set_option maxHeartbeats 16000000
theorem I{α:Sort _}{a:α}:a=a:=rfl
theorem J{p:Prop}(h:p:=by omega):p:=h
theorem aiz{p:Prop}(h:p:=by decide):p:=h
namespace cU
open Go.RowKit
section
end
theorem VT{B:Nat}{w0 w w':World}(h:Below B w0 w)(hB:B<=w.heap.size)(hg:Below w.heap.size w w'):Below B w0 w':=h.trans (hg.mono hB)
def VU(b:UInt8):Value:= .int .u8 b.toNat
def Rd(w:World)(g off:Nat)(xs:List Value):Prop:=∀j u,xs[j]?=aj u->w.cell? ⟨g,off+j,ak⟩=aj u
def Wr(w:World)(g off:Nat)(xs:List Value):Prop:=∀j u,xs[j]?=aj u->w.cell? ⟨g,off+j,ak⟩=aj u/\w.frozen? ⟨g,off+j,ak⟩=aE
theorem Wr.rd{w:World}{g off:Nat}{xs:List Value}(h:Wr w g off xs):Rd w g off xs:=λj u hj=>(h j u hj).1
theorem Rd.gr{w w':World}{g off:Nat}{xs:List Value}(h:Rd w g off xs)(hg:Below w.heap.size w w'):Rd w' g off xs:=λj u hj=>by
 have h1:=h j u hj;rw[hg.cell (nL w _ h1)];exact h1
theorem Wr.gr{w w':World}{g off:Nat}{xs:List Value}(h:Wr w g off xs)(hg:Below w.heap.size w w'):Wr w' g off xs:=λj u hj=>by
 have h1:=h j u hj;rw[hg.cell (nL w _ h1.1),hg.frozen (nL w _ h1.1)];exact h1
theorem Rd.at{w:World}{g off:Nat}{xs:List Value}(h:Rd w g off xs)(j:Nat)(hj:j<xs.length):w.cell? ⟨g,off+j,ak⟩=aj xs[j]:=h j _ (bD hj)
theorem Wr.at{w:World}{g off:Nat}{xs:List Value}(h:Wr w g off xs)(j:Nat)(hj:j<xs.length):w.cell? ⟨g,off+j,ak⟩=aj xs[j]/\w.frozen? ⟨g,off+j,ak⟩=false:=h j _ (bD hj)
theorem Wr.set{w:World}{g off:Nat}{xs:List Value}(h:Wr w g off xs)(j:Nat)(hj:j<xs.length)(u:Value):Wr (w.setCell ⟨g,off+j,ak⟩ u) g off (xs.set j u):=λi v hi=>by
 have hlen:i<xs.length:=by simpa using(dl.1 hi).1
 refine⟨?_,by rw[VE];exact(h.at i hlen).2⟩
 by_cases e:i=j
 ·subst e
  rw[qh hj]at hi;rw[World.cell?_setCell_same _ _ _ (h.at i hj).1];exact hi
 rw[mb (w7 e)]at hi;have hne:(⟨g,off+j,ak⟩:Addr)≠⟨g,off+i,ak⟩:=λhe=>e (by have:=congrArg Addr.off he;simp at this;omega);rw[VD _ _ _ _ hne];exact(h i v hi).1
theorem Wr.grown{w w':World}{g off:Nat}{xs:List Value}{row:Option Nat}(h:Wr w g off xs)(hg:w.grownBy w' row)(hne:row≠aj g):Wr w' g off xs:=λj u hj=>by
 have h1:=h j u hj;have hb:=nL w _ h1.1;have e:=hg.block g hb (λh=>hne h.symm);rw[VF (w:=w) (a:=⟨g,off+j,ak⟩) e,World.frozen?_of_block (w:=w) (a:=⟨g,off+j,ak⟩) e];exact h1
theorem Wr.far{w:World}{g off:Nat}{xs:List Value}(h:Wr w g off xs){a:Addr}(ha:a.block≠g)(u:Value):Wr (w.setCell a u) g off xs:=λj v hj=>by
 have h1:=h j v hj;rw[VE,VD _ _ _ _ (λe=>ha (by rw[e]))];exact h1
theorem acA(z:Value)(n:Nat):(madeCells #[z] n).toList=cZ n z:=by
 apply mR;intro i
 by_cases h:i<n
 simp[madeCells,h,Nat.mod_one];simp[madeCells,h]
theorem aaf(W:World)(o:Obj)(n:Nat)(h:W.heap.size=n):(W.alloc o).heap[n]?=aj o:=h▸heap_alloc_new W o
theorem Wr.append{w w':World}{g off:Nat}{xs:List Value}(h:Wr w g off xs){base:Nat}{e:TypeId}{size:Nat}{v:Value}{n:Nat}{ys:List Value}(mf:w.ownsRow base e size v n ys)(hg:w.grownBy w' v.ownBlock)(hb:g<base):Wr w' g off xs:=
 h.grown hg λe=>by have:=(mf.lt g e).1;omega
theorem Wr.nil(w:World)(g off:Nat):Wr w g off []:=λj u h=>by simp at h
theorem adh{w:World}{base:Nat}{e:TypeId}{size:Nat}{g n cap:Nat}{xs:List Value}(h:w.ownsRow base e size (ap (aj ⟨g,0,ak⟩) n cap) n xs):Wr w g 0 xs:=λj u hj=>by
 have hl:j<n*size:=by rw[<-h.1];exact(dl.1 hj).1
 rw[cV];exact⟨(h.cellAt j hl).trans hj,h.frozenAt j⟩
theorem Kl{P:Program}{src dst e:TypeId}(hs:P.underlying src=aj (.slice e))(he:P.underlying e=aj (.int .u8))(hd:P.underlying dst=aj .string){w:World}{g off n cap:Nat}{l:List UInt8}
 (hn:n=l.length) (h:Rd w g off (l.map VU)):(convert src dst (ap (aj ⟨g,off,ak⟩) n cap)).run P w= .ok (.string ⟨l.toArray⟩) w:=by
 subst hn;refine run_convert_bytes_back w src dst e ⟨g,off,ak⟩ cap l hs he hd λj hj=>?_;have:=h.at j (by simpa using hj);rw[show(⟨g,off,ak⟩:Addr).add j=⟨g,off+j,ak⟩by unfold ti;split<;>simp_all];rw[this];simp[VU]
end cU
namespace law
open Go.ChangeShapes Go.WideShapes Go.ChangeAt Go.RowKit
theorem own:ownKnob aB.godebug=none:=by kernel_rfl
theorem laidOut:laidOutB aB=true:=by kernel_rfl
structure ae4{H:Type}(enc:TypeId×Value->H)(fn:Func)(W:World)(base:Nat)(args:Array Value)(ds:List (DataW H))(p:List MemPlace):Prop where
 val:∀(j:Nat) t v,fn.params[j]?=aj t->args[j]?=aj v->CM aB W .any base t v
 trod:HU enc aB W 0 (λ_=>aD) aD fn.params.toList args.toList ds p
 sized:(wS aB fn.params.toList ds).all (· <=reachBytes)=aD
 free:W.noneFrozen p
noncomputable def acB(fn:Func):Bool:=fn.params.toList.all λt=>aB.readableRec t&&decide (t<aB.types.size)
section
variable{H:Type}{enc:TypeId×Value->H}
theorem wx{P:Program}(hl:laidOutB P=aD){W W':World}{sp':Nat->Bool}:∀{ts:List TypeId} {vs:List Value} {ds:List (DataW H)} {ps:List MemPlace},(ts.all λt=>P.readableRec t&&decide (t<P.types.size))=aD->
 HU enc P W 0 (λ_=>aD) aD ts vs ds ps->(∀p∈ps,W.sameAt W' p)->(∀p∈ps,sp' p.block=aD)->HU enc P W' 0 sp' aD ts vs ds ps
 |[],[],[],_,_,h,_,_=>h
 | t ::ts,v::vs,d::ds,_,hb,⟨p,q,h1,h2,e⟩,h3,h4=>by
  simp only[List.all_cons,eV,decide_eq_true_eq]at hb;subst e;exact⟨p,q,adg hl hb.1.1 hb.1.2 h1 (λx hx=>h3 x (by simp[hx])) (λx hx=>h4 x (by simp[hx])),
   wx hl hb.2 h2 (λx hx=>h3 x (by simp[hx])) (λx hx=>h4 x (by simp[hx])),rfl⟩
 |[],_::_,_,_,_,h,_,_=>h.elim
 |[],[],_::_,_,_,h,_,_=>h.elim
 |_::_,[],_,_,_,h,_,_=>h.elim
 |_::_,_::_,[],_,_,h,_,_=>h.elim
theorem tB{P:Program}{W:World}{sp:Nat->Bool}:∀{ts:List TypeId} {vs:List Value} {ds:List (DataW H)} {ps:List MemPlace},HU enc P W 0 sp aD ts vs ds ps->ds.length=ts.length
 |[],[],[],_,_=>rfl
 |_::ts,_::vs,_::ds,_,⟨_,_,_,h2,_⟩=>by simp[tB h2]
 |[],_::_,_,_,h=>h.elim
 |[],[],_::_,_,h=>h.elim
 |_::_,[],_,_,h=>h.elim
 |_::_,_::_,[],_,h=>h.elim
def Km(fn:Func)(s:ChangeSpec):Prop:=s.vars=[]/\∀(H:Type) (ds:List (DataW H)),ds.length=fn.params.size->s.fn H ds={results:=[.lit (.bool aD)],args:=ds}
theorem aag{fn:Func}{s:ChangeSpec}{W W':World}{args:Array Value}{ds gs:List (DataW H)}{before:List MemPlace}(hs:Km fn s)(yh:acB fn=aD)(ns:fn.resultTypes=#[4])
 (hW:DataW.Whole enc aB fn.params.toList s.vars aE W args.toList ds gs before) (hb:Below W.heap.size W W'):
 s.post enc aB fn aE aD aE aE W args (.bool aD) W':=by
 obtain⟨hv,hfn⟩:=hs;have hW':=hW;obtain⟨p,q,hA,hV,rfl,hfz,Kn⟩:=hW;rw[hv]at hV;obtain⟨rfl,rfl⟩:=trodVars_none hV;have hlen:ds.length=fn.params.size:=by rw[tB hA];simp
 have hlt:∀x∈p,x.block<W.heap.size:=λx hx=>hW'.lt x (by simp[hx]);have he:s.fn H (ds++[])={results:=[.lit (.bool aD)],args:=ds}:=by rw[eG];exact hfn H ds hlen
 refine⟨ds,[],p++[],[],p,[],hW',?_,?_,?_,hb.frame _,λh=>by cases h⟩
 ·rw[he,ns]
  exact trodAll_mk1 (shut_bool Tryz.underlying4 aD)
 ·rw[he]
  exact wx laidOut yh hA (λx hx=>hb.same (hlt x hx)) (λx hx=>by simpa using hlt x hx)
 ·rw[he,hv]
  rfl
end
set_option maxRecDepth 100000 in
theorem upto{os:Os}{f:FuncId}{fn:Func}{s:ChangeSpec}{F:Stop.Interp}(started:os.Started)(adi:aB.inits.idxOf? f=ak)(hf:aB.funcs[f]?=aj fn)(hs:Km fn s)(yh:acB fn=aD)(ns:fn.resultTypes=#[4])
  {H:Type} {enc:TypeId×Value->H}
  (witness:∃(w:World) (tape:Tape) (i:Input),w.os=os/\(w.forCall tape i).Shaped Tryz.checked.prog/\i.vars=[]/\Input.okWide Tryz.checked.prog (w.forCall tape i) .any w.heap.size f i/\
   (Rows.OpenSpec.upto s).pre6 enc Tryz.checked.prog fn [] aE (w.forCall tape i).memory i.args/\({}:Assume).holds Tryz.checked.prog (lone (Frame.enter Tryz.checked.prog f i.args .normal) [] (w.forCall tape i)))
  (walk:∀(W:World) (base:Nat) (args:Array Value) (ds:List (DataW H)) (p:List MemPlace),ae4 enc fn W base args ds p->Rows.uptoSmall H ds=aD->Calls aB f args W λe W'=>e= .returned (.bool aD)/\Below W.heap.size W W'):
  ReturnsInHanded {} Tryz.checked os f .any ((Rows.OpenSpec.upto s).pre6 enc aB fn [] aE) (((Rows.OpenSpec.upto s).at F).post enc aB fn aE aD aE aE):=by
 refine returnsInHanded_of_cond_sized (C:=Tryz.checked) (s:=Rows.OpenSpec.upto s) (k:=Rows.uptoSmall) I own started adi hf witness ?_;intro W base args ds gs before hval hW _ hk hsz _;have hW':=hW;obtain⟨p,q,hA,hV,rfl,hfz,Kn⟩:=hW;have acC:(Rows.OpenSpec.upto s).vars=[]:=hs.1;rw[acC]at hV;obtain⟨rfl,rfl⟩:=trodVars_none hV;have agQ:(wS aB fn.params.toList ds).all (· <=reachBytes)=true:=by
  have e:(Rows.OpenSpec.upto s).bare.plain.varTypes aB=[]:=by simp[OpenSpec.bare,ade,DataSpec.varTypes,acC]
  have:=hsz;rw[show(Rows.OpenSpec.upto s).bare.plain.varTypes Tryz.checked.prog=[]from e]at this;rw[eG,eG]at this;exact this
 refine(walk W base args ds p ⟨hval,hA,agQ,λb off h=>hfz b off (by simp[h])⟩ (by simpa using hk)).mono λe W' ⟨he,hb⟩=>?_;exact⟨_,he,aag (s:=(Rows.OpenSpec.upto s).at F) hs yh ns hW' hb⟩
end law
namespace cU
open Go.ChangeShapes Go.WideShapes Go.ChangeAt Go.RowKit
def Sl(w:World)(v:Value)(n:Nat)(xs:List Value):Prop:=
 ∃base cap,v=ap base n cap/\n<=cap/\cap<=maxLen/\(0<n->∃b off,base=aj ⟨b,off,ak⟩/\Rd w b off xs)
theorem Sl.gr{w w':World}{v:Value}{n:Nat}{xs:List Value}(h:Sl w v n xs)(hg:Below w.heap.size w w'):Sl w' v n xs:=
 let ⟨base,cap,h1,h2,h3,h4⟩:=h
 ⟨base,cap,h1,h2,h3,λhn=>let ⟨b,off,h5,h6⟩:=h4 hn;⟨b,off,h5,h6.gr hg⟩⟩
theorem Sl.dy{w:World}{base:Nat}{e:TypeId}{size:Nat}{v:Value}{n:Nat}{xs:List Value}(h:w.ownsRow base e size v n xs):Sl w v n xs:=by
 rcases h.2 with⟨rfl,rfl⟩|⟨g,cap,jM,rfl,hb,hg,hn,hm,r⟩
 exact⟨ak,0,rfl,bm _,by decide,λh=>by omega⟩;exact⟨_,cap,rfl,hn,hm,λ_=>⟨g,0,rfl,(adh h).rd⟩⟩
theorem mapM_some{α β:Type}{f:α->Option β}:∀{l:List α} {r:List β},l.mapM f=aj r->r.length=l.length/\∀(i:Nat) (a:α),l[i]?=aj a->∃b,f a=aj b/\r[i]?=aj b
 | [],r,h=>by
  simp at h;subst h;exact⟨rfl,λi a h=>by simp at h⟩
 | x ::l,r,h=>by
  rw[VO]at h
  cases hx:f x with
  |none=>rw[hx]at h;simp at h
  | some y=>
   rw[hx]at h
   cases hr:l.mapM f with
   |none=>rw[hr]at h;simp at h
   | some r'=>
    rw[hr]at h;simp at h;subst h;obtain⟨h1,h2⟩:=mapM_some hr;refine⟨by simp[h1],λi a hi=>?_⟩
    cases i with
    |zero=>simp at hi;subst hi;exact⟨y,hx,rfl⟩
    |succ i=>simp at hi;simpa using h2 i a hi
theorem iV{w:World}{a:Addr}{n:Nat}{cs:List Value}(h:w.cells? 0 a n=aj cs):cs.length=n/\∀j,j<n->w.cell? (a.add j)=cs[j]?:=by
 unfold World.cells? at h;rw[if_pos (bH _)]at h;obtain⟨h1,h2⟩:=mapM_some h;rw[List.length_range]at h1;refine⟨h1,λj hj=>?_⟩;obtain⟨b,hb,hc⟩:=h2 j j (by simp[hj]);rw[hb,hc]
theorem eB(b off j:Nat):(⟨b,off,ak⟩:Addr).add j=⟨b,off+j,ak⟩:=by unfold ti;split<;>simp_all
theorem zV{w:World}{a:Addr}{v:Value}(h:w.cell? a=aj v):a.spot=none:=by
 unfold World.cell? at h;split at h
 ·cases hs:a.spot with
  |none=>rfl
  |some n=>rw[hs]at h;simp at h
 cases h
theorem tC{α:Type}{enc:α->List Value}{c:Nat}(hlen:∀a,(enc a).length=c):∀(l:List α) (i j:Nat) (a:α),l[i]?=aj a->j<c->(l.flatMap enc)[i*c+j]?=(enc a)[j]?
 |[],i,j,a,h,_=>by simp at h
 |x::l,0,j,a,h,hj=>by
  simp at h;subst h;rw[mc,gJ (by rw[hlen];omega)];simp
 |x::l,i+1,j,a,h,hj=>by
  have ih:=tC hlen l i j a (by simpa using h) hj;rw[mc,mP (by rw[hlen,jh];omega),hlen,show(i+1)*c+j-c=i*c+j by rw[jh];omega];exact ih
theorem A2{α:Type}{enc:α->List Value}{c:Nat}(hlen:∀a,(enc a).length=c)(l:List α):(l.flatMap enc).length=l.length*c:=by
 induction l with
 |nil=>simp
 |cons x l ih=>rw[mc,bK,hlen,ih,c_,jh];omega
section
variable{H:Type}{enc0:TypeId×Value->H}{P:Program}{W:World}
theorem yi{α:Type}{p:Nat->α->Prop}:∀(n:Nat),(∀i,i<n->∃a,p i a)->∃l:List α,l.length=n/\∀(i:Nat) (a:α),l[i]?=aj a->p i a
 |0,_=>⟨[],rfl,λi a h=>by simp at h⟩
 | n+1,h=>by
  obtain⟨l,hl,hp⟩:=yi n λi hi=>h i J;obtain⟨a,ha⟩:=h n J;refine⟨l++[a],by simp[hl],λi b hb=>?_⟩
  by_cases hi:i<n
  rw[gJ J]at hb;exact hp i b hb;have hlt:=(dl.1 hb).1;simp at hlt;obtain rfl:i=n:=by omega
  rw[mP J]at hb;rw[hl]at hb;simp at hb;subst hb;exact ha
theorem SA{t e:TypeId}(ht:P.underlying t=aj (.slice e)){c:Nat}(hc:P.cellsOf e=c)(CQ:0<c){α:Type}(enc:α->List Value)(hlen:∀a,(enc a).length=c)(ok:α->Prop)
 (dec:∀(fuel:Nat) (cs:List Value) x,qe enc0 P W 0 (λ_=>aD) aD fuel e cs=aj x->∃a,cs=enc a/\ok a)
 {base:Nat} {v:Value} {d:DataW H} {ps:List MemPlace} (hv:CM P W .any base t v) (h:Nz enc0 P W 0 (λ_=>aD) aD t v d ps):
 ∃l:List α,Sl W v l.length (l.flatMap enc)/\(∀a∈l,ok a)/\((d= .nil/\l=[])\/∃elems spare,d= .slice elems spare/\elems.length=l.length):=by
 obtain⟨a0,len,cap,rfl⟩:=okWide_slice ht hv;obtain⟨fuel,hf⟩:=h;have B5:qe enc0 P W 0 (λ_=>aD) aD fuel t [ap a0 len cap]=aj (d,ps):=hf;rcases Vs ht B5 with⟨hcs,hx⟩|⟨a,ahZ,Fp,elems,rest,n,_,hcs,hx,_,hl,hm,sW,yh,_⟩
 ·simp only[fO,iT,and_true]at hcs
  obtain⟨rfl,rfl,rfl⟩:=hcs;simp only[hJ]at hx;exact⟨[],⟨ak,0,rfl,bm _,by decide,λh=>by simp at h⟩,by simp,.inl ⟨hx.1,rfl⟩⟩
 ·simp only[fO,iT,and_true]at hcs
  obtain⟨rfl,rfl,rfl⟩:=hcs;simp only[hJ]at hx;have each:∀i,i<len->∃b:α,(W.cells? 0 (a.add (i*c)) c=aj (enc b))/\ok b:=λi hi=>by
   have h1:=yh i hi;rw[hc]at h1;rw[bD J]at h1
   cases hcell:W.cells? 0 (a.add (i*c)) c with
   |none=>rw[hcell]at h1;simp at h1
   | some cs=>
    rw[hcell]at h1;obtain⟨b,rfl,lf⟩:=dec n cs _ h1;exact⟨b,rfl,lf⟩
  obtain⟨l,Ko,hp⟩:=yi len each;refine⟨l,⟨aj a,cap,by rw[Ko],by omega,hm,λh0=>?_⟩,λb hb=>?_,.inr ⟨_,_,hx.1,by simp[sW,Ko]⟩⟩
  ·have h1:=hp 0 l[0] (bD h0)
   have h2:=(iV h1.1).2 0 CQ;rw[bD (by rw[hlen];exact CQ)]at h2;have hsp:=zV h2;have e0:a.spot=none:=by
    rw[wZ]at hsp;unfold ti at hsp
    simpa using hsp
   obtain⟨b,off,spot⟩:=a;simp only at e0;subst e0;refine⟨b,off,rfl,λj u hj=>?_⟩;have SB:=(dl.1 hj).1;rw[A2 hlen]at SB;have hi:j/c<l.length:=(NO CQ).2 SB;have SC:=w6 j CQ;have hdm:j/c*c+j %c=j:=by rw[VR];exact VQ j c
   have h3:=hp (j/c) l[j/c] (bD hi);have h4:=(iV h3.1).2 (j %c) SC;rw[eB,eB,lG,hdm]at h4;rw[h4,<-tC hlen l (j/c) (j %c) l[j/c] (bD hi) SC,hdm];exact hj
  obtain⟨i,hi,rfl⟩:=g_.1 hb;exact(hp i _ (bD hi)).2
end
def Ga(b:Bool):List Value:=[.bool b]
def eo(n:Int):List Value:=[av az n]
theorem acD{α:Type}{f:α->Value}(l:List α):l.flatMap (λa=>[f a])=l.map f:=by
 induction l with
 |nil=>rfl
 |cons x l ih=>simp[mc,ih]
def dX(n:Int):Prop:= -9223372036854775808<=n/\n<=9223372036854775807
end cU
namespace dM
open Go.RowKit
abbrev Gr(w w':World):Prop:=Below w.heap.size w w'
theorem Gr.refl(w:World):Gr w w:=Below.refl _ _
theorem Gr.trans{a b c:World}(h:Gr a b)(k:Gr b c):Gr a c:=Below.trans h (k.mono h.size)
theorem Gr.drew(w:World):Gr w w.drew:=(Below.refl _ _).drew
def Up(w w':World):Prop:=Gr w w'
def ji(S:World->Prop):Prop:=∀w w',S w->Gr w w'->S w'
theorem SD(w:World):ji (Up w):=λ_ _ h k=>Gr.trans h k
section
variable{P:Program}{ops:Array Oper}{md:tr}{Q:Exit->Act->World->Prop}
def CR(P:Program)(w:World)(v:Value):Result Next->Prop
 | .ok (.value u) w'=>u=v/\Gr w w'
 | .ok .skip w'=>v=undef/\Gr w w'
 | .ok (.enter f args) w'=>Gr w w'/\Calls P f args w' (λe Fg=>e= .returned v/\Gr w' Fg)
 |_=>False
def oz(P:Program)(o:Oper)(a:Act)(w:World)(v:Value):Prop:=CR P w v ((execOp a.eval o).run P w)
def jx(P:Program)(ops:Array Oper)(S:World->Prop)(o:Oper)(v:Value)(a:Act):Prop:=
 (kt o (yielded ops a.tmps)=aD/\∀w,S w->oz P o a w v)\/(kt o (yielded ops a.tmps)=aE/\v=undef)
theorem jx.mono{S S':World->Prop}{o:Oper}{v:Value}{a:Act}(hs:∀w,S' w->S w)(h:jx P ops S o v a):jx P ops S' o v a:=
 h.imp (λ⟨h1,h2⟩=>⟨h1,λw hw=>h2 w (hs w hw)⟩) id
theorem jx.of_same{S:World->Prop}{o:Oper}{v:Value}{a a':Act}(hy:jx P ops S o v a)(he:execOp a'.eval o=execOp a.eval o)
 (hw:kt o (yielded ops a'.tmps)=kt o (yielded ops a.tmps)):jx P ops S o v a':=by
 simp_all[jx,oz]
theorem jx.wpOp{S:World->Prop}{i:Nat}{o:Oper}{v:Value}{a:Act}(hi:ops[i]?=aj o)(hy:jx P ops S o v a)(iz:ji S)
 {K:Act->World->Prop} {w:World} (hS:S w) (h:∀w',S w'->K (a.put o.dst v) w'):wpOp P ops Q i K a w:=by
 unfold Go.wpOp;simp only[hi];rcases hy with⟨hw,hv⟩|⟨hw,rfl⟩
 ·simp only[hw,if_true]
  refine .inl ?_;have h1:=hv w hS;unfold oz at h1;unfold fM;generalize (execOp a.eval o).run P w=r at*
  cases r with
  | ok n w'=>
   cases n<;>simp only[CR]at h1<;>simp only[NF]
   case value u=>rw[h1.1];exact h _ (iz _ _ hS h1.2)
   case skip=>rw[<-h1.1];exact h _ (iz _ _ hS h1.2)
   case enter f args=>
    refine h1.2.mono λe Fg ⟨he,hg⟩=>?_;subst he;exact h _ (iz _ _ (iz _ _ hS h1.1) hg)
  |halt x w'=>simp_all[CR]
 simp_all
theorem Gb{S:World->Prop}{j:Nat}{oi oj:Oper}{v:Value}(hj:ops[j]?=aj oj)(hap:oi.apart ops oj=aD)
 (hsi:∀cs b,oi.op≠ .select cs b) (hsj:∀cs b,oj.op≠ .select cs b)
 (hQ:∀c a w,Q (.panic c) (a.put oi.dst v) w->Q (.panic c) a w) {K:Act->World->Prop} {a:Act} {w:World}
 (hy:jx P ops S oi v a) (h:wpOp P ops Q j K (a.put oi.dst v) w):
 wpOp P ops Q j (λa' w'=>jx P ops S oi v a'/\K (a'.put oi.dst v) w') a w:=by
 obtain⟨h1,h2,h3⟩:=Oper.apart_spec hap;have keep:∀(a:Act),jx P ops S oi v a->∀u,jx P ops S oi v (a.put oj.dst u):=λa hy u=>
  hy.of_same (execOp_put oi hsi a oj.dst u h3) (wanted_put oi a oj.dst u h3)
 have ahP:∀d,jx P ops S oi v {a with defers:=d::a.defers}:=λd=>hy.of_same I I;unfold wpOp at*;simp only[hj]at*;rw[wanted_put oj a oi.dst v h1]at h;split
 ·rename_i hw
  simp only[hw,if_true]at h;rcases h with h|⟨acE,ae5⟩
  case inr=>exact .inr ⟨by unfold Oper.asks at*;rw[execOp_put oj hsj a oi.dst v h1]at acE;exact acE,ae5⟩
  refine .inl ?_;unfold fM at*;rw[execOp_put oj hsj a oi.dst v h1]at h;generalize (execOp a.eval oj).run P w=r at*
  cases r with
  | ok n w'=>
   cases n<;>simp only[NF]at h⊢
   grind[zz]
   grind[zz]
   case defer d=>
    grind[zz,Act.put_defers]
   grind[Vn,zz]
   grind[zz]
  | halt x w'=>
   cases x<;>simp_all[NF]
 grind[zz]
def zW(P:Program)(md:tr)(ops:Array Oper)(Q:Exit->Act->World->Prop)(n:Nat)(L:Array Bool->Act->World->Prop):Nat->Array Bool->Act->(World->Prop)->Prop
 |0,listed,a,S=>∀w,S w->L listed a w
 | f+1,listed,a,S=>iF md ops listed≠[]/\
  ∀i∈iF md ops listed,i<n/\∀w,S w->wpOp P ops Q i (λa' w'=>∃S',ji S'/\(∀x,S' x->S x)/\S' w'/\zW P md ops Q n L f (listed.setIfInBounds i aD) a' S') a w
theorem CS{n g:Nat}{L:Array Bool->Act->World->Prop}(hL:∀listed a w,L listed a w->wpAny P md ops Q g listed a w):
 ∀(f:Nat) (listed:Array Bool) (a:Act) (S:World->Prop) (w:World),S w->zW P md ops Q n L f listed a S->wpAny P md ops Q (f+g) listed a w
 |0,listed,a,S,w,hw,h=>by rw[cV];exact hL _ _ _ (h w hw)
 |f+1,listed,a,S,w,hw,h=>by
  rw[show f+1+g=(f+g)+1 by omega];exact⟨λh0=>absurd h0 h.1,λi hi=>wpOp_mono (λa' w' ⟨S',_,_,tc,h'⟩=>CS hL f _ a' S' w' tc h') ((h.2 i hi).2 w hw)⟩
theorem H3{n i:Nat}{oi:Oper}{v:Value}{L:Array Bool->Act->World->Prop}(hi:ops[i]?=aj oi)(l6:∀(j:Nat) (o:Oper) cs b,ops[j]?=aj o->o.op≠ .select cs b)
 (hs:NH md ops n=aD) (hc:NG md ops n=aD) (hn:n<ops.size) (Fh:i<n)
 (hQ:∀c a w,Q (.panic c) (a.put oi.dst v) w->Q (.panic c) a w)
 (hdone:∀listed a w,L listed a w->∀j∈iF md ops listed,n<=j):
 ∀ (f:Nat) (listed:Array Bool) (a:Act) (S:World->Prop),ji S->HeadInv md ops n listed->
  (∀j oj,ops[j]?=aj oj->j≠i->listed.getD j aD=aE->(∀e∈oj.after,zQ md e=aD->e.on≠i)->oi.apart ops oj=aD)->
  i∈iF md ops listed->jx P ops S oi v a->
  zW P md ops Q n L f (listed.setIfInBounds i aD) (a.put oi.dst v) S->zW P md ops Q n L (f+1) listed a S:=by
 intro f
 induction f with
 | zero=>
  intro listed a S iz inv _ hr hy H;have A3:=(mem_ready.1 hr).1;refine⟨λh=>(by simp_all),λj hj=>?_⟩;have hjn:j<n:=by
   rcases VS j n with h|h
   exact h;exact absurd hj (tail_waits hs hc hn inv _ i I Fh A3 j h)
  refine⟨hjn,λw hw=>?_⟩
  by_cases J_:j=i
  subst J_;exact hy.wpOp hi iz hw λw' tc=>⟨S,iz,λ_ h=>h,tc,H⟩;have:=hdone _ _ _ (H w hw) j (ready_mono hj J_);omega
 | succ f ih=>
  intro listed a S iz inv Gc hr hy H;have A3:=(mem_ready.1 hr).1;refine⟨λh=>(by simp_all),λj hj=>?_⟩;have hjn:j<n:=by
   rcases VS j n with h|h
   exact h;exact absurd hj (tail_waits hs hc hn inv _ i I Fh A3 j h)
  refine⟨hjn,λw hw=>?_⟩
  by_cases J_:j=i
  subst J_;exact hy.wpOp hi iz hw λw' tc=>⟨S,iz,λ_ h=>h,tc,H⟩;have h1:=(H.2 j (ready_mono hj J_)).2 w hw;obtain⟨aah,oj,QD,pF⟩:=mem_ready.1 hj;have SE:∀e∈oj.after,zQ md e=aD->e.on≠i:=λe he hb NR=>by
   grind
  have h2:=Gb QD (Gc j oj QD J_ aah SE) (λcs b=>l6 i oi cs b hi) (λcs b=>l6 j oj cs b QD) hQ hy h1;have NS:∀k ok,ops[k]?=aj ok->k≠i->(listed.setIfInBounds j aD).getD k aD=aE->
   (∀e∈ok.after,zQ md e=aD->e.on≠i)->oi.apart ops ok=true:=λk ok hk hki A3 hno=>by
   refine Gc k ok hk hki ?_ hno
   by_cases hjk:j=k
   simp_all
   simp_all
  refine wpOp_mono (λa' w' h3=>?_) h2;obtain⟨h3,S',mG,kx,tc,h4⟩:=h3;refine⟨S',mG,kx,tc,ih (listed.setIfInBounds j aD) a' S' mG (inv.set hj hjn) NS (ready_mono hr (w7 J_)) (h3.mono kx) ?_⟩;rw[Vf _ _ J_];exact h4
def UX(P:Program)(ops:Array Oper)(Q:Exit->Act->World->Prop)(L:Act->World->Prop):List Bool->List Oper->Act->(World->Prop)->Prop
 |true::ks,o::rest,a,S=>∃v,(if kt o (yielded ops a.tmps)then ∀w,S w->oz P o a w v else v=undef)/\UX P ops Q L ks rest (a.put o.dst v) S
 | false::ks,o::rest,a,S=>∀w,S w->if kt o (yielded ops a.tmps)then
  o.wp P a w (λa' w'=>∃S',ji S'/\(∀x,S' x->S x)/\S' w'/\UX P ops Q L ks rest a' S') Q
  else UX P ops Q L ks rest (a.put o.dst undef) S
 |_,_,a,S=>∀w,S w->L a w
def w8(md:tr)(ops:Array Oper)(g:Nat):List Bool->Nat->Array Bool->Bool
 |true::ks,k,listed=>(iF md ops listed).contains k&&VC md ops listed k&&w8 md ops g ks (k+1) (listed.setIfInBounds k aD)
 |false::ks,k,listed=>decide (iF md ops listed=[k])&&w8 md ops g ks (k+1) (listed.setIfInBounds k aD)
 |[],k,listed=>NI md ops g k listed
def adj(md:tr)(ops:Array Oper)(ks:List Bool):Bool:=
 wV ops&&decide (ks.length<ops.size)&&NH md ops ks.length&&NG md ops ks.length&&w8 md ops (ops.size-ks.length) ks 0 (wQ ops.size aE)
theorem w9{n g:Nat}{Lq:Act->World->Prop}(l6:wV ops=aD)(hs:NH md ops n=aD)(hc:NG md ops n=aD)(hn:n<ops.size)
 (hQ:∀c a d v w,Q (.panic c) (a.put d v) w->Q (.panic c) a w):
 ∀(ks:List Bool) (l:List Oper) (k:Nat) (listed:Array Bool) (a:Act) (S:World->Prop),ji S->l.length=ks.length->(∀j,j<l.length->l[j]?=ops[k+j]?)->k+l.length=n->HeadInv md ops n listed->
 w8 md ops g ks k listed=aD->UX P ops Q Lq ks l a S->
 zW P md ops Q n (λB6 a' w'=>NI md ops g n B6=aD/\Lq a' w') ks.length listed a S
 |[],[],k,listed,a,S,_,_,_,hk,_,hB,h=>by
  have:k=n:=by omega
  subst this;exact λw hw=>⟨by simp_all[w8],h w hw⟩
 |[],_::_,_,_,_,_,_,hlen,_,_,_,_,_=>by simp_all
 |_::_,[],_,_,_,_,_,hlen,_,_,_,_,_=>by simp_all
 | true::ks,o::l,k,listed,a,S,iz,hlen,hl,hk,inv,hB,h=>by
  have h0:ops[k]?=aj o:=by simpa using(hl 0 (by simp)).symm
  simp only[w8,eV]at hB;obtain⟨⟨hr,hf⟩,hB'⟩:=hB;have hkn:k<n:=by grind
  have H4:k∈iF md ops listed:=by simp_all
  obtain⟨v,hy,hK⟩:=h;have hy':jx P ops S o v a:=by
   by_cases hw:kt o (yielded ops a.tmps)=aD
   rw[if_pos hw]at hy;exact .inl ⟨hw,hy⟩;rw[if_neg hw]at hy;exact .inr ⟨by simp_all,hy⟩
  exact H3 h0 (VA l6) hs hc hn hkn (λc a w=>hQ c a o.dst v w) (λB6 a' w' hL=>seqB_ready hL.1) ks.length listed a S iz inv (VB h0 hf) H4 hy'
   (w9 l6 hs hc hn hQ ks l (k+1) _ _ S iz (by simp_all) (λj hj=>by have:=hl (j+1) (by grind);simpa[lG,NQ 1 j]using this) (by grind) (inv.set H4 hkn) hB' hK)
 | false::ks,o::l,k,listed,a,S,iz,hlen,hl,hk,inv,hB,h=>by
  have h0:ops[k]?=aj o:=by simpa using(hl 0 (by simp)).symm
  simp only[w8,eV,decide_eq_true_eq]at hB;obtain⟨hr,hB'⟩:=hB;have hkn:k<n:=by grind
  have H4:k∈iF md ops listed:=by grind
  have next:∀a' S',ji S'->UX P ops Q Lq ks l a' S'->zW P md ops Q n (λB6 a' w'=>NI md ops g n B6=aD/\Lq a' w') ks.length (listed.setIfInBounds k aD) a' S':=λa' S' mG hK=>
   w9 l6 hs hc hn hQ ks l (k+1) _ _ S' mG (by simp_all) (λj hj=>by have:=hl (j+1) (by grind);simpa[lG,NQ 1 j]using this) (by grind) (inv.set H4 hkn) hB' hK
  refine⟨by simp_all,λi hi=>?_⟩;obtain rfl:i=k:=by simp_all
  refine⟨hkn,λw hw=>?_⟩;have h1:=h w hw;unfold wpOp;simp only[h0];split
  ·rename_i hwt
   rw[if_pos hwt]at h1;exact .inl (Oper.wp_mono (λa' w' ⟨S',mG,kx,tc,hK⟩=>⟨S',mG,kx,tc,next _ _ mG hK⟩) h1)
  grind
theorem Fq{id:Nat}{a:Act}{w:World}{l:List Oper}(ks:List Bool)(hm:P.follows .mixedOrders=aD)(hB:adj .any l.toArray ks=aD)
 (hQ:∀c a d v w,Q (.panic c) (a.put d v) w->Q (.panic c) a w) (S:World->Prop) (iz:ji S) (hS:S w.drew)
 (h:UX P l.toArray Q (λa' w'=>wpList P l.toArray Q (l.drop ks.length) a' w') ks (l.take ks.length) a S):(Vo id l.toArray aD).wp P Q a w:=by
 simp only[adj,eV,decide_eq_true_eq]at hB;obtain⟨⟨⟨⟨l6,hn⟩,hs⟩,hc⟩,NT⟩:=hB;have hn':ks.length<l.length:=by omega
 have htl:(l.take ks.length).length=ks.length:=by grind
 have UY:(l.drop ks.length).length=l.toArray.size-ks.length:=by simp
 have agR:HeadInv .any l.toArray ks.length (wQ l.toArray.size aE):=
  ⟨by simp,λj oj _ hl=>(by grind[getD_replicate_false]),λt _ ht=>getD_in (by simp_all) (getD_replicate_false _ _)⟩
 have H:=w9 (md:= .any) (g:=l.toArray.size-ks.length) l6 hs hc hn hQ ks (l.take ks.length) 0 _ a S iz htl (λj hj=>by
  simp_all) J agR NT h
 refine wp_region_any hm ?_;have:=CS (Q:=Q) (g:=l.toArray.size-ks.length) (λlisted a' w' hL=>by
  grind[wpAny_of_seq]) _ _ _ S w.drew hS H
 rw[show ks.length+(l.toArray.size-ks.length)=l.toArray.size by omega]at this;exact this
theorem dM{id:Nat}{a:Act}{w:World}{l:List Oper}(n:Nat)(ks:List Bool)(hn:ks.length=n)(hm:P.follows .mixedOrders=aD)(hB:adj .any l.toArray ks=aD)
 (hQ:∀c a d v w,Q (.panic c) (a.put d v) w->Q (.panic c) a w) (S:World->Prop) (iz:ji S) (hS:S w.drew)
 (h:UX P l.toArray Q (λa' w'=>wpList P l.toArray Q (l.drop n) a' w') ks (l.take n) a S):(Vo id l.toArray aD).wp P Q a w:=by
 grind[Fq]
section
variable{L:Act->World->Prop}{ks:List Bool}{o:Oper}{rest:List Oper}{a:Act}{S:World->Prop}
theorem aai{u:Value}(hw:kt o (yielded ops a.tmps)=aD)(h:∀w,S w->(execOp a.eval o).run P w= .ok (.value u) w)(hk:UX P ops Q L ks rest (a.put o.dst u) S):
 UX P ops Q L (true::ks) (o::rest) a S:=
 ⟨u,by rw[if_pos hw];intro w hS;unfold oz;rw[h w hS];exact⟨rfl,Gr.refl _⟩,hk⟩
theorem VV(hw:kt o (yielded ops a.tmps)=aE)(hk:UX P ops Q L ks rest (a.put o.dst undef) S):
 UX P ops Q L (true::ks) (o::rest) a S:=
 ⟨undef,by simp_all,hk⟩
theorem aaj{l:List Oper}(h:∀w,S w->L a w):UX P ops Q L [] l a S:=h
end
end
end dM
namespace bZ
open Go.RowKit cU dM
abbrev Fr:=List (Nat×Value)
def look:Fr->Nat->Option Value
 |[],_=>ak
 |(k,v)::r,i=>bif fw k i then aj v else look r i
structure nj(n:Nat)(a:Act)(fr:Fr):Prop where
 size:a.tmps.size=n
 defers:a.defers=[]
 get:∀i v,look fr i=aj v->a.tmps[i]?=aj v
theorem nj.put{n:Nat}{a:Act}{fr:Fr}(h:nj n a fr){d:Nat}(hd:dj d n=aD)(v:Value):nj n (a.put (aj d) v) ((d,v)::fr):=by
 have VW:d<n:=me hd;refine⟨by simp[qd,h.size],h.defers,λi u hi=>?_⟩;unfold look at hi;simp only[qd]
 cases e:fw d i
 ·rw[e]at hi
  rw[Array.getElem?_setIfInBounds_ne (H0 e)];exact h.get i u hi
 rw[e]at hi;obtain rfl:d=i:=kT e;simp only[cond_true,dr]at hi;subst hi;rw[Array.getElem?_setIfInBounds_self_of_lt (by rw[h.size];exact VW)]
theorem nj.tD{n:Nat}{a:Act}{fr:Fr}(h:nj n a fr)(v:Value):nj n (a.put ak v) fr:=h
def Kp:Fr->Fr->Prop
 |[],_=>True
 |(i,v)::r,fr=>look fr i=aj v/\Kp r fr
theorem VX{Fi fr:Fr}(h:Kp Fi fr){i:Nat}{v:Value}(hl:look Fi i=aj v):look fr i=aj v:=by
 induction Fi with
 |nil=>cases hl
 |cons x r ih=>
  obtain⟨k,u⟩:=x;unfold look at hl
  cases e:fw k i
  rw[e]at hl;exact ih h.2 hl;rw[e]at hl;obtain rfl:k=i:=kT e;simp only[cond_true,dr]at hl;subst hl;exact h.1
theorem nj.sub{n:Nat}{a:Act}{fr Fi:Fr}(h:nj n a fr)(hs:Kp Fi fr):nj n a Fi:=⟨h.size,h.defers,λi v hl=>h.get i v (VX hs hl)⟩
def ev(fr:Fr):Operand->Option Value
 | .tmp t=>look fr t
 | .const v=>aj v
 | .global g=>aj (aJ (aj ⟨g,0,ak⟩))
 | .func f=>aj (.func (.func f) #[] #[])
theorem nj.ev{n:Nat}{a:Act}{fr:Fr}(h:nj n a fr){x:Operand}{v:Value}(hx:ev fr x=aj v):a.eval x=v:=by
 cases x with
 |tmp t=>simp[HT,wP,h.get t v hx]
 |const u=>simp_all[bZ.ev,HT]
 |global g=>simp_all[bZ.ev,HT]
 |func f=>simp_all[bZ.ev,HT]
theorem nj.yield{n:Nat}{a:Act}{fr:Fr}(h:nj n a fr){ops:Array Oper}{j d:Nat}{v:Value}(hj:(ops[j]?).bind (·.dst)=aj d)(hl:look fr d=aj v):
 yielded ops a.tmps j=match v with| .bool b=>aj b|_=>none:=by
 unfold yielded;rw[hj];simp only[Option.bind_some,h.get d v hl]
 cases v<;>rfl
structure b_ where
 BH:Option Nat
 more:Nat->Prop
 holds:World->Prop
 lt:∀w,holds w->∀k,(BH=aj k\/more k)->k<w.heap.size
 stay:∀w w',holds w->w.heap.size<=w'.heap.size->(∀k,(BH=aj k\/more k)->w'.heap[k]?=w.heap[k]?)->holds w'
def b_.e9(o:b_)(k:Nat):Prop:=o.BH=aj k\/o.more k
def aP(g:Nat)(cs:Array Value)(T:TypeId):b_:=
 ⟨aj g,λ_=>False,λw=>w.heap[g]?=aj (.cells cs T (0,0)),λw h k hk=>by simp only[dr,or_false]at hk;subst hk;exact(jt.1 h).1,
  λw w' h _ hb=>by rw[hb g (.inl I)];exact h⟩
def a_(e:TypeId)(size:Nat)(v:Value)(n:Nat)(xs:List Value):b_:=
 ⟨v.ownBlock,λ_=>False,λw=>w.ownsRow 0 e size v n xs,λw h k hk=>(h.lt k (hk.elim id nK)).2,λw w' h _ hb=>by
  refine⟨h.1,?_⟩;rcases h.2 with hn|⟨g,cap,jM,rfl,B7,hg,rest⟩
  exact .inl hn;exact .inr ⟨g,cap,jM,rfl,B7,by rw[hb g (.inl I)];exact hg,rest⟩⟩
structure eA(p:Nat->Prop)(w:World)(L:List b_):Prop where
 all:∀(i:Nat) (o:b_),L[i]?=aj o->o.holds w/\∀k,o.e9 k->p k
 apart:∀(i j:Nat) (o o':b_),i≠j->L[i]?=aj o->L[j]?=aj o'->∀k,o.e9 k->¬o'.e9 k
abbrev mS(B:Nat)(w:World)(L:List b_):Prop:=eA (λk=>B<=k) w L
section
variable{p p':Nat->Prop}
theorem mS.nil(B:Nat)(w:World):mS B w []:=⟨λi o h=>by grind,λi j o o' _ h=>by simp⟩
theorem eA.nil(w:World):eA p w []:=⟨λi o h=>by grind,λi j o o' _ h=>by simp⟩
theorem eA.gr{w w':World}{L:List b_}(h:eA p w L)(hg:Gr w w'):eA p w' L:=
 ⟨λi o hi=>⟨o.stay w w' (h.all i o hi).1 hg.size λk hk=>hg.block k (o.lt w (h.all i o hi).1 k hk),(h.all i o hi).2⟩,h.apart⟩
theorem eA.mono{w:World}{L:List b_}(h:eA p w L)(hb:∀k,p k->p' k):eA p' w L:=
 ⟨λi o hi=>⟨(h.all i o hi).1,λk hk=>hb k ((h.all i o hi).2 k hk)⟩,h.apart⟩
theorem eA.one{w:World}{o:b_}(h:o.holds w)(hb:∀k,o.e9 k->p k):eA p w [o]:=
  ⟨λi o' hi=>by
    grind,
   λi j a b sM hi hj=>by
    grind⟩
theorem mS.one{B:Nat}{w:World}{o:b_}(h:o.holds w)(hb:∀k,o.BH=aj k->B<=k)(hmo:∀k,o.more k->B<=k:=by intro k hk;exact False.elim hk):mS B w [o]:=eA.one h λk hk=>hk.elim (hb k) (hmo k)
theorem eA.both{w:World}{L L':List b_}(h:eA p w L)(h':eA p w L')(ha:∀(i j:Nat) (o o':b_),L[i]?=aj o->L'[j]?=aj o'->∀k,o.e9 k->¬o'.e9 k):eA p w (L++L'):=by
 refine⟨λi o hi=>?_,λi j o o' sM hi hj=>?_⟩
 ·rw[VL]at hi
  split at hi;exact h.all i o hi;exact h'.all _ o hi
 intro k hk mT;rw[VL]at hi hj;split at hi<;>split at hj;exact h.apart i j o o' sM hi hj k hk mT;exact ha _ _ o o' hi hj k hk mT;exact ha _ _ o' o hj hi k mT hk;exact h'.apart (i-L.length) (j-L.length) o o' J hi hj k hk mT
theorem eA.pick{w:World}{L L':List b_}(h:eA p w L)(is:List Nat)(hn:is.Nodup)(hl:L'=is.filterMap λi=>L[i]?):eA p w L':=by
 subst hl
 induction is with
 |nil=>exact eA.nil _
 | cons i is ih=>
  rw[List.nodup_cons]at hn;have ih:=ih hn.2;have mem:∀j o,(is.filterMap λi=>L[i]?)[j]?=aj o->∃q∈is,L[q]?=aj o:=λj o hj=>by
   have:=kR hj;rw[List.mem_filterMap]at this;exact this
  cases e:L[i]? with
  |none=>simp_all
  | some o0=>
   rw[zS e];refine⟨λj o hj=>?_,λj j' o o' sM hj rB=>?_⟩
   ·match j,hj with
    |0,hj=>simp only[tu,dr]at hj;subst hj;exact h.all i _ e
    |j+1,hj=>exact ih.all j o (by simp_all)
   match j,j',hj,rB with
   |0,0,_,_=>omega
   | 0,j'+1,hj,rB=>
    simp only[tu,dr]at hj;subst hj;obtain⟨q,hq,CT⟩:=mem j' o' (by simp_all);exact h.apart i q _ o' (λe=>hn.1 (e▸hq)) e CT
   | j+1,0,hj,rB=>
    simp only[tu,dr]at rB;subst rB;obtain⟨q,hq,CT⟩:=mem j o (by simp_all);exact h.apart q i o _ (λe=>hn.1 (e▸hq)) CT e
   |j+1,j'+1,hj,rB=>exact ih.apart j j' o o' J (by simp_all) (by simp_all)
end
structure bR where
 w:World
 X:Nat->Prop
instance:Coe World bR:=⟨λw=>⟨w,λ_=>False⟩⟩
def bR.on(w:World)(L:List b_):bR:=⟨w,λk=>∃o∈L,o.e9 k⟩
def bR.may(W:bR)(k:Nat):Prop:=W.w.heap.size<=k\/W.X k
structure H5(W:bR)(w:World):Prop where
 os:w.os=W.w.os
 tape:w.tape=W.w.tape
 output:w.output=W.w.output
 size:W.w.heap.size<=w.heap.size
 block:∀k,k<W.w.heap.size->¬W.X k->w.heap[k]?=W.w.heap[k]?
structure Mem(W:bR)(L:List b_)(w:World):Prop where
 low:H5 W w
 owns:eA W.may w L
theorem Mem.start(W:World):Mem W [] W:=⟨⟨rfl,rfl,rfl,bm _,λ_ _ _=>rfl⟩,eA.nil _⟩
theorem H5.gr{W:bR}{w w':World}(h:H5 W w)(hg:Gr w w'):H5 W w':=
 ⟨hg.os.trans h.os,hg.tape.trans h.tape,hg.output.trans h.output,fv h.size hg.size,λk hk hx=>(hg.block k (jv hk h.size)).trans (h.block k hk hx)⟩
theorem Mem.below{W w:World}{L:List b_}(h:Mem W L w):Below W.heap.size W w:=⟨h.low.os,h.low.tape,h.low.output,h.low.size,λk hk=>h.low.block k hk id⟩
theorem Mem.acF{W w:World}{L:List b_}(h:Mem W L w):mS W.heap.size w L:=h.owns.mono λ_ hk=>hk.elim id nK
section
variable{W:bR}
theorem Mem.gr{w w':World}{L:List b_}(h:Mem W L w)(hg:Gr w w'):Mem W L w':=⟨h.low.gr hg,h.owns.gr hg⟩
theorem Mem.drew{w:World}{L:List b_}(h:Mem W L w):Mem W L w.drew:=h.gr (Gr.drew w)
theorem im(W:bR)(L:List b_):ji (Mem W L):=λ_ _ h k=>h.gr k
theorem Mem.pick{w:World}{L L':List b_}(h:Mem W L w)(is:List Nat)(hn:is.Nodup)(hl:L'=is.filterMap λi=>L[i]?):Mem W L' w:=⟨h.low,h.owns.pick is hn hl⟩
theorem Mem.append{w w':World}{L L':List b_}(h:Mem W L w)(hg:Gr w w')(h':mS w.heap.size w' L'):Mem W (L++L') w':=by
 have hsz:W.w.heap.size<=w.heap.size:=h.low.size;refine⟨h.low.gr hg,eA.both (h.owns.gr hg) (h'.mono λk hk=> .inl (fv hsz hk)) λi j o o' hi hj k hk mT=>?_⟩;have a1:=o.lt w (h.owns.all i o hi).1 k hk;have a2:w.heap.size<=k:=(h'.all _ o' hj).2 k mT;omega
theorem Mem.BI{w w':World}{L:List b_}(h:Mem W L w){i:Nat}{o o':b_}(hi:L[i]?=aj o)(hg:w.grownBy w' o.BH)(ho:o'.holds w')(hb:∀k,o'.BH=aj k->o.BH=aj k\/w.heap.size<=k)(hmo:∀k,o'.more k->o.e9 k:=by intro k hk;exact False.elim hk):Mem W (L.set i o') w':=by
 have hle:W.w.heap.size<=w.heap.size:=h.low.size;have hoB:=(h.owns.all i o hi).2;have hlen:i<L.length:=(dl.1 hi).1;have Nj:∀k,o'.e9 k->o.e9 k\/w.heap.size<=k:=λk hk=>hk.elim (λh=>(hb k h).imp .inl id) (λh=> .inl (hmo k h));refine⟨⟨hg.os.trans h.low.os,hg.tape.trans h.low.tape,hg.output.trans h.low.output,fv hle hg.size,λk hk hx=>?_⟩,?_,?_⟩
 ·rw[hg.block k (jv hk hle) λe=>(hoB k (.inl e.symm)).elim (λh=>by omega) hx]
  exact h.low.block k hk hx
 ·intro j q hj
  by_cases e:i=j
  ·subst e
   rw[qh hlen]at hj;simp only[dr]at hj;subst hj;exact⟨ho,λk hk=>(Nj k hk).elim (hoB k) (λh=> .inl (fv hle h))⟩
  rw[mb e]at hj;have h1:=h.owns.all j q hj;refine⟨q.stay w w' h1.1 hg.size λk hk=>hg.block k (q.lt w h1.1 k hk) λe'=>?_,h1.2⟩;exact h.owns.apart i j o q e hi hj k (.inl e'.symm) hk
 intro j j' q q' sM hj rB k hk mT
 by_cases e:i=j
 ·subst e
  rw[qh hlen]at hj;rw[mb sM]at rB;simp only[dr]at hj;subst hj;have h2:=(h.owns.all j' q' rB).1;rcases Nj k hk with h1|h1
  exact h.owns.apart i j' o q' sM hi rB k h1 mT;have:=q'.lt w h2 k mT;omega
 rw[mb e]at hj;have h2:=(h.owns.all j q hj).1
 by_cases e':i=j'
 ·subst e'
  rw[qh hlen]at rB;simp only[dr]at rB;subst rB;rcases Nj k mT with h1|h1
  exact h.owns.apart i j o q e hi hj k h1 hk;have:=q.lt w h2 k hk;omega
 rw[mb e']at rB;exact h.owns.apart j j' q q' sM hj rB k hk mT
theorem Mem.merge{w:World}{R:List b_}{o1 o2:b_}(o:b_)(h:Mem W ([o1,o2]++R) w)(hf:∀k,o.e9 k->o1.e9 k\/o2.e9 k)(hh:o1.holds w->o2.holds w->o.holds w):Mem W (R++[o]) w:=by
 have h1:=h.owns.all 0 o1 I;have h2:=h.owns.all 1 o2 I;refine⟨h.low,eA.both ⟨λi q hi=>h.owns.all (i+2) q (by simp_all),λi j q q' sM hi hj=>h.owns.apart (i+2) (j+2) q q' J (by simp_all) (by simp_all)⟩ (eA.one (hh h1.1 h2.1) λk hk=>(hf k hk).elim (h1.2 k) (h2.2 k)) ?_⟩;intro i j q q' hi hj k hk mT
 match j,hj with
 |0,hj=>
  simp only[tu,dr]at hj;subst hj;have pB:([o1,o2]++R)[i+2]?=aj q:=by simp_all
  rcases hf k mT with h3|h3
  exact h.owns.apart 0 (i+2) o1 q J I pB k h3 hk;exact h.owns.apart 1 (i+2) o2 q J I pB k h3 hk
 |j+1,hj=>grind
theorem Mem.get{w:World}{L:List b_}(h:Mem W L w){i:Nat}{o:b_}(hi:L[i]?=aj o):o.holds w:=(h.owns.all i o hi).1
theorem Mem.over{w:World}{L:List b_}(h:Mem W L w):Mem (bR.on w L) L w:=
 ⟨⟨rfl,rfl,rfl,bm _,λ_ _ _=>rfl⟩,λi o hi=>⟨(h.owns.all i o hi).1,λ_ hk=> .inr ⟨o,kR hi,hk⟩⟩,h.owns.apart⟩
theorem Mem.back{w w':World}{L R O:List b_}(h:Mem W (L++R) w)(h':Mem (bR.on w L) O w'):Mem W (R++O) w':=by
 have hle:W.w.heap.size<=w.heap.size:=h.low.size;have hL:∀o∈L,∀k,o.e9 k->W.may k:=λo ho k hk=>by
  obtain⟨i,hi⟩:=wW ho;exact(h.owns.all i o (by grind)).2 k hk
 have hR:∀(i:Nat) (o:b_),R[i]?=aj o->o.holds w/\(∀k,o.e9 k->W.may k)/\∀k,o.e9 k->k<w.heap.size/\¬(bR.on w L).X k:=λi o hi=>by
  have pB:(L++R)[L.length+i]?=aj o:=by grind
  have h1:=h.owns.all _ o pB;refine⟨h1.1,h1.2,λk hk=>⟨o.lt w h1.1 k hk,?_⟩⟩;rintro⟨q,hq,hqk⟩;obtain⟨j,hj⟩:=wW hq;have SB:=(dl.1 hj).1;exact h.owns.apart j (L.length+i) q o J (by grind) pB k hqk hk
 refine⟨⟨h'.low.os.trans h.low.os,h'.low.tape.trans h.low.tape,h'.low.output.trans h.low.output,fv hle h'.low.size,λk hk hx=>?_⟩,eA.both ⟨λi o hi=>?_,?_⟩ ?_ ?_⟩
 ·rw[h'.low.block k (jv hk hle) ?_]
  exact h.low.block k hk hx;rintro⟨o,ho,lf⟩;exact(hL o ho k lf).elim (λh=>by omega) hx
 ·obtain⟨h1,h2,h3⟩:=hR i o hi
  exact⟨o.stay w w' h1 h'.low.size λk hk=>h'.low.block k (h3 k hk).1 (h3 k hk).2,h2⟩
 ·intro i j o o' sM hi hj
  exact h.owns.apart (L.length+i) (L.length+j) o o' J (by grind) (by grind)
 exact h'.owns.mono λk hk=>hk.elim (λh1=> .inl (fv hle h1)) λ⟨o,ho,lf⟩=>hL o ho k lf;intro i j o o' hi hj k hk mT;obtain⟨h1,h2,h3⟩:=hR i o hi;rcases(h'.owns.all j o' hj).2 k mT with h4|h4
 ·have h4:w.heap.size<=k:=h4
  grind
 simp_all
end
theorem Mem.cell{W w:World}{L:List b_}(h:Mem W L w){p:Addr}{v:Value}(hp:W.cell? p=aj v):w.cell? p=aj v:=by
 rw[h.below.cell (nL W p hp)];exact hp
structure pC(W0:World)(W:bR):Prop where
 below:Below W0.heap.size W0 W.w
 free:∀k,k<W0.heap.size->¬W.X k
theorem pC.self(W:World):pC W W:=⟨Below.refl _ _,λ_ _=>id⟩
theorem pC.mem{W0:World}{W:bR}(ho:pC W0 W){L:List b_}{w:World}(h:Mem W L w):Below W0.heap.size W0 w:=
 ⟨h.low.os.trans ho.below.os,h.low.tape.trans ho.below.tape,h.low.output.trans ho.below.output,fv ho.below.size h.low.size,λk hk=>(h.low.block k (jv hk ho.below.size) (ho.free k hk)).trans (ho.below.block k hk)⟩
theorem pC.cell{W0:World}{W:bR}(ho:pC W0 W){L:List b_}{w:World}(h:Mem W L w){p:Addr}{v:Value}(hp:W0.cell? p=aj v):w.cell? p=aj v:=by
 rw[(ho.mem h).cell (nL W0 p hp)];exact hp
theorem pC.on{W0:World}{W:bR}(ho:pC W0 W){L L':List b_}{w:World}(h:Mem W L w)(hs:∀o∈L',o∈L):pC W0 (bR.on w L'):=
 ⟨ho.mem h,λk hk ⟨o,hm,hb⟩=>by
  obtain⟨i,hi⟩:=wW (hs o hm);rcases(h.owns.all i o hi).2 k hb with h1|h1
  ·have:=ho.below.size
   omega
  exact ho.free k hk h1⟩
end bZ
namespace bZ
open Go.RowKit cU dM
structure T(P:Program)(n:Nat)(W:bR)(c:Code)(Q:Exit->Act->World->Prop)(fr:Fr)(L:List b_):Prop where
 go:∀a w,nj n a fr->Mem W L w->c.wp P Q a w
structure E(n:Nat)(W:bR)(e:Exit)(Q:Exit->Act->World->Prop)(fr:Fr)(L:List b_):Prop where
 go:∀a w,nj n a fr->Mem W L w->Q e a w
structure TL(P:Program)(n:Nat)(W:bR)(ops:Array Oper)(Q:Exit->Act->World->Prop)(l:List Oper)(fr:Fr)(L:List b_):Prop where
 go:∀a w,nj n a fr->Mem W L w->wpList P ops Q l a w
structure RR(P:Program)(n:Nat)(W:bR)(o:Oper)(fr:Fr)(L:List b_)(v:Value):Prop where
 go:∀a w,nj n a fr->Mem W L w->(execOp a.eval o).run P w= .ok (.value v) w
structure Spec(ι:Type) where
 ok:ι->Prop
 val:ι->Value
 own:ι->List b_
def cz{ι:Type}(S:Spec ι)(w:World)(e:Ending)(w':World):Prop:=∃x,S.ok x/\e= .returned (S.val x)/\Gr w w'/\mS w.heap.size w' (S.own x)
def ret(v:Value):Spec Unit:=⟨λ_=>True,λ_=>v,λ_=>[]⟩
theorem SF{v:Value}{w w':World}{e:Ending}(h:e= .returned v)(hg:Gr w w'):cz (ret v) w e w':=⟨(),trivial,h,hg,mS.nil _ _⟩
theorem CU{v:Value}{w w':World}{e:Ending}(h:cz (ret v) w e w'):e= .returned v/\Gr w w':=let ⟨_,_,h1,h2,_⟩:=h;⟨h1,h2⟩
section
variable{P:Program}{n:Nat}{W:bR}{Q:Exit->Act->World->Prop}{fr:Fr}{L:List b_}
theorem b9{x y:Code}(h:T P n W x (Exit.then (y.wp P Q) Q) fr L):T P n W (x.seq y) Q fr L:= .mk λa w hr hm=>wp_seq (h.go a w hr hm)
theorem w_(h:E n W .normal Q fr L):T P n W .skip Q fr L:= .mk λa w hr hm=>wp_skip (h.go a w hr hm)
theorem xc{id:Nat}(h:E n W (.exit id) Q fr L):T P n W (.exit id) Q fr L:= .mk λa w hr hm=>wp_exit (h.go a w hr hm)
theorem yj(h:E n W .ret Q fr L):T P n W .ret Q fr L:= .mk λa w hr hm=>wp_ret (h.go a w hr hm)
theorem rQ{id:Nat}{c:Code}(h:T P n W c (tk id Q) fr L):T P n W (.block id c) Q fr L:= .mk λa w hr hm=>wp_block (h.go a w hr hm)
theorem H6{c:Operand}{x y:Code}(hc:ev fr c=aj (.bool aD))(h:T P n W x Q fr L):T P n W (.cond c x y) Q fr L:= .mk λa w hr hm=>wp_cond_true (hr.ev hc) (h.go a w hr hm)
theorem H7{c:Operand}{x y:Code}(hc:ev fr c=aj (.bool aE))(h:T P n W y Q fr L):T P n W (.cond c x y) Q fr L:= .mk λa w hr hm=>wp_cond_false (hr.ev hc) (h.go a w hr hm)
theorem adk{c:Code}{L':List b_}(is:List Nat)(hn:is.Nodup)(hl:L'=is.filterMap λi=>L[i]?)(h:T P n W c Q fr L'):T P n W c Q fr L:= .mk λa w hr hm=>h.go a w hr (hm.pick is hn hl)
theorem adl{e:Exit}{L':List b_}(is:List Nat)(hn:is.Nodup)(hl:L'=is.filterMap λi=>L[i]?)(h:E n W e Q fr L'):E n W e Q fr L:= .mk λa w hr hm=>h.go a w hr (hm.pick is hn hl)
theorem lH{y:Code}(h:T P n W y Q fr L):E n W .normal (Exit.then (y.wp P Q) Q) fr L:=⟨h.go⟩
theorem rR{id:Nat}{K:Act->World->Prop}(h:E n W (.exit id) Q fr L):E n W (.exit id) (Exit.then K Q) fr L:=⟨h.go⟩
theorem n9{K:Act->World->Prop}(h:E n W .ret Q fr L):E n W .ret (Exit.then K Q) fr L:=⟨h.go⟩
theorem oB{id:Nat}(h:E n W .normal Q fr L):E n W .normal (tk id Q) fr L:=⟨h.go⟩
theorem oC{id:Nat}(h:E n W .ret Q fr L):E n W .ret (tk id Q) fr L:=⟨h.go⟩
theorem nt{id:Nat}(h:E n W .normal Q fr L):E n W (.exit id) (tk id Q) fr L:= .mk λa w hr hm=>by
 show(if id=id then Q .normal a w else Q (.exit id) a w)
 rw[if_pos I];exact h.go a w hr hm
theorem nu{id id':Nat}(hne:fw id' id=aE)(h:E n W (.exit id') Q fr L):E n W (.exit id') (tk id Q) fr L:= .mk λa w hr hm=>by
 show(if id'=id then Q .normal a w else Q (.exit id') a w)
 rw[if_neg (H0 hne)];exact h.go a w hr hm
def Rnd{ι:Type}(n:Nat)(W:bR)(ah:ι->Prop)(F:ι->Fr)(M:ι->List b_)(μ:ι->Nat)(x:ι)(a:Act)(w:World):Prop:=∃x',ah x'/\μ x'<μ x/\nj n a (F x')/\Mem W (M x') w
def Mid{ι:Type}(n:Nat)(W:bR)(ah:ι->Prop)(F:ι->Fr)(M:ι->List b_)(a:Act)(w:World):Prop:=∃i,ah i/\nj n a (F i)/\Mem W (M i) w
theorem VY{x y:Code}{ι:Type}(ah:ι->Prop)(F:ι->Fr)(M:ι->List b_)
 (hx:T P n W x (Exit.then (Mid n W ah F M) Q) fr L) (hy:∀i,ah i->T P n W y Q (F i) (M i)):T P n W (x.seq y) Q fr L:= .mk λa w hr hm=>
 wp_seq (wp_mono (hx.go a w hr hm) λe a w h=>by
  cases e with
  |normal=>obtain⟨i,h1,h2,h3⟩:=h;exact(hy i h1).go a w h2 h3
  |_=>exact h)
theorem dJ{ι:Type}{ah:ι->Prop}{F:ι->Fr}{M:ι->List b_}(i:ι)(hi:ah i)(hf:Kp (F i) fr)(hl:L=M i):E n W .normal (Exit.then (Mid n W ah F M) Q) fr L:=
 ⟨λ_ _ hr hm=>⟨i,hi,hr.sub hf,hl▸hm⟩⟩
theorem nO{c:Code}{ι:Type}(ah:ι->Prop)(F:ι->Fr)(M:ι->List b_)(μ:ι->Nat)(x0:ι)(h0:ah x0)(hf:Kp (F x0) fr)(hl:L=M x0)
 (round:∀x,ah x->T P n W c (Exit.then (Rnd n W ah F M μ x) Q) (F x) (M x)):T P n W (.loop c) Q fr L:=by
 refine⟨λa w hr hm=>?_⟩;refine wp_loop_ghost (λk a w=>∃x,μ x=k/\ah x/\nj n a (F x)/\Mem W (M x) w) (μ x0) ⟨x0,rfl,h0,hr.sub hf,hl▸hm⟩ ?_;rintro k a w ⟨x,rfl,hi,hr,hm⟩;refine wp_mono ((round x hi).go a w hr hm) λe a w h=>?_
 cases e with
 |normal=>obtain⟨x',h1,h2,h3,h4⟩:=h;exact⟨μ x',h2,x',rfl,h1,h3,h4⟩
 |_=>exact h
theorem jy{ι:Type}{ah:ι->Prop}{F:ι->Fr}{M:ι->List b_}{μ:ι->Nat}{x:ι}(x':ι)(hi:ah x')(hμ:μ x'<μ x)(hf:Kp (F x') fr)(hl:L=M x'):
 E n W .normal (Exit.then (Rnd n W ah F M μ x) Q) fr L:=
 ⟨λ_ _ hr hm=>⟨x',hi,hμ,hr.sub hf,hl▸hm⟩⟩
theorem CV{fn:Func}{R:Ending->World->Prop}(h:∀a w,nj n a fr->Mem W L w->∃v,(results fn a.tmps).run P w= .ok v w/\R (.returned v) w):E n W .ret (bodyPost P fn R) fr L:=
 ⟨λa w hr hm=>⟨hr.defers,h a w hr hm⟩⟩
theorem cJ{fn:Func}{R:Ending->World->Prop}{t:Tmp}{v:Value}(ns:fn.results=#[.tmp t])(hv:look fr t=aj v)(h:∀w,Mem W L w->R (.returned v) w):E n W .ret (bodyPost P fn R) fr L:=
 CV λa w hr hm=>⟨v,by simp[results,ns,wP,hr.get t v hv],h w hm⟩
theorem rS{fn:Func}{R:Ending->World->Prop}{t u:Tmp}{v z:Value}(ns:fn.results=#[.tmp t,.tmp u])(hv:look fr t=aj v)(hz:look fr u=aj z)(h:∀w,Mem W L w->R (.returned (.tuple #[v,z])) w):E n W .ret (bodyPost P fn R) fr L:=
 CV λa w hr hm=>⟨_,by simp[results,ns,wP,hr.get t v hv,hr.get u z hz],h w hm⟩
theorem mU{fn:Func}{R:Ending->World->Prop}{t u s:Tmp}{v z y:Value}(ns:fn.results=#[.tmp t,.tmp u,.tmp s])(hv:look fr t=aj v)(hz:look fr u=aj z)(hy:look fr s=aj y)(h:∀w,Mem W L w->R (.returned (.tuple #[v,z,y])) w):E n W .ret (bodyPost P fn R) fr L:=
 CV λa w hr hm=>⟨_,by simp[results,ns,wP,hr.get t v hv,hr.get u z hz,hr.get s y hy],h w hm⟩
theorem Mem.meets{ι:Type}{S:Spec ι}{W w:World}(x:ι)(hm:Mem W L w)(hx:S.ok x)(is:List Nat)(hn:is.Nodup)(hl:S.own x=is.filterMap λi=>L[i]?):cz S W (.returned (S.val x)) w:=
 ⟨x,hx,rfl,hm.below,hm.acF.pick is hn hl⟩
theorem Mem.ret{v:Value}{W w:World}(hm:Mem W L w):cz (ret v) W (.returned v) w:=⟨(),trivial,rfl,hm.below,mS.nil _ _⟩
theorem dC{fn:Func}{W:World}{t:Tmp}{v v0:Value}(ns:fn.results=#[.tmp t])(hv:look fr t=aj v)(h:v=v0):E n W .ret (bodyPost P fn (cz (ret v0) W)) fr L:=by
 subst h;exact cJ ns hv λw hm=>hm.ret
def yl:Nat->List Value->Fr
 |_,[]=>[]
 |k,v::r=>(k,v)::yl (k+1) r
theorem rT:∀(vs:List Value) (k i:Nat) (v:Value),look (yl k vs) i=aj v->k<=i/\vs[i-k]?=aj v
 |[],_,_,_,h=>by cases h
 | u ::r,k,i,v,h=>by
  unfold yl look at h
  cases e:fw k i
  ·rw[e]at h
   have hne:=H0 e;obtain⟨h1,h2⟩:=rT r (k+1) i v h;refine⟨by omega,?_⟩;rw[show i-k=(i-(k+1))+1 by omega,CO];exact h2
  simp_all
theorem enter{w:World}{f:FuncId}{fn:Func}{c:Code}{args:List Value}{R:Ending->World->Prop}(hf:P.funcs[f]?=aj fn)(hb:fn.body=aj c)(hn:fn.ntmps=n)(hle:w4 args.length n=aD)
 (h:T P n w c (bodyPost P fn R) (yl 0 args) []):Calls P f args.toArray w R:=by
 have adm:args.length<=n:=me hle;refine calls_of_wp hf hb (h.go _ w ⟨?_,rfl,λi v hi=>?_⟩ (Mem.start w))
 simp_all
 ·obtain⟨_,h2⟩:=rT args 0 i v hi
  grind
theorem dA{B:bR}{w:World}{f:FuncId}{fn:Func}{c:Code}{args:List Value}{R:Ending->World->Prop}(hm:Mem B L w)(hf:P.funcs[f]?=aj fn)(hb:fn.body=aj c)(hn:fn.ntmps=n)(hle:w4 args.length n=aD)
 (h:T P n B c (bodyPost P fn R) (yl 0 args) L):Calls P f args.toArray w R:=by
 have adm:args.length<=n:=me hle;refine calls_of_wp hf hb (h.go _ w ⟨?_,rfl,λi v hi=>?_⟩ hm)
 simp_all
 ·obtain⟨_,h2⟩:=rT args 0 i v hi
  grind
section
variable{ops:Array Oper}{K:Act->World->Prop}{ks:List Bool}{o:Oper}{rest:List Oper}{v:Value}{d:Nat}
theorem bz{id:Nat}{l:List Oper}(h:TL P n W l.toArray Q l fr L):T P n W (.region id l.toArray aE) Q fr L:= .mk λa w hr hm=>wp_region_lit (h.go a w hr hm)
theorem ky(h:E n W .normal Q fr L):TL P n W ops Q [] fr L:= .mk λa w hr hm=>wpList_nil (h.go a w hr hm)
theorem pP{a:Act}(hg:o.guard=ak):kt o (yielded ops a.tmps)=true:=by simp[kt,hg]
theorem oD{a:Act}{j e:Nat}{b:Bool}(hr:nj n a fr)(hg:o.guard=aj (j,b))(hj:(ops[j]?).bind (·.dst)=aj e)(hl:look fr e=aj (.bool b)):kt o (yielded ops a.tmps)=true:=by
 simp[kt,hg,hr.yield hj hl]
def aak(b:Bool):Value->Bool
 | .bool c=>c !=b
 |_=>aD
theorem Ge{a:Act}{j e:Nat}{b:Bool}{u:Value}(hr:nj n a fr)(hg:o.guard=aj (j,b))(hj:(ops[j]?).bind (·.dst)=aj e)(hl:look fr e=aj u)(hu:aak b u=aD):kt o (yielded ops a.tmps)=false:=by
 simp only[kt,hg,hr.yield hj hl]
 cases u<;>first|rfl|(rename_i c;cases c<;>cases b<;>first|rfl|cases hu)
theorem du(hr:RR P n W o fr L v)(hg:o.guard=ak)(hd:o.dst=aj d)(hn:dj d n=aD)(h:TL P n W ops Q rest ((d,v)::fr) L):TL P n W ops Q (o::rest) fr L:= .mk λa w gL hm=>
 wpList_plain hg λK hK=>by
  unfold fM;rw[hr.go a w gL hm,Vz,hd];exact hK _ _ (h.go _ w (gL.put hn v) hm)
theorem QE{j e:Nat}{b:Bool}(hr:RR P n W o fr L v)(hg:o.guard=aj (j,b))(hj:(ops[j]?).bind (·.dst)=aj e)(hl:look fr e=aj (.bool b))(hd:o.dst=aj d)(hn:dj d n=aD)(h:TL P n W ops Q rest ((d,v)::fr) L):TL P n W ops Q (o::rest) fr L:= .mk λa w gL hm=>
 Vi (oD gL hg hj hl) λK hK=>by
  unfold fM;rw[hr.go a w gL hm,Vz,hd];exact hK _ _ (h.go _ w (gL.put hn v) hm)
theorem aal{j e:Nat}{b:Bool}{u:Value}(hg:o.guard=aj (j,b))(hj:(ops[j]?).bind (·.dst)=aj e)(hl:look fr e=aj u)(hu:aak b u=aD)(hd:o.dst=aj d)(hn:dj d n=aD)(h:TL P n W ops Q rest ((d,undef)::fr) L):TL P n W ops Q (o::rest) fr L:= .mk λa w gL hm=>
 wpList_skip (Ge gL hg hj hl hu) (by rw[hd];exact h.go _ w (gL.put hn undef) hm)
theorem tE{p:Prop}{inst:Decidable p}(hr:RR P n W o fr L (.bool (decide p)))(hg:o.guard=ak)(hd:o.dst=aj d)(hn:dj d n=aD)(ht:p->TL P n W ops Q rest ((d,.bool aD)::fr) L)(hf:¬p->TL P n W ops Q rest ((d,.bool aE)::fr) L):TL P n W ops Q (o::rest) fr L:=by
 by_cases h:p
 grind[du];exact du (by rwa [decide_eq_false h]at hr) hg hd hn (hf h)
theorem oE{p:Prop}{inst:Decidable p}{j e:Nat}{b:Bool}(hr:RR P n W o fr L (.bool (decide p)))(hg:o.guard=aj (j,b))(hj:(ops[j]?).bind (·.dst)=aj e)(hl:look fr e=aj (.bool b))(hd:o.dst=aj d)(hn:dj d n=aD)(ht:p->TL P n W ops Q rest ((d,.bool aD)::fr) L)(hf:¬p->TL P n W ops Q rest ((d,.bool aE)::fr) L):TL P n W ops Q (o::rest) fr L:=by
 by_cases h:p
 grind[QE];exact QE (by rwa [decide_eq_false h]at hr) hg hj hl hd hn (hf h)
theorem nj.aam{a:Act}{e:Nat}{v:Value}(h:nj n a fr)(hl:look fr e=aj v):nj n a ((e,v)::fr):=⟨h.size,h.defers,λi u hi=>by
 unfold look at hi
 cases c:fw e i
 rw[c]at hi;exact h.get i u hi;rw[c]at hi;obtain rfl:e=i:=kT c;simp only[cond_true,dr]at hi;subst hi;exact h.get e v hl⟩
theorem zX{j e:Nat}{b0 b:Bool}(_:o.guard=aj (j,b0))(_:(ops[j]?).bind (·.dst)=aj e)(hl:look fr e=aj (.bool b))(ht:b=aD->TL P n W ops Q (o::rest) ((e,.bool aD)::fr) L)(hf:b=aE->TL P n W ops Q (o::rest) ((e,.bool aE)::fr) L):TL P n W ops Q (o::rest) fr L:= .mk λa w hr hm=>by
 cases b
 exact(hf I).go a w (hr.aam hl) hm;exact(ht I).go a w (hr.aam hl) hm
theorem NU{j e:Nat}{b0:Bool}(_:o.guard=aj (j,b0))(_:(ops[j]?).bind (·.dst)=aj e)(_:look fr e=aj (.bool aD))(h:TL P n W ops Q (o::rest) fr L):TL P n W ops Q (o::rest) fr L:=h
theorem NV{j e:Nat}{b0:Bool}(_:o.guard=aj (j,b0))(_:(ops[j]?).bind (·.dst)=aj e)(_:look fr e=aj (.bool aE))(h:TL P n W ops Q (o::rest) fr L):TL P n W ops Q (o::rest) fr L:=h
theorem QF{c:Tmp}{x y:Code}{b:Bool}(hl:look fr c=aj (.bool b))(ht:b=aD->T P n W x Q ((c,.bool aD)::fr) L)(hf:b=aE->T P n W y Q ((c,.bool aE)::fr) L):T P n W (.cond (.tmp c) x y) Q fr L:= .mk λa w hr hm=>by
 cases b
 exact wp_cond_false (hr.ev (x:= .tmp c) hl) ((hf I).go a w (hr.aam hl) hm);exact wp_cond_true (hr.ev (x:= .tmp c) hl) ((ht I).go a w (hr.aam hl) hm)
theorem aW{f:FuncId}{args:Array Value}{ι:Type}{S:Spec ι}(he:∀a w,nj n a fr->(execOp a.eval o).run P w= .ok (.enter f args) w)(hc:∀w,Mem W L w->Calls P f args w (cz S w))(hg:o.guard=ak)(hd:o.dst=aj d)(hn:dj d n=aD)
 (h:∀x,S.ok x->TL P n W ops Q rest ((d,S.val x)::fr) (L++S.own x)):TL P n W ops Q (o::rest) fr L:= .mk λa w gL hm=>
 wpList_plain hg λK hK=>by
  unfold fM;rw[he a w gL,NE];refine(hc w hm).mono λe w' ⟨x,h1,h2,h3,h4⟩=>?_;subst h2;simp only[hd];exact hK _ _ ((h x h1).go _ w' (gL.put hn _) (hm.append h3 h4))
theorem mg{f:FuncId}{args:Array Value}{ι:Type}{S:Spec ι}{j e:Nat}{b:Bool}(he:∀a w,nj n a fr->(execOp a.eval o).run P w= .ok (.enter f args) w)(hc:∀w,Mem W L w->Calls P f args w (cz S w))(hg:o.guard=aj (j,b))(hj:(ops[j]?).bind (·.dst)=aj e)(hl:look fr e=aj (.bool b))(hd:o.dst=aj d)(hn:dj d n=aD)
 (h:∀x,S.ok x->TL P n W ops Q rest ((d,S.val x)::fr) (L++S.own x)):TL P n W ops Q (o::rest) fr L:= .mk λa w gL hm=>
 Vi (oD gL hg hj hl) λK hK=>by
  unfold fM;rw[he a w gL,NE];refine(hc w hm).mono λe w' ⟨x,h1,h2,h3,h4⟩=>?_;subst h2;simp only[hd];exact hK _ _ ((h x h1).go _ w' (gL.put hn _) (hm.append h3 h4))
def dc{ι:Type}(S:Spec ι)(B:bR)(e:Ending)(w':World):Prop:=∃x,S.ok x/\e= .returned (S.val x)/\Mem B (S.own x) w'
theorem Mem.cB{ι:Type}{S:Spec ι}{w:World}(x:ι)(hm:Mem W L w)(hx:S.ok x)(is:List Nat)(hn:is.Nodup)(hl:S.own x=is.filterMap λi=>L[i]?):dc S W (.returned (S.val x)) w:=
 ⟨x,hx,rfl,hm.pick is hn hl⟩
theorem xd{is js:List Nat}{Lx R:List b_}(hlx:Lx=is.filterMap λi=>L[i]?)(NW:R=js.filterMap λi=>L[i]?):Lx++R=(is++js).filterMap λi=>L[i]?:=by
 simp_all
theorem bx{f:FuncId}{args:Array Value}{ι:Type}{S:Spec ι}(is js:List Nat){Lx R:List b_}(hn2:(is++js).Nodup)(hlx:Lx=is.filterMap λi=>L[i]?)(NW:R=js.filterMap λi=>L[i]?)
 (he:∀a w,nj n a fr->(execOp a.eval o).run P w= .ok (.enter f args) w) (hc:∀w,Mem W L w->Mem (bR.on w Lx) Lx w->Calls P f args w (dc S (bR.on w Lx))) (hg:o.guard=ak) (hd:o.dst=aj d) (hn:dj d n=aD)
 (h:∀x,S.ok x->TL P n W ops Q rest ((d,S.val x)::fr) (R++S.own x)):TL P n W ops Q (o::rest) fr L:= .mk λa w gL hm=>
 wpList_plain hg λK hK=>by
  have VZ:Mem W (Lx++R) w:=hm.pick (is++js) hn2 (xd hlx NW);have hm3:Mem W Lx w:=hm.pick is (List.nodup_append.1 hn2).1 hlx;unfold fM;rw[he a w gL,NE];refine(hc w hm hm3.over).mono λe w' ⟨x,h1,h2,h3⟩=>?_;subst h2;simp only[hd];exact hK _ _ ((h x h1).go _ w' (gL.put hn _) (VZ.back h3))
theorem kz(hg:o.guard=ak)(h:∀a w,nj n a fr->Mem W L w->∀K:Act->World->Prop,(∀a w,wpList P ops Q rest a w->K a w)->o.wp P a w K Q):TL P n W ops Q (o::rest) fr L:= .mk λa w gL hm=>
 wpList_plain hg λK hK=>h a w gL hm K hK
theorem B8{q e:Nat}{b:Bool}(hg:o.guard=aj (q,b))(hj:(ops[q]?).bind (·.dst)=aj e)(hl:look fr e=aj (.bool b))(h:TL P n W ops Q ({o with guard:=ak}::rest) fr L):TL P n W ops Q (o::rest) fr L:= .mk λa w hr hm=>by
 have h1:=h.go a w hr hm;unfold wpList at h1⊢;rw[if_pos (pP I)]at h1;rw[if_pos (oD hr hg hj hl)];exact h1
end
end
end bZ
namespace bZ
open Go.RowKit cU dM
def str(l:List UInt8):Value:= .string ⟨l.toArray⟩
theorem V0(s:ByteArray):Value.string s=str s.data.toList:=by rfl
structure Ty(P:Program)(t:TypeId)(agg:Bool)(c:Nat):Prop where
 agg:∀w,(isAgg t).run P w= .ok agg w
 size:∀w,(sizeOf t).run P w= .ok c w
def tyB(P:Program)(t:TypeId)(agg:Bool)(c:Nat):Bool:=
 (match P.underlying t with|some (.struct _)=>agg|some (.array _ _)=>agg|some _=>!agg|none=>aE)&&(match P.info? t with|some i=>fw i.size c|none=>aE)
theorem Ty.of{P:Program}{t:TypeId}{agg:Bool}{c:Nat}(h:tyB P t agg c=aD):Ty P t agg c:=by
 unfold tyB at h;rw[eV]at h;obtain⟨h1,h2⟩:=h;refine⟨λw=>?_,λw=>?_⟩
 ·cases e:P.underlying t with
  |none=>simp_all
  |some d=>
   rw[e]at h1
   cases agg<;>cases d<;>simp_all[isAgg,run_underlying]
 cases e:P.info? t with
 |none=>simp_all
 |some i=>
  simp_all[sizeOf,typeInfo]
section
variable{P:Program}{n:Nat}{W:bR}{fr:Fr}{L:List b_}{dst:Option Tmp}{ty:TypeId}{pos:String}{after:Array Edge}{guard:Option (Nat×Bool)}
theorem vz{x:Operand}{v:Value}(hx:ev fr x=aj v):RR P n W ⟨dst,.move x,ty,pos,after,guard⟩ fr L v:= .mk λa w hr _=>by
 show NJ (Vx (a.eval x)) w=_;rw[hr.ev hx]
theorem SG{x:Operand}{v:Value}(hx:ev fr x=aj v):RR P n W ⟨dst,.assign x,ty,pos,after,guard⟩ fr L v:= .mk λa w hr _=>by
 show NJ (Vx (a.eval x)) w=_;rw[hr.ev hx]
theorem V1{c x y:Operand}{v:Value}(hc:ev fr c=aj (.bool aD))(hx:ev fr x=aj v):RR P n W ⟨dst,.pick c x y,ty,pos,after,guard⟩ fr L v:= .mk λa w hr _=>by
 simp[execOp,hr.ev hc,hr.ev hx,asBool]
theorem V2{c x y:Operand}{v:Value}(hc:ev fr c=aj (.bool aE))(hy:ev fr y=aj v):RR P n W ⟨dst,.pick c x y,ty,pos,after,guard⟩ fr L v:= .mk λa w hr _=>by
 simp[execOp,hr.ev hc,hr.ev hy,asBool]
theorem NX{t:Operand}{i:Nat}{vs:Array Value}{v:Value}(ht:ev fr t=aj (.tuple vs))(hv:vs[i]?=aj v):RR P n W ⟨dst,.extract t i,ty,pos,after,guard⟩ fr L v:= .mk λa w hr _=>by
 simp[execOp,hr.ev ht,Instr.extract,hv]
section
variable{t u:TypeId}{x y:Operand}{k:IntKind}{m m':Int}
theorem oF{op:BinOp}{v:Value}(hx:ev fr x=aj (.int k m))(hy:ev fr y=aj (.int k m'))(h:∀w,(binOp op t (.int k m) (.int k m')).run P w= .ok v w):RR P n W ⟨dst,.binOp op t x y u,ty,pos,after,guard⟩ fr L v:= .mk λa w hr _=>by
 have e:(eqGuard op t x y (.int k m) (.int k m')).run P w= .ok () w:=by
  simp[eqGuard]
 simp[execOp,hr.ev hx,hr.ev hy,e,h]
theorem adn(hx:ev fr x=aj (.int k m))(hy:ev fr y=aj (.int k m')):RR P n W ⟨dst,.binOp .add t x y u,ty,pos,after,guard⟩ fr L (.int k (k.wrap (m+m'))):=oF hx hy λw=>by simp[binOp,ND]
theorem ado(hx:ev fr x=aj (.int k m))(hy:ev fr y=aj (.int k m')):RR P n W ⟨dst,.binOp .sub t x y u,ty,pos,after,guard⟩ fr L (.int k (k.wrap (m-m'))):=oF hx hy λw=>by simp[binOp,ND]
theorem adp(hx:ev fr x=aj (.int k m))(hy:ev fr y=aj (.int k m')):RR P n W ⟨dst,.binOp .mul t x y u,ty,pos,after,guard⟩ fr L (.int k (k.wrap (m*m'))):=oF hx hy λw=>by simp[binOp,ND]
theorem nk{r:Int}(h0: -9223372036854775808<=r)(h1:r<=9223372036854775807):az.wrap r=r:=IntWalk.i64_in _ J
theorem eM{r:Int}(hx:ev fr x=aj (av az m))(hy:ev fr y=aj (av az m'))(h0: -9223372036854775808<=m+m')(h1:m+m'<=9223372036854775807)(hr:m+m'=r):RR P n W ⟨dst,.binOp .add t x y u,ty,pos,after,guard⟩ fr L (av az r):=by
 have:=adn (P:=P) (n:=n) (W:=W) (L:=L) (dst:=dst) (ty:=ty) (pos:=pos) (after:=after) (guard:=guard) (t:=t) (u:=u) hx hy;rwa [nk h0 h1,hr]at this
theorem eC{r:Int}(hx:ev fr x=aj (av az m))(hy:ev fr y=aj (av az m'))(h0: -9223372036854775808<=m-m')(h1:m-m'<=9223372036854775807)(hr:m-m'=r):RR P n W ⟨dst,.binOp .sub t x y u,ty,pos,after,guard⟩ fr L (av az r):=by
 have:=ado (P:=P) (n:=n) (W:=W) (L:=L) (dst:=dst) (ty:=ty) (pos:=pos) (after:=after) (guard:=guard) (t:=t) (u:=u) hx hy;rwa [nk h0 h1,hr]at this
theorem V3{r:Int}(hx:ev fr x=aj (av az m))(hy:ev fr y=aj (av az m'))(h0: -9223372036854775808<=m*m')(h1:m*m'<=9223372036854775807)(hr:m*m'=r):RR P n W ⟨dst,.binOp .mul t x y u,ty,pos,after,guard⟩ fr L (av az r):=by
 have:=adp (P:=P) (n:=n) (W:=W) (L:=L) (dst:=dst) (ty:=ty) (pos:=pos) (after:=after) (guard:=guard) (t:=t) (u:=u) hx hy;rwa [nk h0 h1,hr]at this
theorem dO{b:Bool}(hx:ev fr x=aj (.int k m))(hy:ev fr y=aj (.int k m'))(h:decide (m<m')=b):RR P n W ⟨dst,.binOp .lss t x y u,ty,pos,after,guard⟩ fr L (.bool b):=oF hx hy λw=>by simp[binOp,zO,<-h]
theorem zY{b:Bool}(hx:ev fr x=aj (.int k m))(hy:ev fr y=aj (.int k m'))(h:decide (m<=m')=b):RR P n W ⟨dst,.binOp .leq t x y u,ty,pos,after,guard⟩ fr L (.bool b):=oF hx hy λw=>by simp[binOp,zO,<-h]
theorem dP{b:Bool}(hx:ev fr x=aj (.int k m))(hy:ev fr y=aj (.int k m'))(h:decide (m'<m)=b):RR P n W ⟨dst,.binOp .gtr t x y u,ty,pos,after,guard⟩ fr L (.bool b):=oF hx hy λw=>by simp[binOp,zO,<-h]
theorem eN{b:Bool}(hx:ev fr x=aj (.int k m))(hy:ev fr y=aj (.int k m'))(h:decide (m'<=m)=b):RR P n W ⟨dst,.binOp .geq t x y u,ty,pos,after,guard⟩ fr L (.bool b):=oF hx hy λw=>by simp[binOp,zO,<-h]
theorem de{b:Bool}(hx:ev fr x=aj (.int k m))(hy:ev fr y=aj (.int k m'))(h:decide (m=m')=b):RR P n W ⟨dst,.binOp .eql t x y u,ty,pos,after,guard⟩ fr L (.bool b):=oF hx hy λw=>by
 simp_all[Vh,binOp,zO]
theorem dm{b:Bool}(hx:ev fr x=aj (.int k m))(hy:ev fr y=aj (.int k m'))(h:decide (m≠m')=b):RR P n W ⟨dst,.binOp .neq t x y u,ty,pos,after,guard⟩ fr L (.bool b):=oF hx hy λw=>by
 simp_all[bne,Vh,binOp,zO]
theorem H8{op:BinOp}{r:Int}(hop:op= .and\/op= .or\/op= .xor\/op= .andNot)(hx:ev fr x=aj (.int k m))(hy:ev fr y=aj (.int k m'))(h:bits op k m m'=r):RR P n W ⟨dst,.binOp op t x y u,ty,pos,after,guard⟩ fr L (.int k r):=oF hx hy λw=>by
 subst h;rcases hop with rfl|rfl|rfl|rfl<;>simp[binOp,Op.intBits,bits]
theorem Kq{op:BinOp}{k':IntKind}{v:Value}(hop:op= .shl\/op= .shr)(hx:ev fr x=aj (.int k m))(hy:ev fr y=aj (.int k' m'))(h:∀w,(il op k m k' m').run P w= .ok v w):RR P n W ⟨dst,.binOp op t x y u,ty,pos,after,guard⟩ fr L v:= .mk λa w hr _=>by
 have e:(eqGuard op t x y (.int k m) (.int k' m')).run P w= .ok () w:=by simp[eqGuard]
 rcases hop with rfl|rfl<;>simp[execOp,hr.ev hx,hr.ev hy,e,binOp,h]
theorem mV{r:Int}(hx:ev fr x=aj (.int k m))(hy:ev fr y=aj (.int k m'))(h:bits .and k m m'=r):RR P n W ⟨dst,.binOp .and t x y u,ty,pos,after,guard⟩ fr L (.int k r):=H8 (.inl I) hx hy h
theorem ym{r:Int}(hx:ev fr x=aj (.int k m))(hy:ev fr y=aj (.int k m'))(h:bits .or k m m'=r):RR P n W ⟨dst,.binOp .or t x y u,ty,pos,after,guard⟩ fr L (.int k r):=H8 (.inr (.inl I)) hx hy h
theorem CW{k':IntKind}{v:Value}(hx:ev fr x=aj (.int k m))(hy:ev fr y=aj (.int k' m'))(h:∀w,(il .shl k m k' m').run P w= .ok v w):RR P n W ⟨dst,.binOp .shl t x y u,ty,pos,after,guard⟩ fr L v:=Kq (.inl I) hx hy h
theorem oH{k':IntKind}{v:Value}(hx:ev fr x=aj (.int k m))(hy:ev fr y=aj (.int k' m'))(h:∀w,(il .shr k m k' m').run P w= .ok v w):RR P n W ⟨dst,.binOp .shr t x y u,ty,pos,after,guard⟩ fr L v:=Kq (.inr I) hx hy h
theorem iL{k':IntKind}{r:Int}(hs:P.underlying t=aj (.int k'))(hd:P.underlying u=aj (.int k))(hx:ev fr x=aj (.int k' m))(h:k.wrap m=r):RR P n W ⟨dst,.convert t u x,ty,pos,after,guard⟩ fr L (.int k r):= .mk λa w hr _=>by
 simp[execOp,hr.ev hx,convert,run_underlying hs,run_underlying hd,Conv.intToInt,h]
end
theorem H9{t:TypeId}{x:Operand}{b c:Bool}(hx:ev fr x=aj (.bool b))(h:(!b)=c):RR P n W ⟨dst,.unOp .not t x,ty,pos,after,guard⟩ fr L (.bool c):= .mk λa w hr _=>by
 subst h;simp[execOp,hr.ev hx,Op.unary]
theorem CX{t u:TypeId}{x y:Operand}{m m' r:Int}(hx:ev fr x=aj (av az m))(hy:ev fr y=aj (av az m'))(h:min m m'=r):RR P n W ⟨dst,.call {callee:= .builtin .min,args:=#[x,y],argTypes:=#[t,u]},ty,pos,after,guard⟩ fr L (av az r):= .mk λa w hr _=>by
 subst h;have h1:=hr.ev hx;have h2:=hr.ev hy;have e:(if m'<m then m' else m)=min m m':=by omega
 simp_all[lD,Vj,Vk,Vl]
theorem V4{t u:TypeId}{x y:Operand}{m m' r:Int}(hx:ev fr x=aj (av az m))(hy:ev fr y=aj (av az m'))(h:max m m'=r):RR P n W ⟨dst,.call {callee:= .builtin .max,args:=#[x,y],argTypes:=#[t,u]},ty,pos,after,guard⟩ fr L (av az r):= .mk λa w hr _=>by
 subst h;have h1:=hr.ev hx;have h2:=hr.ev hy;have e:(if m'>m then m' else m)=max m m':=by omega
 simp_all[lD,BigFrame.builtin_max,Builtin.max_,Builtin.max2]
theorem CY{t:TypeId}{a b:Bool}(ht:P.underlying t=aj .bool)(d:Nat)(w:World):(ox (d+1) t (.bool a) (.bool b)).run P w= .ok (a==b) w:=by simp[ox,run_underlying ht]
theorem Gf{t u:TypeId}{x y:Operand}{a b c:Bool}(ht:P.underlying t=aj .bool)(hx:ev fr x=aj (.bool a))(hy:ev fr y=aj (.bool b))(h:(a==b)=c):RR P n W ⟨dst,.binOp .eql t x y u,ty,pos,after,guard⟩ fr L (.bool c):= .mk λac w hr _=>by
 have e:(eqGuard .eql t x y (.bool a) (.bool b)).run P w= .ok () w:=rfl;have e2:(binOp .eql t (.bool a) (.bool b)).run P w= .ok (.bool c) w:=by
  show((HY t (.bool a) (.bool b))>>=λr=>pure (fN r)).run P w=_
  have:(HY t (.bool a) (.bool b)).run P w= .ok (a==b) w:=CY ht 9999 w;rw[mO,this,h];rfl
 simp[execOp,hr.ev hx,hr.ev hy,e,e2]
theorem SH{t u:TypeId}{x y:Operand}{a b c:Bool}(ht:P.underlying t=aj .bool)(hx:ev fr x=aj (.bool a))(hy:ev fr y=aj (.bool b))(h:(!(a==b))=c):RR P n W ⟨dst,.binOp .neq t x y u,ty,pos,after,guard⟩ fr L (.bool c):= .mk λac w hr _=>by
 have e:(eqGuard .neq t x y (.bool a) (.bool b)).run P w= .ok () w:=rfl;have e2:(binOp .neq t (.bool a) (.bool b)).run P w= .ok (.bool c) w:=by
  show((HY t (.bool a) (.bool b))>>=λr=>pure (fN (!r))).run P w=_
  have:(HY t (.bool a) (.bool b)).run P w= .ok (a==b) w:=CY ht 9999 w;rw[mO,this];show NJ (fN (!(a==b))) w=_
  rw[h]
 simp[execOp,hr.ev hx,hr.ev hy,e,e2]
section
variable{t u:TypeId}{x y:Operand}{l l':List UInt8}
theorem SI(ht:P.underlying t=aj .string)(hx:ev fr x=aj (str l)):RR P n W ⟨dst,.call {callee:= .builtin .len,args:=#[x],argTypes:=#[t]},ty,pos,after,guard⟩ fr L (av az l.length):= .mk λa w hr _=>by
 have QG:=hr.ev hx;unfold str at QG;have hsz:(th l.toArray).size=l.length:=dU;simp[lD,Ny,Vm,QG,run_underlying ht,goInt,hsz]
theorem adq(l:List UInt8):(th l.toArray).toList=l:=by
 simp
theorem oI{b:Bool}(hx:ev fr x=aj (str l))(hy:ev fr y=aj (str l'))(h:decide (l=l')=b):RR P n W ⟨dst,.binOp .eql t x y u,ty,pos,after,guard⟩ fr L (.bool b):= .mk λa w hr _=>by
 have e:(eqGuard .eql t x y (str l) (str l')).run P w= .ok () w:=rfl;have e2:(l==l')=b:=by grind
 unfold str at*;simp[execOp,hr.ev hx,hr.ev hy,e,binOp,Vy,e2]
theorem kA{b:Bool}(hx:ev fr x=aj (str l))(hy:ev fr y=aj (str l'))(h:decide (l≠l')=b):RR P n W ⟨dst,.binOp .neq t x y u,ty,pos,after,guard⟩ fr L (.bool b):= .mk λa w hr _=>by
 have e:(eqGuard .neq t x y (str l) (str l')).run P w= .ok () w:=rfl;have e2:(!(l==l'))=b:=by grind
 unfold str at*;simp[execOp,hr.ev hx,hr.ev hy,e,binOp,Vy,e2]
theorem Gg(hx:ev fr x=aj (str l))(hy:ev fr y=aj (str l'))(h:l.length+l'.length<=9223372036854775807):RR P n W ⟨dst,.binOp .add t x y u,ty,pos,after,guard⟩ fr L (str (l++l')):= .mk λa w hr _=>by
 have e:(eqGuard .add t x y (str l) (str l')).run P w= .ok () w:=rfl;have e2:=run_string_add_sum (P:=P) w ⟨l.toArray⟩ ⟨l'.toArray⟩ (by simp_all[HQ]);rw[adb]at e2;unfold str at*;simp[execOp,hr.ev hx,hr.ev hy,e,binOp,e2]
theorem vB{i:Int}{b:UInt8}{k:IntKind}(ht:P.underlying t=aj .string)(hx:ev fr x=aj (str l))(hy:ev fr y=aj (.int k i))(h0:0<=i)(h:l[i.toNat]?=aj b):RR P n W ⟨dst,.index t x y,ty,pos,after,guard⟩ fr L (.int .u8 b.toNat):= .mk λa w hr _=>by
 have hlt:=(dl.1 h).1;have e:(if 0<=i then(th l.toArray)[i.toNat]? else ak)=aj b:=by
  rw[if_pos h0];have hs:i.toNat<(th l.toArray).size:=by simp_all[HQ]
  rw[getElem?_pos (th l.toArray) i.toNat hs];have:=(dl.1 h).2;exact congrArg aj (by rw[<-this];rfl)
 unfold str at*;simp only[execOp,hr.ev hx,hr.ev hy,Vw,asIntOf,mO,oy,qf,run_underlying ht,e]
theorem tF{lo hi:Option Operand}{i j:Int}(ht:P.underlying t=aj .string)(hx:ev fr x=aj (str l))(QH:match lo with|none=>i=0|some z=>∃k,ev fr z=aj (.int k i))(SJ:match hi with|none=>j=l.length|some z=>∃k,ev fr z=aj (.int k j))
 (h0:0<=i) (h1:i<=j) (h2:j<=l.length):RR P n W ⟨dst,.slice t x lo hi ak,ty,pos,after,guard⟩ fr L (str ((l.take j.toNat).drop i.toNat)):= .mk λa w hr _=>by
 have hsz:(th l.toArray).size=l.length:=by rfl
 have ex:∀p q,(th l.toArray).extract p q=⟨((l.take q).drop p).toArray⟩:=λp q=>by
  apply ac';simp[ada,List.extract_eq_take_drop,NN]
 have h2':j<=((th l.toArray).size:Int):=by omega
 have h0j:0<=j:=by omega
 have ej:(j.toNat:Int)=j:=Int.toNat_of_nonneg h0j;unfold str at*
 cases lo<;>cases hi
 ·simp only at QH SJ
  subst QH SJ;simp[execOp,hr.ev hx,rI,rJ,run_underlying ht,rH]
 ·obtain⟨k,hk⟩:=SJ
  simp only at QH;subst QH;simp[execOp,hr.ev hx,hr.ev hk,rI,rJ,run_underlying ht,rH,run_sliceBound,ex,hsz,h0j,h2]
 ·obtain⟨k,hk⟩:=QH
  simp only at SJ;subst SJ;simp[execOp,hr.ev hx,hr.ev hk,rI,rJ,run_underlying ht,rH,run_sliceBound,ex,hsz,h0,h1]
 ·obtain⟨k,hk⟩:=QH
  obtain⟨k',mT⟩:=SJ;have h1':i<=(j.toNat:Int):=by omega
  have hb:=λc=>run_sliceBound (P:=P) w k i j.toNat c h0 h1';simp[execOp,hr.ev hx,hr.ev hk,hr.ev mT,rI,rJ,run_underlying ht,rH,run_sliceBound w k' j,hb,ex,hsz,h0j,h2]
theorem CZ{z:Operand}{k:IntKind}{i:Nat}(ht:P.underlying t=aj .string)(hx:ev fr x=aj (str l))(hz:ev fr z=aj (.int k (i:Int)))(h:i<=l.length):RR P n W ⟨dst,.slice t x (aj z) ak ak,ty,pos,after,guard⟩ fr L (str (l.drop i)):=by
 have:=tF (P:=P) (n:=n) (W:=W) (fr:=fr) (L:=L) (dst:=dst) (ty:=ty) (pos:=pos) (after:=after) (guard:=guard) (lo:=aj z) (hi:=ak) (i:=(i:Int)) (j:=(l.length:Int)) ht hx ⟨k,hz⟩ I J J J
 simp_all
theorem NY{z:Operand}{k:IntKind}{j:Nat}(ht:P.underlying t=aj .string)(hx:ev fr x=aj (str l))(hz:ev fr z=aj (.int k (j:Int)))(h:j<=l.length):RR P n W ⟨dst,.slice t x ak (aj z) ak,ty,pos,after,guard⟩ fr L (str (l.take j)):=by
 have:=tF (P:=P) (n:=n) (W:=W) (fr:=fr) (L:=L) (dst:=dst) (ty:=ty) (pos:=pos) (after:=after) (guard:=guard) (lo:=ak) (hi:=aj z) (i:=0) (j:=(j:Int)) ht hx I ⟨k,hz⟩ J J J
 simp_all
theorem SK{z z':Operand}{k k':IntKind}{i j:Nat}(ht:P.underlying t=aj .string)(hx:ev fr x=aj (str l))(hz:ev fr z=aj (.int k (i:Int)))(hz':ev fr z'=aj (.int k' (j:Int)))(h0:i<=j)(h:j<=l.length):RR P n W ⟨dst,.slice t x (aj z) (aj z') ak,ty,pos,after,guard⟩ fr L (str ((l.drop i).take (j-i))):=by
 have:=tF (P:=P) (n:=n) (W:=W) (fr:=fr) (L:=L) (dst:=dst) (ty:=ty) (pos:=pos) (after:=after) (guard:=guard) (lo:=aj z) (hi:=aj z') (i:=(i:Int)) (j:=(j:Int)) ht hx ⟨k,hz⟩ ⟨k',hz'⟩ J J J
 simp_all[NN]
end
end
end bZ
namespace bZ
open Go.RowKit cU dM
section
variable{P:Program}{n:Nat}{W:bR}{fr:Fr}{L:List b_}{dst:Option Tmp}{ty:TypeId}{pos:String}{after:Array Edge}{guard:Option (Nat×Bool)}
def At(W:bR)(L:List b_)(p:Addr)(v:Value):Prop:=∀w,Mem W L w->w.cell? p=aj v
theorem jX{W:World}{p:Addr}{v:Value}(h:W.cell? p=aj v):At W L p v:=λ_ hm=>hm.cell h
theorem iw{W0:World}{p:Addr}{v:Value}(ho:pC W0 W)(h:W0.cell? p=aj v):At W L p v:=λ_ hm=>ho.cell hm h
theorem aH{i g off:Nat}{cs:Array Value}{T:TypeId}{v:Value}(hi:L[i]?=aj (aP g cs T))(hv:cs[off]?=aj v):At W L ⟨g,off,ak⟩ v:=λw hm=>by
 rw[cell_of_row w g off cs T (0,0) (hm.get hi)];exact hv
theorem jY{i g off size cap m k:Nat}{e:TypeId}{xs:List Value}{v:Value}(hi:L[i]?=aj (a_ e size (ap (aj ⟨g,0,ak⟩) m cap) k xs))(hv:xs[off]?=aj v):At W L ⟨g,off,ak⟩ v:=λw hm=>by
 have h:w.ownsRow 0 e size (ap (aj ⟨g,0,ak⟩) m cap) k xs:=hm.get hi;have:=h.cells (g:=g) I off v hv
 simp_all[eB]
theorem iD{W:World}{b off j:Nat}{xs:List Value}{v:Value}(h:Rd W b off xs)(hv:xs[j]?=aj v):At W L ⟨b,off+j,ak⟩ v:=jX (h j v hv)
theorem aC{t:TypeId}{x:Operand}{p:Addr}{c:Nat}{v:Value}(hT:Ty P t aE c)(hx:ev fr x=aj (aJ (aj p)))(h:At W L p v):RR P n W ⟨dst,.load t x,ty,pos,after,guard⟩ fr L v:= .mk λa w hr hm=>by
 simp[execOp,hr.ev hx,Vv,wU,loadVar,hT.agg,h w hm]
theorem a8{t:TypeId}{x:Operand}{b off c:Nat}{cs:List Value}(hT:Ty P t aD c)(hx:ev fr x=aj (aJ (aj ⟨b,off,ak⟩)))(hl:cs.length=c)(h:∀j v,cs[j]?=aj v->At W L ⟨b,off+j,ak⟩ v):RR P n W ⟨dst,.load t x,ty,pos,after,guard⟩ fr L (aQ cs.toArray):= .mk λa w hr hm=>by
 subst hl;have:=run_loadCells_list (P:=P) w ⟨b,off,ak⟩ cs λj v hj=>by rw[eB];exact h j v hj w hm
 simp[execOp,hr.ev hx,Vv,wU,loadVar,hT.agg,hT.size,this]
theorem aO{t:TypeId}{x:Operand}{i g c:Nat}{cs:Array Value}{T:TypeId}(hT:Ty P t aD c)(hx:ev fr x=aj (aJ (aj ⟨g,0,ak⟩)))(hi:L[i]?=aj (aP g cs T))(hl:cs.size=c):RR P n W ⟨dst,.load t x,ty,pos,after,guard⟩ fr L (.agg cs):=by
 have:=a8 (P:=P) (n:=n) (W:=W) (L:=L) (dst:=dst) (ty:=ty) (pos:=pos) (after:=after) (guard:=guard) (cs:=cs.toList) hT hx J λj v hj=>by rw[cV];exact aH hi (by simpa using hj)
 omega
theorem V5{W:World}{α:Type}{f:α->Value}{b off j:Nat}{l:List α}(h:Rd W b off (l.map f))(hj:j<l.length):At W L ⟨b,off+j,ak⟩ (f l[j]):=iD h (by grind)
structure Fld(P:Program)(s:TypeId)(f o:Nat):Prop where
 run:∀(a:Addr) w,(Vt s (aJ (aj a)) f).run P w= .ok (aJ (aj (a.add o))) w
def ae6(P:Program)(s:TypeId)(f o:Nat):Bool:=
 match P.underlying s with
 |some (.struct fs)=>(match fs[f]? with|some d=>fw d.offset o&&(match P.info? d.type with|some i=>!(fw i.size 0)|none=>aE)|none=>aE)
 |_=>aE
theorem Fld.of{P:Program}{s:TypeId}{f o:Nat}(h:ae6 P s f o=aD):Fld P s f o:=by
 unfold ae6 at h
 cases e:P.underlying s with
 |none=>simp_all
 | some d=>
  rw[e]at h
  cases d<;>try (cases h;done)
  rename_i fs
  simp only at h
  cases e2:fs[f]? with
  |none=>simp_all
  | some d=>
   rw[e2]at h;simp only[eV]at h;obtain⟨h1,h2⟩:=h;obtain rfl:=kT h1
   cases e3:P.info? d.type with
   |none=>simp_all
   | some i=>
    rw[e3]at h2;simp only[CH]at h2;have:=H0 h2;exact⟨λa w=>by simp_all[Vt,run_underlying,wU,fieldPlace,sizeOf,typeInfo]⟩
theorem Kr{s:TypeId}{x:Operand}{f o b off r:Nat}(hf:Fld P s f o)(hx:ev fr x=aj (aJ (aj ⟨b,off,ak⟩)))(hr:off+o=r):RR P n W ⟨dst,.fieldAddr s x f,ty,pos,after,guard⟩ fr L (aJ (aj ⟨b,r,ak⟩)):= .mk λa w h _=>by
 subst hr;simp[execOp,h.ev hx,hf.run,eB]
theorem V6{t e:TypeId}{x y:Operand}{agg:Bool}{c b off len cap r:Nat}{k:IntKind}{i:Int}(ht:P.underlying t=aj (.slice e))(he:Ty P e agg c)(hx:ev fr x=aj (ap (aj ⟨b,off,ak⟩) len cap))(hy:ev fr y=aj (.int k i))(h0:0<=i)(h1:i<len)(hr:off+i.toNat*c=r):
 RR P n W ⟨dst,.indexAddr t x y,ty,pos,after,guard⟩ fr L (aJ (aj ⟨b,r,ak⟩)):= .mk λa w h _=>by
 subst hr;simp[execOp,h.ev hx,h.ev hy,Vu,asIntOf,run_underlying ht,he.size,h0,h1,eB]
theorem bY{t e:TypeId}{x y:Operand}{agg:Bool}{b off len cap j:Nat}{k:IntKind}(ht:P.underlying t=aj (.slice e))(he:Ty P e agg 1)(hx:ev fr x=aj (ap (aj ⟨b,off,ak⟩) len cap))(hy:ev fr y=aj (.int k (j:Int)))(h1:j<len):
 RR P n W ⟨dst,.indexAddr t x y,ty,pos,after,guard⟩ fr L (aJ (aj ⟨b,off+j,ak⟩)):=V6 ht he hx hy J J (by simp)
theorem aX{t e:TypeId}{x y:Operand}{agg:Bool}{c b off len cap j:Nat}{k:IntKind}(ht:P.underlying t=aj (.slice e))(he:Ty P e agg c)(hx:ev fr x=aj (ap (aj ⟨b,off,ak⟩) len cap))(hy:ev fr y=aj (.int k (j:Int)))(h1:j<len):
 RR P n W ⟨dst,.indexAddr t x y,ty,pos,after,guard⟩ fr L (aJ (aj ⟨b,off+j*c,ak⟩)):=V6 ht he hx hy J J (by simp)
theorem aan{t e:TypeId}{x y:Operand}{agg:Bool}{c b off len r:Nat}{k:IntKind}{i:Int}(ht:P.underlying t=aj (.array len e))(he:Ty P e agg c)(hx:ev fr x=aj (aJ (aj ⟨b,off,ak⟩)))(hy:ev fr y=aj (.int k i))(h0:0<=i)(h1:i<len)(hr:off+i.toNat*c=r):
 RR P n W ⟨dst,.indexAddr t x y,ty,pos,after,guard⟩ fr L (aJ (aj ⟨b,r,ak⟩)):= .mk λa w h _=>by
 subst hr;simp[execOp,h.ev hx,h.ev hy,Vu,asIntOf,run_underlying ht,he.size,h0,h1,eB,wU]
theorem gY{t e:TypeId}{x y:Operand}{agg:Bool}{b off len j:Nat}{k:IntKind}(ht:P.underlying t=aj (.array len e))(he:Ty P e agg 1)(hx:ev fr x=aj (aJ (aj ⟨b,off,ak⟩)))(hy:ev fr y=aj (.int k (j:Int)))(h1:j<len):
 RR P n W ⟨dst,.indexAddr t x y,ty,pos,after,guard⟩ fr L (aJ (aj ⟨b,off+j,ak⟩)):=aan ht he hx hy J J (by simp)
theorem jj{t e:TypeId}{x y:Operand}{len j:Nat}{k:IntKind}{cs:Array Value}{v:Value}(ht:P.underlying t=aj (.array len e))(he:Ty P e aE 1)(hx:ev fr x=aj (.agg cs))(hy:ev fr y=aj (.int k (j:Int)))(h1:j<len)(hv:cs[j]?=aj v):
 RR P n W ⟨dst,.index t x y,ty,pos,after,guard⟩ fr L v:= .mk λa w h _=>by
 have h0:(0:Int)<=(j:Int)/\(j:Int)<(len:Int):=by omega
 simp[execOp,h.ev hx,h.ev hy,Vw,asIntOf,run_underlying ht,he.size,h1,part,he.agg,hv]
theorem NZ{t e:TypeId}{x:Operand}{p:Option Addr}{m cap:Nat}(ht:P.underlying t=aj (.slice e))(hx:ev fr x=aj (ap p m cap)):RR P n W ⟨dst,.call {callee:= .builtin .len,args:=#[x],argTypes:=#[t]},ty,pos,after,guard⟩ fr L (av az m):= .mk λa w hr _=>by
 have QG:=hr.ev hx;simp[lD,Ny,Vm,QG,run_underlying ht,goInt]
theorem eR{t e e':TypeId}{x:Operand}{i size m:Nat}{v:Value}{xs:List Value}(ht:P.underlying t=aj (.slice e))(hi:L[i]?=aj (a_ e' size v m xs))(hx:ev fr x=aj v):RR P n W ⟨dst,.call {callee:= .builtin .len,args:=#[x],argTypes:=#[t]},ty,pos,after,guard⟩ fr L (av az m):= .mk λa w hr hm=>by
 have h:w.ownsRow 0 e' size v m xs:=hm.get hi;rcases h.2 with⟨rfl,rfl⟩|⟨g,cap,jM,rfl,_⟩
 exact(NZ (P:=P) (W:=W) (L:=L) ht hx).go a w hr hm;exact(NZ (P:=P) (W:=W) (L:=L) ht hx).go a w hr hm
def SlL(W:bR)(L:List b_)(v:Value)(m:Nat)(xs:List Value):Prop:=∀w,Mem W L w->Sl w v m xs
theorem adr{W:World}{v:Value}{m:Nat}{xs:List Value}(h:Sl W v m xs):SlL W L v m xs:=λw hm=>by
 obtain⟨base,cap,h1,h2,h3,h4⟩:=h;exact⟨base,cap,h1,h2,h3,λhn=>let ⟨b,off,h5,h6⟩:=h4 hn;⟨b,off,h5,λj u hj=>hm.cell (h6 j u hj)⟩⟩
theorem lI{i size m:Nat}{e:TypeId}{v:Value}{xs:List Value}(hi:L[i]?=aj (a_ e size v m xs)):SlL W L v m xs:=λ_ hm=>Sl.dy (hm.get hi)
section
variable{Q:Exit->Act->World->Prop}{ops:Array Oper}{rest:List Oper}{d:Nat}
theorem bQ{t:TypeId}{x:Operand}{v:Value}{cs:Array Value}(hx:ev fr x=aj v)(hv:v.cells=cs)(hn:dj d n=aD)(h:∀g,TL P n W ops Q rest ((d,aJ (aj ⟨g,0,ak⟩))::fr) (L++[aP g cs t])):
 TL P n W ops Q (⟨aj d,.box t x,ty,pos,after,ak⟩::rest) fr L:=kz I λa w hr hm K hK=>by
 subst hv;have e:(execOp a.eval ⟨aj d,.box t x,ty,pos,after,ak⟩).run P w= .ok (.value (aJ (aj ⟨w.heap.size,0,ak⟩))) (w.alloc (.cells v.cells t)):=by
  simp[execOp,hr.ev hx,Instr.box,newVar,newRow]
 unfold fM;rw[e];exact hK _ _ ((h w.heap.size).go _ _ (hr.put hn _) (hm.append (SL w _) (mS.one (heap_alloc_new w _) λk hk=>by simp_all[aP])))
where
 SL (w:World) (o:Obj):Gr w (w.alloc o):=(Below.refl _ _).alloc (bm _) _
theorem nv(w:World)(o:Obj):Gr w (w.alloc o):=(Below.refl _ _).alloc (bm _) _
theorem V7{t:TypeId}{i:TypeInfo}{z:Value}{cs:Array Value}(hi:P.info? t=aj i)(hz:i.zero=aj z)(hv:z.cells=cs)(hn:dj d n=aD)(h:∀g,TL P n W ops Q rest ((d,aJ (aj ⟨g,0,ak⟩))::fr) (L++[aP g cs t])):
 TL P n W ops Q (⟨aj d,.alloc t,ty,pos,after,ak⟩::rest) fr L:=kz I λa w hr hm K hK=>by
 subst hv;have e:(execOp a.eval ⟨aj d,.alloc t,ty,pos,after,ak⟩).run P w= .ok (.value (aJ (aj ⟨w.heap.size,0,ak⟩))) (w.alloc (.cells z.cells t)):=by
  simp[execOp,Instr.alloc,zeroValue,typeInfo,hi,hz,newVar,newRow]
 unfold fM;rw[e];exact hK _ _ ((h w.heap.size).go _ _ (hr.put hn _) (hm.append (nv w _) (mS.one (heap_alloc_new w _) λk hk=>by simp_all[aP])))
theorem N1{t e:TypeId}{m:Nat}{parts:Array (Nat×Operand)}{cs:Array Value}(hrun:∀a w,nj n a fr->(tm t m (parts.map λ(i,x)=>(i,a.eval x))).run P w= .ok (ap (aj ⟨w.heap.size,0,ak⟩) m m) (w.alloc (.cells cs e)))(hn:dj d n=aD)
 (h:∀g,TL P n W ops Q rest ((d,ap (aj ⟨g,0,ak⟩) m m)::fr) (L++[aP g cs e])):
 TL P n W ops Q (⟨aj d,.buildSlice t m parts,ty,pos,after,ak⟩::rest) fr L:=kz I λa w hr hm K hK=>by
 have e':(execOp a.eval ⟨aj d,.buildSlice t m parts,ty,pos,after,ak⟩).run P w= .ok (.value (ap (aj ⟨w.heap.size,0,ak⟩) m m)) (w.alloc (.cells cs e)):=by
  simp_all[execOp]
 unfold fM;rw[e'];exact hK _ _ ((h w.heap.size).go _ _ (hr.put hn _) (hm.append (nv w _) (mS.one (heap_alloc_new w _) λk hk=>by simp_all[aP])))
theorem V8{t e:TypeId}{i:TypeInfo}{z v:Value}{c:Nat}(ht:P.underlying t=aj (.slice e))(hi:P.info? e=aj i)(hz:i.zero=aj z)(hc:i.size=c)(hzc:z.cells.size=c)(hv:v.cells.size=c)(h0:0<c)(hs:c<=16777216)(w:World):
 (tm t 1 #[(0,v)]).run P w= .ok (ap (aj ⟨w.heap.size,0,ak⟩) 1 1) (w.alloc (.cells v.cells e)):=by
 have tG:ju (λi=>aj (i*c,c)) ((CF (1*c)).map (z.cells[· %z.cells.size]!)) [(0,v)]=aj v.cells:=by
  simp only[ju,hv,wZ,cV,Array.size_map,Array.size_range,tA];rw[if_neg (by simp)]
  congr 1
  have key:∀(l:List Value) (k:Nat) (acc:Array Value),k+l.length=acc.size->(l.zipIdx k).foldl (λcs (x:Value×Nat)=>cs.setIfInBounds (0+x.2) x.1) acc=(acc.toList.take k++l).toArray:=by
   intro l
   induction l with
   | nil=>
    simp_all[gK]
   | cons x l ih=>
    intro k acc h;simp only[c_]at h;rw[HZ,List.foldl_cons,ih (k+1) _ (by grind)];simp only[cV,HP]
    grind
  have:=key v.cells.toList 0 ((CF c).map (z.cells[· %z.cells.size]!)) (by grind)
  simp only[nM,eJ,CD]at this;rw[<-Array.foldl_toList]
  simpa[Array.toList_zipIdx]using this
 have hne:¬(1*c>2^24):=by omega
 have V9:¬(1*c=0):=by omega
 simp only[tm,mO,run_underlying ht,qf,sizeOf,typeInfo,run_program,hi,oy,hc,zeroValue,hz,if_neg hne,if_neg V9,tG,newRow];simp[newRow]
theorem aao{t e:TypeId}{x:Operand}{i:TypeInfo}{z v:Value}{c:Nat}{cs:Array Value}(ht:P.underlying t=aj (.slice e))(hi:P.info? e=aj i)(hz:i.zero=aj z)(hc:i.size=c)(hzc:z.cells.size=c)(hx:ev fr x=aj v)(hcs:v.cells=cs)(hv:cs.size=c)(h0:0<c)(hs:c<=16777216)(hn:dj d n=aD)
 (h:∀g,TL P n W ops Q rest ((d,ap (aj ⟨g,0,ak⟩) 1 1)::fr) (L++[aP g cs e])):TL P n W ops Q (⟨aj d,.buildSlice t 1 #[(0,x)],ty,pos,after,ak⟩::rest) fr L:=by
 subst hcs;exact N1 (λa w hr=>by simpa[hr.ev hx]using V8 ht hi hz hc hzc hv h0 hs w) hn h
theorem nP{t ty e:TypeId}{i:TypeInfo}{z:Value}{size bytes:Nat}(ht:P.underlying t=aj (.slice e))(hi:P.info? e=aj i)(hz:i.zero=aj z)(nw:i.size=size)(Nk:i.bytes=bytes)(N2:z.cells.size=size)(hsz:0<size)(w:World)
 {v:Value} {m:Nat} {xs:List Value} (mf:w.ownsRow 0 e size v m xs) {a:Addr} {k c:Nat} {news:List Value} (hl:news.length=k*size) (A4:∀j u,news[j]?=aj u->w.cell? (a.add j)=aj u) (h1:∀u∈news,u.oneCell'=aD)
 (qM:m+k<=maxLen) (H_:(m+k)*bytes<=140737488355328):
 ∃v' w',(tj #[t,t] ty #[v,ap (aj a) k c]).run P w= .ok v' w'/\w'.ownsRow 0 e size v' (m+k) (xs++news)/\w.grownBy w' v.ownBlock/\(∀q,v'.ownBlock=aj q->v.ownBlock=aj q\/w.heap.size<=q):=by
 obtain⟨v',w',hr,h2,h3,h4⟩:=run_append_own (P:=P) w 0 t ty e i z size bytes ht hi hz nw Nk N2 hsz v m xs mf a k c news hl A4 h1 qM H_ (bH _);refine⟨v',w',hr,h2,h3,λq hq=>?_⟩;have ae7:((m+k:Nat):Int)<=9223372036854775807:=by grind[maxLen]
 rcases mf.2 with⟨rfl,rfl⟩|⟨g,cap,jM,rfl,BJ,hg,hnc,Ks,hcs,yo⟩
 ·by_cases hk:k=0
  simp_all;have vC:=run_append_nil (P:=P) w t ty e i z ht hi hz a k c news (by simp_all) A4 J J (by grind);rw[hr]at vC;injection vC with e1 _
  subst e1;simp only[rM,dr]at hq;exact .inr J
 ·by_cases hroom:m+k<=cap
  ·have Fs:m*i.size+news.length<=jM.size:=by rw[hl,hcs,nw,<-jh];exact rO _ hroom
   have vC:=run_append_room (P:=P) w t ty e i ht hi g m cap jM hg a k c news (by simp_all) A4 h1 hroom Fs;rw[hr]at vC;injection vC with e1 _
   subst e1;exact .inl hq
  have holds:∀j u,xs[j]?=aj u->w.cell? ((⟨g,0,ak⟩:Addr).add j)=aj u:=mf.cells (g:=g) I;have vC:=run_append_grow (P:=P) w t ty e i z ht hi hz ⟨g,0,ak⟩ m cap xs (by rw[nw];exact mf.1) holds a k c news (by simp_all) A4 J J (growslice_fits J (by simp_all));rw[hr]at vC;injection vC with e1 _
  subst e1;simp only[rM,dr]at hq;exact .inr J
structure El(P:Program)(t e:TypeId)(size bytes:Nat):Prop where
 ex:∃i z,P.underlying t=aj (.slice e)/\P.info? e=aj i/\i.zero=aj z/\i.size=size/\i.bytes=bytes/\z.cells.size=size/\0<size
def elB(P:Program)(t e:TypeId)(size bytes:Nat):Bool:=
 (match P.underlying t with|some (.slice e')=>fw e' e|_=>aE)&&(match P.info? e with|some i=>fw i.size size&&fw i.bytes bytes&&(match i.zero with|some z=>fw z.cells.size size|none=>aE)|none=>aE)&&dj 0 size
theorem El.of{t e:TypeId}{size bytes:Nat}(h:elB P t e size bytes=aD):El P t e size bytes:=by
 unfold elB at h;simp only[eV]at h;obtain⟨⟨h1,h2⟩,h3⟩:=h
 cases e1:P.underlying t with
 |none=>simp_all
 | some d=>
  rw[e1]at h1
  cases d<;>try (cases h1;done)
  rename_i e'
  obtain rfl:=kT h1
  cases e2:P.info? e' with
  |none=>simp_all
  | some i=>
   rw[e2]at h2;simp only[eV]at h2;obtain⟨⟨h4,h5⟩,h6⟩:=h2
   cases e3:i.zero with
   |none=>simp_all
   | some z=>
    rw[e3]at h6;exact⟨i,z,e1,e2,e3,kT h4,kT h5,kT h6,me h3⟩
theorem SM{t e:TypeId}{s x:Operand}{i size bytes m k c:Nat}{v:Value}{xs ys:List Value}{a:Addr}(sW:El P t e size bytes)(hi:L[i]?=aj (a_ e size v m xs))(hs:ev fr s=aj v)(hx:ev fr x=aj (ap (aj a) k c))
 (hy:∀j u,ys[j]?=aj u->At W L (a.add j) u) (hl:ys.length=k*size) (h1:∀u∈ys,u.oneCell'=aD) (qM:m+k<=140737488355328) (hb:(m+k)*bytes<=140737488355328) (hn:dj d n=aD)
 (h:∀v',TL P n W ops Q rest ((d,v')::fr) (L.set i (a_ e size v' (m+k) (xs++ys)))):
 TL P n W ops Q (⟨aj d,.call {callee:= .builtin .append,args:=#[s,x],argTypes:=#[t,t]},ty,pos,after,ak⟩::rest) fr L:=kz I λact w hr hm K hK=>by
 obtain⟨inf,z,ht,yp,hz,nw,Nk,N2,hsz⟩:=sW.ex;obtain⟨v',w',hrun,h2,h3,h4⟩:=nP (ty:=ty) (c:=c) ht yp hz nw Nk N2 hsz w (hm.get hi:w.ownsRow 0 e size v m xs) hl (λj u hj=>hy j u hj w hm) h1 (by grind[maxLen]) hb;have e':(execOp act.eval ⟨aj d,.call {callee:= .builtin .append,args:=#[s,x],argTypes:=#[t,t]},ty,pos,after,ak⟩).run P w= .ok (.value v') w':=by
  simp only[lD,rG,NK,gd,qk,hr.ev hs,hr.ev hx,mO,hrun,qf,oy]
 unfold fM;rw[e'];exact hK _ _ ((h v').go _ _ (hr.put hn _) (hm.BI hi h3 h2 h4))
theorem H'{t e:TypeId}{s x:Operand}{i size bytes m k c:Nat}{v:Value}{xs ys:List Value}{p:Addr}{act:Act}{w:World}(sW:El P t e size bytes)(hi:L[i]?=aj (a_ e size v m xs))(hs:ev fr s=aj v)(hx:ev fr x=aj (ap (aj p) k c))
 (hy:∀j u,ys[j]?=aj u->w.cell? (p.add j)=aj u) (hl:ys.length=k*size) (h1:∀u∈ys,u.oneCell'=aD) (qM:m+k<=140737488355328) (hb:(m+k)*bytes<=140737488355328) (hn:dj d n=aD)
 (h:∀v',TL P n W ops Q rest ((d,v')::fr) (L.set i (a_ e size v' (m+k) (xs++ys)))) (hr:nj n act fr) (hm:Mem W L w):
 wpList P ops Q (⟨aj d,.call {callee:= .builtin .append,args:=#[s,x],argTypes:=#[t,t]},ty,pos,after,ak⟩::rest) act w:=by
 refine wpList_plain I λK hK=>?_;obtain⟨inf,z,ht,yp,hz,nw,Nk,N2,hsz⟩:=sW.ex;obtain⟨v',w',hrun,h2,h3,h4⟩:=nP (ty:=ty) (c:=c) ht yp hz nw Nk N2 hsz w (hm.get hi:w.ownsRow 0 e size v m xs) hl hy h1 (by grind[maxLen]) hb;have e':(execOp act.eval ⟨aj d,.call {callee:= .builtin .append,args:=#[s,x],argTypes:=#[t,t]},ty,pos,after,ak⟩).run P w= .ok (.value v') w':=by
  simp only[lD,rG,NK,gd,qk,hr.ev hs,hr.ev hx,mO,hrun,qf,oy]
 unfold fM;rw[e'];exact hK _ _ ((h v').go _ _ (hr.put hn _) (hm.BI hi h3 h2 h4))
theorem N3{t e:TypeId}{s x:Operand}{i size bytes m c:Nat}{v:Value}{xs:List Value}(sW:El P t e size bytes)(hi:L[i]?=aj (a_ e size v m xs))(hs:ev fr s=aj v)(hx:ev fr x=aj (ap ak 0 c))(hn:dj d n=aD)
 (h:TL P n W ops Q rest ((d,v)::fr) L):
 TL P n W ops Q (⟨aj d,.call {callee:= .builtin .append,args:=#[s,x],argTypes:=#[t,t]},ty,pos,after,ak⟩::rest) fr L:=kz I λact w hr hm K hK=>by
 obtain⟨inf,z,ht,yp,hz,nw,Nk,N2,hsz⟩:=sW.ex;have mf:w.ownsRow 0 e size v m xs:=hm.get hi;have e':(execOp act.eval ⟨aj d,.call {callee:= .builtin .append,args:=#[s,x],argTypes:=#[t,t]},ty,pos,after,ak⟩).run P w= .ok (.value v) w:=by
  rcases mf.2 with⟨rfl,rfl⟩|⟨g,cap,jM,rfl,BJ,hg,hnc,Ks,hcs,yo⟩
  simp[lD,rG,hr.ev hs,hr.ev hx,tj,run_underlying ht,sizeOf,typeInfo,yp,zK,CJ];simp[lD,rG,hr.ev hs,hr.ev hx,tj,run_underlying ht,sizeOf,typeInfo,yp,zK,CJ,loadCells,hnc,storeCells]
 unfold fM;rw[e'];exact hK _ _ (h.go _ _ (hr.put hn _) hm)
theorem tH{t:TypeId}{p x:Operand}{i g off c:Nat}{cs cs':Array Value}{T:TypeId}{agg:Bool}{v:Value}(hT:Ty P t agg c)(hi:L[i]?=aj (aP g cs T))(hp:ev fr p=aj (aJ (aj ⟨g,off,ak⟩)))(hx:ev fr x=aj v)(hv:v.cells.size=c)(h1:v.cells.toList.all eQ=aD)
 (Fs:off+c<=cs.size) (hcs:cs'=(cs.toList.take off++v.cells.toList++cs.toList.drop (off+c)).toArray) (h:TL P n W ops Q rest fr (L.set i (aP g cs' T))):
 TL P n W ops Q (⟨ak,.store t p x,ty,pos,after,ak⟩::rest) fr L:=kz I λact w hr hm K hK=>by
 have hg:w.heap[g]?=aj (.cells cs T (0,0)):=hm.get hi;have hst:=run_storeCells_at P g off T v.cells.toList 0 cs w hg (by simp_all) (qj.1 h1);simp only[jw,lC,hv]at hst;rw[<-hcs]at hst;have e':(execOp act.eval ⟨ak,.store t p x,ty,pos,after,ak⟩).run P w= .ok .skip (w.setRow g cs'):=by
  simp[execOp,hr.ev hp,hr.ev hx,NA,wU,storeVar,hT.size,hv,hst]
 unfold fM;rw[e'];exact hK _ _ (h.go _ _ (hr.tD undef) (hm.BI hi ⟨rfl,rfl,rfl,by simp,λk _ hk=>setRow_other w g k _ (λe=>hk (by subst e;rfl))⟩ (setRow_heap w g cs _ T _ hg) λk hk=> .inl hk))
theorem lW{t:TypeId}{p x:Operand}{i g off c size cap m k:Nat}{xs:List Value}{e:TypeId}{v:Value}(hT:Ty P t aE c)(hi:L[i]?=aj (a_ e size (ap (aj ⟨g,0,ak⟩) m cap) k xs))(hp:ev fr p=aj (aJ (aj ⟨g,off,ak⟩)))(hx:ev fr x=aj v)(hv:v.cells=#[v])(hc:c=1)(h1:v.oneCell'=aD)
 (Fs:off<xs.length) (h:TL P n W ops Q rest fr (L.set i (a_ e size (ap (aj ⟨g,0,ak⟩) m cap) k (xs.set off v)))):
 TL P n W ops Q (⟨ak,.store t p x,ty,pos,after,ak⟩::rest) fr L:=kz I λact w hr hm K hK=>by
 subst hc;have mf:w.ownsRow 0 e size (ap (aj ⟨g,0,ak⟩) m cap) k xs:=hm.get hi;have ae8:=mf;rcases mf.2 with⟨h0,_⟩|⟨g',Fp,jM,he,BJ,hg,hnc,Ks,hcs,yo⟩
 grind
 simp only[iT,dr,Nw,and_true]at he;obtain⟨rfl,rfl,rfl⟩:=he;have hlen:xs.length=m*size:=mf.1;have ae9:off<jM.size:=by grind
 have hst:=run_storeCells_at P g off e [v] 0 jM w hg (by grind) (by simp_all);simp only[jw,List.length_singleton]at hst;have sX:jM.toList.take off++[v]++jM.toList.drop (off+1)=jM.toList.set off v:=by
  simp_all[CN]
 rw[sX]at hst;have e':(execOp act.eval ⟨ak,.store t p x,ty,pos,after,ak⟩).run P w= .ok .skip (w.setRow g (jM.toList.set off v).toArray):=by
  simp[execOp,hr.ev hp,hr.ev hx,NA,wU,storeVar,hT.size,hv,hst]
 unfold fM;rw[e'];refine hK _ _ (h.go _ _ (hr.tD undef) (hm.BI hi ⟨rfl,rfl,rfl,by simp,λk _ hk=>setRow_other w g k _ (λe=>hk (by subst e;rfl))⟩ ?_ λk hk=> .inl hk));refine⟨by simp_all,.inr ⟨g,cap,_,rfl,BJ,setRow_heap w g jM _ e _ hg,hnc,Ks,by grind,?_⟩⟩;simp only[List.take_set];rw[yo]
theorem SN{t u e:TypeId}{x:Operand}{m:Nat}{v:Value}{l:List UInt8}(ht:P.underlying t=aj (.slice e))(he:P.underlying e=aj (.int .u8))(hu:P.underlying u=aj .string)(hx:ev fr x=aj v)(hm:m=l.length)(h:SlL W L v m (l.map VU)):RR P n W ⟨dst,.convert t u x,ty,pos,after,guard⟩ fr L (str l):= .mk λa w hr sY=>by
 subst hm;have QG:=hr.ev hx;obtain⟨base,cap,rfl,_,_,eL⟩:=h w sY;have e':(convert t u (ap base l.length cap)).run P w= .ok (str l) w:=by
  cases l with
  |nil=>
   cases base with
   |none=>simp[convert,run_underlying ht,run_underlying hu,run_underlying he,Vp,str];rfl
   |some p=>simp[convert,run_underlying ht,run_underlying hu,run_underlying he,Vp,str,loadCells,loadCellsFrom];rfl
  |cons b l=>
   obtain⟨g,off,rfl,hh⟩:=eL (by simp);exact Kl ht he hu I hh
 simp_all[execOp]
end
def Enters(P:Program)(f:FuncId):Prop:=∀args w,(callFunc f args).run P w= .ok (.enter f args) w
def QI(P:Program)(f:FuncId):Bool:=match P.funcs[f]? with|some fn=>fn.body.isSome&&!(fn.name== "runtime.NumGoroutine")|none=>aE
theorem Enters.of{f:FuncId}(h:QI P f=aD):Enters P f:=by
 unfold QI at h
 cases e:P.funcs[f]? with
 |none=>simp_all
 |some fn=>
  rw[e]at h;simp only[eV,CH]at h;intro args w;have h1:¬fn.body=none:=λhb=>by simp_all
  simp_all[callFunc]
section
variable{f:FuncId}{ts:Array TypeId}{cl x1 x2 x3 x4 x5:Operand}{v1 v2 v3 v4 v5:Value}{first cap:Array Value}
theorem he0(hf:Enters P f)(hc:ev fr cl=aj (.func (.func f) #[] #[])):∀a w,nj n a fr->(execOp a.eval ⟨dst,.call {callee:= .value cl,args:=#[],argTypes:=ts},ty,pos,after,guard⟩).run P w= .ok (.enter f #[]) w:=λa w hr=>by
 have B5:∀args w,(callFunc f args).run P w= .ok (.enter f args) w:=hf;simp[execOp,resolve,hr.ev hc,zM,invoke,B5]
theorem iM(hf:Enters P f)(hc:ev fr cl=aj (.func (.func f) #[] #[]))(h1:ev fr x1=aj v1):∀a w,nj n a fr->(execOp a.eval ⟨dst,.call {callee:= .value cl,args:=#[x1],argTypes:=ts},ty,pos,after,guard⟩).run P w= .ok (.enter f #[v1]) w:=λa w hr=>by
 have B5:∀args w,(callFunc f args).run P w= .ok (.enter f args) w:=hf;simp[execOp,resolve,hr.ev hc,hr.ev h1,zM,invoke,B5]
theorem fI(hf:Enters P f)(hc:ev fr cl=aj (.func (.func f) #[] #[]))(h1:ev fr x1=aj v1)(h2:ev fr x2=aj v2):∀a w,nj n a fr->(execOp a.eval ⟨dst,.call {callee:= .value cl,args:=#[x1,x2],argTypes:=ts},ty,pos,after,guard⟩).run P w= .ok (.enter f #[v1,v2]) w:=λa w hr=>by
 have B5:∀args w,(callFunc f args).run P w= .ok (.enter f args) w:=hf;simp[execOp,resolve,hr.ev hc,hr.ev h1,hr.ev h2,zM,invoke,B5]
theorem sZ(hf:Enters P f)(hc:ev fr cl=aj (.func (.func f) #[] #[]))(h1:ev fr x1=aj v1)(h2:ev fr x2=aj v2)(h3:ev fr x3=aj v3):∀a w,nj n a fr->(execOp a.eval ⟨dst,.call {callee:= .value cl,args:=#[x1,x2,x3],argTypes:=ts},ty,pos,after,guard⟩).run P w= .ok (.enter f #[v1,v2,v3]) w:=λa w hr=>by
 have B5:∀args w,(callFunc f args).run P w= .ok (.enter f args) w:=hf;simp[execOp,resolve,hr.ev hc,hr.ev h1,hr.ev h2,hr.ev h3,zM,invoke,B5]
theorem SO(hf:Enters P f)(hc:ev fr cl=aj (.func (.func f) #[] #[]))(h1:ev fr x1=aj v1)(h2:ev fr x2=aj v2)(h3:ev fr x3=aj v3)(h4:ev fr x4=aj v4):∀a w,nj n a fr->(execOp a.eval ⟨dst,.call {callee:= .value cl,args:=#[x1,x2,x3,x4],argTypes:=ts},ty,pos,after,guard⟩).run P w= .ok (.enter f #[v1,v2,v3,v4]) w:=λa w hr=>by
 have B5:∀args w,(callFunc f args).run P w= .ok (.enter f args) w:=hf;simp[execOp,resolve,hr.ev hc,hr.ev h1,hr.ev h2,hr.ev h3,hr.ev h4,zM,invoke,B5]
theorem BK(hf:Enters P f)(hc:ev fr cl=aj (.func (.func f) first cap))(h1:ev fr x1=aj v1):∀a w,nj n a fr->(execOp a.eval ⟨dst,.call {callee:= .value cl,args:=#[x1],argTypes:=ts},ty,pos,after,guard⟩).run P w= .ok (.enter f (first++#[v1]++cap)) w:=λa w hr=>by
 have B5:∀args w,(callFunc f args).run P w= .ok (.enter f args) w:=hf;simp[execOp,resolve,hr.ev hc,hr.ev h1,zM,invoke,B5]
end
end
end bZ
namespace bZ
open Go.RowKit cU dM
class bL(P:Program)(t:TypeId)(d:outParam TypeDesc):Prop where
 eq:P.underlying t=aj d
class aK(P:Program)(t:TypeId)(agg:outParam Bool)(c:outParam Nat):Prop where
 ty:Ty P t agg c:=by exact Ty.of (by kernel_rfl)
class bJ(P:Program)(t:TypeId)(f:Nat)(o:outParam Nat):Prop where
 fld:Fld P t f o:=by exact Fld.of (by kernel_rfl)
class qN(P:Program)(t:TypeId)(e:outParam TypeId)(size bytes:outParam Nat):Prop where
 el:El P t e size bytes:=by exact El.of (by kernel_rfl)
class aI(P:Program)(f:FuncId):Prop where
 en:Enters P f:=by exact Enters.of (by kernel_rfl)
class bT(P:Program)(t:TypeId)(cs:outParam (Array Value)):Prop where
 zero:(P.info? t).map (λi=>i.zero.map Value.cells)=aj (aj cs):=by kernel_rfl
section
variable{P:Program}{n:Nat}{W:bR}{fr:Fr}{L:List b_}{Q:Exit->Act->World->Prop}{ops:Array Oper}{rest:List Oper}{d:Nat}{ty:TypeId}{pos:String}{after:Array Edge}
theorem bT.ex{t:TypeId}{cs:Array Value}[h:bT P t cs]:∃i z,P.info? t=aj i/\i.zero=aj z/\z.cells=cs:=by
 have h1:=h.zero
 simp_all
theorem aY{t:TypeId}{cs:Array Value}[bT P t cs](hn:dj d n=aD)(h:∀g,TL P n W ops Q rest ((d,aJ (aj ⟨g,0,ak⟩))::fr) (L++[aP g cs t])):
 TL P n W ops Q (⟨aj d,.alloc t,ty,pos,after,ak⟩::rest) fr L:=by
 obtain⟨i,z,h1,h2,h3⟩:=bT.ex (P:=P) (t:=t);exact V7 h1 h2 h3 hn h
theorem fy{t e:TypeId}{x:Operand}{v:Value}{c bytes:Nat}{cs:Array Value}[sW:qN P t e c bytes](hx:ev fr x=aj v)(hcs:v.cells=cs)(hv:cs.size=c)(hs:w4 c 16777216=aD)(hn:dj d n=aD)
 (h:∀g,TL P n W ops Q rest ((d,ap (aj ⟨g,0,ak⟩) 1 1)::fr) (L++[aP g cs e])):TL P n W ops Q (⟨aj d,.buildSlice t 1 #[(0,x)],ty,pos,after,ak⟩::rest) fr L:=by
 obtain⟨inf,z,ht,yp,hz,nw,Nk,N2,hsz⟩:=sW.el.ex;exact aao ht yp hz nw N2 hx hcs hv hsz (me hs) hn h
theorem Mem.N4{w:World}(e:TypeId)(size:Nat)(h:Mem W L w):Mem W (L++[a_ e size (ap ak 0 0) 0 []]) w:=
 h.append (Gr.refl w) (mS.one (World.ownsRow_nil _ _ _ _) λk hk=>by cases hk)
theorem ja{c:Code}(e:TypeId)(size:Nat)(h:T P n W c Q fr (L++[a_ e size (ap ak 0 0) 0 []])):T P n W c Q fr L:=⟨λa w hr hm=>h.go a w hr (hm.N4 e size)⟩
theorem vD(e:TypeId)(size:Nat)(h:TL P n W ops Q rest fr (L++[a_ e size (ap ak 0 0) 0 []])):TL P n W ops Q rest fr L:=⟨λa w hr hm=>h.go a w hr (hm.N4 e size)⟩
theorem aap{L':List b_}(is:List Nat)(hn:is.Nodup)(hl:L'=is.filterMap λi=>L[i]?)(h:TL P n W ops Q rest fr L'):TL P n W ops Q rest fr L:=⟨λa w hr hm=>h.go a w hr (hm.pick is hn hl)⟩
theorem mh{t e:TypeId}{s x:Operand}{i q g size bytes m:Nat}{v:Value}{xs:List Value}{cs:Array Value}{T:TypeId}[sW:qN P t e size bytes](hi:L[i]?=aj (a_ e size v m xs))(hq:L[q]?=aj (aP g cs T))(hs:ev fr s=aj v)(hx:ev fr x=aj (ap (aj ⟨g,0,ak⟩) 1 1))
 (hl:cs.size=size) (h1:cs.toList.all eQ=aD) (qM:m+1<=140737488355328) (hb:(m+1)*bytes<=140737488355328) (hn:dj d n=aD)
 (h:∀v',TL P n W ops Q rest ((d,v')::fr) (L.set i (a_ e size v' (m+1) (xs++cs.toList)))):
 TL P n W ops Q (⟨aj d,.call {callee:= .builtin .append,args:=#[s,x],argTypes:=#[t,t]},ty,pos,after,ak⟩::rest) fr L:=
 SM sW.el hi hs hx (λj u hj=>by rw[cU.eB,cV];exact aH hq (by simpa using hj)) (by simp_all) (qj.1 h1) qM hb hn h
theorem lg{t e:TypeId}{s x:Operand}{i q g bytes m:Nat}{v u:Value}{xs:List Value}{cs:Array Value}{T:TypeId}[sW:qN P t e 1 bytes](hi:L[i]?=aj (a_ e 1 v m xs))(hq:L[q]?=aj (aP g cs T))(hs:ev fr s=aj v)(hx:ev fr x=aj (ap (aj ⟨g,0,ak⟩) 1 1))
 (hu:cs=#[u]) (h1:u.oneCell'=aD) (qM:m+1<=140737488355328) (hb:(m+1)*bytes<=140737488355328) (hn:dj d n=aD)
 (h:∀v',TL P n W ops Q rest ((d,v')::fr) (L.set i (a_ e 1 v' (m+1) (xs++[u])))):
 TL P n W ops Q (⟨aj d,.call {callee:= .builtin .append,args:=#[s,x],argTypes:=#[t,t]},ty,pos,after,ak⟩::rest) fr L:=by
 subst hu;exact mh hi hq hs hx I (by grind) qM hb hn h
theorem eA.front{p:Nat->Prop}{w:World}{L L':List b_}(h:eA p w (L++L')):eA p w L:=
  ⟨λi o hi=>h.all i o (by grind),
   λi j o o' sM hi hj=>h.apart i j o o' sM (by grind) (by grind)⟩
theorem Mem.front{w:World}{L L':List b_}(h:Mem W (L++L') w):Mem W L w:=⟨h.low,h.owns.front⟩
theorem Kt{L':List b_}(h:TL P n W ops Q rest fr L):TL P n W ops Q rest fr (L++L'):=⟨λa w hr hm=>h.go a w hr hm.front⟩
theorem jN{t e:TypeId}{s x:Operand}{i bytes m d':Nat}{v u:Value}{xs:List Value}{ty':TypeId}{pos':String}{N5:Array Edge}[sW:qN P t e 1 bytes](hi:L[i]?=aj (a_ e 1 v m xs))(hx:ev fr x=aj u)(hu:u.cells=#[u])(h1:u.oneCell'=aD)(hn':dj d' n=aD)
 (hs:ev ((d',undef)::fr) s=aj v) (hne:∀z,s= .tmp z->fw d' z=aE) (qM:m+1<=140737488355328) (hb:(m+1)*bytes<=140737488355328) (hn:dj d n=aD)
 (h:∀z v',TL P n W ops Q rest ((d,v')::(d',z)::fr) (L.set i (a_ e 1 v' (m+1) (xs++[u])))):
 TL P n W ops Q (⟨aj d',.buildSlice t 1 #[(0,x)],ty',pos',N5,ak⟩::⟨aj d,.call {callee:= .builtin .append,args:=#[s,.tmp d'],argTypes:=#[t,t]},ty,pos,after,ak⟩::rest) fr L:=by
 have hil:i<L.length:=(dl.1 hi).1;have xe:∀z,ev ((d',z)::fr) s=aj v:=λz=>by
  cases s with
  |tmp q=>simp_all[ev,look]
  |const q=>exact hs
  |global q=>exact hs
  |func q=>exact hs
 refine fy hx hu I I hn' λg=>?_;refine mh (i:=i) (q:=L.length) (by rw[gJ hil];exact hi) (zR) (xe _) (by simp[ev,look]) I (by grind) qM hb hn λv'=>?_;rw[VM _ _ hil];exact Kt (h _ v')
theorem jk{t e:TypeId}{s x:Operand}{i c bytes m d':Nat}{v:Value}{cs:Array Value}{xs:List Value}{ty':TypeId}{pos':String}{N5:Array Edge}[sW:qN P t e c bytes](hi:L[i]?=aj (a_ e c v m xs))(hx:ev fr x=aj (.agg cs))(hc:cs.size=c)(UZ:w4 c 16777216=aD)(h1:cs.toList.all eQ=aD)(hn':dj d' n=aD)
 (hs:ev ((d',undef)::fr) s=aj v) (hne:∀z,s= .tmp z->fw d' z=aE) (qM:m+1<=140737488355328) (hb:(m+1)*bytes<=140737488355328) (hn:dj d n=aD)
 (h:∀z v',TL P n W ops Q rest ((d,v')::(d',z)::fr) (L.set i (a_ e c v' (m+1) (xs++cs.toList)))):
 TL P n W ops Q (⟨aj d',.buildSlice t 1 #[(0,x)],ty',pos',N5,ak⟩::⟨aj d,.call {callee:= .builtin .append,args:=#[s,.tmp d'],argTypes:=#[t,t]},ty,pos,after,ak⟩::rest) fr L:=by
 have hil:i<L.length:=(dl.1 hi).1;have xe:∀z,ev ((d',z)::fr) s=aj v:=λz=>by
  cases s with
  |tmp q=>simp_all[ev,look]
  |const q=>exact hs
  |global q=>exact hs
  |func q=>exact hs
 refine fy hx I hc UZ hn' λg=>?_;refine mh (i:=i) (q:=L.length) (by rw[gJ hil];exact hi) (zR) (xe _) (by simp[ev,look]) hc h1 qM hb hn λv'=>?_;rw[VM _ _ hil];exact Kt (h _ v')
theorem dF{e':Exit}(e:TypeId)(size:Nat)(h:E n W e' Q fr (L++[a_ e size (ap ak 0 0) 0 []])):E n W e' Q fr L:=⟨λa w hr hm=>h.go a w hr (hm.N4 e size)⟩
def cL(e:TypeId)(size m:Nat)(xs:List Value)(f:Value->Value):Spec Value:=⟨λ_=>True,f,λv=>[a_ e size v m xs]⟩
end
def V_(fr:Fr):Op->Option Value
 | .move x=>ev fr x
 | .assign x=>ev fr x
 | .extract t i=>match ev fr t with
  |some (.tuple vs)=>vs[i]?
  |_=>ak
 | .pick c x y=>match ev fr c with
  |some (.bool aD)=>ev fr x
  |some (.bool aE)=>ev fr y
  |_=>ak
 | .unOp .not _ x=>match ev fr x with
  |some (.bool aD)=>aj (.bool aE)
  |some (.bool aE)=>aj (.bool aD)
  |_=>ak
 |_=>ak
section
variable{P:Program}{n:Nat}{W:bR}{fr:Fr}{L:List b_}{dst:Option Tmp}{ty:TypeId}{pos:String}{after:Array Edge}{guard:Option (Nat×Bool)}
theorem qp{op:Op}{v:Value}(h:V_ fr op=aj v):RR P n W ⟨dst,op,ty,pos,after,guard⟩ fr L v:=by
 unfold V_ at h;split at h;exact vz h;exact SG h
 grind[NX]
 grind[V1,V2]
 ·split at h
  ·rename_i e
   simp only[dr]at h;subst h;exact H9 e I
  ·rename_i e
   simp only[dr]at h;subst h;exact H9 e I
  cases h
 cases h
end
section
variable{P:Program}{n:Nat}{W:bR}{fr:Fr}{L:List b_}{Q:Exit->Act->World->Prop}{ops:Array Oper}{rest:List Oper}{d:Nat}{o:Oper}{v:Value}
theorem qv(hg:o.guard=ak)(hr:RR P n W o fr L v)(hd:o.dst=aj d)(hn:dj d n=aD)(h:TL P n W ops Q rest ((d,v)::fr) L):TL P n W ops Q (o::rest) fr L:=du hr hg hd hn h
theorem qg{q e:Nat}{b:Bool}(hg:o.guard=aj (q,b))(hj:(ops[q]?).bind (·.dst)=aj e)(hl:look fr e=aj (.bool b))(h:TL P n W ops Q ({o with guard:=ak}::rest) fr L):TL P n W ops Q (o::rest) fr L:=B8 hg hj hl h
theorem qs{j e:Nat}{b:Bool}{u:Value}(hg:o.guard=aj (j,b))(hj:(ops[j]?).bind (·.dst)=aj e)(hl:look fr e=aj u)(hu:aak b u=aD)(hd:o.dst=aj d)(hn:dj d n=aD)(h:TL P n W ops Q rest ((d,undef)::fr) L):TL P n W ops Q (o::rest) fr L:=aal hg hj hl hu hd hn h
theorem qcT{c:Operand}{x y:Code}(hc:ev fr c=aj (.bool aD))(h:T P n W x Q fr L):T P n W (.cond c x y) Q fr L:=H6 hc h
theorem qcF{c:Operand}{x y:Code}(hc:ev fr c=aj (.bool aE))(h:T P n W y Q fr L):T P n W (.cond c x y) Q fr L:=H7 hc h
theorem qT{p:Prop}[inst:Decidable p](h:p):decide p=true:=decide_eq_true h
theorem qF{p:Prop}[inst:Decidable p](h:¬p):decide p=false:=decide_eq_false h
variable{dst:Option Tmp}{ty:TypeId}{pos:String}{after:Array Edge}{guard:Option (Nat×Bool)}
theorem Ku{t e:TypeId}{x:Operand}{p:Option Addr}{m cap:Nat}(ht:P.underlying t=aj (.slice e))(hx:ev fr x=aj (ap p m cap)):RR P n W ⟨dst,.call {callee:= .builtin .len,args:=#[x],argTypes:=#[t]},ty,pos,after,guard⟩ fr L (av az m):=NZ ht hx
theorem ae_{s:TypeId}{x:Operand}{f o b off r:Nat}(hf:Fld P s f o)(hx:ev fr x=aj (aJ (aj ⟨b,off,ak⟩)))(hr:off+o=r):RR P n W ⟨dst,.fieldAddr s x f,ty,pos,after,guard⟩ fr L (aJ (aj ⟨b,r,ak⟩)):=Kr hf hx hr
end
section
variable{P:Program}{n:Nat}{W:bR}{fr:Fr}{L:List b_}{Q:Exit->Act->World->Prop}{ops:Array Oper}{rest:List Oper}{d:Nat}{o:Oper}{v:Value}{dst:Option Tmp}{ty:TypeId}{pos:String}{after:Array Edge}{guard:Option (Nat×Bool)}{t u:TypeId}{x y:Operand}{k:IntKind}{m m':Int}
theorem QV(hr:RR P n W o fr L v)(h:TL P n W ops Q rest ((d,v)::fr) L)(hg:o.guard=none:=by exact I)(hd:o.dst=aj d:=by exact I)(hn:dj d n=true:=by exact I):TL P n W ops Q (o::rest) fr L:=du hr hg hd hn h
theorem QP{op:Op}(h:V_ fr op=aj v:=by exact I):RR P n W ⟨dst,op,ty,pos,after,guard⟩ fr L v:=qp h
theorem QS{l:List UInt8}(hx:ev fr x=aj (str l):=by exact I)(ht:P.underlying t=aj .string:=by exact bL.eq):RR P n W ⟨dst,.call {callee:= .builtin .len,args:=#[x],argTypes:=#[t]},ty,pos,after,guard⟩ fr L (av az l.length):=SI ht hx
theorem QL{e:TypeId}{p:Option Addr}{m cap:Nat}(hx:ev fr x=aj (ap p m cap):=by exact I)(ht:P.underlying t=aj (.slice e):=by exact bL.eq):RR P n W ⟨dst,.call {callee:= .builtin .len,args:=#[x],argTypes:=#[t]},ty,pos,after,guard⟩ fr L (av az m):=Ku ht hx
theorem QA{s:TypeId}{f o b off r:Nat}(hx:ev fr x=aj (aJ (aj ⟨b,off,ak⟩)):=by exact I)(hf:Fld P s f o:=by exact bJ.fld)(hr:off+o=r:=by exact I):RR P n W ⟨dst,.fieldAddr s x f,ty,pos,after,guard⟩ fr L (aJ (aj ⟨b,r,ak⟩)):=Kr hf hx hr
theorem QlT(hx:ev fr x=aj (.int k m):=by exact I)(hy:ev fr y=aj (.int k m'):=by exact I)(h:m<m':=by omega):RR P n W ⟨dst,.binOp .lss t x y u,ty,pos,after,guard⟩ fr L (.bool aD):=dO hx hy (decide_eq_true h)
theorem QlF(hx:ev fr x=aj (.int k m):=by exact I)(hy:ev fr y=aj (.int k m'):=by exact I)(h:¬(m<m'):=by omega):RR P n W ⟨dst,.binOp .lss t x y u,ty,pos,after,guard⟩ fr L (.bool aE):=dO hx hy (decide_eq_false h)
theorem QmT(hx:ev fr x=aj (.int k m):=by exact I)(hy:ev fr y=aj (.int k m'):=by exact I)(h:m<=m':=by omega):RR P n W ⟨dst,.binOp .leq t x y u,ty,pos,after,guard⟩ fr L (.bool aD):=zY hx hy (decide_eq_true h)
theorem QmF(hx:ev fr x=aj (.int k m):=by exact I)(hy:ev fr y=aj (.int k m'):=by exact I)(h:¬(m<=m'):=by omega):RR P n W ⟨dst,.binOp .leq t x y u,ty,pos,after,guard⟩ fr L (.bool aE):=zY hx hy (decide_eq_false h)
theorem QgT(hx:ev fr x=aj (.int k m):=by exact I)(hy:ev fr y=aj (.int k m'):=by exact I)(h:m'<m:=by omega):RR P n W ⟨dst,.binOp .gtr t x y u,ty,pos,after,guard⟩ fr L (.bool aD):=dP hx hy (decide_eq_true h)
theorem QgF(hx:ev fr x=aj (.int k m):=by exact I)(hy:ev fr y=aj (.int k m'):=by exact I)(h:¬(m'<m):=by omega):RR P n W ⟨dst,.binOp .gtr t x y u,ty,pos,after,guard⟩ fr L (.bool aE):=dP hx hy (decide_eq_false h)
theorem QhT(hx:ev fr x=aj (.int k m):=by exact I)(hy:ev fr y=aj (.int k m'):=by exact I)(h:m'<=m:=by omega):RR P n W ⟨dst,.binOp .geq t x y u,ty,pos,after,guard⟩ fr L (.bool aD):=eN hx hy (decide_eq_true h)
theorem QhF(hx:ev fr x=aj (.int k m):=by exact I)(hy:ev fr y=aj (.int k m'):=by exact I)(h:¬(m'<=m):=by omega):RR P n W ⟨dst,.binOp .geq t x y u,ty,pos,after,guard⟩ fr L (.bool aE):=eN hx hy (decide_eq_false h)
theorem QeT(hx:ev fr x=aj (.int k m):=by exact I)(hy:ev fr y=aj (.int k m'):=by exact I)(h:m=m':=by omega):RR P n W ⟨dst,.binOp .eql t x y u,ty,pos,after,guard⟩ fr L (.bool aD):=de hx hy (decide_eq_true h)
theorem QeF(hx:ev fr x=aj (.int k m):=by exact I)(hy:ev fr y=aj (.int k m'):=by exact I)(h:¬(m=m'):=by omega):RR P n W ⟨dst,.binOp .eql t x y u,ty,pos,after,guard⟩ fr L (.bool aE):=de hx hy (decide_eq_false h)
theorem QnT(hx:ev fr x=aj (.int k m):=by exact I)(hy:ev fr y=aj (.int k m'):=by exact I)(h:m≠m':=by omega):RR P n W ⟨dst,.binOp .neq t x y u,ty,pos,after,guard⟩ fr L (.bool aD):=dm hx hy (decide_eq_true h)
theorem QnF(hx:ev fr x=aj (.int k m):=by exact I)(hy:ev fr y=aj (.int k m'):=by exact I)(h:¬(m≠m'):=by omega):RR P n W ⟨dst,.binOp .neq t x y u,ty,pos,after,guard⟩ fr L (.bool aE):=dm hx hy (decide_eq_false h)
theorem QaA{r:Int}(hx:ev fr x=aj (av az m):=by exact I)(hy:ev fr y=aj (av az m'):=by exact I)(h0: -9223372036854775808<=m+m':=by omega)(h1:m+m'<=9223372036854775807:=by omega)(hr:m+m'=r:=by exact I):RR P n W ⟨dst,.binOp .add t x y u,ty,pos,after,guard⟩ fr L (av az r):=eM hx hy h0 h1 hr
theorem QaS{r:Int}(hx:ev fr x=aj (av az m):=by exact I)(hy:ev fr y=aj (av az m'):=by exact I)(h0: -9223372036854775808<=m-m':=by omega)(h1:m-m'<=9223372036854775807:=by omega)(hr:m-m'=r:=by exact I):RR P n W ⟨dst,.binOp .sub t x y u,ty,pos,after,guard⟩ fr L (av az r):=eC hx hy h0 h1 hr
theorem QaM{r:Int}(hx:ev fr x=aj (av az m):=by exact I)(hy:ev fr y=aj (av az m'):=by exact I)(h0: -9223372036854775808<=m*m':=by omega)(h1:m*m'<=9223372036854775807:=by omega)(hr:m*m'=r:=by exact I):RR P n W ⟨dst,.binOp .mul t x y u,ty,pos,after,guard⟩ fr L (av az r):=V3 hx hy h0 h1 hr
end
class Cd(p:Prop)(q:outParam Prop):Prop where
 go:q->p
theorem QZ{p q:Prop}[h:Cd p q](x:q):p:=h.go x
section
variable{P:Program}{n:Nat}{W:bR}{fr:Fr}{L:List b_}{Q:Exit->Act->World->Prop}{ops:Array Oper}{x y:Code}{id:Nat}{l:List Oper}{K:Act->World->Prop}
instance:Cd (TL P n W ops Q [] fr L) (E n W .normal Q fr L):=⟨ky⟩
instance:Cd (T P n W (x.seq y) Q fr L) (T P n W x (Exit.then (y.wp P Q) Q) fr L):=⟨b9⟩
instance:Cd (T P n W (.region id l.toArray aE) Q fr L) (TL P n W l.toArray Q l fr L):=⟨bz⟩
instance:Cd (T P n W .skip Q fr L) (E n W .normal Q fr L):=⟨w_⟩
instance:Cd (T P n W (.exit id) Q fr L) (E n W (.exit id) Q fr L):=⟨xc⟩
instance:Cd (T P n W .ret Q fr L) (E n W .ret Q fr L):=⟨yj⟩
instance:Cd (T P n W (.block id x) Q fr L) (T P n W x (tk id Q) fr L):=⟨rQ⟩
instance:Cd (E n W .normal (Exit.then (y.wp P Q) Q) fr L) (T P n W y Q fr L):=⟨lH⟩
instance:Cd (E n W (.exit id) (Exit.then K Q) fr L) (E n W (.exit id) Q fr L):=⟨rR⟩
instance:Cd (E n W .ret (Exit.then K Q) fr L) (E n W .ret Q fr L):=⟨n9⟩
instance:Cd (E n W .normal (tk id Q) fr L) (E n W .normal Q fr L):=⟨oB⟩
instance:Cd (E n W .ret (tk id Q) fr L) (E n W .ret Q fr L):=⟨oC⟩
end
section
variable{α β:Type}
theorem zA{a:α}{l m:List α}:a::l++m=a::(l++m):=rfl
theorem zB{l:List α}:[]++l=l:=rfl
theorem zC{l:List α}:l++[]=l:=eG l
theorem zD{f:α->Option β}{a:α}{l:List α}:tv f (a::l)=match f a with
 |none=>tv f l
 |some b=>b::tv f l:=List.filterMap_cons
theorem zE{f:α->Option β}:tv f []=[]:=rfl
theorem zF{a:α}{l:List α}{i:Nat}:(a::l)[i+1]?=l[i]?:=CO
theorem zG{a:α}{l:List α}:(a::l)[0]?=aj a:=rfl
theorem zH{a b:α}{l:List α}:(a::l).set 0 b=b::l:=rfl
theorem zI{a b:α}{l:List α}{i:Nat}:(a::l).set (i+1) b=a::l.set i b:=rfl
end
end bZ
namespace bZ
open Go.RowKit cU dM
section
variable{P:Program}{n:Nat}{W:bR}{fr:Fr}{L:List b_}{Q:Exit->Act->World->Prop}{ops:Array Oper}{rest:List Oper}{d:Nat}{dst:Option Tmp}{ty:TypeId}{pos:String}{after:Array Edge}{guard:Option (Nat×Bool)}
def rU(fr:Fr):List (Nat×Operand)->Option (List (Nat×Value))
 |[]=>aj []
 |(i,x)::r=>match ev fr x,rU fr r with|some v,aj l=>aj ((i,v)::l)|_,_=>ak
theorem rW{a:Act}(hr:nj n a fr):∀(l:List (Nat×Operand)) (vs:List (Nat×Value)),rU fr l=aj vs->l.map (λ(i,x)=>(i,a.eval x))=vs
 |[],vs,h=>by simp only[rU,dr]at h;subst h;rfl
 | (i,x)::r,vs,h=>by
  simp only[rU]at h;split at h
  ·rename_i v l h1 h2
   simp only[dr]at h;subst h;simp[hr.ev h1,rW hr r l h2]
  cases h
theorem bB{t:TypeId}{parts:Array (Nat×Operand)}{ps:List (Nat×Value)}{cs:Array Value}(hp:rU fr parts.toList=aj ps)(hrun:∀w,(df t ps.toArray).run P w= .ok (.agg cs) w):RR P n W ⟨dst,.build t parts,ty,pos,after,guard⟩ fr L (.agg cs):= .mk λa w hr _=>by
 have e:(parts.map λ(i,x)=>(i,a.eval x))=ps.toArray:=by
  rw[<-rW hr _ _ hp,<-CE,CD]
 simp only[execOp,mO];rw[e,hrun w];rfl
theorem Kv(c0:Nat->Option (Nat×Nat))(CQ:∀i,c0 i=aj (i,1)):∀(vs:List Value) (k:Nat) (acc:Array Value),k+vs.length<=acc.size->(∀v∈vs,v.cells=#[v])->ju c0 acc ((vs.zipIdx k).map λ(v,i)=>(i,v))=aj (acc.toList.take k++vs++acc.toList.drop (k+vs.length)).toArray
 |[],k,acc,h,_=>by simp[ju]
 | v ::vs,k,acc,h,h1=>by
  simp only[c_]at h;have hv:=h1 v (by simp);rw[HZ,gd];simp only[ju,CQ,hv];rw[if_neg (by simp;omega)];have e:((#[v]:Array Value).zipIdx.foldl (λcs (x:Value×Nat)=>cs.setIfInBounds (k+x.2) x.1) acc)=acc.setIfInBounds k v:=by simp
  rw[e,Kv c0 CQ vs (k+1) _ (by simp;omega) (λu hu=>h1 u (by simp[hu]))]
  congr 2
  have hA:(acc.toList.take k).length=k:=by simp;omega
  have hA1:(acc.toList.take k++[v]).length=k+1:=by rw[bK,hA];rfl
  have e2:acc.toList.set k v=(acc.toList.take k++[v])++acc.toList.drop (k+1):=by
   rw[CN,if_pos (by simp;omega)];simp
  simp only[HP,c_];rw[e2,NL hA1,<-qi,NM hA1,qi];simp only[eY,kS,eJ];rw[show k+1+vs.length=k+(vs.length+1)by omega]
theorem V'{t e:TypeId}{bytes:Nat}(sW:El P t e 1 bytes)(vs:List Value)(h1:∀v∈vs,v.cells=#[v])(h0:0<vs.length)(hm:vs.length<=16777216)(w:World):
 (tm t vs.length (vs.zipIdx.map λ(v,i)=>(i,v)).toArray).run P w= .ok (ap (aj ⟨w.heap.size,0,ak⟩) vs.length vs.length) (w.alloc (.cells vs.toArray e)):=by
 obtain⟨i,z,ht,hi,hz,hc,_,hzc,_⟩:=sW.ex;have tG:=Kv (λi=>aj (i*1,1)) (by simp) vs 0 ((CF (vs.length*1)).map (z.cells[· %z.cells.size]!)) (by simp) h1
 simp only[nM,eJ,cV]at tG;rw[jg (by simp)]at tG;simp only[eG]at tG;have hne:¬(vs.length*1>2^24):=by omega
 have V9:¬(vs.length*1=0):=by omega
 simp only[tm,mO,run_underlying ht,qf,sizeOf,typeInfo,run_program,hi,oy,hc,zeroValue,hz,if_neg hne,if_neg V9];simp only[tG,newRow];simp
theorem QJ{t e:TypeId}{bytes m:Nat}{parts:Array (Nat×Operand)}(vs:List Value)[sW:qN P t e 1 bytes](hp:rU fr parts.toList=aj (vs.zipIdx.map λ(v,i)=>(i,v)))(hm:vs.length=m)(h0:dj 0 m=aD)(h1:∀v∈vs,v.cells=#[v])(hs:w4 m 16777216=aD)(hn:dj d n=aD)
 (h:∀g,TL P n W ops Q rest ((d,ap (aj ⟨g,0,ak⟩) m m)::fr) (L++[aP g vs.toArray e])):TL P n W ops Q (⟨aj d,.buildSlice t m parts,ty,pos,after,ak⟩::rest) fr L:=by
 subst hm;refine N1 (λa w hr=>?_) hn h;have e:(parts.map λ(i,x)=>(i,a.eval x))=(vs.zipIdx.map λ(v,i)=>(i,v)).toArray:=by
  rw[<-rW hr _ _ hp,<-CE,CD]
 rw[e];exact V' sW.el vs h1 (me h0) (me hs) w
theorem Mem.ae'{w:World}{i g m size:Nat}{cs:Array Value}{e:TypeId}(h:Mem W L w)(hi:L[i]?=aj (aP g cs e))(hc:cs.size=m*size)(hm:m<=140737488355328):Mem W (L.set i (a_ e size (ap (aj ⟨g,0,ak⟩) m m) m cs.toList)) w:=
 h.BI hi ⟨rfl,rfl,rfl,bm _,λ_ _ _=>rfl⟩ ⟨by simp[hc],.inr ⟨g,m,cs,rfl,bH _,h.get hi,bm _,by unfold maxLen;omega,hc,by rw[gK (by simp[hc])]⟩⟩ λk hk=> .inl hk
theorem yq{i g m:Nat}{cs:Array Value}{e:TypeId}(size:Nat)(hi:L[i]?=aj (aP g cs e))(hc:cs.size=m*size)(hm:m<=140737488355328)(h:TL P n W ops Q rest fr (L.set i (a_ e size (ap (aj ⟨g,0,ak⟩) m m) m cs.toList))):TL P n W ops Q rest fr L:=
 ⟨λa w hr sY=>h.go a w hr (sY.ae' hi hc hm)⟩
theorem aV{t:TypeId}{p x:Operand}{i g c:Nat}{cs cs':Array Value}{T:TypeId}{agg:Bool}[hT:aK P t agg c](hi:L[i]?=aj (aP g cs T))(hp:ev fr p=aj (aJ (aj ⟨g,0,ak⟩)))(hx:ev fr x=aj (.agg cs'))(hv:cs'.size=c)(h1:cs'.toList.all eQ=aD)
 (hc:cs.size=c) (h:TL P n W ops Q rest fr (L.set i (aP g cs' T))):
 TL P n W ops Q (⟨ak,.store t p x,ty,pos,after,ak⟩::rest) fr L:=
 tH hT.ty hi hp hx hv h1 J (by
  show cs'=(cs.toList.take 0++cs'.toList++cs.toList.drop (0+c)).toArray
  rw[jg (by simp[hc])];simp) h
theorem bU{t:TypeId}{p x:Operand}{i g off:Nat}{cs:Array Value}{T:TypeId}{agg:Bool}{v:Value}[hT:aK P t agg 1](hi:L[i]?=aj (aP g cs T))(hp:ev fr p=aj (aJ (aj ⟨g,off,ak⟩)))(hx:ev fr x=aj v)(hv:v.cells=#[v])(h1:v.oneCell'=aD)
 (hc:dj off cs.size=aD) (h:TL P n W ops Q rest fr (L.set i (aP g (cs.setIfInBounds off v) T))):
 TL P n W ops Q (⟨ak,.store t p x,ty,pos,after,ak⟩::rest) fr L:=by
 have hlt:off<cs.size:=me hc;refine tH hT.ty hi hp hx (by rw[hv];rfl) (by rw[hv];simp[h1]) J ?_ h;rw[hv];apply rF;simp only[HP];rw[CN,if_pos (by simpa using hlt)];simp
theorem C0{t u:TypeId}{x y:Operand}{xs ys:Array Value}{b:Bool}(hx:ev fr x=aj (.agg xs))(hy:ev fr y=aj (.agg ys))(hg:P.eqGuardType P.depth t=aE)(h:∀w,(ox 10000 t (.agg xs) (.agg ys)).run P w= .ok b w):RR P n W ⟨dst,.binOp .eql t x y u,ty,pos,after,guard⟩ fr L (.bool b):= .mk λa w hr _=>by
 simp only[execOp,hr.ev hx,hr.ev hy,mO,run_eqGuard_agg w .eql t x y xs ys hg,qf,run_eql_struct,h w];rfl
theorem C1{t u:TypeId}{x y:Operand}{xs ys:Array Value}{b c:Bool}(hx:ev fr x=aj (.agg xs))(hy:ev fr y=aj (.agg ys))(hg:P.eqGuardType P.depth t=aE)(h:∀w,(ox 10000 t (.agg xs) (.agg ys)).run P w= .ok b w)(hc:(!b)=c):RR P n W ⟨dst,.binOp .neq t x y u,ty,pos,after,guard⟩ fr L (.bool c):= .mk λa w hr _=>by
 subst hc;simp only[execOp,hr.ev hx,hr.ev hy,mO,run_eqGuard_agg w .neq t x y xs ys hg,qf,run_neq_struct,h w];rfl
theorem ey{fn:Func}{R:Ending->World->Prop}{t u:Tmp}{T:TypeId}{i g c:Nat}{cs:Array Value}{T':TypeId}{z:Value}[hT:aK P T aD c](ns:fn.results=#[.cell t T,.tmp u])(hp:look fr t=aj (aJ (aj ⟨g,0,ak⟩)))(hi:L[i]?=aj (aP g cs T'))(hc:cs.size=c)(hz:look fr u=aj z)
 (h:∀w,Mem W L w->R (.returned (.tuple #[.agg cs,z])) w):E n W .ret (bodyPost P fn R) fr L:=
 CV λa w hr sY=>⟨_,by
  have C2:=run_loadCells_list (P:=P) w ⟨g,0,ak⟩ cs.toList λj v hj=>by rw[eB,cV];exact aH hi (by simpa using hj) w sY
  have hl:(loadCells ⟨g,0,ak⟩ c).run P w= .ok cs w:=by rw[<-hc];simpa using C2
  have hv:(loadVar T ⟨g,0,ak⟩).run P w= .ok (.agg cs) w:=by simp[loadVar,hT.ty.agg,hT.ty.size,hl]
  simp[results,ns,wP,hr.get t _ hp,hr.get u z hz,asAddr,hv],h w sY⟩
theorem ff{fn:Func}{R:Ending->World->Prop}{t u s:Tmp}{T:TypeId}{i g c:Nat}{cs:Array Value}{T':TypeId}{z y:Value}[hT:aK P T aD c](ns:fn.results=#[.cell t T,.tmp u,.tmp s])(hp:look fr t=aj (aJ (aj ⟨g,0,ak⟩)))(hi:L[i]?=aj (aP g cs T'))(hc:cs.size=c)(hz:look fr u=aj z)(hy:look fr s=aj y)
 (h:∀w,Mem W L w->R (.returned (.tuple #[.agg cs,z,y])) w):E n W .ret (bodyPost P fn R) fr L:=
 CV λa w hr sY=>⟨_,by
  have C2:=run_loadCells_list (P:=P) w ⟨g,0,ak⟩ cs.toList λj v hj=>by rw[eB,cV];exact aH hi (by simpa using hj) w sY
  have hl:(loadCells ⟨g,0,ak⟩ c).run P w= .ok cs w:=by rw[<-hc];simpa using C2
  have hv:(loadVar T ⟨g,0,ak⟩).run P w= .ok (.agg cs) w:=by simp[loadVar,hT.ty.agg,hT.ty.size,hl]
  simp[results,ns,wP,hr.get t _ hp,hr.get u z hz,hr.get s y hy,asAddr,hv],h w sY⟩
theorem fF{fn:Func}{R:Ending->World->Prop}{t:Tmp}{T:TypeId}{i g c:Nat}{cs:Array Value}{T':TypeId}[hT:aK P T aD c](ns:fn.results=#[.cell t T])(hp:look fr t=aj (aJ (aj ⟨g,0,ak⟩)))(hi:L[i]?=aj (aP g cs T'))(hc:cs.size=c)
 (h:∀w,Mem W L w->R (.returned (.agg cs)) w):E n W .ret (bodyPost P fn R) fr L:=
 CV λa w hr sY=>⟨_,by
  have C2:=run_loadCells_list (P:=P) w ⟨g,0,ak⟩ cs.toList λj v hj=>by rw[eB,cV];exact aH hi (by simpa using hj) w sY
  have hl:(loadCells ⟨g,0,ak⟩ c).run P w= .ok cs w:=by rw[<-hc];simpa using C2
  have hv:(loadVar T ⟨g,0,ak⟩).run P w= .ok (.agg cs) w:=by simp[loadVar,hT.ty.agg,hT.ty.size,hl]
  simp[results,ns,wP,hr.get t _ hp,asAddr,hv],h w sY⟩
end
end bZ
namespace bZ
open Go.RowKit cU dM
section
variable{P:Program}{ops:Array Oper}{md:tr}{Q:Exit->Act->World->Prop}{U:World->Prop}
theorem jz{K:Act->World->Prop}{i:Nat}{o:Oper}{a:Act}{w:World}(hi:ops[i]?=aj o)(h:wpList P ops (Exit.then K Q) [o] a w):wpOp P ops Q i K a w:=by
 have key:∀r,o.upon P a (wpList P ops (Exit.then K Q) []) (Exit.then K Q) r->o.upon P a K Q r:=λr hr=>by
  cases r with
  | ok x w'=>
   cases x<;>first
    |exact hr
    |(refine Vn hr λe Fg he=>?_;cases e<;>exact he)
    |exact Rows.mono hr λv Fg he=>he
  |halt x w'=>cases x<;>exact hr
 unfold wpList at h;unfold wpOp;rw[hi];simp only;split
 ·rename_i hw
  rw[if_pos hw]at h;rcases h with h|h
  exact .inl (key _ h);exact .inr h
 rename_i hw
 rw[if_neg hw]at h;exact h
def rX(P:Program)(md:tr)(ops:Array Oper)(Q:Exit->Act->World->Prop)(U:World->Prop):Nat->Array Bool->Act->(World->Prop)->Prop
 |0,listed,a,S=>iF md ops listed=[]/\∀w,S w->Q .normal a w
 | f+1,listed,a,S=>(iF md ops listed=[]->∀w,S w->Q .normal a w)/\
  ∀i∈iF md ops listed,∀w,S w->wpOp P ops Q i (λa' w'=>∃S',ji S'/\(∀x,S' x->U x)/\S' w'/\rX P md ops Q U f (listed.setIfInBounds i aD) a' S') a w
theorem xf:∀(f:Nat) (listed:Array Bool) (a:Act) (S:World->Prop) (w:World),S w->rX P md ops Q U f listed a S->wpAny P md ops Q f listed a w
 |0,_,_,_,w,hw,h=>⟨h.1,h.2 w hw⟩
 |f+1,_,_,_,w,hw,h=>⟨λh0=>h.1 h0 w hw,λi hi=>wpOp_mono (λa' w' ⟨S',_,_,tc,h'⟩=>xf f _ a' S' w' tc h') (h.2 i hi w hw)⟩
theorem yr{i:Nat}{oi:Oper}{v:Value}(hi:ops[i]?=aj oi)(l6:∀(j:Nat) (o:Oper) cs b,ops[j]?=aj o->o.op≠ .select cs b)
 (hQ:∀c a w,Q (.panic c) (a.put oi.dst v) w->Q (.panic c) a w):
 ∀ (f:Nat) (listed:Array Bool) (a:Act) (S:World->Prop),ji S->(∀x,S x->U x)->
  (∀j oj,ops[j]?=aj oj->j≠i->listed.getD j aD=aE->(∀e∈oj.after,zQ md e=aD->e.on≠i)->oi.apart ops oj=aD)->
  i∈iF md ops listed->jx P ops U oi v a->
  rX P md ops Q U f (listed.setIfInBounds i aD) (a.put oi.dst v) S->rX P md ops Q U (f+1) listed a S:=by
 intro f
 induction f with
 | zero=>
  intro listed a S iz Wa _ hr hy H;refine⟨λh=>(by rw[h]at hr;cases hr),λj hj w hw=>?_⟩
  by_cases J_:j=i
  subst J_;exact(hy.mono Wa).wpOp hi iz hw λw' tc=>⟨S,iz,Wa,tc,H⟩;have:=ready_mono (md:=md) hj J_;rw[H.1]at this;cases this
 | succ f ih=>
  intro listed a S iz Wa Gc hr hy H;have A3:=(mem_ready.1 hr).1;refine⟨λh=>(by rw[h]at hr;cases hr),λj hj w hw=>?_⟩
  by_cases J_:j=i
  subst J_;exact(hy.mono Wa).wpOp hi iz hw λw' tc=>⟨S,iz,Wa,tc,H⟩;have h1:=H.2 j (ready_mono hj J_) w hw;obtain⟨aah,oj,QD,pF⟩:=mem_ready.1 hj;have SE:∀e∈oj.after,zQ md e=aD->e.on≠i:=λe he hb NR=>by
   have h1:=pF e he hb;rw[NR,getD_both A3]at h1
   cases h1
  have h2:=Gb QD (Gc j oj QD J_ aah SE) (λcs b=>l6 i oi cs b hi) (λcs b=>l6 j oj cs b QD) hQ hy h1;have NS:∀k ok,ops[k]?=aj ok->k≠i->(listed.setIfInBounds j aD).getD k aD=aE->
   (∀e∈ok.after,zQ md e=aD->e.on≠i)->oi.apart ops ok=true:=λk ok hk hki A3 hno=>by
   refine Gc k ok hk hki ?_ hno
   by_cases hjk:j=k
   ·subst hjk;exact aah
   ·rw[getD_set_ne aD hjk]at A3;exact A3
  refine wpOp_mono (λa' w' h3=>?_) h2;obtain⟨h3,S',mG,kx,tc,h4⟩:=h3;refine⟨S',mG,kx,tc,ih (listed.setIfInBounds j aD) a' S' mG kx NS (ready_mono hr (w7 J_)) h3 ?_⟩;rw[Vf _ _ J_];exact h4
end
section
variable{P:Program}{n:Nat}{W:bR}{Q:Exit->Act->World->Prop}{fr:Fr}{L L0:List b_}{ops:Array Oper}{ks:List Bool}{o:Oper}{rest:List Oper}{v:Value}{d:Nat}
theorem Wb{L':List b_}(is:List Nat)(hn:is.Nodup)(hl:L'=is.filterMap λi=>L[i]?):∀w,Mem W L w->Mem W L' w:=λ_ h=>h.pick is hn hl
theorem yt:∀w,Mem W L w->Mem W [] w:=λ_ h=>⟨h.low,eA.nil _⟩
end
end bZ
namespace bZ
open Go.RowKit cU dM
inductive Ord where
 |done
 |calm (i:Nat) (t:Ord)
 |one (i:Nat) (t:Ord)
 |two (i:Nat) (t:Ord) (j:Nat) (u:Ord)
 |three (i:Nat) (t:Ord) (j:Nat) (u:Ord) (k:Nat) (v:Ord)
def Ord.size:Ord->Nat
 | .done=>0
 | .calm _ t=>t.size+1
 | .one _ t=>t.size+1
 | .two _ t _ _=>t.size+1
 | .three _ t _ _ _ _=>t.size+1
section
variable{P:Program}{ops:Array Oper}{md:tr}{Q:Exit->Act->World->Prop}{U:World->Prop}
def Wc(P:Program)(ops:Array Oper)(Q:Exit->Act->World->Prop)(U:World->Prop):Ord->Act->(World->Prop)->Prop
 | .calm i t,a,S=>∃o v,ops[i]?=aj o/\(if kt o (yielded ops a.tmps)then ∀w,U w->oz P o a w v else v=undef)/\Wc P ops Q U t (a.put o.dst v) S
 | .one i t,a,S=>∃o,ops[i]?=aj o/\∀w,S w->wpList P ops (Exit.then (λa' w'=>∃S',ji S'/\(∀x,S' x->U x)/\S' w'/\Wc P ops Q U t a' S') Q) [o] a w
 | .two i t j u,a,S=>(∃o,ops[i]?=aj o/\∀w,S w->wpList P ops (Exit.then (λa' w'=>∃S',ji S'/\(∀x,S' x->U x)/\S' w'/\Wc P ops Q U t a' S') Q) [o] a w)/\
  (∃o,ops[j]?=aj o/\∀w,S w->wpList P ops (Exit.then (λa' w'=>∃S',ji S'/\(∀x,S' x->U x)/\S' w'/\Wc P ops Q U u a' S') Q) [o] a w)
 | .three i t j u k v,a,S=>(∃o,ops[i]?=aj o/\∀w,S w->wpList P ops (Exit.then (λa' w'=>∃S',ji S'/\(∀x,S' x->U x)/\S' w'/\Wc P ops Q U t a' S') Q) [o] a w)/\
  (∃o,ops[j]?=aj o/\∀w,S w->wpList P ops (Exit.then (λa' w'=>∃S',ji S'/\(∀x,S' x->U x)/\S' w'/\Wc P ops Q U u a' S') Q) [o] a w)/\
  (∃o,ops[k]?=aj o/\∀w,S w->wpList P ops (Exit.then (λa' w'=>∃S',ji S'/\(∀x,S' x->U x)/\S' w'/\Wc P ops Q U v a' S') Q) [o] a w)
 | .done,a,S=>∀w,S w->Q .normal a w
def lJ(md:tr)(ops:Array Oper):Ord->Array Bool->Bool
 | .calm i t,listed=>(iF md ops listed).contains i&&VC md ops listed i&&lJ md ops t (listed.setIfInBounds i aD)
 | .one i t,listed=>decide (iF md ops listed=[i])&&lJ md ops t (listed.setIfInBounds i aD)
 | .two i t j u,listed=>decide (iF md ops listed=[i,j])&&fw t.size u.size&&lJ md ops t (listed.setIfInBounds i aD)&&lJ md ops u (listed.setIfInBounds j aD)
 | .three i t j u k v,listed=>decide (iF md ops listed=[i,j,k])&&fw t.size u.size&&fw t.size v.size&&lJ md ops t (listed.setIfInBounds i aD)&&lJ md ops u (listed.setIfInBounds j aD)&&lJ md ops v (listed.setIfInBounds k aD)
 | .done,listed=>decide (iF md ops listed=[])
theorem jA(l6:wV ops=aD)(hQ:∀c a d v w,Q (.panic c) (qd a d v) w->Q (.panic c) a w):
 ∀(t:Ord) (listed:Array Bool) (a:Act) (S:World->Prop),ji S->(∀x,S x->U x)->lJ md ops t listed=aD->
 Wc P ops Q U t a S->rX P md ops Q U t.size listed a S
 | .done,listed,a,S,_,_,ho,h=>⟨by simp_all[lJ],h⟩
 | .calm i t,listed,a,S,iz,Wa,ho,h=>by
  simp only[lJ,eV]at ho;obtain⟨⟨hr,hf⟩,Kw⟩:=ho;have H4:i∈iF md ops listed:=by simp_all
  obtain⟨o,v,h0,hy,hK⟩:=h;have hy':jx P ops U o v a:=by
   by_cases hw:kt o (yielded ops a.tmps)=aD
   rw[if_pos hw]at hy;exact .inl ⟨hw,hy⟩;rw[if_neg hw]at hy;exact .inr ⟨by simp_all,hy⟩
  exact yr h0 (VA l6) (λc a w=>hQ c a o.dst v w) t.size listed a S iz Wa (VB h0 hf) H4 hy'
   (jA l6 hQ t _ _ S iz Wa Kw hK)
 | .one i t,listed,a,S,iz,Wa,ho,h=>by
  simp only[lJ,eV,decide_eq_true_eq]at ho;obtain⟨hr,Kw⟩:=ho;obtain⟨o,h0,h⟩:=h;refine⟨λh'=>(by simp_all),λj hj w hw=>?_⟩;obtain rfl:j=i:=by simp_all
  refine wpOp_mono (λa' w' ⟨S',mG,tI,tc,hK⟩=>⟨S',mG,tI,tc,?_⟩) (jz h0 (h w hw));exact jA l6 hQ t _ _ S' mG tI Kw hK
 | .two i t j u,listed,a,S,iz,Wa,ho,h=>by
  simp only[lJ,eV,decide_eq_true_eq]at ho;obtain⟨⟨⟨hr,hs⟩,mi⟩,zZ⟩:=ho;obtain⟨⟨o,h0,h⟩,⟨o2,h02,h2⟩⟩:=h;have hs:=kT hs;refine⟨λh'=>(by simp_all),λq hq w hw=>?_⟩;rw[hr]at hq;simp only[dx,fl,or_false]at hq;rcases hq with rfl|rfl
  ·refine wpOp_mono (λa' w' ⟨S',mG,tI,tc,hK⟩=>⟨S',mG,tI,tc,?_⟩) (jz h0 (h w hw))
   exact jA l6 hQ t _ _ S' mG tI mi hK
  refine wpOp_mono (λa' w' ⟨S',mG,tI,tc,hK⟩=>⟨S',mG,tI,tc,?_⟩) (jz h02 (h2 w hw));rw[hs];exact jA l6 hQ u _ _ S' mG tI zZ hK
 | .three i t j u k v,listed,a,S,iz,Wa,ho,h=>by
  simp only[lJ,eV,decide_eq_true_eq]at ho;obtain⟨⟨⟨⟨⟨hr,hs⟩,hs3⟩,mi⟩,zZ⟩,ho3⟩:=ho;obtain⟨⟨o,h0,h⟩,⟨o2,h02,h2⟩,⟨o3,h03,h3⟩⟩:=h;have hs:=kT hs;have hs3:=kT hs3;refine⟨λh'=>(by simp_all),λq hq w hw=>?_⟩;rw[hr]at hq;simp only[dx,fl,or_false]at hq;rcases hq with rfl|rfl|rfl
  ·refine wpOp_mono (λa' w' ⟨S',mG,tI,tc,hK⟩=>⟨S',mG,tI,tc,?_⟩) (jz h0 (h w hw))
   exact jA l6 hQ t _ _ S' mG tI mi hK
  ·refine wpOp_mono (λa' w' ⟨S',mG,tI,tc,hK⟩=>⟨S',mG,tI,tc,?_⟩) (jz h02 (h2 w hw))
   rw[hs];exact jA l6 hQ u _ _ S' mG tI zZ hK
  refine wpOp_mono (λa' w' ⟨S',mG,tI,tc,hK⟩=>⟨S',mG,tI,tc,?_⟩) (jz h03 (h3 w hw));rw[hs3];exact jA l6 hQ v _ _ S' mG tI ho3 hK
end
structure TW(P:Program)(n:Nat)(W:bR)(ops:Array Oper)(Q:Exit->Act->World->Prop)(L0:List b_)(t:Ord)(fr:Fr)(L:List b_):Prop where
 go:∀a,nj n a fr->Wc P ops Q (Mem W L0) t a (Mem W L)
section
variable{P:Program}{n:Nat}{W:bR}{Q:Exit->Act->World->Prop}{fr:Fr}{L L0:List b_}{ops:Array Oper}{o:Oper}{t u:Ord}{i j:Nat}{v:Value}{d:Nat}
def ads(l:List Oper)(t:Ord):Bool:=fw t.size l.length&&wV l.toArray&&lJ .any l.toArray t (wQ l.toArray.size aE)
theorem afa{id:Nat}{l:List Oper}(L0:List b_)(t:Ord)(kx:∀w,Mem W L w->Mem W L0 w)(hm:P.follows .mixedOrders=aD)(hB:ads l t=aD)
 (hQ:∀c a d v w,Q (.panic c) (qd a d v) w->Q (.panic c) a w)
 (h:TW P n W l.toArray Q L0 t fr L):T P n W (.region id l.toArray aD) Q fr L:=⟨λa w hr sY=>by
 simp only[ads,eV]at hB;obtain⟨⟨h1,h2⟩,h3⟩:=hB;have hlen:=kT h1;refine wp_region_any hm ?_;have hsz:l.toArray.size=t.size:=by simp_all
 have:=xf (U:=Mem W L0) t.size (wQ l.toArray.size aE) a (Mem W L) w.drew sY.drew
  (jA h2 hQ t _ a (Mem W L) (im W L) kx h3 (h.go a hr))
 simp_all⟩
theorem QM{q e:Nat}{b:Bool}{x:Value}(ho:ops[i]?=aj o)(hg:o.guard=aj (q,b))(hj:(ops[q]?).bind (·.dst)=aj e)(hl:look fr e=aj x)(hu:aak b x=aD)(hd:o.dst=aj d)(hn:dj d n=aD)(h:TW P n W ops Q L0 t ((d,undef)::fr) L):TW P n W ops Q L0 (.calm i t) fr L:=⟨λa gL=>
 ⟨o,undef,ho,by rw[Ge gL hg hj hl hu];rfl,by rw[hd];exact h.go _ (gL.put hn undef)⟩⟩
theorem n_{f:FuncId}{args:Array Value}(ho:ops[i]?=aj o)(he:∀a w,nj n a fr->(execOp a.eval o).run P w= .ok (.enter f args) w)(hc:∀w,Mem W L0 w->Calls P f args w (cz (ret v) w))(hg:o.guard=ak)(hd:o.dst=aj d)(hn:dj d n=aD)
 (h:TW P n W ops Q L0 t ((d,v)::fr) L):TW P n W ops Q L0 (.calm i t) fr L:=⟨λa gL=>
 ⟨o,v,ho,by rw[if_pos (pP hg)];intro w hw;unfold oz;rw[he a w gL];exact⟨Gr.refl _,(hc w hw).mono λ_ _ h=>CU h⟩,by rw[hd];exact h.go _ (gL.put hn v)⟩⟩
theorem Kx{f:FuncId}{args:Array Value}{q e:Nat}{b:Bool}(ho:ops[i]?=aj o)(he:∀a w,nj n a fr->(execOp a.eval o).run P w= .ok (.enter f args) w)(hc:∀w,Mem W L0 w->Calls P f args w (cz (ret v) w))(hg:o.guard=aj (q,b))(hj:(ops[q]?).bind (·.dst)=aj e)(hl:look fr e=aj (.bool b))(hd:o.dst=aj d)(hn:dj d n=aD)
 (h:TW P n W ops Q L0 t ((d,v)::fr) L):TW P n W ops Q L0 (.calm i t) fr L:=⟨λa gL=>
 ⟨o,v,ho,by rw[if_pos (oD gL hg hj hl)];intro w hw;unfold oz;rw[he a w gL];exact⟨Gr.refl _,(hc w hw).mono λ_ _ h=>CU h⟩,by rw[hd];exact h.go _ (gL.put hn v)⟩⟩
abbrev after(P:Program)(W:bR)(ops:Array Oper)(Q:Exit->Act->World->Prop)(L0:List b_)(t:Ord):Exit->Act->World->Prop:=Exit.then (λa' w'=>∃S',ji S'/\(∀x,S' x->Mem W L0 x)/\S' w'/\Wc P ops Q (Mem W L0) t a' S') Q
theorem aL(ho:ops[i]?=aj o)(h:TL P n W ops (after P W ops Q L0 t) [o] fr L):TW P n W ops Q L0 (.one i t) fr L:=⟨λa gL=>⟨o,ho,λw hw=>h.go a w gL hw⟩⟩
theorem ez{o2:Oper}(ho:ops[i]?=aj o)(zZ:ops[j]?=aj o2)(h:TL P n W ops (after P W ops Q L0 t) [o] fr L)(h2:TL P n W ops (after P W ops Q L0 u) [o2] fr L):TW P n W ops Q L0 (.two i t j u) fr L:=
 ⟨λa gL=>⟨⟨o,ho,λw hw=>h.go a w gL hw⟩,⟨o2,zZ,λw hw=>h2.go a w gL hw⟩⟩⟩
theorem yu{o2 o3:Oper}{k:Nat}{u2:Ord}(ho:ops[i]?=aj o)(zZ:ops[j]?=aj o2)(ho3:ops[k]?=aj o3)(h:TL P n W ops (after P W ops Q L0 t) [o] fr L)(h2:TL P n W ops (after P W ops Q L0 u) [o2] fr L)(h3:TL P n W ops (after P W ops Q L0 u2) [o3] fr L):TW P n W ops Q L0 (.three i t j u k u2) fr L:=
 ⟨λa gL=>⟨⟨o,ho,λw hw=>h.go a w gL hw⟩,⟨o2,zZ,λw hw=>h2.go a w gL hw⟩,⟨o3,ho3,λw hw=>h3.go a w gL hw⟩⟩⟩
theorem aM{L':List b_}{Fi:Fr}(kx:∀w,Mem W L' w->Mem W L0 w)(h:TW P n W ops Q L0 t Fi L'):TL P n W ops (after P W ops Q L0 t) [] Fi L':=
 ky ⟨λa _ hr hm=>⟨Mem W L',im _ _,kx,hm,h.go a hr⟩⟩
theorem QN(h:E n W .normal Q fr L):TW P n W ops Q L0 .done fr L:=⟨λa hr w hw=>h.go a w hr hw⟩
theorem kV{x y:Code}{ι:Type}(ah:ι->Prop)(F:ι->Fr)(M:ι->List b_)
 (hx:T P n W x (Exit.then (Mid n W ah F M) Q) fr L) (hy:∀i,ah i->T P n W y Q (F i) (M i)):T P n W x (Exit.then (y.wp P Q) Q) fr L:= .mk λa w hr hm=>
 wp_mono (hx.go a w hr hm) λe a w h=>by
  cases e with
  |normal=>obtain⟨i,h1,h2,h3⟩:=h;exact(hy i h1).go a w h2 h3
  |_=>exact h
structure TN(P:Program)(n:Nat)(W:bR)(ops:Array Oper)(Q:Exit->Act->World->Prop)(L0:List b_)(o:Oper)(t:Ord)(fr:Fr)(L:List b_):Prop where
 go:∀a,nj n a fr->∃v,(∀w,Mem W L0 w->oz P o a w v)/\Wc P ops Q (Mem W L0) t (a.put o.dst v) (Mem W L)
theorem We(ho:ops[i]?=aj o)(hg:o.guard=ak)(h:TN P n W ops Q L0 o t fr L):TW P n W ops Q L0 (.calm i t) fr L:=⟨λa gL=>by
 obtain⟨v,h1,h2⟩:=h.go a gL;exact⟨o,v,ho,by simp_all[pP],h2⟩⟩
theorem aaq{q e:Nat}{b:Bool}(ho:ops[i]?=aj o)(hg:o.guard=aj (q,b))(hj:(ops[q]?).bind (·.dst)=aj e)(hl:look fr e=aj (.bool b))(h:TN P n W ops Q L0 o t fr L):TW P n W ops Q L0 (.calm i t) fr L:=⟨λa gL=>by
 obtain⟨v,h1,h2⟩:=h.go a gL;exact⟨o,v,ho,by rw[if_pos (oD gL hg hj hl)];exact h1,h2⟩⟩
theorem adt(hr:RR P n W o fr L0 v)(hd:o.dst=aj d)(hn:dj d n=aD)(h:TW P n W ops Q L0 t ((d,v)::fr) L):TN P n W ops Q L0 o t fr L:=⟨λa gL=>
 ⟨v,λw hw=>by unfold oz;rw[hr.go a w gL hw];exact⟨rfl,Gr.refl _⟩,by rw[hd];exact h.go _ (gL.put hn v)⟩⟩
theorem QW(hr:RR P n W o fr L0 v)(h:TW P n W ops Q L0 t ((d,v)::fr) L)(hd:o.dst=aj d:=by exact I)(hn:dj d n=true:=by exact I):TN P n W ops Q L0 o t fr L:=adt hr hd hn h
end
end bZ
namespace bZ
open Go.RowKit cU dM
section
variable{P:Program}{n:Nat}{W:bR}{fr:Fr}{L L0:List b_}{Q:Exit->Act->World->Prop}{ops:Array Oper}{rest:List Oper}{d i:Nat}{o:Oper}{v:Value}{t:Ord}
inductive Gd(ops:Array Oper)(fr:Fr)(o:Oper):Prop
 |no (h:o.guard=ak)
 |yes (q e:Nat) (b:Bool) (hg:o.guard=aj (q,b)) (hj:(ops[q]?).bind (·.dst)=aj e) (hl:look fr e=aj (.bool b))
theorem RR.bare(h:RR P n W o fr L v):RR P n W {o with guard:=ak} fr L v:=⟨λa w hr hm=>h.go a w hr hm⟩
theorem afb(hr:RR P n W o fr L v)(hg:Gd ops fr o)(hd:o.dst=aj d)(hn:dj d n=aD)(h:TL P n W ops Q rest ((d,v)::fr) L):TL P n W ops Q (o::rest) fr L:=by
 rcases hg with hg|⟨q,e,b,hg,hj,hl⟩
 exact du hr hg hd hn h;exact B8 hg hj hl (du hr.bare I hd hn h)
theorem gV(hr:RR P n W o fr L v)(h:TL P n W ops Q rest ((d,v)::fr) L)(hg:Gd ops fr o:=by first|exact Gd.no I|exact Gd.yes _ _ _ I I I)(hd:o.dst=aj d:=by exact I)(hn:dj d n=true:=by exact I):TL P n W ops Q (o::rest) fr L:=afb hr hg hd hn h
theorem QK{dst:Option Tmp}{ty:TypeId}{pos:String}{after:Array Edge}{guard:Option (Nat×Bool)}{x:Operand}{a:Addr}(hx:ev fr x=aj (aJ (aj a)):=by exact I):RR P n W ⟨dst,.nilCheck x,ty,pos,after,guard⟩ fr L (aJ (aj a)):= .mk λact w hr _=>by
 simp[execOp,hr.ev hx]
end
structure Hid(B:Prop):Prop where
 go:B
theorem GC{A B:Prop}(h:B)(t:Hid B->A:=by
 intro h0
 first|refine gV QP ?_|refine QZ ?_|refine qcT I ?_|refine qcF I ?_|refine nt ?_|refine nu I ?_|refine qs I I I I I I ?_
 repeat (first|refine gV QP ?_|refine QZ ?_|refine qcT I ?_|refine qcF I ?_|refine nt ?_|refine nu I ?_|refine qs I I I I I I ?_)
 exact h0.go):A:=t ⟨h⟩
theorem GB{A B:Prop}(h:B)(t:Hid B->A:=by
 intro h0;refine gV (by first|exact QA|exact QK|exact QL|exact QS|exact H9 I I|exact QlT|exact QlF|exact QeT|exact QeF|exact QnT|exact QnF|exact QaA|exact QgT|exact QgF|exact QhT|exact QhF|exact QmT|exact QmF|exact QaS|exact QaM|exact CX I I J|exact V4 I I J) ?_;exact h0.go):A:=t ⟨h⟩
theorem GA{A B:Prop}(h:B)(t:Hid B->A:=by
 intro h0
 first|refine GC ?_|refine GB ?_
 repeat (first|refine GC ?_|refine GB ?_)
 exact h0.go):A:=t ⟨h⟩
theorem GD{A B:Prop}(h:B)(t:Hid B->A:=by
 intro h0;refine gV (by first|exact aC aK.ty I (by first|exact aH (i:=0) I I|exact aH (i:=1) I I|exact aH (i:=2) I I|exact aH (i:=3) I I|exact aH (i:=4) I I|exact aH (i:=5) I I|exact aH (i:=6) I I|exact aH (i:=7) I I|exact aH (i:=8) I I|exact aH (i:=9) I I|exact aH (i:=10) I I|exact aH (i:=11) I I|exact aH (i:=12) I I|exact aH (i:=13) I I|exact aH (i:=14) I I|exact aH (i:=15) I I)|exact aO (i:=0) aK.ty I I I|exact aO (i:=1) aK.ty I I I|exact aO (i:=2) aK.ty I I I|exact aO (i:=3) aK.ty I I I|exact aO (i:=4) aK.ty I I I|exact aO (i:=5) aK.ty I I I|exact aO (i:=6) aK.ty I I I|exact aO (i:=7) aK.ty I I I|exact aO (i:=8) aK.ty I I I|exact aO (i:=9) aK.ty I I I|exact aO (i:=10) aK.ty I I I|exact aO (i:=11) aK.ty I I I|exact aO (i:=12) aK.ty I I I|exact aO (i:=13) aK.ty I I I|exact aO (i:=14) aK.ty I I I|exact aO (i:=15) aK.ty I I I) ?_;exact h0.go):A:=t ⟨h⟩
theorem GK{A B:Prop}(h:B)(t:Hid B->A:=by
 intro h0
 first|refine GB ?_|refine GD ?_
 exact h0.go):A:=t ⟨h⟩
theorem GL{A B:Prop}(h:B)(t:Hid B->A:=by
 intro h0
 first|refine GA ?_|refine GD ?_
 exact h0.go):A:=t ⟨h⟩
theorem GM{A B:Prop}(h:B)(t:Hid B->A:=by
 intro h0;refine GL ?_
 repeat refine GL ?_
 exact h0.go):A:=t ⟨h⟩
theorem GN{A B:Prop}(h:B)(t:Hid B->A:=by
 intro h0
 first|refine We I I ?_|refine aaq I I I I ?_
 exact h0.go):A:=t ⟨h⟩
theorem GX{A B:Prop}(h:B)(t:Hid B->A:=by
 intro h0
 first|refine QW QP ?_|refine QW (by first|exact QA|exact QK|exact QL|exact QS|exact H9 I I|exact QlT|exact QlF|exact QeT|exact QeF|exact QnT|exact QnF|exact QaA|exact QgT|exact QgF|exact QhT|exact QhF|exact QmT|exact QmF|exact QaS|exact QaM|exact CX I I J|exact V4 I I J) ?_
 exact h0.go):A:=t ⟨h⟩
theorem GW{A B:Prop}(h:B)(t:Hid B->A:=by
 intro h0
 first|(refine GN ?_;refine GX ?_)|refine QM I I I I I I I ?_|refine QN ?_
 repeat (first|(refine GN ?_;refine GX ?_)|refine QM I I I I I I I ?_|refine QN ?_)
 exact h0.go):A:=t ⟨h⟩
section
variable{P:Program}{n:Nat}{W:bR}{fr:Fr}{L L':List b_}{Q:Exit->Act->World->Prop}{ops:Array Oper}{rest:List Oper}
theorem bW{ι:Type}{ah:ι->Prop}{F:ι->Fr}{M:ι->List b_}{μ:ι->Nat}{x:ι}(x':ι)(hi:ah x')(hμ:μ x'<μ x)(hf:Kp (F x') fr:=by repeat' (first|exact True.intro|refine And.intro rfl ?_))(hl:L=M x':=by exact rfl):
 E n W .normal (Exit.then (Rnd n W ah F M μ x) Q) fr L:=jy x' hi hμ hf hl
theorem dY{c:Code}{ι:Type}(ah:ι->Prop)(F:ι->Fr)(M:ι->List b_)(μ:ι->Nat)(x0:ι)(h0:ah x0)
 (round:∀x,ah x->T P n W c (Exit.then (Rnd n W ah F M μ x) Q) (F x) (M x)) (hf:Kp (F x0) fr:=by repeat' (first|exact True.intro|refine And.intro rfl ?_)) (hl:L=M x0:=by exact rfl):T P n W (.loop c) Q fr L:=nO ah F M μ x0 h0 hf hl round
theorem zL{A B:Prop}(h:B)(t:Hid B->A:=by
 intro h0
 (conv=>arg 8;simp only[zA,zB,zC,zD,zE,zF,zG,zH,zI,cL,ret,id_eq])
 exact h0.go):A:=t ⟨h⟩
end
theorem zJ:(∀{α:Type} {a:α} {l m:List α},a::l++m=a::(l++m))/\(∀{α:Type} {l:List α},[]++l=l)/\(∀{α:Type} {l:List α},l++[]=l)/\(∀{α β:Type} {f:α->Option β} {a:α} {l:List α},tv f (a::l)=match f a with
 |none=>tv f l
 |some b=>b::tv f l)/\(∀{α β:Type} {f:α->Option β},tv f []=[])/\(∀{α:Type} {a:α} {l:List α} {i:Nat},(a::l)[i+1]?=l[i]?)/\(∀{α:Type} {a:α} {l:List α},(a::l)[0]?=aj a)/\(∀{α:Type} {a b:α} {l:List α},(a::l).set 0 b=b::l)/\(∀{α:Type} {a b:α} {l:List α} {i:Nat},(a::l).set (i+1) b=a::l.set i b):=
 ⟨zA,zB,zC,zD,zE,zF,zG,zH,zI⟩
section
variable{P:Program}{n:Nat}{W:bR}{fr:Fr}{L L':List b_}{Q:Exit->Act->World->Prop}{ops:Array Oper}{rest:List Oper}
theorem bV(is:List Nat)(hn:is.Nodup:=by decide)(hl:L'=is.filterMap λi=>L[i]?:=by exact I):∀w,Mem W L w->Mem W L' w:=Wb is hn hl
theorem C3(is:List Nat)(h:TL P n W ops Q rest fr L')(hn:is.Nodup:=by decide)(hl:L'=is.filterMap λi=>L[i]?:=by exact I):TL P n W ops Q rest fr L:=aap is hn hl h
theorem tJ{c:Code}(is:List Nat)(h:T P n W c Q fr L')(hn:is.Nodup:=by decide)(hl:L'=is.filterMap λi=>L[i]?:=by exact I):T P n W c Q fr L:=adk is hn hl h
theorem dh{e:Exit}(is:List Nat)(h:E n W e Q fr L')(hn:is.Nodup:=by decide)(hl:L'=is.filterMap λi=>L[i]?:=by exact I):E n W e Q fr L:=adl is hn hl h
theorem dK{id:Nat}{l:List Oper}(L0:List b_)(t:Ord)(kx:∀w,Mem W L w->Mem W L0 w)(h:TW P n W l.toArray Q L0 t fr L)(hm:P.follows .mixedOrders=true:=by kernel_rfl)(hB:ads l t=true:=by kernel_rfl)
 (hQ:∀c a d v w,Q (.panic c) (qd a d v) w->Q (.panic c) a w:=by intro c a d v w h;cases d<;>exact h):T P n W (.region id l.toArray aD) Q fr L:=afa L0 t kx hm hB hQ h
theorem eE{fn:Func}{w0:World}{t:Tmp}{v:Value}(ns:fn.results=#[.tmp t]:=by exact I)(hv:look fr t=aj v:=by exact I):E n w0 .ret (bodyPost P fn (cz (ret v) w0)) fr L:=cJ ns hv λw hm=>hm.ret
theorem gh{ty:TypeId}{pos:String}{after:Array Edge}{t:TypeId}{p x:Operand}(i:Nat){g c:Nat}{cs cs':Array Value}{T:TypeId}{agg:Bool}[hT:aK P t agg c](h:TL P n W ops Q rest fr (L.set i (aP g cs' T)))(hi:L[i]?=aj (aP g cs T):=by exact I)(hp:ev fr p=aj (aJ (aj ⟨g,0,ak⟩)):=by exact I)(hx:ev fr x=aj (.agg cs'):=by exact I)(hv:cs'.size=c:=by exact I)(h1:cs'.toList.all eQ=true:=by exact I)(hc:cs.size=c:=by exact I):
 TL P n W ops Q (⟨ak,.store t p x,ty,pos,after,ak⟩::rest) fr L:=aV hi hp hx hv h1 hc h
end
end bZ
namespace bZ
instance:bL aB 2 (.int .i64):=⟨Tryz.underlying2⟩
instance:aK aB 2 aE 1:={}
instance:bT aB 2 #[av az 0]:={}
instance:bL aB 3 (.int .i64):=⟨Tryz.underlying3⟩
instance:aK aB 3 aE 1:={}
instance:bT aB 3 #[av az 0]:={}
instance:bL aB 4 (.bool):=⟨Tryz.underlying4⟩
instance:aK aB 4 aE 1:={}
instance:bT aB 4 #[.bool aE]:={}
instance:bL aB 5 (.int .u8):=⟨Tryz.underlying5⟩
instance:aK aB 5 aE 1:={}
instance:bT aB 5 #[.int .u8 0]:={}
instance:bJ aB 7 0 0:={}
instance:bJ aB 7 1 1:={}
instance:bJ aB 7 2 2:={}
instance:bJ aB 7 3 3:={}
instance:aK aB 7 aD 4:={}
instance:bT aB 7 #[av az 0,av az 0,.bool aE,.int .u8 0]:={}
instance:bL aB 9 (.string):=⟨Tryz.underlying9⟩
instance:aK aB 9 aE 1:={}
instance:bT aB 9 #[.string ⟨#[]⟩]:={}
instance:bL aB 12 (.int .u64):=⟨Tryz.underlying12⟩
instance:aK aB 12 aE 1:={}
instance:bT aB 12 #[.int .u64 0]:={}
instance:bJ aB 13 0 0:={}
instance:bJ aB 13 1 1:={}
instance:aK aB 13 aD 2:={}
instance:bT aB 13 #[.string ⟨#[]⟩,.int .u64 0]:={}
instance:bL aB 21 (.int .i32):=⟨Tryz.underlying21⟩
instance:aK aB 21 aE 1:={}
instance:bT aB 21 #[.int .i32 0]:={}
instance:bL aB 22 (.slice 83):=⟨Tryz.underlying22⟩
instance:aK aB 22 aE 1:={}
instance:qN aB 22 83 7 80:={}
instance:bT aB 22 #[ap ak 0 0]:={}
instance:bL aB 23 (.slice 86):=⟨Tryz.underlying23⟩
instance:aK aB 23 aE 1:={}
instance:qN aB 23 86 2 40:={}
instance:bT aB 23 #[ap ak 0 0]:={}
instance:bJ aB 24 0 0:={}
instance:bJ aB 24 1 1:={}
instance:aK aB 24 aD 2:={}
instance:bT aB 24 #[ap ak 0 0,ap ak 0 0]:={}
instance:bJ aB 25 0 0:={}
instance:bJ aB 25 1 1:={}
instance:aK aB 25 aD 2:={}
instance:bT aB 25 #[ap ak 0 0,ap ak 0 0]:={}
instance:bL aB 26 (.slice 49):=⟨Tryz.underlying26⟩
instance:aK aB 26 aE 1:={}
instance:qN aB 26 49 3 32:={}
instance:bT aB 26 #[ap ak 0 0]:={}
instance:bL aB 27 (.slice 3):=⟨Tryz.underlying27⟩
instance:aK aB 27 aE 1:={}
instance:qN aB 27 3 1 8:={}
instance:bT aB 27 #[ap ak 0 0]:={}
instance:bL aB 28 (.array 256 5):=⟨Tryz.underlying28⟩
instance:aK aB 28 aD 256:={}
instance:bT aB 28 (cZ 256 (.int .u8 0:Value)).toArray:={}
instance:bL aB 29 (.slice 27):=⟨Tryz.underlying29⟩
instance:aK aB 29 aE 1:={}
instance:qN aB 29 27 1 24:={}
instance:bT aB 29 #[ap ak 0 0]:={}
instance:bJ aB 30 0 0:={}
instance:bJ aB 30 1 256:={}
instance:bJ aB 30 2 257:={}
instance:aK aB 30 aD 258:={}
instance:bT aB 30 (cZ 256 (.int .u8 0:Value)++([ap ak 0 0,ap ak 0 0]:List Value)).toArray:={}
instance:bJ aB 31 0 0:={}
instance:bJ aB 31 1 256:={}
instance:bJ aB 31 2 257:={}
instance:aK aB 31 aD 258:={}
instance:bT aB 31 (cZ 256 (.int .u8 0:Value)++([ap ak 0 0,ap ak 0 0]:List Value)).toArray:={}
instance:bL aB 32 (.slice 132):=⟨Tryz.underlying32⟩
instance:aK aB 32 aE 1:={}
instance:qN aB 32 132 2 32:={}
instance:bT aB 32 #[ap ak 0 0]:={}
instance:bJ aB 33 0 0:={}
instance:bJ aB 33 1 1:={}
instance:bJ aB 33 2 2:={}
instance:aK aB 33 aD 3:={}
instance:bT aB 33 #[av az 0,av az 0,ap ak 0 0]:={}
instance:bJ aB 34 0 0:={}
instance:bJ aB 34 1 1:={}
instance:bJ aB 34 2 2:={}
instance:aK aB 34 aD 3:={}
instance:bT aB 34 #[av az 0,av az 0,ap ak 0 0]:={}
instance:bL aB 35 (.slice 143):=⟨Tryz.underlying35⟩
instance:aK aB 35 aE 1:={}
instance:qN aB 35 143 1 24:={}
instance:bT aB 35 #[ap ak 0 0]:={}
instance:bJ aB 36 0 0:={}
instance:bJ aB 36 1 1:={}
instance:aK aB 36 aD 2:={}
instance:bT aB 36 #[ap ak 0 0,ap ak 0 0]:={}
instance:bJ aB 37 0 0:={}
instance:bJ aB 37 1 1:={}
instance:aK aB 37 aD 2:={}
instance:bT aB 37 #[ap ak 0 0,ap ak 0 0]:={}
instance:bJ aB 38 0 0:={}
instance:bJ aB 38 1 1:={}
instance:bJ aB 38 2 259:={}
instance:bJ aB 38 3 262:={}
instance:bJ aB 38 4 263:={}
instance:bJ aB 38 5 264:={}
instance:aK aB 38 aD 266:={}
instance:bT aB 38 (([ap ak 0 0]:List Value)++cZ 256 (.int .u8 0:Value)++([ap ak 0 0,ap ak 0 0,av az 0,av az 0,ap ak 0 0,av az 0,ap ak 0 0,ap ak 0 0,ap ak 0 0]:List Value)).toArray:={}
instance:bJ aB 39 0 0:={}
instance:bJ aB 39 1 1:={}
instance:bJ aB 39 2 259:={}
instance:bJ aB 39 3 262:={}
instance:bJ aB 39 4 263:={}
instance:bJ aB 39 5 264:={}
instance:aK aB 39 aD 266:={}
instance:bT aB 39 (([ap ak 0 0]:List Value)++cZ 256 (.int .u8 0:Value)++([ap ak 0 0,ap ak 0 0,av az 0,av az 0,ap ak 0 0,av az 0,ap ak 0 0,ap ak 0 0,ap ak 0 0]:List Value)).toArray:={}
instance:bL aB 40 (.int .i64):=⟨Tryz.underlying40⟩
instance:aK aB 40 aE 1:={}
instance:bT aB 40 #[av az 0]:={}
instance:bL aB 44 (.pointer 102):=⟨Tryz.underlying44⟩
instance:aK aB 44 aE 1:={}
instance:bT aB 44 #[aJ ak]:={}
instance:bJ aB 48 0 0:={}
instance:bJ aB 48 1 1:={}
instance:bJ aB 48 2 2:={}
instance:aK aB 48 aD 3:={}
instance:bT aB 48 #[av az 0,av az 0,.string ⟨#[]⟩]:={}
instance:bJ aB 49 0 0:={}
instance:bJ aB 49 1 1:={}
instance:bJ aB 49 2 2:={}
instance:aK aB 49 aD 3:={}
instance:bT aB 49 #[av az 0,av az 0,.string ⟨#[]⟩]:={}
instance:bL aB 53 (.slice 168):=⟨Tryz.underlying53⟩
instance:aK aB 53 aE 1:={}
instance:qN aB 53 168 2 16:={}
instance:bT aB 53 #[ap ak 0 0]:={}
instance:bL aB 61 (.pointer 39):=⟨Tryz.underlying61⟩
instance:aK aB 61 aE 1:={}
instance:bT aB 61 #[aJ ak]:={}
instance:bL aB 62 (.slice 4):=⟨Tryz.underlying62⟩
instance:aK aB 62 aE 1:={}
instance:qN aB 62 4 1 1:={}
instance:bT aB 62 #[ap ak 0 0]:={}
instance:bL aB 63 (.slice 75):=⟨Tryz.underlying63⟩
instance:aK aB 63 aE 1:={}
instance:qN aB 63 75 1 8:={}
instance:bT aB 63 #[ap ak 0 0]:={}
instance:bJ aB 64 0 0:={}
instance:bJ aB 64 1 1:={}
instance:bJ aB 64 2 2:={}
instance:bJ aB 64 3 3:={}
instance:bJ aB 64 4 4:={}
instance:aK aB 64 aD 5:={}
instance:bT aB 64 #[ap ak 0 0,ap ak 0 0,ap ak 0 0,ap ak 0 0,ap ak 0 0]:={}
instance:bJ aB 65 0 0:={}
instance:bJ aB 65 1 1:={}
instance:bJ aB 65 2 2:={}
instance:bJ aB 65 3 3:={}
instance:bJ aB 65 4 4:={}
instance:aK aB 65 aD 5:={}
instance:bT aB 65 #[ap ak 0 0,ap ak 0 0,ap ak 0 0,ap ak 0 0,ap ak 0 0]:={}
instance:bL aB 69 (.slice 137):=⟨Tryz.underlying69⟩
instance:aK aB 69 aE 1:={}
instance:qN aB 69 137 4 32:={}
instance:bT aB 69 #[ap ak 0 0]:={}
instance:bL aB 72 (.slice 148):=⟨Tryz.underlying72⟩
instance:aK aB 72 aE 1:={}
instance:qN aB 72 148 6 48:={}
instance:bT aB 72 #[ap ak 0 0]:={}
instance:bL aB 75 (.int .u64):=⟨Tryz.underlying75⟩
instance:aK aB 75 aE 1:={}
instance:bT aB 75 #[.int .u64 0]:={}
instance:bL aB 76 (.array 4 75):=⟨Tryz.underlying76⟩
instance:aK aB 76 aD 4:={}
instance:bT aB 76 #[.int .u64 0,.int .u64 0,.int .u64 0,.int .u64 0]:={}
instance:bL aB 77 (.array 4 75):=⟨Tryz.underlying77⟩
instance:aK aB 77 aD 4:={}
instance:bT aB 77 #[.int .u64 0,.int .u64 0,.int .u64 0,.int .u64 0]:={}
instance:bL aB 78 (.slice 80):=⟨Tryz.underlying78⟩
instance:aK aB 78 aE 1:={}
instance:qN aB 78 80 6 64:={}
instance:bT aB 78 #[ap ak 0 0]:={}
instance:bJ aB 79 0 0:={}
instance:bJ aB 79 1 1:={}
instance:bJ aB 79 2 5:={}
instance:aK aB 79 aD 6:={}
instance:bT aB 79 #[av az 0,.int .u64 0,.int .u64 0,.int .u64 0,.int .u64 0,ap ak 0 0]:={}
instance:bJ aB 80 0 0:={}
instance:bJ aB 80 1 1:={}
instance:bJ aB 80 2 5:={}
instance:aK aB 80 aD 6:={}
instance:bT aB 80 #[av az 0,.int .u64 0,.int .u64 0,.int .u64 0,.int .u64 0,ap ak 0 0]:={}
instance:bJ aB 82 0 0:={}
instance:bJ aB 82 1 1:={}
instance:aK aB 82 aD 7:={}
instance:bT aB 82 #[.string ⟨#[]⟩,av az 0,.int .u64 0,.int .u64 0,.int .u64 0,.int .u64 0,ap ak 0 0]:={}
instance:bJ aB 83 0 0:={}
instance:bJ aB 83 1 1:={}
instance:aK aB 83 aD 7:={}
instance:bT aB 83 #[.string ⟨#[]⟩,av az 0,.int .u64 0,.int .u64 0,.int .u64 0,.int .u64 0,ap ak 0 0]:={}
instance:bL aB 84 (.slice 9):=⟨Tryz.underlying84⟩
instance:aK aB 84 aE 1:={}
instance:qN aB 84 9 1 16:={}
instance:bT aB 84 #[ap ak 0 0]:={}
instance:bJ aB 85 0 0:={}
instance:bJ aB 85 1 1:={}
instance:aK aB 85 aD 2:={}
instance:bT aB 85 #[.string ⟨#[]⟩,ap ak 0 0]:={}
instance:bJ aB 86 0 0:={}
instance:bJ aB 86 1 1:={}
instance:aK aB 86 aD 2:={}
instance:bT aB 86 #[.string ⟨#[]⟩,ap ak 0 0]:={}
instance:bL aB 89 (.slice 159):=⟨Tryz.underlying89⟩
instance:aK aB 89 aE 1:={}
instance:qN aB 89 159 4 32:={}
instance:bT aB 89 #[ap ak 0 0]:={}
instance:bJ aB 90 0 0:={}
instance:bJ aB 90 1 1:={}
instance:bJ aB 90 2 2:={}
instance:bJ aB 90 3 3:={}
instance:aK aB 90 aD 4:={}
instance:bT aB 90 #[ap ak 0 0,av az 0,av az 0,.bool aE]:={}
instance:bJ aB 91 0 0:={}
instance:bJ aB 91 1 1:={}
instance:bJ aB 91 2 2:={}
instance:bJ aB 91 3 3:={}
instance:aK aB 91 aD 4:={}
instance:bT aB 91 #[ap ak 0 0,av az 0,av az 0,.bool aE]:={}
instance:bJ aB 93 0 0:={}
instance:bJ aB 93 1 1:={}
instance:bJ aB 93 2 2:={}
instance:bJ aB 93 3 3:={}
instance:aK aB 93 aD 4:={}
instance:bT aB 93 #[ap ak 0 0,av az 0,av az 0,.bool aE]:={}
instance:bJ aB 94 0 0:={}
instance:bJ aB 94 1 1:={}
instance:bJ aB 94 2 2:={}
instance:bJ aB 94 3 3:={}
instance:aK aB 94 aD 4:={}
instance:bT aB 94 #[ap ak 0 0,av az 0,av az 0,.bool aE]:={}
instance:bJ aB 96 0 0:={}
instance:bJ aB 96 1 1:={}
instance:bJ aB 96 2 2:={}
instance:aK aB 96 aD 3:={}
instance:bT aB 96 #[av az 0,.string ⟨#[]⟩,av az 0]:={}
instance:bJ aB 97 0 0:={}
instance:bJ aB 97 1 1:={}
instance:bJ aB 97 2 2:={}
instance:aK aB 97 aD 3:={}
instance:bT aB 97 #[av az 0,.string ⟨#[]⟩,av az 0]:={}
instance:bL aB 98 (.slice 163):=⟨Tryz.underlying98⟩
instance:aK aB 98 aE 1:={}
instance:qN aB 98 163 3 24:={}
instance:bT aB 98 #[ap ak 0 0]:={}
instance:bJ aB 99 0 0:={}
instance:bJ aB 99 1 1:={}
instance:bJ aB 99 2 2:={}
instance:aK aB 99 aD 3:={}
instance:bT aB 99 #[ap ak 0 0,av az 0,av az 0]:={}
instance:bJ aB 100 0 0:={}
instance:bJ aB 100 1 1:={}
instance:bJ aB 100 2 2:={}
instance:aK aB 100 aD 3:={}
instance:bT aB 100 #[ap ak 0 0,av az 0,av az 0]:={}
instance:bJ aB 101 0 0:={}
instance:bJ aB 101 1 266:={}
instance:bJ aB 101 2 267:={}
instance:bJ aB 101 3 268:={}
instance:bJ aB 101 4 269:={}
instance:bJ aB 101 5 270:={}
instance:bJ aB 101 6 271:={}
instance:bJ aB 101 7 272:={}
instance:bJ aB 101 8 275:={}
instance:bJ aB 101 9 276:={}
instance:bJ aB 101 10 277:={}
instance:bJ aB 101 11 281:={}
instance:bJ aB 101 12 285:={}
instance:bJ aB 101 13 288:={}
instance:bJ aB 101 14 289:={}
instance:bJ aB 101 15 290:={}
instance:aK aB 101 aD 291:={}
instance:bT aB 101 (([ap ak 0 0]:List Value)++cZ 256 (.int .u8 0:Value)++([ap ak 0 0,ap ak 0 0,av az 0,av az 0,ap ak 0 0,av az 0,ap ak 0 0,ap ak 0 0,ap ak 0 0,av az 0,av az 0,av az 0,.string ⟨#[]⟩,.bool aE,.bool aE,av az 0,.string ⟨#[]⟩,av az 0,av az 0,ap ak 0 0,ap ak 0 0,av az 0,av az 0,.bool aE,ap ak 0 0,av az 0,av az 0,.bool aE,ap ak 0 0,av az 0,av az 0,.bool aE,av az 0,av az 0]:List Value)).toArray:={}
instance:bJ aB 102 0 0:={}
instance:bJ aB 102 1 266:={}
instance:bJ aB 102 2 267:={}
instance:bJ aB 102 3 268:={}
instance:bJ aB 102 4 269:={}
instance:bJ aB 102 5 270:={}
instance:bJ aB 102 6 271:={}
instance:bJ aB 102 7 272:={}
instance:bJ aB 102 8 275:={}
instance:bJ aB 102 9 276:={}
instance:bJ aB 102 10 277:={}
instance:bJ aB 102 11 281:={}
instance:bJ aB 102 12 285:={}
instance:bJ aB 102 13 288:={}
instance:bJ aB 102 14 289:={}
instance:bJ aB 102 15 290:={}
instance:aK aB 102 aD 291:={}
instance:bT aB 102 (([ap ak 0 0]:List Value)++cZ 256 (.int .u8 0:Value)++([ap ak 0 0,ap ak 0 0,av az 0,av az 0,ap ak 0 0,av az 0,ap ak 0 0,ap ak 0 0,ap ak 0 0,av az 0,av az 0,av az 0,.string ⟨#[]⟩,.bool aE,.bool aE,av az 0,.string ⟨#[]⟩,av az 0,av az 0,ap ak 0 0,ap ak 0 0,av az 0,av az 0,.bool aE,ap ak 0 0,av az 0,av az 0,.bool aE,ap ak 0 0,av az 0,av az 0,.bool aE,av az 0,av az 0]:List Value)).toArray:={}
instance:bL aB 109 (.map 9 3):=⟨Tryz.underlying109⟩
instance:aK aB 109 aE 1:={}
instance:bT aB 109 #[.map ak]:={}
instance:bL aB 113 (.slice 77):=⟨Tryz.underlying113⟩
instance:aK aB 113 aE 1:={}
instance:qN aB 113 77 4 32:={}
instance:bT aB 113 #[ap ak 0 0]:={}
instance:bJ aB 114 0 0:={}
instance:bJ aB 114 1 1:={}
instance:bJ aB 114 2 2:={}
instance:bJ aB 114 3 3:={}
instance:bJ aB 114 4 4:={}
instance:bJ aB 114 5 5:={}
instance:aK aB 114 aD 6:={}
instance:bT aB 114 #[ap ak 0 0,ap ak 0 0,ap ak 0 0,ap ak 0 0,ap ak 0 0,ap ak 0 0]:={}
instance:bJ aB 115 0 0:={}
instance:bJ aB 115 1 1:={}
instance:bJ aB 115 2 2:={}
instance:bJ aB 115 3 3:={}
instance:bJ aB 115 4 4:={}
instance:bJ aB 115 5 5:={}
instance:aK aB 115 aD 6:={}
instance:bT aB 115 #[ap ak 0 0,ap ak 0 0,ap ak 0 0,ap ak 0 0,ap ak 0 0,ap ak 0 0]:={}
instance:bL aB 118 (.slice 187):=⟨Tryz.underlying118⟩
instance:aK aB 118 aE 1:={}
instance:qN aB 118 187 256 512:={}
instance:bT aB 118 #[ap ak 0 0]:={}
instance:bJ aB 119 0 0:={}
instance:bJ aB 119 1 1:={}
instance:aK aB 119 aD 2:={}
instance:bT aB 119 #[ap ak 0 0,ap ak 0 0]:={}
instance:bJ aB 120 0 0:={}
instance:bJ aB 120 1 1:={}
instance:aK aB 120 aD 2:={}
instance:bT aB 120 #[ap ak 0 0,ap ak 0 0]:={}
instance:bL aB 130 (.slice 156):=⟨Tryz.underlying130⟩
instance:aK aB 130 aE 1:={}
instance:qN aB 130 156 2 16:={}
instance:bT aB 130 #[ap ak 0 0]:={}
instance:bJ aB 131 0 0:={}
instance:bJ aB 131 1 1:={}
instance:aK aB 131 aD 2:={}
instance:bT aB 131 #[av az 0,ap ak 0 0]:={}
instance:bJ aB 132 0 0:={}
instance:bJ aB 132 1 1:={}
instance:aK aB 132 aD 2:={}
instance:bT aB 132 #[av az 0,ap ak 0 0]:={}
instance:bJ aB 136 0 0:={}
instance:bJ aB 136 1 1:={}
instance:bJ aB 136 2 2:={}
instance:bJ aB 136 3 3:={}
instance:aK aB 136 aD 4:={}
instance:bT aB 136 #[av az 0,av az 0,av az 0,av az 0]:={}
instance:bJ aB 137 0 0:={}
instance:bJ aB 137 1 1:={}
instance:bJ aB 137 2 2:={}
instance:bJ aB 137 3 3:={}
instance:aK aB 137 aD 4:={}
instance:bT aB 137 #[av az 0,av az 0,av az 0,av az 0]:={}
instance:bL aB 138 (.slice 203):=⟨Tryz.underlying138⟩
instance:aK aB 138 aE 1:={}
instance:qN aB 138 203 1 24:={}
instance:bT aB 138 #[ap ak 0 0]:={}
instance:bJ aB 139 0 0:={}
instance:bJ aB 139 1 1:={}
instance:aK aB 139 aD 2:={}
instance:bT aB 139 #[ap ak 0 0,ap ak 0 0]:={}
instance:bJ aB 140 0 0:={}
instance:bJ aB 140 1 1:={}
instance:aK aB 140 aD 2:={}
instance:bT aB 140 #[ap ak 0 0,ap ak 0 0]:={}
instance:bL aB 143 (.slice 146):=⟨Tryz.underlying143⟩
instance:aK aB 143 aE 1:={}
instance:qN aB 143 146 2 16:={}
instance:bT aB 143 #[ap ak 0 0]:={}
instance:bJ aB 145 0 0:={}
instance:bJ aB 145 1 1:={}
instance:aK aB 145 aD 2:={}
instance:bT aB 145 #[av az 0,av az 0]:={}
instance:bJ aB 146 0 0:={}
instance:bJ aB 146 1 1:={}
instance:aK aB 146 aD 2:={}
instance:bT aB 146 #[av az 0,av az 0]:={}
instance:bJ aB 147 0 0:={}
instance:bJ aB 147 1 1:={}
instance:bJ aB 147 2 2:={}
instance:bJ aB 147 3 4:={}
instance:aK aB 147 aD 6:={}
instance:bT aB 147 #[av az 0,av az 0,av az 0,av az 0,av az 0,av az 0]:={}
instance:bJ aB 148 0 0:={}
instance:bJ aB 148 1 1:={}
instance:bJ aB 148 2 2:={}
instance:bJ aB 148 3 4:={}
instance:aK aB 148 aD 6:={}
instance:bT aB 148 #[av az 0,av az 0,av az 0,av az 0,av az 0,av az 0]:={}
instance:bJ aB 156 0 0:={}
instance:bJ aB 156 1 1:={}
instance:aK aB 156 aD 2:={}
instance:bT aB 156 #[av az 0,av az 0]:={}
instance:bJ aB 158 0 0:={}
instance:bJ aB 158 1 1:={}
instance:bJ aB 158 2 2:={}
instance:aK aB 158 aD 4:={}
instance:bT aB 158 #[.bool aE,av az 0,av az 0,av az 0]:={}
instance:bJ aB 159 0 0:={}
instance:bJ aB 159 1 1:={}
instance:bJ aB 159 2 2:={}
instance:aK aB 159 aD 4:={}
instance:bT aB 159 #[.bool aE,av az 0,av az 0,av az 0]:={}
instance:bJ aB 162 0 0:={}
instance:bJ aB 162 1 1:={}
instance:bJ aB 162 2 2:={}
instance:aK aB 162 aD 3:={}
instance:bT aB 162 #[av az 0,av az 0,av az 0]:={}
instance:bJ aB 163 0 0:={}
instance:bJ aB 163 1 1:={}
instance:bJ aB 163 2 2:={}
instance:aK aB 163 aD 3:={}
instance:bT aB 163 #[av az 0,av az 0,av az 0]:={}
instance:bJ aB 168 0 0:={}
instance:bJ aB 168 1 1:={}
instance:aK aB 168 aD 2:={}
instance:bT aB 168 #[av az 0,av az 0]:={}
instance:bL aB 170 (.pointer 172):=⟨Tryz.underlying170⟩
instance:aK aB 170 aE 1:={}
instance:bT aB 170 #[aJ ak]:={}
instance:bJ aB 171 0 0:={}
instance:bJ aB 171 1 6:={}
instance:aK aB 171 aD 7:={}
instance:bT aB 171 #[ap ak 0 0,ap ak 0 0,ap ak 0 0,ap ak 0 0,ap ak 0 0,ap ak 0 0,av az 0]:={}
instance:bJ aB 172 0 0:={}
instance:bJ aB 172 1 6:={}
instance:aK aB 172 aD 7:={}
instance:bT aB 172 #[ap ak 0 0,ap ak 0 0,ap ak 0 0,ap ak 0 0,ap ak 0 0,ap ak 0 0,av az 0]:={}
instance:bJ aB 173 0 0:={}
instance:bJ aB 173 1 1:={}
instance:bJ aB 173 2 2:={}
instance:aK aB 173 aD 3:={}
instance:bT aB 173 #[.bool aE,ap ak 0 0,ap ak 0 0]:={}
instance:bJ aB 174 0 0:={}
instance:bJ aB 174 1 1:={}
instance:bJ aB 174 2 2:={}
instance:aK aB 174 aD 3:={}
instance:bT aB 174 #[.bool aE,ap ak 0 0,ap ak 0 0]:={}
instance:bL aB 177 (.map 9 156):=⟨Tryz.underlying177⟩
instance:aK aB 177 aE 1:={}
instance:bT aB 177 #[.map ak]:={}
instance:bL aB 180 (.pointer 184):=⟨Tryz.underlying180⟩
instance:aK aB 180 aE 1:={}
instance:bT aB 180 #[aJ ak]:={}
instance:bL aB 181 (.slice 233):=⟨Tryz.underlying181⟩
instance:aK aB 181 aE 1:={}
instance:qN aB 181 233 4 32:={}
instance:bT aB 181 #[ap ak 0 0]:={}
instance:bL aB 182 (.map 233 3):=⟨Tryz.underlying182⟩
instance:aK aB 182 aE 1:={}
instance:bT aB 182 #[.map ak]:={}
instance:bJ aB 183 0 0:={}
instance:bJ aB 183 1 6:={}
instance:bJ aB 183 2 7:={}
instance:bJ aB 183 3 8:={}
instance:aK aB 183 aD 10:={}
instance:bT aB 183 #[ap ak 0 0,ap ak 0 0,ap ak 0 0,ap ak 0 0,ap ak 0 0,ap ak 0 0,ap ak 0 0,.map ak,ap ak 0 0,ap ak 0 0]:={}
instance:bJ aB 184 0 0:={}
instance:bJ aB 184 1 6:={}
instance:bJ aB 184 2 7:={}
instance:bJ aB 184 3 8:={}
instance:aK aB 184 aD 10:={}
instance:bT aB 184 #[ap ak 0 0,ap ak 0 0,ap ak 0 0,ap ak 0 0,ap ak 0 0,ap ak 0 0,ap ak 0 0,.map ak,ap ak 0 0,ap ak 0 0]:={}
instance:bL aB 185 (.int .i16):=⟨Tryz.underlying185⟩
instance:aK aB 185 aE 1:={}
instance:bT aB 185 #[.int .i16 0]:={}
instance:bL aB 186 (.array 256 185):=⟨Tryz.underlying186⟩
instance:aK aB 186 aD 256:={}
instance:bT aB 186 (cZ 256 (.int .i16 0:Value)).toArray:={}
instance:bL aB 187 (.array 256 185):=⟨Tryz.underlying187⟩
instance:aK aB 187 aD 256:={}
instance:bT aB 187 (cZ 256 (.int .i16 0:Value)).toArray:={}
instance:bL aB 192 (.map 193 3):=⟨Tryz.underlying192⟩
instance:aK aB 192 aE 1:={}
instance:bT aB 192 #[.map ak]:={}
instance:bL aB 193 (.array 200 185):=⟨Tryz.underlying193⟩
instance:aK aB 193 aD 200:={}
instance:bT aB 193 (cZ 200 (.int .i16 0:Value)).toArray:={}
instance:bL aB 201 (.pointer 245):=⟨Tryz.underlying201⟩
instance:aK aB 201 aE 1:={}
instance:bT aB 201 #[aJ ak]:={}
instance:bL aB 203 (.slice 208):=⟨Tryz.underlying203⟩
instance:aK aB 203 aE 1:={}
instance:qN aB 203 208 3 24:={}
instance:bT aB 203 #[ap ak 0 0]:={}
instance:bJ aB 207 0 0:={}
instance:bJ aB 207 1 1:={}
instance:bJ aB 207 2 2:={}
instance:aK aB 207 aD 3:={}
instance:bT aB 207 #[av az 0,av az 0,av az 0]:={}
instance:bJ aB 208 0 0:={}
instance:bJ aB 208 1 1:={}
instance:bJ aB 208 2 2:={}
instance:aK aB 208 aD 3:={}
instance:bT aB 208 #[av az 0,av az 0,av az 0]:={}
instance:bL aB 211 (.int .u64):=⟨Tryz.underlying211⟩
instance:aK aB 211 aE 1:={}
instance:bT aB 211 #[.int .u64 0]:={}
instance:bL aB 229 (.pointer 3):=⟨Tryz.underlying229⟩
instance:aK aB 229 aE 1:={}
instance:bT aB 229 #[aJ ak]:={}
instance:bL aB 233 (.array 4 75):=⟨Tryz.underlying233⟩
instance:aK aB 233 aD 4:={}
instance:bT aB 233 #[.int .u64 0,.int .u64 0,.int .u64 0,.int .u64 0]:={}
instance:bL aB 239 (.map 241 3):=⟨Tryz.underlying239⟩
instance:aK aB 239 aE 1:={}
instance:bT aB 239 #[.map ak]:={}
instance:bJ aB 240 0 0:={}
instance:bJ aB 240 1 1:={}
instance:aK aB 240 aD 257:={}
instance:bT aB 240 (([av az 0]:List Value)++cZ 256 (.int .i16 0:Value)).toArray:={}
instance:bJ aB 241 0 0:={}
instance:bJ aB 241 1 1:={}
instance:aK aB 241 aD 257:={}
instance:bT aB 241 (([av az 0]:List Value)++cZ 256 (.int .i16 0:Value)).toArray:={}
instance:bL aB 243 (.map 272 75):=⟨Tryz.underlying243⟩
instance:aK aB 243 aE 1:={}
instance:bT aB 243 #[.map ak]:={}
instance:bJ aB 244 0 0:={}
instance:bJ aB 244 1 3:={}
instance:aK aB 244 aD 4:={}
instance:bT aB 244 #[av az 0,av az 0,ap ak 0 0,.map ak]:={}
instance:bJ aB 245 0 0:={}
instance:bJ aB 245 1 3:={}
instance:aK aB 245 aD 4:={}
instance:bT aB 245 #[av az 0,av az 0,ap ak 0 0,.map ak]:={}
instance:bL aB 246 (.slice 5):=⟨Tryz.underlying246⟩
instance:aK aB 246 aE 1:={}
instance:qN aB 246 5 1 1:={}
instance:bT aB 246 #[ap ak 0 0]:={}
instance:bL aB 247 (.map 208 3):=⟨Tryz.underlying247⟩
instance:aK aB 247 aE 1:={}
instance:bT aB 247 #[.map ak]:={}
instance:bL aB 256 (.pointer 260):=⟨Tryz.underlying256⟩
instance:aK aB 256 aE 1:={}
instance:bT aB 256 #[aJ ak]:={}
instance:bJ aB 259 0 0:={}
instance:bJ aB 259 1 3:={}
instance:bJ aB 259 2 4:={}
instance:bJ aB 259 3 5:={}
instance:aK aB 259 aD 6:={}
instance:bT aB 259 #[av az 0,av az 0,ap ak 0 0,ap ak 0 0,ap ak 0 0,av az 0]:={}
instance:bJ aB 260 0 0:={}
instance:bJ aB 260 1 3:={}
instance:bJ aB 260 2 4:={}
instance:bJ aB 260 3 5:={}
instance:aK aB 260 aD 6:={}
instance:bT aB 260 #[av az 0,av az 0,ap ak 0 0,ap ak 0 0,ap ak 0 0,av az 0]:={}
instance:bL aB 270 (.pointer 233):=⟨Tryz.underlying270⟩
instance:aK aB 270 aE 1:={}
instance:bT aB 270 #[aJ ak]:={}
instance:bJ aB 271 0 0:={}
instance:bJ aB 271 1 1:={}
instance:aK aB 271 aD 2:={}
instance:bT aB 271 #[av az 0,av az 0]:={}
instance:bJ aB 272 0 0:={}
instance:bJ aB 272 1 1:={}
instance:aK aB 272 aD 2:={}
instance:bT aB 272 #[av az 0,av az 0]:={}
instance:bL aB 285 (.int .i64):=⟨Tryz.underlying285⟩
instance:aK aB 285 aE 1:={}
instance:bT aB 285 #[av az 0]:={}
instance:bL aB 292 (.int .u32):=⟨Tryz.underlying292⟩
instance:aK aB 292 aE 1:={}
instance:bT aB 292 #[.int .u32 0]:={}
instance:bL aB 301 (.int .u64):=⟨Tryz.underlying301⟩
instance:aK aB 301 aE 1:={}
instance:bT aB 301 #[.int .u64 0]:={}
instance:bL aB 308 (.pointer 301):=⟨Tryz.underlying308⟩
instance:aK aB 308 aE 1:={}
instance:bT aB 308 #[aJ ak]:={}
instance:bL aB 321 (.pointer 5):=⟨Tryz.underlying321⟩
instance:aK aB 321 aE 1:={}
instance:bT aB 321 #[aJ ak]:={}
instance:bJ aB 324 0 0:={}
instance:bJ aB 324 1 1:={}
instance:bJ aB 324 2 2:={}
instance:bJ aB 324 3 3:={}
instance:bJ aB 324 4 4:={}
instance:bJ aB 324 5 5:={}
instance:bJ aB 324 6 6:={}
instance:bJ aB 324 7 7:={}
instance:bJ aB 324 8 8:={}
instance:bJ aB 324 9 9:={}
instance:bJ aB 324 10 10:={}
instance:aK aB 324 aD 11:={}
instance:bT aB 324 #[.int .u64 0,.int .u64 0,.int .u32 0,.int .u8 0,.int .u8 0,.int .u8 0,.int .u8 0,.nilFunc,aJ ak,.int .i32 0,.int .i32 0]:={}
instance:aI aB 3:={}
instance:aI aB 4:={}
instance:aI aB 5:={}
instance:aI aB 6:={}
instance:aI aB 7:={}
instance:aI aB 8:={}
instance:aI aB 9:={}
instance:aI aB 10:={}
instance:aI aB 11:={}
instance:aI aB 12:={}
instance:aI aB 13:={}
instance:aI aB 14:={}
instance:aI aB 15:={}
instance:aI aB 16:={}
instance:aI aB 17:={}
instance:aI aB 18:={}
instance:aI aB 19:={}
instance:aI aB 20:={}
instance:aI aB 21:={}
instance:aI aB 22:={}
instance:aI aB 23:={}
instance:aI aB 24:={}
instance:aI aB 25:={}
instance:aI aB 26:={}
instance:aI aB 27:={}
instance:aI aB 28:={}
instance:aI aB 29:={}
instance:aI aB 30:={}
instance:aI aB 31:={}
instance:aI aB 32:={}
instance:aI aB 33:={}
instance:aI aB 34:={}
instance:aI aB 35:={}
instance:aI aB 36:={}
instance:aI aB 37:={}
instance:aI aB 38:={}
instance:aI aB 39:={}
instance:aI aB 40:={}
instance:aI aB 41:={}
instance:aI aB 42:={}
instance:aI aB 43:={}
instance:aI aB 44:={}
instance:aI aB 45:={}
instance:aI aB 46:={}
instance:aI aB 47:={}
instance:aI aB 48:={}
instance:aI aB 49:={}
instance:aI aB 50:={}
instance:aI aB 51:={}
instance:aI aB 52:={}
instance:aI aB 53:={}
instance:aI aB 54:={}
instance:aI aB 55:={}
instance:aI aB 56:={}
instance:aI aB 57:={}
instance:aI aB 58:={}
instance:aI aB 59:={}
instance:aI aB 60:={}
instance:aI aB 61:={}
instance:aI aB 62:={}
instance:aI aB 63:={}
instance:aI aB 64:={}
instance:aI aB 65:={}
instance:aI aB 66:={}
instance:aI aB 67:={}
instance:aI aB 68:={}
instance:aI aB 69:={}
instance:aI aB 70:={}
instance:aI aB 71:={}
instance:aI aB 72:={}
instance:aI aB 73:={}
instance:aI aB 74:={}
instance:aI aB 75:={}
instance:aI aB 76:={}
instance:aI aB 77:={}
instance:aI aB 78:={}
instance:aI aB 79:={}
instance:aI aB 80:={}
instance:aI aB 81:={}
instance:aI aB 82:={}
instance:aI aB 83:={}
instance:aI aB 84:={}
instance:aI aB 85:={}
instance:aI aB 86:={}
instance:aI aB 87:={}
instance:aI aB 88:={}
instance:aI aB 89:={}
instance:aI aB 90:={}
instance:aI aB 91:={}
instance:aI aB 92:={}
instance:aI aB 93:={}
instance:aI aB 94:={}
instance:aI aB 95:={}
instance:aI aB 96:={}
instance:aI aB 97:={}
instance:aI aB 98:={}
instance:aI aB 99:={}
instance:aI aB 100:={}
instance:aI aB 101:={}
instance:aI aB 102:={}
instance:aI aB 103:={}
instance:aI aB 104:={}
instance:aI aB 105:={}
instance:aI aB 106:={}
instance:aI aB 107:={}
instance:aI aB 108:={}
instance:aI aB 109:={}
instance:aI aB 110:={}
instance:aI aB 111:={}
instance:aI aB 112:={}
instance:aI aB 113:={}
instance:aI aB 114:={}
instance:aI aB 115:={}
instance:aI aB 116:={}
instance:aI aB 117:={}
instance:aI aB 118:={}
instance:aI aB 119:={}
instance:aI aB 120:={}
instance:aI aB 121:={}
instance:aI aB 122:={}
instance:aI aB 123:={}
instance:aI aB 124:={}
instance:aI aB 125:={}
instance:aI aB 126:={}
instance:aI aB 127:={}
instance:aI aB 128:={}
instance:aI aB 129:={}
instance:aI aB 130:={}
instance:aI aB 131:={}
instance:aI aB 132:={}
instance:aI aB 133:={}
instance:aI aB 134:={}
instance:aI aB 135:={}
instance:aI aB 136:={}
instance:aI aB 137:={}
instance:aI aB 138:={}
instance:aI aB 139:={}
instance:aI aB 140:={}
instance:aI aB 141:={}
instance:aI aB 142:={}
instance:aI aB 143:={}
instance:aI aB 144:={}
instance:aI aB 145:={}
instance:aI aB 146:={}
instance:aI aB 147:={}
instance:aI aB 148:={}
instance:aI aB 149:={}
instance:aI aB 150:={}
instance:aI aB 151:={}
instance:aI aB 152:={}
instance:aI aB 153:={}
instance:aI aB 154:={}
instance:aI aB 155:={}
instance:aI aB 156:={}
instance:aI aB 157:={}
instance:aI aB 158:={}
instance:aI aB 159:={}
instance:aI aB 160:={}
instance:aI aB 161:={}
instance:aI aB 162:={}
instance:aI aB 163:={}
instance:aI aB 164:={}
instance:aI aB 165:={}
instance:aI aB 166:={}
instance:aI aB 167:={}
instance:aI aB 168:={}
instance:aI aB 169:={}
instance:aI aB 170:={}
instance:aI aB 171:={}
instance:aI aB 172:={}
end bZ
namespace bZ
open Go.RowKit cU dM
theorem fin{P:Program}{f:FuncId}{args:Array Value}{w:World}(h:Calls P f args w (cz (ret (.bool aD)) w)):Calls P f args w λe w'=>e= .returned (.bool aD)/\Below w.heap.size w w':=h.mono λ_ _ h=>CU h
end bZ
namespace dg
def fP(x:BitVec 64):Int:=x.toNat
abbrev v64(x:BitVec 64):Value:= .int .u64 (fP x)
theorem adu(x:BitVec 64):0<=fP x:=by unfold fP;omega
theorem adv(x:BitVec 64):fP x<=18446744073709551615:=by have:=x.isLt;unfold fP;omega
theorem n'{x y:BitVec 64}(h:fP x=fP y):x=y:=by
 apply Vg;unfold fP at h;omega
theorem adw(x y:BitVec 64):(fP x==fP y)=(x==y):=by
 by_cases h:x=y
 subst h;simp;have:fP x≠fP y:=λe=>h (n' e);rw[beq_eq_false_iff_ne.2 this,beq_eq_false_iff_ne.2 h]
theorem wrap64(x:BitVec 64):tp.wrap (fP x)=fP x:=by
 have:=x.isLt;unfold fP;rw[rK];omega
theorem ofInt64(x:BitVec 64):wR 64 (fP x)=x:=by
 apply Vg;simp[fP]
theorem afc(x y:BitVec 64):bits .and .u64 (fP x) (fP y)=fP (x&&&y):=by
 unfold bits;simp only[lF,ofInt64];exact wrap64 _
theorem agS(x y:BitVec 64):bits .or .u64 (fP x) (fP y)=fP (x|||y):=by
 unfold bits;simp only[lF,ofInt64];exact wrap64 _
theorem acG(x y:BitVec 64):bits .xor .u64 (fP x) (fP y)=fP (x^^^y):=by
 unfold bits;simp only[lF,ofInt64];exact wrap64 _
theorem afd(x:BitVec 64):bits .xor .u64 tp.max (fP x)=fP (~~~ x):=by
 have h:=acG (BitVec.allOnes 64) x;rw[BitVec.allOnes_xor]at h;rw[<-h];rfl
theorem SP(b:Nat)(h:b<4294967296):bits .and .i64 (b:Int) 63=((b %64:Nat):Int):=by
 have e1:wR 64 (b:Int)=ik 64 b:=by simp
 have e2:(ik 64 b&&&63#64).toNat=b %64:=by
  rw[BitVec.toNat_and,CG,NP (by omega:b<2^64)];exact Nat.and_two_pow_sub_one_eq_mod b 6
 have e3:bits .and .i64 (b:Int) 63=az.wrap (((ik 64 b&&&63#64).toNat:Nat):Int):=by
  unfold bits;simp only[lF,e1];rfl
 rw[e3,e2,IntKind.wrap_i64];omega
theorem aar(k:Nat)(h:k<64):tp.wrap ((2:Int)^k)=fP (ik 64 (2^k)):=by
 have this:2^k<2^64:=Nat.pow_lt_pow_right aiz h;unfold fP;rw[CG,NP this,rK];have e:(2:Int)^k=((2^k:Nat):Int):=by simp
 rw[e];generalize 2^k=m at*;omega
structure C4 where
 a:BitVec 64
 b:BitVec 64
 c:BitVec 64
 d:BitVec 64
 deriving DecidableEq
def C4.get(x:C4)(i:Nat):BitVec 64:=if i=0 then x.a else if i=1 then x.b else if i=2 then x.c else x.d
def C4.set(x:C4)(i:Nat)(v:BitVec 64):C4:=if i=0 then {x with a:=v}else if i=1 then {x with b:=v}else if i=2 then {x with c:=v}else {x with d:=v}
def C4.zero:C4:=⟨0,0,0,0⟩
def C4.Wf(x y:C4):C4:=⟨x.a&&&y.a,x.b&&&y.b,x.c&&&y.c,x.d&&&y.d⟩
def C4.not(x:C4):C4:=⟨~~~x.a,~~~x.b,~~~x.c,~~~x.d⟩
def dR(x:C4):List Value:=[.int .u64 (fP x.a),.int .u64 (fP x.b),.int .u64 (fP x.c),.int .u64 (fP x.d)]
def oa(x:C4):Value:=aQ #[.int .u64 (fP x.a),.int .u64 (fP x.b),.int .u64 (fP x.c),.int .u64 (fP x.d)]
theorem Wg(x:C4)(i:Nat)(h:i<4):(dR x)[i]?=aj (v64 (x.get i)):=by
 match i,h with
 |0,_=>rfl
 |1,_=>rfl
 |2,_=>rfl
 |3,_=>rfl
theorem Wh(x:C4)(i:Nat)(h:i<4)(v:BitVec 64):(dR x).set i (v64 v)=dR (x.set i v):=by
 match i,h with
 |0,_=>rfl
 |1,_=>rfl
 |2,_=>rfl
 |3,_=>rfl
def C4.bit(x:C4)(n:Nat):C4:=x.set (n/64) (x.get (n/64)|||ik 64 (2^(n %64)))
def C4.jO(x:C4)(b:Nat):Nat->C4
 |0=>x
 |n+1=>(C4.jO x b n).bit (b+n)
theorem Wi(x:C4)(b n:Nat):(C4.jO x b n).set ((b+n)/64) ((C4.jO x b n).get ((b+n)/64)|||ik 64 (2^((b+n) %64)))=C4.jO x b (n+1):=rfl
def e_(lo hi:Int):C4:=C4.jO C4.zero (max lo 0).toNat (min hi 255+1-max lo 0).toNat
theorem C4.ext'{x y:C4}(h1:x.a=y.a)(h2:x.b=y.b)(h3:x.c=y.c)(h4:x.d=y.d):x=y:=by
 cases x;cases y;simp_all
theorem b5(p q:Bool):(p||(p&&q))=p:=by cases p<;>cases q<;>rfl
end dg
namespace dg
def b8(b:Nat):Nat:=((b/4)&&&51)+(b&&&51)
def c8(b:Nat):Nat:=(b/16+b)&&&15
theorem k1:∀t<2,∀c<128,(c+128*t)&&&85=c&&&85:=by decide+kernel
theorem k2:∀t<4,∀c<64,(c+64*t)&&&51=c&&&51:=by decide+kernel
theorem k3:∀t<5,∀p<5,∀q<5,(p+(q+16*p)+16*t)&&&15=c8 (q+16*p):=by decide+kernel
def s1(x:Nat):Nat:=((x/2)&&&6148914691236517205)+(x&&&6148914691236517205)
def s2(x:Nat):Nat:=((x/4)&&&3689348814741910323)+(x&&&3689348814741910323)
def s3(x:Nat):Nat:=(x/16+x)&&&1085102592571150095
def s4(x:Nat):Nat:=x+x/256
def s5(x:Nat):Nat:=x+x/65536
def s6(x:Nat):Nat:=x+x/4294967296
end dg
namespace dg
def C4.mem(x:C4)(n:Nat):Bool:=(x.get (n/64)).toNat.testBit (n %64)
def xg(x:C4):List Nat:=(dV 256).filter x.mem
def Wj(x:C4):Nat:=(xg x).length
theorem get_mem(x:C4)(n:Nat):x.mem n=(x.get (n/64)).getLsbD (n %64):=by
 unfold C4.mem;rw[BitVec.getLsbD]
theorem Ky(n:Nat):C4.zero.mem n=false:=by
 rw[get_mem];have:C4.zero.get (n/64)=0:=by unfold C4.get C4.zero;split;rfl;split;rfl;split<;>rfl
 rw[this];simp
theorem ext_mem{x y:C4}(h:∀n,n<256->x.mem n=y.mem n):x=y:=by
 have w:∀i,i<4->x.get i=y.get i:=λi hi=>by
  apply BitVec.eq_of_getLsbD_eq;intro j hj;have:=h (64*i+j) J;rw[get_mem,get_mem,show(64*i+j)/64=i by omega,show(64*i+j) %64=j by omega]at this;exact this
 exact C4.ext' (w 0 aiz) (w 1 aiz) (w 2 aiz) (w 3 aiz)
theorem SQ{x:C4}{n:Nat}:n∈xg x↔n<256/\x.mem n=true:=by
 unfold xg;rw[List.mem_filter,mQ]
end dg
namespace fZ
open dg
inductive Rx where
 |mk (kind:Int) (c:C4) (kids:List Rx)
def Rx.kind:Rx->Int| .mk k _ _=>k
def Rx.tK:Rx->C4| .mk _ c _=>c
def Rx.kids:Rx->List Rx| .mk _ _ l=>l
def C5(k:Int):Int:=if k=1 then 0 else if k=2 then 0 else if k=3 then 0 else if k=6 then 1 else if k=4 then 2 else if k=5 then 2 else-1
mutual
def l7:Rx->Nat->Nat->Int×Nat
 | .mk k c l,deep,n=>if 100<n+1 then(2,n+1)else if 30<deep then(7,n+1)else if C5 k≠(l.length:Int)then(1,n+1)else if(decide (k=3) !=decide (c≠C4.zero))=aD then(1,n+1)else BL l (deep+1) (n+1)
def BL:List Rx->Nat->Nat->Int×Nat
 |[],_,n=>(0,n)
 |r::l,deep,n=>if(l7 r deep n).1≠0 then l7 r deep n else BL l deep (l7 r deep n).2
end
mutual
def sN:Rx->Nat
 | .mk _ _ l=>rY l+1
def rY:List Rx->Nat
 |[]=>0
 |r::l=>sN r+rY l
end
theorem Gh(r:Rx):0<sN r:=by obtain⟨k,c,l⟩:=r;rw[sN];omega
theorem C6:∀{l:List Rx} {r:Rx},r∈l->sN r<=rY l
 |x::l,r,h=>by
  rw[rY];rcases dx.1 h with rfl|h
  omega;have:=C6 h;omega
inductive Re where
 |none
 |empty
 |byte (c:C4)
 |Ia (a b:Re)
 |Ib (a b:Re)
 |star (a:Re)
def Re.size:Re->Nat
 | .Ia a b=>a.size+b.size+1
 | .Ib a b=>a.size+b.size+1
 | .star a=>a.size+1
 |_=>1
def Re.Kz:Re->Nat
 | .Ia a b=>max a.Kz b.Kz+1
 | .Ib a b=>max a.Kz b.Kz+1
 | .star a=>a.Kz+1
 |_=>1
def Re.nz:Re->Prop
 | .byte c=>c≠C4.zero
 | .Ia a b=>a.nz/\b.nz
 | .Ib a b=>a.nz/\b.nz
 | .star a=>a.nz
 |_=>True
def Re.kind:Re->Int
 | .none=>1
 | .empty=>2
 | .byte _=>3
 | .Ia _ _=>4
 | .Ib _ _=>5
 | .star _=>6
def Re.tK:Re->C4
 | .byte c=>c
 |_=>C4.zero
def Re.kids:Re->List Re
 | .Ia a b=>[a,b]
 | .Ib a b=>[a,b]
 | .star a=>[a]
 |_=>[]
def lh:Re->Rx
 | .none=> .mk 1 C4.zero []
 | .empty=> .mk 2 C4.zero []
 | .byte c=> .mk 3 c []
 | .Ia a b=> .mk 4 C4.zero [lh a,lh b]
 | .Ib a b=> .mk 5 C4.zero [lh a,lh b]
 | .star a=> .mk 6 C4.zero [lh a]
theorem adx(r:Re):lh r= .mk r.kind r.tK (r.kids.map lh):=by cases r<;>rfl
theorem Re.size_pos(r:Re):0<r.size:=by cases r<;>simp[Re.size]
theorem QO{α:Type}{l:List α}(h:l.length=2):∃a b,l=[a,b]:=
 match l,h with
 |[a,b],_=>⟨a,b,rfl⟩
structure Fit(r:Re)(deep n:Nat):Prop where
 nz:r.nz
 sz:n+r.size<=100
 dp:deep+r.Kz<=31
theorem C7{p:Int×Nat}{q:Nat}(h:p=(0,q)):p.1=0/\p.2=q:=by subst h;exact⟨rfl,rfl⟩
theorem Ic:∀(N:Nat) (r:Rx) (deep n q:Nat),sN r<=N->l7 r deep n=(0,q)->∃e:Re,r=lh e/\Fit e deep n/\q=n+e.size
 |0,r,_,_,_,h,_=>by have:=Gh r;omega
 | N + 1,.mk k c l,deep,n,q,hN,h=>by
  have IH:=Ic N;rw[sN]at hN;rw[l7]at h;split at h;simp at h;split at h;simp at h;split at h;simp at h;split at h;simp at h
  rename_i h1 h2 h3 h4
  have h3:C5 k=(l.length:Int):=by simpa using h3
  have h4:decide (k=3)=decide (c≠C4.zero):=by
   generalize decide (k=3)=x at*;generalize decide (c≠C4.zero)=y at*
   cases x<;>cases y<;>simp_all
  have leaf:∀e:Re,k=e.kind->c=e.tK->l=[]->e.kids=[]->e.size=1->e.Kz=1->e.nz->∃e:Re,Rx.mk k c l=lh e/\Fit e deep n/\q=n+e.size:=λe a1 a2 a3 a4 a5 a6 a7=>by
   subst a1 a2 a3;rw[BL]at h;refine⟨e,by rw[adx,a4];rfl,⟨a7,by omega,by omega⟩,?_⟩;simp at h;omega
  unfold C5 at h3;have hz:k≠3->c=C4.zero:=λhk=>by
   rw[decide_eq_false hk]at h4;exact Nv λhc=>by rw[decide_eq_true hc]at h4;cases h4
  by_cases k1:k=1
  ·rw[if_pos k1]at h3
   exact leaf .none k1 (hz J) (rN J) I I I trivial
  rw[if_neg k1]at h3
  by_cases k2:k=2
  ·rw[if_pos k2]at h3
   exact leaf .empty k2 (hz J) (rN J) I I I trivial
  rw[if_neg k2]at h3
  by_cases k3:k=3
  ·rw[if_pos k3]at h3
   rw[decide_eq_true k3]at h4;exact leaf (.byte c) k3 I (rN J) I I I (by show c≠C4.zero;exact of_decide_eq_true h4.symm)
  rw[if_neg k3]at h3;have hc:=hz k3;subst hc;have two:∀(a b:Rx),l=[a,b]->∃x y:Re,a=lh x/\b=lh y/\Fit x (deep+1) (n+1)/\Fit y (deep+1) (n+1+x.size)/\q=n+1+x.size+y.size:=λa b hl=>by
   subst hl;rw[rY,rY,rY]at hN;rw[BL,BL,BL]at h
   by_cases e1:(l7 a (deep+1) (n+1)).1=0
   ·rw[if_neg (by simpa using e1)]at h
    obtain⟨x,rfl,f1,g1⟩:=IH a (deep+1) (n+1) (l7 a (deep+1) (n+1)).2 J (ql e1 rfl);rw[g1]at h
    by_cases e2:(l7 b (deep+1) (n+1+x.size)).1=0
    ·rw[if_neg (by simpa using e2)]at h
     obtain⟨y,rfl,f2,g2⟩:=IH b (deep+1) (n+1+x.size) (l7 b (deep+1) (n+1+x.size)).2 J (ql e2 rfl);exact⟨x,y,rfl,rfl,f1,f2,by rw[g2]at h;simp at h;omega⟩
    rw[if_pos e2]at h;exact absurd (C7 h).1 e2
   rw[if_pos e1]at h;exact absurd (C7 h).1 e1
  by_cases k6:k=6
  ·rw[if_pos k6]at h3
   obtain⟨a,rfl⟩:∃a,l=[a]:=List.length_eq_one_iff.1 J;rw[rY,rY]at hN;rw[BL,BL]at h
   by_cases e1:(l7 a (deep+1) (n+1)).1=0
   ·rw[if_neg (by simpa using e1)]at h
    obtain⟨x,rfl,f1,g1⟩:=IH a (deep+1) (n+1) (l7 a (deep+1) (n+1)).2 J (ql e1 rfl);have:=f1.sz;have:=f1.dp;exact⟨.star x,by rw[k6];rfl,⟨f1.nz,by simp only[Re.size];omega,by simp only[Re.Kz];omega⟩,by rw[g1]at h;simp at h;simp only[Re.size];omega⟩
   rw[if_pos e1]at h;exact absurd (C7 h).1 e1
  rw[if_neg k6]at h3
  by_cases k4:k=4
  ·rw[if_pos k4]at h3
   obtain⟨a,b,rfl⟩:∃a b,l=[a,b]:=QO J;obtain⟨x,y,rfl,rfl,f1,f2,g⟩:=two a b rfl;have:=f1.dp;have:=f2.dp;have:=f2.sz;exact⟨.Ia x y,by rw[k4];rfl,⟨⟨f1.nz,f2.nz⟩,by simp only[Re.size];omega,by simp only[Re.Kz];omega⟩,by simp only[Re.size];omega⟩
  rw[if_neg k4]at h3
  by_cases k5:k=5
  ·rw[if_pos k5]at h3
   obtain⟨a,b,rfl⟩:∃a b,l=[a,b]:=QO J;obtain⟨x,y,rfl,rfl,f1,f2,g⟩:=two a b rfl;have:=f1.dp;have:=f2.dp;have:=f2.sz;exact⟨.Ib x y,by rw[k5];rfl,⟨⟨f1.nz,f2.nz⟩,by simp only[Re.size];omega,by simp only[Re.Kz];omega⟩,by simp only[Re.size];omega⟩
  rw[if_neg k5]at h3;omega
inductive Ft(P:List UInt8->Prop):List UInt8->Prop
 |nil:Ft P []
 |cons {u v:List UInt8}:P u->Ft P v->Ft P (u++v)
def KA:Re->List UInt8->Prop
 | .none,_=>False
 | .empty,s=>s=[]
 | .byte c,s=>∃b:UInt8,s=[b]/\c.mem b.toNat=aD
 | .Ia a b,s=>∃u v,s=u++v/\KA a u/\KA b v
 | .Ib a b,s=>KA a s\/KA b s
 | .star a,s=>Ft (KA a) s
theorem SR{P:List UInt8->Prop}{u v:List UInt8}(h:Ft P u)(hv:P v):Ft P (u++v):=by
 induction h with
 |nil=>have:=Ft.cons hv .nil;simpa using this
 |cons h1 _ ih=>rw[eY];exact .cons h1 ih
def N6(s:List UInt8)(f j:Nat):List UInt8:=(s.drop f).take (j-f)
theorem Ie{s:List UInt8}{f j:Nat}(h:j<=s.length):(N6 s f j).length=j-f:=by unfold N6;rw[iU,List.length_drop];omega
theorem Wk(s:List UInt8)(f:Nat):N6 s f f=[]:=by unfold N6;simp
theorem QQ{s:List UInt8}{f i j:Nat}(h1:f<=i)(h2:i<=j):N6 s f j=N6 s f i++N6 s i j:=by
 unfold N6;rw[show j-f=(i-f)+(j-i)by omega,List.take_add,qi,show f+(i-f)=i by omega]
theorem aas{s u v:List UInt8}{f j:Nat}(hf:f<=j)(hj:j<=s.length)(h:N6 s f j=u++v):f+u.length<=j/\u=N6 s f (f+u.length)/\v=N6 s (f+u.length) j:=by
 have hl:=Ie (s:=s) (f:=f) hj;rw[h,bK]at hl;have h1:f+u.length<=j:=by omega
 have e:=QQ (s:=s) (f:=f) (i:=f+u.length) (j:=j) J h1;rw[h]at e;have hlu:u.length=(N6 s f (f+u.length)).length:=by rw[Ie J];omega
 have:=List.append_inj e hlu;exact⟨h1,this.1,this.2⟩
def SS(r:Re)(s:List UInt8)(f j:Nat):Prop:=f<=j/\j<=s.length/\KA r (N6 s f j)
inductive Rch(R:Nat->Nat->Prop)(f:Nat):Nat->Prop
 |refl:Rch R f f
 |step {i j:Nat}:Rch R f i->R i j->Rch R f j
theorem Rch.cons{R:Nat->Nat->Prop}{f i j:Nat}(h:R f i)(h':Rch R i j):Rch R f j:=by
 induction h' with
 |refl=>exact .step .refl h
 |step _ h2 ih=>exact .step ih h2
theorem Wl{a:Re}{s:List UInt8}{f j:Nat}(hf:f<=s.length):SS (.star a) s f j↔Rch (SS a s) f j:=by
 constructor
 ·rintro⟨h1,h2,h⟩
  have h:Ft (KA a) (N6 s f j):=h;have aux:∀w,Ft (KA a) w->∀f,f<=j->N6 s f j=w->Rch (SS a s) f j:=by
   intro w hw
   induction hw with
   | nil=>
    intro f B5 e;have:=Ie (s:=s) (f:=f) h2;rw[e]at this;have:f=j:=by simp at this;omega
    subst this;exact .refl
   | cons hu _ ih=>
    intro f B5 e;obtain⟨a1,a2,a3⟩:=aas B5 h2 e;exact Rch.cons ⟨Nat.le_add_right _ _,by omega,by rw[<-a2];exact hu⟩ (ih _ a1 a3.symm)
  exact aux _ h f h1 I
 intro h
 induction h with
 |refl=>exact⟨bm _,hf,by rw[Wk];exact Ft.nil⟩
 | step _ h2 ih=>
  obtain⟨a1,a2,a3⟩:=ih;obtain⟨b1,b2,b3⟩:=h2;exact⟨by omega,b2,by rw[QQ a1 b1];exact SR a3 b3⟩
def afe(s:List UInt8)(r:Re)(f:Nat)(c:C4):Prop:=∀j,j<256->(c.mem j=aD↔SS r s f j)
end fZ
namespace fZ
open dg
abbrev SU:=List UInt8
structure RS where
 p:Nat
 o:Nat
 e:Int
def RS.up(st:RS):RS:={st with p:=st.p+1}
def agT:SU:=[48,49,50,51,52,53,54,55,56,57,97,98,99,100,101,102]
def ady:SU:=[40,41,91,93,124,42,43,63,46,94,45,92]
section
variable{s:SU}
structure SV(s:SU)(st st':RS):Prop where
 o:st'.o=st.o
 ge:st.p<=st'.p
 le:st'.p<=s.length
theorem SV.trans{a b c:RS}(h:SV s a b)(h':SV s b c):SV s a c:=⟨by rw[h'.o,h.o],fv h.ge h'.ge,h'.le⟩
theorem SV.refl{st:RS}(h:st.p<=s.length):SV s st st:=⟨rfl,bm _,h⟩
end
end fZ
namespace fZ
open dg
def aff(n:Nat):UInt8:=agT.getD n 0
def Wm(b:UInt8):SU:=
 if b=10 then [92,110]else if b=9 then [92,116]else if b=32 then [92,115]
 else if b<33\/126<b then [92,120,aff (b.toNat/16),aff (b.toNat %16)]
 else if b∈ady then [92,b]else [b]
def adz:Nat->List Nat->Nat
 |_,[]=>0
 |b,x::r=>if x=b+1 then adz (b+1) r+1 else 0
def afg(b k:Nat):SU:=Wm (fx b)++((if 1<k then [45]else [])++(if 0<k then Wm (fx (b+k))else []))
def N7:Nat->List Nat->SU
 |0,_=>[]
 |_+1,[]=>[]
 |f+1,b::r=>afg b (adz b r)++N7 f (r.drop (adz b r))
def adA(c:C4):SU:=
 if Wj c=1 then Wm (fx ((xg c).getD 0 0))
 else if Wj c=255/\c.mem 10=aE then [46]
 else if 128<Wj c then [91,94]++(N7 256 (xg c.not)++[93])
 else [91]++(N7 256 (xg c)++[93])
def Wn(lv:Nat)(e:Re):Bool:=decide (1<=lv/\e.kind=5\/2<=lv/\e.kind=4\/3<=lv/\e.kind=6)
def wrap(b:Bool)(t:SU):SU:=if b then [40]++(t++[41])else t
def body:Re->SU
 | .empty=>[40,41]
 | .none=>[91,93]
 | .byte c=>adA c
 | .star a=>wrap (Wn 3 a) (body a)++[42]
 | .Ia a b=>wrap (Wn 1 a) (body a)++wrap (Wn 2 b) (body b)
 | .Ib a b=>wrap (Wn 0 a) (body a)++([124]++wrap (Wn 1 b) (body b))
section
end
end fZ
namespace bZ
open Go.RowKit cU dM Go.ChangeShapes Go.WideShapes Go.ChangeAt
section
variable{H:Type}{enc0:TypeId×Value->H}{P:Program}{W:World}
def SX{α:Type}(W:World)(is:List Value->α->Prop)(c:Nat)(v:Value)(l:List α):Prop:=
 ∃base cap,v=ap base l.length cap/\l.length<=cap/\cap<=maxLen/\(0<l.length->∃b off,base=aj ⟨b,off,ak⟩/\∀i (h:i<l.length),∃cs,is cs l[i]/\Rd W b (off+i*c) cs)
def pQ(enc0:TypeId×Value->H)(P:Program)(W:World)(t:TypeId){α:Type}(is:List Value->α->Prop):Prop:=
 ∀fuel cs x,qe enc0 P W 0 (λ_=>aD) aD fuel t cs=aj x->∃a,is cs a
theorem pQ.mono{t:TypeId}{α:Type}{is is':List Value->α->Prop}(h:pQ enc0 P W t is)(hi:∀cs a,is cs a->is' cs a):pQ enc0 P W t is':=λf cs x hx=>let ⟨a,ha⟩:=h f cs x hx;⟨a,hi _ _ ha⟩
def isInt(k:IntKind)(lo hi:Int)(cs:List Value)(n:Int):Prop:=cs=[.int k n]/\lo<=n/\n<=hi
def acH(cs:List Value)(s:List UInt8):Prop:=cs=[str s]/\s.length<=9223372036854775807
theorem Gi{t:TypeId}{k:IntKind}(ht:P.underlying t=aj (.int k)):pQ enc0 P W t (isInt k k.min k.max):=λf cs x h=>by
 obtain⟨n,h1,_,h3⟩:=DataW.trod_int ht h;simp only[Lit.wf,eV,decide_eq_true_eq]at h3;exact⟨n,h1,h3.1,h3.2⟩
theorem z8{t:TypeId}(ht:P.underlying t=aj (.int .i64)):pQ enc0 P W t (isInt .i64 (-9223372036854775808) 9223372036854775807):=(Gi ht).mono λcs n h=>⟨h.1,by simpa[HW,rL,lF]using h.2.1,by simpa[HX,rL,lF]using h.2.2⟩
theorem SY{t:TypeId}(ht:P.underlying t=aj (.int .u64)):pQ enc0 P W t (isInt .u64 0 18446744073709551615):=(Gi ht).mono λcs n h=>⟨h.1,by simpa[HW,rL,lF]using h.2.1,by simpa[HX,rL,lF]using h.2.2⟩
theorem SZ{t:TypeId}(ht:P.underlying t=aj .string):pQ enc0 P W t acH:=λf cs x h=>by
 obtain⟨s,h1,_,h3⟩:=Vq ht h;refine⟨s.data.toList,by rw[h1,V0],?_⟩;have e:s.data.toList.length=s.size:=lC;unfold maxLen at h3;omega
def afh{α:Type}(W:World)(is:List Value->α->Prop)(c:Nat)(cs:List Value)(l:List α):Prop:=∃v,cs=[v]/\SX W is c v l
def acI{α:Type}(is:List Value->α->Prop)(m c:Nat)(cs:List Value)(l:List α):Prop:=l.length=m/\∀i (h:i<l.length),is ((cs.drop (i*c)).take c) l[i]
theorem KB{t e:TypeId}{m c:Nat}(ht:P.underlying t=aj (.array m e))(hc:P.cellsOf e=c){α:Type}{is:List Value->α->Prop}(hd:pQ enc0 P W e is):pQ enc0 P W t (λcs l=>cs.length=P.cellsOf t/\acI is m c cs l):=λfuel cs x h=>by
 obtain⟨xs,n,_,_,hl,hlen,hf⟩:=DataW.trod_array ht h;have each:∀i,i<m->∃y:α,is ((cs.drop (i*c)).take c) y:=λi hi=>by
  have h1:=hf i hi;rw[hc,bD J]at h1;exact hd n _ _ h1
 obtain⟨l,Ko,hp⟩:=yi m each;exact⟨l,hl,Ko,λi hi=>hp i _ (bD hi)⟩
def Wo(k:IntKind)(lo hi:Int)(m:Nat)(cs:List Value)(l:List Int):Prop:=l.length=m/\cs=l.map (.int k)/\∀x∈l,lo<=x/\x<=hi
theorem KC{k:IntKind}{lo hi:Int}{m:Nat}{cs:List Value}{l:List Int}(hl:cs.length=m)(h:acI (isInt k lo hi) m 1 cs l):Wo k lo hi m cs l:=by
 obtain⟨h1,h2⟩:=h;refine⟨h1,?_,λx hx=>?_⟩
 ·apply mR
  intro i
  by_cases hi:i<l.length
  ·have h3:=(h2 i hi).1
   rw[kw]at h3;have hic:i<cs.length:=by omega
   rw[eI hic,wX,nM]at h3;injection h3 with h3 _
   rw[bD hic,eX,bD hi,h3];rfl
  rw[ku J,ku (by simp;omega)]
 obtain⟨i,hi,rfl⟩:=g_.1 hx;exact(h2 i hi).2
theorem Wp{t:TypeId}{fs:Array Field}(ht:P.underlying t=aj (.struct fs)){fuel:Nat}{cs:List Value}{x:DataW H×List MemPlace}(h:qe enc0 P W 0 (λ_=>aD) aD fuel t cs=aj x):
 cs.length=P.cellsOf t/\∀(i:Nat) (f:Field),fs[i]?=aj f->∀{α:Type} {is:List Value->α->Prop},pQ enc0 P W f.type is->∃a,is ((cs.drop f.offset).take (P.cellsOf f.type)) a:=by
 obtain⟨xs,n,_,_,hl,hlen,hf⟩:=Vr ht h;refine⟨hl,λi f hi α is ho=>?_⟩;have h1:=hf i f hi;have:i<xs.length:=by rw[hlen];exact(jt.1 hi).1
 rw[bD this]at h1;exact ho n _ _ h1
theorem aat{t:TypeId}{fs:Array Field}(ht:P.underlying t=aj (.struct fs)){base:Nat}{v:Value}{d:DataW H}{ps:List MemPlace}(hv:CM P W .any base t v)(h:Nz enc0 P W 0 (λ_=>aD) aD t v d ps):∃cs fuel,v= .agg cs/\qe enc0 P W 0 (λ_=>aD) aD fuel t cs.toList=aj (d,ps):=by
 simp only[CM,ht]at hv;obtain⟨cs,rfl,_,_⟩:=hv;obtain⟨fuel,hf⟩:=h;exact⟨cs,fuel,rfl,hf⟩
end
theorem SX.sl{α:Type}{W:World}{is:List Value->α->Prop}{f:α->Value}{v:Value}{l:List α}(h:SX W is 1 v l)(hf:∀cs a,is cs a->cs=[f a]):Sl W v l.length (l.map f):=by
 obtain⟨base,cap,h1,h2,h3,h4⟩:=h;refine⟨base,cap,h1,h2,h3,λh0=>?_⟩;obtain⟨b,off,h5,h6⟩:=h4 h0;refine⟨b,off,h5,λj u hj=>?_⟩;have SB:j<l.length:=by simpa using(dl.1 hj).1
 obtain⟨cs,h7,h8⟩:=h6 j SB;have:=h8 0 (f l[j]) (by rw[hf _ _ h7];rfl);simp only[kw,jw]at this;rw[this,<-hj];simp[SB]
theorem SX.up{α:Type}{W w:World}{L:List b_}{is:List Value->α->Prop}{c:Nat}{v:Value}{l:List α}(h:SX W is c v l)(hm:Mem W L w):SX w is c v l:=by
 obtain⟨base,cap,h1,h2,h3,h4⟩:=h;exact⟨base,cap,h1,h2,h3,λh0=>let ⟨b,off,h5,h6⟩:=h4 h0;⟨b,off,h5,λi hi=>let ⟨cs,h7,h8⟩:=h6 i hi;⟨cs,h7,λj u hj=>hm.cell (h8 j u hj)⟩⟩⟩
end bZ
namespace bZ
open Go.RowKit cU dM
section
variable{α:Type}{f:α->List Value}{c:Nat}
theorem tL(hc:∀a,(f a).length=c):∀(l:List α) (k j:Nat) (h:k<l.length),j<c->(l.flatMap f)[k*c+j]?=(f l[k])[j]?
 |a::r,0,j,h,hj=>by
  grind
 |a::r,k+1,j,h,hj=>by
  have ih:=tL hc r k j (by simp_all) hj;rw[mc,mP (by rw[hc,kU];omega),hc];simp only[VK];rw[<-ih,kU]
  congr 1
  omega
theorem kW(hc:∀a,(f a).length=c):∀(l:List α),(l.flatMap f).length=l.length*c
 |[]=>by simp
 |a::r=>by rw[mc,bK,hc,kW hc r,c_,kU,NQ]
theorem gG(hc:∀a,(f a).length=c){W:World}{L:List b_}{b off:Nat}{l:List α}(h:Rd W b off (l.flatMap f)){k:Nat}(hk:k<l.length)(j:Nat)(u:Value)(hu:(f l[k])[j]?=aj u):At W L ⟨b,off+k*c+j,ak⟩ u:=by
 have hj:j<c:=by grind
 rw[lG];exact iD h (by simp_all[tL])
theorem tM(hc:∀a,(f a).length=c){W:bR}{L:List b_}{b off:Nat}{l:List α}(h:∀j u,(l.flatMap f)[j]?=aj u->At W L ⟨b,off+j,ak⟩ u){k:Nat}(hk:k<l.length)(j:Nat)(u:Value)(hu:(f l[k])[j]?=aj u):At W L ⟨b,off+k*c+j,ak⟩ u:=by
 have hj:j<c:=by grind
 simp_all[lG,tL]
theorem qO(hc:∀a,(f a).length=c){W:bR}{L:List b_}{i g m cap n size:Nat}{e:TypeId}{l:List α}(hi:L[i]?=aj (a_ e size (ap (aj ⟨g,0,ak⟩) m cap) n (l.flatMap f))){k:Nat}(hk:k<l.length)(j:Nat)(u:Value)(hu:(f l[k])[j]?=aj u):At W L ⟨g,0+k*c+j,ak⟩ u:=
 tM hc (off:=0) (λq x hq=>by rw[cV];exact jY hi hq) hk j u hu
end
def qP{α:Type}(p:α->Bool)(l:List α):Int:=match l.findIdx? p with|some i=>i|none=> -1
theorem qQ{α:Type}{p:α->Bool}{l:List α}{i:Nat}(hi:i<l.length)(h:p l[i]=aD)(hb:∀j (hj:j<l.length),j<i->p l[j]=aE):qP p l=i:=by
 have:l.findIdx? p=aj i:=VH.2 ⟨hi,h,λj J_=>by simp_all⟩;simp[qP,this]
theorem qR{α:Type}{p:α->Bool}{l:List α}(hb:∀j (hj:j<l.length),p l[j]=aE):qP p l= -1:=by
 have:l.findIdx? p=none:=List.findIdx?_eq_none_iff.2 λx hx=>by
  obtain⟨j,hj,rfl⟩:=g_.1 hx;exact hb j hj
 grind[qP]
theorem tN{α:Type}(p:α->Bool)(l:List α):decide (0<=qP p l)=l.any p:=by
 unfold qP
 grind
theorem oJ{α:Type}(p:α->Bool)(l:List α): -1<=qP p l/\qP p l<l.length\/qP p l= -1:=by
 unfold qP
 cases e:l.findIdx? p with
 |none=>simp
 |some i=>
  obtain⟨h1,h2,_⟩:=VH.1 e
  simp_all
section
variable{P:Program}{n:Nat}{W:bR}{fr:Fr}{L:List b_}{Q:Exit->Act->World->Prop}{ops:Array Oper}{rest:List Oper}{d:Nat}{dst:Option Tmp}{ty:TypeId}{pos:String}{after:Array Edge}{guard:Option (Nat×Bool)}
theorem jP{t e u:TypeId}{x y:Operand}{a:Option Addr}{m c:Nat}{b:Bool}(ht:P.underlying t=aj (.slice e))(hx:ev fr x=aj (ap a m c))(hy:ev fr y=aj (ap ak 0 0))(hb:a.isNone=b):RR P n W ⟨dst,.binOp .eql t x y u,ty,pos,after,guard⟩ fr L (.bool b):= .mk λac w hr _=>by
 subst hb;have e1:(eqGuard .eql t x y (ap a m c) (ap ak 0 0)).run P w= .ok () w:=rfl;simp[execOp,hr.ev hx,hr.ev hy,e1,Go.Lib.run_eql_slice_nil w t e a m c 0 0 ht]
theorem vH{t e:TypeId}{c bytes:Nat}[sW:qN P t e c bytes](hn:dj d n=aD)
 (h:∀g,TL P n W ops Q rest ((d,ap (aj ⟨g,0,ak⟩) 0 0)::fr) (L++[a_ e c (ap (aj ⟨g,0,ak⟩) 0 0) 0 []])):TL P n W ops Q (⟨aj d,.buildSlice t 0 #[],ty,pos,after,ak⟩::rest) fr L:=kz I λa w hr hm K hK=>by
 obtain⟨i,z,ht,hi,hz,hc,_,hzc,h0⟩:=sW.el.ex;have e':(execOp a.eval ⟨aj d,.buildSlice t 0 #[],ty,pos,after,ak⟩).run P w= .ok (.value (ap (aj ⟨w.heap.size,0,ak⟩) 0 0)) (w.alloc (.cells #[] e)):=by
  have hne:¬(0*c>2^24):=by omega
  simp[execOp,tm,run_underlying ht,sizeOf,typeInfo,hi,ju,newRow];have e0:CF 0=#[]:=by simp
  rw[e0,Array.map_empty]
 unfold fM;rw[e'];exact hK _ _ ((h w.heap.size).go _ _ (hr.put hn _) (hm.append (nv w _) (mS.one (World.ownsRow_made w #[] 0 (bH _) aiz (by simp)) λk hk=>by
  have:w.heap.size=k:=rP hk;omega)))
theorem eD{t e:TypeId}{s x:Operand}{i size bytes m k:Nat}{v v2:Value}{xs ys:List Value}[sW:qN P t e size bytes](hi:L[i]?=aj (a_ e size v m xs))(fE:SlL W L v2 k ys)(hs:ev fr s=aj v)(hx:ev fr x=aj v2)(hk:ys.length=k*size)
 (h1:∀u∈ys,u.oneCell'=aD) (qM:m+k<=140737488355328) (hb:(m+k)*bytes<=140737488355328) (hn:dj d n=aD)
 (h:∀v',TL P n W ops Q rest ((d,v')::fr) (L.set i (a_ e size v' (m+k) (xs++ys)))):
 TL P n W ops Q (⟨aj d,.call {callee:= .builtin .append,args:=#[s,x],argTypes:=#[t,t]},ty,pos,after,ak⟩::rest) fr L:=⟨λa w hr hm=>by
 obtain⟨base,cap,rfl,oo,yv,eL⟩:=fE w hm;have sX:ys=[]->L.set i (a_ e size v (m+0) (xs++[]))=L:=λ_=>by
  rw[eG,jw];apply mR;intro q
  by_cases hq:i=q
  ·subst hq
   rw[qh (dl.1 hi).1,hi]
  rw[mb hq]
 cases base with
 | none=>
  have hk0:k=0:=by
   simp_all
  subst hk0;have hy:ys=[]:=rN J;subst hy;have h2:=h v;rw[sX I]at h2;exact(N3 sW.el hi hs hx hn h2).go a w hr hm
 | some p=>
  have agU:∀j u,ys[j]?=aj u->w.cell? (p.add j)=aj u:=λj u hj=>by
   obtain⟨b,off,hb,hr⟩:=eL (by
    grind)
   simp only[dr]at hb;subst hb;rw[eB];exact hr j u hj
  exact H' (c:=cap) sW.el hi hs hx agU hk h1 qM hb hn h hr hm⟩
theorem aU{i size m:Nat}{e:TypeId}{v:Value}{xs:List Value}(hi:L[i]?=aj (a_ e size v m xs))(h:v.cells=#[v]->v.oneCell'=aD->TL P n W ops Q rest fr L):TL P n W ops Q rest fr L:=⟨λa w hr hm=>by
 have h1:w.ownsRow 0 e size v m xs:=hm.get hi;rcases h1.2 with⟨hv,_⟩|⟨g,cap,jM,hv,_⟩
 exact(h (by rw[hv];rfl) (by rw[hv];rfl)).go a w hr hm;exact(h (by rw[hv];rfl) (by rw[hv];rfl)).go a w hr hm⟩
def s7(base:Option Addr)(cap c i j:Nat):Value:=ap (if cap=i then base else base.map (λ(q:Addr)=>q.add (i*c))) (j-i) (cap-i)
theorem KD{t e:TypeId}{x:Operand}{lo hi:Option Operand}{agg:Bool}{c i j len cap:Nat}{base:Option Addr}(ht:P.underlying t=aj (.slice e))(he:Ty P e agg c)(hx:ev fr x=aj (ap base len cap))
 (QH:match lo with|none=>i=0|some z=>∃k,ev fr z=aj (.int k (i:Int))) (SJ:match hi with|none=>j=len|some z=>∃k,ev fr z=aj (.int k (j:Int))) (h1:i<=j) (h2:j<=cap):
 RR P n W ⟨dst,.slice t x lo hi ak,ty,pos,after,guard⟩ fr L (s7 base cap c i j):= .mk λa w hr _=>by
 have e0:(0:Int)<=(i:Int):=by omega
 have hb:∀(k:IntKind) (p q:Nat) (cd:BoundsCode),p<=q->(HV (.int k (p:Int)) q cd).run P w= .ok p w:=λk p q cd h=>by
  simp_all[HV,asIntOf]
 unfold s7
 cases lo<;>cases hi
 ·simp only at QH SJ
  subst QH SJ;simp[execOp,hr.ev hx,rI,rJ,run_underlying ht,rH,he.size]
 ·obtain⟨k,hk⟩:=SJ
  simp only at QH;subst QH;simp[execOp,hr.ev hx,hr.ev hk,rI,rJ,run_underlying ht,rH,he.size,hb k j cap _ h2]
 ·obtain⟨k,hk⟩:=QH
  simp only at SJ;subst SJ;simp[execOp,hr.ev hx,hr.ev hk,rI,rJ,run_underlying ht,rH,he.size,hb k i j _ h1]
 ·obtain⟨k,hk⟩:=QH
  obtain⟨k',mT⟩:=SJ;simp[execOp,hr.ev hx,hr.ev hk,hr.ev mT,rI,rJ,run_underlying ht,rH,he.size,hb k i j _ h1,hb k' j cap _ h2]
theorem qS{t e:TypeId}{x z:Operand}{agg:Bool}{c i len cap:Nat}{base:Option Addr}{k:IntKind}(ht:P.underlying t=aj (.slice e))(he:Ty P e agg c)(hx:ev fr x=aj (ap base len cap))(hz:ev fr z=aj (.int k (i:Int)))(h1:i<=len)(h2:len<=cap):
 RR P n W ⟨dst,.slice t x (aj z) ak ak,ty,pos,after,guard⟩ fr L (s7 base cap c i len):=KD (lo:=aj z) (hi:=ak) ht he hx ⟨k,hz⟩ I h1 h2
theorem Gj{t e:TypeId}{x z:Operand}{agg:Bool}{c j len cap:Nat}{base:Option Addr}{k:IntKind}(ht:P.underlying t=aj (.slice e))(he:Ty P e agg c)(hx:ev fr x=aj (ap base len cap))(hz:ev fr z=aj (.int k (j:Int)))(h2:j<=cap):
 RR P n W ⟨dst,.slice t x ak (aj z) ak,ty,pos,after,guard⟩ fr L (s7 base cap c 0 j):=KD (lo:=ak) (hi:=aj z) ht he hx I ⟨k,hz⟩ (bH _) h2
theorem aau{t u s:TypeId}{x y z:Operand}{m m' m2 r:Int}(hx:ev fr x=aj (av az m))(hy:ev fr y=aj (av az m'))(hz:ev fr z=aj (av az m2))(h:min m (min m' m2)=r):RR P n W ⟨dst,.call {callee:= .builtin .min,args:=#[x,y,z],argTypes:=#[t,u,s]},ty,pos,after,guard⟩ fr L (av az r):= .mk λa w hr _=>by
 subst h;have h1:=hr.ev hx;have h2:=hr.ev hy;have h3:=hr.ev hz;have e:∀a b:Int,(if b<a then b else a)=min a b:=λa b=>by omega
 simp_all[lD,Vj,Vk,Vl]
theorem C8{α:Type}{f:α->List Value}{c:Nat}(hc:∀a,(f a).length=c){w:World}{base:Option Addr}{cap:Nat}{l:List α}(h:Sl w (ap base l.length cap) l.length (l.flatMap f)){i j:Nat}(h1:i<=j)(h2:j<=l.length):
 Sl w (s7 base cap c i j) ((l.drop i).take (j-i)).length (((l.drop i).take (j-i)).flatMap f):=by
 obtain⟨b,cp,he,k1,k2,k3⟩:=h;simp only[iT,true_and]at he;obtain⟨rfl,rfl⟩:=he;have hlen:((l.drop i).take (j-i)).length=j-i:=by grind
 refine⟨_,cap-i,by rw[hlen];rfl,by omega,by omega,λh0=>?_⟩;rw[hlen]at h0;obtain⟨b,off,rfl,hr⟩:=k3 J;refine⟨b,off+i*c,by rw[if_neg J,Option.map_some,eB],λq u hq=>?_⟩;have e:l.flatMap f=(l.take i).flatMap f++((l.drop i).take (j-i)).flatMap f++((l.drop i).drop (j-i)).flatMap f:=by
  grind[zT]
 have QR:((l.take i).flatMap f).length=i*c:=by grind[kW,iU]
 have:=hr (i*c+q) u (by
  grind)
 grind
theorem lu{i size m:Nat}{e:TypeId}{v:Value}{xs:List Value}(hi:L[i]?=aj (a_ e size v m xs))(h:∀base cap,v=ap base m cap->m<=cap->cap<=9223372036854775807->TL P n W ops Q rest fr L):TL P n W ops Q rest fr L:=⟨λa w hr hm=>by
 have h1:w.ownsRow 0 e size v m xs:=hm.get hi;obtain⟨base,cap,hv,oo,yv,_⟩:=Sl.dy h1;exact(h base cap hv oo (by simp_all[maxLen])).go a w hr hm⟩
theorem If{c:Code}{i size m:Nat}{e:TypeId}{v:Value}{xs:List Value}(hi:L[i]?=aj (a_ e size v m xs))(h:∀base cap,v=ap base m cap->m<=cap->cap<=9223372036854775807->T P n W c Q fr L):T P n W c Q fr L:=⟨λa w hr hm=>by
 have h1:w.ownsRow 0 e size v m xs:=hm.get hi;obtain⟨base,cap,hv,oo,yv,_⟩:=Sl.dy h1;exact(h base cap hv oo (by simp_all[maxLen])).go a w hr hm⟩
theorem acJ{c:Code}{i size m:Nat}{e:TypeId}{v:Value}{xs:List Value}(hi:L[i]?=aj (a_ e size v m xs))(h:v.cells=#[v]->v.oneCell'=aD->T P n W c Q fr L):T P n W c Q fr L:=⟨λa w hr hm=>by
 have h1:w.ownsRow 0 e size v m xs:=hm.get hi;obtain⟨base,cap,hv,_⟩:=Sl.dy h1;exact(h (by rw[hv];rfl) (by rw[hv];rfl)).go a w hr hm⟩
def Gk(fr:Fr):List Operand->Option (List Value)
 |[]=>aj []
 |x::r=>match ev fr x,Gk fr r with|some v,aj l=>aj (v::l)|_,_=>ak
theorem C9{a:Act}(hr:nj n a fr):∀(l:List Operand) (vs:List Value),Gk fr l=aj vs->l.map a.eval=vs
 |[],vs,h=>by simp_all[Gk]
 | x ::r,vs,h=>by
  simp only[Gk]at h;split at h
  ·rename_i v l h1 h2
   simp only[dr]at h;subst h;simp[hr.ev h1,C9 hr r l h2]
  cases h
theorem vJ{fn:Fn}{first cap:Array Operand}{vs us:List Value}(h1:Gk fr first.toList=aj vs)(h2:Gk fr cap.toList=aj us):RR P n W ⟨dst,.makeFunc fn first cap,ty,pos,after,guard⟩ fr L (.func fn vs.toArray us.toArray):= .mk λa w hr _=>by
 have e1:first.map a.eval=vs.toArray:=by grind[C9,CE]
 have e2:cap.map a.eval=us.toArray:=by grind[C9,CE]
 simp only[execOp,e1,e2];rfl
end
end bZ
namespace bZ
open Go.RowKit cU dM Go.ChangeShapes Go.WideShapes Go.ChangeAt
structure Msr(P:Program)(H:Type) where
 ok:TypeId->DataW H->Prop
 lim:TypeId->Nat->Prop
 adB:Nat->Prop
 zero:∀e,lim e 0
 slice:∀{t e:TypeId} {elems spare:List (DataW H)},P.underlying t=aj (.slice e)->ok t (.slice elems spare)->lim e elems.length/\∀d∈elems,ok e d
 Wq:∀{t:TypeId} {fs:Array Field} {parts:List (DataW H)},P.underlying t=aj (.struct fs)->ok t (.agg parts)->∀(i:Nat) (f:Field) (d:DataW H),fs[i]?=aj f->parts[i]?=aj d->ok f.type d
 arr:∀{t e:TypeId} {m:Nat} {parts:List (DataW H)},P.underlying t=aj (.array m e)->ok t (.agg parts)->∀d∈parts,ok e d
 str:∀{t:TypeId} {b:List UInt8},ok t (.lit (.string b))->adB b.length
section
variable{H:Type}{P:Program}
theorem tO{e:TypeId}:∀(l:List (DataW H)) (d:DataW H),d∈l->∀n∈d.weights P e,n∈CK P e l
 |[],_,h,_,_=>by cases h
 |x::r,d,h,n,hn=>by
  rw[CK,fj];rcases dx.1 h with rfl|h
  exact .inl hn;exact .inr (tO r d h n hn)
theorem rZ:∀(ts:List TypeId) (l:List (DataW H)) (i:Nat) (t:TypeId) (d:DataW H),ts[i]?=aj t->l[i]?=aj d->∀n∈d.weights P t,n∈wS P ts l
 |[],_,_,_,_,h,_,_,_=>by simp at h
 |_::_,[],_,_,_,_,h,_,_=>by simp at h
 |t0::ts,d0::l,0,t,d,ht,hd,n,hn=>by
  simp only[tu,dr]at ht hd;subst ht hd;rw[wS,fj];exact .inl hn
 |t0::ts,d0::l,i+1,t,d,ht,hd,n,hn=>by
  rw[wS,fj];exact .inr (rZ ts l i t d (by simpa using ht) (by simpa using hd) n hn)
def QT(P:Program)(H:Type):Msr P H where
 ok t d:=∀n∈d.weights P t,n<=reachBytes
 lim e n:=n*P.bytesOf e<=reachBytes
 adB n:=n<=reachBytes
 zero e:=by simp
 slice:=λ{t e elems spare} ht h=>by
  have hw:wT P t (.slice elems spare)=(elems.length+spare.length)*P.bytesOf e::(CK P e elems++CK P e spare):=by rw[wT,ht]
  rw[hw]at h;refine⟨?_,λd hd n hn=>h n ?_⟩
  ·have h1:=h _ (gZ)
   exact fv (rO _ J) h1
  exact List.mem_cons_of_mem _ (List.mem_append_left _ (tO elems d hd n hn))
 Wq:=λ{t fs parts} ht h i f d hf hd n hn=>by
  have hw:wT P t (.agg parts)=wS P (fs.toList.map (·.type)) parts:=by rw[wT,ht]
  rw[hw]at h;exact h n (rZ _ _ i f.type d (by rw[eX,Array.getElem?_toList,hf];rfl) hd n hn)
 arr:=λ{t e m parts} ht h d hd n hn=>by
  have hw:wT P t (.agg parts)=CK P e parts:=by rw[wT,ht]
  rw[hw]at h;exact h n (tO parts d hd n hn)
 str:=λ{t b} h=>h _ (by rw[wT];exact gZ)
theorem KE{ts:List TypeId}{ds:List (DataW H)}(hsz:(wS P ts ds).all (· <=reachBytes)=aD)(j:Nat){t:TypeId}{d:DataW H}(ht:ts[j]?=aj t)(hd:ds[j]?=aj d):(QT P H).ok t d:=λn hn=>by
 have:=qj.1 hsz n (rZ ts ds j t d ht hd n hn)
 simpa using this
end
section
variable{H:Type}{enc0:TypeId×Value->H}{P:Program}{W:World}{M:Msr P H}
def kB(M:Msr P H)(enc0:TypeId×Value->H)(W:World)(t:TypeId){α:Type}(is:List Value->α->Prop):Prop:=
 ∀fuel cs x,qe enc0 P W 0 (λ_=>aD) aD fuel t cs=aj x->M.ok t x.1->∃a,is cs a
theorem kB.mono{t:TypeId}{α β:Type}{is:List Value->α->Prop}{is':List Value->β->Prop}(h:kB M enc0 W t is)(hi:∀cs a,is cs a->∃b,is' cs b):kB M enc0 W t is':=λf cs x hx hm=>let ⟨_,ha⟩:=h f cs x hx hm;hi _ _ ha
theorem Gl{t:TypeId}{α:Type}{is:List Value->α->Prop}(h:pQ enc0 P W t is):kB M enc0 W t is:=λf cs x hx _=>h f cs x hx
theorem N8{t:TypeId}(ht:P.underlying t=aj (.int .i64)):kB M enc0 W t (isInt .i64 (-9223372036854775808) 9223372036854775807):=Gl (z8 ht)
theorem xh{t:TypeId}(ht:P.underlying t=aj .string):kB M enc0 W t (λcs s=>acH cs s/\M.adB s.length):=λf cs x h hm=>by
 obtain⟨s,h1,h2,h3⟩:=Vq ht h;refine⟨s.data.toList,⟨by rw[h1,V0],?_⟩,?_⟩
 ·have e:s.data.toList.length=s.size:=lC
  unfold maxLen at h3;omega
 rw[h2]at hm;exact M.str hm
theorem r7{t e:TypeId}{c:Nat}(ht:P.underlying t=aj (.slice e))(hc:P.cellsOf e=c)(CQ:0<c){α:Type}{is:List Value->α->Prop}(hd:kB M enc0 W e is)(_:∀cs a,is cs a->cs.length=c):kB M enc0 W t (λcs l=>afh W is c cs l/\M.lim e l.length):=λfuel cs x h hm=>by
 rcases Vs ht h with⟨rfl,_⟩|⟨a,len,cap,elems,rest,n,_,rfl,hx,_,hlc,hmx,sW,yh,_⟩
 exact⟨[],⟨_,rfl,ak,0,rfl,bm _,by decide,λh=>by simp at h⟩,M.zero e⟩;rw[hx]at hm;obtain⟨C_,pF⟩:=M.slice ht hm;have each:∀i,i<len->∃y:α,∃cs,W.cells? 0 (a.add (i*c)) c=aj cs/\is cs y:=λi hi=>by
  have h1:=yh i hi;rw[hc,bD J]at h1
  cases hcell:W.cells? 0 (a.add (i*c)) c with
  |none=>rw[hcell]at h1;simp at h1
  | some cs=>
   rw[hcell]at h1;obtain⟨y,hy⟩:=hd n cs _ h1 (pF _ (List.mem_map.2 ⟨_,cD J,rfl⟩));exact⟨y,cs,rfl,hy⟩
 obtain⟨l,Ko,hp⟩:=yi len each;subst Ko;refine⟨l,⟨_,rfl,aj a,cap,rfl,hlc,hmx,λh0=>?_⟩,by rw[List.length_map,sW]at C_;exact C_⟩;obtain⟨cs0,h1,h2⟩:=hp 0 l[0] (bD h0);have h3:=(iV h1).2 0 CQ;have hlen:=(iV h1).1;rw[bD J]at h3;have hsp:=zV h3;have e0:a.spot=none:=by
  rw[wZ]at hsp;unfold ti at hsp
  simpa using hsp
 obtain⟨b,off,spot⟩:=a;simp only at e0;subst e0;refine⟨b,off,rfl,λi hi=>?_⟩;obtain⟨cs,h4,h5⟩:=hp i l[i] (bD hi);refine⟨cs,h5,λj u hj=>?_⟩;have SB:j<c:=by have:=(dl.1 hj).1;rw[(iV h4).1]at this;exact this
 have h6:=(iV h4).2 j SB;rw[eB,eB]at h6;rw[h6];exact hj
theorem z_{t:TypeId}{fs:Array Field}(ht:P.underlying t=aj (.struct fs)){fuel:Nat}{cs:List Value}{x:DataW H×List MemPlace}(h:qe enc0 P W 0 (λ_=>aD) aD fuel t cs=aj x)(hm:M.ok t x.1):
 cs.length=P.cellsOf t/\∀(i:Nat) (f:Field),fs[i]?=aj f->∀{α:Type} {is:List Value->α->Prop},kB M enc0 W f.type is->∃a,is ((cs.drop f.offset).take (P.cellsOf f.type)) a:=by
 obtain⟨xs,n,_,hx,hl,hlen,hf⟩:=Vr ht h;refine⟨hl,λi f hi α is ho=>?_⟩;have h1:=hf i f hi;have hlt:i<xs.length:=by rw[hlen];exact(jt.1 hi).1
 rw[bD hlt]at h1;rw[hx]at hm;exact ho n _ _ h1 (M.Wq ht hm i f _ hi (by rw[eX,bD hlt];rfl))
theorem Ws{t:TypeId}{fs:Array Field}(ht:P.underlying t=aj (.struct fs)){base:Nat}{v:Value}{d:DataW H}{ps:List MemPlace}(hv:CM P W .any base t v)(h:Nz enc0 P W 0 (λ_=>aD) aD t v d ps){α:Type}{is:List Value->α->Prop}(ho:kB M enc0 W t is)(hm:M.ok t d):∃cs a,v= .agg cs/\is cs.toList a:=by
 obtain⟨cs,fuel,rfl,hf⟩:=aat ht hv h;obtain⟨a,ha⟩:=ho fuel cs.toList _ hf hm;exact⟨cs,a,rfl,ha⟩
end
theorem SX.flat{α:Type}{W:World}{is:List Value->α->Prop}{f:α->List Value}{c:Nat}{v:Value}{l:List α}(h:SX W is c v l)(hc:∀a,(f a).length=c)(CQ:0<c)(hf:∀cs a,is cs a->cs=f a):Sl W v l.length (l.flatMap f):=by
 obtain⟨base,cap,h1,h2,h3,h4⟩:=h;refine⟨base,cap,h1,h2,h3,λh0=>?_⟩;obtain⟨b,off,h5,h6⟩:=h4 h0;refine⟨b,off,h5,λj u hj=>?_⟩;have SB:=(dl.1 hj).1;rw[A2 hc]at SB;have hi:j/c<l.length:=(NO CQ).2 SB;have SC:=w6 j CQ;have hdm:j/c*c+j %c=j:=by rw[VR];exact VQ j c
 obtain⟨cs,h7,h8⟩:=h6 (j/c) hi;rw[hf _ _ h7]at h8;have h9:=tC hc l (j/c) (j %c) l[j/c] (bD hi) SC;rw[hdm]at h9;rw[h9]at hj;have:=h8 (j %c) u hj;rw[lG,hdm]at this;exact this
end bZ
namespace bZ
open Go.RowKit cU dM
section
variable{P:Program}{n:Nat}{W:bR}{fr:Fr}{L:List b_}{Q:Exit->Act->World->Prop}{ops:Array Oper}{rest:List Oper}{d:Nat}{dst:Option Tmp}{ty:TypeId}{pos:String}{after:Array Edge}{guard:Option (Nat×Bool)}
theorem tP{t e:TypeId}{x y:Operand}{c bytes m cap:Nat}{k k':IntKind}{zs:Array Value}[sW:qN P t e c bytes][hz0:bT P e zs](hx:ev fr x=aj (.int k (m:Int)))(hy:ev fr y=aj (.int k' (cap:Int)))(Nl:m<=cap)(hb:bytes*cap<=281474976710656)(qM:cap<=9223372036854775807)(hn:dj d n=aD)
 (h:∀g,TL P n W ops Q rest ((d,ap (aj ⟨g,0,ak⟩) m cap)::fr) (L++[aP g (madeCells zs (cap*c)) e])):TL P n W ops Q (⟨aj d,.makeSlice t x y,ty,pos,after,ak⟩::rest) fr L:=kz I λa w hr hm K hK=>by
 obtain⟨i,z,ht,hi,hz,hc,Nk,hzc,h0⟩:=sW.el.ex;obtain⟨i2,z2,U0,hz2,hz3⟩:=bT.ex (P:=P) (t:=e);rw[hi]at U0;obtain rfl:i=i2:=rP U0;rw[hz]at hz2;obtain rfl:z=z2:=rP hz2;have Nn:(i.bytes:Int)*(cap:Int)<=281474976710656:=by
  rw[Nk,<-Int.natCast_mul];omega
 have hrun:=run_make (P:=P) w t e i z ht hi hz k k' (m:Int) (cap:Int) J J Nn J;rw[dB,dB,hc,hz3]at hrun;have e':(execOp a.eval ⟨aj d,.makeSlice t x y,ty,pos,after,ak⟩).run P w= .ok (.value (ap (aj ⟨w.heap.size,0,ak⟩) m cap)) (w.alloc (.cells (madeCells zs (cap*c)) e)):=by
  simp only[execOp,hr.ev hx,hr.ev hy,mO,hrun,qf,oy]
 unfold fM;rw[e'];exact hK _ _ ((h w.heap.size).go _ _ (hr.put hn _) (hm.append (nv w _) (mS.one (heap_alloc_new w _) λk hk=>by simp only[aP,dr]at hk;omega)))
theorem Mem.Wt{w:World}{i g m cap size:Nat}{cs:Array Value}{e:TypeId}(h:Mem W L w)(hi:L[i]?=aj (aP g cs e))(hc:cs.size=cap*size)(Nl:m<=cap)(lm:cap<=9223372036854775807):Mem W (L.set i (a_ e size (ap (aj ⟨g,0,ak⟩) m cap) m (cs.toList.take (m*size)))) w:=
 h.BI hi ⟨rfl,rfl,rfl,bm _,λ_ _ _=>rfl⟩ ⟨by rw[iU,lC,hc,H2 (rO _ Nl)],.inr ⟨g,cap,cs,rfl,bH _,h.get hi,Nl,by unfold maxLen;omega,hc,rfl⟩⟩ λk hk=> .inl hk
theorem Gm{i g m cap:Nat}{cs:Array Value}{e:TypeId}(size:Nat)(hi:L[i]?=aj (aP g cs e))(hc:cs.size=cap*size)(Nl:m<=cap)(lm:cap<=9223372036854775807)(h:TL P n W ops Q rest fr (L.set i (a_ e size (ap (aj ⟨g,0,ak⟩) m cap) m (cs.toList.take (m*size))))):TL P n W ops Q rest fr L:=
 ⟨λa w hr sY=>h.go a w hr (sY.Wt hi hc Nl lm)⟩
theorem Wu{c:Code}{i g m cap:Nat}{cs:Array Value}{e:TypeId}(size:Nat)(hi:L[i]?=aj (aP g cs e))(hc:cs.size=cap*size)(Nl:m<=cap)(lm:cap<=9223372036854775807)(h:T P n W c Q fr (L.set i (a_ e size (ap (aj ⟨g,0,ak⟩) m cap) m (cs.toList.take (m*size))))):T P n W c Q fr L:=
 ⟨λa w hr sY=>h.go a w hr (sY.Wt hi hc Nl lm)⟩
theorem kX{i g m cap:Nat}{cs:Array Value}{T:TypeId}{xs:List Value}(hi:L[i]?=aj (aP g cs T))(hx:∀(j:Nat) (u:Value),xs[j]?=aj u->cs[j]?=aj u)(Nl:m<=cap)(lm:cap<=9223372036854775807):SlL W L (ap (aj ⟨g,0,ak⟩) m cap) m xs:=λw hm=>
 ⟨_,cap,rfl,Nl,by unfold maxLen;omega,λ_=>⟨g,0,rfl,λj u hj=>by
  rw[cV];exact aH hi (hx j u hj) w hm⟩⟩
end
theorem acK{z:Array Value}{k m:Nat}(h:z.size=k)(h0:0<k):madeCells z (m*k)=((cZ m z.toList).flatten).toArray:=by
 subst h;apply Array.ext_getElem?;intro j;unfold madeCells
 by_cases hj:j<m*z.size
 ·have h2:j/z.size<m:=(NO h0).2 hj
  have h3:=w6 j h0;have key:∀(m j:Nat),j<m*z.size->((cZ m z.toList).flatten)[j]?=z.toList[j %z.size]?:=by
   intro m
   induction m with
   |zero=>intro j hj;simp at hj
   | succ m ih=>
    intro j hj;rw[List.replicate_succ,CP]
    by_cases hc:j<z.size
    rw[gJ (by simpa using hc),NP hc];rw[mP (by simp;omega)];simp only[lC];rw[ih (j-z.size) (by rw[kU]at hj;omega)]
    congr 1
    exact(Nat.mod_eq_sub_mod J).symm
  simp only[jf,key m j hj];simp[hj,h3]
 have:((cZ m z.toList).flatten).length=m*z.size:=by simp
 rw[Array.getElem?_eq_none (by simp;omega),jf,ku J]
theorem Gn:∀(xs:List Value) (acc:Array Value) (off k:Nat),off+k+xs.length<=acc.size->(xs.toArray.zipIdx k).foldl (λcs (x:Value×Nat)=>cs.setIfInBounds (off+x.2) x.1) acc=(acc.toList.take (off+k)++xs++acc.toList.drop (off+k+xs.length)).toArray
 | [],acc,off,k,_=>by
  have e0:(([]:List Value).toArray.zipIdx k)=#[]:=by apply rF;simp
  rw[e0];simp
 | x ::xs,acc,off,k,h=>by
  simp only[c_]at h;have e:(x::xs).toArray.zipIdx k=#[(x,k)]++xs.toArray.zipIdx (k+1):=by
   apply rF;simp[HZ]
  rw[e,Array.foldl_append];have e2:(#[(x,k)]:Array (Value×Nat)).foldl (λcs (x:Value×Nat)=>cs.setIfInBounds (off+x.2) x.1) acc=acc.setIfInBounds (off+k) x:=by simp
  rw[e2,Gn xs _ off (k+1) (by simp;omega)]
  congr 1
  have hA:(acc.toList.take (off+k)).length=off+k:=by simp;omega
  have hA1:(acc.toList.take (off+k)++[x]).length=off+k+1:=by rw[bK,hA];rfl
  have e3:acc.toList.set (off+k) x=(acc.toList.take (off+k)++[x])++acc.toList.drop (off+k+1):=by
   rw[CN,if_pos (by simp;omega)];simp
  simp only[HP,c_];rw[e3,show off+(k+1)=off+k+1 by omega,NL hA1,<-qi,NM hA1,qi];simp only[eY,kS,eJ];rw[show off+k+1+xs.length=off+k+(xs.length+1)by omega]
theorem acL{c:Nat}(c0:Nat->Option (Nat×Nat))(CQ:∀i,c0 i=aj (i*c,c)):∀(vs:List Value) (k:Nat) (acc:Array Value),(k+vs.length)*c<=acc.size->(∀v∈vs,v.cells.size=c)->
 ju c0 acc ((vs.zipIdx k).map λ(v,i)=>(i,v))=aj (acc.toList.take (k*c)++vs.flatMap (λv=>v.cells.toList)++acc.toList.drop ((k+vs.length)*c)).toArray
 |[],k,acc,h,_=>by simp[ju]
 | v ::vs,k,acc,h,h1=>by
  simp only[c_]at h;have hv:=h1 v (by simp);have hsz:k*c+c<=acc.size:=by
   have:(k+1)*c<=(k+(vs.length+1))*c:=rO _ J;rw[jh,tA]at this;omega
  rw[HZ,gd];simp only[ju,CQ];rw[if_neg (by simp[hv];omega)];have acM:=Gn v.cells.toList acc (k*c) 0 (by simp[hv];exact hsz);simp only[CD,jw,lC,hv]at acM;rw[acM,acL c0 CQ vs (k+1) _ (by simp[hv];rw[jh,jh]at*;omega) (λu hu=>h1 u (by simp[hu]))]
  congr 2
  have hA:(acc.toList.take (k*c)).length=k*c:=by simp;omega
  have hA1:(acc.toList.take (k*c)++v.cells.toList).length=(k+1)*c:=by rw[bK,hA,lC,hv,jh,tA]
  simp only[mc,c_];rw[NL hA1];have e5:(k+1+vs.length)*c=(k+1)*c+vs.length*c:=jh _ _ _;rw[e5,<-qi,NM hA1,qi];simp only[eY];rw[show k*c+c+vs.length*c=(k+(vs.length+1))*c by rw[jh,jh,tA];omega]
theorem Wv{P:Program}{t e:TypeId}{c bytes:Nat}(sW:El P t e c bytes)(vs:List Value)(h1:∀v∈vs,v.cells.size=c)(h0:0<vs.length)(hm:vs.length*c<=16777216)(w:World):
 (tm t vs.length (vs.zipIdx.map λ(v,i)=>(i,v)).toArray).run P w= .ok (ap (aj ⟨w.heap.size,0,ak⟩) vs.length vs.length) (w.alloc (.cells (vs.flatMap λv=>v.cells.toList).toArray e)):=by
 obtain⟨i,z,ht,hi,hz,hc,_,hzc,hp⟩:=sW.ex;have tG:=acL (c:=c) (λi=>aj (i*c,c)) (by simp) vs 0 ((CF (vs.length*c)).map (z.cells[· %z.cells.size]!)) (by simp) h1
 simp only[wZ,nM,eJ,cV]at tG;rw[jg (by simp)]at tG;simp only[eG]at tG;have hne:¬(vs.length*c>2^24):=by omega
 have V9:¬(vs.length*c=0):=by
  have:=Nat.mul_pos h0 hp;omega
 simp only[tm,mO,run_underlying ht,qf,sizeOf,typeInfo,run_program,hi,oy,hc,zeroValue,hz,if_neg hne,if_neg V9];simp only[tG,newRow];simp
section
variable{P:Program}{n:Nat}{W:bR}{fr:Fr}{L:List b_}{Q:Exit->Act->World->Prop}{ops:Array Oper}{rest:List Oper}{d:Nat}{dst:Option Tmp}{ty:TypeId}{pos:String}{after:Array Edge}{guard:Option (Nat×Bool)}
theorem fm{t e:TypeId}{c bytes m:Nat}{parts:Array (Nat×Operand)}{cs:Array Value}(vs:List Value)[sW:qN P t e c bytes](hp:rU fr parts.toList=aj (vs.zipIdx.map λ(v,i)=>(i,v)))(hm:vs.length=m)(h0:dj 0 m=aD)(h1:∀v∈vs,v.cells.size=c)(hs:w4 (m*c) 16777216=aD)(hcs:cs=(vs.flatMap λv=>v.cells.toList).toArray)(hn:dj d n=aD)
 (h:∀g,TL P n W ops Q rest ((d,ap (aj ⟨g,0,ak⟩) m m)::fr) (L++[aP g cs e])):TL P n W ops Q (⟨aj d,.buildSlice t m parts,ty,pos,after,ak⟩::rest) fr L:=by
 subst hm hcs;refine N1 (λa w hr=>?_) hn h;have e:(parts.map λ(i,x)=>(i,a.eval x))=(vs.zipIdx.map λ(v,i)=>(i,v)).toArray:=by
  rw[<-rW hr _ _ hp,<-CE,CD]
 rw[e];exact Wv sW.el vs h1 (me h0) (me hs) w
theorem KF{t e:TypeId}{x z:Operand}{agg:Bool}{c j len cap:Nat}{base:Option Addr}{k:IntKind}(ht:P.underlying t=aj (.slice e))(he:Ty P e agg c)(hx:ev fr x=aj (ap base len cap))(hz:ev fr z=aj (.int k (j:Int)))(h:j<=cap):RR P n W ⟨dst,.slice t x ak (aj z) ak,ty,pos,after,guard⟩ fr L (ap base j cap):= .mk λa w hr hm=>by
 have h1:=(Gj (P:=P) (n:=n) (W:=W) (L:=L) (dst:=dst) (ty:=ty) (pos:=pos) (after:=after) (guard:=guard) ht he hx hz h).go a w hr hm;have e1:s7 base cap c 0 j=ap base j cap:=by
  unfold s7
  cases base with
  |none=>simp
  |some q=>simp[ti]
 rw[e1]at h1;exact h1
theorem kY{fn:Func}{R:Ending->World->Prop}(ns:fn.results=#[])(h:∀w,Mem W L w->R (.returned (.tuple #[])) w):E n W .normal (bodyPost P fn R) fr L:=
 ⟨λa w hr hm=>⟨hr.defers,.tuple #[],by simp[results,ns],h w hm⟩⟩
end
end bZ
namespace bZ
open Go.RowKit cU dM
structure vO(α:Type) where
 c:Nat
 is:(Nat->Prop)->World->List Value->α->Prop
 len:∀{F w cs a},is F w cs a->cs.length=c
 stay:∀{F w w' cs a},is F w cs a->(∀k,F k->w'.heap[k]?=w.heap[k]?)->is F w' cs a
 mono:∀{F F' w cs a},is F w cs a->(∀k,F k->F' k)->is F' w cs a
def All:Nat->Prop:=λ_=>True
theorem rd_stay{w w':World}{b off:Nat}{cs:List Value}(h:Rd w b off cs)(hk:w'.heap[b]?=w.heap[b]?):Rd w' b off cs:=λj u hj=>by
 rw[VF (w:=w) (a:=⟨b,off+j,ak⟩) hk];exact h j u hj
def jQ{α:Type}(s:vO α)(F:Nat->Prop)(w:World)(v:Value)(l:List α):Prop:=
 ∃base cap,v=ap base l.length cap/\l.length<=cap/\cap<=maxLen/\(0<l.length->∃b off,base=aj ⟨b,off,ak⟩/\F b/\∀i (h:i<l.length),∃cs,s.is F w cs l[i]/\Rd w b (off+i*s.c) cs)
section
variable{α β:Type}{s:vO α}{F F':Nat->Prop}{w w':World}{v:Value}{l:List α}
theorem jQ.stay(h:jQ s F w v l)(hk:∀k,F k->w'.heap[k]?=w.heap[k]?):jQ s F w' v l:=
 let ⟨base,cap,h1,h2,h3,h4⟩:=h
 ⟨base,cap,h1,h2,h3,λh0=>let ⟨b,off,h5,h6,h7⟩:=h4 h0;⟨b,off,h5,h6,λi hi=>let ⟨cs,h8,h9⟩:=h7 i hi;⟨cs,s.stay h8 hk,rd_stay h9 (hk b h6)⟩⟩⟩
theorem jQ.mono(h:jQ s F w v l)(hk:∀k,F k->F' k):jQ s F' w v l:=
 let ⟨base,cap,h1,h2,h3,h4⟩:=h
 ⟨base,cap,h1,h2,h3,λh0=>let ⟨b,off,h5,h6,h7⟩:=h4 h0;⟨b,off,h5,hk b h6,λi hi=>let ⟨cs,h8,h9⟩:=h7 i hi;⟨cs,s.mono h8 hk,h9⟩⟩⟩
theorem jQ.nil:jQ s F w (ap ak 0 0) []:=⟨ak,0,rfl,bm _,by decide,λh=>by grind⟩
def yw(f:α->List Value)(c:Nat)(hc:∀a,(f a).length=c)(p:α->Prop):vO α:=
 ⟨c,λ_ _ cs a=>cs=f a/\p a,λh=>by rw[h.1,hc],λh _=>h,λh _=>h⟩
def fz:vO Int:=yw (λn=>[av az n]) 1 (λ_=>rfl) cU.dX
def S3:vO (List UInt8):=yw (λs=>[str s]) 1 (λ_=>rfl) (λs=>s.length<=9223372036854775807)
def bM(s:vO α):vO (List α):=
 ⟨1,λF w cs l=>∃v,cs=[v]/\jQ s F w v l,λ⟨_,h,_⟩=>by rw[h];rfl,λ⟨v,h1,h2⟩ hk=>⟨v,h1,h2.stay hk⟩,λ⟨v,h1,h2⟩ hk=>⟨v,h1,h2.mono hk⟩⟩
def Ww(s:vO α)(t:vO β):vO (α×β):=
 ⟨s.c+t.c,λF w cs x=>∃c1 c2,cs=c1++c2/\s.is F w c1 x.1/\t.is F w c2 x.2,λ⟨_,_,h,h1,h2⟩=>by rw[h,bK,s.len h1,t.len h2],
  λ⟨c1,c2,h,h1,h2⟩ hk=>⟨c1,c2,h,s.stay h1 hk,t.stay h2 hk⟩,λ⟨c1,c2,h,h1,h2⟩ hk=>⟨c1,c2,h,s.mono h1 hk,t.mono h2 hk⟩⟩
theorem jQ.flat{f:α->List Value}{c:Nat}{hc:∀a,(f a).length=c}{p:α->Prop}(CQ:0<c)(h:jQ (yw f c hc p) F w v l):Sl w v l.length (l.flatMap f):=by
 obtain⟨base,cap,h1,h2,h3,h4⟩:=h;have hx:SX w (λcs a=>cs=f a) c v l:=⟨base,cap,h1,h2,h3,λh0=>let ⟨b,off,h5,_,h7⟩:=h4 h0;⟨b,off,h5,λi hi=>let ⟨cs,h8,h9⟩:=h7 i hi;⟨cs,h8.1,h9⟩⟩⟩;exact hx.flat hc CQ λcs a h=>h
theorem jQ.okp{f:α->List Value}{c:Nat}{hc:∀a,(f a).length=c}{p:α->Prop}(h:jQ (yw f c hc p) F w v l):∀a∈l,p a:=λa ha=>by
 obtain⟨i,hi,rfl⟩:=g_.1 ha;obtain⟨base,cap,h1,h2,h3,h4⟩:=h;obtain⟨b,off,_,_,h7⟩:=h4 J;obtain⟨cs,h8,_⟩:=h7 i hi;exact h8.2
theorem jQ.of_flat{f:α->List Value}{c:Nat}{hc:∀a,(f a).length=c}{p:α->Prop}(h:Sl w v l.length (l.flatMap f))(hp:∀a∈l,p a)(_:∀b,v.ownBlock=aj b->F b)(hF2:∀a n cp,v=ap (aj a) n cp->F a.block):jQ (yw f c hc p) F w v l:=by
 obtain⟨base,cap,h1,h2,h3,h4⟩:=h;refine⟨base,cap,h1,h2,h3,λh0=>?_⟩;obtain⟨b,off,h5,h6⟩:=h4 h0;refine⟨b,off,h5,hF2 ⟨b,off,ak⟩ l.length cap (by grind),λi hi=>⟨f l[i],⟨rfl,hp _ (cD hi)⟩,λj u hj=>?_⟩⟩;have hjc:j<c:=by grind
 have:=h6 (i*c+j) u (by simp_all[tL]);rw[lG];exact this
def Fu(s:vO α)(F:Nat->Prop)(cs:List Value)(a:α):b_:=
 ⟨ak,F,λw=>s.is F w cs a/\∀k,F k->k<w.heap.size,λw h k hk=>h.2 k (hk.elim (λh=>by cases h) id),λw w' h hs hb=>⟨s.stay h.1 λk hk=>hb k (.inr hk),λk hk=>jv (h.2 k hk) hs⟩⟩
def dZ(s:vO α)(F:Nat->Prop)(fT:List (List Value))(l:List α):b_:=
 ⟨ak,F,λw=>(fT.length=l.length/\∀i (h:i<l.length) (h':i<fT.length),s.is F w fT[i] l[i])/\∀k,F k->k<w.heap.size,λw h k hk=>h.2 k (hk.elim (λh=>by cases h) id),
  λw w' h hs hb=>⟨⟨h.1.1,λi hi pB=>s.stay (h.1.2 i hi pB) λk hk=>hb k (.inr hk)⟩,λk hk=>jv (h.2 k hk) hs⟩⟩
end
def Wy(F:Nat->Prop)(v:Value):Nat->Prop:=λk=>F k\/v.ownBlock=aj k
theorem tQ{c:Nat}:∀(fT:List (List Value)) (_:∀x∈fT,x.length=c) (i j:Nat) (h:i<fT.length),j<c->fT.flatten[i*c+j]?=fT[i][j]?
 |x::r,hc,0,j,h,hj=>by
  grind
 |x::r,hc,i+1,j,h,hj=>by
  have hx:=hc x (by simp);have ih:=tQ r (λy hy=>hc y (by grind)) i j (by simp_all) hj;rw[CP,mP (by rw[hx,kU];omega),hx];simp only[VK];rw[<-ih,kU]
  congr 1;omega
section
variable{α:Type}{s:vO α}{F:Nat->Prop}{w:World}{v:Value}{l:List α}
theorem xi{e:TypeId}{fT:List (List Value)}(hr:(a_ e s.c v l.length fT.flatten).holds w)(he:(dZ s F fT l).holds w)(_:0<s.c):jQ s (Wy F v) w v l:=by
 have hr:w.ownsRow 0 e s.c v l.length fT.flatten:=hr;obtain⟨⟨h1,h2⟩,h3⟩:=he;have hlen:∀x∈fT,x.length=s.c:=λx hx=>by
  obtain⟨i,hi,rfl⟩:=g_.1 hx;exact s.len (h2 i J hi)
 obtain⟨base,cap,h4,h5,h6,h7⟩:=Sl.dy hr;refine⟨base,cap,h4,h5,h6,λh0=>?_⟩;have hb:∃g,v=ap (aj ⟨g,0,ak⟩) l.length cap/\v.ownBlock=aj g:=by
  rcases hr.2 with⟨hv,h0'⟩|⟨g,Fp,jM,hv,_⟩
  omega;rw[h4]at hv;simp only[iT,true_and]at hv;obtain⟨rfl,rfl⟩:=hv;exact⟨g,h4,by rw[h4];rfl⟩
 obtain⟨g,hv,hg⟩:=hb;rw[h4]at hv;simp only[iT,and_true]at hv;subst hv;obtain⟨b,off,h8,h9⟩:=h7 h0;simp only[dr,Nw,and_true]at h8;obtain⟨rfl,rfl⟩:=h8;refine⟨g,0,rfl,.inr hg,λi hi=>⟨fT[i]' J,s.mono (h2 i hi J) λk hk=> .inl hk,λj u hj=>?_⟩⟩;have hjc:j<s.c:=by grind
 have:=h9 (i*s.c+j) u (by simp_all[tQ]);rw[lG];exact this
theorem xj{e:TypeId}{fT:List (List Value)}{n c:Nat}(hr:(a_ e c v n fT.flatten).holds w)(he:(dZ s F fT l).holds w):∀k,Wy F v k->k<w.heap.size:=λk hk=>hk.elim (he.2 k) λh=>((a_ e c v n fT.flatten).lt w hr k (.inl h))
theorem mj{F2:Nat->Prop}{fT:List (List Value)}{cs:List Value}{a:α}(he:(dZ s F fT l).holds w)(hs:s.is F2 w cs a)(h2:∀k,F2 k->k<w.heap.size):(dZ s (λk=>F k\/F2 k) (fT++[cs]) (l++[a])).holds w:=by
 obtain⟨⟨h1,h3⟩,h4⟩:=he;refine⟨⟨by grind,λi hi pB=>?_⟩,λk hk=>hk.elim (h4 k) (h2 k)⟩
 by_cases c:i<l.length
 ·rw[VJ J,VJ c]
  exact s.mono (h3 i c J) λk hk=> .inl hk
 have U0:i=l.length:=by grind
 subst U0;rw[VI J,VI (bm _)];simp only[h1,Nat.sub_self,List.getElem_cons_zero];exact s.mono hs λk hk=> .inr hk
theorem je:(dZ s (λ_=>False) [] []).holds w:=⟨⟨rfl,λi h=>by simp⟩,λk h=>h.elim⟩
end
section
variable{P:Program}{n:Nat}{W:bR}{fr:Fr}{L:List b_}{Q:Exit->Act->World->Prop}{ops:Array Oper}{rest:List Oper}{d:Nat}
theorem Mem.Wz{w:World}(o:b_)(i j:Nat)(js:List Nat){o1 o2:b_}{R:List b_}(h:Mem W L w)(hn:([i,j]++js).Nodup)(h1:L[i]?=aj o1)(h2:L[j]?=aj o2)(hR:R=js.filterMap λi=>L[i]?)(hf:∀k,o.e9 k->o1.e9 k\/o2.e9 k)(hh:∀w,o1.holds w->o2.holds w->o.holds w):Mem W (R++[o]) w:=by
 refine Mem.merge o (h.pick ([i,j]++js) hn ?_) hf (hh w);rw[List.filterMap_append,<-hR]
 congr 1
 rw[zS (by exact h1),zS (by exact h2)];rfl
theorem oK(o:b_)(i j:Nat)(js:List Nat){o1 o2:b_}{R:List b_}(hn:([i,j]++js).Nodup)(h1:L[i]?=aj o1)(h2:L[j]?=aj o2)(hR:R=js.filterMap λi=>L[i]?)(hf:∀k,o.e9 k->o1.e9 k\/o2.e9 k)(hh:∀w,o1.holds w->o2.holds w->o.holds w)(h:TL P n W ops Q rest fr (R++[o])):TL P n W ops Q rest fr L:=⟨λa w hr hm=>h.go a w hr (hm.Wz o i j js hn h1 h2 hR hf hh)⟩
theorem vP{e:Exit}(o:b_)(i j:Nat)(js:List Nat){o1 o2:b_}{R:List b_}(hn:([i,j]++js).Nodup)(h1:L[i]?=aj o1)(h2:L[j]?=aj o2)(hR:R=js.filterMap λi=>L[i]?)(hf:∀k,o.e9 k->o1.e9 k\/o2.e9 k)(hh:∀w,o1.holds w->o2.holds w->o.holds w)(h:E n W e Q fr (R++[o])):E n W e Q fr L:=⟨λa w hr hm=>h.go a w hr (hm.Wz o i j js hn h1 h2 hR hf hh)⟩
theorem Mem.WA{w:World}(o:b_)(h:Mem W L w)(hf:∀k,¬o.e9 k)(hh:o.holds w):Mem W (L++[o]) w:=
 h.append (Gr.refl w) (eA.one hh λk hk=>absurd hk (hf k))
theorem ml{c:Code}(o:b_)(hf:∀k,¬o.e9 k)(hh:∀w,o.holds w)(h:T P n W c Q fr (L++[o])):T P n W c Q fr L:=⟨λa w hr hm=>h.go a w hr (hm.WA o hf (hh w))⟩
theorem KG(o:b_)(hf:∀k,¬o.e9 k)(hh:∀w,o.holds w)(h:TL P n W ops Q rest fr (L++[o])):TL P n W ops Q rest fr L:=⟨λa w hr hm=>h.go a w hr (hm.WA o hf (hh w))⟩
theorem pR{e:Exit}(o:b_)(hf:∀k,¬o.e9 k)(hh:∀w,o.holds w)(h:E n W e Q fr (L++[o])):E n W e Q fr L:=⟨λa w hr hm=>h.go a w hr (hm.WA o hf (hh w))⟩
theorem Aa{α:Type}{f:α->List Value}{c:Nat}(hc:∀a,(f a).length=c){t e:TypeId}{p x:Operand}{i g off cap k m:Nat}{agg:Bool}{l:List α}{a:α}{v:Value}(hT:Ty P t agg c)(hi:L[i]?=aj (a_ e c (ap (aj ⟨g,0,ak⟩) m cap) m (l.flatMap f)))(hp:ev fr p=aj (aJ (aj ⟨g,off,ak⟩)))(ae9:off=k*c)(hk:k<l.length)(hm0:m=l.length)(hx:ev fr x=aj v)(hv:v.cells=(f a).toArray)(h1:(f a).all eQ=aD)
 {ty:TypeId} {pos:String} {after:Array Edge}
 (h:TL P n W ops Q rest fr (L.set i (a_ e c (ap (aj ⟨g,0,ak⟩) m cap) m ((l.set k a).flatMap f)))):
 TL P n W ops Q (⟨ak,.store t p x,ty,pos,after,ak⟩::rest) fr L:=kz I λact w hr hm K hK=>by
 subst ae9 hm0;have mf:w.ownsRow 0 e c (ap (aj ⟨g,0,ak⟩) l.length cap) l.length (l.flatMap f):=hm.get hi;have ae8:=mf;rcases mf.2 with⟨h0,_⟩|⟨g',Fp,jM,he,BJ,hg,hnc,Ks,hcs,yo⟩
 omega
 simp only[iT,dr,Nw,and_true,true_and]at he;obtain⟨rfl,rfl⟩:=he;have Fs:k*c+c<=jM.size:=by
  have:(k+1)*c<=cap*c:=rO _ J;rw[hcs];rw[jh,tA]at this;omega
 have hst:=run_storeCells_at P g (k*c) e (f a) 0 jM w hg (by simp_all) (qj.1 h1);simp only[jw,hc]at hst;have e':(execOp act.eval ⟨ak,.store t p x,ty,pos,after,ak⟩).run P w= .ok .skip (w.setRow g (jM.toList.take (k*c)++f a++jM.toList.drop (k*c+c)).toArray):=by
  simp[execOp,hr.ev hp,hr.ev hx,NA,wU,storeVar,hT.size,hv,hst,hc]
 unfold fM;rw[e'];refine hK _ _ (h.go _ _ (hr.tD undef) (hm.BI hi ⟨rfl,rfl,rfl,by simp,λk _ hk=>setRow_other w g k _ (λe=>hk (by subst e;rfl))⟩ ?_ λk hk=> .inl hk));have hlen:=kW hc l;refine⟨by rw[kW hc];simp,.inr ⟨g,cap,_,rfl,BJ,setRow_heap w g jM _ e _ hg,hnc,Ks,by grind,?_⟩⟩;have e1:(l.set k a).flatMap f=(l.flatMap f).take (k*c)++f a++(l.flatMap f).drop (k*c+c):=by
  have QR:((l.take k).flatMap f).length=k*c:=by grind[kW,iU]
  have J':((l.take (k+1)).flatMap f).length=k*c+c:=by rw[kW hc,iU,H2 J,jh,tA]
  have t1:(l.flatMap f).take (k*c)=(l.take k).flatMap f:=by
   grind[zT]
  have t2:(l.flatMap f).drop (k*c+c)=(l.drop (k+1)).flatMap f:=by
   grind[zT]
  simp_all[CN]
 rw[e1,<-yo];have hkl:k*c+c<=l.length*c:=by
  have:(k+1)*c<=l.length*c:=rO _ J;rw[jh,tA]at this;exact this
 simp only[List.take_take,List.take_append,bK,hc,iU,lC];rw[H2 (by omega:k*c<=jM.size),Nat.min_eq_right (by omega:k*c<=l.length*c),H2 (by omega:k*c<=l.length*c),gK (by grind:(f a).length<=l.length*c-k*c)]
 congr 1
 rw[NN]
theorem pS{i:Nat}{o:b_}{φ:Prop}(hi:L[i]?=aj o)(hφ:∀w,o.holds w->φ)(h:φ->TL P n W ops Q rest fr L):TL P n W ops Q rest fr L:=⟨λa w hr hm=>(h (hφ w (hm.get hi))).go a w hr hm⟩
theorem io{c:Code}{i:Nat}{o:b_}{φ:Prop}(hi:L[i]?=aj o)(hφ:∀w,o.holds w->φ)(h:φ->T P n W c Q fr L):T P n W c Q fr L:=⟨λa w hr hm=>(h (hφ w (hm.get hi))).go a w hr hm⟩
end
end bZ
namespace bZ
open Go.RowKit cU dM
open Go.WideMaps (KeyLaw)
def C'(v:Value):Option (DataW Value×List MemPlace):=aj (.held v,[])
structure yx(P:Program)(k:TypeId)(κ:Type) where
 kv:κ->Value
 ok:κ->Prop
 law:KeyLaw P k
 key:∀x,ok x->∃l,keyOf P k (kv x)=aj l
 inj:∀x y,kv x=kv y->x=y
section
variable{P:Program}{k:TypeId}{κ:Type}
theorem yx.keyed(K:yx P k κ):Maps.Keyed P k:=adf K.law
variable(K:yx P k κ)
def KH(D:DataW Value)(m:κ->Option Value)(n:Nat):Prop:=
 NB D=n/\∀x l,K.ok x->keyOf P k (K.kv x)=aj l->match m x with|some v=>NC D l=aD/\(∀z,D.atKey l z= .held v)|none=>NC D l=aE
def eZ(g:Nat)(m:κ->Option Value)(n:Nat):b_:=
 ⟨aj g,λ_=>False,λw=>∃D,w.ownsMap P k C' g n D/\KH K D m n,λw ⟨D,h,_⟩ q hq=>by simp only[dr,or_false]at hq;subst hq;exact h.lt,
  λw w' ⟨D,⟨es,clock,hb,h⟩,h2⟩ _ hk=>⟨D,⟨es,clock,(hk g (.inl I)).trans hb,h⟩,h2⟩⟩
theorem S4{w:World}{R:Value->Option (DataW Value×List MemPlace)}{b n:Nat}{D:DataW Value}(h:w.ownsMap P k R b n D):w.ownsMap P k R b (NB D) D:=by
 obtain⟨es,clock,hb,F,hs,rfl⟩:=h;exact⟨es,clock,hb,F,by simp[NB,length_sorted],rfl⟩
theorem Gp:KH K (.map []) (λ_=>ak) 0:=⟨rfl,λ_ _ _ _=>rfl⟩
theorem S5[DecidableEq κ]{w:World}{g n:Nat}{D:DataW Value}{m:κ->Option Value}(ho:w.ownsMap P k C' g n D)(h:KH K D m n){x:κ}{l:Lit}(hx:K.ok x)(hl:keyOf P k (K.kv x)=aj l)(v:Value):
 KH K (D.put l (.held v)) (λy=>if y=x then aj v else m y) (if(m x).isSome then n else n+1):=by
 have hk:=K.keyed.key hl;have ht:=ho.tidy K.keyed;refine⟨?_,λy l' hy hl'=>?_⟩
 ·have h2:=h.2 x l hx hl
  rw[Maps.size_put ht]
  cases e:m x with
  |none=>rw[e]at h2;rw[h2];simp[h.1]
  |some u=>rw[e]at h2;rw[h2.1];simp[h.1]
 ·by_cases e:y=x
  ·subst e
   rw[hl]at hl';simp only[dr]at hl';subst hl';simp only[if_true];exact⟨Maps.has_put_same ht.isMap hk _,λz=>Maps.atKey_put_same ht.isMap hk _ _⟩
  have hne:l'≠l:=λe'=>e (K.inj _ _ (K.keyed.inj (by simp_all) hl));simp only[if_neg e];have h2:=h.2 y l' hy hl';rw[Maps.has_put_other hne]
  cases e2:m y with
  |none=>rw[e2]at h2;exact h2
  |some u=>rw[e2]at h2;exact⟨h2.1,λz=>by rw[Maps.atKey_put_other hne];exact h2.2 z⟩
theorem Ig{D:DataW Value}{m:κ->Option Value}{n:Nat}(h:KH K D m n){x:κ}{l:Lit}(hx:K.ok x)(hl:keyOf P k (K.kv x)=aj l)(z:Value):D.atKey l (.held z)= .held ((m x).getD z)/\NC D l=(m x).isSome:=by
 have h2:=h.2 x l hx hl
 grind[Maps.atKey_of_not_has]
section
variable{W:bR}{fr:Fr}{L:List b_}{Q:Exit->Act->World->Prop}{ops:Array Oper}{rest:List Oper}{n d:Nat}{dst:Option Tmp}{ty:TypeId}{pos:String}{after:Array Edge}{guard:Option (Nat×Bool)}{i g c:Nat}{t e:TypeId}{m:κ->Option Value}{x:κ}{z:Value}{xm xk xv:Operand}
theorem aav(ht:P.underlying t=aj (.map k e))(hz:∀w,(zeroValue e).run P w= .ok z w)(hi:L[i]?=aj (eZ K g m c))(hm:ev fr xm=aj (.map (aj g)))(hk:ev fr xk=aj (K.kv x))(hx:K.ok x):RR P n W ⟨dst,.lookup t xm xk aE,ty,pos,after,guard⟩ fr L ((m x).getD z):= .mk λa w hr hw=>by
 obtain⟨D,ho,h⟩:=hw.get hi;obtain⟨l,hl⟩:=K.key x hx;obtain⟨v,ps,hrun,hv⟩:=ho.lookup K.keyed ht (hz w) (zd:= .held z) (zp:=[]) rfl hl;have h2:=(Ig K h hx hl z).1;simp only[C',dr,hJ]at hv;rw[h2]at hv;have kK:v=(m x).getD z:=by simp_all
 subst kK;simp[execOp,hr.ev hm,hr.ev hk,hrun,mN]
theorem oq(ht:P.underlying t=aj (.map k e))(hz:∀w,(zeroValue e).run P w= .ok z w)(hi:L[i]?=aj (eZ K g m c))(hm:ev fr xm=aj (.map (aj g)))(hk:ev fr xk=aj (K.kv x))(hx:K.ok x):RR P n W ⟨dst,.lookup t xm xk aD,ty,pos,after,guard⟩ fr L (.tuple #[(m x).getD z,.bool (m x).isSome]):= .mk λa w hr hw=>by
 obtain⟨D,ho,h⟩:=hw.get hi;obtain⟨l,hl⟩:=K.key x hx;obtain⟨v,ps,hrun,hv⟩:=ho.look_ok K.keyed ht (hz w) (zd:= .held z) (zp:=[]) rfl hl;have h2:=Ig K h hx hl z;simp only[C',dr,hJ]at hv;rw[h2.1]at hv;rw[h2.2]at hrun;have kK:v=(m x).getD z:=by simp_all
 subst kK;simp[execOp,hr.ev hm,hr.ev hk,hrun,mN]
theorem vU(ht:P.underlying t=aj (.map k e))(hi:L[i]?=aj (eZ K g m c))(hm:ev fr xm=aj (.map (aj g))):RR P n W ⟨dst,.call {callee:= .builtin .len,args:=#[xm],argTypes:=#[t]},ty,pos,after,guard⟩ fr L (av az c):= .mk λa w hr hw=>by
 obtain⟨D,ho,h⟩:=hw.get hi;have hrun:=ho.len ht ty;rw[h.1]at hrun;simp[lD,Ny,hr.ev hm,hrun]
theorem xl(hn:dj d n=aD)(h:∀g,TL P n W ops Q rest ((d,.map (aj g))::fr) (L++[eZ K g (λ_=>ak) 0])):
 TL P n W ops Q (⟨aj d,.makeMap t ak,ty,pos,after,ak⟩::rest) fr L:=kz I λa w hr hm KK hK=>by
 have e1:(execOp a.eval ⟨aj d,.makeMap t ak,ty,pos,after,ak⟩).run P w= .ok (.value (.map (aj w.heap.size))) (w.alloc (.map #[] 0)):=by
  rfl
 unfold fM;rw[e1];exact hK _ _ ((h w.heap.size).go _ _ (hr.put hn _) (hm.append (nv w _) (mS.one ⟨.map [],VG w P k C',Gp K⟩ λq hq=>by simp_all[eZ])))
theorem QU[DecidableEq κ]{w:World}(ht:P.underlying t=aj (.map k e))(h:(eZ K g m c).holds w)(hx:K.ok x)(hc:c<=1152921504606846976)(v:Value):
 ∃w',(zN t (.map (aj g)) (K.kv x) v).run P w= .ok () w'/\(eZ K g (λy=>if y=x then aj v else m y) (if(m x).isSome then c else c+1)).holds w'/\w.grownBy w' (aj g):=by
 obtain⟨D,ho,h⟩:=h;obtain⟨l,hl⟩:=K.key x hx;obtain⟨w',hrun,Kw,hg⟩:=ho.update K.keyed ht (by grind[maxLen]) (val:=v) (d:= .held v) (ps:=[]) hl rfl;have hp:=S5 K ho h hx hl v;exact⟨w',hrun,⟨_,by have:=S4 Kw;rwa [hp.1]at this,hp⟩,hg⟩
theorem lX[DecidableEq κ]{v:Value}(ht:P.underlying t=aj (.map k e))(hi:L[i]?=aj (eZ K g m c))(hm:ev fr xm=aj (.map (aj g)))(hk:ev fr xk=aj (K.kv x))(hv:ev fr xv=aj v)(hx:K.ok x)(hc:c<=1152921504606846976)
 (h:TL P n W ops Q rest fr (L.set i (eZ K g (λy=>if y=x then aj v else m y) (if(m x).isSome then c else c+1)))):
 TL P n W ops Q (⟨ak,.mapUpdate t xm xk xv,ty,pos,after,ak⟩::rest) fr L:=kz I λa w hr hw KK hK=>by
 obtain⟨w',hrun,Kw,hg⟩:=QU K ht (hw.get hi) hx hc v;have e1:(execOp a.eval ⟨ak,.mapUpdate t xm xk xv,ty,pos,after,ak⟩).run P w= .ok .skip w':=by
  simp[execOp,hr.ev hm,hr.ev hk,hr.ev hv,hrun,mN]
 unfold fM;rw[e1];exact hK _ _ (h.go _ _ (hr.tD undef) (hw.BI hi hg Kw λq hq=> .inl hq))
end
def pG(g:Nat)(z:Value)(f:κ->Value)(b:Nat):b_:=
 ⟨aj g,λ_=>False,λw=>∃m n,n<=b/\(eZ K g m n).holds w/\∀x,K.ok x->(m x).getD z=f x,λw ⟨m,n,_,h,_⟩ q hq=>(eZ K g m n).lt w h q hq,
  λw w' ⟨m,n,h1,h,h2⟩ hs hk=>⟨m,n,h1,(eZ K g m n).stay w w' h hs hk,h2⟩⟩
section
variable{W:bR}{fr:Fr}{L:List b_}{Q:Exit->Act->World->Prop}{ops:Array Oper}{rest:List Oper}{n d:Nat}{dst:Option Tmp}{ty:TypeId}{pos:String}{after:Array Edge}{guard:Option (Nat×Bool)}{i g b:Nat}{t e:TypeId}{f f':κ->Value}{x:κ}{z v:Value}{xm xk xv:Operand}
theorem Gq{w:World}(ht:P.underlying t=aj (.map k e))(hz:∀w,(zeroValue e).run P w= .ok z w)(h:(pG K g z f b).holds w)(hx:K.ok x):(Instr.lookup t (.map (aj g)) (K.kv x) aE).run P w= .ok (f x) w:=by
 obtain⟨m,n,_,⟨D,ho,hi⟩,hf⟩:=h;obtain⟨l,hl⟩:=K.key x hx;obtain⟨v,ps,hrun,hv⟩:=ho.lookup K.keyed ht (hz w) (zd:= .held z) (zp:=[]) rfl hl;have h2:=(Ig K hi hx hl z).1;simp only[C',dr,hJ]at hv;rw[h2,hf x hx]at hv;have kK:v=f x:=by simpa using hv.1
 rw[<-kK];exact hrun
theorem KI(ht:P.underlying t=aj (.map k e))(hz:∀w,(zeroValue e).run P w= .ok z w)(hh:∀w,Mem W L w->(pG K g z f b).holds w)(hm:ev fr xm=aj (.map (aj g)))(hk:ev fr xk=aj (K.kv x))(hx:K.ok x)(hv:f x=v):RR P n W ⟨dst,.lookup t xm xk aE,ty,pos,after,guard⟩ fr L v:= .mk λa w hr hw=>by
 subst hv;have hrun:=Gq K ht hz (hh w hw) hx;simp[execOp,hr.ev hm,hr.ev hk,hrun,mN]
theorem Da(ht:P.underlying t=aj (.map k e))(hz:∀w,(zeroValue e).run P w= .ok z w)(hi:L[i]?=aj (pG K g z f b))(hm:ev fr xm=aj (.map (aj g)))(hk:ev fr xk=aj (K.kv x))(hx:K.ok x)(hv:f x=v):RR P n W ⟨dst,.lookup t xm xk aE,ty,pos,after,guard⟩ fr L v:=
 KI K ht hz (λ_ hw=>hw.get hi) hm hk hx hv
theorem aaw(hn:dj d n=aD)(h:∀g,TL P n W ops Q rest ((d,.map (aj g))::fr) (L++[pG K g z (λ_=>z) 0])):
 TL P n W ops Q (⟨aj d,.makeMap t ak,ty,pos,after,ak⟩::rest) fr L:=kz I λa w hr hm KK hK=>by
 have e1:(execOp a.eval ⟨aj d,.makeMap t ak,ty,pos,after,ak⟩).run P w= .ok (.value (.map (aj w.heap.size))) (w.alloc (.map #[] 0)):=by
  rfl
 unfold fM;rw[e1];exact hK _ _ ((h w.heap.size).go _ _ (hr.put hn _) (hm.append (nv w _) (mS.one ⟨λ_=>ak,0,bm _,⟨.map [],VG w P k C',Gp K⟩,λ_ _=>rfl⟩ λq hq=>by simp_all[pG])))
theorem KJ[DecidableEq κ]{w:World}(ht:P.underlying t=aj (.map k e))(h:(pG K g z f b).holds w)(hx:K.ok x)(hc:b<=1152921504606846976)(hf:∀y,K.ok y->f' y=if y=x then v else f y):
 ∃w',(zN t (.map (aj g)) (K.kv x) v).run P w= .ok () w'/\(pG K g z f' (b+1)).holds w'/\w.grownBy w' (aj g):=by
 obtain⟨m,n,h1,h2,h3⟩:=h;obtain⟨w',hrun,ho,hg⟩:=QU K ht h2 hx J v;refine⟨w',hrun,⟨_,_,?_,ho,λy hy=>?_⟩,hg⟩
 grind
 grind
end
end
end bZ
namespace bZ
open Go.RowKit cU dM
theorem agP{P:Program}{n:Nat}{W:bR}{fr:Fr}{L:List b_}{dst:Option Tmp}{ty:TypeId}{pos:String}{after:Array Edge}{guard:Option (Nat×Bool)}{x:Operand}{a:Addr}(hx:ev fr x=aj (aJ (aj a))):RR P n W ⟨dst,.nilCheck x,ty,pos,after,guard⟩ fr L (aJ (aj a)):= .mk λact w hr _=>by
 simp[execOp,hr.ev hx]
end bZ
namespace bZ
open Go.RowKit cU dM
section
variable{P:Program}{n:Nat}{W:bR}{fr:Fr}{L:List b_}{Q:Exit->Act->World->Prop}{ops:Array Oper}{rest:List Oper}{d:Nat}{ty:TypeId}{pos:String}{after:Array Edge}
theorem N9{t e:TypeId}{x y:Operand}{bytes m:Nat}{k k':IntKind}{z:Value}[qN P t e 1 bytes][bT P e #[z]](hx:ev fr x=aj (.int k (m:Int)))(hy:ev fr y=aj (.int k' (m:Int)))(hb:bytes*m<=281474976710656)(qM:m<=9223372036854775807)(hn:dj d n=aD)
 (h:∀g,TL P n W ops Q rest ((d,ap (aj ⟨g,0,ak⟩) m m)::fr) (L++[a_ e 1 (ap (aj ⟨g,0,ak⟩) m m) m (cZ m z)])):TL P n W ops Q (⟨aj d,.makeSlice t x y,ty,pos,after,ak⟩::rest) fr L:=
 tP hx hy (bm _) hb qM hn λg=>Gm (i:=L.length) 1 (zR ..) (by rw[size_madeCells]) (bm _) qM (by
  have e1:(madeCells #[z] (m*1)).toList.take (m*1)=cZ m z:=by
   simp[acA]
  simp_all)
end
end bZ
namespace bZ
open Go.RowKit cU dM
section
variable{P:Program}{n:Nat}{W:bR}{fr:Fr}{L:List b_}{Q:Exit->Act->World->Prop}{ops:Array Oper}{rest:List Oper}
theorem Mem.agV{w:World}{i:Nat}{o:b_}(o':b_)(h:Mem W L w)(hi:L[i]?=aj o)(hh:∀w,o.holds w->o'.holds w)(hb:∀k,o'.BH=aj k->o.BH=aj k)(hmo:∀k,o'.more k->o.e9 k:=by intro k hk;exact False.elim hk):Mem W (L.set i o') w:=
 h.BI hi ⟨rfl,rfl,rfl,bm _,λ_ _ _=>rfl⟩ (hh w (h.get hi)) (λk hk=> .inl (hb k hk)) hmo
theorem aax{i:Nat}{o:b_}(o':b_)(hi:L[i]?=aj o)(hh:∀w,o.holds w->o'.holds w)(hb:∀k,o'.BH=aj k->o.BH=aj k)(hmo:∀k,o'.more k->o.e9 k)(h:TL P n W ops Q rest fr (L.set i o')):TL P n W ops Q rest fr L:= .mk λa w hr hm=>h.go a w hr (hm.agV o' hi hh hb hmo)
end
theorem S6{P:Program}{k:TypeId}{κ:Type}{K:yx P k κ}{g b b':Nat}{z:Value}{f f':κ->Value}(hb:b<=b')(hf:∀x,K.ok x->f' x=f x)(w:World)(h:(pG K g z f b).holds w):(pG K g z f' b').holds w:=by
 obtain⟨m,n,h1,h2,h3⟩:=h;exact⟨m,n,by omega,h2,λx hx=>by simp_all⟩
end bZ
namespace bZ
open Go.RowKit cU dM
section
variable{P:Program}{n:Nat}{W:bR}{fr:Fr}{L:List b_}{Q:Exit->Act->World->Prop}{ops:Array Oper}{rest:List Oper}
theorem Mem.QX{w:World}{i:Nat}{o:b_}(o':b_)(h:Mem W L w)(hi:L[i]?=aj o)(hh:∀w,o.holds w->o'.holds w)(hf:∀k,o'.e9 k->o.e9 k):Mem W (L.set i o') w:=by
 have hlen:i<L.length:=(dl.1 hi).1;have hoi:=h.owns.all i o hi;refine⟨h.low,λj q hj=>?_,λj j' q q' sM hj rB k hk mT=>?_⟩
 ·by_cases e:i=j
  simp_all
  rw[mb e]at hj;exact h.owns.all j q hj
 by_cases e:i=j
 ·subst e
  rw[qh hlen]at hj;rw[mb sM]at rB;simp only[dr]at hj;subst hj;exact h.owns.apart i j' o q' sM hi rB k (hf k hk) mT
 rw[mb e]at hj
 by_cases e':i=j'
 ·subst e'
  rw[qh hlen]at rB;simp only[dr]at rB;subst rB;exact h.owns.apart j i q o sM hj hi k hk (hf k mT)
 rw[mb e']at rB;exact h.owns.apart j j' q q' sM hj rB k hk mT
theorem QY{c:Code}{i:Nat}{o:b_}(o':b_)(hi:L[i]?=aj o)(hh:∀w,o.holds w->o'.holds w)(hf:∀k,o'.e9 k->o.e9 k)(h:T P n W c Q fr (L.set i o')):T P n W c Q fr L:= .mk λa w hr hm=>h.go a w hr (hm.QX o' hi hh hf)
theorem oc{e:Exit}{i:Nat}{o:b_}(o':b_)(hi:L[i]?=aj o)(hh:∀w,o.holds w->o'.holds w)(hf:∀k,o'.e9 k->o.e9 k)(h:E n W e Q fr (L.set i o')):E n W e Q fr L:= .mk λa w hr hm=>h.go a w hr (hm.QX o' hi hh hf)
end
end bZ
namespace bZ
open Go.RowKit cU dM dg fZ
inductive kh(F:Nat->Prop)(w:World):List Value->Rx->Prop
 |mk {k:Int} {c:C4} {kids:List Rx} {base:Option Addr} {cap:Nat} (fT:List (List Value)):cU.dX k->kids.length<=cap->cap<=maxLen->fT.length=kids.length->
  (∀i (h:i<kids.length) (h':i<fT.length),kh F w fT[i] kids[i])->(0<kids.length->∃b off,base=aj ⟨b,off,ak⟩/\F b/\∀i (_:i<kids.length) (h':i<fT.length),Rd w b (off+i*6) fT[i])->
  kh F w (av az k::(dR c++[ap base kids.length cap])) (.mk k c kids)
theorem kh.adC{F:Nat->Prop}{w:World}{cs:List Value}{t:Rx}(h:kh F w cs t):cs.length=6:=by
 cases h;rfl
theorem kh.Ih{F:Nat->Prop}{w w':World}{cs:List Value}{t:Rx}(h:kh F w cs t)(hk:∀k,F k->w'.heap[k]?=w.heap[k]?):kh F w' cs t:=by
 induction h with
 |mk fT h2 h3 h4 h5 h6 h7 ih=>
  refine .mk fT h2 h3 h4 h5 ih λhl=>?_;obtain⟨b,off,e,hF,hr⟩:=h7 hl;exact⟨b,off,e,hF,λi hi pB=>rd_stay (hr i hi pB) (hk b hF)⟩
theorem kh.mono{F F':Nat->Prop}{w:World}{cs:List Value}{t:Rx}(h:kh F w cs t)(hk:∀k,F k->F' k):kh F' w cs t:=by
 induction h with
 |mk fT h2 h3 h4 h5 h6 h7 ih=>
  refine .mk fT h2 h3 h4 h5 ih λhl=>?_;obtain⟨b,off,e,hF,hr⟩:=h7 hl;exact⟨b,off,e,hk b hF,hr⟩
def xo:vO Rx:=⟨6,kh,λh=>h.adC,λh hk=>h.Ih hk,λh hk=>h.mono hk⟩
def l8(k:Int)(c:C4)(v:Value):List Value:=av az k::(dR c++[v])
def qm(k:Int)(c:C4)(v:Value):Value:=aQ (l8 k c v).toArray
theorem yy{F:Nat->Prop}{w:World}{cs:List Value}{k:Int}{c:C4}{kids:List Rx}:kh F w cs (.mk k c kids)↔∃v,cs=l8 k c v/\cU.dX k/\jQ xo F w v kids:=by
 constructor
 ·intro h
  cases h with
  |mk fT h2 h3 h4 h5 h6 h7=>
   refine⟨_,rfl,h2,_,_,rfl,h3,h4,λhl=>?_⟩;obtain⟨b,off,e,hF,hr⟩:=h7 hl;exact⟨b,off,e,hF,λi hi=>⟨fT[i]' J,h6 i hi J,hr i hi J⟩⟩
 rintro⟨v,rfl,h2,base,cap,rfl,h3,h4,h5⟩
 by_cases hl:0<kids.length
 ·obtain⟨b,off,e,hF,hr⟩:=h5 hl
  have hlen:(VP λi:Fin kids.length=>HR (hr i i.2)).length=kids.length:=by simp
  refine .mk (VP λi:Fin kids.length=>HR (hr i i.2)) h2 h3 h4 hlen (λi hi pB=>?_) λ_=>⟨b,off,e,hF,λi hi pB=>?_⟩;rw[VN];exact(CI (hr i hi)).1;rw[VN];exact(CI (hr i hi)).2
 have:kids=[]:=rN J;subst this;exact .mk [] h2 h3 h4 I (λi hi=>absurd hi (by simp)) λh=>absurd h (by simp)
def nQ(F:Nat->Prop)(w:World)(v:Value)(r:Rx):Prop:=∃vk,v=qm r.kind r.tK vk/\cU.dX r.kind/\jQ xo F w vk r.kids
theorem nQ.stay{F:Nat->Prop}{w w':World}{v:Value}{r:Rx}(h:nQ F w v r)(hk:∀k,F k->w'.heap[k]?=w.heap[k]?):nQ F w' v r:=
 let ⟨vk,h1,h2,h3⟩:=h;⟨vk,h1,h2,h3.stay hk⟩
theorem nQ.mono{F F':Nat->Prop}{w:World}{v:Value}{r:Rx}(h:nQ F w v r)(hk:∀k,F k->F' k):nQ F' w v r:=
 let ⟨vk,h1,h2,h3⟩:=h;⟨vk,h1,h2,h3.mono hk⟩
def pD(w:World):Nat->Prop:=λk=>k<w.heap.size
theorem nQ.gr{w w':World}{v:Value}{r:Rx}(h:nQ (pD w) w v r)(hg:Gr w w'):nQ (pD w') w' v r:=
 (h.stay λk hk=>hg.block k hk).mono λ_ hk=>jv hk hg.size
theorem nQ.is{F:Nat->Prop}{w:World}{v:Value}{r:Rx}(h:nQ F w v r):∃cs,v=aQ cs.toArray/\kh F w cs r:=by
 obtain⟨k,c,kids⟩:=r;obtain⟨vk,rfl,h1,h2⟩:=h;exact⟨_,rfl,yy.2 ⟨vk,rfl,h1,h2⟩⟩
theorem kh.r{F:Nat->Prop}{w:World}{cs:List Value}{r:Rx}(h:kh F w cs r):nQ F w (aQ cs.toArray) r:=by
 obtain⟨k,c,kids⟩:=r;obtain⟨vk,rfl,h1,h2⟩:=yy.1 h;exact⟨vk,rfl,h1,h2⟩
theorem pT{F:Nat->Prop}{w:World}{b off:Nat}{l:List Rx}(h:∀i (h:i<l.length),∃cs,xo.is F w cs l[i]/\Rd w b (off+i*xo.c) cs){k:Nat}(hk:k<l.length):
 ∃base cap,Rd w b (off+k*6) (l8 l[k].kind l[k].tK (.slice base l[k].kids.length cap))/\nQ F w (qm l[k].kind l[k].tK (.slice base l[k].kids.length cap)) l[k]:=by
 obtain⟨cs,h1,hr⟩:=h k hk;have h1:kh F w cs l[k]:=h1;generalize l[k]=r at*;obtain⟨kd,c,kids⟩:=r;obtain⟨vk,rfl,a1,a2⟩:=yy.1 h1;have a2':=a2;obtain⟨base,cap,rfl,_⟩:=a2';exact⟨base,cap,hr,_,rfl,a1,a2⟩
def Db(r:Re)(k:Nat):List (Re×Nat):=match r with
 | .Ia a b=>[(a,k+1),(b,k+1+a.size)]
 | .Ib a b=>[(a,k+1),(b,k+1+a.size)]
 | .star a=>[(a,k+1)]
 |_=>[]
inductive A5(F:Nat->Prop)(w:World):List Value->Re×Nat->Prop
 |mk {r:Re} {k:Nat} {vk:Value} {base:Option Addr} {cap:Nat} (fT:List (List Value)):vk.oneCell'=aD->(Db r k).length<=cap->cap<=maxLen->fT.length=(Db r k).length->
  (∀i (h:i<(Db r k).length) (h':i<fT.length),A5 F w fT[i] (Db r k)[i])->(0<(Db r k).length->∃b off,base=aj ⟨b,off,ak⟩/\F b/\∀i (_:i<(Db r k).length) (h':i<fT.length),Rd w b (off+i*8) fT[i])->
  A5 F w (av az r.kind::(dR r.tK++[vk,av az (k:Int),ap base (Db r k).length cap])) (r,k)
theorem A5.Ih{F:Nat->Prop}{w w':World}{cs:List Value}{t:Re×Nat}(h:A5 F w cs t)(hk:∀k,F k->w'.heap[k]?=w.heap[k]?):A5 F w' cs t:=by
 induction h with
 |mk fT h2 h3 h4 h5 h6 h7 ih=>
  refine .mk fT h2 h3 h4 h5 ih λhl=>?_;obtain⟨b,off,e,hF,hr⟩:=h7 hl;exact⟨b,off,e,hF,λi hi pB=>rd_stay (hr i hi pB) (hk b hF)⟩
theorem A5.mono{F F':Nat->Prop}{w:World}{cs:List Value}{t:Re×Nat}(h:A5 F w cs t)(hk:∀k,F k->F' k):A5 F' w cs t:=by
 induction h with
 |mk fT h2 h3 h4 h5 h6 h7 ih=>
  refine .mk fT h2 h3 h4 h5 ih λhl=>?_;obtain⟨b,off,e,hF,hr⟩:=h7 hl;exact⟨b,off,e,hk b hF,hr⟩
section
variable{P:Program}{n:Nat}{W:bR}{fr:Fr}{L:List b_}{Q:Exit->Act->World->Prop}{ops:Array Oper}{rest:List Oper}
theorem Mem.aay{w:World}{i:Nat}{o:b_}(o':b_)(h:Mem W L w)(hi:L[i]?=aj o)(hh:o'.holds w)(hf:∀k,o'.e9 k->o.e9 k):Mem W (L.set i o') w:=by
  have hlen:i<L.length:=(dl.1 hi).1;have hoi:=h.owns.all i o hi;refine⟨h.low,λj q hj=>?_,λj j' q q' sM hj rB k hk mT=>?_⟩
  · by_cases e:i=j
    · subst e
      rw[qh hlen]at hj;simp only[dr]at hj;subst hj;exact⟨hh,λk hk=>hoi.2 k (hf k hk)⟩
    rw[mb e]at hj;exact h.owns.all j q hj
  by_cases e:i=j
  · subst e
    rw[qh hlen]at hj;rw[mb sM]at rB;simp only[dr]at hj;subst hj;exact h.owns.apart i j' o q' sM hi rB k (hf k hk) mT
  rw[mb e]at hj
  by_cases e':i=j'
  · subst e'
    rw[qh hlen]at rB;simp only[dr]at rB;subst rB;exact h.owns.apart j i q o sM hj hi k hk (hf k mT)
  rw[mb e']at rB;exact h.owns.apart j j' q q' sM hj rB k hk mT
end
end bZ
namespace kL
open Go.RowKit cU dM dg bZ
set_option maxRecDepth 100000 in
theorem adD(x y:C4)(w:World):(ox 10000 77 (aQ #[v64 x.a,v64 x.b,v64 x.c,v64 x.d]) (aQ #[v64 y.a,v64 y.b,v64 y.c,v64 y.d])).run aB w= .ok (decide (x=y)) w:=by
  have e:(ox 10000 77 (aQ #[v64 x.a,v64 x.b,v64 x.c,v64 x.d]) (aQ #[v64 y.a,v64 y.b,v64 y.c,v64 y.d])).run aB w= .ok ((fP x.a==fP y.a)&&((fP x.b==fP y.b)&&((fP x.c==fP y.c)&&(fP x.d==fP y.d)))) w:=by
    unfold v64;rw[run_equalIn_array (P:=aB) w 9999 (n:=4) (e:=75) _ _ I I];have h1:aB.cellsOf 75=1:=rfl;simp[Op.eqItems,go_sem,List.range_succ_eq_map,h1]
    by_cases e1:fP x.a=fP y.a<;>by_cases e2:fP x.b=fP y.b<;>by_cases e3:fP x.c=fP y.c<;>by_cases e4:fP x.d=fP y.d<;>simp[e1,e2,e3,e4]
  rw[e]
  congr 1
  by_cases h:x=y
  subst h;simp;rw[decide_eq_false h];simp only[adw,Bool.and_eq_false_iff]
  by_cases h1:x.a=y.a
  · by_cases h2:x.b=y.b
    · by_cases h3:x.c=y.c
      · by_cases h4:x.d=y.d
        exact absurd (C4.ext' h1 h2 h3 h4) h;simp[h4]
      simp[h3]
    simp[h2]
  simp[h1]
end kL
namespace bZ
open Go.RowKit cU dM
section
variable{P:Program}{n:Nat}{W:bR}{fr:Fr}{L:List b_}{Q:Exit->Act->World->Prop}{ops:Array Oper}{rest:List Oper}{d:Nat}{dst:Option Tmp}{ty:TypeId}{pos:String}{after:Array Edge}{guard:Option (Nat×Bool)}
theorem adE{t e:TypeId}{x z z':Operand}{agg:Bool}{c j len cap b off:Nat}{k k':IntKind}(ht:P.underlying t=aj (.slice e))(he:Ty P e agg c)(hx:ev fr x=aj (ap (aj ⟨b,off,ak⟩) len cap))(hz:ev fr z=aj (.int k (j:Int)))(hz':ev fr z'=aj (.int k' (j:Int)))(h2:j<=cap):
 RR P n W ⟨dst,.slice t x ak (aj z) (aj z'),ty,pos,after,guard⟩ fr L (ap (aj ⟨b,off,ak⟩) j j):= .mk λa w hr _=>by
 have hb:∀(k:IntKind) (p q:Nat) (cd:BoundsCode),p<=q->(HV (.int k (p:Int)) q cd).run P w= .ok p w:=λk p q cd h=>by
  have:(0:Int)<=(p:Int)/\(p:Int)<=(q:Int):=by omega
  simp[HV,asIntOf,this]
 have e1:((⟨b,off,ak⟩:Addr).add 0)=⟨b,off,ak⟩:=by rw[eB];rfl
 simp[execOp,hr.ev hx,hr.ev hz,hr.ev hz',rI,rJ,run_underlying ht,rH,he.size,hb k' j cap _ h2,hb k j j _ (bm _),e1]
theorem N_{t e:TypeId}{s x:Operand}{q g b off size bytes m:Nat}{olds:List Value}{cs:Array Value}{T:TypeId}[sW:qN P t e size bytes](hs:ev fr s=aj (ap (aj ⟨b,off,ak⟩) m m))(hold:∀j v,olds[j]?=aj v->At W L ⟨b,off+j,ak⟩ v)(U1:olds.length=m*size)(hq:L[q]?=aj (aP g cs T))(hx:ev fr x=aj (ap (aj ⟨g,0,ak⟩) 1 1))
 (hl:cs.size=size) (qM:m+1<=140737488355328) (hb:(m+1)*bytes<=140737488355328) (hn:dj d n=aD)
 (h:∀v',TL P n W ops Q rest ((d,v')::fr) (L++[a_ e size v' (m+1) (olds++cs.toList)])):
 TL P n W ops Q (⟨aj d,.call {callee:= .builtin .append,args:=#[s,x],argTypes:=#[t,t]},ty,pos,after,ak⟩::rest) fr L:=kz I λact w hr hm K hK=>by
 obtain⟨inf,z,ht,yp,hz,nw,Nk,N2,hsz⟩:=sW.el.ex;subst nw Nk;have hrun:=run_append_grow (P:=P) w t ty e inf z ht yp hz ⟨b,off,ak⟩ m m olds U1 (λj v hj=>by rw[eB];exact hold j v hj w hm) ⟨g,0,ak⟩ 1 1 cs.toList (by simpa using hl) (λj v hj=>by rw[eB,cV];exact aH hq (by simpa using hj) w hm) J J (growslice_fits J hb);have e':(execOp act.eval ⟨aj d,.call {callee:= .builtin .append,args:=#[s,x],argTypes:=#[t,t]},ty,pos,after,ak⟩).run P w= .ok (.value (ap (aj ⟨w.heap.size,0,ak⟩) (m+1) (grownCap w (m+1) m e))) (w.drew.alloc (.cells (olds.toArray++cs.toList.toArray++Builtin.zeroCells z.cells (grownCap w (m+1) m e-(m+1))) e)):=by
  simp only[lD,rG,NK,gd,qk,hr.ev hs,hr.ev hx,mO,hrun,qf,oy]
 unfold fM;rw[e'];have hge:=grownCap_ge w (m+1) m e;have Ks:grownCap w (m+1) m e<=maxLen:=grownCap_le_maxLen w (m+1) m e (by unfold maxLen;omega);have hlen:(olds++cs.toList).length=(m+1)*inf.size:=by rw[bK,U1,lC,hl,kU]
 refine hK _ _ ((h _).go _ _ (hr.put hn _) (hm.append ((Below.refl _ _).drew.alloc (bm _) _) (mS.one ?_ ?_)))
 ·refine(⟨hlen,.inr ⟨w.heap.size,_,_,rfl,bH _,heap_alloc_new w.drew _,hge,Ks,?_,?_⟩⟩:World.ownsRow _ 0 e inf.size _ (m+1) (olds++cs.toList))
  ·simp only[Array.size_append,dU,size_zeroCells,N2,U1,hl]
   have:grownCap w (m+1) m e=m+1+(grownCap w (m+1) m e-(m+1)):=by omega
   conv=>rhs;rw[this,jh,jh,tA]
  simp only[Array.toList_append];rw[<-hlen];exact List.take_left
 ·intro k hk
  have hk:rM (ap (aj ⟨w.heap.size,0,ak⟩) (m+1) (grownCap w (m+1) m e))=aj k:=hk;simp only[rM,dr]at hk;omega
def gA(G:Option Nat):Option Addr:=G.map λg=>⟨g,0,ak⟩
theorem KM{w:World}{e:TypeId}{size m:Nat}{v:Value}{xs:List Value}(h:(a_ e size v m xs).holds w):∃G cap,v=ap (gA G) m cap/\m<=cap/\cap<=maxLen/\(G=ak->cap=0):=by
 have h:w.ownsRow 0 e size v m xs:=h;rcases h.2 with⟨hv,h0⟩|⟨g,cap,jM,hv,_,_,h1,h2,_⟩
 exact⟨ak,0,by rw[hv,h0];rfl,by omega,by decide,λ_=>rfl⟩;exact⟨aj g,cap,hv,h1,h2,λh=>by cases h⟩
theorem adF{c:Code}{i size m:Nat}{e:TypeId}{v:Value}{xs:List Value}(hi:L[i]?=aj (a_ e size v m xs))(h:∀G cap,v=ap (gA G) m cap->m<=cap->cap<=9223372036854775807->(G=ak->cap=0)->T P n W c Q fr L):T P n W c Q fr L:= .mk λa w hr hm=>by
 obtain⟨G,cap,h1,h2,h3,h4⟩:=KM (hm.get hi);exact(h G cap h1 h2 h3 h4).go a w hr hm
theorem xp{c:Code}{i size m:Nat}{e:TypeId}{v:Value}{xs:List Value}(hi:L[i]?=aj (a_ e size v m xs))(h0:0<m)(h:∀g cap,v=ap (aj ⟨g,0,ak⟩) m cap->m<=cap->cap<=9223372036854775807->T P n W c Q fr L):T P n W c Q fr L:=by
 refine adF hi λG cap hv h1 h2 h3=>?_
 cases G with
 |none=>have:=h3 I;omega
 |some g=>exact h g cap hv h1 h2
end
end bZ
namespace bZ
open Go.RowKit cU dM dg fZ
theorem KN(k:Int)(w:World):Calls aB 127 #[av az k] w (cz (ret (av az (C5 k))) w):=by
 unfold C5;refine enter (args:=[av az k]) (n:=13) Tryz.func127 I I I ?_
 by_cases k1:k=1
 ·rw[if_pos k1]
  try refine GA ?_
  exact eE
 rw[if_neg k1]
 by_cases k2:k=2
 ·rw[if_pos k2]
  try refine GA ?_
  exact eE
 rw[if_neg k2]
 by_cases k3:k=3
 ·rw[if_pos k3]
  try refine GA ?_
  exact eE
 rw[if_neg k3]
 by_cases k6:k=6
 ·rw[if_pos k6]
  try refine GA ?_
  exact eE
 rw[if_neg k6]
 by_cases k4:k=4
 ·rw[if_pos k4]
  try refine GA ?_
  exact eE
 rw[if_neg k4]
 by_cases k5:k=5
 ·rw[if_pos k5]
  try refine GA ?_
  exact eE
 rw[if_neg k5]
 try refine GA ?_
 exact eE
theorem adG{r:Rx}{deep n:Nat}(h:(l7 r deep n).1=0):(l7 r deep n).2<=100:=by
 obtain⟨e,_,h1,h2⟩:=Ic _ r deep n (l7 r deep n).2 (bm _) (ql h rfl);have:=h1.sz;omega
theorem WB(w:World):(df 77 (#[]:Array (Nat×Value))).run aB w= .ok (oa C4.zero) w:=by kernel_rfl
theorem afi(x y:C4)(w:World):(ox 10000 77 (oa x) (oa y)).run aB w= .ok (decide (x=y)) w:=kL.adD x y w
theorem Q0{W0:World}{W:bR}{L:List b_}{b off:Nat}{cs:List Value}(ho:pC W0 W)(h:Rd W0 b off cs)(j:Nat)(v:Value)(hj:cs[j]?=aj v):At W L ⟨b,off+j,ak⟩ v:=iw ho (h j v hj)
theorem aaz{k:Int}{c:C4}{vk:Value}{j:Nat}{v:Value}(h:(dR c)[j]?=aj v):(l8 k c vk).toArray[0+1+j]?=aj v:=by
 have hj:j<(dR c).length:=(dl.1 h).1;rw[jf,show 0+1+j=j+1 by omega];show(dR c++[vk])[j]?=_
 rw[gJ hj];exact h
set_option maxRecDepth 100000 in
theorem A6(w0:World)(gn:Nat):∀(N:Nat) (r:Rx),sN r<=N->∀(v:Value) (deep n:Nat) (w:World) (B:bR),nQ (pD w0) w0 v r->n<=100->deep<=31->pC w0 B->Mem B [aP gn #[av az (n:Int)] 3] w->
 Calls aB 99 #[v,av az (deep:Int),aJ (aj ⟨gn,0,ak⟩)] w (dc ⟨λ(_:Unit)=>True,λ_=>av az (l7 r deep n).1,λ_=>[aP gn #[av az ((l7 r deep n).2:Int)] 3]⟩ B)
 |0,r,h,_,_,_,_,_,_,_,_,_,_=>by have:=Gh r;omega
 | N + 1,.mk k c kids,hN,v,deep,n,w,B,hv,hn,hd,ho,hm=>by
  have IH:=A6 w0 gn N;obtain⟨vk,rfl,agW,Q1⟩:=hv;dsimp only[Rx.kind,Rx.tK,Rx.kids]at agW Q1⊢;obtain⟨bk,ck,rfl,iS,No,S7⟩:=Q1;unfold maxLen at No;rw[l7];rw[sN]at hN;have hkc:=λw=>KN k w;have NR:=afi c C4.zero;have hcz:=WB;refine dA hm (args:=[qm k c (ap bk kids.length ck),av az (deep:Int),aJ (aj ⟨gn,0,ak⟩)]) (n:=55) Tryz.func99 I I I ?_;clear hm;refine b9 (bz (bQ I I I λg3=>?_));refine zL ?_
  repeat(first|refine GC ?_|refine gV (aC aK.ty I (aH (i:=0) I I)) ?_|refine gV (eM (r:=((n+1:Nat):Int)) I I J J J) ?_|refine GB ?_)
  refine bU (i:=0) I I I I I I ?_;rw[show(#[av az (n:Int)]:Array Value).setIfInBounds 0 (av az ((n+1:Nat):Int))=#[av az ((n+1:Nat):Int)]from I];refine zL ?_
  by_cases c1:100<n+1
  ·rw[if_pos c1]
   repeat(first|refine GA ?_|refine gV (aC aK.ty I (aH (i:=0) I I)) ?_)
   exact cJ I I λw hm=>hm.cB (S:=⟨λ(_:Unit)=>True,λ_=>av az 2,λ_=>[aP gn #[av az ((n+1:Nat):Int)] 3]⟩) () trivial [0] aiz I
  rw[if_neg c1]
  by_cases c2:30<deep
  ·rw[if_pos c2]
   repeat(first|refine GA ?_|refine gV (aC aK.ty I (aH (i:=0) I I)) ?_)
   exact cJ I I λw hm=>hm.cB (S:=⟨λ(_:Unit)=>True,λ_=>av az 7,λ_=>[aP gn #[av az ((n+1:Nat):Int)] 3]⟩) () trivial [0] aiz I
  rw[if_neg c2]
  repeat(first|refine GA ?_|refine gV (aC aK.ty I (aH (i:=0) I I)) ?_)
  by_cases c3:C5 k≠(kids.length:Int)
  ·rw[if_pos c3]
   (repeat refine b9 ?_)
   refine dK ([aP g3 (l8 k c (ap bk kids.length ck)).toArray 80]) (.calm 0 (.calm 1 (.calm 2 (.calm 3 (.calm 4 (.calm 5 (.calm 6 (.calm 7 (.done))))))))) (bV [1]) ?_
   repeat(first|refine GW ?_|(refine GN ?_;first|refine QW (aC aK.ty I (aH (i:=0) I I)) ?_))
   refine n_ I (iM aI.en I I) (λw hm=>hkc _) I I I ?_
   repeat(first|(refine GN ?_;first|refine QW QP ?_|refine QW (aC aK.ty I (aH (i:=0) I I)) ?_|refine QW (dm (b:=aD) I I (decide_eq_true c3)) ?_|refine GX ?_)|refine GW ?_)
   try refine GA ?_
   exact cJ I I λw hm=>hm.cB (S:=⟨λ(_:Unit)=>True,λ_=>av az 1,λ_=>[aP gn #[av az ((n+1:Nat):Int)] 3]⟩) () trivial [0] aiz I
  rw[if_neg c3];have Np:C5 k=(kids.length:Int):=by simpa using c3
  rw[Np]at hkc
  (repeat refine b9 ?_)
  refine dK ([aP g3 (l8 k c (ap bk kids.length ck)).toArray 80]) (.calm 0 (.calm 1 (.calm 2 (.calm 3 (.calm 4 (.calm 5 (.calm 6 (.calm 7 (.done))))))))) (bV [1]) ?_
  repeat(first|refine GW ?_|(refine GN ?_;first|refine QW (aC aK.ty I (aH (i:=0) I I)) ?_))
  refine n_ I (iM aI.en I I) (λw hm=>hkc _) I I I ?_
  repeat(first|(refine GN ?_;first|refine QW QP ?_|refine QW (aC aK.ty I (aH (i:=0) I I)) ?_|refine QW (dm (b:=aE) I I (decide_eq_false (λh=>h I))) ?_|refine GX ?_)|refine GW ?_)
  try refine GA ?_
  generalize hD:(decide (k=3) !=decide (c≠C4.zero))=D;have hD':(!(decide (k=3)==!decide (c=C4.zero)))=D:=by
   rw[<-hD,decide_not]
   cases decide (k=3)<;>cases decide (c=C4.zero)<;>rfl
  (repeat refine b9 ?_)
  refine dK ([aP g3 (l8 k c (ap bk kids.length ck)).toArray 80]) (.calm 0 (.calm 1 (.calm 2 (.calm 3 (.calm 4 (.calm 5 (.calm 6 (.calm 7 (.calm 8 (.done)))))))))) (bV [1]) ?_
  repeat(first|(refine GN ?_;first|refine QW QP ?_|refine QW (aC aK.ty I (aH (i:=0) I I)) ?_|refine QW (de (b:=decide (k=3)) I I I) ?_|refine QW (a8 (cs:=dR c) aK.ty I I (λj v hj=>aH (i:=0) I (aaz hj))) ?_|refine QW (bB I hcz) ?_|refine QW (C1 I I (by kernel_rfl) NR I) ?_|refine QW (SH (c:=D) bL.eq I I hD') ?_|refine GX ?_)|refine GW ?_)
  clear hD hD' NR hcz hkc
  cases D with
  | true=>
   rw[if_pos I]
   try refine GA ?_
   exact cJ I I λw hm=>hm.cB (S:=⟨λ(_:Unit)=>True,λ_=>av az 1,λ_=>[aP gn #[av az ((n+1:Nat):Int)] 3]⟩) () trivial [0] aiz I
  | false=>
   rw[if_neg aiz]
   repeat(first|refine GA ?_|refine gV (aC aK.ty I (aH (i:=1) I I)) ?_)
   refine tJ [0] ?_;refine dY (ι:=Nat×Nat) (λ(j,q)=>j<=kids.length/\q<=100/\BL kids (deep+1) (n+1)=BL (kids.drop j) (deep+1) q) (λ(j,_)=>[(1,av az (deep:Int)),(2,aJ (aj ⟨gn,0,ak⟩)),(40,ap bk kids.length ck),(41,av az (kids.length:Int)),(42,av az (j:Int))])
    (λ(_,q)=>[aP gn #[av az (q:Int)] 3]) (λ(j,_)=>kids.length-j) (0,n+1) ⟨bH _,by omega,rfl⟩ ?_
   rintro⟨j,q⟩ ⟨hj,hq,hk⟩;dsimp only at hj hq hk⊢;rw[hk]
   by_cases c4:j<kids.length
   ·obtain⟨b,off,rfl,_,hr⟩:=S7 J
    obtain⟨bj,cj,eL,hkr⟩:=pT hr c4;have VW:kids.drop j=kids[j]::kids.drop (j+1):=eI c4;rw[VW,BL]at hk⊢;have hsz:=C6 (cD c4);have hle:=λh=>adG (r:=kids[j]'c4) (deep:=deep+1) (n:=q) h;have dz:=λ(L:List b_) j v hj=>Q0 (L:=L) ho eL j v hj;generalize kids[j]=r at*;generalize r.kids.length=m at*
    repeat(first|refine GA ?_|refine gV (aX (j:=j) bL.eq aK.ty I I c4) ?_|refine gV (a8 aK.ty I I (dz _)) ?_)
    refine aY I λg8=>?_;refine zL ?_;refine gh 1 (cs':=(l8 r.kind r.tK (ap bj m cj)).toArray) ?_;refine zL ?_
    repeat(first|refine GC ?_|refine gV (aO (i:=1) aK.ty I I I) ?_|refine gV (eM (r:=((deep+1:Nat):Int)) I I J J J) ?_|refine GB ?_)
    refine bx [0] [1] aiz I I (sZ aI.en I I I I) (λw hm hb=>IH r J _ (deep+1) q w _ hkr hq J (ho.on hm (by intro o ho;simp at ho⊢;simp[ho])) hb) I I I ?_;intro _ _;dsimp only;refine zL ?_
    by_cases e1:(l7 r (deep+1) q).1=0
    ·rw[if_neg (by simpa using e1)]
     rw[if_neg (by simpa using e1)]at hk;have CT:=hle e1;rw[e1];generalize (l7 r (deep+1) q).2=q' at*
     try refine GA ?_
     refine dh [1] ?_;exact bW (j+1,q') ⟨by show j+1<=kids.length;omega,CT,rfl⟩ (by show kids.length-(j+1)<kids.length-j;omega)
    rw[if_pos e1];generalize l7 r (deep+1) q=z at*
    repeat(first|refine GC ?_|refine gV (dm (b:=aD) I I (decide_eq_true e1)) ?_|refine GB ?_)
    exact cJ I I λw hm=>hm.cB (S:=⟨λ(_:Unit)=>True,λ_=>av az z.1,λ_=>[aP gn #[av az (z.2:Int)] 3]⟩) () trivial [1] aiz I
   obtain rfl:j=kids.length:=by omega
   rw[List.drop_length,BL]at hk⊢
   try refine GA ?_
   exact cJ I I λw hm=>hm.cB (S:=⟨λ(_:Unit)=>True,λ_=>av az 0,λ_=>[aP gn #[av az (q:Int)] 3]⟩) () trivial [0] aiz I
def WC(r:Rx):Int:=(l7 r 1 0).1
theorem tR(v:Value)(r:Rx)(w:World)(hv:nQ (pD w) w v r):Calls aB 66 #[v] w (cz (ret (av az (WC r))) w):=by
 have hc:=λgn w' B ho hm=>A6 w gn _ r (bm _) v 1 0 w' B hv J J ho hm;obtain⟨vk,rfl,_,hs⟩:=hv;obtain⟨bk,ck,rfl,-⟩:=hs;generalize r.kids.length=m at*;refine enter (args:=[qm r.kind r.tK (ap bk m ck)]) (n:=6) Tryz.func66 I I I ?_;refine b9 (bz (bQ I I I λg1=>?_))
 try refine GA ?_
 refine aY I λg3=>?_;refine zL ?_;refine bU (i:=1) I I I I I I ?_;refine zL ?_
 repeat(first|refine GA ?_|refine gV (aO (i:=0) aK.ty I I I) ?_)
 refine bx [1] [0] aiz I I (sZ aI.en I I I I) (λw hm hb=>hc g3 w _ ((pC.self _).on hm (by intro o ho;simp at ho⊢;simp[ho])) hb) I I I ?_;intro _ _;dsimp only;unfold WC
 try refine GA ?_
 exact eE
end bZ
section
open Go.RowKit cU dM dg
attribute [local go_sem] afc agS acG afd
theorem S8{w:World}{g:Nat}{x:C4}(h:Wr w g 0 (dR x)):w.cell? ⟨g,0,ak⟩=aj (v64 x.a)/\w.cell? ⟨g,1,ak⟩=aj (v64 x.b)/\w.cell? ⟨g,2,ak⟩=aj (v64 x.c)/\w.cell? ⟨g,3,ak⟩=aj (v64 x.d):=
 ⟨(h 0 _ I).1,(h 1 _ I).1,(h 2 _ I).1,(h 3 _ I).1⟩
theorem S9{w:World}{g:Nat}{x:C4}{T:TypeId}(h:w.heap[g]?=aj (.cells #[.int .u64 (fP x.a),.int .u64 (fP x.b),.int .u64 (fP x.c),.int .u64 (fP x.d)] T (0,0))):Wr w g 0 (dR x):=λj u hj=>by
 rw[cV,cell_of_row w g j _ T (0,0) h];exact⟨by simpa[dR]using hj,frozen_of_row w g j _ T h⟩
theorem Q2{w:World}{B:Nat}(hB:w.heap.size=B)(x:C4)(T:TypeId):Wr (w.alloc (.cells #[.int .u64 (fP x.a),.int .u64 (fP x.b),.int .u64 (fP x.c),.int .u64 (fP x.d)] T)) B 0 (dR x):=
 S9 (aaf w _ B hB)
theorem nv(w:World)(o:Obj):Below w.heap.size w (w.alloc o):=(Below.refl _ _).alloc (bm _) _
theorem Ab{w:World}{g:Nat}{x:C4}(h:Wr w g 0 (dR x))(i:Nat)(hi:i<4):w.cell? ⟨g,i,ak⟩=aj (.int .u64 (fP (x.get i)))/\w.frozen? ⟨g,i,ak⟩=false:=by
 have:=h i _ (Wg x i hi);rw[cV]at this;exact this
theorem S_{w:World}{g:Nat}{x:C4}(h:Wr w g 0 (dR x))(i:Nat)(hi:i<4)(v:BitVec 64):Wr (w.setCell ⟨g,i,ak⟩ (.int .u64 (fP v))) g 0 (dR (x.set i v)):=by
 have:=h.set i (by simp[dR];omega) (v64 v);rw[cV,Wh x i hi v]at this;exact this
theorem KO(lo hi:Int)(w:World)(h1:dX lo)(h2:dX hi):
    Calls aB 49 #[av az lo,av az hi] w λe w'=>e= .returned (oa (e_ lo hi))/\Below w.heap.size w w':=by
  obtain⟨l1,l2⟩:=h1;obtain⟨m1,m2⟩:=h2;unfold oa;have xr:Below w.heap.size w ((w.alloc (.cells #[.int .u64 0,.int .u64 0,.int .u64 0,.int .u64 0] 77)).alloc (.cells #[.int .u64 0,.int .u64 0,.int .u64 0,.int .u64 0] 77))/\Wr ((w.alloc (.cells #[.int .u64 0,.int .u64 0,.int .u64 0,.int .u64 0] 77)).alloc (.cells #[.int .u64 0,.int .u64 0,.int .u64 0,.int .u64 0] 77)) w.heap.size 0 (dR C4.zero)/\Wr ((w.alloc (.cells #[.int .u64 0,.int .u64 0,.int .u64 0,.int .u64 0] 77)).alloc (.cells #[.int .u64 0,.int .u64 0,.int .u64 0,.int .u64 0] 77)) (w.heap.size+1) 0 (dR C4.zero):=
    ⟨(((Below.refl _ _).alloc (bm _) _).alloc (by simp) _),((Q2 I C4.zero _).gr (nv _ _)),(Q2 (by simp) C4.zero _)⟩
  obtain⟨B,hB⟩:∃B,B=w.heap.size:=⟨_,rfl⟩;rw[<-hB]at xr
  go_enter Tryz.func49,Tryz.ntmps49
  go_upto_region 2 with(fail)
  rw[<-hB];have agX:w.heap.size<=B:=by omega
  have ah0:B<=w.heap.size:=by omega
  clear hB
  go_cut [6] (λs6 w'=>w'=((w.alloc (.cells #[.int .u64 0,.int .u64 0,.int .u64 0,.int .u64 0] 77)).alloc (.cells #[.int .u64 0,.int .u64 0,.int .u64 0,.int .u64 0] 77))/\s6=av az (max lo 0))
  case first=>
    go_wp2
    all_goals
      go_meet
      case rel=>exact⟨rfl,by congr 1<;>omega⟩
  case rest=>
    obtain⟨rfl,rfl⟩:=hcut;obtain⟨b0,B7⟩:∃b0:Nat,(b0:Int)=max lo 0:=⟨(max lo 0).toNat,by omega⟩;have hF:e_ lo hi=C4.jO C4.zero b0 (min hi 255+1-b0).toNat:=by unfold e_;rw[<-B7];rfl
    have HF:=CL hF;rw[<-B7];clear hF B7;obtain⟨A7,Ka,hs3⟩:=xr;obtain⟨N,hN⟩:∃N,N=(min hi 255+1-b0).toNat:=⟨_,rfl⟩;have HN:=CL hN;have hN1:0<N->(b0:Int)+N=min hi 255+1:=λh=>by omega
    have hN0:N=0->min hi 255<(b0:Int):=λh=>by omega
    have WD:N=0\/b0+N<=256:=by omega
    clear hN;rcases(show 255<hi\/hi<=255 by omega)with hh|hh
    all_goals
      go_wp2_with fail
      go_loopg [6] N (λg c wr=>∃i:Nat,i+g=N/\c=av az ((b0+i:Nat):Int)/\Below B w wr/\Wr wr B 0 (dR C4.zero)/\Wr wr (B+1) 0 (dR (C4.jO C4.zero b0 i)))
      case atStart=>exact⟨0,by omega,rfl,A7,Ka,hs3⟩
      case round=>
        obtain⟨i,pB,rfl,hb,hr,hx⟩:=hrel;clear A7 Ka hs3
        by_cases hlt:i<N
        · have hbb:((b0+i:Nat):Int)<=hi:=by have:=hN1 J;omega
          have afj:b0+i<=255:=by omega
          have hstep:=Wi C4.zero b0 i;generalize hbn:b0+i=b at hbb afj hstep⊢;have h4:b/64<4:=by omega
          have cx:∀w',Up wr.drew w'->w'.cell? ⟨B+1,b/64,ak⟩=aj (.int .u64 (fP ((C4.jO C4.zero b0 i).get (b/64)))):=λw' hw=>(Ab ((hx.gr (Gr.drew _)).gr hw) (b/64) h4).1;have hand:=SP b J;have WE:=aar (b %64) (w6 _ aiz);have HS0:=CL hstep;have HI:=CL pB;clear hN1 hN0 WD hstep pB
          go_wp2_with fail
          refine dM 9 (cZ 9 aD) I (by kernel_rfl) (by kernel_rfl) (by intro c a d v w h;cases d<;>exact h) (Up wr.drew) (SD _) (Gr.refl _) ?_;simp only[wX,nM,List.drop_succ_cons,List.drop_zero,cZ]
          repeat(first|(refine aai (by rfl) (λw hSw=>by go_simp;(try (simp only[↓IntWalk.iteOmega];try go_simp));(try go_bits);first|done|with_reducible rfl) ?_;simp only[qd,tw,wY,zU])|(refine VV (by rfl) ?_;simp only[qd,tw,wY,zU]))
          refine aaj λw5 hw5=>?_;have hx5:=(hx.gr (Gr.drew _)).gr hw5;have hr5:=(hr.gr (Gr.drew _)).gr hw5;have hb5:Below B w w5:=VT hb.drew (by have:=hb.size;simp;omega) hw5;obtain⟨c1,c2⟩:=Ab hx5 (b/64) h4;have hs:=S_ hx5 (b/64) h4 ((C4.jO C4.zero b0 i).get (b/64)|||ik 64 (2^(b %64)));have hf1:=hr5.far (a:=⟨B+1,b/64,ak⟩) (by simp) (.int .u64 (fP ((C4.jO C4.zero b0 i).get (b/64)|||ik 64 (2^(b %64)))));have hbs:=hb5.setCell (p:=⟨B+1,b/64,ak⟩) (by simp) (.int .u64 (fP ((C4.jO C4.zero b0 i).get (b/64)|||ik 64 (2^(b %64)))));rw[HS0.out]at hs;have HS:=CL (cC hs (cC hf1 hbs));clear hs hf1 hbs hx5 hr5 hb5 cx hx hr hb hw5 hand WE
          go_wp2_with fail
          have pB:=HI.out
          go_roundg (gk-1)
          case measure=>omega
          case rel=>exact⟨i+1,by omega,by go_num,HS.out.2.2,HS.out.2.1,HS.out.1⟩
        obtain rfl:i=N:=by omega
        have ah1:min hi 255<((b0+i:Nat):Int):=by
          by_cases h0:i=0
          have:=hN0 h0;omega;have:=hN1 J;omega
        have hE:C4.jO C4.zero b0 i=e_ lo hi:=by rw[HF.out,<-HN.out]
        rw[hE]at hx;obtain⟨c0,c1,c2,c3⟩:=S8 hx;obtain⟨⟨r0,f0⟩,⟨r1,f1⟩,⟨r2,f2⟩,⟨r3,f3⟩⟩:_/\_/\_/\_:=⟨Ab hr 0 aiz,Ab hr 1 aiz,Ab hr 2 aiz,Ab hr 3 aiz⟩;clear hN1 hN0 WD hE;generalize b0+i=b at*;have ahQ:¬(b:Int)<=min hi 255:=by omega
        go_wp2_with fail
        refine bodyPost_ret (v:=aQ #[.int .u64 (fP (e_ lo hi).a),.int .u64 (fP (e_ lo hi).b),.int .u64 (fP (e_ lo hi).c),.int .u64 (fP (e_ lo hi).d)]) (by simp[results,Tryz.results49,go_sem,r0,r1,r2,r3]) I ⟨rfl,?_⟩;exact((((hb.setCell (by simp) _).setCell (by simp) _).setCell (by simp) _).setCell (by simp) _).mono agX
end
namespace kL
open Go.RowKit cU dM dg bZ
theorem adH(lo hi:Int)(h1:dX lo)(h2:dX hi)(w:World):Calls aB 49 #[av az lo,av az hi] w (cz (ret (oa (e_ lo hi))) w):=(KO lo hi w h1 h2).mono λ_ _ ⟨he,hb⟩=>SF he hb
end kL
namespace bZ
open Go.RowKit cU dM
theorem mapM_some{α β:Type}{f:α->Option β}:∀{l:List α},(∀x∈l,∃y,f x=aj y)->∃ys,l.mapM f=aj ys
 |[],_=>⟨[],by simp⟩
 |a::l,h=>by
  obtain⟨y,hy⟩:=h a (by simp);obtain⟨ys,hys⟩:=mapM_some (l:=l) λx hx=>h x (by simp[hx]);exact⟨y::ys,by simp[VO,hy,hys]⟩
section
variable{P:Program}
def KL(P:Program)(d:Nat)(t:TypeId)(cs:List Value):Prop:=∃ls,P.keyLits d t cs=aj ls
theorem tS{d:Nat}{t:TypeId}{q:IntKind}{n:Int}(ht:P.underlying t=aj (.int q))(h0:q.min<=n)(h1:n<=q.max):KL P (d+1) t [.int q n]:=by
 refine⟨[.int q n],?_⟩;have hw:(Lit.int q n).wf=true:=by simp[Lit.wf,h0,h1]
 simp[zP,ht,hw]
theorem WG{d n:Nat}{t e:TypeId}{cs:List Value}(ht:P.underlying t=aj (.array n e))(hl:cs.length=P.cellsOf t)(h:∀i,i<n->KL P d e ((cs.drop (i*P.cellsOf e)).take (P.cellsOf e))):KL P (d+1) t cs:=by
 obtain⟨ys,hy⟩:=mapM_some (f:=λi=>P.keyLits d e ((cs.drop (i*P.cellsOf e)).take (P.cellsOf e))) (l:=dV n) λi hi=>h i (mQ.1 hi);refine⟨ys.flatten,?_⟩;unfold zP;simp only[ht];rw[if_pos hl,hy];rfl
theorem Ac{d:Nat}{t:TypeId}{fs:Array Field}{cs:List Value}(ht:P.underlying t=aj (.struct fs))(hl:cs.length=P.cellsOf t)(hn:fs.all (·.name != "_")=aD)(h:∀f∈fs.toList,KL P d f.type ((cs.drop f.offset).take (P.cellsOf f.type))):KL P (d+1) t cs:=by
 obtain⟨ys,hy⟩:=mapM_some (f:=λf:Field=>P.keyLits d f.type ((cs.drop f.offset).take (P.cellsOf f.type))) (l:=fs.toList) h;refine⟨ys.flatten,?_⟩;unfold zP;simp only[ht];rw[if_pos ⟨hl,hn⟩,hy];rfl
theorem Ii{t:TypeId}{cs:List Value}{m:Nat}(hw:(match P.underlying t with|some (.array _ _)|some (.struct _)=>aD|_=>aE)=aD)(hk:P.keyType t=aD)(hl:cs.length=P.cellsOf t)(hm:∃d,P.types.size+1=d+m)(h:∀d,KL P (d+m) t cs):∃l,keyOf P t (aQ cs.toArray)=aj l:=by
 obtain⟨d,e⟩:=hm;obtain⟨ls,hls⟩:=h d;refine⟨.string (keyBytes ls),?_⟩;have hf:(aQ cs.toArray).formed P t=true:=by
  unfold Value.formed;split at hw<;>simp_all
 have hc:(aQ cs.toArray).cells.toList=cs:=rfl;have key:(if(P.keyType t&&(aQ cs.toArray).formed P t)=aD then(P.keyLits (P.types.size+1) t (aQ cs.toArray).cells.toList).map (λls=>Lit.string (keyBytes ls))else ak)=aj (.string (keyBytes ls)):=by
  rw[hk,hf,hc,e,hls];rfl
 unfold keyOf;split at hw
 ·rename_i h1;rw[h1];exact key
 ·rename_i h1;rw[h1];exact key
 cases hw
end
theorem B9:laidOutB aB=true:=by kernel_rfl
theorem B_(m:Nat)(h:w4 m (aB.types.size+1)=aD):∃d,aB.types.size+1=d+m:=⟨aB.types.size+1-m,by have:=me h;omega⟩
end bZ
end Go.Proofs.YtaobbfedlnddcaaGreat

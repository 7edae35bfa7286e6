/- Part 1 of what SessionOnce needs: Kit, Law, Open, Mix, Eng, Step, Ops, Opm, Cls, Opx, MixV, MixW, Go3, Ty, OpenE, ClassL, ClassQ, ClassR, RexL, RexF, RexG, Read, Seq, ReadM, Room, Shp, Map, RexS, ClsEq, App, RexC. -/
import Derived.WalkKit
import Derived.WalkSpells
import Derived.WalkLawsBesides
import Derived.Deep.RegionLaw
import Derived.Deep.AppendLies
import Derived.Deep.QuietTactic
import Derived.BigQuiet
import Derived.Deep.DeepCutAuto
import Derived.Lib.Hide
import Derived.Test.YtaobbfedlnddcaaGreatRows
import Derived.ProofKit
import Derived.OpenShut
import Derived.ShutString
import Derived.SizedLaws
import Derived.JoinedCond
import Derived.Deep.CondSized
import Derived.Deep.Quiet
import Derived.StillTail
import Derived.Deep.LoopGhost
import Derived.Laws.BitsLemmas
import Derived.Laws.BytesString
import Derived.Laws.StructEq
import Derived.Test.YtaobbfedlnddcaaGreatProg
import Derived.Laws.Entries
import Derived.Laws.BitsAllLaws
import Derived.Lib.TrailingZeros
import Derived.Laws.MakeOwn
import Derived.Laws.AppendOwn
import Derived.Maps.OwnSet
import Derived.DeepKeys4
import Derived.WideKeyEntry
import Derived.ChangeKeysEq
namespace Go.Proofs.YtaobbfedlnddcaaGreat
set_option linter.unusedVariables false
set_option linter.unusedSimpArgs false
open _root_.Array renaming getElem?_eq_some_iff->jm,length_toList->lG,getD_eq_getD_getElem?->xe,toArray_toList->xf,toList_setIfInBounds->Ih,toList_map->CX,replicate->xg,range->CY,getElem?_append_left->VF,ext'->r7,setIfInBounds_comm->VG
open _root_.BitVec renaming ofNat->io,ofInt->xh,toNat_ofNat->CZ,eq_of_toNat_eq->VH
open _root_.Bool renaming false->aE,true->aD,and_eq_true->fc,beq_eq_decide_eq->Ii,not_eq_true'->C0
open _root_.ByteArray renaming mk->r8,size->xi,get!->adx,toList->ady,ext->adz,data_extract->adA
open _root_.ByteArray.toList renaming loop->NU
open _root_.Classical renaming choose_spec->C1,choose->Ij,byContradiction->NV
open _root_.False renaming elim->nV
open _root_.Go.Act renaming put_comm->zW,put->qE,eval->Ik
open _root_.Go.Addr renaming add->tK
open _root_.Go.Addr.mk renaming injEq->NW
open _root_.Go.BigFrame renaming execOp_builtin->lH,builtin_append->r9,builtin_len->NX,wpList_want->VI,builtin_min->VJ
open _root_.Go.Builtin renaming append_->tL,lenOf->zX,firstCells->C2,min_->VK,min2->VL,len_->VM
open _root_.Go.ByteArray renaming mk_append_mk->adB
open _root_.Go.Calls renaming mono->VN
open _root_.Go.ChangeSpec renaming plain->adC
open _root_.Go.Code renaming region->VO
open _root_.Go.Conv renaming bytesToString->VP
open _root_.Go.DataW renaming weightsEach->tM,weights->xj,weightsAll->C3,trod->qG,TrodAll->Il,Trod->NY,trod_string->VQ,trod_struct->VR,trod_slice->VS
open _root_.Go.Deferred renaming ofValue->zY
open _root_.Go.Exit renaming inBlock->tN
open _root_.Go.Instr renaming build->dh,sliceBounds->r_,fill->jB,buildSlice->tO,sliceAt->sa,sureAddr->xl,slice->sb,sliceBound->Im,mapUpdate->zZ,storeAt->NZ,fieldAt->VT,indexAt->VU,loadAt->VV,index->VW
open _root_.Go.IntKind renaming i64->az,bits->lI,signed->tP,wrap_u64->sc,u64->tQ,min->Io,max->Ip
open _root_.Go.Maps renaming size->N1,has->N2
open _root_.Go.Maps.Keyed renaming of_law->adD
open _root_.Go.Next renaming value->VX
open _root_.Go.Op renaming shift->iq,equalIn->lJ,intCmp->z8,intArith->N3,equal->Iq,stringOp->VY
open _root_.Go.Oper renaming wp->fR,upon_enter->N4,upon->N5,upon_value->VZ
open _root_.Go.Proofs.Tryz renaming prog->aB
open _root_.Go.Region renaming ready->iK,wanted->kE,Mode->tR,noSelect->xo,binds->z_,chainB->N6,sinkB->N7,noSelect_spec->V0,seqB->N8,free_spec->V1,free->V3
open _root_.Go.Result renaming andThen_ok->nW,andThen->lK,ok->N9
open _root_.Go.Rows renaming mono->V4
open _root_.Go.Sem renaming run_bind->lL,run_pure->na
open _root_.Go.Value renaming slice->ap,int->av,pointer->aJ,agg->aQ,oneCell'->eZ,bool->fS,ownBlock->sd,okWide->C5
open _root_.Go.Value.slice renaming injEq->iX
open _root_.Go.WideElems renaming Trod_stays->adE
open _root_.Go.World renaming block_lt_of_cell?->nX,cell?_setCell_other->V5,frozen?_setCell->V6,cell?_of_block->V7,ownsMap_made->V8
open _root_.Int renaming toNat_natCast->dq
open _root_.List renaming getElem?_eq_getElem->bD,length_append->bI,getElem?_eq_some_iff->cX,getElem_mem->cD,length_cons->de,replicate->da,drop_eq_getElem_cons->eN,getElem?_append_left->eR,size_toArray->dZ,mem_cons->dA,append_nil->dW,append_assoc->eD,getElem?_map->eS,nil_append->eu,flatMap_append->fC,take_of_length_le->gB,getElem?_append_right->kF,getElem?_toArray->jn,mem_cons_self->gd,mem_append->fu,not_mem_nil->fv,drop_of_length_le->jo,getElem?_set_ne->mq,mem_iff_getElem->hY,getElem?_set_self->oO,map_cons->gh,getElem?_eq_none->kG,eq_nil_of_length_eq_zero->se,cons_append->iY,length_take->iZ,flatMap_cons->lO,mem_of_getElem?->lP,set_eq_take_append_cons_drop->C6,getElem?_cons_zero->sf,filterMap->tS,drop_drop->qH,ext_getElem?->nb,take_zero->nY,getElem?_concat_length->Aa,take_append_drop->xp,all_eq_true->nc,getElem?_of_mem->xr,findIdx?_eq_some_iff_getElem->N_,filterMap_cons_some->Ab,flatten_cons->xt,filterMap_append->Ac,zipIdx_cons->Ir,getElem_append_left->C7,map_nil->qI,getElem?_cons_succ->C8,map_toArray->Oa,take_left'->Ob,drop_left'->Oc,drop_take->Od,findIdx?_eq_none_iff->V9,getElem_append_right->V_,getElem_cons_succ->V',getElem?_append->Wa,set_append_left->Wb,getElem_ofFn->Wc,take_set->We,ofFn->Wf
open _root_.List.cons renaming injEq->gi
open _root_.Nat renaming le_refl->bx,zero_le->bH,zero_add->cV,eq_of_beq_eq_true->kf,lt_of_lt_of_le->jp,blt->dv,le_trans->fw,le_of_ble_eq_true->nf,add_mul->jq,mul_le_mul_right->oP,beq->fx,add_assoc->kZ,add_zero->jC,succ_mul->k7,mul_one->kH,min_eq_left->Ad,ne_of_beq_eq_false->Is,one_mul->tU,div_lt_iff_lt_mul->Oe,zero_mul->It,mod_eq_of_lt->Og,ble->Ae,add_comm->Oh,mod_lt->Af,eq_zero_or_pos->Wg,div_add_mod->Wh,mul_comm->Wi,lt_or_ge->Wj
open _root_.Ne renaming symm->xu
open _root_.Option renaming some->aj,none->ak
open _root_.Option.some renaming injEq->df,inj->oQ
open _root_.Prod renaming ext->qJ
open _root_.Prod.mk renaming injEq->fD
open _root_.UInt8 renaming ofNat->fE
set_option maxHeartbeats 16000000
theorem I{α:Sort _}{a:α}:a=a:=rfl
theorem J{p:Prop}(h:p:=by omega):p:=h
theorem aiT{p:Prop}(h:p:=by decide):p:=h
namespace cU
open Go.RowKit
section
end
theorem Wk{B:Nat}{w0 w w':World}(h:Below B w0 w)(hB:B<=w.heap.size)(hg:Below w.heap.size w w'):Below B w0 w':=h.trans (hg.mono hB)
def Wl(b:UInt8):Value:= .int .u8 b.toNat
def Rd(w:World)(g off:Nat)(xs:List Value):Prop:=∀j u,xs[j]?=aj u->w.cell? ⟨g,off+j,ak⟩=aj u
def Wr(w:World)(g off:Nat)(xs:List Value):Prop:=∀j u,xs[j]?=aj u->w.cell? ⟨g,off+j,ak⟩=aj u/\w.frozen? ⟨g,off+j,ak⟩=aE
theorem Wr.rd{w:World}{g off:Nat}{xs:List Value}(h:Wr w g off xs):Rd w g off xs:=λj u hj=>(h j u hj).1
theorem Rd.gr{w w':World}{g off:Nat}{xs:List Value}(h:Rd w g off xs)(hg:Below w.heap.size w w'):Rd w' g off xs:=λj u hj=>by
 have h1:=h j u hj;rw[hg.cell (nX w _ h1)];exact h1
theorem Wr.gr{w w':World}{g off:Nat}{xs:List Value}(h:Wr w g off xs)(hg:Below w.heap.size w w'):Wr w' g off xs:=λj u hj=>by
 have h1:=h j u hj;rw[hg.cell (nX w _ h1.1),hg.frozen (nX w _ h1.1)];exact h1
theorem Rd.at{w:World}{g off:Nat}{xs:List Value}(h:Rd w g off xs)(j:Nat)(hj:j<xs.length):w.cell? ⟨g,off+j,ak⟩=aj xs[j]:=h j _ (bD hj)
theorem Wr.at{w:World}{g off:Nat}{xs:List Value}(h:Wr w g off xs)(j:Nat)(hj:j<xs.length):w.cell? ⟨g,off+j,ak⟩=aj xs[j]/\w.frozen? ⟨g,off+j,ak⟩=false:=h j _ (bD hj)
theorem Wr.set{w:World}{g off:Nat}{xs:List Value}(h:Wr w g off xs)(j:Nat)(hj:j<xs.length)(u:Value):Wr (w.setCell ⟨g,off+j,ak⟩ u) g off (xs.set j u):=λi v hi=>by
 have hlen:i<xs.length:=by simpa using(cX.1 hi).1
 refine⟨?_,by rw[V6];exact(h.at i hlen).2⟩
 by_cases e:i=j
 ·subst e
  rw[oO hj]at hi;rw[World.cell?_setCell_same _ _ _ (h.at i hj).1];exact hi
 rw[mq (xu e)]at hi;have hne:(⟨g,off+j,ak⟩:Addr)≠⟨g,off+i,ak⟩:=λhe=>e (by have:=congrArg Addr.off he;simp at this;omega);rw[V5 _ _ _ _ hne];exact(h i v hi).1
theorem Wr.grown{w w':World}{g off:Nat}{xs:List Value}{row:Option Nat}(h:Wr w g off xs)(hg:w.grownBy w' row)(hne:row≠aj g):Wr w' g off xs:=λj u hj=>by
 have h1:=h j u hj;have hb:=nX w _ h1.1;have e:=hg.block g hb (λh=>hne h.symm);rw[V7 (w:=w) (a:=⟨g,off+j,ak⟩) e,World.frozen?_of_block (w:=w) (a:=⟨g,off+j,ak⟩) e];exact h1
theorem Wr.far{w:World}{g off:Nat}{xs:List Value}(h:Wr w g off xs){a:Addr}(ha:a.block≠g)(u:Value):Wr (w.setCell a u) g off xs:=λj v hj=>by
 have h1:=h j v hj;rw[V6,V5 _ _ _ _ (λe=>ha (by rw[e]))];exact h1
theorem acY(z:Value)(n:Nat):(madeCells #[z] n).toList=da n z:=by
 apply nb;intro i
 by_cases h:i<n
 simp[madeCells,h,Nat.mod_one];simp[madeCells,h]
theorem aaD(W:World)(o:Obj)(n:Nat)(h:W.heap.size=n):(W.alloc o).heap[n]?=aj o:=h▸heap_alloc_new W o
theorem Wr.append{w w':World}{g off:Nat}{xs:List Value}(h:Wr w g off xs){base:Nat}{e:TypeId}{size:Nat}{v:Value}{n:Nat}{ys:List Value}(mf:w.ownsRow base e size v n ys)(hg:w.grownBy w' v.ownBlock)(hb:g<base):Wr w' g off xs:=
 h.grown hg λe=>by have:=(mf.lt g e).1;omega
theorem Wr.nil(w:World)(g off:Nat):Wr w g off []:=λj u h=>by simp at h
theorem adF{w:World}{base:Nat}{e:TypeId}{size:Nat}{g n cap:Nat}{xs:List Value}(h:w.ownsRow base e size (ap (aj ⟨g,0,ak⟩) n cap) n xs):Wr w g 0 xs:=λj u hj=>by
 have hl:j<n*size:=by rw[<-h.1];exact(cX.1 hj).1
 rw[cV];exact⟨(h.cellAt j hl).trans hj,h.frozenAt j⟩
theorem KT{P:Program}{src dst e:TypeId}(hs:P.underlying src=aj (.slice e))(he:P.underlying e=aj (.int .u8))(hd:P.underlying dst=aj .string){w:World}{g off n cap:Nat}{l:List UInt8}
 (hn:n=l.length) (h:Rd w g off (l.map Wl)):(convert src dst (ap (aj ⟨g,off,ak⟩) n cap)).run P w= .ok (.string ⟨l.toArray⟩) w:=by
 subst hn;refine run_convert_bytes_back w src dst e ⟨g,off,ak⟩ cap l hs he hd λj hj=>?_;have:=h.at j (by simpa using hj);rw[show(⟨g,off,ak⟩:Addr).add j=⟨g,off+j,ak⟩by unfold tK;split<;>simp_all];rw[this];simp[Wl]
end cU
namespace law
open Go.ChangeShapes Go.WideShapes Go.ChangeAt Go.RowKit
theorem own:ownKnob aB.godebug=none:=by kernel_rfl
theorem laidOut:laidOutB aB=true:=by kernel_rfl
structure afs{H:Type}(enc:TypeId×Value->H)(fn:Func)(W:World)(base:Nat)(args:Array Value)(ds:List (DataW H))(p:List MemPlace):Prop where
 val:∀(j:Nat) t v,fn.params[j]?=aj t->args[j]?=aj v->C5 aB W .any base t v
 trod:Il enc aB W 0 (λ_=>aD) aD fn.params.toList args.toList ds p
 sized:(tM aB fn.params.toList ds).all (· <=reachBytes)=aD
 free:W.noneFrozen p
noncomputable def acZ(fn:Func):Bool:=fn.params.toList.all λt=>aB.readableRec t&&decide (t<aB.types.size)
section
variable{H:Type}{enc:TypeId×Value->H}
theorem wU{P:Program}(hl:laidOutB P=aD){W W':World}{sp':Nat->Bool}:∀{ts:List TypeId} {vs:List Value} {ds:List (DataW H)} {ps:List MemPlace},(ts.all λt=>P.readableRec t&&decide (t<P.types.size))=aD->
 Il enc P W 0 (λ_=>aD) aD ts vs ds ps->(∀p∈ps,W.sameAt W' p)->(∀p∈ps,sp' p.block=aD)->Il enc P W' 0 sp' aD ts vs ds ps
 |[],[],[],_,_,h,_,_=>h
 | t ::ts,v::vs,d::ds,_,hb,⟨p,q,h1,h2,e⟩,h3,h4=>by
  simp only[List.all_cons,fc,decide_eq_true_eq]at hb;subst e;exact⟨p,q,adE hl hb.1.1 hb.1.2 h1 (λx hx=>h3 x (by simp[hx])) (λx hx=>h4 x (by simp[hx])),
   wU hl hb.2 h2 (λx hx=>h3 x (by simp[hx])) (λx hx=>h4 x (by simp[hx])),rfl⟩
 |[],_::_,_,_,_,h,_,_=>h.elim
 |[],[],_::_,_,_,h,_,_=>h.elim
 |_::_,[],_,_,_,h,_,_=>h.elim
 |_::_,_::_,[],_,_,h,_,_=>h.elim
theorem tV{P:Program}{W:World}{sp:Nat->Bool}:∀{ts:List TypeId} {vs:List Value} {ds:List (DataW H)} {ps:List MemPlace},Il enc P W 0 sp aD ts vs ds ps->ds.length=ts.length
 |[],[],[],_,_=>rfl
 |_::ts,_::vs,_::ds,_,⟨_,_,_,h2,_⟩=>by simp[tV h2]
 |[],_::_,_,_,h=>h.elim
 |[],[],_::_,_,h=>h.elim
 |_::_,[],_,_,h=>h.elim
 |_::_,_::_,[],_,h=>h.elim
def KU(fn:Func)(s:ChangeSpec):Prop:=s.vars=[]/\∀(H:Type) (ds:List (DataW H)),ds.length=fn.params.size->s.fn H ds={results:=[.lit (.bool aD)],args:=ds}
theorem aaE{fn:Func}{s:ChangeSpec}{W W':World}{args:Array Value}{ds gs:List (DataW H)}{before:List MemPlace}(hs:KU fn s)(yB:acZ fn=aD)(mR:fn.resultTypes=#[4])
 (hW:DataW.Whole enc aB fn.params.toList s.vars aE W args.toList ds gs before) (hb:Below W.heap.size W W'):
 s.post enc aB fn aE aD aE aE W args (.bool aD) W':=by
 obtain⟨hv,hfn⟩:=hs;have hW':=hW;obtain⟨p,q,hA,hV,rfl,hfz,KV⟩:=hW;rw[hv]at hV;obtain⟨rfl,rfl⟩:=trodVars_none hV;have hlen:ds.length=fn.params.size:=by rw[tV hA];simp
 have hlt:∀x∈p,x.block<W.heap.size:=λx hx=>hW'.lt x (by simp[hx]);have he:s.fn H (ds++[])={results:=[.lit (.bool aD)],args:=ds}:=by rw[dW];exact hfn H ds hlen
 refine⟨ds,[],p++[],[],p,[],hW',?_,?_,?_,hb.frame _,λh=>by cases h⟩
 ·rw[he,mR]
  exact trodAll_mk1 (shut_bool Tryz.underlying4 aD)
 ·rw[he]
  exact wU laidOut yB hA (λx hx=>hb.same (hlt x hx)) (λx hx=>by simpa using hlt x hx)
 ·rw[he,hv]
  rfl
end
set_option maxRecDepth 100000 in
theorem said{os:Os}{f:FuncId}{fn:Func}{s:ChangeSpec}(started:os.Started)(adG:aB.inits.idxOf? f=ak)(hf:aB.funcs[f]?=aj fn)(hs:KU fn s)(yB:acZ fn=aD)(mR:fn.resultTypes=#[4])
  {H:Type} {enc:TypeId×Value->H}
  (witness:∃(w:World) (tape:Tape) (i:Input),w.os=os/\(w.forCall tape i).Shaped Tryz.checked.prog/\i.vars=[]/\Input.okWide Tryz.checked.prog (w.forCall tape i) .any w.heap.size f i/\
   s.pre6 enc Tryz.checked.prog fn [] aE (w.forCall tape i).memory i.args/\({}:Assume).holds Tryz.checked.prog (lone (Frame.enter Tryz.checked.prog f i.args .normal) [] (w.forCall tape i)))
  (walk:∀(W:World) (base:Nat) (args:Array Value) (ds:List (DataW H)) (p:List MemPlace),afs enc fn W base args ds p->Calls aB f args W λe W'=>e= .returned (.bool aD)/\Below W.heap.size W W'):
  ReturnsInHanded {} Tryz.checked os f .any (s.pre6 enc aB fn [] aE) (s.post enc aB fn aE aD aE aE):=by
 refine returnsInHanded_of_change_sized (C:=Tryz.checked) own started adG hf witness ?_;intro W base args ds gs before hval hW _ hsz _;have hW':=hW;obtain⟨p,q,hA,hV,rfl,hfz,KV⟩:=hW;rw[hs.1]at hV;obtain⟨rfl,rfl⟩:=trodVars_none hV;have ahd:(tM aB fn.params.toList ds).all (· <=reachBytes)=true:=by
  have e:s.plain.varTypes aB=[]:=by simp[adC,DataSpec.varTypes,hs.1]
  have:=hsz;rw[show s.plain.varTypes Tryz.checked.prog=[]from e]at this;rw[dW,dW]at this;exact this
 refine(walk W base args ds p ⟨hval,hA,ahd,λb off h=>hfz b off (by simp[h])⟩).mono λe W' ⟨he,hb⟩=>?_;exact⟨_,he,aaE hs yB mR hW' hb⟩
end law
namespace cU
open Go.ChangeShapes Go.WideShapes Go.ChangeAt Go.RowKit
def Sl(w:World)(v:Value)(n:Nat)(xs:List Value):Prop:=
 ∃base cap,v=ap base n cap/\n<=cap/\cap<=maxLen/\(0<n->∃b off,base=aj ⟨b,off,ak⟩/\Rd w b off xs)
theorem Sl.gr{w w':World}{v:Value}{n:Nat}{xs:List Value}(h:Sl w v n xs)(hg:Below w.heap.size w w'):Sl w' v n xs:=
 let ⟨base,cap,h1,h2,h3,h4⟩:=h
 ⟨base,cap,h1,h2,h3,λhn=>let ⟨b,off,h5,h6⟩:=h4 hn;⟨b,off,h5,h6.gr hg⟩⟩
theorem Sl.dB{w:World}{base:Nat}{e:TypeId}{size:Nat}{v:Value}{n:Nat}{xs:List Value}(h:w.ownsRow base e size v n xs):Sl w v n xs:=by
 rcases h.2 with⟨rfl,rfl⟩|⟨g,cap,jS,rfl,hb,hg,hn,hm,r⟩
 exact⟨ak,0,rfl,bx _,by decide,λh=>by omega⟩;exact⟨_,cap,rfl,hn,hm,λ_=>⟨g,0,rfl,(adF h).rd⟩⟩
theorem mapM_some{α β:Type}{f:α->Option β}:∀{l:List α} {r:List β},l.mapM f=aj r->r.length=l.length/\∀(i:Nat) (a:α),l[i]?=aj a->∃b,f a=aj b/\r[i]?=aj b
 | [],r,h=>by
  simp at h;subst h;exact⟨rfl,λi a h=>by simp at h⟩
 | x ::l,r,h=>by
  rw[List.mapM_cons]at h
  cases hx:f x with
  |none=>rw[hx]at h;simp at h
  | some y=>
   rw[hx]at h
   cases hr:l.mapM f with
   |none=>rw[hr]at h;simp at h
   | some r'=>
    rw[hr]at h;simp at h;subst h;obtain⟨h1,h2⟩:=mapM_some hr;refine⟨by simp[h1],λi a hi=>?_⟩
    cases i with
    |zero=>simp at hi;subst hi;exact⟨y,hx,rfl⟩
    |succ i=>simp at hi;simpa using h2 i a hi
theorem i_{w:World}{a:Addr}{n:Nat}{cs:List Value}(h:w.cells? 0 a n=aj cs):cs.length=n/\∀j,j<n->w.cell? (a.add j)=cs[j]?:=by
 unfold World.cells? at h;rw[if_pos (bH _)]at h;obtain⟨h1,h2⟩:=mapM_some h;rw[List.length_range]at h1;refine⟨h1,λj hj=>?_⟩;obtain⟨b,hb,hc⟩:=h2 j j (by simp[hj]);rw[hb,hc]
theorem eI(b off j:Nat):(⟨b,off,ak⟩:Addr).add j=⟨b,off+j,ak⟩:=by unfold tK;split<;>simp_all
theorem Ag{w:World}{a:Addr}{v:Value}(h:w.cell? a=aj v):a.spot=none:=by
 unfold World.cell? at h;split at h
 ·cases hs:a.spot with
  |none=>rfl
  |some n=>rw[hs]at h;simp at h
 cases h
theorem tW{α:Type}{enc:α->List Value}{c:Nat}(hlen:∀a,(enc a).length=c):∀(l:List α) (i j:Nat) (a:α),l[i]?=aj a->j<c->(l.flatMap enc)[i*c+j]?=(enc a)[j]?
 |[],i,j,a,h,_=>by simp at h
 |x::l,0,j,a,h,hj=>by
  simp at h;subst h;rw[lO,eR (by rw[hlen];omega)];simp
 |x::l,i+1,j,a,h,hj=>by
  have ih:=tW hlen l i j a (by simpa using h) hj;rw[lO,kF (by rw[hlen,jq];omega),hlen,show(i+1)*c+j-c=i*c+j by rw[jq];omega];exact ih
theorem Bk{α:Type}{enc:α->List Value}{c:Nat}(hlen:∀a,(enc a).length=c)(l:List α):(l.flatMap enc).length=l.length*c:=by
 induction l with
 |nil=>simp
 |cons x l ih=>rw[lO,bI,hlen,ih,de,jq];omega
section
variable{H:Type}{enc0:TypeId×Value->H}{P:Program}{W:World}
theorem yC{α:Type}{p:Nat->α->Prop}:∀(n:Nat),(∀i,i<n->∃a,p i a)->∃l:List α,l.length=n/\∀(i:Nat) (a:α),l[i]?=aj a->p i a
 |0,_=>⟨[],rfl,λi a h=>by simp at h⟩
 | n+1,h=>by
  obtain⟨l,hl,hp⟩:=yC n λi hi=>h i J;obtain⟨a,ha⟩:=h n J;refine⟨l++[a],by simp[hl],λi b hb=>?_⟩
  by_cases hi:i<n
  rw[eR J]at hb;exact hp i b hb;have hlt:=(cX.1 hb).1;simp at hlt;obtain rfl:i=n:=by omega
  rw[kF J]at hb;rw[hl]at hb;simp at hb;subst hb;exact ha
theorem S5{t e:TypeId}(ht:P.underlying t=aj (.slice e)){c:Nat}(hc:P.cellsOf e=c)(C9:0<c){α:Type}(enc:α->List Value)(hlen:∀a,(enc a).length=c)(ok:α->Prop)
 (dec:∀(fuel:Nat) (cs:List Value) x,qG enc0 P W 0 (λ_=>aD) aD fuel e cs=aj x->∃a,cs=enc a/\ok a)
 {base:Nat} {v:Value} {d:DataW H} {ps:List MemPlace} (hv:C5 P W .any base t v) (h:NY enc0 P W 0 (λ_=>aD) aD t v d ps):
 ∃l:List α,Sl W v l.length (l.flatMap enc)/\(∀a∈l,ok a)/\((d= .nil/\l=[])\/∃elems spare,d= .slice elems spare/\elems.length=l.length):=by
 obtain⟨a0,len,cap,rfl⟩:=okWide_slice ht hv;obtain⟨fuel,hf⟩:=h;have Cq:qG enc0 P W 0 (λ_=>aD) aD fuel t [ap a0 len cap]=aj (d,ps):=hf;rcases VS ht Cq with⟨hcs,hx⟩|⟨a,aik,FQ,elems,rest,n,_,hcs,hx,_,hl,hm,tr,yB,_⟩
 ·simp only[gi,iX,and_true]at hcs
  obtain⟨rfl,rfl,rfl⟩:=hcs;simp only[fD]at hx;exact⟨[],⟨ak,0,rfl,bx _,by decide,λh=>by simp at h⟩,by simp,.inl ⟨hx.1,rfl⟩⟩
 ·simp only[gi,iX,and_true]at hcs
  obtain⟨rfl,rfl,rfl⟩:=hcs;simp only[fD]at hx;have each:∀i,i<len->∃b:α,(W.cells? 0 (a.add (i*c)) c=aj (enc b))/\ok b:=λi hi=>by
   have h1:=yB i hi;rw[hc]at h1;rw[bD J]at h1
   cases hcell:W.cells? 0 (a.add (i*c)) c with
   |none=>rw[hcell]at h1;simp at h1
   | some cs=>
    rw[hcell]at h1;obtain⟨b,rfl,lq⟩:=dec n cs _ h1;exact⟨b,rfl,lq⟩
  obtain⟨l,KW,hp⟩:=yC len each;refine⟨l,⟨aj a,cap,by rw[KW],by omega,hm,λh0=>?_⟩,λb hb=>?_,.inr ⟨_,_,hx.1,by simp[tr,KW]⟩⟩
  ·have h1:=hp 0 l[0] (bD h0)
   have h2:=(i_ h1.1).2 0 C9;rw[bD (by rw[hlen];exact C9)]at h2;have hsp:=Ag h2;have e0:a.spot=none:=by
    rw[It]at hsp;unfold tK at hsp
    simpa using hsp
   obtain⟨b,off,spot⟩:=a;simp only at e0;subst e0;refine⟨b,off,rfl,λj u hj=>?_⟩;have Ra:=(cX.1 hj).1;rw[Bk hlen]at Ra;have hi:j/c<l.length:=(Oe C9).2 Ra;have S6:=Af j C9;have hdm:j/c*c+j %c=j:=by rw[Wi];exact Wh j c
   have h3:=hp (j/c) l[j/c] (bD hi);have h4:=(i_ h3.1).2 (j %c) S6;rw[eI,eI,kZ,hdm]at h4;rw[h4,<-tW hlen l (j/c) (j %c) l[j/c] (bD hi) S6,hdm];exact hj
  obtain⟨i,hi,rfl⟩:=hY.1 hb;exact(hp i _ (bD hi)).2
theorem S7{ts:List TypeId}{ds:List (DataW H)}{j:Nat}{t e:TypeId}{d:DataW H}{n:Nat}(hsz:(tM P ts ds).all (· <=reachBytes)=aD)(hj:ts[j]?=aj t)(hd:ds[j]?=aj d)
 (hu:P.underlying t=aj (.slice e)) {B:Nat} (hB:P.bytesOf e=B) (h:(d= .nil/\n=0)\/∃elems spare,d= .slice elems spare/\elems.length=n):n*B<=140737488351232:=by
 rcases h with⟨_,rfl⟩|⟨elems,spare,rfl,rfl⟩
 ·omega
 ·have h1:=sized_slice hsz hj hd hu
  rw[hB]at h1;have:elems.length*B<=(elems.length+spare.length)*B:=oP _ J;have e:reachBytes=140737488351232:=rfl;omega
end
def GF(b:Bool):List Value:=[.bool b]
def ez(n:Int):List Value:=[av az n]
theorem ac0{α:Type}{f:α->Value}(l:List α):l.flatMap (λa=>[f a])=l.map f:=by
 induction l with
 |nil=>rfl
 |cons x l ih=>simp[lO,ih]
def d_(n:Int):Prop:= -9223372036854775808<=n/\n<=9223372036854775807
end cU
namespace dS
open Go.RowKit
abbrev Gr(w w':World):Prop:=Below w.heap.size w w'
theorem Gr.refl(w:World):Gr w w:=Below.refl _ _
theorem Gr.trans{a b c:World}(h:Gr a b)(k:Gr b c):Gr a c:=Below.trans h (k.mono h.size)
theorem Gr.drew(w:World):Gr w w.drew:=(Below.refl _ _).drew
def Up(w w':World):Prop:=Gr w w'
def jr(S:World->Prop):Prop:=∀w w',S w->Gr w w'->S w'
theorem S8(w:World):jr (Up w):=λ_ _ h k=>Gr.trans h k
section
variable{P:Program}{ops:Array Oper}{md:tR}{Q:Exit->Act->World->Prop}
def C_(P:Program)(w:World)(v:Value):Result Next->Prop
 | .ok (.value u) w'=>u=v/\Gr w w'
 | .ok .skip w'=>v=undef/\Gr w w'
 | .ok (.enter f args) w'=>Gr w w'/\Calls P f args w' (λe Cr=>e= .returned v/\Gr w' Cr)
 |_=>False
def oR(P:Program)(o:Oper)(a:Act)(w:World)(v:Value):Prop:=C_ P w v ((execOp a.eval o).run P w)
def jD(P:Program)(ops:Array Oper)(S:World->Prop)(o:Oper)(v:Value)(a:Act):Prop:=
 (kE o (yielded ops a.tmps)=aD/\∀w,S w->oR P o a w v)\/(kE o (yielded ops a.tmps)=aE/\v=undef)
theorem jD.mono{S S':World->Prop}{o:Oper}{v:Value}{a:Act}(hs:∀w,S' w->S w)(h:jD P ops S o v a):jD P ops S' o v a:=
 h.imp (λ⟨h1,h2⟩=>⟨h1,λw hw=>h2 w (hs w hw)⟩) id
theorem jD.of_same{S:World->Prop}{o:Oper}{v:Value}{a a':Act}(hy:jD P ops S o v a)(he:execOp a'.eval o=execOp a.eval o)
 (hw:kE o (yielded ops a'.tmps)=kE o (yielded ops a.tmps)):jD P ops S o v a':=by
 unfold jD oR at*;rw[he,hw];exact hy
theorem jD.wpOp{S:World->Prop}{i:Nat}{o:Oper}{v:Value}{a:Act}(hi:ops[i]?=aj o)(hy:jD P ops S o v a)(gL:jr S)
 {K:Act->World->Prop} {w:World} (hS:S w) (h:∀w',S w'->K (a.put o.dst v) w'):wpOp P ops Q i K a w:=by
 unfold Go.wpOp;simp only[hi];rcases hy with⟨hw,hv⟩|⟨hw,rfl⟩
 ·simp only[hw,if_true]
  refine .inl ?_;have h1:=hv w hS;unfold oR at h1;unfold fR;generalize (execOp a.eval o).run P w=r at*
  cases r with
  | ok n w'=>
   cases n<;>simp only[C_]at h1<;>simp only[N5]
   case value u=>rw[h1.1];exact h _ (gL _ _ hS h1.2)
   case skip=>rw[<-h1.1];exact h _ (gL _ _ hS h1.2)
   case enter f args=>
    refine h1.2.mono λe Cr ⟨he,hg⟩=>?_;subst he;exact h _ (gL _ _ (gL _ _ hS h1.1) hg)
  |halt x w'=>simp only[C_]at h1
 ·simp only[hw,Bool.false_eq_true,if_false];exact h _ hS
theorem GG{S:World->Prop}{j:Nat}{oi oj:Oper}{v:Value}(hj:ops[j]?=aj oj)(hap:oi.apart ops oj=aD)
 (hsi:∀cs b,oi.op≠ .select cs b) (hsj:∀cs b,oj.op≠ .select cs b)
 (hQ:∀c a w,Q (.panic c) (a.put oi.dst v) w->Q (.panic c) a w) {K:Act->World->Prop} {a:Act} {w:World}
 (hy:jD P ops S oi v a) (h:wpOp P ops Q j K (a.put oi.dst v) w):
 wpOp P ops Q j (λa' w'=>jD P ops S oi v a'/\K (a'.put oi.dst v) w') a w:=by
 obtain⟨h1,h2,h3⟩:=Oper.apart_spec hap;have keep:∀(a:Act),jD P ops S oi v a->∀u,jD P ops S oi v (a.put oj.dst u):=λa hy u=>
  hy.of_same (execOp_put oi hsi a oj.dst u h3) (wanted_put oi a oj.dst u h3)
 have aft:∀d,jD P ops S oi v {a with defers:=d::a.defers}:=λd=>hy.of_same I I;unfold wpOp at*;simp only[hj]at*;rw[wanted_put oj a oi.dst v h1]at h;split
 ·rename_i hw
  simp only[hw,if_true]at h;rcases h with h|⟨ac1,afu⟩
  case inr=>exact .inr ⟨by unfold Oper.asks at*;rw[execOp_put oj hsj a oi.dst v h1]at ac1;exact ac1,afu⟩
  refine .inl ?_;unfold fR at*;rw[execOp_put oj hsj a oi.dst v h1]at h;generalize (execOp a.eval oj).run P w=r at*
  cases r with
  | ok n w'=>
   cases n<;>simp only[N5]at h⊢
   case value u=>exact⟨keep a hy u,by rw[<-zW a v u h2];exact h⟩
   case skip=>exact⟨keep a hy _,by rw[<-zW a v undef h2];exact h⟩
   case defer d=>
    refine⟨keep _ (aft d) _,?_⟩;rw[<-zW _ v undef h2,<-Act.put_defers];exact h
   case enter f args=>
    refine VN h λe Cr he=>?_
    cases e with
    |returned u=>exact⟨keep a hy u,by rw[<-zW a v u h2];exact he⟩
    |panicked c=>exact hQ _ _ _ he
    |outgrown=>exact he
   case row row args=>exact V4 h λu Cr he=>⟨keep a hy u,by rw[<-zW a v u h2];exact he⟩
  | halt x w'=>
   cases x<;>simp only[N5]at h⊢
   case panic u=>exact hQ _ _ _ h
 ·rename_i hw
  simp only[hw]at h;exact⟨keep a hy _,by rw[<-zW a v undef h2];exact h⟩
def Ah(P:Program)(md:tR)(ops:Array Oper)(Q:Exit->Act->World->Prop)(n:Nat)(L:Array Bool->Act->World->Prop):Nat->Array Bool->Act->(World->Prop)->Prop
 |0,listed,a,S=>∀w,S w->L listed a w
 | f+1,listed,a,S=>iK md ops listed≠[]/\
  ∀i∈iK md ops listed,i<n/\∀w,S w->wpOp P ops Q i (λa' w'=>∃S',jr S'/\(∀x,S' x->S x)/\S' w'/\Ah P md ops Q n L f (listed.setIfInBounds i aD) a' S') a w
theorem C'{n g:Nat}{L:Array Bool->Act->World->Prop}(hL:∀listed a w,L listed a w->wpAny P md ops Q g listed a w):
 ∀(f:Nat) (listed:Array Bool) (a:Act) (S:World->Prop) (w:World),S w->Ah P md ops Q n L f listed a S->wpAny P md ops Q (f+g) listed a w
 |0,listed,a,S,w,hw,h=>by rw[cV];exact hL _ _ _ (h w hw)
 |f+1,listed,a,S,w,hw,h=>by
  rw[show f+1+g=(f+g)+1 by omega];exact⟨λh0=>absurd h0 h.1,λi hi=>wpOp_mono (λa' w' ⟨S',_,_,tG,h'⟩=>C' hL f _ a' S' w' tG h') ((h.2 i hi).2 w hw)⟩
theorem Iu{n i:Nat}{oi:Oper}{v:Value}{L:Array Bool->Act->World->Prop}(hi:ops[i]?=aj oi)(mg:∀(j:Nat) (o:Oper) cs b,ops[j]?=aj o->o.op≠ .select cs b)
 (hs:N7 md ops n=aD) (hc:N6 md ops n=aD) (hn:n<ops.size) (FI:i<n)
 (hQ:∀c a w,Q (.panic c) (a.put oi.dst v) w->Q (.panic c) a w)
 (hdone:∀listed a w,L listed a w->∀j∈iK md ops listed,n<=j):
 ∀ (f:Nat) (listed:Array Bool) (a:Act) (S:World->Prop),jr S->HeadInv md ops n listed->
  (∀j oj,ops[j]?=aj oj->j≠i->listed.getD j aD=aE->(∀e∈oj.after,z_ md e=aD->e.on≠i)->oi.apart ops oj=aD)->
  i∈iK md ops listed->jD P ops S oi v a->
  Ah P md ops Q n L f (listed.setIfInBounds i aD) (a.put oi.dst v) S->Ah P md ops Q n L (f+1) listed a S:=by
 intro f
 induction f with
 | zero=>
  intro listed a S gL inv _ hr hy H;have yD:=(mem_ready.1 hr).1;refine⟨λh=>(by rw[h]at hr;cases hr),λj hj=>?_⟩;have hjn:j<n:=by
   rcases Wj j n with h|h
   exact h;exact absurd hj (tail_waits hs hc hn inv _ i I FI yD j h)
  refine⟨hjn,λw hw=>?_⟩
  by_cases Iv:j=i
  subst Iv;exact hy.wpOp hi gL hw λw' tG=>⟨S,gL,λ_ h=>h,tG,H⟩;have:=hdone _ _ _ (H w hw) j (ready_mono hj Iv);omega
 | succ f ih=>
  intro listed a S gL inv GH hr hy H;have yD:=(mem_ready.1 hr).1;refine⟨λh=>(by rw[h]at hr;cases hr),λj hj=>?_⟩;have hjn:j<n:=by
   rcases Wj j n with h|h
   exact h;exact absurd hj (tail_waits hs hc hn inv _ i I FI yD j h)
  refine⟨hjn,λw hw=>?_⟩
  by_cases Iv:j=i
  subst Iv;exact hy.wpOp hi gL hw λw' tG=>⟨S,gL,λ_ h=>h,tG,H⟩;have h1:=(H.2 j (ready_mono hj Iv)).2 w hw;obtain⟨Wm,oj,Rb,oT⟩:=mem_ready.1 hj;have S9:∀e∈oj.after,z_ md e=aD->e.on≠i:=λe he hb NG=>by
   have h1:=oT e he hb;rw[NG,getD_both yD]at h1
   cases h1
  have h2:=GG Rb (GH j oj Rb Iv Wm S9) (λcs b=>mg i oi cs b hi) (λcs b=>mg j oj cs b Rb) hQ hy h1;have Oi:∀k ok,ops[k]?=aj ok->k≠i->(listed.setIfInBounds j aD).getD k aD=aE->
   (∀e∈ok.after,z_ md e=aD->e.on≠i)->oi.apart ops ok=true:=λk ok hk hki yD hno=>by
   refine GH k ok hk hki ?_ hno
   by_cases hjk:j=k
   ·subst hjk;exact Wm
   ·rw[getD_set_ne aD hjk]at yD;exact yD
  refine wpOp_mono (λa' w' h3=>?_) h2;obtain⟨h3,S',mS,kg,tG,h4⟩:=h3;refine⟨S',mS,kg,tG,ih (listed.setIfInBounds j aD) a' S' mS (inv.set hj hjn) Oi (ready_mono hr (xu Iv)) (h3.mono kg) ?_⟩;rw[VG _ _ Iv];exact h4
def Vp(P:Program)(ops:Array Oper)(Q:Exit->Act->World->Prop)(L:Act->World->Prop):List Bool->List Oper->Act->(World->Prop)->Prop
 |true::ks,o::rest,a,S=>∃v,(if kE o (yielded ops a.tmps)then ∀w,S w->oR P o a w v else v=undef)/\Vp P ops Q L ks rest (a.put o.dst v) S
 | false::ks,o::rest,a,S=>∀w,S w->if kE o (yielded ops a.tmps)then
  o.wp P a w (λa' w'=>∃S',jr S'/\(∀x,S' x->S x)/\S' w'/\Vp P ops Q L ks rest a' S') Q
  else Vp P ops Q L ks rest (a.put o.dst undef) S
 |_,_,a,S=>∀w,S w->L a w
def xw(md:tR)(ops:Array Oper)(g:Nat):List Bool->Nat->Array Bool->Bool
 |true::ks,k,listed=>(iK md ops listed).contains k&&V3 md ops listed k&&xw md ops g ks (k+1) (listed.setIfInBounds k aD)
 |false::ks,k,listed=>decide (iK md ops listed=[k])&&xw md ops g ks (k+1) (listed.setIfInBounds k aD)
 |[],k,listed=>N8 md ops g k listed
def adH(md:tR)(ops:Array Oper)(ks:List Bool):Bool:=
 xo ops&&decide (ks.length<ops.size)&&N7 md ops ks.length&&N6 md ops ks.length&&xw md ops (ops.size-ks.length) ks 0 (xg ops.size aE)
theorem xy{n g:Nat}{Lq:Act->World->Prop}(mg:xo ops=aD)(hs:N7 md ops n=aD)(hc:N6 md ops n=aD)(hn:n<ops.size)
 (hQ:∀c a d v w,Q (.panic c) (a.put d v) w->Q (.panic c) a w):
 ∀(ks:List Bool) (l:List Oper) (k:Nat) (listed:Array Bool) (a:Act) (S:World->Prop),jr S->l.length=ks.length->(∀j,j<l.length->l[j]?=ops[k+j]?)->k+l.length=n->HeadInv md ops n listed->
 xw md ops g ks k listed=aD->Vp P ops Q Lq ks l a S->
 Ah P md ops Q n (λCs a' w'=>N8 md ops g n Cs=aD/\Lq a' w') ks.length listed a S
 |[],[],k,listed,a,S,_,_,_,hk,_,hB,h=>by
  have:k=n:=by simpa using hk
  subst this;exact λw hw=>⟨by simpa[xw]using hB,h w hw⟩
 |[],_::_,_,_,_,_,_,hlen,_,_,_,_,_=>by simp at hlen
 |_::_,[],_,_,_,_,_,hlen,_,_,_,_,_=>by simp at hlen
 | true::ks,o::l,k,listed,a,S,gL,hlen,hl,hk,inv,hB,h=>by
  have h0:ops[k]?=aj o:=by simpa using(hl 0 (by simp)).symm
  simp only[xw,fc]at hB;obtain⟨⟨hr,hf⟩,hB'⟩:=hB;have hkn:k<n:=by simp only[de]at hk;omega
  have GI:k∈iK md ops listed:=by simpa using hr
  obtain⟨v,hy,hK⟩:=h;have hy':jD P ops S o v a:=by
   by_cases hw:kE o (yielded ops a.tmps)=aD
   rw[if_pos hw]at hy;exact .inl ⟨hw,hy⟩;rw[if_neg hw]at hy;exact .inr ⟨by simpa using hw,hy⟩
  exact Iu h0 (V0 mg) hs hc hn hkn (λc a w=>hQ c a o.dst v w) (λCs a' w' hL=>seqB_ready hL.1) ks.length listed a S gL inv (V1 h0 hf) GI hy'
   (xy mg hs hc hn hQ ks l (k+1) _ _ S gL (by simpa using hlen) (λj hj=>by have:=hl (j+1) (by simp;omega);simpa[kZ,Oh 1 j]using this) (by simp only[de]at hk;omega) (inv.set GI hkn) hB' hK)
 | false::ks,o::l,k,listed,a,S,gL,hlen,hl,hk,inv,hB,h=>by
  have h0:ops[k]?=aj o:=by simpa using(hl 0 (by simp)).symm
  simp only[xw,fc,decide_eq_true_eq]at hB;obtain⟨hr,hB'⟩:=hB;have hkn:k<n:=by simp only[de]at hk;omega
  have GI:k∈iK md ops listed:=by simp[hr]
  have next:∀a' S',jr S'->Vp P ops Q Lq ks l a' S'->Ah P md ops Q n (λCs a' w'=>N8 md ops g n Cs=aD/\Lq a' w') ks.length (listed.setIfInBounds k aD) a' S':=λa' S' mS hK=>
   xy mg hs hc hn hQ ks l (k+1) _ _ S' mS (by simpa using hlen) (λj hj=>by have:=hl (j+1) (by simp;omega);simpa[kZ,Oh 1 j]using this) (by simp only[de]at hk;omega) (inv.set GI hkn) hB' hK
  refine⟨by rw[hr];simp,λi hi=>?_⟩;obtain rfl:i=k:=by rw[hr]at hi;simpa using hi
  refine⟨hkn,λw hw=>?_⟩;have h1:=h w hw;unfold wpOp;simp only[h0];split
  ·rename_i Wn
   rw[if_pos Wn]at h1;exact .inl (Oper.wp_mono (λa' w' ⟨S',mS,kg,tG,hK⟩=>⟨S',mS,kg,tG,next _ _ mS hK⟩) h1)
  rename_i Wn
  rw[if_neg Wn]at h1;exact⟨S,gL,λ_ h=>h,hw,next _ _ gL h1⟩
theorem FR{id:Nat}{a:Act}{w:World}{l:List Oper}(ks:List Bool)(hm:P.follows .mixedOrders=aD)(hB:adH .any l.toArray ks=aD)
 (hQ:∀c a d v w,Q (.panic c) (a.put d v) w->Q (.panic c) a w) (S:World->Prop) (gL:jr S) (hS:S w.drew)
 (h:Vp P l.toArray Q (λa' w'=>wpList P l.toArray Q (l.drop ks.length) a' w') ks (l.take ks.length) a S):(VO id l.toArray aD).wp P Q a w:=by
 simp only[adH,fc,decide_eq_true_eq]at hB;obtain⟨⟨⟨⟨mg,hn⟩,hs⟩,hc⟩,Oj⟩:=hB;have hn':ks.length<l.length:=by simpa using hn
 have Wo:(l.take ks.length).length=ks.length:=by simp;omega
 have Rf:(l.drop ks.length).length=l.toArray.size-ks.length:=by simp
 have ahe:HeadInv .any l.toArray ks.length (xg l.toArray.size aE):=
  ⟨by simp,λj oj _ hl=>(by rw[getD_replicate_false]at hl;cases hl),λt _ ht=>getD_in (by simpa using ht) (getD_replicate_false _ _)⟩
 have H:=xy (md:= .any) (g:=l.toArray.size-ks.length) mg hs hc hn hQ ks (l.take ks.length) 0 _ a S gL Wo (λj hj=>by
  have oU:j<ks.length:=by rw[Wo]at hj;exact hj
  simp[oU]) (by simpa using Wo) ahe Oj h
 refine wp_region_any hm ?_;have:=C' (Q:=Q) (g:=l.toArray.size-ks.length) (λlisted a' w' hL=>by
  have:=wpAny_of_seq (md:= .any) (Q':=Q) (l.drop ks.length) ks.length listed a' w' (λj=>by simp[List.getElem?_drop]) (by rw[Rf];exact hL.1) hL.2
  rwa [Rf]at this) _ _ _ S w.drew hS H
 rw[show ks.length+(l.toArray.size-ks.length)=l.toArray.size by omega]at this;exact this
theorem dS{id:Nat}{a:Act}{w:World}{l:List Oper}(n:Nat)(ks:List Bool)(hn:ks.length=n)(hm:P.follows .mixedOrders=aD)(hB:adH .any l.toArray ks=aD)
 (hQ:∀c a d v w,Q (.panic c) (a.put d v) w->Q (.panic c) a w) (S:World->Prop) (gL:jr S) (hS:S w.drew)
 (h:Vp P l.toArray Q (λa' w'=>wpList P l.toArray Q (l.drop n) a' w') ks (l.take n) a S):(VO id l.toArray aD).wp P Q a w:=by
 subst hn;exact FR ks hm hB hQ S gL hS h
section
variable{L:Act->World->Prop}{ks:List Bool}{o:Oper}{rest:List Oper}{a:Act}{S:World->Prop}
theorem aaF{u:Value}(hw:kE o (yielded ops a.tmps)=aD)(h:∀w,S w->(execOp a.eval o).run P w= .ok (.value u) w)(hk:Vp P ops Q L ks rest (a.put o.dst u) S):
 Vp P ops Q L (true::ks) (o::rest) a S:=
 ⟨u,by rw[if_pos hw];intro w hS;unfold oR;rw[h w hS];exact⟨rfl,Gr.refl _⟩,hk⟩
theorem Wp(hw:kE o (yielded ops a.tmps)=aE)(hk:Vp P ops Q L ks rest (a.put o.dst undef) S):
 Vp P ops Q L (true::ks) (o::rest) a S:=
 ⟨undef,by rw[if_neg (by rw[hw];exact Bool.false_ne_true)],hk⟩
theorem aaG{l:List Oper}(h:∀w,S w->L a w):Vp P ops Q L [] l a S:=h
end
end
end dS
namespace cI
open Go.RowKit cU dS
abbrev Fr:=List (Nat×Value)
def look:Fr->Nat->Option Value
 |[],_=>ak
 |(k,v)::r,i=>bif fx k i then aj v else look r i
structure ny(n:Nat)(a:Act)(fr:Fr):Prop where
 size:a.tmps.size=n
 defers:a.defers=[]
 get:∀i v,look fr i=aj v->a.tmps[i]?=aj v
theorem ny.put{n:Nat}{a:Act}{fr:Fr}(h:ny n a fr){d:Nat}(hd:dv d n=aD)(v:Value):ny n (a.put (aj d) v) ((d,v)::fr):=by
 have Wq:d<n:=nf hd;refine⟨by simp[qE,h.size],h.defers,λi u hi=>?_⟩;unfold look at hi;simp only[qE]
 cases e:fx d i
 ·rw[e]at hi
  rw[Array.getElem?_setIfInBounds_ne (Is e)];exact h.get i u hi
 rw[e]at hi;obtain rfl:d=i:=kf e;simp only[cond_true,df]at hi;subst hi;rw[Array.getElem?_setIfInBounds_self_of_lt (by rw[h.size];exact Wq)]
theorem ny.tX{n:Nat}{a:Act}{fr:Fr}(h:ny n a fr)(v:Value):ny n (a.put ak v) fr:=h
def KX:Fr->Fr->Prop
 |[],_=>True
 |(i,v)::r,fr=>look fr i=aj v/\KX r fr
theorem Ws{FJ fr:Fr}(h:KX FJ fr){i:Nat}{v:Value}(hl:look FJ i=aj v):look fr i=aj v:=by
 induction FJ with
 |nil=>cases hl
 |cons x r ih=>
  obtain⟨k,u⟩:=x;unfold look at hl
  cases e:fx k i
  rw[e]at hl;exact ih h.2 hl;rw[e]at hl;obtain rfl:k=i:=kf e;simp only[cond_true,df]at hl;subst hl;exact h.1
theorem ny.sub{n:Nat}{a:Act}{fr FJ:Fr}(h:ny n a fr)(hs:KX FJ fr):ny n a FJ:=⟨h.size,h.defers,λi v hl=>h.get i v (Ws hs hl)⟩
def ev(fr:Fr):Operand->Option Value
 | .tmp t=>look fr t
 | .const v=>aj v
 | .global g=>aj (aJ (aj ⟨g,0,ak⟩))
 | .func f=>aj (.func (.func f) #[] #[])
theorem ny.ev{n:Nat}{a:Act}{fr:Fr}(h:ny n a fr){x:Operand}{v:Value}(hx:ev fr x=aj v):a.eval x=v:=by
 cases x with
 |tmp t=>simp[Ik,xe,h.get t v hx]
 |const u=>simpa[cI.ev,Ik]using hx
 |global g=>simpa[cI.ev,Ik]using hx
 |func f=>simpa[cI.ev,Ik]using hx
theorem ny.yield{n:Nat}{a:Act}{fr:Fr}(h:ny n a fr){ops:Array Oper}{j d:Nat}{v:Value}(hj:(ops[j]?).bind (·.dst)=aj d)(hl:look fr d=aj v):
 yielded ops a.tmps j=match v with| .bool b=>aj b|_=>none:=by
 unfold yielded;rw[hj];simp only[Option.bind_some,h.get d v hl]
 cases v<;>rfl
structure cH where
 BZ:Option Nat
 more:Nat->Prop
 holds:World->Prop
 lt:∀w,holds w->∀k,(BZ=aj k\/more k)->k<w.heap.size
 stay:∀w w',holds w->w.heap.size<=w'.heap.size->(∀k,(BZ=aj k\/more k)->w'.heap[k]?=w.heap[k]?)->holds w'
def cH.ff(o:cH)(k:Nat):Prop:=o.BZ=aj k\/o.more k
def aP(g:Nat)(cs:Array Value)(T:TypeId):cH:=
 ⟨aj g,λ_=>False,λw=>w.heap[g]?=aj (.cells cs T (0,0)),λw h k hk=>by simp only[df,or_false]at hk;subst hk;exact(jm.1 h).1,
  λw w' h _ hb=>by rw[hb g (.inl I)];exact h⟩
def a_(e:TypeId)(size:Nat)(v:Value)(n:Nat)(xs:List Value):cH:=
 ⟨v.ownBlock,λ_=>False,λw=>w.ownsRow 0 e size v n xs,λw h k hk=>(h.lt k (hk.elim id nV)).2,λw w' h _ hb=>by
  refine⟨h.1,?_⟩;rcases h.2 with hn|⟨g,cap,jS,rfl,Ct,hg,rest⟩
  exact .inl hn;exact .inr ⟨g,cap,jS,rfl,Ct,by rw[hb g (.inl I)];exact hg,rest⟩⟩
structure eH(p:Nat->Prop)(w:World)(L:List cH):Prop where
 all:∀(i:Nat) (o:cH),L[i]?=aj o->o.holds w/\∀k,o.ff k->p k
 apart:∀(i j:Nat) (o o':cH),i≠j->L[i]?=aj o->L[j]?=aj o'->∀k,o.ff k->¬o'.ff k
abbrev ng(B:Nat)(w:World)(L:List cH):Prop:=eH (λk=>B<=k) w L
section
variable{p p':Nat->Prop}
theorem ng.nil(B:Nat)(w:World):ng B w []:=⟨λi o h=>by simp at h,λi j o o' _ h=>by simp at h⟩
theorem eH.nil(w:World):eH p w []:=⟨λi o h=>by simp at h,λi j o o' _ h=>by simp at h⟩
theorem eH.gr{w w':World}{L:List cH}(h:eH p w L)(hg:Gr w w'):eH p w' L:=
 ⟨λi o hi=>⟨o.stay w w' (h.all i o hi).1 hg.size λk hk=>hg.block k (o.lt w (h.all i o hi).1 k hk),(h.all i o hi).2⟩,h.apart⟩
theorem eH.mono{w:World}{L:List cH}(h:eH p w L)(hb:∀k,p k->p' k):eH p' w L:=
 ⟨λi o hi=>⟨(h.all i o hi).1,λk hk=>hb k ((h.all i o hi).2 k hk)⟩,h.apart⟩
theorem eH.one{w:World}{o:cH}(h:o.holds w)(hb:∀k,o.ff k->p k):eH p w [o]:=
  ⟨λi o' hi=>by
    match i,hi with
    |0,hi=>simp only[sf,df]at hi;subst hi;exact⟨h,hb⟩
    |i+1,hi=>simp at hi,
   λi j a b re hi hj=>by
    match i,j,hi,hj with
    |0,0,_,_=>exact absurd I re
    |i+1,_,hi,_=>simp at hi
    |0,j+1,_,hj=>simp at hj⟩
theorem ng.one{B:Nat}{w:World}{o:cH}(h:o.holds w)(hb:∀k,o.BZ=aj k->B<=k)(hmo:∀k,o.more k->B<=k:=by intro k hk;exact False.elim hk):ng B w [o]:=eH.one h λk hk=>hk.elim (hb k) (hmo k)
theorem eH.both{w:World}{L L':List cH}(h:eH p w L)(h':eH p w L')(ha:∀(i j:Nat) (o o':cH),L[i]?=aj o->L'[j]?=aj o'->∀k,o.ff k->¬o'.ff k):eH p w (L++L'):=by
 refine⟨λi o hi=>?_,λi j o o' re hi hj=>?_⟩
 ·rw[Wa]at hi
  split at hi;exact h.all i o hi;exact h'.all _ o hi
 intro k hk mT;rw[Wa]at hi hj;split at hi<;>split at hj;exact h.apart i j o o' re hi hj k hk mT;exact ha _ _ o o' hi hj k hk mT;exact ha _ _ o' o hj hi k mT hk;exact h'.apart (i-L.length) (j-L.length) o o' J hi hj k hk mT
theorem eH.pick{w:World}{L L':List cH}(h:eH p w L)(is:List Nat)(hn:is.Nodup)(hl:L'=is.filterMap λi=>L[i]?):eH p w L':=by
 subst hl
 induction is with
 |nil=>exact eH.nil _
 | cons i is ih=>
  rw[List.nodup_cons]at hn;have ih:=ih hn.2;have mem:∀j o,(is.filterMap λi=>L[i]?)[j]?=aj o->∃q∈is,L[q]?=aj o:=λj o hj=>by
   have:=lP hj;rw[List.mem_filterMap]at this;exact this
  cases e:L[i]? with
  |none=>rw[List.filterMap_cons_none e];exact ih
  | some o0=>
   rw[Ab e];refine⟨λj o hj=>?_,λj j' o o' re hj oU=>?_⟩
   ·match j,hj with
    |0,hj=>simp only[sf,df]at hj;subst hj;exact h.all i _ e
    |j+1,hj=>exact ih.all j o (by simpa using hj)
   match j,j',hj,oU with
   |0,0,_,_=>exact absurd I re
   | 0,j'+1,hj,oU=>
    simp only[sf,df]at hj;subst hj;obtain⟨q,hq,Da⟩:=mem j' o' (by simpa using oU);exact h.apart i q _ o' (λe=>hn.1 (e▸hq)) e Da
   | j+1,0,hj,oU=>
    simp only[sf,df]at oU;subst oU;obtain⟨q,hq,Da⟩:=mem j o (by simpa using hj);exact h.apart q i o _ (λe=>hn.1 (e▸hq)) Da e
   |j+1,j'+1,hj,oU=>exact ih.apart j j' o o' J (by simpa using hj) (by simpa using oU)
end
structure bO where
 w:World
 X:Nat->Prop
instance:Coe World bO:=⟨λw=>⟨w,λ_=>False⟩⟩
def bO.on(w:World)(L:List cH):bO:=⟨w,λk=>∃o∈L,o.ff k⟩
def bO.may(W:bO)(k:Nat):Prop:=W.w.heap.size<=k\/W.X k
structure Iw(W:bO)(w:World):Prop where
 os:w.os=W.w.os
 tape:w.tape=W.w.tape
 output:w.output=W.w.output
 size:W.w.heap.size<=w.heap.size
 block:∀k,k<W.w.heap.size->¬W.X k->w.heap[k]?=W.w.heap[k]?
structure Mem(W:bO)(L:List cH)(w:World):Prop where
 low:Iw W w
 owns:eH W.may w L
theorem Mem.start(W:World):Mem W [] W:=⟨⟨rfl,rfl,rfl,bx _,λ_ _ _=>rfl⟩,eH.nil _⟩
theorem Iw.gr{W:bO}{w w':World}(h:Iw W w)(hg:Gr w w'):Iw W w':=
 ⟨hg.os.trans h.os,hg.tape.trans h.tape,hg.output.trans h.output,fw h.size hg.size,λk hk hx=>(hg.block k (jp hk h.size)).trans (h.block k hk hx)⟩
theorem Mem.below{W w:World}{L:List cH}(h:Mem W L w):Below W.heap.size W w:=⟨h.low.os,h.low.tape,h.low.output,h.low.size,λk hk=>h.low.block k hk id⟩
theorem Mem.ac2{W w:World}{L:List cH}(h:Mem W L w):ng W.heap.size w L:=h.owns.mono λ_ hk=>hk.elim id nV
section
variable{W:bO}
theorem Mem.gr{w w':World}{L:List cH}(h:Mem W L w)(hg:Gr w w'):Mem W L w':=⟨h.low.gr hg,h.owns.gr hg⟩
theorem Mem.drew{w:World}{L:List cH}(h:Mem W L w):Mem W L w.drew:=h.gr (Gr.drew w)
theorem ir(W:bO)(L:List cH):jr (Mem W L):=λ_ _ h k=>h.gr k
theorem Mem.pick{w:World}{L L':List cH}(h:Mem W L w)(is:List Nat)(hn:is.Nodup)(hl:L'=is.filterMap λi=>L[i]?):Mem W L' w:=⟨h.low,h.owns.pick is hn hl⟩
theorem Mem.append{w w':World}{L L':List cH}(h:Mem W L w)(hg:Gr w w')(h':ng w.heap.size w' L'):Mem W (L++L') w':=by
 have hsz:W.w.heap.size<=w.heap.size:=h.low.size;refine⟨h.low.gr hg,eH.both (h.owns.gr hg) (h'.mono λk hk=> .inl (fw hsz hk)) λi j o o' hi hj k hk mT=>?_⟩;have a1:=o.lt w (h.owns.all i o hi).1 k hk;have a2:w.heap.size<=k:=(h'.all _ o' hj).2 k mT;omega
theorem Mem.B1{w w':World}{L:List cH}(h:Mem W L w){i:Nat}{o o':cH}(hi:L[i]?=aj o)(hg:w.grownBy w' o.BZ)(ho:o'.holds w')(hb:∀k,o'.BZ=aj k->o.BZ=aj k\/w.heap.size<=k)(hmo:∀k,o'.more k->o.ff k:=by intro k hk;exact False.elim hk):Mem W (L.set i o') w':=by
 have hle:W.w.heap.size<=w.heap.size:=h.low.size;have hoB:=(h.owns.all i o hi).2;have hlen:i<L.length:=(cX.1 hi).1;have NH:∀k,o'.ff k->o.ff k\/w.heap.size<=k:=λk hk=>hk.elim (λh=>(hb k h).imp .inl id) (λh=> .inl (hmo k h));refine⟨⟨hg.os.trans h.low.os,hg.tape.trans h.low.tape,hg.output.trans h.low.output,fw hle hg.size,λk hk hx=>?_⟩,?_,?_⟩
 ·rw[hg.block k (jp hk hle) λe=>(hoB k (.inl e.symm)).elim (λh=>by omega) hx]
  exact h.low.block k hk hx
 ·intro j q hj
  by_cases e:i=j
  ·subst e
   rw[oO hlen]at hj;simp only[df]at hj;subst hj;exact⟨ho,λk hk=>(NH k hk).elim (hoB k) (λh=> .inl (fw hle h))⟩
  rw[mq e]at hj;have h1:=h.owns.all j q hj;refine⟨q.stay w w' h1.1 hg.size λk hk=>hg.block k (q.lt w h1.1 k hk) λe'=>?_,h1.2⟩;exact h.owns.apart i j o q e hi hj k (.inl e'.symm) hk
 intro j j' q q' re hj oU k hk mT
 by_cases e:i=j
 ·subst e
  rw[oO hlen]at hj;rw[mq re]at oU;simp only[df]at hj;subst hj;have h2:=(h.owns.all j' q' oU).1;rcases NH k hk with h1|h1
  exact h.owns.apart i j' o q' re hi oU k h1 mT;have:=q'.lt w h2 k mT;omega
 rw[mq e]at hj;have h2:=(h.owns.all j q hj).1
 by_cases e':i=j'
 ·subst e'
  rw[oO hlen]at oU;simp only[df]at oU;subst oU;rcases NH k mT with h1|h1
  exact h.owns.apart i j o q e hi hj k h1 hk;have:=q.lt w h2 k hk;omega
 rw[mq e']at oU;exact h.owns.apart j j' q q' re hj oU k hk mT
theorem Mem.merge{w:World}{R:List cH}{o1 o2:cH}(o:cH)(h:Mem W ([o1,o2]++R) w)(hf:∀k,o.ff k->o1.ff k\/o2.ff k)(hh:o1.holds w->o2.holds w->o.holds w):Mem W (R++[o]) w:=by
 have h1:=h.owns.all 0 o1 I;have h2:=h.owns.all 1 o2 I;refine⟨h.low,eH.both ⟨λi q hi=>h.owns.all (i+2) q (by simpa using hi),λi j q q' re hi hj=>h.owns.apart (i+2) (j+2) q q' J (by simpa using hi) (by simpa using hj)⟩ (eH.one (hh h1.1 h2.1) λk hk=>(hf k hk).elim (h1.2 k) (h2.2 k)) ?_⟩;intro i j q q' hi hj k hk mT
 match j,hj with
 |0,hj=>
  simp only[sf,df]at hj;subst hj;have oV:([o1,o2]++R)[i+2]?=aj q:=by simpa using hi
  rcases hf k mT with h3|h3
  exact h.owns.apart 0 (i+2) o1 q J I oV k h3 hk;exact h.owns.apart 1 (i+2) o2 q J I oV k h3 hk
 |j+1,hj=>simp at hj
theorem Mem.get{w:World}{L:List cH}(h:Mem W L w){i:Nat}{o:cH}(hi:L[i]?=aj o):o.holds w:=(h.owns.all i o hi).1
theorem Mem.over{w:World}{L:List cH}(h:Mem W L w):Mem (bO.on w L) L w:=
 ⟨⟨rfl,rfl,rfl,bx _,λ_ _ _=>rfl⟩,λi o hi=>⟨(h.owns.all i o hi).1,λ_ hk=> .inr ⟨o,lP hi,hk⟩⟩,h.owns.apart⟩
theorem Mem.back{w w':World}{L R O:List cH}(h:Mem W (L++R) w)(h':Mem (bO.on w L) O w'):Mem W (R++O) w':=by
 have hle:W.w.heap.size<=w.heap.size:=h.low.size;have hL:∀o∈L,∀k,o.ff k->W.may k:=λo ho k hk=>by
  obtain⟨i,hi⟩:=xr ho;exact(h.owns.all i o (by rw[eR (cX.1 hi).1];exact hi)).2 k hk
 have hR:∀(i:Nat) (o:cH),R[i]?=aj o->o.holds w/\(∀k,o.ff k->W.may k)/\∀k,o.ff k->k<w.heap.size/\¬(bO.on w L).X k:=λi o hi=>by
  have oV:(L++R)[L.length+i]?=aj o:=by rw[kF J];simpa using hi
  have h1:=h.owns.all _ o oV;refine⟨h1.1,h1.2,λk hk=>⟨o.lt w h1.1 k hk,?_⟩⟩;rintro⟨q,hq,hqk⟩;obtain⟨j,hj⟩:=xr hq;have Ra:=(cX.1 hj).1;exact h.owns.apart j (L.length+i) q o J (by rw[eR Ra];exact hj) oV k hqk hk
 refine⟨⟨h'.low.os.trans h.low.os,h'.low.tape.trans h.low.tape,h'.low.output.trans h.low.output,fw hle h'.low.size,λk hk hx=>?_⟩,eH.both ⟨λi o hi=>?_,?_⟩ ?_ ?_⟩
 ·rw[h'.low.block k (jp hk hle) ?_]
  exact h.low.block k hk hx;rintro⟨o,ho,lq⟩;exact(hL o ho k lq).elim (λh=>by omega) hx
 ·obtain⟨h1,h2,h3⟩:=hR i o hi
  exact⟨o.stay w w' h1 h'.low.size λk hk=>h'.low.block k (h3 k hk).1 (h3 k hk).2,h2⟩
 ·intro i j o o' re hi hj
  exact h.owns.apart (L.length+i) (L.length+j) o o' J (by rw[kF J];simpa using hi) (by rw[kF J];simpa using hj)
 exact h'.owns.mono λk hk=>hk.elim (λh1=> .inl (fw hle h1)) λ⟨o,ho,lq⟩=>hL o ho k lq;intro i j o o' hi hj k hk mT;obtain⟨h1,h2,h3⟩:=hR i o hi;rcases(h'.owns.all j o' hj).2 k mT with h4|h4
 ·have h4:w.heap.size<=k:=h4
  have:=(h3 k hk).1;omega
 exact(h3 k hk).2 h4
end
theorem Mem.cell{W w:World}{L:List cH}(h:Mem W L w){p:Addr}{v:Value}(hp:W.cell? p=aj v):w.cell? p=aj v:=by
 rw[h.below.cell (nX W p hp)];exact hp
structure pZ(W0:World)(W:bO):Prop where
 below:Below W0.heap.size W0 W.w
 free:∀k,k<W0.heap.size->¬W.X k
theorem pZ.self(W:World):pZ W W:=⟨Below.refl _ _,λ_ _=>id⟩
theorem pZ.mem{W0:World}{W:bO}(ho:pZ W0 W){L:List cH}{w:World}(h:Mem W L w):Below W0.heap.size W0 w:=
 ⟨h.low.os.trans ho.below.os,h.low.tape.trans ho.below.tape,h.low.output.trans ho.below.output,fw ho.below.size h.low.size,λk hk=>(h.low.block k (jp hk ho.below.size) (ho.free k hk)).trans (ho.below.block k hk)⟩
theorem pZ.cell{W0:World}{W:bO}(ho:pZ W0 W){L:List cH}{w:World}(h:Mem W L w){p:Addr}{v:Value}(hp:W0.cell? p=aj v):w.cell? p=aj v:=by
 rw[(ho.mem h).cell (nX W0 p hp)];exact hp
theorem pZ.on{W0:World}{W:bO}(ho:pZ W0 W){L L':List cH}{w:World}(h:Mem W L w)(hs:∀o∈L',o∈L):pZ W0 (bO.on w L'):=
 ⟨ho.mem h,λk hk ⟨o,hm,hb⟩=>by
  obtain⟨i,hi⟩:=xr (hs o hm);rcases(h.owns.all i o hi).2 k hb with h1|h1
  ·have:=ho.below.size
   have h1:W.w.heap.size<=k:=h1;omega
  exact ho.free k hk h1⟩
end cI
namespace cI
open Go.RowKit cU dS
structure T(P:Program)(n:Nat)(W:bO)(c:Code)(Q:Exit->Act->World->Prop)(fr:Fr)(L:List cH):Prop where
 go:∀a w,ny n a fr->Mem W L w->c.wp P Q a w
structure E(n:Nat)(W:bO)(e:Exit)(Q:Exit->Act->World->Prop)(fr:Fr)(L:List cH):Prop where
 go:∀a w,ny n a fr->Mem W L w->Q e a w
structure TL(P:Program)(n:Nat)(W:bO)(ops:Array Oper)(Q:Exit->Act->World->Prop)(l:List Oper)(fr:Fr)(L:List cH):Prop where
 go:∀a w,ny n a fr->Mem W L w->wpList P ops Q l a w
structure RR(P:Program)(n:Nat)(W:bO)(o:Oper)(fr:Fr)(L:List cH)(v:Value):Prop where
 go:∀a w,ny n a fr->Mem W L w->(execOp a.eval o).run P w= .ok (.value v) w
structure Spec(ι:Type) where
 ok:ι->Prop
 val:ι->Value
 own:ι->List cH
def cB{ι:Type}(S:Spec ι)(w:World)(e:Ending)(w':World):Prop:=∃x,S.ok x/\e= .returned (S.val x)/\Gr w w'/\ng w.heap.size w' (S.own x)
def ret(v:Value):Spec Unit:=⟨λ_=>True,λ_=>v,λ_=>[]⟩
theorem S_{v:Value}{w w':World}{e:Ending}(h:e= .returned v)(hg:Gr w w'):cB (ret v) w e w':=⟨(),trivial,h,hg,ng.nil _ _⟩
theorem Db{v:Value}{w w':World}{e:Ending}(h:cB (ret v) w e w'):e= .returned v/\Gr w w':=let ⟨_,_,h1,h2,_⟩:=h;⟨h1,h2⟩
section
variable{P:Program}{n:Nat}{W:bO}{Q:Exit->Act->World->Prop}{fr:Fr}{L:List cH}
theorem cC{x y:Code}(h:T P n W x (Exit.then (y.wp P Q) Q) fr L):T P n W (x.seq y) Q fr L:= .mk λa w hr hm=>wp_seq (h.go a w hr hm)
theorem xz(h:E n W .normal Q fr L):T P n W .skip Q fr L:= .mk λa w hr hm=>wp_skip (h.go a w hr hm)
theorem xA{id:Nat}(h:E n W (.exit id) Q fr L):T P n W (.exit id) Q fr L:= .mk λa w hr hm=>wp_exit (h.go a w hr hm)
theorem yE(h:E n W .ret Q fr L):T P n W .ret Q fr L:= .mk λa w hr hm=>wp_ret (h.go a w hr hm)
theorem sg{id:Nat}{c:Code}(h:T P n W c (tN id Q) fr L):T P n W (.block id c) Q fr L:= .mk λa w hr hm=>wp_block (h.go a w hr hm)
theorem Ix{c:Operand}{x y:Code}(hc:ev fr c=aj (.bool aD))(h:T P n W x Q fr L):T P n W (.cond c x y) Q fr L:= .mk λa w hr hm=>wp_cond_true (hr.ev hc) (h.go a w hr hm)
theorem Iy{c:Operand}{x y:Code}(hc:ev fr c=aj (.bool aE))(h:T P n W y Q fr L):T P n W (.cond c x y) Q fr L:= .mk λa w hr hm=>wp_cond_false (hr.ev hc) (h.go a w hr hm)
theorem adI{c:Code}{L':List cH}(is:List Nat)(hn:is.Nodup)(hl:L'=is.filterMap λi=>L[i]?)(h:T P n W c Q fr L'):T P n W c Q fr L:= .mk λa w hr hm=>h.go a w hr (hm.pick is hn hl)
theorem adJ{e:Exit}{L':List cH}(is:List Nat)(hn:is.Nodup)(hl:L'=is.filterMap λi=>L[i]?)(h:E n W e Q fr L'):E n W e Q fr L:= .mk λa w hr hm=>h.go a w hr (hm.pick is hn hl)
theorem lQ{y:Code}(h:T P n W y Q fr L):E n W .normal (Exit.then (y.wp P Q) Q) fr L:=⟨h.go⟩
theorem sh{id:Nat}{K:Act->World->Prop}(h:E n W (.exit id) Q fr L):E n W (.exit id) (Exit.then K Q) fr L:=⟨h.go⟩
theorem ot{K:Act->World->Prop}(h:E n W .ret Q fr L):E n W .ret (Exit.then K Q) fr L:=⟨h.go⟩
theorem oW{id:Nat}(h:E n W .normal Q fr L):E n W .normal (tN id Q) fr L:=⟨h.go⟩
theorem oX{id:Nat}(h:E n W .ret Q fr L):E n W .ret (tN id Q) fr L:=⟨h.go⟩
theorem nF{id:Nat}(h:E n W .normal Q fr L):E n W (.exit id) (tN id Q) fr L:= .mk λa w hr hm=>by
 show(if id=id then Q .normal a w else Q (.exit id) a w)
 rw[if_pos I];exact h.go a w hr hm
theorem nG{id id':Nat}(hne:fx id' id=aE)(h:E n W (.exit id') Q fr L):E n W (.exit id') (tN id Q) fr L:= .mk λa w hr hm=>by
 show(if id'=id then Q .normal a w else Q (.exit id') a w)
 rw[if_neg (Is hne)];exact h.go a w hr hm
def Rnd{ι:Type}(n:Nat)(W:bO)(ah:ι->Prop)(F:ι->Fr)(M:ι->List cH)(μ:ι->Nat)(x:ι)(a:Act)(w:World):Prop:=∃x',ah x'/\μ x'<μ x/\ny n a (F x')/\Mem W (M x') w
def Mid{ι:Type}(n:Nat)(W:bO)(ah:ι->Prop)(F:ι->Fr)(M:ι->List cH)(a:Act)(w:World):Prop:=∃i,ah i/\ny n a (F i)/\Mem W (M i) w
theorem Wt{x y:Code}{ι:Type}(ah:ι->Prop)(F:ι->Fr)(M:ι->List cH)
 (hx:T P n W x (Exit.then (Mid n W ah F M) Q) fr L) (hy:∀i,ah i->T P n W y Q (F i) (M i)):T P n W (x.seq y) Q fr L:= .mk λa w hr hm=>
 wp_seq (wp_mono (hx.go a w hr hm) λe a w h=>by
  cases e with
  |normal=>obtain⟨i,h1,h2,h3⟩:=h;exact(hy i h1).go a w h2 h3
  |_=>exact h)
theorem dE{ι:Type}{ah:ι->Prop}{F:ι->Fr}{M:ι->List cH}(i:ι)(hi:ah i)(hf:KX (F i) fr)(hl:L=M i):E n W .normal (Exit.then (Mid n W ah F M) Q) fr L:=
 ⟨λ_ _ hr hm=>⟨i,hi,hr.sub hf,hl▸hm⟩⟩
theorem nZ{c:Code}{ι:Type}(ah:ι->Prop)(F:ι->Fr)(M:ι->List cH)(μ:ι->Nat)(x0:ι)(h0:ah x0)(hf:KX (F x0) fr)(hl:L=M x0)
 (round:∀x,ah x->T P n W c (Exit.then (Rnd n W ah F M μ x) Q) (F x) (M x)):T P n W (.loop c) Q fr L:=by
 refine⟨λa w hr hm=>?_⟩;refine wp_loop_ghost (λk a w=>∃x,μ x=k/\ah x/\ny n a (F x)/\Mem W (M x) w) (μ x0) ⟨x0,rfl,h0,hr.sub hf,hl▸hm⟩ ?_;rintro k a w ⟨x,rfl,hi,hr,hm⟩;refine wp_mono ((round x hi).go a w hr hm) λe a w h=>?_
 cases e with
 |normal=>obtain⟨x',h1,h2,h3,h4⟩:=h;exact⟨μ x',h2,x',rfl,h1,h3,h4⟩
 |_=>exact h
theorem iB{ι:Type}{ah:ι->Prop}{F:ι->Fr}{M:ι->List cH}{μ:ι->Nat}{x:ι}(x':ι)(hi:ah x')(hμ:μ x'<μ x)(hf:KX (F x') fr)(hl:L=M x'):
 E n W .normal (Exit.then (Rnd n W ah F M μ x) Q) fr L:=
 ⟨λ_ _ hr hm=>⟨x',hi,hμ,hr.sub hf,hl▸hm⟩⟩
theorem Dc{fn:Func}{R:Ending->World->Prop}(h:∀a w,ny n a fr->Mem W L w->∃v,(results fn a.tmps).run P w= .ok v w/\R (.returned v) w):E n W .ret (bodyPost P fn R) fr L:=
 ⟨λa w hr hm=>⟨hr.defers,h a w hr hm⟩⟩
theorem cJ{fn:Func}{R:Ending->World->Prop}{t:Tmp}{v:Value}(mR:fn.results=#[.tmp t])(hv:look fr t=aj v)(h:∀w,Mem W L w->R (.returned v) w):E n W .ret (bodyPost P fn R) fr L:=
 Dc λa w hr hm=>⟨v,by simp[results,mR,xe,hr.get t v hv],h w hm⟩
theorem si{fn:Func}{R:Ending->World->Prop}{t u:Tmp}{v z:Value}(mR:fn.results=#[.tmp t,.tmp u])(hv:look fr t=aj v)(hz:look fr u=aj z)(h:∀w,Mem W L w->R (.returned (.tuple #[v,z])) w):E n W .ret (bodyPost P fn R) fr L:=
 Dc λa w hr hm=>⟨_,by simp[results,mR,xe,hr.get t v hv,hr.get u z hz],h w hm⟩
theorem mu{fn:Func}{R:Ending->World->Prop}{t u s:Tmp}{v z y:Value}(mR:fn.results=#[.tmp t,.tmp u,.tmp s])(hv:look fr t=aj v)(hz:look fr u=aj z)(hy:look fr s=aj y)(h:∀w,Mem W L w->R (.returned (.tuple #[v,z,y])) w):E n W .ret (bodyPost P fn R) fr L:=
 Dc λa w hr hm=>⟨_,by simp[results,mR,xe,hr.get t v hv,hr.get u z hz,hr.get s y hy],h w hm⟩
theorem Mem.meets{ι:Type}{S:Spec ι}{W w:World}(x:ι)(hm:Mem W L w)(hx:S.ok x)(is:List Nat)(hn:is.Nodup)(hl:S.own x=is.filterMap λi=>L[i]?):cB S W (.returned (S.val x)) w:=
 ⟨x,hx,rfl,hm.below,hm.ac2.pick is hn hl⟩
theorem Mem.ret{v:Value}{W w:World}(hm:Mem W L w):cB (ret v) W (.returned v) w:=⟨(),trivial,rfl,hm.below,ng.nil _ _⟩
theorem dD{fn:Func}{W:World}{t:Tmp}{v v0:Value}(mR:fn.results=#[.tmp t])(hv:look fr t=aj v)(h:v=v0):E n W .ret (bodyPost P fn (cB (ret v0) W)) fr L:=by
 subst h;exact cJ mR hv λw hm=>hm.ret
theorem Iz{fn:Func}{W:World}{t u s:Tmp}{v z y v0:Value}(mR:fn.results=#[.tmp t,.tmp u,.tmp s])(hv:look fr t=aj v)(hz:look fr u=aj z)(hy:look fr s=aj y)(h: .tuple #[v,z,y]=v0):E n W .ret (bodyPost P fn (cB (ret v0) W)) fr L:=by
 subst h;exact mu mR hv hz hy λw hm=>hm.ret
def yF:Nat->List Value->Fr
 |_,[]=>[]
 |k,v::r=>(k,v)::yF (k+1) r
theorem sj:∀(vs:List Value) (k i:Nat) (v:Value),look (yF k vs) i=aj v->k<=i/\vs[i-k]?=aj v
 |[],_,_,_,h=>by cases h
 | u ::r,k,i,v,h=>by
  unfold yF look at h
  cases e:fx k i
  ·rw[e]at h
   have hne:=Is e;obtain⟨h1,h2⟩:=sj r (k+1) i v h;refine⟨by omega,?_⟩;rw[show i-k=(i-(k+1))+1 by omega,C8];exact h2
  rw[e]at h;obtain rfl:k=i:=kf e;simp only[cond_true,df]at h;subst h;simp
theorem enter{w:World}{f:FuncId}{fn:Func}{c:Code}{args:List Value}{R:Ending->World->Prop}(hf:P.funcs[f]?=aj fn)(hb:fn.body=aj c)(hn:fn.ntmps=n)(hle:Ae args.length n=aD)
 (h:T P n w c (bodyPost P fn R) (yF 0 args) []):Calls P f args.toArray w R:=by
 have adK:args.length<=n:=nf hle;refine calls_of_wp hf hb (h.go _ w ⟨?_,rfl,λi v hi=>?_⟩ (Mem.start w))
 ·simp[hn];omega
 ·obtain⟨_,h2⟩:=sj args 0 i v hi
  have hlt:=(cX.1 h2).1;rw[VF (by simpa using hlt)]
  simpa using h2
theorem dm{B:bO}{w:World}{f:FuncId}{fn:Func}{c:Code}{args:List Value}{R:Ending->World->Prop}(hm:Mem B L w)(hf:P.funcs[f]?=aj fn)(hb:fn.body=aj c)(hn:fn.ntmps=n)(hle:Ae args.length n=aD)
 (h:T P n B c (bodyPost P fn R) (yF 0 args) L):Calls P f args.toArray w R:=by
 have adK:args.length<=n:=nf hle;refine calls_of_wp hf hb (h.go _ w ⟨?_,rfl,λi v hi=>?_⟩ hm)
 ·simp[hn];omega
 ·obtain⟨_,h2⟩:=sj args 0 i v hi
  have hlt:=(cX.1 h2).1;rw[VF (by simpa using hlt)]
  simpa using h2
section
variable{ops:Array Oper}{K:Act->World->Prop}{ks:List Bool}{o:Oper}{rest:List Oper}{v:Value}{d:Nat}
theorem bz{id:Nat}{l:List Oper}(h:TL P n W l.toArray Q l fr L):T P n W (.region id l.toArray aE) Q fr L:= .mk λa w hr hm=>wp_region_lit (h.go a w hr hm)
theorem kI(h:E n W .normal Q fr L):TL P n W ops Q [] fr L:= .mk λa w hr hm=>wpList_nil (h.go a w hr hm)
theorem qk{a:Act}(hg:o.guard=ak):kE o (yielded ops a.tmps)=true:=by simp[kE,hg]
theorem oY{a:Act}{j e:Nat}{b:Bool}(hr:ny n a fr)(hg:o.guard=aj (j,b))(hj:(ops[j]?).bind (·.dst)=aj e)(hl:look fr e=aj (.bool b)):kE o (yielded ops a.tmps)=true:=by
 simp[kE,hg,hr.yield hj hl]
def aaH(b:Bool):Value->Bool
 | .bool c=>c !=b
 |_=>aD
theorem GJ{a:Act}{j e:Nat}{b:Bool}{u:Value}(hr:ny n a fr)(hg:o.guard=aj (j,b))(hj:(ops[j]?).bind (·.dst)=aj e)(hl:look fr e=aj u)(hu:aaH b u=aD):kE o (yielded ops a.tmps)=false:=by
 simp only[kE,hg,hr.yield hj hl]
 cases u<;>first|rfl|(rename_i c;cases c<;>cases b<;>first|rfl|cases hu)
theorem dx(hr:RR P n W o fr L v)(hg:o.guard=ak)(hd:o.dst=aj d)(hn:dv d n=aD)(h:TL P n W ops Q rest ((d,v)::fr) L):TL P n W ops Q (o::rest) fr L:= .mk λa w gY hm=>
 wpList_plain hg λK hK=>by
  unfold fR;rw[hr.go a w gY hm];rw[VZ,hd];exact hK _ _ (h.go _ w (gY.put hn v) hm)
theorem Rg{j e:Nat}{b:Bool}(hr:RR P n W o fr L v)(hg:o.guard=aj (j,b))(hj:(ops[j]?).bind (·.dst)=aj e)(hl:look fr e=aj (.bool b))(hd:o.dst=aj d)(hn:dv d n=aD)(h:TL P n W ops Q rest ((d,v)::fr) L):TL P n W ops Q (o::rest) fr L:= .mk λa w gY hm=>
 VI (oY gY hg hj hl) λK hK=>by
  unfold fR;rw[hr.go a w gY hm];rw[VZ,hd];exact hK _ _ (h.go _ w (gY.put hn v) hm)
theorem aaI{j e:Nat}{b:Bool}{u:Value}(hg:o.guard=aj (j,b))(hj:(ops[j]?).bind (·.dst)=aj e)(hl:look fr e=aj u)(hu:aaH b u=aD)(hd:o.dst=aj d)(hn:dv d n=aD)(h:TL P n W ops Q rest ((d,undef)::fr) L):TL P n W ops Q (o::rest) fr L:= .mk λa w gY hm=>
 wpList_skip (GJ gY hg hj hl hu) (by rw[hd];exact h.go _ w (gY.put hn undef) hm)
theorem tY{p:Prop}{inst:Decidable p}(hr:RR P n W o fr L (.bool (decide p)))(hg:o.guard=ak)(hd:o.dst=aj d)(hn:dv d n=aD)(ht:p->TL P n W ops Q rest ((d,.bool aD)::fr) L)(hf:¬p->TL P n W ops Q rest ((d,.bool aE)::fr) L):TL P n W ops Q (o::rest) fr L:=by
 by_cases h:p
 exact dx (by rwa [decide_eq_true h]at hr) hg hd hn (ht h);exact dx (by rwa [decide_eq_false h]at hr) hg hd hn (hf h)
theorem oZ{p:Prop}{inst:Decidable p}{j e:Nat}{b:Bool}(hr:RR P n W o fr L (.bool (decide p)))(hg:o.guard=aj (j,b))(hj:(ops[j]?).bind (·.dst)=aj e)(hl:look fr e=aj (.bool b))(hd:o.dst=aj d)(hn:dv d n=aD)(ht:p->TL P n W ops Q rest ((d,.bool aD)::fr) L)(hf:¬p->TL P n W ops Q rest ((d,.bool aE)::fr) L):TL P n W ops Q (o::rest) fr L:=by
 by_cases h:p
 exact Rg (by rwa [decide_eq_true h]at hr) hg hj hl hd hn (ht h);exact Rg (by rwa [decide_eq_false h]at hr) hg hj hl hd hn (hf h)
theorem ny.aaJ{a:Act}{e:Nat}{v:Value}(h:ny n a fr)(hl:look fr e=aj v):ny n a ((e,v)::fr):=⟨h.size,h.defers,λi u hi=>by
 unfold look at hi
 cases c:fx e i
 rw[c]at hi;exact h.get i u hi;rw[c]at hi;obtain rfl:e=i:=kf c;simp only[cond_true,df]at hi;subst hi;exact h.get e v hl⟩
theorem Ai{j e:Nat}{b0 b:Bool}(_:o.guard=aj (j,b0))(_:(ops[j]?).bind (·.dst)=aj e)(hl:look fr e=aj (.bool b))(ht:b=aD->TL P n W ops Q (o::rest) ((e,.bool aD)::fr) L)(hf:b=aE->TL P n W ops Q (o::rest) ((e,.bool aE)::fr) L):TL P n W ops Q (o::rest) fr L:= .mk λa w hr hm=>by
 cases b
 exact(hf I).go a w (hr.aaJ hl) hm;exact(ht I).go a w (hr.aaJ hl) hm
theorem Ol{j e:Nat}{b0:Bool}(_:o.guard=aj (j,b0))(_:(ops[j]?).bind (·.dst)=aj e)(_:look fr e=aj (.bool aD))(h:TL P n W ops Q (o::rest) fr L):TL P n W ops Q (o::rest) fr L:=h
theorem Om{j e:Nat}{b0:Bool}(_:o.guard=aj (j,b0))(_:(ops[j]?).bind (·.dst)=aj e)(_:look fr e=aj (.bool aE))(h:TL P n W ops Q (o::rest) fr L):TL P n W ops Q (o::rest) fr L:=h
theorem Rh{c:Tmp}{x y:Code}{b:Bool}(hl:look fr c=aj (.bool b))(ht:b=aD->T P n W x Q ((c,.bool aD)::fr) L)(hf:b=aE->T P n W y Q ((c,.bool aE)::fr) L):T P n W (.cond (.tmp c) x y) Q fr L:= .mk λa w hr hm=>by
 cases b
 exact wp_cond_false (hr.ev (x:= .tmp c) hl) ((hf I).go a w (hr.aaJ hl) hm);exact wp_cond_true (hr.ev (x:= .tmp c) hl) ((ht I).go a w (hr.aaJ hl) hm)
theorem aV{f:FuncId}{args:Array Value}{ι:Type}{S:Spec ι}(he:∀a w,ny n a fr->(execOp a.eval o).run P w= .ok (.enter f args) w)(hc:∀w,Mem W L w->Calls P f args w (cB S w))(hg:o.guard=ak)(hd:o.dst=aj d)(hn:dv d n=aD)
 (h:∀x,S.ok x->TL P n W ops Q rest ((d,S.val x)::fr) (L++S.own x)):TL P n W ops Q (o::rest) fr L:= .mk λa w gY hm=>
 wpList_plain hg λK hK=>by
  unfold fR;rw[he a w gY,N4];refine(hc w hm).mono λe w' ⟨x,h1,h2,h3,h4⟩=>?_;subst h2;simp only[hd];exact hK _ _ ((h x h1).go _ w' (gY.put hn _) (hm.append h3 h4))
theorem mv{f:FuncId}{args:Array Value}{ι:Type}{S:Spec ι}{j e:Nat}{b:Bool}(he:∀a w,ny n a fr->(execOp a.eval o).run P w= .ok (.enter f args) w)(hc:∀w,Mem W L w->Calls P f args w (cB S w))(hg:o.guard=aj (j,b))(hj:(ops[j]?).bind (·.dst)=aj e)(hl:look fr e=aj (.bool b))(hd:o.dst=aj d)(hn:dv d n=aD)
 (h:∀x,S.ok x->TL P n W ops Q rest ((d,S.val x)::fr) (L++S.own x)):TL P n W ops Q (o::rest) fr L:= .mk λa w gY hm=>
 VI (oY gY hg hj hl) λK hK=>by
  unfold fR;rw[he a w gY,N4];refine(hc w hm).mono λe w' ⟨x,h1,h2,h3,h4⟩=>?_;subst h2;simp only[hd];exact hK _ _ ((h x h1).go _ w' (gY.put hn _) (hm.append h3 h4))
def cY{ι:Type}(S:Spec ι)(B:bO)(e:Ending)(w':World):Prop:=∃x,S.ok x/\e= .returned (S.val x)/\Mem B (S.own x) w'
theorem Mem.bV{ι:Type}{S:Spec ι}{w:World}(x:ι)(hm:Mem W L w)(hx:S.ok x)(is:List Nat)(hn:is.Nodup)(hl:S.own x=is.filterMap λi=>L[i]?):cY S W (.returned (S.val x)) w:=
 ⟨x,hx,rfl,hm.pick is hn hl⟩
theorem xB{is js:List Nat}{Lx R:List cH}(hlx:Lx=is.filterMap λi=>L[i]?)(NI:R=js.filterMap λi=>L[i]?):Lx++R=(is++js).filterMap λi=>L[i]?:=by
 rw[Ac,<-hlx,<-NI]
theorem bm{f:FuncId}{args:Array Value}{ι:Type}{S:Spec ι}(is js:List Nat){Lx R:List cH}(hn2:(is++js).Nodup)(hlx:Lx=is.filterMap λi=>L[i]?)(NI:R=js.filterMap λi=>L[i]?)
 (he:∀a w,ny n a fr->(execOp a.eval o).run P w= .ok (.enter f args) w) (hc:∀w,Mem W L w->Mem (bO.on w Lx) Lx w->Calls P f args w (cY S (bO.on w Lx))) (hg:o.guard=ak) (hd:o.dst=aj d) (hn:dv d n=aD)
 (h:∀x,S.ok x->TL P n W ops Q rest ((d,S.val x)::fr) (R++S.own x)):TL P n W ops Q (o::rest) fr L:= .mk λa w gY hm=>
 wpList_plain hg λK hK=>by
  have Wu:Mem W (Lx++R) w:=hm.pick (is++js) hn2 (xB hlx NI);have hm3:Mem W Lx w:=hm.pick is (List.nodup_append.1 hn2).1 hlx;unfold fR;rw[he a w gY,N4];refine(hc w hm hm3.over).mono λe w' ⟨x,h1,h2,h3⟩=>?_;subst h2;simp only[hd];exact hK _ _ ((h x h1).go _ w' (gY.put hn _) (Wu.back h3))
theorem kJ(hg:o.guard=ak)(h:∀a w,ny n a fr->Mem W L w->∀K:Act->World->Prop,(∀a w,wpList P ops Q rest a w->K a w)->o.wp P a w K Q):TL P n W ops Q (o::rest) fr L:= .mk λa w gY hm=>
 wpList_plain hg λK hK=>h a w gY hm K hK
theorem Cu{q e:Nat}{b:Bool}(hg:o.guard=aj (q,b))(hj:(ops[q]?).bind (·.dst)=aj e)(hl:look fr e=aj (.bool b))(h:TL P n W ops Q ({o with guard:=ak}::rest) fr L):TL P n W ops Q (o::rest) fr L:= .mk λa w hr hm=>by
 have h1:=h.go a w hr hm;unfold wpList at h1⊢;rw[if_pos (qk I)]at h1;rw[if_pos (oY hr hg hj hl)];exact h1
end
end
end cI
namespace cI
open Go.RowKit cU dS
def str(l:List UInt8):Value:= .string ⟨l.toArray⟩
theorem Wv(s:ByteArray):Value.string s=str s.data.toList:=by unfold str;congr
structure Ty(P:Program)(t:TypeId)(agg:Bool)(c:Nat):Prop where
 agg:∀w,(isAgg t).run P w= .ok agg w
 size:∀w,(sizeOf t).run P w= .ok c w
def tyB(P:Program)(t:TypeId)(agg:Bool)(c:Nat):Bool:=
 (match P.underlying t with|some (.struct _)=>agg|some (.array _ _)=>agg|some _=>!agg|none=>aE)&&(match P.info? t with|some i=>fx i.size c|none=>aE)
theorem Ty.of{P:Program}{t:TypeId}{agg:Bool}{c:Nat}(h:tyB P t agg c=aD):Ty P t agg c:=by
 unfold tyB at h;rw[fc]at h;obtain⟨h1,h2⟩:=h;refine⟨λw=>?_,λw=>?_⟩
 ·cases e:P.underlying t with
  |none=>rw[e]at h1;cases h1
  |some d=>
   rw[e]at h1
   cases agg<;>cases d<;>first|(cases h1;done)|simp[isAgg,run_underlying e]
 cases e:P.info? t with
 |none=>rw[e]at h2;cases h2
 |some i=>
  rw[e]at h2;obtain rfl:i.size=c:=kf h2;simp[sizeOf,typeInfo,e]
section
variable{P:Program}{n:Nat}{W:bO}{fr:Fr}{L:List cH}{dst:Option Tmp}{ty:TypeId}{pos:String}{after:Array Edge}{guard:Option (Nat×Bool)}
theorem wh{x:Operand}{v:Value}(hx:ev fr x=aj v):RR P n W ⟨dst,.move x,ty,pos,after,guard⟩ fr L v:= .mk λa w hr _=>by
 show N9 (VX (a.eval x)) w=_;rw[hr.ev hx]
theorem Ta{x:Operand}{v:Value}(hx:ev fr x=aj v):RR P n W ⟨dst,.assign x,ty,pos,after,guard⟩ fr L v:= .mk λa w hr _=>by
 show N9 (VX (a.eval x)) w=_;rw[hr.ev hx]
theorem Ww{c x y:Operand}{v:Value}(hc:ev fr c=aj (.bool aD))(hx:ev fr x=aj v):RR P n W ⟨dst,.pick c x y,ty,pos,after,guard⟩ fr L v:= .mk λa w hr _=>by
 simp[execOp,hr.ev hc,hr.ev hx,asBool]
theorem Wy{c x y:Operand}{v:Value}(hc:ev fr c=aj (.bool aE))(hy:ev fr y=aj v):RR P n W ⟨dst,.pick c x y,ty,pos,after,guard⟩ fr L v:= .mk λa w hr _=>by
 simp[execOp,hr.ev hc,hr.ev hy,asBool]
theorem On{t:Operand}{i:Nat}{vs:Array Value}{v:Value}(ht:ev fr t=aj (.tuple vs))(hv:vs[i]?=aj v):RR P n W ⟨dst,.extract t i,ty,pos,after,guard⟩ fr L v:= .mk λa w hr _=>by
 simp[execOp,hr.ev ht,Instr.extract,hv]
section
variable{t u:TypeId}{x y:Operand}{k:IntKind}{m m':Int}
theorem o7{op:BinOp}{v:Value}(hx:ev fr x=aj (.int k m))(hy:ev fr y=aj (.int k m'))(h:∀w,(binOp op t (.int k m) (.int k m')).run P w= .ok v w):RR P n W ⟨dst,.binOp op t x y u,ty,pos,after,guard⟩ fr L v:= .mk λa w hr _=>by
 have e:(eqGuard op t x y (.int k m) (.int k m')).run P w= .ok () w:=by
  unfold eqGuard;cases op<;>rfl
 simp[execOp,hr.ev hx,hr.ev hy,e,h]
theorem adL(hx:ev fr x=aj (.int k m))(hy:ev fr y=aj (.int k m')):RR P n W ⟨dst,.binOp .add t x y u,ty,pos,after,guard⟩ fr L (.int k (k.wrap (m+m'))):=o7 hx hy λw=>by simp[binOp,N3]
theorem adM(hx:ev fr x=aj (.int k m))(hy:ev fr y=aj (.int k m')):RR P n W ⟨dst,.binOp .sub t x y u,ty,pos,after,guard⟩ fr L (.int k (k.wrap (m-m'))):=o7 hx hy λw=>by simp[binOp,N3]
theorem adN(hx:ev fr x=aj (.int k m))(hy:ev fr y=aj (.int k m')):RR P n W ⟨dst,.binOp .mul t x y u,ty,pos,after,guard⟩ fr L (.int k (k.wrap (m*m'))):=o7 hx hy λw=>by simp[binOp,N3]
theorem nB{r:Int}(h0: -9223372036854775808<=r)(h1:r<=9223372036854775807):az.wrap r=r:=IntWalk.i64_in _ J
theorem eT{r:Int}(hx:ev fr x=aj (av az m))(hy:ev fr y=aj (av az m'))(h0: -9223372036854775808<=m+m')(h1:m+m'<=9223372036854775807)(hr:m+m'=r):RR P n W ⟨dst,.binOp .add t x y u,ty,pos,after,guard⟩ fr L (av az r):=by
 have:=adL (P:=P) (n:=n) (W:=W) (L:=L) (dst:=dst) (ty:=ty) (pos:=pos) (after:=after) (guard:=guard) (t:=t) (u:=u) hx hy;rwa [nB h0 h1,hr]at this
theorem eJ{r:Int}(hx:ev fr x=aj (av az m))(hy:ev fr y=aj (av az m'))(h0: -9223372036854775808<=m-m')(h1:m-m'<=9223372036854775807)(hr:m-m'=r):RR P n W ⟨dst,.binOp .sub t x y u,ty,pos,after,guard⟩ fr L (av az r):=by
 have:=adM (P:=P) (n:=n) (W:=W) (L:=L) (dst:=dst) (ty:=ty) (pos:=pos) (after:=after) (guard:=guard) (t:=t) (u:=u) hx hy;rwa [nB h0 h1,hr]at this
theorem Wz{r:Int}(hx:ev fr x=aj (av az m))(hy:ev fr y=aj (av az m'))(h0: -9223372036854775808<=m*m')(h1:m*m'<=9223372036854775807)(hr:m*m'=r):RR P n W ⟨dst,.binOp .mul t x y u,ty,pos,after,guard⟩ fr L (av az r):=by
 have:=adN (P:=P) (n:=n) (W:=W) (L:=L) (dst:=dst) (ty:=ty) (pos:=pos) (after:=after) (guard:=guard) (t:=t) (u:=u) hx hy;rwa [nB h0 h1,hr]at this
theorem dQ{b:Bool}(hx:ev fr x=aj (.int k m))(hy:ev fr y=aj (.int k m'))(h:decide (m<m')=b):RR P n W ⟨dst,.binOp .lss t x y u,ty,pos,after,guard⟩ fr L (.bool b):=o7 hx hy λw=>by simp[binOp,z8,<-h]
theorem Aj{b:Bool}(hx:ev fr x=aj (.int k m))(hy:ev fr y=aj (.int k m'))(h:decide (m<=m')=b):RR P n W ⟨dst,.binOp .leq t x y u,ty,pos,after,guard⟩ fr L (.bool b):=o7 hx hy λw=>by simp[binOp,z8,<-h]
theorem dT{b:Bool}(hx:ev fr x=aj (.int k m))(hy:ev fr y=aj (.int k m'))(h:decide (m'<m)=b):RR P n W ⟨dst,.binOp .gtr t x y u,ty,pos,after,guard⟩ fr L (.bool b):=o7 hx hy λw=>by simp[binOp,z8,<-h]
theorem eU{b:Bool}(hx:ev fr x=aj (.int k m))(hy:ev fr y=aj (.int k m'))(h:decide (m'<=m)=b):RR P n W ⟨dst,.binOp .geq t x y u,ty,pos,after,guard⟩ fr L (.bool b):=o7 hx hy λw=>by simp[binOp,z8,<-h]
theorem dg{b:Bool}(hx:ev fr x=aj (.int k m))(hy:ev fr y=aj (.int k m'))(h:decide (m=m')=b):RR P n W ⟨dst,.binOp .eql t x y u,ty,pos,after,guard⟩ fr L (.bool b):=o7 hx hy λw=>by
 have:(m==m')=b:=by rw[<-h];exact Ii m m'
 simp[binOp,z8,this]
theorem dr{b:Bool}(hx:ev fr x=aj (.int k m))(hy:ev fr y=aj (.int k m'))(h:decide (m≠m')=b):RR P n W ⟨dst,.binOp .neq t x y u,ty,pos,after,guard⟩ fr L (.bool b):=o7 hx hy λw=>by
 have:(m !=m')=b:=by rw[<-h,bne,Ii];simp
 simp[binOp,z8,this]
theorem IA{op:BinOp}{r:Int}(hop:op= .and\/op= .or\/op= .xor\/op= .andNot)(hx:ev fr x=aj (.int k m))(hy:ev fr y=aj (.int k m'))(h:bits op k m m'=r):RR P n W ⟨dst,.binOp op t x y u,ty,pos,after,guard⟩ fr L (.int k r):=o7 hx hy λw=>by
 subst h;rcases hop with rfl|rfl|rfl|rfl<;>simp[binOp,Op.intBits,bits]
theorem KY{op:BinOp}{k':IntKind}{v:Value}(hop:op= .shl\/op= .shr)(hx:ev fr x=aj (.int k m))(hy:ev fr y=aj (.int k' m'))(h:∀w,(iq op k m k' m').run P w= .ok v w):RR P n W ⟨dst,.binOp op t x y u,ty,pos,after,guard⟩ fr L v:= .mk λa w hr _=>by
 have e:(eqGuard op t x y (.int k m) (.int k' m')).run P w= .ok () w:=by unfold eqGuard;rcases hop with rfl|rfl<;>rfl
 rcases hop with rfl|rfl<;>simp[execOp,hr.ev hx,hr.ev hy,e,binOp,h]
theorem nh{r:Int}(hx:ev fr x=aj (.int k m))(hy:ev fr y=aj (.int k m'))(h:bits .and k m m'=r):RR P n W ⟨dst,.binOp .and t x y u,ty,pos,after,guard⟩ fr L (.int k r):=IA (.inl I) hx hy h
theorem yG{r:Int}(hx:ev fr x=aj (.int k m))(hy:ev fr y=aj (.int k m'))(h:bits .or k m m'=r):RR P n W ⟨dst,.binOp .or t x y u,ty,pos,after,guard⟩ fr L (.int k r):=IA (.inr (.inl I)) hx hy h
theorem Dd{k':IntKind}{v:Value}(hx:ev fr x=aj (.int k m))(hy:ev fr y=aj (.int k' m'))(h:∀w,(iq .shl k m k' m').run P w= .ok v w):RR P n W ⟨dst,.binOp .shl t x y u,ty,pos,after,guard⟩ fr L v:=KY (.inl I) hx hy h
theorem o8{k':IntKind}{v:Value}(hx:ev fr x=aj (.int k m))(hy:ev fr y=aj (.int k' m'))(h:∀w,(iq .shr k m k' m').run P w= .ok v w):RR P n W ⟨dst,.binOp .shr t x y u,ty,pos,after,guard⟩ fr L v:=KY (.inr I) hx hy h
theorem iQ{k':IntKind}{r:Int}(hs:P.underlying t=aj (.int k'))(hd:P.underlying u=aj (.int k))(hx:ev fr x=aj (.int k' m))(h:k.wrap m=r):RR P n W ⟨dst,.convert t u x,ty,pos,after,guard⟩ fr L (.int k r):= .mk λa w hr _=>by
 simp[execOp,hr.ev hx,convert,run_underlying hs,run_underlying hd,Conv.intToInt,h]
end
theorem Ak{t:TypeId}{x:Operand}{b c:Bool}(hx:ev fr x=aj (.bool b))(h:(!b)=c):RR P n W ⟨dst,.unOp .not t x,ty,pos,after,guard⟩ fr L (.bool c):= .mk λa w hr _=>by
 subst h;simp[execOp,hr.ev hx,Op.unary]
theorem De{t u:TypeId}{x y:Operand}{m m' r:Int}(hx:ev fr x=aj (av az m))(hy:ev fr y=aj (av az m'))(h:min m m'=r):RR P n W ⟨dst,.call {callee:= .builtin .min,args:=#[x,y],argTypes:=#[t,u]},ty,pos,after,guard⟩ fr L (av az r):= .mk λa w hr _=>by
 subst h;have h1:=hr.ev hx;have h2:=hr.ev hy;have e:(if m'<m then m' else m)=min m m':=by split<;>omega
 simp[lH,VJ,h1,h2,VK,VL,e]
theorem WA{t u:TypeId}{x y:Operand}{m m' r:Int}(hx:ev fr x=aj (av az m))(hy:ev fr y=aj (av az m'))(h:max m m'=r):RR P n W ⟨dst,.call {callee:= .builtin .max,args:=#[x,y],argTypes:=#[t,u]},ty,pos,after,guard⟩ fr L (av az r):= .mk λa w hr _=>by
 subst h;have h1:=hr.ev hx;have h2:=hr.ev hy;have e:(if m'>m then m' else m)=max m m':=by split<;>omega
 have e2:(if m<m' then m' else m)=max m m':=e;simp[lH,BigFrame.builtin_max,h1,h2,Builtin.max_,Builtin.max2,e2]
theorem Df{t:TypeId}{a b:Bool}(ht:P.underlying t=aj .bool)(d:Nat)(w:World):(lJ (d+1) t (.bool a) (.bool b)).run P w= .ok (a==b) w:=by simp[lJ,run_underlying ht]
theorem GO{t u:TypeId}{x y:Operand}{a b c:Bool}(ht:P.underlying t=aj .bool)(hx:ev fr x=aj (.bool a))(hy:ev fr y=aj (.bool b))(h:(a==b)=c):RR P n W ⟨dst,.binOp .eql t x y u,ty,pos,after,guard⟩ fr L (.bool c):= .mk λac w hr _=>by
 have e:(eqGuard .eql t x y (.bool a) (.bool b)).run P w= .ok () w:=rfl;have e2:(binOp .eql t (.bool a) (.bool b)).run P w= .ok (.bool c) w:=by
  show((Iq t (.bool a) (.bool b))>>=λr=>pure (fS r)).run P w=_
  have:(Iq t (.bool a) (.bool b)).run P w= .ok (a==b) w:=Df ht 9999 w;rw[lL,this,h];rfl
 simp[execOp,hr.ev hx,hr.ev hy,e,e2]
theorem Tb{t u:TypeId}{x y:Operand}{a b c:Bool}(ht:P.underlying t=aj .bool)(hx:ev fr x=aj (.bool a))(hy:ev fr y=aj (.bool b))(h:(!(a==b))=c):RR P n W ⟨dst,.binOp .neq t x y u,ty,pos,after,guard⟩ fr L (.bool c):= .mk λac w hr _=>by
 have e:(eqGuard .neq t x y (.bool a) (.bool b)).run P w= .ok () w:=rfl;have e2:(binOp .neq t (.bool a) (.bool b)).run P w= .ok (.bool c) w:=by
  show((Iq t (.bool a) (.bool b))>>=λr=>pure (fS (!r))).run P w=_
  have:(Iq t (.bool a) (.bool b)).run P w= .ok (a==b) w:=Df ht 9999 w;rw[lL,this];show N9 (fS (!(a==b))) w=_
  rw[h]
 simp[execOp,hr.ev hx,hr.ev hy,e,e2]
section
variable{t u:TypeId}{x y:Operand}{l l':List UInt8}
theorem Tc(ht:P.underlying t=aj .string)(hx:ev fr x=aj (str l)):RR P n W ⟨dst,.call {callee:= .builtin .len,args:=#[x],argTypes:=#[t]},ty,pos,after,guard⟩ fr L (av az l.length):= .mk λa w hr _=>by
 have Oo:=hr.ev hx;unfold str at Oo;have hsz:(r8 l.toArray).size=l.length:=dZ;simp[lH,NX,VM,Oo,run_underlying ht,goInt,hsz]
theorem adO(l:List UInt8):(r8 l.toArray).toList=l:=by
 have h:∀(m:List UInt8) (i:Nat) (r:List UInt8),i+m.length=l.length->l.drop i=m->NU ⟨l.toArray⟩ i r=r.reverse++m:=by
  intro m
  induction m with
  |nil=>
   intro i r hi _;unfold NU;rw[if_neg (by simp[xi]at*;omega)];simp
  |cons b m ih=>
   intro i r hi hd;unfold NU;have hlt:i<l.length:=by simp at hi;omega
   rw[if_pos (by simpa[xi]using hlt)];rw[eN hlt]at hd;injection hd with h1 h2
   rw[ih (i+1) _ (by simp at hi;omega) h2];have:(r8 l.toArray).get! i=b:=by simp[adx,hlt,h1]
   rw[this];simp
 unfold ady;rw[h l 0 [] (by simp) I];simp
theorem o9{b:Bool}(hx:ev fr x=aj (str l))(hy:ev fr y=aj (str l'))(h:decide (l=l')=b):RR P n W ⟨dst,.binOp .eql t x y u,ty,pos,after,guard⟩ fr L (.bool b):= .mk λa w hr _=>by
 have e:(eqGuard .eql t x y (str l) (str l')).run P w= .ok () w:=rfl;have e2:(l==l')=b:=by rw[<-h];exact Ii l l'
 unfold str at*;simp[execOp,hr.ev hx,hr.ev hy,e,binOp,VY,e2]
theorem kK{b:Bool}(hx:ev fr x=aj (str l))(hy:ev fr y=aj (str l'))(h:decide (l≠l')=b):RR P n W ⟨dst,.binOp .neq t x y u,ty,pos,after,guard⟩ fr L (.bool b):= .mk λa w hr _=>by
 have e:(eqGuard .neq t x y (str l) (str l')).run P w= .ok () w:=rfl;have e2:(!(l==l'))=b:=by rw[<-h,Ii];simp
 unfold str at*;simp[execOp,hr.ev hx,hr.ev hy,e,binOp,VY,e2]
theorem GP(hx:ev fr x=aj (str l))(hy:ev fr y=aj (str l'))(h:l.length+l'.length<=9223372036854775807):RR P n W ⟨dst,.binOp .add t x y u,ty,pos,after,guard⟩ fr L (str (l++l')):= .mk λa w hr _=>by
 have e:(eqGuard .add t x y (str l) (str l')).run P w= .ok () w:=rfl;have e2:=run_string_add_sum (P:=P) w ⟨l.toArray⟩ ⟨l'.toArray⟩ (by simpa[xi]using h);rw[adB]at e2;unfold str at*;simp[execOp,hr.ev hx,hr.ev hy,e,binOp,e2]
theorem wj{i:Int}{b:UInt8}{k:IntKind}(ht:P.underlying t=aj .string)(hx:ev fr x=aj (str l))(hy:ev fr y=aj (.int k i))(h0:0<=i)(h:l[i.toNat]?=aj b):RR P n W ⟨dst,.index t x y,ty,pos,after,guard⟩ fr L (.int .u8 b.toNat):= .mk λa w hr _=>by
 have hlt:=(cX.1 h).1;have e:(if 0<=i then(r8 l.toArray)[i.toNat]? else ak)=aj b:=by
  rw[if_pos h0];have hs:i.toNat<(r8 l.toArray).size:=by simpa[xi]using hlt
  rw[getElem?_pos (r8 l.toArray) i.toNat hs];have:=(cX.1 h).2;exact congrArg aj (by rw[<-this];rfl)
 unfold str at*;simp only[execOp,hr.ev hx,hr.ev hy,VW,asIntOf,lL,na,nW,run_underlying ht,e]
theorem tZ{lo hi:Option Operand}{i j:Int}(ht:P.underlying t=aj .string)(hx:ev fr x=aj (str l))(Ri:match lo with|none=>i=0|some z=>∃k,ev fr z=aj (.int k i))(Td:match hi with|none=>j=l.length|some z=>∃k,ev fr z=aj (.int k j))
 (h0:0<=i) (h1:i<=j) (h2:j<=l.length):RR P n W ⟨dst,.slice t x lo hi ak,ty,pos,after,guard⟩ fr L (str ((l.take j.toNat).drop i.toNat)):= .mk λa w hr _=>by
 have hsz:(r8 l.toArray).size=l.length:=by simp[xi]
 have ex:∀p q,(r8 l.toArray).extract p q=⟨((l.take q).drop p).toArray⟩:=λp q=>by
  apply adz;simp[adA,List.extract_eq_take_drop,Od]
 have h2':j<=((r8 l.toArray).size:Int):=by rw[hsz];exact h2
 have h0j:0<=j:=by omega
 have ej:(j.toNat:Int)=j:=Int.toNat_of_nonneg h0j;unfold str at*
 cases lo<;>cases hi
 ·simp only at Ri Td
  subst Ri Td;simp[execOp,hr.ev hx,sa,sb,run_underlying ht,r_]
 ·obtain⟨k,hk⟩:=Td
  simp only at Ri;subst Ri;simp[execOp,hr.ev hx,hr.ev hk,sa,sb,run_underlying ht,r_,run_sliceBound,ex,hsz,h0j,h2]
 ·obtain⟨k,hk⟩:=Ri
  simp only at Td;subst Td;simp[execOp,hr.ev hx,hr.ev hk,sa,sb,run_underlying ht,r_,run_sliceBound,ex,hsz,h0,h1]
 ·obtain⟨k,hk⟩:=Ri
  obtain⟨k',mT⟩:=Td;have h1':i<=(j.toNat:Int):=by omega
  have hb:=λc=>run_sliceBound (P:=P) w k i j.toNat c h0 h1';simp[execOp,hr.ev hx,hr.ev hk,hr.ev mT,sa,sb,run_underlying ht,r_,run_sliceBound w k' j,hb,ex,hsz,h0j,h2]
theorem Dg{z:Operand}{k:IntKind}{i:Nat}(ht:P.underlying t=aj .string)(hx:ev fr x=aj (str l))(hz:ev fr z=aj (.int k (i:Int)))(h:i<=l.length):RR P n W ⟨dst,.slice t x (aj z) ak ak,ty,pos,after,guard⟩ fr L (str (l.drop i)):=by
 have:=tZ (P:=P) (n:=n) (W:=W) (fr:=fr) (L:=L) (dst:=dst) (ty:=ty) (pos:=pos) (after:=after) (guard:=guard) (lo:=aj z) (hi:=ak) (i:=(i:Int)) (j:=(l.length:Int)) ht hx ⟨k,hz⟩ I J J J
 rwa [dq,dq,gB (bx _)]at this
theorem Oq{z:Operand}{k:IntKind}{j:Nat}(ht:P.underlying t=aj .string)(hx:ev fr x=aj (str l))(hz:ev fr z=aj (.int k (j:Int)))(h:j<=l.length):RR P n W ⟨dst,.slice t x ak (aj z) ak,ty,pos,after,guard⟩ fr L (str (l.take j)):=by
 have:=tZ (P:=P) (n:=n) (W:=W) (fr:=fr) (L:=L) (dst:=dst) (ty:=ty) (pos:=pos) (after:=after) (guard:=guard) (lo:=ak) (hi:=aj z) (i:=0) (j:=(j:Int)) ht hx I ⟨k,hz⟩ J J J
 rwa [dq,Int.toNat_zero,List.drop_zero]at this
theorem Te{z z':Operand}{k k':IntKind}{i j:Nat}(ht:P.underlying t=aj .string)(hx:ev fr x=aj (str l))(hz:ev fr z=aj (.int k (i:Int)))(hz':ev fr z'=aj (.int k' (j:Int)))(h0:i<=j)(h:j<=l.length):RR P n W ⟨dst,.slice t x (aj z) (aj z') ak,ty,pos,after,guard⟩ fr L (str ((l.drop i).take (j-i))):=by
 have:=tZ (P:=P) (n:=n) (W:=W) (fr:=fr) (L:=L) (dst:=dst) (ty:=ty) (pos:=pos) (after:=after) (guard:=guard) (lo:=aj z) (hi:=aj z') (i:=(i:Int)) (j:=(j:Int)) ht hx ⟨k,hz⟩ ⟨k',hz'⟩ J J J
 rwa [dq,dq,Od]at this
end
end
end cI
namespace cI
open Go.RowKit cU dS
section
variable{P:Program}{n:Nat}{W:bO}{fr:Fr}{L:List cH}{dst:Option Tmp}{ty:TypeId}{pos:String}{after:Array Edge}{guard:Option (Nat×Bool)}
def At(W:bO)(L:List cH)(p:Addr)(v:Value):Prop:=∀w,Mem W L w->w.cell? p=aj v
theorem kh{W:World}{p:Addr}{v:Value}(h:W.cell? p=aj v):At W L p v:=λ_ hm=>hm.cell h
theorem iC{W0:World}{p:Addr}{v:Value}(ho:pZ W0 W)(h:W0.cell? p=aj v):At W L p v:=λ_ hm=>ho.cell hm h
theorem aH{i g off:Nat}{cs:Array Value}{T:TypeId}{v:Value}(hi:L[i]?=aj (aP g cs T))(hv:cs[off]?=aj v):At W L ⟨g,off,ak⟩ v:=λw hm=>by
 rw[cell_of_row w g off cs T (0,0) (hm.get hi)];exact hv
theorem ki{i g off size cap m k:Nat}{e:TypeId}{xs:List Value}{v:Value}(hi:L[i]?=aj (a_ e size (ap (aj ⟨g,0,ak⟩) m cap) k xs))(hv:xs[off]?=aj v):At W L ⟨g,off,ak⟩ v:=λw hm=>by
 have h:w.ownsRow 0 e size (ap (aj ⟨g,0,ak⟩) m cap) k xs:=hm.get hi;have:=h.cells (g:=g) I off v hv
 rwa [eI,cV]at this
theorem iI{W:World}{b off j:Nat}{xs:List Value}{v:Value}(h:Rd W b off xs)(hv:xs[j]?=aj v):At W L ⟨b,off+j,ak⟩ v:=kh (h j v hv)
theorem aC{t:TypeId}{x:Operand}{p:Addr}{c:Nat}{v:Value}(hT:Ty P t aE c)(hx:ev fr x=aj (aJ (aj p)))(h:At W L p v):RR P n W ⟨dst,.load t x,ty,pos,after,guard⟩ fr L v:= .mk λa w hr hm=>by
 simp[execOp,hr.ev hx,VV,xl,loadVar,hT.agg,h w hm]
theorem a8{t:TypeId}{x:Operand}{b off c:Nat}{cs:List Value}(hT:Ty P t aD c)(hx:ev fr x=aj (aJ (aj ⟨b,off,ak⟩)))(hl:cs.length=c)(h:∀j v,cs[j]?=aj v->At W L ⟨b,off+j,ak⟩ v):RR P n W ⟨dst,.load t x,ty,pos,after,guard⟩ fr L (aQ cs.toArray):= .mk λa w hr hm=>by
 subst hl;have:=run_loadCells_list (P:=P) w ⟨b,off,ak⟩ cs λj v hj=>by rw[eI];exact h j v hj w hm
 simp[execOp,hr.ev hx,VV,xl,loadVar,hT.agg,hT.size,this]
theorem aO{t:TypeId}{x:Operand}{i g c:Nat}{cs:Array Value}{T:TypeId}(hT:Ty P t aD c)(hx:ev fr x=aj (aJ (aj ⟨g,0,ak⟩)))(hi:L[i]?=aj (aP g cs T))(hl:cs.size=c):RR P n W ⟨dst,.load t x,ty,pos,after,guard⟩ fr L (.agg cs):=by
 have:=a8 (P:=P) (n:=n) (W:=W) (L:=L) (dst:=dst) (ty:=ty) (pos:=pos) (after:=after) (guard:=guard) (cs:=cs.toList) hT hx (by simpa using hl) λj v hj=>by rw[cV];exact aH hi (by simpa using hj)
 simpa using this
theorem WB{W:World}{α:Type}{f:α->Value}{b off j:Nat}{l:List α}(h:Rd W b off (l.map f))(hj:j<l.length):At W L ⟨b,off+j,ak⟩ (f l[j]):=iI h (by simp[hj])
structure Fld(P:Program)(s:TypeId)(f o:Nat):Prop where
 run:∀(a:Addr) w,(VT s (aJ (aj a)) f).run P w= .ok (aJ (aj (a.add o))) w
def afv(P:Program)(s:TypeId)(f o:Nat):Bool:=
 match P.underlying s with
 |some (.struct fs)=>(match fs[f]? with|some d=>fx d.offset o&&(match P.info? d.type with|some i=>!(fx i.size 0)|none=>aE)|none=>aE)
 |_=>aE
theorem Fld.of{P:Program}{s:TypeId}{f o:Nat}(h:afv P s f o=aD):Fld P s f o:=by
 unfold afv at h
 cases e:P.underlying s with
 |none=>rw[e]at h;cases h
 | some d=>
  rw[e]at h
  cases d<;>try (cases h;done)
  rename_i fs
  simp only at h
  cases e2:fs[f]? with
  |none=>rw[e2]at h;cases h
  | some d=>
   rw[e2]at h;simp only[fc]at h;obtain⟨h1,h2⟩:=h;obtain rfl:=kf h1
   cases e3:P.info? d.type with
   |none=>rw[e3]at h2;cases h2
   | some i=>
    rw[e3]at h2;simp only[C0]at h2;have:=Is h2;exact⟨λa w=>by simp[VT,run_underlying e,e2,xl,fieldPlace,sizeOf,typeInfo,e3,this]⟩
theorem KZ{s:TypeId}{x:Operand}{f o b off r:Nat}(hf:Fld P s f o)(hx:ev fr x=aj (aJ (aj ⟨b,off,ak⟩)))(hr:off+o=r):RR P n W ⟨dst,.fieldAddr s x f,ty,pos,after,guard⟩ fr L (aJ (aj ⟨b,r,ak⟩)):= .mk λa w h _=>by
 subst hr;simp[execOp,h.ev hx,hf.run,eI]
theorem WC{t e:TypeId}{x y:Operand}{agg:Bool}{c b off len cap r:Nat}{k:IntKind}{i:Int}(ht:P.underlying t=aj (.slice e))(he:Ty P e agg c)(hx:ev fr x=aj (ap (aj ⟨b,off,ak⟩) len cap))(hy:ev fr y=aj (.int k i))(h0:0<=i)(h1:i<len)(hr:off+i.toNat*c=r):
 RR P n W ⟨dst,.indexAddr t x y,ty,pos,after,guard⟩ fr L (aJ (aj ⟨b,r,ak⟩)):= .mk λa w h _=>by
 subst hr;simp[execOp,h.ev hx,h.ev hy,VU,asIntOf,run_underlying ht,he.size,h0,h1,eI]
theorem cz{t e:TypeId}{x y:Operand}{agg:Bool}{b off len cap j:Nat}{k:IntKind}(ht:P.underlying t=aj (.slice e))(he:Ty P e agg 1)(hx:ev fr x=aj (ap (aj ⟨b,off,ak⟩) len cap))(hy:ev fr y=aj (.int k (j:Int)))(h1:j<len):
 RR P n W ⟨dst,.indexAddr t x y,ty,pos,after,guard⟩ fr L (aJ (aj ⟨b,off+j,ak⟩)):=WC ht he hx hy J J (by simp)
theorem aX{t e:TypeId}{x y:Operand}{agg:Bool}{c b off len cap j:Nat}{k:IntKind}(ht:P.underlying t=aj (.slice e))(he:Ty P e agg c)(hx:ev fr x=aj (ap (aj ⟨b,off,ak⟩) len cap))(hy:ev fr y=aj (.int k (j:Int)))(h1:j<len):
 RR P n W ⟨dst,.indexAddr t x y,ty,pos,after,guard⟩ fr L (aJ (aj ⟨b,off+j*c,ak⟩)):=WC ht he hx hy J J (by simp)
theorem aaK{t e:TypeId}{x y:Operand}{agg:Bool}{c b off len r:Nat}{k:IntKind}{i:Int}(ht:P.underlying t=aj (.array len e))(he:Ty P e agg c)(hx:ev fr x=aj (aJ (aj ⟨b,off,ak⟩)))(hy:ev fr y=aj (.int k i))(h0:0<=i)(h1:i<len)(hr:off+i.toNat*c=r):
 RR P n W ⟨dst,.indexAddr t x y,ty,pos,after,guard⟩ fr L (aJ (aj ⟨b,r,ak⟩)):= .mk λa w h _=>by
 subst hr;simp[execOp,h.ev hx,h.ev hy,VU,asIntOf,run_underlying ht,he.size,h0,h1,eI,xl]
theorem hJ{t e:TypeId}{x y:Operand}{agg:Bool}{b off len j:Nat}{k:IntKind}(ht:P.underlying t=aj (.array len e))(he:Ty P e agg 1)(hx:ev fr x=aj (aJ (aj ⟨b,off,ak⟩)))(hy:ev fr y=aj (.int k (j:Int)))(h1:j<len):
 RR P n W ⟨dst,.indexAddr t x y,ty,pos,after,guard⟩ fr L (aJ (aj ⟨b,off+j,ak⟩)):=aaK ht he hx hy J J (by simp)
theorem jt{t e:TypeId}{x y:Operand}{len j:Nat}{k:IntKind}{cs:Array Value}{v:Value}(ht:P.underlying t=aj (.array len e))(he:Ty P e aE 1)(hx:ev fr x=aj (.agg cs))(hy:ev fr y=aj (.int k (j:Int)))(h1:j<len)(hv:cs[j]?=aj v):
 RR P n W ⟨dst,.index t x y,ty,pos,after,guard⟩ fr L v:= .mk λa w h _=>by
 have h0:(0:Int)<=(j:Int)/\(j:Int)<(len:Int):=by omega
 simp[execOp,h.ev hx,h.ev hy,VW,asIntOf,run_underlying ht,he.size,h1,part,he.agg,hv]
theorem Ot{t e:TypeId}{x:Operand}{p:Option Addr}{m cap:Nat}(ht:P.underlying t=aj (.slice e))(hx:ev fr x=aj (ap p m cap)):RR P n W ⟨dst,.call {callee:= .builtin .len,args:=#[x],argTypes:=#[t]},ty,pos,after,guard⟩ fr L (av az m):= .mk λa w hr _=>by
 have Oo:=hr.ev hx;simp[lH,NX,VM,Oo,run_underlying ht,goInt]
theorem e8{t e e':TypeId}{x:Operand}{i size m:Nat}{v:Value}{xs:List Value}(ht:P.underlying t=aj (.slice e))(hi:L[i]?=aj (a_ e' size v m xs))(hx:ev fr x=aj v):RR P n W ⟨dst,.call {callee:= .builtin .len,args:=#[x],argTypes:=#[t]},ty,pos,after,guard⟩ fr L (av az m):= .mk λa w hr hm=>by
 have h:w.ownsRow 0 e' size v m xs:=hm.get hi;rcases h.2 with⟨rfl,rfl⟩|⟨g,cap,jS,rfl,_⟩
 exact(Ot (P:=P) (W:=W) (L:=L) ht hx).go a w hr hm;exact(Ot (P:=P) (W:=W) (L:=L) ht hx).go a w hr hm
def SlL(W:bO)(L:List cH)(v:Value)(m:Nat)(xs:List Value):Prop:=∀w,Mem W L w->Sl w v m xs
theorem adP{W:World}{v:Value}{m:Nat}{xs:List Value}(h:Sl W v m xs):SlL W L v m xs:=λw hm=>by
 obtain⟨base,cap,h1,h2,h3,h4⟩:=h;exact⟨base,cap,h1,h2,h3,λhn=>let ⟨b,off,h5,h6⟩:=h4 hn;⟨b,off,h5,λj u hj=>hm.cell (h6 j u hj)⟩⟩
theorem lR{i size m:Nat}{e:TypeId}{v:Value}{xs:List Value}(hi:L[i]?=aj (a_ e size v m xs)):SlL W L v m xs:=λ_ hm=>Sl.dB (hm.get hi)
section
variable{Q:Exit->Act->World->Prop}{ops:Array Oper}{rest:List Oper}{d:Nat}
theorem bR{t:TypeId}{x:Operand}{v:Value}{cs:Array Value}(hx:ev fr x=aj v)(hv:v.cells=cs)(hn:dv d n=aD)(h:∀g,TL P n W ops Q rest ((d,aJ (aj ⟨g,0,ak⟩))::fr) (L++[aP g cs t])):
 TL P n W ops Q (⟨aj d,.box t x,ty,pos,after,ak⟩::rest) fr L:=kJ I λa w hr hm K hK=>by
 subst hv;have e:(execOp a.eval ⟨aj d,.box t x,ty,pos,after,ak⟩).run P w= .ok (.value (aJ (aj ⟨w.heap.size,0,ak⟩))) (w.alloc (.cells v.cells t)):=by
  simp[execOp,hr.ev hx,Instr.box,newVar,newRow]
 unfold fR;rw[e];exact hK _ _ ((h w.heap.size).go _ _ (hr.put hn _) (hm.append (Tf w _) (ng.one (heap_alloc_new w _) λk hk=>by simp only[aP,df]at hk;omega)))
where
 Tf (w:World) (o:Obj):Gr w (w.alloc o):=(Below.refl _ _).alloc (bx _) _
theorem nH(w:World)(o:Obj):Gr w (w.alloc o):=(Below.refl _ _).alloc (bx _) _
theorem WD{t:TypeId}{i:TypeInfo}{z:Value}{cs:Array Value}(hi:P.info? t=aj i)(hz:i.zero=aj z)(hv:z.cells=cs)(hn:dv d n=aD)(h:∀g,TL P n W ops Q rest ((d,aJ (aj ⟨g,0,ak⟩))::fr) (L++[aP g cs t])):
 TL P n W ops Q (⟨aj d,.alloc t,ty,pos,after,ak⟩::rest) fr L:=kJ I λa w hr hm K hK=>by
 subst hv;have e:(execOp a.eval ⟨aj d,.alloc t,ty,pos,after,ak⟩).run P w= .ok (.value (aJ (aj ⟨w.heap.size,0,ak⟩))) (w.alloc (.cells z.cells t)):=by
  simp[execOp,Instr.alloc,zeroValue,typeInfo,hi,hz,newVar,newRow]
 unfold fR;rw[e];exact hK _ _ ((h w.heap.size).go _ _ (hr.put hn _) (hm.append (nH w _) (ng.one (heap_alloc_new w _) λk hk=>by simp only[aP,df]at hk;omega)))
theorem Ou{t e:TypeId}{m:Nat}{parts:Array (Nat×Operand)}{cs:Array Value}(hrun:∀a w,ny n a fr->(tO t m (parts.map λ(i,x)=>(i,a.eval x))).run P w= .ok (ap (aj ⟨w.heap.size,0,ak⟩) m m) (w.alloc (.cells cs e)))(hn:dv d n=aD)
 (h:∀g,TL P n W ops Q rest ((d,ap (aj ⟨g,0,ak⟩) m m)::fr) (L++[aP g cs e])):
 TL P n W ops Q (⟨aj d,.buildSlice t m parts,ty,pos,after,ak⟩::rest) fr L:=kJ I λa w hr hm K hK=>by
 have e':(execOp a.eval ⟨aj d,.buildSlice t m parts,ty,pos,after,ak⟩).run P w= .ok (.value (ap (aj ⟨w.heap.size,0,ak⟩) m m)) (w.alloc (.cells cs e)):=by
  simp only[execOp,lL,hrun a w hr,nW,na]
 unfold fR;rw[e'];exact hK _ _ ((h w.heap.size).go _ _ (hr.put hn _) (hm.append (nH w _) (ng.one (heap_alloc_new w _) λk hk=>by simp only[aP,df]at hk;omega)))
theorem WE{t e:TypeId}{i:TypeInfo}{z v:Value}{c:Nat}(ht:P.underlying t=aj (.slice e))(hi:P.info? e=aj i)(hz:i.zero=aj z)(hc:i.size=c)(hzc:z.cells.size=c)(hv:v.cells.size=c)(h0:0<c)(hs:c<=16777216)(w:World):
 (tO t 1 #[(0,v)]).run P w= .ok (ap (aj ⟨w.heap.size,0,ak⟩) 1 1) (w.alloc (.cells v.cells e)):=by
 have t_:jB (λi=>aj (i*c,c)) ((CY (1*c)).map (z.cells[· %z.cells.size]!)) [(0,v)]=aj v.cells:=by
  simp only[jB,hv,It,cV,Array.size_map,Array.size_range,tU];rw[if_neg (by simp)]
  congr 1
  have key:∀(l:List Value) (k:Nat) (acc:Array Value),k+l.length=acc.size->(l.zipIdx k).foldl (λcs (x:Value×Nat)=>cs.setIfInBounds (0+x.2) x.1) acc=(acc.toList.take k++l).toArray:=by
   intro l
   induction l with
   | nil=>
    intro k acc h;simp at h;simp only[List.zipIdx_nil,List.foldl_nil,dW];rw[gB (by simp;omega)]
   | cons x l ih=>
    intro k acc h;simp only[de]at h;rw[Ir,List.foldl_cons,ih (k+1) _ (by simp;omega)];simp only[cV,Ih]
    congr 1
    rw[List.take_succ_eq_append_getElem (by simp;omega)];simp[We];rw[List.set_eq_of_length_le (by simp;omega)]
  have:=key v.cells.toList 0 ((CY c).map (z.cells[· %z.cells.size]!)) (by simp[hv])
  simp only[nY,eu,xf]at this;rw[<-Array.foldl_toList]
  simpa[Array.toList_zipIdx]using this
 have hne:¬(1*c>2^24):=by omega
 have WG:¬(1*c=0):=by omega
 simp only[tO,lL,run_underlying ht,nW,sizeOf,typeInfo,run_program,hi,na,hc,zeroValue,hz,if_neg hne,if_neg WG,t_,newRow];simp[newRow]
theorem aaL{t e:TypeId}{x:Operand}{i:TypeInfo}{z v:Value}{c:Nat}{cs:Array Value}(ht:P.underlying t=aj (.slice e))(hi:P.info? e=aj i)(hz:i.zero=aj z)(hc:i.size=c)(hzc:z.cells.size=c)(hx:ev fr x=aj v)(hcs:v.cells=cs)(hv:cs.size=c)(h0:0<c)(hs:c<=16777216)(hn:dv d n=aD)
 (h:∀g,TL P n W ops Q rest ((d,ap (aj ⟨g,0,ak⟩) 1 1)::fr) (L++[aP g cs e])):TL P n W ops Q (⟨aj d,.buildSlice t 1 #[(0,x)],ty,pos,after,ak⟩::rest) fr L:=by
 subst hcs;exact Ou (λa w hr=>by simpa[hr.ev hx]using WE ht hi hz hc hzc hv h0 hs w) hn h
theorem n0{t ty e:TypeId}{i:TypeInfo}{z:Value}{size bytes:Nat}(ht:P.underlying t=aj (.slice e))(hi:P.info? e=aj i)(hz:i.zero=aj z)(l8:i.size=size)(KG:i.bytes=bytes)(Ov:z.cells.size=size)(hsz:0<size)(w:World)
 {v:Value} {m:Nat} {xs:List Value} (mf:w.ownsRow 0 e size v m xs) {a:Addr} {k c:Nat} {news:List Value} (hl:news.length=k*size) (Bl:∀j u,news[j]?=aj u->w.cell? (a.add j)=aj u) (h1:∀u∈news,u.oneCell'=aD)
 (ra:m+k<=maxLen) (Al:(m+k)*bytes<=140737488355328):
 ∃v' w',(tL #[t,t] ty #[v,ap (aj a) k c]).run P w= .ok v' w'/\w'.ownsRow 0 e size v' (m+k) (xs++news)/\w.grownBy w' v.ownBlock/\(∀q,v'.ownBlock=aj q->v.ownBlock=aj q\/w.heap.size<=q):=by
 obtain⟨v',w',hr,h2,h3,h4⟩:=run_append_own (P:=P) w 0 t ty e i z size bytes ht hi hz l8 KG Ov hsz v m xs mf a k c news hl Bl h1 ra Al (bH _);refine⟨v',w',hr,h2,h3,λq hq=>?_⟩;have afw:((m+k:Nat):Int)<=9223372036854775807:=by simp only[maxLen]at ra;omega
 rcases mf.2 with⟨rfl,rfl⟩|⟨g,cap,jS,rfl,B2,hg,hnc,Ow,hcs,yH⟩
 ·by_cases hk:k=0
  rw[h4.2 ⟨rfl,hk⟩]at hq;cases hq;have wk:=run_append_nil (P:=P) w t ty e i z ht hi hz a k c news (by rw[l8];exact hl) Bl J J (by rw[KG];have hb:=Al;simp only[cV]at hb;omega);rw[hr]at wk;injection wk with e1 _
  subst e1;simp only[sd,df]at hq;exact .inr J
 ·by_cases hroom:m+k<=cap
  ·have Dh:m*i.size+news.length<=jS.size:=by rw[hl,hcs,l8,<-jq];exact oP _ hroom
   have wk:=run_append_room (P:=P) w t ty e i ht hi g m cap jS hg a k c news (by rw[l8];exact hl) Bl h1 hroom Dh;rw[hr]at wk;injection wk with e1 _
   subst e1;exact .inl hq
  have holds:∀j u,xs[j]?=aj u->w.cell? ((⟨g,0,ak⟩:Addr).add j)=aj u:=mf.cells (g:=g) I;have wk:=run_append_grow (P:=P) w t ty e i z ht hi hz ⟨g,0,ak⟩ m cap xs (by rw[l8];exact mf.1) holds a k c news (by rw[l8];exact hl) Bl J J (growslice_fits J (by rw[KG];exact Al));rw[hr]at wk;injection wk with e1 _
  subst e1;simp only[sd,df]at hq;exact .inr J
structure El(P:Program)(t e:TypeId)(size bytes:Nat):Prop where
 ex:∃i z,P.underlying t=aj (.slice e)/\P.info? e=aj i/\i.zero=aj z/\i.size=size/\i.bytes=bytes/\z.cells.size=size/\0<size
def elB(P:Program)(t e:TypeId)(size bytes:Nat):Bool:=
 (match P.underlying t with|some (.slice e')=>fx e' e|_=>aE)&&(match P.info? e with|some i=>fx i.size size&&fx i.bytes bytes&&(match i.zero with|some z=>fx z.cells.size size|none=>aE)|none=>aE)&&dv 0 size
theorem El.of{t e:TypeId}{size bytes:Nat}(h:elB P t e size bytes=aD):El P t e size bytes:=by
 unfold elB at h;simp only[fc]at h;obtain⟨⟨h1,h2⟩,h3⟩:=h
 cases e1:P.underlying t with
 |none=>rw[e1]at h1;cases h1
 | some d=>
  rw[e1]at h1
  cases d<;>try (cases h1;done)
  rename_i e'
  obtain rfl:=kf h1
  cases e2:P.info? e' with
  |none=>rw[e2]at h2;cases h2
  | some i=>
   rw[e2]at h2;simp only[fc]at h2;obtain⟨⟨h4,h5⟩,h6⟩:=h2
   cases e3:i.zero with
   |none=>rw[e3]at h6;cases h6
   | some z=>
    rw[e3]at h6;exact⟨i,z,e1,e2,e3,kf h4,kf h5,kf h6,nf h3⟩
theorem Tg{t e:TypeId}{s x:Operand}{i size bytes m k c:Nat}{v:Value}{xs ys:List Value}{a:Addr}(tr:El P t e size bytes)(hi:L[i]?=aj (a_ e size v m xs))(hs:ev fr s=aj v)(hx:ev fr x=aj (ap (aj a) k c))
 (hy:∀j u,ys[j]?=aj u->At W L (a.add j) u) (hl:ys.length=k*size) (h1:∀u∈ys,u.oneCell'=aD) (ra:m+k<=140737488355328) (hb:(m+k)*bytes<=140737488355328) (hn:dv d n=aD)
 (h:∀v',TL P n W ops Q rest ((d,v')::fr) (L.set i (a_ e size v' (m+k) (xs++ys)))):
 TL P n W ops Q (⟨aj d,.call {callee:= .builtin .append,args:=#[s,x],argTypes:=#[t,t]},ty,pos,after,ak⟩::rest) fr L:=kJ I λact w hr hm K hK=>by
 obtain⟨inf,z,ht,yI,hz,l8,KG,Ov,hsz⟩:=tr.ex;obtain⟨v',w',hrun,h2,h3,h4⟩:=n0 (ty:=ty) (c:=c) ht yI hz l8 KG Ov hsz w (hm.get hi:w.ownsRow 0 e size v m xs) hl (λj u hj=>hy j u hj w hm) h1 (by unfold maxLen;omega) hb;have e':(execOp act.eval ⟨aj d,.call {callee:= .builtin .append,args:=#[s,x],argTypes:=#[t,t]},ty,pos,after,ak⟩).run P w= .ok (.value v') w':=by
  simp only[lH,r9,Oa,gh,qI,hr.ev hs,hr.ev hx,lL,hrun,nW,na]
 unfold fR;rw[e'];exact hK _ _ ((h v').go _ _ (hr.put hn _) (hm.B1 hi h3 h2 h4))
theorem IB{t e:TypeId}{s x:Operand}{i size bytes m k c:Nat}{v:Value}{xs ys:List Value}{p:Addr}{act:Act}{w:World}(tr:El P t e size bytes)(hi:L[i]?=aj (a_ e size v m xs))(hs:ev fr s=aj v)(hx:ev fr x=aj (ap (aj p) k c))
 (hy:∀j u,ys[j]?=aj u->w.cell? (p.add j)=aj u) (hl:ys.length=k*size) (h1:∀u∈ys,u.oneCell'=aD) (ra:m+k<=140737488355328) (hb:(m+k)*bytes<=140737488355328) (hn:dv d n=aD)
 (h:∀v',TL P n W ops Q rest ((d,v')::fr) (L.set i (a_ e size v' (m+k) (xs++ys)))) (hr:ny n act fr) (hm:Mem W L w):
 wpList P ops Q (⟨aj d,.call {callee:= .builtin .append,args:=#[s,x],argTypes:=#[t,t]},ty,pos,after,ak⟩::rest) act w:=by
 refine wpList_plain I λK hK=>?_;obtain⟨inf,z,ht,yI,hz,l8,KG,Ov,hsz⟩:=tr.ex;obtain⟨v',w',hrun,h2,h3,h4⟩:=n0 (ty:=ty) (c:=c) ht yI hz l8 KG Ov hsz w (hm.get hi:w.ownsRow 0 e size v m xs) hl hy h1 (by unfold maxLen;omega) hb;have e':(execOp act.eval ⟨aj d,.call {callee:= .builtin .append,args:=#[s,x],argTypes:=#[t,t]},ty,pos,after,ak⟩).run P w= .ok (.value v') w':=by
  simp only[lH,r9,Oa,gh,qI,hr.ev hs,hr.ev hx,lL,hrun,nW,na]
 unfold fR;rw[e'];exact hK _ _ ((h v').go _ _ (hr.put hn _) (hm.B1 hi h3 h2 h4))
theorem Ox{t e:TypeId}{s x:Operand}{i size bytes m c:Nat}{v:Value}{xs:List Value}(tr:El P t e size bytes)(hi:L[i]?=aj (a_ e size v m xs))(hs:ev fr s=aj v)(hx:ev fr x=aj (ap ak 0 c))(hn:dv d n=aD)
 (h:TL P n W ops Q rest ((d,v)::fr) L):
 TL P n W ops Q (⟨aj d,.call {callee:= .builtin .append,args:=#[s,x],argTypes:=#[t,t]},ty,pos,after,ak⟩::rest) fr L:=kJ I λact w hr hm K hK=>by
 obtain⟨inf,z,ht,yI,hz,l8,KG,Ov,hsz⟩:=tr.ex;have mf:w.ownsRow 0 e size v m xs:=hm.get hi;have e':(execOp act.eval ⟨aj d,.call {callee:= .builtin .append,args:=#[s,x],argTypes:=#[t,t]},ty,pos,after,ak⟩).run P w= .ok (.value v) w:=by
  rcases mf.2 with⟨rfl,rfl⟩|⟨g,cap,jS,rfl,B2,hg,hnc,Ow,hcs,yH⟩
  simp[lH,r9,hr.ev hs,hr.ev hx,tL,run_underlying ht,sizeOf,typeInfo,yI,zX,C2];simp[lH,r9,hr.ev hs,hr.ev hx,tL,run_underlying ht,sizeOf,typeInfo,yI,zX,C2,loadCells,hnc,storeCells]
 unfold fR;rw[e'];exact hK _ _ (h.go _ _ (hr.put hn _) hm)
theorem t'{t:TypeId}{p x:Operand}{i g off c:Nat}{cs cs':Array Value}{T:TypeId}{agg:Bool}{v:Value}(hT:Ty P t agg c)(hi:L[i]?=aj (aP g cs T))(hp:ev fr p=aj (aJ (aj ⟨g,off,ak⟩)))(hx:ev fr x=aj v)(hv:v.cells.size=c)(h1:v.cells.toList.all eZ=aD)
 (Dh:off+c<=cs.size) (hcs:cs'=(cs.toList.take off++v.cells.toList++cs.toList.drop (off+c)).toArray) (h:TL P n W ops Q rest fr (L.set i (aP g cs' T))):
 TL P n W ops Q (⟨ak,.store t p x,ty,pos,after,ak⟩::rest) fr L:=kJ I λact w hr hm K hK=>by
 have hg:w.heap[g]?=aj (.cells cs T (0,0)):=hm.get hi;have hst:=run_storeCells_at P g off T v.cells.toList 0 cs w hg (by simp[hv];omega) (nc.1 h1);simp only[jC,lG,hv]at hst;rw[<-hcs]at hst;have e':(execOp act.eval ⟨ak,.store t p x,ty,pos,after,ak⟩).run P w= .ok .skip (w.setRow g cs'):=by
  simp[execOp,hr.ev hp,hr.ev hx,NZ,xl,storeVar,hT.size,hv,hst]
 unfold fR;rw[e'];exact hK _ _ (h.go _ _ (hr.tX undef) (hm.B1 hi ⟨rfl,rfl,rfl,by simp,λk _ hk=>setRow_other w g k _ (λe=>hk (by subst e;rfl))⟩ (setRow_heap w g cs _ T _ hg) λk hk=> .inl hk))
theorem l9{t:TypeId}{p x:Operand}{i g off c size cap m k:Nat}{xs:List Value}{e:TypeId}{v:Value}(hT:Ty P t aE c)(hi:L[i]?=aj (a_ e size (ap (aj ⟨g,0,ak⟩) m cap) k xs))(hp:ev fr p=aj (aJ (aj ⟨g,off,ak⟩)))(hx:ev fr x=aj v)(hv:v.cells=#[v])(hc:c=1)(h1:v.oneCell'=aD)
 (Dh:off<xs.length) (h:TL P n W ops Q rest fr (L.set i (a_ e size (ap (aj ⟨g,0,ak⟩) m cap) k (xs.set off v)))):
 TL P n W ops Q (⟨ak,.store t p x,ty,pos,after,ak⟩::rest) fr L:=kJ I λact w hr hm K hK=>by
 subst hc;have mf:w.ownsRow 0 e size (ap (aj ⟨g,0,ak⟩) m cap) k xs:=hm.get hi;have afx:=mf;rcases mf.2 with⟨h0,_⟩|⟨g',FQ,jS,he,B2,hg,hnc,Ow,hcs,yH⟩
 ·cases h0
 simp only[iX,df,NW,and_true]at he;obtain⟨rfl,rfl,rfl⟩:=he;have hlen:xs.length=m*size:=mf.1;have adQ:off<jS.size:=by rw[hcs];exact jp J (oP size hnc)
 have hst:=run_storeCells_at P g off e [v] 0 jS w hg (by simp;omega) (by simpa using h1);simp only[jC,List.length_singleton]at hst;have tu:jS.toList.take off++[v]++jS.toList.drop (off+1)=jS.toList.set off v:=by
  rw[C6,if_pos (by simpa using adQ)];simp
 rw[tu]at hst;have e':(execOp act.eval ⟨ak,.store t p x,ty,pos,after,ak⟩).run P w= .ok .skip (w.setRow g (jS.toList.set off v).toArray):=by
  simp[execOp,hr.ev hp,hr.ev hx,NZ,xl,storeVar,hT.size,hv,hst]
 unfold fR;rw[e'];refine hK _ _ (h.go _ _ (hr.tX undef) (hm.B1 hi ⟨rfl,rfl,rfl,by simp,λk _ hk=>setRow_other w g k _ (λe=>hk (by subst e;rfl))⟩ ?_ λk hk=> .inl hk));refine⟨by rw[List.length_set];exact mf.1,.inr ⟨g,cap,_,rfl,B2,setRow_heap w g jS _ e _ hg,hnc,Ow,by simp[hcs],?_⟩⟩;simp only[We];rw[yH]
theorem Th{t u e:TypeId}{x:Operand}{m:Nat}{v:Value}{l:List UInt8}(ht:P.underlying t=aj (.slice e))(he:P.underlying e=aj (.int .u8))(hu:P.underlying u=aj .string)(hx:ev fr x=aj v)(hm:m=l.length)(h:SlL W L v m (l.map Wl)):RR P n W ⟨dst,.convert t u x,ty,pos,after,guard⟩ fr L (str l):= .mk λa w hr tv=>by
 subst hm;have Oo:=hr.ev hx;obtain⟨base,cap,rfl,_,_,eL⟩:=h w tv;have e':(convert t u (ap base l.length cap)).run P w= .ok (str l) w:=by
  cases l with
  |nil=>
   cases base with
   |none=>simp[convert,run_underlying ht,run_underlying hu,run_underlying he,VP,str];rfl
   |some p=>simp[convert,run_underlying ht,run_underlying hu,run_underlying he,VP,str,loadCells,loadCellsFrom];rfl
  |cons b l=>
   obtain⟨g,off,rfl,hh⟩:=eL (by simp);exact KT ht he hu I hh
 simp only[execOp,Oo,lL,e',nW,na]
end
def Enters(P:Program)(f:FuncId):Prop:=∀args w,(callFunc f args).run P w= .ok (.enter f args) w
def Rj(P:Program)(f:FuncId):Bool:=match P.funcs[f]? with|some fn=>fn.body.isSome&&!(fn.name== "runtime.NumGoroutine")|none=>aE
theorem Enters.of{f:FuncId}(h:Rj P f=aD):Enters P f:=by
 unfold Rj at h
 cases e:P.funcs[f]? with
 |none=>rw[e]at h;cases h
 |some fn=>
  rw[e]at h;simp only[fc,C0]at h;intro args w;have h1:¬fn.body=none:=λhb=>by rw[hb]at h;simp at h
  have h2:¬fn.name= "runtime.NumGoroutine" :=by simpa using h.2
  simp[callFunc,e,h2,h1]
section
variable{f:FuncId}{ts:Array TypeId}{cl x1 x2 x3 x4 x5:Operand}{v1 v2 v3 v4 v5:Value}{first cap:Array Value}
theorem he0(hf:Enters P f)(hc:ev fr cl=aj (.func (.func f) #[] #[])):∀a w,ny n a fr->(execOp a.eval ⟨dst,.call {callee:= .value cl,args:=#[],argTypes:=ts},ty,pos,after,guard⟩).run P w= .ok (.enter f #[]) w:=λa w hr=>by
 have Cq:∀args w,(callFunc f args).run P w= .ok (.enter f args) w:=hf;simp[execOp,resolve,hr.ev hc,zY,invoke,Cq]
theorem hZ(hf:Enters P f)(hc:ev fr cl=aj (.func (.func f) #[] #[]))(h1:ev fr x1=aj v1):∀a w,ny n a fr->(execOp a.eval ⟨dst,.call {callee:= .value cl,args:=#[x1],argTypes:=ts},ty,pos,after,guard⟩).run P w= .ok (.enter f #[v1]) w:=λa w hr=>by
 have Cq:∀args w,(callFunc f args).run P w= .ok (.enter f args) w:=hf;simp[execOp,resolve,hr.ev hc,hr.ev h1,zY,invoke,Cq]
theorem fO(hf:Enters P f)(hc:ev fr cl=aj (.func (.func f) #[] #[]))(h1:ev fr x1=aj v1)(h2:ev fr x2=aj v2):∀a w,ny n a fr->(execOp a.eval ⟨dst,.call {callee:= .value cl,args:=#[x1,x2],argTypes:=ts},ty,pos,after,guard⟩).run P w= .ok (.enter f #[v1,v2]) w:=λa w hr=>by
 have Cq:∀args w,(callFunc f args).run P w= .ok (.enter f args) w:=hf;simp[execOp,resolve,hr.ev hc,hr.ev h1,hr.ev h2,zY,invoke,Cq]
theorem rX(hf:Enters P f)(hc:ev fr cl=aj (.func (.func f) #[] #[]))(h1:ev fr x1=aj v1)(h2:ev fr x2=aj v2)(h3:ev fr x3=aj v3):∀a w,ny n a fr->(execOp a.eval ⟨dst,.call {callee:= .value cl,args:=#[x1,x2,x3],argTypes:=ts},ty,pos,after,guard⟩).run P w= .ok (.enter f #[v1,v2,v3]) w:=λa w hr=>by
 have Cq:∀args w,(callFunc f args).run P w= .ok (.enter f args) w:=hf;simp[execOp,resolve,hr.ev hc,hr.ev h1,hr.ev h2,hr.ev h3,zY,invoke,Cq]
theorem Ti(hf:Enters P f)(hc:ev fr cl=aj (.func (.func f) #[] #[]))(h1:ev fr x1=aj v1)(h2:ev fr x2=aj v2)(h3:ev fr x3=aj v3)(h4:ev fr x4=aj v4):∀a w,ny n a fr->(execOp a.eval ⟨dst,.call {callee:= .value cl,args:=#[x1,x2,x3,x4],argTypes:=ts},ty,pos,after,guard⟩).run P w= .ok (.enter f #[v1,v2,v3,v4]) w:=λa w hr=>by
 have Cq:∀args w,(callFunc f args).run P w= .ok (.enter f args) w:=hf;simp[execOp,resolve,hr.ev hc,hr.ev h1,hr.ev h2,hr.ev h3,hr.ev h4,zY,invoke,Cq]
theorem B3(hf:Enters P f)(hc:ev fr cl=aj (.func (.func f) first cap))(h1:ev fr x1=aj v1):∀a w,ny n a fr->(execOp a.eval ⟨dst,.call {callee:= .value cl,args:=#[x1],argTypes:=ts},ty,pos,after,guard⟩).run P w= .ok (.enter f (first++#[v1]++cap)) w:=λa w hr=>by
 have Cq:∀args w,(callFunc f args).run P w= .ok (.enter f args) w:=hf;simp[execOp,resolve,hr.ev hc,hr.ev h1,zY,invoke,Cq]
end
end
end cI
namespace cI
open Go.RowKit cU dS
class bM(P:Program)(t:TypeId)(d:outParam TypeDesc):Prop where
 eq:P.underlying t=aj d
class aK(P:Program)(t:TypeId)(agg:outParam Bool)(c:outParam Nat):Prop where
 ty:Ty P t agg c:=by exact Ty.of (by kernel_rfl)
class bK(P:Program)(t:TypeId)(f:Nat)(o:outParam Nat):Prop where
 fld:Fld P t f o:=by exact Fld.of (by kernel_rfl)
class rf(P:Program)(t:TypeId)(e:outParam TypeId)(size bytes:outParam Nat):Prop where
 el:El P t e size bytes:=by exact El.of (by kernel_rfl)
class aI(P:Program)(f:FuncId):Prop where
 en:Enters P f:=by exact Enters.of (by kernel_rfl)
class bT(P:Program)(t:TypeId)(cs:outParam (Array Value)):Prop where
 zero:(P.info? t).map (λi=>i.zero.map Value.cells)=aj (aj cs):=by kernel_rfl
section
variable{P:Program}{n:Nat}{W:bO}{fr:Fr}{L:List cH}{Q:Exit->Act->World->Prop}{ops:Array Oper}{rest:List Oper}{d:Nat}{ty:TypeId}{pos:String}{after:Array Edge}
theorem bT.ex{t:TypeId}{cs:Array Value}[h:bT P t cs]:∃i z,P.info? t=aj i/\i.zero=aj z/\z.cells=cs:=by
 have h1:=h.zero
 cases e:P.info? t with
 |none=>rw[e]at h1;simp at h1
 |some i=>
  rw[e]at h1
  cases e2:i.zero with
  |none=>simp[e2]at h1
  |some z=>simp[e2]at h1;exact⟨i,z,rfl,e2,h1⟩
theorem aY{t:TypeId}{cs:Array Value}[bT P t cs](hn:dv d n=aD)(h:∀g,TL P n W ops Q rest ((d,aJ (aj ⟨g,0,ak⟩))::fr) (L++[aP g cs t])):
 TL P n W ops Q (⟨aj d,.alloc t,ty,pos,after,ak⟩::rest) fr L:=by
 obtain⟨i,z,h1,h2,h3⟩:=bT.ex (P:=P) (t:=t);exact WD h1 h2 h3 hn h
theorem fF{t e:TypeId}{x:Operand}{v:Value}{c bytes:Nat}{cs:Array Value}[tr:rf P t e c bytes](hx:ev fr x=aj v)(hcs:v.cells=cs)(hv:cs.size=c)(hs:Ae c 16777216=aD)(hn:dv d n=aD)
 (h:∀g,TL P n W ops Q rest ((d,ap (aj ⟨g,0,ak⟩) 1 1)::fr) (L++[aP g cs e])):TL P n W ops Q (⟨aj d,.buildSlice t 1 #[(0,x)],ty,pos,after,ak⟩::rest) fr L:=by
 obtain⟨inf,z,ht,yI,hz,l8,KG,Ov,hsz⟩:=tr.el.ex;exact aaL ht yI hz l8 Ov hx hcs hv hsz (nf hs) hn h
theorem Mem.Oy{w:World}(e:TypeId)(size:Nat)(h:Mem W L w):Mem W (L++[a_ e size (ap ak 0 0) 0 []]) w:=
 h.append (Gr.refl w) (ng.one (World.ownsRow_nil _ _ _ _) λk hk=>by cases hk)
theorem jf{c:Code}(e:TypeId)(size:Nat)(h:T P n W c Q fr (L++[a_ e size (ap ak 0 0) 0 []])):T P n W c Q fr L:=⟨λa w hr hm=>h.go a w hr (hm.Oy e size)⟩
theorem wm(e:TypeId)(size:Nat)(h:TL P n W ops Q rest fr (L++[a_ e size (ap ak 0 0) 0 []])):TL P n W ops Q rest fr L:=⟨λa w hr hm=>h.go a w hr (hm.Oy e size)⟩
theorem aaM{L':List cH}(is:List Nat)(hn:is.Nodup)(hl:L'=is.filterMap λi=>L[i]?)(h:TL P n W ops Q rest fr L'):TL P n W ops Q rest fr L:=⟨λa w hr hm=>h.go a w hr (hm.pick is hn hl)⟩
theorem mw{t e:TypeId}{s x:Operand}{i q g size bytes m:Nat}{v:Value}{xs:List Value}{cs:Array Value}{T:TypeId}[tr:rf P t e size bytes](hi:L[i]?=aj (a_ e size v m xs))(hq:L[q]?=aj (aP g cs T))(hs:ev fr s=aj v)(hx:ev fr x=aj (ap (aj ⟨g,0,ak⟩) 1 1))
 (hl:cs.size=size) (h1:cs.toList.all eZ=aD) (ra:m+1<=140737488355328) (hb:(m+1)*bytes<=140737488355328) (hn:dv d n=aD)
 (h:∀v',TL P n W ops Q rest ((d,v')::fr) (L.set i (a_ e size v' (m+1) (xs++cs.toList)))):
 TL P n W ops Q (⟨aj d,.call {callee:= .builtin .append,args:=#[s,x],argTypes:=#[t,t]},ty,pos,after,ak⟩::rest) fr L:=
 Tg tr.el hi hs hx (λj u hj=>by rw[cU.eI,cV];exact aH hq (by simpa using hj)) (by simpa using hl) (nc.1 h1) ra hb hn h
theorem lu{t e:TypeId}{s x:Operand}{i q g bytes m:Nat}{v u:Value}{xs:List Value}{cs:Array Value}{T:TypeId}[tr:rf P t e 1 bytes](hi:L[i]?=aj (a_ e 1 v m xs))(hq:L[q]?=aj (aP g cs T))(hs:ev fr s=aj v)(hx:ev fr x=aj (ap (aj ⟨g,0,ak⟩) 1 1))
 (hu:cs=#[u]) (h1:u.oneCell'=aD) (ra:m+1<=140737488355328) (hb:(m+1)*bytes<=140737488355328) (hn:dv d n=aD)
 (h:∀v',TL P n W ops Q rest ((d,v')::fr) (L.set i (a_ e 1 v' (m+1) (xs++[u])))):
 TL P n W ops Q (⟨aj d,.call {callee:= .builtin .append,args:=#[s,x],argTypes:=#[t,t]},ty,pos,after,ak⟩::rest) fr L:=by
 subst hu;exact mw hi hq hs hx I (by simp[h1]) ra hb hn h
theorem eH.front{p:Nat->Prop}{w:World}{L L':List cH}(h:eH p w (L++L')):eH p w L:=
  ⟨λi o hi=>h.all i o (by rw[eR (cX.1 hi).1];exact hi),
   λi j o o' re hi hj=>h.apart i j o o' re (by rw[eR (cX.1 hi).1];exact hi) (by rw[eR (cX.1 hj).1];exact hj)⟩
theorem Mem.front{w:World}{L L':List cH}(h:Mem W (L++L') w):Mem W L w:=⟨h.low,h.owns.front⟩
theorem K0{L':List cH}(h:TL P n W ops Q rest fr L):TL P n W ops Q rest fr (L++L'):=⟨λa w hr hm=>h.go a w hr hm.front⟩
theorem jT{t e:TypeId}{s x:Operand}{i bytes m d':Nat}{v u:Value}{xs:List Value}{ty':TypeId}{pos':String}{Oz:Array Edge}[tr:rf P t e 1 bytes](hi:L[i]?=aj (a_ e 1 v m xs))(hx:ev fr x=aj u)(hu:u.cells=#[u])(h1:u.oneCell'=aD)(hn':dv d' n=aD)
 (hs:ev ((d',undef)::fr) s=aj v) (hne:∀z,s= .tmp z->fx d' z=aE) (ra:m+1<=140737488355328) (hb:(m+1)*bytes<=140737488355328) (hn:dv d n=aD)
 (h:∀z v',TL P n W ops Q rest ((d,v')::(d',z)::fr) (L.set i (a_ e 1 v' (m+1) (xs++[u])))):
 TL P n W ops Q (⟨aj d',.buildSlice t 1 #[(0,x)],ty',pos',Oz,ak⟩::⟨aj d,.call {callee:= .builtin .append,args:=#[s,.tmp d'],argTypes:=#[t,t]},ty,pos,after,ak⟩::rest) fr L:=by
 have hil:i<L.length:=(cX.1 hi).1;have xC:∀z,ev ((d',z)::fr) s=aj v:=λz=>by
  cases s with
  |tmp q=>have e:=hne q I;simp only[ev,look,e,cond_false]at hs⊢;exact hs
  |const q=>exact hs
  |global q=>exact hs
  |func q=>exact hs
 refine fF hx hu I I hn' λg=>?_;refine mw (i:=i) (q:=L.length) (by rw[eR hil];exact hi) (Aa) (xC _) (by simp[ev,look]) I (by simp[h1]) ra hb hn λv'=>?_;rw[Wb _ _ hil];exact K0 (h _ v')
theorem ju{t e:TypeId}{s x:Operand}{i c bytes m d':Nat}{v:Value}{cs:Array Value}{xs:List Value}{ty':TypeId}{pos':String}{Oz:Array Edge}[tr:rf P t e c bytes](hi:L[i]?=aj (a_ e c v m xs))(hx:ev fr x=aj (.agg cs))(hc:cs.size=c)(Vq:Ae c 16777216=aD)(h1:cs.toList.all eZ=aD)(hn':dv d' n=aD)
 (hs:ev ((d',undef)::fr) s=aj v) (hne:∀z,s= .tmp z->fx d' z=aE) (ra:m+1<=140737488355328) (hb:(m+1)*bytes<=140737488355328) (hn:dv d n=aD)
 (h:∀z v',TL P n W ops Q rest ((d,v')::(d',z)::fr) (L.set i (a_ e c v' (m+1) (xs++cs.toList)))):
 TL P n W ops Q (⟨aj d',.buildSlice t 1 #[(0,x)],ty',pos',Oz,ak⟩::⟨aj d,.call {callee:= .builtin .append,args:=#[s,.tmp d'],argTypes:=#[t,t]},ty,pos,after,ak⟩::rest) fr L:=by
 have hil:i<L.length:=(cX.1 hi).1;have xC:∀z,ev ((d',z)::fr) s=aj v:=λz=>by
  cases s with
  |tmp q=>have e:=hne q I;simp only[ev,look,e,cond_false]at hs⊢;exact hs
  |const q=>exact hs
  |global q=>exact hs
  |func q=>exact hs
 refine fF hx I hc Vq hn' λg=>?_;refine mw (i:=i) (q:=L.length) (by rw[eR hil];exact hi) (Aa) (xC _) (by simp[ev,look]) hc h1 ra hb hn λv'=>?_;rw[Wb _ _ hil];exact K0 (h _ v')
theorem dK{e':Exit}(e:TypeId)(size:Nat)(h:E n W e' Q fr (L++[a_ e size (ap ak 0 0) 0 []])):E n W e' Q fr L:=⟨λa w hr hm=>h.go a w hr (hm.Oy e size)⟩
def cK(e:TypeId)(size m:Nat)(xs:List Value)(f:Value->Value):Spec Value:=⟨λ_=>True,f,λv=>[a_ e size v m xs]⟩
end
def WH(fr:Fr):Op->Option Value
 | .move x=>ev fr x
 | .assign x=>ev fr x
 | .extract t i=>match ev fr t with
  |some (.tuple vs)=>vs[i]?
  |_=>ak
 | .pick c x y=>match ev fr c with
  |some (.bool aD)=>ev fr x
  |some (.bool aE)=>ev fr y
  |_=>ak
 | .unOp .not _ x=>match ev fr x with
  |some (.bool aD)=>aj (.bool aE)
  |some (.bool aE)=>aj (.bool aD)
  |_=>ak
 |_=>ak
section
variable{P:Program}{n:Nat}{W:bO}{fr:Fr}{L:List cH}{dst:Option Tmp}{ty:TypeId}{pos:String}{after:Array Edge}{guard:Option (Nat×Bool)}
theorem qp{op:Op}{v:Value}(h:WH fr op=aj v):RR P n W ⟨dst,op,ty,pos,after,guard⟩ fr L v:=by
 unfold WH at h;split at h;exact wh h;exact Ta h
 ·split at h
  ·rename_i e;exact On e h
  cases h
 ·split at h
  ·rename_i e;exact Ww e h
  ·rename_i e;exact Wy e h
  cases h
 ·split at h
  ·rename_i e
   simp only[df]at h;subst h;exact Ak e I
  ·rename_i e
   simp only[df]at h;subst h;exact Ak e I
  cases h
 cases h
end
section
variable{P:Program}{n:Nat}{W:bO}{fr:Fr}{L:List cH}{Q:Exit->Act->World->Prop}{ops:Array Oper}{rest:List Oper}{d:Nat}{o:Oper}{v:Value}
theorem qv(hg:o.guard=ak)(hr:RR P n W o fr L v)(hd:o.dst=aj d)(hn:dv d n=aD)(h:TL P n W ops Q rest ((d,v)::fr) L):TL P n W ops Q (o::rest) fr L:=dx hr hg hd hn h
theorem qg{q e:Nat}{b:Bool}(hg:o.guard=aj (q,b))(hj:(ops[q]?).bind (·.dst)=aj e)(hl:look fr e=aj (.bool b))(h:TL P n W ops Q ({o with guard:=ak}::rest) fr L):TL P n W ops Q (o::rest) fr L:=Cu hg hj hl h
theorem qs{j e:Nat}{b:Bool}{u:Value}(hg:o.guard=aj (j,b))(hj:(ops[j]?).bind (·.dst)=aj e)(hl:look fr e=aj u)(hu:aaH b u=aD)(hd:o.dst=aj d)(hn:dv d n=aD)(h:TL P n W ops Q rest ((d,undef)::fr) L):TL P n W ops Q (o::rest) fr L:=aaI hg hj hl hu hd hn h
theorem qcT{c:Operand}{x y:Code}(hc:ev fr c=aj (.bool aD))(h:T P n W x Q fr L):T P n W (.cond c x y) Q fr L:=Ix hc h
theorem qcF{c:Operand}{x y:Code}(hc:ev fr c=aj (.bool aE))(h:T P n W y Q fr L):T P n W (.cond c x y) Q fr L:=Iy hc h
theorem qT{p:Prop}[inst:Decidable p](h:p):decide p=true:=decide_eq_true h
theorem qF{p:Prop}[inst:Decidable p](h:¬p):decide p=false:=decide_eq_false h
variable{dst:Option Tmp}{ty:TypeId}{pos:String}{after:Array Edge}{guard:Option (Nat×Bool)}
theorem K1{t e:TypeId}{x:Operand}{p:Option Addr}{m cap:Nat}(ht:P.underlying t=aj (.slice e))(hx:ev fr x=aj (ap p m cap)):RR P n W ⟨dst,.call {callee:= .builtin .len,args:=#[x],argTypes:=#[t]},ty,pos,after,guard⟩ fr L (av az m):=Ot ht hx
theorem afy{s:TypeId}{x:Operand}{f o b off r:Nat}(hf:Fld P s f o)(hx:ev fr x=aj (aJ (aj ⟨b,off,ak⟩)))(hr:off+o=r):RR P n W ⟨dst,.fieldAddr s x f,ty,pos,after,guard⟩ fr L (aJ (aj ⟨b,r,ak⟩)):=KZ hf hx hr
end
section
variable{P:Program}{n:Nat}{W:bO}{fr:Fr}{L:List cH}{Q:Exit->Act->World->Prop}{ops:Array Oper}{rest:List Oper}{d:Nat}{o:Oper}{v:Value}{dst:Option Tmp}{ty:TypeId}{pos:String}{after:Array Edge}{guard:Option (Nat×Bool)}{t u:TypeId}{x y:Operand}{k:IntKind}{m m':Int}
theorem QV(hr:RR P n W o fr L v)(h:TL P n W ops Q rest ((d,v)::fr) L)(hg:o.guard=none:=by exact I)(hd:o.dst=aj d:=by exact I)(hn:dv d n=true:=by exact I):TL P n W ops Q (o::rest) fr L:=dx hr hg hd hn h
theorem QP{op:Op}(h:WH fr op=aj v:=by exact I):RR P n W ⟨dst,op,ty,pos,after,guard⟩ fr L v:=qp h
theorem QS{l:List UInt8}(hx:ev fr x=aj (str l):=by exact I)(ht:P.underlying t=aj .string:=by exact bM.eq):RR P n W ⟨dst,.call {callee:= .builtin .len,args:=#[x],argTypes:=#[t]},ty,pos,after,guard⟩ fr L (av az l.length):=Tc ht hx
theorem QL{e:TypeId}{p:Option Addr}{m cap:Nat}(hx:ev fr x=aj (ap p m cap):=by exact I)(ht:P.underlying t=aj (.slice e):=by exact bM.eq):RR P n W ⟨dst,.call {callee:= .builtin .len,args:=#[x],argTypes:=#[t]},ty,pos,after,guard⟩ fr L (av az m):=K1 ht hx
theorem QA{s:TypeId}{f o b off r:Nat}(hx:ev fr x=aj (aJ (aj ⟨b,off,ak⟩)):=by exact I)(hf:Fld P s f o:=by exact bK.fld)(hr:off+o=r:=by exact I):RR P n W ⟨dst,.fieldAddr s x f,ty,pos,after,guard⟩ fr L (aJ (aj ⟨b,r,ak⟩)):=KZ hf hx hr
theorem QlT(hx:ev fr x=aj (.int k m):=by exact I)(hy:ev fr y=aj (.int k m'):=by exact I)(h:m<m':=by omega):RR P n W ⟨dst,.binOp .lss t x y u,ty,pos,after,guard⟩ fr L (.bool aD):=dQ hx hy (decide_eq_true h)
theorem QlF(hx:ev fr x=aj (.int k m):=by exact I)(hy:ev fr y=aj (.int k m'):=by exact I)(h:¬(m<m'):=by omega):RR P n W ⟨dst,.binOp .lss t x y u,ty,pos,after,guard⟩ fr L (.bool aE):=dQ hx hy (decide_eq_false h)
theorem QmT(hx:ev fr x=aj (.int k m):=by exact I)(hy:ev fr y=aj (.int k m'):=by exact I)(h:m<=m':=by omega):RR P n W ⟨dst,.binOp .leq t x y u,ty,pos,after,guard⟩ fr L (.bool aD):=Aj hx hy (decide_eq_true h)
theorem QmF(hx:ev fr x=aj (.int k m):=by exact I)(hy:ev fr y=aj (.int k m'):=by exact I)(h:¬(m<=m'):=by omega):RR P n W ⟨dst,.binOp .leq t x y u,ty,pos,after,guard⟩ fr L (.bool aE):=Aj hx hy (decide_eq_false h)
theorem QgT(hx:ev fr x=aj (.int k m):=by exact I)(hy:ev fr y=aj (.int k m'):=by exact I)(h:m'<m:=by omega):RR P n W ⟨dst,.binOp .gtr t x y u,ty,pos,after,guard⟩ fr L (.bool aD):=dT hx hy (decide_eq_true h)
theorem QgF(hx:ev fr x=aj (.int k m):=by exact I)(hy:ev fr y=aj (.int k m'):=by exact I)(h:¬(m'<m):=by omega):RR P n W ⟨dst,.binOp .gtr t x y u,ty,pos,after,guard⟩ fr L (.bool aE):=dT hx hy (decide_eq_false h)
theorem QhT(hx:ev fr x=aj (.int k m):=by exact I)(hy:ev fr y=aj (.int k m'):=by exact I)(h:m'<=m:=by omega):RR P n W ⟨dst,.binOp .geq t x y u,ty,pos,after,guard⟩ fr L (.bool aD):=eU hx hy (decide_eq_true h)
theorem QhF(hx:ev fr x=aj (.int k m):=by exact I)(hy:ev fr y=aj (.int k m'):=by exact I)(h:¬(m'<=m):=by omega):RR P n W ⟨dst,.binOp .geq t x y u,ty,pos,after,guard⟩ fr L (.bool aE):=eU hx hy (decide_eq_false h)
theorem QeT(hx:ev fr x=aj (.int k m):=by exact I)(hy:ev fr y=aj (.int k m'):=by exact I)(h:m=m':=by omega):RR P n W ⟨dst,.binOp .eql t x y u,ty,pos,after,guard⟩ fr L (.bool aD):=dg hx hy (decide_eq_true h)
theorem QeF(hx:ev fr x=aj (.int k m):=by exact I)(hy:ev fr y=aj (.int k m'):=by exact I)(h:¬(m=m'):=by omega):RR P n W ⟨dst,.binOp .eql t x y u,ty,pos,after,guard⟩ fr L (.bool aE):=dg hx hy (decide_eq_false h)
theorem QnT(hx:ev fr x=aj (.int k m):=by exact I)(hy:ev fr y=aj (.int k m'):=by exact I)(h:m≠m':=by omega):RR P n W ⟨dst,.binOp .neq t x y u,ty,pos,after,guard⟩ fr L (.bool aD):=dr hx hy (decide_eq_true h)
theorem QnF(hx:ev fr x=aj (.int k m):=by exact I)(hy:ev fr y=aj (.int k m'):=by exact I)(h:¬(m≠m'):=by omega):RR P n W ⟨dst,.binOp .neq t x y u,ty,pos,after,guard⟩ fr L (.bool aE):=dr hx hy (decide_eq_false h)
theorem QaA{r:Int}(hx:ev fr x=aj (av az m):=by exact I)(hy:ev fr y=aj (av az m'):=by exact I)(h0: -9223372036854775808<=m+m':=by omega)(h1:m+m'<=9223372036854775807:=by omega)(hr:m+m'=r:=by exact I):RR P n W ⟨dst,.binOp .add t x y u,ty,pos,after,guard⟩ fr L (av az r):=eT hx hy h0 h1 hr
theorem QaS{r:Int}(hx:ev fr x=aj (av az m):=by exact I)(hy:ev fr y=aj (av az m'):=by exact I)(h0: -9223372036854775808<=m-m':=by omega)(h1:m-m'<=9223372036854775807:=by omega)(hr:m-m'=r:=by exact I):RR P n W ⟨dst,.binOp .sub t x y u,ty,pos,after,guard⟩ fr L (av az r):=eJ hx hy h0 h1 hr
theorem QaM{r:Int}(hx:ev fr x=aj (av az m):=by exact I)(hy:ev fr y=aj (av az m'):=by exact I)(h0: -9223372036854775808<=m*m':=by omega)(h1:m*m'<=9223372036854775807:=by omega)(hr:m*m'=r:=by exact I):RR P n W ⟨dst,.binOp .mul t x y u,ty,pos,after,guard⟩ fr L (av az r):=Wz hx hy h0 h1 hr
end
class Cd(p:Prop)(q:outParam Prop):Prop where
 go:q->p
theorem QZ{p q:Prop}[h:Cd p q](x:q):p:=h.go x
section
variable{P:Program}{n:Nat}{W:bO}{fr:Fr}{L:List cH}{Q:Exit->Act->World->Prop}{ops:Array Oper}{x y:Code}{id:Nat}{l:List Oper}{K:Act->World->Prop}
instance:Cd (TL P n W ops Q [] fr L) (E n W .normal Q fr L):=⟨kI⟩
instance:Cd (T P n W (x.seq y) Q fr L) (T P n W x (Exit.then (y.wp P Q) Q) fr L):=⟨cC⟩
instance:Cd (T P n W (.region id l.toArray aE) Q fr L) (TL P n W l.toArray Q l fr L):=⟨bz⟩
instance:Cd (T P n W .skip Q fr L) (E n W .normal Q fr L):=⟨xz⟩
instance:Cd (T P n W (.exit id) Q fr L) (E n W (.exit id) Q fr L):=⟨xA⟩
instance:Cd (T P n W .ret Q fr L) (E n W .ret Q fr L):=⟨yE⟩
instance:Cd (T P n W (.block id x) Q fr L) (T P n W x (tN id Q) fr L):=⟨sg⟩
instance:Cd (E n W .normal (Exit.then (y.wp P Q) Q) fr L) (T P n W y Q fr L):=⟨lQ⟩
instance:Cd (E n W (.exit id) (Exit.then K Q) fr L) (E n W (.exit id) Q fr L):=⟨sh⟩
instance:Cd (E n W .ret (Exit.then K Q) fr L) (E n W .ret Q fr L):=⟨ot⟩
instance:Cd (E n W .normal (tN id Q) fr L) (E n W .normal Q fr L):=⟨oW⟩
instance:Cd (E n W .ret (tN id Q) fr L) (E n W .ret Q fr L):=⟨oX⟩
end
section
variable{α β:Type}
theorem zA{a:α}{l m:List α}:a::l++m=a::(l++m):=rfl
theorem zB{l:List α}:[]++l=l:=rfl
theorem zC{l:List α}:l++[]=l:=dW l
theorem zD{f:α->Option β}{a:α}{l:List α}:tS f (a::l)=match f a with
 |none=>tS f l
 |some b=>b::tS f l:=List.filterMap_cons
theorem zE{f:α->Option β}:tS f []=[]:=rfl
theorem zF{a:α}{l:List α}{i:Nat}:(a::l)[i+1]?=l[i]?:=C8
theorem zG{a:α}{l:List α}:(a::l)[0]?=aj a:=rfl
theorem zH{a b:α}{l:List α}:(a::l).set 0 b=b::l:=rfl
theorem zI{a b:α}{l:List α}{i:Nat}:(a::l).set (i+1) b=a::l.set i b:=rfl
end
end cI
namespace cI
open Go.RowKit cU dS
section
variable{P:Program}{n:Nat}{W:bO}{fr:Fr}{L:List cH}{Q:Exit->Act->World->Prop}{ops:Array Oper}{rest:List Oper}{d:Nat}{dst:Option Tmp}{ty:TypeId}{pos:String}{after:Array Edge}{guard:Option (Nat×Bool)}
def sk(fr:Fr):List (Nat×Operand)->Option (List (Nat×Value))
 |[]=>aj []
 |(i,x)::r=>match ev fr x,sk fr r with|some v,aj l=>aj ((i,v)::l)|_,_=>ak
theorem sm{a:Act}(hr:ny n a fr):∀(l:List (Nat×Operand)) (vs:List (Nat×Value)),sk fr l=aj vs->l.map (λ(i,x)=>(i,a.eval x))=vs
 |[],vs,h=>by simp only[sk,df]at h;subst h;rfl
 | (i,x)::r,vs,h=>by
  simp only[sk]at h;split at h
  ·rename_i v l h1 h2
   simp only[df]at h;subst h;simp[hr.ev h1,sm hr r l h2]
  cases h
theorem bB{t:TypeId}{parts:Array (Nat×Operand)}{ps:List (Nat×Value)}{cs:Array Value}(hp:sk fr parts.toList=aj ps)(hrun:∀w,(dh t ps.toArray).run P w= .ok (.agg cs) w):RR P n W ⟨dst,.build t parts,ty,pos,after,guard⟩ fr L (.agg cs):= .mk λa w hr _=>by
 have e:(parts.map λ(i,x)=>(i,a.eval x))=ps.toArray:=by
  rw[<-sm hr _ _ hp,<-CX,xf]
 simp only[execOp,lL];rw[e,hrun w];rfl
theorem K2(c0:Nat->Option (Nat×Nat))(C9:∀i,c0 i=aj (i,1)):∀(vs:List Value) (k:Nat) (acc:Array Value),k+vs.length<=acc.size->(∀v∈vs,v.cells=#[v])->jB c0 acc ((vs.zipIdx k).map λ(v,i)=>(i,v))=aj (acc.toList.take k++vs++acc.toList.drop (k+vs.length)).toArray
 |[],k,acc,h,_=>by simp[jB]
 | v ::vs,k,acc,h,h1=>by
  simp only[de]at h;have hv:=h1 v (by simp);rw[Ir,gh];simp only[jB,C9,hv];rw[if_neg (by simp;omega)];have e:((#[v]:Array Value).zipIdx.foldl (λcs (x:Value×Nat)=>cs.setIfInBounds (k+x.2) x.1) acc)=acc.setIfInBounds k v:=by simp
  rw[e,K2 c0 C9 vs (k+1) _ (by simp;omega) (λu hu=>h1 u (by simp[hu]))]
  congr 2
  have hA:(acc.toList.take k).length=k:=by simp;omega
  have hA1:(acc.toList.take k++[v]).length=k+1:=by rw[bI,hA];rfl
  have e2:acc.toList.set k v=(acc.toList.take k++[v])++acc.toList.drop (k+1):=by
   rw[C6,if_pos (by simp;omega)];simp
  simp only[Ih,de];rw[e2,Ob hA1,<-qH,Oc hA1,qH];simp only[eD,iY,eu];rw[show k+1+vs.length=k+(vs.length+1)by omega]
theorem WI{t e:TypeId}{bytes:Nat}(tr:El P t e 1 bytes)(vs:List Value)(h1:∀v∈vs,v.cells=#[v])(h0:0<vs.length)(hm:vs.length<=16777216)(w:World):
 (tO t vs.length (vs.zipIdx.map λ(v,i)=>(i,v)).toArray).run P w= .ok (ap (aj ⟨w.heap.size,0,ak⟩) vs.length vs.length) (w.alloc (.cells vs.toArray e)):=by
 obtain⟨i,z,ht,hi,hz,hc,_,hzc,_⟩:=tr.ex;have t_:=K2 (λi=>aj (i*1,1)) (by simp) vs 0 ((CY (vs.length*1)).map (z.cells[· %z.cells.size]!)) (by simp) h1
 simp only[nY,eu,cV]at t_;rw[jo (by simp)]at t_;simp only[dW]at t_;have hne:¬(vs.length*1>2^24):=by omega
 have WG:¬(vs.length*1=0):=by omega
 simp only[tO,lL,run_underlying ht,nW,sizeOf,typeInfo,run_program,hi,na,hc,zeroValue,hz,if_neg hne,if_neg WG];simp only[t_,newRow];simp
theorem Rk{t e:TypeId}{bytes m:Nat}{parts:Array (Nat×Operand)}(vs:List Value)[tr:rf P t e 1 bytes](hp:sk fr parts.toList=aj (vs.zipIdx.map λ(v,i)=>(i,v)))(hm:vs.length=m)(h0:dv 0 m=aD)(h1:∀v∈vs,v.cells=#[v])(hs:Ae m 16777216=aD)(hn:dv d n=aD)
 (h:∀g,TL P n W ops Q rest ((d,ap (aj ⟨g,0,ak⟩) m m)::fr) (L++[aP g vs.toArray e])):TL P n W ops Q (⟨aj d,.buildSlice t m parts,ty,pos,after,ak⟩::rest) fr L:=by
 subst hm;refine Ou (λa w hr=>?_) hn h;have e:(parts.map λ(i,x)=>(i,a.eval x))=(vs.zipIdx.map λ(v,i)=>(i,v)).toArray:=by
  rw[<-sm hr _ _ hp,<-CX,xf]
 rw[e];exact WI tr.el vs h1 (nf h0) (nf hs) w
theorem Mem.afz{w:World}{i g m size:Nat}{cs:Array Value}{e:TypeId}(h:Mem W L w)(hi:L[i]?=aj (aP g cs e))(hc:cs.size=m*size)(hm:m<=140737488355328):Mem W (L.set i (a_ e size (ap (aj ⟨g,0,ak⟩) m m) m cs.toList)) w:=
 h.B1 hi ⟨rfl,rfl,rfl,bx _,λ_ _ _=>rfl⟩ ⟨by simp[hc],.inr ⟨g,m,cs,rfl,bH _,h.get hi,bx _,by unfold maxLen;omega,hc,by rw[gB (by simp[hc])]⟩⟩ λk hk=> .inl hk
theorem yJ{i g m:Nat}{cs:Array Value}{e:TypeId}(size:Nat)(hi:L[i]?=aj (aP g cs e))(hc:cs.size=m*size)(hm:m<=140737488355328)(h:TL P n W ops Q rest fr (L.set i (a_ e size (ap (aj ⟨g,0,ak⟩) m m) m cs.toList))):TL P n W ops Q rest fr L:=
 ⟨λa w hr tv=>h.go a w hr (tv.afz hi hc hm)⟩
theorem aW{t:TypeId}{p x:Operand}{i g c:Nat}{cs cs':Array Value}{T:TypeId}{agg:Bool}[hT:aK P t agg c](hi:L[i]?=aj (aP g cs T))(hp:ev fr p=aj (aJ (aj ⟨g,0,ak⟩)))(hx:ev fr x=aj (.agg cs'))(hv:cs'.size=c)(h1:cs'.toList.all eZ=aD)
 (hc:cs.size=c) (h:TL P n W ops Q rest fr (L.set i (aP g cs' T))):
 TL P n W ops Q (⟨ak,.store t p x,ty,pos,after,ak⟩::rest) fr L:=
 t' hT.ty hi hp hx hv h1 J (by
  show cs'=(cs.toList.take 0++cs'.toList++cs.toList.drop (0+c)).toArray
  rw[jo (by simp[hc])];simp) h
theorem bU{t:TypeId}{p x:Operand}{i g off:Nat}{cs:Array Value}{T:TypeId}{agg:Bool}{v:Value}[hT:aK P t agg 1](hi:L[i]?=aj (aP g cs T))(hp:ev fr p=aj (aJ (aj ⟨g,off,ak⟩)))(hx:ev fr x=aj v)(hv:v.cells=#[v])(h1:v.oneCell'=aD)
 (hc:dv off cs.size=aD) (h:TL P n W ops Q rest fr (L.set i (aP g (cs.setIfInBounds off v) T))):
 TL P n W ops Q (⟨ak,.store t p x,ty,pos,after,ak⟩::rest) fr L:=by
 have hlt:off<cs.size:=nf hc;refine t' hT.ty hi hp hx (by rw[hv];rfl) (by rw[hv];simp[h1]) J ?_ h;rw[hv];apply r7;simp only[Ih];rw[C6,if_pos (by simpa using hlt)];simp
theorem Di{t u:TypeId}{x y:Operand}{xs ys:Array Value}{b:Bool}(hx:ev fr x=aj (.agg xs))(hy:ev fr y=aj (.agg ys))(hg:P.eqGuardType P.depth t=aE)(h:∀w,(lJ 10000 t (.agg xs) (.agg ys)).run P w= .ok b w):RR P n W ⟨dst,.binOp .eql t x y u,ty,pos,after,guard⟩ fr L (.bool b):= .mk λa w hr _=>by
 simp only[execOp,hr.ev hx,hr.ev hy,lL,run_eqGuard_agg w .eql t x y xs ys hg,nW,run_eql_struct,h w];rfl
theorem Dj{t u:TypeId}{x y:Operand}{xs ys:Array Value}{b c:Bool}(hx:ev fr x=aj (.agg xs))(hy:ev fr y=aj (.agg ys))(hg:P.eqGuardType P.depth t=aE)(h:∀w,(lJ 10000 t (.agg xs) (.agg ys)).run P w= .ok b w)(hc:(!b)=c):RR P n W ⟨dst,.binOp .neq t x y u,ty,pos,after,guard⟩ fr L (.bool c):= .mk λa w hr _=>by
 subst hc;simp only[execOp,hr.ev hx,hr.ev hy,lL,run_eqGuard_agg w .neq t x y xs ys hg,nW,run_neq_struct,h w];rfl
theorem eE{fn:Func}{R:Ending->World->Prop}{t u:Tmp}{T:TypeId}{i g c:Nat}{cs:Array Value}{T':TypeId}{z:Value}[hT:aK P T aD c](mR:fn.results=#[.cell t T,.tmp u])(hp:look fr t=aj (aJ (aj ⟨g,0,ak⟩)))(hi:L[i]?=aj (aP g cs T'))(hc:cs.size=c)(hz:look fr u=aj z)
 (h:∀w,Mem W L w->R (.returned (.tuple #[.agg cs,z])) w):E n W .ret (bodyPost P fn R) fr L:=
 Dc λa w hr tv=>⟨_,by
  have Dk:=run_loadCells_list (P:=P) w ⟨g,0,ak⟩ cs.toList λj v hj=>by rw[eI,cV];exact aH hi (by simpa using hj) w tv
  have hl:(loadCells ⟨g,0,ak⟩ c).run P w= .ok cs w:=by rw[<-hc];simpa using Dk
  have hv:(loadVar T ⟨g,0,ak⟩).run P w= .ok (.agg cs) w:=by simp[loadVar,hT.ty.agg,hT.ty.size,hl]
  simp[results,mR,xe,hr.get t _ hp,hr.get u z hz,asAddr,hv],h w tv⟩
theorem fm{fn:Func}{R:Ending->World->Prop}{t u s:Tmp}{T:TypeId}{i g c:Nat}{cs:Array Value}{T':TypeId}{z y:Value}[hT:aK P T aD c](mR:fn.results=#[.cell t T,.tmp u,.tmp s])(hp:look fr t=aj (aJ (aj ⟨g,0,ak⟩)))(hi:L[i]?=aj (aP g cs T'))(hc:cs.size=c)(hz:look fr u=aj z)(hy:look fr s=aj y)
 (h:∀w,Mem W L w->R (.returned (.tuple #[.agg cs,z,y])) w):E n W .ret (bodyPost P fn R) fr L:=
 Dc λa w hr tv=>⟨_,by
  have Dk:=run_loadCells_list (P:=P) w ⟨g,0,ak⟩ cs.toList λj v hj=>by rw[eI,cV];exact aH hi (by simpa using hj) w tv
  have hl:(loadCells ⟨g,0,ak⟩ c).run P w= .ok cs w:=by rw[<-hc];simpa using Dk
  have hv:(loadVar T ⟨g,0,ak⟩).run P w= .ok (.agg cs) w:=by simp[loadVar,hT.ty.agg,hT.ty.size,hl]
  simp[results,mR,xe,hr.get t _ hp,hr.get u z hz,hr.get s y hy,asAddr,hv],h w tv⟩
theorem fL{fn:Func}{R:Ending->World->Prop}{t:Tmp}{T:TypeId}{i g c:Nat}{cs:Array Value}{T':TypeId}[hT:aK P T aD c](mR:fn.results=#[.cell t T])(hp:look fr t=aj (aJ (aj ⟨g,0,ak⟩)))(hi:L[i]?=aj (aP g cs T'))(hc:cs.size=c)
 (h:∀w,Mem W L w->R (.returned (.agg cs)) w):E n W .ret (bodyPost P fn R) fr L:=
 Dc λa w hr tv=>⟨_,by
  have Dk:=run_loadCells_list (P:=P) w ⟨g,0,ak⟩ cs.toList λj v hj=>by rw[eI,cV];exact aH hi (by simpa using hj) w tv
  have hl:(loadCells ⟨g,0,ak⟩ c).run P w= .ok cs w:=by rw[<-hc];simpa using Dk
  have hv:(loadVar T ⟨g,0,ak⟩).run P w= .ok (.agg cs) w:=by simp[loadVar,hT.ty.agg,hT.ty.size,hl]
  simp[results,mR,xe,hr.get t _ hp,asAddr,hv],h w tv⟩
end
end cI
namespace cI
open Go.RowKit cU dS
section
variable{P:Program}{ops:Array Oper}{md:tR}{Q:Exit->Act->World->Prop}{U:World->Prop}
theorem jE{K:Act->World->Prop}{i:Nat}{o:Oper}{a:Act}{w:World}(hi:ops[i]?=aj o)(h:wpList P ops (Exit.then K Q) [o] a w):wpOp P ops Q i K a w:=by
 have key:∀r,o.upon P a (wpList P ops (Exit.then K Q) []) (Exit.then K Q) r->o.upon P a K Q r:=λr hr=>by
  cases r with
  | ok x w'=>
   cases x<;>first
    |exact hr
    |(refine VN hr λe Cr he=>?_;cases e<;>exact he)
    |exact V4 hr λv Cr he=>he
  |halt x w'=>cases x<;>exact hr
 unfold wpList at h;unfold wpOp;rw[hi];simp only;split
 ·rename_i hw
  rw[if_pos hw]at h;rcases h with h|h
  exact .inl (key _ h);exact .inr h
 rename_i hw
 rw[if_neg hw]at h;exact h
def sn(P:Program)(md:tR)(ops:Array Oper)(Q:Exit->Act->World->Prop)(U:World->Prop):Nat->Array Bool->Act->(World->Prop)->Prop
 |0,listed,a,S=>iK md ops listed=[]/\∀w,S w->Q .normal a w
 | f+1,listed,a,S=>(iK md ops listed=[]->∀w,S w->Q .normal a w)/\
  ∀i∈iK md ops listed,∀w,S w->wpOp P ops Q i (λa' w'=>∃S',jr S'/\(∀x,S' x->U x)/\S' w'/\sn P md ops Q U f (listed.setIfInBounds i aD) a' S') a w
theorem xD:∀(f:Nat) (listed:Array Bool) (a:Act) (S:World->Prop) (w:World),S w->sn P md ops Q U f listed a S->wpAny P md ops Q f listed a w
 |0,_,_,_,w,hw,h=>⟨h.1,h.2 w hw⟩
 |f+1,_,_,_,w,hw,h=>⟨λh0=>h.1 h0 w hw,λi hi=>wpOp_mono (λa' w' ⟨S',_,_,tG,h'⟩=>xD f _ a' S' w' tG h') (h.2 i hi w hw)⟩
theorem yK{i:Nat}{oi:Oper}{v:Value}(hi:ops[i]?=aj oi)(mg:∀(j:Nat) (o:Oper) cs b,ops[j]?=aj o->o.op≠ .select cs b)
 (hQ:∀c a w,Q (.panic c) (a.put oi.dst v) w->Q (.panic c) a w):
 ∀ (f:Nat) (listed:Array Bool) (a:Act) (S:World->Prop),jr S->(∀x,S x->U x)->
  (∀j oj,ops[j]?=aj oj->j≠i->listed.getD j aD=aE->(∀e∈oj.after,z_ md e=aD->e.on≠i)->oi.apart ops oj=aD)->
  i∈iK md ops listed->jD P ops U oi v a->
  sn P md ops Q U f (listed.setIfInBounds i aD) (a.put oi.dst v) S->sn P md ops Q U (f+1) listed a S:=by
 intro f
 induction f with
 | zero=>
  intro listed a S gL WJ _ hr hy H;refine⟨λh=>(by rw[h]at hr;cases hr),λj hj w hw=>?_⟩
  by_cases Iv:j=i
  subst Iv;exact(hy.mono WJ).wpOp hi gL hw λw' tG=>⟨S,gL,WJ,tG,H⟩;have:=ready_mono (md:=md) hj Iv;rw[H.1]at this;cases this
 | succ f ih=>
  intro listed a S gL WJ GH hr hy H;have yD:=(mem_ready.1 hr).1;refine⟨λh=>(by rw[h]at hr;cases hr),λj hj w hw=>?_⟩
  by_cases Iv:j=i
  subst Iv;exact(hy.mono WJ).wpOp hi gL hw λw' tG=>⟨S,gL,WJ,tG,H⟩;have h1:=H.2 j (ready_mono hj Iv) w hw;obtain⟨Wm,oj,Rb,oT⟩:=mem_ready.1 hj;have S9:∀e∈oj.after,z_ md e=aD->e.on≠i:=λe he hb NG=>by
   have h1:=oT e he hb;rw[NG,getD_both yD]at h1
   cases h1
  have h2:=GG Rb (GH j oj Rb Iv Wm S9) (λcs b=>mg i oi cs b hi) (λcs b=>mg j oj cs b Rb) hQ hy h1;have Oi:∀k ok,ops[k]?=aj ok->k≠i->(listed.setIfInBounds j aD).getD k aD=aE->
   (∀e∈ok.after,z_ md e=aD->e.on≠i)->oi.apart ops ok=true:=λk ok hk hki yD hno=>by
   refine GH k ok hk hki ?_ hno
   by_cases hjk:j=k
   ·subst hjk;exact Wm
   ·rw[getD_set_ne aD hjk]at yD;exact yD
  refine wpOp_mono (λa' w' h3=>?_) h2;obtain⟨h3,S',mS,kg,tG,h4⟩:=h3;refine⟨S',mS,kg,tG,ih (listed.setIfInBounds j aD) a' S' mS kg Oi (ready_mono hr (xu Iv)) h3 ?_⟩;rw[VG _ _ Iv];exact h4
end
section
variable{P:Program}{n:Nat}{W:bO}{Q:Exit->Act->World->Prop}{fr:Fr}{L L0:List cH}{ops:Array Oper}{ks:List Bool}{o:Oper}{rest:List Oper}{v:Value}{d:Nat}
theorem WK{L':List cH}(is:List Nat)(hn:is.Nodup)(hl:L'=is.filterMap λi=>L[i]?):∀w,Mem W L w->Mem W L' w:=λ_ h=>h.pick is hn hl
theorem wo:∀w,Mem W L w->Mem W [] w:=λ_ h=>⟨h.low,eH.nil _⟩
end
end cI
namespace cI
open Go.RowKit cU dS
inductive Ord where
 |done
 |calm (i:Nat) (t:Ord)
 |one (i:Nat) (t:Ord)
 |two (i:Nat) (t:Ord) (j:Nat) (u:Ord)
 |three (i:Nat) (t:Ord) (j:Nat) (u:Ord) (k:Nat) (v:Ord)
def Ord.size:Ord->Nat
 | .done=>0
 | .calm _ t=>t.size+1
 | .one _ t=>t.size+1
 | .two _ t _ _=>t.size+1
 | .three _ t _ _ _ _=>t.size+1
section
variable{P:Program}{ops:Array Oper}{md:tR}{Q:Exit->Act->World->Prop}{U:World->Prop}
def WL(P:Program)(ops:Array Oper)(Q:Exit->Act->World->Prop)(U:World->Prop):Ord->Act->(World->Prop)->Prop
 | .calm i t,a,S=>∃o v,ops[i]?=aj o/\(if kE o (yielded ops a.tmps)then ∀w,U w->oR P o a w v else v=undef)/\WL P ops Q U t (a.put o.dst v) S
 | .one i t,a,S=>∃o,ops[i]?=aj o/\∀w,S w->wpList P ops (Exit.then (λa' w'=>∃S',jr S'/\(∀x,S' x->U x)/\S' w'/\WL P ops Q U t a' S') Q) [o] a w
 | .two i t j u,a,S=>(∃o,ops[i]?=aj o/\∀w,S w->wpList P ops (Exit.then (λa' w'=>∃S',jr S'/\(∀x,S' x->U x)/\S' w'/\WL P ops Q U t a' S') Q) [o] a w)/\
  (∃o,ops[j]?=aj o/\∀w,S w->wpList P ops (Exit.then (λa' w'=>∃S',jr S'/\(∀x,S' x->U x)/\S' w'/\WL P ops Q U u a' S') Q) [o] a w)
 | .three i t j u k v,a,S=>(∃o,ops[i]?=aj o/\∀w,S w->wpList P ops (Exit.then (λa' w'=>∃S',jr S'/\(∀x,S' x->U x)/\S' w'/\WL P ops Q U t a' S') Q) [o] a w)/\
  (∃o,ops[j]?=aj o/\∀w,S w->wpList P ops (Exit.then (λa' w'=>∃S',jr S'/\(∀x,S' x->U x)/\S' w'/\WL P ops Q U u a' S') Q) [o] a w)/\
  (∃o,ops[k]?=aj o/\∀w,S w->wpList P ops (Exit.then (λa' w'=>∃S',jr S'/\(∀x,S' x->U x)/\S' w'/\WL P ops Q U v a' S') Q) [o] a w)
 | .done,a,S=>∀w,S w->Q .normal a w
def lT(md:tR)(ops:Array Oper):Ord->Array Bool->Bool
 | .calm i t,listed=>(iK md ops listed).contains i&&V3 md ops listed i&&lT md ops t (listed.setIfInBounds i aD)
 | .one i t,listed=>decide (iK md ops listed=[i])&&lT md ops t (listed.setIfInBounds i aD)
 | .two i t j u,listed=>decide (iK md ops listed=[i,j])&&fx t.size u.size&&lT md ops t (listed.setIfInBounds i aD)&&lT md ops u (listed.setIfInBounds j aD)
 | .three i t j u k v,listed=>decide (iK md ops listed=[i,j,k])&&fx t.size u.size&&fx t.size v.size&&lT md ops t (listed.setIfInBounds i aD)&&lT md ops u (listed.setIfInBounds j aD)&&lT md ops v (listed.setIfInBounds k aD)
 | .done,listed=>decide (iK md ops listed=[])
theorem jF(mg:xo ops=aD)(hQ:∀c a d v w,Q (.panic c) (qE a d v) w->Q (.panic c) a w):
 ∀(t:Ord) (listed:Array Bool) (a:Act) (S:World->Prop),jr S->(∀x,S x->U x)->lT md ops t listed=aD->
 WL P ops Q U t a S->sn P md ops Q U t.size listed a S
 | .done,listed,a,S,_,_,ho,h=>⟨by simpa[lT]using ho,h⟩
 | .calm i t,listed,a,S,gL,WJ,ho,h=>by
  simp only[lT,fc]at ho;obtain⟨⟨hr,hf⟩,K3⟩:=ho;have GI:i∈iK md ops listed:=by simpa using hr
  obtain⟨o,v,h0,hy,hK⟩:=h;have hy':jD P ops U o v a:=by
   by_cases hw:kE o (yielded ops a.tmps)=aD
   rw[if_pos hw]at hy;exact .inl ⟨hw,hy⟩;rw[if_neg hw]at hy;exact .inr ⟨by simpa using hw,hy⟩
  exact yK h0 (V0 mg) (λc a w=>hQ c a o.dst v w) t.size listed a S gL WJ (V1 h0 hf) GI hy'
   (jF mg hQ t _ _ S gL WJ K3 hK)
 | .one i t,listed,a,S,gL,WJ,ho,h=>by
  simp only[lT,fc,decide_eq_true_eq]at ho;obtain⟨hr,K3⟩:=ho;obtain⟨o,h0,h⟩:=h;refine⟨λh'=>(by rw[hr]at h';cases h'),λj hj w hw=>?_⟩;obtain rfl:j=i:=by rw[hr]at hj;simpa using hj
  refine wpOp_mono (λa' w' ⟨S',mS,ub,tG,hK⟩=>⟨S',mS,ub,tG,?_⟩) (jE h0 (h w hw));exact jF mg hQ t _ _ S' mS ub K3 hK
 | .two i t j u,listed,a,S,gL,WJ,ho,h=>by
  simp only[lT,fc,decide_eq_true_eq]at ho;obtain⟨⟨⟨hr,hs⟩,my⟩,Cv⟩:=ho;obtain⟨⟨o,h0,h⟩,⟨o2,h02,h2⟩⟩:=h;have hs:=kf hs;refine⟨λh'=>(by rw[hr]at h';cases h'),λq hq w hw=>?_⟩;rw[hr]at hq;simp only[dA,fv,or_false]at hq;rcases hq with rfl|rfl
  ·refine wpOp_mono (λa' w' ⟨S',mS,ub,tG,hK⟩=>⟨S',mS,ub,tG,?_⟩) (jE h0 (h w hw))
   exact jF mg hQ t _ _ S' mS ub my hK
  refine wpOp_mono (λa' w' ⟨S',mS,ub,tG,hK⟩=>⟨S',mS,ub,tG,?_⟩) (jE h02 (h2 w hw));rw[hs];exact jF mg hQ u _ _ S' mS ub Cv hK
 | .three i t j u k v,listed,a,S,gL,WJ,ho,h=>by
  simp only[lT,fc,decide_eq_true_eq]at ho;obtain⟨⟨⟨⟨⟨hr,hs⟩,hs3⟩,my⟩,Cv⟩,ho3⟩:=ho;obtain⟨⟨o,h0,h⟩,⟨o2,h02,h2⟩,⟨o3,h03,h3⟩⟩:=h;have hs:=kf hs;have hs3:=kf hs3;refine⟨λh'=>(by rw[hr]at h';cases h'),λq hq w hw=>?_⟩;rw[hr]at hq;simp only[dA,fv,or_false]at hq;rcases hq with rfl|rfl|rfl
  ·refine wpOp_mono (λa' w' ⟨S',mS,ub,tG,hK⟩=>⟨S',mS,ub,tG,?_⟩) (jE h0 (h w hw))
   exact jF mg hQ t _ _ S' mS ub my hK
  ·refine wpOp_mono (λa' w' ⟨S',mS,ub,tG,hK⟩=>⟨S',mS,ub,tG,?_⟩) (jE h02 (h2 w hw))
   rw[hs];exact jF mg hQ u _ _ S' mS ub Cv hK
  refine wpOp_mono (λa' w' ⟨S',mS,ub,tG,hK⟩=>⟨S',mS,ub,tG,?_⟩) (jE h03 (h3 w hw));rw[hs3];exact jF mg hQ v _ _ S' mS ub ho3 hK
end
structure TW(P:Program)(n:Nat)(W:bO)(ops:Array Oper)(Q:Exit->Act->World->Prop)(L0:List cH)(t:Ord)(fr:Fr)(L:List cH):Prop where
 go:∀a,ny n a fr->WL P ops Q (Mem W L0) t a (Mem W L)
section
variable{P:Program}{n:Nat}{W:bO}{Q:Exit->Act->World->Prop}{fr:Fr}{L L0:List cH}{ops:Array Oper}{o:Oper}{t u:Ord}{i j:Nat}{v:Value}{d:Nat}
def adR(l:List Oper)(t:Ord):Bool:=fx t.size l.length&&xo l.toArray&&lT .any l.toArray t (xg l.toArray.size aE)
theorem afA{id:Nat}{l:List Oper}(L0:List cH)(t:Ord)(kg:∀w,Mem W L w->Mem W L0 w)(hm:P.follows .mixedOrders=aD)(hB:adR l t=aD)
 (hQ:∀c a d v w,Q (.panic c) (qE a d v) w->Q (.panic c) a w)
 (h:TW P n W l.toArray Q L0 t fr L):T P n W (.region id l.toArray aD) Q fr L:=⟨λa w hr tv=>by
 simp only[adR,fc]at hB;obtain⟨⟨h1,h2⟩,h3⟩:=hB;have hlen:=kf h1;refine wp_region_any hm ?_;have hsz:l.toArray.size=t.size:=by rw[hlen];simp
 have:=xD (U:=Mem W L0) t.size (xg l.toArray.size aE) a (Mem W L) w.drew tv.drew
  (jF h2 hQ t _ a (Mem W L) (ir W L) kg h3 (h.go a hr))
 rw[<-hsz]at this;exact this⟩
theorem Rm{q e:Nat}{b:Bool}{x:Value}(ho:ops[i]?=aj o)(hg:o.guard=aj (q,b))(hj:(ops[q]?).bind (·.dst)=aj e)(hl:look fr e=aj x)(hu:aaH b x=aD)(hd:o.dst=aj d)(hn:dv d n=aD)(h:TW P n W ops Q L0 t ((d,undef)::fr) L):TW P n W ops Q L0 (.calm i t) fr L:=⟨λa gY=>
 ⟨o,undef,ho,by rw[GJ gY hg hj hl hu];rfl,by rw[hd];exact h.go _ (gY.put hn undef)⟩⟩
theorem ow{f:FuncId}{args:Array Value}(ho:ops[i]?=aj o)(he:∀a w,ny n a fr->(execOp a.eval o).run P w= .ok (.enter f args) w)(hc:∀w,Mem W L0 w->Calls P f args w (cB (ret v) w))(hg:o.guard=ak)(hd:o.dst=aj d)(hn:dv d n=aD)
 (h:TW P n W ops Q L0 t ((d,v)::fr) L):TW P n W ops Q L0 (.calm i t) fr L:=⟨λa gY=>
 ⟨o,v,ho,by rw[if_pos (qk hg)];intro w hw;unfold oR;rw[he a w gY];exact⟨Gr.refl _,(hc w hw).mono λ_ _ h=>Db h⟩,by rw[hd];exact h.go _ (gY.put hn v)⟩⟩
theorem K4{f:FuncId}{args:Array Value}{q e:Nat}{b:Bool}(ho:ops[i]?=aj o)(he:∀a w,ny n a fr->(execOp a.eval o).run P w= .ok (.enter f args) w)(hc:∀w,Mem W L0 w->Calls P f args w (cB (ret v) w))(hg:o.guard=aj (q,b))(hj:(ops[q]?).bind (·.dst)=aj e)(hl:look fr e=aj (.bool b))(hd:o.dst=aj d)(hn:dv d n=aD)
 (h:TW P n W ops Q L0 t ((d,v)::fr) L):TW P n W ops Q L0 (.calm i t) fr L:=⟨λa gY=>
 ⟨o,v,ho,by rw[if_pos (oY gY hg hj hl)];intro w hw;unfold oR;rw[he a w gY];exact⟨Gr.refl _,(hc w hw).mono λ_ _ h=>Db h⟩,by rw[hd];exact h.go _ (gY.put hn v)⟩⟩
abbrev after(P:Program)(W:bO)(ops:Array Oper)(Q:Exit->Act->World->Prop)(L0:List cH)(t:Ord):Exit->Act->World->Prop:=Exit.then (λa' w'=>∃S',jr S'/\(∀x,S' x->Mem W L0 x)/\S' w'/\WL P ops Q (Mem W L0) t a' S') Q
theorem aL(ho:ops[i]?=aj o)(h:TL P n W ops (after P W ops Q L0 t) [o] fr L):TW P n W ops Q L0 (.one i t) fr L:=⟨λa gY=>⟨o,ho,λw hw=>h.go a w gY hw⟩⟩
theorem eG{o2:Oper}(ho:ops[i]?=aj o)(Cv:ops[j]?=aj o2)(h:TL P n W ops (after P W ops Q L0 t) [o] fr L)(h2:TL P n W ops (after P W ops Q L0 u) [o2] fr L):TW P n W ops Q L0 (.two i t j u) fr L:=
 ⟨λa gY=>⟨⟨o,ho,λw hw=>h.go a w gY hw⟩,⟨o2,Cv,λw hw=>h2.go a w gY hw⟩⟩⟩
theorem yL{o2 o3:Oper}{k:Nat}{u2:Ord}(ho:ops[i]?=aj o)(Cv:ops[j]?=aj o2)(ho3:ops[k]?=aj o3)(h:TL P n W ops (after P W ops Q L0 t) [o] fr L)(h2:TL P n W ops (after P W ops Q L0 u) [o2] fr L)(h3:TL P n W ops (after P W ops Q L0 u2) [o3] fr L):TW P n W ops Q L0 (.three i t j u k u2) fr L:=
 ⟨λa gY=>⟨⟨o,ho,λw hw=>h.go a w gY hw⟩,⟨o2,Cv,λw hw=>h2.go a w gY hw⟩,⟨o3,ho3,λw hw=>h3.go a w gY hw⟩⟩⟩
theorem aM{L':List cH}{FJ:Fr}(kg:∀w,Mem W L' w->Mem W L0 w)(h:TW P n W ops Q L0 t FJ L'):TL P n W ops (after P W ops Q L0 t) [] FJ L':=
 kI ⟨λa _ hr hm=>⟨Mem W L',ir _ _,kg,hm,h.go a hr⟩⟩
theorem Rn(h:E n W .normal Q fr L):TW P n W ops Q L0 .done fr L:=⟨λa hr w hw=>h.go a w hr hw⟩
theorem k8{x y:Code}{ι:Type}(ah:ι->Prop)(F:ι->Fr)(M:ι->List cH)
 (hx:T P n W x (Exit.then (Mid n W ah F M) Q) fr L) (hy:∀i,ah i->T P n W y Q (F i) (M i)):T P n W x (Exit.then (y.wp P Q) Q) fr L:= .mk λa w hr hm=>
 wp_mono (hx.go a w hr hm) λe a w h=>by
  cases e with
  |normal=>obtain⟨i,h1,h2,h3⟩:=h;exact(hy i h1).go a w h2 h3
  |_=>exact h
structure TN(P:Program)(n:Nat)(W:bO)(ops:Array Oper)(Q:Exit->Act->World->Prop)(L0:List cH)(o:Oper)(t:Ord)(fr:Fr)(L:List cH):Prop where
 go:∀a,ny n a fr->∃v,(∀w,Mem W L0 w->oR P o a w v)/\WL P ops Q (Mem W L0) t (a.put o.dst v) (Mem W L)
theorem WM(ho:ops[i]?=aj o)(hg:o.guard=ak)(h:TN P n W ops Q L0 o t fr L):TW P n W ops Q L0 (.calm i t) fr L:=⟨λa gY=>by
 obtain⟨v,h1,h2⟩:=h.go a gY;exact⟨o,v,ho,by rw[if_pos (qk hg)];exact h1,h2⟩⟩
theorem aaN{q e:Nat}{b:Bool}(ho:ops[i]?=aj o)(hg:o.guard=aj (q,b))(hj:(ops[q]?).bind (·.dst)=aj e)(hl:look fr e=aj (.bool b))(h:TN P n W ops Q L0 o t fr L):TW P n W ops Q L0 (.calm i t) fr L:=⟨λa gY=>by
 obtain⟨v,h1,h2⟩:=h.go a gY;exact⟨o,v,ho,by rw[if_pos (oY gY hg hj hl)];exact h1,h2⟩⟩
theorem adS(hr:RR P n W o fr L0 v)(hd:o.dst=aj d)(hn:dv d n=aD)(h:TW P n W ops Q L0 t ((d,v)::fr) L):TN P n W ops Q L0 o t fr L:=⟨λa gY=>
 ⟨v,λw hw=>by unfold oR;rw[hr.go a w gY hw];exact⟨rfl,Gr.refl _⟩,by rw[hd];exact h.go _ (gY.put hn v)⟩⟩
theorem QW(hr:RR P n W o fr L0 v)(h:TW P n W ops Q L0 t ((d,v)::fr) L)(hd:o.dst=aj d:=by exact I)(hn:dv d n=true:=by exact I):TN P n W ops Q L0 o t fr L:=adS hr hd hn h
end
end cI
namespace cI
open Go.RowKit cU dS
section
variable{P:Program}{n:Nat}{W:bO}{fr:Fr}{L L0:List cH}{Q:Exit->Act->World->Prop}{ops:Array Oper}{rest:List Oper}{d i:Nat}{o:Oper}{v:Value}{t:Ord}
inductive Gd(ops:Array Oper)(fr:Fr)(o:Oper):Prop
 |no (h:o.guard=ak)
 |yes (q e:Nat) (b:Bool) (hg:o.guard=aj (q,b)) (hj:(ops[q]?).bind (·.dst)=aj e) (hl:look fr e=aj (.bool b))
theorem RR.bare(h:RR P n W o fr L v):RR P n W {o with guard:=ak} fr L v:=⟨λa w hr hm=>h.go a w hr hm⟩
theorem afB(hr:RR P n W o fr L v)(hg:Gd ops fr o)(hd:o.dst=aj d)(hn:dv d n=aD)(h:TL P n W ops Q rest ((d,v)::fr) L):TL P n W ops Q (o::rest) fr L:=by
 rcases hg with hg|⟨q,e,b,hg,hj,hl⟩
 exact dx hr hg hd hn h;exact Cu hg hj hl (dx hr.bare I hd hn h)
theorem gV(hr:RR P n W o fr L v)(h:TL P n W ops Q rest ((d,v)::fr) L)(hg:Gd ops fr o:=by first|exact Gd.no I|exact Gd.yes _ _ _ I I I)(hd:o.dst=aj d:=by exact I)(hn:dv d n=true:=by exact I):TL P n W ops Q (o::rest) fr L:=afB hr hg hd hn h
theorem QK{dst:Option Tmp}{ty:TypeId}{pos:String}{after:Array Edge}{guard:Option (Nat×Bool)}{x:Operand}{a:Addr}(hx:ev fr x=aj (aJ (aj a)):=by exact I):RR P n W ⟨dst,.nilCheck x,ty,pos,after,guard⟩ fr L (aJ (aj a)):= .mk λact w hr _=>by
 simp[execOp,hr.ev hx]
end
structure Hid(B:Prop):Prop where
 go:B
theorem GC{A B:Prop}(h:B)(t:Hid B->A:=by
 intro h0
 first|refine gV QP ?_|refine QZ ?_|refine qcT I ?_|refine qcF I ?_|refine nF ?_|refine nG I ?_|refine qs I I I I I I ?_
 repeat (first|refine gV QP ?_|refine QZ ?_|refine qcT I ?_|refine qcF I ?_|refine nF ?_|refine nG I ?_|refine qs I I I I I I ?_)
 exact h0.go):A:=t ⟨h⟩
theorem GB{A B:Prop}(h:B)(t:Hid B->A:=by
 intro h0;refine gV (by first|exact QA|exact QK|exact QL|exact QS|exact Ak I I|exact QlT|exact QlF|exact QeT|exact QeF|exact QnT|exact QnF|exact QaA|exact QgT|exact QgF|exact QhT|exact QhF|exact QmT|exact QmF|exact QaS|exact QaM|exact De I I J|exact WA I I J) ?_;exact h0.go):A:=t ⟨h⟩
theorem GA{A B:Prop}(h:B)(t:Hid B->A:=by
 intro h0
 first|refine GC ?_|refine GB ?_
 repeat (first|refine GC ?_|refine GB ?_)
 exact h0.go):A:=t ⟨h⟩
theorem GD{A B:Prop}(h:B)(t:Hid B->A:=by
 intro h0;refine gV (by first|exact aC aK.ty I (by first|exact aH (i:=0) I I|exact aH (i:=1) I I|exact aH (i:=2) I I|exact aH (i:=3) I I|exact aH (i:=4) I I|exact aH (i:=5) I I|exact aH (i:=6) I I|exact aH (i:=7) I I|exact aH (i:=8) I I|exact aH (i:=9) I I|exact aH (i:=10) I I|exact aH (i:=11) I I|exact aH (i:=12) I I|exact aH (i:=13) I I|exact aH (i:=14) I I|exact aH (i:=15) I I)|exact aO (i:=0) aK.ty I I I|exact aO (i:=1) aK.ty I I I|exact aO (i:=2) aK.ty I I I|exact aO (i:=3) aK.ty I I I|exact aO (i:=4) aK.ty I I I|exact aO (i:=5) aK.ty I I I|exact aO (i:=6) aK.ty I I I|exact aO (i:=7) aK.ty I I I|exact aO (i:=8) aK.ty I I I|exact aO (i:=9) aK.ty I I I|exact aO (i:=10) aK.ty I I I|exact aO (i:=11) aK.ty I I I|exact aO (i:=12) aK.ty I I I|exact aO (i:=13) aK.ty I I I|exact aO (i:=14) aK.ty I I I|exact aO (i:=15) aK.ty I I I) ?_;exact h0.go):A:=t ⟨h⟩
theorem GK{A B:Prop}(h:B)(t:Hid B->A:=by
 intro h0
 first|refine GB ?_|refine GD ?_
 exact h0.go):A:=t ⟨h⟩
theorem GL{A B:Prop}(h:B)(t:Hid B->A:=by
 intro h0
 first|refine GA ?_|refine GD ?_
 exact h0.go):A:=t ⟨h⟩
theorem GM{A B:Prop}(h:B)(t:Hid B->A:=by
 intro h0;refine GL ?_
 repeat refine GL ?_
 exact h0.go):A:=t ⟨h⟩
theorem GN{A B:Prop}(h:B)(t:Hid B->A:=by
 intro h0
 first|refine WM I I ?_|refine aaN I I I I ?_
 exact h0.go):A:=t ⟨h⟩
theorem GX{A B:Prop}(h:B)(t:Hid B->A:=by
 intro h0
 first|refine QW QP ?_|refine QW (by first|exact QA|exact QK|exact QL|exact QS|exact Ak I I|exact QlT|exact QlF|exact QeT|exact QeF|exact QnT|exact QnF|exact QaA|exact QgT|exact QgF|exact QhT|exact QhF|exact QmT|exact QmF|exact QaS|exact QaM|exact De I I J|exact WA I I J) ?_
 exact h0.go):A:=t ⟨h⟩
theorem GW{A B:Prop}(h:B)(t:Hid B->A:=by
 intro h0
 first|(refine GN ?_;refine GX ?_)|refine Rm I I I I I I I ?_|refine Rn ?_
 repeat (first|(refine GN ?_;refine GX ?_)|refine Rm I I I I I I I ?_|refine Rn ?_)
 exact h0.go):A:=t ⟨h⟩
section
variable{P:Program}{n:Nat}{W:bO}{fr:Fr}{L L':List cH}{Q:Exit->Act->World->Prop}{ops:Array Oper}{rest:List Oper}
theorem bY{ι:Type}{ah:ι->Prop}{F:ι->Fr}{M:ι->List cH}{μ:ι->Nat}{x:ι}(x':ι)(hi:ah x')(hμ:μ x'<μ x)(hf:KX (F x') fr:=by repeat' (first|exact True.intro|refine And.intro rfl ?_))(hl:L=M x':=by exact rfl):
 E n W .normal (Exit.then (Rnd n W ah F M μ x) Q) fr L:=iB x' hi hμ hf hl
theorem ea{c:Code}{ι:Type}(ah:ι->Prop)(F:ι->Fr)(M:ι->List cH)(μ:ι->Nat)(x0:ι)(h0:ah x0)
 (round:∀x,ah x->T P n W c (Exit.then (Rnd n W ah F M μ x) Q) (F x) (M x)) (hf:KX (F x0) fr:=by repeat' (first|exact True.intro|refine And.intro rfl ?_)) (hl:L=M x0:=by exact rfl):T P n W (.loop c) Q fr L:=nZ ah F M μ x0 h0 hf hl round
theorem zL{A B:Prop}(h:B)(t:Hid B->A:=by
 intro h0
 (conv=>arg 8;simp only[zA,zB,zC,zD,zE,zF,zG,zH,zI,cK,ret,id_eq])
 exact h0.go):A:=t ⟨h⟩
end
theorem zJ:(∀{α:Type} {a:α} {l m:List α},a::l++m=a::(l++m))/\(∀{α:Type} {l:List α},[]++l=l)/\(∀{α:Type} {l:List α},l++[]=l)/\(∀{α β:Type} {f:α->Option β} {a:α} {l:List α},tS f (a::l)=match f a with
 |none=>tS f l
 |some b=>b::tS f l)/\(∀{α β:Type} {f:α->Option β},tS f []=[])/\(∀{α:Type} {a:α} {l:List α} {i:Nat},(a::l)[i+1]?=l[i]?)/\(∀{α:Type} {a:α} {l:List α},(a::l)[0]?=aj a)/\(∀{α:Type} {a b:α} {l:List α},(a::l).set 0 b=b::l)/\(∀{α:Type} {a b:α} {l:List α} {i:Nat},(a::l).set (i+1) b=a::l.set i b):=
 ⟨zA,zB,zC,zD,zE,zF,zG,zH,zI⟩
section
variable{P:Program}{n:Nat}{W:bO}{fr:Fr}{L L':List cH}{Q:Exit->Act->World->Prop}{ops:Array Oper}{rest:List Oper}
theorem bW(is:List Nat)(hn:is.Nodup:=by decide)(hl:L'=is.filterMap λi=>L[i]?:=by exact I):∀w,Mem W L w->Mem W L' w:=WK is hn hl
theorem Dl(is:List Nat)(h:TL P n W ops Q rest fr L')(hn:is.Nodup:=by decide)(hl:L'=is.filterMap λi=>L[i]?:=by exact I):TL P n W ops Q rest fr L:=aaM is hn hl h
theorem uc{c:Code}(is:List Nat)(h:T P n W c Q fr L')(hn:is.Nodup:=by decide)(hl:L'=is.filterMap λi=>L[i]?:=by exact I):T P n W c Q fr L:=adI is hn hl h
theorem dj{e:Exit}(is:List Nat)(h:E n W e Q fr L')(hn:is.Nodup:=by decide)(hl:L'=is.filterMap λi=>L[i]?:=by exact I):E n W e Q fr L:=adJ is hn hl h
theorem dN{id:Nat}{l:List Oper}(L0:List cH)(t:Ord)(kg:∀w,Mem W L w->Mem W L0 w)(h:TW P n W l.toArray Q L0 t fr L)(hm:P.follows .mixedOrders=true:=by kernel_rfl)(hB:adR l t=true:=by kernel_rfl)
 (hQ:∀c a d v w,Q (.panic c) (qE a d v) w->Q (.panic c) a w:=by intro c a d v w h;cases d<;>exact h):T P n W (.region id l.toArray aD) Q fr L:=afA L0 t kg hm hB hQ h
theorem eM{fn:Func}{w0:World}{t:Tmp}{v:Value}(mR:fn.results=#[.tmp t]:=by exact I)(hv:look fr t=aj v:=by exact I):E n w0 .ret (bodyPost P fn (cB (ret v) w0)) fr L:=cJ mR hv λw hm=>hm.ret
theorem gC{ty:TypeId}{pos:String}{after:Array Edge}{t:TypeId}{p x:Operand}(i:Nat){g c:Nat}{cs cs':Array Value}{T:TypeId}{agg:Bool}[hT:aK P t agg c](h:TL P n W ops Q rest fr (L.set i (aP g cs' T)))(hi:L[i]?=aj (aP g cs T):=by exact I)(hp:ev fr p=aj (aJ (aj ⟨g,0,ak⟩)):=by exact I)(hx:ev fr x=aj (.agg cs'):=by exact I)(hv:cs'.size=c:=by exact I)(h1:cs'.toList.all eZ=true:=by exact I)(hc:cs.size=c:=by exact I):
 TL P n W ops Q (⟨ak,.store t p x,ty,pos,after,ak⟩::rest) fr L:=aW hi hp hx hv h1 hc h
end
end cI
namespace cI
instance:bM aB 2 (.int .i64):=⟨Tryz.underlying2⟩
instance:aK aB 2 aE 1:={}
instance:bT aB 2 #[av az 0]:={}
instance:bM aB 3 (.int .i64):=⟨Tryz.underlying3⟩
instance:aK aB 3 aE 1:={}
instance:bT aB 3 #[av az 0]:={}
instance:bM aB 4 (.bool):=⟨Tryz.underlying4⟩
instance:aK aB 4 aE 1:={}
instance:bT aB 4 #[.bool aE]:={}
instance:bM aB 5 (.int .u8):=⟨Tryz.underlying5⟩
instance:aK aB 5 aE 1:={}
instance:bT aB 5 #[.int .u8 0]:={}
instance:bK aB 7 0 0:={}
instance:bK aB 7 1 1:={}
instance:bK aB 7 2 2:={}
instance:bK aB 7 3 3:={}
instance:aK aB 7 aD 4:={}
instance:bT aB 7 #[av az 0,av az 0,.bool aE,.int .u8 0]:={}
instance:bM aB 9 (.string):=⟨Tryz.underlying9⟩
instance:aK aB 9 aE 1:={}
instance:bT aB 9 #[.string ⟨#[]⟩]:={}
instance:bM aB 12 (.int .u64):=⟨Tryz.underlying12⟩
instance:aK aB 12 aE 1:={}
instance:bT aB 12 #[.int .u64 0]:={}
instance:bK aB 13 0 0:={}
instance:bK aB 13 1 1:={}
instance:aK aB 13 aD 2:={}
instance:bT aB 13 #[.string ⟨#[]⟩,.int .u64 0]:={}
instance:bM aB 21 (.int .i32):=⟨Tryz.underlying21⟩
instance:aK aB 21 aE 1:={}
instance:bT aB 21 #[.int .i32 0]:={}
instance:bM aB 22 (.slice 83):=⟨Tryz.underlying22⟩
instance:aK aB 22 aE 1:={}
instance:rf aB 22 83 7 80:={}
instance:bT aB 22 #[ap ak 0 0]:={}
instance:bM aB 23 (.slice 86):=⟨Tryz.underlying23⟩
instance:aK aB 23 aE 1:={}
instance:rf aB 23 86 2 40:={}
instance:bT aB 23 #[ap ak 0 0]:={}
instance:bK aB 24 0 0:={}
instance:bK aB 24 1 1:={}
instance:aK aB 24 aD 2:={}
instance:bT aB 24 #[ap ak 0 0,ap ak 0 0]:={}
instance:bK aB 25 0 0:={}
instance:bK aB 25 1 1:={}
instance:aK aB 25 aD 2:={}
instance:bT aB 25 #[ap ak 0 0,ap ak 0 0]:={}
instance:bM aB 26 (.slice 49):=⟨Tryz.underlying26⟩
instance:aK aB 26 aE 1:={}
instance:rf aB 26 49 3 32:={}
instance:bT aB 26 #[ap ak 0 0]:={}
instance:bM aB 27 (.slice 3):=⟨Tryz.underlying27⟩
instance:aK aB 27 aE 1:={}
instance:rf aB 27 3 1 8:={}
instance:bT aB 27 #[ap ak 0 0]:={}
instance:bM aB 28 (.array 256 5):=⟨Tryz.underlying28⟩
instance:aK aB 28 aD 256:={}
instance:bT aB 28 (da 256 (.int .u8 0:Value)).toArray:={}
instance:bM aB 29 (.slice 27):=⟨Tryz.underlying29⟩
instance:aK aB 29 aE 1:={}
instance:rf aB 29 27 1 24:={}
instance:bT aB 29 #[ap ak 0 0]:={}
instance:bK aB 30 0 0:={}
instance:bK aB 30 1 256:={}
instance:bK aB 30 2 257:={}
instance:aK aB 30 aD 258:={}
instance:bT aB 30 (da 256 (.int .u8 0:Value)++([ap ak 0 0,ap ak 0 0]:List Value)).toArray:={}
instance:bK aB 31 0 0:={}
instance:bK aB 31 1 256:={}
instance:bK aB 31 2 257:={}
instance:aK aB 31 aD 258:={}
instance:bT aB 31 (da 256 (.int .u8 0:Value)++([ap ak 0 0,ap ak 0 0]:List Value)).toArray:={}
instance:bM aB 32 (.slice 132):=⟨Tryz.underlying32⟩
instance:aK aB 32 aE 1:={}
instance:rf aB 32 132 2 32:={}
instance:bT aB 32 #[ap ak 0 0]:={}
instance:bK aB 33 0 0:={}
instance:bK aB 33 1 1:={}
instance:bK aB 33 2 2:={}
instance:aK aB 33 aD 3:={}
instance:bT aB 33 #[av az 0,av az 0,ap ak 0 0]:={}
instance:bK aB 34 0 0:={}
instance:bK aB 34 1 1:={}
instance:bK aB 34 2 2:={}
instance:aK aB 34 aD 3:={}
instance:bT aB 34 #[av az 0,av az 0,ap ak 0 0]:={}
instance:bM aB 35 (.slice 143):=⟨Tryz.underlying35⟩
instance:aK aB 35 aE 1:={}
instance:rf aB 35 143 1 24:={}
instance:bT aB 35 #[ap ak 0 0]:={}
instance:bK aB 36 0 0:={}
instance:bK aB 36 1 1:={}
instance:aK aB 36 aD 2:={}
instance:bT aB 36 #[ap ak 0 0,ap ak 0 0]:={}
instance:bK aB 37 0 0:={}
instance:bK aB 37 1 1:={}
instance:aK aB 37 aD 2:={}
instance:bT aB 37 #[ap ak 0 0,ap ak 0 0]:={}
instance:bK aB 38 0 0:={}
instance:bK aB 38 1 1:={}
instance:bK aB 38 2 259:={}
instance:bK aB 38 3 262:={}
instance:bK aB 38 4 263:={}
instance:bK aB 38 5 264:={}
instance:aK aB 38 aD 266:={}
instance:bT aB 38 (([ap ak 0 0]:List Value)++da 256 (.int .u8 0:Value)++([ap ak 0 0,ap ak 0 0,av az 0,av az 0,ap ak 0 0,av az 0,ap ak 0 0,ap ak 0 0,ap ak 0 0]:List Value)).toArray:={}
instance:bK aB 39 0 0:={}
instance:bK aB 39 1 1:={}
instance:bK aB 39 2 259:={}
instance:bK aB 39 3 262:={}
instance:bK aB 39 4 263:={}
instance:bK aB 39 5 264:={}
instance:aK aB 39 aD 266:={}
instance:bT aB 39 (([ap ak 0 0]:List Value)++da 256 (.int .u8 0:Value)++([ap ak 0 0,ap ak 0 0,av az 0,av az 0,ap ak 0 0,av az 0,ap ak 0 0,ap ak 0 0,ap ak 0 0]:List Value)).toArray:={}
instance:bM aB 40 (.int .i64):=⟨Tryz.underlying40⟩
instance:aK aB 40 aE 1:={}
instance:bT aB 40 #[av az 0]:={}
instance:bM aB 44 (.pointer 102):=⟨Tryz.underlying44⟩
instance:aK aB 44 aE 1:={}
instance:bT aB 44 #[aJ ak]:={}
instance:bK aB 48 0 0:={}
instance:bK aB 48 1 1:={}
instance:bK aB 48 2 2:={}
instance:aK aB 48 aD 3:={}
instance:bT aB 48 #[av az 0,av az 0,.string ⟨#[]⟩]:={}
instance:bK aB 49 0 0:={}
instance:bK aB 49 1 1:={}
instance:bK aB 49 2 2:={}
instance:aK aB 49 aD 3:={}
instance:bT aB 49 #[av az 0,av az 0,.string ⟨#[]⟩]:={}
instance:bM aB 53 (.slice 168):=⟨Tryz.underlying53⟩
instance:aK aB 53 aE 1:={}
instance:rf aB 53 168 2 16:={}
instance:bT aB 53 #[ap ak 0 0]:={}
instance:bM aB 61 (.pointer 39):=⟨Tryz.underlying61⟩
instance:aK aB 61 aE 1:={}
instance:bT aB 61 #[aJ ak]:={}
instance:bM aB 62 (.slice 4):=⟨Tryz.underlying62⟩
instance:aK aB 62 aE 1:={}
instance:rf aB 62 4 1 1:={}
instance:bT aB 62 #[ap ak 0 0]:={}
instance:bM aB 63 (.slice 75):=⟨Tryz.underlying63⟩
instance:aK aB 63 aE 1:={}
instance:rf aB 63 75 1 8:={}
instance:bT aB 63 #[ap ak 0 0]:={}
instance:bK aB 64 0 0:={}
instance:bK aB 64 1 1:={}
instance:bK aB 64 2 2:={}
instance:bK aB 64 3 3:={}
instance:bK aB 64 4 4:={}
instance:aK aB 64 aD 5:={}
instance:bT aB 64 #[ap ak 0 0,ap ak 0 0,ap ak 0 0,ap ak 0 0,ap ak 0 0]:={}
instance:bK aB 65 0 0:={}
instance:bK aB 65 1 1:={}
instance:bK aB 65 2 2:={}
instance:bK aB 65 3 3:={}
instance:bK aB 65 4 4:={}
instance:aK aB 65 aD 5:={}
instance:bT aB 65 #[ap ak 0 0,ap ak 0 0,ap ak 0 0,ap ak 0 0,ap ak 0 0]:={}
instance:bM aB 69 (.slice 137):=⟨Tryz.underlying69⟩
instance:aK aB 69 aE 1:={}
instance:rf aB 69 137 4 32:={}
instance:bT aB 69 #[ap ak 0 0]:={}
instance:bM aB 72 (.slice 148):=⟨Tryz.underlying72⟩
instance:aK aB 72 aE 1:={}
instance:rf aB 72 148 6 48:={}
instance:bT aB 72 #[ap ak 0 0]:={}
instance:bM aB 75 (.int .u64):=⟨Tryz.underlying75⟩
instance:aK aB 75 aE 1:={}
instance:bT aB 75 #[.int .u64 0]:={}
instance:bM aB 76 (.array 4 75):=⟨Tryz.underlying76⟩
instance:aK aB 76 aD 4:={}
instance:bT aB 76 #[.int .u64 0,.int .u64 0,.int .u64 0,.int .u64 0]:={}
instance:bM aB 77 (.array 4 75):=⟨Tryz.underlying77⟩
instance:aK aB 77 aD 4:={}
instance:bT aB 77 #[.int .u64 0,.int .u64 0,.int .u64 0,.int .u64 0]:={}
instance:bM aB 78 (.slice 80):=⟨Tryz.underlying78⟩
instance:aK aB 78 aE 1:={}
instance:rf aB 78 80 6 64:={}
instance:bT aB 78 #[ap ak 0 0]:={}
instance:bK aB 79 0 0:={}
instance:bK aB 79 1 1:={}
instance:bK aB 79 2 5:={}
instance:aK aB 79 aD 6:={}
instance:bT aB 79 #[av az 0,.int .u64 0,.int .u64 0,.int .u64 0,.int .u64 0,ap ak 0 0]:={}
instance:bK aB 80 0 0:={}
instance:bK aB 80 1 1:={}
instance:bK aB 80 2 5:={}
instance:aK aB 80 aD 6:={}
instance:bT aB 80 #[av az 0,.int .u64 0,.int .u64 0,.int .u64 0,.int .u64 0,ap ak 0 0]:={}
instance:bK aB 82 0 0:={}
instance:bK aB 82 1 1:={}
instance:aK aB 82 aD 7:={}
instance:bT aB 82 #[.string ⟨#[]⟩,av az 0,.int .u64 0,.int .u64 0,.int .u64 0,.int .u64 0,ap ak 0 0]:={}
instance:bK aB 83 0 0:={}
instance:bK aB 83 1 1:={}
instance:aK aB 83 aD 7:={}
instance:bT aB 83 #[.string ⟨#[]⟩,av az 0,.int .u64 0,.int .u64 0,.int .u64 0,.int .u64 0,ap ak 0 0]:={}
instance:bM aB 84 (.slice 9):=⟨Tryz.underlying84⟩
instance:aK aB 84 aE 1:={}
instance:rf aB 84 9 1 16:={}
instance:bT aB 84 #[ap ak 0 0]:={}
instance:bK aB 85 0 0:={}
instance:bK aB 85 1 1:={}
instance:aK aB 85 aD 2:={}
instance:bT aB 85 #[.string ⟨#[]⟩,ap ak 0 0]:={}
instance:bK aB 86 0 0:={}
instance:bK aB 86 1 1:={}
instance:aK aB 86 aD 2:={}
instance:bT aB 86 #[.string ⟨#[]⟩,ap ak 0 0]:={}
instance:bM aB 89 (.slice 159):=⟨Tryz.underlying89⟩
instance:aK aB 89 aE 1:={}
instance:rf aB 89 159 4 32:={}
instance:bT aB 89 #[ap ak 0 0]:={}
instance:bK aB 90 0 0:={}
instance:bK aB 90 1 1:={}
instance:bK aB 90 2 2:={}
instance:bK aB 90 3 3:={}
instance:aK aB 90 aD 4:={}
instance:bT aB 90 #[ap ak 0 0,av az 0,av az 0,.bool aE]:={}
instance:bK aB 91 0 0:={}
instance:bK aB 91 1 1:={}
instance:bK aB 91 2 2:={}
instance:bK aB 91 3 3:={}
instance:aK aB 91 aD 4:={}
instance:bT aB 91 #[ap ak 0 0,av az 0,av az 0,.bool aE]:={}
instance:bK aB 93 0 0:={}
instance:bK aB 93 1 1:={}
instance:bK aB 93 2 2:={}
instance:bK aB 93 3 3:={}
instance:aK aB 93 aD 4:={}
instance:bT aB 93 #[ap ak 0 0,av az 0,av az 0,.bool aE]:={}
instance:bK aB 94 0 0:={}
instance:bK aB 94 1 1:={}
instance:bK aB 94 2 2:={}
instance:bK aB 94 3 3:={}
instance:aK aB 94 aD 4:={}
instance:bT aB 94 #[ap ak 0 0,av az 0,av az 0,.bool aE]:={}
instance:bK aB 96 0 0:={}
instance:bK aB 96 1 1:={}
instance:bK aB 96 2 2:={}
instance:aK aB 96 aD 3:={}
instance:bT aB 96 #[av az 0,.string ⟨#[]⟩,av az 0]:={}
instance:bK aB 97 0 0:={}
instance:bK aB 97 1 1:={}
instance:bK aB 97 2 2:={}
instance:aK aB 97 aD 3:={}
instance:bT aB 97 #[av az 0,.string ⟨#[]⟩,av az 0]:={}
instance:bM aB 98 (.slice 163):=⟨Tryz.underlying98⟩
instance:aK aB 98 aE 1:={}
instance:rf aB 98 163 3 24:={}
instance:bT aB 98 #[ap ak 0 0]:={}
instance:bK aB 99 0 0:={}
instance:bK aB 99 1 1:={}
instance:bK aB 99 2 2:={}
instance:aK aB 99 aD 3:={}
instance:bT aB 99 #[ap ak 0 0,av az 0,av az 0]:={}
instance:bK aB 100 0 0:={}
instance:bK aB 100 1 1:={}
instance:bK aB 100 2 2:={}
instance:aK aB 100 aD 3:={}
instance:bT aB 100 #[ap ak 0 0,av az 0,av az 0]:={}
instance:bK aB 101 0 0:={}
instance:bK aB 101 1 266:={}
instance:bK aB 101 2 267:={}
instance:bK aB 101 3 268:={}
instance:bK aB 101 4 269:={}
instance:bK aB 101 5 270:={}
instance:bK aB 101 6 271:={}
instance:bK aB 101 7 272:={}
instance:bK aB 101 8 275:={}
instance:bK aB 101 9 276:={}
instance:bK aB 101 10 277:={}
instance:bK aB 101 11 281:={}
instance:bK aB 101 12 285:={}
instance:bK aB 101 13 288:={}
instance:bK aB 101 14 289:={}
instance:bK aB 101 15 290:={}
instance:aK aB 101 aD 291:={}
instance:bT aB 101 (([ap ak 0 0]:List Value)++da 256 (.int .u8 0:Value)++([ap ak 0 0,ap ak 0 0,av az 0,av az 0,ap ak 0 0,av az 0,ap ak 0 0,ap ak 0 0,ap ak 0 0,av az 0,av az 0,av az 0,.string ⟨#[]⟩,.bool aE,.bool aE,av az 0,.string ⟨#[]⟩,av az 0,av az 0,ap ak 0 0,ap ak 0 0,av az 0,av az 0,.bool aE,ap ak 0 0,av az 0,av az 0,.bool aE,ap ak 0 0,av az 0,av az 0,.bool aE,av az 0,av az 0]:List Value)).toArray:={}
instance:bK aB 102 0 0:={}
instance:bK aB 102 1 266:={}
instance:bK aB 102 2 267:={}
instance:bK aB 102 3 268:={}
instance:bK aB 102 4 269:={}
instance:bK aB 102 5 270:={}
instance:bK aB 102 6 271:={}
instance:bK aB 102 7 272:={}
instance:bK aB 102 8 275:={}
instance:bK aB 102 9 276:={}
instance:bK aB 102 10 277:={}
instance:bK aB 102 11 281:={}
instance:bK aB 102 12 285:={}
instance:bK aB 102 13 288:={}
instance:bK aB 102 14 289:={}
instance:bK aB 102 15 290:={}
instance:aK aB 102 aD 291:={}
instance:bT aB 102 (([ap ak 0 0]:List Value)++da 256 (.int .u8 0:Value)++([ap ak 0 0,ap ak 0 0,av az 0,av az 0,ap ak 0 0,av az 0,ap ak 0 0,ap ak 0 0,ap ak 0 0,av az 0,av az 0,av az 0,.string ⟨#[]⟩,.bool aE,.bool aE,av az 0,.string ⟨#[]⟩,av az 0,av az 0,ap ak 0 0,ap ak 0 0,av az 0,av az 0,.bool aE,ap ak 0 0,av az 0,av az 0,.bool aE,ap ak 0 0,av az 0,av az 0,.bool aE,av az 0,av az 0]:List Value)).toArray:={}
instance:bM aB 109 (.map 9 3):=⟨Tryz.underlying109⟩
instance:aK aB 109 aE 1:={}
instance:bT aB 109 #[.map ak]:={}
instance:bM aB 113 (.slice 77):=⟨Tryz.underlying113⟩
instance:aK aB 113 aE 1:={}
instance:rf aB 113 77 4 32:={}
instance:bT aB 113 #[ap ak 0 0]:={}
instance:bK aB 114 0 0:={}
instance:bK aB 114 1 1:={}
instance:bK aB 114 2 2:={}
instance:bK aB 114 3 3:={}
instance:bK aB 114 4 4:={}
instance:bK aB 114 5 5:={}
instance:aK aB 114 aD 6:={}
instance:bT aB 114 #[ap ak 0 0,ap ak 0 0,ap ak 0 0,ap ak 0 0,ap ak 0 0,ap ak 0 0]:={}
instance:bK aB 115 0 0:={}
instance:bK aB 115 1 1:={}
instance:bK aB 115 2 2:={}
instance:bK aB 115 3 3:={}
instance:bK aB 115 4 4:={}
instance:bK aB 115 5 5:={}
instance:aK aB 115 aD 6:={}
instance:bT aB 115 #[ap ak 0 0,ap ak 0 0,ap ak 0 0,ap ak 0 0,ap ak 0 0,ap ak 0 0]:={}
instance:bM aB 118 (.slice 187):=⟨Tryz.underlying118⟩
instance:aK aB 118 aE 1:={}
instance:rf aB 118 187 256 512:={}
instance:bT aB 118 #[ap ak 0 0]:={}
instance:bK aB 119 0 0:={}
instance:bK aB 119 1 1:={}
instance:aK aB 119 aD 2:={}
instance:bT aB 119 #[ap ak 0 0,ap ak 0 0]:={}
instance:bK aB 120 0 0:={}
instance:bK aB 120 1 1:={}
instance:aK aB 120 aD 2:={}
instance:bT aB 120 #[ap ak 0 0,ap ak 0 0]:={}
instance:bM aB 130 (.slice 156):=⟨Tryz.underlying130⟩
instance:aK aB 130 aE 1:={}
instance:rf aB 130 156 2 16:={}
instance:bT aB 130 #[ap ak 0 0]:={}
instance:bK aB 131 0 0:={}
instance:bK aB 131 1 1:={}
instance:aK aB 131 aD 2:={}
instance:bT aB 131 #[av az 0,ap ak 0 0]:={}
instance:bK aB 132 0 0:={}
instance:bK aB 132 1 1:={}
instance:aK aB 132 aD 2:={}
instance:bT aB 132 #[av az 0,ap ak 0 0]:={}
instance:bK aB 136 0 0:={}
instance:bK aB 136 1 1:={}
instance:bK aB 136 2 2:={}
instance:bK aB 136 3 3:={}
instance:aK aB 136 aD 4:={}
instance:bT aB 136 #[av az 0,av az 0,av az 0,av az 0]:={}
instance:bK aB 137 0 0:={}
instance:bK aB 137 1 1:={}
instance:bK aB 137 2 2:={}
instance:bK aB 137 3 3:={}
instance:aK aB 137 aD 4:={}
instance:bT aB 137 #[av az 0,av az 0,av az 0,av az 0]:={}
instance:bM aB 138 (.slice 203):=⟨Tryz.underlying138⟩
instance:aK aB 138 aE 1:={}
instance:rf aB 138 203 1 24:={}
instance:bT aB 138 #[ap ak 0 0]:={}
instance:bK aB 139 0 0:={}
instance:bK aB 139 1 1:={}
instance:aK aB 139 aD 2:={}
instance:bT aB 139 #[ap ak 0 0,ap ak 0 0]:={}
instance:bK aB 140 0 0:={}
instance:bK aB 140 1 1:={}
instance:aK aB 140 aD 2:={}
instance:bT aB 140 #[ap ak 0 0,ap ak 0 0]:={}
instance:bM aB 143 (.slice 146):=⟨Tryz.underlying143⟩
instance:aK aB 143 aE 1:={}
instance:rf aB 143 146 2 16:={}
instance:bT aB 143 #[ap ak 0 0]:={}
instance:bK aB 145 0 0:={}
instance:bK aB 145 1 1:={}
instance:aK aB 145 aD 2:={}
instance:bT aB 145 #[av az 0,av az 0]:={}
instance:bK aB 146 0 0:={}
instance:bK aB 146 1 1:={}
instance:aK aB 146 aD 2:={}
instance:bT aB 146 #[av az 0,av az 0]:={}
instance:bK aB 147 0 0:={}
instance:bK aB 147 1 1:={}
instance:bK aB 147 2 2:={}
instance:bK aB 147 3 4:={}
instance:aK aB 147 aD 6:={}
instance:bT aB 147 #[av az 0,av az 0,av az 0,av az 0,av az 0,av az 0]:={}
instance:bK aB 148 0 0:={}
instance:bK aB 148 1 1:={}
instance:bK aB 148 2 2:={}
instance:bK aB 148 3 4:={}
instance:aK aB 148 aD 6:={}
instance:bT aB 148 #[av az 0,av az 0,av az 0,av az 0,av az 0,av az 0]:={}
instance:bK aB 156 0 0:={}
instance:bK aB 156 1 1:={}
instance:aK aB 156 aD 2:={}
instance:bT aB 156 #[av az 0,av az 0]:={}
instance:bK aB 158 0 0:={}
instance:bK aB 158 1 1:={}
instance:bK aB 158 2 2:={}
instance:aK aB 158 aD 4:={}
instance:bT aB 158 #[.bool aE,av az 0,av az 0,av az 0]:={}
instance:bK aB 159 0 0:={}
instance:bK aB 159 1 1:={}
instance:bK aB 159 2 2:={}
instance:aK aB 159 aD 4:={}
instance:bT aB 159 #[.bool aE,av az 0,av az 0,av az 0]:={}
instance:bK aB 162 0 0:={}
instance:bK aB 162 1 1:={}
instance:bK aB 162 2 2:={}
instance:aK aB 162 aD 3:={}
instance:bT aB 162 #[av az 0,av az 0,av az 0]:={}
instance:bK aB 163 0 0:={}
instance:bK aB 163 1 1:={}
instance:bK aB 163 2 2:={}
instance:aK aB 163 aD 3:={}
instance:bT aB 163 #[av az 0,av az 0,av az 0]:={}
instance:bK aB 168 0 0:={}
instance:bK aB 168 1 1:={}
instance:aK aB 168 aD 2:={}
instance:bT aB 168 #[av az 0,av az 0]:={}
instance:bM aB 170 (.pointer 172):=⟨Tryz.underlying170⟩
instance:aK aB 170 aE 1:={}
instance:bT aB 170 #[aJ ak]:={}
instance:bK aB 171 0 0:={}
instance:bK aB 171 1 6:={}
instance:aK aB 171 aD 7:={}
instance:bT aB 171 #[ap ak 0 0,ap ak 0 0,ap ak 0 0,ap ak 0 0,ap ak 0 0,ap ak 0 0,av az 0]:={}
instance:bK aB 172 0 0:={}
instance:bK aB 172 1 6:={}
instance:aK aB 172 aD 7:={}
instance:bT aB 172 #[ap ak 0 0,ap ak 0 0,ap ak 0 0,ap ak 0 0,ap ak 0 0,ap ak 0 0,av az 0]:={}
instance:bK aB 173 0 0:={}
instance:bK aB 173 1 1:={}
instance:bK aB 173 2 2:={}
instance:aK aB 173 aD 3:={}
instance:bT aB 173 #[.bool aE,ap ak 0 0,ap ak 0 0]:={}
instance:bK aB 174 0 0:={}
instance:bK aB 174 1 1:={}
instance:bK aB 174 2 2:={}
instance:aK aB 174 aD 3:={}
instance:bT aB 174 #[.bool aE,ap ak 0 0,ap ak 0 0]:={}
instance:bM aB 177 (.map 9 156):=⟨Tryz.underlying177⟩
instance:aK aB 177 aE 1:={}
instance:bT aB 177 #[.map ak]:={}
instance:bM aB 180 (.pointer 184):=⟨Tryz.underlying180⟩
instance:aK aB 180 aE 1:={}
instance:bT aB 180 #[aJ ak]:={}
instance:bM aB 181 (.slice 233):=⟨Tryz.underlying181⟩
instance:aK aB 181 aE 1:={}
instance:rf aB 181 233 4 32:={}
instance:bT aB 181 #[ap ak 0 0]:={}
instance:bM aB 182 (.map 233 3):=⟨Tryz.underlying182⟩
instance:aK aB 182 aE 1:={}
instance:bT aB 182 #[.map ak]:={}
instance:bK aB 183 0 0:={}
instance:bK aB 183 1 6:={}
instance:bK aB 183 2 7:={}
instance:bK aB 183 3 8:={}
instance:aK aB 183 aD 10:={}
instance:bT aB 183 #[ap ak 0 0,ap ak 0 0,ap ak 0 0,ap ak 0 0,ap ak 0 0,ap ak 0 0,ap ak 0 0,.map ak,ap ak 0 0,ap ak 0 0]:={}
instance:bK aB 184 0 0:={}
instance:bK aB 184 1 6:={}
instance:bK aB 184 2 7:={}
instance:bK aB 184 3 8:={}
instance:aK aB 184 aD 10:={}
instance:bT aB 184 #[ap ak 0 0,ap ak 0 0,ap ak 0 0,ap ak 0 0,ap ak 0 0,ap ak 0 0,ap ak 0 0,.map ak,ap ak 0 0,ap ak 0 0]:={}
instance:bM aB 185 (.int .i16):=⟨Tryz.underlying185⟩
instance:aK aB 185 aE 1:={}
instance:bT aB 185 #[.int .i16 0]:={}
instance:bM aB 186 (.array 256 185):=⟨Tryz.underlying186⟩
instance:aK aB 186 aD 256:={}
instance:bT aB 186 (da 256 (.int .i16 0:Value)).toArray:={}
instance:bM aB 187 (.array 256 185):=⟨Tryz.underlying187⟩
instance:aK aB 187 aD 256:={}
instance:bT aB 187 (da 256 (.int .i16 0:Value)).toArray:={}
instance:bM aB 192 (.map 193 3):=⟨Tryz.underlying192⟩
instance:aK aB 192 aE 1:={}
instance:bT aB 192 #[.map ak]:={}
instance:bM aB 193 (.array 200 185):=⟨Tryz.underlying193⟩
instance:aK aB 193 aD 200:={}
instance:bT aB 193 (da 200 (.int .i16 0:Value)).toArray:={}
instance:bM aB 201 (.pointer 245):=⟨Tryz.underlying201⟩
instance:aK aB 201 aE 1:={}
instance:bT aB 201 #[aJ ak]:={}
instance:bM aB 203 (.slice 208):=⟨Tryz.underlying203⟩
instance:aK aB 203 aE 1:={}
instance:rf aB 203 208 3 24:={}
instance:bT aB 203 #[ap ak 0 0]:={}
instance:bK aB 207 0 0:={}
instance:bK aB 207 1 1:={}
instance:bK aB 207 2 2:={}
instance:aK aB 207 aD 3:={}
instance:bT aB 207 #[av az 0,av az 0,av az 0]:={}
instance:bK aB 208 0 0:={}
instance:bK aB 208 1 1:={}
instance:bK aB 208 2 2:={}
instance:aK aB 208 aD 3:={}
instance:bT aB 208 #[av az 0,av az 0,av az 0]:={}
instance:bM aB 211 (.int .u64):=⟨Tryz.underlying211⟩
instance:aK aB 211 aE 1:={}
instance:bT aB 211 #[.int .u64 0]:={}
instance:bM aB 229 (.pointer 3):=⟨Tryz.underlying229⟩
instance:aK aB 229 aE 1:={}
instance:bT aB 229 #[aJ ak]:={}
instance:bM aB 233 (.array 4 75):=⟨Tryz.underlying233⟩
instance:aK aB 233 aD 4:={}
instance:bT aB 233 #[.int .u64 0,.int .u64 0,.int .u64 0,.int .u64 0]:={}
instance:bM aB 239 (.map 241 3):=⟨Tryz.underlying239⟩
instance:aK aB 239 aE 1:={}
instance:bT aB 239 #[.map ak]:={}
instance:bK aB 240 0 0:={}
instance:bK aB 240 1 1:={}
instance:aK aB 240 aD 257:={}
instance:bT aB 240 (([av az 0]:List Value)++da 256 (.int .i16 0:Value)).toArray:={}
instance:bK aB 241 0 0:={}
instance:bK aB 241 1 1:={}
instance:aK aB 241 aD 257:={}
instance:bT aB 241 (([av az 0]:List Value)++da 256 (.int .i16 0:Value)).toArray:={}
instance:bM aB 243 (.map 272 75):=⟨Tryz.underlying243⟩
instance:aK aB 243 aE 1:={}
instance:bT aB 243 #[.map ak]:={}
instance:bK aB 244 0 0:={}
instance:bK aB 244 1 3:={}
instance:aK aB 244 aD 4:={}
instance:bT aB 244 #[av az 0,av az 0,ap ak 0 0,.map ak]:={}
instance:bK aB 245 0 0:={}
instance:bK aB 245 1 3:={}
instance:aK aB 245 aD 4:={}
instance:bT aB 245 #[av az 0,av az 0,ap ak 0 0,.map ak]:={}
instance:bM aB 246 (.slice 5):=⟨Tryz.underlying246⟩
instance:aK aB 246 aE 1:={}
instance:rf aB 246 5 1 1:={}
instance:bT aB 246 #[ap ak 0 0]:={}
instance:bM aB 247 (.map 208 3):=⟨Tryz.underlying247⟩
instance:aK aB 247 aE 1:={}
instance:bT aB 247 #[.map ak]:={}
instance:bM aB 256 (.pointer 260):=⟨Tryz.underlying256⟩
instance:aK aB 256 aE 1:={}
instance:bT aB 256 #[aJ ak]:={}
instance:bK aB 259 0 0:={}
instance:bK aB 259 1 3:={}
instance:bK aB 259 2 4:={}
instance:bK aB 259 3 5:={}
instance:aK aB 259 aD 6:={}
instance:bT aB 259 #[av az 0,av az 0,ap ak 0 0,ap ak 0 0,ap ak 0 0,av az 0]:={}
instance:bK aB 260 0 0:={}
instance:bK aB 260 1 3:={}
instance:bK aB 260 2 4:={}
instance:bK aB 260 3 5:={}
instance:aK aB 260 aD 6:={}
instance:bT aB 260 #[av az 0,av az 0,ap ak 0 0,ap ak 0 0,ap ak 0 0,av az 0]:={}
instance:bM aB 270 (.pointer 233):=⟨Tryz.underlying270⟩
instance:aK aB 270 aE 1:={}
instance:bT aB 270 #[aJ ak]:={}
instance:bK aB 271 0 0:={}
instance:bK aB 271 1 1:={}
instance:aK aB 271 aD 2:={}
instance:bT aB 271 #[av az 0,av az 0]:={}
instance:bK aB 272 0 0:={}
instance:bK aB 272 1 1:={}
instance:aK aB 272 aD 2:={}
instance:bT aB 272 #[av az 0,av az 0]:={}
instance:bM aB 285 (.int .i64):=⟨Tryz.underlying285⟩
instance:aK aB 285 aE 1:={}
instance:bT aB 285 #[av az 0]:={}
instance:bM aB 292 (.int .u32):=⟨Tryz.underlying292⟩
instance:aK aB 292 aE 1:={}
instance:bT aB 292 #[.int .u32 0]:={}
instance:bM aB 301 (.int .u64):=⟨Tryz.underlying301⟩
instance:aK aB 301 aE 1:={}
instance:bT aB 301 #[.int .u64 0]:={}
instance:bM aB 308 (.pointer 301):=⟨Tryz.underlying308⟩
instance:aK aB 308 aE 1:={}
instance:bT aB 308 #[aJ ak]:={}
instance:bM aB 321 (.pointer 5):=⟨Tryz.underlying321⟩
instance:aK aB 321 aE 1:={}
instance:bT aB 321 #[aJ ak]:={}
instance:bK aB 324 0 0:={}
instance:bK aB 324 1 1:={}
instance:bK aB 324 2 2:={}
instance:bK aB 324 3 3:={}
instance:bK aB 324 4 4:={}
instance:bK aB 324 5 5:={}
instance:bK aB 324 6 6:={}
instance:bK aB 324 7 7:={}
instance:bK aB 324 8 8:={}
instance:bK aB 324 9 9:={}
instance:bK aB 324 10 10:={}
instance:aK aB 324 aD 11:={}
instance:bT aB 324 #[.int .u64 0,.int .u64 0,.int .u32 0,.int .u8 0,.int .u8 0,.int .u8 0,.int .u8 0,.nilFunc,aJ ak,.int .i32 0,.int .i32 0]:={}
instance:aI aB 3:={}
instance:aI aB 4:={}
instance:aI aB 5:={}
instance:aI aB 6:={}
instance:aI aB 7:={}
instance:aI aB 8:={}
instance:aI aB 9:={}
instance:aI aB 10:={}
instance:aI aB 11:={}
instance:aI aB 12:={}
instance:aI aB 13:={}
instance:aI aB 14:={}
instance:aI aB 15:={}
instance:aI aB 16:={}
instance:aI aB 17:={}
instance:aI aB 18:={}
instance:aI aB 19:={}
instance:aI aB 20:={}
instance:aI aB 21:={}
instance:aI aB 22:={}
instance:aI aB 23:={}
instance:aI aB 24:={}
instance:aI aB 25:={}
instance:aI aB 26:={}
instance:aI aB 27:={}
instance:aI aB 28:={}
instance:aI aB 29:={}
instance:aI aB 30:={}
instance:aI aB 31:={}
instance:aI aB 32:={}
instance:aI aB 33:={}
instance:aI aB 34:={}
instance:aI aB 35:={}
instance:aI aB 36:={}
instance:aI aB 37:={}
instance:aI aB 38:={}
instance:aI aB 39:={}
instance:aI aB 40:={}
instance:aI aB 41:={}
instance:aI aB 42:={}
instance:aI aB 43:={}
instance:aI aB 44:={}
instance:aI aB 45:={}
instance:aI aB 46:={}
instance:aI aB 47:={}
instance:aI aB 48:={}
instance:aI aB 49:={}
instance:aI aB 50:={}
instance:aI aB 51:={}
instance:aI aB 52:={}
instance:aI aB 53:={}
instance:aI aB 54:={}
instance:aI aB 55:={}
instance:aI aB 56:={}
instance:aI aB 57:={}
instance:aI aB 58:={}
instance:aI aB 59:={}
instance:aI aB 60:={}
instance:aI aB 61:={}
instance:aI aB 62:={}
instance:aI aB 63:={}
instance:aI aB 64:={}
instance:aI aB 65:={}
instance:aI aB 66:={}
instance:aI aB 67:={}
instance:aI aB 68:={}
instance:aI aB 69:={}
instance:aI aB 70:={}
instance:aI aB 71:={}
instance:aI aB 72:={}
instance:aI aB 73:={}
instance:aI aB 74:={}
instance:aI aB 75:={}
instance:aI aB 76:={}
instance:aI aB 77:={}
instance:aI aB 78:={}
instance:aI aB 79:={}
instance:aI aB 80:={}
instance:aI aB 81:={}
instance:aI aB 82:={}
instance:aI aB 83:={}
instance:aI aB 84:={}
instance:aI aB 85:={}
instance:aI aB 86:={}
instance:aI aB 87:={}
instance:aI aB 88:={}
instance:aI aB 89:={}
instance:aI aB 90:={}
instance:aI aB 91:={}
instance:aI aB 92:={}
instance:aI aB 93:={}
instance:aI aB 94:={}
instance:aI aB 95:={}
instance:aI aB 96:={}
instance:aI aB 97:={}
instance:aI aB 98:={}
instance:aI aB 99:={}
instance:aI aB 100:={}
instance:aI aB 101:={}
instance:aI aB 102:={}
instance:aI aB 103:={}
instance:aI aB 104:={}
instance:aI aB 105:={}
instance:aI aB 106:={}
instance:aI aB 107:={}
instance:aI aB 108:={}
instance:aI aB 109:={}
instance:aI aB 110:={}
instance:aI aB 111:={}
instance:aI aB 112:={}
instance:aI aB 113:={}
instance:aI aB 114:={}
instance:aI aB 115:={}
instance:aI aB 116:={}
instance:aI aB 117:={}
instance:aI aB 118:={}
instance:aI aB 119:={}
instance:aI aB 120:={}
instance:aI aB 121:={}
instance:aI aB 122:={}
instance:aI aB 123:={}
instance:aI aB 124:={}
instance:aI aB 125:={}
instance:aI aB 126:={}
instance:aI aB 127:={}
instance:aI aB 128:={}
instance:aI aB 129:={}
instance:aI aB 130:={}
instance:aI aB 131:={}
instance:aI aB 132:={}
instance:aI aB 133:={}
instance:aI aB 134:={}
instance:aI aB 135:={}
instance:aI aB 136:={}
instance:aI aB 137:={}
instance:aI aB 138:={}
instance:aI aB 139:={}
instance:aI aB 140:={}
instance:aI aB 141:={}
instance:aI aB 142:={}
instance:aI aB 143:={}
instance:aI aB 144:={}
instance:aI aB 145:={}
instance:aI aB 146:={}
instance:aI aB 147:={}
instance:aI aB 148:={}
instance:aI aB 149:={}
instance:aI aB 150:={}
instance:aI aB 151:={}
instance:aI aB 152:={}
instance:aI aB 153:={}
instance:aI aB 154:={}
instance:aI aB 155:={}
instance:aI aB 156:={}
instance:aI aB 157:={}
instance:aI aB 158:={}
instance:aI aB 159:={}
instance:aI aB 160:={}
instance:aI aB 161:={}
instance:aI aB 162:={}
instance:aI aB 163:={}
instance:aI aB 164:={}
instance:aI aB 165:={}
instance:aI aB 166:={}
instance:aI aB 167:={}
instance:aI aB 168:={}
instance:aI aB 169:={}
instance:aI aB 170:={}
instance:aI aB 171:={}
instance:aI aB 172:={}
end cI
namespace cI
open Go.RowKit cU dS
theorem fin{P:Program}{f:FuncId}{args:Array Value}{w:World}(h:Calls P f args w (cB (ret (.bool aD)) w)):Calls P f args w λe w'=>e= .returned (.bool aD)/\Below w.heap.size w w':=h.mono λ_ _ h=>Db h
end cI
namespace dl
def fT(x:BitVec 64):Int:=x.toNat
abbrev v64(x:BitVec 64):Value:= .int .u64 (fT x)
theorem adT(x:BitVec 64):0<=fT x:=by unfold fT;omega
theorem adU(x:BitVec 64):fT x<=18446744073709551615:=by have:=x.isLt;unfold fT;omega
theorem ox{x y:BitVec 64}(h:fT x=fT y):x=y:=by
 apply VH;unfold fT at h;omega
theorem adV(x y:BitVec 64):(fT x==fT y)=(x==y):=by
 by_cases h:x=y
 subst h;simp;have:fT x≠fT y:=λe=>h (ox e);rw[beq_eq_false_iff_ne.2 this,beq_eq_false_iff_ne.2 h]
theorem wrap64(x:BitVec 64):tQ.wrap (fT x)=fT x:=by
 have:=x.isLt;unfold fT;rw[sc];omega
theorem ofInt64(x:BitVec 64):xh 64 (fT x)=x:=by
 apply VH;simp[fT]
theorem afC(x y:BitVec 64):bits .and .u64 (fT x) (fT y)=fT (x&&&y):=by
 unfold bits;simp only[lI,ofInt64];exact wrap64 _
theorem ahf(x y:BitVec 64):bits .or .u64 (fT x) (fT y)=fT (x|||y):=by
 unfold bits;simp only[lI,ofInt64];exact wrap64 _
theorem ac3(x y:BitVec 64):bits .xor .u64 (fT x) (fT y)=fT (x^^^y):=by
 unfold bits;simp only[lI,ofInt64];exact wrap64 _
theorem afD(x:BitVec 64):bits .xor .u64 tQ.max (fT x)=fT (~~~ x):=by
 have h:=ac3 (BitVec.allOnes 64) x;rw[BitVec.allOnes_xor]at h;rw[<-h];rfl
theorem Tj(b:Nat)(h:b<4294967296):bits .and .i64 (b:Int) 63=((b %64:Nat):Int):=by
 have e1:xh 64 (b:Int)=io 64 b:=by simp
 have e2:(io 64 b&&&63#64).toNat=b %64:=by
  rw[BitVec.toNat_and,CZ,Og (by omega:b<2^64)];exact Nat.and_two_pow_sub_one_eq_mod b 6
 have e3:bits .and .i64 (b:Int) 63=az.wrap (((io 64 b&&&63#64).toNat:Nat):Int):=by
  unfold bits;simp only[lI,e1];rfl
 rw[e3,e2,IntKind.wrap_i64];omega
theorem aaO(k:Nat)(h:k<64):tQ.wrap ((2:Int)^k)=fT (io 64 (2^k)):=by
 have this:2^k<2^64:=Nat.pow_lt_pow_right aiT h;unfold fT;rw[CZ,Og this,sc];have e:(2:Int)^k=((2^k:Nat):Int):=by simp
 rw[e];generalize 2^k=m at*;omega
structure C4 where
 a:BitVec 64
 b:BitVec 64
 c:BitVec 64
 d:BitVec 64
 deriving DecidableEq
def C4.get(x:C4)(i:Nat):BitVec 64:=if i=0 then x.a else if i=1 then x.b else if i=2 then x.c else x.d
def C4.set(x:C4)(i:Nat)(v:BitVec 64):C4:=if i=0 then {x with a:=v}else if i=1 then {x with b:=v}else if i=2 then {x with c:=v}else {x with d:=v}
def C4.zero:C4:=⟨0,0,0,0⟩
def C4.WN(x y:C4):C4:=⟨x.a&&&y.a,x.b&&&y.b,x.c&&&y.c,x.d&&&y.d⟩
def C4.not(x:C4):C4:=⟨~~~x.a,~~~x.b,~~~x.c,~~~x.d⟩
def dV(x:C4):List Value:=[.int .u64 (fT x.a),.int .u64 (fT x.b),.int .u64 (fT x.c),.int .u64 (fT x.d)]
def oy(x:C4):Value:=aQ #[.int .u64 (fT x.a),.int .u64 (fT x.b),.int .u64 (fT x.c),.int .u64 (fT x.d)]
theorem WO(x:C4)(i:Nat)(h:i<4):(dV x)[i]?=aj (v64 (x.get i)):=by
 match i,h with
 |0,_=>rfl
 |1,_=>rfl
 |2,_=>rfl
 |3,_=>rfl
theorem WQ(x:C4)(i:Nat)(h:i<4)(v:BitVec 64):(dV x).set i (v64 v)=dV (x.set i v):=by
 match i,h with
 |0,_=>rfl
 |1,_=>rfl
 |2,_=>rfl
 |3,_=>rfl
def C4.bit(x:C4)(n:Nat):C4:=x.set (n/64) (x.get (n/64)|||io 64 (2^(n %64)))
def C4.jU(x:C4)(b:Nat):Nat->C4
 |0=>x
 |n+1=>(C4.jU x b n).bit (b+n)
theorem WR(x:C4)(b n:Nat):(C4.jU x b n).set ((b+n)/64) ((C4.jU x b n).get ((b+n)/64)|||io 64 (2^((b+n) %64)))=C4.jU x b (n+1):=rfl
def fg(lo hi:Int):C4:=C4.jU C4.zero (max lo 0).toNat (min hi 255+1-max lo 0).toNat
theorem C4.ext'{x y:C4}(h1:x.a=y.a)(h2:x.b=y.b)(h3:x.c=y.c)(h4:x.d=y.d):x=y:=by
 cases x;cases y;simp_all
theorem b5(p q:Bool):(p||(p&&q))=p:=by cases p<;>cases q<;>rfl
end dl
namespace dl
def b8(b:Nat):Nat:=((b/4)&&&51)+(b&&&51)
def c8(b:Nat):Nat:=(b/16+b)&&&15
theorem k1:∀t<2,∀c<128,(c+128*t)&&&85=c&&&85:=by decide+kernel
theorem k2:∀t<4,∀c<64,(c+64*t)&&&51=c&&&51:=by decide+kernel
theorem k3:∀t<5,∀p<5,∀q<5,(p+(q+16*p)+16*t)&&&15=c8 (q+16*p):=by decide+kernel
def s1(x:Nat):Nat:=((x/2)&&&6148914691236517205)+(x&&&6148914691236517205)
def s2(x:Nat):Nat:=((x/4)&&&3689348814741910323)+(x&&&3689348814741910323)
def s3(x:Nat):Nat:=(x/16+x)&&&1085102592571150095
def s4(x:Nat):Nat:=x+x/256
def s5(x:Nat):Nat:=x+x/65536
def s6(x:Nat):Nat:=x+x/4294967296
end dl
namespace dl
def C4.mem(x:C4)(n:Nat):Bool:=(x.get (n/64)).toNat.testBit (n %64)
def xE(x:C4):List Nat:=(List.range 256).filter x.mem
def WT(x:C4):Nat:=(xE x).length
theorem get_mem(x:C4)(n:Nat):x.mem n=(x.get (n/64)).getLsbD (n %64):=by
 unfold C4.mem;rw[BitVec.getLsbD]
theorem K5(n:Nat):C4.zero.mem n=false:=by
 rw[get_mem];have:C4.zero.get (n/64)=0:=by unfold C4.get C4.zero;split;rfl;split;rfl;split<;>rfl
 rw[this];simp
theorem ext_mem{x y:C4}(h:∀n,n<256->x.mem n=y.mem n):x=y:=by
 have w:∀i,i<4->x.get i=y.get i:=λi hi=>by
  apply BitVec.eq_of_getLsbD_eq;intro j hj;have:=h (64*i+j) J;rw[get_mem,get_mem,show(64*i+j)/64=i by omega,show(64*i+j) %64=j by omega]at this;exact this
 exact C4.ext' (w 0 aiT) (w 1 aiT) (w 2 aiT) (w 3 aiT)
theorem Tk{x:C4}{n:Nat}:n∈xE x↔n<256/\x.mem n=true:=by
 unfold xE;rw[List.mem_filter,List.mem_range]
end dl
namespace gj
open dl
inductive Rx where
 |mk (kind:Int) (c:C4) (kids:List Rx)
def Rx.kind:Rx->Int| .mk k _ _=>k
def Rx.ud:Rx->C4| .mk _ c _=>c
def Rx.kids:Rx->List Rx| .mk _ _ l=>l
def Dm(k:Int):Int:=if k=1 then 0 else if k=2 then 0 else if k=3 then 0 else if k=6 then 1 else if k=4 then 2 else if k=5 then 2 else-1
mutual
def mh:Rx->Nat->Nat->Int×Nat
 | .mk k c l,deep,n=>if 100<n+1 then(2,n+1)else if 30<deep then(7,n+1)else if Dm k≠(l.length:Int)then(1,n+1)else if(decide (k=3) !=decide (c≠C4.zero))=aD then(1,n+1)else B4 l (deep+1) (n+1)
def B4:List Rx->Nat->Nat->Int×Nat
 |[],_,n=>(0,n)
 |r::l,deep,n=>if(mh r deep n).1≠0 then mh r deep n else B4 l deep (mh r deep n).2
end
mutual
def tc:Rx->Nat
 | .mk _ _ l=>so l+1
def so:List Rx->Nat
 |[]=>0
 |r::l=>tc r+so l
end
theorem GQ(r:Rx):0<tc r:=by obtain⟨k,c,l⟩:=r;rw[tc];omega
theorem Dn:∀{l:List Rx} {r:Rx},r∈l->tc r<=so l
 |x::l,r,h=>by
  rw[so];rcases dA.1 h with rfl|h
  omega;have:=Dn h;omega
inductive Re where
 |none
 |empty
 |byte (c:C4)
 |IC (a b:Re)
 |ID (a b:Re)
 |star (a:Re)
def Re.size:Re->Nat
 | .IC a b=>a.size+b.size+1
 | .ID a b=>a.size+b.size+1
 | .star a=>a.size+1
 |_=>1
def Re.K6:Re->Nat
 | .IC a b=>max a.K6 b.K6+1
 | .ID a b=>max a.K6 b.K6+1
 | .star a=>a.K6+1
 |_=>1
def Re.nz:Re->Prop
 | .byte c=>c≠C4.zero
 | .IC a b=>a.nz/\b.nz
 | .ID a b=>a.nz/\b.nz
 | .star a=>a.nz
 |_=>True
def Re.kind:Re->Int
 | .none=>1
 | .empty=>2
 | .byte _=>3
 | .IC _ _=>4
 | .ID _ _=>5
 | .star _=>6
def Re.ud:Re->C4
 | .byte c=>c
 |_=>C4.zero
def Re.kids:Re->List Re
 | .IC a b=>[a,b]
 | .ID a b=>[a,b]
 | .star a=>[a]
 |_=>[]
def lx:Re->Rx
 | .none=> .mk 1 C4.zero []
 | .empty=> .mk 2 C4.zero []
 | .byte c=> .mk 3 c []
 | .IC a b=> .mk 4 C4.zero [lx a,lx b]
 | .ID a b=> .mk 5 C4.zero [lx a,lx b]
 | .star a=> .mk 6 C4.zero [lx a]
theorem adW(r:Re):lx r= .mk r.kind r.ud (r.kids.map lx):=by cases r<;>rfl
theorem Re.size_pos(r:Re):0<r.size:=by cases r<;>simp[Re.size]
theorem Ro{α:Type}{l:List α}(h:l.length=2):∃a b,l=[a,b]:=
 match l,h with
 |[a,b],_=>⟨a,b,rfl⟩
structure Fit(r:Re)(deep n:Nat):Prop where
 nz:r.nz
 sz:n+r.size<=100
 dp:deep+r.K6<=31
theorem Dp{p:Int×Nat}{q:Nat}(h:p=(0,q)):p.1=0/\p.2=q:=by subst h;exact⟨rfl,rfl⟩
theorem IE:∀(N:Nat) (r:Rx) (deep n q:Nat),tc r<=N->mh r deep n=(0,q)->∃e:Re,r=lx e/\Fit e deep n/\q=n+e.size
 |0,r,_,_,_,h,_=>by have:=GQ r;omega
 | N + 1,.mk k c l,deep,n,q,hN,h=>by
  have IH:=IE N;rw[tc]at hN;rw[mh]at h;split at h;simp at h;split at h;simp at h;split at h;simp at h;split at h;simp at h
  rename_i h1 h2 h3 h4
  have h3:Dm k=(l.length:Int):=by simpa using h3
  have h4:decide (k=3)=decide (c≠C4.zero):=by
   generalize decide (k=3)=x at*;generalize decide (c≠C4.zero)=y at*
   cases x<;>cases y<;>simp_all
  have leaf:∀e:Re,k=e.kind->c=e.ud->l=[]->e.kids=[]->e.size=1->e.K6=1->e.nz->∃e:Re,Rx.mk k c l=lx e/\Fit e deep n/\q=n+e.size:=λe a1 a2 a3 a4 a5 a6 a7=>by
   subst a1 a2 a3;rw[B4]at h;refine⟨e,by rw[adW,a4];rfl,⟨a7,by omega,by omega⟩,?_⟩;simp at h;omega
  unfold Dm at h3;have hz:k≠3->c=C4.zero:=λhk=>by
   rw[decide_eq_false hk]at h4;exact NV λhc=>by rw[decide_eq_true hc]at h4;cases h4
  by_cases k1:k=1
  ·rw[if_pos k1]at h3
   exact leaf .none k1 (hz J) (se J) I I I trivial
  rw[if_neg k1]at h3
  by_cases k2:k=2
  ·rw[if_pos k2]at h3
   exact leaf .empty k2 (hz J) (se J) I I I trivial
  rw[if_neg k2]at h3
  by_cases k3:k=3
  ·rw[if_pos k3]at h3
   rw[decide_eq_true k3]at h4;exact leaf (.byte c) k3 I (se J) I I I (by show c≠C4.zero;exact of_decide_eq_true h4.symm)
  rw[if_neg k3]at h3;have hc:=hz k3;subst hc;have two:∀(a b:Rx),l=[a,b]->∃x y:Re,a=lx x/\b=lx y/\Fit x (deep+1) (n+1)/\Fit y (deep+1) (n+1+x.size)/\q=n+1+x.size+y.size:=λa b hl=>by
   subst hl;rw[so,so,so]at hN;rw[B4,B4,B4]at h
   by_cases e1:(mh a (deep+1) (n+1)).1=0
   ·rw[if_neg (by simpa using e1)]at h
    obtain⟨x,rfl,f1,g1⟩:=IH a (deep+1) (n+1) (mh a (deep+1) (n+1)).2 J (qJ e1 rfl);rw[g1]at h
    by_cases e2:(mh b (deep+1) (n+1+x.size)).1=0
    ·rw[if_neg (by simpa using e2)]at h
     obtain⟨y,rfl,f2,g2⟩:=IH b (deep+1) (n+1+x.size) (mh b (deep+1) (n+1+x.size)).2 J (qJ e2 rfl);exact⟨x,y,rfl,rfl,f1,f2,by rw[g2]at h;simp at h;omega⟩
    rw[if_pos e2]at h;exact absurd (Dp h).1 e2
   rw[if_pos e1]at h;exact absurd (Dp h).1 e1
  by_cases k6:k=6
  ·rw[if_pos k6]at h3
   obtain⟨a,rfl⟩:∃a,l=[a]:=List.length_eq_one_iff.1 J;rw[so,so]at hN;rw[B4,B4]at h
   by_cases e1:(mh a (deep+1) (n+1)).1=0
   ·rw[if_neg (by simpa using e1)]at h
    obtain⟨x,rfl,f1,g1⟩:=IH a (deep+1) (n+1) (mh a (deep+1) (n+1)).2 J (qJ e1 rfl);have:=f1.sz;have:=f1.dp;exact⟨.star x,by rw[k6];rfl,⟨f1.nz,by simp only[Re.size];omega,by simp only[Re.K6];omega⟩,by rw[g1]at h;simp at h;simp only[Re.size];omega⟩
   rw[if_pos e1]at h;exact absurd (Dp h).1 e1
  rw[if_neg k6]at h3
  by_cases k4:k=4
  ·rw[if_pos k4]at h3
   obtain⟨a,b,rfl⟩:∃a b,l=[a,b]:=Ro J;obtain⟨x,y,rfl,rfl,f1,f2,g⟩:=two a b rfl;have:=f1.dp;have:=f2.dp;have:=f2.sz;exact⟨.IC x y,by rw[k4];rfl,⟨⟨f1.nz,f2.nz⟩,by simp only[Re.size];omega,by simp only[Re.K6];omega⟩,by simp only[Re.size];omega⟩
  rw[if_neg k4]at h3
  by_cases k5:k=5
  ·rw[if_pos k5]at h3
   obtain⟨a,b,rfl⟩:∃a b,l=[a,b]:=Ro J;obtain⟨x,y,rfl,rfl,f1,f2,g⟩:=two a b rfl;have:=f1.dp;have:=f2.dp;have:=f2.sz;exact⟨.ID x y,by rw[k5];rfl,⟨⟨f1.nz,f2.nz⟩,by simp only[Re.size];omega,by simp only[Re.K6];omega⟩,by simp only[Re.size];omega⟩
  rw[if_neg k5]at h3;omega
inductive FT(P:List UInt8->Prop):List UInt8->Prop
 |nil:FT P []
 |cons {u v:List UInt8}:P u->FT P v->FT P (u++v)
def K7:Re->List UInt8->Prop
 | .none,_=>False
 | .empty,s=>s=[]
 | .byte c,s=>∃b:UInt8,s=[b]/\c.mem b.toNat=aD
 | .IC a b,s=>∃u v,s=u++v/\K7 a u/\K7 b v
 | .ID a b,s=>K7 a s\/K7 b s
 | .star a,s=>FT (K7 a) s
theorem Tl{P:List UInt8->Prop}{u v:List UInt8}(h:FT P u)(hv:P v):FT P (u++v):=by
 induction h with
 |nil=>have:=FT.cons hv .nil;simpa using this
 |cons h1 _ ih=>rw[eD];exact .cons h1 ih
def OA(s:List UInt8)(f j:Nat):List UInt8:=(s.drop f).take (j-f)
theorem IF{s:List UInt8}{f j:Nat}(h:j<=s.length):(OA s f j).length=j-f:=by unfold OA;rw[iZ,List.length_drop];omega
theorem WU(s:List UInt8)(f:Nat):OA s f f=[]:=by unfold OA;simp
theorem Rp{s:List UInt8}{f i j:Nat}(h1:f<=i)(h2:i<=j):OA s f j=OA s f i++OA s i j:=by
 unfold OA;rw[show j-f=(i-f)+(j-i)by omega,List.take_add,qH,show f+(i-f)=i by omega]
theorem aaP{s u v:List UInt8}{f j:Nat}(hf:f<=j)(hj:j<=s.length)(h:OA s f j=u++v):f+u.length<=j/\u=OA s f (f+u.length)/\v=OA s (f+u.length) j:=by
 have hl:=IF (s:=s) (f:=f) hj;rw[h,bI]at hl;have h1:f+u.length<=j:=by omega
 have e:=Rp (s:=s) (f:=f) (i:=f+u.length) (j:=j) J h1;rw[h]at e;have hlu:u.length=(OA s f (f+u.length)).length:=by rw[IF J];omega
 have:=List.append_inj e hlu;exact⟨h1,this.1,this.2⟩
def Tm(r:Re)(s:List UInt8)(f j:Nat):Prop:=f<=j/\j<=s.length/\K7 r (OA s f j)
inductive Rch(R:Nat->Nat->Prop)(f:Nat):Nat->Prop
 |refl:Rch R f f
 |step {i j:Nat}:Rch R f i->R i j->Rch R f j
theorem Rch.cons{R:Nat->Nat->Prop}{f i j:Nat}(h:R f i)(h':Rch R i j):Rch R f j:=by
 induction h' with
 |refl=>exact .step .refl h
 |step _ h2 ih=>exact .step ih h2
theorem WV{a:Re}{s:List UInt8}{f j:Nat}(hf:f<=s.length):Tm (.star a) s f j↔Rch (Tm a s) f j:=by
 constructor
 ·rintro⟨h1,h2,h⟩
  have h:FT (K7 a) (OA s f j):=h;have aux:∀w,FT (K7 a) w->∀f,f<=j->OA s f j=w->Rch (Tm a s) f j:=by
   intro w hw
   induction hw with
   | nil=>
    intro f Cq e;have:=IF (s:=s) (f:=f) h2;rw[e]at this;have:f=j:=by simp at this;omega
    subst this;exact .refl
   | cons hu _ ih=>
    intro f Cq e;obtain⟨a1,a2,a3⟩:=aaP Cq h2 e;exact Rch.cons ⟨Nat.le_add_right _ _,by omega,by rw[<-a2];exact hu⟩ (ih _ a1 a3.symm)
  exact aux _ h f h1 I
 intro h
 induction h with
 |refl=>exact⟨bx _,hf,by rw[WU];exact FT.nil⟩
 | step _ h2 ih=>
  obtain⟨a1,a2,a3⟩:=ih;obtain⟨b1,b2,b3⟩:=h2;exact⟨by omega,b2,by rw[Rp a1 b1];exact Tl a3 b3⟩
def afE(s:List UInt8)(r:Re)(f:Nat)(c:C4):Prop:=∀j,j<256->(c.mem j=aD↔Tm r s f j)
end gj
namespace gj
open dl
abbrev Tn:=List UInt8
structure RS where
 p:Nat
 o:Nat
 e:Int
def RS.up(st:RS):RS:={st with p:=st.p+1}
def ahg:Tn:=[48,49,50,51,52,53,54,55,56,57,97,98,99,100,101,102]
def adX:Tn:=[40,41,91,93,124,42,43,63,46,94,45,92]
section
variable{s:Tn}
structure To(s:Tn)(st st':RS):Prop where
 o:st'.o=st.o
 ge:st.p<=st'.p
 le:st'.p<=s.length
theorem To.trans{a b c:RS}(h:To s a b)(h':To s b c):To s a c:=⟨by rw[h'.o,h.o],fw h.ge h'.ge,h'.le⟩
theorem To.refl{st:RS}(h:st.p<=s.length):To s st st:=⟨rfl,bx _,h⟩
end
end gj
namespace gj
open dl
def afF(n:Nat):UInt8:=ahg.getD n 0
def WW(b:UInt8):Tn:=
 if b=10 then [92,110]else if b=9 then [92,116]else if b=32 then [92,115]
 else if b<33\/126<b then [92,120,afF (b.toNat/16),afF (b.toNat %16)]
 else if b∈adX then [92,b]else [b]
def adY:Nat->List Nat->Nat
 |_,[]=>0
 |b,x::r=>if x=b+1 then adY (b+1) r+1 else 0
def afG(b k:Nat):Tn:=WW (fE b)++((if 1<k then [45]else [])++(if 0<k then WW (fE (b+k))else []))
def OB:Nat->List Nat->Tn
 |0,_=>[]
 |_+1,[]=>[]
 |f+1,b::r=>afG b (adY b r)++OB f (r.drop (adY b r))
def adZ(c:C4):Tn:=
 if WT c=1 then WW (fE ((xE c).getD 0 0))
 else if WT c=255/\c.mem 10=aE then [46]
 else if 128<WT c then [91,94]++(OB 256 (xE c.not)++[93])
 else [91]++(OB 256 (xE c)++[93])
def WX(lv:Nat)(e:Re):Bool:=decide (1<=lv/\e.kind=5\/2<=lv/\e.kind=4\/3<=lv/\e.kind=6)
def wrap(b:Bool)(t:Tn):Tn:=if b then [40]++(t++[41])else t
def body:Re->Tn
 | .empty=>[40,41]
 | .none=>[91,93]
 | .byte c=>adZ c
 | .star a=>wrap (WX 3 a) (body a)++[42]
 | .IC a b=>wrap (WX 1 a) (body a)++wrap (WX 2 b) (body b)
 | .ID a b=>wrap (WX 0 a) (body a)++([124]++wrap (WX 1 b) (body b))
section
end
end gj
namespace cI
open Go.RowKit cU dS Go.ChangeShapes Go.WideShapes Go.ChangeAt
section
variable{H:Type}{enc0:TypeId×Value->H}{P:Program}{W:World}
def Tp{α:Type}(W:World)(is:List Value->α->Prop)(c:Nat)(v:Value)(l:List α):Prop:=
 ∃base cap,v=ap base l.length cap/\l.length<=cap/\cap<=maxLen/\(0<l.length->∃b off,base=aj ⟨b,off,ak⟩/\∀i (h:i<l.length),∃cs,is cs l[i]/\Rd W b (off+i*c) cs)
def ql(enc0:TypeId×Value->H)(P:Program)(W:World)(t:TypeId){α:Type}(is:List Value->α->Prop):Prop:=
 ∀fuel cs x,qG enc0 P W 0 (λ_=>aD) aD fuel t cs=aj x->∃a,is cs a
theorem ql.mono{t:TypeId}{α:Type}{is is':List Value->α->Prop}(h:ql enc0 P W t is)(hi:∀cs a,is cs a->is' cs a):ql enc0 P W t is':=λf cs x hx=>let ⟨a,ha⟩:=h f cs x hx;⟨a,hi _ _ ha⟩
def isInt(k:IntKind)(lo hi:Int)(cs:List Value)(n:Int):Prop:=cs=[.int k n]/\lo<=n/\n<=hi
def ac4(cs:List Value)(s:List UInt8):Prop:=cs=[str s]/\s.length<=9223372036854775807
theorem GR{t:TypeId}{k:IntKind}(ht:P.underlying t=aj (.int k)):ql enc0 P W t (isInt k k.min k.max):=λf cs x h=>by
 obtain⟨n,h1,_,h3⟩:=DataW.trod_int ht h;simp only[Lit.wf,fc,decide_eq_true_eq]at h3;exact⟨n,h1,h3.1,h3.2⟩
theorem Am{t:TypeId}(ht:P.underlying t=aj (.int .i64)):ql enc0 P W t (isInt .i64 (-9223372036854775808) 9223372036854775807):=(GR ht).mono λcs n h=>⟨h.1,by simpa[Io,tP,lI]using h.2.1,by simpa[Ip,tP,lI]using h.2.2⟩
theorem Tq{t:TypeId}(ht:P.underlying t=aj (.int .u64)):ql enc0 P W t (isInt .u64 0 18446744073709551615):=(GR ht).mono λcs n h=>⟨h.1,by simpa[Io,tP,lI]using h.2.1,by simpa[Ip,tP,lI]using h.2.2⟩
theorem Tr{t:TypeId}(ht:P.underlying t=aj .string):ql enc0 P W t ac4:=λf cs x h=>by
 obtain⟨s,h1,_,h3⟩:=VQ ht h;refine⟨s.data.toList,by rw[h1,Wv],?_⟩;have e:s.data.toList.length=s.size:=lG;unfold maxLen at h3;omega
def afH{α:Type}(W:World)(is:List Value->α->Prop)(c:Nat)(cs:List Value)(l:List α):Prop:=∃v,cs=[v]/\Tp W is c v l
def ac5{α:Type}(is:List Value->α->Prop)(m c:Nat)(cs:List Value)(l:List α):Prop:=l.length=m/\∀i (h:i<l.length),is ((cs.drop (i*c)).take c) l[i]
theorem K8{t e:TypeId}{m c:Nat}(ht:P.underlying t=aj (.array m e))(hc:P.cellsOf e=c){α:Type}{is:List Value->α->Prop}(hd:ql enc0 P W e is):ql enc0 P W t (λcs l=>cs.length=P.cellsOf t/\ac5 is m c cs l):=λfuel cs x h=>by
 obtain⟨xs,n,_,_,hl,hlen,hf⟩:=DataW.trod_array ht h;have each:∀i,i<m->∃y:α,is ((cs.drop (i*c)).take c) y:=λi hi=>by
  have h1:=hf i hi;rw[hc,bD J]at h1;exact hd n _ _ h1
 obtain⟨l,KW,hp⟩:=yC m each;exact⟨l,hl,KW,λi hi=>hp i _ (bD hi)⟩
def WY(k:IntKind)(lo hi:Int)(m:Nat)(cs:List Value)(l:List Int):Prop:=l.length=m/\cs=l.map (.int k)/\∀x∈l,lo<=x/\x<=hi
theorem K9{k:IntKind}{lo hi:Int}{m:Nat}{cs:List Value}{l:List Int}(hl:cs.length=m)(h:ac5 (isInt k lo hi) m 1 cs l):WY k lo hi m cs l:=by
 obtain⟨h1,h2⟩:=h;refine⟨h1,?_,λx hx=>?_⟩
 ·apply nb
  intro i
  by_cases hi:i<l.length
  ·have h3:=(h2 i hi).1
   rw[kH]at h3;have hic:i<cs.length:=by omega
   rw[eN hic,List.take_succ_cons,nY]at h3;injection h3 with h3 _
   rw[bD hic,eS,bD hi,h3];rfl
  rw[kG J,kG (by simp;omega)]
 obtain⟨i,hi,rfl⟩:=hY.1 hx;exact(h2 i hi).2
theorem WZ{t:TypeId}{fs:Array Field}(ht:P.underlying t=aj (.struct fs)){fuel:Nat}{cs:List Value}{x:DataW H×List MemPlace}(h:qG enc0 P W 0 (λ_=>aD) aD fuel t cs=aj x):
 cs.length=P.cellsOf t/\∀(i:Nat) (f:Field),fs[i]?=aj f->∀{α:Type} {is:List Value->α->Prop},ql enc0 P W f.type is->∃a,is ((cs.drop f.offset).take (P.cellsOf f.type)) a:=by
 obtain⟨xs,n,_,_,hl,hlen,hf⟩:=VR ht h;refine⟨hl,λi f hi α is ho=>?_⟩;have h1:=hf i f hi;have:i<xs.length:=by rw[hlen];exact(jm.1 hi).1
 rw[bD this]at h1;exact ho n _ _ h1
theorem aaQ{t:TypeId}{fs:Array Field}(ht:P.underlying t=aj (.struct fs)){base:Nat}{v:Value}{d:DataW H}{ps:List MemPlace}(hv:C5 P W .any base t v)(h:NY enc0 P W 0 (λ_=>aD) aD t v d ps):∃cs fuel,v= .agg cs/\qG enc0 P W 0 (λ_=>aD) aD fuel t cs.toList=aj (d,ps):=by
 simp only[C5,ht]at hv;obtain⟨cs,rfl,_,_⟩:=hv;obtain⟨fuel,hf⟩:=h;exact⟨cs,fuel,rfl,hf⟩
end
theorem Tp.sl{α:Type}{W:World}{is:List Value->α->Prop}{f:α->Value}{v:Value}{l:List α}(h:Tp W is 1 v l)(hf:∀cs a,is cs a->cs=[f a]):Sl W v l.length (l.map f):=by
 obtain⟨base,cap,h1,h2,h3,h4⟩:=h;refine⟨base,cap,h1,h2,h3,λh0=>?_⟩;obtain⟨b,off,h5,h6⟩:=h4 h0;refine⟨b,off,h5,λj u hj=>?_⟩;have Ra:j<l.length:=by simpa using(cX.1 hj).1
 obtain⟨cs,h7,h8⟩:=h6 j Ra;have:=h8 0 (f l[j]) (by rw[hf _ _ h7];rfl);simp only[kH,jC]at this;rw[this,<-hj];simp[Ra]
theorem Tp.up{α:Type}{W w:World}{L:List cH}{is:List Value->α->Prop}{c:Nat}{v:Value}{l:List α}(h:Tp W is c v l)(hm:Mem W L w):Tp w is c v l:=by
 obtain⟨base,cap,h1,h2,h3,h4⟩:=h;exact⟨base,cap,h1,h2,h3,λh0=>let ⟨b,off,h5,h6⟩:=h4 h0;⟨b,off,h5,λi hi=>let ⟨cs,h7,h8⟩:=h6 i hi;⟨cs,h7,λj u hj=>hm.cell (h8 j u hj)⟩⟩⟩
end cI
namespace cI
open Go.RowKit cU dS
section
variable{α:Type}{f:α->List Value}{c:Nat}
theorem ue(hc:∀a,(f a).length=c):∀(l:List α) (k j:Nat) (h:k<l.length),j<c->(l.flatMap f)[k*c+j]?=(f l[k])[j]?
 |a::r,0,j,h,hj=>by
  rw[lO,eR (by rw[hc];omega)];simp
 |a::r,k+1,j,h,hj=>by
  have ih:=ue hc r k j (by simpa using h) hj;rw[lO,kF (by rw[hc,k7];omega),hc];simp only[V'];rw[<-ih,k7]
  congr 1
  omega
theorem k9(hc:∀a,(f a).length=c):∀(l:List α),(l.flatMap f).length=l.length*c
 |[]=>by simp
 |a::r=>by rw[lO,bI,hc,k9 hc r,de,k7,Oh]
theorem gO(hc:∀a,(f a).length=c){W:World}{L:List cH}{b off:Nat}{l:List α}(h:Rd W b off (l.flatMap f)){k:Nat}(hk:k<l.length)(j:Nat)(u:Value)(hu:(f l[k])[j]?=aj u):At W L ⟨b,off+k*c+j,ak⟩ u:=by
 have hj:j<c:=by rw[<-hc l[k]];exact(cX.1 hu).1
 rw[kZ];exact iI h (by rw[ue hc l k j hk hj];exact hu)
theorem uf(hc:∀a,(f a).length=c){W:bO}{L:List cH}{b off:Nat}{l:List α}(h:∀j u,(l.flatMap f)[j]?=aj u->At W L ⟨b,off+j,ak⟩ u){k:Nat}(hk:k<l.length)(j:Nat)(u:Value)(hu:(f l[k])[j]?=aj u):At W L ⟨b,off+k*c+j,ak⟩ u:=by
 have hj:j<c:=by rw[<-hc l[k]];exact(cX.1 hu).1
 rw[kZ];exact h _ _ (by rw[ue hc l k j hk hj];exact hu)
theorem rh(hc:∀a,(f a).length=c){W:bO}{L:List cH}{i g m cap n size:Nat}{e:TypeId}{l:List α}(hi:L[i]?=aj (a_ e size (ap (aj ⟨g,0,ak⟩) m cap) n (l.flatMap f))){k:Nat}(hk:k<l.length)(j:Nat)(u:Value)(hu:(f l[k])[j]?=aj u):At W L ⟨g,0+k*c+j,ak⟩ u:=
 uf hc (off:=0) (λq x hq=>by rw[cV];exact ki hi hq) hk j u hu
end
def ri{α:Type}(p:α->Bool)(l:List α):Int:=match l.findIdx? p with|some i=>i|none=> -1
theorem rj{α:Type}{p:α->Bool}{l:List α}{i:Nat}(hi:i<l.length)(h:p l[i]=aD)(hb:∀j (hj:j<l.length),j<i->p l[j]=aE):ri p l=i:=by
 have:l.findIdx? p=aj i:=N_.2 ⟨hi,h,λj Iv=>by simpa using hb j J Iv⟩;simp[ri,this]
theorem rl{α:Type}{p:α->Bool}{l:List α}(hb:∀j (hj:j<l.length),p l[j]=aE):ri p l= -1:=by
 have:l.findIdx? p=none:=V9.2 λx hx=>by
  obtain⟨j,hj,rfl⟩:=hY.1 hx;exact hb j hj
 simp[ri,this]
theorem uh{α:Type}(p:α->Bool)(l:List α):decide (0<=ri p l)=l.any p:=by
 unfold ri
 cases e:l.findIdx? p with
 | none=>
  have:=V9.1 e;have h2:l.any p=false:=by
   rw[List.any_eq_false];intro x hx;simp[this x hx]
  rw[h2];rfl
 |some i=>
  obtain⟨h1,h2,_⟩:=N_.1 e;have h3:l.any p=true:=List.any_eq_true.2 ⟨l[i],cD h1,h2⟩;rw[h3];simp
theorem o_{α:Type}(p:α->Bool)(l:List α): -1<=ri p l/\ri p l<l.length\/ri p l= -1:=by
 unfold ri
 cases e:l.findIdx? p with
 |none=>right;rfl
 |some i=>
  obtain⟨h1,h2,_⟩:=N_.1 e
  left;simp only;omega
section
variable{P:Program}{n:Nat}{W:bO}{fr:Fr}{L:List cH}{Q:Exit->Act->World->Prop}{ops:Array Oper}{rest:List Oper}{d:Nat}{dst:Option Tmp}{ty:TypeId}{pos:String}{after:Array Edge}{guard:Option (Nat×Bool)}
theorem jV{t e u:TypeId}{x y:Operand}{a:Option Addr}{m c:Nat}{b:Bool}(ht:P.underlying t=aj (.slice e))(hx:ev fr x=aj (ap a m c))(hy:ev fr y=aj (ap ak 0 0))(hb:a.isNone=b):RR P n W ⟨dst,.binOp .eql t x y u,ty,pos,after,guard⟩ fr L (.bool b):= .mk λac w hr _=>by
 subst hb;have e1:(eqGuard .eql t x y (ap a m c) (ap ak 0 0)).run P w= .ok () w:=rfl;simp[execOp,hr.ev hx,hr.ev hy,e1,Go.Lib.run_eql_slice_nil w t e a m c 0 0 ht]
theorem wq{t e:TypeId}{c bytes:Nat}[tr:rf P t e c bytes](hn:dv d n=aD)
 (h:∀g,TL P n W ops Q rest ((d,ap (aj ⟨g,0,ak⟩) 0 0)::fr) (L++[a_ e c (ap (aj ⟨g,0,ak⟩) 0 0) 0 []])):TL P n W ops Q (⟨aj d,.buildSlice t 0 #[],ty,pos,after,ak⟩::rest) fr L:=kJ I λa w hr hm K hK=>by
 obtain⟨i,z,ht,hi,hz,hc,_,hzc,h0⟩:=tr.el.ex;have e':(execOp a.eval ⟨aj d,.buildSlice t 0 #[],ty,pos,after,ak⟩).run P w= .ok (.value (ap (aj ⟨w.heap.size,0,ak⟩) 0 0)) (w.alloc (.cells #[] e)):=by
  have hne:¬(0*c>2^24):=by omega
  simp[execOp,tO,run_underlying ht,sizeOf,typeInfo,hi,jB,newRow];have e0:CY 0=#[]:=by simp
  rw[e0,Array.map_empty]
 unfold fR;rw[e'];exact hK _ _ ((h w.heap.size).go _ _ (hr.put hn _) (hm.append (nH w _) (ng.one (World.ownsRow_made w #[] 0 (bH _) aiT (by simp)) λk hk=>by
  have:w.heap.size=k:=oQ hk;omega)))
theorem eK{t e:TypeId}{s x:Operand}{i size bytes m k:Nat}{v v2:Value}{xs ys:List Value}[tr:rf P t e size bytes](hi:L[i]?=aj (a_ e size v m xs))(fJ:SlL W L v2 k ys)(hs:ev fr s=aj v)(hx:ev fr x=aj v2)(hk:ys.length=k*size)
 (h1:∀u∈ys,u.oneCell'=aD) (ra:m+k<=140737488355328) (hb:(m+k)*bytes<=140737488355328) (hn:dv d n=aD)
 (h:∀v',TL P n W ops Q rest ((d,v')::fr) (L.set i (a_ e size v' (m+k) (xs++ys)))):
 TL P n W ops Q (⟨aj d,.call {callee:= .builtin .append,args:=#[s,x],argTypes:=#[t,t]},ty,pos,after,ak⟩::rest) fr L:=⟨λa w hr hm=>by
 obtain⟨base,cap,rfl,nU,wt,eL⟩:=fJ w hm;have tu:ys=[]->L.set i (a_ e size v (m+0) (xs++[]))=L:=λ_=>by
  rw[dW,jC];apply nb;intro q
  by_cases hq:i=q
  ·subst hq
   rw[oO (cX.1 hi).1,hi]
  rw[mq hq]
 cases base with
 | none=>
  have hk0:k=0:=by
   rcases Wg k with h|h
   exact h;obtain⟨b,off,h,_⟩:=eL h;cases h
  subst hk0;have hy:ys=[]:=se (by rw[hk];simp);subst hy;have h2:=h v;rw[tu I]at h2;exact(Ox tr.el hi hs hx hn h2).go a w hr hm
 | some p=>
  have ahh:∀j u,ys[j]?=aj u->w.cell? (p.add j)=aj u:=λj u hj=>by
   obtain⟨b,off,hb,hr⟩:=eL (by
    rcases Wg k with h|h
    ·subst h
     have:=(cX.1 hj).1;rw[hk]at this;simp at this
    exact h)
   simp only[df]at hb;subst hb;rw[eI];exact hr j u hj
  exact IB (c:=cap) tr.el hi hs hx ahh hk h1 ra hb hn h hr hm⟩
theorem aU{i size m:Nat}{e:TypeId}{v:Value}{xs:List Value}(hi:L[i]?=aj (a_ e size v m xs))(h:v.cells=#[v]->v.oneCell'=aD->TL P n W ops Q rest fr L):TL P n W ops Q rest fr L:=⟨λa w hr hm=>by
 have h1:w.ownsRow 0 e size v m xs:=hm.get hi;rcases h1.2 with⟨hv,_⟩|⟨g,cap,jS,hv,_⟩
 exact(h (by rw[hv];rfl) (by rw[hv];rfl)).go a w hr hm;exact(h (by rw[hv];rfl) (by rw[hv];rfl)).go a w hr hm⟩
def tw(base:Option Addr)(cap c i j:Nat):Value:=ap (if cap=i then base else base.map (λ(q:Addr)=>q.add (i*c))) (j-i) (cap-i)
theorem K_{t e:TypeId}{x:Operand}{lo hi:Option Operand}{agg:Bool}{c i j len cap:Nat}{base:Option Addr}(ht:P.underlying t=aj (.slice e))(he:Ty P e agg c)(hx:ev fr x=aj (ap base len cap))
 (Ri:match lo with|none=>i=0|some z=>∃k,ev fr z=aj (.int k (i:Int))) (Td:match hi with|none=>j=len|some z=>∃k,ev fr z=aj (.int k (j:Int))) (h1:i<=j) (h2:j<=cap):
 RR P n W ⟨dst,.slice t x lo hi ak,ty,pos,after,guard⟩ fr L (tw base cap c i j):= .mk λa w hr _=>by
 have e0:(0:Int)<=(i:Int):=by omega
 have hb:∀(k:IntKind) (p q:Nat) (cd:BoundsCode),p<=q->(Im (.int k (p:Int)) q cd).run P w= .ok p w:=λk p q cd h=>by
  have:(0:Int)<=(p:Int)/\(p:Int)<=(q:Int):=by omega
  simp[Im,asIntOf,this]
 unfold tw
 cases lo<;>cases hi
 ·simp only at Ri Td
  subst Ri Td;simp[execOp,hr.ev hx,sa,sb,run_underlying ht,r_,he.size]
 ·obtain⟨k,hk⟩:=Td
  simp only at Ri;subst Ri;simp[execOp,hr.ev hx,hr.ev hk,sa,sb,run_underlying ht,r_,he.size,hb k j cap _ h2]
 ·obtain⟨k,hk⟩:=Ri
  simp only at Td;subst Td;simp[execOp,hr.ev hx,hr.ev hk,sa,sb,run_underlying ht,r_,he.size,hb k i j _ h1]
 ·obtain⟨k,hk⟩:=Ri
  obtain⟨k',mT⟩:=Td;simp[execOp,hr.ev hx,hr.ev hk,hr.ev mT,sa,sb,run_underlying ht,r_,he.size,hb k i j _ h1,hb k' j cap _ h2]
theorem rm{t e:TypeId}{x z:Operand}{agg:Bool}{c i len cap:Nat}{base:Option Addr}{k:IntKind}(ht:P.underlying t=aj (.slice e))(he:Ty P e agg c)(hx:ev fr x=aj (ap base len cap))(hz:ev fr z=aj (.int k (i:Int)))(h1:i<=len)(h2:len<=cap):
 RR P n W ⟨dst,.slice t x (aj z) ak ak,ty,pos,after,guard⟩ fr L (tw base cap c i len):=K_ (lo:=aj z) (hi:=ak) ht he hx ⟨k,hz⟩ I h1 h2
theorem GS{t e:TypeId}{x z:Operand}{agg:Bool}{c j len cap:Nat}{base:Option Addr}{k:IntKind}(ht:P.underlying t=aj (.slice e))(he:Ty P e agg c)(hx:ev fr x=aj (ap base len cap))(hz:ev fr z=aj (.int k (j:Int)))(h2:j<=cap):
 RR P n W ⟨dst,.slice t x ak (aj z) ak,ty,pos,after,guard⟩ fr L (tw base cap c 0 j):=K_ (lo:=ak) (hi:=aj z) ht he hx I ⟨k,hz⟩ (bH _) h2
theorem aaR{t u s:TypeId}{x y z:Operand}{m m' m2 r:Int}(hx:ev fr x=aj (av az m))(hy:ev fr y=aj (av az m'))(hz:ev fr z=aj (av az m2))(h:min m (min m' m2)=r):RR P n W ⟨dst,.call {callee:= .builtin .min,args:=#[x,y,z],argTypes:=#[t,u,s]},ty,pos,after,guard⟩ fr L (av az r):= .mk λa w hr _=>by
 subst h;have h1:=hr.ev hx;have h2:=hr.ev hy;have h3:=hr.ev hz;have e:∀a b:Int,(if b<a then b else a)=min a b:=λa b=>by split<;>omega
 simp[lH,VJ,h1,h2,h3,VK,VL,e,Int.min_assoc]
theorem Dq{α:Type}{f:α->List Value}{c:Nat}(hc:∀a,(f a).length=c){w:World}{base:Option Addr}{cap:Nat}{l:List α}(h:Sl w (ap base l.length cap) l.length (l.flatMap f)){i j:Nat}(h1:i<=j)(h2:j<=l.length):
 Sl w (tw base cap c i j) ((l.drop i).take (j-i)).length (((l.drop i).take (j-i)).flatMap f):=by
 obtain⟨b,cp,he,k1,k2,k3⟩:=h;simp only[iX,true_and]at he;obtain⟨rfl,rfl⟩:=he;have hlen:((l.drop i).take (j-i)).length=j-i:=by simp;omega
 refine⟨_,cap-i,by rw[hlen];rfl,by rw[hlen];omega,by omega,λh0=>?_⟩;rw[hlen]at h0;obtain⟨b,off,rfl,hr⟩:=k3 J;refine⟨b,off+i*c,by rw[if_neg J,Option.map_some,eI],λq u hq=>?_⟩;have e:l.flatMap f=(l.take i).flatMap f++((l.drop i).take (j-i)).flatMap f++((l.drop i).drop (j-i)).flatMap f:=by
  rw[<-fC,<-fC,eD,xp,xp]
 have NJ:((l.take i).flatMap f).length=i*c:=by rw[k9 hc,iZ,Ad J]
 have:=hr (i*c+q) u (by
  rw[e,eD,kF J,NJ,Nat.add_sub_cancel_left,eR (cX.1 hq).1];exact hq)
 rw[kZ];exact this
theorem mz{i size m:Nat}{e:TypeId}{v:Value}{xs:List Value}(hi:L[i]?=aj (a_ e size v m xs))(h:∀base cap,v=ap base m cap->m<=cap->cap<=9223372036854775807->TL P n W ops Q rest fr L):TL P n W ops Q rest fr L:=⟨λa w hr hm=>by
 have h1:w.ownsRow 0 e size v m xs:=hm.get hi;obtain⟨base,cap,hv,nU,wt,_⟩:=Sl.dB h1;exact(h base cap hv nU (by unfold maxLen at wt;omega)).go a w hr hm⟩
theorem IG{c:Code}{i size m:Nat}{e:TypeId}{v:Value}{xs:List Value}(hi:L[i]?=aj (a_ e size v m xs))(h:∀base cap,v=ap base m cap->m<=cap->cap<=9223372036854775807->T P n W c Q fr L):T P n W c Q fr L:=⟨λa w hr hm=>by
 have h1:w.ownsRow 0 e size v m xs:=hm.get hi;obtain⟨base,cap,hv,nU,wt,_⟩:=Sl.dB h1;exact(h base cap hv nU (by unfold maxLen at wt;omega)).go a w hr hm⟩
theorem ac6{c:Code}{i size m:Nat}{e:TypeId}{v:Value}{xs:List Value}(hi:L[i]?=aj (a_ e size v m xs))(h:v.cells=#[v]->v.oneCell'=aD->T P n W c Q fr L):T P n W c Q fr L:=⟨λa w hr hm=>by
 have h1:w.ownsRow 0 e size v m xs:=hm.get hi;obtain⟨base,cap,hv,_⟩:=Sl.dB h1;exact(h (by rw[hv];rfl) (by rw[hv];rfl)).go a w hr hm⟩
def GU(fr:Fr):List Operand->Option (List Value)
 |[]=>aj []
 |x::r=>match ev fr x,GU fr r with|some v,aj l=>aj (v::l)|_,_=>ak
theorem Dr{a:Act}(hr:ny n a fr):∀(l:List Operand) (vs:List Value),GU fr l=aj vs->l.map a.eval=vs
 |[],vs,h=>by simp only[GU,df]at h;subst h;rfl
 | x ::r,vs,h=>by
  simp only[GU]at h;split at h
  ·rename_i v l h1 h2
   simp only[df]at h;subst h;simp[hr.ev h1,Dr hr r l h2]
  cases h
theorem wu{fn:Fn}{first cap:Array Operand}{vs us:List Value}(h1:GU fr first.toList=aj vs)(h2:GU fr cap.toList=aj us):RR P n W ⟨dst,.makeFunc fn first cap,ty,pos,after,guard⟩ fr L (.func fn vs.toArray us.toArray):= .mk λa w hr _=>by
 have e1:first.map a.eval=vs.toArray:=by rw[<-Dr hr _ _ h1,<-CX,xf]
 have e2:cap.map a.eval=us.toArray:=by rw[<-Dr hr _ _ h2,<-CX,xf]
 simp only[execOp,e1,e2];rfl
end
end cI
namespace cI
open Go.RowKit cU dS Go.ChangeShapes Go.WideShapes Go.ChangeAt
structure Msr(P:Program)(H:Type) where
 ok:TypeId->DataW H->Prop
 lim:TypeId->Nat->Prop
 ad0:Nat->Prop
 zero:∀e,lim e 0
 slice:∀{t e:TypeId} {elems spare:List (DataW H)},P.underlying t=aj (.slice e)->ok t (.slice elems spare)->lim e elems.length/\∀d∈elems,ok e d
 W1:∀{t:TypeId} {fs:Array Field} {parts:List (DataW H)},P.underlying t=aj (.struct fs)->ok t (.agg parts)->∀(i:Nat) (f:Field) (d:DataW H),fs[i]?=aj f->parts[i]?=aj d->ok f.type d
 arr:∀{t e:TypeId} {m:Nat} {parts:List (DataW H)},P.underlying t=aj (.array m e)->ok t (.agg parts)->∀d∈parts,ok e d
 str:∀{t:TypeId} {b:List UInt8},ok t (.lit (.string b))->ad0 b.length
section
variable{H:Type}{P:Program}
theorem ui{e:TypeId}:∀(l:List (DataW H)) (d:DataW H),d∈l->∀n∈d.weights P e,n∈C3 P e l
 |[],_,h,_,_=>by cases h
 |x::r,d,h,n,hn=>by
  rw[C3,fu];rcases dA.1 h with rfl|h
  exact .inl hn;exact .inr (ui r d h n hn)
theorem sq:∀(ts:List TypeId) (l:List (DataW H)) (i:Nat) (t:TypeId) (d:DataW H),ts[i]?=aj t->l[i]?=aj d->∀n∈d.weights P t,n∈tM P ts l
 |[],_,_,_,_,h,_,_,_=>by simp at h
 |_::_,[],_,_,_,_,h,_,_=>by simp at h
 |t0::ts,d0::l,0,t,d,ht,hd,n,hn=>by
  simp only[sf,df]at ht hd;subst ht hd;rw[tM,fu];exact .inl hn
 |t0::ts,d0::l,i+1,t,d,ht,hd,n,hn=>by
  rw[tM,fu];exact .inr (sq ts l i t d (by simpa using ht) (by simpa using hd) n hn)
def Rq(P:Program)(H:Type):Msr P H where
 ok t d:=∀n∈d.weights P t,n<=reachBytes
 lim e n:=n*P.bytesOf e<=reachBytes
 ad0 n:=n<=reachBytes
 zero e:=by simp
 slice:=λ{t e elems spare} ht h=>by
  have hw:xj P t (.slice elems spare)=(elems.length+spare.length)*P.bytesOf e::(C3 P e elems++C3 P e spare):=by rw[xj,ht]
  rw[hw]at h;refine⟨?_,λd hd n hn=>h n ?_⟩
  ·have h1:=h _ (gd)
   exact fw (oP _ J) h1
  exact List.mem_cons_of_mem _ (List.mem_append_left _ (ui elems d hd n hn))
 W1:=λ{t fs parts} ht h i f d hf hd n hn=>by
  have hw:xj P t (.agg parts)=tM P (fs.toList.map (·.type)) parts:=by rw[xj,ht]
  rw[hw]at h;exact h n (sq _ _ i f.type d (by rw[eS,Array.getElem?_toList,hf];rfl) hd n hn)
 arr:=λ{t e m parts} ht h d hd n hn=>by
  have hw:xj P t (.agg parts)=C3 P e parts:=by rw[xj,ht]
  rw[hw]at h;exact h n (ui parts d hd n hn)
 str:=λ{t b} h=>h _ (by rw[xj];exact gd)
theorem K'{ts:List TypeId}{ds:List (DataW H)}(hsz:(tM P ts ds).all (· <=reachBytes)=aD)(j:Nat){t:TypeId}{d:DataW H}(ht:ts[j]?=aj t)(hd:ds[j]?=aj d):(Rq P H).ok t d:=λn hn=>by
 have:=nc.1 hsz n (sq ts ds j t d ht hd n hn)
 simpa using this
end
section
variable{H:Type}{enc0:TypeId×Value->H}{P:Program}{W:World}{M:Msr P H}
def kL(M:Msr P H)(enc0:TypeId×Value->H)(W:World)(t:TypeId){α:Type}(is:List Value->α->Prop):Prop:=
 ∀fuel cs x,qG enc0 P W 0 (λ_=>aD) aD fuel t cs=aj x->M.ok t x.1->∃a,is cs a
theorem kL.mono{t:TypeId}{α β:Type}{is:List Value->α->Prop}{is':List Value->β->Prop}(h:kL M enc0 W t is)(hi:∀cs a,is cs a->∃b,is' cs b):kL M enc0 W t is':=λf cs x hx hm=>let ⟨_,ha⟩:=h f cs x hx hm;hi _ _ ha
theorem GV{t:TypeId}{α:Type}{is:List Value->α->Prop}(h:ql enc0 P W t is):kL M enc0 W t is:=λf cs x hx _=>h f cs x hx
theorem OC{t:TypeId}(ht:P.underlying t=aj (.int .i64)):kL M enc0 W t (isInt .i64 (-9223372036854775808) 9223372036854775807):=GV (Am ht)
theorem xF{t:TypeId}(ht:P.underlying t=aj .string):kL M enc0 W t (λcs s=>ac4 cs s/\M.ad0 s.length):=λf cs x h hm=>by
 obtain⟨s,h1,h2,h3⟩:=VQ ht h;refine⟨s.data.toList,⟨by rw[h1,Wv],?_⟩,?_⟩
 ·have e:s.data.toList.length=s.size:=lG
  unfold maxLen at h3;omega
 rw[h2]at hm;exact M.str hm
theorem su{t e:TypeId}{c:Nat}(ht:P.underlying t=aj (.slice e))(hc:P.cellsOf e=c)(C9:0<c){α:Type}{is:List Value->α->Prop}(hd:kL M enc0 W e is)(_:∀cs a,is cs a->cs.length=c):kL M enc0 W t (λcs l=>afH W is c cs l/\M.lim e l.length):=λfuel cs x h hm=>by
 rcases VS ht h with⟨rfl,_⟩|⟨a,len,cap,elems,rest,n,_,rfl,hx,_,hlc,hmx,tr,yB,_⟩
 exact⟨[],⟨_,rfl,ak,0,rfl,bx _,by decide,λh=>by simp at h⟩,M.zero e⟩;rw[hx]at hm;obtain⟨Ds,oT⟩:=M.slice ht hm;have each:∀i,i<len->∃y:α,∃cs,W.cells? 0 (a.add (i*c)) c=aj cs/\is cs y:=λi hi=>by
  have h1:=yB i hi;rw[hc,bD J]at h1
  cases hcell:W.cells? 0 (a.add (i*c)) c with
  |none=>rw[hcell]at h1;simp at h1
  | some cs=>
   rw[hcell]at h1;obtain⟨y,hy⟩:=hd n cs _ h1 (oT _ (List.mem_map.2 ⟨_,cD J,rfl⟩));exact⟨y,cs,rfl,hy⟩
 obtain⟨l,KW,hp⟩:=yC len each;subst KW;refine⟨l,⟨_,rfl,aj a,cap,rfl,hlc,hmx,λh0=>?_⟩,by rw[List.length_map,tr]at Ds;exact Ds⟩;obtain⟨cs0,h1,h2⟩:=hp 0 l[0] (bD h0);have h3:=(i_ h1).2 0 C9;have hlen:=(i_ h1).1;rw[bD J]at h3;have hsp:=Ag h3;have e0:a.spot=none:=by
  rw[It]at hsp;unfold tK at hsp
  simpa using hsp
 obtain⟨b,off,spot⟩:=a;simp only at e0;subst e0;refine⟨b,off,rfl,λi hi=>?_⟩;obtain⟨cs,h4,h5⟩:=hp i l[i] (bD hi);refine⟨cs,h5,λj u hj=>?_⟩;have Ra:j<c:=by have:=(cX.1 hj).1;rw[(i_ h4).1]at this;exact this
 have h6:=(i_ h4).2 j Ra;rw[eI,eI]at h6;rw[h6];exact hj
theorem An{t:TypeId}{fs:Array Field}(ht:P.underlying t=aj (.struct fs)){fuel:Nat}{cs:List Value}{x:DataW H×List MemPlace}(h:qG enc0 P W 0 (λ_=>aD) aD fuel t cs=aj x)(hm:M.ok t x.1):
 cs.length=P.cellsOf t/\∀(i:Nat) (f:Field),fs[i]?=aj f->∀{α:Type} {is:List Value->α->Prop},kL M enc0 W f.type is->∃a,is ((cs.drop f.offset).take (P.cellsOf f.type)) a:=by
 obtain⟨xs,n,_,hx,hl,hlen,hf⟩:=VR ht h;refine⟨hl,λi f hi α is ho=>?_⟩;have h1:=hf i f hi;have hlt:i<xs.length:=by rw[hlen];exact(jm.1 hi).1
 rw[bD hlt]at h1;rw[hx]at hm;exact ho n _ _ h1 (M.W1 ht hm i f _ hi (by rw[eS,bD hlt];rfl))
theorem W4{t:TypeId}{fs:Array Field}(ht:P.underlying t=aj (.struct fs)){base:Nat}{v:Value}{d:DataW H}{ps:List MemPlace}(hv:C5 P W .any base t v)(h:NY enc0 P W 0 (λ_=>aD) aD t v d ps){α:Type}{is:List Value->α->Prop}(ho:kL M enc0 W t is)(hm:M.ok t d):∃cs a,v= .agg cs/\is cs.toList a:=by
 obtain⟨cs,fuel,rfl,hf⟩:=aaQ ht hv h;obtain⟨a,ha⟩:=ho fuel cs.toList _ hf hm;exact⟨cs,a,rfl,ha⟩
end
theorem Tp.flat{α:Type}{W:World}{is:List Value->α->Prop}{f:α->List Value}{c:Nat}{v:Value}{l:List α}(h:Tp W is c v l)(hc:∀a,(f a).length=c)(C9:0<c)(hf:∀cs a,is cs a->cs=f a):Sl W v l.length (l.flatMap f):=by
 obtain⟨base,cap,h1,h2,h3,h4⟩:=h;refine⟨base,cap,h1,h2,h3,λh0=>?_⟩;obtain⟨b,off,h5,h6⟩:=h4 h0;refine⟨b,off,h5,λj u hj=>?_⟩;have Ra:=(cX.1 hj).1;rw[Bk hc]at Ra;have hi:j/c<l.length:=(Oe C9).2 Ra;have S6:=Af j C9;have hdm:j/c*c+j %c=j:=by rw[Wi];exact Wh j c
 obtain⟨cs,h7,h8⟩:=h6 (j/c) hi;rw[hf _ _ h7]at h8;have h9:=tW hc l (j/c) (j %c) l[j/c] (bD hi) S6;rw[hdm]at h9;rw[h9]at hj;have:=h8 (j %c) u hj;rw[kZ,hdm]at this;exact this
end cI
namespace cI
open Go.RowKit cU dS
section
variable{P:Program}{n:Nat}{W:bO}{fr:Fr}{L:List cH}{Q:Exit->Act->World->Prop}{ops:Array Oper}{rest:List Oper}{d:Nat}{dst:Option Tmp}{ty:TypeId}{pos:String}{after:Array Edge}{guard:Option (Nat×Bool)}
theorem uj{t e:TypeId}{x y:Operand}{c bytes m cap:Nat}{k k':IntKind}{zs:Array Value}[tr:rf P t e c bytes][hz0:bT P e zs](hx:ev fr x=aj (.int k (m:Int)))(hy:ev fr y=aj (.int k' (cap:Int)))(Rr:m<=cap)(hb:bytes*cap<=281474976710656)(ra:cap<=9223372036854775807)(hn:dv d n=aD)
 (h:∀g,TL P n W ops Q rest ((d,ap (aj ⟨g,0,ak⟩) m cap)::fr) (L++[aP g (madeCells zs (cap*c)) e])):TL P n W ops Q (⟨aj d,.makeSlice t x y,ty,pos,after,ak⟩::rest) fr L:=kJ I λa w hr hm K hK=>by
 obtain⟨i,z,ht,hi,hz,hc,KG,hzc,h0⟩:=tr.el.ex;obtain⟨i2,z2,Ts,hz2,hz3⟩:=bT.ex (P:=P) (t:=e);rw[hi]at Ts;obtain rfl:i=i2:=oQ Ts;rw[hz]at hz2;obtain rfl:z=z2:=oQ hz2;have NK:(i.bytes:Int)*(cap:Int)<=281474976710656:=by
  rw[KG,<-Int.natCast_mul];omega
 have hrun:=run_make (P:=P) w t e i z ht hi hz k k' (m:Int) (cap:Int) J J NK J;rw[dq,dq,hc,hz3]at hrun;have e':(execOp a.eval ⟨aj d,.makeSlice t x y,ty,pos,after,ak⟩).run P w= .ok (.value (ap (aj ⟨w.heap.size,0,ak⟩) m cap)) (w.alloc (.cells (madeCells zs (cap*c)) e)):=by
  simp only[execOp,hr.ev hx,hr.ev hy,lL,hrun,nW,na]
 unfold fR;rw[e'];exact hK _ _ ((h w.heap.size).go _ _ (hr.put hn _) (hm.append (nH w _) (ng.one (heap_alloc_new w _) λk hk=>by simp only[aP,df]at hk;omega)))
theorem Mem.W5{w:World}{i g m cap size:Nat}{cs:Array Value}{e:TypeId}(h:Mem W L w)(hi:L[i]?=aj (aP g cs e))(hc:cs.size=cap*size)(Rr:m<=cap)(ly:cap<=9223372036854775807):Mem W (L.set i (a_ e size (ap (aj ⟨g,0,ak⟩) m cap) m (cs.toList.take (m*size)))) w:=
 h.B1 hi ⟨rfl,rfl,rfl,bx _,λ_ _ _=>rfl⟩ ⟨by rw[iZ,lG,hc,Ad (oP _ Rr)],.inr ⟨g,cap,cs,rfl,bH _,h.get hi,Rr,by unfold maxLen;omega,hc,rfl⟩⟩ λk hk=> .inl hk
theorem GY{i g m cap:Nat}{cs:Array Value}{e:TypeId}(size:Nat)(hi:L[i]?=aj (aP g cs e))(hc:cs.size=cap*size)(Rr:m<=cap)(ly:cap<=9223372036854775807)(h:TL P n W ops Q rest fr (L.set i (a_ e size (ap (aj ⟨g,0,ak⟩) m cap) m (cs.toList.take (m*size))))):TL P n W ops Q rest fr L:=
 ⟨λa w hr tv=>h.go a w hr (tv.W5 hi hc Rr ly)⟩
theorem W6{c:Code}{i g m cap:Nat}{cs:Array Value}{e:TypeId}(size:Nat)(hi:L[i]?=aj (aP g cs e))(hc:cs.size=cap*size)(Rr:m<=cap)(ly:cap<=9223372036854775807)(h:T P n W c Q fr (L.set i (a_ e size (ap (aj ⟨g,0,ak⟩) m cap) m (cs.toList.take (m*size))))):T P n W c Q fr L:=
 ⟨λa w hr tv=>h.go a w hr (tv.W5 hi hc Rr ly)⟩
theorem k_{i g m cap:Nat}{cs:Array Value}{T:TypeId}{xs:List Value}(hi:L[i]?=aj (aP g cs T))(hx:∀(j:Nat) (u:Value),xs[j]?=aj u->cs[j]?=aj u)(Rr:m<=cap)(ly:cap<=9223372036854775807):SlL W L (ap (aj ⟨g,0,ak⟩) m cap) m xs:=λw hm=>
 ⟨_,cap,rfl,Rr,by unfold maxLen;omega,λ_=>⟨g,0,rfl,λj u hj=>by
  rw[cV];exact aH hi (hx j u hj) w hm⟩⟩
end
theorem ac7{z:Array Value}{k m:Nat}(h:z.size=k)(h0:0<k):madeCells z (m*k)=((da m z.toList).flatten).toArray:=by
 subst h;apply Array.ext_getElem?;intro j;unfold madeCells
 by_cases hj:j<m*z.size
 ·have h2:j/z.size<m:=(Oe h0).2 hj
  have h3:=Af j h0;have key:∀(m j:Nat),j<m*z.size->((da m z.toList).flatten)[j]?=z.toList[j %z.size]?:=by
   intro m
   induction m with
   |zero=>intro j hj;simp at hj
   | succ m ih=>
    intro j hj;rw[List.replicate_succ,xt]
    by_cases hc:j<z.size
    rw[eR (by simpa using hc),Og hc];rw[kF (by simp;omega)];simp only[lG];rw[ih (j-z.size) (by rw[k7]at hj;omega)]
    congr 1
    exact(Nat.mod_eq_sub_mod J).symm
  simp only[jn,key m j hj];simp[hj,h3]
 have:((da m z.toList).flatten).length=m*z.size:=by simp
 rw[Array.getElem?_eq_none (by simp;omega),jn,kG J]
theorem GZ:∀(xs:List Value) (acc:Array Value) (off k:Nat),off+k+xs.length<=acc.size->(xs.toArray.zipIdx k).foldl (λcs (x:Value×Nat)=>cs.setIfInBounds (off+x.2) x.1) acc=(acc.toList.take (off+k)++xs++acc.toList.drop (off+k+xs.length)).toArray
 | [],acc,off,k,_=>by
  have e0:(([]:List Value).toArray.zipIdx k)=#[]:=by apply r7;simp
  rw[e0];simp
 | x ::xs,acc,off,k,h=>by
  simp only[de]at h;have e:(x::xs).toArray.zipIdx k=#[(x,k)]++xs.toArray.zipIdx (k+1):=by
   apply r7;simp[Ir]
  rw[e,Array.foldl_append];have e2:(#[(x,k)]:Array (Value×Nat)).foldl (λcs (x:Value×Nat)=>cs.setIfInBounds (off+x.2) x.1) acc=acc.setIfInBounds (off+k) x:=by simp
  rw[e2,GZ xs _ off (k+1) (by simp;omega)]
  congr 1
  have hA:(acc.toList.take (off+k)).length=off+k:=by simp;omega
  have hA1:(acc.toList.take (off+k)++[x]).length=off+k+1:=by rw[bI,hA];rfl
  have e3:acc.toList.set (off+k) x=(acc.toList.take (off+k)++[x])++acc.toList.drop (off+k+1):=by
   rw[C6,if_pos (by simp;omega)];simp
  simp only[Ih,de];rw[e3,show off+(k+1)=off+k+1 by omega,Ob hA1,<-qH,Oc hA1,qH];simp only[eD,iY,eu];rw[show off+k+1+xs.length=off+k+(xs.length+1)by omega]
theorem ac8{c:Nat}(c0:Nat->Option (Nat×Nat))(C9:∀i,c0 i=aj (i*c,c)):∀(vs:List Value) (k:Nat) (acc:Array Value),(k+vs.length)*c<=acc.size->(∀v∈vs,v.cells.size=c)->
 jB c0 acc ((vs.zipIdx k).map λ(v,i)=>(i,v))=aj (acc.toList.take (k*c)++vs.flatMap (λv=>v.cells.toList)++acc.toList.drop ((k+vs.length)*c)).toArray
 |[],k,acc,h,_=>by simp[jB]
 | v ::vs,k,acc,h,h1=>by
  simp only[de]at h;have hv:=h1 v (by simp);have hsz:k*c+c<=acc.size:=by
   have:(k+1)*c<=(k+(vs.length+1))*c:=oP _ J;rw[jq,tU]at this;omega
  rw[Ir,gh];simp only[jB,C9];rw[if_neg (by simp[hv];omega)];have ac9:=GZ v.cells.toList acc (k*c) 0 (by simp[hv];exact hsz);simp only[xf,jC,lG,hv]at ac9;rw[ac9,ac8 c0 C9 vs (k+1) _ (by simp[hv];rw[jq,jq]at*;omega) (λu hu=>h1 u (by simp[hu]))]
  congr 2
  have hA:(acc.toList.take (k*c)).length=k*c:=by simp;omega
  have hA1:(acc.toList.take (k*c)++v.cells.toList).length=(k+1)*c:=by rw[bI,hA,lG,hv,jq,tU]
  simp only[lO,de];rw[Ob hA1];have e5:(k+1+vs.length)*c=(k+1)*c+vs.length*c:=jq _ _ _;rw[e5,<-qH,Oc hA1,qH];simp only[eD];rw[show k*c+c+vs.length*c=(k+(vs.length+1))*c by rw[jq,jq,tU];omega]
theorem W7{P:Program}{t e:TypeId}{c bytes:Nat}(tr:El P t e c bytes)(vs:List Value)(h1:∀v∈vs,v.cells.size=c)(h0:0<vs.length)(hm:vs.length*c<=16777216)(w:World):
 (tO t vs.length (vs.zipIdx.map λ(v,i)=>(i,v)).toArray).run P w= .ok (ap (aj ⟨w.heap.size,0,ak⟩) vs.length vs.length) (w.alloc (.cells (vs.flatMap λv=>v.cells.toList).toArray e)):=by
 obtain⟨i,z,ht,hi,hz,hc,_,hzc,hp⟩:=tr.ex;have t_:=ac8 (c:=c) (λi=>aj (i*c,c)) (by simp) vs 0 ((CY (vs.length*c)).map (z.cells[· %z.cells.size]!)) (by simp) h1
 simp only[It,nY,eu,cV]at t_;rw[jo (by simp)]at t_;simp only[dW]at t_;have hne:¬(vs.length*c>2^24):=by omega
 have WG:¬(vs.length*c=0):=by
  have:=Nat.mul_pos h0 hp;omega
 simp only[tO,lL,run_underlying ht,nW,sizeOf,typeInfo,run_program,hi,na,hc,zeroValue,hz,if_neg hne,if_neg WG];simp only[t_,newRow];simp
section
variable{P:Program}{n:Nat}{W:bO}{fr:Fr}{L:List cH}{Q:Exit->Act->World->Prop}{ops:Array Oper}{rest:List Oper}{d:Nat}{dst:Option Tmp}{ty:TypeId}{pos:String}{after:Array Edge}{guard:Option (Nat×Bool)}
theorem fy{t e:TypeId}{c bytes m:Nat}{parts:Array (Nat×Operand)}{cs:Array Value}(vs:List Value)[tr:rf P t e c bytes](hp:sk fr parts.toList=aj (vs.zipIdx.map λ(v,i)=>(i,v)))(hm:vs.length=m)(h0:dv 0 m=aD)(h1:∀v∈vs,v.cells.size=c)(hs:Ae (m*c) 16777216=aD)(hcs:cs=(vs.flatMap λv=>v.cells.toList).toArray)(hn:dv d n=aD)
 (h:∀g,TL P n W ops Q rest ((d,ap (aj ⟨g,0,ak⟩) m m)::fr) (L++[aP g cs e])):TL P n W ops Q (⟨aj d,.buildSlice t m parts,ty,pos,after,ak⟩::rest) fr L:=by
 subst hm hcs;refine Ou (λa w hr=>?_) hn h;have e:(parts.map λ(i,x)=>(i,a.eval x))=(vs.zipIdx.map λ(v,i)=>(i,v)).toArray:=by
  rw[<-sm hr _ _ hp,<-CX,xf]
 rw[e];exact W7 tr.el vs h1 (nf h0) (nf hs) w
theorem La{t e:TypeId}{x z:Operand}{agg:Bool}{c j len cap:Nat}{base:Option Addr}{k:IntKind}(ht:P.underlying t=aj (.slice e))(he:Ty P e agg c)(hx:ev fr x=aj (ap base len cap))(hz:ev fr z=aj (.int k (j:Int)))(h:j<=cap):RR P n W ⟨dst,.slice t x ak (aj z) ak,ty,pos,after,guard⟩ fr L (ap base j cap):= .mk λa w hr hm=>by
 have h1:=(GS (P:=P) (n:=n) (W:=W) (L:=L) (dst:=dst) (ty:=ty) (pos:=pos) (after:=after) (guard:=guard) ht he hx hz h).go a w hr hm;have e1:tw base cap c 0 j=ap base j cap:=by
  unfold tw
  cases base with
  |none=>simp
  |some q=>simp[tK]
 rw[e1]at h1;exact h1
theorem jG{fn:Func}{R:Ending->World->Prop}(mR:fn.results=#[])(h:∀w,Mem W L w->R (.returned (.tuple #[])) w):E n W .normal (bodyPost P fn R) fr L:=
 ⟨λa w hr hm=>⟨hr.defers,.tuple #[],by simp[results,mR],h w hm⟩⟩
end
end cI
namespace cI
open Go.RowKit cU dS
structure wL(α:Type) where
 c:Nat
 is:(Nat->Prop)->World->List Value->α->Prop
 len:∀{F w cs a},is F w cs a->cs.length=c
 stay:∀{F w w' cs a},is F w cs a->(∀k,F k->w'.heap[k]?=w.heap[k]?)->is F w' cs a
 mono:∀{F F' w cs a},is F w cs a->(∀k,F k->F' k)->is F' w cs a
def All:Nat->Prop:=λ_=>True
theorem rd_stay{w w':World}{b off:Nat}{cs:List Value}(h:Rd w b off cs)(hk:w'.heap[b]?=w.heap[b]?):Rd w' b off cs:=λj u hj=>by
 rw[V7 (w:=w) (a:=⟨b,off+j,ak⟩) hk];exact h j u hj
def jW{α:Type}(s:wL α)(F:Nat->Prop)(w:World)(v:Value)(l:List α):Prop:=
 ∃base cap,v=ap base l.length cap/\l.length<=cap/\cap<=maxLen/\(0<l.length->∃b off,base=aj ⟨b,off,ak⟩/\F b/\∀i (h:i<l.length),∃cs,s.is F w cs l[i]/\Rd w b (off+i*s.c) cs)
section
variable{α β:Type}{s:wL α}{F F':Nat->Prop}{w w':World}{v:Value}{l:List α}
theorem jW.stay(h:jW s F w v l)(hk:∀k,F k->w'.heap[k]?=w.heap[k]?):jW s F w' v l:=
 let ⟨base,cap,h1,h2,h3,h4⟩:=h
 ⟨base,cap,h1,h2,h3,λh0=>let ⟨b,off,h5,h6,h7⟩:=h4 h0;⟨b,off,h5,h6,λi hi=>let ⟨cs,h8,h9⟩:=h7 i hi;⟨cs,s.stay h8 hk,rd_stay h9 (hk b h6)⟩⟩⟩
theorem jW.mono(h:jW s F w v l)(hk:∀k,F k->F' k):jW s F' w v l:=
 let ⟨base,cap,h1,h2,h3,h4⟩:=h
 ⟨base,cap,h1,h2,h3,λh0=>let ⟨b,off,h5,h6,h7⟩:=h4 h0;⟨b,off,h5,hk b h6,λi hi=>let ⟨cs,h8,h9⟩:=h7 i hi;⟨cs,s.mono h8 hk,h9⟩⟩⟩
theorem jW.nil:jW s F w (ap ak 0 0) []:=⟨ak,0,rfl,bx _,by decide,λh=>by simp at h⟩
def yM(f:α->List Value)(c:Nat)(hc:∀a,(f a).length=c)(p:α->Prop):wL α:=
 ⟨c,λ_ _ cs a=>cs=f a/\p a,λh=>by rw[h.1,hc],λh _=>h,λh _=>h⟩
def fG:wL Int:=yM (λn=>[av az n]) 1 (λ_=>rfl) cU.d_
def Tt:wL (List UInt8):=yM (λs=>[str s]) 1 (λ_=>rfl) (λs=>s.length<=9223372036854775807)
def bL(s:wL α):wL (List α):=
 ⟨1,λF w cs l=>∃v,cs=[v]/\jW s F w v l,λ⟨_,h,_⟩=>by rw[h];rfl,λ⟨v,h1,h2⟩ hk=>⟨v,h1,h2.stay hk⟩,λ⟨v,h1,h2⟩ hk=>⟨v,h1,h2.mono hk⟩⟩
def W8(s:wL α)(t:wL β):wL (α×β):=
 ⟨s.c+t.c,λF w cs x=>∃c1 c2,cs=c1++c2/\s.is F w c1 x.1/\t.is F w c2 x.2,λ⟨_,_,h,h1,h2⟩=>by rw[h,bI,s.len h1,t.len h2],
  λ⟨c1,c2,h,h1,h2⟩ hk=>⟨c1,c2,h,s.stay h1 hk,t.stay h2 hk⟩,λ⟨c1,c2,h,h1,h2⟩ hk=>⟨c1,c2,h,s.mono h1 hk,t.mono h2 hk⟩⟩
theorem jW.flat{f:α->List Value}{c:Nat}{hc:∀a,(f a).length=c}{p:α->Prop}(C9:0<c)(h:jW (yM f c hc p) F w v l):Sl w v l.length (l.flatMap f):=by
 obtain⟨base,cap,h1,h2,h3,h4⟩:=h;have hx:Tp w (λcs a=>cs=f a) c v l:=⟨base,cap,h1,h2,h3,λh0=>let ⟨b,off,h5,_,h7⟩:=h4 h0;⟨b,off,h5,λi hi=>let ⟨cs,h8,h9⟩:=h7 i hi;⟨cs,h8.1,h9⟩⟩⟩;exact hx.flat hc C9 λcs a h=>h
theorem jW.okp{f:α->List Value}{c:Nat}{hc:∀a,(f a).length=c}{p:α->Prop}(h:jW (yM f c hc p) F w v l):∀a∈l,p a:=λa ha=>by
 obtain⟨i,hi,rfl⟩:=hY.1 ha;obtain⟨base,cap,h1,h2,h3,h4⟩:=h;obtain⟨b,off,_,_,h7⟩:=h4 J;obtain⟨cs,h8,_⟩:=h7 i hi;exact h8.2
theorem jW.of_flat{f:α->List Value}{c:Nat}{hc:∀a,(f a).length=c}{p:α->Prop}(h:Sl w v l.length (l.flatMap f))(hp:∀a∈l,p a)(_:∀b,v.ownBlock=aj b->F b)(hF2:∀a n cp,v=ap (aj a) n cp->F a.block):jW (yM f c hc p) F w v l:=by
 obtain⟨base,cap,h1,h2,h3,h4⟩:=h;refine⟨base,cap,h1,h2,h3,λh0=>?_⟩;obtain⟨b,off,h5,h6⟩:=h4 h0;refine⟨b,off,h5,hF2 ⟨b,off,ak⟩ l.length cap (by rw[h1,h5]),λi hi=>⟨f l[i],⟨rfl,hp _ (cD hi)⟩,λj u hj=>?_⟩⟩;have hjc:j<c:=by rw[<-hc l[i]];exact(cX.1 hj).1
 have:=h6 (i*c+j) u (by rw[ue hc l i j hi hjc];exact hj);rw[kZ];exact this
def FU(s:wL α)(F:Nat->Prop)(cs:List Value)(a:α):cH:=
 ⟨ak,F,λw=>s.is F w cs a/\∀k,F k->k<w.heap.size,λw h k hk=>h.2 k (hk.elim (λh=>by cases h) id),λw w' h hs hb=>⟨s.stay h.1 λk hk=>hb k (.inr hk),λk hk=>jp (h.2 k hk) hs⟩⟩
def ef(s:wL α)(F:Nat->Prop)(fX:List (List Value))(l:List α):cH:=
 ⟨ak,F,λw=>(fX.length=l.length/\∀i (h:i<l.length) (h':i<fX.length),s.is F w fX[i] l[i])/\∀k,F k->k<w.heap.size,λw h k hk=>h.2 k (hk.elim (λh=>by cases h) id),
  λw w' h hs hb=>⟨⟨h.1.1,λi hi oV=>s.stay (h.1.2 i hi oV) λk hk=>hb k (.inr hk)⟩,λk hk=>jp (h.2 k hk) hs⟩⟩
end
def W9(F:Nat->Prop)(v:Value):Nat->Prop:=λk=>F k\/v.ownBlock=aj k
theorem uk{c:Nat}:∀(fX:List (List Value)) (_:∀x∈fX,x.length=c) (i j:Nat) (h:i<fX.length),j<c->fX.flatten[i*c+j]?=fX[i][j]?
 |x::r,hc,0,j,h,hj=>by
  rw[xt,eR (by rw[hc x (by simp)];omega)];simp
 |x::r,hc,i+1,j,h,hj=>by
  have hx:=hc x (by simp);have ih:=uk r (λy hy=>hc y (by simp[hy])) i j (by simpa using h) hj;rw[xt,kF (by rw[hx,k7];omega),hx];simp only[V'];rw[<-ih,k7]
  congr 1;omega
section
variable{α:Type}{s:wL α}{F:Nat->Prop}{w:World}{v:Value}{l:List α}
theorem xG{e:TypeId}{fX:List (List Value)}(hr:(a_ e s.c v l.length fX.flatten).holds w)(he:(ef s F fX l).holds w)(_:0<s.c):jW s (W9 F v) w v l:=by
 have hr:w.ownsRow 0 e s.c v l.length fX.flatten:=hr;obtain⟨⟨h1,h2⟩,h3⟩:=he;have hlen:∀x∈fX,x.length=s.c:=λx hx=>by
  obtain⟨i,hi,rfl⟩:=hY.1 hx;exact s.len (h2 i J hi)
 obtain⟨base,cap,h4,h5,h6,h7⟩:=Sl.dB hr;refine⟨base,cap,h4,h5,h6,λh0=>?_⟩;have hb:∃g,v=ap (aj ⟨g,0,ak⟩) l.length cap/\v.ownBlock=aj g:=by
  rcases hr.2 with⟨hv,h0'⟩|⟨g,FQ,jS,hv,_⟩
  omega;rw[h4]at hv;simp only[iX,true_and]at hv;obtain⟨rfl,rfl⟩:=hv;exact⟨g,h4,by rw[h4];rfl⟩
 obtain⟨g,hv,hg⟩:=hb;rw[h4]at hv;simp only[iX,and_true]at hv;subst hv;obtain⟨b,off,h8,h9⟩:=h7 h0;simp only[df,NW,and_true]at h8;obtain⟨rfl,rfl⟩:=h8;refine⟨g,0,rfl,.inr hg,λi hi=>⟨fX[i]' J,s.mono (h2 i hi J) λk hk=> .inl hk,λj u hj=>?_⟩⟩;have hjc:j<s.c:=by rw[<-hlen (fX[i]' J) (cD _)];exact(cX.1 hj).1
 have:=h9 (i*s.c+j) u (by rw[uk fX hlen i j J hjc];exact hj);rw[kZ];exact this
theorem xH{e:TypeId}{fX:List (List Value)}{n c:Nat}(hr:(a_ e c v n fX.flatten).holds w)(he:(ef s F fX l).holds w):∀k,W9 F v k->k<w.heap.size:=λk hk=>hk.elim (he.2 k) λh=>((a_ e c v n fX.flatten).lt w hr k (.inl h))
theorem mA{F2:Nat->Prop}{fX:List (List Value)}{cs:List Value}{a:α}(he:(ef s F fX l).holds w)(hs:s.is F2 w cs a)(h2:∀k,F2 k->k<w.heap.size):(ef s (λk=>F k\/F2 k) (fX++[cs]) (l++[a])).holds w:=by
 obtain⟨⟨h1,h3⟩,h4⟩:=he;refine⟨⟨by simp[h1],λi hi oV=>?_⟩,λk hk=>hk.elim (h4 k) (h2 k)⟩
 by_cases c:i<l.length
 ·rw[C7 J,C7 c]
  exact s.mono (h3 i c J) λk hk=> .inl hk
 have Ts:i=l.length:=by simp at hi;omega
 subst Ts;rw[V_ J,V_ (bx _)];simp only[h1,Nat.sub_self,List.getElem_cons_zero];exact s.mono hs λk hk=> .inr hk
theorem jk:(ef s (λ_=>False) [] []).holds w:=⟨⟨rfl,λi h=>by simp at h⟩,λk h=>h.elim⟩
end
section
variable{P:Program}{n:Nat}{W:bO}{fr:Fr}{L:List cH}{Q:Exit->Act->World->Prop}{ops:Array Oper}{rest:List Oper}{d:Nat}
theorem Mem.W_{w:World}(o:cH)(i j:Nat)(js:List Nat){o1 o2:cH}{R:List cH}(h:Mem W L w)(hn:([i,j]++js).Nodup)(h1:L[i]?=aj o1)(h2:L[j]?=aj o2)(hR:R=js.filterMap λi=>L[i]?)(hf:∀k,o.ff k->o1.ff k\/o2.ff k)(hh:∀w,o1.holds w->o2.holds w->o.holds w):Mem W (R++[o]) w:=by
 refine Mem.merge o (h.pick ([i,j]++js) hn ?_) hf (hh w);rw[Ac,<-hR]
 congr 1
 rw[Ab (by exact h1),Ab (by exact h2)];rfl
theorem pa(o:cH)(i j:Nat)(js:List Nat){o1 o2:cH}{R:List cH}(hn:([i,j]++js).Nodup)(h1:L[i]?=aj o1)(h2:L[j]?=aj o2)(hR:R=js.filterMap λi=>L[i]?)(hf:∀k,o.ff k->o1.ff k\/o2.ff k)(hh:∀w,o1.holds w->o2.holds w->o.holds w)(h:TL P n W ops Q rest fr (R++[o])):TL P n W ops Q rest fr L:=⟨λa w hr hm=>h.go a w hr (hm.W_ o i j js hn h1 h2 hR hf hh)⟩
theorem ww{e:Exit}(o:cH)(i j:Nat)(js:List Nat){o1 o2:cH}{R:List cH}(hn:([i,j]++js).Nodup)(h1:L[i]?=aj o1)(h2:L[j]?=aj o2)(hR:R=js.filterMap λi=>L[i]?)(hf:∀k,o.ff k->o1.ff k\/o2.ff k)(hh:∀w,o1.holds w->o2.holds w->o.holds w)(h:E n W e Q fr (R++[o])):E n W e Q fr L:=⟨λa w hr hm=>h.go a w hr (hm.W_ o i j js hn h1 h2 hR hf hh)⟩
theorem Mem.Xa{w:World}(o:cH)(h:Mem W L w)(hf:∀k,¬o.ff k)(hh:o.holds w):Mem W (L++[o]) w:=
 h.append (Gr.refl w) (eH.one hh λk hk=>absurd hk (hf k))
theorem mB{c:Code}(o:cH)(hf:∀k,¬o.ff k)(hh:∀w,o.holds w)(h:T P n W c Q fr (L++[o])):T P n W c Q fr L:=⟨λa w hr hm=>h.go a w hr (hm.Xa o hf (hh w))⟩
theorem Lb(o:cH)(hf:∀k,¬o.ff k)(hh:∀w,o.holds w)(h:TL P n W ops Q rest fr (L++[o])):TL P n W ops Q rest fr L:=⟨λa w hr hm=>h.go a w hr (hm.Xa o hf (hh w))⟩
theorem qm{e:Exit}(o:cH)(hf:∀k,¬o.ff k)(hh:∀w,o.holds w)(h:E n W e Q fr (L++[o])):E n W e Q fr L:=⟨λa w hr hm=>h.go a w hr (hm.Xa o hf (hh w))⟩
theorem Ao{α:Type}{f:α->List Value}{c:Nat}(hc:∀a,(f a).length=c){t e:TypeId}{p x:Operand}{i g off cap k m:Nat}{agg:Bool}{l:List α}{a:α}{v:Value}(hT:Ty P t agg c)(hi:L[i]?=aj (a_ e c (ap (aj ⟨g,0,ak⟩) m cap) m (l.flatMap f)))(hp:ev fr p=aj (aJ (aj ⟨g,off,ak⟩)))(adQ:off=k*c)(hk:k<l.length)(hm0:m=l.length)(hx:ev fr x=aj v)(hv:v.cells=(f a).toArray)(h1:(f a).all eZ=aD)
 {ty:TypeId} {pos:String} {after:Array Edge}
 (h:TL P n W ops Q rest fr (L.set i (a_ e c (ap (aj ⟨g,0,ak⟩) m cap) m ((l.set k a).flatMap f)))):
 TL P n W ops Q (⟨ak,.store t p x,ty,pos,after,ak⟩::rest) fr L:=kJ I λact w hr hm K hK=>by
 subst adQ hm0;have mf:w.ownsRow 0 e c (ap (aj ⟨g,0,ak⟩) l.length cap) l.length (l.flatMap f):=hm.get hi;have afx:=mf;rcases mf.2 with⟨h0,_⟩|⟨g',FQ,jS,he,B2,hg,hnc,Ow,hcs,yH⟩
 ·cases h0
 simp only[iX,df,NW,and_true,true_and]at he;obtain⟨rfl,rfl⟩:=he;have Dh:k*c+c<=jS.size:=by
  have:(k+1)*c<=cap*c:=oP _ J;rw[hcs];rw[jq,tU]at this;omega
 have hst:=run_storeCells_at P g (k*c) e (f a) 0 jS w hg (by simp[hc];exact Dh) (nc.1 h1);simp only[jC,hc]at hst;have e':(execOp act.eval ⟨ak,.store t p x,ty,pos,after,ak⟩).run P w= .ok .skip (w.setRow g (jS.toList.take (k*c)++f a++jS.toList.drop (k*c+c)).toArray):=by
  simp[execOp,hr.ev hp,hr.ev hx,NZ,xl,storeVar,hT.size,hv,hst,hc]
 unfold fR;rw[e'];refine hK _ _ (h.go _ _ (hr.tX undef) (hm.B1 hi ⟨rfl,rfl,rfl,by simp,λk _ hk=>setRow_other w g k _ (λe=>hk (by subst e;rfl))⟩ ?_ λk hk=> .inl hk));have hlen:=k9 hc l;refine⟨by rw[k9 hc];simp,.inr ⟨g,cap,_,rfl,B2,setRow_heap w g jS _ e _ hg,hnc,Ow,by simp[hc];omega,?_⟩⟩;have e1:(l.set k a).flatMap f=(l.flatMap f).take (k*c)++f a++(l.flatMap f).drop (k*c+c):=by
  have NJ:((l.take k).flatMap f).length=k*c:=by rw[k9 hc,iZ,Ad J]
  have II:((l.take (k+1)).flatMap f).length=k*c+c:=by rw[k9 hc,iZ,Ad J,jq,tU]
  have t1:(l.flatMap f).take (k*c)=(l.take k).flatMap f:=by
   rw[<-NJ]
   conv=>lhs;rw[<-xp k l,fC]
   simp
  have t2:(l.flatMap f).drop (k*c+c)=(l.drop (k+1)).flatMap f:=by
   rw[<-II]
   conv=>lhs;rw[<-xp (k+1) l,fC]
   simp
  rw[t1,t2,C6,if_pos hk];simp
 rw[e1,<-yH];have hkl:k*c+c<=l.length*c:=by
  have:(k+1)*c<=l.length*c:=oP _ J;rw[jq,tU]at this;exact this
 simp only[List.take_take,List.take_append,bI,hc,iZ,lG];rw[Ad (by omega:k*c<=jS.size),Nat.min_eq_right (by omega:k*c<=l.length*c),Ad (by omega:k*c<=l.length*c)];rw[gB (by rw[hc];omega:(f a).length<=l.length*c-k*c)]
 congr 1
 rw[Od]
theorem qn{i:Nat}{o:cH}{φ:Prop}(hi:L[i]?=aj o)(hφ:∀w,o.holds w->φ)(h:φ->TL P n W ops Q rest fr L):TL P n W ops Q rest fr L:=⟨λa w hr hm=>(h (hφ w (hm.get hi))).go a w hr hm⟩
theorem iu{c:Code}{i:Nat}{o:cH}{φ:Prop}(hi:L[i]?=aj o)(hφ:∀w,o.holds w->φ)(h:φ->T P n W c Q fr L):T P n W c Q fr L:=⟨λa w hr hm=>(h (hφ w (hm.get hi))).go a w hr hm⟩
end
end cI
namespace cI
open Go.RowKit cU dS
open Go.WideMaps (KeyLaw)
def Dt(v:Value):Option (DataW Value×List MemPlace):=aj (.held v,[])
structure yN(P:Program)(k:TypeId)(κ:Type) where
 kv:κ->Value
 ok:κ->Prop
 law:KeyLaw P k
 key:∀x,ok x->∃l,keyOf P k (kv x)=aj l
 inj:∀x y,kv x=kv y->x=y
section
variable{P:Program}{k:TypeId}{κ:Type}
theorem yN.keyed(K:yN P k κ):Maps.Keyed P k:=adD K.law
variable(K:yN P k κ)
def Lc(D:DataW Value)(m:κ->Option Value)(n:Nat):Prop:=
 N1 D=n/\∀x l,K.ok x->keyOf P k (K.kv x)=aj l->match m x with|some v=>N2 D l=aD/\(∀z,D.atKey l z= .held v)|none=>N2 D l=aE
def fe(g:Nat)(m:κ->Option Value)(n:Nat):cH:=
 ⟨aj g,λ_=>False,λw=>∃D,w.ownsMap P k Dt g n D/\Lc K D m n,λw ⟨D,h,_⟩ q hq=>by simp only[df,or_false]at hq;subst hq;exact h.lt,
  λw w' ⟨D,⟨es,clock,hb,h⟩,h2⟩ _ hk=>⟨D,⟨es,clock,(hk g (.inl I)).trans hb,h⟩,h2⟩⟩
theorem Tu{w:World}{R:Value->Option (DataW Value×List MemPlace)}{b n:Nat}{D:DataW Value}(h:w.ownsMap P k R b n D):w.ownsMap P k R b (N1 D) D:=by
 obtain⟨es,clock,hb,F,hs,rfl⟩:=h;exact⟨es,clock,hb,F,by simp[N1,length_sorted],rfl⟩
theorem G0:Lc K (.map []) (λ_=>ak) 0:=⟨rfl,λ_ _ _ _=>rfl⟩
theorem Tv[DecidableEq κ]{w:World}{g n:Nat}{D:DataW Value}{m:κ->Option Value}(ho:w.ownsMap P k Dt g n D)(h:Lc K D m n){x:κ}{l:Lit}(hx:K.ok x)(hl:keyOf P k (K.kv x)=aj l)(v:Value):
 Lc K (D.put l (.held v)) (λy=>if y=x then aj v else m y) (if(m x).isSome then n else n+1):=by
 have hk:=K.keyed.key hl;have ht:=ho.tidy K.keyed;refine⟨?_,λy l' hy hl'=>?_⟩
 ·have h2:=h.2 x l hx hl
  rw[Maps.size_put ht]
  cases e:m x with
  |none=>rw[e]at h2;rw[h2];simp[h.1]
  |some u=>rw[e]at h2;rw[h2.1];simp[h.1]
 ·by_cases e:y=x
  ·subst e
   rw[hl]at hl';simp only[df]at hl';subst hl';simp only[if_true];exact⟨Maps.has_put_same ht.isMap hk _,λz=>Maps.atKey_put_same ht.isMap hk _ _⟩
  have hne:l'≠l:=λe'=>e (K.inj _ _ (K.keyed.inj (by rw[<-e'];exact hl') hl));simp only[if_neg e];have h2:=h.2 y l' hy hl';rw[Maps.has_put_other hne]
  cases e2:m y with
  |none=>rw[e2]at h2;exact h2
  |some u=>rw[e2]at h2;exact⟨h2.1,λz=>by rw[Maps.atKey_put_other hne];exact h2.2 z⟩
theorem IJ{D:DataW Value}{m:κ->Option Value}{n:Nat}(h:Lc K D m n){x:κ}{l:Lit}(hx:K.ok x)(hl:keyOf P k (K.kv x)=aj l)(z:Value):D.atKey l (.held z)= .held ((m x).getD z)/\N2 D l=(m x).isSome:=by
 have h2:=h.2 x l hx hl
 cases e:m x with
 |none=>rw[e]at h2;exact⟨Maps.atKey_of_not_has h2 _,h2⟩
 |some u=>rw[e]at h2;exact⟨h2.2 _,h2.1⟩
section
variable{W:bO}{fr:Fr}{L:List cH}{Q:Exit->Act->World->Prop}{ops:Array Oper}{rest:List Oper}{n d:Nat}{dst:Option Tmp}{ty:TypeId}{pos:String}{after:Array Edge}{guard:Option (Nat×Bool)}{i g c:Nat}{t e:TypeId}{m:κ->Option Value}{x:κ}{z:Value}{xm xk xv:Operand}
theorem aaS(ht:P.underlying t=aj (.map k e))(hz:∀w,(zeroValue e).run P w= .ok z w)(hi:L[i]?=aj (fe K g m c))(hm:ev fr xm=aj (.map (aj g)))(hk:ev fr xk=aj (K.kv x))(hx:K.ok x):RR P n W ⟨dst,.lookup t xm xk aE,ty,pos,after,guard⟩ fr L ((m x).getD z):= .mk λa w hr hw=>by
 obtain⟨D,ho,h⟩:=hw.get hi;obtain⟨l,hl⟩:=K.key x hx;obtain⟨v,ps,hrun,hv⟩:=ho.lookup K.keyed ht (hz w) (zd:= .held z) (zp:=[]) rfl hl;have h2:=(IJ K h hx hl z).1;simp only[Dt,df,fD]at hv;rw[h2]at hv;have kT:v=(m x).getD z:=by simpa using hv.1
 subst kT;simp[execOp,hr.ev hm,hr.ev hk,hrun,lK]
theorem oJ(ht:P.underlying t=aj (.map k e))(hz:∀w,(zeroValue e).run P w= .ok z w)(hi:L[i]?=aj (fe K g m c))(hm:ev fr xm=aj (.map (aj g)))(hk:ev fr xk=aj (K.kv x))(hx:K.ok x):RR P n W ⟨dst,.lookup t xm xk aD,ty,pos,after,guard⟩ fr L (.tuple #[(m x).getD z,.bool (m x).isSome]):= .mk λa w hr hw=>by
 obtain⟨D,ho,h⟩:=hw.get hi;obtain⟨l,hl⟩:=K.key x hx;obtain⟨v,ps,hrun,hv⟩:=ho.look_ok K.keyed ht (hz w) (zd:= .held z) (zp:=[]) rfl hl;have h2:=IJ K h hx hl z;simp only[Dt,df,fD]at hv;rw[h2.1]at hv;rw[h2.2]at hrun;have kT:v=(m x).getD z:=by simpa using hv.1
 subst kT;simp[execOp,hr.ev hm,hr.ev hk,hrun,lK]
theorem wx(ht:P.underlying t=aj (.map k e))(hi:L[i]?=aj (fe K g m c))(hm:ev fr xm=aj (.map (aj g))):RR P n W ⟨dst,.call {callee:= .builtin .len,args:=#[xm],argTypes:=#[t]},ty,pos,after,guard⟩ fr L (av az c):= .mk λa w hr hw=>by
 obtain⟨D,ho,h⟩:=hw.get hi;have hrun:=ho.len ht ty;rw[h.1]at hrun;simp[lH,NX,hr.ev hm,hrun]
theorem xI(hn:dv d n=aD)(h:∀g,TL P n W ops Q rest ((d,.map (aj g))::fr) (L++[fe K g (λ_=>ak) 0])):
 TL P n W ops Q (⟨aj d,.makeMap t ak,ty,pos,after,ak⟩::rest) fr L:=kJ I λa w hr hm KK hK=>by
 have e1:(execOp a.eval ⟨aj d,.makeMap t ak,ty,pos,after,ak⟩).run P w= .ok (.value (.map (aj w.heap.size))) (w.alloc (.map #[] 0)):=by
  simp[execOp,run_makeMap,lK]
 unfold fR;rw[e1];exact hK _ _ ((h w.heap.size).go _ _ (hr.put hn _) (hm.append (nH w _) (ng.one ⟨.map [],V8 w P k Dt,G0 K⟩ λq hq=>by simp only[fe,df]at hq;omega)))
theorem Rs[DecidableEq κ]{w:World}(ht:P.underlying t=aj (.map k e))(h:(fe K g m c).holds w)(hx:K.ok x)(hc:c<=1152921504606846976)(v:Value):
 ∃w',(zZ t (.map (aj g)) (K.kv x) v).run P w= .ok () w'/\(fe K g (λy=>if y=x then aj v else m y) (if(m x).isSome then c else c+1)).holds w'/\w.grownBy w' (aj g):=by
 obtain⟨D,ho,h⟩:=h;obtain⟨l,hl⟩:=K.key x hx;obtain⟨w',hrun,K3,hg⟩:=ho.update K.keyed ht (by unfold maxLen;omega) (val:=v) (d:= .held v) (ps:=[]) hl I;have hp:=Tv K ho h hx hl v;exact⟨w',hrun,⟨_,by have:=Tu K3;rwa [hp.1]at this,hp⟩,hg⟩
theorem l_[DecidableEq κ]{v:Value}(ht:P.underlying t=aj (.map k e))(hi:L[i]?=aj (fe K g m c))(hm:ev fr xm=aj (.map (aj g)))(hk:ev fr xk=aj (K.kv x))(hv:ev fr xv=aj v)(hx:K.ok x)(hc:c<=1152921504606846976)
 (h:TL P n W ops Q rest fr (L.set i (fe K g (λy=>if y=x then aj v else m y) (if(m x).isSome then c else c+1)))):
 TL P n W ops Q (⟨ak,.mapUpdate t xm xk xv,ty,pos,after,ak⟩::rest) fr L:=kJ I λa w hr hw KK hK=>by
 obtain⟨w',hrun,K3,hg⟩:=Rs K ht (hw.get hi) hx hc v;have e1:(execOp a.eval ⟨ak,.mapUpdate t xm xk xv,ty,pos,after,ak⟩).run P w= .ok .skip w':=by
  simp[execOp,hr.ev hm,hr.ev hk,hr.ev hv,hrun,lK]
 unfold fR;rw[e1];exact hK _ _ (h.go _ _ (hr.tX undef) (hw.B1 hi hg K3 λq hq=> .inl hq))
end
def p8(g:Nat)(z:Value)(f:κ->Value)(b:Nat):cH:=
 ⟨aj g,λ_=>False,λw=>∃m n,n<=b/\(fe K g m n).holds w/\∀x,K.ok x->(m x).getD z=f x,λw ⟨m,n,_,h,_⟩ q hq=>(fe K g m n).lt w h q hq,
  λw w' ⟨m,n,h1,h,h2⟩ hs hk=>⟨m,n,h1,(fe K g m n).stay w w' h hs hk,h2⟩⟩
section
variable{W:bO}{fr:Fr}{L:List cH}{Q:Exit->Act->World->Prop}{ops:Array Oper}{rest:List Oper}{n d:Nat}{dst:Option Tmp}{ty:TypeId}{pos:String}{after:Array Edge}{guard:Option (Nat×Bool)}{i g b:Nat}{t e:TypeId}{f f':κ->Value}{x:κ}{z v:Value}{xm xk xv:Operand}
theorem G1{w:World}(ht:P.underlying t=aj (.map k e))(hz:∀w,(zeroValue e).run P w= .ok z w)(h:(p8 K g z f b).holds w)(hx:K.ok x):(Instr.lookup t (.map (aj g)) (K.kv x) aE).run P w= .ok (f x) w:=by
 obtain⟨m,n,_,⟨D,ho,hi⟩,hf⟩:=h;obtain⟨l,hl⟩:=K.key x hx;obtain⟨v,ps,hrun,hv⟩:=ho.lookup K.keyed ht (hz w) (zd:= .held z) (zp:=[]) rfl hl;have h2:=(IJ K hi hx hl z).1;simp only[Dt,df,fD]at hv;rw[h2,hf x hx]at hv;have kT:v=f x:=by simpa using hv.1
 rw[<-kT];exact hrun
theorem Ld(ht:P.underlying t=aj (.map k e))(hz:∀w,(zeroValue e).run P w= .ok z w)(hh:∀w,Mem W L w->(p8 K g z f b).holds w)(hm:ev fr xm=aj (.map (aj g)))(hk:ev fr xk=aj (K.kv x))(hx:K.ok x)(hv:f x=v):RR P n W ⟨dst,.lookup t xm xk aE,ty,pos,after,guard⟩ fr L v:= .mk λa w hr hw=>by
 subst hv;have hrun:=G1 K ht hz (hh w hw) hx;simp[execOp,hr.ev hm,hr.ev hk,hrun,lK]
theorem Du(ht:P.underlying t=aj (.map k e))(hz:∀w,(zeroValue e).run P w= .ok z w)(hi:L[i]?=aj (p8 K g z f b))(hm:ev fr xm=aj (.map (aj g)))(hk:ev fr xk=aj (K.kv x))(hx:K.ok x)(hv:f x=v):RR P n W ⟨dst,.lookup t xm xk aE,ty,pos,after,guard⟩ fr L v:=
 Ld K ht hz (λ_ hw=>hw.get hi) hm hk hx hv
theorem aaT(hn:dv d n=aD)(h:∀g,TL P n W ops Q rest ((d,.map (aj g))::fr) (L++[p8 K g z (λ_=>z) 0])):
 TL P n W ops Q (⟨aj d,.makeMap t ak,ty,pos,after,ak⟩::rest) fr L:=kJ I λa w hr hm KK hK=>by
 have e1:(execOp a.eval ⟨aj d,.makeMap t ak,ty,pos,after,ak⟩).run P w= .ok (.value (.map (aj w.heap.size))) (w.alloc (.map #[] 0)):=by
  simp[execOp,run_makeMap,lK]
 unfold fR;rw[e1];exact hK _ _ ((h w.heap.size).go _ _ (hr.put hn _) (hm.append (nH w _) (ng.one ⟨λ_=>ak,0,bx _,⟨.map [],V8 w P k Dt,G0 K⟩,λ_ _=>rfl⟩ λq hq=>by simp only[p8,df]at hq;omega)))
theorem Le[DecidableEq κ]{w:World}(ht:P.underlying t=aj (.map k e))(h:(p8 K g z f b).holds w)(hx:K.ok x)(hc:b<=1152921504606846976)(hf:∀y,K.ok y->f' y=if y=x then v else f y):
 ∃w',(zZ t (.map (aj g)) (K.kv x) v).run P w= .ok () w'/\(p8 K g z f' (b+1)).holds w'/\w.grownBy w' (aj g):=by
 obtain⟨m,n,h1,h2,h3⟩:=h;obtain⟨w',hrun,ho,hg⟩:=Rs K ht h2 hx J v;refine⟨w',hrun,⟨_,_,?_,ho,λy hy=>?_⟩,hg⟩
 ·split<;>omega
 ·rw[hf y hy]
  by_cases e:y=x
  simp[e];simp only[if_neg e];exact h3 y hy
end
end
end cI
namespace cI
open Go.RowKit cU dS
theorem ahc{P:Program}{n:Nat}{W:bO}{fr:Fr}{L:List cH}{dst:Option Tmp}{ty:TypeId}{pos:String}{after:Array Edge}{guard:Option (Nat×Bool)}{x:Operand}{a:Addr}(hx:ev fr x=aj (aJ (aj a))):RR P n W ⟨dst,.nilCheck x,ty,pos,after,guard⟩ fr L (aJ (aj a)):= .mk λact w hr _=>by
 simp[execOp,hr.ev hx]
end cI
namespace cI
open Go.RowKit cU dS
section
variable{P:Program}{n:Nat}{W:bO}{fr:Fr}{L:List cH}{Q:Exit->Act->World->Prop}{ops:Array Oper}{rest:List Oper}{d:Nat}{ty:TypeId}{pos:String}{after:Array Edge}
theorem OD{t e:TypeId}{x y:Operand}{bytes m:Nat}{k k':IntKind}{z:Value}[rf P t e 1 bytes][bT P e #[z]](hx:ev fr x=aj (.int k (m:Int)))(hy:ev fr y=aj (.int k' (m:Int)))(hb:bytes*m<=281474976710656)(ra:m<=9223372036854775807)(hn:dv d n=aD)
 (h:∀g,TL P n W ops Q rest ((d,ap (aj ⟨g,0,ak⟩) m m)::fr) (L++[a_ e 1 (ap (aj ⟨g,0,ak⟩) m m) m (da m z)])):TL P n W ops Q (⟨aj d,.makeSlice t x y,ty,pos,after,ak⟩::rest) fr L:=
 uj hx hy (bx _) hb ra hn λg=>GY (i:=L.length) 1 (Aa ..) (by rw[size_madeCells]) (bx _) ra (by
  have e1:(madeCells #[z] (m*1)).toList.take (m*1)=da m z:=by
   rw[acY,Nat.mul_one,List.take_of_length_le (by simp)]
  rw[e1,List.set_append_right _ _ (Nat.le_refl _),Nat.sub_self];exact h g)
end
end cI
namespace cI
open Go.RowKit cU dS
section
variable{P:Program}{n:Nat}{W:bO}{fr:Fr}{L:List cH}{Q:Exit->Act->World->Prop}{ops:Array Oper}{rest:List Oper}
theorem Mem.ahi{w:World}{i:Nat}{o:cH}(o':cH)(h:Mem W L w)(hi:L[i]?=aj o)(hh:∀w,o.holds w->o'.holds w)(hb:∀k,o'.BZ=aj k->o.BZ=aj k)(hmo:∀k,o'.more k->o.ff k:=by intro k hk;exact False.elim hk):Mem W (L.set i o') w:=
 h.B1 hi ⟨rfl,rfl,rfl,bx _,λ_ _ _=>rfl⟩ (hh w (h.get hi)) (λk hk=> .inl (hb k hk)) hmo
theorem aaU{i:Nat}{o:cH}(o':cH)(hi:L[i]?=aj o)(hh:∀w,o.holds w->o'.holds w)(hb:∀k,o'.BZ=aj k->o.BZ=aj k)(hmo:∀k,o'.more k->o.ff k)(h:TL P n W ops Q rest fr (L.set i o')):TL P n W ops Q rest fr L:= .mk λa w hr hm=>h.go a w hr (hm.ahi o' hi hh hb hmo)
end
theorem Tw{P:Program}{k:TypeId}{κ:Type}{K:yN P k κ}{g b b':Nat}{z:Value}{f f':κ->Value}(hb:b<=b')(hf:∀x,K.ok x->f' x=f x)(w:World)(h:(p8 K g z f b).holds w):(p8 K g z f' b').holds w:=by
 obtain⟨m,n,h1,h2,h3⟩:=h;exact⟨m,n,by omega,h2,λx hx=>by rw[hf x hx];exact h3 x hx⟩
end cI
namespace cI
open Go.RowKit cU dS
section
variable{P:Program}{n:Nat}{W:bO}{fr:Fr}{L:List cH}{Q:Exit->Act->World->Prop}{ops:Array Oper}{rest:List Oper}
theorem Mem.Rt{w:World}{i:Nat}{o:cH}(o':cH)(h:Mem W L w)(hi:L[i]?=aj o)(hh:∀w,o.holds w->o'.holds w)(hf:∀k,o'.ff k->o.ff k):Mem W (L.set i o') w:=by
  have hlen:i<L.length:=(cX.1 hi).1;have hoi:=h.owns.all i o hi;refine⟨h.low,λj q hj=>?_,λj j' q q' re hj oU k hk mT=>?_⟩
  · by_cases e:i=j
    · subst e
      rw[oO hlen]at hj;simp only[df]at hj;subst hj;exact⟨hh w hoi.1,λk hk=>hoi.2 k (hf k hk)⟩
    rw[mq e]at hj;exact h.owns.all j q hj
  by_cases e:i=j
  · subst e
    rw[oO hlen]at hj;rw[mq re]at oU;simp only[df]at hj;subst hj;exact h.owns.apart i j' o q' re hi oU k (hf k hk) mT
  rw[mq e]at hj
  by_cases e':i=j'
  · subst e'
    rw[oO hlen]at oU;simp only[df]at oU;subst oU;exact h.owns.apart j i q o re hj hi k hk (hf k mT)
  rw[mq e']at oU;exact h.owns.apart j j' q q' re hj oU k hk mT
theorem Ru{c:Code}{i:Nat}{o:cH}(o':cH)(hi:L[i]?=aj o)(hh:∀w,o.holds w->o'.holds w)(hf:∀k,o'.ff k->o.ff k)(h:T P n W c Q fr (L.set i o')):T P n W c Q fr L:= .mk λa w hr hm=>h.go a w hr (hm.Rt o' hi hh hf)
theorem oz{e:Exit}{i:Nat}{o:cH}(o':cH)(hi:L[i]?=aj o)(hh:∀w,o.holds w->o'.holds w)(hf:∀k,o'.ff k->o.ff k)(h:E n W e Q fr (L.set i o')):E n W e Q fr L:= .mk λa w hr hm=>h.go a w hr (hm.Rt o' hi hh hf)
end
end cI
namespace cI
open Go.RowKit cU dS dl gj
inductive ku(F:Nat->Prop)(w:World):List Value->Rx->Prop
 |mk {k:Int} {c:C4} {kids:List Rx} {base:Option Addr} {cap:Nat} (fX:List (List Value)):cU.d_ k->kids.length<=cap->cap<=maxLen->fX.length=kids.length->
  (∀i (h:i<kids.length) (h':i<fX.length),ku F w fX[i] kids[i])->(0<kids.length->∃b off,base=aj ⟨b,off,ak⟩/\F b/\∀i (_:i<kids.length) (h':i<fX.length),Rd w b (off+i*6) fX[i])->
  ku F w (av az k::(dV c++[ap base kids.length cap])) (.mk k c kids)
theorem ku.ad1{F:Nat->Prop}{w:World}{cs:List Value}{t:Rx}(h:ku F w cs t):cs.length=6:=by
 cases h;rfl
theorem ku.IK{F:Nat->Prop}{w w':World}{cs:List Value}{t:Rx}(h:ku F w cs t)(hk:∀k,F k->w'.heap[k]?=w.heap[k]?):ku F w' cs t:=by
 induction h with
 |mk fX h2 h3 h4 h5 h6 h7 ih=>
  refine .mk fX h2 h3 h4 h5 ih λhl=>?_;obtain⟨b,off,e,hF,hr⟩:=h7 hl;exact⟨b,off,e,hF,λi hi oV=>rd_stay (hr i hi oV) (hk b hF)⟩
theorem ku.mono{F F':Nat->Prop}{w:World}{cs:List Value}{t:Rx}(h:ku F w cs t)(hk:∀k,F k->F' k):ku F' w cs t:=by
 induction h with
 |mk fX h2 h3 h4 h5 h6 h7 ih=>
  refine .mk fX h2 h3 h4 h5 ih λhl=>?_;obtain⟨b,off,e,hF,hr⟩:=h7 hl;exact⟨b,off,e,hk b hF,hr⟩
def xJ:wL Rx:=⟨6,ku,λh=>h.ad1,λh hk=>h.IK hk,λh hk=>h.mono hk⟩
def mi(k:Int)(c:C4)(v:Value):List Value:=av az k::(dV c++[v])
def qK(k:Int)(c:C4)(v:Value):Value:=aQ (mi k c v).toArray
theorem yO{F:Nat->Prop}{w:World}{cs:List Value}{k:Int}{c:C4}{kids:List Rx}:ku F w cs (.mk k c kids)↔∃v,cs=mi k c v/\cU.d_ k/\jW xJ F w v kids:=by
 constructor
 ·intro h
  cases h with
  |mk fX h2 h3 h4 h5 h6 h7=>
   refine⟨_,rfl,h2,_,_,rfl,h3,h4,λhl=>?_⟩;obtain⟨b,off,e,hF,hr⟩:=h7 hl;exact⟨b,off,e,hF,λi hi=>⟨fX[i]' J,h6 i hi J,hr i hi J⟩⟩
 rintro⟨v,rfl,h2,base,cap,rfl,h3,h4,h5⟩
 by_cases hl:0<kids.length
 ·obtain⟨b,off,e,hF,hr⟩:=h5 hl
  have hlen:(Wf λi:Fin kids.length=>Ij (hr i i.2)).length=kids.length:=by simp
  refine .mk (Wf λi:Fin kids.length=>Ij (hr i i.2)) h2 h3 h4 hlen (λi hi oV=>?_) λ_=>⟨b,off,e,hF,λi hi oV=>?_⟩;rw[Wc];exact(C1 (hr i hi)).1;rw[Wc];exact(C1 (hr i hi)).2
 have:kids=[]:=se J;subst this;exact .mk [] h2 h3 h4 I (λi hi=>absurd hi (by simp)) λh=>absurd h (by simp)
def n9(F:Nat->Prop)(w:World)(v:Value)(r:Rx):Prop:=∃vk,v=qK r.kind r.ud vk/\cU.d_ r.kind/\jW xJ F w vk r.kids
theorem n9.stay{F:Nat->Prop}{w w':World}{v:Value}{r:Rx}(h:n9 F w v r)(hk:∀k,F k->w'.heap[k]?=w.heap[k]?):n9 F w' v r:=
 let ⟨vk,h1,h2,h3⟩:=h;⟨vk,h1,h2,h3.stay hk⟩
theorem n9.mono{F F':Nat->Prop}{w:World}{v:Value}{r:Rx}(h:n9 F w v r)(hk:∀k,F k->F' k):n9 F' w v r:=
 let ⟨vk,h1,h2,h3⟩:=h;⟨vk,h1,h2,h3.mono hk⟩
def p9(w:World):Nat->Prop:=λk=>k<w.heap.size
theorem n9.gr{w w':World}{v:Value}{r:Rx}(h:n9 (p9 w) w v r)(hg:Gr w w'):n9 (p9 w') w' v r:=
 (h.stay λk hk=>hg.block k hk).mono λ_ hk=>jp hk hg.size
theorem n9.is{F:Nat->Prop}{w:World}{v:Value}{r:Rx}(h:n9 F w v r):∃cs,v=aQ cs.toArray/\ku F w cs r:=by
 obtain⟨k,c,kids⟩:=r;obtain⟨vk,rfl,h1,h2⟩:=h;exact⟨_,rfl,yO.2 ⟨vk,rfl,h1,h2⟩⟩
theorem ku.r{F:Nat->Prop}{w:World}{cs:List Value}{r:Rx}(h:ku F w cs r):n9 F w (aQ cs.toArray) r:=by
 obtain⟨k,c,kids⟩:=r;obtain⟨vk,rfl,h1,h2⟩:=yO.1 h;exact⟨vk,rfl,h1,h2⟩
theorem qo{F:Nat->Prop}{w:World}{b off:Nat}{l:List Rx}(h:∀i (h:i<l.length),∃cs,xJ.is F w cs l[i]/\Rd w b (off+i*xJ.c) cs){k:Nat}(hk:k<l.length):
 ∃base cap,Rd w b (off+k*6) (mi l[k].kind l[k].ud (.slice base l[k].kids.length cap))/\n9 F w (qK l[k].kind l[k].ud (.slice base l[k].kids.length cap)) l[k]:=by
 obtain⟨cs,h1,hr⟩:=h k hk;have h1:ku F w cs l[k]:=h1;generalize l[k]=r at*;obtain⟨kd,c,kids⟩:=r;obtain⟨vk,rfl,a1,a2⟩:=yO.1 h1;have a2':=a2;obtain⟨base,cap,rfl,_⟩:=a2';exact⟨base,cap,hr,_,rfl,a1,a2⟩
def Dv(r:Re)(k:Nat):List (Re×Nat):=match r with
 | .IC a b=>[(a,k+1),(b,k+1+a.size)]
 | .ID a b=>[(a,k+1),(b,k+1+a.size)]
 | .star a=>[(a,k+1)]
 |_=>[]
inductive Bm(F:Nat->Prop)(w:World):List Value->Re×Nat->Prop
 |mk {r:Re} {k:Nat} {vk:Value} {base:Option Addr} {cap:Nat} (fX:List (List Value)):vk.oneCell'=aD->(Dv r k).length<=cap->cap<=maxLen->fX.length=(Dv r k).length->
  (∀i (h:i<(Dv r k).length) (h':i<fX.length),Bm F w fX[i] (Dv r k)[i])->(0<(Dv r k).length->∃b off,base=aj ⟨b,off,ak⟩/\F b/\∀i (_:i<(Dv r k).length) (h':i<fX.length),Rd w b (off+i*8) fX[i])->
  Bm F w (av az r.kind::(dV r.ud++[vk,av az (k:Int),ap base (Dv r k).length cap])) (r,k)
theorem Bm.IK{F:Nat->Prop}{w w':World}{cs:List Value}{t:Re×Nat}(h:Bm F w cs t)(hk:∀k,F k->w'.heap[k]?=w.heap[k]?):Bm F w' cs t:=by
 induction h with
 |mk fX h2 h3 h4 h5 h6 h7 ih=>
  refine .mk fX h2 h3 h4 h5 ih λhl=>?_;obtain⟨b,off,e,hF,hr⟩:=h7 hl;exact⟨b,off,e,hF,λi hi oV=>rd_stay (hr i hi oV) (hk b hF)⟩
theorem Bm.mono{F F':Nat->Prop}{w:World}{cs:List Value}{t:Re×Nat}(h:Bm F w cs t)(hk:∀k,F k->F' k):Bm F' w cs t:=by
 induction h with
 |mk fX h2 h3 h4 h5 h6 h7 ih=>
  refine .mk fX h2 h3 h4 h5 ih λhl=>?_;obtain⟨b,off,e,hF,hr⟩:=h7 hl;exact⟨b,off,e,hk b hF,hr⟩
section
variable{P:Program}{n:Nat}{W:bO}{fr:Fr}{L:List cH}{Q:Exit->Act->World->Prop}{ops:Array Oper}{rest:List Oper}
theorem Mem.aaV{w:World}{i:Nat}{o:cH}(o':cH)(h:Mem W L w)(hi:L[i]?=aj o)(hh:o'.holds w)(hf:∀k,o'.ff k->o.ff k):Mem W (L.set i o') w:=by
  have hlen:i<L.length:=(cX.1 hi).1;have hoi:=h.owns.all i o hi;refine⟨h.low,λj q hj=>?_,λj j' q q' re hj oU k hk mT=>?_⟩
  · by_cases e:i=j
    · subst e
      rw[oO hlen]at hj;simp only[df]at hj;subst hj;exact⟨hh,λk hk=>hoi.2 k (hf k hk)⟩
    rw[mq e]at hj;exact h.owns.all j q hj
  by_cases e:i=j
  · subst e
    rw[oO hlen]at hj;rw[mq re]at oU;simp only[df]at hj;subst hj;exact h.owns.apart i j' o q' re hi oU k (hf k hk) mT
  rw[mq e]at hj
  by_cases e':i=j'
  · subst e'
    rw[oO hlen]at oU;simp only[df]at oU;subst oU;exact h.owns.apart j i q o re hj hi k hk (hf k mT)
  rw[mq e']at oU;exact h.owns.apart j j' q q' re hj oU k hk mT
end
end cI
namespace kU
open Go.RowKit cU dS dl cI
set_option maxRecDepth 100000 in
theorem ad2(x y:C4)(w:World):(lJ 10000 77 (aQ #[v64 x.a,v64 x.b,v64 x.c,v64 x.d]) (aQ #[v64 y.a,v64 y.b,v64 y.c,v64 y.d])).run aB w= .ok (decide (x=y)) w:=by
  have e:(lJ 10000 77 (aQ #[v64 x.a,v64 x.b,v64 x.c,v64 x.d]) (aQ #[v64 y.a,v64 y.b,v64 y.c,v64 y.d])).run aB w= .ok ((fT x.a==fT y.a)&&((fT x.b==fT y.b)&&((fT x.c==fT y.c)&&(fT x.d==fT y.d)))) w:=by
    unfold v64;rw[run_equalIn_array (P:=aB) w 9999 (n:=4) (e:=75) _ _ I I];have h1:aB.cellsOf 75=1:=rfl;simp[Op.eqItems,go_sem,List.range_succ_eq_map,h1]
    by_cases e1:fT x.a=fT y.a<;>by_cases e2:fT x.b=fT y.b<;>by_cases e3:fT x.c=fT y.c<;>by_cases e4:fT x.d=fT y.d<;>simp[e1,e2,e3,e4]
  rw[e]
  congr 1
  by_cases h:x=y
  subst h;simp;rw[decide_eq_false h];simp only[adV,Bool.and_eq_false_iff]
  by_cases h1:x.a=y.a
  · by_cases h2:x.b=y.b
    · by_cases h3:x.c=y.c
      · by_cases h4:x.d=y.d
        exact absurd (C4.ext' h1 h2 h3 h4) h;simp[h4]
      simp[h3]
    simp[h2]
  simp[h1]
end kU
namespace cI
open Go.RowKit cU dS
section
variable{P:Program}{n:Nat}{W:bO}{fr:Fr}{L:List cH}{Q:Exit->Act->World->Prop}{ops:Array Oper}{rest:List Oper}{d:Nat}{dst:Option Tmp}{ty:TypeId}{pos:String}{after:Array Edge}{guard:Option (Nat×Bool)}
theorem ad3{t e:TypeId}{x z z':Operand}{agg:Bool}{c j len cap b off:Nat}{k k':IntKind}(ht:P.underlying t=aj (.slice e))(he:Ty P e agg c)(hx:ev fr x=aj (ap (aj ⟨b,off,ak⟩) len cap))(hz:ev fr z=aj (.int k (j:Int)))(hz':ev fr z'=aj (.int k' (j:Int)))(h2:j<=cap):
 RR P n W ⟨dst,.slice t x ak (aj z) (aj z'),ty,pos,after,guard⟩ fr L (ap (aj ⟨b,off,ak⟩) j j):= .mk λa w hr _=>by
 have hb:∀(k:IntKind) (p q:Nat) (cd:BoundsCode),p<=q->(Im (.int k (p:Int)) q cd).run P w= .ok p w:=λk p q cd h=>by
  have:(0:Int)<=(p:Int)/\(p:Int)<=(q:Int):=by omega
  simp[Im,asIntOf,this]
 have e1:((⟨b,off,ak⟩:Addr).add 0)=⟨b,off,ak⟩:=by rw[eI];rfl
 simp[execOp,hr.ev hx,hr.ev hz,hr.ev hz',sa,sb,run_underlying ht,r_,he.size,hb k' j cap _ h2,hb k j j _ (bx _),e1]
theorem OE{t e:TypeId}{s x:Operand}{q g b off size bytes m:Nat}{olds:List Value}{cs:Array Value}{T:TypeId}[tr:rf P t e size bytes](hs:ev fr s=aj (ap (aj ⟨b,off,ak⟩) m m))(hold:∀j v,olds[j]?=aj v->At W L ⟨b,off+j,ak⟩ v)(hol:olds.length=m*size)(hq:L[q]?=aj (aP g cs T))(hx:ev fr x=aj (ap (aj ⟨g,0,ak⟩) 1 1))
 (hl:cs.size=size) (ra:m+1<=140737488355328) (hb:(m+1)*bytes<=140737488355328) (hn:dv d n=aD)
 (h:∀v',TL P n W ops Q rest ((d,v')::fr) (L++[a_ e size v' (m+1) (olds++cs.toList)])):
 TL P n W ops Q (⟨aj d,.call {callee:= .builtin .append,args:=#[s,x],argTypes:=#[t,t]},ty,pos,after,ak⟩::rest) fr L:=kJ I λact w hr hm K hK=>by
 obtain⟨inf,z,ht,yI,hz,l8,KG,Ov,hsz⟩:=tr.el.ex;subst l8 KG;have hrun:=run_append_grow (P:=P) w t ty e inf z ht yI hz ⟨b,off,ak⟩ m m olds hol (λj v hj=>by rw[eI];exact hold j v hj w hm) ⟨g,0,ak⟩ 1 1 cs.toList (by simpa using hl) (λj v hj=>by rw[eI,cV];exact aH hq (by simpa using hj) w hm) J J (growslice_fits J hb);have e':(execOp act.eval ⟨aj d,.call {callee:= .builtin .append,args:=#[s,x],argTypes:=#[t,t]},ty,pos,after,ak⟩).run P w= .ok (.value (ap (aj ⟨w.heap.size,0,ak⟩) (m+1) (grownCap w (m+1) m e))) (w.drew.alloc (.cells (olds.toArray++cs.toList.toArray++Builtin.zeroCells z.cells (grownCap w (m+1) m e-(m+1))) e)):=by
  simp only[lH,r9,Oa,gh,qI,hr.ev hs,hr.ev hx,lL,hrun,nW,na]
 unfold fR;rw[e'];have hge:=grownCap_ge w (m+1) m e;have Ow:grownCap w (m+1) m e<=maxLen:=grownCap_le_maxLen w (m+1) m e (by unfold maxLen;omega);have hlen:(olds++cs.toList).length=(m+1)*inf.size:=by rw[bI,hol,lG,hl,k7]
 refine hK _ _ ((h _).go _ _ (hr.put hn _) (hm.append ((Below.refl _ _).drew.alloc (bx _) _) (ng.one ?_ ?_)))
 ·refine(⟨hlen,.inr ⟨w.heap.size,_,_,rfl,bH _,heap_alloc_new w.drew _,hge,Ow,?_,?_⟩⟩:World.ownsRow _ 0 e inf.size _ (m+1) (olds++cs.toList))
  ·simp only[Array.size_append,dZ,size_zeroCells,Ov,hol,hl]
   have:grownCap w (m+1) m e=m+1+(grownCap w (m+1) m e-(m+1)):=by omega
   conv=>rhs;rw[this,jq,jq,tU]
  simp only[Array.toList_append];rw[<-hlen];exact List.take_left
 ·intro k hk
  have hk:sd (ap (aj ⟨w.heap.size,0,ak⟩) (m+1) (grownCap w (m+1) m e))=aj k:=hk;simp only[sd,df]at hk;omega
def gA(G:Option Nat):Option Addr:=G.map λg=>⟨g,0,ak⟩
theorem Lf{w:World}{e:TypeId}{size m:Nat}{v:Value}{xs:List Value}(h:(a_ e size v m xs).holds w):∃G cap,v=ap (gA G) m cap/\m<=cap/\cap<=maxLen/\(G=ak->cap=0):=by
 have h:w.ownsRow 0 e size v m xs:=h;rcases h.2 with⟨hv,h0⟩|⟨g,cap,jS,hv,_,_,h1,h2,_⟩
 exact⟨ak,0,by rw[hv,h0];rfl,by omega,by decide,λ_=>rfl⟩;exact⟨aj g,cap,hv,h1,h2,λh=>by cases h⟩
theorem ad4{c:Code}{i size m:Nat}{e:TypeId}{v:Value}{xs:List Value}(hi:L[i]?=aj (a_ e size v m xs))(h:∀G cap,v=ap (gA G) m cap->m<=cap->cap<=9223372036854775807->(G=ak->cap=0)->T P n W c Q fr L):T P n W c Q fr L:= .mk λa w hr hm=>by
 obtain⟨G,cap,h1,h2,h3,h4⟩:=Lf (hm.get hi);exact(h G cap h1 h2 h3 h4).go a w hr hm
theorem xK{c:Code}{i size m:Nat}{e:TypeId}{v:Value}{xs:List Value}(hi:L[i]?=aj (a_ e size v m xs))(h0:0<m)(h:∀g cap,v=ap (aj ⟨g,0,ak⟩) m cap->m<=cap->cap<=9223372036854775807->T P n W c Q fr L):T P n W c Q fr L:=by
 refine ad4 hi λG cap hv h1 h2 h3=>?_
 cases G with
 |none=>have:=h3 I;omega
 |some g=>exact h g cap hv h1 h2
end
end cI
namespace cI
open Go.RowKit cU dS dl gj
theorem Lg(k:Int)(w:World):Calls aB 127 #[av az k] w (cB (ret (av az (Dm k))) w):=by
 unfold Dm;refine enter (args:=[av az k]) (n:=13) Tryz.func127 I I I ?_
 by_cases k1:k=1
 ·rw[if_pos k1]
  try refine GA ?_
  exact eM
 rw[if_neg k1]
 by_cases k2:k=2
 ·rw[if_pos k2]
  try refine GA ?_
  exact eM
 rw[if_neg k2]
 by_cases k3:k=3
 ·rw[if_pos k3]
  try refine GA ?_
  exact eM
 rw[if_neg k3]
 by_cases k6:k=6
 ·rw[if_pos k6]
  try refine GA ?_
  exact eM
 rw[if_neg k6]
 by_cases k4:k=4
 ·rw[if_pos k4]
  try refine GA ?_
  exact eM
 rw[if_neg k4]
 by_cases k5:k=5
 ·rw[if_pos k5]
  try refine GA ?_
  exact eM
 rw[if_neg k5]
 try refine GA ?_
 exact eM
theorem ad5{r:Rx}{deep n:Nat}(h:(mh r deep n).1=0):(mh r deep n).2<=100:=by
 obtain⟨e,_,h1,h2⟩:=IE _ r deep n (mh r deep n).2 (bx _) (qJ h rfl);have:=h1.sz;omega
theorem Xb(w:World):(dh 77 (#[]:Array (Nat×Value))).run aB w= .ok (oy C4.zero) w:=by kernel_rfl
theorem afI(x y:C4)(w:World):(lJ 10000 77 (oy x) (oy y)).run aB w= .ok (decide (x=y)) w:=kU.ad2 x y w
theorem Rv{W0:World}{W:bO}{L:List cH}{b off:Nat}{cs:List Value}(ho:pZ W0 W)(h:Rd W0 b off cs)(j:Nat)(v:Value)(hj:cs[j]?=aj v):At W L ⟨b,off+j,ak⟩ v:=iC ho (h j v hj)
theorem aaW{k:Int}{c:C4}{vk:Value}{j:Nat}{v:Value}(h:(dV c)[j]?=aj v):(mi k c vk).toArray[0+1+j]?=aj v:=by
 have hj:j<(dV c).length:=(cX.1 h).1;rw[jn,show 0+1+j=j+1 by omega];show(dV c++[vk])[j]?=_
 rw[eR hj];exact h
set_option maxRecDepth 100000 in
theorem Bn(w0:World)(gn:Nat):∀(N:Nat) (r:Rx),tc r<=N->∀(v:Value) (deep n:Nat) (w:World) (B:bO),n9 (p9 w0) w0 v r->n<=100->deep<=31->pZ w0 B->Mem B [aP gn #[av az (n:Int)] 3] w->
 Calls aB 99 #[v,av az (deep:Int),aJ (aj ⟨gn,0,ak⟩)] w (cY ⟨λ(_:Unit)=>True,λ_=>av az (mh r deep n).1,λ_=>[aP gn #[av az ((mh r deep n).2:Int)] 3]⟩ B)
 |0,r,h,_,_,_,_,_,_,_,_,_,_=>by have:=GQ r;omega
 | N + 1,.mk k c kids,hN,v,deep,n,w,B,hv,hn,hd,ho,hm=>by
  have IH:=Bn w0 gn N;obtain⟨vk,rfl,ahj,Rw⟩:=hv;dsimp only[Rx.kind,Rx.ud,Rx.kids]at ahj Rw⊢;obtain⟨bk,ck,rfl,iW,NL,Tz⟩:=Rw;unfold maxLen at NL;rw[mh];rw[tc]at hN;have hkc:=λw=>Lg k w;have NG:=afI c C4.zero;have hcz:=Xb;refine dm hm (args:=[qK k c (ap bk kids.length ck),av az (deep:Int),aJ (aj ⟨gn,0,ak⟩)]) (n:=55) Tryz.func99 I I I ?_;clear hm;refine cC (bz (bR I I I λg3=>?_));refine zL ?_
  repeat(first|refine GC ?_|refine gV (aC aK.ty I (aH (i:=0) I I)) ?_|refine gV (eT (r:=((n+1:Nat):Int)) I I J J J) ?_|refine GB ?_)
  refine bU (i:=0) I I I I I I ?_;rw[show(#[av az (n:Int)]:Array Value).setIfInBounds 0 (av az ((n+1:Nat):Int))=#[av az ((n+1:Nat):Int)]from I];refine zL ?_
  by_cases c1:100<n+1
  ·rw[if_pos c1]
   repeat(first|refine GA ?_|refine gV (aC aK.ty I (aH (i:=0) I I)) ?_)
   exact cJ I I λw hm=>hm.bV (S:=⟨λ(_:Unit)=>True,λ_=>av az 2,λ_=>[aP gn #[av az ((n+1:Nat):Int)] 3]⟩) () trivial [0] aiT I
  rw[if_neg c1]
  by_cases c2:30<deep
  ·rw[if_pos c2]
   repeat(first|refine GA ?_|refine gV (aC aK.ty I (aH (i:=0) I I)) ?_)
   exact cJ I I λw hm=>hm.bV (S:=⟨λ(_:Unit)=>True,λ_=>av az 7,λ_=>[aP gn #[av az ((n+1:Nat):Int)] 3]⟩) () trivial [0] aiT I
  rw[if_neg c2]
  repeat(first|refine GA ?_|refine gV (aC aK.ty I (aH (i:=0) I I)) ?_)
  by_cases c3:Dm k≠(kids.length:Int)
  ·rw[if_pos c3]
   (repeat refine cC ?_)
   refine dN ([aP g3 (mi k c (ap bk kids.length ck)).toArray 80]) (.calm 0 (.calm 1 (.calm 2 (.calm 3 (.calm 4 (.calm 5 (.calm 6 (.calm 7 (.done))))))))) (bW [1]) ?_
   repeat(first|refine GW ?_|(refine GN ?_;first|refine QW (aC aK.ty I (aH (i:=0) I I)) ?_))
   refine ow I (hZ aI.en I I) (λw hm=>hkc _) I I I ?_
   repeat(first|(refine GN ?_;first|refine QW QP ?_|refine QW (aC aK.ty I (aH (i:=0) I I)) ?_|refine QW (dr (b:=aD) I I (decide_eq_true c3)) ?_|refine GX ?_)|refine GW ?_)
   try refine GA ?_
   exact cJ I I λw hm=>hm.bV (S:=⟨λ(_:Unit)=>True,λ_=>av az 1,λ_=>[aP gn #[av az ((n+1:Nat):Int)] 3]⟩) () trivial [0] aiT I
  rw[if_neg c3];have NM:Dm k=(kids.length:Int):=by simpa using c3
  rw[NM]at hkc
  (repeat refine cC ?_)
  refine dN ([aP g3 (mi k c (ap bk kids.length ck)).toArray 80]) (.calm 0 (.calm 1 (.calm 2 (.calm 3 (.calm 4 (.calm 5 (.calm 6 (.calm 7 (.done))))))))) (bW [1]) ?_
  repeat(first|refine GW ?_|(refine GN ?_;first|refine QW (aC aK.ty I (aH (i:=0) I I)) ?_))
  refine ow I (hZ aI.en I I) (λw hm=>hkc _) I I I ?_
  repeat(first|(refine GN ?_;first|refine QW QP ?_|refine QW (aC aK.ty I (aH (i:=0) I I)) ?_|refine QW (dr (b:=aE) I I (decide_eq_false (λh=>h I))) ?_|refine GX ?_)|refine GW ?_)
  try refine GA ?_
  generalize hD:(decide (k=3) !=decide (c≠C4.zero))=D;have hD':(!(decide (k=3)==!decide (c=C4.zero)))=D:=by
   rw[<-hD,decide_not]
   cases decide (k=3)<;>cases decide (c=C4.zero)<;>rfl
  (repeat refine cC ?_)
  refine dN ([aP g3 (mi k c (ap bk kids.length ck)).toArray 80]) (.calm 0 (.calm 1 (.calm 2 (.calm 3 (.calm 4 (.calm 5 (.calm 6 (.calm 7 (.calm 8 (.done)))))))))) (bW [1]) ?_
  repeat(first|(refine GN ?_;first|refine QW QP ?_|refine QW (aC aK.ty I (aH (i:=0) I I)) ?_|refine QW (dg (b:=decide (k=3)) I I I) ?_|refine QW (a8 (cs:=dV c) aK.ty I I (λj v hj=>aH (i:=0) I (aaW hj))) ?_|refine QW (bB I hcz) ?_|refine QW (Dj I I (by kernel_rfl) NG I) ?_|refine QW (Tb (c:=D) bM.eq I I hD') ?_|refine GX ?_)|refine GW ?_)
  clear hD hD' NG hcz hkc
  cases D with
  | true=>
   rw[if_pos I]
   try refine GA ?_
   exact cJ I I λw hm=>hm.bV (S:=⟨λ(_:Unit)=>True,λ_=>av az 1,λ_=>[aP gn #[av az ((n+1:Nat):Int)] 3]⟩) () trivial [0] aiT I
  | false=>
   rw[if_neg aiT]
   repeat(first|refine GA ?_|refine gV (aC aK.ty I (aH (i:=1) I I)) ?_)
   refine uc [0] ?_;refine ea (ι:=Nat×Nat) (λ(j,q)=>j<=kids.length/\q<=100/\B4 kids (deep+1) (n+1)=B4 (kids.drop j) (deep+1) q) (λ(j,_)=>[(1,av az (deep:Int)),(2,aJ (aj ⟨gn,0,ak⟩)),(40,ap bk kids.length ck),(41,av az (kids.length:Int)),(42,av az (j:Int))])
    (λ(_,q)=>[aP gn #[av az (q:Int)] 3]) (λ(j,_)=>kids.length-j) (0,n+1) ⟨bH _,by omega,rfl⟩ ?_
   rintro⟨j,q⟩ ⟨hj,hq,hk⟩;dsimp only at hj hq hk⊢;rw[hk]
   by_cases c4:j<kids.length
   ·obtain⟨b,off,rfl,_,hr⟩:=Tz J
    obtain⟨bj,cj,eL,hkr⟩:=qo hr c4;have Wq:kids.drop j=kids[j]::kids.drop (j+1):=eN c4;rw[Wq,B4]at hk⊢;have hsz:=Dn (cD c4);have hle:=λh=>ad5 (r:=kids[j]'c4) (deep:=deep+1) (n:=q) h;have du:=λ(L:List cH) j v hj=>Rv (L:=L) ho eL j v hj;generalize kids[j]=r at*;generalize r.kids.length=m at*
    repeat(first|refine GA ?_|refine gV (aX (j:=j) bM.eq aK.ty I I c4) ?_|refine gV (a8 aK.ty I I (du _)) ?_)
    refine aY I λg8=>?_;refine zL ?_;refine gC 1 (cs':=(mi r.kind r.ud (ap bj m cj)).toArray) ?_;refine zL ?_
    repeat(first|refine GC ?_|refine gV (aO (i:=1) aK.ty I I I) ?_|refine gV (eT (r:=((deep+1:Nat):Int)) I I J J J) ?_|refine GB ?_)
    refine bm [0] [1] aiT I I (rX aI.en I I I I) (λw hm hb=>IH r J _ (deep+1) q w _ hkr hq J (ho.on hm (by intro o ho;simp at ho⊢;simp[ho])) hb) I I I ?_;intro _ _;dsimp only;refine zL ?_
    by_cases e1:(mh r (deep+1) q).1=0
    ·rw[if_neg (by simpa using e1)]
     rw[if_neg (by simpa using e1)]at hk;have Da:=hle e1;rw[e1];generalize (mh r (deep+1) q).2=q' at*
     try refine GA ?_
     refine dj [1] ?_;exact bY (j+1,q') ⟨by show j+1<=kids.length;omega,Da,rfl⟩ (by show kids.length-(j+1)<kids.length-j;omega)
    rw[if_pos e1];generalize mh r (deep+1) q=z at*
    repeat(first|refine GC ?_|refine gV (dr (b:=aD) I I (decide_eq_true e1)) ?_|refine GB ?_)
    exact cJ I I λw hm=>hm.bV (S:=⟨λ(_:Unit)=>True,λ_=>av az z.1,λ_=>[aP gn #[av az (z.2:Int)] 3]⟩) () trivial [1] aiT I
   obtain rfl:j=kids.length:=by omega
   rw[List.drop_length,B4]at hk⊢
   try refine GA ?_
   exact cJ I I λw hm=>hm.bV (S:=⟨λ(_:Unit)=>True,λ_=>av az 0,λ_=>[aP gn #[av az (q:Int)] 3]⟩) () trivial [0] aiT I
def Xc(r:Rx):Int:=(mh r 1 0).1
theorem ul(v:Value)(r:Rx)(w:World)(hv:n9 (p9 w) w v r):Calls aB 66 #[v] w (cB (ret (av az (Xc r))) w):=by
 have hc:=λgn w' B ho hm=>Bn w gn _ r (bx _) v 1 0 w' B hv J J ho hm;obtain⟨vk,rfl,_,hs⟩:=hv;obtain⟨bk,ck,rfl,-⟩:=hs;generalize r.kids.length=m at*;refine enter (args:=[qK r.kind r.ud (ap bk m ck)]) (n:=6) Tryz.func66 I I I ?_;refine cC (bz (bR I I I λg1=>?_))
 try refine GA ?_
 refine aY I λg3=>?_;refine zL ?_;refine bU (i:=1) I I I I I I ?_;refine zL ?_
 repeat(first|refine GA ?_|refine gV (aO (i:=0) aK.ty I I I) ?_)
 refine bm [1] [0] aiT I I (rX aI.en I I I I) (λw hm hb=>hc g3 w _ ((pZ.self _).on hm (by intro o ho;simp at ho⊢;simp[ho])) hb) I I I ?_;intro _ _;dsimp only;unfold Xc
 try refine GA ?_
 exact eM
end cI
end Go.Proofs.YtaobbfedlnddcaaGreat

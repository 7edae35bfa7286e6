/- Part 1 of what SessionWholeUpto needs: Kit, Law, Open, Mix, Eng, Step, Ops, Opm, Cls, Opx, MixV, MixW, Go3, Ty, OpenE, ClassL, ClassQ, ClassR, RexL, RexF, RexG, Read, Seq, ReadM, Room, Shp, Map, RexS, ClsEq, App, RexC, ClassB, ClsRg, KeyG, SmL, ClsHas, RexM, LookOk, RexE, RexPl, RexPr, MixX, RexSz, GramL, StrK, ClassO1. -/
import Derived.WalkKit
import Derived.WalkSpells
import Derived.WalkLawsBesides
import Derived.Deep.RegionLaw
import Derived.Deep.AppendLies
import Derived.Deep.QuietTactic
import Derived.BigQuiet
import Derived.Deep.DeepCutAuto
import Derived.Lib.Hide
import Derived.Test.YthmakbpkkoeabaaGreatRows
import Derived.ProofKit
import Derived.OpenShut
import Derived.ShutString
import Derived.SizedLaws
import Derived.JoinedCond
import Derived.Deep.CondSized
import Derived.Deep.Quiet
import Derived.StillTail
import Derived.Deep.LoopGhost
import Derived.Laws.BitsLemmas
import Derived.Laws.BytesString
import Derived.Laws.StructEq
import Derived.Test.YthmakbpkkoeabaaGreatProg
import Derived.Laws.Entries
import Derived.Laws.BitsAllLaws
import Derived.Lib.TrailingZeros
import Derived.Laws.MakeOwn
import Derived.Laws.AppendOwn
import Derived.Maps.OwnSet
import Derived.DeepKeys4
import Derived.WideKeyEntry
import Derived.ChangeKeysEq
import Derived.Laws.Bits64b
import Derived.Lib.Strings
import Derived.Lib.Slices
import Derived.Lib.Walk
import Derived.Lib.Bytealg
import Derived.StringKeys
namespace Go.Proofs.YthmakbpkkoeabaaGreat
set_option linter.unusedVariables false
set_option linter.unusedSimpArgs false
open _root_.And renaming intro->cP
open _root_.Array renaming getElem?_eq_some_iff->kC,getD_eq_getD_getElem?->xU,length_toList->ul,toList_setIfInBounds->I3,replicate->AQ,toList_map->DF,range->DG,setIfInBounds_comm->Xs,toArray_toList->Xt,ext_getElem?->Xu
open _root_.BitVec renaming ofNat->iM,ofInt->xV,toNat_ofNat->Xv
open _root_.Bool renaming false->aF,true->aD,and_eq_true->fc,not_eq_true'->AR,beq_eq_decide_eq->Xw
open _root_.ByteArray renaming mk->xW,size->OW,ext->afx,data_extract->afy
open _root_.Classical renaming choose_spec->DH,choose->I4,byContradiction->afz
open _root_.False renaming elim->oc
open _root_.Go.Act renaming put_comm->AS,put->qS,eval->I5
open _root_.Go.Addr renaming add->um
open _root_.Go.Addr.mk renaming injEq->OX
open _root_.Go.BigFrame renaming execOp_builtin->me,builtin_append->sv,builtin_len->OY,wpList_want->Xx,builtin_min->Xy
open _root_.Go.Builtin renaming append_->uo,lenOf->AT,firstCells->DI,min_->Xz,min2->XA,len_->XB
open _root_.Go.ByteArray renaming mk_append_mk->afA
open _root_.Go.Calls renaming mono->XC
open _root_.Go.ChangeSpec renaming plain->afB
open _root_.Go.Code renaming region->XD
open _root_.Go.Conv renaming bytesToString->XE
open _root_.Go.DataW renaming weightsEach->xX,weights->xY,weightsAll->DJ,trod->sw,TrodAll->I6,Trod->OZ,trod_slice->XF
open _root_.Go.Deferred renaming ofValue->AU
open _root_.Go.Exit renaming inBlock->uu
open _root_.Go.Instr renaming build->dg,fill->jv,sliceBounds->sx,buildSlice->uv,sliceAt->sy,sureAddr->xZ,slice->sA,sliceBound->I7,mapUpdate->AV,storeAt->O0,fieldAt->XG,indexAt->XH,loadAt->XI,index->XJ
open _root_.Go.IntKind renaming i64->aB,bits->mf,signed->sB,wrap_u64->ux,u64->uy,min->I8,max->I9
open _root_.Go.Lib renaming hid->DK
open _root_.Go.Maps renaming size->O1,has->O2
open _root_.Go.Maps.Keyed renaming of_law->afC
open _root_.Go.Next renaming value->XK
open _root_.Go.Op renaming shift->iN,equalIn->od,intCmp->AW,intArith->O3,equal->I_,stringOp->XL
open _root_.Go.Oper renaming wp->gi,upon_enter->O4,upon->O5,upon_value->XM
open _root_.Go.Program renaming keyLits->AX
open _root_.Go.Proofs.Tryz renaming prog->aE
open _root_.Go.Region renaming ready->jw,wanted->kW,noSelect->AY,Mode->uz,binds->AZ,noSelect_spec->O6,free_spec->O7,chainB->O8,sinkB->O9,free->O_,seqB->Pa
open _root_.Go.Result renaming andThen_ok->qU,andThen->ns,ok->Pb
open _root_.Go.Sem renaming run_bind->oe,run_pure->ph
open _root_.Go.Value renaming slice->av,int->az,pointer->aK,agg->aQ,oneCell'->ft,bool->fT,ownBlock->sC,okWide->DL
open _root_.Go.Value.slice renaming injEq->jN
open _root_.Go.WideElems renaming Trod_stays->afD
open _root_.Go.World renaming block_lt_of_cell?->og,cell?_setCell_other->XN,frozen?_setCell->XO,cell?_of_block->XP,ownsMap_made->XQ
open _root_.Int renaming toNat_natCast->dD
open _root_.List renaming getElem?_eq_getElem->bM,length_append->bK,getElem_mem->cH,getElem?_eq_some_iff->dX,length_cons->dj,drop_eq_getElem_cons->eH,replicate->dl,size_toArray->eM,append_nil->dY,mem_cons->dM,length_map->eI,append_assoc->eY,take_of_length_le->gT,nil_append->e7,drop_of_length_le->jx,not_mem_nil->fz,range->eA,getElem?_set_ne->kX,eq_nil_of_length_eq_zero->mK,mem_append->gj,map_cons->ff,mem_iff_getElem->iC,mem_cons_self->iO,getElem?_map->jy,mem_map->fG,getElem?_set_self->oh,getElem?_append_left->mg,cons_append->kD,set_eq_take_append_cons_drop->DN,take_append_drop->om,getElem?_cons_zero->pj,length_take->jz,mem_of_getElem?->mL,drop_drop->nt,ext_getElem?->mh,nodup_cons->sD,flatMap_cons->oo,getElem?_append_right->x6,getElem?_of_mem->uA,filterMap->uB,mem_range->qV,all_eq_true->pq,map_nil->lL,setIfInBounds_toArray->uC,filterMap_cons_some->A0,set_cons_zero->x7,take_zero->uD,getElem?_concat_length->Pc,mem_map_of_mem->I',mem_append_left->uE,length_erase_of_mem->Pd,length_pos_of_mem->Pe,mem_erase_of_ne->Pf,findIdx?_eq_some_iff_getElem->XR,zipIdx_cons->Pg,map_toArray->Ph,set_cons_succ->DO,nodup_range->Pj,take_left'->Pk,drop_left'->Pl,flatten_cons->DP,drop_take->Pm,getElem_append_right->XS,pairwise_iff_getElem->XT,getElem_append_left->XU,getElem?_cons_succ->XV,getElem_cons_succ->XW,map_map->Pn,getElem?_append->XX,set_append_left->XY,take_succ_cons->XZ,getElem_ofFn->X0,idxOf_append->X1,mapM_cons->X2,ofFn->X3
open _root_.List.Pairwise renaming imp_of_mem->afE
open _root_.List.Perm renaming swap->afF
open _root_.List.cons renaming injEq->jA
open _root_.Nat renaming le_refl->bC,zero_le->bH,zero_add->cX,eq_of_beq_eq_true->mi,blt->dq,le_trans->fH,lt_of_lt_of_le->kE,le_of_ble_eq_true->nu,beq->fU,add_assoc->kF,add_zero->lO,add_mul->nv,succ_mul->pt,mul_le_mul_right->x8,ne_of_beq_eq_false->Ja,mul_one->lP,div_lt_iff_lt_mul->Po,one_mul->DQ,ble->x9,min_eq_left->Pp,mod_lt->x_,zero_mul->A1,add_comm->Pq,mod_eq_of_lt->X4,div_add_mod->X5,mul_comm->X6,lt_or_ge->X7
open _root_.Ne renaming symm->Ps
open _root_.Option renaming some->aj,none->ak
open _root_.Option.some renaming injEq->dL,inj->sE
open _root_.Prod renaming ext->nw
open _root_.Prod.mk renaming injEq->jX
open _root_.UInt8 renaming ofNat->fV
set_option maxHeartbeats 16000000
theorem I{α:Sort _}{a:α}:a=a:=rfl
theorem J{p:Prop}(h:p:=by omega):p:=h
theorem aln{p:Prop}(h:p:=by decide):p:=h
namespace cL
open Go.RowKit
section
end
theorem X8{B:Nat}{w0 w w':World}(h:Below B w0 w)(hB:B<=w.heap.size)(hg:Below w.heap.size w w'):Below B w0 w':=h.trans (hg.mono hB)
def X9(b:UInt8):Value:= .int .u8 b.toNat
def Rd(w:World)(g off:Nat)(xs:List Value):Prop:=∀j u,xs[j]?=aj u->w.cell? ⟨g,off+j,ak⟩=aj u
def Wr(w:World)(g off:Nat)(xs:List Value):Prop:=∀j u,xs[j]?=aj u->w.cell? ⟨g,off+j,ak⟩=aj u/\w.frozen? ⟨g,off+j,ak⟩=aF
theorem Wr.rd{w:World}{g off:Nat}{xs:List Value}(h:Wr w g off xs):Rd w g off xs:=λj u hj=>(h j u hj).1
theorem Rd.gr{w w':World}{g off:Nat}{xs:List Value}(h:Rd w g off xs)(hg:Below w.heap.size w w'):Rd w' g off xs:=λj u hj=>by
 have h1:=h j u hj;rw[hg.cell (og w _ h1)];exact h1
theorem Wr.gr{w w':World}{g off:Nat}{xs:List Value}(h:Wr w g off xs)(hg:Below w.heap.size w w'):Wr w' g off xs:=λj u hj=>by
 have h1:=h j u hj;rw[hg.cell (og w _ h1.1),hg.frozen (og w _ h1.1)];exact h1
theorem Rd.at{w:World}{g off:Nat}{xs:List Value}(h:Rd w g off xs)(j:Nat)(hj:j<xs.length):w.cell? ⟨g,off+j,ak⟩=aj xs[j]:=h j _ (bM hj)
theorem Wr.at{w:World}{g off:Nat}{xs:List Value}(h:Wr w g off xs)(j:Nat)(hj:j<xs.length):w.cell? ⟨g,off+j,ak⟩=aj xs[j]/\w.frozen? ⟨g,off+j,ak⟩=false:=h j _ (bM hj)
theorem Wr.set{w:World}{g off:Nat}{xs:List Value}(h:Wr w g off xs)(j:Nat)(hj:j<xs.length)(u:Value):Wr (w.setCell ⟨g,off+j,ak⟩ u) g off (xs.set j u):=λi v hi=>by
 have hlen:i<xs.length:=by grind
 refine⟨?_,by rw[XO];exact(h.at i hlen).2⟩
 by_cases e:i=j
 ·subst e
  rw[oh hj]at hi;rw[World.cell?_setCell_same _ _ _ (h.at i hj).1];exact hi
 rw[kX (Ps e)]at hi;have hne:(⟨g,off+j,ak⟩:Addr)≠⟨g,off+i,ak⟩:=λhe=>e (by simp_all);rw[XN _ _ _ _ hne];exact(h i v hi).1
theorem Wr.grown{w w':World}{g off:Nat}{xs:List Value}{row:Option Nat}(h:Wr w g off xs)(hg:w.grownBy w' row)(hne:row≠aj g):Wr w' g off xs:=λj u hj=>by
 have h1:=h j u hj;have hb:=og w _ h1.1;have e:=hg.block g hb (λh=>hne h.symm);rw[XP (w:=w) (a:=⟨g,off+j,ak⟩) e,World.frozen?_of_block (w:=w) (a:=⟨g,off+j,ak⟩) e];exact h1
theorem Wr.far{w:World}{g off:Nat}{xs:List Value}(h:Wr w g off xs){a:Addr}(ha:a.block≠g)(u:Value):Wr (w.setCell a u) g off xs:=λj v hj=>by
 have h1:=h j v hj;rw[XO,XN _ _ _ _ (λe=>ha (by rw[e]))];exact h1
theorem aeY(z:Value)(n:Nat):(madeCells #[z] n).toList=dl n z:=by
 apply mh;intro i
 by_cases h:i<n
 simp[madeCells,h,Nat.mod_one];simp[madeCells,h]
theorem acy(W:World)(o:Obj)(n:Nat)(h:W.heap.size=n):(W.alloc o).heap[n]?=aj o:=h▸heap_alloc_new W o
theorem Wr.append{w w':World}{g off:Nat}{xs:List Value}(h:Wr w g off xs){base:Nat}{e:TypeId}{size:Nat}{v:Value}{n:Nat}{ys:List Value}(lX:w.ownsRow base e size v n ys)(hg:w.grownBy w' v.ownBlock)(hb:g<base):Wr w' g off xs:=
 h.grown hg λe=>by have:=(lX.lt g e).1;omega
theorem Wr.nil(w:World)(g off:Nat):Wr w g off []:=λj u h=>by grind
theorem afG{w:World}{base:Nat}{e:TypeId}{size:Nat}{g n cap:Nat}{xs:List Value}(h:w.ownsRow base e size (av (aj ⟨g,0,ak⟩) n cap) n xs):Wr w g 0 xs:=λj u hj=>by
 have hl:j<n*size:=by rw[<-h.1];exact(dX.1 hj).1
 rw[cX];exact⟨(h.cellAt j hl).trans hj,h.frozenAt j⟩
theorem Lz{P:Program}{src dst e:TypeId}(hs:P.underlying src=aj (.slice e))(he:P.underlying e=aj (.int .u8))(hd:P.underlying dst=aj .string){w:World}{g off n cap:Nat}{l:List UInt8}
 (hn:n=l.length) (h:Rd w g off (l.map X9)):(convert src dst (av (aj ⟨g,off,ak⟩) n cap)).run P w= .ok (.string ⟨l.toArray⟩) w:=by
 subst hn;refine run_convert_bytes_back w src dst e ⟨g,off,ak⟩ cap l hs he hd λj hj=>?_;have:=h.at j (by simp_all);rw[show(⟨g,off,ak⟩:Addr).add j=⟨g,off+j,ak⟩by unfold um;split<;>simp_all,this];simp[X9]
end cL
namespace law
open Go.ChangeShapes Go.WideShapes Go.ChangeAt Go.RowKit
theorem own:ownKnob aE.godebug=none:=by kernel_rfl
theorem laidOut:laidOutB aE=true:=by kernel_rfl
structure ahD{H:Type}(enc:TypeId×Value->H)(fn:Func)(W:World)(base:Nat)(args:Array Value)(ds:List (DataW H))(p:List MemPlace):Prop where
 val:∀(j:Nat) t v,fn.params[j]?=aj t->args[j]?=aj v->DL aE W .any base t v
 trod:I6 enc aE W 0 (λ_=>aD) aD fn.params.toList args.toList ds p
 sized:(xX aE fn.params.toList ds).all (· <=reachBytes)=aD
 free:W.noneFrozen p
noncomputable def aeZ(fn:Func):Bool:=fn.params.toList.all λt=>aE.readableRec t&&decide (t<aE.types.size)
section
variable{H:Type}{enc:TypeId×Value->H}
theorem xD{P:Program}(hl:laidOutB P=aD){W W':World}{sp':Nat->Bool}:∀{ts:List TypeId} {vs:List Value} {ds:List (DataW H)} {ps:List MemPlace},(ts.all λt=>P.readableRec t&&decide (t<P.types.size))=aD->
 I6 enc P W 0 (λ_=>aD) aD ts vs ds ps->(∀p∈ps,W.sameAt W' p)->(∀p∈ps,sp' p.block=aD)->I6 enc P W' 0 sp' aD ts vs ds ps
 |[],[],[],_,_,h,_,_=>h
 | t ::ts,v::vs,d::ds,_,hb,⟨p,q,h1,h2,e⟩,h3,h4=>by
  simp only[List.all_cons,fc,decide_eq_true_eq]at hb;subst e;exact⟨p,q,afD hl hb.1.1 hb.1.2 h1 (λx hx=>h3 x (by simp[hx])) (λx hx=>h4 x (by simp[hx])),
   xD hl hb.2 h2 (λx hx=>h3 x (by simp[hx])) (λx hx=>h4 x (by simp[hx])),rfl⟩
 |[],_::_,_,_,_,h,_,_=>h.elim
 |[],[],_::_,_,_,h,_,_=>h.elim
 |_::_,[],_,_,_,h,_,_=>h.elim
 |_::_,_::_,[],_,_,h,_,_=>h.elim
theorem uF{P:Program}{W:World}{sp:Nat->Bool}:∀{ts:List TypeId} {vs:List Value} {ds:List (DataW H)} {ps:List MemPlace},I6 enc P W 0 sp aD ts vs ds ps->ds.length=ts.length
 |[],[],[],_,_=>rfl
 |_::ts,_::vs,_::ds,_,⟨_,_,_,h2,_⟩=>by simp[uF h2]
 |[],_::_,_,_,h=>h.elim
 |[],[],_::_,_,h=>h.elim
 |_::_,[],_,_,h=>h.elim
 |_::_,_::_,[],_,h=>h.elim
def LA(fn:Func)(s:ChangeSpec):Prop:=s.vars=[]/\∀(H:Type) (ds:List (DataW H)),ds.length=fn.params.size->s.fn H ds={results:=[.lit (.bool aD)],args:=ds}
theorem acz{fn:Func}{s:ChangeSpec}{W W':World}{args:Array Value}{ds gs:List (DataW H)}{before:List MemPlace}(hs:LA fn s)(zf:aeZ fn=aD)(lY:fn.resultTypes=#[4])
 (hW:DataW.Whole enc aE fn.params.toList s.vars aF W args.toList ds gs before) (hb:Below W.heap.size W W'):
 s.post enc aE fn aF aD aF aF W args (.bool aD) W':=by
 obtain⟨hv,hfn⟩:=hs;have hW':=hW;obtain⟨p,q,hA,hV,rfl,hfz,Hm⟩:=hW;rw[hv]at hV;obtain⟨rfl,rfl⟩:=trodVars_none hV;have hlen:ds.length=fn.params.size:=by rw[uF hA];simp
 have hlt:∀x∈p,x.block<W.heap.size:=λx hx=>hW'.lt x (by simp[hx]);have he:s.fn H (ds++[])={results:=[.lit (.bool aD)],args:=ds}:=by rw[dY];exact hfn H ds hlen
 refine⟨ds,[],p++[],[],p,[],hW',?_,?_,?_,hb.frame _,λh=>by cases h⟩
 ·rw[he,lY]
  exact trodAll_mk1 (shut_bool Tryz.underlying4 aD)
 ·rw[he]
  exact xD laidOut zf hA (λx hx=>hb.same (hlt x hx)) (λx hx=>by simpa using hlt x hx)
 ·rw[he,hv]
  rfl
end
set_option maxRecDepth 100000 in
theorem upto{os:Os}{f:FuncId}{fn:Func}{s:ChangeSpec}{F:Stop.Interp}(started:os.Started)(afH:aE.inits.idxOf? f=ak)(hf:aE.funcs[f]?=aj fn)(hs:LA fn s)(zf:aeZ fn=aD)(lY:fn.resultTypes=#[4])
  {H:Type} {enc:TypeId×Value->H}
  (witness:∃(w:World) (tape:Tape) (i:Input),w.os=os/\(w.forCall tape i).Shaped Tryz.checked.prog/\i.vars=[]/\Input.okWide Tryz.checked.prog (w.forCall tape i) .any w.heap.size f i/\
   (Rows.OpenSpec.upto s).pre6 enc Tryz.checked.prog fn [] aF (w.forCall tape i).memory i.args/\({}:Assume).holds Tryz.checked.prog (lone (Frame.enter Tryz.checked.prog f i.args .normal) [] (w.forCall tape i)))
  (walk:∀(W:World) (base:Nat) (args:Array Value) (ds:List (DataW H)) (p:List MemPlace),ahD enc fn W base args ds p->Rows.uptoSmall H ds=aD->Calls aE f args W λe W'=>e= .returned (.bool aD)/\Below W.heap.size W W'):
  ReturnsInHanded {} Tryz.checked os f .any ((Rows.OpenSpec.upto s).pre6 enc aE fn [] aF) (((Rows.OpenSpec.upto s).at F).post enc aE fn aF aD aF aF):=by
 refine returnsInHanded_of_cond_sized (C:=Tryz.checked) (s:=Rows.OpenSpec.upto s) (k:=Rows.uptoSmall) I own started afH hf witness ?_;intro W base args ds gs before hval hW _ hk hsz _;have hW':=hW;obtain⟨p,q,hA,hV,rfl,hfz,Hm⟩:=hW;have ae0:(Rows.OpenSpec.upto s).vars=[]:=hs.1;rw[ae0]at hV;obtain⟨rfl,rfl⟩:=trodVars_none hV;have ajG:(xX aE fn.params.toList ds).all (· <=reachBytes)=true:=by
  have e:(Rows.OpenSpec.upto s).bare.plain.varTypes aE=[]:=by simp[OpenSpec.bare,afB,DataSpec.varTypes,ae0]
  have:=hsz;rw[show(Rows.OpenSpec.upto s).bare.plain.varTypes Tryz.checked.prog=[]from e]at this;rw[dY,dY]at this;exact this
 refine(walk W base args ds p ⟨hval,hA,ajG,λb off h=>hfz b off (by simp[h])⟩ (by simpa using hk)).mono λe W' ⟨he,hb⟩=>?_;exact⟨_,he,acz (s:=(Rows.OpenSpec.upto s).at F) hs zf lY hW' hb⟩
end law
namespace cL
open Go.ChangeShapes Go.WideShapes Go.ChangeAt Go.RowKit
def Sl(w:World)(v:Value)(n:Nat)(xs:List Value):Prop:=
 ∃base cap,v=av base n cap/\n<=cap/\cap<=maxLen/\(0<n->∃b off,base=aj ⟨b,off,ak⟩/\Rd w b off xs)
theorem Sl.gr{w w':World}{v:Value}{n:Nat}{xs:List Value}(h:Sl w v n xs)(hg:Below w.heap.size w w'):Sl w' v n xs:=
 let ⟨base,cap,h1,h2,h3,h4⟩:=h
 ⟨base,cap,h1,h2,h3,λhn=>let ⟨b,off,h5,h6⟩:=h4 hn;⟨b,off,h5,h6.gr hg⟩⟩
theorem Sl.dx{w:World}{base:Nat}{e:TypeId}{size:Nat}{v:Value}{n:Nat}{xs:List Value}(h:w.ownsRow base e size v n xs):Sl w v n xs:=by
 rcases h.2 with⟨rfl,rfl⟩|⟨g,cap,kU,rfl,hb,hg,hn,hm,r⟩
 exact⟨ak,0,rfl,bC _,by decide,λh=>by omega⟩;exact⟨_,cap,rfl,hn,hm,λ_=>⟨g,0,rfl,(afG h).rd⟩⟩
theorem mapM_some{α β:Type}{f:α->Option β}:∀{l:List α} {r:List β},l.mapM f=aj r->r.length=l.length/\∀(i:Nat) (a:α),l[i]?=aj a->∃b,f a=aj b/\r[i]?=aj b
 | [],r,h=>by
  simp_all
 | x ::l,r,h=>by
  rw[X2]at h
  cases hx:f x with
  |none=>simp_all
  | some y=>
   rw[hx]at h
   cases hr:l.mapM f with
   |none=>simp_all
   | some r'=>
    rw[hr]at h;simp at h;subst h;obtain⟨h1,h2⟩:=mapM_some hr;refine⟨by simp[h1],λi a hi=>?_⟩
    cases i with
    |zero=>simp at hi;subst hi;exact⟨y,hx,rfl⟩
    |succ i=>simp at hi;simpa using h2 i a hi
theorem jB{w:World}{a:Addr}{n:Nat}{cs:List Value}(h:w.cells? 0 a n=aj cs):cs.length=n/\∀j,j<n->w.cell? (a.add j)=cs[j]?:=by
 unfold World.cells? at h;rw[if_pos (bH _)]at h;obtain⟨h1,h2⟩:=mapM_some h;rw[List.length_range]at h1;refine⟨h1,λj hj=>?_⟩;obtain⟨b,hb,hc⟩:=h2 j j (by grind);rw[hb,hc]
theorem eS(b off j:Nat):(⟨b,off,ak⟩:Addr).add j=⟨b,off+j,ak⟩:=by simp[um]
theorem A2{w:World}{a:Addr}{v:Value}(h:w.cell? a=aj v):a.spot=none:=by
 unfold World.cell? at h;split at h
 simp_all
 cases h
theorem uG{α:Type}{enc:α->List Value}{c:Nat}(hlen:∀a,(enc a).length=c):∀(l:List α) (i j:Nat) (a:α),l[i]?=aj a->j<c->(l.flatMap enc)[i*c+j]?=(enc a)[j]?
 |[],i,j,a,h,_=>by grind
 |x::l,0,j,a,h,hj=>by
  grind
 |x::l,i+1,j,a,h,hj=>by
  have ih:=uG hlen l i j a (by simp_all) hj;rw[oo,x6 (by rw[hlen,nv];omega),hlen,show(i+1)*c+j-c=i*c+j by rw[nv];omega];exact ih
theorem B4{α:Type}{enc:α->List Value}{c:Nat}(hlen:∀a,(enc a).length=c)(l:List α):(l.flatMap enc).length=l.length*c:=by
 induction l with
 |nil=>simp
 |cons x l ih=>grind
section
variable{H:Type}{enc0:TypeId×Value->H}{P:Program}{W:World}
theorem zg{α:Type}{p:Nat->α->Prop}:∀(n:Nat),(∀i,i<n->∃a,p i a)->∃l:List α,l.length=n/\∀(i:Nat) (a:α),l[i]?=aj a->p i a
 |0,_=>⟨[],rfl,λi a h=>by grind⟩
 | n+1,h=>by
  obtain⟨l,hl,hp⟩:=zg n λi hi=>h i J;obtain⟨a,ha⟩:=h n J;refine⟨l++[a],by grind,λi b hb=>?_⟩
  grind
theorem UI{t e:TypeId}(ht:P.underlying t=aj (.slice e)){c:Nat}(hc:P.cellsOf e=c)(Gq:0<c){α:Type}(enc:α->List Value)(hlen:∀a,(enc a).length=c)(ok:α->Prop)
 (dec:∀(fuel:Nat) (cs:List Value) x,sw enc0 P W 0 (λ_=>aD) aD fuel e cs=aj x->∃a,cs=enc a/\ok a)
 {base:Nat} {v:Value} {d:DataW H} {ps:List MemPlace} (hv:DL P W .any base t v) (h:OZ enc0 P W 0 (λ_=>aD) aD t v d ps):
 ∃l:List α,Sl W v l.length (l.flatMap enc)/\(∀a∈l,ok a)/\((d= .nil/\l=[])\/∃elems spare,d= .slice elems spare/\elems.length=l.length):=by
 obtain⟨a0,len,cap,rfl⟩:=okWide_slice ht hv;obtain⟨fuel,hf⟩:=h;have C9:sw enc0 P W 0 (λ_=>aD) aD fuel t [av a0 len cap]=aj (d,ps):=hf;rcases XF ht C9 with⟨hcs,hx⟩|⟨a,akO,A3,elems,rest,n,_,hcs,hx,_,hl,hm,tK,zf,_⟩
 ·simp only[jA,jN,and_true]at hcs
  obtain⟨rfl,rfl,rfl⟩:=hcs;simp only[jX]at hx;exact⟨[],⟨ak,0,rfl,bC _,by decide,λh=>by grind⟩,by simp,.inl ⟨hx.1,rfl⟩⟩
 ·simp only[jA,jN,and_true]at hcs
  obtain⟨rfl,rfl,rfl⟩:=hcs;simp only[jX]at hx;have each:∀i,i<len->∃b:α,(W.cells? 0 (a.add (i*c)) c=aj (enc b))/\ok b:=λi hi=>by
   have h1:=zf i hi;rw[hc]at h1;rw[bM J]at h1
   cases hcell:W.cells? 0 (a.add (i*c)) c with
   |none=>simp_all
   | some cs=>
    grind
  obtain⟨l,Pt,hp⟩:=zg len each;refine⟨l,⟨aj a,cap,by rw[Pt],by omega,hm,λh0=>?_⟩,λb hb=>?_,.inr ⟨_,_,hx.1,by simp_all⟩⟩
  ·have h1:=hp 0 l[0] (bM h0)
   have h2:=(jB h1.1).2 0 Gq;rw[bM (by simp_all)]at h2;have hsp:=A2 h2;have e0:a.spot=none:=by
    simp_all[um]
   obtain⟨b,off,spot⟩:=a;simp only at e0;subst e0;refine⟨b,off,rfl,λj u hj=>?_⟩;have W9:=(dX.1 hj).1;rw[B4 hlen]at W9;have hi:j/c<l.length:=(Po Gq).2 W9;have UJ:=x_ j Gq;have hdm:j/c*c+j %c=j:=by simp[X6,X5]
   have h3:=hp (j/c) l[j/c] (bM hi);have h4:=(jB h3.1).2 (j %c) UJ;rw[eS,eS,kF,hdm]at h4;rw[h4,<-uG hlen l (j/c) (j %c) l[j/c] (bM hi) UJ,hdm];exact hj
  obtain⟨i,hi,rfl⟩:=iC.1 hb;exact(hp i _ (bM hi)).2
end
def Hn(b:Bool):List Value:=[.bool b]
def eJ(n:Int):List Value:=[az aB n]
theorem X_{α:Type}{f:α->Value}(l:List α):l.flatMap (λa=>[f a])=l.map f:=by
 induction l with
 |nil=>rfl
 |cons x l ih=>simp_all
def dV(n:Int):Prop:= -9223372036854775808<=n/\n<=9223372036854775807
end cL
namespace dQ
open Go.RowKit
abbrev Gr(w w':World):Prop:=Below w.heap.size w w'
theorem Gr.refl(w:World):Gr w w:=Below.refl _ _
theorem Gr.trans{a b c:World}(h:Gr a b)(k:Gr b c):Gr a c:=Below.trans h (k.mono h.size)
theorem Gr.drew(w:World):Gr w w.drew:=(Below.refl _ _).drew
def Up(w w':World):Prop:=Gr w w'
def jO(S:World->Prop):Prop:=∀w w',S w->Gr w w'->S w'
theorem UK(w:World):jO (Up w):=λ_ _ h k=>Gr.trans h k
section
variable{P:Program}{ops:Array Oper}{md:uz}{Q:Exit->Act->World->Prop}
def DR(P:Program)(w:World)(v:Value):Result Next->Prop
 | .ok (.value u) w'=>u=v/\Gr w w'
 | .ok .skip w'=>v=undef/\Gr w w'
 | .ok (.enter f args) w'=>Gr w w'/\Calls P f args w' (λe Gs=>e= .returned v/\Gr w' Gs)
 |_=>False
def pu(P:Program)(o:Oper)(a:Act)(w:World)(v:Value):Prop:=DR P w v ((execOp a.eval o).run P w)
def jY(P:Program)(ops:Array Oper)(S:World->Prop)(o:Oper)(v:Value)(a:Act):Prop:=
 (kW o (yielded ops a.tmps)=aD/\∀w,S w->pu P o a w v)\/(kW o (yielded ops a.tmps)=aF/\v=undef)
theorem jY.mono{S S':World->Prop}{o:Oper}{v:Value}{a:Act}(hs:∀w,S' w->S w)(h:jY P ops S o v a):jY P ops S' o v a:=
 h.imp (λ⟨h1,h2⟩=>⟨h1,λw hw=>h2 w (hs w hw)⟩) id
theorem jY.of_same{S:World->Prop}{o:Oper}{v:Value}{a a':Act}(hy:jY P ops S o v a)(he:execOp a'.eval o=execOp a.eval o)
 (hw:kW o (yielded ops a'.tmps)=kW o (yielded ops a.tmps)):jY P ops S o v a':=by
 simp_all[jY,pu]
theorem jY.wpOp{S:World->Prop}{i:Nat}{o:Oper}{v:Value}{a:Act}(hi:ops[i]?=aj o)(hy:jY P ops S o v a)(jU:jO S)
 {K:Act->World->Prop} {w:World} (hS:S w) (h:∀w',S w'->K (a.put o.dst v) w'):wpOp P ops Q i K a w:=by
 unfold Go.wpOp;simp only[hi];rcases hy with⟨hw,hv⟩|⟨hw,rfl⟩
 ·simp only[hw,if_true]
  refine .inl ?_;have h1:=hv w hS;unfold pu at h1;unfold gi;generalize (execOp a.eval o).run P w=r at*
  cases r with
  | ok n w'=>
   cases n<;>simp only[DR]at h1<;>simp only[O5]
   case value u=>rw[h1.1];exact h _ (jU _ _ hS h1.2)
   case skip=>rw[<-h1.1];exact h _ (jU _ _ hS h1.2)
   case enter f args=>
    refine h1.2.mono λe Gs ⟨he,hg⟩=>?_;subst he;exact h _ (jU _ _ (jU _ _ hS h1.1) hg)
  |halt x w'=>simp_all[DR]
 simp_all
theorem Ho{S:World->Prop}{j:Nat}{oi oj:Oper}{v:Value}(hj:ops[j]?=aj oj)(hap:oi.apart ops oj=aD)
 (hsi:∀cs b,oi.op≠ .select cs b) (hsj:∀cs b,oj.op≠ .select cs b)
 (hQ:∀c a w,Q (.panic c) (a.put oi.dst v) w->Q (.panic c) a w) {K:Act->World->Prop} {a:Act} {w:World}
 (hy:jY P ops S oi v a) (h:wpOp P ops Q j K (a.put oi.dst v) w):
 wpOp P ops Q j (λa' w'=>jY P ops S oi v a'/\K (a'.put oi.dst v) w') a w:=by
 obtain⟨h1,h2,h3⟩:=Oper.apart_spec hap;have keep:∀(a:Act),jY P ops S oi v a->∀u,jY P ops S oi v (a.put oj.dst u):=λa hy u=>
  hy.of_same (execOp_put oi hsi a oj.dst u h3) (wanted_put oi a oj.dst u h3)
 have akD:∀d,jY P ops S oi v {a with defers:=d::a.defers}:=λd=>hy.of_same I I;unfold wpOp at*;simp only[hj]at*;rw[wanted_put oj a oi.dst v h1]at h;split
 ·rename_i hw
  simp only[hw,if_true]at h;rcases h with h|⟨ae1,ahE⟩
  case inr=>exact .inr ⟨by unfold Oper.asks at*;rw[execOp_put oj hsj a oi.dst v h1]at ae1;exact ae1,ahE⟩
  refine .inl ?_;unfold gi at*;rw[execOp_put oj hsj a oi.dst v h1]at h;generalize (execOp a.eval oj).run P w=r at*
  cases r with
  | ok n w'=>
   cases n<;>simp only[O5]at h⊢
   grind[AS]
   grind[AS]
   case defer d=>
    grind[AS,Act.put_defers]
   grind[XC,AS]
   grind[AS]
  | halt x w'=>
   cases x<;>simp_all[O5]
 grind[AS]
def A4(P:Program)(md:uz)(ops:Array Oper)(Q:Exit->Act->World->Prop)(n:Nat)(L:Array Bool->Act->World->Prop):Nat->Array Bool->Act->(World->Prop)->Prop
 |0,listed,a,S=>∀w,S w->L listed a w
 | f+1,listed,a,S=>jw md ops listed≠[]/\
  ∀i∈jw md ops listed,i<n/\∀w,S w->wpOp P ops Q i (λa' w'=>∃S',jO S'/\(∀x,S' x->S x)/\S' w'/\A4 P md ops Q n L f (listed.setIfInBounds i aD) a' S') a w
theorem DS{n g:Nat}{L:Array Bool->Act->World->Prop}(hL:∀listed a w,L listed a w->wpAny P md ops Q g listed a w):
 ∀(f:Nat) (listed:Array Bool) (a:Act) (S:World->Prop) (w:World),S w->A4 P md ops Q n L f listed a S->wpAny P md ops Q (f+g) listed a w
 |0,listed,a,S,w,hw,h=>by rw[cX];exact hL _ _ _ (h w hw)
 |f+1,listed,a,S,w,hw,h=>by
  rw[show f+1+g=(f+g)+1 by omega];exact⟨λh0=>absurd h0 h.1,λi hi=>wpOp_mono (λa' w' ⟨S',_,_,ud,h'⟩=>DS hL f _ a' S' w' ud h') ((h.2 i hi).2 w hw)⟩
theorem Jb{n i:Nat}{oi:Oper}{v:Value}{L:Array Bool->Act->World->Prop}(hi:ops[i]?=aj oi)(mF:∀(j:Nat) (o:Oper) cs b,ops[j]?=aj o->o.op≠ .select cs b)
 (hs:O9 md ops n=aD) (hc:O8 md ops n=aD) (hn:n<ops.size) (Gt:i<n)
 (hQ:∀c a w,Q (.panic c) (a.put oi.dst v) w->Q (.panic c) a w)
 (hdone:∀listed a w,L listed a w->∀j∈jw md ops listed,n<=j):
 ∀ (f:Nat) (listed:Array Bool) (a:Act) (S:World->Prop),jO S->HeadInv md ops n listed->
  (∀j oj,ops[j]?=aj oj->j≠i->listed.getD j aD=aF->(∀e∈oj.after,AZ md e=aD->e.on≠i)->oi.apart ops oj=aD)->
  i∈jw md ops listed->jY P ops S oi v a->
  A4 P md ops Q n L f (listed.setIfInBounds i aD) (a.put oi.dst v) S->A4 P md ops Q n L (f+1) listed a S:=by
 intro f
 induction f with
 | zero=>
  intro listed a S jU inv _ hr hy H;have DT:=(mem_ready.1 hr).1;refine⟨λh=>(by simp_all),λj hj=>?_⟩;have hjn:j<n:=by
   rcases X7 j n with h|h
   exact h;exact absurd hj (tail_waits hs hc hn inv _ i I Gt DT j h)
  refine⟨hjn,λw hw=>?_⟩
  by_cases Lm:j=i
  subst Lm;exact hy.wpOp hi jU hw λw' ud=>⟨S,jU,λ_ h=>h,ud,H⟩;have:=hdone _ _ _ (H w hw) j (ready_mono hj Lm);omega
 | succ f ih=>
  intro listed a S jU inv Hp hr hy H;have DT:=(mem_ready.1 hr).1;refine⟨λh=>(by simp_all),λj hj=>?_⟩;have hjn:j<n:=by
   rcases X7 j n with h|h
   exact h;exact absurd hj (tail_waits hs hc hn inv _ i I Gt DT j h)
  refine⟨hjn,λw hw=>?_⟩
  by_cases Lm:j=i
  subst Lm;exact hy.wpOp hi jU hw λw' ud=>⟨S,jU,λ_ h=>h,ud,H⟩;have h1:=(H.2 j (ready_mono hj Lm)).2 w hw;obtain⟨afI,oj,SA,qW⟩:=mem_ready.1 hj;have acA:∀e∈oj.after,AZ md e=aD->e.on≠i:=λe he hb Jc=>by
   grind
  have h2:=Ho SA (Hp j oj SA Lm afI acA) (λcs b=>mF i oi cs b hi) (λcs b=>mF j oj cs b SA) hQ hy h1;have Pu:∀k ok,ops[k]?=aj ok->k≠i->(listed.setIfInBounds j aD).getD k aD=aF->
   (∀e∈ok.after,AZ md e=aD->e.on≠i)->oi.apart ops ok=true:=λk ok hk hki DT hno=>by
   refine Hp k ok hk hki ?_ hno
   by_cases hjk:j=k
   simp_all
   simp_all
  refine wpOp_mono (λa' w' h3=>?_) h2;obtain⟨h3,S',nc,kY,ud,h4⟩:=h3;refine⟨S',nc,kY,ud,ih (listed.setIfInBounds j aD) a' S' nc (inv.set hj hjn) Pu (ready_mono hr (Ps Lm)) (h3.mono kY) ?_⟩;rw[Xs _ _ Lm];exact h4
def UL(P:Program)(ops:Array Oper)(Q:Exit->Act->World->Prop)(L:Act->World->Prop):List Bool->List Oper->Act->(World->Prop)->Prop
 |true::ks,o::rest,a,S=>∃v,(if kW o (yielded ops a.tmps)then ∀w,S w->pu P o a w v else v=undef)/\UL P ops Q L ks rest (a.put o.dst v) S
 | false::ks,o::rest,a,S=>∀w,S w->if kW o (yielded ops a.tmps)then
  o.wp P a w (λa' w'=>∃S',jO S'/\(∀x,S' x->S x)/\S' w'/\UL P ops Q L ks rest a' S') Q
  else UL P ops Q L ks rest (a.put o.dst undef) S
 |_,_,a,S=>∀w,S w->L a w
def ya(md:uz)(ops:Array Oper)(g:Nat):List Bool->Nat->Array Bool->Bool
 |true::ks,k,listed=>(jw md ops listed).contains k&&O_ md ops listed k&&ya md ops g ks (k+1) (listed.setIfInBounds k aD)
 |false::ks,k,listed=>decide (jw md ops listed=[k])&&ya md ops g ks (k+1) (listed.setIfInBounds k aD)
 |[],k,listed=>Pa md ops g k listed
def acB(md:uz)(ops:Array Oper)(ks:List Bool):Bool:=
 AY ops&&decide (ks.length<ops.size)&&O9 md ops ks.length&&O8 md ops ks.length&&ya md ops (ops.size-ks.length) ks 0 (AQ ops.size aF)
theorem yb{n g:Nat}{Lq:Act->World->Prop}(mF:AY ops=aD)(hs:O9 md ops n=aD)(hc:O8 md ops n=aD)(hn:n<ops.size)
 (hQ:∀c a d v w,Q (.panic c) (a.put d v) w->Q (.panic c) a w):
 ∀(ks:List Bool) (l:List Oper) (k:Nat) (listed:Array Bool) (a:Act) (S:World->Prop),jO S->l.length=ks.length->(∀j,j<l.length->l[j]?=ops[k+j]?)->k+l.length=n->HeadInv md ops n listed->
 ya md ops g ks k listed=aD->UL P ops Q Lq ks l a S->
 A4 P md ops Q n (λC_ a' w'=>Pa md ops g n C_=aD/\Lq a' w') ks.length listed a S
 |[],[],k,listed,a,S,_,_,_,hk,_,hB,h=>by
  have:k=n:=by omega
  subst this;exact λw hw=>⟨by simp_all[ya],h w hw⟩
 |[],_::_,_,_,_,_,_,hlen,_,_,_,_,_=>by simp_all
 |_::_,[],_,_,_,_,_,hlen,_,_,_,_,_=>by simp_all
 | true::ks,o::l,k,listed,a,S,jU,hlen,hl,hk,inv,hB,h=>by
  have h0:ops[k]?=aj o:=by simpa using(hl 0 (by simp)).symm
  simp only[ya,fc]at hB;obtain⟨⟨hr,hf⟩,hB'⟩:=hB;have hkn:k<n:=by grind
  have Gy:k∈jw md ops listed:=by simp_all
  obtain⟨v,hy,hK⟩:=h;have hy':jY P ops S o v a:=by
   by_cases hw:kW o (yielded ops a.tmps)=aD
   rw[if_pos hw]at hy;exact .inl ⟨hw,hy⟩;rw[if_neg hw]at hy;exact .inr ⟨by simp_all,hy⟩
  exact Jb h0 (O6 mF) hs hc hn hkn (λc a w=>hQ c a o.dst v w) (λC_ a' w' hL=>seqB_ready hL.1) ks.length listed a S jU inv (O7 h0 hf) Gy hy'
   (yb mF hs hc hn hQ ks l (k+1) _ _ S jU (by simp_all) (λj hj=>by have:=hl (j+1) (by grind);simpa[kF,Pq 1 j]using this) (by grind) (inv.set Gy hkn) hB' hK)
 | false::ks,o::l,k,listed,a,S,jU,hlen,hl,hk,inv,hB,h=>by
  have h0:ops[k]?=aj o:=by simpa using(hl 0 (by simp)).symm
  simp only[ya,fc,decide_eq_true_eq]at hB;obtain⟨hr,hB'⟩:=hB;have hkn:k<n:=by grind
  have Gy:k∈jw md ops listed:=by grind
  have next:∀a' S',jO S'->UL P ops Q Lq ks l a' S'->A4 P md ops Q n (λC_ a' w'=>Pa md ops g n C_=aD/\Lq a' w') ks.length (listed.setIfInBounds k aD) a' S':=λa' S' nc hK=>
   yb mF hs hc hn hQ ks l (k+1) _ _ S' nc (by simp_all) (λj hj=>by have:=hl (j+1) (by grind);simpa[kF,Pq 1 j]using this) (by grind) (inv.set Gy hkn) hB' hK
  refine⟨by simp_all,λi hi=>?_⟩;obtain rfl:i=k:=by simp_all
  refine⟨hkn,λw hw=>?_⟩;have h1:=h w hw;unfold wpOp;simp only[h0];split
  ·rename_i hwt
   rw[if_pos hwt]at h1;exact .inl (Oper.wp_mono (λa' w' ⟨S',nc,kY,ud,hK⟩=>⟨S',nc,kY,ud,next _ _ nc hK⟩) h1)
  grind
theorem Gz{id:Nat}{a:Act}{w:World}{l:List Oper}(ks:List Bool)(hm:P.follows .mixedOrders=aD)(hB:acB .any l.toArray ks=aD)
 (hQ:∀c a d v w,Q (.panic c) (a.put d v) w->Q (.panic c) a w) (S:World->Prop) (jU:jO S) (hS:S w.drew)
 (h:UL P l.toArray Q (λa' w'=>wpList P l.toArray Q (l.drop ks.length) a' w') ks (l.take ks.length) a S):(XD id l.toArray aD).wp P Q a w:=by
 simp only[acB,fc,decide_eq_true_eq]at hB;obtain⟨⟨⟨⟨mF,hn⟩,hs⟩,hc⟩,Pv⟩:=hB;have hn':ks.length<l.length:=by omega
 have htl:(l.take ks.length).length=ks.length:=by grind
 have UM:(l.drop ks.length).length=l.toArray.size-ks.length:=by simp
 have ajH:HeadInv .any l.toArray ks.length (AQ l.toArray.size aF):=
  ⟨by simp,λj oj _ hl=>(by grind[getD_replicate_false]),λt _ ht=>getD_in (by simp_all) (getD_replicate_false _ _)⟩
 have H:=yb (md:= .any) (g:=l.toArray.size-ks.length) mF hs hc hn hQ ks (l.take ks.length) 0 _ a S jU htl (λj hj=>by
  simp_all) J ajH Pv h
 refine wp_region_any hm ?_;have:=DS (Q:=Q) (g:=l.toArray.size-ks.length) (λlisted a' w' hL=>by
  grind[wpAny_of_seq]) _ _ _ S w.drew hS H
 rw[show ks.length+(l.toArray.size-ks.length)=l.toArray.size by omega]at this;exact this
theorem dQ{id:Nat}{a:Act}{w:World}{l:List Oper}(n:Nat)(ks:List Bool)(hn:ks.length=n)(hm:P.follows .mixedOrders=aD)(hB:acB .any l.toArray ks=aD)
 (hQ:∀c a d v w,Q (.panic c) (a.put d v) w->Q (.panic c) a w) (S:World->Prop) (jU:jO S) (hS:S w.drew)
 (h:UL P l.toArray Q (λa' w'=>wpList P l.toArray Q (l.drop n) a' w') ks (l.take n) a S):(XD id l.toArray aD).wp P Q a w:=by
 grind[Gz]
section
variable{L:Act->World->Prop}{ks:List Bool}{o:Oper}{rest:List Oper}{a:Act}{S:World->Prop}
theorem SB{u:Value}(hw:kW o (yielded ops a.tmps)=aD)(h:∀w,S w->(execOp a.eval o).run P w= .ok (.value u) w)(hk:UL P ops Q L ks rest (a.put o.dst u) S):
 UL P ops Q L (true::ks) (o::rest) a S:=
 ⟨u,by rw[if_pos hw];intro w hS;unfold pu;rw[h w hS];exact⟨rfl,Gr.refl _⟩,hk⟩
theorem X'(hw:kW o (yielded ops a.tmps)=aF)(hk:UL P ops Q L ks rest (a.put o.dst undef) S):
 UL P ops Q L (true::ks) (o::rest) a S:=
 ⟨undef,by simp_all,hk⟩
theorem SC{l:List Oper}(h:∀w,S w->L a w):UL P ops Q L [] l a S:=h
end
end
end dQ
namespace bZ
open Go.RowKit cL dQ
abbrev Fr:=List (Nat×Value)
def look:Fr->Nat->Option Value
 |[],_=>ak
 |(k,v)::r,i=>bif fU k i then aj v else look r i
structure na(n:Nat)(a:Act)(fr:Fr):Prop where
 size:a.tmps.size=n
 defers:a.defers=[]
 get:∀i v,look fr i=aj v->a.tmps[i]?=aj v
theorem na.put{n:Nat}{a:Act}{fr:Fr}(h:na n a fr){d:Nat}(hd:dq d n=aD)(v:Value):na n (a.put (aj d) v) ((d,v)::fr):=by
 have Ya:d<n:=nu hd;refine⟨by simp[qS,h.size],h.defers,λi u hi=>?_⟩;unfold look at hi;simp only[qS]
 cases e:fU d i
 ·rw[e]at hi
  rw[Array.getElem?_setIfInBounds_ne (Ja e)];exact h.get i u hi
 rw[e]at hi;obtain rfl:d=i:=mi e;simp only[cond_true,dL]at hi;subst hi;rw[Array.getElem?_setIfInBounds_self_of_lt (by rw[h.size];exact Ya)]
theorem na.uH{n:Nat}{a:Act}{fr:Fr}(h:na n a fr)(v:Value):na n (a.put ak v) fr:=h
def Jd:Fr->Fr->Prop
 |[],_=>True
 |(i,v)::r,fr=>look fr i=aj v/\Jd r fr
theorem Yb{Gu fr:Fr}(h:Jd Gu fr){i:Nat}{v:Value}(hl:look Gu i=aj v):look fr i=aj v:=by
 induction Gu with
 |nil=>cases hl
 |cons x r ih=>
  obtain⟨k,u⟩:=x;unfold look at hl
  cases e:fU k i
  rw[e]at hl;exact ih h.2 hl;rw[e]at hl;obtain rfl:k=i:=mi e;simp only[cond_true,dL]at hl;subst hl;exact h.1
theorem na.sub{n:Nat}{a:Act}{fr Gu:Fr}(h:na n a fr)(hs:Jd Gu fr):na n a Gu:=⟨h.size,h.defers,λi v hl=>h.get i v (Yb hs hl)⟩
def ev(fr:Fr):Operand->Option Value
 | .tmp t=>look fr t
 | .const v=>aj v
 | .global g=>aj (aK (aj ⟨g,0,ak⟩))
 | .func f=>aj (.func (.func f) #[] #[])
theorem na.ev{n:Nat}{a:Act}{fr:Fr}(h:na n a fr){x:Operand}{v:Value}(hx:ev fr x=aj v):a.eval x=v:=by
 cases x with
 |tmp t=>simp[I5,xU,h.get t v hx]
 |const u=>simp_all[bZ.ev,I5]
 |global g=>simp_all[bZ.ev,I5]
 |func f=>simp_all[bZ.ev,I5]
theorem na.yield{n:Nat}{a:Act}{fr:Fr}(h:na n a fr){ops:Array Oper}{j d:Nat}{v:Value}(hj:(ops[j]?).bind (·.dst)=aj d)(hl:look fr d=aj v):
 yielded ops a.tmps j=match v with| .bool b=>aj b|_=>none:=by
 unfold yielded;rw[hj];simp only[Option.bind_some,h.get d v hl]
 cases v<;>rfl
structure b9 where
 CM:Option Nat
 more:Nat->Prop
 holds:World->Prop
 lt:∀w,holds w->∀k,(CM=aj k\/more k)->k<w.heap.size
 stay:∀w w',holds w->w.heap.size<=w'.heap.size->(∀k,(CM=aj k\/more k)->w'.heap[k]?=w.heap[k]?)->holds w'
def b9.fy(o:b9)(k:Nat):Prop:=o.CM=aj k\/o.more k
def aR(g:Nat)(cs:Array Value)(T:TypeId):b9:=
 ⟨aj g,λ_=>False,λw=>w.heap[g]?=aj (.cells cs T (0,0)),λw h k hk=>by simp only[dL,or_false]at hk;subst hk;exact(kC.1 h).1,
  λw w' h _ hb=>by rw[hb g (.inl I)];exact h⟩
def a_(e:TypeId)(size:Nat)(v:Value)(n:Nat)(xs:List Value):b9:=
 ⟨v.ownBlock,λ_=>False,λw=>w.ownsRow 0 e size v n xs,λw h k hk=>(h.lt k (hk.elim id oc)).2,λw w' h _ hb=>by
  refine⟨h.1,?_⟩;rcases h.2 with hn|⟨g,cap,kU,rfl,A5,hg,rest⟩
  exact .inl hn;exact .inr ⟨g,cap,kU,rfl,A5,by rw[hb g (.inl I)];exact hg,rest⟩⟩
structure eP(p:Nat->Prop)(w:World)(L:List b9):Prop where
 all:∀(i:Nat) (o:b9),L[i]?=aj o->o.holds w/\∀k,o.fy k->p k
 apart:∀(i j:Nat) (o o':b9),i≠j->L[i]?=aj o->L[j]?=aj o'->∀k,o.fy k->¬o'.fy k
abbrev ny(B:Nat)(w:World)(L:List b9):Prop:=eP (λk=>B<=k) w L
section
variable{p p':Nat->Prop}
theorem ny.nil(B:Nat)(w:World):ny B w []:=⟨λi o h=>by grind,λi j o o' _ h=>by simp⟩
theorem eP.nil(w:World):eP p w []:=⟨λi o h=>by grind,λi j o o' _ h=>by simp⟩
theorem eP.gr{w w':World}{L:List b9}(h:eP p w L)(hg:Gr w w'):eP p w' L:=
 ⟨λi o hi=>⟨o.stay w w' (h.all i o hi).1 hg.size λk hk=>hg.block k (o.lt w (h.all i o hi).1 k hk),(h.all i o hi).2⟩,h.apart⟩
theorem eP.mono{w:World}{L:List b9}(h:eP p w L)(hb:∀k,p k->p' k):eP p' w L:=
 ⟨λi o hi=>⟨(h.all i o hi).1,λk hk=>hb k ((h.all i o hi).2 k hk)⟩,h.apart⟩
theorem eP.one{w:World}{o:b9}(h:o.holds w)(hb:∀k,o.fy k->p k):eP p w [o]:=
  ⟨λi o' hi=>by
    grind,
   λi j a b tL hi hj=>by
    grind⟩
theorem ny.one{B:Nat}{w:World}{o:b9}(h:o.holds w)(hb:∀k,o.CM=aj k->B<=k)(hmo:∀k,o.more k->B<=k:=by intro k hk;exact False.elim hk):ny B w [o]:=eP.one h λk hk=>hk.elim (hb k) (hmo k)
theorem eP.both{w:World}{L L':List b9}(h:eP p w L)(h':eP p w L')(ha:∀(i j:Nat) (o o':b9),L[i]?=aj o->L'[j]?=aj o'->∀k,o.fy k->¬o'.fy k):eP p w (L++L'):=by
 refine⟨λi o hi=>?_,λi j o o' tL hi hj=>?_⟩
 ·rw[XX]at hi
  split at hi;exact h.all i o hi;exact h'.all _ o hi
 intro k hk o8;rw[XX]at hi hj;split at hi<;>split at hj;exact h.apart i j o o' tL hi hj k hk o8;exact ha _ _ o o' hi hj k hk o8;exact ha _ _ o' o hj hi k o8 hk;exact h'.apart (i-L.length) (j-L.length) o o' J hi hj k hk o8
theorem eP.pick{w:World}{L L':List b9}(h:eP p w L)(is:List Nat)(hn:is.Nodup)(hl:L'=is.filterMap λi=>L[i]?):eP p w L':=by
 subst hl
 induction is with
 |nil=>exact eP.nil _
 | cons i is ih=>
  rw[sD]at hn;have ih:=ih hn.2;have mem:∀j o,(is.filterMap λi=>L[i]?)[j]?=aj o->∃q∈is,L[q]?=aj o:=λj o hj=>by
   have:=mL hj;rw[List.mem_filterMap]at this;exact this
  cases e:L[i]? with
  |none=>simp_all
  | some o0=>
   rw[A0 e];refine⟨λj o hj=>?_,λj j' o o' tL hj sq=>?_⟩
   ·match j,hj with
    |0,hj=>simp only[pj,dL]at hj;subst hj;exact h.all i _ e
    |j+1,hj=>exact ih.all j o (by simp_all)
   match j,j',hj,sq with
   |0,0,_,_=>omega
   | 0,j'+1,hj,sq=>
    simp only[pj,dL]at hj;subst hj;obtain⟨q,hq,DU⟩:=mem j' o' (by simp_all);exact h.apart i q _ o' (λe=>hn.1 (e▸hq)) e DU
   | j+1,0,hj,sq=>
    simp only[pj,dL]at sq;subst sq;obtain⟨q,hq,DU⟩:=mem j o (by simp_all);exact h.apart q i o _ (λe=>hn.1 (e▸hq)) DU e
   |j+1,j'+1,hj,sq=>exact ih.apart j j' o o' J (by simp_all) (by simp_all)
end
structure bP where
 w:World
 X:Nat->Prop
instance:Coe World bP:=⟨λw=>⟨w,λ_=>False⟩⟩
def bP.on(w:World)(L:List b9):bP:=⟨w,λk=>∃o∈L,o.fy k⟩
def bP.may(W:bP)(k:Nat):Prop:=W.w.heap.size<=k\/W.X k
structure Je(W:bP)(w:World):Prop where
 os:w.os=W.w.os
 tape:w.tape=W.w.tape
 output:w.output=W.w.output
 size:W.w.heap.size<=w.heap.size
 block:∀k,k<W.w.heap.size->¬W.X k->w.heap[k]?=W.w.heap[k]?
structure Mem(W:bP)(L:List b9)(w:World):Prop where
 low:Je W w
 owns:eP W.may w L
theorem Mem.start(W:World):Mem W [] W:=⟨⟨rfl,rfl,rfl,bC _,λ_ _ _=>rfl⟩,eP.nil _⟩
theorem Je.gr{W:bP}{w w':World}(h:Je W w)(hg:Gr w w'):Je W w':=
 ⟨hg.os.trans h.os,hg.tape.trans h.tape,hg.output.trans h.output,fH h.size hg.size,λk hk hx=>(hg.block k (kE hk h.size)).trans (h.block k hk hx)⟩
theorem Mem.below{W w:World}{L:List b9}(h:Mem W L w):Below W.heap.size W w:=⟨h.low.os,h.low.tape,h.low.output,h.low.size,λk hk=>h.low.block k hk id⟩
theorem Mem.ae2{W w:World}{L:List b9}(h:Mem W L w):ny W.heap.size w L:=h.owns.mono λ_ hk=>hk.elim id oc
section
variable{W:bP}
theorem Mem.gr{w w':World}{L:List b9}(h:Mem W L w)(hg:Gr w w'):Mem W L w':=⟨h.low.gr hg,h.owns.gr hg⟩
theorem Mem.drew{w:World}{L:List b9}(h:Mem W L w):Mem W L w.drew:=h.gr (Gr.drew w)
theorem iq(W:bP)(L:List b9):jO (Mem W L):=λ_ _ h k=>h.gr k
theorem Mem.pick{w:World}{L L':List b9}(h:Mem W L w)(is:List Nat)(hn:is.Nodup)(hl:L'=is.filterMap λi=>L[i]?):Mem W L' w:=⟨h.low,h.owns.pick is hn hl⟩
theorem Mem.append{w w':World}{L L':List b9}(h:Mem W L w)(hg:Gr w w')(h':ny w.heap.size w' L'):Mem W (L++L') w':=by
 have hsz:W.w.heap.size<=w.heap.size:=h.low.size;refine⟨h.low.gr hg,eP.both (h.owns.gr hg) (h'.mono λk hk=> .inl (fH hsz hk)) λi j o o' hi hj k hk o8=>?_⟩;have a1:=o.lt w (h.owns.all i o hi).1 k hk;have a2:w.heap.size<=k:=(h'.all _ o' hj).2 k o8;omega
theorem Mem.CN{w w':World}{L:List b9}(h:Mem W L w){i:Nat}{o o':b9}(hi:L[i]?=aj o)(hg:w.grownBy w' o.CM)(ho:o'.holds w')(hb:∀k,o'.CM=aj k->o.CM=aj k\/w.heap.size<=k)(hmo:∀k,o'.more k->o.fy k:=by intro k hk;exact False.elim hk):Mem W (L.set i o') w':=by
 have hle:W.w.heap.size<=w.heap.size:=h.low.size;have hoB:=(h.owns.all i o hi).2;have hlen:i<L.length:=(dX.1 hi).1;have SD:∀k,o'.fy k->o.fy k\/w.heap.size<=k:=λk hk=>hk.elim (λh=>(hb k h).imp .inl id) (λh=> .inl (hmo k h));refine⟨⟨hg.os.trans h.low.os,hg.tape.trans h.low.tape,hg.output.trans h.low.output,fH hle hg.size,λk hk hx=>?_⟩,?_,?_⟩
 ·rw[hg.block k (kE hk hle) λe=>(hoB k (.inl e.symm)).elim (λh=>by omega) hx]
  exact h.low.block k hk hx
 ·intro j q hj
  by_cases e:i=j
  ·subst e
   rw[oh hlen]at hj;simp only[dL]at hj;subst hj;exact⟨ho,λk hk=>(SD k hk).elim (hoB k) (λh=> .inl (fH hle h))⟩
  rw[kX e]at hj;have h1:=h.owns.all j q hj;refine⟨q.stay w w' h1.1 hg.size λk hk=>hg.block k (q.lt w h1.1 k hk) λe'=>?_,h1.2⟩;exact h.owns.apart i j o q e hi hj k (.inl e'.symm) hk
 intro j j' q q' tL hj sq k hk o8
 by_cases e:i=j
 ·subst e
  rw[oh hlen]at hj;rw[kX tL]at sq;simp only[dL]at hj;subst hj;have h2:=(h.owns.all j' q' sq).1;rcases SD k hk with h1|h1
  exact h.owns.apart i j' o q' tL hi sq k h1 o8;have:=q'.lt w h2 k o8;omega
 rw[kX e]at hj;have h2:=(h.owns.all j q hj).1
 by_cases e':i=j'
 ·subst e'
  rw[oh hlen]at sq;simp only[dL]at sq;subst sq;rcases SD k o8 with h1|h1
  exact h.owns.apart i j o q e hi hj k h1 hk;have:=q.lt w h2 k hk;omega
 rw[kX e']at sq;exact h.owns.apart j j' q q' tL hj sq k hk o8
theorem Mem.merge{w:World}{R:List b9}{o1 o2:b9}(o:b9)(h:Mem W ([o1,o2]++R) w)(hf:∀k,o.fy k->o1.fy k\/o2.fy k)(hh:o1.holds w->o2.holds w->o.holds w):Mem W (R++[o]) w:=by
 have h1:=h.owns.all 0 o1 I;have h2:=h.owns.all 1 o2 I;refine⟨h.low,eP.both ⟨λi q hi=>h.owns.all (i+2) q (by simp_all),λi j q q' tL hi hj=>h.owns.apart (i+2) (j+2) q q' J (by simp_all) (by simp_all)⟩ (eP.one (hh h1.1 h2.1) λk hk=>(hf k hk).elim (h1.2 k) (h2.2 k)) ?_⟩;intro i j q q' hi hj k hk o8
 match j,hj with
 |0,hj=>
  simp only[pj,dL]at hj;subst hj;have qB:([o1,o2]++R)[i+2]?=aj q:=by simp_all
  rcases hf k o8 with h3|h3
  exact h.owns.apart 0 (i+2) o1 q J I qB k h3 hk;exact h.owns.apart 1 (i+2) o2 q J I qB k h3 hk
 |j+1,hj=>grind
theorem Mem.get{w:World}{L:List b9}(h:Mem W L w){i:Nat}{o:b9}(hi:L[i]?=aj o):o.holds w:=(h.owns.all i o hi).1
theorem Mem.over{w:World}{L:List b9}(h:Mem W L w):Mem (bP.on w L) L w:=
 ⟨⟨rfl,rfl,rfl,bC _,λ_ _ _=>rfl⟩,λi o hi=>⟨(h.owns.all i o hi).1,λ_ hk=> .inr ⟨o,mL hi,hk⟩⟩,h.owns.apart⟩
theorem Mem.back{w w':World}{L R O:List b9}(h:Mem W (L++R) w)(h':Mem (bP.on w L) O w'):Mem W (R++O) w':=by
 have hle:W.w.heap.size<=w.heap.size:=h.low.size;have hL:∀o∈L,∀k,o.fy k->W.may k:=λo ho k hk=>by
  obtain⟨i,hi⟩:=uA ho;exact(h.owns.all i o (by grind)).2 k hk
 have hR:∀(i:Nat) (o:b9),R[i]?=aj o->o.holds w/\(∀k,o.fy k->W.may k)/\∀k,o.fy k->k<w.heap.size/\¬(bP.on w L).X k:=λi o hi=>by
  have qB:(L++R)[L.length+i]?=aj o:=by grind
  have h1:=h.owns.all _ o qB;refine⟨h1.1,h1.2,λk hk=>⟨o.lt w h1.1 k hk,?_⟩⟩;rintro⟨q,hq,hqk⟩;obtain⟨j,hj⟩:=uA hq;have W9:=(dX.1 hj).1;exact h.owns.apart j (L.length+i) q o J (by grind) qB k hqk hk
 refine⟨⟨h'.low.os.trans h.low.os,h'.low.tape.trans h.low.tape,h'.low.output.trans h.low.output,fH hle h'.low.size,λk hk hx=>?_⟩,eP.both ⟨λi o hi=>?_,?_⟩ ?_ ?_⟩
 ·rw[h'.low.block k (kE hk hle) ?_]
  exact h.low.block k hk hx;rintro⟨o,ho,kV⟩;exact(hL o ho k kV).elim (λh=>by omega) hx
 ·obtain⟨h1,h2,h3⟩:=hR i o hi
  exact⟨o.stay w w' h1 h'.low.size λk hk=>h'.low.block k (h3 k hk).1 (h3 k hk).2,h2⟩
 ·intro i j o o' tL hi hj
  exact h.owns.apart (L.length+i) (L.length+j) o o' J (by grind) (by grind)
 exact h'.owns.mono λk hk=>hk.elim (λh1=> .inl (fH hle h1)) λ⟨o,ho,kV⟩=>hL o ho k kV;intro i j o o' hi hj k hk o8;obtain⟨h1,h2,h3⟩:=hR i o hi;rcases(h'.owns.all j o' hj).2 k o8 with h4|h4
 ·have h4:w.heap.size<=k:=h4
  grind
 simp_all
end
theorem Mem.cell{W w:World}{L:List b9}(h:Mem W L w){p:Addr}{v:Value}(hp:W.cell? p=aj v):w.cell? p=aj v:=by
 rw[h.below.cell (og W p hp)];exact hp
structure mI(W0:World)(W:bP):Prop where
 below:Below W0.heap.size W0 W.w
 free:∀k,k<W0.heap.size->¬W.X k
theorem mI.self(W:World):mI W W:=⟨Below.refl _ _,λ_ _=>id⟩
theorem mI.mem{W0:World}{W:bP}(ho:mI W0 W){L:List b9}{w:World}(h:Mem W L w):Below W0.heap.size W0 w:=
 ⟨h.low.os.trans ho.below.os,h.low.tape.trans ho.below.tape,h.low.output.trans ho.below.output,fH ho.below.size h.low.size,λk hk=>(h.low.block k (kE hk ho.below.size) (ho.free k hk)).trans (ho.below.block k hk)⟩
theorem mI.cell{W0:World}{W:bP}(ho:mI W0 W){L:List b9}{w:World}(h:Mem W L w){p:Addr}{v:Value}(hp:W0.cell? p=aj v):w.cell? p=aj v:=by
 rw[(ho.mem h).cell (og W0 p hp)];exact hp
theorem mI.on{W0:World}{W:bP}(ho:mI W0 W){L L':List b9}{w:World}(h:Mem W L w)(hs:∀o∈L',o∈L):mI W0 (bP.on w L'):=
 ⟨ho.mem h,λk hk ⟨o,hm,hb⟩=>by
  obtain⟨i,hi⟩:=uA (hs o hm);rcases(h.owns.all i o hi).2 k hb with h1|h1
  ·have:=ho.below.size
   omega
  exact ho.free k hk h1⟩
structure T(P:Program)(n:Nat)(W:bP)(c:Code)(Q:Exit->Act->World->Prop)(fr:Fr)(L:List b9):Prop where
 go:∀a w,na n a fr->Mem W L w->c.wp P Q a w
structure E(n:Nat)(W:bP)(e:Exit)(Q:Exit->Act->World->Prop)(fr:Fr)(L:List b9):Prop where
 go:∀a w,na n a fr->Mem W L w->Q e a w
structure TL(P:Program)(n:Nat)(W:bP)(ops:Array Oper)(Q:Exit->Act->World->Prop)(l:List Oper)(fr:Fr)(L:List b9):Prop where
 go:∀a w,na n a fr->Mem W L w->wpList P ops Q l a w
structure TM(P:Program)(n:Nat)(W:bP)(ops:Array Oper)(Q:Exit->Act->World->Prop)(K:Act->World->Prop)(ks:List Bool)(l:List Oper)(fr:Fr)(L:List b9):Prop where
 go:∀a,na n a fr->UL P ops Q K ks l a (Mem W L)
structure RR(P:Program)(n:Nat)(W:bP)(o:Oper)(fr:Fr)(L:List b9)(v:Value):Prop where
 go:∀a w,na n a fr->Mem W L w->(execOp a.eval o).run P w= .ok (.value v) w
structure Spec(ι:Type) where
 ok:ι->Prop
 val:ι->Value
 own:ι->List b9
def bX{ι:Type}(S:Spec ι)(w:World)(e:Ending)(w':World):Prop:=∃x,S.ok x/\e= .returned (S.val x)/\Gr w w'/\ny w.heap.size w' (S.own x)
def ret(v:Value):Spec Unit:=⟨λ_=>True,λ_=>v,λ_=>[]⟩
theorem UN{v:Value}{w w':World}{e:Ending}(h:e= .returned v)(hg:Gr w w'):bX (ret v) w e w':=⟨(),trivial,h,hg,ny.nil _ _⟩
theorem DV{v:Value}{w w':World}{e:Ending}(h:bX (ret v) w e w'):e= .returned v/\Gr w w':=let ⟨_,_,h1,h2,_⟩:=h;⟨h1,h2⟩
section
variable{P:Program}{n:Nat}{W:bP}{Q:Exit->Act->World->Prop}{fr:Fr}{L:List b9}
theorem cB{x y:Code}(h:T P n W x (Exit.then (y.wp P Q) Q) fr L):T P n W (x.seq y) Q fr L:= .mk λa w hr hm=>wp_seq (h.go a w hr hm)
theorem afJ(h:E n W .normal Q fr L):T P n W .skip Q fr L:= .mk λa w hr hm=>wp_skip (h.go a w hr hm)
theorem afK{id:Nat}(h:E n W (.exit id) Q fr L):T P n W (.exit id) Q fr L:= .mk λa w hr hm=>wp_exit (h.go a w hr hm)
theorem ahF(h:E n W .ret Q fr L):T P n W .ret Q fr L:= .mk λa w hr hm=>wp_ret (h.go a w hr hm)
theorem acC{id:Nat}{c:Code}(h:T P n W c (uu id Q) fr L):T P n W (.block id c) Q fr L:= .mk λa w hr hm=>wp_block (h.go a w hr hm)
theorem Jf{c:Operand}{x y:Code}(hc:ev fr c=aj (.bool aD))(h:T P n W x Q fr L):T P n W (.cond c x y) Q fr L:= .mk λa w hr hm=>wp_cond_true (hr.ev hc) (h.go a w hr hm)
theorem Jg{c:Operand}{x y:Code}(hc:ev fr c=aj (.bool aF))(h:T P n W y Q fr L):T P n W (.cond c x y) Q fr L:= .mk λa w hr hm=>wp_cond_false (hr.ev hc) (h.go a w hr hm)
theorem afL{c:Code}{L':List b9}(is:List Nat)(hn:is.Nodup)(hl:L'=is.filterMap λi=>L[i]?)(h:T P n W c Q fr L'):T P n W c Q fr L:= .mk λa w hr hm=>h.go a w hr (hm.pick is hn hl)
theorem afM{e:Exit}{L':List b9}(is:List Nat)(hn:is.Nodup)(hl:L'=is.filterMap λi=>L[i]?)(h:E n W e Q fr L'):E n W e Q fr L:= .mk λa w hr hm=>h.go a w hr (hm.pick is hn hl)
theorem DW{y:Code}(h:T P n W y Q fr L):E n W .normal (Exit.then (y.wp P Q) Q) fr L:=⟨h.go⟩
theorem acD{id:Nat}{K:Act->World->Prop}(h:E n W (.exit id) Q fr L):E n W (.exit id) (Exit.then K Q) fr L:=⟨h.go⟩
theorem acE{K:Act->World->Prop}(h:E n W .ret Q fr L):E n W .ret (Exit.then K Q) fr L:=⟨h.go⟩
theorem Yc{id:Nat}(h:E n W .normal Q fr L):E n W .normal (uu id Q) fr L:=⟨h.go⟩
theorem Yd{id:Nat}(h:E n W .ret Q fr L):E n W .ret (uu id Q) fr L:=⟨h.go⟩
theorem LB{id:Nat}(h:E n W .normal Q fr L):E n W (.exit id) (uu id Q) fr L:= .mk λa w hr hm=>by
 show(if id=id then Q .normal a w else Q (.exit id) a w)
 rw[if_pos I];exact h.go a w hr hm
theorem LC{id id':Nat}(hne:fU id' id=aF)(h:E n W (.exit id') Q fr L):E n W (.exit id') (uu id Q) fr L:= .mk λa w hr hm=>by
 show(if id'=id then Q .normal a w else Q (.exit id') a w)
 rw[if_neg (Ja hne)];exact h.go a w hr hm
def Rnd{ι:Type}(n:Nat)(W:bP)(ah:ι->Prop)(F:ι->Fr)(M:ι->List b9)(μ:ι->Nat)(x:ι)(a:Act)(w:World):Prop:=∃x',ah x'/\μ x'<μ x/\na n a (F x')/\Mem W (M x') w
def Mid{ι:Type}(n:Nat)(W:bP)(ah:ι->Prop)(F:ι->Fr)(M:ι->List b9)(a:Act)(w:World):Prop:=∃i,ah i/\na n a (F i)/\Mem W (M i) w
theorem Ye{x y:Code}{ι:Type}(ah:ι->Prop)(F:ι->Fr)(M:ι->List b9)
 (hx:T P n W x (Exit.then (Mid n W ah F M) Q) fr L) (hy:∀i,ah i->T P n W y Q (F i) (M i)):T P n W (x.seq y) Q fr L:= .mk λa w hr hm=>
 wp_seq (wp_mono (hx.go a w hr hm) λe a w h=>by
  cases e with
  |normal=>obtain⟨i,h1,h2,h3⟩:=h;exact(hy i h1).go a w h2 h3
  |_=>exact h)
theorem eh{ι:Type}{ah:ι->Prop}{F:ι->Fr}{M:ι->List b9}(i:ι)(hi:ah i)(hf:Jd (F i) fr)(hl:L=M i):E n W .normal (Exit.then (Mid n W ah F M) Q) fr L:=
 ⟨λ_ _ hr hm=>⟨i,hi,hr.sub hf,hl▸hm⟩⟩
theorem mM{c:Code}{ι:Type}(ah:ι->Prop)(F:ι->Fr)(M:ι->List b9)(μ:ι->Nat)(x0:ι)(h0:ah x0)(hf:Jd (F x0) fr)(hl:L=M x0)
 (round:∀x,ah x->T P n W c (Exit.then (Rnd n W ah F M μ x) Q) (F x) (M x)):T P n W (.loop c) Q fr L:=by
 refine⟨λa w hr hm=>?_⟩;refine wp_loop_ghost (λk a w=>∃x,μ x=k/\ah x/\na n a (F x)/\Mem W (M x) w) (μ x0) ⟨x0,rfl,h0,hr.sub hf,hl▸hm⟩ ?_;rintro k a w ⟨x,rfl,hi,hr,hm⟩;refine wp_mono ((round x hi).go a w hr hm) λe a w h=>?_
 cases e with
 |normal=>obtain⟨x',h1,h2,h3,h4⟩:=h;exact⟨μ x',h2,x',rfl,h1,h3,h4⟩
 |_=>exact h
theorem iW{ι:Type}{ah:ι->Prop}{F:ι->Fr}{M:ι->List b9}{μ:ι->Nat}{x:ι}(x':ι)(hi:ah x')(hμ:μ x'<μ x)(hf:Jd (F x') fr)(hl:L=M x'):
 E n W .normal (Exit.then (Rnd n W ah F M μ x) Q) fr L:=
 ⟨λ_ _ hr hm=>⟨x',hi,hμ,hr.sub hf,hl▸hm⟩⟩
theorem B5{fn:Func}{R:Ending->World->Prop}(h:∀a w,na n a fr->Mem W L w->∃v,(results fn a.tmps).run P w= .ok v w/\R (.returned v) w):E n W .ret (bodyPost P fn R) fr L:=
 ⟨λa w hr hm=>⟨hr.defers,h a w hr hm⟩⟩
theorem cJ{fn:Func}{R:Ending->World->Prop}{t:Tmp}{v:Value}(lY:fn.results=#[.tmp t])(hv:look fr t=aj v)(h:∀w,Mem W L w->R (.returned v) w):E n W .ret (bodyPost P fn R) fr L:=
 B5 λa w hr hm=>⟨v,by simp[results,lY,xU,hr.get t v hv],h w hm⟩
theorem kZ{fn:Func}{R:Ending->World->Prop}{t u:Tmp}{v z:Value}(lY:fn.results=#[.tmp t,.tmp u])(hv:look fr t=aj v)(hz:look fr u=aj z)(h:∀w,Mem W L w->R (.returned (.tuple #[v,z])) w):E n W .ret (bodyPost P fn R) fr L:=
 B5 λa w hr hm=>⟨_,by simp[results,lY,xU,hr.get t v hv,hr.get u z hz],h w hm⟩
theorem kG{fn:Func}{R:Ending->World->Prop}{t u s:Tmp}{v z y:Value}(lY:fn.results=#[.tmp t,.tmp u,.tmp s])(hv:look fr t=aj v)(hz:look fr u=aj z)(hy:look fr s=aj y)(h:∀w,Mem W L w->R (.returned (.tuple #[v,z,y])) w):E n W .ret (bodyPost P fn R) fr L:=
 B5 λa w hr hm=>⟨_,by simp[results,lY,xU,hr.get t v hv,hr.get u z hz,hr.get s y hy],h w hm⟩
theorem Mem.meets{ι:Type}{S:Spec ι}{W w:World}(x:ι)(hm:Mem W L w)(hx:S.ok x)(is:List Nat)(hn:is.Nodup)(hl:S.own x=is.filterMap λi=>L[i]?):bX S W (.returned (S.val x)) w:=
 ⟨x,hx,rfl,hm.below,hm.ae2.pick is hn hl⟩
theorem Mem.ret{v:Value}{W w:World}(hm:Mem W L w):bX (ret v) W (.returned v) w:=⟨(),trivial,rfl,hm.below,ny.nil _ _⟩
theorem dG{fn:Func}{W:World}{t:Tmp}{v v0:Value}(lY:fn.results=#[.tmp t])(hv:look fr t=aj v)(h:v=v0):E n W .ret (bodyPost P fn (bX (ret v0) W)) fr L:=by
 subst h;exact cJ lY hv λw hm=>hm.ret
theorem Jh{fn:Func}{W:World}{t u s:Tmp}{v z y v0:Value}(lY:fn.results=#[.tmp t,.tmp u,.tmp s])(hv:look fr t=aj v)(hz:look fr u=aj z)(hy:look fr s=aj y)(h: .tuple #[v,z,y]=v0):E n W .ret (bodyPost P fn (bX (ret v0) W)) fr L:=by
 subst h;exact kG lY hv hz hy λw hm=>hm.ret
def zh:Nat->List Value->Fr
 |_,[]=>[]
 |k,v::r=>(k,v)::zh (k+1) r
theorem sF:∀(vs:List Value) (k i:Nat) (v:Value),look (zh k vs) i=aj v->k<=i/\vs[i-k]?=aj v
 |[],_,_,_,h=>by cases h
 | u ::r,k,i,v,h=>by
  unfold zh look at h
  cases e:fU k i
  ·rw[e]at h
   have hne:=Ja e;obtain⟨h1,h2⟩:=sF r (k+1) i v h;refine⟨by omega,?_⟩;rw[show i-k=(i-(k+1))+1 by omega,XV];exact h2
  simp_all
theorem enter{w:World}{f:FuncId}{fn:Func}{c:Code}{args:List Value}{R:Ending->World->Prop}(hf:P.funcs[f]?=aj fn)(hb:fn.body=aj c)(hn:fn.ntmps=n)(hle:x9 args.length n=aD)
 (h:T P n w c (bodyPost P fn R) (zh 0 args) []):Calls P f args.toArray w R:=by
 have afN:args.length<=n:=nu hle;refine calls_of_wp hf hb (h.go _ w ⟨?_,rfl,λi v hi=>?_⟩ (Mem.start w))
 simp_all
 ·obtain⟨_,h2⟩:=sF args 0 i v hi
  grind
theorem du{B:bP}{w:World}{f:FuncId}{fn:Func}{c:Code}{args:List Value}{R:Ending->World->Prop}(hm:Mem B L w)(hf:P.funcs[f]?=aj fn)(hb:fn.body=aj c)(hn:fn.ntmps=n)(hle:x9 args.length n=aD)
 (h:T P n B c (bodyPost P fn R) (zh 0 args) L):Calls P f args.toArray w R:=by
 have afN:args.length<=n:=nu hle;refine calls_of_wp hf hb (h.go _ w ⟨?_,rfl,λi v hi=>?_⟩ hm)
 simp_all
 ·obtain⟨_,h2⟩:=sF args 0 i v hi
  grind
section
variable{ops:Array Oper}{K:Act->World->Prop}{ks:List Bool}{o:Oper}{rest:List Oper}{v:Value}{d:Nat}
theorem bD{id:Nat}{l:List Oper}(h:TL P n W l.toArray Q l fr L):T P n W (.region id l.toArray aF) Q fr L:= .mk λa w hr hm=>wp_region_lit (h.go a w hr hm)
theorem yc(h:E n W .normal Q fr L):TL P n W ops Q [] fr L:= .mk λa w hr hm=>wpList_nil (h.go a w hr hm)
theorem nR{a:Act}(hg:o.guard=ak):kW o (yielded ops a.tmps)=true:=by simp[kW,hg]
theorem pv{a:Act}{j e:Nat}{b:Bool}(hr:na n a fr)(hg:o.guard=aj (j,b))(hj:(ops[j]?).bind (·.dst)=aj e)(hl:look fr e=aj (.bool b)):kW o (yielded ops a.tmps)=true:=by
 simp[kW,hg,hr.yield hj hl]
def acF(b:Bool):Value->Bool
 | .bool c=>c !=b
 |_=>aD
theorem Hq{a:Act}{j e:Nat}{b:Bool}{u:Value}(hr:na n a fr)(hg:o.guard=aj (j,b))(hj:(ops[j]?).bind (·.dst)=aj e)(hl:look fr e=aj u)(hu:acF b u=aD):kW o (yielded ops a.tmps)=false:=by
 simp only[kW,hg,hr.yield hj hl]
 cases u<;>first|rfl|(rename_i c;cases c<;>cases b<;>first|rfl|cases hu)
theorem dm(hr:RR P n W o fr L v)(hg:o.guard=ak)(hd:o.dst=aj d)(hn:dq d n=aD)(h:TL P n W ops Q rest ((d,v)::fr) L):TL P n W ops Q (o::rest) fr L:= .mk λa w hY hm=>
 wpList_plain hg λK hK=>by
  unfold gi;rw[hr.go a w hY hm,XM,hd];exact hK _ _ (h.go _ w (hY.put hn v) hm)
theorem SE{j e:Nat}{b:Bool}(hr:RR P n W o fr L v)(hg:o.guard=aj (j,b))(hj:(ops[j]?).bind (·.dst)=aj e)(hl:look fr e=aj (.bool b))(hd:o.dst=aj d)(hn:dq d n=aD)(h:TL P n W ops Q rest ((d,v)::fr) L):TL P n W ops Q (o::rest) fr L:= .mk λa w hY hm=>
 Xx (pv hY hg hj hl) λK hK=>by
  unfold gi;rw[hr.go a w hY hm,XM,hd];exact hK _ _ (h.go _ w (hY.put hn v) hm)
theorem acG{j e:Nat}{b:Bool}{u:Value}(hg:o.guard=aj (j,b))(hj:(ops[j]?).bind (·.dst)=aj e)(hl:look fr e=aj u)(hu:acF b u=aD)(hd:o.dst=aj d)(hn:dq d n=aD)(h:TL P n W ops Q rest ((d,undef)::fr) L):TL P n W ops Q (o::rest) fr L:= .mk λa w hY hm=>
 wpList_skip (Hq hY hg hj hl hu) (by rw[hd];exact h.go _ w (hY.put hn undef) hm)
theorem uI{p:Prop}{inst:Decidable p}(hr:RR P n W o fr L (.bool (decide p)))(hg:o.guard=ak)(hd:o.dst=aj d)(hn:dq d n=aD)(ht:p->TL P n W ops Q rest ((d,.bool aD)::fr) L)(hf:¬p->TL P n W ops Q rest ((d,.bool aF)::fr) L):TL P n W ops Q (o::rest) fr L:=by
 by_cases h:p
 grind[dm];exact dm (by rwa [decide_eq_false h]at hr) hg hd hn (hf h)
theorem pw{p:Prop}{inst:Decidable p}{j e:Nat}{b:Bool}(hr:RR P n W o fr L (.bool (decide p)))(hg:o.guard=aj (j,b))(hj:(ops[j]?).bind (·.dst)=aj e)(hl:look fr e=aj (.bool b))(hd:o.dst=aj d)(hn:dq d n=aD)(ht:p->TL P n W ops Q rest ((d,.bool aD)::fr) L)(hf:¬p->TL P n W ops Q rest ((d,.bool aF)::fr) L):TL P n W ops Q (o::rest) fr L:=by
 by_cases h:p
 grind[SE];exact SE (by rwa [decide_eq_false h]at hr) hg hj hl hd hn (hf h)
theorem na.acH{a:Act}{e:Nat}{v:Value}(h:na n a fr)(hl:look fr e=aj v):na n a ((e,v)::fr):=⟨h.size,h.defers,λi u hi=>by
 unfold look at hi
 cases c:fU e i
 rw[c]at hi;exact h.get i u hi;rw[c]at hi;obtain rfl:e=i:=mi c;simp only[cond_true,dL]at hi;subst hi;exact h.get e v hl⟩
theorem A6{j e:Nat}{b0 b:Bool}(_:o.guard=aj (j,b0))(_:(ops[j]?).bind (·.dst)=aj e)(hl:look fr e=aj (.bool b))(ht:b=aD->TL P n W ops Q (o::rest) ((e,.bool aD)::fr) L)(hf:b=aF->TL P n W ops Q (o::rest) ((e,.bool aF)::fr) L):TL P n W ops Q (o::rest) fr L:= .mk λa w hr hm=>by
 cases b
 exact(hf I).go a w (hr.acH hl) hm;exact(ht I).go a w (hr.acH hl) hm
theorem Pw{j e:Nat}{b0:Bool}(_:o.guard=aj (j,b0))(_:(ops[j]?).bind (·.dst)=aj e)(_:look fr e=aj (.bool aD))(h:TL P n W ops Q (o::rest) fr L):TL P n W ops Q (o::rest) fr L:=h
theorem Px{j e:Nat}{b0:Bool}(_:o.guard=aj (j,b0))(_:(ops[j]?).bind (·.dst)=aj e)(_:look fr e=aj (.bool aF))(h:TL P n W ops Q (o::rest) fr L):TL P n W ops Q (o::rest) fr L:=h
theorem SF{c:Tmp}{x y:Code}{b:Bool}(hl:look fr c=aj (.bool b))(ht:b=aD->T P n W x Q ((c,.bool aD)::fr) L)(hf:b=aF->T P n W y Q ((c,.bool aF)::fr) L):T P n W (.cond (.tmp c) x y) Q fr L:= .mk λa w hr hm=>by
 cases b
 exact wp_cond_false (hr.ev (x:= .tmp c) hl) ((hf I).go a w (hr.acH hl) hm);exact wp_cond_true (hr.ev (x:= .tmp c) hl) ((ht I).go a w (hr.acH hl) hm)
theorem aU{f:FuncId}{args:Array Value}{ι:Type}{S:Spec ι}(he:∀a w,na n a fr->(execOp a.eval o).run P w= .ok (.enter f args) w)(hc:∀w,Mem W L w->Calls P f args w (bX S w))(hg:o.guard=ak)(hd:o.dst=aj d)(hn:dq d n=aD)
 (h:∀x,S.ok x->TL P n W ops Q rest ((d,S.val x)::fr) (L++S.own x)):TL P n W ops Q (o::rest) fr L:= .mk λa w hY hm=>
 wpList_plain hg λK hK=>by
  unfold gi;rw[he a w hY,O4];refine(hc w hm).mono λe w' ⟨x,h1,h2,h3,h4⟩=>?_;subst h2;simp only[hd];exact hK _ _ ((h x h1).go _ w' (hY.put hn _) (hm.append h3 h4))
theorem k7{f:FuncId}{args:Array Value}{ι:Type}{S:Spec ι}{j e:Nat}{b:Bool}(he:∀a w,na n a fr->(execOp a.eval o).run P w= .ok (.enter f args) w)(hc:∀w,Mem W L w->Calls P f args w (bX S w))(hg:o.guard=aj (j,b))(hj:(ops[j]?).bind (·.dst)=aj e)(hl:look fr e=aj (.bool b))(hd:o.dst=aj d)(hn:dq d n=aD)
 (h:∀x,S.ok x->TL P n W ops Q rest ((d,S.val x)::fr) (L++S.own x)):TL P n W ops Q (o::rest) fr L:= .mk λa w hY hm=>
 Xx (pv hY hg hj hl) λK hK=>by
  unfold gi;rw[he a w hY,O4];refine(hc w hm).mono λe w' ⟨x,h1,h2,h3,h4⟩=>?_;subst h2;simp only[hd];exact hK _ _ ((h x h1).go _ w' (hY.put hn _) (hm.append h3 h4))
def cZ{ι:Type}(S:Spec ι)(B:bP)(e:Ending)(w':World):Prop:=∃x,S.ok x/\e= .returned (S.val x)/\Mem B (S.own x) w'
theorem Mem.b_{ι:Type}{S:Spec ι}{w:World}(x:ι)(hm:Mem W L w)(hx:S.ok x)(is:List Nat)(hn:is.Nodup)(hl:S.own x=is.filterMap λi=>L[i]?):cZ S W (.returned (S.val x)) w:=
 ⟨x,hx,rfl,hm.pick is hn hl⟩
theorem yd{is js:List Nat}{Lx R:List b9}(UO:Lx=is.filterMap λi=>L[i]?)(LD:R=js.filterMap λi=>L[i]?):Lx++R=(is++js).filterMap λi=>L[i]?:=by
 simp_all
theorem bz{f:FuncId}{args:Array Value}{ι:Type}{S:Spec ι}(is js:List Nat){Lx R:List b9}(UP:(is++js).Nodup)(UO:Lx=is.filterMap λi=>L[i]?)(LD:R=js.filterMap λi=>L[i]?)
 (he:∀a w,na n a fr->(execOp a.eval o).run P w= .ok (.enter f args) w) (hc:∀w,Mem W L w->Mem (bP.on w Lx) Lx w->Calls P f args w (cZ S (bP.on w Lx))) (hg:o.guard=ak) (hd:o.dst=aj d) (hn:dq d n=aD)
 (h:∀x,S.ok x->TL P n W ops Q rest ((d,S.val x)::fr) (R++S.own x)):TL P n W ops Q (o::rest) fr L:= .mk λa w hY hm=>
 wpList_plain hg λK hK=>by
  have Yf:Mem W (Lx++R) w:=hm.pick (is++js) UP (yd UO LD);have hm3:Mem W Lx w:=hm.pick is (List.nodup_append.1 UP).1 UO;unfold gi;rw[he a w hY,O4];refine(hc w hm hm3.over).mono λe w' ⟨x,h1,h2,h3⟩=>?_;subst h2;simp only[hd];exact hK _ _ ((h x h1).go _ w' (hY.put hn _) (Yf.back h3))
theorem k8(hg:o.guard=ak)(h:∀a w,na n a fr->Mem W L w->∀K:Act->World->Prop,(∀a w,wpList P ops Q rest a w->K a w)->o.wp P a w K Q):TL P n W ops Q (o::rest) fr L:= .mk λa w hY hm=>
 wpList_plain hg λK hK=>h a w hY hm K hK
theorem Yg{id:Nat}{l:List Oper}(k:Nat)(ks:List Bool)(hk:ks.length=k)(hm:P.follows .mixedOrders=aD)(hB:acB .any l.toArray ks=aD)
 (hQ:∀c a d v w,Q (.panic c) (qS a d v) w->Q (.panic c) a w)
 (h:TM P n W l.toArray Q (λa' w'=>wpList P l.toArray Q (l.drop k) a' w') ks (l.take k) fr L):T P n W (.region id l.toArray aD) Q fr L:= .mk λa _ hr sG=>
 dQ.dQ k ks hk hm hB (λc a d v w=>hQ c a d v w) (Mem W L) (iq W L) sG.drew (h.go a hr)
theorem Yh{l:List Oper}(h:TL P n W ops Q l fr L):TM P n W ops Q (λa' w'=>wpList P ops Q l a' w') [] [] fr L:= .mk λa hr=>SC λw hw=>h.go a w hr hw
theorem afO(hr:RR P n W o fr L v)(hg:o.guard=ak)(hd:o.dst=aj d)(hn:dq d n=aD)(h:TM P n W ops Q K ks rest ((d,v)::fr) L):TM P n W ops Q K (true::ks) (o::rest) fr L:= .mk λa hY=>
 SB (nR hg) (λw hS=>hr.go a w hY hS) (by rw[hd];exact h.go _ (hY.put hn v))
theorem C'{q e:Nat}{b:Bool}(hg:o.guard=aj (q,b))(hj:(ops[q]?).bind (·.dst)=aj e)(hl:look fr e=aj (.bool b))(h:TL P n W ops Q ({o with guard:=ak}::rest) fr L):TL P n W ops Q (o::rest) fr L:= .mk λa w hr hm=>by
 have h1:=h.go a w hr hm;unfold wpList at h1⊢;rw[if_pos (nR I)]at h1;rw[if_pos (pv hr hg hj hl)];exact h1
theorem gD(hg:o.guard=ak)(hr:RR P n W o fr L v)(hd:o.dst=aj d)(hn:dq d n=aD)(h:TM P n W ops Q K ks rest ((d,v)::fr) L):TM P n W ops Q K (true::ks) (o::rest) fr L:=afO hr hg hd hn h
end
end
def str(l:List UInt8):Value:= .string ⟨l.toArray⟩
theorem Yi(s:ByteArray):Value.string s=str s.data.toList:=by rfl
structure Ty(P:Program)(t:TypeId)(agg:Bool)(c:Nat):Prop where
 agg:∀w,(isAgg t).run P w= .ok agg w
 size:∀w,(sizeOf t).run P w= .ok c w
def tyB(P:Program)(t:TypeId)(agg:Bool)(c:Nat):Bool:=
 (match P.underlying t with|some (.struct _)=>agg|some (.array _ _)=>agg|some _=>!agg|none=>aF)&&(match P.info? t with|some i=>fU i.size c|none=>aF)
theorem Ty.of{P:Program}{t:TypeId}{agg:Bool}{c:Nat}(h:tyB P t agg c=aD):Ty P t agg c:=by
 unfold tyB at h;rw[fc]at h;obtain⟨h1,h2⟩:=h;refine⟨λw=>?_,λw=>?_⟩
 ·cases e:P.underlying t with
  |none=>simp_all
  |some d=>
   rw[e]at h1
   cases agg<;>cases d<;>simp_all[isAgg,run_underlying]
 cases e:P.info? t with
 |none=>simp_all
 |some i=>
  simp_all[sizeOf,typeInfo]
section
variable{P:Program}{n:Nat}{W:bP}{fr:Fr}{L:List b9}{dst:Option Tmp}{ty:TypeId}{pos:String}{after:Array Edge}{guard:Option (Nat×Bool)}
theorem wW{x:Operand}{v:Value}(hx:ev fr x=aj v):RR P n W ⟨dst,.move x,ty,pos,after,guard⟩ fr L v:= .mk λa w hr _=>by
 show Pb (XK (a.eval x)) w=_;rw[hr.ev hx]
theorem UQ{x:Operand}{v:Value}(hx:ev fr x=aj v):RR P n W ⟨dst,.assign x,ty,pos,after,guard⟩ fr L v:= .mk λa w hr _=>by
 show Pb (XK (a.eval x)) w=_;rw[hr.ev hx]
theorem Yj{c x y:Operand}{v:Value}(hc:ev fr c=aj (.bool aD))(hx:ev fr x=aj v):RR P n W ⟨dst,.pick c x y,ty,pos,after,guard⟩ fr L v:= .mk λa w hr _=>by
 simp[execOp,hr.ev hc,hr.ev hx,asBool]
theorem Yk{c x y:Operand}{v:Value}(hc:ev fr c=aj (.bool aF))(hy:ev fr y=aj v):RR P n W ⟨dst,.pick c x y,ty,pos,after,guard⟩ fr L v:= .mk λa w hr _=>by
 simp[execOp,hr.ev hc,hr.ev hy,asBool]
theorem Py{t:Operand}{i:Nat}{vs:Array Value}{v:Value}(ht:ev fr t=aj (.tuple vs))(hv:vs[i]?=aj v):RR P n W ⟨dst,.extract t i,ty,pos,after,guard⟩ fr L v:= .mk λa w hr _=>by
 simp[execOp,hr.ev ht,Instr.extract,hv]
section
variable{t u:TypeId}{x y:Operand}{k:IntKind}{m m':Int}
theorem lQ{op:BinOp}{v:Value}(hx:ev fr x=aj (.int k m))(hy:ev fr y=aj (.int k m'))(h:∀w,(binOp op t (.int k m) (.int k m')).run P w= .ok v w):RR P n W ⟨dst,.binOp op t x y u,ty,pos,after,guard⟩ fr L v:= .mk λa w hr _=>by
 have e:(eqGuard op t x y (.int k m) (.int k m')).run P w= .ok () w:=by
  simp[eqGuard]
 simp[execOp,hr.ev hx,hr.ev hy,e,h]
theorem afP(hx:ev fr x=aj (.int k m))(hy:ev fr y=aj (.int k m')):RR P n W ⟨dst,.binOp .add t x y u,ty,pos,after,guard⟩ fr L (.int k (k.wrap (m+m'))):=lQ hx hy λw=>by simp[binOp,O3]
theorem afQ(hx:ev fr x=aj (.int k m))(hy:ev fr y=aj (.int k m')):RR P n W ⟨dst,.binOp .sub t x y u,ty,pos,after,guard⟩ fr L (.int k (k.wrap (m-m'))):=lQ hx hy λw=>by simp[binOp,O3]
theorem afR(hx:ev fr x=aj (.int k m))(hy:ev fr y=aj (.int k m')):RR P n W ⟨dst,.binOp .mul t x y u,ty,pos,after,guard⟩ fr L (.int k (k.wrap (m*m'))):=lQ hx hy λw=>by simp[binOp,O3]
theorem nO{r:Int}(h0: -9223372036854775808<=r)(h1:r<=9223372036854775807):aB.wrap r=r:=IntWalk.i64_in _ J
theorem fl{r:Int}(hx:ev fr x=aj (az aB m))(hy:ev fr y=aj (az aB m'))(h0: -9223372036854775808<=m+m')(h1:m+m'<=9223372036854775807)(hr:m+m'=r):RR P n W ⟨dst,.binOp .add t x y u,ty,pos,after,guard⟩ fr L (az aB r):=by
 have:=afP (P:=P) (n:=n) (W:=W) (L:=L) (dst:=dst) (ty:=ty) (pos:=pos) (after:=after) (guard:=guard) (t:=t) (u:=u) hx hy;rwa [nO h0 h1,hr]at this
theorem eT{r:Int}(hx:ev fr x=aj (az aB m))(hy:ev fr y=aj (az aB m'))(h0: -9223372036854775808<=m-m')(h1:m-m'<=9223372036854775807)(hr:m-m'=r):RR P n W ⟨dst,.binOp .sub t x y u,ty,pos,after,guard⟩ fr L (az aB r):=by
 have:=afQ (P:=P) (n:=n) (W:=W) (L:=L) (dst:=dst) (ty:=ty) (pos:=pos) (after:=after) (guard:=guard) (t:=t) (u:=u) hx hy;rwa [nO h0 h1,hr]at this
theorem Yl{r:Int}(hx:ev fr x=aj (az aB m))(hy:ev fr y=aj (az aB m'))(h0: -9223372036854775808<=m*m')(h1:m*m'<=9223372036854775807)(hr:m*m'=r):RR P n W ⟨dst,.binOp .mul t x y u,ty,pos,after,guard⟩ fr L (az aB r):=by
 have:=afR (P:=P) (n:=n) (W:=W) (L:=L) (dst:=dst) (ty:=ty) (pos:=pos) (after:=after) (guard:=guard) (t:=t) (u:=u) hx hy;rwa [nO h0 h1,hr]at this
theorem ez{b:Bool}(hx:ev fr x=aj (.int k m))(hy:ev fr y=aj (.int k m'))(h:decide (m<m')=b):RR P n W ⟨dst,.binOp .lss t x y u,ty,pos,after,guard⟩ fr L (.bool b):=lQ hx hy λw=>by simp[binOp,AW,<-h]
theorem ye{b:Bool}(hx:ev fr x=aj (.int k m))(hy:ev fr y=aj (.int k m'))(h:decide (m<=m')=b):RR P n W ⟨dst,.binOp .leq t x y u,ty,pos,after,guard⟩ fr L (.bool b):=lQ hx hy λw=>by simp[binOp,AW,<-h]
theorem dW{b:Bool}(hx:ev fr x=aj (.int k m))(hy:ev fr y=aj (.int k m'))(h:decide (m'<m)=b):RR P n W ⟨dst,.binOp .gtr t x y u,ty,pos,after,guard⟩ fr L (.bool b):=lQ hx hy λw=>by simp[binOp,AW,<-h]
theorem fu{b:Bool}(hx:ev fr x=aj (.int k m))(hy:ev fr y=aj (.int k m'))(h:decide (m'<=m)=b):RR P n W ⟨dst,.binOp .geq t x y u,ty,pos,after,guard⟩ fr L (.bool b):=lQ hx hy λw=>by simp[binOp,AW,<-h]
theorem cY{b:Bool}(hx:ev fr x=aj (.int k m))(hy:ev fr y=aj (.int k m'))(h:decide (m=m')=b):RR P n W ⟨dst,.binOp .eql t x y u,ty,pos,after,guard⟩ fr L (.bool b):=lQ hx hy λw=>by
 simp_all[Xw,binOp,AW]
theorem dc{b:Bool}(hx:ev fr x=aj (.int k m))(hy:ev fr y=aj (.int k m'))(h:decide (m≠m')=b):RR P n W ⟨dst,.binOp .neq t x y u,ty,pos,after,guard⟩ fr L (.bool b):=lQ hx hy λw=>by
 simp_all[bne,Xw,binOp,AW]
theorem Ji{op:BinOp}{r:Int}(hop:op= .and\/op= .or\/op= .xor\/op= .andNot)(hx:ev fr x=aj (.int k m))(hy:ev fr y=aj (.int k m'))(h:bits op k m m'=r):RR P n W ⟨dst,.binOp op t x y u,ty,pos,after,guard⟩ fr L (.int k r):=lQ hx hy λw=>by
 subst h;rcases hop with rfl|rfl|rfl|rfl<;>simp[binOp,Op.intBits,bits]
theorem LF{op:BinOp}{k':IntKind}{v:Value}(hop:op= .shl\/op= .shr)(hx:ev fr x=aj (.int k m))(hy:ev fr y=aj (.int k' m'))(h:∀w,(iN op k m k' m').run P w= .ok v w):RR P n W ⟨dst,.binOp op t x y u,ty,pos,after,guard⟩ fr L v:= .mk λa w hr _=>by
 have e:(eqGuard op t x y (.int k m) (.int k' m')).run P w= .ok () w:=by simp[eqGuard]
 rcases hop with rfl|rfl<;>simp[execOp,hr.ev hx,hr.ev hy,e,binOp,h]
theorem nB{r:Int}(hx:ev fr x=aj (.int k m))(hy:ev fr y=aj (.int k m'))(h:bits .and k m m'=r):RR P n W ⟨dst,.binOp .and t x y u,ty,pos,after,guard⟩ fr L (.int k r):=Ji (.inl I) hx hy h
theorem zi{r:Int}(hx:ev fr x=aj (.int k m))(hy:ev fr y=aj (.int k m'))(h:bits .or k m m'=r):RR P n W ⟨dst,.binOp .or t x y u,ty,pos,after,guard⟩ fr L (.int k r):=Ji (.inr (.inl I)) hx hy h
theorem DX{k':IntKind}{v:Value}(hx:ev fr x=aj (.int k m))(hy:ev fr y=aj (.int k' m'))(h:∀w,(iN .shl k m k' m').run P w= .ok v w):RR P n W ⟨dst,.binOp .shl t x y u,ty,pos,after,guard⟩ fr L v:=LF (.inl I) hx hy h
theorem px{k':IntKind}{v:Value}(hx:ev fr x=aj (.int k m))(hy:ev fr y=aj (.int k' m'))(h:∀w,(iN .shr k m k' m').run P w= .ok v w):RR P n W ⟨dst,.binOp .shr t x y u,ty,pos,after,guard⟩ fr L v:=LF (.inr I) hx hy h
theorem jk{k':IntKind}{r:Int}(hs:P.underlying t=aj (.int k'))(hd:P.underlying u=aj (.int k))(hx:ev fr x=aj (.int k' m))(h:k.wrap m=r):RR P n W ⟨dst,.convert t u x,ty,pos,after,guard⟩ fr L (.int k r):= .mk λa w hr _=>by
 simp[execOp,hr.ev hx,convert,run_underlying hs,run_underlying hd,Conv.intToInt,h]
end
theorem Jj{t:TypeId}{x:Operand}{b c:Bool}(hx:ev fr x=aj (.bool b))(h:(!b)=c):RR P n W ⟨dst,.unOp .not t x,ty,pos,after,guard⟩ fr L (.bool c):= .mk λa w hr _=>by
 subst h;simp[execOp,hr.ev hx,Op.unary]
theorem DY{t u:TypeId}{x y:Operand}{m m' r:Int}(hx:ev fr x=aj (az aB m))(hy:ev fr y=aj (az aB m'))(h:min m m'=r):RR P n W ⟨dst,.call {callee:= .builtin .min,args:=#[x,y],argTypes:=#[t,u]},ty,pos,after,guard⟩ fr L (az aB r):= .mk λa w hr _=>by
 subst h;have h1:=hr.ev hx;have h2:=hr.ev hy;have e:(if m'<m then m' else m)=min m m':=by omega
 simp_all[me,Xy,Xz,XA]
theorem Ym{t u:TypeId}{x y:Operand}{m m' r:Int}(hx:ev fr x=aj (az aB m))(hy:ev fr y=aj (az aB m'))(h:max m m'=r):RR P n W ⟨dst,.call {callee:= .builtin .max,args:=#[x,y],argTypes:=#[t,u]},ty,pos,after,guard⟩ fr L (az aB r):= .mk λa w hr _=>by
 subst h;have h1:=hr.ev hx;have h2:=hr.ev hy;have e:(if m'>m then m' else m)=max m m':=by omega
 simp_all[me,BigFrame.builtin_max,Builtin.max_,Builtin.max2]
theorem DZ{t:TypeId}{a b:Bool}(ht:P.underlying t=aj .bool)(d:Nat)(w:World):(od (d+1) t (.bool a) (.bool b)).run P w= .ok (a==b) w:=by simp[od,run_underlying ht]
theorem Hr{t u:TypeId}{x y:Operand}{a b c:Bool}(ht:P.underlying t=aj .bool)(hx:ev fr x=aj (.bool a))(hy:ev fr y=aj (.bool b))(h:(a==b)=c):RR P n W ⟨dst,.binOp .eql t x y u,ty,pos,after,guard⟩ fr L (.bool c):= .mk λac w hr _=>by
 have e:(eqGuard .eql t x y (.bool a) (.bool b)).run P w= .ok () w:=rfl;have e2:(binOp .eql t (.bool a) (.bool b)).run P w= .ok (.bool c) w:=by
  show((I_ t (.bool a) (.bool b))>>=λr=>pure (fT r)).run P w=_
  have:(I_ t (.bool a) (.bool b)).run P w= .ok (a==b) w:=DZ ht 9999 w;rw[oe,this,h];rfl
 simp[execOp,hr.ev hx,hr.ev hy,e,e2]
theorem UR{t u:TypeId}{x y:Operand}{a b c:Bool}(ht:P.underlying t=aj .bool)(hx:ev fr x=aj (.bool a))(hy:ev fr y=aj (.bool b))(h:(!(a==b))=c):RR P n W ⟨dst,.binOp .neq t x y u,ty,pos,after,guard⟩ fr L (.bool c):= .mk λac w hr _=>by
 have e:(eqGuard .neq t x y (.bool a) (.bool b)).run P w= .ok () w:=rfl;have e2:(binOp .neq t (.bool a) (.bool b)).run P w= .ok (.bool c) w:=by
  show((I_ t (.bool a) (.bool b))>>=λr=>pure (fT (!r))).run P w=_
  have:(I_ t (.bool a) (.bool b)).run P w= .ok (a==b) w:=DZ ht 9999 w;rw[oe,this];show Pb (fT (!(a==b))) w=_
  rw[h]
 simp[execOp,hr.ev hx,hr.ev hy,e,e2]
section
variable{t u:TypeId}{x y:Operand}{l l':List UInt8}
theorem US(ht:P.underlying t=aj .string)(hx:ev fr x=aj (str l)):RR P n W ⟨dst,.call {callee:= .builtin .len,args:=#[x],argTypes:=#[t]},ty,pos,after,guard⟩ fr L (az aB l.length):= .mk λa w hr _=>by
 have SG:=hr.ev hx;unfold str at SG;have hsz:(xW l.toArray).size=l.length:=eM;simp[me,OY,XB,SG,run_underlying ht,goInt,hsz]
theorem py{b:Bool}(hx:ev fr x=aj (str l))(hy:ev fr y=aj (str l'))(h:decide (l=l')=b):RR P n W ⟨dst,.binOp .eql t x y u,ty,pos,after,guard⟩ fr L (.bool b):= .mk λa w hr _=>by
 have e:(eqGuard .eql t x y (str l) (str l')).run P w= .ok () w:=rfl;have e2:(l==l')=b:=by grind
 unfold str at*;simp[execOp,hr.ev hx,hr.ev hy,e,binOp,XL,e2]
theorem k9{b:Bool}(hx:ev fr x=aj (str l))(hy:ev fr y=aj (str l'))(h:decide (l≠l')=b):RR P n W ⟨dst,.binOp .neq t x y u,ty,pos,after,guard⟩ fr L (.bool b):= .mk λa w hr _=>by
 have e:(eqGuard .neq t x y (str l) (str l')).run P w= .ok () w:=rfl;have e2:(!(l==l'))=b:=by grind
 unfold str at*;simp[execOp,hr.ev hx,hr.ev hy,e,binOp,XL,e2]
theorem Hs(hx:ev fr x=aj (str l))(hy:ev fr y=aj (str l'))(h:l.length+l'.length<=9223372036854775807):RR P n W ⟨dst,.binOp .add t x y u,ty,pos,after,guard⟩ fr L (str (l++l')):= .mk λa w hr _=>by
 have e:(eqGuard .add t x y (str l) (str l')).run P w= .ok () w:=rfl;have e2:=run_string_add_sum (P:=P) w ⟨l.toArray⟩ ⟨l'.toArray⟩ (by simp_all[OW]);rw[afA]at e2;unfold str at*;simp[execOp,hr.ev hx,hr.ev hy,e,binOp,e2]
theorem rA{i:Int}{b:UInt8}{k:IntKind}(ht:P.underlying t=aj .string)(hx:ev fr x=aj (str l))(hy:ev fr y=aj (.int k i))(h0:0<=i)(h:l[i.toNat]?=aj b):RR P n W ⟨dst,.index t x y,ty,pos,after,guard⟩ fr L (.int .u8 b.toNat):= .mk λa w hr _=>by
 have hlt:=(dX.1 h).1;have e:(if 0<=i then(xW l.toArray)[i.toNat]? else ak)=aj b:=by
  rw[if_pos h0];have hs:i.toNat<(xW l.toArray).size:=by simp_all[OW]
  rw[getElem?_pos (xW l.toArray) i.toNat hs];have:=(dX.1 h).2;exact congrArg aj (by rw[<-this];rfl)
 unfold str at*;simp only[execOp,hr.ev hx,hr.ev hy,XJ,asIntOf,oe,ph,qU,run_underlying ht,e]
theorem uJ{lo hi:Option Operand}{i j:Int}(ht:P.underlying t=aj .string)(hx:ev fr x=aj (str l))(SH:match lo with|none=>i=0|some z=>∃k,ev fr z=aj (.int k i))(UT:match hi with|none=>j=l.length|some z=>∃k,ev fr z=aj (.int k j))
 (h0:0<=i) (h1:i<=j) (h2:j<=l.length):RR P n W ⟨dst,.slice t x lo hi ak,ty,pos,after,guard⟩ fr L (str ((l.take j.toNat).drop i.toNat)):= .mk λa w hr _=>by
 have hsz:(xW l.toArray).size=l.length:=by rfl
 have ex:∀p q,(xW l.toArray).extract p q=⟨((l.take q).drop p).toArray⟩:=λp q=>by
  apply afx;simp[afy,List.extract_eq_take_drop,Pm]
 have h2':j<=((xW l.toArray).size:Int):=by omega
 have h0j:0<=j:=by omega
 have ej:(j.toNat:Int)=j:=Int.toNat_of_nonneg h0j;unfold str at*
 cases lo<;>cases hi
 ·simp only at SH UT
  subst SH UT;simp[execOp,hr.ev hx,sy,sA,run_underlying ht,sx]
 ·obtain⟨k,hk⟩:=UT
  simp only at SH;subst SH;simp[execOp,hr.ev hx,hr.ev hk,sy,sA,run_underlying ht,sx,run_sliceBound,ex,hsz,h0j,h2]
 ·obtain⟨k,hk⟩:=SH
  simp only at UT;subst UT;simp[execOp,hr.ev hx,hr.ev hk,sy,sA,run_underlying ht,sx,run_sliceBound,ex,hsz,h0,h1]
 ·obtain⟨k,hk⟩:=SH
  obtain⟨k',o8⟩:=UT;have h1':i<=(j.toNat:Int):=by omega
  have hb:=λc=>run_sliceBound (P:=P) w k i j.toNat c h0 h1';simp[execOp,hr.ev hx,hr.ev hk,hr.ev o8,sy,sA,run_underlying ht,sx,run_sliceBound w k' j,hb,ex,hsz,h0j,h2]
theorem sH{z:Operand}{k:IntKind}{i:Nat}(ht:P.underlying t=aj .string)(hx:ev fr x=aj (str l))(hz:ev fr z=aj (.int k (i:Int)))(h:i<=l.length):RR P n W ⟨dst,.slice t x (aj z) ak ak,ty,pos,after,guard⟩ fr L (str (l.drop i)):=by
 have:=uJ (P:=P) (n:=n) (W:=W) (fr:=fr) (L:=L) (dst:=dst) (ty:=ty) (pos:=pos) (after:=after) (guard:=guard) (lo:=aj z) (hi:=ak) (i:=(i:Int)) (j:=(l.length:Int)) ht hx ⟨k,hz⟩ I J J J
 simp_all
theorem yf{z:Operand}{k:IntKind}{j:Nat}(ht:P.underlying t=aj .string)(hx:ev fr x=aj (str l))(hz:ev fr z=aj (.int k (j:Int)))(h:j<=l.length):RR P n W ⟨dst,.slice t x ak (aj z) ak,ty,pos,after,guard⟩ fr L (str (l.take j)):=by
 have:=uJ (P:=P) (n:=n) (W:=W) (fr:=fr) (L:=L) (dst:=dst) (ty:=ty) (pos:=pos) (after:=after) (guard:=guard) (lo:=ak) (hi:=aj z) (i:=0) (j:=(j:Int)) ht hx I ⟨k,hz⟩ J J J
 simp_all
theorem UU{z z':Operand}{k k':IntKind}{i j:Nat}(ht:P.underlying t=aj .string)(hx:ev fr x=aj (str l))(hz:ev fr z=aj (.int k (i:Int)))(hz':ev fr z'=aj (.int k' (j:Int)))(h0:i<=j)(h:j<=l.length):RR P n W ⟨dst,.slice t x (aj z) (aj z') ak,ty,pos,after,guard⟩ fr L (str ((l.drop i).take (j-i))):=by
 have:=uJ (P:=P) (n:=n) (W:=W) (fr:=fr) (L:=L) (dst:=dst) (ty:=ty) (pos:=pos) (after:=after) (guard:=guard) (lo:=aj z) (hi:=aj z') (i:=(i:Int)) (j:=(j:Int)) ht hx ⟨k,hz⟩ ⟨k',hz'⟩ J J J
 simp_all[Pm]
end
end
section
variable{P:Program}{n:Nat}{W:bP}{fr:Fr}{L:List b9}{dst:Option Tmp}{ty:TypeId}{pos:String}{after:Array Edge}{guard:Option (Nat×Bool)}
def At(W:bP)(L:List b9)(p:Addr)(v:Value):Prop:=∀w,Mem W L w->w.cell? p=aj v
theorem kH{W:World}{p:Addr}{v:Value}(h:W.cell? p=aj v):At W L p v:=λ_ hm=>hm.cell h
theorem iX{W0:World}{p:Addr}{v:Value}(ho:mI W0 W)(h:W0.cell? p=aj v):At W L p v:=λ_ hm=>ho.cell hm h
theorem aI{i g off:Nat}{cs:Array Value}{T:TypeId}{v:Value}(hi:L[i]?=aj (aR g cs T))(hv:cs[off]?=aj v):At W L ⟨g,off,ak⟩ v:=λw hm=>by
 rw[cell_of_row w g off cs T (0,0) (hm.get hi)];exact hv
theorem jP{i g off size cap m k:Nat}{e:TypeId}{xs:List Value}{v:Value}(hi:L[i]?=aj (a_ e size (av (aj ⟨g,0,ak⟩) m cap) k xs))(hv:xs[off]?=aj v):At W L ⟨g,off,ak⟩ v:=λw hm=>by
 have h:w.ownsRow 0 e size (av (aj ⟨g,0,ak⟩) m cap) k xs:=hm.get hi;have:=h.cells (g:=g) I off v hv
 simp_all[eS]
theorem iP{W:World}{b off j:Nat}{xs:List Value}{v:Value}(h:Rd W b off xs)(hv:xs[j]?=aj v):At W L ⟨b,off+j,ak⟩ v:=kH (h j v hv)
theorem aC{t:TypeId}{x:Operand}{p:Addr}{c:Nat}{v:Value}(hT:Ty P t aF c)(hx:ev fr x=aj (aK (aj p)))(h:At W L p v):RR P n W ⟨dst,.load t x,ty,pos,after,guard⟩ fr L v:= .mk λa w hr hm=>by
 simp[execOp,hr.ev hx,XI,xZ,loadVar,hT.agg,h w hm]
theorem aY{t:TypeId}{x:Operand}{b off c:Nat}{cs:List Value}(hT:Ty P t aD c)(hx:ev fr x=aj (aK (aj ⟨b,off,ak⟩)))(hl:cs.length=c)(h:∀j v,cs[j]?=aj v->At W L ⟨b,off+j,ak⟩ v):RR P n W ⟨dst,.load t x,ty,pos,after,guard⟩ fr L (aQ cs.toArray):= .mk λa w hr hm=>by
 subst hl;have:=run_loadCells_list (P:=P) w ⟨b,off,ak⟩ cs λj v hj=>by rw[eS];exact h j v hj w hm
 simp[execOp,hr.ev hx,XI,xZ,loadVar,hT.agg,hT.size,this]
theorem aP{t:TypeId}{x:Operand}{i g c:Nat}{cs:Array Value}{T:TypeId}(hT:Ty P t aD c)(hx:ev fr x=aj (aK (aj ⟨g,0,ak⟩)))(hi:L[i]?=aj (aR g cs T))(hl:cs.size=c):RR P n W ⟨dst,.load t x,ty,pos,after,guard⟩ fr L (.agg cs):=by
 have:=aY (P:=P) (n:=n) (W:=W) (L:=L) (dst:=dst) (ty:=ty) (pos:=pos) (after:=after) (guard:=guard) (cs:=cs.toList) hT hx J λj v hj=>by rw[cX];exact aI hi (by simpa using hj)
 omega
theorem D0{W:World}{α:Type}{f:α->Value}{b off j:Nat}{l:List α}(h:Rd W b off (l.map f))(hj:j<l.length):At W L ⟨b,off+j,ak⟩ (f l[j]):=iP h (by grind)
structure Fld(P:Program)(s:TypeId)(f o:Nat):Prop where
 run:∀(a:Addr) w,(XG s (aK (aj a)) f).run P w= .ok (aK (aj (a.add o))) w
def ahG(P:Program)(s:TypeId)(f o:Nat):Bool:=
 match P.underlying s with
 |some (.struct fs)=>(match fs[f]? with|some d=>fU d.offset o&&(match P.info? d.type with|some i=>!(fU i.size 0)|none=>aF)|none=>aF)
 |_=>aF
theorem Fld.of{P:Program}{s:TypeId}{f o:Nat}(h:ahG P s f o=aD):Fld P s f o:=by
 unfold ahG at h
 cases e:P.underlying s with
 |none=>simp_all
 | some d=>
  rw[e]at h
  cases d<;>try (cases h;done)
  rename_i fs
  simp only at h
  cases e2:fs[f]? with
  |none=>simp_all
  | some d=>
   rw[e2]at h;simp only[fc]at h;obtain⟨h1,h2⟩:=h;obtain rfl:=mi h1
   cases e3:P.info? d.type with
   |none=>simp_all
   | some i=>
    rw[e3]at h2;simp only[AR]at h2;have:=Ja h2;exact⟨λa w=>by simp_all[XG,run_underlying,xZ,fieldPlace,sizeOf,typeInfo]⟩
theorem LG{s:TypeId}{x:Operand}{f o b off r:Nat}(hf:Fld P s f o)(hx:ev fr x=aj (aK (aj ⟨b,off,ak⟩)))(hr:off+o=r):RR P n W ⟨dst,.fieldAddr s x f,ty,pos,after,guard⟩ fr L (aK (aj ⟨b,r,ak⟩)):= .mk λa w h _=>by
 subst hr;simp[execOp,h.ev hx,hf.run,eS]
theorem Yn{t e:TypeId}{x y:Operand}{agg:Bool}{c b off len cap r:Nat}{k:IntKind}{i:Int}(ht:P.underlying t=aj (.slice e))(he:Ty P e agg c)(hx:ev fr x=aj (av (aj ⟨b,off,ak⟩) len cap))(hy:ev fr y=aj (.int k i))(h0:0<=i)(h1:i<len)(hr:off+i.toNat*c=r):
 RR P n W ⟨dst,.indexAddr t x y,ty,pos,after,guard⟩ fr L (aK (aj ⟨b,r,ak⟩)):= .mk λa w h _=>by
 subst hr;simp[execOp,h.ev hx,h.ev hy,XH,asIntOf,run_underlying ht,he.size,h0,h1,eS]
theorem bY{t e:TypeId}{x y:Operand}{agg:Bool}{b off len cap j:Nat}{k:IntKind}(ht:P.underlying t=aj (.slice e))(he:Ty P e agg 1)(hx:ev fr x=aj (av (aj ⟨b,off,ak⟩) len cap))(hy:ev fr y=aj (.int k (j:Int)))(h1:j<len):
 RR P n W ⟨dst,.indexAddr t x y,ty,pos,after,guard⟩ fr L (aK (aj ⟨b,off+j,ak⟩)):=Yn ht he hx hy J J (by simp)
theorem aZ{t e:TypeId}{x y:Operand}{agg:Bool}{c b off len cap j:Nat}{k:IntKind}(ht:P.underlying t=aj (.slice e))(he:Ty P e agg c)(hx:ev fr x=aj (av (aj ⟨b,off,ak⟩) len cap))(hy:ev fr y=aj (.int k (j:Int)))(h1:j<len):
 RR P n W ⟨dst,.indexAddr t x y,ty,pos,after,guard⟩ fr L (aK (aj ⟨b,off+j*c,ak⟩)):=Yn ht he hx hy J J (by simp)
theorem acI{t e:TypeId}{x y:Operand}{agg:Bool}{c b off len r:Nat}{k:IntKind}{i:Int}(ht:P.underlying t=aj (.array len e))(he:Ty P e agg c)(hx:ev fr x=aj (aK (aj ⟨b,off,ak⟩)))(hy:ev fr y=aj (.int k i))(h0:0<=i)(h1:i<len)(hr:off+i.toNat*c=r):
 RR P n W ⟨dst,.indexAddr t x y,ty,pos,after,guard⟩ fr L (aK (aj ⟨b,r,ak⟩)):= .mk λa w h _=>by
 subst hr;simp[execOp,h.ev hx,h.ev hy,XH,asIntOf,run_underlying ht,he.size,h0,h1,eS,xZ]
theorem hZ{t e:TypeId}{x y:Operand}{agg:Bool}{b off len j:Nat}{k:IntKind}(ht:P.underlying t=aj (.array len e))(he:Ty P e agg 1)(hx:ev fr x=aj (aK (aj ⟨b,off,ak⟩)))(hy:ev fr y=aj (.int k (j:Int)))(h1:j<len):
 RR P n W ⟨dst,.indexAddr t x y,ty,pos,after,guard⟩ fr L (aK (aj ⟨b,off+j,ak⟩)):=acI ht he hx hy J J (by simp)
theorem jQ{t e:TypeId}{x y:Operand}{len j:Nat}{k:IntKind}{cs:Array Value}{v:Value}(ht:P.underlying t=aj (.array len e))(he:Ty P e aF 1)(hx:ev fr x=aj (.agg cs))(hy:ev fr y=aj (.int k (j:Int)))(h1:j<len)(hv:cs[j]?=aj v):
 RR P n W ⟨dst,.index t x y,ty,pos,after,guard⟩ fr L v:= .mk λa w h _=>by
 have h0:(0:Int)<=(j:Int)/\(j:Int)<(len:Int):=by omega
 simp[execOp,h.ev hx,h.ev hy,XJ,asIntOf,run_underlying ht,he.size,h1,part,he.agg,hv]
theorem Pz{t e:TypeId}{x:Operand}{p:Option Addr}{m cap:Nat}(ht:P.underlying t=aj (.slice e))(hx:ev fr x=aj (av p m cap)):RR P n W ⟨dst,.call {callee:= .builtin .len,args:=#[x],argTypes:=#[t]},ty,pos,after,guard⟩ fr L (az aB m):= .mk λa w hr _=>by
 have SG:=hr.ev hx;simp[me,OY,XB,SG,run_underlying ht,goInt]
theorem e_{t e e':TypeId}{x:Operand}{i size m:Nat}{v:Value}{xs:List Value}(ht:P.underlying t=aj (.slice e))(hi:L[i]?=aj (a_ e' size v m xs))(hx:ev fr x=aj v):RR P n W ⟨dst,.call {callee:= .builtin .len,args:=#[x],argTypes:=#[t]},ty,pos,after,guard⟩ fr L (az aB m):= .mk λa w hr hm=>by
 have h:w.ownsRow 0 e' size v m xs:=hm.get hi;rcases h.2 with⟨rfl,rfl⟩|⟨g,cap,kU,rfl,_⟩
 exact(Pz (P:=P) (W:=W) (L:=L) ht hx).go a w hr hm;exact(Pz (P:=P) (W:=W) (L:=L) ht hx).go a w hr hm
def SlL(W:bP)(L:List b9)(v:Value)(m:Nat)(xs:List Value):Prop:=∀w,Mem W L w->Sl w v m xs
theorem afS{W:World}{v:Value}{m:Nat}{xs:List Value}(h:Sl W v m xs):SlL W L v m xs:=λw hm=>by
 obtain⟨base,cap,h1,h2,h3,h4⟩:=h;exact⟨base,cap,h1,h2,h3,λhn=>let ⟨b,off,h5,h6⟩:=h4 hn;⟨b,off,h5,λj u hj=>hm.cell (h6 j u hj)⟩⟩
theorem iQ{i size m:Nat}{e:TypeId}{v:Value}{xs:List Value}(hi:L[i]?=aj (a_ e size v m xs)):SlL W L v m xs:=λ_ hm=>Sl.dx (hm.get hi)
section
variable{Q:Exit->Act->World->Prop}{ops:Array Oper}{rest:List Oper}{d:Nat}
theorem bL{t:TypeId}{x:Operand}{v:Value}{cs:Array Value}(hx:ev fr x=aj v)(hv:v.cells=cs)(hn:dq d n=aD)(h:∀g,TL P n W ops Q rest ((d,aK (aj ⟨g,0,ak⟩))::fr) (L++[aR g cs t])):
 TL P n W ops Q (⟨aj d,.box t x,ty,pos,after,ak⟩::rest) fr L:=k8 I λa w hr hm K hK=>by
 subst hv;have e:(execOp a.eval ⟨aj d,.box t x,ty,pos,after,ak⟩).run P w= .ok (.value (aK (aj ⟨w.heap.size,0,ak⟩))) (w.alloc (.cells v.cells t)):=by
  simp[execOp,hr.ev hx,Instr.box,newVar,newRow]
 unfold gi;rw[e];exact hK _ _ ((h w.heap.size).go _ _ (hr.put hn _) (hm.append (UW w _) (ny.one (heap_alloc_new w _) λk hk=>by simp_all[aR])))
where
 UW (w:World) (o:Obj):Gr w (w.alloc o):=(Below.refl _ _).alloc (bC _) _
theorem nS(w:World)(o:Obj):Gr w (w.alloc o):=(Below.refl _ _).alloc (bC _) _
theorem Yo{t:TypeId}{i:TypeInfo}{z:Value}{cs:Array Value}(hi:P.info? t=aj i)(hz:i.zero=aj z)(hv:z.cells=cs)(hn:dq d n=aD)(h:∀g,TL P n W ops Q rest ((d,aK (aj ⟨g,0,ak⟩))::fr) (L++[aR g cs t])):
 TL P n W ops Q (⟨aj d,.alloc t,ty,pos,after,ak⟩::rest) fr L:=k8 I λa w hr hm K hK=>by
 subst hv;have e:(execOp a.eval ⟨aj d,.alloc t,ty,pos,after,ak⟩).run P w= .ok (.value (aK (aj ⟨w.heap.size,0,ak⟩))) (w.alloc (.cells z.cells t)):=by
  simp[execOp,Instr.alloc,zeroValue,typeInfo,hi,hz,newVar,newRow]
 unfold gi;rw[e];exact hK _ _ ((h w.heap.size).go _ _ (hr.put hn _) (hm.append (nS w _) (ny.one (heap_alloc_new w _) λk hk=>by simp_all[aR])))
theorem PA{t e:TypeId}{m:Nat}{parts:Array (Nat×Operand)}{cs:Array Value}(hrun:∀a w,na n a fr->(uv t m (parts.map λ(i,x)=>(i,a.eval x))).run P w= .ok (av (aj ⟨w.heap.size,0,ak⟩) m m) (w.alloc (.cells cs e)))(hn:dq d n=aD)
 (h:∀g,TL P n W ops Q rest ((d,av (aj ⟨g,0,ak⟩) m m)::fr) (L++[aR g cs e])):
 TL P n W ops Q (⟨aj d,.buildSlice t m parts,ty,pos,after,ak⟩::rest) fr L:=k8 I λa w hr hm K hK=>by
 have e':(execOp a.eval ⟨aj d,.buildSlice t m parts,ty,pos,after,ak⟩).run P w= .ok (.value (av (aj ⟨w.heap.size,0,ak⟩) m m)) (w.alloc (.cells cs e)):=by
  simp_all[execOp]
 unfold gi;rw[e'];exact hK _ _ ((h w.heap.size).go _ _ (hr.put hn _) (hm.append (nS w _) (ny.one (heap_alloc_new w _) λk hk=>by simp_all[aR])))
theorem Yp{t e:TypeId}{i:TypeInfo}{z v:Value}{c:Nat}(ht:P.underlying t=aj (.slice e))(hi:P.info? e=aj i)(hz:i.zero=aj z)(hc:i.size=c)(hzc:z.cells.size=c)(hv:v.cells.size=c)(h0:0<c)(hs:c<=16777216)(w:World):
 (uv t 1 #[(0,v)]).run P w= .ok (av (aj ⟨w.heap.size,0,ak⟩) 1 1) (w.alloc (.cells v.cells e)):=by
 have uK:jv (λi=>aj (i*c,c)) ((DG (1*c)).map (z.cells[· %z.cells.size]!)) [(0,v)]=aj v.cells:=by
  simp only[jv,hv,A1,cX,Array.size_map,Array.size_range,DQ];rw[if_neg (by simp)]
  congr 1
  have key:∀(l:List Value) (k:Nat) (acc:Array Value),k+l.length=acc.size->(l.zipIdx k).foldl (λcs (x:Value×Nat)=>cs.setIfInBounds (0+x.2) x.1) acc=(acc.toList.take k++l).toArray:=by
   intro l
   induction l with
   | nil=>
    simp_all[gT]
   | cons x l ih=>
    intro k acc h;simp only[dj]at h;rw[Pg,List.foldl_cons,ih (k+1) _ (by grind)];simp only[cX,I3]
    grind
  have:=key v.cells.toList 0 ((DG c).map (z.cells[· %z.cells.size]!)) (by grind)
  simp only[uD,e7,Xt]at this;rw[<-Array.foldl_toList]
  simpa[Array.toList_zipIdx]using this
 have hne:¬(1*c>2^24):=by omega
 have Yq:¬(1*c=0):=by omega
 simp only[uv,oe,run_underlying ht,qU,sizeOf,typeInfo,run_program,hi,ph,hc,zeroValue,hz,if_neg hne,if_neg Yq,uK,newRow];simp[newRow]
theorem acJ{t e:TypeId}{x:Operand}{i:TypeInfo}{z v:Value}{c:Nat}{cs:Array Value}(ht:P.underlying t=aj (.slice e))(hi:P.info? e=aj i)(hz:i.zero=aj z)(hc:i.size=c)(hzc:z.cells.size=c)(hx:ev fr x=aj v)(hcs:v.cells=cs)(hv:cs.size=c)(h0:0<c)(hs:c<=16777216)(hn:dq d n=aD)
 (h:∀g,TL P n W ops Q rest ((d,av (aj ⟨g,0,ak⟩) 1 1)::fr) (L++[aR g cs e])):TL P n W ops Q (⟨aj d,.buildSlice t 1 #[(0,x)],ty,pos,after,ak⟩::rest) fr L:=by
 subst hcs;exact PA (λa w hr=>by simpa[hr.ev hx]using Yp ht hi hz hc hzc hv h0 hs w) hn h
theorem oq{t ty e:TypeId}{i:TypeInfo}{z:Value}{size bytes:Nat}(ht:P.underlying t=aj (.slice e))(hi:P.info? e=aj i)(hz:i.zero=aj z)(nT:i.size=size)(PB:i.bytes=bytes)(PC:z.cells.size=size)(hsz:0<size)(w:World)
 {v:Value} {m:Nat} {xs:List Value} (lX:w.ownsRow 0 e size v m xs) {a:Addr} {k c:Nat} {news:List Value} (hl:news.length=k*size) (B6:∀j u,news[j]?=aj u->w.cell? (a.add j)=aj u) (h1:∀u∈news,u.oneCell'=aD)
 (qX:m+k<=maxLen) (Jk:(m+k)*bytes<=140737488355328):
 ∃v' w',(uo #[t,t] ty #[v,av (aj a) k c]).run P w= .ok v' w'/\w'.ownsRow 0 e size v' (m+k) (xs++news)/\w.grownBy w' v.ownBlock/\(∀q,v'.ownBlock=aj q->v.ownBlock=aj q\/w.heap.size<=q):=by
 obtain⟨v',w',hr,h2,h3,h4⟩:=run_append_own (P:=P) w 0 t ty e i z size bytes ht hi hz nT PB PC hsz v m xs lX a k c news hl B6 h1 qX Jk (bH _);refine⟨v',w',hr,h2,h3,λq hq=>?_⟩;have ahH:((m+k:Nat):Int)<=9223372036854775807:=by grind[maxLen]
 rcases lX.2 with⟨rfl,rfl⟩|⟨g,cap,kU,rfl,A7,hg,hnc,LH,hcs,B7⟩
 ·by_cases hk:k=0
  simp_all;have tV:=run_append_nil (P:=P) w t ty e i z ht hi hz a k c news (by simp_all) B6 J J (by grind);rw[hr]at tV;injection tV with e1 _
  subst e1;simp only[sC,dL]at hq;exact .inr J
 ·by_cases hroom:m+k<=cap
  ·have Jl:m*i.size+news.length<=kU.size:=by rw[hl,hcs,nT,<-nv];exact x8 _ hroom
   have tV:=run_append_room (P:=P) w t ty e i ht hi g m cap kU hg a k c news (by simp_all) B6 h1 hroom Jl;rw[hr]at tV;injection tV with e1 _
   subst e1;exact .inl hq
  have holds:∀j u,xs[j]?=aj u->w.cell? ((⟨g,0,ak⟩:Addr).add j)=aj u:=lX.cells (g:=g) I;have tV:=run_append_grow (P:=P) w t ty e i z ht hi hz ⟨g,0,ak⟩ m cap xs (by rw[nT];exact lX.1) holds a k c news (by simp_all) B6 J J (growslice_fits J (by simp_all));rw[hr]at tV;injection tV with e1 _
  subst e1;simp only[sC,dL]at hq;exact .inr J
structure El(P:Program)(t e:TypeId)(size bytes:Nat):Prop where
 ex:∃i z,P.underlying t=aj (.slice e)/\P.info? e=aj i/\i.zero=aj z/\i.size=size/\i.bytes=bytes/\z.cells.size=size/\0<size
def elB(P:Program)(t e:TypeId)(size bytes:Nat):Bool:=
 (match P.underlying t with|some (.slice e')=>fU e' e|_=>aF)&&(match P.info? e with|some i=>fU i.size size&&fU i.bytes bytes&&(match i.zero with|some z=>fU z.cells.size size|none=>aF)|none=>aF)&&dq 0 size
theorem El.of{t e:TypeId}{size bytes:Nat}(h:elB P t e size bytes=aD):El P t e size bytes:=by
 unfold elB at h;simp only[fc]at h;obtain⟨⟨h1,h2⟩,h3⟩:=h
 cases e1:P.underlying t with
 |none=>simp_all
 | some d=>
  rw[e1]at h1
  cases d<;>try (cases h1;done)
  rename_i e'
  obtain rfl:=mi h1
  cases e2:P.info? e' with
  |none=>simp_all
  | some i=>
   rw[e2]at h2;simp only[fc]at h2;obtain⟨⟨h4,h5⟩,h6⟩:=h2
   cases e3:i.zero with
   |none=>simp_all
   | some z=>
    rw[e3]at h6;exact⟨i,z,e1,e2,e3,mi h4,mi h5,mi h6,nu h3⟩
theorem Ht{t e:TypeId}{s x:Operand}{i size bytes m k c:Nat}{v:Value}{xs ys:List Value}{a:Addr}(tK:El P t e size bytes)(hi:L[i]?=aj (a_ e size v m xs))(hs:ev fr s=aj v)(hx:ev fr x=aj (av (aj a) k c))
 (hy:∀j u,ys[j]?=aj u->At W L (a.add j) u) (hl:ys.length=k*size) (h1:∀u∈ys,u.oneCell'=aD) (qX:m+k<=140737488355328) (hb:(m+k)*bytes<=140737488355328) (hn:dq d n=aD)
 (h:∀v',TL P n W ops Q rest ((d,v')::fr) (L.set i (a_ e size v' (m+k) (xs++ys)))):
 TL P n W ops Q (⟨aj d,.call {callee:= .builtin .append,args:=#[s,x],argTypes:=#[t,t]},ty,pos,after,ak⟩::rest) fr L:=k8 I λact w hr hm K hK=>by
 obtain⟨inf,z,ht,zj,hz,nT,PB,PC,hsz⟩:=tK.ex;obtain⟨v',w',hrun,h2,h3,h4⟩:=oq (ty:=ty) (c:=c) ht zj hz nT PB PC hsz w (hm.get hi:w.ownsRow 0 e size v m xs) hl (λj u hj=>hy j u hj w hm) h1 (by grind[maxLen]) hb;have e':(execOp act.eval ⟨aj d,.call {callee:= .builtin .append,args:=#[s,x],argTypes:=#[t,t]},ty,pos,after,ak⟩).run P w= .ok (.value v') w':=by
  simp only[me,sv,Ph,ff,lL,hr.ev hs,hr.ev hx,oe,hrun,qU,ph]
 unfold gi;rw[e'];exact hK _ _ ((h v').go _ _ (hr.put hn _) (hm.CN hi h3 h2 h4))
theorem Jm{t e:TypeId}{s x:Operand}{i size bytes m k c:Nat}{v:Value}{xs ys:List Value}{p:Addr}{act:Act}{w:World}(tK:El P t e size bytes)(hi:L[i]?=aj (a_ e size v m xs))(hs:ev fr s=aj v)(hx:ev fr x=aj (av (aj p) k c))
 (hy:∀j u,ys[j]?=aj u->w.cell? (p.add j)=aj u) (hl:ys.length=k*size) (h1:∀u∈ys,u.oneCell'=aD) (qX:m+k<=140737488355328) (hb:(m+k)*bytes<=140737488355328) (hn:dq d n=aD)
 (h:∀v',TL P n W ops Q rest ((d,v')::fr) (L.set i (a_ e size v' (m+k) (xs++ys)))) (hr:na n act fr) (hm:Mem W L w):
 wpList P ops Q (⟨aj d,.call {callee:= .builtin .append,args:=#[s,x],argTypes:=#[t,t]},ty,pos,after,ak⟩::rest) act w:=by
 refine wpList_plain I λK hK=>?_;obtain⟨inf,z,ht,zj,hz,nT,PB,PC,hsz⟩:=tK.ex;obtain⟨v',w',hrun,h2,h3,h4⟩:=oq (ty:=ty) (c:=c) ht zj hz nT PB PC hsz w (hm.get hi:w.ownsRow 0 e size v m xs) hl hy h1 (by grind[maxLen]) hb;have e':(execOp act.eval ⟨aj d,.call {callee:= .builtin .append,args:=#[s,x],argTypes:=#[t,t]},ty,pos,after,ak⟩).run P w= .ok (.value v') w':=by
  simp only[me,sv,Ph,ff,lL,hr.ev hs,hr.ev hx,oe,hrun,qU,ph]
 unfold gi;rw[e'];exact hK _ _ ((h v').go _ _ (hr.put hn _) (hm.CN hi h3 h2 h4))
theorem D5{t e:TypeId}{s x:Operand}{i size bytes m c:Nat}{v:Value}{xs:List Value}(tK:El P t e size bytes)(hi:L[i]?=aj (a_ e size v m xs))(hs:ev fr s=aj v)(hx:ev fr x=aj (av ak 0 c))(hn:dq d n=aD)
 (h:TL P n W ops Q rest ((d,v)::fr) L):
 TL P n W ops Q (⟨aj d,.call {callee:= .builtin .append,args:=#[s,x],argTypes:=#[t,t]},ty,pos,after,ak⟩::rest) fr L:=k8 I λact w hr hm K hK=>by
 obtain⟨inf,z,ht,zj,hz,nT,PB,PC,hsz⟩:=tK.ex;have lX:w.ownsRow 0 e size v m xs:=hm.get hi;have e':(execOp act.eval ⟨aj d,.call {callee:= .builtin .append,args:=#[s,x],argTypes:=#[t,t]},ty,pos,after,ak⟩).run P w= .ok (.value v) w:=by
  rcases lX.2 with⟨rfl,rfl⟩|⟨g,cap,kU,rfl,A7,hg,hnc,LH,hcs,B7⟩
  simp[me,sv,hr.ev hs,hr.ev hx,uo,run_underlying ht,sizeOf,typeInfo,zj,AT,DI];simp[me,sv,hr.ev hs,hr.ev hx,uo,run_underlying ht,sizeOf,typeInfo,zj,AT,DI,loadCells,hnc,storeCells]
 unfold gi;rw[e'];exact hK _ _ (h.go _ _ (hr.put hn _) hm)
theorem uL{t:TypeId}{p x:Operand}{i g off c:Nat}{cs cs':Array Value}{T:TypeId}{agg:Bool}{v:Value}(hT:Ty P t agg c)(hi:L[i]?=aj (aR g cs T))(hp:ev fr p=aj (aK (aj ⟨g,off,ak⟩)))(hx:ev fr x=aj v)(hv:v.cells.size=c)(h1:v.cells.toList.all ft=aD)
 (Jl:off+c<=cs.size) (hcs:cs'=(cs.toList.take off++v.cells.toList++cs.toList.drop (off+c)).toArray) (h:TL P n W ops Q rest fr (L.set i (aR g cs' T))):
 TL P n W ops Q (⟨ak,.store t p x,ty,pos,after,ak⟩::rest) fr L:=k8 I λact w hr hm K hK=>by
 have hg:w.heap[g]?=aj (.cells cs T (0,0)):=hm.get hi;have hst:=run_storeCells_at P g off T v.cells.toList 0 cs w hg (by simp_all) (pq.1 h1);simp only[lO,ul,hv]at hst;rw[<-hcs]at hst;have e':(execOp act.eval ⟨ak,.store t p x,ty,pos,after,ak⟩).run P w= .ok .skip (w.setRow g cs'):=by
  simp[execOp,hr.ev hp,hr.ev hx,O0,xZ,storeVar,hT.size,hv,hst]
 unfold gi;rw[e'];exact hK _ _ (h.go _ _ (hr.uH undef) (hm.CN hi ⟨rfl,rfl,rfl,by simp,λk _ hk=>setRow_other w g k _ (λe=>hk (by subst e;rfl))⟩ (setRow_heap w g cs _ T _ hg) λk hk=> .inl hk))
theorem mA{t:TypeId}{p x:Operand}{i g off c size cap m k:Nat}{xs:List Value}{e:TypeId}{v:Value}(hT:Ty P t aF c)(hi:L[i]?=aj (a_ e size (av (aj ⟨g,0,ak⟩) m cap) k xs))(hp:ev fr p=aj (aK (aj ⟨g,off,ak⟩)))(hx:ev fr x=aj v)(hv:v.cells=#[v])(hc:c=1)(h1:v.oneCell'=aD)
 (Jl:off<xs.length) (h:TL P n W ops Q rest fr (L.set i (a_ e size (av (aj ⟨g,0,ak⟩) m cap) k (xs.set off v)))):
 TL P n W ops Q (⟨ak,.store t p x,ty,pos,after,ak⟩::rest) fr L:=k8 I λact w hr hm K hK=>by
 subst hc;have lX:w.ownsRow 0 e size (av (aj ⟨g,0,ak⟩) m cap) k xs:=hm.get hi;have ahI:=lX;rcases lX.2 with⟨h0,_⟩|⟨g',A3,kU,he,A7,hg,hnc,LH,hcs,B7⟩
 grind
 simp only[jN,dL,OX,and_true]at he;obtain⟨rfl,rfl,rfl⟩:=he;have hlen:xs.length=m*size:=lX.1;have ahJ:off<kU.size:=by grind
 have hst:=run_storeCells_at P g off e [v] 0 kU w hg (by grind) (by simp_all);simp only[lO,List.length_singleton]at hst;have rB:kU.toList.take off++[v]++kU.toList.drop (off+1)=kU.toList.set off v:=by
  simp_all[DN]
 rw[rB]at hst;have e':(execOp act.eval ⟨ak,.store t p x,ty,pos,after,ak⟩).run P w= .ok .skip (w.setRow g (kU.toList.set off v).toArray):=by
  simp[execOp,hr.ev hp,hr.ev hx,O0,xZ,storeVar,hT.size,hv,hst]
 unfold gi;rw[e'];refine hK _ _ (h.go _ _ (hr.uH undef) (hm.CN hi ⟨rfl,rfl,rfl,by simp,λk _ hk=>setRow_other w g k _ (λe=>hk (by subst e;rfl))⟩ ?_ λk hk=> .inl hk));refine⟨by simp_all,.inr ⟨g,cap,_,rfl,A7,setRow_heap w g kU _ e _ hg,hnc,LH,by grind,?_⟩⟩;simp only[List.take_set];rw[B7]
theorem UX{t u e:TypeId}{x:Operand}{m:Nat}{v:Value}{l:List UInt8}(ht:P.underlying t=aj (.slice e))(he:P.underlying e=aj (.int .u8))(hu:P.underlying u=aj .string)(hx:ev fr x=aj v)(hm:m=l.length)(h:SlL W L v m (l.map X9)):RR P n W ⟨dst,.convert t u x,ty,pos,after,guard⟩ fr L (str l):= .mk λa w hr sG=>by
 subst hm;have SG:=hr.ev hx;obtain⟨base,cap,rfl,_,_,eR⟩:=h w sG;have e':(convert t u (av base l.length cap)).run P w= .ok (str l) w:=by
  cases l with
  |nil=>
   cases base with
   |none=>simp[convert,run_underlying ht,run_underlying hu,run_underlying he,XE,str];rfl
   |some p=>simp[convert,run_underlying ht,run_underlying hu,run_underlying he,XE,str,loadCells,loadCellsFrom];rfl
  |cons b l=>
   obtain⟨g,off,rfl,hh⟩:=eR (by simp);exact Lz ht he hu I hh
 simp_all[execOp]
end
def Enters(P:Program)(f:FuncId):Prop:=∀args w,(callFunc f args).run P w= .ok (.enter f args) w
def SI(P:Program)(f:FuncId):Bool:=match P.funcs[f]? with|some fn=>fn.body.isSome&&!(fn.name== "runtime.NumGoroutine")|none=>aF
theorem Enters.of{f:FuncId}(h:SI P f=aD):Enters P f:=by
 unfold SI at h
 cases e:P.funcs[f]? with
 |none=>simp_all
 |some fn=>
  rw[e]at h;simp only[fc,AR]at h;intro args w;have h1:¬fn.body=none:=λhb=>by simp_all
  simp_all[callFunc]
section
variable{f:FuncId}{ts:Array TypeId}{cl x1 x2 x3 x4 x5:Operand}{v1 v2 v3 v4 v5:Value}{first cap:Array Value}
theorem he0(hf:Enters P f)(hc:ev fr cl=aj (.func (.func f) #[] #[])):∀a w,na n a fr->(execOp a.eval ⟨dst,.call {callee:= .value cl,args:=#[],argTypes:=ts},ty,pos,after,guard⟩).run P w= .ok (.enter f #[]) w:=λa w hr=>by
 have C9:∀args w,(callFunc f args).run P w= .ok (.enter f args) w:=hf;simp[execOp,resolve,hr.ev hc,AU,invoke,C9]
theorem ja(hf:Enters P f)(hc:ev fr cl=aj (.func (.func f) #[] #[]))(h1:ev fr x1=aj v1):∀a w,na n a fr->(execOp a.eval ⟨dst,.call {callee:= .value cl,args:=#[x1],argTypes:=ts},ty,pos,after,guard⟩).run P w= .ok (.enter f #[v1]) w:=λa w hr=>by
 have C9:∀args w,(callFunc f args).run P w= .ok (.enter f args) w:=hf;simp[execOp,resolve,hr.ev hc,hr.ev h1,AU,invoke,C9]
theorem fC(hf:Enters P f)(hc:ev fr cl=aj (.func (.func f) #[] #[]))(h1:ev fr x1=aj v1)(h2:ev fr x2=aj v2):∀a w,na n a fr->(execOp a.eval ⟨dst,.call {callee:= .value cl,args:=#[x1,x2],argTypes:=ts},ty,pos,after,guard⟩).run P w= .ok (.enter f #[v1,v2]) w:=λa w hr=>by
 have C9:∀args w,(callFunc f args).run P w= .ok (.enter f args) w:=hf;simp[execOp,resolve,hr.ev hc,hr.ev h1,hr.ev h2,AU,invoke,C9]
theorem qq(hf:Enters P f)(hc:ev fr cl=aj (.func (.func f) #[] #[]))(h1:ev fr x1=aj v1)(h2:ev fr x2=aj v2)(h3:ev fr x3=aj v3):∀a w,na n a fr->(execOp a.eval ⟨dst,.call {callee:= .value cl,args:=#[x1,x2,x3],argTypes:=ts},ty,pos,after,guard⟩).run P w= .ok (.enter f #[v1,v2,v3]) w:=λa w hr=>by
 have C9:∀args w,(callFunc f args).run P w= .ok (.enter f args) w:=hf;simp[execOp,resolve,hr.ev hc,hr.ev h1,hr.ev h2,hr.ev h3,AU,invoke,C9]
theorem Ln(hf:Enters P f)(hc:ev fr cl=aj (.func (.func f) #[] #[]))(h1:ev fr x1=aj v1)(h2:ev fr x2=aj v2)(h3:ev fr x3=aj v3)(h4:ev fr x4=aj v4):∀a w,na n a fr->(execOp a.eval ⟨dst,.call {callee:= .value cl,args:=#[x1,x2,x3,x4],argTypes:=ts},ty,pos,after,guard⟩).run P w= .ok (.enter f #[v1,v2,v3,v4]) w:=λa w hr=>by
 have C9:∀args w,(callFunc f args).run P w= .ok (.enter f args) w:=hf;simp[execOp,resolve,hr.ev hc,hr.ev h1,hr.ev h2,hr.ev h3,hr.ev h4,AU,invoke,C9]
theorem CO(hf:Enters P f)(hc:ev fr cl=aj (.func (.func f) first cap))(h1:ev fr x1=aj v1):∀a w,na n a fr->(execOp a.eval ⟨dst,.call {callee:= .value cl,args:=#[x1],argTypes:=ts},ty,pos,after,guard⟩).run P w= .ok (.enter f (first++#[v1]++cap)) w:=λa w hr=>by
 have C9:∀args w,(callFunc f args).run P w= .ok (.enter f args) w:=hf;simp[execOp,resolve,hr.ev hc,hr.ev h1,AU,invoke,C9]
end
end
class bQ(P:Program)(t:TypeId)(d:outParam TypeDesc):Prop where
 eq:P.underlying t=aj d
class aL(P:Program)(t:TypeId)(agg:outParam Bool)(c:outParam Nat):Prop where
 ty:Ty P t agg c:=by exact Ty.of (by kernel_rfl)
class dI(P:Program)(t:TypeId)(f:Nat)(o:outParam Nat):Prop where
 fld:Fld P t f o:=by exact Fld.of (by kernel_rfl)
class rC(P:Program)(t:TypeId)(e:outParam TypeId)(size bytes:outParam Nat):Prop where
 el:El P t e size bytes:=by exact El.of (by kernel_rfl)
class aJ(P:Program)(f:FuncId):Prop where
 en:Enters P f:=by exact Enters.of (by kernel_rfl)
class eU(P:Program)(t:TypeId)(cs:outParam (Array Value)):Prop where
 zero:(P.info? t).map (λi=>i.zero.map Value.cells)=aj (aj cs):=by kernel_rfl
section
variable{P:Program}{n:Nat}{W:bP}{fr:Fr}{L:List b9}{Q:Exit->Act->World->Prop}{ops:Array Oper}{rest:List Oper}{d:Nat}{ty:TypeId}{pos:String}{after:Array Edge}
theorem eU.ex{t:TypeId}{cs:Array Value}[h:eU P t cs]:∃i z,P.info? t=aj i/\i.zero=aj z/\z.cells=cs:=by
 have h1:=h.zero
 simp_all
theorem a8{t:TypeId}{cs:Array Value}[eU P t cs](hn:dq d n=aD)(h:∀g,TL P n W ops Q rest ((d,aK (aj ⟨g,0,ak⟩))::fr) (L++[aR g cs t])):
 TL P n W ops Q (⟨aj d,.alloc t,ty,pos,after,ak⟩::rest) fr L:=by
 obtain⟨i,z,h1,h2,h3⟩:=eU.ex (P:=P) (t:=t);exact Yo h1 h2 h3 hn h
theorem fO{t e:TypeId}{x:Operand}{v:Value}{c bytes:Nat}{cs:Array Value}[tK:rC P t e c bytes](hx:ev fr x=aj v)(hcs:v.cells=cs)(hv:cs.size=c)(hs:x9 c 16777216=aD)(hn:dq d n=aD)
 (h:∀g,TL P n W ops Q rest ((d,av (aj ⟨g,0,ak⟩) 1 1)::fr) (L++[aR g cs e])):TL P n W ops Q (⟨aj d,.buildSlice t 1 #[(0,x)],ty,pos,after,ak⟩::rest) fr L:=by
 obtain⟨inf,z,ht,zj,hz,nT,PB,PC,hsz⟩:=tK.el.ex;exact acJ ht zj hz nT PC hx hcs hv hsz (nu hs) hn h
theorem Mem.PD{w:World}(e:TypeId)(size:Nat)(h:Mem W L w):Mem W (L++[a_ e size (av ak 0 0) 0 []]) w:=
 h.append (Gr.refl w) (ny.one (World.ownsRow_nil _ _ _ _) λk hk=>by cases hk)
theorem iz{c:Code}(e:TypeId)(size:Nat)(h:T P n W c Q fr (L++[a_ e size (av ak 0 0) 0 []])):T P n W c Q fr L:=⟨λa w hr hm=>h.go a w hr (hm.PD e size)⟩
theorem rD(e:TypeId)(size:Nat)(h:TL P n W ops Q rest fr (L++[a_ e size (av ak 0 0) 0 []])):TL P n W ops Q rest fr L:=⟨λa w hr hm=>h.go a w hr (hm.PD e size)⟩
theorem acK{L':List b9}(is:List Nat)(hn:is.Nodup)(hl:L'=is.filterMap λi=>L[i]?)(h:TL P n W ops Q rest fr L'):TL P n W ops Q rest fr L:=⟨λa w hr hm=>h.go a w hr (hm.pick is hn hl)⟩
theorem mN{t e:TypeId}{s x:Operand}{i q g size bytes m:Nat}{v:Value}{xs:List Value}{cs:Array Value}{T:TypeId}[tK:rC P t e size bytes](hi:L[i]?=aj (a_ e size v m xs))(hq:L[q]?=aj (aR g cs T))(hs:ev fr s=aj v)(hx:ev fr x=aj (av (aj ⟨g,0,ak⟩) 1 1))
 (hl:cs.size=size) (h1:cs.toList.all ft=aD) (qX:m+1<=140737488355328) (hb:(m+1)*bytes<=140737488355328) (hn:dq d n=aD)
 (h:∀v',TL P n W ops Q rest ((d,v')::fr) (L.set i (a_ e size v' (m+1) (xs++cs.toList)))):
 TL P n W ops Q (⟨aj d,.call {callee:= .builtin .append,args:=#[s,x],argTypes:=#[t,t]},ty,pos,after,ak⟩::rest) fr L:=
 Ht tK.el hi hs hx (λj u hj=>by rw[cL.eS,cX];exact aI hq (by simpa using hj)) (by simp_all) (pq.1 h1) qX hb hn h
theorem lZ{t e:TypeId}{s x:Operand}{i q g bytes m:Nat}{v u:Value}{xs:List Value}{cs:Array Value}{T:TypeId}[tK:rC P t e 1 bytes](hi:L[i]?=aj (a_ e 1 v m xs))(hq:L[q]?=aj (aR g cs T))(hs:ev fr s=aj v)(hx:ev fr x=aj (av (aj ⟨g,0,ak⟩) 1 1))
 (hu:cs=#[u]) (h1:u.oneCell'=aD) (qX:m+1<=140737488355328) (hb:(m+1)*bytes<=140737488355328) (hn:dq d n=aD)
 (h:∀v',TL P n W ops Q rest ((d,v')::fr) (L.set i (a_ e 1 v' (m+1) (xs++[u])))):
 TL P n W ops Q (⟨aj d,.call {callee:= .builtin .append,args:=#[s,x],argTypes:=#[t,t]},ty,pos,after,ak⟩::rest) fr L:=by
 subst hu;exact mN hi hq hs hx I (by grind) qX hb hn h
theorem eP.front{p:Nat->Prop}{w:World}{L L':List b9}(h:eP p w (L++L')):eP p w L:=
  ⟨λi o hi=>h.all i o (by grind),
   λi j o o' tL hi hj=>h.apart i j o o' tL (by grind) (by grind)⟩
theorem Mem.front{w:World}{L L':List b9}(h:Mem W (L++L') w):Mem W L w:=⟨h.low,h.owns.front⟩
theorem LI{L':List b9}(h:TL P n W ops Q rest fr L):TL P n W ops Q rest fr (L++L'):=⟨λa w hr hm=>h.go a w hr hm.front⟩
theorem iA{t e:TypeId}{s x:Operand}{i bytes m d':Nat}{v u:Value}{xs:List Value}{ty':TypeId}{pos':String}{PE:Array Edge}[tK:rC P t e 1 bytes](hi:L[i]?=aj (a_ e 1 v m xs))(hx:ev fr x=aj u)(hu:u.cells=#[u])(h1:u.oneCell'=aD)(hn':dq d' n=aD)
 (hs:ev ((d',undef)::fr) s=aj v) (hne:∀z,s= .tmp z->fU d' z=aF) (qX:m+1<=140737488355328) (hb:(m+1)*bytes<=140737488355328) (hn:dq d n=aD)
 (h:∀z v',TL P n W ops Q rest ((d,v')::(d',z)::fr) (L.set i (a_ e 1 v' (m+1) (xs++[u])))):
 TL P n W ops Q (⟨aj d',.buildSlice t 1 #[(0,x)],ty',pos',PE,ak⟩::⟨aj d,.call {callee:= .builtin .append,args:=#[s,.tmp d'],argTypes:=#[t,t]},ty,pos,after,ak⟩::rest) fr L:=by
 have hil:i<L.length:=(dX.1 hi).1;have xE:∀z,ev ((d',z)::fr) s=aj v:=λz=>by
  cases s with
  |tmp q=>simp_all[ev,look]
  |const q=>exact hs
  |global q=>exact hs
  |func q=>exact hs
 refine fO hx hu I I hn' λg=>?_;refine mN (i:=i) (q:=L.length) (by rw[mg hil];exact hi) (Pc) (xE _) (by simp[ev,look]) I (by grind) qX hb hn λv'=>?_;rw[XY _ _ hil];exact LI (h _ v')
theorem jR{t e:TypeId}{s x:Operand}{i c bytes m d':Nat}{v:Value}{cs:Array Value}{xs:List Value}{ty':TypeId}{pos':String}{PE:Array Edge}[tK:rC P t e c bytes](hi:L[i]?=aj (a_ e c v m xs))(hx:ev fr x=aj (.agg cs))(hc:cs.size=c)(W_:x9 c 16777216=aD)(h1:cs.toList.all ft=aD)(hn':dq d' n=aD)
 (hs:ev ((d',undef)::fr) s=aj v) (hne:∀z,s= .tmp z->fU d' z=aF) (qX:m+1<=140737488355328) (hb:(m+1)*bytes<=140737488355328) (hn:dq d n=aD)
 (h:∀z v',TL P n W ops Q rest ((d,v')::(d',z)::fr) (L.set i (a_ e c v' (m+1) (xs++cs.toList)))):
 TL P n W ops Q (⟨aj d',.buildSlice t 1 #[(0,x)],ty',pos',PE,ak⟩::⟨aj d,.call {callee:= .builtin .append,args:=#[s,.tmp d'],argTypes:=#[t,t]},ty,pos,after,ak⟩::rest) fr L:=by
 have hil:i<L.length:=(dX.1 hi).1;have xE:∀z,ev ((d',z)::fr) s=aj v:=λz=>by
  cases s with
  |tmp q=>simp_all[ev,look]
  |const q=>exact hs
  |global q=>exact hs
  |func q=>exact hs
 refine fO hx I hc W_ hn' λg=>?_;refine mN (i:=i) (q:=L.length) (by rw[mg hil];exact hi) (Pc) (xE _) (by simp[ev,look]) hc h1 qX hb hn λv'=>?_;rw[XY _ _ hil];exact LI (h _ v')
theorem dJ{e':Exit}(e:TypeId)(size:Nat)(h:E n W e' Q fr (L++[a_ e size (av ak 0 0) 0 []])):E n W e' Q fr L:=⟨λa w hr hm=>h.go a w hr (hm.PD e size)⟩
def cD(e:TypeId)(size m:Nat)(xs:List Value)(f:Value->Value):Spec Value:=⟨λ_=>True,f,λv=>[a_ e size v m xs]⟩
end
def Yr(fr:Fr):Op->Option Value
 | .move x=>ev fr x
 | .assign x=>ev fr x
 | .extract t i=>match ev fr t with
  |some (.tuple vs)=>vs[i]?
  |_=>ak
 | .pick c x y=>match ev fr c with
  |some (.bool aD)=>ev fr x
  |some (.bool aF)=>ev fr y
  |_=>ak
 | .unOp .not _ x=>match ev fr x with
  |some (.bool aD)=>aj (.bool aF)
  |some (.bool aF)=>aj (.bool aD)
  |_=>ak
 |_=>ak
section
variable{P:Program}{n:Nat}{W:bP}{fr:Fr}{L:List b9}{dst:Option Tmp}{ty:TypeId}{pos:String}{after:Array Edge}{guard:Option (Nat×Bool)}
theorem qp{op:Op}{v:Value}(h:Yr fr op=aj v):RR P n W ⟨dst,op,ty,pos,after,guard⟩ fr L v:=by
 unfold Yr at h;split at h;exact wW h;exact UQ h
 grind[Py]
 grind[Yj,Yk]
 ·split at h
  ·rename_i e
   simp only[dL]at h;subst h;exact Jj e I
  ·rename_i e
   simp only[dL]at h;subst h;exact Jj e I
  cases h
 cases h
end
section
variable{P:Program}{n:Nat}{W:bP}{fr:Fr}{L:List b9}{Q:Exit->Act->World->Prop}{ops:Array Oper}{rest:List Oper}{d:Nat}{o:Oper}{v:Value}
theorem qg{q e:Nat}{b:Bool}(hg:o.guard=aj (q,b))(hj:(ops[q]?).bind (·.dst)=aj e)(hl:look fr e=aj (.bool b))(h:TL P n W ops Q ({o with guard:=ak}::rest) fr L):TL P n W ops Q (o::rest) fr L:=C' hg hj hl h
theorem qs{j e:Nat}{b:Bool}{u:Value}(hg:o.guard=aj (j,b))(hj:(ops[j]?).bind (·.dst)=aj e)(hl:look fr e=aj u)(hu:acF b u=aD)(hd:o.dst=aj d)(hn:dq d n=aD)(h:TL P n W ops Q rest ((d,undef)::fr) L):TL P n W ops Q (o::rest) fr L:=acG hg hj hl hu hd hn h
theorem qcT{c:Operand}{x y:Code}(hc:ev fr c=aj (.bool aD))(h:T P n W x Q fr L):T P n W (.cond c x y) Q fr L:=Jf hc h
theorem qcF{c:Operand}{x y:Code}(hc:ev fr c=aj (.bool aF))(h:T P n W y Q fr L):T P n W (.cond c x y) Q fr L:=Jg hc h
theorem qT{p:Prop}[inst:Decidable p](h:p):decide p=true:=decide_eq_true h
theorem qF{p:Prop}[inst:Decidable p](h:¬p):decide p=false:=decide_eq_false h
variable{dst:Option Tmp}{ty:TypeId}{pos:String}{after:Array Edge}{guard:Option (Nat×Bool)}
theorem acL{t e:TypeId}{x:Operand}{p:Option Addr}{m cap:Nat}(ht:P.underlying t=aj (.slice e))(hx:ev fr x=aj (av p m cap)):RR P n W ⟨dst,.call {callee:= .builtin .len,args:=#[x],argTypes:=#[t]},ty,pos,after,guard⟩ fr L (az aB m):=Pz ht hx
theorem ahK{s:TypeId}{x:Operand}{f o b off r:Nat}(hf:Fld P s f o)(hx:ev fr x=aj (aK (aj ⟨b,off,ak⟩)))(hr:off+o=r):RR P n W ⟨dst,.fieldAddr s x f,ty,pos,after,guard⟩ fr L (aK (aj ⟨b,r,ak⟩)):=LG hf hx hr
end
section
variable{P:Program}{n:Nat}{W:bP}{fr:Fr}{L:List b9}{Q:Exit->Act->World->Prop}{ops:Array Oper}{rest:List Oper}{d:Nat}{o:Oper}{v:Value}{dst:Option Tmp}{ty:TypeId}{pos:String}{after:Array Edge}{guard:Option (Nat×Bool)}{t u:TypeId}{x y:Operand}{k:IntKind}{m m':Int}
theorem QV(hr:RR P n W o fr L v)(h:TL P n W ops Q rest ((d,v)::fr) L)(hg:o.guard=none:=by exact I)(hd:o.dst=aj d:=by exact I)(hn:dq d n=true:=by exact I):TL P n W ops Q (o::rest) fr L:=dm hr hg hd hn h
theorem QP{op:Op}(h:Yr fr op=aj v:=by exact I):RR P n W ⟨dst,op,ty,pos,after,guard⟩ fr L v:=qp h
theorem QS{l:List UInt8}(hx:ev fr x=aj (str l):=by exact I)(ht:P.underlying t=aj .string:=by exact bQ.eq):RR P n W ⟨dst,.call {callee:= .builtin .len,args:=#[x],argTypes:=#[t]},ty,pos,after,guard⟩ fr L (az aB l.length):=US ht hx
theorem QL{e:TypeId}{p:Option Addr}{m cap:Nat}(hx:ev fr x=aj (av p m cap):=by exact I)(ht:P.underlying t=aj (.slice e):=by exact bQ.eq):RR P n W ⟨dst,.call {callee:= .builtin .len,args:=#[x],argTypes:=#[t]},ty,pos,after,guard⟩ fr L (az aB m):=acL ht hx
theorem QA{s:TypeId}{f o b off r:Nat}(hx:ev fr x=aj (aK (aj ⟨b,off,ak⟩)):=by exact I)(hf:Fld P s f o:=by exact dI.fld)(hr:off+o=r:=by exact I):RR P n W ⟨dst,.fieldAddr s x f,ty,pos,after,guard⟩ fr L (aK (aj ⟨b,r,ak⟩)):=LG hf hx hr
theorem QlT(hx:ev fr x=aj (.int k m):=by exact I)(hy:ev fr y=aj (.int k m'):=by exact I)(h:m<m':=by omega):RR P n W ⟨dst,.binOp .lss t x y u,ty,pos,after,guard⟩ fr L (.bool aD):=ez hx hy (decide_eq_true h)
theorem QlF(hx:ev fr x=aj (.int k m):=by exact I)(hy:ev fr y=aj (.int k m'):=by exact I)(h:¬(m<m'):=by omega):RR P n W ⟨dst,.binOp .lss t x y u,ty,pos,after,guard⟩ fr L (.bool aF):=ez hx hy (decide_eq_false h)
theorem QmT(hx:ev fr x=aj (.int k m):=by exact I)(hy:ev fr y=aj (.int k m'):=by exact I)(h:m<=m':=by omega):RR P n W ⟨dst,.binOp .leq t x y u,ty,pos,after,guard⟩ fr L (.bool aD):=ye hx hy (decide_eq_true h)
theorem QmF(hx:ev fr x=aj (.int k m):=by exact I)(hy:ev fr y=aj (.int k m'):=by exact I)(h:¬(m<=m'):=by omega):RR P n W ⟨dst,.binOp .leq t x y u,ty,pos,after,guard⟩ fr L (.bool aF):=ye hx hy (decide_eq_false h)
theorem QgT(hx:ev fr x=aj (.int k m):=by exact I)(hy:ev fr y=aj (.int k m'):=by exact I)(h:m'<m:=by omega):RR P n W ⟨dst,.binOp .gtr t x y u,ty,pos,after,guard⟩ fr L (.bool aD):=dW hx hy (decide_eq_true h)
theorem QgF(hx:ev fr x=aj (.int k m):=by exact I)(hy:ev fr y=aj (.int k m'):=by exact I)(h:¬(m'<m):=by omega):RR P n W ⟨dst,.binOp .gtr t x y u,ty,pos,after,guard⟩ fr L (.bool aF):=dW hx hy (decide_eq_false h)
theorem QhT(hx:ev fr x=aj (.int k m):=by exact I)(hy:ev fr y=aj (.int k m'):=by exact I)(h:m'<=m:=by omega):RR P n W ⟨dst,.binOp .geq t x y u,ty,pos,after,guard⟩ fr L (.bool aD):=fu hx hy (decide_eq_true h)
theorem QhF(hx:ev fr x=aj (.int k m):=by exact I)(hy:ev fr y=aj (.int k m'):=by exact I)(h:¬(m'<=m):=by omega):RR P n W ⟨dst,.binOp .geq t x y u,ty,pos,after,guard⟩ fr L (.bool aF):=fu hx hy (decide_eq_false h)
theorem QeT(hx:ev fr x=aj (.int k m):=by exact I)(hy:ev fr y=aj (.int k m'):=by exact I)(h:m=m':=by omega):RR P n W ⟨dst,.binOp .eql t x y u,ty,pos,after,guard⟩ fr L (.bool aD):=cY hx hy (decide_eq_true h)
theorem QeF(hx:ev fr x=aj (.int k m):=by exact I)(hy:ev fr y=aj (.int k m'):=by exact I)(h:¬(m=m'):=by omega):RR P n W ⟨dst,.binOp .eql t x y u,ty,pos,after,guard⟩ fr L (.bool aF):=cY hx hy (decide_eq_false h)
theorem QnT(hx:ev fr x=aj (.int k m):=by exact I)(hy:ev fr y=aj (.int k m'):=by exact I)(h:m≠m':=by omega):RR P n W ⟨dst,.binOp .neq t x y u,ty,pos,after,guard⟩ fr L (.bool aD):=dc hx hy (decide_eq_true h)
theorem QnF(hx:ev fr x=aj (.int k m):=by exact I)(hy:ev fr y=aj (.int k m'):=by exact I)(h:¬(m≠m'):=by omega):RR P n W ⟨dst,.binOp .neq t x y u,ty,pos,after,guard⟩ fr L (.bool aF):=dc hx hy (decide_eq_false h)
theorem QaA{r:Int}(hx:ev fr x=aj (az aB m):=by exact I)(hy:ev fr y=aj (az aB m'):=by exact I)(h0: -9223372036854775808<=m+m':=by omega)(h1:m+m'<=9223372036854775807:=by omega)(hr:m+m'=r:=by exact I):RR P n W ⟨dst,.binOp .add t x y u,ty,pos,after,guard⟩ fr L (az aB r):=fl hx hy h0 h1 hr
theorem QaS{r:Int}(hx:ev fr x=aj (az aB m):=by exact I)(hy:ev fr y=aj (az aB m'):=by exact I)(h0: -9223372036854775808<=m-m':=by omega)(h1:m-m'<=9223372036854775807:=by omega)(hr:m-m'=r:=by exact I):RR P n W ⟨dst,.binOp .sub t x y u,ty,pos,after,guard⟩ fr L (az aB r):=eT hx hy h0 h1 hr
theorem QaM{r:Int}(hx:ev fr x=aj (az aB m):=by exact I)(hy:ev fr y=aj (az aB m'):=by exact I)(h0: -9223372036854775808<=m*m':=by omega)(h1:m*m'<=9223372036854775807:=by omega)(hr:m*m'=r:=by exact I):RR P n W ⟨dst,.binOp .mul t x y u,ty,pos,after,guard⟩ fr L (az aB r):=Yl hx hy h0 h1 hr
end
class Cd(p:Prop)(q:outParam Prop):Prop where
 go:q->p
theorem QZ{p q:Prop}[h:Cd p q](x:q):p:=h.go x
section
variable{P:Program}{n:Nat}{W:bP}{fr:Fr}{L:List b9}{Q:Exit->Act->World->Prop}{ops:Array Oper}{x y:Code}{id:Nat}{l:List Oper}{K:Act->World->Prop}
instance:Cd (TL P n W ops Q [] fr L) (E n W .normal Q fr L):=⟨yc⟩
instance:Cd (T P n W (x.seq y) Q fr L) (T P n W x (Exit.then (y.wp P Q) Q) fr L):=⟨cB⟩
instance:Cd (T P n W (.region id l.toArray aF) Q fr L) (TL P n W l.toArray Q l fr L):=⟨bD⟩
instance:Cd (T P n W .skip Q fr L) (E n W .normal Q fr L):=⟨afJ⟩
instance:Cd (T P n W (.exit id) Q fr L) (E n W (.exit id) Q fr L):=⟨afK⟩
instance:Cd (T P n W .ret Q fr L) (E n W .ret Q fr L):=⟨ahF⟩
instance:Cd (T P n W (.block id x) Q fr L) (T P n W x (uu id Q) fr L):=⟨acC⟩
instance:Cd (E n W .normal (Exit.then (y.wp P Q) Q) fr L) (T P n W y Q fr L):=⟨DW⟩
instance:Cd (E n W (.exit id) (Exit.then K Q) fr L) (E n W (.exit id) Q fr L):=⟨acD⟩
instance:Cd (E n W .ret (Exit.then K Q) fr L) (E n W .ret Q fr L):=⟨acE⟩
instance:Cd (E n W .normal (uu id Q) fr L) (E n W .normal Q fr L):=⟨Yc⟩
instance:Cd (E n W .ret (uu id Q) fr L) (E n W .ret Q fr L):=⟨Yd⟩
end
section
variable{α β:Type}
theorem zA{a:α}{l m:List α}:a::l++m=a::(l++m):=rfl
theorem zB{l:List α}:[]++l=l:=rfl
theorem zC{l:List α}:l++[]=l:=dY l
theorem zD{f:α->Option β}{a:α}{l:List α}:uB f (a::l)=match f a with
 |none=>uB f l
 |some b=>b::uB f l:=List.filterMap_cons
theorem zE{f:α->Option β}:uB f []=[]:=rfl
theorem zF{a:α}{l:List α}{i:Nat}:(a::l)[i+1]?=l[i]?:=XV
theorem zG{a:α}{l:List α}:(a::l)[0]?=aj a:=rfl
theorem zH{a b:α}{l:List α}:(a::l).set 0 b=b::l:=rfl
theorem zI{a b:α}{l:List α}{i:Nat}:(a::l).set (i+1) b=a::l.set i b:=rfl
end
section
variable{P:Program}{n:Nat}{W:bP}{fr:Fr}{L:List b9}{Q:Exit->Act->World->Prop}{ops:Array Oper}{rest:List Oper}{d:Nat}{dst:Option Tmp}{ty:TypeId}{pos:String}{after:Array Edge}{guard:Option (Nat×Bool)}
def sJ(fr:Fr):List (Nat×Operand)->Option (List (Nat×Value))
 |[]=>aj []
 |(i,x)::r=>match ev fr x,sJ fr r with|some v,aj l=>aj ((i,v)::l)|_,_=>ak
theorem sK{a:Act}(hr:na n a fr):∀(l:List (Nat×Operand)) (vs:List (Nat×Value)),sJ fr l=aj vs->l.map (λ(i,x)=>(i,a.eval x))=vs
 |[],vs,h=>by simp_all[sJ]
 | (i,x)::r,vs,h=>by
  simp only[sJ]at h;split at h
  ·rename_i v l h1 h2
   simp only[dL]at h;subst h;simp[hr.ev h1,sK hr r l h2]
  cases h
theorem bB{t:TypeId}{parts:Array (Nat×Operand)}{ps:List (Nat×Value)}{cs:Array Value}(hp:sJ fr parts.toList=aj ps)(hrun:∀w,(dg t ps.toArray).run P w= .ok (.agg cs) w):RR P n W ⟨dst,.build t parts,ty,pos,after,guard⟩ fr L (.agg cs):= .mk λa w hr _=>by
 have e:(parts.map λ(i,x)=>(i,a.eval x))=ps.toArray:=by
  grind[sK,DF]
 simp_all[execOp]
theorem LJ(c0:Nat->Option (Nat×Nat))(Gq:∀i,c0 i=aj (i,1)):∀(vs:List Value) (k:Nat) (acc:Array Value),k+vs.length<=acc.size->(∀v∈vs,v.cells=#[v])->jv c0 acc ((vs.zipIdx k).map λ(v,i)=>(i,v))=aj (acc.toList.take k++vs++acc.toList.drop (k+vs.length)).toArray
 |[],k,acc,h,_=>by simp[jv]
 | v ::vs,k,acc,h,h1=>by
  simp only[dj]at h;have hv:=h1 v (by simp);rw[Pg,ff];simp only[jv,Gq,hv];rw[if_neg (by grind)];have e:((#[v]:Array Value).zipIdx.foldl (λcs (x:Value×Nat)=>cs.setIfInBounds (k+x.2) x.1) acc)=acc.setIfInBounds k v:=by simp
  rw[e,LJ c0 Gq vs (k+1) _ (by grind) (λu hu=>h1 u (by grind))]
  congr 2
  have hA:(acc.toList.take k).length=k:=by grind
  have hA1:(acc.toList.take k++[v]).length=k+1:=by simp_all
  have e2:acc.toList.set k v=(acc.toList.take k++[v])++acc.toList.drop (k+1):=by
   rw[DN,if_pos (by grind)];simp
  simp only[I3,dj];rw[e2,Pk hA1,<-nt,Pl hA1,nt];simp only[eY,kD,e7];rw[show k+1+vs.length=k+(vs.length+1)by omega]
theorem Ys{t e:TypeId}{bytes:Nat}(tK:El P t e 1 bytes)(vs:List Value)(h1:∀v∈vs,v.cells=#[v])(h0:0<vs.length)(hm:vs.length<=16777216)(w:World):
 (uv t vs.length (vs.zipIdx.map λ(v,i)=>(i,v)).toArray).run P w= .ok (av (aj ⟨w.heap.size,0,ak⟩) vs.length vs.length) (w.alloc (.cells vs.toArray e)):=by
 obtain⟨i,z,ht,hi,hz,hc,_,hzc,_⟩:=tK.ex;have uK:=LJ (λi=>aj (i*1,1)) (by simp) vs 0 ((DG (vs.length*1)).map (z.cells[· %z.cells.size]!)) (by simp) h1
 simp only[uD,e7,cX]at uK;rw[jx (by simp)]at uK;simp only[dY]at uK;have hne:¬(vs.length*1>2^24):=by omega
 have Yq:¬(vs.length*1=0):=by omega
 simp only[uv,oe,run_underlying ht,qU,sizeOf,typeInfo,run_program,hi,ph,hc,zeroValue,hz,if_neg hne,if_neg Yq];simp only[uK,newRow];simp
theorem SJ{t e:TypeId}{bytes m:Nat}{parts:Array (Nat×Operand)}(vs:List Value)[tK:rC P t e 1 bytes](hp:sJ fr parts.toList=aj (vs.zipIdx.map λ(v,i)=>(i,v)))(hm:vs.length=m)(h0:dq 0 m=aD)(h1:∀v∈vs,v.cells=#[v])(hs:x9 m 16777216=aD)(hn:dq d n=aD)
 (h:∀g,TL P n W ops Q rest ((d,av (aj ⟨g,0,ak⟩) m m)::fr) (L++[aR g vs.toArray e])):TL P n W ops Q (⟨aj d,.buildSlice t m parts,ty,pos,after,ak⟩::rest) fr L:=by
 subst hm;refine PA (λa w hr=>?_) hn h;have e:(parts.map λ(i,x)=>(i,a.eval x))=(vs.zipIdx.map λ(v,i)=>(i,v)).toArray:=by
  grind[sK,DF]
 rw[e];exact Ys tK.el vs h1 (nu h0) (nu hs) w
theorem Mem.ahL{w:World}{i g m size:Nat}{cs:Array Value}{e:TypeId}(h:Mem W L w)(hi:L[i]?=aj (aR g cs e))(hc:cs.size=m*size)(hm:m<=140737488355328):Mem W (L.set i (a_ e size (av (aj ⟨g,0,ak⟩) m m) m cs.toList)) w:=
 h.CN hi ⟨rfl,rfl,rfl,bC _,λ_ _ _=>rfl⟩ ⟨by omega,.inr ⟨g,m,cs,rfl,bH _,h.get hi,bC _,by grind[maxLen],hc,by simp_all[gT]⟩⟩ λk hk=> .inl hk
theorem zk{i g m:Nat}{cs:Array Value}{e:TypeId}(size:Nat)(hi:L[i]?=aj (aR g cs e))(hc:cs.size=m*size)(hm:m<=140737488355328)(h:TL P n W ops Q rest fr (L.set i (a_ e size (av (aj ⟨g,0,ak⟩) m m) m cs.toList))):TL P n W ops Q rest fr L:=
 ⟨λa w hr sG=>h.go a w hr (sG.ahL hi hc hm)⟩
theorem aW{t:TypeId}{p x:Operand}{i g c:Nat}{cs cs':Array Value}{T:TypeId}{agg:Bool}[hT:aL P t agg c](hi:L[i]?=aj (aR g cs T))(hp:ev fr p=aj (aK (aj ⟨g,0,ak⟩)))(hx:ev fr x=aj (.agg cs'))(hv:cs'.size=c)(h1:cs'.toList.all ft=aD)
 (hc:cs.size=c) (h:TL P n W ops Q rest fr (L.set i (aR g cs' T))):
 TL P n W ops Q (⟨ak,.store t p x,ty,pos,after,ak⟩::rest) fr L:=
 uL hT.ty hi hp hx hv h1 J (by
  show cs'=(cs.toList.take 0++cs'.toList++cs.toList.drop (0+c)).toArray
  grind) h
theorem bJ{t:TypeId}{p x:Operand}{i g off:Nat}{cs:Array Value}{T:TypeId}{agg:Bool}{v:Value}[hT:aL P t agg 1](hi:L[i]?=aj (aR g cs T))(hp:ev fr p=aj (aK (aj ⟨g,off,ak⟩)))(hx:ev fr x=aj v)(hv:v.cells=#[v])(h1:v.oneCell'=aD)
 (hc:dq off cs.size=aD) (h:TL P n W ops Q rest fr (L.set i (aR g (cs.setIfInBounds off v) T))):
 TL P n W ops Q (⟨ak,.store t p x,ty,pos,after,ak⟩::rest) fr L:=by
 have hlt:off<cs.size:=nu hc;refine uL hT.ty hi hp hx (by grind) (by simp_all) J ?_ h;rw[hv];apply Array.ext';simp only[I3];rw[DN,if_pos (by simpa using hlt)];simp
theorem D6{t u:TypeId}{x y:Operand}{xs ys:Array Value}{b:Bool}(hx:ev fr x=aj (.agg xs))(hy:ev fr y=aj (.agg ys))(hg:P.eqGuardType P.depth t=aF)(h:∀w,(od 10000 t (.agg xs) (.agg ys)).run P w= .ok b w):RR P n W ⟨dst,.binOp .eql t x y u,ty,pos,after,guard⟩ fr L (.bool b):= .mk λa w hr _=>by
 simp only[execOp,hr.ev hx,hr.ev hy,oe,run_eqGuard_agg w .eql t x y xs ys hg,qU,run_eql_struct,h w];rfl
theorem uM{t u:TypeId}{x y:Operand}{xs ys:Array Value}{b c:Bool}(hx:ev fr x=aj (.agg xs))(hy:ev fr y=aj (.agg ys))(hg:P.eqGuardType P.depth t=aF)(h:∀w,(od 10000 t (.agg xs) (.agg ys)).run P w= .ok b w)(hc:(!b)=c):RR P n W ⟨dst,.binOp .neq t x y u,ty,pos,after,guard⟩ fr L (.bool c):= .mk λa w hr _=>by
 subst hc;simp only[execOp,hr.ev hx,hr.ev hy,oe,run_eqGuard_agg w .neq t x y xs ys hg,qU,run_neq_struct,h w];rfl
theorem dT{fn:Func}{R:Ending->World->Prop}{t u:Tmp}{T:TypeId}{i g c:Nat}{cs:Array Value}{T':TypeId}{z:Value}[hT:aL P T aD c](lY:fn.results=#[.cell t T,.tmp u])(hp:look fr t=aj (aK (aj ⟨g,0,ak⟩)))(hi:L[i]?=aj (aR g cs T'))(hc:cs.size=c)(hz:look fr u=aj z)
 (h:∀w,Mem W L w->R (.returned (.tuple #[.agg cs,z])) w):E n W .ret (bodyPost P fn R) fr L:=
 B5 λa w hr sG=>⟨_,by
  have SK:=run_loadCells_list (P:=P) w ⟨g,0,ak⟩ cs.toList λj v hj=>by rw[eS,cX];exact aI hi (by simp_all) w sG
  have hl:(loadCells ⟨g,0,ak⟩ c).run P w= .ok cs w:=by simp_all
  have hv:(loadVar T ⟨g,0,ak⟩).run P w= .ok (.agg cs) w:=by simp[loadVar,hT.ty.agg,hT.ty.size,hl]
  simp[results,lY,xU,hr.get t _ hp,hr.get u z hz,asAddr,hv],h w sG⟩
theorem fD{fn:Func}{R:Ending->World->Prop}{t u s:Tmp}{T:TypeId}{i g c:Nat}{cs:Array Value}{T':TypeId}{z y:Value}[hT:aL P T aD c](lY:fn.results=#[.cell t T,.tmp u,.tmp s])(hp:look fr t=aj (aK (aj ⟨g,0,ak⟩)))(hi:L[i]?=aj (aR g cs T'))(hc:cs.size=c)(hz:look fr u=aj z)(hy:look fr s=aj y)
 (h:∀w,Mem W L w->R (.returned (.tuple #[.agg cs,z,y])) w):E n W .ret (bodyPost P fn R) fr L:=
 B5 λa w hr sG=>⟨_,by
  have SK:=run_loadCells_list (P:=P) w ⟨g,0,ak⟩ cs.toList λj v hj=>by rw[eS,cX];exact aI hi (by simp_all) w sG
  have hl:(loadCells ⟨g,0,ak⟩ c).run P w= .ok cs w:=by simp_all
  have hv:(loadVar T ⟨g,0,ak⟩).run P w= .ok (.agg cs) w:=by simp[loadVar,hT.ty.agg,hT.ty.size,hl]
  simp[results,lY,xU,hr.get t _ hp,hr.get u z hz,hr.get s y hy,asAddr,hv],h w sG⟩
theorem fW{fn:Func}{R:Ending->World->Prop}{t:Tmp}{T:TypeId}{i g c:Nat}{cs:Array Value}{T':TypeId}[hT:aL P T aD c](lY:fn.results=#[.cell t T])(hp:look fr t=aj (aK (aj ⟨g,0,ak⟩)))(hi:L[i]?=aj (aR g cs T'))(hc:cs.size=c)
 (h:∀w,Mem W L w->R (.returned (.agg cs)) w):E n W .ret (bodyPost P fn R) fr L:=
 B5 λa w hr sG=>⟨_,by
  have SK:=run_loadCells_list (P:=P) w ⟨g,0,ak⟩ cs.toList λj v hj=>by rw[eS,cX];exact aI hi (by simp_all) w sG
  have hl:(loadCells ⟨g,0,ak⟩ c).run P w= .ok cs w:=by simp_all
  have hv:(loadVar T ⟨g,0,ak⟩).run P w= .ok (.agg cs) w:=by simp[loadVar,hT.ty.agg,hT.ty.size,hl]
  simp[results,lY,xU,hr.get t _ hp,asAddr,hv],h w sG⟩
end
section
variable{P:Program}{ops:Array Oper}{md:uz}{Q:Exit->Act->World->Prop}{U:World->Prop}
theorem jZ{K:Act->World->Prop}{i:Nat}{o:Oper}{a:Act}{w:World}(hi:ops[i]?=aj o)(h:wpList P ops (Exit.then K Q) [o] a w):wpOp P ops Q i K a w:=by
 have key:∀r,o.upon P a (wpList P ops (Exit.then K Q) []) (Exit.then K Q) r->o.upon P a K Q r:=λr hr=>by
  cases r with
  | ok x w'=>
   cases x<;>first
    |exact hr
    |(refine XC hr λe Gs he=>?_;cases e<;>exact he)
    |exact Rows.mono hr λv Gs he=>he
  |halt x w'=>cases x<;>exact hr
 unfold wpList at h;unfold wpOp;rw[hi];simp only;split
 ·rename_i hw
  rw[if_pos hw]at h;rcases h with h|h
  exact .inl (key _ h);exact .inr h
 rename_i hw
 rw[if_neg hw]at h;exact h
def sL(P:Program)(md:uz)(ops:Array Oper)(Q:Exit->Act->World->Prop)(U:World->Prop):Nat->Array Bool->Act->(World->Prop)->Prop
 |0,listed,a,S=>jw md ops listed=[]/\∀w,S w->Q .normal a w
 | f+1,listed,a,S=>(jw md ops listed=[]->∀w,S w->Q .normal a w)/\
  ∀i∈jw md ops listed,∀w,S w->wpOp P ops Q i (λa' w'=>∃S',jO S'/\(∀x,S' x->U x)/\S' w'/\sL P md ops Q U f (listed.setIfInBounds i aD) a' S') a w
theorem yg:∀(f:Nat) (listed:Array Bool) (a:Act) (S:World->Prop) (w:World),S w->sL P md ops Q U f listed a S->wpAny P md ops Q f listed a w
 |0,_,_,_,w,hw,h=>⟨h.1,h.2 w hw⟩
 |f+1,_,_,_,w,hw,h=>⟨λh0=>h.1 h0 w hw,λi hi=>wpOp_mono (λa' w' ⟨S',_,_,ud,h'⟩=>yg f _ a' S' w' ud h') (h.2 i hi w hw)⟩
theorem zl{i:Nat}{oi:Oper}{v:Value}(hi:ops[i]?=aj oi)(mF:∀(j:Nat) (o:Oper) cs b,ops[j]?=aj o->o.op≠ .select cs b)
 (hQ:∀c a w,Q (.panic c) (a.put oi.dst v) w->Q (.panic c) a w):
 ∀ (f:Nat) (listed:Array Bool) (a:Act) (S:World->Prop),jO S->(∀x,S x->U x)->
  (∀j oj,ops[j]?=aj oj->j≠i->listed.getD j aD=aF->(∀e∈oj.after,AZ md e=aD->e.on≠i)->oi.apart ops oj=aD)->
  i∈jw md ops listed->jY P ops U oi v a->
  sL P md ops Q U f (listed.setIfInBounds i aD) (a.put oi.dst v) S->sL P md ops Q U (f+1) listed a S:=by
 intro f
 induction f with
 | zero=>
  intro listed a S jU Yt _ hr hy H;refine⟨λh=>(by simp_all),λj hj w hw=>?_⟩
  by_cases Lm:j=i
  subst Lm;exact(hy.mono Yt).wpOp hi jU hw λw' ud=>⟨S,jU,Yt,ud,H⟩;have:=ready_mono (md:=md) hj Lm;rw[H.1]at this;cases this
 | succ f ih=>
  intro listed a S jU Yt Hp hr hy H;have DT:=(mem_ready.1 hr).1;refine⟨λh=>(by simp_all),λj hj w hw=>?_⟩
  by_cases Lm:j=i
  subst Lm;exact(hy.mono Yt).wpOp hi jU hw λw' ud=>⟨S,jU,Yt,ud,H⟩;have h1:=H.2 j (ready_mono hj Lm) w hw;obtain⟨afI,oj,SA,qW⟩:=mem_ready.1 hj;have acA:∀e∈oj.after,AZ md e=aD->e.on≠i:=λe he hb Jc=>by
   grind
  have h2:=Ho SA (Hp j oj SA Lm afI acA) (λcs b=>mF i oi cs b hi) (λcs b=>mF j oj cs b SA) hQ hy h1;have Pu:∀k ok,ops[k]?=aj ok->k≠i->(listed.setIfInBounds j aD).getD k aD=aF->
   (∀e∈ok.after,AZ md e=aD->e.on≠i)->oi.apart ops ok=true:=λk ok hk hki DT hno=>by
   refine Hp k ok hk hki ?_ hno
   by_cases hjk:j=k
   simp_all
   simp_all
  refine wpOp_mono (λa' w' h3=>?_) h2;obtain⟨h3,S',nc,kY,ud,h4⟩:=h3;refine⟨S',nc,kY,ud,ih (listed.setIfInBounds j aD) a' S' nc kY Pu (ready_mono hr (Ps Lm)) h3 ?_⟩;rw[Xs _ _ Lm];exact h4
end
section
variable{P:Program}{n:Nat}{W:bP}{Q:Exit->Act->World->Prop}{fr:Fr}{L L0:List b9}{ops:Array Oper}{ks:List Bool}{o:Oper}{rest:List Oper}{v:Value}{d:Nat}
theorem Yu{L':List b9}(is:List Nat)(hn:is.Nodup)(hl:L'=is.filterMap λi=>L[i]?):∀w,Mem W L w->Mem W L' w:=λ_ h=>h.pick is hn hl
theorem zm:∀w,Mem W L w->Mem W [] w:=λ_ h=>⟨h.low,eP.nil _⟩
end
inductive Ord where
 |done
 |calm (i:Nat) (t:Ord)
 |one (i:Nat) (t:Ord)
 |two (i:Nat) (t:Ord) (j:Nat) (u:Ord)
 |three (i:Nat) (t:Ord) (j:Nat) (u:Ord) (k:Nat) (v:Ord)
def Ord.size:Ord->Nat
 | .done=>0
 | .calm _ t=>t.size+1
 | .one _ t=>t.size+1
 | .two _ t _ _=>t.size+1
 | .three _ t _ _ _ _=>t.size+1
section
variable{P:Program}{ops:Array Oper}{md:uz}{Q:Exit->Act->World->Prop}{U:World->Prop}
def Yv(P:Program)(ops:Array Oper)(Q:Exit->Act->World->Prop)(U:World->Prop):Ord->Act->(World->Prop)->Prop
 | .calm i t,a,S=>∃o v,ops[i]?=aj o/\(if kW o (yielded ops a.tmps)then ∀w,U w->pu P o a w v else v=undef)/\Yv P ops Q U t (a.put o.dst v) S
 | .one i t,a,S=>∃o,ops[i]?=aj o/\∀w,S w->wpList P ops (Exit.then (λa' w'=>∃S',jO S'/\(∀x,S' x->U x)/\S' w'/\Yv P ops Q U t a' S') Q) [o] a w
 | .two i t j u,a,S=>(∃o,ops[i]?=aj o/\∀w,S w->wpList P ops (Exit.then (λa' w'=>∃S',jO S'/\(∀x,S' x->U x)/\S' w'/\Yv P ops Q U t a' S') Q) [o] a w)/\
  (∃o,ops[j]?=aj o/\∀w,S w->wpList P ops (Exit.then (λa' w'=>∃S',jO S'/\(∀x,S' x->U x)/\S' w'/\Yv P ops Q U u a' S') Q) [o] a w)
 | .three i t j u k v,a,S=>(∃o,ops[i]?=aj o/\∀w,S w->wpList P ops (Exit.then (λa' w'=>∃S',jO S'/\(∀x,S' x->U x)/\S' w'/\Yv P ops Q U t a' S') Q) [o] a w)/\
  (∃o,ops[j]?=aj o/\∀w,S w->wpList P ops (Exit.then (λa' w'=>∃S',jO S'/\(∀x,S' x->U x)/\S' w'/\Yv P ops Q U u a' S') Q) [o] a w)/\
  (∃o,ops[k]?=aj o/\∀w,S w->wpList P ops (Exit.then (λa' w'=>∃S',jO S'/\(∀x,S' x->U x)/\S' w'/\Yv P ops Q U v a' S') Q) [o] a w)
 | .done,a,S=>∀w,S w->Q .normal a w
def mj(md:uz)(ops:Array Oper):Ord->Array Bool->Bool
 | .calm i t,listed=>(jw md ops listed).contains i&&O_ md ops listed i&&mj md ops t (listed.setIfInBounds i aD)
 | .one i t,listed=>decide (jw md ops listed=[i])&&mj md ops t (listed.setIfInBounds i aD)
 | .two i t j u,listed=>decide (jw md ops listed=[i,j])&&fU t.size u.size&&mj md ops t (listed.setIfInBounds i aD)&&mj md ops u (listed.setIfInBounds j aD)
 | .three i t j u k v,listed=>decide (jw md ops listed=[i,j,k])&&fU t.size u.size&&fU t.size v.size&&mj md ops t (listed.setIfInBounds i aD)&&mj md ops u (listed.setIfInBounds j aD)&&mj md ops v (listed.setIfInBounds k aD)
 | .done,listed=>decide (jw md ops listed=[])
theorem j0(mF:AY ops=aD)(hQ:∀c a d v w,Q (.panic c) (qS a d v) w->Q (.panic c) a w):
 ∀(t:Ord) (listed:Array Bool) (a:Act) (S:World->Prop),jO S->(∀x,S x->U x)->mj md ops t listed=aD->
 Yv P ops Q U t a S->sL P md ops Q U t.size listed a S
 | .done,listed,a,S,_,_,ho,h=>⟨by simp_all[mj],h⟩
 | .calm i t,listed,a,S,jU,Yt,ho,h=>by
  simp only[mj,fc]at ho;obtain⟨⟨hr,hf⟩,LK⟩:=ho;have Gy:i∈jw md ops listed:=by simp_all
  obtain⟨o,v,h0,hy,hK⟩:=h;have hy':jY P ops U o v a:=by
   by_cases hw:kW o (yielded ops a.tmps)=aD
   rw[if_pos hw]at hy;exact .inl ⟨hw,hy⟩;rw[if_neg hw]at hy;exact .inr ⟨by simp_all,hy⟩
  exact zl h0 (O6 mF) (λc a w=>hQ c a o.dst v w) t.size listed a S jU Yt (O7 h0 hf) Gy hy'
   (j0 mF hQ t _ _ S jU Yt LK hK)
 | .one i t,listed,a,S,jU,Yt,ho,h=>by
  simp only[mj,fc,decide_eq_true_eq]at ho;obtain⟨hr,LK⟩:=ho;obtain⟨o,h0,h⟩:=h;refine⟨λh'=>(by simp_all),λj hj w hw=>?_⟩;obtain rfl:j=i:=by simp_all
  refine wpOp_mono (λa' w' ⟨S',nc,uN,ud,hK⟩=>⟨S',nc,uN,ud,?_⟩) (jZ h0 (h w hw));exact j0 mF hQ t _ _ S' nc uN LK hK
 | .two i t j u,listed,a,S,jU,Yt,ho,h=>by
  simp only[mj,fc,decide_eq_true_eq]at ho;obtain⟨⟨⟨hr,hs⟩,mJ⟩,CP⟩:=ho;obtain⟨⟨o,h0,h⟩,⟨o2,h02,h2⟩⟩:=h;have hs:=mi hs;refine⟨λh'=>(by simp_all),λq hq w hw=>?_⟩;rw[hr]at hq;simp only[dM,fz,or_false]at hq;rcases hq with rfl|rfl
  ·refine wpOp_mono (λa' w' ⟨S',nc,uN,ud,hK⟩=>⟨S',nc,uN,ud,?_⟩) (jZ h0 (h w hw))
   exact j0 mF hQ t _ _ S' nc uN mJ hK
  refine wpOp_mono (λa' w' ⟨S',nc,uN,ud,hK⟩=>⟨S',nc,uN,ud,?_⟩) (jZ h02 (h2 w hw));rw[hs];exact j0 mF hQ u _ _ S' nc uN CP hK
 | .three i t j u k v,listed,a,S,jU,Yt,ho,h=>by
  simp only[mj,fc,decide_eq_true_eq]at ho;obtain⟨⟨⟨⟨⟨hr,hs⟩,hs3⟩,mJ⟩,CP⟩,Xa⟩:=ho;obtain⟨⟨o,h0,h⟩,⟨o2,h02,h2⟩,⟨o3,h03,h3⟩⟩:=h;have hs:=mi hs;have hs3:=mi hs3;refine⟨λh'=>(by simp_all),λq hq w hw=>?_⟩;rw[hr]at hq;simp only[dM,fz,or_false]at hq;rcases hq with rfl|rfl|rfl
  ·refine wpOp_mono (λa' w' ⟨S',nc,uN,ud,hK⟩=>⟨S',nc,uN,ud,?_⟩) (jZ h0 (h w hw))
   exact j0 mF hQ t _ _ S' nc uN mJ hK
  ·refine wpOp_mono (λa' w' ⟨S',nc,uN,ud,hK⟩=>⟨S',nc,uN,ud,?_⟩) (jZ h02 (h2 w hw))
   rw[hs];exact j0 mF hQ u _ _ S' nc uN CP hK
  refine wpOp_mono (λa' w' ⟨S',nc,uN,ud,hK⟩=>⟨S',nc,uN,ud,?_⟩) (jZ h03 (h3 w hw));rw[hs3];exact j0 mF hQ v _ _ S' nc uN Xa hK
end
structure TW(P:Program)(n:Nat)(W:bP)(ops:Array Oper)(Q:Exit->Act->World->Prop)(L0:List b9)(t:Ord)(fr:Fr)(L:List b9):Prop where
 go:∀a,na n a fr->Yv P ops Q (Mem W L0) t a (Mem W L)
section
variable{P:Program}{n:Nat}{W:bP}{Q:Exit->Act->World->Prop}{fr:Fr}{L L0:List b9}{ops:Array Oper}{o:Oper}{t u:Ord}{i j:Nat}{v:Value}{d:Nat}
def afT(l:List Oper)(t:Ord):Bool:=fU t.size l.length&&AY l.toArray&&mj .any l.toArray t (AQ l.toArray.size aF)
theorem ahM{id:Nat}{l:List Oper}(L0:List b9)(t:Ord)(kY:∀w,Mem W L w->Mem W L0 w)(hm:P.follows .mixedOrders=aD)(hB:afT l t=aD)
 (hQ:∀c a d v w,Q (.panic c) (qS a d v) w->Q (.panic c) a w)
 (h:TW P n W l.toArray Q L0 t fr L):T P n W (.region id l.toArray aD) Q fr L:=⟨λa w hr sG=>by
 simp only[afT,fc]at hB;obtain⟨⟨h1,h2⟩,h3⟩:=hB;have hlen:=mi h1;refine wp_region_any hm ?_;have hsz:l.toArray.size=t.size:=by simp_all
 have:=yg (U:=Mem W L0) t.size (AQ l.toArray.size aF) a (Mem W L) w.drew sG.drew
  (j0 h2 hQ t _ a (Mem W L) (iq W L) kY h3 (h.go a hr))
 simp_all⟩
theorem SL{q e:Nat}{b:Bool}{x:Value}(ho:ops[i]?=aj o)(hg:o.guard=aj (q,b))(hj:(ops[q]?).bind (·.dst)=aj e)(hl:look fr e=aj x)(hu:acF b x=aD)(hd:o.dst=aj d)(hn:dq d n=aD)(h:TW P n W ops Q L0 t ((d,undef)::fr) L):TW P n W ops Q L0 (.calm i t) fr L:=⟨λa hY=>
 ⟨o,undef,ho,by rw[Hq hY hg hj hl hu];rfl,by rw[hd];exact h.go _ (hY.put hn undef)⟩⟩
theorem oP{f:FuncId}{args:Array Value}(ho:ops[i]?=aj o)(he:∀a w,na n a fr->(execOp a.eval o).run P w= .ok (.enter f args) w)(hc:∀w,Mem W L0 w->Calls P f args w (bX (ret v) w))(hg:o.guard=ak)(hd:o.dst=aj d)(hn:dq d n=aD)
 (h:TW P n W ops Q L0 t ((d,v)::fr) L):TW P n W ops Q L0 (.calm i t) fr L:=⟨λa hY=>
 ⟨o,v,ho,by rw[if_pos (nR hg)];intro w hw;unfold pu;rw[he a w hY];exact⟨Gr.refl _,(hc w hw).mono λ_ _ h=>DV h⟩,by rw[hd];exact h.go _ (hY.put hn v)⟩⟩
theorem LL{f:FuncId}{args:Array Value}{q e:Nat}{b:Bool}(ho:ops[i]?=aj o)(he:∀a w,na n a fr->(execOp a.eval o).run P w= .ok (.enter f args) w)(hc:∀w,Mem W L0 w->Calls P f args w (bX (ret v) w))(hg:o.guard=aj (q,b))(hj:(ops[q]?).bind (·.dst)=aj e)(hl:look fr e=aj (.bool b))(hd:o.dst=aj d)(hn:dq d n=aD)
 (h:TW P n W ops Q L0 t ((d,v)::fr) L):TW P n W ops Q L0 (.calm i t) fr L:=⟨λa hY=>
 ⟨o,v,ho,by rw[if_pos (pv hY hg hj hl)];intro w hw;unfold pu;rw[he a w hY];exact⟨Gr.refl _,(hc w hw).mono λ_ _ h=>DV h⟩,by rw[hd];exact h.go _ (hY.put hn v)⟩⟩
abbrev after(P:Program)(W:bP)(ops:Array Oper)(Q:Exit->Act->World->Prop)(L0:List b9)(t:Ord):Exit->Act->World->Prop:=Exit.then (λa' w'=>∃S',jO S'/\(∀x,S' x->Mem W L0 x)/\S' w'/\Yv P ops Q (Mem W L0) t a' S') Q
theorem aM(ho:ops[i]?=aj o)(h:TL P n W ops (after P W ops Q L0 t) [o] fr L):TW P n W ops Q L0 (.one i t) fr L:=⟨λa hY=>⟨o,ho,λw hw=>h.go a w hY hw⟩⟩
theorem eN{o2:Oper}(ho:ops[i]?=aj o)(CP:ops[j]?=aj o2)(h:TL P n W ops (after P W ops Q L0 t) [o] fr L)(h2:TL P n W ops (after P W ops Q L0 u) [o2] fr L):TW P n W ops Q L0 (.two i t j u) fr L:=
 ⟨λa hY=>⟨⟨o,ho,λw hw=>h.go a w hY hw⟩,⟨o2,CP,λw hw=>h2.go a w hY hw⟩⟩⟩
theorem zn{o2 o3:Oper}{k:Nat}{u2:Ord}(ho:ops[i]?=aj o)(CP:ops[j]?=aj o2)(Xa:ops[k]?=aj o3)(h:TL P n W ops (after P W ops Q L0 t) [o] fr L)(h2:TL P n W ops (after P W ops Q L0 u) [o2] fr L)(h3:TL P n W ops (after P W ops Q L0 u2) [o3] fr L):TW P n W ops Q L0 (.three i t j u k u2) fr L:=
 ⟨λa hY=>⟨⟨o,ho,λw hw=>h.go a w hY hw⟩,⟨o2,CP,λw hw=>h2.go a w hY hw⟩,⟨o3,Xa,λw hw=>h3.go a w hY hw⟩⟩⟩
theorem aO{L':List b9}{Gu:Fr}(kY:∀w,Mem W L' w->Mem W L0 w)(h:TW P n W ops Q L0 t Gu L'):TL P n W ops (after P W ops Q L0 t) [] Gu L':=
 yc ⟨λa _ hr hm=>⟨Mem W L',iq _ _,kY,hm,h.go a hr⟩⟩
theorem SM(h:E n W .normal Q fr L):TW P n W ops Q L0 .done fr L:=⟨λa hr w hw=>h.go a w hr hw⟩
theorem ml{x y:Code}{ι:Type}(ah:ι->Prop)(F:ι->Fr)(M:ι->List b9)
 (hx:T P n W x (Exit.then (Mid n W ah F M) Q) fr L) (hy:∀i,ah i->T P n W y Q (F i) (M i)):T P n W x (Exit.then (y.wp P Q) Q) fr L:= .mk λa w hr hm=>
 wp_mono (hx.go a w hr hm) λe a w h=>by
  cases e with
  |normal=>obtain⟨i,h1,h2,h3⟩:=h;exact(hy i h1).go a w h2 h3
  |_=>exact h
structure TN(P:Program)(n:Nat)(W:bP)(ops:Array Oper)(Q:Exit->Act->World->Prop)(L0:List b9)(o:Oper)(t:Ord)(fr:Fr)(L:List b9):Prop where
 go:∀a,na n a fr->∃v,(∀w,Mem W L0 w->pu P o a w v)/\Yv P ops Q (Mem W L0) t (a.put o.dst v) (Mem W L)
theorem Yw(ho:ops[i]?=aj o)(hg:o.guard=ak)(h:TN P n W ops Q L0 o t fr L):TW P n W ops Q L0 (.calm i t) fr L:=⟨λa hY=>by
 obtain⟨v,h1,h2⟩:=h.go a hY;exact⟨o,v,ho,by simp_all[nR],h2⟩⟩
theorem acM{q e:Nat}{b:Bool}(ho:ops[i]?=aj o)(hg:o.guard=aj (q,b))(hj:(ops[q]?).bind (·.dst)=aj e)(hl:look fr e=aj (.bool b))(h:TN P n W ops Q L0 o t fr L):TW P n W ops Q L0 (.calm i t) fr L:=⟨λa hY=>by
 obtain⟨v,h1,h2⟩:=h.go a hY;exact⟨o,v,ho,by rw[if_pos (pv hY hg hj hl)];exact h1,h2⟩⟩
theorem afU(hr:RR P n W o fr L0 v)(hd:o.dst=aj d)(hn:dq d n=aD)(h:TW P n W ops Q L0 t ((d,v)::fr) L):TN P n W ops Q L0 o t fr L:=⟨λa hY=>
 ⟨v,λw hw=>by unfold pu;rw[hr.go a w hY hw];exact⟨rfl,Gr.refl _⟩,by rw[hd];exact h.go _ (hY.put hn v)⟩⟩
theorem QW(hr:RR P n W o fr L0 v)(h:TW P n W ops Q L0 t ((d,v)::fr) L)(hd:o.dst=aj d:=by exact I)(hn:dq d n=true:=by exact I):TN P n W ops Q L0 o t fr L:=afU hr hd hn h
end
section
variable{P:Program}{n:Nat}{W:bP}{fr:Fr}{L L0:List b9}{Q:Exit->Act->World->Prop}{ops:Array Oper}{rest:List Oper}{d i:Nat}{o:Oper}{v:Value}{t:Ord}
abbrev pV(g:Nat):Value:=aK (aj ⟨g,0,ak⟩)
abbrev sV(g n c:Nat):Value:=av (aj ⟨g,0,ak⟩) n c
abbrev sW(g o n c:Nat):Value:=av (aj ⟨g,o,ak⟩) n c
abbrev iV(x:Int):Value:=az aB x
def oC:List Nat->Ord->Ord
 |[],t=>t
 |i::r,t=> .calm i (oC r t)
inductive Gd(ops:Array Oper)(fr:Fr)(o:Oper):Prop
 |no (h:o.guard=ak)
 |yes (q e:Nat) (b:Bool) (hg:o.guard=aj (q,b)) (hj:(ops[q]?).bind (·.dst)=aj e) (hl:look fr e=aj (.bool b))
theorem RR.bare(h:RR P n W o fr L v):RR P n W {o with guard:=ak} fr L v:=⟨λa w hr hm=>h.go a w hr hm⟩
theorem ahN(hr:RR P n W o fr L v)(hg:Gd ops fr o)(hd:o.dst=aj d)(hn:dq d n=aD)(h:TL P n W ops Q rest ((d,v)::fr) L):TL P n W ops Q (o::rest) fr L:=by
 rcases hg with hg|⟨q,e,b,hg,hj,hl⟩
 grind[dm];exact C' hg hj hl (dm hr.bare I hd hn h)
theorem gV(hr:RR P n W o fr L v)(h:TL P n W ops Q rest ((d,v)::fr) L)(hg:Gd ops fr o:=by first|exact Gd.no I|exact Gd.yes _ _ _ I I I)(hd:o.dst=aj d:=by exact I)(hn:dq d n=true:=by exact I):TL P n W ops Q (o::rest) fr L:=ahN hr hg hd hn h
theorem QK{dst:Option Tmp}{ty:TypeId}{pos:String}{after:Array Edge}{guard:Option (Nat×Bool)}{x:Operand}{a:Addr}(hx:ev fr x=aj (aK (aj a)):=by exact I):RR P n W ⟨dst,.nilCheck x,ty,pos,after,guard⟩ fr L (aK (aj a)):= .mk λact w hr _=>by
 simp[execOp,hr.ev hx]
end
structure Hid(B:Prop):Prop where
 go:B
theorem GC{A B:Prop}(h:B)(t:Hid B->A:=by
 intro h0
 first|refine gV QP ?_|refine QZ ?_|refine qcT I ?_|refine qcF I ?_|refine LB ?_|refine LC I ?_|refine qs I I I I I I ?_
 repeat (first|refine gV QP ?_|refine QZ ?_|refine qcT I ?_|refine qcF I ?_|refine LB ?_|refine LC I ?_|refine qs I I I I I I ?_)
 exact h0.go):A:=t ⟨h⟩
theorem GB{A B:Prop}(h:B)(t:Hid B->A:=by
 intro h0;refine gV (by first|exact QA|exact QK|exact QL|exact QS|exact Jj I I|exact QlT|exact QlF|exact QeT|exact QeF|exact QnT|exact QnF|exact QaA|exact QgT|exact QgF|exact QhT|exact QhF|exact QmT|exact QmF|exact QaS|exact QaM|exact DY I I J|exact Ym I I J) ?_;exact h0.go):A:=t ⟨h⟩
theorem GA{A B:Prop}(h:B)(t:Hid B->A:=by
 intro h0
 first|refine GC ?_|refine GB ?_
 repeat (first|refine GC ?_|refine GB ?_)
 exact h0.go):A:=t ⟨h⟩
theorem GD{A B:Prop}(h:B)(t:Hid B->A:=by
 intro h0;refine gV (by first|exact aC aL.ty I (by first|exact aI (i:=0) I I|exact aI (i:=1) I I|exact aI (i:=2) I I|exact aI (i:=3) I I|exact aI (i:=4) I I|exact aI (i:=5) I I|exact aI (i:=6) I I|exact aI (i:=7) I I|exact aI (i:=8) I I|exact aI (i:=9) I I|exact aI (i:=10) I I|exact aI (i:=11) I I|exact aI (i:=12) I I|exact aI (i:=13) I I|exact aI (i:=14) I I|exact aI (i:=15) I I)|exact aP (i:=0) aL.ty I I I|exact aP (i:=1) aL.ty I I I|exact aP (i:=2) aL.ty I I I|exact aP (i:=3) aL.ty I I I|exact aP (i:=4) aL.ty I I I|exact aP (i:=5) aL.ty I I I|exact aP (i:=6) aL.ty I I I|exact aP (i:=7) aL.ty I I I|exact aP (i:=8) aL.ty I I I|exact aP (i:=9) aL.ty I I I|exact aP (i:=10) aL.ty I I I|exact aP (i:=11) aL.ty I I I|exact aP (i:=12) aL.ty I I I|exact aP (i:=13) aL.ty I I I|exact aP (i:=14) aL.ty I I I|exact aP (i:=15) aL.ty I I I) ?_;exact h0.go):A:=t ⟨h⟩
theorem GL{A B:Prop}(h:B)(t:Hid B->A:=by
 intro h0
 first|refine GA ?_|refine GD ?_
 exact h0.go):A:=t ⟨h⟩
theorem GM{A B:Prop}(h:B)(t:Hid B->A:=by
 intro h0;refine GL ?_
 repeat refine GL ?_
 exact h0.go):A:=t ⟨h⟩
theorem GN{A B:Prop}(h:B)(t:Hid B->A:=by
 intro h0
 first|refine Yw I I ?_|refine acM I I I I ?_
 exact h0.go):A:=t ⟨h⟩
theorem GX{A B:Prop}(h:B)(t:Hid B->A:=by
 intro h0
 first|refine QW QP ?_|refine QW (by first|exact QA|exact QK|exact QL|exact QS|exact Jj I I|exact QlT|exact QlF|exact QeT|exact QeF|exact QnT|exact QnF|exact QaA|exact QgT|exact QgF|exact QhT|exact QhF|exact QmT|exact QmF|exact QaS|exact QaM|exact DY I I J|exact Ym I I J) ?_
 exact h0.go):A:=t ⟨h⟩
theorem GW{A B:Prop}(h:B)(t:Hid B->A:=by
 intro h0
 first|(refine GN ?_;refine GX ?_)|refine SL I I I I I I I ?_|refine SM ?_
 repeat (first|(refine GN ?_;refine GX ?_)|refine SL I I I I I I I ?_|refine SM ?_)
 exact h0.go):A:=t ⟨h⟩
section
variable{P:Program}{n:Nat}{W:bP}{fr:Fr}{L L':List b9}{Q:Exit->Act->World->Prop}{ops:Array Oper}{rest:List Oper}
theorem bW{ι:Type}{ah:ι->Prop}{F:ι->Fr}{M:ι->List b9}{μ:ι->Nat}{x:ι}(x':ι)(hi:ah x')(hμ:μ x'<μ x)(hf:Jd (F x') fr:=by repeat' (first|exact True.intro|refine And.intro rfl ?_))(hl:L=M x':=by exact rfl):
 E n W .normal (Exit.then (Rnd n W ah F M μ x) Q) fr L:=iW x' hi hμ hf hl
theorem d_{c:Code}{ι:Type}(ah:ι->Prop)(F:ι->Fr)(M:ι->List b9)(μ:ι->Nat)(x0:ι)(h0:ah x0)
 (round:∀x,ah x->T P n W c (Exit.then (Rnd n W ah F M μ x) Q) (F x) (M x)) (hf:Jd (F x0) fr:=by repeat' (first|exact True.intro|refine And.intro rfl ?_)) (hl:L=M x0:=by exact rfl):T P n W (.loop c) Q fr L:=mM ah F M μ x0 h0 hf hl round
theorem zL{A B:Prop}(h:B)(t:Hid B->A:=by
 intro h0
 (conv=>arg 8;simp only[zA,zB,zC,zD,zE,zF,zG,zH,zI,cD,ret,id_eq])
 exact h0.go):A:=t ⟨h⟩
end
theorem zJ:(∀{α:Type} {a:α} {l m:List α},a::l++m=a::(l++m))/\(∀{α:Type} {l:List α},[]++l=l)/\(∀{α:Type} {l:List α},l++[]=l)/\(∀{α β:Type} {f:α->Option β} {a:α} {l:List α},uB f (a::l)=match f a with
 |none=>uB f l
 |some b=>b::uB f l)/\(∀{α β:Type} {f:α->Option β},uB f []=[])/\(∀{α:Type} {a:α} {l:List α} {i:Nat},(a::l)[i+1]?=l[i]?)/\(∀{α:Type} {a:α} {l:List α},(a::l)[0]?=aj a)/\(∀{α:Type} {a b:α} {l:List α},(a::l).set 0 b=b::l)/\(∀{α:Type} {a b:α} {l:List α} {i:Nat},(a::l).set (i+1) b=a::l.set i b):=
 ⟨zA,zB,zC,zD,zE,zF,zG,zH,zI⟩
section
variable{P:Program}{n:Nat}{W:bP}{fr:Fr}{L L':List b9}{Q:Exit->Act->World->Prop}{ops:Array Oper}{rest:List Oper}
theorem bV(is:List Nat)(hn:is.Nodup:=by decide)(hl:L'=is.filterMap λi=>L[i]?:=by exact I):∀w,Mem W L w->Mem W L' w:=Yu is hn hl
theorem B8(is:List Nat)(h:TL P n W ops Q rest fr L')(hn:is.Nodup:=by decide)(hl:L'=is.filterMap λi=>L[i]?:=by exact I):TL P n W ops Q rest fr L:=acK is hn hl h
theorem tW{c:Code}(is:List Nat)(h:T P n W c Q fr L')(hn:is.Nodup:=by decide)(hl:L'=is.filterMap λi=>L[i]?:=by exact I):T P n W c Q fr L:=afL is hn hl h
theorem dv{e:Exit}(is:List Nat)(h:E n W e Q fr L')(hn:is.Nodup:=by decide)(hl:L'=is.filterMap λi=>L[i]?:=by exact I):E n W e Q fr L:=afM is hn hl h
theorem dH{id:Nat}{l:List Oper}(L0:List b9)(t:Ord)(kY:∀w,Mem W L w->Mem W L0 w)(h:TW P n W l.toArray Q L0 t fr L)(hm:P.follows .mixedOrders=true:=by kernel_rfl)(hB:afT l t=true:=by kernel_rfl)
 (hQ:∀c a d v w,Q (.panic c) (qS a d v) w->Q (.panic c) a w:=by intro c a d v w h;cases d<;>exact h):T P n W (.region id l.toArray aD) Q fr L:=ahM L0 t kY hm hB hQ h
theorem eB{fn:Func}{w0:World}{t:Tmp}{v:Value}(lY:fn.results=#[.tmp t]:=by exact I)(hv:look fr t=aj v:=by exact I):E n w0 .ret (bodyPost P fn (bX (ret v) w0)) fr L:=cJ lY hv λw hm=>hm.ret
theorem gG{ty:TypeId}{pos:String}{after:Array Edge}{t:TypeId}{p x:Operand}(i:Nat){g c:Nat}{cs cs':Array Value}{T:TypeId}{agg:Bool}[hT:aL P t agg c](h:TL P n W ops Q rest fr (L.set i (aR g cs' T)))(hi:L[i]?=aj (aR g cs T):=by exact I)(hp:ev fr p=aj (pV g):=by exact I)(hx:ev fr x=aj (.agg cs'):=by exact I)(hv:cs'.size=c:=by exact I)(h1:cs'.toList.all ft=true:=by exact I)(hc:cs.size=c:=by exact I):
 TL P n W ops Q (⟨ak,.store t p x,ty,pos,after,ak⟩::rest) fr L:=aW hi hp hx hv h1 hc h
end
section
variable{P:Program}{n:Nat}{W:bP}{fr:Fr}{L L0:List b9}{Q:Exit->Act->World->Prop}{ops:Array Oper}{rest:List Oper}{o:Oper}{d:Nat}{fn:Func}{f:FuncId}
theorem CB{args:Array Value}{ι:Type}{S:Spec ι}(is js:List Nat){Lx R:List b9}(hc:∀w,Mem W L w->Mem (bP.on w Lx) Lx w->Calls P f args w (cZ S (bP.on w Lx)))(h:∀x,S.ok x->TL P n W ops Q rest ((d,S.val x)::fr) (R++S.own x))(UO:Lx=is.filterMap λi=>L[i]?:=by exact I)(LD:R=js.filterMap λi=>L[i]?:=by exact I)(he:∀a w,na n a fr->(execOp a.eval o).run P w= .ok (.enter f args) w:=by first|exact ja aJ.en I I|exact fC aJ.en I I I|exact qq aJ.en I I I I|exact Ln aJ.en I I I I I)(UP:(is++js).Nodup:=by decide)(hg:o.guard=none:=by exact I)(hd:o.dst=aj d:=by exact I)(hn:dq d n=true:=by exact I):TL P n W ops Q (o::rest) fr L:=bz is js UP UO LD he hc hg hd hn h
theorem ER{ι:Type}{ah:ι->Prop}{F:ι->Fr}{M:ι->List b9}{μ:ι->Nat}{x:ι}(x':ι)(hi:ah x')(hf:Jd (F x') fr:=by repeat' (first|exact True.intro|refine And.intro rfl ?_))(hl:L=M x':=by exact rfl)(hμ:μ x'<μ x:=by first|omega|(dsimp only;omega)):
 E n W .normal (Exit.then (Rnd n W ah F M μ x) Q) fr L:=iW x' hi hμ hf hl
theorem RB{ι:Type}{S:Spec ι}{t:Tmp}(x:ι)(hx:S.ok x)(is:List Nat)(lY:fn.results=#[.tmp t]:=by exact I)(hv:look fr t=aj (S.val x):=by exact I)(hn:is.Nodup:=by decide)(hl:S.own x=is.filterMap λi=>L[i]?:=by exact I):E n W .ret (bodyPost P fn (cZ S W)) fr L:=cJ lY hv λw hm=>hm.b_ x hx is hn hl
end
instance:bQ aE 3 (.int .i64):=⟨Tryz.underlying3⟩
instance:aL aE 3 aF 1:={}
instance:eU aE 3 #[az aB 0]:={}
instance:bQ aE 4 (.bool):=⟨Tryz.underlying4⟩
instance:aL aE 4 aF 1:={}
instance:eU aE 4 #[.bool aF]:={}
instance:bQ aE 5 (.int .u8):=⟨Tryz.underlying5⟩
instance:aL aE 5 aF 1:={}
instance:bQ aE 9 (.string):=⟨Tryz.underlying9⟩
instance:aL aE 9 aF 1:={}
instance:bQ aE 22 (.slice 90):=⟨Tryz.underlying22⟩
instance:aL aE 22 aF 1:={}
instance:rC aE 22 90 7 80:={}
instance:bQ aE 23 (.slice 92):=⟨Tryz.underlying23⟩
instance:aL aE 23 aF 1:={}
instance:rC aE 23 92 2 40:={}
instance:dI aE 25 0 0:={}
instance:dI aE 25 1 1:={}
instance:aL aE 25 aD 2:={}
instance:eU aE 25 #[av ak 0 0,av ak 0 0]:={}
instance:bQ aE 26 (.slice 3):=⟨Tryz.underlying26⟩
instance:aL aE 26 aF 1:={}
instance:rC aE 26 3 1 8:={}
instance:eU aE 26 #[av ak 0 0]:={}
instance:bQ aE 27 (.array 256 5):=⟨Tryz.underlying27⟩
instance:aL aE 27 aD 256:={}
instance:bQ aE 28 (.slice 26):=⟨Tryz.underlying28⟩
instance:aL aE 28 aF 1:={}
instance:rC aE 28 26 1 24:={}
instance:dI aE 30 0 0:={}
instance:dI aE 30 1 256:={}
instance:dI aE 30 2 257:={}
instance:aL aE 30 aD 258:={}
instance:eU aE 30 (dl 256 (.int .u8 0:Value)++([av ak 0 0,av ak 0 0]:List Value)).toArray:={}
instance:bQ aE 31 (.slice 149):=⟨Tryz.underlying31⟩
instance:aL aE 31 aF 1:={}
instance:rC aE 31 149 2 32:={}
instance:dI aE 33 0 0:={}
instance:dI aE 33 1 1:={}
instance:dI aE 33 2 2:={}
instance:aL aE 33 aD 3:={}
instance:bQ aE 34 (.slice 160):=⟨Tryz.underlying34⟩
instance:aL aE 34 aF 1:={}
instance:rC aE 34 160 1 24:={}
instance:dI aE 36 0 0:={}
instance:dI aE 36 1 1:={}
instance:aL aE 36 aD 2:={}
instance:eU aE 36 #[av ak 0 0,av ak 0 0]:={}
instance:dI aE 38 0 0:={}
instance:dI aE 38 1 1:={}
instance:dI aE 38 2 259:={}
instance:dI aE 38 3 262:={}
instance:dI aE 38 4 263:={}
instance:dI aE 38 5 264:={}
instance:aL aE 38 aD 266:={}
instance:eU aE 38 (([av ak 0 0]:List Value)++dl 256 (.int .u8 0:Value)++([av ak 0 0,av ak 0 0,az aB 0,az aB 0,av ak 0 0,az aB 0,av ak 0 0,av ak 0 0,av ak 0 0]:List Value)).toArray:={}
instance:aL aE 39 aF 1:={}
instance:bQ aE 43 (.slice 54):=⟨Tryz.underlying43⟩
instance:aL aE 43 aF 1:={}
instance:rC aE 43 54 2 16:={}
instance:bQ aE 46 (.slice 9):=⟨Tryz.underlying46⟩
instance:aL aE 46 aF 1:={}
instance:rC aE 46 9 1 16:={}
instance:dI aE 48 0 0:={}
instance:dI aE 48 1 1:={}
instance:dI aE 48 2 2:={}
instance:aL aE 48 aD 3:={}
instance:eU aE 48 #[av ak 0 0,az aB 0,az aB 0]:={}
instance:dI aE 54 0 0:={}
instance:dI aE 54 1 1:={}
instance:aL aE 54 aD 2:={}
instance:bQ aE 69 (.slice 4):=⟨Tryz.underlying69⟩
instance:aL aE 69 aF 1:={}
instance:rC aE 69 4 1 1:={}
instance:bQ aE 70 (.slice 82):=⟨Tryz.underlying70⟩
instance:aL aE 70 aF 1:={}
instance:rC aE 70 82 1 8:={}
instance:dI aE 72 0 0:={}
instance:dI aE 72 1 1:={}
instance:dI aE 72 2 2:={}
instance:dI aE 72 3 3:={}
instance:dI aE 72 4 4:={}
instance:aL aE 72 aD 5:={}
instance:eU aE 72 #[av ak 0 0,av ak 0 0,av ak 0 0,av ak 0 0,av ak 0 0]:={}
instance:bQ aE 76 (.slice 154):=⟨Tryz.underlying76⟩
instance:rC aE 76 154 4 32:={}
instance:bQ aE 79 (.slice 164):=⟨Tryz.underlying79⟩
instance:rC aE 79 164 6 48:={}
instance:aL aE 82 aF 1:={}
instance:eU aE 82 #[.int .u64 0]:={}
instance:bQ aE 84 (.array 4 82):=⟨Tryz.underlying84⟩
instance:aL aE 84 aD 4:={}
instance:eU aE 84 #[.int .u64 0,.int .u64 0,.int .u64 0,.int .u64 0]:={}
instance:bQ aE 85 (.slice 87):=⟨Tryz.underlying85⟩
instance:aL aE 85 aF 1:={}
instance:rC aE 85 87 6 64:={}
instance:dI aE 87 0 0:={}
instance:dI aE 87 1 1:={}
instance:dI aE 87 2 5:={}
instance:aL aE 87 aD 6:={}
instance:eU aE 87 #[az aB 0,.int .u64 0,.int .u64 0,.int .u64 0,.int .u64 0,av ak 0 0]:={}
instance:dI aE 90 0 0:={}
instance:dI aE 90 1 1:={}
instance:aL aE 90 aD 7:={}
instance:eU aE 90 #[.string ⟨#[]⟩,az aB 0,.int .u64 0,.int .u64 0,.int .u64 0,.int .u64 0,av ak 0 0]:={}
instance:dI aE 92 0 0:={}
instance:dI aE 92 1 1:={}
instance:aL aE 92 aD 2:={}
instance:eU aE 92 #[.string ⟨#[]⟩,av ak 0 0]:={}
instance:bQ aE 95 (.slice 102):=⟨Tryz.underlying95⟩
instance:aL aE 95 aF 1:={}
instance:rC aE 95 102 3 24:={}
instance:dI aE 102 0 0:={}
instance:dI aE 102 1 1:={}
instance:dI aE 102 2 2:={}
instance:aL aE 102 aD 3:={}
instance:eU aE 102 #[az aB 0,az aB 0,az aB 0]:={}
instance:bQ aE 107 (.slice 185):=⟨Tryz.underlying107⟩
instance:aL aE 107 aF 1:={}
instance:rC aE 107 185 4 32:={}
instance:dI aE 109 0 0:={}
instance:dI aE 109 1 1:={}
instance:dI aE 109 2 2:={}
instance:dI aE 109 3 3:={}
instance:aL aE 109 aD 4:={}
instance:eU aE 109 #[av ak 0 0,az aB 0,az aB 0,.bool aF]:={}
instance:dI aE 112 0 0:={}
instance:dI aE 112 1 1:={}
instance:dI aE 112 2 2:={}
instance:dI aE 112 3 3:={}
instance:aL aE 112 aD 4:={}
instance:eU aE 112 #[av ak 0 0,az aB 0,az aB 0,.bool aF]:={}
instance:dI aE 115 0 0:={}
instance:dI aE 115 1 1:={}
instance:dI aE 115 2 2:={}
instance:aL aE 115 aD 3:={}
instance:eU aE 115 #[az aB 0,.string ⟨#[]⟩,az aB 0]:={}
instance:dI aE 117 0 0:={}
instance:dI aE 117 1 1:={}
instance:dI aE 117 2 2:={}
instance:aL aE 117 aD 3:={}
instance:eU aE 117 #[av ak 0 0,az aB 0,az aB 0]:={}
instance:dI aE 119 0 0:={}
instance:dI aE 119 1 266:={}
instance:dI aE 119 3 268:={}
instance:dI aE 119 4 269:={}
instance:dI aE 119 5 270:={}
instance:dI aE 119 6 271:={}
instance:dI aE 119 7 272:={}
instance:dI aE 119 8 275:={}
instance:dI aE 119 9 276:={}
instance:dI aE 119 10 277:={}
instance:dI aE 119 11 281:={}
instance:dI aE 119 12 285:={}
instance:dI aE 119 13 288:={}
instance:dI aE 119 14 289:={}
instance:dI aE 119 15 290:={}
instance:bQ aE 126 (.map 9 3):=⟨Tryz.underlying126⟩
instance:aL aE 126 aF 1:={}
instance:eU aE 126 #[.map ak]:={}
instance:bQ aE 130 (.slice 84):=⟨Tryz.underlying130⟩
instance:aL aE 130 aF 1:={}
instance:rC aE 130 84 4 32:={}
instance:dI aE 132 0 0:={}
instance:dI aE 132 1 1:={}
instance:dI aE 132 2 2:={}
instance:dI aE 132 3 3:={}
instance:dI aE 132 4 4:={}
instance:dI aE 132 5 5:={}
instance:aL aE 132 aD 6:={}
instance:eU aE 132 #[av ak 0 0,av ak 0 0,av ak 0 0,av ak 0 0,av ak 0 0,av ak 0 0]:={}
instance:bQ aE 135 (.slice 210):=⟨Tryz.underlying135⟩
instance:aL aE 135 aF 1:={}
instance:rC aE 135 210 256 512:={}
instance:dI aE 137 0 0:={}
instance:dI aE 137 1 1:={}
instance:aL aE 137 aD 2:={}
instance:eU aE 137 #[av ak 0 0,av ak 0 0]:={}
instance:bQ aE 147 (.slice 182):=⟨Tryz.underlying147⟩
instance:aL aE 147 aF 1:={}
instance:rC aE 147 182 2 16:={}
instance:dI aE 149 0 0:={}
instance:dI aE 149 1 1:={}
instance:aL aE 149 aD 2:={}
instance:eU aE 149 #[az aB 0,av ak 0 0]:={}
instance:bQ aE 155 (.slice 226):=⟨Tryz.underlying155⟩
instance:aL aE 155 aF 1:={}
instance:rC aE 155 226 1 24:={}
instance:dI aE 157 0 0:={}
instance:dI aE 157 1 1:={}
instance:aL aE 157 aD 2:={}
instance:eU aE 157 #[av ak 0 0,av ak 0 0]:={}
instance:bQ aE 160 (.slice 162):=⟨Tryz.underlying160⟩
instance:aL aE 160 aF 1:={}
instance:rC aE 160 162 2 16:={}
instance:eU aE 160 #[av ak 0 0]:={}
instance:dI aE 162 0 0:={}
instance:dI aE 162 1 1:={}
instance:aL aE 162 aD 2:={}
instance:eU aE 162 #[az aB 0,az aB 0]:={}
instance:dI aE 174 0 0:={}
instance:dI aE 174 1 266:={}
instance:dI aE 177 0 0:={}
instance:dI aE 177 1 266:={}
instance:dI aE 182 0 0:={}
instance:dI aE 182 1 1:={}
instance:aL aE 182 aD 2:={}
instance:eU aE 182 #[az aB 0,az aB 0]:={}
instance:dI aE 185 0 0:={}
instance:dI aE 185 1 1:={}
instance:dI aE 185 2 2:={}
instance:aL aE 185 aD 4:={}
instance:eU aE 185 #[.bool aF,az aB 0,az aB 0,az aB 0]:={}
instance:dI aE 195 0 0:={}
instance:dI aE 195 1 6:={}
instance:dI aE 197 0 0:={}
instance:dI aE 197 1 1:={}
instance:dI aE 197 2 2:={}
instance:aL aE 197 aD 3:={}
instance:eU aE 197 #[.bool aF,av ak 0 0,av ak 0 0]:={}
instance:bQ aE 200 (.map 9 182):=⟨Tryz.underlying200⟩
instance:bQ aE 204 (.slice 256):=⟨Tryz.underlying204⟩
instance:aL aE 204 aF 1:={}
instance:rC aE 204 256 4 32:={}
instance:bQ aE 205 (.map 256 3):=⟨Tryz.underlying205⟩
instance:aL aE 205 aF 1:={}
instance:dI aE 207 0 0:={}
instance:dI aE 207 1 6:={}
instance:dI aE 207 2 7:={}
instance:dI aE 207 3 8:={}
instance:bQ aE 208 (.int .i16):=⟨Tryz.underlying208⟩
instance:aL aE 208 aF 1:={}
instance:bQ aE 210 (.array 256 208):=⟨Tryz.underlying210⟩
instance:aL aE 210 aD 256:={}
instance:eU aE 210 (dl 256 (.int .i16 0:Value)).toArray:={}
instance:bQ aE 215 (.map 216 3):=⟨Tryz.underlying215⟩
instance:bQ aE 216 (.array 200 208):=⟨Tryz.underlying216⟩
instance:aL aE 216 aD 200:={}
instance:eU aE 216 (dl 200 (.int .i16 0:Value)).toArray:={}
instance:bQ aE 226 (.slice 231):=⟨Tryz.underlying226⟩
instance:aL aE 226 aF 1:={}
instance:rC aE 226 231 3 24:={}
instance:eU aE 226 #[av ak 0 0]:={}
instance:dI aE 231 0 0:={}
instance:dI aE 231 1 1:={}
instance:dI aE 231 2 2:={}
instance:aL aE 231 aD 3:={}
instance:eU aE 231 #[az aB 0,az aB 0,az aB 0]:={}
instance:bQ aE 256 (.array 4 82):=⟨Tryz.underlying256⟩
instance:aL aE 256 aD 4:={}
instance:eU aE 256 #[.int .u64 0,.int .u64 0,.int .u64 0,.int .u64 0]:={}
instance:bQ aE 262 (.map 264 3):=⟨Tryz.underlying262⟩
instance:dI aE 264 1 1:={}
instance:aL aE 264 aD 257:={}
instance:eU aE 264 (([az aB 0]:List Value)++dl 256 (.int .i16 0:Value)).toArray:={}
instance:bQ aE 266 (.map 295 82):=⟨Tryz.underlying266⟩
instance:aL aE 266 aF 1:={}
instance:dI aE 268 0 0:={}
instance:dI aE 268 1 3:={}
instance:bQ aE 269 (.slice 5):=⟨Tryz.underlying269⟩
instance:rC aE 269 5 1 1:={}
instance:bQ aE 270 (.map 231 3):=⟨Tryz.underlying270⟩
instance:aL aE 270 aF 1:={}
instance:eU aE 270 #[.map ak]:={}
instance:dI aE 283 0 0:={}
instance:dI aE 283 1 3:={}
instance:dI aE 283 2 4:={}
instance:dI aE 283 3 5:={}
instance:aL aE 295 aD 2:={}
instance:eU aE 295 #[az aB 0,az aB 0]:={}
instance:aJ aE 5:={}
instance:aJ aE 6:={}
instance:aJ aE 7:={}
instance:aJ aE 8:={}
instance:aJ aE 9:={}
instance:aJ aE 10:={}
instance:aJ aE 11:={}
instance:aJ aE 12:={}
instance:aJ aE 13:={}
instance:aJ aE 14:={}
instance:aJ aE 15:={}
instance:aJ aE 16:={}
instance:aJ aE 17:={}
instance:aJ aE 18:={}
instance:aJ aE 19:={}
instance:aJ aE 20:={}
instance:aJ aE 21:={}
instance:aJ aE 22:={}
instance:aJ aE 23:={}
instance:aJ aE 24:={}
instance:aJ aE 25:={}
instance:aJ aE 26:={}
instance:aJ aE 27:={}
instance:aJ aE 28:={}
instance:aJ aE 29:={}
instance:aJ aE 30:={}
instance:aJ aE 31:={}
instance:aJ aE 32:={}
instance:aJ aE 33:={}
instance:aJ aE 34:={}
instance:aJ aE 35:={}
instance:aJ aE 36:={}
instance:aJ aE 37:={}
instance:aJ aE 38:={}
instance:aJ aE 39:={}
instance:aJ aE 40:={}
instance:aJ aE 41:={}
instance:aJ aE 42:={}
instance:aJ aE 43:={}
instance:aJ aE 44:={}
instance:aJ aE 45:={}
instance:aJ aE 46:={}
instance:aJ aE 47:={}
instance:aJ aE 48:={}
instance:aJ aE 49:={}
instance:aJ aE 50:={}
instance:aJ aE 51:={}
instance:aJ aE 52:={}
instance:aJ aE 53:={}
instance:aJ aE 54:={}
instance:aJ aE 55:={}
instance:aJ aE 56:={}
instance:aJ aE 57:={}
instance:aJ aE 58:={}
instance:aJ aE 59:={}
instance:aJ aE 60:={}
instance:aJ aE 61:={}
instance:aJ aE 62:={}
instance:aJ aE 63:={}
instance:aJ aE 64:={}
instance:aJ aE 65:={}
instance:aJ aE 66:={}
instance:aJ aE 67:={}
instance:aJ aE 68:={}
instance:aJ aE 69:={}
instance:aJ aE 70:={}
instance:aJ aE 71:={}
instance:aJ aE 72:={}
instance:aJ aE 73:={}
instance:aJ aE 74:={}
instance:aJ aE 75:={}
instance:aJ aE 76:={}
instance:aJ aE 77:={}
instance:aJ aE 78:={}
instance:aJ aE 79:={}
instance:aJ aE 80:={}
instance:aJ aE 81:={}
instance:aJ aE 82:={}
instance:aJ aE 83:={}
instance:aJ aE 84:={}
instance:aJ aE 85:={}
instance:aJ aE 86:={}
instance:aJ aE 87:={}
instance:aJ aE 88:={}
instance:aJ aE 89:={}
instance:aJ aE 90:={}
instance:aJ aE 91:={}
instance:aJ aE 92:={}
instance:aJ aE 93:={}
instance:aJ aE 94:={}
instance:aJ aE 95:={}
instance:aJ aE 96:={}
instance:aJ aE 97:={}
instance:aJ aE 98:={}
instance:aJ aE 99:={}
instance:aJ aE 100:={}
instance:aJ aE 101:={}
instance:aJ aE 102:={}
instance:aJ aE 103:={}
instance:aJ aE 104:={}
instance:aJ aE 105:={}
instance:aJ aE 106:={}
instance:aJ aE 107:={}
instance:aJ aE 108:={}
instance:aJ aE 109:={}
instance:aJ aE 110:={}
instance:aJ aE 111:={}
instance:aJ aE 112:={}
instance:aJ aE 113:={}
instance:aJ aE 114:={}
instance:aJ aE 115:={}
instance:aJ aE 116:={}
instance:aJ aE 117:={}
instance:aJ aE 118:={}
instance:aJ aE 119:={}
instance:aJ aE 120:={}
instance:aJ aE 121:={}
instance:aJ aE 122:={}
instance:aJ aE 124:={}
instance:aJ aE 125:={}
instance:aJ aE 126:={}
instance:aJ aE 127:={}
instance:aJ aE 128:={}
instance:aJ aE 129:={}
instance:aJ aE 131:={}
instance:aJ aE 132:={}
instance:aJ aE 133:={}
instance:aJ aE 139:={}
instance:aJ aE 140:={}
instance:aJ aE 141:={}
instance:aJ aE 142:={}
instance:aJ aE 143:={}
instance:aJ aE 144:={}
instance:aJ aE 145:={}
instance:aJ aE 146:={}
instance:aJ aE 167:={}
instance:aJ aE 168:={}
theorem fin{P:Program}{f:FuncId}{args:Array Value}{w:World}(h:Calls P f args w (bX (ret (.bool aD)) w)):Calls P f args w λe w'=>e= .returned (.bool aD)/\Below w.heap.size w w':=h.mono λ_ _ h=>DV h
end bZ
namespace dh
def ij(x:BitVec 64):Int:=x.toNat
abbrev v64(x:BitVec 64):Value:= .int .u64 (ij x)
theorem afV(x:BitVec 64):0<=ij x:=by simp[ij]
theorem afW(x:BitVec 64):ij x<=18446744073709551615:=by have:=x.isLt;unfold ij;omega
theorem oQ{x y:BitVec 64}(h:ij x=ij y):x=y:=by
 grind[BitVec.eq_of_toNat_eq,ij]
theorem afX(x y:BitVec 64):(ij x==ij y)=(x==y):=by
 grind[oQ]
theorem wrap64(x:BitVec 64):uy.wrap (ij x)=ij x:=by
 have:=x.isLt;unfold ij;rw[ux];omega
theorem ofInt64(x:BitVec 64):xV 64 (ij x)=x:=by
 simp[ij]
theorem ahO(x y:BitVec 64):bits .and .u64 (ij x) (ij y)=ij (x&&&y):=by
 unfold bits;simp only[mf,ofInt64];exact wrap64 _
theorem ajI(x y:BitVec 64):bits .or .u64 (ij x) (ij y)=ij (x|||y):=by
 unfold bits;simp only[mf,ofInt64];exact wrap64 _
theorem ae3(x y:BitVec 64):bits .xor .u64 (ij x) (ij y)=ij (x^^^y):=by
 unfold bits;simp only[mf,ofInt64];exact wrap64 _
theorem ahP(x:BitVec 64):bits .xor .u64 uy.max (ij x)=ij (~~~ x):=by
 have h:=ae3 (BitVec.allOnes 64) x;rw[BitVec.allOnes_xor]at h;rw[<-h];rfl
theorem UY(b:Nat)(h:b<4294967296):bits .and .i64 (b:Int) 63=((b %64:Nat):Int):=by
 have e1:xV 64 (b:Int)=iM 64 b:=by simp
 have e2:(iM 64 b&&&63#64).toNat=b %64:=by
  rw[BitVec.toNat_and,Xv,X4 (by omega:b<2^64)];exact Nat.and_two_pow_sub_one_eq_mod b 6
 have e3:bits .and .i64 (b:Int) 63=aB.wrap (((iM 64 b&&&63#64).toNat:Nat):Int):=by
  rfl
 grind[IntKind.wrap_i64]
theorem acN(k:Nat)(h:k<64):uy.wrap ((2:Int)^k)=ij (iM 64 (2^k)):=by
 rfl
structure C4 where
 a:BitVec 64
 b:BitVec 64
 c:BitVec 64
 d:BitVec 64
 deriving DecidableEq
def C4.get(x:C4)(i:Nat):BitVec 64:=if i=0 then x.a else if i=1 then x.b else if i=2 then x.c else x.d
def C4.set(x:C4)(i:Nat)(v:BitVec 64):C4:=if i=0 then {x with a:=v}else if i=1 then {x with b:=v}else if i=2 then {x with c:=v}else {x with d:=v}
def C4.zero:C4:=⟨0,0,0,0⟩
def C4.Yx(x y:C4):C4:=⟨x.a&&&y.a,x.b&&&y.b,x.c&&&y.c,x.d&&&y.d⟩
def C4.not(x:C4):C4:=⟨~~~x.a,~~~x.b,~~~x.c,~~~x.d⟩
def ed(x:C4):List Value:=[.int .u64 (ij x.a),.int .u64 (ij x.b),.int .u64 (ij x.c),.int .u64 (ij x.d)]
def oR(x:C4):Value:=aQ #[.int .u64 (ij x.a),.int .u64 (ij x.b),.int .u64 (ij x.c),.int .u64 (ij x.d)]
theorem Yy(x:C4)(i:Nat)(h:i<4):(ed x)[i]?=aj (v64 (x.get i)):=by
 match i,h with
 |0,_=>rfl
 |1,_=>rfl
 |2,_=>rfl
 |3,_=>rfl
theorem Yz(x:C4)(i:Nat)(h:i<4)(v:BitVec 64):(ed x).set i (v64 v)=ed (x.set i v):=by
 match i,h with
 |0,_=>rfl
 |1,_=>rfl
 |2,_=>rfl
 |3,_=>rfl
def C4.bit(x:C4)(n:Nat):C4:=x.set (n/64) (x.get (n/64)|||iM 64 (2^(n %64)))
def C4.kt(x:C4)(b:Nat):Nat->C4
 |0=>x
 |n+1=>(C4.kt x b n).bit (b+n)
theorem YA(x:C4)(b n:Nat):(C4.kt x b n).set ((b+n)/64) ((C4.kt x b n).get ((b+n)/64)|||iM 64 (2^((b+n) %64)))=C4.kt x b (n+1):=rfl
def fA(lo hi:Int):C4:=C4.kt C4.zero (max lo 0).toNat (min hi 255+1-max lo 0).toNat
theorem C4.ext'{x y:C4}(h1:x.a=y.a)(h2:x.b=y.b)(h3:x.c=y.c)(h4:x.d=y.d):x=y:=by
 cases x;cases y;simp_all
theorem b5(p q:Bool):(p||(p&&q))=p:=by simp_all
def b8(b:Nat):Nat:=((b/4)&&&51)+(b&&&51)
def c8(b:Nat):Nat:=(b/16+b)&&&15
theorem k1:∀t<2,∀c<128,(c+128*t)&&&85=c&&&85:=by decide+kernel
theorem k2:∀t<4,∀c<64,(c+64*t)&&&51=c&&&51:=by decide+kernel
theorem k3:∀t<5,∀p<5,∀q<5,(p+(q+16*p)+16*t)&&&15=c8 (q+16*p):=by decide+kernel
def s1(x:Nat):Nat:=((x/2)&&&6148914691236517205)+(x&&&6148914691236517205)
def s2(x:Nat):Nat:=((x/4)&&&3689348814741910323)+(x&&&3689348814741910323)
def s3(x:Nat):Nat:=(x/16+x)&&&1085102592571150095
def s4(x:Nat):Nat:=x+x/256
def s5(x:Nat):Nat:=x+x/65536
def s6(x:Nat):Nat:=x+x/4294967296
def C4.mem(x:C4)(n:Nat):Bool:=(x.get (n/64)).toNat.testBit (n %64)
def yh(x:C4):List Nat:=(eA 256).filter x.mem
def Xb(x:C4):Nat:=(yh x).length
theorem get_mem(x:C4)(n:Nat):x.mem n=(x.get (n/64)).getLsbD (n %64):=by
 rfl
theorem LM(n:Nat):C4.zero.mem n=false:=by
 simp[get_mem,C4.get,C4.zero]
theorem ext_mem{x y:C4}(h:∀n,n<256->x.mem n=y.mem n):x=y:=by
 have w:∀i,i<4->x.get i=y.get i:=λi hi=>by
  apply BitVec.eq_of_getLsbD_eq;intro j hj;have:=h (64*i+j) J;rw[get_mem,get_mem,show(64*i+j)/64=i by omega,show(64*i+j) %64=j by omega]at this;exact this
 exact C4.ext' (w 0 aln) (w 1 aln) (w 2 aln) (w 3 aln)
theorem UZ{x:C4}{n:Nat}:n∈yh x↔n<256/\x.mem n=true:=by
 simp[yh]
end dh
namespace gu
open dh
inductive Rx where
 |mk (kind:Int) (c:C4) (kids:List Rx)
def Rx.kind:Rx->Int| .mk k _ _=>k
def Rx.uO:Rx->C4| .mk _ c _=>c
def Rx.kids:Rx->List Rx| .mk _ _ l=>l
def D7(k:Int):Int:=if k=1 then 0 else if k=2 then 0 else if k=3 then 0 else if k=6 then 1 else if k=4 then 2 else if k=5 then 2 else-1
mutual
def lI:Rx->Nat->Nat->Int×Nat
 | .mk k c l,deep,n=>if 100<n+1 then(2,n+1)else if 30<deep then(7,n+1)else if D7 k≠(l.length:Int)then(1,n+1)else if(decide (k=3) !=decide (c≠C4.zero))=aD then(1,n+1)else CQ l (deep+1) (n+1)
def CQ:List Rx->Nat->Nat->Int×Nat
 |[],_,n=>(0,n)
 |r::l,deep,n=>if(lI r deep n).1≠0 then lI r deep n else CQ l deep (lI r deep n).2
end
mutual
def tM:Rx->Nat
 | .mk _ _ l=>sM l+1
def sM:List Rx->Nat
 |[]=>0
 |r::l=>tM r+sM l
end
theorem Hu(r:Rx):0<tM r:=by obtain⟨k,c,l⟩:=r;rw[tM];omega
theorem D8:∀{l:List Rx} {r:Rx},r∈l->tM r<=sM l
 |x::l,r,h=>by
  rw[sM];rcases dM.1 h with rfl|h
  omega;have:=D8 h;omega
inductive Re where
 |none
 |empty
 |byte (c:C4)
 |Jn (a b:Re)
 |Jo (a b:Re)
 |star (a:Re)
def Re.size:Re->Nat
 | .Jn a b=>a.size+b.size+1
 | .Jo a b=>a.size+b.size+1
 | .star a=>a.size+1
 |_=>1
def Re.LN:Re->Nat
 | .Jn a b=>max a.LN b.LN+1
 | .Jo a b=>max a.LN b.LN+1
 | .star a=>a.LN+1
 |_=>1
def Re.nz:Re->Prop
 | .byte c=>c≠C4.zero
 | .Jn a b=>a.nz/\b.nz
 | .Jo a b=>a.nz/\b.nz
 | .star a=>a.nz
 |_=>True
def Re.kind:Re->Int
 | .none=>1
 | .empty=>2
 | .byte _=>3
 | .Jn _ _=>4
 | .Jo _ _=>5
 | .star _=>6
def Re.uO:Re->C4
 | .byte c=>c
 |_=>C4.zero
def Re.kids:Re->List Re
 | .Jn a b=>[a,b]
 | .Jo a b=>[a,b]
 | .star a=>[a]
 |_=>[]
def l5:Re->Rx
 | .none=> .mk 1 C4.zero []
 | .empty=> .mk 2 C4.zero []
 | .byte c=> .mk 3 c []
 | .Jn a b=> .mk 4 C4.zero [l5 a,l5 b]
 | .Jo a b=> .mk 5 C4.zero [l5 a,l5 b]
 | .star a=> .mk 6 C4.zero [l5 a]
theorem afY(r:Re):l5 r= .mk r.kind r.uO (r.kids.map l5):=by cases r<;>rfl
theorem Re.size_pos(r:Re):0<r.size:=by cases r<;>simp[Re.size]
theorem SN{α:Type}{l:List α}(h:l.length=2):∃a b,l=[a,b]:=
 match l,h with
 |[a,b],_=>⟨a,b,rfl⟩
structure Fit(r:Re)(deep n:Nat):Prop where
 nz:r.nz
 sz:n+r.size<=100
 dp:deep+r.LN<=31
theorem Jp:∀(N:Nat) (r:Rx) (deep n q:Nat),tM r<=N->lI r deep n=(0,q)->∃e:Re,r=l5 e/\Fit e deep n/\q=n+e.size
 |0,r,_,_,_,h,_=>by grind[Hu]
 | N + 1,.mk k c l,deep,n,q,hN,h=>by
  have IH:=Jp N;rw[tM]at hN;rw[lI]at h;split at h;simp at h;split at h;simp at h;split at h;simp at h;split at h;simp at h
  rename_i h1 h2 h3 h4
  have h3:D7 k=(l.length:Int):=by omega
  have h4:decide (k=3)=decide (c≠C4.zero):=by
   grind
  have leaf:∀e:Re,k=e.kind->c=e.uO->l=[]->e.kids=[]->e.size=1->e.LN=1->e.nz->∃e:Re,Rx.mk k c l=l5 e/\Fit e deep n/\q=n+e.size:=λe a1 a2 a3 a4 a5 a6 a7=>by
   subst a1 a2 a3;rw[CQ]at h;refine⟨e,by rw[afY,a4];rfl,⟨a7,by omega,by omega⟩,?_⟩;simp at h;omega
  unfold D7 at h3;have hz:k≠3->c=C4.zero:=λhk=>by
   simp_all
  by_cases k1:k=1
  ·rw[if_pos k1]at h3
   exact leaf .none k1 (hz J) (mK J) I I I trivial
  rw[if_neg k1]at h3
  by_cases k2:k=2
  ·rw[if_pos k2]at h3
   exact leaf .empty k2 (hz J) (mK J) I I I trivial
  rw[if_neg k2]at h3
  by_cases k3:k=3
  ·rw[if_pos k3]at h3
   rw[decide_eq_true k3]at h4;exact leaf (.byte c) k3 I (mK J) I I I (by show c≠C4.zero;exact of_decide_eq_true h4.symm)
  rw[if_neg k3]at h3;have hc:=hz k3;subst hc;have two:∀(a b:Rx),l=[a,b]->∃x y:Re,a=l5 x/\b=l5 y/\Fit x (deep+1) (n+1)/\Fit y (deep+1) (n+1+x.size)/\q=n+1+x.size+y.size:=λa b hl=>by
   subst hl;rw[sM,sM,sM]at hN;rw[CQ,CQ,CQ]at h
   grind
  by_cases k6:k=6
  ·rw[if_pos k6]at h3
   obtain⟨a,rfl⟩:∃a,l=[a]:=List.length_eq_one_iff.1 J;rw[sM,sM]at hN;rw[CQ,CQ]at h
   by_cases e1:(lI a (deep+1) (n+1)).1=0
   ·rw[if_neg J]at h
    obtain⟨x,rfl,f1,g1⟩:=IH a (deep+1) (n+1) (lI a (deep+1) (n+1)).2 J (nw e1 rfl);have:=f1.sz;have:=f1.dp;exact⟨.star x,by rw[k6];rfl,⟨f1.nz,by grind[Re.size],by grind[Re.LN]⟩,by grind[Re.size]⟩
   grind
  rw[if_neg k6]at h3
  by_cases k4:k=4
  ·rw[if_pos k4]at h3
   obtain⟨a,b,rfl⟩:∃a b,l=[a,b]:=SN J;obtain⟨x,y,rfl,rfl,f1,f2,g⟩:=two a b rfl;have:=f1.dp;have:=f2.dp;have:=f2.sz;exact⟨.Jn x y,by rw[k4];rfl,⟨⟨f1.nz,f2.nz⟩,by grind[Re.size],by grind[Re.LN]⟩,by grind[Re.size]⟩
  rw[if_neg k4]at h3
  by_cases k5:k=5
  ·rw[if_pos k5]at h3
   obtain⟨a,b,rfl⟩:∃a b,l=[a,b]:=SN J;obtain⟨x,y,rfl,rfl,f1,f2,g⟩:=two a b rfl;have:=f1.dp;have:=f2.dp;have:=f2.sz;exact⟨.Jo x y,by rw[k5];rfl,⟨⟨f1.nz,f2.nz⟩,by grind[Re.size],by grind[Re.LN]⟩,by grind[Re.size]⟩
  omega
inductive GF(P:List UInt8->Prop):List UInt8->Prop
 |nil:GF P []
 |cons {u v:List UInt8}:P u->GF P v->GF P (u++v)
def LO:Re->List UInt8->Prop
 | .none,_=>False
 | .empty,s=>s=[]
 | .byte c,s=>∃b:UInt8,s=[b]/\c.mem b.toNat=aD
 | .Jn a b,s=>∃u v,s=u++v/\LO a u/\LO b v
 | .Jo a b,s=>LO a s\/LO b s
 | .star a,s=>GF (LO a) s
theorem U0{P:List UInt8->Prop}{u v:List UInt8}(h:GF P u)(hv:P v):GF P (u++v):=by
 induction h with
 |nil=>have:=GF.cons hv .nil;simpa using this
 |cons h1 _ ih=>rw[eY];exact .cons h1 ih
def PF(s:List UInt8)(f j:Nat):List UInt8:=(s.drop f).take (j-f)
theorem SO{s:List UInt8}{f j:Nat}(h:j<=s.length):(PF s f j).length=j-f:=by grind[PF]
theorem YB(s:List UInt8)(f:Nat):PF s f f=[]:=by simp[PF]
theorem SP{s:List UInt8}{f i j:Nat}(h1:f<=i)(h2:i<=j):PF s f j=PF s f i++PF s i j:=by
 unfold PF;rw[show j-f=(i-f)+(j-i)by omega,List.take_add,nt,show f+(i-f)=i by omega]
theorem acO{s u v:List UInt8}{f j:Nat}(hf:f<=j)(hj:j<=s.length)(h:PF s f j=u++v):f+u.length<=j/\u=PF s f (f+u.length)/\v=PF s (f+u.length) j:=by
 grind[SO,bK,SP,PF,List.append_inj]
def U1(r:Re)(s:List UInt8)(f j:Nat):Prop:=f<=j/\j<=s.length/\LO r (PF s f j)
inductive Rch(R:Nat->Nat->Prop)(f:Nat):Nat->Prop
 |refl:Rch R f f
 |step {i j:Nat}:Rch R f i->R i j->Rch R f j
theorem Rch.cons{R:Nat->Nat->Prop}{f i j:Nat}(h:R f i)(h':Rch R i j):Rch R f j:=by
 induction h' with
 |refl=>exact .step .refl h
 |step _ h2 ih=>exact .step ih h2
theorem YC{a:Re}{s:List UInt8}{f j:Nat}(hf:f<=s.length):U1 (.star a) s f j↔Rch (U1 a s) f j:=by
 constructor
 ·rintro⟨h1,h2,h⟩
  have h:GF (LO a) (PF s f j):=h;have aux:∀w,GF (LO a) w->∀f,f<=j->PF s f j=w->Rch (U1 a s) f j:=by
   intro w hw
   induction hw with
   | nil=>
    intro f C9 e;have:=SO (s:=s) (f:=f) h2;rw[e]at this;have:f=j:=by grind
    subst this;exact .refl
   | cons hu _ ih=>
    intro f C9 e;obtain⟨a1,a2,a3⟩:=acO C9 h2 e;exact Rch.cons ⟨Nat.le_add_right _ _,by omega,by grind⟩ (ih _ a1 a3.symm)
  grind
 intro h
 induction h with
 |refl=>exact⟨bC _,hf,by rw[YB];exact GF.nil⟩
 | step _ h2 ih=>
  obtain⟨a1,a2,a3⟩:=ih;obtain⟨b1,b2,b3⟩:=h2;exact⟨by omega,b2,by rw[SP a1 b1];exact U0 a3 b3⟩
def ahQ(s:List UInt8)(r:Re)(f:Nat)(c:C4):Prop:=∀j,j<256->(c.mem j=aD↔U1 r s f j)
abbrev U2:=List UInt8
structure RS where
 p:Nat
 o:Nat
 e:Int
def ajJ:U2:=[48,49,50,51,52,53,54,55,56,57,97,98,99,100,101,102]
def afZ:U2:=[40,41,91,93,124,42,43,63,46,94,45,92]
section
variable{s:U2}
structure U3(s:U2)(st st':RS):Prop where
 o:st'.o=st.o
 ge:st.p<=st'.p
 le:st'.p<=s.length
theorem U3.trans{a b c:RS}(h:U3 s a b)(h':U3 s b c):U3 s a c:=⟨by rw[h'.o,h.o],fH h.ge h'.ge,h'.le⟩
theorem U3.refl{st:RS}(h:st.p<=s.length):U3 s st st:=⟨rfl,bC _,h⟩
end
def ahR(n:Nat):UInt8:=ajJ.getD n 0
def YD(b:UInt8):U2:=
 if b=10 then [92,110]else if b=9 then [92,116]else if b=32 then [92,115]
 else if b<33\/126<b then [92,120,ahR (b.toNat/16),ahR (b.toNat %16)]
 else if b∈afZ then [92,b]else [b]
def af0:Nat->List Nat->Nat
 |_,[]=>0
 |b,x::r=>if x=b+1 then af0 (b+1) r+1 else 0
def ahS(b k:Nat):U2:=YD (fV b)++((if 1<k then [45]else [])++(if 0<k then YD (fV (b+k))else []))
def PG:Nat->List Nat->U2
 |0,_=>[]
 |_+1,[]=>[]
 |f+1,b::r=>ahS b (af0 b r)++PG f (r.drop (af0 b r))
def af1(c:C4):U2:=
 if Xb c=1 then YD (fV ((yh c).getD 0 0))
 else if Xb c=255/\c.mem 10=aF then [46]
 else if 128<Xb c then [91,94]++(PG 256 (yh c.not)++[93])
 else [91]++(PG 256 (yh c)++[93])
def YE(lv:Nat)(e:Re):Bool:=decide (1<=lv/\e.kind=5\/2<=lv/\e.kind=4\/3<=lv/\e.kind=6)
def wrap(b:Bool)(t:U2):U2:=if b then [40]++(t++[41])else t
def body:Re->U2
 | .empty=>[40,41]
 | .none=>[91,93]
 | .byte c=>af1 c
 | .star a=>wrap (YE 3 a) (body a)++[42]
 | .Jn a b=>wrap (YE 1 a) (body a)++wrap (YE 2 b) (body b)
 | .Jo a b=>wrap (YE 0 a) (body a)++([124]++wrap (YE 1 b) (body b))
section
end
end gu
namespace bZ
open Go.RowKit cL dQ Go.ChangeShapes Go.WideShapes Go.ChangeAt
section
variable{H:Type}{enc0:TypeId×Value->H}{P:Program}{W:World}
def U4{α:Type}(W:World)(is:List Value->α->Prop)(c:Nat)(v:Value)(l:List α):Prop:=
 ∃base cap,v=av base l.length cap/\l.length<=cap/\cap<=maxLen/\(0<l.length->∃b off,base=aj ⟨b,off,ak⟩/\∀i (h:i<l.length),∃cs,is cs l[i]/\Rd W b (off+i*c) cs)
def uP(enc0:TypeId×Value->H)(P:Program)(W:World)(t:TypeId){α:Type}(is:List Value->α->Prop):Prop:=
 ∀fuel cs x,sw enc0 P W 0 (λ_=>aD) aD fuel t cs=aj x->∃a,is cs a
theorem uP.mono{t:TypeId}{α:Type}{is is':List Value->α->Prop}(h:uP enc0 P W t is)(hi:∀cs a,is cs a->is' cs a):uP enc0 P W t is':=λf cs x hx=>let ⟨a,ha⟩:=h f cs x hx;⟨a,hi _ _ ha⟩
def isInt(k:IntKind)(lo hi:Int)(cs:List Value)(n:Int):Prop:=cs=[.int k n]/\lo<=n/\n<=hi
def ahT(cs:List Value)(s:List UInt8):Prop:=cs=[str s]/\s.length<=9223372036854775807
theorem Hv{t:TypeId}{k:IntKind}(ht:P.underlying t=aj (.int k)):uP enc0 P W t (isInt k k.min k.max):=λf cs x h=>by
 obtain⟨n,h1,_,h3⟩:=DataW.trod_int ht h;simp only[Lit.wf,fc,decide_eq_true_eq]at h3;exact⟨n,h1,h3.1,h3.2⟩
theorem Hw{t:TypeId}(ht:P.underlying t=aj (.int .i64)):uP enc0 P W t (isInt .i64 (-9223372036854775808) 9223372036854775807):=(Hv ht).mono λcs n h=>⟨h.1,by simpa[I8,sB,mf]using h.2.1,by simpa[I9,sB,mf]using h.2.2⟩
theorem U5{t:TypeId}(ht:P.underlying t=aj (.int .u64)):uP enc0 P W t (isInt .u64 0 18446744073709551615):=(Hv ht).mono λcs n h=>⟨h.1,by simpa[I8,sB,mf]using h.2.1,by simpa[I9,sB,mf]using h.2.2⟩
def ahU{α:Type}(W:World)(is:List Value->α->Prop)(c:Nat)(cs:List Value)(l:List α):Prop:=∃v,cs=[v]/\U4 W is c v l
def ae4{α:Type}(is:List Value->α->Prop)(m c:Nat)(cs:List Value)(l:List α):Prop:=l.length=m/\∀i (h:i<l.length),is ((cs.drop (i*c)).take c) l[i]
theorem LP{t e:TypeId}{m c:Nat}(ht:P.underlying t=aj (.array m e))(hc:P.cellsOf e=c){α:Type}{is:List Value->α->Prop}(hd:uP enc0 P W e is):uP enc0 P W t (λcs l=>cs.length=P.cellsOf t/\ae4 is m c cs l):=λfuel cs x h=>by
 obtain⟨xs,n,_,_,hl,hlen,hf⟩:=DataW.trod_array ht h;have each:∀i,i<m->∃y:α,is ((cs.drop (i*c)).take c) y:=λi hi=>by
  have h1:=hf i hi;rw[hc,bM J]at h1;exact hd n _ _ h1
 obtain⟨l,Pt,hp⟩:=zg m each;exact⟨l,hl,Pt,λi hi=>hp i _ (bM hi)⟩
def YF(k:IntKind)(lo hi:Int)(m:Nat)(cs:List Value)(l:List Int):Prop:=l.length=m/\cs=l.map (.int k)/\∀x∈l,lo<=x/\x<=hi
theorem LQ{k:IntKind}{lo hi:Int}{m:Nat}{cs:List Value}{l:List Int}(hl:cs.length=m)(h:ae4 (isInt k lo hi) m 1 cs l):YF k lo hi m cs l:=by
 obtain⟨h1,h2⟩:=h;refine⟨h1,?_,λx hx=>?_⟩
 ·apply mh
  intro i
  by_cases hi:i<l.length
  ·have h3:=(h2 i hi).1
   rw[lP]at h3;have hic:i<cs.length:=by omega
   rw[eH hic,XZ,uD]at h3;injection h3 with h3 _
   rw[bM hic,jy,bM hi,h3];rfl
  simp_all
 obtain⟨i,hi,rfl⟩:=iC.1 hx;exact(h2 i hi).2
theorem acP{t:TypeId}{fs:Array Field}(ht:P.underlying t=aj (.struct fs)){base:Nat}{v:Value}{d:DataW H}{ps:List MemPlace}(hv:DL P W .any base t v)(h:OZ enc0 P W 0 (λ_=>aD) aD t v d ps):∃cs fuel,v= .agg cs/\sw enc0 P W 0 (λ_=>aD) aD fuel t cs.toList=aj (d,ps):=by
 simp only[DL,ht]at hv;obtain⟨cs,rfl,_,_⟩:=hv;obtain⟨fuel,hf⟩:=h;exact⟨cs,fuel,rfl,hf⟩
end
theorem U4.sl{α:Type}{W:World}{is:List Value->α->Prop}{f:α->Value}{v:Value}{l:List α}(h:U4 W is 1 v l)(hf:∀cs a,is cs a->cs=[f a]):Sl W v l.length (l.map f):=by
 obtain⟨base,cap,h1,h2,h3,h4⟩:=h;refine⟨base,cap,h1,h2,h3,λh0=>?_⟩;obtain⟨b,off,h5,h6⟩:=h4 h0;refine⟨b,off,h5,λj u hj=>?_⟩;have W9:j<l.length:=by grind
 obtain⟨cs,h7,h8⟩:=h6 j W9;have:=h8 0 (f l[j]) (by grind);simp only[lP,lO]at this;rw[this,<-hj];simp[W9]
theorem U4.up{α:Type}{W w:World}{L:List b9}{is:List Value->α->Prop}{c:Nat}{v:Value}{l:List α}(h:U4 W is c v l)(hm:Mem W L w):U4 w is c v l:=by
 obtain⟨base,cap,h1,h2,h3,h4⟩:=h;exact⟨base,cap,h1,h2,h3,λh0=>let ⟨b,off,h5,h6⟩:=h4 h0;⟨b,off,h5,λi hi=>let ⟨cs,h7,h8⟩:=h6 i hi;⟨cs,h7,λj u hj=>hm.cell (h8 j u hj)⟩⟩⟩
end bZ
namespace bZ
open Go.RowKit cL dQ
section
variable{α:Type}{f:α->List Value}{c:Nat}
theorem uQ(hc:∀a,(f a).length=c):∀(l:List α) (k j:Nat) (h:k<l.length),j<c->(l.flatMap f)[k*c+j]?=(f l[k])[j]?
 |a::r,0,j,h,hj=>by
  grind
 |a::r,k+1,j,h,hj=>by
  have ih:=uQ hc r k j (by simp_all) hj;rw[oo,x6 (by rw[hc,pt];omega),hc];simp only[XW];rw[<-ih,pt]
  congr 1
  omega
theorem k_(hc:∀a,(f a).length=c):∀(l:List α),(l.flatMap f).length=l.length*c
 |[]=>by simp
 |a::r=>by rw[oo,bK,hc,k_ hc r,dj,pt,Pq]
theorem gd(hc:∀a,(f a).length=c){W:World}{L:List b9}{b off:Nat}{l:List α}(h:Rd W b off (l.flatMap f)){k:Nat}(hk:k<l.length)(j:Nat)(u:Value)(hu:(f l[k])[j]?=aj u):At W L ⟨b,off+k*c+j,ak⟩ u:=by
 have hj:j<c:=by grind
 rw[kF];exact iP h (by simp_all[uQ])
theorem uR(hc:∀a,(f a).length=c){W:bP}{L:List b9}{b off:Nat}{l:List α}(h:∀j u,(l.flatMap f)[j]?=aj u->At W L ⟨b,off+j,ak⟩ u){k:Nat}(hk:k<l.length)(j:Nat)(u:Value)(hu:(f l[k])[j]?=aj u):At W L ⟨b,off+k*c+j,ak⟩ u:=by
 have hj:j<c:=by grind
 simp_all[kF,uQ]
theorem pz(hc:∀a,(f a).length=c){W:bP}{L:List b9}{i g m cap n size:Nat}{e:TypeId}{l:List α}(hi:L[i]?=aj (a_ e size (av (aj ⟨g,0,ak⟩) m cap) n (l.flatMap f))){k:Nat}(hk:k<l.length)(j:Nat)(u:Value)(hu:(f l[k])[j]?=aj u):At W L ⟨g,0+k*c+j,ak⟩ u:=
 uR hc (off:=0) (λq x hq=>by rw[cX];exact jP hi hq) hk j u hu
end
def rF{α:Type}(p:α->Bool)(l:List α):Int:=match l.findIdx? p with|some i=>i|none=> -1
theorem rG{α:Type}{p:α->Bool}{l:List α}{i:Nat}(hi:i<l.length)(h:p l[i]=aD)(hb:∀j (hj:j<l.length),j<i->p l[j]=aF):rF p l=i:=by
 have:l.findIdx? p=aj i:=XR.2 ⟨hi,h,λj Lm=>by simp_all⟩;simp[rF,this]
theorem rH{α:Type}{p:α->Bool}{l:List α}(hb:∀j (hj:j<l.length),p l[j]=aF):rF p l= -1:=by
 have:l.findIdx? p=none:=List.findIdx?_eq_none_iff.2 λx hx=>by
  obtain⟨j,hj,rfl⟩:=iC.1 hx;exact hb j hj
 grind[rF]
theorem uS{α:Type}(p:α->Bool)(l:List α):decide (0<=rF p l)=l.any p:=by
 unfold rF
 grind
theorem pA{α:Type}(p:α->Bool)(l:List α): -1<=rF p l/\rF p l<l.length\/rF p l= -1:=by
 unfold rF
 cases e:l.findIdx? p with
 |none=>simp
 |some i=>
  obtain⟨h1,h2,_⟩:=XR.1 e
  simp_all
section
variable{P:Program}{n:Nat}{W:bP}{fr:Fr}{L:List b9}{Q:Exit->Act->World->Prop}{ops:Array Oper}{rest:List Oper}{d:Nat}{dst:Option Tmp}{ty:TypeId}{pos:String}{after:Array Edge}{guard:Option (Nat×Bool)}
theorem ku{t e u:TypeId}{x y:Operand}{a:Option Addr}{m c:Nat}{b:Bool}(ht:P.underlying t=aj (.slice e))(hx:ev fr x=aj (av a m c))(hy:ev fr y=aj (av ak 0 0))(hb:a.isNone=b):RR P n W ⟨dst,.binOp .eql t x y u,ty,pos,after,guard⟩ fr L (.bool b):= .mk λac w hr _=>by
 subst hb;have e1:(eqGuard .eql t x y (av a m c) (av ak 0 0)).run P w= .ok () w:=rfl;simp[execOp,hr.ev hx,hr.ev hy,e1,Go.Lib.run_eql_slice_nil w t e a m c 0 0 ht]
theorem wX{t e:TypeId}{c bytes:Nat}[tK:rC P t e c bytes](hn:dq d n=aD)
 (h:∀g,TL P n W ops Q rest ((d,av (aj ⟨g,0,ak⟩) 0 0)::fr) (L++[a_ e c (av (aj ⟨g,0,ak⟩) 0 0) 0 []])):TL P n W ops Q (⟨aj d,.buildSlice t 0 #[],ty,pos,after,ak⟩::rest) fr L:=k8 I λa w hr hm K hK=>by
 obtain⟨i,z,ht,hi,hz,hc,_,hzc,h0⟩:=tK.el.ex;have e':(execOp a.eval ⟨aj d,.buildSlice t 0 #[],ty,pos,after,ak⟩).run P w= .ok (.value (av (aj ⟨w.heap.size,0,ak⟩) 0 0)) (w.alloc (.cells #[] e)):=by
  have hne:¬(0*c>2^24):=by omega
  simp[execOp,uv,run_underlying ht,sizeOf,typeInfo,hi,jv,newRow];have e0:DG 0=#[]:=by simp
  rw[e0,Array.map_empty]
 unfold gi;rw[e'];exact hK _ _ ((h w.heap.size).go _ _ (hr.put hn _) (hm.append (nS w _) (ny.one (World.ownsRow_made w #[] 0 (bH _) aln (by simp)) λk hk=>by
  have:w.heap.size=k:=sE hk;omega)))
theorem ee{t e:TypeId}{s x:Operand}{i size bytes m k:Nat}{v v2:Value}{xs ys:List Value}[tK:rC P t e size bytes](hi:L[i]?=aj (a_ e size v m xs))(fK:SlL W L v2 k ys)(hs:ev fr s=aj v)(hx:ev fr x=aj v2)(hk:ys.length=k*size)
 (h1:∀u∈ys,u.oneCell'=aD) (qX:m+k<=140737488355328) (hb:(m+k)*bytes<=140737488355328) (hn:dq d n=aD)
 (h:∀v',TL P n W ops Q rest ((d,v')::fr) (L.set i (a_ e size v' (m+k) (xs++ys)))):
 TL P n W ops Q (⟨aj d,.call {callee:= .builtin .append,args:=#[s,x],argTypes:=#[t,t]},ty,pos,after,ak⟩::rest) fr L:=⟨λa w hr hm=>by
 obtain⟨base,cap,rfl,o9,zo,eR⟩:=fK w hm;have rB:ys=[]->L.set i (a_ e size v (m+0) (xs++[]))=L:=λ_=>by
  rw[dY,lO];apply mh;intro q
  by_cases hq:i=q
  ·subst hq
   rw[oh (dX.1 hi).1,hi]
  rw[kX hq]
 cases base with
 | none=>
  have hk0:k=0:=by
   simp_all
  subst hk0;have hy:ys=[]:=mK J;subst hy;have h2:=h v;rw[rB I]at h2;exact(D5 tK.el hi hs hx hn h2).go a w hr hm
 | some p=>
  have af2:∀j u,ys[j]?=aj u->w.cell? (p.add j)=aj u:=λj u hj=>by
   obtain⟨b,off,hb,hr⟩:=eR (by
    grind)
   simp only[dL]at hb;subst hb;rw[eS];exact hr j u hj
  exact Jm (c:=cap) tK.el hi hs hx af2 hk h1 qX hb hn h hr hm⟩
theorem aX{i size m:Nat}{e:TypeId}{v:Value}{xs:List Value}(hi:L[i]?=aj (a_ e size v m xs))(h:v.cells=#[v]->v.oneCell'=aD->TL P n W ops Q rest fr L):TL P n W ops Q rest fr L:=⟨λa w hr hm=>by
 have h1:w.ownsRow 0 e size v m xs:=hm.get hi;rcases h1.2 with⟨hv,_⟩|⟨g,cap,kU,hv,_⟩
 exact(h (by rw[hv];rfl) (by rw[hv];rfl)).go a w hr hm;exact(h (by rw[hv];rfl) (by rw[hv];rfl)).go a w hr hm⟩
def sN(base:Option Addr)(cap c i j:Nat):Value:=av (if cap=i then base else base.map (λ(q:Addr)=>q.add (i*c))) (j-i) (cap-i)
theorem LR{t e:TypeId}{x:Operand}{lo hi:Option Operand}{agg:Bool}{c i j len cap:Nat}{base:Option Addr}(ht:P.underlying t=aj (.slice e))(he:Ty P e agg c)(hx:ev fr x=aj (av base len cap))
 (SH:match lo with|none=>i=0|some z=>∃k,ev fr z=aj (.int k (i:Int))) (UT:match hi with|none=>j=len|some z=>∃k,ev fr z=aj (.int k (j:Int))) (h1:i<=j) (h2:j<=cap):
 RR P n W ⟨dst,.slice t x lo hi ak,ty,pos,after,guard⟩ fr L (sN base cap c i j):= .mk λa w hr _=>by
 have e0:(0:Int)<=(i:Int):=by omega
 have hb:∀(k:IntKind) (p q:Nat) (cd:BoundsCode),p<=q->(I7 (.int k (p:Int)) q cd).run P w= .ok p w:=λk p q cd h=>by
  simp_all[I7,asIntOf]
 unfold sN
 cases lo<;>cases hi
 ·simp only at SH UT
  subst SH UT;simp[execOp,hr.ev hx,sy,sA,run_underlying ht,sx,he.size]
 ·obtain⟨k,hk⟩:=UT
  simp only at SH;subst SH;simp[execOp,hr.ev hx,hr.ev hk,sy,sA,run_underlying ht,sx,he.size,hb k j cap _ h2]
 ·obtain⟨k,hk⟩:=SH
  simp only at UT;subst UT;simp[execOp,hr.ev hx,hr.ev hk,sy,sA,run_underlying ht,sx,he.size,hb k i j _ h1]
 ·obtain⟨k,hk⟩:=SH
  obtain⟨k',o8⟩:=UT;simp[execOp,hr.ev hx,hr.ev hk,hr.ev o8,sy,sA,run_underlying ht,sx,he.size,hb k i j _ h1,hb k' j cap _ h2]
theorem rI{t e:TypeId}{x z:Operand}{agg:Bool}{c i len cap:Nat}{base:Option Addr}{k:IntKind}(ht:P.underlying t=aj (.slice e))(he:Ty P e agg c)(hx:ev fr x=aj (av base len cap))(hz:ev fr z=aj (.int k (i:Int)))(h1:i<=len)(h2:len<=cap):
 RR P n W ⟨dst,.slice t x (aj z) ak ak,ty,pos,after,guard⟩ fr L (sN base cap c i len):=LR (lo:=aj z) (hi:=ak) ht he hx ⟨k,hz⟩ I h1 h2
theorem A8{t e:TypeId}{x z:Operand}{agg:Bool}{c j len cap:Nat}{base:Option Addr}{k:IntKind}(ht:P.underlying t=aj (.slice e))(he:Ty P e agg c)(hx:ev fr x=aj (av base len cap))(hz:ev fr z=aj (.int k (j:Int)))(h2:j<=cap):
 RR P n W ⟨dst,.slice t x ak (aj z) ak,ty,pos,after,guard⟩ fr L (sN base cap c 0 j):=LR (lo:=ak) (hi:=aj z) ht he hx I ⟨k,hz⟩ (bH _) h2
theorem acQ{t u s:TypeId}{x y z:Operand}{m m' m2 r:Int}(hx:ev fr x=aj (az aB m))(hy:ev fr y=aj (az aB m'))(hz:ev fr z=aj (az aB m2))(h:min m (min m' m2)=r):RR P n W ⟨dst,.call {callee:= .builtin .min,args:=#[x,y,z],argTypes:=#[t,u,s]},ty,pos,after,guard⟩ fr L (az aB r):= .mk λa w hr _=>by
 subst h;have h1:=hr.ev hx;have h2:=hr.ev hy;have h3:=hr.ev hz;have e:∀a b:Int,(if b<a then b else a)=min a b:=λa b=>by omega
 simp_all[me,Xy,Xz,XA]
theorem A9{α:Type}{f:α->List Value}{c:Nat}(hc:∀a,(f a).length=c){w:World}{base:Option Addr}{cap:Nat}{l:List α}(h:Sl w (av base l.length cap) l.length (l.flatMap f)){i j:Nat}(h1:i<=j)(h2:j<=l.length):
 Sl w (sN base cap c i j) ((l.drop i).take (j-i)).length (((l.drop i).take (j-i)).flatMap f):=by
 obtain⟨b,cp,he,k1,k2,k3⟩:=h;simp only[jN,true_and]at he;obtain⟨rfl,rfl⟩:=he;have hlen:((l.drop i).take (j-i)).length=j-i:=by grind
 refine⟨_,cap-i,by rw[hlen];rfl,by omega,by omega,λh0=>?_⟩;rw[hlen]at h0;obtain⟨b,off,rfl,hr⟩:=k3 J;refine⟨b,off+i*c,by rw[if_neg J,Option.map_some,eS],λq u hq=>?_⟩;have e:l.flatMap f=(l.take i).flatMap f++((l.drop i).take (j-i)).flatMap f++((l.drop i).drop (j-i)).flatMap f:=by
  grind[om]
 have Lo:((l.take i).flatMap f).length=i*c:=by grind[k_,jz]
 have:=hr (i*c+q) u (by
  grind)
 grind
theorem lA{i size m:Nat}{e:TypeId}{v:Value}{xs:List Value}(hi:L[i]?=aj (a_ e size v m xs))(h:∀base cap,v=av base m cap->m<=cap->cap<=9223372036854775807->TL P n W ops Q rest fr L):TL P n W ops Q rest fr L:=⟨λa w hr hm=>by
 have h1:w.ownsRow 0 e size v m xs:=hm.get hi;obtain⟨base,cap,hv,o9,zo,_⟩:=Sl.dx h1;exact(h base cap hv o9 (by simp_all[maxLen])).go a w hr hm⟩
theorem Jq{c:Code}{i size m:Nat}{e:TypeId}{v:Value}{xs:List Value}(hi:L[i]?=aj (a_ e size v m xs))(h:∀base cap,v=av base m cap->m<=cap->cap<=9223372036854775807->T P n W c Q fr L):T P n W c Q fr L:=⟨λa w hr hm=>by
 have h1:w.ownsRow 0 e size v m xs:=hm.get hi;obtain⟨base,cap,hv,o9,zo,_⟩:=Sl.dx h1;exact(h base cap hv o9 (by simp_all[maxLen])).go a w hr hm⟩
theorem SQ{c:Code}{i size m:Nat}{e:TypeId}{v:Value}{xs:List Value}(hi:L[i]?=aj (a_ e size v m xs))(h:v.cells=#[v]->v.oneCell'=aD->T P n W c Q fr L):T P n W c Q fr L:=⟨λa w hr hm=>by
 have h1:w.ownsRow 0 e size v m xs:=hm.get hi;obtain⟨base,cap,hv,_⟩:=Sl.dx h1;exact(h (by rw[hv];rfl) (by rw[hv];rfl)).go a w hr hm⟩
def Hx(fr:Fr):List Operand->Option (List Value)
 |[]=>aj []
 |x::r=>match ev fr x,Hx fr r with|some v,aj l=>aj (v::l)|_,_=>ak
theorem D9{a:Act}(hr:na n a fr):∀(l:List Operand) (vs:List Value),Hx fr l=aj vs->l.map a.eval=vs
 |[],vs,h=>by simp_all[Hx]
 | x ::r,vs,h=>by
  simp only[Hx]at h;split at h
  ·rename_i v l h1 h2
   simp only[dL]at h;subst h;simp[hr.ev h1,D9 hr r l h2]
  cases h
theorem sO{fn:Fn}{first cap:Array Operand}{vs us:List Value}(h1:Hx fr first.toList=aj vs)(h2:Hx fr cap.toList=aj us):RR P n W ⟨dst,.makeFunc fn first cap,ty,pos,after,guard⟩ fr L (.func fn vs.toArray us.toArray):= .mk λa w hr _=>by
 have e1:first.map a.eval=vs.toArray:=by grind[D9,DF]
 have e2:cap.map a.eval=us.toArray:=by grind[D9,DF]
 simp only[execOp,e1,e2];rfl
end
open Go.ChangeShapes Go.WideShapes Go.ChangeAt
structure Msr(P:Program)(H:Type) where
 ok:TypeId->DataW H->Prop
 lim:TypeId->Nat->Prop
 af3:Nat->Prop
 zero:∀e,lim e 0
 slice:∀{t e:TypeId} {elems spare:List (DataW H)},P.underlying t=aj (.slice e)->ok t (.slice elems spare)->lim e elems.length/\∀d∈elems,ok e d
 YG:∀{t:TypeId} {fs:Array Field} {parts:List (DataW H)},P.underlying t=aj (.struct fs)->ok t (.agg parts)->∀(i:Nat) (f:Field) (d:DataW H),fs[i]?=aj f->parts[i]?=aj d->ok f.type d
 arr:∀{t e:TypeId} {m:Nat} {parts:List (DataW H)},P.underlying t=aj (.array m e)->ok t (.agg parts)->∀d∈parts,ok e d
 str:∀{t:TypeId} {b:List UInt8},ok t (.lit (.string b))->af3 b.length
section
variable{H:Type}{P:Program}
theorem uT{e:TypeId}:∀(l:List (DataW H)) (d:DataW H),d∈l->∀n∈d.weights P e,n∈DJ P e l
 |[],_,h,_,_=>by cases h
 |x::r,d,h,n,hn=>by
  rw[DJ,gj];rcases dM.1 h with rfl|h
  exact .inl hn;exact .inr (uT r d h n hn)
theorem sP:∀(ts:List TypeId) (l:List (DataW H)) (i:Nat) (t:TypeId) (d:DataW H),ts[i]?=aj t->l[i]?=aj d->∀n∈d.weights P t,n∈xX P ts l
 |[],_,_,_,_,h,_,_,_=>by simp at h
 |_::_,[],_,_,_,_,h,_,_=>by simp at h
 |t0::ts,d0::l,0,t,d,ht,hd,n,hn=>by
  simp only[pj,dL]at ht hd;subst ht hd;rw[xX,gj];exact .inl hn
 |t0::ts,d0::l,i+1,t,d,ht,hd,n,hn=>by
  rw[xX,gj];exact .inr (sP ts l i t d (by simpa using ht) (by simpa using hd) n hn)
def SR(P:Program)(H:Type):Msr P H where
 ok t d:=∀n∈d.weights P t,n<=reachBytes
 lim e n:=n*P.bytesOf e<=reachBytes
 af3 n:=n<=reachBytes
 zero e:=by simp
 slice:=λ{t e elems spare} ht h=>by
  have hw:xY P t (.slice elems spare)=(elems.length+spare.length)*P.bytesOf e::(DJ P e elems++DJ P e spare):=by rw[xY,ht]
  rw[hw]at h;refine⟨?_,λd hd n hn=>h n ?_⟩
  ·have h1:=h _ (iO)
   exact fH (x8 _ J) h1
  exact List.mem_cons_of_mem _ (uE _ (uT elems d hd n hn))
 YG:=λ{t fs parts} ht h i f d hf hd n hn=>by
  have hw:xY P t (.agg parts)=xX P (fs.toList.map (·.type)) parts:=by rw[xY,ht]
  rw[hw]at h;exact h n (sP _ _ i f.type d (by rw[jy,Array.getElem?_toList,hf];rfl) hd n hn)
 arr:=λ{t e m parts} ht h d hd n hn=>by
  have hw:xY P t (.agg parts)=DJ P e parts:=by rw[xY,ht]
  rw[hw]at h;exact h n (uT parts d hd n hn)
 str:=λ{t b} h=>h _ (by rw[xY];exact iO)
theorem LS{ts:List TypeId}{ds:List (DataW H)}(hsz:(xX P ts ds).all (· <=reachBytes)=aD)(j:Nat){t:TypeId}{d:DataW H}(ht:ts[j]?=aj t)(hd:ds[j]?=aj d):(SR P H).ok t d:=λn hn=>by
 have:=pq.1 hsz n (sP ts ds j t d ht hd n hn)
 simpa using this
end
section
variable{H:Type}{enc0:TypeId×Value->H}{P:Program}{W:World}{M:Msr P H}
def lc(M:Msr P H)(enc0:TypeId×Value->H)(W:World)(t:TypeId){α:Type}(is:List Value->α->Prop):Prop:=
 ∀fuel cs x,sw enc0 P W 0 (λ_=>aD) aD fuel t cs=aj x->M.ok t x.1->∃a,is cs a
theorem lc.mono{t:TypeId}{α β:Type}{is:List Value->α->Prop}{is':List Value->β->Prop}(h:lc M enc0 W t is)(hi:∀cs a,is cs a->∃b,is' cs b):lc M enc0 W t is':=λf cs x hx hm=>let ⟨_,ha⟩:=h f cs x hx hm;hi _ _ ha
theorem Hy{t:TypeId}{α:Type}{is:List Value->α->Prop}(h:uP enc0 P W t is):lc M enc0 W t is:=λf cs x hx _=>h f cs x hx
theorem PH{t:TypeId}(ht:P.underlying t=aj (.int .i64)):lc M enc0 W t (isInt .i64 (-9223372036854775808) 9223372036854775807):=Hy (Hw ht)
theorem yi{t:TypeId}(ht:P.underlying t=aj .string):lc M enc0 W t (λcs s=>ahT cs s/\M.af3 s.length):=λf cs x h hm=>by
 obtain⟨s,h1,h2,h3⟩:=DataW.trod_string ht h;refine⟨s.data.toList,⟨by rw[h1,Yi],?_⟩,?_⟩
 ·have e:s.data.toList.length=s.size:=ul
  unfold maxLen at h3;omega
 rw[h2]at hm;exact M.str hm
theorem sQ{t e:TypeId}{c:Nat}(ht:P.underlying t=aj (.slice e))(hc:P.cellsOf e=c)(Gq:0<c){α:Type}{is:List Value->α->Prop}(hd:lc M enc0 W e is)(_:∀cs a,is cs a->cs.length=c):lc M enc0 W t (λcs l=>ahU W is c cs l/\M.lim e l.length):=λfuel cs x h hm=>by
 rcases XF ht h with⟨rfl,_⟩|⟨a,len,cap,elems,rest,n,_,rfl,hx,_,hlc,hmx,tK,zf,_⟩
 exact⟨[],⟨_,rfl,ak,0,rfl,bC _,by decide,λh=>by simp at h⟩,M.zero e⟩;rw[hx]at hm;obtain⟨Jr,qW⟩:=M.slice ht hm;have each:∀i,i<len->∃y:α,∃cs,W.cells? 0 (a.add (i*c)) c=aj cs/\is cs y:=λi hi=>by
  have h1:=zf i hi;rw[hc,bM J]at h1
  cases hcell:W.cells? 0 (a.add (i*c)) c with
  |none=>rw[hcell]at h1;simp at h1
  | some cs=>
   rw[hcell]at h1;obtain⟨y,hy⟩:=hd n cs _ h1 (qW _ (fG.2 ⟨_,cH J,rfl⟩));exact⟨y,cs,rfl,hy⟩
 obtain⟨l,Pt,hp⟩:=zg len each;subst Pt;refine⟨l,⟨_,rfl,aj a,cap,rfl,hlc,hmx,λh0=>?_⟩,by rw[eI,tK]at Jr;exact Jr⟩;obtain⟨cs0,h1,h2⟩:=hp 0 l[0] (bM h0);have h3:=(jB h1).2 0 Gq;have hlen:=(jB h1).1;rw[bM J]at h3;have hsp:=A2 h3;have e0:a.spot=none:=by
  rw[A1]at hsp;unfold um at hsp
  simpa using hsp
 obtain⟨b,off,spot⟩:=a;simp only at e0;subst e0;refine⟨b,off,rfl,λi hi=>?_⟩;obtain⟨cs,h4,h5⟩:=hp i l[i] (bM hi);refine⟨cs,h5,λj u hj=>?_⟩;have W9:j<c:=by have:=(dX.1 hj).1;rw[(jB h4).1]at this;exact this
 have h6:=(jB h4).2 j W9;rw[eS,eS]at h6;rw[h6];exact hj
theorem A_{t:TypeId}{fs:Array Field}(ht:P.underlying t=aj (.struct fs)){fuel:Nat}{cs:List Value}{x:DataW H×List MemPlace}(h:sw enc0 P W 0 (λ_=>aD) aD fuel t cs=aj x)(hm:M.ok t x.1):
 cs.length=P.cellsOf t/\∀(i:Nat) (f:Field),fs[i]?=aj f->∀{α:Type} {is:List Value->α->Prop},lc M enc0 W f.type is->∃a,is ((cs.drop f.offset).take (P.cellsOf f.type)) a:=by
 obtain⟨xs,n,_,hx,hl,hlen,hf⟩:=DataW.trod_struct ht h;refine⟨hl,λi f hi α is ho=>?_⟩;have h1:=hf i f hi;have hlt:i<xs.length:=by rw[hlen];exact(kC.1 hi).1
 rw[bM hlt]at h1;rw[hx]at hm;exact ho n _ _ h1 (M.YG ht hm i f _ hi (by rw[jy,bM hlt];rfl))
theorem YH{t:TypeId}{fs:Array Field}(ht:P.underlying t=aj (.struct fs)){base:Nat}{v:Value}{d:DataW H}{ps:List MemPlace}(hv:DL P W .any base t v)(h:OZ enc0 P W 0 (λ_=>aD) aD t v d ps){α:Type}{is:List Value->α->Prop}(ho:lc M enc0 W t is)(hm:M.ok t d):∃cs a,v= .agg cs/\is cs.toList a:=by
 obtain⟨cs,fuel,rfl,hf⟩:=acP ht hv h;obtain⟨a,ha⟩:=ho fuel cs.toList _ hf hm;exact⟨cs,a,rfl,ha⟩
end
theorem U4.flat{α:Type}{W:World}{is:List Value->α->Prop}{f:α->List Value}{c:Nat}{v:Value}{l:List α}(h:U4 W is c v l)(hc:∀a,(f a).length=c)(Gq:0<c)(hf:∀cs a,is cs a->cs=f a):Sl W v l.length (l.flatMap f):=by
 obtain⟨base,cap,h1,h2,h3,h4⟩:=h;refine⟨base,cap,h1,h2,h3,λh0=>?_⟩;obtain⟨b,off,h5,h6⟩:=h4 h0;refine⟨b,off,h5,λj u hj=>?_⟩;have W9:=(dX.1 hj).1;rw[B4 hc]at W9;have hi:j/c<l.length:=(Po Gq).2 W9;have UJ:=x_ j Gq;have hdm:j/c*c+j %c=j:=by rw[X6];exact X5 j c
 obtain⟨cs,h7,h8⟩:=h6 (j/c) hi;rw[hf _ _ h7]at h8;have h9:=uG hc l (j/c) (j %c) l[j/c] (bM hi) UJ;rw[hdm]at h9;rw[h9]at hj;have:=h8 (j %c) u hj;rw[kF,hdm]at this;exact this
end bZ
namespace bZ
open Go.RowKit cL dQ
section
variable{P:Program}{n:Nat}{W:bP}{fr:Fr}{L:List b9}{Q:Exit->Act->World->Prop}{ops:Array Oper}{rest:List Oper}{d:Nat}{dst:Option Tmp}{ty:TypeId}{pos:String}{after:Array Edge}{guard:Option (Nat×Bool)}
theorem uU{t e:TypeId}{x y:Operand}{c bytes m cap:Nat}{k k':IntKind}{zs:Array Value}[tK:rC P t e c bytes][hz0:eU P e zs](hx:ev fr x=aj (.int k (m:Int)))(hy:ev fr y=aj (.int k' (cap:Int)))(PI:m<=cap)(hb:bytes*cap<=281474976710656)(qX:cap<=9223372036854775807)(hn:dq d n=aD)
 (h:∀g,TL P n W ops Q rest ((d,av (aj ⟨g,0,ak⟩) m cap)::fr) (L++[aR g (madeCells zs (cap*c)) e])):TL P n W ops Q (⟨aj d,.makeSlice t x y,ty,pos,after,ak⟩::rest) fr L:=k8 I λa w hr hm K hK=>by
 obtain⟨i,z,ht,hi,hz,hc,PB,hzc,h0⟩:=tK.el.ex;obtain⟨i2,z2,Xc,hz2,hz3⟩:=eU.ex (P:=P) (t:=e);rw[hi]at Xc;obtain rfl:i=i2:=sE Xc;rw[hz]at hz2;obtain rfl:z=z2:=sE hz2;have OP:(i.bytes:Int)*(cap:Int)<=281474976710656:=by
  grind
 have hrun:=run_make (P:=P) w t e i z ht hi hz k k' (m:Int) (cap:Int) J J OP J;rw[dD,dD,hc,hz3]at hrun;have e':(execOp a.eval ⟨aj d,.makeSlice t x y,ty,pos,after,ak⟩).run P w= .ok (.value (sV w.heap.size m cap)) (w.alloc (.cells (madeCells zs (cap*c)) e)):=by
  simp only[execOp,hr.ev hx,hr.ev hy,oe,hrun,qU,ph]
 unfold gi;rw[e'];exact hK _ _ ((h w.heap.size).go _ _ (hr.put hn _) (hm.append (nS w _) (ny.one (heap_alloc_new w _) λk hk=>by simp_all[aR])))
theorem Mem.YI{w:World}{i g m cap size:Nat}{cs:Array Value}{e:TypeId}(h:Mem W L w)(hi:L[i]?=aj (aR g cs e))(hc:cs.size=cap*size)(PI:m<=cap)(lf:cap<=9223372036854775807):Mem W (L.set i (a_ e size (av (aj ⟨g,0,ak⟩) m cap) m (cs.toList.take (m*size)))) w:=
 h.CN hi ⟨rfl,rfl,rfl,bC _,λ_ _ _=>rfl⟩ ⟨by simp_all,.inr ⟨g,cap,cs,rfl,bH _,h.get hi,PI,by simp_all[maxLen],hc,rfl⟩⟩ λk hk=> .inl hk
theorem Hz{i g m cap:Nat}{cs:Array Value}{e:TypeId}(size:Nat)(hi:L[i]?=aj (aR g cs e))(hc:cs.size=cap*size)(PI:m<=cap)(lf:cap<=9223372036854775807)(h:TL P n W ops Q rest fr (L.set i (a_ e size (av (aj ⟨g,0,ak⟩) m cap) m (cs.toList.take (m*size))))):TL P n W ops Q rest fr L:=
 ⟨λa w hr sG=>h.go a w hr (sG.YI hi hc PI lf)⟩
theorem YJ{c:Code}{i g m cap:Nat}{cs:Array Value}{e:TypeId}(size:Nat)(hi:L[i]?=aj (aR g cs e))(hc:cs.size=cap*size)(PI:m<=cap)(lf:cap<=9223372036854775807)(h:T P n W c Q fr (L.set i (a_ e size (av (aj ⟨g,0,ak⟩) m cap) m (cs.toList.take (m*size))))):T P n W c Q fr L:=
 ⟨λa w hr sG=>h.go a w hr (sG.YI hi hc PI lf)⟩
theorem kI{i g m cap:Nat}{cs:Array Value}{T:TypeId}{xs:List Value}(hi:L[i]?=aj (aR g cs T))(hx:∀(j:Nat) (u:Value),xs[j]?=aj u->cs[j]?=aj u)(PI:m<=cap)(lf:cap<=9223372036854775807):SlL W L (av (aj ⟨g,0,ak⟩) m cap) m xs:=λw hm=>
 ⟨_,cap,rfl,PI,by simp_all[maxLen],λ_=>⟨g,0,rfl,λj u hj=>by
  rw[cX];exact aI hi (hx j u hj) w hm⟩⟩
end
theorem ae5{z:Array Value}{k m:Nat}(h:z.size=k)(h0:0<k):madeCells z (m*k)=((dl m z.toList).flatten).toArray:=by
 subst h;apply Xu;intro j;unfold madeCells
 by_cases hj:j<m*z.size
 ·have h2:j/z.size<m:=(Po h0).2 hj
  have h3:=x_ j h0;have key:∀(m j:Nat),j<m*z.size->((dl m z.toList).flatten)[j]?=z.toList[j %z.size]?:=by
   intro m
   induction m with
   |zero=>omega
   | succ m ih=>
    intro j hj;rw[List.replicate_succ,DP]
    by_cases hc:j<z.size
    simp_all[mg,X4];rw[x6 (by grind)];simp only[ul];rw[ih (j-z.size) (by grind)]
    congr 1
    simp_all[Nat.mod_eq_sub_mod]
  simp_all
 simp_all
theorem HA:∀(xs:List Value) (acc:Array Value) (off k:Nat),off+k+xs.length<=acc.size->(xs.toArray.zipIdx k).foldl (λcs (x:Value×Nat)=>cs.setIfInBounds (off+x.2) x.1) acc=(acc.toList.take (off+k)++xs++acc.toList.drop (off+k+xs.length)).toArray
 | [],acc,off,k,_=>by
  have e0:(([]:List Value).toArray.zipIdx k)=#[]:=by rfl
  rw[e0];simp
 | x ::xs,acc,off,k,h=>by
  simp only[dj]at h;have e:(x::xs).toArray.zipIdx k=#[(x,k)]++xs.toArray.zipIdx (k+1):=by
   simp
  rw[e,Array.foldl_append];have e2:(#[(x,k)]:Array (Value×Nat)).foldl (λcs (x:Value×Nat)=>cs.setIfInBounds (off+x.2) x.1) acc=acc.setIfInBounds (off+k) x:=by simp
  rw[e2,HA xs _ off (k+1) (by grind)]
  congr 1
  have hA:(acc.toList.take (off+k)).length=off+k:=by grind
  have hA1:(acc.toList.take (off+k)++[x]).length=off+k+1:=by simp_all
  have e3:acc.toList.set (off+k) x=(acc.toList.take (off+k)++[x])++acc.toList.drop (off+k+1):=by
   rw[DN,if_pos (by grind)];simp
  simp only[I3,dj];rw[e3,show off+(k+1)=off+k+1 by omega,Pk hA1,<-nt,Pl hA1,nt];simp only[eY,kD,e7];rw[show off+k+1+xs.length=off+k+(xs.length+1)by omega]
theorem ae6{c:Nat}(c0:Nat->Option (Nat×Nat))(Gq:∀i,c0 i=aj (i*c,c)):∀(vs:List Value) (k:Nat) (acc:Array Value),(k+vs.length)*c<=acc.size->(∀v∈vs,v.cells.size=c)->
 jv c0 acc ((vs.zipIdx k).map λ(v,i)=>(i,v))=aj (acc.toList.take (k*c)++vs.flatMap (λv=>v.cells.toList)++acc.toList.drop ((k+vs.length)*c)).toArray
 |[],k,acc,h,_=>by simp[jv]
 | v ::vs,k,acc,h,h1=>by
  simp only[dj]at h;have hv:=h1 v (by simp);have hsz:k*c+c<=acc.size:=by
   grind
  rw[Pg,ff];simp only[jv,Gq];rw[if_neg (by simp_all)];have ae7:=HA v.cells.toList acc (k*c) 0 (by simp_all);simp only[Xt,lO,ul,hv]at ae7;rw[ae7,ae6 c0 Gq vs (k+1) _ (by grind) (λu hu=>h1 u (by grind))]
  congr 2
  have hA:(acc.toList.take (k*c)).length=k*c:=by grind
  have hA1:(acc.toList.take (k*c)++v.cells.toList).length=(k+1)*c:=by grind
  simp only[oo,dj];rw[Pk hA1];have e5:(k+1+vs.length)*c=(k+1)*c+vs.length*c:=nv _ _ _;rw[e5,<-nt,Pl hA1,nt];simp only[eY];rw[show k*c+c+vs.length*c=(k+(vs.length+1))*c by rw[nv,nv,DQ];omega]
theorem YK{P:Program}{t e:TypeId}{c bytes:Nat}(tK:El P t e c bytes)(vs:List Value)(h1:∀v∈vs,v.cells.size=c)(h0:0<vs.length)(hm:vs.length*c<=16777216)(w:World):
 (uv t vs.length (vs.zipIdx.map λ(v,i)=>(i,v)).toArray).run P w= .ok (av (aj ⟨w.heap.size,0,ak⟩) vs.length vs.length) (w.alloc (.cells (vs.flatMap λv=>v.cells.toList).toArray e)):=by
 obtain⟨i,z,ht,hi,hz,hc,_,hzc,hp⟩:=tK.ex;have uK:=ae6 (c:=c) (λi=>aj (i*c,c)) (by simp) vs 0 ((DG (vs.length*c)).map (z.cells[· %z.cells.size]!)) (by simp) h1
 simp only[A1,uD,e7,cX]at uK;rw[jx (by simp)]at uK;simp only[dY]at uK;have hne:¬(vs.length*c>2^24):=by omega
 have Yq:¬(vs.length*c=0):=by
  have:=Nat.mul_pos h0 hp;omega
 simp only[uv,oe,run_underlying ht,qU,sizeOf,typeInfo,run_program,hi,ph,hc,zeroValue,hz,if_neg hne,if_neg Yq];simp only[uK,newRow];simp
section
variable{P:Program}{n:Nat}{W:bP}{fr:Fr}{L:List b9}{Q:Exit->Act->World->Prop}{ops:Array Oper}{rest:List Oper}{d:Nat}{dst:Option Tmp}{ty:TypeId}{pos:String}{after:Array Edge}{guard:Option (Nat×Bool)}
theorem fw{t e:TypeId}{c bytes m:Nat}{parts:Array (Nat×Operand)}{cs:Array Value}(vs:List Value)[tK:rC P t e c bytes](hp:sJ fr parts.toList=aj (vs.zipIdx.map λ(v,i)=>(i,v)))(hm:vs.length=m)(h0:dq 0 m=aD)(h1:∀v∈vs,v.cells.size=c)(hs:x9 (m*c) 16777216=aD)(hcs:cs=(vs.flatMap λv=>v.cells.toList).toArray)(hn:dq d n=aD)
 (h:∀g,TL P n W ops Q rest ((d,av (aj ⟨g,0,ak⟩) m m)::fr) (L++[aR g cs e])):TL P n W ops Q (⟨aj d,.buildSlice t m parts,ty,pos,after,ak⟩::rest) fr L:=by
 subst hm hcs;refine PA (λa w hr=>?_) hn h;have e:(parts.map λ(i,x)=>(i,a.eval x))=(vs.zipIdx.map λ(v,i)=>(i,v)).toArray:=by
  grind[sK,DF]
 rw[e];exact YK tK.el vs h1 (nu h0) (nu hs) w
theorem LU{t e:TypeId}{x z:Operand}{agg:Bool}{c j len cap:Nat}{base:Option Addr}{k:IntKind}(ht:P.underlying t=aj (.slice e))(he:Ty P e agg c)(hx:ev fr x=aj (av base len cap))(hz:ev fr z=aj (.int k (j:Int)))(h:j<=cap):RR P n W ⟨dst,.slice t x ak (aj z) ak,ty,pos,after,guard⟩ fr L (av base j cap):= .mk λa w hr hm=>by
 have h1:=(A8 (P:=P) (n:=n) (W:=W) (L:=L) (dst:=dst) (ty:=ty) (pos:=pos) (after:=after) (guard:=guard) ht he hx hz h).go a w hr hm;have e1:sN base cap c 0 j=av base j cap:=by
  unfold sN
  cases base with
  |none=>simp
  |some q=>simp[um]
 rw[e1]at h1;exact h1
theorem lR{fn:Func}{R:Ending->World->Prop}(lY:fn.results=#[])(h:∀w,Mem W L w->R (.returned (.tuple #[])) w):E n W .normal (bodyPost P fn R) fr L:=
 ⟨λa w hr hm=>⟨hr.defers,.tuple #[],by simp[results,lY],h w hm⟩⟩
end
structure wY(α:Type) where
 c:Nat
 is:(Nat->Prop)->World->List Value->α->Prop
 len:∀{F w cs a},is F w cs a->cs.length=c
 stay:∀{F w w' cs a},is F w cs a->(∀k,F k->w'.heap[k]?=w.heap[k]?)->is F w' cs a
 mono:∀{F F' w cs a},is F w cs a->(∀k,F k->F' k)->is F' w cs a
def All:Nat->Prop:=λ_=>True
theorem rd_stay{w w':World}{b off:Nat}{cs:List Value}(h:Rd w b off cs)(hk:w'.heap[b]?=w.heap[b]?):Rd w' b off cs:=λj u hj=>by
 rw[XP (w:=w) (a:=⟨b,off+j,ak⟩) hk];exact h j u hj
def kw{α:Type}(s:wY α)(F:Nat->Prop)(w:World)(v:Value)(l:List α):Prop:=
 ∃base cap,v=av base l.length cap/\l.length<=cap/\cap<=maxLen/\(0<l.length->∃b off,base=aj ⟨b,off,ak⟩/\F b/\∀i (h:i<l.length),∃cs,s.is F w cs l[i]/\Rd w b (off+i*s.c) cs)
section
variable{α β:Type}{s:wY α}{F F':Nat->Prop}{w w':World}{v:Value}{l:List α}
theorem kw.stay(h:kw s F w v l)(hk:∀k,F k->w'.heap[k]?=w.heap[k]?):kw s F w' v l:=
 let ⟨base,cap,h1,h2,h3,h4⟩:=h
 ⟨base,cap,h1,h2,h3,λh0=>let ⟨b,off,h5,h6,h7⟩:=h4 h0;⟨b,off,h5,h6,λi hi=>let ⟨cs,h8,h9⟩:=h7 i hi;⟨cs,s.stay h8 hk,rd_stay h9 (hk b h6)⟩⟩⟩
theorem kw.mono(h:kw s F w v l)(hk:∀k,F k->F' k):kw s F' w v l:=
 let ⟨base,cap,h1,h2,h3,h4⟩:=h
 ⟨base,cap,h1,h2,h3,λh0=>let ⟨b,off,h5,h6,h7⟩:=h4 h0;⟨b,off,h5,hk b h6,λi hi=>let ⟨cs,h8,h9⟩:=h7 i hi;⟨cs,s.mono h8 hk,h9⟩⟩⟩
theorem kw.nil:kw s F w (av ak 0 0) []:=⟨ak,0,rfl,bC _,by decide,λh=>by grind⟩
def zq(f:α->List Value)(c:Nat)(hc:∀a,(f a).length=c)(p:α->Prop):wY α:=
 ⟨c,λ_ _ cs a=>cs=f a/\p a,λh=>by rw[h.1,hc],λh _=>h,λh _=>h⟩
def fP:wY Int:=zq (λn=>[az aB n]) 1 (λ_=>rfl) cL.dV
def U6:wY (List UInt8):=zq (λs=>[str s]) 1 (λ_=>rfl) (λs=>s.length<=9223372036854775807)
def bR(s:wY α):wY (List α):=
 ⟨1,λF w cs l=>∃v,cs=[v]/\kw s F w v l,λ⟨_,h,_⟩=>by rw[h];rfl,λ⟨v,h1,h2⟩ hk=>⟨v,h1,h2.stay hk⟩,λ⟨v,h1,h2⟩ hk=>⟨v,h1,h2.mono hk⟩⟩
def YL(s:wY α)(t:wY β):wY (α×β):=
 ⟨s.c+t.c,λF w cs x=>∃c1 c2,cs=c1++c2/\s.is F w c1 x.1/\t.is F w c2 x.2,λ⟨_,_,h,h1,h2⟩=>by rw[h,bK,s.len h1,t.len h2],
  λ⟨c1,c2,h,h1,h2⟩ hk=>⟨c1,c2,h,s.stay h1 hk,t.stay h2 hk⟩,λ⟨c1,c2,h,h1,h2⟩ hk=>⟨c1,c2,h,s.mono h1 hk,t.mono h2 hk⟩⟩
theorem kw.flat{f:α->List Value}{c:Nat}{hc:∀a,(f a).length=c}{p:α->Prop}(Gq:0<c)(h:kw (zq f c hc p) F w v l):Sl w v l.length (l.flatMap f):=by
 obtain⟨base,cap,h1,h2,h3,h4⟩:=h;have hx:U4 w (λcs a=>cs=f a) c v l:=⟨base,cap,h1,h2,h3,λh0=>let ⟨b,off,h5,_,h7⟩:=h4 h0;⟨b,off,h5,λi hi=>let ⟨cs,h8,h9⟩:=h7 i hi;⟨cs,h8.1,h9⟩⟩⟩;exact hx.flat hc Gq λcs a h=>h
theorem kw.okp{f:α->List Value}{c:Nat}{hc:∀a,(f a).length=c}{p:α->Prop}(h:kw (zq f c hc p) F w v l):∀a∈l,p a:=λa ha=>by
 obtain⟨i,hi,rfl⟩:=iC.1 ha;obtain⟨base,cap,h1,h2,h3,h4⟩:=h;obtain⟨b,off,_,_,h7⟩:=h4 J;obtain⟨cs,h8,_⟩:=h7 i hi;exact h8.2
theorem kw.of_flat{f:α->List Value}{c:Nat}{hc:∀a,(f a).length=c}{p:α->Prop}(h:Sl w v l.length (l.flatMap f))(hp:∀a∈l,p a)(_:∀b,v.ownBlock=aj b->F b)(hF2:∀a n cp,v=av (aj a) n cp->F a.block):kw (zq f c hc p) F w v l:=by
 obtain⟨base,cap,h1,h2,h3,h4⟩:=h;refine⟨base,cap,h1,h2,h3,λh0=>?_⟩;obtain⟨b,off,h5,h6⟩:=h4 h0;refine⟨b,off,h5,hF2 ⟨b,off,ak⟩ l.length cap (by grind),λi hi=>⟨f l[i],⟨rfl,hp _ (cH hi)⟩,λj u hj=>?_⟩⟩;have hjc:j<c:=by grind
 have:=h6 (i*c+j) u (by simp_all[uQ]);rw[kF];exact this
def GG(s:wY α)(F:Nat->Prop)(cs:List Value)(a:α):b9:=
 ⟨ak,F,λw=>s.is F w cs a/\∀k,F k->k<w.heap.size,λw h k hk=>h.2 k (hk.elim (λh=>by cases h) id),λw w' h hs hb=>⟨s.stay h.1 λk hk=>hb k (.inr hk),λk hk=>kE (h.2 k hk) hs⟩⟩
def eo(s:wY α)(F:Nat->Prop)(gH:List (List Value))(l:List α):b9:=
 ⟨ak,F,λw=>(gH.length=l.length/\∀i (h:i<l.length) (h':i<gH.length),s.is F w gH[i] l[i])/\∀k,F k->k<w.heap.size,λw h k hk=>h.2 k (hk.elim (λh=>by cases h) id),
  λw w' h hs hb=>⟨⟨h.1.1,λi hi qB=>s.stay (h.1.2 i hi qB) λk hk=>hb k (.inr hk)⟩,λk hk=>kE (h.2 k hk) hs⟩⟩
end
def YM(F:Nat->Prop)(v:Value):Nat->Prop:=λk=>F k\/v.ownBlock=aj k
theorem uV{c:Nat}:∀(gH:List (List Value)) (_:∀x∈gH,x.length=c) (i j:Nat) (h:i<gH.length),j<c->gH.flatten[i*c+j]?=gH[i][j]?
 |x::r,hc,0,j,h,hj=>by
  grind
 |x::r,hc,i+1,j,h,hj=>by
  have hx:=hc x (by simp);have ih:=uV r (λy hy=>hc y (by grind)) i j (by simp_all) hj;rw[DP,x6 (by rw[hx,pt];omega),hx];simp only[XW];rw[<-ih,pt]
  congr 1;omega
section
variable{α:Type}{s:wY α}{F:Nat->Prop}{w:World}{v:Value}{l:List α}
theorem yj{e:TypeId}{gH:List (List Value)}(hr:(a_ e s.c v l.length gH.flatten).holds w)(he:(eo s F gH l).holds w)(_:0<s.c):kw s (YM F v) w v l:=by
 have hr:w.ownsRow 0 e s.c v l.length gH.flatten:=hr;obtain⟨⟨h1,h2⟩,h3⟩:=he;have hlen:∀x∈gH,x.length=s.c:=λx hx=>by
  obtain⟨i,hi,rfl⟩:=iC.1 hx;exact s.len (h2 i J hi)
 obtain⟨base,cap,h4,h5,h6,h7⟩:=Sl.dx hr;refine⟨base,cap,h4,h5,h6,λh0=>?_⟩;have hb:∃g,v=sV g l.length cap/\v.ownBlock=aj g:=by
  rcases hr.2 with⟨hv,h0'⟩|⟨g,A3,kU,hv,_⟩
  omega;rw[h4]at hv;simp only[jN,true_and]at hv;obtain⟨rfl,rfl⟩:=hv;exact⟨g,h4,by rw[h4];rfl⟩
 obtain⟨g,hv,hg⟩:=hb;rw[h4]at hv;simp only[jN,and_true]at hv;subst hv;obtain⟨b,off,h8,h9⟩:=h7 h0;simp only[dL,OX,and_true]at h8;obtain⟨rfl,rfl⟩:=h8;refine⟨g,0,rfl,.inr hg,λi hi=>⟨gH[i]' J,s.mono (h2 i hi J) λk hk=> .inl hk,λj u hj=>?_⟩⟩;have hjc:j<s.c:=by grind
 have:=h9 (i*s.c+j) u (by simp_all[uV]);rw[kF];exact this
theorem yl{e:TypeId}{gH:List (List Value)}{n c:Nat}(hr:(a_ e c v n gH.flatten).holds w)(he:(eo s F gH l).holds w):∀k,YM F v k->k<w.heap.size:=λk hk=>hk.elim (he.2 k) λh=>((a_ e c v n gH.flatten).lt w hr k (.inl h))
theorem mO{F2:Nat->Prop}{gH:List (List Value)}{cs:List Value}{a:α}(he:(eo s F gH l).holds w)(hs:s.is F2 w cs a)(h2:∀k,F2 k->k<w.heap.size):(eo s (λk=>F k\/F2 k) (gH++[cs]) (l++[a])).holds w:=by
 obtain⟨⟨h1,h3⟩,h4⟩:=he;refine⟨⟨by grind,λi hi qB=>?_⟩,λk hk=>hk.elim (h4 k) (h2 k)⟩
 by_cases c:i<l.length
 ·rw[XU J,XU c]
  exact s.mono (h3 i c J) λk hk=> .inl hk
 have Xc:i=l.length:=by grind
 subst Xc;rw[XS J,XS (bC _)];simp only[h1,Nat.sub_self,List.getElem_cons_zero];exact s.mono hs λk hk=> .inr hk
theorem jM:(eo s (λ_=>False) [] []).holds w:=⟨⟨rfl,λi h=>by simp⟩,λk h=>h.elim⟩
end
section
variable{P:Program}{n:Nat}{W:bP}{fr:Fr}{L:List b9}{Q:Exit->Act->World->Prop}{ops:Array Oper}{rest:List Oper}{d:Nat}
theorem Mem.YN{w:World}(o:b9)(i j:Nat)(js:List Nat){o1 o2:b9}{R:List b9}(h:Mem W L w)(hn:([i,j]++js).Nodup)(h1:L[i]?=aj o1)(h2:L[j]?=aj o2)(hR:R=js.filterMap λi=>L[i]?)(hf:∀k,o.fy k->o1.fy k\/o2.fy k)(hh:∀w,o1.holds w->o2.holds w->o.holds w):Mem W (R++[o]) w:=by
 refine Mem.merge o (h.pick ([i,j]++js) hn ?_) hf (hh w);rw[List.filterMap_append,<-hR]
 congr 1
 rw[A0 (by exact h1),A0 (by exact h2)];rfl
theorem pB(o:b9)(i j:Nat)(js:List Nat){o1 o2:b9}{R:List b9}(hn:([i,j]++js).Nodup)(h1:L[i]?=aj o1)(h2:L[j]?=aj o2)(hR:R=js.filterMap λi=>L[i]?)(hf:∀k,o.fy k->o1.fy k\/o2.fy k)(hh:∀w,o1.holds w->o2.holds w->o.holds w)(h:TL P n W ops Q rest fr (R++[o])):TL P n W ops Q rest fr L:=⟨λa w hr hm=>h.go a w hr (hm.YN o i j js hn h1 h2 hR hf hh)⟩
theorem wZ{e:Exit}(o:b9)(i j:Nat)(js:List Nat){o1 o2:b9}{R:List b9}(hn:([i,j]++js).Nodup)(h1:L[i]?=aj o1)(h2:L[j]?=aj o2)(hR:R=js.filterMap λi=>L[i]?)(hf:∀k,o.fy k->o1.fy k\/o2.fy k)(hh:∀w,o1.holds w->o2.holds w->o.holds w)(h:E n W e Q fr (R++[o])):E n W e Q fr L:=⟨λa w hr hm=>h.go a w hr (hm.YN o i j js hn h1 h2 hR hf hh)⟩
theorem Mem.YO{w:World}(o:b9)(h:Mem W L w)(hf:∀k,¬o.fy k)(hh:o.holds w):Mem W (L++[o]) w:=
 h.append (Gr.refl w) (eP.one hh λk hk=>absurd hk (hf k))
theorem mP{c:Code}(o:b9)(hf:∀k,¬o.fy k)(hh:∀w,o.holds w)(h:T P n W c Q fr (L++[o])):T P n W c Q fr L:=⟨λa w hr hm=>h.go a w hr (hm.YO o hf (hh w))⟩
theorem LV(o:b9)(hf:∀k,¬o.fy k)(hh:∀w,o.holds w)(h:TL P n W ops Q rest fr (L++[o])):TL P n W ops Q rest fr L:=⟨λa w hr hm=>h.go a w hr (hm.YO o hf (hh w))⟩
theorem qC{e:Exit}(o:b9)(hf:∀k,¬o.fy k)(hh:∀w,o.holds w)(h:E n W e Q fr (L++[o])):E n W e Q fr L:=⟨λa w hr hm=>h.go a w hr (hm.YO o hf (hh w))⟩
theorem A'{α:Type}{f:α->List Value}{c:Nat}(hc:∀a,(f a).length=c){t e:TypeId}{p x:Operand}{i g off cap k m:Nat}{agg:Bool}{l:List α}{a:α}{v:Value}(hT:Ty P t agg c)(hi:L[i]?=aj (a_ e c (av (aj ⟨g,0,ak⟩) m cap) m (l.flatMap f)))(hp:ev fr p=aj (aK (aj ⟨g,off,ak⟩)))(ahJ:off=k*c)(hk:k<l.length)(hm0:m=l.length)(hx:ev fr x=aj v)(hv:v.cells=(f a).toArray)(h1:(f a).all ft=aD)
 {ty:TypeId} {pos:String} {after:Array Edge}
 (h:TL P n W ops Q rest fr (L.set i (a_ e c (av (aj ⟨g,0,ak⟩) m cap) m ((l.set k a).flatMap f)))):
 TL P n W ops Q (⟨ak,.store t p x,ty,pos,after,ak⟩::rest) fr L:=k8 I λact w hr hm K hK=>by
 subst ahJ hm0;have lX:w.ownsRow 0 e c (av (aj ⟨g,0,ak⟩) l.length cap) l.length (l.flatMap f):=hm.get hi;have ahI:=lX;rcases lX.2 with⟨h0,_⟩|⟨g',A3,kU,he,A7,hg,hnc,LH,hcs,B7⟩
 omega
 simp only[jN,dL,OX,and_true,true_and]at he;obtain⟨rfl,rfl⟩:=he;have Jl:k*c+c<=kU.size:=by
  have:(k+1)*c<=cap*c:=x8 _ J;rw[hcs];rw[nv,DQ]at this;omega
 have hst:=run_storeCells_at P g (k*c) e (f a) 0 kU w hg (by simp_all) (pq.1 h1);simp only[lO,hc]at hst;have e':(execOp act.eval ⟨ak,.store t p x,ty,pos,after,ak⟩).run P w= .ok .skip (w.setRow g (kU.toList.take (k*c)++f a++kU.toList.drop (k*c+c)).toArray):=by
  simp[execOp,hr.ev hp,hr.ev hx,O0,xZ,storeVar,hT.size,hv,hst,hc]
 unfold gi;rw[e'];refine hK _ _ (h.go _ _ (hr.uH undef) (hm.CN hi ⟨rfl,rfl,rfl,by simp,λk _ hk=>setRow_other w g k _ (λe=>hk (by subst e;rfl))⟩ ?_ λk hk=> .inl hk));have hlen:=k_ hc l;refine⟨by rw[k_ hc];simp,.inr ⟨g,cap,_,rfl,A7,setRow_heap w g kU _ e _ hg,hnc,LH,by grind,?_⟩⟩;have e1:(l.set k a).flatMap f=(l.flatMap f).take (k*c)++f a++(l.flatMap f).drop (k*c+c):=by
  have Lo:((l.take k).flatMap f).length=k*c:=by grind[k_,jz]
  have GH:((l.take (k+1)).flatMap f).length=k*c+c:=by rw[k_ hc,jz,Pp J,nv,DQ]
  have t1:(l.flatMap f).take (k*c)=(l.take k).flatMap f:=by
   grind[om]
  have t2:(l.flatMap f).drop (k*c+c)=(l.drop (k+1)).flatMap f:=by
   grind[om]
  simp_all[DN]
 rw[e1,<-B7];have hkl:k*c+c<=l.length*c:=by
  have:(k+1)*c<=l.length*c:=x8 _ J;rw[nv,DQ]at this;exact this
 simp only[List.take_take,List.take_append,bK,hc,jz,ul];rw[Pp (by omega:k*c<=kU.size),Nat.min_eq_right (by omega:k*c<=l.length*c),Pp (by omega:k*c<=l.length*c),gT (by grind:(f a).length<=l.length*c-k*c)]
 congr 1
 rw[Pm]
theorem nP{i:Nat}{o:b9}{φ:Prop}(hi:L[i]?=aj o)(hφ:∀w,o.holds w->φ)(h:φ->TL P n W ops Q rest fr L):TL P n W ops Q rest fr L:=⟨λa w hr hm=>(h (hφ w (hm.get hi))).go a w hr hm⟩
theorem iR{c:Code}{i:Nat}{o:b9}{φ:Prop}(hi:L[i]?=aj o)(hφ:∀w,o.holds w->φ)(h:φ->T P n W c Q fr L):T P n W c Q fr L:=⟨λa w hr hm=>(h (hφ w (hm.get hi))).go a w hr hm⟩
end
open Go.WideMaps (KeyLaw)
def D_(v:Value):Option (DataW Value×List MemPlace):=aj (.held v,[])
structure zr(P:Program)(k:TypeId)(κ:Type) where
 kv:κ->Value
 ok:κ->Prop
 law:KeyLaw P k
 key:∀x,ok x->∃l,keyOf P k (kv x)=aj l
 inj:∀x y,kv x=kv y->x=y
section
variable{P:Program}{k:TypeId}{κ:Type}
theorem zr.keyed(K:zr P k κ):Maps.Keyed P k:=afC K.law
variable(K:zr P k κ)
def LW(D:DataW Value)(m:κ->Option Value)(n:Nat):Prop:=
 O1 D=n/\∀x l,K.ok x->keyOf P k (K.kv x)=aj l->match m x with|some v=>O2 D l=aD/\(∀z,D.atKey l z= .held v)|none=>O2 D l=aF
def fv(g:Nat)(m:κ->Option Value)(n:Nat):b9:=
 ⟨aj g,λ_=>False,λw=>∃D,w.ownsMap P k D_ g n D/\LW K D m n,λw ⟨D,h,_⟩ q hq=>by simp only[dL,or_false]at hq;subst hq;exact h.lt,
  λw w' ⟨D,⟨es,clock,hb,h⟩,h2⟩ _ hk=>⟨D,⟨es,clock,(hk g (.inl I)).trans hb,h⟩,h2⟩⟩
theorem U7{w:World}{R:Value->Option (DataW Value×List MemPlace)}{b n:Nat}{D:DataW Value}(h:w.ownsMap P k R b n D):w.ownsMap P k R b (O1 D) D:=by
 obtain⟨es,clock,hb,F,hs,rfl⟩:=h;exact⟨es,clock,hb,F,by simp[O1,length_sorted],rfl⟩
theorem HB:LW K (.map []) (λ_=>ak) 0:=⟨rfl,λ_ _ _ _=>rfl⟩
theorem U8[DecidableEq κ]{w:World}{g n:Nat}{D:DataW Value}{m:κ->Option Value}(ho:w.ownsMap P k D_ g n D)(h:LW K D m n){x:κ}{l:Lit}(hx:K.ok x)(hl:keyOf P k (K.kv x)=aj l)(v:Value):
 LW K (D.put l (.held v)) (λy=>if y=x then aj v else m y) (if(m x).isSome then n else n+1):=by
 have hk:=K.keyed.key hl;have ht:=ho.tidy K.keyed;refine⟨?_,λy l' hy hl'=>?_⟩
 ·have h2:=h.2 x l hx hl
  rw[Maps.size_put ht]
  cases e:m x with
  |none=>rw[e]at h2;rw[h2];simp[h.1]
  |some u=>rw[e]at h2;rw[h2.1];simp[h.1]
 ·by_cases e:y=x
  ·subst e
   rw[hl]at hl';simp only[dL]at hl';subst hl';simp only[if_true];exact⟨Maps.has_put_same ht.isMap hk _,λz=>Maps.atKey_put_same ht.isMap hk _ _⟩
  have hne:l'≠l:=λe'=>e (K.inj _ _ (K.keyed.inj (by simp_all) hl));simp only[if_neg e];have h2:=h.2 y l' hy hl';rw[Maps.has_put_other hne]
  cases e2:m y with
  |none=>rw[e2]at h2;exact h2
  |some u=>rw[e2]at h2;exact⟨h2.1,λz=>by rw[Maps.atKey_put_other hne];exact h2.2 z⟩
theorem Js{D:DataW Value}{m:κ->Option Value}{n:Nat}(h:LW K D m n){x:κ}{l:Lit}(hx:K.ok x)(hl:keyOf P k (K.kv x)=aj l)(z:Value):D.atKey l (.held z)= .held ((m x).getD z)/\O2 D l=(m x).isSome:=by
 have h2:=h.2 x l hx hl
 grind[Maps.atKey_of_not_has]
section
variable{W:bP}{fr:Fr}{L:List b9}{Q:Exit->Act->World->Prop}{ops:Array Oper}{rest:List Oper}{n d:Nat}{dst:Option Tmp}{ty:TypeId}{pos:String}{after:Array Edge}{guard:Option (Nat×Bool)}{i g c:Nat}{t e:TypeId}{m:κ->Option Value}{x:κ}{z:Value}{xm xk xv:Operand}
theorem acR(ht:P.underlying t=aj (.map k e))(hz:∀w,(zeroValue e).run P w= .ok z w)(hi:L[i]?=aj (fv K g m c))(hm:ev fr xm=aj (.map (aj g)))(hk:ev fr xk=aj (K.kv x))(hx:K.ok x):RR P n W ⟨dst,.lookup t xm xk aF,ty,pos,after,guard⟩ fr L ((m x).getD z):= .mk λa w hr hw=>by
 obtain⟨D,ho,h⟩:=hw.get hi;obtain⟨l,hl⟩:=K.key x hx;obtain⟨v,ps,hrun,hv⟩:=ho.lookup K.keyed ht (hz w) (zd:= .held z) (zp:=[]) rfl hl;have h2:=(Js K h hx hl z).1;simp only[D_,dL,jX]at hv;rw[h2]at hv;have ju:v=(m x).getD z:=by simp_all
 subst ju;simp[execOp,hr.ev hm,hr.ev hk,hrun,ns]
theorem o_(ht:P.underlying t=aj (.map k e))(hz:∀w,(zeroValue e).run P w= .ok z w)(hi:L[i]?=aj (fv K g m c))(hm:ev fr xm=aj (.map (aj g)))(hk:ev fr xk=aj (K.kv x))(hx:K.ok x):RR P n W ⟨dst,.lookup t xm xk aD,ty,pos,after,guard⟩ fr L (.tuple #[(m x).getD z,.bool (m x).isSome]):= .mk λa w hr hw=>by
 obtain⟨D,ho,h⟩:=hw.get hi;obtain⟨l,hl⟩:=K.key x hx;obtain⟨v,ps,hrun,hv⟩:=ho.look_ok K.keyed ht (hz w) (zd:= .held z) (zp:=[]) rfl hl;have h2:=Js K h hx hl z;simp only[D_,dL,jX]at hv;rw[h2.1]at hv;rw[h2.2]at hrun;have ju:v=(m x).getD z:=by simp_all
 subst ju;simp[execOp,hr.ev hm,hr.ev hk,hrun,ns]
theorem w6(ht:P.underlying t=aj (.map k e))(hi:L[i]?=aj (fv K g m c))(hm:ev fr xm=aj (.map (aj g))):RR P n W ⟨dst,.call {callee:= .builtin .len,args:=#[xm],argTypes:=#[t]},ty,pos,after,guard⟩ fr L (az aB c):= .mk λa w hr hw=>by
 obtain⟨D,ho,h⟩:=hw.get hi;have hrun:=ho.len ht ty;rw[h.1]at hrun;simp[me,OY,hr.ev hm,hrun]
theorem ym(hn:dq d n=aD)(h:∀g,TL P n W ops Q rest ((d,.map (aj g))::fr) (L++[fv K g (λ_=>ak) 0])):
 TL P n W ops Q (⟨aj d,.makeMap t ak,ty,pos,after,ak⟩::rest) fr L:=k8 I λa w hr hm KK hK=>by
 have e1:(execOp a.eval ⟨aj d,.makeMap t ak,ty,pos,after,ak⟩).run P w= .ok (.value (.map (aj w.heap.size))) (w.alloc (.map #[] 0)):=by
  rfl
 unfold gi;rw[e1];exact hK _ _ ((h w.heap.size).go _ _ (hr.put hn _) (hm.append (nS w _) (ny.one ⟨.map [],XQ w P k D_,HB K⟩ λq hq=>by simp_all[fv])))
theorem SS[DecidableEq κ]{w:World}(ht:P.underlying t=aj (.map k e))(h:(fv K g m c).holds w)(hx:K.ok x)(hc:c<=1152921504606846976)(v:Value):
 ∃w',(AV t (.map (aj g)) (K.kv x) v).run P w= .ok () w'/\(fv K g (λy=>if y=x then aj v else m y) (if(m x).isSome then c else c+1)).holds w'/\w.grownBy w' (aj g):=by
 obtain⟨D,ho,h⟩:=h;obtain⟨l,hl⟩:=K.key x hx;obtain⟨w',hrun,LK,hg⟩:=ho.update K.keyed ht (by grind[maxLen]) (val:=v) (d:= .held v) (ps:=[]) hl rfl;have hp:=U8 K ho h hx hl v;exact⟨w',hrun,⟨_,by have:=U7 LK;rwa [hp.1]at this,hp⟩,hg⟩
theorem mB[DecidableEq κ]{v:Value}(ht:P.underlying t=aj (.map k e))(hi:L[i]?=aj (fv K g m c))(hm:ev fr xm=aj (.map (aj g)))(hk:ev fr xk=aj (K.kv x))(hv:ev fr xv=aj v)(hx:K.ok x)(hc:c<=1152921504606846976)
 (h:TL P n W ops Q rest fr (L.set i (fv K g (λy=>if y=x then aj v else m y) (if(m x).isSome then c else c+1)))):
 TL P n W ops Q (⟨ak,.mapUpdate t xm xk xv,ty,pos,after,ak⟩::rest) fr L:=k8 I λa w hr hw KK hK=>by
 obtain⟨w',hrun,LK,hg⟩:=SS K ht (hw.get hi) hx hc v;have e1:(execOp a.eval ⟨ak,.mapUpdate t xm xk xv,ty,pos,after,ak⟩).run P w= .ok .skip w':=by
  simp[execOp,hr.ev hm,hr.ev hk,hr.ev hv,hrun,ns]
 unfold gi;rw[e1];exact hK _ _ (h.go _ _ (hr.uH undef) (hw.CN hi hg LK λq hq=> .inl hq))
end
def qt(g:Nat)(z:Value)(f:κ->Value)(b:Nat):b9:=
 ⟨aj g,λ_=>False,λw=>∃m n,n<=b/\(fv K g m n).holds w/\∀x,K.ok x->(m x).getD z=f x,λw ⟨m,n,_,h,_⟩ q hq=>(fv K g m n).lt w h q hq,
  λw w' ⟨m,n,h1,h,h2⟩ hs hk=>⟨m,n,h1,(fv K g m n).stay w w' h hs hk,h2⟩⟩
section
variable{W:bP}{fr:Fr}{L:List b9}{Q:Exit->Act->World->Prop}{ops:Array Oper}{rest:List Oper}{n d:Nat}{dst:Option Tmp}{ty:TypeId}{pos:String}{after:Array Edge}{guard:Option (Nat×Bool)}{i g b:Nat}{t e:TypeId}{f f':κ->Value}{x:κ}{z v:Value}{xm xk xv:Operand}
theorem HC{w:World}(ht:P.underlying t=aj (.map k e))(hz:∀w,(zeroValue e).run P w= .ok z w)(h:(qt K g z f b).holds w)(hx:K.ok x):(Instr.lookup t (.map (aj g)) (K.kv x) aF).run P w= .ok (f x) w:=by
 obtain⟨m,n,_,⟨D,ho,hi⟩,hf⟩:=h;obtain⟨l,hl⟩:=K.key x hx;obtain⟨v,ps,hrun,hv⟩:=ho.lookup K.keyed ht (hz w) (zd:= .held z) (zp:=[]) rfl hl;have h2:=(Js K hi hx hl z).1;simp only[D_,dL,jX]at hv;rw[h2,hf x hx]at hv;have ju:v=f x:=by simpa using hv.1
 rw[<-ju];exact hrun
theorem LX(ht:P.underlying t=aj (.map k e))(hz:∀w,(zeroValue e).run P w= .ok z w)(hh:∀w,Mem W L w->(qt K g z f b).holds w)(hm:ev fr xm=aj (.map (aj g)))(hk:ev fr xk=aj (K.kv x))(hx:K.ok x)(hv:f x=v):RR P n W ⟨dst,.lookup t xm xk aF,ty,pos,after,guard⟩ fr L v:= .mk λa w hr hw=>by
 subst hv;have hrun:=HC K ht hz (hh w hw) hx;simp[execOp,hr.ev hm,hr.ev hk,hrun,ns]
theorem Ea(ht:P.underlying t=aj (.map k e))(hz:∀w,(zeroValue e).run P w= .ok z w)(hi:L[i]?=aj (qt K g z f b))(hm:ev fr xm=aj (.map (aj g)))(hk:ev fr xk=aj (K.kv x))(hx:K.ok x)(hv:f x=v):RR P n W ⟨dst,.lookup t xm xk aF,ty,pos,after,guard⟩ fr L v:=
 LX K ht hz (λ_ hw=>hw.get hi) hm hk hx hv
theorem acS(hn:dq d n=aD)(h:∀g,TL P n W ops Q rest ((d,.map (aj g))::fr) (L++[qt K g z (λ_=>z) 0])):
 TL P n W ops Q (⟨aj d,.makeMap t ak,ty,pos,after,ak⟩::rest) fr L:=k8 I λa w hr hm KK hK=>by
 have e1:(execOp a.eval ⟨aj d,.makeMap t ak,ty,pos,after,ak⟩).run P w= .ok (.value (.map (aj w.heap.size))) (w.alloc (.map #[] 0)):=by
  rfl
 unfold gi;rw[e1];exact hK _ _ ((h w.heap.size).go _ _ (hr.put hn _) (hm.append (nS w _) (ny.one ⟨λ_=>ak,0,bC _,⟨.map [],XQ w P k D_,HB K⟩,λ_ _=>rfl⟩ λq hq=>by simp_all[qt])))
theorem LY[DecidableEq κ]{w:World}(ht:P.underlying t=aj (.map k e))(h:(qt K g z f b).holds w)(hx:K.ok x)(hc:b<=1152921504606846976)(hf:∀y,K.ok y->f' y=if y=x then v else f y):
 ∃w',(AV t (.map (aj g)) (K.kv x) v).run P w= .ok () w'/\(qt K g z f' (b+1)).holds w'/\w.grownBy w' (aj g):=by
 obtain⟨m,n,h1,h2,h3⟩:=h;obtain⟨w',hrun,ho,hg⟩:=SS K ht h2 hx J v;refine⟨w',hrun,⟨_,_,?_,ho,λy hy=>?_⟩,hg⟩
 grind
 grind
end
end
section
variable{P:Program}{n:Nat}{W:bP}{fr:Fr}{L:List b9}{Q:Exit->Act->World->Prop}{ops:Array Oper}{rest:List Oper}{d:Nat}{ty:TypeId}{pos:String}{after:Array Edge}
theorem PJ{t e:TypeId}{x y:Operand}{bytes m:Nat}{k k':IntKind}{z:Value}[rC P t e 1 bytes][eU P e #[z]](hx:ev fr x=aj (.int k (m:Int)))(hy:ev fr y=aj (.int k' (m:Int)))(hb:bytes*m<=281474976710656)(qX:m<=9223372036854775807)(hn:dq d n=aD)
 (h:∀g,TL P n W ops Q rest ((d,av (aj ⟨g,0,ak⟩) m m)::fr) (L++[a_ e 1 (av (aj ⟨g,0,ak⟩) m m) m (dl m z)])):TL P n W ops Q (⟨aj d,.makeSlice t x y,ty,pos,after,ak⟩::rest) fr L:=
 uU hx hy (bC _) hb qX hn λg=>Hz (i:=L.length) 1 (Pc ..) (by rw[size_madeCells]) (bC _) qX (by
  have e1:(madeCells #[z] (m*1)).toList.take (m*1)=dl m z:=by
   simp[aeY]
  simp_all)
end
section
variable{P:Program}{n:Nat}{W:bP}{fr:Fr}{L:List b9}{Q:Exit->Act->World->Prop}{ops:Array Oper}{rest:List Oper}
theorem Mem.ajK{w:World}{i:Nat}{o:b9}(o':b9)(h:Mem W L w)(hi:L[i]?=aj o)(hh:∀w,o.holds w->o'.holds w)(hb:∀k,o'.CM=aj k->o.CM=aj k)(hmo:∀k,o'.more k->o.fy k:=by intro k hk;exact False.elim hk):Mem W (L.set i o') w:=
 h.CN hi ⟨rfl,rfl,rfl,bC _,λ_ _ _=>rfl⟩ (hh w (h.get hi)) (λk hk=> .inl (hb k hk)) hmo
theorem acT{i:Nat}{o:b9}(o':b9)(hi:L[i]?=aj o)(hh:∀w,o.holds w->o'.holds w)(hb:∀k,o'.CM=aj k->o.CM=aj k)(hmo:∀k,o'.more k->o.fy k)(h:TL P n W ops Q rest fr (L.set i o')):TL P n W ops Q rest fr L:= .mk λa w hr hm=>h.go a w hr (hm.ajK o' hi hh hb hmo)
end
theorem U9{P:Program}{k:TypeId}{κ:Type}{K:zr P k κ}{g b b':Nat}{z:Value}{f f':κ->Value}(hb:b<=b')(hf:∀x,K.ok x->f' x=f x)(w:World)(h:(qt K g z f b).holds w):(qt K g z f' b').holds w:=by
 obtain⟨m,n,h1,h2,h3⟩:=h;exact⟨m,n,by omega,h2,λx hx=>by simp_all⟩
section
variable{P:Program}{n:Nat}{W:bP}{fr:Fr}{L:List b9}{Q:Exit->Act->World->Prop}{ops:Array Oper}{rest:List Oper}
theorem Mem.SU{w:World}{i:Nat}{o:b9}(o':b9)(h:Mem W L w)(hi:L[i]?=aj o)(hh:∀w,o.holds w->o'.holds w)(hf:∀k,o'.fy k->o.fy k):Mem W (L.set i o') w:=by
 have hlen:i<L.length:=(dX.1 hi).1;have hoi:=h.owns.all i o hi;refine⟨h.low,λj q hj=>?_,λj j' q q' tL hj sq k hk o8=>?_⟩
 ·by_cases e:i=j
  simp_all
  rw[kX e]at hj;exact h.owns.all j q hj
 by_cases e:i=j
 ·subst e
  rw[oh hlen]at hj;rw[kX tL]at sq;simp only[dL]at hj;subst hj;exact h.owns.apart i j' o q' tL hi sq k (hf k hk) o8
 rw[kX e]at hj
 by_cases e':i=j'
 ·subst e'
  rw[oh hlen]at sq;simp only[dL]at sq;subst sq;exact h.owns.apart j i q o tL hj hi k hk (hf k o8)
 rw[kX e']at sq;exact h.owns.apart j j' q q' tL hj sq k hk o8
theorem SV{c:Code}{i:Nat}{o:b9}(o':b9)(hi:L[i]?=aj o)(hh:∀w,o.holds w->o'.holds w)(hf:∀k,o'.fy k->o.fy k)(h:T P n W c Q fr (L.set i o')):T P n W c Q fr L:= .mk λa w hr hm=>h.go a w hr (hm.SU o' hi hh hf)
theorem oT{e:Exit}{i:Nat}{o:b9}(o':b9)(hi:L[i]?=aj o)(hh:∀w,o.holds w->o'.holds w)(hf:∀k,o'.fy k->o.fy k)(h:E n W e Q fr (L.set i o')):E n W e Q fr L:= .mk λa w hr hm=>h.go a w hr (hm.SU o' hi hh hf)
end
open dh gu
inductive kQ(F:Nat->Prop)(w:World):List Value->Rx->Prop
 |mk {k:Int} {c:C4} {kids:List Rx} {base:Option Addr} {cap:Nat} (gH:List (List Value)):cL.dV k->kids.length<=cap->cap<=maxLen->gH.length=kids.length->
  (∀i (h:i<kids.length) (h':i<gH.length),kQ F w gH[i] kids[i])->(0<kids.length->∃b off,base=aj ⟨b,off,ak⟩/\F b/\∀i (_:i<kids.length) (h':i<gH.length),Rd w b (off+i*6) gH[i])->
  kQ F w (az aB k::(ed c++[av base kids.length cap])) (.mk k c kids)
theorem kQ.af4{F:Nat->Prop}{w:World}{cs:List Value}{t:Rx}(h:kQ F w cs t):cs.length=6:=by
 cases h;rfl
theorem kQ.Jt{F:Nat->Prop}{w w':World}{cs:List Value}{t:Rx}(h:kQ F w cs t)(hk:∀k,F k->w'.heap[k]?=w.heap[k]?):kQ F w' cs t:=by
 induction h with
 |mk gH h2 h3 h4 h5 h6 h7 ih=>
  refine .mk gH h2 h3 h4 h5 ih λhl=>?_;obtain⟨b,off,e,hF,hr⟩:=h7 hl;exact⟨b,off,e,hF,λi hi qB=>rd_stay (hr i hi qB) (hk b hF)⟩
theorem kQ.mono{F F':Nat->Prop}{w:World}{cs:List Value}{t:Rx}(h:kQ F w cs t)(hk:∀k,F k->F' k):kQ F' w cs t:=by
 induction h with
 |mk gH h2 h3 h4 h5 h6 h7 ih=>
  refine .mk gH h2 h3 h4 h5 ih λhl=>?_;obtain⟨b,off,e,hF,hr⟩:=h7 hl;exact⟨b,off,e,hk b hF,hr⟩
def yo:wY Rx:=⟨6,kQ,λh=>h.af4,λh hk=>h.Jt hk,λh hk=>h.mono hk⟩
def mG(k:Int)(c:C4)(v:Value):List Value:=az aB k::(ed c++[v])
def qY(k:Int)(c:C4)(v:Value):Value:=aQ (mG k c v).toArray
theorem zt{F:Nat->Prop}{w:World}{cs:List Value}{k:Int}{c:C4}{kids:List Rx}:kQ F w cs (.mk k c kids)↔∃v,cs=mG k c v/\cL.dV k/\kw yo F w v kids:=by
 constructor
 ·intro h
  cases h with
  |mk gH h2 h3 h4 h5 h6 h7=>
   refine⟨_,rfl,h2,_,_,rfl,h3,h4,λhl=>?_⟩;obtain⟨b,off,e,hF,hr⟩:=h7 hl;exact⟨b,off,e,hF,λi hi=>⟨gH[i]' J,h6 i hi J,hr i hi J⟩⟩
 rintro⟨v,rfl,h2,base,cap,rfl,h3,h4,h5⟩
 by_cases hl:0<kids.length
 ·obtain⟨b,off,e,hF,hr⟩:=h5 hl
  have hlen:(X3 λi:Fin kids.length=>I4 (hr i i.2)).length=kids.length:=by simp
  refine .mk (X3 λi:Fin kids.length=>I4 (hr i i.2)) h2 h3 h4 hlen (λi hi qB=>?_) λ_=>⟨b,off,e,hF,λi hi qB=>?_⟩;rw[X0];exact(DH (hr i hi)).1;rw[X0];exact(DH (hr i hi)).2
 have:kids=[]:=mK J;subst this;exact .mk [] h2 h3 h4 I (λi hi=>absurd hi (by simp)) λh=>absurd h (by simp)
def ot(F:Nat->Prop)(w:World)(v:Value)(r:Rx):Prop:=∃vk,v=qY r.kind r.uO vk/\cL.dV r.kind/\kw yo F w vk r.kids
theorem ot.stay{F:Nat->Prop}{w w':World}{v:Value}{r:Rx}(h:ot F w v r)(hk:∀k,F k->w'.heap[k]?=w.heap[k]?):ot F w' v r:=
 let ⟨vk,h1,h2,h3⟩:=h;⟨vk,h1,h2,h3.stay hk⟩
theorem ot.mono{F F':Nat->Prop}{w:World}{v:Value}{r:Rx}(h:ot F w v r)(hk:∀k,F k->F' k):ot F' w v r:=
 let ⟨vk,h1,h2,h3⟩:=h;⟨vk,h1,h2,h3.mono hk⟩
def qo(w:World):Nat->Prop:=λk=>k<w.heap.size
theorem ot.gr{w w':World}{v:Value}{r:Rx}(h:ot (qo w) w v r)(hg:Gr w w'):ot (qo w') w' v r:=
 (h.stay λk hk=>hg.block k hk).mono λ_ hk=>kE hk hg.size
theorem ot.is{F:Nat->Prop}{w:World}{v:Value}{r:Rx}(h:ot F w v r):∃cs,v=aQ cs.toArray/\kQ F w cs r:=by
 obtain⟨k,c,kids⟩:=r;obtain⟨vk,rfl,h1,h2⟩:=h;exact⟨_,rfl,zt.2 ⟨vk,rfl,h1,h2⟩⟩
theorem kQ.r{F:Nat->Prop}{w:World}{cs:List Value}{r:Rx}(h:kQ F w cs r):ot F w (aQ cs.toArray) r:=by
 obtain⟨k,c,kids⟩:=r;obtain⟨vk,rfl,h1,h2⟩:=zt.1 h;exact⟨vk,rfl,h1,h2⟩
theorem qD{F:Nat->Prop}{w:World}{b off:Nat}{l:List Rx}(h:∀i (h:i<l.length),∃cs,yo.is F w cs l[i]/\Rd w b (off+i*yo.c) cs){k:Nat}(hk:k<l.length):
 ∃base cap,Rd w b (off+k*6) (mG l[k].kind l[k].uO (.slice base l[k].kids.length cap))/\ot F w (qY l[k].kind l[k].uO (.slice base l[k].kids.length cap)) l[k]:=by
 obtain⟨cs,h1,hr⟩:=h k hk;have h1:kQ F w cs l[k]:=h1;generalize l[k]=r at*;obtain⟨kd,c,kids⟩:=r;obtain⟨vk,rfl,a1,a2⟩:=zt.1 h1;have a2':=a2;obtain⟨base,cap,rfl,_⟩:=a2';exact⟨base,cap,hr,_,rfl,a1,a2⟩
def Eb(r:Re)(k:Nat):List (Re×Nat):=match r with
 | .Jn a b=>[(a,k+1),(b,k+1+a.size)]
 | .Jo a b=>[(a,k+1),(b,k+1+a.size)]
 | .star a=>[(a,k+1)]
 |_=>[]
inductive B9(F:Nat->Prop)(w:World):List Value->Re×Nat->Prop
 |mk {r:Re} {k:Nat} {vk:Value} {base:Option Addr} {cap:Nat} (gH:List (List Value)):vk.oneCell'=aD->(Eb r k).length<=cap->cap<=maxLen->gH.length=(Eb r k).length->
  (∀i (h:i<(Eb r k).length) (h':i<gH.length),B9 F w gH[i] (Eb r k)[i])->(0<(Eb r k).length->∃b off,base=aj ⟨b,off,ak⟩/\F b/\∀i (_:i<(Eb r k).length) (h':i<gH.length),Rd w b (off+i*8) gH[i])->
  B9 F w (az aB r.kind::(ed r.uO++[vk,az aB (k:Int),av base (Eb r k).length cap])) (r,k)
theorem B9.Jt{F:Nat->Prop}{w w':World}{cs:List Value}{t:Re×Nat}(h:B9 F w cs t)(hk:∀k,F k->w'.heap[k]?=w.heap[k]?):B9 F w' cs t:=by
 induction h with
 |mk gH h2 h3 h4 h5 h6 h7 ih=>
  refine .mk gH h2 h3 h4 h5 ih λhl=>?_;obtain⟨b,off,e,hF,hr⟩:=h7 hl;exact⟨b,off,e,hF,λi hi qB=>rd_stay (hr i hi qB) (hk b hF)⟩
theorem B9.mono{F F':Nat->Prop}{w:World}{cs:List Value}{t:Re×Nat}(h:B9 F w cs t)(hk:∀k,F k->F' k):B9 F' w cs t:=by
 induction h with
 |mk gH h2 h3 h4 h5 h6 h7 ih=>
  refine .mk gH h2 h3 h4 h5 ih λhl=>?_;obtain⟨b,off,e,hF,hr⟩:=h7 hl;exact⟨b,off,e,hk b hF,hr⟩
section
variable{P:Program}{n:Nat}{W:bP}{fr:Fr}{L:List b9}{Q:Exit->Act->World->Prop}{ops:Array Oper}{rest:List Oper}
theorem Mem.acU{w:World}{i:Nat}{o:b9}(o':b9)(h:Mem W L w)(hi:L[i]?=aj o)(hh:o'.holds w)(hf:∀k,o'.fy k->o.fy k):Mem W (L.set i o') w:=by
 have hlen:i<L.length:=(dX.1 hi).1;have hoi:=h.owns.all i o hi;refine⟨h.low,λj q hj=>?_,λj j' q q' tL hj sq k hk o8=>?_⟩
 ·by_cases e:i=j
  simp_all
  rw[kX e]at hj;exact h.owns.all j q hj
 by_cases e:i=j
 ·subst e
  rw[oh hlen]at hj;rw[kX tL]at sq;simp only[dL]at hj;subst hj;exact h.owns.apart i j' o q' tL hi sq k (hf k hk) o8
 rw[kX e]at hj
 by_cases e':i=j'
 ·subst e'
  rw[oh hlen]at sq;simp only[dL]at sq;subst sq;exact h.owns.apart j i q o tL hj hi k hk (hf k o8)
 rw[kX e']at sq;exact h.owns.apart j j' q q' tL hj sq k hk o8
end
end bZ
namespace lB
open Go.RowKit cL dQ dh bZ
set_option maxRecDepth 100000 in
theorem af5(x y:C4)(w:World):(od 10000 84 (aQ #[v64 x.a,v64 x.b,v64 x.c,v64 x.d]) (aQ #[v64 y.a,v64 y.b,v64 y.c,v64 y.d])).run aE w= .ok (decide (x=y)) w:=by
 have e:(od 10000 84 (aQ #[v64 x.a,v64 x.b,v64 x.c,v64 x.d]) (aQ #[v64 y.a,v64 y.b,v64 y.c,v64 y.d])).run aE w= .ok ((ij x.a==ij y.a)&&((ij x.b==ij y.b)&&((ij x.c==ij y.c)&&(ij x.d==ij y.d)))) w:=by
  unfold v64;rw[run_equalIn_array (P:=aE) w 9999 (n:=4) (e:=82) _ _ I I];have h1:aE.cellsOf 82=1:=rfl;simp[Op.eqItems,go_sem,List.range_succ_eq_map,h1]
  grind
 rw[e]
 congr 1
 grind[afX,C4.ext']
end lB
namespace bZ
open Go.RowKit cL dQ
section
variable{P:Program}{n:Nat}{W:bP}{fr:Fr}{L:List b9}{Q:Exit->Act->World->Prop}{ops:Array Oper}{rest:List Oper}{d:Nat}{dst:Option Tmp}{ty:TypeId}{pos:String}{after:Array Edge}{guard:Option (Nat×Bool)}
theorem af6{t e:TypeId}{x z z':Operand}{agg:Bool}{c j len cap b off:Nat}{k k':IntKind}(ht:P.underlying t=aj (.slice e))(he:Ty P e agg c)(hx:ev fr x=aj (av (aj ⟨b,off,ak⟩) len cap))(hz:ev fr z=aj (.int k (j:Int)))(hz':ev fr z'=aj (.int k' (j:Int)))(h2:j<=cap):
 RR P n W ⟨dst,.slice t x ak (aj z) (aj z'),ty,pos,after,guard⟩ fr L (av (aj ⟨b,off,ak⟩) j j):= .mk λa w hr _=>by
 have hb:∀(k:IntKind) (p q:Nat) (cd:BoundsCode),p<=q->(I7 (.int k (p:Int)) q cd).run P w= .ok p w:=λk p q cd h=>by
  simp_all[I7,asIntOf]
 have e1:((⟨b,off,ak⟩:Addr).add 0)=⟨b,off,ak⟩:=by rfl
 simp[execOp,hr.ev hx,hr.ev hz,hr.ev hz',sy,sA,run_underlying ht,sx,he.size,hb k' j cap _ h2,hb k j j _ (bC _),e1]
theorem PL{t e:TypeId}{s x:Operand}{q g b off size bytes m:Nat}{olds:List Value}{cs:Array Value}{T:TypeId}[tK:rC P t e size bytes](hs:ev fr s=aj (av (aj ⟨b,off,ak⟩) m m))(hold:∀j v,olds[j]?=aj v->At W L ⟨b,off+j,ak⟩ v)(hol:olds.length=m*size)(hq:L[q]?=aj (aR g cs T))(hx:ev fr x=aj (av (aj ⟨g,0,ak⟩) 1 1))
 (hl:cs.size=size) (qX:m+1<=140737488355328) (hb:(m+1)*bytes<=140737488355328) (hn:dq d n=aD)
 (h:∀v',TL P n W ops Q rest ((d,v')::fr) (L++[a_ e size v' (m+1) (olds++cs.toList)])):
 TL P n W ops Q (⟨aj d,.call {callee:= .builtin .append,args:=#[s,x],argTypes:=#[t,t]},ty,pos,after,ak⟩::rest) fr L:=k8 I λact w hr hm K hK=>by
 obtain⟨inf,z,ht,zj,hz,nT,PB,PC,hsz⟩:=tK.el.ex;subst nT PB;have hrun:=run_append_grow (P:=P) w t ty e inf z ht zj hz ⟨b,off,ak⟩ m m olds hol (λj v hj=>by rw[eS];exact hold j v hj w hm) ⟨g,0,ak⟩ 1 1 cs.toList (by simp_all) (λj v hj=>by rw[eS,cX];exact aI hq (by simp_all) w hm) J J (growslice_fits J hb);have e':(execOp act.eval ⟨aj d,.call {callee:= .builtin .append,args:=#[s,x],argTypes:=#[t,t]},ty,pos,after,ak⟩).run P w= .ok (.value (av (aj ⟨w.heap.size,0,ak⟩) (m+1) (grownCap w (m+1) m e))) (w.drew.alloc (.cells (olds.toArray++cs.toList.toArray++Builtin.zeroCells z.cells (grownCap w (m+1) m e-(m+1))) e)):=by
  simp only[me,sv,Ph,ff,lL,hr.ev hs,hr.ev hx,oe,hrun,qU,ph]
 unfold gi;rw[e'];have hge:=grownCap_ge w (m+1) m e;have LH:grownCap w (m+1) m e<=maxLen:=grownCap_le_maxLen w (m+1) m e (by grind[maxLen]);have hlen:(olds++cs.toList).length=(m+1)*inf.size:=by grind
 refine hK _ _ ((h _).go _ _ (hr.put hn _) (hm.append ((Below.refl _ _).drew.alloc (bC _) _) (ny.one ?_ ?_)))
 ·refine(⟨hlen,.inr ⟨w.heap.size,_,_,rfl,bH _,heap_alloc_new w.drew _,hge,LH,?_,?_⟩⟩:World.ownsRow _ 0 e inf.size _ (m+1) (olds++cs.toList))
  ·simp only[Array.size_append,eM,size_zeroCells,PC,hol,hl]
   have:grownCap w (m+1) m e=m+1+(grownCap w (m+1) m e-(m+1)):=by omega
   grind
  grind
 ·intro k hk
  have hk:sC (sV w.heap.size (m+1) (grownCap w (m+1) m e))=aj k:=hk;simp only[sC,dL]at hk;omega
def gA(G:Option Nat):Option Addr:=G.map λg=>⟨g,0,ak⟩
theorem LZ{w:World}{e:TypeId}{size m:Nat}{v:Value}{xs:List Value}(h:(a_ e size v m xs).holds w):∃G cap,v=av (gA G) m cap/\m<=cap/\cap<=maxLen/\(G=ak->cap=0):=by
 have h:w.ownsRow 0 e size v m xs:=h;rcases h.2 with⟨hv,h0⟩|⟨g,cap,kU,hv,_,_,h1,h2,_⟩
 exact⟨ak,0,by rw[hv,h0];rfl,by omega,by decide,λ_=>rfl⟩;exact⟨aj g,cap,hv,h1,h2,λh=>by cases h⟩
theorem YP{c:Code}{i size m:Nat}{e:TypeId}{v:Value}{xs:List Value}(hi:L[i]?=aj (a_ e size v m xs))(h:∀G cap,v=av (gA G) m cap->m<=cap->cap<=9223372036854775807->(G=ak->cap=0)->T P n W c Q fr L):T P n W c Q fr L:= .mk λa w hr hm=>by
 obtain⟨G,cap,h1,h2,h3,h4⟩:=LZ (hm.get hi);exact(h G cap h1 h2 h3 h4).go a w hr hm
theorem yp{c:Code}{i size m:Nat}{e:TypeId}{v:Value}{xs:List Value}(hi:L[i]?=aj (a_ e size v m xs))(h0:0<m)(h:∀g cap,v=av (aj ⟨g,0,ak⟩) m cap->m<=cap->cap<=9223372036854775807->T P n W c Q fr L):T P n W c Q fr L:=by
 refine YP hi λG cap hv h1 h2 h3=>?_
 cases G with
 |none=>simp_all
 |some g=>exact h g cap hv h1 h2
end
open dh gu
theorem L3(k:Int)(w:World):Calls aE 133 #[az aB k] w (bX (ret (az aB (D7 k))) w):=by
 unfold D7;refine enter (args:=[az aB k]) (n:=13) Tryz.func133 I I I ?_
 by_cases k1:k=1
 ·rw[if_pos k1]
  try refine GA ?_
  exact eB
 rw[if_neg k1]
 by_cases k2:k=2
 ·rw[if_pos k2]
  try refine GA ?_
  exact eB
 rw[if_neg k2]
 by_cases k3:k=3
 ·rw[if_pos k3]
  try refine GA ?_
  exact eB
 rw[if_neg k3]
 by_cases k6:k=6
 ·rw[if_pos k6]
  try refine GA ?_
  exact eB
 rw[if_neg k6]
 by_cases k4:k=4
 ·rw[if_pos k4]
  try refine GA ?_
  exact eB
 rw[if_neg k4]
 by_cases k5:k=5
 ·rw[if_pos k5]
  try refine GA ?_
  exact eB
 rw[if_neg k5]
 try refine GA ?_
 exact eB
theorem af7{r:Rx}{deep n:Nat}(h:(lI r deep n).1=0):(lI r deep n).2<=100:=by
 obtain⟨e,_,h1,h2⟩:=Jp _ r deep n (lI r deep n).2 (bC _) (nw h rfl);have:=h1.sz;omega
theorem YQ(w:World):(dg 84 (#[]:Array (Nat×Value))).run aE w= .ok (oR C4.zero) w:=by kernel_rfl
theorem ahV(x y:C4)(w:World):(od 10000 84 (oR x) (oR y)).run aE w= .ok (decide (x=y)) w:=lB.af5 x y w
theorem SX{W0:World}{W:bP}{L:List b9}{b off:Nat}{cs:List Value}(ho:mI W0 W)(h:Rd W0 b off cs)(j:Nat)(v:Value)(hj:cs[j]?=aj v):At W L ⟨b,off+j,ak⟩ v:=iX ho (h j v hj)
theorem acV{k:Int}{c:C4}{vk:Value}{j:Nat}{v:Value}(h:(ed c)[j]?=aj v):(mG k c vk).toArray[0+1+j]?=aj v:=by
 have hj:j<(ed c).length:=(dX.1 h).1;rw[List.getElem?_toArray,show 0+1+j=j+1 by omega];show(ed c++[vk])[j]?=_
 rw[mg hj];exact h
set_option maxRecDepth 100000 in
theorem B_(w0:World)(gn:Nat):∀(N:Nat) (r:Rx),tM r<=N->∀(v:Value) (deep n:Nat) (w:World) (B:bP),ot (qo w0) w0 v r->n<=100->deep<=31->mI w0 B->Mem B [aR gn #[az aB (n:Int)] 3] w->
 Calls aE 105 #[v,az aB (deep:Int),aK (aj ⟨gn,0,ak⟩)] w (cZ ⟨λ(_:Unit)=>True,λ_=>az aB (lI r deep n).1,λ_=>[aR gn #[az aB ((lI r deep n).2:Int)] 3]⟩ B)
 |0,r,h,_,_,_,_,_,_,_,_,_,_=>by have:=Hu r;omega
 | N + 1,.mk k c kids,hN,v,deep,n,w,B,hv,hn,hd,ho,hm=>by
  have IH:=B_ w0 gn N;obtain⟨vk,rfl,ajL,SY⟩:=hv;dsimp only[Rx.kind,Rx.uO,Rx.kids]at ajL SY⊢;obtain⟨bk,ck,rfl,iH,L4,YR⟩:=SY;unfold maxLen at L4;rw[lI];rw[tM]at hN;have hkc:=λw=>L3 k w;have Jc:=ahV c C4.zero;have hcz:=YQ;refine du hm (args:=[qY k c (av bk kids.length ck),az aB (deep:Int),aK (aj ⟨gn,0,ak⟩)]) (n:=55) Tryz.func105 I I I ?_;clear hm;refine cB (bD (bL I I I λg3=>?_));refine zL ?_
  repeat(first|refine GC ?_|refine gV (aC aL.ty I (aI (i:=0) I I)) ?_|refine gV (fl (r:=((n+1:Nat):Int)) I I J J J) ?_|refine GB ?_)
  refine bJ (i:=0) I I I I I I ?_;rw[show(#[az aB (n:Int)]:Array Value).setIfInBounds 0 (az aB ((n+1:Nat):Int))=#[az aB ((n+1:Nat):Int)]from I];refine zL ?_
  by_cases c1:100<n+1
  ·rw[if_pos c1]
   repeat(first|refine GA ?_|refine gV (aC aL.ty I (aI (i:=0) I I)) ?_)
   exact cJ I I λw hm=>hm.b_ (S:=⟨λ(_:Unit)=>True,λ_=>az aB 2,λ_=>[aR gn #[az aB ((n+1:Nat):Int)] 3]⟩) () trivial [0] aln I
  rw[if_neg c1]
  by_cases c2:30<deep
  ·rw[if_pos c2]
   repeat(first|refine GA ?_|refine gV (aC aL.ty I (aI (i:=0) I I)) ?_)
   exact cJ I I λw hm=>hm.b_ (S:=⟨λ(_:Unit)=>True,λ_=>az aB 7,λ_=>[aR gn #[az aB ((n+1:Nat):Int)] 3]⟩) () trivial [0] aln I
  rw[if_neg c2]
  repeat(first|refine GA ?_|refine gV (aC aL.ty I (aI (i:=0) I I)) ?_)
  by_cases c3:D7 k≠(kids.length:Int)
  ·rw[if_pos c3]
   (repeat refine cB ?_)
   refine dH ([aR g3 (mG k c (av bk kids.length ck)).toArray 87]) (.calm 0 (.calm 1 (.calm 2 (.calm 3 (.calm 4 (.calm 5 (.calm 6 (.calm 7 (.done))))))))) (bV [1]) ?_
   repeat(first|refine GW ?_|(refine GN ?_;first|refine QW (aC aL.ty I (aI (i:=0) I I)) ?_))
   refine oP I (ja aJ.en I I) (λw hm=>hkc _) I I I ?_
   repeat(first|(refine GN ?_;first|refine QW QP ?_|refine QW (aC aL.ty I (aI (i:=0) I I)) ?_|refine QW (dc (b:=aD) I I (decide_eq_true c3)) ?_|refine GX ?_)|refine GW ?_)
   try refine GA ?_
   exact cJ I I λw hm=>hm.b_ (S:=⟨λ(_:Unit)=>True,λ_=>az aB 1,λ_=>[aR gn #[az aB ((n+1:Nat):Int)] 3]⟩) () trivial [0] aln I
  rw[if_neg c3];have OQ:D7 k=(kids.length:Int):=by simpa using c3
  rw[OQ]at hkc
  (repeat refine cB ?_)
  refine dH ([aR g3 (mG k c (av bk kids.length ck)).toArray 87]) (.calm 0 (.calm 1 (.calm 2 (.calm 3 (.calm 4 (.calm 5 (.calm 6 (.calm 7 (.done))))))))) (bV [1]) ?_
  repeat(first|refine GW ?_|(refine GN ?_;first|refine QW (aC aL.ty I (aI (i:=0) I I)) ?_))
  refine oP I (ja aJ.en I I) (λw hm=>hkc _) I I I ?_
  repeat(first|(refine GN ?_;first|refine QW QP ?_|refine QW (aC aL.ty I (aI (i:=0) I I)) ?_|refine QW (dc (b:=aF) I I (decide_eq_false (λh=>h I))) ?_|refine GX ?_)|refine GW ?_)
  try refine GA ?_
  generalize hD:(decide (k=3) !=decide (c≠C4.zero))=D;have hD':(!(decide (k=3)==!decide (c=C4.zero)))=D:=by
   rw[<-hD,decide_not]
   cases decide (k=3)<;>cases decide (c=C4.zero)<;>rfl
  (repeat refine cB ?_)
  refine dH ([aR g3 (mG k c (av bk kids.length ck)).toArray 87]) (.calm 0 (.calm 1 (.calm 2 (.calm 3 (.calm 4 (.calm 5 (.calm 6 (.calm 7 (.calm 8 (.done)))))))))) (bV [1]) ?_
  repeat(first|(refine GN ?_;first|refine QW QP ?_|refine QW (aC aL.ty I (aI (i:=0) I I)) ?_|refine QW (cY (b:=decide (k=3)) I I I) ?_|refine QW (aY (cs:=ed c) aL.ty I I (λj v hj=>aI (i:=0) I (acV hj))) ?_|refine QW (bB I hcz) ?_|refine QW (uM I I (by kernel_rfl) Jc I) ?_|refine QW (UR (c:=D) bQ.eq I I hD') ?_|refine GX ?_)|refine GW ?_)
  clear hD hD' Jc hcz hkc
  cases D with
  | true=>
   rw[if_pos I]
   try refine GA ?_
   exact cJ I I λw hm=>hm.b_ (S:=⟨λ(_:Unit)=>True,λ_=>az aB 1,λ_=>[aR gn #[az aB ((n+1:Nat):Int)] 3]⟩) () trivial [0] aln I
  | false=>
   rw[if_neg aln]
   repeat(first|refine GA ?_|refine gV (aC aL.ty I (aI (i:=1) I I)) ?_)
   refine tW [0] ?_;refine d_ (ι:=Nat×Nat) (λ(j,q)=>j<=kids.length/\q<=100/\CQ kids (deep+1) (n+1)=CQ (kids.drop j) (deep+1) q) (λ(j,_)=>[(1,az aB (deep:Int)),(2,aK (aj ⟨gn,0,ak⟩)),(40,av bk kids.length ck),(41,az aB (kids.length:Int)),(42,az aB (j:Int))])
    (λ(_,q)=>[aR gn #[az aB (q:Int)] 3]) (λ(j,_)=>kids.length-j) (0,n+1) ⟨bH _,by omega,rfl⟩ ?_
   rintro⟨j,q⟩ ⟨hj,hq,hk⟩;dsimp only at hj hq hk⊢;rw[hk]
   by_cases c4:j<kids.length
   ·obtain⟨b,off,rfl,_,hr⟩:=YR J
    obtain⟨bj,cj,eR,hkr⟩:=qD hr c4;have Ya:kids.drop j=kids[j]::kids.drop (j+1):=eH c4;rw[Ya,CQ]at hk⊢;have hsz:=D8 (cH c4);have hle:=λh=>af7 (r:=kids[j]'c4) (deep:=deep+1) (n:=q) h;have dy:=λ(L:List b9) j v hj=>SX (L:=L) ho eR j v hj;generalize kids[j]=r at*;generalize r.kids.length=m at*
    repeat(first|refine GA ?_|refine gV (aZ (j:=j) bQ.eq aL.ty I I c4) ?_|refine gV (aY aL.ty I I (dy _)) ?_)
    refine a8 I λg8=>?_;refine zL ?_;refine gG 1 (cs':=(mG r.kind r.uO (av bj m cj)).toArray) ?_;refine zL ?_
    repeat(first|refine GC ?_|refine gV (aP (i:=1) aL.ty I I I) ?_|refine gV (fl (r:=((deep+1:Nat):Int)) I I J J J) ?_|refine GB ?_)
    refine bz [0] [1] aln I I (qq aJ.en I I I I) (λw hm hb=>IH r J _ (deep+1) q w _ hkr hq J (ho.on hm (by intro o ho;simp at ho⊢;simp[ho])) hb) I I I ?_;intro _ _;dsimp only;refine zL ?_
    by_cases e1:(lI r (deep+1) q).1=0
    ·rw[if_neg (by simpa using e1)]
     rw[if_neg (by simpa using e1)]at hk;have DU:=hle e1;rw[e1];generalize (lI r (deep+1) q).2=q' at*
     try refine GA ?_
     refine dv [1] ?_;exact bW (j+1,q') ⟨by show j+1<=kids.length;omega,DU,rfl⟩ (by show kids.length-(j+1)<kids.length-j;omega)
    rw[if_pos e1];generalize lI r (deep+1) q=z at*
    repeat(first|refine GC ?_|refine gV (dc (b:=aD) I I (decide_eq_true e1)) ?_|refine GB ?_)
    exact cJ I I λw hm=>hm.b_ (S:=⟨λ(_:Unit)=>True,λ_=>az aB z.1,λ_=>[aR gn #[az aB (z.2:Int)] 3]⟩) () trivial [1] aln I
   obtain rfl:j=kids.length:=by omega
   rw[List.drop_length,CQ]at hk⊢
   try refine GA ?_
   exact cJ I I λw hm=>hm.b_ (S:=⟨λ(_:Unit)=>True,λ_=>az aB 0,λ_=>[aR gn #[az aB (q:Int)] 3]⟩) () trivial [0] aln I
def YS(r:Rx):Int:=(lI r 1 0).1
theorem uW(v:Value)(r:Rx)(w:World)(hv:ot (qo w) w v r):Calls aE 72 #[v] w (bX (ret (az aB (YS r))) w):=by
 have hc:=λgn w' B ho hm=>B_ w gn _ r (bC _) v 1 0 w' B hv J J ho hm;obtain⟨vk,rfl,_,hs⟩:=hv;obtain⟨bk,ck,rfl,-⟩:=hs;generalize r.kids.length=m at*;refine enter (args:=[qY r.kind r.uO (av bk m ck)]) (n:=6) Tryz.func72 I I I ?_;refine cB (bD (bL I I I λg1=>?_))
 try refine GA ?_
 refine a8 I λg3=>?_;refine zL ?_;refine bJ (i:=1) I I I I I I ?_;refine zL ?_
 repeat(first|refine GA ?_|refine gV (aP (i:=0) aL.ty I I I) ?_)
 refine bz [1] [0] aln I I (qq aJ.en I I I I) (λw hm hb=>hc g3 w _ ((mI.self _).on hm (by intro o ho;simp at ho⊢;simp[ho])) hb) I I I ?_;intro _ _;dsimp only;unfold YS
 try refine GA ?_
 exact eB
end bZ
section
open Go.RowKit cL dQ dh
attribute [local go_sem] ahO ajI ae3 ahP
theorem U_{w:World}{g:Nat}{x:C4}(h:Wr w g 0 (ed x)):w.cell? ⟨g,0,ak⟩=aj (v64 x.a)/\w.cell? ⟨g,1,ak⟩=aj (v64 x.b)/\w.cell? ⟨g,2,ak⟩=aj (v64 x.c)/\w.cell? ⟨g,3,ak⟩=aj (v64 x.d):=
 ⟨(h 0 _ I).1,(h 1 _ I).1,(h 2 _ I).1,(h 3 _ I).1⟩
theorem Va{w:World}{g:Nat}{x:C4}{T:TypeId}(h:w.heap[g]?=aj (.cells #[.int .u64 (ij x.a),.int .u64 (ij x.b),.int .u64 (ij x.c),.int .u64 (ij x.d)] T (0,0))):Wr w g 0 (ed x):=λj u hj=>by
 rw[cX,cell_of_row w g j _ T (0,0) h];exact⟨by simpa[ed]using hj,frozen_of_row w g j _ T h⟩
theorem SZ{w:World}{B:Nat}(hB:w.heap.size=B)(x:C4)(T:TypeId):Wr (w.alloc (.cells #[.int .u64 (ij x.a),.int .u64 (ij x.b),.int .u64 (ij x.c),.int .u64 (ij x.d)] T)) B 0 (ed x):=
 Va (acy w _ B hB)
theorem nS(w:World)(o:Obj):Below w.heap.size w (w.alloc o):=(Below.refl _ _).alloc (bC _) _
theorem Ba{w:World}{g:Nat}{x:C4}(h:Wr w g 0 (ed x))(i:Nat)(hi:i<4):w.cell? ⟨g,i,ak⟩=aj (.int .u64 (ij (x.get i)))/\w.frozen? ⟨g,i,ak⟩=false:=by
 have:=h i _ (Yy x i hi);rw[cX]at this;exact this
theorem Vb{w:World}{g:Nat}{x:C4}(h:Wr w g 0 (ed x))(i:Nat)(hi:i<4)(v:BitVec 64):Wr (w.setCell ⟨g,i,ak⟩ (.int .u64 (ij v))) g 0 (ed (x.set i v)):=by
 have:=h.set i (by simp[ed];omega) (v64 v);rw[cX,Yz x i hi v]at this;exact this
theorem L5(lo hi:Int)(w:World)(h1:dV lo)(h2:dV hi):
    Calls aE 52 #[az aB lo,az aB hi] w λe w'=>e= .returned (oR (fA lo hi))/\Below w.heap.size w w':=by
  obtain⟨l1,l2⟩:=h1;obtain⟨m1,m2⟩:=h2;unfold oR;have yq:Below w.heap.size w ((w.alloc (.cells #[.int .u64 0,.int .u64 0,.int .u64 0,.int .u64 0] 84)).alloc (.cells #[.int .u64 0,.int .u64 0,.int .u64 0,.int .u64 0] 84))/\Wr ((w.alloc (.cells #[.int .u64 0,.int .u64 0,.int .u64 0,.int .u64 0] 84)).alloc (.cells #[.int .u64 0,.int .u64 0,.int .u64 0,.int .u64 0] 84)) w.heap.size 0 (ed C4.zero)/\Wr ((w.alloc (.cells #[.int .u64 0,.int .u64 0,.int .u64 0,.int .u64 0] 84)).alloc (.cells #[.int .u64 0,.int .u64 0,.int .u64 0,.int .u64 0] 84)) (w.heap.size+1) 0 (ed C4.zero):=
    ⟨(((Below.refl _ _).alloc (bC _) _).alloc (by simp) _),((SZ I C4.zero _).gr (nS _ _)),(SZ (by simp) C4.zero _)⟩
  obtain⟨B,hB⟩:∃B,B=w.heap.size:=⟨_,rfl⟩;rw[<-hB]at yq
  go_enter Tryz.func52,Tryz.ntmps52
  go_upto_region 2 with(fail)
  rw[<-hB];have ajM:w.heap.size<=B:=by omega
  have akP:B<=w.heap.size:=by omega
  clear hB
  go_cut [6] (λs6 w'=>w'=((w.alloc (.cells #[.int .u64 0,.int .u64 0,.int .u64 0,.int .u64 0] 84)).alloc (.cells #[.int .u64 0,.int .u64 0,.int .u64 0,.int .u64 0] 84))/\s6=az aB (max lo 0))
  case first=>
    go_wp2
    all_goals
      go_meet
      case rel=>exact⟨rfl,by congr 1<;>omega⟩
  case rest=>
    obtain⟨rfl,rfl⟩:=hcut;obtain⟨b0,A5⟩:∃b0:Nat,(b0:Int)=max lo 0:=⟨(max lo 0).toNat,by omega⟩;have hF:fA lo hi=C4.kt C4.zero b0 (min hi 255+1-b0).toNat:=by unfold fA;rw[<-A5];rfl
    have HF:=DK hF;rw[<-A5];clear hF A5;obtain⟨zu,Xd,hs3⟩:=yq;obtain⟨N,hN⟩:∃N,N=(min hi 255+1-b0).toNat:=⟨_,rfl⟩;have HN:=DK hN;have hN1:0<N->(b0:Int)+N=min hi 255+1:=λh=>by omega
    have hN0:N=0->min hi 255<(b0:Int):=λh=>by omega
    have YT:N=0\/b0+N<=256:=by omega
    clear hN;rcases(show 255<hi\/hi<=255 by omega)with hh|hh
    all_goals
      go_wp2_with fail
      go_loopg [6] N (λg c wr=>∃i:Nat,i+g=N/\c=az aB ((b0+i:Nat):Int)/\Below B w wr/\Wr wr B 0 (ed C4.zero)/\Wr wr (B+1) 0 (ed (C4.kt C4.zero b0 i)))
      case atStart=>exact⟨0,by omega,rfl,zu,Xd,hs3⟩
      case round=>
        obtain⟨i,qB,rfl,hb,hr,hx⟩:=hrel;clear zu Xd hs3
        by_cases hlt:i<N
        · have hbb:((b0+i:Nat):Int)<=hi:=by have:=hN1 J;omega
          have ahW:b0+i<=255:=by omega
          have hstep:=YA C4.zero b0 i;generalize hbn:b0+i=b at hbb ahW hstep⊢;have h4:b/64<4:=by omega
          have cx:∀w',Up wr.drew w'->w'.cell? ⟨B+1,b/64,ak⟩=aj (.int .u64 (ij ((C4.kt C4.zero b0 i).get (b/64)))):=λw' hw=>(Ba ((hx.gr (Gr.drew _)).gr hw) (b/64) h4).1;have hand:=UY b J;have YU:=acN (b %64) (x_ _ aln);have HS0:=DK hstep;have HI:=DK qB;clear hN1 hN0 YT hstep qB
          go_wp2_with fail
          refine dQ 9 (dl 9 aD) I (by kernel_rfl) (by kernel_rfl) (by intro c a d v w h;cases d<;>exact h) (Up wr.drew) (UK _) (Gr.refl _) ?_;simp only[XZ,uD,List.drop_succ_cons,List.drop_zero,dl]
          repeat(first|(refine SB (by rfl) (λw hSw=>by go_simp;(try (simp only[↓IntWalk.iteOmega];try go_simp));(try go_bits);first|done|with_reducible rfl) ?_;simp only[qS,uC,x7,DO])|(refine X' (by rfl) ?_;simp only[qS,uC,x7,DO]))
          refine SC λw5 hw5=>?_;have hx5:=(hx.gr (Gr.drew _)).gr hw5;have hr5:=(hr.gr (Gr.drew _)).gr hw5;have hb5:Below B w w5:=X8 hb.drew (by have:=hb.size;simp;omega) hw5;obtain⟨c1,c2⟩:=Ba hx5 (b/64) h4;have hs:=Vb hx5 (b/64) h4 ((C4.kt C4.zero b0 i).get (b/64)|||iM 64 (2^(b %64)));have hf1:=hr5.far (a:=⟨B+1,b/64,ak⟩) (by simp) (.int .u64 (ij ((C4.kt C4.zero b0 i).get (b/64)|||iM 64 (2^(b %64)))));have hbs:=hb5.setCell (p:=⟨B+1,b/64,ak⟩) (by simp) (.int .u64 (ij ((C4.kt C4.zero b0 i).get (b/64)|||iM 64 (2^(b %64)))));rw[HS0.out]at hs;have HS:=DK (cP hs (cP hf1 hbs));clear hs hf1 hbs hx5 hr5 hb5 cx hx hr hb hw5 hand YU
          go_wp2_with fail
          have qB:=HI.out
          go_roundg (gk-1)
          case measure=>omega
          case rel=>exact⟨i+1,by omega,by go_num,HS.out.2.2,HS.out.2.1,HS.out.1⟩
        obtain rfl:i=N:=by omega
        have akQ:min hi 255<((b0+i:Nat):Int):=by
          by_cases h0:i=0
          have:=hN0 h0;omega;have:=hN1 J;omega
        have hE:C4.kt C4.zero b0 i=fA lo hi:=by rw[HF.out,<-HN.out]
        rw[hE]at hx;obtain⟨c0,c1,c2,c3⟩:=U_ hx;obtain⟨⟨r0,f0⟩,⟨r1,f1⟩,⟨r2,f2⟩,⟨r3,f3⟩⟩:_/\_/\_/\_:=⟨Ba hr 0 aln,Ba hr 1 aln,Ba hr 2 aln,Ba hr 3 aln⟩;clear hN1 hN0 YT hE;generalize b0+i=b at*;have akE:¬(b:Int)<=min hi 255:=by omega
        go_wp2_with fail
        refine bodyPost_ret (v:=aQ #[.int .u64 (ij (fA lo hi).a),.int .u64 (ij (fA lo hi).b),.int .u64 (ij (fA lo hi).c),.int .u64 (ij (fA lo hi).d)]) (by simp[results,Tryz.results52,go_sem,r0,r1,r2,r3]) I ⟨rfl,?_⟩;exact((((hb.setCell (by simp) _).setCell (by simp) _).setCell (by simp) _).setCell (by simp) _).mono ajM
end
namespace lB
open Go.RowKit cL dQ dh bZ
theorem af8(lo hi:Int)(h1:dV lo)(h2:dV hi)(w:World):Calls aE 52 #[az aB lo,az aB hi] w (bX (ret (oR (fA lo hi))) w):=(L5 lo hi w h1 h2).mono λ_ _ ⟨he,hb⟩=>UN he hb
end lB
namespace bZ
open Go.RowKit cL dQ
theorem mapM_some{α β:Type}{f:α->Option β}:∀{l:List α},(∀x∈l,∃y,f x=aj y)->∃ys,l.mapM f=aj ys
 |[],_=>⟨[],by simp⟩
 |a::l,h=>by
  obtain⟨y,hy⟩:=h a (by simp);obtain⟨ys,hys⟩:=mapM_some (l:=l) λx hx=>h x (by grind);exact⟨y::ys,by simp[X2,hy,hys]⟩
section
variable{P:Program}
def KL(P:Program)(d:Nat)(t:TypeId)(cs:List Value):Prop:=∃ls,P.keyLits d t cs=aj ls
theorem uX{d:Nat}{t:TypeId}{q:IntKind}{n:Int}(ht:P.underlying t=aj (.int q))(h0:q.min<=n)(h1:n<=q.max):KL P (d+1) t [.int q n]:=by
 refine⟨[.int q n],?_⟩;have hw:(Lit.int q n).wf=true:=by simp[Lit.wf,h0,h1]
 simp[AX,ht,hw]
theorem YV{d n:Nat}{t e:TypeId}{cs:List Value}(ht:P.underlying t=aj (.array n e))(hl:cs.length=P.cellsOf t)(h:∀i,i<n->KL P d e ((cs.drop (i*P.cellsOf e)).take (P.cellsOf e))):KL P (d+1) t cs:=by
 obtain⟨ys,hy⟩:=mapM_some (f:=λi=>P.keyLits d e ((cs.drop (i*P.cellsOf e)).take (P.cellsOf e))) (l:=eA n) λi hi=>h i (qV.1 hi);refine⟨ys.flatten,?_⟩;unfold AX;simp only[ht];rw[if_pos hl,hy];rfl
theorem Bb{d:Nat}{t:TypeId}{fs:Array Field}{cs:List Value}(ht:P.underlying t=aj (.struct fs))(hl:cs.length=P.cellsOf t)(hn:fs.all (·.name != "_")=aD)(h:∀f∈fs.toList,KL P d f.type ((cs.drop f.offset).take (P.cellsOf f.type))):KL P (d+1) t cs:=by
 obtain⟨ys,hy⟩:=mapM_some (f:=λf:Field=>P.keyLits d f.type ((cs.drop f.offset).take (P.cellsOf f.type))) (l:=fs.toList) h;refine⟨ys.flatten,?_⟩;unfold AX;simp only[ht];rw[if_pos ⟨hl,hn⟩,hy];rfl
theorem Ju{t:TypeId}{cs:List Value}{m:Nat}(hw:(match P.underlying t with|some (.array _ _)|some (.struct _)=>aD|_=>aF)=aD)(hk:P.keyType t=aD)(hl:cs.length=P.cellsOf t)(hm:∃d,P.types.size+1=d+m)(h:∀d,KL P (d+m) t cs):∃l,keyOf P t (aQ cs.toArray)=aj l:=by
 obtain⟨d,e⟩:=hm;obtain⟨ls,hls⟩:=h d;refine⟨.string (keyBytes ls),?_⟩;have hf:(aQ cs.toArray).formed P t=true:=by
  grind[Value.formed]
 have hc:(aQ cs.toArray).cells.toList=cs:=rfl;have key:(if(P.keyType t&&(aQ cs.toArray).formed P t)=aD then(P.keyLits (P.types.size+1) t (aQ cs.toArray).cells.toList).map (λls=>Lit.string (keyBytes ls))else ak)=aj (.string (keyBytes ls)):=by
  simp_all
 grind[keyOf]
end
theorem Da:laidOutB aE=true:=by kernel_rfl
theorem Db(m:Nat)(h:x9 m (aE.types.size+1)=aD):∃d,aE.types.size+1=d+m:=⟨aE.types.size+1-m,by simp_all⟩
end bZ
namespace cz
section
variable{κ:Type}[DecidableEq κ]
def dU:List κ->List κ->List κ
 |D,[]=>D
 |D,k::r=>dU (if k∈D then D else D++[k]) r
def more(D:List κ)(k:κ):List κ:=if k∈D then D else D++[k]
theorem lg:∀(l D:List κ) (k:κ),dU D (l++[k])=more (dU D l) k
 |[],_,_=>rfl
 |_::l,_,k=>lg l _ k
theorem Ec(D:List κ)(k:κ):∃E,more D k=D++E:=by
 unfold more;split;exact⟨[],by simp⟩;exact⟨[k],rfl⟩
theorem uY{D:List κ}{k x:κ}:x∈more D k↔x∈D\/x=k:=by
 grind[more]
theorem sR:∀(l D:List κ),∃E,dU D l=D++E
 |[],D=>⟨[],by simp[dU]⟩
 |k::l,D=>by
  obtain⟨E,h⟩:=Ec D k;obtain⟨E',h'⟩:=sR l (more D k);exact⟨E++E',by show dU (more D k) l=_;rw[h',h,eY]⟩
theorem lh{x:κ}:∀{l D:List κ},x∈dU D l↔x∈D\/x∈l
 |[],D=>by simp[dU]
 |k::l,D=>by
  show x∈dU (more D k) l↔_
  rw[lh,uY,dM,or_assoc]
theorem Ed{D:List κ}{k:κ}(h:D.Nodup):(more D k).Nodup:=by
 grind[more]
theorem sS:∀(l D:List κ),D.Nodup->(dU D l).Nodup
 |[],_,h=>h
 |_::l,_,h=>sS l _ (Ed h)
def idx(D:List κ)(k:κ):Nat:=D.idxOf k
theorem nC{D:List κ}{k:κ}(h:k∈D):idx D k<D.length:=List.idxOf_lt_length_of_mem h
theorem w7{D:List κ}{k:κ}(h:idx D k<D.length):D[idx D k]=k:=List.getElem_idxOf h
theorem Ee{D:List κ}(hn:D.Nodup){v:Nat}(h:v<D.length):idx D D[v]=v:=by
 have h1:=nC (cH h);exact(List.getElem_inj hn).1 (w7 h1)
theorem YW(k:κ)(E:List κ):idx (k::E) k=0:=by simp[idx]
theorem qE{D E:List κ}{k:κ}(h:k∈D):idx (D++E) k=idx D k:=by simp_all[idx,X1]
theorem rJ{D:List κ}{k:κ}:idx (more D k) k=if k∈D then idx D k else D.length:=by
 unfold more;split;rfl
 simp_all[idx,X1]
theorem YX{l D:List κ}{i:Nat}(hi:i<l.length):idx (dU D l) l[i]=if l[i]∈dU D (l.take i)then idx (dU D (l.take i)) l[i]else(dU D (l.take i)).length:=by
 have e:l=l.take (i+1)++l.drop (i+1):=(om _ _).symm;have h1:l.take (i+1)=l.take i++[l[i]]:=List.take_succ_eq_append_getElem hi;have h2:∃E,dU D l=dU D (l.take (i+1))++E:=by
  obtain⟨E,h⟩:=sR (l.drop (i+1)) (dU D (l.take (i+1)));refine⟨E,?_⟩;rw[<-h];have hap:∀(a b D:List κ),dU D (a++b)=dU (dU D a) b:=by
   intro a
   induction a with
   |nil=>intro b D;rfl
   |cons x a ih=>intro b D;exact ih b _
  grind
 obtain⟨E,h2⟩:=h2;rw[h2,qE,h1,lg,rJ];rw[h1,lg,uY];exact .inr I
theorem acW{D:List κ}{x y:κ}(hx:x∈D)(h:idx D x=idx D y):x=y:=by
 have h1:=nC hx;have h2:idx D y<D.length:=h▸h1;rw[<-w7 h1,<-w7 h2]
 congr 1
end
theorem lC{α:Type}{l m:List α}{k:Nat}{d:α}(h:k<l.length):(l++m).getD k d=l.getD k d:=by
 grind
theorem sT{α:Type}{l m:List α}{k:Nat}{d:α}(h:l.length<=k):(l++m).getD k d=m.getD (k-l.length) d:=by
 grind
theorem nU{l:List Nat}{m:Nat}(h:l.Nodup)(hb:∀x∈l,x<m):l.length<=m:=by
 have hs:∀(l l':List Nat),l.Nodup->(∀x∈l,x∈l')->l.length<=l'.length:=by
  intro l
  induction l with
  |nil=>simp
  |cons x l ih=>
   intro l' hn hs;rw[sD]at hn;have hx:x∈l':=hs x (by simp);have:=ih (l'.erase x) hn.2 (λy hy=>(Pf (by grind)).2 (hs y (by grind)));rw[Pd hx]at this;have:0<l'.length:=Pe hx;simp;omega
 have:=hs l (eA m) h λx hx=>qV.2 (hb x hx)
 simp_all
theorem PM{N:Nat}{f g:Nat->Nat}{n c:Nat}(hf:∀v,v<n->∃x,x<N/\f x=v)(hg:∀x,x<N->g x<c)(hr:∀x y,x<N->y<N->g x=g y->f x=f y):
 n<=c/\(c=n->(∀x,x<N->f x<n)->∀x y,x<N->y<N->f x=f y->g x=g y):=by
 have hc:∃p:Nat->Nat,∀v,v<n->p v<N/\f (p v)=v:=by
  refine⟨λv=>if h:v<n then(hf v h).choose else 0,λv h=>?_⟩;simp only[dif_pos h];exact(hf v h).choose_spec
 obtain⟨p,hp⟩:=hc;have Hm:∀l:List Nat,l.Nodup->(∀v∈l,v<n)->(l.map λv=>g (p v)).Nodup:=by
  grind[afE]
 refine⟨?_,λhcn hfb x y hx hy hxy=>?_⟩
 ·have h1:=nU (m:=c) (Hm (eA n) Pj λv hv=>qV.1 hv) (λz hz=>by
   grind)
  simp_all
 ·apply afz
  intro hne;have hv:f x<n:=hfb x hx;have hl:((eA n).erase (f x)).Nodup:=Pj.erase _;have hb:∀v∈(eA n).erase (f x),v<n/\v≠f x:=λv hv=>by
   have:=(Pj.mem_erase_iff).1 hv;exact⟨qV.1 this.2,this.1⟩
  have h1:=Hm _ hl λv hv=>(hb v hv).1;have acA:∀z,z<N->f z=f x->g z∉((eA n).erase (f x)).map λv=>g (p v):=by
   intro z hz he Gt;obtain⟨v,L6,e⟩:=fG.1 Gt;have h2:=hp v (hb v L6).1;have:=hr _ _ h2.1 hz e;rw[h2.2,he]at this;exact(hb v L6).2 this
  have h2:(g x::g y::((eA n).erase (f x)).map λv=>g (p v)).Nodup:=by
   simp_all
  have h3:=nU (m:=c) h2 (λz hz=>by
   simp only[dM]at hz;rcases hz with rfl|rfl|hz
   simp_all;exact hg _ hy;obtain⟨v,hv,rfl⟩:=fG.1 hz;exact hg _ (hp v (hb v hv).1).1)
  grind
end cz
namespace bZ
open Go.RowKit cL dQ dh
theorem YY{P:Program}(x j b:Nat)(k k':IntKind)(hb:k.bits=b)(hj:j<=b)(w:World):(iN .shr k (x:Int) k' (j:Int)).run P w= .ok (.int k ((x/2^j:Nat):Int)) w:=by
 have e:min j b=j:=by omega
 have h0:¬((j:Int)<0):=by omega
 have e2:(x:Int).fdiv (2^j)=((x/2^j:Nat):Int):=by
  grind
 simp_all[iN,if_neg]
theorem Ef(c:C4)(i:Nat)(h:i<4):(#[v64 c.a,v64 c.b,v64 c.c,v64 c.d]:Array Value)[i]?=aj (.int .u64 ((c.get i).toNat:Int)):=by
 match i,h with
 |0,_=>rfl
 |1,_=>rfl
 |2,_=>rfl
 |3,_=>rfl
theorem acX:∀b:Nat,b<256->bits .and .u8 (b:Int) 63=((b %64:Nat):Int):=by decide+kernel
theorem Vc(c:C4)(b:Nat)(hb:b<256)(w:World):Calls aE 112 #[oR c,.int .u8 (b:Int)] w (bX (ret (.bool (c.mem b))) w):=by
 refine enter (args:=[aQ #[v64 c.a,v64 c.b,v64 c.c,v64 c.d],.int .u8 (b:Int)]) (n:=14) Tryz.func112 I I I<|cB (bD (bL I I I λg=>?_));have h1:b/64<4:=by omega
 have hc:(#[v64 c.a,v64 c.b,v64 c.c,v64 c.d]:Array Value)[0+b/64]?=aj (.int .u64 ((c.get (b/64)).toNat:Int)):=by rw[cX];exact Ef c _ h1
 have hx:=(c.get (b/64)).isLt;have zu:∀w,(iN .shr .u8 (b:Int) .u64 6).run aE w= .ok (.int .u8 ((b/64:Nat):Int)) w:=λw=>YY b 6 8 .u8 .u64 I aln w;have Xd:∀w,(iN .shr .u64 ((c.get (b/64)).toNat:Int) .u8 ((b %64:Nat):Int)).run aE w= .ok (.int .u64 (((c.get (b/64)).toNat/2^(b %64):Nat):Int)) w:=λw=>YY _ (b %64) 64 .u64 .u8 I J w;have hm:c.mem b=decide ((c.get (b/64)).toNat/2^(b %64) %2=1):=by simp[C4.mem,Nat.testBit_eq_decide_div_mod_eq]
 rw[hm];have hd:(c.get (b/64)).toNat/2^(b %64)<=(c.get (b/64)).toNat:=Nat.div_le_self _ _;have qX:=acX b hb;generalize (c.get (b/64)).toNat=x at*;generalize b %64=k at*;generalize b/64=i at*;generalize x/2^k=y at*;have ha:bits .and .u64 (y:Int) 1=((y %2:Nat):Int):=by
  grind[bits_and_u64_nat]
 repeat(first|refine GC ?_|refine gV (px I I zu) ?_|refine gV (hZ bQ.eq aL.ty I I h1) ?_|refine gV (aC aL.ty I (aI (i:=0) I hc)) ?_|refine gV (nB I I qX) ?_|refine gV (px I I Xd) ?_|refine gV (nB I I ha) ?_|refine gV (cY I I I) ?_|refine GB ?_)
 exact dG I I (by congr 1;rw[decide_eq_decide];omega)
open gu lB
abbrev At2:=Int×Int
structure MOk(s:List UInt8)(N:Nat->Re)(m:At2->Option Value)(n:Nat):Prop where
 val:∀(k f:Nat) v,k<100->f<=s.length->m ((k:Int),(f:Int))=aj v->∃c,v=oR c/\ahQ s (N k) f c
 Xb:∃D:List Nat,D.Nodup/\D.length=n/\(∀x∈D,x<25600)/\∀(k f:Nat),k<100->f<256->((m ((k:Int),(f:Int))).isSome=aD↔k*256+f∈D)
theorem MOk.le{s:List UInt8}{N:Nat->Re}{m:At2->Option Value}{n:Nat}(h:MOk s N m n):n<=25600:=by
 obtain⟨D,h1,h2,h3,_⟩:=h.Xb;rw[<-h2];exact cz.nU h1 h3
theorem MOk.set{s:List UInt8}{N:Nat->Re}{m:At2->Option Value}{n:Nat}(h:MOk s N m n)(hs:s.length<=200){k f:Nat}(hk:k<100)(hf:f<=s.length){c:C4}(hc:ahQ s (N k) f c):
 MOk s N (λy=>if y=((k:Int),(f:Int))then aj (oR c)else m y) (if(m ((k:Int),(f:Int))).isSome then n else n+1):=by
 refine⟨λk' f' v o8 C9 hv=>?_,?_⟩
 ·by_cases e:((k':Int),(f':Int))=((k:Int),(f:Int))
  grind
  rw[if_neg e]at hv;exact h.val k' f' v o8 C9 hv
 ·obtain⟨D,h1,h2,h3,h4⟩:=h.Xb
  by_cases e:(m ((k:Int),(f:Int))).isSome=aD
  grind
  rw[if_neg e];have hn:k*256+f∉D:=λhd=>e ((h4 k f hk J).2 hd);refine⟨(k*256+f)::D,sD.2 ⟨hn,h1⟩,by simp_all,λx hx=>?_,λk' f' o8 C9=>?_⟩
  grind
  grind
section
variable{P:Program}{k:TypeId}{κ:Type}(K:zr P k κ)
variable{n:Nat}{W:bP}{fr:Fr}{L:List b9}{dst:Option Tmp}{ty:TypeId}{pos:String}{after:Array Edge}{guard:Option (Nat×Bool)}{i g c:Nat}{t e:TypeId}{m:κ->Option Value}{x:κ}{z v:Value}{xm xk:Operand}
theorem j_(ht:P.underlying t=aj (.map k e))(hz:∀w,(zeroValue e).run P w= .ok z w)(hi:L[i]?=aj (fv K g m c))(hm:ev fr xm=aj (.map (aj g)))(hk:ev fr xk=aj (K.kv x))(hx:K.ok x)(hv:m x=aj v):RR P n W ⟨dst,.lookup t xm xk aD,ty,pos,after,guard⟩ fr L (.tuple #[v,.bool aD]):=by
 have:=o_ K (n:=n) (W:=W) (dst:=dst) (ty:=ty) (pos:=pos) (after:=after) (guard:=guard) ht hz hi hm hk hx;rw[hv]at this;exact this
theorem ka(ht:P.underlying t=aj (.map k e))(hz:∀w,(zeroValue e).run P w= .ok z w)(hi:L[i]?=aj (fv K g m c))(hm:ev fr xm=aj (.map (aj g)))(hk:ev fr xk=aj (K.kv x))(hx:K.ok x)(hv:m x=ak):RR P n W ⟨dst,.lookup t xm xk aD,ty,pos,after,guard⟩ fr L (.tuple #[z,.bool aF]):=by
 have:=o_ K (n:=n) (W:=W) (dst:=dst) (ty:=ty) (pos:=pos) (after:=after) (guard:=guard) ht hz hi hm hk hx;rw[hv]at this;exact this
end
structure StI(s:List UInt8)(a:Re)(f:Nat)(out now:C4):Prop where
 sound:∀j,j<256->out.mem j=aD->Rch (U1 a s) f j
 sub:∀j,j<256->now.mem j=aD->out.mem j=aD
 cl:∀i,i<256->out.mem i=aD->now.mem i=aF->∀j,U1 a s i j->out.mem j=aD
 st:out.mem f=aD
theorem StI.le{s:List UInt8}{a:Re}{f:Nat}{out now:C4}(h:StI s a f out now)(hf:f<=s.length)(j:Nat)(hj:j<256)(hn:now.mem j=aD):j<=s.length:=
 ((YC hf).2 (h.sound j hj (h.sub j hj hn))).2.1
theorem PN(c:C4)(w:World):(dg 87 #[(0,az aB 3),(1,oR c)]).run aE w= .ok (qY 3 c (av ak 0 0)) w:=by kernel_rfl
theorem zv(b:Int)(w:World)(hb:cL.dV b):Calls aE 23 #[az aB b] w (bX (ret (qY 3 (fA b b) (av ak 0 0))) w):=by
 have hr:=λw=>af8 b b hb hb w;have PO:=PN (fA b b);generalize fA b b=c at*;refine enter (args:=[az aB b]) (n:=7) Tryz.func23 I I I ?_;refine cB (bD (a8 I λg2=>?_));refine zL ?_
 try refine GA ?_
 refine aU (fC aJ.en I I I) (λw hm=>hr _) I I I ?_;intro _ _;refine zL ?_
 repeat(first|refine GA ?_|refine gV (bB I PO) ?_)
 refine gG 0 (cs':=(mG 3 c (av ak 0 0)).toArray) ?_;refine zL ?_
 try refine GA ?_
 exact fW (i:=0) I I I I λw hm=>hm.ret
section
end
def b8(l:List Nat):U2:=l.map fV
theorem eP.perm{p:Nat->Prop}{w:World}{L L':List b9}(h:eP p w L)(hp:L.Perm L'):eP p w L':=by
 have hpw:L.Pairwise (λo o'=>∀k,o.fy k->¬o'.fy k):=XT.2 λi j hi hj tL=>h.apart i j _ _ J (bM hi) (bM hj);have akR:=XT.1 ((hp.pairwise_iff (λhxy k h1 h2=>hxy k h2 h1)).1 hpw);refine⟨λi o hi=>?_,λi j o o' tL hi hj k h1 h2=>?_⟩
 ·obtain⟨j,hj⟩:=uA (hp.symm.subset (mL hi))
  exact h.all j o hj
 grind
theorem Mem.perm{W:bP}{w:World}{L L':List b9}(h:Mem W L w)(hp:L.Perm L'):Mem W L' w:=⟨h.low,h.owns.perm hp⟩
theorem Vd{l l':Fr}(hp:l.Perm l'):(l.map (·.1)).Nodup->∀(fr:Fr) (i:Nat),look (l++fr) i=look (l'++fr) i:=by
 induction hp with
 |nil=>simp
 | cons x _ ih=>
  intro hn fr i;rw[ff,sD]at hn;obtain⟨k,v⟩:=x;show(bif fU k i then aj v else _)=(bif fU k i then aj v else _)
  simp_all
 | swap x y l=>
  intro hn fr i;obtain⟨k,v⟩:=x;obtain⟨k2,v2⟩:=y;simp only[ff,sD,dM,not_or]at hn;show(bif fU k2 i then aj v2 else bif fU k i then aj v else _)=(bif fU k i then aj v else bif fU k2 i then aj v2 else _)
  cases e:fU k2 i
  rfl
  cases e2:fU k i
  rfl;have a:=mi e;have b:=mi e2;exact absurd (a.trans b.symm) hn.1.1
 | trans h1 _ ih1 ih2=>
  grind
theorem Ve{α β:Type}(f:α->β){l l':List β}(h:l.Perm l'):∀dn:List α,dn.map f=l->∃dn':List α,dn'.Perm dn/\dn'.map f=l':=by
 induction h with
 |nil=>simp
 | cons x _ ih=>
  intro dn h
  match dn,h with
  |y::dn,h=>
   simp only[ff,jA]at h;obtain⟨d',h1,h2⟩:=ih dn h.2;exact⟨y::d',h1.cons y,by simp_all⟩
 | swap x y l=>
  intro dn h
  match dn,h with
  |a::b::dn,h=>
   simp only[ff,jA]at h;exact⟨b::a::dn,afF _ _ _,by simp_all⟩
 |trans _ _ ih1 ih2=>
  intro dn h;obtain⟨d1,h1,h2⟩:=ih1 dn h;obtain⟨d2,h3,h4⟩:=ih2 d1 h2;exact⟨d2,h3.trans h1,h4⟩
def Vf:List Nat->List (List Nat)
 |[]=>[[]]
 |a::r=>Vf r++(Vf r).map (a:: ·)
theorem Ca(p:Nat->Bool):∀l,l.filter p∈Vf l
 |[]=>by simp[Vf]
 |a::r=>by
  have ih:=Ca p r;unfold Vf;rw[List.filter_cons];split;exact List.mem_append_right _ (I' ih);exact uE _ ih
structure Mk where
 i:Nat
 d:Nat
 v:Nat->Value
 own:Nat->b9
def oU(dn:List (Mk×Nat)):Fr:=dn.map λx=>(x.1.d,x.1.v x.2)
def owm(dn:List (Mk×Nat)):List b9:=dn.map λx=>x.1.own x.2
def nh(listed:Array Bool)(D:List Nat):Array Bool:=D.foldl (λl i=>l.setIfInBounds i aD) listed
theorem HD(D:List Nat):∀(listed:Array Bool) (j:Nat),(nh listed D)[j]?=(listed[j]?).map λb=>b||D.contains j:=by
 induction D with
 |nil=>simp[nh]
 |cons a r ih=>
  intro listed j;show(nh (listed.setIfInBounds a aD) r)[j]?=_
  grind
theorem yr{listed:Array Bool}{D D':List Nat}(h:∀j,D.contains j=D'.contains j):nh listed D=nh listed D':=by
 apply Xu;intro j;rw[HD,HD,h j]
def ae8(ops:Array Oper)(is:List Nat)(ends:List (List Nat))(listed:Array Bool):Bool:=(Vf is).all λD=>ends.contains D||decide (jw .any ops (nh listed D)=is.filter λi=>!D.contains i)
theorem L7:∀(l l':List Nat),l.Nodup->(∀x∈l,x∈l')->l.length<=l'.length
 |[],_,_,_=>bH _
 |a::r,l',hn,hs=>by
  rw[sD]at hn;have ha:=hs a (by simp);have:=L7 r (l'.erase a) hn.2 λx hx=>(Pf (λ(e:x=a)=>hn.1 (by simp_all))).2 (hs x (by grind));rw[Pd ha]at this;have:=Pe ha;simp;omega
theorem Eg:∀(l l':List Nat),l.Nodup->(∀x∈l,x∈l')->l'.length<=l.length->l.Perm l'
 |[],l',_,_,h=>by
  simp_all
 |a::r,l',hn,hs,h=>by
  rw[sD]at hn;have ha:=hs a (by simp);have hl:=Pd ha;have h2:=Pe ha;have:=Eg r (l'.erase a) hn.2 (λx hx=>(Pf (λ(e:x=a)=>hn.1 (by simp_all))).2 (hs x (by grind))) (by simp_all);exact(this.cons a).trans (List.perm_cons_erase ha).symm
theorem ae9:∀(ms:List Mk),(ms.map (·.i)).Nodup->∀m∈ms,∀m'∈ms,m.i=m'.i->m=m'
 |[],_,_,hm,_,_,_=>by grind
 |y::ms,h,m,hm,m',qu,e=>by
  rw[ff,sD]at h;rcases dM.1 hm with a1|a1<;>rcases dM.1 qu with a2|a2
  grind;exact absurd (by rw[<-a1,e];exact I' a2) h.1;exact absurd (by rw[<-a2,<-e];exact I' a1) h.1;exact ae9 ms h.2 m a1 m' a2 e
theorem L8:∀(dn:List (Mk×Nat)) (ms all:List Mk),(∀m∈all,∀m'∈all,m.i=m'.i->m=m')->(∀x∈dn,x.1∈all)->(∀x∈ms,x∈all)->dn.map (·.1.i)=ms.map (·.i)->dn.map (·.1)=ms
 |[],ms,_,_,_,_,h=>by
  simp_all
 |y::dn,[],_,_,_,_,h=>by grind
 |y::dn,m::ms,all,hi,h1,h2,h=>by
  simp only[ff,jA]at h;rw[ff,L8 dn ms all hi (λx hx=>h1 x (by grind)) (λx hx=>h2 x (by grind)) h.2,hi y.1 (h1 y (by simp)) m (h2 m (by simp)) h.1]
section
variable{P:Program}{n:Nat}{W:bP}{Q:Exit->Act->World->Prop}{fr:Fr}{L L0:List b9}{ops:Array Oper}
def HE(P:Program)(n:Nat)(W:bP)(ops:Array Oper)(fr:Fr)(m:Mk):Prop:=
 ∃o,ops[m.i]?=aj o/\∀(Q:Exit->Act->World->Prop) (Gu:Fr) (L:List b9),(∀q v,look fr q=aj v->look Gu q=aj v)->(∀g,TL P n W ops Q [] ((m.d,m.v g)::Gu) (L++[m.own g]))->TL P n W ops Q [o] Gu L
theorem HG:∀(l:Fr) {q:Nat} {v:Value},(∀x∈l,look fr x.1=ak)->look fr q=aj v->look (l++fr) q=aj v
 |[],_,_,_,h=>h
 |(k,u)::l,q,v,hl,h=>by
  show(bif fU k q then aj u else look (l++fr) q)=aj v
  cases e:fU k q
  exact HG l (λx hx=>hl x (by grind)) h;have:=mi e;subst this;have:=hl (k,u) (by simp);rw[this]at h
  cases h
theorem na.perm{a:Act}{l l':Fr}(h:na n a (l++fr))(hp:l.Perm l')(hn:(l.map (·.1)).Nodup):na n a (l'++fr):=
 ⟨h.size,h.defers,λi v hl=>h.get i v (by grind[Vd])⟩
theorem YZ:∀(dn:List (Mk×Nat)),(dn.map (·.1.i)).Nodup->∃g:Nat->Nat,∀x∈dn,g x.1.i=x.2
 |[],_=>⟨λ_=>0,λx hx=>by grind⟩
 | y::dn,h=>by
  rw[ff,sD]at h;obtain⟨g,hg⟩:=YZ dn h.2;refine⟨λi=>if i=y.1.i then y.2 else g i,λx hx=>?_⟩;rcases dM.1 hx with rfl|hx
  simp;have:¬x.1.i=y.1.i:=λe=>h.1 (by rw[<-e];exact I' hx);simp only[if_neg this];exact hg x hx
theorem PP(ms E:List Mk)(hn:(ms.map (·.i)).Nodup)(hEn:(E.map (·.i)).Nodup)(hEd:(E.map (·.d)).Nodup)(hE:∀m∈E,m∈ms)(dn:List (Mk×Nat))(h1:∀x∈dn,x.1∈ms)(hp:(dn.map (·.1.i)).Perm (E.map (·.i)))(a:Act)(hr:na n a (oU dn++fr)):
 ∃g:Nat->Nat,na n a (E.map (λm=>(m.d,m.v (g m.i)))++fr)/\Mem W (L++owm dn)=Mem W (L++E.map λm=>m.own (g m.i)):=by
 obtain⟨d',p1,p2⟩:=Ve (λx:Mk×Nat=>x.1.i) hp dn I;have e1:=L8 d' E ms (ae9 ms hn) (λx hx=>h1 x (p1.subset hx)) hE p2;obtain⟨g,hg⟩:=YZ d' (by simp_all);have e2:d'=E.map λm=>(m,g m.i):=by
  rw[<-e1,Pn]
  conv=>lhs;rw[<-List.map_id d']
  grind[List.map_congr_left]
 have PQ:((oU dn).map (·.1)).Nodup:=by
  have:((oU dn).map (·.1)).Perm (E.map (·.d)):=by
   have h5:=(p1.map λx:Mk×Nat=>x.1.d).symm;have e:d'.map (λx:Mk×Nat=>x.1.d)=E.map (·.d):=by simp_all
   rw[e]at h5;unfold oU;rw[Pn];exact h5
  grind
 have Gy:=hr.perm (p1.map _).symm PQ;refine⟨g,?_,?_⟩
 ·have:d'.map (λx=>(x.1.d,x.1.v x.2))=E.map (λm=>(m.d,m.v (g m.i))):=by simp_all
  grind
 ·have e:E.map (λm=>m.own (g m.i))=owm d':=by rw[e2,owm,Pn];rfl
  rw[e];exact funext λw=>propext ⟨λh=>h.perm (((p1.map _).symm).append_left L),λh=>h.perm ((p1.map _).append_left L)⟩
theorem acY(ms:List Mk)(ends:List (List Mk))(listed:Array Bool)(U:World->Prop)(S0:Nat)(hUL:∀l,∀w,Mem W (L++l) w->U w)
 (hn:(ms.map (·.i)).Nodup) (hd:(ms.map (·.d)).Nodup) (hB:ae8 ops (ms.map (·.i)) (ends.map λE=>E.map (·.i)) listed=aD) (hm:∀m∈ms,HE P n W ops fr m) (hf:∀m∈ms,look fr m.d=ak)
 (ajN:∀E∈ms::ends,(∀m∈E,m∈ms)/\(E.map (·.i)).Nodup/\(E.map (·.d)).Nodup/\∀(k:Nat) (g:Nat->Nat) (a:Act),E.length+k=ms.length->na n a (E.map (λm=>(m.d,m.v (g m.i)))++fr)->sL P .any ops Q U (k+S0) (nh listed (E.map (·.i))) a (Mem W (L++E.map λm=>m.own (g m.i)))):
 ∀(k:Nat) (dn:List (Mk×Nat)),(∀x∈dn,x.1∈ms)->(dn.map (·.1.i)).Nodup->dn.length+k=ms.length->∀a,na n a (oU dn++fr)->sL P .any ops Q U (k+S0) (nh listed (dn.map (·.1.i))) a (Mem W (L++owm dn)):=by
 have stop:∀E∈ms::ends,∀(k:Nat) (dn:List (Mk×Nat)),(∀x∈dn,x.1∈ms)->(dn.map (·.1.i)).Nodup->dn.length+k=ms.length->(dn.map (·.1.i)).Perm (E.map (·.i))->∀a,na n a (oU dn++fr)->sL P .any ops Q U (k+S0) (nh listed (dn.map (·.1.i))) a (Mem W (L++owm dn)):=by
  intro E hE k dn h1 h2 h3 hp a hr;obtain⟨q1,q2,q3,q4⟩:=ajN E hE;obtain⟨g,r1,r2⟩:=PP (W:=W) (L:=L) ms E hn q2 q3 q1 dn h1 hp a hr;have hlen:=hp.length_eq;simp only[eI]at hlen;rw[r2,yr (D':=E.map (·.i)) λj=>?_]
  simp_all;exact Bool.eq_iff_iff.2 (by simpa using hp.mem_iff)
 intro k
 induction k with
 | zero=>
  intro dn h1 h2 h3 a hr;exact stop ms (by simp) 0 dn h1 h2 h3 (Eg (dn.map (·.1.i)) (ms.map (·.i)) h2 (λx hx=>by
   grind) (by grind)) a hr
 | succ k ih=>
  intro dn h1 h2 h3 a hr;have qG:=λE hE hp=>stop E hE (k+1) dn h1 h2 h3 hp a hr;have kY:∀x∈dn.map (·.1.i),x∈ms.map (·.i):=λx hx=>by
   grind
  generalize hD:dn.map (·.1.i)=D at*
  have akF:D.length=dn.length:=by grind
  have uZ:∀j,D.contains j=((ms.map (·.i)).filter λi=>D.contains i).contains j:=λj=>by
   simp_all
  have hq:=pq.1 hB _ (Ca (λi=>D.contains i) (ms.map (·.i)))
  rw[Bool.or_eq_true]at hq;rcases hq with hq|hq
  grind
  have af9:jw .any ops (nh listed D)=(ms.map (·.i)).filter λi=>!D.contains i:=by
   have hq:=of_decide_eq_true hq;rw[yr uZ,hq];exact List.filter_congr λi _=>by simp_all
  rw[show k+1+S0=(k+S0)+1 by omega];refine⟨λh0=>?_,λi hi w hw=>?_⟩
  ·exfalso
   have:(ms.map (·.i)).length<=D.length:=L7 _ _ hn λx hx=>by
    grind
   grind
  rw[af9,List.mem_filter]at hi;obtain⟨hi1,Xc⟩:=hi;obtain⟨m,Y0,rfl⟩:=fG.1 hi1;have hi3:m.i∉D:=by simp_all
  obtain⟨o,ho,L4⟩:=hm m Y0;refine jZ ho ((L4 _ (oU dn++fr) (L++owm dn) (λq v hq=>HG (oU dn) (λx hx=>?_) hq) λg=>?_).go a w hr hw)
  ·obtain⟨y,hy,rfl⟩:=fG.1 hx
   grind
  refine yc ⟨λa' w' Gy qu=>⟨Mem W (L++owm ((m,g)::dn)),iq _ _,hUL _,qu.perm ?_,?_⟩⟩
  ·rw[eY]
   exact(List.perm_append_comm).append_left L
  have:=ih ((m,g)::dn) (λx hx=>by
   grind) (by simp_all) (by grind) a' Gy
  rw[ff,hD]at this;have e:(nh listed D).setIfInBounds m.i aD=nh listed (m.i::D):=by
   have e0:(nh listed D).setIfInBounds m.i aD=nh listed (D++[m.i]):=by
    simp[nh]
   rw[e0];exact yr λj=>by
    grind
  simp_all
structure TX(P:Program)(n:Nat)(W:bP)(ops:Array Oper)(Q:Exit->Act->World->Prop)(L0:List b9)(listed:Array Bool)(f:Nat)(fr:Fr)(L:List b9):Prop where
 go:(∀w,Mem W L w->Mem W L0 w)->(∀c a d v w,Q (.panic c) (qS a d v) w->Q (.panic c) a w)->AY ops=aD->∀a,na n a fr->sL P .any ops Q (Mem W L0) f listed a (Mem W L)
theorem mem_left{L l:List b9}{w:World}(h:Mem W (L++l) w):Mem W L w:=by
 have hl:∀(i:Nat) (o:b9),L[i]?=aj o->(L++l)[i]?=aj o:=λi o h=>by
  grind
 exact⟨h.low,⟨λi o hi=>h.owns.all i o (hl i o hi),λi j o o' tL hi hj=>h.owns.apart i j o o' tL (hl i o hi) (hl j o' hj)⟩⟩
theorem Y1{id:Nat}{l:List Oper}(L0:List b9)(kY:∀w,Mem W L w->Mem W L0 w)(hm:P.follows .mixedOrders=aD)(mF:AY l.toArray=aD)
 (hQ:∀c a d v w,Q (.panic c) (qS a d v) w->Q (.panic c) a w)
 (h:TX P n W l.toArray Q L0 (AQ l.toArray.size aF) l.toArray.size fr L):T P n W (.region id l.toArray aD) Q fr L:=⟨λa w hr sG=>by
 refine wp_region_any hm ?_;exact yg (U:=Mem W L0) l.toArray.size (AQ l.toArray.size aF) a (Mem W L) w.drew sG.drew (h.go kY hQ mF a hr)⟩
theorem Dc{listed:Array Bool}{f:Nat}(t:Ord)(ho:mj .any ops t listed=aD)(hf:f=t.size)(h:TW P n W ops Q L0 t fr L):TX P n W ops Q L0 listed f fr L:=
 ⟨λkY hQ mF a hr=>by subst hf;exact j0 mF hQ t listed a (Mem W L) (iq W L) kY ho (h.go a hr)⟩
theorem qZ{listed:Array Bool}{f d:Nat}{o:Oper}{v:Value}(i:Nat)(hi:((jw .any ops listed).contains i&&O_ .any ops listed i)=aD)(ho:ops[i]?=aj o)(hr:RR P n W o fr L0 v)(hg:o.guard=ak)(hd:o.dst=aj d)(hn:dq d n=aD)
 (h:TX P n W ops Q L0 (listed.setIfInBounds i aD) f ((d,v)::fr) L):TX P n W ops Q L0 listed (f+1) fr L:=⟨λkY hQ mF a hY=>by
 rw[fc]at hi;have hc:jY P ops (Mem W L0) o v a:= .inl ⟨nR hg,λw hw=>by unfold pu;rw[hr.go a w hY hw];exact⟨rfl,Gr.refl _⟩⟩;exact zl ho (O6 mF) (λc a w=>hQ c a o.dst v w) f listed a (Mem W L) (iq W L) kY (O7 ho hi.2) (by simp_all) hc
  (by rw[hd];exact h.go kY hQ mF _ (hY.put hn v))⟩
def Y2(ops:Array Oper)(ms:List Mk)(ends:List (List Nat))(listed:Array Bool)(fr:Fr):Bool:=
 decide (ms.map (·.i)).Nodup&&decide (ms.map (·.d)).Nodup&&ae8 ops (ms.map (·.i)) ends listed&&ms.all λm=>(look fr m.d).isNone
theorem L9{listed:Array Bool}{f:Nat}(ms:List Mk)(p:Mk->Bool)(S0:Nat)(hf:f=ms.length+S0)(hB:Y2 ops ms [ms.map (·.i),(ms.filter p).map (·.i)] listed fr=aD)(hm:∀m∈ms,HE P n W ops fr m)
 (h:∀g:Nat->Nat,TX P n W ops Q L0 (nh listed (ms.map (·.i))) S0 (ms.map (λm=>(m.d,m.v (g m.i)))++fr) (L++ms.map λm=>m.own (g m.i)))
 (h':∀g:Nat->Nat,TX P n W ops Q L0 (nh listed ((ms.filter p).map (·.i))) (ms.length-(ms.filter p).length+S0) ((ms.filter p).map (λm=>(m.d,m.v (g m.i)))++fr) (L++(ms.filter p).map λm=>m.own (g m.i))):TX P n W ops Q L0 listed f fr L:=⟨λkY hQ mF a hr=>by
 subst hf;simp only[Y2,fc,decide_eq_true_eq]at hB;obtain⟨⟨⟨b1,b2⟩,b3⟩,b4⟩:=hB;have:=acY (Q:=Q) (L:=L) ms [ms,ms.filter p] listed (Mem W L0) S0 (λl w hw=>kY w (mem_left hw)) b1 b2 b3 hm (λm hm=>by simp_all)
  (λE hE=>by
   have hE:E=ms\/E=ms.filter p:=by
    simp_all
   rcases hE with rfl|rfl
   ·exact⟨λ_ h=>h,b1,b2,λk g a hk hr=>by
     obtain rfl:k=0:=by omega
     rw[Nat.zero_add];exact(h g).go (λw hw=>kY w (mem_left hw)) hQ mF a hr⟩
   exact⟨λ_ h=>(List.mem_filter.1 h).1,b1.sublist (List.filter_sublist.map _),b2.sublist (List.filter_sublist.map _),λk g a hk hr=>by
    obtain rfl:k=ms.length-(ms.filter p).length:=by omega
    exact(h' g).go (λw hw=>kY w (mem_left hw)) hQ mF a hr⟩) ms.length [] (λx hx=>by grind) (by simp) (by simp) a hr
 simp_all[nh,owm]⟩
theorem zw{fr Gu:Fr}(h:∀q v,look fr q=aj v->look Gu q=aj v){x:Operand}{v:Value}(hx:ev fr x=aj v):ev Gu x=aj v:=by
 cases x with
 |tmp t=>exact h _ _ hx
 |_=>exact hx
theorem nV{i d:Nat}{t e ty:TypeId}{pos:String}{after:Array Edge}{x y:Operand}{c bytes m cap:Nat}{k k':IntKind}{zs:Array Value}[rC P t e c bytes][eU P e zs](ho:ops[i]?=aj ⟨aj d,.makeSlice t x y,ty,pos,after,ak⟩)(hx:ev fr x=aj (.int k (m:Int)))(hy:ev fr y=aj (.int k' (cap:Int)))(PI:m<=cap)(hb:bytes*cap<=281474976710656)(qX:cap<=9223372036854775807)(hn:dq d n=aD):
 HE P n W ops fr ⟨i,d,λg=>av (aj ⟨g,0,ak⟩) m cap,λg=>aR g (madeCells zs (cap*c)) e⟩:=
 ⟨_,ho,λ_ _ _ hl h=>uU (zw hl hx) (zw hl hy) PI hb qX hn h⟩
theorem HH{i d:Nat}{t ty:TypeId}{pos:String}{after:Array Edge}{cs:Array Value}[eU P t cs](ho:ops[i]?=aj ⟨aj d,.alloc t,ty,pos,after,ak⟩)(hn:dq d n=aD):
 HE P n W ops fr ⟨i,d,λg=>aK (aj ⟨g,0,ak⟩),λg=>aR g cs t⟩:=
 ⟨_,ho,λ_ _ _ _ h=>a8 hn h⟩
end
end bZ
namespace gu
open dh
def SzR(p0:Nat)(x:Rx)(st:RS):Prop:=p0<=st.p/\(st.e=0->tM x+1<=200*(st.p-p0))/\(st.e≠0->tM x<=200*(st.p-p0)+1)
section
variable{s:U2}
theorem SzR.le{p0:Nat}{x:Rx}{st:RS}(h:SzR p0 x st):tM x<=200*(st.p-p0)+1:=by
 by_cases e:st.e=0
 have:=h.2.1 e;omega;exact h.2.2 e
end
end gu
namespace aV
abbrev dw:=Int×Int
abbrev Prod:=Int×List dw
structure ep where
 aT:Int
 bx:Int
 aH:List Prod
def right(aT bx:Int)(x:dw):Bool:=if x.1=1 then decide (0<=x.2)&&decide (x.2<aT)else if x.1=2 then decide (0<=x.2)&&decide (x.2<bx)else aF
def zx(aT bx:Int)(p:Prod):Int:=if 8<p.2.length then 2 else if p.1<0 then 1 else if bx<=p.1 then 1 else if p.2.any (λx=>!right aT bx x)=aD then 1 else 0
def pC(aT bx:Int):List Prod->Int
 |[]=>0
 |p::r=>if zx aT bx p≠0 then zx aT bx p else pC aT bx r
def cC(g:ep):Int:=if g.aT<0 then 1 else if 30<g.aT then 1 else if g.bx<1 then 1 else if 20<g.bx then 1 else if 40<g.aH.length then 2 else pC g.aT g.bx g.aH
theorem Y3{t n:Int}{p:Prod}(h:zx t n p=0):p.2.length<=8/\0<=p.1/\p.1<n/\∀x∈p.2,right t n x=true:=by
 unfold zx at h;split at h;· simp at h
 split at h;· simp at h
 split at h;· simp at h
 split at h;· simp at h
 rename_i a b c d
 refine⟨by omega,by omega,by omega,λx hx=>?_⟩;simp only[List.any_eq_true,not_exists,not_and,AR,Bool.not_eq_false]at d
 simpa using d x hx
theorem HJ{t n:Int}:∀{l:List Prod},pC t n l=0->∀p∈l,zx t n p=0
 |[],_,_,h=>by cases h
 | q::r,h,p,hp=>by
  unfold pC at h;split at h;contradiction
  rename_i c
  rcases dM.1 hp with rfl|hp
  omega
  exact HJ h p hp
theorem cU{g:ep}(h:cC g=0):0<=g.aT/\g.aT<=30/\1<=g.bx/\g.bx<=20/\g.aH.length<=40/\∀p∈g.aH,p.2.length<=8/\0<=p.1/\p.1<g.bx/\∀x∈p.2,right g.aT g.bx x=true:=by
 unfold cC at h;split at h;· simp at h
 split at h;· simp at h
 split at h;· simp at h
 split at h;· simp at h
 split at h;· simp at h
 exact⟨by omega,by omega,by omega,by omega,by omega,λp hp=>Y3 (HJ h p hp)⟩
end aV
namespace bZ
open Go.RowKit cL dQ
theorem str_inj{x y:List UInt8}(h:str x=str y):x=y:=by
 simp_all[str]
def iD:zr aE 9 (List UInt8) where
 kv:=str
 ok l:=l.length<=9223372036854775807
 law:=Go.WideMaps.string_law Tryz.underlying9
 key l h:=⟨_,Go.WideMaps.keyOf_string_mk Tryz.underlying9 (by unfold maxLen;simpa[OW]using h)⟩
 inj x y h:=str_inj h
open dh
theorem acZ{n:Int}(h0:0<=n)(h1:n<=18446744073709551615):v64 (iM 64 n.toNat)= .int .u64 n:=by
 simp only[v64,ij,Xv]
 grind
set_option maxRecDepth 100000 in
theorem Vg{H:Type}{enc0:TypeId×Value->H}{W:World}:uP enc0 aE W 84 (λcs x=>cs=ed x/\True):=λfuel cs x hf=>by
 have ho:uP enc0 aE W 84 (YF .u64 0 18446744073709551615 4):=(LP (is:=isInt .u64 0 18446744073709551615) (c:=1) Tryz.underlying84 (by rfl) (U5 Tryz.underlying82)).mono λcs l h=>by
  have e:aE.cellsOf 84=4:=by rfl
  simp_all[LQ]
 obtain⟨l,h1,h2,h3⟩:=ho fuel cs _ hf
 match l,h1 with
 |[p,q,r,s],_=>
  have b0:=h3 p (by simp);have b1:=h3 q (by simp);have b2:=h3 r (by simp);have b3:=h3 s (by simp);refine⟨⟨iM 64 p.toNat,iM 64 q.toNat,iM 64 r.toNat,iM 64 s.toNat⟩,?_,trivial⟩;show cs=[v64 (iM 64 p.toNat),v64 (iM 64 q.toNat),v64 (iM 64 r.toNat),v64 (iM 64 s.toNat)]
  simp_all[acZ]
end bZ
end Go.Proofs.YthmakbpkkoeabaaGreat

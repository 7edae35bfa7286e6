/- Part 2 of what SessionOnce needs: ClassB, ClsRg, KeyG, SmL, ClsHas, RexM, LookOk, RexE, RexPl, RexPr, MixX, RexSz, GramL, StrK, ClassO1, RexI, FrameL, Frame, OpsO, DfaL, DfaO, Dfa, SmB, MapN, Fam, Sym, SymS, Gram, GramN, TreeL, TreeM, CountL, CountN, CountT, CountR, TreeW, CountX, FactsL, FactsM, FactsN, FactsP, FactsQ, Der, CountU, LlL, ClimbL, ClimbO, DfS, PlacesL, PlacesM, PlacesS, DfaP, SortC, SortI, IntO, IntK, PlU, PlB, PlN, PlS, PlA, PlC, PlD, PlM, PlR, SmIe, BoE, PlE, PlP, PlK, PlT, DfN. -/
import Derived.Test.YtaobbfedlnddcaaGreatMgA
import Derived.Laws.Bits64b
import Derived.Lib.Strings
import Derived.Lib.Slices
import Derived.Lib.Walk
import Derived.Lib.Bytealg
import Derived.StringKeys
import Derived.Lib.SlicesCompact
import Derived.Shelf.Sort.Plain
import Derived.Ground.Names2Prog
import Derived.Shelf.Slices.CompactI
import Derived.Shelf.Slices.In.SortNone
import Derived.Lib.RowBridge
namespace Go.Proofs.YtaobbfedlnddcaaGreat
set_option linter.unusedVariables false
set_option linter.unusedSimpArgs false
open _root_.And renaming intro->bX
open _root_.Array renaming getElem?_eq_some_iff->jm,getElem?_toList->qL,getElem?_eq_getElem->xL,replicate->xg,getElem?_modify->Dw
open _root_.Array.mk renaming injEq->sv
open _root_.BitVec renaming ofNat->io,toNat_ofNat->CZ
open _root_.Bool renaming false->aE,true->aD,and_eq_true->fc,or_eq_true->lU,or_eq_false_iff->Dx,not_eq_true'->C0,eq_iff_iff->OF
open _root_.ByteArray renaming size->xi
open _root_.Classical renaming byContradiction->NV,em->ad6
open _root_.Go.Act renaming put->qE
open _root_.Go.Addr renaming add->tK
open _root_.Go.DataW renaming trod->qG
open _root_.Go.Instr renaming build->dh,field->Xd
open _root_.Go.IntKind renaming i64->az,bits->lI,wrap_u64->sc,u64->tQ
open _root_.Go.Lib renaming compact->qM,hid->Dy
open _root_.Go.Op renaming shift->iq
open _root_.Go.Program renaming keyLits->Ap
open _root_.Go.Proofs.Tryz renaming prog->aB
open _root_.Go.Region renaming ready->iK,noSelect->xo
open _root_.Go.Value renaming slice->ap,int->av,pointer->aJ,agg->aQ,bool->fS
open _root_.Go.Value.agg renaming injEq->lV
open _root_.Go.Value.slice renaming injEq->iX
open _root_.Go.World renaming block_lt_of_cell?->nX
open _root_.Int renaming toNat_natCast->dq,eq_ofNat_of_zero_le->h_,toNat_of_nonneg->um
open _root_.Int.ofNat renaming inj->Xe
open _root_.List renaming getElem?_eq_getElem->bD,getD_eq_getElem?_getD->b9,length_append->bI,getElem?_eq_some_iff->cX,getElem_mem->cD,length_cons->de,replicate->da,all_cons->cZ,drop_eq_getElem_cons->eN,mem_singleton->dR,all_nil->db,getElem?_append_left->eR,length_map->dF,take_succ_eq_append_getElem->iv,mem_cons->dA,append_nil->dW,append_assoc->eD,map_append->eV,getElem?_map->eS,nil_append->eu,flatMap_append->fC,take_of_length_le->gB,mem_cons_self->gd,mem_append->fu,range->eh,not_mem_nil->fv,mem_map->eX,mem_iff_getElem->hY,mem_cons_of_mem->kM,length_nil->ia,map_cons->gh,cons_append->iY,length_take->iZ,flatMap_cons->lO,length_singleton->lW,mem_of_getElem?->lP,nodup_cons->pe,mem_range->pf,drop_zero->mC,drop_eq_nil_of_le->uo,any_eq_true->qN,mem_map_of_mem->Aq,take_succ_cons->uu,drop_succ_cons->uv,ext_getElem?->nb,getElem_map->pg,take_zero->nY,getElem?_take->qO,all_eq_true->nc,pairwise_iff_getElem->IL,mem_append_left->xM,length_erase_of_mem->IM,setIfInBounds_toArray->ux,filterMap_cons_some->Ab,length_pos_of_mem->IN,set_cons_zero->xN,filterMap_append->Ac,map_set->ph,map_map->Ar,mem_filter->xO,foldl_append->IP,set_cons_succ->As,length_eq_zero_iff->OG,length_set->IQ,mem_flatMap->Au,mem_erase_of_ne->OH,nodup_range->OI,nodup_append->Dz,mem_or_eq_of_mem_set->Xf,pairwise_singleton->Xg,contains_iff_mem->Xh,length_mergeSort->Xi,pairwise_cons->Xj,idxOf_append->Xk,getElem?_set->Xl,getElem_set->Xm,foldl_cons->Xn,map->Xo
open _root_.List.Pairwise renaming imp_of_mem->ad7,nil->ad8
open _root_.List.Perm renaming swap->ad9
open _root_.List.cons renaming injEq->gi
open _root_.Nat renaming le_refl->bx,zero_le->bH,zero_add->cV,eq_of_beq_eq_true->kf,lt_of_lt_of_le->jp,blt->dv,le_trans->fw,beq->fx,add_assoc->kZ,add_zero->jC,mul_one->kH,le_add_right->Av,div_le_self->Aw,lt_of_le_of_lt->OJ,testBit_eq_decide_div_mod_eq->Xp,pow_lt_pow_right->DA,succ_pos->DB,min_le_left->Xq,le_succ->Xr
open _root_.Option renaming some->aj,none->ak
open _root_.Option.some renaming injEq->df
open _root_.Prod.mk renaming injEq->fD
open _root_.True renaming intro->bZ
open _root_.UInt8 renaming ofNat->fE
open _root_.Vector renaming replicate->ee
set_option maxHeartbeats 16000000
section
open Go.RowKit cU dS dl
attribute [local go_sem] afC ahf ac3 afD
theorem TA{w:World}{g:Nat}{x:C4}(h:Wr w g 0 (dV x)):w.cell? ⟨g,0,ak⟩=aj (v64 x.a)/\w.cell? ⟨g,1,ak⟩=aj (v64 x.b)/\w.cell? ⟨g,2,ak⟩=aj (v64 x.c)/\w.cell? ⟨g,3,ak⟩=aj (v64 x.d):=
 ⟨(h 0 _ I).1,(h 1 _ I).1,(h 2 _ I).1,(h 3 _ I).1⟩
theorem TB{w:World}{g:Nat}{x:C4}{T:TypeId}(h:w.heap[g]?=aj (.cells #[.int .u64 (fT x.a),.int .u64 (fT x.b),.int .u64 (fT x.c),.int .u64 (fT x.d)] T (0,0))):Wr w g 0 (dV x):=λj u hj=>by
 rw[cV,cell_of_row w g j _ T (0,0) h];exact⟨by simpa[dV]using hj,frozen_of_row w g j _ T h⟩
theorem Ry{w:World}{B:Nat}(hB:w.heap.size=B)(x:C4)(T:TypeId):Wr (w.alloc (.cells #[.int .u64 (fT x.a),.int .u64 (fT x.b),.int .u64 (fT x.c),.int .u64 (fT x.d)] T)) B 0 (dV x):=
 TB (aaD w _ B hB)
theorem nH(w:World)(o:Obj):Below w.heap.size w (w.alloc o):=(Below.refl _ _).alloc (bx _) _
theorem Ax{w:World}{g:Nat}{x:C4}(h:Wr w g 0 (dV x))(i:Nat)(hi:i<4):w.cell? ⟨g,i,ak⟩=aj (.int .u64 (fT (x.get i)))/\w.frozen? ⟨g,i,ak⟩=false:=by
 have:=h i _ (WO x i hi);rw[cV]at this;exact this
theorem TC{w:World}{g:Nat}{x:C4}(h:Wr w g 0 (dV x))(i:Nat)(hi:i<4)(v:BitVec 64):Wr (w.setCell ⟨g,i,ak⟩ (.int .u64 (fT v))) g 0 (dV (x.set i v)):=by
 have:=h.set i (by simp[dV];omega) (v64 v);rw[cV,WQ x i hi v]at this;exact this
theorem Lh(lo hi:Int)(w:World)(h1:d_ lo)(h2:d_ hi):
    Calls aB 49 #[av az lo,av az hi] w λe w'=>e= .returned (oy (fg lo hi))/\Below w.heap.size w w':=by
  obtain⟨l1,l2⟩:=h1;obtain⟨m1,m2⟩:=h2;unfold oy;have xP:Below w.heap.size w ((w.alloc (.cells #[.int .u64 0,.int .u64 0,.int .u64 0,.int .u64 0] 77)).alloc (.cells #[.int .u64 0,.int .u64 0,.int .u64 0,.int .u64 0] 77))/\Wr ((w.alloc (.cells #[.int .u64 0,.int .u64 0,.int .u64 0,.int .u64 0] 77)).alloc (.cells #[.int .u64 0,.int .u64 0,.int .u64 0,.int .u64 0] 77)) w.heap.size 0 (dV C4.zero)/\Wr ((w.alloc (.cells #[.int .u64 0,.int .u64 0,.int .u64 0,.int .u64 0] 77)).alloc (.cells #[.int .u64 0,.int .u64 0,.int .u64 0,.int .u64 0] 77)) (w.heap.size+1) 0 (dV C4.zero):=
    ⟨(((Below.refl _ _).alloc (bx _) _).alloc (by simp) _),((Ry I C4.zero _).gr (nH _ _)),(Ry (by simp) C4.zero _)⟩
  obtain⟨B,hB⟩:∃B,B=w.heap.size:=⟨_,rfl⟩;rw[<-hB]at xP
  go_enter Tryz.func49,Tryz.ntmps49
  go_upto_region 2 with(fail)
  rw[<-hB];have ahk:w.heap.size<=B:=by omega
  have ail:B<=w.heap.size:=by omega
  clear hB
  go_cut [6] (λs6 w'=>w'=((w.alloc (.cells #[.int .u64 0,.int .u64 0,.int .u64 0,.int .u64 0] 77)).alloc (.cells #[.int .u64 0,.int .u64 0,.int .u64 0,.int .u64 0] 77))/\s6=av az (max lo 0))
  case first=>
    go_wp2
    all_goals
      go_meet
      case rel=>exact⟨rfl,by congr 1<;>omega⟩
  case rest=>
    obtain⟨rfl,rfl⟩:=hcut;obtain⟨b0,Ct⟩:∃b0:Nat,(b0:Int)=max lo 0:=⟨(max lo 0).toNat,by omega⟩;have hF:fg lo hi=C4.jU C4.zero b0 (min hi 255+1-b0).toNat:=by unfold fg;rw[<-Ct];rfl
    have HF:=Dy hF;rw[<-Ct];clear hF Ct;obtain⟨Bo,zT,hs3⟩:=xP;obtain⟨N,hN⟩:∃N,N=(min hi 255+1-b0).toNat:=⟨_,rfl⟩;have HN:=Dy hN;have hN1:0<N->(b0:Int)+N=min hi 255+1:=λh=>by omega
    have hN0:N=0->min hi 255<(b0:Int):=λh=>by omega
    have Xs:N=0\/b0+N<=256:=by omega
    clear hN;rcases(show 255<hi\/hi<=255 by omega)with hh|hh
    all_goals
      go_wp2_with fail
      go_loopg [6] N (λg c wr=>∃i:Nat,i+g=N/\c=av az ((b0+i:Nat):Int)/\Below B w wr/\Wr wr B 0 (dV C4.zero)/\Wr wr (B+1) 0 (dV (C4.jU C4.zero b0 i)))
      case atStart=>exact⟨0,by omega,rfl,Bo,zT,hs3⟩
      case round=>
        obtain⟨i,oV,rfl,hb,hr,hx⟩:=hrel;clear Bo zT hs3
        by_cases hlt:i<N
        · have hbb:((b0+i:Nat):Int)<=hi:=by have:=hN1 J;omega
          have afJ:b0+i<=255:=by omega
          have hstep:=WR C4.zero b0 i;generalize hbn:b0+i=b at hbb afJ hstep⊢;have h4:b/64<4:=by omega
          have cx:∀w',Up wr.drew w'->w'.cell? ⟨B+1,b/64,ak⟩=aj (.int .u64 (fT ((C4.jU C4.zero b0 i).get (b/64)))):=λw' hw=>(Ax ((hx.gr (Gr.drew _)).gr hw) (b/64) h4).1;have hand:=Tj b J;have Xt:=aaO (b %64) (Nat.mod_lt _ aiT);have HS0:=Dy hstep;have HI:=Dy oV;clear hN1 hN0 Xs hstep oV
          go_wp2_with fail
          refine dS 9 (da 9 aD) I (by kernel_rfl) (by kernel_rfl) (by intro c a d v w h;cases d<;>exact h) (Up wr.drew) (S8 _) (Gr.refl _) ?_;simp only[uu,nY,uv,mC,da]
          repeat(first|(refine aaF (by rfl) (λw hSw=>by go_simp;(try (simp only[↓IntWalk.iteOmega];try go_simp));(try go_bits);first|done|with_reducible rfl) ?_;simp only[qE,ux,xN,As])|(refine Wp (by rfl) ?_;simp only[qE,ux,xN,As]))
          refine aaG λw5 hw5=>?_;have hx5:=(hx.gr (Gr.drew _)).gr hw5;have hr5:=(hr.gr (Gr.drew _)).gr hw5;have hb5:Below B w w5:=Wk hb.drew (by have:=hb.size;simp;omega) hw5;obtain⟨c1,c2⟩:=Ax hx5 (b/64) h4;have hs:=TC hx5 (b/64) h4 ((C4.jU C4.zero b0 i).get (b/64)|||io 64 (2^(b %64)));have hf1:=hr5.far (a:=⟨B+1,b/64,ak⟩) (by simp) (.int .u64 (fT ((C4.jU C4.zero b0 i).get (b/64)|||io 64 (2^(b %64)))));have hbs:=hb5.setCell (p:=⟨B+1,b/64,ak⟩) (by simp) (.int .u64 (fT ((C4.jU C4.zero b0 i).get (b/64)|||io 64 (2^(b %64)))));rw[HS0.out]at hs;have HS:=Dy (bX hs (bX hf1 hbs));clear hs hf1 hbs hx5 hr5 hb5 cx hx hr hb hw5 hand Xt
          go_wp2_with fail
          have oV:=HI.out
          go_roundg (gk-1)
          case measure=>omega
          case rel=>exact⟨i+1,by omega,by go_num,HS.out.2.2,HS.out.2.1,HS.out.1⟩
        obtain rfl:i=N:=by omega
        have aim:min hi 255<((b0+i:Nat):Int):=by
          by_cases h0:i=0
          have:=hN0 h0;omega;have:=hN1 J;omega
        have hE:C4.jU C4.zero b0 i=fg lo hi:=by rw[HF.out,<-HN.out]
        rw[hE]at hx;obtain⟨c0,c1,c2,c3⟩:=TA hx;obtain⟨⟨r0,f0⟩,⟨r1,f1⟩,⟨r2,f2⟩,⟨r3,f3⟩⟩:_/\_/\_/\_:=⟨Ax hr 0 aiT,Ax hr 1 aiT,Ax hr 2 aiT,Ax hr 3 aiT⟩;clear hN1 hN0 Xs hE;generalize b0+i=b at*;have aia:¬(b:Int)<=min hi 255:=by omega
        go_wp2_with fail
        refine bodyPost_ret (v:=aQ #[.int .u64 (fT (fg lo hi).a),.int .u64 (fT (fg lo hi).b),.int .u64 (fT (fg lo hi).c),.int .u64 (fT (fg lo hi).d)]) (by simp[results,Tryz.results49,go_sem,r0,r1,r2,r3]) I ⟨rfl,?_⟩;exact((((hb.setCell (by simp) _).setCell (by simp) _).setCell (by simp) _).setCell (by simp) _).mono ahk
end
namespace kU
open Go.RowKit cU dS dl cI
theorem ad_(lo hi:Int)(h1:d_ lo)(h2:d_ hi)(w:World):Calls aB 49 #[av az lo,av az hi] w (cB (ret (oy (fg lo hi))) w):=(Lh lo hi w h1 h2).mono λ_ _ ⟨he,hb⟩=>S_ he hb
end kU
namespace cI
open Go.RowKit cU dS
theorem mapM_some{α β:Type}{f:α->Option β}:∀{l:List α},(∀x∈l,∃y,f x=aj y)->∃ys,l.mapM f=aj ys
 |[],_=>⟨[],by simp⟩
 |a::l,h=>by
  obtain⟨y,hy⟩:=h a (by simp);obtain⟨ys,hys⟩:=mapM_some (l:=l) λx hx=>h x (by simp[hx]);exact⟨y::ys,by simp[List.mapM_cons,hy,hys]⟩
section
variable{P:Program}
def KL(P:Program)(d:Nat)(t:TypeId)(cs:List Value):Prop:=∃ls,P.keyLits d t cs=aj ls
theorem uy{d:Nat}{t:TypeId}{q:IntKind}{n:Int}(ht:P.underlying t=aj (.int q))(h0:q.min<=n)(h1:n<=q.max):KL P (d+1) t [.int q n]:=by
 refine⟨[.int q n],?_⟩;have hw:(Lit.int q n).wf=true:=by simp[Lit.wf,h0,h1]
 simp[Ap,ht,hw]
theorem Xu{d n:Nat}{t e:TypeId}{cs:List Value}(ht:P.underlying t=aj (.array n e))(hl:cs.length=P.cellsOf t)(h:∀i,i<n->KL P d e ((cs.drop (i*P.cellsOf e)).take (P.cellsOf e))):KL P (d+1) t cs:=by
 obtain⟨ys,hy⟩:=mapM_some (f:=λi=>P.keyLits d e ((cs.drop (i*P.cellsOf e)).take (P.cellsOf e))) (l:=eh n) λi hi=>h i (pf.1 hi);refine⟨ys.flatten,?_⟩;unfold Ap;simp only[ht];rw[if_pos hl,hy];rfl
theorem Ay{d:Nat}{t:TypeId}{fs:Array Field}{cs:List Value}(ht:P.underlying t=aj (.struct fs))(hl:cs.length=P.cellsOf t)(hn:fs.all (·.name != "_")=aD)(h:∀f∈fs.toList,KL P d f.type ((cs.drop f.offset).take (P.cellsOf f.type))):KL P (d+1) t cs:=by
 obtain⟨ys,hy⟩:=mapM_some (f:=λf:Field=>P.keyLits d f.type ((cs.drop f.offset).take (P.cellsOf f.type))) (l:=fs.toList) h;refine⟨ys.flatten,?_⟩;unfold Ap;simp only[ht];rw[if_pos ⟨hl,hn⟩,hy];rfl
theorem IR{t:TypeId}{cs:List Value}{m:Nat}(hw:(match P.underlying t with|some (.array _ _)|some (.struct _)=>aD|_=>aE)=aD)(hk:P.keyType t=aD)(hl:cs.length=P.cellsOf t)(hm:∃d,P.types.size+1=d+m)(h:∀d,KL P (d+m) t cs):∃l,keyOf P t (aQ cs.toArray)=aj l:=by
 obtain⟨d,e⟩:=hm;obtain⟨ls,hls⟩:=h d;refine⟨.string (keyBytes ls),?_⟩;have hf:(aQ cs.toArray).formed P t=true:=by
  unfold Value.formed;split at hw<;>simp_all
 have hc:(aQ cs.toArray).cells.toList=cs:=rfl;have key:(if(P.keyType t&&(aQ cs.toArray).formed P t)=aD then(P.keyLits (P.types.size+1) t (aQ cs.toArray).cells.toList).map (λls=>Lit.string (keyBytes ls))else ak)=aj (.string (keyBytes ls)):=by
  rw[hk,hf,hc,e,hls];rfl
 unfold keyOf;split at hw
 ·rename_i h1;rw[h1];exact key
 ·rename_i h1;rw[h1];exact key
 cases hw
end
theorem Cw:laidOutB aB=true:=by kernel_rfl
theorem Cx(m:Nat)(h:Nat.ble m (aB.types.size+1)=aD):∃d,aB.types.size+1=d+m:=⟨aB.types.size+1-m,by have:=Nat.le_of_ble_eq_true h;omega⟩
end cI
namespace cT
section
variable{κ:Type}[DecidableEq κ]
def dM:List κ->List κ->List κ
 |D,[]=>D
 |D,k::r=>dM (if k∈D then D else D++[k]) r
def more(D:List κ)(k:κ):List κ:=if k∈D then D else D++[k]
theorem kN:∀(l D:List κ) (k:κ),dM D (l++[k])=more (dM D l) k
 |[],_,_=>rfl
 |_::l,_,k=>kN l _ k
theorem DC(D:List κ)(k:κ):∃E,more D k=D++E:=by
 unfold more;split;exact⟨[],by simp⟩;exact⟨[k],rfl⟩
theorem uz{D:List κ}{k x:κ}:x∈more D k↔x∈D\/x=k:=by
 unfold more;split
 ·rename_i h
  exact⟨.inl,λe=>e.elim id λe=>e▸h⟩
 simp
theorem sw:∀(l D:List κ),∃E,dM D l=D++E
 |[],D=>⟨[],by simp[dM]⟩
 |k::l,D=>by
  obtain⟨E,h⟩:=DC D k;obtain⟨E',h'⟩:=sw l (more D k);exact⟨E++E',by show dM (more D k) l=_;rw[h',h,eD]⟩
theorem kO{x:κ}:∀{l D:List κ},x∈dM D l↔x∈D\/x∈l
 |[],D=>by simp[dM]
 |k::l,D=>by
  show x∈dM (more D k) l↔_
  rw[kO,uz,dA,or_assoc]
theorem DD{D:List κ}{k:κ}(h:D.Nodup):(more D k).Nodup:=by
 unfold more;split;exact h
 rename_i hk
 exact Dz.2 ⟨h,by simp,λa ha b hb e=>by simp at hb;subst hb e;exact hk ha⟩
theorem sx:∀(l D:List κ),D.Nodup->(dM D l).Nodup
 |[],_,h=>h
 |_::l,_,h=>sx l _ (DD h)
def idx(D:List κ)(k:κ):Nat:=D.idxOf k
theorem ni{D:List κ}{k:κ}(h:k∈D):idx D k<D.length:=List.idxOf_lt_length_of_mem h
theorem Cy{D:List κ}{k:κ}(h:idx D k<D.length):D[idx D k]=k:=List.getElem_idxOf h
theorem DE{D:List κ}(hn:D.Nodup){v:Nat}(h:v<D.length):idx D D[v]=v:=by
 have h1:=ni (cD h);exact(List.getElem_inj hn).1 (Cy h1)
theorem Xv(k:κ)(E:List κ):idx (k::E) k=0:=by simp[idx]
theorem qq{D E:List κ}{k:κ}(h:k∈D):idx (D++E) k=idx D k:=by unfold idx;rw[Xk,if_pos h]
theorem rp{D:List κ}{k:κ}:idx (more D k) k=if k∈D then idx D k else D.length:=by
 unfold more;split;rfl
 rename_i h
 unfold idx;rw[Xk,if_neg h];simp
theorem Xw{l D:List κ}{i:Nat}(hi:i<l.length):idx (dM D l) l[i]=if l[i]∈dM D (l.take i)then idx (dM D (l.take i)) l[i]else(dM D (l.take i)).length:=by
 have e:l=l.take (i+1)++l.drop (i+1):=(List.take_append_drop _ _).symm;have h1:l.take (i+1)=l.take i++[l[i]]:=iv hi;have h2:∃E,dM D l=dM D (l.take (i+1))++E:=by
  obtain⟨E,h⟩:=sw (l.drop (i+1)) (dM D (l.take (i+1)));refine⟨E,?_⟩;rw[<-h];have hap:∀(a b D:List κ),dM D (a++b)=dM (dM D a) b:=by
   intro a
   induction a with
   |nil=>intro b D;rfl
   |cons x a ih=>intro b D;exact ih b _
  rw[<-hap,<-e]
 obtain⟨E,h2⟩:=h2;rw[h2,qq,h1,kN,rp];rw[h1,kN,uz];exact .inr I
theorem aaX{D:List κ}{x y:κ}(hx:x∈D)(h:idx D x=idx D y):x=y:=by
 have h1:=ni hx;have h2:idx D y<D.length:=h▸h1;rw[<-Cy h1,<-Cy h2]
 congr 1
end
theorem jv{α:Type}{l m:List α}{k:Nat}{d:α}(h:k<l.length):(l++m).getD k d=l.getD k d:=by
 rw[b9,eR h,b9]
theorem lX{α:Type}{l m:List α}{k:Nat}{d:α}(h:l.length<=k):(l++m).getD k d=m.getD (k-l.length) d:=by
 rw[b9,List.getElem?_append_right h,b9]
theorem nI{l:List Nat}{m:Nat}(h:l.Nodup)(hb:∀x∈l,x<m):l.length<=m:=by
 have hs:∀(l l':List Nat),l.Nodup->(∀x∈l,x∈l')->l.length<=l'.length:=by
  intro l
  induction l with
  |nil=>intro l' _ _;simp
  |cons x l ih=>
   intro l' hn hs;rw[pe]at hn;have hx:x∈l':=hs x (by simp);have:=ih (l'.erase x) hn.2 (λy hy=>(OH (by rintro rfl;exact hn.1 hy)).2 (hs y (by simp[hy])));rw[IM hx]at this;have:0<l'.length:=IN hx;simp;omega
 have:=hs l (eh m) h λx hx=>pf.2 (hb x hx)
 simpa using this
theorem OK{N:Nat}{f g:Nat->Nat}{n c:Nat}(hf:∀v,v<n->∃x,x<N/\f x=v)(hg:∀x,x<N->g x<c)(hr:∀x y,x<N->y<N->g x=g y->f x=f y):
 n<=c/\(c=n->(∀x,x<N->f x<n)->∀x y,x<N->y<N->f x=f y->g x=g y):=by
 have hc:∃p:Nat->Nat,∀v,v<n->p v<N/\f (p v)=v:=by
  refine⟨λv=>if h:v<n then(hf v h).choose else 0,λv h=>?_⟩;simp only[dif_pos h];exact(hf v h).choose_spec
 obtain⟨p,hp⟩:=hc;have KV:∀l:List Nat,l.Nodup->(∀v∈l,v<n)->(l.map λv=>g (p v)).Nodup:=by
  intro l hl hb;refine List.pairwise_map.2 (ad7 (λ{a b} ha NH hne e=>hne ?_) hl);have h1:=hp a (hb a ha);have h2:=hp b (hb b NH);have:=hr _ _ h1.1 h2.1 e;rw[h1.2,h2.2]at this;exact this
 refine⟨?_,λhcn hfb x y hx hy hxy=>?_⟩
 ·have h1:=nI (m:=c) (KV (eh n) OI λv hv=>pf.1 hv) (λz hz=>by
   obtain⟨v,hv,rfl⟩:=eX.1 hz;exact hg _ (hp v (pf.1 hv)).1)
  simpa using h1
 ·apply NV
  intro hne;have hv:f x<n:=hfb x hx;have hl:((eh n).erase (f x)).Nodup:=OI.erase _;have hb:∀v∈(eh n).erase (f x),v<n/\v≠f x:=λv hv=>by
   have:=(OI.mem_erase_iff).1 hv;exact⟨pf.1 this.2,this.1⟩
  have h1:=KV _ hl λv hv=>(hb v hv).1;have S9:∀z,z<N->f z=f x->g z∉((eh n).erase (f x)).map λv=>g (p v):=by
   intro z hz he FI;obtain⟨v,OL,e⟩:=eX.1 FI;have h2:=hp v (hb v OL).1;have:=hr _ _ h2.1 hz e;rw[h2.2,he]at this;exact(hb v OL).2 this
  have h2:(g x::g y::((eh n).erase (f x)).map λv=>g (p v)).Nodup:=by
   rw[pe,pe];refine⟨?_,S9 y hy hxy.symm,h1⟩;rw[dA,not_or];exact⟨hne,S9 x hx I⟩
  have h3:=nI (m:=c) h2 (λz hz=>by
   simp only[dA]at hz;rcases hz with rfl|rfl|hz
   exact hg _ hx;exact hg _ hy;obtain⟨v,hv,rfl⟩:=eX.1 hz;exact hg _ (hp v (hb v hv).1).1)
  have h4:((eh n).erase (f x)).length=n-1:=by
   rw[IM (pf.2 hv)];simp
  simp[h4]at h3;omega
end cT
namespace cI
open Go.RowKit cU dS dl
theorem Xx{P:Program}(x j b:Nat)(k k':IntKind)(hb:k.bits=b)(hj:j<=b)(w:World):(iq .shr k (x:Int) k' (j:Int)).run P w= .ok (.int k ((x/2^j:Nat):Int)) w:=by
 have e:min j b=j:=by omega
 have h0:¬((j:Int)<0):=by omega
 have e2:(x:Int).fdiv (2^j)=((x/2^j:Nat):Int):=by
  grind
 simp_all[iq,if_neg]
theorem DF(c:C4)(i:Nat)(h:i<4):(#[v64 c.a,v64 c.b,v64 c.c,v64 c.d]:Array Value)[i]?=aj (.int .u64 ((c.get i).toNat:Int)):=by
 match i,h with
 |0,_=>rfl
 |1,_=>rfl
 |2,_=>rfl
 |3,_=>rfl
theorem aaY:∀b:Nat,b<256->bits .and .u8 (b:Int) 63=((b %64:Nat):Int):=by decide+kernel
theorem TE(c:C4)(b:Nat)(hb:b<256)(w:World):Calls aB 106 #[oy c,.int .u8 (b:Int)] w (cB (ret (.bool (c.mem b))) w):=by
 refine enter (args:=[aQ #[v64 c.a,v64 c.b,v64 c.c,v64 c.d],.int .u8 (b:Int)]) (n:=14) Tryz.func106 I I I<|cC (bz (bR I I I λg=>?_));have h1:b/64<4:=by omega
 have hc:(#[v64 c.a,v64 c.b,v64 c.c,v64 c.d]:Array Value)[0+b/64]?=aj (.int .u64 ((c.get (b/64)).toNat:Int)):=by rw[cV];exact DF c _ h1
 have hx:=(c.get (b/64)).isLt;have Bo:∀w,(iq .shr .u8 (b:Int) .u64 6).run aB w= .ok (.int .u8 ((b/64:Nat):Int)) w:=λw=>Xx b 6 8 .u8 .u64 I aiT w;have zT:∀w,(iq .shr .u64 ((c.get (b/64)).toNat:Int) .u8 ((b %64:Nat):Int)).run aB w= .ok (.int .u64 (((c.get (b/64)).toNat/2^(b %64):Nat):Int)) w:=λw=>Xx _ (b %64) 64 .u64 .u8 I J w;have hm:c.mem b=decide ((c.get (b/64)).toNat/2^(b %64) %2=1):=by simp[C4.mem,Xp]
 rw[hm];have hd:(c.get (b/64)).toNat/2^(b %64)<=(c.get (b/64)).toNat:=Aw _ _;have ra:=aaY b hb;generalize (c.get (b/64)).toNat=x at*;generalize b %64=k at*;generalize b/64=i at*;generalize x/2^k=y at*;have ha:bits .and .u64 (y:Int) 1=((y %2:Nat):Int):=by
  grind[bits_and_u64_nat]
 repeat(first|refine GC ?_|refine gV (o8 I I Bo) ?_|refine gV (hJ bM.eq aK.ty I I h1) ?_|refine gV (aC aK.ty I (aH (i:=0) I hc)) ?_|refine gV (nh I I ra) ?_|refine gV (o8 I I zT) ?_|refine gV (nh I I ha) ?_|refine gV (dg I I I) ?_|refine GB ?_)
 exact dD I I (by congr 1;rw[decide_eq_decide];omega)
end cI
namespace cI
open Go.RowKit cU dS dl gj kU
abbrev At2:=Int×Int
structure MOk(s:List UInt8)(N:Nat->Re)(m:At2->Option Value)(n:Nat):Prop where
 val:∀(k f:Nat) v,k<100->f<=s.length->m ((k:Int),(f:Int))=aj v->∃c,v=oy c/\afE s (N k) f c
 WT:∃D:List Nat,D.Nodup/\D.length=n/\(∀x∈D,x<25600)/\∀(k f:Nat),k<100->f<256->((m ((k:Int),(f:Int))).isSome=aD↔k*256+f∈D)
theorem MOk.le{s:List UInt8}{N:Nat->Re}{m:At2->Option Value}{n:Nat}(h:MOk s N m n):n<=25600:=by
 obtain⟨D,h1,h2,h3,_⟩:=h.WT;rw[<-h2];exact cT.nI h1 h3
theorem MOk.set{s:List UInt8}{N:Nat->Re}{m:At2->Option Value}{n:Nat}(h:MOk s N m n)(hs:s.length<=200){k f:Nat}(hk:k<100)(hf:f<=s.length){c:C4}(hc:afE s (N k) f c):
    MOk s N (λy=>if y=((k:Int),(f:Int))then aj (oy c)else m y) (if(m ((k:Int),(f:Int))).isSome then n else n+1):=by
  refine⟨λk' f' v mT Cq hv=>?_,?_⟩
  · by_cases e:((k':Int),(f':Int))=((k:Int),(f:Int))
    · rw[if_pos e]at hv
      simp only[fD]at e;obtain rfl:k'=k:=by omega
      obtain rfl:f'=f:=by omega
      simp only[df]at hv;exact⟨c,hv.symm,hc⟩
    rw[if_neg e]at hv;exact h.val k' f' v mT Cq hv
  · obtain⟨D,h1,h2,h3,h4⟩:=h.WT
    by_cases e:(m ((k:Int),(f:Int))).isSome=aD
    · rw[if_pos e]
      refine⟨D,h1,h2,h3,λk' f' mT Cq=>?_⟩
      by_cases e2:((k':Int),(f':Int))=((k:Int),(f:Int))
      · rw[if_pos e2]
        simp only[fD]at e2;obtain rfl:k'=k:=by omega
        obtain rfl:f'=f:=by omega
        simpa using(h4 k' f' mT Cq).1 e
      rw[if_neg e2];exact h4 k' f' mT Cq
    rw[if_neg e];have hn:k*256+f∉D:=λhd=>e ((h4 k f hk J).2 hd);refine⟨(k*256+f)::D,pe.2 ⟨hn,h1⟩,by rw[de,h2],λx hx=>?_,λk' f' mT Cq=>?_⟩
    · rcases dA.1 hx with rfl|hx
      omega;exact h3 x hx
    by_cases e2:((k':Int),(f':Int))=((k:Int),(f:Int))
    · rw[if_pos e2]
      simp only[fD]at e2;obtain rfl:k'=k:=by omega
      obtain rfl:f'=f:=by omega
      simp
    rw[if_neg e2,h4 k' f' mT Cq,dA];have:¬k'*256+f'=k*256+f:=λh=>e2 (by
      have a:k'=k:=by omega
      have b:f'=f:=by omega
      rw[a,b])
    simp[this]
end cI
namespace cI
open Go.RowKit cU dS
section
variable{P:Program}{k:TypeId}{κ:Type}(K:yN P k κ)
variable{n:Nat}{W:bO}{fr:Fr}{L:List cH}{dst:Option Tmp}{ty:TypeId}{pos:String}{after:Array Edge}{guard:Option (Nat×Bool)}{i g c:Nat}{t e:TypeId}{m:κ->Option Value}{x:κ}{z v:Value}{xm xk:Operand}
theorem jH(ht:P.underlying t=aj (.map k e))(hz:∀w,(zeroValue e).run P w= .ok z w)(hi:L[i]?=aj (fe K g m c))(hm:ev fr xm=aj (.map (aj g)))(hk:ev fr xk=aj (K.kv x))(hx:K.ok x)(hv:m x=aj v):RR P n W ⟨dst,.lookup t xm xk aD,ty,pos,after,guard⟩ fr L (.tuple #[v,.bool aD]):=by
 have:=oJ K (n:=n) (W:=W) (dst:=dst) (ty:=ty) (pos:=pos) (after:=after) (guard:=guard) ht hz hi hm hk hx;rw[hv]at this;exact this
theorem jI(ht:P.underlying t=aj (.map k e))(hz:∀w,(zeroValue e).run P w= .ok z w)(hi:L[i]?=aj (fe K g m c))(hm:ev fr xm=aj (.map (aj g)))(hk:ev fr xk=aj (K.kv x))(hx:K.ok x)(hv:m x=ak):RR P n W ⟨dst,.lookup t xm xk aD,ty,pos,after,guard⟩ fr L (.tuple #[z,.bool aE]):=by
 have:=oJ K (n:=n) (W:=W) (dst:=dst) (ty:=ty) (pos:=pos) (after:=after) (guard:=guard) ht hz hi hm hk hx;rw[hv]at this;exact this
end
end cI
namespace cI
open Go.RowKit cU dS dl gj kU
structure StI(s:List UInt8)(a:Re)(f:Nat)(out now:C4):Prop where
 sound:∀j,j<256->out.mem j=aD->Rch (Tm a s) f j
 sub:∀j,j<256->now.mem j=aD->out.mem j=aD
 cl:∀i,i<256->out.mem i=aD->now.mem i=aE->∀j,Tm a s i j->out.mem j=aD
 st:out.mem f=aD
theorem StI.le{s:List UInt8}{a:Re}{f:Nat}{out now:C4}(h:StI s a f out now)(hf:f<=s.length)(j:Nat)(hj:j<256)(hn:now.mem j=aD):j<=s.length:=
 ((WV hf).2 (h.sound j hj (h.sub j hj hn))).2.1
end cI
namespace cI
open Go.RowKit cU dS dl gj kU
theorem OM(c:C4)(w:World):(dh 80 #[(0,av az 3),(1,oy c)]).run aB w= .ok (qK 3 c (ap ak 0 0)) w:=by kernel_rfl
theorem yP(b:Int)(w:World)(hb:cU.d_ b):Calls aB 24 #[av az b] w (cB (ret (qK 3 (fg b b) (ap ak 0 0))) w):=by
 have hr:=λw=>ad_ b b hb hb w;have ON:=OM (fg b b);generalize fg b b=c at*;refine enter (args:=[av az b]) (n:=7) Tryz.func24 I I I ?_;refine cC (bz (aY I λg2=>?_));refine zL ?_
 try refine GA ?_
 refine aV (fO aI.en I I I) (λw hm=>hr _) I I I ?_;intro _ _;refine zL ?_
 repeat(first|refine GA ?_|refine gV (bB I ON) ?_)
 refine gC 0 (cs':=(mi 3 c (ap ak 0 0)).toArray) ?_;refine zL ?_
 try refine GA ?_
 exact fL (i:=0) I I I I λw hm=>hm.ret
end cI
namespace cI
open Go.RowKit cU dS dl gj kU
section
end
def b8(l:List Nat):Tn:=l.map fE
end cI
namespace cI
open Go.RowKit cU dS
theorem eH.perm{p:Nat->Prop}{w:World}{L L':List cH}(h:eH p w L)(hp:L.Perm L'):eH p w L':=by
 have hpw:L.Pairwise (λo o'=>∀k,o.ff k->¬o'.ff k):=IL.2 λi j hi hj re=>h.apart i j _ _ J (bD hi) (bD hj);have afK:=IL.1 ((hp.pairwise_iff (λhxy k h1 h2=>hxy k h2 h1)).1 hpw);refine⟨λi o hi=>?_,λi j o o' re hi hj k h1 h2=>?_⟩
 ·obtain⟨j,hj⟩:=List.getElem?_of_mem (hp.symm.subset (lP hi))
  exact h.all j o hj
 obtain⟨oV,rfl⟩:=cX.1 hi;obtain⟨oU,rfl⟩:=cX.1 hj;rcases Nat.lt_or_gt_of_ne re with h3|h3
 exact afK i j oV oU h3 k h1 h2;exact afK j i oU oV h3 k h2 h1
theorem Mem.perm{W:bO}{w:World}{L L':List cH}(h:Mem W L w)(hp:L.Perm L'):Mem W L' w:=⟨h.low,h.owns.perm hp⟩
theorem TF{l l':Fr}(hp:l.Perm l'):(l.map (·.1)).Nodup->∀(fr:Fr) (i:Nat),look (l++fr) i=look (l'++fr) i:=by
 induction hp with
 |nil=>intro _ _ _;rfl
 | cons x _ ih=>
  intro hn fr i;rw[gh,pe]at hn;obtain⟨k,v⟩:=x;show(bif fx k i then aj v else _)=(bif fx k i then aj v else _)
  have e:=ih hn.2 fr i;exact congrArg (λz=>bif fx k i then aj v else z) e
 | swap x y l=>
  intro hn fr i;obtain⟨k,v⟩:=x;obtain⟨k2,v2⟩:=y;simp only[gh,pe,dA,not_or]at hn;show(bif fx k2 i then aj v2 else bif fx k i then aj v else _)=(bif fx k i then aj v else bif fx k2 i then aj v2 else _)
  cases e:fx k2 i
  rfl
  cases e2:fx k i
  rfl;have a:=kf e;have b:=kf e2;exact absurd (a.trans b.symm) hn.1.1
 | trans h1 _ ih1 ih2=>
  intro hn fr i;rw[ih1 hn,ih2 ((h1.map _).nodup_iff.1 hn)]
theorem TG{α β:Type}(f:α->β){l l':List β}(h:l.Perm l'):∀dn:List α,dn.map f=l->∃dn':List α,dn'.Perm dn/\dn'.map f=l':=by
 induction h with
 |nil=>exact λdn h=>⟨dn,.refl _,h⟩
 | cons x _ ih=>
  intro dn h
  match dn,h with
  |y::dn,h=>
   simp only[gh,gi]at h;obtain⟨d',h1,h2⟩:=ih dn h.2;exact⟨y::d',h1.cons y,by simp[h.1,h2]⟩
 | swap x y l=>
  intro dn h
  match dn,h with
  |a::b::dn,h=>
   simp only[gh,gi]at h;exact⟨b::a::dn,ad9 _ _ _,by simp[h.1,h.2.1,h.2.2]⟩
 |trans _ _ ih1 ih2=>
  intro dn h;obtain⟨d1,h1,h2⟩:=ih1 dn h;obtain⟨d2,h3,h4⟩:=ih2 d1 h2;exact⟨d2,h3.trans h1,h4⟩
def TH:List Nat->List (List Nat)
 |[]=>[[]]
 |a::r=>TH r++(TH r).map (a:: ·)
theorem Bp(p:Nat->Bool):∀l,l.filter p∈TH l
 |[]=>by simp[TH]
 |a::r=>by
  have ih:=Bp p r;unfold TH;rw[List.filter_cons];split;exact List.mem_append_right _ (Aq ih);exact xM _ ih
structure Mk where
 i:Nat
 d:Nat
 v:Nat->Value
 own:Nat->cH
def oB(dn:List (Mk×Nat)):Fr:=dn.map λx=>(x.1.d,x.1.v x.2)
def owm(dn:List (Mk×Nat)):List cH:=dn.map λx=>x.1.own x.2
def mU(listed:Array Bool)(D:List Nat):Array Bool:=D.foldl (λl i=>l.setIfInBounds i aD) listed
theorem G2(D:List Nat):∀(listed:Array Bool) (j:Nat),(mU listed D)[j]?=(listed[j]?).map λb=>b||D.contains j:=by
 induction D with
 |nil=>intro listed j;simp[mU]
 | cons a r ih=>
  intro listed j;show(mU (listed.setIfInBounds a aD) r)[j]?=_
  rw[ih,Array.getElem?_setIfInBounds]
  by_cases c:a=j
  ·subst c
   simp;split<;>simp_all
  rw[if_neg c];have:¬j=a:=λh=>c h.symm;simp[this]
theorem xQ{listed:Array Bool}{D D':List Nat}(h:∀j,D.contains j=D'.contains j):mU listed D=mU listed D':=by
 apply Array.ext_getElem?;intro j;rw[G2,G2,h j]
def ac_(ops:Array Oper)(is:List Nat)(ends:List (List Nat))(listed:Array Bool):Bool:=(TH is).all λD=>ends.contains D||decide (iK .any ops (mU listed D)=is.filter λi=>!D.contains i)
theorem DG:∀(l l':List Nat),l.Nodup->(∀x∈l,x∈l')->l.length<=l'.length
 |[],_,_,_=>bH _
 |a::r,l',hn,hs=>by
  rw[pe]at hn;have ha:=hs a (by simp);have:=DG r (l'.erase a) hn.2 λx hx=>(OH (λ(e:x=a)=>hn.1 (by rw[<-e];exact hx))).2 (hs x (by simp[hx]));rw[IM ha]at this;have:=IN ha;simp;omega
theorem xR:∀(l l':List Nat),l.Nodup->(∀x∈l,x∈l')->l'.length<=l.length->l.Perm l'
 |[],l',_,_,h=>by
  have:l'=[]:=OG.1 (by simpa using h);subst this;exact .refl _
 |a::r,l',hn,hs,h=>by
  rw[pe]at hn;have ha:=hs a (by simp);have hl:=IM ha;have h2:=IN ha;have:=xR r (l'.erase a) hn.2 (λx hx=>(OH (λ(e:x=a)=>hn.1 (by rw[<-e];exact hx))).2 (hs x (by simp[hx]))) (by simp at h;omega);exact(this.cons a).trans (List.perm_cons_erase ha).symm
theorem ac':∀(ms:List Mk),(ms.map (·.i)).Nodup->∀m∈ms,∀m'∈ms,m.i=m'.i->m=m'
 |[],_,_,hm,_,_,_=>by cases hm
 |y::ms,h,m,hm,m',rq,e=>by
  rw[gh,pe]at h;rcases dA.1 hm with a1|a1<;>rcases dA.1 rq with a2|a2
  rw[a1,a2];exact absurd (by rw[<-a1,e];exact Aq a2) h.1;exact absurd (by rw[<-a2,<-e];exact Aq a1) h.1;exact ac' ms h.2 m a1 m' a2 e
theorem Li:∀(dn:List (Mk×Nat)) (ms all:List Mk),(∀m∈all,∀m'∈all,m.i=m'.i->m=m')->(∀x∈dn,x.1∈all)->(∀x∈ms,x∈all)->dn.map (·.1.i)=ms.map (·.i)->dn.map (·.1)=ms
 |[],ms,_,_,_,_,h=>by
  simp only[List.map_nil]at h;exact(List.map_eq_nil_iff.1 h.symm).symm
 |y::dn,[],_,_,_,_,h=>by simp at h
 |y::dn,m::ms,all,hi,h1,h2,h=>by
  simp only[gh,gi]at h;rw[gh,Li dn ms all hi (λx hx=>h1 x (by simp[hx])) (λx hx=>h2 x (by simp[hx])) h.2,hi y.1 (h1 y (by simp)) m (h2 m (by simp)) h.1]
section
variable{P:Program}{n:Nat}{W:bO}{Q:Exit->Act->World->Prop}{fr:Fr}{L L0:List cH}{ops:Array Oper}
def G3(P:Program)(n:Nat)(W:bO)(ops:Array Oper)(fr:Fr)(m:Mk):Prop:=
 ∃o,ops[m.i]?=aj o/\∀(Q:Exit->Act->World->Prop) (FJ:Fr) (L:List cH),(∀q v,look fr q=aj v->look FJ q=aj v)->(∀g,TL P n W ops Q [] ((m.d,m.v g)::FJ) (L++[m.own g]))->TL P n W ops Q [o] FJ L
theorem G4:∀(l:Fr) {q:Nat} {v:Value},(∀x∈l,look fr x.1=ak)->look fr q=aj v->look (l++fr) q=aj v
 |[],_,_,_,h=>h
 |(k,u)::l,q,v,hl,h=>by
  show(bif fx k q then aj u else look (l++fr) q)=aj v
  cases e:fx k q
  exact G4 l (λx hx=>hl x (by simp[hx])) h;have:=kf e;subst this;have:=hl (k,u) (by simp);rw[this]at h
  cases h
theorem ny.perm{a:Act}{l l':Fr}(h:ny n a (l++fr))(hp:l.Perm l')(hn:(l.map (·.1)).Nodup):ny n a (l'++fr):=
 ⟨h.size,h.defers,λi v hl=>h.get i v (by rw[TF hp hn fr i];exact hl)⟩
theorem Xy:∀(dn:List (Mk×Nat)),(dn.map (·.1.i)).Nodup->∃g:Nat->Nat,∀x∈dn,g x.1.i=x.2
 |[],_=>⟨λ_=>0,λx hx=>by cases hx⟩
 | y::dn,h=>by
  rw[gh,pe]at h;obtain⟨g,hg⟩:=Xy dn h.2;refine⟨λi=>if i=y.1.i then y.2 else g i,λx hx=>?_⟩;rcases dA.1 hx with rfl|hx
  simp;have:¬x.1.i=y.1.i:=λe=>h.1 (by rw[<-e];exact Aq hx);simp only[if_neg this];exact hg x hx
theorem OO(ms E:List Mk)(hn:(ms.map (·.i)).Nodup)(hEn:(E.map (·.i)).Nodup)(hEd:(E.map (·.d)).Nodup)(hE:∀m∈E,m∈ms)(dn:List (Mk×Nat))(h1:∀x∈dn,x.1∈ms)(hp:(dn.map (·.1.i)).Perm (E.map (·.i)))(a:Act)(hr:ny n a (oB dn++fr)):
 ∃g:Nat->Nat,ny n a (E.map (λm=>(m.d,m.v (g m.i)))++fr)/\Mem W (L++owm dn)=Mem W (L++E.map λm=>m.own (g m.i)):=by
 obtain⟨d',p1,p2⟩:=TG (λx:Mk×Nat=>x.1.i) hp dn I;have e1:=Li d' E ms (ac' ms hn) (λx hx=>h1 x (p1.subset hx)) hE p2;obtain⟨g,hg⟩:=Xy d' (by rw[p2];exact hEn);have e2:d'=E.map λm=>(m,g m.i):=by
  rw[<-e1,Ar]
  conv=>lhs;rw[<-List.map_id d']
  exact List.map_congr_left λx hx=>by
   obtain⟨m,q⟩:=x;have:=hg _ hx;dsimp only at this;simp[this]
 have OP:((oB dn).map (·.1)).Nodup:=by
  have:((oB dn).map (·.1)).Perm (E.map (·.d)):=by
   have h5:=(p1.map λx:Mk×Nat=>x.1.d).symm;have e:d'.map (λx:Mk×Nat=>x.1.d)=E.map (·.d):=by rw[<-e1,Ar];rfl
   rw[e]at h5;unfold oB;rw[Ar];exact h5
  exact this.nodup_iff.2 hEd
 have GI:=hr.perm (p1.map _).symm OP;refine⟨g,?_,?_⟩
 ·have:d'.map (λx=>(x.1.d,x.1.v x.2))=E.map (λm=>(m.d,m.v (g m.i))):=by rw[e2,Ar];rfl
  rw[<-this];exact GI
 ·have e:E.map (λm=>m.own (g m.i))=owm d':=by rw[e2,owm,Ar];rfl
  rw[e];exact funext λw=>propext ⟨λh=>h.perm (((p1.map _).symm).append_left L),λh=>h.perm ((p1.map _).append_left L)⟩
theorem aaZ(ms:List Mk)(ends:List (List Mk))(listed:Array Bool)(U:World->Prop)(S0:Nat)(hUL:∀l,∀w,Mem W (L++l) w->U w)
 (hn:(ms.map (·.i)).Nodup) (hd:(ms.map (·.d)).Nodup) (hB:ac_ ops (ms.map (·.i)) (ends.map λE=>E.map (·.i)) listed=aD) (hm:∀m∈ms,G3 P n W ops fr m) (hf:∀m∈ms,look fr m.d=ak)
 (ahl:∀E∈ms::ends,(∀m∈E,m∈ms)/\(E.map (·.i)).Nodup/\(E.map (·.d)).Nodup/\∀(k:Nat) (g:Nat->Nat) (a:Act),E.length+k=ms.length->ny n a (E.map (λm=>(m.d,m.v (g m.i)))++fr)->sn P .any ops Q U (k+S0) (mU listed (E.map (·.i))) a (Mem W (L++E.map λm=>m.own (g m.i)))):
 ∀(k:Nat) (dn:List (Mk×Nat)),(∀x∈dn,x.1∈ms)->(dn.map (·.1.i)).Nodup->dn.length+k=ms.length->∀a,ny n a (oB dn++fr)->sn P .any ops Q U (k+S0) (mU listed (dn.map (·.1.i))) a (Mem W (L++owm dn)):=by
 have stop:∀E∈ms::ends,∀(k:Nat) (dn:List (Mk×Nat)),(∀x∈dn,x.1∈ms)->(dn.map (·.1.i)).Nodup->dn.length+k=ms.length->(dn.map (·.1.i)).Perm (E.map (·.i))->∀a,ny n a (oB dn++fr)->sn P .any ops Q U (k+S0) (mU listed (dn.map (·.1.i))) a (Mem W (L++owm dn)):=by
  intro E hE k dn h1 h2 h3 hp a hr;obtain⟨q1,q2,q3,q4⟩:=ahl E hE;obtain⟨g,r1,r2⟩:=OO (W:=W) (L:=L) ms E hn q2 q3 q1 dn h1 hp a hr;have hlen:=hp.length_eq;simp only[dF]at hlen;rw[r2,xQ (D':=E.map (·.i)) λj=>?_]
  exact q4 k g a J r1;exact OF.2 (by simpa using hp.mem_iff)
 intro k
 induction k with
 | zero=>
  intro dn h1 h2 h3 a hr;exact stop ms (by simp) 0 dn h1 h2 h3 (xR (dn.map (·.1.i)) (ms.map (·.i)) h2 (λx hx=>by
   obtain⟨y,hy,rfl⟩:=eX.1 hx;exact Aq (f:=(·.i)) (h1 y hy)) (by simp;omega)) a hr
 | succ k ih=>
  intro dn h1 h2 h3 a hr;have pj:=λE hE hp=>stop E hE (k+1) dn h1 h2 h3 hp a hr;have kg:∀x∈dn.map (·.1.i),x∈ms.map (·.i):=λx hx=>by
   obtain⟨y,hy,rfl⟩:=eX.1 hx;exact Aq (f:=(·.i)) (h1 y hy)
  generalize hD:dn.map (·.1.i)=D at*
  have aib:D.length=dn.length:=by rw[<-hD];simp
  have td:∀j,D.contains j=((ms.map (·.i)).filter λi=>D.contains i).contains j:=λj=>by
   apply OF.2;simp only[Xh,xO];exact⟨λh=>⟨kg j h,h⟩,λh=>h.2⟩
  have hq:=nc.1 hB _ (Bp (λi=>D.contains i) (ms.map (·.i)))
  rw[lU]at hq;rcases hq with hq|hq
  ·rw[Xh]at hq
   obtain⟨E,hE,e⟩:=eX.1 hq;refine pj E (by simp[hE]) ?_;rw[e];refine xR _ _ h2 (λx hx=>xO.2 ⟨kg x hx,by simpa using hx⟩) ?_;exact DG _ _ (hn.filter _) λx hx=>by simpa using(xO.1 hx).2
  have Xz:iK .any ops (mU listed D)=(ms.map (·.i)).filter λi=>!D.contains i:=by
   have hq:=of_decide_eq_true hq;rw[xQ td,hq];exact List.filter_congr λi _=>by rw[<-td i]
  rw[show k+1+S0=(k+S0)+1 by omega];refine⟨λh0=>?_,λi hi w hw=>?_⟩
  ·exfalso
   have:(ms.map (·.i)).length<=D.length:=DG _ _ hn λx hx=>by
    rw[Xz]at h0;have:=List.filter_eq_nil_iff.1 h0 x hx
    simpa using this
   simp at this;omega
  rw[Xz,xO]at hi;obtain⟨hi1,Ts⟩:=hi;obtain⟨m,hm1,rfl⟩:=eX.1 hi1;have hi3:m.i∉D:=by simpa using Ts
  obtain⟨o,ho,NL⟩:=hm m hm1;refine jE ho ((NL _ (oB dn++fr) (L++owm dn) (λq v hq=>G4 (oB dn) (λx hx=>?_) hq) λg=>?_).go a w hr hw)
  ·obtain⟨y,hy,rfl⟩:=eX.1 hx
   exact hf y.1 (h1 y hy)
  refine kI ⟨λa' w' GI rq=>⟨Mem W (L++owm ((m,g)::dn)),ir _ _,hUL _,rq.perm ?_,?_⟩⟩
  ·rw[eD]
   exact(List.perm_append_comm).append_left L
  have:=ih ((m,g)::dn) (λx hx=>by
   rcases dA.1 hx with rfl|hx
   exact hm1;exact h1 x hx) (by rw[gh,hD,pe];exact⟨hi3,h2⟩) (by simp;omega) a' GI
  rw[gh,hD]at this;have e:(mU listed D).setIfInBounds m.i aD=mU listed (m.i::D):=by
   have e0:(mU listed D).setIfInBounds m.i aD=mU listed (D++[m.i]):=by
    unfold mU;rw[IP];rfl
   rw[e0];exact xQ λj=>by
    apply OF.2;simp[or_comm]
  rw[e];exact this
structure TX(P:Program)(n:Nat)(W:bO)(ops:Array Oper)(Q:Exit->Act->World->Prop)(L0:List cH)(listed:Array Bool)(f:Nat)(fr:Fr)(L:List cH):Prop where
 go:(∀w,Mem W L w->Mem W L0 w)->(∀c a d v w,Q (.panic c) (qE a d v) w->Q (.panic c) a w)->xo ops=aD->∀a,ny n a fr->sn P .any ops Q (Mem W L0) f listed a (Mem W L)
theorem mem_left{L l:List cH}{w:World}(h:Mem W (L++l) w):Mem W L w:=by
 have hl:∀(i:Nat) (o:cH),L[i]?=aj o->(L++l)[i]?=aj o:=λi o h=>by
  rw[eR (cX.1 h).1];exact h
 exact⟨h.low,⟨λi o hi=>h.owns.all i o (hl i o hi),λi j o o' re hi hj=>h.owns.apart i j o o' re (hl i o hi) (hl j o' hj)⟩⟩
theorem XA{id:Nat}{l:List Oper}(L0:List cH)(kg:∀w,Mem W L w->Mem W L0 w)(hm:P.follows .mixedOrders=aD)(mg:xo l.toArray=aD)
 (hQ:∀c a d v w,Q (.panic c) (qE a d v) w->Q (.panic c) a w)
 (h:TX P n W l.toArray Q L0 (xg l.toArray.size aE) l.toArray.size fr L):T P n W (.region id l.toArray aD) Q fr L:=⟨λa w hr tv=>by
 refine wp_region_any hm ?_;exact xD (U:=Mem W L0) l.toArray.size (xg l.toArray.size aE) a (Mem W L) w.drew tv.drew (h.go kg hQ mg a hr)⟩
theorem Cz{listed:Array Bool}{f:Nat}(t:Ord)(ho:lT .any ops t listed=aD)(hf:f=t.size)(h:TW P n W ops Q L0 t fr L):TX P n W ops Q L0 listed f fr L:=
 ⟨λkg hQ mg a hr=>by subst hf;exact jF mg hQ t listed a (Mem W L) (ir W L) kg ho (h.go a hr)⟩
theorem qP{listed:Array Bool}{f d:Nat}{o:Oper}{v:Value}(i:Nat)(hi:((iK .any ops listed).contains i&&Region.free .any ops listed i)=aD)(ho:ops[i]?=aj o)(hr:RR P n W o fr L0 v)(hg:o.guard=ak)(hd:o.dst=aj d)(hn:dv d n=aD)
 (h:TX P n W ops Q L0 (listed.setIfInBounds i aD) f ((d,v)::fr) L):TX P n W ops Q L0 listed (f+1) fr L:=⟨λkg hQ mg a gY=>by
 rw[fc]at hi;have hc:jD P ops (Mem W L0) o v a:= .inl ⟨qk hg,λw hw=>by unfold oR;rw[hr.go a w gY hw];exact⟨rfl,Gr.refl _⟩⟩;exact yK ho (Region.noSelect_spec mg) (λc a w=>hQ c a o.dst v w) f listed a (Mem W L) (ir W L) kg (Region.free_spec ho hi.2) (by simpa using hi.1) hc
  (by rw[hd];exact h.go kg hQ mg _ (gY.put hn v))⟩
def XB(ops:Array Oper)(ms:List Mk)(ends:List (List Nat))(listed:Array Bool)(fr:Fr):Bool:=
 decide (ms.map (·.i)).Nodup&&decide (ms.map (·.d)).Nodup&&ac_ ops (ms.map (·.i)) ends listed&&ms.all λm=>(look fr m.d).isNone
theorem Lj{listed:Array Bool}{f:Nat}(ms:List Mk)(p:Mk->Bool)(S0:Nat)(hf:f=ms.length+S0)(hB:XB ops ms [ms.map (·.i),(ms.filter p).map (·.i)] listed fr=aD)(hm:∀m∈ms,G3 P n W ops fr m)
 (h:∀g:Nat->Nat,TX P n W ops Q L0 (mU listed (ms.map (·.i))) S0 (ms.map (λm=>(m.d,m.v (g m.i)))++fr) (L++ms.map λm=>m.own (g m.i)))
 (h':∀g:Nat->Nat,TX P n W ops Q L0 (mU listed ((ms.filter p).map (·.i))) (ms.length-(ms.filter p).length+S0) ((ms.filter p).map (λm=>(m.d,m.v (g m.i)))++fr) (L++(ms.filter p).map λm=>m.own (g m.i))):TX P n W ops Q L0 listed f fr L:=⟨λkg hQ mg a hr=>by
 subst hf;simp only[XB,fc,decide_eq_true_eq]at hB;obtain⟨⟨⟨b1,b2⟩,b3⟩,b4⟩:=hB;have:=aaZ (Q:=Q) (L:=L) ms [ms,ms.filter p] listed (Mem W L0) S0 (λl w hw=>kg w (mem_left hw)) b1 b2 b3 hm (λm hm=>by simpa using nc.1 b4 m hm)
  (λE hE=>by
   have hE:E=ms\/E=ms.filter p:=by
    simp only[List.mem_cons,List.not_mem_nil,or_false]at hE;rcases hE with h|h|h
    exact .inl h;exact .inl h;exact .inr h
   rcases hE with rfl|rfl
   ·exact⟨λ_ h=>h,b1,b2,λk g a hk hr=>by
     obtain rfl:k=0:=by omega
     rw[Nat.zero_add];exact(h g).go (λw hw=>kg w (mem_left hw)) hQ mg a hr⟩
   exact⟨λ_ h=>(List.mem_filter.1 h).1,b1.sublist (List.filter_sublist.map _),b2.sublist (List.filter_sublist.map _),λk g a hk hr=>by
    obtain rfl:k=ms.length-(ms.filter p).length:=by omega
    exact(h' g).go (λw hw=>kg w (mem_left hw)) hQ mg a hr⟩) ms.length [] (λx hx=>by cases hx) (by simp) (by simp) a hr
 simpa[mU,owm]using this⟩
theorem yQ{fr FJ:Fr}(h:∀q v,look fr q=aj v->look FJ q=aj v){x:Operand}{v:Value}(hx:ev fr x=aj v):ev FJ x=aj v:=by
 cases x with
 |tmp t=>exact h _ _ hx
 |_=>exact hx
theorem nJ{i d:Nat}{t e ty:TypeId}{pos:String}{after:Array Edge}{x y:Operand}{c bytes m cap:Nat}{k k':IntKind}{zs:Array Value}[rf P t e c bytes][bT P e zs](ho:ops[i]?=aj ⟨aj d,.makeSlice t x y,ty,pos,after,ak⟩)(hx:ev fr x=aj (.int k (m:Int)))(hy:ev fr y=aj (.int k' (cap:Int)))(Rr:m<=cap)(hb:bytes*cap<=281474976710656)(ra:cap<=9223372036854775807)(hn:dv d n=aD):
 G3 P n W ops fr ⟨i,d,λg=>ap (aj ⟨g,0,ak⟩) m cap,λg=>aP g (madeCells zs (cap*c)) e⟩:=
 ⟨_,ho,λ_ _ _ hl h=>uj (yQ hl hx) (yQ hl hy) Rr hb ra hn h⟩
theorem G5{i d:Nat}{t ty:TypeId}{pos:String}{after:Array Edge}{cs:Array Value}[bT P t cs](ho:ops[i]?=aj ⟨aj d,.alloc t,ty,pos,after,ak⟩)(hn:dv d n=aD):
 G3 P n W ops fr ⟨i,d,λg=>aJ (aj ⟨g,0,ak⟩),λg=>aP g cs t⟩:=
 ⟨_,ho,λ_ _ _ _ h=>aY hn h⟩
end
end cI
namespace gj
open dl
def SzR(p0:Nat)(x:Rx)(st:RS):Prop:=p0<=st.p/\(st.e=0->tc x+1<=200*(st.p-p0))/\(st.e≠0->tc x<=200*(st.p-p0)+1)
section
variable{s:Tn}
theorem SzR.le{p0:Nat}{x:Rx}{st:RS}(h:SzR p0 x st):tc x<=200*(st.p-p0)+1:=by
 by_cases e:st.e=0
 have:=h.2.1 e;omega;exact h.2.2 e
end
end gj
namespace aT
abbrev dy:=Int×Int
abbrev Prod:=Int×List dy
structure eb where
 aR:Int
 bC:Int
 aF:List Prod
def right(aR bC:Int)(x:dy):Bool:=if x.1=1 then decide (0<=x.2)&&decide (x.2<aR)else if x.1=2 then decide (0<=x.2)&&decide (x.2<bC)else aE
def yR(aR bC:Int)(p:Prod):Int:=if 8<p.2.length then 2 else if p.1<0 then 1 else if bC<=p.1 then 1 else if p.2.any (λx=>!right aR bC x)=aD then 1 else 0
def pq(aR bC:Int):List Prod->Int
 |[]=>0
 |p::r=>if yR aR bC p≠0 then yR aR bC p else pq aR bC r
def b_(g:eb):Int:=if g.aR<0 then 1 else if 30<g.aR then 1 else if g.bC<1 then 1 else if 20<g.bC then 1 else if 40<g.aF.length then 2 else pq g.aR g.bC g.aF
theorem XC{t n:Int}{p:Prod}(h:yR t n p=0):p.2.length<=8/\0<=p.1/\p.1<n/\∀x∈p.2,right t n x=true:=by
 unfold yR at h;split at h;· simp at h
 split at h;· simp at h
 split at h;· simp at h
 split at h;· simp at h
 rename_i a b c d
 refine⟨by omega,by omega,by omega,λx hx=>?_⟩;simp only[qN,not_exists,not_and,C0,Bool.not_eq_false]at d
 simpa using d x hx
theorem G6{t n:Int}:∀{l:List Prod},pq t n l=0->∀p∈l,yR t n p=0
 |[],_,_,h=>by cases h
 | q::r,h,p,hp=>by
  unfold pq at h;split at h;contradiction
  rename_i c
  rcases dA.1 hp with rfl|hp
  simpa using c
  exact G6 h p hp
theorem cP{g:eb}(h:b_ g=0):0<=g.aR/\g.aR<=30/\1<=g.bC/\g.bC<=20/\g.aF.length<=40/\∀p∈g.aF,p.2.length<=8/\0<=p.1/\p.1<g.bC/\∀x∈p.2,right g.aR g.bC x=true:=by
 unfold b_ at h;split at h;· simp at h
 split at h;· simp at h
 split at h;· simp at h
 split at h;· simp at h
 split at h;· simp at h
 exact⟨by omega,by omega,by omega,by omega,by omega,λp hp=>XC (G6 h p hp)⟩
end aT
namespace cI
open Go.RowKit cU dS
theorem str_inj{x y:List UInt8}(h:str x=str y):x=y:=by
 unfold str at h
 simpa using h
def ib:yN aB 9 (List UInt8) where
 kv:=str
 ok l:=l.length<=9223372036854775807
 law:=Go.WideMaps.string_law Tryz.underlying9
 key l h:=⟨_,Go.WideMaps.keyOf_string_mk Tryz.underlying9 (by unfold maxLen;simpa[xi]using h)⟩
 inj x y h:=str_inj h
end cI
namespace cI
open Go.RowKit cU dS dl
theorem CA{n:Int}(h0:0<=n)(h1:n<=18446744073709551615):v64 (io 64 n.toNat)= .int .u64 n:=by
 simp only[v64,fT,CZ]
 congr 1
 omega
set_option maxRecDepth 100000 in
theorem TI{H:Type}{enc0:TypeId×Value->H}{W:World}:ql enc0 aB W 77 (λcs x=>cs=dV x/\True):=λfuel cs x hf=>by
 have ho:ql enc0 aB W 77 (WY .u64 0 18446744073709551615 4):=(K8 (is:=isInt .u64 0 18446744073709551615) (c:=1) Tryz.underlying77 (by kernel_rfl) (Tq Tryz.underlying75)).mono λcs l h=>by
  have e:aB.cellsOf 77=4:=by kernel_rfl
  exact K9 (by rw[h.1,e]) h.2
 obtain⟨l,h1,h2,h3⟩:=ho fuel cs _ hf
 match l,h1 with
 |[p,q,r,s],_=>
  have b0:=h3 p (by simp);have b1:=h3 q (by simp);have b2:=h3 r (by simp);have b3:=h3 s (by simp);refine⟨⟨io 64 p.toNat,io 64 q.toNat,io 64 r.toNat,io 64 s.toNat⟩,?_,trivial⟩;show cs=[v64 (io 64 p.toNat),v64 (io 64 q.toNat),v64 (io 64 r.toNat),v64 (io 64 s.toNat)]
  rw[CA b0.1 b0.2,CA b1.1 b1.2,CA b2.1 b2.2,CA b3.1 b3.2,h2];rfl
end cI
namespace cI
open Go.RowKit cU dS dl gj Go.ChangeShapes Go.WideShapes Go.ChangeAt
set_option maxRecDepth 100000
section
variable{H:Type}{enc0:TypeId×Value->H}{P:Program}{W:World}{M:Msr P H}
def DH(M:Msr P H)(enc0:TypeId×Value->H)(W:World)(fuel:Nat)(t:TypeId){α:Type}(is:List Value->α->Prop):Prop:=
 ∀cs x,qG enc0 P W 0 (λ_=>aD) aD fuel t cs=aj x->M.ok t x.1->∃a,is cs a
theorem kL.at{fuel:Nat}{t:TypeId}{α:Type}{is:List Value->α->Prop}(h:kL M enc0 W t is):DH M enc0 W fuel t is:=λcs x=>h fuel cs x
theorem IS{fuel:Nat}{t e:TypeId}{c:Nat}(ht:P.underlying t=aj (.slice e))(hc:P.cellsOf e=c)(C9:0<c){α:Type}{is:List Value->α->Prop}(hd:∀n,fuel=n+1->DH M enc0 W n e is)(_:∀cs a,is cs a->cs.length=c):DH M enc0 W fuel t (λcs l=>afH W is c cs l/\M.lim e l.length):=λcs x h hm=>by
 rcases DataW.trod_slice ht h with⟨rfl,_⟩|⟨a,len,cap,elems,rest,n,hf,rfl,hx,_,hlc,hmx,tr,yB,_⟩
 exact⟨[],⟨_,rfl,ak,0,rfl,bx _,by decide,λh=>by simp at h⟩,M.zero e⟩;rw[hx]at hm;obtain⟨Ds,oT⟩:=M.slice ht hm;have each:∀i,i<len->∃y:α,∃cs,W.cells? 0 (a.add (i*c)) c=aj cs/\is cs y:=λi hi=>by
  have h1:=yB i hi;rw[hc,bD J]at h1
  cases hcell:W.cells? 0 (a.add (i*c)) c with
  |none=>rw[hcell]at h1;simp at h1
  | some cs=>
   rw[hcell]at h1;obtain⟨y,hy⟩:=hd n hf cs _ h1 (oT _ (eX.2 ⟨_,cD J,rfl⟩));exact⟨y,cs,rfl,hy⟩
 obtain⟨l,KW,hp⟩:=yC len each;subst KW;refine⟨l,⟨_,rfl,aj a,cap,rfl,hlc,hmx,λh0=>?_⟩,by rw[dF,tr]at Ds;exact Ds⟩;obtain⟨cs0,h1,h2⟩:=hp 0 l[0] (bD h0);have h3:=(i_ h1).2 0 C9;have hlen:=(i_ h1).1;rw[bD J]at h3;have hsp:=Ag h3;have e0:a.spot=none:=by
  rw[Nat.zero_mul]at hsp;unfold tK at hsp
  simpa using hsp
 obtain⟨b,off,spot⟩:=a;obtain rfl:spot=none:=e0;refine⟨b,off,rfl,λi hi=>?_⟩;obtain⟨cs,h4,h5⟩:=hp i l[i] (bD hi);refine⟨cs,h5,λj u hj=>?_⟩;have hj2:j<c:=by
  have:=(cX.1 hj).1;rw[(i_ h4).1]at this;exact this
 have h6:=(i_ h4).2 j hj2;rw[hj]at h6;have e1:∀(o k:Nat),(⟨b,o,ak⟩:Addr).add k=⟨b,o+k,ak⟩:=λo k=>by unfold tK;simp
 rw[e1,e1]at h6;rw[<-h6]
theorem G7{t:TypeId}{fs:Array Field}(ht:P.underlying t=aj (.struct fs)){fuel:Nat}{cs:List Value}{x:DataW H×List MemPlace}(h:qG enc0 P W 0 (λ_=>aD) aD fuel t cs=aj x)(hm:M.ok t x.1):
 cs.length=P.cellsOf t/\∃n,fuel=n+1/\∀(i:Nat) (f:Field),fs[i]?=aj f->∀{α:Type} {is:List Value->α->Prop},DH M enc0 W n f.type is->∃a,is ((cs.drop f.offset).take (P.cellsOf f.type)) a:=by
 obtain⟨xs,n,hn,hx,hl,hlen,hf⟩:=DataW.trod_struct ht h;refine⟨hl,n,hn,λi f hi α is ho=>?_⟩;have h1:=hf i f hi;have hlt:i<xs.length:=by rw[hlen];exact(jm.1 hi).1
 rw[bD hlt]at h1;rw[hx]at hm;exact ho _ _ h1 (M.W1 ht hm i f _ hi (by rw[eS,bD hlt];rfl))
end
theorem XD{W:World}{v:Value}{l:List Rx}(h:Tp W (λcs t=>ku (p9 W) W cs t) 6 v l):jW xJ (p9 W) W v l:=by
 obtain⟨base,cap,h1,h2,h3,h4⟩:=h;refine⟨base,cap,h1,h2,h3,λh0=>?_⟩;obtain⟨b,off,h5,h6⟩:=h4 h0;refine⟨b,off,h5,?_,λi hi=>?_⟩
 ·obtain⟨cs,h7,h8⟩:=h6 0 h0
  have h7':cs.length=6:=ku.ad1 h7;have:=h8 0 _ (bD J);exact nX W _ this
 obtain⟨cs,h7,h8⟩:=h6 i hi;exact⟨cs,h7,h8⟩
theorem DI{H:Type}{M:Msr aB H}{enc0:TypeId×Value->H}{W:World}:∀(F fuel:Nat),fuel<=F->DH M enc0 W fuel 80 (λcs t=>ku (p9 W) W cs t)
 | 0,fuel,hF,cs,x,h,hm=>by
  obtain⟨_,n,hn,_⟩:=G7 Tryz.underlying80 h hm;omega
 | F +1,fuel,hF,cs,x,h,hm=>by
  obtain⟨hl,n,hn,KH⟩:=G7 Tryz.underlying80 h hm;have hl6:cs.length=6:=hl;obtain⟨p,e0,k1⟩:=KH 0 _ rfl (kL.at (OC Tryz.underlying3));obtain⟨c,e1⟩:=KH 1 _ rfl (kL.at (GV TI));obtain⟨l,⟨v,e2,hs⟩,_⟩:=KH 2 _ rfl (IS (c:=6) Tryz.underlying78 (by kernel_rfl) aiT (λm hm=>DI F m J) λcs a h=>h.ad1)
  replace e0:(cs.drop 0).take 1=[av az p]:=e0
  replace e1:(cs.drop 1).take 4=dV c:=e1.1
  replace e2:(cs.drop 5).take 1=[v]:=e2
  refine⟨.mk p c l,yO.2 ⟨v,?_,k1,XD hs⟩⟩;unfold mi;rw[<-e1]
  match cs,hl6 with
  | [x0,x1,x2,x3,x4,x5],_=>
   simp only[uv,mC,uu,nY,gi,and_true]at e0 e2;subst e0 e2;rfl
end cI
namespace IT
abbrev Fm:=Int×Int×List UInt8
end IT
namespace cI
open Go.RowKit cU dS IT
def frC(f:Fm):List Value:=[av az f.1,av az f.2.1,str f.2.2]
end cI
namespace cI
open Go.RowKit cU dS IT
set_option maxRecDepth 100000
def ahm(cs:List Value)(f:Fm):Prop:=cs=frC f/\(-9223372036854775808<=f.1/\f.1<=9223372036854775807)/\(-9223372036854775808<=f.2.1/\f.2.1<=9223372036854775807)/\f.2.2.length<=9223372036854775807
theorem XE{H:Type}{enc0:TypeId×Value->H}{W:World}:ql enc0 aB W 49 ahm:=λfuel cs x h=>by
 obtain⟨hl,KH⟩:=WZ Tryz.underlying49 h;have XF:cs.length=3:=hl;obtain⟨k,e0,k1,k2⟩:=KH 0 _ rfl (Am Tryz.underlying3);obtain⟨q,e1,q1,q2⟩:=KH 1 _ rfl (Am Tryz.underlying3);obtain⟨b,e2,b1⟩:=KH 2 _ rfl (Tr Tryz.underlying9)
 replace e0:(cs.drop 0).take 1=[av az k]:=e0
 replace e1:(cs.drop 1).take 1=[av az q]:=e1
 replace e2:(cs.drop 2).take 1=[str b]:=e2
 refine⟨(k,q,b),?_,⟨k1,k2⟩,⟨q1,q2⟩,b1⟩
 match cs,XF with
 |[x,y,z],_=>
  simp only[uv,mC,uu,nY,gi,and_true]at e0 e1 e2;subst e0 e1 e2;rfl
def ad'(f:Fm):Prop:=(-9223372036854775808<=f.1/\f.1<=9223372036854775807)/\(-9223372036854775808<=f.2.1/\f.2.1<=9223372036854775807)/\f.2.2.length<=9223372036854775807
theorem XG{H:Type}{enc0:TypeId×Value->H}{W:World}{base:Nat}{v:Value}{d:DataW H}{ps:List MemPlace}(hv:Value.okWide aB W .any base 26 v)(h:DataW.Trod enc0 aB W 0 (λ_=>aD) aD 26 v d ps){ts:List TypeId}{ds:List (DataW H)}(hsz:(DataW.weightsEach aB ts ds).all (· <=reachBytes)=aD)(j:Nat)(hj:ts[j]?=aj 26)(hd:ds[j]?=aj d):
 ∃l:List Fm,Sl W v l.length (l.flatMap frC)/\(∀f∈l,ad' f)/\l.length*32<=140737488351232:=by
 obtain⟨l,h1,h2,h3⟩:=S5 Tryz.underlying26 (c:=3) (by kernel_rfl) aiT frC (λ_=>rfl) ad' (λn cs x hx=>let ⟨f,e,h⟩:=XE n cs x hx;⟨f,e,h⟩) hv h;exact⟨l,h1,h2,S7 (n:=l.length) hsz hj hd Tryz.underlying26 (by kernel_rfl) (by rcases h3 with⟨h,rfl⟩|h;exact .inl ⟨h,rfl⟩;exact .inr h)⟩
end cI
namespace yS
def nj(n:Nat)(tag:Int)(row:List Int):Bool:=decide (tag< -1)||decide (20<=tag)||row.any λt=>decide (t< -1)||decide ((n:Int)<=t)
def Az(rows:List (List Int))(tags:List Int):Int:=
 if 200<rows.length then 2 else if rows.length=0\/tags.length≠rows.length then 1 else if(eh rows.length).any (λi=>nj rows.length (tags.getD i 0) (rows.getD i []))then 1 else 0
theorem XH{rows:List (List Int)}{tags:List Int}(h:Az rows tags=0):rows.length<=200/\0<rows.length/\tags.length=rows.length/\∀i,i<rows.length-> -1<=tags.getD i 0/\tags.getD i 0<20/\∀t∈rows.getD i [],-1<=t/\t<rows.length:=by
 unfold Az at h;split at h;simp at h;split at h;simp at h;split at h;simp at h
 rename_i c1 c2 c3
 refine⟨by omega,by omega,by omega,λi hi=>?_⟩;simp only[qN,pf,not_exists,not_and]at c3;have:=c3 i hi;simp only[nj,lU,decide_eq_true_eq,qN,not_or,not_exists,not_and]at this;obtain⟨⟨a,b⟩,c⟩:=this;refine⟨by omega,by omega,λt ht=>?_⟩;have:=c t ht;omega
end yS
namespace cI
open Go.RowKit cU dS yS
set_option maxRecDepth 100000
def isRow(cs:List Value)(r:List Int):Prop:=r.length=256/\cs=r.map (.int .i16)/\∀x∈r,-32768<=x/\x<=32767
def Lk(W:World)(v:Value)(rows:List (List Int))(tags:List Int):Prop:=∃vr vt,v=aQ #[vr,vt]/\Tp W isRow 256 vr rows/\Tp W (isInt .i64 (-9223372036854775808) 9223372036854775807) 1 vt tags/\∀r∈rows,r.length=256
theorem Lk.up{W w:World}{L:List cH}{v:Value}{rows:List (List Int)}{tags:List Int}(h:Lk W v rows tags)(hm:Mem W L w):Lk w v rows tags:=
 let ⟨vr,vt,h1,h2,h3,h4⟩:=h;⟨vr,vt,h1,h2.up hm,h3.up hm,h4⟩
end cI
namespace cI
open Go.RowKit cU dS yS
theorem aea{rows:List (List Int)}{i:Nat}(hi:i<rows.length):rows.getD i []=rows[i]:=by rw[b9,bD hi];rfl
theorem OQ{l:List Int}{i:Nat}(hi:i<l.length):l.getD i 0=l[i]:=by rw[b9,bD hi];rfl
theorem TJ{n i:Nat}{p:Nat->Bool}(hi:i<n)(h:p i=aD):(eh n).any p=true:=qN.2 ⟨i,pf.2 hi,h⟩
theorem DJ(v:Value)(rows:List (List Int))(tags:List Int)(w:World)(h:Lk w v rows tags):
 Calls aB 71 #[v] w (cB (ret (av az (Az rows tags))) w):=by
 obtain⟨vr,vt,rfl,hr,ht,ain⟩:=h;obtain⟨br,cr,rfl,hr1,wk,DK⟩:=hr;have ht':=ht.sl (f:= .int .i64) λcs a h=>h.1;obtain⟨bt,ct,rfl,ht1,Vr,KI⟩:=ht';have htr:∀i (hi:i<tags.length),-9223372036854775808<=tags[i]/\tags[i]<=9223372036854775807:=λi hi=>by
  obtain⟨_,_,_,_,_,h5⟩:=ht;obtain⟨_,_,_,h6⟩:=h5 J;obtain⟨_,h7,_⟩:=h6 i hi;exact h7.2
 clear ht;unfold maxLen at wk Vr;refine enter (args:=[aQ #[ap br rows.length cr,ap bt tags.length ct]]) (n:=57) Tryz.func71 I I I ?_;refine cC (bz (bR I I I λg=>?_))
 repeat(first|refine GA ?_|refine gV (aC aK.ty I (aH (i:=0) I I)) ?_)
 unfold Az
 by_cases c1:200<rows.length
 ·rw[if_pos c1]
  try refine GA ?_
  exact eM
 ·rw[if_neg c1]
  by_cases c2:rows.length=0
  ·rw[if_pos (.inl c2)]
   repeat(first|refine GA ?_|refine gV (aC aK.ty I (aH (i:=0) I I)) ?_)
   exact eM
  by_cases c3:tags.length=rows.length
  ·rw[if_neg J]
   repeat(first|refine GA ?_|refine gV (aC aK.ty I (aH (i:=0) I I)) ?_)
   refine nZ (ι:=Nat) (λi=>i<=rows.length/\∀j,j<i->nj rows.length (tags.getD j 0) (rows.getD j [])=aE) (λi=>[(1,aJ (aj ⟨g,0,ak⟩)),(3,av az rows.length),(21,av az rows.length),(22,av az (i:Int))]) (λ_=>[aP g #[ap br rows.length cr,ap bt tags.length ct] 120]) (λi=>rows.length-i) 0 ⟨by omega,λj hj=>by omega⟩ ⟨rfl,rfl,rfl,rfl,trivial⟩ I ?_;rintro i ⟨h1,h2⟩
   by_cases c4:i<rows.length
   ·obtain⟨b,off,rfl,hb⟩:=DK J
    obtain⟨b',AA,rfl,NH⟩:=KI J;have c4':i<tags.length:=by omega
    have du:=WB (L:=[aP g #[ap (aj ⟨b,off,ak⟩) rows.length cr,ap (aj ⟨b',AA,ak⟩) tags.length ct] 120]) NH c4';obtain⟨cs,hcs,gJ⟩:=hb i c4;obtain⟨q1,q2,q3⟩:=hcs;have hti:=htr i c4';have hta:=OQ c4';have hra:=aea c4;have nK:∀(P:Prop),nj rows.length (tags.getD i 0) (rows.getD i [])=aD->(if(eh rows.length).any (λi=>nj rows.length (tags.getD i 0) (rows.getD i []))=aD then(1:Int)else 0)=1:=λ_ h=>if_pos (TJ c4 h);rw[hta,hra]at nK
    by_cases c5:tags[i]< -1
    ·rw[nK True (by simp[nj,c5])]
     repeat(first|refine GA ?_|refine gV (aC aK.ty I (aH (i:=0) I I)) ?_|refine gV (cz bM.eq aK.ty I I c4') ?_|refine gV (aC aK.ty I du) ?_)
     exact eM
    by_cases c6:20<=tags[i]
    ·rw[nK True (by simp[nj,c6])]
     repeat(first|refine GA ?_|refine gV (aC aK.ty I (aH (i:=0) I I)) ?_|refine gV (cz bM.eq aK.ty I I c4') ?_|refine gV (aC aK.ty I du) ?_)
     exact eM
    repeat(first|refine GA ?_|refine gV (aC aK.ty I (aH (i:=0) I I)) ?_|refine gV (cz bM.eq aK.ty I I c4') ?_|refine gV (aC aK.ty I du) ?_|refine gV (aX bM.eq aK.ty I I c4) ?_|refine gV (a8 aK.ty I (by rw[q2,dF,q1]) (λj v hj=>iI gJ hj)) ?_)
    refine nZ (ι:=Nat) (λb=>b<=256/\∀q,q<b-> -1<=rows[i].getD q 0/\rows[i].getD q 0<rows.length) (λb=>[(1,aJ (aj ⟨g,0,ak⟩)),(3,av az rows.length),(21,av az rows.length),(22,av az (i:Int)),(43,aQ cs.toArray),(44,av az (b:Int))]) (λ_=>[aP g #[ap (aj ⟨b,off,ak⟩) rows.length cr,ap (aj ⟨b',AA,ak⟩) tags.length ct] 120]) (λb=>256-b) 0 ⟨by omega,λq hq=>by omega⟩ ⟨rfl,rfl,rfl,rfl,rfl,rfl,trivial⟩ I ?_;rintro q ⟨k1,k2⟩
    by_cases c7:q<256
    ·have hql:q<rows[i].length:=by omega
     have hqv:=OQ hql;have hcell:cs.toArray[q]?=aj (.int .i16 rows[i][q]):=by rw[q2];simp[hql]
     have hq3:=q3 _ (cD hql);have afL:rows[i][q]∈rows[i]:=cD hql;generalize rows[i][q]=z at*
     by_cases c8:z< -1
     ·rw[nK True (by simp only[nj,lU,qN];exact .inr ⟨z,afL,by simp[c8]⟩)]
      clear k2 h2 DK KI
      repeat(first|refine GA ?_|refine gV (jt bM.eq aK.ty I I c7 hcell) ?_|refine gV (iQ bM.eq bM.eq I (nB J J)) ?_)
      exact eM
     by_cases c9:(rows.length:Int)<=z
     ·rw[nK True (by simp only[nj,lU,qN];exact .inr ⟨z,afL,by simp[c9]⟩)]
      clear k2 h2 DK KI
      repeat(first|refine GA ?_|refine gV (jt bM.eq aK.ty I I c7 hcell) ?_|refine gV (iQ bM.eq bM.eq I (nB J J)) ?_)
      exact eM
     repeat(first|refine GA ?_|refine gV (jt bM.eq aK.ty I I c7 hcell) ?_|refine gV (iQ bM.eq bM.eq I (nB J J)) ?_)
     exact iB (q+1) ⟨by omega,λq' Da=>if e:q'<q then k2 q' e else(by obtain rfl:q'=q:=J;rw[hqv];omega)⟩ (by show 256-(q+1)<256-q;omega) ⟨rfl,rfl,rfl,rfl,rfl,rfl,trivial⟩ I
    have yT:nj rows.length (tags.getD i 0) (rows.getD i [])=false:=by
     rw[hta,hra];simp only[nj,Dx,decide_eq_false_iff_not,List.any_eq_false,Bool.not_eq_true];refine⟨⟨c5,c6⟩,λz hz=>?_⟩;obtain⟨q',Da,rfl⟩:=hY.1 hz;have:=k2 q' J;rw[OQ Da]at this;simp;omega
    try refine GA ?_
    exact iB (i+1) ⟨by omega,λj hj=>if e:j<i then h2 j e else(by obtain rfl:j=i:=J;exact yT)⟩ (by show rows.length-(i+1)<rows.length-i;omega) ⟨rfl,rfl,rfl,rfl,trivial⟩ I
   have hno:¬(eh rows.length).any (λi=>nj rows.length (tags.getD i 0) (rows.getD i []))=true:=by
    simp only[qN,pf,not_exists,not_and];intro j hj;rw[h2 j J];simp
   rw[if_neg hno]
   try refine GA ?_
   exact eM
  rw[if_pos (.inr c3)]
  repeat(first|refine GA ?_|refine gV (aC aK.ty I (aH (i:=0) I I)) ?_)
  exact eM
end cI
namespace cT
structure uA where
 n:Nat
 d:Nat->Nat->Int
 tag:Nat->Int
structure uA.Ok(A:uA):Prop where
 pos:0<A.n
 le:A.n<=200
 step:∀i,i<A.n->∀b,b<256-> -1<=A.d i b/\A.d i b<A.n
 tags:∀i,i<A.n-> -1<=A.tag i/\A.tag i<20
abbrev Row:=Vector Int 256
abbrev Kind:=Int×Row
section
variable(A:uA)
def val(now:Nat->Nat)(q:Int):Nat:=if q<0 then 0 else now q.toNat
def kind(now:Nat->Nat)(i:Nat):Kind:=((now i:Int),Vector.ofFn λb:Fin 256=>(val now (A.d i b):Int))
def dead:Kind:=(0,ee 256 0)
def kinds(now:Nat->Nat):List Kind:=(eh A.n).map (kind A now)
def pt(now:Nat->Nat):List Kind:=dM [dead] (kinds A now)
def next(now:Nat->Nat)(i:Nat):Nat:=idx (pt A now) (kind A now i)
def G8:Nat->Nat->(Nat->Nat)->Nat->Nat
 |0,_,now=>now
 |f+1,n,now=>if(pt A now).length=n then next A now else G8 f (pt A now).length (next A now)
def yU(i:Nat):Nat:=(A.tag i+1).toNat
def dO:Nat->Nat:=G8 A (A.n+2) 0 (yU A)
def tg(q:Int):Int:=if q<0 then-1 else A.tag q.toNat
def dt(q:Int)(b:Nat):Int:=if q<0 then-1 else A.d q.toNat b
def go:Int->List UInt8->Int
 |q,[]=>q
 |q,b::s=>go (dt A q b.toNat) s
def St(q:Int):Prop:= -1<=q/\q<A.n
def same(q r:Int):Prop:=∀s,tg A (go A q s)=tg A (go A r s)
def kd(now:Nat->Nat)(q:Int):Kind:=if q<0 then dead else kind A now q.toNat
end
section
variable{A:uA}
theorem G9(hA:A.Ok){q:Int}(hq:St A q){b:Nat}(hb:b<256):St A (dt A q b):=by
 unfold St dt at*;have:=hA.pos;split;omega;exact hA.step q.toNat J b hb
theorem TK{q r:Int}(h:same A q r)(b:Nat)(hb:b<256):same A (dt A q b) (dt A r b):=λs=>by
 have:=h (fE b::s);have e:(fE b).toNat=b:=by simp;omega
 simp only[go,e]at this;exact this
theorem IU(now:Nat->Nat)(q:Int):(kd A now q).1=(val now q:Int):=by
 unfold kd val dead kind;split<;>rfl
theorem IV(now:Nat->Nat)(q:Int)(b:Nat)(hb:b<256):(kd A now q).2[b]=(val now (dt A q b):Int):=by
 unfold kd dt dead kind;split;simp[val];simp
theorem XI{now:Nat->Nat}{q r:Int}:kd A now q=kd A now r↔val now q=val now r/\∀b,b<256->val now (dt A q b)=val now (dt A r b):=by
 constructor
 ·intro h
  refine⟨?_,λb hb=>?_⟩
  ·have e:(kd A now q).1=(kd A now r).1:=by rw[h]
   rw[IU,IU]at e;exact Xe e
  have e:(kd A now q).2[b]=(kd A now r).2[b]:=by rw[h]
  rw[IV _ _ _ hb,IV _ _ _ hb]at e;exact Xe e
 rintro⟨h1,h2⟩;refine Prod.ext ?_ (Vector.ext λb hb=>?_);rw[IU,IU,h1];rw[IV _ _ _ hb,IV _ _ _ hb,h2 b hb]
theorem Ll(now:Nat->Nat):dead∈pt A now:=kO.2 (.inl (by simp))
theorem XJ{now:Nat->Nat}{i:Nat}(h:i<A.n):kind A now i∈pt A now:=kO.2 (.inr (eX.2 ⟨i,pf.2 h,rfl⟩))
theorem XK{now:Nat->Nat}{q:Int}(h:q<A.n):kd A now q∈pt A now:=by
 unfold kd;split;exact Ll now;exact XJ J
theorem TM(now:Nat->Nat):(pt A now).Nodup:=sx _ _ (by simp)
theorem AB(now:Nat->Nat):(pt A now).length<=A.n+1:=by
 have h:∀(l D:List Kind),(dM D l).length<=D.length+l.length:=by
  intro l
  induction l with
  |nil=>intro D;simp[dM]
  |cons k l ih=>
   intro D;have:=ih (more D k);have h2:(more D k).length<=D.length+1:=by unfold more;split<;>simp
   show(dM (more D k) l).length<=_
   simp;omega
 have:=h (kinds A now) [dead];unfold pt;simp[kinds]at this⊢;omega
theorem Rz(now:Nat->Nat):0<(pt A now).length:=IN (Ll now)
theorem uB(now:Nat->Nat){q:Int}:val (next A now) q=idx (pt A now) (kd A now q):=by
 unfold val kd;split
 ·obtain⟨E,h⟩:=sw (kinds A now) [dead]
  rw[pt,h];exact(Xv dead E).symm
 rfl
theorem qt{now:Nat->Nat}{q:Int}(h:q<A.n):val (next A now) q<(pt A now).length:=by
 rw[uB];exact ni (XK h)
theorem IW{now:Nat->Nat}{q r:Int}(hq:q<A.n):val (next A now) q=val (next A now) r↔kd A now q=kd A now r:=by
 rw[uB,uB];exact⟨λh=>aaX (XK hq) h,λh=>by rw[h]⟩
theorem DL{now:Nat->Nat}{q r:Int}(hq:q<A.n)(h:val (next A now) q=val (next A now) r):val now q=val now r:=(XI.1 ((IW hq).1 h)).1
theorem XL{now:Nat->Nat}{v:Nat}(h:v<(pt A now).length):∃q:Int,St A q/\val (next A now) q=v:=by
 have hm:(pt A now)[v]∈pt A now:=cD h;have hi:idx (pt A now) (pt A now)[v]=v:=DE (TM now) h;rcases kO.1 hm with hd|hk
 ·refine⟨-1,⟨by omega,by omega⟩,?_⟩
  rw[uB,show kd A now (-1)=dead from I,<-dR.1 hd];exact hi
 obtain⟨i,h1,h2⟩:=eX.1 hk;rw[pf]at h1;refine⟨i,⟨by omega,by omega⟩,?_⟩;have e:kd A now (i:Int)=kind A now i:=by unfold kd;rw[if_neg J,dq]
 rw[uB,e,h2];exact hi
def RA(A:uA)(n:Nat)(now:Nat->Nat):Prop:=∃was,now=next A was/\n=(pt A was).length
def Lm(A:uA)(x:Nat):Int:=if x<A.n then(x:Int)else-1
theorem XM{q:Int}(h:St A q):∃x,x<A.n+1/\Lm A x=q:=by
 unfold St at h
 by_cases c:q<0
 exact⟨A.n,by omega,by unfold Lm;rw[if_neg J];omega⟩;exact⟨q.toNat,by omega,by unfold Lm;rw[if_pos J];omega⟩
theorem IX(x:Nat):Lm A x<A.n:=by unfold Lm;split<;>omega
theorem xS{n:Nat}{now:Nat->Nat}(h:RA A n now):n<=(pt A now).length/\((pt A now).length=n->∀q r,St A q->St A r->val now q=val now r->val (next A now) q=val (next A now) r):=by
 obtain⟨was,rfl,rfl⟩:=h;have h:=OK (N:=A.n+1) (f:=λx=>val (next A was) (Lm A x)) (g:=λx=>val (next A (next A was)) (Lm A x)) (n:=(pt A was).length) (c:=(pt A (next A was)).length)
  (λv hv=>by
   obtain⟨q,hq,e⟩:=XL hv;obtain⟨x,hx,e2⟩:=XM hq;exact⟨x,hx,by show val (next A was) (Lm A x)=v;rw[e2];exact e⟩)
  (λx _=>qt (IX x)) (λx y _ _ e=>DL (IX x) e)
 refine⟨h.1,λhc q r hq hr e=>?_⟩;obtain⟨x,hx,rfl⟩:=XM hq;obtain⟨y,hy,rfl⟩:=XM hr;exact h.2 hc (λx _=>qt (IX x)) x y hx hy e
structure Way(A:uA)(now:Nat->Nat):Prop where
 tags:∀q r,St A q->St A r->val now q=val now r->tg A q=tg A r
 coarse:∀q r,St A q->St A r->same A q r->val now q=val now r
theorem ahn(hA:A.Ok):Way A (yU A) where
 tags q r hq hr h:=by
  unfold St at hq hr;unfold val yU at h;unfold tg;have h1:=λc=>hA.tags q.toNat (c:q.toNat<A.n);have h2:=λc=>hA.tags r.toNat (c:r.toNat<A.n)
  by_cases c1:q<0<;>by_cases c2:r<0<;>simp only[c1,c2,if_true,if_false]at h⊢
  have:=h2 J;omega;have:=h1 J;omega;have:=h1 J;have:=h2 J;omega
 coarse q r hq hr h:=by
  have:=h [];simp only[go]at this;unfold tg at this;unfold val yU
  by_cases c1:q<0<;>by_cases c2:r<0<;>simp only[c1,c2,if_true,if_false]at this⊢ <;>omega
theorem DN(hA:A.Ok){now:Nat->Nat}(h:Way A now):Way A (next A now) where
 tags q r hq hr e:=h.tags q r hq hr (DL hq.2 e)
 coarse q r hq hr e:=(IW hq.2).2 (XI.2 ⟨h.coarse q r hq hr e,λb hb=>h.coarse _ _ (G9 hA hq hb) (G9 hA hr hb) (TK e b hb)⟩)
structure DO(A:uA)(bl:Nat->Nat):Prop where
 le:∀i,i<A.n->bl i<=A.n
 tags:∀q r,St A q->St A r->val bl q=val bl r->tg A q=tg A r
 step:∀q r,St A q->St A r->val bl q=val bl r->∀b,b<256->val bl (dt A q b)=val bl (dt A r b)
 coarse:∀q r,St A q->St A r->same A q r->val bl q=val bl r
theorem OR(hA:A.Ok){n:Nat}{now:Nat->Nat}(hr:RA A n now)(hw:Way A now)(hc:(pt A now).length=n):DO A (next A now) where
 le i hi:=by
  have:=qt (A:=A) (now:=now) (q:=(i:Int)) J;have h2:=AB (A:=A) now;unfold val at this;rw[if_neg J,dq]at this;omega
 tags:=(DN hA hw).tags
 coarse:=(DN hA hw).coarse
 step q r hq GI e b hb:=(xS hr).2 hc _ _ (G9 hA hq hb) (G9 hA GI hb) ((XI.1 ((IW hq.2).1 e)).2 b hb)
theorem XN(hA:A.Ok):∀(f n:Nat) (now:Nat->Nat),(n=0\/RA A n now)->n<=A.n+1->A.n+2<=f+n->Way A now->DO A (G8 A f n now)
 |0,n,now,_,h1,h2,_=>by omega
 | f +1,n,now,hr,h1,h2,hw=>by
  unfold G8;have hp:=Rz (A:=A) now;split
  ·rename_i hc
   rcases hr with rfl|hr
   omega;exact OR hA hr hw hc
  rename_i hc
  refine XN hA f _ _ (.inr ⟨now,rfl,rfl⟩) (AB now) ?_ (DN hA hw);rcases hr with rfl|hr
  omega;have:=(xS hr).1;omega
theorem TO(hA:A.Ok):DO A (dO A):=XN hA _ _ _ (.inl I) (bH _) J (ahn hA)
theorem DO.same(hA:A.Ok){bl:Nat->Nat}(h:DO A bl){q r:Int}(hq:St A q)(hr:St A r):val bl q=val bl r↔same A q r:=by
 refine⟨λe s=>?_,h.coarse q r hq hr⟩
 induction s generalizing q r with
 |nil=>exact h.tags q r hq hr e
 |cons b s ih=>exact ih (G9 hA hq b.toNat_lt) (G9 hA hr b.toNat_lt) (h.step q r hq hr e _ b.toNat_lt)
end
end cT
namespace cI
open Go.RowKit cU dS cT
def kw{κ:Type}[DecidableEq κ](D:List κ)(x:κ):Option Value:=if x∈D then aj (av az (idx D x:Int))else ak
theorem G_{κ:Type}[DecidableEq κ]{D:List κ}{x:κ}(hn:x∉D):(λy=>if y=x then aj (av az (D.length:Int))else kw D y)=kw (D++[x]):=by
 funext y
 unfold kw
 by_cases c:y=x
 ·subst c
  rw[if_pos I,if_pos (by simp)];have:=rp (D:=D) (k:=y);unfold more at this;rw[if_neg hn,if_neg hn]at this;rw[this]
 rw[if_neg c]
 by_cases c2:y∈D
 rw[if_pos c2,if_pos (xM _ c2),qq c2];rw[if_neg c2,if_neg (by simp[c,c2])]
section
variable{P:Program}{k:TypeId}{κ:Type}{K:yN P k κ}
variable{W:bO}{fr:Fr}{L:List cH}{Q:Exit->Act->World->Prop}{ops:Array Oper}{rest:List Oper}{n d:Nat}{dst:Option Tmp}{ty:TypeId}{pos:String}{after:Array Edge}{guard:Option (Nat×Bool)}{i g c:Nat}{t e:TypeId}{D:List κ}{x:κ}{z:Value}{xm xk xv:Operand}[DecidableEq κ]
theorem uC(ht:P.underlying t=aj (.map k e))(hz:∀w,(zeroValue e).run P w= .ok z w)(hi:L[i]?=aj (fe K g (kw D) c))(hm:ev fr xm=aj (.map (aj g)))(hk:ev fr xk=aj (K.kv x))(hx:K.ok x)(hn:x∈D):RR P n W ⟨dst,.lookup t xm xk aD,ty,pos,after,guard⟩ fr L (.tuple #[av az (idx D x:Int),.bool aD]):=by
 have:=oJ (n:=n) (W:=W) (dst:=dst) (ty:=ty) (pos:=pos) (after:=after) (guard:=guard) K ht hz hi hm hk hx;rw[show kw D x=aj (av az (idx D x:Int))from if_pos hn]at this;exact this
theorem uD(ht:P.underlying t=aj (.map k e))(hz:∀w,(zeroValue e).run P w= .ok z w)(hi:L[i]?=aj (fe K g (kw D) c))(hm:ev fr xm=aj (.map (aj g)))(hk:ev fr xk=aj (K.kv x))(hx:K.ok x)(hn:x∉D):RR P n W ⟨dst,.lookup t xm xk aD,ty,pos,after,guard⟩ fr L (.tuple #[z,.bool aE]):=by
 have:=oJ (n:=n) (W:=W) (dst:=dst) (ty:=ty) (pos:=pos) (after:=after) (guard:=guard) K ht hz hi hm hk hx;rw[show kw D x=ak from if_neg hn]at this;exact this
theorem AC(hn:dv d n=aD)(h:∀g,TL P n W ops Q rest ((d,.map (aj g))::fr) (L++[fe K g (kw []) 0])):
 TL P n W ops Q (⟨aj d,.makeMap t ak,ty,pos,after,ak⟩::rest) fr L:=by
 refine xI K hn λg=>?_;have e:(λ(_:κ)=>(none:Option Value))=kw []:=by funext y;unfold kw;rw[if_neg (by simp)]
 rw[e];exact h g
theorem AD(ht:P.underlying t=aj (.map k e))(hi:L[i]?=aj (fe K g (kw D) D.length))(hm:ev fr xm=aj (.map (aj g)))(hk:ev fr xk=aj (K.kv x))(hv:ev fr xv=aj (av az (D.length:Int)))(hx:K.ok x)(hn:x∉D)(hc:D.length<=1152921504606846976)
 (h:TL P n W ops Q rest fr (L.set i (fe K g (kw (D++[x])) (D++[x]).length))):
 TL P n W ops Q (⟨ak,.mapUpdate t xm xk xv,ty,pos,after,ak⟩::rest) fr L:=by
 refine l_ K ht hi hm hk hv hx hc ?_;rw[G_ hn];rw[show kw D x=ak from if_neg hn];rw[show(D++[x]).length=D.length+1 by simp]at h;exact h
end
end cI
namespace cI
open Go.RowKit cU dS
def ji(D:Nat->Prop)(f:Nat->cH):cH where
 BZ:=ak
 more:=λk=>∃i,D i/\(f i).ff k
 holds:=λw=>(∀i,D i->(f i).holds w)/\∀i j,D i->D j->i≠j->∀k,(f i).ff k->¬(f j).ff k
 lt:=λw h k hk=>by
  rcases hk with hk|⟨i,hi,hk⟩
  cases hk
  exact(f i).lt w (h.1 i hi) k hk
 stay:=λw w' h hs hb=>⟨λi hi=>(f i).stay w w' (h.1 i hi) hs λk hk=>hb k (.inr ⟨i,hi,hk⟩),h.2⟩
theorem AE{D D':Nat->Prop}{f f':Nat->cH}(h1:∀k,D' k->D k)(h2:∀k,D' k->f' k=f k)(w:World)(h:(ji D f).holds w):(ji D' f').holds w:=
 ⟨λi hi=>by rw[h2 i hi];exact h.1 i (h1 i hi),λi j hi hj re=>by rw[h2 i hi,h2 j hj];exact h.2 i j (h1 i hi) (h1 j hj) re⟩
theorem DP{D D':Nat->Prop}{f f':Nat->cH}(h1:∀k,D' k->D k)(h2:∀k,D' k->f' k=f k)(k:Nat)(h:(ji D' f').ff k):(ji D f).ff k:=by
 rcases h with h|⟨i,hi,hk⟩
 cases h
 exact .inr ⟨i,h1 i hi,by simp_all⟩
def TP(f:Nat->cH)(i:Nat)(o:cH):Nat->cH:=λk=>if k=i then o else f k
theorem AF{f:Nat->cH}{i j:Nat}{o:cH}(h:j≠i):TP f i o j=f j:=by simp_all[TP]
theorem AG{f:Nat->cH}{i:Nat}{o:cH}:TP f i o i=o:=by simp[TP]
theorem aa0{D:Nat->Prop}{f:Nat->cH}{i:Nat}{o:cH}{w:World}(hi:¬D i)(h:(ji D f).holds w)(ho:o.holds w)(ha:∀k,(ji D f).ff k->¬o.ff k):(ji (λk=>D k\/k=i) (TP f i o)).holds w:=by
 have hf:∀j,D j->TP f i o j=f j:=λj hj=>AF λe=>hi (by simp_all);have hg:TP f i o i=o:=AG;refine⟨λj hj=>?_,λj k hj hk hjk q hq Da=>?_⟩
 ·rcases hj with hj|rfl
  rw[hf j hj];exact h.1 j hj;rw[hg];exact ho
 rcases hj with hj|rfl<;>rcases hk with hk|rfl
 rw[hf j hj]at hq;rw[hf k hk]at Da;exact h.2 j k hj hk hjk q hq Da;rw[hf j hj]at hq;rw[hg]at Da;exact ha q (.inr ⟨j,hj,hq⟩) Da;rw[hg]at hq;rw[hf k hk]at Da;exact ha q (.inr ⟨k,hk,Da⟩) hq;exact hjk I
theorem XO{D:Nat->Prop}{f:Nat->cH}{i:Nat}{o:cH}(hi:¬D i)(k:Nat)(h:(ji (λk=>D k\/k=i) (TP f i o)).ff k):(ji D f).ff k\/o.ff k:=by
 rcases h with h|⟨j,hj,hk⟩
 cases h
 rcases hj with hj|rfl
 exact .inl (.inr ⟨j,hj,by grind[AF]⟩);exact .inr (by rw[AG]at hk;exact hk)
section
variable{P:Program}{n:Nat}{W:bO}{fr:Fr}{L:List cH}{Q:Exit->Act->World->Prop}{ops:Array Oper}{rest:List Oper}{d:Nat}
theorem Mem.split{w:World}{q:Nat}{o:cH}(o1 o2:cH)(h:Mem W L w)(hq:L[q]?=aj o)(h1:∀w,o.holds w->o1.holds w)(h2:∀w,o.holds w->o2.holds w)(f1:∀k,o1.ff k->o.ff k)(f2:∀k,o2.ff k->o.ff k)(ha:∀w,o.holds w->∀k,o1.ff k->¬o2.ff k):Mem W (L.set q o1++[o2]) w:=by
 have hr:=h.Rt o1 hq h1 f1;have hoq:=h.owns.all q o hq;have hlen:q<L.length:=(cX.1 hq).1;refine⟨h.low,eH.both hr.owns (eH.one (h2 w hoq.1) λk hk=>hoq.2 k (f2 k hk)) λi j a b hi hj k hk mT=>?_⟩
 match j,hj with
 |0,hj=>
  simp only[List.getElem?_cons_zero,df]at hj;subst hj
  by_cases e:q=i
  grind
  rw[List.getElem?_set_ne e]at hi;exact h.owns.apart i q a o (Ne.symm e) hi hq k hk (f2 k mT)
 |j+1,hj=>grind
theorem Mem.aa1{w:World}(o:cH)(i j:Nat)(js:List Nat){o1 o2:cH}{R:List cH}(h:Mem W L w)(hn:([i,j]++js).Nodup)(h1:L[i]?=aj o1)(h2:L[j]?=aj o2)(hR:R=js.filterMap λi=>L[i]?)(hf:∀k,o.ff k->o1.ff k\/o2.ff k)(hh:∀w,o1.holds w->o2.holds w->(∀k,o1.ff k->¬o2.ff k)->o.holds w):Mem W (R++[o]) w:=by
 have re:i≠j:=λe=>by simp_all
 have ha:=h.owns.apart i j o1 o2 re h1 h2;refine Mem.merge o (h.pick ([i,j]++js) hn ?_) hf (λa b=>hh w a b ha);rw[Ac,<-hR]
 congr 1
 rw[Ab (by exact h1),Ab (by exact h2)];rfl
theorem Mem.take{w:World}{q:Nat}{D:Nat->Prop}{f:Nat->cH}(i:Nat)(h:Mem W L w)(hq:L[q]?=aj (ji D f))(hi:D i):Mem W (L.set q (ji (λk=>D k/\k≠i) f)++[f i]) w:=
 h.split _ _ hq (λw h=>AE (λk h=>h.1) (λ_ _=>rfl) w h) (λw h=>h.1 i hi) (λk h=>DP (λk h=>h.1) (λ_ _=>rfl) k h) (λk h=> .inr ⟨i,hi,h⟩) λw h k hk mT=>by
  rcases hk with hk|⟨j,⟨hj,hne⟩,hk⟩
  cases hk
  exact h.2 j i hj hi hne k hk mT
theorem OS{c:Code}{q:Nat}{D:Nat->Prop}{f:Nat->cH}(i:Nat)(hq:L[q]?=aj (ji D f))(hi:D i)(h:T P n W c Q fr (L.set q (ji (λk=>D k/\k≠i) f)++[f i])):T P n W c Q fr L:=⟨λa w hr hm=>h.go a w hr (hm.take i hq hi)⟩
theorem RB{q:Nat}{D:Nat->Prop}{f:Nat->cH}(i:Nat)(hq:L[q]?=aj (ji D f))(hi:D i)(h:TL P n W ops Q rest fr (L.set q (ji (λk=>D k/\k≠i) f)++[f i])):TL P n W ops Q rest fr L:=⟨λa w hr hm=>h.go a w hr (hm.take i hq hi)⟩
theorem Mem.put{w:World}{D D':Nat->Prop}{f f':Nat->cH}{o:cH}{R:List cH}(x q j:Nat)(js:List Nat)(h:Mem W L w)(hn:([q,j]++js).Nodup)(hq:L[q]?=aj (ji D f))(hj:L[j]?=aj o)(hR:R=js.filterMap λi=>L[i]?)(hx:¬D x)(hD:∀k,D' k->D k\/k=x)(hf:∀k,D' k->f' k=TP f x o k):Mem W (R++[ji D' f']) w:=
 h.aa1 _ q j js hn hq hj hR (λk hk=>XO hx k (DP hD hf k hk)) λw h1 h2 h3=>AE hD hf w (aa0 hx h1 h2 h3)
theorem XP{D D':Nat->Prop}{f f':Nat->cH}{o:cH}{R:List cH}(x q j:Nat)(js:List Nat)(hn:([q,j]++js).Nodup)(hq:L[q]?=aj (ji D f))(hj:L[j]?=aj o)(hR:R=js.filterMap λi=>L[i]?)(hx:¬D x)(hD:∀k,D' k->D k\/k=x)(hf:∀k,D' k->f' k=TP f x o k)(h:TL P n W ops Q rest fr (R++[ji D' f'])):TL P n W ops Q rest fr L:=⟨λa w hr hm=>h.go a w hr (hm.put x q j js hn hq hj hR hx hD hf)⟩
theorem RC{e:Exit}{D D':Nat->Prop}{f f':Nat->cH}{o:cH}{R:List cH}(x q j:Nat)(js:List Nat)(hn:([q,j]++js).Nodup)(hq:L[q]?=aj (ji D f))(hj:L[j]?=aj o)(hR:R=js.filterMap λi=>L[i]?)(hx:¬D x)(hD:∀k,D' k->D k\/k=x)(hf:∀k,D' k->f' k=TP f x o k)(h:E n W e Q fr (R++[ji D' f'])):E n W e Q fr L:=⟨λa w hr hm=>h.go a w hr (hm.put x q j js hn hq hj hR hx hD hf)⟩
theorem aa2{q:Nat}{o:cH}{p:Addr}{v:Value}(hq:L[q]?=aj o)(h:∀w,o.holds w->w.cell? p=aj v):At W L p v:=λw hm=>h w (hm.get hq)
theorem yV{g off size cap m k:Nat}{e:TypeId}{xs:List Value}{v:Value}{w:World}(h:(a_ e size (ap (aj ⟨g,0,ak⟩) m cap) k xs).holds w)(hv:xs[off]?=aj v):w.cell? ⟨g,off,ak⟩=aj v:=by
 have h:w.ownsRow 0 e size (ap (aj ⟨g,0,ak⟩) m cap) k xs:=h;have:=h.cells (g:=g) I off v hv
 simp_all[eI]
def lY{α:Type}(len:Nat)(f:Nat->α):List α:=(eh len).map f
section
variable{α:Type}
theorem iw(len:Nat)(f:Nat->α):(lY len f).length=len:=by simp[lY]
theorem uE{len:Nat}(f:Nat->α){k:Nat}(h:k<len):(lY len f)[k]?=aj (f k):=by simp[lY,h]
theorem XQ{len:Nat}(f g:Nat->α)(k:Nat)(v:α)(h:∀i,i<len->g i=if i=k then v else f i):(lY len f).set k v=lY len g:=by
 apply nb;intro i;rw[Xl]
 by_cases hi:i<len
 ·rw[uE g hi,h i hi]
  by_cases e:k=i
  simp_all[iw];rw[if_neg e,if_neg (λe'=>e e'.symm),uE f hi]
 simp_all[iw]
theorem OT{len:Nat}{f g:Nat->α}(h:∀i,i<len->f i=g i):lY len f=lY len g:=by
 simp_all[lY]
theorem OU(val:α->Value)(a:α)(len:Nat):(lY len λ_=>a).map val=da len (val a):=by
 unfold lY;rw[Ar];apply nb;intro i
 by_cases h:i<len<;>simp[h]
def fq(e:TypeId)(val:α->Value)(g len:Nat)(f:Nat->α):cH:=a_ e 1 (ap (aj ⟨g,0,ak⟩) len len) len ((lY len f).map val)
theorem pu{e:TypeId}{val:α->Value}{g len:Nat}{f f':Nat->α}(h:∀i,i<len->f i=f' i):fq e val g len f=fq e val g len f':=by grind[fq,OT]
theorem fV{e:TypeId}{val:α->Value}{i g len k:Nat}{f:Nat->α}(hi:L[i]?=aj (fq e val g len f))(hk:k<len):At W L ⟨g,0+k,ak⟩ (val (f k)):=ki hi (by rw[cV,eS,uE f hk];rfl)
theorem AH{e:TypeId}{val:α->Value}{g len k:Nat}{f:Nat->α}{w:World}(h:(fq e val g len f).holds w)(hk:k<len):w.cell? ⟨g,0+k,ak⟩=aj (val (f k)):=yV h (by rw[cV,eS,uE f hk];rfl)
theorem XR{e:TypeId}{val:α->Value}{g len k:Nat}{v:α}{f f':Nat->α}(h:∀i,i<len->f' i=if i=k then v else f i):a_ e 1 (ap (aj ⟨g,0,ak⟩) len len) len (((lY len f).map val).set k (val v))=fq e val g len f':=by
 unfold fq;rw[<-ph,XQ f f' k v h]
theorem iO{e:TypeId}{val:α->Value}{ty:TypeId}{pos:String}{after:Array Edge}{t:TypeId}{p x:Operand}{i g off len:Nat}{v:α}{f:Nat->α}(f':Nat->α)(hT:Ty P t aE 1)(hi:L[i]?=aj (fq e val g len f))(hp:ev fr p=aj (aJ (aj ⟨g,0+off,ak⟩)))(hx:ev fr x=aj (val v))(h1:(val v).cells=#[val v])(h2:(val v).oneCell'=aD)(hk:off<len)(hf:∀i,i<len->f' i=if i=off then v else f i)
 (h:TL P n W ops Q rest fr (L.set i (fq e val g len f'))):TL P n W ops Q (⟨ak,.store t p x,ty,pos,after,ak⟩::rest) fr L:=
 l9 hT hi hp hx h1 I h2 (by simp_all[iw]) (by rw[cV,XR hf];exact h)
theorem pv{t e:TypeId}{x y:Operand}{bytes m:Nat}{k k':IntKind}{ty:TypeId}{pos:String}{after:Array Edge}(val:α->Value)(z:α)[rf P t e 1 bytes][bT P e #[val z]](hx:ev fr x=aj (.int k (m:Int)))(hy:ev fr y=aj (.int k' (m:Int)))(hb:bytes*m<=281474976710656)(ra:m<=9223372036854775807)(hn:dv d n=aD)
 (h:∀g,TL P n W ops Q rest ((d,ap (aj ⟨g,0,ak⟩) m m)::fr) (L++[fq e val g m λ_=>z])):TL P n W ops Q (⟨aj d,.makeSlice t x y,ty,pos,after,ak⟩::rest) fr L:=
 OD hx hy hb ra hn λg=>by
  simp_all[fq,OU]
end
end
end cI
namespace cI
open Go.RowKit cU dS aT
def eA(x:dy):List Value:=[av az x.1,av az x.2]
def XS(x:dy):Prop:=cU.d_ x.1/\cU.d_ x.2
theorem aa3(l:List dy):∀u∈l.flatMap eA,u.oneCell'=true:=by
 intro u hu;obtain⟨f,_,h⟩:=Au.1 hu;simp only[eA,dA,fv,or_false]at h;rcases h with rfl|rfl<;>rfl
theorem XT(f f':dy)(w:World):(Op.equalIn 10000 156 (aQ (eA f).toArray) (aQ (eA f').toArray)).run aB w= .ok (decide (f=f')) w:=by
 obtain⟨k,q⟩:=f;obtain⟨k',q'⟩:=f';unfold eA
 go_simp
 by_cases e1:k=k'<;>by_cases e2:q=q'<;>simp[e1,e2]
def aa4:wL dy:=yM eA 2 (λ_=>rfl) XS
def om:wL aT.Prod:=W8 fG (bL aa4)
def dJ(t n:Int)(vp:Value):Value:=aQ #[av az t,av az n,vp]
def kj(F:Nat->Prop)(w:World)(v:Value)(g:eb):Prop:=∃vp,v=dJ g.aR g.bC vp/\jW om F w vp g.aF/\cU.d_ g.aR/\cU.d_ g.bC
theorem kj.stay{F:Nat->Prop}{w w':World}{v:Value}{g:eb}(h:kj F w v g)(hk:∀k,F k->w'.heap[k]?=w.heap[k]?):kj F w' v g:=
 let ⟨vp,h1,h2,h3⟩:=h;⟨vp,h1,h2.stay hk,h3⟩
theorem jW.gr{α:Type}{s:wL α}{w w':World}{v:Value}{l:List α}(h:jW s (λk=>k<w.heap.size) w v l)(hg:Gr w w'):jW s (λk=>k<w'.heap.size) w' v l:=
 (h.stay λk hk=>hg.block k hk).mono λ_ hk=>jp hk hg.size
theorem kj.gr{w w':World}{v:Value}{g:eb}(h:kj (λk=>k<w.heap.size) w v g)(hg:Gr w w'):kj (λk=>k<w'.heap.size) w' v g:=
 let ⟨vp,h1,h2,h3⟩:=h;⟨vp,h1,h2.gr hg,h3⟩
theorem lA{F:Nat->Prop}{w:World}{b off:Nat}{l:List aT.Prod}(h:∀i (h:i<l.length),∃cs,om.is F w cs l[i]/\Rd w b (off+i*om.c) cs){k:Nat}(hk:k<l.length):
 ∃base cap,Rd w b (off+k*2) [av az l[k].1,.slice base l[k].2.length cap]/\cU.d_ l[k].1/\jW aa4 F w (.slice base l[k].2.length cap) l[k].2:=by
 obtain⟨cs,⟨c1,c2,rfl,⟨rfl,lq⟩,⟨vb,rfl,zU⟩⟩,hr⟩:=h k hk;have aho:=zU;obtain⟨base,cap,rfl,_⟩:=aho;exact⟨base,cap,hr,lq,zU⟩
end cI
namespace cI
open Go.RowKit cU dS aT
theorem nL(a:dy):(eA a).length=2:=rfl
theorem wM(v:Value)(l:List dy)(w:World)(hs:Sl w v l.length (l.flatMap eA))(pw:FuncId)(first cp:Array Value)(p:dy->Bool)(FK:Enters aB pw)
 (hp:∀a∈l,∀w',Gr w w'->Calls aB pw (first++#[(aQ (eA a).toArray)]++cp) w' (cB (ret (.bool (p a))) w')):
 Calls aB 109 #[v,.func (.func pw) first cp] w (cB (ret (av az (ri p l))) w):=by
 obtain⟨base,cap,rfl,ly,kl,eL⟩:=hs;unfold maxLen at kl;refine enter (args:=[ap base l.length cap,.func (.func pw) first cp]) (n:=19) Tryz.func109 I I I ?_
 try refine GA ?_
 refine ea (ι:=Nat) (λk=>k<=l.length/\∀j (hj:j<l.length),j<k->p l[j]=aE) (λk=>[(0,ap base l.length cap),(1,.func (.func pw) first cp),(7,av az l.length),(8,av az (k:Int))]) (λ_=>[]) (λk=>l.length-k) 0 ⟨by omega,λj hj h=>by omega⟩ ?_;rintro k ⟨h1,h2⟩
 by_cases c2:k<l.length
 ·obtain⟨b,off,rfl,hr⟩:=eL J
  have du:=gO (L:=([]:List cH)) nL hr c2;have gL:=hp l[k] (cD c2)
  by_cases c3:p l[k]=aD
  ·rw[rj c2 c3 h2]
   rw[c3]at gL;clear hp h2 eL
   repeat(first|refine GA ?_|refine gV (aX bM.eq aK.ty I I c2) ?_|refine gV (a8 aK.ty I I du) ?_)
   refine aV (B3 FK I I) (λw hm=>gL w hm.below) I I I ?_;intro _ _
   try refine GA ?_
   exact eM
  have NM:p l[k]=false:=by simpa using c3
  rw[NM]at gL;clear hp eL c3
  repeat(first|refine GA ?_|refine gV (aX bM.eq aK.ty I I c2) ?_|refine gV (a8 aK.ty I I du) ?_)
  refine aV (B3 FK I I) (λw hm=>gL w hm.below) I I I ?_;intro _ _
  try refine GA ?_
  exact bY (k+1) ⟨by omega,λj hj h=>if e:j<k then h2 j hj e else(by obtain rfl:j=k:=J;exact NM)⟩ (by show l.length-(k+1)<l.length-k;omega)
 ·rw[rl λj hj=>h2 j hj J]
  clear hp h2 eL
  try refine GA ?_
  exact eM
theorem sy(v:Value)(l:List dy)(w:World)(hs:Sl w v l.length (l.flatMap eA))(pw:FuncId)(first cp:Array Value)(p:dy->Bool)(FK:Enters aB pw)
 (hp:∀a∈l,∀w',Gr w w'->Calls aB pw (first++#[(aQ (eA a).toArray)]++cp) w' (cB (ret (.bool (p a))) w')):
 Calls aB 74 #[v,.func (.func pw) first cp] w (cB (ret (.bool (l.any p))) w):=by
 refine enter (args:=[v,.func (.func pw) first cp]) (n:=9) Tryz.func74 I I I ?_;have hh:=λw' (hg:Gr w w')=>wM v l w' (hs.gr hg) pw first cp p FK λa ha Cr yW=>hp a ha Cr (hg.trans yW);have hr:=o_ p l;rw[<-uh p l];generalize ri p l=r at*
 try refine GA ?_
 refine aV (fO aI.en I I I) (λw hm=>hh _ hm.below) I I I ?_;intro _ _
 repeat(first|refine GC ?_|refine gV (eU I I I) ?_|refine GB ?_)
 exact eM
end cI
namespace cI
open Go.RowKit cU dS aT
theorem Ln(t n:Int)(vp:Value)(x:dy)(w:World):Calls aB 76 #[dJ t n vp,aQ (eA x).toArray] w (cB (ret (.bool (right t n x))) w):=by
 obtain⟨k,q⟩:=x;refine enter (args:=[dJ t n vp,aQ (eA (k,q)).toArray]) (n:=31) Tryz.func76 I I I ?_;refine cC (bz (bR I I I λg0=>bR I I I λg1=>?_))
 repeat' (first
  |refine QV QP ?_
  |refine QZ ?_
  |refine qcT I ?_
  |refine qcF I ?_
  |refine qs I I I I I I ?_
  |(((try refine qg I I I ?_);first|refine QV QP ?_|refine QV (aC aK.ty I (aH (i:=0) I I)) ?_|refine QV (aC aK.ty I (aH (i:=1) I I)) ?_|refine QV QA ?_|refine QV QhT ?_|refine QV QhF ?_|refine QV QeT ?_|refine QV QeF ?_|refine QV QlT ?_|refine QV QlF ?_))
  |refine oZ (dQ I I I) I I I I I (λh=>?_) (λh=>?_)
  |refine tY (eU I I I) I I I (λh=>?_) (λh=>?_)
  |refine tY (dg I I I) I I I (λh=>?_) (λh=>?_)
  |((fail_if_success (refine Ix I ?_));(fail_if_success (refine Iy I ?_));refine Rh I (λh=>?_) (λh=>?_))
  |((fail_if_success (refine Ol I I I ?_));(fail_if_success (refine Om I I I ?_));refine Ai I I I (λh=>?_) (λh=>?_)))
 all_goals (refine dD I I ?_;congr 1;unfold right;dsimp only at*;repeat (first|rw[if_pos J]|rw[if_neg J]|rw[decide_eq_true (by assumption)]|rw[decide_eq_false (by assumption)]);try rfl)
theorem IY(t n:Int)(vp:Value)(x:dy)(g:Nat)(w:World)(hg:w.heap[g]?=aj (.cells (dJ t n vp).cells 34 (0,0))):
 Calls aB 75 #[aQ (eA x).toArray,aJ (aj ⟨g,0,ak⟩)] w (cB (ret (.bool (!right t n x))) w):=by
 have hcell:∀(L:List cH) (j:Nat) (v:Value),([av az t,av az n,vp]:List Value)[j]?=aj v->At w L ⟨g,0+j,ak⟩ v:=λL j v hj=>kh (by
  rw[cell_of_row w g (0+j) _ _ _ hg,cV];show(#[av az t,av az n,vp]:Array Value)[j]?=aj v
  simpa using hj)
 have hr:=Ln t n vp x;refine enter (args:=[aQ (eA x).toArray,aJ (aj ⟨g,0,ak⟩)]) (n:=8) Tryz.func75 I I I ?_;refine cC (bz (bR I I I λg0=>?_))
 repeat(first|refine GA ?_|refine gV (a8 aK.ty I I (hcell _)) ?_|refine gV (aO (i:=0) aK.ty I I I) ?_)
 refine aV (fO aI.en I I I) (λw hm=>hr w) I I I ?_;intro _ _
 try refine GA ?_
 exact eM
theorem Lo{t n:Int}{l:List aT.Prod}{k:Nat}(h:k<l.length)(h0:yR t n l[k]=0):pq t n (l.drop k)=pq t n (l.drop (k+1)):=by
 rw[eN h,pq,if_neg (by simp[h0])]
theorem Lp{t n:Int}{l:List aT.Prod}{k:Nat}(h:k<l.length)(h0:yR t n l[k]≠0):pq t n (l.drop k)=yR t n l[k]:=by
 rw[eN h,pq,if_pos h0]
theorem jJ(v:Value)(g:eb)(w:World)(h:kj (λk=>k<w.heap.size) w v g):
 Calls aB 41 #[v] w (cB (ret (av az (b_ g))) w):=by
 obtain⟨vp,rfl,h1,_⟩:=h;obtain⟨bp,cp,rfl,IZ,FL,oo⟩:=h1;unfold maxLen at FL;obtain⟨t,n,aF⟩:=g;dsimp only at*;refine enter (args:=[dJ t n (ap bp aF.length cp)]) (n:=57) Tryz.func41 I I I ?_;refine cC (bz (bR I I I λg0=>?_));unfold b_;dsimp only
 by_cases c1:t<0
 ·rw[if_pos c1]
  repeat(first|refine GA ?_|refine gV (aC aK.ty I (aH (i:=0) I I)) ?_)
  exact eM
 rw[if_neg c1]
 by_cases c2:30<t
 ·rw[if_pos c2]
  repeat(first|refine GA ?_|refine gV (aC aK.ty I (aH (i:=0) I I)) ?_)
  exact eM
 rw[if_neg c2]
 by_cases c3:n<1
 ·rw[if_pos c3]
  repeat(first|refine GA ?_|refine gV (aC aK.ty I (aH (i:=0) I I)) ?_)
  exact eM
 rw[if_neg c3]
 by_cases c4:20<n
 ·rw[if_pos c4]
  repeat(first|refine GA ?_|refine gV (aC aK.ty I (aH (i:=0) I I)) ?_)
  exact eM
 rw[if_neg c4]
 by_cases c5:40<aF.length
 ·rw[if_pos c5]
  repeat(first|refine GA ?_|refine gV (aC aK.ty I (aH (i:=0) I I)) ?_)
  exact eM
 rw[if_neg c5]
 repeat(first|refine GA ?_|refine gV (aC aK.ty I (aH (i:=0) I I)) ?_)
 refine ea (ι:=Nat) (λk=>k<=aF.length/\pq t n aF=pq t n (aF.drop k)) (λk=>[(1,aJ (aj ⟨g0,0,ak⟩)),(30,ap bp aF.length cp),(31,av az aF.length),(32,av az (k:Int))]) (λ_=>[aP g0 (dJ t n (ap bp aF.length cp)).cells 34]) (λk=>aF.length-k) 0 ⟨bH _,rfl⟩ ?_;rintro k ⟨i1,i2⟩;rw[i2];clear i2
 by_cases c6:k<aF.length
 ·obtain⟨b,off,rfl,_,hr⟩:=oo J
  obtain⟨bb,cb,q1,q2,q3⟩:=lA hr c6;have pj:=Lp (t:=t) (n:=n) c6;have DQ:=Lo (t:=t) (n:=n) c6;have du:∀(L:List cH) (j:Nat) (v:Value),([av az aF[k].1,.slice bb aF[k].2.length cb]:List Value)[j]?=aj v->At w L ⟨b,off+k*2+j,ak⟩ v:=λL j v hj=>iI q1 hj;clear hr oo q1;generalize aF[k]=p at*;obtain⟨hd,body⟩:=p;have KJ:=λw' (hg:Gr w w') (hb:w'.heap[g0]?=aj (.cells (dJ t n (ap (aj ⟨b,off,ak⟩) aF.length cp)).cells 34 (0,0)))=>sy (ap bb body.length cb) body w' ((q3.flat aiT).gr hg) 75 #[] #[aJ (aj ⟨g0,0,ak⟩)] (λx=>!right t n x) aI.en (λa _ Cr yW=>IY t n _ a g0 Cr (by rw[yW.block g0 (jm.1 hb).1];exact hb));dsimp only at*
  repeat(first|refine GA ?_|refine gV (aX bM.eq aK.ty I I c6) ?_|refine gV (a8 aK.ty I I (du _)) ?_)
  clear du;refine aY I λg4=>?_;refine gC 1 ?_;refine zL ?_;unfold yR at pj DQ;dsimp only at pj DQ
  by_cases c7:8<body.length
  ·rw[if_pos c7]at pj
   rw[pj aiT]
   repeat(first|refine GA ?_|refine gV (aC aK.ty I (aH (i:=1) I I)) ?_)
   exact eM
  rw[if_neg c7]at pj DQ
  by_cases c8:hd<0
  ·rw[if_pos c8]at pj
   rw[pj aiT]
   repeat(first|refine GA ?_|refine gV (aC aK.ty I (aH (i:=1) I I)) ?_)
   exact eM
  rw[if_neg c8]at pj DQ
  by_cases c9:n<=hd
  ·rw[if_pos c9]at pj
   rw[pj aiT]
   repeat(first|refine GA ?_|refine gV (aC aK.ty I (aH (i:=1) I I)) ?_|refine gV (aC aK.ty I (aH (i:=0) I I)) ?_)
   exact eM
  rw[if_neg c9]at pj DQ
  by_cases c10:body.any (λx=>!right t n x)=aD
  ·rw[if_pos c10]at pj
   rw[pj aiT];rw[c10]at KJ
   repeat(first|refine GA ?_|refine gV (aC aK.ty I (aH (i:=1) I I)) ?_|refine gV (aC aK.ty I (aH (i:=0) I I)) ?_|refine gV (wu I I) ?_)
   refine mv (fO aI.en I I I) (λw hm=>KJ _ hm.below (hm.get (i:=0) I)) I I I I I ?_;intro _ _
   try refine GA ?_
   exact eM
  have ahp:body.any (λx=>!right t n x)=false:=by simpa using c10
  rw[if_neg c10]at DQ;rw[ahp]at KJ
  repeat(first|refine GA ?_|refine gV (aC aK.ty I (aH (i:=1) I I)) ?_|refine gV (aC aK.ty I (aH (i:=0) I I)) ?_|refine gV (wu I I) ?_)
  refine mv (fO aI.en I I I) (λw hm=>KJ _ hm.below (hm.get (i:=0) I)) I I I I I ?_;intro _ _
  try refine GA ?_
  refine dj [0] ?_;exact bY (k+1) ⟨by omega,DQ I⟩ (by show aF.length-(k+1)<aF.length-k;omega)
 ·rw[List.drop_of_length_le J]
  try refine GA ?_
  exact eM
end cI
namespace cI
open Go.RowKit cU dS aT
theorem OV(h:Int)(b:Option Addr)(m c:Nat)(w:World):(dh 132 #[(0,av az h),(1,ap b m c)]).run aB w= .ok (aQ #[av az h,ap b m c]) w:=by
 go_simp
def n_(F:Nat->Prop)(vp:Value)(l:List aT.Prod):cH:=FU (bL om) F [vp] l
theorem Bq{w:World}{hd:Int}{vb:Value}{body:List dy}(lq:cU.d_ hd)(hp:∀x∈body,XS x)(h:(a_ 156 2 vb body.length (body.flatMap eA)).holds w):om.is (λk=>vb.ownBlock=aj k) w [av az hd,vb] (hd,body):=
 ⟨[av az hd],[vb],rfl,⟨rfl,lq⟩,vb,rfl,jW.of_flat (Sl.dB h) hp (λ_ h=>h) (λa n cp hv=>by rw[hv];rfl)⟩
end cI
namespace dP
open aT
inductive Tree where
 |mk (prod tok:Int) (kids:List Tree)
def Tree.prod:Tree->Int| .mk p _ _=>p
def Tree.tok:Tree->Int| .mk _ t _=>t
def Tree.kids:Tree->List Tree| .mk _ _ k=>k
def dc(l:List aT.Prod)(p:Int):aT.Prod:=l.getD p.toNat (0,[])
mutual
def size:Tree->Nat
 | .mk _ _ kids=>ada kids+1
def ada:List Tree->Nat
 |[]=>0
 |k::r=>size k+ada r
end
mutual
def leaves:Tree->Nat
 | .mk p _ kids=>if p<0 then 1 else yX kids
def yX:List Tree->Nat
 |[]=>0
 |k::r=>leaves k+yX r
end
mutual
def G'(l:List aT.Prod):Tree->dy->Nat->Prop
 | .mk p k kids,x,v=>
  (x.1=1/\p= -1/\k=(v:Int)/\kids=[])\/(x.1≠1/\0<=p/\p<(l.length:Int)/\(dc l p).1=x.2/\k=0/\AI l kids (dc l p).2 v)
def AI(l:List aT.Prod):List Tree->List dy->Nat->Prop
 |[],[],_=>True
 |[],_::_,_=>False
 |_::_,[],_=>False
 |k::r,y::b,v=>G' l k y v/\AI l r b (v+leaves k)
end
inductive aeb where
 |ahead (p:Int)
 |behind (p:Int)
 |leaf (DR tok:Int)
mutual
def dI(l:List aT.Prod):Tree->List aeb
 | .mk p _ kids=> .ahead p::(Lr l kids (dc l p).2++[.behind p])
def Lr(l:List aT.Prod):List Tree->List dy->List aeb
 |[],_=>[]
 |_::_,[]=>[]
 | .mk p k ks::r,y::b=>(if p<0 then [.leaf y.2 k]else dI l (.mk p k ks))++Lr l r b
end
end dP
namespace dP
open aT
def OW:aeb->Option Int
 | .leaf t _=>aj t
 |_=>ak
def AJ(l:List aT.Prod)(t:Tree):List Int:=(dI l t).filterMap OW
def xU(l:List aT.Prod)(ks:List Tree)(b:List dy):List Int:=(Lr l ks b).filterMap OW
theorem TQ(l:List aT.Prod)(p k:Int)(kids:List Tree):AJ l (.mk p k kids)=xU l kids (dc l p).2:=by
 unfold AJ xU;rw[dI,List.filterMap_cons_none I,Ac];simp[OW]
theorem Lt(l:List aT.Prod)(p k:Int)(ks r:List Tree)(y:dy)(b:List dy):xU l (.mk p k ks::r) (y::b)=(if p<0 then [y.2]else AJ l (.mk p k ks))++xU l r b:=by
 unfold xU AJ;rw[Lr,Ac]
 congr 1
 split<;>rfl
mutual
theorem Ha{l:List aT.Prod}:∀{t:Tree} {x:dy} {u:Nat},G' l t x u->0<=t.prod->(AJ l t).length=leaves t
 | .mk p k kids,x,u,h,hp=>by
  rw[G']at h;have hp:0<=p:=hp;rw[TQ,leaves,if_neg J];rcases h with⟨_,h,_⟩|⟨_,_,_,_,_,h⟩
  omega;exact DS h
theorem DS{l:List aT.Prod}:∀{ks:List Tree} {b:List dy} {u:Nat},AI l ks b u->(xU l ks b).length=yX ks
 |[],[],_,_=>by rw[yX];simp[xU,Lr]
 | .mk p k kk::r,y::b,u,h=>by
  rw[AI]at h;rw[Lt,bI,DS h.2,yX]
  congr 1
  split;rw[leaves,if_pos (by assumption)];rfl;exact Ha h.1 (by show(0:Int)<=p;omega)
 |[],_::_,_,h=>by simp[AI]at h
 |_::_,[],_,h=>by simp[AI]at h
end
end dP
namespace fM
open aT
abbrev Span:=Int×Int×Int
abbrev uF:=Span->Nat
def DT(c:uF)(w:List Int)(x:dy)(a b:Nat):Nat:=if x.1=2 then c (x.2,(a:Int),(b:Int))else if b=a+1/\w[a]?=aj x.2 then 1 else 0
def eQ(f:Nat->Nat):Nat->Nat
 |0=>0
 |k+1=>eQ f k+f k
def mV(o:Nat->Nat->Nat)(f:Nat->Nat)(b:Nat):Nat:=min 2 (eQ (λj=>f j*o j b) (b+1))
def Lu(o:dy->Nat->Nat->Nat)(a:Nat):List dy->(Nat->Nat)->Nat->Nat
 |[],f=>f
 |x::r,f=>Lu o a r (mV (λi j=>o x (a+i) (a+j)) f)
def DU(b:Nat):Nat:=if b=0 then 1 else 0
def I0(o:dy->Nat->Nat->Nat)(l:List dy)(a b:Nat):Nat:=Lu o a l DU (b-a)
def TR(o:dy->Nat->Nat->Nat)(a b:Nat)(n:Nat):List aT.Prod->Nat
 |[]=>0
 |p::r=>(if p.1=(n:Int)then I0 o p.2 a b else 0)+TR o a b n r
def XU(o:dy->Nat->Nat->Nat)(l:List aT.Prod)(a b n:Nat):Nat:=min 2 (TR o a b n l)
def pt(len:Nat)(f:Nat->Nat):List Nat:=(eh len).map f
theorem oK(f:Nat->Nat):∀k,(∀j,j<k->f j=0)->eQ f k=0
 |0,_=>rfl
 |k+1,h=>by rw[eQ,oK f k λj hj=>h j J,h k J]
theorem XV(o:Nat->Nat->Nat)(f:Nat->Nat)(b:Nat):mV o f b<=2:=Xq ..
theorem XW(b:Nat):DU b<=2:=by unfold DU;split<;>omega
theorem aa5(o:dy->Nat->Nat->Nat)(l:List aT.Prod)(a b n:Nat):XU o l a b n<=2:=Xq ..
end fM
namespace fM
open aT
theorem AK{f f':Nat->Nat}:∀k,(∀j,j<k->f j<=f' j)->eQ f k<=eQ f' k
 |0,_=>bx _
 |k+1,h=>by
  rw[eQ,eQ];exact Nat.add_le_add (AK k λj hj=>h j J) (h k J)
def XX(n:Nat)(l:List aT.Prod):Prop:=∀p∈l,∀x∈p.2,x.1=2->0<=x.2/\x.2<(n:Int)
def XY(w:List Int)(l:List aT.Prod)(n:Nat)(S:uF):Prop:=∀k a b,k<n->a<=b->b<=w.length->XU (DT S w) l a b k<=S ((k:Int),(a:Int),(b:Int))
def aa6(w:List Int)(l:List aT.Prod)(n:Nat)(c:uF)(a b:Nat):Prop:=∀k,k<n->c ((k:Int),(a:Int),(b:Int))=XU (DT c w) l a b k
structure Lfp(w:List Int)(l:List aT.Prod)(n:Nat)(c:uF):Prop where
 le2:∀x,c x<=2
 fixed:∀a b,a<=b->b<=w.length->aa6 w l n c a b
 least:∀S,XY w l n S->∀k a b,k<n->a<=b->b<=w.length->c ((k:Int),(a:Int),(b:Int))<=S ((k:Int),(a:Int),(b:Int))
structure aa7(w:List Int)(l:List aT.Prod)(n:Nat)(D:Nat->Nat->Prop)(c:uF):Prop where
 le2:∀x,c x<=2
 fixed:∀a b,a<=b->b<=w.length->D a b->aa6 w l n c a b
 least:∀S,XY w l n S->∀k a b,k<n->a<=b->b<=w.length->c ((k:Int),(a:Int),(b:Int))<=S ((k:Int),(a:Int),(b:Int))
 zero:∀k a b,k<n->a<=b->b<=w.length->¬D a b->c ((k:Int),(a:Int),(b:Int))=0
structure afM(w:List Int)(l:List aT.Prod)(n:Nat)(D:Nat->Nat->Prop)(a b:Nat)(c:uF):Prop where
 le2:∀x,c x<=2
 fixed:∀i j,i<=j->j<=w.length->D i j->aa6 w l n c i j
 least:∀S,XY w l n S->∀k i j,k<n->i<=j->j<=w.length->c ((k:Int),(i:Int),(j:Int))<=S ((k:Int),(i:Int),(j:Int))
 zero:∀k i j,k<n->i<=j->j<=w.length->¬D i j->¬(i=a/\j=b)->c ((k:Int),(i:Int),(j:Int))=0
 grow:∀k,k<n->c ((k:Int),(a:Int),(b:Int))<=XU (DT c w) l a b k
section
variable{w:List Int}{l:List aT.Prod}{n:Nat}{D D':Nat->Nat->Prop}{a b:Nat}{c:uF}
theorem afM.done(h:afM w l n D a b c)(hf:aa6 w l n c a b)(hD:∀i j,i<=j->j<=w.length->(D' i j↔D i j\/(i=a/\j=b))):aa7 w l n D' c:=
 ⟨h.le2,λi j h1 h2 h3=>((hD i j h1 h2).1 h3).elim (h.fixed i j h1 h2) λ⟨e1,e2⟩=>by simp_all,h.least,λk i j hk h1 h2 h3=>by
  have:¬(D i j\/(i=a/\j=b)):=λh=>h3 ((hD i j h1 h2).2 h);exact h.zero k i j hk h1 h2 (λh=>this (.inl h)) λh=>this (.inr h)⟩
theorem aa7.same(h:aa7 w l n D c)(hD:∀i j,i<=j->j<=w.length->(D' i j↔D i j)):aa7 w l n D' c:=
 ⟨h.le2,λi j h1 h2 h3=>h.fixed i j h1 h2 ((hD i j h1 h2).1 h3),h.least,λk i j hk h1 h2 h3=>h.zero k i j hk h1 h2 λh=>h3 ((hD i j h1 h2).2 h)⟩
end
end fM
namespace fM
open aT
theorem Lfp.pre{w:List Int}{l:List aT.Prod}{n:Nat}{c:uF}(h:Lfp w l n c):XY w l n c:=λk a b hk h1 h2=>by rw[<-h.fixed a b h1 h2 k hk];exact bx _
end fM
namespace fM
open aT
theorem lZ{f g:Nat->Nat}:∀k,(∀j,j<k->f j=g j)->eQ f k=eQ g k
 |0,_=>rfl
 |k+1,h=>by rw[eQ,eQ,lZ k λj hj=>h j J,h k J]
theorem Lv(f g:Nat->Nat):∀k,eQ (λj=>f j+g j) k=eQ f k+eQ g k
 |0=>rfl
 |k+1=>by rw[eQ,eQ,eQ,Lv f g k];omega
theorem Lw(v:Nat)(f:Nat->Nat):∀k,eQ (λj=>v*f j) k=v*eQ f k
 |0=>rfl
 |k+1=>by rw[eQ,eQ,Lw v f k,Nat.mul_add]
theorem Hb(v:Nat)(f:Nat->Nat):∀k,eQ (λj=>f j*v) k=eQ f k*v
 |0=>by simp[eQ]
 |k+1=>by rw[eQ,eQ,Hb v f k,Nat.add_mul]
theorem Hc(f:Nat->Nat->Nat)(m:Nat):∀k,eQ (λi=>eQ (λj=>f i j) m) k=eQ (λj=>eQ (λi=>f i j) k) m
 |0=>by rw[eQ];exact(oK _ m λ_ _=>rfl).symm
 |k+1=>by rw[eQ,Hc f m k,<-Lv];rfl
theorem DV(f:Nat->Nat):∀k,eQ f (k+1)=f 0+eQ (λj=>f (j+1)) k
 |0=>by simp[eQ]
 |k+1=>by rw[eQ,DV f k,eQ];omega
theorem xV(f:Nat->Nat)(a:Nat):∀k,eQ f (a+k)=eQ f a+eQ (λj=>f (a+j)) k
 |0=>by simp[eQ]
 |k+1=>by rw[<-kZ,eQ,xV f a k,eQ];omega
theorem XZ(f:Nat->Nat){i k:Nat}(hi:i<k)(h:∀j,j<k->j≠i->f j=0):eQ f k=f i:=by
 induction k with
 |zero=>omega
 | succ k ih=>
  rw[eQ]
  by_cases e:i=k
  ·subst e
   rw[oK f i λj hj=>h j J J,cV]
  rw[ih J λj hj=>h j J,h k J (λe'=>e e'.symm),jC]
theorem X0(f:Nat->Nat->Nat)(d:Nat):eQ (λj=>eQ (λi=>f i j) (j+1)) (d+1)=eQ (λi=>eQ (λk=>f i (i+k)) (d-i+1)) (d+1):=by
 have h1:eQ (λj=>eQ (λi=>f i j) (j+1)) (d+1)=eQ (λj=>eQ (λi=>if i<=j then f i j else 0) (d+1)) (d+1):=by
  refine lZ _ λj hj=>?_;rw[show d+1=(j+1)+(d-j)by omega,xV (λi=>if i<=j then f i j else 0)];rw[oK (λq=>if j+1+q<=j then f (j+1+q) j else 0) _ λq _=>if_neg J,jC];exact lZ _ λi hi=>(if_pos J).symm
 rw[h1,Hc];refine lZ _ λi hi=>?_;rw[show d+1=i+(d-i+1)by omega,xV,oK _ i λj hj=>if_neg J,cV];exact lZ _ λk _=>if_pos J
def yY(o:dy->Nat->Nat->Nat):List dy->Nat->Nat->Nat
 |[],a,b=>if a=b then 1 else 0
 |x::r,a,b=>eQ (λi=>o x a (a+i)*yY o r (a+i) b) (b-a+1)
theorem RD(f g:Nat->Nat):∀k,(∀j,j<k->min 2 (f j)=min 2 (g j))->min 2 (eQ f k)=min 2 (eQ g k)
 |0,_=>rfl
 |k+1,h=>by
  have h1:=RD f g k λj hj=>h j J;have h2:=h k J;rw[eQ,eQ];omega
theorem aa8(u v:Nat):min 2 (min 2 u*v)=min 2 (u*v):=by
 by_cases h:u<=2
 ·have e:min 2 u=u:=by omega
  rw[e]
 have e:min 2 u=2:=by omega
 rw[e]
 by_cases hv:v=0
 subst hv;simp;have:2<=2*v:=by omega
 have h2:2*v<=u*v:=Nat.mul_le_mul_right v J;omega
theorem RE(o:dy->Nat->Nat->Nat)(a:Nat):∀(l:List dy) (f:Nat->Nat) (d:Nat),(∀j,f j<=2)->Lu o a l f d=min 2 (eQ (λi=>f i*yY o l (a+i) (a+d)) (d+1))
 | [],f,d,h=>by
  rw[Lu,XZ _ (show d<d+1 by omega) λj _ hj=>by rw[yY,if_neg J,Nat.mul_zero],yY,if_pos I,kH];have:=h d;omega
 | x ::r,f,d,h=>by
  rw[Lu,RE o a r _ d (XV _ _)];have h1:min 2 (eQ (λi=>mV (λi j=>o x (a+i) (a+j)) f i*yY o r (a+i) (a+d)) (d+1))=min 2 (eQ (λj=>eQ (λi=>f i*o x (a+i) (a+j)*yY o r (a+j) (a+d)) (j+1)) (d+1)):=RD _ _ _ λj _=>by
   rw[Hb];exact aa8 _ _
  rw[h1,X0 (λi j=>f i*o x (a+i) (a+j)*yY o r (a+j) (a+d))]
  congr 1
  refine lZ _ λi hi=>?_;rw[yY,<-Lw,show a+d-(a+i)=d-i by omega];refine lZ _ λk _=>?_;rw[Nat.mul_assoc,kZ]
theorem OX(o:dy->Nat->Nat->Nat)(l:List dy){a b:Nat}(h:a<=b):I0 o l a b=min 2 (yY o l a b):=by
 unfold I0;rw[RE o a l DU _ XW,DV];rw[oK (λj=>DU (j+1)*yY o l (a+(j+1)) (a+(b-a))) _ λj _=>by simp[DU]];rw[show a+(b-a)=b by omega];simp[DU]
end fM
namespace fM
open aT dP
def px(n:Nat)(l:List aT.Prod):Prop:=∀p∈l,0<=p.1/\p.1<(n:Int)/\∀x∈p.2,x.1=1\/(x.1=2/\0<=x.2/\x.2<(n:Int))
theorem TS{g:eb}{n:Nat}(h:b_ g=0)(hn:g.bC=n):px n g.aF:=λp hp=>by
 obtain⟨_,_,_,_,_,a6⟩:=cP h;obtain⟨b1,b2,b3,b4⟩:=a6 p hp;refine⟨b2,by omega,λx hx=>?_⟩;have:=b4 x hx;unfold right at this;split at this;exact .inl (by assumption);split at this;simp at this;exact .inr ⟨by assumption,by omega,by omega⟩;simp at this
theorem px.bC{n:Nat}{l:List aT.Prod}(h:px n l):XX n l:=λp hp x hx h2=>by
 rcases(h p hp).2.2 x hx with h|h
 omega;exact h.2
theorem xW{l:List aT.Prod}{p:Int}(h0:0<=p)(h:p<(l.length:Int)):dc l p∈l:=by
 unfold dc;rw[b9,bD J];exact cD _
def OY(l:List aT.Prod)(t:Tree)(x:dy):List Int:=if t.prod<0 then [x.2]else AJ l t
theorem OZ{l:List aT.Prod}{t:Tree}{x:dy}{u:Nat}(h:G' l t x u):(OY l t x).length=leaves t:=by
 unfold OY;split
 ·obtain⟨p,k,ks⟩:=t
  rw[leaves,if_pos (by assumption)];rfl
 exact Ha h J
section
end
end fM
namespace fM
open aT dP
def aec(o:dy->Nat->Nat->Nat)(y:dy)(r:List dy)(a b m:Nat):Bool:=decide (0<o y a m)&&decide (0<I0 o r m b)
section
variable{o:dy->Nat->Nat->Nat}{l:List aT.Prod}{x:dy}{a b:Nat}
theorem Ly{f:Nat->Nat}:∀{k:Nat},0<eQ f k->∃i,i<k/\0<f i
 |0,h=>by simp[eQ]at h
 | k+1,h=>by
  rw[eQ]at h
  by_cases c:0<f k
  exact⟨k,by omega,c⟩;obtain⟨i,h1,h2⟩:=Ly (f:=f) (k:=k) J;exact⟨i,by omega,h2⟩
theorem aa9{y:dy}{r:List dy}(DW:a<=b)(h:0<I0 o (y::r) a b):∃m,a<=m/\m<=b/\aec o y r a b m=true:=by
 rw[OX _ _ DW,yY]at h;obtain⟨i,h1,h2⟩:=Ly (f:=λi=>o y a (a+i)*yY o r (a+i) b) (k:=b-a+1) J;have h2:0<o y a (a+i)*yY o r (a+i) b:=h2;refine⟨a+i,by omega,by omega,?_⟩;unfold aec;rw[OX _ _ (by omega:a+i<=b)];rw[fc,decide_eq_true_iff,decide_eq_true_iff];exact⟨Nat.pos_of_mul_pos_right h2,by have:=Nat.pos_of_mul_pos_left h2;omega⟩
theorem Lz{n:Nat}:∀{l:List aT.Prod},0<TR o a b n l->∃k,k<l.length/\(dc l (k:Int)).1=(n:Int)/\0<I0 o (dc l (k:Int)).2 a b
 |[],h=>by simp[TR]at h
 | p ::r,h=>by
  rw[TR]at h
  by_cases c:p.1=(n:Int)/\0<I0 o p.2 a b
  exact⟨0,by simp,c.1,c.2⟩;have:0<TR o a b n r:=by
   by_cases c1:p.1=(n:Int)
   ·rw[if_pos c1]at h
    have:¬0<I0 o p.2 a b:=λh=>c ⟨c1,h⟩;omega
   rw[if_neg c1]at h;omega
  obtain⟨k,h1,h2,h3⟩:=Lz this;exact⟨k+1,by simpa using h1,h2,h3⟩
theorem xX{k:Nat}(h:k<l.length):dc l (k:Int)=l[k]:=by
 unfold dc;rw[dq,b9,bD h];rfl
end
section
end
end fM
namespace dL
open aT
def fP(l:List Bool)(i:Nat)(b:Bool):List Bool×Bool:=if b=aD/\l.getD i aE=aE then(l.set i aD,aD)else(l,aE)
def py(l:List Bool)(body:List dy)(aR:Bool):Bool:=body.all λx=>if x.1=1 then aR else if x.1=2 then l.getD x.2.toNat aE else aD
def n'(l:List Nat)(i:Nat)(b:Nat):List Nat×Bool:=(l.set i (l.getD i 0|||b),!decide ((l.getD i 0|||b)=l.getD i 0))
def mD(E:List Bool)(F:List Nat)(behind:Nat):List dy->Nat->Nat
 |[],out=>out|||behind
 |x::r,out=>if x.1=1 then out|||2^x.2.toNat else if E.getD x.2.toNat aE=aD then mD E F behind r (out|||F.getD x.2.toNat 0)else out|||F.getD x.2.toNat 0
def fU(E:List Bool)(F:List Nat)(body:List dy)(behind:Nat):Nat:=mD E F behind body 0
theorem nk(l:List Bool)(i:Nat)(b:Bool):(fP l i b).1.length=l.length:=by
 unfold fP;split<;>simp
theorem X1(l:List Nat)(i:Nat)(b:Nat):(n' l i b).1.length=l.length:=by
 simp[n']
structure FS where
 E:List Bool
 R:List Bool
 M:List Bool
 more:Bool
def Br(h:Nat)(x:dy)(R:List Bool)(more:Bool):List Bool×Bool:=if x.1=2 then((fP R x.2.toNat (R.getD h aE)).1,(fP R x.2.toNat (R.getD h aE)).2||more)else(R,more)
def nl(h:Nat):List dy->List Bool->Bool->List Bool×Bool
 |[],R,more=>(R,more)
 |x::r,R,more=>nl h r (Br h x R more).1 (Br h x R more).2
def pz(p:aT.Prod)(s:FS):FS:=
 let h:=p.1.toNat
 let a:=fP s.E h (py s.E p.2 aE)
 let b:=fP s.M h (py s.M p.2 aD)
 let c:=nl h p.2 s.R (b.2||(a.2||s.more))
 ⟨a.1,c.1,b.1,c.2⟩
def gD:List aT.Prod->FS->FS
 |[],s=>s
 |p::r,s=>gD r (pz p s)
theorem TT(h:Nat)(x:dy)(R:List Bool)(more:Bool):(Br h x R more).1.length=R.length:=by
 unfold Br;split;exact nk _ _ _;rfl
theorem DX(h:Nat):∀(body:List dy) (R:List Bool) (more:Bool),(nl h body R more).1.length=R.length
 |[],_,_=>rfl
 |x::r,R,more=>by rw[nl,DX h r,TT]
def pA(l:List Bool):Nat:=l.countP id
theorem LA{l:List Bool}{i:Nat}{b:Bool}(hi:i<l.length):pA (fP l i b).1=pA l+(if(fP l i b).2=aD then 1 else 0):=by
 unfold fP;split
 ·rename_i c
  have h0:l[i]=false:=by
   have:=c.2;rw[b9,bD hi]at this
   simpa using this
  unfold pA;rw[List.countP_set hi];simp[h0]
 simp
end dL
namespace dL
open aT
def O0{σ:Type}(step:σ->σ×Bool):Nat->σ->σ
 |0,s=>s
 |f+1,s=>if(step s).2=aD then O0 step f (step s).1 else(step s).1
structure DY{σ:Type}(step:σ->σ×Bool)(ok:σ->Prop)(μ:σ->Nat):Prop where
 keep:∀s,ok s->ok (step s).1
 dec:∀s,ok s->(step s).2=aD->μ (step s).1<μ s
def fix{σ:Type}(step:σ->σ×Bool)(μ:σ->Nat)(s:σ):σ:=O0 step (μ s+1) s
section
variable{σ:Type}{step:σ->σ×Bool}{ok:σ->Prop}{μ:σ->Nat}
theorem Hd(h:DY step ok μ):∀(f g:Nat) (s:σ),ok s->μ s<f->μ s<g->O0 step f s=O0 step g s
 |0,_,_,_,h1,_=>by omega
 |_,0,_,_,_,h2=>by omega
 | f +1,g+1,s,hs,h1,h2=>by
  unfold O0
  by_cases c:(step s).2=aD
  ·rw[if_pos c,if_pos c]
   have:=h.dec s hs c;exact Hd h f g _ (h.keep s hs) J J
  rw[if_neg c,if_neg c]
theorem I1(h:DY step ok μ){s:σ}(hs:ok s)(c:(step s).2=aD):fix step μ s=fix step μ (step s).1:=by
 have:=h.dec s hs c;unfold fix;rw[O0,if_pos c];exact Hd h _ _ _ (h.keep s hs) J J
theorem yZ{s:σ}(c:(step s).2=aE):fix step μ s=(step s).1:=by
 unfold fix;rw[O0,if_neg (by rw[c];decide)]
theorem y0(h:DY step ok μ):∀(k:Nat) (s:σ),ok s->μ s<=k->∃s',ok s'/\(step s').2=aE/\fix step μ s=(step s').1
 | k,s,hs,hk=>by
  by_cases c:(step s).2=aD
  ·have hd:=h.dec s hs c
   match k with
   |0=>omega
   | k+1=>
    obtain⟨s',h1,h2,h3⟩:=y0 h k (step s).1 (h.keep s hs) J;exact⟨s',h1,h2,by rw[I1 h hs c,h3]⟩
  have c':(step s).2=false:=by simpa using c
  exact⟨s,hs,c',yZ c'⟩
end
def He(E:List Bool)(M:List Bool)(p:aT.Prod)(F:List Nat)(more:Bool):List Nat×Bool:=
 if py M p.2 aD=aD then((n' F p.1.toNat (fU E F p.2 0)).1,(n' F p.1.toNat (fU E F p.2 0)).2||more)else(F,more)
def rr(E M:List Bool):List aT.Prod->List Nat->Bool->List Nat×Bool
 |[],F,more=>(F,more)
 |p::r,F,more=>rr E M r (He E M p F more).1 (He E M p F more).2
def jg(E:List Bool)(F:List Nat)(h:Nat)(x:dy)(r:List dy)(W:List Nat)(more:Bool):List Nat×Bool:=
 if x.1=2 then((n' W x.2.toNat (fU E F r (W.getD h 0))).1,(n' W x.2.toNat (fU E F r (W.getD h 0))).2||more)else(W,more)
def jK(E:List Bool)(F:List Nat)(h:Nat):List dy->List Nat->Bool->List Nat×Bool
 |[],W,more=>(W,more)
 |x::r,W,more=>jK E F h r (jg E F h x r W more).1 (jg E F h x r W more).2
def nM(E:List Bool)(F:List Nat):List aT.Prod->List Nat->Bool->List Nat×Bool
 |[],W,more=>(W,more)
 |p::r,W,more=>nM E F r (jK E F p.1.toNat p.2 W more).1 (jK E F p.1.toNat p.2 W more).2
def np(l:List Nat):Nat:=(l.map λx=>18446744073709551616-x).sum
def zV(n:Nat)(l:List Nat):Prop:=l.length=n/\∀x∈l,x<18446744073709551616
theorem oC{n:Nat}{l:List Nat}(h:zV n l)(i:Nat):l.getD i 0<18446744073709551616:=by
 rw[b9]
 cases e:l[i]? with
 |none=>decide
 |some y=>exact h.2 y (lP e)
theorem wy{x y:Nat}(hx:x<18446744073709551616)(hy:y<18446744073709551616):x|||y<18446744073709551616:=Nat.or_lt_two_pow (n:=64) hx hy
theorem CB{n:Nat}{l:List Nat}{i b:Nat}(h:zV n l)(hb:b<18446744073709551616):zV n (n' l i b).1:=by
 refine⟨by rw[X1];exact h.1,λx hx=>?_⟩;rcases Xf hx with h1|rfl
 exact h.2 x h1;exact wy (oC h i) hb
theorem RF:∀(l:List Nat) (i:Nat) (y:Nat) (h:i<l.length),((l.set i y).map λx=>18446744073709551616-x).sum+(18446744073709551616-l[i])=(l.map λx=>18446744073709551616-x).sum+(18446744073709551616-y)
 |a::r,0,y,h=>by simp;omega
 |a::r,i+1,y,h=>by
  have:=RF r i y (by simpa using h);simp at this⊢;omega
theorem Hf{n:Nat}{l:List Nat}{i b:Nat}(h:zV n l)(hi:i<n)(hb:b<18446744073709551616):np (n' l i b).1<=np l/\((n' l i b).2=aD->np (n' l i b).1<np l):=by
 have hil:i<l.length:=by rw[h.1];exact hi
 have hs:=RF l i (l.getD i 0|||b) hil;have e:l.getD i 0=l[i]:=by rw[b9,bD hil];rfl
 have h1:l[i]<=l.getD i 0|||b:=by rw[e];exact Nat.left_le_or
 have h2:=wy (oC h i) hb;have h3:=h.2 _ (cD hil);unfold np n';dsimp only;refine⟨by omega,λhc=>?_⟩;simp only[C0,decide_eq_false_iff_not]at hc;omega
theorem oL{E:List Bool}{F:List Nat}{n:Nat}{body:List dy}{behind:Nat}(hF:zV n F)(hb:behind<18446744073709551616)(hx:∀x∈body,x.1=1->x.2.toNat<64):fU E F body behind<18446744073709551616:=by
 have key:∀(body:List dy) (out:Nat),out<18446744073709551616->(∀x∈body,x.1=1->x.2.toNat<64)->mD E F behind body out<18446744073709551616:=by
  intro body
  induction body with
  |nil=>intro out h _;exact wy h hb
  | cons x r ih=>
   intro out h hx;unfold mD;split
   ·rename_i c
    have hp:(2:Nat)^x.2.toNat<2^64:=DA aiT (hx x (by simp) c);exact wy h (by simpa using hp)
   split;exact ih _ (wy h (oC hF _)) λy hy=>hx y (by simp[hy]);exact wy h (oC hF _)
 exact key body 0 aiT hx
structure DZ(n:Nat)(l:List aT.Prod):Prop where
 head:∀p∈l,0<=p.1/\p.1.toNat<n
 DR:∀p∈l,∀x∈p.2,x.1=1->0<=x.2/\x.2.toNat<64
 non:∀p∈l,∀x∈p.2,x.1≠1->x.1=2/\0<=x.2/\x.2.toNat<n
theorem y6{g:eb}{n:Nat}(h:b_ g=0)(hn:g.bC=n):DZ n g.aF:=by
 obtain⟨a,b,c,d,e,f⟩:=cP h;refine⟨λp hp=>?_,λp hp x hx km=>?_,λp hp x hx km=>?_⟩;have:=f p hp;omega
 ·have:=(f p hp).2.2.2 x hx
  unfold right at this;rw[if_pos km]at this;simp at this;omega
 have:=(f p hp).2.2.2 x hx;unfold right at this;rw[if_neg km]at this;split at this
 ·rename_i h2
  simp at this;exact⟨h2,by omega,by omega⟩
 simp at this
theorem DZ.tail{n:Nat}{p:aT.Prod}{l:List aT.Prod}(h:DZ n (p::l)):DZ n l:=
 ⟨λq hq=>h.head q (by simp[hq]),λq hq=>h.DR q (by simp[hq]),λq hq=>h.non q (by simp[hq])⟩
theorem uG{E M:List Bool}{n:Nat}:∀(l:List aT.Prod) (F:List Nat) (more:Bool),DZ n l->zV n F->zV n (rr E M l F more).1/\np (rr E M l F more).1<=np F/\((rr E M l F more).2=aD->more=aD\/np (rr E M l F more).1<np F)
 |[],F,more,_,h=>⟨h,bx _,λc=> .inl c⟩
 | p ::r,F,more,hf,h=>by
  have hb:fU E F p.2 0<18446744073709551616:=oL h aiT λx hx km=>(hf.DR p (by simp) x hx km).2;have hh:=hf.head p (by simp);rw[rr];unfold He;split
  ·have h1:=CB (i:=p.1.toNat) h hb
   have h2:=Hf h hh.2 hb;obtain⟨k1,k2,k3⟩:=uG r (n' F p.1.toNat (fU E F p.2 0)).1 ((n' F p.1.toNat (fU E F p.2 0)).2||more) hf.tail h1;refine⟨k1,fw k2 h2.1,λc=>?_⟩;rcases k3 c with c2|c2
   ·rw[lU]at c2
    rcases c2 with c2|c2
    exact .inr (OJ k2 (h2.2 c2));exact .inl c2
   exact .inr (jp c2 h2.1)
  exact uG r F more hf.tail h
theorem Hg{E:List Bool}{F:List Nat}{n h:Nat}(hF:zV n F)(hh:h<n):∀(body:List dy) (W:List Nat) (more:Bool),(∀x∈body,x.1=1->x.2.toNat<64)->(∀x∈body,x.1=2->x.2.toNat<n)->zV n W->zV n (jK E F h body W more).1/\np (jK E F h body W more).1<=np W/\((jK E F h body W more).2=aD->more=aD\/np (jK E F h body W more).1<np W)
 |[],W,more,_,_,hW=>⟨hW,bx _,λc=> .inl c⟩
 | x ::r,W,more,ht,hx,hW=>by
  have hb:fU E F r (W.getD h 0)<18446744073709551616:=oL hF (oC hW h) λy hy=>ht y (by simp[hy]);have tl:=λW more=>Hg (E:=E) hF hh r W more (λy hy=>ht y (by simp[hy])) (λy hy=>hx y (by simp[hy]));rw[jK];unfold jg;split
  ·rename_i c0
   have h1:=CB (i:=x.2.toNat) hW hb;have h2:=Hf hW (hx x (by simp) c0) hb;obtain⟨k1,k2,k3⟩:=tl (n' W x.2.toNat (fU E F r (W.getD h 0))).1 ((n' W x.2.toNat (fU E F r (W.getD h 0))).2||more) h1;refine⟨k1,fw k2 h2.1,λc=>?_⟩;rcases k3 c with c2|c2
   ·rw[lU]at c2
    rcases c2 with c2|c2
    exact .inr (OJ k2 (h2.2 c2));exact .inl c2
   exact .inr (jp c2 h2.1)
  exact tl W more hW
theorem y7{E:List Bool}{F:List Nat}{n:Nat}(hF:zV n F):∀(l:List aT.Prod) (W:List Nat) (more:Bool),DZ n l->zV n W->zV n (nM E F l W more).1/\np (nM E F l W more).1<=np W/\((nM E F l W more).2=aD->more=aD\/np (nM E F l W more).1<np W)
 |[],W,more,_,h=>⟨h,bx _,λc=> .inl c⟩
 | p ::r,W,more,hf,h=>by
  rw[nM];obtain⟨a1,a2,a3⟩:=Hg (E:=E) hF (hf.head p (by simp)).2 p.2 W more (λx hx h1=>(hf.DR p (by simp) x hx h1).2) (λx hx h2=>(hf.non p (by simp) x hx J).2.2) h;obtain⟨k1,k2,k3⟩:=y7 hF r (jK E F p.1.toNat p.2 W more).1 (jK E F p.1.toNat p.2 W more).2 hf.tail a1;refine⟨k1,fw k2 a2,λc=>?_⟩;rcases k3 c with c2|c2
  ·rcases a3 c2 with c3|c3
   exact .inl c3;exact .inr (OJ k2 c3)
  exact .inr (jp c2 a2)
theorem O1{E M:List Bool}{n:Nat}{l:List aT.Prod}(hf:DZ n l):DY (λF=>rr E M l F aE) (zV n) np:=
 ⟨λs hs=>(uG l s aE hf hs).1,λs hs c=>by
  rcases(uG (E:=E) (M:=M) l s aE hf hs).2.2 c with h|h
  cases h
  exact h⟩
theorem X2{E:List Bool}{F:List Nat}{n:Nat}{l:List aT.Prod}(hF:zV n F)(hf:DZ n l):DY (λW=>nM E F l W aE) (zV n) np:=
 ⟨λs hs=>(y7 hF l s aE hf hs).1,λs hs c=>by
  rcases(y7 (E:=E) hF l s aE hf hs).2.2 c with h|h
  cases h
  exact h⟩
end dL
namespace dL
open aT
def X3(n:Nat)(s:FS):Prop:=s.E.length=n/\s.R.length=n/\s.M.length=n
def had(s:FS):Nat:=pA s.E+pA s.R+pA s.M
def LB(l:List aT.Prod)(s:FS):FS×Bool:=(gD l ⟨s.E,s.R,s.M,aE⟩,(gD l ⟨s.E,s.R,s.M,aE⟩).more)
theorem D0(l:List Bool):pA l<=l.length:=List.countP_le_length
theorem xY{l:List Bool}{i:Nat}{b:Bool}(hi:i<l.length):pA l<=pA (fP l i b).1/\((fP l i b).2=aD->pA l<pA (fP l i b).1):=by
 have:=LA (b:=b) hi;refine⟨by split at this<;>omega,λh=>?_⟩;rw[if_pos h]at this;omega
theorem Bt{h n:Nat}:∀(body:List dy) (R:List Bool) (more:Bool),(∀x∈body,x.1=2->x.2.toNat<n)->R.length=n->pA R<=pA (nl h body R more).1/\((nl h body R more).2=aD->more=aD\/pA R<pA (nl h body R more).1)
 |[],R,more,_,_=>⟨bx _,λc=> .inl c⟩
 | x ::r,R,more,hx,hR=>by
  rw[nl];have ih:=λR more=>Bt (h:=h) r R more λy hy=>hx y (by simp[hy]);unfold Br;split
  ·rename_i c0
   have hg:=xY (b:=R.getD h aE) (show x.2.toNat<R.length by rw[hR];exact hx x (by simp) c0);have hl:=nk R x.2.toNat (R.getD h aE);generalize fP R x.2.toNat (R.getD h aE)=a at*;obtain⟨R2,m2⟩:=a;dsimp only at*;obtain⟨k1,k2⟩:=ih R2 (m2||more) J;refine⟨by omega,λc=>?_⟩;rcases k2 c with c2|c2
   ·rw[lU]at c2
    rcases c2 with c2|c2
    ·have:=hg.2 c2
     exact .inr J
    exact .inl c2
   exact .inr J
  exact ih R more hR
theorem LC{n:Nat}{p:aT.Prod}{s:FS}(hp:p.1.toNat<n)(hx:∀x∈p.2,x.1=2->x.2.toNat<n)(h:X3 n s):X3 n (pz p s)/\had s<=had (pz p s)/\((pz p s).more=aD->s.more=aD\/had s<had (pz p s)):=by
 obtain⟨E,R,M,more⟩:=s;obtain⟨h1,h2,h3⟩:=h;unfold pz X3 had;dsimp only at*;have e1:=xY (b:=py E p.2 aE) (show p.1.toNat<E.length by omega);have e2:=nk E p.1.toNat (py E p.2 aE);have m1:=xY (b:=py M p.2 aD) (show p.1.toNat<M.length by omega);have m2:=nk M p.1.toNat (py M p.2 aD);generalize fP E p.1.toNat (py E p.2 aE)=a at*;generalize fP M p.1.toNat (py M p.2 aD)=b at*;obtain⟨E2,ce⟩:=a;obtain⟨M2,cm⟩:=b;dsimp only at*;have r1:=Bt (h:=p.1.toNat) p.2 R (cm||(ce||more)) hx h2;have r2:=DX p.1.toNat p.2 R (cm||(ce||more));generalize nl p.1.toNat p.2 R (cm||(ce||more))=c at*;obtain⟨R2,cr⟩:=c;dsimp only at*;refine⟨⟨by omega,by omega,by omega⟩,by omega,λhc=>?_⟩;rcases r1.2 hc with h4|h4
 ·rw[lU,lU]at h4
  rcases h4 with h4|h4|h4
  ·have:=m1.2 h4
   exact .inr J
  ·have:=e1.2 h4
   exact .inr J
  exact .inl h4
 exact .inr J
theorem qu{n:Nat}:∀(l:List aT.Prod) (s:FS),DZ n l->X3 n s->X3 n (gD l s)/\had s<=had (gD l s)/\((gD l s).more=aD->s.more=aD\/had s<had (gD l s))
 |[],s,_,h=>⟨h,bx _,λc=> .inl c⟩
 | p ::r,s,hf,h=>by
  rw[gD];obtain⟨a1,a2,a3⟩:=LC (s:=s) (hf.head p (by simp)).2 (λx hx h2=>(hf.non p (by simp) x hx J).2.2) h;obtain⟨k1,k2,k3⟩:=qu r (pz p s) hf.tail a1;refine⟨k1,by omega,λc=>?_⟩;rcases k3 c with c2|c2
  ·rcases a3 c2 with c3|c3
   exact .inl c3;exact .inr J
  exact .inr J
theorem aed{n:Nat}{s:FS}(h:X3 n s):had s<=3*n:=by
 have a:=D0 s.E;have b:=D0 s.R;have c:=D0 s.M;obtain⟨h1,h2,h3⟩:=h;unfold had;omega
def Bu(n:Nat)(s:FS):Nat:=3*n-had s
theorem D5{n:Nat}{l:List aT.Prod}(hf:DZ n l):DY (LB l) (X3 n) (Bu n):=
 ⟨λs hs=>(qu l ⟨s.E,s.R,s.M,aE⟩ hf hs).1,λs hs c=>by
  have h:=qu l ⟨s.E,s.R,s.M,aE⟩ hf hs;have h2:=aed h.1;rcases h.2.2 c with h3|h3
  cases h3
  have e:had ⟨s.E,s.R,s.M,aE⟩=had s:=rfl;show 3*n-had (gD l ⟨s.E,s.R,s.M,aE⟩)<3*n-had s
  omega⟩
end dL
namespace dL
open aT
theorem X4(l:List Nat)(i:Nat):l.set i (l.getD i 0)=l:=by
 by_cases h:i<l.length
 ·have e:l.getD i 0=l[i]:=by rw[b9,bD h];rfl
  rw[e,List.set_getElem_self]
 rw[List.set_eq_of_length_le J]
end dL
namespace dL
open aT dP
theorem sA{E:List Bool}{F:List Nat}{h:Nat}:∀(body:List dy) (W:List Nat) (more:Bool),(jK E F h body W more).2=aE->more=aE/\(jK E F h body W more).1=W/\∀pre x post,body=pre++x::post->x.1=2->W.getD x.2.toNat 0|||fU E F post (W.getD h 0)=W.getD x.2.toNat 0
 |[],W,more,hm=>⟨hm,rfl,λpre x post e=>by simp at e⟩
 | y ::r,W,more,hm=>by
  rw[jK]at hm⊢;unfold jg at hm⊢
  by_cases c:y.1=2
  ·rw[if_pos c]at hm⊢
   obtain⟨h1,h2,h3⟩:=sA r _ _ hm;rw[Dx]at h1;have h4:W.getD y.2.toNat 0|||fU E F r (W.getD h 0)=W.getD y.2.toNat 0:=by
    have:=h1.1;unfold n' at this
    simpa using this
   have h5:(n' W y.2.toNat (fU E F r (W.getD h 0))).1=W:=by
    unfold n';dsimp only;rw[h4,X4]
   rw[h2];dsimp only at h3⊢;rw[h5]at h3⊢;refine⟨h1.2,rfl,λpre x post e hx=>?_⟩
   match pre,e with
   | [],e=>
    simp only[eu,gi]at e;obtain⟨rfl,rfl⟩:=e;exact h4
   | z::pre,e=>
    simp only[iY,gi]at e;exact h3 pre x post e.2 hx
  rw[if_neg c]at hm⊢;obtain⟨h1,h2,h3⟩:=sA r _ _ hm;refine⟨h1,h2,λpre x post e hx=>?_⟩
  match pre,e with
  | [],e=>
   simp only[eu,gi]at e;obtain⟨rfl,rfl⟩:=e;exact absurd hx c
  | z::pre,e=>
   simp only[iY,gi]at e;exact h3 pre x post e.2 hx
theorem Bv{E:List Bool}{F:List Nat}:∀(l:List aT.Prod) (W:List Nat) (more:Bool),(nM E F l W more).2=aE->more=aE/\(nM E F l W more).1=W/\∀p∈l,∀pre x post,p.2=pre++x::post->x.1=2->W.getD x.2.toNat 0|||fU E F post (W.getD p.1.toNat 0)=W.getD x.2.toNat 0
 |[],W,more,hm=>⟨hm,rfl,λp hp=>by cases hp⟩
 |p::r,W,more,hm=>by
  rw[nM]at hm⊢;obtain⟨h1,h2,h3⟩:=Bv r _ _ hm;obtain⟨k1,k2,k3⟩:=sA p.2 W more h1;rw[k2]at h2 h3⊢;refine⟨k1,h2,λq hq=>?_⟩;rcases dA.1 hq with rfl|hq
  exact k3;exact h3 q hq
end dL
namespace xZ
open aT dP fM dL
mutual
inductive FV(l:List aT.Prod):dy->List Int->Prop
 |DR {x:dy} (h:x.1=1):FV l x [x.2]
 |non {x:dy} {p:aT.Prod} {ws:List Int} (h:x.1≠1) (hp:p∈l) (hx:p.1=x.2) (hd:ru l p.2 ws):FV l x ws
inductive ru(l:List aT.Prod):List dy->List Int->Prop
 |nil:ru l [] []
 |cons {y:dy} {r:List dy} {a b:List Int} (h1:FV l y a) (h2:ru l r b):ru l (y::r) (a++b)
end
theorem ru.TU{l:List aT.Prod}:∀{r r':List dy} {a b:List Int},ru l r a->ru l r' b->ru l (r++r') (a++b)
 |[],_,_,_,.nil,h=>h
 |_::_,_,_,_,.cons h1 h2,h=>by rw[eD];exact .cons h1 (ru.TU h2 h)
theorem X5{l:List aT.Prod}{x:dy}{a:List Int}(h:FV l x a):ru l [x] a:=by
 have:=ru.cons h ru.nil
 rwa [dW]at this
def cut(w:List Int)(a b:Nat):List Int:=(w.drop a).take (b-a)
theorem y8{w:List Int}{a m b:Nat}(h1:a<=m)(h2:m<=b):cut w a m++cut w m b=cut w a b:=by
 unfold cut;have e3:w.drop m=(w.drop a).drop (m-a):=by rw[List.drop_drop,show a+(m-a)=m by omega]
 rw[e3,show b-a=(m-a)+(b-m)by omega,List.take_add]
theorem LD(w:List Int)(a:Nat):cut w a a=[]:=by unfold cut;simp
theorem RG{w:List Int}{a n:Nat}(h:n=w.length):cut w a n=w.drop a:=by
 unfold cut;rw[gB (by simp;omega)]
theorem RH{w:List Int}{a b:Nat}(h1:a<=b)(h2:b<=w.length):(cut w a b).length=b-a:=by
 unfold cut;rw[iZ,List.length_drop];omega
theorem LF{l:List aT.Prod}{w:List Int}{o:dy->Nat->Nat->Nat}:∀(body:List dy) (a b:Nat),a<=b->(∀y∈body,∀i j,a<=i->i<=j->j<=b->0<o y i j->FV l y (cut w i j))->0<I0 o body a b->ru l body (cut w a b)
 | [],a,b,DW,_,h=>by
  rw[OX _ _ DW,yY]at h;have hE:a=b:=by
   by_cases c:a=b
   exact c;rw[if_neg c]at h;omega
  subst hE;rw[LD];exact .nil
 |y::r,a,b,DW,ho,h=>by
  obtain⟨m,m1,m2,m3⟩:=aa9 DW h;unfold aec at m3;rw[fc,decide_eq_true_iff,decide_eq_true_iff]at m3;rw[<-y8 m1 m2];exact .cons (ho y (by simp) a m (bx _) m1 m2 m3.1) (LF r m b m2 (λz hz i j h1 h2 h3=>ho z (by simp[hz]) i j J h2 h3) m3.2)
section
variable{w:List Int}{l:List aT.Prod}{n:Nat}{c:uF}
open Classical in
theorem I2(hc:Lfp w l n c)(hs:px n l){k a b:Nat}(hk:k<n)(DW:a<=b)(hb:b<=w.length)(h:0<c ((k:Int),(a:Int),(b:Int))):FV l (2,(k:Int)) (cut w a b):=by
 have hp:XY w l n (λx=>if FV l (2,x.1) (cut w x.2.1.toNat x.2.2.toNat)then 2 else 0):=λq i j hq re hj=>by
  dsimp only;rw[dq,dq]
  by_cases cd:FV l (2,(q:Int)) (cut w i j)
  rw[if_pos cd];exact aa5 _ _ _ _ _;rw[if_neg cd];apply Nat.le_of_not_lt;intro h0;unfold XU at h0;obtain⟨r,r1,r2,r3⟩:=Lz (Nat.lt_min.1 h0).2;have hm:=xW (l:=l) (p:=(r:Int)) J J;refine cd (.non (by show(2:Int)≠1;decide) hm r2 (LF _ i j re (λy hy i' j' h1 h2 h3 h4=>?_) r3));unfold DT at h4
  by_cases e:y.1=2
  ·rw[if_pos e]at h4
   dsimp only at h4;rw[dq,dq]at h4;split at h4
   ·rename_i hd
    obtain⟨y1,y2⟩:=y;dsimp only at e hd;subst e;exact hd
   omega
  rw[if_neg e]at h4;split at h4
  ·rename_i h5
   obtain⟨h6,h7⟩:=h5;have e1:y.1=1:=((hs _ hm).2.2 y hy).resolve_right λh=>e h.1;obtain⟨h8,h9⟩:=cX.1 h7;have:cut w i' j'=[y.2]:=by
    unfold cut;rw[h6,show i'+1-i'=1 by omega,eN h8,h9];rfl
   rw[this];exact .DR e1
  omega
 have:=hc.least _ hp k a b hk DW hb;dsimp only at this;rw[dq,dq]at this
 by_cases cd:FV l (2,(k:Int)) (cut w a b)
 exact cd;rw[if_neg cd]at this;omega
theorem O2(hc:Lfp w l n c)(hs:px n l){x:dy}{a b:Nat}(hx:x.1=1\/(x.1=2/\0<=x.2/\x.2<(n:Int)))(DW:a<=b)(hb:b<=w.length)(h:0<DT c w x a b):FV l x (cut w a b):=by
 unfold DT at h;rcases hx with hx|⟨h2,h3,h4⟩
 ·rw[if_neg J]at h
  split at h
  ·rename_i h5
   obtain⟨h6,h7⟩:=h5;obtain⟨h8,h9⟩:=cX.1 h7;have:cut w a b=[x.2]:=by
    unfold cut;rw[h6,show a+1-a=1 by omega,eN h8,h9];rfl
   rw[this];exact .DR hx
  omega
 rw[if_pos h2]at h;obtain⟨x1,x2⟩:=x;dsimp only at*;subst h2;have e:x2=((x2.toNat:Nat):Int):=by omega
 rw[e]at h⊢;exact I2 hc hs J DW hb h
end
section
end
def x6(l:List aT.Prod)(s:FS):Prop:=(∀i:Nat,s.E.getD i aE=aD->FV l (2,(i:Int)) [])/\∀i:Nat,s.M.getD i aE=aD->∃ws,FV l (2,(i:Int)) ws
theorem D6{l:List aT.Prod}{E:List Bool}(h:∀i:Nat,E.getD i aE=aD->FV l (2,(i:Int)) []):∀(b:List dy),(∀x∈b,x.1=1\/(x.1=2/\0<=x.2))->py E b aE=aD->ru l b []
 |[],_,_=> .nil
 | y::r,hx,ha=>by
  unfold py at ha;rw[cZ,fc]at ha;have ih:=D6 h r (λz hz=>hx z (by simp[hz])) ha.2;rcases hx y (by simp)with c|⟨c1,c2⟩
  rw[if_pos c]at ha;simp at ha;rw[if_neg J,if_pos c1]at ha;have hd:=h _ ha.1;obtain⟨y1,y2⟩:=y;dsimp only at*;subst c1;rw[um c2]at hd;exact .cons hd ih
theorem D7{l:List aT.Prod}{M:List Bool}(h:∀i:Nat,M.getD i aE=aD->∃ws,FV l (2,(i:Int)) ws):∀(b:List dy),(∀x∈b,x.1=1\/(x.1=2/\0<=x.2))->py M b aD=aD->∃ws,ru l b ws
 |[],_,_=>⟨[],.nil⟩
 | y::r,hx,ha=>by
  unfold py at ha;rw[cZ,fc]at ha;obtain⟨ws,ih⟩:=D7 h r (λz hz=>hx z (by simp[hz])) ha.2;rcases hx y (by simp)with c|⟨c1,c2⟩
  exact⟨_,.cons (.DR c) ih⟩;rw[if_neg J,if_pos c1]at ha;obtain⟨us,hd⟩:=h _ ha.1;obtain⟨y1,y2⟩:=y;dsimp only at*;subst c1;rw[um c2]at hd;exact⟨_,.cons hd ih⟩
theorem LG{l:List Bool}{i k:Nat}{b:Bool}(h:(fP l i b).1.getD k aE=aD):l.getD k aE=aD\/(k=i/\b=aD):=by
 unfold fP at h;split at h
 ·rename_i c
  dsimp only at h;rw[b9,Xl]at h
  by_cases e:i=k
  exact .inr ⟨e.symm,c.1⟩;rw[if_neg e,<-b9]at h;exact .inl h
 exact .inl h
theorem I3{n:Nat}{l:List aT.Prod}(hs:px n l){p:aT.Prod}(hp:p∈l){s:FS}(h:x6 l s):x6 l (pz p s):=by
 obtain⟨s1,s2,s3⟩:=hs p hp;have hx:∀x∈p.2,x.1=1\/(x.1=2/\0<=x.2):=λx hx=>(s3 x hx).imp id λh=>⟨h.1,h.2.1⟩;unfold pz;refine⟨λi hi=>?_,λi hi=>?_⟩
 ·rcases LG hi with h1|⟨h1,h2⟩
  exact h.1 i h1;subst h1;exact .non (by show(2:Int)≠1;decide) hp J (D6 h.1 _ hx h2)
 rcases LG hi with h1|⟨h1,h2⟩
 exact h.2 i h1;subst h1;obtain⟨ws,hw⟩:=D7 h.2 _ hx h2;exact⟨ws,.non (by show(2:Int)≠1;decide) hp J hw⟩
theorem y9{n:Nat}{l:List aT.Prod}(hs:px n l):∀(r:List aT.Prod),(∀p∈r,p∈l)->∀(s:FS),x6 l s->x6 l (gD r s)
 |[],_,s,h=>h
 |p::r,hr,s,h=>by
  rw[gD];exact y9 hs r (λq hq=>hr q (by simp[hq])) _ (I3 hs (hr p (by simp)) h)
end xZ
namespace xZ
open aT dP fM
def adb(l:List aT.Prod)(w:List Int)(x:dy)(a b:Nat)(t:Tree):Prop:=G' l t x a/\OY l t x=cut w a b
theorem adb.leaves{l:List aT.Prod}{w:List Int}{x:dy}{a b:Nat}{t:Tree}(h:adb l w x a b t)(DW:a<=b)(hb:b<=w.length):leaves t=b-a:=by
 rw[<-OZ h.1,h.2,RH DW hb]
section
end
section
end
end xZ
namespace B5
open aT dP fM dL xZ
abbrev Cl:=Int×Int×Int×Int
def O3(T col:Nat):Nat:=if col=T then 9223372036854775808 else 2^col
section
variable(l:List aT.Prod)(may:Nat->Nat)(T:Nat)
def D8(n col i:Nat):Bool:=decide ((dc l (i:Int)).1=(n:Int))&&!decide ((may i&&&O3 T col)=0)
def ic(n col:Nat):Nat->Int
 |0=> -1
 |k+1=>if ic n col k<0 then(if D8 l may T n col k=aD then(k:Int)else ic n col k)else ic n col k
def x7(n col:Nat):Nat->List Cl->List Cl
 |0,out=>out
 |k+1,out=>if D8 l may T n col k=aD then(if ic l may T n col k<0 then x7 n col k out else x7 n col k out++[((n:Int),(col:Int),ic l may T n col k,(k:Int))])else x7 n col k out
def B6(n:Nat):Nat->List Cl->List Cl
 |0,out=>out
 |c+1,out=>x7 l may T n c l.length (B6 n c out)
def mE:Nat->List Cl
 |0=>[]
 |n+1=>B6 l may T n (T+1) (mE n)
def rowAt(n col:Nat):Int:=ic l may T n col l.length
end
section
variable{l:List aT.Prod}{may:Nat->Nat}{T:Nat}
theorem uH(n col:Nat):∀k,-1<=ic l may T n col k/\ic l may T n col k<(k:Int)
 |0=>⟨by rw[ic];omega,by rw[ic];omega⟩
 |k+1=>by
  have:=uH n col k;rw[ic];split;split<;>omega;omega
theorem x8(n col:Nat):∀k,k<=l.length->0<=ic l may T n col k->(dc l (ic l may T n col k)).1=(n:Int)
 |0,_,h=>by rw[ic]at h;omega
 | k + 1,hk,h=>by
  have ih:=x8 n col k J;rw[ic]at h⊢;split at h
  ·split at h
   ·rename_i c1 c2
    rw[if_pos c1,if_pos c2];unfold D8 at c2;rw[fc,decide_eq_true_iff]at c2;exact c2.1
   omega
  rename_i c1
  rw[if_neg c1];exact ih h
end
def D9(T:Nat)(w:List Int)(a:Nat):Nat:=if a<w.length then(w.getD a 0).toNat else T
section
end
section
end
section
end
end B5
namespace fh
open aT dP fM dL xZ B5
inductive TD where
 |sym (x:dy)
 |close (p:Int)
def bQ:List TD->List dy->Nat->List TD×List dy×Nat×Bool
 |[],out,a=>([],out,a,aD)
 | .sym x::r,out,a=>(.sym x::r,out,a,aD)
 | .close p::r,out,a=>if a+1<=2000 then bQ r (out++[(3,p)]) (a+1)else(r,out++[(3,p)],a+1,aE)
def opened(l:List aT.Prod)(p:Int)(r:List TD):List TD:=(dc l p).2.map .sym++ .close p::r
def fH(l:List aT.Prod)(nx:Int->Int):Nat->List TD->List dy->Nat->List TD×List dy×Nat×Int
 |0,st,out,a=>(st,out,a,14)
 | f +1,st,out,a=>
  if(bQ st out a).2.2.2=aE then((bQ st out a).1,(bQ st out a).2.1,(bQ st out a).2.2.1,14)else
  match(bQ st out a).1 with
  | .sym x::r=>
   if x.1=1 then((bQ st out a).1,(bQ st out a).2.1,(bQ st out a).2.2.1,0)
   else if nx x.2<0 then((bQ st out a).1,(bQ st out a).2.1,(bQ st out a).2.2.1,13)
   else if(bQ st out a).2.2.1+1<=2000/\(opened l (nx x.2) r).length<=60 then fH l nx f (opened l (nx x.2) r) ((bQ st out a).2.1++[(1,nx x.2)]) ((bQ st out a).2.2.1+1)
   else(opened l (nx x.2) r,(bQ st out a).2.1++[(1,nx x.2)],(bQ st out a).2.2.1+1,14)
  |_=>((bQ st out a).1,(bQ st out a).2.1,(bQ st out a).2.2.1,0)
def jX(l:List aT.Prod)(nx:Int->Int)(st:List TD)(seen:Nat)(t:Int):Int×List TD×List dy:=
 match fH l nx 2001 st [] 0 with
 | (st1,gG,a1,e)=>
  if e≠0 then(e,[],[])else
  match st1 with
  | .sym x::r=>if x.2≠t then(13,[],[])else if a1+1<=2000/\(bQ r (gG++[(2,(seen:Int))]) (a1+1)).2.2.2=aD then(0,(bQ r (gG++[(2,(seen:Int))]) (a1+1)).1,(bQ r (gG++[(2,(seen:Int))]) (a1+1)).2.1)else(14,[],[])
  |_=>(13,[],[])
def jz(l:List aT.Prod)(nx:Int->Int)(st:List TD):Int×List dy:=
 match fH l nx 2001 st [] 0 with
 |(st1,gG,_,e)=>if e≠0 then(e,[])else match st1 with|[]=>(0,gG)|_=>(13,[])
section
variable{l:List aT.Prod}{C:Int->Nat->Int->Prop}
theorem x9:∀{st:List TD} {out:List dy} {a:Nat},(bQ st out a).2.2.2=aD->(bQ st out a).1=[]\/∃x r,(bQ st out a).1= .sym x::r
 |[],out,a,_=> .inl I
 | .sym x::r,out,a,_=> .inr ⟨x,r,rfl⟩
 | .close p::r,out,a,h=>by
  unfold bQ at h⊢;split
  ·rename_i c;rw[if_pos c]at h;exact x9 h
  rename_i c;rw[if_neg c]at h;cases h
theorem sC:∀{st:List TD} {out:List dy} {a:Nat},(bQ st out a).1.length<=st.length/\a<=(bQ st out a).2.2.1/\((bQ st out a).2.2.2=aD->a<=2000->(bQ st out a).2.2.1<=2000)/\(bQ st out a).2.1.length+a=out.length+(bQ st out a).2.2.1
 |[],out,a=>⟨bx _,bx _,λ_ h=>h,rfl⟩
 | .sym x::r,out,a=>⟨bx _,bx _,λ_ h=>h,rfl⟩
 | .close p::r,out,a=>by
  unfold bQ;split
  ·obtain⟨h1,h2,h3,h4⟩:=@sC r (out++[(3,p)]) (a+1)
   refine⟨by simp;omega,by omega,λh _=>h3 h J,?_⟩;simp only[bI,de,ia]at h4;omega
  refine⟨by simp,by simp,(λh=>nomatch h),by simp;omega⟩
def qQ(g:eb):TD->Prop
 | .sym x=>right g.aR g.bC x=aD
 | .close p=>0<=p/\p<(g.aF.length:Int)
theorem rv{g:eb}:∀{st:List TD} {out:List dy} {a:Nat},(∀d∈st,qQ g d)->∀d∈(bQ st out a).1,qQ g d
 |[],out,a,h=>h
 | .sym x::r,out,a,h=>h
 | .close p::r,out,a,h=>by
  unfold bQ;split;exact rv λd hd=>h d (kM _ hd);exact λd hd=>h d (kM _ hd)
theorem AL{g:eb}(hg:b_ g=0){p:Int}(h0:0<=p)(h1:p<(g.aF.length:Int)){r:List TD}(h:∀d∈r,qQ g d):∀d∈opened g.aF p r,qQ g d:=by
 intro d hd;unfold opened at hd;rw[fu]at hd;rcases hd with hd|hd
 ·obtain⟨x,hx,rfl⟩:=eX.1 hd
  exact((cP hg).2.2.2.2.2 _ (xW h0 h1)).2.2.2 x hx
 rcases dA.1 hd with rfl|hd
 exact⟨h0,h1⟩;exact h d hd
def aa_(l:List aT.Prod)(nx:Int->Int):Prop:=∀n,0<=nx n->nx n<(l.length:Int)/\((0<=n)->(dc l (nx n)).1=n)
theorem uI{nx:Int->Int}:∀{f:Nat} {st:List TD} {out:List dy} {a:Nat},(fH l nx f st out a).2.2.2=0\/(fH l nx f st out a).2.2.2=13\/(fH l nx f st out a).2.2.2=14
 |0,st,out,a=> .inr (.inr I)
 | f +1,st,out,a=>by
  unfold fH;split;exact .inr (.inr I);split
  ·split
   exact .inl I;split;exact .inr (.inl I);split;exact uI;exact .inr (.inr I)
  exact .inl I
theorem x_{nx:Int->Int}{f:Nat}{st:List TD}{out:List dy}{a:Nat}{R:List TD×List dy×Nat×Int}(h:fH l nx (f+1) st out a=R):
    ((bQ st out a).2.2.2=aE/\R.2.2.2=14)\/((bQ st out a).2.2.2=aD/\
      (((bQ st out a).1=[]/\R=([],(bQ st out a).2.1,(bQ st out a).2.2.1,0))\/
       ∃ x r,(bQ st out a).1= .sym x::r/\((x.1=1/\R=(.sym x::r,(bQ st out a).2.1,(bQ st out a).2.2.1,0))\/(x.1≠1/\nx x.2<0/\R.2.2.2=13)\/
         (x.1≠1/\0<=nx x.2/\((((bQ st out a).2.2.1+1<=2000/\(opened l (nx x.2) r).length<=60)/\fH l nx f (opened l (nx x.2) r) ((bQ st out a).2.1++[(1,nx x.2)]) ((bQ st out a).2.2.1+1)=R)\/R.2.2.2=14))))):=by
  unfold fH at h
  cases hc:(bQ st out a).2.2.2 with
  |false=>rw[hc,if_pos I]at h;subst h;exact .inl ⟨rfl,rfl⟩
  | true=>
    rw[hc,if_neg (by simp)]at h;refine .inr ⟨rfl,?_⟩;rcases x9 hc with he|⟨x,r,he⟩
    · rw[he]at h⊢
      exact .inl ⟨rfl,h.symm⟩
    rw[he]at h⊢;dsimp only at h;refine .inr ⟨x,r,rfl,?_⟩
    by_cases c1:x.1=1
    rw[if_pos c1]at h;exact .inl ⟨c1,h.symm⟩;rw[if_neg c1]at h
    by_cases c2:nx x.2<0
    rw[if_pos c2]at h;subst h;exact .inr (.inl ⟨c1,c2,rfl⟩);rw[if_neg c2]at h;refine .inr (.inr ⟨c1,by omega,?_⟩);split at h
    · rename_i c3;exact .inl ⟨c3,h⟩
    subst h;exact .inr I
theorem uJ{nx:Int->Int}:∀{f:Nat} {st:List TD} {out:List dy} {a:Nat} {R:List TD×List dy×Nat×Int},fH l nx f st out a=R->R.2.2.2=0->R.1=[]\/∃x r,R.1= .sym x::r/\x.1=1
 |0,st,out,a,R,h,h0=>by subst h;cases h0
 |f+1,st,out,a,R,h,h0=>by
  rcases x_ h with⟨_,e⟩|⟨_,⟨_,rfl⟩|⟨x,r,_,⟨c,rfl⟩|⟨_,_,e⟩|⟨_,_,⟨_,e⟩|e⟩⟩⟩
  omega;exact .inl I;exact .inr ⟨x,r,rfl,c⟩;omega;exact uJ e h0;omega
theorem I4{g:eb}(hg:b_ g=0){nx:Int->Int}(hn:aa_ g.aF nx):∀{f:Nat} {st:List TD} {out:List dy} {a:Nat} {R:List TD×List dy×Nat×Int},fH g.aF nx f st out a=R->R.2.2.2=0->(∀d∈st,qQ g d)->∀d∈R.1,qQ g d
 |0,st,out,a,R,h,h0,_=>by subst h;cases h0
 | f +1,st,out,a,R,h,h0,hs=>by
  have hc:=rv (out:=out) (a:=a) hs;rcases x_ h with⟨_,e⟩|⟨_,⟨_,rfl⟩|⟨x,r,e1,⟨c,rfl⟩|⟨_,_,e⟩|⟨_,c,⟨_,e⟩|e⟩⟩⟩
  omega;exact λd hd=>nomatch hd;rw[e1]at hc;exact hc;omega
  ·rw[e1]at hc
   exact I4 hg hn e h0 (AL hg c (hn _ c).1 λd hd=>hc d (kM _ hd))
  omega
theorem y_{nx:Int->Int}:∀{f:Nat} {st:List TD} {out:List dy} {a:Nat} {R:List TD×List dy×Nat×Int},fH l nx f st out a=R->R.2.2.2=0->st.length<=60->a<=2000->R.1.length<=60/\R.2.2.1<=2000/\R.2.1.length+a=out.length+R.2.2.1/\a<=R.2.2.1
 |0,st,out,a,R,h,h0,_,_=>by subst h;cases h0
 | f +1,st,out,a,R,h,h0,h1,h2=>by
  obtain⟨z1,z2,z3,z4⟩:=@sC st out a;rcases x_ h with⟨_,e⟩|⟨ec,⟨_,rfl⟩|⟨x,r,e1,⟨c,rfl⟩|⟨_,_,e⟩|⟨_,c,⟨cc,e⟩|e⟩⟩⟩
  omega
  ·have:=z3 ec h2
   exact⟨by simp,this,by omega,z2⟩
  ·rw[e1]at z1
   have:=z3 ec h2;exact⟨fw z1 h1,this,by omega,z2⟩
  omega
  ·obtain⟨y1,y2,y3,y4⟩:=y_ e h0 cc.2 cc.1
   rw[bI,lW]at y3;exact⟨y1,y2,by omega,by omega⟩
  omega
theorem ya{nx:Int->Int}{st:List TD}{seen:Nat}{t:Int}{R:Int×List TD×List dy}(h:jX l nx st seen t=R):
 (R.1=13\/R.1=14)/\R.2=([],[])\/∃x r gG a1,fH l nx 2001 st [] 0=(.sym x::r,gG,a1,0)/\x.1=1/\x.2=t/\a1+1<=2000/\(bQ r (gG++[(2,(seen:Int))]) (a1+1)).2.2.2=aD/\
  R=(0,(bQ r (gG++[(2,(seen:Int))]) (a1+1)).1,(bQ r (gG++[(2,(seen:Int))]) (a1+1)).2.1):=by
 unfold jX at h
 cases hd:fH l nx 2001 st [] 0 with
 |mk st1 R1=>
 obtain⟨gG,a1,e⟩:=R1;rw[hd]at h;dsimp only at h;have he:=@uI l nx 2001 st [] 0;rw[hd]at he;dsimp only at he
 by_cases c0:e=0
 ·subst c0
  rw[if_neg (by simp)]at h;rcases uJ hd rfl with e1|⟨x,r,e1,e2⟩
  dsimp only at e1;subst e1;subst h;exact .inl ⟨.inl I,rfl⟩;dsimp only at e1;subst e1;dsimp only at h
  by_cases c1:x.2≠t
  rw[if_pos c1]at h;subst h;exact .inl ⟨.inl I,rfl⟩;rw[if_neg c1]at h;split at h
  ·rename_i c2
   subst h;exact .inr ⟨x,r,gG,a1,rfl,e2,by simpa using c1,c2.1,c2.2,rfl⟩
  subst h;exact .inl ⟨.inr I,rfl⟩
 ·rw[if_pos c0]at h
  subst h;exact .inl ⟨by rcases he with h|h|h;exact absurd h c0;exact .inl h;exact .inr h,rfl⟩
theorem aa'{g:eb}(hg:b_ g=0){nx:Int->Int}(hn:aa_ g.aF nx){st:List TD}{seen:Nat}{t:Int}{R:Int×List TD×List dy}(h:jX g.aF nx st seen t=R)(h0:R.1=0)(hs:∀d∈st,qQ g d)(hl:st.length<=60):(∀d∈R.2.1,qQ g d)/\R.2.1.length<=60/\R.2.2.length<=2000:=by
 rcases ya h with⟨e|e,_⟩|⟨x,r,gG,a1,hd,_,_,h4,h5,rfl⟩
 omega;omega;have y1:=I4 hg hn hd I hs;obtain⟨y2,y3,y4,y5⟩:=y_ hd rfl hl J;obtain⟨z1,z2,z3,z4⟩:=@sC r (gG++[(2,(seen:Int))]) (a1+1);dsimp only at y1 y2 y3 y4 y5⊢;simp only[bI,de,ia]at z4 y2 y4;have:=z3 h5 J;exact⟨rv λd hd=>y1 d (kM _ hd),by omega,by omega⟩
theorem Hh{nx:Int->Int}{st:List TD}{R:Int×List dy}(h:jz l nx st=R):((R.1=13\/R.1=14)/\R.2=[])\/∃a1,fH l nx 2001 st [] 0=([],R.2,a1,0)/\R.1=0:=by
 unfold jz at h
 cases hd:fH l nx 2001 st [] 0 with
 |mk st1 R1=>
 obtain⟨gG,a1,e⟩:=R1;rw[hd]at h;dsimp only at h;have he:=@uI l nx 2001 st [] 0;rw[hd]at he;dsimp only at he
 by_cases c0:e=0
 ·subst c0
  rw[if_neg (by simp)]at h;rcases uJ hd rfl with e1|⟨x,r,e1,e2⟩
  dsimp only at e1;subst e1;subst h;exact .inr ⟨a1,rfl,rfl⟩;dsimp only at e1;subst e1;subst h;exact .inl ⟨.inl I,rfl⟩
 rw[if_pos c0]at h;subst h;exact .inl ⟨by rcases he with h|h|h;exact absurd h c0;exact .inl h;exact .inr h,rfl⟩
end
end fh
namespace cI
open Go.RowKit cU dS aT dP fh
def tdB:TD->Bool| .sym _=>aE| .close _=>aD
def tdN:TD->Int| .sym _=>0| .close p=>p
def tdX:TD->dy| .sym x=>x| .close _=>(0,0)
def wV(d:TD):List Value:=[.bool (tdB d),av az (tdN d),av az (tdX d).1,av az (tdX d).2]
theorem I5(d:TD):(wV d).length=4:=rfl
theorem I6(l:List TD):∀u∈l.flatMap wV,u.oneCell'=true:=by
 intro u hu;obtain⟨d,_,h⟩:=Au.1 hu;simp only[wV,dA,fv,or_false]at h;rcases h with rfl|rfl|rfl|rfl<;>rfl
def KM(d:TD):Value:=aQ (wV d).toArray
theorem Hi(x:dy)(w:World):(dh 159 #[(2,aQ (eA x).toArray)]).run aB w= .ok (KM (.sym x)) w:=by
 unfold KM wV eA tdB tdN tdX;go_simp
theorem TV(p:Int)(w:World):(dh 159 #[(0,.bool aD),(1,av az p)]).run aB w= .ok (KM (.close p)) w:=by
 unfold KM wV tdB tdN tdX;go_simp
def te(vt:Value)(seen over:Int)(done:Bool):Value:=aQ #[vt,av az seen,av az over,.bool done]
def LH(t n:Int)(vp vt vo:Value)(dI:Nat):Array Value:=#[av az t,av az n,vp,vt,vo,av az (dI:Int)]
abbrev yb(gw:Nat)(t n:Int)(vp vt vo:Value)(dI:Nat):cH:=aP gw (LH t n vp vt vo dI) 260
abbrev wN(vt:Value)(st:List TD):cH:=a_ 159 4 vt st.length (st.reverse.flatMap wV)
abbrev kV(vo:Value)(l:List dy):cH:=a_ 168 2 vo l.length (l.flatMap eA)
theorem AM(k n:Int)(w:World):(dh 168 #[(0,av az k),(1,av az n)]).run aB w= .ok (aQ (eA (k,n)).toArray) w:=by
 unfold eA;go_simp
theorem RI{P:Program}{n:Nat}{W:bO}{fr:Fr}{L:List cH}{dst:Option Tmp}{t ty:TypeId}{pos:String}{after:Array Edge}{guard:Option (Nat×Bool)}{x:Operand}{f:Nat}{v u:Value}(hx:ev fr x=aj v)(h:∀w,(Xd t v f).run P w= .ok u w):RR P n W ⟨dst,.field t x f,ty,pos,after,guard⟩ fr L u:= .mk λa w hr _=>by
 simp[execOp,hr.ev hx,h]
theorem TY(d:TD)(w:World):(Xd 159 (KM d) 1).run aB w= .ok (av az (tdN d)) w:=by
 unfold KM wV;kernel_rfl
end cI
namespace cI
open Go.RowKit cU dS dl
theorem X6{j:Nat}(hj:j<64):2^j<18446744073709551616:=by
 have:=DA (a:=2) aiT hj
 rwa [show(2:Nat)^64=18446744073709551616 from I]at this
theorem ahq{P:Program}(j:Nat)(hj:j<64)(w:World):(iq .shl .u64 1 .i64 (j:Int)).run P w= .ok (.int .u64 ((2^j:Nat):Int)) w:=by
 have e:min j 64=j:=by omega
 have e2:(2:Int)^j=((2^j:Nat):Int):=by rw[Int.natCast_pow];rfl
 have e3:tQ.wrap ((1:Int)*2^j)=((2^j:Nat):Int):=by
  have:=X6 hj;rw[e2,sc,Int.one_mul];generalize 2^j=y at*;omega
 have h0:¬((j:Int)<0):=by omega
 simp only[iq,if_neg h0,lI,dq,e,e3,Sem.run_pure]
theorem LI:∀b:Nat,b<256->bits .and .i64 (b:Int) 63=((b %64:Nat):Int):=by decide+kernel
theorem X7(c:C4)(i:Nat)(h:i<4):(dV c).toArray[i]?=aj (.int .u64 ((c.get i).toNat:Int)):=DF c i h
theorem X8(c:C4)(i:Nat)(h:i<4)(v:BitVec 64):(dV c).toArray.setIfInBounds i (.int .u64 (v.toNat:Int))=(dV (c.set i v)).toArray:=by
 match i,h with
 |0,_=>rfl
 |1,_=>rfl
 |2,_=>rfl
 |3,_=>rfl
attribute [local irreducible] Op.shift Go.bits in
theorem sD(c:C4)(b:Nat)(hb:b<256)(w:World):Calls aB 105 #[oy c,av az (b:Int)] w (cB (ret (.bool (c.mem b))) w):=by
 refine enter (args:=[aQ #[v64 c.a,v64 c.b,v64 c.c,v64 c.d],av az (b:Int)]) (n:=14) Tryz.func105 I I I ?_;refine cC (bz (bR I I I λg=>?_));have h1:b/64<4:=by omega
 have hc:(#[v64 c.a,v64 c.b,v64 c.c,v64 c.d]:Array Value)[0+b/64]?=aj (.int .u64 ((c.get (b/64)).toNat:Int)):=by rw[cV];exact DF c _ h1
 have hx:=(c.get (b/64)).isLt;have Bo:∀w,(iq .shr .i64 (b:Int) .u64 6).run aB w= .ok (av az ((b/64:Nat):Int)) w:=λw=>Xx b 6 64 .i64 .u64 I aiT w;have zT:∀w,(iq .shr .u64 ((c.get (b/64)).toNat:Int) .i64 ((b %64:Nat):Int)).run aB w= .ok (.int .u64 (((c.get (b/64)).toNat/2^(b %64):Nat):Int)) w:=λw=>Xx _ (b %64) 64 .u64 .i64 I J w;have hm:c.mem b=decide ((c.get (b/64)).toNat/2^(b %64) %2=1):=by unfold C4.mem;rw[Xp]
 rw[hm];have hd:(c.get (b/64)).toNat/2^(b %64)<=(c.get (b/64)).toNat:=Aw _ _;have ra:=LI b hb;generalize (c.get (b/64)).toNat=x at*;generalize b %64=k at*;generalize b/64=i at*;generalize x/2^k=y at*;have ha:bits .and .u64 (y:Int) 1=((y %2:Nat):Int):=by
  have:=bits_and_u64_nat y 1 J aiT;rw[Nat.and_one_is_mod]at this;exact this
 repeat(first|refine GC ?_|refine gV (o8 I I Bo) ?_|refine gV (hJ bM.eq aK.ty I I h1) ?_|refine gV (aC aK.ty I (aH (i:=0) I hc)) ?_|refine gV (nh I I ra) ?_|refine gV (o8 I I zT) ?_|refine gV (nh I I ha) ?_|refine gV (dg I I I) ?_|refine GB ?_)
 exact dD I I (by congr 1;rw[decide_eq_decide];omega)
attribute [local irreducible] Op.shift Go.bits in
theorem sE(c:C4)(b:Nat)(hb:b<256)(g:Nat)(w:World)(B:bO)(hm:Mem B [aP g (dV c).toArray 233] w):
 Calls aB 107 #[aJ (aj ⟨g,0,ak⟩),av az (b:Int)] w (cY ⟨λ(_:Unit)=>True,λ_=> .tuple #[],λ_=>[aP g (dV (c.bit b)).toArray 233]⟩ B):=by
 refine dm hm (args:=[aJ (aj ⟨g,0,ak⟩),av az (b:Int)]) (n:=16) Tryz.func107 I I I ?_;clear hm;have h1:b/64<4:=by omega
 have hc:(dV c).toArray[0+b/64]?=aj (.int .u64 ((c.get (b/64)).toNat:Int)):=by rw[cV];exact X7 c _ h1
 have Bo:∀w,(iq .shr .i64 (b:Int) .u64 6).run aB w= .ok (av az ((b/64:Nat):Int)) w:=λw=>Xx b 6 64 .i64 .u64 I aiT w;have ra:=LI b hb;have Xt:=ahq (P:=aB) (b %64) J;have tu:=X8 c (b/64) h1 (c.get (b/64)|||io 64 (2^(b %64)));have aba:c.bit b=c.set (b/64) (c.get (b/64)|||io 64 (2^(b %64))):=rfl;rw[<-aba]at tu;have KN:bits .or .u64 ((c.get (b/64)).toNat:Int) ((2^(b %64):Nat):Int)=(((c.get (b/64))|||io 64 (2^(b %64))).toNat:Int):=by
  have hp:=X6 (j:=b %64) J;rw[bits_or_u64_nat _ _ (c.get (b/64)).isLt hp,BitVec.toNat_or,CZ,Nat.mod_eq_of_lt hp]
 have hm0:b %64<64:=by omega
 generalize c.get (b/64)|||io 64 (2^(b %64))=z at*
 generalize (c.get (b/64)).toNat=x at*;generalize 2^(b %64)=y at*;generalize b %64=k at*;generalize b/64=i at*;generalize c.bit b=c' at*;have hsz:dv (0+i) (dV c).toArray.size=true:=by rw[Nat.blt_eq];show 0+i<4;omega
 rw[<-cV i]at tu;refine dN ([]) (.calm 0 (.calm 1 (.calm 2 (.calm 3 (.calm 4 (.calm 6 (.calm 7 (.calm 8 (.calm 10 (.one 5 (.calm 9 (.calm 11 (.one 12 (.done)))))))))))))) (bW []) ?_
 repeat(first|refine GW ?_|(refine GN ?_;first|refine QW (o8 I I Bo) ?_|refine QW (hJ bM.eq aK.ty I I h1) ?_|refine QW (nh I I ra) ?_|refine QW (Dd I I Xt) ?_))
 refine aL I (dx (aC aK.ty I (aH (i:=0) I hc)) I I I (aM (bW []) ?_))
 repeat(first|refine GW ?_|(refine GN ?_;first|refine QW (yG I I KN) ?_|refine QW (hJ bM.eq aK.ty I I h1) ?_))
 refine aL I (bU (i:=0) I I I I I hsz (aM (bW []) ?_))
 try refine GW ?_
 try refine GA ?_
 exact jG I λw hm=>hm.bV (S:=⟨λ(_:Unit)=>True,λ_=> .tuple #[],λ_=>[aP g (dV c').toArray 233]⟩) () trivial [0] aiT (by rw[<-tu];rfl)
end cI
namespace eo
open dl gj Go.Lib
def uK(l:List Int):List Int:=l.mergeSort λx y=>decide (x<=y)
def qR(a b:List Int):List Int:=compact (uK (a++b))
theorem I7(l:List Int):(uK l).Pairwise (· <= ·):=by
 have:=List.pairwise_mergeSort (le:=λx y:Int=>decide (x<=y)) (λa b c=>by simp;omega) (λa b=>by simp;omega) l;exact this.imp (by simp)
theorem tf{d:Array Int}(hs:∀i j,i<=j->j<d.size->d[i]! <=d[j]!):∀m,m<=d.size->(compactUpTo d m).Pairwise (· < ·)/\(∀x,x∈compactUpTo d m↔∃j,j<m/\d[j]! =x)
 |0,_=>⟨by unfold compactUpTo;simp,λx=>by unfold compactUpTo;simp⟩
 | m + 1,hm=>by
  obtain⟨h1,h2⟩:=tf hs m J;rw[compactUpTo_succ]
  by_cases hk:keeps d m=aD
  ·rw[if_pos hk]
   have mT:m=0\/d[m]! ≠d[m-1]! :=by unfold keeps at hk;simpa using hk
   refine⟨List.pairwise_append.2 ⟨h1,Xg _ _,λx hx y hy=>?_⟩,λx=>?_⟩
   ·rw[dR.1 hy]
    obtain⟨j,hj,rfl⟩:=(h2 x).1 hx;have a1:=hs j (m-1) J J;have a2:=hs (m-1) m J J;rcases mT with h0|h0
    omega;omega
   rw[fu,dR,h2]
   constructor
   ·rintro(⟨j,hj,rfl⟩|rfl)
    exact⟨j,by omega,rfl⟩;exact⟨m,by omega,rfl⟩
   rintro⟨j,hj,rfl⟩
   by_cases c:j=m
   subst c;exact .inr I;exact .inl ⟨j,by omega,rfl⟩
  rw[if_neg hk,dW];refine⟨h1,λx=>?_⟩;rw[h2]
  constructor
  rintro⟨j,hj,rfl⟩;exact⟨j,by omega,rfl⟩;rintro⟨j,hj,rfl⟩
  by_cases c:j=m
  ·subst c
   have mT:¬(j=0\/d[j]! ≠d[j-1]!):=by unfold keeps at hk;simpa using hk
   have e:d[j]! =d[j-1]! :=by
    rcases ad6 (d[j]! =d[j-1]!)with h|h
    exact h;exact absurd (.inr h) mT
   have:j≠0:=λh=>mT (.inl h);exact⟨j-1,by omega,e.symm⟩
  exact⟨j,by omega,rfl⟩
theorem O4{l:List Int}(h:l.Pairwise (· <= ·)):∀i j,i<=j->j<l.toArray.size->l.toArray[i]! <=l.toArray[j]! :=by
 intro i j re hj;have oU:j<l.length:=by simpa using hj
 rw[getElem!_pos l.toArray i (by simp;omega),getElem!_pos l.toArray j hj]
 by_cases c:i=j
 subst c;exact Int.le_refl _;exact IL.1 h i j J oU J
theorem CC(a b:List Int):(qR a b).Pairwise (· < ·)/\∀x,x∈qR a b↔x∈a\/x∈b:=by
 have hs:=O4 (I7 (a++b));obtain⟨h1,h2⟩:=tf hs (uK (a++b)).length (by simp);refine⟨h1,λx=>?_⟩;unfold qR compact;rw[h2,<-fu,<-List.mem_mergeSort (l:=a++b) (le:=λx y:Int=>decide (x<=y))];show _↔x∈uK (a++b)
 rw[hY]
 constructor
 rintro⟨j,hj,rfl⟩;exact⟨j,hj,by rw[getElem!_pos _ j (by simpa using hj)];rfl⟩;rintro⟨j,hj,rfl⟩;exact⟨j,hj,by rw[getElem!_pos _ j (by simpa using hj)];rfl⟩
def Hj(n:Nat)(l:List Int):Prop:=l.Pairwise (· < ·)/\∀x∈l,0<=x/\x<n
theorem jL{n:Nat}{l:List Int}(h:Hj n l):l.length<=n:=by
 have key:∀(l:List Int) (lo:Int),l.Pairwise (· < ·)->(∀x∈l,lo<=x/\x<n)->lo<=n->(l.length:Int)<=n-lo:=by
  intro l
  induction l with
  |nil=>intro lo _ _ h;show(0:Int)<=_;omega
  |cons x r ih=>
   intro lo hp hx _;rw[Xj]at hp;have h1:=hx x (gd ..);have:=ih (x+1) hp.2 (λy hy=>⟨by have:=hp.1 y hy;omega,(hx y (kM _ hy)).2⟩) J;rw[de];omega
 have:=key l 0 h.1 h.2 J;omega
theorem wz(n:Nat):Hj n []:=⟨ad8,λx h=>by cases h⟩
theorem nO{n m:Nat}{l:List Int}(h:Hj n l)(hm:n<=m):Hj m l:=⟨h.1,λx hx=>by have:=h.2 x hx;omega⟩
theorem sF{n:Nat}{a b:List Int}(ha:∀x∈a,0<=x/\x<n)(hb:∀x∈b,0<=x/\x<n):Hj n (qR a b):=
 ⟨(CC a b).1,λx hx=>((CC a b).2 x|>.1 hx).elim (ha x) (hb x)⟩
theorem D_:∀{a b:List Int},a.Pairwise (· < ·)->b.Pairwise (· < ·)->(∀x,x∈a↔x∈b)->a=b
 |[],[],_,_,_=>rfl
 |[],y::b,_,_,h=>by have:=(h y).2 (gd ..);cases this
 |x::a,[],_,_,h=>by have:=(h x).1 (gd ..);cases this
 | x ::a,y::b,ha,hb,h=>by
  rw[Xj]at ha hb;have hxy:x=y:=by
   rcases dA.1 ((h x).1 (gd ..))with e|e
   exact e;rcases dA.1 ((h y).2 (gd ..))with e'|e'
   exact e'.symm;have h1:=hb.1 x e;have h2:=ha.1 y e';omega
  subst hxy;rw[D_ ha.2 hb.2 λz=>?_]
  constructor
  ·intro hz
   rcases dA.1 ((h z).1 (kM _ hz))with e|e
   subst e;exact absurd (ha.1 z hz) J;exact e
  intro hz;rcases dA.1 ((h z).2 (kM _ hz))with e|e
  subst e;exact absurd (hb.1 z hz) J;exact e
structure PS where
 aZ:List C4
 rules:List Int
 follow:List (List Int)
 last:List Bool
structure Shape where
 empty:Bool
 first:List Int
 last:List Int
def ft(mW:List (List Int))(last first:List Int):List (List Int):=last.foldl (λf x=>f.set x.toNat (qR (f.getD x.toNat []) first)) mW
def cL(bP:Int):Re->PS->Shape×PS
  | .empty,p=>(⟨aD,[],[]⟩,p)
  | .none,p=>(⟨aE,[],[]⟩,p)
  | .byte c,p=>(⟨aE,[(p.aZ.length:Int)],[(p.aZ.length:Int)]⟩,⟨p.aZ++[c],p.rules++[bP],p.follow++[[]],p.last++[aE]⟩)
  | .star a,p=>(⟨aD,(cL bP a p).1.first,(cL bP a p).1.last⟩,{(cL bP a p).2 with follow:=ft (cL bP a p).2.follow (cL bP a p).1.last (cL bP a p).1.first})
  | .ID a b,p=>(⟨(cL bP a p).1.empty||(cL bP b (cL bP a p).2).1.empty,qR (cL bP a p).1.first (cL bP b (cL bP a p).2).1.first,qR (cL bP a p).1.last (cL bP b (cL bP a p).2).1.last⟩,(cL bP b (cL bP a p).2).2)
  | .IC a b,p=>
    (⟨(cL bP a p).1.empty&&(cL bP b (cL bP a p).2).1.empty,
      if(cL bP a p).1.empty then qR (cL bP a p).1.first (cL bP b (cL bP a p).2).1.first else(cL bP a p).1.first,
      if(cL bP b (cL bP a p).2).1.empty then qR (cL bP a p).1.last (cL bP b (cL bP a p).2).1.last else(cL bP b (cL bP a p).2).1.last⟩,
     {(cL bP b (cL bP a p).2).2 with follow:=ft (cL bP b (cL bP a p).2).2.follow (cL bP a p).1.last (cL bP b (cL bP a p).2).1.first})
structure LJ(p:PS):Prop where
 rules:p.rules.length=p.aZ.length
 follow:p.follow.length=p.aZ.length
 last:p.last.length=p.aZ.length
 ris:∀l∈p.follow,Hj p.aZ.length l
theorem kP(mW:List (List Int))(last first:List Int):(ft mW last first).length=mW.length:=by
 unfold ft
 induction last generalizing mW with
 |nil=>rfl
 |cons x r ih=>rw[Xn,ih,IQ]
theorem sG{n:Nat}{first:List Int}(hf:∀x∈first,0<=x/\x<n):∀(last:List Int) (mW:List (List Int)),(∀l∈mW,Hj n l)->∀l∈ft mW last first,Hj n l
 |[],mW,h=>h
 | x ::r,mW,h=>by
  show ∀l∈ft (mW.set x.toNat (qR (mW.getD x.toNat []) first)) r first,Hj n l
  refine sG hf r _ λl hl=>?_;rcases Xf hl with hl|rfl
  exact h l hl;refine sF (λy hy=>?_) hf
  by_cases c:x.toNat<mW.length
  ·rw[b9,bD c]at hy
   exact(h _ (cD c)).2 y hy
  rw[b9,List.getElem?_eq_none J]at hy
  cases hy
theorem lB(bP:Int):∀(e:Re) (p:PS),LJ p->LJ (cL bP e p).2/\p.aZ.length<=(cL bP e p).2.aZ.length/\(cL bP e p).2.aZ.length<=p.aZ.length+e.size/\Hj (cL bP e p).2.aZ.length (cL bP e p).1.first/\Hj (cL bP e p).2.aZ.length (cL bP e p).1.last
 | .empty,p,h=>⟨h,bx _,Av _ _,wz _,wz _⟩
 | .none,p,h=>⟨h,bx _,Av _ _,wz _,wz _⟩
 | .byte c,p,h=>by
  have h1:Hj (p.aZ++[c]).length [(p.aZ.length:Int)]:=⟨Xg _ _,λx hx=>by rw[dR.1 hx,bI,lW];omega⟩;refine⟨⟨?_,?_,?_,λl hl=>?_⟩,?_,?_,h1,h1⟩;show(p.rules++[bP]).length=(p.aZ++[c]).length;rw[bI,bI,h.rules];rfl
  show(p.follow++[[]]).length=(p.aZ++[c]).length;rw[bI,bI,h.follow];rfl
  show(p.last++[aE]).length=(p.aZ++[c]).length;rw[bI,bI,h.last];rfl
  ·have hl:l∈p.follow++[[]]:=hl
   show Hj (p.aZ++[c]).length l
   rcases fu.1 hl with hl|hl
   exact nO (h.ris l hl) (by simp);rw[dR.1 hl];exact wz _
  show p.aZ.length<=(p.aZ++[c]).length;simp
  show(p.aZ++[c]).length<=_;simp[Re.size]
 | .star a,p,h=>by
  obtain⟨h1,h2,h3,h4,h5⟩:=lB bP a p h;exact⟨⟨h1.rules,(kP _ _ _).trans h1.follow,h1.last,sG h4.2 _ _ h1.ris⟩,h2,by show _<=p.aZ.length+(a.size+1);exact fw h3 J,h4,h5⟩
 | .ID a b,p,h=>by
  obtain⟨h1,h2,h3,h4,h5⟩:=lB bP a p h;obtain⟨k1,k2,k3,k4,k5⟩:=lB bP b _ h1;exact⟨k1,fw h2 k2,by show _<=p.aZ.length+(a.size+b.size+1);exact fw k3 J,sF (nO h4 k2).2 k4.2,sF (nO h5 k2).2 k5.2⟩
 | .IC a b,p,h=>by
  obtain⟨h1,h2,h3,h4,h5⟩:=lB bP a p h;obtain⟨k1,k2,k3,k4,k5⟩:=lB bP b _ h1;refine⟨⟨k1.rules,(kP _ _ _).trans k1.follow,k1.last,sG k4.2 _ _ k1.ris⟩,fw h2 k2,by show _<=p.aZ.length+(a.size+b.size+1);exact fw k3 J,?_,?_⟩
  ·show Hj _ (if _ then _ else _)
   split;exact sF (nO h4 k2).2 k4.2;exact nO h4 k2
  show Hj _ (if _ then _ else _)
  split;exact sF (nO h5 k2).2 k5.2;exact k5
end eo
namespace eo
open dl gj
structure MS where
 ps:PS
 first:List Int
 empty:List Bool
def MS.zero:MS:=⟨⟨[],[],[],[]⟩,[],[]⟩
def fP(last:List Bool)(l:List Int):List Bool:=l.foldl (λb x=>b.set x.toNat aD) last
def wW(i:Nat)(m:MS)(e:Re):MS:=
 ⟨{(cL i e m.ps).2 with last:=fP (cL i e m.ps).2.last (cL i e m.ps).1.last},qR m.first (cL i e m.ps).1.first,m.empty++[(cL i e m.ps).1.empty]⟩
def lz:Nat->MS->List Re->Int×MS
 |_,m,[]=>(0,m)
 |i,m,e::r=>if 200<(wW i m e).ps.aZ.length then(2,.zero)else lz (i+1) (wW i m e) r
abbrev LK(r:Rx):Int:=(mh r 1 0).1
def jM:List Rx->Int
 |[]=>0
 |r::l=>if LK r≠0 then LK r else jM l
structure O5(m:MS):Prop where
 ps:LJ m.ps
 first:Hj m.ps.aZ.length m.first
theorem Ea(last:List Bool)(l:List Int):(fP last l).length=last.length:=by
 unfold fP
 induction l generalizing last with
 |nil=>rfl
 |cons x r ih=>rw[Xn,ih,IQ]
theorem TZ(last:List Bool)(l:List Int){k:Nat}(hk:k<l.length):fP last (l.take (k+1))=(fP last (l.take k)).set l[k].toNat true:=by
 unfold fP;rw[iv hk,IP];rfl
theorem I8:O5 .zero:=⟨⟨rfl,rfl,rfl,λl h=>by cases h⟩,wz _⟩
theorem RJ(i:Nat){m:MS}(h:O5 m)(e:Re):O5 (wW i m e)/\(wW i m e).ps.aZ.length<=m.ps.aZ.length+e.size:=by
 obtain⟨h1,h2,h3,h4,h5⟩:=lB i e m.ps h.ps;exact⟨⟨⟨h1.rules,h1.follow,(Ea _ _).trans h1.last,h1.ris⟩,sF (nO h.first h2).2 h4.2⟩,h3⟩
theorem Hk:∀{l:List Rx},jM l=0->∀r∈l,LK r=0
 |[],_,r,hr=>by cases hr
 | q::l,h,r,hr=>by
  rw[jM]at h;split at h;contradiction
  rename_i c
  rcases dA.1 hr with rfl|hr
  simpa using c
  exact Hk h r hr
end eo
namespace eo
open dl gj
structure I9(m:MS):Prop where
 ok:O5 m
 rules:∀r∈m.ps.rules,0<=r/\r<m.empty.length
 B7:m.ps.aZ.length<=200
 some:0<m.empty.length
 qS:m.empty.length<=20
theorem nr(bP:Int):∀(e:Re) (p:PS),(∀r∈p.rules,0<=r/\r<=bP)->0<=bP->∀r∈(cL bP e p).2.rules,0<=r/\r<=bP
 | .empty,p,h,_=>h
 | .none,p,h,_=>h
 | .byte c,p,h,h0=>λr hr=>by
  have hr:r∈p.rules++[bP]:=hr;rcases fu.1 hr with hr|hr
  exact h r hr;rw[dR.1 hr];omega
 | .star a,p,h,h0=>nr bP a p h h0
 | .ID a b,p,h,h0=>nr bP b _ (nr bP a p h h0) h0
 | .IC a b,p,h,h0=>nr bP b _ (nr bP a p h h0) h0
theorem I_:∀(es:List Re) (i:Nat) (m m':MS),O5 m->m.empty.length=i->(∀r∈m.ps.rules,0<=r/\r<i)->m.ps.aZ.length<=200->lz i m es=(0,m')->O5 m'/\m'.empty.length=i+es.length/\(∀r∈m'.ps.rules,0<=r/\r<(i+es.length:Nat))/\m'.ps.aZ.length<=200
 | [],i,m,m',h1,h2,h3,h4,h=>by
  cases h
  exact⟨h1,h2,λr hr=>by have:=h3 r hr;simpa using this,h4⟩
 | e ::r,i,m,m',h1,h2,h3,h4,h=>by
  rw[lz]at h;split at h
  cases h
  rename_i c
  have:=I_ r (i+1) (wW i m e) m' (RJ i h1 e).1 (by show(m.empty++[_]).length=_;simp[h2]) (λx hx=>by
   have:=nr i e m.ps (λr hr=>by have:=h3 r hr;omega) J x hx;omega) J h
  rw[de];rw[show i+(r.length+1)=i+1+r.length by omega];exact this
theorem CD{es:List Re}{m:MS}(h0:0<es.length)(h20:es.length<=20)(h:lz 0 .zero es=(0,m)):I9 m:=by
 obtain⟨h1,h2,h3,h4⟩:=I_ es 0 .zero m I8 rfl (λr hr=>by cases hr) (bH _) h;rw[cV]at h2 h3;exact⟨h1,λr hr=>by have:=h3 r hr;omega,h4,by omega,by omega⟩
end eo
namespace ns
open dl gj eo cT
def pB(c:C4)(l:List Int):C4:=l.foldl (λc x=>c.bit x.toNat) c
def nt(p:PS)(s:C4):Nat->C4
 |0=>C4.zero
 |i+1=>if s.mem i=aD then pB (nt p s i) (p.follow.getD i [])else nt p s i
def mV(m:MS)(S:List C4):Nat->C4
 |0=>pB C4.zero m.first
 |n+1=>nt m.ps (S.getD n C4.zero) m.ps.follow.length
def I'(p:PS)(all:C4)(b:Nat):Nat->C4
 |0=>C4.zero
 |i+1=>if all.mem i=aD/\(p.aZ.getD i C4.zero).mem b=aD then(I' p all b i).bit i else I' p all b i
def Ja(p:PS)(all:C4)(b:Nat):C4:=I' p all b p.aZ.length
def kx(p:PS)(s:C4):Nat->Int
 |0=> -1
 |i+1=>if s.mem i=aD/\p.last.getD i aE=aD/\(kx p s i<0\/p.rules.getD i 0<kx p s i)then p.rules.getD i 0 else kx p s i
def wO(p:PS)(s:C4):Int:=kx p s p.aZ.length
structure DM where
 S:List C4
 tags:List Int
def iL(p:PS)(m:DM)(s:C4):Nat×DM:=if s∈m.S then(idx m.S s+1,m)else(m.S.length+1,⟨m.S++[s],m.tags++[wO p s]⟩)
def fQ(p:PS)(all:C4)(b:Nat)(r:Row)(m:DM):Row×DM:=
 if Ja p all b=C4.zero then(if h:b<256 then r.set b (-1)else r,m)else(if h:b<256 then(r.set b (-1)).set b ((iL p m (Ja p all b)).1:Int)else r,(iL p m (Ja p all b)).2)
def mF(p:PS)(all:C4):Nat->Nat->Row->DM->Row×DM
 |0,_,r,m=>(r,m)
 |f+1,b,r,m=>if 200<(fQ p all b r m).2.S.length+1 then fQ p all b r m else mF p all f (b+1) (fQ p all b r m).1 (fQ p all b r m).2
def p_(m:MS)(n:Nat)(d:DM):Row×DM:=mF m.ps (mV m d.S n) 256 0 (ee 256 0) d
def sH(m:MS):Nat->Nat->List Row->DM->Option (List Row×DM)
 |0,_,_,_=>ak
 |f+1,n,R,d=>if n<d.S.length+1 then(if 200<(p_ m n d).2.S.length+1 then ak else sH m f (n+1) (R++[(p_ m n d).1]) (p_ m n d).2)else aj (R,d)
def fj:List Bool->Int->Int
 |[],_=> -1
 |b::l,k=>if b=aD then k else fj l (k+1)
def uL(m:MS):Option (List Row×DM):=sH m 201 0 [] ⟨[],[fj m.empty 0]⟩
structure DOk(p:PS)(d:DM):Prop where
 nd:d.S.Nodup
 tags:d.tags.length=d.S.length+1
theorem LL{p:PS}{d:DM}(h:DOk p d)(s:C4):DOk p (iL p d s).2/\d.S.length<=(iL p d s).2.S.length/\(iL p d s).2.S.length<=d.S.length+1/\0<(iL p d s).1/\(iL p d s).1<(iL p d s).2.S.length+1:=by
 unfold iL
 by_cases c:s∈d.S
 ·rw[if_pos c]
  have:=ni c;exact⟨h,bx _,Xr _,DB _,by show idx d.S s+1<d.S.length+1;omega⟩
 rw[if_neg c];refine⟨⟨?_,?_⟩,?_,?_,DB _,?_⟩
 ·show(d.S++[s]).Nodup
  rw[Dz];exact⟨h.nd,by simp,λa ha b hb=>by rw[dR.1 hb];exact λe=>c (e▸ha)⟩
 ·show(d.tags++[_]).length=(d.S++[s]).length+1
  rw[bI,bI,h.tags];rfl
 show _<=(d.S++[s]).length;simp
 show(d.S++[s]).length<=_;simp
 show d.S.length+1<(d.S++[s]).length+1;simp
theorem abb{p:PS}{d:DM}(h:DOk p d)(all:C4)(b:Nat)(r:Row):DOk p (fQ p all b r d).2/\d.S.length<=(fQ p all b r d).2.S.length/\(fQ p all b r d).2.S.length<=d.S.length+1:=by
 unfold fQ;split;exact⟨h,bx _,Xr _⟩;obtain⟨h1,h2,h3,_⟩:=LL h (Ja p all b);exact⟨h1,h2,h3⟩
theorem LM{p:PS}(all:C4):∀(f b:Nat) (r:Row) (d:DM),DOk p d->d.S.length+1<=200->DOk p (mF p all f b r d).2/\(mF p all f b r d).2.S.length+1<=201/\d.S.length<=(mF p all f b r d).2.S.length
 |0,_,_,d,h,hl=>⟨h,(by show d.S.length+1<=201;omega),bx _⟩
 | f+1,b,r,d,h,hl=>by
  obtain⟨h1,h2,h3⟩:=abb h all b r;rw[mF];split;exact⟨h1,by omega,h2⟩;obtain⟨q1,q2,q3⟩:=LM all f (b+1) (fQ p all b r d).1 _ h1 J;exact⟨q1,q2,by omega⟩
theorem LN(c:C4)(l:List Int){k:Nat}(hk:k<l.length):pB c (l.take (k+1))=(pB c (l.take k)).bit l[k].toNat:=by
 unfold pB;rw[iv hk,IP];rfl
end ns
namespace cI
open Go.Shelf
def LO:Go.Shelf.Ren:=⟨λ|189=>101|125=>129|257=>128|128=>150|129=>151|294=>141|295=>142|296=>143|297=>144|298=>145|299=>146|216=>147|300=>148|301=>149|328=>163|329=>164|330=>165|331=>166|332=>167|215=>160|343=>171|n=>n,λ|28=>27|3=>3|46=>211|0=>0|51=>292|53=>75|4=>4|183=>286|182=>285|131=>112|5=>5|9=>9|218=>301|222=>229|228=>308|229=>309|n=>n,λ|n=>n⟩
theorem RL:Go.Proofs.Lays.n189 aB LO:={
 mixed:=by kernel_rfl
 f125:=Tryz.func129.trans (congrArg aj (by kernel_rfl))
 f128:=Tryz.func150.trans (congrArg aj (by kernel_rfl))
 f129:=Tryz.func151.trans (congrArg aj (by kernel_rfl))
 f189:=Tryz.func101.trans (congrArg aj (by kernel_rfl))
 f215:=Tryz.func160.trans (congrArg aj (by kernel_rfl))
 f216:=Tryz.func147.trans (congrArg aj (by kernel_rfl))
 f257:=Tryz.func128.trans (congrArg aj (by kernel_rfl))
 f294:=Tryz.func141.trans (congrArg aj (by kernel_rfl))
 f295:=Tryz.func142.trans (congrArg aj (by kernel_rfl))
 f296:=Tryz.func143.trans (congrArg aj (by kernel_rfl))
 f297:=Tryz.func144.trans (congrArg aj (by kernel_rfl))
 f298:=Tryz.func145.trans (congrArg aj (by kernel_rfl))
 f299:=Tryz.func146.trans (congrArg aj (by kernel_rfl))
 f300:=Tryz.func148.trans (congrArg aj (by kernel_rfl))
 f301:=Tryz.func149.trans (congrArg aj (by kernel_rfl))
 f328:=Tryz.func163.trans (congrArg aj (by kernel_rfl))
 f329:=Tryz.func164.trans (congrArg aj (by kernel_rfl))
 f330:=Tryz.func165.trans (congrArg aj (by kernel_rfl))
 f331:=Tryz.func166.trans (congrArg aj (by kernel_rfl))
 f332:=Tryz.func167.trans (congrArg aj (by kernel_rfl))
 f343:=Tryz.func171.trans (congrArg aj (by kernel_rfl))
 t0:=Tryz.underlying0
 a0:=Tryz.isAgg0
 z0:=Tryz.sizeOf0
 v0:=Tryz.zeroValue0
 t3:=Tryz.underlying3
 a3:=Tryz.isAgg3
 z3:=Tryz.sizeOf3
 v3:=Tryz.zeroValue3
 t4:=Tryz.underlying4
 a4:=Tryz.isAgg4
 z4:=Tryz.sizeOf4
 v4:=Tryz.zeroValue4
 t5:=Tryz.underlying5
 a5:=Tryz.isAgg5
 z5:=Tryz.sizeOf5
 v5:=Tryz.zeroValue5
 t9:=Tryz.underlying9
 a9:=Tryz.isAgg9
 z9:=Tryz.sizeOf9
 v9:=Tryz.zeroValue9
 t28:=Tryz.underlying27
 a28:=Tryz.isAgg27
 z28:=Tryz.sizeOf27
 v28:=Tryz.zeroValue27
 t46:=Tryz.underlying211
 a46:=Tryz.isAgg211
 z46:=Tryz.sizeOf211
 v46:=Tryz.zeroValue211
 t51:=Tryz.underlying292
 a51:=Tryz.isAgg292
 z51:=Tryz.sizeOf292
 v51:=Tryz.zeroValue292
 t53:=Tryz.underlying75
 a53:=Tryz.isAgg75
 z53:=Tryz.sizeOf75
 v53:=Tryz.zeroValue75
 t131:=Tryz.underlying112
 a131:=Tryz.isAgg112
 z131:=Tryz.sizeOf112
 v131:=Tryz.zeroValue112
 t182:=Tryz.underlying285
 a182:=Tryz.isAgg285
 z182:=Tryz.sizeOf285
 v182:=Tryz.zeroValue285
 t183:=Tryz.underlying286
 a183:=Tryz.isAgg286
 z183:=Tryz.sizeOf286
 v183:=Tryz.zeroValue286
 t218:=Tryz.underlying301
 a218:=Tryz.isAgg301
 z218:=Tryz.sizeOf301
 v218:=Tryz.zeroValue301
 t222:=Tryz.underlying229
 a222:=Tryz.isAgg229
 z222:=Tryz.sizeOf229
 v222:=Tryz.zeroValue229
 t228:=Tryz.underlying308
 a228:=Tryz.isAgg308
 z228:=Tryz.sizeOf308
 v228:=Tryz.zeroValue308
 t229:=Tryz.underlying309
 a229:=Tryz.isAgg309
 z229:=Tryz.sizeOf309
 v229:=Tryz.zeroValue309}
open Go.Sort Go.RowKit in
theorem slices_Sort_int(BZ off cap:Nat)(zs:List Int)(w:World)(hH:Holds (av .i64) w BZ off zs.toArray)(hblk:BZ<w.heap.size)(hsz:zs.length<4611686018427387904):
 Calls aB 101 #[ap (aj ⟨BZ,off,ak⟩) zs.length cap] w λe w'=>
  e= .returned (.tuple #[])/\∃n os,w'=grow (putRow (av .i64) (Sort.ahead w n) BZ off (zs.mergeSort λx y=>decide (x<=y)).toArray) os:=Any.slices_Sort_int RL BZ off cap zs w hH hblk hsz
def FW:Go.Shelf.Ren:=⟨λ|20=>102|n=>n,λ|22=>27|3=>3|4=>4|0=>0|n=>n,λ|n=>n⟩
theorem Hl:Go.Proofs.Lays2.n20 aB FW:={
 mixed:=by kernel_rfl
 f20:=Tryz.func102.trans (congrArg aj (by kernel_rfl))
 t0:=Tryz.underlying0
 a0:=Tryz.isAgg0
 z0:=Tryz.sizeOf0
 v0:=Tryz.zeroValue0
 t3:=Tryz.underlying3
 a3:=Tryz.isAgg3
 z3:=Tryz.sizeOf3
 v3:=Tryz.zeroValue3
 t4:=Tryz.underlying4
 a4:=Tryz.isAgg4
 z4:=Tryz.sizeOf4
 v4:=Tryz.zeroValue4
 t22:=Tryz.underlying27
 a22:=Tryz.isAgg27
 z22:=Tryz.sizeOf27
 v22:=Tryz.zeroValue27
 i3:=by kernel_rfl}
open Go.RowKit Go.Lib Go.Sort in
theorem slices_Compact_int(BZ off cap:Nat)(zs:List Int)(w:World)(hH:Holds (av .i64) w BZ off zs.toArray)(hsz:zs.length<=9223372036854775807)(ly:zs.length<=cap):
 Calls aB 102 #[ap (aj ⟨BZ,off,ak⟩) zs.length cap] w λe w'=>e= .returned (ap (aj ⟨BZ,off,ak⟩) (qM zs).length cap)/\∃q,w'=putRow (av .i64) (Sort.ahead w q) BZ off (qM zs++da (zs.length-(qM zs).length) 0).toArray:=Any.slices_Compact_int Hl BZ off cap zs w hH hsz ly
open Go.RowKit Go.Lib Go.Sort in
theorem slices_Compact_int_empty(a:Option Addr)(cap:Nat)(w:World):
 Calls aB 102 #[ap a 0 cap] w λe w'=>e= .returned (ap a 0 cap)/\w'=w:=Any.slices_Compact_int_empty Hl a cap w
open Go.RowKit Go.Sort in
theorem slices_Sort_int_none(p:Option Addr)(cap:Nat)(w:World):
 Calls aB 101 #[ap p 0 cap] w λe w'=>e= .returned (.tuple #[])/\w'=w:=Any.slices_Sort_int_none RL p cap w
end cI
namespace cI
open Go.RowKit cU dS Go.Sort
theorem T1(w:World)(n g:Nat)(d:Array Int)(os:Array Obj){k:Nat}(hk:k<w.heap.size)(hg:k≠g):(grow (putRow (av .i64) (Go.Sort.ahead w n) g 0 d) os).heap[k]?=w.heap[k]?:=by
 rw[heap_grow_old _ _ (by rw[size_putRow];exact hk)];show(w.heap.modify g _)[k]?=w.heap[k]?
 rw[Dw,if_neg (λh=>hg h.symm)]
theorem RM{B:bO}{w:World}{e:TypeId}{g cap m:Nat}{zs:List Int}(hm:Mem B [a_ e 1 (ap (aj ⟨g,0,ak⟩) m cap) m (zs.map (av .i64))] w)(d:Array Int)(hd:d.size=m)(m':Nat)(h':m'<=m)(n:Nat)(os:Array Obj):
 Mem B [a_ e 1 (ap (aj ⟨g,0,ak⟩) m' cap) m' ((d.toList.take m').map (av .i64))] (grow (putRow (av .i64) (Go.Sort.ahead w n) g 0 d) os):=by
 have ho:w.ownsRow 0 e 1 (ap (aj ⟨g,0,ak⟩) m cap) m (zs.map (av .i64)):=hm.get (i:=0) I;obtain⟨hl,hr⟩:=ho;rcases hr with⟨h,_⟩|⟨g2,O6,jS,hv,_,hg,hc,hx,hs,ht⟩
 ·cases h
 cases hv
 have LP:B.may g:=(hm.owns.all 0 _ I).2 g (.inl I);have hgw:g<w.heap.size:=(jm.1 hg).1;have X9:(grow (putRow (av .i64) (Go.Sort.ahead w n) g 0 d) os).heap[g]?=aj (.cells (putCells (av .i64) 0 d jS) e (0,0)):=by
  rw[heap_grow_old _ _ (by rw[size_putRow];exact hgw)];show(w.heap.modify g (onCells (putCells (av .i64) 0 d)))[g]?=_
  rw[Dw,if_pos I,hg];rfl
 refine⟨⟨hm.low.os,hm.low.tape,hm.low.output,?_,λk hk hx=>?_⟩,eH.one ⟨?_,.inr ⟨g,cap,_,rfl,bH _,X9,by omega,hx,?_,?_⟩⟩ λk hk=>?_⟩
 ·rw[size_grow,size_putRow];exact fw hm.low.size (Av _ _)
 ·have hkg:k≠g:=λe=>by
   subst e;rcases LP with h|h
   omega;exact hx h
  rw[T1 w n g d os (jp hk hm.low.size) hkg];exact hm.low.block k hk hx
 ·rw[dF,iZ,Array.length_toList,hd];omega
 ·unfold putCells;rw[Array.size_mapIdx];exact hs
 ·apply nb
  intro j;rw[kH,qO]
  by_cases hj:j<m'
  ·have hjc:j<jS.size:=by omega
   rw[if_pos hj,eS,qO,if_pos hj,qL,qL];unfold putCells;rw[Array.getElem?_mapIdx,xL hjc,Option.map_some,if_pos ⟨bH _,by omega⟩,Nat.sub_zero,getElem!_pos d j J,xL (by omega:j<d.size)];rfl
  rw[if_neg hj,eS,qO,if_neg hj];rfl
 ·rcases hk with h|h
  simp only[a_,Value.ownBlock,df]at h;subst h;exact LP;exact h.elim
theorem Hm{w:World}{e:TypeId}{g cap m:Nat}{zs:List Int}(ho:w.ownsRow 0 e 1 (ap (aj ⟨g,0,ak⟩) m cap) m (zs.map (av .i64))):Holds (av .i64) w g 0 zs.toArray/\g<w.heap.size/\m=zs.length/\m<=cap:=by
 obtain⟨hl,hr⟩:=ho;rcases hr with⟨h,_⟩|⟨g2,O6,jS,hv,_,hg,hc,hx,hs,ht⟩
 cases h
 cases hv
 rw[dF]at hl;refine⟨λj hj=>?_,(jm.1 hg).1,by omega,hc⟩;have oU:j<zs.length:=by simpa using hj
 have hcj:jS[j]?=aj (av az zs[j]):=by
  have:=congrArg (λl=>l[j]?) ht;rw[kH,qO,if_pos J,qL,eS,bD oU]at this;exact this
 refine⟨?_,?_⟩;rw[cell_of_row w g (0+j) _ _ _ hg,cV,hcj,getElem!_pos zs.toArray j hj];rfl;unfold World.frozen?;rw[hg];simp
def uK(l:List Int):List Int:=l.mergeSort λx y=>decide (x<=y)
theorem LQ(v:Value)(l:List Int)(w:World)(B:bO)(hm:Mem B [a_ 3 1 v l.length (l.map (av .i64))] w)(hl:l.length<4611686018427387904):
 Calls aB 101 #[v] w (cY ⟨λ(_:Unit)=>True,λ_=> .tuple #[],λ_=>[a_ 3 1 v l.length ((uK l).map (av .i64))]⟩ B):=by
 have ho:w.ownsRow 0 3 1 v l.length (l.map (av .i64)):=hm.get (i:=0) I;have Cv:=ho;rcases ho.2 with⟨rfl,h0⟩|⟨g,cap,jS,rfl,_,hg,hc,hx,hs,ht⟩
 ·refine(slices_Sort_int_none ak 0 w).mono λe w' ⟨he,hw⟩=>⟨(),trivial,he,?_⟩
  obtain rfl:l=[]:=OG.1 h0;rw[hw];exact(by simpa[uK]using hm)
 ·obtain⟨h1,h2,h3,h4⟩:=Hm Cv
  refine(slices_Sort_int g 0 cap l w h1 h2 hl).mono λe w' ⟨he,n,os,hw⟩=>⟨(),trivial,he,?_⟩;have hlen:(uK l).length=l.length:=Xi _;have:=RM hm (uK l).toArray (by simp[hlen]) l.length (bx _) n os;rw[gB (by simp[hlen])]at this;rw[hw];exact this
theorem Eb(v:Value)(l:List Int)(w:World)(B:bO)(hm:Mem B [a_ 3 1 v l.length (l.map (av .i64))] w):
 Calls aB 102 #[v] w (cY ⟨λ(_:Value)=>True,λv'=>v',λv'=>[a_ 3 1 v' (qM l).length ((qM l).map (av .i64))]⟩ B):=by
 have ho:w.ownsRow 0 3 1 v l.length (l.map (av .i64)):=hm.get (i:=0) I;have Cv:=ho;rcases ho.2 with⟨rfl,h0⟩|⟨g,cap,jS,rfl,_,hg,hc,hx,hs,ht⟩
 ·refine(slices_Compact_int_empty ak 0 w).mono λe w' ⟨he,hw⟩=>⟨ap ak 0 0,trivial,he,?_⟩
  obtain rfl:l=[]:=OG.1 h0;rw[hw];exact hm
 ·obtain⟨h1,h2,h3,h4⟩:=Hm Cv
  refine(slices_Compact_int g 0 cap l w h1 (by unfold maxLen at hx;omega) J).mono λe w' ⟨he,n,hw⟩=>⟨ap (aj ⟨g,0,ak⟩) (qM l).length cap,trivial,he,?_⟩;have hle:(qM l).length<=l.length:=Lib.compact_length_le l;have:=RM hm (qM l++da (l.length-(qM l).length) 0).toArray (by simp;omega) (qM l).length hle n #[];rw[grow_empty]at this;simp only[List.toList_toArray,List.take_left]at this;rw[hw];exact this
end cI
namespace cI
open Go.RowKit cU dS
theorem RN(l:List Int):∀u∈l.flatMap cU.ez,u.oneCell'=true:=by
 intro u hu;obtain⟨f,_,h⟩:=Au.1 hu;simp only[cU.ez,dA,fv,or_false]at h;subst h;rfl
theorem LR(l:List Int):l.flatMap cU.ez=l.map (.int .i64):=cU.ac0 l
end cI
namespace cI
open Go.RowKit cU dS
theorem LS(a:Int):(cU.ez a).length=1:=rfl
theorem jY(v:Value)(l:List Int)(w:World)(hs:Sl w v l.length (l.flatMap cU.ez))(hl:l.length*8<=140737488355328):
 Calls aB 53 #[v] w (cB (cK 3 1 l.length (l.flatMap cU.ez) id) w):=by
 obtain⟨base,cap,rfl,ly,kl,eL⟩:=hs;unfold maxLen at kl;refine enter (args:=[ap base l.length cap]) (n:=8) Tryz.func53 I I I ?_;have ry:∀w',Gr w w'->Sl w' (ap base l.length cap) l.length (l.flatMap cU.ez):=λw' hg=>Sl.gr ⟨base,cap,rfl,ly,kl,eL⟩ hg;clear eL
 cases base with
 | none=>
  repeat(first|refine GC ?_|refine gV (jV bM.eq I I I) ?_|refine GB ?_)
  have h0:l=[]:=by
   cases l with
   |nil=>rfl
   |cons x l=>obtain⟨_,_,h,_,_,h2⟩:=ry w (Gr.refl w);simp only[iX]at h;obtain⟨rfl,_⟩:=h;obtain⟨b,off,h,_⟩:=h2 (by simp);cases h
  subst h0;refine dK 3 1 ?_;exact cJ I I λw hm=>hm.meets (S:=cK 3 1 0 [] id) _ trivial [0] aiT I
 |some p=>
  repeat(first|refine GC ?_|refine gV (jV bM.eq I I I) ?_|refine GB ?_)
  refine wq I λg=>?_
  try refine GA ?_
  refine eK (i:=0) I (λw' hm=>ry w' hm.below) I I (k9 LS l) (RN l) J J I λv'=>?_;rw[eu]
  try refine GA ?_
  refine cJ I I λw hm=>?_;exact hm.meets (S:=cK 3 1 l.length (l.flatMap cU.ez) id) v' trivial [0] aiT (by simp[cK])
end cI
namespace cI
open Go.RowKit cU dS eo
theorem rz(l:List Int):l.flatMap cU.ez=l.map (av .i64):=by
 induction l with
 |nil=>rfl
 |cons x r ih=>rw[lO,ih];rfl
abbrev fY(v:Value)(l:List Int):cH:=a_ 3 1 v l.length (l.map (av .i64))
def th(l:List Int):Spec Value:=⟨λ_=>True,λv=>v,λv=>[fY v l]⟩
theorem ii(va vb:Value)(a b:List Int)(w:World)(ha:Sl w va a.length (a.map (av .i64)))(hb:Sl w vb b.length (b.map (av .i64)))(hla:a.length<=1000000)(hlb:b.length<=1000000):
 Calls aB 68 #[va,vb] w (cB (th (qR a b)) w):=by
 have gL:=λw' (hg:Gr w w')=>jY va a w' (by rw[rz];exact ha.gr hg) J;refine enter (args:=[va,vb]) (n:=14) Tryz.func68 I I I ?_
 try refine GA ?_
 refine aV (hZ aI.en I I) (λw hm=>gL _ hm.below) I I I ?_;intro v1 _;refine zL ?_;rw[rz]
 try refine GA ?_
 refine eK (i:=0) (bytes:=8) (m:=a.length) (xs:=a.map (av .i64)) (k:=b.length) (ys:=b.map (av .i64)) I (adP hb) I I (by rw[dF,kH]) (λu hu=>by obtain⟨x,_,rfl⟩:=eX.1 hu;rfl) J J I λv2=>?_;rw[<-eV,<-bI];refine zL ?_
 try refine GA ?_
 refine bm [0] [] aiT I I (hZ aI.en I I) (λw hm hb=>LQ v2 (a++b) w _ hb (by rw[bI];omega)) I I I ?_;intro _ _;refine zL ?_
 try refine GA ?_
 rw[show(a++b).length=(cI.uK (a++b)).length from(Xi _).symm];refine bm [0] [] aiT I I (hZ aI.en I I) (λw hm hb=>Eb v2 (cI.uK (a++b)) w _ hb) I I I ?_;intro v3 _;refine zL ?_
 try refine GA ?_
 exact cJ I I λw hm=>hm.meets (S:=th (qR a b)) v3 trivial [0] aiT I
end cI
namespace cI
open Go.RowKit cU dS eo
def y'(v:Value):List Value:=[v]
theorem LU(v:Value):(y' v).length=1:=rfl
theorem T2(l:List Value):l.flatMap y'=l:=by
 induction l with
 |nil=>rfl
 |cons x r ih=>rw[lO,ih];rfl
theorem Jb{w w':World}{e:TypeId}{size n:Nat}{v:Value}{xs:List Value}(h:w.ownsRow 0 e size v n xs)(hk:∀k,v.ownBlock=aj k->w'.heap[k]?=w.heap[k]?):w'.ownsRow 0 e size v n xs:=by
 refine⟨h.1,?_⟩;rcases h.2 with hn|⟨g,cap,jS,rfl,Ct,hg,rest⟩
 exact .inl hn;exact .inr ⟨g,cap,jS,rfl,Ct,by rw[hk g I];exact hg,rest⟩
def aee:wL (List Int):=
 ⟨1,λF w cs l=>∃v,cs=[v]/\(∀x∈l,cU.d_ x)/\w.ownsRow 0 3 1 v l.length (l.map (av .i64))/\∀k,v.ownBlock=aj k->F k,λ⟨_,h,_⟩=>by rw[h];rfl,
  λ⟨v,h1,h2,h3,h4⟩ hk=>⟨v,h1,h2,Jb h3 λk h=>hk k (h4 k h),h4⟩,λ⟨v,h1,h2,h3,h4⟩ hk=>⟨v,h1,h2,h3,λk h=>hk k (h4 k h)⟩⟩
abbrev yc(v:Value)(vs:List Value):cH:=a_ 27 1 v vs.length (vs.flatMap y')
abbrev uM(F:Nat->Prop)(vs:List Value)(mW:List (List Int)):cH:=ef aee F (vs.map y') mW
def RO(vc vr vf vfol vl ve:Value)(bP:Int):Array Value:=#[vc,vr,vf,vfol,vl,ve,av az bP]
theorem abc{α:Type}{s:wL α}{F F2:Nat->Prop}{fX:List (List Value)}{cs:List Value}{l:List α}{a:α}{w:World}{k:Nat}(he:(ef s F fX l).holds w)(hs:s.is F2 w cs a)(h2:∀k,F2 k->k<w.heap.size):
 (ef s (λk=>F k\/F2 k) (fX.set k cs) (l.set k a)).holds w:=by
 obtain⟨⟨h1,h3⟩,h4⟩:=he;refine⟨⟨by simp[h1],λi hi oV=>?_⟩,λk hk=>hk.elim (h4 k) (h2 k)⟩;rw[Xm,Xm]
 by_cases c:k=i
 ·subst c
  rw[if_pos I,if_pos I];exact s.mono hs λq hq=> .inr hq
 ·rw[if_neg c,if_neg c]
  exact s.mono (h3 i (by simpa using hi) (by simpa using oV)) λq hq=> .inl hq
theorem X_{F:Nat->Prop}{vs:List Value}{mW:List (List Int)}{w:World}(he:(uM F vs mW).holds w){k:Nat}(hk:k<mW.length)(mT:k<vs.length):Sl w vs[k] mW[k].length (mW[k].map (av .i64)):=by
 obtain⟨⟨h1,h3⟩,_⟩:=he;obtain⟨v,hv,_,hs,_⟩:=h3 k hk (by simpa using mT);rw[pg]at hv;unfold y' at hv;simp only[gi,and_true]at hv;rw[hv];exact Sl.dB hs
theorem aef{w:World}{v:Value}{l:List Int}(hp:∀x∈l,cU.d_ x)(h:(fY v l).holds w):aee.is (λk=>v.ownBlock=aj k) w [v] l:=
 ⟨v,rfl,hp,h,λ_ h=>h⟩
def RP(g:Nat)(vc vr vf vfol vl ve:Value)(bP:Int)(va vb:Value)(mW:List (List Int))(last first:List Int):Spec (List Value×(Nat->Prop)):=
 ⟨λx=>x.1.length=mW.length,λ_=> .tuple #[],λx=>[aP g (RO vc vr vf vfol vl ve bP) 172,yc vfol x.1,uM x.2 x.1 (ft mW last first),fY va last,fY vb first]⟩
theorem LV(mW:List (List Int))(last first:List Int){k:Nat}(hk:k<last.length):ft mW (last.take (k+1)) first=(ft mW (last.take k) first).set last[k].toNat (qR ((ft mW (last.take k) first).getD last[k].toNat []) first):=by
 unfold ft;rw[iv hk,IP];rfl
theorem za(g:Nat)(vc vr vf vfol vl ve:Value)(bP:Int)(va vb:Value)(vs:List Value)(F:Nat->Prop)(mW:List (List Int))(last first:List Int)(w:World)(B:bO)
 (hvs:vs.length=mW.length) (hn:mW.length<=100000) (ahr:∀l∈mW,Hj mW.length l) (hla:Hj mW.length last) (Vs:Hj mW.length first)
 (hm:Mem B [aP g (RO vc vr vf vfol vl ve bP) 172,yc vfol vs,uM F vs mW,fY va last,fY vb first] w):
 Calls aB 100 #[aJ (aj ⟨g,0,ak⟩),va,vb] w (cY (RP g vc vr vf vfol vl ve bP va vb mW last first) B):=by
 have aic:=jL hla;have ahs:=jL Vs;have hva:∃a c,va=ap a last.length c:=by
  obtain⟨base,cap,h,_⟩:=Sl.dB (show w.ownsRow 0 3 1 va last.length (last.map (av .i64))from hm.get (i:=3) rfl);exact⟨base,cap,h⟩
 obtain⟨aa,ca,rfl⟩:=hva;refine dm hm (args:=[aJ (aj ⟨g,0,ak⟩),ap aa last.length ca,vb]) (n:=32) Tryz.func100 I I I ?_;clear hm
 try refine GA ?_
 refine ea (ι:=Nat×List Value×(Nat->Prop)) (λ(k,vs,F)=>k<=last.length/\vs.length=mW.length) (λ(k,_,_)=>[(0,aJ (aj ⟨g,0,ak⟩)),(2,vb),(8,ap aa last.length ca),(9,av az last.length),(10,av az (k:Int))])
  (λ(k,vs,F)=>[aP g (RO vc vr vf vfol vl ve bP) 172,yc vfol vs,uM F vs (ft mW (last.take k) first),fY (ap aa last.length ca) last,fY vb first]) (λ(k,_,_)=>last.length-k) (0,vs,F) ⟨bH _,hvs⟩ ?_
 clear hvs vs F;rintro⟨k,vs,F⟩ ⟨i1,i2⟩;dsimp only at i1 i2⊢
 by_cases c6:k<last.length
 ·have hstep:=LV mW last first c6
  have aht:=sG (n:=mW.length) Vs.2 (last.take k) mW ahr;have hlen:=kP mW (last.take k) first;have hx:=hla.2 last[k] (cD c6);have hgx:last[k]?=aj last[k]:=bD c6;generalize ft mW (last.take k) first=fo at*;generalize last[k]=x at*;obtain⟨xn,rfl⟩:=h_ hx.1;rw[dq]at hstep;have hxn:xn<fo.length:=by omega
  have yd:fo.getD xn []=fo[xn]:=by rw[b9,bD hxn];rfl
  rw[yd]at hstep;have hrx:=aht fo[xn] (cD hxn);have FM:=jL hrx;have NN:=sF hrx.2 Vs.2;have hul:=jL NN;refine iu (i:=1) (φ:=∃gf cap,vfol=ap (aj ⟨gf,0,ak⟩) vs.length cap/\vs.length<=cap) I (λw h=>by
   obtain⟨h1,h2⟩:=(show w.ownsRow 0 27 1 vfol vs.length (vs.flatMap y')from h);rcases h2 with⟨_,h0⟩|⟨gf,cap,jS,hv,_,_,hc,_⟩
   omega;exact⟨gf,cap,hv,hc⟩) λRT=>?_
  obtain⟨gf,aeg,rfl,hcf⟩:=RT;refine iu (i:=3) (φ:=∃ga,aa=aj ⟨ga,0,ak⟩) I (λw h=>by
   obtain⟨h1,h2⟩:=(show w.ownsRow 0 3 1 (ap aa last.length ca) last.length (last.map (av .i64))from h);rcases h2 with⟨_,h0⟩|⟨gf,cap,jS,hv,_,_,hc,_⟩
   omega
   cases hv;exact⟨gf,rfl⟩) λhva=>?_
  obtain⟨ga,rfl⟩:=hva;have hxv:xn<vs.length:=by omega
  have gJ:∀(L:List cH) (hi:L[1]?=aj (yc (ap (aj ⟨gf,0,ak⟩) vs.length aeg) vs)),At B L ⟨gf,0+xn*1+0,ak⟩ vs[xn]:=λL hi=>rh LU hi hxv 0 _ I;have ahu:∀(L:List cH) (hi:L[3]?=aj (fY (ap (aj ⟨ga,0,ak⟩) last.length ca) last)),At B L ⟨ga,0+k*1,ak⟩ (av az (xn:Int)):=λL hi=>ki hi (by rw[eS,cV,kH,hgx];rfl)
  repeat(first|refine GA ?_|refine gV (aX bM.eq aK.ty I I c6) ?_|refine gV (aC (v:=av az (xn:Int)) aK.ty I (ahu _ I)) ?_)
  (repeat refine cC ?_)
  refine dN ([aP g (RO vc vr vf (ap (aj ⟨gf,0,ak⟩) vs.length aeg) vl ve bP) 172]) (.calm 0 (.calm 1 (.calm 2 (.calm 3 (.calm 4 (.calm 5 (.calm 6 (.calm 7 (.calm 8 (.calm 9 (.calm 10 (.calm 11 (.calm 12 (.calm 14 (.one 13 (.one 15 (.calm 16 (.one 17 (.done))))))))))))))))))) (bW [0]) ?_
  repeat(first|refine GW ?_|(refine GN ?_;first|refine QW (aC (v:=ap (aj ⟨gf,0,ak⟩) vs.length aeg) aK.ty I (aH (i:=0) I I)) ?_|refine QW (aX bM.eq aK.ty I I hxv) ?_))
  refine aL I (dx (aC (v:=vs[xn]) aK.ty I (gJ _ I)) I I I (aM (bW [0]) ?_))
  try refine GW ?_
  refine aL I (aV (fO aI.en I I I) (λw' hm=>ii vs[xn] vb fo[xn] first w' (X_ (hm.get (i:=2) I) hxn hxv) (Sl.dB (hm.get (i:=4) I)) J J) I I I ?_);intro v _
  conv=>arg 8;simp only[zJ,cK,ret,id_eq,th]
  refine aU (i:=5) I λnU my=>?_;refine aM (bW [0]) ?_
  repeat(first|refine GW ?_|(refine GN ?_;first|refine QW (aX bM.eq aK.ty I I hxv) ?_))
  refine aL I (Ao LU (i:=1) (k:=xn) (l:=vs) (a:=v) aK.ty I I J hxv I I nU (by simp only[y',cZ,db,my];rfl) (aM (bW [0]) ?_))
  try refine GW ?_
  try refine GA ?_
  refine ww (uM (λk=>F k\/v.ownBlock=aj k) (vs.set xn v) (fo.set xn (qR fo[xn] first))) 5 2 [0,1,3,4] aiT I I I (λk hk=>hk.elim (λh=>by cases h) λh=>h.elim (λh=> .inr (.inr h)) λh=> .inl (.inl h)) (λw hr he=>?_) ?_
  ·have:=abc (k:=xn) he (aef (λx hx=>⟨by have:=NN.2 x hx;omega,by have:=NN.2 x hx;omega⟩) hr) λk hk=>(fY v (qR fo[xn] first)).lt w hr k (.inl hk)
   rw[show([v]:List Value)=y' v from I,<-ph]at this;exact this
  refine dj [0,1,4,2,3] ?_;exact bY (k+1,vs.set xn v,λk=>F k\/v.ownBlock=aj k) ⟨by omega,by rw[IQ];exact i2⟩ (by show last.length-(k+1)<last.length-k;omega) (hl:=by dsimp only;rw[hstep];show _=[_,a_ _ _ _ (vs.set xn v).length _,_,_,_];rw[IQ];rfl)
 ·obtain rfl:k=last.length:=by omega
  rw[gB (bx _)]
  try refine GA ?_
  exact jG I λw hm=>hm.bV (S:=RP g vc vr vf vfol vl ve bP (ap aa last.length ca) vb mW last first) (vs,F) i2 [0,1,2,3,4] aiT I
end cI
namespace cI
open Go.RowKit cU dS dl gj eo
def AN(B:bO)(k:Nat):Prop:=k<B.w.heap.size/\¬B.X k
theorem sJ{B:bO}{L:List cH}{b off:Nat}{cs:List Value}(hb:AN B b)(h:Rd B.w b off cs)(j:Nat)(v:Value)(hj:cs[j]?=aj v):At B L ⟨b,off+j,ak⟩ v:=λ_ hm=>
 rd_stay h (hm.low.block b hb.1 hb.2) j v hj
theorem aeh{B:bO}{Lx:List cH}{w:World}(hm:Mem B Lx w){k:Nat}(hk:AN B k):AN (bO.on w Lx) k:=by
 refine⟨jp hk.1 hm.low.size,?_⟩;rintro⟨o,ho,hf⟩;obtain⟨i,hi⟩:=List.mem_iff_getElem?.1 ho;rcases(hm.owns.all i o hi).2 k hf with h|h
 have:=hk.1;omega;exact hk.2 h
theorem e9{B:bO}{Lx:List cH}{w:World}{v:Value}{r:Rx}(hm:Mem B Lx w)(h:n9 (AN B) B.w v r):n9 (AN (bO.on w Lx)) w v r:=
 (h.stay λk hk=>hm.low.block k hk.1 hk.2).mono λ_ hk=>aeh hm hk
structure Vt where
 vc:Value
 vr:Value
 vfol:Value
 vl:Value
 vs:List Value
 F:Nat->Prop
def nC(g:Nat)(vf ve:Value)(bP:Int)(x:Vt)(p:PS):List cH:=
 [aP g (RO x.vc x.vr vf x.vfol x.vl ve bP) 172,a_ 77 4 x.vc p.aZ.length (p.aZ.flatMap dV),fY x.vr p.rules,yc x.vfol x.vs,uM x.F x.vs p.follow,a_ 4 1 x.vl p.last.length (p.last.map fS)]
def cO(g:Nat)(vf ve:Value)(bP:Int)(R:Shape×PS):Spec (Vt×Value×Value):=
 ⟨λx=>x.1.vs.length=R.2.follow.length,λx=>aQ #[.bool R.1.empty,x.2.1,x.2.2],λx=>nC g vf ve bP x.1 R.2++[fY x.2.1 R.1.first,fY x.2.2 R.1.last]⟩
theorem O7(w:World):(dh 174 (#[]:Array (Nat×Value))).run aB w= .ok (aQ #[.bool aE,ap ak 0 0,ap ak 0 0]) w:=by
 go_simp
theorem O8(w:World):(dh 174 #[(0,.bool aD)]).run aB w= .ok (aQ #[.bool aD,ap ak 0 0,ap ak 0 0]) w:=by
 go_simp
def Jc(M:Nat):Prop:=∀(e:Re),e.size<=M->∀(g:Nat) (vf ve:Value) (bP:Int) (p:PS) (x:Vt) (v:Value) (w:World) (B:bO),LJ p->x.vs.length=p.follow.length->p.aZ.length+e.size<=100000->cU.d_ bP->n9 (AN B) B.w v (lx e)->Mem B (nC g vf ve bP x p) w->
 Calls aB 67 #[aJ (aj ⟨g,0,ak⟩),v] w (cY (cO g vf ve bP (cL bP e p)) B)
theorem T3(g:Nat)(vf ve:Value)(bP:Int)(p:PS)(x:Vt)(v:Value)(w:World)(B:bO)(hx:x.vs.length=p.follow.length)(hv:n9 (AN B) B.w v (lx .none))(hm:Mem B (nC g vf ve bP x p) w):
 Calls aB 67 #[aJ (aj ⟨g,0,ak⟩),v] w (cY (cO g vf ve bP (cL bP .none p)) B):=by
 obtain⟨vk,rfl,_,Rw⟩:=hv;obtain⟨bk,ck,rfl,-⟩:=Rw;unfold nC at hm;refine dm hm (args:=[aJ (aj ⟨g,0,ak⟩),qK (lx .none).kind (lx .none).ud (ap bk (lx .none).kids.length ck)]) (n:=176) Tryz.func67 I I I ?_;clear hm;refine cC (bz (bR I I I λg3=>aY I λg4=>?_));refine zL ?_
 repeat(first|refine GA ?_|refine gV (aC (v:=av az 1) aK.ty I (aH (i:=6) I I)) ?_|refine gV (bB I O7) ?_)
 refine gC 7 ?_;refine zL ?_
 try refine GA ?_
 refine dK 3 1 (dK 3 1 ?_);exact fL (i:=7) I I I I λw hm=>hm.bV (S:=cO g vf ve bP (cL bP .none p)) (x,ap ak 0 0,ap ak 0 0) hx [0,1,2,3,4,5,8,9] aiT I
theorem O9(g:Nat)(vf ve:Value)(bP:Int)(p:PS)(x:Vt)(v:Value)(w:World)(B:bO)(hx:x.vs.length=p.follow.length)(hv:n9 (AN B) B.w v (lx .empty))(hm:Mem B (nC g vf ve bP x p) w):
 Calls aB 67 #[aJ (aj ⟨g,0,ak⟩),v] w (cY (cO g vf ve bP (cL bP .empty p)) B):=by
 obtain⟨vk,rfl,_,Rw⟩:=hv;obtain⟨bk,ck,rfl,-⟩:=Rw;unfold nC at hm;refine dm hm (args:=[aJ (aj ⟨g,0,ak⟩),qK (lx .empty).kind (lx .empty).ud (ap bk (lx .empty).kids.length ck)]) (n:=176) Tryz.func67 I I I ?_;clear hm;refine cC (bz (bR I I I λg3=>aY I λg4=>?_));refine zL ?_
 repeat(first|refine GA ?_|refine gV (aC (v:=av az 2) aK.ty I (aH (i:=6) I I)) ?_|refine gV (bB I O8) ?_)
 refine gC 7 ?_;refine zL ?_
 try refine GA ?_
 refine dK 3 1 (dK 3 1 ?_);exact fL (i:=7) I I I I λw hm=>hm.bV (S:=cO g vf ve bP (cL bP .empty p)) (x,ap ak 0 0,ap ak 0 0) hx [0,1,2,3,4,5,8,9] aiT I
def LW(g:Nat)(bP:Int):cH:=
 ⟨aj g,λ_=>False,λw=>∃vc vr vf vfol vl ve,w.heap[g]?=aj (.cells (RO vc vr vf vfol vl ve bP) 172 (0,0)),λw ⟨_,_,_,_,_,_,h⟩ k hk=>by simp only[df,or_false]at hk;subst hk;exact(jm.1 h).1,
  λw w' ⟨vc,vr,vf,vfol,vl,ve,h⟩ _ hb=>⟨vc,vr,vf,vfol,vl,ve,by rw[hb g (.inl I)];exact h⟩⟩
theorem mG{B:bO}{L:List cH}{g:Nat}{vc vr vf vfol vl ve:Value}{bP:Int}(h:L[0]?=aj (aP g (RO vc vr vf vfol vl ve bP) 172)):∀w,Mem B L w->Mem B [LW g bP] w:=λw hm=>by
 have h1:=hm.pick (L':=[aP g (RO vc vr vf vfol vl ve bP) 172]) [0] aiT (by simp[h]);exact h1.aaV (i:=0) (LW g bP) I ⟨vc,vr,vf,vfol,vl,ve,h1.get (i:=0) I⟩ λk hk=>hk
theorem abd{B:bO}{L:List cH}{g i:Nat}{bP:Int}(h:L[i]?=aj (LW g bP)):At B L ⟨g,6,ak⟩ (av az bP):=λw hm=>by
 obtain⟨vc,vr,vf,vfol,vl,ve,h⟩:=(hm.get h:(LW g bP).holds w);rw[cell_of_row w g 6 _ _ _ h];rfl
theorem RU(c:C4)(u:Value)(h:u∈dV c):u.oneCell'=true:=by
 simp only[dV,dA,fv,or_false]at h;rcases h with rfl|rfl|rfl|rfl<;>rfl
theorem T4(c:C4){k:Int}{vk v:Value}{j:Nat}(hj:(dV c)[j]?=aj v):((mi k c vk).toArray)[1+j]?=aj v:=by
 match j,hj with
 |0,hj=>exact hj
 |1,hj=>exact hj
 |2,hj=>exact hj
 |3,hj=>exact hj
theorem O_(b b':Option Addr)(m m' k k':Nat)(w:World):(dh 174 #[(1,ap b m k),(2,ap b' m' k')]).run aB w= .ok (aQ #[.bool aE,ap b m k,ap b' m' k']) w:=by
 go_simp
theorem Hn(v:Value)(l:List Int)(x:Int):a_ 3 1 v (l.length+1) (l.map (av .i64)++[av az x])=fY v (l++[x]):=by
 show _=a_ 3 1 v (l++[x]).length ((l++[x]).map (av .i64))
 rw[bI,eV];rfl
theorem X'(v:Value)(l:List Value)(x:Value):a_ 27 1 v (l.length+1) (l.flatMap y'++[x])=yc v (l++[x]):=by
 show _=a_ 27 1 v (l++[x]).length ((l++[x]).flatMap y')
 rw[bI,fC];rfl
theorem AO(v:Value)(l:List Bool)(x:Bool):a_ 4 1 v (l.length+1) (l.map fS++[.bool x])=a_ 4 1 v (l++[x]).length ((l++[x]).map fS):=by
 rw[bI,eV];rfl
theorem Jd{w:World}{g:Nat}{n:Int}(h:(aP g #[av az n] 3).holds w):(fY (ap (aj ⟨g,0,ak⟩) 1 1) [n]).holds w:=
 ⟨rfl,.inr ⟨g,1,_,rfl,bH _,h,bx _,by decide,rfl,rfl⟩⟩
theorem T5(c:C4)(g:Nat)(vf ve:Value)(bP:Int)(p:PS)(x:Vt)(v:Value)(w:World)(B:bO)(hp:LJ p)(hx:x.vs.length=p.follow.length)(hn:p.aZ.length<=100000)(hv:n9 (AN B) B.w v (lx (.byte c)))(hm:Mem B (nC g vf ve bP x p) w):
 Calls aB 67 #[aJ (aj ⟨g,0,ak⟩),v] w (cY (cO g vf ve bP (cL bP (.byte c) p)) B):=by
 obtain⟨vk,rfl,_,Rw⟩:=hv;obtain⟨bk,ck,rfl,-⟩:=Rw;obtain⟨vc,vr,vfol,vl,vs,F⟩:=x;unfold nC at hm;dsimp only at hx hm;refine dm hm (args:=[aJ (aj ⟨g,0,ak⟩),qK (lx (.byte c)).kind (lx (.byte c)).ud (ap bk (lx (.byte c)).kids.length ck)]) (n:=176) Tryz.func67 I I I ?_;clear hm;refine cC (bz (bR I I I λg3=>aY I λg4=>?_));refine zL ?_;refine mz (i:=1) I λbc cc hvc nU wt=>?_;subst hvc
 repeat(first|refine GA ?_|refine gV (aC (v:=av az 3) aK.ty I (aH (i:=6) I I)) ?_|refine gV (aC (v:=ap bc p.aZ.length cc) aK.ty I (aH (i:=0) I I)) ?_)
 (repeat refine cC ?_)
 refine k8 (ι:=Value) (λ_=>True) (λ_=>[(0,aJ (aj ⟨g,0,ak⟩)),(3,aJ (aj ⟨g3,0,ak⟩)),(4,aJ (aj ⟨g4,0,ak⟩)),(5,av az p.aZ.length)])
  (λFX=>[aP g (RO FX vr vf vfol vl ve bP) 172,a_ 77 4 FX (p.aZ++[c]).length ((p.aZ++[c]).flatMap dV),fY vr p.rules,yc vfol vs,uM F vs p.follow,a_ 4 1 vl p.last.length (p.last.map fS),aP g4 #[.bool aE,ap ak 0 0,ap ak 0 0] 174]) ?_ ?_
 ·refine dN ([aP g3 (mi 3 c (ap bk 0 ck)).toArray 80]) (.calm 0 (.calm 1 (.calm 2 (.calm 3 (.calm 4 (.calm 6 (.calm 7 (.two 5 (.one 8 (.one 9 (.calm 10 (.calm 11 (.calm 12 (.one 13 (.done))))))) 8 (.one 5 (.one 9 (.calm 10 (.calm 11 (.calm 12 (.one 13 (.done))))))))))))))) (bW [6]) ?_
  repeat(first|refine GW ?_|(refine GN ?_;first|refine QW (a8 (cs:=dV c) aK.ty I I (λj v hj=>aH (i:=0) I (T4 c hj))) ?_))
  refine eG I I ?_ ?_
  ·refine dx (aC (v:=ap bc p.aZ.length cc) aK.ty I (aH (i:=0) I I)) I I I (aM (bW [6]) ?_)
   refine aL I (fy (cs:=(dV c).toArray) [oy c] I I I (by intro v hv;simp at hv;subst hv;rfl) I I I λg33=>(aM (bW [6]) ?_));refine aL I (eK (i:=1) (e:=77) (size:=4) (bytes:=32) (m:=p.aZ.length) (xs:=p.aZ.flatMap dV) (k:=1) (ys:=dV c) I (k_ (i:=8) I (λj u h=>by simpa using h) (bx 1) aiT) I I I (λu hu=>RU c u hu) J J I λFX=>(aM (bW [6]) ?_))
   try refine GW ?_
   refine aL I (aU (i:=1) I λkT lC=>bU (i:=0) I I I kT lC I (aM (bW [6]) ?_))
   try refine GW ?_
   refine dj [0,1,2,3,4,5,7] ?_;exact dE FX trivial (by repeat' (first|exact bZ|refine bX I ?_)) (by rw[bI,fC];rfl)
  refine fy (cs:=(dV c).toArray) [oy c] I I I (by intro v hv;simp at hv;subst hv;rfl) I I I λg33=>(aM (bW [6]) ?_);refine aL I (dx (aC (v:=ap bc p.aZ.length cc) aK.ty I (aH (i:=0) I I)) I I I (aM (bW [6]) ?_));refine aL I (eK (i:=1) (e:=77) (size:=4) (bytes:=32) (m:=p.aZ.length) (xs:=p.aZ.flatMap dV) (k:=1) (ys:=dV c) I (k_ (i:=8) I (λj u h=>by simpa using h) (bx 1) aiT) I I I (λu hu=>RU c u hu) J J I λFX=>(aM (bW [6]) ?_))
  try refine GW ?_
  refine aL I (aU (i:=1) I λkT lC=>bU (i:=0) I I I kT lC I (aM (bW [6]) ?_))
  try refine GW ?_
  refine dj [0,1,2,3,4,5,7] ?_;exact dE FX trivial (by repeat' (first|exact bZ|refine bX I ?_)) (by rw[bI,fC];rfl)
 clear nU wt;intro FX _
 try refine GA ?_
 (repeat refine cC ?_)
 have FM:=hp.rules;refine k8 (ι:=Value) (λ_=>True) (λ_=>[(0,aJ (aj ⟨g,0,ak⟩)),(4,aJ (aj ⟨g4,0,ak⟩)),(5,av az p.aZ.length)])
  (λB8=>[aP g (RO FX B8 vf vfol vl ve bP) 172,a_ 77 4 FX (p.aZ++[c]).length ((p.aZ++[c]).flatMap dV),fY B8 (p.rules++[bP]),yc vfol vs,uM F vs p.follow,a_ 4 1 vl p.last.length (p.last.map fS),aP g4 #[.bool aE,ap ak 0 0,ap ak 0 0] 174]) ?_ ?_
 ·refine dN ([LW g bP]) (.calm 0 (.calm 1 (.calm 2 (.calm 3 (.calm 4 (.calm 6 (.calm 7 (.calm 8 (.calm 9 (.two 5 (.one 10 (.one 11 (.calm 12 (.calm 13 (.calm 14 (.one 15 (.done))))))) 10 (.one 5 (.one 11 (.calm 12 (.calm 13 (.calm 14 (.one 15 (.done))))))))))))))))) (mG I) ?_
  repeat(first|refine GW ?_|(refine GN ?_;first|refine QW (aC (v:=av az bP) aK.ty I (abd (i:=0) I)) ?_))
  refine eG I I ?_ ?_
  ·refine dx (aC (v:=vr) aK.ty I (aH (i:=0) I I)) I I I (aM (mG I) ?_)
   refine aL I (fy (cs:=#[av az bP]) [av az bP] I I I (by intro v hv;simp at hv;subst hv;rfl) I I I λg48=>(aM (mG I) ?_));refine aL I (eK (i:=2) (e:=3) (size:=1) (bytes:=8) (m:=p.rules.length) (xs:=p.rules.map (av .i64)) (k:=1) (ys:=[av az bP]) I (k_ (i:=7) I (λj u h=>by simpa using h) (bx 1) aiT) I I I (λu hu=>by rw[dR.1 hu];rfl) J J I λB8=>(aM (mG I) ?_))
   try refine GW ?_
   refine aL I (aU (i:=2) I λkT lC=>bU (i:=0) I I I kT lC I (aM (mG (vc:=FX) (vr:=B8) (vf:=vf) (vfol:=vfol) (vl:=vl) (ve:=ve) I) ?_))
   try refine GW ?_
   refine dj [0,1,2,3,4,5,6] ?_;exact dE B8 trivial (by repeat' (first|exact bZ|refine bX I ?_)) (by rw[<-Hn B8 p.rules bP];rfl)
  refine fy (cs:=#[av az bP]) [av az bP] I I I (by intro v hv;simp at hv;subst hv;rfl) I I I λg48=>(aM (mG I) ?_);refine aL I (dx (aC (v:=vr) aK.ty I (aH (i:=0) I I)) I I I (aM (mG I) ?_));refine aL I (eK (i:=2) (e:=3) (size:=1) (bytes:=8) (m:=p.rules.length) (xs:=p.rules.map (av .i64)) (k:=1) (ys:=[av az bP]) I (k_ (i:=7) I (λj u h=>by simpa using h) (bx 1) aiT) I I I (λu hu=>by rw[dR.1 hu];rfl) J J I λB8=>(aM (mG I) ?_))
  try refine GW ?_
  refine aL I (aU (i:=2) I λkT lC=>bU (i:=0) I I I kT lC I (aM (mG (vc:=FX) (vr:=B8) (vf:=vf) (vfol:=vfol) (vl:=vl) (ve:=ve) I) ?_))
  try refine GW ?_
  refine dj [0,1,2,3,4,5,6] ?_;exact dE B8 trivial (by repeat' (first|exact bZ|refine bX I ?_)) (by rw[<-Hn B8 p.rules bP];rfl)
 intro B8 _;have wP:=hp.follow;have KW:=hp.last
 repeat(first|refine GA ?_|refine gV (aC (v:=vfol) aK.ty I (aH (i:=0) I I)) ?_)
 refine jT (i:=3) (bytes:=24) I I I I I I (λz h=>by cases h;rfl) J J I λz1 wX=>?_;refine zL ?_
 try refine GA ?_
 refine aU (i:=3) I λkT lC=>bU (i:=0) I I I kT lC I ?_;refine zL ?_
 repeat(first|refine GA ?_|refine gV (aC (v:=vl) aK.ty I (aH (i:=0) I I)) ?_)
 refine jT (i:=5) (bytes:=1) I I I I I I (λz h=>by cases h;rfl) J J I λz2 RV=>?_;refine zL ?_
 try refine GA ?_
 refine aU (i:=5) I λkT lC=>bU (i:=0) I I I kT lC I ?_;refine zL ?_
 try refine GA ?_
 refine fy (cs:=#[av az p.aZ.length]) [av az p.aZ.length] I I I (by intro v hv;simp at hv;subst hv;rfl) I I I λg76=>?_;refine zL ?_
 try refine GA ?_
 refine fy (cs:=#[av az p.aZ.length]) [av az p.aZ.length] I I I (by intro v hv;simp at hv;subst hv;rfl) I I I λg78=>?_;refine zL ?_
 repeat(first|refine GA ?_|refine gV (bB I (O_ _ _ _ _ _ _)) ?_)
 refine gC 6 (cs':=#[.bool aE,ap (aj ⟨g76,0,ak⟩) 1 1,ap (aj ⟨g78,0,ak⟩) 1 1]) ?_;refine zL ?_
 try refine GA ?_
 refine oz (i:=7) (fY (ap (aj ⟨g76,0,ak⟩) 1 1) [(p.aZ.length:Int)]) I (λw h=>Jd h) (λk hk=>hk) ?_;refine oz (i:=8) (fY (ap (aj ⟨g78,0,ak⟩) 1 1) [(p.aZ.length:Int)]) I (λw h=>Jd h) (λk hk=>hk) ?_;refine oz (i:=4) (uM (λk=>F k\/False) (vs++[ap ak 0 0]) (p.follow++[[]])) I (λw h=>by
  have:=mA (F2:=λ_=>False) h (show aee.is (λ_=>False) w [ap ak 0 0] []from⟨_,rfl,λ_ h=>(by cases h),⟨rfl,.inl ⟨rfl,rfl⟩⟩,λ_ h=>(by cases h)⟩) (λk hk=>hk.elim);rw[show vs.map y'++[[ap ak 0 0]]=(vs++[ap ak 0 0]).map y' by rw[eV];rfl]at this;exact this) (λk hk=>hk.elim (λh=>by cases h) λh=>h.elim (λh=> .inr h) False.elim) ?_
 refine fL (i:=6) I I I I λw hm=>?_;refine hm.bV (S:=cO g vf ve bP (cL bP (.byte c) p)) (⟨FX,B8,wX,RV,vs++[ap ak 0 0],λk=>F k\/False⟩,ap (aj ⟨g76,0,ak⟩) 1 1,ap (aj ⟨g78,0,ak⟩) 1 1) (by show(vs++[_]).length=(p.follow++[[]]).length;rw[bI,bI,hx];rfl) [0,1,2,3,4,5,7,8] aiT ?_;show[_,_,_,yc wX (vs++[ap ak 0 0]),_,a_ 4 1 RV (p.last++[aE]).length ((p.last++[aE]).map fS),_,_]=_
 rw[<-X',<-AO];rfl
end cI
namespace cI
open Go.RowKit cU dS dl gj eo
theorem T6{M:Nat}(IH:Jc M)(a:Re)(ha:a.size<=M)(g:Nat)(vf ve:Value)(bP:Int)(p:PS)(x:Vt)(v:Value)(w:World)(B:bO)(hp:LJ p)(hx:x.vs.length=p.follow.length)(hn:p.aZ.length+(a.size+1)<=100000)(Pa:cU.d_ bP)(hv:n9 (AN B) B.w v (lx (.star a)))(hm:Mem B (nC g vf ve bP x p) w):
 Calls aB 67 #[aJ (aj ⟨g,0,ak⟩),v] w (cY (cO g vf ve bP (cL bP (.star a) p)) B):=by
 obtain⟨vk,rfl,_,Rw⟩:=hv;obtain⟨bk,ck,rfl,h1,h2,h3⟩:=Rw;obtain⟨b,off,rfl,hF,eL⟩:=h3 (by show 0<1;decide);obtain⟨kb,kc,hr,T7⟩:=qo (k:=0) eL (by show 0<1;decide);have du:=λ(L:List cH) (j:Nat) (v:Value) hj=>sJ (L:=L) hF hr j v hj;clear h3 eL hr;obtain⟨FO,Vu,hp3,hp4,hp5⟩:=lB bP a p hp;have ade:cL bP (.star a) p=(⟨aD,(cL bP a p).1.first,(cL bP a p).1.last⟩,{(cL bP a p).2 with follow:=ft (cL bP a p).2.follow (cL bP a p).1.last (cL bP a p).1.first}):=rfl;have hIH:=λw B hv hm=>IH a ha g vf ve bP p x (qK (lx a).kind (lx a).ud (ap kb (lx a).kids.length kc)) w B hp hx J Pa hv hm;rw[ade];generalize cL bP a p=R at*;obtain⟨⟨e,first,last⟩,p'⟩:=R;dsimp only at FO Vu hp3 hp4 hp5⊢;clear ade;unfold nC at hm;refine dm hm (args:=[aJ (aj ⟨g,0,ak⟩),qK 6 C4.zero (ap (aj ⟨b,off,ak⟩) 1 ck)]) (n:=176) Tryz.func67 I I I ?_;clear hm;refine cC (bz (bR I I I λg3=>aY I λg4=>?_));refine zL ?_
 repeat(first|refine GA ?_|refine gV (aC (v:=av az 6) aK.ty I (aH (i:=6) I I)) ?_|refine gV (aC (v:=ap (aj ⟨b,off,ak⟩) 1 ck) aK.ty I (aH (i:=6) I I)) ?_|refine gV (aX (j:=0) bM.eq aK.ty I I aiT) ?_|refine gV (a8 aK.ty I I (du _)) ?_)
 refine bm [0,1,2,3,4,5] [6,7] aiT I I (fO aI.en I I I) (λw hm hb=>hIH w _ (e9 (hm.pick [0,1,2,3,4,5] aiT I) T7) hb) I I I ?_;rintro⟨⟨vc,vr,vfol,vl,vs,F⟩,va,vb⟩ Oo;have Oo:vs.length=p'.follow.length:=Oo
 conv=>arg 8;simp only[zJ,cK,ret,id_eq,cO,nC]
 conv=>arg 7;simp only[cO]
 refine aU (i:=8) I λaio afN=>?_;refine aU (i:=9) I λaip afO=>?_;refine aY I λg6=>?_;refine zL ?_;refine aW (i:=10) (cs':=#[.bool e,va,vb]) I I I I (by simp only[cZ,db,afN,afO];rfl) I ?_;refine zL ?_
 repeat(first|refine GA ?_|refine gV (aC (v:=vb) aK.ty I (aH (i:=10) I I)) ?_|refine gV (aC (v:=va) aK.ty I (aH (i:=10) I I)) ?_)
 refine bm [2,5,6,9,8] [0,1,3,4,7,10] aiT I I (rX aI.en I I I I) (λw hm hb=>za g vc vr vf vfol vl ve bP vb va vs F p'.follow last first w _ Oo (by rw[FO.follow];omega) (by rw[FO.follow];exact FO.ris) (by rw[FO.follow];exact hp5) (by rw[FO.follow];exact hp4) hb) I I I ?_;rintro⟨pC,F'⟩ fJ;have fJ:pC.length=p'.follow.length:=fJ
 conv=>arg 8;simp only[zJ,cK,ret,id_eq,RP]
 try refine GA ?_
 refine bU (i:=5) I I I I I I ?_;refine zL ?_
 repeat(first|refine GA ?_|refine gV (aO (i:=5) aK.ty I I I) ?_)
 refine aW (i:=1) (cs':=#[.bool aD,va,vb]) I I I I (by simp only[cZ,db,afN,afO];rfl) I ?_;refine zL ?_
 try refine GA ?_
 refine fL (i:=1) I I I I λw hm=>?_;exact hm.bV (S:=cO g vf ve bP (⟨aD,first,last⟩,{p' with follow:=ft p'.follow last first})) (⟨vc,vr,vfol,vl,pC,F'⟩,va,vb) (by show pC.length=(ft p'.follow last first).length;rw[kP];exact fJ) [6,2,3,7,8,4,10,9] aiT I
end cI
namespace cI
open Go.RowKit cU dS dl gj eo
theorem nu(e:Bool)(b b':Option Addr)(m m' k k':Nat)(w:World):(dh 174 #[(0,.bool e),(1,ap b m k),(2,ap b' m' k')]).run aB w= .ok (aQ #[.bool e,ap b m k,ap b' m' k']) w:=by
 go_simp
set_option maxRecDepth 100000 in
theorem Ya{M:Nat}(IH:Jc M)(a b1:Re)(ha:a.size<=M)(FY:b1.size<=M)(g:Nat)(vf ve:Value)(bP:Int)(p:PS)(x:Vt)(v:Value)(w:World)(B:bO)(hp:LJ p)(hx:x.vs.length=p.follow.length)(hn:p.aZ.length+(a.size+b1.size+1)<=100000)(Pa:cU.d_ bP)(hv:n9 (AN B) B.w v (lx (.ID a b1)))(hm:Mem B (nC g vf ve bP x p) w):
 Calls aB 67 #[aJ (aj ⟨g,0,ak⟩),v] w (cY (cO g vf ve bP (cL bP (.ID a b1) p)) B):=by
 obtain⟨vk,rfl,_,Rw⟩:=hv;obtain⟨bk,ck,rfl,h1,h2,h3⟩:=Rw;obtain⟨b,off,rfl,hF,eL⟩:=h3 (by show 0<2;decide);obtain⟨kb,kc,hr,uN⟩:=qo (k:=0) eL (by show 0<2;decide);obtain⟨kb2,kc2,wk,kQ⟩:=qo (k:=1) eL (by show 1<2;decide);have Je:=λ(L:List cH) (j:Nat) (v:Value) hj=>sJ (L:=L) hF hr j v hj;have tA:=λ(L:List cH) (j:Nat) (v:Value) hj=>sJ (L:=L) hF wk j v hj;clear h3 eL hr wk;obtain⟨FO,Vu,hp3,hp4,hp5⟩:=lB bP a p hp;obtain⟨kp1,kp2,kp3,kp4,kp5⟩:=lB bP b1 _ FO;have T8:=λw B hv hm=>IH a ha g vf ve bP p x (qK (lx a).kind (lx a).ud (ap kb (lx a).kids.length kc)) w B hp hx J Pa hv hm;have AP:=λx1 km w B hv hm=>IH b1 FY g vf ve bP (cL bP a p).2 x1 (qK (lx b1).kind (lx b1).ud (ap kb2 (lx b1).kids.length kc2)) w B FO km J Pa hv hm;rw[show cL bP (.ID a b1) p=(⟨(cL bP a p).1.empty||(cL bP b1 (cL bP a p).2).1.empty,qR (cL bP a p).1.first (cL bP b1 (cL bP a p).2).1.first,qR (cL bP a p).1.last (cL bP b1 (cL bP a p).2).1.last⟩,(cL bP b1 (cL bP a p).2).2)from I];generalize cL bP b1 (cL bP a p).2=R2 at*;generalize cL bP a p=R1 at*;obtain⟨⟨e1,gZ,ky⟩,p1⟩:=R1;obtain⟨⟨e2,ie,jZ⟩,p2⟩:=R2;dsimp only at FO Vu hp3 hp4 hp5 kp1 kp2 kp3 kp4 kp5 AP⊢;unfold nC at hm;refine dm hm (args:=[aJ (aj ⟨g,0,ak⟩),qK 5 C4.zero (ap (aj ⟨b,off,ak⟩) 2 ck)]) (n:=176) Tryz.func67 I I I ?_;clear hm;refine cC (bz (bR I I I λg3=>aY I λg4=>?_));refine zL ?_
 repeat(first|refine GA ?_|refine gV (aC (v:=av az 5) aK.ty I (aH (i:=6) I I)) ?_)
 (repeat refine cC ?_)
 refine k8 (ι:=Vt×Value×Value×Value×Value×Nat×Nat) (λy=>y.1.vs.length=p2.follow.length) (λy=>[(0,aJ (aj ⟨g,0,ak⟩)),(4,aJ (aj ⟨g4,0,ak⟩)),(7,aJ (aj ⟨y.2.2.2.2.2.1,0,ak⟩)),(8,aJ (aj ⟨y.2.2.2.2.2.2,0,ak⟩))])
  (λy=>nC g vf ve bP y.1 p2++[fY y.2.1 gZ,fY y.2.2.1 ky,fY y.2.2.2.1 ie,fY y.2.2.2.2.1 jZ,aP g4 #[.bool aE,ap ak 0 0,ap ak 0 0] 174,aP y.2.2.2.2.2.1 #[.bool e1,y.2.1,y.2.2.1] 174,aP y.2.2.2.2.2.2 #[.bool e2,y.2.2.2.1,y.2.2.2.2.1] 174]) ?_ ?_
 ·refine dN ([aP g3 (mi 5 C4.zero (ap (aj ⟨b,off,ak⟩) 2 ck)).toArray 80]) (.calm 0 (.calm 1 (.calm 2 (.calm 3 (.calm 4 (.calm 6 (.calm 7 (.calm 8 (.calm 9 (.calm 10 (.three 5 (.three 11 (.two 12 (.one 13 (.one 14 (.one 15 (.done)))) 13 (.one 12 (.one 14 (.one 15 (.done))))) 12 (.two 11 (.one 13 (.one 14 (.one 15 (.done)))) 13 (.one 11 (.one 14 (.one 15 (.done))))) 13 (.two 11 (.one 12 (.one 14 (.one 15 (.done)))) 12 (.one 11 (.one 14 (.one 15 (.done)))))) 12 (.two 5 (.two 11 (.one 13 (.one 14 (.one 15 (.done)))) 13 (.one 11 (.one 14 (.one 15 (.done))))) 13 (.one 5 (.one 11 (.one 14 (.one 15 (.done)))))) 13 (.two 5 (.two 11 (.one 12 (.one 14 (.one 15 (.done)))) 12 (.one 11 (.one 14 (.one 15 (.done))))) 12 (.one 5 (.one 11 (.one 14 (.one 15 (.done))))))))))))))))) (bW [6]) ?_
  repeat(first|refine GW ?_|(refine GN ?_;first|refine QW (aC (v:=ap (aj ⟨b,off,ak⟩) 2 ck) aK.ty I (aH (i:=0) I I)) ?_|refine QW (aX (j:=0) bM.eq aK.ty I I aiT) ?_|refine QW (aX (j:=1) bM.eq aK.ty I I aiT) ?_|refine QW (a8 aK.ty I I (Je _)) ?_|refine QW (a8 aK.ty I I (tA _)) ?_))
  refine yL I I I ?_ ?_ ?_
  ·refine bm [0,1,2,3,4,5] [6,7] aiT I I (fO aI.en I I I) (λw hm hb=>T8 w _ (e9 (hm.pick [0,1,2,3,4,5] aiT I) uN) hb) I I I ?_
   rintro⟨⟨tH,tI,gv,tJ,nP,F1⟩,l4,lc⟩ km;have km:nP.length=p1.follow.length:=km
   conv=>arg 8;simp only[zJ,cK,ret,id_eq,cO,nC]
   conv=>arg 7;simp only[cO]
   refine aM (bW [0]) ?_;refine yL I I I ?_ ?_ ?_
   ·refine bm [2,3,4,5,6,7] [0,1,8,9] aiT I I (fO aI.en I I I) (λw hm hb=>AP ⟨tH,tI,gv,tJ,nP,F1⟩ km w _ (e9 (hm.pick [2,3,4,5,6,7] aiT I) kQ) hb) I I I ?_
    rintro⟨⟨qc,qd,e_,qe,lf,F2⟩,jN,ko⟩ fJ;have fJ:lf.length=p2.follow.length:=fJ
    conv=>arg 8;simp only[zJ,cK,ret,id_eq,cO,nC]
    conv=>arg 7;simp only[cO]
    refine aM (bW [0]) ?_;refine eG I I ?_ ?_
    ·refine aY I λg7=>(aM (bW [0]) ?_)
     refine aL I (aY I λg8=>(aM (bW [0]) ?_));refine aL I (aU (i:=2) I λ_ pD=>aU (i:=3) I λ_ pE=>aW (i:=12) (cs':=#[.bool e1,l4,lc]) I I I I (by simp only[cZ,db,pD,pE];rfl) I (aM (bW [0]) ?_))
     try refine GW ?_
     refine aL I (aU (i:=10) I λ_ pF=>aU (i:=11) I λ_ pG=>aW (i:=13) (cs':=#[.bool e2,jN,ko]) I I I I (by simp only[cZ,db,pF,pG];rfl) I (aM (bW [0]) ?_))
     try refine GW ?_
     refine dj [4,5,6,7,8,9,2,3,10,11,1,12,13] ?_;exact dE (⟨qc,qd,e_,qe,lf,F2⟩,l4,lc,jN,ko,g7,g8) fJ (by repeat' (first|exact bZ|refine bX I ?_)) I
    refine aY I λg8=>(aM (bW [0]) ?_);refine aL I (aY I λg7=>(aM (bW [0]) ?_));refine aL I (aU (i:=2) I λ_ pD=>aU (i:=3) I λ_ pE=>aW (i:=13) (cs':=#[.bool e1,l4,lc]) I I I I (by simp only[cZ,db,pD,pE];rfl) I (aM (bW [0]) ?_))
    try refine GW ?_
    refine aL I (aU (i:=10) I λ_ pF=>aU (i:=11) I λ_ pG=>aW (i:=12) (cs':=#[.bool e2,jN,ko]) I I I I (by simp only[cZ,db,pF,pG];rfl) I (aM (bW [0]) ?_))
    try refine GW ?_
    refine dj [4,5,6,7,8,9,2,3,10,11,1,13,12] ?_;exact dE (⟨qc,qd,e_,qe,lf,F2⟩,l4,lc,jN,ko,g7,g8) fJ (by repeat' (first|exact bZ|refine bX I ?_)) I
   ·refine aY I λg7=>(aM (bW [0]) ?_)
    refine eG I I ?_ ?_
    ·refine bm [2,3,4,5,6,7] [0,1,8,9,10] aiT I I (fO aI.en I I I) (λw hm hb=>AP ⟨tH,tI,gv,tJ,nP,F1⟩ km w _ (e9 (hm.pick [2,3,4,5,6,7] aiT I) kQ) hb) I I I ?_
     rintro⟨⟨qc,qd,e_,qe,lf,F2⟩,jN,ko⟩ fJ;have fJ:lf.length=p2.follow.length:=fJ
     conv=>arg 8;simp only[zJ,cK,ret,id_eq,cO,nC]
     conv=>arg 7;simp only[cO]
     refine aM (bW [0]) ?_;refine aL I (aY I λg8=>(aM (bW [0]) ?_));refine aL I (aU (i:=2) I λ_ pD=>aU (i:=3) I λ_ pE=>aW (i:=4) (cs':=#[.bool e1,l4,lc]) I I I I (by simp only[cZ,db,pD,pE];rfl) I (aM (bW [0]) ?_))
     try refine GW ?_
     refine aL I (aU (i:=11) I λ_ pF=>aU (i:=12) I λ_ pG=>aW (i:=13) (cs':=#[.bool e2,jN,ko]) I I I I (by simp only[cZ,db,pF,pG];rfl) I (aM (bW [0]) ?_))
     try refine GW ?_
     refine dj [5,6,7,8,9,10,2,3,11,12,1,4,13] ?_;exact dE (⟨qc,qd,e_,qe,lf,F2⟩,l4,lc,jN,ko,g7,g8) fJ (by repeat' (first|exact bZ|refine bX I ?_)) I
    refine aY I λg8=>(aM (bW [0]) ?_);refine aL I (bm [2,3,4,5,6,7] [0,1,8,9,10,11] aiT I I (fO aI.en I I I) (λw hm hb=>AP ⟨tH,tI,gv,tJ,nP,F1⟩ km w _ (e9 (hm.pick [2,3,4,5,6,7] aiT I) kQ) hb) I I I ?_);rintro⟨⟨qc,qd,e_,qe,lf,F2⟩,jN,ko⟩ fJ;have fJ:lf.length=p2.follow.length:=fJ
    conv=>arg 8;simp only[zJ,cK,ret,id_eq,cO,nC]
    conv=>arg 7;simp only[cO]
    refine aM (bW [0]) ?_;refine aL I (aU (i:=2) I λ_ pD=>aU (i:=3) I λ_ pE=>aW (i:=4) (cs':=#[.bool e1,l4,lc]) I I I I (by simp only[cZ,db,pD,pE];rfl) I (aM (bW [0]) ?_))
    try refine GW ?_
    refine aL I (aU (i:=12) I λ_ pF=>aU (i:=13) I λ_ pG=>aW (i:=5) (cs':=#[.bool e2,jN,ko]) I I I I (by simp only[cZ,db,pF,pG];rfl) I (aM (bW [0]) ?_))
    try refine GW ?_
    refine dj [6,7,8,9,10,11,2,3,12,13,1,4,5] ?_;exact dE (⟨qc,qd,e_,qe,lf,F2⟩,l4,lc,jN,ko,g7,g8) fJ (by repeat' (first|exact bZ|refine bX I ?_)) I
   refine aY I λg8=>(aM (bW [0]) ?_);refine eG I I ?_ ?_
   ·refine bm [2,3,4,5,6,7] [0,1,8,9,10] aiT I I (fO aI.en I I I) (λw hm hb=>AP ⟨tH,tI,gv,tJ,nP,F1⟩ km w _ (e9 (hm.pick [2,3,4,5,6,7] aiT I) kQ) hb) I I I ?_
    rintro⟨⟨qc,qd,e_,qe,lf,F2⟩,jN,ko⟩ fJ;have fJ:lf.length=p2.follow.length:=fJ
    conv=>arg 8;simp only[zJ,cK,ret,id_eq,cO,nC]
    conv=>arg 7;simp only[cO]
    refine aM (bW [0]) ?_;refine aL I (aY I λg7=>(aM (bW [0]) ?_));refine aL I (aU (i:=2) I λ_ pD=>aU (i:=3) I λ_ pE=>aW (i:=13) (cs':=#[.bool e1,l4,lc]) I I I I (by simp only[cZ,db,pD,pE];rfl) I (aM (bW [0]) ?_))
    try refine GW ?_
    refine aL I (aU (i:=11) I λ_ pF=>aU (i:=12) I λ_ pG=>aW (i:=4) (cs':=#[.bool e2,jN,ko]) I I I I (by simp only[cZ,db,pF,pG];rfl) I (aM (bW [0]) ?_))
    try refine GW ?_
    refine dj [5,6,7,8,9,10,2,3,11,12,1,13,4] ?_;exact dE (⟨qc,qd,e_,qe,lf,F2⟩,l4,lc,jN,ko,g7,g8) fJ (by repeat' (first|exact bZ|refine bX I ?_)) I
   refine aY I λg7=>(aM (bW [0]) ?_);refine aL I (bm [2,3,4,5,6,7] [0,1,8,9,10,11] aiT I I (fO aI.en I I I) (λw hm hb=>AP ⟨tH,tI,gv,tJ,nP,F1⟩ km w _ (e9 (hm.pick [2,3,4,5,6,7] aiT I) kQ) hb) I I I ?_);rintro⟨⟨qc,qd,e_,qe,lf,F2⟩,jN,ko⟩ fJ;have fJ:lf.length=p2.follow.length:=fJ
   conv=>arg 8;simp only[zJ,cK,ret,id_eq,cO,nC]
   conv=>arg 7;simp only[cO]
   refine aM (bW [0]) ?_;refine aL I (aU (i:=2) I λ_ pD=>aU (i:=3) I λ_ pE=>aW (i:=5) (cs':=#[.bool e1,l4,lc]) I I I I (by simp only[cZ,db,pD,pE];rfl) I (aM (bW [0]) ?_))
   try refine GW ?_
   refine aL I (aU (i:=12) I λ_ pF=>aU (i:=13) I λ_ pG=>aW (i:=4) (cs':=#[.bool e2,jN,ko]) I I I I (by simp only[cZ,db,pF,pG];rfl) I (aM (bW [0]) ?_))
   try refine GW ?_
   refine dj [6,7,8,9,10,11,2,3,12,13,1,5,4] ?_;exact dE (⟨qc,qd,e_,qe,lf,F2⟩,l4,lc,jN,ko,g7,g8) fJ (by repeat' (first|exact bZ|refine bX I ?_)) I
  ·refine aY I λg7=>(aM (bW [6]) ?_)
   refine eG I I ?_ ?_
   ·refine bm [0,1,2,3,4,5] [6,7,8] aiT I I (fO aI.en I I I) (λw hm hb=>T8 w _ (e9 (hm.pick [0,1,2,3,4,5] aiT I) uN) hb) I I I ?_
    rintro⟨⟨tH,tI,gv,tJ,nP,F1⟩,l4,lc⟩ km;have km:nP.length=p1.follow.length:=km
    conv=>arg 8;simp only[zJ,cK,ret,id_eq,cO,nC]
    conv=>arg 7;simp only[cO]
    refine aM (bW [0]) ?_;refine eG I I ?_ ?_
    ·refine bm [3,4,5,6,7,8] [0,1,2,9,10] aiT I I (fO aI.en I I I) (λw hm hb=>AP ⟨tH,tI,gv,tJ,nP,F1⟩ km w _ (e9 (hm.pick [3,4,5,6,7,8] aiT I) kQ) hb) I I I ?_
     rintro⟨⟨qc,qd,e_,qe,lf,F2⟩,jN,ko⟩ fJ;have fJ:lf.length=p2.follow.length:=fJ
     conv=>arg 8;simp only[zJ,cK,ret,id_eq,cO,nC]
     conv=>arg 7;simp only[cO]
     refine aM (bW [0]) ?_;refine aL I (aY I λg8=>(aM (bW [0]) ?_));refine aL I (aU (i:=3) I λ_ pD=>aU (i:=4) I λ_ pE=>aW (i:=2) (cs':=#[.bool e1,l4,lc]) I I I I (by simp only[cZ,db,pD,pE];rfl) I (aM (bW [0]) ?_))
     try refine GW ?_
     refine aL I (aU (i:=11) I λ_ pF=>aU (i:=12) I λ_ pG=>aW (i:=13) (cs':=#[.bool e2,jN,ko]) I I I I (by simp only[cZ,db,pF,pG];rfl) I (aM (bW [0]) ?_))
     try refine GW ?_
     refine dj [5,6,7,8,9,10,3,4,11,12,1,2,13] ?_;exact dE (⟨qc,qd,e_,qe,lf,F2⟩,l4,lc,jN,ko,g7,g8) fJ (by repeat' (first|exact bZ|refine bX I ?_)) I
    refine aY I λg8=>(aM (bW [0]) ?_);refine aL I (bm [3,4,5,6,7,8] [0,1,2,9,10,11] aiT I I (fO aI.en I I I) (λw hm hb=>AP ⟨tH,tI,gv,tJ,nP,F1⟩ km w _ (e9 (hm.pick [3,4,5,6,7,8] aiT I) kQ) hb) I I I ?_);rintro⟨⟨qc,qd,e_,qe,lf,F2⟩,jN,ko⟩ fJ;have fJ:lf.length=p2.follow.length:=fJ
    conv=>arg 8;simp only[zJ,cK,ret,id_eq,cO,nC]
    conv=>arg 7;simp only[cO]
    refine aM (bW [0]) ?_;refine aL I (aU (i:=3) I λ_ pD=>aU (i:=4) I λ_ pE=>aW (i:=2) (cs':=#[.bool e1,l4,lc]) I I I I (by simp only[cZ,db,pD,pE];rfl) I (aM (bW [0]) ?_))
    try refine GW ?_
    refine aL I (aU (i:=12) I λ_ pF=>aU (i:=13) I λ_ pG=>aW (i:=5) (cs':=#[.bool e2,jN,ko]) I I I I (by simp only[cZ,db,pF,pG];rfl) I (aM (bW [0]) ?_))
    try refine GW ?_
    refine dj [6,7,8,9,10,11,3,4,12,13,1,2,5] ?_;exact dE (⟨qc,qd,e_,qe,lf,F2⟩,l4,lc,jN,ko,g7,g8) fJ (by repeat' (first|exact bZ|refine bX I ?_)) I
   refine aY I λg8=>(aM (bW [6]) ?_);refine aL I (bm [0,1,2,3,4,5] [6,7,8,9] aiT I I (fO aI.en I I I) (λw hm hb=>T8 w _ (e9 (hm.pick [0,1,2,3,4,5] aiT I) uN) hb) I I I ?_);rintro⟨⟨tH,tI,gv,tJ,nP,F1⟩,l4,lc⟩ km;have km:nP.length=p1.follow.length:=km
   conv=>arg 8;simp only[zJ,cK,ret,id_eq,cO,nC]
   conv=>arg 7;simp only[cO]
   refine aM (bW [0]) ?_;refine aL I (bm [4,5,6,7,8,9] [0,1,2,3,10,11] aiT I I (fO aI.en I I I) (λw hm hb=>AP ⟨tH,tI,gv,tJ,nP,F1⟩ km w _ (e9 (hm.pick [4,5,6,7,8,9] aiT I) kQ) hb) I I I ?_);rintro⟨⟨qc,qd,e_,qe,lf,F2⟩,jN,ko⟩ fJ;have fJ:lf.length=p2.follow.length:=fJ
   conv=>arg 8;simp only[zJ,cK,ret,id_eq,cO,nC]
   conv=>arg 7;simp only[cO]
   refine aM (bW [0]) ?_;refine aL I (aU (i:=4) I λ_ pD=>aU (i:=5) I λ_ pE=>aW (i:=2) (cs':=#[.bool e1,l4,lc]) I I I I (by simp only[cZ,db,pD,pE];rfl) I (aM (bW [0]) ?_))
   try refine GW ?_
   refine aL I (aU (i:=12) I λ_ pF=>aU (i:=13) I λ_ pG=>aW (i:=3) (cs':=#[.bool e2,jN,ko]) I I I I (by simp only[cZ,db,pF,pG];rfl) I (aM (bW [0]) ?_))
   try refine GW ?_
   refine dj [6,7,8,9,10,11,4,5,12,13,1,2,3] ?_;exact dE (⟨qc,qd,e_,qe,lf,F2⟩,l4,lc,jN,ko,g7,g8) fJ (by repeat' (first|exact bZ|refine bX I ?_)) I
  refine aY I λg8=>(aM (bW [6]) ?_);refine eG I I ?_ ?_
  ·refine bm [0,1,2,3,4,5] [6,7,8] aiT I I (fO aI.en I I I) (λw hm hb=>T8 w _ (e9 (hm.pick [0,1,2,3,4,5] aiT I) uN) hb) I I I ?_
   rintro⟨⟨tH,tI,gv,tJ,nP,F1⟩,l4,lc⟩ km;have km:nP.length=p1.follow.length:=km
   conv=>arg 8;simp only[zJ,cK,ret,id_eq,cO,nC]
   conv=>arg 7;simp only[cO]
   refine aM (bW [0]) ?_;refine eG I I ?_ ?_
   ·refine bm [3,4,5,6,7,8] [0,1,2,9,10] aiT I I (fO aI.en I I I) (λw hm hb=>AP ⟨tH,tI,gv,tJ,nP,F1⟩ km w _ (e9 (hm.pick [3,4,5,6,7,8] aiT I) kQ) hb) I I I ?_
    rintro⟨⟨qc,qd,e_,qe,lf,F2⟩,jN,ko⟩ fJ;have fJ:lf.length=p2.follow.length:=fJ
    conv=>arg 8;simp only[zJ,cK,ret,id_eq,cO,nC]
    conv=>arg 7;simp only[cO]
    refine aM (bW [0]) ?_;refine aL I (aY I λg7=>(aM (bW [0]) ?_));refine aL I (aU (i:=3) I λ_ pD=>aU (i:=4) I λ_ pE=>aW (i:=13) (cs':=#[.bool e1,l4,lc]) I I I I (by simp only[cZ,db,pD,pE];rfl) I (aM (bW [0]) ?_))
    try refine GW ?_
    refine aL I (aU (i:=11) I λ_ pF=>aU (i:=12) I λ_ pG=>aW (i:=2) (cs':=#[.bool e2,jN,ko]) I I I I (by simp only[cZ,db,pF,pG];rfl) I (aM (bW [0]) ?_))
    try refine GW ?_
    refine dj [5,6,7,8,9,10,3,4,11,12,1,13,2] ?_;exact dE (⟨qc,qd,e_,qe,lf,F2⟩,l4,lc,jN,ko,g7,g8) fJ (by repeat' (first|exact bZ|refine bX I ?_)) I
   refine aY I λg7=>(aM (bW [0]) ?_);refine aL I (bm [3,4,5,6,7,8] [0,1,2,9,10,11] aiT I I (fO aI.en I I I) (λw hm hb=>AP ⟨tH,tI,gv,tJ,nP,F1⟩ km w _ (e9 (hm.pick [3,4,5,6,7,8] aiT I) kQ) hb) I I I ?_);rintro⟨⟨qc,qd,e_,qe,lf,F2⟩,jN,ko⟩ fJ;have fJ:lf.length=p2.follow.length:=fJ
   conv=>arg 8;simp only[zJ,cK,ret,id_eq,cO,nC]
   conv=>arg 7;simp only[cO]
   refine aM (bW [0]) ?_;refine aL I (aU (i:=3) I λ_ pD=>aU (i:=4) I λ_ pE=>aW (i:=5) (cs':=#[.bool e1,l4,lc]) I I I I (by simp only[cZ,db,pD,pE];rfl) I (aM (bW [0]) ?_))
   try refine GW ?_
   refine aL I (aU (i:=12) I λ_ pF=>aU (i:=13) I λ_ pG=>aW (i:=2) (cs':=#[.bool e2,jN,ko]) I I I I (by simp only[cZ,db,pF,pG];rfl) I (aM (bW [0]) ?_))
   try refine GW ?_
   refine dj [6,7,8,9,10,11,3,4,12,13,1,5,2] ?_;exact dE (⟨qc,qd,e_,qe,lf,F2⟩,l4,lc,jN,ko,g7,g8) fJ (by repeat' (first|exact bZ|refine bX I ?_)) I
  refine aY I λg7=>(aM (bW [6]) ?_);refine aL I (bm [0,1,2,3,4,5] [6,7,8,9] aiT I I (fO aI.en I I I) (λw hm hb=>T8 w _ (e9 (hm.pick [0,1,2,3,4,5] aiT I) uN) hb) I I I ?_);rintro⟨⟨tH,tI,gv,tJ,nP,F1⟩,l4,lc⟩ km;have km:nP.length=p1.follow.length:=km
  conv=>arg 8;simp only[zJ,cK,ret,id_eq,cO,nC]
  conv=>arg 7;simp only[cO]
  refine aM (bW [0]) ?_;refine aL I (bm [4,5,6,7,8,9] [0,1,2,3,10,11] aiT I I (fO aI.en I I I) (λw hm hb=>AP ⟨tH,tI,gv,tJ,nP,F1⟩ km w _ (e9 (hm.pick [4,5,6,7,8,9] aiT I) kQ) hb) I I I ?_);rintro⟨⟨qc,qd,e_,qe,lf,F2⟩,jN,ko⟩ fJ;have fJ:lf.length=p2.follow.length:=fJ
  conv=>arg 8;simp only[zJ,cK,ret,id_eq,cO,nC]
  conv=>arg 7;simp only[cO]
  refine aM (bW [0]) ?_;refine aL I (aU (i:=4) I λ_ pD=>aU (i:=5) I λ_ pE=>aW (i:=3) (cs':=#[.bool e1,l4,lc]) I I I I (by simp only[cZ,db,pD,pE];rfl) I (aM (bW [0]) ?_))
  try refine GW ?_
  refine aL I (aU (i:=12) I λ_ pF=>aU (i:=13) I λ_ pG=>aW (i:=2) (cs':=#[.bool e2,jN,ko]) I I I I (by simp only[cZ,db,pF,pG];rfl) I (aM (bW [0]) ?_))
  try refine GW ?_
  refine dj [6,7,8,9,10,11,4,5,12,13,1,3,2] ?_;exact dE (⟨qc,qd,e_,qe,lf,F2⟩,l4,lc,jN,ko,g7,g8) fJ (by repeat' (first|exact bZ|refine bX I ?_)) I
 clear T8 AP Je tA;rintro⟨⟨vc,vr,vfol,vl,vs,F⟩,l4,lc,jN,ko,g7,g8⟩ fJ;have fJ:vs.length=p2.follow.length:=fJ;dsimp only
 conv=>arg 7;simp only[zA,zB,zC,zD,zE,zF,zG,zH,zI,cK,ret,id_eq,nC]
 have NJ:=jL hp4;have II:=jL hp5;have XF:=jL kp4;have hl4:=jL kp5
 cases e1 with
 | true=>
  (repeat refine cC ?_)
  refine dN ([aP g7 #[.bool aD,l4,lc] 174,aP g8 #[.bool e2,jN,ko] 174]) (.calm 0 (.calm 1 (.calm 2 (.calm 3 (.calm 4 (.calm 5 (.calm 6 (.calm 7 (.calm 8 (.calm 9 (.calm 11 (.calm 12 (.calm 13 (.calm 14 (.one 10 (.one 15 (.calm 16 (.one 17 (.done))))))))))))))))))) (bW [11,12]) ?_
  repeat(first|refine GW ?_|(refine GN ?_;first|refine QW (aC aK.ty I (aH (i:=0) I I)) ?_|refine QW (aC aK.ty I (aH (i:=1) I I)) ?_))
  refine aL I (aV (fO aI.en I I I) (λw' hm=>ii l4 jN gZ ie w' (Sl.dB (hm.get (i:=6) I)) (Sl.dB (hm.get (i:=8) I)) J J) I I I ?_);intro vu _
  conv=>arg 8;simp only[zJ,cK,ret,id_eq,th]
  refine aM (bW [11,12]) ?_
  try refine GW ?_
  refine aL I (aV (fO aI.en I I I) (λw' hm=>ii lc ko ky jZ w' (Sl.dB (hm.get (i:=7) I)) (Sl.dB (hm.get (i:=9) I)) J J) I I I ?_);intro vu2 _
  conv=>arg 8;simp only[zJ,cK,ret,id_eq,th]
  refine mz (i:=13) I λbu cu hu _ _=>?_;refine mz (i:=14) I λbu2 cu2 hu2 _ _=>?_;subst hu hu2;refine aM (bW [11,12]) ?_
  repeat(first|refine GW ?_|(refine GN ?_;first|refine QW (bB I (nu _ _ _ _ _ _ _)) ?_))
  refine aL I (aW (i:=10) (cs':=#[.bool aD,ap bu (qR gZ ie).length cu,ap bu2 (qR ky jZ).length cu2]) I I I I I I (aM (bW [11,12]) ?_))
  try refine GW ?_
  try refine GA ?_
  refine fL (i:=10) I I I I λw hm=>?_;exact hm.bV (S:=cO g vf ve bP (⟨aD||e2,qR gZ ie,qR ky jZ⟩,p2)) (⟨vc,vr,vfol,vl,vs,F⟩,ap bu (qR gZ ie).length cu,ap bu2 (qR ky jZ).length cu2) fJ [0,1,2,3,4,5,13,14] aiT I
 | false=>
  (repeat refine cC ?_)
  refine dN ([aP g7 #[.bool aE,l4,lc] 174,aP g8 #[.bool e2,jN,ko] 174]) (.calm 0 (.calm 1 (.calm 2 (.calm 3 (.calm 4 (.calm 5 (.calm 6 (.calm 7 (.calm 8 (.calm 9 (.calm 11 (.calm 12 (.calm 13 (.calm 14 (.one 10 (.one 15 (.calm 16 (.one 17 (.done))))))))))))))))))) (bW [11,12]) ?_
  repeat(first|refine GW ?_|(refine GN ?_;first|refine QW (aC aK.ty I (aH (i:=0) I I)) ?_|refine QW (aC aK.ty I (aH (i:=1) I I)) ?_))
  refine aL I (aV (fO aI.en I I I) (λw' hm=>ii l4 jN gZ ie w' (Sl.dB (hm.get (i:=6) I)) (Sl.dB (hm.get (i:=8) I)) J J) I I I ?_);intro vu _
  conv=>arg 8;simp only[zJ,cK,ret,id_eq,th]
  refine aM (bW [11,12]) ?_
  try refine GW ?_
  refine aL I (aV (fO aI.en I I I) (λw' hm=>ii lc ko ky jZ w' (Sl.dB (hm.get (i:=7) I)) (Sl.dB (hm.get (i:=9) I)) J J) I I I ?_);intro vu2 _
  conv=>arg 8;simp only[zJ,cK,ret,id_eq,th]
  refine mz (i:=13) I λbu cu hu _ _=>?_;refine mz (i:=14) I λbu2 cu2 hu2 _ _=>?_;subst hu hu2;refine aM (bW [11,12]) ?_
  repeat(first|refine GW ?_|(refine GN ?_;first|refine QW (bB I (nu _ _ _ _ _ _ _)) ?_))
  refine aL I (aW (i:=10) (cs':=#[.bool e2,ap bu (qR gZ ie).length cu,ap bu2 (qR ky jZ).length cu2]) I I I I I I (aM (bW [11,12]) ?_))
  try refine GW ?_
  try refine GA ?_
  refine fL (i:=10) I I I I λw hm=>?_;exact hm.bV (S:=cO g vf ve bP (⟨aE||e2,qR gZ ie,qR ky jZ⟩,p2)) (⟨vc,vr,vfol,vl,vs,F⟩,ap bu (qR gZ ie).length cu,ap bu2 (qR ky jZ).length cu2) fJ [0,1,2,3,4,5,13,14] aiT I
end cI
namespace cI
open Go.RowKit cU dS dl gj eo
set_option maxRecDepth 100000 in
theorem Yb{M:Nat}(IH:Jc M)(a b1:Re)(ha:a.size<=M)(FY:b1.size<=M)(g:Nat)(vf ve:Value)(bP:Int)(p:PS)(x:Vt)(v:Value)(w:World)(B:bO)(hp:LJ p)(hx:x.vs.length=p.follow.length)(hn:p.aZ.length+(a.size+b1.size+1)<=100000)(Pa:cU.d_ bP)(hv:n9 (AN B) B.w v (lx (.IC a b1)))(hm:Mem B (nC g vf ve bP x p) w):
 Calls aB 67 #[aJ (aj ⟨g,0,ak⟩),v] w (cY (cO g vf ve bP (cL bP (.IC a b1) p)) B):=by
 obtain⟨vk,rfl,_,Rw⟩:=hv;obtain⟨bk,ck,rfl,h1,h2,h3⟩:=Rw;obtain⟨b,off,rfl,hF,eL⟩:=h3 (by show 0<2;decide);obtain⟨kb,kc,hr,uN⟩:=qo (k:=0) eL (by show 0<2;decide);obtain⟨kb2,kc2,wk,kQ⟩:=qo (k:=1) eL (by show 1<2;decide);have Je:=λ(L:List cH) (j:Nat) (v:Value) hj=>sJ (L:=L) hF hr j v hj;have tA:=λ(L:List cH) (j:Nat) (v:Value) hj=>sJ (L:=L) hF wk j v hj;clear h3 eL hr wk;obtain⟨FO,Vu,hp3,hp4,hp5⟩:=lB bP a p hp;obtain⟨kp1,kp2,kp3,kp4,kp5⟩:=lB bP b1 _ FO;have T8:=λw B hv hm=>IH a ha g vf ve bP p x (qK (lx a).kind (lx a).ud (ap kb (lx a).kids.length kc)) w B hp hx J Pa hv hm;have AP:=λx1 km w B hv hm=>IH b1 FY g vf ve bP (cL bP a p).2 x1 (qK (lx b1).kind (lx b1).ud (ap kb2 (lx b1).kids.length kc2)) w B FO km J Pa hv hm;rw[show cL bP (.IC a b1) p=(⟨(cL bP a p).1.empty&&(cL bP b1 (cL bP a p).2).1.empty,if(cL bP a p).1.empty then qR (cL bP a p).1.first (cL bP b1 (cL bP a p).2).1.first else(cL bP a p).1.first,if(cL bP b1 (cL bP a p).2).1.empty then qR (cL bP a p).1.last (cL bP b1 (cL bP a p).2).1.last else(cL bP b1 (cL bP a p).2).1.last⟩,{(cL bP b1 (cL bP a p).2).2 with follow:=ft (cL bP b1 (cL bP a p).2).2.follow (cL bP a p).1.last (cL bP b1 (cL bP a p).2).1.first})from rfl];generalize cL bP b1 (cL bP a p).2=R2 at*;generalize cL bP a p=R1 at*;obtain⟨⟨e1,gZ,ky⟩,p1⟩:=R1;obtain⟨⟨e2,ie,jZ⟩,p2⟩:=R2;dsimp only at FO Vu hp3 hp4 hp5 kp1 kp2 kp3 kp4 kp5 AP⊢;unfold nC at hm;refine dm hm (args:=[aJ (aj ⟨g,0,ak⟩),qK 4 C4.zero (ap (aj ⟨b,off,ak⟩) 2 ck)]) (n:=176) Tryz.func67 I I I ?_;clear hm;refine cC (bz (bR I I I λg3=>aY I λg4=>?_));refine zL ?_
 repeat(first|refine GA ?_|refine gV (aC (v:=av az 4) aK.ty I (aH (i:=6) I I)) ?_)
 (repeat refine cC ?_)
 refine k8 (ι:=Vt×Value×Value×Value×Value×Nat×Nat) (λy=>y.1.vs.length=p2.follow.length) (λy=>[(0,aJ (aj ⟨g,0,ak⟩)),(4,aJ (aj ⟨g4,0,ak⟩)),(9,aJ (aj ⟨y.2.2.2.2.2.1,0,ak⟩)),(10,aJ (aj ⟨y.2.2.2.2.2.2,0,ak⟩))])
  (λy=>nC g vf ve bP y.1 p2++[fY y.2.1 gZ,fY y.2.2.1 ky,fY y.2.2.2.1 ie,fY y.2.2.2.2.1 jZ,aP g4 #[.bool aE,ap ak 0 0,ap ak 0 0] 174,aP y.2.2.2.2.2.1 #[.bool e1,y.2.1,y.2.2.1] 174,aP y.2.2.2.2.2.2 #[.bool e2,y.2.2.2.1,y.2.2.2.2.1] 174]) ?_ ?_
 ·refine dN ([aP g3 (mi 4 C4.zero (ap (aj ⟨b,off,ak⟩) 2 ck)).toArray 80]) (.calm 0 (.calm 1 (.calm 2 (.calm 3 (.calm 4 (.calm 6 (.calm 7 (.calm 8 (.calm 9 (.calm 10 (.three 5 (.three 11 (.two 12 (.one 13 (.one 14 (.one 15 (.done)))) 13 (.one 12 (.one 14 (.one 15 (.done))))) 12 (.two 11 (.one 13 (.one 14 (.one 15 (.done)))) 13 (.one 11 (.one 14 (.one 15 (.done))))) 13 (.two 11 (.one 12 (.one 14 (.one 15 (.done)))) 12 (.one 11 (.one 14 (.one 15 (.done)))))) 12 (.two 5 (.two 11 (.one 13 (.one 14 (.one 15 (.done)))) 13 (.one 11 (.one 14 (.one 15 (.done))))) 13 (.one 5 (.one 11 (.one 14 (.one 15 (.done)))))) 13 (.two 5 (.two 11 (.one 12 (.one 14 (.one 15 (.done)))) 12 (.one 11 (.one 14 (.one 15 (.done))))) 12 (.one 5 (.one 11 (.one 14 (.one 15 (.done))))))))))))))))) (bW [6]) ?_
  repeat(first|refine GW ?_|(refine GN ?_;first|refine QW (aC (v:=ap (aj ⟨b,off,ak⟩) 2 ck) aK.ty I (aH (i:=0) I I)) ?_|refine QW (aX (j:=0) bM.eq aK.ty I I aiT) ?_|refine QW (aX (j:=1) bM.eq aK.ty I I aiT) ?_|refine QW (a8 aK.ty I I (Je _)) ?_|refine QW (a8 aK.ty I I (tA _)) ?_))
  refine yL I I I ?_ ?_ ?_
  ·refine bm [0,1,2,3,4,5] [6,7] aiT I I (fO aI.en I I I) (λw hm hb=>T8 w _ (e9 (hm.pick [0,1,2,3,4,5] aiT I) uN) hb) I I I ?_
   rintro⟨⟨tH,tI,gv,tJ,nP,F1⟩,l4,lc⟩ km;have km:nP.length=p1.follow.length:=km
   conv=>arg 8;simp only[zJ,cK,ret,id_eq,cO,nC]
   conv=>arg 7;simp only[cO]
   refine aM (bW [0]) ?_;refine yL I I I ?_ ?_ ?_
   ·refine bm [2,3,4,5,6,7] [0,1,8,9] aiT I I (fO aI.en I I I) (λw hm hb=>AP ⟨tH,tI,gv,tJ,nP,F1⟩ km w _ (e9 (hm.pick [2,3,4,5,6,7] aiT I) kQ) hb) I I I ?_
    rintro⟨⟨qc,qd,e_,qe,lf,F2⟩,jN,ko⟩ fJ;have fJ:lf.length=p2.follow.length:=fJ
    conv=>arg 8;simp only[zJ,cK,ret,id_eq,cO,nC]
    conv=>arg 7;simp only[cO]
    refine aM (bW [0]) ?_;refine eG I I ?_ ?_
    ·refine aY I λg7=>(aM (bW [0]) ?_)
     refine aL I (aY I λg8=>(aM (bW [0]) ?_));refine aL I (aU (i:=2) I λ_ pD=>aU (i:=3) I λ_ pE=>aW (i:=12) (cs':=#[.bool e1,l4,lc]) I I I I (by simp only[cZ,db,pD,pE];rfl) I (aM (bW [0]) ?_))
     try refine GW ?_
     refine aL I (aU (i:=10) I λ_ pF=>aU (i:=11) I λ_ pG=>aW (i:=13) (cs':=#[.bool e2,jN,ko]) I I I I (by simp only[cZ,db,pF,pG];rfl) I (aM (bW [0]) ?_))
     try refine GW ?_
     refine dj [4,5,6,7,8,9,2,3,10,11,1,12,13] ?_;exact dE (⟨qc,qd,e_,qe,lf,F2⟩,l4,lc,jN,ko,g7,g8) fJ (by repeat' (first|exact bZ|refine bX I ?_)) I
    refine aY I λg8=>(aM (bW [0]) ?_);refine aL I (aY I λg7=>(aM (bW [0]) ?_));refine aL I (aU (i:=2) I λ_ pD=>aU (i:=3) I λ_ pE=>aW (i:=13) (cs':=#[.bool e1,l4,lc]) I I I I (by simp only[cZ,db,pD,pE];rfl) I (aM (bW [0]) ?_))
    try refine GW ?_
    refine aL I (aU (i:=10) I λ_ pF=>aU (i:=11) I λ_ pG=>aW (i:=12) (cs':=#[.bool e2,jN,ko]) I I I I (by simp only[cZ,db,pF,pG];rfl) I (aM (bW [0]) ?_))
    try refine GW ?_
    refine dj [4,5,6,7,8,9,2,3,10,11,1,13,12] ?_;exact dE (⟨qc,qd,e_,qe,lf,F2⟩,l4,lc,jN,ko,g7,g8) fJ (by repeat' (first|exact bZ|refine bX I ?_)) I
   ·refine aY I λg7=>(aM (bW [0]) ?_)
    refine eG I I ?_ ?_
    ·refine bm [2,3,4,5,6,7] [0,1,8,9,10] aiT I I (fO aI.en I I I) (λw hm hb=>AP ⟨tH,tI,gv,tJ,nP,F1⟩ km w _ (e9 (hm.pick [2,3,4,5,6,7] aiT I) kQ) hb) I I I ?_
     rintro⟨⟨qc,qd,e_,qe,lf,F2⟩,jN,ko⟩ fJ;have fJ:lf.length=p2.follow.length:=fJ
     conv=>arg 8;simp only[zJ,cK,ret,id_eq,cO,nC]
     conv=>arg 7;simp only[cO]
     refine aM (bW [0]) ?_;refine aL I (aY I λg8=>(aM (bW [0]) ?_));refine aL I (aU (i:=2) I λ_ pD=>aU (i:=3) I λ_ pE=>aW (i:=4) (cs':=#[.bool e1,l4,lc]) I I I I (by simp only[cZ,db,pD,pE];rfl) I (aM (bW [0]) ?_))
     try refine GW ?_
     refine aL I (aU (i:=11) I λ_ pF=>aU (i:=12) I λ_ pG=>aW (i:=13) (cs':=#[.bool e2,jN,ko]) I I I I (by simp only[cZ,db,pF,pG];rfl) I (aM (bW [0]) ?_))
     try refine GW ?_
     refine dj [5,6,7,8,9,10,2,3,11,12,1,4,13] ?_;exact dE (⟨qc,qd,e_,qe,lf,F2⟩,l4,lc,jN,ko,g7,g8) fJ (by repeat' (first|exact bZ|refine bX I ?_)) I
    refine aY I λg8=>(aM (bW [0]) ?_);refine aL I (bm [2,3,4,5,6,7] [0,1,8,9,10,11] aiT I I (fO aI.en I I I) (λw hm hb=>AP ⟨tH,tI,gv,tJ,nP,F1⟩ km w _ (e9 (hm.pick [2,3,4,5,6,7] aiT I) kQ) hb) I I I ?_);rintro⟨⟨qc,qd,e_,qe,lf,F2⟩,jN,ko⟩ fJ;have fJ:lf.length=p2.follow.length:=fJ
    conv=>arg 8;simp only[zJ,cK,ret,id_eq,cO,nC]
    conv=>arg 7;simp only[cO]
    refine aM (bW [0]) ?_;refine aL I (aU (i:=2) I λ_ pD=>aU (i:=3) I λ_ pE=>aW (i:=4) (cs':=#[.bool e1,l4,lc]) I I I I (by simp only[cZ,db,pD,pE];rfl) I (aM (bW [0]) ?_))
    try refine GW ?_
    refine aL I (aU (i:=12) I λ_ pF=>aU (i:=13) I λ_ pG=>aW (i:=5) (cs':=#[.bool e2,jN,ko]) I I I I (by simp only[cZ,db,pF,pG];rfl) I (aM (bW [0]) ?_))
    try refine GW ?_
    refine dj [6,7,8,9,10,11,2,3,12,13,1,4,5] ?_;exact dE (⟨qc,qd,e_,qe,lf,F2⟩,l4,lc,jN,ko,g7,g8) fJ (by repeat' (first|exact bZ|refine bX I ?_)) I
   refine aY I λg8=>(aM (bW [0]) ?_);refine eG I I ?_ ?_
   ·refine bm [2,3,4,5,6,7] [0,1,8,9,10] aiT I I (fO aI.en I I I) (λw hm hb=>AP ⟨tH,tI,gv,tJ,nP,F1⟩ km w _ (e9 (hm.pick [2,3,4,5,6,7] aiT I) kQ) hb) I I I ?_
    rintro⟨⟨qc,qd,e_,qe,lf,F2⟩,jN,ko⟩ fJ;have fJ:lf.length=p2.follow.length:=fJ
    conv=>arg 8;simp only[zJ,cK,ret,id_eq,cO,nC]
    conv=>arg 7;simp only[cO]
    refine aM (bW [0]) ?_;refine aL I (aY I λg7=>(aM (bW [0]) ?_));refine aL I (aU (i:=2) I λ_ pD=>aU (i:=3) I λ_ pE=>aW (i:=13) (cs':=#[.bool e1,l4,lc]) I I I I (by simp only[cZ,db,pD,pE];rfl) I (aM (bW [0]) ?_))
    try refine GW ?_
    refine aL I (aU (i:=11) I λ_ pF=>aU (i:=12) I λ_ pG=>aW (i:=4) (cs':=#[.bool e2,jN,ko]) I I I I (by simp only[cZ,db,pF,pG];rfl) I (aM (bW [0]) ?_))
    try refine GW ?_
    refine dj [5,6,7,8,9,10,2,3,11,12,1,13,4] ?_;exact dE (⟨qc,qd,e_,qe,lf,F2⟩,l4,lc,jN,ko,g7,g8) fJ (by repeat' (first|exact bZ|refine bX I ?_)) I
   refine aY I λg7=>(aM (bW [0]) ?_);refine aL I (bm [2,3,4,5,6,7] [0,1,8,9,10,11] aiT I I (fO aI.en I I I) (λw hm hb=>AP ⟨tH,tI,gv,tJ,nP,F1⟩ km w _ (e9 (hm.pick [2,3,4,5,6,7] aiT I) kQ) hb) I I I ?_);rintro⟨⟨qc,qd,e_,qe,lf,F2⟩,jN,ko⟩ fJ;have fJ:lf.length=p2.follow.length:=fJ
   conv=>arg 8;simp only[zJ,cK,ret,id_eq,cO,nC]
   conv=>arg 7;simp only[cO]
   refine aM (bW [0]) ?_;refine aL I (aU (i:=2) I λ_ pD=>aU (i:=3) I λ_ pE=>aW (i:=5) (cs':=#[.bool e1,l4,lc]) I I I I (by simp only[cZ,db,pD,pE];rfl) I (aM (bW [0]) ?_))
   try refine GW ?_
   refine aL I (aU (i:=12) I λ_ pF=>aU (i:=13) I λ_ pG=>aW (i:=4) (cs':=#[.bool e2,jN,ko]) I I I I (by simp only[cZ,db,pF,pG];rfl) I (aM (bW [0]) ?_))
   try refine GW ?_
   refine dj [6,7,8,9,10,11,2,3,12,13,1,5,4] ?_;exact dE (⟨qc,qd,e_,qe,lf,F2⟩,l4,lc,jN,ko,g7,g8) fJ (by repeat' (first|exact bZ|refine bX I ?_)) I
  ·refine aY I λg7=>(aM (bW [6]) ?_)
   refine eG I I ?_ ?_
   ·refine bm [0,1,2,3,4,5] [6,7,8] aiT I I (fO aI.en I I I) (λw hm hb=>T8 w _ (e9 (hm.pick [0,1,2,3,4,5] aiT I) uN) hb) I I I ?_
    rintro⟨⟨tH,tI,gv,tJ,nP,F1⟩,l4,lc⟩ km;have km:nP.length=p1.follow.length:=km
    conv=>arg 8;simp only[zJ,cK,ret,id_eq,cO,nC]
    conv=>arg 7;simp only[cO]
    refine aM (bW [0]) ?_;refine eG I I ?_ ?_
    ·refine bm [3,4,5,6,7,8] [0,1,2,9,10] aiT I I (fO aI.en I I I) (λw hm hb=>AP ⟨tH,tI,gv,tJ,nP,F1⟩ km w _ (e9 (hm.pick [3,4,5,6,7,8] aiT I) kQ) hb) I I I ?_
     rintro⟨⟨qc,qd,e_,qe,lf,F2⟩,jN,ko⟩ fJ;have fJ:lf.length=p2.follow.length:=fJ
     conv=>arg 8;simp only[zJ,cK,ret,id_eq,cO,nC]
     conv=>arg 7;simp only[cO]
     refine aM (bW [0]) ?_;refine aL I (aY I λg8=>(aM (bW [0]) ?_));refine aL I (aU (i:=3) I λ_ pD=>aU (i:=4) I λ_ pE=>aW (i:=2) (cs':=#[.bool e1,l4,lc]) I I I I (by simp only[cZ,db,pD,pE];rfl) I (aM (bW [0]) ?_))
     try refine GW ?_
     refine aL I (aU (i:=11) I λ_ pF=>aU (i:=12) I λ_ pG=>aW (i:=13) (cs':=#[.bool e2,jN,ko]) I I I I (by simp only[cZ,db,pF,pG];rfl) I (aM (bW [0]) ?_))
     try refine GW ?_
     refine dj [5,6,7,8,9,10,3,4,11,12,1,2,13] ?_;exact dE (⟨qc,qd,e_,qe,lf,F2⟩,l4,lc,jN,ko,g7,g8) fJ (by repeat' (first|exact bZ|refine bX I ?_)) I
    refine aY I λg8=>(aM (bW [0]) ?_);refine aL I (bm [3,4,5,6,7,8] [0,1,2,9,10,11] aiT I I (fO aI.en I I I) (λw hm hb=>AP ⟨tH,tI,gv,tJ,nP,F1⟩ km w _ (e9 (hm.pick [3,4,5,6,7,8] aiT I) kQ) hb) I I I ?_);rintro⟨⟨qc,qd,e_,qe,lf,F2⟩,jN,ko⟩ fJ;have fJ:lf.length=p2.follow.length:=fJ
    conv=>arg 8;simp only[zJ,cK,ret,id_eq,cO,nC]
    conv=>arg 7;simp only[cO]
    refine aM (bW [0]) ?_;refine aL I (aU (i:=3) I λ_ pD=>aU (i:=4) I λ_ pE=>aW (i:=2) (cs':=#[.bool e1,l4,lc]) I I I I (by simp only[cZ,db,pD,pE];rfl) I (aM (bW [0]) ?_))
    try refine GW ?_
    refine aL I (aU (i:=12) I λ_ pF=>aU (i:=13) I λ_ pG=>aW (i:=5) (cs':=#[.bool e2,jN,ko]) I I I I (by simp only[cZ,db,pF,pG];rfl) I (aM (bW [0]) ?_))
    try refine GW ?_
    refine dj [6,7,8,9,10,11,3,4,12,13,1,2,5] ?_;exact dE (⟨qc,qd,e_,qe,lf,F2⟩,l4,lc,jN,ko,g7,g8) fJ (by repeat' (first|exact bZ|refine bX I ?_)) I
   refine aY I λg8=>(aM (bW [6]) ?_);refine aL I (bm [0,1,2,3,4,5] [6,7,8,9] aiT I I (fO aI.en I I I) (λw hm hb=>T8 w _ (e9 (hm.pick [0,1,2,3,4,5] aiT I) uN) hb) I I I ?_);rintro⟨⟨tH,tI,gv,tJ,nP,F1⟩,l4,lc⟩ km;have km:nP.length=p1.follow.length:=km
   conv=>arg 8;simp only[zJ,cK,ret,id_eq,cO,nC]
   conv=>arg 7;simp only[cO]
   refine aM (bW [0]) ?_;refine aL I (bm [4,5,6,7,8,9] [0,1,2,3,10,11] aiT I I (fO aI.en I I I) (λw hm hb=>AP ⟨tH,tI,gv,tJ,nP,F1⟩ km w _ (e9 (hm.pick [4,5,6,7,8,9] aiT I) kQ) hb) I I I ?_);rintro⟨⟨qc,qd,e_,qe,lf,F2⟩,jN,ko⟩ fJ;have fJ:lf.length=p2.follow.length:=fJ
   conv=>arg 8;simp only[zJ,cK,ret,id_eq,cO,nC]
   conv=>arg 7;simp only[cO]
   refine aM (bW [0]) ?_;refine aL I (aU (i:=4) I λ_ pD=>aU (i:=5) I λ_ pE=>aW (i:=2) (cs':=#[.bool e1,l4,lc]) I I I I (by simp only[cZ,db,pD,pE];rfl) I (aM (bW [0]) ?_))
   try refine GW ?_
   refine aL I (aU (i:=12) I λ_ pF=>aU (i:=13) I λ_ pG=>aW (i:=3) (cs':=#[.bool e2,jN,ko]) I I I I (by simp only[cZ,db,pF,pG];rfl) I (aM (bW [0]) ?_))
   try refine GW ?_
   refine dj [6,7,8,9,10,11,4,5,12,13,1,2,3] ?_;exact dE (⟨qc,qd,e_,qe,lf,F2⟩,l4,lc,jN,ko,g7,g8) fJ (by repeat' (first|exact bZ|refine bX I ?_)) I
  refine aY I λg8=>(aM (bW [6]) ?_);refine eG I I ?_ ?_
  ·refine bm [0,1,2,3,4,5] [6,7,8] aiT I I (fO aI.en I I I) (λw hm hb=>T8 w _ (e9 (hm.pick [0,1,2,3,4,5] aiT I) uN) hb) I I I ?_
   rintro⟨⟨tH,tI,gv,tJ,nP,F1⟩,l4,lc⟩ km;have km:nP.length=p1.follow.length:=km
   conv=>arg 8;simp only[zJ,cK,ret,id_eq,cO,nC]
   conv=>arg 7;simp only[cO]
   refine aM (bW [0]) ?_;refine eG I I ?_ ?_
   ·refine bm [3,4,5,6,7,8] [0,1,2,9,10] aiT I I (fO aI.en I I I) (λw hm hb=>AP ⟨tH,tI,gv,tJ,nP,F1⟩ km w _ (e9 (hm.pick [3,4,5,6,7,8] aiT I) kQ) hb) I I I ?_
    rintro⟨⟨qc,qd,e_,qe,lf,F2⟩,jN,ko⟩ fJ;have fJ:lf.length=p2.follow.length:=fJ
    conv=>arg 8;simp only[zJ,cK,ret,id_eq,cO,nC]
    conv=>arg 7;simp only[cO]
    refine aM (bW [0]) ?_;refine aL I (aY I λg7=>(aM (bW [0]) ?_));refine aL I (aU (i:=3) I λ_ pD=>aU (i:=4) I λ_ pE=>aW (i:=13) (cs':=#[.bool e1,l4,lc]) I I I I (by simp only[cZ,db,pD,pE];rfl) I (aM (bW [0]) ?_))
    try refine GW ?_
    refine aL I (aU (i:=11) I λ_ pF=>aU (i:=12) I λ_ pG=>aW (i:=2) (cs':=#[.bool e2,jN,ko]) I I I I (by simp only[cZ,db,pF,pG];rfl) I (aM (bW [0]) ?_))
    try refine GW ?_
    refine dj [5,6,7,8,9,10,3,4,11,12,1,13,2] ?_;exact dE (⟨qc,qd,e_,qe,lf,F2⟩,l4,lc,jN,ko,g7,g8) fJ (by repeat' (first|exact bZ|refine bX I ?_)) I
   refine aY I λg7=>(aM (bW [0]) ?_);refine aL I (bm [3,4,5,6,7,8] [0,1,2,9,10,11] aiT I I (fO aI.en I I I) (λw hm hb=>AP ⟨tH,tI,gv,tJ,nP,F1⟩ km w _ (e9 (hm.pick [3,4,5,6,7,8] aiT I) kQ) hb) I I I ?_);rintro⟨⟨qc,qd,e_,qe,lf,F2⟩,jN,ko⟩ fJ;have fJ:lf.length=p2.follow.length:=fJ
   conv=>arg 8;simp only[zJ,cK,ret,id_eq,cO,nC]
   conv=>arg 7;simp only[cO]
   refine aM (bW [0]) ?_;refine aL I (aU (i:=3) I λ_ pD=>aU (i:=4) I λ_ pE=>aW (i:=5) (cs':=#[.bool e1,l4,lc]) I I I I (by simp only[cZ,db,pD,pE];rfl) I (aM (bW [0]) ?_))
   try refine GW ?_
   refine aL I (aU (i:=12) I λ_ pF=>aU (i:=13) I λ_ pG=>aW (i:=2) (cs':=#[.bool e2,jN,ko]) I I I I (by simp only[cZ,db,pF,pG];rfl) I (aM (bW [0]) ?_))
   try refine GW ?_
   refine dj [6,7,8,9,10,11,3,4,12,13,1,5,2] ?_;exact dE (⟨qc,qd,e_,qe,lf,F2⟩,l4,lc,jN,ko,g7,g8) fJ (by repeat' (first|exact bZ|refine bX I ?_)) I
  refine aY I λg7=>(aM (bW [6]) ?_);refine aL I (bm [0,1,2,3,4,5] [6,7,8,9] aiT I I (fO aI.en I I I) (λw hm hb=>T8 w _ (e9 (hm.pick [0,1,2,3,4,5] aiT I) uN) hb) I I I ?_);rintro⟨⟨tH,tI,gv,tJ,nP,F1⟩,l4,lc⟩ km;have km:nP.length=p1.follow.length:=km
  conv=>arg 8;simp only[zJ,cK,ret,id_eq,cO,nC]
  conv=>arg 7;simp only[cO]
  refine aM (bW [0]) ?_;refine aL I (bm [4,5,6,7,8,9] [0,1,2,3,10,11] aiT I I (fO aI.en I I I) (λw hm hb=>AP ⟨tH,tI,gv,tJ,nP,F1⟩ km w _ (e9 (hm.pick [4,5,6,7,8,9] aiT I) kQ) hb) I I I ?_);rintro⟨⟨qc,qd,e_,qe,lf,F2⟩,jN,ko⟩ fJ;have fJ:lf.length=p2.follow.length:=fJ
  conv=>arg 8;simp only[zJ,cK,ret,id_eq,cO,nC]
  conv=>arg 7;simp only[cO]
  refine aM (bW [0]) ?_;refine aL I (aU (i:=4) I λ_ pD=>aU (i:=5) I λ_ pE=>aW (i:=3) (cs':=#[.bool e1,l4,lc]) I I I I (by simp only[cZ,db,pD,pE];rfl) I (aM (bW [0]) ?_))
  try refine GW ?_
  refine aL I (aU (i:=12) I λ_ pF=>aU (i:=13) I λ_ pG=>aW (i:=2) (cs':=#[.bool e2,jN,ko]) I I I I (by simp only[cZ,db,pF,pG];rfl) I (aM (bW [0]) ?_))
  try refine GW ?_
  refine dj [6,7,8,9,10,11,4,5,12,13,1,3,2] ?_;exact dE (⟨qc,qd,e_,qe,lf,F2⟩,l4,lc,jN,ko,g7,g8) fJ (by repeat' (first|exact bZ|refine bX I ?_)) I
 clear T8 AP Je tA;rintro⟨⟨vc,vr,vfol,vl,vs,F⟩,l4,lc,jN,ko,g7,g8⟩ fJ;have fJ:vs.length=p2.follow.length:=fJ;dsimp only
 conv=>arg 7;simp only[zA,zB,zC,zD,zE,zF,zG,zH,zI,cK,ret,id_eq,nC]
 have NJ:=jL hp4;have II:=jL hp5;have XF:=jL kp4;have hl4:=jL kp5
 repeat(first|refine GA ?_|refine gV (aC (v:=lc) aK.ty I (aH (i:=11) I I)) ?_|refine gV (aC (v:=jN) aK.ty I (aH (i:=12) I I)) ?_)
 refine bm [0,3,4,7,8] [1,2,5,6,9,10,11,12] aiT I I (rX aI.en I I I I) (λw hm hb=>za g vc vr vf vfol vl ve bP lc jN vs F p2.follow ky ie w _ fJ (by rw[kp1.follow];omega) (by rw[kp1.follow];exact kp1.ris) (by rw[kp1.follow];exact nO hp5 kp2) (by rw[kp1.follow];exact kp4) hb) I I I ?_;rintro⟨pC,F'⟩ hx3;have hx3:pC.length=p2.follow.length:=hx3
 conv=>arg 8;simp only[zJ,cK,ret,id_eq,RP]
 refine mz (i:=3) I λba ca hva _ _=>?_;refine mz (i:=4) I λbb cb zU _ _=>?_;subst hva zU
 cases e1 with
 | true=>
  cases e2 with
  | true=>
   repeat(first|refine GA ?_|refine gV (aC aK.ty I (aH (i:=6) I I)) ?_|refine gV (aC aK.ty I (aH (i:=7) I I)) ?_|refine gV (bB I (nu _ _ _ _ _ _ _)) ?_)
   refine aY I λg11=>?_;refine zL ?_;refine gC 13 (cs':=#[.bool aD,ap ba gZ.length ca,ap bb jZ.length cb]) ?_;refine zL ?_
   repeat(first|refine GA ?_|refine gV (aC aK.ty I (aH (i:=6) I I)) ?_|refine gV (aC aK.ty I (aH (i:=7) I I)) ?_)
   refine aV (fO aI.en I I I) (λw' hm=>ii _ jN gZ ie w' (Sl.dB (hm.get (i:=3) I)) (Sl.dB (hm.get (i:=12) I)) J J) I I I ?_;intro vu _
   conv=>arg 8;simp only[zJ,cK,ret,id_eq,th]
   try refine GA ?_
   refine aU (i:=14) I λqu1 qu2=>bU (i:=13) I I I qu1 qu2 I ?_;refine zL ?_
   repeat(first|refine GA ?_|refine gV (aC aK.ty I (aH (i:=6) I I)) ?_|refine gV (aC aK.ty I (aH (i:=7) I I)) ?_)
   refine aV (fO aI.en I I I) (λw' hm=>ii lc _ ky jZ w' (Sl.dB (hm.get (i:=11) I)) (Sl.dB (hm.get (i:=4) I)) J J) I I I ?_;intro vu2 _
   conv=>arg 8;simp only[zJ,cK,ret,id_eq,th]
   try refine GA ?_
   refine aU (i:=15) I λqv1 qv2=>bU (i:=13) I I I qv1 qv2 I ?_;refine zL ?_
   repeat(first|refine GA ?_|refine gV (aO (i:=13) aK.ty I I I) ?_|refine gV (aC aK.ty I (aH (i:=6) I I)) ?_|refine gV (aC aK.ty I (aH (i:=7) I I)) ?_)
   refine aW (i:=5) (cs':=#[.bool aD,vu,vu2]) I I I I (by simp only[cZ,db,qu2,qv2];rfl) I ?_;refine zL ?_
   try refine GA ?_
   refine fL (i:=5) I I I I λw hm=>?_;exact hm.bV (S:=cO g vf ve bP (⟨aD,qR gZ ie,qR ky jZ⟩,{p2 with follow:=ft p2.follow ky ie})) (⟨vc,vr,vfol,vl,pC,F'⟩,vu,vu2) (by show pC.length=(ft p2.follow ky ie).length;rw[kP];exact hx3) [8,0,1,9,10,2,14,15] aiT I
  | false=>
   repeat(first|refine GA ?_|refine gV (aC aK.ty I (aH (i:=6) I I)) ?_|refine gV (aC aK.ty I (aH (i:=7) I I)) ?_|refine gV (bB I (nu _ _ _ _ _ _ _)) ?_)
   refine aY I λg11=>?_;refine zL ?_;refine gC 13 (cs':=#[.bool aE,ap ba gZ.length ca,ap bb jZ.length cb]) ?_;refine zL ?_
   repeat(first|refine GA ?_|refine gV (aC aK.ty I (aH (i:=6) I I)) ?_|refine gV (aC aK.ty I (aH (i:=7) I I)) ?_)
   refine aV (fO aI.en I I I) (λw' hm=>ii _ jN gZ ie w' (Sl.dB (hm.get (i:=3) I)) (Sl.dB (hm.get (i:=12) I)) J J) I I I ?_;intro vu _
   conv=>arg 8;simp only[zJ,cK,ret,id_eq,th]
   try refine GA ?_
   refine aU (i:=14) I λqu1 qu2=>bU (i:=13) I I I qu1 qu2 I ?_;refine zL ?_
   repeat(first|refine GA ?_|refine gV (aO (i:=13) aK.ty I I I) ?_|refine gV (aC aK.ty I (aH (i:=6) I I)) ?_|refine gV (aC aK.ty I (aH (i:=7) I I)) ?_)
   refine aW (i:=5) (cs':=#[.bool aE,vu,ap bb jZ.length cb]) I I I I (by simp only[cZ,db,qu2];rfl) I ?_;refine zL ?_
   try refine GA ?_
   refine fL (i:=5) I I I I λw hm=>?_;exact hm.bV (S:=cO g vf ve bP (⟨aE,qR gZ ie,jZ⟩,{p2 with follow:=ft p2.follow ky ie})) (⟨vc,vr,vfol,vl,pC,F'⟩,vu,ap bb jZ.length cb) (by show pC.length=(ft p2.follow ky ie).length;rw[kP];exact hx3) [8,0,1,9,10,2,14,4] aiT I
 | false=>
  cases e2 with
  | true=>
   repeat(first|refine GA ?_|refine gV (aC aK.ty I (aH (i:=6) I I)) ?_|refine gV (aC aK.ty I (aH (i:=7) I I)) ?_|refine gV (bB I (nu _ _ _ _ _ _ _)) ?_)
   refine aY I λg11=>?_;refine zL ?_;refine gC 13 (cs':=#[.bool aE,ap ba gZ.length ca,ap bb jZ.length cb]) ?_;refine zL ?_
   repeat(first|refine GA ?_|refine gV (aC aK.ty I (aH (i:=6) I I)) ?_|refine gV (aC aK.ty I (aH (i:=7) I I)) ?_)
   refine aV (fO aI.en I I I) (λw' hm=>ii lc _ ky jZ w' (Sl.dB (hm.get (i:=11) I)) (Sl.dB (hm.get (i:=4) I)) J J) I I I ?_;intro vu2 _
   conv=>arg 8;simp only[zJ,cK,ret,id_eq,th]
   try refine GA ?_
   refine aU (i:=14) I λqv1 qv2=>bU (i:=13) I I I qv1 qv2 I ?_;refine zL ?_
   repeat(first|refine GA ?_|refine gV (aO (i:=13) aK.ty I I I) ?_|refine gV (aC aK.ty I (aH (i:=6) I I)) ?_|refine gV (aC aK.ty I (aH (i:=7) I I)) ?_)
   refine aW (i:=5) (cs':=#[.bool aE,ap ba gZ.length ca,vu2]) I I I I (by simp only[cZ,db,qv2];rfl) I ?_;refine zL ?_
   try refine GA ?_
   refine fL (i:=5) I I I I λw hm=>?_;exact hm.bV (S:=cO g vf ve bP (⟨aE,gZ,qR ky jZ⟩,{p2 with follow:=ft p2.follow ky ie})) (⟨vc,vr,vfol,vl,pC,F'⟩,ap ba gZ.length ca,vu2) (by show pC.length=(ft p2.follow ky ie).length;rw[kP];exact hx3) [8,0,1,9,10,2,3,14] aiT I
  | false=>
   repeat(first|refine GA ?_|refine gV (aC aK.ty I (aH (i:=6) I I)) ?_|refine gV (aC aK.ty I (aH (i:=7) I I)) ?_|refine gV (bB I (nu _ _ _ _ _ _ _)) ?_)
   refine aY I λg11=>?_;refine zL ?_;refine gC 13 (cs':=#[.bool aE,ap ba gZ.length ca,ap bb jZ.length cb]) ?_;refine zL ?_
   repeat(first|refine GA ?_|refine gV (aO (i:=13) aK.ty I I I) ?_|refine gV (aC aK.ty I (aH (i:=6) I I)) ?_|refine gV (aC aK.ty I (aH (i:=7) I I)) ?_)
   refine gC 5 (cs':=#[.bool aE,ap ba gZ.length ca,ap bb jZ.length cb]) ?_;refine zL ?_
   try refine GA ?_
   refine fL (i:=5) I I I I λw hm=>?_;exact hm.bV (S:=cO g vf ve bP (⟨aE,gZ,jZ⟩,{p2 with follow:=ft p2.follow ky ie})) (⟨vc,vr,vfol,vl,pC,F'⟩,ap ba gZ.length ca,ap bb jZ.length cb) (by show pC.length=(ft p2.follow ky ie).length;rw[kP];exact hx3) [8,0,1,9,10,2,3,4] aiT I
end cI
namespace cI
open Go.RowKit cU dS dl gj eo
theorem CE:∀M,Jc M
 |0=>λe h=>by have:=e.size_pos;omega
 | M +1=>λe h g vf ve bP p x v w B hp hx hn hr hv hm=>by
  cases e with
  |none=>exact T3 g vf ve bP p x v w B hx hv hm
  |empty=>exact O9 g vf ve bP p x v w B hx hv hm
  |byte c=>exact T5 c g vf ve bP p x v w B hp hx J hv hm
  | star a=>
   have h:a.size+1<=M+1:=h;exact T6 (CE M) a J g vf ve bP p x v w B hp hx hn hr hv hm
  | ID a b=>
   have h:a.size+b.size+1<=M+1:=h;exact Ya (CE M) a b J J g vf ve bP p x v w B hp hx hn hr hv hm
  | IC a b=>
   have h:a.size+b.size+1<=M+1:=h;exact Yb (CE M) a b J J g vf ve bP p x v w B hp hx hn hr hv hm
end cI
namespace cI
open Go.RowKit cU dS dl gj eo
theorem sK(w:World):(dh 115 (#[]:Array (Nat×Value))).run aB w= .ok (aQ #[ap ak 0 0,ap ak 0 0,ap ak 0 0,ap ak 0 0,ap ak 0 0,ap ak 0 0]) w:=by
 go_simp
theorem T9(w:World):(dh 172 (#[]:Array (Nat×Value))).run aB w= .ok (aQ #[ap ak 0 0,ap ak 0 0,ap ak 0 0,ap ak 0 0,ap ak 0 0,ap ak 0 0,av az 0]) w:=by
 go_simp
structure PIx where
 vc:Value
 vr:Value
 vf:Value
 vfol:Value
 vl:Value
 ve:Value
 vs:List Value
 F:Nat->Prop
def Pb(x:PIx)(m:MS):List cH:=
 [a_ 77 4 x.vc m.ps.aZ.length (m.ps.aZ.flatMap dV),fY x.vr m.ps.rules,fY x.vf m.first,yc x.vfol x.vs,uM x.F x.vs m.ps.follow,a_ 4 1 x.vl m.ps.last.length (m.ps.last.map fS),a_ 4 1 x.ve m.empty.length (m.empty.map fS)]
def Pc(x:PIx):Array Value:=#[x.vc,x.vr,x.vf,x.vfol,x.vl,x.ve]
def qU(R:Int×MS):Spec PIx:=⟨λx=>x.vs.length=R.2.ps.follow.length,λx=> .tuple #[.agg (Pc x),av az R.1],λx=>Pb x R.2⟩
def Yc:PIx:=⟨ap ak 0 0,ap ak 0 0,ap ak 0 0,ap ak 0 0,ap ak 0 0,ap ak 0 0,[],λ_=>False⟩
theorem Jf{n:Nat}{W:bO}{Q:Exit->Act->World->Prop}{fr:Fr}{L:List cH}{e':Exit}(h:E n W e' Q fr (L++Pb Yc .zero)):E n W e' Q fr L:=by
 refine dK 77 4 (dK 3 1 (dK 3 1 (dK 27 1 (qm (uM (λ_=>False) [] []) (λk hk=>hk.elim (λh=>by cases h) id) (λw=>jk) (dK 4 1 (dK 4 1 ?_))))));simp only[eD,iY,eu];exact h
theorem abe{vc vr vf vfol vl ve v:Value}{bP:Int}{j:Nat}(h:[vc,vr,vf,vfol,vl,ve][j]?=aj v):(RO vc vr vf vfol vl ve bP)[0+j]?=aj v:=by
 rw[cV]
 match j,h with
 |0,h=>exact h
 |1,h=>exact h
 |2,h=>exact h
 |3,h=>exact h
 |4,h=>exact h
 |5,h=>exact h
def GF(b:Bool):List Value:=[.bool b]
theorem T_(b:Bool):(GF b).length=1:=rfl
theorem AQ(l:List Bool):l.flatMap GF=l.map fS:=by
 induction l with
 |nil=>rfl
 |cons x r ih=>rw[lO,ih];rfl
def Ho(rs:List Rx)(R:Int×MS):Prop:=
  ((rs.length=0\/20<rs.length)/\R=(1,.zero))\/(¬(rs.length=0\/20<rs.length)/\jM rs≠0/\R=(jM rs,.zero))\/
    (¬(rs.length=0\/20<rs.length)/\jM rs=0/\∃es:List Re,rs=es.map lx/\(∀e∈es,e.size<=100)/\R=lz 0 .zero es)
theorem Pd{l:List Rx}{k:Nat}(h:k<l.length):jM (l.drop k)=if LK l[k]≠0 then LK l[k]else jM (l.drop (k+1)):=by
 rw[eN h,jM]
theorem Ec(v:Value)(rs:List Rx)(R:Int×MS)(w:World)(hv:jW xJ (p9 w) w v rs)(hR:Ho rs R):
    Calls aB 36 #[v] w (cB (qU R) w):=by
  obtain⟨bk,ck,rfl,h1,h2,h3⟩:=hv;unfold maxLen at h2;refine enter (args:=[ap bk rs.length ck]) (n:=104) Tryz.func36 I I I ?_;refine cC (bz (aY I λg2=>?_));refine zL ?_;rcases hR with⟨c1,rfl⟩|hR
  · by_cases c2:rs.length=0
    · repeat(first|refine GC ?_|refine gV (dg (b:=aD) I I (decide_eq_true J)) ?_|refine gV (bB I sK) ?_|refine GB ?_)
      refine gC 0 ?_;refine zL ?_
      try refine GA ?_
      refine Jf ?_;exact eE (i:=0) I I I I I λw hm=>hm.meets (S:=qU (1,.zero)) Yc I [1,2,3,4,5,6,7] aiT I
    have c3:20<rs.length:=c1.resolve_left c2
    repeat(first|refine GC ?_|refine gV (dg (b:=aE) I I (decide_eq_false J)) ?_|refine gV (dT (b:=aD) I I (decide_eq_true J)) ?_|refine gV (bB I sK) ?_|refine GB ?_)
    refine gC 0 ?_;refine zL ?_
    try refine GA ?_
    refine Jf ?_;exact eE (i:=0) I I I I I λw hm=>hm.meets (S:=qU (1,.zero)) Yc I [1,2,3,4,5,6,7] aiT I
  have hlen:¬(rs.length=0\/20<rs.length):=by rcases hR with⟨h,_⟩|⟨h,_⟩<;>exact h
  repeat(first|refine GC ?_|refine gV (dg (b:=aE) I I (decide_eq_false J)) ?_|refine gV (dT (b:=aE) I I (decide_eq_false J)) ?_|refine GB ?_)
  refine ea (ι:=Nat) (λk=>k<=rs.length/\jM rs=jM (rs.drop k)) (λk=>[(0,ap bk rs.length ck),(2,aJ (aj ⟨g2,0,ak⟩)),(22,ap bk rs.length ck),(23,av az rs.length),(24,av az (k:Int))])
    (λ_=>[aP g2 #[ap ak 0 0,ap ak 0 0,ap ak 0 0,ap ak 0 0,ap ak 0 0,ap ak 0 0] 115]) (λk=>rs.length-k) 0 ⟨bH _,rfl⟩ ?_
  rintro k ⟨i1,i2⟩
  by_cases c6:k<rs.length
  · obtain⟨b,off,rfl,hF,eL⟩:=h3 J
    obtain⟨kb,kc,hr,T7⟩:=qo eL c6;have du:=λ(L:List cH) (j:Nat) (v:Value) (hj:(mi rs[k].kind rs[k].ud (.slice kb rs[k].kids.length kc))[j]?=aj v)=>iI (L:=L) hr hj;have iW:∀w',Gr w w'->Calls aB 66 #[qK rs[k].kind rs[k].ud (.slice kb rs[k].kids.length kc)] w' (cB (ret (av az (LK rs[k]))) w'):=λw' hg=>ul _ _ w' (T7.gr hg);have Vv:=Pd c6;clear h3 eL hr;generalize rs[k]=r at*
    repeat(first|refine GA ?_|refine gV (aX bM.eq aK.ty I I c6) ?_|refine gV (a8 aK.ty I I (du _)) ?_)
    refine aY I λg5=>?_;refine zL ?_;refine gC 1 (cs':=(mi r.kind r.ud (ap kb r.kids.length kc)).toArray) ?_;refine zL ?_
    repeat(first|refine GA ?_|refine gV (aO (i:=1) aK.ty I I I) ?_)
    refine aV (hZ aI.en I I) (λw hm=>iW _ hm.below) I I I ?_;intro _ _;refine zL ?_
    by_cases c7:LK r=0
    · repeat(first|refine GC ?_|refine gV (dr (b:=aE) I I (decide_eq_false (by simpa using c7))) ?_|refine GB ?_)
      refine dj [0] ?_;exact bY (k+1) ⟨by omega,by rw[i2,Vv,if_neg (by simpa using c7)]⟩ (by show rs.length-(k+1)<rs.length-k;omega)
    have hne:jM rs≠0:=by rw[i2,Vv,if_pos c7];exact c7
    rcases hR with⟨_,_,rfl⟩|⟨_,h0,_⟩
    · rw[i2,Vv,if_pos c7]
      repeat(first|refine GC ?_|refine gV (dr (b:=aD) I I (decide_eq_true c7)) ?_|refine gV (bB I sK) ?_|refine GB ?_)
      refine gC 0 ?_;refine zL ?_
      try refine GA ?_
      refine Jf ?_;exact eE (i:=0) I I I I I λw hm=>hm.meets (S:=qU (LK r,.zero)) Yc I [2,3,4,5,6,7,8] aiT I
    exact absurd h0 hne
  · obtain rfl:k=rs.length:=by omega
    have h0:jM rs=0:=by rw[i2,uo (bx _)];rfl
    obtain⟨es,rfl,hsz,rfl⟩:∃es:List Re,rs=es.map lx/\(∀e∈es,e.size<=100)/\R=lz 0 .zero es:=by
      rcases hR with⟨_,h,_⟩|⟨_,_,h⟩
      exact absurd h0 h;exact h
    have h20:(Xo lx es).length<=20:=by omega
    clear hR hlen i1 i2
    repeat(first|refine GA ?_|refine gV (bB I T9) ?_)
    refine bR I I I λg7=>?_;refine zL ?_
    try refine GA ?_
    refine jf 77 4 (jf 3 1 (jf 27 1 (mB (uM (λ_=>False) [] []) (λk hk=>hk.elim (λh=>by cases h) id) (λw=>jk) (jf 4 1 (jf 3 1 (jf 4 1 ?_))))));refine ea (ι:=Nat×MS×Vt×Value×Value×Int) (λ(k,m,x,_,_,_)=>k<=es.length/\lz 0 .zero es=lz k m (es.drop k)/\O5 m/\m.ps.aZ.length<=200/\x.vs.length=m.ps.follow.length/\m.empty.length=k) (λ(k,_,_,_,_,_)=>[(2,aJ (aj ⟨g2,0,ak⟩)),(7,aJ (aj ⟨g7,0,ak⟩)),(37,ap bk (es.map lx).length ck),(38,av az (es.map lx).length),(39,av az (k:Int))])
      (λ(_,m,x,vf,ve,bP)=>[aP g2 #[ap ak 0 0,ap ak 0 0,ap ak 0 0,ap ak 0 0,ap ak 0 0,ap ak 0 0] 115]++nC g7 vf ve bP x m.ps++[fY vf m.first,a_ 4 1 ve m.empty.length (m.empty.map fS)]) (λ(k,_,_,_,_,_)=>es.length-k)
      (0,.zero,⟨ap ak 0 0,ap ak 0 0,ap ak 0 0,ap ak 0 0,[],λ_=>False⟩,ap ak 0 0,ap ak 0 0,0) ⟨bH _,rfl,I8,bH _,rfl,rfl⟩ ?_
    rintro⟨k,m,⟨vc,vr,vfol,vl,vs,F⟩,vf,ve,bP⟩ ⟨i1,i2,i3,i4,i5,i6⟩;dsimp only at i1 i2 i3 i4 i5 i6⊢
    conv=>arg 7;simp only[zA,zB,zC,zD,zE,zF,zG,zH,zI,cK,ret,id_eq,nC]
    have hml:(Xo lx es).length=es.length:=dF ..
    by_cases c6:k<es.length
    · obtain⟨b,off,rfl,hF,eL⟩:=h3 J
      obtain⟨kb,kc,hr,T7⟩:=qo (k:=k) eL J;have du:=λ(L:List cH) (j:Nat) (v:Value) (hj:(mi (es.map lx)[k].kind (es.map lx)[k].ud (.slice kb (es.map lx)[k].kids.length kc))[j]?=aj v)=>iI (L:=L) hr hj;have hke:(es.map lx)[k]' J=lx es[k]:=pg ..;rw[hke]at du T7;have hse:=hsz es[k] (cD c6);rw[eN c6,lz]at i2;clear h3 eL hr hke;generalize es[k]=e at*;have hst:=RJ k i3 e;have KV:=lB k e m.ps i3.ps;have hno:=λv w B hv hm=>CE 100 e hse g7 vf ve k m.ps ⟨vc,vr,vfol,vl,vs,F⟩ v w B i3.ps i5 J ⟨by omega,by omega⟩ hv hm
      repeat(first|refine GA ?_|refine gV (aX bM.eq aK.ty I I J) ?_|refine gV (a8 aK.ty I I (du _)) ?_)
      refine aY I λg9=>?_;refine zL ?_
      try refine GA ?_
      refine gC 9 (cs':=(mi (lx e).kind (lx e).ud (ap kb (lx e).kids.length kc)).toArray) ?_;refine zL ?_
      try refine GA ?_
      refine bU (i:=1) I I I I I I ?_;refine zL ?_
      repeat(first|refine GA ?_|refine gV (aO (i:=9) aK.ty I I I) ?_)
      refine bm [1,2,3,4,5,6] [0,7,8,9] aiT I I (fO aI.en I I I) (λw hm hb=>hno _ w _ (e9 (hm.pick [1,2,3,4,5,6] aiT I) (T7.mono λk hk=>⟨hk,id⟩)) hb) I I I ?_;rintro⟨⟨FX,B8,wX,RV,pC,F'⟩,va,vb⟩ Oo
      conv=>arg 8;simp only[zJ,cK,ret,id_eq,cO,nC]
      conv=>arg 7;simp only[cO]
      have Oo:pC.length=(cL k e m.ps).2.follow.length:=Oo;unfold wW at i2 hst;generalize cL k e m.ps=R at*;obtain⟨⟨em,first,last⟩,p'⟩:=R;dsimp only at i2 hst KV Oo⊢;obtain⟨n1,n2,n3,n4,n5⟩:=KV;have NJ:=jL i3.first;have II:=jL n4;have XF:=jL n5;refine aU (i:=10) I λ_ qa=>aU (i:=11) I λ_ qb=>aY I λg10=>?_;refine zL ?_;refine aW (i:=12) (cs':=#[.bool em,va,vb]) I I I I (by simp only[cZ,db,qa,qb];rfl) I ?_;refine zL ?_
      try refine GA ?_
      (repeat refine cC ?_)
      refine k8 (ι:=Value) (λVw=>Vw.oneCell'=aD) (λ_=>[(2,aJ (aj ⟨g2,0,ak⟩)),(7,aJ (aj ⟨g7,0,ak⟩)),(10,aJ (aj ⟨g10,0,ak⟩)),(37,ap (aj ⟨b,off,ak⟩) (es.map lx).length ck),(38,av az (es.map lx).length),(39,av az (k:Int))])
        (λVw=>[aP g2 #[ap ak 0 0,ap ak 0 0,ap ak 0 0,ap ak 0 0,ap ak 0 0,ap ak 0 0] 115,aP g7 (RO FX B8 Vw wX RV ve (k:Int)) 172,a_ 77 4 FX p'.aZ.length (p'.aZ.flatMap dV),fY B8 p'.rules,yc wX pC,uM F' pC p'.follow,a_ 4 1 RV p'.last.length (p'.last.map fS),fY Vw (qR m.first first),a_ 4 1 ve m.empty.length (m.empty.map fS),aP g10 #[.bool em,va,vb] 174,fY vb last]) ?_ ?_
      · refine dN ([aP g10 #[.bool em,va,vb] 174]) (.calm 0 (.calm 1 (.calm 2 (.calm 3 (.calm 4 (.calm 6 (.calm 7 (.one 5 (.one 8 (.calm 9 (.calm 10 (.calm 11 (.one 12 (.done)))))))))))))) (bW [12]) ?_
        repeat(first|refine GW ?_|(refine GN ?_;first|refine QW (aC aK.ty I (aH (i:=0) I I)) ?_))
        refine aL I (dx (aC (v:=vf) aK.ty I (aH (i:=4) I I)) I I I (aM (bW [12]) ?_));refine aL I (aV (fO aI.en I I I) (λw' hm=>ii vf va m.first first w' (Sl.dB (hm.get (i:=1) I)) (Sl.dB (hm.get (i:=10) I)) J J) I I I ?_);intro Vw _
        conv=>arg 8;simp only[zJ,cK,ret,id_eq,th]
        refine aM (bW [12]) ?_
        try refine GW ?_
        refine aL I (aU (i:=13) I λqf1 qf2=>bU (i:=4) I I I qf1 qf2 I (aM (bW [12]) ?_))
        try refine GW ?_
        refine dj [0,4,5,6,7,8,9,13,2,12,11] ?_;exact dE Vw qf2 (by repeat' (first|exact bZ|refine bX I ?_)) I
      intro Vw Cq
      (repeat refine cC ?_)
      refine k8 (ι:=Value) (λRW=>RW.oneCell'=aD) (λ_=>[(2,aJ (aj ⟨g2,0,ak⟩)),(7,aJ (aj ⟨g7,0,ak⟩)),(10,aJ (aj ⟨g10,0,ak⟩)),(37,ap (aj ⟨b,off,ak⟩) (es.map lx).length ck),(38,av az (es.map lx).length),(39,av az (k:Int))])
        (λRW=>[aP g2 #[ap ak 0 0,ap ak 0 0,ap ak 0 0,ap ak 0 0,ap ak 0 0,ap ak 0 0] 115,aP g7 (RO FX B8 Vw wX RV RW (k:Int)) 172,a_ 77 4 FX p'.aZ.length (p'.aZ.flatMap dV),fY B8 p'.rules,yc wX pC,uM F' pC p'.follow,a_ 4 1 RV p'.last.length (p'.last.map fS),fY Vw (qR m.first first),a_ 4 1 RW (m.empty++[em]).length ((m.empty++[em]).map fS),aP g10 #[.bool em,va,vb] 174,fY vb last]) ?_ ?_
      · refine dN ([aP g10 #[.bool em,va,vb] 174]) (.calm 0 (.calm 1 (.calm 2 (.calm 3 (.calm 4 (.calm 6 (.calm 7 (.two 5 (.one 8 (.one 9 (.calm 10 (.calm 11 (.calm 12 (.one 13 (.done))))))) 8 (.one 5 (.one 9 (.calm 10 (.calm 11 (.calm 12 (.one 13 (.done))))))))))))))) (bW [9]) ?_
        repeat(first|refine GW ?_|(refine GN ?_;first|refine QW (aC aK.ty I (aH (i:=0) I I)) ?_))
        refine eG I I ?_ ?_
        · refine dx (aC (v:=ve) aK.ty I (aH (i:=1) I I)) I I I (aM (bW [9]) ?_)
          refine aL I (fy (cs:=#[.bool em]) [.bool em] I I I (by intro v hv;simp at hv;subst hv;rfl) I I I λg71=>(aM (bW [9]) ?_));refine aL I (eK (i:=8) (e:=4) (size:=1) (bytes:=1) (m:=m.empty.length) (xs:=m.empty.map fS) (k:=1) (ys:=[.bool em]) I (k_ (i:=11) I (λj u h=>by simpa using h) (bx 1) aiT) I I I (λu hu=>by rw[dR.1 hu];rfl) J J I λRW=>(aM (bW [9]) ?_))
          try refine GW ?_
          refine aL I (aU (i:=8) I λqe1 qe2=>bU (i:=1) I I I qe1 qe2 I (aM (bW [9]) ?_))
          try refine GW ?_
          refine dj [0,1,2,3,4,5,6,7,8,9,10] ?_;exact dE RW qe2 (by repeat' (first|exact bZ|refine bX I ?_)) (by rw[<-AO RW m.empty em];rfl)
        refine fy (cs:=#[.bool em]) [.bool em] I I I (by intro v hv;simp at hv;subst hv;rfl) I I I λg71=>(aM (bW [9]) ?_);refine aL I (dx (aC (v:=ve) aK.ty I (aH (i:=1) I I)) I I I (aM (bW [9]) ?_));refine aL I (eK (i:=8) (e:=4) (size:=1) (bytes:=1) (m:=m.empty.length) (xs:=m.empty.map fS) (k:=1) (ys:=[.bool em]) I (k_ (i:=11) I (λj u h=>by simpa using h) (bx 1) aiT) I I I (λu hu=>by rw[dR.1 hu];rfl) J J I λRW=>(aM (bW [9]) ?_))
        try refine GW ?_
        refine aL I (aU (i:=8) I λqe1 qe2=>bU (i:=1) I I I qe1 qe2 I (aM (bW [9]) ?_))
        try refine GW ?_
        refine dj [0,1,2,3,4,5,6,7,8,9,10] ?_;exact dE RW qe2 (by repeat' (first|exact bZ|refine bX I ?_)) (by rw[<-AO RW m.empty em];rfl)
      intro RW he';rw[show p'.last.map fS=p'.last.flatMap GF from(AQ _).symm];refine iu (i:=10) (φ:=∃a c,vb=ap a last.length c/\(0<last.length->∃gl,a=aj ⟨gl,0,ak⟩)) I (λw h=>by
        obtain⟨y1,y2⟩:=(show w.ownsRow 0 3 1 vb last.length (last.map (av .i64))from h);rcases y2 with⟨y3,y4⟩|⟨gl,cap,jS,hv,_⟩
        exact⟨ak,0,by rw[y3,y4],λh=>by omega⟩;exact⟨_,_,hv,λ_=>⟨gl,rfl⟩⟩) λzU=>?_
      obtain⟨al,cl,rfl,hal⟩:=zU;refine iu (i:=6) (φ:=0<p'.last.length->∃gb cb,RV=ap (aj ⟨gb,0,ak⟩) p'.last.length cb) I (λw h=>by
        obtain⟨y1,y2⟩:=(show w.ownsRow 0 4 1 RV p'.last.length (p'.last.flatMap GF)from h);rcases y2 with⟨y3,y4⟩|⟨gl,cap,jS,hv,_⟩
        intro h;omega;exact λ_=>⟨gl,cap,hv⟩) λhvl=>?_
      repeat(first|refine GA ?_|refine gV (aC (v:=ap al last.length cl) aK.ty I (aH (i:=9) I I)) ?_)
      refine uc [0,1,2,3,4,5,6,7,8,10] ?_;refine ea (ι:=Nat) (λj=>j<=last.length) (λj=>[(2,aJ (aj ⟨g2,0,ak⟩)),(7,aJ (aj ⟨g7,0,ak⟩)),(37,ap (aj ⟨b,off,ak⟩) (es.map lx).length ck),(38,av az (es.map lx).length),(39,av az (k:Int)),(77,ap al last.length cl),(78,av az last.length),(79,av az (j:Int))])
        (λj=>[aP g2 #[ap ak 0 0,ap ak 0 0,ap ak 0 0,ap ak 0 0,ap ak 0 0,ap ak 0 0] 115,aP g7 (RO FX B8 Vw wX RV RW (k:Int)) 172,a_ 77 4 FX p'.aZ.length (p'.aZ.flatMap dV),fY B8 p'.rules,yc wX pC,uM F' pC p'.follow,a_ 4 1 RV p'.last.length ((fP p'.last (last.take j)).flatMap GF),fY Vw (qR m.first first),a_ 4 1 RW (m.empty++[em]).length ((m.empty++[em]).map fS),fY (ap al last.length cl) last]) (λj=>last.length-j) 0 (bH _) ?_
      intro j j1
      by_cases c7:j<last.length
      · obtain⟨gl,rfl⟩:=hal J
        have hx:=n5.2 last[j] (cD c7);have hgx:last[j]?=aj last[j]:=bD c7;have hms:=TZ p'.last last c7;have aiq:=Ea p'.last (last.take j);generalize last[j]=xx at*;obtain⟨xn,rfl⟩:=h_ hx.1;rw[dq]at hms;have hxn:xn<p'.last.length:=by rw[n1.last];omega
        obtain⟨gb,cb,rfl⟩:=hvl J;have aei:∀(L:List cH) (hi:L[9]?=aj (fY (ap (aj ⟨gl,0,ak⟩) last.length cl) last)),At (w:bO) L ⟨gl,0+j*1,ak⟩ (av az (xn:Int)):=λL hi=>ki hi (by rw[eS,cV,kH,hgx];rfl)
        repeat(first|refine GA ?_|refine gV (aX bM.eq aK.ty I I c7) ?_|refine gV (aC (v:=av az (xn:Int)) aK.ty I (aei _ I)) ?_|refine gV (aC (v:=ap (aj ⟨gb,0,ak⟩) p'.last.length cb) aK.ty I (aH (i:=1) I I)) ?_|refine gV (aX bM.eq aK.ty I I hxn) ?_)
        refine Ao T_ (i:=6) (k:=xn) (l:=fP p'.last (last.take j)) (a:=aD) aK.ty I I J J J I I I ?_;rw[<-hms];refine zL ?_
        try refine GA ?_
        exact bY (j+1) J (by show last.length-(j+1)<last.length-j;omega)
      obtain rfl:j=last.length:=by omega
      rw[gB (bx _),AQ];refine iu (i:=2) (φ:=∃a c,FX=ap a p'.aZ.length c) I (λw h=>by
        obtain⟨a,c,h,_⟩:=Sl.dB (show w.ownsRow 0 77 4 FX p'.aZ.length (p'.aZ.flatMap dV)from h);exact⟨a,c,h⟩) λhvc=>?_
      obtain⟨ac,cc,rfl⟩:=hvc
      by_cases c8:200<p'.aZ.length
      · rw[if_pos c8]at i2
        rw[i2]
        repeat(first|refine GC ?_|refine gV (aC (v:=ap ac p'.aZ.length cc) aK.ty I (aH (i:=1) I I)) ?_|refine gV (dT (b:=aD) I I (decide_eq_true J)) ?_|refine gV (bB I sK) ?_|refine GB ?_)
        refine gC 0 ?_;refine zL ?_
        try refine GA ?_
        refine Jf ?_;exact eE (i:=0) I I I I I λw hm=>hm.meets (S:=qU (2,.zero)) Yc I [10,11,12,13,14,15,16] aiT I
      rw[if_neg c8]at i2
      repeat(first|refine GC ?_|refine gV (aC (v:=ap ac p'.aZ.length cc) aK.ty I (aH (i:=1) I I)) ?_|refine gV (dT (b:=aE) I I (decide_eq_false J)) ?_|refine GB ?_)
      refine dj [0,1,2,3,4,5,6,7,8] ?_;exact bY (k+1,⟨{p' with last:=fP p'.last last},qR m.first first,m.empty++[em]⟩,⟨ap ac p'.aZ.length cc,B8,wX,RV,pC,F'⟩,Vw,RW,(k:Int)) ⟨by omega,i2,hst.1,by show p'.aZ.length<=200;omega,Oo,by rw[bI,lW,i6]⟩ (by show es.length-(k+1)<es.length-k;omega) (hl:=by dsimp only;rw[show p'.last.length=(fP p'.last last).length from(Ea _ _).symm];rfl)
    obtain rfl:k=es.length:=by omega
    rw[uo (bx _)]at i2;rw[i2]
    try refine GA ?_
    refine aU (i:=2) I λ_ a1=>aU (i:=3) I λ_ a2=>aU (i:=4) I λ_ a3=>aU (i:=6) I λ_ a4=>aU (i:=7) I λ_ a5=>aU (i:=8) I λ_ a6=>?_
    repeat(first|refine GA ?_|refine gV (a8 (cs:=[vc,vr,vf,vfol,vl,ve]) aK.ty I I (λj v hj=>aH (i:=1) I (abe hj))) ?_)
    refine aW (i:=0) (cs':=#[vc,vr,vf,vfol,vl,ve]) I I I I (by simp only[cZ,db,a1,a2,a3,a4,a5,a6];rfl) I ?_;refine zL ?_
    try refine GA ?_
    exact eE (i:=0) I I I I I λw hm=>hm.meets (S:=qU (0,m)) ⟨vc,vr,vf,vfol,vl,ve,vs,F⟩ i5 [2,3,7,4,5,6,8] aiT I
end cI
namespace cI
open Go.RowKit cU dS dl gj eo kU
theorem RX:∀{rs:List Rx},jM rs=0->∃es:List Re,rs=es.map lx/\∀e∈es,Fit e 1 0
 |[],_=>⟨[],rfl,λ_ h=>by cases h⟩
 |r::l,h=>by
  have hr:=Hk h r (gd ..);have hl:jM l=0:=by rw[jM,if_neg (by simpa using hr)]at h;exact h
  obtain⟨es,rfl,h2⟩:=RX hl;obtain⟨e,rfl,hf,_⟩:=IE (tc r) r 1 0 (mh r 1 0).2 (bx _) (by rw[<-hr]);refine⟨e::es,rfl,λx hx=>?_⟩;rcases dA.1 hx with rfl|hx
  exact hf;exact h2 x hx
theorem Yd{e:Re}(h:Fit e 1 0):e.size<=100:=by have:=h.sz;omega
theorem Hp:∀(es:List Re) (i:Nat) (m:MS),(lz i m es).1≠0->(lz i m es).2= .zero
 |[],_,_,h=>absurd I h
 |e::r,i,m,h=>by
  rw[lz]at h⊢;split at h
  ·rename_i c;rw[if_pos c]
  rename_i c;rw[if_neg c];exact Hp r _ _ h
theorem Ua(rs:List Rx):(∃k:Int,k≠0/\Ho rs (k,.zero))\/∃(es:List Re) (m:MS),rs=es.map lx/\(∀e∈es,Fit e 1 0)/\0<es.length/\es.length<=20/\lz 0 .zero es=(0,m)/\Ho rs (0,m):=by
 by_cases c:rs.length=0\/20<rs.length
 exact .inl ⟨1,by decide,.inl ⟨c,rfl⟩⟩
 by_cases h:jM rs=0
 ·obtain⟨es,h1,h2⟩:=RX h
  have hR:Ho rs (lz 0 .zero es):= .inr (.inr ⟨c,h,es,h1,λe he=>Yd (h2 e he),rfl⟩);have hz:=Hp es 0 .zero;have hl:rs.length=es.length:=by rw[h1,dF]
  obtain⟨k,m,e⟩:∃k m,lz 0 .zero es=(k,m):=⟨_,_,rfl⟩;rw[e]at hR hz
  by_cases h0:k=0
  ·subst h0
   exact .inr ⟨es,m,h1,h2,by omega,by omega,e,hR⟩
  obtain rfl:m= .zero:=hz h0;exact .inl ⟨k,h0,hR⟩
 exact .inl ⟨jM rs,h,.inr (.inl ⟨c,h,rfl⟩)⟩
theorem fW{e:TypeId}{size n:Nat}{v:Value}{xs:List Value}(w:World)(h:(a_ e size v n xs).holds w):∃a c,v=ap a n c/\n<=9223372036854775807/\(0<n->∃g,a=aj ⟨g,0,ak⟩):=by
 rcases(show w.ownsRow 0 e size v n xs from h).2 with⟨rfl,rfl⟩|⟨g,cap,jS,rfl,_,_,hn,hm,_⟩
 exact⟨_,_,rfl,by omega,λh=>by omega⟩;exact⟨_,_,rfl,by unfold maxLen at hm;omega,λ_=>⟨g,rfl⟩⟩
theorem abf{F:Nat->Prop}{v:Value}{vs:List Value}{mW:List (List Int)}{w:World}(hr:(yc v vs).holds w)(he:(uM F vs mW).holds w)(hl:vs.length=mW.length):jW (bL fG) (p9 w) w v mW:=by
 have GI:w.ownsRow 0 27 1 v vs.length (vs.flatMap y'):=hr;obtain⟨base,cap,h1,h2,h3,h4⟩:=Sl.dB GI;rw[hl]at h1 h2;refine⟨base,cap,h1,h2,h3,λh0=>?_⟩;obtain⟨b,off,h5,h6⟩:=h4 J;rw[T2]at h6;refine⟨b,off,h5,?_,λi hi=>⟨[vs[i]' J],⟨vs[i]' J,rfl,?_⟩,λj u hj=>?_⟩⟩
 ·have:=h6 0 _ (bD J)
  exact nX w _ this
 ·have hs:=X_ he hi J
  obtain⟨⟨q1,q2⟩,q3⟩:=he;obtain⟨v',OL,lq,_,hF⟩:=q2 i hi (by rw[dF];omega);rw[pg]at OL;simp only[y',gi,and_true]at OL;rw[<-rz]at hs;refine jW.of_flat hs lq (λb hb=>q3 b (hF b (by rw[<-OL];exact hb))) λa n cp hv=>q3 a.block (hF _ (by rw[<-OL,hv];rfl))
 have hj0:j=0:=by have:=(cX.1 hj).1;simp at this;exact this
 subst hj0;have:=h6 i u (by rw[bD J];exact hj);show w.cell? ⟨b,off+i*1+0,ak⟩=aj u
 rw[kH,jC];exact this
end cI
namespace cI
open Go.RowKit cU dS
theorem j0(a:Int):(cU.ez a).length=1:=rfl
end cI
namespace cI
open Go.RowKit cU dS
def boC(b:Bool):List Value:=[.bool b]
theorem RY(a:Bool):(boC a).length=1:=rfl
end cI
namespace cI
open Go.RowKit cU dS dl eo
theorem abg{F:Nat->Prop}{w:World}{cs:List Value}{l:List Int}(h:(bL fG).is F w cs l):∃v,cs=[v]/\Sl w v l.length (l.flatMap cU.ez):=by
 obtain⟨v,h1,h2⟩:=h;exact⟨v,h1,h2.flat aiT⟩
theorem sL{w w':World}{v:Value}{l:List (List Int)}(h:jW (bL fG) (p9 w) w v l)(hg:Gr w w'):jW (bL fG) (p9 w') w' v l:=
 (h.stay λk hk=>hg.block k hk).mono λ_ hk=>jp hk hg.size
def FZ(w:World)(v:Value)(m:MS):Prop:=
 ∃ vc vr vf vfol vl ve,v=aQ #[vc,vr,vf,vfol,vl,ve]/\Sl w vc m.ps.aZ.length (m.ps.aZ.flatMap dV)/\Sl w vr m.ps.rules.length (m.ps.rules.flatMap cU.ez)/\Sl w vf m.first.length (m.first.flatMap cU.ez)/\
  jW (bL fG) (p9 w) w vfol m.ps.follow/\Sl w vl m.ps.last.length (m.ps.last.flatMap boC)/\Sl w ve m.empty.length (m.empty.flatMap boC)
theorem FZ.gr{w w':World}{v:Value}{m:MS}(h:FZ w v m)(hg:Gr w w'):FZ w' v m:=by
 obtain⟨vc,vr,vf,vfol,vl,ve,h0,h1,h2,h3,h4,h5,h6⟩:=h;exact⟨vc,vr,vf,vfol,vl,ve,h0,h1.gr hg,h2.gr hg,h3.gr hg,sL h4 hg,h5.gr hg,h6.gr hg⟩
end cI
namespace cI
open Go.RowKit cU dS dl gj eo
theorem LX(l:List Bool):l.flatMap boC=l.map fS:=AQ l
theorem abh{w:World}{x:PIx}{m:MS}(hl:x.vs.length=m.ps.follow.length)(h0:(a_ 77 4 x.vc m.ps.aZ.length (m.ps.aZ.flatMap dV)).holds w)(h1:(fY x.vr m.ps.rules).holds w)(h2:(fY x.vf m.first).holds w)(h3:(yc x.vfol x.vs).holds w)(h4:(uM x.F x.vs m.ps.follow).holds w)
 (h5:(a_ 4 1 x.vl m.ps.last.length (m.ps.last.map fS)).holds w) (h6:(a_ 4 1 x.ve m.empty.length (m.empty.map fS)).holds w):FZ w (.agg (Pc x)) m:=by
 refine⟨_,_,_,_,_,_,rfl,Sl.dB h0,?_,?_,abf h3 h4 hl,?_,?_⟩
 ·rw[rz];exact Sl.dB h1
 ·rw[rz];exact Sl.dB h2
 ·rw[LX];exact Sl.dB h5
 ·rw[LX];exact Sl.dB h6
theorem Mem.ahv{w:World}{B:bO}{L:List cH}{x:PIx}{m:MS}(i:Nat)(hm:Mem B L w)(hl:x.vs.length=m.ps.follow.length)(h:Pb x m=[i,i+1,i+2,i+3,i+4,i+5,i+6].filterMap λj=>L[j]?)(hlen:i+6<L.length):FZ w (.agg (Pc x)) m:=by
 have g:∀j,j<7->∃o,L[i+j]?=aj o/\(Pb x m)[j]?=aj o:=by
  intro j hj;have e:∀k,k<7->∃o,L[i+k]?=aj o:=λk hk=>⟨_,bD J⟩;rw[h];obtain⟨o0,e0⟩:∃o,L[i]?=aj o:=e 0 J;obtain⟨o1,e1⟩:=e 1 J;obtain⟨o2,e2⟩:=e 2 J;obtain⟨o3,e3⟩:=e 3 J;obtain⟨o4,e4⟩:=e 4 J;obtain⟨o5,e5⟩:=e 5 J;obtain⟨o6,e6⟩:=e 6 J;simp only[List.filterMap_cons,e0,e1,e2,e3,e4,e5,e6,List.filterMap_nil]
  match j,hj with
  |0,_=>exact⟨_,e0,rfl⟩
  |1,_=>exact⟨_,e1,rfl⟩
  |2,_=>exact⟨_,e2,rfl⟩
  |3,_=>exact⟨_,e3,rfl⟩
  |4,_=>exact⟨_,e4,rfl⟩
  |5,_=>exact⟨_,e5,rfl⟩
  |6,_=>exact⟨_,e6,rfl⟩
 have k:∀j o,j<7->(Pb x m)[j]?=aj o->o.holds w:=λj o hj ho=>by
  obtain⟨o',h1,h2⟩:=g j hj;rw[h2]at ho
  cases ho
  exact hm.get h1
 exact abh hl (k 0 _ J I) (k 1 _ J I) (k 2 _ J I) (k 3 _ J I) (k 4 _ J I) (k 5 _ J I) (k 6 _ J I)
end cI
namespace cI
open Go.RowKit cU dS dl gj eo
theorem Bw(v:Value)(l:List Int)(n:Nat)(w:World)(hv:Sl w v l.length (l.flatMap cU.ez))(h:Hj n l):
 Calls aB 103 #[v,av az (n:Int)] w (cB (ret (.bool aD)) w):=by
 obtain⟨base,cap,rfl,ly,kl,eL⟩:=hv;unfold maxLen at kl;refine enter (args:=[ap base l.length cap,av az (n:Int)]) (n:=35) Tryz.func103 I I I ?_
 try refine GA ?_
 refine ea (ι:=Nat) (λk=>k<=l.length) (λk=>[(0,ap base l.length cap),(1,av az (n:Int)),(7,ap base l.length cap),(8,av az l.length),(9,av az (k:Int))]) (λ_=>[]) (λk=>l.length-k) 0 (bH _) ?_;intro k h1
 by_cases c2:k<l.length
 ·obtain⟨b,off,rfl,hr⟩:=eL J
  have du:=gO (L:=([]:List cH)) j0 hr c2 0 _ I;have hx:=h.2 _ (cD c2)
  by_cases c3:0<k
  ·have hp:=IL.1 h.1 (k-1) k J c2 J
   have tA:=gO (L:=([]:List cH)) j0 hr (k:=k-1) J 0 _ I;generalize l[k]=x at*;generalize l[k-1]' J=y at*
   repeat(first|refine GC ?_|refine gV (aX bM.eq aK.ty I I c2) ?_|refine gV (aC (v:=av az x) aK.ty I du) ?_|refine gV (dQ (b:=aE) I I (decide_eq_false J)) ?_|refine gV (aX (j:=k-1) bM.eq aK.ty I I J) ?_|refine gV (aC (v:=av az y) aK.ty I tA) ?_|refine gV (eU (b:=aE) I I (decide_eq_false J)) ?_|refine gV (dT (b:=aD) I I (decide_eq_true J)) ?_|refine gV (eJ (r:=((k-1:Nat):Int)) I I J J J) ?_|refine gV (Aj (b:=aE) I I (decide_eq_false J)) ?_|refine GB ?_)
   exact bY (k+1) J (by show l.length-(k+1)<l.length-k;omega)
  generalize l[k]=x at*
  repeat(first|refine GC ?_|refine gV (aX bM.eq aK.ty I I c2) ?_|refine gV (aC (v:=av az x) aK.ty I du) ?_|refine gV (dQ (b:=aE) I I (decide_eq_false J)) ?_|refine gV (eU (b:=aE) I I (decide_eq_false J)) ?_|refine gV (dT (b:=aE) I I (decide_eq_false J)) ?_|refine GB ?_)
  exact bY (k+1) J (by show l.length-(k+1)<l.length-k;omega)
 ·try refine GA ?_
  exact eM
theorem AR{w:World}{b off:Nat}{l:List (List Int)}{F:Nat->Prop}(hr:∀i (h:i<l.length),∃cs,(bL fG).is F w cs l[i]/\Rd w b (off+i*(bL fG).c) cs){k:Nat}(hk:k<l.length):∃u,Sl w u l[k].length (l[k].flatMap cU.ez)/\Rd w b (off+k*1) [u]:=by
 obtain⟨cs,h1,h2⟩:=hr k hk;obtain⟨u,rfl,h3⟩:=abg h1;exact⟨u,h3,h2⟩
theorem Ed(v:Value)(m:MS)(w:World)(hp:FZ w v m)(h:I9 m):
 Calls aB 69 #[v] w (cB (ret (av az 0)) w):=by
 obtain⟨vc,vr,vf,vfol,vl,ve,rfl,h1,h2,h3,h4,h5,h6⟩:=hp;have hmR:=h.rules;have hmf:=h.B7;have hms:=h.some;have tv:=h.qS;have l1:=h.ok.ps.rules;have l2:=h.ok.ps.follow;have l3:=h.ok.ps.last;have q1:=λw' (hg:Gr w w')=>Bw vf m.first m.ps.aZ.length w' (h3.gr hg) h.ok.first;have Ye:=h.ok.ps.ris;clear h h3;obtain⟨⟨cl,rul,mW,la⟩,fi,em⟩:=m;dsimp only at*;rw[l1]at h2;obtain⟨ac,cc,rfl,_⟩:=h1;obtain⟨ar,cr,rfl,hcr,hmr,hrr⟩:=h2;obtain⟨afo,cfo,rfl,hcf,air,hrf⟩:=h4;obtain⟨al,cl2,rfl,_⟩:=h5;obtain⟨ae,ce,rfl,_⟩:=h6;rw[l2]at hcf;unfold maxLen at*;have q1':=q1;clear q1;generalize hn:cl.length=n at*;refine enter (args:=[aQ #[ap ac n cc,ap ar n cr,vf,ap afo mW.length cfo,ap al la.length cl2,ap ae em.length ce]]) (n:=80) Tryz.func69 I I I ?_;refine cC (bz (bR I I I λg1=>?_));refine zL ?_
 repeat(first|refine GC ?_|refine gV (aC (v:=ap ac n cc) aK.ty I (aH (i:=0) I I)) ?_|refine gV (aC (v:=ap ar n cr) aK.ty I (aH (i:=0) I I)) ?_|refine gV (aC (v:=ap afo mW.length cfo) aK.ty I (aH (i:=0) I I)) ?_|refine gV (aC (v:=ap al la.length cl2) aK.ty I (aH (i:=0) I I)) ?_|refine gV (aC (v:=ap ae em.length ce) aK.ty I (aH (i:=0) I I)) ?_|refine gV (aC (v:=vf) aK.ty I (aH (i:=0) I I)) ?_|refine gV (dr (b:=aE) I I (decide_eq_false J)) ?_|refine gV (dT (b:=aE) I I (decide_eq_false J)) ?_|refine gV (dg (b:=aE) I I (decide_eq_false J)) ?_|refine GB ?_)
 refine mv (fO aI.en I I I) (λw hm=>q1' _ hm.below) I I I I I ?_;intro _ _;refine zL ?_;clear q1'
 try refine GA ?_
 refine ea (ι:=Nat) (λk=>k<=n) (λk=>[(1,aJ (aj ⟨g1,0,ak⟩)),(3,av az (n:Int)),(46,av az (n:Int)),(47,av az (k:Int))]) (λ_=>[aP g1 #[ap ac n cc,ap ar n cr,vf,ap afo mW.length cfo,ap al la.length cl2,ap ae em.length ce] 115]) (λk=>n-k) 0 (bH _) ?_;intro k hk
 by_cases c1:k<n
 ·obtain⟨br,Pe,rfl,eL⟩:=hrr J
  obtain⟨bf,abi,rfl,_,Ub⟩:=hrf J;obtain⟨u,hu,hd⟩:=AR Ub (show k<mW.length by omega);have aej:=λ(L:List cH)=>gO (L:=L) j0 eL (show k<rul.length by omega) 0 _ I;have aek:=λ(L:List cH)=>iI (L:=L) hd (j:=0) (v:=u) I;have hx:=hmR _ (cD (show k<rul.length by omega));have q:=λw' (hg:Gr w w')=>Bw u mW[k] n w' (hu.gr hg) (Ye _ (cD _));clear hrr hrf eL Ub hd hu;generalize rul[k]=x at*
  try refine GA ?_
  refine dN ([aP g1 #[ap ac n cc,ap (aj ⟨br,Pe,ak⟩) n cr,vf,ap (aj ⟨bf,abi,ak⟩) mW.length cfo,ap al la.length cl2,ap ae em.length ce] 115]) (.calm 0 (.calm 1 (.calm 2 (.calm 3 (.calm 4 (.calm 5 (.calm 6 (.calm 7 (.calm 8 (.calm 9 (.calm 10 (.calm 11 (.calm 12 (.calm 13 (.calm 14 (.calm 15 (.calm 16 (.calm 17 (.calm 18 (.calm 19 (.calm 20 (.calm 21 (.calm 22 (.calm 23 (.one 24 (.calm 25 (.calm 26 (.done)))))))))))))))))))))))))))) (bW [0]) ?_
  repeat(first|(refine GN ?_;first|refine QW QP ?_|refine QW (aC (v:=ap (aj ⟨br,Pe,ak⟩) n cr) aK.ty I (aH (i:=0) I I)) ?_|refine QW (aX bM.eq aK.ty I I c1) ?_|refine QW (aC (v:=av az x) aK.ty I (aej _)) ?_|refine QW (dQ (b:=aE) I I (decide_eq_false J)) ?_|refine QW (aC (v:=ap ae em.length ce) aK.ty I (aH (i:=0) I I)) ?_|refine QW (aC (v:=ap (aj ⟨bf,abi,ak⟩) mW.length cfo) aK.ty I (aH (i:=0) I I)) ?_|refine QW (aX (j:=k) bM.eq aK.ty I I J) ?_|refine QW (aC (v:=u) aK.ty I (aek _)) ?_|refine QW (eU (b:=aE) I I (decide_eq_false J)) ?_|refine GX ?_)|refine GW ?_)
  refine aL I (Cu I I I (aV (fO aI.en I I I) (λw hm=>q w hm.below) I I I λ_ _=>(aM (bW [0]) ?_)))
  try refine GW ?_
  try refine GA ?_
  refine dj [0] ?_;exact bY (k+1) J (by show n-(k+1)<n-k;omega)
 ·repeat(first|refine GC ?_|refine gV (dT (b:=aE) I I (decide_eq_false J)) ?_|refine GB ?_)
  exact eM
end cI
namespace cI
open Go.RowKit cU dS dl gj eo
theorem Pf{α:Type}{f:α->List Value}{c:Nat}{W0:World}{W:bO}{L:List cH}{b off:Nat}{l:List α}(hc:∀a,(f a).length=c)(ho:pZ W0 W)(h:Rd W0 b off (l.flatMap f)){k:Nat}(hk:k<l.length)(j:Nat)(u:Value)(hj:(f l[k])[j]?=aj u):At W L ⟨b,off+k*c+j,ak⟩ u:=by
 have hjc:j<c:=by rw[<-hc l[k]];exact(cX.1 hj).1
 rw[kZ];exact Rv ho h _ u (by rw[ue hc l k j hk hjc];exact hj)
end cI
namespace cI
open Go.RowKit cU dS dl gj eo ns
def KO(vc vr vf vfol vl ve vs num rows tags:Value):Array Value:=#[vc,vr,vf,vfol,vl,ve,vs,num,rows,tags]
def Pg(S:List C4):List Value:=(C4.zero::S).flatMap dV
theorem abj{w:World}{g:Nat}{cs:Array Value}{T:TypeId}(hg:w.heap[g]?=aj (.cells cs T (0,0)))(L:List cH){k:Nat}{v:Value}(hv:cs[k]?=aj v):At (w:bO) L ⟨g,k,ak⟩ v:=
 kh (by rw[cell_of_row w g k cs T (0,0) hg];exact hv)
theorem F0(m:MS)(vc vr vf vfol vl ve vs num rows tags:Value)(S:List C4)(g n:Nat)(w:World)(hp:FZ w (aQ #[vc,vr,vf,vfol,vl,ve]) m)(h:I9 m)(hg:w.heap[g]?=aj (.cells (KO vc vr vf vfol vl ve vs num rows tags) 184 (0,0)))
 (hs:Sl w vs (S.length+1) (Pg S)) (hn:n<=S.length):
 Calls aB 104 #[aJ (aj ⟨g,0,ak⟩),av az (n:Int)] w (cB (ret (oy (mV m S n))) w):=by
 obtain⟨_,_,_,_,_,_,he,h1,h2,h3,h4,h5,h6⟩:=hp;simp only[lV,sv,gi,and_true]at he;obtain⟨rfl,rfl,rfl,rfl,rfl,rfl⟩:=he;have hmf:=h.B7;have Vs:=h.ok.first.2;have Ye:=h.ok.ps.ris;have wP:=h.ok.ps.follow;clear h h1 h2 h5 h6;obtain⟨af,cf,rfl,_,ais,hrf⟩:=h3;obtain⟨ao,co,rfl,_,hmo,hro⟩:=h4;obtain⟨ab,cs,rfl,hcs,hms,hrs⟩:=hs;unfold maxLen at*;have hm:=λL k v hv=>abj (k:=k) (v:=v) hg L hv;refine enter (args:=[aJ (aj ⟨g,0,ak⟩),av az (n:Int)]) (n:=59) Tryz.func104 I I I ?_;refine cC (bz (aY I λg4=>?_));refine zL ?_
 try refine GA ?_
 refine aY I λg5=>?_;refine zL ?_
 by_cases c0:n=0
 ·subst c0
  repeat(first|refine GC ?_|refine gV (dg (b:=aD) I I (decide_eq_true (by simp))) ?_|refine gV (aC (v:=ap af m.first.length cf) aK.ty I (hm _ 2 _ I)) ?_|refine GB ?_)
  refine ea (ι:=Nat) (λk=>k<=m.first.length) (λk=>[(4,aJ (aj ⟨g4,0,ak⟩)),(5,aJ (aj ⟨g5,0,ak⟩)),(18,ap af m.first.length cf),(19,av az m.first.length),(20,av az (k:Int))])
   (λk=>[aP g4 (dV C4.zero).toArray 233,aP g5 (dV (pB C4.zero (m.first.take k))).toArray 233]) (λk=>m.first.length-k) 0 (bH _) ?_
  intro k hk
  by_cases c1:k<m.first.length
  ·have hx:=Vs _ (cD c1)
   have hst:=LN C4.zero m.first c1;obtain⟨bf,abi,rfl,Ub⟩:=hrf J;have du:=λ(L:List cH)=>gO (L:=L) j0 Ub c1 0 _ I;generalize m.first[k]=x at*;generalize pB C4.zero (m.first.take k)=c at*;obtain⟨xn,rfl⟩:=h_ hx.1;rw[dq]at hst
   repeat(first|refine GA ?_|refine gV (aX bM.eq aK.ty I I c1) ?_|refine gV (aC (v:=av az (xn:Int)) aK.ty I (du _)) ?_)
   refine bm [1] [0] aiT I I (fO aI.en I I I) (λw hm hb=>sE c xn J g5 w _ hb) I I I ?_;intro _ _;refine zL ?_
   try refine GA ?_
   exact bY (k+1) J (by show m.first.length-(k+1)<m.first.length-k;omega) (hl:=by rw[hst])
  obtain rfl:k=m.first.length:=by omega
  rw[gB (bx _)];unfold mV;generalize pB C4.zero m.first=c at*
  repeat(first|refine GA ?_|refine gV (aO (i:=1) aK.ty I I I) ?_)
  refine gC 0 (cs':=(dV c).toArray) ?_;refine zL ?_
  try refine GA ?_
  exact fL (i:=0) I I I I λw hm=>hm.ret
 ·obtain⟨q,rfl⟩:∃q,n=q+1:=⟨n-1,by omega⟩
  obtain⟨bs,ael,rfl,afP⟩:=hrs J;have aem:=λ(L:List cH)=>gO (L:=L) (f:=dV) (c:=4) (λ_=>rfl) (show Rd w bs ael ((C4.zero::S).flatMap dV)from afP) (k:=q+1) (by simp;omega);have hgd:S.getD q C4.zero=S[q]' J:=by rw[b9,bD J];rfl
  rw[show mV m S (q+1)=nt m.ps (S.getD q C4.zero) m.ps.follow.length from I,hgd];have aem:∀(L:List cH) (j:Nat) (u:Value),(dV (S[q]' J))[j]?=aj u->At (w:bO) L ⟨bs,ael+(q+1)*4+j,ak⟩ u:=λL j u hj=>aem L j u hj;clear hgd afP hrs hrf Vs;generalize S[q]' J=s at*
  repeat(first|refine GC ?_|refine gV (dg (b:=aE) I I (decide_eq_false J)) ?_|refine gV (aC (v:=ap ao m.ps.follow.length co) aK.ty I (hm _ 3 _ I)) ?_|refine GB ?_)
  refine ea (ι:=Nat) (λk=>k<=m.ps.follow.length) (λk=>[(0,aJ (aj ⟨g,0,ak⟩)),(1,av az ((q+1:Nat):Int)),(4,aJ (aj ⟨g4,0,ak⟩)),(5,aJ (aj ⟨g5,0,ak⟩)),(32,ap ao m.ps.follow.length co),(33,av az m.ps.follow.length),(34,av az (k:Int))])
   (λk=>[aP g4 (dV C4.zero).toArray 233,aP g5 (dV (nt m.ps s k)).toArray 233]) (λk=>m.ps.follow.length-k) 0 (bH _) ?_
  intro k hk
  by_cases c1:k<m.ps.follow.length
  ·obtain⟨bo,ahw,rfl,_,ahx⟩:=hro J
   obtain⟨u,hu,hd⟩:=AR ahx c1;have aek:=λ(L:List cH)=>iI (L:=L) hd (j:=0) (v:=u) I;have hrx:=(Ye _ (cD c1)).2;have hgd:m.ps.follow.getD k []=m.ps.follow[k]:=by rw[b9,bD c1];rfl
   have hst:nt m.ps s (k+1)=if s.mem k=aD then pB (nt m.ps s k) m.ps.follow[k]else nt m.ps s k:=by rw[nt,hgd]
   clear hgd;obtain⟨au,cu,rfl,_,hmu,NN⟩:=hu;unfold maxLen at hmu;generalize m.ps.follow[k]=l at*;generalize nt m.ps s k=c at*
   repeat(first|refine GA ?_|refine gV (aX bM.eq aK.ty I I c1) ?_|refine gV (aC (v:=ap au l.length cu) aK.ty I (aek _)) ?_|refine gV (aC (v:=ap (aj ⟨bs,ael,ak⟩) (S.length+1) cs) aK.ty I (hm _ 6 _ I)) ?_|refine gV (aX (j:=q+1) bM.eq aK.ty I I J) ?_|refine gV (a8 (cs:=dV s) aK.ty I I (aem _)) ?_)
   have Yf:=λw=>sD s k J w;generalize hb:s.mem k=b at*;refine aV (fO aI.en I I I) (λw hm=>Yf w) I I I ?_;intro _ _;refine zL ?_
   by_cases c2:b=aD
   ·subst c2
    rw[if_pos I]at hst
    try refine GA ?_
    refine ea (ι:=Nat) (λj=>j<=l.length) (λj=>[(0,aJ (aj ⟨g,0,ak⟩)),(1,av az ((q+1:Nat):Int)),(4,aJ (aj ⟨g4,0,ak⟩)),(5,aJ (aj ⟨g5,0,ak⟩)),(32,ap (aj ⟨bo,ahw,ak⟩) m.ps.follow.length co),(33,av az m.ps.follow.length),(34,av az (k:Int)),(48,ap au l.length cu),(49,av az l.length),(50,av az (j:Int))])
     (λj=>[aP g4 (dV C4.zero).toArray 233,aP g5 (dV (pB c (l.take j))).toArray 233]) (λj=>l.length-j) 0 (bH _) ?_
    intro j hj
    by_cases c3:j<l.length
    ·have hx:=hrx _ (cD c3)
     have aen:=LN c l c3;obtain⟨bf,abi,rfl,Ub⟩:=NN J;have du:=λ(L:List cH)=>gO (L:=L) j0 Ub c3 0 _ I;generalize l[j]=x at*;generalize pB c (l.take j)=c' at*;obtain⟨xn,rfl⟩:=h_ hx.1;rw[dq]at aen
     repeat(first|refine GA ?_|refine gV (aX bM.eq aK.ty I I c3) ?_|refine gV (aC (v:=av az (xn:Int)) aK.ty I (du _)) ?_)
     refine bm [1] [0] aiT I I (fO aI.en I I I) (λw hm hb=>sE c' xn J g5 w _ hb) I I I ?_;intro _ _;refine zL ?_
     try refine GA ?_
     exact bY (j+1) J (by show l.length-(j+1)<l.length-j;omega) (hl:=by rw[aen])
    obtain rfl:j=l.length:=by omega
    rw[gB (bx _)]
    try refine GA ?_
    exact bY (k+1) J (by show m.ps.follow.length-(k+1)<m.ps.follow.length-k;omega) (hl:=by rw[hst])
   rw[if_neg c2]at hst;obtain rfl:=Bool.eq_false_iff.2 c2
   try refine GA ?_
   exact bY (k+1) J (by show m.ps.follow.length-(k+1)<m.ps.follow.length-k;omega) (hl:=by rw[hst])
  obtain rfl:k=m.ps.follow.length:=by omega
  generalize nt m.ps s m.ps.follow.length=c at*
  repeat(first|refine GA ?_|refine gV (aO (i:=1) aK.ty I I I) ?_)
  refine gC 0 (cs':=(dV c).toArray) ?_;refine zL ?_
  try refine GA ?_
  exact fL (i:=0) I I I I λw hm=>hm.ret
end cI
end Go.Proofs.YtaobbfedlnddcaaGreat

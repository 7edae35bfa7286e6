/- Part 5 of what WholeTree needs: LrK, BeginL, SpecU, LlN, LlC, LrC, SmUp, SmCk, SpecRt, SpecH, ClimbA, TdS, ClimbB, ClimbC, ClimbD, ClimbM, ClimbE, LexL, LexA, LexB, SmBk, LexN, LrM, LrN, LrP, LrT, SpecG, SpecV, SpecLst, AbcL, SpecOneL, LexV, LexW, LxRl, WhE, Bun, IntS, BuA, BuB. -/
import Derived.Test.YtahecdbmhhpanaaGreatMgD
namespace Go.Proofs.YtahecdbmhhpanaaGreat
set_option linter.unusedVariables false
set_option linter.unusedSimpArgs false
open _root_.And renaming intro->cP
open _root_.Array renaming getElem?_eq_some_iff->lL
open _root_.Bool renaming true->aB,false->aE,and_eq_true->eE,true_and->yY
open _root_.Classical renaming not_not->acG
open _root_.Decidable renaming of_not_not->rC
open _root_.Go.Instr renaming build->da
open _root_.Go.IntKind renaming i64->av
open _root_.Go.Proofs.Tryz renaming prog->aC
open _root_.Go.Value renaming slice->ak,int->ap,pointer->aH,agg->aP,oneCell'->fV
open _root_.Go.Value.slice renaming injEq->kq
open _root_.Go.World renaming block_lt_of_cell?->q7
open _root_.Int renaming toNat_natCast->de,eq_ofNat_of_zero_le->fJ,le_refl->jg,toNat_of_nonneg->uP,not_lt->acH
open _root_.List renaming getElem?_eq_getElem->bL,getD_eq_getElem?_getD->cH,length_append->bT,getElem_mem->bX,getElem?_eq_some_iff->dK,drop_eq_getElem_cons->dL,all_cons->cY,length_cons->dj,replicate->c_,all_nil->db,mem_cons->dw,mem_singleton->ez,take_succ_eq_append_getElem->ic,append_assoc->eu,length_map->dY,map_append->eK,drop_of_length_le->ia,take_of_length_le->gD,flatMap_append->ie,mem_cons_self->gX,append_nil->fj,not_mem_nil->fC,map_cons->fm,range->d_,nil_append->fD,length_drop->je,getElem?_map->iN,getElem?_append_left->lP,mem_map->fE,mem_cons_of_mem->lU,mem_append->ib,eq_nil_of_length_eq_zero->mT,mem_of_getElem?->kr,mem_iff_getElem->ku,getElem?_eq_none->nF,drop_drop->kw,length_take->jr,take_length->nU,getElem?_toArray->oY,flatMap_cons->lQ,length_singleton->tu,ext_getElem?->mf,mem_of_mem_drop->ti,getElem?_cons_zero->uv,getElem?_append_right->yc,length->ky,drop_eq_nil_of_le->yC,exists_cons_of_ne_nil->Lw,getElem?_of_mem->yd,cons_append->mg,drop_length->wj,map_nil->mU,length_reverse->Ly,length_tail->Lz,drop_zero->B3,range_succ->vD,reverse_cons->SU,flatMap_def->SV,flatten_cons->Ea,map_eq_flatMap->acI,mem_reverse->acJ,map_take->acK
open _root_.List.cons renaming injEq->fL,inj->yR
open _root_.Nat renaming le_refl->aX,zero_le->bC,zero_add->cU,le_trans->eL,add_assoc->iO,not_lt_zero->oU,lt_succ_self->tv,mul_le_mul->oT,add_zero->mi,mul_one->lR,succ_mul->oL,succ_ne_zero->LA,add_comm->A8,sub_self->BK,le_of_not_lt->acL,le_succ->EI
open _root_.Option renaming some->ah,none->aj,getD_some->jz,map_some->SX
open _root_.Option.some renaming injEq->dM,inj->pD
open _root_.Prod renaming ext->pE,snd->acM
open _root_.Prod.mk renaming injEq->ju
open _root_.True renaming intro->cZ
open _root_.Vector renaming getElem_ofFn->kC,getElem_toList->BT,ofFn->rp
set_option maxHeartbeats 16000000
namespace cB
open Go.RowKit cL dV aL dI dA bK cX
section
variable{P:Program}{n:Nat}{W:bV}{fr:Fr}{L:List b_}{Q:Exit->Act->World->Prop}{ops:Array Oper}{rest:List Oper}{d:Nat}{ty:TypeId}{pos:String}{after:Array Edge}
theorem ON{α:Type}{f:α->List Value}{c:Nat}(hc:∀a,(f a).length=c)(h0:0<c)(z:α){t e:TypeId}{x y:Operand}{bytes m:Nat}{k k':IntKind}{zs:Array Value}[sw P t e c bytes][eH P e zs](hz:zs.toList=f z)(hx:ev fr x=ah (.int k (m:Int)))(hy:ev fr y=ah (.int k' (m:Int)))(hb:bytes*m<=281474976710656)(xi:m<=9223372036854775807)(hn:Nat.blt d n=aB)
 (h:∀g,TL P n W ops Q rest ((d,ak (ah ⟨g,0,aj⟩) m m)::fr) (L++[bm e c (ak (ah ⟨g,0,aj⟩) m m) m ((c_ m z).flatMap f)])):TL P n W ops Q (⟨ah d,.makeSlice t x y,ty,pos,after,aj⟩::rest) fr L:=by
 refine uI hx hy (aX _) hb xi hn λg=>Ie (i:=L.length) c (List.getElem?_concat_length ..) (by rw[size_madeCells]) (aX _) xi ?_;have hsz:zs.size=c:=by grind
 have hl:(madeCells zs (m*c)).toList.take (m*c)=(c_ m z).flatMap f:=by
  simp_all[af8,gD,SV]
 simp_all
end
abbrev Ys:=Int×Int×bK.Act×bK.Act
def OO(x:Ys):List Value:=[ap av x.1,ap av x.2.1,ap av x.2.2.1.1,ap av x.2.2.1.2,ap av x.2.2.2.1,ap av x.2.2.2.2]
def OP:yt bK.Act:=zz lm 2 (λ_=>rfl) (λ_=>True)
section
variable(l:List aL.Prod)(T:Nat)(Nx:List (List Int))(S:List (List bK.Item))
abbrev GH(q c:Nat):List bK.Act:=jA l T (S.getD q []) (Nx.getD q []) c
def xd(q c:Nat):List Ys:=(GH l T Nx S q c).tail.map λx=>((q:Int),(c:Int),(GH l T Nx S q c).headD (0,0),x)
def iF(q:Nat):Nat->List Ys
 |0=>[]
 |c+1=>iF q c++xd l T Nx S q c
def iG:Nat->List Ys
 |0=>[]
 |q+1=>iG q++iF l T Nx S q (T+1)
def gJ(q c:Nat):List bK.Act:=(d_ (T+1)).map λj=>if j<c then jG l T Nx S q j else(0,0)
def f_(n:Nat):List (List bK.Act):=(d_ n).map λq=>gJ l T Nx S q (T+1)
def ff(n:Nat):List (List Int):=(d_ n).map λq=>(Nx.getD q []).drop T
end
def iI(g:dD):List (List bK.Act)×List (List Int)×List Ys×Int:=if(jB g).2.2≠0 then([],[],[],(jB g).2.2)else(f_ g.az g.aQ.toNat (jB g).1 (jB g).2.1 (jB g).2.1.length,ff g.aQ.toNat (jB g).1 (jB g).2.1.length,iG g.az g.aQ.toNat (jB g).1 (jB g).2.1 (jB g).2.1.length,0)
structure SY where
 vA:Value
 C_:List Value
 FA:Nat->Prop
 vG:Value
 C':List Value
 FG:Nat->Prop
def AD:yt (List bK.Act):=⟨1,λF w cs l=>(cO OP).is F w cs l/\∀v∈cs,WrI (wrP 187 2 F w) v,λh=>(cO OP).len h.1,λh hk=>⟨(cO OP).stay h.1 hk,λv hv=>(h.2 v hv).imp λg _ hp=>hp.stay (hk g hp.1)⟩,λh hk=>⟨(cO OP).mono h.1 hk,λv hv=>(h.2 v hv).imp λg _ hp=>⟨hk g hp.1,hp.2⟩⟩⟩
theorem acN{F:Nat->Prop}{gY:List (List Value)}{l:List (List bK.Act)}{w:World}(h:(eG AD F gY l).holds w):(eG (cO OP) F gY l).holds w:=
 ⟨⟨h.1.1,λi hi qw=>(h.1.2 i hi qw).1⟩,h.2⟩
def XM(x:SY)(A:List (List bK.Act))(G:List (List Int)):List b_:=[bm 185 1 x.vA A.length x.C_,eG AD x.FA (x.C_.map λv=>[v]) A,bm 26 1 x.vG G.length x.C',eG (cO iv) x.FG (x.C'.map λv=>[v]) G]
def SZ(g:dD):Spec (SY×Value):=⟨λ_=>True,λx=> .tuple #[aP #[x.1.vA,x.1.vG],x.2,ap av (iI g).2.2.2],λx=>XM x.1 (iI g).1 (iI g).2.1++[bm 189 6 x.2 (iI g).2.2.1.length ((iI g).2.2.1.flatMap OO)]⟩
theorem S3(w:World):(da 36 (#[]:Array (Nat×Value))).run aC w= .ok (aP #[ak aj 0 0,ak aj 0 0]) w:=by kernel_rfl
theorem XN(q c:Int)(a b:bK.Act)(w:World):(da 189 #[(0,ap av q),(1,ap av c),(2,aP (lm a).toArray),(3,aP (lm b).toArray)]).run aC w= .ok (aP (OO (q,c,a,b)).toArray) w:=by kernel_rfl
theorem S4{w:World}{v:Value}{l:List bK.Act}(h:(bm 187 2 v l.length (l.flatMap lm)).holds w):(cO OP).is (λk=>v.ownBlock=ah k) w [v] l:=
 ⟨v,rfl,jO.of_flat (Sl.dF h) (λ_ _=>trivial) (λ_ h=>h) (λa n cp hv=>by rw[hv];rfl)⟩
theorem acO{w:World}{v:Value}{l:List bK.Act}(h:(bm 187 2 v l.length (l.flatMap lm)).holds w):AD.is (λk=>v.ownBlock=ah k) w [v] l:=
 ⟨S4 h,λu hu=>by obtain rfl:=ez.1 hu;exact ahP h⟩
theorem qo{l:List aL.Prod}{T:Nat}{Nx:List (List Int)}{S:List (List bK.Item)}{q c:Nat}:(gJ l T Nx S q c).length=T+1:=by simp[gJ]
theorem acP{l:List aL.Prod}{T:Nat}{Nx:List (List Int)}{S:List (List bK.Item)}{q:Nat}:gJ l T Nx S q 0=c_ (T+1) (0,0):=by
 unfold gJ;apply mf;intro j
 by_cases h:j<T+1
 simp[h];simp[h]
theorem S5{l:List aL.Prod}{T:Nat}{Nx:List (List Int)}{S:List (List bK.Item)}{q c:Nat}(hc:c<T+1):(gJ l T Nx S q c).set c (jG l T Nx S q c)=gJ l T Nx S q (c+1):=by
 unfold gJ;apply mf;intro j;rw[List.getElem?_set]
 by_cases h:j<T+1
 ·by_cases e:c=j
  subst e;simp[h];rw[if_neg e];simp only[iN,List.getElem?_range h,SX]
  by_cases e2:j<c
  rw[if_pos e2,if_pos J];rw[if_neg e2,if_neg J]
 have h1:(d_ (T+1))[j]?=none:=nF (by rw[List.length_range];omega);simp only[iN,h1,Option.map_none];split
 ·rename_i e;subst e;exact absurd hc h
 rfl
theorem OQ{l:List aL.Prod}{T:Nat}{Nx:List (List Int)}{S:List (List bK.Item)}{q c:Nat}(h:GH l T Nx S q c=[]):gJ l T Nx S q (c+1)=gJ l T Nx S q c:=by
 unfold gJ;apply List.map_congr_left;intro j hj
 by_cases e:j=c
 ·subst e
  rw[if_pos (tv _),if_neg (Nat.lt_irrefl _)];unfold jG;rw[show jA l T (S.getD q []) (Nx.getD q []) j=[]from h];rfl
 grind
theorem GI{l:List aL.Prod}{T:Nat}{Nx:List (List Int)}{S:List (List bK.Item)}{q:Nat}{M:Nat}(h:(S.getD q []).length<=M):∀c,(iF l T Nx S q c).length<=c*(M+1)
 |0=>bC _
 | c +1=>by
  rw[iF,bT,oL];have h2:(xd l T Nx S q c).length<=M+1:=by
   unfold xd;rw[dY,Lz];have:(GH l T Nx S q c).length<=1+(S.getD q []).length:=by rw[GH,<-JA];exact B2
   omega
  have:=GI (l:=l) (T:=T) (Nx:=Nx) h c;omega
theorem CF{l:List aL.Prod}{T:Nat}{Nx:List (List Int)}{S:List (List bK.Item)}{M:Nat}(h:∀q,(S.getD q []).length<=M):∀q,(iG l T Nx S q).length<=q*((T+1)*(M+1))
 |0=>bC _
 |q+1=>by
  rw[iG,bT,oL];have:=CF (l:=l) (T:=T) (Nx:=Nx) h q;have:=GI (l:=l) (T:=T) (Nx:=Nx) (h q) (T+1);omega
theorem AE{l:List aL.Prod}{T:Nat}{Nx:List (List Int)}{S:List (List bK.Item)}{q c:Nat}:∀{d:Nat},c<=d->(iF l T Nx S q c).length<=(iF l T Nx S q d).length
 |0,h=>by simp_all
 | d+1,h=>by
  by_cases e:c=d+1
  simp_all;rw[iF,bT];have:=AE (l:=l) (T:=T) (Nx:=Nx) (S:=S) (q:=q) (c:=c) (d:=d) J;omega
theorem OR{l:List aL.Prod}{T:Nat}{Nx:List (List Int)}{S:List (List bK.Item)}(n:Nat):f_ l T Nx S (n+1)=f_ l T Nx S n++[gJ l T Nx S n (T+1)]:=by simp[f_,vD]
theorem LB{T:Nat}{Nx:List (List Int)}(n:Nat):ff T Nx (n+1)=ff T Nx n++[(Nx.getD n []).drop T]:=by simp[ff,vD]
theorem jl{l:List aL.Prod}{T:Nat}{Nx:List (List Int)}{S:List (List bK.Item)}(n:Nat):(f_ l T Nx S n).length=n:=by simp[f_]
theorem mI{T:Nat}{Nx:List (List Int)}(n:Nat):(ff T Nx n).length=n:=by simp[ff]
theorem LC(v:Value)(g:dD)(w:World)(hG:jS (λk=>k<w.heap.size) w v g):
 Calls aC 27 #[v] w (cJ (SZ g) w):=by
 have hG0:=hG;have M9:=λw' (hg:Gr w w')=>Xz v g w' (hG.gr hg);have hac:=λT Lh hT bS oS lS cS bN oN lN cN n oF vn1 s nx w' (hg:Gr w w')=>Lv v g T Lh hT bS oS lS cS bN oN lN cN n oF vn1 s nx w' (hG.gr hg);obtain⟨vp,rfl,-⟩:=hG;have zm:=S3;have hO:iI g=if(jB g).2.2≠0 then([],[],[],(jB g).2.2)else(f_ g.az g.aQ.toNat (jB g).1 (jB g).2.1 (jB g).2.1.length,ff g.aQ.toNat (jB g).1 (jB g).2.1.length,iG g.az g.aQ.toNat (jB g).1 (jB g).2.1 (jB g).2.1.length,0):=rfl
 unfold SZ XM;refine enter (args:=[du g.aQ g.bB vp]) (n:=92) Tryz.func27 I I I ?_;refine bZ (bx (bH I I I λg1=>?_));refine zL ?_
 try refine GA ?_
 refine aY I λg2=>?_;refine zL ?_
 repeat(first|refine GA ?_|refine gV (aJ (i:=0) aI.ty I I I) ?_)
 refine aT (lz aF.en I I) (λw hm=>M9 w hm.below) I I I ?_;rintro⟨vS,vN,w9,F,CA,FN⟩ _
 conv=>arg 8;simp only[zJ,df,ret,id_eq,ae']
 conv=>arg 7;simp only[ae']
 have mP:=U6 (g:=g);have hno:=afb (g:=g);obtain⟨⟨Nx,S,e⟩,hOA⟩:∃R,jB g=R:=⟨_,rfl⟩;rw[hOA]at mP hno hO;rw[hOA];dsimp only at mP hno hO⊢;refine mX (i:=2) I gj λfu=>?_;obtain⟨aS,cS,rfl,-,haS⟩:=fu;refine mX (i:=4) I gj λfu=>?_;obtain⟨aN,cN,rfl,-,haN⟩:=fu;clear hOA M9
 try refine GA ?_
 refine aY I λg5=>?_;refine zL ?_;refine fR 6 (cs':=#[ak aS S.length cS,ak aN Nx.length cN]) ?_;refine zL ?_
 try refine GA ?_
 by_cases c0:e=0
 ·subst c0
  rw[if_neg (by simp)]at hO;obtain⟨hg,hA⟩:=mP rfl;obtain⟨hT1,hT2,hN1,hN2,wY,hgb⟩:=cz hg;have Mi:∀q∈g.az,q.2.length<=8:=λq hq=>(hgb q hq).1;obtain⟨T,Lh⟩:∃T:Nat,g.aQ=(T:Int):=⟨g.aQ.toNat,by omega⟩;obtain⟨N,hNn⟩:∃N:Nat,g.bB=(N:Int):=⟨g.bB.toNat,by omega⟩;have hTn:g.aQ.toNat=T:=by omega
  rw[hTn,show g.bB.toNat=N by omega]at hA;rw[hTn]at hO;have hT:T<=30:=by omega
  have hI:=N2 Mi wY hT hA;have Ol:=afa Mi wY hT hA;have hS0:0<S.length:=(dK.1 hI.start).1;have hS2:=hI.Dv;have hNl:=hI.len;have hac:=hac T Lh hT;obtain⟨gS,rfl⟩:=haS hS0;obtain⟨gN,rfl⟩:=haN J;clear mP hno haS haN;rw[Lh,hO];rw[Lh]at hac
  try refine GA ?_
  refine aY I λg7=>?_;refine zL ?_
  repeat(first|refine GA ?_|refine gV (aw (v:=ak (ah ⟨gS,0,aj⟩) S.length cS) aI.ty I (aD (i:=6) I I)) ?_)
  refine iJ 185 1 (oc (eG AD (λ_=>False) [] []) (λk hk=>hk.elim (λh=>by cases h) id) (λw=>kG) (iJ 26 1 (oc (eG (cO iv) (λ_=>False) [] []) (λk hk=>hk.elim (λh=>by cases h) id) (λw=>kG) (iJ 189 6 ?_))))
  conv=>arg 7;simp only[zA,zB,zC,zD,zE,zF,zG,zH,zI,df,ret,id_eq]
  refine dZ (ι:=Nat×SY×Value) (λ(n,_,_)=>n<=S.length) (λ(n,_,vf)=>[(1,aH (ah ⟨g1,0,aj⟩)),(2,aH (ah ⟨g2,0,aj⟩)),(5,aH (ah ⟨g5,0,aj⟩)),(7,aH (ah ⟨g7,0,aj⟩)),(8,vf),(26,ap av (S.length:Int)),(27,ap av (n:Int))])
   (λ(n,x,vf)=>[aK g1 (du (T:Int) g.bB vp).cells 33,aK g2 #[ak aj 0 0,ak aj 0 0] 36,bm 256 1 (ak (ah ⟨gS,0,aj⟩) S.length cS) S.length w9,eG (cO K7) F (w9.map λv=>[v]) S,bm 26 1 (ak (ah ⟨gN,0,aj⟩) Nx.length cN) Nx.length CA,eG (cO iv) FN (CA.map λv=>[v]) Nx,aK g5 #[ak (ah ⟨gS,0,aj⟩) S.length cS,ak (ah ⟨gN,0,aj⟩) Nx.length cN] 182,aK g7 #[x.vA,x.vG] 36,bm 185 1 x.vA (f_ g.az T Nx S n).length x.C_,eG AD x.FA (x.C_.map λv=>[v]) (f_ g.az T Nx S n),bm 26 1 x.vG (ff T Nx n).length x.C',eG (cO iv) x.FG (x.C'.map λv=>[v]) (ff T Nx n),bm 189 6 vf (iG g.az T Nx S n).length ((iG g.az T Nx S n).flatMap OO)]) (λ(n,_,_)=>S.length-n) (0,⟨ak aj 0 0,[],λ_=>False,ak aj 0 0,[],λ_=>False⟩,ak aj 0 0) (bC _) ?_
  rintro⟨n,x,vf⟩ i1;dsimp only at i1⊢
  by_cases c1:n<S.length
  ·have hnN:n<Nx.length:=by omega
   have hSn:S.getD n []=S[n]:=by rw[cH,bL c1];rfl
   have ahZ:Nx.getD n []=Nx[n]:=by rw[cH,bL hnN];rfl
   have hsr:=hI.ss.right S[n] (bX c1);have hwd:=hI.wide n c1;rw[ahZ]at hwd;have ua:=Ol S[n] (bX c1);refine ix (i:=3) I (λw h=>Jn h) λhvl=>?_;refine ix (i:=5) I (λw h=>Jn h) λhnl=>?_;have hvq:w9[0+n]?=ah (w9[n]' J):=by rw[cU];exact bL _
   have ajz:w9[n]?=ah (w9[n]' J):=bL _;generalize w9[n]' J=vq at hvq ajz;have hnq:CA[0+n]?=ah (CA[n]' J):=by rw[cU];exact bL _
   have acQ:CA[n]?=ah (CA[n]' J):=bL _;generalize CA[n]' J=nq at hnq acQ;refine ix (i:=5) I (λw h=>cP (abU h hnN acQ) (jO.okp (Sj h hnN acQ))) λajA=>?_;obtain⟨⟨aq,cq,rfl,hcq,alW,-⟩,ak6⟩:=ajA;have tU:(iG g.az T Nx S n++iF g.az T Nx S n (T+1)).length<=100000000:=by
    have h1:=CF (l:=g.az) (T:=T) (Nx:=Nx) (S:=S) (M:=11439) (λq=>by
     by_cases hq:q<S.length
     rw[cH,bL hq];exact Ol _ (bX hq);rw[cH,nF J];exact bC _) (n+1)
    rw[iG]at h1;exact eL h1 (eL (oT (show n+1<=200 by omega) (oT (show T+1<=31 by omega) (aX _))) alt)
   have hS1:=λ(L:List b_) (i:Nat) (hL:L[i]?=ah (eG (cO K7) F (w9.map λv=>[v]) S))=>Sk (W:=(w:bV)) (L:=L) (f:=iS) (c:=3) alt hL c1 ajz;have hN1:∀(L:List b_) (i:Nat) (hL:L[i]?=ah (eG (cO iv) FN (CA.map λv=>[v]) Nx)),SlL (w:bV) L (.slice aq Nx[n].length cq) Nx[n].length (Nx[n].map (ap .i64)):=λL i hL w' pg=>by
    have:=Sk (W:=(w:bV)) (L:=L) (f:=λn=>[ap .i64 n]) (c:=1) alt hL hnN acQ w' pg
    rwa [<-acI]at this
   repeat(first|refine GC ?_|refine gV (aw (v:=ap av (T:Int)) aI.ty I (aD (i:=0) I I)) ?_|refine gV (dN (r:=((T+1:Nat):Int)) I I J J J) ?_|refine GB ?_)
   refine ON si alt (0,0) I I I J J I λg10=>?_;rw[<-acP (l:=g.az) (Nx:=Nx) (S:=S) (q:=n)];refine zL ?_
   repeat(first|refine GA ?_|refine gV (aJ (i:=0) aI.ty I I I) ?_|refine gV (aJ (i:=6) aI.ty I I I) ?_)
   refine aT (S:=OM T (jA g.az T S[n] Nx[n])) (xE aF.en I I I I) (λw hm=>hac gS 0 S.length cS gN 0 Nx.length cN n vq (.slice aq Nx[n].length cq) S[n] Nx[n] w hm.below wY c1 (zS (hm.get (i:=2) I) hvq) (hS1 _ 3 I w hm) hnN (zS (hm.get (i:=4) I) hnq) (hN1 _ 5 I w hm) J hsr J J) I I I ?_;rintro⟨ga,vs⟩ _
   conv=>arg 8;simp only[zJ,df,ret,id_eq,OM]
   conv=>arg 7;simp only[OM]
   rw[<-hSn,<-ahZ];clear hac
   try refine GA ?_
   refine kO (ι:=Nat×Value) (λ(c,_)=>c<=T+1) (λ(c,vf)=>[(1,aH (ah ⟨g1,0,aj⟩)),(2,aH (ah ⟨g2,0,aj⟩)),(5,aH (ah ⟨g5,0,aj⟩)),(7,aH (ah ⟨g7,0,aj⟩)),(8,vf),(26,ap av (S.length:Int)),(27,ap av (n:Int)),(9,ap av (n:Int)),(10,ak (ah ⟨g10,0,aj⟩) (T+1) (T+1)),(37,ak (ah ⟨ga,0,aj⟩) (T+1) (T+1)),(38,ap av ((T+1:Nat):Int)),(39,ap av (c:Int))])
    (λ(c,vf)=>[aK g1 (du (T:Int) g.bB vp).cells 33,aK g2 #[ak aj 0 0,ak aj 0 0] 36,bm 256 1 (ak (ah ⟨gS,0,aj⟩) S.length cS) S.length w9,eG (cO K7) F (w9.map λv=>[v]) S,bm 26 1 (ak (ah ⟨gN,0,aj⟩) Nx.length cN) Nx.length CA,eG (cO iv) FN (CA.map λv=>[v]) Nx,aK g5 #[ak (ah ⟨gS,0,aj⟩) S.length cS,ak (ah ⟨gN,0,aj⟩) Nx.length cN] 182,aK g7 #[x.vA,x.vG] 36,bm 185 1 x.vA (f_ g.az T Nx S n).length x.C_,eG AD x.FA (x.C_.map λv=>[v]) (f_ g.az T Nx S n),bm 26 1 x.vG (ff T Nx n).length x.C',eG (cO iv) x.FG (x.C'.map λv=>[v]) (ff T Nx n),bm 189 6 vf (iG g.az T Nx S n++iF g.az T Nx S n c).length ((iG g.az T Nx S n++iF g.az T Nx S n c).flatMap OO),bm 187 2 (ak (ah ⟨g10,0,aj⟩) (T+1) (T+1)) (T+1) ((gJ g.az T Nx S n c).flatMap lm),fA 185 wu ga (T+1) vs,jn (λj=>j<T+1) (oZ vs (jA g.az T (S.getD n []) (Nx.getD n [])))]) (λ(c,_)=>T+1-c) (0,vf) (bC _) (by repeat' (first|exact cZ|refine cP I ?_)) (by dsimp only;rw[iF,fj]) ?_
   rintro⟨c,vf⟩ j1;dsimp only at j1⊢
   by_cases c2:c<T+1
   ·obtain⟨X,hX⟩:∃X,jA g.az T (S.getD n []) (Nx.getD n []) c=X:=⟨_,rfl⟩
    have hXl:X.length<=11440:=by
     rw[<-hX,<-JA];have:=B2 (l:=g.az) (T:=T) (nx:=Nx.getD n []) (t:=T) (s:=S.getD n []) (c:=c);rw[hSn]at this⊢;omega
    have aaI:=S5 (l:=g.az) (Nx:=Nx) (S:=S) (q:=n) c2;have ajB:X=[]->gJ g.az T Nx S n (c+1)=gJ g.az T Nx S n c:=λh=>OQ (by unfold GH;rw[hX,h]);have hhd:jG g.az T Nx S n c=X.headD (0,0):=by unfold jG;rw[hX]
    have T7:iF g.az T Nx S n (c+1)=iF g.az T Nx S n c++X.tail.map λx=>(((n:Int),(c:Int),X.headD (0,0),x):Ys):=by
     rw[iF,xd];unfold GH;rw[hX]
    have ai1:(iG g.az T Nx S n++iF g.az T Nx S n c).length<=100000000:=by
     rw[bT]at tU⊢;have:=AE (l:=g.az) (T:=T) (Nx:=Nx) (S:=S) (q:=n) (show c<=T+1 by omega);omega
    generalize ajC:iG g.az T Nx S n++iF g.az T Nx S n c=base at*;refine ix (i:=15) I (λw h=>gj w (h.1 c c2)) λfu=>?_;obtain⟨ax,cx,hvc,-,hax⟩:=fu;rw[hX]at hvc hax;have acR:∀(L:List b_) (i:Nat) (gx:Nat),ax=ah ⟨gx,0,aj⟩->L[i]?=ah (jn (λj=>j<T+1) (oZ vs (jA g.az T (S.getD n []) (Nx.getD n []))))->∀k (hk:k<X.length) (j:Nat) (u:Value),(lm X[k])[j]?=ah u->At (w:bV) L ⟨gx,0+k*2+j,aj⟩ u:=λL i gx hgx hL k hk j u hu=>aee hL λw h=>by
     have h2:=h.1 c c2;unfold oZ at h2;rw[hvc,hX,hgx]at h2;have hj2:j<2:=by rw[<-si X[k]];exact(dK.1 hu).1
     exact zS h2 (by rw[cU,yp si X k j hk hj2];exact hu)
    repeat(first|refine GA ?_|refine gV (bO bM.eq aI.ty I I c2) ?_|refine gV (aw (v:=ak ax X.length cx) aI.ty I (by have:=gi (W:=(w:bV)) (val:=wu) (i:=14) (f:=vs) (e:=185) (g:=ga) (len:=T+1) (L:=[aK g1 (du (T:Int) g.bB vp).cells 33,aK g2 #[ak aj 0 0,ak aj 0 0] 36,bm 256 1 (ak (ah ⟨gS,0,aj⟩) S.length cS) S.length w9,eG (cO K7) F (w9.map λv=>[v]) S,bm 26 1 (ak (ah ⟨gN,0,aj⟩) Nx.length cN) Nx.length CA,eG (cO iv) FN (CA.map λv=>[v]) Nx,aK g5 #[ak (ah ⟨gS,0,aj⟩) S.length cS,ak (ah ⟨gN,0,aj⟩) Nx.length cN] 182,aK g7 #[x.vA,x.vG] 36,bm 185 1 x.vA (f_ g.az T Nx S n).length x.C_,eG AD x.FA (x.C_.map λv=>[v]) (f_ g.az T Nx S n),bm 26 1 x.vG (ff T Nx n).length x.C',eG (cO iv) x.FG (x.C'.map λv=>[v]) (ff T Nx n),bm 189 6 vf (base).length ((base).flatMap OO),bm 187 2 (ak (ah ⟨g10,0,aj⟩) (T+1) (T+1)) (T+1) ((gJ g.az T Nx S n c).flatMap lm),fA 185 wu ga (T+1) vs,jn (λj=>j<T+1) (oZ vs (jA g.az T (S.getD n []) (Nx.getD n [])))]) I c2;rw[hvc]at this;exact this)) ?_)
    refine kO (ι:=Nat×Value) (λ(i,_)=>i<=X.length) (λ(i,vf)=>[(1,aH (ah ⟨g1,0,aj⟩)),(2,aH (ah ⟨g2,0,aj⟩)),(5,aH (ah ⟨g5,0,aj⟩)),(7,aH (ah ⟨g7,0,aj⟩)),(8,vf),(26,ap av (S.length:Int)),(27,ap av (n:Int)),(9,ap av (n:Int)),(10,ak (ah ⟨g10,0,aj⟩) (T+1) (T+1)),(37,ak (ah ⟨ga,0,aj⟩) (T+1) (T+1)),(38,ap av ((T+1:Nat):Int)),(11,ap av (c:Int)),(12,ak ax X.length cx),(39,ap av (c:Int)),(44,ak ax X.length cx),(45,ap av (X.length:Int)),(46,ap av (i:Int))])
     (λ(i,vf)=>[aK g1 (du (T:Int) g.bB vp).cells 33,aK g2 #[ak aj 0 0,ak aj 0 0] 36,bm 256 1 (ak (ah ⟨gS,0,aj⟩) S.length cS) S.length w9,eG (cO K7) F (w9.map λv=>[v]) S,bm 26 1 (ak (ah ⟨gN,0,aj⟩) Nx.length cN) Nx.length CA,eG (cO iv) FN (CA.map λv=>[v]) Nx,aK g5 #[ak (ah ⟨gS,0,aj⟩) S.length cS,ak (ah ⟨gN,0,aj⟩) Nx.length cN] 182,aK g7 #[x.vA,x.vG] 36,bm 185 1 x.vA (f_ g.az T Nx S n).length x.C_,eG AD x.FA (x.C_.map λv=>[v]) (f_ g.az T Nx S n),bm 26 1 x.vG (ff T Nx n).length x.C',eG (cO iv) x.FG (x.C'.map λv=>[v]) (ff T Nx n),bm 189 6 vf ((base++(X.tail.take (i-1)).map λx=>(((n:Int),(c:Int),X.headD (0,0),x):Ys))).length (((base++(X.tail.take (i-1)).map λx=>(((n:Int),(c:Int),X.headD (0,0),x):Ys))).flatMap OO),bm 187 2 (ak (ah ⟨g10,0,aj⟩) (T+1) (T+1)) (T+1) ((if i=0 then gJ g.az T Nx S n c else gJ g.az T Nx S n (c+1)).flatMap lm),fA 185 wu ga (T+1) vs,jn (λj=>j<T+1) (oZ vs (jA g.az T (S.getD n []) (Nx.getD n [])))]) (λ(i,_)=>X.length-i) (0,vf) (bC _) (by repeat' (first|exact cZ|refine cP I ?_)) (by simp) ?_
    rintro⟨i,vf⟩ k1;dsimp only at k1⊢
    by_cases c3:i<X.length
    ·have ak7:=λ(L:List b_) (k:Nat) (gx:Nat) (hgx:ax=ah ⟨gx,0,aj⟩) (hL:L[k]?=ah (jn (λj=>j<T+1) (oZ vs (jA g.az T (S.getD n []) (Nx.getD n [])))))=>acR L k gx hgx hL i c3
     obtain⟨gx,rfl⟩:=hax J;have BM:∀(L:List b_) (k:Nat),L[k]?=ah (jn (λj=>j<T+1) (oZ vs (jA g.az T (S.getD n []) (Nx.getD n []))))->∀(j:Nat) (u:Value),(lm (X.headD (0,0)))[j]?=ah u->At (w:bV) L ⟨gx,0+0*2+j,aj⟩ u:=λL k hL j u hu=>acR L k gx I hL 0 J j u (by
      have:X.headD (0,0)=X[0]' J:=by
       cases X with
       |nil=>exact absurd c3 (Nat.not_lt_zero _)
       |cons y r=>rfl
      rwa [this]at hu)
     have hXi:i=0->X[i]=jG g.az T Nx S n c:=λe=>by
      subst e;rw[hhd]
      cases X with
      |nil=>exact absurd c3 (oU _)
      |cons y r=>rfl
     have hXt:i≠0->X.tail.take (i+1-1)=X.tail.take (i-1)++[X[i]]:=λe=>by
      obtain⟨m,rfl⟩:∃m,i=m+1:=⟨i-1,by omega⟩
      cases X with
      |nil=>exact absurd c3 (oU _)
      | cons y r=>
       have hm:m<r.length:=by simpa using c3
       show r.take (m+1)=r.take m++[r[m]]
       exact ic hm
     have alu:(base++(X.tail.take (i-1)).map λx=>(((n:Int),(c:Int),X.headD (0,0),x):Ys)).length<=100100000:=by
      rw[bT,dY,jr,Lz];omega
     have hbf:=XN (n:Int) (c:Int) (X.headD (0,0));generalize hXX:X[i]=xa at*;clear acR hS1 hN1
     repeat(first|refine GA ?_|refine gV (aR bM.eq aI.ty I I c3) ?_|refine gV (aW (cs:=lm xa) aI.ty I I (ak7 _ 15 gx I I)) ?_)
     refine aY I λg14=>?_;refine zL ?_
     try refine GA ?_
     refine fR 16 (cs':=(lm xa).toArray) ?_;refine zL ?_
     by_cases q1:i=0
     ·subst q1
      rw[if_pos I];have hXi:=hXi I
      repeat(first|refine GA ?_|refine gV (aJ (i:=16) aI.ty I I I) ?_|refine gV (aR bM.eq aI.ty I I c2) ?_)
      refine Bg si (k:=c) (a:=xa) (i:=13) aI.ty I I J (by rw[qo];exact c2) qo.symm I I I ?_;rw[hXi,aaI];refine zL ?_
      try refine GA ?_
      refine dq [0,1,2,3,4,5,6,7,8,9,10,11,12,13,14,15] ?_;exact bQ (0+1,vf) (by show 0+1<=X.length;omega) (by show X.length-(0+1)<X.length-0;omega) (hl:=by dsimp only;rw[if_neg J];rfl)
     rw[if_neg q1];have nw:base++(X.tail.take (i+1-1)).map (λx=>(((n:Int),(c:Int),X.headD (0,0),x):Ys))=(base++(X.tail.take (i-1)).map λx=>(((n:Int),(c:Int),X.headD (0,0),x):Ys))++[((n:Int),(c:Int),X.headD (0,0),xa)]:=by rw[hXt q1,eK,<-eu];rfl
     clear hXt;generalize (base++(X.tail.take (i-1)).map λx=>(((n:Int),(c:Int),X.headD (0,0),x):Ys))=fb at*
     try refine GA ?_
     refine dG ([jn (λj=>j<T+1) (oZ vs (jA g.az T (S.getD n []) (Nx.getD n []))),aK g14 (lm xa).toArray 187]) (.calm 0 (.calm 1 (.calm 2 (.calm 3 (.calm 4 (.calm 5 (.calm 6 (.calm 7 (.one 8 (.one 9 (.calm 10 (.done)))))))))))) (bY [15,16]) ?_
     repeat(first|refine GW ?_|(refine GN ?_;first|refine QW (aR (j:=0) bM.eq aI.ty I I (show 0<X.length by omega)) ?_|refine QW (aW (cs:=lm (X.headD (0,0))) aI.ty I I (BM _ 0 I)) ?_|refine QW (aJ (i:=1) aI.ty I I I) ?_|refine QW (aZ I (hbf _)) ?_))
     refine aM I (gG (cs:=(OO ((n:Int),(c:Int),X.headD (0,0),xa)).toArray) I I I I I λg65=>aO (bY [15,16]) ?_);refine aM I (n_ (i:=12) (q:=17) I I I I I I J J I λvf2=>aO (bY [15,16]) ?_)
     try refine GW ?_
     try refine GA ?_
     refine dq [0,1,2,3,4,5,6,7,8,9,10,11,12,13,14,15] ?_;exact bQ (i+1,vf2) (by show i+1<=X.length;omega) (by show X.length-(i+1)<X.length-i;omega) (hl:=by dsimp only;rw[if_neg J,nw,bT,ie];rfl)
    obtain rfl:i=X.length:=by omega
    have ajD:(if X.length=0 then gJ g.az T Nx S n c else gJ g.az T Nx S n (c+1))=gJ g.az T Nx S n (c+1):=by
     by_cases e:X.length=0
     rw[if_pos e];exact(ajB (mT e)).symm;rw[if_neg e]
    have htt:X.tail.take (X.length-1)=X.tail:=gD (by rw[Lz];exact aX _);rw[ajD,htt]
    try refine GA ?_
    exact bQ (c+1,vf) (by show c+1<=T+1;omega) (by show T+1-(c+1)<T+1-c;omega) (hl:=by dsimp only;rw[T7,<-eu,ajC])
   obtain rfl:c=T+1:=by omega
   have hTN:T<=Nx[n].length:=by omega
   have hdl:(Nx[n].drop T).length=Nx[n].length-T:=je;have Mh:(Nx[n].drop T).take (Nx[n].length-T)=Nx[n].drop T:=gD (by rw[hdl];exact aX _);have hSub:∀(L:List b_) (i:Nat),L[i]?=ah (eG (cO iv) FN (CA.map λv=>[v]) Nx)->SlL (w:bV) L (Hu aq cq 1 T Nx[n].length) (Nx[n].length-T) ((Nx[n].drop T).map (ap .i64)):=λL i hL w' pg=>by
    have h1:=Sk (W:=(w:bV)) (L:=L) (f:=λn=>[ap .i64 n]) (c:=1) alt hL hnN acQ w' pg;have h2:=Kc (i:=T) (j:=Nx[n].length) (f:=λn=>[ap .i64 n]) (λ_=>rfl) h1 hTN (aX _);rw[Mh,hdl,<-acI]at h2;exact h2
   have agl:((Nx[n].drop T).map (ap .i64)).length=(Nx[n].length-T)*1:=by rw[dY,hdl,lR]
   have agm:∀u∈(Nx[n].drop T).map (ap .i64),u.oneCell'=true:=λu hu=>by obtain⟨y,_,rfl⟩:=fE.1 hu;rfl
   have hgo:∀{v:Value} {w':World},(bm 3 1 v (0+(Nx[n].length-T)) ([]++(Nx[n].drop T).map (ap .i64))).holds w'->(cO iv).is (λk=>v.ownBlock=ah k) w' [v] ((Nx.getD n []).drop T):=λ{v w'} h=>by
    rw[ahZ];rw[cU,fD,<-hdl]at h;exact Cz (λy hy=>ak6 y (ti hy)) h
   repeat(first|refine GA ?_|refine gV (aw (v:=x.vA) aI.ty I (aD (i:=7) I I)) ?_)
   have hAl:=jl (l:=g.az) (T:=T) (Nx:=Nx) (S:=S) n;have hGl:=mI (T:=T) (Nx:=Nx) n;refine kf (i:=8) I I I I I I (λz h=>by cases h;rfl) J J I λz vA2=>?_;refine zL ?_;refine uK (eG AD (λk=>x.FA k\/(ak (ah ⟨g10,0,aj⟩) (T+1) (T+1)).ownBlock=ah k) ((x.C_.map λv=>[v])++[[ak (ah ⟨g10,0,aj⟩) (T+1) (T+1)]]) (f_ g.az T Nx S n++[gJ g.az T Nx S n (T+1)])) 13 9 [0,1,2,3,4,5,6,7,8,10,11,12] alt I I I (λk hk=>hk.elim (λh=>by cases h) λh=>h.elim (λh=> .inr (.inr h)) λh=> .inl (.inl h)) (λw hr he=>pJ he (acO (by rw[qo];exact hr)) (Au hr)) ?_;refine zL ?_
   try refine GA ?_
   refine aU (i:=8) I λjm mz=>bD (i:=7) I I I jm mz I ?_;refine zL ?_
   try refine GA ?_
   refine iJ 3 1 ?_
   conv=>arg 7;simp only[zA,zB,zC,zD,zE,zF,zG,zH,zI,df,ret,id_eq]
   refine dG ([aK g1 (du (T:Int) g.bB vp).cells 33,bm 26 1 (ak (ah ⟨gN,0,aj⟩) Nx.length cN) Nx.length CA,eG (cO iv) FN (CA.map λv=>[v]) Nx,aK g5 #[ak (ah ⟨gS,0,aj⟩) S.length cS,ak (ah ⟨gN,0,aj⟩) Nx.length cN] 182]) (.calm 0 (.calm 2 (.calm 3 (.calm 4 (.calm 5 (.calm 6 (.calm 7 (.calm 8 (.calm 9 (.two 1 (.one 10 (.one 11 (.one 12 (.calm 13 (.one 14 (.done)))))) 10 (.two 1 (.one 11 (.one 12 (.calm 13 (.one 14 (.done))))) 11 (.one 1 (.one 12 (.calm 13 (.one 14 (.done)))))))))))))))) (bY [0,4,5,6]) ?_
   repeat(first|(refine GN ?_;first|refine QW QP ?_|refine QW (aw (v:=ak (ah ⟨gN,0,aj⟩) Nx.length cN) aI.ty I (aD (i:=3) I I)) ?_|refine QW (bO bM.eq aI.ty I I hnN) ?_|refine QW (aw (v:= .slice aq Nx[n].length cq) aI.ty I (kx (i:=1) I hnq)) ?_|refine QW (aw (v:=ap av (T:Int)) aI.ty I (aD (i:=0) I I)) ?_|refine QW (rN (i:=T) bM.eq aI.ty I I hTN hcq) ?_|refine GX ?_)|refine GW ?_)
   refine e_ I I ?ajE ?ajF
   case' ajE=>
    refine dy (aw (v:=x.vG) aI.ty I (aD (i:=7) I I)) I I I (aO (bY [0,4,5,6]) ?_);refine aM I (eM (i:=13) (k:=Nx[n].length-T) I (hSub _ 5 I) I I agl agm J J I λvI=>aO (bY [0,4,5,6]) ?_);refine aM I (aU (i:=13) I λhw1 hw2=>gG (cs:=#[vI]) I hw1 I I I λg86=>aO (bY [0,4,5,6]) ?_)
   case' ajF=>
    refine eM (i:=13) (k:=Nx[n].length-T) I (hSub _ 5 I) I I agl agm J J I λvI=>aO (bY [0,4,5,6]) ?_;refine e_ I I ?ajG ?ajH
   case' ajG=>
    refine dy (aw (v:=x.vG) aI.ty I (aD (i:=7) I I)) I I I (aO (bY [0,4,5,6]) ?_);refine aM I (aU (i:=13) I λhw1 hw2=>gG (cs:=#[vI]) I hw1 I I I λg86=>aO (bY [0,4,5,6]) ?_)
   case' ajH=>
    refine aU (i:=13) I λhw1 hw2=>gG (cs:=#[vI]) I hw1 I I I λg86=>aO (bY [0,4,5,6]) ?_;refine aM I (dy (aw (v:=x.vG) aI.ty I (aD (i:=7) I I)) I I I (aO (bY [0,4,5,6]) ?_))
   all_goals
    refine aM I (l6 (i:=9) (q:=14) I I I I I hw2 J J I λvG2=>aO (bY [0,4,5,6]) ?_)
    try refine GW ?_
    refine aM I (aU (i:=9) I λjm mz=>bD (i:=7) I I I jm mz I (aO (bY [0,4,5,6]) ?_))
    try refine GW ?_
    refine Dj (eG (cO iv) (λk=>x.FG k\/vI.ownBlock=ah k) ((x.C'.map λv=>[v])++[[vI]]) (ff T Nx n++[(Nx.getD n []).drop T])) 13 10 [0,1,2,3,4,5,6,7,8,9,11,12] alt I I I (λk hk=>hk.elim (λh=>by cases h) λh=>h.elim (λh=> .inr (.inr h)) λh=> .inl (.inl h)) (λw hr he=>pJ he (hgo hr) (Au hr)) ?_
    try refine GA ?_
    refine dq [0,1,2,3,4,5,6,7,8,11,9,12,10] ?_;exact bQ (n+1,⟨vA2,x.C_++[ak (ah ⟨g10,0,aj⟩) (T+1) (T+1)],λk=>x.FA k\/(ak (ah ⟨g10,0,aj⟩) (T+1) (T+1)).ownBlock=ah k,vG2,x.C'++[vI],λk=>x.FG k\/vI.ownBlock=ah k⟩,vf) (by show n+1<=S.length;omega) (by show S.length-(n+1)<S.length-n;omega) (hl:=by dsimp only;rw[show(f_ g.az T Nx S (n+1)).length=(f_ g.az T Nx S n).length+1 by rw[jl,jl],show(ff T Nx (n+1)).length=(ff T Nx n).length+1 by rw[mI,mI],OR,LB,eK,eK];rfl)
  obtain rfl:n=S.length:=by omega
  refine ix (i:=8) I (λw h=>gj w h) λfu=>?_;obtain⟨aA,cA,hvA,-⟩:=fu;refine ix (i:=10) I (λw h=>gj w h) λfu=>?_;obtain⟨aG,cG,hvG,-⟩:=fu;obtain⟨vA,C_,FA,vG,C',FG⟩:=x;dsimp only at hvA hvG⊢;subst hvA hvG
  repeat(first|refine GA ?_|refine gV (aJ (i:=7) aI.ty I I I) ?_)
  refine fR 1 ?_;refine zL ?_
  try refine GA ?_
  exact iW (i:=1) I I I I I I λw hm=>hm.meets (S:=⟨λ(_:SY×Value)=>True,λx=> .tuple #[aP #[x.1.vA,x.1.vG],x.2,ap av 0],λx=>[bm 185 1 x.1.vA (f_ g.az T Nx S S.length).length x.1.C_,eG AD x.1.FA (x.1.C_.map λv=>[v]) (f_ g.az T Nx S S.length),bm 26 1 x.1.vG (ff T Nx S.length).length x.1.C',eG (cO iv) x.1.FG (x.1.C'.map λv=>[v]) (ff T Nx S.length),bm 189 6 x.2 (iG g.az T Nx S S.length).length ((iG g.az T Nx S S.length).flatMap OO)]⟩) (⟨ak aA _ cA,C_,FA,ak aG _ cG,C',FG⟩,vf) trivial [8,9,10,11,12] alt I
 ·rw[if_pos c0]at hO
  rw[hO]
  repeat(first|refine GC ?_|refine gV (dh (b:=aB) I I (decide_eq_true c0)) ?_|refine gV (aZ I zm) ?_|refine GB ?_)
  refine fR 1 ?_;refine zL ?_
  try refine GA ?_
  refine eI 185 1 (jP (eG AD (λ_=>False) [] []) (λk hk=>hk.elim (λh=>by cases h) id) (λw=>kG) (eI 26 1 (jP (eG (cO iv) (λ_=>False) [] []) (λk hk=>hk.elim (λh=>by cases h) id) (λw=>kG) (eI 189 6 ?_))));exact iW (i:=1) I I I I I I λw hm=>hm.meets (S:=⟨λ(_:SY×Value)=>True,λx=> .tuple #[aP #[x.1.vA,x.1.vG],x.2,ap av e],λx=>[bm 185 1 x.1.vA 0 x.1.C_,eG AD x.1.FA (x.1.C_.map λv=>[v]) [],bm 26 1 x.1.vG 0 x.1.C',eG (cO iv) x.1.FG (x.1.C'.map λv=>[v]) [],bm 189 6 x.2 0 []]⟩) (⟨ak aj 0 0,[],λ_=>False,ak aj 0 0,[],λ_=>False⟩,ak aj 0 0) trivial [7,8,9,10,11] alt I
end cB
namespace rj
open aL dI eh dA cB
def S6(O:Nat->Nat->Bool)(h a:Nat):Nat->Nat->Bool:=λi j=>if i=h/\j=a then aB else O i j
def fal(N m:Nat)(O:Nat->Nat->Bool):Nat:=eo (λi=>eo (λj=>if O i j=aB then 0 else 1) m) N
def acS(l:List aL.Prod)(w:List Int)(O:Nat->Nat->Bool):Prop:=∀(k:Nat) a,O k a=aB->a<=w.length->∃v,By l (2,(k:Int)) (w.drop a++v)
theorem LD{f f':Nat->Nat}:∀{k i:Nat},i<k->(∀j,j<k->f j<=f' j)->f i<f' i->eo f k<eo f' k
 | k +1,i,hi,h,hl=>by
  rw[eo,eo]
  by_cases e:i=k
  ·subst e
   have:=wR (f:=f) (f':=f') i λj hj=>h j J;omega
  have:=LD (f:=f) (f':=f') (k:=k) (i:=i) J (λj hj=>h j J) hl;have:=h k J;omega
theorem afm{N m h a:Nat}{O:Nat->Nat->Bool}(hh:h<N)(ha:a<m)(ho:O h a=aE):fal N m (S6 O h a)<fal N m O:=by
 have hle:∀i j,(if S6 O h a i j=aB then 0 else 1)<=(if O i j=aB then 0 else 1):=λi j=>by
  unfold S6
  grind
 unfold fal;refine LD hh (λi _=>wR m λj _=>hle i j) (LD ha (λj _=>hle h j) ?_);have e1:S6 O h a h a=true:=by unfold S6;rw[if_pos ⟨rfl,rfl⟩]
 rw[e1,ho];decide
structure OS(l:List aL.Prod)(w:List Int)(o:bJ->Nat->Nat->Nat)(M:List Bool)(N:Nat)(O O':Nat->Nat->Bool)(more:Bool)(i a:Nat):Prop where
 sound:acS l w O'
 less:more=aB->fal N (w.length+1) O'<fal N (w.length+1) O
 still:more=aE->O'=O/\∀q a',(q<i\/(q=i/\a'<a))->∀h:q<l.length,a'<=w.length->Lj o O M w.length a' l[q].2=aB->O l[q].1.toNat a'=aB
section
variable{l:List aL.Prod}{w:List Int}{n:Nat}{c:eR}{M:List Bool}{O O':Nat->Nat->Bool}{more:Bool}{i a:Nat}
theorem OS.start(h:acS l w O)(o:bJ->Nat->Nat->Nat)(N:Nat):OS l w o M N O O aE 0 0:=⟨h,λh=>by grind,λ_=>⟨rfl,λq a' h=>by omega⟩⟩
theorem OS.set(hM:∀i:Nat,M.getD i aE=aB->∃ws,By l (2,(i:Int)) ws)(hc:AS w l n c)(hs:fY n l){N:Nat}(h:OS l w (cD c w) M N O O' more i a)(hi:i<l.length)(ha:a<=w.length)(hN:l[i].1.toNat<N)(h0:O' l[i].1.toNat a=aE)(h1:Lj (cD c w) O' M w.length a l[i].2=aB):OS l w (cD c w) M N O (S6 O' l[i].1.toNat a) aB i (a+1):=by
 obtain⟨s1,s2,s3⟩:=hs _ (bX hi);refine⟨λk b hk hb=>?_,λ_=>?_,λe=>by cases e⟩
 ·unfold S6 at hk
  by_cases e:k=l[i].1.toNat/\b=a
  ·obtain⟨rfl,rfl⟩:=e
   obtain⟨v,hv⟩:=Lk hM hc hs h.sound ha (λx hx=>(s3 x hx)) h1;exact⟨v,.Wz J (bX hi) J hv⟩
  rw[if_neg e]at hk;exact h.sound k b hk hb
 have:=afm (N:=N) (m:=w.length+1) hN (by omega:a<w.length+1) h0
 cases hm:more
 ·obtain⟨rfl,_⟩:=h.still hm
  omega
 have:=h.less hm;omega
end
theorem acT{n:Nat}{l:List aL.Prod}(hf:CY n l)(hs:fY n l):zY (IL l) (λs=>WA n s/\yL l s) (z_ n):=
 ⟨λs xF=>⟨(yJ hf).keep s xF.1,Ac hs l (λ_ h=>h) _ xF.2⟩,λs xF=>(yJ hf).dec s xF.1⟩
theorem OT{g:dD}{n:Nat}(fS:cI g=0)(hn:g.bB=n):WA n (nf n g.az)/\yL g.az (nf n g.az):=by
 have hf:=wT fS hn;have hs:=nK fS hn;have hz:∀i:Nat,(c_ n aE).getD i aE=false:=λi=>by
  grind
 have h0:yL g.az ⟨c_ n aE,(c_ n aE).set 0 aB,c_ n aE,aE⟩:=
  ⟨λi h=>(by simp_all),λi h=>(by simp_all)⟩
 obtain⟨s',h1,h2,h3⟩:=qN (acT hf hs) _ ⟨c_ n aE,(c_ n aE).set 0 aB,c_ n aE,aE⟩ ⟨⟨by simp,by simp,by simp⟩,h0⟩ (aX _);have e:nf n g.az=fc g.az ⟨s'.E,s'.R,s'.M,aE⟩:=h3;rw[e];exact(acT hf hs).keep s' h1
end rj
namespace cB
open Go.RowKit cL dV dg gv iK aL cX wX
def B4(g:dD):List Bool:=(nf g.bB.toNat g.az).R
def y_(g:dD):List Bool:=(nf g.bB.toNat g.az).M
def y'(g:dD):List Cl:=k9 g.az (nX g.bB.toNat g.az) g.aQ.toNat g.bB.toNat
def Da(s:Sp)(e:Int):Int×Int:=
 if ql s≠0 then(ql s,0)else if s.words.length=0\/s.rules.length=0 then(1,0)else if e≠0 then(e,0)
 else if(B4 (cT s)).any (· ==aE)=aB\/(y_ (cT s)).any (· ==aE)=aB then(4,0)
 else if(y' (cT s)).length=0 then(0,1)
 else if(iI (cT s)).2.2.2≠0 then((iI (cT s)).2.2.2,0)else if 0<(iI (cT s)).2.2.1.length then(12,0)else(0,2)
structure HY where
 vo:Value
 vp:Value
 F:Nat->Prop
 gP:Nat
 vsP:Nat->Value
 vT:Value
 gR:Nat
 vsR:Nat->Value
 tx:SY
def CG:HY:=⟨ak aj 0 0,ak aj 0 0,λ_=>False,0,λ_=>ak aj 0 0,ak aj 0 0,0,λ_=>ak aj 0 0,⟨ak aj 0 0,[],λ_=>False,ak aj 0 0,[],λ_=>False⟩⟩
def HY.pk(x:HY)(R:List Row):List Value:=jk (wq R 256) (ak (ah ⟨x.gP,0,aj⟩) R.length R.length) x.vT
structure ajI(x:HY):Prop where
 o:x.vo.oneCell'=aB
 p:x.vp.oneCell'=aB
 t:x.vT.oneCell'=aB
def HY.lex(x:HY)(s:Sp)(R:List Row)(T:List Int):List b_:=
 [bm 3 1 x.vo s.words.length ((Ln s.words).1.map (ap .i64)),sT x.F x.vp (cT s).az,fA 26 y9 x.gP R.length x.vsP,XJ R.length (nV R 256) x.vsP,bm 3 1 x.vT T.length (T.flatMap cL.eP)]
def ww(e:Int):Spec HY:=⟨λ_=>True,λ_=> .tuple #[aP HV.toArray,ap av e],λ_=>[]⟩
def HY.cLL(x:HY)(g:dD)(R:List Row):Array Value:=(km x.vo (x.pk R) (jC g.aQ g.bB x.vp 1 (ak (ah ⟨x.gR,0,aj⟩) g.bB.toNat g.bB.toNat) (ak aj 0 0) (ak aj 0 0))).toArray
def HY.cLR(x:HY)(g:dD)(R:List Row):Array Value:=(km x.vo (x.pk R) (jC g.aQ g.bB x.vp 2 (ak aj 0 0) x.tx.vA x.tx.vG)).toArray
def HY.rows(x:HY)(g:dD):List b_:=[fA 26 wu x.gR g.bB.toNat x.vsR,jn (λj=>j<g.bB.toNat) (ny g.az (nX g.bB.toNat g.az) g.aQ.toNat x.vsR g.bB.toNat 0)]
def afn(s:Sp)(R:List Row)(T:List Int):Spec HY:=
 ⟨ajI,λx=> .tuple #[.agg (x.cLL (cT s) R),ap av 0],λx=>x.lex s R T++x.rows (cT s)⟩
def afp(s:Sp)(R:List Row)(T:List Int):Spec HY:=
 ⟨λx=>ajI x/\x.tx.vA.oneCell'=aB/\x.tx.vG.oneCell'=aB,λx=> .tuple #[.agg (x.cLR (cT s) R),ap av 0],λx=>x.lex s R T++XM x.tx (iI (cT s)).1 (iI (cT s)).2.1⟩
def qq(s:Sp)(r:Int×List Row×List Int):Spec HY:=
 if(Da s r.1).1≠0 then ww (Da s r.1).1 else if(Da s r.1).2=1 then afn s r.2.1 r.2.2 else afp s r.2.1 r.2.2
theorem wx{s:Sp}{r:Int×List Row×List Int}(h:Vg s r)(h0:r.1=0):cI (cT s)=0/\lZ r.2.1 r.2.2=0:=by
 have hn:wt s=0->cI (cT s)=0:=λh=>by
  unfold wt at h;generalize cI (cT s)=e at*
  by_cases c:e≠0
  rw[if_pos c]at h;cases h;exact rC c
 rcases h with⟨k,hk,-,rfl⟩|⟨es,m,-,-,h3,h4,h5,-,⟨h,rfl⟩|⟨-,h,rfl⟩|⟨h,-,hc,rfl⟩⟩
 exact absurd h0 hk;exact absurd h0 h;exact absurd h0 h;refine⟨hn h,?_⟩;have:=DI hc;dsimp only;exact this
set_option maxRecDepth 100000 in
theorem AF(v:Value)(s:Sp)(r:Int×List Row×List Int)(hx:Vg s r)(w:World)(hv:XA (rP w) w v s)(Hl:∀r∈s.rules,r.2.length<=8796093021952):
 Calls aC 6 #[v] w (cJ (qq s r) w):=by
 have fS:=λw' (hg:Gr w w')=>HX v s w' (hv.gr hg);have hv0:=hv;obtain⟨vw,vr,rfl,hw,hr⟩:=hv;obtain⟨bw,cw,rfl,-⟩:=hw;obtain⟨br,cr,rfl,-⟩:=hr;have hM:Da s r.1=if ql s≠0 then(ql s,0)else if s.words.length=0\/s.rules.length=0 then(1,0)else if r.1≠0 then(r.1,0)
  else if(B4 (cT s)).any (· ==aE)=aB\/(y_ (cT s)).any (· ==aE)=aB then(4,0)
  else if(y' (cT s)).length=0 then(0,1)
  else if(iI (cT s)).2.2.2≠0 then((iI (cT s)).2.2.2,0)else if 0<(iI (cT s)).2.2.1.length then(12,0)else(0,2):=rfl
 have oz:∀e m,Da s r.1=(e,m)->e≠0->qq s r=ww e:=λe m h he=>by unfold qq;rw[h,if_pos he]
 have hLL:Da s r.1=(0,1)->qq s r=afn s r.2.1 r.2.2:=λh=>by unfold qq;rw[h];rfl
 have hLR:Da s r.1=(0,2)->qq s r=afp s r.2.1 r.2.2:=λh=>by unfold qq;rw[h];rfl
 have zm:=XG;have lh:HV.toArray.toList.all fV=true:=BX I Ve I;have hsz:HV.toArray.size=266:=kJ j_ I;refine enter (args:=[aP #[ak bw s.words.length cw,ak br s.rules.length cr]]) (n:=86) Tryz.func6 I I I ?_;refine bZ (bx (bH I I I λg1=>aY I λg2=>?_));rw[w_];refine zL ?_
 repeat(first|refine GA ?_|refine gV (aJ (i:=0) aI.ty I I I) ?_)
 refine aT (lz aF.en I I) (λw hm=>fS _ hm.below) I I I ?_;intro _ _;refine zL ?_
 by_cases c0:ql s≠0
 ·rw[if_pos c0]at hM
  rw[oz _ _ hM c0]
  repeat(first|refine GC ?_|refine gV (dh (b:=aB) I I (decide_eq_true c0)) ?_|refine gV (aZ I zm) ?_|refine GB ?_)
  refine aV (i:=1) (cs':=HV.toArray) I I I hsz lh hsz ?_;refine zL ?_
  try refine GA ?_
  exact dH (i:=1) I I I hsz I λw hm=>hm.meets (S:=ww (ql s)) CG trivial [] alt I
 rw[if_neg c0]at hM;have acU:ql s=0:=rC c0;have Jd:s.words.length<=60/\s.rules.length<=60:=by
  unfold ql at acU
  by_cases c:60<s.words.length\/60<s.words.length+s.rules.length
  rw[if_pos c]at acU;cases acU;omega
 rw[acU];clear fS acU
 by_cases c1:s.words.length=0\/s.rules.length=0
 ·rw[if_pos c1]at hM
  rw[oz _ _ hM alt]
  by_cases c2:s.words.length=0
  ·repeat(first|refine GC ?_|refine gV (dh (b:=aE) I I (decide_eq_false (by simp))) ?_|refine gV (aw (v:=ak bw s.words.length cw) aI.ty I (aD (i:=0) I I)) ?_|refine gV (dc (b:=aB) I I (decide_eq_true J)) ?_|refine gV (aZ I zm) ?_|refine GB ?_)
   refine aV (i:=1) (cs':=HV.toArray) I I I hsz lh hsz ?_;refine zL ?_
   try refine GA ?_
   exact dH (i:=1) I I I hsz I λw hm=>hm.meets (S:=ww 1) CG trivial [] alt I
  repeat(first|refine GC ?_|refine gV (dh (b:=aE) I I (decide_eq_false (by simp))) ?_|refine gV (aw (v:=ak bw s.words.length cw) aI.ty I (aD (i:=0) I I)) ?_|refine gV (aw (v:=ak br s.rules.length cr) aI.ty I (aD (i:=0) I I)) ?_|refine gV (dc (b:=aE) I I (decide_eq_false J)) ?_|refine gV (dc (b:=aB) I I (decide_eq_true J)) ?_|refine gV (aZ I zm) ?_|refine GB ?_)
  refine aV (i:=1) (cs':=HV.toArray) I I I hsz lh hsz ?_;refine zL ?_
  try refine GA ?_
  exact dH (i:=1) I I I hsz I λw hm=>hm.meets (S:=ww 1) CG trivial [] alt I
 rw[if_neg c1]at hM;have Qd:=λgp w' B ho hm=>OI (ak bw s.words.length cw) (ak br s.rules.length cr) s r hx gp w hv0 Jd.1 Jd.2 Hl w' B ho hm
 repeat(first|refine GC ?_|refine gV (dh (b:=aE) I I (decide_eq_false (by simp))) ?_|refine gV (aw (v:=ak bw s.words.length cw) aI.ty I (aD (i:=0) I I)) ?_|refine gV (aw (v:=ak br s.rules.length cr) aI.ty I (aD (i:=0) I I)) ?_|refine gV (dc (b:=aE) I I (decide_eq_false J)) ?_|refine GB ?_)
 refine aY I λg5=>?_;rw[w_];refine zL ?_
 repeat(first|refine GA ?_|refine gV (aJ (i:=0) aI.ty I I I) ?_)
 by_cases c2:r.1≠0
 ·rw[if_pos c2]at hM
  rw[oz _ _ hM c2];have kL:∀gp,Jy gp s r=⟨λ_=>True,λ_=>ap av r.1,λ_=>[]⟩:=λgp=>if_neg c2;simp only[kL]at Qd;refine bz [2] [0,1] alt I I (gh aF.en I I I) (λw' pg hb=>Qd g5 w' _ (ly.on (ly.self w) pg (λo ho=>by simp at ho;subst ho;simp)) hb) I I I ?_;intro _ _;refine zL ?_
  repeat(first|refine GC ?_|refine gV (dh (b:=aB) I I (decide_eq_true c2)) ?_|refine gV (aZ I zm) ?_|refine GB ?_)
  refine aV (i:=1) (cs':=HV.toArray) I I I hsz lh hsz ?_;refine zL ?_
  try refine GA ?_
  exact dH (i:=1) I I I hsz I λw hm=>hm.meets (S:=ww r.1) CG trivial [] alt I
 rw[if_neg c2]at hM;have hr0:r.1=0:=rC c2;obtain⟨hG,OU⟩:=wx hx hr0;have kL:∀gp,Jy gp s r=OH gp s r.2.1 r.2.2:=λgp=>if_pos hr0;simp only[kL]at Qd;clear hx kL c2;obtain⟨e,R,T⟩:=r;dsimp only at*;subst hr0;generalize Da s 0=M at*;generalize hgr:cT s=g at*;refine bz [2] [0,1] alt I I (gh aF.en I I I) (λw' pg hb=>Qd g5 w' _ (ly.on (ly.self w) pg (λo ho=>by simp at ho;subst ho;simp)) hb) I I I ?_;clear Qd;rintro⟨vo,vp,F,gP,vsP,vT⟩ ⟨k1,k2,k3⟩;dsimp only at k1 k2 k3;unfold OH;rw[hgr];refine zL ?_;have ji:(jk (wq R 256) (ak (ah ⟨gP,0,aj⟩) R.length R.length) vT).length=258:=iE _ _ _;have hpo:(jk (wq R 256) (ak (ah ⟨gP,0,aj⟩) R.length R.length) vT).all fV=true:=by
  have:=y7 (wq R 256) (vn:=ak (ah ⟨gP,0,aj⟩) R.length R.length) (vt:=vT) I k3
  simpa using this
 have hpx:∀x:HY,x.gP=gP->x.vT=vT->jk (wq R 256) (ak (ah ⟨gP,0,aj⟩) R.length R.length) vT=x.pk R:=λx h1 h2=>by unfold HY.pk;rw[h1,h2]
 generalize hPK:jk (wq R 256) (ak (ah ⟨gP,0,aj⟩) R.length R.length) vT=PK at*;obtain⟨a1,a2,a3,a4,a5,a6⟩:=cz hG;have ah0:∀w',(sT F vp g.az).holds w'->jS (λk=>k<w'.heap.size) w' (du g.aQ g.bB vp) g:=λw' h=>y8 (gok ⟨a1,by omega⟩) (gok ⟨by omega,by omega⟩) h
 repeat(first|refine GC ?_|refine gV (dh (b:=aE) I I (decide_eq_false (by simp))) ?_|refine gV (aW (cs:=[ap av g.aQ,ap av g.bB,vp]) aI.ty I I (λj v h=>aD (i:=2) I (om ji h))) ?_|refine GB ?_)
 have hN:g.bB=(g.bB.toNat:Int):=by omega
 have hT:g.aQ=(g.aQ.toNat:Int):=by omega
 obtain⟨⟨-,hRl,hMl⟩,-⟩:=rj.OT hG hN;have HJ:=λw' h=>FO (du g.aQ g.bB vp) g w' h hG g.bB.toNat hN;have Qs:=λw' h=>Lu (du g.aQ g.bB vp) g w' h hG g.aQ.toNat g.bB.toNat hT hN;have Qh:=λw' h=>LC (du g.aQ g.bB vp) g w' h;unfold SZ XM at Qh;refine aT (lz aF.en I I) (λw' hm=>(HJ w' (ah0 w' (hm.get (i:=4) I))).mono λe w2 h=>FP h) I I I ?_;intro x5 _
 conv=>arg 8;simp only[zJ,df,ret,id_eq,FM.val]
 try refine GA ?_
 refine aY I λg7=>?_;refine fR 13 ?_;refine zL ?_
 repeat(first|refine GA ?_|refine gV (aw aI.ty I (aD (i:=13) I I)) ?_)
 have acV:B4 g=(nf g.bB.toNat g.az).R:=rfl;have acW:y_ g=(nf g.bB.toNat g.az).M:=rfl;generalize (nf g.bB.toNat g.az).R=Rc at*;generalize (nf g.bB.toNat g.az).M=Mk at*;rw[acV,acW]at hM;clear acV acW HJ;refine aT (gh aF.en I I I) (λw' hm=>qe _ Rc aE w' (by have:=Sl.dF (hm.get (i:=11) I);rw[hRl];exact this)) I I I ?_;intro _ _;refine zL ?_
 cases XO:Rc.any (· ==aE)with
 |true=>
  rw[if_pos (.inl XO)]at hM;rw[oz _ _ hM alt]
  repeat(first|refine GA ?_|refine gV (aZ I zm) ?_)
  refine aV (i:=1) (cs':=HV.toArray) I I I hsz lh hsz ?_;refine zL ?_
  try refine GA ?_
  exact dH (i:=1) I I I hsz I λw hm=>hm.meets (S:=ww 4) CG trivial [] alt I
 |false=>
 repeat(first|refine GA ?_|refine gV (aw aI.ty I (aD (i:=13) I I)) ?_)
 refine l5 (gh aF.en I I I) (λw' hm=>qe _ Mk aE w' (by have:=Sl.dF (hm.get (i:=12) I);rw[hMl];exact this)) I I I I I ?_;intro _ _;refine zL ?_
 cases agn:Mk.any (· ==aE)with
 |true=>
  rw[if_pos (.inr agn)]at hM;rw[oz _ _ hM alt]
  repeat(first|refine GA ?_|refine gV (aZ I zm) ?_)
  refine aV (i:=1) (cs':=HV.toArray) I I I hsz lh hsz ?_;refine zL ?_
  try refine GA ?_
  exact dH (i:=1) I I I hsz I λw hm=>hm.meets (S:=ww 4) CG trivial [] alt I
 |false=>
 rw[if_neg (by rw[XO,agn];decide)]at hM;have lI:y' g=k9 g.az (nX g.bB.toNat g.az) g.aQ.toNat g.bB.toNat:=rfl
 repeat(first|refine GA ?_|refine gV (aW (cs:=[ap av g.aQ,ap av g.bB,vp]) aI.ty I I (λj v h=>aD (i:=2) I (om ji h))) ?_)
 refine aT (lz aF.en I I) (λw' hm=>Qs w' (ah0 w' (hm.get (i:=4) I))) I I I ?_;rintro⟨gR,vsR,vcl⟩ _;unfold acD;rw[<-lI];refine zL ?_
 by_cases c3:(y' g).length=0
 ·rw[if_pos c3]at hM
  rw[hLL hM]
  repeat(first|refine GC ?_|refine gV (dW (i:=16) bM.eq I I) ?_|refine gV (dc (b:=aB) I I (decide_eq_true J)) ?_|refine GB ?_)
  refine nW 3 (i:=2) I I I I I I ji I ?_;refine zL ?_
  try refine GA ?_
  refine nW 4 (i:=2) I I I I I I ji I ?_;refine zL ?_
  repeat(first|refine GA ?_|refine gV (aJ (i:=2) aI.ty I I (kJ ji I)) ?_)
  refine aV (i:=1) (cs':=(km vo PK (jC g.aQ g.bB vp 1 (ak (ah ⟨gR,0,aj⟩) g.bB.toNat g.bB.toNat) (ak aj 0 0) (ak aj 0 0))).toArray) I I I (kJ ji I) (BX k1 hpo (by simp only[jC,cY,db,k2];rfl)) hsz ?_;refine zL ?_
  try refine GA ?_
  subst hPK;subst hgr;exact dH (i:=1) I I I (kJ ji I) I λw hm=>hm.meets (S:=afn s R T) ⟨vo,vp,F,gP,vsP,vT,gR,vsR,⟨ak aj 0 0,[],λ_=>False,ak aj 0 0,[],λ_=>False⟩⟩ ⟨k1,k2,k3⟩ [3,4,5,6,7,14,15] alt I
 rw[if_neg c3]at hM
 repeat(first|refine GC ?_|refine gV (dW (i:=16) bM.eq I I) ?_|refine gV (dc (b:=aE) I I (decide_eq_false J)) ?_|refine gV (aW (cs:=[ap av g.aQ,ap av g.bB,vp]) aI.ty I I (λj v h=>aD (i:=2) I (om ji h))) ?_|refine GB ?_)
 refine aT (lz aF.en I I) (λw' hm=>Qh w' (ah0 w' (hm.get (i:=4) I))) I I I ?_;rintro⟨⟨vA,C_,FA,vG,C',FG⟩,vfi⟩ _;have hO:iI g=iI g:=rfl;refine zL ?_;generalize hOT:iI g=O at*;obtain⟨A,G,fi,e⟩:=O;dsimp only at hM⊢;refine aU (i:=17) I λ_ b1=>aU (i:=19) I λ_ b2=>?_
 try refine GA ?_
 refine aY I λg12=>?_;refine zL ?_;refine aV (i:=22) (cs':=#[vA,vG]) I I I I (by simp only[cY,db,b1,b2];rfl) I ?_;refine zL ?_
 by_cases c4:e≠0
 ·rw[if_pos c4]at hM
  rw[oz _ _ hM c4]
  repeat(first|refine GC ?_|refine gV (dh (b:=aB) I I (decide_eq_true c4)) ?_|refine gV (aZ I zm) ?_|refine GB ?_)
  refine aV (i:=1) (cs':=HV.toArray) I I I hsz lh hsz ?_;refine zL ?_
  try refine GA ?_
  exact dH (i:=1) I I I hsz I λw hm=>hm.meets (S:=ww e) CG trivial [] alt I
 rw[if_neg c4]at hM
 repeat(first|refine GC ?_|refine gV (dh (b:=aE) I I (decide_eq_false c4)) ?_|refine GB ?_)
 by_cases c5:0<fi.length
 ·rw[if_pos c5]at hM
  rw[oz _ _ hM alt]
  repeat(first|refine GC ?_|refine gV (dW (i:=21) bM.eq I I) ?_|refine gV (eO (b:=aB) I I (decide_eq_true J)) ?_|refine gV (aZ I zm) ?_|refine GB ?_)
  refine aV (i:=1) (cs':=HV.toArray) I I I hsz lh hsz ?_;refine zL ?_
  try refine GA ?_
  exact dH (i:=1) I I I hsz I λw hm=>hm.meets (S:=ww 12) CG trivial [] alt I
 rw[if_neg c5]at hM;rw[hLR hM]
 repeat(first|refine GC ?_|refine gV (dW (i:=21) bM.eq I I) ?_|refine gV (eO (b:=aE) I I (decide_eq_false J)) ?_|refine GB ?_)
 (repeat refine bZ ?_)
 refine dG ([aK g12 #[vA,vG] 36]) (.calm 0 (.calm 1 (.one 2 (.calm 3 (.one 4 (.done)))))) (bY [22]) ?_
 repeat(first|refine GW ?_|(refine GN ?_;first|refine QW (aJ (i:=0) aI.ty I I I) ?_))
 refine aM I (nW 3 (i:=2) I I I I I I ji I (aO (bY [22]) ?_));refine zL ?_
 try refine GW ?_
 refine aM I (SD (i:=2) I I I b1 b2 I ji (aO (bY [22]) ?_));refine zL ?_
 try refine GW ?_
 repeat(first|refine GA ?_|refine gV (aJ (i:=2) aI.ty I I (kJ ji I)) ?_)
 refine aV (i:=1) (cs':=(km vo PK (jC g.aQ g.bB vp 2 (ak aj 0 0) vA vG)).toArray) I I I (kJ ji I) (BX k1 hpo (by simp only[jC,cY,db,k2,b1,b2];rfl)) hsz ?_;refine zL ?_
 try refine GA ?_
 subst hPK;subst hgr;refine dH (i:=1) I I I (kJ ji I) I λw hm=>hm.meets (S:=afp s R T) ⟨vo,vp,F,gP,vsP,vT,gR,vsR,⟨vA,C_,FA,vG,C',FG⟩⟩ ⟨⟨k1,k2,k3⟩,b1,b2⟩ [3,4,5,6,7,17,18,19,20] alt ?_;show _++XM _ (iI (cT s)).1 (iI (cT s)).2.1=_
 rw[hOT];rfl
open dI eh dA rj
def JB(l:List aL.Prod)(may:Nat->Nat)(T N:Nat):Bool:=decide ((k9 l may T N).length=0)
def nxG(g:dD)(T N:Nat)(word:List Int):Int->Nat->Int:=λh a=>wX.rowAt g.az (nX N g.az) T h.toNat (dU T word a)
theorem GJ{g:dD}{T N:Nat}(hg:cI g=0)(hT:g.aQ=T)(hN:g.bB=N)(hf:JB g.az (nX N g.az) T N=aB){t:Tree}{word:List Int}(h:dm g.az t (2,0) 0)(hy:eU g.az t=word)(hw:∀x∈word,0<=x/\x<(T:Int)):Hw g.az (nxG g T N word) t 0:=by
 obtain⟨_,a2,_⟩:=cz hg;have hC:=I7 hg hN;have hs:=nK hg hN;have hp:0<=t.prod:=by
  obtain⟨p,k,kids⟩:=t;rw[dm]at h;rcases h with⟨e,_⟩|⟨_,e,_⟩
  cases e
  exact e
 have hl:=wP h hp;have afq:k9 g.az (nX N g.az) T N=[]:=mT (of_decide_eq_true hf);have Hx:IM g.az (nf N g.az).E (BO N g.az) (C3 N g.az) (nf N g.az).R (nf N g.az).M word t 0:=by
  refine Cp hC hs h hp hC.top ?_ ⟨[],by simp_all⟩;have e:pR word (0+leaves t)=63:=by simp_all[pR]
  rw[e];exact hC.last
 exact aaN hC hs J hw (λi _=>rfl) (IR N afq) h hp Hx ⟨[],by simp_all⟩
theorem ah1{g:dD}{T N:Nat}(hT:g.aQ=T)(hN:g.bB=N)(hf:JB g.az (nX N g.az) T N=aB){word:List Int}(hc:iP g word=0):iy g word<=1:=by
 obtain⟨hg,_,hw⟩:=lD hc;rw[hT]at hw;apply acL;intro h2;obtain⟨t,t',hne,h1,y1,h2,y2⟩:=IP (g:=g) (w:=word) h2;exact hne (aaM h1 h2 (λ_=>GJ hg hT hN hf h1 y1 hw) (λ_=>GJ hg hT hN hf h2 y2 hw))
def tC(l:List aL.Prod)(n:Nat):List Int->Int
 |[]=>0
 |p::r=>if p< -1 then 1 else if(l.length:Int)<=p then 1 else if 0<=p/\(l.getD p.toNat (0,[])).1≠(n:Int)then 1 else tC l n r
def qW(l:List aL.Prod)(t:Int):Nat->List (List Int)->Int
 |_,[]=>0
 |n,r::rs=>if(r.length:Int)≠t+1 then 1 else if tC l n r≠0 then 1 else qW l t (n+1) rs
def LF(g:dD)(ll:List (List Int)):Int:=if cI g≠0 then cI g else if(ll.length:Int)≠g.bB then 1 else qW g.az g.aQ 0 ll
abbrev GK(w:World)(v:Value)(ll:List (List Int)):Prop:=jO (cO iv) (λk=>k<w.heap.size) w v ll
theorem Vj{F:Nat->Prop}{w:World}{b off:Nat}{ll:List (List Int)}(h:∀i (h:i<ll.length),∃cs,(cO iv).is F w cs ll[i]/\Rd w b (off+i*(cO iv).c) cs){k:Nat}(hk:k<ll.length):
 ∃vi,w.cell? ⟨b,off+k,aj⟩=ah vi/\Sl w vi ll[k].length (ll[k].map (.int .i64)):=by
 obtain⟨cs,⟨vi,rfl,h1⟩,hr⟩:=h k hk;refine⟨vi,?_,?_⟩
 ·have:=hr 0 vi I
  rwa [show(cO iv).c=1 from I,lR,mi]at this
 ·have:=h1.flat alt
  rw[show(ll[k].flatMap λn=>[ap .i64 n])=ll[k].map (.int .i64)from by rw[SV];induction ll[k]with
   |nil=>rfl
   |cons x r ih=>simp only[fm,Ea,ih];rfl]at this
  exact this
set_option maxRecDepth 100000 in
theorem xU(v vr:Value)(g:dD)(ll:List (List Int))(w:World)(h:jS (λk=>k<w.heap.size) w v g)(hr:GK w vr ll):
 Calls aC 71 #[v,vr] w (cJ (ret (ap av (LF g ll))) w):=by
 have fS:=λw' (hg:Gr w w')=>im v g w' (h.gr hg);obtain⟨vp,rfl,h1,_⟩:=h;obtain⟨br,cr,rfl,Wg,qE,xG⟩:=hr;unfold maxLen at qE;unfold LF
 by_cases c0:cI g=0
 ·rw[if_neg (by simpa using c0)]
  obtain⟨a1,a2,a3,a4,a5,_⟩:=cz c0;rw[c0]at fS;obtain⟨t,nn,az⟩:=g;dsimp only at*;obtain⟨bp,cp,rfl,MV,Cg,mQ⟩:=h1;unfold maxLen at Cg;refine enter (args:=[du t nn (ak bp az.length cp),ak br ll.length cr]) (n:=64) Tryz.func71 I I I ?_;refine bZ (bx (bH I I I λg2=>?_));refine zL ?_
  repeat(first|refine GA ?_|refine gV (aJ (i:=0) aI.ty I I I) ?_)
  refine aT (lz aF.en I I) (λw hm=>fS _ hm.below) I I I ?_;intro _ _;refine zL ?_
  by_cases c1:(ll.length:Int)=nn
  ·rw[if_neg (by simpa using c1)]
   repeat(first|refine GA ?_|refine gV (aw aI.ty I (aD (i:=0) I I)) ?_)
   generalize mV:qW az t 0 ll=res;refine dZ (ι:=Nat) (λn=>n<=ll.length/\res=qW az t n (ll.drop n)) (λn=>[(2,aH (ah ⟨g2,0,aj⟩)),(20,ak br ll.length cr),(21,ap av ll.length),(22,ap av (n:Int))]) (λ_=>[aK g2 (du t nn (ak bp az.length cp)).cells 33]) (λn=>ll.length-n) 0 ⟨bC _,by rw[B3];exact mV.symm⟩ ?_;clear mV;rintro n ⟨i1,i2⟩
   by_cases c2:n<ll.length
   ·obtain⟨b,off,rfl,_,gu⟩:=xG J
    obtain⟨vi,y1,y2⟩:=Vj gu c2;have eC:∀L,At w L ⟨b,off+n,aj⟩ vi:=λL=>jL y1;rw[dL c2,qW]at i2;clear gu y1;generalize ll[n]=r at*;obtain⟨bi,ci,rfl,z1,z2,z3⟩:=y2;unfold maxLen at z2
    by_cases c3:(r.length:Int)=t+1
    ·rw[if_neg (by simpa using c3)]at i2
     repeat(first|refine GA ?_|refine gV (bO bM.eq aI.ty I I c2) ?_|refine gV (aw aI.ty I (eC _)) ?_|refine gV (aw aI.ty I (aD (i:=0) I I)) ?_)
     refine dZ (ι:=Nat) (λj=>j<=r.length/\tC az n r=tC az n (r.drop j)) (λj=>[(2,aH (ah ⟨g2,0,aj⟩)),(6,ap av (n:Int)),(20,ak (ah ⟨b,off,aj⟩) ll.length cr),(21,ap av ll.length),(22,ap av (n:Int)),(33,ak bi r.length ci),(34,ap av r.length),(35,ap av (j:Int))]) (λ_=>[aK g2 (du t nn (ak bp az.length cp)).cells 33]) (λj=>r.length-j) 0 ⟨bC _,rfl⟩ ?_;rintro j ⟨j1,j2⟩
     by_cases c4:j<r.length
     ·obtain⟨b',Bn,rfl,uz⟩:=z3 J
      have acX:=λL=>RU (L:=L) uz c4;rw[dL c4,tC]at j2;clear uz z3;generalize r[j]=p at*
      by_cases e1:p< -1
      ·rw[if_pos e1]at j2
       rw[j2,if_pos alt]at i2;subst i2
       repeat(first|refine GA ?_|refine gV (bO bM.eq aI.ty I I c4) ?_|refine gV (aw aI.ty I (acX _)) ?_|refine gV (aw aI.ty I (aD (i:=0) I I)) ?_)
       exact dQ
      by_cases e2:(az.length:Int)<=p
      ·rw[if_neg e1,if_pos e2]at j2
       rw[j2,if_pos alt]at i2;subst i2
       repeat(first|refine GA ?_|refine gV (bO bM.eq aI.ty I I c4) ?_|refine gV (aw aI.ty I (acX _)) ?_|refine gV (aw aI.ty I (aD (i:=0) I I)) ?_)
       exact dQ
      rw[if_neg e1,if_neg e2]at j2
      by_cases e3:0<=p
      ·obtain⟨m,rfl⟩:∃m:Nat,p=m:=⟨p.toNat,by omega⟩
       have hm:m<az.length:=by omega
       obtain⟨bq,ak8,rfl,_,hrq⟩:=mQ J;obtain⟨bb,cb,q1,_,_⟩:=jp hrq hm;have ajJ:∀(L:List b_),At w L ⟨bq,ak8+m*2+0,aj⟩ (ap av az[m].1):=λL=>jL (q1 0 _ I);rw[de,cH,bL hm]at j2;dsimp only[Option.getD]at j2;clear q1 hrq;generalize az[m]=pd at*;obtain⟨hd,_⟩:=pd;dsimp only at*
       by_cases e4:hd=(n:Int)
       ·rw[if_neg (λh=>h.2 e4)]at j2
        repeat(first|refine GA ?_|refine gV (bO bM.eq aI.ty I I c4) ?_|refine gV (aw aI.ty I (acX _)) ?_|refine gV (aw aI.ty I (aD (i:=0) I I)) ?_|refine gV (aR bM.eq aI.ty I I hm) ?_|refine gV (aw aI.ty I (ajJ _)) ?_)
        exact bQ (j+1) ⟨by omega,j2⟩ J
       rw[if_pos ⟨e3,e4⟩]at j2;rw[j2,if_pos alt]at i2;subst i2
       repeat(first|refine GA ?_|refine gV (bO bM.eq aI.ty I I c4) ?_|refine gV (aw aI.ty I (acX _)) ?_|refine gV (aw aI.ty I (aD (i:=0) I I)) ?_|refine gV (aR bM.eq aI.ty I I hm) ?_|refine gV (aw aI.ty I (ajJ _)) ?_)
       exact dQ
      rw[if_neg (λh=>e3 h.1)]at j2
      repeat(first|refine GA ?_|refine gV (bO bM.eq aI.ty I I c4) ?_|refine gV (aw aI.ty I (acX _)) ?_|refine gV (aw aI.ty I (aD (i:=0) I I)) ?_)
      exact bQ (j+1) ⟨by omega,j2⟩ J
     rw[ia J,tC]at j2;rw[j2,if_neg alt]at i2
     try refine GA ?_
     exact bQ (n+1) ⟨by omega,i2⟩ J
    rw[if_pos (by simpa using c3)]at i2;subst i2
    repeat(first|refine GA ?_|refine gV (bO bM.eq aI.ty I I c2) ?_|refine gV (aw aI.ty I (eC _)) ?_|refine gV (aw aI.ty I (aD (i:=0) I I)) ?_)
    exact dQ
   rw[ia J,qW]at i2;subst i2
   try refine GA ?_
   exact dQ
  rw[if_pos (by simpa using c1)]
  repeat(first|refine GA ?_|refine gV (aw aI.ty I (aD (i:=0) I I)) ?_)
  exact dQ
 ·rw[if_pos (by simpa using c0)]
  generalize cI g=e at*;refine enter (args:=[du g.aQ g.bB vp,ak br ll.length cr]) (n:=64) Tryz.func71 I I I ?_;refine bZ (bx (bH I I I λg2=>?_));refine zL ?_
  repeat(first|refine GA ?_|refine gV (aJ (i:=0) aI.ty I I I) ?_)
  refine aT (lz aF.en I I) (λw hm=>fS _ hm.below) I I I ?_;intro _ _;refine zL ?_
  try refine GA ?_
  exact dQ
theorem acY{l:List aL.Prod}{may:Nat->Nat}{T N g:Nat}{vs:Nat->Value}{w:World}(hl:l.length<=40)(hN:N<=20)(h1:(fA 26 wu g N vs).holds w)(h2:(jn (λj=>j<N) (ny l may T vs N 0)).holds w):
 GK w (ak (ah ⟨g,0,aj⟩) N N) (mq N λn=>mq (T+1) (wX.rowAt l may T n)):=by
 refine⟨ah ⟨g,0,aj⟩,N,by rw[iX],by rw[iX];exact aX _,by unfold maxLen;omega,λh0=>⟨g,0,rfl,(fA 26 wu g N vs).lt w h1 g (.inl I),λi hi=>?_⟩⟩;rw[iX]at hi;have hf:=h2.1 i hi;unfold ny C9 at hf;rw[if_pos hi]at hf;have te:(mq N λn=>mq (T+1) (wX.rowAt l may T n))[i]'(by rw[iX];exact hi)=mq (T+1) (wX.rowAt l may T i):=by simp[mq]
 rw[te];refine⟨[vs i],⟨vs i,rfl,?_⟩,λj u hj=>?_⟩
 ·have hs:=Sl.dF hf
  refine jO.of_flat (p:=cL.dv) (by rw[iX];rw[show((mq (T+1) (wX.rowAt l may T i)).flatMap λn=>[ap .i64 n])=(mq (T+1) (wX.rowAt l may T i)).map ahY from by
   rw[SV]
   induction mq (T+1) (wX.rowAt l may T i)with
   |nil=>rfl
   |cons x r ih=>simp only[fm,Ea,ih];rfl];exact hs) (λa ha=>?_) (λb hb=>(bm 3 1 (vs i) (T+1) _).lt w hf b (.inl hb)) (λa n cp he=>?_)
  ·unfold mq at ha
   obtain⟨c,_,rfl⟩:=fE.1 ha;have:=pU (l:=l) (may:=may) (T:=T) i c l.length;unfold wX.rowAt;exact⟨by omega,by omega⟩
  have hr:w.ownsRow 0 3 1 (vs i) (T+1) _:=hf;rcases hr.2 with⟨hv,h⟩|⟨gg,cap,oM,hv,_⟩
  omega;rw[hv]at he;simp only[kq,dM]at he;rw[<-he.1];exact(bm 3 1 (vs i) (T+1) _).lt w hf gg (.inl (by rw[hv];rfl))
 ·have hj0:j=0:=by
   have:=(dK.1 hj).1;simp at this;omega
  subst hj0;simp only[uv,dM]at hj;subst hj;have:=Bv h1 hi;rw[show 0+i*(cO iv).c+0=0+i by rw[show(cO iv).c=1 from I];omega];exact this
open bK
def GO(w:World)(t:Value)(A:List (List bK.Act))(G:List (List Int)):Prop:=∃vA vG,t=aP #[vA,vG]/\jO (cO OP) (λk=>k<w.heap.size) w vA A/\jO (cO iv) (λk=>k<w.heap.size) w vG G
theorem GO.gr{w w':World}{t:Value}{A:List (List bK.Act)}{G:List (List Int)}(h:GO w t A G)(hg:Gr w w'):GO w' t A G:=let ⟨a,b,h1,h2,h3⟩:=h;⟨a,b,h1,h2.gr hg,h3.gr hg⟩
theorem afr{w:World}{x:SY}{A:List (List bK.Act)}{G:List (List Int)}(h1:(bm 185 1 x.vA A.length x.C_).holds w)(h2:(eG AD x.FA (x.C_.map λv=>[v]) A).holds w)(h3:(bm 26 1 x.vG G.length x.C').holds w)(h4:(eG (cO iv) x.FG (x.C'.map λv=>[v]) G).holds w):GO w (aP #[x.vA,x.vG]) A G:=by
 have h1':(bm 185 (cO OP).c x.vA A.length (x.C_.map λv=>[v]).flatten).holds w:=by rw[Gi];exact h1
 have h3':(bm 26 (cO iv).c x.vG G.length (x.C'.map λv=>[v]).flatten).holds w:=by rw[Gi];exact h3
 exact⟨x.vA,x.vG,rfl,(Er h1' (acN h2) alt).mono λk hk=>Es h1' h2 k hk,(Er h3' h4 alt).mono λk hk=>Es h3' h4 k hk⟩
theorem LG{α:Type}{s:yt α}{F:Nat->Prop}{w:World}{base:Option Addr}{n cap:Nat}{l:List (List α)}(h:jO (cO s) F w (ak base n cap) l){i:Nat}(hi:i<l.length):∃b off vi,base=ah ⟨b,off,aj⟩/\w.cell? ⟨b,off+i,aj⟩=ah vi/\jO s F w vi l[i]:=by
 obtain⟨Om,Hr,e,_,_,h3⟩:=h
 cases e
 obtain⟨b,off,rfl,_,h4⟩:=h3 J;obtain⟨cs,⟨vi,rfl,h5⟩,h6⟩:=h4 i hi;refine⟨b,off,vi,rfl,?_,h5⟩;have:=h6 0 vi I
 rwa [show off+i*(cO s).c+0=off+i by show off+i*1+0=_;omega]at this
theorem ni{α:Type}{s:yt α}{F:Nat->Prop}{w:World}{v:Value}{l:List α}(h:jO s F w v l):∃base cap,v=ak base l.length cap/\l.length<=cap/\cap<=9223372036854775807:=let ⟨b,c,h1,h2,h3,_⟩:=h;⟨b,c,h1,h2,by unfold maxLen at h3;omega⟩
def wy(T P n:Nat)(x:bK.Act)(c:Nat):Prop:=(x.1=0/\x.2=0)\/(x.1=1/\c<T/\0<=x.2/\x.2<(n:Int))\/(x.1=2/\0<=x.2/\x.2<(P:Int))\/(x.1=3/\x.2=0/\c=T)
theorem LH(T P n:Nat)(nn:Int)(bp:Option Addr)(cp:Nat)(aA:Option Addr)(cA:Nat)(vG:Value)(x:bK.Act)(c:Nat)(h:wy T P n x c)(w:World):
 Calls aC 114 #[du (T:Int) nn (ak bp P cp),aP #[ak aA n cA,vG],aP (lm x).toArray,ap av (c:Int)] w (cJ (ret (.bool aB)) w):=by
 obtain⟨k,m⟩:=x;unfold wy at h;dsimp only at h;refine enter (args:=[du (T:Int) nn (ak bp P cp),aP #[ak aA n cA,vG],aP (lm (k,m)).toArray,ap av (c:Int)]) (n:=59) Tryz.func114 I I I ?_;refine bZ (bx (bH I I I λg4=>?_));refine zL ?_;refine bH I I I λg5=>?_;refine zL ?_;refine bH I I I λg6=>?_;refine zL ?_;rcases h with⟨rfl,rfl⟩|⟨rfl,h1,h2,h3⟩|⟨rfl,h1,h2⟩|⟨rfl,rfl,rfl⟩
 ·repeat(first|refine GA ?_|refine gV (aw (v:=ap av 0) aI.ty I (aD (i:=2) I I)) ?_)
  exact dQ
 ·repeat(first|refine GA ?_|refine gV (aw (v:=ap av 1) aI.ty I (aD (i:=2) I I)) ?_|refine gV (aw (v:=ap av m) aI.ty I (aD (i:=2) I I)) ?_|refine gV (aw (v:=ap av (T:Int)) aI.ty I (aD (i:=0) I I)) ?_|refine gV (aw (v:=ak aA n cA) aI.ty I (aD (i:=1) I I)) ?_)
  exact dQ
 ·repeat(first|refine GA ?_|refine gV (aw (v:=ap av 2) aI.ty I (aD (i:=2) I I)) ?_|refine gV (aw (v:=ap av m) aI.ty I (aD (i:=2) I I)) ?_|refine gV (aw (v:=ak bp P cp) aI.ty I (aD (i:=0) I I)) ?_)
  exact dQ
 ·repeat(first|refine GA ?_|refine gV (aw (v:=ap av 3) aI.ty I (aD (i:=2) I I)) ?_|refine gV (aw (v:=ap av 0) aI.ty I (aD (i:=2) I I)) ?_|refine gV (aw (v:=ap av (c:Int)) aI.ty I (aD (i:=0) I I)) ?_)
  exact dQ
structure wz(g:dD)(T N:Nat)(A:List (List bK.Act))(G:List (List Int)):Prop where
 AG:cI g=0
 aQ:g.aQ=(T:Int)
 bB:g.bB=(N:Int)
 pos:0<A.length
 Dv:A.length<=200
 same:G.length=A.length
 wA:∀i (h:i<A.length),A[i].length=T+1
 dB:∀i (h:i<A.length),∀c (hc:c<A[i].length),wy T g.az.length A.length A[i][c] c
 wG:∀i (h:i<G.length),G[i].length=N
 gos:∀i (h:i<G.length),∀y∈G[i],-1<=y/\y<(A.length:Int)
theorem xV(v t:Value)(g:dD)(T N:Nat)(A:List (List bK.Act))(G:List (List Int))(h:wz g T N A G)(w:World)(hG:jS (λk=>k<w.heap.size) w v g)(ht:GO w t A G):
 Calls aC 72 #[v,t] w (cJ (ret (ap av 0)) w):=by
 have fS:=λw' (hg:Gr w w')=>im v g w' (hG.gr hg);obtain⟨vp,rfl,hp,-,-⟩:=hG;obtain⟨bp,cp,rfl,-⟩:=hp;obtain⟨vA,vG,rfl,hA,hGo⟩:=ht;obtain⟨aA,cA,rfl,-,-⟩:=ni hA;obtain⟨aG,cG,rfl,-,-⟩:=ni hGo;obtain⟨hg,Lh,hNn,uc,Ol,uO,hwA,afs,hwG,acZ⟩:=h;obtain⟨hT1,hT2,-,hN2,wY,-⟩:=cz hg;rw[hg]at fS;rw[Lh,hNn]at fS⊢;refine enter (args:=[du (T:Int) (N:Int) (ak bp g.az.length cp),aP #[ak aA A.length cA,ak aG G.length cG]]) (n:=93) Tryz.func72 I I I ?_;refine bZ (bx (bH I I I λg2=>?_));refine zL ?_;refine bH I I I λg3=>?_;refine zL ?_
 repeat(first|refine GA ?_|refine gV (aJ (i:=0) aI.ty I I I) ?_)
 refine aT (lz aF.en I I) (λw hm=>fS w hm.below) I I I ?_;intro _ _;refine zL ?_
 repeat(first|refine GA ?_|refine gV (aw (v:=ak aA A.length cA) aI.ty I (aD (i:=1) I I)) ?_|refine gV (aw (v:=ak aG G.length cG) aI.ty I (aD (i:=1) I I)) ?_)
 clear fS;refine dZ (ι:=Nat) (λi=>i<=A.length) (λi=>[(2,aH (ah ⟨g2,0,aj⟩)),(3,aH (ah ⟨g3,0,aj⟩)),(6,ap av (A.length:Int)),(31,ap av (A.length:Int)),(32,ap av (i:Int))])
  (λ_=>[aK g2 (du (T:Int) (N:Int) (ak bp g.az.length cp)).cells 33,aK g3 (aP #[ak aA A.length cA,ak aG G.length cG]).cells 36]) (λi=>A.length-i) 0 (bC _) ?_
 intro i i1
 by_cases c1:i<A.length
 ·have c1G:i<G.length:=by omega
  obtain⟨bA,oA,vi,rfl,hcA,hsA⟩:=LG hA c1;obtain⟨bG,oG,wi,rfl,hcG,hsG⟩:=LG hGo c1G;obtain⟨ai,ci,rfl,hci,alX⟩:=ni hsA;obtain⟨ei,di,rfl,hdi,ajK⟩:=ni hsG;have hfA:=hsA.flat (f:=lm) alt;have hfG:=hsG.flat (f:=λn=>[ap .i64 n]) alt;have alY:=hwA i c1;have alZ:=hwG i c1G;have ajL:=afs i c1;have ajM:=acZ i c1G;obtain⟨_,_,e1,-,-,hrA⟩:=hfA
  cases e1
  obtain⟨_,_,e2,-,-,hrG⟩:=hfG
  cases e2
  clear hsA hsG afs acZ hwA hwG;have aft:∀L,At (w:bV) L ⟨bA,oA+i,aj⟩ (.slice ai A[i].length ci):=λL=>jL hcA;have afu:∀L,At (w:bV) L ⟨bG,oG+i,aj⟩ (.slice ei G[i].length di):=λL=>jL hcG;generalize A[i]=X at*;generalize G[i]=Y at*
  try refine GA ?_
  refine dG ([aK g2 (du (T:Int) (N:Int) (ak bp g.az.length cp)).cells 33,aK g3 (aP #[ak (ah ⟨bA,oA,aj⟩) A.length cA,ak (ah ⟨bG,oG,aj⟩) G.length cG]).cells 36]) (.calm 0 (.calm 1 (.calm 2 (.calm 3 (.calm 4 (.calm 5 (.calm 6 (.calm 7 (.calm 8 (.calm 9 (.calm 10 (.calm 11 (.calm 12 (.calm 13 (.calm 14 (.calm 15 (.calm 16 (.calm 17 (.calm 18 (.calm 19 (.calm 20 (.done)))))))))))))))))))))) (λ_ h=>h) ?_
  repeat(first|refine GW ?_|(refine GN ?_;first|refine QW (aw (v:=ak (ah ⟨bA,oA,aj⟩) A.length cA) aI.ty I (aD (i:=1) I I)) ?_|refine QW (bO bM.eq aI.ty I I c1) ?_|refine QW (aw (v:=ak ai X.length ci) aI.ty I (aft _)) ?_|refine QW (aw (v:=ap av (T:Int)) aI.ty I (aD (i:=0) I I)) ?_|refine QW (aw (v:=ak (ah ⟨bG,oG,aj⟩) G.length cG) aI.ty I (aD (i:=1) I I)) ?_|refine QW (bO bM.eq aI.ty I I c1G) ?_|refine QW (aw (v:=ak ei Y.length di) aI.ty I (afu _)) ?_|refine QW (aw (v:=ap av (N:Int)) aI.ty I (aD (i:=0) I I)) ?_))
  repeat(first|refine GA ?_|refine gV (aw (v:=ak (ah ⟨bA,oA,aj⟩) A.length cA) aI.ty I (aD (i:=1) I I)) ?_|refine gV (bO bM.eq aI.ty I I c1) ?_|refine gV (aw (v:=ak ai X.length ci) aI.ty I (aft _)) ?_)
  refine dZ (ι:=Nat) (λc=>c<=X.length) (λc=>[(2,aH (ah ⟨g2,0,aj⟩)),(3,aH (ah ⟨g3,0,aj⟩)),(6,ap av (A.length:Int)),(7,ap av (i:Int)),(31,ap av (A.length:Int)),(32,ap av (i:Int)),(60,ak ai X.length ci),(61,ap av (X.length:Int)),(62,ap av (c:Int))])
   (λ_=>[aK g2 (du (T:Int) (N:Int) (ak bp g.az.length cp)).cells 33,aK g3 (aP #[ak (ah ⟨bA,oA,aj⟩) A.length cA,ak (ah ⟨bG,oG,aj⟩) G.length cG]).cells 36]) (λc=>X.length-c) 0 (bC _) ?_
  intro c j1
  by_cases c2:c<X.length
  ·obtain⟨b,off,rfl,gu⟩:=hrA J
   have eC:=λL=>gK (L:=L) si gu c2;have F5:∀(L:List b_) (j:Nat) (u:Value),(lm X[c])[j]?=ah u->At (w:bV) L ⟨b,off+c*2+j,aj⟩ u:=eC;have hri:=ajL c c2;clear eC;generalize X[c]=x at*;have hrc:=LH T g.az.length A.length (N:Int) bp cp (ah ⟨bA,oA,aj⟩) cA (ak (ah ⟨bG,oG,aj⟩) G.length cG) x c hri
   repeat(first|refine GA ?_|refine gV (aR bM.eq aI.ty I I c2) ?_|refine gV (aW (cs:=lm x) aI.ty I I (F5 _)) ?_)
   refine aY I λg9=>?_;refine zL ?_
   try refine GA ?_
   refine fR 2 (cs':=(lm x).toArray) ?_;refine zL ?_
   repeat(first|refine GA ?_|refine gV (aJ (i:=0) aI.ty I I I) ?_|refine gV (aJ (i:=1) aI.ty I I I) ?_|refine gV (aJ (i:=2) aI.ty I I I) ?_)
   refine aT (Bc aF.en I I I I I) (λw hm=>hrc w) I I I ?_;intro _ _;refine zL ?_
   try refine GA ?_
   refine dq [0,1] ?_;exact bQ (c+1) J (by show X.length-(c+1)<X.length-c;omega)
  obtain rfl:c=X.length:=by omega
  repeat(first|refine GA ?_|refine gV (aw (v:=ak (ah ⟨bG,oG,aj⟩) G.length cG) aI.ty I (aD (i:=1) I I)) ?_|refine gV (bO bM.eq aI.ty I I c1G) ?_|refine gV (aw (v:=ak ei Y.length di) aI.ty I (afu _)) ?_)
  refine dZ (ι:=Nat) (λc=>c<=Y.length) (λc=>[(2,aH (ah ⟨g2,0,aj⟩)),(3,aH (ah ⟨g3,0,aj⟩)),(6,ap av (A.length:Int)),(31,ap av (A.length:Int)),(32,ap av (i:Int)),(78,ak ei Y.length di),(79,ap av (Y.length:Int)),(80,ap av (c:Int))])
   (λ_=>[aK g2 (du (T:Int) (N:Int) (ak bp g.az.length cp)).cells 33,aK g3 (aP #[ak (ah ⟨bA,oA,aj⟩) A.length cA,ak (ah ⟨bG,oG,aj⟩) G.length cG]).cells 36]) (λc=>Y.length-c) 0 (bC _) ?_
  intro c k1
  by_cases c3:c<Y.length
  ·obtain⟨b,off,rfl,gu⟩:=hrG J
   have eC:=λL=>gK (L:=L) (f:=λn=>[ap .i64 n]) (c:=1) (λ_=>rfl) gu c3 0 _ I;have F5:∀(L:List b_),At (w:bV) L ⟨b,off+c*1+0,aj⟩ (ap av Y[c]):=eC;have hgo:=ajM Y[c] (bX c3);clear eC;generalize Y[c]=y at*
   repeat(first|refine GA ?_|refine gV (aR bM.eq aI.ty I I c3) ?_|refine gV (aw (v:=ap av y) aI.ty I (F5 _)) ?_)
   exact bQ (c+1) J (by show Y.length-(c+1)<Y.length-c;omega)
  obtain rfl:c=Y.length:=by omega
  try refine GA ?_
  exact bQ (i+1) J (by show A.length-(i+1)<A.length-i;omega)
 ·obtain rfl:i=A.length:=by omega
  try refine GA ?_
  exact dQ
def xW(g:dD):Bool:=decide ((iI g).2.2.2=0)&&decide ((iI g).2.2.1.length=0)
open zP
structure PkM(w:World)(vn vt:Value)(N:List (List Int))(tags:List Int):Prop where
 ex:∃(b off cap:Nat) (vs:Nat->Value),vn=ak (ah ⟨b,off,aj⟩) N.length cap/\∀i (h:i<N.length),w.cell? ⟨b,off+i,aj⟩=ah (vs i)/\Sl w (vs i) N[i].length (N[i].flatMap cL.eP)
 hT:Sl w vt tags.length (tags.flatMap cL.eP)
structure ac0(o:Of)(N:List (List Int))(tags:List Int)(wide:Nat):Prop where
 pos:0<N.length
 le:N.length<=200
 len:tags.length=N.length
 w0:0<wide
 w1:wide<=256
 row:∀i (h:i<N.length),N[i].length=wide
 tag:∀i (h:i<tags.length),-1<=tags[i]/\tags[i]<20
 rng:∀i (h:i<N.length),∀j (h':j<N[i].length),-1<=N[i][j]/\N[i][j]<N.length
 of:∀b (h:b<256),o[b]<wide
theorem PkM.gr{w w':World}{vn vt:Value}{N:List (List Int)}{tags:List Int}(h:PkM w vn vt N tags)(hg:Gr w w'):PkM w' vn vt N tags:=by
 obtain⟨b,off,cap,vs,h1,h2⟩:=h.ex;refine⟨⟨b,off,cap,vs,h1,λi hi=>⟨?_,(h2 i hi).2.gr hg⟩⟩,h.hT.gr hg⟩;rw[hg.cell (q7 w _ (h2 i hi).1)];exact(h2 i hi).1
def ofC(o:Of):List Value:=o.toList.map λn:Nat=> .int .u8 (n:Int)
theorem afv(o:Of):(ofC o).length=256:=by simp[ofC]
theorem afw(o:Of){b:Nat}(h:b<256):(ofC o).toArray[b]?=ah (.int .u8 (o[b]:Int)):=by
 simp_all[ofC]
theorem ah2(o:Of)(vn vt:Value){j:Nat}{v:Value}(h:(ofC o)[j]?=ah v):(jk o vn vt).toArray[0+j]?=ah v:=by
 have hj:j<(ofC o).length:=(dK.1 h).1;rw[cU,oY];show(ofC o++[vn,vt])[j]?=_
 grind
def unR(o:Of)(N:List (List Int)):List Row:=N.map λl=>rp λb:Fin 256=>l.getD o[b] 0
theorem Vk(o:Of)(N:List (List Int)):(unR o N).length=N.length:=dY ..
structure PkI(w:World)(vn vt:Value)(N:List (List Int))(tags:List Int):Prop where
 hN:jO (cO iv) (rP w) w vn N
 hT:Sl w vt tags.length (tags.flatMap cL.eP)
theorem PkI.gr{w w':World}{vn vt:Value}{N:List (List Int)}{tags:List Int}(h:PkI w vn vt N tags)(hg:Gr w w'):PkI w' vn vt N tags:=⟨Dz h.hN hg,h.hT.gr hg⟩
abbrev nY(o:Of)(N:List (List Int))(tags:List Int):Prop:=ac0 o N tags (N.headD []).length
open Classical in
noncomputable def sj(o:Of)(N:List (List Int))(tags:List Int):Int:=if 200<N.length then 2 else if nY o N tags then 0 else 1
def OV(N:List (List Int))(tags:List Int)(wide i:Nat):Prop:=(N.getD i []).length=wide/\ -1<=tags.getD i 0/\tags.getD i 0<20/\∀x∈N.getD i [],-1<=x/\x<N.length
theorem afx{o:Of}{N:List (List Int)}{tags:List Int}{wide:Nat}(h:ac0 o N tags wide){i:Nat}(hi:i<N.length):OV N tags wide i:=by
 have hit:i<tags.length:=by rw[h.len];exact hi
 unfold OV;rw[cH,bL hi,cH,bL hit];refine⟨h.row i hi,(h.tag i hit).1,(h.tag i hit).2,λx hx=>?_⟩;obtain⟨j,hj,rfl⟩:=ku.1 hx;exact h.rng i hi j hj
theorem afy{o:Of}{N:List (List Int)}{tags:List Int}{wide:Nat}(h0:0<N.length)(h1:N.length<=200)(h2:tags.length=N.length)(h3:0<wide)(h4:wide<=256)(h5:∀i,i<N.length->OV N tags wide i)(h6:∀b (h:b<256),o[b]<wide):ac0 o N tags wide:=by
 have g:∀i (hi:i<N.length),N.getD i []=N[i]:=λi hi=>by rw[cH,bL hi];rfl
 have gt:∀i (hi:i<tags.length),tags.getD i 0=tags[i]:=λi hi=>by rw[cH,bL hi];rfl
 refine⟨h0,h1,h2,h3,h4,λi hi=>?_,λi hi=>?_,λi hi j hj=>?_,h6⟩;have:=(h5 i hi).1;rwa [g i hi]at this;have:=h5 i J;unfold OV at this;rw[gt i hi]at this;exact⟨this.2.1,this.2.2.1⟩;have:=(h5 i hi).2.2.2;rw[g i hi]at this;exact this _ (bX hj)
theorem ah3{o:Of}{N:List (List Int)}{tags:List Int}(h:200<N.length):sj o N tags=2:=if_pos h
theorem ah4{o:Of}{N:List (List Int)}{tags:List Int}(h:¬200<N.length)(hg:¬nY o N tags):sj o N tags=1:=by unfold sj;rw[if_neg h,if_neg hg]
theorem S7{o:Of}{N:List (List Int)}{tags:List Int}(hg:nY o N tags):sj o N tags=0:=by unfold sj;rw[if_neg (by have:=hg.le;omega),if_pos hg]
theorem XP{o:Of}{N:List (List Int)}{tags:List Int}(h:sj o N tags=0):nY o N tags:=by
 unfold sj at h;split at h
 cases h
 split at h
 assumption
 cases h
theorem CH(o:Of)(vn vt:Value)(N:List (List Int))(tags:List Int)(w:World)(h:PkI w vn vt N tags)(ho:∀b (h:b<256),o[b]<256):
 Calls aC 70 #[PF o vn vt] w (cJ (ret (ap av (sj o N tags))) w):=by
 obtain⟨⟨an,cn,rfl,hn1,hn2,hn3⟩,at',ct,rfl,ht1,ht2,Mb⟩:=h;unfold maxLen at hn2 ht2;have hE1:=λh hg=>ah4 (o:=o) (N:=N) (tags:=tags) h hg;have hE2:=λh=>ah3 (o:=o) (N:=N) (tags:=tags) h;have hE0:=λh=>S7 (o:=o) (N:=N) (tags:=tags) h;generalize sj o N tags=e at*;refine enter (args:=[PF o (ak an N.length cn) (ak at' tags.length ct)]) (n:=92) Tryz.func70 I I I ?_;refine bZ (bx (bH I I I λg1=>?_))
 by_cases c1:200<N.length
 ·rw[hE2 c1]
  repeat(first|refine GC ?_|refine gV (aw aI.ty I (aD (i:=0) I (oh _ _ _))) ?_|refine gV (eO (b:=aB) I I (decide_eq_true J)) ?_|refine GB ?_)
  exact eN I I I
 by_cases c2:N.length=0
 ·rw[hE1 c1 (λh=>by have:=h.pos;omega)]
  repeat(first|refine GC ?_|refine gV (aw aI.ty I (aD (i:=0) I (oh _ _ _))) ?_|refine gV (eO (b:=aE) I I (decide_eq_false J)) ?_|refine gV (dc (b:=aB) I I (decide_eq_true J)) ?_|refine GB ?_)
  exact eN I I I
 by_cases c3:tags.length=N.length
 case neg=>
  rw[hE1 c1 (λh=>c3 h.len)]
  repeat(first|refine GC ?_|refine gV (aw aI.ty I (aD (i:=0) I (oh _ _ _))) ?_|refine gV (aw aI.ty I (aD (i:=0) I (pq _ _ _))) ?_|refine gV (eO (b:=aE) I I (decide_eq_false J)) ?_|refine gV (dc (b:=aE) I I (decide_eq_false J)) ?_|refine gV (dh (b:=aB) I I (decide_eq_true J)) ?_|refine GB ?_)
  exact eN I I I
 obtain⟨bn,OW,rfl,_,Qb⟩:=hn3 J;obtain⟨bt,LI,rfl,htd⟩:=Mb J;clear hn3 Mb;obtain⟨u0,⟨a0,c0,rfl,-⟩,hd0⟩:=Fz Qb (show 0<N.length by omega);have BM:=λ(L:List b_)=>jE (L:=L) hd0 (j:=0) (v:=ak a0 (N[0]' J).length c0) I;have hw:(N.headD []).length=(N[0]' J).length:=by cases N with
  |nil=>simp at c2
  |cons x r=>rfl
 have uR:nY o N tags↔ac0 o N tags (N[0]' J).length:=by unfold nY;rw[hw]
 clear hd0 hw;generalize (N[0]' J).length=wide at*
 repeat(first|refine GC ?_|refine gV (aw aI.ty I (aD (i:=0) I (oh _ _ _))) ?_|refine gV (aw aI.ty I (aD (i:=0) I (pq _ _ _))) ?_|refine gV (eO (b:=aE) I I (decide_eq_false J)) ?_|refine gV (dc (b:=aE) I I (decide_eq_false J)) ?_|refine gV (dh (b:=aE) I I (decide_eq_false J)) ?_|refine gV (aR (j:=0) bM.eq aI.ty I I J) ?_|refine gV (aw (v:=ak a0 wide c0) aI.ty I (BM _)) ?_|refine GB ?_)
 by_cases c4:wide=0
 ·rw[hE1 c1 (λh=>by have:=(uR.1 h).w0;omega)]
  repeat(first|refine GC ?_|refine gV (dc (b:=aB) I I (decide_eq_true J)) ?_|refine GB ?_)
  exact eN I I I
 by_cases c5:256<wide
 ·rw[hE1 c1 (λh=>by have:=(uR.1 h).w1;omega)]
  repeat(first|refine GC ?_|refine gV (dc (b:=aE) I I (decide_eq_false J)) ?_|refine gV (eO (b:=aB) I I (decide_eq_true J)) ?_|refine GB ?_)
  exact eN I I I
 repeat(first|refine GC ?_|refine gV (dc (b:=aE) I I (decide_eq_false J)) ?_|refine gV (eO (b:=aE) I I (decide_eq_false J)) ?_|refine GB ?_)
 refine dZ (ι:=Nat) (λi=>i<=N.length/\∀j,j<i->OV N tags wide j) (λi=>[(1,aH (ah ⟨g1,0,aj⟩)),(3,ap av (N.length:Int)),(4,ap av (wide:Int)),(35,ap av (N.length:Int)),(36,ap av (i:Int))])
  (λ_=>[aK g1 (jk o (ak (ah ⟨bn,OW,aj⟩) N.length cn) (ak (ah ⟨bt,LI,aj⟩) tags.length ct)).toArray 30]) (λi=>N.length-i) 0 ⟨bC _,λj h=>by omega⟩ ?_
 rintro i ⟨hi,hgi⟩
 by_cases q1:i<N.length
 ·have hit:i<tags.length:=by omega
  obtain⟨u,⟨au,cu,rfl,hcu,hmu,Yl⟩,hdu⟩:=Fz Qb q1;unfold maxLen at hmu;have XQ:=λ(L:List b_)=>jE (L:=L) hdu (j:=0) (v:= .slice au N[i].length cu) I;have OB:=λ(L:List b_)=>gK (L:=L) lf htd hit 0 _ I;have hG:OV N tags wide i↔(N[i].length=wide/\ -1<=tags[i]/\tags[i]<20/\∀x∈N[i],-1<=x/\x<N.length):=by
   unfold OV;rw[cH,bL q1,cH,bL hit];rfl
  have oz:¬OV N tags wide i->e=1:=λhg=>hE1 c1 λh=>hg (afx (uR.1 h) q1);clear hdu hE1 hE2;generalize tags[i]=tg at*;generalize N[i]=l at*
  by_cases r1:l.length=wide
  case neg=>
   rw[oz (λh=>r1 (hG.1 h).1)]
   repeat(first|refine GC ?_|refine gV (aw aI.ty I (aD (i:=0) I (oh _ _ _))) ?_|refine gV (aw aI.ty I (aD (i:=0) I (pq _ _ _))) ?_|refine gV (aR (j:=i) bM.eq aI.ty I I q1) ?_|refine gV (aw (v:=ak au l.length cu) aI.ty I (XQ _)) ?_|refine gV (dh (b:=aB) I I (decide_eq_true J)) ?_|refine GB ?_)
   exact eN I I I
  by_cases r2:tg< -1
  ·rw[oz (λh=>by have:=(hG.1 h).2.1;omega)]
   repeat(first|refine GC ?_|refine gV (aw aI.ty I (aD (i:=0) I (oh _ _ _))) ?_|refine gV (aw aI.ty I (aD (i:=0) I (pq _ _ _))) ?_|refine gV (aR (j:=i) bM.eq aI.ty I I q1) ?_|refine gV (aw (v:=ak au l.length cu) aI.ty I (XQ _)) ?_|refine gV (dh (b:=aE) I I (decide_eq_false J)) ?_|refine gV (aR (j:=i) bM.eq aI.ty I I hit) ?_|refine gV (aw (v:=ap av tg) aI.ty I (OB _)) ?_|refine gV (fI (b:=aB) I I (decide_eq_true r2)) ?_|refine GB ?_)
   exact eN I I I
  by_cases r3:20<=tg
  ·rw[oz (λh=>by have:=(hG.1 h).2.2.1;omega)]
   repeat(first|refine GC ?_|refine gV (aw aI.ty I (aD (i:=0) I (oh _ _ _))) ?_|refine gV (aw aI.ty I (aD (i:=0) I (pq _ _ _))) ?_|refine gV (aR (j:=i) bM.eq aI.ty I I q1) ?_|refine gV (aw (v:=ak au l.length cu) aI.ty I (XQ _)) ?_|refine gV (dh (b:=aE) I I (decide_eq_false J)) ?_|refine gV (aR (j:=i) bM.eq aI.ty I I hit) ?_|refine gV (aw (v:=ap av tg) aI.ty I (OB _)) ?_|refine gV (fI (b:=aE) I I (decide_eq_false r2)) ?_|refine gV (fX (b:=aB) I I (decide_eq_true r3)) ?_|refine GB ?_)
   exact eN I I I
  repeat(first|refine GC ?_|refine gV (aw aI.ty I (aD (i:=0) I (oh _ _ _))) ?_|refine gV (aw aI.ty I (aD (i:=0) I (pq _ _ _))) ?_|refine gV (aR (j:=i) bM.eq aI.ty I I q1) ?_|refine gV (aw (v:=ak au l.length cu) aI.ty I (XQ _)) ?_|refine gV (dh (b:=aE) I I (decide_eq_false J)) ?_|refine gV (aR (j:=i) bM.eq aI.ty I I hit) ?_|refine gV (aw (v:=ap av tg) aI.ty I (OB _)) ?_|refine gV (fI (b:=aE) I I (decide_eq_false r2)) ?_|refine gV (fX (b:=aE) I I (decide_eq_false r3)) ?_|refine GB ?_)
  refine dZ (ι:=Nat) (λj=>j<=l.length/\∀x∈l.take j,-1<=x/\x<N.length) (λj=>[(1,aH (ah ⟨g1,0,aj⟩)),(3,ap av (N.length:Int)),(4,ap av (wide:Int)),(35,ap av (N.length:Int)),(36,ap av (i:Int)),(67,ak au l.length cu),(68,ap av (l.length:Int)),(69,ap av (j:Int))])
   (λ_=>[aK g1 (jk o (ak (ah ⟨bn,OW,aj⟩) N.length cn) (ak (ah ⟨bt,LI,aj⟩) tags.length ct)).toArray 30]) (λj=>l.length-j) 0 ⟨bC _,λx h=>by simp at h⟩ ?_
  rintro j ⟨hj,hgj⟩
  by_cases s1:j<l.length
  ·obtain⟨bu,ajN,rfl,gu⟩:=Yl J
   have XR:=λ(L:List b_)=>gK (L:=L) lf gu s1 0 _ I;have hxm:=bX s1;have Mh:=ic s1;clear gu;generalize l[j]=x at*
   by_cases t1:x< -1
   ·rw[oz (λh=>by have:=((hG.1 h).2.2.2 x hxm).1;omega)]
    repeat(first|refine GC ?_|refine gV (aR (j:=j) bM.eq aI.ty I I s1) ?_|refine gV (aw (v:=ap av x) aI.ty I (XR _)) ?_|refine gV (fI (b:=aB) I I (decide_eq_true t1)) ?_|refine GB ?_)
    exact eN I I I
   by_cases t2:(N.length:Int)<=x
   ·rw[oz (λh=>by have:=((hG.1 h).2.2.2 x hxm).2;omega)]
    repeat(first|refine GC ?_|refine gV (aR (j:=j) bM.eq aI.ty I I s1) ?_|refine gV (aw (v:=ap av x) aI.ty I (XR _)) ?_|refine gV (fI (b:=aE) I I (decide_eq_false t1)) ?_|refine gV (fX (b:=aB) I I (decide_eq_true t2)) ?_|refine GB ?_)
    exact eN I I I
   repeat(first|refine GC ?_|refine gV (aR (j:=j) bM.eq aI.ty I I s1) ?_|refine gV (aw (v:=ap av x) aI.ty I (XR _)) ?_|refine gV (fI (b:=aE) I I (decide_eq_false t1)) ?_|refine gV (fX (b:=aE) I I (decide_eq_false t2)) ?_|refine GB ?_)
   exact ik (j+1) ⟨by omega,λy hy=>by
    rw[Mh,ib,ez]at hy;rcases hy with hy|rfl
    exact hgj y hy;omega⟩ (by show l.length-(j+1)<l.length-j;omega) (by repeat' (first|exact cZ|refine cP I ?_)) I
  rw[gD J]at hgj
  try refine GA ?_
  exact ik (i+1) ⟨by omega,λj hj2=>by
   by_cases e:j=i
   subst e;exact hG.2 ⟨r1,by omega,by omega,hgj⟩;exact hgi j J⟩ (by show N.length-(i+1)<N.length-i;omega) (by repeat' (first|exact cZ|refine cP I ?_)) I
 ·repeat(first|refine GA ?_|refine gV (aW (cs:=ofC o) aI.ty I (afv o) (λj v hj=>aD (i:=0) I (ah2 _ _ _ hj))) ?_)
  refine dZ (ι:=Nat) (λj=>j<=256/\∀b (h:b<256),b<j->o[b]<wide) (λj=>[(4,ap av (wide:Int)),(83,aP (ofC o).toArray),(84,ap av (j:Int))]) (λ_=>[aK g1 (jk o (ak (ah ⟨bn,OW,aj⟩) N.length cn) (ak (ah ⟨bt,LI,aj⟩) tags.length ct)).toArray 30]) (λj=>256-j) 0 ⟨bC _,λb _ h=>by omega⟩ ?_;rintro j ⟨hj,TB⟩
  by_cases s1:j<256
  ·have hcell:=afw o s1
   have hz:=ho j s1;have oz:¬o[j]<wide->e=1:=λhg=>hE1 c1 λh=>hg ((uR.1 h).of j s1);have w7:o[j]<wide->∀b (h:b<256),b<j+1->o[b]<wide:=λhw b h hb=>by
    by_cases e:b=j
    subst e;exact hw;exact TB b h J
   clear hE1 hE2;generalize o[j]=z at*
   by_cases t1:z<wide
   ·repeat(first|refine GC ?_|refine gV (jw bM.eq aI.ty I I s1 hcell) ?_|refine gV (iT bM.eq bM.eq I (n9 J J)) ?_|refine gV (fX (b:=aE) I I (decide_eq_false J)) ?_|refine GB ?_)
    exact bQ (j+1) ⟨by omega,w7 t1⟩ (by show 256-(j+1)<256-j;omega)
   rw[oz t1]
   repeat(first|refine GC ?_|refine gV (jw bM.eq aI.ty I I s1 hcell) ?_|refine gV (iT bM.eq bM.eq I (n9 J J)) ?_|refine gV (fX (b:=aB) I I (decide_eq_true J)) ?_|refine GB ?_)
   exact eN I I I
  rw[hE0 (uR.2 (afy J J c3 J J (λi h=>hgi i J) λb h=>TB b h J))]
  try refine GA ?_
  exact eN I I I
end cB
namespace cB
open Go.RowKit cL dV dg gv iK aL cX
structure Md where
 of:List Int
 o:Of
 N:List (List Int)
 tags:List Int
 g:dD
 mode:Int
 rows:List (List Int)
 A:List (List bK.Act)
 G:List (List Int)
structure JC(w:World)(v:Value)(m:Md)(vo vn vt vp vr va vg:Value):Prop where
 val:v=aP (km vo (jk m.o vn vt) (jC m.g.aQ m.g.bB vp m.mode vr va vg)).toArray
 of:Sl w vo m.of.length (m.of.flatMap cL.eP)
 pk:PkI w vn vt m.N m.tags
 Hm:jS (λk=>k<w.heap.size) w (du m.g.aQ m.g.bB vp) m.g
 rows:GK w vr m.rows
 mb:GO w (aP #[va,vg]) m.A m.G
structure MdGood(m:Md):Prop where
 byte:∀b (h:b<256),m.o[b]<256
 lZ:sj m.o m.N m.tags=0
 Hm:cI m.g=0
 some:0<m.of.length
 aes:m.of.length<=20
 ofs:∀t∈m.of,-1<=t/\t<m.g.aQ
 tag:∀t∈m.tags,t<(m.of.length:Int)
 mode:(m.mode=1/\LF m.g m.rows=0)\/(m.mode=2/\∃T N,wz m.g T N m.A m.G)
theorem Vl{vo:Value}{pk tl:List Value}(hp:pk.length=258){j:Nat}{v:Value}(h:pk[j]?=ah v):(km vo pk tl).toArray[0+1+j]?=ah v:=by
 rw[oY,km,show 0+1+j=j+1 by omega,List.getElem?_cons_succ,lP (dK.1 h).1];exact h
theorem ah5{vo:Value}{pk:List Value}(hp:pk.length=258){a b c d e f f' v:Value}{j:Nat}(h:[f,f'][j]?=ah v):(km vo pk [a,b,c,d,e,f,f']).toArray[0+264+j]?=ah v:=by
 match j,h with
 |0,h=>exact jH 5 hp h I
 |1,h=>exact jH 6 hp h I
 |n+2,h=>cases h
theorem LJ(x:Int):(cL.eP x).length=1:=rfl
set_option maxRecDepth 100000 in
theorem AH(v:Value)(m:Md)(w:World){vo vn vt vp vr va vg:Value}(h:JC w v m vo vn vt vp vr va vg)(hg:MdGood m):
 Calls aC 29 #[v] w (cJ (ret (ap av 0)) w):=by
 have fS:=λw' (hw:Gr w w')=>CH m.o vn vt m.N m.tags w' (h.pk.gr hw) hg.byte;rw[hg.lZ]at fS;have hcg:=λw' (hw:Gr w w')=>im (du m.g.aQ m.g.bB vp) m.g w' (h.Hm.gr hw);rw[hg.Hm]at hcg;have Qs:=λw' (hw:Gr w w')=>xU (du m.g.aQ m.g.bB vp) vr m.g m.rows w' (h.Hm.gr hw) (Dz h.rows hw);have Qh:=λT N hT w' (hw:Gr w w')=>xV (du m.g.aQ m.g.bB vp) (aP #[va,vg]) m.g T N m.A m.G hT w' (h.Hm.gr hw) (h.mb.gr hw);have HJ:=h.of;have htg:=h.pk.hT;have hv:=h.val;obtain⟨b1,b2,b3,b4,b5,b6,b7,b8⟩:=hg;clear h b1 b2 b3;have ji:(jk m.o vn vt).length=258:=iE _ _ _;have hpt:(jk m.o vn vt)[257]?=ah vt:=by have:=pq m.o vn vt;simpa using this
 obtain⟨of,o,N,tags,g,mode,rows,A,G⟩:=m;dsimp only at*;rw[show PF o vn vt=aP (jk o vn vt).toArray from I]at fS;generalize jk o vn vt=PK at*;obtain⟨a1,c1,rfl,CZ,hm1,Wg⟩:=HJ;obtain⟨a2,c2,rfl,WR,VM,qE⟩:=htg;unfold maxLen at hm1 VM;subst hv;refine enter (args:=[aP (km (ak a1 of.length c1) PK (jC g.aQ g.bB vp mode vr va vg)).toArray]) (n:=77) Tryz.func29 I I I ?_;refine bZ (bx (bH I I I λg1=>?_));refine zL ?_
 repeat(first|refine GA ?_|refine gV (aW (cs:=PK) aI.ty I ji (λj v h=>aD (i:=0) I (Vl ji h))) ?_)
 refine aT (lz aF.en I I) (λw hm=>fS _ hm.below) I I I ?_;intro _ _;refine zL ?_
 repeat(first|refine GC ?_|refine gV (dh (b:=aE) I I (decide_eq_false (by simp))) ?_|refine gV (aW (cs:=[ap av g.aQ,ap av g.bB,vp]) aI.ty I I (λj v h=>aD (i:=0) I (om ji h))) ?_|refine GB ?_)
 refine aT (lz aF.en I I) (λw hm=>hcg _ hm.below) I I I ?_;intro _ _;refine zL ?_
 repeat(first|refine GC ?_|refine gV (dh (b:=aE) I I (decide_eq_false (by simp))) ?_|refine gV (aw (v:=ak a1 of.length c1) aI.ty I (aD (i:=0) I I)) ?_|refine GB ?_)
 have hz:(1:Nat)<=of.length:=b4;refine dZ (ι:=Nat) (λk=>k<=of.length) (λk=>[(1,aH (ah ⟨g1,0,aj⟩)),(31,ak a1 of.length c1),(32,ap av of.length),(33,ap av (k:Int))])
  (λ_=>[aK g1 (km (ak a1 of.length c1) PK (jC g.aQ g.bB vp mode vr va vg)).toArray 38]) (λk=>of.length-k) 0 (bC _) ?_
 intro k k1
 by_cases d1:k<of.length
 ·obtain⟨b,off,rfl,hr⟩:=Wg J
  have eC:=λ(L:List b_)=>gK (L:=L) LJ hr d1 0 _ I;obtain⟨y1,y2⟩:=b6 of[k] (bX d1);generalize of[k]=x at*
  repeat(first|refine GA ?_|refine gV (aR bM.eq aI.ty I I d1) ?_|refine gV (aw (v:=ap av x) aI.ty I (eC _)) ?_|refine gV (aw (v:=ap av g.aQ) aI.ty I (aD (i:=0) I (jH 0 ji I I))) ?_)
  exact bQ (k+1) J (by show of.length-(k+1)<of.length-k;omega)
 obtain rfl:k=of.length:=by omega
 repeat(first|refine GA ?_|refine gV (aw (v:=ak a2 tags.length c2) aI.ty I (aD (i:=0) I (Vl ji hpt))) ?_)
 refine dZ (ι:=Nat) (λk=>k<=tags.length) (λk=>[(1,aH (ah ⟨g1,0,aj⟩)),(49,ak a2 tags.length c2),(50,ap av tags.length),(51,ap av (k:Int))])
  (λ_=>[aK g1 (km (ak a1 of.length c1) PK (jC g.aQ g.bB vp mode vr va vg)).toArray 38]) (λk=>tags.length-k) 0 (bC _) ?_
 intro k k2
 by_cases d2:k<tags.length
 ·obtain⟨b,off,rfl,hr⟩:=qE J
  have eC:=λ(L:List b_)=>gK (L:=L) LJ hr d2 0 _ I;have y1:=b7 tags[k] (bX d2);generalize tags[k]=x at*
  repeat(first|refine GA ?_|refine gV (aR bM.eq aI.ty I I d2) ?_|refine gV (aw (v:=ap av x) aI.ty I (eC _)) ?_|refine gV (aw (v:=ak a1 of.length c1) aI.ty I (aD (i:=0) I I)) ?_)
  exact bQ (k+1) J (by show tags.length-(k+1)<tags.length-k;omega)
 obtain rfl:k=tags.length:=by omega
 rcases b8 with⟨rfl,hc⟩|⟨rfl,T,N',hc⟩
 ·rw[hc]at Qs
  repeat(first|refine GA ?_|refine gV (aw (v:=ap av 1) aI.ty I (aD (i:=0) I (jH 3 ji I I))) ?_|refine gV (aW (cs:=[ap av g.aQ,ap av g.bB,vp]) aI.ty I I (λj v h=>aD (i:=0) I (om ji h))) ?_|refine gV (aw (v:=vr) aI.ty I (aD (i:=0) I (jH 4 ji I I))) ?_)
  refine aT (gh aF.en I I I) (λw hm=>Qs _ hm.below) I I I ?_;intro _ _;refine zL ?_
  try refine GA ?_
  exact dQ
 ·have Qh:=λw' hw=>Qh T N' hc w' hw
  repeat(first|refine GA ?_|refine gV (aw (v:=ap av 2) aI.ty I (aD (i:=0) I (jH 3 ji I I))) ?_|refine gV (aW (cs:=[ap av g.aQ,ap av g.bB,vp]) aI.ty I I (λj v h=>aD (i:=0) I (om ji h))) ?_|refine gV (aW (cs:=[va,vg]) aI.ty I I (λj v h=>aD (i:=0) I (ah5 ji h))) ?_)
  refine aT (gh aF.en I I I) (λw hm=>Qh _ hm.below) I I I ?_;intro _ _;refine zL ?_
  try refine GA ?_
  exact dQ
theorem GP{s:Sp}{e m:Int}(h:Da s e=(0,m)):e=0/\(B4 (cT s)).any (· ==aE)=aE/\(y_ (cT s)).any (· ==aE)=aE/\(((y' (cT s)).length=0/\m=1)\/((y' (cT s)).length≠0/\(iI (cT s)).2.2.2=0/\(iI (cT s)).2.2.1.length=0/\m=2)):=by
 unfold Da at h
 by_cases c0:ql s≠0
 simp_all;rw[if_neg c0]at h
 by_cases c1:s.words.length=0\/s.rules.length=0
 simp_all;rw[if_neg c1]at h
 by_cases c2:e≠0
 simp_all;rw[if_neg c2]at h
 by_cases c3:(B4 (cT s)).any (· ==aE)=aB\/(y_ (cT s)).any (· ==aE)=aB
 simp_all;rw[if_neg c3]at h;refine⟨rC c2,?_,?_,?_⟩
 ·cases hb:(B4 (cT s)).any (· ==aE)with
  |true=>exact absurd (.inl hb) c3
  |false=>rfl
 ·cases hb:(y_ (cT s)).any (· ==aE)with
  |true=>exact absurd (.inr hb) c3
  |false=>rfl
 by_cases c4:(y' (cT s)).length=0
 rw[if_pos c4]at h;exact .inl ⟨c4,(congrArg acM h).symm⟩;rw[if_neg c4]at h
 by_cases c5:(iI (cT s)).2.2.2≠0
 rw[if_pos c5]at h;exact absurd (congrArg Prod.fst h) c5;rw[if_neg c5]at h
 by_cases c6:0<(iI (cT s)).2.2.1.length
 rw[if_pos c6]at h;cases h;rw[if_neg c6]at h;exact .inr ⟨c4,rC c5,by omega,(congrArg acM h).symm⟩
theorem ac1{x:HY}(h:x.vT.oneCell'=aB)(R:List Row):(x.pk R).all fV=true:=by
 have:=y7 (wq R 256) (vn:=sV x.gP R.length R.length) (vt:=x.vT) I h;rw[HY.pk,<-this]
end cB
namespace cB
open Go.RowKit cL dV aL dI gI
attribute [local irreducible] Instr.build in
theorem B5(gw:Nat)(t n:Int)(vp vt vo:Value)(out:List bJ)(dB:Nat)(kd m:Int)(w:World)(B:bV)(h1:out.length<=100000)(h2:dB<=100000)(hm:Mem B [yP gw t n vp vt vo dB,rW vo out] w):
 Calls aC 150 #[aH (ah ⟨gw,0,aj⟩),ap av kd,ap av m] w (dz ⟨λ(_:Value)=>True,λ_=> .bool (decide (((dB+1:Nat):Int)<=2000)),λGQ=>[yP gw t n vp vt GQ (dB+1),rW GQ (out++[(kd,m)])]⟩ B):=by
 refine dT hm (args:=[aH (ah ⟨gw,0,aj⟩),ap av kd,ap av m]) (n:=31) Tryz.func150 I I I ?_;refine TV (i:=1) I λjm mz=>?_
 repeat(first|refine GC ?_|refine gV (aw aI.ty I (aD (i:=0) I I)) ?_|refine gV (dN (r:=((dB+1:Nat):Int)) I I J J J) ?_|refine GB ?_)
 refine bD (i:=0) I I I I I I ?_;rw[show(Nr t n vp vt vo dB).setIfInBounds (0+5) (ap av ((dB+1:Nat):Int))=Nr t n vp vt vo (dB+1)from I];refine zL ?_
 repeat(first|refine GA ?_|refine gV (aw aI.ty I (aD (i:=0) I I)) ?_|refine gV (aZ I (BC _ _)) ?_)
 refine iU (i:=1) I I I I I I I (λz h=>by cases h;rfl) J J I λz' v'=>?_;refine zL ?_;refine aU (i:=1) I λjm mz=>?_
 try refine GA ?_
 refine bD (i:=0) I I I jm mz I ?_;rw[show(Nr t n vp vt vo (dB+1)).setIfInBounds (0+4) v'=Nr t n vp vt v' (dB+1)from I];refine zL ?_
 repeat(first|refine GC ?_|refine gV (aw (v:=ap av ((dB+1:Nat):Int)) aI.ty I (aD (i:=0) I I)) ?_|refine gV (Ba I I I) ?_|refine GB ?_)
 exact cV I I λw hm=>hm.cg (S:=⟨λ(_:Value)=>True,λ_=> .bool (decide (((dB+1:Nat):Int)<=2000)),λGQ=>[yP gw t n vp vt GQ (dB+1),rW GQ (out++[(kd,m)])]⟩) v' trivial [0,1] alt (by simp[yP,rW])
theorem CI{B:bV}{L:List b_}{i g cap:Nat}{d:TD}{r:List TD}(hi:L[i]?=ah (xo (ak (ah ⟨g,0,aj⟩) (r.length+1) cap) (d::r)))(j:Nat)(u:Value)(hu:(xK d)[j]?=ah u):At B L ⟨g,0+r.length*4+j,aj⟩ u:=
 ow Ky hi (k:=r.length) (by simp) j u (by simpa using hu)
theorem Vm{d:TD}{r:List TD}{g cap:Nat}{w:World}(h:(xo (ak (ah ⟨g,0,aj⟩) (r.length+1) cap) (d::r)).holds w):(xo (ak (ah ⟨g,0,aj⟩) r.length cap) r).holds w:=by
 obtain⟨h1,h2⟩:=h;refine⟨by rw[nD Ky];simp,?_⟩;rcases h2 with⟨h2,_⟩|⟨g',Hr,oM,e,h3,h4,h5,h6,h7,h8⟩
 cases h2
 cases e
 refine .inr ⟨g,cap,oM,rfl,h3,h4,by simp at h5;omega,h6,h7,?_⟩;have:(oM.toList.take ((d::r).length*4)).take (r.length*4)=((d::r).reverse.flatMap xK).take (r.length*4):=by rw[h8]
 rw[List.take_take,Nat.min_eq_left (by simp;omega),SU,ie,List.take_left' (by rw[nD Ky];simp)]at this;exact this
attribute [local irreducible] Instr.build in
theorem B6(gw:Nat)(t n:Int)(vp vt vo:Value)(d:TD)(r:List TD)(dB:Nat)(w:World)(B:bV)(h1:r.length<=100000)(hm:Mem B [yP gw t n vp vt vo dB,xo vt (d::r)] w):
 Calls aC 149 #[aH (ah ⟨gw,0,aj⟩)] w (dz ⟨λ(_:Value)=>True,λ_=>Mc d,λzi=>[yP gw t n vp zi vo dB,xo zi r]⟩ B):=by
 refine dT hm (args:=[aH (ah ⟨gw,0,aj⟩)]) (n:=31) Tryz.func149 I I I ?_;refine yx (i:=1) I (by simp) λg cap hv q1 q2=>?_;subst hv;simp only[dj]at*;refine bZ (bx (aY I λg2=>?_));refine zL ?_
 try refine GA ?_
 refine dG ([yP gw t n vp (ak (ah ⟨g,0,aj⟩) (r.length+1) cap) vo dB,xo (ak (ah ⟨g,0,aj⟩) (r.length+1) cap) (d::r)]) (.calm 0 (.calm 1 (.calm 2 (.calm 3 (.calm 4 (.calm 5 (.calm 6 (.calm 7 (.calm 8 (.calm 9 (.calm 10 (.calm 11 (.one 12 (.one 13 (.done))))))))))))))) (bY [0,1]) ?_
 repeat(first|(refine GN ?_;first|refine QW QP ?_|refine QW (aw (v:=ak (ah ⟨g,0,aj⟩) (r.length+1) cap) aI.ty I (aD (i:=0) I I)) ?_|refine QW (ey (r:=(r.length:Int)) I I J J J) ?_|refine QW (aR (j:=r.length) bM.eq aI.ty I I J) ?_|refine QW (aW aI.ty I I (CI (i:=1) I)) ?_|refine GX ?_)|refine GW ?_)
 refine aM I (aY I λg3=>?_);refine aO (bY [0,1]) ?_;refine aM I (aV (i:=3) (cs':=(xK d).toArray) I I I I I I (aO (bY [0,1]) ?_))
 try refine GW ?_
 try refine GA ?_
 refine dG ([]) (.calm 0 (.calm 1 (.calm 2 (.calm 3 (.calm 5 (.calm 6 (.calm 7 (.two 4 (.one 8 (.calm 9 (.calm 10 (.calm 11 (.calm 12 (.calm 13 (.one 14 (.done)))))))) 8 (.calm 9 (.calm 10 (.one 4 (.calm 11 (.calm 12 (.calm 13 (.one 14 (.done)))))))))))))))) (bY []) ?_
 try refine GW ?_
 refine e_ I I ?_ ?_
 ·refine dy (aw (v:=ak (ah ⟨g,0,aj⟩) (r.length+1) cap) aI.ty I (aD (i:=0) I I)) I I I (aO (bY []) ?_)
  refine aM I (dy (aw (v:=ak (ah ⟨g,0,aj⟩) (r.length+1) cap) aI.ty I (aD (i:=0) I I)) I I I (aO (bY []) ?_))
  repeat(first|(refine GN ?_;first|refine QW QP ?_|refine QW (ey (r:=(r.length:Int)) I I J J J) ?_|refine QW (ME (j:=r.length) bM.eq aI.ty I I J) ?_|refine GX ?_)|refine GW ?_)
  refine aM I (bD (i:=0) I I I I I I (aO (bY []) ?_));rw[show(Nr t n vp (ak (ah ⟨g,0,aj⟩) (r.length+1) cap) vo dB).setIfInBounds (0+3) (ak (ah ⟨g,0,aj⟩) r.length cap)=Nr t n vp (ak (ah ⟨g,0,aj⟩) r.length cap) vo dB from I]
  try refine GW ?_
  repeat(first|refine GA ?_|refine gV (aJ (i:=3) aI.ty I I I) ?_)
  refine fR 2 (cs':=(xK d).toArray) ?_;refine zL ?_
  try refine GA ?_
  refine pe (i:=1) (xo (ak (ah ⟨g,0,aj⟩) r.length cap) r) I (λw h=>Vm h) (λk hk=>hk) ?_;exact gT (i:=2) I I I I λw hm=>hm.cg (S:=⟨λ(_:Value)=>True,λ_=>Mc d,λzi=>[yP gw t n vp zi vo dB,xo zi r]⟩) (ak (ah ⟨g,0,aj⟩) r.length cap) trivial [0,1] alt I
 ·refine dy (aw (v:=ak (ah ⟨g,0,aj⟩) (r.length+1) cap) aI.ty I (aD (i:=0) I I)) I I I (aO (bY []) ?_)
  repeat(first|(refine GN ?_;first|refine QW QP ?_|refine QW (ey (r:=(r.length:Int)) I I J J J) ?_|refine GX ?_)|refine GW ?_)
  refine aM I (dy (aw (v:=ak (ah ⟨g,0,aj⟩) (r.length+1) cap) aI.ty I (aD (i:=0) I I)) I I I (aO (bY []) ?_))
  repeat(first|(refine GN ?_;first|refine QW QP ?_|refine QW (ME (j:=r.length) bM.eq aI.ty I I J) ?_|refine GX ?_)|refine GW ?_)
  refine aM I (bD (i:=0) I I I I I I (aO (bY []) ?_));rw[show(Nr t n vp (ak (ah ⟨g,0,aj⟩) (r.length+1) cap) vo dB).setIfInBounds (0+3) (ak (ah ⟨g,0,aj⟩) r.length cap)=Nr t n vp (ak (ah ⟨g,0,aj⟩) r.length cap) vo dB from I]
  try refine GW ?_
  repeat(first|refine GA ?_|refine gV (aJ (i:=3) aI.ty I I I) ?_)
  refine fR 2 (cs':=(xK d).toArray) ?_;refine zL ?_
  try refine GA ?_
  refine pe (i:=1) (xo (ak (ah ⟨g,0,aj⟩) r.length cap) r) I (λw h=>Vm h) (λk hk=>hk) ?_;exact gT (i:=2) I I I I λw hm=>hm.cg (S:=⟨λ(_:Value)=>True,λ_=>Mc d,λzi=>[yP gw t n vp zi vo dB,xo zi r]⟩) (ak (ah ⟨g,0,aj⟩) r.length cap) trivial [0,1] alt I
theorem S8(out:List bJ)(a:Nat):bI [] out a=([],out,a,aB):=rfl
theorem S9(x:bJ)(r:List TD)(out:List bJ)(a:Nat):bI (.sym x::r) out a=(.sym x::r,out,a,aB):=rfl
theorem S_(p:Int)(r:List TD)(out:List bJ){a:Nat}(h:a+1<=2000):bI (.close p::r) out a=bI r (out++[(3,p)]) (a+1):=by rw[bI,if_pos h]
theorem XS(p:Int)(r:List TD)(out:List bJ){a:Nat}(h:¬a+1<=2000):bI (.close p::r) out a=(r,out++[(3,p)],a+1,aE):=by rw[bI,if_neg h]
def clS(gw:Nat)(t n:Int)(vp:Value)(c:List TD×List bJ×Nat×Bool):Spec (Value×Value):=⟨λ_=>True,λ_=> .bool c.2.2.2,λx=>[yP gw t n vp x.1 x.2 c.2.2.1,xo x.1 c.1,rW x.2 c.2.1]⟩
theorem sk(gw:Nat)(t n:Int)(vp vt0 vo0:Value)(Yt:List TD)(AC:List bJ)(JD:Nat)(w:World)(B:bV)(h1:Yt.length<=100000)(h2:JD<=2000)(h3:AC.length=JD)(hm:Mem B [yP gw t n vp vt0 vo0 JD,xo vt0 Yt,rW vo0 AC] w):
 Calls aC 151 #[aH (ah ⟨gw,0,aj⟩)] w (dz (clS gw t n vp (bI Yt AC JD)) B):=by
 refine dT hm (args:=[aH (ah ⟨gw,0,aj⟩)]) (n:=30) Tryz.func151 I I I ?_;clear hm
 try refine GA ?_
 generalize hC:bI Yt AC JD=C;refine dZ (ι:=List TD×List bJ×Nat×Value×Value) (λ(st,out,dB,_,_)=>bI st out dB=C/\st.length<=100000/\dB<=2000/\out.length=dB) (λ_=>[(0,aH (ah ⟨gw,0,aj⟩))]) (λ(st,out,dB,vt,vo)=>[yP gw t n vp vt vo dB,xo vt st,rW vo out]) (λ(st,_,_,_,_)=>st.length) (Yt,AC,JD,vt0,vo0) ⟨hC,h1,h2,h3⟩ ?_;clear h1 h2 h3 hC;rintro⟨st,out,dB,vt,vo⟩ ⟨hC,h1,h2,h3⟩;dsimp only at hC h1 h2 h3⊢
 cases st with
 | nil=>
  rw[S8]at hC;subst hC
  (repeat refine bZ ?_)
  refine dG ([yP gw t n vp vt vo dB,xo vt []]) (.calm 0 (.calm 1 (.calm 2 (.calm 3 (.calm 4 (.calm 5 (.calm 6 (.calm 7 (.calm 8 (.calm 9 (.calm 10 (.calm 11 (.calm 12 (.calm 13 (.calm 14 (.calm 15 (.calm 16 (.calm 17 (.calm 18 (.calm 19 (.calm 20 (.done)))))))))))))))))))))) (bY [0,1]) ?_
  repeat(first|(refine GN ?_;first|refine QW QP ?_|refine QW (aw (v:=vt) aI.ty I (aD (i:=0) I I)) ?_|refine QW (dW (i:=1) bM.eq I I) ?_|refine QW (eO (b:=aE) I I I) ?_|refine GX ?_)|refine GW ?_)
  try refine GA ?_
  exact cV I I λw hm=>hm.cg (S:=clS gw t n vp ([],out,dB,aB)) (vt,vo) trivial [0,1,2] alt I
 | cons d r=>
  simp only[dj]at h1;refine yx (i:=1) I (by simp) λg cap hv q1 q2=>?_;subst hv;simp only[dj]at*
  cases d with
  | sym x=>
   rw[S9]at hC;subst hC
   (repeat refine bZ ?_)
   refine dG ([yP gw t n vp (ak (ah ⟨g,0,aj⟩) (r.length+1) cap) vo dB,xo (ak (ah ⟨g,0,aj⟩) (r.length+1) cap) (.sym x::r)]) (.calm 0 (.calm 1 (.calm 2 (.calm 3 (.calm 4 (.calm 5 (.calm 6 (.calm 7 (.calm 8 (.calm 9 (.calm 10 (.calm 11 (.calm 12 (.calm 13 (.calm 14 (.calm 15 (.calm 16 (.calm 17 (.calm 18 (.calm 19 (.calm 20 (.done)))))))))))))))))))))) (bY [0,1]) ?_
   repeat(first|(refine GN ?_;first|refine QW QP ?_|refine QW (aw (v:=ak (ah ⟨g,0,aj⟩) (r.length+1) cap) aI.ty I (aD (i:=0) I I)) ?_|refine QW (aw (v:= .bool aE) aI.ty I (CI (i:=1) I 0 _ I)) ?_|refine QW (ey (r:=(r.length:Int)) I I J J J) ?_|refine QW (aR (j:=r.length) bM.eq aI.ty I I J) ?_|refine GX ?_)|refine GW ?_)
   try refine GA ?_
   exact cV I I λw hm=>hm.cg (S:=clS gw t n vp (.sym x::r,out,dB,aB)) (_,vo) trivial [0,1,2] alt I
  | close p=>
   (repeat refine bZ ?_)
   refine dG ([yP gw t n vp (ak (ah ⟨g,0,aj⟩) (r.length+1) cap) vo dB,xo (ak (ah ⟨g,0,aj⟩) (r.length+1) cap) (.close p::r)]) (.calm 0 (.calm 1 (.calm 2 (.calm 3 (.calm 4 (.calm 5 (.calm 6 (.calm 7 (.calm 8 (.calm 9 (.calm 10 (.calm 11 (.calm 12 (.calm 13 (.calm 14 (.calm 15 (.calm 16 (.calm 17 (.calm 18 (.calm 19 (.calm 20 (.done)))))))))))))))))))))) (bY [0,1]) ?_
   repeat(first|(refine GN ?_;first|refine QW QP ?_|refine QW (aw (v:=ak (ah ⟨g,0,aj⟩) (r.length+1) cap) aI.ty I (aD (i:=0) I I)) ?_|refine QW (aw (v:= .bool aB) aI.ty I (CI (i:=1) I 0 _ I)) ?_|refine QW (ey (r:=(r.length:Int)) I I J J J) ?_|refine QW (aR (j:=r.length) bM.eq aI.ty I I J) ?_|refine GX ?_)|refine GW ?_)
   try refine GA ?_
   refine bz [0,1] [2] alt I I (lz aF.en I I) (λw hm hb=>B6 gw t n vp _ vo (.close p) r dB w _ J hb) I I I ?_;intro zi _;refine zL ?_;dsimp only
   repeat(first|refine GA ?_|refine gV (Uu I (WH (.close p))) ?_)
   refine bz [1,0] [2] alt I I (xE aF.en I I I I) (λw hm hb=>B5 gw t n vp zi vo out dB 3 p w _ J J hb) I I I ?_;intro GQ _;refine zL ?_;dsimp only
   by_cases c:dB+1<=2000
   ·rw[S_ p r out c]at hC
    rw[decide_eq_true (show((dB+1:Nat):Int)<=2000 by omega)]
    try refine GA ?_
    refine dq [1,0,2] ?_;exact bQ (r,out++[(3,p)],dB+1,zi,GQ) ⟨hC,(by show r.length<=100000;omega),c,by simp[h3]⟩ (by show r.length<r.length+1;omega)
   rw[XS p r out c]at hC;subst hC;rw[decide_eq_false (show ¬((dB+1:Nat):Int)<=2000 by omega)]
   try refine GA ?_
   exact cV I I λw hm=>hm.cg (S:=clS gw t n vp (r,out++[(3,p)],dB+1,aE)) (zi,GQ) trivial [1,0,2] alt I
theorem LK(r:List TD)(d:TD):(r.reverse.flatMap xK)++xK d=(d::r).reverse.flatMap xK:=by simp
def stO(p:Nat)(r:List TD)(body:List bJ)(j:Nat):List TD:=(body.drop (body.length-j)).map .sym++ .close (p:Int)::r
theorem ajO(p:Nat)(r:List TD)(body:List bJ):stO p r body 0= .close (p:Int)::r:=by unfold stO;rw[Nat.sub_zero,wj];rfl
theorem afz(p:Nat)(r:List TD)(body:List bJ):stO p r body body.length=body.map .sym++ .close (p:Int)::r:=by unfold stO;rw[BK,B3]
theorem ac2(p:Nat)(r:List TD){body:List bJ}{k:Nat}(hk:k<body.length):stO p r body (body.length-k)= .sym body[k]::stO p r body (body.length-k-1):=by
 unfold stO;rw[show body.length-(body.length-k)=k by omega,show body.length-(body.length-k-1)=k+1 by omega,dL hk];rfl
def opS(gw:Nat)(t n:Int)(vp:Value)(st:List TD)(out:List bJ)(dB:Nat):Spec (Value×Value):=⟨λ_=>True,λ_=> .bool (decide (dB<=2000/\st.length<=60)),λx=>[yP gw t n vp x.1 x.2 dB,xo x.1 st,rW x.2 out]⟩
attribute [local irreducible] Instr.build in
theorem Ta(w0:World)(gw:Nat)(t n:Int)(vp:Value)(az:List aL.Prod)(hG:jO oB (λk=>k<w0.heap.size) w0 vp az)(hlen:az.length<=100000)(p:Nat)(hp:p<az.length)(h8:az[p].2.length<=8)(vt vo:Value)(d:TD)(r:List TD)(out:List bJ)(dB:Nat)(w:World)(B:bV)(h1:r.length<=100)(h2:dB<=2000)(h3:out.length=dB)(ho:ly w0 B)(hm:Mem B [yP gw t n vp vt vo dB,xo vt (d::r),rW vo out] w):
 Calls aC 166 #[aH (ah ⟨gw,0,aj⟩),ap av (p:Int)] w (dz (opS gw t n vp (opened az p r) (out++[(1,(p:Int))]) (dB+1)) B):=by
 obtain⟨bp,cp,rfl,MV,Cg,mQ⟩:=hG;unfold maxLen at Cg;obtain⟨b,off,rfl,_,hr⟩:=mQ J;obtain⟨bb,cb,y1,y2,y3⟩:=jp hr hp;have Vn:opened az (p:Int) r=az[p].2.map .sym++ .close (p:Int)::r:=by unfold opened a_;rw[de,cH,bL hp];rfl
 rw[Vn];clear Vn mQ hr;have pj:∀(L:List b_),At B L ⟨b,off+p*2+1,aj⟩ (.slice bb az[p].2.length cb):=λL=>eY ho (y1 1 _ I);have tU:=y3.flat alt;generalize az[p].2=body at*;clear y1 y2 y3;obtain⟨b2,cb2,he,hb4,Yi,Yo⟩:=tU;simp only[kq,true_and]at he;obtain⟨rfl,rfl⟩:=he;refine dT hm (args:=[aH (ah ⟨gw,0,aj⟩),ap av (p:Int)]) (n:=61) Tryz.func166 I I I ?_;clear hm
 try refine GA ?_
 refine bz [0,1] [2] alt I I (lz aF.en I I) (λw hm hb=>B6 gw t n _ vt vo d r dB w _ J hb) I I I ?_;intro vt1 _;refine zL ?_;dsimp only;refine aU (i:=2) I λjm mz=>?_
 repeat(first|refine GA ?_|refine gV (aw aI.ty I (aD (i:=1) I I)) ?_|refine gV (aZ I (WG _)) ?_)
 refine iU (i:=2) I I I I I I I (λz h=>by cases h;rfl) J J I λz' Vo=>?_;refine zL ?_;refine aU (i:=2) I λjm mz=>?_
 try refine GA ?_
 refine bD (i:=1) I I I jm mz I ?_;rw[show(Nr t n (ak (ah ⟨b,off,aj⟩) az.length cp) vt1 vo dB).setIfInBounds (0+3) Vo=Nr t n (ak (ah ⟨b,off,aj⟩) az.length cp) Vo vo dB from I];refine zL ?_
 repeat(first|refine GC ?_|refine gV (aw (v:=ak (ah ⟨b,off,aj⟩) az.length cp) aI.ty I (aD (i:=1) I I)) ?_|refine gV (aR bM.eq aI.ty I I hp) ?_|refine gV (aw aI.ty I (pj _)) ?_|refine gV (ey (r:=(body.length:Int)-1) I I J J I) ?_|refine GB ?_)
 rw[LK r (.close (p:Int))];refine kO (ι:=Nat×Value) (λ(j,_)=>j<=body.length) (λ(j,_)=>[(0,aH (ah ⟨gw,0,aj⟩)),(1,ap av (p:Int)),(5,ak bb body.length cb),(6,ap av (((body.length-j:Nat):Int)-1))])
  (λ(j,vt)=>[rW vo out,yP gw t n (ak (ah ⟨b,off,aj⟩) az.length cp) vt vo dB,bm 215 4 vt (r.length+1+j) ((stO p r body j).reverse.flatMap xK)]) (λ(j,_)=>body.length-j) (0,Vo) (bC _) (by repeat' (first|exact cZ|refine cP I ?_)) (by dsimp only;rw[ajO]) ?_
 rintro⟨j,Vp⟩ hj;dsimp only at hj⊢
 by_cases c:j<body.length
 ·obtain⟨b4,al0,rfl,hr4⟩:=Yo J
  have hk:body.length-1-j<body.length:=by omega
  have C2:=λL=>pI (W:=B) (L:=L) (f:=dr) (c:=2) (λ_=>rfl) (λq x hq=>eY ho (hr4 q x hq)) hk;have hst:=ac2 p r hk;rw[show body.length-(body.length-1-j)=j+1 by omega,Nat.add_sub_cancel]at hst;rw[show(((body.length-j:Nat):Int)-1)=((body.length-1-j:Nat):Int)by omega];generalize body[body.length-1-j]=x at*;obtain⟨xq,xm⟩:=x;refine TV (i:=2) I λjm mz=>?_
  repeat(first|refine GC ?_|refine gV (fX (b:=aB) I I (decide_eq_true J)) ?_|refine GB ?_)
  refine dG ([]) (.calm 0 (.calm 1 (.calm 2 (.calm 3 (.calm 5 (.calm 6 (.calm 7 (.calm 8 (.calm 9 (.two 4 (.one 10 (.one 11 (.calm 12 (.calm 13 (.one 14 (.done)))))) 10 (.one 4 (.one 11 (.calm 12 (.calm 13 (.one 14 (.done)))))))))))))))) (bY []) ?_
  repeat(first|refine GW ?_|(refine GN ?_;first|refine QW (aR (j:=body.length-1-j) bM.eq aI.ty I I hk) ?_|refine QW (aW aI.ty I I (C2 _)) ?_|refine QW (aZ I (IT (xq,xm))) ?_))
  refine e_ I I ?_ ?_
  ·refine dy (aw (v:=Vp) aI.ty I (aD (i:=1) I I)) I I I (aO (bY []) ?_)
   refine aM I (fz (cs:=(xK (.sym (xq,xm))).toArray) [Mc (.sym (xq,xm))] I I I (by intro v hv;simp at hv;subst hv;rfl) I I I λg46=>(aO (bY []) ?_));refine aM I (eM (i:=2) (k:=1) (ys:=xK (.sym (xq,xm))) I (kT (i:=3) I (λj u h=>by simpa using h) (aX 1) alt) I I I (λu hu=>Kz [.sym (xq,xm)] u (by simpa using hu)) J J I λv'=>(aO (bY []) ?_))
   try refine GW ?_
   refine aM I (aU (i:=2) I λjm mz=>bD (i:=1) I I I jm mz I (aO (bY []) ?_));rw[show(Nr t n (ak (ah ⟨b,off,aj⟩) az.length cp) Vp vo dB).setIfInBounds (0+3) v'=Nr t n (ak (ah ⟨b,off,aj⟩) az.length cp) v' vo dB from I]
   try refine GW ?_
   repeat(first|refine GC ?_|refine gV (ey (r:=((body.length-(j+1):Nat):Int)-1) I I J J J) ?_|refine GB ?_)
   refine dq [0,1,2] ?_;exact bQ (j+1,v') (by show j+1<=body.length;omega) (by show body.length-(j+1)<body.length-j;omega) (hl:=by dsimp only;rw[hst,<-LK];rfl)
  refine fz (cs:=(xK (.sym (xq,xm))).toArray) [Mc (.sym (xq,xm))] I I I (by intro v hv;simp at hv;subst hv;rfl) I I I λg46=>(aO (bY []) ?_);refine aM I (dy (aw (v:=Vp) aI.ty I (aD (i:=1) I I)) I I I (aO (bY []) ?_));refine aM I (eM (i:=2) (k:=1) (ys:=xK (.sym (xq,xm))) I (kT (i:=3) I (λj u h=>by simpa using h) (aX 1) alt) I I I (λu hu=>Kz [.sym (xq,xm)] u (by simpa using hu)) J J I λv'=>(aO (bY []) ?_))
  try refine GW ?_
  refine aM I (aU (i:=2) I λjm mz=>bD (i:=1) I I I jm mz I (aO (bY []) ?_));rw[show(Nr t n (ak (ah ⟨b,off,aj⟩) az.length cp) Vp vo dB).setIfInBounds (0+3) v'=Nr t n (ak (ah ⟨b,off,aj⟩) az.length cp) v' vo dB from I]
  try refine GW ?_
  repeat(first|refine GC ?_|refine gV (ey (r:=((body.length-(j+1):Nat):Int)-1) I I J J J) ?_|refine GB ?_)
  refine dq [0,1,2] ?_;exact bQ (j+1,v') (by show j+1<=body.length;omega) (by show body.length-(j+1)<body.length-j;omega) (hl:=by dsimp only;rw[hst,<-LK];rfl)
 ·obtain rfl:j=body.length:=by omega
  rw[afz];have Gj:(body.map TD.sym++ .close (p:Int)::r).length=r.length+1+body.length:=by simp;omega
  repeat(first|refine GC ?_|refine gV (fX (b:=aE) I I (decide_eq_false J)) ?_|refine GB ?_)
  refine bz [1,0] [2] alt I I (xE aF.en I I I I) (λw hm hb=>B5 gw t n _ Vp vo out dB 1 (p:Int) w _ J J hb) I I I ?_;intro GQ _;refine zL ?_;dsimp only;have fin:∀(x:Bool),x=decide (dB+1<=2000/\(body.map TD.sym++ .close (p:Int)::r).length<=60)->(Value.bool x)=(opS gw t n (ak (ah ⟨b,off,aj⟩) az.length cp) (body.map .sym++ .close (p:Int)::r) (out++[(1,(p:Int))]) (dB+1)).val (Vp,GQ):=λx h=>by rw[h];rfl
  rw[Gj]at fin
  by_cases c2:dB+1<=2000
  ·rw[decide_eq_true (show((dB+1:Nat):Int)<=2000 by omega)]
   by_cases c3:r.length+1+body.length<=60
   ·repeat(first|refine GC ?_|refine gV (aw (v:=Vp) aI.ty I (aD (i:=1) I I)) ?_|refine gV (dW (i:=0) bM.eq I I) ?_|refine gV (Ba (b:=aB) I I (decide_eq_true J)) ?_|refine GB ?_)
    refine cV I I λw hm=>?_;rw[fin aB (by simp[c2,c3])];exact hm.cg (S:=opS gw t n (ak (ah ⟨b,off,aj⟩) az.length cp) (body.map .sym++ .close (p:Int)::r) (out++[(1,(p:Int))]) (dB+1)) (Vp,GQ) trivial [1,0,2] alt (by rw[<-Gj];rfl)
   repeat(first|refine GC ?_|refine gV (aw (v:=Vp) aI.ty I (aD (i:=1) I I)) ?_|refine gV (dW (i:=0) bM.eq I I) ?_|refine gV (Ba (b:=aE) I I (decide_eq_false J)) ?_|refine GB ?_)
   refine cV I I λw hm=>?_;rw[fin aE (by simp[c3])];exact hm.cg (S:=opS gw t n (ak (ah ⟨b,off,aj⟩) az.length cp) (body.map .sym++ .close (p:Int)::r) (out++[(1,(p:Int))]) (dB+1)) (Vp,GQ) trivial [1,0,2] alt (by rw[<-Gj];rfl)
  rw[decide_eq_false (show ¬((dB+1:Nat):Int)<=2000 by omega)]
  try refine GA ?_
  refine cV I I λw hm=>?_;rw[fin aE (by simp[c2])];exact hm.cg (S:=opS gw t n (ak (ah ⟨b,off,aj⟩) az.length cp) (body.map .sym++ .close (p:Int)::r) (out++[(1,(p:Int))]) (dB+1)) (Vp,GQ) trivial [1,0,2] alt (by rw[<-Gj];rfl)
theorem Vq(a:gI.TD):(xK a).length=4:=rfl
theorem za(v:Value)(l:List gI.TD)(w:World)(hs:Sl w v l.length (l.flatMap xK))(uV:FuncId)(first cp:Array Value)(p:gI.TD->Bool)(Kl:Enters aC uV)
 (hp:∀a∈l,∀w',Gr w w'->Calls aC uV (first++#[(aP (xK a).toArray)]++cp) w' (cJ (ret (.bool (p a))) w')):
 Calls aC 190 #[v,.func (.func uV) first cp] w (cJ (ret (ap av (tZ p l))) w):=by
 obtain⟨base,cap,rfl,sM,rR,gu⟩:=hs;unfold maxLen at rR;refine enter (args:=[ak base l.length cap,.func (.func uV) first cp]) (n:=19) Tryz.func190 I I I ?_
 refine GA ?_
 refine dZ (ι:=Nat) (λk=>k<=l.length/\∀j (hj:j<l.length),j<k->p l[j]=aE) (λk=>[(0,ak base l.length cap),(1,.func (.func uV) first cp),(7,ap av l.length),(8,ap av (k:Int))]) (λ_=>[]) (λk=>l.length-k) 0 ⟨by omega,λj hj h=>by omega⟩ ?_;rintro k ⟨h1,h2⟩
 by_cases c2:k<l.length
 ·obtain⟨b,off,rfl,hr⟩:=gu J
  have eC:=gK (L:=([]:List b_)) Vq hr c2;have lI:=hp l[k] (bX c2)
  by_cases c3:p l[k]=aB
  ·rw[wM c2 c3 h2]
   rw[c3]at lI
   repeat(first|refine GA ?_|refine gV (aR bM.eq aI.ty I I c2) ?_|refine gV (aW aI.ty I I eC) ?_)
   refine aT (sD Kl I I) (λw hm=>lI w hm.below) I I I ?_;intro _ _
   refine GA ?_
   exact dQ
  have V6:p l[k]=false:=by simp_all
  rw[V6]at lI
  repeat(first|refine GA ?_|refine gV (aR bM.eq aI.ty I I c2) ?_|refine gV (aW aI.ty I I eC) ?_)
  refine aT (sD Kl I I) (λw hm=>lI w hm.below) I I I ?_;intro _ _
  refine GA ?_
  exact bQ (k+1) ⟨by omega,λj hj h=>if e:j<k then h2 j hj e else(by grind)⟩ J
 ·rw[wN λj hj=>h2 j hj J]
  refine GA ?_
  exact dQ
theorem ud(v:Value)(l:List gI.TD)(w:World)(hs:Sl w v l.length (l.flatMap xK))(uV:FuncId)(first cp:Array Value)(p:gI.TD->Bool)(Kl:Enters aC uV)
 (hp:∀a∈l,∀w',Gr w w'->Calls aC uV (first++#[(aP (xK a).toArray)]++cp) w' (cJ (ret (.bool (p a))) w')):
 Calls aC 162 #[v,.func (.func uV) first cp] w (cJ (ret (.bool (l.any p))) w):=by
 refine enter (args:=[v,.func (.func uV) first cp]) (n:=9) Tryz.func162 I I I ?_;have hh:=λw' (hg:Gr w w')=>za v l w' (hs.gr hg) uV first cp p Kl λa ha Pz zh=>hp a ha Pz (hg.trans zh);have hr:=sJ p l;rw[<-zy p l];generalize tZ p l=r at*
 refine GA ?_
 refine aT (gh aF.en I I I) (λw hm=>hh _ hm.below) I I I ?_;intro _ _
 repeat(first|refine GC ?_|refine gV (fX I I I) ?_|refine GB ?_)
 exact dQ
theorem GR(v:Value)(l:List gI.TD)(w:World)(hs:Sl w v l.length (l.flatMap xK))(hl:l.length*40<=140737488355328):
 Calls aC 165 #[v] w (cJ (df 215 4 l.length (l.flatMap xK) id) w):=by
 obtain⟨base,cap,rfl,sM,rR,gu⟩:=hs;unfold maxLen at rR;refine enter (args:=[ak base l.length cap]) (n:=8) Tryz.func165 I I I ?_;have ua:∀w',Gr w w'->Sl w' (ak base l.length cap) l.length (l.flatMap xK):=λw' hg=>Sl.gr ⟨base,cap,rfl,sM,rR,gu⟩ hg
 cases base with
 | none=>
  repeat(first|refine GC ?_|refine gV (rL bM.eq I I I) ?_|refine GB ?_)
  have h0:l=[]:=by
   simp_all
  subst h0;exact eI 215 4<|cV I I λw hm=>hm.meets (S:=df 215 4 0 [] id) _ trivial [0] alt I
 |some p=>
  repeat(first|refine GC ?_|refine gV (rL bM.eq I I I) ?_|refine GB ?_)
  refine Kb I λg=>?_
  refine GA ?_
  refine eM (i:=0) I (λw' hm=>ua w' hm.below) I I (nD Vq l) (Kz l) J J I λv'=>?_;rw[fD]
  refine GA ?_
  refine cV I I λw hm=>?_;exact hm.meets (S:=df 215 4 l.length (l.flatMap xK) id) v' trivial [0] alt (by simp[df])
theorem Tb(w:World):(da 123 (#[]:Array (Nat×Value))).run aC w= .ok (aP (dr (0,0)).toArray) w:=by
 unfold dr;go_simp
set_option maxRecDepth 100000 in
theorem HZ(g:dD)(b:Option Addr)(cp:Nat)(d:TD)(w:World)(hd:pX g d):Calls aC 164 #[du g.aQ g.bB (ak b g.az.length cp),Mc d] w (cJ (ret (.bool aB)) w):=by
 cases d with
 | close p=>
  obtain⟨h1,h2⟩:=hd;refine enter (args:=[du g.aQ g.bB (ak b g.az.length cp),Mc (.close p)]) (n:=65) Tryz.func164 I I I<|bZ (bx (bH I I I λg0=>bH I I I λg1=>?_))
  repeat(first|refine GC ?_|refine gV (aw (v:= .bool aB) aI.ty I (aD (i:=1) I I)) ?_|refine gV (aw (v:=ap av p) aI.ty I (aD (i:=1) I I)) ?_|refine gV (aw aI.ty I (aD (i:=0) I I)) ?_|refine gV (aW (cs:=dr (0,0)) aI.ty I I (λj v hj=>aD (i:=1) I (by match j,hj with|0,h=>exact h|1,h=>exact h))) ?_|refine gV (aZ I (Tb)) ?_|refine gV (Ek (b:=aB) I I (by kernel_rfl) (λw=>by rw[aay];rfl)) ?_|refine GB ?_)
  exact dQ
 | sym x=>
  obtain⟨k,m⟩:=x;have hd:right g.aQ g.bB (k,m)=true:=hd;unfold right at hd
  by_cases c1:k=1
  ·subst c1
   rw[if_pos I]at hd;simp only[eE,decide_eq_true_eq]at hd;refine enter (args:=[du g.aQ g.bB (ak b g.az.length cp),Mc (.sym (1,m))]) (n:=65) Tryz.func164 I I I<|bZ (bx (bH I I I λg0=>bH I I I λg1=>?_))
   repeat(first|refine GA ?_|refine gV (aw (v:= .bool aE) aI.ty I (aD (i:=1) I I)) ?_|refine gV (aw (v:=ap av 1) aI.ty I (aD (i:=1) I I)) ?_|refine gV (aw (v:=ap av 0) aI.ty I (aD (i:=1) I I)) ?_|refine gV (aw (v:=ap av m) aI.ty I (aD (i:=1) I I)) ?_|refine gV (aw aI.ty I (aD (i:=0) I I)) ?_)
   exact dQ
  rw[if_neg c1]at hd
  by_cases c2:k=2
  ·subst c2
   rw[if_pos I]at hd;simp only[eE,decide_eq_true_eq]at hd;refine enter (args:=[du g.aQ g.bB (ak b g.az.length cp),Mc (.sym (2,m))]) (n:=65) Tryz.func164 I I I<|bZ (bx (bH I I I λg0=>bH I I I λg1=>?_))
   repeat(first|refine GA ?_|refine gV (aw (v:= .bool aE) aI.ty I (aD (i:=1) I I)) ?_|refine gV (aw (v:=ap av 2) aI.ty I (aD (i:=1) I I)) ?_|refine gV (aw (v:=ap av 0) aI.ty I (aD (i:=1) I I)) ?_|refine gV (aw (v:=ap av m) aI.ty I (aD (i:=1) I I)) ?_|refine gV (aw aI.ty I (aD (i:=0) I I)) ?_)
   exact dQ
  simp_all
theorem GS(g:dD)(b:Option Addr)(cp:Nat)(d:TD)(gg:Nat)(w:World)(hd:pX g d)(hg:w.heap[gg]?=ah (.cells (du g.aQ g.bB (ak b g.az.length cp)).cells 33 (0,0))):
 Calls aC 163 #[Mc d,aH (ah ⟨gg,0,aj⟩)] w (cJ (ret (.bool aE)) w):=by
 have hcell:∀(L:List b_) (j:Nat) (v:Value),([ap av g.aQ,ap av g.bB,ak b g.az.length cp]:List Value)[j]?=ah v->At w L ⟨gg,0+j,aj⟩ v:=λL j v hj=>jL (by
  rw[cell_of_row w gg (0+j) _ _ _ hg,cU];show(#[ap av g.aQ,ap av g.bB,ak b g.az.length cp]:Array Value)[j]?=ah v
  simp_all)
 have hr:=HZ g b cp d;refine enter (args:=[Mc d,aH (ah ⟨gg,0,aj⟩)]) (n:=8) Tryz.func163 I I I<|bZ (bx (bH I I I λg0=>?_))
 repeat(first|refine GL ?_|refine gV (aW aI.ty I I (hcell _)) ?_)
 refine aT (gh aF.en I I I) (λw hm=>hr w hd) I I I ?_;intro _ _
 refine GA ?_
 exact dQ
abbrev TdR(w:World)(vt:Value)(st:List TD):Prop:=Sl w vt st.length (st.reverse.flatMap xK)
theorem sm(v vr vt:Value)(g:dD)(ll:List (List Int))(st:List TD)(seen col:Int)(w:World)(h:jS (λk=>k<w.heap.size) w v g)(hr:GK w vr ll)(ht:TdR w vt st)(h0:LF g ll=0)(hs:∀d∈st,pX g d)(hl:st.length<=60)(h1:0<=seen)(h2:seen<=1099511627776)(h3:0<=col)(h4:col<=g.aQ):
 Calls aC 145 #[v,vr,AU vt seen 0 aE,ap av col] w (cJ (ret (ap av 0)) w):=by
 have fS:=λw' (hg:Gr w w')=>xU v vr g ll w' (h.gr hg) (hr.gr hg);rw[h0]at fS;obtain⟨vp,rfl,hp,_⟩:=h;obtain⟨bp,cp,rfl,_⟩:=hp;have hco:=λw' (hg:Gr w w') gg (hb:w'.heap[gg]?=ah (.cells (du g.aQ g.bB (ak bp g.az.length cp)).cells 33 (0,0)))=>ud vt st.reverse w' (by rw[Ly];exact ht.gr hg) 163 #[] #[aH (ah ⟨gg,0,aj⟩)] (λ_=>aE) aF.en (λa ha Pz zh=>GS g bp cp a gg Pz (hs a (acJ.1 ha)) (by rw[zh.block gg (lL.1 hb).1];exact hb));have XO:st.reverse.any (λ_=>aE)=false:=by simp
 rw[XO]at hco;obtain⟨bt,ct,rfl,_⟩:=ht;refine enter (args:=[du g.aQ g.bB (ak bp g.az.length cp),vr,AU (ak bt st.length ct) seen 0 aE,ap av col]) (n:=54) Tryz.func145 I I I<|bZ (bx (bH I I I λg0=>bH I I I λg1=>?_))
 refine GM ?_
 refine aT (gh aF.en I I I) (λw hm=>fS _ hm.below) I I I ?_;intro _ _;refine zL ?_
 repeat(first|refine GL ?_|refine gV (lA I I) ?_)
 refine aT (gh aF.en I I I) (λw hm=>hco _ hm.below _ (hm.get (i:=0) I)) I I I ?_;intro _ _;refine zL ?_
 refine GM ?_
 exact dQ
def kF(ll:List (List Int))(col:Nat)(n:Int):Int:=(ll.getD n.toNat []).getD col (-1)
structure OX(g:dD)(ll:List (List Int))(T N:Nat):Prop where
 aQ:g.aQ=T
 bB:g.bB=N
 len:ll.length=N
 row:∀r∈ll,r.length=T+1
 nx:∀col,Rg g.az (kF ll col)
theorem ac3{l:List aL.Prod}{nx:Int->Int}{f:Nat}{st:List TD}{out:List bJ}{a:Nat}(h:(bI st out a).2.2.2=aE):fO l nx (f+1) st out a=((bI st out a).1,(bI st out a).2.1,(bI st out a).2.2.1,14):=by
 rw[fO,if_pos h]
theorem ac4{l:List aL.Prod}{nx:Int->Int}{f:Nat}{st:List TD}{out:List bJ}{a:Nat}(h:(bI st out a).2.2.2=aB)(h2:(bI st out a).1=[]):fO l nx (f+1) st out a=([],(bI st out a).2.1,(bI st out a).2.2.1,0):=by
 simp_all[fO]
theorem ac5{l:List aL.Prod}{nx:Int->Int}{f:Nat}{st:List TD}{out:List bJ}{a:Nat}{x:bJ}{r:List TD}(h:(bI st out a).2.2.2=aB)(h2:(bI st out a).1= .sym x::r):
 fO l nx (f+1) st out a=if x.1=1 then(.sym x::r,(bI st out a).2.1,(bI st out a).2.2.1,0)else if nx x.2<0 then(.sym x::r,(bI st out a).2.1,(bI st out a).2.2.1,13)
  else if(bI st out a).2.2.1+1<=2000/\(opened l (nx x.2) r).length<=60 then fO l nx f (opened l (nx x.2) r) ((bI st out a).2.1++[(1,nx x.2)]) ((bI st out a).2.2.1+1)
  else(opened l (nx x.2) r,(bI st out a).2.1++[(1,nx x.2)],(bI st out a).2.2.1+1,14):=by
 simp_all[fO]
def dwS(gw:Nat)(t n:Int)(vp:Value)(R:List TD×List bJ×Nat×Int):Spec (Value×Value):=⟨λ_=>True,λ_=>ap av R.2.2.2,λx=>[yP gw t n vp x.1 x.2 R.2.2.1,xo x.1 R.1,rW x.2 R.2.1]⟩
theorem CJ(w0:World)(gw:Nat)(t n:Int)(vp vr:Value)(g:dD)(ll:List (List Int))(T N col:Nat)(hG:jO oB (λk=>k<w0.heap.size) w0 vp g.az)(hR:GK w0 vr ll)(hg:cI g=0)(hT:OX g ll T N)(Xg:col<=T)
 (vt0 vo0:Value) (Yt:List TD) (w:World) (B:bV) (TO:∀d∈Yt,pX g d) (hl0:Yt.length<=60) (ho:ly w0 B) (hm:Mem B [yP gw t n vp vt0 vo0 0,xo vt0 Yt,rW vo0 []] w):
 Calls aC 148 #[aH (ah ⟨gw,0,aj⟩),vr,ap av (col:Int)] w (dz (dwS gw t n vp (fO g.az (kF ll col) 2001 Yt [] 0)) B):=by
 obtain⟨a1,a2,a3,a4,a5,a6⟩:=cz hg;have Vn:=λp hp vt vo d r out dB w B h1 h2 h3 ho hm=>Ta w0 gw t n vp g.az hG J p hp (a6 _ (bX hp)).1 vt vo d r out dB w B h1 h2 h3 ho hm;have w7:=hT.nx col;obtain⟨br,cr,rfl,Wg,qE,xG⟩:=hR;unfold maxLen at qE;refine dT hm (args:=[pV gw,ak br ll.length cr,iV col]) (n:=60) Tryz.func148 I I I ?_;clear hm
 refine GA ?_
 generalize hD:fO g.az (kF ll col) 2001 Yt [] 0=D;refine dZ (ι:=Nat×List TD×List bJ×Nat×Value×Value) (λ(f,st,out,dB,_,_)=>fO g.az (kF ll col) f st out dB=D/\2001<=f+dB/\st.length<=60/\dB<=2000/\out.length=dB/\∀d∈st,pX g d) (λ_=>[(0,pV gw),(1,ak br ll.length cr),(2,iV col)])
  (λ(_,st,out,dB,vt,vo)=>[yP gw t n vp vt vo dB,xo vt st,rW vo out]) (λ(f,_,_,_,_,_)=>f) (2001,Yt,[],0,vt0,vo0) ⟨hD,by omega,hl0,by omega,rfl,TO⟩ ?_
 clear hD TO hl0;rintro⟨f,st,out,dB,vt,vo⟩ ⟨hD,h1,h2,h3,h4,h5⟩;dsimp only at hD h1 h2 h3 h4 h5⊢;obtain⟨f,rfl⟩:∃f',f=f'+1:=⟨f-1,by omega⟩
 refine GA ?_
 refine CB [0,1,2] [] (λw hm hb=>sk gw t n vp vt vo st out dB w _ J h3 h4 hb) ?_;obtain⟨z1,z2,z3,z4⟩:=@s8 st out dB;have z5:=rU (out:=out) (a:=dB) h5;rintro⟨vt1,vo1⟩ _
 conv=>arg 8;simp only[zJ,df,ret,id_eq,clS,fD]
 have hno:=@ac3 g.az (kF ll col) f st out dB;have afq:=@ac4 g.az (kF ll col) f st out dB;have ajP:=λx r=>@ac5 g.az (kF ll col) f st out dB x r;have ajQ:=@yO st out dB;generalize bI st out dB=C at*;obtain⟨st1,fK,a1',ok⟩:=C;dsimp only at*
 cases ok with
 | false=>
  rw[hno I]at hD;subst hD
  refine GA ?_
  exact RB (vt1,vo1) trivial [0,1,2]
 | true=>
  have zz3:=z3 I h3;clear z3;rcases ajQ rfl with rfl|⟨x,r,rfl⟩
  ·rw[afq I I]at hD
   subst hD
   refine GA ?_
   refine dG ([yP gw t n vp vt1 vo1 a1',xo vt1 []]) (oC [0,1,2,3,4,5,6,7,8,9,10,11,12,13,14,15,16,17,18,19,20,21,22] .done) (bY [0,1]) ?_
   repeat(first|(refine GN ?_;first|refine QW QP ?_|refine QW (aw (v:=vt1) aI.ty I (aD (i:=0) I I)) ?_|refine QW (dW (i:=1) bM.eq I I) ?_|refine QW (dc (b:=aB) I I I) ?_|refine GX ?_)|refine GW ?_)
   refine GA ?_
   exact RB (vt1,vo1) trivial [0,1,2]
  have Jp:=ajP x r I I;simp only[dj]at z1;have z6:right g.aQ g.bB x=true:=z5 _ (gX ..);have z7:=λd hd=>z5 d (lU _ hd);clear hno afq ajQ ajP
  refine GA ?_
  refine yx (i:=1) I (by simp) λgt ct hv q1 q2=>?_;subst hv;simp only[dj]at*;obtain⟨k,m⟩:=x
  by_cases c1:k=1
  ·subst c1
   rw[if_pos I]at Jp;rw[Jp]at hD;subst hD;refine dG ([yP gw t n vp (sV gt (r.length+1) ct) vo1 a1',xo (sV gt (r.length+1) ct) (.sym (1,m)::r)]) (oC [0,1,2,3,4,5,6,7,8,9,10,11,12,13,14,15,16,17,18,19,20,21,22] .done) (bY [0,1]) ?_
   repeat(first|(refine GN ?_;first|refine QW QP ?_|refine QW (aw (v:=sV gt (r.length+1) ct) aI.ty I (aD (i:=0) I I)) ?_|refine QW (ey (r:=(r.length:Int)) I I J J J) ?_|refine QW (aR (j:=r.length) bM.eq aI.ty I I J) ?_|refine QW (aw (v:=iV 1) aI.ty I (CI (i:=1) I 2 _ I)) ?_|refine QW (dc (b:=aE) I I (decide_eq_false J)) ?_|refine QW (dc (b:=aB) I I I) ?_|refine GX ?_)|refine GW ?_)
   refine GA ?_
   exact RB (_,vo1) trivial [0,1,2]
  rw[if_neg c1]at Jp;unfold right at z6;dsimp only at z6;rw[if_neg c1]at z6
  by_cases c2:k=2
  ·subst c2
   rw[if_pos I]at z6;simp only[eE,decide_eq_true_eq]at z6;obtain⟨q,rfl⟩:∃q:Nat,m=q:=⟨m.toNat,by omega⟩;have hq:q<ll.length:=by rw[hT.len];have:=hT.bB;omega
   obtain⟨b,off,rfl,_,gu⟩:=xG J;obtain⟨vi,y1,y2⟩:=Vj gu hq;have IY:=hT.row _ (bX hq);have ajR:kF ll col (q:Int)=ll[q].getD col (-1):=by unfold kF;rw[de,cH (l:=ll),bL hq];rfl
   have mP:=w7 (q:Int);rw[ajR]at mP;dsimp only at Jp;rw[ajR]at Jp;generalize ll[q]=row at*;obtain⟨bi,ci,rfl,w1,w2,w3⟩:=y2;obtain⟨b3,HD,rfl,OY⟩:=w3 J;have hc:row[col]?=ah (row.getD col (-1)):=by grind
   have pj:∀L,At B L ⟨b,off+q,aj⟩ (sW b3 HD row.length ci):=λL=>eY ho y1;have ub:∀L,At B L ⟨b3,HD+col,aj⟩ (iV (row.getD col (-1))):=λL=>eY ho (OY col _ (by grind));clear gu y1 OY w3 xG;generalize row.getD col (-1)=p at*;refine dG ([yP gw t n vp (sV gt (r.length+1) ct) vo1 a1',xo (sV gt (r.length+1) ct) (.sym (2,(q:Int))::r)]) (oC [0,1,2,3,4,5,6,7,8,9,10,11,12,13,14,15,16,17,18,19,20,21,22] .done) (bY [0,1]) ?_
   repeat(first|(refine GN ?_;first|refine QW QP ?_|refine QW (aw (v:=sV gt (r.length+1) ct) aI.ty I (aD (i:=0) I I)) ?_|refine QW (ey (r:=(r.length:Int)) I I J J J) ?_|refine QW (aR (j:=r.length) bM.eq aI.ty I I J) ?_|refine QW (aw (v:=iV 2) aI.ty I (CI (i:=1) I 2 _ I)) ?_|refine QW (dc (b:=aE) I I (decide_eq_false J)) ?_|refine GX ?_)|refine GW ?_)
   refine GA ?_
   refine dG ([yP gw t n vp (sV gt (r.length+1) ct) vo1 a1',xo (sV gt (r.length+1) ct) (.sym (2,(q:Int))::r)]) (oC [0,1,2,3,4,5,6,7,8,9,10,11,12,13,14,15,16,17,18,19,20] .done) (bY [0,1]) ?_
   repeat(first|(refine GN ?_;first|refine QW QP ?_|refine QW (aw (v:=sV gt (r.length+1) ct) aI.ty I (aD (i:=0) I I)) ?_|refine QW (ey (r:=(r.length:Int)) I I J J J) ?_|refine QW (aR (j:=r.length) bM.eq aI.ty I I J) ?_|refine QW (aw (v:=iV q) aI.ty I (CI (i:=1) I 3 _ I)) ?_|refine QW (bO (j:=q) bM.eq aI.ty I I hq) ?_|refine QW (aw aI.ty I (pj _)) ?_|refine QW (bO (j:=col) bM.eq aI.ty I I J) ?_|refine QW (aw aI.ty I (ub _)) ?_|refine GX ?_)|refine GW ?_)
   by_cases c3:p<0
   ·rw[if_pos c3]at Jp
    rw[Jp]at hD;subst hD
    refine GA ?_
    exact RB (_,vo1) trivial [0,1,2]
   rw[if_neg c3]at Jp;obtain⟨pn,rfl⟩:∃pn:Nat,p=pn:=⟨p.toNat,by omega⟩;have hpn:pn<g.az.length:=by omega
   have hop:=Vn pn hpn;have hoo:=BA hg (p:=(pn:Int)) J J z7
   refine GA ?_
   refine bz [0,1,2] [] alt I I (gh aF.en I I I) (λw hm hb=>hop _ vo1 (.sym (2,(q:Int))) r fK a1' w _ J zz3 J (ho.on hm λo h=>qh h) hb) I I I ?_;rintro⟨Vo,Yu⟩ _
   conv=>arg 8;simp only[zJ,df,ret,id_eq,opS,fD]
   conv=>arg 7;simp only[opS]
   have hlo:(opened g.az (pn:Int) r).length=(opened g.az (pn:Int) r).length:=rfl;generalize ahr:opened g.az (pn:Int) r=st2 at*
   by_cases c4:a1'+1<=2000/\st2.length<=60
   ·rw[if_pos c4]at Jp
    rw[Jp]at hD;rw[decide_eq_true c4]
    refine GA ?_
    refine dq [0,1,2] ?_;exact ER (f,st2,fK++[(1,(pn:Int))],a1'+1,Vo,Yu) ⟨hD,(by grind),c4.2,c4.1,(by grind),hoo⟩
   rw[if_neg c4]at Jp;rw[Jp]at hD;subst hD;rw[decide_eq_false c4]
   refine GA ?_
   exact RB (Vo,Yu) trivial [0,1,2]
  simp_all
theorem XT(w:World):(da 123 #[(0,ap av 2)]).run aC w= .ok (aP (dr (2,0)).toArray) w:=by
 unfold dr;go_simp
theorem XU(g:Nat)(w:World):(da 134 #[(0,ak (ah ⟨g,0,aj⟩) 1 1)]).run aC w= .ok (AU (ak (ah ⟨g,0,aj⟩) 1 1) 0 0 aE) w:=by
 unfold AU;go_simp
def DO:Spec Value:=⟨λ_=>True,λvt=>AU vt 0 0 aE,λvt=>[xo vt [.sym (2,0)]]⟩
set_option maxRecDepth 100000 in
theorem B7(w:World):Calls aC 47 #[] w (cJ DO w):=by
 refine enter (args:=[]) (n:=5) Tryz.func47 I I I ?_;refine bZ (bx (aY I λg2=>?_));refine zL ?_
 repeat(first|refine QZ ?_|refine QV (aZ I XT) ?_|refine QV (aZ I (IT (2,0))) ?_)
 refine fz (cs:=(xK (.sym (2,0))).toArray) [Mc (.sym (2,0))] I I I (by intro v hv;simp at hv;subst hv;rfl) I I I λg3=>?_;refine zL ?_
 repeat(first|refine QZ ?_|refine QV (aZ I (XU _)) ?_)
 refine fR 0 (cs':=#[ak (ah ⟨g3,0,aj⟩) 1 1,ap av 0,ap av 0,.bool aE]) ?_;refine zL ?_;refine zt (i:=1) 4 I I J ?_;refine zL ?_
 try refine GA ?_
 exact gT (i:=0) I I I I λw hm=>hm.meets (S:=DO) (ak (ah ⟨g3,0,aj⟩) 1 1) trivial [1] alt I
theorem ac6(t n:Int)(bp:Option Addr)(mp cp:Nat)(bt:Option Addr)(mt ct:Nat)(w:World):(da 312 #[(0,du t n (ak bp mp cp)),(1,ak bt mt ct)]).run aC w= .ok (.agg (Nr t n (ak bp mp cp) (ak bt mt ct) (ak aj 0 0) 0)) w:=by
 unfold du Nr;go_simp
def LL(t n:Int)(vp:Value)(st:List TD):Spec (Nat×Value):=⟨λ_=>True,λx=>aH (ah ⟨x.1,0,aj⟩),λx=>[yP x.1 t n vp x.2 (ak aj 0 0) 0,xo x.2 st]⟩
theorem CK(t n:Int)(vp vt:Value)(st:List TD)(seen over:Int)(done:Bool)(w:World)(ht:TdR w vt st)(hl:st.length<=60)(hvp:∃b m c,vp=ak b m c):
 Calls aC 147 #[du t n vp,AU vt seen over done] w (cJ (LL t n vp st) w):=by
 have lI:=λw' (hg:Gr w w')=>GR vt st.reverse w' (by rw[Ly];exact ht.gr hg) (by rw[Ly];omega);rw[Ly]at lI;obtain⟨bp,mp,cp,rfl⟩:=hvp;refine enter (args:=[du t n (ak bp mp cp),AU vt seen over done]) (n:=11) Tryz.func147 I I I ?_;refine bZ (bx (bH I I I λg0=>bH I I I λg1=>?_));refine zL ?_
 try refine GA ?_
 refine dG ([aK g0 (du t n (ak bp mp cp)).cells 33,aK g1 (AU vt seen over done).cells 134]) (.calm 0 (.calm 1 (.calm 2 (.one 3 (.calm 4 (.one 5 (.calm 6 (.done)))))))) (λ_ h=>h) ?_
 repeat(first|refine GW ?_|(refine GN ?_;first|refine QW (aJ (i:=0) aI.ty I I I) ?_|refine QW (aw (v:=vt) aI.ty I (aD (i:=1) I I)) ?_))
 refine aM I ?_;refine aT (lz aF.en I I) (λw hm=>lI _ hm.below) I I I ?_;intro zi _;refine zL ?_;refine n' (i:=2) I λbt ct hv q1 q2=>?_;subst hv;refine aO (bY [0,1]) ?_
 repeat(first|refine GW ?_|(refine GN ?_;first|refine QW (aZ I (ac6 _ _ _ _ _ _ _ _)) ?_))
 refine aM I (bH I I I λg2=>?_);refine zL ?_;refine aO (bY [0,1]) ?_
 try refine GW ?_
 try refine GA ?_
 exact cV I I λw hm=>hm.meets (S:=LL t n (ak bp mp cp) st) (g2,ak bt st.length ct) trivial [3,2] alt I
theorem OZ{l:List aL.Prod}{nx:Int->Int}{st:List TD}{seen:Nat}{t:Int}{st1:List TD}{fK:List bJ}{a1:Nat}{e:Int}(hD:fO l nx 2001 st [] 0=(st1,fK,a1,e))(he:e≠0):iz l nx st seen t=(e,[],[]):=by
 unfold iz;rw[hD];dsimp only;rw[if_pos he]
theorem ac7{l:List aL.Prod}{nx:Int->Int}{st:List TD}{seen:Nat}{t:Int}{fK:List bJ}{a1:Nat}(hD:fO l nx 2001 st [] 0=([],fK,a1,0)):iz l nx st seen t=(13,[],[]):=by
 unfold iz;rw[hD];dsimp only;rw[if_neg alt]
theorem ac8{l:List aL.Prod}{nx:Int->Int}{st:List TD}{seen:Nat}{t:Int}{x:bJ}{r:List TD}{fK:List bJ}{a1:Nat}(hD:fO l nx 2001 st [] 0=(.sym x::r,fK,a1,0)):iz l nx st seen t=if x.2≠t then(13,[],[])else if a1+1<=2000/\(bI r (fK++[(2,(seen:Int))]) (a1+1)).2.2.2=aB then(0,(bI r (fK++[(2,(seen:Int))]) (a1+1)).1,(bI r (fK++[(2,(seen:Int))]) (a1+1)).2.1)else(14,[],[]):=by
 unfold iz;rw[hD];dsimp only;rw[if_neg alt]
theorem Vr{l:List aL.Prod}{nx:Int->Int}{st:List TD}{st1:List TD}{fK:List bJ}{a1:Nat}{e:Int}(hD:fO l nx 2001 st [] 0=(st1,fK,a1,e))(he:e≠0):s7 l nx st=(e,[]):=by
 unfold s7;rw[hD];dsimp only;rw[if_pos he]
theorem afA{l:List aL.Prod}{nx:Int->Int}{st:List TD}{fK:List bJ}{a1:Nat}(hD:fO l nx 2001 st [] 0=([],fK,a1,0)):s7 l nx st=(0,fK):=by
 unfold s7;rw[hD];dsimp only;rw[if_neg alt]
theorem afB{l:List aL.Prod}{nx:Int->Int}{st:List TD}{x:bJ}{r:List TD}{fK:List bJ}{a1:Nat}(hD:fO l nx 2001 st [] 0=(.sym x::r,fK,a1,0)):s7 l nx st=(13,[]):=by
 unfold s7;rw[hD];dsimp only;rw[if_neg alt]
def wB(seen:Int)(R:Int×List TD×List bJ):Spec (Value×Value):=
 ⟨λ_=>True,λx=>if R.1=0 then .tuple #[AU x.1 (seen+1) 0 aE,x.2,ap av 0]else .tuple #[AU (ak aj 0 0) seen R.1 aE,ak aj 0 0,ap av R.1],λx=>if R.1=0 then [xo x.1 R.2.1,rW x.2 R.2.2]else []⟩
theorem lH(seen e:Int)(w:World):(da 134 #[(1,ap av seen),(2,ap av e)]).run aC w= .ok (AU (ak aj 0 0) seen e aE) w:=by
 unfold AU;go_simp
theorem XV(b:Option Addr)(m c:Nat)(seen:Int)(w:World):(da 134 #[(0,ak b m c),(1,ap av seen)]).run aC w= .ok (AU (ak b m c) seen 0 aE) w:=by
 unfold AU;go_simp
theorem Db(v vr vt:Value)(g:dD)(ll:List (List Int))(T N:Nat)(st:List TD)(seen t:Nat)(w:World)(h:jS (λk=>k<w.heap.size) w v g)(hr:GK w vr ll)(ht:TdR w vt st)(h0:LF g ll=0)(hg:cI g=0)(hT:OX g ll T N)(hs:∀d∈st,pX g d)(hl:st.length<=60)(h1:seen<=1000000)(h2:t<T):
 Calls aC 120 #[v,vr,AU vt (seen:Int) 0 aE,ap av (t:Int)] w (cJ (wB (seen:Int) (iz g.az (kF ll t) st seen (t:Int))) w):=by
 have fS:=λw' (zh:Gr w w')=>sm v vr vt g ll st (seen:Int) (t:Int) w' (h.gr zh) (hr.gr zh) (ht.gr zh) h0 hs hl J J J (by have:=hT.aQ;omega);have JE:=hT.aQ;obtain⟨vp,rfl,hp,_⟩:=h;have Bb:=λw' (zh:Gr w w')=>CK g.aQ g.bB vp vt st (seen:Int) 0 aE w' (ht.gr zh) hl (by obtain⟨b,c,e,_⟩:=hp;exact⟨b,_,c,e⟩);have hdw:=λgw vt0 vo0 w' B ho hm=>CJ w gw g.aQ g.bB vp vr g ll T N t hp hr hg hT J vt0 vo0 st w' B hs hl ho hm;have hdl:=λR=>@Ae g.az (kF ll t) 2001 st [] 0 R;have hdt:=λR=>@pZ g.az (kF ll t) 2001 st [] 0 R;have hde:=@vm g.az (kF ll t) 2001 st [] 0;generalize hD:fO g.az (kF ll t) 2001 st [] 0=D at*;obtain⟨st1,fK,a1,e⟩:=D;have hdl:=λh=>hdl _ I h hl J;have hdt:=λh=>hdt _ I h;dsimp only at*;refine enter (args:=[du g.aQ g.bB vp,vr,AU vt (seen:Int) 0 aE,ap av (t:Int)]) (n:=96) Tryz.func120 I I I ?_;refine bZ (bx (bH I I I λg0=>bH I I I λg1=>aY I λg2=>?_));refine zL ?_
 repeat(first|refine GA ?_|refine gV (aw (v:=ap av g.aQ) aI.ty I (aD (i:=0) I I)) ?_|refine gV (aJ (i:=0) aI.ty I I I) ?_|refine gV (aJ (i:=1) aI.ty I I I) ?_)
 refine aT (Bc aF.en I I I I I) (λw hm=>fS _ hm.below) I I I ?_;intro _ _;refine zL ?_
 repeat(first|refine GA ?_|refine gV (aJ (i:=0) aI.ty I I I) ?_|refine gV (aJ (i:=1) aI.ty I I I) ?_)
 refine aT (gh aF.en I I I) (λw hm=>Bb _ hm.below) I I I ?_;rintro⟨gw,vt1⟩ _
 conv=>arg 8;simp only[zJ,df,ret,id_eq,LL]
 try refine GA ?_
 refine rK 59 2 ?_;refine zL ?_;refine bz [3,4,5] [0,1,2] alt I I (xE aF.en I I I I) (λw' hm hb=>hdw gw vt1 _ w' _ ((ly.self w).on hm λo h=>qh h) hb) I I I ?_;rintro⟨Vo,Yu⟩ _
 conv=>arg 8;simp only[zJ,df,ret,id_eq,dwS]
 conv=>arg 7;simp only[dwS]
 rcases hde with rfl|rfl|rfl
 ·obtain⟨hd1,hd2,hd3,hd4⟩:=hdl rfl
  rcases hdt rfl with rfl|⟨x,r,rfl,hx⟩
  ·rw[ac7 hD]
   try refine GA ?_
   refine dG ([yP gw g.aQ g.bB vp Vo Yu a1,xo Vo []]) (.calm 0 (.calm 1 (.calm 2 (.calm 3 (.calm 4 (.calm 5 (.calm 6 (.calm 7 (.calm 8 (.calm 9 (.calm 10 (.calm 11 (.calm 12 (.calm 13 (.calm 14 (.calm 15 (.calm 16 (.calm 17 (.calm 18 (.calm 19 (.calm 20 (.calm 21 (.calm 22 (.calm 23 (.calm 24 (.calm 25 (.calm 26 (.calm 27 (.done))))))))))))))))))))))))))))) (bY [3,4]) ?_
   repeat(first|(refine GN ?_;first|refine QW QP ?_|refine QW (aw (v:=Vo) aI.ty I (aD (i:=0) I I)) ?_|refine QW (dc (b:=aB) I I I) ?_|refine QW (dW (i:=1) bM.eq I I) ?_|refine GX ?_)|refine GW ?_)
   repeat(first|refine GA ?_|refine gV (aw (v:=ap av (seen:Int)) aI.ty I (aD (i:=1) I I)) ?_|refine gV (aZ I (lH _ _)) ?_)
   refine fR 2 (cs':=#[ak aj 0 0,ap av (seen:Int),ap av 13,.bool aE]) ?_;refine zL ?_
   try refine GA ?_
   exact iW (i:=2) I I I I I I λw hm=>hm.meets (S:=wB (seen:Int) (13,[],[])) (ak aj 0 0,ak aj 0 0) trivial [] alt I
  rw[ac8 hD];obtain⟨k,m⟩:=x;dsimp only at hx;subst hx;simp only[dj]at hd1
  try refine GA ?_
  refine yx (i:=4) I (by simp) λgt ct hv q1 q2=>?_;subst hv;simp only[dj]at*
  by_cases c1:m≠(t:Int)
  ·rw[if_pos c1]
   refine dG ([yP gw g.aQ g.bB vp (ak (ah ⟨gt,0,aj⟩) (r.length+1) ct) Yu a1,xo (ak (ah ⟨gt,0,aj⟩) (r.length+1) ct) (.sym (1,m)::r)]) (.calm 0 (.calm 1 (.calm 2 (.calm 3 (.calm 4 (.calm 5 (.calm 6 (.calm 7 (.calm 8 (.calm 9 (.calm 10 (.calm 11 (.calm 12 (.calm 13 (.calm 14 (.calm 15 (.calm 16 (.calm 17 (.calm 18 (.calm 19 (.calm 20 (.calm 21 (.calm 22 (.calm 23 (.calm 24 (.calm 25 (.calm 26 (.calm 27 (.done))))))))))))))))))))))))))))) (bY [3,4]) ?_
   repeat(first|(refine GN ?_;first|refine QW QP ?_|refine QW (aw (v:=ak (ah ⟨gt,0,aj⟩) (r.length+1) ct) aI.ty I (aD (i:=0) I I)) ?_|refine QW (dc (b:=aB) I I I) ?_|refine QW (dc (b:=aE) I I (decide_eq_false J)) ?_|refine QW (aw (v:=ap av m) aI.ty I (CI (i:=1) I 3 _ I)) ?_|refine QW (dh (b:=aB) I I (decide_eq_true c1)) ?_|refine QW (ey (r:=(r.length:Int)) I I J J J) ?_|refine QW (aR (j:=r.length) bM.eq aI.ty I I J) ?_|refine GX ?_)|refine GW ?_)
   repeat(first|refine GA ?_|refine gV (aw (v:=ap av (seen:Int)) aI.ty I (aD (i:=1) I I)) ?_|refine gV (aZ I (lH _ _)) ?_)
   refine fR 2 (cs':=#[ak aj 0 0,ap av (seen:Int),ap av 13,.bool aE]) ?_;refine zL ?_
   try refine GA ?_
   exact iW (i:=2) I I I I I I λw hm=>hm.meets (S:=wB (seen:Int) (13,[],[])) (ak aj 0 0,ak aj 0 0) trivial [] alt I
  rw[if_neg c1];obtain rfl:m=(t:Int):=by simpa using c1
  refine dG ([yP gw g.aQ g.bB vp (ak (ah ⟨gt,0,aj⟩) (r.length+1) ct) Yu a1,xo (ak (ah ⟨gt,0,aj⟩) (r.length+1) ct) (.sym (1,(t:Int))::r)]) (.calm 0 (.calm 1 (.calm 2 (.calm 3 (.calm 4 (.calm 5 (.calm 6 (.calm 7 (.calm 8 (.calm 9 (.calm 10 (.calm 11 (.calm 12 (.calm 13 (.calm 14 (.calm 15 (.calm 16 (.calm 17 (.calm 18 (.calm 19 (.calm 20 (.calm 21 (.calm 22 (.calm 23 (.calm 24 (.calm 25 (.calm 26 (.calm 27 (.done))))))))))))))))))))))))))))) (bY [3,4]) ?_
  repeat(first|(refine GN ?_;first|refine QW QP ?_|refine QW (aw (v:=ak (ah ⟨gt,0,aj⟩) (r.length+1) ct) aI.ty I (aD (i:=0) I I)) ?_|refine QW (dc (b:=aB) I I I) ?_|refine QW (dc (b:=aE) I I (decide_eq_false J)) ?_|refine QW (aw (v:=ap av (t:Int)) aI.ty I (CI (i:=1) I 3 _ I)) ?_|refine QW (dh (b:=aE) I I (decide_eq_false (by simp))) ?_|refine QW (ey (r:=(r.length:Int)) I I J J J) ?_|refine QW (aR (j:=r.length) bM.eq aI.ty I I J) ?_|refine GX ?_)|refine GW ?_)
  repeat(first|refine GC ?_|refine gV (dc (b:=aB) I I I) ?_|refine GB ?_)
  refine bz [3,4] [0,1,2,5] alt I I (lz aF.en I I) (λw hm hb=>B6 gw g.aQ g.bB vp _ Yu (.sym (1,(t:Int))) r a1 w _ J hb) I I I ?_;intro Vp _;refine zL ?_;dsimp only
  repeat(first|refine GA ?_|refine gV (aw (v:=ap av (seen:Int)) aI.ty I (aD (i:=1) I I)) ?_)
  refine bz [4,3] [0,1,2,5] alt I I (xE aF.en I I I I) (λw hm hb=>B5 gw g.aQ g.bB vp Vp Yu fK a1 2 (seen:Int) w _ (by simp at hd3;omega) J hb) I I I ?_;intro vo3 _;refine zL ?_;dsimp only
  by_cases c2:a1+1<=2000
  ·rw[decide_eq_true (show((a1+1:Nat):Int)<=2000 by omega)]
   try refine GA ?_
   refine Dh I I I ?_;refine bz [4,3,5] [0,1,2] alt I I (lz aF.en I I) (λw hm hb=>sk gw g.aQ g.bB vp Vp vo3 r (fK++[(2,(seen:Int))]) (a1+1) w _ J c2 (by simp at hd3⊢;omega) hb) I I I ?_;rintro⟨vt4,vo4⟩ _
   conv=>arg 8;simp only[zJ,df,ret,id_eq,clS]
   conv=>arg 7;simp only[clS]
   generalize bI r (fK++[(2,(seen:Int))]) (a1+1)=C;obtain⟨st3,ak9,a3,ok⟩:=C;dsimp only
   cases ok with
   | true=>
    rw[if_pos ⟨c2,rfl⟩]
    repeat(first|refine GC ?_|refine gV (dc (b:=aB) I I I) ?_|refine GB ?_)
    refine ag3 (i:=4) I λbt ct' hv q3 q4=>?_;subst hv;refine dG ([yP gw g.aQ g.bB vp (ak bt st3.length ct') vo4 a3,aK g1 (AU vt (seen:Int) 0 aE).cells 134]) (.calm 0 (.calm 1 (.calm 2 (.calm 3 (.calm 4 (.calm 5 (.calm 6 (.calm 7 (.calm 8 (.calm 9 (.calm 10 (.calm 11 (.one 12 (.calm 13 (.calm 14 (.done)))))))))))))))) (bY [3,1]) ?_
    repeat(first|refine GW ?_|(refine GN ?_;first|refine QW (aw (v:=ak bt st3.length ct') aI.ty I (aD (i:=0) I I)) ?_|refine QW (aw (v:=ap av (seen:Int)) aI.ty I (aD (i:=1) I I)) ?_|refine QW (aw (v:=vo4) aI.ty I (aD (i:=0) I I)) ?_|refine QW (aZ I (XV _ _ _ _)) ?_))
    refine aM I (aV (i:=2) (cs':=#[ak bt st3.length ct',ap av ((seen:Int)+1),ap av 0,.bool aE]) I I I I I I (aO (bY [3,1]) ?_))
    try refine GW ?_
    try refine GA ?_
    exact iW (i:=2) I I I I I I λw hm=>hm.meets (S:=wB (seen:Int) (0,st3,ak9)) (ak bt st3.length ct',vo4) trivial [4,5] alt I
   | false=>
    rw[if_neg (by rintro⟨_,h⟩;cases h)]
    try refine GA ?_
    repeat(first|refine GA ?_|refine gV (aw (v:=ap av (seen:Int)) aI.ty I (aD (i:=1) I I)) ?_|refine gV (aZ I (lH _ _)) ?_)
    refine fR 2 (cs':=#[ak aj 0 0,ap av (seen:Int),ap av 14,.bool aE]) ?_;refine zL ?_
    try refine GA ?_
    exact iW (i:=2) I I I I I I λw hm=>hm.meets (S:=wB (seen:Int) (14,[],[])) (ak aj 0 0,ak aj 0 0) trivial [] alt I
  rw[if_neg (by rintro⟨h,_⟩;exact c2 h)];rw[decide_eq_false (show ¬((a1+1:Nat):Int)<=2000 by omega)]
  try refine GA ?_
  repeat(first|refine GA ?_|refine gV (aw (v:=ap av (seen:Int)) aI.ty I (aD (i:=1) I I)) ?_|refine gV (aZ I (lH _ _)) ?_)
  refine fR 2 (cs':=#[ak aj 0 0,ap av (seen:Int),ap av 14,.bool aE]) ?_;refine zL ?_
  try refine GA ?_
  exact iW (i:=2) I I I I I I λw hm=>hm.meets (S:=wB (seen:Int) (14,[],[])) (ak aj 0 0,ak aj 0 0) trivial [] alt I
 ·rw[OZ hD alt]
  try refine GA ?_
  refine dG ([]) (.calm 0 (.calm 1 (.calm 2 (.calm 3 (.calm 4 (.calm 5 (.calm 6 (.calm 7 (.calm 8 (.calm 9 (.calm 10 (.calm 11 (.calm 12 (.calm 13 (.calm 14 (.calm 15 (.calm 16 (.calm 17 (.calm 18 (.calm 19 (.calm 20 (.calm 21 (.calm 22 (.calm 23 (.calm 24 (.calm 25 (.calm 26 (.calm 27 (.done))))))))))))))))))))))))))))) (bY []) ?_
  try refine GW ?_
  repeat(first|refine GA ?_|refine gV (aw (v:=ap av (seen:Int)) aI.ty I (aD (i:=1) I I)) ?_|refine gV (aZ I (lH _ _)) ?_)
  refine fR 2 (cs':=#[ak aj 0 0,ap av (seen:Int),ap av 13,.bool aE]) ?_;refine zL ?_
  try refine GA ?_
  exact iW (i:=2) I I I I I I λw hm=>hm.meets (S:=wB (seen:Int) (13,[],[])) (ak aj 0 0,ak aj 0 0) trivial [] alt I
 ·rw[OZ hD alt]
  try refine GA ?_
  refine dG ([]) (.calm 0 (.calm 1 (.calm 2 (.calm 3 (.calm 4 (.calm 5 (.calm 6 (.calm 7 (.calm 8 (.calm 9 (.calm 10 (.calm 11 (.calm 12 (.calm 13 (.calm 14 (.calm 15 (.calm 16 (.calm 17 (.calm 18 (.calm 19 (.calm 20 (.calm 21 (.calm 22 (.calm 23 (.calm 24 (.calm 25 (.calm 26 (.calm 27 (.done))))))))))))))))))))))))))))) (bY []) ?_
  try refine GW ?_
  repeat(first|refine GA ?_|refine gV (aw (v:=ap av (seen:Int)) aI.ty I (aD (i:=1) I I)) ?_|refine gV (aZ I (lH _ _)) ?_)
  refine fR 2 (cs':=#[ak aj 0 0,ap av (seen:Int),ap av 14,.bool aE]) ?_;refine zL ?_
  try refine GA ?_
  exact iW (i:=2) I I I I I I λw hm=>hm.meets (S:=wB (seen:Int) (14,[],[])) (ak aj 0 0,ak aj 0 0) trivial [] alt I
def O0(seen:Int)(R:Int×List bJ):Spec Value:=
 ⟨λ_=>True,λx=>if R.1=0 then .tuple #[AU (ak aj 0 0) seen 0 aB,x,ap av 0]else .tuple #[AU (ak aj 0 0) seen R.1 aE,ak aj 0 0,ap av R.1],λx=>if R.1=0 then [rW x R.2]else []⟩
theorem XW(seen:Int)(w:World):(da 134 #[(1,ap av seen),(3,.bool aB)]).run aC w= .ok (AU (ak aj 0 0) seen 0 aB) w:=by
 unfold AU;go_simp
theorem GU(v vr vt:Value)(g:dD)(ll:List (List Int))(T N:Nat)(st:List TD)(seen:Nat)(w:World)(h:jS (λk=>k<w.heap.size) w v g)(hr:GK w vr ll)(ht:TdR w vt st)(h0:LF g ll=0)(hg:cI g=0)(hT:OX g ll T N)(hs:∀d∈st,pX g d)(hl:st.length<=60)(h1:seen<=1000000):
 Calls aC 126 #[v,vr,AU vt (seen:Int) 0 aE] w (cJ (O0 (seen:Int) (s7 g.az (kF ll T) st)) w):=by
 have JE:=hT.aQ;have fS:=λw' (zh:Gr w w')=>sm v vr vt g ll st (seen:Int) g.aQ w' (h.gr zh) (hr.gr zh) (ht.gr zh) h0 hs hl J J J J;obtain⟨vp,rfl,hp,_⟩:=h;have Bb:=λw' (zh:Gr w w')=>CK g.aQ g.bB vp vt st (seen:Int) 0 aE w' (ht.gr zh) hl (by obtain⟨b,c,e,_⟩:=hp;exact⟨b,_,c,e⟩);have hdw:=λgw vt0 vo0 w' B ho hm=>CJ w gw g.aQ g.bB vp vr g ll T N T hp hr hg hT J vt0 vo0 st w' B hs hl ho hm;rw[<-JE]at hdw;have hdt:=λR=>@pZ g.az (kF ll T) 2001 st [] 0 R;have hde:=@vm g.az (kF ll T) 2001 st [] 0;generalize hD:fO g.az (kF ll T) 2001 st [] 0=D at*;obtain⟨st1,fK,a1,e⟩:=D;have hdt:=λh=>hdt _ I h;dsimp only at*;refine enter (args:=[du g.aQ g.bB vp,vr,AU vt (seen:Int) 0 aE]) (n:=55) Tryz.func126 I I I ?_;refine bZ (bx (bH I I I λg0=>bH I I I λg1=>aY I λg2=>?_));refine zL ?_
 repeat(first|refine GA ?_|refine gV (aw (v:=ap av g.aQ) aI.ty I (aD (i:=0) I I)) ?_|refine gV (aJ (i:=0) aI.ty I I I) ?_|refine gV (aJ (i:=1) aI.ty I I I) ?_)
 refine aT (Bc aF.en I I I I I) (λw hm=>fS _ hm.below) I I I ?_;intro _ _;refine zL ?_
 repeat(first|refine GA ?_|refine gV (aJ (i:=0) aI.ty I I I) ?_|refine gV (aJ (i:=1) aI.ty I I I) ?_)
 refine aT (gh aF.en I I I) (λw hm=>Bb _ hm.below) I I I ?_;rintro⟨gw,vt1⟩ _
 conv=>arg 8;simp only[zJ,df,ret,id_eq,LL]
 repeat(first|refine GA ?_|refine gV (aw (v:=ap av g.aQ) aI.ty I (aD (i:=0) I I)) ?_)
 refine rK 59 2 ?_;refine zL ?_;refine bz [3,4,5] [0,1,2] alt I I (xE aF.en I I I I) (λw' hm hb=>hdw gw vt1 _ w' _ ((ly.self w).on hm λo h=>qh h) hb) I I I ?_;rintro⟨Vo,Yu⟩ _
 conv=>arg 8;simp only[zJ,df,ret,id_eq,dwS]
 conv=>arg 7;simp only[dwS]
 rcases hde with rfl|rfl|rfl
 ·rcases hdt rfl with rfl|⟨x,r,rfl,hx⟩
  ·rw[afA hD]
   repeat(first|refine GC ?_|refine gV (aw (v:=Vo) aI.ty I (aD (i:=3) I I)) ?_|refine gV (dc (b:=aB) I I I) ?_|refine gV (dW (i:=4) bM.eq I I) ?_|refine gV (eO (b:=aE) I I I) ?_|refine GB ?_)
   refine dG ([yP gw g.aQ g.bB vp Vo Yu a1,aK g1 (AU vt (seen:Int) 0 aE).cells 134]) (.calm 0 (.calm 1 (.calm 2 (.calm 3 (.calm 4 (.calm 5 (.calm 6 (.one 7 (.calm 8 (.calm 9 (.done))))))))))) (bY [3,1]) ?_
   repeat(first|refine GW ?_|(refine GN ?_;first|refine QW (aw (v:=ap av (seen:Int)) aI.ty I (aD (i:=1) I I)) ?_|refine QW (aw (v:=Yu) aI.ty I (aD (i:=0) I I)) ?_|refine QW (aZ I (XW _)) ?_))
   refine aM I (aV (i:=2) (cs':=#[ak aj 0 0,ap av (seen:Int),ap av 0,.bool aB]) I I I I I I (aO (bY [3,1]) ?_))
   try refine GW ?_
   try refine GA ?_
   exact iW (i:=2) I I I I I I λw hm=>hm.meets (S:=O0 (seen:Int) (0,fK)) Yu trivial [5] alt I
  rw[afB hD]
  repeat(first|refine GC ?_|refine gV (aw (v:=Vo) aI.ty I (aD (i:=3) I I)) ?_|refine gV (dc (b:=aB) I I I) ?_|refine gV (aw (v:=ap av (seen:Int)) aI.ty I (aD (i:=1) I I)) ?_|refine gV (aZ I (lH _ _)) ?_|refine gV (dW (i:=4) bM.eq I I) ?_|refine gV (eO (b:=aB) I I (decide_eq_true (by rw[dj];omega))) ?_|refine GB ?_)
  refine fR 2 (cs':=#[ak aj 0 0,ap av (seen:Int),ap av 13,.bool aE]) ?_;refine zL ?_
  try refine GA ?_
  exact iW (i:=2) I I I I I I λw hm=>hm.meets (S:=O0 (seen:Int) (13,[])) (ak aj 0 0) trivial [] alt I
 ·rw[Vr hD alt]
  repeat(first|refine GA ?_|refine gV (aw (v:=ap av (seen:Int)) aI.ty I (aD (i:=1) I I)) ?_|refine gV (aZ I (lH _ _)) ?_)
  refine fR 2 (cs':=#[ak aj 0 0,ap av (seen:Int),ap av 13,.bool aE]) ?_;refine zL ?_
  try refine GA ?_
  exact iW (i:=2) I I I I I I λw hm=>hm.meets (S:=O0 (seen:Int) (13,[])) (ak aj 0 0) trivial [] alt I
 ·rw[Vr hD alt]
  repeat(first|refine GA ?_|refine gV (aw (v:=ap av (seen:Int)) aI.ty I (aD (i:=1) I I)) ?_|refine gV (aZ I (lH _ _)) ?_)
  refine fR 2 (cs':=#[ak aj 0 0,ap av (seen:Int),ap av 14,.bool aE]) ?_;refine zL ?_
  try refine GA ?_
  exact iW (i:=2) I I I I I I λw hm=>hm.meets (S:=O0 (seen:Int) (14,[])) (ak aj 0 0) trivial [] alt I
end cB
namespace gI
open aL dI eh dA rj wX
section
variable{l:List aL.Prod}{C:Int->Nat->Int->Prop}
mutual
theorem O3{nx:Int->Nat->Int}(hd:(∀n u p,C n u p)\/∀n u p,nx n u=p->C n u p):∀{t:Tree} {x:bJ} {u:Nat} {st:List TD} {E:List bJ} {w:List Int},dm l t x u->(∀n u p,C n u p)\/(0<=t.prod->Hw l nx t u)->tP l C st (u+leaves t) E w->tP l C (.sym x::st) u (tO l t++E) (dJ l t x++w)
 | .mk p k kids,x,u,st,E,w,h,hT,hr=>by
  rw[dm]at h;rcases h with⟨h1,rfl,rfl,rfl⟩|⟨h1,h2,h3,h4,rfl,h5⟩
  ·have e1:tO l (.mk (-1) (u:Int) [])=[(2,(u:Int))]:=by rfl
   have e2:dJ l (.mk (-1) (u:Int) []) x=[x.2]:=by rfl
   have e3:leaves (.mk (-1) (u:Int) [])=1:=by rfl
   rw[e1,e2];rw[e3]at hr;exact .pO h1 hr
  have hp:¬p<0:=by omega
  have e1:tO l (.mk p 0 kids)=(1,p)::((jx l kids (a_ l p).2).map WE++[(3,p)]):=by
   unfold tO;rw[if_neg (by show ¬p<0;exact hp)];unfold qR;rw[dB];simp[WE]
  have e2:dJ l (.mk p 0 kids) x=eV l kids (a_ l p).2:=by unfold dJ;rw[if_neg (by show ¬p<0;exact hp),hJ]
  have e3:leaves (.mk p 0 kids)=cC kids:=by rw[leaves,if_neg hp]
  rw[e1,e2];rw[e3]at hr;have hk:=JF (nx:=nx) hd h5 (hT.imp id λh=>by
   have:=h h2;rw[Hw]at this;exact this.2) (.close (p:=p) hr)
  have hc:C x.2 u p:=by
   rcases hd with hd|hd
   simp_all;rcases hT with hT|hT
   simp_all;have:=hT h2;rw[Hw]at this;rw[<-h4];exact hd _ _ _ this.1
  have:=tP.opn (E:=(jx l kids (a_ l p).2).map WE++(3,p)::E) (w:=eV l kids (a_ l p).2++w) h1 h2 h3 h4 hc hk
  simp_all
theorem JF{nx:Int->Nat->Int}(hd:(∀n u p,C n u p)\/∀n u p,nx n u=p->C n u p):∀{ks:List Tree} {b:List bJ} {u:Nat} {st:List TD} {E:List bJ} {w:List Int},b9 l ks b u->(∀n u p,C n u p)\/Fm l nx ks u->tP l C st (u+cC ks) E w->tP l C (b.map .sym++st) u ((jx l ks b).map WE++E) (eV l ks b++w)
 |[],[],u,st,E,w,_,_,hr=>hr
 |[],_::_,_,_,_,_,h,_,_=>by simp_all[b9]
 |_::_,[],_,_,_,_,h,_,_=>by simp_all[b9]
 | .mk p k kk::r,y::b,u,st,E,w,h,hT,hr=>by
  rw[b9]at h;rw[cC,<-iO]at hr;have hk:=JF (nx:=nx) hd h.2 (hT.imp id λh=>by simp_all[Fm]) hr;have ht:=O3 (nx:=nx) hd h.1 (hT.imp id λh=>by
   rw[Fm]at h;intro h0;rcases h.1 with h1|h1
   exact absurd h0 (by show ¬0<=p;omega);exact h1) hk
  simp_all[Fo,jy]
end
theorem O4(N:Nat)(ih:∀{x:bJ} {st:List TD} {u:Nat} {E:List bJ} {w:List Int},E.length<N->tP l C (.sym x::st) u E w->∃t E2 w2,dm l t x u/\E=tO l t++E2/\w=dJ l t x++w2/\tP l C st (u+leaves t) E2 w2):∀{b:List bJ} {st:List TD} {u:Nat} {E:List bJ} {w:List Int},E.length<N->tP l C (b.map .sym++st) u E w->∃ts E2 w2,b9 l ts b u/\E=(jx l ts b).map WE++E2/\w=eV l ts b++w2/\tP l C st (u+cC ts) E2 w2
 |[],st,u,E,w,_,h=>⟨[],E,w,by rw[b9];trivial,by rfl,rfl,by grind[cC]⟩
 |y::b,st,u,E,w,hN,h=>by
  obtain⟨t,E2,w2,h1,rfl,rfl,h4⟩:=ih hN h;rw[bT]at hN;obtain⟨ts,E3,w3,k1,rfl,rfl,k4⟩:=O4 N ih (b:=b) J h4;refine⟨t::ts,E3,w3,by simp_all[b9],by rw[Fo,eu],by rw[jy,eu],by simp_all[cC,iO]⟩
theorem O5:∀(N:Nat) {x:bJ} {st:List TD} {u:Nat} {E:List bJ} {w:List Int},E.length<N->tP l C (.sym x::st) u E w->∃t E2 w2,dm l t x u/\E=tO l t++E2/\w=dJ l t x++w2/\tP l C st (u+leaves t) E2 w2
 |0,_,_,_,_,_,h,_=>absurd h J
 | N + 1,x,st,u,E,w,hN,h=>by
  cases h with
  | @pO _ _ _ E2 w2 hx h=>
   refine⟨.mk (-1) (u:Int) [],E2,w2,by simp_all[dm],?_,?_,?_⟩;unfold tO;rw[if_pos (by show(-1:Int)<0;omega)];rfl;unfold dJ;rw[if_pos (by show(-1:Int)<0;omega)];rfl;rw[leaves,if_pos J];exact h
  | @opn _ p _ _ E2 w2 hx h0 h1 h2 hc h=>
   unfold opened at h;have hE:E2.length<N:=by simp_all
   obtain⟨ts,E3,w3,k1,rfl,rfl,k4⟩:=O4 N (λhN h=>O5 N hN h) hE h
   cases k4 with
   | @close _ _ _ E4 _ k4=>
    have hp:¬p<0:=by omega
    refine⟨.mk p 0 ts,E4,w3,by simp_all[dm],?_,?_,?_⟩;unfold tO;rw[if_neg (by show ¬p<0;exact hp)];unfold qR;rw[dB];simp[WE];unfold dJ;rw[if_neg (by show ¬p<0;exact hp),hJ];rw[leaves,if_neg hp];exact k4
mutual
theorem xe:∀{t:Tree} {x:bJ} {u:Nat},dm l t x u->By l x (dJ l t x)
 | .mk p k kids,x,u,h=>by
  rw[dm]at h;rcases h with⟨h1,rfl,rfl,rfl⟩|⟨h1,h2,h3,h4,rfl,h5⟩
  unfold dJ;rw[if_pos (by show(-1:Int)<0;omega)];exact .pO h1;unfold dJ;rw[if_neg (by show ¬p<0;omega),hJ];exact .Wz h1 (ee h2 h3) h4 (zb h5)
theorem zb:∀{ks:List Tree} {b:List bJ} {u:Nat},b9 l ks b u->pS l b (eV l ks b)
 |[],[],_,_=> .nil
 |[],_::_,_,h=>by simp_all[b9]
 |_::_,[],_,h=>by simp_all[b9]
 |t::r,y::b,u,h=>by
  rw[b9]at h;rw[jy];exact .cons (xe h.1) (zb h.2)
end
end
theorem JG{l:List aL.Prod}{C:Int->Nat->Int->Prop}{E:List bJ}{w:List Int}(h:tP l C [.sym (2,0)] 0 E w):∃t,dm l t (2,0) 0/\qR l t=E/\eU l t=w:=by
 obtain⟨t,E2,w2,h1,h2,h3,h4⟩:=O5 (E.length+1) (tv _) h
 cases h4
 have hp:¬t.prod<0:=by
  obtain⟨p,k,kids⟩:=t;rw[dm]at h1;rcases h1 with⟨h,_⟩|⟨_,h,_⟩
  cases h
  exact acH.2 h
 refine⟨t,h1,?_,?_⟩;rw[h2];unfold tO;rw[if_neg hp,fj];rw[h3];unfold dJ;rw[if_neg hp,fj]
section
variable{g:dD}{T N:Nat}
def xX(g:dD)(T N:Nat):Int->Nat->Int:=λn col=>wX.rowAt g.az (cB.nX N g.az) T n.toNat col
theorem Vs(col:Nat):Rg g.az (λn=>xX g T N n col):=λn h0=>by
 refine⟨(pU n.toNat col g.az.length).2,λhn=>?_⟩;have:=pW (may:=cB.nX N g.az) (T:=T) n.toNat col g.az.length (aX _) h0;show(a_ g.az (fF g.az (cB.nX N g.az) T n.toNat col g.az.length)).1=n
 omega
structure ago(g:dD)(T N:Nat)(r:List Int)(st:List TD)(a:Nat)(out:List bJ)(R:List bJ×Nat×Int):Prop where
 err:R.2.2=0\/R.2.2=13\/R.2.2=14
 ge:a<=R.2.1
 le:R.2.1<=a+r.length
 all:R.2.2=0->R.2.1=a+r.length
 ok:R.2.2=0->∃E,R.1=out++E/\tP g.az (λ_ _ _=>True) st a E r
 far:∃st',(∀d∈st',pX g d)/\∀E w,tP g.az (λ_ _ _=>True) st' R.2.1 E w->∃E',tP g.az (λ_ _ _=>True) st a E' (r.take (R.2.1-a)++w)
theorem Tc(hg:cI g=0):∀(r:List Int) (st:List TD) (a:Nat) (out:List bJ),(∀d∈st,pX g d)->st.length<=60->ago g T N r st a out (na g.az (xX g T N) T r st a out)
 | [],st,a,out,hs,hl=>by
  rw[na];have he:=BB (R:=s7 g.az (λn=>xX g T N n T) st) I;refine⟨?_,aX _,aX _,λ_=>rfl,λh0=>⟨_,rfl,aeq hg (Vs T) (λ_ _ _=>trivial) I h0 hs⟩,st,hs,λE w h=>⟨E,by simp_all⟩⟩;rcases he with⟨h,_⟩|⟨_,_,h⟩
  exact .inr h;exact .inl h
 | t ::r,st,a,out,hs,hl=>by
  rw[na];have hp:=s9 (R:=iz g.az (λn=>xX g T N n t.toNat) st a t) I;split
  ·rename_i c
   refine⟨?_,aX _,Nat.le_add_right _ _,λh=>absurd h c,λh=>absurd h c,st,hs,λE w h=>⟨E,by simp_all⟩⟩;rcases hp with⟨h,_⟩|⟨_,_,_,_,_,_,_,_,_,h⟩
   exact .inr h;rw[h];exact .inl I
  rename_i c
  have c:(iz g.az (λn=>xX g T N n t.toNat) st a t).1=0:=by omega
  obtain⟨k1,k2,k3⟩:=Ut hg (Vs t.toNat) rfl c hs hl;have hR:=Tc hg r _ (a+1) (out++(iz g.az (λn=>xX g T N n t.toNat) st a t).2.2) k1 k2;generalize na g.az (xX g T N) T r (iz g.az (λn=>xX g T N n t.toNat) st a t).2.1 (a+1) (out++(iz g.az (λn=>xX g T N n t.toNat) st a t).2.2)=R at*;obtain⟨z1,z2,z3,z4,z5,st',z6,z7⟩:=hR;refine⟨z1,by omega,by grind,λh=>by grind,λh=>?_,st',z6,λE w h=>?_⟩
  ·obtain⟨E,y1,y2⟩:=z5 h
   exact⟨_,by simp_all,Nq hg (Vs t.toNat) (λ_ _ _=>trivial) I c hs y2⟩
  obtain⟨E',y⟩:=z7 E w h;refine⟨(iz g.az (λn=>xX g T N n t.toNat) st a t).2.2++E',?_⟩;rw[show R.2.1-a=(R.2.1-(a+1))+1 by omega,List.take_succ_cons];exact Nq hg (Vs t.toNat) (λ_ _ _=>trivial) I c hs y
theorem drop_cons{W:List Int}{a:Nat}{t:Int}{r:List Int}(h:W.drop a=t::r):a<W.length/\W.getD a 0=t/\W.drop (a+1)=r:=by
 have h1:a<W.length:=by
  grind[ia]
 rw[dL h1]at h;obtain⟨e1,e2⟩:=yR h;exact⟨h1,by rw[cH,bL h1,e1];rfl,e2⟩
theorem DP{W:List Int}:∀(r:List Int) (st:List TD) (a:Nat) (out:List bJ) {E:List bJ},r=W.drop a->tP g.az (λn u p=>xX g T N n (dU T W u)=p) st a E r->
 (na g.az (xX g T N) T r st a out).2.2=14\/((na g.az (xX g T N) T r st a out).2.2=0/\(na g.az (xX g T N) T r st a out).1=out++E/\(na g.az (xX g T N) T r st a out).2.1=a+r.length)
 | [],st,a,out,E,hr,h=>by
  rw[na];have hc:dU T W a=T:=by
   simp_all[dU,if_neg]
  rcases aep (nx:=λn=>xX g T N n T) (λn p h=>by simp_all) I h with e|⟨e1,e2⟩
  simp_all;exact .inr ⟨e1,by rw[e2],rfl⟩
 | t::r,st,a,out,E,hr,h=>by
  rw[na];obtain⟨h1,h2,h3⟩:=drop_cons hr.symm;have hc:dU T W a=t.toNat:=by simp_all[dU]
  rcases aaO (nx:=λn=>xX g T N n t.toNat) (t:=t) (λn p h=>by simp_all) I h with e|⟨e1,E2,e2,e3⟩
  simp_all;rw[if_neg J];rcases DP r _ (a+1) (out++(iz g.az (λn=>xX g T N n t.toNat) st a t).2.2) h3.symm e3 with y|⟨y1,y2,y3⟩
  omega;exact .inr ⟨y1,by rw[y2,e2,eu],by rw[y3];simp;omega⟩
theorem O6(hg:cI g=0):∀d∈[TD.sym (2,0)],pX g d:=by
 intro d hd;rw[ez]at hd;subst hd;have:=(cz hg).2.2.1;show right g.aQ g.bB (2,0)=aB
 unfold right;rw[if_neg alt,if_pos I];simp only[jg,decide_true,yY,decide_eq_true_eq];omega
theorem GV(hg:cI g=0)(hT:g.aQ=T)(hN:g.bB=N)(hf:cB.JB g.az (cB.nX N g.az) T N=aB){t:Tree}{W:List Int}(h:dm g.az t (2,0) 0)(hy:eU g.az t=W):tP g.az (λn u p=>xX g T N n (dU T W u)=p) [.sym (2,0)] 0 (qR g.az t) W:=by
 have hp:¬t.prod<0:=by
  obtain⟨p,k,kids⟩:=t;rw[dm]at h;rcases h with⟨h,_⟩|⟨_,h,_⟩
  cases h
  exact acH.2 h
 have hw:∀x∈W,0<=x/\x<(T:Int):=by rw[<-hy,<-hT];exact M_ hg h J
 have hd:=cB.GJ hg hT hN hf h hy hw;have:=O3 (C:=λn u p=>xX g T N n (dU T W u)=p) (nx:=cB.nxG g T N W) (.inr λn u p h=>h) (st:=[]) (E:=[]) (w:=[]) h (.inr λ_=>hd) .nil;unfold tO dJ at this;rw[if_neg hp,if_neg hp,fj,fj,hy]at this;exact this
theorem Td(hg:cI g=0)(hT:g.aQ=T)(hN:g.bB=N)(hf:cB.JB g.az (cB.nX N g.az) T N=aB){W:List Int}:
 ((na g.az (xX g T N) T W [.sym (2,0)] 0 []).2.2=0->∃t,dm g.az t (2,0) 0/\qR g.az t=(na g.az (xX g T N) T W [.sym (2,0)] 0 []).1/\eU g.az t=W)/\
 ∀t,dm g.az t (2,0) 0->eU g.az t=W->(na g.az (xX g T N) T W [.sym (2,0)] 0 []).2.2=14\/((na g.az (xX g T N) T W [.sym (2,0)] 0 []).2.2=0/\(na g.az (xX g T N) T W [.sym (2,0)] 0 []).1=qR g.az t/\(na g.az (xX g T N) T W [.sym (2,0)] 0 []).2.1=W.length):=by
 refine⟨λh=>?_,λt h hy=>?_⟩
 ·obtain⟨E,h1,h2⟩:=(Tc (T:=T) (N:=N) hg W [.sym (2,0)] 0 [] (O6 hg) alt).ok h
  obtain⟨t,k1,k2,k3⟩:=JG h2;exact⟨t,k1,by rw[k2,h1];rfl,k3⟩
 ·rcases DP (T:=T) (N:=N) W [.sym (2,0)] 0 [] (by rfl) (GV hg hT hN hf h hy)with h|⟨h1,h2,h3⟩
  omega;exact .inr ⟨h1,by rw[h2];rfl,by rw[h3];simp⟩
theorem wC{l:List aL.Prod}{t:Tree}(h:dm l t (2,0) 0):0<=t.prod:=by
 obtain⟨p,k,kids⟩:=t;rw[dm]at h;rcases h with⟨h,_⟩|⟨_,h,_⟩
 cases h
 exact h
theorem tD{l:List aL.Prod}{t:Tree}(h:dm l t (2,0) 0):dJ l t (2,0)=eU l t:=by
 unfold dJ;rw[if_neg (by have:=wC h;omega)]
end
end gI
namespace cB
open Go.RowKit cL dV aL dI gI wX eh dA rj
abbrev GY(g:dD)(T N:Nat):List (List Int):=mq N λn=>mq (T+1) (wX.rowAt g.az (nX N g.az) T n)
theorem AI{α:Type}{len:Nat}{f:Nat->α}{d:α}(k:Nat):(mq len f).getD k d=if k<len then f k else d:=by
 rw[cH]
 by_cases h:k<len
 rw[uU _ h,if_pos h];rfl;rw[nF (by rw[iX];omega),if_neg h];rfl
theorem ah6{g:dD}{T N:Nat}(hg:cI g=0)(hN:g.bB=N){col:Nat}(hc:col<=T)(n:Int):kF (GY g T N) col n=xX g T N n col:=by
 unfold kF xX;rw[AI]
 by_cases h:n.toNat<N
 rw[if_pos h,AI,if_pos J];rw[if_neg h];show(-1:Int)=_
 have h1:=pU (l:=g.az) (may:=nX N g.az) (T:=T) n.toNat col g.az.length;have h2:=pW (l:=g.az) (may:=nX N g.az) (T:=T) n.toNat col g.az.length (aX _);unfold wX.rowAt
 by_cases h3:fF g.az (nX N g.az) T n.toNat col g.az.length<0
 omega;have h3:0<=fF g.az (nX N g.az) T n.toNat col g.az.length:=by omega
 have h4:=h2 h3;have:=((cz hg).2.2.2.2.2 _ (ee h3 h1.2)).2.2.1;omega
theorem ah7{g:dD}{T N:Nat}(hT:g.aQ=T)(hN:g.bB=N):OX g (GY g T N) T N where
 aQ:=hT
 bB:=hN
 len:=iX _ _
 row r hr:=by
  obtain⟨n,_,rfl⟩:=fE.1 hr;exact iX _ _
 nx col n h0:=by
  unfold kF at h0⊢;rw[AI]at h0⊢
  by_cases h:n.toNat<N
  ·rw[if_pos h]at h0⊢
   rw[AI]at h0⊢
   by_cases h2:col<T+1
   ·rw[if_pos h2]at h0⊢
    refine⟨(pU n.toNat col g.az.length).2,λhn=>?_⟩;have:=pW (may:=nX N g.az) (T:=T) n.toNat col g.az.length (aX _) h0;unfold wX.rowAt;rw[this];omega
   omega
  simp_all
theorem JH{l:List aL.Prod}{n:Nat}:∀r:List Int,(∀p∈r,-1<=p/\p<(l.length:Int)/\(0<=p->(a_ l p).1=(n:Int)))->tC l n r=0
 |[],_=>rfl
 |p::r,h=>by
  have hp:=h p (gX ..);rw[tC,if_neg J,if_neg J,if_neg (by rintro⟨h1,h2⟩;exact h2 (hp.2.2 h1))];exact JH r λp hp=>h p (lU _ hp)
theorem GZ{l:List aL.Prod}{t:Int}:∀(rows:List (List Int)) (n:Nat),(∀i (h:i<rows.length),(rows[i].length:Int)=t+1/\tC l (n+i) rows[i]=0)->qW l t n rows=0
 |[],_,_=>rfl
 | r ::rs,n,h=>by
  have h0:=h 0 (by simp);simp only[List.getElem_cons_zero,mi]at h0;rw[qW,if_neg J,if_neg J];exact GZ rs (n+1) λi hi=>by
   have:=h (i+1) (by grind);simp only[List.getElem_cons_succ]at this;rw[show n+1+i=n+(i+1)by omega];exact this
theorem O7{g:dD}{T N:Nat}(hg:cI g=0)(hT:g.aQ=T)(hN:g.bB=N):LF g (GY g T N)=0:=by
 unfold LF;rw[if_neg J,iX,if_neg J];refine GZ _ 0 λi hi=>?_;rw[iX]at hi;have te:(GY g T N)[i]' J=mq (T+1) (wX.rowAt g.az (nX N g.az) T i):=by simp[mq]
 rw[te];refine⟨by rw[iX,hT];rfl,JH _ λp hp=>?_⟩;obtain⟨c,_,rfl⟩:=fE.1 hp;have h1:=pU (l:=g.az) (may:=nX N g.az) (T:=T) i c g.az.length;refine⟨h1.1,h1.2,λh0=>?_⟩;rw[cU];exact pW (l:=g.az) (may:=nX N g.az) (T:=T) i c g.az.length (aX _) h0
theorem G0{l:List aL.Prod}{nx NY:Int->Nat->Int}{T:Nat}(h:∀col,col<=T->(λn=>nx n col)=λn=>NY n col):∀(word:List Int) (st:List TD) (a:Nat) (out:List bJ),(∀x∈word,0<=x/\x<(T:Int))->na l nx T word st a out=na l NY T word st a out
 |[],st,a,out,_=>by simp_all[na]
 |t::r,st,a,out,hw=>by
  have ht:=hw t (gX ..);rw[na,na,h t.toNat J];split;rfl;exact G0 h r _ _ _ λx hx=>hw x (lU _ hx)
theorem run_eq{g:dD}{T N:Nat}(hg:cI g=0)(hN:g.bB=N){word:List Int}(hw:∀x∈word,0<=x/\x<(T:Int)):na g.az (λn col=>kF (GY g T N) col n) T word [.sym (2,0)] 0 []=na g.az (xX g T N) T word [.sym (2,0)] 0 []:=
 G0 (λcol hc=>funext λn=>ah6 hg hN hc n) word _ _ _ hw
theorem ac9(seen:Int)(st:List TD)(l:List bJ):wB seen (0,st,l)=⟨λ_=>True,λx=> .tuple #[AU x.1 (seen+1) 0 aE,x.2,ap av 0],λx=>[xo x.1 st,rW x.2 l]⟩:=by rfl
theorem XX(seen:Int){e:Int}(he:e≠0)(st:List TD)(l:List bJ):wB seen (e,st,l)=⟨λ_=>True,λx=> .tuple #[AU (ak aj 0 0) seen e aE,ak aj 0 0,ap av e],λx=>[]⟩:=by simp_all[wB]
theorem afC(seen:Int)(l:List bJ):O0 seen (0,l)=⟨λ_=>True,λx=> .tuple #[AU (ak aj 0 0) seen 0 aB,x,ap av 0],λx=>[rW x l]⟩:=by rfl
theorem ac_(seen:Int){e:Int}(he:e≠0)(l:List bJ):O0 seen (e,l)=⟨λ_=>True,λx=> .tuple #[AU (ak aj 0 0) seen e aE,ak aj 0 0,ap av e],λx=>[]⟩:=by simp_all[O0]
theorem Vt{v:Value}{a b:List bJ}:bm 59 2 v (a.length+b.length) (a.flatMap dr++b.flatMap dr)=rW v (a++b):=by grind
theorem ac'(l:List bJ):(l.flatMap dr).length=l.length*2:=nD (f:=dr) (c:=2) (λ_=>rfl) l
end cB
namespace pt
open Go.RowKit cL dV cB cX
def Dc(o:Of)(N:List (List Int))(now:Int)(b:UInt8):Int:=(N.getD now.toNat []).getD (o.toList.getD b.toNat 0) 0
def qt(o:Of)(N:List (List Int))(tags:List Int):List UInt8->Nat->Int->Int->Nat->Int×Nat
 |[],_,_,r,t=>(r,t)
 | b::s,i,now,r,t=>
  if Dc o N now b<0 then(r,t)
  else if 0<=tags.getD (Dc o N now b).toNat 0 then qt o N tags s (i+1) (Dc o N now b) (tags.getD (Dc o N now b).toNat 0) (i+1)
  else qt o N tags s (i+1) (Dc o N now b) r t
def cD(o:Of)(N:List (List Int))(tags:List Int)(s:List UInt8)(fr:Nat):Int×Nat:=qt o N tags (s.drop fr) fr 0 0 0
theorem tE(o:Of)(N:List (List Int))(tags:List Int)(b:UInt8)(s:List UInt8)(i:Nat)(now r:Int)(t:Nat):qt o N tags (b::s) i now r t=
 if Dc o N now b<0 then(r,t)
 else if 0<=tags.getD (Dc o N now b).toNat 0 then qt o N tags s (i+1) (Dc o N now b) (tags.getD (Dc o N now b).toNat 0) (i+1)
 else qt o N tags s (i+1) (Dc o N now b) r t:=rfl
abbrev Tok:=Int×Nat×Nat
def l_(o:Of)(N:List (List Int))(tags:List Int)(s:List UInt8):Nat->Nat->List Tok×Nat×Int
 |0,_=>([],0,0)
 |f+1,at'=>if at'<s.length then(if(cD o N tags s at').2=0 then([],at',9)else((((cD o N tags s at').1,at',(cD o N tags s at').2)::(l_ o N tags s f (cD o N tags s at').2).1),(l_ o N tags s f (cD o N tags s at').2).2))else([],0,0)
def wD(o:Of)(N:List (List Int))(tags:List Int)(s:List UInt8):List Tok×Nat×Int:=l_ o N tags s (s.length+1) 0
theorem qu(o:Of)(N:List (List Int))(tags:List Int)(s:List UInt8)(f at':Nat):l_ o N tags s (f+1) at'=if at'<s.length then(if(cD o N tags s at').2=0 then([],at',9)else((((cD o N tags s at').1,at',(cD o N tags s at').2)::(l_ o N tags s f (cD o N tags s at').2).1),(l_ o N tags s f (cD o N tags s at').2).2))else([],0,0):=rfl
theorem G1(o:Of)(N:List (List Int))(tags:List Int):∀(s:List UInt8) (i:Nat) (now r:Int) (t:Nat),(qt o N tags s i now r t).2=t\/(i<(qt o N tags s i now r t).2/\(qt o N tags s i now r t).2<=i+s.length)
 |[],_,_,_,_=> .inl I
 | b ::s,i,now,r,t=>by
  rw[tE];split;exact .inl I;split
  ·rcases G1 o N tags s (i+1) (Dc o N now b) (tags.getD (Dc o N now b).toNat 0) (i+1)with h|h
   simp_all;exact .inr ⟨by omega,by rw[dj];omega⟩
  rcases G1 o N tags s (i+1) (Dc o N now b) r t with h|h
  omega;exact .inr ⟨by omega,by rw[dj];omega⟩
theorem Vu{o:Of}{N:List (List Int)}{tags:List Int}{s:List UInt8}{fr:Nat}(hf:fr<=s.length):(cD o N tags s fr).2=0\/(fr<(cD o N tags s fr).2/\(cD o N tags s fr).2<=s.length):=by
 rcases G1 o N tags (s.drop fr) fr 0 0 0 with h|h
 exact .inl h
 right
 rw[je]at h;exact⟨h.1,by have:=h.2;show(qt _ _ _ _ _ _ _ _).2<=_;omega⟩
theorem Te{o:Of}{N:List (List Int)}{tags:List Int}(h:nY o N tags){q:Nat}(hq:q<N.length)(b:UInt8):
 ∃(h1:q<N.length) (h2:o[b.toNat]'b.toNat_lt<N[q].length),Dc o N (q:Int) b=N[q][o[b.toNat]'b.toNat_lt]/\ -1<=Dc o N (q:Int) b/\Dc o N (q:Int) b<N.length:=by
 have hw:o[b.toNat]'b.toNat_lt<N[q].length:=by rw[h.row q hq];exact h.of _ _
 have e:Dc o N (q:Int) b=N[q][o[b.toNat]'b.toNat_lt]:=by
  unfold Dc;rw[de,cH (l:=N),bL hq,jz,cH (l:=o.toList),bL (by rw[Vector.length_toList];exact b.toNat_lt),jz,BT,cH,bL hw];rfl
 have hr:=h.rng q hq _ hw;exact⟨hq,hw,e,by rw[e];exact hr.1,by rw[e];exact hr.2⟩
end pt
namespace cB
open Go.RowKit cL dV cX pt
theorem ah8{vn vt:Value}(o:Of)(b:UInt8):(jk o vn vt).toArray[0+b.toNat]?=ah (.int .u8 ((o[b.toNat]'b.toNat_lt:Nat):Int)):=by
 rw[cU];exact ajp o vn vt b.toNat_lt
theorem G2(o:Of)(vn vt:Value)(N:List (List Int))(tags:List Int)(s:List UInt8)(w:World)(h:PkI w vn vt N tags)(ho:∀b (h:b<256),o[b]<256)(hs:s.length<=9223372036854775807):
 Calls aC 73 #[PF o vn vt,str s] w (cJ (ret (ap av (if sj o N tags≠0 then sj o N tags else if 2000<s.length then 2 else 0))) w):=by
 have fS:=λw' (hg:Gr w w')=>CH o vn vt N tags w' (h.gr hg) ho;obtain⟨⟨an,cn,rfl,-⟩,at',ct,rfl,-⟩:=h;generalize sj o N tags=e at*;refine enter (args:=[PF o (ak an N.length cn) (ak at' tags.length ct),str s]) (n:=14) Tryz.func73 I I I ?_;refine bZ (bx (bH I I I λg2=>?_));refine zL ?_
 repeat(first|refine GA ?_|refine gV (aJ (i:=0) aI.ty I I (j0 _ _ _)) ?_)
 refine aT (lz aF.en I I) (λw hm=>fS _ hm.below) I I I ?_;intro _ _;refine zL ?_
 by_cases c1:e=0
 ·rw[if_neg (by simpa using c1)]
  by_cases c2:2000<s.length
  ·rw[if_pos c2]
   repeat(first|refine GC ?_|refine gV (dh (b:=aE) I I (decide_eq_false (by simpa using c1))) ?_|refine gV (eO (b:=aB) I I (decide_eq_true J)) ?_|refine GB ?_)
   exact eN I I I
  rw[if_neg c2]
  repeat(first|refine GC ?_|refine gV (dh (b:=aE) I I (decide_eq_false (by simpa using c1))) ?_|refine gV (eO (b:=aE) I I (decide_eq_false J)) ?_|refine GB ?_)
  exact eN I I I
 ·rw[if_pos c1]
  repeat(first|refine GC ?_|refine gV (dh (b:=aB) I I (decide_eq_true c1)) ?_|refine GB ?_)
  exact eN I I I
def mC(t:Tok):List Value:=[ap av t.1,ap av (t.2.1:Int),ap av (t.2.2:Int)]
theorem O8(t:Tok):(mC t).length=3:=rfl
theorem Tf(f:Nat)(w:World):(da 111 #[(1,ap av (f:Int))]).run aC w= .ok (aP (mC (0,f,0)).toArray) w:=by
 unfold mC;go_simp
theorem Tg(w:World):(da 111 (#[]:Array (Nat×Value))).run aC w= .ok (aP (mC (0,0,0)).toArray) w:=by kernel_rfl
def afD(fr:Nat)(x:Int×Nat):Value:=if x.2=0 then .tuple #[aP (mC (0,0,0)).toArray,.bool aE]else .tuple #[aP (mC (x.1,fr,x.2)).toArray,.bool aB]
theorem LM(o:Of)(vn vt:Value)(N:List (List Int))(tags:List Int)(s:List UInt8)(fr:Nat)(w:World)(h:PkI w vn vt N tags)(hg:nY o N tags)(hs:s.length<=1000000)(hf:fr<=s.length):
 Calls aC 74 #[PF o vn vt,str s,ap av (fr:Int)] w (cJ (ret (afD fr (cD o N tags s fr))) w):=by
 have w7:=λ{q} hq b=>Te hg (q:=q) hq b;have uc:=hg.pos;have hlen:=hg.len;have ahG:=hg.tag;obtain⟨⟨an,cn,rfl,hn1,hn2,hn3⟩,at',ct,rfl,ht1,ht2,Mb⟩:=h;unfold maxLen at hn2 ht2;obtain⟨bn,OW,rfl,_,Qb⟩:=hn3 J;obtain⟨bt,LI,rfl,htd⟩:=Mb J;clear hn3 Mb hg;have hbt:=Tf fr;have zm:=Tg;refine enter (args:=[PF o (ak (ah ⟨bn,OW,aj⟩) N.length cn) (ak (ah ⟨bt,LI,aj⟩) tags.length ct),str s,ap av (fr:Int)]) (n:=55) Tryz.func74 I I I ?_;refine bZ (bx (bH I I I λg3=>aY I λg6=>?_));refine zL ?_
 repeat(first|refine GA ?_|refine gV (aZ I hbt) ?_)
 refine aY I λg9=>?_;refine zL ?_;refine fR 2 (cs':=(mC (0,fr,0)).toArray) ?_;refine zL ?_
 try refine GA ?_
 unfold cD;generalize jh:qt o N tags (s.drop fr) fr 0 0 0=fin;refine dZ (ι:=Nat×Nat×Int×Nat) (λ(i,now,r,t)=>i<=s.length/\now<N.length/\t<=i/\qt o N tags (s.drop i) i (now:Int) r t=fin) (λ(i,now,_,_)=>[(1,str s),(3,aH (ah ⟨g3,0,aj⟩)),(6,aH (ah ⟨g6,0,aj⟩)),(8,ap av (now:Int)),(9,aH (ah ⟨g9,0,aj⟩)),(10,ap av (i:Int))])
  (λ(_,_,r,t)=>[aK g3 (jk o (ak (ah ⟨bn,OW,aj⟩) N.length cn) (ak (ah ⟨bt,LI,aj⟩) tags.length ct)).toArray 30,aK g6 (mC (0,0,0)).toArray 111,aK g9 (mC (r,fr,t)).toArray 111]) (λ(i,_,_,_)=>s.length-i) (fr,0,0,0) ⟨hf,uc,bC _,jh⟩ ?_
 rintro⟨i,now,r,t⟩ ⟨i1,i2,i3,i4⟩;dsimp only at i1 i2 i3 i4⊢
 by_cases c1:i<s.length
 ·rw[dL c1,tE]at i4
  obtain⟨_,hw,hx0,kL,fy⟩:=w7 i2 s[i];have hb:s[(i:Int).toNat]?=ah s[i]:=by rw[de];exact bL c1
  have hcell:=ah8 (vn:=ak (ah ⟨bn,OW,aj⟩) N.length cn) (vt:=ak (ah ⟨bt,LI,aj⟩) tags.length ct) o s[i];have hb8:=s[i].toNat_lt;obtain⟨u,⟨au,cu,rfl,hcu,hmu,Yl⟩,hdu⟩:=Fz Qb i2;have XQ:=λ(L:List b_)=>jE (L:=L) hdu (j:=0) (v:= .slice au N[now].length cu) I;obtain⟨bu,ajN,rfl,gu⟩:=Yl J;have XR:=λ(L:List b_)=>gK (L:=L) lf gu hw 0 _ I;have ajS:∀(L:List b_),At (w:bV) L ⟨bu,ajN+o[s[i].toNat]*1+0,aj⟩ (ap av (Dc o N (now:Int) s[i])):=λL=>by rw[hx0];exact XR L
  clear hdu gu Yl XR hx0 jh Qb;generalize s[i]=b at*;generalize o[b.toNat]=ob at*;generalize Dc o N (now:Int) b=x at*;generalize N[now].length=wd at*
  try refine GA ?_
  refine dG ([aK g3 (jk o (ak (ah ⟨bn,OW,aj⟩) N.length cn) (ak (ah ⟨bt,LI,aj⟩) tags.length ct)).toArray 30]) (.calm 0 (.calm 1 (.calm 2 (.calm 3 (.calm 4 (.calm 5 (.calm 6 (.calm 7 (.calm 8 (.calm 9 (.calm 10 (.calm 11 (.calm 12 (.calm 13 (.done))))))))))))))) (bY [0]) ?_
  repeat(first|refine GW ?_|(refine GN ?_;first|refine QW (aw aI.ty I (aD (i:=0) I (oh _ _ _))) ?_|refine QW (aR (j:=now) bM.eq aI.ty I I i2) ?_|refine QW (aw aI.ty I (XQ _)) ?_|refine QW (wL bM.eq I I J hb) ?_|refine QW (ij bM.eq aI.ty I I hb8) ?_|refine QW (aw aI.ty I (aD (i:=0) I hcell)) ?_|refine QW (aR (j:=ob) bM.eq aI.ty I I hw) ?_|refine QW (aw aI.ty I (ajS _)) ?_))
  by_cases q1:x<0
  ·rw[if_pos q1]at i4
   subst i4;unfold afD
   by_cases e1:t=0
   ·subst e1
    rw[if_pos I]
    repeat(first|refine GC ?_|refine gV (fI (b:=aB) I I (decide_eq_true q1)) ?_|refine gV (aw (v:=ap av ((0:Nat):Int)) aI.ty I (aD (i:=2) I I)) ?_|refine gV (dc (b:=aB) I I (decide_eq_true (by simp))) ?_|refine gV (aZ I zm) ?_|refine GB ?_)
    refine fR 1 (cs':=(mC (0,0,0)).toArray) ?_;refine zL ?_
    try refine GA ?_
    exact dH (i:=1) I I I I I λw hm=>hm.ret
   rw[if_neg e1]
   repeat(first|refine GC ?_|refine gV (fI (b:=aB) I I (decide_eq_true q1)) ?_|refine gV (aw (v:=ap av (t:Int)) aI.ty I (aD (i:=2) I I)) ?_|refine gV (dc (b:=aE) I I (decide_eq_false J)) ?_|refine gV (aJ (i:=2) aI.ty I I I) ?_|refine GB ?_)
   refine fR 1 (cs':=(mC (r,fr,t)).toArray) ?_;refine zL ?_
   try refine GA ?_
   exact dH (i:=1) I I I I I λw hm=>hm.ret
  rw[if_neg q1]at i4;obtain⟨xn,rfl⟩:=fJ (show 0<=x by omega);have hxt:xn<tags.length:=by omega
  have OB:=λ(L:List b_)=>gK (L:=L) lf htd hxt 0 _ I;rw[de,cH (l:=tags),bL hxt,jz]at i4;generalize tags[xn]=tg at*;have agp:∀(L:List b_),At (w:bV) L ⟨bt,LI+xn*1+0,aj⟩ (ap av tg):=OB
  by_cases q2:0<=tg
  ·rw[if_pos q2]at i4
   repeat(first|refine GC ?_|refine gV (fI (b:=aE) I I (decide_eq_false q1)) ?_|refine gV (aw aI.ty I (aD (i:=0) I (pq _ _ _))) ?_|refine gV (aR (j:=xn) bM.eq aI.ty I I hxt) ?_|refine gV (aw (v:=ap av tg) aI.ty I (agp _)) ?_|refine gV (fX (b:=aB) I I (decide_eq_true q2)) ?_|refine gV (dN (r:=((i+1:Nat):Int)) I I J J J) ?_|refine GB ?_)
   refine bD (i:=2) I I I I I I ?_;refine zL ?_
   try refine GA ?_
   refine bD (i:=2) I I I I I I ?_;refine zL ?_
   repeat(first|refine GC ?_|refine gV (dN (r:=((i+1:Nat):Int)) I I J J J) ?_|refine GB ?_)
   exact bQ (i+1,xn,tg,i+1) ⟨by show i+1<=s.length;omega,by show xn<N.length;omega,aX _,i4⟩ (by show s.length-(i+1)<s.length-i;omega)
  rw[if_neg q2]at i4
  repeat(first|refine GC ?_|refine gV (fI (b:=aE) I I (decide_eq_false q1)) ?_|refine gV (aw aI.ty I (aD (i:=0) I (pq _ _ _))) ?_|refine gV (aR (j:=xn) bM.eq aI.ty I I hxt) ?_|refine gV (aw (v:=ap av tg) aI.ty I (agp _)) ?_|refine gV (fX (b:=aE) I I (decide_eq_false q2)) ?_|refine gV (dN (r:=((i+1:Nat):Int)) I I J J J) ?_|refine GB ?_)
  exact bQ (i+1,xn,r,t) ⟨by show i+1<=s.length;omega,by show xn<N.length;omega,by show t<=i+1;omega,i4⟩ (by show s.length-(i+1)<s.length-i;omega)
 ·rw[yC J]at i4
  have i4:(r,t)=fin:=i4;subst i4;unfold afD
  by_cases e1:t=0
  ·subst e1
   rw[if_pos I]
   repeat(first|refine GC ?_|refine gV (aw (v:=ap av ((0:Nat):Int)) aI.ty I (aD (i:=2) I I)) ?_|refine gV (dc (b:=aB) I I (decide_eq_true (by simp))) ?_|refine gV (aZ I zm) ?_|refine GB ?_)
   refine fR 1 (cs':=(mC (0,0,0)).toArray) ?_;refine zL ?_
   try refine GA ?_
   exact dH (i:=1) I I I I I λw hm=>hm.ret
  rw[if_neg e1]
  repeat(first|refine GC ?_|refine gV (aw (v:=ap av (t:Int)) aI.ty I (aD (i:=2) I I)) ?_|refine gV (dc (b:=aE) I I (decide_eq_false J)) ?_|refine gV (aJ (i:=2) aI.ty I I I) ?_|refine GB ?_)
  refine fR 1 (cs':=(mC (r,fr,t)).toArray) ?_;refine zL ?_
  try refine GA ?_
  exact dH (i:=1) I I I I I λw hm=>hm.ret
noncomputable def Dd(o:Of)(N:List (List Int))(tags:List Int)(s:List UInt8):List Tok×Nat×Int:=if sj o N tags≠0 then([],0,sj o N tags)else if 2000<s.length then([],0,2)else wD o N tags s
theorem DQ{o:Of}{N:List (List Int)}{tags:List Int}{s:List UInt8}(h:sj o N tags=0)(hs:s.length<=2000):Dd o N tags s=wD o N tags s:=by
 unfold Dd;rw[if_neg (by simpa using h),if_neg J]
abbrev CL(v:Value)(l:List Tok):b_:=bm 111 3 v l.length (l.flatMap mC)
def G3(R:List Tok×Nat×Int):Spec Value:=⟨λ_=>True,λv=> .tuple #[v,ap av (R.2.1:Int),ap av R.2.2],λv=>[CL v R.1]⟩
theorem XY(v:Value)(l:List Tok)(x:Tok):CL v (l++[x])=bm 111 3 v (l.length+1) (l.flatMap mC++mC x):=by
 unfold CL;rw[bT,ie];simp
theorem afE(t:Tok):∀u∈mC t,u.oneCell'=true:=by
 intro u h;simp only[mC,dw,fC,or_false]at h;rcases h with rfl|rfl|rfl<;>rfl
theorem JI(o:Of)(vn vt:Value)(N:List (List Int))(tags:List Int)(s:List UInt8)(w:World)(h:PkI w vn vt N tags)(ho:∀b (h:b<256),o[b]<256)(hs:s.length<=9223372036854775807):
 Calls aC 30 #[PF o vn vt,str s] w (cJ (G3 (Dd o N tags s)) w):=by
 have fS:=λw' (hg:Gr w w')=>G2 o vn vt N tags s w' (h.gr hg) ho hs;have lh:=λhg hs (fr:Nat) hf w' (zh:Gr w w')=>LM o vn vt N tags s fr w' (h.gr zh) hg hs hf;have hA0:=λh=>DQ (o:=o) (N:=N) (tags:=tags) (s:=s) h;obtain⟨⟨an,cn,rfl,-⟩,at',ct,rfl,-⟩:=h
 by_cases c1:sj o N tags=0
 case neg=>
  have hA:Dd o N tags s=([],0,sj o N tags):=if_pos c1;rw[if_pos c1]at fS;rw[hA];clear hA0 hA lh;generalize sj o N tags=e at*;refine enter (args:=[PF o (ak an N.length cn) (ak at' tags.length ct),str s]) (n:=40) Tryz.func30 I I I ?_;refine bZ (bx (bH I I I λg2=>?_));refine zL ?_
  repeat(first|refine GA ?_|refine gV (aJ (i:=0) aI.ty I I (j0 _ _ _)) ?_)
  refine aT (gh aF.en I I I) (λw hm=>fS _ hm.below) I I I ?_;intro _ _;refine zL ?_
  repeat(first|refine GC ?_|refine gV (dh (b:=aB) I I (decide_eq_true c1)) ?_|refine GB ?_)
  refine eI 111 3 ?_;exact mW I I I I λw hm=>hm.meets (S:=G3 ([],0,e)) (ak aj 0 0) trivial [1] alt I
 by_cases c2:2000<s.length
 ·have hA:Dd o N tags s=([],0,2):=by unfold Dd;rw[if_neg (by simpa using c1),if_pos c2]
  rw[if_neg (by simpa using c1),if_pos c2]at fS;rw[hA];clear hA0 hA lh;refine enter (args:=[PF o (ak an N.length cn) (ak at' tags.length ct),str s]) (n:=40) Tryz.func30 I I I ?_;refine bZ (bx (bH I I I λg2=>?_));refine zL ?_
  repeat(first|refine GA ?_|refine gV (aJ (i:=0) aI.ty I I (j0 _ _ _)) ?_)
  refine aT (gh aF.en I I I) (λw hm=>fS _ hm.below) I I I ?_;intro _ _;refine zL ?_
  repeat(first|refine GC ?_|refine gV (dh (b:=aB) I I (decide_eq_true alt)) ?_|refine GB ?_)
  refine eI 111 3 ?_;exact mW I I I I λw hm=>hm.meets (S:=G3 ([],0,2)) (ak aj 0 0) trivial [1] alt I
 rw[if_neg (by simpa using c1),if_neg c2]at fS;have lh:=lh (XP c1) J;rw[hA0 c1 J];unfold wD;clear hA0 c1;refine enter (args:=[PF o (ak an N.length cn) (ak at' tags.length ct),str s]) (n:=40) Tryz.func30 I I I ?_;refine bZ (bx (bH I I I λg2=>?_));refine zL ?_
 repeat(first|refine GA ?_|refine gV (aJ (i:=0) aI.ty I I (j0 _ _ _)) ?_)
 refine aT (gh aF.en I I I) (λw hm=>fS _ hm.below) I I I ?_;intro _ _;refine zL ?_;clear fS
 repeat(first|refine GC ?_|refine gV (dh (b:=aE) I I (decide_eq_false (by simp))) ?_|refine GB ?_)
 refine iJ 111 3 ?_;generalize jh:l_ o N tags s (s.length+1) 0=fin;refine dZ (ι:=Nat×List Tok×Value×Nat) (λ(a,l,_,f)=>a<=s.length/\l.length<=a/\s.length<a+f/\fin=(l++(l_ o N tags s f a).1,(l_ o N tags s f a).2)) (λ(a,_,v,_)=>[(1,str s),(2,aH (ah ⟨g2,0,aj⟩)),(8,v),(9,ap av (a:Int))])
  (λ(_,l,v,_)=>[aK g2 (jk o (ak an N.length cn) (ak at' tags.length ct)).toArray 30,CL v l]) (λ(a,_,_,_)=>s.length-a) (0,[],ak aj 0 0,s.length+1) ⟨bC _,bC _,by omega,by rw[jh];rfl⟩ ?_
 clear jh;rintro⟨a,l,v,f⟩ ⟨i1,i2,i3,i4⟩;dsimp only at i1 i2 i3 i4⊢
 by_cases c1:a<s.length
 ·obtain⟨f,rfl⟩:∃f',f=f'+1:=⟨f-1,by omega⟩
  rw[qu,if_pos c1]at i4;have ht:=Vu (o:=o) (N:=N) (tags:=tags) (s:=s) (fr:=a) J;have lh:=lh a J;generalize cD o N tags s a=x at*;obtain⟨r,t⟩:=x;dsimp only at i4 ht;unfold afD at lh
  by_cases q1:t=0
  ·subst q1
   rw[if_pos I]at i4 lh;subst i4
   repeat(first|refine GA ?_|refine gV (aJ (i:=0) aI.ty I I (j0 _ _ _)) ?_)
   refine aT (xE aF.en I I I I) (λw hm=>lh _ hm.below) I I I ?_;intro _ _;refine zL ?_
   try refine GA ?_
   refine aY I λg10=>?_;refine zL ?_;refine fR 2 (cs':=(mC (0,0,0)).toArray) ?_;refine zL ?_
   try refine GA ?_
   exact mW I I I I λw hm=>hm.meets (S:=G3 (l++[],a,9)) v trivial [1] alt (by unfold G3;simp)
  rw[if_neg q1]at i4 lh;dsimp only at lh;have ht:=ht.resolve_left q1
  repeat(first|refine GA ?_|refine gV (aJ (i:=0) aI.ty I I (j0 _ _ _)) ?_)
  refine aT (xE aF.en I I I I) (λw hm=>lh _ hm.below) I I I ?_;intro _ _;refine zL ?_
  try refine GA ?_
  refine aY I λg10=>?_;refine zL ?_;refine fR 2 (cs':=(mC (r,a,t)).toArray) ?_;refine zL ?_
  try refine GA ?_
  refine dG ([aK g10 (mC (r,a,t)).toArray 111]) (.calm 0 (.calm 1 (.calm 4 (.calm 5 (.one 2 (.one 3 (.calm 6 (.calm 7 (.done))))))))) (bY [2]) ?_
  repeat(first|refine GW ?_|(refine GN ?_;first|refine QW (aJ (i:=0) aI.ty I I I) ?_|refine QW (aw (v:=ap av (t:Int)) aI.ty I (aD (i:=0) I I)) ?_))
  refine aM I (fz (cs:=(mC (r,a,t)).toArray) [aP (mC (r,a,t)).toArray] I I I (by intro v hv;simp at hv;subst hv;rfl) I I I λg35=>(aO (bY [2]) ?_));refine aM I (eM (i:=1) (e:=111) (size:=3) (bytes:=24) (m:=l.length) (xs:=l.flatMap mC) (k:=1) (ys:=mC (r,a,t)) I (kT (i:=3) I (λj u h=>by simpa using h) (aX 1) alt) I I I (λu hu=>afE _ u hu) J J I λv'=>(aO (bY [2]) ?_))
  try refine GW ?_
  try refine GA ?_
  refine dq [0,1] ?_;exact bQ (t,l++[(r,a,t)],v',f) ⟨ht.2,by show(l++[_]).length<=t;rw[bT,tu];omega,by show s.length<t+f;omega,by rw[i4];simp⟩ (by show s.length-t<s.length-a;omega) (hl:=by dsimp only;rw[XY];rfl)
 ·have e:l_ o N tags s f a=([],0,0):=by
   cases f with
   |zero=>rfl
   |succ f=>rw[qu,if_neg c1]
  rw[e]at i4;subst i4
  try refine GA ?_
  exact mW I I I I λw hm=>hm.meets (S:=G3 (l++[],0,0)) v trivial [1] alt (by unfold G3;simp)
open zP
theorem ka(R:List Row):(SB R).length=R.length:=by simp[SB]
theorem DR(R:List Row){i:Nat}(h:i<R.length):(SB R)[i]'(by grind[ka])=AV (nV R 256) i:=by simp[SB]
theorem afF(D:List DF)(i:Nat){j:Nat}(h:j<D.length):(AV D i).getD j 0=(D[j]).toList.getD i 0:=by
 simp_all[AV]
theorem afG(R:List Row)(hle:R.length<=200){i b:Nat}(hi:i<R.length)(hb:b<256):(AV (nV R 256) i).getD (pkN R b) 0=fP R i b:=by
 grind[DL,pkN,afF,mY,sQ,Gs]
theorem afH(o:Of)(N:List (List Int)){i:Nat}(h:i<N.length):(unR o N)[i]'(by grind[Vk])=rp λb:Fin 256=>N[i].getD o[b] 0:=by
 simp[unR]
theorem ajT(R:List Row)(hle:R.length<=200):unR (wq R 256) (SB R)=R:=by
 refine List.ext_getElem (by rw[Vk,ka]) λi h1 h2=>?_;have hi:i<R.length:=h2;rw[afH _ _ (by simp_all[ka]),DR R hi];refine Vector.ext λb hb=>?_;rw[kC];have e:(wq R 256)[b]'hb=pkN R b:=by
  unfold wq;rw[kC];simp[hb]
 show(AV (nV R 256) i).getD ((wq R 256)[b]'hb) 0=_
 rw[e,afG R hle hi hb,sf hi hb]
theorem afI{R:List Row}{c:DF}(h:c∈nV R 256):∃b,b<256/\c=sg R b:=by
 unfold nV at h;rcases kV.1 h with h|h
 cases h
 grind
theorem ah9{R:List Row}{tags:List Int}(h:lZ R tags=0){i:Nat}(hi:i<R.length){x:Int}(hx:x∈AV (nV R 256) i): -1<=x/\x<R.length:=by
 obtain⟨hA,_⟩:=oW h;unfold AV at hx;obtain⟨c,hc,rfl⟩:=fE.1 hx;obtain⟨b,hb,rfl⟩:=afI hc;rw[Gs R b i hi hA.le,sf hi hb];have:=hA.step i hi b hb;rw[N9 hi hb]at this;exact this
theorem agq{R:List Row}{tags:List Int}(h:lZ R tags=0):ac0 (wq R 256) (SB R) tags (nV R 256).length:=by
 obtain⟨hA,hl⟩:=oW h;have hle:R.length<=200:=hA.le;refine⟨by rw[ka];exact hA.pos,by simp_all[ka],by simp_all[ka],List.length_pos_of_mem (DL R (show 0<256 by decide)),DK R 256,λi hi=>?_,λi hi=>?_,λi hi j hj=>?_,λb hb=>?_⟩
 grind[ka,DR,AV]
 ·have:=hA.tags i (show i<R.length by omega)
  grind[Aw]
 ·have qw:i<R.length:=by grind[ka]
  have e:=DR R qw;have hx:(SB R)[i][j]∈AV (nV R 256) i:=e▸bX hj;rw[ka];exact ah9 h qw hx
 have e:(wq R 256)[b]'hb=pkN R b:=by
  simp[wq]
 simp_all[aco]
end cB
namespace pt
open Go.RowKit cL dV cB cX
def Yv(nx:Int->UInt8->Int)(tags:List Int):List UInt8->Nat->Int->Int->Nat->Int×Nat
 |[],_,_,r,t=>(r,t)
 | b::s,i,now,r,t=>
  if nx now b<0 then(r,t)
  else if 0<=tags.getD (nx now b).toNat 0 then Yv nx tags s (i+1) (nx now b) (tags.getD (nx now b).toNat 0) (i+1)
  else Yv nx tags s (i+1) (nx now b) r t
theorem B8{nx NY:Int->UInt8->Int}{tags:List Int}{n:Nat}(h:∀(q:Nat),q<n->∀b,nx q b=NY q b/\ -1<=nx q b/\nx q b<n):∀(s:List UInt8) (i q:Nat) (r:Int) (t:Nat),q<n->Yv nx tags s i q r t=Yv NY tags s i q r t
 |[],_,_,_,_,_=>rfl
 | b::s,i,q,r,t,hq=>by
  obtain⟨h1,h2,h3⟩:=h q hq b;unfold Yv;rw[<-h1]
  by_cases c:nx q b<0
  simp_all;rw[if_neg c,if_neg c];obtain⟨z,hz⟩:=fJ (show 0<=nx q b by omega);rw[hz]at h3⊢;rw[B8 h s (i+1) z _ _ J,B8 h s (i+1) z _ _ J]
theorem LN(o:Of)(N:List (List Int))(tags:List Int):∀(s:List UInt8) (i:Nat) (now r:Int) (t:Nat),qt o N tags s i now r t=Yv (Dc o N) tags s i now r t
 |[],_,_,_,_=>rfl
 |b::s,i,now,r,t=>by
  rw[tE,Yv,LN o N tags s,LN o N tags s]
def nxR(R:List Row)(now:Int)(b:UInt8):Int:=(R.getD now.toNat xt).toList.getD b.toNat 0
theorem ah_{o:Of}{N:List (List Int)}{tags:List Int}(h:nY o N tags){q:Nat}(hq:q<N.length)(b:UInt8):Dc o N (q:Int) b=nxR (unR o N) q b:=by
 obtain⟨_,hw,e,_⟩:=Te h hq b;rw[e];unfold nxR unR;rw[de,cH (l:=List.map _ _),iN,bL hq,SX,jz,cH,bL (by simpa using b.toNat_lt),jz,BT,kC];show _=N[q].getD (o[b.toNat]'b.toNat_lt) 0
 rw[cH,bL hw];rfl
def ue(R:List Row)(tags:List Int)(s:List UInt8)(fr:Nat):Int×Nat:=Yv (nxR R) tags (s.drop fr) fr 0 0 0
theorem ada{o:Of}{N:List (List Int)}{tags:List Int}(h:nY o N tags)(s:List UInt8)(fr:Nat):cD o N tags s fr=ue (unR o N) tags s fr:=by
 unfold cD ue;rw[LN];exact B8 (n:=N.length) (λq hq b=>⟨ah_ h hq b,(Te h hq b).2.2.2⟩) _ fr 0 0 0 h.pos
def xw(R:List Row)(tags:List Int)(s:List UInt8):Nat->Nat->List Tok×Nat×Int
 |0,_=>([],0,0)
 |f+1,at'=>if at'<s.length then(if(ue R tags s at').2=0 then([],at',9)else((((ue R tags s at').1,at',(ue R tags s at').2)::(xw R tags s f (ue R tags s at').2).1),(xw R tags s f (ue R tags s at').2).2))else([],0,0)
theorem O9{o:Of}{N:List (List Int)}{tags:List Int}(h:nY o N tags)(s:List UInt8):∀f at',l_ o N tags s f at'=xw (unR o N) tags s f at'
 |0,_=>rfl
 |f+1,at'=>by rw[qu,xw,ada h,O9 h s f]
theorem XZ{o:Of}{N:List (List Int)}{tags:List Int}(h:nY o N tags)(s:List UInt8):wD o N tags s=xw (unR o N) tags s (s.length+1) 0:=O9 h s _ _
end pt
namespace cB
open Go.RowKit cL dV cX
theorem Mem.pkI{B:bV}{w:World}{L:List b_}{i j k g:Nat}{R:List Row}{tags:List Int}{vs:Nat->Value}{vt:Value}(hm:Mem B L w)(hi:L[i]?=ah (fA 26 y9 g R.length vs))(hj:L[j]?=ah (XJ R.length (nV R 256) vs))(hk:L[k]?=ah (bm 3 1 vt tags.length (tags.flatMap cL.eP)))(hc:lZ R tags=0):
 PkI w (ak (ah ⟨g,0,aj⟩) R.length R.length) vt (SB R) tags:=by
 have h1:(fA 26 y9 g R.length vs).holds w:=hm.get hi;have h2:(XJ R.length (nV R 256) vs).holds w:=hm.get hj;have ok:=agq hc;refine⟨⟨ah ⟨g,0,aj⟩,R.length,by rw[ka],by simp[ka],by have:=ok.le;rw[ka]at this;unfold maxLen;omega,λh0=>⟨g,0,rfl,?_,λi hi=>⟨[vs i],⟨vs i,rfl,?_⟩,λj u hj=>?_⟩⟩⟩,lT hk _ hm⟩
 ·rw[ka]at h0
  exact q7 w _ (Bv h1 h0)
 ·have Qv:i<R.length:=by simp_all[ka]
  have h3:(bm 3 1 (vs i) (nV R 256).length ((AV (nV R 256) i).flatMap cL.eP)).holds w:=h2.1 i Qv;have h4:Sl w (vs i) (nV R 256).length ((AV (nV R 256) i).flatMap cL.eP):=Sl.dF h3;have e:(SB R)[i]=AV (nV R 256) i:=DR R Qv;have hl:(AV (nV R 256) i).length=(nV R 256).length:=dY ..;refine jO.of_flat (by rw[e,hl];exact h4) (λx hx=>?_) (λb hb=>?_) λa n cp hv=>?_
  ·obtain⟨q,hq,rfl⟩:=ku.1 hx
   have:=ok.rng i hi q hq;have:=ok.le;exact⟨by omega,by omega⟩
  exact b_.lt _ w h3 b (.inl hb);exact b_.lt _ w h3 a.block (.inl (by rw[hv];rfl))
 ·have Qv:i<R.length:=by simp_all[ka]
  have hj0:j=0:=by grind
  subst hj0;simp only[uv,dM]at hj;subst hj;have:=Bv h1 Qv;show w.cell? ⟨g,0+i*1+0,aj⟩=ah (vs i)
  simp_all
theorem Vv(R:List Row):∀b (h:b<256),(wq R 256)[b]<256:=λb hb=>by
 grind[wq,Vd]
theorem LO{R:List Row}{tags:List Int}(h:lZ R tags=0):nY (wq R 256) (SB R) tags:=by
 have ok:=agq h;have:((SB R).headD []).length=(nV R 256).length:=by
  have h0:=ok.pos;have:=ok.row 0 h0
  cases hR:SB R with
  |nil=>grind
  |cons x r=>simp_all
 grind
end cB
namespace bK
open aL dI eh dA cX
open wX (dU)
section
variable{l:List aL.Prod}{T N:Nat}{lk:Int->Int->Nat}{Nx:List (List Int)}{S:List (List Item)}{w:List Int}
variable{E R M:List Bool}{F W:List Nat}
theorem drop_cons{α:Type}{b:List α}{d:Nat}{y:α}{r:List α}(h:b.drop d=y::r):b[d]?=ah y/\b.drop (d+1)=r/\d<b.length:=by
 grind[ia,dL]
structure LrH(l:List aL.Prod)(T N:Nat)(lk:Int->Int->Nat)(Nx:List (List Int))(S:List (List Item))(w:List Int)(E:List Bool)(F W:List Nat)(R M:List Bool):Prop where
 wide:∀q∈l,q.2.length<=8
 Dv:l.length<=40
 aQ:T<=30
 bB:0<N
 X0:fY N l
 pO:∀q∈l,∀x∈q.2,x.1=1->0<=x.2/\x.2<(T:Int)
 all:K0 l T N lk S.length Nx S
 calm:I' l T Nx S
 facts:jU l E F W R M
 looks:∀p d:Int,0<=p->p<=(l.length:Int)->0<=d->lk p d=eA E F ((dR l p).drop (d.toNat+1)) (2^62)
 word:∀x∈w,0<=x/\x<(T:Int)
theorem jI(hI:K0 l T N lk S.length Nx S){q:Nat}(hq:q<S.length):∀it∈S.getD q [],ef l T it:=by
 have te:S.getD q []=S[q]:=by simp_all
 rw[te];exact hI.ss.right _ (bX hq)
theorem ah'(h:LrH l T N lk Nx S w E F W R M){a:Nat}{v:Int}{r:List Int}(hd:w.drop a=v::r):a<w.length/\(dU T w a:Int)=v/\0<=v/\v<(T:Int):=by
 have ha:a<w.length:=by
  grind[ia]
 rw[dL ha]at hd;simp only[fL]at hd;have hv:=h.word w[a] (bX ha);unfold dU;rw[if_pos ha,cH,bL ha,jz];rw[hd.1]at hv⊢;exact⟨ha,by omega,hv⟩
theorem adb(h:LrH l T N lk Nx S w E F W R M)(a:Nat):dU T w a<=T:=by
 unfold dU;split
 ·rename_i ha
  rw[cH,bL ha,jz];have:=h.word w[a] (bX ha);omega
 omega
mutual
theorem O_(h:LrH l T N lk Nx S w E F W R M):∀{t:Tree} {x:bJ} {a q:Nat} {σ:List Nat} {it:Item},dm l t x a->x.1=2->q<S.length->it∈S.getD q []->lg l it=ah x->(oV lk it).testBit (dU T w (a+leaves t))=aB->a+leaves t<=w.length->(∃r,w.drop a=eU l t++r)->
 ∃s,s<S.length/\rz it∈S.getD s []/\xr l T Nx S w (q::σ) a (K2 l t) (s::q::σ) (a+leaves t)
 | .mk p k kids,x,a,q,σ,it,hr,hx,hq,hit,hn,Hx,ha,hy=>by
  have hp:0<=p:=by
   rcases mw hr with⟨h1,_⟩|⟨_,h1⟩
   omega;exact h1
  obtain⟨_,h2,h3,h4,h5⟩:=wU hr hp;subst h4;have hlv:leaves (.mk p 0 kids)=cC kids:=by simp_all[leaves,if_neg]
  rw[hlv]at Hx ha⊢;rw[hJ]at hy;obtain⟨i,rfl⟩:=fJ hp;obtain⟨xk,xn⟩:=x;have hx:xk=2:=hx;subst hx;have h3:(a_ l (i:Int)).1=xn:=h3;have Xd:=adb h (a+cC kids);have aeb:(((i:Int),0,(dU T w (a+cC kids):Int)):Item)∈S.getD q []:=abA h.all hq hit ⟨xn,i,_,hn,by omega,h3,Xd,Hx,rfl⟩;have FK:dR l (i:Int)=(a_ l (i:Int)).2:=by unfold dR;rw[if_neg J]
  obtain⟨τ,s,k2,k3,k4,k5⟩:=G4 h (q:=q) (σ:=σ) (it:=((i:Int),0,(dU T w (a+cC kids):Int))) h5 hq aeb (by simp_all) rfl ha hy;have ajU:a_ l (i:Int)∈l:=ee hp h2;have hN:=h.X0 _ ajU;obtain⟨tq,g1,g2,g3⟩:=aeM h.all h.wide h.Dv h.aQ hq (n:=xn) J hit hn;refine⟨tq,g1,g3,?_⟩;have hlen:=nI h5;rw[FV J hlen];have abP:jG l T Nx S s (dU T w (a+cC kids))=(2,(i:Int)):=by
   refine R5 h.calm k2 Xd k3 ?_ ?_ I;show(i:Int)<_;omega
   simp
  exact k5.Q_ (.reduce abP k4 (by simp_all) .nil)
theorem G4(h:LrH l T N lk Nx S w E F W R M):∀{ks:List Tree} {b:List bJ} {a q:Nat} {σ:List Nat} {it:Item},b9 l ks b a->q<S.length->it∈S.getD q []->(dR l it.1).drop it.2.1.toNat=b->it.2.2=(dU T w (a+cC ks):Int)->a+cC ks<=w.length->(∃r,w.drop a=eV l ks b++r)->
 ∃(τ:List Nat) (s:Nat),s<S.length/\((it.1,it.2.1+(b.length:Int),it.2.2):Item)∈S.getD s []/\(s::τ).drop b.length=q::σ/\xr l T Nx S w (q::σ) a (ks.flatMap (K2 l)) (s::τ) (a+cC ks)
 | [],[],a,q,σ,it,hr,hq,hit,hb,hc,ha,hy=>by
  refine⟨σ,q,hq,?_,rfl,.nil⟩;have e:((it.1,it.2.1+(([]:List bJ).length:Int),it.2.2):Item)=it:=by
   obtain⟨i1,i2,i3⟩:=it;simp
  rw[e];exact hit
 |[],_::_,a,q,σ,it,hr,hq,hit,hb,hc,ha,hy=>by cases hr
 | .mk p k kids::r,[],a,q,σ,it,hr,hq,hit,hb,hc,ha,hy=>by cases hr
 | .mk p k kids::r,y::b,a,q,σ,it,hr,hq,hit,hb,hc,ha,hy=>by
  rw[b9]at hr;obtain⟨Wg,qE⟩:=hr;obtain⟨b1,b2,b3⟩:=drop_cons hb;have hR:=jI h.all hq it hit;have hn:lg l it=ah y:=b1;rw[cC]at hc ha;have ak_:(rz it).2.1.toNat=it.2.1.toNat+1:=by
   show(it.2.1+1).toNat=_
   have:=hR.2.2.1;omega
  have Mn:(dR l (rz it).1).drop (rz it).2.1.toNat=b:=by rw[ak_];exact b2
  have agr:(((rz it).1,(rz it).2.1+(b.length:Int),(rz it).2.2):Item)=(it.1,it.2.1+((y::b).length:Int),it.2.2):=by
   show(it.1,it.2.1+1+(b.length:Int),it.2.2)=_
   grind
  have xI:∀{ρ:List Nat} {s:Nat},ρ.drop b.length=s::q::σ->ρ.drop (y::b).length=q::σ:=λ{ρ s} hd=>by
   rw[dj,A8,<-kw];rw[A8]at*;have:ρ.drop (b.length+1)=(ρ.drop b.length).drop 1:=by simp
   simp_all
  rw[jy]at hy;rw[lQ,cC];rcases mw Wg with⟨hy1,rfl,rfl⟩|⟨hy1,hp⟩
  ·have hlf:leaves (.mk (-1) k [])=1:=by rfl
   rw[hlf]at hc ha qE⊢;have hk:k=(a:Int):=by
    simp_all[dm]
   subst hk;have hyX:dJ l (.mk (-1) (a:Int) []) y=[y.2]:=by rfl
   rw[hyX]at hy;obtain⟨rr,hy⟩:=hy;rw[eu,List.singleton_append]at hy;obtain⟨c1,c2,c3,c4⟩:=ah' h hy;obtain⟨yk,yn⟩:=y;have hy1:yk=1:=hy1;subst hy1;obtain⟨t,rfl⟩:=fJ c3;have c2:((dU T w a:Nat):Int)=(t:Int):=c2;have c2:dU T w a=t:=by omega
   obtain⟨s,s1,s2,s3⟩:=Xe h.all h.wide h.Dv h.aQ h.calm hq (by omega:t<T) hit hn;have hd1:w.drop (a+1)=eV l r b++rr:=by
    rw[<-kw,hy];rfl
   obtain⟨τ,s',g1,g2,g3,g4⟩:=G4 h (q:=s) (σ:=q::σ) (it:=rz it) qE s1 s3 Mn (by grind) J ⟨rr,hd1⟩;rw[agr]at g2;refine⟨τ,s',g1,g2,xI g3,?_⟩;rw[show a+(1+cC r)=a+1+cC r by omega,FW];exact .shift c1 (by simp_all) g4
  have hy2:y.1=2:=by
   rcases Jb h.X0 h.bB (p:=it.1) y (kr b1)with h'|h'
   omega;exact h'.1
  have hyX:dJ l (.mk p k kids) y=eU l (.mk p k kids):=by unfold dJ;rw[if_neg (by show ¬p<0;omega)]
  rw[hyX]at hy;obtain⟨rr,hy⟩:=hy;rw[eu]at hy;have hbs:∀x∈b,x.1=1\/x.1=2:=λx hx=>by
   rcases Jb h.X0 h.bB (p:=it.1) x (by grind)with h'|h'
   omega;exact .inr h'.1
  have hyl:(eU l (.mk p k kids)).length=leaves (.mk p k kids):=by grind[kY]
  have hd1:w.drop (a+leaves (.mk p k kids))=eV l r b++rr:=by
   grind[kw,List.drop_left]
  have Hx:=Xf (w:=w) (u:=a+leaves (.mk p k kids)) h.facts h.X0 h.looks h.aQ h.word hR b2 hbs qE ⟨rr,hd1⟩ J (by grind);obtain⟨s,s1,s3,s4⟩:=O_ h (σ:=σ) Wg hy2 hq hit hn Hx J ⟨_,hy⟩;obtain⟨τ,s',g1,g2,g3,g4⟩:=G4 h (q:=s) (σ:=q::σ) (it:=rz it) qE s1 s3 Mn (by grind) J ⟨rr,hd1⟩;rw[agr]at g2;refine⟨τ,s',g1,g2,xI g3,?_⟩;rw[show a+(leaves (.mk p k kids)+cC r)=a+leaves (.mk p k kids)+cC r by omega];exact s4.Q_ g4
end
theorem B9(h:LrH l T N lk Nx S w E F W R M){t:Tree}(ht:dm l t (2,0) 0)(hy:eU l t=w):∃s ρ,xr l T Nx S w [0] 0 (K2 l t) (s::ρ) w.length/\jG l T Nx S s (dU T w w.length)=(3,0):=by
 have hp:0<=t.prod:=by
  obtain⟨p,k,kids⟩:=t;rcases mw ht with⟨h1,_⟩|⟨_,h1⟩
  omega
  exact h1
 have hl:leaves t=w.length:=by
  have:=kY ht;unfold dJ at this;rw[if_neg J,hy]at this;exact this.symm
 have Xg:dU T w w.length=T:=by simp[dU]
 have h0:=(dK.1 h.all.start).1;have te:S.getD 0 []=mB l T lk:=by rw[cH,h.all.start];rfl
 have hst:=fU (l:=l) (T:=T) h.Dv h.aQ;have hit:(((l.length:Int),0,(T:Int)):Item)∈S.getD 0 []:=by
  rw[te];exact(eZ (lk:=lk) h.wide h.Dv h.aQ hst).2 (.base (ez.2 I))
 have FK:dR l (l.length:Int)=[(2,0)]:=by simp[dR]
 have hn:lg l ((l.length:Int),0,(T:Int))=ah (2,0):=by
  show(dR l (l.length:Int))[0]?=_
  simp_all
 obtain⟨s,s1,s2,s3⟩:=O_ h (σ:=[]) ht rfl h0 hit hn (by
  rw[cU,hl];have hR:=jI h.all h0 _ hit;refine(Ja (by have:=adb h w.length;have:=h.aQ;omega) hR.2.2.2.2.1).2 (.inr ⟨?_,by simp_all⟩);rw[h.looks _ _ hR.1 hR.2.1 hR.2.2.1];show(eA E F ((dR l (l.length:Int)).drop 1) (2^62)).testBit 62=aB
  rw[FK];show(0|||2^62:Nat).testBit 62=aB
  rfl) J ⟨[],by simp_all⟩
 rw[cU,hl]at s3;refine⟨s,[0],s3,?_⟩;rw[Xg];exact R6 h.calm s1 s2
theorem aia(h:LrH l T N lk Nx S w E F W R M){t t':Tree}(ht:dm l t (2,0) 0)(hy:eU l t=w)(ht':dm l t' (2,0) 0)(hy':eU l t'=w):t=t':=by
 obtain⟨s,ρ,h1,h2⟩:=B9 h ht hy;obtain⟨s',ρ',h3,h4⟩:=B9 h ht' hy';have e:=h1.det h3 (λq ρ e=>by simp_all) (λq ρ e=>by simp_all);have hh:∀p∈l,0<=p.1:=λp hp=>(h.X0 p hp).1;have r1:=R4 (P:=[]) (r:=[]) hh ht;have r2:=R4 (P:=[]) (r:=[]) hh ht';rw[e]at r1;rw[r1]at r2;simp only[K1,dM,ju,fD,fL,and_true]at r2;exact r2.1.1
end
open rj
open wX (dU)
section
variable{l:List aL.Prod}{T N:Nat}{lk:Int->Int->Nat}{Nx:List (List Int)}{S:List (List Item)}
inductive Hn(l:List aL.Prod)(T N:Nat)(lk:Int->Int->Nat)(S:List (List Item)):List Nat->List (bJ×Tree)->Nat->Prop
 |start:Hn l T N lk S [0] [] 0
 |push {q s:Nat} {σ:List Nat} {ts:List (bJ×Tree)} {a:Nat} {x:bJ} {t:Tree} (h:Hn l T N lk S (q::σ) ts a) (hs:s<S.length) (hx:S.getD s []=hZ l T lk (S.getD q []) x) (hne:hZ l T lk (S.getD q []) x≠[]) (ht:dm l t x a):Hn l T N lk S (s::q::σ) ((x,t)::ts) (a+leaves t)
def nZ(l:List aL.Prod)(ts:List (bJ×Tree)):List Int:=ts.reverse.flatMap λx=>dJ l x.2 x.1
def upK(l:List aL.Prod)(ts:List (bJ×Tree)):List bJ:=ts.reverse.flatMap λx=>K2 l x.2
theorem wE(x:bJ)(t:Tree)(ts:List (bJ×Tree)):nZ l ((x,t)::ts)=nZ l ts++dJ l t x:=by simp[nZ]
theorem G5(x:bJ)(t:Tree)(ts:List (bJ×Tree)):upK l ((x,t)::ts)=upK l ts++K2 l t:=by simp[upK]
theorem Hn.ne{σ:List Nat}{ts:List (bJ×Tree)}{a:Nat}(h:Hn l T N lk S σ ts a):∃q ρ,σ=q::ρ:=by cases h<;>simp
theorem Hn.len{σ:List Nat}{ts:List (bJ×Tree)}{a:Nat}(h:Hn l T N lk S σ ts a):σ.length=ts.length+1:=by
 induction h with
 |start=>rfl
 |push _ _ _ _ _ ih=>simp_all
theorem G6:∀{ks Un:List Tree} {b b':List bJ} {a:Nat},b9 l ks b a->b9 l Un b' (a+cC ks)->b9 l (ks++Un) (b++b') a
 |[],_,[],_,_,_,h=>h
 |[],_,_::_,_,_,h,_=>by simp_all[b9]
 |_::_,_,[],_,_,h,_=>by simp_all[b9]
 |k::r,_,y::b,_,a,h,h'=>by
  rw[b9]at h;rw[mg,mg,b9];refine⟨h.1,G6 h.2 ?_⟩;rw[cC]at h';rw[iO];exact h'
theorem uW:∀(ks Un:List Tree),cC (ks++Un)=cC ks+cC Un
 |[],Un=>by simp[cC]
 |k::r,Un=>by simp[cC,uW,iO]
theorem G7:∀(us:List (bJ×Tree)),eV l (us.map (·.2)) (us.map (·.1))=us.flatMap λx=>dJ l x.2 x.1
 |[]=>rfl
 |(x,t)::r=>by rw[fm,fm,jy,G7 r,lQ]
section
variable(hI:K0 l T N lk S.length Nx S)(hw:∀q∈l,q.2.length<=8)(hl:l.length<=40)(hT:T<=30)
include hI hw hl hT
omit hw hl hT in
theorem Th{q:Nat}{σ:List Nat}{ts:List (bJ×Tree)}{a:Nat}(h:Hn l T N lk S (q::σ) ts a):q<S.length:=by
 cases h with
 |start=>exact(dK.1 hI.start).1
 |push _ hs _ _ _=>omega
omit hw hl hT in
theorem aib:S.getD 0 []=mB l T lk:=by rw[cH,hI.start];rfl
omit hI in
theorem JJ{s:List Item}(hs:∀it∈s,ef l T it){x:bJ}{it:Item}(h:it∈hZ l T lk s x):(∃PE∈s,lg l PE=ah x/\it=rz PE)\/∃it2∈hZ l T lk s x,C6 l T lk it2 it:=by
 have hm:=(eZ (lk:=lk) hw hl hT (iB (x:=x) hs) (x:=it)).1 h
 cases hm with
 |base hb=>
  obtain⟨PE,h1,h2,h3⟩:=An.1 hb;exact .inl ⟨PE,h1,h2,h3⟩
 |step h1 h2=>exact .inr ⟨_,(eZ (lk:=lk) hw hl hT (iB hs)).2 h1,h2⟩
omit hI hw hl hT in
theorem LP{it2 it:Item}(h:C6 l T lk it2 it):it.2.1=0/\it.1<(l.length:Int)/\0<=it.1:=by
 obtain⟨_,i,k,_,h2,_,_,_,rfl⟩:=h;exact⟨rfl,by show(i:Int)<_;omega,by show(0:Int)<=i;omega⟩
theorem ade{q:Nat}{σ:List Nat}{ts:List (bJ×Tree)}{a:Nat}(h:Hn l T N lk S (q::σ) ts a){it:Item}(hit:it∈S.getD q [])(hd:it.2.1≠0):
 ∃(q':Nat) (σ':List Nat) (x:bJ) (t:Tree) (AT:List (bJ×Tree)) (a':Nat) (PE:Item),σ=q'::σ'/\ts=(x,t)::AT/\Hn l T N lk S (q'::σ') AT a'/\dm l t x a'/\a=a'+leaves t/\PE∈S.getD q' []/\lg l PE=ah x/\it=rz PE:=by
 cases h with
 |start=>
  exfalso
  rw[aib hI]at hit;have hm:=(eZ (lk:=lk) hw hl hT (fU hl hT) (x:=it)).1 hit
  cases hm with
  |base hb=>simp_all
  |step h1 h2=>exact hd (LP h2).1
 |push h hs hx hne ht=>
  have hq:=Th hI h;rw[hx]at hit;rcases JJ hw hl hT (jI hI hq) hit with⟨PE,h1,h2,h3⟩|⟨it2,h1,h2⟩
  grind;exact absurd (LP h2).1 hd
theorem xf:∀(d:Nat) {q:Nat} {σ:List Nat} {ts:List (bJ×Tree)} {a:Nat},Hn l T N lk S (q::σ) ts a->∀{it:Item},it∈S.getD q []->it.2.1=(d:Int)->
 ∃(q':Nat) (σ':List Nat) (us AT:List (bJ×Tree)) (a':Nat),(q::σ).drop d=q'::σ'/\ts=us++AT/\us.length=d/\Hn l T N lk S (q'::σ') AT a'/\b9 l (us.reverse.map (·.2)) ((dR l it.1).take d) a'/\us.reverse.map (·.1)=(dR l it.1).take d/\a=a'+cC (us.reverse.map (·.2))/\((it.1,0,it.2.2):Item)∈S.getD q' []
 | 0,q,σ,ts,a,h,it,hit,hd=>by
  refine⟨q,σ,[],ts,a,rfl,rfl,rfl,h,?_,rfl,rfl,?_⟩
  simp[b9]
  grind
 | d +1,q,σ,ts,a,h,it,hit,hd=>by
  obtain⟨q1,σ1,x,t,ts1,a1,it1,rfl,rfl,h1,ht,rfl,ak',hn,rfl⟩:=ade hI hw hl hT h hit J;have hd1:it1.2.1=(d:Int):=by simp_all[rz]
  obtain⟨q',σ',us,AT,a',e1,rfl,e3,e4,e5,e6,rfl,e8⟩:=xf d h1 ak' hd1;have hb:(dR l it1.1).take (d+1)=(dR l it1.1).take d++[x]:=by
   grind[lg,ic]
  refine⟨q',σ',(x,t)::us,AT,a',?_,rfl,by simp_all,e4,?_,?_,?_,e8⟩;rw[List.drop_succ_cons];exact e1
  ·show b9 l (((x,t)::us).reverse.map (·.2)) ((dR l it1.1).take (d+1)) a'
   rw[hb,SU,eK];refine G6 e5 ?_;show b9 l [t] [x] _
   rw[b9,b9];exact⟨ht,trivial⟩
  ·show((x,t)::us).reverse.map (·.1)=(dR l it1.1).take (d+1)
   simp_all
  grind[uW,cC]
theorem Ti{q:Nat}{σ:List Nat}{ts:List (bJ×Tree)}{a:Nat}(h:Hn l T N lk S (q::σ) ts a){k:Int}(hit:(((l.length:Int),0,k):Item)∈S.getD q []):σ=[]/\q=0/\ts=[]/\a=0:=by
 cases h with
 |start=>simp
 | push h hs hx hne ht=>
  exfalso
  have hq:=Th hI h;rw[hx]at hit;rcases JJ hw hl hT (jI hI hq) hit with⟨PE,h1,h2,h3⟩|⟨it2,h1,h2⟩
  ·have h4:=jI hI hq PE h1
   have h5:(rz PE).2.1=PE.2.1+1:=rfl;rw[<-h3]at h5;have:=h4.2.2.1;have h6:(0:Int)=PE.2.1+1:=h5;omega
  have:=(LP h2).2.1;have h3:(l.length:Int)<(l.length:Int):=this;omega
theorem Tj{q:Nat}{σ:List Nat}{ts:List (bJ×Tree)}{a:Nat}(h:Hn l T N lk S (q::σ) ts a){k:Int}(hit:(((l.length:Int),1,k):Item)∈S.getD q []):∃t,ts=[((2,0),t)]/\dm l t (2,0) 0:=by
 obtain⟨q',σ',us,AT,a',e1,rfl,e3,e4,e5,e6,e7,e8⟩:=xf hI hw hl hT 1 h hit rfl;obtain⟨rfl,rfl,rfl,rfl⟩:=Ti hI hw hl hT e4 e8;have hb:(dR l (l.length:Int)).take 1=[(2,0)]:=by simp[dR]
 match us,e3 with
 |[(x,t)],_=>
  rw[hb]at e5 e6;simp only[SU,List.reverse_nil,fD,fm,mU,fL,and_true]at e5 e6;subst e6;rw[b9]at e5;exact⟨t,rfl,e5.1⟩
theorem Tk{q tq r:Nat}{σ ρ:List Nat}{ts:List (bJ×Tree)}{a:Nat}(h:Hn l T N lk S (q::σ) ts a){p k:Int}(h0:0<=p)(h1:p<(l.length:Int))(hit:((p,((a_ l p).2.length:Int),k):Item)∈S.getD q [])(hd:(q::σ).drop (a_ l p).2.length=r::ρ)(htq:tq<S.length)(hx:S.getD tq []=hZ l T lk (S.getD r []) (2,(a_ l p).1))(hne:hZ l T lk (S.getD r []) (2,(a_ l p).1)≠[]):
 ∃ts2,Hn l T N lk S (tq::r::ρ) ts2 a/\nZ l ts2=nZ l ts/\upK l ts2=upK l ts++[(4,p)]:=by
 obtain⟨q',σ',us,AT,a',e1,rfl,e3,e4,e5,e6,rfl,e8⟩:=xf hI hw hl hT _ h hit rfl;rw[hd]at e1;obtain⟨rfl,rfl⟩:=yR e1;have hb:dR l p=(a_ l p).2:=by unfold dR;rw[if_neg J]
 have Qw:(dR l p).take (a_ l p).2.length=(a_ l p).2:=by simp_all
 rw[Qw]at e5 e6;have hle:=nI e5;have hR:dm l (.mk p 0 (us.reverse.map (·.2))) (2,(a_ l p).1) a':=by
  simp_all[dm]
 have hlv:leaves (.mk p 0 (us.reverse.map (·.2)))=cC (us.reverse.map (·.2)):=by simp_all[leaves,if_neg]
 have hst:=Hn.push e4 htq hx hne hR;rw[hlv]at hst;refine⟨_,hst,?_,?_⟩
 ·rw[wE]
  have hy:nZ l (us++AT)=nZ l AT++us.reverse.flatMap λx=>dJ l x.2 x.1:=by simp[nZ]
  rw[hy]
  congr 1
  have hX:dJ l (.mk p 0 (us.reverse.map (·.2))) (2,(a_ l p).1)=eV l (us.reverse.map (·.2)) (a_ l p).2:=by
   unfold dJ;rw[if_neg (by show ¬p<0;omega)];exact hJ ..
  grind[G7]
 ·rw[G5]
  have hy:upK l (us++AT)=upK l AT++us.reverse.flatMap λx=>K2 l x.2:=by simp[upK]
  rw[hy,FV h0 hle,eu]
  congr 2
  rw[List.flatMap_map]
end
end
open gI (xe zb tD wC)
open wX (dU)
section
variable(l:List aL.Prod)(act:Nat->Nat->Act)(gt:Nat->Int->Int)
def zc(σ:List Nat)(p:Int):Option (List Nat):=match σ.drop (a_ l p).2.length with
 |r::ρ=>if 0<=gt r (a_ l p).1 then ah ((gt r (a_ l p).1).toNat::r::ρ)else aj
 |[]=>aj
def eB(col a:Nat):Nat->List Nat->List bJ->Int×List Nat×List bJ
 |0,_,_=>(14,[],[])
 | f +1,σ,o=>
  if f=0/\(act (σ.headD 0) col).1≠0 then(14,[],[])
  else if(act (σ.headD 0) col).1=3 then(0,σ,o)
  else if(act (σ.headD 0) col).1=1 then(if 60<σ.length+1 then(14,[],[])else(0,(act (σ.headD 0) col).2.toNat::σ,o++[(2,(a:Int))]))
  else if(act (σ.headD 0) col).1=2 then(match zc l gt σ (act (σ.headD 0) col).2 with
   |none=>(13,[],[])
   |some σ'=>if 60<σ'.length then(14,[],[])else eB col a f σ' (o++[(4,(act (σ.headD 0) col).2)]))
  else(13,[],[])
def G8(T:Nat):List Int->List Nat->Nat->List bJ->List bJ×Nat×Int
 |[],σ,a,out=>(out++(eB l act gt T a 2001 σ []).2.2,a,(eB l act gt T a 2001 σ []).1)
 |t::r,σ,a,out=>if(eB l act gt t.toNat a 2001 σ []).1≠0 then(out,a,(eB l act gt t.toNat a 2001 σ []).1)else G8 T r (eB l act gt t.toNat a 2001 σ []).2.1 (a+1) (out++(eB l act gt t.toNat a 2001 σ []).2.2)
def ma(T f:Nat)(σ:List Nat)(o:List bJ):List Int->Nat->List bJ->List bJ×Nat×Int
 |[],a,out=>(out++(eB l act gt T a f σ o).2.2,a,(eB l act gt T a f σ o).1)
 |t::r,a,out=>if(eB l act gt t.toNat a f σ o).1≠0 then(out,a,(eB l act gt t.toNat a f σ o).1)else G8 l act gt T r (eB l act gt t.toNat a f σ o).2.1 (a+1) (out++(eB l act gt t.toNat a f σ o).2.2)
end
section
variable{l:List aL.Prod}{act:Nat->Nat->Act}{gt:Nat->Int->Int}{T N:Nat}{lk:Int->Int->Nat}{Nx:List (List Int)}{S:List (List Item)}
theorem Pa(r:List Int)(σ:List Nat)(a:Nat)(out:List bJ):G8 l act gt T r σ a out=ma l act gt T 2001 σ [] r a out:=by cases r<;>rfl
theorem Vw:∀(r:List Int) (σ:List Nat) (a:Nat) (out:List bJ),a<=(G8 l act gt T r σ a out).2.1
 |[],_,_,_=>aX _
 |t::r,σ,a,out=>by
  rw[G8];split;exact aX _;exact eL (EI a) (Vw r _ (a+1) _)
theorem G9(f:Nat)(σ:List Nat)(o:List bJ):∀(r:List Int) (a:Nat) (out:List bJ),a<=(ma l act gt T f σ o r a out).2.1
 |[],_,_=>aX _
 |t::r,a,out=>by
  rw[ma];split;exact aX _;exact eL (EI a) (Vw r _ (a+1) _)
theorem adf{col a:Nat}{σ:List Nat}{o:List bJ}(hA:act (σ.headD 0) col=(3,0)):∀f,eB l act gt col a f σ o=(14,[],[])\/eB l act gt col a f σ o=(0,σ,o)
 |0=> .inl I
 |f+1=>by
  rw[eB,hA]
  grind
theorem Tl{col a s:Nat}{σ:List Nat}{o:List bJ}(hA:act (σ.headD 0) col=(1,(s:Int))):∀f,eB l act gt col a f σ o=(14,[],[])\/eB l act gt col a f σ o=(0,s::σ,o++[(2,(a:Int))])
 |0=> .inl I
 |f+1=>by
  rw[eB,hA]
  grind
theorem adg{col a:Nat}{p:Int}{σ σ':List Nat}{o:List bJ}(hA:act (σ.headD 0) col=(2,p))(abP:zc l gt σ p=ah σ'):∀f,eB l act gt col a f σ o=(14,[],[])\/∃f',eB l act gt col a f σ o=eB l act gt col a f' σ' (o++[(4,p)])
 |0=> .inl I
 |f+1=>by
  rw[eB,hA]
  grind
theorem AJ{col a:Nat}:∀(f:Nat) (σ:List Nat) (o:List bJ),(eB l act gt col a f σ o).1=0\/(eB l act gt col a f σ o).1=13\/(eB l act gt col a f σ o).1=14
 |0,_,_=> .inr (.inr I)
 | f +1,σ,o=>by
  rw[eB];split;exact .inr (.inr I);split;exact .inl I;split
  grind
  split
  ·split
   omega;split;exact .inr (.inr I);exact AJ f _ _
  omega
structure ajV(l:List aL.Prod)(act:Nat->Nat->Act)(gt:Nat->Int->Int)(T N:Nat)(Nx:List (List Int))(S:List (List Item)):Prop where
 act:∀q c,q<S.length->c<=T->act q c=jG l T Nx S q c
 gt:∀q n,q<S.length->0<=n->n<(N:Int)->gt q n=abz T Nx q n
theorem LQ{q c:Nat}{x:Act}(h:jG l T Nx S q c=x)(h0:x.1≠0):x∈jA l T (S.getD q []) (Nx.getD q []) c:=by
 unfold jG at h
 cases e:jA l T (S.getD q []) (Nx.getD q []) c with
 |nil=>grind
 |cons y r=>simp_all
theorem sn{q c:Nat}{x:Act}(h:x∈jA l T (S.getD q []) (Nx.getD q []) c):
 (x.1=1/\c<T/\0<=(Nx.getD q []).getD c 0/\x.2=(Nx.getD q []).getD c 0)\/(x=(3,0)/\(((l.length:Int),1,(c:Int)):Item)∈S.getD q [])\/(x.1=2/\x.2<(l.length:Int)/\((x.2,((a_ l x.2).2.length:Int),(c:Int)):Item)∈S.getD q []):=by
 unfold jA at h;rcases ib.1 h with h|h
 simp_all
 ·obtain⟨it,hit,e⟩:=List.mem_filterMap.1 h
  obtain⟨p,d,k⟩:=it;unfold wa at e
  grind
section
variable(hB:ajV l act gt T N Nx S)(hI:K0 l T N lk S.length Nx S)(hw:∀q∈l,q.2.length<=8)(hl:l.length<=40)(hT:T<=30)(hh:∀q∈l,0<=q.1/\q.1<(N:Int))
include hB hI hw hl hT hh
omit hB hw hl hT hh in
theorem so{q k s:Nat}{x:bJ}(hq:q<S.length)(hk:(lK T N)[k]?=ah x)(hs:(Nx.getD q []).getD k 0=(s:Int)):s<S.length/\S.getD s []=hZ l T lk (S.getD q []) x/\hZ l T lk (S.getD q []) x≠[]:=by
 rcases hI.cell q hq k x hk with⟨_,h2⟩|⟨h1,h2,h3⟩
 omega;rw[hs]at h3;obtain rfl:s=idx S (hZ l T lk (S.getD q []) x):=by omega
 simp_all[mY,sQ]
omit hB hI hw hl hT in
theorem CM{p:Int}(h0:0<=p)(h1:p<(l.length:Int)):0<=(a_ l p).1/\(a_ l p).1<(N:Int):=hh _ (ee h0 h1)
theorem LR{col a:Nat}(hc:col<=T):∀(f:Nat) {σ:List Nat} {o:List bJ} {ts:List (bJ×Tree)},Hn l T N lk S σ ts a->(eB l act gt col a f σ o).1=0->
    ∃ E AT,(eB l act gt col a f σ o).2.2=o++E/\upK l AT=upK l ts++E/\
      ((col<T/\Hn l T N lk S (eB l act gt col a f σ o).2.1 AT (a+1)/\nZ l AT=nZ l ts++[(col:Int)])\/
       (Hn l T N lk S (eB l act gt col a f σ o).2.1 AT a/\nZ l AT=nZ l ts/\∃q σ',(eB l act gt col a f σ o).2.1=q::σ'/\(((l.length:Int),1,(col:Int)):Item)∈S.getD q []))
  |0,_,_,_,_,h=>by cases h
  | f + 1, σ, o,ts,hs,h=>by
    obtain⟨q,ρ,rfl⟩:=hs.ne;have hq:=Th hI hs;have hA:act ((q::ρ).headD 0) col=jG l T Nx S q col:=hB.act q col hq hc;rw[eB]at h⊢;generalize act ((q::ρ).headD 0) col=x at*;have J2:=λh0=>sn (LQ (l:=l) (T:=T) (Nx:=Nx) (S:=S) (q:=q) (c:=col) hA.symm h0)
    by_cases c0:f=0/\x.1≠0
    simp_all;rw[if_neg c0]at h⊢
    by_cases c1:x.1=3
    · rw[if_pos c1]at h⊢
      refine⟨[],ts,(fj _).symm,(fj _).symm,.inr ⟨hs,rfl,q,ρ,rfl,?_⟩⟩;rcases J2 J with h'|h'|h'
      omega;exact h'.2;omega
    rw[if_neg c1]at h⊢
    by_cases c2:x.1=1
    · rw[if_pos c2]at h⊢
      by_cases c3:60<(q::ρ).length+1
      simp_all;rw[if_neg c3]at h⊢;rcases J2 J with h'|h'|h'
      · obtain⟨_,h1,h2,h3⟩:=h'
        obtain⟨s,hs3⟩:=fJ h2;obtain⟨k1,k2,k3⟩:=so hI hq (w6 h1) hs3;have e:x.2.toNat=s:=by omega
        have ajW:dm l (.mk (-1) (a:Int) []) (1,(col:Int)) a:=by simp[dm]
        refine⟨[(2,(a:Int))],((1,(col:Int)),.mk (-1) (a:Int) [])::ts,rfl,?_,.inl ⟨h1,?_,?_⟩⟩;rw[G5,FW]
        · rw[e]
          have:=Hn.push hs k1 k2 k3 ajW;exact this
        rw[wE];rfl
      grind;omega
    rw[if_neg c2]at h⊢
    by_cases c3:x.1=2
    · rw[if_pos c3]at h⊢
      rcases J2 J with h'|h'|h'
      omega;rw[h'.1]at c3;cases c3;obtain⟨_,h1,h2⟩:=h';have h0:0<=x.2:=(jI hI hq _ h2).1;obtain⟨r1,r2⟩:=CM hh h0 h1
      cases e:zc l gt (q::ρ) x.2 with
      |none=>simp_all
      | some σ'=>
        rw[e]at h;dsimp only at h⊢
        by_cases c4:60<σ'.length
        simp_all;rw[if_neg c4]at h⊢;unfold zc at e
        cases ed:(q::ρ).drop (a_ l x.2).2.length with
        |nil=>grind
        | cons r ρ2=>
          rw[ed]at e;dsimp only at e
          by_cases c5:0<=gt r (a_ l x.2).1
          · rw[if_pos c5]at e
            obtain rfl:=pD e;obtain⟨q',σ2,us,ts2,a2,e1,e2,e3,e4,e5,e6,e7,e8⟩:=xf hI hw hl hT _ hs h2 rfl;have hr:r<S.length:=by
              grind
            have hg:=hB.gt r _ hr r1 r2;rw[hg]at c5 h⊢;obtain⟨s,hs3⟩:=fJ c5;have hk:(lK T N)[T+(a_ l x.2).1.toNat]?=ah (2,(a_ l x.2).1):=by
              grind[Am]
            obtain⟨k1,k2,k3⟩:=so hI hr hk hs3;obtain⟨ts3,g1,g2,g3⟩:=Tk hI hw hl hT hs h0 h1 h2 ed k1 k2 k3;have e9:(abz T Nx r (a_ l x.2).1).toNat=s:=by omega
            rw[e9]at h⊢;obtain⟨E,ts4,f1,f2,f3⟩:=LR hc f g1 h;refine⟨(4,x.2)::E,ts4,by rw[f1,eu];rfl,by rw[f2,g3,eu];rfl,?_⟩;rw[g2]at f3;exact f3
          simp_all
    simp_all
theorem JK(ala:∀q,q<S.length->∀it∈S.getD q [],it.1=(l.length:Int)->it.2.2=(T:Int)):∀(r:List Int) {σ:List Nat} {a:Nat} {out:List bJ} {ts:List (bJ×Tree)},(∀x∈r,0<=x/\x<(T:Int))->Hn l T N lk S σ ts a->upK l ts=out->(G8 l act gt T r σ a out).2.2=0->
 ∃t,dm l t (2,0) 0/\K2 l t=(G8 l act gt T r σ a out).1/\eU l t=nZ l ts++r
 | [],σ,a,out,ts,_,hs,ho,h=>by
  obtain⟨E,AT,h1,h2,h3⟩:=LR hB hI hw hl hT hh (aX T) 2001 (o:=[]) hs h;rcases h3 with⟨h3,_⟩|⟨h3,h4,q,σ',h5,h6⟩
  omega;rw[h5]at h3;obtain⟨t,rfl,ht⟩:=Tj hI hw hl hT h3 h6;refine⟨t,ht,?_,?_⟩
  ·show K2 l t=out++(eB l act gt T a 2001 σ []).2.2
   rw[h1,fD,<-ho,<-h2,G5];rfl
  rw[fj,<-h4,wE,tD ht];rfl
 | t ::r,σ,a,out,ts,hr,hs,ho,h=>by
  obtain⟨t0,t1⟩:=hr t (gX ..);rw[G8]at h⊢
  by_cases c:(eB l act gt t.toNat a 2001 σ []).1≠0
  simp_all;rw[if_neg c]at h⊢;obtain⟨E,AT,h1,h2,h3⟩:=LR hB hI hw hl hT hh (show t.toNat<=T by omega) 2001 (o:=[]) hs (acG.1 c);rcases h3 with⟨h3,h4,h5⟩|⟨h3,h4,q,σ',h5,h6⟩
  ·obtain⟨tt,g1,g2,g3⟩:=JK ala r (λx hx=>hr x (lU _ hx)) h4 (by simp_all) h
   grind
  grind
omit hw hl hT in
theorem DP{w:List Int}(Xg:∀x∈w,0<=x/\x<(T:Int)){σ σ1:List Nat}{a a1:Nat}{E:List bJ}(h:xr l T Nx S w σ a E σ1 a1):(∀q∈σ,q<S.length)->a1=w.length->(∀q ρ,σ1=q::ρ->jG l T Nx S q (dU T w a1)=(3,0))->σ1≠[]->
 ∀(f:Nat) (o:List bJ) (m:Nat) (r:List Int) (out:List bJ),a<=w.length->m<=r.length->m<=(w.drop a).length->r.take m=(w.drop a).take m->(r=w.drop a->(ma l act gt T f σ o r a out).2.2=14\/ma l act gt T f σ o r a out=(out++(o++E),w.length,0))/\((ma l act gt T f σ o r a out).2.2=14\/a+m<=(ma l act gt T f σ o r a out).2.1):=by
 induction h with
 | @nil σ a=>
  intro hq ha adh hne f o m r out M9 hm VM hr;subst ha;have hm0:m=0:=by simp_all
  subst hm0;refine⟨λPD=>?_,.inr (G9 f σ o r _ out)⟩;rw[wj]at PD;subst PD;obtain⟨q,ρ,rfl⟩:∃q ρ,σ=q::ρ:=Lw hne;have hc:dU T w w.length=T:=by simp[dU]
  have hA:=adh q ρ I;rw[hc]at hA;have hA2:act ((q::ρ).headD 0) T=(3,0):=(hB.act q T (hq q (gX ..)) (aX _)).trans hA;rcases adf (l:=l) (gt:=gt) (a:=w.length) (o:=o) hA2 f with e|e
  exact .inl (by rw[ma,e]);exact .inr (by rw[ma,e,fj])
 | @shift q s σ σ' a a' E ha h hr ih=>
  intro hq ha' adh hne f o m r out M9 hm VM hrm;have hqS:=hq q (gX ..);have Xd:dU T w a<=T:=by
   unfold dU;rw[if_pos ha];have:=Xg _ (bX ha);rw[cH,bL ha];show w[a].toNat<=T
   omega
  have hA2:act ((q::σ).headD 0) (dU T w a)=(1,(s:Int)):=(hB.act q _ hqS Xd).trans h;have ags:=sn (LQ h J);have rM:dU T w a<T/\(Nx.getD q []).getD (dU T w a) 0=(s:Int):=by
   simp_all
  obtain⟨k1,-,-⟩:=so hI hqS (w6 rM.1) rM.2;have hq2:∀q'∈s::q::σ,q'<S.length:=λq' zn=>(dw.1 zn).elim (λe=>e▸k1) λe=>hq q' e;have hd:w.drop a=w[a]::w.drop (a+1):=dL ha;have hcw:dU T w a=w[a].toNat:=by
   unfold dU;rw[if_pos ha,cH,bL ha];rfl
  have key:∀(r':List Int),(ma l act gt T f (q::σ) o (w[a]::r') a out).2.2=14\/ma l act gt T f (q::σ) o (w[a]::r') a out=ma l act gt T 2001 (s::q::σ) [] r' (a+1) (out++(o++[(2,(a:Int))])):=λr'=>by
   rw[hcw]at hA2;rcases Tl (l:=l) (gt:=gt) (a:=a) (o:=o) hA2 f with e|e
   exact .inl (by rw[ma,e];rfl);exact .inr (by rw[ma,e,<-Pa];rfl)
  constructor
  ·intro PD
   subst PD;rw[hd];rcases key (w.drop (a+1))with h14|he
   omega;rw[he];have:=(ih hq2 ha' adh hne 2001 [] 0 (w.drop (a+1)) (out++(o++[(2,(a:Int))])) J (bC _) (bC _) I).1 I;rcases this with h14|h0
   exact .inl h14
   right
   rw[h0];simp
  match m,r,hm,hrm with
  |0,r,_,_=>simp[G9]
  |m+1,[],h',_=>grind
  | m+1,x::r',pg,alb=>
   grind
 | @reduce q rq tq p σ ρ σ' a a' E h hd hg hr ih=>
  intro hq ha' adh hne f o m r out M9 hm VM hrm;have hqS:=hq q (gX ..);have Xd:dU T w a<=T:=by
   unfold dU;split
   grind[bX]
   omega
  have hA2:act ((q::σ).headD 0) (dU T w a)=(2,p):=(hB.act q _ hqS Xd).trans h;have ags:=sn (LQ h J);have hp:p<(l.length:Int)/\0<=p:=by
   rcases ags with h'|h'|h'
   omega
   grind
   exact⟨h'.2.1,(jI hI hqS _ h'.2.2).1⟩
  obtain⟨r1,r2⟩:=CM hh hp.2 hp.1;have hrS:rq<S.length:=hq rq (ti (i:=(a_ l p).2.length) (by simp_all));have hk:(lK T N)[T+(a_ l p).1.toNat]?=ah (2,(a_ l p).1):=by
   grind[Am]
  obtain⟨k1,-,-⟩:=so hI hrS hk hg;have hq2:∀q'∈tq::rq::ρ,q'<S.length:=λq' zn=>(dw.1 zn).elim (λe=>e▸k1) λe=>hq q' (ti (i:=(a_ l p).2.length) (by simp_all));have abP:zc l gt (q::σ) p=ah (tq::rq::ρ):=by
   unfold zc;rw[hd];dsimp only;rw[hB.gt rq _ hrS r1 r2,hg,if_pos J];rfl
  have rS:∀(col:Nat),act ((q::σ).headD 0) col=(2,p)->(eB l act gt col a f (q::σ) o).1=14\/∃f',eB l act gt col a f (q::σ) o=eB l act gt col a f' (tq::rq::ρ) (o++[(4,p)]):=λcol hA2=>by
   grind[adg]
  have key:∀(r':List Int),(r'=[]->dU T w a=T)->(∀t r2,r'=t::r2->dU T w a=t.toNat)->(ma l act gt T f (q::σ) o r' a out).2.2=14\/∃f',ma l act gt T f (q::σ) o r' a out=ma l act gt T f' (tq::rq::ρ) (o++[(4,p)]) r' a out:=λr' e1 e2=>by
   match r' with
   | []=>
    have hA3:=hA2;rw[e1 I]at hA3;rcases rS T hA3 with h14|⟨f',he⟩
    simp_all[ma];exact .inr ⟨f',by simp_all[ma]⟩
   | t::r2=>
    have hA3:=hA2;rw[e2 t r2 I]at hA3;rcases rS t.toNat hA3 with h14|⟨f',he⟩
    simp_all[ma]
    exact .inr ⟨f',by simp_all[ma]⟩
  have hcw:∀t r2,w.drop a=t::r2->dU T w a=t.toNat:=λt r2 e=>by
   have ha:a<w.length:=by
    grind
   rw[dL ha]at e;obtain⟨rfl,_⟩:=yR e;unfold dU;rw[if_pos ha,cH,bL ha];rfl
  constructor
  ·intro PD
   rcases key r (λe=>by
    simp_all[dU,if_neg]) (λt r2 e=>hcw t r2 (by simp_all))with h14|⟨f',he⟩
   omega;rw[he];rcases(ih hq2 ha' adh hne f' (o++[(4,p)]) m r out M9 hm VM hrm).1 PD with h14|h0
   exact .inl h14
   right
   rw[h0];simp
  match m,r,hm,hrm with
  |0,r,_,_=>simp[G9]
  |m+1,[],h',_=>grind
  | m+1,x::r',pg,alb=>
   have ha:a<w.length:=by grind
   grind[dL]
end
end
end bK
namespace cB
open aL dI eh dA bK cX rj
open wX (dU)
structure iC(g:dD)(T N:Nat)(Nx:List (List Int))(S:List (List bK.Item)):Prop where
 AG:cI g=0
 aQ:g.aQ=(T:Int)
 bB:g.bB=(N:Int)
 all:allI g.az T N (kE g)=ah (Nx,S)
 dB:(iI g).1=f_ g.az T Nx S S.length
 gos:(iI g).2.1=ff T Nx S.length
 aic:(iI g).2.2.1=iG g.az T Nx S S.length
theorem xg{g:dD}(h:(iI g).2.2.2=0):∃T N Nx S,iC g T N Nx S:=by
 unfold iI at h
 by_cases c:(jB g).2.2≠0
 simp_all;have c2:(jB g).2.2=0:=acG.1 c;obtain⟨hg,hA⟩:=U6 c2;obtain⟨hT1,hT2,hN1,hN2,-⟩:=cz hg;exact⟨g.aQ.toNat,g.bB.toNat,(jB g).1,(jB g).2.1,hg,by omega,by omega,hA,by simp_all[iI],by simp_all[iI],by simp_all[iI]⟩
section
variable{g:dD}{T N:Nat}{Nx:List (List Int)}{S:List (List bK.Item)}
theorem iC.wide(h:iC g T N Nx S):∀q∈g.az,q.2.length<=8:=λq hq=>((cz h.AG).2.2.2.2.2 q hq).1
theorem iC.Dv(h:iC g T N Nx S):g.az.length<=40:=(cz h.AG).2.2.2.2.1
theorem iC.t30(h:iC g T N Nx S):T<=30:=by have:=(cz h.AG).2.1;have:=h.aQ;omega
theorem iC.law(h:iC g T N Nx S):K0 g.az T N (kE g) S.length Nx S:=N2 h.wide h.Dv h.t30 h.all
theorem iC.heads(h:iC g T N Nx S):∀q∈g.az,0<=q.1/\q.1<(N:Int):=λq hq=>by
 obtain⟨_,h1,h2,_⟩:=(cz h.AG).2.2.2.2.2 q hq;rw[h.bB]at h2;exact⟨h1,h2⟩
theorem ze{l:List aL.Prod}{i n:Nat}(h:i<n):(f_ l T Nx S n)[i]?=ah (gJ l T Nx S i (T+1)):=by simp_all[f_]
theorem wF{i n:Nat}(h:i<n):(ff T Nx n)[i]?=ah ((Nx.getD i []).drop T):=by simp_all[ff]
theorem G_{l:List aL.Prod}{q c:Nat}(h:c<T+1):(gJ l T Nx S q (T+1))[c]?=ah (jG l T Nx S q c):=by
 simp_all[gJ]
theorem iC.right(h:iC g T N Nx S){q c:Nat}(hq:q<S.length)(_:c<T+1):wy T g.az.length S.length (jG g.az T Nx S q c) c:=by
 have hI:=h.law
 by_cases h0:(jG g.az T Nx S q c).1=0
 ·left
  refine⟨h0,?_⟩;unfold jG at h0⊢
  cases e:jA g.az T (S.getD q []) (Nx.getD q []) c with
  |nil=>rfl
  |cons y r=>
   rw[e]at h0;have hm:y∈jA g.az T (S.getD q []) (Nx.getD q []) c:=by simp_all
   rcases sn hm with h'|h'|h'
   simp_all;have h0:y.1=0:=h0;rw[h'.1]at h0;cases h0;have:=h'.1;have h0:y.1=0:=h0;omega
 rcases sn (LQ rfl h0)with h'|h'|h'
 ·obtain⟨h1,h2,h3,h4⟩:=h'
  obtain⟨s,hs⟩:=fJ h3;obtain⟨k1,-,-⟩:=so hI hq (w6 h2) hs;exact .inr (.inl ⟨h1,h2,by omega,by omega⟩)
 ·obtain⟨h1,h2⟩:=h'
  have ht:=U5 h.wide h.Dv h.t30 h.all q hq _ h2 I;have ht:(c:Int)=(T:Int):=ht;exact .inr (.inr (.inr ⟨by rw[h1],by rw[h1],by omega⟩))
 obtain⟨h1,h2,h3⟩:=h';exact .inr (.inr (.inl ⟨h1,(jI hI hq _ h3).1,h2⟩))
theorem iC.mb(h:iC g T N Nx S):wz g T N (f_ g.az T Nx S S.length) (ff T Nx S.length) where
 AG:=h.AG
 aQ:=h.aQ
 bB:=h.bB
 pos:=by rw[jl];exact(dK.1 h.law.start).1
 Dv:=by rw[jl];exact h.law.Dv
 same:=by rw[jl,mI]
 wA:=λi hi=>by
  obtain⟨h1,h2⟩:=dK.1 (ze (T:=T) (Nx:=Nx) (S:=S) (l:=g.az) (show i<S.length by simp_all[jl]));rw[h2];exact qo
 dB:=λi hi c hc=>by
  have qw:i<S.length:=by grind[jl]
  obtain⟨h1,h2⟩:=dK.1 (ze (T:=T) (Nx:=Nx) (S:=S) (l:=g.az) qw);simp only[h2]at hc⊢;rw[qo]at hc;obtain⟨h3,h4⟩:=dK.1 (G_ (l:=g.az) (T:=T) (Nx:=Nx) (S:=S) (q:=i) hc);rw[h4,jl];exact h.right qw hc
 wG:=λi hi=>by
  have qw:i<S.length:=by simp_all[mI]
  obtain⟨h1,h2⟩:=dK.1 (wF (T:=T) (Nx:=Nx) qw);rw[h2,je,h.law.wide i qw];omega
 gos:=λi hi y hy=>by
  have qw:i<S.length:=by grind[mI]
  obtain⟨h1,h2⟩:=dK.1 (wF (T:=T) (Nx:=Nx) qw);rw[h2]at hy;obtain⟨k,hk,rfl⟩:=List.getElem_of_mem hy;rw[jl];rw[je,h.law.wide i qw]at hk;rw[List.getElem_drop];have hw:=h.law.wide i qw;have hg:(Nx.getD i [])[T+k]' J=(Nx.getD i []).getD (T+k) 0:=by grind
  rw[hg];rcases h.law.cell i qw (T+k) _ (Am J)with⟨_,e⟩|⟨_,e1,e2⟩
  omega;rw[e2];have:=mY e1;omega
def ke(A:List (List bK.Act))(q c:Nat):bK.Act:=(A.getD q []).getD c (0,0)
def fQ(G:List (List Int))(q:Nat)(n:Int):Int:=(G.getD q []).getD n.toNat 0
theorem iC.ajX(_:iC g T N Nx S):ajV g.az (ke (f_ g.az T Nx S S.length)) (fQ (ff T Nx S.length)) T N Nx S where
 act:=λq c hq hc=>by
  unfold ke;rw[show(f_ g.az T Nx S S.length).getD q []=gJ g.az T Nx S q (T+1)by rw[cH,ze hq];rfl];show(gJ g.az T Nx S q (T+1)).getD c (0,0)=_
  rw[cH,G_ J];rfl
 gt:=λq n hq h0 hn=>by
  simp_all[fQ,abz,wF]
theorem CN{l:List aL.Prod}:∀n,(iG l T Nx S n).length=0->∀q,q<n->∀c,c<=T->(jA l T (S.getD q []) (Nx.getD q []) c).length<=1
 |0,_,q,hq,_,_=>absurd hq (oU _)
 | n + 1,h,q,hq,c,hc=>by
  rw[iG,bT]at h
  by_cases e:q=n
  ·subst e
   have row:∀d,(iF l T Nx S q d).length=0->∀c,c<d->(xd l T Nx S q c).length=0:=λd=>by
    induction d with
    |zero=>omega
    | succ d ih=>
     grind[iF]
   have:=row (T+1) J c J;unfold xd at this;rw[dY,Lz]at this;have h2:(jA l T (S.getD q []) (Nx.getD q []) c).length-1=0:=this;omega
  exact CN n J q J c hc
theorem iC.calm(h:iC g T N Nx S)(hc:xW g=aB):I' g.az T Nx S:=by
 unfold xW at hc;rw[eE,decide_eq_true_eq,decide_eq_true_eq,h.aic]at hc;exact λq hq c Xd=>CN S.length hc.2 q hq c Xd
theorem X4(hc:xW g=aB):∃T N Nx S,iC g T N Nx S:=by
 simp_all[xW,xg]
theorem Tm(hg:cI g=0){p:Int}:∀x∈dR g.az p,right g.aQ g.bB x=true:=λx hx=>by
 unfold dR at hx;split at hx
 ·rw[ez.1 hx]
  have:=(cz hg).2.2.1;unfold right;rw[if_neg alt,if_pos I];simp only[jg,decide_true,yY,decide_eq_true_eq];omega
 by_cases h2:p.toNat<g.az.length
 ·have:a_ g.az p∈g.az:=by simp_all[a_]
  exact((cz hg).2.2.2.2.2 _ this).2.2.2 x hx
 simp_all[a_]
theorem iC.looks(h:iC g T N Nx S)(p d:Int):kE g p d=eA (nf N g.az).E (BO N g.az) ((dR g.az p).drop (d.toNat+1)) (2^62):=by
 unfold kE C5;have hb8:=ng (l:=g.az) (p:=p) h.wide;have hE:vV g ((dR g.az p).drop (d.toNat+1))=0:=by
  unfold vV;rw[if_neg (by rw[h.AG];simp),if_neg (by grind)];exact KU λx hx=>Tm h.AG x (ti hx)
 rw[if_pos hE,show g.bB.toNat=N by rw[h.bB];rfl]
theorem iC.lrH(h:iC g T N Nx S)(hc:xW g=aB){w:List Int}(hw:∀x∈w,0<=x/\x<(T:Int)):LrH g.az T N (kE g) Nx S w (nf N g.az).E (BO N g.az) (C3 N g.az) (nf N g.az).R (nf N g.az).M where
 wide:=h.wide
 Dv:=h.Dv
 aQ:=h.t30
 bB:=by have:=(cz h.AG).2.2.1;have:=h.bB;omega
 X0:=nK h.AG h.bB
 pO:=λq hq x hx h1=>by
  have:=((cz h.AG).2.2.2.2.2 q hq).2.2.2 x hx;rcases qU this with⟨_,h2,h3⟩|⟨h2,_⟩
  rw[h.aQ]at h3;exact⟨h2,h3⟩;rw[h1]at h2;cases h2
 all:=h.law
 calm:=h.calm hc
 facts:=I7 h.AG h.bB
 looks:=λp d _ _ _=>h.looks p d
 word:=hw
theorem afJ(hc:xW g=aB){word:List Int}(fS:iP g word=0):iy g word<=1:=by
 obtain⟨T,N,Nx,S,h⟩:=X4 hc;obtain⟨hg,_,hw⟩:=lD fS;rw[h.aQ]at hw;apply acL;intro h2;obtain⟨t,t',hne,h1,y1,h2,y2⟩:=IP (g:=g) (w:=word) h2;exact hne (aia (h.lrH hc hw) h1 y1 h2 y2)
end
end cB
namespace nP
open dg gv ep cX
open cB (lZ eJ xt K')
variable{m:MS}{R:List Row}{d:DM}
theorem afK(hm:KC m)(hi:MkI m (fZ m.empty 0) (d.S.length+1) R d)(k:Nat):d.tags.getD k 0<m.empty.length:=by
 have h:=hi.tags;unfold rB at h;rw[h];have h0:=hm.some
 cases k with
 | zero=>
  simp[Jm]
 | succ k=>
  by_cases hk:k<d.S.length
  ·have e:(fZ m.empty 0::d.S.map (nP.ph m.ps)).getD (k+1) 0=nP.ph m.ps d.S[k]:=by
    simp_all
   rw[e];unfold nP.ph;rcases Le hm.rules hm.ok.ps.rules d.S[k] m.ps.a8.length (aX _)with⟨h1,_⟩|⟨_,_,_,_,_,h1,h2,_⟩
   omega;omega
  simp_all
end nP
namespace cB
open Go.RowKit cL dV dg gv iK aL cX ep nP
theorem adi{R:List Row}{tags:List Int}{n:Int}(h:∀k,tags.getD k 0<n):∀t∈y6 R tags,t<n:=λt ht=>by
 unfold y6 at ht;split at ht
 ·obtain⟨k,-,rfl⟩:=fE.1 ht
  exact h k
 grind
theorem adj{s:Sp}{r:Int×List Row×List Int}(h:Vg s r)(h0:r.1=0):0<s.words.length/\s.words.length<=20/\∀t∈r.2.2,t<(s.words.length:Int):=by
 rcases h with⟨k,hk,-,rfl⟩|⟨es,m,h1,-,h3,h4,h5,-,⟨h,rfl⟩|⟨-,h,rfl⟩|⟨h,hd,hc,rfl⟩⟩
 omega;exact absurd h0 h;exact absurd h0 h;have hlen:s.words.length=es.length:=by
  have:=congrArg ky h1
  grind[qn]
 obtain⟨-,h7,-,-⟩:=KD es 0 .zero m KB rfl (λr hr=>by cases hr) (bC _) h5;refine⟨by omega,by omega,?_⟩
 cases hm:vz m with
 |none=>simp_all[Sh]
 |some y=>
  obtain⟨R,d⟩:=y;rw[yX hm];refine adi λk=>?_;have:=afK (Dw h3 h4 h5) (BS hm) k;show d.tags.getD k 0<_
  omega
end cB
namespace iK
open dg gv
theorem agt(l:List Wd):∀k,k<=l.length->0<=((l.take k).foldl ja ws0).2.1/\∀x∈((l.take k).foldl ja ws0).1,-1<=x/\x<((l.take k).foldl ja ws0).2.1
 |0,_=>⟨jg _,λx hx=>by cases hx⟩
 | k + 1,h=>by
  obtain⟨a1,a2⟩:=agt l k J;rw[step_take _ _ _ (show k<l.length by omega)];have key:∀(s:WS) (w:Wd),0<=s.2.1->(∀x∈s.1,-1<=x/\x<s.2.1)->0<=(ja s w).2.1/\∀x∈(ja s w).1,-1<=x/\x<(ja s w).2.1:=λs w b1 b2=>by
   unfold ja;split
   ·refine⟨b1,λx hx=>?_⟩
    rcases ib.1 hx with hx|hx
    exact b2 x hx;rw[ez.1 hx];exact⟨jg _,by show(-1:Int)<s.2.1;omega⟩
   refine⟨by show 0<=s.2.1+1;omega,λx hx=>?_⟩;show-1<=x/\x<s.2.1+1
   rcases ib.1 hx with hx|hx
   have:=b2 x hx;omega;rw[ez.1 hx];omega
  grind
end iK
namespace cB
open Go.RowKit cL dV dg gv iK aL cX
def zf(s:Sp)(R:List Row)(T:List Int):Md:=⟨(Ln s.words).1,wq R 256,SB R,T,cT s,1,GY (cT s) (cT s).aQ.toNat (cT s).bB.toNat,[],[]⟩
def aid(s:Sp)(R:List Row)(T:List Int):Md:=⟨(Ln s.words).1,wq R 256,SB R,T,cT s,2,[],(iI (cT s)).1,(iI (cT s)).2.1⟩
theorem adk{l:List Wd}(h:l.length<=60):(Ln l).1.length=l.length:=by
 have:=(acq l l.length (aX _) h).1;rw[nU]at this;exact this
section
variable{w:World}{B:bV}{L:List b_}{x:HY}{s:Sp}{R:List Row}{T:List Int}{i0 i1 i2 i3 i4 i5 i6 i7 i8:Nat}
theorem agu(hl:s.words.length<=60)(h:(bm 3 1 x.vo s.words.length ((Ln s.words).1.map (ap .i64))).holds w):Sl w x.vo (Ln s.words).1.length ((Ln s.words).1.flatMap cL.eP):=by
 rw[adk hl];have:=Sl.dF h
 simp_all[NC]
theorem adl(hg:cI (cT s)=0)(h:(sT x.F x.vp (cT s).az).holds w):jS (λk=>k<w.heap.size) w (du (cT s).aQ (cT s).bB x.vp) (cT s):=by
 obtain⟨a1,a2,a3,a4,a5,a6⟩:=cz hg;exact y8 (gok ⟨a1,by omega⟩) (gok ⟨by omega,by omega⟩) h
theorem aie(hm:Mem B L w)(hl:s.words.length<=60)(hc:lZ R T=0)(hg:cI (cT s)=0)
 (h0:L[i0]?=ah (bm 3 1 x.vo s.words.length ((Ln s.words).1.map (ap .i64)))) (h1:L[i1]?=ah (sT x.F x.vp (cT s).az)) (h2:L[i2]?=ah (fA 26 y9 x.gP R.length x.vsP)) (h3:L[i3]?=ah (XJ R.length (nV R 256) x.vsP)) (h4:L[i4]?=ah (bm 3 1 x.vT T.length (T.flatMap cL.eP)))
 (h5:L[i5]?=ah (fA 26 wu x.gR (cT s).bB.toNat x.vsR)) (h6:L[i6]?=ah (jn (λj=>j<(cT s).bB.toNat) (ny (cT s).az (nX (cT s).bB.toNat (cT s).az) (cT s).aQ.toNat x.vsR (cT s).bB.toNat 0))):
 JC w (.agg (x.cLL (cT s) R)) (zf s R T) x.vo (ak (ah ⟨x.gP,0,aj⟩) R.length R.length) x.vT x.vp (ak (ah ⟨x.gR,0,aj⟩) (cT s).bB.toNat (cT s).bB.toNat) (ak aj 0 0) (ak aj 0 0) where
 val:=rfl
 of:=agu hl (hm.get h0)
 pk:=hm.pkI h2 h3 h4 hc
 Hm:=adl hg (hm.get h1)
 rows:=by
  obtain⟨a1,a2,a3,a4,a5,a6⟩:=cz hg;exact acY a5 J (hm.get h5) (hm.get h6)
 mb:=⟨_,_,rfl,jO.nil,jO.nil⟩
theorem aif(hm:Mem B L w)(hl:s.words.length<=60)(hc:lZ R T=0)(hg:cI (cT s)=0)
 (h0:L[i0]?=ah (bm 3 1 x.vo s.words.length ((Ln s.words).1.map (ap .i64)))) (h1:L[i1]?=ah (sT x.F x.vp (cT s).az)) (h2:L[i2]?=ah (fA 26 y9 x.gP R.length x.vsP)) (h3:L[i3]?=ah (XJ R.length (nV R 256) x.vsP)) (h4:L[i4]?=ah (bm 3 1 x.vT T.length (T.flatMap cL.eP)))
 (h5:L[i5]?=ah (bm 185 1 x.tx.vA (iI (cT s)).1.length x.tx.C_)) (h6:L[i6]?=ah (eG AD x.tx.FA (x.tx.C_.map λv=>[v]) (iI (cT s)).1)) (h7:L[i7]?=ah (bm 26 1 x.tx.vG (iI (cT s)).2.1.length x.tx.C')) (h8:L[i8]?=ah (eG (cO iv) x.tx.FG (x.tx.C'.map λv=>[v]) (iI (cT s)).2.1)):
 JC w (.agg (x.cLR (cT s) R)) (aid s R T) x.vo (ak (ah ⟨x.gP,0,aj⟩) R.length R.length) x.vT x.vp (ak aj 0 0) x.tx.vA x.tx.vG where
 val:=rfl
 of:=agu hl (hm.get h0)
 pk:=hm.pkI h2 h3 h4 hc
 Hm:=adl hg (hm.get h1)
 rows:=jO.nil
 mb:=afr (hm.get h5) (hm.get h6) (hm.get h7) (hm.get h8)
end
theorem LS{s:Sp}{r:Int×List Row×List Int}(h:Vg s r)(h0:r.1=0):s.words.length<=20/\cI (cT s)=0/\lZ r.2.1 r.2.2=0/\0<(Ln s.words).1.length/\(Ln s.words).1.length<=20/\(∀t∈(Ln s.words).1,-1<=t/\t<(cT s).aQ)/\∀t∈r.2.2,t<((Ln s.words).1.length:Int):=by
 obtain⟨a1,a2⟩:=wx h h0;obtain⟨b1,b2,b3⟩:=adj h h0;have e:=adk (l:=s.words) J;have c:=(agt s.words s.words.length (aX _)).2;rw[nU]at c;exact⟨b2,a1,a2,by omega,by omega,c,by simp_all⟩
theorem afL{s:Sp}{r:Int×List Row×List Int}(h:Vg s r)(h0:r.1=0):MdGood (zf s r.2.1 r.2.2):=by
 obtain⟨a1,a2,a3,a4,a5,a6,a7⟩:=LS h h0;obtain⟨b1,b2,b3,b4,b5,b6⟩:=cz a2;exact⟨Vv _,S7 (LO a3),a2,a4,a5,a6,a7,.inl ⟨rfl,O7 (g:=cT s) (T:=(cT s).aQ.toNat) (N:=(cT s).bB.toNat) a2 J J⟩⟩
theorem afM{s:Sp}{r:Int×List Row×List Int}(h:Vg s r)(h0:r.1=0)(hT:(iI (cT s)).2.2.2=0):MdGood (aid s r.2.1 r.2.2):=by
 obtain⟨a1,a2,a3,a4,a5,a6,a7⟩:=LS h h0;obtain⟨T,N,Nx,S,hM⟩:=xg hT;refine⟨Vv _,S7 (LO a3),a2,a4,a5,a6,a7,.inr ⟨rfl,T,N,?_⟩⟩;show wz (cT s) T N (iI (cT s)).1 (iI (cT s)).2.1
 rw[hM.dB,hM.gos];exact hM.mb
end cB
namespace AK
open Go.RowKit cL dV dg gv iK cB
def aih(a s:C4):List Wd:=[([97],.mk 3 a []),([],.mk 3 s [])]
def adm:List Rl:=[([108],[[97],[109]]),([109],[]),([109],[[97],[109]])]
theorem Tn(n:Bs)(k:Int)(c:C4)(b:Option Addr)(m cp:Nat)(w:World):(da 100 #[(0,str n),(1,aP (mL k c (ak b m cp)).toArray)]).run aC w= .ok (aP (zk n k c (ak b m cp)).toArray) w:=by kernel_rfl
theorem Pb(n:Bs)(w:World):(da 102 #[(0,str n)]).run aC w= .ok (aP #[str n,ak aj 0 0]) w:=by kernel_rfl
theorem Pc(k:Int)(c:C4)(w:World):(da 100 #[(1,aP (mL k c (ak aj 0 0)).toArray)]).run aC w= .ok (aP (zk [] k c (ak aj 0 0)).toArray) w:=by kernel_rfl
theorem CO(n:Bs)(g:Nat)(w:World):(da 102 #[(0,str n),(1,ak (ah ⟨g,0,aj⟩) 2 2)]).run aC w= .ok (aP #[str n,ak (ah ⟨g,0,aj⟩) 2 2]) w:=by kernel_rfl
theorem Pd(a b:Option Addr)(m c n d:Nat)(w:World):(da 25 #[(0,ak a m c),(1,ak b n d)]).run aC w= .ok (aP #[ak a m c,ak b n d]) w:=by kernel_rfl
structure ajY where
 g1:Nat
 g2:Nat
 g3:Nat
 g4:Nat
def rlC(n:Bs)(v:Value):List Value:=[str n,v]
def afN(a s:C4):cB.Spec ajY:=⟨λ_=>True,λx=>aP #[ak (ah ⟨x.g1,0,aj⟩) 2 2,ak (ah ⟨x.g4,0,aj⟩) 3 3],λx=>[aK x.g1 (zk [97] 3 a (ak aj 0 0)++zk [] 3 s (ak aj 0 0)).toArray 100,aK x.g2 #[str [97],str [109]] 9,aK x.g3 #[str [97],str [109]] 9,
 aK x.g4 #[str [108],ak (ah ⟨x.g2,0,aj⟩) 2 2,str [109],ak aj 0 0,str [109],ak (ah ⟨x.g3,0,aj⟩) 2 2] 102]⟩
set_option maxRecDepth 100000 in
theorem To(w:World):Calls aC 7 #[] w (cJ (afN (fv 97 97) (fv 32 32)) w):=by
 have hl:=λw=>zM 97 w ⟨by decide,by decide⟩;have Ig:=λw=>zM 32 w ⟨by decide,by decide⟩;generalize fv 97 97=ca at*;generalize fv 32 32=cs at*;refine enter (args:=[]) (n:=13) Tryz.func7 I I I ?_;refine bZ (bx (aY I λg0=>?_));refine zL ?_
 try refine GA ?_
 refine aT (lz aF.en I I) (λw hm=>hl w) I I I ?_;intro _ _;refine zL ?_
 repeat(first|refine QZ ?_|refine QV (aZ I (Tn _ _ _ _ _ _)) ?_)
 refine aT (lz aF.en I I) (λw hm=>Ig w) I I I ?_;intro _ _;refine zL ?_
 repeat(first|refine QZ ?_|refine QV (aZ I (Pc _ _)) ?_)
 refine fz (cs:=(zk [97] 3 ca (ak aj 0 0)++zk [] 3 cs (ak aj 0 0)).toArray) [aP (zk [97] 3 ca (ak aj 0 0)).toArray,aP (zk [] 3 cs (ak aj 0 0)).toArray] I I I (by intro v hv;simp only[dw,fC,or_false]at hv;rcases hv with rfl|rfl<;>rfl) I I I λg5=>?_;refine zL ?_;refine fz (cs:=#[str [97],str [109]]) [str [97],str [109]] I I I (by intro v hv;simp only[dw,fC,or_false]at hv;rcases hv with rfl|rfl<;>rfl) I I I λg6=>?_;refine zL ?_
 repeat(first|refine QZ ?_|refine QV (aZ I (CO _ _)) ?_|refine QV (aZ I (Pb _)) ?_)
 refine fz (cs:=#[str [97],str [109]]) [str [97],str [109]] I I I (by intro v hv;simp only[dw,fC,or_false]at hv;rcases hv with rfl|rfl<;>rfl) I I I λg9=>?_;refine zL ?_
 repeat(first|refine QZ ?_|refine QV (aZ I (CO _ _)) ?_)
 refine fz (cs:=#[str [108],ak (ah ⟨g6,0,aj⟩) 2 2,str [109],ak aj 0 0,str [109],ak (ah ⟨g9,0,aj⟩) 2 2]) [aP #[str [108],ak (ah ⟨g6,0,aj⟩) 2 2],aP #[str [109],ak aj 0 0],aP #[str [109],ak (ah ⟨g9,0,aj⟩) 2 2]] I I I (by intro v hv;simp only[dw,fC,or_false]at hv;rcases hv with rfl|rfl|rfl<;>rfl) I I I λg11=>?_;refine zL ?_
 repeat(first|refine QZ ?_|refine QV (aZ I (Pd _ _ _ _ _ _)) ?_)
 refine fR 0 (cs':=#[ak (ah ⟨g5,0,aj⟩) 2 2,ak (ah ⟨g11,0,aj⟩) 3 3]) ?_;refine zL ?_
 try refine GA ?_
 exact gT (i:=0) I I I I λw hm=>hm.meets (S:=afN ca cs) ⟨g5,g6,g9,g11⟩ trivial [1,2,3,4] alt I
theorem nle{n:Nat}(h:n<=10:=by exact Nat.le_of_ble_eq_true I):n<=9223372036854775807:=by omega
theorem Vx{w:World}{g:Nat}(h:(aK g #[str [97],str [109]] 9).holds w):jO V3 (rP w) w (ak (ah ⟨g,0,aj⟩) 2 2) [[97],[109]]:=by
 have hb:w.heap[g]?=ah (.cells #[str [97],str [109]] 9 (0,0)):=h;refine⟨_,2,rfl,aX _,by decide,λ_=>⟨g,0,rfl,(lL.1 hb).1,λi hi=>⟨[str ([[97],[109]]:List Bs)[i]],⟨rfl,?_⟩,λj u hj=>?_⟩⟩⟩
 ·match i,hi with
  |0,_=>exact(by decide:(1:Nat)<=9223372036854775807)
  |1,_=>exact(by decide:(1:Nat)<=9223372036854775807)
 rw[cell_of_row w g _ _ _ _ hb]
 match i,hi,j,hj with
 |0,_,0,hj=>exact hj
 |1,_,0,hj=>exact hj
theorem afO{w:World}{a s:C4}{x:ajY}(h1:(aK x.g1 (zk [97] 3 a (ak aj 0 0)++zk [] 3 s (ak aj 0 0)).toArray 100).holds w)(h2:(aK x.g2 #[str [97],str [109]] 9).holds w)(h3:(aK x.g3 #[str [97],str [109]] 9).holds w)
 (h4:(aK x.g4 #[str [108],ak (ah ⟨x.g2,0,aj⟩) 2 2,str [109],ak aj 0 0,str [109],ak (ah ⟨x.g3,0,aj⟩) 2 2] 102).holds w):XA (rP w) w (aP #[ak (ah ⟨x.g1,0,aj⟩) 2 2,ak (ah ⟨x.g4,0,aj⟩) 3 3]) ⟨aih a s,adm⟩:=by
 have HA:w.heap[x.g1]?=ah (.cells (zk [97] 3 a (ak aj 0 0)++zk [] 3 s (ak aj 0 0)).toArray 100 (0,0)):=h1;have hb4:w.heap[x.g4]?=ah (.cells #[str [108],ak (ah ⟨x.g2,0,aj⟩) 2 2,str [109],ak aj 0 0,str [109],ak (ah ⟨x.g3,0,aj⟩) 2 2] 102 (0,0)):=h4;have hx:∀c,kH (rP w) w (mL 3 c (ak aj 0 0)) (.mk 3 c []):=λc=>zK.2 ⟨_,rfl,⟨by decide,by decide⟩,jO.nil⟩;refine⟨_,_,rfl,⟨_,2,rfl,aX _,by decide,λ_=>⟨x.g1,0,rfl,(lL.1 HA).1,λi hi=>?_⟩⟩,⟨_,3,rfl,aX _,by decide,λ_=>⟨x.g4,0,rfl,(lL.1 hb4).1,λi hi=>?_⟩⟩⟩
 ·match i,hi with
  |0,_=>
   refine⟨zk [97] 3 a (ak aj 0 0),⟨[str [97]],_,rfl,⟨rfl,nle⟩,hx a⟩,λj u hj=>?_⟩;rw[cell_of_row w x.g1 _ _ _ _ HA,oY,Nat.zero_mul,cU,lP (dK.1 hj).1];exact hj
  |1,_=>
   refine⟨zk [] 3 s (ak aj 0 0),⟨[str []],_,rfl,⟨rfl,nle⟩,hx s⟩,λj u hj=>?_⟩;rw[cell_of_row w x.g1 _ _ _ _ HA,oY];show(zk [97] 3 a (ak aj 0 0)++zk [] 3 s (ak aj 0 0))[0+1*7+j]?=ah u
   rw[yc (by show 7<=_;omega),show 0+1*7+j-(zk [97] 3 a (ak aj 0 0)).length=j from by show 0+1*7+j-7=j;omega];exact hj
 ·match i,hi with
  |0,_=>
   refine⟨rlC [108] (ak (ah ⟨x.g2,0,aj⟩) 2 2),⟨[str [108]],[_],rfl,⟨rfl,nle⟩,_,rfl,Vx h2⟩,λj u hj=>?_⟩;rw[cell_of_row w x.g4 _ _ _ _ hb4]
   match j,hj with
   |0,hj=>exact hj
   |1,hj=>exact hj
  |1,_=>
   refine⟨rlC [109] (ak aj 0 0),⟨[str [109]],[_],rfl,⟨rfl,nle⟩,_,rfl,jO.nil⟩,λj u hj=>?_⟩;rw[cell_of_row w x.g4 _ _ _ _ hb4]
   match j,hj with
   |0,hj=>exact hj
   |1,hj=>exact hj
  |2,_=>
   refine⟨rlC [109] (ak (ah ⟨x.g3,0,aj⟩) 2 2),⟨[str [109]],[_],rfl,⟨rfl,nle⟩,_,rfl,Vx h3⟩,λj u hj=>?_⟩;rw[cell_of_row w x.g4 _ _ _ _ hb4]
   match j,hj with
   |0,hj=>exact hj
   |1,hj=>exact hj
end AK
namespace nP
open dg gv ep cX
theorem adn{a b c:List Int}(h1:c.Pairwise (· < ·))(h2:∀x,(x∈a\/x∈b)↔x∈c):rl a b=c:=
 Fs (Du _ _).1 h1 λx=>by simp_all[Du]
end nP
namespace xh
open Go.RowKit cL dV cB dg gv iK aL cX ep nP AK
def lS:Sp:=⟨aih (fv 97 97) (fv 32 32),adm⟩
def lE:List Re:=[.byte (fv 97 97),.byte (fv 32 32)]
theorem afP:wt lS=0:=by rfl
def lM(a b:C4):MS:=⟨⟨[a,b],[0,1],[[],[]],[aB,aB]⟩,[0,1],[aE,aE]⟩
theorem aii(a b:C4):l9 0 .zero [.byte a,.byte b]=(0,lM a b):=by
 have u0:rl [] [0]=[0]:=adn (by simp) (by simp);have u1:rl [0] [1]=[0,1]:=adn (by simp) (by simp);have s0:xL 0 .zero (.byte a)=⟨⟨[a],[0],[[]],[aB]⟩,[0],[aE]⟩:=by simp[xL,bU,MS.zero,fw,u0]
 have s1:xL 1 ⟨⟨[a],[0],[[]],[aB]⟩,[0],[aE]⟩ (.byte b)=lM a b:=by
  simp[xL,bU,fw,u1,lM]
 rw[l9,s0,if_neg (by simp),l9,s1,if_neg (by simp[lM]),l9]
theorem X5:jW (qn lS)=0:=by rfl
end xh
namespace pt
open Go.RowKit cL dV cB cX
def B_:List Tok->Nat->Nat
 |[],e=>e
 |t::l,_=>B_ l t.2.2
def Tp:List Tok->Nat->Prop
 |[],_=>True
 |t::l,e=>t.2.1=e/\e<t.2.2/\Tp l t.2.2
theorem AL{o:Of}{N:List (List Int)}{tags:List Int}{s:List UInt8}:∀(f a:Nat),a<=s.length->s.length<a+f->Tp (l_ o N tags s f a).1 a/\
 (((l_ o N tags s f a).2=(0,0)/\B_ (l_ o N tags s f a).1 a=s.length)\/((l_ o N tags s f a).2.2=9/\B_ (l_ o N tags s f a).1 a=(l_ o N tags s f a).2.1/\(l_ o N tags s f a).2.1<s.length))
 |0,a,h1,h2=>by omega
 | f + 1,a,h1,h2=>by
  rw[qu]
  by_cases c:a<s.length
  ·rw[if_pos c]
   by_cases c2:(cD o N tags s a).2=0
   ·rw[if_pos c2]
    exact⟨trivial,.inr ⟨rfl,rfl,c⟩⟩
   rw[if_neg c2];have ht:=(Vu (o:=o) (N:=N) (tags:=tags) h1).resolve_left c2;obtain⟨q1,q2⟩:=AL (o:=o) (N:=N) (tags:=tags) (s:=s) f (cD o N tags s a).2 ht.2 J;exact⟨⟨rfl,ht.1,q1⟩,q2⟩
  rw[if_neg c];exact⟨trivial,.inl ⟨rfl,by show a=s.length;omega⟩⟩
theorem AM{R:List Row}{tags:List Int}(hA:(eJ R tags).Ok):∀(s:List UInt8) (i:Nat) (q r:Int) (t:Nat),St (eJ R tags) q->0<=q->
 (Yv (nxR R) tags s i q r t=(r,t)/\∀k,0<k->k<=s.length->tg (eJ R tags) (go (eJ R tags) q (s.take k))<0)\/
 (∃k,0<k/\k<=s.length/\Yv (nxR R) tags s i q r t=(tg (eJ R tags) (go (eJ R tags) q (s.take k)),i+k)/\0<=tg (eJ R tags) (go (eJ R tags) q (s.take k))/\∀j,k<j->j<=s.length->tg (eJ R tags) (go (eJ R tags) q (s.take j))<0)
 |[],_,_,_,_,_,_=> .inl ⟨rfl,λk h1 h2=>by simp_all⟩
 | b ::s,i,q,r,t,hq,h0=>by
  have e:nxR R q b=dt (eJ R tags) q b.toNat:=by unfold dt;rw[if_neg J];rfl
  have hst:=xH hA hq b.toNat_lt;have hgo:∀k,go (eJ R tags) q ((b::s).take (k+1))=go (eJ R tags) (dt (eJ R tags) q b.toNat) (s.take k):=λk=>rfl;unfold Yv;rw[e];have hk:∀k,0<k->∃k',k=k'+1:=λk h=>⟨k-1,by omega⟩;generalize dt (eJ R tags) q b.toNat=x at*;have ahG:tags.getD x.toNat 0=(eJ R tags).tag x.toNat:=rfl
  by_cases c:x<0
  ·rw[if_pos c]
   refine .inl ⟨rfl,λk h1 h2=>?_⟩;obtain⟨k,rfl⟩:=hk k h1;rw[hgo];have:=aam (A:=eJ R tags) (s.take k) c;unfold tg;rw[if_pos this];decide
  rw[if_neg c,ahG];have htg:tg (eJ R tags) x=(eJ R tags).tag x.toNat:=by simp_all[tg,if_neg]
  by_cases c2:0<=(eJ R tags).tag x.toNat
  ·rw[if_pos c2]
   right
   rcases AM hA s (i+1) x ((eJ R tags).tag x.toNat) (i+1) hst J with⟨h1,h2⟩|⟨k,h1,h2,h3,h4,h5⟩
   ·refine⟨1,by omega,by simp,?_,?_,λj h3 h4=>?_⟩
    rw[h1,hgo 0];show _=(tg (eJ R tags) x,_);rw[htg];rw[hgo 0];show 0<=tg (eJ R tags) x;rw[htg];exact c2;obtain⟨j,rfl⟩:=hk j J;rw[hgo];exact h2 j J (by rw[dj]at h4;omega)
   refine⟨k+1,by omega,by simp_all,?_,by simp_all,λj h6 h7=>?_⟩;rw[h3,hgo];exact pE I (by show i+1+k=i+(k+1);omega);obtain⟨j,rfl⟩:=hk j J;rw[hgo];exact h5 j J (by rw[dj]at h7;omega)
  rw[if_neg c2];rcases AM hA s (i+1) x r t hst J with⟨h1,h2⟩|⟨k,h1,h2,h3,h4,h5⟩
  ·refine .inl ⟨h1,λk h3 h4=>?_⟩
   obtain⟨k,rfl⟩:=hk k h3;rw[hgo]
   by_cases c3:k=0
   ·subst c3
    show tg (eJ R tags) x<0
    omega
   grind
  refine .inr ⟨k+1,by omega,by simp_all,?_,by simp_all,λj h6 h7=>?_⟩;rw[h3,hgo];exact pE I (by show i+1+k=i+(k+1);omega);obtain⟨j,rfl⟩:=hk j J;rw[hgo];exact h5 j J (by rw[dj]at h7;omega)
def ajZ(R:List Row)(tags:List Int)(s:List UInt8)(x:Tok):Prop:=
 x.2.1<x.2.2/\x.2.2<=s.length/\ph R tags ((s.drop x.2.1).take (x.2.2-x.2.1))=(x.1,0)/\∀e,x.2.2<e->e<=s.length->(ph R tags ((s.drop x.2.1).take (e-x.2.1))).1<0
theorem X6{R:List Row}{tags:List Int}(hc:lZ R tags=0){s:List UInt8}{a:Nat}(ha:a<=s.length)(h:(ue R tags s a).2≠0):ajZ R tags s ((ue R tags s a).1,a,(ue R tags s a).2):=by
 have hA:=(oW hc).1;unfold ue at*;rcases AM hA (s.drop a) a 0 0 0 (UY hA) alt with⟨h1,_⟩|⟨k,h1,h2,h3,h4,h5⟩
 simp_all;rw[je]at h2 h5;rw[h3];refine⟨by simp_all,by grind,?_,λe lz gh=>?_⟩
 simp_all[DJ]
 grind[DJ]
end pt
namespace cB
open Go.RowKit cL dV cX pt
end cB
namespace pt
open Go.RowKit cL dV cB cX
theorem ado{R:List Row}{tags:List Int}(hc:lZ R tags=0){s:List UInt8}{a:Nat}:
 ((ue R tags s a).2=0->∀e,a<e->e<=s.length->(ph R tags ((s.drop a).take (e-a))).1<0)/\((ue R tags s a).2≠0->0<=(ue R tags s a).1):=by
 have hA:=(oW hc).1;have h:=AM (R:=R) (tags:=tags) hA (s.drop a) a 0 0 0 (UY hA) (jg _);have e:ue R tags s a=Yv (nxR R) tags (s.drop a) a 0 0 0:=rfl;rw[e];rcases h with⟨h1,h2⟩|⟨k,h1,h2,h3,h4,h5⟩
 ·rw[h1]
  refine⟨λ_ e he hl=>?_,λh=>absurd I h⟩;rw[DJ hc];exact h2 (e-a) J (by rw[je];omega)
 grind
end pt
namespace xh
open Go.RowKit cL dV cB dg gv iK aL cX ep nP AK pt
def adp(R:List Row)(T:List Int):List Int:=[[97],[32],[97,32],[97,32,97],[32,97],[97,97]].map λs=>tg (eJ R T) (go (eJ R T) 0 s)
set_option maxRecDepth 1000000 in
theorem adq:((vz (lM (fv 97 97) (fv 32 32))).map λx=>adp x.1 x.2.tags)=ah [0,1,-1,-1,-1,-1]:=by kernel_rfl
theorem adr:∃R T,Vg lS (0,R,T)/\lZ R T=0/\[[97],[32],[97,32],[97,32,97],[32,97],[97,97]].map (λs=>(ph R T s).1)=[0,1,-1,-1,-1,-1]:=by
 have hl:l9 0 .zero lE=(0,lM (fv 97 97) (fv 32 32)):=aii _ _;have hd:=adq;generalize lM (fv 97 97) (fv 32 32)=m at*
 cases hm:vz m with
 |none=>simp_all
 | some y=>
  obtain⟨R,d⟩:=y;rw[hm,SX,dM]at hd;have hc:lZ R d.tags=0:=abT (Dw alt alt hl) (BS hm);refine⟨_,_,.inr ⟨lE,m,rfl,?_,by decide,by decide,hl,.inr (.inr ⟨by decide,X5,lE,rfl,?_,hl.symm⟩),.inr (.inr ⟨afP,?_,?_,rfl⟩)⟩,?_,?_⟩
  ·intro e he
   simp only[lE,dw,fC,or_false]at he;rcases he with rfl|rfl<;>exact⟨by unfold Re.nz;decide,by decide,by decide⟩
  ·intro e he
   simp only[lE,dw,fC,or_false]at he;rcases he with rfl|rfl<;>decide
  rw[yX hm];rw[yX hm];exact hc;rw[yX hm];exact DI hc;rw[yX hm];rw[<-hd];unfold adp;simp only[fm,mU,ack hc]
theorem tF{R:List Row}{T:List Int}(hc:lZ R T=0){s:List UInt8}{a n:Nat}{r:Int}(ha:a+n<=s.length)(hn:0<n)(h1:(ph R T ((s.drop a).take n)).1=r)(h0:0<=r)(h2:∀e,a<e->e<=s.length->e≠a+n->(ph R T ((s.drop a).take (e-a))).1<0):pt.ue R T s a=(r,a+n):=by
 obtain⟨h3,h4⟩:=ado hc (s:=s) (a:=a);have h5:=X6 hc (s:=s) (a:=a) J;generalize pt.ue R T s a=x at*;obtain⟨x,t⟩:=x
 by_cases c:t=0
 grind
 obtain⟨h6,h7,h8,_⟩:=h5 c;have h9:=h4 c
 by_cases d:t=a+n
 ·subst d
  rw[show a+n-a=n by omega]at h8;rw[h8]at h1;rw[<-h1]
 have:=h2 t h6 h7 d;rw[h8]at this;exact absurd h9 (by dsimp only at this;omega)
theorem AN{R:List Row}{T:List Int}{s:List UInt8}{f a:Nat}(r:Int)(t:Nat)(h:pt.ue R T s a=(r,t))(ha:a<s.length)(ht:t≠0):xw R T s (f+1) a=((r,a,t)::(xw R T s f t).1,(xw R T s f t).2):=by
 rw[xw,if_pos ha,h,if_neg ht]
theorem DS{R:List Row}{T:List Int}{s:List UInt8}{f a:Nat}(ha:¬a<s.length):xw R T s (f+1) a=([],0,0):=by rw[xw,if_neg ha]
theorem afQ{R:List Row}{T:List Int}(hc:lZ R T=0)(h:[[97],[32],[97,32],[97,32,97],[32,97],[97,97]].map (λs=>(ph R T s).1)=[0,1,-1,-1,-1,-1]):
 xw R T [97] 2 0=([(0,0,1)],0,0)/\xw R T [32] 2 0=([(1,0,1)],0,0)/\xw R T [97,32,97] 4 0=([(0,0,1),(1,1,2),(0,2,3)],0,0)/\xw R T [97,97] 3 0=([(0,0,1),(0,1,2)],0,0):=by
 simp only[fm,mU,fL,and_true]at h;obtain⟨h1,h2,h3,h4,h5,h6⟩:=h;refine⟨?_,?_,?_,?_⟩
 grind[tF,AN,DS]
 grind[tF,AN,DS]
 ·have e0:=tF hc (s:=[97,32,97]) (a:=0) (n:=1) alt alt h1 alt λe x1 x2 x3=>by
   match e,x2 with
   |0,_=>omega
   |1,_=>omega
   |2,_=>simp_all
   |3,_=>simp_all
  have e1:=tF hc (s:=[97,32,97]) (a:=1) (n:=1) alt alt h2 alt λe x1 x2 x3=>by
   match e,x2 with
   |0,_=>omega
   |1,_=>omega
   |2,_=>omega
   |3,_=>simp_all
  grind[tF,AN,DS]
 ·have e0:=tF hc (s:=[97,97]) (a:=0) (n:=1) alt alt h1 alt λe x1 x2 x3=>by
   match e,x2 with
   |0,_=>omega
   |1,_=>omega
   |2,_=>simp_all
  grind[tF,AN,DS]
end xh
namespace cB
open Go.RowKit cL dV
def ads(Ls:List b_):b_ where
 CV:=aj
 more:=λk=>∃o∈Ls,o.ft k
 holds:=λw=>fg (λ_=>True) w Ls
 lt:=λw h k hk=>by
  rcases hk with hk|⟨o,ho,hk⟩
  cases hk
  obtain⟨i,hi⟩:=yd ho;exact o.lt w (h.all i o hi).1 k hk
 stay:=λw w' h hs hk=>⟨λi o hi=>⟨o.stay w w' (h.all i o hi).1 hs λk hf=>hk k (.inr ⟨o,kr hi,hf⟩),λ_ _=>trivial⟩,h.apart⟩
theorem adt{Ls:List b_}{k:Nat}(h:(ads Ls).ft k):∃o∈Ls,o.ft k:=by
 rcases h with h|h
 cases h
 exact h
theorem Vy{Ls:List b_}{w:World}(h:(ads Ls).holds w):Mem (bV.on w Ls) Ls w:=
 ⟨⟨rfl,rfl,rfl,aX _,λ_ _ _=>rfl⟩,⟨λi o hi=>⟨(h.all i o hi).1,λk hk=> .inr ⟨o,kr hi,hk⟩⟩,h.apart⟩⟩
theorem fg.bun{p:Nat->Prop}{w:World}{Ls:List b_}(h:fg p w Ls):fg p w [ads Ls]:=
 fg.one ⟨λi o hi=>⟨(h.all i o hi).1,λ_ _=>trivial⟩,h.apart⟩ λk hk=>by
  obtain⟨o,ho,hk⟩:=adt hk;obtain⟨i,hi⟩:=yd ho;exact(h.all i o hi).2 k hk
theorem adu(a:Int):(cL.eP a).length=1:=rfl
theorem xy(v:Value)(l:List Int)(w:World)(hs:Sl w v l.length (l.flatMap cL.eP))(uV:FuncId)(first cp:Array Value)(p:Int->Bool)(Kl:Enters aC uV)
 (hp:∀a∈l,∀w',Gr w w'->Calls aC uV (first++#[((cL.eP a).headD undef)]++cp) w' (cJ (ret (.bool (p a))) w')):
 Calls aC 191 #[v,.func (.func uV) first cp] w (cJ (ret (ap av (tZ p l))) w):=by
 obtain⟨base,cap,rfl,sM,rR,gu⟩:=hs;unfold maxLen at rR;refine enter (args:=[ak base l.length cap,.func (.func uV) first cp]) (n:=19) Tryz.func191 I I I ?_
 try refine GA ?_
 refine dZ (ι:=Nat) (λk=>k<=l.length/\∀j (hj:j<l.length),j<k->p l[j]=aE) (λk=>[(0,ak base l.length cap),(1,.func (.func uV) first cp),(7,ap av l.length),(8,ap av (k:Int))]) (λ_=>[]) (λk=>l.length-k) 0 ⟨by omega,λj hj h=>by omega⟩ ?_;rintro k ⟨h1,h2⟩
 by_cases c2:k<l.length
 ·obtain⟨b,off,rfl,hr⟩:=gu J
  have eC:=gK (L:=([]:List b_)) adu hr c2;have lI:=hp l[k] (bX c2)
  by_cases c3:p l[k]=aB
  ·rw[wM c2 c3 h2]
   rw[c3]at lI;clear hp h2 gu
   repeat(first|refine GA ?_|refine gV (aR bM.eq aI.ty I I c2) ?_|refine gV (aw aI.ty I (eC 0 _ I)) ?_)
   refine aT (sD Kl I I) (λw hm=>lI w hm.below) I I I ?_;intro _ _
   try refine GA ?_
   exact dQ
  have V6:p l[k]=false:=by simpa using c3
  rw[V6]at lI;clear hp gu c3
  repeat(first|refine GA ?_|refine gV (aR bM.eq aI.ty I I c2) ?_|refine gV (aw aI.ty I (eC 0 _ I)) ?_)
  refine aT (sD Kl I I) (λw hm=>lI w hm.below) I I I ?_;intro _ _
  try refine GA ?_
  exact bQ (k+1) ⟨by omega,λj hj h=>if e:j<k then h2 j hj e else(by obtain rfl:j=k:=J;exact V6)⟩ (by show l.length-(k+1)<l.length-k;omega)
 ·rw[wN λj hj=>h2 j hj J]
  clear hp h2 gu
  try refine GA ?_
  exact dQ
theorem tG(v:Value)(l:List Int)(w:World)(hs:Sl w v l.length (l.flatMap cL.eP))(uV:FuncId)(first cp:Array Value)(p:Int->Bool)(Kl:Enters aC uV)
 (hp:∀a∈l,∀w',Gr w w'->Calls aC uV (first++#[((cL.eP a).headD undef)]++cp) w' (cJ (ret (.bool (p a))) w')):
 Calls aC 167 #[v,.func (.func uV) first cp] w (cJ (ret (.bool (l.any p))) w):=by
 refine enter (args:=[v,.func (.func uV) first cp]) (n:=9) Tryz.func167 I I I ?_;have hh:=λw' (hg:Gr w w')=>xy v l w' (hs.gr hg) uV first cp p Kl λa ha Pz zh=>hp a ha Pz (hg.trans zh);have hr:=sJ p l;rw[<-zy p l];generalize tZ p l=r at*
 try refine GA ?_
 refine aT (gh aF.en I I I) (λw hm=>hh _ hm.below) I I I ?_;intro _ _
 repeat(first|refine GC ?_|refine gV (fX I I I) ?_|refine GB ?_)
 exact dQ
open aL dI dA bK cX
def sI(σ:List Nat):List Int:=σ.reverse.map λq:Nat=>(q:Int)
theorem wH(σ:List Nat):(sI σ).length=σ.length:=by unfold sI;simp
theorem AO(q:Nat)(σ:List Nat):sI (q::σ)=sI σ++[(q:Int)]:=by unfold sI;simp
theorem Vz(b:Nat)(σ:List Nat):sI (σ.drop b)=(sI σ).take (σ.length-b):=by
 unfold sI;rw[<-acK,List.take_reverse]
 by_cases h:b<=σ.length
 rw[show σ.length-(σ.length-b)=b by omega];rw[yC J,yC J]
theorem adv{b:Nat}{σ ρ:List Nat}{r n:Nat}(h:σ.drop b=r::ρ)(hn:σ.length=n+1+b):(sI σ)[n]?=ah (r:Int):=by
 have h1:=Vz b σ;rw[h,AO,show σ.length-b=n+1 by omega]at h1;have h2:ρ.length=n:=by
  have:=congrArg ky h;rw[je,dj]at this;omega
 have h3:((sI σ).take (n+1))[n]?=ah (r:Int):=by
  rw[<-h1,yc (by rw[wH];omega),wH,h2,BK];rfl
 rwa [List.getElem?_take_of_lt (tv n)]at h3
abbrev skR(w:World)(vs:Value)(σ:List Nat):Prop:=Sl w vs σ.length ((sI σ).flatMap cL.eP)
abbrev VA(vs:Value)(σ:List Nat):b_:=bm 3 1 vs σ.length ((sI σ).flatMap cL.eP)
def xY(vs:Value)(seen over:Int)(done:Bool):Value:=aP #[vs,ap av seen,ap av over,.bool done]
theorem G'(aA:Option Addr)(nA cA:Nat)(vG:Value)(q:Int)(g5:Nat)(w:World)(h0:0<=q)(h1:q<(nA:Int))(hg:w.heap[g5]?=ah (.cells (aP #[ak aA nA cA,vG]).cells 36 (0,0))):
 Calls aC 168 #[ap av q,aH (ah ⟨g5,0,aj⟩)] w (cJ (ret (.bool aE)) w):=by
 have hcell:∀(L:List b_),At w L ⟨g5,0,aj⟩ (ak aA nA cA):=λL=>jL (by
  rw[cell_of_row w g5 0 _ _ _ hg];rfl)
 clear hg;refine enter (args:=[ap av q,aH (ah ⟨g5,0,aj⟩)]) (n:=13) Tryz.func168 I I I ?_
 repeat(first|refine GC ?_|refine gV (fI (b:=aE) I I (decide_eq_false J)) ?_|refine gV (aw (v:=ak aA nA cA) aI.ty I (hcell _)) ?_|refine gV (fX (b:=aE) I I (decide_eq_false J)) ?_|refine GB ?_)
 exact dQ
theorem xZ(v t vs:Value)(g:dD)(T N:Nat)(A:List (List bK.Act))(G:List (List Int))(σ:List Nat)(seen col:Int)(w:World)(hG:jS (λk=>k<w.heap.size) w v g)(ht:GO w t A G)(hs:skR w vs σ)(hT:wz g T N A G)(hq:∀q∈σ,q<A.length)(h0:0<σ.length)(hl:σ.length<=60)(h1:0<=seen)(h2:seen<=1099511627776)(h3:0<=col)(h4:col<=g.aQ):
 Calls aC 152 #[v,t,xY vs seen 0 aE,ap av col] w (cJ (ret (ap av 0)) w):=by
 have fS:=λw' (hg:Gr w w')=>xV v t g T N A G hT w' (hG.gr hg) (ht.gr hg);obtain⟨vp,rfl,hp,-,-⟩:=hG;obtain⟨bp,cp,rfl,-⟩:=hp;obtain⟨vA,vG,rfl,hA,hGo⟩:=ht;obtain⟨aA,cA,rfl,-,-⟩:=ni hA;clear hA hGo;have hco:=λw' (hg:Gr w w') g5 (hb:w'.heap[g5]?=ah (.cells (aP #[ak aA A.length cA,vG]).cells 36 (0,0)))=>tG vs (sI σ) w' (by rw[wH];exact hs.gr hg) 168 #[] #[aH (ah ⟨g5,0,aj⟩)] (λ_=>aE) aF.en (λa ha Pz zh=>by
  unfold sI at ha;obtain⟨q,hq1,rfl⟩:=fE.1 ha;have:=hq q (acJ.1 hq1);exact G' aA A.length cA vG (q:Int) g5 Pz J J (by rw[zh.block g5 (lL.1 hb).1];exact hb))
 have XO:(sI σ).any (λ_=>aE)=false:=by rw[List.any_eq_false];intro _ _ h;cases h
 rw[XO]at hco;obtain⟨bs,cs,rfl,-⟩:=hs;refine enter (args:=[du g.aQ g.bB (ak bp g.az.length cp),aP #[ak aA A.length cA,vG],xY (ak bs σ.length cs) seen 0 aE,ap av col]) (n:=66) Tryz.func152 I I I ?_;refine bZ (bx (bH I I I λg4=>?_));refine zL ?_;refine bH I I I λg5=>?_;refine zL ?_;refine bH I I I λg6=>?_;refine zL ?_
 repeat(first|refine GA ?_|refine gV (aJ (i:=0) aI.ty I I I) ?_|refine gV (aJ (i:=1) aI.ty I I I) ?_)
 refine aT (gh aF.en I I I) (λw hm=>fS w hm.below) I I I ?_;intro _ _;refine zL ?_
 repeat(first|refine GA ?_|refine gV (aw (v:=ak bs σ.length cs) aI.ty I (aD (i:=2) I I)) ?_|refine gV (aw (v:=ap av seen) aI.ty I (aD (i:=2) I I)) ?_|refine gV (aw (v:=ap av 0) aI.ty I (aD (i:=2) I I)) ?_|refine gV (aw (v:= .bool aE) aI.ty I (aD (i:=2) I I)) ?_|refine gV (aw (v:=ap av g.aQ) aI.ty I (aD (i:=0) I I)) ?_|refine gV (lA I I) ?_)
 refine aT (gh aF.en I I I) (λw hm=>hco _ hm.below _ (hm.get (i:=1) I)) I I I ?_;intro _ _;refine zL ?_
 repeat(first|refine GA ?_|refine gV (aw (v:=ap av 0) aI.ty I (aD (i:=2) I I)) ?_|refine gV (aw (v:= .bool aE) aI.ty I (aD (i:=2) I I)) ?_)
 exact dQ
theorem X7(g:Nat)(w:World):(da 137 #[(0,ak (ah ⟨g,0,aj⟩) 1 1)]).run aC w= .ok (xY (ak (ah ⟨g,0,aj⟩) 1 1) 0 0 aE) w:=by
 unfold xY;go_simp
theorem JL(seen e:Int)(w:World):(da 137 #[(1,ap av seen),(2,ap av e)]).run aC w= .ok (xY (ak aj 0 0) seen e aE) w:=by
 unfold xY;go_simp
theorem X8(b:Option Addr)(m c:Nat)(seen:Int)(w:World):(da 137 #[(0,ak b m c),(1,ap av seen)]).run aC w= .ok (xY (ak b m c) seen 0 aE) w:=by
 unfold xY;go_simp
theorem X9(seen:Int)(w:World):(da 137 #[(1,ap av seen),(3,.bool aB)]).run aC w= .ok (xY (ak aj 0 0) seen 0 aB) w:=by
 unfold xY;go_simp
def DT:Spec Value:=⟨λ_=>True,λvt=>xY vt 0 0 aE,λvt=>[VA vt [0]]⟩
theorem H0(w:World):Calls aC 48 #[] w (cJ DT w):=by
 refine enter (args:=[]) (n:=3) Tryz.func48 I I I ?_;refine bZ (bx (aY I λg2=>?_));refine zL ?_
 try refine GA ?_
 refine fz (cs:=#[ap av 0]) [ap av 0] I I I (by intro v hv;simp at hv;subst hv;rfl) I I I λg3=>?_;refine zL ?_
 repeat(first|refine QZ ?_|refine QV (aZ I (X7 _)) ?_)
 refine fR 0 (cs':=#[ak (ah ⟨g3,0,aj⟩) 1 1,ap av 0,ap av 0,.bool aE]) ?_;refine zL ?_;refine zt (i:=1) 1 I I J ?_;refine zL ?_
 try refine GA ?_
 exact gT (i:=0) I I I I λw hm=>hm.meets (S:=DT) (ak (ah ⟨g3,0,aj⟩) 1 1) trivial [1] alt I
def Pe(R:Option (List Nat)):Spec Value:=⟨λ_=>True,λv=> .tuple #[v,.bool R.isSome],λv=>match R with|some σ'=>[VA v σ']|none=>[]⟩
theorem Ha(v t vs:Value)(g:dD)(T N:Nat)(A:List (List bK.Act))(G:List (List Int))(σ:List Nat)(p:Nat)(w:World)(hG:jS (λk=>k<w.heap.size) w v g)(ht:GO w t A G)(hs:skR w vs σ)(hT:wz g T N A G)(hq:∀q∈σ,q<A.length)(hl:σ.length<=60)(hp:p<g.az.length):
 Calls aC 169 #[v,t,vs,ap av (p:Int)] w (cJ (Pe (zc g.az (fQ G) σ (p:Int))) w):=by
 obtain⟨hg,Lh,hNn,uc,Ol,uO,hwA,afs,hwG,acZ⟩:=hT;obtain⟨hT1,hT2,-,hN2,wY,hpr⟩:=cz hg;have hpe:a_ g.az (p:Int)=g.az[p]:=by unfold a_;rw[de,cH,bL hp];rfl
 have hpp:=hpr _ (bX hp);obtain⟨vp,rfl,hpg,-,-⟩:=hG;obtain⟨bp,cp,rfl,-,-,mQ⟩:=hpg;obtain⟨b1,o1,rfl,-,mQ⟩:=mQ J;obtain⟨base,cap,gu,-,-⟩:=jp mQ hp;clear mQ;unfold zc;rw[hpe];have alc:∀L,At (w:bV) L ⟨b1,o1+p*2+0,aj⟩ (ap av g.az[p].1):=λL=>jE gu I;have aj0:∀L,At (w:bV) L ⟨b1,o1+p*2+1,aj⟩ (.slice base g.az[p].2.length cap):=λL=>jE gu I;clear gu hpe hpr;generalize g.az[p]=pr at*;obtain⟨hd,bd⟩:=pr;dsimp only at*;obtain⟨vA,vG,rfl,-,hGo⟩:=ht;obtain⟨aG,cG,rfl,-,-⟩:=ni hGo;obtain⟨bs,cs,rfl,hcs,hms,hrS⟩:=hs;unfold maxLen at hms;refine enter (args:=[du g.aQ g.bB (ak (ah ⟨b1,o1,aj⟩) g.az.length cp),aP #[vA,ak aG G.length cG],ak bs σ.length cs,ap av (p:Int)]) (n:=50) Tryz.func169 I I I ?_;refine bZ (bx (bH I I I λg4=>?_));refine zL ?_;refine bH I I I λg5=>?_;refine zL ?_
 by_cases c:σ.length<=bd.length
 ·rw[yC c]
  repeat(first|refine GC ?_|refine gV (aw (v:=ak (ah ⟨b1,o1,aj⟩) g.az.length cp) aI.ty I (aD (i:=0) I I)) ?_|refine gV (aR bM.eq aI.ty I I hp) ?_|refine gV (aw (v:=ak base bd.length cap) aI.ty I (aj0 _)) ?_|refine gV (ey (r:=(σ.length:Int)-(bd.length:Int)) I I I J J) ?_|refine gV (fI (b:=aB) I I (decide_eq_true J)) ?_|refine GB ?_)
  exact kP I I I λw hm=>hm.meets (S:=Pe aj) (ak aj 0 0) trivial [] alt I
 obtain⟨n,hn⟩:∃n,σ.length=n+1+bd.length:=⟨σ.length-bd.length-1,by omega⟩;obtain⟨r,ρ,hdr⟩:∃r ρ,σ.drop bd.length=r::ρ:=Lw λe=>by
  have:=congrArg ky e;rw[je,List.length_nil]at this;omega
 have hgr:=adv hdr hn;have hdI:=Vz bd.length σ;rw[hdr,AO,show σ.length-bd.length=n+1 by omega]at hdI;have hrA:r<A.length:=hq r (ti (i:=bd.length) (by rw[hdr];exact gX ..));rw[hdr];dsimp only;have hrG:r<G.length:=by omega
 obtain⟨b2,o2,rfl,Gv⟩:=hrS J;rw[NC]at Gv;have ub:∀L,At (w:bV) L ⟨b2,o2+n,aj⟩ (ap av (r:Int)):=λL=>jE Gv (by rw[iN,hgr];rfl);have aj1:∀L j u,(((sI σ).take (n+1)).flatMap cL.eP)[j]?=ah u->At (w:bV) L ⟨b2,o2+j,aj⟩ u:=λL j u hj=>jE Gv (by
  rw[NC,acK,List.getElem?_take]at hj
  by_cases cc:j<n+1
  rwa [if_pos cc]at hj
  rw[if_neg cc]at hj;cases hj)
 clear Gv hrS;obtain⟨bG,oG,wi,rfl,hcG,hsG⟩:=LG hGo hrG;have afu:∀L,At (w:bV) L ⟨bG,oG+r,aj⟩ wi:=λL=>jL hcG;clear hcG;obtain⟨ei,di,rfl,hdi,ajK⟩:=ni hsG;have hfG:=hsG.flat (f:=λn=>[ap .i64 n]) alt;obtain⟨_,_,e2,-,-,hrY⟩:=hfG
 cases e2
 have al1:=hwG r hrG;have hgo:=acZ r hrG;have VV:fQ G r hd=G[r].getD hd.toNat 0:=by unfold fQ;rw[cH (l:=G),bL hrG];rfl
 rw[VV];clear hsG VV acZ hwG hwA afs hGo;generalize G[r]=Y at*;obtain⟨h,rfl⟩:=fJ hpp.2.1;have hhY:h<Y.length:=by omega
 obtain⟨b3,o3,rfl,OY⟩:=hrY J;have hYh:Y[h]?=ah (Y.getD h 0):=by rw[cH,bL hhY];rfl
 have ahk:∀L,At (w:bV) L ⟨b3,o3+h,aj⟩ (ap av (Y.getD h 0)):=λL=>jE OY (by
  rw[show(Y.flatMap λn=>[ap .i64 n])=Y.map (.int .i64)from NC Y,iN,hYh];rfl)
 have hto:=hgo _ (kr hYh);clear OY hrY hYh hgo;rw[show Y.getD ((h:Int)).toNat 0=Y.getD h 0 from I];generalize Y.getD h 0=to1 at*
 repeat(first|refine GC ?_|refine gV (aw (v:=ak (ah ⟨b1,o1,aj⟩) g.az.length cp) aI.ty I (aD (i:=0) I I)) ?_|refine gV (aR bM.eq aI.ty I I hp) ?_|refine gV (aw (v:=ak base bd.length cap) aI.ty I (aj0 _)) ?_|refine gV (ey (r:=((n+1:Nat):Int)) I I J J J) ?_|refine gV (fI (b:=aE) I I (decide_eq_false J)) ?_|refine GB ?_)
 refine dG ([aK g4 (du g.aQ g.bB (ak (ah ⟨b1,o1,aj⟩) g.az.length cp)).cells 33,aK g5 (aP #[vA,ak (ah ⟨bG,oG,aj⟩) G.length cG]).cells 36]) (.calm 0 (.calm 1 (.calm 2 (.calm 3 (.calm 4 (.calm 5 (.calm 6 (.calm 7 (.calm 8 (.calm 9 (.calm 10 (.calm 11 (.calm 12 (.calm 13 (.calm 14 (.calm 15 (.calm 16 (.calm 17 (.done))))))))))))))))))) (λ_ h=>h) ?_
 repeat(first|(refine GN ?_;first|refine QW QP ?_|refine QW (aw (v:=ak (ah ⟨bG,oG,aj⟩) G.length cG) aI.ty I (aD (i:=1) I I)) ?_|refine QW (ey (r:=(n:Int)) I I J J J) ?_|refine QW (bO (j:=n) bM.eq aI.ty I I J) ?_|refine QW (aw (v:=ap av (r:Int)) aI.ty I (ub _)) ?_|refine QW (bO (j:=r) bM.eq aI.ty I I hrG) ?_|refine QW (aw (v:=ak (ah ⟨b3,o3,aj⟩) Y.length di) aI.ty I (afu _)) ?_|refine QW (aw (v:=ak (ah ⟨b1,o1,aj⟩) g.az.length cp) aI.ty I (aD (i:=0) I I)) ?_|refine QW (aR bM.eq aI.ty I I hp) ?_|refine QW (aw (v:=ap av (h:Int)) aI.ty I (alc _)) ?_|refine QW (bO (j:=h) bM.eq aI.ty I I hhY) ?_|refine QW (aw (v:=ap av to1) aI.ty I (ahk _)) ?_|refine GX ?_)|refine GW ?_)
 repeat(first|refine GC ?_|refine gV (ag9 (j:=n+1) bM.eq aI.ty I I I J) ?_|refine GB ?_)
 refine gG (cs:=#[ap av to1]) I I I I I λg46=>?_;refine zL ?_;refine Qy (q:=2) (m:=n+1) (olds:=((sI σ).take (n+1)).flatMap cL.eP) I (aj1 _) (by rw[NC,dY,jr,wH];show _=(n+1)*1;omega) I I I J J I λv'=>?_;refine zL ?_
 by_cases c2:0<=to1
 ·rw[if_pos c2]
  have e:bm 3 1 v' (n+1+1) (((sI σ).take (n+1)).flatMap cL.eP++[ap av to1])=VA v' (to1.toNat::r::ρ):=by
   have Ia:(to1.toNat::r::ρ).length=n+1+1:=by
    have:=congrArg ky hdr;rw[je]at this;simp only[dj]at this⊢;omega
   show _=bm 3 1 v' (to1.toNat::r::ρ).length ((sI (to1.toNat::r::ρ)).flatMap cL.eP)
   rw[Ia,AO,AO,hdI,ie,uP c2];rfl
  repeat(first|refine GC ?_|refine gV (fX (b:=aB) I I (decide_eq_true c2)) ?_|refine GB ?_)
  exact kP I I I λw hm=>hm.meets (S:=Pe (ah (to1.toNat::r::ρ))) v' trivial [3] alt (by show[_]=[_];rw[<-e];rfl)
 ·rw[if_neg c2]
  repeat(first|refine GC ?_|refine gV (fX (b:=aE) I I (decide_eq_false c2)) ?_|refine GB ?_)
  exact kP I I I λw hm=>hm.meets (S:=Pe aj) v' trivial [] alt I
theorem wz.right{g:dD}{T N:Nat}{A:List (List bK.Act)}{G:List (List Int)}(h:wz g T N A G){q c:Nat}(hq:q<A.length)(hc:c<=T):wy T g.az.length A.length (ke A q c) c:=by
 have h1:c<A[q].length:=by rw[h.wA q hq];omega
 have:=h.dB q hq c h1;unfold ke;rw[cH (l:=A),bL hq,jz,cH,bL h1];exact this
theorem wz.go{g:dD}{T N:Nat}{A:List (List bK.Act)}{G:List (List Int)}(h:wz g T N A G){q:Nat}{n:Int}(hq:q<A.length)(h0:0<=n)(h1:n<(N:Int)):fQ G q n<(A.length:Int):=by
 have hqG:q<G.length:=by rw[h.same];exact hq
 have h2:n.toNat<G[q].length:=by rw[h.wG q hqG];omega
 have:=(h.gos q hqG _ (bX h2)).2;unfold fQ;rw[cH (l:=G),bL hqG,jz,cH,bL h2];exact this
theorem VB{g:dD}{T N:Nat}{A:List (List bK.Act)}{G:List (List Int)}(h:wz g T N A G){σ σ':List Nat}{p:Int}(h0:0<=p)(h1:p<(g.az.length:Int))(hq:∀q∈σ,q<A.length)(hr:zc g.az (fQ G) σ p=ah σ'):σ'≠[]/\σ'.length<=σ.length+1/\∀q∈σ',q<A.length:=by
 unfold zc at hr
 cases e:σ.drop (a_ g.az p).2.length with
 |nil=>rw[e]at hr;cases hr
 | cons r ρ=>
  rw[e]at hr;dsimp only at hr;have kK:∀q∈r::ρ,q<A.length:=λq zn=>hq q (ti (i:=(a_ g.az p).2.length) (by rw[e];exact zn));have hlen:(r::ρ).length<=σ.length:=by rw[<-e,je];omega
  split at hr
  ·rename_i c
   obtain rfl:=pD hr;have hh:=(cz h.AG).2.2.2.2.2 _ (eh.ee h0 h1);have:=h.go (kK r (gX ..)) hh.2.1 (by have:=h.bB;omega);refine⟨by simp,by simp only[dj]at hlen⊢;omega,λq zn=>?_⟩;rcases dw.1 zn with rfl|zn
   omega;exact kK q zn
  cases hr
section
variable{l:List aL.Prod}{act:Nat->Nat->bK.Act}{gt:Nat->Int->Int}{col a f q:Nat}{σ:List Nat}{o:List bJ}
theorem aj2{m:Int}(h:act q col=(0,m)):eB l act gt col a (f+1) (q::σ) o=(13,[],[]):=by
 rw[eB,show(q::σ).headD 0=q from I,h,if_neg (by simp),if_neg (by simp),if_neg (by simp),if_neg (by simp)]
theorem adw{x:bK.Act}(h:act q col=x)(h0:x.1≠0):eB l act gt col a 1 (q::σ) o=(14,[],[]):=by
 rw[eB,show(q::σ).headD 0=q from I,h,if_pos ⟨rfl,h0⟩]
theorem aj3{m:Int}(h:act q col=(3,m)):eB l act gt col a (f+1+1) (q::σ) o=(0,q::σ,o):=by
 rw[eB,show(q::σ).headD 0=q from I,h,if_neg (λh=>LA _ h.1),if_pos I]
theorem aj4{m:Int}(h:act q col=(1,m)):eB l act gt col a (f+1+1) (q::σ) o=if 60<(q::σ).length+1 then(14,[],[])else(0,m.toNat::q::σ,o++[(2,(a:Int))]):=by
 rw[eB,show(q::σ).headD 0=q from I,h,if_neg (λh=>LA _ h.1),if_neg (by simp),if_pos I]
theorem agv{m:Int}(h:act q col=(2,m))(hr:zc l gt (q::σ) m=aj):eB l act gt col a (f+1+1) (q::σ) o=(13,[],[]):=by
 rw[eB,show(q::σ).headD 0=q from I,h,if_neg (λh=>LA _ h.1),if_neg (by simp),if_neg (by simp),if_pos I];dsimp only;rw[hr]
theorem aj5{m:Int}{σ':List Nat}(h:act q col=(2,m))(hr:zc l gt (q::σ) m=ah σ'):eB l act gt col a (f+1+1) (q::σ) o=if 60<σ'.length then(14,[],[])else eB l act gt col a (f+1) σ' (o++[(4,m)]):=by
 rw[eB,show(q::σ).headD 0=q from I,h,if_neg (λh=>LA _ h.1),if_neg (by simp),if_neg (by simp),if_pos I];dsimp only;rw[hr]
end
theorem DU{g:dD}{T N:Nat}{A:List (List bK.Act)}{G:List (List Int)}(h:wz g T N A G){col a:Nat}(hc:col<=T):∀(f:Nat) {σ:List Nat} {o:List bJ},σ≠[]->(∀q∈σ,q<A.length)->σ.length<=60->(eB g.az (ke A) (fQ G) col a f σ o).1=0->
 (eB g.az (ke A) (fQ G) col a f σ o).2.1≠[]/\(∀q∈(eB g.az (ke A) (fQ G) col a f σ o).2.1,q<A.length)/\(eB g.az (ke A) (fQ G) col a f σ o).2.1.length<=60/\(eB g.az (ke A) (fQ G) col a f σ o).2.2.length<=o.length+f
 |0,_,_,_,_,_,h0=>by cases h0
 | f + 1,σ,o,hne,hq,hl,h0=>by
  obtain⟨q,σ,rfl⟩:=Lw hne;have hri:=h.right (hq q (gX ..)) hc;generalize hx:ke A q col=x at hri;obtain⟨k,m⟩:=x
  by_cases ck:k=0
  subst ck;rw[aj2 hx]at h0;cases h0
  cases f with
  |zero=>rw[adw hx ck]at h0;cases h0
  | succ f=>
   rcases hri with⟨e,_⟩|⟨e,h1,h2,h3⟩|⟨e,h1,h2⟩|⟨e,_⟩<;>dsimp only at e<;>subst e
   exact absurd I ck
   ·rw[aj4 hx]at h0⊢
    by_cases c:60<(q::σ).length+1
    rw[if_pos c]at h0;cases h0;rw[if_neg c];refine⟨by simp,λy hy=>?_,by simp only[dj]at c⊢;omega,by simp⟩;rcases dw.1 hy with rfl|hy
    dsimp only at h2 h3;omega;exact hq y hy
   ·dsimp only at h1 h2
    cases hr:zc g.az (fQ G) (q::σ) m with
    |none=>rw[agv hx hr]at h0;cases h0
    | some σ'=>
     rw[aj5 hx hr]at h0⊢
     by_cases c:60<σ'.length
     rw[if_pos c]at h0;cases h0;rw[if_neg c]at h0⊢;obtain⟨r1,r2,r3⟩:=VB h h1 h2 hq hr;have:=DU h hc (f+1) (o:=o++[(4,m)]) r1 r3 J h0;refine⟨this.1,this.2.1,this.2.2.1,eL this.2.2.2 ?_⟩;rw[bT,tu];omega
   rw[aj3 hx];exact⟨hne,hq,hl,by show o.length<=_;omega⟩
theorem aj6{B:bV}{L:List b_}{i g cap:Nat}{q:Nat}{σ:List Nat}(hi:L[i]?=ah (VA (ak (ah ⟨g,0,aj⟩) (σ.length+1) cap) (q::σ))):At B L ⟨g,0+σ.length*1,aj⟩ (ap av (q:Int)):=
 ow (f:=cL.eP) ND hi (k:=σ.length) (by rw[wH];simp) 0 _ (by
  have:(sI (q::σ))[σ.length]?=ah (q:Int):=adv (b:=0) (ρ:=σ) I I;rw[dK]at this;obtain⟨_,h⟩:=this;rw[h];rfl)
theorem afR{v:Value}{m:Int}{q:Nat}{σ:List Nat}(h:0<=m):bm 3 1 v (σ.length+1+1) ((sI (q::σ)).flatMap cL.eP++[ap av m])=VA v (m.toNat::q::σ):=by
 show _=bm 3 1 v (m.toNat::q::σ).length ((sI (m.toNat::q::σ)).flatMap cL.eP)
 rw[AO m.toNat,ie,uP h];rfl
theorem VC{v:Value}{x:bJ}{o:List bJ}:bm 59 2 v (o.length+1) (o.flatMap dr++dr x)=rW v (o++[x]):=by
 show _=bm 59 2 v (o++[x]).length ((o++[x]).flatMap dr)
 rw[bT,ie];simp
def sq(R:Int×List Nat×List bJ):Spec (Value×Value):=⟨λ_=>True,λx=>if R.1=0 then .tuple #[x.1,x.2,ap av 0]else .tuple #[ak aj 0 0,ak aj 0 0,ap av R.1],λx=>if R.1=0 then [VA x.1 R.2.1,rW x.2 R.2.2]else []⟩
theorem Pf{σ:List Nat}{o:List bJ}:sq (0,σ,o)=⟨λ_=>True,λx=> .tuple #[x.1,x.2,ap av 0],λx=>[VA x.1 σ,rW x.2 o]⟩:=by unfold sq;simp
theorem Pg{e:Int}(he:e≠0){x:List Nat×List bJ}:sq (e,x)=⟨λ_=>True,λ_=> .tuple #[ak aj 0 0,ak aj 0 0,ap av e],λ_=>[]⟩:=by unfold sq;simp[he]
attribute [local irreducible] Instr.build in
theorem CP(v t vs:Value)(g:dD)(T N:Nat)(A:List (List bK.Act))(G:List (List Int))(zl:List Nat)(seen col:Nat)(w:World)(hG:jS (λk=>k<w.heap.size) w v g)(ht:GO w t A G)(hs:skR w vs zl)(hT:wz g T N A G)(hq:∀q∈zl,q<A.length)(hne:zl≠[])(hl:zl.length<=60)(hc:col<=T):
 Calls aC 154 #[v,t,xY vs (seen:Int) 0 aE,ap av (col:Int)] w (cJ (sq (eB g.az (ke A) (fQ G) col seen 2001 zl [])) w):=by
 have lI:=λw' (hg:Gr w w')=>tR vs (sI zl) w' (by rw[wH];exact hs.gr hg) (by rw[wH];omega);rw[wH]at lI;have gu:=λp6 σ p w' (hg:Gr w w') xF zn hl' hp=>Ha v t p6 g T N A G σ p w' (hG.gr hg) (ht.gr hg) xF hT zn hl' hp;have aj7:=λσ σ' p h0 h1 hq hr=>VB (σ:=σ) (σ':=σ') (p:=p) hT h0 h1 hq hr;have hri:=λq (hq:q<A.length)=>hT.right hq hc;have hwA:=hT.wA;clear hT;obtain⟨vp,rfl,-⟩:=hG;obtain⟨vA,vG,rfl,hA,-⟩:=ht;obtain⟨aA,cA,rfl,-,-⟩:=ni hA;refine enter (args:=[du g.aQ g.bB vp,aP #[ak aA A.length cA,vG],xY vs (seen:Int) 0 aE,ap av (col:Int)]) (n:=87) Tryz.func154 I I I ?_;refine bZ (bx (bH I I I λg4=>?_));refine zL ?_;refine bH I I I λg5=>?_;refine zL ?_;refine bH I I I λg6=>?_;refine zL ?_
 repeat(first|refine GA ?_|refine gV (aw (v:=vs) aI.ty I (aD (i:=2) I I)) ?_)
 refine aT (lz aF.en I I) (λw hm=>lI w hm.below) I I I ?_;intro oF _;refine zL ?_
 try refine GA ?_
 refine iJ 59 2 ?_;generalize hR:eB g.az (ke A) (fQ G) col seen 2001 zl []=R;clear lI hs;refine dZ (ι:=Nat×List Nat×List bJ×Value×Value) (λ(f,σ,o,_,_)=>eB g.az (ke A) (fQ G) col seen f σ o=R/\f<=2001/\1<=f/\o.length+f<=2001/\σ≠[]/\σ.length<=60/\∀q∈σ,q<A.length)
  (λ(f,_,_,vs,vo)=>[(3,ap av (col:Int)),(4,aH (ah ⟨g4,0,aj⟩)),(5,aH (ah ⟨g5,0,aj⟩)),(6,aH (ah ⟨g6,0,aj⟩)),(11,vs),(12,vo),(13,ap av ((2001-f:Nat):Int))])
  (λ(_,σ,o,p6,vo)=>[aK g4 (du g.aQ g.bB vp).cells 33,aK g5 (aP #[ak aA A.length cA,vG]).cells 36,aK g6 (xY vs (seen:Int) 0 aE).cells 137,VA p6 σ,rW vo o]) (λ(f,_,_,_,_)=>f) (2001,zl,[],oF,ak aj 0 0) ⟨hR,by omega,by omega,by simp,hne,hl,hq⟩ ?_
 clear hR hne hl hq;rintro⟨f,σ,o,p6,vo⟩ ⟨i1,i2,i3,i4,i5,i6,i7⟩;dsimp only at i1 i2 i3 i4 i5 i6 i7⊢;obtain⟨q,σ,rfl⟩:=Lw i5;obtain⟨f,rfl⟩:∃f',f=f'+1:=⟨f-1,by omega⟩;have hqA:=i7 q (gX ..);have ald:=hri q hqA;obtain⟨bA,oA,wi,rfl,hcA,hsA⟩:=LG hA hqA;have aft:∀L,At (w:bV) L ⟨bA,oA+q,aj⟩ wi:=λL=>jL hcA;obtain⟨ei,di,rfl,hdi,ajK⟩:=ni hsA;have hfA:=hsA.flat (f:=lm) alt;obtain⟨_,_,e2,-,-,hrX⟩:=hfA
 cases e2
 have al2:=hwA q hqA;have hxe:ke A q col=A[q].getD col (0,0):=by unfold ke;rw[cH (l:=A),bL hqA];rfl
 have hcX:col<A[q].length:=by omega
 obtain⟨b3,o3,rfl,OY⟩:=hrX J;have eC:=λL=>gK (L:=L) si OY hcX;have aj8:A[q][col]=ke A q col:=by rw[hxe,cH,bL hcX];rfl
 rw[aj8]at eC;have F5:∀(L:List b_) (j:Nat) (u:Value),(lm (ke A q col))[j]?=ah u->At (w:bV) L ⟨b3,o3+col*2+j,aj⟩ u:=eC;clear eC OY hrX hxe aj8 hsA hcA hwA hA hri;generalize A[q]=X at*;generalize hx:ke A q col=x at*;refine yx (i:=3) I (by simp) λgs cs hv q1 q2=>?_;subst hv;simp only[dj]at i4 i6 q1⊢
 try refine GA ?_
 refine dG ([aK g5 (aP #[ak (ah ⟨bA,oA,aj⟩) A.length cA,vG]).cells 36,VA (ak (ah ⟨gs,0,aj⟩) (σ.length+1) cs) (q::σ)]) (.calm 0 (.calm 1 (.calm 2 (.calm 3 (.calm 4 (.calm 5 (.calm 6 (.calm 7 (.calm 8 (.calm 9 (.calm 10 (.calm 11 (.calm 12 (.one 13 (.one 14 (.done)))))))))))))))) (bY [1,3]) ?_
 repeat(first|(refine GN ?_;first|refine QW QP ?_|refine QW (aw (v:=ak (ah ⟨bA,oA,aj⟩) A.length cA) aI.ty I (aD (i:=0) I I)) ?_|refine QW (ey (r:=(σ.length:Int)) I I J J J) ?_|refine QW (aR (j:=σ.length) bM.eq aI.ty I I J) ?_|refine QW (aw (v:=ap av (q:Int)) aI.ty I (aj6 (i:=1) I)) ?_|refine QW (bO (j:=q) bM.eq aI.ty I I hqA) ?_|refine QW (aw (v:=ak (ah ⟨b3,o3,aj⟩) X.length di) aI.ty I (aft _)) ?_|refine QW (aR (j:=col) bM.eq aI.ty I I hcX) ?_|refine QW (aW (cs:=lm x) aI.ty I I (F5 _)) ?_|refine GX ?_)|refine GW ?_)
 refine aM I (aY I λg14=>?_);refine zL ?_;refine aO (bY [1,3]) ?_;refine aM I (aV (i:=5) (cs':=(lm x).toArray) I I I I I I ?_);refine zL ?_;refine aO (bY [1,3]) ?_
 try refine GW ?_
 obtain⟨k,m⟩:=x;have LU:((2001-(f+1):Nat):Int)=2000↔f=0:=by omega
 by_cases ck:k=0
 ·subst ck
  rw[aj2 hx]at i1;subst i1
  by_cases c0:f=0
  ·repeat(first|refine GC ?_|refine gV (dc (b:=aB) I I (decide_eq_true (LU.2 c0))) ?_|refine gV (aw (v:=ap av 0) aI.ty I (aD (i:=5) I I)) ?_|refine GB ?_)
   exact mW I I I I λw hm=>hm.meets (S:=sq (13,[],[])) (ak aj 0 0,ak aj 0 0) trivial [] alt I
  repeat(first|refine GC ?_|refine gV (dc (b:=aE) I I (decide_eq_false λh=>c0 (LU.1 h))) ?_|refine gV (aw (v:=ap av 0) aI.ty I (aD (i:=5) I I)) ?_|refine GB ?_)
  exact mW I I I I λw hm=>hm.meets (S:=sq (13,[],[])) (ak aj 0 0,ak aj 0 0) trivial [] alt I
 by_cases c0:f=0
 ·subst c0
  rw[adw hx ck]at i1;subst i1
  repeat(first|refine GC ?_|refine gV (dc (b:=aB) I I (decide_eq_true (LU.2 I))) ?_|refine gV (aw (v:=ap av k) aI.ty I (aD (i:=5) I I)) ?_|refine gV (dh (b:=aB) I I (decide_eq_true ck)) ?_|refine GB ?_)
  exact mW I I I I λw hm=>hm.meets (S:=sq (14,[],[])) (ak aj 0 0,ak aj 0 0) trivial [] alt I
 have LU:¬((2001-(f+1):Nat):Int)=2000:=λh=>c0 (LU.1 h);obtain⟨f,rfl⟩:∃f',f=f'+1:=⟨f-1,by omega⟩;rcases ald with⟨e,_⟩|⟨e,h1,h2,h3⟩|⟨e,h1,h2⟩|⟨e,_⟩<;>dsimp only at e<;>subst e
 ·exact absurd I ck
 ·dsimp only at h1 h2 h3
  rw[aj4 hx]at i1
  repeat(first|refine GC ?_|refine gV (dc (b:=aE) I I (decide_eq_false LU)) ?_|refine gV (aw (v:=ap av 1) aI.ty I (aD (i:=5) I I)) ?_|refine GB ?_)
  refine dG ([aK g6 (xY vs (seen:Int) 0 aE).cells 137,aK g14 (lm (1,m)).toArray 187]) (.calm 0 (.calm 1 (.calm 2 (.calm 5 (.calm 6 (.calm 7 (.calm 8 (.two 3 (.two 4 (.one 9 (.one 10 (.calm 11 (.calm 12 (.done))))) 9 (.one 4 (.one 10 (.calm 11 (.calm 12 (.done)))))) 9 (.one 3 (.one 4 (.one 10 (.calm 11 (.calm 12 (.done)))))))))))))) (bY [2,5]) ?_
  repeat(first|refine GW ?_|(refine GN ?_;first|refine QW (aw (v:=ap av m) aI.ty I (aD (i:=1) I I)) ?_|refine QW (aw (v:=ap av (seen:Int)) aI.ty I (aD (i:=0) I I)) ?_|refine QW (aZ I (BC _ _)) ?_))
  refine e_ I I ?bw1 ?bw2
  case' bw1=>
   refine gG (cs:=#[ap av m]) I I I I I λg52=>aO (bY [2,5]) ?_;refine e_ I I ?bw3 ?bw4
  case' bw3=>
   refine l6 (i:=3) (q:=6) I I I I I I (by simp only[dj];omega) (by simp only[dj];omega) I λv3=>aO (bY [2,5]) ?_;refine aM I (gG (cs:=(dr (2,(seen:Int))).toArray) I I I I I λg58=>aO (bY [2,5]) ?_);refine aM I (n_ (i:=4) (q:=7) I I I I I I J J I λv4=>aO (bY [2,5]) ?_)
  case' bw4=>
   refine gG (cs:=(dr (2,(seen:Int))).toArray) I I I I I λg58=>aO (bY [2,5]) ?_;refine aM I (l6 (i:=3) (q:=6) I I I I I I (by simp only[dj];omega) (by simp only[dj];omega) I λv3=>aO (bY [2,5]) ?_);refine aM I (n_ (i:=4) (q:=7) I I I I I I J J I λv4=>aO (bY [2,5]) ?_)
  case' bw2=>
   refine gG (cs:=(dr (2,(seen:Int))).toArray) I I I I I λg58=>aO (bY [2,5]) ?_;refine aM I (gG (cs:=#[ap av m]) I I I I I λg52=>aO (bY [2,5]) ?_);refine aM I (l6 (i:=3) (q:=7) I I I I I I (by simp only[dj];omega) (by simp only[dj];omega) I λv3=>aO (bY [2,5]) ?_);refine aM I (n_ (i:=4) (q:=6) I I I I I I J J I λv4=>aO (bY [2,5]) ?_)
  all_goals
   try refine GW ?_
   by_cases c6:60<(q::σ).length+1
   ·rw[if_pos c6]at i1
    subst i1
    repeat(first|refine GC ?_|refine gV (dW (i:=3) bM.eq I I) ?_|refine gV (eO (b:=aB) I I (decide_eq_true J)) ?_|refine GB ?_)
    exact mW I I I I λw hm=>hm.meets (S:=sq (14,[],[])) (ak aj 0 0,ak aj 0 0) trivial [] alt I
   ·rw[if_neg c6]at i1
    subst i1
    repeat(first|refine GC ?_|refine gV (dW (i:=3) bM.eq I I) ?_|refine gV (eO (b:=aE) I I (decide_eq_false J)) ?_|refine gV (aw (v:=ap av 1) aI.ty I (aD (i:=5) I I)) ?_|refine GB ?_)
    exact mW I I I I λw hm=>hm.meets (S:=sq (0,m.toNat::q::σ,o++[(2,(seen:Int))])) (v3,v4) trivial [3,4] alt (by
     show[VA v3 (m.toNat::q::σ),rW v4 (o++[(2,(seen:Int))])]=_
     rw[<-afR h2,<-VC];rfl)
 ·dsimp only at h1 h2
  obtain⟨pn,rfl⟩:=fJ h1;have aj9:=λw' zh xF=>gu (ak (ah ⟨gs,0,aj⟩) (σ.length+1) cs) (q::σ) pn w' zh xF i7 (by simp only[dj];omega) J;have MJ:=λσ'=>aj7 (q::σ) σ' (pn:Int) h1 h2 i7;have ale:=λhr=>@agv g.az (ke A) (fQ G) col seen f q σ o (pn:Int) hx hr;have Qw:=λσ' hr=>@aj5 g.az (ke A) (fQ G) col seen f q σ o (pn:Int) σ' hx hr;generalize zc g.az (fQ G) (q::σ) (pn:Int)=R2 at*;clear gu aj7
  cases R2 with
  | none=>
   rw[ale I]at i1;subst i1
   repeat(first|refine GC ?_|refine gV (dc (b:=aE) I I (decide_eq_false LU)) ?_|refine gV (aw (v:=ap av 2) aI.ty I (aD (i:=5) I I)) ?_|refine gV (aJ (i:=0) aI.ty I I I) ?_|refine gV (aJ (i:=1) aI.ty I I I) ?_|refine gV (aw (v:=ap av (pn:Int)) aI.ty I (aD (i:=5) I I)) ?_|refine GB ?_)
   refine aT (Bc aF.en I I I I I) (λw' hm=>aj9 w' hm.below (Sl.dF (hm.get (i:=3) I))) I I I ?_;intro v2 _
   conv=>arg 8;simp only[zJ,df,ret,id_eq,Pe]
   conv=>arg 7;simp only[Pe]
   try refine GA ?_
   exact mW I I I I λw hm=>hm.meets (S:=sq (13,[],[])) (ak aj 0 0,ak aj 0 0) trivial [] alt I
  | some σ'=>
   rw[Qw σ' I]at i1;obtain⟨k1,k2,k3⟩:=MJ σ' rfl;simp only[dj]at k2
   repeat(first|refine GC ?_|refine gV (dc (b:=aE) I I (decide_eq_false LU)) ?_|refine gV (aw (v:=ap av 2) aI.ty I (aD (i:=5) I I)) ?_|refine gV (aJ (i:=0) aI.ty I I I) ?_|refine gV (aJ (i:=1) aI.ty I I I) ?_|refine gV (aw (v:=ap av (pn:Int)) aI.ty I (aD (i:=5) I I)) ?_|refine GB ?_)
   refine aT (Bc aF.en I I I I I) (λw' hm=>aj9 w' hm.below (Sl.dF (hm.get (i:=3) I))) I I I ?_;intro v2 _
   conv=>arg 8;simp only[zJ,df,ret,id_eq,Pe]
   conv=>arg 7;simp only[Pe]
   repeat(first|refine GA ?_|refine gV (aw (v:=ap av (pn:Int)) aI.ty I (aD (i:=5) I I)) ?_|refine gV (aZ I (BC _ _)) ?_)
   refine iU (i:=4) I I I I I I I (λz h=>by cases h;rfl) J J I λz4 v4=>?_;refine zL ?_
   by_cases c6:60<σ'.length
   ·rw[if_pos c6]at i1
    subst i1
    repeat(first|refine GC ?_|refine gV (dW (i:=6) bM.eq I I) ?_|refine gV (eO (b:=aB) I I (decide_eq_true J)) ?_|refine GB ?_)
    exact mW I I I I λw hm=>hm.meets (S:=sq (14,[],[])) (ak aj 0 0,ak aj 0 0) trivial [] alt I
   rw[if_neg c6]at i1
   repeat(first|refine GC ?_|refine gV (dW (i:=6) bM.eq I I) ?_|refine gV (eO (b:=aE) I I (decide_eq_false J)) ?_|refine gV (aw (v:=ap av 2) aI.ty I (aD (i:=5) I I)) ?_|refine gV (dN (r:=((2001-(f+1):Nat):Int)) I I J J J) ?_|refine GB ?_)
   refine dq [0,1,2,6,4] ?_;exact bQ (f+1,σ',o++[(4,(pn:Int))],v2,v4) ⟨i1,by omega,by omega,by show(o++[(4,(pn:Int))]).length+(f+1)<=2001;rw[bT,tu];omega,k1,by show σ'.length<=60;omega,k3⟩ (by show f+1<f+1+1;omega) (hl:=by rw[<-VC];rfl)
 ·rw[aj3 hx]at i1
  subst i1
  repeat(first|refine GC ?_|refine gV (dc (b:=aE) I I (decide_eq_false LU)) ?_|refine gV (aw (v:=ap av 3) aI.ty I (aD (i:=5) I I)) ?_|refine GB ?_)
  exact mW I I I I λw hm=>hm.meets (S:=sq (0,q::σ,o)) (ak (ah ⟨gs,0,aj⟩) (σ.length+1) cs,vo) trivial [3,4] alt I
end cB
end Go.Proofs.YtahecdbmhhpanaaGreat

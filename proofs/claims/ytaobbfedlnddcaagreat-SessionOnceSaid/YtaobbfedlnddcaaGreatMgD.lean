/- Part 4 of what SessionOnce needs: ItA, ItP, OutA, Opens, CfgL, SpecL, SpecS, SpecI, SpecJ, CfgP, SmX, SmY, SmPL, SpecN, CfgQ, CfgR, SpecP, SmA, SmPk, SpecQ, SpecC, CountC, CountD, LlM, LrA, LrK, BeginL, SpecU, LlC, LrC, SmUp, SmCk, SpecRt, SpecH. -/
import Derived.Test.YtaobbfedlnddcaaGreatMgC
import Derived.Lib.IndexMore
namespace Go.Proofs.YtaobbfedlnddcaaGreat
set_option linter.unusedVariables false
set_option linter.unusedSimpArgs false
open _root_.And renaming intro->bX
open _root_.Array renaming ext'->r7,toList->Y6
open _root_.Bool renaming false->aE,true->aD,and_eq_true->fc,or_eq_true->lU,true_and->vC,false_and->JK,false_eq_true->EL
open _root_.Decidable renaming of_not_not->sQ
open _root_.False renaming elim->nV
open _root_.Go.Instr renaming build->dh
open _root_.Go.IntKind renaming i64->az,wrap_u8->Jh,u8->Ji
open _root_.Go.Proofs.Tryz renaming prog->aB
open _root_.Go.Value renaming slice->ap,int->av,pointer->aJ,agg->aQ,oneCell'->eZ,cells->sR
open _root_.Go.Value.agg renaming injEq->lV
open _root_.Go.Value.slice renaming injEq->iX
open _root_.Go.World renaming block_lt_of_cell?->nX,ownsRow_nil->P5
open _root_.Int renaming toNat_natCast->dq,eq_ofNat_of_zero_le->h_,le_refl->lg,toNat_of_nonneg->um
open _root_.List renaming getElem?_eq_getElem->bD,getD_eq_getElem?_getD->b9,length_append->bI,getElem?_eq_some_iff->cX,getElem_mem->cD,length_cons->de,replicate->da,all_cons->cZ,drop_eq_getElem_cons->eN,mem_singleton->dR,all_nil->db,getElem?_append_left->eR,length_map->dF,size_toArray->dZ,take_succ_eq_append_getElem->iv,mem_cons->dA,append_nil->dW,append_assoc->eD,map_append->eV,getElem?_map->eS,nil_append->eu,flatMap_append->fC,take_of_length_le->gB,getElem?_append_right->kF,getElem?_toArray->jn,mem_append->fu,range->eh,not_mem_nil->fv,mem_map->eX,drop_of_length_le->jo,mem_iff_getElem->hY,length_drop->jc,map_cons->gh,getElem?_eq_none->kG,length_take->iZ,length_singleton->lW,take_length->mH,length_range->pH,drop_zero->mC,take_succ_cons->uu,drop_succ_cons->uv,ext_getElem?->nb,getElem_map->pg,take_zero->nY,getElem?_concat_length->Aa,take_append_drop->xp,all_eq_true->nc,flatten_cons->xt,drop_length->EM,map_set->ph,map_singleton->JL,map_replicate->JM,range_succ->ye,flatten_append->A1,map_nil->qI,getElem?_cons_succ->C8,map_eq_flatMap->P6,set_append->A2,flatMap_def->P7,length_tail->P8,take->Y7,drop->Y8
open _root_.List.cons renaming injEq->gi,inj->Pq
open _root_.Nat renaming le_refl->bx,zero_le->bH,zero_add->cV,lt_of_lt_of_le->jp,blt->dv,le_trans->fw,not_lt_zero->l5,lt_succ_self->nv,succ_mul->k7,mul_one->kH,sub_self->oa,mul_le_mul->EN,lt_irrefl->EO,blt_eq->Ee
open _root_.Option renaming some->aj,none->ak
open _root_.Option.some renaming injEq->df
open _root_.Prod renaming snd->A3,fst->P9
open _root_.Prod.mk renaming injEq->fD
open _root_.True renaming intro->bZ
open _root_.UInt8 renaming ofNat->fE
open _root_.Vector renaming replicate->ee,getElem_ofFn->kq,getElem_toList->oc,ext->kr,getElem_set->uO,toList_replicate->P_,ofFn->yg,toList_set->Y9
set_option maxHeartbeats 16000000
namespace cI
open Go.RowKit cU dS aT dP dL bJ cT
def jw(g:eb):List (List Int)×List (List bJ.Item)×Int:=if b_ g≠0 then([],[],b_ g)else match allI g.aF g.aR.toNat g.bC.toNat (ke g)with
 |some (Nx,S)=>(Nx,S,0)
 |none=>([],[],8)
def abX(g:eb):Spec (Value×Value×List Value×(Nat->Prop)×List Value×(Nat->Prop)):=⟨λ_=>True,λx=> .tuple #[aQ #[x.1,x.2.1],av az (jw g).2.2],λx=>[a_ 203 1 x.1 (jw g).2.1.length x.2.2.1,ef (bL Jy) x.2.2.2.1 (x.2.2.1.map λv=>[v]) (jw g).2.1,a_ 27 1 x.2.1 (jw g).1.length x.2.2.2.2.1,ef (bL fG) x.2.2.2.2.2 (x.2.2.2.2.1.map λv=>[v]) (jw g).1]⟩
theorem My(w:World):(dh 140 (#[]:Array (Nat×Value))).run aB w= .ok (aQ #[ap ak 0 0,ap ak 0 0]) w:=by kernel_rfl
theorem vD{l:List aT.Prod}{T:Nat}{s:List bJ.Item}(hw:∀q∈l,q.2.length<=8)(hl:l.length<=40)(hT:T<=30)(h:∀it∈s,ey l T it):wB s:=λit hit=>by
 obtain⟨a1,a2,a3,a4,a5,a6⟩:=h it hit;have:=mI (l:=l) (p:=it.1) hw;omega
theorem Y4.els{W:bO}{L Lx:List cH}{w:World}(hm:Mem W L w){i n:Nat}{F:Nat->Prop}{wC:List Value}{S:List (List bJ.Item)}(hi:L[i]?=aj (ef (bL Jy) F (wC.map λv=>[v]) S))(is:List Nat)(hL:Lx=is.filterMap λi=>L[i]?)(hni:i∉is){s:List bJ.Item}(hs:S[n]?=aj s){v:Value}(hv:wC[n]?=aj v):Y4 (bO.on w Lx) v s.length (s.flatMap iP):=by
 obtain⟨hn,rfl⟩:=cX.1 hs;obtain⟨⟨h1,h2⟩,h3⟩:=hm.get hi;have hnv:n<wC.length:=(cX.1 hv).1;obtain⟨v',e,hs⟩:=h2 n hn (by rw[dF];exact hnv);rw[pg]at e;obtain rfl:v=v':=by
  have:=(cX.1 hv).2;rw[this]at e;exact(Pq e).1
 obtain⟨base,cap,rfl,a1,a2,a3⟩:=hs;refine⟨base,cap,rfl,a1,a2,λh0=>?_⟩;obtain⟨b,off,rfl,hF,_⟩:=a3 h0;have wP:=jW.flat (f:=iP) (c:=3) (hc:=λ_=>rfl) (p:=λ_=>True) (F:=F) aiT (⟨aj ⟨b,off,ak⟩,cap,rfl,a1,a2,a3⟩:jW Jy F w _ S[n]);obtain⟨adj,FQ,e',_,_,q⟩:=wP;obtain⟨b',AA,e2,hr⟩:=q h0
 cases e'
 cases e2
 refine⟨b,off,rfl,⟨h3 b hF,?_⟩,hr⟩;rintro⟨o,ho,hfo⟩;subst hL;obtain⟨j,hj,Rb⟩:=List.mem_filterMap.1 ho;exact hm.owns.apart i j _ _ (λh=>hni (h▸hj)) hi Rb b (.inr hF) hfo
theorem Y_{a b c k:Nat}(h1:a<=b+12000)(h2:b<=c+12000*k):a<=c+12000*(k+1):=by rw[Nat.mul_succ,<-Nat.add_assoc];exact fw h1 (Nat.add_le_add_right h2 _)
theorem EP:∀(l:List Value),(l.map λv=>[v]).flatten=l
 |[]=>rfl
 |v::l=>by rw[gh,xt,EP l];rfl
theorem BG{w:World}{v:Value}{l:List Int}(hp:∀x∈l,cU.d_ x)(h:(a_ 3 1 v l.length (l.map (av .i64))).holds w):(bL fG).is (λk=>v.ownBlock=aj k) w [v] l:=
 ⟨v,rfl,jW.of_flat (by have:=Sl.dB h;rwa [show l.map (av .i64)=l.flatMap (λn=>[av .i64 n])by rw[P6]]at this) hp (λ_ h=>h) (λa n cp hv=>by rw[hv];rfl)⟩
theorem UJ(v:Value)(g:eb)(w:World)(hG:kj (λk=>k<w.heap.size) w v g):
 Calls aB 47 #[v] w (cB (abX g) w):=by
 have hG0:=hG;have iW:=λw' (hg:Gr w w')=>jJ v g w' (hG.gr hg);obtain⟨vp,rfl,hp,ht,hn⟩:=hG;obtain⟨vb,bp,cp,rfl,-,-,zU,oo⟩:=YK hp;have B2:=Jw g.aR g.bC (ap bp g.aF.length cp);have Ct:=My;have hO:jw g=if b_ g≠0 then([],[],b_ g)else match allI g.aF g.aR.toNat g.bC.toNat (ke g)with
  |some (Nx,S)=>(Nx,S,0)
  |none=>([],[],8):=rfl
 unfold abX;refine enter (args:=[dJ g.aR g.bC (ap bp g.aF.length cp)]) (n:=81) Tryz.func47 I I I ?_;refine cC (bz (bR I I I λg1=>?_));refine zL ?_
 try refine GA ?_
 refine aY I λg2=>?_;refine zL ?_
 repeat(first|refine GA ?_|refine gV (aO (i:=0) aK.ty I I I) ?_)
 refine aV (hZ aI.en I I) (λw hm=>iW w hm.below) I I I ?_;intro _ _;refine zL ?_
 by_cases c0:b_ g=0
 ·rw[if_neg (by rw[c0];simp)]at hO
  rw[c0];obtain⟨hT1,hT2,hN1,Xs,BF,hgb⟩:=cP c0;have KR:∀q∈g.aF,q.2.length<=8:=λq hq=>(hgb q hq).1;obtain⟨T,JI⟩:∃T:Nat,g.aR=(T:Int):=⟨g.aR.toNat,by omega⟩;obtain⟨N,hNn⟩:∃N:Nat,g.bC=(N:Int):=⟨g.bC.toNat,by omega⟩;rw[show g.aR.toNat=T by omega,show g.bC.toNat=N by omega]at hO;have hT:T<=30:=by omega
  have agc:0<g.aF.length->∃b off,bp=aj ⟨b,off,ak⟩/\∀i,i<g.aF.length->Rd w b (off+i*2) [av az (dc g.aF (i:Int)).1,vb i]:=λh=>let ⟨b,off,h1,_,h3⟩:=oo h;⟨b,off,h1,λi hi=>(h3 i hi).1⟩
  have gL:=λgo gm l0 vl h1 h2 w' B' K3 xC rq=>vB g c0 bp cp vb w hG0 zU agc go gm 0 (λ_=>ak) T JI hT l0 vl h1 h2 (λx v h=>by cases h) J w' B' K3 xC rq;have hst:=λgo gm c f s x vl h1 h2 h3 h4 w' B' K3 xC rq=>JJ g c0 bp cp vb w hG0 zU agc go gm c f T JI hT s x vl h1 h2 h3 h4 w' B' K3 xC rq;have KS:=F5 T N J J (ap bp g.aF.length cp)
  repeat(first|refine GA ?_|refine gV (aO (i:=0) aK.ty I I I) ?_)
  refine aV (hZ aI.en I I) (λw hm=>B2 w) I I I ?_;rintro⟨go,gm⟩ _
  conv=>arg 8;simp only[zJ,cK,ret,id_eq,abz]
  conv=>arg 7;simp only[abz]
  try refine GA ?_
  refine AC (K:=ib) I λgq=>?_;refine zL ?_
  try refine GA ?_
  refine aY I λg6=>?_;refine zL ?_;refine bU (i:=5) I I I I I I ?_;refine zL ?_
  try refine GA ?_
  refine aY I λg7=>?_;refine zL ?_
  repeat(first|refine GA ?_|refine gV (wu I I) ?_|refine gV (aC (v:=ap bp g.aF.length cp) aK.ty I (aH (i:=0) I I)) ?_|refine gV (aC (v:=av az g.aR) aK.ty I (aH (i:=0) I I)) ?_|refine gV (bB I (HH _ _)) ?_)
  refine fF (cs:=(iP ((g.aF.length:Int),0,g.aR)).toArray) I I I I I λg33=>?_;refine zL ?_;refine yJ (i:=7) (m:=1) 3 I I aiT ?_;refine zL ?_;have Vz:∀x∈[(((g.aF.length:Int),0,g.aR):bJ.Item)],ey g.aF T x:=by rw[JI];exact ij BF hT
  try refine GA ?_
  refine bm [3,2] [0,1,4,5,6] aiT I I (fO aI.en I I I) (λw' hm hb=>gL go gm [((g.aF.length:Int),0,g.aR)] _ Vz (by simp) w' _ ((pZ.self w).on hm λo h=>CJ h) (Y4.row hm (i:=7) I [3,2] I aiT) hb) I I I ?_;rintro⟨f2,c2,v2⟩ ⟨Vy,wt⟩
  conv=>arg 8;simp only[zJ,cK,ret,id_eq,vz,opL]
  conv=>arg 7;simp only[vz]
  have xP:jO g.aF T (ke g) [((g.aF.length:Int),0,g.aR)]=nw g.aF T (ke g):=by rw[JI];rfl
  rw[xP];have aeI:∀it∈nw g.aF T (ke g),ey g.aF T it:=iR KR BF hT (ij BF hT);have agd:=u_ (lk:=ke g) KR BF hT (l0:=[((g.aF.length:Int),0,(T:Int))]) (ij BF hT);have age:(nw g.aF T (ke g)).length<=11439:=sN KR BF hT (ij BF hT);dsimp only at Vy wt;refine wm 203 1 ?_;refine Lb (ef (bL Jy) (λ_=>False) [] []) (λk hk=>hk.elim (λh=>by cases h) id) (λw=>jk) ?_;refine zL ?_;have hsm:=vD KR BF hT aeI;have Bo:jb [] (nw g.aF T (ke g))=(0,[nw g.aF T (ke g)]):=if_neg (by simp)
  try refine GA ?_
  refine bm [3,2,4,8,9,7] [0,1,5,6] aiT I I (B3 aI.en I I) (λw' hm hb=>BB g6 gq g7 (ap ak 0 0) (ap ak 0 0) [] (λ_=>False) [] v2 (nw g.aF T (ke g)) (λt h=>by cases h) hsm (by simp) J w' _ hb) I I I ?_;rintro⟨vS,wC,F⟩ _
  conv=>arg 8;simp only[zJ,cK,ret,id_eq,stL]
  rw[Bo];dsimp only;refine wm 27 1 ?_;refine Lb (ef (bL fG) (λ_=>False) [] []) (λk hk=>hk.elim (λh=>by cases h) id) (λw=>jk) ?_;refine zL ?_
  try refine GA ?_
  refine ea (ι:=Nat×List (List bJ.Item)×List (List Int)×(RK->Option Value)×Nat×Value×Value×List Value×(Nat->Prop)×List Value×(Nat->Prop))
   (λ(n,S,Nx,f,c,_,_,_,_,_,_)=>n<=S.length/\Nx.length=n/\Js g.aF T (ke g) S/\S.length<=200/\wZ g.aF T N (ke g) (202-n) n Nx S=allI g.aF T N (ke g)/\jP (ke g) f/\c<=12000+1200000*n/\∀t∈S,t.length<=11439)
   (λ(n,_,_,_,_,_,_,_,_,_,_)=>[(1,aJ (aj ⟨g1,0,ak⟩)),(2,aJ (aj ⟨g2,0,ak⟩)),(5,aJ (aj ⟨go,0,ak⟩)),(7,aJ (aj ⟨g7,0,ak⟩)),(8,.func (.func 82) #[] #[aJ (aj ⟨g6,0,ak⟩),aJ (aj ⟨g7,0,ak⟩)]),(9,av az (n:Int))])
   (λ(_,S,Nx,f,c,vS,vN,wC,F,BH,G)=>[aP g1 (dJ g.aR g.bC (ap bp g.aF.length cp)).cells 34,aP g2 #[ap ak 0 0,ap ak 0 0] 140,aP go (BA g.aR g.bC (ap bp g.aF.length cp) gm).toArray 245,fe iT gm f c,aP g6 #[.map (aj gq)] 109,fe ib gq (kw (S.map ik)) S.length,aP g7 #[vS,vN] 140,a_ 203 1 vS S.length wC,ef (bL Jy) F (wC.map λv=>[v]) S,a_ 27 1 vN Nx.length BH,ef (bL fG) G (BH.map λv=>[v]) Nx]) (λ(n,_,_,_,_,_,_,_,_,_,_)=>202-n)
   (0,[nw g.aF T (ke g)],[],f2,c2,vS,ap ak 0 0,wC,F,[],λ_=>False) ⟨bH _,rfl,⟨by simp,λs hs=>by rw[dR.1 hs];exact aeI,λs hs=>by rw[dR.1 hs];exact agd⟩,by simp,rfl,Vy,by omega,λt ht=>by rw[dR.1 ht];exact age⟩ ?_
  clear gL aeI agd age hsm Bo Vy wt Vz xP B2 iW;rintro⟨n,S,Nx,f,c,vS,vN,wC,F,BH,G⟩ ⟨i1,i2,i3,i4,i5,i6,i7,i8⟩;dsimp only at i1 i2 i3 i4 i5 i6 i7 i8⊢;refine iu (i:=7) I fW λgJ=>?_;obtain⟨aS,cS,rfl,-,haS⟩:=gJ
  by_cases c1:n<S.length
  ·rw[show 202-n=(201-n)+1 by omega,wZ,if_pos c1]at i5
   have hgd:S.getD n []=S[n]:=by rw[b9,bD c1];rfl
   rw[hgd]at i5;have Vz:=i3.right S[n] (cD c1);have hsn:S[n]?=aj S[n]:=bD c1;generalize Vq:S[n]=s0 at*;have hyl:(mK T N).length=T+N:=zf T N;rw[<-JI,<-hNn]at KS;generalize mK T N=ys at*
   repeat(first|refine GA ?_|refine gV (aC (v:=ap aS S.length cS) aK.ty I (aH (i:=6) I I)) ?_|refine gV (aO (i:=0) aK.ty I I I) ?_)
   refine aV (hZ aI.en I I) (λw hm=>KS w) I I I ?_;intro vy _
   conv=>arg 8;simp only[zJ,cK,ret,id_eq,cK]
   conv=>arg 7;simp only[cK]
   refine qn (i:=11) I fW λgJ=>?_;obtain⟨ay,cy,rfl,-,hay⟩:=gJ
   try refine GA ?_
   refine jf 3 1 ?_
   conv=>arg 7;simp only[zA,zB,zC,zD,zE,zF,zG,zH,zI,cK,ret,id_eq]
   refine ea (ι:=Nat×List Int×List (List bJ.Item)×(RK->Option Value)×Nat×Value×List Value×(Nat->Prop)×Value)
    (λ(k,nx,S',f',c',_,_,_,_)=>k<=ys.length/\(∃E,S'=S++E)/\Js g.aF T (ke g) S'/\S'.length<=200/\ze g.aF T (ke g) s0 (ys.drop k) nx S'=ze g.aF T (ke g) s0 ys [] S/\jP (ke g) f'/\c'<=c+12000*k/\nx.length=k/\(∀y∈nx,cU.d_ y)/\∀t∈S',t.length<=11439)
    (λ(k,_,_,_,_,_,_,_,vx)=>[(1,aJ (aj ⟨g1,0,ak⟩)),(2,aJ (aj ⟨g2,0,ak⟩)),(5,aJ (aj ⟨go,0,ak⟩)),(7,aJ (aj ⟨g7,0,ak⟩)),(8,.func (.func 82) #[] #[aJ (aj ⟨g6,0,ak⟩),aJ (aj ⟨g7,0,ak⟩)]),(9,av az (n:Int)),(10,vx),(44,ap ay ys.length cy),(45,av az (ys.length:Int)),(46,av az (k:Int))])
    (λ(_,nx,S',f',c',vS',Ce,F',vx)=>[aP g1 (dJ g.aR g.bC (ap bp g.aF.length cp)).cells 34,aP g2 #[ap ak 0 0,ap ak 0 0] 140,aP go (BA g.aR g.bC (ap bp g.aF.length cp) gm).toArray 245,fe iT gm f' c',aP g6 #[.map (aj gq)] 109,fe ib gq (kw (S'.map ik)) S'.length,aP g7 #[vS',vN] 140,a_ 203 1 vS' S'.length Ce,ef (bL Jy) F' (Ce.map λv=>[v]) S',a_ 27 1 vN Nx.length BH,ef (bL fG) G (BH.map λv=>[v]) Nx,a_ 156 2 (ap ay ys.length cy) ys.length (ys.flatMap eA),a_ 3 1 vx nx.length (nx.map (av .i64))]) (λ(k,_,_,_,_,_,_,_,_)=>ys.length-k)
    (0,[],S,f,c,ap aS S.length cS,wC,F,ap ak 0 0) ⟨bH _,⟨[],(dW _).symm⟩,i3,i4,rfl,i6,by omega,rfl,(λy hy=>by cases hy),i8⟩ ?_
   clear KS;rintro⟨k,nx,S',f',c',vS',Ce,F',vx⟩ ⟨j1,⟨E,hE⟩,j3,j4,j5,j6,j7,j8,j9,j10⟩;dsimp only at j1 hE j3 j4 j5 j6 j7 j8 j9 j10⊢
   by_cases c2:k<ys.length
   ·have hn':n<S'.length:=by rw[hE,bI];omega
    have agf:S'[n]?=aj s0:=by rw[hE,eR c1];exact hsn
    refine iu (i:=7) I fW λgJ=>?_;obtain⟨aS',cS',rfl,-,ahL⟩:=gJ;obtain⟨gS',rfl⟩:=ahL J;refine iu (i:=8) I (λw h=>h.1.1) λhvl=>?_;rw[dF]at hvl;have hvn:Ce[0+n]?=aj (Ce[n]' J):=by rw[cV];exact bD _
    have agh:Ce[n]?=aj (Ce[n]' J):=bD _;generalize Ce[n]' J=vn at hvn agh;obtain⟨gy,rfl⟩:=hay J;have du:=λ(L:List cH) (i:Nat) (hL:L[i]?=aj (a_ 156 2 (ap (aj ⟨gy,0,ak⟩) ys.length cy) ys.length (ys.flatMap eA)))=>rh (W:=(w:bO)) Ew hL c2;rw[eN c2,ze]at j5;generalize ys[k]=x at*;have ry:s0.length<=11439:=j10 s0 (List.mem_of_getElem? agf)
    repeat(first|refine GA ?_|refine gV (aX bM.eq aK.ty I I c2) ?_|refine gV (a8 (cs:=eA x) aK.ty I I (du _ 11 I)) ?_)
    refine aY I λg12=>?_;refine zL ?_;refine gC 13 (cs':=(eA x).toArray) ?_;refine zL ?_
    try refine GA ?_
    refine dN ([aP g7 #[ap (aj ⟨gS',0,ak⟩) S'.length cS',vN] 140,a_ 203 1 (ap (aj ⟨gS',0,ak⟩) S'.length cS') S'.length Ce,aP g12 (eA x).toArray 156]) (.calm 0 (.calm 1 (.calm 2 (.calm 3 (.calm 4 (.calm 5 (.calm 6 (.one 7 (.calm 8 (.done)))))))))) (bW [6,7,13]) ?_
    repeat(first|refine GW ?_|(refine GN ?_;first|refine QW (aC (v:=ap (aj ⟨gS',0,ak⟩) S'.length cS') aK.ty I (aH (i:=0) I I)) ?_|refine QW (cz bM.eq aK.ty I I hn') ?_|refine QW (aC (v:=vn) aK.ty I (ki (i:=1) I hvn)) ?_|refine QW (aO (i:=2) aK.ty I I I) ?_))
    refine aL I ?_;refine bm [2,3] [0,1,4,5,6,7,8,9,10,11,12,13] aiT I I (rX aI.en I I I I) (λw' hm hb=>hst go gm c' f' s0 x vn Vz J j6 J w' _ ((pZ.self w).on hm λo h=>CJ h) (Y4.els hm (i:=8) I [2,3] I aiT agf agh) hb) I I I ?_;rintro⟨f2,Vx,v2⟩ ⟨Vy,wt⟩;dsimp only at Vy wt
    conv=>arg 8;simp only[zJ,cK,ret,id_eq,vz,opL]
    conv=>arg 7;simp only[vz]
    rw[show jO g.aF T (ke g) (mJ g.aF s0 x)=iS g.aF T (ke g) s0 x from I];refine aM (bW [4,5,11]) ?_
    try refine GW ?_
    try refine GA ?_
    refine qn (i:=14) I fW λgJ=>?_;obtain⟨a2,cv2,rfl,-,ha2⟩:=gJ;obtain⟨hlE,hlC,hlS⟩:=Hv (lk:=ke g) KR BF hT j3 Vz x;have hcc:Vx<=c+12000*(k+1):=Y_ wt j7;have ahM:∀it∈iS g.aF T (ke g) s0 x,ey g.aF T it:=iR KR BF hT (kR Vz);have ahN:(iS g.aF T (ke g) s0 x).length<=11439:=sN KR BF hT (kR Vz)
    by_cases c3:iS g.aF T (ke g) s0 x=[]
    ·have hcell:qx g.aF T (ke g) s0 x S'=(-1,S'):=if_pos c3
     rw[hcell,if_neg (by show ¬200<S'.length;omega)]at j5;dsimp only at j5;have hl0:(iS g.aF T (ke g) s0 x).length=0:=by rw[c3];rfl
     repeat(first|refine GA ?_|refine gV (aC (v:=ap (aj ⟨gS',0,ak⟩) S'.length cS') aK.ty I (aH (i:=4) I I)) ?_)
     refine jT (i:=10) I I I I I I (λz h=>by cases h;rfl) J J I λz vx'=>?_;refine zL ?_
     try refine GA ?_
     refine dj [0,1,12,13,2,3,4,5,6,7,8,9,10] ?_;exact bY (k+1,nx++[-1],S',f2,Vx,ap (aj ⟨gS',0,ak⟩) S'.length cS',Ce,F',vx') ⟨by show k+1<=ys.length;omega,⟨E,hE⟩,j3,j4,j5,Vy,hcc,by show(nx++[-1]).length=k+1;rw[bI,j8];rfl,λy hy=>(fu.1 hy).elim (j9 y) λh=>by rw[dR.1 h];exact⟨by omega,by omega⟩,j10⟩ (by show ys.length-(k+1)<ys.length-k;omega) (hl:=by dsimp only;rw[bI,eV];rfl)
    have hcell:qx g.aF T (ke g) s0 x S'=(((jb S' (iS g.aF T (ke g) s0 x)).1:Int),(jb S' (iS g.aF T (ke g) s0 x)).2):=if_neg c3;have hsm:=vD KR BF hT ahM;have hSm:∀t∈S',wB t:=λt ht=>vD KR BF hT (j3.right t ht);have AX:0<(iS g.aF T (ke g) s0 x).length:=List.length_pos_iff.2 c3;have hq:(jb S' (iS g.aF T (ke g) s0 x)).1<=S'.length:=by
     unfold jb;split
     ·rename_i hm;exact Nat.le_of_lt (ni hm)
     exact bx _
    rw[hcell]at j5 hlE hlC hlS;dsimp only at j5 hlE hlC hlS
    try refine GA ?_
    refine bm [2,3,4,5,6,14] [0,1,7,8,9,10,11,12,13] aiT I I (B3 aI.en I I) (λw' hm hb=>BB g6 gq g7 (ap (aj ⟨gS',0,ak⟩) S'.length cS') vN Ce F' S' _ (iS g.aF T (ke g) s0 x) hSm hsm J J w' _ hb) I I I ?_;rintro⟨vS2,ahO,F2⟩ _
    conv=>arg 8;simp only[zJ,cK,ret,id_eq,stL]
    have EQ:∀t∈(jb S' (iS g.aF T (ke g) s0 x)).2,t.length<=11439:=by
     unfold jb;split;exact j10;intro t ht;rcases fu.1 ht with h|h
     exact j10 t h;rw[dR.1 h];exact ahN
    generalize jb S' (iS g.aF T (ke g) s0 x)=R at*;obtain⟨q,S2⟩:=R;dsimp only at j5 hlE hlC hlS hq EQ⊢;refine qn (i:=12) I fW λgJ=>?_;obtain⟨aS2,cS2,rfl,-,aiE⟩:=gJ;obtain⟨E2,hE2⟩:=hlE
    by_cases c4:200<S2.length
    ·rw[if_pos c4]at j5
     rw[<-j5]at i5
     repeat(first|refine GC ?_|refine gV (aC (v:=ap aS2 S2.length cS2) aK.ty I (aH (i:=11) I I)) ?_|refine gV (dT (b:=aD) I I (decide_eq_true J)) ?_|refine gV (bB I Ct) ?_|refine GB ?_)
     have hOn:jw g=([],[],8):=by rw[hO,<-i5]
     rw[hOn];refine gC 1 ?_;refine zL ?_
     try refine GA ?_
     refine dK 203 1 (qm (ef (bL Jy) (λ_=>False) [] []) (λk hk=>hk.elim (λh=>by cases h) id) (λw=>jk) (dK 27 1 (qm (ef (bL fG) (λ_=>False) [] []) (λk hk=>hk.elim (λh=>by cases h) id) (λw=>jk) ?_)));exact eE (i:=1) I I I I I λw hm=>hm.meets (S:=⟨λ(_:Value×Value×List Value×(Nat->Prop)×List Value×(Nat->Prop))=>True,λx=> .tuple #[aQ #[x.1,x.2.1],av az 8],λx=>[a_ 203 1 x.1 0 x.2.2.1,ef (bL Jy) x.2.2.2.1 (x.2.2.1.map λv=>[v]) [],a_ 27 1 x.2.1 0 x.2.2.2.2.1,ef (bL fG) x.2.2.2.2.2 (x.2.2.2.2.1.map λv=>[v]) []]⟩) (ap ak 0 0,ap ak 0 0,[],λ_=>False,[],λ_=>False) trivial [14,15,16,17] aiT I
    rw[if_neg c4]at j5
    repeat(first|refine GC ?_|refine gV (aC (v:=ap aS2 S2.length cS2) aK.ty I (aH (i:=11) I I)) ?_|refine gV (dT (b:=aE) I I (decide_eq_false J)) ?_|refine GB ?_)
    refine jT (i:=5) I I I I I I (λz h=>by cases h;rfl) J J I λz vx'=>?_;refine zL ?_
    try refine GA ?_
    refine dj [0,1,7,8,9,10,11,12,13,2,3,4,5] ?_;exact bY (k+1,nx++[(q:Int)],S2,f2,Vx,ap aS2 S2.length cS2,ahO,F2,vx') ⟨by show k+1<=ys.length;omega,⟨E++E2,by rw[hE2,hE,eD]⟩,hlS,by show S2.length<=200;omega,j5,Vy,hcc,by show(nx++[(q:Int)]).length=k+1;rw[bI,j8];rfl,λy hy=>(fu.1 hy).elim (j9 y) λh=>by rw[dR.1 h];exact⟨by omega,by omega⟩,λt ht=>EQ t ht⟩ (by show ys.length-(k+1)<ys.length-k;omega) (hl:=by dsimp only;rw[bI,eV];rfl)
   obtain rfl:k=ys.length:=by omega
   rw[List.drop_eq_nil_of_le (bx _),ze]at j5;rw[<-j5]at i5;dsimp only at i5
   repeat(first|refine GA ?_|refine gV (aC (v:=vN) aK.ty I (aH (i:=6) I I)) ?_)
   refine aU (i:=12) I λNJ II=>?_;refine jT (i:=9) I I NJ II I I (λz h=>by cases h;rfl) J J I λz vN'=>?_;refine zL ?_;refine pa (ef (bL fG) (λk=>G k\/vx.ownBlock=aj k) ((BH.map λv=>[v])++[[vx]]) (Nx++[nx])) 12 10 [0,1,2,3,4,5,6,7,8,9] aiT I I I (λk hk=>hk.elim (λh=>by cases h) λh=>h.elim (λh=> .inr (.inr h)) λh=> .inl (.inl h)) (λw hr he=>mA he (BG j9 hr) (zk hr)) ?_;refine zL ?_
   try refine GA ?_
   refine aU (i:=9) I λkT lC=>bU (i:=6) I I I kT lC I ?_;refine zL ?_
   try refine GA ?_
   exact bY (n+1,S',Nx++[nx],f',c',vS',vN',Ce,F',BH++[vx],λk=>G k\/vx.ownBlock=aj k) ⟨by show n+1<=S'.length;rw[hE,bI];omega,by show(Nx++[nx]).length=n+1;rw[bI,i2];rfl,j3,j4,by show wZ g.aF T N (ke g) (202-(n+1)) (n+1) (Nx++[nx]) S'=_;rw[show 202-(n+1)=201-n by omega];exact i5,j6,by dsimp only;omega,j10⟩ (by show 202-(n+1)<202-n;omega) (hl:=by dsimp only;rw[bI,eV];rfl)
  have hA:allI g.aF T N (ke g)=aj (Nx,S):=by rw[<-i5,show 202-n=(201-n)+1 by omega,wZ,if_neg c1]
  rw[hA]at hO;have hO:jw g=(Nx,S,0):=hO;rw[hO];refine iu (i:=9) I fW λgJ=>?_;obtain⟨aN,cN,rfl,-⟩:=gJ
  repeat(first|refine GA ?_|refine gV (aC (v:=ap aS S.length cS) aK.ty I (aH (i:=6) I I)) ?_|refine gV (aO (i:=6) aK.ty I I I) ?_)
  refine gC 1 (cs':=#[ap aS S.length cS,ap aN Nx.length cN]) ?_;refine zL ?_
  try refine GA ?_
  exact eE (i:=1) I I I I I λw hm=>hm.meets (S:=⟨λ(_:Value×Value×List Value×(Nat->Prop)×List Value×(Nat->Prop))=>True,λx=> .tuple #[aQ #[x.1,x.2.1],av az 0],λx=>[a_ 203 1 x.1 S.length x.2.2.1,ef (bL Jy) x.2.2.2.1 (x.2.2.1.map λv=>[v]) S,a_ 27 1 x.2.1 Nx.length x.2.2.2.2.1,ef (bL fG) x.2.2.2.2.2 (x.2.2.2.2.1.map λv=>[v]) Nx]⟩) (ap aS S.length cS,ap aN Nx.length cN,wC,F,BH,G) trivial [7,8,9,10] aiT I
 ·rw[if_pos c0]at hO
  rw[hO]
  repeat(first|refine GC ?_|refine gV (dr (b:=aD) I I (decide_eq_true c0)) ?_|refine gV (bB I Ct) ?_|refine GB ?_)
  refine gC 1 ?_;refine zL ?_
  try refine GA ?_
  refine dK 203 1 (qm (ef (bL Jy) (λ_=>False) [] []) (λk hk=>hk.elim (λh=>by cases h) id) (λw=>jk) (dK 27 1 (qm (ef (bL fG) (λ_=>False) [] []) (λk hk=>hk.elim (λh=>by cases h) id) (λw=>jk) ?_)));exact eE (i:=1) I I I I I λw hm=>hm.meets (S:=⟨λ(_:Value×Value×List Value×(Nat->Prop)×List Value×(Nat->Prop))=>True,λx=> .tuple #[aQ #[x.1,x.2.1],av az (b_ g)],λx=>[a_ 203 1 x.1 0 x.2.2.1,ef (bL Jy) x.2.2.2.1 (x.2.2.1.map λv=>[v]) [],a_ 27 1 x.2.1 0 x.2.2.2.2.1,ef (bL fG) x.2.2.2.2.2 (x.2.2.2.2.1.map λv=>[v]) []]⟩) (ap ak 0 0,ap ak 0 0,[],λ_=>False,[],λ_=>False) trivial [2,3,4,5] aiT I
end cI
namespace bJ
open aT dP cT
section
variable{l:List aT.Prod}{T N:Nat}{lk:Int->Int->Nat}{Nx:List (List Int)}{S:List (List Item)}
theorem Mz{P:List Item->Prop}(hP:∀s x,(∀it∈s,ey l T it)->P s->P (iS l T lk s x)){s:List Item}(hs:∀it∈s,ey l T it)(h0:P s):∀(xs:List dy) (nx:List Int) (S:List (List Item)) (YJ:List Int) (S':List (List Item)),(∀s∈S,P s)->ze l T lk s xs nx S=aj (YJ,S')->∀s∈S',P s
 | [],nx,S,YJ,S',hS,h=>by
  simp only[ze,df,fD]at h;obtain⟨_,rfl⟩:=h;exact hS
 | x::xs,nx,S,YJ,S',hS,h=>by
  rw[ze]at h
  by_cases c:200<(qx l T lk s x S).2.length
  rw[if_pos c]at h;cases h;rw[if_neg c]at h;refine Mz hP hs h0 xs _ _ YJ S' ?_ h;intro s' xC;unfold qx at xC;split at xC;exact hS s' xC;unfold jb at xC;dsimp only at xC;split at xC;exact hS s' xC;rcases fu.1 xC with h'|h'
  exact hS s' h';rw[dR.1 h'];exact hP s x hs h0
theorem ER{P:List Item->Prop}(hw:∀q∈l,q.2.length<=8)(hl:l.length<=40)(hT:T<=30)(hP:∀s x,(∀it∈s,ey l T it)->P s->P (iS l T lk s x)):∀(f n:Nat) (Nx:List (List Int)) (S:List (List Item)) (Nx':List (List Int)) (S':List (List Item)),(∀s∈S,P s/\∀it∈s,ey l T it)->wZ l T N lk f n Nx S=aj (Nx',S')->∀s∈S',P s
 |0,_,_,_,_,_,_,h=>by cases h
 | f + 1,n,Nx,S,Nx',S',hS,h=>by
  rw[wZ]at h
  by_cases c:n<S.length
  ·rw[if_pos c]at h
   have yd:S.getD n []=S[n]:=by rw[b9,bD c];rfl
   have hn:=hS _ (cD c);rw[<-yd]at hn
   cases e:ze l T lk (S.getD n []) (mK T N) [] S with
   |none=>rw[e]at h;cases h
   | some r=>
    obtain⟨nx,S1⟩:=r;rw[e]at h;dsimp only at h;have hQ:∀s x,(∀it∈s,ey l T it)->(P s/\∀it∈s,ey l T it)->P (iS l T lk s x)/\∀it∈iS l T lk s x,ey l T it:=λs x h1 h2=>⟨hP s x h1 h2.1,iR hw hl hT (kR h1)⟩;exact ER hw hl hT hP f (n+1) _ S1 Nx' S' (Mz hQ hn.2 hn (mK T N) [] S nx S1 hS e) h
  rw[if_neg c]at h;simp only[df,fD]at h;obtain⟨_,rfl⟩:=h;exact λs hs=>(hS s hs).1
theorem abY(hw:∀q∈l,q.2.length<=8)(hl:l.length<=40)(hT:T<=30)(h:allI l T N lk=aj (Nx,S)):∀q,q<S.length->∀it∈S.getD q [],it.1=(l.length:Int)->it.2.2=(T:Int):=by
 have Vq:∀it∈nw l T lk,ey l T it:=iR hw hl hT (ij hl hT);have Mw:∀{it2 it:Item},Jr l T lk it2 it->it.1<(l.length:Int):=λ{it2 it} h=>by
  obtain⟨_,i,k,_,h2,_,_,_,rfl⟩:=h;show(i:Int)<_
  omega
 have:=ER (P:=λs=>∀it∈s,it.1=(l.length:Int)->it.2.2=(T:Int)) (N:=N) hw hl hT (λs x hs hP it hit h1=>by
  have hm:=(ir (lk:=lk) hw hl hT (kR (x:=x) hs) (x:=it)).1 hit
  cases hm with
  |base hb=>
   obtain⟨it',h2,h3,rfl⟩:=Ma.1 hb;exact hP it' h2 h1
  |step _ h2=>have:=Mw h2;omega) 202 0 [] [nw l T lk] Nx S (λs hs=>by
   rw[dR.1 hs];refine⟨λit hit h1=>?_,Vq⟩;have hm:=(ir (lk:=lk) hw hl hT (ij hl hT) (x:=it)).1 hit
   cases hm with
   |base hb=>rw[dR.1 hb]
   |step _ h2=>have:=Mw h2;omega) h
 intro q hq it hit h1;have yd:S.getD q []=S[q]:=by rw[b9,bD hq];rfl
 rw[yd]at hit;exact this _ (cD hq) it hit h1
theorem abZ(hw:∀q∈l,q.2.length<=8)(hl:l.length<=40)(hT:T<=30)(h:allI l T N lk=aj (Nx,S)):∀s∈S,s.length<=11439:=
 ER (P:=λs=>s.length<=11439) (N:=N) hw hl hT (λs x hs _=>sN hw hl hT (kR hs)) 202 0 [] [nw l T lk] Nx S (λs hs=>by
  rw[dR.1 hs];exact⟨sN hw hl hT (ij hl hT),iR hw hl hT (ij hl hT)⟩) h
end
end bJ
namespace cI
open Go.RowKit cU dS aT dP dL bJ cT
theorem Si{g:eb}(h:(jw g).2.2=0):b_ g=0/\allI g.aF g.aR.toNat g.bC.toNat (ke g)=aj ((jw g).1,(jw g).2.1):=by
 unfold jw at h⊢
 by_cases c:b_ g=0
 ·rw[if_neg (by rw[c];simp)]at h⊢
  refine⟨c,?_⟩
  cases e:allI g.aF g.aR.toNat g.bC.toNat (ke g)with
  |none=>rw[e]at h;cases h
  |some r=>rfl
 rw[if_pos c]at h;exact absurd h c
theorem ab0{g:eb}(h:(jw g).2.2≠0):(jw g).2.1=[]/\(jw g).1=[]:=by
 unfold jw at h⊢
 by_cases c:b_ g=0
 ·rw[if_neg (by rw[c];simp)]at h⊢
  cases e:allI g.aF g.aR.toNat g.bC.toNat (ke g)with
  |none=>exact⟨rfl,rfl⟩
  |some r=>rw[e]at h;exact absurd I h
 rw[if_pos c];exact⟨rfl,rfl⟩
end cI
namespace xZ
open aT dP fM dL
def MA(o:dy->Nat->Nat->Nat)(x:dy)(oB:Nat)(A:Nat->Bool):Nat->Nat->Bool
 |0,_=>aE
 |k+1,b=>MA o x oB A k b||(A (oB+k)&&decide (oB+k<=b)&&decide (0<o x (oB+k) b))
def Y'(p:Nat->Bool)(oB:Nat):Nat->Bool
 |0=>aE
 |k+1=>Y' p oB k||p (oB+k)
def ab1(o:dy->Nat->Nat->Nat)(O:Nat->Nat->Bool)(n oB:Nat):List dy->(Nat->Bool)->Bool
 |[],A=>A n
 |x::r,A=>if A n=aD then aD else if x.1=2/\Y' (λa=>A a&&O x.2.toNat a) oB (n+1-oB)=aD then aD else ab1 o O n oB r (MA o x oB A (n+1-oB))
def JN(o:dy->Nat->Nat->Nat)(O:Nat->Nat->Bool)(M:List Bool)(n oB:Nat)(l:List dy):Bool:=if py M l aD=aD then ab1 o O n oB l (λb=>decide (b=oB))else aE
section
variable{o:dy->Nat->Nat->Nat}{x:dy}{oB:Nat}{A:Nat->Bool}
theorem HJ{b:Nat}:∀{k:Nat},MA o x oB A k b=aD↔∃i,i<k/\A (oB+i)=aD/\oB+i<=b/\0<o x (oB+i) b
 |0=>by simp[MA]
 | k +1=>by
  rw[MA,lU,HJ,fc,fc,decide_eq_true_iff,decide_eq_true_iff]
  constructor
  ·rintro(⟨i,h1,h2⟩|⟨⟨h1,h2⟩,h3⟩)
   exact⟨i,by omega,h2⟩;exact⟨k,by omega,h1,h2,h3⟩
  rintro⟨i,h1,h2,h3,h4⟩
  by_cases e:i=k
  subst e;exact .inr ⟨⟨h2,h3⟩,h4⟩;exact .inl ⟨i,by omega,h2,h3,h4⟩
theorem MB{p:Nat->Bool}:∀{k:Nat},Y' p oB k=aD↔∃i,i<k/\p (oB+i)=aD
 |0=>by simp[Y']
 | k +1=>by
  rw[Y',lU,MB]
  constructor
  ·rintro(⟨i,h1,h2⟩|h1)
   exact⟨i,by omega,h2⟩;exact⟨k,by omega,h1⟩
  rintro⟨i,h1,h2⟩
  by_cases e:i=k
  subst e;exact .inr h2;exact .inl ⟨i,by omega,h2⟩
end
section
variable{w:List Int}{l:List aT.Prod}{n:Nat}{c:uF}{O:Nat->Nat->Bool}
theorem ES:∀(b:List dy),(∀x∈b,∃ws,FV l x ws)->∃ws,ru l b ws
 |[],_=>⟨[],.nil⟩
 |x::r,h=>by
  obtain⟨u,h1⟩:=h x (by simp);obtain⟨s,h2⟩:=ES r λy hy=>h y (by simp[hy]);exact⟨u++s,.cons h1 h2⟩
theorem Za{a b:Nat}(h:a<=b):cut w a b++w.drop b=w.drop a:=by
 unfold cut;have e3:w.drop b=(w.drop a).drop (b-a):=by rw[List.drop_drop,show a+(b-a)=b by omega]
 rw[e3,xp]
theorem ET(hc:Lfp w l n c)(hs:px n l)(hO:∀(k:Nat) a,O k a=aD->a<=w.length->∃v,FV l (2,(k:Int)) (w.drop a++v)){oB:Nat}(hf:oB<=w.length):∀(body:List dy) (A:Nat->Bool) (pre:List dy),(∀x∈body,(x.1=1\/(x.1=2/\0<=x.2/\x.2<(n:Int)))/\∃ws,FV l x ws)->(∀b,oB<=b->b<=w.length->A b=aD->ru l pre (cut w oB b))->ab1 (DT c w) O w.length oB body A=aD->∃v,ru l (pre++body) (w.drop oB++v)
 | [],A,pre,_,hA,h=>by
  have:=hA w.length hf (bx _) h;rw[RG I]at this;exact⟨[],by rw[dW,dW];exact this⟩
 | x ::r,A,pre,hx,hA,h=>by
  rw[ab1]at h;split at h
  ·rename_i h1
   have h2:=hA w.length hf (bx _) h1;rw[RG I]at h2;obtain⟨ws,h3⟩:=ES (x::r) λy hy=>(hx y hy).2;exact⟨ws,h2.TU h3⟩
  split at h
  ·rename_i h1
   obtain⟨h1,h2⟩:=h1;obtain⟨i,h3,h4⟩:=MB.1 h2;rw[fc]at h4;have hk:=((hx x (by simp)).1.resolve_left J).2;obtain⟨v,h5⟩:=hO _ _ h4.2 J;obtain⟨x1,x2⟩:=x;dsimp only at h1 hk h5;subst h1;rw[um hk.1]at h5;obtain⟨ws,h6⟩:=ES r λy hy=>(hx y (by simp[hy])).2;refine⟨v++ws,?_⟩;have h7:=(hA (oB+i) J J h4.1).TU (ru.cons h5 h6);rw[eD (w.drop (oB+i)),<-eD (cut w oB (oB+i)),Za J]at h7;exact h7
  obtain⟨v,h1⟩:=ET hc hs hO hf r _ (pre++[x]) (λy hy=>hx y (by simp[hy])) (λb FY NK hb=>by
   obtain⟨i,h3,h4,h5,h6⟩:=HJ.1 hb;rw[<-y8 (by omega:oB<=oB+i) h5];exact(hA _ J J h4).TU (X5 (O2 hc hs (hx x (by simp)).1 h5 NK h6))) h
  exact⟨v,by rw[eD]at h1;exact h1⟩
theorem JO{M:List Bool}(hM:∀i:Nat,M.getD i aE=aD->∃ws,FV l (2,(i:Int)) ws)(hc:Lfp w l n c)(hs:px n l)(hO:∀(k:Nat) a,O k a=aD->a<=w.length->∃v,FV l (2,(k:Int)) (w.drop a++v)){oB:Nat}(hf:oB<=w.length){body:List dy}(hx:∀x∈body,x.1=1\/(x.1=2/\0<=x.2/\x.2<(n:Int)))(h:JN (DT c w) O M w.length oB body=aD):∃v,ru l body (w.drop oB++v):=by
 unfold JN at h;split at h
 ·rename_i hm
  refine ET hc hs hO hf body _ [] (λx hb=>⟨hx x hb,?_⟩) (λb _ _ hb=>?_) h
  ·unfold py at hm
   have:=nc.1 hm x hb;rcases hx x hb with c1|⟨c1,c2,_⟩
   exact⟨_,.DR c1⟩;rw[if_neg J,if_pos c1]at this;obtain⟨ws,hw⟩:=hM _ this;obtain⟨x1,x2⟩:=x;dsimp only at c1 c2 hw;subst c1;rw[um c2]at hw;exact⟨ws,hw⟩
  have:b=oB:=by simpa using hb
  subst this;rw[LD];exact .nil
 cases h
end
end xZ
namespace aT
abbrev Tx:=List UInt8
def dec(n:Nat):Tx:=if n<10 then [fE (48+n)]else [fE (48+n/10),fE (48+n %10)]
def wS(c:UInt8):Tx->Tx×Tx×Bool
 |[]=>([],[],aE)
 |b::r=>if b=c then([],r,aD)else(b::(wS c r).1,(wS c r).2.1,(wS c r).2.2)
def Zb(x:dy):Tx:=32::(if x.1=1 then 116 else 110)::dec x.2.toNat
theorem ab2(n:Nat):0<(dec n).length/\(dec n).length<=2:=by unfold dec;split<;>simp
theorem y8{c:UInt8}:∀{a:Tx} (b:Tx),(∀x∈a,x≠c)->wS c (a++c::b)=(a,b,aD)
 |[],b,_=>by rw[eu,wS,if_pos I]
 |x::a,b,h=>by
  rw[List.cons_append,wS,if_neg (h x (List.mem_cons_self ..)),y8 b λy hy=>h y (List.mem_cons_of_mem _ hy)]
theorem Zc{c:UInt8}:∀{s:Tx},(wS c s).2.2=aD->s=(wS c s).1++c::(wS c s).2.1
 |[],h=>by cases h
 | b::r,h=>by
  rw[wS]at h⊢;split at h
  ·rename_i e;rw[if_pos e,e];rfl
  rename_i e
  rw[if_neg e];show b::r=b::((wS c r).1++c::(wS c r).2.1)
  rw[<-Zc (s:=r) h]
theorem RH{c:UInt8}{s:Tx}(h:(wS c s).2.2=aD):(wS c s).1.length+(wS c s).2.1.length+1=s.length:=by
 have:=congrArg List.length (Zc h);rw[bI,de]at this;omega
theorem ab3(x:dy):0<(Zb x).length/\(Zb x).length<=4:=by have:=ab2 x.2.toNat;unfold Zb;simp;omega
theorem zf:∀l:List dy,l.length<=(l.flatMap Zb).length/\(l.flatMap Zb).length<=4*l.length
 |[]=>⟨bx _,bx _⟩
 |x::l=>by
  have h1:=ab3 x;have h2:=zf l;rw[List.flatMap_cons,bI,de];omega
end aT
namespace gT
open dl gj
open aT (wS y8)
abbrev Bs:=List UInt8
abbrev Wd:=Bs×Rx
abbrev Rl:=Bs×List Bs
structure Sp where
 words:List Wd
 rules:List Rl
def w7(b:UInt8):Bool:=decide (97<=b.toNat)&&decide (b.toNat<=122)
def sS(s:Bs):Bool:=decide (s≠[])&&decide (s.length<=12)&&s.all w7
def lm:List Wd->List Bs->Int×List Bs
 |[],of=>(0,of)
 |w::r,of=>if w.1≠[]/\sS w.1=aE then(1,of)else if cI.Xc w.2≠0 then(cI.Xc w.2,of)else if w.1∈of then(11,of)else lm r (if w.1=[]then of else of++[w.1])
def qZ:List Rl->List Bs->Int
 |[],_=>0
 |r::l,of=>if sS r.1=aE then 1 else if r.1∈of then 11 else qZ l of
def A4(of hd:List Bs)(l:List Bs):Bool:=l.all λx=>decide (x∈of)||decide (x∈hd)
def rK(of hd:List Bs)(l:List Rl):Bool:=l.all λr=>A4 of hd r.2
def pP(s:Sp):Int:=
 if 60<s.words.length\/60<s.words.length+s.rules.length then 2
 else if(lm s.words []).1≠0 then(lm s.words []).1
 else if qZ s.rules (lm s.words []).2≠0 then qZ s.rules (lm s.words []).2
 else if rK (lm s.words []).2 (s.rules.map (·.1)) s.rules=aD then 0 else 11
end gT
namespace cI
open Go.RowKit cU dS dl gj gT
def zq:wL Wd:=W8 Tt xJ
def HK:wL Rl:=W8 Tt (bL Tt)
def bsC(s:Bs):List Value:=[str s]
theorem Sj(s:Bs):(bsC s).length=1:=rfl
def UK(F:Nat->Prop)(w:World)(v:Value)(s:Sp):Prop:=∃vw vr,v=aQ #[vw,vr]/\jW zq F w vw s.words/\jW HK F w vr s.rules
theorem Zd{α:Type}{s:wL α}{w w':World}{v:Value}{l:List α}(h:jW s (p9 w) w v l)(hg:Gr w w'):jW s (p9 w') w' v l:=
 (h.stay λk hk=>hg.block k hk).mono λ_ hk=>jp hk hg.size
theorem UK.gr{w w':World}{v:Value}{s:Sp}(h:UK (p9 w) w v s)(hg:Gr w w'):UK (p9 w') w' v s:=by
 obtain⟨vw,vr,h1,h2,h3⟩:=h;exact⟨vw,vr,h1,Zd h2 hg,Zd h3 hg⟩
def yA(n:Bs)(k:Int)(c:C4)(v:Value):List Value:=str n::mi k c v
theorem P'{n:Bs}{k:Int}{c:C4}{vk:Value}{j:Nat}{v:Value}(h:(mi k c vk)[j]?=aj v):(yA n k c vk).toArray[0+1+j]?=aj v:=by
 rw[jn,cV,Nat.add_comm];exact h
theorem Sk{F:Nat->Prop}{w:World}{b off:Nat}{l:List Wd}(h:∀i (h:i<l.length),∃cs,zq.is F w cs l[i]/\Rd w b (off+i*zq.c) cs){k:Nat}(hk:k<l.length):
 ∃base cap,Rd w b (off+k*7) (yA l[k].1 l[k].2.kind l[k].2.ud (.slice base l[k].2.kids.length cap))/\n9 F w (qK l[k].2.kind l[k].2.ud (.slice base l[k].2.kids.length cap)) l[k].2/\l[k].1.length<=9223372036854775807:=by
 obtain⟨cs,⟨c1,c2,rfl,⟨rfl,h1⟩,h2⟩,h3⟩:=h k hk;have h2:ku F w c2 l[k].2:=h2;have h4:=h2.r;obtain⟨vk,e,-,hs⟩:=h4;obtain⟨base,cap,rfl,-⟩:=hs;have e2:c2=mi l[k].2.kind l[k].2.ud (.slice base l[k].2.kids.length cap):=by
  unfold qK at e;simp only[lV]at e
  simpa using congrArg Y6 e
 subst e2;exact⟨base,cap,h3,h2.r,h1⟩
theorem CK{F:Nat->Prop}{w:World}{b off:Nat}{l:List Rl}(h:∀i (h:i<l.length),∃cs,HK.is F w cs l[i]/\Rd w b (off+i*HK.c) cs){k:Nat}(hk:k<l.length):
 ∃base cap,Rd w b (off+k*2) [str l[k].1,.slice base l[k].2.length cap]/\jW Tt F w (.slice base l[k].2.length cap) l[k].2/\l[k].1.length<=9223372036854775807:=by
 obtain⟨cs,⟨c1,c2,rfl,⟨rfl,h1⟩,v,rfl,hs⟩,h3⟩:=h k hk;have Vq:=hs;obtain⟨base,cap,rfl,-⟩:=hs;exact⟨base,cap,h3,Vq,h1⟩
theorem UL{b:UInt8}{r:Bs}:(b::r).all w7=(w7 b&&r.all w7):=rfl
theorem HL{b:UInt8}:w7 b=aD↔¬((b.toNat:Int)<97)/\¬((b.toNat:Int)>122):=by
 unfold w7;simp only[fc,decide_eq_true_eq];omega
theorem BI(s:Bs)(w:World):Calls aB 35 #[str s] w (cB (ret (.bool (sS s))) w):=by
 refine enter (args:=[str s]) (n:=27) Tryz.func35 I I I ?_
 try refine GA ?_
 by_cases c0:s=[]
 ·subst c0
  repeat(first|refine GC ?_|refine gV (o9 (b:=aD) I I I) ?_|refine GB ?_)
  exact dD I I I
 by_cases c1:12<s.length
 ·repeat(first|refine GC ?_|refine gV (o9 (b:=aE) I I (decide_eq_false c0)) ?_|refine GB ?_)
  exact dD I I (by unfold sS;rw[decide_eq_false (show ¬s.length<=12 by omega)];simp)
 have hB:sS s=s.all w7:=by unfold sS;rw[decide_eq_true c0,decide_eq_true (show s.length<=12 by omega)];rfl
 repeat(first|refine GC ?_|refine gV (o9 (b:=aE) I I (decide_eq_false c0)) ?_|refine GB ?_)
 refine ea (ι:=Nat) (λk=>k<=s.length/\(s.drop k).all w7=s.all w7) (λk=>[(0,str s),(12,av az s.length),(13,av az (k:Int))]) (λ_=>[]) (λk=>s.length-k) 0 ⟨bH _,rfl⟩ ?_;rintro k ⟨i1,i2⟩
 by_cases c2:k<s.length
 ·rw[eN c2,UL]at i2
  have hk:=bD c2;rw[hB];generalize s[k]=b at*
  cases hb:w7 b with
  | true=>
   obtain⟨b1,b2⟩:=HL.1 hb;rw[hb,vC]at i2
   repeat(first|refine GA ?_|refine gV (wj (b:=b) bM.eq I I J hk) ?_)
   exact bY (k+1) ⟨by omega,i2⟩ (by show s.length-(k+1)<s.length-k;omega)
  | false=>
   rw[hb,JK]at i2;rw[<-i2]
   by_cases b1:(b.toNat:Int)<97
   ·repeat(first|refine GA ?_|refine gV (wj (b:=b) bM.eq I I J hk) ?_)
    exact dD I I I
   have b2:(b.toNat:Int)>122:=by
    by_cases b2:(b.toNat:Int)>122
    exact b2;rw[HL.2 ⟨b1,b2⟩]at hb;cases hb
   repeat(first|refine GA ?_|refine gV (wj (b:=b) bM.eq I I J hk) ?_)
   exact dD I I I
 have e:k=s.length:=by omega
 subst e;rw[EM]at i2;rw[hB,<-i2]
 try refine GA ?_
 exact dD I I I
def KeysOf(m:Bs->Option Value)(of:List Bs):Prop:=∀y,(m y).isSome=decide (y∈of)
theorem rL{m:Bs->Option Value}{of:List Bs}{y:Bs}{v:Value}(h:KeysOf m of)(e:m y=aj v):y∈of:=by
 have:=h y;rw[e]at this;exact of_decide_eq_true this.symm
theorem rM{m:Bs->Option Value}{of:List Bs}{y:Bs}(h:KeysOf m of)(e:m y=ak):y∉of:=by
 have:=h y;rw[e]at this;exact of_decide_eq_false this.symm
theorem MC{m:Bs->Option Value}{of:List Bs}{x:Bs}{v:Value}(h:KeysOf m of):KeysOf (λy=>if y=x then aj v else m y) (of++[x]):=λy=>by
 by_cases e:y=x
 subst e;simp;dsimp only;rw[if_neg e,h y];simp[e]
theorem gU(w:World):(zeroValue 3).run aB w= .ok (av az 0) w:=by kernel_rfl
def sT(gm:Nat)(r:Int×List Bs):Spec ((Bs->Option Value)×Nat):=⟨λx=>KeysOf x.1 r.2/\x.2<=60,λ_=>av az r.1,λx=>[fe ib gm x.1 x.2]⟩
theorem MD(vw vr:Value)(l:List Wd)(gm:Nat)(w0:World)(hw:jW zq (p9 w0) w0 vw l)(hl:l.length<=60)(w:World)(B:bO)(ho:pZ w0 B)(hm:Mem B [fe ib gm (λ_=>ak) 0] w):
 Calls aB 34 #[aQ #[vw,vr],.map (aj gm)] w (cY (sT gm (lm l [])) B):=by
 obtain⟨bw,cw,rfl,-,-,eL⟩:=hw;have hnm:=λs w=>BI s w;refine dm hm (args:=[aQ #[ap bw l.length cw,vr],.map (aj gm)]) (n:=49) Tryz.func34 I I I ?_;refine cC (bz (bR I I I λg2=>?_));refine zL ?_
 repeat(first|refine GA ?_|refine gV (aC (v:=ap bw l.length cw) aK.ty I (aH (i:=1) I I)) ?_)
 refine uc [0] ?_;generalize ja:lm l []=fin;refine ea (ι:=Nat×List Bs×(Bs->Option Value)×Nat) (λ(k,of,m,n)=>k<=l.length/\n<=k/\KeysOf m of/\lm (l.drop k) of=fin) (λ(k,_,_,_)=>[(1,.map (aj gm)),(11,ap bw l.length cw),(12,av az l.length),(13,av az (k:Int))]) (λ(_,_,m,n)=>[fe ib gm m n]) (λ(k,_)=>l.length-k) (0,[],λ_=>ak,0) ⟨bH _,bx _,λy=>rfl,ja⟩ ?_;clear hm ja;rintro⟨k,of,m,n⟩ ⟨i1,i2,i3,i4⟩;dsimp only at i1 i2 i3 i4⊢
 by_cases c1:k<l.length
 ·obtain⟨b,off,rfl,_,hr⟩:=eL J
  obtain⟨bk,ck,q1,q2,q3⟩:=Sk hr c1;rw[eN c1,lm]at i4;have du:∀(L:List cH) (j:Nat) (u:Value),(yA l[k].1 l[k].2.kind l[k].2.ud (.slice bk l[k].2.kids.length ck))[j]?=aj u->At B L ⟨b,off+k*7+j,ak⟩ u:=λL j u hj=>iC ho (q1 j u hj);have iW:=λw' (hg:Gr w0 w')=>ul _ _ w' (q2.gr hg);clear hr eL q1 q2;generalize l[k]=wd at*;obtain⟨nm,r⟩:=wd;dsimp only at*;generalize Xc r=er at*;generalize r.kind=rk at*;generalize r.ud=rc at*;generalize r.kids.length=rn at*
  repeat(first|refine GA ?_|refine gV (aX bM.eq aK.ty I I c1) ?_|refine gV (a8 (cs:=yA nm rk rc (ap bk rn ck)) aK.ty I I (du _)) ?_)
  clear du;refine aY I λg6=>?_;refine zL ?_
  try refine GA ?_
  refine gC 1 (cs':=(yA nm rk rc (ap bk rn ck)).toArray) ?_;refine zL ?_
  repeat(first|refine GA ?_|refine gV (aC (v:=str nm) aK.ty I (aH (i:=1) I I)) ?_)
  by_cases e0:nm=[]
  ·subst e0
   rw[if_neg (λh=>h.1 I)]at i4
   repeat(first|refine GC ?_|refine gV (kK (b:=aE) I I I) ?_|refine gV (a8 (cs:=mi rk rc (ap bk rn ck)) aK.ty I I (λj v hj=>aH (i:=1) I (P' hj))) ?_|refine GB ?_)
   refine aV (hZ aI.en I I) (λw hm=>iW _ (ho.mem hm)) I I I ?_;intro _ _;refine zL ?_
   by_cases e1:er=0
   ·subst e1
    rw[if_neg (by simp)]at i4
    repeat(first|refine GA ?_|refine gV (aC (v:=str []) aK.ty I (aH (i:=1) I I)) ?_)
    cases BC:m []with
    | some v=>
     have FI:=rL i3 BC;rw[if_pos FI]at i4
     repeat(first|refine GA ?_|refine gV (aC (v:=str []) aK.ty I (aH (i:=1) I I)) ?_|refine gV (jH ib (x:=([]:Bs)) bM.eq gU (i:=0) I I I q3 BC) ?_)
     subst i4;exact cJ I I λw hm=>hm.bV (S:=sT gm _) (m,n) ⟨i3,by show n<=60;omega⟩ [0] aiT I
    | none=>
     have FI:=rM i3 BC;rw[if_neg FI,if_pos I]at i4
     repeat(first|refine GC ?_|refine gV (aC (v:=str []) aK.ty I (aH (i:=1) I I)) ?_|refine gV (jI ib (x:=([]:Bs)) bM.eq gU (i:=0) I I I q3 BC) ?_|refine gV (kK (b:=aE) I I I) ?_|refine GB ?_)
     refine dj [0] ?_;exact bY (k+1,of,m,n) ⟨by omega,by show n<=k+1;omega,i3,i4⟩ (by show l.length-(k+1)<l.length-k;omega)
   rw[if_pos e1]at i4
   repeat(first|refine GC ?_|refine gV (dr (b:=aD) I I (decide_eq_true e1)) ?_|refine GB ?_)
   subst i4;exact cJ I I λw hm=>hm.bV (S:=sT gm _) (m,n) ⟨i3,by show n<=60;omega⟩ [0] aiT I
  repeat(first|refine GC ?_|refine gV (kK (b:=aD) I I (decide_eq_true e0)) ?_|refine gV (aC (v:=str nm) aK.ty I (aH (i:=1) I I)) ?_|refine GB ?_)
  refine mv (hZ aI.en I I) (λw hm=>hnm nm w) I I I I I ?_;intro _ _;refine zL ?_
  cases hb:sS nm with
  | false=>
   rw[if_pos ⟨e0,hb⟩]at i4
   try refine GA ?_
   subst i4;exact cJ I I λw hm=>hm.bV (S:=sT gm _) (m,n) ⟨i3,by show n<=60;omega⟩ [0] aiT I
  | true=>
   rw[if_neg (λh=>by rw[hb]at h;cases h.2)]at i4
   repeat(first|refine GA ?_|refine gV (a8 (cs:=mi rk rc (ap bk rn ck)) aK.ty I I (λj v hj=>aH (i:=1) I (P' hj))) ?_)
   refine aV (hZ aI.en I I) (λw hm=>iW _ (ho.mem hm)) I I I ?_;intro _ _;refine zL ?_
   by_cases e1:er=0
   ·subst e1
    rw[if_neg (by simp)]at i4
    repeat(first|refine GA ?_|refine gV (aC (v:=str nm) aK.ty I (aH (i:=1) I I)) ?_)
    cases BC:m nm with
    | some v=>
     have FI:=rL i3 BC;rw[if_pos FI]at i4
     repeat(first|refine GA ?_|refine gV (aC (v:=str nm) aK.ty I (aH (i:=1) I I)) ?_|refine gV (jH ib (x:=nm) bM.eq gU (i:=0) I I I q3 BC) ?_)
     subst i4;exact cJ I I λw hm=>hm.bV (S:=sT gm _) (m,n) ⟨i3,by show n<=60;omega⟩ [0] aiT I
    | none=>
     have FI:=rM i3 BC;rw[if_neg FI,if_neg e0]at i4
     repeat(first|refine GC ?_|refine gV (aC (v:=str nm) aK.ty I (aH (i:=1) I I)) ?_|refine gV (jI ib (x:=nm) bM.eq gU (i:=0) I I I q3 BC) ?_|refine gV (kK (b:=aD) I I (decide_eq_true e0)) ?_|refine GB ?_)
     refine l_ (i:=0) (x:=nm) (v:=av az (k:Int)) ib bM.eq I I I I q3 J ?_;refine zL ?_
     try refine GA ?_
     refine dj [0] ?_;exact iB (k+1,of++[nm],_,_) ⟨by omega,by rw[BC];show n+1<=k+1;omega,MC i3,i4⟩ (by show l.length-(k+1)<l.length-k;omega) (by repeat' (first|exact bZ|refine bX I ?_)) I
   rw[if_pos e1]at i4
   repeat(first|refine GC ?_|refine gV (dr (b:=aD) I I (decide_eq_true e1)) ?_|refine GB ?_)
   subst i4;exact cJ I I λw hm=>hm.bV (S:=sT gm _) (m,n) ⟨i3,by show n<=60;omega⟩ [0] aiT I
 ·obtain rfl:k=l.length:=by omega
  rw[EM]at i4
  try refine GA ?_
  subst i4;exact cJ I I λw hm=>hm.bV (S:=sT gm _) (m,n) ⟨i3,by show n<=60;omega⟩ [0] aiT I
end cI
namespace cI
open Go.RowKit cU dS dl gj gT Go.ChangeShapes Go.WideShapes Go.ChangeAt
set_option maxRecDepth 100000
theorem EU{α:Type}{s:wL α}{is:List Value->α->Prop}{w:World}{v:Value}{l:List α}(h:Tp w is s.c v l)(hi:∀cs a,is cs a->s.is (p9 w) w cs a)(h0:0<s.c):jW s (p9 w) w v l:=by
 obtain⟨base,cap,h1,h2,h3,h4⟩:=h;refine⟨base,cap,h1,h2,h3,λhl=>?_⟩;obtain⟨b,off,h5,h6⟩:=h4 hl;refine⟨b,off,h5,?_,λi oV=>let ⟨cs,h7,h8⟩:=h6 i oV;⟨cs,hi _ _ h7,h8⟩⟩;obtain⟨cs,h7,h8⟩:=h6 0 hl;have hlen:=s.len (hi _ _ h7);have hc:=h8 0 (cs[0]' J) (bD J);exact nX w _ hc
theorem ME{H:Type}{M:Msr aB H}{enc0:TypeId×Value->H}{W:World}:kL M enc0 W 83 (λcs x=>zq.is (p9 W) W cs x):=λfuel cs x h hm=>by
 obtain⟨hl,KH⟩:=An Tryz.underlying83 h hm;have hl7:cs.length=7:=hl;obtain⟨n,⟨e0,n1⟩,-⟩:=KH 0 _ rfl (xF Tryz.underlying9);obtain⟨r,h1⟩:=KH 1 _ rfl (λfuel=>DI (M:=M) (enc0:=enc0) (W:=W) fuel fuel (bx _))
 replace e0:(cs.drop 0).take 1=[str n]:=e0
 replace h1:ku (p9 W) W ((cs.drop 1).take 6) r:=h1
 refine⟨(n,r),[str n],(cs.drop 1).take 6,?_,⟨rfl,n1⟩,h1⟩;rw[<-e0];have e:(cs.drop 1).take 6=cs.drop 1:=gB (by rw[jc];omega);rw[e,mC,xp]
theorem MF{H:Type}{M:Msr aB H}{enc0:TypeId×Value->H}{W:World}:kL M enc0 W 86 (λcs x=>HK.is (p9 W) W cs x/\M.lim 9 x.2.length):=λfuel cs x h hm=>by
 obtain⟨hl,KH⟩:=An Tryz.underlying86 h hm;have II:cs.length=2:=hl;obtain⟨n,⟨e0,n1⟩,-⟩:=KH 0 _ rfl (xF Tryz.underlying9);obtain⟨l,⟨v,e1,hs⟩,Ds⟩:=KH 1 _ rfl (su (c:=1) Tryz.underlying84 (by kernel_rfl) aiT (xF Tryz.underlying9) λcs a h=>by rw[h.1.1];rfl)
 replace e0:(cs.drop 0).take 1=[str n]:=e0
 replace e1:(cs.drop 1).take 1=[v]:=e1
 refine⟨(n,l),⟨[str n],[v],?_,⟨rfl,n1⟩,v,rfl,EU (s:=Tt) hs (λcs a h=>⟨h.1.1,h.1.2⟩) aiT⟩,Ds⟩
 match cs,II with
 |[x,y],_=>
  simp only[uv,mC,uu,nY,gi,and_true]at e0 e1;subst e0 e1;rfl
theorem MG{H:Type}{M:Msr aB H}{enc0:TypeId×Value->H}{W:World}:kL M enc0 W 25 (λcs s=>UK (p9 W) W (aQ cs.toArray) s/\∀r∈s.rules,M.lim 9 r.2.length):=λfuel cs x h hm=>by
 obtain⟨hl,KH⟩:=An Tryz.underlying25 h hm;have II:cs.length=2:=hl;obtain⟨ws,⟨vw,e0,h0⟩,-⟩:=KH 0 _ rfl (su (c:=7) Tryz.underlying22 (by kernel_rfl) aiT ME λcs a h=>zq.len h);obtain⟨rs,⟨vr,e1,h1⟩,-⟩:=KH 1 _ rfl (su (c:=2) Tryz.underlying23 (by kernel_rfl) aiT MF λcs a h=>HK.len h.1)
 replace e0:(cs.drop 0).take 1=[vw]:=e0
 replace e1:(cs.drop 1).take 1=[vr]:=e1
 refine⟨⟨ws,rs⟩,⟨vw,vr,?_,EU (s:=zq) h0 (λcs a h=>h) aiT,EU (s:=HK) h1 (λcs a h=>h.1) aiT⟩,λr hr=>?_⟩
 ·match cs,II with
  |[x,y],_=>
   simp only[uv,mC,uu,nY,gi,and_true]at e0 e1;subst e0 e1;rfl
 obtain⟨i,hi,rfl⟩:=hY.1 hr;have hi:i<rs.length:=hi;obtain⟨base,cap,_,_,_,h4⟩:=h1;obtain⟨b,off,_,h6⟩:=h4 J;obtain⟨cs,h7,_⟩:=h6 i hi;exact h7.2
end cI
namespace cI
open Go.RowKit cU dS dl gj gT Go.ChangeShapes Go.WideShapes Go.ChangeAt
set_option maxRecDepth 100000
theorem Qa{H:Type}{enc0:TypeId×Value->H}{W:World}{base:Nat}{v:Value}{d:DataW H}{ps:List MemPlace}(hv:Value.okWide aB W .any base 25 v)(h:DataW.Trod enc0 aB W 0 (λ_=>aD) aD 25 v d ps){ts:List TypeId}{ds:List (DataW H)}(hsz:(DataW.weightsEach aB ts ds).all (· <=reachBytes)=aD)(j:Nat)(hj:ts[j]?=aj 25)(hd:ds[j]?=aj d):
 ∃s:Sp,UK (p9 W) W v s/\∀r∈s.rules,r.2.length*16<=140737488351232:=by
 obtain⟨cs,s,rfl,h1,h2⟩:=W4 (M:=Rq aB H) Tryz.underlying25 hv h MG (K' hsz j hj hd);rw[Array.toArray_toList]at h1;exact⟨s,h1,h2⟩
end cI
namespace cI
open Go.RowKit cU dS aT
theorem MH(k q:Int)(w:World):(dh 156 #[(0,av az k),(1,av az q)]).run aB w= .ok (aQ #[av az k,av az q]) w:=by
 go_simp
end cI
namespace cI
open Go.RowKit cU dS yS cT
def zr(R:List Row)(tags:List Int):List Row:=if mh R tags=0 then(qh (fl R tags) (dO (fl R tags))).2 else []
def zt(R:List Row)(tags:List Int):List Int:=if mh R tags=0 then(qh (fl R tags) (dO (fl R tags))).1.map (fl R tags).tag else []
theorem Sm{R:List Row}{tags:List Int}(h:mh R tags=0):(zr R tags).length=(zt R tags).length/\(zr R tags).length=(PN (fl R tags)).n:=by
 obtain⟨hA,_⟩:=vh h;have:=(PO (bl:=dO (fl R tags)) hA).2.len;unfold zr zt;rw[if_pos h,if_pos h,dF];exact⟨this,this⟩
theorem ab4{R:List Row}{tags:List Int}(h:mh R tags=0):fl (zr R tags) (zt R tags)=PN (fl R tags):=by
 have hl:=(Sm h).2;have e1:zr R tags=(qh (fl R tags) (dO (fl R tags))).2:=if_pos h;have e2:zt R tags=(qh (fl R tags) (dO (fl R tags))).1.map (fl R tags).tag:=if_pos h;show uA.mk (zr R tags).length _ _=_
 rw[hl];rw[e1,e2];rfl
theorem Sn{R:List Row}{tags:List Int}(h:mh R tags=0):mh (zr R tags) (zt R tags)=0:=by
 refine JC ?_ (Sm h).1.symm;rw[ab4 h];exact abG (vh h).1
def vH(bl:Nat->Nat)(Q:List Nat)(b:Nat):Int:=if b∈Q.map bl then(idx (Q.map bl) b:Int)+1 else 0
theorem Ze{bl:Nat->Nat}{Q:List Nat}{q:Nat}(hn:bl q∉Q.map bl)(b:Nat):vH bl (Q++[q]) b=if b=bl q then(Q.length:Int)+1 else vH bl Q b:=by
 unfold vH;rw[eV,JL]
 by_cases c:b=bl q
 ·subst c
  rw[if_pos (by simp),if_pos I];have:=rp (D:=Q.map bl) (k:=bl q);unfold more at this;rw[if_neg hn,if_neg hn]at this;rw[this,dF]
 rw[if_neg c]
 by_cases c2:b∈Q.map bl
 rw[if_pos c2,if_pos (List.mem_append_left _ c2),qq c2];rw[if_neg c2,if_neg];rw[fu,dR];rintro(h|h);exact c2 h;exact c h
def A5(l:List Int):Row:=yg λb:Fin 256=>if b<l.length then l.getD b 0 else-1
theorem Zf:A5 []=ee 256 (-1):=by
 refine kr λj hj=>?_;unfold A5;simp
theorem Zg{l:List Int}(h:l.length=256):A5 l=vec l:=by
 refine kr λj hj=>?_;unfold A5 vec;simp[h,hj]
theorem EV(l:List Int)(x:Int)(h:l.length<256):(A5 l).set l.length x=A5 (l++[x]):=by
 refine kr λj hj=>?_;unfold A5;rw[uO,kq,kq];simp only[bI,lW];split
 ·rename_i e;subst e
  rw[if_pos J,lX (bx _),oa];rfl
 by_cases c:j<l.length
 rw[if_pos c,if_pos J,jv c];rw[if_neg c,if_neg J]
theorem UM(l:List Int)(h:l.length<256):A5 (l++[-1])=A5 l:=by
 rw[<-EV l (-1) h];refine kr λj hj=>?_;rw[uO];split
 ·rename_i e;subst e;unfold A5;simp
 rfl
structure Zh(R:List Row)(tags:List Int)(f n:Nat)(Q:List Nat)(out:List Row):Prop where
 eq:qh (fl R tags) (dO (fl R tags))=w6 (fl R tags) (dO (fl R tags)) f n Q out
 ok:Ux (fl R tags) (dO (fl R tags)) Q
 outs:Uy (fl R tags) (dO (fl R tags)) n Q out
 fuel:(fl R tags).n+1<=f+n
theorem agi{R:List Row}{tags:List Int}(hA:(fl R tags).Ok):Zh R tags (R.length+1) 0 [0] []:=⟨rfl,af7 hA,⟨rfl,bH _,λk hk=>by omega⟩,bx _⟩
theorem UN{R:List Row}{tags:List Int}(hA:(fl R tags).Ok){f n:Nat}{Q:List Nat}{out:List Row}(h:Zh R tags f n Q out)(hn:n<Q.length):∃f',f=f'+1/\Zh R tags f' (n+1) (kW (fl R tags) (dO (fl R tags)) (Q.getD n 0) Q 256).1 (out++[vec (kW (fl R tags) (dO (fl R tags)) (Q.getD n 0) Q 256).2]):=by
 have h1:=h.ok.len;have h2:=h.fuel;obtain⟨f',rfl⟩:∃f',f=f'+1:=⟨f-1,by omega⟩;have e:=h.eq;unfold w6 at e;rw[if_pos hn]at e;exact⟨f',rfl,e,CI hA h.ok (h.ok.lt _ (zl hn)) 256 (bx _),Hy hA h.outs hn,by omega⟩
theorem Zi{R:List Row}{tags:List Int}{f n:Nat}{Q:List Nat}{out:List Row}(h:Zh R tags f n Q out)(hn:¬n<Q.length):qh (fl R tags) (dO (fl R tags))=(Q,out)/\n=Q.length:=by
 have h1:=h.outs.le;refine⟨?_,by omega⟩;rw[h.eq]
 cases f with
 |zero=>rfl
 |succ f=>unfold w6;rw[if_neg hn]
def ab5(R:List Row)(tags:List Int):Spec (Value×Value):=⟨λ_=>True,λx=> .tuple #[iF x.1 x.2,av az (mh R tags)],λx=>[a_ 187 256 x.1 (zr R tags).length ((zr R tags).flatMap eO),a_ 3 1 x.2 (zt R tags).length ((zt R tags).flatMap cU.ez)]⟩
theorem Qb(w:World):(dh 120 #[]).run aB w= .ok (iF (ap ak 0 0) (ap ak 0 0)) w:=by kernel_rfl
set_option maxRecDepth 100000 in
theorem Ga(vr vt:Value)(R:List Row)(tags:List Int)(w:World)(h:F6 w vr vt R tags):
 Calls aB 39 #[iF vr vt] w (cB (ab5 R tags) w):=by
 have iW:=λw' (hg:Gr w w')=>EE vr vt R tags w' (h.gr hg);have ON:=λw' (hg:Gr w w') hc=>JE vr vt R tags w' (h.gr hg) hc;obtain⟨bt,ct,rfl,ht1,Vr,KI⟩:=h.hT;obtain⟨br,cr,rfl,hr1,wk,DK⟩:=h.hR;have ab6:=h.rng;unfold maxLen at wk Vr;clear h
 by_cases hc:mh R tags=0
 ·obtain⟨hA,hlt⟩:=vh hc
  have hbo:=TO hA;have en:(fl R tags).n=R.length:=rfl;have AX:0<R.length:=hA.pos;have hle:R.length<=200:=hA.le;obtain⟨b,off,rfl,hr⟩:=DK AX;obtain⟨bb,tB,rfl,hrt⟩:=KI J;clear DK KI;unfold ab5;have er:zr R tags=(qh (fl R tags) (dO (fl R tags))).2:=if_pos hc;have et:zt R tags=(qh (fl R tags) (dO (fl R tags))).1.map (fl R tags).tag:=if_pos hc;rw[er,et];clear er et;have agj:=hbo.le 0 AX;rw[en]at agj;rw[hc]at iW⊢;refine enter (args:=[iF (ap (aj ⟨b,off,ak⟩) R.length cr) (ap (aj ⟨bb,tB,ak⟩) tags.length ct)]) (n:=113) Tryz.func39 I I I ?_;refine cC (bz (bR I I I λg1=>?_));refine aY I λg2=>?_;refine zL ?_
  repeat(first|refine GA ?_|refine gV (aC aK.ty I (aH (i:=0) I I)) ?_|refine gV (aO (i:=0) aK.ty I I I) ?_)
  refine aV (hZ aI.en I I) (λw hm=>iW _ hm.below) I I I ?_;intro _ _
  repeat(first|refine GA ?_|refine gV (aO (i:=0) aK.ty I I I) ?_)
  refine aV (hZ aI.en I I) (λw hm=>ON _ hm.below hc) I I I ?_;intro g5 _;refine zL ?_
  repeat(first|refine GA ?_|refine gV (aC aK.ty I (aH (i:=0) I I)) ?_)
  refine pv (m:=R.length+1) lh 0 (by rfl) (by rfl) J J I λg6=>?_;refine zL ?_
  try refine GA ?_
  refine aY I λg7=>?_;refine zL ?_
  try refine GA ?_
  refine fF I I I I I λg8=>?_;refine zL ?_;refine yJ (i:=5) (m:=1) 1 I I aiT ?_;refine zL ?_
  repeat(first|refine GA ?_|refine gV (cz (j:=0) bM.eq aK.ty I I AX) ?_|refine gV (aC aK.ty I (fV (i:=2) I AX)) ?_|refine gV (cz (j:=dO (fl R tags) 0) bM.eq aK.ty I I J) ?_)
  refine iO (i:=3) (off:=dO (fl R tags) 0) (v:=1) (vH (dO (fl R tags)) [0]) aK.ty I I I I I J (λj hj=>?_) ?_
  ·by_cases e:j=dO (fl R tags) 0
   subst e;simp[vH,idx];rw[if_neg e];unfold vH;rw[if_neg (by simpa using e)]
  refine zL ?_
  try refine GA ?_
  refine jf 187 256 ?_;refine jf 3 1 ?_
  conv=>arg 7;simp only[zA,zB,zC,zD,zE,zF,zG,zH,zI,cK,ret,id_eq]
  have xP:=agi (tags:=tags) hA;have ja:=λf n Q out=>@Zi R tags f n Q out;have mX:=λf n Q out=>@UN R tags hA f n Q out;have ahP:=hbo.le;clear agj hbo ON iW;generalize ahQ:dO (fl R tags)=mQ at*;refine ea (ι:=Nat×Nat×List Nat×List Row×Value×Value×Value) (λ(f,n,Q,out,_)=>Zh R tags f n Q out) (λ(_,n,_,_,vQ,_,_)=>[(1,aJ (aj ⟨g1,0,ak⟩)),(2,aJ (aj ⟨g2,0,ak⟩)),(5,ap (aj ⟨g5,0,ak⟩) R.length R.length),(6,ap (aj ⟨g6,0,ak⟩) (R.length+1) (R.length+1)),(7,aJ (aj ⟨g7,0,ak⟩)),(8,vQ),(9,av az (n:Int))])
   (λ(_,n,Q,out,vQ,vR,vT)=>[aP g1 (iF (ap (aj ⟨b,off,ak⟩) R.length cr) (ap (aj ⟨bb,tB,ak⟩) tags.length ct)).cells 120,aP g2 (iF (ap ak 0 0) (ap ak 0 0)).cells 120,fq 3 lh g5 R.length λi=>(mQ i:Int),fq 3 lh g6 (R.length+1) (vH mQ Q),aP g7 (iF vR vT).cells 120,a_ 3 1 vQ Q.length (Q.map λq:Nat=>lh q),a_ 187 256 vR out.length (out.flatMap eO),a_ 3 1 vT n (((Q.take n).map (fl R tags).tag).flatMap cU.ez)]) (λ(f,_)=>f) (R.length+1,0,[0],[],ap (aj ⟨g8,0,ak⟩) 1 1,ap ak 0 0,ap ak 0 0) xP ?_
  rintro⟨f,n,Q,out,vQ,vR,vT⟩ hw;dsimp only at hw⊢;have hQ:=hw.ok;have hQl:=hQ.len;have aiF:=hw.outs.len;rw[ahQ]at hQ;rw[en]at hQl
  by_cases c1:n<Q.length
  ·obtain⟨f',rfl,tG⟩:=mX _ _ _ _ hw c1
   have hq:=hQ.lt _ (zl c1);have hqc:(Q.map λq:Nat=>lh q)[0+n]?=aj (lh (Q.getD n 0)):=by rw[cV,eS,b9,bD c1];rfl
   rw[en]at hq;have oT:=BE (-1);have hrw:=λk hk=>CI (bl:=mQ) hA hQ (q:=Q.getD n 0) (by rw[en];exact hq) k hk;have aeJ:=JB (A:=fl R tags) (bl:=mQ) (Q.getD n 0) Q;have FM:=JA (A:=fl R tags) (bl:=mQ) (Q.getD n 0) Q;have hst:∀k,k<256->St (fl R tags) ((fl R tags).d (Q.getD n 0) k):=λk hk=>hA.step _ hq k hk;have hd:∀(k:Nat) (hk:k<256),(fl R tags).d (Q.getD n 0) k=(R[Q.getD n 0]'hq)[k]:=λk hk=>Mj hq hk;have JP:Q.getD n 0<tags.length:=by omega
   have htg:(fl R tags).tag (Q.getD n 0)=tags[Q.getD n 0]'JP:=zn JP;have Qc:=λ(L:List cH)=>gO (W:=w) (L:=L) dz hr hq;have MI:=λ(L:List cH)=>gO (W:=w) (L:=L) (c:=1) (f:=cU.ez) (λ_=>rfl) hrt JP 0 _ I;have hQn:Q.getD n 0=Q[n]:=by rw[b9,bD c1];rfl
   clear ja mX hw;generalize hqq:Q.getD n 0=q at*;generalize hrr:R[q]=r at*
   repeat(first|refine GC ?_|refine gV (e8 (i:=5) bM.eq I I) ?_|refine GB ?_)
   refine aV (hZ aI.en I I) (λw hm=>oT _) I I I ?_;intro _ _
   try refine GA ?_
   refine aY I λg10=>?_;refine zL ?_;refine aW (i:=8) (cs':=(eO (ee 256 (-1))).toArray) I I I (by rw[dZ,dz]) (by simpa using rG (ee 256 (-1))) (by kernel_rfl) ?_;refine zL ?_
   try refine GA ?_
   refine xK (i:=5) I J λgQ cQ hv hcQ aiG=>?_;subst hv
   (repeat refine cC ?_)
   refine dN ([aP g1 (iF (ap (aj ⟨b,off,ak⟩) R.length cr) (ap (aj ⟨bb,tB,ak⟩) tags.length ct)).cells 120,a_ 3 1 (ap (aj ⟨gQ,0,ak⟩) Q.length cQ) Q.length (Q.map λq:Nat=>lh q)]) (.calm 0 (.calm 1 (.calm 2 (.calm 3 (.calm 4 (.calm 5 (.calm 6 (.calm 7 (.calm 8 (.done)))))))))) (bW [0,5]) ?_
   repeat(first|refine GW ?_|(refine GN ?_;first|refine QW (aC aK.ty I (aH (i:=0) I I)) ?_|refine QW (cz (j:=n) bM.eq aK.ty I I c1) ?_|refine QW (aC aK.ty I (ki (i:=1) I hqc)) ?_|refine QW (aX (j:=q) bM.eq aK.ty I I hq) ?_|refine QW (a8 aK.ty I (dz r) (Qc _)) ?_))
   try refine GA ?_
   rw[<-Zf];refine uc [0,1,2,3,4,6,7,8,5] ?_;refine ea (ι:=Nat×Value) (λ(k,_)=>k<=256) (λ(k,vK)=>[(1,aJ (aj ⟨g1,0,ak⟩)),(2,aJ (aj ⟨g2,0,ak⟩)),(5,ap (aj ⟨g5,0,ak⟩) R.length R.length),(6,ap (aj ⟨g6,0,ak⟩) (R.length+1) (R.length+1)),(7,aJ (aj ⟨g7,0,ak⟩)),(8,vK),(9,av az (n:Int)),(10,aJ (aj ⟨g10,0,ak⟩)),(46,Cc r),(47,av az (k:Int))])
    (λ(k,vK)=>[aP g1 (iF (ap (aj ⟨b,off,ak⟩) R.length cr) (ap (aj ⟨bb,tB,ak⟩) tags.length ct)).cells 120,aP g2 (iF (ap ak 0 0) (ap ak 0 0)).cells 120,fq 3 lh g5 R.length λi=>(mQ i:Int),fq 3 lh g6 (R.length+1) (vH mQ (kW (fl R tags) mQ q Q k).1),aP g7 (iF vR vT).cells 120,a_ 187 256 vR out.length (out.flatMap eO),a_ 3 1 vT n (((Q.take n).map (fl R tags).tag).flatMap cU.ez),aP g10 (eO (A5 (kW (fl R tags) mQ q Q k).2)).toArray 187,a_ 3 1 vK (kW (fl R tags) mQ q Q k).1.length ((kW (fl R tags) mQ q Q k).1.map λq:Nat=>lh q)]) (λ(k,_)=>256-k) (0,ap (aj ⟨gQ,0,ak⟩) Q.length cQ) (bH _) ?_
   rintro⟨k,vK⟩ hk;dsimp only at hk⊢
   by_cases c2:k<256
   ·have hcell:(eO r).toArray[k]?=aj (.int .i16 r[k]):=by rw[jn];exact pO r c2
    have hx:=hd k c2;have hsx:=hst k c2;have lq:=hrw k hk;have hlen:=FM k;have Gb:=(Mh lq hsx).len;have mX:kW (fl R tags) mQ q Q (k+1)=((pN mQ (kW (fl R tags) mQ q Q k).1 ((fl R tags).d q k)).1,(kW (fl R tags) mQ q Q k).2++[(pN mQ (kW (fl R tags) mQ q Q k).1 ((fl R tags).d q k)).2]):=rfl;rw[hx]at mX hsx Gb;clear hx hst hrw aeJ FM hd Qc MI;generalize r[k]=x at*;generalize kW (fl R tags) mQ q Q k=RQ at*;obtain⟨Qk,vk⟩:=RQ;dsimp only at lq hlen Gb mX⊢;subst hlen;unfold St at hsx;rw[en]at hsx
    by_cases c3:val mQ x=0
    ·have e:pN mQ Qk x=(Qk,-1):=by unfold pN;rw[if_pos c3]
     rw[e]at mX;have Zj:∀(S:List cH),S=[aP g1 (iF (ap (aj ⟨b,off,ak⟩) R.length cr) (ap (aj ⟨bb,tB,ak⟩) tags.length ct)).cells 120,aP g2 (iF (ap ak 0 0) (ap ak 0 0)).cells 120,fq 3 lh g5 R.length λi=>(mQ i:Int),fq 3 lh g6 (R.length+1) (vH mQ Qk),aP g7 (iF vR vT).cells 120,a_ 187 256 vR out.length (out.flatMap eO),a_ 3 1 vT n (((Q.take n).map (fl R tags).tag).flatMap cU.ez),aP g10 (eO (A5 vk)).toArray 187,a_ 3 1 vK Qk.length (Qk.map λq:Nat=>lh q)]->S=[aP g1 (iF (ap (aj ⟨b,off,ak⟩) R.length cr) (ap (aj ⟨bb,tB,ak⟩) tags.length ct)).cells 120,aP g2 (iF (ap ak 0 0) (ap ak 0 0)).cells 120,fq 3 lh g5 R.length λi=>(mQ i:Int),fq 3 lh g6 (R.length+1) (vH mQ (kW (fl R tags) mQ q Q (vk.length+1)).1),aP g7 (iF vR vT).cells 120,a_ 187 256 vR out.length (out.flatMap eO),a_ 3 1 vT n (((Q.take n).map (fl R tags).tag).flatMap cU.ez),aP g10 (eO (A5 (kW (fl R tags) mQ q Q (vk.length+1)).2)).toArray 187,a_ 3 1 vK (kW (fl R tags) mQ q Q (vk.length+1)).1.length ((kW (fl R tags) mQ q Q (vk.length+1)).1.map λq:Nat=>lh q)]:=λS h=>by
      rw[mX];dsimp only;rw[UM vk c2];exact h
     by_cases c4:x<0
     ·repeat(first|refine GA ?_|refine gV (jt bM.eq aK.ty I I c2 hcell) ?_)
      exact iB (vk.length+1,vK) (by show vk.length+1<=256;omega) (by show 256-(vk.length+1)<256-vk.length;omega) (by repeat' (first|exact bZ|refine bX I ?_)) (Zj _ I)
     obtain⟨m,rfl⟩:∃m:Nat,x=m:=⟨x.toNat,by omega⟩;have hm:m<R.length:=by omega
     rw[zm]at c3
     repeat(first|refine GC ?_|refine gV (jt bM.eq aK.ty I I c2 hcell) ?_|refine gV (cz (j:=m) bM.eq aK.ty I I hm) ?_|refine gV (aC aK.ty I (fV (i:=2) I hm)) ?_|refine gV (dg (b:=aD) I I (decide_eq_true J)) ?_|refine GB ?_)
     exact iB (vk.length+1,vK) (by show vk.length+1<=256;omega) (by show 256-(vk.length+1)<256-vk.length;omega) (by repeat' (first|exact bZ|refine bX I ?_)) (Zj _ I)
    have c4:¬x<0:=λe=>c3 (by unfold val;rw[if_pos e]);obtain⟨m,rfl⟩:∃m:Nat,x=m:=⟨x.toNat,by omega⟩;have hm:m<R.length:=by omega
    rw[zm]at c3;have hbm:=ahP m hm;rw[en]at hbm;have e:pN mQ Qk (m:Int)=(Ez mQ Qk (m:Int),(idx ((Ez mQ Qk (m:Int)).map mQ) (mQ m):Int)):=by unfold pN;rw[zm,if_neg c3,dq]
    rw[e]at mX Gb;dsimp only at Gb mX;rw[en]at Gb;unfold Ez at mX Gb;rw[dq]at mX Gb
    by_cases c5:mQ m∈Qk.map mQ
    ·rw[if_pos c5]at mX Gb
     have hid:=ni c5;rw[dF]at hid;have Zk:vH mQ Qk (mQ m)=(idx (Qk.map mQ) (mQ m):Int)+1:=by unfold vH;rw[if_pos c5]
     generalize idx (Qk.map mQ) (mQ m)=z at*
     repeat(first|refine GC ?_|refine gV (jt bM.eq aK.ty I I c2 hcell) ?_|refine gV (cz (j:=m) bM.eq aK.ty I I hm) ?_|refine gV (aC aK.ty I (fV (i:=2) I hm)) ?_|refine gV (dg (b:=aE) I I (decide_eq_false J)) ?_|refine gV (cz (j:=mQ m) bM.eq aK.ty I I J) ?_|refine gV (aC aK.ty I (fV (i:=3) I (show mQ m<R.length+1 by omega))) ?_|refine gV (eJ (r:=(z:Int)) I I J J J) ?_|refine gV (iQ bM.eq bM.eq I (PU J J)) ?_|refine gV (hJ bM.eq aK.ty I I c2) ?_|refine GB ?_)
     refine rH (i:=7) I I I c2 ?_;rw[EV vk z c2];refine zL ?_
     try refine GA ?_
     exact bY (vk.length+1,vK) (by show vk.length+1<=256;omega) (by show 256-(vk.length+1)<256-vk.length;omega) (hl:=by dsimp only;rw[mX])
    rw[if_neg c5]at mX Gb;have Zk:vH mQ Qk (mQ m)=0:=by unfold vH;rw[if_neg c5]
    have F3:=Ze (q:=m) c5;have agk:vH mQ (Qk++[m]) (mQ m)=(Qk.length:Int)+1:=by rw[F3,if_pos I]
    have aeq:idx ((Qk++[m]).map mQ) (mQ m)=Qk.length:=by
     have h1:=agk;unfold vH at h1;rw[if_pos (by simp)]at h1;omega
    rw[aeq]at mX;rw[bI,lW]at Gb
    repeat(first|refine GC ?_|refine gV (jt bM.eq aK.ty I I c2 hcell) ?_|refine gV (cz (j:=m) bM.eq aK.ty I I hm) ?_|refine gV (aC aK.ty I (fV (i:=2) I hm)) ?_|refine gV (dg (b:=aE) I I (decide_eq_false (show ¬(mQ m:Int)=0 by omega))) ?_|refine gV (cz (j:=mQ m) bM.eq aK.ty I I J) ?_|refine gV (aC aK.ty I (fV (i:=3) I (show mQ m<R.length+1 by omega))) ?_|refine gV (dg (b:=aD) I I (decide_eq_true Zk)) ?_|refine gV (iQ bM.eq bM.eq I (nB J J)) ?_|refine GB ?_)
    refine jT (i:=8) I I I I I I (λz h=>by cases h;rfl) J J I λz v2=>?_;refine zL ?_
    repeat(first|refine GC ?_|refine gV (cz (j:=m) bM.eq aK.ty I I hm) ?_|refine gV (aC aK.ty I (fV (i:=2) I hm)) ?_|refine gV (cz (j:=mQ m) bM.eq aK.ty I I J) ?_|refine gV (e8 (i:=8) bM.eq I I) ?_|refine GB ?_)
    refine iO (i:=3) (off:=mQ m) (v:=((Qk.length+1:Nat):Int)) (vH mQ (Qk++[m])) aK.ty I I I I I J (λj hj=>by rw[F3];rfl) ?_;refine zL ?_
    repeat(first|refine GC ?_|refine gV (cz (j:=m) bM.eq aK.ty I I hm) ?_|refine gV (aC aK.ty I (fV (i:=2) I hm)) ?_|refine gV (cz (j:=mQ m) bM.eq aK.ty I I J) ?_|refine gV (aC aK.ty I (fV (i:=3) I (show mQ m<R.length+1 by omega))) ?_|refine gV (eJ (r:=(Qk.length:Int)) I I J J J) ?_|refine gV (iQ bM.eq bM.eq I (PU J J)) ?_|refine gV (hJ bM.eq aK.ty I I c2) ?_|refine GB ?_)
    refine rH (i:=7) I I I c2 ?_;rw[EV vk (Qk.length:Int) c2];refine zL ?_
    try refine GA ?_
    exact bY (vk.length+1,v2) (by show vk.length+1<=256;omega) (by show 256-(vk.length+1)<256-vk.length;omega) (hl:=by dsimp only;rw[mX];simp)
   obtain rfl:k=256:=by omega
   have lq:=(hrw 256 (bx _)).len;obtain⟨E,hE⟩:=aeJ 256;have hv:=FM 256;clear hrw aeJ FM hst hd Qc;generalize kW (fl R tags) mQ q Q 256=RQ at*;obtain⟨Qe,ve⟩:=RQ;dsimp only at lq hE hv tG⊢;subst hE;rw[Zg hv];rw[en]at lq;have hqe:((Q++E).map λq:Nat=>lh q)[0+n]?=aj (lh q):=by
    rw[cV,eS,eR c1,bD c1,<-hQn];rfl
   have qf:(((Q++E).take (n+1)).map (fl R tags).tag).flatMap cU.ez=((Q.take n).map (fl R tags).tag).flatMap cU.ez++[lh tags[q]]:=by
    rw[List.take_append_of_le_length J,iv c1,<-hQn,eV,fC,JL,List.flatMap_singleton,htg];rfl
   rw[bI]at lq;have agl:n<(Q++E).length:=by rw[bI];omega
   repeat(first|refine GA ?_|refine gV (aC aK.ty I (aH (i:=4) I I)) ?_|refine gV (aO (i:=7) aK.ty I I (by rw[dZ,dz])) ?_)
   refine ju (i:=5) I I (by rw[dZ,dz]) I (by simpa using rG (vec ve)) I I (λz h=>by cases h;rfl) J J I λz v2=>?_;refine zL ?_
   try refine GA ?_
   refine aU (i:=5) I λnU my=>?_;refine bU (i:=4) I I I nU my I ?_;refine zL ?_
   try refine GA ?_
   refine xK (i:=8) I J λgQ' cQ' OL aiH aid=>?_;subst OL
   (repeat refine cC ?_)
   refine dN ([aP g1 (iF (ap (aj ⟨b,off,ak⟩) R.length cr) (ap (aj ⟨bb,tB,ak⟩) tags.length ct)).cells 120,a_ 3 1 (ap (aj ⟨gQ',0,ak⟩) (Q++E).length cQ') (Q++E).length ((Q++E).map λq:Nat=>lh q)]) (.calm 0 (.calm 2 (.calm 3 (.calm 4 (.calm 5 (.calm 6 (.calm 7 (.calm 8 (.calm 9 (.two 1 (.one 10 (.one 11 (.calm 12 (.one 13 (.done))))) 10 (.one 1 (.one 11 (.calm 12 (.one 13 (.done))))))))))))))) (bW [0,8]) ?_
   repeat(first|refine GW ?_|(refine GN ?_;first|refine QW (aC aK.ty I (aH (i:=0) I I)) ?_|refine QW (cz (j:=n) bM.eq aK.ty I I agl) ?_|refine QW (aC aK.ty I (ki (i:=1) I hqe)) ?_|refine QW (aX (j:=q) bM.eq aK.ty I I JP) ?_|refine QW (aC aK.ty I (MI _)) ?_))
   refine eG I I ?_ ?_
   ·refine dx (aC aK.ty I (aH (i:=4) I I)) I I I (aM (bW [0,8]) ?_)
    refine aL I (fF I I I I I λahR=>aM (bW [0,8]) ?_);refine aL I (lu (i:=6) (q:=9) I I I I I I J J I λv3=>aM (bW [0,8]) ?_)
    try refine GW ?_
    refine aL I (aU (i:=6) I λwt Cv=>bU (i:=4) I I I wt Cv I (aM (bW [0,8]) ?_))
    try refine GW ?_
    try refine GA ?_
    refine dj [0,1,2,3,4,8,5,6] ?_;exact bY (f',n+1,Q++E,out++[vec ve],ap (aj ⟨gQ',0,ak⟩) (Q++E).length cQ',v2,v3) tG (nv f') (hl:=by dsimp only;rw[qf];simp;rfl)
   refine fF I I I I I λahR=>aM (bW [0,8]) ?_;refine aL I (dx (aC aK.ty I (aH (i:=4) I I)) I I I (aM (bW [0,8]) ?_));refine aL I (lu (i:=6) (q:=9) I I I I I I J J I λv3=>aM (bW [0,8]) ?_)
   try refine GW ?_
   refine aL I (aU (i:=6) I λwt Cv=>bU (i:=4) I I I wt Cv I (aM (bW [0,8]) ?_))
   try refine GW ?_
   try refine GA ?_
   refine dj [0,1,2,3,4,8,5,6] ?_;exact bY (f',n+1,Q++E,out++[vec ve],ap (aj ⟨gQ',0,ak⟩) (Q++E).length cQ',v2,v3) tG (nv f') (hl:=by dsimp only;rw[qf];simp;rfl)
  obtain⟨e,rfl⟩:=ja _ _ _ _ hw c1;rw[e]
  repeat(first|refine GC ?_|refine gV (e8 (i:=5) bM.eq I I) ?_|refine gV (aO (i:=4) aK.ty I I I) ?_|refine GB ?_)
  refine aU (i:=6) I λnU my=>?_;refine aU (i:=7) I λwt Cv=>?_;refine aW (i:=1) (cs':=(iF vR vT).cells) I I I I (by show([vR,vT].all eZ)=aD;simp[my,Cv]) I ?_;refine zL ?_
  try refine GA ?_
  refine eE (i:=1) I I I I I λw hm=>?_;exact hm.meets (S:=⟨λ(_:Value×Value)=>True,λx=> .tuple #[iF x.1 x.2,av az 0],λx=>[a_ 187 256 x.1 out.length (out.flatMap eO),a_ 3 1 x.2 (Q.map (fl R tags).tag).length ((Q.map (fl R tags).tag).flatMap cU.ez)]⟩) (vR,vT) trivial [6,7] aiT (by simp)
 ·have er:zr R tags=[]:=if_neg hc
  have et:zt R tags=[]:=if_neg hc;unfold ab5;rw[er,et];generalize mh R tags=e at*;refine enter (args:=[iF (ap br R.length cr) (ap bt tags.length ct)]) (n:=113) Tryz.func39 I I I ?_;refine cC (bz (bR I I I λg1=>?_));refine aY I λg2=>?_;refine zL ?_
  repeat(first|refine GA ?_|refine gV (aO (i:=0) aK.ty I I I) ?_)
  refine aV (hZ aI.en I I) (λw hm=>iW _ hm.below) I I I ?_;intro _ _
  repeat(first|refine GC ?_|refine gV (bB I Qb) ?_|refine gV (dr (b:=aD) I I (decide_eq_true hc)) ?_|refine GB ?_)
  refine gC 1 ?_;refine zL ?_
  try refine GA ?_
  refine dK 187 256 (dK 3 1 ?_);refine eE (i:=1) I I I I I λw hm=>?_;exact hm.meets (S:=⟨λ(_:Value×Value)=>True,λx=> .tuple #[iF x.1 x.2,av az e],λx=>[a_ 187 256 x.1 0 [],a_ 3 1 x.2 0 []]⟩) (ap ak 0 0,ap ak 0 0) trivial [2,3] aiT I
end cI
namespace cI
open Go.RowKit cU dS yS cT
theorem Sq{R:List Row}{tags:List Int}(h:mh R tags=0):(∀r∈R,∀x∈r.toList,-32768<=x/\x<=32767)/\∀x∈tags,cU.d_ x:=by
 obtain⟨hA,hl⟩:=vh h;have hle:R.length<=200:=hA.le;refine⟨λr hr x hx=>?_,λx hx=>?_⟩
 ·obtain⟨i,hi,rfl⟩:=hY.1 hr
  obtain⟨b,hb,rfl⟩:=hY.1 hx;have NH:b<256:=by simpa using hb
  have:=hA.step i hi b NH;rw[Mj hi NH]at this;have e:(fl R tags).n=R.length:=rfl;rw[oc];omega
 obtain⟨i,hi,rfl⟩:=hY.1 hx;have:=hA.tags i (by show i<R.length;omega);rw[zn hi]at this;exact⟨by omega,by omega⟩
theorem Mem.agm{B:bO}{w:World}{L:List cH}{i j:Nat}{vr vt:Value}{R:List Row}{tags:List Int}(hm:Mem B L w)(hi:L[i]?=aj (a_ 187 256 vr R.length (R.flatMap eO)))(hj:L[j]?=aj (a_ 3 1 vt tags.length (tags.flatMap cU.ez)))(hc:mh R tags=0):F6 w vr vt R tags:=
 ⟨lR hi _ hm,lR hj _ hm,(Sq hc).1,(Sq hc).2⟩
end cI
namespace cI
open Go.RowKit cU dS yS cT
def fQ(R:List Row)(i b:Nat):Int:=(R.getD i wR).toList.getD b 0
theorem vJ{R:List Row}{i b:Nat}(h:i<R.length)(hb:b<256):fQ R i b=(R[i])[b]:=Mj (tags:=[]) h hb
def Gc(R:List Row)(b k:Nat):EB:=yg λi:Fin 200=>if i<k then fQ R i b else 0
def q6(R:List Row)(b:Nat):EB:=Gc R b R.length
theorem aeK(R:List Row)(b:Nat):Gc R b 0=ee 200 0:=by
 refine kr λi hi=>?_;unfold Gc;simp
theorem Zl(R:List Row)(b k:Nat)(h:k<200):(Gc R b k).set k (fQ R k b)=Gc R b (k+1):=by
 refine kr λi hi=>?_;unfold Gc;rw[uO,kq,kq];split
 ·rename_i e;subst e;simp
 have:i<k↔i<k+1:=by omega
 simp only[this]
theorem ab7(c:EB){i:Nat}(h:i<200)(x:Int):(yj c).toArray.setIfInBounds i (.int .i16 x)=(yj (c.set i x)).toArray:=by
 unfold yj;rw[Y9,ph];simp
theorem Zm:(da 200 (av .i16 0)).toArray=(yj (ee 200 0)).toArray:=by
 unfold yj;rw[P_,JM]
theorem MJ(R:List Row)(b i:Nat)(h:i<R.length)(h2:R.length<=200):(q6 R b).toList.getD i 0=fQ R i b:=by
 unfold q6 Gc;rw[b9,bD (by simp;omega),Option.getD_some,oc,kq];simp[h]
theorem ab8{R:List Row}(hr:∀r∈R,∀x∈r.toList,-32768<=x/\x<=32767){b:Nat}(hb:b<256):YS (q6 R b):=by
 intro i hi;unfold q6 Gc;rw[kq];dsimp only;split
 ·rename_i h
  rw[vJ h hb];exact hr R[i] (cD h) _ (by rw[<-oc (h:=by simpa using hb)];exact cD _)
 omega
def nD(R:List Row)(k:Nat):List EB:=dM [] ((eh k).map (q6 R))
theorem zu(R:List Row)(k:Nat):nD R (k+1)=more (nD R k) (q6 R k):=by
 unfold nD;rw[ye,eV,JL,kN]
theorem Sr{R:List Row}{k:Nat}(h:q6 R k∈nD R k):nD R (k+1)=nD R k:=by
 rw[zu];exact if_pos h
theorem Ss{R:List Row}{k:Nat}(h:q6 R k∉nD R k):nD R (k+1)=nD R k++[q6 R k]:=by
 rw[zu];exact if_neg h
theorem CL(R:List Row):∀k,(nD R k).length<=k
 |0=>bx _
 |k+1=>by
  have:=CL R k
  by_cases c:q6 R k∈nD R k
  rw[Sr c];omega;rw[Ss c,bI,lW];omega
theorem Su(R:List Row)(k:Nat):∀j,k<=j->∃E,nD R j=nD R k++E
 |0,h=>⟨[],by obtain rfl:k=0:=J;rw[dW]⟩
 | j+1,h=>by
  by_cases c:k=j+1
  subst c;exact⟨[],by rw[dW]⟩;obtain⟨E,hE⟩:=Su R k j J;obtain⟨E',hE'⟩:=DC (nD R j) (q6 R j);exact⟨E++E',by rw[zu,hE',hE,eD]⟩
theorem JQ(R:List Row){b k:Nat}(h:b<k):q6 R b∈nD R k:=kO.2 (.inr (eX.2 ⟨b,by simpa using h,rfl⟩))
def pkN(R:List Row)(b:Nat):Nat:=idx (nD R 256) (q6 R b)
theorem aeL{R:List Row}{k:Nat}(h:k<256):pkN R k=if q6 R k∈nD R k then idx (nD R k) (q6 R k)else(nD R k).length:=by
 obtain⟨E,hE⟩:=Su R (k+1) 256 J;unfold pkN;rw[hE,qq (JQ R (nv k)),zu,rp]
 by_cases c:q6 R k∈nD R k
 rw[if_pos c,if_pos c];rw[if_neg c,if_neg c]
theorem Zn(R:List Row){b:Nat}(h:b<256):pkN R b<(nD R 256).length:=ni (JQ R h)
theorem Sv(R:List Row){b:Nat}(h:b<256):pkN R b<256:=jp (Zn R h) (CL R 256)
abbrev Of:=Vector Nat 256
def ym(R:List Row)(k:Nat):Of:=yg λb:Fin 256=>if b<k then pkN R b else 0
theorem adk(R:List Row):ym R 0=ee 256 0:=by
 refine kr λi hi=>?_;unfold ym;simp
theorem ab9(R:List Row)(k:Nat)(h:k<256):(ym R k).set k (pkN R k)=ym R (k+1):=by
 refine kr λi hi=>?_;unfold ym;rw[uO,kq,kq];split
 ·rename_i e;subst e;simp
 have:i<k↔i<k+1:=by omega
 simp only[this]
def CM(D:List EB)(i:Nat):List Int:=D.map λc=>c.toList.getD i 0
def UO(R:List Row):List (List Int):=(eh R.length).map (CM (nD R 256))
def eY(o:Of)(vn vt:Value):List Value:=o.toList.map (λn:Nat=> .int .u8 (n:Int))++[vn,vt]
def NR(o:Of)(vn vt:Value):Value:=aQ (eY o vn vt).toArray
theorem fN(o:Of)(vn vt:Value):(eY o vn vt).length=258:=by simp[eY]
theorem kA(o:Of)(vn vt:Value):(eY o vn vt).toArray.size=258:=by rw[dZ,fN]
theorem agn(o:Of)(vn vt:Value){b:Nat}(h:b<256):(eY o vn vt).toArray[b]?=aj (.int .u8 (o[b]:Int)):=by
 rw[jn];unfold eY;rw[eR (by simpa using h),eS,bD (by simpa using h),oc];rfl
theorem lF(o:Of)(vn vt:Value):(eY o vn vt).toArray[256]?=aj vn:=by
 rw[jn];unfold eY;rw[kF (by simp)];simp
theorem nE(o:Of)(vn vt:Value):(eY o vn vt).toArray[257]?=aj vt:=by
 rw[jn];unfold eY;rw[kF (by simp)];simp
theorem yo(o:Of){vn vt:Value}(h1:vn.oneCell'=aD)(h2:vt.oneCell'=aD):(eY o vn vt).toArray.toList.all eZ=true:=by
 refine nc.2 λu hu=>?_;unfold eY at hu;simp only[fu,eX,dA,fv,or_false]at hu;rcases hu with⟨n,_,rfl⟩|rfl|rfl
 rfl;exact h1;exact h2
theorem aeM(o:Of)(vn vt:Value){b:Nat}(h:b<256)(x:Nat):(eY o vn vt).toArray.setIfInBounds b (.int .u8 (x:Int))=(eY (o.set b x) vn vt).toArray:=by
 unfold eY;rw[Y9,ph];simp[A2,h]
theorem JR:(da 256 (av .u8 0)++([ap ak 0 0,ap ak 0 0]:List Value)).toArray=(eY (ee 256 0) (ap ak 0 0) (ap ak 0 0)).toArray:=by
 unfold eY;rw[P_,JM];rfl
theorem UP(w:World):(dh 31 #[]).run aB w= .ok (NR (ee 256 0) (ap ak 0 0) (ap ak 0 0)) w:=by kernel_rfl
theorem MK(g h n m cap:Nat)(w:World):(dh 31 #[(1,ap (aj ⟨g,0,ak⟩) n n),(2,ap (aj ⟨h,0,ak⟩) m cap)]).run aB w= .ok (NR (ee 256 0) (ap (aj ⟨g,0,ak⟩) n n) (ap (aj ⟨h,0,ak⟩) m cap)) w:=by kernel_rfl
end cI
namespace gT
open dl gj
open aT (dy Prod eb)
abbrev ML:=Bs->Option dy
def Ge(m:ML)(x:Bs)(s:dy):ML:=λy=>if y=x then aj s else m y
abbrev WS:=List Int×Int×ML
def jg(s:WS)(w:Wd):WS:=if w.1=[]then(s.1++[-1],s.2)else(s.1++[s.2.1],s.2.1+1,Ge s.2.2 w.1 (1,s.2.1))
abbrev HS:=Int×ML
def tj(s:HS)(r:Rl):HS:=if(s.2 r.1).isSome then s else(s.1+1,Ge s.2 r.1 (2,s.1))
def qi(m:ML)(x:Bs):dy:=(m x).getD (0,0)
def zv(m:ML)(r:Rl):Prod:=((qi m r.1).2,r.2.map (qi m))
def ws0:WS:=([],0,λ_=>ak)
def JS(l:List Wd):WS:=l.foldl jg ws0
def hsN(s:Sp):HS:=s.rules.foldl tj (0,(JS s.words).2.2)
def c_(s:Sp):eb:=⟨(JS s.words).2.1,(hsN s).1,s.rules.map (zv (hsN s).2)⟩
def vO(s:Sp):Int:=if aT.b_ (c_ s)≠0 then 2 else 0
def Small(m:ML):Prop:=∀y s,m y=aj s->0<=s.1/\s.1<=2/\0<=s.2/\s.2<=1000
theorem UQ:Small λ_=>none:=λ_ _ h=>by cases h
theorem HM{m:ML}(h:Small m){x:Bs}{s:dy}(h1:0<=s.1/\s.1<=2/\0<=s.2/\s.2<=1000):Small (Ge m x s):=λy z hz=>by
 unfold Ge at hz;split at hz
 cases hz;exact h1
 exact h y z hz
theorem HO{m:ML}(h:Small m)(x:Bs):0<=(qi m x).1/\(qi m x).1<=2/\0<=(qi m x).2/\(qi m x).2<=1000:=by
 unfold qi
 cases hx:m x with
 |none=>exact⟨by decide,by decide,by decide,by decide⟩
 |some s=>exact h x s hx
theorem step_take{α σ:Type}(f:σ->α->σ)(s:σ)(l:List α){k:Nat}(h:k<l.length):(l.take (k+1)).foldl f s=f ((l.take k).foldl f s) l[k]:=by
 rw[iv h,List.foldl_append];rfl
theorem Zo(s:WS)(w:Wd)(k:Nat)(h:k<60)(a1:s.1.length=k)(a2:0<=s.2.1)(a3:s.2.1<=k)(a4:Small s.2.2):
 (jg s w).1.length=k+1/\0<=(jg s w).2.1/\(jg s w).2.1<=((k+1:Nat):Int)/\Small (jg s w).2.2:=by
 unfold jg;split
 ·exact⟨by rw[bI,a1];rfl,a2,by show s.2.1<=_;omega,a4⟩
 ·exact⟨by rw[bI,a1];rfl,by show 0<=s.2.1+1;omega,by show s.2.1+1<=((k+1:Nat):Int);omega,HM a4 ⟨(by decide:(0:Int)<=1),(by decide:(1:Int)<=2),a2,by show s.2.1<=1000;omega⟩⟩
theorem Zp(l:List Wd):∀k,k<=l.length->k<=60->((l.take k).foldl jg ws0).1.length=k/\0<=((l.take k).foldl jg ws0).2.1/\((l.take k).foldl jg ws0).2.1<=k/\Small ((l.take k).foldl jg ws0).2.2
 |0,_,_=>⟨rfl,lg _,lg _,UQ⟩
 |k+1,h,h60=>by
  obtain⟨a1,a2,a3,a4⟩:=Zp l k J J;rw[step_take _ _ _ (show k<l.length by omega)];exact Zo _ _ k J a1 a2 a3 a4
theorem Zq(s:HS)(r:Rl)(k:Nat)(h:k<60)(a2:0<=s.1)(a3:s.1<=k)(a4:Small s.2):
 0<=(tj s r).1/\(tj s r).1<=((k+1:Nat):Int)/\Small (tj s r).2:=by
 unfold tj;split
 ·exact⟨a2,by show s.1<=_;omega,a4⟩
 ·exact⟨by show 0<=s.1+1;omega,by show s.1+1<=((k+1:Nat):Int);omega,HM a4 ⟨(by decide:(0:Int)<=2),(by decide:(2:Int)<=2),a2,by show s.1<=1000;omega⟩⟩
theorem adl(l:List Rl)(m:ML)(hm:Small m):∀k,k<=l.length->k<=60->0<=((l.take k).foldl tj (0,m)).1/\((l.take k).foldl tj (0,m)).1<=k/\Small ((l.take k).foldl tj (0,m)).2
 |0,_,_=>⟨lg _,lg _,hm⟩
 |k+1,h,h60=>by
  obtain⟨a2,a3,a4⟩:=adl l m hm k J J;rw[step_take _ _ _ (show k<l.length by omega)];exact Zq _ _ k J a2 a3 a4
end gT
namespace cI
open Go.RowKit cU dS gT
def jd(vo:Value)(pk tl:List Value):List Value:=vo::(pk++tl)
def fK(t n:Int)(vp:Value)(mode:Int)(rows dI gt:Value):List Value:=[av az t,av az n,vp,av az mode,rows,dI,gt]
def VA:List Value:=eY (ee 256 0) (ap ak 0 0) (ap ak 0 0)
theorem iU:VA.length=258:=fN _ _ _
def FP:List Value:=jd (ap ak 0 0) VA (fK 0 0 (ap ak 0 0) 0 (ap ak 0 0) (ap ak 0 0) (ap ak 0 0))
theorem sU:(([ap ak 0 0]:List Value)++da 256 (av .u8 0)++([ap ak 0 0,ap ak 0 0,av az 0,av az 0,ap ak 0 0,av az 0,ap ak 0 0,ap ak 0 0,ap ak 0 0]:List Value)).toArray=FP.toArray:=by
 have e:∀z:List Value,(([ap ak 0 0]:List Value)++z++([ap ak 0 0,ap ak 0 0,av az 0,av az 0,ap ak 0 0,av az 0,ap ak 0 0,ap ak 0 0,ap ak 0 0]:List Value)).toArray=((ap ak 0 0:Value)::((z++[ap ak 0 0,ap ak 0 0])++fK 0 0 (ap ak 0 0) 0 (ap ak 0 0) (ap ak 0 0) (ap ak 0 0))).toArray:=λz=>by simp[fK]
 unfold FP jd VA eY;rw[P_,JM];exact e _
theorem UR(w:World):(dh 39 #[]).run aB w= .ok (aQ FP.toArray) w:=by
 rw[<-sU];kernel_rfl
theorem jh{vo:Value}{pk tl:List Value}(j:Nat)(hp:pk.length=258){k:Nat}{v:Value}(h:tl[j]?=aj v)(hk:k=j+259):(jd vo pk tl).toArray[k]?=aj v:=by
 subst hk;rw[jn,jd,C8,kF J,show j+258-pk.length=j by omega];exact h
theorem aeN{vo:Value}{pk tl:List Value}(j:Nat)(hp:pk.length=258){k:Nat}(v:Value)(hk:k=j+259):(jd vo pk tl).toArray.setIfInBounds k v=(jd vo pk (tl.set j v)).toArray:=by
 subst hk;rw[List.setIfInBounds_toArray,jd,List.set_cons_succ,A2,if_neg J,show j+258-pk.length=j by omega];rfl
theorem kB{vo:Value}{pk tl:List Value}(hp:pk.length=258)(ht:tl.length=7):(jd vo pk tl).toArray.size=266:=by
 rw[dZ,jd,de,bI];omega
theorem vP{vo:Value}{pk tl:List Value}(h1:vo.oneCell'=aD)(h2:pk.all eZ=aD)(h3:tl.all eZ=aD):(jd vo pk tl).toArray.toList.all eZ=true:=by
 rw[jd,cZ,List.all_append,h1,h2,h3];rfl
theorem Sw:VA.all eZ=true:=by
 have:=yo (ee 256 0) (vn:=ap ak 0 0) (vt:=ap ak 0 0) I I
 simpa[VA]using this
theorem sV{vo:Value}{pk:List Value}(hp:pk.length=258){t n mode:Int}{vp rows dI gt v:Value}{j:Nat}(h:[av az t,av az n,vp][j]?=aj v):(jd vo pk (fK t n vp mode rows dI gt)).toArray[0+259+j]?=aj v:=by
 match j,h with
 |0,h=>exact jh 0 hp h I
 |1,h=>exact jh 1 hp h I
 |2,h=>exact jh 2 hp h I
 |n+3,h=>cases h
section
variable{P:Program}{n:Nat}{W:bO}{fr:Fr}{L:List cH}{Q:Exit->Act->World->Prop}{ops:Array Oper}{rest:List Oper}{ty:TypeId}{pos:String}{after:Array Edge}{t:TypeId}{p x:Operand}{i g k:Nat}{vo:Value}{pk tl:List Value}{T:TypeId}{agg:Bool}{v:Value}
theorem dU(j:Nat)[hT:aK P t agg 1](hi:L[i]?=aj (aP g (jd vo pk tl).toArray T))(hp:ev fr p=aj (aJ (aj ⟨g,k,ak⟩)))(hx:ev fr x=aj v)(hv:v.cells=#[v])(h1:v.oneCell'=aD)(hk:k=j+259)(dG:pk.length=258)(hj:dv j tl.length=aD)
 (h:TL P n W ops Q rest fr (L.set i (aP g (jd vo pk (tl.set j v)).toArray T))):TL P n W ops Q (⟨ak,.store t p x,ty,pos,after,ak⟩::rest) fr L:=by
 have hj:j<tl.length:=Nat.le_of_ble_eq_true hj;refine bU hi hp hx hv h1 ?_ ?_
 ·rw[dZ,jd,de,bI]
  exact Nat.ble_eq_true_of_le J
 ·rw[aeN j dG v hk];exact h
theorem yp[hT:aK P t agg 1](hi:L[i]?=aj (aP g (jd vo pk tl).toArray T))(hp:ev fr p=aj (aJ (aj ⟨g,k,ak⟩)))(hx:ev fr x=aj v)(hv:v.cells=#[v])(h1:v.oneCell'=aD)(hk:k=0)
 (h:TL P n W ops Q rest fr (L.set i (aP g (jd v pk tl).toArray T))):TL P n W ops Q (⟨ak,.store t p x,ty,pos,after,ak⟩::rest) fr L:=by
 subst hk;refine bU hi hp hx hv h1 I ?_;exact h
theorem Qd{pk':List Value}[hT:aK P t agg 258](hi:L[i]?=aj (aP g (jd vo pk tl).toArray T))(hp:ev fr p=aj (aJ (aj ⟨g,k,ak⟩)))(hx:ev fr x=aj (aQ pk'.toArray))(h1:pk'.all eZ=aD)(hk:k=1)(dG:pk.length=258)(ahS:pk'.length=258)
 (h:TL P n W ops Q rest fr (L.set i (aP g (jd vo pk' tl).toArray T))):TL P n W ops Q (⟨ak,.store t p x,ty,pos,after,ak⟩::rest) fr L:=by
 subst hk;refine t' hT.ty hi hp hx (by simpa[sR]using ahS) (by simpa[sR]using h1) (by rw[dZ,jd,de,bI];omega) ?_ h;apply r7;show vo::(pk'++tl)=Y7 1 (vo::(pk++tl))++pk'++Y8 (1+258) (vo::(pk++tl))
 rw[uu,nY,show 1+258=258+1 from I,uv,List.drop_append_of_le_length J,jo J];rfl
theorem Qf{a b c d e f f' u u':Value}[hT:aK P t agg 2](hi:L[i]?=aj (aP g (jd vo pk [a,b,c,d,e,f,f']).toArray T))(hp:ev fr p=aj (aJ (aj ⟨g,k,ak⟩)))(hx:ev fr x=aj (aQ #[u,u']))(h1:u.oneCell'=aD)(h2:u'.oneCell'=aD)(hk:k=264)(dG:pk.length=258)
 (h:TL P n W ops Q rest fr (L.set i (aP g (jd vo pk [a,b,c,d,e,u,u']).toArray T))):TL P n W ops Q (⟨ak,.store t p x,ty,pos,after,ak⟩::rest) fr L:=by
 subst hk;refine t' hT.ty hi hp hx I (by simp[sR,h1,h2]) (by rw[dZ,jd,de,bI];simp[dG]) ?_ h;apply r7;show vo::(pk++[a,b,c,d,e,u,u'])=Y7 (263+1) (vo::(pk++[a,b,c,d,e,f,f']))++[u,u']++Y8 (265+1) (vo::(pk++[a,b,c,d,e,f,f']))
 rw[uu,uv,show 263=pk.length+5 by omega,List.take_append,gB J,show 265=pk.length+7 by omega,List.drop_append,jo J];simp
end
end cI
namespace cI
open Go.RowKit cU dS aT
theorem Qg(h:Int)(w:World):(dh 132 #[(0,av az h)]).run aB w= .ok (aQ #[av az h,ap ak 0 0]) w:=by
 go_simp
end cI
namespace cI
open Go.RowKit cU dS aT
theorem gok{x:Int}(h:0<=x/\x<1000000000):cU.d_ x:=by unfold cU.d_;omega
theorem yq{F:Nat->Prop}{vp:Value}{l:List aT.Prod}{w:World}{t n:Int}(ht:cU.d_ t)(hn:cU.d_ n)(h:(n_ F vp l).holds w):kj (λk=>k<w.heap.size) w (dJ t n vp) ⟨t,n,l⟩:=by
 obtain⟨⟨v',hv,h1⟩,h2⟩:=h;simp only[gi,and_true]at hv;subst hv;exact⟨vp,rfl,h1.mono h2,ht,hn⟩
end cI
namespace cI
open Go.RowKit cU dS dl gj gT aT
def zw(s:dy):Value:=aQ (eA s).toArray
theorem wD(w:World):(zeroValue 156).run aB w= .ok (zw (0,0)) w:=by kernel_rfl
theorem Qh(s:dy)(w:World):(Instr.field 156 (zw s) 1).run aB w= .ok (av az s.2) w:=by
 obtain⟨a,b⟩:=s
 kernel_rfl
theorem MM{P:Program}{k:TypeId}{κ:Type}{K:yN P k κ}{W:bO}{fr:Fr}{L:List cH}{n:Nat}{dst:Option Tmp}{ty:TypeId}{pos:String}{after:Array Edge}{guard:Option (Nat×Bool)}{i g c:Nat}{t e:TypeId}{m:κ->Option Value}{x:κ}{z v:Value}{xm xk:Operand}(ht:P.underlying t=aj (.map k e))(hz:∀w,(zeroValue e).run P w= .ok z w)(hi:L[i]?=aj (fe K g m c))(hm:ev fr xm=aj (.map (aj g)))(hk:ev fr xk=aj (K.kv x))(hx:K.ok x)(hv:(m x).getD z=v):RR P n W ⟨dst,.lookup t xm xk aE,ty,pos,after,guard⟩ fr L v:=by
 subst hv;exact aaS K ht hz hi hm hk hx
def BJ(m:Bs->Option Value)(M:ML):Prop:=∀y,m y=(M y).map zw
theorem US:BJ (λ_=>ak) (λ_=>ak):=λ_=>rfl
theorem HP{m:Bs->Option Value}{M:ML}(h:BJ m M){x:Bs}{s:dy}{v:Value}(hv:v=zw s):BJ (λy=>if y=x then aj v else m y) (Ge M x s):=λy=>by
 unfold Ge;dsimp only;subst hv
 by_cases e:y=x
 rw[if_pos e,if_pos e];rfl;rw[if_neg e,if_neg e];exact h y
theorem HQ{m:Bs->Option Value}{M:ML}(h:BJ m M)(x:Bs):(m x).getD (zw (0,0))=zw (qi M x):=by
 rw[h x];unfold qi
 cases M x<;>rfl
theorem Qi{m:Bs->Option Value}{M:ML}(h:BJ m M){x:Bs}(hx:M x=ak):m x=none:=by rw[h x,hx];rfl
theorem Qj{m:Bs->Option Value}{M:ML}(h:BJ m M){x:Bs}{s:dy}(hx:M x=aj s):m x=aj (zw s):=by rw[h x,hx];rfl
def EW(gp:Nat)(e:Int)(len:Nat)(of:List Int)(g:eb):Spec (Value×Value×(Nat->Prop)):=
 ⟨λx=>x.1.oneCell'=aD/\x.2.1.oneCell'=aD,λ_=>av az e,λx=>[aP gp (jd x.1 VA (fK g.aR g.bC x.2.1 0 (ap ak 0 0) (ap ak 0 0) (ap ak 0 0))).toArray 39,a_ 3 1 x.1 len (of.map (av .i64)),n_ x.2.2 x.2.1 g.aF]⟩
def JT(gp:Nat)(s:Sp):Spec (Value×Value×(Nat->Prop)):=EW gp (vO s) s.words.length (JS s.words).1 (c_ s)
theorem Gf(vw vr:Value)(s:Sp)(gp:Nat)(w0:World)(hv:UK (p9 w0) w0 (aQ #[vw,vr]) s)(hlw:s.words.length<=60)(NI:s.rules.length<=60)(Hw:∀r∈s.rules,r.2.length<=8796093021952)(w:World)(B:bO)(ho:pZ w0 B)(hm:Mem B [aP gp FP.toArray 39] w):
 Calls aB 37 #[aQ #[vw,vr],aJ (aj ⟨gp,0,ak⟩)] w (cY (JT gp s) B):=by
 obtain⟨JU,B8,hvv,hw,hr⟩:=hv;obtain⟨rfl,rfl⟩:vw=JU/\vr=B8:=by simpa using hvv
 clear hvv;obtain⟨words,rules⟩:=s;dsimp only at*;obtain⟨bw,cw,rfl,-,-,Ql⟩:=hw;obtain⟨br,cr,rfl,-,-,Zr⟩:=hr;refine dm hm (args:=[aQ #[ap bw words.length cw,ap br rules.length cr],aJ (aj ⟨gp,0,ak⟩)]) (n:=153) Tryz.func37 I I I ?_;refine cC (bz (bR I I I λg2=>?_));refine zL ?_
 try refine GA ?_
 refine xI ib I λgm=>?_;refine zL ?_
 repeat(first|refine GA ?_|refine gV (aC (v:=ap bw words.length cw) aK.ty I (aH (i:=1) I I)) ?_)
 refine jf 3 1 ?_;refine ea (ι:=Nat×List Int×Int×ML×Value×(Bs->Option Value)×Nat)
  (λ(k,of,t,M,vo,m,n)=>k<=words.length/\n<=k/\(words.take k).foldl jg ws0=(of,t,M)/\BJ m M/\vo.oneCell'=aD)
  (λ(k,_,_,_,_,_,_)=>[(1,aJ (aj ⟨gp,0,ak⟩)),(2,aJ (aj ⟨g2,0,ak⟩)),(5,.map (aj gm)),(19,ap bw words.length cw),(20,av az words.length),(21,av az (k:Int))])
  (λ(k,of,t,_,vo,m,n)=>[aP gp (jd vo VA (fK t 0 (ap ak 0 0) 0 (ap ak 0 0) (ap ak 0 0) (ap ak 0 0))).toArray 39,aP g2 #[ap bw words.length cw,ap br rules.length cr] 25,fe ib gm m n,a_ 3 1 vo k (of.map (av .i64))])
  (λ(k,_,_,_,_,_,_)=>words.length-k) (0,[],0,λ_=>ak,ap ak 0 0,λ_=>ak,0) ⟨bH _,bx _,rfl,US,rfl⟩ ?_
 clear hm;rintro⟨k,of,t,M,vo,m,n⟩ ⟨i1,i2,i3,i4,i5⟩;dsimp only at i1 i2 i3 i4 i5⊢;have hws:=Zp words k i1 J;rw[i3]at hws;obtain⟨s1,s2,s3,s4⟩:=hws;dsimp only at s1 s2 s3 s4
 by_cases c1:k<words.length
 ·obtain⟨b,off,rfl,_,hr⟩:=Ql J
  obtain⟨bk,ck,q1,q2,q3⟩:=Sk hr c1;have hst:=step_take jg ws0 words c1;rw[i3]at hst;have du:∀(L:List cH) (j:Nat) (u:Value),(yA words[k].1 words[k].2.kind words[k].2.ud (.slice bk words[k].2.kids.length ck))[j]?=aj u->At B L ⟨b,off+k*7+j,ak⟩ u:=λL j u hj=>iC ho (q1 j u hj);clear hr Ql Zr q1 q2;generalize words[k]=wd at*;obtain⟨nm,r⟩:=wd;dsimp only at*;generalize r.kind=rk at*;generalize r.ud=rc at*;generalize r.kids.length=rn at*
  repeat(first|refine GA ?_|refine gV (aX bM.eq aK.ty I I c1) ?_|refine gV (a8 (cs:=yA nm rk rc (ap bk rn ck)) aK.ty I I (du _)) ?_)
  clear du;refine aY I λg7=>?_;refine zL ?_;refine gC 4 (cs':=(yA nm rk rc (ap bk rn ck)).toArray) ?_;refine zL ?_
  by_cases e0:nm=[]
  ·subst e0
   repeat(first|refine GC ?_|refine gV (aC (v:=str []) aK.ty I (aH (i:=4) I I)) ?_|refine gV (o9 (b:=aD) I I I) ?_|refine gV (aC (v:=vo) aK.ty I (aH (i:=0) I I)) ?_|refine GB ?_)
   refine jT (i:=3) I I I I I I (λz h=>by cases h;rfl) J J I λz' v'=>?_;refine zL ?_
   try refine GA ?_
   refine aU (i:=3) I λnU my=>?_;refine yp (i:=0) I I I nU my I ?_;refine zL ?_
   try refine GA ?_
   refine dj [0,1,2,3] ?_;exact bY (k+1,of++[-1],t,M,v',m,n) ⟨by omega,by show n<=k+1;omega,hst,i4,my⟩ (by show words.length-(k+1)<words.length-k;omega) (hl:=by dsimp only;rw[eV];rfl)
  rw[show jg (of,t,M) (nm,r)=(of++[t],t+1,Ge M nm (1,t))from if_neg e0]at hst
  repeat(first|refine GC ?_|refine gV (aC (v:=str nm) aK.ty I (aH (i:=4) I I)) ?_|refine gV (o9 (b:=aE) I I (decide_eq_false e0)) ?_|refine GB ?_)
  (repeat refine cC ?_)
  refine dN ([aP gp (jd vo VA (fK t 0 (ap ak 0 0) 0 (ap ak 0 0) (ap ak 0 0) (ap ak 0 0))).toArray 39,aP g7 (yA nm rk rc (ap bk rn ck)).toArray 83]) (.calm 0 (.calm 1 (.calm 2 (.calm 3 (.calm 4 (.calm 5 (.calm 6 (.calm 7 (.calm 8 (.one 9 (.done))))))))))) (bW [0,4]) ?_
  repeat(first|refine GW ?_|(refine GN ?_;first|refine QW (aC (v:=str nm) aK.ty I (aH (i:=1) I I)) ?_|refine QW (aC (v:=av az t) aK.ty I (aH (i:=0) I (jh 0 iU I I))) ?_|refine QW (bB I (MH _ _)) ?_))
  refine aL I (l_ (i:=2) (x:=nm) (v:=zw (1,t)) ib bM.eq I I I I q3 J (aM (bW [0,4]) ?_));refine zL ?_
  try refine GW ?_
  try refine GA ?_
  (repeat refine cC ?_)
  refine dN ([]) (.calm 0 (.calm 1 (.calm 2 (.calm 3 (.calm 5 (.calm 6 (.calm 7 (.calm 8 (.two 4 (.one 9 (.one 10 (.one 11 (.calm 12 (.calm 13 (.one 14 (.done))))))) 9 (.two 4 (.one 10 (.one 11 (.calm 12 (.calm 13 (.one 14 (.done)))))) 10 (.one 4 (.one 11 (.calm 12 (.calm 13 (.one 14 (.done)))))))))))))))) (bW []) ?_
  try refine GW ?_
  refine eG I I ?a1 ?a2
  case' a2=>
   refine dx (aC (v:=av az t) aK.ty I (aH (i:=0) I (jh 0 iU I I))) I I I (aM (bW []) ?_);refine eG I I ?a3 ?a4
  case' a4=>
   refine fF (cs:=#[av az t]) I I I I I λg56=>aM (bW []) ?_;refine aL I (dx (aC (v:=vo) aK.ty I (aH (i:=0) I I)) I I I (aM (bW []) ?_))
  case' a3=>
   refine dx (aC (v:=vo) aK.ty I (aH (i:=0) I I)) I I I (aM (bW []) ?_);refine aL I (fF (cs:=#[av az t]) I I I I I λg56=>aM (bW []) ?_)
  case' a1=>
   refine dx (aC (v:=vo) aK.ty I (aH (i:=0) I I)) I I I (aM (bW []) ?_);refine aL I (dx (aC (v:=av az t) aK.ty I (aH (i:=0) I (jh 0 iU I I))) I I I (aM (bW []) ?_));refine aL I (fF (cs:=#[av az t]) I I I I I λg56=>aM (bW []) ?_)
  all_goals
   refine zL ?_;refine aL I (lu (i:=3) (q:=5) I I I I I I J J I λv'=>aM (bW []) ?_);refine zL ?_
   try refine GW ?_
   refine aL I (aU (i:=3) I λnU my=>yp (i:=0) I I I nU my I (aM (bW []) ?_));refine zL ?_
   try refine GW ?_
   repeat(first|refine GA ?_|refine gV (aC (v:=av az t) aK.ty I (aH (i:=0) I (jh 0 iU I I))) ?_)
   refine dU 0 (i:=0) I I I I I I iU I ?_;refine zL ?_
   try refine GA ?_
   refine dj [0,1,2,3] ?_;exact iB (k+1,of++[t],t+1,Ge M nm (1,t),v',_,_) ⟨by omega,by show(if(m nm).isSome then n else n+1)<=k+1;split<;>omega,hst,HP i4 I,my⟩ (by show words.length-(k+1)<words.length-k;omega) (by repeat' (first|exact bZ|refine bX I ?_)) (by dsimp only;rw[eV];rfl)
 ·obtain rfl:k=words.length:=by omega
  rw[mH]at i3;have hW:JS words=(of,t,M):=i3;clear Ql
  repeat(first|refine GA ?_|refine gV (aC (v:=ap br rules.length cr) aK.ty I (aH (i:=1) I I)) ?_)
  refine ea (ι:=Nat×Int×ML×(Bs->Option Value)×Nat)
   (λ(j,N,M2,m2,n2)=>j<=rules.length/\n2<=60+j/\(rules.take j).foldl tj (0,M)=(N,M2)/\BJ m2 M2)
   (λ(j,_,_,_,_)=>[(1,aJ (aj ⟨gp,0,ak⟩)),(2,aJ (aj ⟨g2,0,ak⟩)),(5,.map (aj gm)),(71,ap br rules.length cr),(72,av az rules.length),(73,av az (j:Int))])
   (λ(_,N,_,m2,n2)=>[aP gp (jd vo VA (fK t N (ap ak 0 0) 0 (ap ak 0 0) (ap ak 0 0) (ap ak 0 0))).toArray 39,aP g2 #[ap bw words.length cw,ap br rules.length cr] 25,fe ib gm m2 n2,a_ 3 1 vo words.length (of.map (av .i64))])
   (λ(j,_,_,_,_)=>rules.length-j) (0,0,M,m,n) ⟨bH _,by omega,rfl,i4⟩ ?_
  clear i4;rintro⟨j,N,M2,m2,n2⟩ ⟨j1,j2,j3,j4⟩;dsimp only at j1 j2 j3 j4⊢;have hhs:=adl rules M s4 j j1 J;rw[j3]at hhs;obtain⟨u1,u2,u3⟩:=hhs;dsimp only at u1 u2 u3
  by_cases c2:j<rules.length
  ·obtain⟨b,off,rfl,_,eL⟩:=Zr J
   obtain⟨bk,ck,q1,-,q3⟩:=CK eL c2;have hst:=step_take tj (0,M) rules c2;rw[j3]at hst;have du:∀(L:List cH) (j':Nat) (u:Value),([str rules[j].1,.slice bk rules[j].2.length ck]:List Value)[j']?=aj u->At B L ⟨b,off+j*2+j',ak⟩ u:=λL j' u hj=>iC ho (q1 j' u hj);clear eL q1 Zr;generalize rules[j]=r at*;obtain⟨nm,bd⟩:=r;dsimp only at*;generalize bd.length=bn at*
   repeat(first|refine GA ?_|refine gV (aX bM.eq aK.ty I I c2) ?_|refine gV (a8 (cs:=[str nm,ap bk bn ck]) aK.ty I I (du _)) ?_)
   clear du;refine aY I λg9=>?_;refine zL ?_;refine gC 4 (cs':=#[str nm,ap bk bn ck]) ?_;refine zL ?_
   cases hM:M2 nm with
   | some x=>
    rw[show tj (N,M2) (nm,bd)=(N,M2)from if_pos (by show(M2 nm).isSome=aD;rw[hM];rfl)]at hst
    repeat(first|refine GA ?_|refine gV (aC (v:=str nm) aK.ty I (aH (i:=4) I I)) ?_|refine gV (jH ib (x:=nm) bM.eq wD (i:=2) I I I q3 (Qj j4 hM)) ?_)
    refine aY I λg10=>?_;refine zL ?_;refine gC 5 (cs':=(eA x).toArray) ?_;refine zL ?_
    try refine GA ?_
    refine dj [0,1,2,3] ?_;exact bY (j+1,N,M2,m2,n2) ⟨by omega,by show n2<=60+(j+1);omega,hst,j4⟩ (by show rules.length-(j+1)<rules.length-j;omega)
   | none=>
    rw[show tj (N,M2) (nm,bd)=(N+1,Ge M2 nm (2,N))from if_neg (by show ¬(M2 nm).isSome=aD;rw[hM];decide)]at hst
    repeat(first|refine GA ?_|refine gV (aC (v:=str nm) aK.ty I (aH (i:=4) I I)) ?_|refine gV (jI ib (x:=nm) bM.eq wD (i:=2) I I I q3 (Qi j4 hM)) ?_)
    refine aY I λg10=>?_;refine zL ?_;refine gC 5 (cs':=(eA (0,0)).toArray) ?_;refine zL ?_
    try refine GA ?_
    (repeat refine cC ?_)
    refine dN ([aP gp (jd vo VA (fK t N (ap ak 0 0) 0 (ap ak 0 0) (ap ak 0 0) (ap ak 0 0))).toArray 39,aP g9 #[str nm,ap bk bn ck] 86]) (.calm 0 (.calm 1 (.calm 2 (.calm 3 (.calm 4 (.calm 5 (.calm 6 (.calm 7 (.calm 8 (.one 9 (.done))))))))))) (bW [0,4]) ?_
    repeat(first|refine GW ?_|(refine GN ?_;first|refine QW (aC (v:=str nm) aK.ty I (aH (i:=1) I I)) ?_|refine QW (aC (v:=av az N) aK.ty I (aH (i:=0) I (jh 1 iU I I))) ?_|refine QW (bB I (MH _ _)) ?_))
    refine aL I (l_ (i:=2) (x:=nm) (v:=zw (2,N)) ib bM.eq I I I I q3 J (aM (bW [0,4]) ?_));refine zL ?_
    try refine GW ?_
    repeat(first|refine GA ?_|refine gV (aC (v:=av az N) aK.ty I (aH (i:=0) I (jh 1 iU I I))) ?_)
    refine dU 1 (i:=0) I I I I I I iU I ?_;refine zL ?_
    try refine GA ?_
    refine dj [0,1,2,3] ?_;exact iB (j+1,N+1,Ge M2 nm (2,N),_,_) ⟨by omega,by show(if(m2 nm).isSome then n2 else n2+1)<=60+(j+1);split<;>omega,hst,HP j4 I⟩ (by show rules.length-(j+1)<rules.length-j;omega) (by repeat' (first|exact bZ|refine bX I ?_)) I
  obtain rfl:j=rules.length:=by omega
  rw[mH]at j3;have hH:hsN ⟨words,rules⟩=(N,M2):=by unfold hsN;rw[hW];exact j3
  repeat(first|refine GA ?_|refine gV (aC (v:=ap br rules.length cr) aK.ty I (aH (i:=1) I I)) ?_)
  refine jf 132 2 (mB (ef om (λ_=>False) [] []) (λk hk=>hk.elim (λh=>by cases h) id) (λw=>jk) ?_);refine uc [0,2,3,4,5] ?_;refine ea (ι:=Nat×List aT.Prod×Value×List (List Value)×(Nat->Prop))
   (λ(j,ps,vp,fX,F)=>j<=rules.length/\ps=(rules.take j).map (zv M2)/\vp.oneCell'=aD)
   (λ(j,_,_,_,_)=>[(1,aJ (aj ⟨gp,0,ak⟩)),(5,.map (aj gm)),(106,ap br rules.length cr),(107,av az rules.length),(108,av az (j:Int))])
   (λ(j,ps,vp,fX,F)=>[aP gp (jd vo VA (fK t N vp 0 (ap ak 0 0) (ap ak 0 0) (ap ak 0 0))).toArray 39,fe ib gm m2 n2,a_ 3 1 vo words.length (of.map (av .i64)),a_ 132 2 vp ps.length fX.flatten,ef om F fX ps])
   (λ(j,_,_,_,_)=>rules.length-j) (0,[],ap ak 0 0,[],λ_=>False) ⟨bH _,rfl,rfl⟩ ?_
  rintro⟨j,ps,vp,fX,F⟩ ⟨k1,k2,k3⟩;dsimp only at k1 k2 k3⊢
  by_cases c3:j<rules.length
  ·obtain⟨b,off,rfl,_,eL⟩:=Zr J
   obtain⟨bk,ck,q1,q2,q3⟩:=CK eL c3;have hps:(rules.take (j+1)).map (zv M2)=ps++[zv M2 rules[j]]:=by rw[iv c3,eV,<-k2];rfl
   have BF:ps.length=j:=by rw[k2,dF,iZ];omega
   have du:∀(L:List cH) (j':Nat) (u:Value),([str rules[j].1,.slice bk rules[j].2.length ck]:List Value)[j']?=aj u->At B L ⟨b,off+j*2+j',ak⟩ u:=λL j' u hj=>iC ho (q1 j' u hj);have ry:=q2.flat aiT;have lq:=q2.okp;have hb6:=Hw _ (cD c3);clear eL q1 q2 Zr;generalize rules[j]=r at*;obtain⟨nm,bd⟩:=r;dsimp only at*;obtain⟨b2,Vx,lC,wt,Wu,EX⟩:=ry
   cases lC
   unfold maxLen at Wu;have hsm:=HO u3 nm
   repeat(first|refine GA ?_|refine gV (aX bM.eq aK.ty I I c3) ?_|refine gV (a8 (cs:=[str nm,ap bk bd.length ck]) aK.ty I I (du _)) ?_)
   clear du;refine aY I λg13=>?_;refine zL ?_;refine gC 5 (cs':=#[str nm,ap bk bd.length ck]) ?_;refine zL ?_
   repeat(first|refine GA ?_|refine gV (aC (v:=str nm) aK.ty I (aH (i:=5) I I)) ?_|refine gV (MM (K:=ib) (x:=nm) bM.eq wD (i:=1) I I I q3 (HQ j4 nm)) ?_|refine gV (RI I (Qh _)) ?_|refine gV (bB I (Qg _)) ?_)
   refine aY I λg14=>?_;refine zL ?_;refine gC 6 (cs':=#[av az (qi M2 nm).2,ap ak 0 0]) ?_;refine zL ?_
   repeat(first|refine GA ?_|refine gV (aC (v:=ap bk bd.length ck) aK.ty I (aH (i:=5) I I)) ?_)
   refine jf 156 2 ?_;refine uc [0,1,2,3,4,6,7] ?_;refine ea (ι:=Nat×Value) (λ(i,vb)=>i<=bd.length/\vb.oneCell'=aD)
    (λ(i,vb)=>[(1,aJ (aj ⟨gp,0,ak⟩)),(5,.map (aj gm)),(14,aJ (aj ⟨g14,0,ak⟩)),(106,ap (aj ⟨b,off,ak⟩) rules.length cr),(107,av az rules.length),(108,av az (j:Int)),(119,ap bk bd.length ck),(120,av az bd.length),(121,av az (i:Int))])
    (λ(i,vb)=>[aP gp (jd vo VA (fK t N vp 0 (ap ak 0 0) (ap ak 0 0) (ap ak 0 0))).toArray 39,fe ib gm m2 n2,a_ 3 1 vo words.length (of.map (av .i64)),a_ 132 2 vp ps.length fX.flatten,ef om F fX ps,aP g14 #[av az (qi M2 nm).2,vb] 132,a_ 156 2 vb i (((bd.take i).map (qi M2)).flatMap eA)])
    (λ(i,_)=>bd.length-i) (0,ap ak 0 0) ⟨bH _,rfl⟩ ?_
   rintro⟨i,vb⟩ ⟨l1,l2⟩;dsimp only at l1 l2⊢
   by_cases c4:i<bd.length
   ·obtain⟨b3,ab_,rfl,DK⟩:=EX J
    have du:=λL=>uf (W:=B) (L:=L) Sj (λj u hj=>iC ho (DK j u hj)) c4 0 _ I;have hlen:=lq bd[i] (cD c4);have qf:((bd.take (i+1)).map (qi M2)).flatMap eA=((bd.take i).map (qi M2)).flatMap eA++eA (qi M2 bd[i]):=by
     rw[iv c4,eV,fC];simp
    clear DK EX;generalize bd[i]=x at*
    repeat(first|refine GA ?_|refine gV (aX bM.eq aK.ty I I c4) ?_|refine gV (aC (v:=str x) aK.ty I (du _)) ?_|refine gV (aC (v:=vb) aK.ty I (aH (i:=5) I I)) ?_|refine gV (MM (K:=ib) (x:=x) bM.eq wD (i:=1) I I I hlen (HQ j4 x)) ?_)
    refine ju (i:=6) (cs:=(eA (qi M2 x)).toArray) I I I I I I I (λz h=>by cases h;rfl) J J I λz vb'=>?_;refine zL ?_
    try refine GA ?_
    refine aU (i:=6) I λnU my=>?_;refine bU (i:=5) I I I nU my I ?_;refine zL ?_
    try refine GA ?_
    exact bY (i+1,vb') ⟨by omega,my⟩ (by show bd.length-(i+1)<bd.length-i;omega) (hl:=by dsimp only;rw[qf];rfl)
   obtain rfl:i=bd.length:=by omega
   rw[mH];clear EX;have ON:(bd.map (qi M2)).length=bd.length:=dF ..;rw[<-ON];have ahT:zv M2 (nm,bd)=((qi M2 nm).2,bd.map (qi M2)):=rfl;have KS:∀x∈bd.map (qi M2),XS x:=λx hx=>by
    obtain⟨y,-,rfl⟩:=eX.1 hx;have:=HO u3 y;exact⟨gok ⟨this.1,by omega⟩,gok ⟨this.2.2.1,by omega⟩⟩
   generalize qi M2 nm=hd at*;generalize bd.map (qi M2)=body at*
   try refine GA ?_
   (repeat refine cC ?_)
   refine dN ([aP g14 #[av az hd.2,vb] 132]) (.calm 0 (.calm 1 (.calm 2 (.calm 3 (.calm 4 (.calm 6 (.two 5 (.one 7 (.one 8 (.calm 9 (.calm 10 (.calm 11 (.one 12 (.done))))))) 7 (.one 5 (.one 8 (.calm 9 (.calm 10 (.calm 11 (.one 12 (.done)))))))))))))) (bW [5]) ?_
   repeat(first|refine GW ?_|(refine GN ?_;first|refine QW (aO (i:=0) aK.ty I I I) ?_))
   refine eG I I ?b1 ?b2
   case' b1=>
    refine dx (aC (v:=vp) aK.ty I (aH (i:=0) I (jh 2 iU I I))) I I I (aM (bW [5]) ?_);refine aL I (fF (cs:=#[av az hd.2,vb]) I I I I I λg15=>aM (bW [5]) ?_)
   case' b2=>
    refine fF (cs:=#[av az hd.2,vb]) I I I I I λg15=>aM (bW [5]) ?_;refine aL I (dx (aC (v:=vp) aK.ty I (aH (i:=0) I (jh 2 iU I I))) I I I (aM (bW [5]) ?_))
   all_goals
    refine zL ?_;refine aL I (mw (i:=3) (q:=7) I I I I I (by simp only[cZ,db,l2];rfl) J J I λv'=>aM (bW [5]) ?_);refine zL ?_
    try refine GW ?_
    refine aL I (aU (i:=3) I λnU my=>dU 2 (i:=0) I I I nU my I iU I (aM (bW [5]) ?_));refine zL ?_
    try refine GW ?_
    refine ww (ef om (λk=>F k\/vb.ownBlock=aj k) (fX++[[av az hd.2,vb]]) (ps++[(hd.2,body)])) 6 4 [0,1,2,3] aiT I I I (λk hk=>hk.elim (λh=>by cases h) λh=>h.elim (λh=> .inr (.inr h)) λh=> .inl (.inl h)) (λw hr he=>?_) ?_
    ·exact mA he (Bq (gok ⟨hsm.2.2.1,by omega⟩) KS hr) λk hk=>(a_ 156 2 vb body.length (body.flatMap eA)).lt w hr k (.inl hk)
    try refine GA ?_
    exact bY (j+1,ps++[(hd.2,body)],v',fX++[[av az hd.2,vb]],λk=>F k\/vb.ownBlock=aj k) ⟨by omega,by rw[hps,ahT],my⟩ (by show rules.length-(j+1)<rules.length-j;omega) (hl:=by rw[bI,A1];rfl)
  obtain rfl:j=rules.length:=by omega
  rw[mH]at k2;subst k2;have hG:c_ ⟨words,rules⟩=⟨t,N,rules.map (zv M2)⟩:=by unfold c_;rw[hW,hH]
  have hE:vO ⟨words,rules⟩=if b_ ⟨t,N,rules.map (zv M2)⟩≠0 then 2 else 0:=by unfold vO;rw[hG]
  have hS:∀e,vO ⟨words,rules⟩=e->JT gp ⟨words,rules⟩=EW gp e words.length of ⟨t,N,rules.map (zv M2)⟩:=λe he=>by
   show EW gp (vO _) words.length (JS words).1 (c_ _)=_
   rw[hW,hG,he]
  clear hG;generalize rules.map (zv M2)=ps at*
  repeat(first|refine GA ?_|refine gV (a8 (cs:=[av az t,av az N,vp]) aK.ty I I (λj v h=>aH (i:=0) I (sV iU h))) ?_)
  refine pa (n_ (W9 F vp) vp ps) 3 4 [0,2] aiT I I I (λk hk=>hk.elim (λh=>by cases h) λh=>h.elim (λh=> .inr (.inr h)) λh=> .inl (.inl h)) (λw hr he=>⟨⟨vp,rfl,xG hr he aiT⟩,xH hr he⟩) ?_;refine zL ?_;refine aV (hZ aI.en I I) (λw hm=>jJ _ ⟨t,N,ps⟩ w (yq (gok ⟨s2,by omega⟩) (gok ⟨u1,by omega⟩) (hm.get (i:=2) I))) I I I ?_;intro _ _;refine zL ?_;generalize b_ ⟨t,N,ps⟩=e at*
  by_cases c:e≠0
  ·rw[if_pos c]at hE
   rw[hS _ hE]
   repeat(first|refine GC ?_|refine gV (dr (b:=aD) I I (decide_eq_true c)) ?_|refine GB ?_)
   exact cJ I I λw hm=>hm.bV (S:=EW gp 2 words.length of ⟨t,N,ps⟩) (vo,vp,W9 F vp) ⟨i5,k3⟩ [0,1,2] aiT I
  rw[if_neg c]at hE;rw[hS _ hE]
  repeat(first|refine GC ?_|refine gV (dr (b:=aE) I I (decide_eq_false c)) ?_|refine GB ?_)
  exact cJ I I λw hm=>hm.bV (S:=EW gp 0 words.length of ⟨t,N,ps⟩) (vo,vp,W9 F vp) ⟨i5,k3⟩ [0,1,2] aiT I
end cI
namespace cI
open Go.RowKit cU dS yS cT
section
end
theorem Zs{k:Nat}(h:k<256):Ji.wrap (k:Int)=(k:Int):=by
 rw[Jh];omega
end cI
namespace cI
open Go.RowKit cU dS yS cT
def UT:Nat->Nat×Nat
 |0=>(0,0)
 | n+1=>match UT n with
  |(a,0)=>(0,a+1)
  |(a,b+1)=>(a+1,b)
theorem EY:∀(s a b:Nat),a+b=s->∃n,UT n=(a,b)
 |0,a,b,h=>⟨0,by obtain rfl:a=0:=J;obtain rfl:b=0:=J;rfl⟩
 |s+1,0,b,h=>by
  obtain rfl:b=s+1:=by omega
  obtain⟨n,hn⟩:=EY s s 0 J;exact⟨n+1,by simp[UT,hn]⟩
 |s+1,a+1,b,h=>by
  obtain⟨n,hn⟩:=EY (s+1) a (b+1) J;exact⟨n+1,by simp[UT,hn]⟩
def pQ(m x:Nat):Value:=ap (aj ⟨(UT x).1,0,ak⟩) m (UT x).2
section
variable{P:Program}{n:Nat}{W:bO}{fr:Fr}{ops:Array Oper}
theorem aca{i d:Nat}{α:Type}(val:α->Value)(z:α){t e ty:TypeId}{pos:String}{after:Array Edge}{x y:Operand}{bytes m:Nat}{k k':IntKind}[rf P t e 1 bytes][bT P e #[val z]](ho:ops[i]?=aj ⟨aj d,.makeSlice t x y,ty,pos,after,ak⟩)(hx:ev fr x=aj (.int k (m:Int)))(hy:ev fr y=aj (.int k' (m:Int)))(hb:bytes*m<=281474976710656)(ra:m<=9223372036854775807)(hn:dv d n=aD):
 G3 P n W ops fr ⟨i,d,λg=>ap (aj ⟨g,0,ak⟩) m m,λg=>fq e val g m λ_=>z⟩:=
 ⟨_,ho,λ_ _ _ hl h=>pv val z (yQ hl hx) (yQ hl hy) hb ra hn h⟩
theorem Qm{i d:Nat}{o:Oper}{f:FuncId}{args:Array Value}{e:TypeId}{size m:Nat}{xs:List Value}(ho:ops[i]?=aj o)(he:∀FJ,(∀q v,look fr q=aj v->look FJ q=aj v)->∀a w,ny n a FJ->(execOp a.eval o).run P w= .ok (.enter f args) w)
 (hc:∀(L:List cH) w,Mem W L w->Calls P f args w (cB (cK e size m xs id) w)) (hm:0<m) (hg:o.guard=ak) (hd:o.dst=aj d) (hn:dv d n=aD):
 G3 P n W ops fr ⟨i,d,pQ m,λx=>a_ e size (pQ m x) m xs⟩:=
 ⟨o, ho,λQ FJ L hl h=>aV (he FJ hl) (λw hw=>hc L w hw) hg hd hn λv _=> .mk λa w hr hw=>by
  have tG:(a_ e size v m xs).holds w:=hw.get (i:=L.length) (by simp[cK]);obtain⟨G,cap,hv,_,_,_⟩:=Lf tG
  cases G with
  | none=>
   rcases tG.2 with⟨_,h0⟩|⟨g,FQ,jS,OL,_⟩
   omega;rw[OL]at hv;cases hv
  | some g=>
   obtain⟨x,hx⟩:=EY _ g cap rfl;have e:v=pQ m x:=by rw[hv];unfold pQ;rw[hx];rfl
   have:=h x;dsimp only at this;rw[<-e]at this;exact this.go a w hr hw⟩
end
theorem MN{P:Program}{n:Nat}{W:bO}{fr:Fr}{L:List cH}{Q:Exit->Act->World->Prop}{ops:Array Oper}{rest:List Oper}{ty:TypeId}{pos:String}{after:Array Edge}{t:TypeId}{p x:Operand}{i g b:Nat}{c:EB}{T:TypeId}{agg:Bool}{z:Int}[hT:aK P t agg 1](hi:L[i]?=aj (aP g (yj c).toArray T))(hp:ev fr p=aj (aJ (aj ⟨g,0+b,ak⟩)))(hx:ev fr x=aj (.int .i16 z))(hb:b<200)
 (h:TL P n W ops Q rest fr (L.set i (aP g (yj (c.set b z)).toArray T))):TL P n W ops Q (⟨ak,.store t p x,ty,pos,after,ak⟩::rest) fr L:=by
 rw[cV]at hp;refine bU hi hp hx I I ?_ ?_
 ·rw[dZ,rI];exact Ee▸hb
 ·rw[ab7 c hb];exact h
abbrev yr(v:Value):Value:=v
def Zt(n:Nat):Mk:=⟨3,24,λg=>ap (aj ⟨g,0,ak⟩) n n,λg=>fq 27 yr g n λ_=>ap ak 0 0⟩
def Zu(tags:List Int):Mk:=⟨6,27,pQ tags.length,λx=>a_ 3 1 (pQ tags.length x) tags.length (tags.flatMap cU.ez)⟩
def acb:Mk:=⟨8,5,λg=>aJ (aj ⟨g,0,ak⟩),λg=>aP g (da 256 (av .u8 0)++([ap ak 0 0,ap ak 0 0]:List Value)).toArray 31⟩
def UU(n:Nat)(D:List EB)(vs:Nat->Value):cH:=ji (λi=>i<n) λi=>a_ 3 1 (vs i) D.length ((CM D i).flatMap cU.ez)
def nxM(n:Nat)(D:List EB)(col:EB)(j:Nat)(vs:Nat->Value):cH:=ji (λi=>i<n) λi=>a_ 3 1 (vs i) (if i<j then D++[col]else D).length ((CM (if i<j then D++[col]else D) i).flatMap cU.ez)
theorem ago(n:Nat)(D:List EB)(col:EB)(vs:Nat->Value):nxM n D col 0 vs=UU n D vs:=by
 unfold nxM UU;simp
theorem Sx(n:Nat)(D:List EB)(col:EB)(vs:Nat->Value)(i:Nat)(h:i<n):(λi=>a_ 3 1 (vs i) (D++[col]).length ((CM (D++[col]) i).flatMap cU.ez)) i=(λi=>a_ 3 1 (vs i) (if i<n then D++[col]else D).length ((CM (if i<n then D++[col]else D) i).flatMap cU.ez)) i:=by
 dsimp only;rw[if_pos h]
theorem EZ{P:Program}{n:Nat}{W:bO}{fr:Fr}{L:List cH}{Q:Exit->Act->World->Prop}{ops:Array Oper}{rest:List Oper}{ty:TypeId}{pos:String}{after:Array Edge}{t:TypeId}{p x:Operand}{i g b z:Nat}{o:Of}{vn vt:Value}{T:TypeId}{agg:Bool}[hT:aK P t agg 1](hi:L[i]?=aj (aP g (eY o vn vt).toArray T))(hp:ev fr p=aj (aJ (aj ⟨g,0+b,ak⟩)))(hx:ev fr x=aj (.int .u8 (z:Int)))(hb:b<256)
 (h:TL P n W ops Q rest fr (L.set i (aP g (eY (o.set b z) vn vt).toArray T))):TL P n W ops Q (⟨ak,.store t p x,ty,pos,after,ak⟩::rest) fr L:=by
 rw[cV]at hp;refine bU hi hp hx I I ?_ ?_
 ·rw[kA];exact Ee▸J
 ·rw[aeM o vn vt hb];exact h
theorem Zv{j:Nat}{D:List EB}{col:EB}{vs:Nat->Value}{v2:Value}{x:Int}(h:CM (D++[col]) j=CM D j++[x])(q:Nat):
  (λi=>a_ 3 1 ((λi=>if i=j then v2 else vs i) i) (if i<j+1 then D++[col]else D).length ((CM (if i<j+1 then D++[col]else D) i).flatMap cU.ez)) q
   =TP (λi=>a_ 3 1 (vs i) (if i<j then D++[col]else D).length ((CM (if i<j then D++[col]else D) i).flatMap cU.ez)) j (a_ 3 1 v2 (D.length+1) ((CM D j).flatMap cU.ez++[av az x])) q:=by
 unfold TP;dsimp only
 by_cases c:q=j
 ·subst c
  rw[if_pos I,if_pos I,if_pos (nv q),h,bI,fC];rfl
 ·rw[if_neg c,if_neg c]
  have e:q<j+1↔q<j:=by omega
  simp only[e]
def Zw(R:List Row)(tags:List Int):Spec (Nat×(Nat->Value)×Value):=⟨λ_=>True,λx=> .tuple #[NR (ym R 256) (ap (aj ⟨x.1,0,ak⟩) R.length R.length) x.2.2,av az 0],
 λx=>[fq 27 yr x.1 R.length x.2.1,UU R.length (nD R 256) x.2.1,a_ 3 1 x.2.2 tags.length (tags.flatMap cU.ez)]⟩
set_option maxRecDepth 100000 in
theorem Qn(vr vt:Value)(R:List Row)(tags:List Int)(w:World)(h:F6 w vr vt R tags)(hc:mh R tags=0):
 Calls aB 40 #[iF vr vt] w (cB (Zw R tags) w):=by
 have iW:=λw' (hg:Gr w w')=>EE vr vt R tags w' (h.gr hg);rw[hc]at iW;have gL:=λw' (hg:Gr w w') hl=>B9 vt tags w' (h.hT.gr hg) hl;obtain⟨bt,ct,rfl,ht1,Vr,KI⟩:=h.hT;obtain⟨br,cr,rfl,hr1,wk,DK⟩:=h.hR;have ab6:=h.rng;unfold maxLen at wk Vr;clear h;obtain⟨hA,hlt⟩:=vh hc;have AX:0<R.length:=hA.pos;have hle:R.length<=200:=hA.le;clear hA hc;obtain⟨b,off,rfl,hr⟩:=DK AX;obtain⟨bb,tB,rfl,hrt⟩:=KI J;clear DK KI hrt;have gL:=λw' hg=>gL w' hg J;have Ct:=UP;refine enter (args:=[iF (ap (aj ⟨b,off,ak⟩) R.length cr) (ap (aj ⟨bb,tB,ak⟩) tags.length ct)]) (n:=91) Tryz.func40 I I I ?_;refine cC (bz (bR I I I λg1=>?_));refine aY I λg2=>?_;rw[JR];refine zL ?_
 repeat(first|refine GA ?_|refine gV (aO (i:=0) aK.ty I I I) ?_)
 refine aV (hZ aI.en I I) (λw hm=>iW _ hm.below) I I I ?_;intro _ _
 try refine GA ?_
 (repeat refine cC ?_)
 refine k8 (ι:=Nat×Nat×Nat) (λ_=>True) (λ(_,_,g5)=>[(1,aJ (aj ⟨g1,0,ak⟩)),(2,aJ (aj ⟨g2,0,ak⟩)),(5,aJ (aj ⟨g5,0,ak⟩))])
  (λ(gN,x,g5)=>[aP g1 (iF (ap (aj ⟨b,off,ak⟩) R.length cr) (ap (aj ⟨bb,tB,ak⟩) tags.length ct)).cells 120,aP g2 (eY (ee 256 0) (ap ak 0 0) (ap ak 0 0)).toArray 31,fq 27 yr gN R.length (λ_=>ap ak 0 0),a_ 3 1 (pQ tags.length x) tags.length (tags.flatMap cU.ez),aP g5 (eY (ym R 0) (ap (aj ⟨gN,0,ak⟩) R.length R.length) (pQ tags.length x)).toArray 31]) ?_ ?_
 ·refine XA [aP g1 (iF (ap (aj ⟨b,off,ak⟩) R.length cr) (ap (aj ⟨bb,tB,ak⟩) tags.length ct)).cells 120] (bW [0]) (by kernel_rfl) (by kernel_rfl) (by intro c a d v w h;cases d<;>exact h) ?_
  refine qP 0 (by kernel_rfl) I (afy bK.fld I I) I I I ?_;refine qP 1 (by kernel_rfl) I (aC aK.ty I (aH (i:=0) I I)) I I I ?_;refine qP 2 (by kernel_rfl) I (K1 bM.eq I) I I I ?_;refine qP 4 (by kernel_rfl) I (afy bK.fld I I) I I I ?_;refine qP 5 (by kernel_rfl) I (aC aK.ty I (aH (i:=0) I I)) I I I ?_;refine Lj [Zt R.length,Zu tags,acb] (λm=>!Nat.beq m.i 8) 2 (by kernel_rfl) (by kernel_rfl) ?_ (λq=>?_) λq=>?_
  ·intro m hm
   simp only[dA,fv,or_false]at hm;rcases hm with rfl|rfl|rfl
   exact aca yr _ I I I J J I;exact Qm I (λFJ hl=>hZ aI.en I (yQ hl I)) (λL w hm=>gL w hm.below) J I I I;exact G5 I I
  ·simp only[Zt,Zu,acb,gh,qI]
   generalize q 3=gN;generalize q 6=x;generalize q 8=g5;clear q;rw[JR];refine Cz (.calm 7 (.one 9 .done)) (by kernel_rfl) I ?_
   repeat(first|refine GW ?_|(refine GN ?_;first|refine QW (bB I (MK _ _ _ _ _)) ?_))
   refine aL I ?_;refine aW (i:=4) (cs':=(eY (ee 256 0) (ap (aj ⟨gN,0,ak⟩) R.length R.length) (pQ tags.length x)).toArray) I I I (kA _ _ _) (yo _ I I) (kA _ _ _) ?_;refine aM (bW [0]) ?_
   try refine GW ?_
   exact dE (gN,x,g5) trivial (by repeat' (first|exact bZ|refine bX I ?_)) (by rw[adk];rfl)
  rw[show List.filter (λm:Mk=>!Nat.beq m.i 8) [Zt R.length,Zu tags,acb]=[Zt R.length,Zu tags]from I];simp only[Zt,Zu,acb,gh,qI];generalize q 3=gN;generalize q 6=x;clear q;refine Cz (.calm 7 (.one 8 (.one 9 .done))) (by kernel_rfl) (by kernel_rfl) ?_
  repeat(first|refine GW ?_|(refine GN ?_;first|refine QW (bB I (MK _ _ _ _ _)) ?_))
  refine aL I ?_;refine aY I λg5=>?_;refine aM (bW [0]) ?_;rw[JR];refine aL I ?_;refine aW (i:=4) (cs':=(eY (ee 256 0) (ap (aj ⟨gN,0,ak⟩) R.length R.length) (pQ tags.length x)).toArray) I I I (kA _ _ _) (yo _ I I) (kA _ _ _) ?_;refine aM (bW [0]) ?_
  try refine GW ?_
  exact dE (gN,x,g5) trivial (by repeat' (first|exact bZ|refine bX I ?_)) (by rw[adk];rfl)
 rintro⟨gN,xT,g5⟩ _;dsimp only;generalize hvT:pQ tags.length xT=vT
 try refine GA ?_
 refine AC (K:=Mm) I λg6=>?_;refine zL ?_
 try refine GA ?_
 refine mB (UU R.length [] λ_=>ap ak 0 0) (λk hk=>?_) (λw=>⟨λi _=>P5 _ _ _ _,λi j _ _ _ k hk=>?_⟩) ?_
 ·rcases hk with hk|⟨i,_,hk⟩
  cases hk
  rcases hk with hk|hk<;>cases hk
 ·rcases hk with hk|hk<;>cases hk
 conv=>arg 7;simp only[zA,zB,zC,zD,zE,zF,zG,zH,zI,cK,ret,id_eq]
 refine ea (ι:=Nat×(Nat->Value)) (λ(k,_)=>k<=256) (λ(k,_)=>[(1,aJ (aj ⟨g1,0,ak⟩)),(2,aJ (aj ⟨g2,0,ak⟩)),(5,aJ (aj ⟨g5,0,ak⟩)),(6,.map (aj g6)),(30,av az (k:Int))])
  (λ(k,vs)=>[aP g1 (iF (ap (aj ⟨b,off,ak⟩) R.length cr) (ap (aj ⟨bb,tB,ak⟩) tags.length ct)).cells 120,aP g2 (eY (ee 256 0) (ap ak 0 0) (ap ak 0 0)).toArray 31,fq 27 yr gN R.length vs,a_ 3 1 vT tags.length (tags.flatMap cU.ez),aP g5 (eY (ym R k) (ap (aj ⟨gN,0,ak⟩) R.length R.length) vT).toArray 31,fe Mm g6 (kw (nD R k)) (nD R k).length,UU R.length (nD R k) vs]) (λ(k,_)=>256-k) (0,λ_=>ap ak 0 0) (bH _) ?_
 rintro⟨k,vs⟩ hk;dsimp only at hk⊢
 by_cases c1:k<256
 ·try refine GA ?_
  refine aY I λg8=>?_;refine zL ?_;rw[Zm,<-aeK R k]
  repeat(first|refine GA ?_|refine gV (aC aK.ty I (aH (i:=0) I I)) ?_)
  refine ea (ι:=Nat) (λj=>j<=R.length) (λj=>[(1,aJ (aj ⟨g1,0,ak⟩)),(2,aJ (aj ⟨g2,0,ak⟩)),(5,aJ (aj ⟨g5,0,ak⟩)),(6,.map (aj g6)),(7,av az (k:Int)),(8,aJ (aj ⟨g8,0,ak⟩)),(30,av az (k:Int)),(34,ap (aj ⟨b,off,ak⟩) R.length cr),(35,av az (R.length:Int)),(36,av az (j:Int))])
   (λj=>[aP g1 (iF (ap (aj ⟨b,off,ak⟩) R.length cr) (ap (aj ⟨bb,tB,ak⟩) tags.length ct)).cells 120,aP g2 (eY (ee 256 0) (ap ak 0 0) (ap ak 0 0)).toArray 31,fq 27 yr gN R.length vs,a_ 3 1 vT tags.length (tags.flatMap cU.ez),aP g5 (eY (ym R k) (ap (aj ⟨gN,0,ak⟩) R.length R.length) vT).toArray 31,fe Mm g6 (kw (nD R k)) (nD R k).length,UU R.length (nD R k) vs,aP g8 (yj (Gc R k j)).toArray 193]) (λj=>R.length-j) 0 (bH _) ?_
  intro j hj
  by_cases c2:j<R.length
  ·have Qc:=λ(L:List cH)=>gO (W:=w) (L:=L) dz hr c2
   have hcell:(eO R[j]).toArray[0+k]?=aj (.int .i16 (fQ R j k)):=by rw[cV,jn,pO _ c1,vJ c2 c1]
   have tu:=Zl R k j J;generalize R[j]=r at*;generalize fQ R j k=x at*
   repeat(first|refine GA ?_|refine gV (aX bM.eq aK.ty I I c2) ?_|refine gV (a8 aK.ty I (dz r) (Qc _)) ?_)
   refine aY I λg10=>?_;refine zL ?_
   try refine GA ?_
   refine aW (i:=8) (cs':=(eO r).toArray) I I I (by rw[dZ,dz]) (by simpa using rG r) (by kernel_rfl) ?_;refine zL ?_
   repeat(first|refine GA ?_|refine gV (hJ bM.eq aK.ty I I c1) ?_|refine gV (aC aK.ty I (aH (i:=8) I hcell)) ?_|refine gV (hJ bM.eq aK.ty I I J) ?_)
   refine MN (i:=7) (b:=j) I I I J ?_;rw[tu];refine zL ?_
   try refine GA ?_
   refine dj [0,1,2,3,4,5,6,7] ?_;exact bY (j+1) J (by show R.length-(j+1)<R.length-j;omega)
  obtain rfl:j=R.length:=by omega
  rw[show Gc R k R.length=q6 R k from I];have lq:=ab8 ab6 c1;have hnk:=aeL (R:=R) c1;have Zx:=Sv R c1;have Qo:=ab9 R k c1;have Rf:=CL R k;have hzero:∀w:World,(zeroValue 3).run aB w= .ok (av az 0) w:=YT
  by_cases c2:q6 R k∈nD R k
  ·have hD:=Sr c2
   rw[if_pos c2]at hnk;generalize q6 R k=col at*
   repeat(first|refine GA ?_|refine gV (aO (i:=7) aK.ty I I (by rw[dZ,rI])) ?_|refine gV (uC (K:=Mm) (x:=col) bM.eq hzero (i:=5) I I I lq c2) ?_)
   have hwr:=Zs (k:=idx (nD R k) col) (by rw[<-hnk];exact Zx);rw[hnk]at Qo;clear hnk Zx ab6;generalize nD R k=D at*
   repeat(first|refine GA ?_|refine gV (iQ bM.eq bM.eq I hwr) ?_|refine gV (hJ bM.eq aK.ty I I c1) ?_)
   refine EZ (i:=4) (b:=k) I I I c1 ?_;rw[Qo];refine zL ?_
   try refine GA ?_
   refine dj [0,1,2,3,4,5,6] ?_;exact bY (k+1,vs) (by show k+1<=256;omega) (by show 256-(k+1)<256-k;omega) (hl:=by dsimp only;rw[hD];rfl)
  have hD:=Ss c2;rw[if_neg c2]at hnk;have hcg:=λi hi=>MJ R k i hi hle;have hwr:=Zs (k:=(nD R k).length) J;rw[hnk]at Qo;clear hnk Zx;generalize q6 R k=col at*;generalize hDk:nD R k=D at*
  repeat(first|refine GC ?_|refine gV (aO (i:=7) aK.ty I I (by rw[dZ,rI])) ?_|refine gV (uD (K:=Mm) (x:=col) bM.eq hzero (i:=5) I I I lq c2) ?_|refine gV (wx Mm bM.eq (i:=5) I I) ?_|refine GB ?_)
  refine AD (K:=Mm) (i:=5) (x:=col) bM.eq I I I I lq c2 J ?_;refine zL ?_
  repeat(first|refine GA ?_|refine gV (aC aK.ty I (aH (i:=0) I I)) ?_)
  refine uc [0,1,2,3,4,5,6] ?_;rw[<-ago R.length D col vs];refine ea (ι:=Nat×(Nat->Value)) (λ(j,_)=>j<=R.length) (λ(j,_)=>[(1,aJ (aj ⟨g1,0,ak⟩)),(2,aJ (aj ⟨g2,0,ak⟩)),(5,aJ (aj ⟨g5,0,ak⟩)),(6,.map (aj g6)),(7,av az (k:Int)),(11,av az (D.length:Int)),(30,av az (k:Int)),(61,ap (aj ⟨b,off,ak⟩) R.length cr),(62,av az (R.length:Int)),(63,av az (j:Int))])
   (λ(j,vs)=>[aP g1 (iF (ap (aj ⟨b,off,ak⟩) R.length cr) (ap (aj ⟨bb,tB,ak⟩) tags.length ct)).cells 120,aP g2 (eY (ee 256 0) (ap ak 0 0) (ap ak 0 0)).toArray 31,fq 27 yr gN R.length vs,a_ 3 1 vT tags.length (tags.flatMap cU.ez),aP g5 (eY (ym R k) (ap (aj ⟨gN,0,ak⟩) R.length R.length) vT).toArray 31,fe Mm g6 (kw (D++[col])) (D++[col]).length,nxM R.length D col j vs]) (λ(j,_)=>R.length-j) (0,vs) (bH _) ?_
  rintro⟨j,vs⟩ hj;dsimp only at hj⊢
  by_cases c3:j<R.length
  ·have Qc:=λ(L:List cH)=>gO (W:=w) (L:=L) dz hr c3
   have hcell:(eO R[j]).toArray[0+k]?=aj (.int .i16 (fQ R j k)):=by rw[cV,jn,pO _ c1,vJ c3 c1]
   have hx:=ab6 R[j] (cD c3) (fQ R j k) (by rw[vJ c3 c1,<-oc (h:=by simpa using c1)];exact cD _);have hcj:=hcg j c3;clear hcg;generalize R[j]=r at*;generalize fQ R j k=x at*
   repeat(first|refine GA ?_|refine gV (aX bM.eq aK.ty I I c3) ?_|refine gV (a8 aK.ty I (dz r) (Qc _)) ?_)
   refine aY I λg14=>?_;refine zL ?_
   try refine GA ?_
   refine aW (i:=7) (cs':=(eO r).toArray) I I I (by rw[dZ,dz]) (by simpa using rG r) (by kernel_rfl) ?_;refine zL ?_
   try refine GA ?_
   unfold nxM;refine OS (q:=6) j I c3 ?_;rw[if_neg (EO j)]
   conv=>arg 7;simp only[zA,zB,zC,zD,zE,zF,zG,zH,zI,cK,ret,id_eq]
   (repeat refine cC ?_)
   refine dN ([aP g1 (iF (ap (aj ⟨b,off,ak⟩) R.length cr) (ap (aj ⟨bb,tB,ak⟩) tags.length ct)).cells 120,aP g5 (eY (ym R k) (ap (aj ⟨gN,0,ak⟩) R.length R.length) vT).toArray 31,aP g14 (eO r).toArray 187]) (.calm 0 (.calm 1 (.calm 2 (.calm 3 (.calm 4 (.calm 5 (.calm 6 (.calm 8 (.calm 9 (.calm 10 (.calm 11 (.two 7 (.one 12 (.one 13 (.calm 14 (.one 15 (.done))))) 12 (.one 7 (.one 13 (.calm 14 (.one 15 (.done))))))))))))))))) (bW [0,4,7]) ?_
   repeat(first|refine GW ?_|(refine GN ?_;first|refine QW (aC aK.ty I (aH (i:=1) I (lF _ _ _))) ?_|refine QW (cz (j:=j) bM.eq aK.ty I I c3) ?_|refine QW (hJ bM.eq aK.ty I I c1) ?_|refine QW (aC aK.ty I (aH (i:=2) I hcell)) ?_|refine QW (iQ bM.eq bM.eq I (nB J J)) ?_))
   have hnj:CM (D++[col]) j=CM D j++[x]:=by unfold CM;rw[eV,JL,hcj]
   have hst:∀v2:Value,∀i,i<R.length->(λi=>if i=j then v2 else vs i) i=if i=j then v2 else vs i:=λ_ _ _=>rfl
   refine eG I I ?_ ?_
   ·refine dx (aC aK.ty I (fV (i:=2) I c3)) I I I (aM (bW [0,4,7]) ?_)
    refine aL I (fF I I I I I λg80=>aM (bW [0,4,7]) ?_);refine aL I (lu (i:=8) (q:=9) I I I I I I J J I λv2=>aM (bW [0,4,7]) ?_)
    repeat(first|refine GW ?_|(refine GN ?_;first|refine QW (cz (j:=j) bM.eq aK.ty I I c3) ?_))
    refine aL I (aU (i:=8) I λnU my=>iO (i:=2) (val:=yr) (off:=j) (v:=v2) (λi=>if i=j then v2 else vs i) aK.ty I I I nU my c3 (hst v2) (aM (bW [0,4,7]) ?_))
    try refine GW ?_
    try refine GA ?_
    refine RC j 6 8 [0,1,2,3,4,5] aiT I I I (λh=>h.2 I) (D':=λi=>i<R.length) (f':=λi=>a_ 3 1 ((λi=>if i=j then v2 else vs i) i) (if i<j+1 then D++[col]else D).length ((CM (if i<j+1 then D++[col]else D) i).flatMap cU.ez)) (λq hq=>(by by_cases e:q=j;exact .inr e;exact .inl ⟨hq,e⟩)) (λq hq=>?_) ?_;exact Zv hnj q;exact bY (j+1,λi=>if i=j then v2 else vs i) (by show j+1<=R.length;omega) (by show R.length-(j+1)<R.length-j;omega)
   refine fF I I I I I λg80=>aM (bW [0,4,7]) ?_;refine aL I (dx (aC aK.ty I (fV (i:=2) I c3)) I I I (aM (bW [0,4,7]) ?_));refine aL I (lu (i:=8) (q:=9) I I I I I I J J I λv2=>aM (bW [0,4,7]) ?_)
   repeat(first|refine GW ?_|(refine GN ?_;first|refine QW (cz (j:=j) bM.eq aK.ty I I c3) ?_))
   refine aL I (aU (i:=8) I λnU my=>iO (i:=2) (val:=yr) (off:=j) (v:=v2) (λi=>if i=j then v2 else vs i) aK.ty I I I nU my c3 (hst v2) (aM (bW [0,4,7]) ?_))
   try refine GW ?_
   try refine GA ?_
   refine RC j 6 8 [0,1,2,3,4,5] aiT I I I (λh=>h.2 I) (D':=λi=>i<R.length) (f':=λi=>a_ 3 1 ((λi=>if i=j then v2 else vs i) i) (if i<j+1 then D++[col]else D).length ((CM (if i<j+1 then D++[col]else D) i).flatMap cU.ez)) (λq hq=>(by by_cases e:q=j;exact .inr e;exact .inl ⟨hq,e⟩)) (λq hq=>?_) ?_;exact Zv hnj q;exact bY (j+1,λi=>if i=j then v2 else vs i) (by show j+1<=R.length;omega) (by show R.length-(j+1)<R.length-j;omega)
  obtain rfl:j=R.length:=by omega
  refine Ru (UU R.length (D++[col]) vs) (i:=6) I (AE (λ_ h=>h) (Sx _ _ _ _)) (DP (λ_ h=>h) (Sx _ _ _ _)) ?_
  conv=>arg 7;simp only[zA,zB,zC,zD,zE,zF,zG,zH,zI,cK,ret,id_eq]
  repeat(first|refine GA ?_|refine gV (iQ bM.eq bM.eq I hwr) ?_|refine gV (hJ bM.eq aK.ty I I c1) ?_)
  refine EZ (i:=4) (b:=k) I I I c1 ?_;rw[Qo];refine zL ?_
  try refine GA ?_
  exact bY (k+1,vs) (by show k+1<=256;omega) (by show 256-(k+1)<256-k;omega) (hl:=by dsimp only;rw[hD])
 ·obtain rfl:k=256:=by omega
  repeat(first|refine GA ?_|refine gV (aO (i:=4) aK.ty I I (kA _ _ _)) ?_)
  refine aU (i:=3) I λnU my=>?_;refine aW (i:=1) (cs':=(eY (ym R 256) (ap (aj ⟨gN,0,ak⟩) R.length R.length) vT).toArray) I I I (kA _ _ _) (yo _ I my) (kA _ _ _) ?_;refine zL ?_
  try refine GA ?_
  refine eE (i:=1) I I I (kA _ _ _) I λw hm=>?_;exact hm.meets (S:=Zw R tags) (gN,vs,vT) trivial [2,6,3] aiT I
end cI
namespace cI
open Go.RowKit cU dS dl gj gT aT eo ns cT
def pR(s:Sp):List Rx:=s.words.map (·.2)
def Sy(s:Sp)(r:Int×List Row×List Int):Prop:=
  (∃k:Int,k≠0/\Ho (pR s) (k,.zero)/\r=(k,[],[]))\/
  ∃ (es:List Re) (m:MS),pR s=es.map lx/\(∀e∈es,Fit e 1 0)/\0<es.length/\es.length<=20/\lz 0 .zero es=(0,m)/\Ho (pR s) (0,m)/\
    ((vO s≠0/\r=(vO s,[],[]))\/(vO s=0/\(sP m).2.2≠0/\r=((sP m).2.2,[],[]))\/
      (vO s=0/\(sP m).2.2=0/\mh (sP m).1 (sP m).2.1=0/\r=(0,zr (sP m).1 (sP m).2.1,zt (sP m).1 (sP m).2.1)))
theorem aeO(s:Sp):∃r,Sy s r:=by
  rcases Ua (pR s)with⟨k,h1,h2⟩|⟨es,m,h1,h2,h3,h4,h5,h6⟩
  exact⟨_,.inl ⟨k,h1,h2,rfl⟩⟩
  by_cases c1:vO s=0
  · by_cases c2:(sP m).2.2=0
    · refine⟨_,.inr ⟨es,m,h1,h2,h3,h4,h5,h6,.inr (.inr ⟨c1,c2,?_,rfl⟩)⟩⟩
      cases hd:uL m with
      |none=>rw[PX hd]at c2;cases c2
      | some y=>
        obtain⟨R,d⟩:=y;rw[EF hd];exact Y0 (CD h3 h4 h5) (AZ hd)
    exact⟨_,.inr ⟨es,m,h1,h2,h3,h4,h5,h6,.inr (.inl ⟨c1,c2,rfl⟩)⟩⟩
  exact⟨_,.inr ⟨es,m,h1,h2,h3,h4,h5,h6,.inl ⟨c1,rfl⟩⟩⟩
theorem Zy{F:Nat->Prop}{w:World}{b off:Nat}{l:List Wd}(h:∀i (h:i<l.length),∃cs,zq.is F w cs l[i]/\Rd w b (off+i*zq.c) cs){k:Nat}(hk:k<l.length):
 ∃base cap,Rd w b (off+k*7) (yA l[k].1 l[k].2.kind l[k].2.ud (.slice base l[k].2.kids.length cap))/\ku F w (mi l[k].2.kind l[k].2.ud (.slice base l[k].2.kids.length cap)) l[k].2:=by
 obtain⟨cs,⟨c1,c2,rfl,⟨rfl,h1⟩,h2⟩,h3⟩:=h k hk;have h2:ku F w c2 l[k].2:=h2;have h4:=h2.r;obtain⟨vk,e,-,hs⟩:=h4;obtain⟨base,cap,rfl,-⟩:=hs;have e2:c2=mi l[k].2.kind l[k].2.ud (.slice base l[k].2.kids.length cap):=by
  unfold qK at e;simp only[lV]at e
  simpa using congrArg Y6 e
 subst e2;exact⟨base,cap,h3,h2⟩
def CN(w0:World)(words:List Wd)(fX:List (List Value)):Prop:=∀i c,fX[i]?=aj c->∃h:i<words.length,xJ.is (p9 w0) w0 c words[i].2
theorem Qp{w0:World}{words:List Wd}{fX:List (List Value)}{c:List Value}(h:CN w0 words fX)(hk:fX.length<words.length)(hc:xJ.is (p9 w0) w0 c words[fX.length].2):CN w0 words (fX++[c]):=λi x hx=>by
 rcases Nat.lt_trichotomy i fX.length with h1|h1|h1
 rw[eR h1]at hx;exact h i x hx
 ·subst h1
  rw[Aa]at hx
  cases hx
  exact⟨hk,hc⟩
 rw[kG (by rw[bI,lW];omega)]at hx;cases hx
theorem HR{w0 w:World}(hg:Gr w0 w){words:List Wd}{fX:List (List Value)}{v:Value}(hl:fX.length=words.length)(h:CN w0 words fX)(hr:(a_ 80 6 v words.length fX.flatten).holds w):jW xJ (p9 w) w v (words.map (·.2)):=by
 have he:(ef xJ (p9 w0) fX (words.map (·.2))).holds w:=⟨⟨by rw[hl,dF],λi h1 h2=>by
  obtain⟨h3,h4⟩:=h i _ (bD h2);rw[pg];exact xJ.stay h4 λk hk=>hg.block k hk⟩,λk hk=>jp hk hg.size⟩
 have hr:(a_ 80 xJ.c v (words.map (·.2)).length fX.flatten).holds w:=by rw[dF];exact hr
 exact(xG hr he aiT).mono λk hk=>xH hr he k hk
def MO(gp:Nat)(s:Sp)(R:List Row)(T:List Int):Spec (Value×Value×(Nat->Prop)×Nat×(Nat->Value)×Value):=
 ⟨λx=>x.1.oneCell'=aD/\x.2.1.oneCell'=aD/\x.2.2.2.2.2.oneCell'=aD,λ_=>av az 0,λx=>[aP gp (jd x.1 (eY (ym R 256) (ap (aj ⟨x.2.2.2.1,0,ak⟩) R.length R.length) x.2.2.2.2.2) (fK (c_ s).aR (c_ s).bC x.2.1 0 (ap ak 0 0) (ap ak 0 0) (ap ak 0 0))).toArray 39,a_ 3 1 x.1 s.words.length ((JS s.words).1.map (av .i64)),n_ x.2.2.1 x.2.1 (c_ s).aF,
  fq 27 yr x.2.2.2.1 R.length x.2.2.2.2.1,UU R.length (nD R 256) x.2.2.2.2.1,a_ 3 1 x.2.2.2.2.2 T.length (T.flatMap cU.ez)]⟩
def HT(gp:Nat)(s:Sp)(r:Int×List Row×List Int):Spec (Value×Value×(Nat->Prop)×Nat×(Nat->Value)×Value):=
 if r.1=0 then MO gp s r.2.1 r.2.2 else⟨λ_=>True,λ_=>av az r.1,λ_=>[]⟩
set_option maxRecDepth 100000 in
theorem MP(vw vr:Value)(s:Sp)(r:Int×List Row×List Int)(hx:Sy s r)(gp:Nat)(w0:World)(hv:UK (p9 w0) w0 (aQ #[vw,vr]) s)(hlw:s.words.length<=60)(NI:s.rules.length<=60)(Hw:∀r∈s.rules,r.2.length<=8796093021952)(w:World)(B:bO)(ho:pZ w0 B)(hm:Mem B [aP gp FP.toArray 39] w):
 Calls aB 19 #[aQ #[vw,vr],aJ (aj ⟨gp,0,ak⟩)] w (cY (HT gp s r) B):=by
 have Zk:=λw' B' K3 rq=>Gf vw vr s gp w0 hv hlw NI Hw w' B' K3 rq;obtain⟨JU,B8,hvv,hw,-⟩:=hv;obtain⟨rfl,rfl⟩:vw=JU/\vr=B8:=by simpa using hvv
 clear hvv Hw;obtain⟨bw,cw,rfl,-,-,Ql⟩:=hw;have FM:pR s=s.words.map (·.2):=rfl
 refine dm hm (args:=[aQ #[ap bw s.words.length cw,vr],aJ (aj ⟨gp,0,ak⟩)]) (n:=60) Tryz.func19 I I I ?_;refine cC (bz (bR I I I λg2=>?_));refine zL ?_
 repeat(first|refine GA ?_|refine gV (aC (v:=ap bw s.words.length cw) aK.ty I (aH (i:=1) I I)) ?_)
 refine jf 80 6 ?_;refine ea (ι:=Nat×List (List Value)×Value) (λ(k,fX,vl)=>k<=s.words.length/\fX.length=k/\CN w0 s.words fX)
  (λ(k,_,vl)=>[(1,aJ (aj ⟨gp,0,ak⟩)),(2,aJ (aj ⟨g2,0,ak⟩)),(5,vl),(13,ap bw s.words.length cw),(14,av az s.words.length),(15,av az (k:Int))])
  (λ(k,fX,vl)=>[aP gp FP.toArray 39,aP g2 #[ap bw s.words.length cw,vr] 25,a_ 80 6 vl k fX.flatten])
  (λ(k,_,_)=>s.words.length-k) (0,[],ap ak 0 0) ⟨bH _,rfl,λi c h=>by cases h⟩ ?_
 clear hm;rintro⟨k,fX,vl⟩ ⟨i1,i2,i3⟩;dsimp only at i1 i2 i3⊢
 by_cases c1:k<s.words.length
 ·obtain⟨b,off,rfl,_,hr⟩:=Ql J
  obtain⟨bk,ck,q1,q2⟩:=Zy hr c1;have du:∀(L:List cH) (j:Nat) (u:Value),(yA s.words[k].1 s.words[k].2.kind s.words[k].2.ud (.slice bk s.words[k].2.kids.length ck))[j]?=aj u->At B L ⟨b,off+k*7+j,ak⟩ u:=λL j u hj=>iC ho (q1 j u hj);clear hr Ql q1 hx Zk;subst i2;have hsn:=Qp i3 c1 q2;clear q2;generalize s.words[fX.length].1=nm at*;generalize s.words[fX.length].2.kind=rk at*;generalize s.words[fX.length].2.ud=rc at*;generalize s.words[fX.length].2.kids.length=rn at*
  repeat(first|refine GA ?_|refine gV (aX bM.eq aK.ty I I c1) ?_|refine gV (a8 (cs:=yA nm rk rc (ap bk rn ck)) aK.ty I I (du _)) ?_)
  clear du;refine aY I λg7=>?_;refine zL ?_;refine gC 3 (cs':=(yA nm rk rc (ap bk rn ck)).toArray) ?_;refine zL ?_
  repeat(first|refine GA ?_|refine gV (a8 (cs:=mi rk rc (ap bk rn ck)) aK.ty I I (λj v hj=>aH (i:=3) I (P' hj))) ?_)
  refine ju (i:=2) I I I I I I I (λz h=>by cases h;rfl) J J I λz RV=>?_;refine zL ?_
  try refine GA ?_
  refine dj [0,1,2] ?_;exact bY (fX.length+1,fX++[mi rk rc (ap bk rn ck)],RV) ⟨by omega,by rw[bI];rfl,hsn⟩ (by show s.words.length-(fX.length+1)<s.words.length-fX.length;omega) (hl:=by dsimp only;rw[A1];simp)
 ·obtain rfl:k=s.words.length:=by omega
  clear Ql;rcases hx with⟨k,hk,hR,rfl⟩|⟨es,m,hes,Dh,h0,h20,hlp,hR,hx⟩
  ·have NL:=λw' (ry:jW xJ (p9 w') w' vl (pR s))=>Ec vl (pR s) (k,.zero) w' ry hR
   rw[show HT gp s (k,[],[])=⟨λ_=>True,λ_=>av az k,λ_=>[]⟩from if_neg hk]
   try refine GA ?_
   refine aV (hZ aI.en I I) (λw hm=>NL _ (HR (ho.mem hm) i2 i3 (hm.get (i:=2) I))) I I I ?_;rintro⟨tH,tI,vf1,gv,tJ,ve1,nP,F1⟩ km
   conv=>arg 8;simp only[zJ,cK,ret,id_eq,qU,Pb,Pc]
   conv=>arg 7;simp only[qU,Pc]
   refine aU (i:=3) I λ_ a1=>aU (i:=4) I λ_ a2=>aU (i:=5) I λ_ a3=>aU (i:=6) I λ_ a4=>aU (i:=8) I λ_ a5=>aU (i:=9) I λ_ a6=>?_
   try refine GA ?_
   refine aY I λg4=>?_;refine zL ?_;refine aW (i:=10) (cs':=#[tH,tI,vf1,gv,tJ,ve1]) I I I I (by simp only[cZ,db,a1,a2,a3,a4,a5,a6];rfl) I ?_;refine zL ?_
   repeat(first|refine GC ?_|refine gV (dr (b:=aD) I I (decide_eq_true hk)) ?_|refine GB ?_)
   exact cJ I I λw hm=>hm.bV (S:=⟨λ_=>True,λ_=>av az k,λ_=>[]⟩) (vl,vl,λ_=>False,0,λ_=>vl,vl) trivial [] aiT I
  have NL:=λw' (ry:jW xJ (p9 w') w' vl (pR s))=>Ec vl (pR s) (0,m) w' ry hR;have lq:=CD h0 h20 hlp;have hdm:=λv' w' h=>F7 v' m w' h lq;unfold Se at hdm
  try refine GA ?_
  refine aV (hZ aI.en I I) (λw hm=>NL _ (HR (ho.mem hm) i2 i3 (hm.get (i:=2) I))) I I I ?_;rintro⟨tH,tI,vf1,gv,tJ,ve1,nP,F1⟩ km;have km:nP.length=m.ps.follow.length:=km
  conv=>arg 8;simp only[zJ,cK,ret,id_eq,qU,Pb,Pc]
  conv=>arg 7;simp only[qU,Pc]
  refine aU (i:=3) I λ_ a1=>aU (i:=4) I λ_ a2=>aU (i:=5) I λ_ a3=>aU (i:=6) I λ_ a4=>aU (i:=8) I λ_ a5=>aU (i:=9) I λ_ a6=>?_
  try refine GA ?_
  refine aY I λg4=>?_;refine zL ?_;refine aW (i:=10) (cs':=#[tH,tI,vf1,gv,tJ,ve1]) I I I I (by simp only[cZ,db,a1,a2,a3,a4,a5,a6];rfl) I ?_;refine zL ?_;clear a1 a2 a3 a4 a5 a6
  repeat(first|refine GC ?_|refine gV (dr (b:=aE) I I (decide_eq_false (by simp))) ?_|refine gV (aO (i:=1) aK.ty I I I) ?_|refine GB ?_)
  refine bm [0] [3,4,5,6,7,8,9,10] aiT I I (fO aI.en I I I) (λw' rq hb=>Zk w' _ (pZ.on ho rq (λo ho=>by simp at ho;subst ho;simp)) hb) I I I ?_;rintro⟨vo,vp,F⟩ ⟨k1,k2⟩
  conv=>arg 8;simp only[zJ,cK,ret,id_eq,JT,EW]
  conv=>arg 7;simp only[JT,EW]
  have nK:∀e:Int,e≠0->HT gp s (e,[],[])=⟨λ_=>True,λ_=>av az e,λ_=>[]⟩:=λe he=>if_neg he;have yT:∀R T,HT gp s (0,R,T)=MO gp s R T:=λR T=>if_pos I
  by_cases d1:vO s≠0
  ·obtain rfl:r=(vO s,[],[]):=by
    rcases hx with⟨-,h⟩|⟨h,-⟩|⟨h,-⟩
    exact h;exact absurd h d1;exact absurd h d1
   rw[nK _ d1]
   repeat(first|refine GC ?_|refine gV (dr (b:=aD) I I (decide_eq_true d1)) ?_|refine GB ?_)
   exact cJ I I λw hm=>hm.bV (S:=⟨λ_=>True,λ_=>av az (vO s),λ_=>[]⟩) (vl,vl,λ_=>False,0,λ_=>vl,vl) trivial [] aiT I
  have d1:vO s=0:=sQ d1;rw[d1];have hx:=hx.resolve_left (λh=>h.1 d1);generalize sP m=D at*;obtain⟨R,T,e⟩:=D;dsimp only at hdm hx⊢
  repeat(first|refine GC ?_|refine gV (dr (b:=aE) I I (decide_eq_false (by simp))) ?_|refine gV (aO (i:=7) aK.ty I I I) ?_|refine GB ?_)
  refine aV (hZ aI.en I I) (λw hm=>hdm _ w (hm.ahv (x:=⟨tH,tI,vf1,gv,tJ,ve1,nP,F1⟩) 0 km I (by simp))) I I I ?_;rintro⟨vrr,vtt⟩ _
  conv=>arg 8;simp only[zJ,cK,ret,id_eq,iF]
  conv=>arg 7;simp only[iF]
  refine aU (i:=11) I λ_ a1=>aU (i:=12) I λ_ a2=>?_
  try refine GA ?_
  refine aY I λg6=>?_;refine zL ?_;refine aW (i:=13) (cs':=#[vrr,vtt]) I I I I (by simp only[cZ,db,a1,a2];rfl) I ?_;refine zL ?_;clear a1 a2
  by_cases d2:e≠0
  ·obtain rfl:r=(e,[],[]):=by
    rcases hx with⟨-,-,h⟩|⟨-,h,-⟩
    exact h;exact absurd h d2
   rw[nK _ d2]
   repeat(first|refine GC ?_|refine gV (dr (b:=aD) I I (decide_eq_true d2)) ?_|refine GB ?_)
   exact cJ I I λw hm=>hm.bV (S:=⟨λ_=>True,λ_=>av az e,λ_=>[]⟩) (vl,vl,λ_=>False,0,λ_=>vl,vl) trivial [] aiT I
  have d2:e=0:=sQ d2;subst d2;obtain⟨nU,rfl⟩:mh R T=0/\r=(0,zr R T,zt R T):=by
   rcases hx with⟨-,h,-⟩|⟨-,-,h,h2⟩
   exact absurd I h;exact⟨h,h2⟩
  rw[yT];have aeP:=λvr vt w' h=>Ga vr vt R T w' h;have Rr:=Sn nU;unfold ab5 at aeP;rw[nU]at aeP;generalize zr R T=MR at*;generalize zt R T=MT at*;have rb:=λvr vt w' h=>Qn vr vt MR MT w' h Rr;unfold Zw at rb
  repeat(first|refine GC ?_|refine gV (dr (b:=aE) I I (decide_eq_false (by simp))) ?_|refine gV (aO (i:=13) aK.ty I I I) ?_|refine GB ?_)
  refine aV (hZ aI.en I I) (λw hm=>aeP _ _ w (hm.agm (i:=11) (j:=12) I (by rw[rz];rfl) nU)) I I I ?_;rintro⟨mr,mt⟩ _;refine zL ?_;dsimp only;refine aU (i:=14) I λ_ d1=>aU (i:=15) I λ_ d2=>?_
  try refine GA ?_
  refine aW (i:=13) (cs':=(iF mr mt).cells) I I I I (by show([mr,mt].all eZ)=aD;simp[d1,d2]) I ?_;refine zL ?_
  repeat(first|refine GA ?_|refine gV (aO (i:=13) aK.ty I I I) ?_)
  refine aV (hZ aI.en I I) (λw hm=>rb _ _ w (hm.agm (i:=14) (j:=15) I I Rr)) I I I ?_;rintro⟨gP,Zz,vTP⟩ _;refine zL ?_;dsimp only;refine aU (i:=18) I λ_ d3=>?_
  try refine GA ?_
  refine Qd (i:=8) (pk':=eY (ym MR 256) (ap (aj ⟨gP,0,ak⟩) MR.length MR.length) vTP) I I I (by have:=yo (ym MR 256) (vn:=ap (aj ⟨gP,0,ak⟩) MR.length MR.length) (vt:=vTP) I d3;simpa using this) I iU (fN _ _ _) ?_;refine zL ?_
  try refine GA ?_
  exact cJ I I λw hm=>hm.bV (S:=MO gp s MR MT) (vo,vp,F,gP,Zz,vTP) ⟨k1,k2,d3⟩ [8,9,10,16,17,18] aiT I
end cI
namespace cI
open Go.RowKit cU dS dl gj gT
theorem Qq(r:Rl)(l:List Rl)(of:List Bs):qZ (r::l) of=if sS r.1=aE then 1 else if r.1∈of then 11 else qZ l of:=rfl
theorem UW(of hd:List Bs)(x:Bs)(l:List Bs):A4 of hd (x::l)=((decide (x∈of)||decide (x∈hd))&&A4 of hd l):=rfl
theorem MQ(of hd:List Bs)(r:Rl)(l:List Rl):rK of hd (r::l)=(A4 of hd r.2&&rK of hd l):=rfl
theorem Gg(v:Value)(s:Sp)(w:World)(h:UK (p9 w) w v s):Calls aB 18 #[v] w (cB (ret (av az (pP s))) w):=by
 obtain⟨vw,vr,rfl,hw,hr⟩:=h;have hnm:=λs w=>BI s w;have hwd:=λgm w' B ho hl hm=>MD vw vr s.words gm w hw hl w' B ho hm;obtain⟨bw,cw,rfl,-⟩:=hw;obtain⟨br,cr,rfl,hcr,hmr,hrr⟩:=hr;unfold maxLen at hmr;have hC:pP s=if 60<s.words.length\/60<s.words.length+s.rules.length then 2 else if(lm s.words []).1≠0 then(lm s.words []).1 else if qZ s.rules (lm s.words []).2≠0 then qZ s.rules (lm s.words []).2 else if rK (lm s.words []).2 (s.rules.map (·.1)) s.rules=aD then 0 else 11:=rfl
 obtain⟨words,rules⟩:=s;dsimp only at*;refine enter (args:=[aQ #[ap bw words.length cw,ap br rules.length cr]]) (n:=99) Tryz.func18 I I I ?_;refine cC (bz (bR I I I λg1=>?_));refine zL ?_
 by_cases c0:60<words.length
 ·rw[if_pos (.inl c0)]at hC
  rw[hC]
  repeat(first|refine GA ?_|refine gV (aC (v:=ap bw words.length cw) aK.ty I (aH (i:=0) I I)) ?_)
  exact dD I I I
 by_cases c1:60<words.length+rules.length
 ·rw[if_pos (.inr c1)]at hC
  rw[hC]
  repeat(first|refine GA ?_|refine gV (aC (v:=ap bw words.length cw) aK.ty I (aH (i:=0) I I)) ?_|refine gV (aC (v:=ap br rules.length cr) aK.ty I (aH (i:=0) I I)) ?_)
  exact dD I I I
 rw[if_neg J]at hC;rw[hC]
 repeat(first|refine GA ?_|refine gV (aC (v:=ap bw words.length cw) aK.ty I (aH (i:=0) I I)) ?_|refine gV (aC (v:=ap br rules.length cr) aK.ty I (aH (i:=0) I I)) ?_)
 refine xI ib I λg3=>?_;refine zL ?_;refine xI ib I λg4=>?_;refine zL ?_
 repeat(first|refine GA ?_|refine gV (aO (i:=0) aK.ty I I I) ?_)
 refine bm [1] [0,2] aiT I I (fO aI.en I I I) (λw' rq hb=>hwd g3 w' _ (pZ.on (pZ.self w) rq (λo ho=>by simp at ho;subst ho;simp)) J hb) I I I ?_;rintro⟨m,n⟩ ⟨k1,k2⟩
 conv=>arg 8;simp only[zJ,cK,ret,id_eq,sT]
 conv=>arg 7;simp only[sT]
 generalize lm words []=W at*;obtain⟨e,of⟩:=W;dsimp only at k1 k2⊢
 by_cases e0:e=0
 ·subst e0
  rw[if_neg (by simp)]
  repeat(first|refine GA ?_|refine gV (aC (v:=ap br rules.length cr) aK.ty I (aH (i:=0) I I)) ?_)
  generalize ja:qZ rules of=fin;refine ea (ι:=Nat×(Bs->Option Value)×Nat) (λ(k,m2,n2)=>k<=rules.length/\n2<=k/\KeysOf m2 ((rules.take k).map (·.1))/\qZ (rules.drop k) of=fin) (λ(k,_,_)=>[(1,aJ (aj ⟨g1,0,ak⟩)),(3,.map (aj g3)),(4,.map (aj g4)),(41,ap br rules.length cr),(42,av az rules.length),(43,av az (k:Int))])
   (λ(_,m2,n2)=>[aP g1 #[ap bw words.length cw,ap br rules.length cr] 25,fe ib g4 m2 n2,fe ib g3 m n]) (λ(k,_)=>rules.length-k) (0,λ_=>ak,0) ⟨bH _,bx _,λy=>rfl,ja⟩ ?_
  rintro⟨k,m2,n2⟩ ⟨i1,i2,i3,i4⟩;dsimp only at i1 i2 i3 i4⊢
  by_cases c2:k<rules.length
  ·obtain⟨b,off,rfl,_,eL⟩:=hrr J
   obtain⟨bk,ck,q1,-,q3⟩:=CK eL c2;rw[eN c2,Qq]at i4;have qf:(rules.take (k+1)).map (·.1)=(rules.take k).map (·.1)++[rules[k].1]:=by rw[iv c2,eV];rfl
   have du:∀(L:List cH) (j:Nat) (u:Value),([str rules[k].1,.slice bk rules[k].2.length ck]:List Value)[j]?=aj u->At w L ⟨b,off+k*2+j,ak⟩ u:=λL j u hj=>kh (q1 j u hj);clear eL q1;generalize rules[k]=r at*;obtain⟨nm,bd⟩:=r;dsimp only at*;generalize bd.length=bn at*
   repeat(first|refine GA ?_|refine gV (aX bM.eq aK.ty I I c2) ?_|refine gV (a8 (cs:=[str nm,ap bk bn ck]) aK.ty I I (du _)) ?_)
   clear du;refine aY I λg7=>?_;refine zL ?_
   try refine GA ?_
   refine gC 3 (cs':=#[str nm,ap bk bn ck]) ?_;refine zL ?_
   repeat(first|refine GA ?_|refine gV (aC (v:=str nm) aK.ty I (aH (i:=3) I I)) ?_)
   refine aV (hZ aI.en I I) (λw hm=>hnm nm w) I I I ?_;intro _ _;refine zL ?_
   cases hb:sS nm with
   | false=>
    rw[if_pos hb]at i4;subst i4;rw[if_pos aiT]
    try refine GA ?_
    exact dD I I I
   | true=>
    rw[if_neg (by rw[hb];decide)]at i4
    cases BC:m nm with
    | some u=>
     rw[if_pos (rL k1 BC)]at i4;subst i4;rw[if_pos aiT]
     repeat(first|refine GA ?_|refine gV (aC (v:=str nm) aK.ty I (aH (i:=3) I I)) ?_|refine gV (jH ib (x:=nm) bM.eq gU (i:=2) I I I q3 BC) ?_)
     exact dD I I I
    | none=>
     rw[if_neg (rM k1 BC)]at i4
     repeat(first|refine GA ?_|refine gV (aC (v:=str nm) aK.ty I (aH (i:=3) I I)) ?_|refine gV (jI ib (x:=nm) bM.eq gU (i:=2) I I I q3 BC) ?_)
     refine l_ (i:=1) (x:=nm) (v:=av az (k:Int)) ib bM.eq I I I I q3 J ?_;refine zL ?_
     try refine GA ?_
     refine dj [0,1,2] ?_;exact iB (k+1,_,_) ⟨by omega,by show(if(m2 nm).isSome then n2 else n2+1)<=k+1;split<;>omega,by show KeysOf _ ((rules.take (k+1)).map (·.1));rw[qf];exact MC i3,i4⟩ (by show rules.length-(k+1)<rules.length-k;omega) (by repeat' (first|exact bZ|refine bX I ?_)) I
  obtain rfl:k=rules.length:=by omega
  rw[EM]at i4;subst i4;rw[mH]at i3;rw[if_neg (by simp[qZ])];generalize rules.map (·.1)=hd at*
  repeat(first|refine GA ?_|refine gV (aC (v:=ap br rules.length cr) aK.ty I (aH (i:=0) I I)) ?_)
  refine uc [1,2] ?_;generalize ja:rK of hd rules=fin;refine ea (ι:=Nat) (λk=>k<=rules.length/\rK of hd (rules.drop k)=fin) (λk=>[(3,.map (aj g3)),(4,.map (aj g4)),(66,ap br rules.length cr),(67,av az rules.length),(68,av az (k:Int))])
   (λ_=>[fe ib g4 m2 n2,fe ib g3 m n]) (λk=>rules.length-k) 0 ⟨bH _,ja⟩ ?_
  rintro k ⟨i5,i6⟩
  by_cases c2:k<rules.length
  ·obtain⟨b,off,rfl,_,eL⟩:=hrr J
   obtain⟨bk,ck,q1,q2,q3⟩:=CK eL c2;rw[eN c2,MQ]at i6;have du:∀(L:List cH) (j:Nat) (u:Value),([str rules[k].1,.slice bk rules[k].2.length ck]:List Value)[j]?=aj u->At w L ⟨b,off+k*2+j,ak⟩ u:=λL j u hj=>kh (q1 j u hj);have ry:=q2.flat aiT;have lq:=q2.okp;clear eL q1 q2;generalize rules[k]=r at*;obtain⟨nm,bd⟩:=r;dsimp only at*;obtain⟨b2,Vx,lC,wt,Wu,EX⟩:=ry
   cases lC
   unfold maxLen at Wu
   repeat(first|refine GA ?_|refine gV (aX bM.eq aK.ty I I c2) ?_|refine gV (a8 (cs:=[str nm,ap bk bd.length ck]) aK.ty I I (du _)) ?_)
   clear du;refine aY I λg11=>?_;refine zL ?_;refine gC 2 (cs':=#[str nm,ap bk bd.length ck]) ?_;refine zL ?_
   repeat(first|refine GA ?_|refine gV (aC (v:=ap bk bd.length ck) aK.ty I (aH (i:=2) I I)) ?_)
   refine uc [0,1] ?_;generalize agp:A4 of hd bd=agq at i6;refine ea (ι:=Nat) (λi=>i<=bd.length/\A4 of hd (bd.drop i)=agq) (λi=>[(3,.map (aj g3)),(4,.map (aj g4)),(66,ap (aj ⟨b,off,ak⟩) rules.length cr),(67,av az rules.length),(68,av az (k:Int)),(73,ap bk bd.length ck),(74,av az bd.length),(75,av az (i:Int))])
    (λ_=>[fe ib g4 m2 n2,fe ib g3 m n]) (λi=>bd.length-i) 0 ⟨bH _,agp⟩ ?_
   rintro i ⟨i7,i8⟩
   by_cases c3:i<bd.length
   ·obtain⟨b3,ab_,rfl,DK⟩:=EX J
    have du:=gO (L:=([fe ib g4 m2 n2,fe ib g3 m n]:List cH)) Sj DK c3 0 _ I;rw[eN c3,UW]at i8;have hlen:=lq bd[i] (cD c3);clear DK lq EX;generalize bd[i]=x at*
    repeat(first|refine GA ?_|refine gV (aX bM.eq aK.ty I I c3) ?_|refine gV (aC (v:=str x) aK.ty I du) ?_)
    cases BC:m x with
    | some u=>
     rw[decide_eq_true (rL k1 BC),Bool.true_or,vC]at i8
     cases Qr:m2 x with
     | some u2=>
      repeat(first|refine GA ?_|refine gV (jH ib (x:=x) bM.eq gU (i:=1) I I I hlen BC) ?_|refine gV (jH ib (x:=x) bM.eq gU (i:=0) I I I hlen Qr) ?_)
      exact bY (i+1) ⟨by omega,i8⟩ (by show bd.length-(i+1)<bd.length-i;omega)
     | none=>
      repeat(first|refine GA ?_|refine gV (jH ib (x:=x) bM.eq gU (i:=1) I I I hlen BC) ?_|refine gV (jI ib (x:=x) bM.eq gU (i:=0) I I I hlen Qr) ?_)
      exact bY (i+1) ⟨by omega,i8⟩ (by show bd.length-(i+1)<bd.length-i;omega)
    | none=>
     cases Qr:m2 x with
     | some u2=>
      rw[decide_eq_true (rL i3 Qr),Bool.or_true,vC]at i8
      repeat(first|refine GA ?_|refine gV (jI ib (x:=x) bM.eq gU (i:=1) I I I hlen BC) ?_|refine gV (jH ib (x:=x) bM.eq gU (i:=0) I I I hlen Qr) ?_)
      exact bY (i+1) ⟨by omega,i8⟩ (by show bd.length-(i+1)<bd.length-i;omega)
     | none=>
      rw[decide_eq_false (rM k1 BC),decide_eq_false (rM i3 Qr),Bool.or_false,JK]at i8;subst i8;rw[JK]at i6;rw[<-i6,if_neg aiT]
      repeat(first|refine GA ?_|refine gV (jI ib (x:=x) bM.eq gU (i:=1) I I I hlen BC) ?_|refine gV (jI ib (x:=x) bM.eq gU (i:=0) I I I hlen Qr) ?_)
      exact dD I I I
   obtain rfl:i=bd.length:=by omega
   rw[EM]at i8;have i8:aD=agq:=i8;rw[<-i8,vC]at i6
   try refine GA ?_
   exact bY (k+1) ⟨by omega,i6⟩ (by show rules.length-(k+1)<rules.length-k;omega)
  obtain rfl:k=rules.length:=by omega
  rw[EM]at i6;have i6:aD=fin:=i6;rw[<-i6,if_pos I]
  try refine GA ?_
  exact dD I I I
 rw[if_pos e0]
 repeat(first|refine GC ?_|refine gV (dr (b:=aD) I I (decide_eq_true e0)) ?_|refine GB ?_)
 exact dD I I I
end cI
namespace cI
open Go.RowKit cU dS aT fM
def agr(n:Nat)(l:List aT.Prod):Prop:=∀p∈l,0<=p.1/\p.1<(n:Int)/\∀x∈p.2,cU.d_ x.2
end cI
namespace cI
open Go.RowKit cU dS aT fM
theorem ZA{g:eb}{n:Nat}(h:b_ g=0)(hn:g.bC=n):agr n g.aF/\XX n g.aF:=by
 obtain⟨a1,a2,a3,a4,a5,a6⟩:=cP h;refine⟨λp hp=>?_,λp hp x hx h2=>?_⟩
 ·obtain⟨b1,b2,b3,b4⟩:=a6 p hp
  refine⟨b2,by omega,λx hx=>?_⟩;have:=b4 x hx;unfold right at this;split at this;simp at this;exact⟨by omega,by omega⟩;split at this;simp at this;exact⟨by omega,by omega⟩;simp at this
 have:=(a6 p hp).2.2.2 x hx;unfold right at this;rw[if_neg J,if_pos h2]at this;simp at this;omega
end cI
namespace cI
open Go.RowKit cU dS aT dP fM dL xZ B5
attribute [local irreducible] Op.shift Go.bits in
theorem UX(t:Nat)(n:Int)(vp:Value)(col:Nat)(w:World)(ht:t<=30)(hc:col<=t)(hv:∃b m c,vp=ap b m c):
 Calls aB 46 #[dJ (t:Int) n vp,av az (col:Int)] w (cB (ret (gK (O3 t col))) w):=by
 obtain⟨b,m,c,rfl⟩:=hv;have Xt:=λw=>abp (P:=aB) col J w;unfold O3;refine enter (args:=[dJ (t:Int) n (ap b m c),av az (col:Int)]) (n:=11) Tryz.func46 I I I ?_;refine cC (bz (bR I I I λg2=>?_))
 by_cases e:col=t
 ·rw[if_pos e]
  repeat(first|refine GA ?_|refine gV (aC aK.ty I (aH (i:=0) I I)) ?_)
  exact eM
 ·rw[if_neg e]
  repeat(first|refine GA ?_|refine gV (aC aK.ty I (aH (i:=0) I I)) ?_|refine gV (Dd I I Xt) ?_)
  exact eM
def clC(x:Cl):List Value:=[av az x.1,av az x.2.1,av az x.2.2.1,av az x.2.2.2]
theorem ZB(a b c d:Int)(w:World):(dh 137 #[(0,av az a),(1,av az b),(2,av az c),(3,av az d)]).run aB w= .ok (aQ (clC (a,b,c,d)).toArray) w:=by
 unfold clC;go_simp
abbrev vU(v:Value):Value:=v
def aeQ(n:Int):Value:=av az n
def Cf(T n c j:Nat):Nat:=if j<n then T+1 else if j=n then c else 0
def mY(l:List aT.Prod)(may:Nat->Nat)(T:Nat)(vs:Nat->Value)(n c:Nat)(j:Nat):cH:=a_ 3 1 (vs j) (Cf T n c j) ((lY (Cf T n c j) (B5.rowAt l may T j)).map aeQ)
def ZC(N T:Nat)(l:List aT.Prod)(may:Nat->Nat):Spec (Nat×(Nat->Value)×Value):=
 ⟨λ_=>True,λx=> .tuple #[ap (aj ⟨x.1,0,ak⟩) N N,x.2.2,av az 0],λx=>[fq 27 vU x.1 N x.2.1,ji (λj=>j<N) (mY l may T x.2.1 N 0),a_ 137 4 x.2.2 (mE l may T N).length ((mE l may T N).flatMap clC)]⟩
def A6(n:Nat)(l:List aT.Prod)(i:Nat):Nat:=fU (wQ n l).E (NO n l) (dc l (i:Int)).2 ((NP n l).getD (dc l (i:Int)).1.toNat 0)
section
variable{l:List aT.Prod}{may:Nat->Nat}{T:Nat}
theorem E0(n col:Nat):∀(k:Nat) (out:List Cl),(x7 l may T n col k out).length<=out.length+k
 |0,out=>by rw[x7];omega
 | k +1,out=>by
  have:=E0 n col k out;rw[x7];split
  ·split
   omega;rw[bI];simp;omega
  omega
theorem E3(n:Nat):∀(c:Nat) (out:List Cl),(B6 l may T n c out).length<=out.length+c*l.length
 |0,out=>by rw[B6];omega
 |c+1,out=>by
  have h1:=E3 n c out;have h2:=E0 (l:=l) (may:=may) (T:=T) n c l.length (B6 l may T n c out);rw[B6,k7];omega
theorem MU:∀(N:Nat),(mE l may T N).length<=N*((T+1)*l.length)
 |0=>by rw[mE];simp
 |N+1=>by
  have h1:=MU N;have h2:=E3 (l:=l) (may:=may) (T:=T) N (T+1) (mE l may T N);rw[mE,k7];omega
end
theorem ZD{g:eb}{n:Nat}(iW:b_ g=0)(hn:g.bC=n):zV n (NP n g.aF):=by
 obtain⟨_,_,a3,_⟩:=cP iW;have hf:=y6 iW hn;have hF:=(Jq iW hn).2;have wP:=X2 (E:=(wQ n g.aF).E) hF hf;obtain⟨s',h1,h2,h3⟩:=y0 wP _ ((da n 0).set 0 9223372036854775808) ⟨by simp,λx hx=>by
  rcases List.mem_or_eq_of_mem_set hx with h|h
  rw[List.eq_of_mem_replicate h];decide;rw[h];decide⟩ (bx _)
 obtain⟨_,h4,h5⟩:=Bv _ _ _ h2;have h6:NP n g.aF=s':=by unfold NP wY;rw[h3];exact h4
 rw[h6];exact h1
attribute [local irreducible] Op.shift Go.bits Instr.build in
set_option maxRecDepth 100000 in
theorem JV(v:Value)(g:eb)(w:World)(h:kj (λk=>k<w.heap.size) w v g)(hg:b_ g=0)(T N:Nat)(hT:g.aR=T)(hN:g.bC=N):
    Calls aB 22 #[v] w (cB (ZC N T g.aF (A6 N g.aF)) w):=by
  obtain⟨a1,a2,a3,a4,a5,a6⟩:=cP hg;have Uj:=λw' (yW:Gr w w')=>Em v g w' (h.gr yW) hg N hN;have hbe:∀body:List dy,body∈g.aF.map (·.2)->uR g body=0/\∀b,Cb g body b=fU (wQ N g.aF).E (NO N g.aF) body b:=λbody hb=>by
    obtain⟨p,hp,rfl⟩:=eX.1 hb;obtain⟨b1,b2,b3,b4⟩:=a6 p hp;have e:uR g p.2=0:=by
      unfold uR;rw[if_neg (by simpa using hg),if_neg J];exact Jp b4
    refine⟨e,λb=>?_⟩;unfold Cb;rw[if_pos e,show g.bC.toNat=N by omega]
  have hBg:=λvb body b w' (hg:Gr w w') hs=>rF v vb g body b w' (h.gr hg) hs;obtain⟨_,hF⟩:=Jq hg hN;have hWW:=ZD hg hN;have Vs:=ZA hg hN;have LP:A6 N g.aF=λi:Nat=>fU (wQ N g.aF).E (NO N g.aF) (dc g.aF (i:Int)).2 ((NP N g.aF).getD (dc g.aF (i:Int)).1.toNat 0):=rfl;have ahU:∀i,A6 N g.aF i<18446744073709551616:=λi=>by
    refine oL hF (oC hWW _) λx hx h1=>?_
    by_cases c:i<g.aF.length
    · rw[xX c]at hx
      have:=(a6 _ (cD c)).2.2.2 x hx;unfold right at this;rw[if_pos h1]at this;simp at this;omega
    unfold dc at hx;rw[dq,b9,kG J]at hx
    cases hx
  generalize tv:A6 N g.aF=may at*;obtain⟨vp,rfl,h1,_⟩:=h;obtain⟨t,nn,aF⟩:=g;dsimp only at*;subst hT hN;have JW:=h1;obtain⟨bp,cp,rfl,IZ,FL,oo⟩:=h1;unfold maxLen at FL;refine enter (args:=[dJ (T:Int) (N:Int) (ap bp aF.length cp)]) (n:=119) Tryz.func22 I I I ?_;refine cC (bz (bR I I I λg1=>?_));refine zL ?_
  repeat(first|refine GA ?_|refine gV (aO (i:=0) aK.ty I I I) ?_)
  refine aV (hZ aI.en I I) (λw' hm=>(Uj w' hm.below).mono λe w2 h=>Eo h) I I I ?_;intro x _
  conv=>arg 8;simp only[zJ,cK,ret,id_eq,Ek.val]
  refine Dl [0,3] ?_
  try refine GA ?_
  refine aY I λg5=>?_;refine gC 2 ?_;refine zL ?_
  repeat(first|refine GA ?_|refine gV (aC aK.ty I (aH (i:=0) I I)) ?_)
  have hz:bT aB 75 #[gK 0]:=(inferInstance:bT aB 75 #[.int .u64 0]);refine pv gK 0 I I J J I λg7=>?_;refine zL ?_
  repeat(first|refine GA ?_|refine gV (aC aK.ty I (aH (i:=0) I I)) ?_)
  refine nZ (ι:=Nat) (λk=>k<=aF.length) (λk=>[(1,aJ (aj ⟨g1,0,ak⟩)),(5,aJ (aj ⟨g5,0,ak⟩)),(7,ap (aj ⟨g7,0,ak⟩) aF.length aF.length),(30,ap bp aF.length cp),(31,av az aF.length),(32,av az (k:Int))])
    (λk=>[aP g1 (dJ (T:Int) (N:Int) (ap bp aF.length cp)).cells 34,ix N x.gW x.cW (NP N aF),aP g5 (mj (dw N x.gE x.cE) (dw N x.gF x.cF) (dw N x.gW x.cW) (dw N x.gR x.cR) (dw N x.gM x.cM)).cells 65,fq 75 gK g7 aF.length (λj=>if j<k then may j else 0)]) (λk=>aF.length-k) 0 (bH _) (by repeat' (first|exact bZ|refine bX I ?_)) (by rw[show(λj=>if j<0 then may j else 0)=λ_=>0 from funext λj=>if_neg J];rfl) ?_
  intro k k1
  by_cases c7:k<aF.length
  · obtain⟨b,off,rfl,_,hr⟩:=oo J
    obtain⟨bb,cb,y1,y2,y3⟩:=lA hr c7;have du:∀(L:List cH) (j:Nat) (v:Value),([av az aF[k].1,.slice bb aF[k].2.length cb]:List Value)[j]?=aj v->At w L ⟨b,off+k*2+j,ak⟩ v:=λL j v hj=>kh (y1 j v hj);have wP:=y3.flat aiT;obtain⟨b1,b2,b3,b4⟩:=a6 _ (cD c7);obtain⟨FY,NK⟩:=hbe aF[k].2 (eX.2 ⟨_,cD c7,rfl⟩);have NL:may k=fU (wQ N aF).E (NO N aF) aF[k].2 ((NP N aF).getD aF[k].1.toNat 0):=by rw[LP];dsimp only;rw[xX c7]
    clear y1 y3 hr hbe oo;generalize aF[k]=pd at*;obtain⟨hd,body⟩:=pd;dsimp only at*;obtain⟨hn,rfl⟩:∃hn:Nat,hd=hn:=⟨hd.toNat,by omega⟩;have hlt:hn<N:=by omega
    rw[dq]at NL;have ahV:((NP N aF).map gK)[0+hn]?=aj (gK ((NP N aF).getD hn 0)):=by rw[cV];exact Jm (by rw[hWW.1];exact hlt)
    have ahW:=oC hWW hn;have hBg:=λw' hg hs=>hBg (ap bb body.length cb) body ((NP N aF).getD hn 0) w' hg hs ahW;rw[FY,NK,<-NL]at hBg;generalize (NP N aF).getD hn 0=wv at*
    repeat(first|refine GA ?_|refine gV (aX bM.eq aK.ty I I c7) ?_|refine gV (a8 aK.ty I I (du _)) ?_)
    refine aY I λg9=>?_
    try refine GA ?_
    refine gC 4 ?_;refine zL ?_
    try refine GA ?_
    refine dN ([aP g1 (dJ (T:Int) (N:Int) (ap (aj ⟨b,off,ak⟩) aF.length cp)).cells 34,ix N x.gW x.cW (NP N aF),aP g5 (mj (dw N x.gE x.cE) (dw N x.gF x.cF) (dw N x.gW x.cW) (dw N x.gR x.cR) (dw N x.gM x.cM)).cells 65,aP g9 #[av az (hn:Int),ap bb body.length cb] 132]) (.calm 0 (.calm 1 (.calm 2 (.calm 3 (.calm 4 (.calm 5 (.calm 6 (.calm 7 (.calm 8 (.calm 9 (.calm 10 (.calm 11 (.calm 12 (.calm 13 (.calm 14 (.calm 15 (.one 16 (.done)))))))))))))))))) (bW [0,1,2,4]) ?_
    repeat(first|refine GW ?_|(refine GN ?_;first|refine QW (aO (i:=0) aK.ty I I I) ?_|refine QW (aC aK.ty I (aH (i:=3) I I)) ?_|refine QW (aC aK.ty I (aH (i:=2) I I)) ?_|refine QW (cz bM.eq aK.ty I I hlt) ?_|refine QW (aC aK.ty I (ki (i:=1) I ahV)) ?_))
    refine ow I (rX aI.en I I I I) (λw hm=>hBg _ hm.below (wP.gr hm.below)) I I I ?_
    repeat(first|refine GW ?_|(refine GN ?_;first|refine QW (cz bM.eq aK.ty I I c7) ?_))
    refine aL I ?_;refine iO (i:=3) (v:=may k) (λj=>if j<k+1 then may j else 0) aK.ty I I I I I c7 (λj _=>by
      by_cases e:j=k
      subst e;simp
      by_cases e2:j<k
      simp[e,e2,show j<k+1 by omega];simp[e,e2,show ¬j<k+1 by omega]) ?_
    refine zL ?_;refine aM (bW [0,1,2,4]) ?_
    try refine GW ?_
    try refine GA ?_
    refine dj [0,1,2,3] ?_;exact bY (k+1) J J
  · obtain rfl:k=aF.length:=by omega
    rw[show fq 75 gK g7 aF.length (λj=>if j<aF.length then may j else 0)=fq 75 gK g7 aF.length may from pu λj hj=>if_pos hj];clear hBg hbe Uj LP
    repeat(first|refine GA ?_|refine gV (aC aK.ty I (aH (i:=0) I I)) ?_)
    refine pv vU (ap ak 0 0) I I J J I λg10=>?_;refine zL ?_
    try refine GA ?_
    refine uc [0,3,4] ?_;refine mB (ji (λj=>j<N) (mY aF may T (λ_=>ap ak 0 0) 0 0)) (λk hk=>hk.elim (λh=>by cases h) λ⟨i,hi,h⟩=>h.elim (λh=>by cases h) id) (λw=>⟨λi hi=>?_,λi j _ _ _ k h=>h.elim (λh=>by cases h) nV⟩) ?_
    · unfold mY Cf
      rw[if_neg J,ite_self];exact P5 _ _ _ _
    refine jf 137 4 ?_;refine ea (ι:=Nat×(Nat->Value)×Value) (λ(n,_,_)=>n<=N) (λ(n,_,vo)=>[(1,aJ (aj ⟨g1,0,ak⟩)),(7,ap (aj ⟨g7,0,ak⟩) aF.length aF.length),(10,ap (aj ⟨g10,0,ak⟩) N N),(11,vo),(58,av az (N:Int)),(59,av az (n:Int))])
      (λ(n,vs,vo)=>[aP g1 (dJ (T:Int) (N:Int) (ap bp aF.length cp)).cells 34,fq 75 gK g7 aF.length may,fq 27 vU g10 N vs,ji (λj=>j<N) (mY aF may T vs n 0),a_ 137 4 vo (mE aF may T n).length ((mE aF may T n).flatMap clC)]) (λ(n,_,_)=>N-n) (0,λ_=>ap ak 0 0,ap ak 0 0) (bH _) ?_
    rintro⟨n,vs,vo⟩ n1;dsimp only at n1⊢
    by_cases c8:n<N
    · repeat(first|refine GC ?_|refine gV (aC aK.ty I (aH (i:=0) I I)) ?_|refine gV (eT (r:=((T+1:Nat):Int)) I I J J J) ?_|refine GB ?_)
      refine ea (ι:=Nat×(Nat->Value)×Value) (λ(c,_,_)=>c<=T+1) (λ(c,_,vo)=>[(1,aJ (aj ⟨g1,0,ak⟩)),(7,ap (aj ⟨g7,0,ak⟩) aF.length aF.length),(10,ap (aj ⟨g10,0,ak⟩) N N),(11,vo),(12,av az (n:Int)),(58,av az (N:Int)),(59,av az (n:Int)),(64,av az ((T+1:Nat):Int)),(65,av az (c:Int))])
        (λ(c,vs,vo)=>[aP g1 (dJ (T:Int) (N:Int) (ap bp aF.length cp)).cells 34,fq 75 gK g7 aF.length may,fq 27 vU g10 N vs,ji (λj=>j<N) (mY aF may T vs n c),a_ 137 4 vo (B6 aF may T n c (mE aF may T n)).length ((B6 aF may T n c (mE aF may T n)).flatMap clC)]) (λ(c,_,_)=>T+1-c) (0,vs,vo) (bH _) ?_
      rintro⟨c,vs,vo⟩ cc;dsimp only at cc⊢
      by_cases c9:c<T+1
      · have aie:=E3 (l:=aF) (may:=may) (T:=T) n c (mE aF may T n)
        have aif:=MU (l:=aF) (may:=may) (T:=T) n;have hm1:c*aF.length<=31*40:=EN J a5;have Wu:(T+1)*aF.length<=31*40:=EN J a5;have hm3:n*((T+1)*aF.length)<=20*(31*40):=EN J Wu;have ahX:mE aF may T (n+1)=B6 aF may T n (T+1) (mE aF may T n):=rfl;have ags:B6 aF may T n (c+1) (mE aF may T n)=x7 aF may T n c aF.length (B6 aF may T n c (mE aF may T n)):=rfl;have hbc:O3 T c<18446744073709551616:=by
          unfold O3;split
          decide
          exact Nat.lt_of_le_of_lt (Nat.pow_le_pow_right aiT (show c<=30 by omega)) aiT
        have aba:=λw=>UX T (N:Int) (ap bp aF.length cp) c w J J ⟨_,_,_,rfl⟩;generalize B6 aF may T n c (mE aF may T n)=vV at*
        repeat(first|refine GA ?_|refine gV (aC aK.ty I (aH (i:=0) I I)) ?_)
        refine ea (ι:=Nat×Value) (λ(k,_)=>k<=aF.length) (λ(k,vo)=>[(1,aJ (aj ⟨g1,0,ak⟩)),(7,ap (aj ⟨g7,0,ak⟩) aF.length aF.length),(10,ap (aj ⟨g10,0,ak⟩) N N),(11,vo),(12,av az (n:Int)),(13,av az (c:Int)),(14,av az (ic aF may T n c k)),(58,av az (N:Int)),(59,av az (n:Int)),(64,av az ((T+1:Nat):Int)),(65,av az (c:Int)),(69,ap bp aF.length cp),(70,av az aF.length),(71,av az (k:Int))])
          (λ(k,vo)=>[aP g1 (dJ (T:Int) (N:Int) (ap bp aF.length cp)).cells 34,fq 75 gK g7 aF.length may,fq 27 vU g10 N vs,ji (λj=>j<N) (mY aF may T vs n c),a_ 137 4 vo (x7 aF may T n c k vV).length ((x7 aF may T n c k vV).flatMap clC)]) (λ(k,_)=>aF.length-k) (0,vo) (bH _) ?_
        rintro⟨k,vo⟩ kk;dsimp only at kk⊢
        by_cases ck:k<aF.length
        · obtain⟨b,off,rfl,_,hr⟩:=oo J
          obtain⟨bb,cb,y1,y2,y3⟩:=lA hr ck;have du:∀(L:List cH) (j:Nat) (v:Value),([av az aF[k].1,.slice bb aF[k].2.length cb]:List Value)[j]?=aj v->At w L ⟨b,off+k*2+j,ak⟩ v:=λL j v hj=>kh (y1 j v hj);have hol:=E0 (l:=aF) (may:=may) (T:=T) n c k vV;have hf:ic aF may T n c (k+1)=if ic aF may T n c k<0 then(if D8 aF may T n c k=aD then(k:Int)else ic aF may T n c k)else ic aF may T n c k:=rfl
          have ho:x7 aF may T n c (k+1) vV=if D8 aF may T n c k=aD then(if ic aF may T n c k<0 then x7 aF may T n c k vV else x7 aF may T n c k vV++[((n:Int),(c:Int),ic aF may T n c k,(k:Int))])else x7 aF may T n c k vV:=rfl
          have hcd:D8 aF may T n c k=(decide (aF[k].1=(n:Int))&&!decide ((may k&&&O3 T c)=0)):=by unfold D8;rw[xX ck]
          have hand:=Uh (ahU k) hbc;have hfk:=uH (l:=aF) (may:=may) (T:=T) n c k;clear y1 y3 hr oo;generalize aF[k]=pd at*;obtain⟨hd,body⟩:=pd;dsimp only at*;generalize hzz:may k&&&O3 T c=z at*;generalize ic aF may T n c k=fk at*;generalize x7 aF may T n c k vV=ok at*
          repeat(first|refine GA ?_|refine gV (aX bM.eq aK.ty I I ck) ?_|refine gV (a8 aK.ty I I (du _)) ?_)
          refine aY I λg16=>?_
          try refine GA ?_
          refine gC 5 ?_;refine zL ?_
          try refine GA ?_
          refine dN ([aP g1 (dJ (T:Int) (N:Int) (ap (aj ⟨b,off,ak⟩) aF.length cp)).cells 34,fq 75 gK g7 aF.length may,aP g16 #[av az hd,ap bb body.length cb] 132]) (.calm 0 (.calm 1 (.calm 2 (.calm 3 (.calm 4 (.calm 5 (.calm 6 (.calm 7 (.calm 8 (.calm 9 (.calm 10 (.calm 11 (.calm 12 (.calm 13 (.calm 14 (.calm 15 (.done))))))))))))))))) (bW [0,1,5]) ?_
          by_cases e1:hd=(n:Int)
          · by_cases e2:z=0
            · rw[decide_eq_true e1,decide_eq_true e2]at hcd
              rw[hcd]at hf ho;simp only[Bool.not_true,Bool.and_false,EL,if_false,ite_self]at hf ho
              repeat(first|refine GW ?_|(refine GN ?_;first|refine QW (aC aK.ty I (aH (i:=2) I I)) ?_|refine QW (cz bM.eq aK.ty I I ck) ?_|refine QW (aC aK.ty I (fV (i:=1) I ck)) ?_|refine QW (aO (i:=0) aK.ty I I I) ?_))
              refine K4 I (fO aI.en I I I) (λw hm=>aba _) I I I I I ?_
              repeat(first|refine GW ?_|(refine GN ?_;first|refine QW (nh I I hand) ?_))
              try refine GA ?_
              refine dj [0,1,2,3,4] ?_;exact iB (k+1,vo) (by show k+1<=aF.length;omega) (by show aF.length-(k+1)<aF.length-k;omega) (by dsimp only;rw[hf];repeat' (first|exact bZ|refine bX I ?_)) (by dsimp only;rw[ho];rfl)
            rw[decide_eq_true e1,decide_eq_false e2]at hcd;rw[hcd]at hf ho;simp only[Bool.not_false,Bool.and_true,if_true]at hf ho
            repeat(first|refine GW ?_|(refine GN ?_;first|refine QW (aC aK.ty I (aH (i:=2) I I)) ?_|refine QW (cz bM.eq aK.ty I I ck) ?_|refine QW (aC aK.ty I (fV (i:=1) I ck)) ?_|refine QW (aO (i:=0) aK.ty I I I) ?_))
            refine K4 I (fO aI.en I I I) (λw hm=>aba _) I I I I I ?_
            repeat(first|refine GW ?_|(refine GN ?_;first|refine QW (nh I I hand) ?_))
            by_cases e3:fk<0
            · rw[if_pos e3]at hf ho
              try refine GA ?_
              refine dj [0,1,2,3,4] ?_;exact iB (k+1,vo) (by show k+1<=aF.length;omega) (by show aF.length-(k+1)<aF.length-k;omega) (by dsimp only;rw[hf];repeat' (first|exact bZ|refine bX I ?_)) (by dsimp only;rw[ho];rfl)
            rw[if_neg e3]at hf ho
            repeat(first|refine GA ?_|refine gV (bB I (ZB _ _ _ _)) ?_)
            refine ju (i:=4) I I I I I I I (λz h=>by cases h;rfl) J J I λz' v2=>?_;refine zL ?_
            try refine GA ?_
            refine dj [0,1,2,3,4] ?_;exact iB (k+1,v2) (by show k+1<=aF.length;omega) (by show aF.length-(k+1)<aF.length-k;omega) (by dsimp only;rw[hf];repeat' (first|exact bZ|refine bX I ?_)) (by dsimp only;rw[ho,fC,bI];rfl)
          rw[decide_eq_false e1]at hcd;rw[hcd]at hf ho;simp only[JK,EL,if_false,ite_self]at hf ho
          repeat(first|refine GW ?_|(refine GN ?_;first|refine QW (aC aK.ty I (aH (i:=2) I I)) ?_))
          try refine GA ?_
          refine dj [0,1,2,3,4] ?_;exact iB (k+1,vo) (by show k+1<=aF.length;omega) (by show aF.length-(k+1)<aF.length-k;omega) (by dsimp only;rw[hf];repeat' (first|exact bZ|refine bX I ?_)) (by dsimp only;rw[ho];rfl)
        obtain rfl:k=aF.length:=by omega
        rw[<-ags];have hra:ic aF may T n c aF.length=B5.rowAt aF may T n c:=rfl;rw[hra];clear ags ahX hra;have hcn:mY aF may T vs n c n=a_ 3 1 (vs n) c ((lY c (B5.rowAt aF may T n)).map aeQ):=by
          unfold mY Cf;rw[if_neg (EO n),if_pos I]
        repeat(first|refine GA ?_|refine gV (cz bM.eq aK.ty I I c8) ?_|refine gV (aC aK.ty I (fV (i:=2) I c8)) ?_)
        refine RB (q:=3) n I c8 ?_;rw[hcn];refine zL ?_;refine Rk [av az (B5.rowAt aF may T n c)] I I I (by intro v hv;simp at hv;subst hv;rfl) I I λaiI=>?_;refine zL ?_;refine lu (i:=5) (q:=6) I I I I I I J J I λv3=>?_;refine zL ?_;refine aU (i:=5) I λkT lC=>?_
        repeat(first|refine GA ?_|refine gV (cz bM.eq aK.ty I I c8) ?_)
        refine iO (i:=2) (v:=v3) (λj=>if j=n then v3 else vs j) aK.ty I I I kT lC c8 (λj _=>rfl) ?_;refine zL ?_;refine XP (D':=λj=>j<N) (f':=mY aF may T (λj=>if j=n then v3 else vs j) n (c+1)) n 3 5 [0,1,2,4] aiT I I I (λh=>h.2 I) (λj hj=>by
          by_cases e:j=n
          exact .inr e;exact .inl ⟨hj,e⟩) (λj hj=>by
          by_cases e:j=n
          · subst e
            rw[AG];unfold mY Cf;rw[if_neg (EO j),if_pos I];dsimp only;rw[if_pos I]
            congr 1
            unfold lY;rw[ye,eV,eV];rfl
          rw[AF e];have:Cf T n (c+1) j=Cf T n c j:=by unfold Cf;rw[if_neg e,if_neg e]
          unfold mY;rw[this];dsimp only;rw[if_neg e]) ?_
        refine zL ?_;refine Dl [0,1,2,4,3] ?_
        try refine GA ?_
        exact bY (c+1,λj=>if j=n then v3 else vs j,vo) (by show c+1<=T+1;omega) (by show T+1-(c+1)<T+1-c;omega)
      obtain rfl:c=T+1:=by omega
      have ahY:mY aF may T vs n (T+1)=mY aF may T vs (n+1) 0:=funext λj=>by
        have:Cf T n (T+1) j=Cf T (n+1) 0 j:=by
          unfold Cf
          by_cases e:j<n
          rw[if_pos e,if_pos J];rw[if_neg e]
          by_cases e2:j=n
          rw[if_pos e2,if_pos J];rw[if_neg e2,if_neg J,ite_self]
        unfold mY;rw[this]
      try refine GA ?_
      exact bY (n+1,vs,vo) (by show n+1<=N;omega) (by show N-(n+1)<N-n;omega) (hl:=by rw[ahY];rfl)
    obtain rfl:n=N:=by omega
    try refine GA ?_
    exact mu I I I I λw hm=>hm.meets (S:=ZC n T aF may) (g10,vs,vo) trivial [2,3,4] aiT I
end cI
namespace cI
open Go.RowKit cU dS aT dP dL bJ cT
def jj(x:bJ.Act):List Value:=[av az x.1,av az x.2]
theorem rN(x:bJ.Act):(jj x).length=2:=rfl
def fZ(l:List aT.Prod)(T:Nat)(nx:List Int)(t:Nat)(s:List bJ.Item)(c:Nat):List bJ.Act:=(if c<t/\0<=nx.getD c 0 then [(1,nx.getD c 0)]else [])++s.filterMap (zg l c)
theorem HU{l:List aT.Prod}{T:Nat}{nx:List Int}{s:List bJ.Item}{c:Nat}:fZ l T nx T s c=kz l T s nx c:=rfl
def od(vs:Nat->Value)(A:Nat->List bJ.Act)(j:Nat):cH:=a_ 146 2 (vs j) (A j).length ((A j).flatMap jj)
def MV(T:Nat)(A:Nat->List bJ.Act):Spec (Nat×(Nat->Value)):=⟨λ_=>True,λx=>ap (aj ⟨x.1,0,ak⟩) (T+1) (T+1),λx=>[fq 143 vU x.1 (T+1) x.2,ji (λj=>j<T+1) (od x.2 A)]⟩
theorem Qs(n:Int)(w:World):(dh 146 #[(0,av az 1),(1,av az n)]).run aB w= .ok (aQ (jj (1,n)).toArray) w:=by kernel_rfl
theorem Qt(n:Int)(w:World):(dh 146 #[(0,av az 2),(1,av az n)]).run aB w= .ok (aQ (jj (2,n)).toArray) w:=by kernel_rfl
theorem Qu(w:World):(dh 146 #[(0,av az 3)]).run aB w= .ok (aQ (jj (3,0)).toArray) w:=by kernel_rfl
theorem A7{l:List aT.Prod}{T:Nat}{nx:List Int}{t:Nat}{s:List bJ.Item}{c:Nat}:(fZ l T nx t s c).length<=1+s.length:=by
 unfold fZ;rw[bI];have:=List.length_filterMap_le (zg l c) s;split;rw[lW];omega;rw[List.length_nil];omega
theorem JX(v:Value)(g:eb)(T:Nat)(JI:g.aR=(T:Int))(hT:T<=30)(bS oS lS cS bN oN lN cN n:Nat)(nP vn1:Value)(s:List bJ.Item)(nx:List Int)(w:World)(hG:kj (λk=>k<w.heap.size) w v g)(BF:g.aF.length<=40)(hnS:n<lS)(hcS:w.cell? ⟨bS,oS+n,ak⟩=aj nP)(Bo:Sl w nP s.length (s.flatMap iP))(hnN:n<lN)(hcN:w.cell? ⟨bN,oN+n,ak⟩=aj vn1)(hn1:Sl w vn1 nx.length (nx.map (av .i64)))(hnl:T<=nx.length)(hr:∀it∈s,ey g.aF T it)(ry:s.length<=20000)(_:n<=1000000):
 Calls aB 48 #[v,aQ #[ap (aj ⟨bS,oS,ak⟩) lS cS,ap (aj ⟨bN,oN,ak⟩) lN cN],av az (n:Int)] w (cB (MV T (kz g.aF T s nx)) w):=by
 obtain⟨vp,rfl,hp,-,-⟩:=hG;obtain⟨bp,cp,rfl,IZ,FL,oo⟩:=hp;obtain⟨bs,cs,rfl,-,hmS,hrS⟩:=Bo;obtain⟨bn,cn,rfl,-,hmN,hrN⟩:=hn1;unfold maxLen at hmS hmN;rw[JI];have FY:=Qs;have NK:=Qt;have hb3:=Qu;refine enter (args:=[dJ (T:Int) g.bC (ap bp g.aF.length cp),aQ #[ap (aj ⟨bS,oS,ak⟩) lS cS,ap (aj ⟨bN,oN,ak⟩) lN cN],av az (n:Int)]) (n:=113) Tryz.func48 I I I ?_;refine cC (bz (bR I I I λg3=>?_));refine zL ?_;refine bR I I I λg4=>?_;refine zL ?_
 repeat(first|refine GC ?_|refine gV (aC (v:=av az (T:Int)) aK.ty I (aH (i:=0) I I)) ?_|refine gV (eT (r:=((T+1:Nat):Int)) I I J J J) ?_|refine GB ?_)
 refine pv (m:=T+1) vU (ap ak 0 0) I I J J I λg7=>?_;refine zL ?_
 repeat(first|refine GA ?_|refine gV (aC (v:=av az (T:Int)) aK.ty I (aH (i:=0) I I)) ?_)
 refine mB (ji (λj=>j<T+1) (od (λ_=>ap ak 0 0) (fZ g.aF T nx 0 []))) (λk hk=>hk.elim (λh=>by cases h) λ⟨i,hi,h⟩=>h.elim (λh=>by cases h) id) (λw=>⟨λi hi=>?_,λi j _ _ _ k h=>h.elim (λh=>by cases h) nV⟩) ?_
 ·unfold od fZ
  rw[if_neg J];exact P5 _ _ _ _
 conv=>arg 7;simp only[zA,zB,zC,zD,zE,zF,zG,zH,zI,cK,ret,id_eq]
 refine ea (ι:=Nat×(Nat->Value)) (λ(t,_)=>t<=T) (λ(t,_)=>[(2,av az (n:Int)),(3,aJ (aj ⟨g3,0,ak⟩)),(4,aJ (aj ⟨g4,0,ak⟩)),(7,ap (aj ⟨g7,0,ak⟩) (T+1) (T+1)),(17,av az (T:Int)),(18,av az (t:Int))])
  (λ(t,vs)=>[aP g3 (dJ (T:Int) g.bC (ap bp g.aF.length cp)).cells 34,aP g4 (aQ #[ap (aj ⟨bS,oS,ak⟩) lS cS,ap (aj ⟨bN,oN,ak⟩) lN cN]).cells 140,fq 143 vU g7 (T+1) vs,ji (λj=>j<T+1) (od vs (fZ g.aF T nx t []))]) (λ(t,_)=>T-t) (0,λ_=>ap ak 0 0) (bH _) ?_
 rintro⟨t,vs⟩ i1;dsimp only at i1⊢
 by_cases c1:t<T
 ·obtain⟨b,off,rfl,eL⟩:=hrN J
  have hny:(nx.map (av .i64))[t]?=aj (av az (nx.getD t 0)):=by
   rw[eS,b9,bD J];rfl
  have du:=λ(L:List cH)=>iI (W:=w) (L:=L) eL hny;have Wo:t<nx.length:=by omega
  have Qv:∀j,j≠t->fZ g.aF T nx (t+1) [] j=fZ g.aF T nx t [] j:=λj hj=>by
   unfold fZ;have:(j<t+1/\0<=nx.getD j 0)↔(j<t/\0<=nx.getD j 0):=by constructor<;>(rintro⟨h1,h2⟩;exact⟨by omega,h2⟩)
   simp only[this]
  have BK:fZ g.aF T nx (t+1) [] t=if 0<=nx.getD t 0 then [(1,nx.getD t 0)]else []:=by
   unfold fZ
   by_cases c:0<=nx.getD t 0
   rw[if_pos ⟨nv t,c⟩,if_pos c];rfl;rw[if_neg (λh=>c h.2),if_neg c];rfl
  have ZE:fZ g.aF T nx t [] t=[]:=by unfold fZ;rw[if_neg (λh=>EO t h.1)];rfl
  generalize nx.getD t 0=y at*
  repeat(first|refine GA ?_|refine gV (aC (v:=ap (aj ⟨bN,oN,ak⟩) lN cN) aK.ty I (aH (i:=1) I I)) ?_|refine gV (cz bM.eq aK.ty I I hnN) ?_|refine gV (aC (v:=ap (aj ⟨b,off,ak⟩) nx.length cn) aK.ty I (kh hcN)) ?_|refine gV (cz bM.eq aK.ty I I Wo) ?_|refine gV (aC (v:=av az y) aK.ty I (du _)) ?_)
  by_cases c2:0<=y
  ·rw[if_pos c2]at BK
   repeat(first|refine GC ?_|refine gV (eU (b:=aD) I I (decide_eq_true c2)) ?_|refine gV (cz bM.eq aK.ty I I (show t<T+1 by omega)) ?_|refine gV (aC aK.ty I (fV (i:=2) I (show t<T+1 by omega))) ?_|refine gV (bB I (FY _)) ?_|refine GB ?_)
   refine RB (q:=3) t I (show t<T+1 by omega) ?_;have hFt:od vs (fZ g.aF T nx t []) t=a_ 146 2 (vs t) 0 []:=by unfold od;rw[ZE];rfl
   rw[hFt];refine zL ?_;refine ju (i:=4) I I I I I I I (λz h=>by cases h;rfl) J J I λz v3=>?_;refine zL ?_
   repeat(first|refine GA ?_|refine gV (cz bM.eq aK.ty I I (show t<T+1 by omega)) ?_)
   refine aU (i:=4) I λkT lC=>?_;refine iO (i:=2) (v:=v3) (λj=>if j=t then v3 else vs j) aK.ty I I I kT lC (show t<T+1 by omega) (λj _=>rfl) ?_;refine zL ?_;refine XP (D':=λj=>j<T+1) (f':=od (λj=>if j=t then v3 else vs j) (fZ g.aF T nx (t+1) [])) t 3 4 [0,1,2] aiT I I I (λh=>h.2 I) (λj hj=>by
    by_cases e:j=t
    exact .inr e;exact .inl ⟨hj,e⟩) (λj hj=>by
    by_cases e:j=t
    ·subst e
     rw[AG];unfold od;dsimp only;rw[BK,if_pos I];rfl
    rw[AF e];unfold od;dsimp only;rw[Qv j e,if_neg e]) ?_
   refine zL ?_
   try refine GA ?_
   exact bY (t+1,λj=>if j=t then v3 else vs j) (by show t+1<=T;omega) (by show T-(t+1)<T-t;omega)
  rw[if_neg c2]at BK;have td:fZ g.aF T nx (t+1) []=fZ g.aF T nx t []:=funext λj=>by
   by_cases e:j=t
   subst e;rw[BK,ZE];exact Qv j e
  repeat(first|refine GC ?_|refine gV (eU (b:=aE) I I (decide_eq_false c2)) ?_|refine GB ?_)
  exact bY (t+1,vs) (by show t+1<=T;omega) (by show T-(t+1)<T-t;omega) (hl:=by dsimp only;rw[td])
 obtain rfl:t=T:=by omega
 repeat(first|refine GA ?_|refine gV (aC (v:=ap (aj ⟨bS,oS,ak⟩) lS cS) aK.ty I (aH (i:=1) I I)) ?_|refine gV (cz bM.eq aK.ty I I hnS) ?_|refine gV (aC (v:=ap bs s.length cs) aK.ty I (kh hcS)) ?_)
 refine ea (ι:=Nat×(Nat->Value)) (λ(k,_)=>k<=s.length) (λ(k,_)=>[(3,aJ (aj ⟨g3,0,ak⟩)),(7,ap (aj ⟨g7,0,ak⟩) (t+1) (t+1)),(47,ap bs s.length cs),(48,av az (s.length:Int)),(49,av az (k:Int))])
  (λ(k,vs)=>[aP g3 (dJ (t:Int) g.bC (ap bp g.aF.length cp)).cells 34,aP g4 (aQ #[ap (aj ⟨bS,oS,ak⟩) lS cS,ap (aj ⟨bN,oN,ak⟩) lN cN]).cells 140,fq 143 vU g7 (t+1) vs,ji (λj=>j<t+1) (od vs (fZ g.aF t nx t (s.take k)))]) (λ(k,_)=>s.length-k) (0,vs) (bH _) ?_
 rintro⟨k,vs⟩ j1;dsimp only at j1⊢;clear FY
 by_cases c2:k<s.length
 ·obtain⟨b,off,rfl,eL⟩:=hrS J
  have du:=λ(L:List cH)=>gO (L:=L) lD eL c2;have Ey:∀(L:List cH) (j:Nat) (u:Value),(iP s[k])[j]?=aj u->At (w:bO) L ⟨b,off+k*3+j,ak⟩ u:=du;clear du eL hrS;have hxr:=hr s[k] (cD c2);have qf:s.take (k+1)=s.take k++[s[k]]:=iv c2;have oT:∀c,fZ g.aF t nx t (s.take (k+1)) c=fZ g.aF t nx t (s.take k) c++(match zg g.aF c s[k]with|some x=>[x]|none=>[]):=λc=>by
   rw[qf];unfold fZ;rw[List.filterMap_append,<-eD]
   congr 1
   rw[List.filterMap_cons]
   cases zg g.aF c s[k]<;>rfl
  have hlen:∀c,(fZ g.aF t nx t (s.take k) c).length<=20001:=λc=>fw A7 (by rw[iZ];omega);generalize hit:s[k]=it at*;obtain⟨p,d,lo⟩:=it;obtain⟨r1,r2,r3,r4,r5,r6⟩:=hxr;dsimp only at r1 r2 r3 r4 r5 r6;obtain⟨pn,rfl⟩:=h_ r1;obtain⟨dn,rfl⟩:=h_ r3;obtain⟨ln,rfl⟩:=h_ r5;have w4:ln<t+1:=by omega
  have Qv:∀j,j≠ln->fZ g.aF t nx t (s.take (k+1)) j=fZ g.aF t nx t (s.take k) j:=λj hj=>by
   rw[oT j];have:zg g.aF j ((pn:Int),(dn:Int),(ln:Int))=none:=by
    unfold zg;rw[if_pos (by show(ln:Int)≠(j:Int);omega)]
   rw[this,dW]
  have pL:=oT ln;unfold zg at pL;rw[if_neg (by show ¬(ln:Int)≠(ln:Int);simp)]at pL;dsimp only at pL;clear oT qf
  repeat(first|refine GA ?_|refine gV (aX bM.eq aK.ty I I c2) ?_|refine gV (a8 (cs:=iP ((pn:Int),(dn:Int),(ln:Int))) aK.ty I I (Ey _)) ?_)
  refine aY I λg11=>?_;refine zL ?_;refine gC 4 (cs':=(iP ((pn:Int),(dn:Int),(ln:Int))).toArray) ?_;refine zL ?_;have hFt:od vs (fZ g.aF t nx t (s.take k)) ln=a_ 146 2 (vs ln) (fZ g.aF t nx t (s.take k) ln).length ((fZ g.aF t nx t (s.take k) ln).flatMap jj):=rfl;have KW:=hlen ln
  by_cases q1:pn=g.aF.length
  ·subst q1
   by_cases q2:dn=1
   ·subst q2
    have BK:fZ g.aF t nx t (s.take (k+1)) ln=fZ g.aF t nx t (s.take k) ln++[(3,0)]:=by
     rw[if_pos ⟨rfl,rfl⟩]at pL;exact pL
    repeat(first|refine GA ?_|refine gV (aC (v:=av az (g.aF.length:Int)) aK.ty I (aH (i:=4) I I)) ?_|refine gV (aC (v:=ap bp g.aF.length cp) aK.ty I (aH (i:=0) I I)) ?_|refine gV (aC (v:=av az 1) aK.ty I (aH (i:=4) I I)) ?_)
    refine OS (q:=3) ln I w4 ?_;rw[hFt]
    conv=>arg 7;simp only[zA,zB,zC,zD,zE,zF,zG,zH,zI,cK,ret,id_eq]
    refine dN ([aP g11 (iP ((g.aF.length:Int),1,(ln:Int))).toArray 208]) (.calm 0 (.calm 1 (.calm 2 (.calm 3 (.calm 4 (.calm 5 (.calm 6 (.calm 8 (.two 7 (.one 9 (.one 10 (.calm 11 (.one 12 (.done))))) 9 (.one 7 (.one 10 (.calm 11 (.one 12 (.done)))))))))))))) (bW [4]) ?_
    repeat(first|refine GW ?_|(refine GN ?_;first|refine QW (aC (v:=av az (ln:Int)) aK.ty I (aH (i:=0) I I)) ?_|refine QW (cz bM.eq aK.ty I I w4) ?_|refine QW (bB I hb3) ?_))
    refine eG I I ?agt ?agu
    case' agt=>
     refine dx (aC aK.ty I (fV (i:=2) I w4)) I I I (aM (bW [4]) ?_);refine aL I (fF (cs:=(jj (3,0)).toArray) I I I I I λg74=>aM (bW [4]) ?_)
    case' agu=>
     refine fF (cs:=(jj (3,0)).toArray) I I I I I λg74=>aM (bW [4]) ?_;refine aL I (dx (aC aK.ty I (fV (i:=2) I w4)) I I I (aM (bW [4]) ?_))
    all_goals
     refine aL I (mw (i:=5) (q:=6) I I I I I I J J I λv3=>aM (bW [4]) ?_)
     repeat(first|refine GW ?_|(refine GN ?_;first|refine QW (cz bM.eq aK.ty I I w4) ?_))
     refine aL I (aU (i:=5) I λkT lC=>iO (i:=2) (v:=v3) (λj=>if j=ln then v3 else vs j) aK.ty I I I kT lC w4 (λj _=>rfl) (aM (bW [4]) ?_))
     try refine GW ?_
     refine RC (D':=λj=>j<t+1) (f':=od (λj=>if j=ln then v3 else vs j) (fZ g.aF t nx t (s.take (k+1)))) ln 3 5 [0,1,2] aiT I I I (λh=>h.2 I) (λj hj=>by
      by_cases e:j=ln
      exact .inr e;exact .inl ⟨hj,e⟩) (λj hj=>by
      by_cases e:j=ln
      ·subst e
       rw[AG];unfold od;dsimp only;rw[BK,if_pos I,bI,fC];rfl
      rw[AF e];unfold od;dsimp only;rw[Qv j e,if_neg e]) ?_
     try refine GA ?_
     exact bY (k+1,λj=>if j=ln then v3 else vs j) (by show k+1<=s.length;omega) (by show s.length-(k+1)<s.length-k;omega)
   have td:fZ g.aF t nx t (s.take (k+1))=fZ g.aF t nx t (s.take k):=funext λj=>by
    by_cases e:j=ln
    ·subst e
     rw[if_neg (λh=>q2 (by have:=h.2;omega)),if_neg (λh=>by have:=h.1;omega)]at pL;rw[pL];exact dW _
    exact Qv j e
   repeat(first|refine GA ?_|refine gV (aC (v:=av az (g.aF.length:Int)) aK.ty I (aH (i:=4) I I)) ?_|refine gV (aC (v:=ap bp g.aF.length cp) aK.ty I (aH (i:=0) I I)) ?_|refine gV (aC (v:=av az (dn:Int)) aK.ty I (aH (i:=4) I I)) ?_)
   refine dN ([aP g3 (dJ (t:Int) g.bC (ap bp g.aF.length cp)).cells 34,aP g11 (iP ((g.aF.length:Int),(dn:Int),(ln:Int))).toArray 208]) (.calm 0 (.calm 1 (.calm 2 (.calm 3 (.calm 4 (.calm 5 (.calm 6 (.calm 7 (.calm 8 (.calm 9 (.calm 10 (.calm 11 (.calm 12 (.calm 13 (.calm 14 (.calm 15 (.calm 16 (.calm 17 (.calm 18 (.calm 19 (.done))))))))))))))))))))) (bW [0,4]) ?_
   repeat(first|refine GW ?_|(refine GN ?_;first|refine QW (aC (v:=av az (g.aF.length:Int)) aK.ty I (aH (i:=1) I I)) ?_|refine QW (aC (v:=ap bp g.aF.length cp) aK.ty I (aH (i:=0) I I)) ?_))
   try refine GA ?_
   refine dj [0,1,2,3] ?_;exact bY (k+1,vs) (by show k+1<=s.length;omega) (by show s.length-(k+1)<s.length-k;omega) (hl:=by dsimp only;rw[td];rfl)
  have hpn:pn<g.aF.length:=by omega
  obtain⟨pb,po,rfl,hFb,hpr⟩:=oo J;obtain⟨bb,cb,hq1,hq2,hq3⟩:=lA hpr hpn;have hpg:g.aF[pn]=dc g.aF (pn:Int):=by
   unfold dc;rw[dq,b9,bD hpn];rfl
  rw[hpg]at hq1 hq2 hq3;have agv:∀(L:List cH) (j:Nat) (v:Value),([av az (dc g.aF (pn:Int)).1,ap bb (dc g.aF (pn:Int)).2.length cb]:List Value)[j]?=aj v->At w L ⟨pb,po+pn*2+j,ak⟩ v:=λL j v hj=>iI hq1 hj;clear hpr oo hq1 hq3
  by_cases q2:dn=(dc g.aF (pn:Int)).2.length
  ·subst q2
   have BK:fZ g.aF t nx t (s.take (k+1)) ln=fZ g.aF t nx t (s.take k) ln++[(2,(pn:Int))]:=by
    rw[if_neg (λh=>q1 (by have:=h.1;omega)),if_pos ⟨by omega,rfl⟩]at pL;exact pL
   repeat(first|refine GA ?_|refine gV (aC (v:=av az (pn:Int)) aK.ty I (aH (i:=4) I I)) ?_|refine gV (aC (v:=ap (aj ⟨pb,po,ak⟩) g.aF.length cp) aK.ty I (aH (i:=0) I I)) ?_)
   refine dN ([aP g3 (dJ (t:Int) g.bC (ap (aj ⟨pb,po,ak⟩) g.aF.length cp)).cells 34,aP g11 (iP ((pn:Int),((dc g.aF (pn:Int)).2.length:Int),(ln:Int))).toArray 208]) (.calm 0 (.calm 1 (.calm 2 (.calm 3 (.calm 4 (.calm 5 (.calm 6 (.calm 7 (.calm 8 (.calm 9 (.calm 10 (.calm 11 (.calm 12 (.calm 13 (.calm 14 (.calm 15 (.calm 16 (.calm 17 (.calm 18 (.calm 19 (.done))))))))))))))))))))) (bW [0,4]) ?_
   repeat(first|refine GW ?_|(refine GN ?_;first|refine QW (aC (v:=av az (pn:Int)) aK.ty I (aH (i:=1) I I)) ?_|refine QW (aC (v:=av az ((dc g.aF (pn:Int)).2.length:Int)) aK.ty I (aH (i:=1) I I)) ?_|refine QW (aC (v:=ap (aj ⟨pb,po,ak⟩) g.aF.length cp) aK.ty I (aH (i:=0) I I)) ?_|refine QW (aX bM.eq aK.ty I I hpn) ?_|refine QW (aC (v:=ap bb (dc g.aF (pn:Int)).2.length cb) aK.ty I (agv _ 1 _ I)) ?_))
   try refine GA ?_
   refine OS (q:=3) ln I w4 ?_;rw[hFt]
   conv=>arg 7;simp only[zA,zB,zC,zD,zE,zF,zG,zH,zI,cK,ret,id_eq]
   refine dN ([aP g11 (iP ((pn:Int),((dc g.aF (pn:Int)).2.length:Int),(ln:Int))).toArray 208]) (.calm 0 (.calm 1 (.calm 2 (.calm 3 (.calm 4 (.calm 5 (.calm 6 (.calm 8 (.calm 9 (.calm 10 (.two 7 (.one 11 (.one 12 (.calm 13 (.one 14 (.done))))) 11 (.one 7 (.one 12 (.calm 13 (.one 14 (.done)))))))))))))))) (bW [4]) ?_
   repeat(first|refine GW ?_|(refine GN ?_;first|refine QW (aC (v:=av az (ln:Int)) aK.ty I (aH (i:=0) I I)) ?_|refine QW (aC (v:=av az (pn:Int)) aK.ty I (aH (i:=0) I I)) ?_|refine QW (cz bM.eq aK.ty I I w4) ?_|refine QW (bB I (NK _)) ?_))
   refine eG I I ?agw ?agx
   case' agw=>
    refine dx (aC aK.ty I (fV (i:=2) I w4)) I I I (aM (bW [4]) ?_);refine aL I (fF (cs:=(jj (2,(pn:Int))).toArray) I I I I I λg74=>aM (bW [4]) ?_)
   case' agx=>
    refine fF (cs:=(jj (2,(pn:Int))).toArray) I I I I I λg74=>aM (bW [4]) ?_;refine aL I (dx (aC aK.ty I (fV (i:=2) I w4)) I I I (aM (bW [4]) ?_))
   all_goals
    refine aL I (mw (i:=5) (q:=6) I I I I I I J J I λv3=>aM (bW [4]) ?_)
    repeat(first|refine GW ?_|(refine GN ?_;first|refine QW (cz bM.eq aK.ty I I w4) ?_))
    refine aL I (aU (i:=5) I λkT lC=>iO (i:=2) (v:=v3) (λj=>if j=ln then v3 else vs j) aK.ty I I I kT lC w4 (λj _=>rfl) (aM (bW [4]) ?_))
    try refine GW ?_
    refine RC (D':=λj=>j<t+1) (f':=od (λj=>if j=ln then v3 else vs j) (fZ g.aF t nx t (s.take (k+1)))) ln 3 5 [0,1,2] aiT I I I (λh=>h.2 I) (λj hj=>by
     by_cases e:j=ln
     exact .inr e;exact .inl ⟨hj,e⟩) (λj hj=>by
     by_cases e:j=ln
     ·subst e
      rw[AG];unfold od;dsimp only;rw[BK,if_pos I,bI,fC];rfl
     rw[AF e];unfold od;dsimp only;rw[Qv j e,if_neg e]) ?_
    try refine GA ?_
    exact bY (k+1,λj=>if j=ln then v3 else vs j) (by show k+1<=s.length;omega) (by show s.length-(k+1)<s.length-k;omega)
  have td:fZ g.aF t nx t (s.take (k+1))=fZ g.aF t nx t (s.take k):=funext λj=>by
   by_cases e:j=ln
   ·subst e
    rw[if_neg (λh=>q1 (by have:=h.1;omega)),if_neg (λh=>q2 (by have:=h.2;omega))]at pL;rw[pL];exact dW _
   exact Qv j e
  repeat(first|refine GA ?_|refine gV (aC (v:=av az (pn:Int)) aK.ty I (aH (i:=4) I I)) ?_|refine gV (aC (v:=ap (aj ⟨pb,po,ak⟩) g.aF.length cp) aK.ty I (aH (i:=0) I I)) ?_)
  refine dN ([aP g3 (dJ (t:Int) g.bC (ap (aj ⟨pb,po,ak⟩) g.aF.length cp)).cells 34,aP g11 (iP ((pn:Int),(dn:Int),(ln:Int))).toArray 208]) (.calm 0 (.calm 1 (.calm 2 (.calm 3 (.calm 4 (.calm 5 (.calm 6 (.calm 7 (.calm 8 (.calm 9 (.calm 10 (.calm 11 (.calm 12 (.calm 13 (.calm 14 (.calm 15 (.calm 16 (.calm 17 (.calm 18 (.calm 19 (.done))))))))))))))))))))) (bW [0,4]) ?_
  repeat(first|refine GW ?_|(refine GN ?_;first|refine QW (aC (v:=av az (pn:Int)) aK.ty I (aH (i:=1) I I)) ?_|refine QW (aC (v:=av az (dn:Int)) aK.ty I (aH (i:=1) I I)) ?_|refine QW (aC (v:=ap (aj ⟨pb,po,ak⟩) g.aF.length cp) aK.ty I (aH (i:=0) I I)) ?_|refine QW (aX bM.eq aK.ty I I hpn) ?_|refine QW (aC (v:=ap bb (dc g.aF (pn:Int)).2.length cb) aK.ty I (agv _ 1 _ I)) ?_))
  try refine GA ?_
  refine dj [0,1,2,3] ?_;exact bY (k+1,vs) (by show k+1<=s.length;omega) (by show s.length-(k+1)<s.length-k;omega) (hl:=by dsimp only;rw[td];rfl)
 ·obtain rfl:k=s.length:=by omega
  rw[mH]
  try refine GA ?_
  exact cJ I I λw hm=>hm.meets (S:=MV t (kz g.aF t s nx)) (g7,vs) trivial [2,3] aiT I
end cI
namespace cI
open Go.RowKit cU dS aT dP dL bJ cT
section
variable{P:Program}{n:Nat}{W:bO}{fr:Fr}{L:List cH}{Q:Exit->Act->World->Prop}{ops:Array Oper}{rest:List Oper}{d:Nat}{ty:TypeId}{pos:String}{after:Array Edge}
theorem MW{α:Type}{f:α->List Value}{c:Nat}(hc:∀a,(f a).length=c)(h0:0<c)(z:α){t e:TypeId}{x y:Operand}{bytes m:Nat}{k k':IntKind}{zs:Array Value}[rf P t e c bytes][bT P e zs](hz:zs.toList=f z)(hx:ev fr x=aj (.int k (m:Int)))(hy:ev fr y=aj (.int k' (m:Int)))(hb:bytes*m<=281474976710656)(ra:m<=9223372036854775807)(hn:dv d n=aD)
 (h:∀g,TL P n W ops Q rest ((d,ap (aj ⟨g,0,ak⟩) m m)::fr) (L++[a_ e c (ap (aj ⟨g,0,ak⟩) m m) m ((da m z).flatMap f)])):TL P n W ops Q (⟨aj d,.makeSlice t x y,ty,pos,after,ak⟩::rest) fr L:=by
 refine uj hx hy (bx _) hb ra hn λg=>GY (i:=L.length) c (Aa ..) (by rw[size_madeCells]) (bx _) ra ?_;have hsz:zs.size=c:=by rw[<-Array.length_toList,hz,hc]
 have hl:(madeCells zs (m*c)).toList.take (m*c)=(da m z).flatMap f:=by
  rw[ac7 hsz h0,gB (by simp[hz,hc]),hz,P7,JM]
 rw[hl];have:=h g
 rwa [List.set_append_right _ _ (bx _),oa,List.set_cons_zero]
end
abbrev VB:=Int×Int×bJ.Act×bJ.Act
def MX(x:VB):List Value:=[av az x.1,av az x.2.1,av az x.2.2.1.1,av az x.2.2.1.2,av az x.2.2.2.1,av az x.2.2.2.2]
def oE:wL bJ.Act:=yM jj 2 (λ_=>rfl) (λ_=>True)
section
variable(l:List aT.Prod)(T:Nat)(Nx:List (List Int))(S:List (List bJ.Item))
abbrev E4(q c:Nat):List bJ.Act:=kz l T (S.getD q []) (Nx.getD q []) c
def wE(q c:Nat):List VB:=(E4 l T Nx S q c).tail.map λx=>((q:Int),(c:Int),(E4 l T Nx S q c).headD (0,0),x)
def iD(q:Nat):Nat->List VB
 |0=>[]
 |c+1=>iD q c++wE l T Nx S q c
def iE:Nat->List VB
 |0=>[]
 |q+1=>iE q++iD l T Nx S q (T+1)
def g_(q c:Nat):List bJ.Act:=(eh (T+1)).map λj=>if j<c then pM l T Nx S q j else(0,0)
def ig(n:Nat):List (List bJ.Act):=(eh n).map λq=>g_ l T Nx S q (T+1)
def fB(n:Nat):List (List Int):=(eh n).map λq=>(Nx.getD q []).drop T
end
def iG(g:eb):List (List bJ.Act)×List (List Int)×List VB×Int:=if(jw g).2.2≠0 then([],[],[],(jw g).2.2)else(ig g.aF g.aR.toNat (jw g).1 (jw g).2.1 (jw g).2.1.length,fB g.aR.toNat (jw g).1 (jw g).2.1.length,iE g.aF g.aR.toNat (jw g).1 (jw g).2.1 (jw g).2.1.length,0)
structure Qw where
 vA:Value
 Cg:List Value
 FA:Nat->Prop
 vG:Value
 Ch:List Value
 FG:Nat->Prop
def UY(x:Qw)(A:List (List bJ.Act))(G:List (List Int)):List cH:=[a_ 143 1 x.vA A.length x.Cg,ef (bL oE) x.FA (x.Cg.map λv=>[v]) A,a_ 27 1 x.vG G.length x.Ch,ef (bL fG) x.FG (x.Ch.map λv=>[v]) G]
def Qx(g:eb):Spec (Qw×Value):=⟨λ_=>True,λx=> .tuple #[aQ #[x.1.vA,x.1.vG],x.2,av az (iG g).2.2.2],λx=>UY x.1 (iG g).1 (iG g).2.1++[a_ 148 6 x.2 (iG g).2.2.1.length ((iG g).2.2.1.flatMap MX)]⟩
theorem Qy(w:World):(dh 37 (#[]:Array (Nat×Value))).run aB w= .ok (aQ #[ap ak 0 0,ap ak 0 0]) w:=by kernel_rfl
theorem UZ(q c:Int)(a b:bJ.Act)(w:World):(dh 148 #[(0,av az q),(1,av az c),(2,aQ (jj a).toArray),(3,aQ (jj b).toArray)]).run aB w= .ok (aQ (MX (q,c,a,b)).toArray) w:=by kernel_rfl
theorem E5{w:World}{v:Value}{l:List bJ.Act}(h:(a_ 146 2 v l.length (l.flatMap jj)).holds w):(bL oE).is (λk=>v.ownBlock=aj k) w [v] l:=
 ⟨v,rfl,jW.of_flat (Sl.dB h) (λ_ _=>trivial) (λ_ h=>h) (λa n cp hv=>by rw[hv];rfl)⟩
theorem pS{l:List aT.Prod}{T:Nat}{Nx:List (List Int)}{S:List (List bJ.Item)}{q c:Nat}:(g_ l T Nx S q c).length=T+1:=by unfold g_;rw[dF,pH]
theorem ZF{l:List aT.Prod}{T:Nat}{Nx:List (List Int)}{S:List (List bJ.Item)}{q:Nat}:g_ l T Nx S q 0=da (T+1) (0,0):=by
 unfold g_;apply nb;intro j
 by_cases h:j<T+1
 simp[h];simp[h]
theorem Qz{l:List aT.Prod}{T:Nat}{Nx:List (List Int)}{S:List (List bJ.Item)}{q c:Nat}(hc:c<T+1):(g_ l T Nx S q c).set c (pM l T Nx S q c)=g_ l T Nx S q (c+1):=by
 unfold g_;apply nb;intro j;rw[List.getElem?_set]
 by_cases h:j<T+1
 ·by_cases e:c=j
  subst e;simp[h];rw[if_neg e];simp only[eS,List.getElem?_range h,Option.map_some]
  by_cases e2:j<c
  rw[if_pos e2,if_pos J];rw[if_neg e2,if_neg J]
 have h1:(eh (T+1))[j]?=none:=kG (by rw[pH];omega);simp only[eS,h1,Option.map_none];split
 ·rename_i e;subst e;exact absurd hc h
 rfl
theorem MY{l:List aT.Prod}{T:Nat}{Nx:List (List Int)}{S:List (List bJ.Item)}{q c:Nat}(h:E4 l T Nx S q c=[]):g_ l T Nx S q (c+1)=g_ l T Nx S q c:=by
 unfold g_;apply List.map_congr_left;intro j hj
 by_cases e:j=c
 ·subst e
  rw[if_pos (nv _),if_neg (EO _)];unfold pM;rw[show kz l T (S.getD q []) (Nx.getD q []) j=[]from h];rfl
 by_cases e2:j<c
 rw[if_pos e2,if_pos J];rw[if_neg e2,if_neg J]
theorem E6{l:List aT.Prod}{T:Nat}{Nx:List (List Int)}{S:List (List bJ.Item)}{q:Nat}{M:Nat}(h:(S.getD q []).length<=M):∀c,(iD l T Nx S q c).length<=c*(M+1)
 |0=>bH _
 | c +1=>by
  rw[iD,bI,k7];have h2:(wE l T Nx S q c).length<=M+1:=by
   unfold wE;rw[dF,P8];have:(E4 l T Nx S q c).length<=1+(S.getD q []).length:=by rw[E4,<-HU];exact A7
   omega
  have:=E6 (l:=l) (T:=T) (Nx:=Nx) h c;omega
theorem BL{l:List aT.Prod}{T:Nat}{Nx:List (List Int)}{S:List (List bJ.Item)}{M:Nat}(h:∀q,(S.getD q []).length<=M):∀q,(iE l T Nx S q).length<=q*((T+1)*(M+1))
 |0=>bH _
 |q+1=>by
  rw[iE,bI,k7];have:=BL (l:=l) (T:=T) (Nx:=Nx) h q;have:=E6 (l:=l) (T:=T) (Nx:=Nx) (h q) (T+1);omega
theorem zx{l:List aT.Prod}{T:Nat}{Nx:List (List Int)}{S:List (List bJ.Item)}{q c:Nat}:∀{d:Nat},c<=d->(iD l T Nx S q c).length<=(iD l T Nx S q d).length
  | 0, h => by obtain rfl:c=0:=by omega
               exact bx _
  | d+1,h=>by
    by_cases e:c=d+1
    subst e;exact bx _;rw[iD,bI];have:=zx (l:=l) (T:=T) (Nx:=Nx) (S:=S) (q:=q) (c:=c) (d:=d) J;omega
theorem MZ{l:List aT.Prod}{T:Nat}{Nx:List (List Int)}{S:List (List bJ.Item)}(n:Nat):ig l T Nx S (n+1)=ig l T Nx S n++[g_ l T Nx S n (T+1)]:=by unfold ig;rw[ye,eV];rfl
theorem JY{T:Nat}{Nx:List (List Int)}(n:Nat):fB T Nx (n+1)=fB T Nx n++[(Nx.getD n []).drop T]:=by unfold fB;rw[ye,eV];rfl
theorem je{l:List aT.Prod}{T:Nat}{Nx:List (List Int)}{S:List (List bJ.Item)}(n:Nat):(ig l T Nx S n).length=n:=by unfold ig;rw[dF,pH]
theorem mb{T:Nat}{Nx:List (List Int)}(n:Nat):(fB T Nx n).length=n:=by unfold fB;rw[dF,pH]
theorem JZ(v:Value)(g:eb)(w:World)(hG:kj (λk=>k<w.heap.size) w v g):
 Calls aB 23 #[v] w (cB (Qx g) w):=by
 have hG0:=hG;have hal:=λw' (hg:Gr w w')=>UJ v g w' (hG.gr hg);have hac:=λT JI hT bS oS lS cS bN oN lN cN n nP vn1 s nx w' (hg:Gr w w')=>JX v g T JI hT bS oS lS cS bN oN lN cN n nP vn1 s nx w' (hG.gr hg);obtain⟨vp,rfl,-⟩:=hG;have Ct:=Qy;have hO:iG g=if(jw g).2.2≠0 then([],[],[],(jw g).2.2)else(ig g.aF g.aR.toNat (jw g).1 (jw g).2.1 (jw g).2.1.length,fB g.aR.toNat (jw g).1 (jw g).2.1.length,iE g.aF g.aR.toNat (jw g).1 (jw g).2.1 (jw g).2.1.length,0):=rfl
 unfold Qx UY;refine enter (args:=[dJ g.aR g.bC vp]) (n:=92) Tryz.func23 I I I ?_;refine cC (bz (bR I I I λg1=>?_));refine zL ?_
 try refine GA ?_
 refine aY I λg2=>?_;refine zL ?_
 repeat(first|refine GA ?_|refine gV (aO (i:=0) aK.ty I I I) ?_)
 refine aV (hZ aI.en I I) (λw hm=>hal w hm.below) I I I ?_;rintro⟨vS,vN,wC,F,BH,FN⟩ _
 conv=>arg 8;simp only[zJ,cK,ret,id_eq,abX]
 conv=>arg 7;simp only[abX]
 have lq:=Si (g:=g);have hno:=ab0 (g:=g);obtain⟨⟨Nx,S,e⟩,hOA⟩:∃R,jw g=R:=⟨_,rfl⟩;rw[hOA]at lq hno hO;rw[hOA];dsimp only at lq hno hO⊢;refine qn (i:=2) I fW λgJ=>?_;obtain⟨aS,cS,rfl,-,haS⟩:=gJ;refine qn (i:=4) I fW λgJ=>?_;obtain⟨aN,cN,rfl,-,haN⟩:=gJ;clear hOA hal
 try refine GA ?_
 refine aY I λg5=>?_;refine zL ?_;refine gC 6 (cs':=#[ap aS S.length cS,ap aN Nx.length cN]) ?_;refine zL ?_
 try refine GA ?_
 by_cases c0:e=0
 ·subst c0
  rw[if_neg (by simp)]at hO;obtain⟨hg,hA⟩:=lq rfl;obtain⟨hT1,hT2,hN1,Xs,BF,hgb⟩:=cP hg;have KR:∀q∈g.aF,q.2.length<=8:=λq hq=>(hgb q hq).1;obtain⟨T,JI⟩:∃T:Nat,g.aR=(T:Int):=⟨g.aR.toNat,by omega⟩;obtain⟨N,hNn⟩:∃N:Nat,g.bC=(N:Int):=⟨g.bC.toNat,by omega⟩;have hTn:g.aR.toNat=T:=by omega
  rw[hTn,show g.bC.toNat=N by omega]at hA;rw[hTn]at hO;have hT:T<=30:=by omega
  have hI:=Me KR BF hT hA;have P4:=abZ KR BF hT hA;have hS0:0<S.length:=(cX.1 hI.start).1;have hS2:=hI.B7;have hNl:=hI.len;have hac:=hac T JI hT;obtain⟨gS,rfl⟩:=haS hS0;obtain⟨gN,rfl⟩:=haN J;clear lq hno haS haN;rw[JI,hO];rw[JI]at hac
  try refine GA ?_
  refine aY I λg7=>?_;refine zL ?_
  repeat(first|refine GA ?_|refine gV (aC (v:=ap (aj ⟨gS,0,ak⟩) S.length cS) aK.ty I (aH (i:=6) I I)) ?_)
  refine jf 143 1 (mB (ef (bL oE) (λ_=>False) [] []) (λk hk=>hk.elim (λh=>by cases h) id) (λw=>jk) (jf 27 1 (mB (ef (bL fG) (λ_=>False) [] []) (λk hk=>hk.elim (λh=>by cases h) id) (λw=>jk) (jf 148 6 ?_))))
  conv=>arg 7;simp only[zA,zB,zC,zD,zE,zF,zG,zH,zI,cK,ret,id_eq]
  refine ea (ι:=Nat×Qw×Value) (λ(n,_,_)=>n<=S.length) (λ(n,_,vf)=>[(1,aJ (aj ⟨g1,0,ak⟩)),(2,aJ (aj ⟨g2,0,ak⟩)),(5,aJ (aj ⟨g5,0,ak⟩)),(7,aJ (aj ⟨g7,0,ak⟩)),(8,vf),(26,av az (S.length:Int)),(27,av az (n:Int))])
   (λ(n,x,vf)=>[aP g1 (dJ (T:Int) g.bC vp).cells 34,aP g2 #[ap ak 0 0,ap ak 0 0] 37,a_ 203 1 (ap (aj ⟨gS,0,ak⟩) S.length cS) S.length wC,ef (bL Jy) F (wC.map λv=>[v]) S,a_ 27 1 (ap (aj ⟨gN,0,ak⟩) Nx.length cN) Nx.length BH,ef (bL fG) FN (BH.map λv=>[v]) Nx,aP g5 #[ap (aj ⟨gS,0,ak⟩) S.length cS,ap (aj ⟨gN,0,ak⟩) Nx.length cN] 140,aP g7 #[x.vA,x.vG] 37,a_ 143 1 x.vA (ig g.aF T Nx S n).length x.Cg,ef (bL oE) x.FA (x.Cg.map λv=>[v]) (ig g.aF T Nx S n),a_ 27 1 x.vG (fB T Nx n).length x.Ch,ef (bL fG) x.FG (x.Ch.map λv=>[v]) (fB T Nx n),a_ 148 6 vf (iE g.aF T Nx S n).length ((iE g.aF T Nx S n).flatMap MX)]) (λ(n,_,_)=>S.length-n) (0,⟨ap ak 0 0,[],λ_=>False,ap ak 0 0,[],λ_=>False⟩,ap ak 0 0) (bH _) ?_
  rintro⟨n,x,vf⟩ i1;dsimp only at i1⊢
  by_cases c1:n<S.length
  ·have hnN:n<Nx.length:=by omega
   have hSn:S.getD n []=S[n]:=by rw[b9,bD c1];rfl
   have aeR:Nx.getD n []=Nx[n]:=by rw[b9,bD hnN];rfl
   have Vz:=hI.ss.right S[n] (cD c1);have hwd:=hI.wide n c1;rw[aeR]at hwd;have ry:=P4 S[n] (cD c1);refine iu (i:=3) I (λw h=>HG h) λhvl=>?_;refine iu (i:=5) I (λw h=>HG h) λhnl=>?_;have hvq:wC[0+n]?=aj (wC[n]' J):=by rw[cV];exact bD _
   have agy:wC[n]?=aj (wC[n]' J):=bD _;generalize wC[n]' J=vq at hvq agy;have hnq:BH[0+n]?=aj (BH[n]' J):=by rw[cV];exact bD _
   have ZG:BH[n]?=aj (BH[n]' J):=bD _;generalize BH[n]' J=nq at hnq ZG;refine iu (i:=5) I (λw h=>bX (Y1 h hnN ZG) (jW.okp (PZ h hnN ZG))) λagz=>?_;obtain⟨⟨aq,cq,rfl,hcq,aiJ,-⟩,ahZ⟩:=agz;have wP:(iE g.aF T Nx S n++iD g.aF T Nx S n (T+1)).length<=100000000:=by
    have h1:=BL (l:=g.aF) (T:=T) (Nx:=Nx) (S:=S) (M:=11439) (λq=>by
     by_cases hq:q<S.length
     rw[b9,bD hq];exact P4 _ (cD hq);rw[b9,kG J];exact bH _) (n+1)
    rw[iE]at h1;exact fw h1 (fw (EN (show n+1<=200 by omega) (EN (show T+1<=31 by omega) (bx _))) aiT)
   have hS1:=λ(L:List cH) (i:Nat) (hL:L[i]?=aj (ef (bL Jy) F (wC.map λv=>[v]) S))=>P0 (W:=(w:bO)) (L:=L) (f:=iP) (c:=3) aiT hL c1 agy;have hN1:∀(L:List cH) (i:Nat) (hL:L[i]?=aj (ef (bL fG) FN (BH.map λv=>[v]) Nx)),SlL (w:bO) L (.slice aq Nx[n].length cq) Nx[n].length (Nx[n].map (av .i64)):=λL i hL w' rq=>by
    have:=P0 (W:=(w:bO)) (L:=L) (f:=λn=>[av .i64 n]) (c:=1) aiT hL hnN ZG w' rq
    rwa [<-P6]at this
   repeat(first|refine GC ?_|refine gV (aC (v:=av az (T:Int)) aK.ty I (aH (i:=0) I I)) ?_|refine gV (eT (r:=((T+1:Nat):Int)) I I J J J) ?_|refine GB ?_)
   refine MW rN aiT (0,0) I I I J J I λg10=>?_;rw[<-ZF (l:=g.aF) (Nx:=Nx) (S:=S) (q:=n)];refine zL ?_
   repeat(first|refine GA ?_|refine gV (aO (i:=0) aK.ty I I I) ?_|refine gV (aO (i:=6) aK.ty I I I) ?_)
   refine aV (S:=MV T (kz g.aF T S[n] Nx[n])) (rX aI.en I I I I) (λw hm=>hac gS 0 S.length cS gN 0 Nx.length cN n vq (.slice aq Nx[n].length cq) S[n] Nx[n] w hm.below BF c1 (yV (hm.get (i:=2) I) hvq) (hS1 _ 3 I w hm) hnN (yV (hm.get (i:=4) I) hnq) (hN1 _ 5 I w hm) J Vz J J) I I I ?_;rintro⟨ga,vs⟩ _
   conv=>arg 8;simp only[zJ,cK,ret,id_eq,MV]
   conv=>arg 7;simp only[MV]
   rw[<-hSn,<-aeR];clear hac
   try refine GA ?_
   refine nZ (ι:=Nat×Value) (λ(c,_)=>c<=T+1) (λ(c,vf)=>[(1,aJ (aj ⟨g1,0,ak⟩)),(2,aJ (aj ⟨g2,0,ak⟩)),(5,aJ (aj ⟨g5,0,ak⟩)),(7,aJ (aj ⟨g7,0,ak⟩)),(8,vf),(26,av az (S.length:Int)),(27,av az (n:Int)),(9,av az (n:Int)),(10,ap (aj ⟨g10,0,ak⟩) (T+1) (T+1)),(37,ap (aj ⟨ga,0,ak⟩) (T+1) (T+1)),(38,av az ((T+1:Nat):Int)),(39,av az (c:Int))])
    (λ(c,vf)=>[aP g1 (dJ (T:Int) g.bC vp).cells 34,aP g2 #[ap ak 0 0,ap ak 0 0] 37,a_ 203 1 (ap (aj ⟨gS,0,ak⟩) S.length cS) S.length wC,ef (bL Jy) F (wC.map λv=>[v]) S,a_ 27 1 (ap (aj ⟨gN,0,ak⟩) Nx.length cN) Nx.length BH,ef (bL fG) FN (BH.map λv=>[v]) Nx,aP g5 #[ap (aj ⟨gS,0,ak⟩) S.length cS,ap (aj ⟨gN,0,ak⟩) Nx.length cN] 140,aP g7 #[x.vA,x.vG] 37,a_ 143 1 x.vA (ig g.aF T Nx S n).length x.Cg,ef (bL oE) x.FA (x.Cg.map λv=>[v]) (ig g.aF T Nx S n),a_ 27 1 x.vG (fB T Nx n).length x.Ch,ef (bL fG) x.FG (x.Ch.map λv=>[v]) (fB T Nx n),a_ 148 6 vf (iE g.aF T Nx S n++iD g.aF T Nx S n c).length ((iE g.aF T Nx S n++iD g.aF T Nx S n c).flatMap MX),a_ 146 2 (ap (aj ⟨g10,0,ak⟩) (T+1) (T+1)) (T+1) ((g_ g.aF T Nx S n c).flatMap jj),fq 143 vU ga (T+1) vs,ji (λj=>j<T+1) (od vs (kz g.aF T (S.getD n []) (Nx.getD n [])))]) (λ(c,_)=>T+1-c) (0,vf) (bH _) (by repeat' (first|exact bZ|refine bX I ?_)) (by dsimp only;rw[iD,dW]) ?_
   rintro⟨c,vf⟩ j1;dsimp only at j1⊢
   by_cases c2:c<T+1
   ·obtain⟨X,hX⟩:∃X,kz g.aF T (S.getD n []) (Nx.getD n []) c=X:=⟨_,rfl⟩
    have hXl:X.length<=11440:=by
     rw[<-hX,<-HU];have:=A7 (l:=g.aF) (T:=T) (nx:=Nx.getD n []) (t:=T) (s:=S.getD n []) (c:=c);rw[hSn]at this⊢;omega
    have agA:=Qz (l:=g.aF) (Nx:=Nx) (S:=S) (q:=n) c2;have agB:X=[]->g_ g.aF T Nx S n (c+1)=g_ g.aF T Nx S n c:=λh=>MY (by unfold E4;rw[hX,h]);have hhd:pM g.aF T Nx S n c=X.headD (0,0):=by unfold pM;rw[hX]
    have KH:iD g.aF T Nx S n (c+1)=iD g.aF T Nx S n c++X.tail.map λx=>(((n:Int),(c:Int),X.headD (0,0),x):VB):=by
     rw[iD,wE];unfold E4;rw[hX]
    have aiK:(iE g.aF T Nx S n++iD g.aF T Nx S n c).length<=100000000:=by
     rw[bI]at wP⊢;have:=zx (l:=g.aF) (T:=T) (Nx:=Nx) (S:=S) (q:=n) (show c<=T+1 by omega);omega
    generalize agC:iE g.aF T Nx S n++iD g.aF T Nx S n c=base at*;refine iu (i:=15) I (λw h=>fW w (h.1 c c2)) λgJ=>?_;obtain⟨ax,cx,hvc,-,hax⟩:=gJ;rw[hX]at hvc hax;have ZH:∀(L:List cH) (i:Nat) (gx:Nat),ax=aj ⟨gx,0,ak⟩->L[i]?=aj (ji (λj=>j<T+1) (od vs (kz g.aF T (S.getD n []) (Nx.getD n []))))->∀k (hk:k<X.length) (j:Nat) (u:Value),(jj X[k])[j]?=aj u->At (w:bO) L ⟨gx,0+k*2+j,ak⟩ u:=λL i gx hgx hL k hk j u hu=>aa2 hL λw h=>by
     have h2:=h.1 c c2;unfold od at h2;rw[hvc,hX,hgx]at h2;have hj2:j<2:=by rw[<-rN X[k]];exact(cX.1 hu).1
     exact yV h2 (by rw[cV,ue rN X k j hk hj2];exact hu)
    repeat(first|refine GA ?_|refine gV (cz bM.eq aK.ty I I c2) ?_|refine gV (aC (v:=ap ax X.length cx) aK.ty I (by have:=fV (W:=(w:bO)) (val:=vU) (i:=14) (f:=vs) (e:=143) (g:=ga) (len:=T+1) (L:=[aP g1 (dJ (T:Int) g.bC vp).cells 34,aP g2 #[ap ak 0 0,ap ak 0 0] 37,a_ 203 1 (ap (aj ⟨gS,0,ak⟩) S.length cS) S.length wC,ef (bL Jy) F (wC.map λv=>[v]) S,a_ 27 1 (ap (aj ⟨gN,0,ak⟩) Nx.length cN) Nx.length BH,ef (bL fG) FN (BH.map λv=>[v]) Nx,aP g5 #[ap (aj ⟨gS,0,ak⟩) S.length cS,ap (aj ⟨gN,0,ak⟩) Nx.length cN] 140,aP g7 #[x.vA,x.vG] 37,a_ 143 1 x.vA (ig g.aF T Nx S n).length x.Cg,ef (bL oE) x.FA (x.Cg.map λv=>[v]) (ig g.aF T Nx S n),a_ 27 1 x.vG (fB T Nx n).length x.Ch,ef (bL fG) x.FG (x.Ch.map λv=>[v]) (fB T Nx n),a_ 148 6 vf (base).length ((base).flatMap MX),a_ 146 2 (ap (aj ⟨g10,0,ak⟩) (T+1) (T+1)) (T+1) ((g_ g.aF T Nx S n c).flatMap jj),fq 143 vU ga (T+1) vs,ji (λj=>j<T+1) (od vs (kz g.aF T (S.getD n []) (Nx.getD n [])))]) I c2;rw[hvc]at this;exact this)) ?_)
    refine nZ (ι:=Nat×Value) (λ(i,_)=>i<=X.length) (λ(i,vf)=>[(1,aJ (aj ⟨g1,0,ak⟩)),(2,aJ (aj ⟨g2,0,ak⟩)),(5,aJ (aj ⟨g5,0,ak⟩)),(7,aJ (aj ⟨g7,0,ak⟩)),(8,vf),(26,av az (S.length:Int)),(27,av az (n:Int)),(9,av az (n:Int)),(10,ap (aj ⟨g10,0,ak⟩) (T+1) (T+1)),(37,ap (aj ⟨ga,0,ak⟩) (T+1) (T+1)),(38,av az ((T+1:Nat):Int)),(11,av az (c:Int)),(12,ap ax X.length cx),(39,av az (c:Int)),(44,ap ax X.length cx),(45,av az (X.length:Int)),(46,av az (i:Int))])
     (λ(i,vf)=>[aP g1 (dJ (T:Int) g.bC vp).cells 34,aP g2 #[ap ak 0 0,ap ak 0 0] 37,a_ 203 1 (ap (aj ⟨gS,0,ak⟩) S.length cS) S.length wC,ef (bL Jy) F (wC.map λv=>[v]) S,a_ 27 1 (ap (aj ⟨gN,0,ak⟩) Nx.length cN) Nx.length BH,ef (bL fG) FN (BH.map λv=>[v]) Nx,aP g5 #[ap (aj ⟨gS,0,ak⟩) S.length cS,ap (aj ⟨gN,0,ak⟩) Nx.length cN] 140,aP g7 #[x.vA,x.vG] 37,a_ 143 1 x.vA (ig g.aF T Nx S n).length x.Cg,ef (bL oE) x.FA (x.Cg.map λv=>[v]) (ig g.aF T Nx S n),a_ 27 1 x.vG (fB T Nx n).length x.Ch,ef (bL fG) x.FG (x.Ch.map λv=>[v]) (fB T Nx n),a_ 148 6 vf ((base++(X.tail.take (i-1)).map λx=>(((n:Int),(c:Int),X.headD (0,0),x):VB))).length (((base++(X.tail.take (i-1)).map λx=>(((n:Int),(c:Int),X.headD (0,0),x):VB))).flatMap MX),a_ 146 2 (ap (aj ⟨g10,0,ak⟩) (T+1) (T+1)) (T+1) ((if i=0 then g_ g.aF T Nx S n c else g_ g.aF T Nx S n (c+1)).flatMap jj),fq 143 vU ga (T+1) vs,ji (λj=>j<T+1) (od vs (kz g.aF T (S.getD n []) (Nx.getD n [])))]) (λ(i,_)=>X.length-i) (0,vf) (bH _) (by repeat' (first|exact bZ|refine bX I ?_)) (by simp) ?_
    rintro⟨i,vf⟩ k1;dsimp only at k1⊢
    by_cases c3:i<X.length
    ·have ah0:=λ(L:List cH) (k:Nat) (gx:Nat) (hgx:ax=aj ⟨gx,0,ak⟩) (hL:L[k]?=aj (ji (λj=>j<T+1) (od vs (kz g.aF T (S.getD n []) (Nx.getD n [])))))=>ZH L k gx hgx hL i c3
     obtain⟨gx,rfl⟩:=hax J;have aeS:∀(L:List cH) (k:Nat),L[k]?=aj (ji (λj=>j<T+1) (od vs (kz g.aF T (S.getD n []) (Nx.getD n []))))->∀(j:Nat) (u:Value),(jj (X.headD (0,0)))[j]?=aj u->At (w:bO) L ⟨gx,0+0*2+j,ak⟩ u:=λL k hL j u hu=>ZH L k gx I hL 0 J j u (by
      have:X.headD (0,0)=X[0]' J:=by
       cases X with
       |nil=>exact absurd c3 (Nat.not_lt_zero _)
       |cons y r=>rfl
      rwa [this]at hu)
     have hXi:i=0->X[i]=pM g.aF T Nx S n c:=λe=>by
      subst e;rw[hhd]
      cases X with
      |nil=>exact absurd c3 (l5 _)
      |cons y r=>rfl
     have hXt:i≠0->X.tail.take (i+1-1)=X.tail.take (i-1)++[X[i]]:=λe=>by
      obtain⟨m,rfl⟩:∃m,i=m+1:=⟨i-1,by omega⟩
      cases X with
      |nil=>exact absurd c3 (l5 _)
      | cons y r=>
       have hm:m<r.length:=by simpa using c3
       show r.take (m+1)=r.take m++[r[m]]
       exact iv hm
     have aih:(base++(X.tail.take (i-1)).map λx=>(((n:Int),(c:Int),X.headD (0,0),x):VB)).length<=100100000:=by
      rw[bI,dF,iZ,P8];omega
     have hbf:=UZ (n:Int) (c:Int) (X.headD (0,0));generalize hXX:X[i]=xa at*;clear ZH hS1 hN1
     repeat(first|refine GA ?_|refine gV (aX bM.eq aK.ty I I c3) ?_|refine gV (a8 (cs:=jj xa) aK.ty I I (ah0 _ 15 gx I I)) ?_)
     refine aY I λg14=>?_;refine zL ?_
     try refine GA ?_
     refine gC 16 (cs':=(jj xa).toArray) ?_;refine zL ?_
     by_cases q1:i=0
     ·subst q1
      rw[if_pos I];have hXi:=hXi I
      repeat(first|refine GA ?_|refine gV (aO (i:=16) aK.ty I I I) ?_|refine gV (aX bM.eq aK.ty I I c2) ?_)
      refine Ao rN (k:=c) (a:=xa) (i:=13) aK.ty I I J (by rw[pS];exact c2) pS.symm I I I ?_;rw[hXi,agA];refine zL ?_
      try refine GA ?_
      refine dj [0,1,2,3,4,5,6,7,8,9,10,11,12,13,14,15] ?_;exact bY (0+1,vf) (by show 0+1<=X.length;omega) (by show X.length-(0+1)<X.length-0;omega) (hl:=by dsimp only;rw[if_neg J];rfl)
     rw[if_neg q1];have mX:base++(X.tail.take (i+1-1)).map (λx=>(((n:Int),(c:Int),X.headD (0,0),x):VB))=(base++(X.tail.take (i-1)).map λx=>(((n:Int),(c:Int),X.headD (0,0),x):VB))++[((n:Int),(c:Int),X.headD (0,0),xa)]:=by rw[hXt q1,eV,<-eD];rfl
     clear hXt;generalize (base++(X.tail.take (i-1)).map λx=>(((n:Int),(c:Int),X.headD (0,0),x):VB))=fb at*
     try refine GA ?_
     refine dN ([ji (λj=>j<T+1) (od vs (kz g.aF T (S.getD n []) (Nx.getD n []))),aP g14 (jj xa).toArray 146]) (.calm 0 (.calm 1 (.calm 2 (.calm 3 (.calm 4 (.calm 5 (.calm 6 (.calm 7 (.one 8 (.one 9 (.calm 10 (.done)))))))))))) (bW [15,16]) ?_
     repeat(first|refine GW ?_|(refine GN ?_;first|refine QW (aX (j:=0) bM.eq aK.ty I I (show 0<X.length by omega)) ?_|refine QW (a8 (cs:=jj (X.headD (0,0))) aK.ty I I (aeS _ 0 I)) ?_|refine QW (aO (i:=1) aK.ty I I I) ?_|refine QW (bB I (hbf _)) ?_))
     refine aL I (fF (cs:=(MX ((n:Int),(c:Int),X.headD (0,0),xa)).toArray) I I I I I λg65=>aM (bW [15,16]) ?_);refine aL I (mw (i:=12) (q:=17) I I I I I I J J I λvf2=>aM (bW [15,16]) ?_)
     try refine GW ?_
     try refine GA ?_
     refine dj [0,1,2,3,4,5,6,7,8,9,10,11,12,13,14,15] ?_;exact bY (i+1,vf2) (by show i+1<=X.length;omega) (by show X.length-(i+1)<X.length-i;omega) (hl:=by dsimp only;rw[if_neg J,mX,bI,fC];rfl)
    obtain rfl:i=X.length:=by omega
    have agD:(if X.length=0 then g_ g.aF T Nx S n c else g_ g.aF T Nx S n (c+1))=g_ g.aF T Nx S n (c+1):=by
     by_cases e:X.length=0
     rw[if_pos e];exact(agB (List.eq_nil_of_length_eq_zero e)).symm;rw[if_neg e]
    have htt:X.tail.take (X.length-1)=X.tail:=gB (by rw[P8];exact bx _);rw[agD,htt]
    try refine GA ?_
    exact bY (c+1,vf) (by show c+1<=T+1;omega) (by show T+1-(c+1)<T+1-c;omega) (hl:=by dsimp only;rw[KH,<-eD,agC])
   obtain rfl:c=T+1:=by omega
   have hTN:T<=Nx[n].length:=by omega
   have Rf:(Nx[n].drop T).length=Nx[n].length-T:=jc;have qf:(Nx[n].drop T).take (Nx[n].length-T)=Nx[n].drop T:=gB (by rw[Rf];exact bx _);have hSub:∀(L:List cH) (i:Nat),L[i]?=aj (ef (bL fG) FN (BH.map λv=>[v]) Nx)->SlL (w:bO) L (tw aq cq 1 T Nx[n].length) (Nx[n].length-T) ((Nx[n].drop T).map (av .i64)):=λL i hL w' rq=>by
    have h1:=P0 (W:=(w:bO)) (L:=L) (f:=λn=>[av .i64 n]) (c:=1) aiT hL hnN ZG w' rq;have h2:=Dq (i:=T) (j:=Nx[n].length) (f:=λn=>[av .i64 n]) (λ_=>rfl) h1 hTN (bx _);rw[qf,Rf,<-P6]at h2;exact h2
   have adm:((Nx[n].drop T).map (av .i64)).length=(Nx[n].length-T)*1:=by rw[dF,Rf,kH]
   have adn:∀u∈(Nx[n].drop T).map (av .i64),u.oneCell'=true:=λu hu=>by obtain⟨y,_,rfl⟩:=eX.1 hu;rfl
   have hgo:∀{v:Value} {w':World},(a_ 3 1 v (0+(Nx[n].length-T)) ([]++(Nx[n].drop T).map (av .i64))).holds w'->(bL fG).is (λk=>v.ownBlock=aj k) w' [v] ((Nx.getD n []).drop T):=λ{v w'} h=>by
    rw[aeR];rw[cV,eu,<-Rf]at h;exact BG (λy hy=>ahZ y (List.mem_of_mem_drop hy)) h
   repeat(first|refine GA ?_|refine gV (aC (v:=x.vA) aK.ty I (aH (i:=7) I I)) ?_)
   have hAl:=je (l:=g.aF) (T:=T) (Nx:=Nx) (S:=S) n;have hGl:=mb (T:=T) (Nx:=Nx) n;refine jT (i:=8) I I I I I I (λz h=>by cases h;rfl) J J I λz vA2=>?_;refine zL ?_;refine pa (ef (bL oE) (λk=>x.FA k\/(ap (aj ⟨g10,0,ak⟩) (T+1) (T+1)).ownBlock=aj k) ((x.Cg.map λv=>[v])++[[ap (aj ⟨g10,0,ak⟩) (T+1) (T+1)]]) (ig g.aF T Nx S n++[g_ g.aF T Nx S n (T+1)])) 13 9 [0,1,2,3,4,5,6,7,8,10,11,12] aiT I I I (λk hk=>hk.elim (λh=>by cases h) λh=>h.elim (λh=> .inr (.inr h)) λh=> .inl (.inl h)) (λw hr he=>mA he (E5 (by rw[pS];exact hr)) (zk hr)) ?_;refine zL ?_
   try refine GA ?_
   refine aU (i:=8) I λkT lC=>bU (i:=7) I I I kT lC I ?_;refine zL ?_
   try refine GA ?_
   refine jf 3 1 ?_
   conv=>arg 7;simp only[zA,zB,zC,zD,zE,zF,zG,zH,zI,cK,ret,id_eq]
   refine dN ([aP g1 (dJ (T:Int) g.bC vp).cells 34,a_ 27 1 (ap (aj ⟨gN,0,ak⟩) Nx.length cN) Nx.length BH,ef (bL fG) FN (BH.map λv=>[v]) Nx,aP g5 #[ap (aj ⟨gS,0,ak⟩) S.length cS,ap (aj ⟨gN,0,ak⟩) Nx.length cN] 140]) (.calm 0 (.calm 2 (.calm 3 (.calm 4 (.calm 5 (.calm 6 (.calm 7 (.calm 8 (.calm 9 (.two 1 (.one 10 (.one 11 (.one 12 (.calm 13 (.one 14 (.done)))))) 10 (.two 1 (.one 11 (.one 12 (.calm 13 (.one 14 (.done))))) 11 (.one 1 (.one 12 (.calm 13 (.one 14 (.done)))))))))))))))) (bW [0,4,5,6]) ?_
   repeat(first|(refine GN ?_;first|refine QW QP ?_|refine QW (aC (v:=ap (aj ⟨gN,0,ak⟩) Nx.length cN) aK.ty I (aH (i:=3) I I)) ?_|refine QW (cz bM.eq aK.ty I I hnN) ?_|refine QW (aC (v:= .slice aq Nx[n].length cq) aK.ty I (ki (i:=1) I hnq)) ?_|refine QW (aC (v:=av az (T:Int)) aK.ty I (aH (i:=0) I I)) ?_|refine QW (rm (i:=T) bM.eq aK.ty I I hTN hcq) ?_|refine GX ?_)|refine GW ?_)
   refine eG I I ?agE ?agF
   case' agE=>
    refine dx (aC (v:=x.vG) aK.ty I (aH (i:=7) I I)) I I I (aM (bW [0,4,5,6]) ?_);refine aL I (eK (i:=13) (k:=Nx[n].length-T) I (hSub _ 5 I) I I adm adn J J I λvI=>aM (bW [0,4,5,6]) ?_);refine aL I (aU (i:=13) I λhw1 hw2=>fF (cs:=#[vI]) I hw1 I I I λg86=>aM (bW [0,4,5,6]) ?_)
   case' agF=>
    refine eK (i:=13) (k:=Nx[n].length-T) I (hSub _ 5 I) I I adm adn J J I λvI=>aM (bW [0,4,5,6]) ?_;refine eG I I ?agG ?agH
   case' agG=>
    refine dx (aC (v:=x.vG) aK.ty I (aH (i:=7) I I)) I I I (aM (bW [0,4,5,6]) ?_);refine aL I (aU (i:=13) I λhw1 hw2=>fF (cs:=#[vI]) I hw1 I I I λg86=>aM (bW [0,4,5,6]) ?_)
   case' agH=>
    refine aU (i:=13) I λhw1 hw2=>fF (cs:=#[vI]) I hw1 I I I λg86=>aM (bW [0,4,5,6]) ?_;refine aL I (dx (aC (v:=x.vG) aK.ty I (aH (i:=7) I I)) I I I (aM (bW [0,4,5,6]) ?_))
   all_goals
    refine aL I (lu (i:=9) (q:=14) I I I I I hw2 J J I λvG2=>aM (bW [0,4,5,6]) ?_)
    try refine GW ?_
    refine aL I (aU (i:=9) I λkT lC=>bU (i:=7) I I I kT lC I (aM (bW [0,4,5,6]) ?_))
    try refine GW ?_
    refine ww (ef (bL fG) (λk=>x.FG k\/vI.ownBlock=aj k) ((x.Ch.map λv=>[v])++[[vI]]) (fB T Nx n++[(Nx.getD n []).drop T])) 13 10 [0,1,2,3,4,5,6,7,8,9,11,12] aiT I I I (λk hk=>hk.elim (λh=>by cases h) λh=>h.elim (λh=> .inr (.inr h)) λh=> .inl (.inl h)) (λw hr he=>mA he (hgo hr) (zk hr)) ?_
    try refine GA ?_
    refine dj [0,1,2,3,4,5,6,7,8,11,9,12,10] ?_;exact bY (n+1,⟨vA2,x.Cg++[ap (aj ⟨g10,0,ak⟩) (T+1) (T+1)],λk=>x.FA k\/(ap (aj ⟨g10,0,ak⟩) (T+1) (T+1)).ownBlock=aj k,vG2,x.Ch++[vI],λk=>x.FG k\/vI.ownBlock=aj k⟩,vf) (by show n+1<=S.length;omega) (by show S.length-(n+1)<S.length-n;omega) (hl:=by dsimp only;rw[show(ig g.aF T Nx S (n+1)).length=(ig g.aF T Nx S n).length+1 by rw[je,je],show(fB T Nx (n+1)).length=(fB T Nx n).length+1 by rw[mb,mb],MZ,JY,eV,eV];rfl)
  obtain rfl:n=S.length:=by omega
  refine iu (i:=8) I (λw h=>fW w h) λgJ=>?_;obtain⟨aA,cA,hvA,-⟩:=gJ;refine iu (i:=10) I (λw h=>fW w h) λgJ=>?_;obtain⟨aG,cG,hvG,-⟩:=gJ;obtain⟨vA,Cg,FA,vG,Ch,FG⟩:=x;dsimp only at hvA hvG⊢;subst hvA hvG
  repeat(first|refine GA ?_|refine gV (aO (i:=7) aK.ty I I I) ?_)
  refine gC 1 ?_;refine zL ?_
  try refine GA ?_
  exact fm (i:=1) I I I I I I λw hm=>hm.meets (S:=⟨λ(_:Qw×Value)=>True,λx=> .tuple #[aQ #[x.1.vA,x.1.vG],x.2,av az 0],λx=>[a_ 143 1 x.1.vA (ig g.aF T Nx S S.length).length x.1.Cg,ef (bL oE) x.1.FA (x.1.Cg.map λv=>[v]) (ig g.aF T Nx S S.length),a_ 27 1 x.1.vG (fB T Nx S.length).length x.1.Ch,ef (bL fG) x.1.FG (x.1.Ch.map λv=>[v]) (fB T Nx S.length),a_ 148 6 x.2 (iE g.aF T Nx S S.length).length ((iE g.aF T Nx S S.length).flatMap MX)]⟩) (⟨ap aA _ cA,Cg,FA,ap aG _ cG,Ch,FG⟩,vf) trivial [8,9,10,11,12] aiT I
 ·rw[if_pos c0]at hO
  rw[hO]
  repeat(first|refine GC ?_|refine gV (dr (b:=aD) I I (decide_eq_true c0)) ?_|refine gV (bB I Ct) ?_|refine GB ?_)
  refine gC 1 ?_;refine zL ?_
  try refine GA ?_
  refine dK 143 1 (qm (ef (bL oE) (λ_=>False) [] []) (λk hk=>hk.elim (λh=>by cases h) id) (λw=>jk) (dK 27 1 (qm (ef (bL fG) (λ_=>False) [] []) (λk hk=>hk.elim (λh=>by cases h) id) (λw=>jk) (dK 148 6 ?_))));exact fm (i:=1) I I I I I I λw hm=>hm.meets (S:=⟨λ(_:Qw×Value)=>True,λx=> .tuple #[aQ #[x.1.vA,x.1.vG],x.2,av az e],λx=>[a_ 143 1 x.1.vA 0 x.1.Cg,ef (bL oE) x.1.FA (x.1.Cg.map λv=>[v]) [],a_ 27 1 x.1.vG 0 x.1.Ch,ef (bL fG) x.1.FG (x.1.Ch.map λv=>[v]) [],a_ 148 6 x.2 0 []]⟩) (⟨ap ak 0 0,[],λ_=>False,ap ak 0 0,[],λ_=>False⟩,ap ak 0 0) trivial [7,8,9,10,11] aiT I
end cI
namespace xZ
open aT dP fM dL cI
def QB(O:Nat->Nat->Bool)(h a:Nat):Nat->Nat->Bool:=λi j=>if i=h/\j=a then aD else O i j
def fal(N m:Nat)(O:Nat->Nat->Bool):Nat:=eQ (λi=>eQ (λj=>if O i j=aD then 0 else 1) m) N
def ZI(l:List aT.Prod)(w:List Int)(O:Nat->Nat->Bool):Prop:=∀(k:Nat) a,O k a=aD->a<=w.length->∃v,FV l (2,(k:Int)) (w.drop a++v)
theorem J0{f f':Nat->Nat}:∀{k i:Nat},i<k->(∀j,j<k->f j<=f' j)->f i<f' i->eQ f k<eQ f' k
 | k +1,i,hi,h,hl=>by
  rw[eQ,eQ]
  by_cases e:i=k
  ·subst e
   have:=AK (f:=f) (f':=f') i λj hj=>h j J;omega
  have:=J0 (f:=f) (f':=f') (k:=k) (i:=i) J (λj hj=>h j J) hl;have:=h k J;omega
theorem acd{N m h a:Nat}{O:Nat->Nat->Bool}(hh:h<N)(ha:a<m)(ho:O h a=aE):fal N m (QB O h a)<fal N m O:=by
 have hle:∀i j,(if QB O h a i j=aD then 0 else 1)<=(if O i j=aD then 0 else 1):=λi j=>by
  unfold QB
  by_cases e:i=h/\j=a
  rw[if_pos e,if_pos I];exact bH _;rw[if_neg e];exact bx _
 unfold fal;refine J0 hh (λi _=>AK m λj _=>hle i j) (J0 ha (λj _=>hle h j) ?_);have e1:QB O h a h a=true:=by unfold QB;rw[if_pos ⟨rfl,rfl⟩]
 rw[e1,ho];decide
structure M0(l:List aT.Prod)(w:List Int)(o:dy->Nat->Nat->Nat)(M:List Bool)(N:Nat)(O O':Nat->Nat->Bool)(more:Bool)(i a:Nat):Prop where
 sound:ZI l w O'
 less:more=aD->fal N (w.length+1) O'<fal N (w.length+1) O
 still:more=aE->O'=O/\∀q a',(q<i\/(q=i/\a'<a))->∀h:q<l.length,a'<=w.length->JN o O M w.length a' l[q].2=aD->O l[q].1.toNat a'=aD
section
variable{l:List aT.Prod}{w:List Int}{n:Nat}{c:uF}{M:List Bool}{O O':Nat->Nat->Bool}{more:Bool}{i a:Nat}
theorem M0.start(h:ZI l w O)(o:dy->Nat->Nat->Nat)(N:Nat):M0 l w o M N O O aE 0 0:=⟨h,λh=>by(cases h),λ_=>⟨rfl,λq a' h=>by omega⟩⟩
theorem M0.set(hM:∀i:Nat,M.getD i aE=aD->∃ws,FV l (2,(i:Int)) ws)(hc:Lfp w l n c)(hs:px n l){N:Nat}(h:M0 l w (DT c w) M N O O' more i a)(hi:i<l.length)(ha:a<=w.length)(hN:l[i].1.toNat<N)(h0:O' l[i].1.toNat a=aE)(h1:JN (DT c w) O' M w.length a l[i].2=aD):M0 l w (DT c w) M N O (QB O' l[i].1.toNat a) aD i (a+1):=by
 obtain⟨s1,s2,s3⟩:=hs _ (cD hi);refine⟨λk b hk hb=>?_,λ_=>?_,λe=>by cases e⟩
 ·unfold QB at hk
  by_cases e:k=l[i].1.toNat/\b=a
  ·obtain⟨rfl,rfl⟩:=e
   obtain⟨v,hv⟩:=JO hM hc hs h.sound ha (λx hx=>(s3 x hx)) h1;exact⟨v,.non (by show(2:Int)≠1;decide) (cD hi) (by show l[i].1=((l[i].1.toNat:Nat):Int);omega) hv⟩
  rw[if_neg e]at hk;exact h.sound k b hk hb
 have:=acd (N:=N) (m:=w.length+1) hN (by omega:a<w.length+1) h0
 cases hm:more
 ·obtain⟨rfl,_⟩:=h.still hm
  exact this
 have:=h.less hm;omega
end
theorem ZJ{n:Nat}{l:List aT.Prod}(hf:DZ n l)(hs:px n l):DY (LB l) (λs=>X3 n s/\x6 l s) (Bu n):=
 ⟨λs xC=>⟨(D5 hf).keep s xC.1,y9 hs l (λ_ h=>h) _ xC.2⟩,λs xC=>(D5 hf).dec s xC.1⟩
theorem ZK{g:eb}{n:Nat}(iW:b_ g=0)(hn:g.bC=n):X3 n (wQ n g.aF)/\x6 g.aF (wQ n g.aF):=by
 have hf:=y6 iW hn;have hs:=TS iW hn;have hz:∀i:Nat,(da n aE).getD i aE=false:=λi=>by
  rw[b9,List.getElem?_replicate];split<;>rfl
 have h0:x6 g.aF ⟨da n aE,(da n aE).set 0 aD,da n aE,aE⟩:=
  ⟨λi h=>(by have h:(da n aE).getD i aE=true:=h;rw[hz i]at h;cases h),λi h=>(by have h:(da n aE).getD i aE=true:=h;rw[hz i]at h;cases h)⟩
 obtain⟨s',h1,h2,h3⟩:=y0 (ZJ hf hs) _ ⟨da n aE,(da n aE).set 0 aD,da n aE,aE⟩ ⟨⟨by simp,by simp,by simp⟩,h0⟩ (bx _);have e:wQ n g.aF=gD g.aF ⟨s'.E,s'.R,s'.M,aE⟩:=h3;rw[e];exact(ZJ hf hs).keep s' h1
end xZ
namespace cI
open Go.RowKit cU dS dl gj gT aT cT B5
def A8(g:eb):List Bool:=(wQ g.bC.toNat g.aF).R
def A9(g:eb):List Bool:=(wQ g.bC.toNat g.aF).M
def yt(g:eb):List Cl:=mE g.aF (A6 g.bC.toNat g.aF) g.aR.toNat g.bC.toNat
def Ci(s:Sp)(e:Int):Int×Int:=
 if pP s≠0 then(pP s,0)else if s.words.length=0\/s.rules.length=0 then(1,0)else if e≠0 then(e,0)
 else if(A8 (c_ s)).any (· ==aE)=aD\/(A9 (c_ s)).any (· ==aE)=aD then(4,0)
 else if(yt (c_ s)).length=0 then(0,1)
 else if(iG (c_ s)).2.2.2≠0 then((iG (c_ s)).2.2.2,0)else if 0<(iG (c_ s)).2.2.1.length then(12,0)else(0,2)
structure Gh where
 vo:Value
 vp:Value
 F:Nat->Prop
 gP:Nat
 Zz:Nat->Value
 vT:Value
 gR:Nat
 vsR:Nat->Value
 tx:Qw
def BM:Gh:=⟨ap ak 0 0,ap ak 0 0,λ_=>False,0,λ_=>ap ak 0 0,ap ak 0 0,0,λ_=>ap ak 0 0,⟨ap ak 0 0,[],λ_=>False,ap ak 0 0,[],λ_=>False⟩⟩
def Gh.pk(x:Gh)(R:List Row):List Value:=eY (ym R 256) (ap (aj ⟨x.gP,0,ak⟩) R.length R.length) x.vT
structure agI(x:Gh):Prop where
 o:x.vo.oneCell'=aD
 p:x.vp.oneCell'=aD
 t:x.vT.oneCell'=aD
def Gh.lex(x:Gh)(s:Sp)(R:List Row)(T:List Int):List cH:=
 [a_ 3 1 x.vo s.words.length ((JS s.words).1.map (av .i64)),n_ x.F x.vp (c_ s).aF,fq 27 yr x.gP R.length x.Zz,UU R.length (nD R 256) x.Zz,a_ 3 1 x.vT T.length (T.flatMap cU.ez)]
def vW(e:Int):Spec Gh:=⟨λ_=>True,λ_=> .tuple #[aQ FP.toArray,av az e],λ_=>[]⟩
def Gh.cLL(x:Gh)(g:eb)(R:List Row):Array Value:=(jd x.vo (x.pk R) (fK g.aR g.bC x.vp 1 (ap (aj ⟨x.gR,0,ak⟩) g.bC.toNat g.bC.toNat) (ap ak 0 0) (ap ak 0 0))).toArray
def Gh.cLR(x:Gh)(g:eb)(R:List Row):Array Value:=(jd x.vo (x.pk R) (fK g.aR g.bC x.vp 2 (ap ak 0 0) x.tx.vA x.tx.vG)).toArray
def Gh.rows(x:Gh)(g:eb):List cH:=[fq 27 vU x.gR g.bC.toNat x.vsR,ji (λj=>j<g.bC.toNat) (mY g.aF (A6 g.bC.toNat g.aF) g.aR.toNat x.vsR g.bC.toNat 0)]
def ace(s:Sp)(R:List Row)(T:List Int):Spec Gh:=
 ⟨agI,λx=> .tuple #[.agg (x.cLL (c_ s) R),av az 0],λx=>x.lex s R T++x.rows (c_ s)⟩
def acf(s:Sp)(R:List Row)(T:List Int):Spec Gh:=
 ⟨λx=>agI x/\x.tx.vA.oneCell'=aD/\x.tx.vG.oneCell'=aD,λx=> .tuple #[.agg (x.cLR (c_ s) R),av az 0],λx=>x.lex s R T++UY x.tx (iG (c_ s)).1 (iG (c_ s)).2.1⟩
def pT(s:Sp)(r:Int×List Row×List Int):Spec Gh:=
 if(Ci s r.1).1≠0 then vW (Ci s r.1).1 else if(Ci s r.1).2=1 then ace s r.2.1 r.2.2 else acf s r.2.1 r.2.2
theorem zy{s:Sp}{r:Int×List Row×List Int}(h:Sy s r)(h0:r.1=0):b_ (c_ s)=0/\mh r.2.1 r.2.2=0:=by
 have hn:vO s=0->b_ (c_ s)=0:=λh=>by
  unfold vO at h;generalize b_ (c_ s)=e at*
  by_cases c:e≠0
  rw[if_pos c]at h;cases h;exact sQ c
 rcases h with⟨k,hk,-,rfl⟩|⟨es,m,-,-,h3,h4,h5,-,⟨h,rfl⟩|⟨-,h,rfl⟩|⟨h,-,hc,rfl⟩⟩
 exact absurd h0 hk;exact absurd h0 h;exact absurd h0 h;refine⟨hn h,?_⟩;have:=Sn hc;dsimp only;exact this
set_option maxRecDepth 100000 in
theorem zz(v:Value)(s:Sp)(r:Int×List Row×List Int)(hx:Sy s r)(w:World)(hv:UK (p9 w) w v s)(Hw:∀r∈s.rules,r.2.length<=8796093021952):
 Calls aB 5 #[v] w (cB (pT s r) w):=by
 have iW:=λw' (hg:Gr w w')=>Gg v s w' (hv.gr hg);have hv0:=hv;obtain⟨vw,vr,rfl,hw,hr⟩:=hv;obtain⟨bw,cw,rfl,-⟩:=hw;obtain⟨br,cr,rfl,-⟩:=hr;have hM:Ci s r.1=if pP s≠0 then(pP s,0)else if s.words.length=0\/s.rules.length=0 then(1,0)else if r.1≠0 then(r.1,0)
  else if(A8 (c_ s)).any (· ==aE)=aD\/(A9 (c_ s)).any (· ==aE)=aD then(4,0)
  else if(yt (c_ s)).length=0 then(0,1)
  else if(iG (c_ s)).2.2.2≠0 then((iG (c_ s)).2.2.2,0)else if 0<(iG (c_ s)).2.2.1.length then(12,0)else(0,2):=rfl
 have nK:∀e m,Ci s r.1=(e,m)->e≠0->pT s r=vW e:=λe m h he=>by unfold pT;rw[h,if_pos he]
 have hLL:Ci s r.1=(0,1)->pT s r=ace s r.2.1 r.2.2:=λh=>by unfold pT;rw[h];rfl
 have hLR:Ci s r.1=(0,2)->pT s r=acf s r.2.1 r.2.2:=λh=>by unfold pT;rw[h];rfl
 have Ct:=UR;have Cj:FP.toArray.toList.all eZ=true:=vP I Sw I;have hsz:FP.toArray.size=266:=kB iU I;refine enter (args:=[aQ #[ap bw s.words.length cw,ap br s.rules.length cr]]) (n:=86) Tryz.func5 I I I ?_;refine cC (bz (bR I I I λg1=>aY I λg2=>?_));rw[sU];refine zL ?_
 repeat(first|refine GA ?_|refine gV (aO (i:=0) aK.ty I I I) ?_)
 refine aV (hZ aI.en I I) (λw hm=>iW _ hm.below) I I I ?_;intro _ _;refine zL ?_
 by_cases c0:pP s≠0
 ·rw[if_pos c0]at hM
  rw[nK _ _ hM c0]
  repeat(first|refine GC ?_|refine gV (dr (b:=aD) I I (decide_eq_true c0)) ?_|refine gV (bB I Ct) ?_|refine GB ?_)
  refine aW (i:=1) (cs':=FP.toArray) I I I hsz Cj hsz ?_;refine zL ?_
  try refine GA ?_
  exact eE (i:=1) I I I hsz I λw hm=>hm.meets (S:=vW (pP s)) BM trivial [] aiT I
 rw[if_neg c0]at hM;have ZL:pP s=0:=sQ c0;have w4:s.words.length<=60/\s.rules.length<=60:=by
  unfold pP at ZL
  by_cases c:60<s.words.length\/60<s.words.length+s.rules.length
  rw[if_pos c]at ZL;cases ZL;omega
 rw[ZL];clear iW ZL
 by_cases c1:s.words.length=0\/s.rules.length=0
 ·rw[if_pos c1]at hM
  rw[nK _ _ hM aiT]
  by_cases c2:s.words.length=0
  ·repeat(first|refine GC ?_|refine gV (dr (b:=aE) I I (decide_eq_false (by simp))) ?_|refine gV (aC (v:=ap bw s.words.length cw) aK.ty I (aH (i:=0) I I)) ?_|refine gV (dg (b:=aD) I I (decide_eq_true J)) ?_|refine gV (bB I Ct) ?_|refine GB ?_)
   refine aW (i:=1) (cs':=FP.toArray) I I I hsz Cj hsz ?_;refine zL ?_
   try refine GA ?_
   exact eE (i:=1) I I I hsz I λw hm=>hm.meets (S:=vW 1) BM trivial [] aiT I
  repeat(first|refine GC ?_|refine gV (dr (b:=aE) I I (decide_eq_false (by simp))) ?_|refine gV (aC (v:=ap bw s.words.length cw) aK.ty I (aH (i:=0) I I)) ?_|refine gV (aC (v:=ap br s.rules.length cr) aK.ty I (aH (i:=0) I I)) ?_|refine gV (dg (b:=aE) I I (decide_eq_false J)) ?_|refine gV (dg (b:=aD) I I (decide_eq_true J)) ?_|refine gV (bB I Ct) ?_|refine GB ?_)
  refine aW (i:=1) (cs':=FP.toArray) I I I hsz Cj hsz ?_;refine zL ?_
  try refine GA ?_
  exact eE (i:=1) I I I hsz I λw hm=>hm.meets (S:=vW 1) BM trivial [] aiT I
 rw[if_neg c1]at hM;have Oj:=λgp w' B ho hm=>MP (ap bw s.words.length cw) (ap br s.rules.length cr) s r hx gp w hv0 w4.1 w4.2 Hw w' B ho hm
 repeat(first|refine GC ?_|refine gV (dr (b:=aE) I I (decide_eq_false (by simp))) ?_|refine gV (aC (v:=ap bw s.words.length cw) aK.ty I (aH (i:=0) I I)) ?_|refine gV (aC (v:=ap br s.rules.length cr) aK.ty I (aH (i:=0) I I)) ?_|refine gV (dg (b:=aE) I I (decide_eq_false J)) ?_|refine GB ?_)
 refine aY I λg5=>?_;rw[sU];refine zL ?_
 repeat(first|refine GA ?_|refine gV (aO (i:=0) aK.ty I I I) ?_)
 by_cases c2:r.1≠0
 ·rw[if_pos c2]at hM
  rw[nK _ _ hM c2];have km:∀gp,HT gp s r=⟨λ_=>True,λ_=>av az r.1,λ_=>[]⟩:=λgp=>if_neg c2;simp only[km]at Oj;refine bm [2] [0,1] aiT I I (fO aI.en I I I) (λw' rq hb=>Oj g5 w' _ (pZ.on (pZ.self w) rq (λo ho=>by simp at ho;subst ho;simp)) hb) I I I ?_;intro _ _;refine zL ?_
  repeat(first|refine GC ?_|refine gV (dr (b:=aD) I I (decide_eq_true c2)) ?_|refine gV (bB I Ct) ?_|refine GB ?_)
  refine aW (i:=1) (cs':=FP.toArray) I I I hsz Cj hsz ?_;refine zL ?_
  try refine GA ?_
  exact eE (i:=1) I I I hsz I λw hm=>hm.meets (S:=vW r.1) BM trivial [] aiT I
 rw[if_neg c2]at hM;have hr0:r.1=0:=sQ c2;obtain⟨hG,acg⟩:=zy hx hr0;have km:∀gp,HT gp s r=MO gp s r.2.1 r.2.2:=λgp=>if_pos hr0;simp only[km]at Oj;clear hx km c2;obtain⟨e,R,T⟩:=r;dsimp only at*;subst hr0;generalize Ci s 0=M at*;generalize NS:c_ s=g at*;refine bm [2] [0,1] aiT I I (fO aI.en I I I) (λw' rq hb=>Oj g5 w' _ (pZ.on (pZ.self w) rq (λo ho=>by simp at ho;subst ho;simp)) hb) I I I ?_;clear Oj;rintro⟨vo,vp,F,gP,Zz,vT⟩ ⟨k1,k2,k3⟩;dsimp only at k1 k2 k3;unfold MO;rw[NS];refine zL ?_;have dG:(eY (ym R 256) (ap (aj ⟨gP,0,ak⟩) R.length R.length) vT).length=258:=fN _ _ _;have F9:(eY (ym R 256) (ap (aj ⟨gP,0,ak⟩) R.length R.length) vT).all eZ=true:=by
  have:=yo (ym R 256) (vn:=ap (aj ⟨gP,0,ak⟩) R.length R.length) (vt:=vT) I k3
  simpa using this
 have hpx:∀x:Gh,x.gP=gP->x.vT=vT->eY (ym R 256) (ap (aj ⟨gP,0,ak⟩) R.length R.length) vT=x.pk R:=λx h1 h2=>by unfold Gh.pk;rw[h1,h2]
 generalize hPK:eY (ym R 256) (ap (aj ⟨gP,0,ak⟩) R.length R.length) vT=PK at*;obtain⟨a1,a2,a3,a4,a5,a6⟩:=cP hG;have aeT:∀w',(n_ F vp g.aF).holds w'->kj (λk=>k<w'.heap.size) w' (dJ g.aR g.bC vp) g:=λw' h=>yq (gok ⟨a1,by omega⟩) (gok ⟨by omega,by omega⟩) h
 repeat(first|refine GC ?_|refine gV (dr (b:=aE) I I (decide_eq_false (by simp))) ?_|refine gV (a8 (cs:=[av az g.aR,av az g.bC,vp]) aK.ty I I (λj v h=>aH (i:=2) I (sV dG h))) ?_|refine GB ?_)
 have hN:g.bC=(g.bC.toNat:Int):=by omega
 have hT:g.aR=(g.aR.toNat:Int):=by omega
 obtain⟨⟨-,hRl,hMl⟩,-⟩:=xZ.ZK hG hN;have Uj:=λw' h=>Em (dJ g.aR g.bC vp) g w' h hG g.bC.toNat hN;have KW:=λw' h=>JV (dJ g.aR g.bC vp) g w' h hG g.aR.toNat g.bC.toNat hT hN;have NI:=λw' h=>JZ (dJ g.aR g.bC vp) g w' h;unfold Qx UY at NI;refine aV (hZ aI.en I I) (λw' hm=>(Uj w' (aeT w' (hm.get (i:=4) I))).mono λe w2 h=>Eo h) I I I ?_;intro x5 _
 conv=>arg 8;simp only[zJ,cK,ret,id_eq,Ek.val]
 try refine GA ?_
 refine aY I λg7=>?_;refine gC 13 ?_;refine zL ?_
 repeat(first|refine GA ?_|refine gV (aC aK.ty I (aH (i:=13) I I)) ?_)
 have ZM:A8 g=(wQ g.bC.toNat g.aF).R:=rfl;have ZN:A9 g=(wQ g.bC.toNat g.aF).M:=rfl;generalize (wQ g.bC.toNat g.aF).R=Rc at*;generalize (wQ g.bC.toNat g.aF).M=Mk at*;rw[ZM,ZN]at hM;clear ZM ZN Uj;refine aV (fO aI.en I I I) (λw' hm=>pJ _ Rc aE w' (by have:=Sl.dB (hm.get (i:=11) I);rw[hRl];exact this)) I I I ?_;intro _ _;refine zL ?_
 cases E7:Rc.any (· ==aE)with
 |true=>
  rw[if_pos (.inl E7)]at hM;rw[nK _ _ hM aiT]
  repeat(first|refine GA ?_|refine gV (bB I Ct) ?_)
  refine aW (i:=1) (cs':=FP.toArray) I I I hsz Cj hsz ?_;refine zL ?_
  try refine GA ?_
  exact eE (i:=1) I I I hsz I λw hm=>hm.meets (S:=vW 4) BM trivial [] aiT I
 |false=>
 repeat(first|refine GA ?_|refine gV (aC aK.ty I (aH (i:=13) I I)) ?_)
 refine mv (fO aI.en I I I) (λw' hm=>pJ _ Mk aE w' (by have:=Sl.dB (hm.get (i:=12) I);rw[hMl];exact this)) I I I I I ?_;intro _ _;refine zL ?_
 cases ado:Mk.any (· ==aE)with
 |true=>
  rw[if_pos (.inr ado)]at hM;rw[nK _ _ hM aiT]
  repeat(first|refine GA ?_|refine gV (bB I Ct) ?_)
  refine aW (i:=1) (cs':=FP.toArray) I I I hsz Cj hsz ?_;refine zL ?_
  try refine GA ?_
  exact eE (i:=1) I I I hsz I λw hm=>hm.meets (S:=vW 4) BM trivial [] aiT I
 |false=>
 rw[if_neg (by rw[E7,ado];decide)]at hM;have gL:yt g=mE g.aF (A6 g.bC.toNat g.aF) g.aR.toNat g.bC.toNat:=rfl
 repeat(first|refine GA ?_|refine gV (a8 (cs:=[av az g.aR,av az g.bC,vp]) aK.ty I I (λj v h=>aH (i:=2) I (sV dG h))) ?_)
 refine aV (hZ aI.en I I) (λw' hm=>KW w' (aeT w' (hm.get (i:=4) I))) I I I ?_;rintro⟨gR,vsR,vcl⟩ _;unfold ZC;rw[<-gL];refine zL ?_
 by_cases c3:(yt g).length=0
 ·rw[if_pos c3]at hM
  rw[hLL hM]
  repeat(first|refine GC ?_|refine gV (e8 (i:=16) bM.eq I I) ?_|refine gV (dg (b:=aD) I I (decide_eq_true J)) ?_|refine GB ?_)
  refine dU 3 (i:=2) I I I I I I dG I ?_;refine zL ?_
  try refine GA ?_
  refine dU 4 (i:=2) I I I I I I dG I ?_;refine zL ?_
  repeat(first|refine GA ?_|refine gV (aO (i:=2) aK.ty I I (kB dG I)) ?_)
  refine aW (i:=1) (cs':=(jd vo PK (fK g.aR g.bC vp 1 (ap (aj ⟨gR,0,ak⟩) g.bC.toNat g.bC.toNat) (ap ak 0 0) (ap ak 0 0))).toArray) I I I (kB dG I) (vP k1 F9 (by simp only[fK,cZ,db,k2];rfl)) hsz ?_;refine zL ?_
  try refine GA ?_
  subst hPK;subst NS;exact eE (i:=1) I I I (kB dG I) I λw hm=>hm.meets (S:=ace s R T) ⟨vo,vp,F,gP,Zz,vT,gR,vsR,⟨ap ak 0 0,[],λ_=>False,ap ak 0 0,[],λ_=>False⟩⟩ ⟨k1,k2,k3⟩ [3,4,5,6,7,14,15] aiT I
 rw[if_neg c3]at hM
 repeat(first|refine GC ?_|refine gV (e8 (i:=16) bM.eq I I) ?_|refine gV (dg (b:=aE) I I (decide_eq_false J)) ?_|refine gV (a8 (cs:=[av az g.aR,av az g.bC,vp]) aK.ty I I (λj v h=>aH (i:=2) I (sV dG h))) ?_|refine GB ?_)
 refine aV (hZ aI.en I I) (λw' hm=>NI w' (aeT w' (hm.get (i:=4) I))) I I I ?_;rintro⟨⟨vA,Cg,FA,vG,Ch,FG⟩,vfi⟩ _;have hO:iG g=iG g:=rfl;refine zL ?_;generalize hOT:iG g=O at*;obtain⟨A,G,fi,e⟩:=O;dsimp only at hM⊢;refine aU (i:=17) I λ_ b1=>aU (i:=19) I λ_ b2=>?_
 try refine GA ?_
 refine aY I λg12=>?_;refine zL ?_;refine aW (i:=22) (cs':=#[vA,vG]) I I I I (by simp only[cZ,db,b1,b2];rfl) I ?_;refine zL ?_
 by_cases c4:e≠0
 ·rw[if_pos c4]at hM
  rw[nK _ _ hM c4]
  repeat(first|refine GC ?_|refine gV (dr (b:=aD) I I (decide_eq_true c4)) ?_|refine gV (bB I Ct) ?_|refine GB ?_)
  refine aW (i:=1) (cs':=FP.toArray) I I I hsz Cj hsz ?_;refine zL ?_
  try refine GA ?_
  exact eE (i:=1) I I I hsz I λw hm=>hm.meets (S:=vW e) BM trivial [] aiT I
 rw[if_neg c4]at hM
 repeat(first|refine GC ?_|refine gV (dr (b:=aE) I I (decide_eq_false c4)) ?_|refine GB ?_)
 by_cases c5:0<fi.length
 ·rw[if_pos c5]at hM
  rw[nK _ _ hM aiT]
  repeat(first|refine GC ?_|refine gV (e8 (i:=21) bM.eq I I) ?_|refine gV (dT (b:=aD) I I (decide_eq_true J)) ?_|refine gV (bB I Ct) ?_|refine GB ?_)
  refine aW (i:=1) (cs':=FP.toArray) I I I hsz Cj hsz ?_;refine zL ?_
  try refine GA ?_
  exact eE (i:=1) I I I hsz I λw hm=>hm.meets (S:=vW 12) BM trivial [] aiT I
 rw[if_neg c5]at hM;rw[hLR hM]
 repeat(first|refine GC ?_|refine gV (e8 (i:=21) bM.eq I I) ?_|refine gV (dT (b:=aE) I I (decide_eq_false J)) ?_|refine GB ?_)
 (repeat refine cC ?_)
 refine dN ([aP g12 #[vA,vG] 37]) (.calm 0 (.calm 1 (.one 2 (.calm 3 (.one 4 (.done)))))) (bW [22]) ?_
 repeat(first|refine GW ?_|(refine GN ?_;first|refine QW (aO (i:=0) aK.ty I I I) ?_))
 refine aL I (dU 3 (i:=2) I I I I I I dG I (aM (bW [22]) ?_));refine zL ?_
 try refine GW ?_
 refine aL I (Qf (i:=2) I I I b1 b2 I dG (aM (bW [22]) ?_));refine zL ?_
 try refine GW ?_
 repeat(first|refine GA ?_|refine gV (aO (i:=2) aK.ty I I (kB dG I)) ?_)
 refine aW (i:=1) (cs':=(jd vo PK (fK g.aR g.bC vp 2 (ap ak 0 0) vA vG)).toArray) I I I (kB dG I) (vP k1 F9 (by simp only[fK,cZ,db,k2,b1,b2];rfl)) hsz ?_;refine zL ?_
 try refine GA ?_
 subst hPK;subst NS;refine eE (i:=1) I I I (kB dG I) I λw hm=>hm.meets (S:=acf s R T) ⟨vo,vp,F,gP,Zz,vT,gR,vsR,⟨vA,Cg,FA,vG,Ch,FG⟩⟩ ⟨⟨k1,k2,k3⟩,b1,b2⟩ [3,4,5,6,7,17,18,19,20] aiT ?_;show _++UY _ (iG (c_ s)).1 (iG (c_ s)).2.1=_
 rw[hOT];rfl
end cI
namespace cI
open Go.RowKit cU dS aT B5
def sW(l:List aT.Prod)(n:Nat):List Int->Int
 |[]=>0
 |p::r=>if p< -1 then 1 else if(l.length:Int)<=p then 1 else if 0<=p/\(l.getD p.toNat (0,[])).1≠(n:Int)then 1 else sW l n r
def qz(l:List aT.Prod)(t:Int):Nat->List (List Int)->Int
 |_,[]=>0
 |n,r::rs=>if(r.length:Int)≠t+1 then 1 else if sW l n r≠0 then 1 else qz l t (n+1) rs
def E8(g:eb)(ll:List (List Int)):Int:=if b_ g≠0 then b_ g else if(ll.length:Int)≠g.bC then 1 else qz g.aF g.aR 0 ll
abbrev zK(w:World)(v:Value)(ll:List (List Int)):Prop:=jW (bL fG) (λk=>k<w.heap.size) w v ll
theorem Sz{F:Nat->Prop}{w:World}{b off:Nat}{ll:List (List Int)}(h:∀i (h:i<ll.length),∃cs,(bL fG).is F w cs ll[i]/\Rd w b (off+i*(bL fG).c) cs){k:Nat}(hk:k<ll.length):
 ∃vi,w.cell? ⟨b,off+k,ak⟩=aj vi/\Sl w vi ll[k].length (ll[k].map (.int .i64)):=by
 obtain⟨cs,⟨vi,rfl,h1⟩,hr⟩:=h k hk;refine⟨vi,?_,?_⟩
 ·have:=hr 0 vi I
  rwa [show(bL fG).c=1 from I,kH,Nat.add_zero]at this
 ·have:=h1.flat aiT
  rw[show(ll[k].flatMap λn=>[av .i64 n])=ll[k].map (.int .i64)from by rw[P7];induction ll[k]with
   |nil=>rfl
   |cons x r ih=>simp only[gh,xt,ih];rfl]at this
  exact this
set_option maxRecDepth 100000 in
theorem w8(v vr:Value)(g:eb)(ll:List (List Int))(w:World)(h:kj (λk=>k<w.heap.size) w v g)(hr:zK w vr ll):
 Calls aB 51 #[v,vr] w (cB (ret (av az (E8 g ll))) w):=by
 have iW:=λw' (hg:Gr w w')=>jJ v g w' (h.gr hg);obtain⟨vp,rfl,h1,_⟩:=h;obtain⟨br,cr,rfl,hr1,wk,DK⟩:=hr;unfold maxLen at wk;unfold E8
 by_cases c0:b_ g=0
 ·rw[if_neg (by simpa using c0)]
  obtain⟨a1,a2,a3,a4,a5,_⟩:=cP c0;rw[c0]at iW;obtain⟨t,nn,aF⟩:=g;dsimp only at*;obtain⟨bp,cp,rfl,IZ,FL,oo⟩:=h1;unfold maxLen at FL;refine enter (args:=[dJ t nn (ap bp aF.length cp),ap br ll.length cr]) (n:=64) Tryz.func51 I I I ?_;refine cC (bz (bR I I I λg2=>?_));refine zL ?_
  repeat(first|refine GA ?_|refine gV (aO (i:=0) aK.ty I I I) ?_)
  refine aV (hZ aI.en I I) (λw hm=>iW _ hm.below) I I I ?_;intro _ _;refine zL ?_
  by_cases c1:(ll.length:Int)=nn
  ·rw[if_neg (by simpa using c1)]
   repeat(first|refine GA ?_|refine gV (aC aK.ty I (aH (i:=0) I I)) ?_)
   generalize mR:qz aF t 0 ll=res;refine ea (ι:=Nat) (λn=>n<=ll.length/\res=qz aF t n (ll.drop n)) (λn=>[(2,aJ (aj ⟨g2,0,ak⟩)),(20,ap br ll.length cr),(21,av az ll.length),(22,av az (n:Int))]) (λ_=>[aP g2 (dJ t nn (ap bp aF.length cp)).cells 34]) (λn=>ll.length-n) 0 ⟨bH _,by rw[mC];exact mR.symm⟩ ?_;clear mR;rintro n ⟨i1,i2⟩
   by_cases c2:n<ll.length
   ·obtain⟨b,off,rfl,_,eL⟩:=DK J
    obtain⟨vi,y1,y2⟩:=Sz eL c2;have du:∀L,At w L ⟨b,off+n,ak⟩ vi:=λL=>kh y1;rw[eN c2,qz]at i2;clear eL y1;generalize ll[n]=r at*;obtain⟨bi,ci,rfl,z1,z2,z3⟩:=y2;unfold maxLen at z2
    by_cases c3:(r.length:Int)=t+1
    ·rw[if_neg (by simpa using c3)]at i2
     repeat(first|refine GA ?_|refine gV (cz bM.eq aK.ty I I c2) ?_|refine gV (aC aK.ty I (du _)) ?_|refine gV (aC aK.ty I (aH (i:=0) I I)) ?_)
     refine ea (ι:=Nat) (λj=>j<=r.length/\sW aF n r=sW aF n (r.drop j)) (λj=>[(2,aJ (aj ⟨g2,0,ak⟩)),(6,av az (n:Int)),(20,ap (aj ⟨b,off,ak⟩) ll.length cr),(21,av az ll.length),(22,av az (n:Int)),(33,ap bi r.length ci),(34,av az r.length),(35,av az (j:Int))]) (λ_=>[aP g2 (dJ t nn (ap bp aF.length cp)).cells 34]) (λj=>r.length-j) 0 ⟨bH _,rfl⟩ ?_;rintro j ⟨j1,j2⟩
     by_cases c4:j<r.length
     ·obtain⟨b',AA,rfl,GI⟩:=z3 J
      have ZO:=λL=>aer (L:=L) GI c4;rw[eN c4,sW]at j2;clear GI z3;generalize r[j]=p at*
      by_cases e1:p< -1
      ·rw[if_pos e1]at j2
       rw[j2,if_pos aiT]at i2;subst i2
       repeat(first|refine GA ?_|refine gV (cz bM.eq aK.ty I I c4) ?_|refine gV (aC aK.ty I (ZO _)) ?_|refine gV (aC aK.ty I (aH (i:=0) I I)) ?_)
       exact eM
      by_cases e2:(aF.length:Int)<=p
      ·rw[if_neg e1,if_pos e2]at j2
       rw[j2,if_pos aiT]at i2;subst i2
       repeat(first|refine GA ?_|refine gV (cz bM.eq aK.ty I I c4) ?_|refine gV (aC aK.ty I (ZO _)) ?_|refine gV (aC aK.ty I (aH (i:=0) I I)) ?_)
       exact eM
      rw[if_neg e1,if_neg e2]at j2
      by_cases e3:0<=p
      ·obtain⟨m,rfl⟩:∃m:Nat,p=m:=⟨p.toNat,by omega⟩
       have hm:m<aF.length:=by omega
       obtain⟨bq,ah1,rfl,_,hrq⟩:=oo J;obtain⟨bb,cb,q1,_,_⟩:=lA hrq hm;have agJ:∀(L:List cH),At w L ⟨bq,ah1+m*2+0,ak⟩ (av az aF[m].1):=λL=>kh (q1 0 _ I);rw[dq,b9,bD hm]at j2;dsimp only[Option.getD]at j2;clear q1 hrq;generalize aF[m]=pd at*;obtain⟨hd,_⟩:=pd;dsimp only at*
       by_cases e4:hd=(n:Int)
       ·rw[if_neg (λh=>h.2 e4)]at j2
        repeat(first|refine GA ?_|refine gV (cz bM.eq aK.ty I I c4) ?_|refine gV (aC aK.ty I (ZO _)) ?_|refine gV (aC aK.ty I (aH (i:=0) I I)) ?_|refine gV (aX bM.eq aK.ty I I hm) ?_|refine gV (aC aK.ty I (agJ _)) ?_)
        exact bY (j+1) ⟨by omega,j2⟩ J
       rw[if_pos ⟨e3,e4⟩]at j2;rw[j2,if_pos aiT]at i2;subst i2
       repeat(first|refine GA ?_|refine gV (cz bM.eq aK.ty I I c4) ?_|refine gV (aC aK.ty I (ZO _)) ?_|refine gV (aC aK.ty I (aH (i:=0) I I)) ?_|refine gV (aX bM.eq aK.ty I I hm) ?_|refine gV (aC aK.ty I (agJ _)) ?_)
       exact eM
      rw[if_neg (λh=>e3 h.1)]at j2
      repeat(first|refine GA ?_|refine gV (cz bM.eq aK.ty I I c4) ?_|refine gV (aC aK.ty I (ZO _)) ?_|refine gV (aC aK.ty I (aH (i:=0) I I)) ?_)
      exact bY (j+1) ⟨by omega,j2⟩ J
     rw[jo J,sW]at j2;rw[j2,if_neg aiT]at i2
     try refine GA ?_
     exact bY (n+1) ⟨by omega,i2⟩ J
    rw[if_pos (by simpa using c3)]at i2;subst i2
    repeat(first|refine GA ?_|refine gV (cz bM.eq aK.ty I I c2) ?_|refine gV (aC aK.ty I (du _)) ?_|refine gV (aC aK.ty I (aH (i:=0) I I)) ?_)
    exact eM
   rw[jo J,qz]at i2;subst i2
   try refine GA ?_
   exact eM
  rw[if_pos (by simpa using c1)]
  repeat(first|refine GA ?_|refine gV (aC aK.ty I (aH (i:=0) I I)) ?_)
  exact eM
 ·rw[if_pos (by simpa using c0)]
  generalize b_ g=e at*;refine enter (args:=[dJ g.aR g.bC vp,ap br ll.length cr]) (n:=64) Tryz.func51 I I I ?_;refine cC (bz (bR I I I λg2=>?_));refine zL ?_
  repeat(first|refine GA ?_|refine gV (aO (i:=0) aK.ty I I I) ?_)
  refine aV (hZ aI.en I I) (λw hm=>iW _ hm.below) I I I ?_;intro _ _;refine zL ?_
  try refine GA ?_
  exact eM
theorem ZP{l:List aT.Prod}{may:Nat->Nat}{T N g:Nat}{vs:Nat->Value}{w:World}(hl:l.length<=40)(hN:N<=20)(h1:(fq 27 vU g N vs).holds w)(h2:(ji (λj=>j<N) (mY l may T vs N 0)).holds w):
 zK w (ap (aj ⟨g,0,ak⟩) N N) (lY N λn=>lY (T+1) (B5.rowAt l may T n)):=by
 refine⟨aj ⟨g,0,ak⟩,N,by rw[iw],by rw[iw];exact bx _,by unfold maxLen;omega,λh0=>⟨g,0,rfl,(fq 27 vU g N vs).lt w h1 g (.inl I),λi hi=>?_⟩⟩;rw[iw]at hi;have hf:=h2.1 i hi;unfold mY Cf at hf;rw[if_pos hi]at hf;have yd:(lY N λn=>lY (T+1) (B5.rowAt l may T n))[i]'(by rw[iw];exact hi)=lY (T+1) (B5.rowAt l may T i):=by simp[lY]
 rw[yd];refine⟨[vs i],⟨vs i,rfl,?_⟩,λj u hj=>?_⟩
 ·have hs:=Sl.dB hf
  refine jW.of_flat (p:=cU.d_) (by rw[iw];rw[show((lY (T+1) (B5.rowAt l may T i)).flatMap λn=>[av .i64 n])=(lY (T+1) (B5.rowAt l may T i)).map aeQ from by
   rw[P7]
   induction lY (T+1) (B5.rowAt l may T i)with
   |nil=>rfl
   |cons x r ih=>simp only[gh,xt,ih];rfl];exact hs) (λa ha=>?_) (λb hb=>(a_ 3 1 (vs i) (T+1) _).lt w hf b (.inl hb)) (λa n cp he=>?_)
  ·unfold lY at ha
   obtain⟨c,_,rfl⟩:=eX.1 ha;have:=uH (l:=l) (may:=may) (T:=T) i c l.length;unfold B5.rowAt;exact⟨by omega,by omega⟩
  have hr:w.ownsRow 0 3 1 (vs i) (T+1) _:=hf;rcases hr.2 with⟨hv,h⟩|⟨gg,cap,jS,hv,_⟩
  omega;rw[hv]at he;simp only[iX,df]at he;rw[<-he.1];exact(a_ 3 1 (vs i) (T+1) _).lt w hf gg (.inl (by rw[hv];rfl))
 ·have hj0:j=0:=by
   have:=(cX.1 hj).1;simp at this;omega
  subst hj0;simp only[List.getElem?_cons_zero,df]at hj;subst hj;have:=AH h1 hi;rw[show 0+i*(bL fG).c+0=0+i by rw[show(bL fG).c=1 from I];omega];exact this
end cI
namespace cI
open Go.RowKit cU dS aT dP dL bJ cT
def A_(w:World)(t:Value)(A:List (List bJ.Act))(G:List (List Int)):Prop:=∃vA vG,t=aQ #[vA,vG]/\jW (bL oE) (λk=>k<w.heap.size) w vA A/\jW (bL fG) (λk=>k<w.heap.size) w vG G
theorem A_.gr{w w':World}{t:Value}{A:List (List bJ.Act)}{G:List (List Int)}(h:A_ w t A G)(hg:Gr w w'):A_ w' t A G:=let ⟨a,b,h1,h2,h3⟩:=h;⟨a,b,h1,h2.gr hg,h3.gr hg⟩
theorem ach{w:World}{x:Qw}{A:List (List bJ.Act)}{G:List (List Int)}(h1:(a_ 143 1 x.vA A.length x.Cg).holds w)(h2:(ef (bL oE) x.FA (x.Cg.map λv=>[v]) A).holds w)(h3:(a_ 27 1 x.vG G.length x.Ch).holds w)(h4:(ef (bL fG) x.FG (x.Ch.map λv=>[v]) G).holds w):A_ w (aQ #[x.vA,x.vG]) A G:=by
 have h1':(a_ 143 (bL oE).c x.vA A.length (x.Cg.map λv=>[v]).flatten).holds w:=by rw[EP];exact h1
 have h3':(a_ 27 (bL fG).c x.vG G.length (x.Ch.map λv=>[v]).flatten).holds w:=by rw[EP];exact h3
 exact⟨x.vA,x.vG,rfl,(xG h1' h2 aiT).mono λk hk=>xH h1' h2 k hk,(xG h3' h4 aiT).mono λk hk=>xH h3' h4 k hk⟩
theorem J1{α:Type}{s:wL α}{F:Nat->Prop}{w:World}{base:Option Addr}{n cap:Nat}{l:List (List α)}(h:jW (bL s) F w (ap base n cap) l){i:Nat}(hi:i<l.length):∃b off vi,base=aj ⟨b,off,ak⟩/\w.cell? ⟨b,off+i,ak⟩=aj vi/\jW s F w vi l[i]:=by
 obtain⟨adj,FQ,e,_,_,h3⟩:=h
 cases e
 obtain⟨b,off,rfl,_,h4⟩:=h3 J;obtain⟨cs,⟨vi,rfl,h5⟩,h6⟩:=h4 i hi;refine⟨b,off,vi,rfl,?_,h5⟩;have:=h6 0 vi I
 rwa [show off+i*(bL s).c+0=off+i by show off+i*1+0=_;omega]at this
theorem mL{α:Type}{s:wL α}{F:Nat->Prop}{w:World}{v:Value}{l:List α}(h:jW s F w v l):∃base cap,v=ap base l.length cap/\l.length<=cap/\cap<=9223372036854775807:=let ⟨b,c,h1,h2,h3,_⟩:=h;⟨b,c,h1,h2,by unfold maxLen at h3;omega⟩
def vX(T P n:Nat)(x:bJ.Act)(c:Nat):Prop:=(x.1=0/\x.2=0)\/(x.1=1/\c<T/\0<=x.2/\x.2<(n:Int))\/(x.1=2/\0<=x.2/\x.2<(P:Int))\/(x.1=3/\x.2=0/\c=T)
theorem J2(T P n:Nat)(nn:Int)(bp:Option Addr)(cp:Nat)(aA:Option Addr)(cA:Nat)(vG:Value)(x:bJ.Act)(c:Nat)(h:vX T P n x c)(w:World):
 Calls aB 87 #[dJ (T:Int) nn (ap bp P cp),aQ #[ap aA n cA,vG],aQ (jj x).toArray,av az (c:Int)] w (cB (ret (.bool aD)) w):=by
 obtain⟨k,m⟩:=x;unfold vX at h;dsimp only at h;refine enter (args:=[dJ (T:Int) nn (ap bp P cp),aQ #[ap aA n cA,vG],aQ (jj (k,m)).toArray,av az (c:Int)]) (n:=59) Tryz.func87 I I I ?_;refine cC (bz (bR I I I λg4=>?_));refine zL ?_;refine bR I I I λg5=>?_;refine zL ?_;refine bR I I I λg6=>?_;refine zL ?_;rcases h with⟨rfl,rfl⟩|⟨rfl,h1,h2,h3⟩|⟨rfl,h1,h2⟩|⟨rfl,rfl,rfl⟩
 ·repeat(first|refine GA ?_|refine gV (aC (v:=av az 0) aK.ty I (aH (i:=2) I I)) ?_)
  exact eM
 ·repeat(first|refine GA ?_|refine gV (aC (v:=av az 1) aK.ty I (aH (i:=2) I I)) ?_|refine gV (aC (v:=av az m) aK.ty I (aH (i:=2) I I)) ?_|refine gV (aC (v:=av az (T:Int)) aK.ty I (aH (i:=0) I I)) ?_|refine gV (aC (v:=ap aA n cA) aK.ty I (aH (i:=1) I I)) ?_)
  exact eM
 ·repeat(first|refine GA ?_|refine gV (aC (v:=av az 2) aK.ty I (aH (i:=2) I I)) ?_|refine gV (aC (v:=av az m) aK.ty I (aH (i:=2) I I)) ?_|refine gV (aC (v:=ap bp P cp) aK.ty I (aH (i:=0) I I)) ?_)
  exact eM
 ·repeat(first|refine GA ?_|refine gV (aC (v:=av az 3) aK.ty I (aH (i:=2) I I)) ?_|refine gV (aC (v:=av az 0) aK.ty I (aH (i:=2) I I)) ?_|refine gV (aC (v:=av az (c:Int)) aK.ty I (aH (i:=0) I I)) ?_)
  exact eM
structure rO(g:eb)(T N:Nat)(A:List (List bJ.Act))(G:List (List Int)):Prop where
 J3:b_ g=0
 aR:g.aR=(T:Int)
 bC:g.bC=(N:Int)
 pos:0<A.length
 B7:A.length<=200
 same:G.length=A.length
 wA:∀i (h:i<A.length),A[i].length=T+1
 dI:∀i (h:i<A.length),∀c (hc:c<A[i].length),vX T g.aF.length A.length A[i][c] c
 wG:∀i (h:i<G.length),G[i].length=N
 gos:∀i (h:i<G.length),∀y∈G[i],-1<=y/\y<(A.length:Int)
theorem w9(v t:Value)(g:eb)(T N:Nat)(A:List (List bJ.Act))(G:List (List Int))(h:rO g T N A G)(w:World)(hG:kj (λk=>k<w.heap.size) w v g)(ht:A_ w t A G):
 Calls aB 52 #[v,t] w (cB (ret (av az 0)) w):=by
 have iW:=λw' (hg:Gr w w')=>jJ v g w' (hG.gr hg);obtain⟨vp,rfl,hp,-,-⟩:=hG;obtain⟨bp,cp,rfl,-⟩:=hp;obtain⟨vA,vG,rfl,hA,hGo⟩:=ht;obtain⟨aA,cA,rfl,-,-⟩:=mL hA;obtain⟨aG,cG,rfl,-,-⟩:=mL hGo;obtain⟨hg,JI,hNn,AX,P4,td,hwA,aci,hwG,ZQ⟩:=h;obtain⟨hT1,hT2,-,Xs,BF,-⟩:=cP hg;rw[hg]at iW;rw[JI,hNn]at iW⊢;refine enter (args:=[dJ (T:Int) (N:Int) (ap bp g.aF.length cp),aQ #[ap aA A.length cA,ap aG G.length cG]]) (n:=93) Tryz.func52 I I I ?_;refine cC (bz (bR I I I λg2=>?_));refine zL ?_;refine bR I I I λg3=>?_;refine zL ?_
 repeat(first|refine GA ?_|refine gV (aO (i:=0) aK.ty I I I) ?_)
 refine aV (hZ aI.en I I) (λw hm=>iW w hm.below) I I I ?_;intro _ _;refine zL ?_
 repeat(first|refine GA ?_|refine gV (aC (v:=ap aA A.length cA) aK.ty I (aH (i:=1) I I)) ?_|refine gV (aC (v:=ap aG G.length cG) aK.ty I (aH (i:=1) I I)) ?_)
 clear iW;refine ea (ι:=Nat) (λi=>i<=A.length) (λi=>[(2,aJ (aj ⟨g2,0,ak⟩)),(3,aJ (aj ⟨g3,0,ak⟩)),(6,av az (A.length:Int)),(31,av az (A.length:Int)),(32,av az (i:Int))])
  (λ_=>[aP g2 (dJ (T:Int) (N:Int) (ap bp g.aF.length cp)).cells 34,aP g3 (aQ #[ap aA A.length cA,ap aG G.length cG]).cells 37]) (λi=>A.length-i) 0 (bH _) ?_
 intro i i1
 by_cases c1:i<A.length
 ·have c1G:i<G.length:=by omega
  obtain⟨bA,oA,vi,rfl,hcA,hsA⟩:=J1 hA c1;obtain⟨bG,oG,wi,rfl,hcG,hsG⟩:=J1 hGo c1G;obtain⟨ai,ci,rfl,hci,aiL⟩:=mL hsA;obtain⟨ei,di,rfl,hdi,agK⟩:=mL hsG;have hfA:=hsA.flat (f:=jj) aiT;have hfG:=hsG.flat (f:=λn=>[av .i64 n]) aiT;have aiM:=hwA i c1;have aiN:=hwG i c1G;have agL:=aci i c1;have agM:=ZQ i c1G;obtain⟨_,_,e1,-,-,hrA⟩:=hfA
  cases e1
  obtain⟨_,_,e2,-,-,hrG⟩:=hfG
  cases e2
  clear hsA hsG aci ZQ hwA hwG;have acj:∀L,At (w:bO) L ⟨bA,oA+i,ak⟩ (.slice ai A[i].length ci):=λL=>kh hcA;have ack:∀L,At (w:bO) L ⟨bG,oG+i,ak⟩ (.slice ei G[i].length di):=λL=>kh hcG;generalize A[i]=X at*;generalize G[i]=Y at*
  try refine GA ?_
  refine dN ([aP g2 (dJ (T:Int) (N:Int) (ap bp g.aF.length cp)).cells 34,aP g3 (aQ #[ap (aj ⟨bA,oA,ak⟩) A.length cA,ap (aj ⟨bG,oG,ak⟩) G.length cG]).cells 37]) (.calm 0 (.calm 1 (.calm 2 (.calm 3 (.calm 4 (.calm 5 (.calm 6 (.calm 7 (.calm 8 (.calm 9 (.calm 10 (.calm 11 (.calm 12 (.calm 13 (.calm 14 (.calm 15 (.calm 16 (.calm 17 (.calm 18 (.calm 19 (.calm 20 (.done)))))))))))))))))))))) (λ_ h=>h) ?_
  repeat(first|refine GW ?_|(refine GN ?_;first|refine QW (aC (v:=ap (aj ⟨bA,oA,ak⟩) A.length cA) aK.ty I (aH (i:=1) I I)) ?_|refine QW (cz bM.eq aK.ty I I c1) ?_|refine QW (aC (v:=ap ai X.length ci) aK.ty I (acj _)) ?_|refine QW (aC (v:=av az (T:Int)) aK.ty I (aH (i:=0) I I)) ?_|refine QW (aC (v:=ap (aj ⟨bG,oG,ak⟩) G.length cG) aK.ty I (aH (i:=1) I I)) ?_|refine QW (cz bM.eq aK.ty I I c1G) ?_|refine QW (aC (v:=ap ei Y.length di) aK.ty I (ack _)) ?_|refine QW (aC (v:=av az (N:Int)) aK.ty I (aH (i:=0) I I)) ?_))
  repeat(first|refine GA ?_|refine gV (aC (v:=ap (aj ⟨bA,oA,ak⟩) A.length cA) aK.ty I (aH (i:=1) I I)) ?_|refine gV (cz bM.eq aK.ty I I c1) ?_|refine gV (aC (v:=ap ai X.length ci) aK.ty I (acj _)) ?_)
  refine ea (ι:=Nat) (λc=>c<=X.length) (λc=>[(2,aJ (aj ⟨g2,0,ak⟩)),(3,aJ (aj ⟨g3,0,ak⟩)),(6,av az (A.length:Int)),(7,av az (i:Int)),(31,av az (A.length:Int)),(32,av az (i:Int)),(60,ap ai X.length ci),(61,av az (X.length:Int)),(62,av az (c:Int))])
   (λ_=>[aP g2 (dJ (T:Int) (N:Int) (ap bp g.aF.length cp)).cells 34,aP g3 (aQ #[ap (aj ⟨bA,oA,ak⟩) A.length cA,ap (aj ⟨bG,oG,ak⟩) G.length cG]).cells 37]) (λc=>X.length-c) 0 (bH _) ?_
  intro c j1
  by_cases c2:c<X.length
  ·obtain⟨b,off,rfl,eL⟩:=hrA J
   have du:=λL=>gO (L:=L) rN eL c2;have Ey:∀(L:List cH) (j:Nat) (u:Value),(jj X[c])[j]?=aj u->At (w:bO) L ⟨b,off+c*2+j,ak⟩ u:=du;have Ye:=agL c c2;clear du;generalize X[c]=x at*;have hrc:=J2 T g.aF.length A.length (N:Int) bp cp (aj ⟨bA,oA,ak⟩) cA (ap (aj ⟨bG,oG,ak⟩) G.length cG) x c Ye
   repeat(first|refine GA ?_|refine gV (aX bM.eq aK.ty I I c2) ?_|refine gV (a8 (cs:=jj x) aK.ty I I (Ey _)) ?_)
   refine aY I λg9=>?_;refine zL ?_
   try refine GA ?_
   refine gC 2 (cs':=(jj x).toArray) ?_;refine zL ?_
   repeat(first|refine GA ?_|refine gV (aO (i:=0) aK.ty I I I) ?_|refine gV (aO (i:=1) aK.ty I I I) ?_|refine gV (aO (i:=2) aK.ty I I I) ?_)
   refine aV (Ti aI.en I I I I I) (λw hm=>hrc w) I I I ?_;intro _ _;refine zL ?_
   try refine GA ?_
   refine dj [0,1] ?_;exact bY (c+1) J (by show X.length-(c+1)<X.length-c;omega)
  obtain rfl:c=X.length:=by omega
  repeat(first|refine GA ?_|refine gV (aC (v:=ap (aj ⟨bG,oG,ak⟩) G.length cG) aK.ty I (aH (i:=1) I I)) ?_|refine gV (cz bM.eq aK.ty I I c1G) ?_|refine gV (aC (v:=ap ei Y.length di) aK.ty I (ack _)) ?_)
  refine ea (ι:=Nat) (λc=>c<=Y.length) (λc=>[(2,aJ (aj ⟨g2,0,ak⟩)),(3,aJ (aj ⟨g3,0,ak⟩)),(6,av az (A.length:Int)),(31,av az (A.length:Int)),(32,av az (i:Int)),(78,ap ei Y.length di),(79,av az (Y.length:Int)),(80,av az (c:Int))])
   (λ_=>[aP g2 (dJ (T:Int) (N:Int) (ap bp g.aF.length cp)).cells 34,aP g3 (aQ #[ap (aj ⟨bA,oA,ak⟩) A.length cA,ap (aj ⟨bG,oG,ak⟩) G.length cG]).cells 37]) (λc=>Y.length-c) 0 (bH _) ?_
  intro c k1
  by_cases c3:c<Y.length
  ·obtain⟨b,off,rfl,eL⟩:=hrG J
   have du:=λL=>gO (L:=L) (f:=λn=>[av .i64 n]) (c:=1) (λ_=>rfl) eL c3 0 _ I;have Ey:∀(L:List cH),At (w:bO) L ⟨b,off+c*1+0,ak⟩ (av az Y[c]):=du;have hgo:=agM Y[c] (cD c3);clear du;generalize Y[c]=y at*
   repeat(first|refine GA ?_|refine gV (aX bM.eq aK.ty I I c3) ?_|refine gV (aC (v:=av az y) aK.ty I (Ey _)) ?_)
   exact bY (c+1) J (by show Y.length-(c+1)<Y.length-c;omega)
  obtain rfl:c=Y.length:=by omega
  try refine GA ?_
  exact bY (i+1) J (by show A.length-(i+1)<A.length-i;omega)
 ·obtain rfl:i=A.length:=by omega
  try refine GA ?_
  exact eM
def adp(g:eb):Bool:=decide ((iG g).2.2.2=0)&&decide ((iG g).2.2.1.length=0)
end cI
namespace cI
open Go.RowKit cU dS yS cT
structure PkM(w:World)(vn vt:Value)(N:List (List Int))(tags:List Int):Prop where
 ex:∃(b off cap:Nat) (vs:Nat->Value),vn=ap (aj ⟨b,off,ak⟩) N.length cap/\∀i (h:i<N.length),w.cell? ⟨b,off+i,ak⟩=aj (vs i)/\Sl w (vs i) N[i].length (N[i].flatMap cU.ez)
 hT:Sl w vt tags.length (tags.flatMap cU.ez)
structure ZR(o:Of)(N:List (List Int))(tags:List Int)(wide:Nat):Prop where
 pos:0<N.length
 le:N.length<=200
 len:tags.length=N.length
 w0:0<wide
 w1:wide<=256
 row:∀i (h:i<N.length),N[i].length=wide
 tag:∀i (h:i<tags.length),-1<=tags[i]/\tags[i]<20
 rng:∀i (h:i<N.length),∀j (h':j<N[i].length),-1<=N[i][j]/\N[i][j]<N.length
 of:∀b (h:b<256),o[b]<wide
theorem PkM.gr{w w':World}{vn vt:Value}{N:List (List Int)}{tags:List Int}(h:PkM w vn vt N tags)(hg:Gr w w'):PkM w' vn vt N tags:=by
 obtain⟨b,off,cap,vs,h1,h2⟩:=h.ex;refine⟨⟨b,off,cap,vs,h1,λi hi=>⟨?_,(h2 i hi).2.gr hg⟩⟩,h.hT.gr hg⟩;rw[hg.cell (nX w _ (h2 i hi).1)];exact(h2 i hi).1
def ofC(o:Of):List Value:=o.toList.map λn:Nat=> .int .u8 (n:Int)
theorem acm(o:Of):(ofC o).length=256:=by simp[ofC]
theorem acn(o:Of){b:Nat}(h:b<256):(ofC o).toArray[b]?=aj (.int .u8 (o[b]:Int)):=by
 rw[jn];unfold ofC;rw[eS,bD (by simpa using h),oc];rfl
theorem aeU(o:Of)(vn vt:Value){j:Nat}{v:Value}(h:(ofC o)[j]?=aj v):(eY o vn vt).toArray[0+j]?=aj v:=by
 have hj:j<(ofC o).length:=(cX.1 h).1;rw[cV,jn];show(ofC o++[vn,vt])[j]?=_
 rw[eR hj];exact h
end cI
namespace cI
open Go.RowKit cU dS cT
structure VC(w:World)(vn vt:Value)(N:List (List Int))(tags:List Int):Prop where
 hN:jW (bL fG) (p9 w) w vn N
 hT:Sl w vt tags.length (tags.flatMap cU.ez)
theorem VC.gr{w w':World}{vn vt:Value}{N:List (List Int)}{tags:List Int}(h:VC w vn vt N tags)(hg:Gr w w'):VC w' vn vt N tags:=⟨sL h.hN hg,h.hT.gr hg⟩
abbrev q7(o:Of)(N:List (List Int))(tags:List Int):Prop:=ZR o N tags (N.headD []).length
open Classical in
noncomputable def zM(o:Of)(N:List (List Int))(tags:List Int):Int:=if 200<N.length then 2 else if q7 o N tags then 0 else 1
def M3(N:List (List Int))(tags:List Int)(wide i:Nat):Prop:=(N.getD i []).length=wide/\ -1<=tags.getD i 0/\tags.getD i 0<20/\∀x∈N.getD i [],-1<=x/\x<N.length
theorem aco{o:Of}{N:List (List Int)}{tags:List Int}{wide:Nat}(h:ZR o N tags wide){i:Nat}(hi:i<N.length):M3 N tags wide i:=by
 have hit:i<tags.length:=by rw[h.len];exact hi
 unfold M3;rw[b9,bD hi,b9,bD hit];refine⟨h.row i hi,(h.tag i hit).1,(h.tag i hit).2,λx hx=>?_⟩;obtain⟨j,hj,rfl⟩:=hY.1 hx;exact h.rng i hi j hj
theorem acp{o:Of}{N:List (List Int)}{tags:List Int}{wide:Nat}(h0:0<N.length)(h1:N.length<=200)(h2:tags.length=N.length)(h3:0<wide)(h4:wide<=256)(h5:∀i,i<N.length->M3 N tags wide i)(h6:∀b (h:b<256),o[b]<wide):ZR o N tags wide:=by
 have g:∀i (hi:i<N.length),N.getD i []=N[i]:=λi hi=>by rw[b9,bD hi];rfl
 have gt:∀i (hi:i<tags.length),tags.getD i 0=tags[i]:=λi hi=>by rw[b9,bD hi];rfl
 refine⟨h0,h1,h2,h3,h4,λi hi=>?_,λi hi=>?_,λi hi j hj=>?_,h6⟩;have:=(h5 i hi).1;rwa [g i hi]at this;have:=h5 i J;unfold M3 at this;rw[gt i hi]at this;exact⟨this.2.1,this.2.2.1⟩;have:=(h5 i hi).2.2.2;rw[g i hi]at this;exact this _ (cD hj)
theorem aeV{o:Of}{N:List (List Int)}{tags:List Int}(h:200<N.length):zM o N tags=2:=if_pos h
theorem aeW{o:Of}{N:List (List Int)}{tags:List Int}(h:¬200<N.length)(hg:¬q7 o N tags):zM o N tags=1:=by unfold zM;rw[if_neg h,if_neg hg]
theorem QC{o:Of}{N:List (List Int)}{tags:List Int}(hg:q7 o N tags):zM o N tags=0:=by unfold zM;rw[if_neg (by have:=hg.le;omega),if_pos hg]
theorem A'{o:Of}{N:List (List Int)}{tags:List Int}(h:zM o N tags=0):q7 o N tags:=by
 unfold zM at h;split at h
 cases h
 split at h
 assumption
 cases h
theorem BN(o:Of)(vn vt:Value)(N:List (List Int))(tags:List Int)(w:World)(h:VC w vn vt N tags)(ho:∀b (h:b<256),o[b]<256):
 Calls aB 50 #[NR o vn vt] w (cB (ret (av az (zM o N tags))) w):=by
 obtain⟨⟨an,cn,rfl,hn1,hn2,hn3⟩,at',ct,rfl,ht1,Vr,KI⟩:=h;unfold maxLen at hn2 Vr;have hE1:=λh hg=>aeW (o:=o) (N:=N) (tags:=tags) h hg;have hE2:=λh=>aeV (o:=o) (N:=N) (tags:=tags) h;have hE0:=λh=>QC (o:=o) (N:=N) (tags:=tags) h;generalize zM o N tags=e at*;refine enter (args:=[NR o (ap an N.length cn) (ap at' tags.length ct)]) (n:=92) Tryz.func50 I I I ?_;refine cC (bz (bR I I I λg1=>?_))
 by_cases c1:200<N.length
 ·rw[hE2 c1]
  repeat(first|refine GC ?_|refine gV (aC aK.ty I (aH (i:=0) I (lF _ _ _))) ?_|refine gV (dT (b:=aD) I I (decide_eq_true J)) ?_|refine GB ?_)
  exact dD I I I
 by_cases c2:N.length=0
 ·rw[hE1 c1 (λh=>by have:=h.pos;omega)]
  repeat(first|refine GC ?_|refine gV (aC aK.ty I (aH (i:=0) I (lF _ _ _))) ?_|refine gV (dT (b:=aE) I I (decide_eq_false J)) ?_|refine gV (dg (b:=aD) I I (decide_eq_true J)) ?_|refine GB ?_)
  exact dD I I I
 by_cases c3:tags.length=N.length
 case neg=>
  rw[hE1 c1 (λh=>c3 h.len)]
  repeat(first|refine GC ?_|refine gV (aC aK.ty I (aH (i:=0) I (lF _ _ _))) ?_|refine gV (aC aK.ty I (aH (i:=0) I (nE _ _ _))) ?_|refine gV (dT (b:=aE) I I (decide_eq_false J)) ?_|refine gV (dg (b:=aE) I I (decide_eq_false J)) ?_|refine gV (dr (b:=aD) I I (decide_eq_true J)) ?_|refine GB ?_)
  exact dD I I I
 obtain⟨bn,M4,rfl,_,KV⟩:=hn3 J;obtain⟨bt,J4,rfl,htd⟩:=KI J;clear hn3 KI;obtain⟨u0,⟨a0,c0,rfl,-⟩,hd0⟩:=AR KV (show 0<N.length by omega);have aeS:=λ(L:List cH)=>iI (L:=L) hd0 (j:=0) (v:=ap a0 (N[0]' J).length c0) I;have hw:(N.headD []).length=(N[0]' J).length:=by cases N with
  |nil=>simp at c2
  |cons x r=>rfl
 have yT:q7 o N tags↔ZR o N tags (N[0]' J).length:=by unfold q7;rw[hw]
 clear hd0 hw;generalize (N[0]' J).length=wide at*
 repeat(first|refine GC ?_|refine gV (aC aK.ty I (aH (i:=0) I (lF _ _ _))) ?_|refine gV (aC aK.ty I (aH (i:=0) I (nE _ _ _))) ?_|refine gV (dT (b:=aE) I I (decide_eq_false J)) ?_|refine gV (dg (b:=aE) I I (decide_eq_false J)) ?_|refine gV (dr (b:=aE) I I (decide_eq_false J)) ?_|refine gV (aX (j:=0) bM.eq aK.ty I I J) ?_|refine gV (aC (v:=ap a0 wide c0) aK.ty I (aeS _)) ?_|refine GB ?_)
 by_cases c4:wide=0
 ·rw[hE1 c1 (λh=>by have:=(yT.1 h).w0;omega)]
  repeat(first|refine GC ?_|refine gV (dg (b:=aD) I I (decide_eq_true J)) ?_|refine GB ?_)
  exact dD I I I
 by_cases c5:256<wide
 ·rw[hE1 c1 (λh=>by have:=(yT.1 h).w1;omega)]
  repeat(first|refine GC ?_|refine gV (dg (b:=aE) I I (decide_eq_false J)) ?_|refine gV (dT (b:=aD) I I (decide_eq_true J)) ?_|refine GB ?_)
  exact dD I I I
 repeat(first|refine GC ?_|refine gV (dg (b:=aE) I I (decide_eq_false J)) ?_|refine gV (dT (b:=aE) I I (decide_eq_false J)) ?_|refine GB ?_)
 refine ea (ι:=Nat) (λi=>i<=N.length/\∀j,j<i->M3 N tags wide j) (λi=>[(1,aJ (aj ⟨g1,0,ak⟩)),(3,av az (N.length:Int)),(4,av az (wide:Int)),(35,av az (N.length:Int)),(36,av az (i:Int))])
  (λ_=>[aP g1 (eY o (ap (aj ⟨bn,M4,ak⟩) N.length cn) (ap (aj ⟨bt,J4,ak⟩) tags.length ct)).toArray 31]) (λi=>N.length-i) 0 ⟨bH _,λj h=>by omega⟩ ?_
 rintro i ⟨hi,hgi⟩
 by_cases q1:i<N.length
 ·have hit:i<tags.length:=by omega
  obtain⟨u,⟨au,cu,rfl,hcu,hmu,NN⟩,hdu⟩:=AR KV q1;unfold maxLen at hmu;have J5:=λ(L:List cH)=>iI (L:=L) hdu (j:=0) (v:= .slice au N[i].length cu) I;have MI:=λ(L:List cH)=>gO (L:=L) j0 htd hit 0 _ I;have hG:M3 N tags wide i↔(N[i].length=wide/\ -1<=tags[i]/\tags[i]<20/\∀x∈N[i],-1<=x/\x<N.length):=by
   unfold M3;rw[b9,bD q1,b9,bD hit];rfl
  have nK:¬M3 N tags wide i->e=1:=λhg=>hE1 c1 λh=>hg (aco (yT.1 h) q1);clear hdu hE1 hE2;generalize tags[i]=tg at*;generalize N[i]=l at*
  by_cases r1:l.length=wide
  case neg=>
   rw[nK (λh=>r1 (hG.1 h).1)]
   repeat(first|refine GC ?_|refine gV (aC aK.ty I (aH (i:=0) I (lF _ _ _))) ?_|refine gV (aC aK.ty I (aH (i:=0) I (nE _ _ _))) ?_|refine gV (aX (j:=i) bM.eq aK.ty I I q1) ?_|refine gV (aC (v:=ap au l.length cu) aK.ty I (J5 _)) ?_|refine gV (dr (b:=aD) I I (decide_eq_true J)) ?_|refine GB ?_)
   exact dD I I I
  by_cases r2:tg< -1
  ·rw[nK (λh=>by have:=(hG.1 h).2.1;omega)]
   repeat(first|refine GC ?_|refine gV (aC aK.ty I (aH (i:=0) I (lF _ _ _))) ?_|refine gV (aC aK.ty I (aH (i:=0) I (nE _ _ _))) ?_|refine gV (aX (j:=i) bM.eq aK.ty I I q1) ?_|refine gV (aC (v:=ap au l.length cu) aK.ty I (J5 _)) ?_|refine gV (dr (b:=aE) I I (decide_eq_false J)) ?_|refine gV (aX (j:=i) bM.eq aK.ty I I hit) ?_|refine gV (aC (v:=av az tg) aK.ty I (MI _)) ?_|refine gV (dQ (b:=aD) I I (decide_eq_true r2)) ?_|refine GB ?_)
   exact dD I I I
  by_cases r3:20<=tg
  ·rw[nK (λh=>by have:=(hG.1 h).2.2.1;omega)]
   repeat(first|refine GC ?_|refine gV (aC aK.ty I (aH (i:=0) I (lF _ _ _))) ?_|refine gV (aC aK.ty I (aH (i:=0) I (nE _ _ _))) ?_|refine gV (aX (j:=i) bM.eq aK.ty I I q1) ?_|refine gV (aC (v:=ap au l.length cu) aK.ty I (J5 _)) ?_|refine gV (dr (b:=aE) I I (decide_eq_false J)) ?_|refine gV (aX (j:=i) bM.eq aK.ty I I hit) ?_|refine gV (aC (v:=av az tg) aK.ty I (MI _)) ?_|refine gV (dQ (b:=aE) I I (decide_eq_false r2)) ?_|refine gV (eU (b:=aD) I I (decide_eq_true r3)) ?_|refine GB ?_)
   exact dD I I I
  repeat(first|refine GC ?_|refine gV (aC aK.ty I (aH (i:=0) I (lF _ _ _))) ?_|refine gV (aC aK.ty I (aH (i:=0) I (nE _ _ _))) ?_|refine gV (aX (j:=i) bM.eq aK.ty I I q1) ?_|refine gV (aC (v:=ap au l.length cu) aK.ty I (J5 _)) ?_|refine gV (dr (b:=aE) I I (decide_eq_false J)) ?_|refine gV (aX (j:=i) bM.eq aK.ty I I hit) ?_|refine gV (aC (v:=av az tg) aK.ty I (MI _)) ?_|refine gV (dQ (b:=aE) I I (decide_eq_false r2)) ?_|refine gV (eU (b:=aE) I I (decide_eq_false r3)) ?_|refine GB ?_)
  refine ea (ι:=Nat) (λj=>j<=l.length/\∀x∈l.take j,-1<=x/\x<N.length) (λj=>[(1,aJ (aj ⟨g1,0,ak⟩)),(3,av az (N.length:Int)),(4,av az (wide:Int)),(35,av az (N.length:Int)),(36,av az (i:Int)),(67,ap au l.length cu),(68,av az (l.length:Int)),(69,av az (j:Int))])
   (λ_=>[aP g1 (eY o (ap (aj ⟨bn,M4,ak⟩) N.length cn) (ap (aj ⟨bt,J4,ak⟩) tags.length ct)).toArray 31]) (λj=>l.length-j) 0 ⟨bH _,λx h=>by simp at h⟩ ?_
  rintro j ⟨hj,hgj⟩
  by_cases s1:j<l.length
  ·obtain⟨bu,acq,rfl,eL⟩:=NN J
   have Gi:=λ(L:List cH)=>gO (L:=L) j0 eL s1 0 _ I;have hxm:=cD s1;have qf:=iv s1;clear eL;generalize l[j]=x at*
   by_cases t1:x< -1
   ·rw[nK (λh=>by have:=((hG.1 h).2.2.2 x hxm).1;omega)]
    repeat(first|refine GC ?_|refine gV (aX (j:=j) bM.eq aK.ty I I s1) ?_|refine gV (aC (v:=av az x) aK.ty I (Gi _)) ?_|refine gV (dQ (b:=aD) I I (decide_eq_true t1)) ?_|refine GB ?_)
    exact dD I I I
   by_cases t2:(N.length:Int)<=x
   ·rw[nK (λh=>by have:=((hG.1 h).2.2.2 x hxm).2;omega)]
    repeat(first|refine GC ?_|refine gV (aX (j:=j) bM.eq aK.ty I I s1) ?_|refine gV (aC (v:=av az x) aK.ty I (Gi _)) ?_|refine gV (dQ (b:=aE) I I (decide_eq_false t1)) ?_|refine gV (eU (b:=aD) I I (decide_eq_true t2)) ?_|refine GB ?_)
    exact dD I I I
   repeat(first|refine GC ?_|refine gV (aX (j:=j) bM.eq aK.ty I I s1) ?_|refine gV (aC (v:=av az x) aK.ty I (Gi _)) ?_|refine gV (dQ (b:=aE) I I (decide_eq_false t1)) ?_|refine gV (eU (b:=aE) I I (decide_eq_false t2)) ?_|refine GB ?_)
   exact iB (j+1) ⟨by omega,λy hy=>by
    rw[qf,fu,dR]at hy;rcases hy with hy|rfl
    exact hgj y hy;omega⟩ (by show l.length-(j+1)<l.length-j;omega) (by repeat' (first|exact bZ|refine bX I ?_)) I
  rw[gB J]at hgj
  try refine GA ?_
  exact iB (i+1) ⟨by omega,λj hj2=>by
   by_cases e:j=i
   subst e;exact hG.2 ⟨r1,by omega,by omega,hgj⟩;exact hgi j J⟩ (by show N.length-(i+1)<N.length-i;omega) (by repeat' (first|exact bZ|refine bX I ?_)) I
 ·repeat(first|refine GA ?_|refine gV (a8 (cs:=ofC o) aK.ty I (acm o) (λj v hj=>aH (i:=0) I (aeU _ _ _ hj))) ?_)
  refine ea (ι:=Nat) (λj=>j<=256/\∀b (h:b<256),b<j->o[b]<wide) (λj=>[(4,av az (wide:Int)),(83,aQ (ofC o).toArray),(84,av az (j:Int))]) (λ_=>[aP g1 (eY o (ap (aj ⟨bn,M4,ak⟩) N.length cn) (ap (aj ⟨bt,J4,ak⟩) tags.length ct)).toArray 31]) (λj=>256-j) 0 ⟨bH _,λb _ h=>by omega⟩ ?_;rintro j ⟨hj,Rb⟩
  by_cases s1:j<256
  ·have hcell:=acn o s1
   have hz:=ho j s1;have nK:¬o[j]<wide->e=1:=λhg=>hE1 c1 λh=>hg ((yT.1 h).of j s1);have vd:o[j]<wide->∀b (h:b<256),b<j+1->o[b]<wide:=λhw b h hb=>by
    by_cases e:b=j
    subst e;exact hw;exact Rb b h J
   clear hE1 hE2;generalize o[j]=z at*
   by_cases t1:z<wide
   ·repeat(first|refine GC ?_|refine gV (jt bM.eq aK.ty I I s1 hcell) ?_|refine gV (iQ bM.eq bM.eq I (nB J J)) ?_|refine gV (eU (b:=aE) I I (decide_eq_false J)) ?_|refine GB ?_)
    exact bY (j+1) ⟨by omega,vd t1⟩ (by show 256-(j+1)<256-j;omega)
   rw[nK t1]
   repeat(first|refine GC ?_|refine gV (jt bM.eq aK.ty I I s1 hcell) ?_|refine gV (iQ bM.eq bM.eq I (nB J J)) ?_|refine gV (eU (b:=aD) I I (decide_eq_true J)) ?_|refine GB ?_)
   exact dD I I I
  rw[hE0 (yT.2 (acp J J c3 J J (λi h=>hgi i J) λb h=>Rb b h J))]
  try refine GA ?_
  exact dD I I I
end cI
namespace cI
open Go.RowKit cU dS dl gj gT aT cT
structure Md where
 of:List Int
 o:Of
 N:List (List Int)
 tags:List Int
 g:eb
 mode:Int
 rows:List (List Int)
 A:List (List bJ.Act)
 G:List (List Int)
structure CO(w:World)(v:Value)(m:Md)(vo vn vt vp vr va vg:Value):Prop where
 val:v=aQ (jd vo (eY m.o vn vt) (fK m.g.aR m.g.bC vp m.mode vr va vg)).toArray
 of:Sl w vo m.of.length (m.of.flatMap cU.ez)
 pk:VC w vn vt m.N m.tags
 Ba:kj (λk=>k<w.heap.size) w (dJ m.g.aR m.g.bC vp) m.g
 rows:zK w vr m.rows
 pt:A_ w (aQ #[va,vg]) m.A m.G
structure MdGood(m:Md):Prop where
 byte:∀b (h:b<256),m.o[b]<256
 mh:zM m.o m.N m.tags=0
 Ba:b_ m.g=0
 some:0<m.of.length
 qS:m.of.length<=20
 ofs:∀t∈m.of,-1<=t/\t<m.g.aR
 tag:∀t∈m.tags,t<(m.of.length:Int)
 mode:(m.mode=1/\E8 m.g m.rows=0)\/(m.mode=2/\∃T N,rO m.g T N m.A m.G)
theorem HV{vo:Value}{pk tl:List Value}(hp:pk.length=258){j:Nat}{v:Value}(h:pk[j]?=aj v):(jd vo pk tl).toArray[0+1+j]?=aj v:=by
 rw[jn,jd,show 0+1+j=j+1 by omega,C8,eR (cX.1 h).1];exact h
theorem aeX{vo:Value}{pk:List Value}(hp:pk.length=258){a b c d e f f' v:Value}{j:Nat}(h:[f,f'][j]?=aj v):(jd vo pk [a,b,c,d,e,f,f']).toArray[0+264+j]?=aj v:=by
 match j,h with
 |0,h=>exact jh 5 hp h I
 |1,h=>exact jh 6 hp h I
 |n+2,h=>cases h
theorem QD(x:Int):(cU.ez x).length=1:=rfl
set_option maxRecDepth 100000 in
theorem J6(v:Value)(m:Md)(w:World){vo vn vt vp vr va vg:Value}(h:CO w v m vo vn vt vp vr va vg)(hg:MdGood m):
 Calls aB 25 #[v] w (cB (ret (av az 0)) w):=by
 have iW:=λw' (hw:Gr w w')=>BN m.o vn vt m.N m.tags w' (h.pk.gr hw) hg.byte;rw[hg.mh]at iW;have hcg:=λw' (hw:Gr w w')=>jJ (dJ m.g.aR m.g.bC vp) m.g w' (h.Ba.gr hw);rw[hg.Ba]at hcg;have KW:=λw' (hw:Gr w w')=>w8 (dJ m.g.aR m.g.bC vp) vr m.g m.rows w' (h.Ba.gr hw) (sL h.rows hw);have NI:=λT N hT w' (hw:Gr w w')=>w9 (dJ m.g.aR m.g.bC vp) (aQ #[va,vg]) m.g T N m.A m.G hT w' (h.Ba.gr hw) (h.pt.gr hw);have Uj:=h.of;have htg:=h.pk.hT;have hv:=h.val;obtain⟨b1,b2,b3,b4,b5,b6,b7,b8⟩:=hg;clear h b1 b2 b3;have dG:(eY m.o vn vt).length=258:=fN _ _ _;have hpt:(eY m.o vn vt)[257]?=aj vt:=by have:=nE m.o vn vt;simpa using this
 obtain⟨of,o,N,tags,g,mode,rows,A,G⟩:=m;dsimp only at*;rw[show NR o vn vt=aQ (eY o vn vt).toArray from I]at iW;generalize eY o vn vt=PK at*;obtain⟨a1,c1,rfl,FO,hm1,hr1⟩:=Uj;obtain⟨a2,c2,rfl,Vu,Wu,wk⟩:=htg;unfold maxLen at hm1 Wu;subst hv;refine enter (args:=[aQ (jd (ap a1 of.length c1) PK (fK g.aR g.bC vp mode vr va vg)).toArray]) (n:=77) Tryz.func25 I I I ?_;refine cC (bz (bR I I I λg1=>?_));refine zL ?_
 repeat(first|refine GA ?_|refine gV (a8 (cs:=PK) aK.ty I dG (λj v h=>aH (i:=0) I (HV dG h))) ?_)
 refine aV (hZ aI.en I I) (λw hm=>iW _ hm.below) I I I ?_;intro _ _;refine zL ?_
 repeat(first|refine GC ?_|refine gV (dr (b:=aE) I I (decide_eq_false (by simp))) ?_|refine gV (a8 (cs:=[av az g.aR,av az g.bC,vp]) aK.ty I I (λj v h=>aH (i:=0) I (sV dG h))) ?_|refine GB ?_)
 refine aV (hZ aI.en I I) (λw hm=>hcg _ hm.below) I I I ?_;intro _ _;refine zL ?_
 repeat(first|refine GC ?_|refine gV (dr (b:=aE) I I (decide_eq_false (by simp))) ?_|refine gV (aC (v:=ap a1 of.length c1) aK.ty I (aH (i:=0) I I)) ?_|refine GB ?_)
 have hz:(1:Nat)<=of.length:=b4;refine ea (ι:=Nat) (λk=>k<=of.length) (λk=>[(1,aJ (aj ⟨g1,0,ak⟩)),(31,ap a1 of.length c1),(32,av az of.length),(33,av az (k:Int))])
  (λ_=>[aP g1 (jd (ap a1 of.length c1) PK (fK g.aR g.bC vp mode vr va vg)).toArray 39]) (λk=>of.length-k) 0 (bH _) ?_
 intro k k1
 by_cases d1:k<of.length
 ·obtain⟨b,off,rfl,hr⟩:=hr1 J
  have du:=λ(L:List cH)=>gO (L:=L) QD hr d1 0 _ I;obtain⟨y1,y2⟩:=b6 of[k] (cD d1);generalize of[k]=x at*
  repeat(first|refine GA ?_|refine gV (aX bM.eq aK.ty I I d1) ?_|refine gV (aC (v:=av az x) aK.ty I (du _)) ?_|refine gV (aC (v:=av az g.aR) aK.ty I (aH (i:=0) I (jh 0 dG I I))) ?_)
  exact bY (k+1) J (by show of.length-(k+1)<of.length-k;omega)
 obtain rfl:k=of.length:=by omega
 repeat(first|refine GA ?_|refine gV (aC (v:=ap a2 tags.length c2) aK.ty I (aH (i:=0) I (HV dG hpt))) ?_)
 refine ea (ι:=Nat) (λk=>k<=tags.length) (λk=>[(1,aJ (aj ⟨g1,0,ak⟩)),(49,ap a2 tags.length c2),(50,av az tags.length),(51,av az (k:Int))])
  (λ_=>[aP g1 (jd (ap a1 of.length c1) PK (fK g.aR g.bC vp mode vr va vg)).toArray 39]) (λk=>tags.length-k) 0 (bH _) ?_
 intro k k2
 by_cases d2:k<tags.length
 ·obtain⟨b,off,rfl,hr⟩:=wk J
  have du:=λ(L:List cH)=>gO (L:=L) QD hr d2 0 _ I;have y1:=b7 tags[k] (cD d2);generalize tags[k]=x at*
  repeat(first|refine GA ?_|refine gV (aX bM.eq aK.ty I I d2) ?_|refine gV (aC (v:=av az x) aK.ty I (du _)) ?_|refine gV (aC (v:=ap a1 of.length c1) aK.ty I (aH (i:=0) I I)) ?_)
  exact bY (k+1) J (by show tags.length-(k+1)<tags.length-k;omega)
 obtain rfl:k=tags.length:=by omega
 rcases b8 with⟨rfl,hc⟩|⟨rfl,T,N',hc⟩
 ·rw[hc]at KW
  repeat(first|refine GA ?_|refine gV (aC (v:=av az 1) aK.ty I (aH (i:=0) I (jh 3 dG I I))) ?_|refine gV (a8 (cs:=[av az g.aR,av az g.bC,vp]) aK.ty I I (λj v h=>aH (i:=0) I (sV dG h))) ?_|refine gV (aC (v:=vr) aK.ty I (aH (i:=0) I (jh 4 dG I I))) ?_)
  refine aV (fO aI.en I I I) (λw hm=>KW _ hm.below) I I I ?_;intro _ _;refine zL ?_
  try refine GA ?_
  exact eM
 ·have NI:=λw' hw=>NI T N' hc w' hw
  repeat(first|refine GA ?_|refine gV (aC (v:=av az 2) aK.ty I (aH (i:=0) I (jh 3 dG I I))) ?_|refine gV (a8 (cs:=[av az g.aR,av az g.bC,vp]) aK.ty I I (λj v h=>aH (i:=0) I (sV dG h))) ?_|refine gV (a8 (cs:=[va,vg]) aK.ty I I (λj v h=>aH (i:=0) I (aeX dG h))) ?_)
  refine aV (fO aI.en I I I) (λw hm=>NI _ hm.below) I I I ?_;intro _ _;refine zL ?_
  try refine GA ?_
  exact eM
end cI
namespace cI
open Go.RowKit cU dS dl gj gT aT cT
theorem M5{s:Sp}{e m:Int}(h:Ci s e=(0,m)):e=0/\(A8 (c_ s)).any (· ==aE)=aE/\(A9 (c_ s)).any (· ==aE)=aE/\(((yt (c_ s)).length=0/\m=1)\/((yt (c_ s)).length≠0/\(iG (c_ s)).2.2.2=0/\(iG (c_ s)).2.2.1.length=0/\m=2)):=by
 unfold Ci at h
 by_cases c0:pP s≠0
 rw[if_pos c0]at h;exact absurd (congrArg P9 h) c0;rw[if_neg c0]at h
 by_cases c1:s.words.length=0\/s.rules.length=0
 rw[if_pos c1]at h;cases h;rw[if_neg c1]at h
 by_cases c2:e≠0
 rw[if_pos c2]at h;exact absurd (congrArg P9 h) c2;rw[if_neg c2]at h
 by_cases c3:(A8 (c_ s)).any (· ==aE)=aD\/(A9 (c_ s)).any (· ==aE)=aD
 rw[if_pos c3]at h;cases h;rw[if_neg c3]at h;refine⟨sQ c2,?_,?_,?_⟩
 ·cases hb:(A8 (c_ s)).any (· ==aE)with
  |true=>exact absurd (.inl hb) c3
  |false=>rfl
 ·cases hb:(A9 (c_ s)).any (· ==aE)with
  |true=>exact absurd (.inr hb) c3
  |false=>rfl
 by_cases c4:(yt (c_ s)).length=0
 rw[if_pos c4]at h;exact .inl ⟨c4,(congrArg A3 h).symm⟩;rw[if_neg c4]at h
 by_cases c5:(iG (c_ s)).2.2.2≠0
 rw[if_pos c5]at h;exact absurd (congrArg P9 h) c5;rw[if_neg c5]at h
 by_cases c6:0<(iG (c_ s)).2.2.1.length
 rw[if_pos c6]at h;cases h;rw[if_neg c6]at h;exact .inr ⟨c4,sQ c5,by omega,(congrArg A3 h).symm⟩
theorem ZS{x:Gh}(h:x.vT.oneCell'=aD)(R:List Row):(x.pk R).all eZ=true:=by
 have:=yo (ym R 256) (vn:=ap (aj ⟨x.gP,0,ak⟩) R.length R.length) (vt:=x.vT) I h;rw[Gh.pk,<-this]
end cI
end Go.Proofs.YtaobbfedlnddcaaGreat

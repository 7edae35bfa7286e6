/- Part 4 of what WholePlace needs: ItF, ItG, ItA, ItP, OutA, Opens, CfgL, SpecL, SpecS, SpecI, SpecJ, CfgP, SmX, SmY, SmPL, SpecN, CfgQ, CfgR, SpecP, SmA, SmPk, SpecQ, SpecC, CountB, CountC, CountD, LlM, LrA, LrK, BeginL. -/
import Derived.Test.YtdmgcnggnejnnaaGreatMgC
import Derived.Lib.IndexMore
namespace Go.Proofs.YtdmgcnggnejnnaaGreat
set_option linter.unusedVariables false
set_option linter.unusedSimpArgs false
open _root_.And renaming intro->cK
open _root_.Array renaming ext'->sO,toList->aaO
open _root_.Array.mk renaming injEq->oX
open _root_.Bool renaming true->aB,false->aD,and_eq_true->ff,or_eq_true->lZ,true_and->rP,false_and->K6,false_eq_true->aaP
open _root_.Decidable renaming of_not_not->rQ
open _root_.False renaming elim->A2
open _root_.Go.Instr renaming build->dm
open _root_.Go.IntKind renaming i64->av,wrap_u8->KC,u8->KD
open _root_.Go.Proofs.Tryz renaming prog->aC
open _root_.Go.Value renaming slice->ak,int->ap,pointer->aH,agg->aP,oneCell'->f_,cells->wo
open _root_.Go.Value.agg renaming injEq->nb
open _root_.Go.World renaming ownsRow_nil->RC
open _root_.Int renaming toNat_natCast->cX,eq_ofNat_of_zero_le->fz,toNat_of_nonneg->oY,le_refl->kz
open _root_.List renaming getElem?_eq_getElem->bm,getD_eq_getElem?_getD->bD,length_append->bK,getElem?_eq_some_iff->cU,getElem_mem->bV,length_cons->cO,drop_eq_getElem_cons->dJ,all_cons->cV,replicate->db,mem_singleton->dH,length_map->dw,mem_cons->df,all_nil->dc,append_assoc->dL,getElem?_append_left->fR,size_toArray->eN,append_nil->dQ,take_succ_eq_append_getElem->ir,map_append->eb,getElem?_map->eQ,drop_of_length_le->fS,flatMap_append->fH,take_of_length_le->ig,getElem?_eq_none->ii,not_mem_nil->fI,getElem?_append_right->kN,mem_map->eI,range->eu,getElem?_toArray->jh,map_cons->fw,length_drop->ik,nil_append->fN,length_take->gZ,mem_append->gH,mem_of_getElem?->kO,mem_iff_getElem->jG,drop_drop->iQ,take_length->nk,take_succ_cons->mV,length_singleton->nT,take_append_drop->rp,length_range->qj,cons_append->kt,ext_getElem?->mq,length_nil->nU,all_eq_true->oR,getElem_map->oZ,take_append_of_le_length->BR,drop_zero->pf,getElem?_concat_length->A9,take_zero->sU,drop_length->wq,map_nil->mu,mem_filterMap->yQ,map_set->o7,drop_succ_cons->K7,map_singleton->K8,map_replicate->K9,range_succ->yR,length->nV,map_eq_flatMap->RD,length_tail->RE,take->K_,flatten_append->aaQ,set_append->aaR,drop->aaS
open _root_.List.cons renaming injEq->fg,inj->oc
open _root_.Nat renaming le_refl->aT,zero_le->bC,zero_add->cI,le_trans->eC,lt_of_lt_of_le->jt,blt->dB,not_lt_zero->ni,succ_mul->nM,lt_succ_self->o_,mul_le_mul->rF,lt_irrefl->wt,sub_self->qk,blt_eq->FC
open _root_.Option renaming some->ah,none->aj
open _root_.Option.some renaming injEq->dg,inj->nO
open _root_.Prod.mk renaming injEq->iu
open _root_.True renaming intro->cY
open _root_.UInt8 renaming ofNat->fT
open _root_.Vector renaming replicate->eA,getElem_ofFn->jk,getElem_toList->mF,ext->kA,getElem_set->vO,toList_replicate->RF,ofFn->rK,toList_set->aaT
set_option maxHeartbeats 16000000
namespace cg
open Go.RowKit cT ey aM dN dx bP c_
def SlB(B:b_)(v:Value)(n:Nat)(xs:List Value):Prop:=
 ∃base cap,v=ak base n cap/\n<=cap/\cap<=maxLen/\(0<n->∃b off,base=ah ⟨b,off,aj⟩/\BC B b/\Rd B.w b off xs)
theorem T9{l:List aM.Prod}{w0:World}{W:b_}{vb:Nat->Value}{k dn:Nat}{x:Option Nat}{bb:Option Addr}{cc m:Nat}(ho:mv w0 W)(hv:Wk (fun q=>q<w0.heap.size) w0 vb l)(hk:k<=l.length)(hx:x.isSome=decide (k=l.length))(hb:adG vb k x=ak bb m cc)(hd:dn<(dA l (k:Int)).length):
 ∃b off,bb=ah ⟨b,off,aj⟩/\∀(L:List b9) (i:Nat),L[i]?=ah (BM x)->∀j u,(dS (dA l (k:Int))[dn])[j]?=ah u->At W L ⟨b,off+dn*2+j,aj⟩ u:=by
 cases x with
 |some g=>
  have hk:k=l.length:=by simpa using hx
  subst hk;have e:dA l (l.length:Int)=[(2,0)]:=by unfold dA;rw[if_pos I]
  have hb:ak (ah ⟨g,0,aj⟩) 1 1=ak bb m cc:=hb
  cases hb
  refine⟨g,0,rfl,fun L i hi j u hj=>?_⟩;have hd0:dn=0:=by rw[e]at hd;simpa using hd
  subst hd0;simp only[e,List.getElem_cons_zero]at hj;rw[show 0+0*2+j=j by omega];exact aE hi (by simpa[dS]using hj)
 | none=>
  have nu:k<l.length:=by
   have:¬k=l.length:=by simpa using hx
   omega
  have e:dA l (k:Int)=(bJ l (k:Int)).2:=by unfold dA;rw[if_neg J]
  have hs:=(hv k nu).flat (f:=dS) akV;have hb:vb k=ak bb m cc:=hb;rw[hb]at hs;obtain⟨base,cap,h1,_,_,h3⟩:=hs
  cases h1
  have hd':dn<(bJ l (k:Int)).2.length:=by rw[<-e];exact hd
  obtain⟨b,off,rfl,hr⟩:=h3 J;refine⟨b,off,rfl,fun L i _ j u hj=>?_⟩;simp only[e]at hj;exact rz (W:=W) (L:=L) FT (off:=off) (fun q y hq=>iv ho (hr q y hq)) hd' j u hj
theorem Wz(g:dF){it:bP.Item}(h:it.2.2.toNat<64):pc (kj g) it<18446744073709551616:=by
 have h1:kj g it.1 it.2.1<18446744073709551616:=TZ akV;unfold pc;split;exact Nat.or_lt_two_pow (n:=64) (Nat.xor_lt_two_pow (n:=64) h1 akV) (Nat.pow_lt_pow_right akV h);exact h1
theorem yX{i bits:Nat}{out:List bP.Item}:∀k,(fL i bits out k).length<=out.length+k
 |0=>aT _
 |k+1=>by
  rw[fL];have:=yX (i:=i) (bits:=bits) (out:=out) k;have h2:(more (fL i bits out k) ((i:Int),0,(k:Int))).length<=(fL i bits out k).length+1:=by unfold more;split<;>simp
  split<;>omega
theorem F7{l:List aM.Prod}{T:Nat}{N:Int}{bits:Nat}{out:List bP.Item}:∀i,(fM l T N bits out i).length<=out.length+i*(T+1)
 |0=>by rw[Nat.zero_mul];exact aT _
 |i+1=>by
  rw[fM,nM];have:=F7 (l:=l) (T:=T) (N:=N) (bits:=bits) (out:=out) i;have h2:=yX (i:=i) (bits:=bits) (out:=fM l T N bits out i) (T+1);split<;>omega
theorem DH{L:List b9}{is:List Nat}{o:b9}(h:o∈is.filterMap fun i=>L[i]?):o∈L:=by
 obtain⟨i,_,hi⟩:=yQ.1 h;exact kO hi
def opL(g:dF)(bp:Option Addr)(cp go gm:Nat)(f:RK->Option Value)(c:Nat):List b9:=[aO go (Cw g.aQ g.bB (ak bp g.az.length cp) gm).toArray 314,fq jd gm f c]
theorem F8{κ:Type}[DecidableEq κ]:∀(l D:List κ),(dO D l).length<=D.length+l.length
 |[],D=>by simp[dO]
 |k::r,D=>by
  rw[dO];have:=F8 r (if k∈D then D else D++[k]);have h2:(if k∈D then D else D++[k]).length<=D.length+1:=by split<;>simp
  rw[cO];omega
theorem aaU{l:List aM.Prod}{T:Nat}{x:bP.Item}(h:eg l T x)(hl:l.length<=40)(hw:∀q∈l,q.2.length<=8)(hT:T<=30):KS.ok x:=by
 obtain⟨a1,a2,a3,a4,a5,a6⟩:=h;have:=nj (l:=l) (p:=x.1) hw;exact⟨⟨by omega,by omega⟩,⟨by omega,by omega⟩,by omega,by omega⟩
def wu(g:dF)(T:Nat)(l0:List bP.Item)(bp:Option Addr)(cp go gm c:Nat):Spec ((RK->Option Value)×Nat×Value):=
 ⟨fun x=>jT (kj g) x.1/\x.2.1<=c+12000,fun x=>x.2.2,fun x=>opL g bp cp go gm x.1 x.2.1++[bx 278 3 x.2.2 (jq g.az T (kj g) l0).length ((jq g.az T (kj g) l0).flatMap iT)]⟩
theorem ah8{i j:Nat}(hi:i<=1000)(hj:j<=1000):KS.ok ((i:Int),0,(j:Int)):=by
 show(-9223372036854775808<=(i:Int)/\(i:Int)<=9223372036854775807)/\(-9223372036854775808<=(0:Int)/\(0:Int)<=9223372036854775807)/\(-9223372036854775808<=(j:Int)/\(j:Int)<=9223372036854775807)
 omega
theorem I4(a c:Int)(w:World):(dm 278 #[(0,ap av a),(2,ap av c)]).run aC w= .ok (aP #[ap av a,ap av 0,ap av c]) w:=by kernel_rfl
attribute [local irreducible] Op.shift Go.bits in
theorem ww(g:dF)(hg:cD g=0)(bp:Option Addr)(cp:Nat)(vb:Nat->Value)(w0:World)(hG:kw (fun q=>q<w0.heap.size) w0 (dD g.aQ g.bB (ak bp g.az.length cp)) g)(Cf:Wk (fun q=>q<w0.heap.size) w0 vb g.az)(ow:0<g.az.length->∃b off,bp=ah ⟨b,off,aj⟩/\∀i,i<g.az.length->Rd w0 b (off+i*2) [ap av (bJ g.az (i:Int)).1,vb i])
 (go gm c:Nat) (f:RK->Option Value) (T:Nat) (K':g.aQ=(T:Int)) (hT:T<=30) (l0:List bP.Item) (vl:Value) (h0:∀x∈l0,eg g.az T x) (hl0:l0.length<=20000) (hc:jT (kj g) f) (hcc:c<=900000000000000) (w:World) (B:b_) (ho:mv w0 B) (hvl:SlB B vl l0.length (l0.flatMap iT))
 (hm:Mem B (opL g bp cp go gm f c) w):
 Calls aC 129 #[aH (ah ⟨go,0,aj⟩),vl] w (dX (wu g T l0 bp cp go gm c) B):=by
 obtain⟨-,-,-,-,xF,hgb⟩:=cz hg;have L_:∀q∈g.az,q.2.length<=8:=fun q hq=>(hgb q hq).1;have aaV:=fun g5 WA g6 b v cn out it hit hp hb hn w' B' pV=>N5 g5 WA g6 b v cn out it hit hp hb hn w' B' pV;unfold opL at hm;obtain⟨bl,cl,rfl,r8,C1,IB⟩:=hvl;unfold maxLen at C1;refine eR hm (args:=[aH (ah ⟨go,0,aj⟩),ak bl l0.length cl]) (n:=117) Tryz.func129 I I I ?_
 try refine GA ?_
 refine Ta KS (z:=ap av 0) I fun WA=>?_;refine zL ?_
 try refine GA ?_
 refine aY I fun g5=>?_;refine zL ?_;refine bT (i:=3) I I I I I I ?_;refine zL ?_
 try refine GA ?_
 refine aY I fun g6=>?_;refine zL ?_
 repeat(first|refine GA ?_|refine gV (qV I I) ?_)
 conv=>arg 7;simp only[zA,zB,zC,zD,zE,zF,zG,zH,zI,dr,ret,id_eq]
 refine pv (bx 278 3 (ak aj 0 0) 0 []) (fun k hk=>hk.elim (fun h=>by cases h) id) (fun w=>⟨by decide,.inl ⟨rfl,rfl⟩⟩) ?_;refine s7 [0,1,3,2,4,5] ?_
 conv=>arg 7;simp only[zA,zB,zC,zD,zE,zF,zG,zH,zI,dr,ret,id_eq]
 refine dU (ι:=Nat×Value×(bP.Item->Nat)) (fun(j,_,cn)=>j<=l0.length/\su cn (dO [] (l0.take j)) (2*j)) (fun(j,_,_)=>[(0,aH (ah ⟨go,0,aj⟩)),(6,aH (ah ⟨g6,0,aj⟩)),(7,.func (.func 157) #[] #[aH (ah ⟨g5,0,aj⟩),aH (ah ⟨g6,0,aj⟩)]),(18,ak bl l0.length cl),(19,ap av (l0.length:Int)),(20,ap av (j:Int))])
  (fun(j,v,cn)=>[aO go (Cw g.aQ g.bB (ak bp g.az.length cp) gm).toArray 314,fq jd gm f c]++Hv g5 WA g6 (2*j) v cn (dO [] (l0.take j))) (fun(j,_,_)=>l0.length-j) (0,ak aj 0 0,fun _=>0) ⟨bC _,⟨fun x=>by simp[dO],fun x=>bC _⟩⟩ ?_
 rintro⟨j,v,cn⟩ ⟨j1,j2⟩;dsimp only at j1 j2⊢
 by_cases c1:j<l0.length
 ·obtain⟨b,off,rfl,Ft,JX⟩:=IB J
  have eK:=fun L=>rz (W:=B) (L:=L) mi (off:=off) (fun q u hq=>tG Ft JX q u hq) c1;have hx0:=h0 l0[j] (bV c1);have hxo:=aaU hx0 xF L_ hT;have PG:(dO [] (l0.take j)).length<=j:=eC (F8 _ _) (by rw[nU,gZ];omega);have pJ:more (dO [] (l0.take j)) l0[j]=dO [] (l0.take (j+1)):=by rw[ir c1,k_]
  have hpo:=j2.put l0[j];rw[pJ]at hpo;have aaV:=fun w' B' pV=>aaV g5 WA g6 (2*j) v cn (dO [] (l0.take j)) l0[j] hxo j2 J J w' B' pV;rw[pJ]at aaV;generalize dO [] (l0.take j)=out at*;generalize hoq:dO [] (l0.take (j+1))=aaW at*;generalize l0[j]=x at*
  repeat(first|refine GA ?_|refine gV (aR bI.eq aI.ty I I c1) ?_|refine gV (aU aI.ty I (mi x) (eK _)) ?_)
  refine aY I fun g9=>?_;refine zL ?_;refine gG 6 (cs':=(iT x).toArray) ?_;refine zL ?_
  repeat(first|refine GA ?_|refine gV (aL (i:=6) aI.ty I I I) ?_)
  refine bH [2,3,4,5] [0,1,6] akV I I (Ep aF.en I I) (fun w hm hb=>aaV w _ hb) I I I ?_;intro v' _;refine zL ?_
  try refine GA ?_
  refine dv [0,1,3,4,5,6] ?_;exact bO (j+1,v',BQ cn x) ⟨by show j+1<=l0.length;omega,by show su _ (dO [] (l0.take (j+1))) _;rw[hoq];exact hpo⟩ (by show l0.length-(j+1)<l0.length-j;omega) (hl:=by dsimp only;rw[hoq];rfl)
 ·obtain rfl:j=l0.length:=by omega
  rw[nk]at j2;have AX:(dO [] l0).length<=20000:=eC (F8 _ _) (by rw[nU];omega);clear IB
  try refine GA ?_
  conv=>arg 7;simp only[zA,zB,zC,zD,zE,zF,zG,zH,zI,dr,ret,id_eq,nk,Hv,kt,fN]
  refine dU (ι:=Nat×List bP.Item×(RK->Option Value)×Nat×Value×(bP.Item->Nat)×Nat) (fun(n,out,f',c',_,cn',b)=>WkI g.az T (kj g) l0 n out/\uc g.az T (kj g) (12000-n) n out=uc g.az T (kj g) 12000 0 (dO [] l0)/\jT (kj g) f'/\c'<=c+n/\su cn' out b/\b<=40000+2480*n)
   (fun(n,_,_,_,_,_,_)=>[(0,aH (ah ⟨go,0,aj⟩)),(6,aH (ah ⟨g6,0,aj⟩)),(7,.func (.func 157) #[] #[aH (ah ⟨g5,0,aj⟩),aH (ah ⟨g6,0,aj⟩)]),(10,ap av (n:Int))])
   (fun(_,out,f',c',v',cn',b)=>[aO go (Cw g.aQ g.bB (ak bp g.az.length cp) gm).toArray 314,fq jd gm f' c',aO g5 #[.map (ah WA)] 316,oV KS WA (ap av 0) (F6 cn') b,aO g6 #[v'] 273,bx 278 3 v' out.length (out.flatMap iT)]) (fun(n,_)=>12000-n) (0,dO [] l0,f,c,v,cn,2*l0.length) ⟨FM l0,rfl,hc,aT _,j2,by omega⟩ ?_
  rintro⟨n,out,f',c',v',cn',b⟩ ⟨i1,i2,i3,i4,i5,i6⟩;dsimp only at i1 i2 i3 i4 i5 i6⊢;have RG:=BK L_ xF hT i1.nd fun x hx=>Ap h0 (i1.cl x hx);refine iH (i:=5) I gj fun gv=>?_;obtain⟨bv,cv,rfl,-,se⟩:=gv
  by_cases c2:n<out.length
  ·obtain⟨gz,rfl⟩:=se J
   have jZ:=i1.cl out[n] (bV c2);have hxr:=Ap h0 jZ;have eK:=fun(L:List b9) (i:Nat) (hL:L[i]?=ah (bx 278 3 (ak (ah ⟨gz,0,aj⟩) out.length cv) out.length (out.flatMap iT)))=>oC (W:=B) mi hL c2;have hwx:uc g.az T (kj g) (12000-(n+1)) (n+1) (v7 g.az T (kj g) out[n] out)=uc g.az T (kj g) 12000 0 (dO [] l0):=by
    rw[<-i2,show 12000-n=(12000-(n+1))+1 by omega,uc,if_pos c2,bD,bm c2];rfl
   have hwk:=TU i1 c2;clear i2 jZ;generalize hxx:out[n]=x at*;obtain⟨p,d,lo⟩:=x;have agH:=hxr;obtain⟨r1,r2,r3,r4,r5,r6⟩:=agH;dsimp only at r1 r2 r3 r4 r5 r6;obtain⟨k,rfl⟩:=fz r1;obtain⟨dn,rfl⟩:=fz r3;obtain⟨ln,rfl⟩:=fz r5;have hk:k<=g.az.length:=by omega
   have IQ:=fun w' (pV:Mem B [] w')=>tK g.aQ g.bB bp cp g.az vb w0 w' B k hk ho pV (fun i hi=>let ⟨b,c,h,_⟩:=Cf i hi;⟨b,_,c,h⟩) ow
   repeat(first|refine GC ?_|refine gV (aw (v:=ak (ah ⟨gz,0,aj⟩) out.length cv) aI.ty I (aE (i:=4) I I)) ?_|refine gV (dV (i:=5) bI.eq I I) ?_|refine GB ?_)
   refine dK ([aO go (Cw g.aQ g.bB (ak bp g.az.length cp) gm).toArray 314,aO g6 #[ak (ah ⟨gz,0,aj⟩) out.length cv] 273,bx 278 3 (ak (ah ⟨gz,0,aj⟩) out.length cv) out.length (out.flatMap iT)]) (.calm 0 (.calm 1 (.calm 2 (.calm 3 (.calm 4 (.calm 5 (.calm 6 (.calm 7 (.calm 8 (.one 9 (.calm 10 (.done)))))))))))) (bZ [0,4,5]) ?_
   repeat(first|refine GW ?_|(refine GN ?_;first|refine QW (aU aI.ty I (cs:=[ap av g.aQ,ap av g.bB,ak bp g.az.length cp]) I (fun j v h=>aE (i:=0) I (KT h))) ?_|refine QW (aw (v:=ak (ah ⟨gz,0,aj⟩) out.length cv) aI.ty I (aE (i:=1) I I)) ?_|refine QW (aR bI.eq aI.ty I I c2) ?_|refine QW (aw (v:=ap av (k:Int)) aI.ty I (eK _ 2 I 0 _ I)) ?_))
   refine aJ I ?_;refine aW (fP aF.en I I I) (fun w hm=>IQ _ (hm.pick [] akV I)) I I I ?_;rintro xb hxb
   conv=>arg 8;simp only[zJ,dr,ret,id_eq,Av]
   conv=>arg 7;simp only[Av]
   obtain⟨bb,cc,hbv,hlc,-⟩:=Ax (W:=B) (i:=6) (L:=[aO go (Cw g.aQ g.bB (ak bp g.az.length cp) gm).toArray 314,fq jd gm f' c',aO g5 #[.map (ah WA)] 316,oV KS WA (ap av 0) (F6 cn') b,aO g6 #[ak (ah ⟨gz,0,aj⟩) out.length cv] 273,bx 278 3 (ak (ah ⟨gz,0,aj⟩) out.length cv) out.length (out.flatMap iT),BM xb]) ho Cf hk hxb rfl;have vD:=fun(L:List b9) (i:Nat) (hi:L[i]?=ah (BM xb))=>(Ax (W:=B) (L:=L) ho Cf hk hxb hi);rw[hbv]at vD⊢;have hb8:=nj (l:=g.az) (p:=(k:Int)) L_;refine aK (bZ [0,4,5]) ?_
   try refine GW ?_
   clear IQ
   by_cases c3:dn=(dA g.az (k:Int)).length
   ·repeat(first|refine GC ?_|refine gV (aw (v:=ak (ah ⟨gz,0,aj⟩) out.length cv) aI.ty I (aE (i:=4) I I)) ?_|refine gV (aR bI.eq aI.ty I I c2) ?_|refine gV (aw (v:=ap av (dn:Int)) aI.ty I (eK _ 5 I 1 _ I)) ?_|refine gV (cP (b:=aB) I I (decide_eq_true J)) ?_|refine GB ?_)
    have N6:v7 g.az T (kj g) ((k:Int),(dn:Int),(ln:Int)) out=out:=by
     unfold v7 ki;dsimp only;rw[cX,ii J]
    rw[N6]at hwk hwx;refine dv [0,1,2,3,4,5] ?_;exact bO (n+1,out,f',c',ak (ah ⟨gz,0,aj⟩) out.length cv,cn',b) ⟨hwk,hwx,i3,by show c'<=c+(n+1);omega,i5,by show b<=40000+2480*(n+1);omega⟩ (by show 12000-(n+1)<12000-n;omega)
   have hlt:dn<(dA g.az (k:Int)).length:=by omega
   obtain⟨b2,o2,rfl,hba⟩:=T9 ho Cf hk hxb hbv hlt;have pJ:ki g.az ((k:Int),(dn:Int),(ln:Int))=ah (dA g.az (k:Int))[dn]:=by
    unfold ki;dsimp only;rw[cX,bm hlt]
   generalize hyy:(dA g.az (k:Int))[dn]=y at*;obtain⟨yk,yn⟩:=y
   by_cases c4:yk=2
   ·subst c4
    have N6:v7 g.az T (kj g) ((k:Int),(dn:Int),(ln:Int)) out=fM g.az T yn (pc (kj g) ((k:Int),(dn:Int),(ln:Int))) out g.az.length:=by
     unfold v7;rw[pJ];dsimp only;rw[if_pos I]
    rw[N6]at hwk hwx
    repeat(first|refine GC ?_|refine gV (aw (v:=ak (ah ⟨gz,0,aj⟩) out.length cv) aI.ty I (aE (i:=4) I I)) ?_|refine gV (aR bI.eq aI.ty I I c2) ?_|refine gV (aR bI.eq aI.ty I I hlt) ?_|refine gV (aw (v:=ap av (dn:Int)) aI.ty I (eK _ 5 I 1 _ I)) ?_|refine gV (cP (b:=aD) I I (decide_eq_false J)) ?_|refine gV (aw (v:=ap av 2) aI.ty I (hba _ 6 I 0 _ I)) ?_|refine gV (dz (b:=aD) I I (decide_eq_false (fun h=>h I))) ?_|refine gV (aU (cs:=iT ((k:Int),(dn:Int),(ln:Int))) aI.ty I I (eK _ 5 I)) ?_|refine GB ?_)
    refine bH [0,1] [2,3,4,5,6] akV I I (fP aF.en I I I) (fun w hm hb=>NO g hg bp cp vb w0 hG Cf ow go gm c' f' ((k:Int),(dn:Int),(ln:Int)) T hT hxr (by dsimp only;rw[cX];exact hlt) i3 J w _ (ho.on hm fun o h=>DH h) hb) I I I ?_;rintro⟨f2,c2'⟩ ⟨Xz,agI⟩;dsimp only at Xz agI;refine zL ?_;have akF:=Wz g (it:=((k:Int),(dn:Int),(ln:Int))) (by show((ln:Int)).toNat<64;omega);generalize pc (kj g) ((k:Int),(dn:Int),(ln:Int))=bits at*
    repeat(first|refine GA ?_|refine gV (aw (v:=ak bp g.az.length cp) aI.ty I (aE (i:=5) I I)) ?_)
    refine s7 [5,6,0,1,2,3,4] ?_
    conv=>arg 7;simp only[zA,zB,zC,zD,zE,zF,zG,zH,zI,dr,ret,id_eq]
    refine dU (ι:=Nat×Value×(bP.Item->Nat)×Nat) (fun(i,_,cn2,b3)=>i<=g.az.length/\su cn2 (fM g.az T yn bits out i) b3/\b3<=b+62*i)
     (fun(i,_,_,_)=>[(0,aH (ah ⟨go,0,aj⟩)),(6,aH (ah ⟨g6,0,aj⟩)),(7,.func (.func 157) #[] #[aH (ah ⟨g5,0,aj⟩),aH (ah ⟨g6,0,aj⟩)]),(10,ap av (n:Int)),(11,ak (ah ⟨b2,o2,aj⟩) (dA g.az (k:Int)).length cc),(12,ib bits),(74,ak bp g.az.length cp),(75,ap av (g.az.length:Int)),(76,ap av (i:Int))])
     (fun(i,v2,cn2,b3)=>[aO go (Cw g.aQ g.bB (ak bp g.az.length cp) gm).toArray 314,fq jd gm f2 c2',aO g5 #[.map (ah WA)] 316,oV KS WA (ap av 0) (F6 cn2) b3,aO g6 #[v2] 273,bx 278 3 v2 (fM g.az T yn bits out i).length ((fM g.az T yn bits out i).flatMap iT),BM xb]) (fun(i,_)=>g.az.length-i) (0,ak (ah ⟨gz,0,aj⟩) out.length cv,cn',b) ⟨bC _,i5,by omega⟩ ?_
    rintro⟨i,v2,cn2,b3⟩ ⟨p1,p2,p3⟩;dsimp only at p1 p2 p3⊢
    by_cases c5:i<g.az.length
    ·obtain⟨E,hE⟩:=wa (l:=g.az) (T:=T) yn bits out i
     have PG:=F7 (l:=g.az) (T:=T) (N:=yn) (bits:=bits) (out:=out) i;have Hw:fM g.az T yn bits out (i+1)=if(bJ g.az (i:Int)).1=yn then fL i bits (fM g.az T yn bits out i) (T+1)else fM g.az T yn bits out i:=rfl
     have akG:i*(T+1)<=40*31:=rF J J;generalize hou:fM g.az T yn bits out i=ou at*;have hno:n<ou.length:=by rw[hE,bK];omega
     have hox:ou[n]=((k:Int),(dn:Int),(ln:Int)):=by
      subst hE;rw[List.getElem_append_left c2];exact hxx
     refine iH (i:=5) I gj fun gv=>?_;obtain⟨bv2,cv2,rfl,-,ajQ⟩:=gv;obtain⟨gz2,rfl⟩:=ajQ J;have uj:=fun(L:List b9) (i:Nat) (hL:L[i]?=ah (bx 278 3 (ak (ah ⟨gz2,0,aj⟩) ou.length cv2) ou.length (ou.flatMap iT)))=>oC (W:=B) mi hL hno;rw[hox]at uj;obtain⟨pb,po,rfl,hpr⟩:=ow J;have hpi:=hpr i c5;have hvo:(vb i).oneCell'=true:=adD (Cf i c5);generalize hhd:(bJ g.az (i:Int)).1=hd at*;generalize vb i=vbi at hpi hvo
     repeat(first|refine GA ?_|refine gV (aR bI.eq aI.ty I I c5) ?_|refine gV (aU aI.ty I (cs:=[ap av hd,vbi]) I (fun j v h=>iv ho (hpi j v h))) ?_)
     refine aY I fun g14=>?_;refine zL ?_
     try refine GA ?_
     refine aX (i:=7) (cs':=#[ap av hd,vbi]) I I I I (by simp only[cV,dc,hvo];rfl) I ?_;refine zL ?_
     try refine GA ?_
     refine dK ([aO g14 #[ap av hd,vbi] 140,aO g6 #[ak (ah ⟨gz2,0,aj⟩) ou.length cv2] 273,bx 278 3 (ak (ah ⟨gz2,0,aj⟩) ou.length cv2) ou.length (ou.flatMap iT),BM xb]) (.calm 0 (.calm 1 (.calm 2 (.calm 3 (.calm 4 (.calm 5 (.calm 6 (.calm 7 (.calm 8 (.calm 9 (.calm 10 (.calm 11 (.done))))))))))))) (bZ [7,4,5,6]) ?_
     by_cases c6:hd=yn
     ·rw[if_pos c6]at Hw
      repeat(first|(refine GN ?_;first|refine QW QP ?_|refine QW (aw (v:=ap av hd) aI.ty I (aE (i:=0) I I)) ?_|refine QW (aw (v:=ak (ah ⟨gz2,0,aj⟩) ou.length cv2) aI.ty I (aE (i:=1) I I)) ?_|refine QW (aR bI.eq aI.ty I I hno) ?_|refine QW (aw (v:=ap av (dn:Int)) aI.ty I (uj _ 2 I 1 _ I)) ?_|refine QW (aR bI.eq aI.ty I I hlt) ?_|refine QW (aw (v:=ap av yn) aI.ty I (hba _ 3 I 1 _ I)) ?_|refine QW (dz (b:=aD) I I (decide_eq_false (fun h=>h c6))) ?_|refine GX ?_)|refine GW ?_)
      repeat(first|refine GC ?_|refine gV (aw (v:=ap av g.aQ) aI.ty I (aE (i:=0) I I)) ?_|refine gV (dh (r:=((T+1:Nat):Int)) I I J J J) ?_|refine GB ?_)
      refine s7 [0,1,2,3,4,5,6] ?_
      conv=>arg 7;simp only[zA,zB,zC,zD,zE,zF,zG,zH,zI,dr,ret,id_eq]
      refine dU (ι:=Nat×Value×(bP.Item->Nat)×Nat) (fun(j,_,cn3,b4)=>j<=T+1/\su cn3 (fL i bits ou j) b4/\b4<=b3+2*j)
       (fun(j,_,_,_)=>[(0,aH (ah ⟨go,0,aj⟩)),(6,aH (ah ⟨g6,0,aj⟩)),(7,.func (.func 157) #[] #[aH (ah ⟨g5,0,aj⟩),aH (ah ⟨g6,0,aj⟩)]),(10,ap av (n:Int)),(11,ak (ah ⟨b2,o2,aj⟩) (dA g.az (k:Int)).length cc),(12,ib bits),(13,ap av (i:Int)),(74,ak (ah ⟨pb,po,aj⟩) g.az.length cp),(75,ap av (g.az.length:Int)),(76,ap av (i:Int)),(98,ap av ((T+1:Nat):Int)),(99,ap av (j:Int))])
       (fun(j,v3,cn3,b4)=>[aO go (Cw g.aQ g.bB (ak (ah ⟨pb,po,aj⟩) g.az.length cp) gm).toArray 314,fq jd gm f2 c2',aO g5 #[.map (ah WA)] 316,oV KS WA (ap av 0) (F6 cn3) b4,aO g6 #[v3] 273,bx 278 3 v3 (fL i bits ou j).length ((fL i bits ou j).flatMap iT),BM xb]) (fun(j,_)=>T+1-j) (0,ak (ah ⟨gz2,0,aj⟩) ou.length cv2,cn2,b3) ⟨bC _,p2,by omega⟩ ?_
      rintro⟨j,v3,cn3,b4⟩ ⟨s1,s2,s3⟩;dsimp only at s1 s2 s3⊢
      by_cases c7:j<T+1
      ·have akH:=yX (i:=i) (bits:=bits) (out:=ou) j
       have WB:fL i bits ou (j+1)=if bits.testBit j=aB then more (fL i bits ou j) ((i:Int),0,(j:Int))else fL i bits ou j:=rfl
       have hpo:=s2.put ((i:Int),0,(j:Int));have hdv:bits/2^j<=bits:=Nat.div_le_self _ _;have ha1:=agw (y:=bits/2^j) J;have Dp:∀w,(Op.shift .shr .u64 (bits:Int) .i64 (j:Int)).run aC w= .ok (.int .u64 ((bits/2^j:Nat):Int)) w:=fun w=>aau bits j 64 .u64 .i64 I J w;have IQ:=Aw bits j;generalize hol:fL i bits ou j=ol at*;generalize bits/2^j=D1 at*
       by_cases c8:bits.testBit j=aB
       ·rw[if_pos c8]at WB
        have Ft:D1 %2=1:=by rw[c8]at IQ;simpa using IQ
        repeat(first|refine GC ?_|refine gV (pT I I Dp) ?_|refine gV (nR I I ha1) ?_|refine gV (cP (b:=aB) I I (decide_eq_true J)) ?_|refine gV (bz I (I4 _ _)) ?_|refine GB ?_)
        refine bH [2,3,4,5] [0,1,6] akV I I (Ep aF.en I I) (fun w hm hb=>aaV g5 WA g6 b4 v3 cn3 ol ((i:Int),0,(j:Int)) (ah8 J J) s2 J J w _ hb) I I I ?_;intro v4 _
        conv=>arg 8;simp only[zJ,dr,ret,id_eq,Hv]
        try refine GA ?_
        refine dv [0,1,3,4,5,6,2] ?_;exact bO (j+1,v4,BQ cn3 ((i:Int),0,(j:Int)),b4+2) ⟨by show j+1<=T+1;omega,by show su _ (fL i bits ou (j+1)) _;rw[WB];exact hpo,by show b4+2<=b3+2*(j+1);omega⟩ (by show T+1-(j+1)<T+1-j;omega) (hl:=by dsimp only;rw[WB];rfl)
       rw[if_neg c8]at WB;have Ft:¬D1 %2=1:=by rw[Bool.eq_false_iff.2 c8]at IQ;simpa using IQ
       repeat(first|refine GC ?_|refine gV (pT I I Dp) ?_|refine gV (nR I I ha1) ?_|refine gV (cP (b:=aD) I I (decide_eq_false J)) ?_|refine GB ?_)
       exact bO (j+1,v3,cn3,b4) ⟨by show j+1<=T+1;omega,by show su _ (fL i bits ou (j+1)) _;rw[WB];exact s2,by show b4<=b3+2*(j+1);omega⟩ (by show T+1-(j+1)<T+1-j;omega) (hl:=by dsimp only;rw[WB])
      obtain rfl:j=T+1:=by omega
      try refine GA ?_
      exact bO (i+1,v3,cn3,b4) ⟨by show i+1<=g.az.length;omega,by show su cn3 (fM g.az T yn bits out (i+1)) b4;rw[Hw];exact s2,by show b4<=b+62*(i+1);omega⟩ (by show g.az.length-(i+1)<g.az.length-i;omega) (hl:=by dsimp only;rw[Hw])
     rw[if_neg c6]at Hw
     repeat(first|(refine GN ?_;first|refine QW QP ?_|refine QW (aw (v:=ap av hd) aI.ty I (aE (i:=0) I I)) ?_|refine QW (aw (v:=ak (ah ⟨gz2,0,aj⟩) ou.length cv2) aI.ty I (aE (i:=1) I I)) ?_|refine QW (aR bI.eq aI.ty I I hno) ?_|refine QW (aw (v:=ap av (dn:Int)) aI.ty I (uj _ 2 I 1 _ I)) ?_|refine QW (aR bI.eq aI.ty I I hlt) ?_|refine QW (aw (v:=ap av yn) aI.ty I (hba _ 3 I 1 _ I)) ?_|refine QW (dz (b:=aB) I I (decide_eq_true c6)) ?_|refine GX ?_)|refine GW ?_)
     try refine GA ?_
     refine dv [0,1,2,3,4,5,6] ?_;exact bO (i+1,ak (ah ⟨gz2,0,aj⟩) ou.length cv2,cn2,b3) ⟨by show i+1<=g.az.length;omega,by show su cn2 (fM g.az T yn bits out (i+1)) b3;rw[Hw];exact p2,by show b3<=b+62*(i+1);omega⟩ (by show g.az.length-(i+1)<g.az.length-i;omega) (hl:=by dsimp only;rw[Hw];rfl)
    obtain rfl:i=g.az.length:=by omega
    try refine GA ?_
    refine dv [0,1,2,3,4,5] ?_;exact bO (n+1,fM g.az T yn bits out g.az.length,f2,c2',v2,cn2,b3) ⟨hwk,hwx,Xz,by show c2'<=c+(n+1);omega,p2,by show b3<=40000+2480*(n+1);omega⟩ (by show 12000-(n+1)<12000-n;omega)
   repeat(first|refine GC ?_|refine gV (aw (v:=ak (ah ⟨gz,0,aj⟩) out.length cv) aI.ty I (aE (i:=4) I I)) ?_|refine gV (aR bI.eq aI.ty I I c2) ?_|refine gV (aR bI.eq aI.ty I I hlt) ?_|refine gV (aw (v:=ap av (dn:Int)) aI.ty I (eK _ 5 I 1 _ I)) ?_|refine gV (cP (b:=aD) I I (decide_eq_false J)) ?_|refine gV (aw (v:=ap av yk) aI.ty I (hba _ 6 I 0 _ I)) ?_|refine gV (dz (b:=aB) I I (decide_eq_true c4)) ?_|refine GB ?_)
   have N6:v7 g.az T (kj g) ((k:Int),(dn:Int),(ln:Int)) out=out:=by
    unfold v7;rw[pJ];dsimp only;rw[if_neg c4]
   rw[N6]at hwk hwx;refine dv [0,1,2,3,4,5] ?_;exact bO (n+1,out,f',c',ak (ah ⟨gz,0,aj⟩) out.length cv,cn',b) ⟨hwk,hwx,i3,by show c'<=c+(n+1);omega,i5,by show b<=40000+2480*(n+1);omega⟩ (by show 12000-(n+1)<12000-n;omega)
  have hn:n=out.length:=by have:=i1.le;omega
  have hR:uc g.az T (kj g) 12000 0 (dO [] l0)=out:=by
   rw[<-i2,show 12000-n=(11999-n)+1 by omega,uc,if_neg c2]
  have hcI:jq g.az T (kj g) l0=vZ out:=by unfold jq;rw[hR]
  repeat(first|refine GA ?_|refine gV (aw (v:=ak bv out.length cv) aI.ty I (aE (i:=4) I I)) ?_)
  refine bH [5] [0,1,2,3,4] akV I I (fP aF.en I I I) (fun w hm hb=>ad4 adI (ak bv out.length cv) out w _ hb J) I I I ?_;intro _ _;refine zL ?_
  repeat(first|refine GA ?_|refine gV (aw (v:=ak bv out.length cv) aI.ty I (aE (i:=4) I I)) ?_)
  exact dq I I fun w hm=>hm.cZ (S:=wu g T l0 bp cp go gm c) (f',c',ak bv out.length cv) ⟨i3,by show c'<=c+12000;omega⟩ [0,1,5] akV (by unfold wu opL;dsimp only;rw[hcI,NE];rfl)
end cg
namespace cg
open Go.RowKit cT ey aM dN dx bP c_
theorem SlB.row{W:b_}{L Lx:List b9}{w:World}(hm:Mem W L w){i n size:Nat}{e:TypeId}{v:Value}{xs:List Value}(hi:L[i]?=ah (bx e size v n xs))(is:List Nat)(hL:Lx=is.filterMap fun i=>L[i]?)(hni:i∉is):SlB (b_.on w Lx) v n xs:=by
 have hh:(bx e size v n xs).holds w:=hm.get hi;obtain⟨base,cap,rfl,h1,h2,h3⟩:=Sl.dy hh;refine⟨base,cap,rfl,h1,h2,fun hn=>?_⟩;obtain⟨b,off,rfl,hr⟩:=h3 hn;have hf:(bx e size (ak (ah ⟨b,off,aj⟩) n cap) n xs).fu b:=by
  rcases(show w.ownsRow 0 e size _ n xs from hh).2 with⟨hv,_⟩|⟨g,cp,oU,hv,_⟩
  cases hv
  cases hv;exact .inl I
 refine⟨b,off,rfl,⟨(bx e size _ n xs).lt w hh b hf,?_⟩,hr⟩;rintro⟨o,ho,hfo⟩;subst hL;obtain⟨j,hj,SP⟩:=yQ.1 ho;exact hm.owns.apart i j _ _ (fun h=>hni (h▸hj)) hi SP b hf hfo
theorem SlB.at{B:b_}{L:List b9}{α:Type}{f:α->List Value}{c:Nat}(hc:∀a,(f a).length=c){base:Option Addr}{cap n:Nat}{l:List α}(h:SlB B (ak base n cap) n (l.flatMap f))(hn:0<n):∃b off,base=ah ⟨b,off,aj⟩/\∀(k:Nat) (hk:k<l.length) (j:Nat) (u:Value),(f l[k])[j]?=ah u->At B L ⟨b,off+k*c+j,aj⟩ u:=by
 obtain⟨afd,PT,h0,h1,h2,h3⟩:=h
 cases h0
 obtain⟨b,off,rfl,ho,hr⟩:=h3 hn;exact⟨b,off,rfl,fun k hk j u hj=>rz (W:=B) (L:=L) hc (off:=off) (fun q y hq=>tG ho hr q y hq) hk j u hj⟩
theorem WC{l:List aM.Prod}{s:List bP.Item}{x:bX}{k:Nat}(h:k<s.length):mM l (s.take (k+1)) x=if ki l s[k]=ah x then mM l (s.take k) x++[qQ s[k]]else mM l (s.take k) x:=by
 unfold mM;rw[ir h,List.filter_append,eb]
 by_cases c:ki l s[k]=ah x
 rw[if_pos c,List.filter_cons_of_pos (by simpa using c)];rfl;rw[if_neg c,List.filter_cons_of_neg (by simpa using c)];simp
theorem N7{l:List aM.Prod}{s:List bP.Item}{x:bX}:(mM l s x).length<=s.length:=by
 unfold mM;rw[dw];exact List.length_filter_le _ _
theorem La(g:dF)(hg:cD g=0)(bp:Option Addr)(cp:Nat)(vb:Nat->Value)(w0:World)(hG:kw (fun q=>q<w0.heap.size) w0 (dD g.aQ g.bB (ak bp g.az.length cp)) g)(Cf:Wk (fun q=>q<w0.heap.size) w0 vb g.az)(ow:0<g.az.length->∃b off,bp=ah ⟨b,off,aj⟩/\∀i,i<g.az.length->Rd w0 b (off+i*2) [ap av (bJ g.az (i:Int)).1,vb i])
 (go gm c:Nat) (f:RK->Option Value) (T:Nat) (K':g.aQ=(T:Int)) (hT:T<=30) (s:List bP.Item) (x:bX) (vl:Value) (h0:∀it∈s,eg g.az T it) (hl0:s.length<=20000) (hc:jT (kj g) f) (hcc:c<=900000000000000) (w:World) (B:b_) (ho:mv w0 B) (hvl:SlB B vl s.length (s.flatMap iT))
 (hm:Mem B (opL g bp cp go gm f c) w):
 Calls aC 131 #[aH (ah ⟨go,0,aj⟩),vl,aP (dS x).toArray] w (dX (wu g T (mM g.az s x) bp cp go gm c) B):=by
 have jZ:=fun v h2 h3 w' B' JP yf pV=>ww g hg bp cp vb w0 hG Cf ow go gm c f T K' hT (mM g.az s x) v h2 h3 hc hcc w' B' JP yf pV;have hol:=N7 (l:=g.az) (s:=s) (x:=x);have L6:=im (l:=g.az) (T:=T) (x:=x) h0;obtain⟨bl,cl,rfl,r8,C1,IB⟩:=id hvl;clear IB;unfold maxLen at C1;unfold opL at hm;refine eR hm (args:=[aH (ah ⟨go,0,aj⟩),ak bl s.length cl,aP (dS x).toArray]) (n:=50) Tryz.func131 I I I ?_;refine bY (a_ (bQ I I I fun g5=>?_));refine zL ?_
 try refine GA ?_
 refine jw 278 3 ?_
 conv=>arg 7;simp only[zA,zB,zC,zD,zE,zF,zG,zH,zI,dr,ret,id_eq]
 refine dU (ι:=Nat×Value) (fun(k,_)=>k<=s.length) (fun(k,v)=>[(0,aH (ah ⟨go,0,aj⟩)),(5,aH (ah ⟨g5,0,aj⟩)),(7,v),(11,ak bl s.length cl),(12,ap av s.length),(13,ap av (k:Int))])
  (fun(k,v)=>[aO go (Cw g.aQ g.bB (ak bp g.az.length cp) gm).toArray 314,fq jd gm f c,aO g5 (dS x).toArray 148,bx 278 3 v (mM g.az (s.take k) x).length ((mM g.az (s.take k) x).flatMap iT)]) (fun(k,_)=>s.length-k) (0,ak aj 0 0) (bC _) ?_
 rintro⟨k,v⟩ i1;dsimp only at i1⊢
 by_cases c1:k<s.length
 ·obtain⟨b,off,rfl,eK⟩:=hvl.at (L:=[]) mi J
  have FV:∀(L:List b9) (j:Nat) (u:Value),(iT s[k])[j]?=ah u->At B L ⟨b,off+k*3+j,aj⟩ u:=fun L=>by
   obtain⟨b',Br,he,h⟩:=hvl.at (L:=L) mi J
   cases he
   exact h k c1
  clear eK;have hxr:=h0 s[k] (bV c1);have pJ:=WC (l:=g.az) (x:=x) c1;have IS:(mM g.az (s.take k) x).length<=20000:=eC N7 (by rw[gZ];omega);generalize mM g.az (s.take k) x=ov at*;generalize Hw:mM g.az (s.take (k+1)) x=ov' at*;clear jZ L6 hol;generalize s[k]=it at*;obtain⟨p,d,lo⟩:=it;have agH:=hxr;obtain⟨r1,r2,r3,r4,r5,r6⟩:=agH;dsimp only at r1 r2 r3 r4 r5 r6;obtain⟨kn,rfl⟩:=fz r1;obtain⟨dn,rfl⟩:=fz r3;obtain⟨ln,rfl⟩:=fz r5;have hk:kn<=g.az.length:=by omega
  have IQ:=fun w' (pV:Mem B [] w')=>tK g.aQ g.bB bp cp g.az vb w0 w' B kn hk ho pV (fun i hi=>let ⟨b,c,h,_⟩:=Cf i hi;⟨b,_,c,h⟩) ow;have L_:∀q∈g.az,q.2.length<=8:=fun q hq=>((cz hg).2.2.2.2.2 q hq).1;have hb8:=nj (l:=g.az) (p:=(kn:Int)) L_
  repeat(first|refine GA ?_|refine gV (aR bI.eq aI.ty I I c1) ?_|refine gV (aU (cs:=iT ((kn:Int),(dn:Int),(ln:Int))) aI.ty I I (FV _)) ?_)
  refine aY I fun g9=>?_;refine zL ?_;refine gG 4 (cs':=(iT ((kn:Int),(dn:Int),(ln:Int))).toArray) ?_;refine zL ?_
  try refine GA ?_
  refine dK ([aO go (Cw g.aQ g.bB (ak bp g.az.length cp) gm).toArray 314,aO g9 (iT ((kn:Int),(dn:Int),(ln:Int))).toArray 278]) (.calm 0 (.calm 1 (.calm 2 (.calm 3 (.calm 4 (.calm 5 (.one 6 (.calm 7 (.done))))))))) (bZ [0,4]) ?_
  repeat(first|refine GW ?_|(refine GN ?_;first|refine QW (aU aI.ty I (cs:=[ap av g.aQ,ap av g.bB,ak bp g.az.length cp]) I (fun j v h=>aE (i:=0) I (KT h))) ?_|refine QW (aw (v:=ap av (kn:Int)) aI.ty I (aE (i:=1) I I)) ?_))
  refine aJ I ?_;refine aW (fP aF.en I I I) (fun w hm=>IQ _ (hm.pick [] akV I)) I I I ?_;rintro xb hxb
  conv=>arg 8;simp only[zJ,dr,ret,id_eq,Av]
  conv=>arg 7;simp only[Av]
  obtain⟨bb,cc,hbv,hlc,-⟩:=Ax (W:=B) (i:=5) (L:=[aO go (Cw g.aQ g.bB (ak bp g.az.length cp) gm).toArray 314,fq jd gm f c,aO g5 (dS x).toArray 148,bx 278 3 v ov.length (ov.flatMap iT),aO g9 (iT ((kn:Int),(dn:Int),(ln:Int))).toArray 278,BM xb]) ho Cf hk hxb rfl;rw[hbv];refine aK (bZ [0,4]) ?_
  try refine GW ?_
  clear IQ
  by_cases c2:dn<(dA g.az (kn:Int)).length
  ·obtain⟨b2,o2,rfl,hba⟩:=T9 ho Cf hk hxb hbv c2
   have hns:ki g.az ((kn:Int),(dn:Int),(ln:Int))=ah (dA g.az (kn:Int))[dn]:=by
    unfold ki;dsimp only;rw[cX,bm c2]
   have Pa:=fun w=>Zw (dA g.az (kn:Int))[dn] x w;generalize (dA g.az (kn:Int))[dn]=y at*;rw[hns]at pJ
   try refine GA ?_
   refine dK ([aO g5 (dS x).toArray 148,aO g9 (iT ((kn:Int),(dn:Int),(ln:Int))).toArray 278,BM xb]) (.calm 0 (.calm 1 (.calm 2 (.calm 3 (.calm 4 (.calm 5 (.calm 6 (.calm 7 (.calm 8 (.calm 9 (.calm 10 (.calm 11 (.calm 12 (.calm 13 (.done))))))))))))))) (bZ [2,4,5]) ?_
   by_cases c3:y=x
   ·subst c3
    rw[if_pos I]at pJ;rw[decide_eq_true I]at Pa
    repeat(first|(refine GN ?_;first|refine QW QP ?_|refine QW (aw (v:=ap av (dn:Int)) aI.ty I (aE (i:=1) I I)) ?_|refine QW (aR bI.eq aI.ty I I c2) ?_|refine QW (aU (cs:=dS y) aI.ty I I (hba _ 2 I)) ?_|refine QW (aL (i:=0) aI.ty I I I) ?_|refine QW (Er I I (by kernel_rfl) Pa) ?_|refine GX ?_)|refine GW ?_)
    repeat(first|refine GA ?_|refine gV (aw (v:=ap av (dn:Int)) aI.ty I (aE (i:=4) I I)) ?_)
    refine bT (i:=4) I I I I I I ?_;refine zL ?_
    repeat(first|refine GA ?_|refine gV (aL (i:=4) aI.ty I I I) ?_)
    refine k7 (i:=3) I I I I I I I (fun z h=>by cases h;rfl) J J I fun z v'=>?_;refine zL ?_
    try refine GA ?_
    refine dv [0,1,2,3] ?_;exact bO (k+1,v') (by show k+1<=s.length;omega) (by show s.length-(k+1)<s.length-k;omega) (hl:=by dsimp only;rw[Hw,pJ,bK,fH];rfl)
   rw[if_neg (fun h=>c3 (nO h))]at pJ;rw[decide_eq_false c3]at Pa
   repeat(first|(refine GN ?_;first|refine QW QP ?_|refine QW (aw (v:=ap av (dn:Int)) aI.ty I (aE (i:=1) I I)) ?_|refine QW (aR bI.eq aI.ty I I c2) ?_|refine QW (aU (cs:=dS y) aI.ty I I (hba _ 2 I)) ?_|refine QW (aL (i:=0) aI.ty I I I) ?_|refine QW (Er I I (by kernel_rfl) Pa) ?_|refine GX ?_)|refine GW ?_)
   try refine GA ?_
   refine dv [0,1,2,3] ?_;exact bO (k+1,v) (by show k+1<=s.length;omega) (by show s.length-(k+1)<s.length-k;omega) (hl:=by dsimp only;rw[Hw,pJ];rfl)
  have hns:ki g.az ((kn:Int),(dn:Int),(ln:Int))=none:=by
   unfold ki;dsimp only;rw[cX,ii J]
  rw[hns,if_neg (fun h=>by cases h)]at pJ
  try refine GA ?_
  refine dK ([aO g5 (dS x).toArray 148,aO g9 (iT ((kn:Int),(dn:Int),(ln:Int))).toArray 278,BM xb]) (.calm 0 (.calm 1 (.calm 2 (.calm 3 (.calm 4 (.calm 5 (.calm 6 (.calm 7 (.calm 8 (.calm 9 (.calm 10 (.calm 11 (.calm 12 (.calm 13 (.done))))))))))))))) (bZ [2,4,5]) ?_
  repeat(first|refine GW ?_|(refine GN ?_;first|refine QW (aw (v:=ap av (dn:Int)) aI.ty I (aE (i:=1) I I)) ?_))
  try refine GA ?_
  refine dv [0,1,2,3] ?_;exact bO (k+1,v) (by show k+1<=s.length;omega) (by show s.length-(k+1)<s.length-k;omega) (hl:=by dsimp only;rw[Hw,pJ];rfl)
 ·obtain rfl:k=s.length:=by omega
  rw[nk]
  try refine GA ?_
  refine bH [0,1] [2,3] akV I I (fP aF.en I I I) (fun w hm hb=>jZ v L6 J w _ (ho.on hm fun o h=>DH h) (SlB.row hm (i:=3) I [0,1] I akV) hb) I I I ?_;rintro⟨f2,c2,v2⟩ ⟨Xz,agI⟩
  conv=>arg 8;simp only[zJ,dr,ret,id_eq,wu,opL]
  conv=>arg 7;simp only[wu]
  try refine GA ?_
  exact dq I I fun w hm=>hm.cZ (S:=wu g T (mM g.az s x) bp cp go gm c) (f2,c2,v2) ⟨Xz,agI⟩ [2,3,4] akV I
end cg
namespace cg
open Go.RowKit cT ey aM dN dx bP c_
def jA(g:dF):List (List Int)×List (List bP.Item)×Int:=if cD g≠0 then([],[],cD g)else match allI g.az g.aQ.toNat g.bB.toNat (kj g)with
 |some (Nx,S)=>(Nx,S,0)
 |none=>([],[],8)
def ad5(g:dF):Spec (Value×Value×List Value×(Nat->Prop)×List Value×(Nat->Prop)):=⟨fun _=>True,fun x=> .tuple #[aP #[x.1,x.2.1],ap av (jA g).2.2],fun x=>[bx 273 1 x.1 (jA g).2.1.length x.2.2.1,eY (cB KW) x.2.2.2.1 (x.2.2.1.map fun v=>[v]) (jA g).2.1,bx 26 1 x.2.1 (jA g).1.length x.2.2.2.2.1,eY (cB iE) x.2.2.2.2.2 (x.2.2.2.2.1.map fun v=>[v]) (jA g).1]⟩
theorem N8(w:World):(dm 203 (#[]:Array (Nat×Value))).run aC w= .ok (aP #[ak aj 0 0,ak aj 0 0]) w:=by kernel_rfl
theorem wx{l:List aM.Prod}{T:Nat}{s:List bP.Item}(hw:∀q∈l,q.2.length<=8)(hl:l.length<=40)(hT:T<=30)(h:∀it∈s,eg l T it):w9 s:=fun it hit=>by
 obtain⟨a1,a2,a3,a4,a5,a6⟩:=h it hit;have:=nj (l:=l) (p:=it.1) hw;omega
theorem SlB.els{W:b_}{L Lx:List b9}{w:World}(hm:Mem W L w){i n:Nat}{F:Nat->Prop}{w_:List Value}{S:List (List bP.Item)}(hi:L[i]?=ah (eY (cB KW) F (w_.map fun v=>[v]) S))(is:List Nat)(hL:Lx=is.filterMap fun i=>L[i]?)(hni:i∉is){s:List bP.Item}(hs:S[n]?=ah s){v:Value}(hv:w_[n]?=ah v):SlB (b_.on w Lx) v s.length (s.flatMap iT):=by
 obtain⟨hn,rfl⟩:=cU.1 hs;obtain⟨⟨h1,h2⟩,h3⟩:=hm.get hi;have hnv:n<w_.length:=(cU.1 hv).1;obtain⟨v',e,hs⟩:=h2 n hn (by rw[dw];exact hnv);rw[oZ]at e;obtain rfl:v=v':=by
  have:=(cU.1 hv).2;rw[this]at e;exact(oc e).1
 obtain⟨base,cap,rfl,a1,a2,a3⟩:=hs;refine⟨base,cap,rfl,a1,a2,fun h0=>?_⟩;obtain⟨b,off,rfl,hF,_⟩:=a3 h0;have AX:=kK.flat (f:=iT) (c:=3) (hc:=fun _=>rfl) (p:=fun _=>True) (F:=F) akV (⟨ah ⟨b,off,aj⟩,cap,rfl,a1,a2,a3⟩:kK KW F w _ S[n]);obtain⟨afd,PT,e',_,_,q⟩:=AX;obtain⟨b',Br,e2,hr⟩:=q h0
 cases e'
 cases e2
 refine⟨b,off,rfl,⟨h3 b hF,?_⟩,hr⟩;rintro⟨o,ho,hfo⟩;subst hL;obtain⟨j,hj,SP⟩:=yQ.1 ho;exact hm.owns.apart i j _ _ (fun h=>hni (h▸hj)) hi SP b (.inr hF) hfo
theorem aaX{a b c k:Nat}(h1:a<=b+12000)(h2:b<=c+12000*k):a<=c+12000*(k+1):=by rw[Nat.mul_succ,<-Nat.add_assoc];exact eC h1 (Nat.add_le_add_right h2 _)
theorem F9:∀(l:List Value),(l.map fun v=>[v]).flatten=l
 |[]=>rfl
 |v::l=>by rw[fw,List.flatten_cons,F9 l];rfl
theorem CB{w:World}{v:Value}{l:List Int}(hp:∀x∈l,cT.dM x)(h:(bx 3 1 v l.length (l.map (ap .i64))).holds w):(cB iE).is (fun k=>v.ownBlock=ah k) w [v] l:=
 ⟨v,rfl,kK.of_flat (by have:=Sl.dy h;rwa [show l.map (ap .i64)=l.flatMap (fun n=>[ap .i64 n])by rw[RD]]at this) hp (fun _ h=>h) (fun a n cp hv=>by rw[hv];rfl)⟩
theorem WD(v:Value)(g:dF)(w:World)(hG:kw (fun k=>k<w.heap.size) w v g):
 Calls aC 86 #[v] w (cJ (ad5 g) w):=by
 have hG0:=hG;have h_:=fun w' (hg:Gr w w')=>iX v g w' (hG.gr hg);obtain⟨vp,rfl,hp,ht,hn⟩:=hG;obtain⟨vb,bp,cp,rfl,-,-,Cf,ow⟩:=aat hp;have zv:=KU g.aQ g.bB (ak bp g.az.length cp);have xl:=N8;have hO:jA g=if cD g≠0 then([],[],cD g)else match allI g.az g.aQ.toNat g.bB.toNat (kj g)with
  |some (Nx,S)=>(Nx,S,0)
  |none=>([],[],8):=rfl
 unfold ad5;refine enter (args:=[dD g.aQ g.bB (ak bp g.az.length cp)]) (n:=81) Tryz.func86 I I I ?_;refine bY (a_ (bQ I I I fun g1=>?_));refine zL ?_
 try refine GA ?_
 refine aY I fun g2=>?_;refine zL ?_
 repeat(first|refine GA ?_|refine gV (aL (i:=0) aI.ty I I I) ?_)
 refine aW (kZ aF.en I I) (fun w hm=>h_ w hm.below) I I I ?_;intro _ _;refine zL ?_
 by_cases c0:cD g=0
 ·rw[if_neg (by rw[c0];simp)]at hO
  rw[c0];obtain⟨hT1,hT2,hN1,hN2,xF,hgb⟩:=cz c0;have L_:∀q∈g.az,q.2.length<=8:=fun q hq=>(hgb q hq).1;obtain⟨T,K'⟩:∃T:Nat,g.aQ=(T:Int):=⟨g.aQ.toNat,by omega⟩;obtain⟨N,hNn⟩:∃N:Nat,g.bB=(N:Int):=⟨g.bB.toNat,by omega⟩;rw[show g.aQ.toNat=T by omega,show g.bB.toNat=N by omega]at hO;have hT:T<=30:=by omega
  have ah9:0<g.az.length->∃b off,bp=ah ⟨b,off,aj⟩/\∀i,i<g.az.length->Rd w b (off+i*2) [ap av (bJ g.az (i:Int)).1,vb i]:=fun h=>let ⟨b,off,h1,_,h3⟩:=ow h;⟨b,off,h1,fun i hi=>(h3 i hi).1⟩
  have jZ:=fun go gm l0 vl h1 h2 w' B' JP yf pV=>ww g c0 bp cp vb w hG0 Cf ah9 go gm 0 (fun _=>aj) T K' hT l0 vl h1 h2 (fun x v h=>by cases h) J w' B' JP yf pV;have hst:=fun go gm c f s x vl h1 h2 h3 h4 w' B' JP yf pV=>La g c0 bp cp vb w hG0 Cf ah9 go gm c f T K' hT s x vl h1 h2 h3 h4 w' B' JP yf pV;have Hx:=Hs T N J J (ak bp g.az.length cp)
  repeat(first|refine GA ?_|refine gV (aL (i:=0) aI.ty I I I) ?_)
  refine aW (kZ aF.en I I) (fun w hm=>zv w) I I I ?_;rintro⟨go,gm⟩ _
  conv=>arg 8;simp only[zJ,dr,ret,id_eq,adJ]
  conv=>arg 7;simp only[adJ]
  try refine GA ?_
  refine Bu (K:=iw) I fun gq=>?_;refine zL ?_
  try refine GA ?_
  refine aY I fun g6=>?_;refine zL ?_;refine bT (i:=5) I I I I I I ?_;refine zL ?_
  try refine GA ?_
  refine aY I fun g7=>?_;refine zL ?_
  repeat(first|refine GA ?_|refine gV (qV I I) ?_|refine gV (aw (v:=ak bp g.az.length cp) aI.ty I (aE (i:=0) I I)) ?_|refine gV (aw (v:=ap av g.aQ) aI.ty I (aE (i:=0) I I)) ?_|refine gV (bz I (I4 _ _)) ?_)
  refine gI (cs:=(iT ((g.az.length:Int),0,g.aQ)).toArray) I I I I I fun g33=>?_;refine zL ?_;refine zw (i:=7) (m:=1) 3 I I akV ?_;refine zL ?_;have hsr:∀x∈[(((g.az.length:Int),0,g.aQ):bP.Item)],eg g.az T x:=by rw[K'];exact ft xF hT
  try refine GA ?_
  refine bH [3,2] [0,1,4,5,6] akV I I (fP aF.en I I I) (fun w' hm hb=>jZ go gm [((g.az.length:Int),0,g.aQ)] _ hsr (by simp) w' _ ((mv.self w).on hm fun o h=>DH h) (SlB.row hm (i:=7) I [3,2] I akV) hb) I I I ?_;rintro⟨f2,c2,v2⟩ ⟨Xz,C1⟩
  conv=>arg 8;simp only[zJ,dr,ret,id_eq,wu,opL]
  conv=>arg 7;simp only[wu]
  have yq:jq g.az T (kj g) [((g.az.length:Int),0,g.aQ)]=l7 g.az T (kj g):=by rw[K'];rfl
  rw[yq];have agJ:∀it∈l7 g.az T (kj g),eg g.az T it:=jc L_ xF hT (ft xF hT);have ah_:=we (lk:=kj g) L_ xF hT (l0:=[((g.az.length:Int),0,(T:Int))]) (ft xF hT);have ah':(l7 g.az T (kj g)).length<=11439:=tJ L_ xF hT (ft xF hT);dsimp only at Xz C1;refine rZ 273 1 ?_;refine Mx (eY (cB KW) (fun _=>False) [] []) (fun k hk=>hk.elim (fun h=>by cases h) id) (fun w=>lF) ?_;refine zL ?_;have hsm:=wx L_ xF hT agJ;have Dp:jl [] (l7 g.az T (kj g))=(0,[l7 g.az T (kj g)]):=if_neg (by simp)
  try refine GA ?_
  refine bH [3,2,4,8,9,7] [0,1,5,6] akV I I (Ep aF.en I I) (fun w' hm hb=>Cx g6 gq g7 (ak aj 0 0) (ak aj 0 0) [] (fun _=>False) [] v2 (l7 g.az T (kj g)) (fun t h=>by cases h) hsm (by simp) J w' _ hb) I I I ?_;rintro⟨vS,w_,F⟩ _
  conv=>arg 8;simp only[zJ,dr,ret,id_eq,stL]
  rw[Dp];dsimp only;refine rZ 26 1 ?_;refine Mx (eY (cB iE) (fun _=>False) [] []) (fun k hk=>hk.elim (fun h=>by cases h) id) (fun w=>lF) ?_;refine zL ?_
  try refine GA ?_
  refine dU (ι:=Nat×List (List bP.Item)×List (List Int)×(RK->Option Value)×Nat×Value×Value×List Value×(Nat->Prop)×List Value×(Nat->Prop))
   (fun(n,S,Nx,f,c,_,_,_,_,_,_)=>n<=S.length/\Nx.length=n/\KQ g.az T (kj g) S/\S.length<=200/\xL g.az T N (kj g) (202-n) n Nx S=allI g.az T N (kj g)/\jT (kj g) f/\c<=12000+1200000*n/\∀t∈S,t.length<=11439)
   (fun(n,_,_,_,_,_,_,_,_,_,_)=>[(1,aH (ah ⟨g1,0,aj⟩)),(2,aH (ah ⟨g2,0,aj⟩)),(5,aH (ah ⟨go,0,aj⟩)),(7,aH (ah ⟨g7,0,aj⟩)),(8,.func (.func 127) #[] #[aH (ah ⟨g6,0,aj⟩),aH (ah ⟨g7,0,aj⟩)]),(9,ap av (n:Int))])
   (fun(_,S,Nx,f,c,vS,vN,w_,F,CC,G)=>[aO g1 (dD g.aQ g.bB (ak bp g.az.length cp)).cells 33,aO g2 #[ak aj 0 0,ak aj 0 0] 203,aO go (Cw g.aQ g.bB (ak bp g.az.length cp) gm).toArray 314,fq jd gm f c,aO g6 #[.map (ah gq)] 175,fq iw gq (kD (S.map iD)) S.length,aO g7 #[vS,vN] 203,bx 273 1 vS S.length w_,eY (cB KW) F (w_.map fun v=>[v]) S,bx 26 1 vN Nx.length CC,eY (cB iE) G (CC.map fun v=>[v]) Nx]) (fun(n,_,_,_,_,_,_,_,_,_,_)=>202-n)
   (0,[l7 g.az T (kj g)],[],f2,c2,vS,ak aj 0 0,w_,F,[],fun _=>False) ⟨bC _,rfl,⟨by simp,fun s hs=>by rw[dH.1 hs];exact agJ,fun s hs=>by rw[dH.1 hs];exact ah_⟩,by simp,rfl,Xz,by omega,fun t ht=>by rw[dH.1 ht];exact ah'⟩ ?_
  clear jZ agJ ah_ ah' hsm Dp Xz C1 hsr yq zv h_;rintro⟨n,S,Nx,f,c,vS,vN,w_,F,CC,G⟩ ⟨i1,i2,i3,i4,i5,i6,i7,i8⟩;dsimp only at i1 i2 i3 i4 i5 i6 i7 i8⊢;refine iH (i:=7) I gj fun gv=>?_;obtain⟨aS,cS,rfl,-,haS⟩:=gv
  by_cases c1:n<S.length
  ·rw[show 202-n=(201-n)+1 by omega,xL,if_pos c1]at i5
   have QH:S.getD n []=S[n]:=by rw[bD,bm c1];rfl
   rw[QH]at i5;have hsr:=i3.right S[n] (bV c1);have hsn:S[n]?=ah S[n]:=bm c1;generalize SY:S[n]=s0 at*;have hyl:(lR T N).length=T+N:=Ar T N;rw[<-K',<-hNn]at Hx;generalize lR T N=ys at*
   repeat(first|refine GA ?_|refine gV (aw (v:=ak aS S.length cS) aI.ty I (aE (i:=6) I I)) ?_|refine gV (aL (i:=0) aI.ty I I I) ?_)
   refine aW (kZ aF.en I I) (fun w hm=>Hx w) I I I ?_;intro vy _
   conv=>arg 8;simp only[zJ,dr,ret,id_eq,dr]
   conv=>arg 7;simp only[dr]
   refine qW (i:=11) I gj fun gv=>?_;obtain⟨ay,cy,rfl,-,hay⟩:=gv
   try refine GA ?_
   refine jw 3 1 ?_
   conv=>arg 7;simp only[zA,zB,zC,zD,zE,zF,zG,zH,zI,dr,ret,id_eq]
   refine dU (ι:=Nat×List Int×List (List bP.Item)×(RK->Option Value)×Nat×Value×List Value×(Nat->Prop)×Value)
    (fun(k,nx,S',f',c',_,_,_,_)=>k<=ys.length/\(∃E,S'=S++E)/\KQ g.az T (kj g) S'/\S'.length<=200/\Aq g.az T (kj g) s0 (ys.drop k) nx S'=Aq g.az T (kj g) s0 ys [] S/\jT (kj g) f'/\c'<=c+12000*k/\nx.length=k/\(∀y∈nx,cT.dM y)/\∀t∈S',t.length<=11439)
    (fun(k,_,_,_,_,_,_,_,vx)=>[(1,aH (ah ⟨g1,0,aj⟩)),(2,aH (ah ⟨g2,0,aj⟩)),(5,aH (ah ⟨go,0,aj⟩)),(7,aH (ah ⟨g7,0,aj⟩)),(8,.func (.func 127) #[] #[aH (ah ⟨g6,0,aj⟩),aH (ah ⟨g7,0,aj⟩)]),(9,ap av (n:Int)),(10,vx),(44,ak ay ys.length cy),(45,ap av (ys.length:Int)),(46,ap av (k:Int))])
    (fun(_,nx,S',f',c',vS',C_,F',vx)=>[aO g1 (dD g.aQ g.bB (ak bp g.az.length cp)).cells 33,aO g2 #[ak aj 0 0,ak aj 0 0] 203,aO go (Cw g.aQ g.bB (ak bp g.az.length cp) gm).toArray 314,fq jd gm f' c',aO g6 #[.map (ah gq)] 175,fq iw gq (kD (S'.map iD)) S'.length,aO g7 #[vS',vN] 203,bx 273 1 vS' S'.length C_,eY (cB KW) F' (C_.map fun v=>[v]) S',bx 26 1 vN Nx.length CC,eY (cB iE) G (CC.map fun v=>[v]) Nx,bx 148 2 (ak ay ys.length cy) ys.length (ys.flatMap dS),bx 3 1 vx nx.length (nx.map (ap .i64))]) (fun(k,_,_,_,_,_,_,_,_)=>ys.length-k)
    (0,[],S,f,c,ak aS S.length cS,w_,F,ak aj 0 0) ⟨bC _,⟨[],(dQ _).symm⟩,i3,i4,rfl,i6,by omega,rfl,(fun y hy=>by cases hy),i8⟩ ?_
   clear Hx;rintro⟨k,nx,S',f',c',vS',C_,F',vx⟩ ⟨j1,⟨E,hE⟩,j3,j4,j5,j6,j7,j8,j9,j10⟩;dsimp only at j1 hE j3 j4 j5 j6 j7 j8 j9 j10⊢
   by_cases c2:k<ys.length
   ·have hn':n<S'.length:=by rw[hE,bK];omega
    have aia:S'[n]?=ah s0:=by rw[hE,fR c1];exact hsn
    refine iH (i:=7) I gj fun gv=>?_;obtain⟨aS',cS',rfl,-,ajR⟩:=gv;obtain⟨gS',rfl⟩:=ajR J;refine iH (i:=8) I (fun w h=>h.1.1) fun hvl=>?_;rw[dw]at hvl;have hvn:C_[0+n]?=ah (C_[n]' J):=by rw[cI];exact bm _
    have aib:C_[n]?=ah (C_[n]' J):=bm _;generalize C_[n]' J=vn at hvn aib;obtain⟨gy,rfl⟩:=hay J;have eK:=fun(L:List b9) (i:Nat) (hL:L[i]?=ah (bx 148 2 (ak (ah ⟨gy,0,aj⟩) ys.length cy) ys.length (ys.flatMap dS)))=>oC (W:=(w:b_)) FT hL c2;rw[dJ c2,Aq]at j5;generalize ys[k]=x at*;have vD:s0.length<=11439:=j10 s0 (kO aia)
    repeat(first|refine GA ?_|refine gV (aR bI.eq aI.ty I I c2) ?_|refine gV (aU (cs:=dS x) aI.ty I I (eK _ 11 I)) ?_)
    refine aY I fun g12=>?_;refine zL ?_;refine gG 13 (cs':=(dS x).toArray) ?_;refine zL ?_
    try refine GA ?_
    refine dK ([aO g7 #[ak (ah ⟨gS',0,aj⟩) S'.length cS',vN] 203,bx 273 1 (ak (ah ⟨gS',0,aj⟩) S'.length cS') S'.length C_,aO g12 (dS x).toArray 148]) (.calm 0 (.calm 1 (.calm 2 (.calm 3 (.calm 4 (.calm 5 (.calm 6 (.one 7 (.calm 8 (.done)))))))))) (bZ [6,7,13]) ?_
    repeat(first|refine GW ?_|(refine GN ?_;first|refine QW (aw (v:=ak (ah ⟨gS',0,aj⟩) S'.length cS') aI.ty I (aE (i:=0) I I)) ?_|refine QW (a8 bI.eq aI.ty I I hn') ?_|refine QW (aw (v:=vn) aI.ty I (ku (i:=1) I hvn)) ?_|refine QW (aL (i:=2) aI.ty I I I) ?_))
    refine aJ I ?_;refine bH [2,3] [0,1,4,5,6,7,8,9,10,11,12,13] akV I I (ye aF.en I I I I) (fun w' hm hb=>hst go gm c' f' s0 x vn hsr J j6 J w' _ ((mv.self w).on hm fun o h=>DH h) (SlB.els hm (i:=8) I [2,3] I akV aia aib) hb) I I I ?_;rintro⟨f2,c2',v2⟩ ⟨Xz,C1⟩;dsimp only at Xz C1
    conv=>arg 8;simp only[zJ,dr,ret,id_eq,wu,opL]
    conv=>arg 7;simp only[wu]
    rw[show jq g.az T (kj g) (mM g.az s0 x)=ic g.az T (kj g) s0 x from I];refine aK (bZ [4,5,11]) ?_
    try refine GW ?_
    try refine GA ?_
    refine qW (i:=14) I gj fun gv=>?_;obtain⟨a2,cv2,rfl,-,ha2⟩:=gv;obtain⟨hlE,hlC,hlS⟩:=IL (lk:=kj g) L_ xF hT j3 hsr x;have hcc:c2'<=c+12000*(k+1):=aaX C1 j7;have ajS:∀it∈ic g.az T (kj g) s0 x,eg g.az T it:=jc L_ xF hT (im hsr);have ajT:(ic g.az T (kj g) s0 x).length<=11439:=tJ L_ xF hT (im hsr)
    by_cases c3:ic g.az T (kj g) s0 x=[]
    ·have hcell:rb g.az T (kj g) s0 x S'=(-1,S'):=if_pos c3
     rw[hcell,if_neg (by show ¬200<S'.length;omega)]at j5;dsimp only at j5;have hl0:(ic g.az T (kj g) s0 x).length=0:=by rw[c3];rfl
     repeat(first|refine GA ?_|refine gV (aw (v:=ak (ah ⟨gS',0,aj⟩) S'.length cS') aI.ty I (aE (i:=4) I I)) ?_)
     refine ka (i:=10) I I I I I I (fun z h=>by cases h;rfl) J J I fun z vx'=>?_;refine zL ?_
     try refine GA ?_
     refine dv [0,1,12,13,2,3,4,5,6,7,8,9,10] ?_;exact bO (k+1,nx++[-1],S',f2,c2',ak (ah ⟨gS',0,aj⟩) S'.length cS',C_,F',vx') ⟨by show k+1<=ys.length;omega,⟨E,hE⟩,j3,j4,j5,Xz,hcc,by show(nx++[-1]).length=k+1;rw[bK,j8];rfl,fun y hy=>(gH.1 hy).elim (j9 y) fun h=>by rw[dH.1 h];exact⟨by omega,by omega⟩,j10⟩ (by show ys.length-(k+1)<ys.length-k;omega) (hl:=by dsimp only;rw[bK,eb];rfl)
    have hcell:rb g.az T (kj g) s0 x S'=(((jl S' (ic g.az T (kj g) s0 x)).1:Int),(jl S' (ic g.az T (kj g) s0 x)).2):=if_neg c3;have hsm:=wx L_ xF hT ajS;have hSm:∀t∈S',w9 t:=fun t ht=>wx L_ xF hT (j3.right t ht);have BN:0<(ic g.az T (kj g) s0 x).length:=List.length_pos_iff.2 c3;have hq:(jl S' (ic g.az T (kj g) s0 x)).1<=S'.length:=by
     unfold jl;split
     ·rename_i hm;exact Nat.le_of_lt (lf hm)
     exact aT _
    rw[hcell]at j5 hlE hlC hlS;dsimp only at j5 hlE hlC hlS
    try refine GA ?_
    refine bH [2,3,4,5,6,14] [0,1,7,8,9,10,11,12,13] akV I I (Ep aF.en I I) (fun w' hm hb=>Cx g6 gq g7 (ak (ah ⟨gS',0,aj⟩) S'.length cS') vN C_ F' S' _ (ic g.az T (kj g) s0 x) hSm hsm J J w' _ hb) I I I ?_;rintro⟨vS2,ajU,F2⟩ _
    conv=>arg 8;simp only[zJ,dr,ret,id_eq,stL]
    have F_:∀t∈(jl S' (ic g.az T (kj g) s0 x)).2,t.length<=11439:=by
     unfold jl;split;exact j10;intro t ht;rcases gH.1 ht with h|h
     exact j10 t h;rw[dH.1 h];exact ajT
    generalize jl S' (ic g.az T (kj g) s0 x)=R at*;obtain⟨q,S2⟩:=R;dsimp only at j5 hlE hlC hlS hq F_⊢;refine qW (i:=12) I gj fun gv=>?_;obtain⟨aS2,cS2,rfl,-,akI⟩:=gv;obtain⟨E2,hE2⟩:=hlE
    by_cases c4:200<S2.length
    ·rw[if_pos c4]at j5
     rw[<-j5]at i5
     repeat(first|refine GC ?_|refine gV (aw (v:=ak aS2 S2.length cS2) aI.ty I (aE (i:=11) I I)) ?_|refine gV (eP (b:=aB) I I (decide_eq_true J)) ?_|refine gV (bz I xl) ?_|refine GB ?_)
     have hOn:jA g=([],[],8):=by rw[hO,<-i5]
     rw[hOn];refine gG 1 ?_;refine zL ?_
     try refine GA ?_
     refine eL 273 1 (tc (eY (cB KW) (fun _=>False) [] []) (fun k hk=>hk.elim (fun h=>by cases h) id) (fun w=>lF) (eL 26 1 (tc (eY (cB iE) (fun _=>False) [] []) (fun k hk=>hk.elim (fun h=>by cases h) id) (fun w=>lF) ?_)));exact ez (i:=1) I I I I I fun w hm=>hm.meets (S:=⟨fun(_:Value×Value×List Value×(Nat->Prop)×List Value×(Nat->Prop))=>True,fun x=> .tuple #[aP #[x.1,x.2.1],ap av 8],fun x=>[bx 273 1 x.1 0 x.2.2.1,eY (cB KW) x.2.2.2.1 (x.2.2.1.map fun v=>[v]) [],bx 26 1 x.2.1 0 x.2.2.2.2.1,eY (cB iE) x.2.2.2.2.2 (x.2.2.2.2.1.map fun v=>[v]) []]⟩) (ak aj 0 0,ak aj 0 0,[],fun _=>False,[],fun _=>False) trivial [14,15,16,17] akV I
    rw[if_neg c4]at j5
    repeat(first|refine GC ?_|refine gV (aw (v:=ak aS2 S2.length cS2) aI.ty I (aE (i:=11) I I)) ?_|refine gV (eP (b:=aD) I I (decide_eq_false J)) ?_|refine GB ?_)
    refine ka (i:=5) I I I I I I (fun z h=>by cases h;rfl) J J I fun z vx'=>?_;refine zL ?_
    try refine GA ?_
    refine dv [0,1,7,8,9,10,11,12,13,2,3,4,5] ?_;exact bO (k+1,nx++[(q:Int)],S2,f2,c2',ak aS2 S2.length cS2,ajU,F2,vx') ⟨by show k+1<=ys.length;omega,⟨E++E2,by rw[hE2,hE,dL]⟩,hlS,by show S2.length<=200;omega,j5,Xz,hcc,by show(nx++[(q:Int)]).length=k+1;rw[bK,j8];rfl,fun y hy=>(gH.1 hy).elim (j9 y) fun h=>by rw[dH.1 h];exact⟨by omega,by omega⟩,fun t ht=>F_ t ht⟩ (by show ys.length-(k+1)<ys.length-k;omega) (hl:=by dsimp only;rw[bK,eb];rfl)
   obtain rfl:k=ys.length:=by omega
   rw[List.drop_eq_nil_of_le (aT _),Aq]at j5;rw[<-j5]at i5;dsimp only at i5
   repeat(first|refine GA ?_|refine gV (aw (v:=vN) aI.ty I (aE (i:=6) I I)) ?_)
   refine aV (i:=12) I fun JW J1=>?_;refine ka (i:=9) I I JW J1 I I (fun z h=>by cases h;rfl) J J I fun z vN'=>?_;refine zL ?_;refine zN (eY (cB iE) (fun k=>G k\/vx.ownBlock=ah k) ((CC.map fun v=>[v])++[[vx]]) (Nx++[nx])) 12 10 [0,1,2,3,4,5,6,7,8,9] akV I I I (fun k hk=>hk.elim (fun h=>by cases h) fun h=>h.elim (fun h=> .inr (.inr h)) fun h=> .inl (.inl h)) (fun w hr he=>r9 he (CB j9 hr) (Ay hr)) ?_;refine zL ?_
   try refine GA ?_
   refine aV (i:=9) I fun jM nG=>bT (i:=6) I I I jM nG I ?_;refine zL ?_
   try refine GA ?_
   exact bO (n+1,S',Nx++[nx],f',c',vS',vN',C_,F',CC++[vx],fun k=>G k\/vx.ownBlock=ah k) ⟨by show n+1<=S'.length;rw[hE,bK];omega,by show(Nx++[nx]).length=n+1;rw[bK,i2];rfl,j3,j4,by show xL g.az T N (kj g) (202-(n+1)) (n+1) (Nx++[nx]) S'=_;rw[show 202-(n+1)=201-n by omega];exact i5,j6,by dsimp only;omega,j10⟩ (by show 202-(n+1)<202-n;omega) (hl:=by dsimp only;rw[bK,eb];rfl)
  have hA:allI g.az T N (kj g)=ah (Nx,S):=by rw[<-i5,show 202-n=(201-n)+1 by omega,xL,if_neg c1]
  rw[hA]at hO;have hO:jA g=(Nx,S,0):=hO;rw[hO];refine iH (i:=9) I gj fun gv=>?_;obtain⟨aN,cN,rfl,-⟩:=gv
  repeat(first|refine GA ?_|refine gV (aw (v:=ak aS S.length cS) aI.ty I (aE (i:=6) I I)) ?_|refine gV (aL (i:=6) aI.ty I I I) ?_)
  refine gG 1 (cs':=#[ak aS S.length cS,ak aN Nx.length cN]) ?_;refine zL ?_
  try refine GA ?_
  exact ez (i:=1) I I I I I fun w hm=>hm.meets (S:=⟨fun(_:Value×Value×List Value×(Nat->Prop)×List Value×(Nat->Prop))=>True,fun x=> .tuple #[aP #[x.1,x.2.1],ap av 0],fun x=>[bx 273 1 x.1 S.length x.2.2.1,eY (cB KW) x.2.2.2.1 (x.2.2.1.map fun v=>[v]) S,bx 26 1 x.2.1 Nx.length x.2.2.2.2.1,eY (cB iE) x.2.2.2.2.2 (x.2.2.2.2.1.map fun v=>[v]) Nx]⟩) (ak aS S.length cS,ak aN Nx.length cN,w_,F,CC,G) trivial [7,8,9,10] akV I
 ·rw[if_pos c0]at hO
  rw[hO]
  repeat(first|refine GC ?_|refine gV (dz (b:=aB) I I (decide_eq_true c0)) ?_|refine gV (bz I xl) ?_|refine GB ?_)
  refine gG 1 ?_;refine zL ?_
  try refine GA ?_
  refine eL 273 1 (tc (eY (cB KW) (fun _=>False) [] []) (fun k hk=>hk.elim (fun h=>by cases h) id) (fun w=>lF) (eL 26 1 (tc (eY (cB iE) (fun _=>False) [] []) (fun k hk=>hk.elim (fun h=>by cases h) id) (fun w=>lF) ?_)));exact ez (i:=1) I I I I I fun w hm=>hm.meets (S:=⟨fun(_:Value×Value×List Value×(Nat->Prop)×List Value×(Nat->Prop))=>True,fun x=> .tuple #[aP #[x.1,x.2.1],ap av (cD g)],fun x=>[bx 273 1 x.1 0 x.2.2.1,eY (cB KW) x.2.2.2.1 (x.2.2.1.map fun v=>[v]) [],bx 26 1 x.2.1 0 x.2.2.2.2.1,eY (cB iE) x.2.2.2.2.2 (x.2.2.2.2.1.map fun v=>[v]) []]⟩) (ak aj 0 0,ak aj 0 0,[],fun _=>False,[],fun _=>False) trivial [2,3,4,5] akV I
end cg
namespace bP
open aM dN c_
section
variable{l:List aM.Prod}{T N:Nat}{lk:Int->Int->Nat}{Nx:List (List Int)}{S:List (List Item)}
theorem N9{P:List Item->Prop}(hP:∀s x,(∀it∈s,eg l T it)->P s->P (ic l T lk s x)){s:List Item}(hs:∀it∈s,eg l T it)(h0:P s):∀(xs:List bX) (nx:List Int) (S:List (List Item)) (NG:List Int) (S':List (List Item)),(∀s∈S,P s)->Aq l T lk s xs nx S=ah (NG,S')->∀s∈S',P s
 | [],nx,S,NG,S',hS,h=>by
  simp only[Aq,dg,iu]at h;obtain⟨_,rfl⟩:=h;exact hS
 | x::xs,nx,S,NG,S',hS,h=>by
  rw[Aq]at h
  by_cases c:200<(rb l T lk s x S).2.length
  rw[if_pos c]at h;cases h;rw[if_neg c]at h;refine N9 hP hs h0 xs _ _ NG S' ?_ h;intro s' yf;unfold rb at yf;split at yf;exact hS s' yf;unfold jl at yf;dsimp only at yf;split at yf;exact hS s' yf;rcases gH.1 yf with h'|h'
  exact hS s' h';rw[dH.1 h'];exact hP s x hs h0
theorem Ga{P:List Item->Prop}(hw:∀q∈l,q.2.length<=8)(hl:l.length<=40)(hT:T<=30)(hP:∀s x,(∀it∈s,eg l T it)->P s->P (ic l T lk s x)):∀(f n:Nat) (Nx:List (List Int)) (S:List (List Item)) (Nx':List (List Int)) (S':List (List Item)),(∀s∈S,P s/\∀it∈s,eg l T it)->xL l T N lk f n Nx S=ah (Nx',S')->∀s∈S',P s
 |0,_,_,_,_,_,_,h=>by cases h
 | f + 1,n,Nx,S,Nx',S',hS,h=>by
  rw[xL]at h
  by_cases c:n<S.length
  ·rw[if_pos c]at h
   have rI:S.getD n []=S[n]:=by rw[bD,bm c];rfl
   have hn:=hS _ (bV c);rw[<-rI]at hn
   cases e:Aq l T lk (S.getD n []) (lR T N) [] S with
   |none=>rw[e]at h;cases h
   | some r=>
    obtain⟨nx,S1⟩:=r;rw[e]at h;dsimp only at h;have hQ:∀s x,(∀it∈s,eg l T it)->(P s/\∀it∈s,eg l T it)->P (ic l T lk s x)/\∀it∈ic l T lk s x,eg l T it:=fun s x h1 h2=>⟨hP s x h1 h2.1,jc hw hl hT (im h1)⟩;exact Ga hw hl hT hP f (n+1) _ S1 Nx' S' (N9 hQ hn.2 hn (lR T N) [] S nx S1 hS e) h
  rw[if_neg c]at h;simp only[dg,iu]at h;obtain⟨_,rfl⟩:=h;exact fun s hs=>(hS s hs).1
theorem T_(hw:∀q∈l,q.2.length<=8)(hl:l.length<=40)(hT:T<=30)(h:allI l T N lk=ah (Nx,S)):∀q,q<S.length->∀it∈S.getD q [],it.1=(l.length:Int)->it.2.2=(T:Int):=by
 have SY:∀it∈l7 l T lk,eg l T it:=jc hw hl hT (ft hl hT);have N6:∀{Ua it:Item},C8 l T lk Ua it->it.1<(l.length:Int):=fun {Ua it} h=>by
  obtain⟨_,i,k,_,h2,_,_,_,rfl⟩:=h;show(i:Int)<_
  omega
 have:=Ga (P:=fun s=>∀it∈s,it.1=(l.length:Int)->it.2.2=(T:Int)) (N:=N) hw hl hT (fun s x hs hP it hit h1=>by
  have hm:=(eO (lk:=lk) hw hl hT (im (x:=x) hs) (x:=it)).1 hit
  cases hm with
  |base hb=>
   obtain⟨Lb,h2,h3,rfl⟩:=wb.1 hb;exact hP Lb h2 h1
  |step _ h2=>have:=N6 h2;omega) 202 0 [] [l7 l T lk] Nx S (fun s hs=>by
   rw[dH.1 hs];refine⟨fun it hit h1=>?_,SY⟩;have hm:=(eO (lk:=lk) hw hl hT (ft hl hT) (x:=it)).1 hit
   cases hm with
   |base hb=>rw[dH.1 hb]
   |step _ h2=>have:=N6 h2;omega) h
 intro q hq it hit h1;have rI:S.getD q []=S[q]:=by rw[bD,bm hq];rfl
 rw[rI]at hit;exact this _ (bV hq) it hit h1
theorem ad6(hw:∀q∈l,q.2.length<=8)(hl:l.length<=40)(hT:T<=30)(h:allI l T N lk=ah (Nx,S)):∀s∈S,s.length<=11439:=
 Ga (P:=fun s=>s.length<=11439) (N:=N) hw hl hT (fun s x hs _=>tJ hw hl hT (im hs)) 202 0 [] [l7 l T lk] Nx S (fun s hs=>by
  rw[dH.1 hs];exact⟨tJ hw hl hT (ft hl hT),jc hw hl hT (ft hl hT)⟩) h
end
end bP
namespace cg
open Go.RowKit cT ey aM dN dx bP c_
theorem Ub{g:dF}(h:(jA g).2.2=0):cD g=0/\allI g.az g.aQ.toNat g.bB.toNat (kj g)=ah ((jA g).1,(jA g).2.1):=by
 unfold jA at h⊢
 by_cases c:cD g=0
 ·rw[if_neg (by rw[c];simp)]at h⊢
  refine⟨c,?_⟩
  cases e:allI g.az g.aQ.toNat g.bB.toNat (kj g)with
  |none=>rw[e]at h;cases h
  |some r=>rfl
 rw[if_pos c]at h;exact absurd h c
theorem ad7{g:dF}(h:(jA g).2.2≠0):(jA g).2.1=[]/\(jA g).1=[]:=by
 unfold jA at h⊢
 by_cases c:cD g=0
 ·rw[if_neg (by rw[c];simp)]at h⊢
  cases e:allI g.az g.aQ.toNat g.bB.toNat (kj g)with
  |none=>exact⟨rfl,rfl⟩
  |some r=>rw[e]at h;exact absurd I h
 rw[if_pos c];exact⟨rfl,rfl⟩
end cg
namespace o8
open aM dN ee dx
def km(o:bX->Nat->Nat->Nat)(x:bX)(eh:Nat)(A:Nat->Bool):Nat->Nat->Bool
 |0,_=>aD
 |k+1,b=>km o x eh A k b||(A (eh+k)&&decide (eh+k<=b)&&decide (0<o x (eh+k) b))
def Gb(p:Nat->Bool)(eh:Nat):Nat->Bool
 |0=>aD
 |k+1=>Gb p eh k||p (eh+k)
def Hy(o:bX->Nat->Nat->Nat)(O:Nat->Nat->Bool)(n eh:Nat):List bX->(Nat->Bool)->Bool
 |[],A=>A n
 |x::r,A=>if A n=aB then aB else if x.1=2/\Gb (fun a=>A a&&O x.2.toNat a) eh (n+1-eh)=aB then aB else Hy o O n eh r (km o x eh A (n+1-eh))
def qx(o:bX->Nat->Nat->Nat)(O:Nat->Nat->Bool)(M:List Bool)(n eh:Nat)(l:List bX):Bool:=if iY M l aB=aB then Hy o O n eh l (fun b=>decide (b=eh))else aD
def qy(o:bX->Nat->Nat->Nat)(x:bX)(eh:Nat)(A:Nat->Bool)(k j b:Nat):Bool:=if b<j then km o x eh A (k+1) b else km o x eh A k b
section
variable{o:bX->Nat->Nat->Nat}{x:bX}{eh:Nat}{A:Nat->Bool}
theorem RH{k:Nat}(h:A (eh+k)=aD):km o x eh A (k+1)=km o x eh A k:=by
 funext b;rw[km,h];simp
theorem aaY(k:Nat):qy o x eh A k (eh+k)=km o x eh A k:=by
 funext b
 unfold qy;split;rw[km,decide_eq_false (by omega:¬eh+k<=b)];simp;rfl
theorem Uc(k j:Nat):qy o x eh A k j j=km o x eh A k j:=by simp[qy]
theorem pK{k j:Nat}(h:A (eh+k)=aB)(hj:eh+k<=j)(b:Nat):qy o x eh A k (j+1) b=if b=j then(km o x eh A k j||decide (0<o x (eh+k) j))else qy o x eh A k j b:=by
 unfold qy
 by_cases c:b=j
 subst c;rw[if_pos J,if_pos I,km,h,decide_eq_true hj];simp;rw[if_neg c]
 by_cases c2:b<j
 rw[if_pos J,if_pos c2];rw[if_neg J,if_neg c2]
theorem N_{k j b:Nat}(h:b<j):qy o x eh A k j b=km o x eh A (k+1) b:=by unfold qy;rw[if_pos h]
theorem BS{b:Nat}:∀{k:Nat},km o x eh A k b=aB↔∃i,i<k/\A (eh+i)=aB/\eh+i<=b/\0<o x (eh+i) b
 |0=>by simp[km]
 | k +1=>by
  rw[km,lZ,BS,ff,ff,decide_eq_true_iff,decide_eq_true_iff]
  constructor
  ·rintro(⟨i,h1,h2⟩|⟨⟨h1,h2⟩,h3⟩)
   exact⟨i,by omega,h2⟩;exact⟨k,by omega,h1,h2,h3⟩
  rintro⟨i,h1,h2,h3,h4⟩
  by_cases e:i=k
  subst e;exact .inr ⟨⟨h2,h3⟩,h4⟩;exact .inl ⟨i,by omega,h2,h3,h4⟩
theorem AC{p:Nat->Bool}:∀{k:Nat},Gb p eh k=aB↔∃i,i<k/\p (eh+i)=aB
 |0=>by simp[Gb]
 | k +1=>by
  rw[Gb,lZ,AC]
  constructor
  ·rintro(⟨i,h1,h2⟩|h1)
   exact⟨i,by omega,h2⟩;exact⟨k,by omega,h1⟩
  rintro⟨i,h1,h2⟩
  by_cases e:i=k
  subst e;exact .inr h2;exact .inl ⟨i,by omega,h2⟩
end
section
variable{w:List Int}{l:List aM.Prod}{n:Nat}{c:fA}{O:Nat->Nat->Bool}
theorem Gc:∀(b:List bX),(∀x∈b,∃ws,pI l x ws)->∃ws,lJ l b ws
 |[],_=>⟨[],.nil⟩
 |x::r,h=>by
  obtain⟨u,h1⟩:=h x (by simp);obtain⟨s,h2⟩:=Gc r fun y hy=>h y (by simp[hy]);exact⟨u++s,.cons h1 h2⟩
theorem aaZ{a b:Nat}(h:a<=b):cut w a b++w.drop b=w.drop a:=by
 unfold cut;have e3:w.drop b=(w.drop a).drop (b-a):=by rw[iQ,show a+(b-a)=b by omega]
 rw[e3,rp]
theorem Ge(hc:E6 w l n c)(hs:iR n l)(hO:∀(k:Nat) a,O k a=aB->a<=w.length->∃v,pI l (2,(k:Int)) (w.drop a++v)){eh:Nat}(hf:eh<=w.length):∀(body:List bX) (A:Nat->Bool) (pre:List bX),(∀x∈body,(x.1=1\/(x.1=2/\0<=x.2/\x.2<(n:Int)))/\∃ws,pI l x ws)->(∀b,eh<=b->b<=w.length->A b=aB->lJ l pre (cut w eh b))->Hy (eo c w) O w.length eh body A=aB->∃v,lJ l (pre++body) (w.drop eh++v)
 | [],A,pre,_,hA,h=>by
  have:=hA w.length hf (aT _) h;rw[Kk I]at this;exact⟨[],by rw[dQ,dQ];exact this⟩
 | x ::r,A,pre,hx,hA,h=>by
  rw[Hy]at h;split at h
  ·rename_i h1
   have h2:=hA w.length hf (aT _) h1;rw[Kk I]at h2;obtain⟨ws,h3⟩:=Gc (x::r) fun y hy=>(hx y hy).2;exact⟨ws,h2.Qp h3⟩
  split at h
  ·rename_i h1
   obtain⟨h1,h2⟩:=h1;obtain⟨i,h3,h4⟩:=AC.1 h2;rw[ff]at h4;have hk:=((hx x (by simp)).1.resolve_left J).2;obtain⟨v,h5⟩:=hO _ _ h4.2 J;obtain⟨x1,x2⟩:=x;dsimp only at h1 hk h5;subst h1;rw[oY hk.1]at h5;obtain⟨ws,h6⟩:=Gc r fun y hy=>(hx y (by simp[hy])).2;refine⟨v++ws,?_⟩;have h7:=(hA (eh+i) J J h4.1).Qp (lJ.cons h5 h6);rw[dL (w.drop (eh+i)),<-dL (cut w eh (eh+i)),aaZ J]at h7;exact h7
  obtain⟨v,h1⟩:=Ge hc hs hO hf r _ (pre++[x]) (fun y hy=>hx y (by simp[hy])) (fun b Ft JX hb=>by
   obtain⟨i,h3,h4,h5,h6⟩:=BS.1 hb;rw[<-Ac (by omega:eh<=eh+i) h5];exact(hA _ J J h4).Qp (ZF (Qq hc hs (hx x (by simp)).1 h5 JX h6))) h
  exact⟨v,by rw[dL]at h1;exact h1⟩
theorem Lc{M:List Bool}(hM:∀i:Nat,M.getD i aD=aB->∃ws,pI l (2,(i:Int)) ws)(hc:E6 w l n c)(hs:iR n l)(hO:∀(k:Nat) a,O k a=aB->a<=w.length->∃v,pI l (2,(k:Int)) (w.drop a++v)){eh:Nat}(hf:eh<=w.length){body:List bX}(hx:∀x∈body,x.1=1\/(x.1=2/\0<=x.2/\x.2<(n:Int)))(h:qx (eo c w) O M w.length eh body=aB):∃v,lJ l body (w.drop eh++v):=by
 unfold qx at h;split at h
 ·rename_i hm
  refine Ge hc hs hO hf body _ [] (fun x hb=>⟨hx x hb,?_⟩) (fun b _ _ hb=>?_) h
  ·unfold iY at hm
   have:=oR.1 hm x hb;rcases hx x hb with c1|⟨c1,c2,_⟩
   exact⟨_,.nf c1⟩;rw[if_neg J,if_pos c1]at this;obtain⟨ws,hw⟩:=hM _ this;obtain⟨x1,x2⟩:=x;dsimp only at c1 c2 hw;subst c1;rw[oY c2]at hw;exact⟨ws,hw⟩
  have:b=eh:=by simpa using hb
  subst this;rw[M5];exact .nil
 cases h
mutual
theorem CD{M:List Bool}{E R:List Bool}{F W:List Nat}(hC:i_ l E F W R M)(hc:E6 w l n c)(hs:iR n l)(jZ:∀p∈l,∀a,a<=w.length->qx (eo c w) O M w.length a p.2=aB->O p.1.toNat a=aB):∀{x:bX} {ws:List Int},pI l x ws->x.1≠1->∀{a:Nat} {v:List Int},a<=w.length->ws=w.drop a++v->O x.2.toNat a=aB
 |_,_,.nf h,h0,_,_,_,_=>absurd h h0
 |x,ws,.MY (p:=p) h1 hp hx hd,_,a,v,ha,hw=>by
  rw[<-hx];refine jZ p hp a ha ?_;unfold qx;rw[if_pos (yJ hC hd)];exact Gf hC hc hs jZ hd (fun y hy=>((hs p hp).2.2 y hy).imp id fun h=>h.1) (aT _) ha (by simp) hw
theorem Gf{M:List Bool}{E R:List Bool}{F W:List Nat}(hC:i_ l E F W R M)(hc:E6 w l n c)(hs:iR n l)(jZ:∀p∈l,∀a,a<=w.length->qx (eo c w) O M w.length a p.2=aB->O p.1.toNat a=aB):∀{b:List bX} {ws:List Int},lJ l b ws->(∀y∈b,y.1=1\/y.1=2)->∀{eh a:Nat} {v:List Int} {A:Nat->Bool},eh<=a->a<=w.length->A a=aB->ws=w.drop a++v->Hy (eo c w) O w.length eh b A=aB
 | [],_,.nil,_,eh,a,v,A,h1,h2,h3,h4=>by
  have:=congrArg nV h4;rw[bK,ik,nU]at this;obtain rfl:a=w.length:=by omega
  exact h3
 | y ::b,_,.cons (a:=u) (b:=s) k1 k2,hy,eh,a,v,A,h1,h2,h3,h4=>by
  rw[Hy]
  by_cases c1:A w.length=aB
  rw[if_pos c1];rw[if_neg c1]
  by_cases c2:y.1=2/\Gb (fun a=>A a&&O y.2.toNat a) eh (w.length+1-eh)=aB
  rw[if_pos c2];rw[if_neg c2]
  by_cases c3:u.length<=w.length-a
  ·have e1:w.drop a=u++(w.drop a).drop u.length:=by
    have h5:(w.drop a).take u.length=u:=by
     have:=congrArg (K_ u.length) h4;rw[List.take_left,BR (by rw[ik];exact c3)]at this;exact this.symm
    conv=>lhs;rw[<-rp u.length (w.drop a),h5]
   have e2:s=w.drop (a+u.length)++v:=by
    rw[e1,dL]at h4;rw[<-iQ];exact List.append_cancel_left h4
   have h6:=yI hc hs k1 (hy y (by simp)) h2 ⟨_,e1⟩;refine Gf hC hc hs jZ k2 (fun z hz=>hy z (by simp[hz])) (by omega:eh<=a+u.length) J (BS.2 ⟨a-eh,by omega,?_,?_,?_⟩) e2;rw[show eh+(a-eh)=a by omega];exact h3;omega;rw[show eh+(a-eh)=a by omega];exact h6
  exfalso
  by_cases c4:y.1=1
  ·have hu:=ZG k1 c4
   have:u.length=1:=by rw[hu];rfl
   have:a=w.length:=by omega
   subst this;exact c1 h3
  have e1:u=w.drop a++u.drop (w.length-a):=by
   have h5:u.take (w.length-a)=w.drop a:=by
    have:=congrArg (K_ (w.length-a)) h4;rw[BR J,List.take_left' (by rw[ik])]at this;exact this
   conv=>lhs;rw[<-rp (w.length-a) u,h5]
  have h5:=CD hC hc hs jZ k1 c4 h2 e1;refine c2 ⟨(hy y (by simp)).resolve_left c4,AC.2 ⟨a-eh,by omega,?_⟩⟩;rw[show eh+(a-eh)=a by omega,h3,h5];rfl
end
end
end o8
namespace aM
abbrev Tx:=List UInt8
def dec(n:Nat):Tx:=if n<10 then [fT (48+n)]else [fT (48+n/10),fT (48+n %10)]
def xu(c:UInt8):Tx->Tx×Tx×Bool
 |[]=>([],[],aD)
 |b::r=>if b=c then([],r,aB)else(b::(xu c r).1,(xu c r).2.1,(xu c r).2.2)
def aa0(x:bX):Tx:=32::(if x.1=1 then 116 else 110)::dec x.2.toNat
theorem ad8(n:Nat):0<(dec n).length/\(dec n).length<=2:=by unfold dec;split<;>simp
theorem Ac{c:UInt8}:∀{a:Tx} (b:Tx),(∀x∈a,x≠c)->xu c (a++c::b)=(a,b,aB)
 |[],b,_=>by rw[fN,xu,if_pos I]
 |x::a,b,h=>by
  rw[kt,xu,if_neg (h x (List.mem_cons_self ..)),Ac b fun y hy=>h y (List.mem_cons_of_mem _ hy)]
theorem aa1{c:UInt8}:∀{s:Tx},(xu c s).2.2=aB->s=(xu c s).1++c::(xu c s).2.1
 |[],h=>by cases h
 | b::r,h=>by
  rw[xu]at h⊢;split at h
  ·rename_i e;rw[if_pos e,e];rfl
  rename_i e
  rw[if_neg e];show b::r=b::((xu c r).1++c::(xu c r).2.1)
  rw[<-aa1 (s:=r) h]
theorem Tq{c:UInt8}{s:Tx}(h:(xu c s).2.2=aB):(xu c s).1.length+(xu c s).2.1.length+1=s.length:=by
 have:=congrArg nV (aa1 h);rw[bK,cO]at this;omega
theorem ad9(x:bX):0<(aa0 x).length/\(aa0 x).length<=4:=by have:=ad8 x.2.toNat;unfold aa0;simp;omega
theorem Ar:∀l:List bX,l.length<=(l.flatMap aa0).length/\(l.flatMap aa0).length<=4*l.length
 |[]=>⟨aT _,aT _⟩
 |x::l=>by
  have h1:=ad9 x;have h2:=Ar l;rw[List.flatMap_cons,bK,cO];omega
end aM
namespace je
open dj gu
open aM (xu Ac)
abbrev Bs:=List UInt8
abbrev Wd:=Bs×Rx
abbrev Rl:=Bs×List Bs
structure Sp where
 words:List Wd
 rules:List Rl
def xN(b:UInt8):Bool:=decide (97<=b.toNat)&&decide (b.toNat<=122)
def tM(s:Bs):Bool:=decide (s≠[])&&decide (s.length<=12)&&s.all xN
def l9:List Wd->List Bs->Int×List Bs
 |[],of=>(0,of)
 |w::r,of=>if w.1≠[]/\tM w.1=aD then(1,of)else if cg.YV w.2≠0 then(cg.YV w.2,of)else if w.1∈of then(11,of)else l9 r (if w.1=[]then of else of++[w.1])
def rR:List Rl->List Bs->Int
 |[],_=>0
 |r::l,of=>if tM r.1=aD then 1 else if r.1∈of then 11 else rR l of
def BT(of hd:List Bs)(l:List Bs):Bool:=l.all fun x=>decide (x∈of)||decide (x∈hd)
def sv(of hd:List Bs)(l:List Rl):Bool:=l.all fun r=>BT of hd r.2
def qz(s:Sp):Int:=
 if 60<s.words.length\/60<s.words.length+s.rules.length then 2
 else if(l9 s.words []).1≠0 then(l9 s.words []).1
 else if rR s.rules (l9 s.words []).2≠0 then rR s.rules (l9 s.words []).2
 else if sv (l9 s.words []).2 (s.rules.map (·.1)) s.rules=aB then 0 else 11
end je
namespace cg
open Go.RowKit cT ey dj gu je
def AD:zk Wd:=YR Vg yo
def I5:zk Rl:=YR Vg (cB Vg)
def bsC(s:Bs):List Value:=[str s]
theorem Ud(s:Bs):(bsC s).length=1:=rfl
def WE(F:Nat->Prop)(w:World)(v:Value)(s:Sp):Prop:=∃vw vr,v=aP #[vw,vr]/\kK AD F w vw s.words/\kK I5 F w vr s.rules
theorem aa2{α:Type}{s:zk α}{w w':World}{v:Value}{l:List α}(h:kK s (sa w) w v l)(hg:Gr w w'):kK s (sa w') w' v l:=
 (h.stay fun k hk=>hg.block k hk).mono fun _ hk=>jt hk hg.size
theorem WE.gr{w w':World}{v:Value}{s:Sp}(h:WE (sa w) w v s)(hg:Gr w w'):WE (sa w') w' v s:=by
 obtain⟨vw,vr,h1,h2,h3⟩:=h;exact⟨vw,vr,h1,aa2 h2 hg,aa2 h3 hg⟩
def zm(n:Bs)(k:Int)(c:C4)(v:Value):List Value:=str n::mQ k c v
theorem RI{n:Bs}{k:Int}{c:C4}{vk:Value}{j:Nat}{v:Value}(h:(mQ k c vk)[j]?=ah v):(zm n k c vk).toArray[0+1+j]?=ah v:=by
 rw[jh,cI,Nat.add_comm];exact h
theorem Ue{F:Nat->Prop}{w:World}{b off:Nat}{l:List Wd}(h:∀i (h:i<l.length),∃cs,AD.is F w cs l[i]/\Rd w b (off+i*AD.c) cs){k:Nat}(hk:k<l.length):
 ∃base cap,Rd w b (off+k*7) (zm l[k].1 l[k].2.kind l[k].2.uJ (.slice base l[k].2.kids.length cap))/\oW F w (rA l[k].2.kind l[k].2.uJ (.slice base l[k].2.kids.length cap)) l[k].2/\l[k].1.length<=9223372036854775807:=by
 obtain⟨cs,⟨c1,c2,rfl,⟨rfl,h1⟩,h2⟩,h3⟩:=h k hk;have h2:kC F w c2 l[k].2:=h2;have h4:=h2.r;obtain⟨vk,e,-,hs⟩:=h4;obtain⟨base,cap,rfl,-⟩:=hs;have e2:c2=mQ l[k].2.kind l[k].2.uJ (.slice base l[k].2.kids.length cap):=by
  unfold rA at e;simp only[nb]at e
  simpa using congrArg aaO e
 subst e2;exact⟨base,cap,h3,h2.r,h1⟩
theorem DI{F:Nat->Prop}{w:World}{b off:Nat}{l:List Rl}(h:∀i (h:i<l.length),∃cs,I5.is F w cs l[i]/\Rd w b (off+i*I5.c) cs){k:Nat}(hk:k<l.length):
 ∃base cap,Rd w b (off+k*2) [str l[k].1,.slice base l[k].2.length cap]/\kK Vg F w (.slice base l[k].2.length cap) l[k].2/\l[k].1.length<=9223372036854775807:=by
 obtain⟨cs,⟨c1,c2,rfl,⟨rfl,h1⟩,v,rfl,hs⟩,h3⟩:=h k hk;have SY:=hs;obtain⟨base,cap,rfl,-⟩:=hs;exact⟨base,cap,h3,SY,h1⟩
theorem WG{b:UInt8}{r:Bs}:(b::r).all xN=(xN b&&r.all xN):=rfl
theorem I6{b:UInt8}:xN b=aB↔¬((b.toNat:Int)<97)/\¬((b.toNat:Int)>122):=by
 unfold xN;simp only[ff,decide_eq_true_eq];omega
theorem CE(s:Bs)(w:World):Calls aC 74 #[str s] w (cJ (ret (.bool (tM s))) w):=by
 refine enter (args:=[str s]) (n:=27) Tryz.func74 I I I ?_
 try refine GA ?_
 by_cases c0:s=[]
 ·subst c0
  repeat(first|refine GC ?_|refine gV (uG (b:=aB) I I I) ?_|refine GB ?_)
  exact eU I I I
 by_cases c1:12<s.length
 ·repeat(first|refine GC ?_|refine gV (uG (b:=aD) I I (decide_eq_false c0)) ?_|refine GB ?_)
  exact eU I I (by unfold tM;rw[decide_eq_false (show ¬s.length<=12 by omega)];simp)
 have hB:tM s=s.all xN:=by unfold tM;rw[decide_eq_true c0,decide_eq_true (show s.length<=12 by omega)];rfl
 repeat(first|refine GC ?_|refine gV (uG (b:=aD) I I (decide_eq_false c0)) ?_|refine GB ?_)
 refine dU (ι:=Nat) (fun k=>k<=s.length/\(s.drop k).all xN=s.all xN) (fun k=>[(0,str s),(12,ap av s.length),(13,ap av (k:Int))]) (fun _=>[]) (fun k=>s.length-k) 0 ⟨bC _,rfl⟩ ?_;rintro k ⟨i1,i2⟩
 by_cases c2:k<s.length
 ·rw[dJ c2,WG]at i2
  have hk:=bm c2;rw[hB];generalize s[k]=b at*
  cases hb:xN b with
  | true=>
   obtain⟨b1,b2⟩:=I6.1 hb;rw[hb,rP]at i2
   repeat(first|refine GA ?_|refine gV (wO (b:=b) bI.eq I I J hk) ?_)
   exact bO (k+1) ⟨by omega,i2⟩ (by show s.length-(k+1)<s.length-k;omega)
  | false=>
   rw[hb,K6]at i2;rw[<-i2]
   by_cases b1:(b.toNat:Int)<97
   ·repeat(first|refine GA ?_|refine gV (wO (b:=b) bI.eq I I J hk) ?_)
    exact eU I I I
   have b2:(b.toNat:Int)>122:=by
    by_cases b2:(b.toNat:Int)>122
    exact b2;rw[I6.2 ⟨b1,b2⟩]at hb;cases hb
   repeat(first|refine GA ?_|refine gV (wO (b:=b) bI.eq I I J hk) ?_)
   exact eU I I I
 have e:k=s.length:=by omega
 subst e;rw[wq]at i2;rw[hB,<-i2]
 try refine GA ?_
 exact eU I I I
def KeysOf(m:Bs->Option Value)(of:List Bs):Prop:=∀y,(m y).isSome=decide (y∈of)
theorem sw{m:Bs->Option Value}{of:List Bs}{y:Bs}{v:Value}(h:KeysOf m of)(e:m y=ah v):y∈of:=by
 have:=h y;rw[e]at this;exact of_decide_eq_true this.symm
theorem sx{m:Bs->Option Value}{of:List Bs}{y:Bs}(h:KeysOf m of)(e:m y=aj):y∉of:=by
 have:=h y;rw[e]at this;exact of_decide_eq_false this.symm
theorem Oa{m:Bs->Option Value}{of:List Bs}{x:Bs}{v:Value}(h:KeysOf m of):KeysOf (fun y=>if y=x then ah v else m y) (of++[x]):=fun y=>by
 by_cases e:y=x
 subst e;simp;dsimp only;rw[if_neg e,h y];simp[e]
theorem ie(w:World):(zeroValue 3).run aC w= .ok (ap av 0) w:=by kernel_rfl
def tN(gm:Nat)(r:Int×List Bs):Spec ((Bs->Option Value)×Nat):=⟨fun x=>KeysOf x.1 r.2/\x.2<=60,fun _=>ap av r.1,fun x=>[fq iw gm x.1 x.2]⟩
theorem Ob(vw vr:Value)(l:List Wd)(gm:Nat)(w0:World)(hw:kK AD (sa w0) w0 vw l)(hl:l.length<=60)(w:World)(B:b_)(ho:mv w0 B)(hm:Mem B [fq iw gm (fun _=>aj) 0] w):
 Calls aC 73 #[aP #[vw,vr],.map (ah gm)] w (dX (tN gm (l9 l [])) B):=by
 obtain⟨bw,cw,rfl,-,-,fZ⟩:=hw;have hnm:=fun s w=>CE s w;refine eR hm (args:=[aP #[ak bw l.length cw,vr],.map (ah gm)]) (n:=49) Tryz.func73 I I I ?_;refine bY (a_ (bQ I I I fun g2=>?_));refine zL ?_
 repeat(first|refine GA ?_|refine gV (aw (v:=ak bw l.length cw) aI.ty I (aE (i:=1) I I)) ?_)
 refine s7 [0] ?_;generalize lK:l9 l []=fin;refine dU (ι:=Nat×List Bs×(Bs->Option Value)×Nat) (fun(k,of,m,n)=>k<=l.length/\n<=k/\KeysOf m of/\l9 (l.drop k) of=fin) (fun(k,_,_,_)=>[(1,.map (ah gm)),(11,ak bw l.length cw),(12,ap av l.length),(13,ap av (k:Int))]) (fun(_,_,m,n)=>[fq iw gm m n]) (fun(k,_)=>l.length-k) (0,[],fun _=>aj,0) ⟨bC _,aT _,fun y=>rfl,lK⟩ ?_;clear hm lK;rintro⟨k,of,m,n⟩ ⟨i1,i2,i3,i4⟩;dsimp only at i1 i2 i3 i4⊢
 by_cases c1:k<l.length
 ·obtain⟨b,off,rfl,_,hr⟩:=fZ J
  obtain⟨bk,ck,q1,q2,q3⟩:=Ue hr c1;rw[dJ c1,l9]at i4;have eK:∀(L:List b9) (j:Nat) (u:Value),(zm l[k].1 l[k].2.kind l[k].2.uJ (.slice bk l[k].2.kids.length ck))[j]?=ah u->At B L ⟨b,off+k*7+j,aj⟩ u:=fun L j u hj=>iv ho (q1 j u hj);have h_:=fun w' (hg:Gr w0 w')=>uO _ _ w' (q2.gr hg);clear hr fZ q1 q2;generalize l[k]=wd at*;obtain⟨nm,r⟩:=wd;dsimp only at*;generalize YV r=er at*;generalize r.kind=rk at*;generalize r.uJ=rc at*;generalize r.kids.length=rn at*
  repeat(first|refine GA ?_|refine gV (aR bI.eq aI.ty I I c1) ?_|refine gV (aU (cs:=zm nm rk rc (ak bk rn ck)) aI.ty I I (eK _)) ?_)
  clear eK;refine aY I fun g6=>?_;refine zL ?_
  try refine GA ?_
  refine gG 1 (cs':=(zm nm rk rc (ak bk rn ck)).toArray) ?_;refine zL ?_
  repeat(first|refine GA ?_|refine gV (aw (v:=str nm) aI.ty I (aE (i:=1) I I)) ?_)
  by_cases e0:nm=[]
  ·subst e0
   rw[if_neg (fun h=>h.1 I)]at i4
   repeat(first|refine GC ?_|refine gV (zu (b:=aD) I I I) ?_|refine gV (aU (cs:=mQ rk rc (ak bk rn ck)) aI.ty I I (fun j v hj=>aE (i:=1) I (RI hj))) ?_|refine GB ?_)
   refine aW (kZ aF.en I I) (fun w hm=>h_ _ (ho.mem hm)) I I I ?_;intro _ _;refine zL ?_
   by_cases e1:er=0
   ·subst e1
    rw[if_neg (by simp)]at i4
    repeat(first|refine GA ?_|refine gV (aw (v:=str []) aI.ty I (aE (i:=1) I I)) ?_)
    cases Cy:m []with
    | some v=>
     have JG:=sw i3 Cy;rw[if_pos JG]at i4
     repeat(first|refine GA ?_|refine gV (aw (v:=str []) aI.ty I (aE (i:=1) I I)) ?_|refine gV (jN iw (x:=([]:Bs)) bI.eq ie (i:=0) I I I q3 Cy) ?_)
     subst i4;exact dq I I fun w hm=>hm.cZ (S:=tN gm _) (m,n) ⟨i3,by show n<=60;omega⟩ [0] akV I
    | none=>
     have JG:=sx i3 Cy;rw[if_neg JG,if_pos I]at i4
     repeat(first|refine GC ?_|refine gV (aw (v:=str []) aI.ty I (aE (i:=1) I I)) ?_|refine gV (jO iw (x:=([]:Bs)) bI.eq ie (i:=0) I I I q3 Cy) ?_|refine gV (zu (b:=aD) I I I) ?_|refine GB ?_)
     refine dv [0] ?_;exact bO (k+1,of,m,n) ⟨by omega,by show n<=k+1;omega,i3,i4⟩ (by show l.length-(k+1)<l.length-k;omega)
   rw[if_pos e1]at i4
   repeat(first|refine GC ?_|refine gV (dz (b:=aB) I I (decide_eq_true e1)) ?_|refine GB ?_)
   subst i4;exact dq I I fun w hm=>hm.cZ (S:=tN gm _) (m,n) ⟨i3,by show n<=60;omega⟩ [0] akV I
  repeat(first|refine GC ?_|refine gV (zu (b:=aB) I I (decide_eq_true e0)) ?_|refine gV (aw (v:=str nm) aI.ty I (aE (i:=1) I I)) ?_|refine GB ?_)
  refine kV (kZ aF.en I I) (fun w hm=>hnm nm w) I I I I I ?_;intro _ _;refine zL ?_
  cases hb:tM nm with
  | false=>
   rw[if_pos ⟨e0,hb⟩]at i4
   try refine GA ?_
   subst i4;exact dq I I fun w hm=>hm.cZ (S:=tN gm _) (m,n) ⟨i3,by show n<=60;omega⟩ [0] akV I
  | true=>
   rw[if_neg (fun h=>by rw[hb]at h;cases h.2)]at i4
   repeat(first|refine GA ?_|refine gV (aU (cs:=mQ rk rc (ak bk rn ck)) aI.ty I I (fun j v hj=>aE (i:=1) I (RI hj))) ?_)
   refine aW (kZ aF.en I I) (fun w hm=>h_ _ (ho.mem hm)) I I I ?_;intro _ _;refine zL ?_
   by_cases e1:er=0
   ·subst e1
    rw[if_neg (by simp)]at i4
    repeat(first|refine GA ?_|refine gV (aw (v:=str nm) aI.ty I (aE (i:=1) I I)) ?_)
    cases Cy:m nm with
    | some v=>
     have JG:=sw i3 Cy;rw[if_pos JG]at i4
     repeat(first|refine GA ?_|refine gV (aw (v:=str nm) aI.ty I (aE (i:=1) I I)) ?_|refine gV (jN iw (x:=nm) bI.eq ie (i:=0) I I I q3 Cy) ?_)
     subst i4;exact dq I I fun w hm=>hm.cZ (S:=tN gm _) (m,n) ⟨i3,by show n<=60;omega⟩ [0] akV I
    | none=>
     have JG:=sx i3 Cy;rw[if_neg JG,if_neg e0]at i4
     repeat(first|refine GC ?_|refine gV (aw (v:=str nm) aI.ty I (aE (i:=1) I I)) ?_|refine gV (jO iw (x:=nm) bI.eq ie (i:=0) I I I q3 Cy) ?_|refine gV (zu (b:=aB) I I (decide_eq_true e0)) ?_|refine GB ?_)
     refine mK (i:=0) (x:=nm) (v:=ap av (k:Int)) iw bI.eq I I I I q3 J ?_;refine zL ?_
     try refine GA ?_
     refine dv [0] ?_;exact iU (k+1,of++[nm],_,_) ⟨by omega,by rw[Cy];show n+1<=k+1;omega,Oa i3,i4⟩ (by show l.length-(k+1)<l.length-k;omega) (by repeat' (first|exact cY|refine cK I ?_)) I
   rw[if_pos e1]at i4
   repeat(first|refine GC ?_|refine gV (dz (b:=aB) I I (decide_eq_true e1)) ?_|refine GB ?_)
   subst i4;exact dq I I fun w hm=>hm.cZ (S:=tN gm _) (m,n) ⟨i3,by show n<=60;omega⟩ [0] akV I
 ·obtain rfl:k=l.length:=by omega
  rw[wq]at i4
  try refine GA ?_
  subst i4;exact dq I I fun w hm=>hm.cZ (S:=tN gm _) (m,n) ⟨i3,by show n<=60;omega⟩ [0] akV I
end cg
namespace cg
open Go.RowKit cT ey dj gu je Go.ChangeShapes Go.WideShapes Go.ChangeAt
set_option maxRecDepth 100000
theorem Gg{α:Type}{s:zk α}{is:List Value->α->Prop}{w:World}{v:Value}{l:List α}(h:SlX w is s.c v l)(hi:∀cs a,is cs a->s.is (sa w) w cs a)(h0:0<s.c):kK s (sa w) w v l:=by
 obtain⟨base,cap,h1,h2,h3,h4⟩:=h;refine⟨base,cap,h1,h2,h3,fun hl=>?_⟩;obtain⟨b,off,h5,h6⟩:=h4 hl;refine⟨b,off,h5,?_,fun i pP=>let ⟨cs,h7,h8⟩:=h6 i pP;⟨cs,hi _ _ h7,h8⟩⟩;obtain⟨cs,h7,h8⟩:=h6 0 hl;have hlen:=s.len (hi _ _ h7);have hc:=h8 0 (cs[0]' J) (bm J);exact World.block_lt_of_cell? w _ hc
theorem Oc{H:Type}{M:Msr aC H}{enc0:TypeId×Value->H}{W:World}:k8 M enc0 W 122 (fun cs x=>AD.is (sa W) W cs x):=fun fuel cs x h hm=>by
 obtain⟨hl,Th⟩:=Bi Tryz.underlying122 h hm;have hl7:cs.length=7:=hl;obtain⟨n,⟨e0,n1⟩,-⟩:=Th 0 _ rfl (yj Tryz.underlying9);obtain⟨r,h1⟩:=Th 1 _ rfl (fun fuel=>EN (M:=M) (enc0:=enc0) (W:=W) fuel fuel (aT _))
 replace e0:(cs.drop 0).take 1=[str n]:=e0
 replace h1:kC (sa W) W ((cs.drop 1).take 6) r:=h1
 refine⟨(n,r),[str n],(cs.drop 1).take 6,?_,⟨rfl,n1⟩,h1⟩;rw[<-e0];have e:(cs.drop 1).take 6=cs.drop 1:=ig (by rw[ik];omega);rw[e,pf,rp]
theorem Od{H:Type}{M:Msr aC H}{enc0:TypeId×Value->H}{W:World}:k8 M enc0 W 124 (fun cs x=>I5.is (sa W) W cs x/\M.lim 9 x.2.length):=fun fuel cs x h hm=>by
 obtain⟨hl,Th⟩:=Bi Tryz.underlying124 h hm;have J1:cs.length=2:=hl;obtain⟨n,⟨e0,n1⟩,-⟩:=Th 0 _ rfl (yj Tryz.underlying9);obtain⟨l,⟨v,e1,hs⟩,Ey⟩:=Th 1 _ rfl (ta (c:=1) Tryz.underlying90 (by kernel_rfl) akV (yj Tryz.underlying9) fun cs a h=>by rw[h.1.1];rfl)
 replace e0:(cs.drop 0).take 1=[str n]:=e0
 replace e1:(cs.drop 1).take 1=[v]:=e1
 refine⟨(n,l),⟨[str n],[v],?_,⟨rfl,n1⟩,v,rfl,Gg (s:=Vg) hs (fun cs a h=>⟨h.1.1,h.1.2⟩) akV⟩,Ey⟩
 match cs,J1 with
 |[x,y],_=>
  simp only[K7,pf,mV,sU,fg,and_true]at e0 e1;subst e0 e1;rfl
theorem Oe{H:Type}{M:Msr aC H}{enc0:TypeId×Value->H}{W:World}:k8 M enc0 W 25 (fun cs s=>WE (sa W) W (aP cs.toArray) s/\∀r∈s.rules,M.lim 9 r.2.length):=fun fuel cs x h hm=>by
 obtain⟨hl,Th⟩:=Bi Tryz.underlying25 h hm;have J1:cs.length=2:=hl;obtain⟨ws,⟨vw,e0,h0⟩,-⟩:=Th 0 _ rfl (ta (c:=7) Tryz.underlying22 (by kernel_rfl) akV Oc fun cs a h=>AD.len h);obtain⟨rs,⟨vr,e1,h1⟩,-⟩:=Th 1 _ rfl (ta (c:=2) Tryz.underlying23 (by kernel_rfl) akV Od fun cs a h=>I5.len h.1)
 replace e0:(cs.drop 0).take 1=[vw]:=e0
 replace e1:(cs.drop 1).take 1=[vr]:=e1
 refine⟨⟨ws,rs⟩,⟨vw,vr,?_,Gg (s:=AD) h0 (fun cs a h=>h) akV,Gg (s:=I5) h1 (fun cs a h=>h.1) akV⟩,fun r hr=>?_⟩
 ·match cs,J1 with
  |[x,y],_=>
   simp only[K7,pf,mV,sU,fg,and_true]at e0 e1;subst e0 e1;rfl
 obtain⟨i,hi,rfl⟩:=jG.1 hr;have hi:i<rs.length:=hi;obtain⟨base,cap,_,_,_,h4⟩:=h1;obtain⟨b,off,_,h6⟩:=h4 J;obtain⟨cs,h7,_⟩:=h6 i hi;exact h7.2
end cg
namespace cg
open Go.RowKit cT ey dj gu je Go.ChangeShapes Go.WideShapes Go.ChangeAt
set_option maxRecDepth 100000
theorem RJ{H:Type}{enc0:TypeId×Value->H}{W:World}{base:Nat}{v:Value}{d:DataW H}{ps:List MemPlace}(hv:Value.okWide aC W .any base 25 v)(h:DataW.Trod enc0 aC W 0 (fun _=>aB) aB 25 v d ps){ts:List TypeId}{ds:List (DataW H)}(hsz:(DataW.weightsEach aC ts ds).all (· <=reachBytes)=aB)(j:Nat)(hj:ts[j]?=ah 25)(hd:ds[j]?=ah d):
 ∃s:Sp,WE (sa W) W v s/\∀r∈s.rules,r.2.length*16<=140737488351232:=by
 obtain⟨cs,s,rfl,h1,h2⟩:=YN (M:=S8 aC H) Tryz.underlying25 hv h Oe (Mv hsz j hj hd);rw[Array.toArray_toList]at h1;exact⟨s,h1,h2⟩
end cg
namespace cg
open Go.RowKit cT ey aM
theorem Og(k q:Int)(w:World):(dm 148 #[(0,ap av k),(1,ap av q)]).run aC w= .ok (aP #[ap av k,ap av q]) w:=by
 go_simp
end cg
namespace cg
open Go.RowKit cT ey zS c_
def yY(R:List Row)(tags:List Int):List Row:=if lC R tags=0 then(ny (eM R tags) (du (eM R tags))).2 else []
def yZ(R:List Row)(tags:List Int):List Int:=if lC R tags=0 then(ny (eM R tags) (du (eM R tags))).1.map (eM R tags).tag else []
theorem Uf{R:List Row}{tags:List Int}(h:lC R tags=0):(yY R tags).length=(yZ R tags).length/\(yY R tags).length=(qu (eM R tags)).n:=by
 obtain⟨hA,_⟩:=pe h;have:=(FX (bl:=du (eM R tags)) hA).2.len;unfold yY yZ;rw[if_pos h,if_pos h,dw];exact⟨this,this⟩
theorem Ug{R:List Row}{tags:List Int}(h:lC R tags=0):eM (yY R tags) (yZ R tags)=qu (eM R tags):=by
 have hl:=(Uf h).2;have e1:yY R tags=(ny (eM R tags) (du (eM R tags))).2:=if_pos h;have e2:yZ R tags=(ny (eM R tags) (du (eM R tags))).1.map (eM R tags).tag:=if_pos h;show uh.mk (yY R tags).length _ _=_
 rw[hl];rw[e1,e2];rfl
theorem DJ{R:List Row}{tags:List Int}(h:lC R tags=0):lC (yY R tags) (yZ R tags)=0:=by
 refine K0 ?_ (Uf h).1.symm;rw[Ug h];exact DF (pe h).1
def wy(bl:Nat->Nat)(Q:List Nat)(b:Nat):Int:=if b∈Q.map bl then(idx (Q.map bl) b:Int)+1 else 0
theorem aa3{bl:Nat->Nat}{Q:List Nat}{q:Nat}(hn:bl q∉Q.map bl)(b:Nat):wy bl (Q++[q]) b=if b=bl q then(Q.length:Int)+1 else wy bl Q b:=by
 unfold wy;rw[eb,K8]
 by_cases c:b=bl q
 ·subst c
  rw[if_pos (by simp),if_pos I];have:=sb (D:=Q.map bl) (k:=bl q);unfold more at this;rw[if_neg hn,if_neg hn]at this;rw[this,dw]
 rw[if_neg c]
 by_cases c2:b∈Q.map bl
 rw[if_pos c2,if_pos (List.mem_append_left _ c2),qY c2];rw[if_neg c2,if_neg];rw[gH,dH];rintro(h|h);exact c2 h;exact c h
def BU(l:List Int):Row:=rK fun b:Fin 256=>if b<l.length then l.getD b 0 else-1
theorem aa4:BU []=eA 256 (-1):=by
 refine kA fun j hj=>?_;unfold BU;simp
theorem aa5{l:List Int}(h:l.length=256):BU l=vec l:=by
 refine kA fun j hj=>?_;unfold BU vec;simp[h,hj]
theorem Gh(l:List Int)(x:Int)(h:l.length<256):(BU l).set l.length x=BU (l++[x]):=by
 refine kA fun j hj=>?_;unfold BU;rw[vO,jk,jk];simp only[bK,nT];split
 ·rename_i e;subst e
  rw[if_pos J,mz (aT _),qk];rfl
 by_cases c:j<l.length
 rw[if_pos c,if_pos J,jx c];rw[if_neg c,if_neg J]
theorem WH(l:List Int)(h:l.length<256):BU (l++[-1])=BU l:=by
 rw[<-Gh l (-1) h];refine kA fun j hj=>?_;rw[vO];split
 ·rename_i e;subst e;unfold BU;simp
 rfl
structure aa6(R:List Row)(tags:List Int)(f n:Nat)(Q:List Nat)(out:List Row):Prop where
 eq:ny (eM R tags) (du (eM R tags))=xM (eM R tags) (du (eM R tags)) f n Q out
 ok:Wo (eM R tags) (du (eM R tags)) Q
 outs:Wp (eM R tags) (du (eM R tags)) n Q out
 fuel:(eM R tags).n+1<=f+n
theorem aic{R:List Row}{tags:List Int}(hA:(eM R tags).Ok):aa6 R tags (R.length+1) 0 [0] []:=⟨rfl,ah1 hA,⟨rfl,bC _,fun k hk=>by omega⟩,aT _⟩
theorem WI{R:List Row}{tags:List Int}(hA:(eM R tags).Ok){f n:Nat}{Q:List Nat}{out:List Row}(h:aa6 R tags f n Q out)(hn:n<Q.length):∃f',f=f'+1/\aa6 R tags f' (n+1) (lL (eM R tags) (du (eM R tags)) (Q.getD n 0) Q 256).1 (out++[vec (lL (eM R tags) (du (eM R tags)) (Q.getD n 0) Q 256).2]):=by
 have h1:=h.ok.len;have h2:=h.fuel;obtain⟨f',rfl⟩:∃f',f=f'+1:=⟨f-1,by omega⟩;have e:=h.eq;unfold xM at e;rw[if_pos hn]at e;exact⟨f',rfl,e,DE hA h.ok (h.ok.lt _ (wh hn)) 256 (aT _),IT hA h.outs hn,by omega⟩
theorem aa7{R:List Row}{tags:List Int}{f n:Nat}{Q:List Nat}{out:List Row}(h:aa6 R tags f n Q out)(hn:¬n<Q.length):ny (eM R tags) (du (eM R tags))=(Q,out)/\n=Q.length:=by
 have h1:=h.outs.le;refine⟨?_,by omega⟩;rw[h.eq]
 cases f with
 |zero=>rfl
 |succ f=>unfold xM;rw[if_neg hn]
def ad_(R:List Row)(tags:List Int):Spec (Value×Value):=⟨fun _=>True,fun x=> .tuple #[iM x.1 x.2,ap av (lC R tags)],fun x=>[bx 257 256 x.1 (yY R tags).length ((yY R tags).flatMap eZ),bx 3 1 x.2 (yZ R tags).length ((yZ R tags).flatMap cT.eX)]⟩
theorem RL(w:World):(dm 186 #[]).run aC w= .ok (iM (ak aj 0 0) (ak aj 0 0)) w:=by kernel_rfl
set_option maxRecDepth 100000 in
theorem Hz(vr vt:Value)(R:List Row)(tags:List Int)(w:World)(h:Ht w vr vt R tags):
 Calls aC 78 #[iM vr vt] w (cJ (ad_ R tags) w):=by
 have h_:=fun w' (hg:Gr w w')=>F3 vr vt R tags w' (h.gr hg);have Vo:=fun w' (hg:Gr w w') hc=>K2 vr vt R tags w' (h.gr hg) hc;obtain⟨bt,ct,rfl,ht1,Zk,L4⟩:=h.hT;obtain⟨br,cr,rfl,Pd,pC,EP⟩:=h.hR;have ad':=h.rng;unfold maxLen at pC Zk;clear h
 by_cases hc:lC R tags=0
 ·obtain⟨hA,hlt⟩:=pe hc
  have hbo:=Ib hA;have en:(eM R tags).n=R.length:=rfl;have BN:0<R.length:=hA.pos;have hle:R.length<=200:=hA.le;obtain⟨b,off,rfl,hr⟩:=EP BN;obtain⟨bb,oy,rfl,hrt⟩:=L4 J;clear EP L4;unfold ad_;have er:yY R tags=(ny (eM R tags) (du (eM R tags))).2:=if_pos hc;have et:yZ R tags=(ny (eM R tags) (du (eM R tags))).1.map (eM R tags).tag:=if_pos hc;rw[er,et];clear er et;have aid:=hbo.le 0 BN;rw[en]at aid;rw[hc]at h_⊢;refine enter (args:=[iM (ak (ah ⟨b,off,aj⟩) R.length cr) (ak (ah ⟨bb,oy,aj⟩) tags.length ct)]) (n:=113) Tryz.func78 I I I ?_;refine bY (a_ (bQ I I I fun g1=>?_));refine aY I fun g2=>?_;refine zL ?_
  repeat(first|refine GA ?_|refine gV (aw aI.ty I (aE (i:=0) I I)) ?_|refine gV (aL (i:=0) aI.ty I I I) ?_)
  refine aW (kZ aF.en I I) (fun w hm=>h_ _ hm.below) I I I ?_;intro _ _
  repeat(first|refine GA ?_|refine gV (aL (i:=0) aI.ty I I I) ?_)
  refine aW (kZ aF.en I I) (fun w hm=>Vo _ hm.below hc) I I I ?_;intro g5 _;refine zL ?_
  repeat(first|refine GA ?_|refine gV (aw aI.ty I (aE (i:=0) I I)) ?_)
  refine lg (m:=R.length+1) l8 0 (by rfl) (by rfl) J J I fun g6=>?_;refine zL ?_
  try refine GA ?_
  refine aY I fun g7=>?_;refine zL ?_
  try refine GA ?_
  refine gI I I I I I fun g8=>?_;refine zL ?_;refine zw (i:=5) (m:=1) 1 I I akV ?_;refine zL ?_
  repeat(first|refine GA ?_|refine gV (a8 (j:=0) bI.eq aI.ty I I BN) ?_|refine gV (aw aI.ty I (eG (i:=2) I BN)) ?_|refine gV (a8 (j:=du (eM R tags) 0) bI.eq aI.ty I I J) ?_)
  refine eV (i:=3) (off:=du (eM R tags) 0) (v:=1) (wy (du (eM R tags)) [0]) aI.ty I I I I I J (fun j hj=>?_) ?_
  ·by_cases e:j=du (eM R tags) 0
   subst e;simp[wy,idx];rw[if_neg e];unfold wy;rw[if_neg (by simpa using e)]
  refine zL ?_
  try refine GA ?_
  refine jw 257 256 ?_;refine jw 3 1 ?_
  conv=>arg 7;simp only[zA,zB,zC,zD,zE,zF,zG,zH,zI,dr,ret,id_eq]
  have yq:=aic (tags:=tags) hA;have lK:=fun f n Q out=>@aa7 R tags f n Q out;have nI:=fun f n Q out=>@WI R tags hA f n Q out;have ajV:=hbo.le;clear aid hbo Vo h_;generalize ajW:du (eM R tags)=nr at*;refine dU (ι:=Nat×Nat×List Nat×List Row×Value×Value×Value) (fun(f,n,Q,out,_)=>aa6 R tags f n Q out) (fun(_,n,_,_,vQ,_,_)=>[(1,aH (ah ⟨g1,0,aj⟩)),(2,aH (ah ⟨g2,0,aj⟩)),(5,ak (ah ⟨g5,0,aj⟩) R.length R.length),(6,ak (ah ⟨g6,0,aj⟩) (R.length+1) (R.length+1)),(7,aH (ah ⟨g7,0,aj⟩)),(8,vQ),(9,ap av (n:Int))])
   (fun(_,n,Q,out,vQ,vR,vT)=>[aO g1 (iM (ak (ah ⟨b,off,aj⟩) R.length cr) (ak (ah ⟨bb,oy,aj⟩) tags.length ct)).cells 186,aO g2 (iM (ak aj 0 0) (ak aj 0 0)).cells 186,dI 3 l8 g5 R.length fun i=>(nr i:Int),dI 3 l8 g6 (R.length+1) (wy nr Q),aO g7 (iM vR vT).cells 186,bx 3 1 vQ Q.length (Q.map fun q:Nat=>l8 q),bx 257 256 vR out.length (out.flatMap eZ),bx 3 1 vT n (((Q.take n).map (eM R tags).tag).flatMap cT.eX)]) (fun(f,_)=>f) (R.length+1,0,[0],[],ak (ah ⟨g8,0,aj⟩) 1 1,ak aj 0 0,ak aj 0 0) yq ?_
  rintro⟨f,n,Q,out,vQ,vR,vT⟩ hw;dsimp only at hw⊢;have hQ:=hw.ok;have hQl:=hQ.len;have akJ:=hw.outs.len;rw[ajW]at hQ;rw[en]at hQl
  by_cases c1:n<Q.length
  ·obtain⟨f',rfl,um⟩:=nI _ _ _ _ hw c1
   have hq:=hQ.lt _ (wh c1);have hqc:(Q.map fun q:Nat=>l8 q)[0+n]?=ah (l8 (Q.getD n 0)):=by rw[cI,eQ,bD,bm c1];rfl
   rw[en]at hq;have rv:=CA (-1);have Ru:=fun k hk=>DE (bl:=nr) hA hQ (q:=Q.getD n 0) (by rw[en];exact hq) k hk;have agK:=KZ (A:=eM R tags) (bl:=nr) (Q.getD n 0) Q;have IB:=KY (A:=eM R tags) (bl:=nr) (Q.getD n 0) Q;have hst:∀k,k<256->St (eM R tags) ((eM R tags).d (Q.getD n 0) k):=fun k hk=>hA.step _ hq k hk;have hd:∀(k:Nat) (hk:k<256),(eM R tags).d (Q.getD n 0) k=(R[Q.getD n 0]'hq)[k]:=fun k hk=>NT hq hk;have Ld:Q.getD n 0<tags.length:=by omega
   have htg:(eM R tags).tag (Q.getD n 0)=tags[Q.getD n 0]'Ld:=AA Ld;have RM:=fun(L:List b9)=>hU (W:=w) (L:=L) dE hr hq;have Oh:=fun(L:List b9)=>hU (W:=w) (L:=L) (c:=1) (f:=cT.eX) (fun _=>rfl) hrt Ld 0 _ I;have hQn:Q.getD n 0=Q[n]:=by rw[bD,bm c1];rfl
   clear lK nI hw;generalize hqq:Q.getD n 0=q at*;generalize hrr:R[q]=r at*
   repeat(first|refine GC ?_|refine gV (dV (i:=5) bI.eq I I) ?_|refine GB ?_)
   refine aW (kZ aF.en I I) (fun w hm=>rv _) I I I ?_;intro _ _
   try refine GA ?_
   refine aY I fun g10=>?_;refine zL ?_;refine aX (i:=8) (cs':=(eZ (eA 256 (-1))).toArray) I I I (by rw[eN,dE]) (by simpa using so (eA 256 (-1))) (by kernel_rfl) ?_;refine zL ?_
   try refine GA ?_
   refine yp (i:=5) I J fun gQ cQ hv hcQ akK=>?_;subst hv
   (repeat refine bY ?_)
   refine dK ([aO g1 (iM (ak (ah ⟨b,off,aj⟩) R.length cr) (ak (ah ⟨bb,oy,aj⟩) tags.length ct)).cells 186,bx 3 1 (ak (ah ⟨gQ,0,aj⟩) Q.length cQ) Q.length (Q.map fun q:Nat=>l8 q)]) (.calm 0 (.calm 1 (.calm 2 (.calm 3 (.calm 4 (.calm 5 (.calm 6 (.calm 7 (.calm 8 (.done)))))))))) (bZ [0,5]) ?_
   repeat(first|refine GW ?_|(refine GN ?_;first|refine QW (aw aI.ty I (aE (i:=0) I I)) ?_|refine QW (a8 (j:=n) bI.eq aI.ty I I c1) ?_|refine QW (aw aI.ty I (ku (i:=1) I hqc)) ?_|refine QW (aR (j:=q) bI.eq aI.ty I I hq) ?_|refine QW (aU aI.ty I (dE r) (RM _)) ?_))
   try refine GA ?_
   rw[<-aa4];refine s7 [0,1,2,3,4,6,7,8,5] ?_;refine dU (ι:=Nat×Value) (fun(k,_)=>k<=256) (fun(k,vK)=>[(1,aH (ah ⟨g1,0,aj⟩)),(2,aH (ah ⟨g2,0,aj⟩)),(5,ak (ah ⟨g5,0,aj⟩) R.length R.length),(6,ak (ah ⟨g6,0,aj⟩) (R.length+1) (R.length+1)),(7,aH (ah ⟨g7,0,aj⟩)),(8,vK),(9,ap av (n:Int)),(10,aH (ah ⟨g10,0,aj⟩)),(46,C9 r),(47,ap av (k:Int))])
    (fun(k,vK)=>[aO g1 (iM (ak (ah ⟨b,off,aj⟩) R.length cr) (ak (ah ⟨bb,oy,aj⟩) tags.length ct)).cells 186,aO g2 (iM (ak aj 0 0) (ak aj 0 0)).cells 186,dI 3 l8 g5 R.length fun i=>(nr i:Int),dI 3 l8 g6 (R.length+1) (wy nr (lL (eM R tags) nr q Q k).1),aO g7 (iM vR vT).cells 186,bx 257 256 vR out.length (out.flatMap eZ),bx 3 1 vT n (((Q.take n).map (eM R tags).tag).flatMap cT.eX),aO g10 (eZ (BU (lL (eM R tags) nr q Q k).2)).toArray 257,bx 3 1 vK (lL (eM R tags) nr q Q k).1.length ((lL (eM R tags) nr q Q k).1.map fun q:Nat=>l8 q)]) (fun(k,_)=>256-k) (0,ak (ah ⟨gQ,0,aj⟩) Q.length cQ) (bC _) ?_
   rintro⟨k,vK⟩ hk;dsimp only at hk⊢
   by_cases c2:k<256
   ·have hcell:(eZ r).toArray[k]?=ah (.int .i16 r[k]):=by rw[jh];exact qw r c2
    have hx:=hd k c2;have hsx:=hst k c2;have mJ:=Ru k hk;have hlen:=IB k;have HA:=(NQ mJ hsx).len;have nI:lL (eM R tags) nr q Q (k+1)=((qt nr (lL (eM R tags) nr q Q k).1 ((eM R tags).d q k)).1,(lL (eM R tags) nr q Q k).2++[(qt nr (lL (eM R tags) nr q Q k).1 ((eM R tags).d q k)).2]):=rfl;rw[hx]at nI hsx HA;clear hx hst Ru agK IB hd RM Oh;generalize r[k]=x at*;generalize lL (eM R tags) nr q Q k=RQ at*;obtain⟨Qk,vk⟩:=RQ;dsimp only at mJ hlen HA nI⊢;subst hlen;unfold St at hsx;rw[en]at hsx
    by_cases c3:val nr x=0
    ·have e:qt nr Qk x=(Qk,-1):=by unfold qt;rw[if_pos c3]
     rw[e]at nI;have aa8:∀(S:List b9),S=[aO g1 (iM (ak (ah ⟨b,off,aj⟩) R.length cr) (ak (ah ⟨bb,oy,aj⟩) tags.length ct)).cells 186,aO g2 (iM (ak aj 0 0) (ak aj 0 0)).cells 186,dI 3 l8 g5 R.length fun i=>(nr i:Int),dI 3 l8 g6 (R.length+1) (wy nr Qk),aO g7 (iM vR vT).cells 186,bx 257 256 vR out.length (out.flatMap eZ),bx 3 1 vT n (((Q.take n).map (eM R tags).tag).flatMap cT.eX),aO g10 (eZ (BU vk)).toArray 257,bx 3 1 vK Qk.length (Qk.map fun q:Nat=>l8 q)]->S=[aO g1 (iM (ak (ah ⟨b,off,aj⟩) R.length cr) (ak (ah ⟨bb,oy,aj⟩) tags.length ct)).cells 186,aO g2 (iM (ak aj 0 0) (ak aj 0 0)).cells 186,dI 3 l8 g5 R.length fun i=>(nr i:Int),dI 3 l8 g6 (R.length+1) (wy nr (lL (eM R tags) nr q Q (vk.length+1)).1),aO g7 (iM vR vT).cells 186,bx 257 256 vR out.length (out.flatMap eZ),bx 3 1 vT n (((Q.take n).map (eM R tags).tag).flatMap cT.eX),aO g10 (eZ (BU (lL (eM R tags) nr q Q (vk.length+1)).2)).toArray 257,bx 3 1 vK (lL (eM R tags) nr q Q (vk.length+1)).1.length ((lL (eM R tags) nr q Q (vk.length+1)).1.map fun q:Nat=>l8 q)]:=fun S h=>by
      rw[nI];dsimp only;rw[WH vk c2];exact h
     by_cases c4:x<0
     ·repeat(first|refine GA ?_|refine gV (jv bI.eq aI.ty I I c2 hcell) ?_)
      exact iU (vk.length+1,vK) (by show vk.length+1<=256;omega) (by show 256-(vk.length+1)<256-vk.length;omega) (by repeat' (first|exact cY|refine cK I ?_)) (aa8 _ I)
     obtain⟨m,rfl⟩:∃m:Nat,x=m:=⟨x.toNat,by omega⟩;have hm:m<R.length:=by omega
     rw[Az]at c3
     repeat(first|refine GC ?_|refine gV (jv bI.eq aI.ty I I c2 hcell) ?_|refine gV (a8 (j:=m) bI.eq aI.ty I I hm) ?_|refine gV (aw aI.ty I (eG (i:=2) I hm)) ?_|refine gV (cP (b:=aB) I I (decide_eq_true J)) ?_|refine GB ?_)
     exact iU (vk.length+1,vK) (by show vk.length+1<=256;omega) (by show 256-(vk.length+1)<256-vk.length;omega) (by repeat' (first|exact cY|refine cK I ?_)) (aa8 _ I)
    have c4:¬x<0:=fun e=>c3 (by unfold val;rw[if_pos e]);obtain⟨m,rfl⟩:∃m:Nat,x=m:=⟨x.toNat,by omega⟩;have hm:m<R.length:=by omega
    rw[Az]at c3;have hbm:=ajV m hm;rw[en]at hbm;have e:qt nr Qk (m:Int)=(FW nr Qk (m:Int),(idx ((FW nr Qk (m:Int)).map nr) (nr m):Int)):=by unfold qt;rw[Az,if_neg c3,cX]
    rw[e]at nI HA;dsimp only at HA nI;rw[en]at HA;unfold FW at nI HA;rw[cX]at nI HA
    by_cases c5:nr m∈Qk.map nr
    ·rw[if_pos c5]at nI HA
     have hid:=lf c5;rw[dw]at hid;have aa9:wy nr Qk (nr m)=(idx (Qk.map nr) (nr m):Int)+1:=by unfold wy;rw[if_pos c5]
     generalize idx (Qk.map nr) (nr m)=z at*
     repeat(first|refine GC ?_|refine gV (jv bI.eq aI.ty I I c2 hcell) ?_|refine gV (a8 (j:=m) bI.eq aI.ty I I hm) ?_|refine gV (aw aI.ty I (eG (i:=2) I hm)) ?_|refine gV (cP (b:=aD) I I (decide_eq_false J)) ?_|refine gV (a8 (j:=nr m) bI.eq aI.ty I I J) ?_|refine gV (aw aI.ty I (eG (i:=3) I (show nr m<R.length+1 by omega))) ?_|refine gV (eD (r:=(z:Int)) I I J J J) ?_|refine gV (iV bI.eq bI.eq I (Rp J J)) ?_|refine gV (io bI.eq aI.ty I I c2) ?_|refine GB ?_)
     refine sq (i:=7) I I I c2 ?_;rw[Gh vk z c2];refine zL ?_
     try refine GA ?_
     exact bO (vk.length+1,vK) (by show vk.length+1<=256;omega) (by show 256-(vk.length+1)<256-vk.length;omega) (hl:=by dsimp only;rw[nI])
    rw[if_neg c5]at nI HA;have aa9:wy nr Qk (nr m)=0:=by unfold wy;rw[if_neg c5]
    have Hq:=aa3 (q:=m) c5;have aie:wy nr (Qk++[m]) (nr m)=(Qk.length:Int)+1:=by rw[Hq,if_pos I]
    have agq:idx ((Qk++[m]).map nr) (nr m)=Qk.length:=by
     have h1:=aie;unfold wy at h1;rw[if_pos (by simp)]at h1;omega
    rw[agq]at nI;rw[bK,nT]at HA
    repeat(first|refine GC ?_|refine gV (jv bI.eq aI.ty I I c2 hcell) ?_|refine gV (a8 (j:=m) bI.eq aI.ty I I hm) ?_|refine gV (aw aI.ty I (eG (i:=2) I hm)) ?_|refine gV (cP (b:=aD) I I (decide_eq_false (show ¬(nr m:Int)=0 by omega))) ?_|refine gV (a8 (j:=nr m) bI.eq aI.ty I I J) ?_|refine gV (aw aI.ty I (eG (i:=3) I (show nr m<R.length+1 by omega))) ?_|refine gV (cP (b:=aB) I I (decide_eq_true aa9)) ?_|refine gV (iV bI.eq bI.eq I (om J J)) ?_|refine GB ?_)
    refine ka (i:=8) I I I I I I (fun z h=>by cases h;rfl) J J I fun z v2=>?_;refine zL ?_
    repeat(first|refine GC ?_|refine gV (a8 (j:=m) bI.eq aI.ty I I hm) ?_|refine gV (aw aI.ty I (eG (i:=2) I hm)) ?_|refine gV (a8 (j:=nr m) bI.eq aI.ty I I J) ?_|refine gV (dV (i:=8) bI.eq I I) ?_|refine GB ?_)
    refine eV (i:=3) (off:=nr m) (v:=((Qk.length+1:Nat):Int)) (wy nr (Qk++[m])) aI.ty I I I I I J (fun j hj=>by rw[Hq];rfl) ?_;refine zL ?_
    repeat(first|refine GC ?_|refine gV (a8 (j:=m) bI.eq aI.ty I I hm) ?_|refine gV (aw aI.ty I (eG (i:=2) I hm)) ?_|refine gV (a8 (j:=nr m) bI.eq aI.ty I I J) ?_|refine gV (aw aI.ty I (eG (i:=3) I (show nr m<R.length+1 by omega))) ?_|refine gV (eD (r:=(Qk.length:Int)) I I J J J) ?_|refine gV (iV bI.eq bI.eq I (Rp J J)) ?_|refine gV (io bI.eq aI.ty I I c2) ?_|refine GB ?_)
    refine sq (i:=7) I I I c2 ?_;rw[Gh vk (Qk.length:Int) c2];refine zL ?_
    try refine GA ?_
    exact bO (vk.length+1,v2) (by show vk.length+1<=256;omega) (by show 256-(vk.length+1)<256-vk.length;omega) (hl:=by dsimp only;rw[nI];simp)
   obtain rfl:k=256:=by omega
   have mJ:=(Ru 256 (aT _)).len;obtain⟨E,hE⟩:=agK 256;have hv:=IB 256;clear Ru agK IB hst hd RM;generalize lL (eM R tags) nr q Q 256=RQ at*;obtain⟨Qe,ve⟩:=RQ;dsimp only at mJ hE hv um⊢;subst hE;rw[aa5 hv];rw[en]at mJ;have hqe:((Q++E).map fun q:Nat=>l8 q)[0+n]?=ah (l8 q):=by
    rw[cI,eQ,fR c1,bm c1,<-hQn];rfl
   have NP:(((Q++E).take (n+1)).map (eM R tags).tag).flatMap cT.eX=((Q.take n).map (eM R tags).tag).flatMap cT.eX++[l8 tags[q]]:=by
    rw[BR J,ir c1,<-hQn,eb,fH,K8,List.flatMap_singleton,htg];rfl
   rw[bK]at mJ;have aif:n<(Q++E).length:=by rw[bK];omega
   repeat(first|refine GA ?_|refine gV (aw aI.ty I (aE (i:=4) I I)) ?_|refine gV (aL (i:=7) aI.ty I I (by rw[eN,dE])) ?_)
   refine k7 (i:=5) I I (by rw[eN,dE]) I (by simpa using so (vec ve)) I I (fun z h=>by cases h;rfl) J J I fun z v2=>?_;refine zL ?_
   try refine GA ?_
   refine aV (i:=5) I fun r8 zy=>?_;refine bT (i:=4) I I I r8 zy I ?_;refine zL ?_
   try refine GA ?_
   refine yp (i:=8) I J fun gQ' cQ' YZ akL akm=>?_;subst YZ
   (repeat refine bY ?_)
   refine dK ([aO g1 (iM (ak (ah ⟨b,off,aj⟩) R.length cr) (ak (ah ⟨bb,oy,aj⟩) tags.length ct)).cells 186,bx 3 1 (ak (ah ⟨gQ',0,aj⟩) (Q++E).length cQ') (Q++E).length ((Q++E).map fun q:Nat=>l8 q)]) (.calm 0 (.calm 2 (.calm 3 (.calm 4 (.calm 5 (.calm 6 (.calm 7 (.calm 8 (.calm 9 (.two 1 (.one 10 (.one 11 (.calm 12 (.one 13 (.done))))) 10 (.one 1 (.one 11 (.calm 12 (.one 13 (.done))))))))))))))) (bZ [0,8]) ?_
   repeat(first|refine GW ?_|(refine GN ?_;first|refine QW (aw aI.ty I (aE (i:=0) I I)) ?_|refine QW (a8 (j:=n) bI.eq aI.ty I I aif) ?_|refine QW (aw aI.ty I (ku (i:=1) I hqe)) ?_|refine QW (aR (j:=q) bI.eq aI.ty I I Ld) ?_|refine QW (aw aI.ty I (Oh _)) ?_))
   refine fe I I ?_ ?_
   ·refine dC (aw aI.ty I (aE (i:=4) I I)) I I I (aK (bZ [0,8]) ?_)
    refine aJ I (gI I I I I I fun ajX=>aK (bZ [0,8]) ?_);refine aJ I (ma (i:=6) (q:=9) I I I I I I J J I fun v3=>aK (bZ [0,8]) ?_)
    try refine GW ?_
    refine aJ I (aV (i:=6) I fun C1 Hd=>bT (i:=4) I I I C1 Hd I (aK (bZ [0,8]) ?_))
    try refine GW ?_
    try refine GA ?_
    refine dv [0,1,2,3,4,8,5,6] ?_;exact bO (f',n+1,Q++E,out++[vec ve],ak (ah ⟨gQ',0,aj⟩) (Q++E).length cQ',v2,v3) um (o_ f') (hl:=by dsimp only;rw[NP];simp;rfl)
   refine gI I I I I I fun ajX=>aK (bZ [0,8]) ?_;refine aJ I (dC (aw aI.ty I (aE (i:=4) I I)) I I I (aK (bZ [0,8]) ?_));refine aJ I (ma (i:=6) (q:=9) I I I I I I J J I fun v3=>aK (bZ [0,8]) ?_)
   try refine GW ?_
   refine aJ I (aV (i:=6) I fun C1 Hd=>bT (i:=4) I I I C1 Hd I (aK (bZ [0,8]) ?_))
   try refine GW ?_
   try refine GA ?_
   refine dv [0,1,2,3,4,8,5,6] ?_;exact bO (f',n+1,Q++E,out++[vec ve],ak (ah ⟨gQ',0,aj⟩) (Q++E).length cQ',v2,v3) um (o_ f') (hl:=by dsimp only;rw[NP];simp;rfl)
  obtain⟨e,rfl⟩:=lK _ _ _ _ hw c1;rw[e]
  repeat(first|refine GC ?_|refine gV (dV (i:=5) bI.eq I I) ?_|refine gV (aL (i:=4) aI.ty I I I) ?_|refine GB ?_)
  refine aV (i:=6) I fun r8 zy=>?_;refine aV (i:=7) I fun C1 Hd=>?_;refine aX (i:=1) (cs':=(iM vR vT).cells) I I I I (by show([vR,vT].all f_)=aB;simp[zy,Hd]) I ?_;refine zL ?_
  try refine GA ?_
  refine ez (i:=1) I I I I I fun w hm=>?_;exact hm.meets (S:=⟨fun(_:Value×Value)=>True,fun x=> .tuple #[iM x.1 x.2,ap av 0],fun x=>[bx 257 256 x.1 out.length (out.flatMap eZ),bx 3 1 x.2 (Q.map (eM R tags).tag).length ((Q.map (eM R tags).tag).flatMap cT.eX)]⟩) (vR,vT) trivial [6,7] akV (by simp)
 ·have er:yY R tags=[]:=if_neg hc
  have et:yZ R tags=[]:=if_neg hc;unfold ad_;rw[er,et];generalize lC R tags=e at*;refine enter (args:=[iM (ak br R.length cr) (ak bt tags.length ct)]) (n:=113) Tryz.func78 I I I ?_;refine bY (a_ (bQ I I I fun g1=>?_));refine aY I fun g2=>?_;refine zL ?_
  repeat(first|refine GA ?_|refine gV (aL (i:=0) aI.ty I I I) ?_)
  refine aW (kZ aF.en I I) (fun w hm=>h_ _ hm.below) I I I ?_;intro _ _
  repeat(first|refine GC ?_|refine gV (bz I RL) ?_|refine gV (dz (b:=aB) I I (decide_eq_true hc)) ?_|refine GB ?_)
  refine gG 1 ?_;refine zL ?_
  try refine GA ?_
  refine eL 257 256 (eL 3 1 ?_);refine ez (i:=1) I I I I I fun w hm=>?_;exact hm.meets (S:=⟨fun(_:Value×Value)=>True,fun x=> .tuple #[iM x.1 x.2,ap av e],fun x=>[bx 257 256 x.1 0 [],bx 3 1 x.2 0 []]⟩) (ak aj 0 0,ak aj 0 0) trivial [2,3] akV I
end cg
namespace cg
open Go.RowKit cT ey zS c_
theorem Uh{R:List Row}{tags:List Int}(h:lC R tags=0):(∀r∈R,∀x∈r.toList,-32768<=x/\x<=32767)/\∀x∈tags,cT.dM x:=by
 obtain⟨hA,hl⟩:=pe h;have hle:R.length<=200:=hA.le;refine⟨fun r hr x hx=>?_,fun x hx=>?_⟩
 ·obtain⟨i,hi,rfl⟩:=jG.1 hr
  obtain⟨b,hb,rfl⟩:=jG.1 hx;have JJ:b<256:=by simpa using hb
  have:=hA.step i hi b JJ;rw[NT hi JJ]at this;have e:(eM R tags).n=R.length:=rfl;rw[mF];omega
 obtain⟨i,hi,rfl⟩:=jG.1 hx;have:=hA.tags i (by show i<R.length;omega);rw[AA hi]at this;exact⟨by omega,by omega⟩
theorem Mem.aih{B:b_}{w:World}{L:List b9}{i j:Nat}{vr vt:Value}{R:List Row}{tags:List Int}(hm:Mem B L w)(hi:L[i]?=ah (bx 257 256 vr R.length (R.flatMap eZ)))(hj:L[j]?=ah (bx 3 1 vt tags.length (tags.flatMap cT.eX)))(hc:lC R tags=0):Ht w vr vt R tags:=
 ⟨kX hi _ hm,kX hj _ hm,(Uh hc).1,(Uh hc).2⟩
theorem DK{R:List Row}{tags:List Int}{s:List UInt8}(h:lC R tags=0):mD R tags s=(tg (eM R tags) (go (eM R tags) 0 s),0):=if_pos h
theorem aa_{R:List Row}{tags:List Int}{s:List UInt8}(h:lC R tags=0):mD (yY R tags) (yZ R tags) s=(tg (eM R tags) (go (eM R tags) 0 s),0):=by
 rw[DK (DJ h),Ug h,Wq (pe h).1]
end cg
namespace cg
open Go.RowKit cT ey zS c_
def fX(R:List Row)(i b:Nat):Int:=(R.getD i wj).toList.getD b 0
theorem sy{R:List Row}{i b:Nat}(h:i<R.length)(hb:b<256):fX R i b=(R[i])[b]:=NT (tags:=[]) h hb
def HB(R:List Row)(b k:Nat):DG:=rK fun i:Fin 200=>if i<k then fX R i b else 0
def rS(R:List Row)(b:Nat):DG:=HB R b R.length
theorem agL(R:List Row)(b:Nat):HB R b 0=eA 200 0:=by
 refine kA fun i hi=>?_;unfold HB;simp
theorem aa'(R:List Row)(b k:Nat)(h:k<200):(HB R b k).set k (fX R k b)=HB R b (k+1):=by
 refine kA fun i hi=>?_;unfold HB;rw[vO,jk,jk];split
 ·rename_i e;subst e;simp
 have:i<k↔i<k+1:=by omega
 simp only[this]
theorem aea(c:DG){i:Nat}(h:i<200)(x:Int):(yV c).toArray.setIfInBounds i (.int .i16 x)=(yV (c.set i x)).toArray:=by
 unfold yV;rw[aaT,o7];simp
theorem aba:(db 200 (ap .i16 0)).toArray=(yV (eA 200 0)).toArray:=by
 unfold yV;rw[RF,K9]
theorem Gi(R:List Row)(b i:Nat)(h:i<R.length)(h2:R.length<=200):(rS R b).toList.getD i 0=fX R i b:=by
 unfold rS HB;rw[bD,bm (by simp;omega),Option.getD_some,mF,jk];simp[h]
theorem aeb{R:List Row}(hr:∀r∈R,∀x∈r.toList,-32768<=x/\x<=32767){b:Nat}(hb:b<256):aaC (rS R b):=by
 intro i hi;unfold rS HB;rw[jk];dsimp only;split
 ·rename_i h
  rw[sy h hb];exact hr R[i] (bV h) _ (by rw[<-mF (h:=by simpa using hb)];exact bV _)
 omega
def nB(R:List Row)(k:Nat):List DG:=dO [] ((eu k).map (rS R))
theorem AE(R:List Row)(k:Nat):nB R (k+1)=more (nB R k) (rS R k):=by
 unfold nB;rw[yR,eb,K8,k_]
theorem Ui{R:List Row}{k:Nat}(h:rS R k∈nB R k):nB R (k+1)=nB R k:=by
 rw[AE];exact if_pos h
theorem Uj{R:List Row}{k:Nat}(h:rS R k∉nB R k):nB R (k+1)=nB R k++[rS R k]:=by
 rw[AE];exact if_neg h
theorem DL(R:List Row):∀k,(nB R k).length<=k
 |0=>aT _
 |k+1=>by
  have:=DL R k
  by_cases c:rS R k∈nB R k
  rw[Ui c];omega;rw[Uj c,bK,nT];omega
theorem Uk(R:List Row)(k:Nat):∀j,k<=j->∃E,nB R j=nB R k++E
 |0,h=>⟨[],by obtain rfl:k=0:=J;rw[dQ]⟩
 | j+1,h=>by
  by_cases c:k=j+1
  subst c;exact⟨[],by rw[dQ]⟩;obtain⟨E,hE⟩:=Uk R k j J;obtain⟨E',hE'⟩:=ED (nB R j) (rS R j);exact⟨E++E',by rw[AE,hE',hE,dL]⟩
theorem DN(R:List Row){b k:Nat}(h:b<k):rS R b∈nB R k:=lc.2 (.inr (eI.2 ⟨b,by simpa using h,rfl⟩))
def pkN(R:List Row)(b:Nat):Nat:=idx (nB R 256) (rS R b)
theorem agM{R:List Row}{k:Nat}(h:k<256):pkN R k=if rS R k∈nB R k then idx (nB R k) (rS R k)else(nB R k).length:=by
 obtain⟨E,hE⟩:=Uk R (k+1) 256 J;unfold pkN;rw[hE,qY (DN R (o_ k)),AE,sb]
 by_cases c:rS R k∈nB R k
 rw[if_pos c,if_pos c];rw[if_neg c,if_neg c]
theorem abb(R:List Row){b:Nat}(h:b<256):pkN R b<(nB R 256).length:=lf (DN R h)
theorem Ul(R:List Row){b:Nat}(h:b<256):pkN R b<256:=jt (abb R h) (DL R 256)
abbrev Of:=Vector Nat 256
def uu(R:List Row)(k:Nat):Of:=rK fun b:Fin 256=>if b<k then pkN R b else 0
theorem afe(R:List Row):uu R 0=eA 256 0:=by
 refine kA fun i hi=>?_;unfold uu;simp
theorem aec(R:List Row)(k:Nat)(h:k<256):(uu R k).set k (pkN R k)=uu R (k+1):=by
 refine kA fun i hi=>?_;unfold uu;rw[vO,jk,jk];split
 ·rename_i e;subst e;simp
 have:i<k↔i<k+1:=by omega
 simp only[this]
def AY(D:List DG)(i:Nat):List Int:=D.map fun c=>c.toList.getD i 0
def RN(R:List Row):List (List Int):=(eu R.length).map (AY (nB R 256))
def jm(o:Of)(vn vt:Value):List Value:=o.toList.map (fun n:Nat=> .int .u8 (n:Int))++[vn,vt]
def Pf(o:Of)(vn vt:Value):Value:=aP (jm o vn vt).toArray
theorem iA(o:Of)(vn vt:Value):(jm o vn vt).length=258:=by simp[jm]
theorem jU(o:Of)(vn vt:Value):(jm o vn vt).toArray.size=258:=by rw[eN,iA]
theorem aii(o:Of)(vn vt:Value){b:Nat}(h:b<256):(jm o vn vt).toArray[b]?=ah (.int .u8 (o[b]:Int)):=by
 rw[jh];unfold jm;rw[fR (by simpa using h),eQ,bm (by simpa using h),mF];rfl
theorem oz(o:Of)(vn vt:Value):(jm o vn vt).toArray[256]?=ah vn:=by
 rw[jh];unfold jm;rw[kN (by simp)];simp
theorem pA(o:Of)(vn vt:Value):(jm o vn vt).toArray[257]?=ah vt:=by
 rw[jh];unfold jm;rw[kN (by simp)];simp
theorem y0(o:Of){vn vt:Value}(h1:vn.oneCell'=aB)(h2:vt.oneCell'=aB):(jm o vn vt).toArray.toList.all f_=true:=by
 refine oR.2 fun u hu=>?_;unfold jm at hu;simp only[gH,eI,df,fI,or_false]at hu;rcases hu with⟨n,_,rfl⟩|rfl|rfl
 rfl;exact h1;exact h2
theorem agN(o:Of)(vn vt:Value){b:Nat}(h:b<256)(x:Nat):(jm o vn vt).toArray.setIfInBounds b (.int .u8 (x:Int))=(jm (o.set b x) vn vt).toArray:=by
 unfold jm;rw[aaT,o7];simp[aaR,h]
theorem Le:(db 256 (ap .u8 0)++([ak aj 0 0,ak aj 0 0]:List Value)).toArray=(jm (eA 256 0) (ak aj 0 0) (ak aj 0 0)).toArray:=by
 unfold jm;rw[RF,K9];rfl
theorem WJ(w:World):(dm 30 #[]).run aC w= .ok (Pf (eA 256 0) (ak aj 0 0) (ak aj 0 0)) w:=by kernel_rfl
theorem Oi(g h n m cap:Nat)(w:World):(dm 30 #[(1,ak (ah ⟨g,0,aj⟩) n n),(2,ak (ah ⟨h,0,aj⟩) m cap)]).run aC w= .ok (Pf (eA 256 0) (ak (ah ⟨g,0,aj⟩) n n) (ak (ah ⟨h,0,aj⟩) m cap)) w:=by kernel_rfl
end cg
namespace je
open dj gu
open aM (bX Prod dF)
abbrev Oj:=Bs->Option bX
def HC(m:Oj)(x:Bs)(s:bX):Oj:=fun y=>if y=x then ah s else m y
abbrev WS:=List Int×Int×Oj
def iZ(s:WS)(w:Wd):WS:=if w.1=[]then(s.1++[-1],s.2)else(s.1++[s.2.1],s.2.1+1,HC s.2.2 w.1 (1,s.2.1))
abbrev HS:=Int×Oj
def ud(s:HS)(r:Rl):HS:=if(s.2 r.1).isSome then s else(s.1+1,HC s.2 r.1 (2,s.1))
def qR(m:Oj)(x:Bs):bX:=(m x).getD (0,0)
def AF(m:Oj)(r:Rl):Prod:=((qR m r.1).2,r.2.map (qR m))
def ws0:WS:=([],0,fun _=>aj)
def Lf(l:List Wd):WS:=l.foldl iZ ws0
def hsN(s:Sp):HS:=s.rules.foldl ud (0,(Lf s.words).2.2)
def cL(s:Sp):dF:=⟨(Lf s.words).2.1,(hsN s).1,s.rules.map (AF (hsN s).2)⟩
def wz(s:Sp):Int:=if aM.cD (cL s)≠0 then 2 else 0
def Small(m:Oj):Prop:=∀y s,m y=ah s->0<=s.1/\s.1<=2/\0<=s.2/\s.2<=1000
theorem WK:Small fun _=>none:=fun _ _ h=>by cases h
theorem I7{m:Oj}(h:Small m){x:Bs}{s:bX}(h1:0<=s.1/\s.1<=2/\0<=s.2/\s.2<=1000):Small (HC m x s):=fun y z hz=>by
 unfold HC at hz;split at hz
 cases hz;exact h1
 exact h y z hz
theorem I8{m:Oj}(h:Small m)(x:Bs):0<=(qR m x).1/\(qR m x).1<=2/\0<=(qR m x).2/\(qR m x).2<=1000:=by
 unfold qR
 cases hx:m x with
 |none=>exact⟨by decide,by decide,by decide,by decide⟩
 |some s=>exact h x s hx
theorem step_take{α σ:Type}(f:σ->α->σ)(s:σ)(l:List α){k:Nat}(h:k<l.length):(l.take (k+1)).foldl f s=f ((l.take k).foldl f s) l[k]:=by
 rw[ir h,List.foldl_append];rfl
theorem abc(s:WS)(w:Wd)(k:Nat)(h:k<60)(a1:s.1.length=k)(a2:0<=s.2.1)(a3:s.2.1<=k)(a4:Small s.2.2):
 (iZ s w).1.length=k+1/\0<=(iZ s w).2.1/\(iZ s w).2.1<=((k+1:Nat):Int)/\Small (iZ s w).2.2:=by
 unfold iZ;split
 ·exact⟨by rw[bK,a1];rfl,a2,by show s.2.1<=_;omega,a4⟩
 ·exact⟨by rw[bK,a1];rfl,by show 0<=s.2.1+1;omega,by show s.2.1+1<=((k+1:Nat):Int);omega,I7 a4 ⟨(by decide:(0:Int)<=1),(by decide:(1:Int)<=2),a2,by show s.2.1<=1000;omega⟩⟩
theorem abd(l:List Wd):∀k,k<=l.length->k<=60->((l.take k).foldl iZ ws0).1.length=k/\0<=((l.take k).foldl iZ ws0).2.1/\((l.take k).foldl iZ ws0).2.1<=k/\Small ((l.take k).foldl iZ ws0).2.2
 |0,_,_=>⟨rfl,kz _,kz _,WK⟩
 |k+1,h,h60=>by
  obtain⟨a1,a2,a3,a4⟩:=abd l k J J;rw[step_take _ _ _ (show k<l.length by omega)];exact abc _ _ k J a1 a2 a3 a4
theorem abe(s:HS)(r:Rl)(k:Nat)(h:k<60)(a2:0<=s.1)(a3:s.1<=k)(a4:Small s.2):
 0<=(ud s r).1/\(ud s r).1<=((k+1:Nat):Int)/\Small (ud s r).2:=by
 unfold ud;split
 ·exact⟨a2,by show s.1<=_;omega,a4⟩
 ·exact⟨by show 0<=s.1+1;omega,by show s.1+1<=((k+1:Nat):Int);omega,I7 a4 ⟨(by decide:(0:Int)<=2),(by decide:(2:Int)<=2),a2,by show s.1<=1000;omega⟩⟩
theorem aff(l:List Rl)(m:Oj)(hm:Small m):∀k,k<=l.length->k<=60->0<=((l.take k).foldl ud (0,m)).1/\((l.take k).foldl ud (0,m)).1<=k/\Small ((l.take k).foldl ud (0,m)).2
 |0,_,_=>⟨kz _,kz _,hm⟩
 |k+1,h,h60=>by
  obtain⟨a2,a3,a4⟩:=aff l m hm k J J;rw[step_take _ _ _ (show k<l.length by omega)];exact abe _ _ k J a2 a3 a4
end je
namespace cg
open Go.RowKit cT ey je
def kp(vo:Value)(pk tl:List Value):List Value:=vo::(pk++tl)
def jE(t n:Int)(vp:Value)(mode:Int)(rows dG gt:Value):List Value:=[ap av t,ap av n,vp,ap av mode,rows,dG,gt]
def XA:List Value:=jm (eA 256 0) (ak aj 0 0) (ak aj 0 0)
theorem jV:XA.length=258:=iA _ _ _
def HD:List Value:=kp (ak aj 0 0) XA (jE 0 0 (ak aj 0 0) 0 (ak aj 0 0) (ak aj 0 0) (ak aj 0 0))
theorem xc:(([ak aj 0 0]:List Value)++db 256 (ap .u8 0)++([ak aj 0 0,ak aj 0 0,ap av 0,ap av 0,ak aj 0 0,ap av 0,ak aj 0 0,ak aj 0 0,ak aj 0 0]:List Value)).toArray=HD.toArray:=by
 have e:∀z:List Value,(([ak aj 0 0]:List Value)++z++([ak aj 0 0,ak aj 0 0,ap av 0,ap av 0,ak aj 0 0,ap av 0,ak aj 0 0,ak aj 0 0,ak aj 0 0]:List Value)).toArray=((ak aj 0 0:Value)::((z++[ak aj 0 0,ak aj 0 0])++jE 0 0 (ak aj 0 0) 0 (ak aj 0 0) (ak aj 0 0) (ak aj 0 0))).toArray:=fun z=>by simp[jE]
 unfold HD kp XA jm;rw[RF,K9];exact e _
theorem WL(w:World):(dm 38 #[]).run aC w= .ok (aP HD.toArray) w:=by
 rw[<-xc];kernel_rfl
theorem kI{vo:Value}{pk tl:List Value}(j:Nat)(hp:pk.length=258){k:Nat}{v:Value}(h:tl[j]?=ah v)(hk:k=j+259):(kp vo pk tl).toArray[k]?=ah v:=by
 subst hk;rw[jh,kp,List.getElem?_cons_succ,kN J,show j+258-pk.length=j by omega];exact h
theorem agO{vo:Value}{pk tl:List Value}(j:Nat)(hp:pk.length=258){k:Nat}(v:Value)(hk:k=j+259):(kp vo pk tl).toArray.setIfInBounds k v=(kp vo pk (tl.set j v)).toArray:=by
 subst hk;rw[List.setIfInBounds_toArray,kp,List.set_cons_succ,aaR,if_neg J,show j+258-pk.length=j by omega];rfl
theorem kJ{vo:Value}{pk tl:List Value}(hp:pk.length=258)(ht:tl.length=7):(kp vo pk tl).toArray.size=266:=by
 rw[eN,kp,cO,bK];omega
theorem BV{vo:Value}{pk tl:List Value}(h1:vo.oneCell'=aB)(h2:pk.all f_=aB)(h3:tl.all f_=aB):(kp vo pk tl).toArray.toList.all f_=true:=by
 rw[kp,cV,List.all_append,h1,h2,h3];rfl
theorem Um:XA.all f_=true:=by
 have:=y0 (eA 256 0) (vn:=ak aj 0 0) (vt:=ak aj 0 0) I I
 simpa[XA]using this
theorem lO{vo:Value}{pk:List Value}(hp:pk.length=258){t n mode:Int}{vp rows dG gt v:Value}{j:Nat}(h:[ap av t,ap av n,vp][j]?=ah v):(kp vo pk (jE t n vp mode rows dG gt)).toArray[0+259+j]?=ah v:=by
 match j,h with
 |0,h=>exact kI 0 hp h I
 |1,h=>exact kI 1 hp h I
 |2,h=>exact kI 2 hp h I
 |n+3,h=>cases h
section
variable{P:Program}{n:Nat}{W:b_}{fr:Fr}{L:List b9}{Q:Exit->Act->World->Prop}{ops:Array Oper}{rest:List Oper}{ty:TypeId}{pos:String}{after:Array Edge}{t:TypeId}{p x:Operand}{i g k:Nat}{vo:Value}{pk tl:List Value}{T:TypeId}{agg:Bool}{v:Value}
theorem od(j:Nat)[hT:aI P t agg 1](hi:L[i]?=ah (aO g (kp vo pk tl).toArray T))(hp:ev fr p=ah (aH (ah ⟨g,k,aj⟩)))(hx:ev fr x=ah v)(hv:v.cells=#[v])(h1:v.oneCell'=aB)(hk:k=j+259)(jb:pk.length=258)(hj:dB j tl.length=aB)
 (h:TL P n W ops Q rest fr (L.set i (aO g (kp vo pk (tl.set j v)).toArray T))):TL P n W ops Q (⟨aj,.store t p x,ty,pos,after,aj⟩::rest) fr L:=by
 have hj:j<tl.length:=Nat.le_of_ble_eq_true hj;refine bT hi hp hx hv h1 ?_ ?_
 ·rw[eN,kp,cO,bK]
  exact Nat.ble_eq_true_of_le J
 ·rw[agO j jb v hk];exact h
theorem Gj[hT:aI P t agg 1](hi:L[i]?=ah (aO g (kp vo pk tl).toArray T))(hp:ev fr p=ah (aH (ah ⟨g,k,aj⟩)))(hx:ev fr x=ah v)(hv:v.cells=#[v])(h1:v.oneCell'=aB)(hk:k=0)
 (h:TL P n W ops Q rest fr (L.set i (aO g (kp v pk tl).toArray T))):TL P n W ops Q (⟨aj,.store t p x,ty,pos,after,aj⟩::rest) fr L:=by
 subst hk;refine bT hi hp hx hv h1 I ?_;exact h
theorem RO{pk':List Value}[hT:aI P t agg 258](hi:L[i]?=ah (aO g (kp vo pk tl).toArray T))(hp:ev fr p=ah (aH (ah ⟨g,k,aj⟩)))(hx:ev fr x=ah (aP pk'.toArray))(h1:pk'.all f_=aB)(hk:k=1)(jb:pk.length=258)(ajY:pk'.length=258)
 (h:TL P n W ops Q rest fr (L.set i (aO g (kp vo pk' tl).toArray T))):TL P n W ops Q (⟨aj,.store t p x,ty,pos,after,aj⟩::rest) fr L:=by
 subst hk;refine uH hT.ty hi hp hx (by simpa[wo]using ajY) (by simpa[wo]using h1) (by rw[eN,kp,cO,bK];omega) ?_ h;apply sO;show vo::(pk'++tl)=K_ 1 (vo::(pk++tl))++pk'++aaS (1+258) (vo::(pk++tl))
 rw[mV,sU,show 1+258=258+1 from I,K7,List.drop_append_of_le_length J,fS J];rfl
theorem RP{a b c d e f f' u u':Value}[hT:aI P t agg 2](hi:L[i]?=ah (aO g (kp vo pk [a,b,c,d,e,f,f']).toArray T))(hp:ev fr p=ah (aH (ah ⟨g,k,aj⟩)))(hx:ev fr x=ah (aP #[u,u']))(h1:u.oneCell'=aB)(h2:u'.oneCell'=aB)(hk:k=264)(jb:pk.length=258)
 (h:TL P n W ops Q rest fr (L.set i (aO g (kp vo pk [a,b,c,d,e,u,u']).toArray T))):TL P n W ops Q (⟨aj,.store t p x,ty,pos,after,aj⟩::rest) fr L:=by
 subst hk;refine uH hT.ty hi hp hx I (by simp[wo,h1,h2]) (by rw[eN,kp,cO,bK];simp[jb]) ?_ h;apply sO;show vo::(pk++[a,b,c,d,e,u,u'])=K_ (263+1) (vo::(pk++[a,b,c,d,e,f,f']))++[u,u']++aaS (265+1) (vo::(pk++[a,b,c,d,e,f,f']))
 rw[mV,K7,show 263=pk.length+5 by omega,List.take_append,ig J,show 265=pk.length+7 by omega,List.drop_append,fS J];simp
end
end cg
namespace cg
open Go.RowKit cT ey aM
theorem RT(h:Int)(w:World):(dm 140 #[(0,ap av h)]).run aC w= .ok (aP #[ap av h,ak aj 0 0]) w:=by
 go_simp
end cg
namespace cg
open Go.RowKit cT ey aM
theorem gok{x:Int}(h:0<=x/\x<1000000000):cT.dM x:=by unfold cT.dM;omega
theorem y6{F:Nat->Prop}{vp:Value}{l:List aM.Prod}{w:World}{t n:Int}(ht:cT.dM t)(hn:cT.dM n)(h:(tj F vp l).holds w):kw (fun k=>k<w.heap.size) w (dD t n vp) ⟨t,n,l⟩:=by
 obtain⟨⟨v',hv,h1⟩,h2⟩:=h;simp only[fg,and_true]at hv;subst hv;exact⟨vp,rfl,h1.mono h2,ht,hn⟩
end cg
namespace cg
open Go.RowKit cT ey dj gu je aM
def AG(s:bX):Value:=aP (dS s).toArray
theorem xd(w:World):(zeroValue 148).run aC w= .ok (AG (0,0)) w:=by kernel_rfl
theorem RU(s:bX)(w:World):(Instr.field 148 (AG s) 1).run aC w= .ok (ap av s.2) w:=by
 obtain⟨a,b⟩:=s
 kernel_rfl
theorem Ol{P:Program}{k:TypeId}{κ:Type}{K:yl P k κ}{W:b_}{fr:Fr}{L:List b9}{n:Nat}{dst:Option Tmp}{ty:TypeId}{pos:String}{after:Array Edge}{guard:Option (Nat×Bool)}{i g c:Nat}{t e:TypeId}{m:κ->Option Value}{x:κ}{z v:Value}{xm xk:Operand}(ht:P.underlying t=ah (.map k e))(hz:∀w,(zeroValue e).run P w= .ok z w)(hi:L[i]?=ah (fq K g m c))(hm:ev fr xm=ah (.map (ah g)))(hk:ev fr xk=ah (K.kv x))(hx:K.ok x)(hv:(m x).getD z=v):RR P n W ⟨dst,.lookup t xm xk aD,ty,pos,after,guard⟩ fr L v:=by
 subst hv;exact acY K ht hz hi hm hk hx
def CF(m:Bs->Option Value)(M:Oj):Prop:=∀y,m y=(M y).map AG
theorem WM:CF (fun _=>aj) (fun _=>aj):=fun _=>rfl
theorem I9{m:Bs->Option Value}{M:Oj}(h:CF m M){x:Bs}{s:bX}{v:Value}(hv:v=AG s):CF (fun y=>if y=x then ah v else m y) (HC M x s):=fun y=>by
 unfold HC;dsimp only;subst hv
 by_cases e:y=x
 rw[if_pos e,if_pos e];rfl;rw[if_neg e,if_neg e];exact h y
theorem I_{m:Bs->Option Value}{M:Oj}(h:CF m M)(x:Bs):(m x).getD (AG (0,0))=AG (qR M x):=by
 rw[h x];unfold qR
 cases M x<;>rfl
theorem RV{m:Bs->Option Value}{M:Oj}(h:CF m M){x:Bs}(hx:M x=aj):m x=none:=by rw[h x,hx];rfl
theorem RW{m:Bs->Option Value}{M:Oj}(h:CF m M){x:Bs}{s:bX}(hx:M x=ah s):m x=ah (AG s):=by rw[h x,hx];rfl
def Gk(gp:Nat)(e:Int)(len:Nat)(of:List Int)(g:dF):Spec (Value×Value×(Nat->Prop)):=
 ⟨fun x=>x.1.oneCell'=aB/\x.2.1.oneCell'=aB,fun _=>ap av e,fun x=>[aO gp (kp x.1 XA (jE g.aQ g.bB x.2.1 0 (ak aj 0 0) (ak aj 0 0) (ak aj 0 0))).toArray 38,bx 3 1 x.1 len (of.map (ap .i64)),tj x.2.2 x.2.1 g.az]⟩
def Lg(gp:Nat)(s:Sp):Spec (Value×Value×(Nat->Prop)):=Gk gp (wz s) s.words.length (Lf s.words).1 (cL s)
theorem HE(vw vr:Value)(s:Sp)(gp:Nat)(w0:World)(hv:WE (sa w0) w0 (aP #[vw,vr]) s)(hlw:s.words.length<=60)(SU:s.rules.length<=60)(IQ:∀r∈s.rules,r.2.length<=8796093021952)(w:World)(B:b_)(ho:mv w0 B)(hm:Mem B [aO gp HD.toArray 38] w):
 Calls aC 76 #[aP #[vw,vr],aH (ah ⟨gp,0,aj⟩)] w (dX (Lg gp s) B):=by
 obtain⟨vw',Dx,hvv,hw,hr⟩:=hv;obtain⟨rfl,rfl⟩:vw=vw'/\vr=Dx:=by simpa using hvv
 clear hvv;obtain⟨words,rules⟩:=s;dsimp only at*;obtain⟨bw,cw,rfl,-,-,RX⟩:=hw;obtain⟨br,cr,rfl,-,-,abf⟩:=hr;refine eR hm (args:=[aP #[ak bw words.length cw,ak br rules.length cr],aH (ah ⟨gp,0,aj⟩)]) (n:=153) Tryz.func76 I I I ?_;refine bY (a_ (bQ I I I fun g2=>?_));refine zL ?_
 try refine GA ?_
 refine ym iw I fun gm=>?_;refine zL ?_
 repeat(first|refine GA ?_|refine gV (aw (v:=ak bw words.length cw) aI.ty I (aE (i:=1) I I)) ?_)
 refine jw 3 1 ?_;refine dU (ι:=Nat×List Int×Int×Oj×Value×(Bs->Option Value)×Nat)
  (fun(k,of,t,M,vo,m,n)=>k<=words.length/\n<=k/\(words.take k).foldl iZ ws0=(of,t,M)/\CF m M/\vo.oneCell'=aB)
  (fun(k,_,_,_,_,_,_)=>[(1,aH (ah ⟨gp,0,aj⟩)),(2,aH (ah ⟨g2,0,aj⟩)),(5,.map (ah gm)),(19,ak bw words.length cw),(20,ap av words.length),(21,ap av (k:Int))])
  (fun(k,of,t,_,vo,m,n)=>[aO gp (kp vo XA (jE t 0 (ak aj 0 0) 0 (ak aj 0 0) (ak aj 0 0) (ak aj 0 0))).toArray 38,aO g2 #[ak bw words.length cw,ak br rules.length cr] 25,fq iw gm m n,bx 3 1 vo k (of.map (ap .i64))])
  (fun(k,_,_,_,_,_,_)=>words.length-k) (0,[],0,fun _=>aj,ak aj 0 0,fun _=>aj,0) ⟨bC _,aT _,rfl,WM,rfl⟩ ?_
 clear hm;rintro⟨k,of,t,M,vo,m,n⟩ ⟨i1,i2,i3,i4,i5⟩;dsimp only at i1 i2 i3 i4 i5⊢;have hws:=abd words k i1 J;rw[i3]at hws;obtain⟨s1,s2,s3,s4⟩:=hws;dsimp only at s1 s2 s3 s4
 by_cases c1:k<words.length
 ·obtain⟨b,off,rfl,_,hr⟩:=RX J
  obtain⟨bk,ck,q1,q2,q3⟩:=Ue hr c1;have hst:=step_take iZ ws0 words c1;rw[i3]at hst;have eK:∀(L:List b9) (j:Nat) (u:Value),(zm words[k].1 words[k].2.kind words[k].2.uJ (.slice bk words[k].2.kids.length ck))[j]?=ah u->At B L ⟨b,off+k*7+j,aj⟩ u:=fun L j u hj=>iv ho (q1 j u hj);clear hr RX abf q1 q2;generalize words[k]=wd at*;obtain⟨nm,r⟩:=wd;dsimp only at*;generalize r.kind=rk at*;generalize r.uJ=rc at*;generalize r.kids.length=rn at*
  repeat(first|refine GA ?_|refine gV (aR bI.eq aI.ty I I c1) ?_|refine gV (aU (cs:=zm nm rk rc (ak bk rn ck)) aI.ty I I (eK _)) ?_)
  clear eK;refine aY I fun g7=>?_;refine zL ?_;refine gG 4 (cs':=(zm nm rk rc (ak bk rn ck)).toArray) ?_;refine zL ?_
  by_cases e0:nm=[]
  ·subst e0
   repeat(first|refine GC ?_|refine gV (aw (v:=str []) aI.ty I (aE (i:=4) I I)) ?_|refine gV (uG (b:=aB) I I I) ?_|refine gV (aw (v:=vo) aI.ty I (aE (i:=0) I I)) ?_|refine GB ?_)
   refine ka (i:=3) I I I I I I (fun z h=>by cases h;rfl) J J I fun z' v'=>?_;refine zL ?_
   try refine GA ?_
   refine aV (i:=3) I fun r8 zy=>?_;refine Gj (i:=0) I I I r8 zy I ?_;refine zL ?_
   try refine GA ?_
   refine dv [0,1,2,3] ?_;exact bO (k+1,of++[-1],t,M,v',m,n) ⟨by omega,by show n<=k+1;omega,hst,i4,zy⟩ (by show words.length-(k+1)<words.length-k;omega) (hl:=by dsimp only;rw[eb];rfl)
  rw[show iZ (of,t,M) (nm,r)=(of++[t],t+1,HC M nm (1,t))from if_neg e0]at hst
  repeat(first|refine GC ?_|refine gV (aw (v:=str nm) aI.ty I (aE (i:=4) I I)) ?_|refine gV (uG (b:=aD) I I (decide_eq_false e0)) ?_|refine GB ?_)
  (repeat refine bY ?_)
  refine dK ([aO gp (kp vo XA (jE t 0 (ak aj 0 0) 0 (ak aj 0 0) (ak aj 0 0) (ak aj 0 0))).toArray 38,aO g7 (zm nm rk rc (ak bk rn ck)).toArray 122]) (.calm 0 (.calm 1 (.calm 2 (.calm 3 (.calm 4 (.calm 5 (.calm 6 (.calm 7 (.calm 8 (.one 9 (.done))))))))))) (bZ [0,4]) ?_
  repeat(first|refine GW ?_|(refine GN ?_;first|refine QW (aw (v:=str nm) aI.ty I (aE (i:=1) I I)) ?_|refine QW (aw (v:=ap av t) aI.ty I (aE (i:=0) I (kI 0 jV I I))) ?_|refine QW (bz I (Og _ _)) ?_))
  refine aJ I (mK (i:=2) (x:=nm) (v:=AG (1,t)) iw bI.eq I I I I q3 J (aK (bZ [0,4]) ?_));refine zL ?_
  try refine GW ?_
  try refine GA ?_
  (repeat refine bY ?_)
  refine dK ([]) (.calm 0 (.calm 1 (.calm 2 (.calm 3 (.calm 5 (.calm 6 (.calm 7 (.calm 8 (.two 4 (.one 9 (.one 10 (.one 11 (.calm 12 (.calm 13 (.one 14 (.done))))))) 9 (.two 4 (.one 10 (.one 11 (.calm 12 (.calm 13 (.one 14 (.done)))))) 10 (.one 4 (.one 11 (.calm 12 (.calm 13 (.one 14 (.done)))))))))))))))) (bZ []) ?_
  try refine GW ?_
  refine fe I I ?a1 ?a2
  case' a2=>
   refine dC (aw (v:=ap av t) aI.ty I (aE (i:=0) I (kI 0 jV I I))) I I I (aK (bZ []) ?_);refine fe I I ?a3 ?a4
  case' a4=>
   refine gI (cs:=#[ap av t]) I I I I I fun g56=>aK (bZ []) ?_;refine aJ I (dC (aw (v:=vo) aI.ty I (aE (i:=0) I I)) I I I (aK (bZ []) ?_))
  case' a3=>
   refine dC (aw (v:=vo) aI.ty I (aE (i:=0) I I)) I I I (aK (bZ []) ?_);refine aJ I (gI (cs:=#[ap av t]) I I I I I fun g56=>aK (bZ []) ?_)
  case' a1=>
   refine dC (aw (v:=vo) aI.ty I (aE (i:=0) I I)) I I I (aK (bZ []) ?_);refine aJ I (dC (aw (v:=ap av t) aI.ty I (aE (i:=0) I (kI 0 jV I I))) I I I (aK (bZ []) ?_));refine aJ I (gI (cs:=#[ap av t]) I I I I I fun g56=>aK (bZ []) ?_)
  all_goals
   refine zL ?_;refine aJ I (ma (i:=3) (q:=5) I I I I I I J J I fun v'=>aK (bZ []) ?_);refine zL ?_
   try refine GW ?_
   refine aJ I (aV (i:=3) I fun r8 zy=>Gj (i:=0) I I I r8 zy I (aK (bZ []) ?_));refine zL ?_
   try refine GW ?_
   repeat(first|refine GA ?_|refine gV (aw (v:=ap av t) aI.ty I (aE (i:=0) I (kI 0 jV I I))) ?_)
   refine od 0 (i:=0) I I I I I I jV I ?_;refine zL ?_
   try refine GA ?_
   refine dv [0,1,2,3] ?_;exact iU (k+1,of++[t],t+1,HC M nm (1,t),v',_,_) ⟨by omega,by show(if(m nm).isSome then n else n+1)<=k+1;split<;>omega,hst,I9 i4 I,zy⟩ (by show words.length-(k+1)<words.length-k;omega) (by repeat' (first|exact cY|refine cK I ?_)) (by dsimp only;rw[eb];rfl)
 ·obtain rfl:k=words.length:=by omega
  rw[nk]at i3;have hW:Lf words=(of,t,M):=i3;clear RX
  repeat(first|refine GA ?_|refine gV (aw (v:=ak br rules.length cr) aI.ty I (aE (i:=1) I I)) ?_)
  refine dU (ι:=Nat×Int×Oj×(Bs->Option Value)×Nat)
   (fun(j,N,M2,m2,n2)=>j<=rules.length/\n2<=60+j/\(rules.take j).foldl ud (0,M)=(N,M2)/\CF m2 M2)
   (fun(j,_,_,_,_)=>[(1,aH (ah ⟨gp,0,aj⟩)),(2,aH (ah ⟨g2,0,aj⟩)),(5,.map (ah gm)),(71,ak br rules.length cr),(72,ap av rules.length),(73,ap av (j:Int))])
   (fun(_,N,_,m2,n2)=>[aO gp (kp vo XA (jE t N (ak aj 0 0) 0 (ak aj 0 0) (ak aj 0 0) (ak aj 0 0))).toArray 38,aO g2 #[ak bw words.length cw,ak br rules.length cr] 25,fq iw gm m2 n2,bx 3 1 vo words.length (of.map (ap .i64))])
   (fun(j,_,_,_,_)=>rules.length-j) (0,0,M,m,n) ⟨bC _,by omega,rfl,i4⟩ ?_
  clear i4;rintro⟨j,N,M2,m2,n2⟩ ⟨j1,j2,j3,j4⟩;dsimp only at j1 j2 j3 j4⊢;have hhs:=aff rules M s4 j j1 J;rw[j3]at hhs;obtain⟨u1,u2,u3⟩:=hhs;dsimp only at u1 u2 u3
  by_cases c2:j<rules.length
  ·obtain⟨b,off,rfl,_,fZ⟩:=abf J
   obtain⟨bk,ck,q1,-,q3⟩:=DI fZ c2;have hst:=step_take ud (0,M) rules c2;rw[j3]at hst;have eK:∀(L:List b9) (j':Nat) (u:Value),([str rules[j].1,.slice bk rules[j].2.length ck]:List Value)[j']?=ah u->At B L ⟨b,off+j*2+j',aj⟩ u:=fun L j' u hj=>iv ho (q1 j' u hj);clear fZ q1 abf;generalize rules[j]=r at*;obtain⟨nm,bd⟩:=r;dsimp only at*;generalize bd.length=bn at*
   repeat(first|refine GA ?_|refine gV (aR bI.eq aI.ty I I c2) ?_|refine gV (aU (cs:=[str nm,ak bk bn ck]) aI.ty I I (eK _)) ?_)
   clear eK;refine aY I fun g9=>?_;refine zL ?_;refine gG 4 (cs':=#[str nm,ak bk bn ck]) ?_;refine zL ?_
   cases hM:M2 nm with
   | some x=>
    rw[show ud (N,M2) (nm,bd)=(N,M2)from if_pos (by show(M2 nm).isSome=aB;rw[hM];rfl)]at hst
    repeat(first|refine GA ?_|refine gV (aw (v:=str nm) aI.ty I (aE (i:=4) I I)) ?_|refine gV (jN iw (x:=nm) bI.eq xd (i:=2) I I I q3 (RW j4 hM)) ?_)
    refine aY I fun g10=>?_;refine zL ?_;refine gG 5 (cs':=(dS x).toArray) ?_;refine zL ?_
    try refine GA ?_
    refine dv [0,1,2,3] ?_;exact bO (j+1,N,M2,m2,n2) ⟨by omega,by show n2<=60+(j+1);omega,hst,j4⟩ (by show rules.length-(j+1)<rules.length-j;omega)
   | none=>
    rw[show ud (N,M2) (nm,bd)=(N+1,HC M2 nm (2,N))from if_neg (by show ¬(M2 nm).isSome=aB;rw[hM];decide)]at hst
    repeat(first|refine GA ?_|refine gV (aw (v:=str nm) aI.ty I (aE (i:=4) I I)) ?_|refine gV (jO iw (x:=nm) bI.eq xd (i:=2) I I I q3 (RV j4 hM)) ?_)
    refine aY I fun g10=>?_;refine zL ?_;refine gG 5 (cs':=(dS (0,0)).toArray) ?_;refine zL ?_
    try refine GA ?_
    (repeat refine bY ?_)
    refine dK ([aO gp (kp vo XA (jE t N (ak aj 0 0) 0 (ak aj 0 0) (ak aj 0 0) (ak aj 0 0))).toArray 38,aO g9 #[str nm,ak bk bn ck] 124]) (.calm 0 (.calm 1 (.calm 2 (.calm 3 (.calm 4 (.calm 5 (.calm 6 (.calm 7 (.calm 8 (.one 9 (.done))))))))))) (bZ [0,4]) ?_
    repeat(first|refine GW ?_|(refine GN ?_;first|refine QW (aw (v:=str nm) aI.ty I (aE (i:=1) I I)) ?_|refine QW (aw (v:=ap av N) aI.ty I (aE (i:=0) I (kI 1 jV I I))) ?_|refine QW (bz I (Og _ _)) ?_))
    refine aJ I (mK (i:=2) (x:=nm) (v:=AG (2,N)) iw bI.eq I I I I q3 J (aK (bZ [0,4]) ?_));refine zL ?_
    try refine GW ?_
    repeat(first|refine GA ?_|refine gV (aw (v:=ap av N) aI.ty I (aE (i:=0) I (kI 1 jV I I))) ?_)
    refine od 1 (i:=0) I I I I I I jV I ?_;refine zL ?_
    try refine GA ?_
    refine dv [0,1,2,3] ?_;exact iU (j+1,N+1,HC M2 nm (2,N),_,_) ⟨by omega,by show(if(m2 nm).isSome then n2 else n2+1)<=60+(j+1);split<;>omega,hst,I9 j4 I⟩ (by show rules.length-(j+1)<rules.length-j;omega) (by repeat' (first|exact cY|refine cK I ?_)) I
  obtain rfl:j=rules.length:=by omega
  rw[nk]at j3;have hH:hsN ⟨words,rules⟩=(N,M2):=by unfold hsN;rw[hW];exact j3
  repeat(first|refine GA ?_|refine gV (aw (v:=ak br rules.length cr) aI.ty I (aE (i:=1) I I)) ?_)
  refine jw 140 2 (pv (eY q6 (fun _=>False) [] []) (fun k hk=>hk.elim (fun h=>by cases h) id) (fun w=>lF) ?_);refine s7 [0,2,3,4,5] ?_;refine dU (ι:=Nat×List aM.Prod×Value×List (List Value)×(Nat->Prop))
   (fun(j,ps,vp,iG,F)=>j<=rules.length/\ps=(rules.take j).map (AF M2)/\vp.oneCell'=aB)
   (fun(j,_,_,_,_)=>[(1,aH (ah ⟨gp,0,aj⟩)),(5,.map (ah gm)),(106,ak br rules.length cr),(107,ap av rules.length),(108,ap av (j:Int))])
   (fun(j,ps,vp,iG,F)=>[aO gp (kp vo XA (jE t N vp 0 (ak aj 0 0) (ak aj 0 0) (ak aj 0 0))).toArray 38,fq iw gm m2 n2,bx 3 1 vo words.length (of.map (ap .i64)),bx 140 2 vp ps.length iG.flatten,eY q6 F iG ps])
   (fun(j,_,_,_,_)=>rules.length-j) (0,[],ak aj 0 0,[],fun _=>False) ⟨bC _,rfl,rfl⟩ ?_
  rintro⟨j,ps,vp,iG,F⟩ ⟨k1,k2,k3⟩;dsimp only at k1 k2 k3⊢
  by_cases c3:j<rules.length
  ·obtain⟨b,off,rfl,_,fZ⟩:=abf J
   obtain⟨bk,ck,q1,q2,q3⟩:=DI fZ c3;have hps:(rules.take (j+1)).map (AF M2)=ps++[AF M2 rules[j]]:=by rw[ir c3,eb,<-k2];rfl
   have xF:ps.length=j:=by rw[k2,dw,gZ];omega
   have eK:∀(L:List b9) (j':Nat) (u:Value),([str rules[j].1,.slice bk rules[j].2.length ck]:List Value)[j']?=ah u->At B L ⟨b,off+j*2+j',aj⟩ u:=fun L j' u hj=>iv ho (q1 j' u hj);have vD:=q2.flat akV;have mJ:=q2.okp;have hb6:=IQ _ (bV c3);clear fZ q1 q2 abf;generalize rules[j]=r at*;obtain⟨nm,bd⟩:=r;dsimp only at*;obtain⟨b2,c2',nG,C1,Hc,Gm⟩:=vD
   cases nG
   unfold maxLen at Hc;have hsm:=I8 u3 nm
   repeat(first|refine GA ?_|refine gV (aR bI.eq aI.ty I I c3) ?_|refine gV (aU (cs:=[str nm,ak bk bd.length ck]) aI.ty I I (eK _)) ?_)
   clear eK;refine aY I fun g13=>?_;refine zL ?_;refine gG 5 (cs':=#[str nm,ak bk bd.length ck]) ?_;refine zL ?_
   repeat(first|refine GA ?_|refine gV (aw (v:=str nm) aI.ty I (aE (i:=5) I I)) ?_|refine gV (Ol (K:=iw) (x:=nm) bI.eq xd (i:=1) I I I q3 (I_ j4 nm)) ?_|refine gV (Tu I (RU _)) ?_|refine gV (bz I (RT _)) ?_)
   refine aY I fun g14=>?_;refine zL ?_;refine gG 6 (cs':=#[ap av (qR M2 nm).2,ak aj 0 0]) ?_;refine zL ?_
   repeat(first|refine GA ?_|refine gV (aw (v:=ak bk bd.length ck) aI.ty I (aE (i:=5) I I)) ?_)
   refine jw 148 2 ?_;refine s7 [0,1,2,3,4,6,7] ?_;refine dU (ι:=Nat×Value) (fun(i,vb)=>i<=bd.length/\vb.oneCell'=aB)
    (fun(i,vb)=>[(1,aH (ah ⟨gp,0,aj⟩)),(5,.map (ah gm)),(14,aH (ah ⟨g14,0,aj⟩)),(106,ak (ah ⟨b,off,aj⟩) rules.length cr),(107,ap av rules.length),(108,ap av (j:Int)),(119,ak bk bd.length ck),(120,ap av bd.length),(121,ap av (i:Int))])
    (fun(i,vb)=>[aO gp (kp vo XA (jE t N vp 0 (ak aj 0 0) (ak aj 0 0) (ak aj 0 0))).toArray 38,fq iw gm m2 n2,bx 3 1 vo words.length (of.map (ap .i64)),bx 140 2 vp ps.length iG.flatten,eY q6 F iG ps,aO g14 #[ap av (qR M2 nm).2,vb] 140,bx 148 2 vb i (((bd.take i).map (qR M2)).flatMap dS)])
    (fun(i,_)=>bd.length-i) (0,ak aj 0 0) ⟨bC _,rfl⟩ ?_
   rintro⟨i,vb⟩ ⟨l1,l2⟩;dsimp only at l1 l2⊢
   by_cases c4:i<bd.length
   ·obtain⟨b3,aed,rfl,EP⟩:=Gm J
    have eK:=fun L=>rz (W:=B) (L:=L) Ud (fun j u hj=>iv ho (EP j u hj)) c4 0 _ I;have hlen:=mJ bd[i] (bV c4);have NP:((bd.take (i+1)).map (qR M2)).flatMap dS=((bd.take i).map (qR M2)).flatMap dS++dS (qR M2 bd[i]):=by
     rw[ir c4,eb,fH];simp
    clear EP Gm;generalize bd[i]=x at*
    repeat(first|refine GA ?_|refine gV (aR bI.eq aI.ty I I c4) ?_|refine gV (aw (v:=str x) aI.ty I (eK _)) ?_|refine gV (aw (v:=vb) aI.ty I (aE (i:=5) I I)) ?_|refine gV (Ol (K:=iw) (x:=x) bI.eq xd (i:=1) I I I hlen (I_ j4 x)) ?_)
    refine k7 (i:=6) (cs:=(dS (qR M2 x)).toArray) I I I I I I I (fun z h=>by cases h;rfl) J J I fun z vb'=>?_;refine zL ?_
    try refine GA ?_
    refine aV (i:=6) I fun r8 zy=>?_;refine bT (i:=5) I I I r8 zy I ?_;refine zL ?_
    try refine GA ?_
    exact bO (i+1,vb') ⟨by omega,zy⟩ (by show bd.length-(i+1)<bd.length-i;omega) (hl:=by dsimp only;rw[NP];rfl)
   obtain rfl:i=bd.length:=by omega
   rw[nk];clear Gm;have Vo:(bd.map (qR M2)).length=bd.length:=dw ..;rw[<-Vo];have ajZ:AF M2 (nm,bd)=((qR M2 nm).2,bd.map (qR M2)):=rfl;have Hx:∀x∈bd.map (qR M2),Zv x:=fun x hx=>by
    obtain⟨y,-,rfl⟩:=eI.1 hx;have:=I8 u3 y;exact⟨gok ⟨this.1,by omega⟩,gok ⟨this.2.2.1,by omega⟩⟩
   generalize qR M2 nm=hd at*;generalize bd.map (qR M2)=body at*
   try refine GA ?_
   (repeat refine bY ?_)
   refine dK ([aO g14 #[ap av hd.2,vb] 140]) (.calm 0 (.calm 1 (.calm 2 (.calm 3 (.calm 4 (.calm 6 (.two 5 (.one 7 (.one 8 (.calm 9 (.calm 10 (.calm 11 (.one 12 (.done))))))) 7 (.one 5 (.one 8 (.calm 9 (.calm 10 (.calm 11 (.one 12 (.done)))))))))))))) (bZ [5]) ?_
   repeat(first|refine GW ?_|(refine GN ?_;first|refine QW (aL (i:=0) aI.ty I I I) ?_))
   refine fe I I ?b1 ?b2
   case' b1=>
    refine dC (aw (v:=vp) aI.ty I (aE (i:=0) I (kI 2 jV I I))) I I I (aK (bZ [5]) ?_);refine aJ I (gI (cs:=#[ap av hd.2,vb]) I I I I I fun g15=>aK (bZ [5]) ?_)
   case' b2=>
    refine gI (cs:=#[ap av hd.2,vb]) I I I I I fun g15=>aK (bZ [5]) ?_;refine aJ I (dC (aw (v:=vp) aI.ty I (aE (i:=0) I (kI 2 jV I I))) I I I (aK (bZ [5]) ?_))
   all_goals
    refine zL ?_;refine aJ I (oq (i:=3) (q:=7) I I I I I (by simp only[cV,dc,l2];rfl) J J I fun v'=>aK (bZ [5]) ?_);refine zL ?_
    try refine GW ?_
    refine aJ I (aV (i:=3) I fun r8 zy=>od 2 (i:=0) I I I r8 zy I jV I (aK (bZ [5]) ?_));refine zL ?_
    try refine GW ?_
    refine J0 (eY q6 (fun k=>F k\/vb.ownBlock=ah k) (iG++[[ap av hd.2,vb]]) (ps++[(hd.2,body)])) 6 4 [0,1,2,3] akV I I I (fun k hk=>hk.elim (fun h=>by cases h) fun h=>h.elim (fun h=> .inr (.inr h)) fun h=> .inl (.inl h)) (fun w hr he=>?_) ?_
    ·exact r9 he (MK (gok ⟨hsm.2.2.1,by omega⟩) Hx hr) fun k hk=>(bx 148 2 vb body.length (body.flatMap dS)).lt w hr k (.inl hk)
    try refine GA ?_
    exact bO (j+1,ps++[(hd.2,body)],v',iG++[[ap av hd.2,vb]],fun k=>F k\/vb.ownBlock=ah k) ⟨by omega,by rw[hps,ajZ],zy⟩ (by show rules.length-(j+1)<rules.length-j;omega) (hl:=by rw[bK,aaQ];rfl)
  obtain rfl:j=rules.length:=by omega
  rw[nk]at k2;subst k2;have hG:cL ⟨words,rules⟩=⟨t,N,rules.map (AF M2)⟩:=by unfold cL;rw[hW,hH]
  have hE:wz ⟨words,rules⟩=if cD ⟨t,N,rules.map (AF M2)⟩≠0 then 2 else 0:=by unfold wz;rw[hG]
  have hS:∀e,wz ⟨words,rules⟩=e->Lg gp ⟨words,rules⟩=Gk gp e words.length of ⟨t,N,rules.map (AF M2)⟩:=fun e he=>by
   show Gk gp (wz _) words.length (Lf words).1 (cL _)=_
   rw[hW,hG,he]
  clear hG;generalize rules.map (AF M2)=ps at*
  repeat(first|refine GA ?_|refine gV (aU (cs:=[ap av t,ap av N,vp]) aI.ty I I (fun j v h=>aE (i:=0) I (lO jV h))) ?_)
  refine zN (tj (Or1 F vp) vp ps) 3 4 [0,2] akV I I I (fun k hk=>hk.elim (fun h=>by cases h) fun h=>h.elim (fun h=> .inr (.inr h)) fun h=> .inl (.inl h)) (fun w hr he=>⟨⟨vp,rfl,JY hr he akV⟩,JZ hr he⟩) ?_;refine zL ?_;refine aW (kZ aF.en I I) (fun w hm=>iX _ ⟨t,N,ps⟩ w (y6 (gok ⟨s2,by omega⟩) (gok ⟨u1,by omega⟩) (hm.get (i:=2) I))) I I I ?_;intro _ _;refine zL ?_;generalize cD ⟨t,N,ps⟩=e at*
  by_cases c:e≠0
  ·rw[if_pos c]at hE
   rw[hS _ hE]
   repeat(first|refine GC ?_|refine gV (dz (b:=aB) I I (decide_eq_true c)) ?_|refine GB ?_)
   exact dq I I fun w hm=>hm.cZ (S:=Gk gp 2 words.length of ⟨t,N,ps⟩) (vo,vp,Or1 F vp) ⟨i5,k3⟩ [0,1,2] akV I
  rw[if_neg c]at hE;rw[hS _ hE]
  repeat(first|refine GC ?_|refine gV (dz (b:=aD) I I (decide_eq_false c)) ?_|refine GB ?_)
  exact dq I I fun w hm=>hm.cZ (S:=Gk gp 0 words.length of ⟨t,N,ps⟩) (vo,vp,Or1 F vp) ⟨i5,k3⟩ [0,1,2] akV I
end cg
namespace cg
open Go.RowKit cT ey zS c_
section
end
theorem abg{k:Nat}(h:k<256):KD.wrap (k:Int)=(k:Int):=by
 rw[KC];omega
end cg
namespace cg
open Go.RowKit cT ey zS c_
def WN:Nat->Nat×Nat
 |0=>(0,0)
 | n+1=>match WN n with
  |(a,0)=>(0,a+1)
  |(a,b+1)=>(a+1,b)
theorem Gn:∀(s a b:Nat),a+b=s->∃n,WN n=(a,b)
 |0,a,b,h=>⟨0,by obtain rfl:a=0:=J;obtain rfl:b=0:=J;rfl⟩
 |s+1,0,b,h=>by
  obtain rfl:b=s+1:=by omega
  obtain⟨n,hn⟩:=Gn s s 0 J;exact⟨n+1,by simp[WN,hn]⟩
 |s+1,a+1,b,h=>by
  obtain⟨n,hn⟩:=Gn (s+1) a (b+1) J;exact⟨n+1,by simp[WN,hn]⟩
def qA(m x:Nat):Value:=ak (ah ⟨(WN x).1,0,aj⟩) m (WN x).2
section
variable{P:Program}{n:Nat}{W:b_}{fr:Fr}{ops:Array Oper}
theorem aee{i d:Nat}{α:Type}(val:α->Value)(z:α){t e ty:TypeId}{pos:String}{after:Array Edge}{x y:Operand}{bytes m:Nat}{k k':IntKind}[sM P t e 1 bytes][eS P e #[val z]](ho:ops[i]?=ah ⟨ah d,.makeSlice t x y,ty,pos,after,aj⟩)(hx:ev fr x=ah (.int k (m:Int)))(hy:ev fr y=ah (.int k' (m:Int)))(hb:bytes*m<=281474976710656)(wP:m<=9223372036854775807)(hn:dB d n=aB):
 H7 P n W ops fr ⟨i,d,fun g=>ak (ah ⟨g,0,aj⟩) m m,fun g=>dI e val g m fun _=>z⟩:=
 ⟨_,ho,fun _ _ _ hl h=>lg val z (zQ hl hx) (zQ hl hy) hb wP hn h⟩
theorem RY{i d:Nat}{o:Oper}{f:FuncId}{args:Array Value}{e:TypeId}{size m:Nat}{xs:List Value}(ho:ops[i]?=ah o)(he:∀Hb,(∀q v,look fr q=ah v->look Hb q=ah v)->∀a w,nt n a Hb->(execOp a.eval o).run P w= .ok (.enter f args) w)
 (hc:∀(L:List b9) w,Mem W L w->Calls P f args w (cJ (dr e size m xs id) w)) (hm:0<m) (hg:o.guard=aj) (hd:o.dst=ah d) (hn:dB d n=aB):
 H7 P n W ops fr ⟨i,d,qA m,fun x=>bx e size (qA m x) m xs⟩:=
 ⟨o, ho,fun Q Hb L hl h=>aW (he Hb hl) (fun w hw=>hc L w hw) hg hd hn fun v _=> .mk fun a w hr hw=>by
  have um:(bx e size v m xs).holds w:=hw.get (i:=L.length) (by simp[dr]);obtain⟨G,cap,hv,_,_,_⟩:=Mz um
  cases G with
  | none=>
   rcases um.2 with⟨_,h0⟩|⟨g,PT,oU,YZ,_⟩
   omega;rw[YZ]at hv;cases hv
  | some g=>
   obtain⟨x,hx⟩:=Gn _ g cap rfl;have e:v=qA m x:=by rw[hv];unfold qA;rw[hx];rfl
   have:=h x;dsimp only at this;rw[<-e]at this;exact this.go a w hr hw⟩
end
theorem Om{P:Program}{n:Nat}{W:b_}{fr:Fr}{L:List b9}{Q:Exit->Act->World->Prop}{ops:Array Oper}{rest:List Oper}{ty:TypeId}{pos:String}{after:Array Edge}{t:TypeId}{p x:Operand}{i g b:Nat}{c:DG}{T:TypeId}{agg:Bool}{z:Int}[hT:aI P t agg 1](hi:L[i]?=ah (aO g (yV c).toArray T))(hp:ev fr p=ah (aH (ah ⟨g,0+b,aj⟩)))(hx:ev fr x=ah (.int .i16 z))(hb:b<200)
 (h:TL P n W ops Q rest fr (L.set i (aO g (yV (c.set b z)).toArray T))):TL P n W ops Q (⟨aj,.store t p x,ty,pos,after,aj⟩::rest) fr L:=by
 rw[cI]at hp;refine bT hi hp hx I I ?_ ?_
 ·rw[eN,sr];exact FC▸hb
 ·rw[aea c hb];exact h
abbrev y7(v:Value):Value:=v
def abh(n:Nat):Mk:=⟨3,24,fun g=>ak (ah ⟨g,0,aj⟩) n n,fun g=>dI 26 y7 g n fun _=>ak aj 0 0⟩
def abi(tags:List Int):Mk:=⟨6,27,qA tags.length,fun x=>bx 3 1 (qA tags.length x) tags.length (tags.flatMap cT.eX)⟩
def aef:Mk:=⟨8,5,fun g=>aH (ah ⟨g,0,aj⟩),fun g=>aO g (db 256 (ap .u8 0)++([ak aj 0 0,ak aj 0 0]:List Value)).toArray 30⟩
def WO(n:Nat)(D:List DG)(vs:Nat->Value):b9:=ia (fun i=>i<n) fun i=>bx 3 1 (vs i) D.length ((AY D i).flatMap cT.eX)
def nxM(n:Nat)(D:List DG)(col:DG)(j:Nat)(vs:Nat->Value):b9:=ia (fun i=>i<n) fun i=>bx 3 1 (vs i) (if i<j then D++[col]else D).length ((AY (if i<j then D++[col]else D) i).flatMap cT.eX)
theorem aij(n:Nat)(D:List DG)(col:DG)(vs:Nat->Value):nxM n D col 0 vs=WO n D vs:=by
 unfold nxM WO;simp
theorem Un(n:Nat)(D:List DG)(col:DG)(vs:Nat->Value)(i:Nat)(h:i<n):(fun i=>bx 3 1 (vs i) (D++[col]).length ((AY (D++[col]) i).flatMap cT.eX)) i=(fun i=>bx 3 1 (vs i) (if i<n then D++[col]else D).length ((AY (if i<n then D++[col]else D) i).flatMap cT.eX)) i:=by
 dsimp only;rw[if_pos h]
theorem Gp{P:Program}{n:Nat}{W:b_}{fr:Fr}{L:List b9}{Q:Exit->Act->World->Prop}{ops:Array Oper}{rest:List Oper}{ty:TypeId}{pos:String}{after:Array Edge}{t:TypeId}{p x:Operand}{i g b z:Nat}{o:Of}{vn vt:Value}{T:TypeId}{agg:Bool}[hT:aI P t agg 1](hi:L[i]?=ah (aO g (jm o vn vt).toArray T))(hp:ev fr p=ah (aH (ah ⟨g,0+b,aj⟩)))(hx:ev fr x=ah (.int .u8 (z:Int)))(hb:b<256)
 (h:TL P n W ops Q rest fr (L.set i (aO g (jm (o.set b z) vn vt).toArray T))):TL P n W ops Q (⟨aj,.store t p x,ty,pos,after,aj⟩::rest) fr L:=by
 rw[cI]at hp;refine bT hi hp hx I I ?_ ?_
 ·rw[jU];exact FC▸J
 ·rw[agN o vn vt hb];exact h
theorem abj{j:Nat}{D:List DG}{col:DG}{vs:Nat->Value}{v2:Value}{x:Int}(h:AY (D++[col]) j=AY D j++[x])(q:Nat):
  (fun i=>bx 3 1 ((fun i=>if i=j then v2 else vs i) i) (if i<j+1 then D++[col]else D).length ((AY (if i<j+1 then D++[col]else D) i).flatMap cT.eX)) q
   =Tk (fun i=>bx 3 1 (vs i) (if i<j then D++[col]else D).length ((AY (if i<j then D++[col]else D) i).flatMap cT.eX)) j (bx 3 1 v2 (D.length+1) ((AY D j).flatMap cT.eX++[ap av x])) q:=by
 unfold Tk;dsimp only
 by_cases c:q=j
 ·subst c
  rw[if_pos I,if_pos I,if_pos (o_ q),h,bK,fH];rfl
 ·rw[if_neg c,if_neg c]
  have e:q<j+1↔q<j:=by omega
  simp only[e]
def abk(R:List Row)(tags:List Int):Spec (Nat×(Nat->Value)×Value):=⟨fun _=>True,fun x=> .tuple #[Pf (uu R 256) (ak (ah ⟨x.1,0,aj⟩) R.length R.length) x.2.2,ap av 0],
 fun x=>[dI 26 y7 x.1 R.length x.2.1,WO R.length (nB R 256) x.2.1,bx 3 1 x.2.2 tags.length (tags.flatMap cT.eX)]⟩
set_option maxRecDepth 100000 in
theorem RZ(vr vt:Value)(R:List Row)(tags:List Int)(w:World)(h:Ht w vr vt R tags)(hc:lC R tags=0):
 Calls aC 79 #[iM vr vt] w (cJ (abk R tags) w):=by
 have h_:=fun w' (hg:Gr w w')=>F3 vr vt R tags w' (h.gr hg);rw[hc]at h_;have jZ:=fun w' (hg:Gr w w') hl=>C5 vt tags w' (h.hT.gr hg) hl;obtain⟨bt,ct,rfl,ht1,Zk,L4⟩:=h.hT;obtain⟨br,cr,rfl,Pd,pC,EP⟩:=h.hR;have ad':=h.rng;unfold maxLen at pC Zk;clear h;obtain⟨hA,hlt⟩:=pe hc;have BN:0<R.length:=hA.pos;have hle:R.length<=200:=hA.le;clear hA hc;obtain⟨b,off,rfl,hr⟩:=EP BN;obtain⟨bb,oy,rfl,hrt⟩:=L4 J;clear EP L4 hrt;have jZ:=fun w' hg=>jZ w' hg J;have xl:=WJ;refine enter (args:=[iM (ak (ah ⟨b,off,aj⟩) R.length cr) (ak (ah ⟨bb,oy,aj⟩) tags.length ct)]) (n:=91) Tryz.func79 I I I ?_;refine bY (a_ (bQ I I I fun g1=>?_));refine aY I fun g2=>?_;rw[Le];refine zL ?_
 repeat(first|refine GA ?_|refine gV (aL (i:=0) aI.ty I I I) ?_)
 refine aW (kZ aF.en I I) (fun w hm=>h_ _ hm.below) I I I ?_;intro _ _
 try refine GA ?_
 (repeat refine bY ?_)
 refine my (ι:=Nat×Nat×Nat) (fun _=>True) (fun(_,_,g5)=>[(1,aH (ah ⟨g1,0,aj⟩)),(2,aH (ah ⟨g2,0,aj⟩)),(5,aH (ah ⟨g5,0,aj⟩))])
  (fun(gN,x,g5)=>[aO g1 (iM (ak (ah ⟨b,off,aj⟩) R.length cr) (ak (ah ⟨bb,oy,aj⟩) tags.length ct)).cells 186,aO g2 (jm (eA 256 0) (ak aj 0 0) (ak aj 0 0)).toArray 30,dI 26 y7 gN R.length (fun _=>ak aj 0 0),bx 3 1 (qA tags.length x) tags.length (tags.flatMap cT.eX),aO g5 (jm (uu R 0) (ak (ah ⟨gN,0,aj⟩) R.length R.length) (qA tags.length x)).toArray 30]) ?_ ?_
 ·refine Y3 [aO g1 (iM (ak (ah ⟨b,off,aj⟩) R.length cr) (ak (ah ⟨bb,oy,aj⟩) tags.length ct)).cells 186] (bZ [0]) (by kernel_rfl) (by kernel_rfl) (by intro c a d v w h;cases d<;>exact h) ?_
  refine rB 0 (by kernel_rfl) I (ahs dZ.fld I I) I I I ?_;refine rB 1 (by kernel_rfl) I (aw aI.ty I (aE (i:=0) I I)) I I I ?_;refine rB 2 (by kernel_rfl) I (CZ bI.eq I) I I I ?_;refine rB 4 (by kernel_rfl) I (ahs dZ.fld I I) I I I ?_;refine rB 5 (by kernel_rfl) I (aw aI.ty I (aE (i:=0) I I)) I I I ?_;refine MD [abh R.length,abi tags,aef] (fun m=>!Nat.beq m.i 8) 2 (by kernel_rfl) (by kernel_rfl) ?_ (fun q=>?_) fun q=>?_
  ·intro m hm
   simp only[df,fI,or_false]at hm;rcases hm with rfl|rfl|rfl
   exact aee y7 _ I I I J J I;exact RY I (fun Hb hl=>kZ aF.en I (zQ hl I)) (fun L w hm=>jZ w hm.below) J I I I;exact H9 I I
  ·simp only[abh,abi,aef,fw,mu]
   generalize q 3=gN;generalize q 6=x;generalize q 8=g5;clear q;rw[Le];refine Ds (.calm 7 (.one 9 .done)) (by kernel_rfl) I ?_
   repeat(first|refine GW ?_|(refine GN ?_;first|refine QW (bz I (Oi _ _ _ _ _)) ?_))
   refine aJ I ?_;refine aX (i:=4) (cs':=(jm (eA 256 0) (ak (ah ⟨gN,0,aj⟩) R.length R.length) (qA tags.length x)).toArray) I I I (jU _ _ _) (y0 _ I I) (jU _ _ _) ?_;refine aK (bZ [0]) ?_
   try refine GW ?_
   exact e_ (gN,x,g5) trivial (by repeat' (first|exact cY|refine cK I ?_)) (by rw[afe];rfl)
  rw[show List.filter (fun m:Mk=>!Nat.beq m.i 8) [abh R.length,abi tags,aef]=[abh R.length,abi tags]from I];simp only[abh,abi,aef,fw,mu];generalize q 3=gN;generalize q 6=x;clear q;refine Ds (.calm 7 (.one 8 (.one 9 .done))) (by kernel_rfl) (by kernel_rfl) ?_
  repeat(first|refine GW ?_|(refine GN ?_;first|refine QW (bz I (Oi _ _ _ _ _)) ?_))
  refine aJ I ?_;refine aY I fun g5=>?_;refine aK (bZ [0]) ?_;rw[Le];refine aJ I ?_;refine aX (i:=4) (cs':=(jm (eA 256 0) (ak (ah ⟨gN,0,aj⟩) R.length R.length) (qA tags.length x)).toArray) I I I (jU _ _ _) (y0 _ I I) (jU _ _ _) ?_;refine aK (bZ [0]) ?_
  try refine GW ?_
  exact e_ (gN,x,g5) trivial (by repeat' (first|exact cY|refine cK I ?_)) (by rw[afe];rfl)
 rintro⟨gN,xT,g5⟩ _;dsimp only;generalize hvT:qA tags.length xT=vT
 try refine GA ?_
 refine Bu (K:=NV) I fun g6=>?_;refine zL ?_
 try refine GA ?_
 refine pv (WO R.length [] fun _=>ak aj 0 0) (fun k hk=>?_) (fun w=>⟨fun i _=>RC _ _ _ _,fun i j _ _ _ k hk=>?_⟩) ?_
 ·rcases hk with hk|⟨i,_,hk⟩
  cases hk
  rcases hk with hk|hk<;>cases hk
 ·rcases hk with hk|hk<;>cases hk
 conv=>arg 7;simp only[zA,zB,zC,zD,zE,zF,zG,zH,zI,dr,ret,id_eq]
 refine dU (ι:=Nat×(Nat->Value)) (fun(k,_)=>k<=256) (fun(k,_)=>[(1,aH (ah ⟨g1,0,aj⟩)),(2,aH (ah ⟨g2,0,aj⟩)),(5,aH (ah ⟨g5,0,aj⟩)),(6,.map (ah g6)),(30,ap av (k:Int))])
  (fun(k,vs)=>[aO g1 (iM (ak (ah ⟨b,off,aj⟩) R.length cr) (ak (ah ⟨bb,oy,aj⟩) tags.length ct)).cells 186,aO g2 (jm (eA 256 0) (ak aj 0 0) (ak aj 0 0)).toArray 30,dI 26 y7 gN R.length vs,bx 3 1 vT tags.length (tags.flatMap cT.eX),aO g5 (jm (uu R k) (ak (ah ⟨gN,0,aj⟩) R.length R.length) vT).toArray 30,fq NV g6 (kD (nB R k)) (nB R k).length,WO R.length (nB R k) vs]) (fun(k,_)=>256-k) (0,fun _=>ak aj 0 0) (bC _) ?_
 rintro⟨k,vs⟩ hk;dsimp only at hk⊢
 by_cases c1:k<256
 ·try refine GA ?_
  refine aY I fun g8=>?_;refine zL ?_;rw[aba,<-agL R k]
  repeat(first|refine GA ?_|refine gV (aw aI.ty I (aE (i:=0) I I)) ?_)
  refine dU (ι:=Nat) (fun j=>j<=R.length) (fun j=>[(1,aH (ah ⟨g1,0,aj⟩)),(2,aH (ah ⟨g2,0,aj⟩)),(5,aH (ah ⟨g5,0,aj⟩)),(6,.map (ah g6)),(7,ap av (k:Int)),(8,aH (ah ⟨g8,0,aj⟩)),(30,ap av (k:Int)),(34,ak (ah ⟨b,off,aj⟩) R.length cr),(35,ap av (R.length:Int)),(36,ap av (j:Int))])
   (fun j=>[aO g1 (iM (ak (ah ⟨b,off,aj⟩) R.length cr) (ak (ah ⟨bb,oy,aj⟩) tags.length ct)).cells 186,aO g2 (jm (eA 256 0) (ak aj 0 0) (ak aj 0 0)).toArray 30,dI 26 y7 gN R.length vs,bx 3 1 vT tags.length (tags.flatMap cT.eX),aO g5 (jm (uu R k) (ak (ah ⟨gN,0,aj⟩) R.length R.length) vT).toArray 30,fq NV g6 (kD (nB R k)) (nB R k).length,WO R.length (nB R k) vs,aO g8 (yV (HB R k j)).toArray 263]) (fun j=>R.length-j) 0 (bC _) ?_
  intro j hj
  by_cases c2:j<R.length
  ·have RM:=fun(L:List b9)=>hU (W:=w) (L:=L) dE hr c2
   have hcell:(eZ R[j]).toArray[0+k]?=ah (.int .i16 (fX R j k)):=by rw[cI,jh,qw _ c1,sy c2 c1]
   have sW:=aa' R k j J;generalize R[j]=r at*;generalize fX R j k=x at*
   repeat(first|refine GA ?_|refine gV (aR bI.eq aI.ty I I c2) ?_|refine gV (aU aI.ty I (dE r) (RM _)) ?_)
   refine aY I fun g10=>?_;refine zL ?_
   try refine GA ?_
   refine aX (i:=8) (cs':=(eZ r).toArray) I I I (by rw[eN,dE]) (by simpa using so r) (by kernel_rfl) ?_;refine zL ?_
   repeat(first|refine GA ?_|refine gV (io bI.eq aI.ty I I c1) ?_|refine gV (aw aI.ty I (aE (i:=8) I hcell)) ?_|refine gV (io bI.eq aI.ty I I J) ?_)
   refine Om (i:=7) (b:=j) I I I J ?_;rw[sW];refine zL ?_
   try refine GA ?_
   refine dv [0,1,2,3,4,5,6,7] ?_;exact bO (j+1) J (by show R.length-(j+1)<R.length-j;omega)
  obtain rfl:j=R.length:=by omega
  rw[show HB R k R.length=rS R k from I];have mJ:=aeb ad' c1;have hnk:=agM (R:=R) c1;have abl:=Ul R c1;have On:=aec R k c1;have Xt:=DL R k;have hzero:∀w:World,(zeroValue 3).run aC w= .ok (ap av 0) w:=aaD
  by_cases c2:rS R k∈nB R k
  ·have hD:=Ui c2
   rw[if_pos c2]at hnk;generalize rS R k=col at*
   repeat(first|refine GA ?_|refine gV (aL (i:=7) aI.ty I I (by rw[eN,sr])) ?_|refine gV (uV (K:=NV) (x:=col) bI.eq hzero (i:=5) I I I mJ c2) ?_)
   have hwr:=abg (k:=idx (nB R k) col) (by rw[<-hnk];exact abl);rw[hnk]at On;clear hnk abl ad';generalize nB R k=D at*
   repeat(first|refine GA ?_|refine gV (iV bI.eq bI.eq I hwr) ?_|refine gV (io bI.eq aI.ty I I c1) ?_)
   refine Gp (i:=4) (b:=k) I I I c1 ?_;rw[On];refine zL ?_
   try refine GA ?_
   refine dv [0,1,2,3,4,5,6] ?_;exact bO (k+1,vs) (by show k+1<=256;omega) (by show 256-(k+1)<256-k;omega) (hl:=by dsimp only;rw[hD];rfl)
  have hD:=Uj c2;rw[if_neg c2]at hnk;have hcg:=fun i hi=>Gi R k i hi hle;have hwr:=abg (k:=(nB R k).length) J;rw[hnk]at On;clear hnk abl;generalize rS R k=col at*;generalize hDk:nB R k=D at*
  repeat(first|refine GC ?_|refine gV (aL (i:=7) aI.ty I I (by rw[eN,sr])) ?_|refine gV (uW (K:=NV) (x:=col) bI.eq hzero (i:=5) I I I mJ c2) ?_|refine gV (wS NV bI.eq (i:=5) I I) ?_|refine GB ?_)
  refine Bv (K:=NV) (i:=5) (x:=col) bI.eq I I I I mJ c2 J ?_;refine zL ?_
  repeat(first|refine GA ?_|refine gV (aw aI.ty I (aE (i:=0) I I)) ?_)
  refine s7 [0,1,2,3,4,5,6] ?_;rw[<-aij R.length D col vs];refine dU (ι:=Nat×(Nat->Value)) (fun(j,_)=>j<=R.length) (fun(j,_)=>[(1,aH (ah ⟨g1,0,aj⟩)),(2,aH (ah ⟨g2,0,aj⟩)),(5,aH (ah ⟨g5,0,aj⟩)),(6,.map (ah g6)),(7,ap av (k:Int)),(11,ap av (D.length:Int)),(30,ap av (k:Int)),(61,ak (ah ⟨b,off,aj⟩) R.length cr),(62,ap av (R.length:Int)),(63,ap av (j:Int))])
   (fun(j,vs)=>[aO g1 (iM (ak (ah ⟨b,off,aj⟩) R.length cr) (ak (ah ⟨bb,oy,aj⟩) tags.length ct)).cells 186,aO g2 (jm (eA 256 0) (ak aj 0 0) (ak aj 0 0)).toArray 30,dI 26 y7 gN R.length vs,bx 3 1 vT tags.length (tags.flatMap cT.eX),aO g5 (jm (uu R k) (ak (ah ⟨gN,0,aj⟩) R.length R.length) vT).toArray 30,fq NV g6 (kD (D++[col])) (D++[col]).length,nxM R.length D col j vs]) (fun(j,_)=>R.length-j) (0,vs) (bC _) ?_
  rintro⟨j,vs⟩ hj;dsimp only at hj⊢
  by_cases c3:j<R.length
  ·have RM:=fun(L:List b9)=>hU (W:=w) (L:=L) dE hr c3
   have hcell:(eZ R[j]).toArray[0+k]?=ah (.int .i16 (fX R j k)):=by rw[cI,jh,qw _ c1,sy c3 c1]
   have hx:=ad' R[j] (bV c3) (fX R j k) (by rw[sy c3 c1,<-mF (h:=by simpa using c1)];exact bV _);have hcj:=hcg j c3;clear hcg;generalize R[j]=r at*;generalize fX R j k=x at*
   repeat(first|refine GA ?_|refine gV (aR bI.eq aI.ty I I c3) ?_|refine gV (aU aI.ty I (dE r) (RM _)) ?_)
   refine aY I fun g14=>?_;refine zL ?_
   try refine GA ?_
   refine aX (i:=7) (cs':=(eZ r).toArray) I I I (by rw[eN,dE]) (by simpa using so r) (by kernel_rfl) ?_;refine zL ?_
   try refine GA ?_
   unfold nxM;refine Qc (q:=6) j I c3 ?_;rw[if_neg (wt j)]
   conv=>arg 7;simp only[zA,zB,zC,zD,zE,zF,zG,zH,zI,dr,ret,id_eq]
   (repeat refine bY ?_)
   refine dK ([aO g1 (iM (ak (ah ⟨b,off,aj⟩) R.length cr) (ak (ah ⟨bb,oy,aj⟩) tags.length ct)).cells 186,aO g5 (jm (uu R k) (ak (ah ⟨gN,0,aj⟩) R.length R.length) vT).toArray 30,aO g14 (eZ r).toArray 257]) (.calm 0 (.calm 1 (.calm 2 (.calm 3 (.calm 4 (.calm 5 (.calm 6 (.calm 8 (.calm 9 (.calm 10 (.calm 11 (.two 7 (.one 12 (.one 13 (.calm 14 (.one 15 (.done))))) 12 (.one 7 (.one 13 (.calm 14 (.one 15 (.done))))))))))))))))) (bZ [0,4,7]) ?_
   repeat(first|refine GW ?_|(refine GN ?_;first|refine QW (aw aI.ty I (aE (i:=1) I (oz _ _ _))) ?_|refine QW (a8 (j:=j) bI.eq aI.ty I I c3) ?_|refine QW (io bI.eq aI.ty I I c1) ?_|refine QW (aw aI.ty I (aE (i:=2) I hcell)) ?_|refine QW (iV bI.eq bI.eq I (om J J)) ?_))
   have hnj:AY (D++[col]) j=AY D j++[x]:=by unfold AY;rw[eb,K8,hcj]
   have hst:∀v2:Value,∀i,i<R.length->(fun i=>if i=j then v2 else vs i) i=if i=j then v2 else vs i:=fun _ _ _=>rfl
   refine fe I I ?_ ?_
   ·refine dC (aw aI.ty I (eG (i:=2) I c3)) I I I (aK (bZ [0,4,7]) ?_)
    refine aJ I (gI I I I I I fun g80=>aK (bZ [0,4,7]) ?_);refine aJ I (ma (i:=8) (q:=9) I I I I I I J J I fun v2=>aK (bZ [0,4,7]) ?_)
    repeat(first|refine GW ?_|(refine GN ?_;first|refine QW (a8 (j:=j) bI.eq aI.ty I I c3) ?_))
    refine aJ I (aV (i:=8) I fun r8 zy=>eV (i:=2) (val:=y7) (off:=j) (v:=v2) (fun i=>if i=j then v2 else vs i) aI.ty I I I r8 zy c3 (hst v2) (aK (bZ [0,4,7]) ?_))
    try refine GW ?_
    try refine GA ?_
    refine MG j 6 8 [0,1,2,3,4,5] akV I I I (fun h=>h.2 I) (D':=fun i=>i<R.length) (f':=fun i=>bx 3 1 ((fun i=>if i=j then v2 else vs i) i) (if i<j+1 then D++[col]else D).length ((AY (if i<j+1 then D++[col]else D) i).flatMap cT.eX)) (fun q hq=>(by by_cases e:q=j;exact .inr e;exact .inl ⟨hq,e⟩)) (fun q hq=>?_) ?_;exact abj hnj q;exact bO (j+1,fun i=>if i=j then v2 else vs i) (by show j+1<=R.length;omega) (by show R.length-(j+1)<R.length-j;omega)
   refine gI I I I I I fun g80=>aK (bZ [0,4,7]) ?_;refine aJ I (dC (aw aI.ty I (eG (i:=2) I c3)) I I I (aK (bZ [0,4,7]) ?_));refine aJ I (ma (i:=8) (q:=9) I I I I I I J J I fun v2=>aK (bZ [0,4,7]) ?_)
   repeat(first|refine GW ?_|(refine GN ?_;first|refine QW (a8 (j:=j) bI.eq aI.ty I I c3) ?_))
   refine aJ I (aV (i:=8) I fun r8 zy=>eV (i:=2) (val:=y7) (off:=j) (v:=v2) (fun i=>if i=j then v2 else vs i) aI.ty I I I r8 zy c3 (hst v2) (aK (bZ [0,4,7]) ?_))
   try refine GW ?_
   try refine GA ?_
   refine MG j 6 8 [0,1,2,3,4,5] akV I I I (fun h=>h.2 I) (D':=fun i=>i<R.length) (f':=fun i=>bx 3 1 ((fun i=>if i=j then v2 else vs i) i) (if i<j+1 then D++[col]else D).length ((AY (if i<j+1 then D++[col]else D) i).flatMap cT.eX)) (fun q hq=>(by by_cases e:q=j;exact .inr e;exact .inl ⟨hq,e⟩)) (fun q hq=>?_) ?_;exact abj hnj q;exact bO (j+1,fun i=>if i=j then v2 else vs i) (by show j+1<=R.length;omega) (by show R.length-(j+1)<R.length-j;omega)
  obtain rfl:j=R.length:=by omega
  refine Tc (WO R.length (D++[col]) vs) (i:=6) I (Bw (fun _ h=>h) (Un _ _ _ _)) (ET (fun _ h=>h) (Un _ _ _ _)) ?_
  conv=>arg 7;simp only[zA,zB,zC,zD,zE,zF,zG,zH,zI,dr,ret,id_eq]
  repeat(first|refine GA ?_|refine gV (iV bI.eq bI.eq I hwr) ?_|refine gV (io bI.eq aI.ty I I c1) ?_)
  refine Gp (i:=4) (b:=k) I I I c1 ?_;rw[On];refine zL ?_
  try refine GA ?_
  exact bO (k+1,vs) (by show k+1<=256;omega) (by show 256-(k+1)<256-k;omega) (hl:=by dsimp only;rw[hD])
 ·obtain rfl:k=256:=by omega
  repeat(first|refine GA ?_|refine gV (aL (i:=4) aI.ty I I (jU _ _ _)) ?_)
  refine aV (i:=3) I fun r8 zy=>?_;refine aX (i:=1) (cs':=(jm (uu R 256) (ak (ah ⟨gN,0,aj⟩) R.length R.length) vT).toArray) I I I (jU _ _ _) (y0 _ I zy) (jU _ _ _) ?_;refine zL ?_
  try refine GA ?_
  refine ez (i:=1) I I I (jU _ _ _) I fun w hm=>?_;exact hm.meets (S:=abk R tags) (gN,vs,vT) trivial [2,6,3] akV I
end cg
namespace cg
open Go.RowKit cT ey dj gu je aM eB nw c_
def qB(s:Sp):List Rx:=s.words.map (·.2)
def Uo(s:Sp)(r:Int×List Row×List Int):Prop:=
  (∃k:Int,k≠0/\ID (qB s) (k,.zero)/\r=(k,[],[]))\/
  ∃ (es:List Re) (m:MS),qB s=es.map mb/\(∀e∈es,Fit e 1 0)/\0<es.length/\es.length<=20/\mf 0 .zero es=(0,m)/\ID (qB s) (0,m)/\
    ((wz s≠0/\r=(wz s,[],[]))\/(wz s=0/\(tL m).2.2≠0/\r=((tL m).2.2,[],[]))\/
      (wz s=0/\(tL m).2.2=0/\lC (tL m).1 (tL m).2.1=0/\r=(0,yY (tL m).1 (tL m).2.1,yZ (tL m).1 (tL m).2.1)))
theorem agP(s:Sp):∃r,Uo s r:=by
  rcases V2 (qB s)with⟨k,h1,h2⟩|⟨es,m,h1,h2,h3,h4,h5,h6⟩
  exact⟨_,.inl ⟨k,h1,h2,rfl⟩⟩
  by_cases c1:wz s=0
  · by_cases c2:(tL m).2.2=0
    · refine⟨_,.inr ⟨es,m,h1,h2,h3,h4,h5,h6,.inr (.inr ⟨c1,c2,?_,rfl⟩)⟩⟩
      cases hd:vC m with
      |none=>rw[Rs hd]at c2;cases c2
      | some y=>
        obtain⟨R,d⟩:=y;rw[yW hd];exact aaK (Dw h3 h4 h5) (BP hd)
    exact⟨_,.inr ⟨es,m,h1,h2,h3,h4,h5,h6,.inr (.inl ⟨c1,c2,rfl⟩)⟩⟩
  exact⟨_,.inr ⟨es,m,h1,h2,h3,h4,h5,h6,.inl ⟨c1,rfl⟩⟩⟩
theorem abm{F:Nat->Prop}{w:World}{b off:Nat}{l:List Wd}(h:∀i (h:i<l.length),∃cs,AD.is F w cs l[i]/\Rd w b (off+i*AD.c) cs){k:Nat}(hk:k<l.length):
 ∃base cap,Rd w b (off+k*7) (zm l[k].1 l[k].2.kind l[k].2.uJ (.slice base l[k].2.kids.length cap))/\kC F w (mQ l[k].2.kind l[k].2.uJ (.slice base l[k].2.kids.length cap)) l[k].2:=by
 obtain⟨cs,⟨c1,c2,rfl,⟨rfl,h1⟩,h2⟩,h3⟩:=h k hk;have h2:kC F w c2 l[k].2:=h2;have h4:=h2.r;obtain⟨vk,e,-,hs⟩:=h4;obtain⟨base,cap,rfl,-⟩:=hs;have e2:c2=mQ l[k].2.kind l[k].2.uJ (.slice base l[k].2.kids.length cap):=by
  unfold rA at e;simp only[nb]at e
  simpa using congrArg aaO e
 subst e2;exact⟨base,cap,h3,h2⟩
def DO(w0:World)(words:List Wd)(iG:List (List Value)):Prop:=∀i c,iG[i]?=ah c->∃h:i<words.length,yo.is (sa w0) w0 c words[i].2
theorem R4{w0:World}{words:List Wd}{iG:List (List Value)}{c:List Value}(h:DO w0 words iG)(hk:iG.length<words.length)(hc:yo.is (sa w0) w0 c words[iG.length].2):DO w0 words (iG++[c]):=fun i x hx=>by
 rcases Nat.lt_trichotomy i iG.length with h1|h1|h1
 rw[fR h1]at hx;exact h i x hx
 ·subst h1
  rw[A9]at hx
  cases hx
  exact⟨hk,hc⟩
 rw[ii (by rw[bK,nT];omega)]at hx;cases hx
theorem I'{w0 w:World}(hg:Gr w0 w){words:List Wd}{iG:List (List Value)}{v:Value}(hl:iG.length=words.length)(h:DO w0 words iG)(hr:(bx 119 6 v words.length iG.flatten).holds w):kK yo (sa w) w v (words.map (·.2)):=by
 have he:(eY yo (sa w0) iG (words.map (·.2))).holds w:=⟨⟨by rw[hl,dw],fun i h1 h2=>by
  obtain⟨h3,h4⟩:=h i _ (bm h2);rw[oZ];exact yo.stay h4 fun k hk=>hg.block k hk⟩,fun k hk=>jt hk hg.size⟩
 have hr:(bx 119 yo.c v (words.map (·.2)).length iG.flatten).holds w:=by rw[dw];exact hr
 exact(JY hr he akV).mono fun k hk=>JZ hr he k hk
def Oo(gp:Nat)(s:Sp)(R:List Row)(T:List Int):Spec (Value×Value×(Nat->Prop)×Nat×(Nat->Value)×Value):=
 ⟨fun x=>x.1.oneCell'=aB/\x.2.1.oneCell'=aB/\x.2.2.2.2.2.oneCell'=aB,fun _=>ap av 0,fun x=>[aO gp (kp x.1 (jm (uu R 256) (ak (ah ⟨x.2.2.2.1,0,aj⟩) R.length R.length) x.2.2.2.2.2) (jE (cL s).aQ (cL s).bB x.2.1 0 (ak aj 0 0) (ak aj 0 0) (ak aj 0 0))).toArray 38,bx 3 1 x.1 s.words.length ((Lf s.words).1.map (ap .i64)),tj x.2.2.1 x.2.1 (cL s).az,
  dI 26 y7 x.2.2.2.1 R.length x.2.2.2.2.1,WO R.length (nB R 256) x.2.2.2.2.1,bx 3 1 x.2.2.2.2.2 T.length (T.flatMap cT.eX)]⟩
def Ja(gp:Nat)(s:Sp)(r:Int×List Row×List Int):Spec (Value×Value×(Nat->Prop)×Nat×(Nat->Value)×Value):=
 if r.1=0 then Oo gp s r.2.1 r.2.2 else⟨fun _=>True,fun _=>ap av r.1,fun _=>[]⟩
set_option maxRecDepth 100000 in
theorem Oq(vw vr:Value)(s:Sp)(r:Int×List Row×List Int)(hx:Uo s r)(gp:Nat)(w0:World)(hv:WE (sa w0) w0 (aP #[vw,vr]) s)(hlw:s.words.length<=60)(SU:s.rules.length<=60)(IQ:∀r∈s.rules,r.2.length<=8796093021952)(w:World)(B:b_)(ho:mv w0 B)(hm:Mem B [aO gp HD.toArray 38] w):
 Calls aC 41 #[aP #[vw,vr],aH (ah ⟨gp,0,aj⟩)] w (dX (Ja gp s r) B):=by
 have aa9:=fun w' B' JP pV=>HE vw vr s gp w0 hv hlw SU IQ w' B' JP pV;obtain⟨vw',Dx,hvv,hw,-⟩:=hv;obtain⟨rfl,rfl⟩:vw=vw'/\vr=Dx:=by simpa using hvv
 clear hvv IQ;obtain⟨bw,cw,rfl,-,-,RX⟩:=hw;have IB:qB s=s.words.map (·.2):=rfl
 refine eR hm (args:=[aP #[ak bw s.words.length cw,vr],aH (ah ⟨gp,0,aj⟩)]) (n:=60) Tryz.func41 I I I ?_;refine bY (a_ (bQ I I I fun g2=>?_));refine zL ?_
 repeat(first|refine GA ?_|refine gV (aw (v:=ak bw s.words.length cw) aI.ty I (aE (i:=1) I I)) ?_)
 refine jw 119 6 ?_;refine dU (ι:=Nat×List (List Value)×Value) (fun(k,iG,vl)=>k<=s.words.length/\iG.length=k/\DO w0 s.words iG)
  (fun(k,_,vl)=>[(1,aH (ah ⟨gp,0,aj⟩)),(2,aH (ah ⟨g2,0,aj⟩)),(5,vl),(13,ak bw s.words.length cw),(14,ap av s.words.length),(15,ap av (k:Int))])
  (fun(k,iG,vl)=>[aO gp HD.toArray 38,aO g2 #[ak bw s.words.length cw,vr] 25,bx 119 6 vl k iG.flatten])
  (fun(k,_,_)=>s.words.length-k) (0,[],ak aj 0 0) ⟨bC _,rfl,fun i c h=>by cases h⟩ ?_
 clear hm;rintro⟨k,iG,vl⟩ ⟨i1,i2,i3⟩;dsimp only at i1 i2 i3⊢
 by_cases c1:k<s.words.length
 ·obtain⟨b,off,rfl,_,hr⟩:=RX J
  obtain⟨bk,ck,q1,q2⟩:=abm hr c1;have eK:∀(L:List b9) (j:Nat) (u:Value),(zm s.words[k].1 s.words[k].2.kind s.words[k].2.uJ (.slice bk s.words[k].2.kids.length ck))[j]?=ah u->At B L ⟨b,off+k*7+j,aj⟩ u:=fun L j u hj=>iv ho (q1 j u hj);clear hr RX q1 hx aa9;subst i2;have hsn:=R4 i3 c1 q2;clear q2;generalize s.words[iG.length].1=nm at*;generalize s.words[iG.length].2.kind=rk at*;generalize s.words[iG.length].2.uJ=rc at*;generalize s.words[iG.length].2.kids.length=rn at*
  repeat(first|refine GA ?_|refine gV (aR bI.eq aI.ty I I c1) ?_|refine gV (aU (cs:=zm nm rk rc (ak bk rn ck)) aI.ty I I (eK _)) ?_)
  clear eK;refine aY I fun g7=>?_;refine zL ?_;refine gG 3 (cs':=(zm nm rk rc (ak bk rn ck)).toArray) ?_;refine zL ?_
  repeat(first|refine GA ?_|refine gV (aU (cs:=mQ rk rc (ak bk rn ck)) aI.ty I I (fun j v hj=>aE (i:=3) I (RI hj))) ?_)
  refine k7 (i:=2) I I I I I I I (fun z h=>by cases h;rfl) J J I fun z TG=>?_;refine zL ?_
  try refine GA ?_
  refine dv [0,1,2] ?_;exact bO (iG.length+1,iG++[mQ rk rc (ak bk rn ck)],TG) ⟨by omega,by rw[bK];rfl,hsn⟩ (by show s.words.length-(iG.length+1)<s.words.length-iG.length;omega) (hl:=by dsimp only;rw[aaQ];simp)
 ·obtain rfl:k=s.words.length:=by omega
  clear RX;rcases hx with⟨k,hk,hR,rfl⟩|⟨es,m,hes,JN,h0,h20,hlp,hR,hx⟩
  ·have Pc:=fun w' (vD:kK yo (sa w') w' vl (qB s))=>Fu vl (qB s) (k,.zero) w' vD hR
   rw[show Ja gp s (k,[],[])=⟨fun _=>True,fun _=>ap av k,fun _=>[]⟩from if_neg hk]
   try refine GA ?_
   refine aW (kZ aF.en I I) (fun w hm=>Pc _ (I' (ho.mem hm) i2 i3 (hm.get (i:=2) I))) I I I ?_;rintro⟨uo,uq,vf1,gT,ur,ve1,oJ,F1⟩ kL
   conv=>arg 8;simp only[zJ,dr,ret,id_eq,rJ,QB,QC]
   conv=>arg 7;simp only[rJ,QC]
   refine aV (i:=3) I fun _ a1=>aV (i:=4) I fun _ a2=>aV (i:=5) I fun _ a3=>aV (i:=6) I fun _ a4=>aV (i:=8) I fun _ a5=>aV (i:=9) I fun _ a6=>?_
   try refine GA ?_
   refine aY I fun g4=>?_;refine zL ?_;refine aX (i:=10) (cs':=#[uo,uq,vf1,gT,ur,ve1]) I I I I (by simp only[cV,dc,a1,a2,a3,a4,a5,a6];rfl) I ?_;refine zL ?_
   repeat(first|refine GC ?_|refine gV (dz (b:=aB) I I (decide_eq_true hk)) ?_|refine GB ?_)
   exact dq I I fun w hm=>hm.cZ (S:=⟨fun _=>True,fun _=>ap av k,fun _=>[]⟩) (vl,vl,fun _=>False,0,fun _=>vl,vl) trivial [] akV I
  have Pc:=fun w' (vD:kK yo (sa w') w' vl (qB s))=>Fu vl (qB s) (0,m) w' vD hR;have mJ:=Dw h0 h20 hlp;have hdm:=fun v' w' h=>Hu v' m w' h mJ;unfold T6 at hdm
  try refine GA ?_
  refine aW (kZ aF.en I I) (fun w hm=>Pc _ (I' (ho.mem hm) i2 i3 (hm.get (i:=2) I))) I I I ?_;rintro⟨uo,uq,vf1,gT,ur,ve1,oJ,F1⟩ kL;have kL:oJ.length=m.ps.follow.length:=kL
  conv=>arg 8;simp only[zJ,dr,ret,id_eq,rJ,QB,QC]
  conv=>arg 7;simp only[rJ,QC]
  refine aV (i:=3) I fun _ a1=>aV (i:=4) I fun _ a2=>aV (i:=5) I fun _ a3=>aV (i:=6) I fun _ a4=>aV (i:=8) I fun _ a5=>aV (i:=9) I fun _ a6=>?_
  try refine GA ?_
  refine aY I fun g4=>?_;refine zL ?_;refine aX (i:=10) (cs':=#[uo,uq,vf1,gT,ur,ve1]) I I I I (by simp only[cV,dc,a1,a2,a3,a4,a5,a6];rfl) I ?_;refine zL ?_;clear a1 a2 a3 a4 a5 a6
  repeat(first|refine GC ?_|refine gV (dz (b:=aD) I I (decide_eq_false (by simp))) ?_|refine gV (aL (i:=1) aI.ty I I I) ?_|refine GB ?_)
  refine bH [0] [3,4,5,6,7,8,9,10] akV I I (fP aF.en I I I) (fun w' pV hb=>aa9 w' _ (mv.on ho pV (fun o ho=>by simp at ho;subst ho;simp)) hb) I I I ?_;rintro⟨vo,vp,F⟩ ⟨k1,k2⟩
  conv=>arg 8;simp only[zJ,dr,ret,id_eq,Lg,Gk]
  conv=>arg 7;simp only[Lg,Gk]
  have oF:∀e:Int,e≠0->Ja gp s (e,[],[])=⟨fun _=>True,fun _=>ap av e,fun _=>[]⟩:=fun e he=>if_neg he;have uT:∀R T,Ja gp s (0,R,T)=Oo gp s R T:=fun R T=>if_pos I
  by_cases d1:wz s≠0
  ·obtain rfl:r=(wz s,[],[]):=by
    rcases hx with⟨-,h⟩|⟨h,-⟩|⟨h,-⟩
    exact h;exact absurd h d1;exact absurd h d1
   rw[oF _ d1]
   repeat(first|refine GC ?_|refine gV (dz (b:=aB) I I (decide_eq_true d1)) ?_|refine GB ?_)
   exact dq I I fun w hm=>hm.cZ (S:=⟨fun _=>True,fun _=>ap av (wz s),fun _=>[]⟩) (vl,vl,fun _=>False,0,fun _=>vl,vl) trivial [] akV I
  have d1:wz s=0:=rQ d1;rw[d1];have hx:=hx.resolve_left (fun h=>h.1 d1);generalize tL m=D at*;obtain⟨R,T,e⟩:=D;dsimp only at hdm hx⊢
  repeat(first|refine GC ?_|refine gV (dz (b:=aD) I I (decide_eq_false (by simp))) ?_|refine gV (aL (i:=7) aI.ty I I I) ?_|refine GB ?_)
  refine aW (kZ aF.en I I) (fun w hm=>hdm _ w (hm.ajC (x:=⟨uo,uq,vf1,gT,ur,ve1,oJ,F1⟩) 0 kL I (by simp))) I I I ?_;rintro⟨vrr,vtt⟩ _
  conv=>arg 8;simp only[zJ,dr,ret,id_eq,iM]
  conv=>arg 7;simp only[iM]
  refine aV (i:=11) I fun _ a1=>aV (i:=12) I fun _ a2=>?_
  try refine GA ?_
  refine aY I fun g6=>?_;refine zL ?_;refine aX (i:=13) (cs':=#[vrr,vtt]) I I I I (by simp only[cV,dc,a1,a2];rfl) I ?_;refine zL ?_;clear a1 a2
  by_cases d2:e≠0
  ·obtain rfl:r=(e,[],[]):=by
    rcases hx with⟨-,-,h⟩|⟨-,h,-⟩
    exact h;exact absurd h d2
   rw[oF _ d2]
   repeat(first|refine GC ?_|refine gV (dz (b:=aB) I I (decide_eq_true d2)) ?_|refine GB ?_)
   exact dq I I fun w hm=>hm.cZ (S:=⟨fun _=>True,fun _=>ap av e,fun _=>[]⟩) (vl,vl,fun _=>False,0,fun _=>vl,vl) trivial [] akV I
  have d2:e=0:=rQ d2;subst d2;obtain⟨r8,rfl⟩:lC R T=0/\r=(0,yY R T,yZ R T):=by
   rcases hx with⟨-,h,-⟩|⟨-,-,h,h2⟩
   exact absurd I h;exact⟨h,h2⟩
  rw[uT];have agQ:=fun vr vt w' h=>Hz vr vt R T w' h;have S9:=DJ r8;unfold ad_ at agQ;rw[r8]at agQ;generalize yY R T=MR at*;generalize yZ R T=MT at*;have hpc:=fun vr vt w' h=>RZ vr vt MR MT w' h S9;unfold abk at hpc
  repeat(first|refine GC ?_|refine gV (dz (b:=aD) I I (decide_eq_false (by simp))) ?_|refine gV (aL (i:=13) aI.ty I I I) ?_|refine GB ?_)
  refine aW (kZ aF.en I I) (fun w hm=>agQ _ _ w (hm.aih (i:=11) (j:=12) I (by rw[sj];rfl) r8)) I I I ?_;rintro⟨mr,mt⟩ _;refine zL ?_;dsimp only;refine aV (i:=14) I fun _ d1=>aV (i:=15) I fun _ d2=>?_
  try refine GA ?_
  refine aX (i:=13) (cs':=(iM mr mt).cells) I I I I (by show([mr,mt].all f_)=aB;simp[d1,d2]) I ?_;refine zL ?_
  repeat(first|refine GA ?_|refine gV (aL (i:=13) aI.ty I I I) ?_)
  refine aW (kZ aF.en I I) (fun w hm=>hpc _ _ w (hm.aih (i:=14) (j:=15) I I S9)) I I I ?_;rintro⟨gP,vsP,vTP⟩ _;refine zL ?_;dsimp only;refine aV (i:=18) I fun _ d3=>?_
  try refine GA ?_
  refine RO (i:=8) (pk':=jm (uu MR 256) (ak (ah ⟨gP,0,aj⟩) MR.length MR.length) vTP) I I I (by have:=y0 (uu MR 256) (vn:=ak (ah ⟨gP,0,aj⟩) MR.length MR.length) (vt:=vTP) I d3;simpa using this) I jV (iA _ _ _) ?_;refine zL ?_
  try refine GA ?_
  exact dq I I fun w hm=>hm.cZ (S:=Oo gp s MR MT) (vo,vp,F,gP,vsP,vTP) ⟨k1,k2,d3⟩ [8,9,10,16,17,18] akV I
end cg
namespace cg
open Go.RowKit cT ey dj gu je
theorem R5(r:Rl)(l:List Rl)(of:List Bs):rR (r::l) of=if tM r.1=aD then 1 else if r.1∈of then 11 else rR l of:=rfl
theorem WQ(of hd:List Bs)(x:Bs)(l:List Bs):BT of hd (x::l)=((decide (x∈of)||decide (x∈hd))&&BT of hd l):=rfl
theorem Ot(of hd:List Bs)(r:Rl)(l:List Rl):sv of hd (r::l)=(BT of hd r.2&&sv of hd l):=rfl
theorem HG(v:Value)(s:Sp)(w:World)(h:WE (sa w) w v s):Calls aC 40 #[v] w (cJ (ret (ap av (qz s))) w):=by
 obtain⟨vw,vr,rfl,hw,hr⟩:=h;have hnm:=fun s w=>CE s w;have hwd:=fun gm w' B ho hl hm=>Ob vw vr s.words gm w hw hl w' B ho hm;obtain⟨bw,cw,rfl,-⟩:=hw;obtain⟨br,cr,rfl,hcr,hmr,hrr⟩:=hr;unfold maxLen at hmr;have hC:qz s=if 60<s.words.length\/60<s.words.length+s.rules.length then 2 else if(l9 s.words []).1≠0 then(l9 s.words []).1 else if rR s.rules (l9 s.words []).2≠0 then rR s.rules (l9 s.words []).2 else if sv (l9 s.words []).2 (s.rules.map (·.1)) s.rules=aB then 0 else 11:=rfl
 obtain⟨words,rules⟩:=s;dsimp only at*;refine enter (args:=[aP #[ak bw words.length cw,ak br rules.length cr]]) (n:=99) Tryz.func40 I I I ?_;refine bY (a_ (bQ I I I fun g1=>?_));refine zL ?_
 by_cases c0:60<words.length
 ·rw[if_pos (.inl c0)]at hC
  rw[hC]
  repeat(first|refine GA ?_|refine gV (aw (v:=ak bw words.length cw) aI.ty I (aE (i:=0) I I)) ?_)
  exact eU I I I
 by_cases c1:60<words.length+rules.length
 ·rw[if_pos (.inr c1)]at hC
  rw[hC]
  repeat(first|refine GA ?_|refine gV (aw (v:=ak bw words.length cw) aI.ty I (aE (i:=0) I I)) ?_|refine gV (aw (v:=ak br rules.length cr) aI.ty I (aE (i:=0) I I)) ?_)
  exact eU I I I
 rw[if_neg J]at hC;rw[hC]
 repeat(first|refine GA ?_|refine gV (aw (v:=ak bw words.length cw) aI.ty I (aE (i:=0) I I)) ?_|refine gV (aw (v:=ak br rules.length cr) aI.ty I (aE (i:=0) I I)) ?_)
 refine ym iw I fun g3=>?_;refine zL ?_;refine ym iw I fun g4=>?_;refine zL ?_
 repeat(first|refine GA ?_|refine gV (aL (i:=0) aI.ty I I I) ?_)
 refine bH [1] [0,2] akV I I (fP aF.en I I I) (fun w' pV hb=>hwd g3 w' _ (mv.on (mv.self w) pV (fun o ho=>by simp at ho;subst ho;simp)) J hb) I I I ?_;rintro⟨m,n⟩ ⟨k1,k2⟩
 conv=>arg 8;simp only[zJ,dr,ret,id_eq,tN]
 conv=>arg 7;simp only[tN]
 generalize l9 words []=W at*;obtain⟨e,of⟩:=W;dsimp only at k1 k2⊢
 by_cases e0:e=0
 ·subst e0
  rw[if_neg (by simp)]
  repeat(first|refine GA ?_|refine gV (aw (v:=ak br rules.length cr) aI.ty I (aE (i:=0) I I)) ?_)
  generalize lK:rR rules of=fin;refine dU (ι:=Nat×(Bs->Option Value)×Nat) (fun(k,m2,n2)=>k<=rules.length/\n2<=k/\KeysOf m2 ((rules.take k).map (·.1))/\rR (rules.drop k) of=fin) (fun(k,_,_)=>[(1,aH (ah ⟨g1,0,aj⟩)),(3,.map (ah g3)),(4,.map (ah g4)),(41,ak br rules.length cr),(42,ap av rules.length),(43,ap av (k:Int))])
   (fun(_,m2,n2)=>[aO g1 #[ak bw words.length cw,ak br rules.length cr] 25,fq iw g4 m2 n2,fq iw g3 m n]) (fun(k,_)=>rules.length-k) (0,fun _=>aj,0) ⟨bC _,aT _,fun y=>rfl,lK⟩ ?_
  rintro⟨k,m2,n2⟩ ⟨i1,i2,i3,i4⟩;dsimp only at i1 i2 i3 i4⊢
  by_cases c2:k<rules.length
  ·obtain⟨b,off,rfl,_,fZ⟩:=hrr J
   obtain⟨bk,ck,q1,-,q3⟩:=DI fZ c2;rw[dJ c2,R5]at i4;have NP:(rules.take (k+1)).map (·.1)=(rules.take k).map (·.1)++[rules[k].1]:=by rw[ir c2,eb];rfl
   have eK:∀(L:List b9) (j:Nat) (u:Value),([str rules[k].1,.slice bk rules[k].2.length ck]:List Value)[j]?=ah u->At w L ⟨b,off+k*2+j,aj⟩ u:=fun L j u hj=>hJ (q1 j u hj);clear fZ q1;generalize rules[k]=r at*;obtain⟨nm,bd⟩:=r;dsimp only at*;generalize bd.length=bn at*
   repeat(first|refine GA ?_|refine gV (aR bI.eq aI.ty I I c2) ?_|refine gV (aU (cs:=[str nm,ak bk bn ck]) aI.ty I I (eK _)) ?_)
   clear eK;refine aY I fun g7=>?_;refine zL ?_
   try refine GA ?_
   refine gG 3 (cs':=#[str nm,ak bk bn ck]) ?_;refine zL ?_
   repeat(first|refine GA ?_|refine gV (aw (v:=str nm) aI.ty I (aE (i:=3) I I)) ?_)
   refine aW (kZ aF.en I I) (fun w hm=>hnm nm w) I I I ?_;intro _ _;refine zL ?_
   cases hb:tM nm with
   | false=>
    rw[if_pos hb]at i4;subst i4;rw[if_pos akV]
    try refine GA ?_
    exact eU I I I
   | true=>
    rw[if_neg (by rw[hb];decide)]at i4
    cases Cy:m nm with
    | some u=>
     rw[if_pos (sw k1 Cy)]at i4;subst i4;rw[if_pos akV]
     repeat(first|refine GA ?_|refine gV (aw (v:=str nm) aI.ty I (aE (i:=3) I I)) ?_|refine gV (jN iw (x:=nm) bI.eq ie (i:=2) I I I q3 Cy) ?_)
     exact eU I I I
    | none=>
     rw[if_neg (sx k1 Cy)]at i4
     repeat(first|refine GA ?_|refine gV (aw (v:=str nm) aI.ty I (aE (i:=3) I I)) ?_|refine gV (jO iw (x:=nm) bI.eq ie (i:=2) I I I q3 Cy) ?_)
     refine mK (i:=1) (x:=nm) (v:=ap av (k:Int)) iw bI.eq I I I I q3 J ?_;refine zL ?_
     try refine GA ?_
     refine dv [0,1,2] ?_;exact iU (k+1,_,_) ⟨by omega,by show(if(m2 nm).isSome then n2 else n2+1)<=k+1;split<;>omega,by show KeysOf _ ((rules.take (k+1)).map (·.1));rw[NP];exact Oa i3,i4⟩ (by show rules.length-(k+1)<rules.length-k;omega) (by repeat' (first|exact cY|refine cK I ?_)) I
  obtain rfl:k=rules.length:=by omega
  rw[wq]at i4;subst i4;rw[nk]at i3;rw[if_neg (by simp[rR])];generalize rules.map (·.1)=hd at*
  repeat(first|refine GA ?_|refine gV (aw (v:=ak br rules.length cr) aI.ty I (aE (i:=0) I I)) ?_)
  refine s7 [1,2] ?_;generalize lK:sv of hd rules=fin;refine dU (ι:=Nat) (fun k=>k<=rules.length/\sv of hd (rules.drop k)=fin) (fun k=>[(3,.map (ah g3)),(4,.map (ah g4)),(66,ak br rules.length cr),(67,ap av rules.length),(68,ap av (k:Int))])
   (fun _=>[fq iw g4 m2 n2,fq iw g3 m n]) (fun k=>rules.length-k) 0 ⟨bC _,lK⟩ ?_
  rintro k ⟨i5,i6⟩
  by_cases c2:k<rules.length
  ·obtain⟨b,off,rfl,_,fZ⟩:=hrr J
   obtain⟨bk,ck,q1,q2,q3⟩:=DI fZ c2;rw[dJ c2,Ot]at i6;have eK:∀(L:List b9) (j:Nat) (u:Value),([str rules[k].1,.slice bk rules[k].2.length ck]:List Value)[j]?=ah u->At w L ⟨b,off+k*2+j,aj⟩ u:=fun L j u hj=>hJ (q1 j u hj);have vD:=q2.flat akV;have mJ:=q2.okp;clear fZ q1 q2;generalize rules[k]=r at*;obtain⟨nm,bd⟩:=r;dsimp only at*;obtain⟨b2,c2',nG,C1,Hc,Gm⟩:=vD
   cases nG
   unfold maxLen at Hc
   repeat(first|refine GA ?_|refine gV (aR bI.eq aI.ty I I c2) ?_|refine gV (aU (cs:=[str nm,ak bk bd.length ck]) aI.ty I I (eK _)) ?_)
   clear eK;refine aY I fun g11=>?_;refine zL ?_;refine gG 2 (cs':=#[str nm,ak bk bd.length ck]) ?_;refine zL ?_
   repeat(first|refine GA ?_|refine gV (aw (v:=ak bk bd.length ck) aI.ty I (aE (i:=2) I I)) ?_)
   refine s7 [0,1] ?_;generalize aik:BT of hd bd=ail at i6;refine dU (ι:=Nat) (fun i=>i<=bd.length/\BT of hd (bd.drop i)=ail) (fun i=>[(3,.map (ah g3)),(4,.map (ah g4)),(66,ak (ah ⟨b,off,aj⟩) rules.length cr),(67,ap av rules.length),(68,ap av (k:Int)),(73,ak bk bd.length ck),(74,ap av bd.length),(75,ap av (i:Int))])
    (fun _=>[fq iw g4 m2 n2,fq iw g3 m n]) (fun i=>bd.length-i) 0 ⟨bC _,aik⟩ ?_
   rintro i ⟨i7,i8⟩
   by_cases c3:i<bd.length
   ·obtain⟨b3,aed,rfl,EP⟩:=Gm J
    have eK:=hU (L:=([fq iw g4 m2 n2,fq iw g3 m n]:List b9)) Ud EP c3 0 _ I;rw[dJ c3,WQ]at i8;have hlen:=mJ bd[i] (bV c3);clear EP mJ Gm;generalize bd[i]=x at*
    repeat(first|refine GA ?_|refine gV (aR bI.eq aI.ty I I c3) ?_|refine gV (aw (v:=str x) aI.ty I eK) ?_)
    cases Cy:m x with
    | some u=>
     rw[decide_eq_true (sw k1 Cy),Bool.true_or,rP]at i8
     cases R6:m2 x with
     | some u2=>
      repeat(first|refine GA ?_|refine gV (jN iw (x:=x) bI.eq ie (i:=1) I I I hlen Cy) ?_|refine gV (jN iw (x:=x) bI.eq ie (i:=0) I I I hlen R6) ?_)
      exact bO (i+1) ⟨by omega,i8⟩ (by show bd.length-(i+1)<bd.length-i;omega)
     | none=>
      repeat(first|refine GA ?_|refine gV (jN iw (x:=x) bI.eq ie (i:=1) I I I hlen Cy) ?_|refine gV (jO iw (x:=x) bI.eq ie (i:=0) I I I hlen R6) ?_)
      exact bO (i+1) ⟨by omega,i8⟩ (by show bd.length-(i+1)<bd.length-i;omega)
    | none=>
     cases R6:m2 x with
     | some u2=>
      rw[decide_eq_true (sw i3 R6),Bool.or_true,rP]at i8
      repeat(first|refine GA ?_|refine gV (jO iw (x:=x) bI.eq ie (i:=1) I I I hlen Cy) ?_|refine gV (jN iw (x:=x) bI.eq ie (i:=0) I I I hlen R6) ?_)
      exact bO (i+1) ⟨by omega,i8⟩ (by show bd.length-(i+1)<bd.length-i;omega)
     | none=>
      rw[decide_eq_false (sx k1 Cy),decide_eq_false (sx i3 R6),Bool.or_false,K6]at i8;subst i8;rw[K6]at i6;rw[<-i6,if_neg akV]
      repeat(first|refine GA ?_|refine gV (jO iw (x:=x) bI.eq ie (i:=1) I I I hlen Cy) ?_|refine gV (jO iw (x:=x) bI.eq ie (i:=0) I I I hlen R6) ?_)
      exact eU I I I
   obtain rfl:i=bd.length:=by omega
   rw[wq]at i8;have i8:aB=ail:=i8;rw[<-i8,rP]at i6
   try refine GA ?_
   exact bO (k+1) ⟨by omega,i6⟩ (by show rules.length-(k+1)<rules.length-k;omega)
  obtain rfl:k=rules.length:=by omega
  rw[wq]at i6;have i6:aB=fin:=i6;rw[<-i6,if_pos I]
  try refine GA ?_
  exact eU I I I
 rw[if_pos e0]
 repeat(first|refine GC ?_|refine gV (dz (b:=aB) I I (decide_eq_true e0)) ?_|refine GB ?_)
 exact eU I I I
end cg
namespace cg
open Go.RowKit cT ey aM ee
def BW(n:Nat):Value:=ap av (n:Int)
def tO(g len:Nat)(f:Nat->Nat):b9:=bx 3 1 (ak (ah ⟨g,0,aj⟩) len len) len ((l_ len f).map BW)
theorem Gq{W:b_}{L:List b9}{i g len k:Nat}{f:Nat->Nat}(hi:L[i]?=ah (tO g len f))(hk:k<len):At W L ⟨g,0+k,aj⟩ (BW (f k)):=ku hi (by rw[cI,eQ,Ke f hk];rfl)
theorem abn{g len k v:Nat}{f f':Nat->Nat}(h:∀i,i<len->f' i=if i=k then v else f i):bx 3 1 (ak (ah ⟨g,0,aj⟩) len len) len (((l_ len f).map BW).set k (BW v))=tO g len f':=by
 unfold tO;rw[<-o7,ac9 f f' k v h]
theorem BX(len:Nat):(l_ len fun _=>0).map BW=db len (ap av 0):=by
 unfold l_;rw[List.map_map];apply mq;intro i
 by_cases h:i<len<;>simp[h,BW]
theorem BY{P:Program}{n:Nat}{W:b_}{fr:Fr}{L:List b9}{Q:Exit->Act->World->Prop}{ops:Array Oper}{rest:List Oper}{ty:TypeId}{pos:String}{after:Array Edge}{t:TypeId}{p x:Operand}{i g off len v:Nat}{f:Nat->Nat}(f':Nat->Nat)(hT:Ty P t aD 1)(hi:L[i]?=ah (tO g len f))(hp:ev fr p=ah (aH (ah ⟨g,0+off,aj⟩)))(hx:ev fr x=ah (BW v))(hk:off<len)(hf:∀i,i<len->f' i=if i=off then v else f i)
 (h:TL P n W ops Q rest fr (L.set i (tO g len f'))):TL P n W ops Q (⟨aj,.store t p x,ty,pos,after,aj⟩::rest) fr L:=
 kY hT hi hp hx I I I (by rw[dw,zV,cI];exact hk) (by rw[cI,abn hf];exact h)
theorem xO(m:Nat)(w:World):Calls aC 134 #[ap av (m:Int)] w (cJ (ret (BW (min m 2))) w):=by
 have h:=KP (m:Int) w;rw[show min (m:Int) 2=((min m 2:Nat):Int)by omega]at h;exact h
theorem WR(gc gm:Nat)(t n:Int)(vp vw vb:Value)(word:List Int)(c:fA)(B:Nat)(body:List bX)(a b:Nat)(w:World)(h:ChR w gc gm t n vp vw word c B)(hs:Sl w vb body.length (body.flatMap dS))(mJ:∀x∈body,cT.dM x.2)(hc:∀x,c x<=2)(se:a<=b)(hb:b<=word.length)(hw:word.length<=20):
 Calls aC 95 #[aH (ah ⟨gc,0,aj⟩),vb,ap av (a:Int),ap av (b:Int)] w (cJ (ret (ap av (sd (eo c word) body a b:Nat))) w):=by
 have jB:=fun x a' b' w' (hg:Gr w w')=>IK gc gm t n vp vw word c B x a' b' w' (h.gr hg);obtain⟨bb,cb,rfl,h4,h5,h6⟩:=hs;unfold maxLen at h5;obtain⟨d,rfl⟩:∃d,b=a+d:=⟨b-a,by omega⟩;have ho:=ada hc word;unfold sd;rw[show a+d-a=d by omega];generalize eo c word=o at*;refine enter (args:=[aH (ah ⟨gc,0,aj⟩),ak bb body.length cb,ap av (a:Int),ap av ((a+d:Nat):Int)]) (n:=79) Tryz.func95 I I I ?_
 repeat(first|refine GC ?_|refine gV (eD (r:=(d:Int)) I I J J J) ?_|refine gV (dh (r:=((d+1:Nat):Int)) I I J J J) ?_|refine GB ?_)
 refine td I I J J I fun g0=>?_;rw[<-BX]
 repeat(first|refine GA ?_|refine gV (a8 (j:=0) bI.eq aI.ty I I J) ?_)
 refine BY (i:=0) (len:=d+1) (f:=fun _=>0) (v:=1) xE aI.ty I I I J (fun i _=>rfl) ?_;refine zL ?_
 try refine GA ?_
 refine dU (ι:=Nat×Nat×(Nat->Nat)) (fun(k,g,f)=>k<=body.length/\(∀b,f b<=2)/\q7 o a (body.drop k) f d=q7 o a body xE d) (fun(k,g,f)=>[(0,aH (ah ⟨gc,0,aj⟩)),(2,ap av (a:Int)),(3,ap av ((a+d:Nat):Int)),(9,ak (ah ⟨g,0,aj⟩) (d+1) (d+1)),(23,ak bb body.length cb),(24,ap av body.length),(25,ap av (k:Int))])
  (fun(k,g,f)=>[tO g (d+1) f]) (fun(k,_,_)=>body.length-k) (0,g0,xE) ⟨bC _,EZ,rfl⟩ ?_
 rintro⟨k,g,f⟩ ⟨i1,i2,i3⟩;dsimp only at i1 i2 i3⊢;rw[<-i3];clear i3
 by_cases c6:k<body.length
 ·obtain⟨b',off,rfl,hr⟩:=h6 J
  have eK:=fun L=>hU (L:=L) mc hr c6;have V6:=mJ body[k] (bV c6);rw[dJ c6,q7];clear hr h6;have hox:=ho body[k];have jB:=fun a' b' w' hg=>jB body[k] a' b' w' hg V6;generalize body[k]=x at*;obtain⟨q,m⟩:=x
  repeat(first|refine GA ?_|refine gV (aR bI.eq aI.ty I I c6) ?_|refine gV (aU aI.ty I I (eK _)) ?_)
  refine aY I fun g11=>?_;refine gG 1 ?_;refine zL ?_
  try refine GA ?_
  refine td I I J J I fun g12=>?_;rw[<-BX];refine zL ?_
  try refine GA ?_
  generalize hO:(fun i j=>o (q,m) (a+i) (a+j))=O;refine lX (ι:=Nat) (fun i=>i<=d+1) (fun i=>[(0,aH (ah ⟨gc,0,aj⟩)),(2,ap av (a:Int)),(3,ap av ((a+d:Nat):Int)),(9,ak (ah ⟨g,0,aj⟩) (d+1) (d+1)),(11,aH (ah ⟨g11,0,aj⟩)),(12,ak (ah ⟨g12,0,aj⟩) (d+1) (d+1)),(23,ak (ah ⟨b',off,aj⟩) body.length cb),(24,ap av body.length),(25,ap av (k:Int)),(32,ak (ah ⟨g,0,aj⟩) (d+1) (d+1)),(33,ap av ((d+1:Nat):Int)),(34,ap av (i:Int))])
   (fun i=>[tO g (d+1) f,aO g11 (dS (q,m)).toArray 148,tO g12 (d+1) (kE O f i)]) (fun i=>d+1-i) 0 (bC _) (by repeat' (first|exact cY|refine cK I ?_)) (by rw[show kE O f 0=fun _=>0 from funext (ac_ O f)];rfl) ?_
  intro i j1
  by_cases c7:i<d+1
  ·have TE:=i2 i
   repeat(first|refine GA ?_|refine gV (a8 bI.eq aI.ty I I c7) ?_|refine gV (aw aI.ty I (Gq (i:=0) I c7)) ?_)
   refine lX (ι:=Nat) (fun b=>i<=b/\b<=d+1) (fun b=>[(0,aH (ah ⟨gc,0,aj⟩)),(2,ap av (a:Int)),(3,ap av ((a+d:Nat):Int)),(9,ak (ah ⟨g,0,aj⟩) (d+1) (d+1)),(11,aH (ah ⟨g11,0,aj⟩)),(12,ak (ah ⟨g12,0,aj⟩) (d+1) (d+1)),(13,ap av (i:Int)),(14,BW (f i)),(15,ap av (b:Int)),(23,ak (ah ⟨b',off,aj⟩) body.length cb),(24,ap av body.length),(25,ap av (k:Int)),(32,ak (ah ⟨g,0,aj⟩) (d+1) (d+1)),(33,ap av ((d+1:Nat):Int)),(34,ap av (i:Int))])
    (fun b=>[tO g (d+1) f,aO g11 (dS (q,m)).toArray 148,tO g12 (d+1) (zW O f i b)]) (fun b=>d+1-b) i ⟨aT _,by omega⟩ (by repeat' (first|exact cY|refine cK I ?_)) (by rw[af']) ?_
   rintro b ⟨b1,b2⟩
   by_cases c8:f i=0
   ·rw[Vw O f c8]
    rw[c8]at*
    by_cases c9:b<d+1
    ·try refine GA ?_
     exact bO (i+1) J (by show d+1-(i+1)<d+1-i;omega)
    try refine GA ?_
    exact bO (i+1) J (by show d+1-(i+1)<d+1-i;omega)
   by_cases c9:b<d+1
   ·have hp:=ML O f i b
    have hst:=EX O f b1;have hld:∀L:List b9,L[2]?=ah (tO g12 (d+1) (zW O f i b))->At w L ⟨g12,0+b,aj⟩ (BW (kE O f i b)):=fun L h=>by rw[<-ac' O f i b];exact Gq h c9
    have hsf:=Vx O f i b;have jB:=fun w' hg=>jB (a+i) (a+b) w' hg J J hw;have hob:=hox (a+i) (a+b);have he:o (q,m) (a+i) (a+b)=O i b:=by rw[<-hO]
    rw[he]at jB hob;have hm:((f i:Nat):Int)*((O i b:Nat):Int)=((f i*O i b:Nat):Int):=by simp
    have hmb:f i*O i b<=4:=rF TE hob;have hc8:0<f i:=by omega
    generalize f i=fi at*;generalize O i b=oo at*;generalize fi*oo=pr at*;rw[hst]at hsf;clear hst;generalize kE O f i b=p at*
    try refine GA ?_
    refine dK ([aO g11 (dS (q,m)).toArray 148]) (.calm 0 (.calm 1 (.calm 2 (.calm 3 (.calm 4 (.calm 6 (.calm 7 (.calm 8 (.calm 9 (.calm 10 (.calm 11 (.calm 12 (.calm 13 (.calm 14 (.calm 15 (.calm 16 (.one 5 (.calm 17 (.calm 18 (.calm 19 (.one 20 (.done)))))))))))))))))))))) (bZ [1]) ?_
    repeat(first|(refine GN ?_;first|refine QW QP ?_|refine QW (a8 bI.eq aI.ty I I c9) ?_|refine QW (aL (i:=0) aI.ty I I I) ?_|refine QW (dh (r:=((a+i:Nat):Int)) I I J J J) ?_|refine QW (dh (r:=((a+b:Nat):Int)) I I J J J) ?_|refine GX ?_)|refine GW ?_)
    refine na I (Hi aF.en I I I I I) (fun w hm=>jB _ hm.below) I I I ?_
    repeat(first|(refine GN ?_;first|refine QW QP ?_|refine QW (Mh (r:=(pr:Int)) I I (by rw[hm];omega) (by rw[hm];omega) hm) ?_|refine GX ?_)|refine GW ?_)
    refine aJ I (dC (aw aI.ty I (hld _ I)) I I I (aK (bZ [1]) ?_))
    repeat(first|(refine GN ?_;first|refine QW QP ?_|refine QW (dh (r:=((p+pr:Nat):Int)) I I J J J) ?_|refine GX ?_)|refine GW ?_)
    refine na I (kZ aF.en I I) (fun w hm=>xO (p+pr) w) I I I ?_
    repeat(first|refine GW ?_|(refine GN ?_;first|refine QW (a8 bI.eq aI.ty I I c9) ?_))
    refine aJ I (BY (i:=2) (v:=min (p+pr) 2) (zW O f i (b+1)) aI.ty I I I c9 (fun j _=>hsf j) ?_);refine zL ?_;refine aK (bZ [1]) ?_
    try refine GW ?_
    try refine GA ?_
    exact bO (b+1) ⟨by omega,by omega⟩ (by show d+1-(b+1)<d+1-b;omega)
   try refine GA ?_
   exact bO (i+1) J (by show d+1-(i+1)<d+1-i;omega) (hl:=by unfold tO;rw[Zy O f (show d+1<=b by omega)])
  try refine GA ?_
  refine dv [2] ?_;have e1:l_ (d+1) (kE O f i)=l_ (d+1) (kf O f):=Ie fun j hj=>Bx O f J;exact bO (k+1,g12,kf O f) ⟨by omega,EW O f,rfl⟩ (by show body.length-(k+1)<body.length-k;omega) (hl:=by unfold tO;rw[e1];rfl)
 ·rw[fS J,q7]
  repeat(first|refine GC ?_|refine gV (eD (r:=(d:Int)) I I J J J) ?_|refine gV (a8 bI.eq aI.ty I I (show d<d+1 by omega)) ?_|refine gV (aw aI.ty I (Gq (i:=0) I (show d<d+1 by omega))) ?_|refine GB ?_)
  exact dR
end cg
namespace cg
open Go.RowKit cT ey aM ee
def abo(n:Nat)(l:List aM.Prod):Prop:=∀p∈l,0<=p.1/\p.1<(n:Int)/\∀x∈p.2,cT.dM x.2
attribute [local irreducible] Instr.build in
theorem Lh(w0:World)(gc gm n:Nat)(t:Int)(vp vw:Value)(word:List Int)(az:List aM.Prod)(c:fA)(Bd a b:Nat)(hG:kK q6 (fun k=>k<w0.heap.size) w0 vp az)(hW:Sl w0 vw word.length (word.map (.int .i64)))(nH:abo n az)(hn:n<=20)(hlen:az.length<=40)(hc:∀x,c x<=2)(se:a<=b)(hb:b<=word.length)(hw:word.length<=20)(hBd:Bd<=10000000)(w:World)(B:b_)(ho:mv w0 B)(hm:Mem B [aO gc (FK t (n:Int) vp vw gm) 144,BJ gm c Bd] w):
 Calls aC 133 #[aH (ah ⟨gc,0,aj⟩),ap av (a:Int),ap av (b:Int)] w (dX ⟨fun(_:Unit)=>True,fun _=> .bool (u_ c word az a b n),fun _=>[aO gc (FK t (n:Int) vp vw gm) 144,BJ gm (gJ c word az n a b n) (Bd+n)]⟩ B):=by
 have gv:=fun vb body w' L (hm:Mem B L w') h1 h2 hs ok=>WR gc gm t (n:Int) vp vw vb word c Bd body a b w' ⟨h1,h2,hW.gr (ho.mem hm)⟩ hs ok hc se hb hw;obtain⟨bp,cp,rfl,Qg,He,ow⟩:=hG;unfold maxLen at He;refine eR hm (args:=[aH (ah ⟨gc,0,aj⟩),ap av (a:Int),ap av (b:Int)]) (n:=75) Tryz.func133 I I I ?_;clear hm
 repeat(first|refine GA ?_|refine gV (aw aI.ty I (aE (i:=0) I I)) ?_)
 refine td I I J J I fun g7=>?_;rw[<-BX];refine zL ?_
 repeat(first|refine GA ?_|refine gV (aw aI.ty I (aE (i:=0) I I)) ?_)
 refine lX (ι:=Nat) (fun k=>k<=az.length) (fun k=>[(0,aH (ah ⟨gc,0,aj⟩)),(1,ap av (a:Int)),(2,ap av (b:Int)),(7,ak (ah ⟨g7,0,aj⟩) n n),(24,ak bp az.length cp),(25,ap av az.length),(26,ap av (k:Int))])
  (fun k=>[aO gc (FK t (n:Int) (ak bp az.length cp) vw gm) 144,BJ gm c Bd,tO g7 n (lh (eo c word) (az.take k) a b)]) (fun k=>az.length-k) 0 (bC _) (by repeat' (first|exact cY|refine cK I ?_)) (by rw[show lh (eo c word) (az.take 0) a b=fun _=>0 from funext fun i=>by simp[lh,ui]];rfl) ?_
 intro k i1
 by_cases c6:k<az.length
 ·obtain⟨b',off,rfl,_,hr⟩:=ow J
  obtain⟨bb,cb,q1,q2,q3⟩:=lI hr c6;have jb:=nH az[k] (bV c6);have NP:az.take (k+1)=az.take k++[az[k]]:=ir c6;have eK:∀(L:List b9) (j:Nat) (v:Value),([ap av az[k].1,.slice bb az[k].2.length cb]:List Value)[j]?=ah v->At B L ⟨b',off+k*2+j,aj⟩ v:=fun L j v hj=>iv ho (q1 j v hj);have AX:=q3.flat akV;clear hr ow q1 nH q3;generalize az[k]=p at*;obtain⟨hd,body⟩:=p;obtain⟨p1,p2,p3⟩:=jb;dsimp only at*;obtain⟨h,rfl⟩:∃h:Nat,hd=h:=⟨hd.toNat,by omega⟩;have hh:h<n:=by omega
  have gv:=fun w' L (hm:Mem B L w') h1 h2=>gv (ak bb body.length cb) body w' L hm h1 h2 (AX.gr (ho.mem hm)) p3;have hsn:=fun i=>Vy (eo c word) a b ((h:Int),body) (az.take k) (h:=h) I i;dsimp only at hsn;rw[<-NP]at hsn;have IB:=adb (eo c word) body a b;have hnl:=zX (eo c word) (az.take k) a b h;generalize sd (eo c word) body a b=r at*;have hld:∀L:List b9,L[2]?=ah (tO g7 n (lh (eo c word) (az.take k) a b))->At B L ⟨g7,0+h,aj⟩ (BW (lh (eo c word) (az.take k) a b h)):=fun L hL=>Gq hL hh;generalize lh (eo c word) (az.take k) a b h=q at*
  repeat(first|refine GA ?_|refine gV (aR bI.eq aI.ty I I c6) ?_|refine gV (aU aI.ty I I (eK _)) ?_)
  clear eK;refine aY I fun g9=>?_;refine gG 3 ?_;refine zL ?_
  try refine GA ?_
  refine dK ([aO gc (FK t (n:Int) (ak (ah ⟨b',off,aj⟩) az.length cp) vw gm) 144,BJ gm c Bd,aO g9 #[ap av (h:Int),ak bb body.length cb] 140]) (.calm 0 (.calm 1 (.calm 2 (.calm 3 (.calm 4 (.calm 5 (.calm 6 (.calm 8 (.calm 9 (.calm 10 (.calm 11 (.calm 12 (.calm 13 (.one 7 (.calm 14 (.calm 15 (.calm 16 (.one 17 (.done))))))))))))))))))) (bZ [0,1,3]) ?_
  repeat(first|refine GW ?_|(refine GN ?_;first|refine QW (aw aI.ty I (aE (i:=2) I I)) ?_|refine QW (a8 bI.eq aI.ty I I hh) ?_))
  refine na I (Hi aF.en I I I I I) (fun w hm=>gv _ _ hm (hm.get (i:=0) I) (hm.get (i:=1) I)) I I I ?_;refine aJ I (dC (aw aI.ty I (hld _ I)) I I I (aK (bZ [0,1,3]) ?_))
  repeat(first|(refine GN ?_;first|refine QW QP ?_|refine QW (dh (r:=((q+r:Nat):Int)) I I J J J) ?_|refine GX ?_)|refine GW ?_)
  refine na I (kZ aF.en I I) (fun w hm=>xO (q+r) w) I I I ?_
  repeat(first|refine GW ?_|(refine GN ?_;first|refine QW (a8 bI.eq aI.ty I I hh) ?_))
  refine aJ I (BY (i:=2) (v:=min (q+r) 2) (lh (eo c word) (az.take (k+1)) a b) aI.ty I I I hh (fun j _=>hsn j) ?_);refine zL ?_;refine aK (bZ [0,1,3]) ?_
  try refine GW ?_
  try refine GA ?_
  refine dv [0,1,2] ?_;exact bO (k+1) J (by show az.length-(k+1)<az.length-k;omega)
 ·obtain rfl:k=az.length:=by omega
  rw[nk];clear ow gv i1 c6
  try refine GA ?_
  refine lX (ι:=Nat) (fun k=>k<=n) (fun k=>[(0,aH (ah ⟨gc,0,aj⟩)),(1,ap av (a:Int)),(2,ap av (b:Int)),(10,.bool (u_ c word az a b k)),(48,ak (ah ⟨g7,0,aj⟩) n n),(49,ap av (n:Int)),(50,ap av (k:Int))])
   (fun k=>[aO gc (FK t (n:Int) (ak bp az.length cp) vw gm) 144,BJ gm (gJ c word az n a b k) (Bd+k),tO g7 n (lh (eo c word) az a b)]) (fun k=>n-k) 0 (bC _) (by repeat' (first|exact cY|refine cK I ?_)) (by rw[Zz];rfl) ?_
  intro k i1
  by_cases c6:k<n
  ·have hsp:xK.ok ((k:Int),(a:Int),(b:Int)):=KO ⟨by omega,by omega⟩ J J
   have hst:=MN c word az (a:=a) (b:=b) c6;have eK:=Vz c word az n a b k;have Hk:u_ c word az a b (k+1)=(u_ c word az a b k||!decide (c ((k:Int),(a:Int),(b:Int))=lh (eo c word) az a b k)):=rfl;have hld:∀L:List b9,L[2]?=ah (tO g7 n (lh (eo c word) az a b))->At B L ⟨g7,0+k,aj⟩ (BW (lh (eo c word) az a b k)):=fun L hL=>Gq hL c6;generalize lh (eo c word) az a b k=v at*;generalize hcv:c ((k:Int),(a:Int),(b:Int))=u at*
   repeat(first|refine GA ?_|refine gV (a8 bI.eq aI.ty I I c6) ?_|refine gV (aw aI.ty I (hld _ I)) ?_|refine gV (bz I (yU _ _ _)) ?_)
   refine aY I fun g13=>?_;refine gG 3 ?_;refine zL ?_
   try refine GA ?_
   by_cases c7:u=v
   ·rw[decide_eq_true c7]at Hk
    have Hk:u_ c word az a b (k+1)=u_ c word az a b k:=by rw[Hk];simp
    refine dK ([aO gc (FK t (n:Int) (ak bp az.length cp) vw gm) 144,BJ gm (gJ c word az n a b k) (Bd+k),tO g7 n (lh (eo c word) az a b),aO g13 #[ap av (k:Int),ap av (a:Int),ap av (b:Int)] 146]) (.calm 0 (.calm 1 (.calm 2 (.calm 3 (.calm 4 (.calm 5 (.calm 6 (.calm 7 (.done))))))))) (fun _ h=>h) ?_
    repeat(first|refine GW ?_|(refine GN ?_;first|refine QW (aw aI.ty I (aE (i:=0) I I)) ?_|refine QW (aL (i:=3) aI.ty I I I) ?_|refine QW (r_ (x:=((k:Int),(a:Int),(b:Int))) (i:=1) xK bI.eq An I I I hsp (by rw[eK])) ?_))
    try refine GA ?_
    refine dv [0,1,2] ?_;refine af2 (o:=BJ gm (gJ c word az n a b k) (Bd+k)) (BJ gm (gJ c word az n a b (k+1)) (Bd+(k+1))) (i:=1) I (fun w h=>H5 (K:=xK) J (fun x _=>?_) w h) (fun q h=>h) (fun q h=>A2 h) ?_
    ·rw[hst x]
     split
     ·rename_i e;rw[e,eK,c7]
     rfl
    exact iU (k+1) J (by show n-(k+1)<n-k;omega) ⟨rfl,rfl,rfl,by rw[Hk];rfl,rfl,rfl,rfl,trivial⟩ I
   rw[decide_eq_false c7]at Hk;have Hk:u_ c word az a b (k+1)=true:=by rw[Hk];simp
   refine dK ([aO gc (FK t (n:Int) (ak bp az.length cp) vw gm) 144,BJ gm (gJ c word az n a b k) (Bd+k),tO g7 n (lh (eo c word) az a b),aO g13 #[ap av (k:Int),ap av (a:Int),ap av (b:Int)] 146]) (.calm 0 (.calm 1 (.calm 2 (.calm 3 (.calm 4 (.calm 5 (.calm 6 (.calm 7 (.done))))))))) (fun _ h=>h) ?_
   repeat(first|refine GW ?_|(refine GN ?_;first|refine QW (aw aI.ty I (aE (i:=0) I I)) ?_|refine QW (aL (i:=3) aI.ty I I I) ?_|refine QW (r_ (x:=((k:Int),(a:Int),(b:Int))) (i:=1) xK bI.eq An I I I hsp (by rw[eK])) ?_))
   try refine GA ?_
   refine dK ([aO gc (FK t (n:Int) (ak bp az.length cp) vw gm) 144,aO g13 #[ap av (k:Int),ap av (a:Int),ap av (b:Int)] 146]) (.calm 0 (.calm 1 (.calm 2 (.calm 3 (.calm 4 (.calm 5 (.one 6 (.done)))))))) (bZ [0,3]) ?_
   repeat(first|refine GW ?_|(refine GN ?_;first|refine QW (aw aI.ty I (aE (i:=0) I I)) ?_|refine QW (aL (i:=1) aI.ty I I I) ?_))
   refine aJ I (P0 (x:=((k:Int),(a:Int),(b:Int))) (v:=BW v) (i:=1) xK (fun y=>ap av (gJ c word az n a b (k+1) y:Int)) bI.eq I I I I hsp J (fun y _=>?_) ?_)
   ·rw[hst y]
    split<;>rfl
   refine zL ?_;refine aK (bZ [0,3]) ?_
   try refine GW ?_
   try refine GA ?_
   refine dv [0,1,2] ?_;exact iU (k+1) J (by show n-(k+1)<n-k;omega) ⟨rfl,rfl,rfl,by rw[Hk];rfl,rfl,rfl,rfl,trivial⟩ I
  obtain rfl:k=n:=by omega
  try refine GA ?_
  exact dq I I fun w hm=>hm.cZ (S:=⟨fun(_:Unit)=>True,fun _=> .bool (u_ c word az a b k),fun _=>[aO gc (FK t (k:Int) (ak bp az.length cp) vw gm) 144,BJ gm (gJ c word az k a b k) (Bd+k)]⟩) () trivial [0,1] akV I
end cg
namespace cg
open Go.RowKit cT ey aM ee
theorem R7(w0:World)(gc gm n:Nat)(t:Int)(vp vw:Value)(word:List Int)(az:List aM.Prod)(hG:kK q6 (fun k=>k<w0.heap.size) w0 vp az)(hW:Sl w0 vw word.length (word.map (.int .i64)))(nH:abo n az)(JG:rG n az)(hn:n<=20)(hlen:az.length<=40)(hw:word.length<=20)(w:World)(B:b_)(ho:mv w0 B)(hm:Mem B [aO gc (FK t (n:Int) vp vw gm) 144,BJ gm (fun _=>0) 0] w):
 Calls aC 92 #[aH (ah ⟨gc,0,aj⟩)] w (dX ⟨fun(x:fA×Nat)=>E6 word az n x.1/\x.2<=1000000,fun _=> .tuple #[],fun x=>[aO gc (FK t (n:Int) vp vw gm) 144,BJ gm x.1 x.2]⟩ B):=by
 have agR:=fun c Bd a b hc se hb hBd w' B' ho hm=>Lh w0 gc gm n t vp vw word az c Bd a b hG hW nH hn hlen hc se hb hw hBd w' B' ho hm;obtain⟨bw,cw,rfl,_⟩:=hW;refine eR hm (args:=[aH (ah ⟨gc,0,aj⟩)]) (n:=32) Tryz.func92 I I I ?_;clear hm
 try refine GA ?_
 refine dU (ι:=Nat×fA×Nat) (fun(s,c,Bd)=>s<=word.length+1/\E7 word az n (fun i j=>j-i<s) c/\Bd<=1700*(s*22)) (fun(s,_,_)=>[(0,aH (ah ⟨gc,0,aj⟩)),(2,ap av (s:Int))])
  (fun(_,c,Bd)=>[aO gc (FK t (n:Int) vp (ak bw word.length cw) gm) 144,BJ gm c Bd]) (fun(s,_,_)=>word.length+1-s) (0,fun _=>0,0) ⟨by omega,afE,by omega⟩ ?_
 rintro⟨s,c,Bd⟩ ⟨i1,i2,i3⟩;dsimp only at i1 i2 i3⊢
 by_cases c6:s<=word.length
 ·repeat(first|refine GA ?_|refine gV (aw aI.ty I (aE (i:=0) I I)) ?_)
  refine dU (ι:=Nat×fA×Nat) (fun(f,c,Bd)=>f+s<=word.length+1/\E7 word az n (fun i j=>j-i<s\/(j-i=s/\i<f)) c/\Bd<=1700*(s*22+f)) (fun(f,_,_)=>[(0,aH (ah ⟨gc,0,aj⟩)),(2,ap av (s:Int)),(3,ap av (f:Int))])
   (fun(_,c,Bd)=>[aO gc (FK t (n:Int) vp (ak bw word.length cw) gm) 144,BJ gm c Bd]) (fun(f,_,_)=>word.length+1-f) (0,c,Bd) ⟨by omega,i2.same fun i j _ _=>by omega,by omega⟩ ?_
  clear i2 i3;rintro⟨f,c,Bd⟩ ⟨j1,i2,i3⟩;dsimp only at j1 i2 i3⊢
  by_cases c7:f+s<=word.length
  ·repeat(first|refine GA ?_|refine gV (aw aI.ty I (aE (i:=0) I I)) ?_)
   refine dU (ι:=fA×Nat×Bool) (fun(c,Bd,m)=>Kf word az n (fun i j=>j-i<s\/(j-i=s/\i<f)) f (f+s) c/\(m=aD->VD word az n c f (f+s))/\Bd+20*(2*zY n c f (f+s)+(if m=aB then 1 else 0))<=1700*(s*22+f)+1620) (fun(_,_,m)=>[(0,aH (ah ⟨gc,0,aj⟩)),(2,ap av (s:Int)),(3,ap av (f:Int)),(4,.bool m)])
    (fun(c,Bd,_)=>[aO gc (FK t (n:Int) vp (ak bw word.length cw) gm) 144,BJ gm c Bd]) (fun(c,_,m)=>2*zY n c f (f+s)+(if m=aB then 1 else 0)) (c,Bd,aB) ⟨i2.begin J c7 J,fun h=>(by cases h),by have:=ZA n c f (f+s);rw[if_pos I];omega⟩ ?_
   clear i2 i3;rintro⟨c,Bd,m⟩ ⟨i2,i3,i4⟩;dsimp only at i2 i3 i4⊢
   cases m
   ·have i3:=i3 I
    try refine GA ?_
    exact bO (f+1,c,Bd) ⟨by omega,i2.done i3 fun i j _ _=>by omega,by rw[if_neg akV]at i4;dsimp only;omega⟩ (by show word.length+1-(f+1)<word.length+1-f;omega)
   have hinv:=VF JG i2 J c7 (by intro i j h;omega);have aj0:=VG JG i2 J;have Hl:=E_ i2 n (aT _);rw[if_pos I]at i4
   try refine GA ?_
   refine bH [0,1] [] akV I I (ye aF.en I I I I) (fun w hm hb=>agR c Bd f (f+s) i2.le2 J c7 J w _ (ho.on hm (by intro o ho;simpa using ho)) hb) I I I ?_;intro _ _;refine zL ?_
   try refine GA ?_
   refine bO (gJ c word az n f (f+s) n,Bd+n,u_ c word az f (f+s) n) ⟨hinv,aj0,?_⟩ ?_
   ·dsimp only
    by_cases c8:u_ c word az f (f+s) n=aB
    have:=Hl.2 c8;rw[if_pos c8];omega;have:=Hl.1;rw[if_neg c8];omega
   dsimp only;rw[if_pos I]
   by_cases c8:u_ c word az f (f+s) n=aB
   have:=Hl.2 c8;rw[if_pos c8];omega;have:=Hl.1;rw[if_neg c8];omega
  repeat(first|refine GA ?_|refine gV (aw aI.ty I (aE (i:=0) I I)) ?_)
  exact bO (s+1,c,Bd) ⟨by omega,i2.same fun i j _ _=>by omega,by dsimp only;omega⟩ (by show word.length+1-(s+1)<word.length+1-s;omega)
 ·repeat(first|refine GA ?_|refine gV (aw aI.ty I (aE (i:=0) I I)) ?_)
  exact Bj I fun w hm=>hm.cZ (S:=⟨fun(x:fA×Nat)=>E6 word az n x.1/\x.2<=1000000,fun _=> .tuple #[],fun x=>[aO gc (FK t (n:Int) vp (ak bw word.length cw) gm) 144,BJ gm x.1 x.2]⟩) (c,Bd) ⟨i2.lfp fun i j _ _=>by omega,by dsimp only;omega⟩ [0,1] akV I
theorem Ou(t n:Int)(b b':Option Addr)(m c m' c' gm:Nat)(w:World):(dm 144 #[(0,dD t n (ak b m c)),(1,ak b' m' c'),(2,.map (ah gm))]).run aC w= .ok (.agg (FK t n (ak b m c) (ak b' m' c') gm)) w:=by
 unfold dD FK
 go_simp
def DP(g:dF)(word:List Int)(vp vw:Value):Spec (Nat×Nat×fA×Nat):=⟨fun x=>E6 word g.az g.bB.toNat x.2.2.1/\x.2.2.2<=1000000,fun x=>aH (ah ⟨x.1,0,aj⟩),fun x=>[aO x.1 (FK g.aQ g.bB vp vw x.2.1) 144,BJ x.2.1 x.2.2.1 x.2.2.2]⟩
theorem Gs{g:dF}{n:Nat}(h:cD g=0)(hn:g.bB=n):abo n g.az/\rG n g.az:=by
 obtain⟨a1,a2,a3,a4,a5,a6⟩:=cz h;refine⟨fun p hp=>?_,fun p hp x hx h2=>?_⟩
 ·obtain⟨b1,b2,b3,b4⟩:=a6 p hp
  refine⟨b2,by omega,fun x hx=>?_⟩;have:=b4 x hx;unfold right at this;split at this;simp at this;exact⟨by omega,by omega⟩;split at this;simp at this;exact⟨by omega,by omega⟩;simp at this
 have:=(a6 p hp).2.2.2 x hx;unfold right at this;rw[if_neg J,if_pos h2]at this;simp at this;omega
attribute [local irreducible] Instr.build in
theorem AH(vp vw:Value)(g:dF)(word:List Int)(w:World)(h:kw (fun k=>k<w.heap.size) w (dD g.aQ g.bB vp) g)(hs:Sl w vw word.length (word.map (.int .i64)))(h_:fB g word=0):
 Calls aC 52 #[dD g.aQ g.bB vp,vw] w (cJ (DP g word vp vw) w):=by
 obtain⟨hg,hl,hw⟩:=ko h_;obtain⟨a1,a2,a3,a4,a5,a6⟩:=cz hg;obtain⟨n,hn⟩:∃n:Nat,g.bB=n:=⟨g.bB.toNat,by omega⟩;obtain⟨f1,f2⟩:=Gs hg hn;obtain⟨vp',he,h1,_⟩:=h;obtain⟨t,nn,az⟩:=g;dsimp only at*;simp only[dD,nb,oX,fg,true_and,and_true]at he;subst he hn;have rY:=fun gc gm w' B ho hm=>R7 w gc gm n t vp vw word az h1 hs f1 f2 J a5 hl w' B ho hm;obtain⟨bp,cp,rfl,_⟩:=h1;obtain⟨bw,cw,rfl,_⟩:=hs;refine enter (args:=[dD t (n:Int) (ak bp az.length cp),ak bw word.length cw]) (n:=14) Tryz.func52 I I I ?_;refine bY (a_ (bQ I I I fun g2=>?_))
 repeat(first|refine GA ?_|refine gV (aL (i:=0) aI.ty I I I) ?_)
 refine Ta (z:=ap av 0) xK I fun gm=>?_
 repeat(first|refine GA ?_|refine gV (bz I (Ou _ _ _ _ _ _ _ _ _)) ?_)
 refine bQ I I I fun gc=>?_;refine zL ?_
 try refine GA ?_
 refine bH [2,1] [0] akV I I (kZ aF.en I I) (fun w' hm hb=>rY gc gm w' _ ((mv.self w).on hm (by intro o ho;simp at ho⊢;rcases ho with h|h<;>simp[h])) hb) I I I ?_;rintro⟨c,Bd⟩ hx;refine zL ?_
 try refine GA ?_
 exact dq I I fun w hm=>hm.meets (S:=DP ⟨t,n,az⟩ word (ak bp az.length cp) (ak bw word.length cw)) (gc,gm,c,Bd) hx [1,2] akV I
end cg
namespace cg
open Go.RowKit cT ey aM dN ee dx o8 wZ
attribute [local irreducible] Op.shift Go.bits in
theorem WT(t:Nat)(n:Int)(vp:Value)(col:Nat)(w:World)(ht:t<=30)(hc:col<=t)(hv:∃b m c,vp=ak b m c):
 Calls aC 85 #[dD (t:Int) n vp,ap av (col:Int)] w (cJ (ret (ib (Km t col))) w):=by
 obtain⟨b,m,c,rfl⟩:=hv;have hsh:=fun w=>adA (P:=aC) col J w;unfold Km;refine enter (args:=[dD (t:Int) n (ak b m c),ap av (col:Int)]) (n:=11) Tryz.func85 I I I ?_;refine bY (a_ (bQ I I I fun g2=>?_))
 by_cases e:col=t
 ·rw[if_pos e]
  repeat(first|refine GA ?_|refine gV (aw aI.ty I (aE (i:=0) I I)) ?_)
  exact dR
 ·rw[if_neg e]
  repeat(first|refine GA ?_|refine gV (aw aI.ty I (aE (i:=0) I I)) ?_|refine gV (En I I hsh) ?_)
  exact dR
def clC(x:Cl):List Value:=[ap av x.1,ap av x.2.1,ap av x.2.2.1,ap av x.2.2.2]
theorem abp(a b c d:Int)(w:World):(dm 200 #[(0,ap av a),(1,ap av b),(2,ap av c),(3,ap av d)]).run aC w= .ok (aP (clC (a,b,c,d)).toArray) w:=by
 unfold clC;go_simp
abbrev wB(v:Value):Value:=v
def agS(n:Int):Value:=ap av n
def C'(T n c j:Nat):Nat:=if j<n then T+1 else if j=n then c else 0
def nJ(l:List aM.Prod)(may:Nat->Nat)(T:Nat)(vs:Nat->Value)(n c:Nat)(j:Nat):b9:=bx 3 1 (vs j) (C' T n c j) ((lH (C' T n c j) (wZ.rowAt l may T j)).map agS)
def abq(N T:Nat)(l:List aM.Prod)(may:Nat->Nat):Spec (Nat×(Nat->Value)×Value):=
 ⟨fun _=>True,fun x=> .tuple #[ak (ah ⟨x.1,0,aj⟩) N N,x.2.2,ap av 0],fun x=>[dI 26 wB x.1 N x.2.1,ia (fun j=>j<N) (nJ l may T x.2.1 N 0),bx 200 4 x.2.2 (lp l may T N).length ((lp l may T N).flatMap clC)]⟩
def oe(n:Nat)(l:List aM.Prod)(i:Nat):Nat:=eE (mS n l).E (BH n l) (bJ l (i:Int)).2 ((Ct n l).getD (bJ l (i:Int)).1.toNat 0)
section
variable{l:List aM.Prod}{may:Nat->Nat}{T:Nat}
theorem Gt(n col:Nat):∀(k:Nat) (out:List Cl),(vv l may T n col k out).length<=out.length+k
 |0,out=>by rw[vv];omega
 | k +1,out=>by
  have:=Gt n col k out;rw[vv];split
  ·split
   omega;rw[bK];simp;omega
  omega
theorem Gu(n:Nat):∀(c:Nat) (out:List Cl),(Af l may T n c out).length<=out.length+c*l.length
 |0,out=>by rw[Af];omega
 |c+1,out=>by
  have h1:=Gu n c out;have h2:=Gt (l:=l) (may:=may) (T:=T) n c l.length (Af l may T n c out);rw[Af,nM];omega
theorem Ov:∀(N:Nat),(lp l may T N).length<=N*((T+1)*l.length)
 |0=>by rw[lp];simp
 |N+1=>by
  have h1:=Ov N;have h2:=Gu (l:=l) (may:=may) (T:=T) N (T+1) (lp l may T N);rw[lp,nM];omega
end
theorem abr{g:dF}{n:Nat}(h_:cD g=0)(hn:g.bB=n):yE n (Ct n g.az):=by
 obtain⟨_,_,a3,_⟩:=cz h_;have hf:=wW h_ hn;have hF:=(KN h_ hn).2;have AX:=Qn (E:=(mS n g.az).E) hF hf;obtain⟨s',h1,h2,h3⟩:=q8 AX _ ((db n 0).set 0 9223372036854775808) ⟨by simp,fun x hx=>by
  rcases List.mem_or_eq_of_mem_set hx with h|h
  rw[List.eq_of_mem_replicate h];decide;rw[h];decide⟩ (aT _)
 obtain⟨_,h4,h5⟩:=vm _ _ _ h2;have h6:Ct n g.az=s':=by unfold Ct vV;rw[h3];exact h4
 rw[h6];exact h1
attribute [local irreducible] Op.shift Go.bits Instr.build in
set_option maxRecDepth 100000 in
theorem Li(v:Value)(g:dF)(w:World)(h:kw (fun k=>k<w.heap.size) w v g)(hg:cD g=0)(T N:Nat)(hT:g.aQ=T)(hN:g.bB=N):
    Calls aC 44 #[v] w (cJ (abq N T g.az (oe N g.az)) w):=by
  obtain⟨a1,a2,a3,a4,a5,a6⟩:=cz hg;have DB:=fun w' (yA:Gr w w')=>Al v g w' (h.gr yA) hg N hN;have hbe:∀body:List bX,body∈g.az.map (·.2)->vX g body=0/\∀b,C7 g body b=eE (mS N g.az).E (BH N g.az) body b:=fun body hb=>by
    obtain⟨p,hp,rfl⟩:=eI.1 hb;obtain⟨b1,b2,b3,b4⟩:=a6 p hp;have e:vX g p.2=0:=by
      unfold vX;rw[if_neg (by simpa using hg),if_neg J];exact KM b4
    refine⟨e,fun b=>?_⟩;unfold C7;rw[if_pos e,show g.bB.toNat=N by omega]
  have hBg:=fun vb body b w' (hg:Gr w w') hs=>sn v vb g body b w' (h.gr hg) hs;obtain⟨_,hF⟩:=KN hg hN;have hWW:=abr hg hN;have TE:=Gs hg hN;have Nj:oe N g.az=fun i:Nat=>eE (mS N g.az).E (BH N g.az) (bJ g.az (i:Int)).2 ((Ct N g.az).getD (bJ g.az (i:Int)).1.toNat 0):=rfl;have aj1:∀i,oe N g.az i<18446744073709551616:=fun i=>by
    refine pH hF (py hWW _) fun x hx h1=>?_
    by_cases c:i<g.az.length
    · rw[yD c]at hx
      have:=(a6 _ (bV c)).2.2.2 x hx;unfold right at this;rw[if_pos h1]at this;simp at this;omega
    unfold bJ at hx;rw[cX,bD,ii J]at hx
    cases hx
  generalize xp:oe N g.az=may at*;obtain⟨vp,rfl,h1,_⟩:=h;obtain⟨t,nn,az⟩:=g;dsimp only at*;subst hT hN;have h10:=h1;obtain⟨bp,cp,rfl,Qg,He,ow⟩:=h1;unfold maxLen at He;refine enter (args:=[dD (T:Int) (N:Int) (ak bp az.length cp)]) (n:=119) Tryz.func44 I I I ?_;refine bY (a_ (bQ I I I fun g1=>?_));refine zL ?_
  repeat(first|refine GA ?_|refine gV (aL (i:=0) aI.ty I I I) ?_)
  refine aW (kZ aF.en I I) (fun w' hm=>(DB w' hm.below).mono fun e w2 h=>Am h) I I I ?_;intro x _
  conv=>arg 8;simp only[zJ,dr,ret,id_eq,FJ.val]
  refine Et [0,3] ?_
  try refine GA ?_
  refine aY I fun g5=>?_;refine gG 2 ?_;refine zL ?_
  repeat(first|refine GA ?_|refine gV (aw aI.ty I (aE (i:=0) I I)) ?_)
  have hz:eS aC 114 #[ib 0]:=(inferInstance:eS aC 114 #[.int .u64 0]);refine lg ib 0 I I J J I fun g7=>?_;refine zL ?_
  repeat(first|refine GA ?_|refine gV (aw aI.ty I (aE (i:=0) I I)) ?_)
  refine lX (ι:=Nat) (fun k=>k<=az.length) (fun k=>[(1,aH (ah ⟨g1,0,aj⟩)),(5,aH (ah ⟨g5,0,aj⟩)),(7,ak (ah ⟨g7,0,aj⟩) az.length az.length),(30,ak bp az.length cp),(31,ap av az.length),(32,ap av (k:Int))])
    (fun k=>[aO g1 (dD (T:Int) (N:Int) (ak bp az.length cp)).cells 33,iJ N x.gW x.cW (Ct N az),aO g5 (kB (da N x.gE x.cE) (da N x.gF x.cF) (da N x.gW x.cW) (da N x.gR x.cR) (da N x.gM x.cM)).cells 104,dI 114 ib g7 az.length (fun j=>if j<k then may j else 0)]) (fun k=>az.length-k) 0 (bC _) (by repeat' (first|exact cY|refine cK I ?_)) (by rw[show(fun j=>if j<0 then may j else 0)=fun _=>0 from funext fun j=>if_neg J];rfl) ?_
  intro k k1
  by_cases c7:k<az.length
  · obtain⟨b,off,rfl,_,hr⟩:=ow J
    obtain⟨bb,cb,y1,y2,y3⟩:=lI hr c7;have eK:∀(L:List b9) (j:Nat) (v:Value),([ap av az[k].1,.slice bb az[k].2.length cb]:List Value)[j]?=ah v->At w L ⟨b,off+k*2+j,aj⟩ v:=fun L j v hj=>hJ (y1 j v hj);have AX:=y3.flat akV;obtain⟨b1,b2,b3,b4⟩:=a6 _ (bV c7);obtain⟨Ft,JX⟩:=hbe az[k].2 (eI.2 ⟨_,bV c7,rfl⟩);have Pc:may k=eE (mS N az).E (BH N az) az[k].2 ((Ct N az).getD az[k].1.toNat 0):=by rw[Nj];dsimp only;rw[yD c7]
    clear y1 y3 hr hbe ow;generalize az[k]=pd at*;obtain⟨hd,body⟩:=pd;dsimp only at*;obtain⟨hn,rfl⟩:∃hn:Nat,hd=hn:=⟨hd.toNat,by omega⟩;have hlt:hn<N:=by omega
    rw[cX]at Pc;have aj2:((Ct N az).map ib)[0+hn]?=ah (ib ((Ct N az).getD hn 0)):=by rw[cI];exact KH (by rw[hWW.1];exact hlt)
    have aj3:=py hWW hn;have hBg:=fun w' hg hs=>hBg (ak bb body.length cb) body ((Ct N az).getD hn 0) w' hg hs aj3;rw[Ft,JX,<-Pc]at hBg;generalize (Ct N az).getD hn 0=wv at*
    repeat(first|refine GA ?_|refine gV (aR bI.eq aI.ty I I c7) ?_|refine gV (aU aI.ty I I (eK _)) ?_)
    refine aY I fun g9=>?_
    try refine GA ?_
    refine gG 4 ?_;refine zL ?_
    try refine GA ?_
    refine dK ([aO g1 (dD (T:Int) (N:Int) (ak (ah ⟨b,off,aj⟩) az.length cp)).cells 33,iJ N x.gW x.cW (Ct N az),aO g5 (kB (da N x.gE x.cE) (da N x.gF x.cF) (da N x.gW x.cW) (da N x.gR x.cR) (da N x.gM x.cM)).cells 104,aO g9 #[ap av (hn:Int),ak bb body.length cb] 140]) (.calm 0 (.calm 1 (.calm 2 (.calm 3 (.calm 4 (.calm 5 (.calm 6 (.calm 7 (.calm 8 (.calm 9 (.calm 10 (.calm 11 (.calm 12 (.calm 13 (.calm 14 (.calm 15 (.one 16 (.done)))))))))))))))))) (bZ [0,1,2,4]) ?_
    repeat(first|refine GW ?_|(refine GN ?_;first|refine QW (aL (i:=0) aI.ty I I I) ?_|refine QW (aw aI.ty I (aE (i:=3) I I)) ?_|refine QW (aw aI.ty I (aE (i:=2) I I)) ?_|refine QW (a8 bI.eq aI.ty I I hlt) ?_|refine QW (aw aI.ty I (ku (i:=1) I aj2)) ?_))
    refine na I (ye aF.en I I I I) (fun w hm=>hBg _ hm.below (AX.gr hm.below)) I I I ?_
    repeat(first|refine GW ?_|(refine GN ?_;first|refine QW (a8 bI.eq aI.ty I I c7) ?_))
    refine aJ I ?_;refine eV (i:=3) (v:=may k) (fun j=>if j<k+1 then may j else 0) aI.ty I I I I I c7 (fun j _=>by
      by_cases e:j=k
      subst e;simp
      by_cases e2:j<k
      simp[e,e2,show j<k+1 by omega];simp[e,e2,show ¬j<k+1 by omega]) ?_
    refine zL ?_;refine aK (bZ [0,1,2,4]) ?_
    try refine GW ?_
    try refine GA ?_
    refine dv [0,1,2,3] ?_;exact bO (k+1) J J
  · obtain rfl:k=az.length:=by omega
    rw[show dI 114 ib g7 az.length (fun j=>if j<az.length then may j else 0)=dI 114 ib g7 az.length may from mA fun j hj=>if_pos hj];clear hBg hbe DB Nj
    repeat(first|refine GA ?_|refine gV (aw aI.ty I (aE (i:=0) I I)) ?_)
    refine lg wB (ak aj 0 0) I I J J I fun g10=>?_;refine zL ?_
    try refine GA ?_
    refine s7 [0,3,4] ?_;refine pv (ia (fun j=>j<N) (nJ az may T (fun _=>ak aj 0 0) 0 0)) (fun k hk=>hk.elim (fun h=>by cases h) fun⟨i,hi,h⟩=>h.elim (fun h=>by cases h) id) (fun w=>⟨fun i hi=>?_,fun i j _ _ _ k h=>h.elim (fun h=>by cases h) A2⟩) ?_
    · unfold nJ C'
      rw[if_neg J,ite_self];exact RC _ _ _ _
    refine jw 200 4 ?_;refine dU (ι:=Nat×(Nat->Value)×Value) (fun(n,_,_)=>n<=N) (fun(n,_,vo)=>[(1,aH (ah ⟨g1,0,aj⟩)),(7,ak (ah ⟨g7,0,aj⟩) az.length az.length),(10,ak (ah ⟨g10,0,aj⟩) N N),(11,vo),(58,ap av (N:Int)),(59,ap av (n:Int))])
      (fun(n,vs,vo)=>[aO g1 (dD (T:Int) (N:Int) (ak bp az.length cp)).cells 33,dI 114 ib g7 az.length may,dI 26 wB g10 N vs,ia (fun j=>j<N) (nJ az may T vs n 0),bx 200 4 vo (lp az may T n).length ((lp az may T n).flatMap clC)]) (fun(n,_,_)=>N-n) (0,fun _=>ak aj 0 0,ak aj 0 0) (bC _) ?_
    rintro⟨n,vs,vo⟩ n1;dsimp only at n1⊢
    by_cases c8:n<N
    · repeat(first|refine GC ?_|refine gV (aw aI.ty I (aE (i:=0) I I)) ?_|refine gV (dh (r:=((T+1:Nat):Int)) I I J J J) ?_|refine GB ?_)
      refine dU (ι:=Nat×(Nat->Value)×Value) (fun(c,_,_)=>c<=T+1) (fun(c,_,vo)=>[(1,aH (ah ⟨g1,0,aj⟩)),(7,ak (ah ⟨g7,0,aj⟩) az.length az.length),(10,ak (ah ⟨g10,0,aj⟩) N N),(11,vo),(12,ap av (n:Int)),(58,ap av (N:Int)),(59,ap av (n:Int)),(64,ap av ((T+1:Nat):Int)),(65,ap av (c:Int))])
        (fun(c,vs,vo)=>[aO g1 (dD (T:Int) (N:Int) (ak bp az.length cp)).cells 33,dI 114 ib g7 az.length may,dI 26 wB g10 N vs,ia (fun j=>j<N) (nJ az may T vs n c),bx 200 4 vo (Af az may T n c (lp az may T n)).length ((Af az may T n c (lp az may T n)).flatMap clC)]) (fun(c,_,_)=>T+1-c) (0,vs,vo) (bC _) ?_
      rintro⟨c,vs,vo⟩ cc;dsimp only at cc⊢
      by_cases c9:c<T+1
      · have akn:=Gu (l:=az) (may:=may) (T:=T) n c (lp az may T n)
        have ako:=Ov (l:=az) (may:=may) (T:=T) n;have hm1:c*az.length<=31*40:=rF J a5;have Hc:(T+1)*az.length<=31*40:=rF J a5;have hm3:n*((T+1)*az.length)<=20*(31*40):=rF J Hc;have aj4:lp az may T (n+1)=Af az may T n (T+1) (lp az may T n):=rfl;have aim:Af az may T n (c+1) (lp az may T n)=vv az may T n c az.length (Af az may T n c (lp az may T n)):=rfl;have hbc:Km T c<18446744073709551616:=by
          unfold Km;split
          decide
          exact Nat.lt_of_le_of_lt (Nat.pow_le_pow_right akV (show c<=30 by omega)) akV
        have Kp:=fun w=>WT T (N:Int) (ak bp az.length cp) c w J J ⟨_,_,_,rfl⟩;generalize Af az may T n c (lp az may T n)=AI at*
        repeat(first|refine GA ?_|refine gV (aw aI.ty I (aE (i:=0) I I)) ?_)
        refine dU (ι:=Nat×Value) (fun(k,_)=>k<=az.length) (fun(k,vo)=>[(1,aH (ah ⟨g1,0,aj⟩)),(7,ak (ah ⟨g7,0,aj⟩) az.length az.length),(10,ak (ah ⟨g10,0,aj⟩) N N),(11,vo),(12,ap av (n:Int)),(13,ap av (c:Int)),(14,ap av (fJ az may T n c k)),(58,ap av (N:Int)),(59,ap av (n:Int)),(64,ap av ((T+1:Nat):Int)),(65,ap av (c:Int)),(69,ak bp az.length cp),(70,ap av az.length),(71,ap av (k:Int))])
          (fun(k,vo)=>[aO g1 (dD (T:Int) (N:Int) (ak bp az.length cp)).cells 33,dI 114 ib g7 az.length may,dI 26 wB g10 N vs,ia (fun j=>j<N) (nJ az may T vs n c),bx 200 4 vo (vv az may T n c k AI).length ((vv az may T n c k AI).flatMap clC)]) (fun(k,_)=>az.length-k) (0,vo) (bC _) ?_
        rintro⟨k,vo⟩ kk;dsimp only at kk⊢
        by_cases ck:k<az.length
        · obtain⟨b,off,rfl,_,hr⟩:=ow J
          obtain⟨bb,cb,y1,y2,y3⟩:=lI hr ck;have eK:∀(L:List b9) (j:Nat) (v:Value),([ap av az[k].1,.slice bb az[k].2.length cb]:List Value)[j]?=ah v->At w L ⟨b,off+k*2+j,aj⟩ v:=fun L j v hj=>hJ (y1 j v hj);have hol:=Gt (l:=az) (may:=may) (T:=T) n c k AI;have hf:fJ az may T n c (k+1)=if fJ az may T n c k<0 then(if q_ az may T n c k=aB then(k:Int)else fJ az may T n c k)else fJ az may T n c k:=rfl
          have ho:vv az may T n c (k+1) AI=if q_ az may T n c k=aB then(if fJ az may T n c k<0 then vv az may T n c k AI else vv az may T n c k AI++[((n:Int),(c:Int),fJ az may T n c k,(k:Int))])else vv az may T n c k AI:=rfl
          have hcd:q_ az may T n c k=(decide (az[k].1=(n:Int))&&!decide ((may k&&&Km T c)=0)):=by unfold q_;rw[yD ck]
          have hand:=V_ (aj1 k) hbc;have hfk:=p6 (l:=az) (may:=may) (T:=T) n c k;clear y1 y3 hr ow;generalize az[k]=pd at*;obtain⟨hd,body⟩:=pd;dsimp only at*;generalize hzz:may k&&&Km T c=z at*;generalize fJ az may T n c k=fk at*;generalize vv az may T n c k AI=ok at*
          repeat(first|refine GA ?_|refine gV (aR bI.eq aI.ty I I ck) ?_|refine gV (aU aI.ty I I (eK _)) ?_)
          refine aY I fun g16=>?_
          try refine GA ?_
          refine gG 5 ?_;refine zL ?_
          try refine GA ?_
          refine dK ([aO g1 (dD (T:Int) (N:Int) (ak (ah ⟨b,off,aj⟩) az.length cp)).cells 33,dI 114 ib g7 az.length may,aO g16 #[ap av hd,ak bb body.length cb] 140]) (.calm 0 (.calm 1 (.calm 2 (.calm 3 (.calm 4 (.calm 5 (.calm 6 (.calm 7 (.calm 8 (.calm 9 (.calm 10 (.calm 11 (.calm 12 (.calm 13 (.calm 14 (.calm 15 (.done))))))))))))))))) (bZ [0,1,5]) ?_
          by_cases e1:hd=(n:Int)
          · by_cases e2:z=0
            · rw[decide_eq_true e1,decide_eq_true e2]at hcd
              rw[hcd]at hf ho;simp only[Bool.not_true,Bool.and_false,aaP,if_false,ite_self]at hf ho
              repeat(first|refine GW ?_|(refine GN ?_;first|refine QW (aw aI.ty I (aE (i:=2) I I)) ?_|refine QW (a8 bI.eq aI.ty I I ck) ?_|refine QW (aw aI.ty I (eG (i:=1) I ck)) ?_|refine QW (aL (i:=0) aI.ty I I I) ?_))
              refine Mp I (fP aF.en I I I) (fun w hm=>Kp _) I I I I I ?_
              repeat(first|refine GW ?_|(refine GN ?_;first|refine QW (nR I I hand) ?_))
              try refine GA ?_
              refine dv [0,1,2,3,4] ?_;exact iU (k+1,vo) (by show k+1<=az.length;omega) (by show az.length-(k+1)<az.length-k;omega) (by dsimp only;rw[hf];repeat' (first|exact cY|refine cK I ?_)) (by dsimp only;rw[ho];rfl)
            rw[decide_eq_true e1,decide_eq_false e2]at hcd;rw[hcd]at hf ho;simp only[Bool.not_false,Bool.and_true,if_true]at hf ho
            repeat(first|refine GW ?_|(refine GN ?_;first|refine QW (aw aI.ty I (aE (i:=2) I I)) ?_|refine QW (a8 bI.eq aI.ty I I ck) ?_|refine QW (aw aI.ty I (eG (i:=1) I ck)) ?_|refine QW (aL (i:=0) aI.ty I I I) ?_))
            refine Mp I (fP aF.en I I I) (fun w hm=>Kp _) I I I I I ?_
            repeat(first|refine GW ?_|(refine GN ?_;first|refine QW (nR I I hand) ?_))
            by_cases e3:fk<0
            · rw[if_pos e3]at hf ho
              try refine GA ?_
              refine dv [0,1,2,3,4] ?_;exact iU (k+1,vo) (by show k+1<=az.length;omega) (by show az.length-(k+1)<az.length-k;omega) (by dsimp only;rw[hf];repeat' (first|exact cY|refine cK I ?_)) (by dsimp only;rw[ho];rfl)
            rw[if_neg e3]at hf ho
            repeat(first|refine GA ?_|refine gV (bz I (abp _ _ _ _)) ?_)
            refine k7 (i:=4) I I I I I I I (fun z h=>by cases h;rfl) J J I fun z' v2=>?_;refine zL ?_
            try refine GA ?_
            refine dv [0,1,2,3,4] ?_;exact iU (k+1,v2) (by show k+1<=az.length;omega) (by show az.length-(k+1)<az.length-k;omega) (by dsimp only;rw[hf];repeat' (first|exact cY|refine cK I ?_)) (by dsimp only;rw[ho,fH,bK];rfl)
          rw[decide_eq_false e1]at hcd;rw[hcd]at hf ho;simp only[K6,aaP,if_false,ite_self]at hf ho
          repeat(first|refine GW ?_|(refine GN ?_;first|refine QW (aw aI.ty I (aE (i:=2) I I)) ?_))
          try refine GA ?_
          refine dv [0,1,2,3,4] ?_;exact iU (k+1,vo) (by show k+1<=az.length;omega) (by show az.length-(k+1)<az.length-k;omega) (by dsimp only;rw[hf];repeat' (first|exact cY|refine cK I ?_)) (by dsimp only;rw[ho];rfl)
        obtain rfl:k=az.length:=by omega
        rw[<-aim];have hra:fJ az may T n c az.length=wZ.rowAt az may T n c:=rfl;rw[hra];clear aim aj4 hra;have hcn:nJ az may T vs n c n=bx 3 1 (vs n) c ((lH c (wZ.rowAt az may T n)).map agS):=by
          unfold nJ C';rw[if_neg (wt n),if_pos I]
        repeat(first|refine GA ?_|refine gV (a8 bI.eq aI.ty I I c8) ?_|refine gV (aw aI.ty I (eG (i:=2) I c8)) ?_)
        refine Ka (q:=3) n I c8 ?_;rw[hcn];refine zL ?_;refine SZ [ap av (wZ.rowAt az may T n c)] I I I (by intro v hv;simp at hv;subst hv;rfl) I I fun akM=>?_;refine zL ?_;refine ma (i:=5) (q:=6) I I I I I I J J I fun v3=>?_;refine zL ?_;refine aV (i:=5) I fun jM nG=>?_
        repeat(first|refine GA ?_|refine gV (a8 bI.eq aI.ty I I c8) ?_)
        refine eV (i:=2) (v:=v3) (fun j=>if j=n then v3 else vs j) aI.ty I I I jM nG c8 (fun j _=>rfl) ?_;refine zL ?_;refine Qd (D':=fun j=>j<N) (f':=nJ az may T (fun j=>if j=n then v3 else vs j) n (c+1)) n 3 5 [0,1,2,4] akV I I I (fun h=>h.2 I) (fun j hj=>by
          by_cases e:j=n
          exact .inr e;exact .inl ⟨hj,e⟩) (fun j hj=>by
          by_cases e:j=n
          · subst e
            rw[yz];unfold nJ C';rw[if_neg (wt j),if_pos I];dsimp only;rw[if_pos I]
            congr 1
            unfold lH;rw[yR,eb,eb];rfl
          rw[yy e];have:C' T n (c+1) j=C' T n c j:=by unfold C';rw[if_neg e,if_neg e]
          unfold nJ;rw[this];dsimp only;rw[if_neg e]) ?_
        refine zL ?_;refine Et [0,1,2,4,3] ?_
        try refine GA ?_
        exact bO (c+1,fun j=>if j=n then v3 else vs j,vo) (by show c+1<=T+1;omega) (by show T+1-(c+1)<T+1-c;omega)
      obtain rfl:c=T+1:=by omega
      have aj5:nJ az may T vs n (T+1)=nJ az may T vs (n+1) 0:=funext fun j=>by
        have:C' T n (T+1) j=C' T (n+1) 0 j:=by
          unfold C'
          by_cases e:j<n
          rw[if_pos e,if_pos J];rw[if_neg e]
          by_cases e2:j=n
          rw[if_pos e2,if_pos J];rw[if_neg e2,if_neg J,ite_self]
        unfold nJ;rw[this]
      try refine GA ?_
      exact bO (n+1,vs,vo) (by show n+1<=N;omega) (by show N-(n+1)<N-n;omega) (hl:=by rw[aj5];rfl)
    obtain rfl:n=N:=by omega
    try refine GA ?_
    exact m_ I I I I fun w hm=>hm.meets (S:=abq n T az may) (g10,vs,vo) trivial [2,3,4] akV I
end cg
namespace cg
open Go.RowKit cT ey aM dN dx bP c_
def lP(x:bP.Act):List Value:=[ap av x.1,ap av x.2]
theorem sA(x:bP.Act):(lP x).length=2:=rfl
def gD(l:List aM.Prod)(T:Nat)(nx:List Int)(t:Nat)(s:List bP.Item)(c:Nat):List bP.Act:=(if c<t/\0<=nx.getD c 0 then [(1,nx.getD c 0)]else [])++s.filterMap (wg l c)
theorem Jb{l:List aM.Prod}{T:Nat}{nx:List Int}{s:List bP.Item}{c:Nat}:gD l T nx T s c=jz l T s nx c:=rfl
def pg(vs:Nat->Value)(A:Nat->List bP.Act)(j:Nat):b9:=bx 94 2 (vs j) (A j).length ((A j).flatMap lP)
def Ow(T:Nat)(A:Nat->List bP.Act):Spec (Nat×(Nat->Value)):=⟨fun _=>True,fun x=>ak (ah ⟨x.1,0,aj⟩) (T+1) (T+1),fun x=>[dI 92 wB x.1 (T+1) x.2,ia (fun j=>j<T+1) (pg x.2 A)]⟩
theorem R8(n:Int)(w:World):(dm 94 #[(0,ap av 1),(1,ap av n)]).run aC w= .ok (aP (lP (1,n)).toArray) w:=by kernel_rfl
theorem R9(n:Int)(w:World):(dm 94 #[(0,ap av 2),(1,ap av n)]).run aC w= .ok (aP (lP (2,n)).toArray) w:=by kernel_rfl
theorem R_(w:World):(dm 94 #[(0,ap av 3)]).run aC w= .ok (aP (lP (3,0)).toArray) w:=by kernel_rfl
theorem BZ{l:List aM.Prod}{T:Nat}{nx:List Int}{t:Nat}{s:List bP.Item}{c:Nat}:(gD l T nx t s c).length<=1+s.length:=by
 unfold gD;rw[bK];have:=List.length_filterMap_le (wg l c) s;split;rw[nT];omega;rw[nU];omega
theorem Lj(v:Value)(g:dF)(T:Nat)(K':g.aQ=(T:Int))(hT:T<=30)(bS oS lS cS bN oN lN cN n:Nat)(oJ vn1:Value)(s:List bP.Item)(nx:List Int)(w:World)(hG:kw (fun k=>k<w.heap.size) w v g)(xF:g.az.length<=40)(hnS:n<lS)(hcS:w.cell? ⟨bS,oS+n,aj⟩=ah oJ)(Dp:Sl w oJ s.length (s.flatMap iT))(hnN:n<lN)(hcN:w.cell? ⟨bN,oN+n,aj⟩=ah vn1)(hn1:Sl w vn1 nx.length (nx.map (ap .i64)))(hnl:T<=nx.length)(hr:∀it∈s,eg g.az T it)(vD:s.length<=20000)(_:n<=1000000):
 Calls aC 87 #[v,aP #[ak (ah ⟨bS,oS,aj⟩) lS cS,ak (ah ⟨bN,oN,aj⟩) lN cN],ap av (n:Int)] w (cJ (Ow T (jz g.az T s nx)) w):=by
 obtain⟨vp,rfl,hp,-,-⟩:=hG;obtain⟨bp,cp,rfl,Qg,He,ow⟩:=hp;obtain⟨bs,cs,rfl,-,hmS,hrS⟩:=Dp;obtain⟨bn,cn,rfl,-,hmN,hrN⟩:=hn1;unfold maxLen at hmS hmN;rw[K'];have Ft:=R8;have JX:=R9;have hb3:=R_;refine enter (args:=[dD (T:Int) g.bB (ak bp g.az.length cp),aP #[ak (ah ⟨bS,oS,aj⟩) lS cS,ak (ah ⟨bN,oN,aj⟩) lN cN],ap av (n:Int)]) (n:=113) Tryz.func87 I I I ?_;refine bY (a_ (bQ I I I fun g3=>?_));refine zL ?_;refine bQ I I I fun g4=>?_;refine zL ?_
 repeat(first|refine GC ?_|refine gV (aw (v:=ap av (T:Int)) aI.ty I (aE (i:=0) I I)) ?_|refine gV (dh (r:=((T+1:Nat):Int)) I I J J J) ?_|refine GB ?_)
 refine lg (m:=T+1) wB (ak aj 0 0) I I J J I fun g7=>?_;refine zL ?_
 repeat(first|refine GA ?_|refine gV (aw (v:=ap av (T:Int)) aI.ty I (aE (i:=0) I I)) ?_)
 refine pv (ia (fun j=>j<T+1) (pg (fun _=>ak aj 0 0) (gD g.az T nx 0 []))) (fun k hk=>hk.elim (fun h=>by cases h) fun⟨i,hi,h⟩=>h.elim (fun h=>by cases h) id) (fun w=>⟨fun i hi=>?_,fun i j _ _ _ k h=>h.elim (fun h=>by cases h) A2⟩) ?_
 ·unfold pg gD
  rw[if_neg J];exact RC _ _ _ _
 conv=>arg 7;simp only[zA,zB,zC,zD,zE,zF,zG,zH,zI,dr,ret,id_eq]
 refine dU (ι:=Nat×(Nat->Value)) (fun(t,_)=>t<=T) (fun(t,_)=>[(2,ap av (n:Int)),(3,aH (ah ⟨g3,0,aj⟩)),(4,aH (ah ⟨g4,0,aj⟩)),(7,ak (ah ⟨g7,0,aj⟩) (T+1) (T+1)),(17,ap av (T:Int)),(18,ap av (t:Int))])
  (fun(t,vs)=>[aO g3 (dD (T:Int) g.bB (ak bp g.az.length cp)).cells 33,aO g4 (aP #[ak (ah ⟨bS,oS,aj⟩) lS cS,ak (ah ⟨bN,oN,aj⟩) lN cN]).cells 203,dI 92 wB g7 (T+1) vs,ia (fun j=>j<T+1) (pg vs (gD g.az T nx t []))]) (fun(t,_)=>T-t) (0,fun _=>ak aj 0 0) (bC _) ?_
 rintro⟨t,vs⟩ i1;dsimp only at i1⊢
 by_cases c1:t<T
 ·obtain⟨b,off,rfl,fZ⟩:=hrN J
  have hny:(nx.map (ap .i64))[t]?=ah (ap av (nx.getD t 0)):=by
   rw[eQ,bD,bm J];rfl
  have eK:=fun(L:List b9)=>jp (W:=w) (L:=L) fZ hny;have htl:t<nx.length:=by omega
  have Sa:∀j,j≠t->gD g.az T nx (t+1) [] j=gD g.az T nx t [] j:=fun j hj=>by
   unfold gD;have:(j<t+1/\0<=nx.getD j 0)↔(j<t/\0<=nx.getD j 0):=by constructor<;>(rintro⟨h1,h2⟩;exact⟨by omega,h2⟩)
   simp only[this]
  have CG:gD g.az T nx (t+1) [] t=if 0<=nx.getD t 0 then [(1,nx.getD t 0)]else []:=by
   unfold gD
   by_cases c:0<=nx.getD t 0
   rw[if_pos ⟨o_ t,c⟩,if_pos c];rfl;rw[if_neg (fun h=>c h.2),if_neg c];rfl
  have abt:gD g.az T nx t [] t=[]:=by unfold gD;rw[if_neg (fun h=>wt t h.1)];rfl
  generalize nx.getD t 0=y at*
  repeat(first|refine GA ?_|refine gV (aw (v:=ak (ah ⟨bN,oN,aj⟩) lN cN) aI.ty I (aE (i:=1) I I)) ?_|refine gV (a8 bI.eq aI.ty I I hnN) ?_|refine gV (aw (v:=ak (ah ⟨b,off,aj⟩) nx.length cn) aI.ty I (hJ hcN)) ?_|refine gV (a8 bI.eq aI.ty I I htl) ?_|refine gV (aw (v:=ap av y) aI.ty I (eK _)) ?_)
  by_cases c2:0<=y
  ·rw[if_pos c2]at CG
   repeat(first|refine GC ?_|refine gV (fx (b:=aB) I I (decide_eq_true c2)) ?_|refine gV (a8 bI.eq aI.ty I I (show t<T+1 by omega)) ?_|refine gV (aw aI.ty I (eG (i:=2) I (show t<T+1 by omega))) ?_|refine gV (bz I (Ft _)) ?_|refine GB ?_)
   refine Ka (q:=3) t I (show t<T+1 by omega) ?_;have hFt:pg vs (gD g.az T nx t []) t=bx 94 2 (vs t) 0 []:=by unfold pg;rw[abt];rfl
   rw[hFt];refine zL ?_;refine k7 (i:=4) I I I I I I I (fun z h=>by cases h;rfl) J J I fun z v3=>?_;refine zL ?_
   repeat(first|refine GA ?_|refine gV (a8 bI.eq aI.ty I I (show t<T+1 by omega)) ?_)
   refine aV (i:=4) I fun jM nG=>?_;refine eV (i:=2) (v:=v3) (fun j=>if j=t then v3 else vs j) aI.ty I I I jM nG (show t<T+1 by omega) (fun j _=>rfl) ?_;refine zL ?_;refine Qd (D':=fun j=>j<T+1) (f':=pg (fun j=>if j=t then v3 else vs j) (gD g.az T nx (t+1) [])) t 3 4 [0,1,2] akV I I I (fun h=>h.2 I) (fun j hj=>by
    by_cases e:j=t
    exact .inr e;exact .inl ⟨hj,e⟩) (fun j hj=>by
    by_cases e:j=t
    ·subst e
     rw[yz];unfold pg;dsimp only;rw[CG,if_pos I];rfl
    rw[yy e];unfold pg;dsimp only;rw[Sa j e,if_neg e]) ?_
   refine zL ?_
   try refine GA ?_
   exact bO (t+1,fun j=>if j=t then v3 else vs j) (by show t+1<=T;omega) (by show T-(t+1)<T-t;omega)
  rw[if_neg c2]at CG;have tZ:gD g.az T nx (t+1) []=gD g.az T nx t []:=funext fun j=>by
   by_cases e:j=t
   subst e;rw[CG,abt];exact Sa j e
  repeat(first|refine GC ?_|refine gV (fx (b:=aD) I I (decide_eq_false c2)) ?_|refine GB ?_)
  exact bO (t+1,vs) (by show t+1<=T;omega) (by show T-(t+1)<T-t;omega) (hl:=by dsimp only;rw[tZ])
 obtain rfl:t=T:=by omega
 repeat(first|refine GA ?_|refine gV (aw (v:=ak (ah ⟨bS,oS,aj⟩) lS cS) aI.ty I (aE (i:=1) I I)) ?_|refine gV (a8 bI.eq aI.ty I I hnS) ?_|refine gV (aw (v:=ak bs s.length cs) aI.ty I (hJ hcS)) ?_)
 refine dU (ι:=Nat×(Nat->Value)) (fun(k,_)=>k<=s.length) (fun(k,_)=>[(3,aH (ah ⟨g3,0,aj⟩)),(7,ak (ah ⟨g7,0,aj⟩) (t+1) (t+1)),(47,ak bs s.length cs),(48,ap av (s.length:Int)),(49,ap av (k:Int))])
  (fun(k,vs)=>[aO g3 (dD (t:Int) g.bB (ak bp g.az.length cp)).cells 33,aO g4 (aP #[ak (ah ⟨bS,oS,aj⟩) lS cS,ak (ah ⟨bN,oN,aj⟩) lN cN]).cells 203,dI 92 wB g7 (t+1) vs,ia (fun j=>j<t+1) (pg vs (gD g.az t nx t (s.take k)))]) (fun(k,_)=>s.length-k) (0,vs) (bC _) ?_
 rintro⟨k,vs⟩ j1;dsimp only at j1⊢;clear Ft
 by_cases c2:k<s.length
 ·obtain⟨b,off,rfl,fZ⟩:=hrS J
  have eK:=fun(L:List b9)=>hU (L:=L) mi fZ c2;have FV:∀(L:List b9) (j:Nat) (u:Value),(iT s[k])[j]?=ah u->At (w:b_) L ⟨b,off+k*3+j,aj⟩ u:=eK;clear eK fZ hrS;have hxr:=hr s[k] (bV c2);have NP:s.take (k+1)=s.take k++[s[k]]:=ir c2;have rv:∀c,gD g.az t nx t (s.take (k+1)) c=gD g.az t nx t (s.take k) c++(match wg g.az c s[k]with|some x=>[x]|none=>[]):=fun c=>by
   rw[NP];unfold gD;rw[List.filterMap_append,<-dL]
   congr 1
   rw[List.filterMap_cons]
   cases wg g.az c s[k]<;>rfl
  have hlen:∀c,(gD g.az t nx t (s.take k) c).length<=20001:=fun c=>eC BZ (by rw[gZ];omega);generalize hit:s[k]=it at*;obtain⟨p,d,lo⟩:=it;obtain⟨r1,r2,r3,r4,r5,r6⟩:=hxr;dsimp only at r1 r2 r3 r4 r5 r6;obtain⟨pn,rfl⟩:=fz r1;obtain⟨dn,rfl⟩:=fz r3;obtain⟨ln,rfl⟩:=fz r5;have IS:ln<t+1:=by omega
  have Sa:∀j,j≠ln->gD g.az t nx t (s.take (k+1)) j=gD g.az t nx t (s.take k) j:=fun j hj=>by
   rw[rv j];have:wg g.az j ((pn:Int),(dn:Int),(ln:Int))=none:=by
    unfold wg;rw[if_pos (by show(ln:Int)≠(j:Int);omega)]
   rw[this,dQ]
  have qo:=rv ln;unfold wg at qo;rw[if_neg (by show ¬(ln:Int)≠(ln:Int);simp)]at qo;dsimp only at qo;clear rv NP
  repeat(first|refine GA ?_|refine gV (aR bI.eq aI.ty I I c2) ?_|refine gV (aU (cs:=iT ((pn:Int),(dn:Int),(ln:Int))) aI.ty I I (FV _)) ?_)
  refine aY I fun g11=>?_;refine zL ?_;refine gG 4 (cs':=(iT ((pn:Int),(dn:Int),(ln:Int))).toArray) ?_;refine zL ?_;have hFt:pg vs (gD g.az t nx t (s.take k)) ln=bx 94 2 (vs ln) (gD g.az t nx t (s.take k) ln).length ((gD g.az t nx t (s.take k) ln).flatMap lP):=rfl;have Ve:=hlen ln
  by_cases q1:pn=g.az.length
  ·subst q1
   by_cases q2:dn=1
   ·subst q2
    have CG:gD g.az t nx t (s.take (k+1)) ln=gD g.az t nx t (s.take k) ln++[(3,0)]:=by
     rw[if_pos ⟨rfl,rfl⟩]at qo;exact qo
    repeat(first|refine GA ?_|refine gV (aw (v:=ap av (g.az.length:Int)) aI.ty I (aE (i:=4) I I)) ?_|refine gV (aw (v:=ak bp g.az.length cp) aI.ty I (aE (i:=0) I I)) ?_|refine gV (aw (v:=ap av 1) aI.ty I (aE (i:=4) I I)) ?_)
    refine Qc (q:=3) ln I IS ?_;rw[hFt]
    conv=>arg 7;simp only[zA,zB,zC,zD,zE,zF,zG,zH,zI,dr,ret,id_eq]
    refine dK ([aO g11 (iT ((g.az.length:Int),1,(ln:Int))).toArray 278]) (.calm 0 (.calm 1 (.calm 2 (.calm 3 (.calm 4 (.calm 5 (.calm 6 (.calm 8 (.two 7 (.one 9 (.one 10 (.calm 11 (.one 12 (.done))))) 9 (.one 7 (.one 10 (.calm 11 (.one 12 (.done)))))))))))))) (bZ [4]) ?_
    repeat(first|refine GW ?_|(refine GN ?_;first|refine QW (aw (v:=ap av (ln:Int)) aI.ty I (aE (i:=0) I I)) ?_|refine QW (a8 bI.eq aI.ty I I IS) ?_|refine QW (bz I hb3) ?_))
    refine fe I I ?ain ?aio
    case' ain=>
     refine dC (aw aI.ty I (eG (i:=2) I IS)) I I I (aK (bZ [4]) ?_);refine aJ I (gI (cs:=(lP (3,0)).toArray) I I I I I fun g74=>aK (bZ [4]) ?_)
    case' aio=>
     refine gI (cs:=(lP (3,0)).toArray) I I I I I fun g74=>aK (bZ [4]) ?_;refine aJ I (dC (aw aI.ty I (eG (i:=2) I IS)) I I I (aK (bZ [4]) ?_))
    all_goals
     refine aJ I (oq (i:=5) (q:=6) I I I I I I J J I fun v3=>aK (bZ [4]) ?_)
     repeat(first|refine GW ?_|(refine GN ?_;first|refine QW (a8 bI.eq aI.ty I I IS) ?_))
     refine aJ I (aV (i:=5) I fun jM nG=>eV (i:=2) (v:=v3) (fun j=>if j=ln then v3 else vs j) aI.ty I I I jM nG IS (fun j _=>rfl) (aK (bZ [4]) ?_))
     try refine GW ?_
     refine MG (D':=fun j=>j<t+1) (f':=pg (fun j=>if j=ln then v3 else vs j) (gD g.az t nx t (s.take (k+1)))) ln 3 5 [0,1,2] akV I I I (fun h=>h.2 I) (fun j hj=>by
      by_cases e:j=ln
      exact .inr e;exact .inl ⟨hj,e⟩) (fun j hj=>by
      by_cases e:j=ln
      ·subst e
       rw[yz];unfold pg;dsimp only;rw[CG,if_pos I,bK,fH];rfl
      rw[yy e];unfold pg;dsimp only;rw[Sa j e,if_neg e]) ?_
     try refine GA ?_
     exact bO (k+1,fun j=>if j=ln then v3 else vs j) (by show k+1<=s.length;omega) (by show s.length-(k+1)<s.length-k;omega)
   have tZ:gD g.az t nx t (s.take (k+1))=gD g.az t nx t (s.take k):=funext fun j=>by
    by_cases e:j=ln
    ·subst e
     rw[if_neg (fun h=>q2 (by have:=h.2;omega)),if_neg (fun h=>by have:=h.1;omega)]at qo;rw[qo];exact dQ _
    exact Sa j e
   repeat(first|refine GA ?_|refine gV (aw (v:=ap av (g.az.length:Int)) aI.ty I (aE (i:=4) I I)) ?_|refine gV (aw (v:=ak bp g.az.length cp) aI.ty I (aE (i:=0) I I)) ?_|refine gV (aw (v:=ap av (dn:Int)) aI.ty I (aE (i:=4) I I)) ?_)
   refine dK ([aO g3 (dD (t:Int) g.bB (ak bp g.az.length cp)).cells 33,aO g11 (iT ((g.az.length:Int),(dn:Int),(ln:Int))).toArray 278]) (.calm 0 (.calm 1 (.calm 2 (.calm 3 (.calm 4 (.calm 5 (.calm 6 (.calm 7 (.calm 8 (.calm 9 (.calm 10 (.calm 11 (.calm 12 (.calm 13 (.calm 14 (.calm 15 (.calm 16 (.calm 17 (.calm 18 (.calm 19 (.done))))))))))))))))))))) (bZ [0,4]) ?_
   repeat(first|refine GW ?_|(refine GN ?_;first|refine QW (aw (v:=ap av (g.az.length:Int)) aI.ty I (aE (i:=1) I I)) ?_|refine QW (aw (v:=ak bp g.az.length cp) aI.ty I (aE (i:=0) I I)) ?_))
   try refine GA ?_
   refine dv [0,1,2,3] ?_;exact bO (k+1,vs) (by show k+1<=s.length;omega) (by show s.length-(k+1)<s.length-k;omega) (hl:=by dsimp only;rw[tZ];rfl)
  have hpn:pn<g.az.length:=by omega
  obtain⟨pb,po,rfl,hFb,hpr⟩:=ow J;obtain⟨bb,cb,hq1,hq2,hq3⟩:=lI hpr hpn;have hpg:g.az[pn]=bJ g.az (pn:Int):=by
   unfold bJ;rw[cX,bD,bm hpn];rfl
  rw[hpg]at hq1 hq2 hq3;have aip:∀(L:List b9) (j:Nat) (v:Value),([ap av (bJ g.az (pn:Int)).1,ak bb (bJ g.az (pn:Int)).2.length cb]:List Value)[j]?=ah v->At w L ⟨pb,po+pn*2+j,aj⟩ v:=fun L j v hj=>jp hq1 hj;clear hpr ow hq1 hq3
  by_cases q2:dn=(bJ g.az (pn:Int)).2.length
  ·subst q2
   have CG:gD g.az t nx t (s.take (k+1)) ln=gD g.az t nx t (s.take k) ln++[(2,(pn:Int))]:=by
    rw[if_neg (fun h=>q1 (by have:=h.1;omega)),if_pos ⟨by omega,rfl⟩]at qo;exact qo
   repeat(first|refine GA ?_|refine gV (aw (v:=ap av (pn:Int)) aI.ty I (aE (i:=4) I I)) ?_|refine gV (aw (v:=ak (ah ⟨pb,po,aj⟩) g.az.length cp) aI.ty I (aE (i:=0) I I)) ?_)
   refine dK ([aO g3 (dD (t:Int) g.bB (ak (ah ⟨pb,po,aj⟩) g.az.length cp)).cells 33,aO g11 (iT ((pn:Int),((bJ g.az (pn:Int)).2.length:Int),(ln:Int))).toArray 278]) (.calm 0 (.calm 1 (.calm 2 (.calm 3 (.calm 4 (.calm 5 (.calm 6 (.calm 7 (.calm 8 (.calm 9 (.calm 10 (.calm 11 (.calm 12 (.calm 13 (.calm 14 (.calm 15 (.calm 16 (.calm 17 (.calm 18 (.calm 19 (.done))))))))))))))))))))) (bZ [0,4]) ?_
   repeat(first|refine GW ?_|(refine GN ?_;first|refine QW (aw (v:=ap av (pn:Int)) aI.ty I (aE (i:=1) I I)) ?_|refine QW (aw (v:=ap av ((bJ g.az (pn:Int)).2.length:Int)) aI.ty I (aE (i:=1) I I)) ?_|refine QW (aw (v:=ak (ah ⟨pb,po,aj⟩) g.az.length cp) aI.ty I (aE (i:=0) I I)) ?_|refine QW (aR bI.eq aI.ty I I hpn) ?_|refine QW (aw (v:=ak bb (bJ g.az (pn:Int)).2.length cb) aI.ty I (aip _ 1 _ I)) ?_))
   try refine GA ?_
   refine Qc (q:=3) ln I IS ?_;rw[hFt]
   conv=>arg 7;simp only[zA,zB,zC,zD,zE,zF,zG,zH,zI,dr,ret,id_eq]
   refine dK ([aO g11 (iT ((pn:Int),((bJ g.az (pn:Int)).2.length:Int),(ln:Int))).toArray 278]) (.calm 0 (.calm 1 (.calm 2 (.calm 3 (.calm 4 (.calm 5 (.calm 6 (.calm 8 (.calm 9 (.calm 10 (.two 7 (.one 11 (.one 12 (.calm 13 (.one 14 (.done))))) 11 (.one 7 (.one 12 (.calm 13 (.one 14 (.done)))))))))))))))) (bZ [4]) ?_
   repeat(first|refine GW ?_|(refine GN ?_;first|refine QW (aw (v:=ap av (ln:Int)) aI.ty I (aE (i:=0) I I)) ?_|refine QW (aw (v:=ap av (pn:Int)) aI.ty I (aE (i:=0) I I)) ?_|refine QW (a8 bI.eq aI.ty I I IS) ?_|refine QW (bz I (JX _)) ?_))
   refine fe I I ?aiq ?air
   case' aiq=>
    refine dC (aw aI.ty I (eG (i:=2) I IS)) I I I (aK (bZ [4]) ?_);refine aJ I (gI (cs:=(lP (2,(pn:Int))).toArray) I I I I I fun g74=>aK (bZ [4]) ?_)
   case' air=>
    refine gI (cs:=(lP (2,(pn:Int))).toArray) I I I I I fun g74=>aK (bZ [4]) ?_;refine aJ I (dC (aw aI.ty I (eG (i:=2) I IS)) I I I (aK (bZ [4]) ?_))
   all_goals
    refine aJ I (oq (i:=5) (q:=6) I I I I I I J J I fun v3=>aK (bZ [4]) ?_)
    repeat(first|refine GW ?_|(refine GN ?_;first|refine QW (a8 bI.eq aI.ty I I IS) ?_))
    refine aJ I (aV (i:=5) I fun jM nG=>eV (i:=2) (v:=v3) (fun j=>if j=ln then v3 else vs j) aI.ty I I I jM nG IS (fun j _=>rfl) (aK (bZ [4]) ?_))
    try refine GW ?_
    refine MG (D':=fun j=>j<t+1) (f':=pg (fun j=>if j=ln then v3 else vs j) (gD g.az t nx t (s.take (k+1)))) ln 3 5 [0,1,2] akV I I I (fun h=>h.2 I) (fun j hj=>by
     by_cases e:j=ln
     exact .inr e;exact .inl ⟨hj,e⟩) (fun j hj=>by
     by_cases e:j=ln
     ·subst e
      rw[yz];unfold pg;dsimp only;rw[CG,if_pos I,bK,fH];rfl
     rw[yy e];unfold pg;dsimp only;rw[Sa j e,if_neg e]) ?_
    try refine GA ?_
    exact bO (k+1,fun j=>if j=ln then v3 else vs j) (by show k+1<=s.length;omega) (by show s.length-(k+1)<s.length-k;omega)
  have tZ:gD g.az t nx t (s.take (k+1))=gD g.az t nx t (s.take k):=funext fun j=>by
   by_cases e:j=ln
   ·subst e
    rw[if_neg (fun h=>q1 (by have:=h.1;omega)),if_neg (fun h=>q2 (by have:=h.2;omega))]at qo;rw[qo];exact dQ _
   exact Sa j e
  repeat(first|refine GA ?_|refine gV (aw (v:=ap av (pn:Int)) aI.ty I (aE (i:=4) I I)) ?_|refine gV (aw (v:=ak (ah ⟨pb,po,aj⟩) g.az.length cp) aI.ty I (aE (i:=0) I I)) ?_)
  refine dK ([aO g3 (dD (t:Int) g.bB (ak (ah ⟨pb,po,aj⟩) g.az.length cp)).cells 33,aO g11 (iT ((pn:Int),(dn:Int),(ln:Int))).toArray 278]) (.calm 0 (.calm 1 (.calm 2 (.calm 3 (.calm 4 (.calm 5 (.calm 6 (.calm 7 (.calm 8 (.calm 9 (.calm 10 (.calm 11 (.calm 12 (.calm 13 (.calm 14 (.calm 15 (.calm 16 (.calm 17 (.calm 18 (.calm 19 (.done))))))))))))))))))))) (bZ [0,4]) ?_
  repeat(first|refine GW ?_|(refine GN ?_;first|refine QW (aw (v:=ap av (pn:Int)) aI.ty I (aE (i:=1) I I)) ?_|refine QW (aw (v:=ap av (dn:Int)) aI.ty I (aE (i:=1) I I)) ?_|refine QW (aw (v:=ak (ah ⟨pb,po,aj⟩) g.az.length cp) aI.ty I (aE (i:=0) I I)) ?_|refine QW (aR bI.eq aI.ty I I hpn) ?_|refine QW (aw (v:=ak bb (bJ g.az (pn:Int)).2.length cb) aI.ty I (aip _ 1 _ I)) ?_))
  try refine GA ?_
  refine dv [0,1,2,3] ?_;exact bO (k+1,vs) (by show k+1<=s.length;omega) (by show s.length-(k+1)<s.length-k;omega) (hl:=by dsimp only;rw[tZ];rfl)
 ·obtain rfl:k=s.length:=by omega
  rw[nk]
  try refine GA ?_
  exact dq I I fun w hm=>hm.meets (S:=Ow t (jz g.az t s nx)) (g7,vs) trivial [2,3] akV I
end cg
namespace cg
open Go.RowKit cT ey aM dN dx bP c_
section
variable{P:Program}{n:Nat}{W:b_}{fr:Fr}{L:List b9}{Q:Exit->Act->World->Prop}{ops:Array Oper}{rest:List Oper}{d:Nat}{ty:TypeId}{pos:String}{after:Array Edge}
theorem Ox{α:Type}{f:α->List Value}{c:Nat}(hc:∀a,(f a).length=c)(h0:0<c)(z:α){t e:TypeId}{x y:Operand}{bytes m:Nat}{k k':IntKind}{zs:Array Value}[sM P t e c bytes][eS P e zs](hz:zs.toList=f z)(hx:ev fr x=ah (.int k (m:Int)))(hy:ev fr y=ah (.int k' (m:Int)))(hb:bytes*m<=281474976710656)(wP:m<=9223372036854775807)(hn:dB d n=aB)
 (h:∀g,TL P n W ops Q rest ((d,ak (ah ⟨g,0,aj⟩) m m)::fr) (L++[bx e c (ak (ah ⟨g,0,aj⟩) m m) m ((db m z).flatMap f)])):TL P n W ops Q (⟨ah d,.makeSlice t x y,ty,pos,after,aj⟩::rest) fr L:=by
 refine uM hx hy (aT _) hb wP hn fun g=>H0 (i:=L.length) c (A9 ..) (by rw[size_madeCells]) (aT _) wP ?_;have hsz:zs.size=c:=by rw[<-Array.length_toList,hz,hc]
 have hl:(madeCells zs (m*c)).toList.take (m*c)=(db m z).flatMap f:=by
  rw[ae0 hsz h0,ig (by simp[hz,hc]),hz,List.flatMap_def,K9]
 rw[hl];have:=h g
 rwa [List.set_append_right _ _ (aT _),qk,List.set_cons_zero]
end
abbrev XB:=Int×Int×bP.Act×bP.Act
def Oy(x:XB):List Value:=[ap av x.1,ap av x.2.1,ap av x.2.2.1.1,ap av x.2.2.1.2,ap av x.2.2.2.1,ap av x.2.2.2.2]
def y8:zk bP.Act:=zM lP 2 (fun _=>rfl) (fun _=>True)
section
variable(l:List aM.Prod)(T:Nat)(Nx:List (List Int))(S:List (List bP.Item))
abbrev Gv(q c:Nat):List bP.Act:=jz l T (S.getD q []) (Nx.getD q []) c
def xe(q c:Nat):List XB:=(Gv l T Nx S q c).tail.map fun x=>((q:Int),(c:Int),(Gv l T Nx S q c).headD (0,0),x)
def iK(q:Nat):Nat->List XB
 |0=>[]
 |c+1=>iK q c++xe l T Nx S q c
def iL:Nat->List XB
 |0=>[]
 |q+1=>iL q++iK l T Nx S q (T+1)
def gL(q c:Nat):List bP.Act:=(eu (T+1)).map fun j=>if j<c then kH l T Nx S q j else(0,0)
def fY(n:Nat):List (List bP.Act):=(eu n).map fun q=>gL l T Nx S q (T+1)
def fa(n:Nat):List (List Int):=(eu n).map fun q=>(Nx.getD q []).drop T
end
def iN(g:dF):List (List bP.Act)×List (List Int)×List XB×Int:=if(jA g).2.2≠0 then([],[],[],(jA g).2.2)else(fY g.az g.aQ.toNat (jA g).1 (jA g).2.1 (jA g).2.1.length,fa g.aQ.toNat (jA g).1 (jA g).2.1.length,iL g.az g.aQ.toNat (jA g).1 (jA g).2.1 (jA g).2.1.length,0)
structure Sb where
 vA:Value
 Da:List Value
 FA:Nat->Prop
 vG:Value
 Db:List Value
 FG:Nat->Prop
def WU(x:Sb)(A:List (List bP.Act))(G:List (List Int)):List b9:=[bx 92 1 x.vA A.length x.Da,eY (cB y8) x.FA (x.Da.map fun v=>[v]) A,bx 26 1 x.vG G.length x.Db,eY (cB iE) x.FG (x.Db.map fun v=>[v]) G]
def Sc(g:dF):Spec (Sb×Value):=⟨fun _=>True,fun x=> .tuple #[aP #[x.1.vA,x.1.vG],x.2,ap av (iN g).2.2.2],fun x=>WU x.1 (iN g).1 (iN g).2.1++[bx 208 6 x.2 (iN g).2.2.1.length ((iN g).2.2.1.flatMap Oy)]⟩
theorem Sd(w:World):(dm 36 (#[]:Array (Nat×Value))).run aC w= .ok (aP #[ak aj 0 0,ak aj 0 0]) w:=by kernel_rfl
theorem WV(q c:Int)(a b:bP.Act)(w:World):(dm 208 #[(0,ap av q),(1,ap av c),(2,aP (lP a).toArray),(3,aP (lP b).toArray)]).run aC w= .ok (aP (Oy (q,c,a,b)).toArray) w:=by kernel_rfl
theorem Se{w:World}{v:Value}{l:List bP.Act}(h:(bx 94 2 v l.length (l.flatMap lP)).holds w):(cB y8).is (fun k=>v.ownBlock=ah k) w [v] l:=
 ⟨v,rfl,kK.of_flat (Sl.dy h) (fun _ _=>trivial) (fun _ h=>h) (fun a n cp hv=>by rw[hv];rfl)⟩
theorem qC{l:List aM.Prod}{T:Nat}{Nx:List (List Int)}{S:List (List bP.Item)}{q c:Nat}:(gL l T Nx S q c).length=T+1:=by unfold gL;rw[dw,qj]
theorem abu{l:List aM.Prod}{T:Nat}{Nx:List (List Int)}{S:List (List bP.Item)}{q:Nat}:gL l T Nx S q 0=db (T+1) (0,0):=by
 unfold gL;apply mq;intro j
 by_cases h:j<T+1
 simp[h];simp[h]
theorem Sf{l:List aM.Prod}{T:Nat}{Nx:List (List Int)}{S:List (List bP.Item)}{q c:Nat}(hc:c<T+1):(gL l T Nx S q c).set c (kH l T Nx S q c)=gL l T Nx S q (c+1):=by
 unfold gL;apply mq;intro j;rw[List.getElem?_set]
 by_cases h:j<T+1
 ·by_cases e:c=j
  subst e;simp[h];rw[if_neg e];simp only[eQ,List.getElem?_range h,Option.map_some]
  by_cases e2:j<c
  rw[if_pos e2,if_pos J];rw[if_neg e2,if_neg J]
 have h1:(eu (T+1))[j]?=none:=ii (by rw[qj];omega);simp only[eQ,h1,Option.map_none];split
 ·rename_i e;subst e;exact absurd hc h
 rfl
theorem Oz{l:List aM.Prod}{T:Nat}{Nx:List (List Int)}{S:List (List bP.Item)}{q c:Nat}(h:Gv l T Nx S q c=[]):gL l T Nx S q (c+1)=gL l T Nx S q c:=by
 unfold gL;apply List.map_congr_left;intro j hj
 by_cases e:j=c
 ·subst e
  rw[if_pos (o_ _),if_neg (wt _)];unfold kH;rw[show jz l T (S.getD q []) (Nx.getD q []) j=[]from h];rfl
 by_cases e2:j<c
 rw[if_pos e2,if_pos J];rw[if_neg e2,if_neg J]
theorem Gw{l:List aM.Prod}{T:Nat}{Nx:List (List Int)}{S:List (List bP.Item)}{q:Nat}{M:Nat}(h:(S.getD q []).length<=M):∀c,(iK l T Nx S q c).length<=c*(M+1)
 |0=>bC _
 | c +1=>by
  rw[iK,bK,nM];have h2:(xe l T Nx S q c).length<=M+1:=by
   unfold xe;rw[dw,RE];have:(Gv l T Nx S q c).length<=1+(S.getD q []).length:=by rw[Gv,<-Jb];exact BZ
   omega
  have:=Gw (l:=l) (T:=T) (Nx:=Nx) h c;omega
theorem CH{l:List aM.Prod}{T:Nat}{Nx:List (List Int)}{S:List (List bP.Item)}{M:Nat}(h:∀q,(S.getD q []).length<=M):∀q,(iL l T Nx S q).length<=q*((T+1)*(M+1))
 |0=>bC _
 |q+1=>by
  rw[iL,bK,nM];have:=CH (l:=l) (T:=T) (Nx:=Nx) h q;have:=Gw (l:=l) (T:=T) (Nx:=Nx) (h q) (T+1);omega
theorem AJ{l:List aM.Prod}{T:Nat}{Nx:List (List Int)}{S:List (List bP.Item)}{q c:Nat}:∀{d:Nat},c<=d->(iK l T Nx S q c).length<=(iK l T Nx S q d).length
  | 0, h => by obtain rfl:c=0:=by omega
               exact aT _
  | d+1,h=>by
    by_cases e:c=d+1
    subst e;exact aT _;rw[iK,bK];have:=AJ (l:=l) (T:=T) (Nx:=Nx) (S:=S) (q:=q) (c:=c) (d:=d) J;omega
theorem OA{l:List aM.Prod}{T:Nat}{Nx:List (List Int)}{S:List (List bP.Item)}(n:Nat):fY l T Nx S (n+1)=fY l T Nx S n++[gL l T Nx S n (T+1)]:=by unfold fY;rw[yR,eb];rfl
theorem Lk{T:Nat}{Nx:List (List Int)}(n:Nat):fa T Nx (n+1)=fa T Nx n++[(Nx.getD n []).drop T]:=by unfold fa;rw[yR,eb];rfl
theorem jn{l:List aM.Prod}{T:Nat}{Nx:List (List Int)}{S:List (List bP.Item)}(n:Nat):(fY l T Nx S n).length=n:=by unfold fY;rw[dw,qj]
theorem mO{T:Nat}{Nx:List (List Int)}(n:Nat):(fa T Nx n).length=n:=by unfold fa;rw[dw,qj]
theorem Ll(v:Value)(g:dF)(w:World)(hG:kw (fun k=>k<w.heap.size) w v g):
 Calls aC 45 #[v] w (cJ (Sc g) w):=by
 have hG0:=hG;have VN:=fun w' (hg:Gr w w')=>WD v g w' (hG.gr hg);have hac:=fun T K' hT bS oS lS cS bN oN lN cN n oJ vn1 s nx w' (hg:Gr w w')=>Lj v g T K' hT bS oS lS cS bN oN lN cN n oJ vn1 s nx w' (hG.gr hg);obtain⟨vp,rfl,-⟩:=hG;have xl:=Sd;have hO:iN g=if(jA g).2.2≠0 then([],[],[],(jA g).2.2)else(fY g.az g.aQ.toNat (jA g).1 (jA g).2.1 (jA g).2.1.length,fa g.aQ.toNat (jA g).1 (jA g).2.1.length,iL g.az g.aQ.toNat (jA g).1 (jA g).2.1 (jA g).2.1.length,0):=rfl
 unfold Sc WU;refine enter (args:=[dD g.aQ g.bB vp]) (n:=92) Tryz.func45 I I I ?_;refine bY (a_ (bQ I I I fun g1=>?_));refine zL ?_
 try refine GA ?_
 refine aY I fun g2=>?_;refine zL ?_
 repeat(first|refine GA ?_|refine gV (aL (i:=0) aI.ty I I I) ?_)
 refine aW (kZ aF.en I I) (fun w hm=>VN w hm.below) I I I ?_;rintro⟨vS,vN,w_,F,CC,FN⟩ _
 conv=>arg 8;simp only[zJ,dr,ret,id_eq,ad5]
 conv=>arg 7;simp only[ad5]
 have mJ:=Ub (g:=g);have hno:=ad7 (g:=g);obtain⟨⟨Nx,S,e⟩,hOA⟩:∃R,jA g=R:=⟨_,rfl⟩;rw[hOA]at mJ hno hO;rw[hOA];dsimp only at mJ hno hO⊢;refine qW (i:=2) I gj fun gv=>?_;obtain⟨aS,cS,rfl,-,haS⟩:=gv;refine qW (i:=4) I gj fun gv=>?_;obtain⟨aN,cN,rfl,-,haN⟩:=gv;clear hOA VN
 try refine GA ?_
 refine aY I fun g5=>?_;refine zL ?_;refine gG 6 (cs':=#[ak aS S.length cS,ak aN Nx.length cN]) ?_;refine zL ?_
 try refine GA ?_
 by_cases c0:e=0
 ·subst c0
  rw[if_neg (by simp)]at hO;obtain⟨hg,hA⟩:=mJ rfl;obtain⟨hT1,hT2,hN1,hN2,xF,hgb⟩:=cz hg;have L_:∀q∈g.az,q.2.length<=8:=fun q hq=>(hgb q hq).1;obtain⟨T,K'⟩:∃T:Nat,g.aQ=(T:Int):=⟨g.aQ.toNat,by omega⟩;obtain⟨N,hNn⟩:∃N:Nat,g.bB=(N:Int):=⟨g.bB.toNat,by omega⟩;have hTn:g.aQ.toNat=T:=by omega
  rw[hTn,show g.bB.toNat=N by omega]at hA;rw[hTn]at hO;have hT:T<=30:=by omega
  have hI:=NI L_ xF hT hA;have RG:=ad6 L_ xF hT hA;have hS0:0<S.length:=(cU.1 hI.start).1;have hS2:=hI.Cq;have hNl:=hI.len;have hac:=hac T K' hT;obtain⟨gS,rfl⟩:=haS hS0;obtain⟨gN,rfl⟩:=haN J;clear mJ hno haS haN;rw[K',hO];rw[K']at hac
  try refine GA ?_
  refine aY I fun g7=>?_;refine zL ?_
  repeat(first|refine GA ?_|refine gV (aw (v:=ak (ah ⟨gS,0,aj⟩) S.length cS) aI.ty I (aE (i:=6) I I)) ?_)
  refine jw 92 1 (pv (eY (cB y8) (fun _=>False) [] []) (fun k hk=>hk.elim (fun h=>by cases h) id) (fun w=>lF) (jw 26 1 (pv (eY (cB iE) (fun _=>False) [] []) (fun k hk=>hk.elim (fun h=>by cases h) id) (fun w=>lF) (jw 208 6 ?_))))
  conv=>arg 7;simp only[zA,zB,zC,zD,zE,zF,zG,zH,zI,dr,ret,id_eq]
  refine dU (ι:=Nat×Sb×Value) (fun(n,_,_)=>n<=S.length) (fun(n,_,vf)=>[(1,aH (ah ⟨g1,0,aj⟩)),(2,aH (ah ⟨g2,0,aj⟩)),(5,aH (ah ⟨g5,0,aj⟩)),(7,aH (ah ⟨g7,0,aj⟩)),(8,vf),(26,ap av (S.length:Int)),(27,ap av (n:Int))])
   (fun(n,x,vf)=>[aO g1 (dD (T:Int) g.bB vp).cells 33,aO g2 #[ak aj 0 0,ak aj 0 0] 36,bx 273 1 (ak (ah ⟨gS,0,aj⟩) S.length cS) S.length w_,eY (cB KW) F (w_.map fun v=>[v]) S,bx 26 1 (ak (ah ⟨gN,0,aj⟩) Nx.length cN) Nx.length CC,eY (cB iE) FN (CC.map fun v=>[v]) Nx,aO g5 #[ak (ah ⟨gS,0,aj⟩) S.length cS,ak (ah ⟨gN,0,aj⟩) Nx.length cN] 203,aO g7 #[x.vA,x.vG] 36,bx 92 1 x.vA (fY g.az T Nx S n).length x.Da,eY (cB y8) x.FA (x.Da.map fun v=>[v]) (fY g.az T Nx S n),bx 26 1 x.vG (fa T Nx n).length x.Db,eY (cB iE) x.FG (x.Db.map fun v=>[v]) (fa T Nx n),bx 208 6 vf (iL g.az T Nx S n).length ((iL g.az T Nx S n).flatMap Oy)]) (fun(n,_,_)=>S.length-n) (0,⟨ak aj 0 0,[],fun _=>False,ak aj 0 0,[],fun _=>False⟩,ak aj 0 0) (bC _) ?_
  rintro⟨n,x,vf⟩ i1;dsimp only at i1⊢
  by_cases c1:n<S.length
  ·have hnN:n<Nx.length:=by omega
   have hSn:S.getD n []=S[n]:=by rw[bD,bm c1];rfl
   have agT:Nx.getD n []=Nx[n]:=by rw[bD,bm hnN];rfl
   have hsr:=hI.ss.right S[n] (bV c1);have hwd:=hI.wide n c1;rw[agT]at hwd;have vD:=RG S[n] (bV c1);refine iH (i:=3) I (fun w h=>I3 h) fun hvl=>?_;refine iH (i:=5) I (fun w h=>I3 h) fun hnl=>?_;have hvq:w_[0+n]?=ah (w_[n]' J):=by rw[cI];exact bm _
   have ais:w_[n]?=ah (w_[n]' J):=bm _;generalize w_[n]' J=vq at hvq ais;have hnq:CC[0+n]?=ah (CC[n]' J):=by rw[cI];exact bm _
   have abv:CC[n]?=ah (CC[n]' J):=bm _;generalize CC[n]' J=nq at hnq abv;refine iH (i:=5) I (fun w h=>cK (aaL h hnN abv) (kK.okp (Rw h hnN abv))) fun ait=>?_;obtain⟨⟨aq,cq,rfl,hcq,akN,-⟩,aj6⟩:=ait;have AX:(iL g.az T Nx S n++iK g.az T Nx S n (T+1)).length<=100000000:=by
    have h1:=CH (l:=g.az) (T:=T) (Nx:=Nx) (S:=S) (M:=11439) (fun q=>by
     by_cases hq:q<S.length
     rw[bD,bm hq];exact RG _ (bV hq);rw[bD,ii J];exact bC _) (n+1)
    rw[iL]at h1;exact eC h1 (eC (rF (show n+1<=200 by omega) (rF (show T+1<=31 by omega) (aT _))) akV)
   have hS1:=fun(L:List b9) (i:Nat) (hL:L[i]?=ah (eY (cB KW) F (w_.map fun v=>[v]) S))=>Ry (W:=(w:b_)) (L:=L) (f:=iT) (c:=3) akV hL c1 ais;have hN1:∀(L:List b9) (i:Nat) (hL:L[i]?=ah (eY (cB iE) FN (CC.map fun v=>[v]) Nx)),SlL (w:b_) L (.slice aq Nx[n].length cq) Nx[n].length (Nx[n].map (ap .i64)):=fun L i hL w' pV=>by
    have:=Ry (W:=(w:b_)) (L:=L) (f:=fun n=>[ap .i64 n]) (c:=1) akV hL hnN abv w' pV
    rwa [<-RD]at this
   repeat(first|refine GC ?_|refine gV (aw (v:=ap av (T:Int)) aI.ty I (aE (i:=0) I I)) ?_|refine gV (dh (r:=((T+1:Nat):Int)) I I J J J) ?_|refine GB ?_)
   refine Ox sA akV (0,0) I I I J J I fun g10=>?_;rw[<-abu (l:=g.az) (Nx:=Nx) (S:=S) (q:=n)];refine zL ?_
   repeat(first|refine GA ?_|refine gV (aL (i:=0) aI.ty I I I) ?_|refine gV (aL (i:=6) aI.ty I I I) ?_)
   refine aW (S:=Ow T (jz g.az T S[n] Nx[n])) (ye aF.en I I I I) (fun w hm=>hac gS 0 S.length cS gN 0 Nx.length cN n vq (.slice aq Nx[n].length cq) S[n] Nx[n] w hm.below xF c1 (zU (hm.get (i:=2) I) hvq) (hS1 _ 3 I w hm) hnN (zU (hm.get (i:=4) I) hnq) (hN1 _ 5 I w hm) J hsr J J) I I I ?_;rintro⟨ga,vs⟩ _
   conv=>arg 8;simp only[zJ,dr,ret,id_eq,Ow]
   conv=>arg 7;simp only[Ow]
   rw[<-hSn,<-agT];clear hac
   try refine GA ?_
   refine lX (ι:=Nat×Value) (fun(c,_)=>c<=T+1) (fun(c,vf)=>[(1,aH (ah ⟨g1,0,aj⟩)),(2,aH (ah ⟨g2,0,aj⟩)),(5,aH (ah ⟨g5,0,aj⟩)),(7,aH (ah ⟨g7,0,aj⟩)),(8,vf),(26,ap av (S.length:Int)),(27,ap av (n:Int)),(9,ap av (n:Int)),(10,ak (ah ⟨g10,0,aj⟩) (T+1) (T+1)),(37,ak (ah ⟨ga,0,aj⟩) (T+1) (T+1)),(38,ap av ((T+1:Nat):Int)),(39,ap av (c:Int))])
    (fun(c,vf)=>[aO g1 (dD (T:Int) g.bB vp).cells 33,aO g2 #[ak aj 0 0,ak aj 0 0] 36,bx 273 1 (ak (ah ⟨gS,0,aj⟩) S.length cS) S.length w_,eY (cB KW) F (w_.map fun v=>[v]) S,bx 26 1 (ak (ah ⟨gN,0,aj⟩) Nx.length cN) Nx.length CC,eY (cB iE) FN (CC.map fun v=>[v]) Nx,aO g5 #[ak (ah ⟨gS,0,aj⟩) S.length cS,ak (ah ⟨gN,0,aj⟩) Nx.length cN] 203,aO g7 #[x.vA,x.vG] 36,bx 92 1 x.vA (fY g.az T Nx S n).length x.Da,eY (cB y8) x.FA (x.Da.map fun v=>[v]) (fY g.az T Nx S n),bx 26 1 x.vG (fa T Nx n).length x.Db,eY (cB iE) x.FG (x.Db.map fun v=>[v]) (fa T Nx n),bx 208 6 vf (iL g.az T Nx S n++iK g.az T Nx S n c).length ((iL g.az T Nx S n++iK g.az T Nx S n c).flatMap Oy),bx 94 2 (ak (ah ⟨g10,0,aj⟩) (T+1) (T+1)) (T+1) ((gL g.az T Nx S n c).flatMap lP),dI 92 wB ga (T+1) vs,ia (fun j=>j<T+1) (pg vs (jz g.az T (S.getD n []) (Nx.getD n [])))]) (fun(c,_)=>T+1-c) (0,vf) (bC _) (by repeat' (first|exact cY|refine cK I ?_)) (by dsimp only;rw[iK,dQ]) ?_
   rintro⟨c,vf⟩ j1;dsimp only at j1⊢
   by_cases c2:c<T+1
   ·obtain⟨X,hX⟩:∃X,jz g.az T (S.getD n []) (Nx.getD n []) c=X:=⟨_,rfl⟩
    have hXl:X.length<=11440:=by
     rw[<-hX,<-Jb];have:=BZ (l:=g.az) (T:=T) (nx:=Nx.getD n []) (t:=T) (s:=S.getD n []) (c:=c);rw[hSn]at this⊢;omega
    have aiu:=Sf (l:=g.az) (Nx:=Nx) (S:=S) (q:=n) c2;have aiv:X=[]->gL g.az T Nx S n (c+1)=gL g.az T Nx S n c:=fun h=>Oz (by unfold Gv;rw[hX,h]);have hhd:kH g.az T Nx S n c=X.headD (0,0):=by unfold kH;rw[hX]
    have Th:iK g.az T Nx S n (c+1)=iK g.az T Nx S n c++X.tail.map fun x=>(((n:Int),(c:Int),X.headD (0,0),x):XB):=by
     rw[iK,xe];unfold Gv;rw[hX]
    have ahS:(iL g.az T Nx S n++iK g.az T Nx S n c).length<=100000000:=by
     rw[bK]at AX⊢;have:=AJ (l:=g.az) (T:=T) (Nx:=Nx) (S:=S) (q:=n) (show c<=T+1 by omega);omega
    generalize aiw:iL g.az T Nx S n++iK g.az T Nx S n c=base at*;refine iH (i:=15) I (fun w h=>gj w (h.1 c c2)) fun gv=>?_;obtain⟨ax,cx,hvc,-,hax⟩:=gv;rw[hX]at hvc hax;have abw:∀(L:List b9) (i:Nat) (gx:Nat),ax=ah ⟨gx,0,aj⟩->L[i]?=ah (ia (fun j=>j<T+1) (pg vs (jz g.az T (S.getD n []) (Nx.getD n []))))->∀k (hk:k<X.length) (j:Nat) (u:Value),(lP X[k])[j]?=ah u->At (w:b_) L ⟨gx,0+k*2+j,aj⟩ u:=fun L i gx hgx hL k hk j u hu=>Kb hL fun w h=>by
     have h2:=h.1 c c2;unfold pg at h2;rw[hvc,hX,hgx]at h2;have hj2:j<2:=by rw[<-sA X[k]];exact(cU.1 hu).1
     exact zU h2 (by rw[cI,yi sA X k j hk hj2];exact hu)
    repeat(first|refine GA ?_|refine gV (a8 bI.eq aI.ty I I c2) ?_|refine gV (aw (v:=ak ax X.length cx) aI.ty I (by have:=eG (W:=(w:b_)) (val:=wB) (i:=14) (f:=vs) (e:=92) (g:=ga) (len:=T+1) (L:=[aO g1 (dD (T:Int) g.bB vp).cells 33,aO g2 #[ak aj 0 0,ak aj 0 0] 36,bx 273 1 (ak (ah ⟨gS,0,aj⟩) S.length cS) S.length w_,eY (cB KW) F (w_.map fun v=>[v]) S,bx 26 1 (ak (ah ⟨gN,0,aj⟩) Nx.length cN) Nx.length CC,eY (cB iE) FN (CC.map fun v=>[v]) Nx,aO g5 #[ak (ah ⟨gS,0,aj⟩) S.length cS,ak (ah ⟨gN,0,aj⟩) Nx.length cN] 203,aO g7 #[x.vA,x.vG] 36,bx 92 1 x.vA (fY g.az T Nx S n).length x.Da,eY (cB y8) x.FA (x.Da.map fun v=>[v]) (fY g.az T Nx S n),bx 26 1 x.vG (fa T Nx n).length x.Db,eY (cB iE) x.FG (x.Db.map fun v=>[v]) (fa T Nx n),bx 208 6 vf (base).length ((base).flatMap Oy),bx 94 2 (ak (ah ⟨g10,0,aj⟩) (T+1) (T+1)) (T+1) ((gL g.az T Nx S n c).flatMap lP),dI 92 wB ga (T+1) vs,ia (fun j=>j<T+1) (pg vs (jz g.az T (S.getD n []) (Nx.getD n [])))]) I c2;rw[hvc]at this;exact this)) ?_)
    refine lX (ι:=Nat×Value) (fun(i,_)=>i<=X.length) (fun(i,vf)=>[(1,aH (ah ⟨g1,0,aj⟩)),(2,aH (ah ⟨g2,0,aj⟩)),(5,aH (ah ⟨g5,0,aj⟩)),(7,aH (ah ⟨g7,0,aj⟩)),(8,vf),(26,ap av (S.length:Int)),(27,ap av (n:Int)),(9,ap av (n:Int)),(10,ak (ah ⟨g10,0,aj⟩) (T+1) (T+1)),(37,ak (ah ⟨ga,0,aj⟩) (T+1) (T+1)),(38,ap av ((T+1:Nat):Int)),(11,ap av (c:Int)),(12,ak ax X.length cx),(39,ap av (c:Int)),(44,ak ax X.length cx),(45,ap av (X.length:Int)),(46,ap av (i:Int))])
     (fun(i,vf)=>[aO g1 (dD (T:Int) g.bB vp).cells 33,aO g2 #[ak aj 0 0,ak aj 0 0] 36,bx 273 1 (ak (ah ⟨gS,0,aj⟩) S.length cS) S.length w_,eY (cB KW) F (w_.map fun v=>[v]) S,bx 26 1 (ak (ah ⟨gN,0,aj⟩) Nx.length cN) Nx.length CC,eY (cB iE) FN (CC.map fun v=>[v]) Nx,aO g5 #[ak (ah ⟨gS,0,aj⟩) S.length cS,ak (ah ⟨gN,0,aj⟩) Nx.length cN] 203,aO g7 #[x.vA,x.vG] 36,bx 92 1 x.vA (fY g.az T Nx S n).length x.Da,eY (cB y8) x.FA (x.Da.map fun v=>[v]) (fY g.az T Nx S n),bx 26 1 x.vG (fa T Nx n).length x.Db,eY (cB iE) x.FG (x.Db.map fun v=>[v]) (fa T Nx n),bx 208 6 vf ((base++(X.tail.take (i-1)).map fun x=>(((n:Int),(c:Int),X.headD (0,0),x):XB))).length (((base++(X.tail.take (i-1)).map fun x=>(((n:Int),(c:Int),X.headD (0,0),x):XB))).flatMap Oy),bx 94 2 (ak (ah ⟨g10,0,aj⟩) (T+1) (T+1)) (T+1) ((if i=0 then gL g.az T Nx S n c else gL g.az T Nx S n (c+1)).flatMap lP),dI 92 wB ga (T+1) vs,ia (fun j=>j<T+1) (pg vs (jz g.az T (S.getD n []) (Nx.getD n [])))]) (fun(i,_)=>X.length-i) (0,vf) (bC _) (by repeat' (first|exact cY|refine cK I ?_)) (by simp) ?_
    rintro⟨i,vf⟩ k1;dsimp only at k1⊢
    by_cases c3:i<X.length
    ·have aj7:=fun(L:List b9) (k:Nat) (gx:Nat) (hgx:ax=ah ⟨gx,0,aj⟩) (hL:L[k]?=ah (ia (fun j=>j<T+1) (pg vs (jz g.az T (S.getD n []) (Nx.getD n [])))))=>abw L k gx hgx hL i c3
     obtain⟨gx,rfl⟩:=hax J;have agU:∀(L:List b9) (k:Nat),L[k]?=ah (ia (fun j=>j<T+1) (pg vs (jz g.az T (S.getD n []) (Nx.getD n []))))->∀(j:Nat) (u:Value),(lP (X.headD (0,0)))[j]?=ah u->At (w:b_) L ⟨gx,0+0*2+j,aj⟩ u:=fun L k hL j u hu=>abw L k gx I hL 0 J j u (by
      have:X.headD (0,0)=X[0]' J:=by
       cases X with
       |nil=>exact absurd c3 (Nat.not_lt_zero _)
       |cons y r=>rfl
      rwa [this]at hu)
     have hXi:i=0->X[i]=kH g.az T Nx S n c:=fun e=>by
      subst e;rw[hhd]
      cases X with
      |nil=>exact absurd c3 (ni _)
      |cons y r=>rfl
     have hXt:i≠0->X.tail.take (i+1-1)=X.tail.take (i-1)++[X[i]]:=fun e=>by
      obtain⟨m,rfl⟩:∃m,i=m+1:=⟨i-1,by omega⟩
      cases X with
      |nil=>exact absurd c3 (ni _)
      | cons y r=>
       have hm:m<r.length:=by simpa using c3
       show r.take (m+1)=r.take m++[r[m]]
       exact ir hm
     have akp:(base++(X.tail.take (i-1)).map fun x=>(((n:Int),(c:Int),X.headD (0,0),x):XB)).length<=100100000:=by
      rw[bK,dw,gZ,RE];omega
     have hbf:=WV (n:Int) (c:Int) (X.headD (0,0));generalize hXX:X[i]=xa at*;clear abw hS1 hN1
     repeat(first|refine GA ?_|refine gV (aR bI.eq aI.ty I I c3) ?_|refine gV (aU (cs:=lP xa) aI.ty I I (aj7 _ 15 gx I I)) ?_)
     refine aY I fun g14=>?_;refine zL ?_
     try refine GA ?_
     refine gG 16 (cs':=(lP xa).toArray) ?_;refine zL ?_
     by_cases q1:i=0
     ·subst q1
      rw[if_pos I];have hXi:=hXi I
      repeat(first|refine GA ?_|refine gV (aL (i:=16) aI.ty I I I) ?_|refine gV (aR bI.eq aI.ty I I c2) ?_)
      refine Bk sA (k:=c) (a:=xa) (i:=13) aI.ty I I J (by rw[qC];exact c2) qC.symm I I I ?_;rw[hXi,aiu];refine zL ?_
      try refine GA ?_
      refine dv [0,1,2,3,4,5,6,7,8,9,10,11,12,13,14,15] ?_;exact bO (0+1,vf) (by show 0+1<=X.length;omega) (by show X.length-(0+1)<X.length-0;omega) (hl:=by dsimp only;rw[if_neg J];rfl)
     rw[if_neg q1];have nI:base++(X.tail.take (i+1-1)).map (fun x=>(((n:Int),(c:Int),X.headD (0,0),x):XB))=(base++(X.tail.take (i-1)).map fun x=>(((n:Int),(c:Int),X.headD (0,0),x):XB))++[((n:Int),(c:Int),X.headD (0,0),xa)]:=by rw[hXt q1,eb,<-dL];rfl
     clear hXt;generalize (base++(X.tail.take (i-1)).map fun x=>(((n:Int),(c:Int),X.headD (0,0),x):XB))=fb at*
     try refine GA ?_
     refine dK ([ia (fun j=>j<T+1) (pg vs (jz g.az T (S.getD n []) (Nx.getD n []))),aO g14 (lP xa).toArray 94]) (.calm 0 (.calm 1 (.calm 2 (.calm 3 (.calm 4 (.calm 5 (.calm 6 (.calm 7 (.one 8 (.one 9 (.calm 10 (.done)))))))))))) (bZ [15,16]) ?_
     repeat(first|refine GW ?_|(refine GN ?_;first|refine QW (aR (j:=0) bI.eq aI.ty I I (show 0<X.length by omega)) ?_|refine QW (aU (cs:=lP (X.headD (0,0))) aI.ty I I (agU _ 0 I)) ?_|refine QW (aL (i:=1) aI.ty I I I) ?_|refine QW (bz I (hbf _)) ?_))
     refine aJ I (gI (cs:=(Oy ((n:Int),(c:Int),X.headD (0,0),xa)).toArray) I I I I I fun g65=>aK (bZ [15,16]) ?_);refine aJ I (oq (i:=12) (q:=17) I I I I I I J J I fun vf2=>aK (bZ [15,16]) ?_)
     try refine GW ?_
     try refine GA ?_
     refine dv [0,1,2,3,4,5,6,7,8,9,10,11,12,13,14,15] ?_;exact bO (i+1,vf2) (by show i+1<=X.length;omega) (by show X.length-(i+1)<X.length-i;omega) (hl:=by dsimp only;rw[if_neg J,nI,bK,fH];rfl)
    obtain rfl:i=X.length:=by omega
    have aix:(if X.length=0 then gL g.az T Nx S n c else gL g.az T Nx S n (c+1))=gL g.az T Nx S n (c+1):=by
     by_cases e:X.length=0
     rw[if_pos e];exact(aiv (List.eq_nil_of_length_eq_zero e)).symm;rw[if_neg e]
    have htt:X.tail.take (X.length-1)=X.tail:=ig (by rw[RE];exact aT _);rw[aix,htt]
    try refine GA ?_
    exact bO (c+1,vf) (by show c+1<=T+1;omega) (by show T+1-(c+1)<T+1-c;omega) (hl:=by dsimp only;rw[Th,<-dL,aiw])
   obtain rfl:c=T+1:=by omega
   have hTN:T<=Nx[n].length:=by omega
   have Xt:(Nx[n].drop T).length=Nx[n].length-T:=ik;have NP:(Nx[n].drop T).take (Nx[n].length-T)=Nx[n].drop T:=ig (by rw[Xt];exact aT _);have hSub:∀(L:List b9) (i:Nat),L[i]?=ah (eY (cB iE) FN (CC.map fun v=>[v]) Nx)->SlL (w:b_) L (JV aq cq 1 T Nx[n].length) (Nx[n].length-T) ((Nx[n].drop T).map (ap .i64)):=fun L i hL w' pV=>by
    have h1:=Ry (W:=(w:b_)) (L:=L) (f:=fun n=>[ap .i64 n]) (c:=1) akV hL hnN abv w' pV;have h2:=PY (i:=T) (j:=Nx[n].length) (f:=fun n=>[ap .i64 n]) (fun _=>rfl) h1 hTN (aT _);rw[NP,Xt,<-RD]at h2;exact h2
   have afg:((Nx[n].drop T).map (ap .i64)).length=(Nx[n].length-T)*1:=by rw[dw,Xt,Nat.mul_one]
   have afh:∀u∈(Nx[n].drop T).map (ap .i64),u.oneCell'=true:=fun u hu=>by obtain⟨y,_,rfl⟩:=eI.1 hu;rfl
   have hgo:∀{v:Value} {w':World},(bx 3 1 v (0+(Nx[n].length-T)) ([]++(Nx[n].drop T).map (ap .i64))).holds w'->(cB iE).is (fun k=>v.ownBlock=ah k) w' [v] ((Nx.getD n []).drop T):=fun {v w'} h=>by
    rw[agT];rw[cI,fN,<-Xt]at h;exact CB (fun y hy=>aj6 y (List.mem_of_mem_drop hy)) h
   repeat(first|refine GA ?_|refine gV (aw (v:=x.vA) aI.ty I (aE (i:=7) I I)) ?_)
   have hAl:=jn (l:=g.az) (T:=T) (Nx:=Nx) (S:=S) n;have hGl:=mO (T:=T) (Nx:=Nx) n;refine ka (i:=8) I I I I I I (fun z h=>by cases h;rfl) J J I fun z vA2=>?_;refine zL ?_;refine zN (eY (cB y8) (fun k=>x.FA k\/(ak (ah ⟨g10,0,aj⟩) (T+1) (T+1)).ownBlock=ah k) ((x.Da.map fun v=>[v])++[[ak (ah ⟨g10,0,aj⟩) (T+1) (T+1)]]) (fY g.az T Nx S n++[gL g.az T Nx S n (T+1)])) 13 9 [0,1,2,3,4,5,6,7,8,10,11,12] akV I I I (fun k hk=>hk.elim (fun h=>by cases h) fun h=>h.elim (fun h=> .inr (.inr h)) fun h=> .inl (.inl h)) (fun w hr he=>r9 he (Se (by rw[qC];exact hr)) (Ay hr)) ?_;refine zL ?_
   try refine GA ?_
   refine aV (i:=8) I fun jM nG=>bT (i:=7) I I I jM nG I ?_;refine zL ?_
   try refine GA ?_
   refine jw 3 1 ?_
   conv=>arg 7;simp only[zA,zB,zC,zD,zE,zF,zG,zH,zI,dr,ret,id_eq]
   refine dK ([aO g1 (dD (T:Int) g.bB vp).cells 33,bx 26 1 (ak (ah ⟨gN,0,aj⟩) Nx.length cN) Nx.length CC,eY (cB iE) FN (CC.map fun v=>[v]) Nx,aO g5 #[ak (ah ⟨gS,0,aj⟩) S.length cS,ak (ah ⟨gN,0,aj⟩) Nx.length cN] 203]) (.calm 0 (.calm 2 (.calm 3 (.calm 4 (.calm 5 (.calm 6 (.calm 7 (.calm 8 (.calm 9 (.two 1 (.one 10 (.one 11 (.one 12 (.calm 13 (.one 14 (.done)))))) 10 (.two 1 (.one 11 (.one 12 (.calm 13 (.one 14 (.done))))) 11 (.one 1 (.one 12 (.calm 13 (.one 14 (.done)))))))))))))))) (bZ [0,4,5,6]) ?_
   repeat(first|(refine GN ?_;first|refine QW QP ?_|refine QW (aw (v:=ak (ah ⟨gN,0,aj⟩) Nx.length cN) aI.ty I (aE (i:=3) I I)) ?_|refine QW (a8 bI.eq aI.ty I I hnN) ?_|refine QW (aw (v:= .slice aq Nx[n].length cq) aI.ty I (ku (i:=1) I hnq)) ?_|refine QW (aw (v:=ap av (T:Int)) aI.ty I (aE (i:=0) I I)) ?_|refine QW (Bh (i:=T) bI.eq aI.ty I I hTN hcq) ?_|refine GX ?_)|refine GW ?_)
   refine fe I I ?aiy ?aiz
   case' aiy=>
    refine dC (aw (v:=x.vG) aI.ty I (aE (i:=7) I I)) I I I (aK (bZ [0,4,5,6]) ?_);refine aJ I (eT (i:=13) (k:=Nx[n].length-T) I (hSub _ 5 I) I I afg afh J J I fun vI=>aK (bZ [0,4,5,6]) ?_);refine aJ I (aV (i:=13) I fun hw1 hw2=>gI (cs:=#[vI]) I hw1 I I I fun g86=>aK (bZ [0,4,5,6]) ?_)
   case' aiz=>
    refine eT (i:=13) (k:=Nx[n].length-T) I (hSub _ 5 I) I I afg afh J J I fun vI=>aK (bZ [0,4,5,6]) ?_;refine fe I I ?aiA ?aiB
   case' aiA=>
    refine dC (aw (v:=x.vG) aI.ty I (aE (i:=7) I I)) I I I (aK (bZ [0,4,5,6]) ?_);refine aJ I (aV (i:=13) I fun hw1 hw2=>gI (cs:=#[vI]) I hw1 I I I fun g86=>aK (bZ [0,4,5,6]) ?_)
   case' aiB=>
    refine aV (i:=13) I fun hw1 hw2=>gI (cs:=#[vI]) I hw1 I I I fun g86=>aK (bZ [0,4,5,6]) ?_;refine aJ I (dC (aw (v:=x.vG) aI.ty I (aE (i:=7) I I)) I I I (aK (bZ [0,4,5,6]) ?_))
   all_goals
    refine aJ I (ma (i:=9) (q:=14) I I I I I hw2 J J I fun vG2=>aK (bZ [0,4,5,6]) ?_)
    try refine GW ?_
    refine aJ I (aV (i:=9) I fun jM nG=>bT (i:=7) I I I jM nG I (aK (bZ [0,4,5,6]) ?_))
    try refine GW ?_
    refine J0 (eY (cB iE) (fun k=>x.FG k\/vI.ownBlock=ah k) ((x.Db.map fun v=>[v])++[[vI]]) (fa T Nx n++[(Nx.getD n []).drop T])) 13 10 [0,1,2,3,4,5,6,7,8,9,11,12] akV I I I (fun k hk=>hk.elim (fun h=>by cases h) fun h=>h.elim (fun h=> .inr (.inr h)) fun h=> .inl (.inl h)) (fun w hr he=>r9 he (hgo hr) (Ay hr)) ?_
    try refine GA ?_
    refine dv [0,1,2,3,4,5,6,7,8,11,9,12,10] ?_;exact bO (n+1,⟨vA2,x.Da++[ak (ah ⟨g10,0,aj⟩) (T+1) (T+1)],fun k=>x.FA k\/(ak (ah ⟨g10,0,aj⟩) (T+1) (T+1)).ownBlock=ah k,vG2,x.Db++[vI],fun k=>x.FG k\/vI.ownBlock=ah k⟩,vf) (by show n+1<=S.length;omega) (by show S.length-(n+1)<S.length-n;omega) (hl:=by dsimp only;rw[show(fY g.az T Nx S (n+1)).length=(fY g.az T Nx S n).length+1 by rw[jn,jn],show(fa T Nx (n+1)).length=(fa T Nx n).length+1 by rw[mO,mO],OA,Lk,eb,eb];rfl)
  obtain rfl:n=S.length:=by omega
  refine iH (i:=8) I (fun w h=>gj w h) fun gv=>?_;obtain⟨aA,cA,hvA,-⟩:=gv;refine iH (i:=10) I (fun w h=>gj w h) fun gv=>?_;obtain⟨aG,cG,hvG,-⟩:=gv;obtain⟨vA,Da,FA,vG,Db,FG⟩:=x;dsimp only at hvA hvG⊢;subst hvA hvG
  repeat(first|refine GA ?_|refine gV (aL (i:=7) aI.ty I I I) ?_)
  refine gG 1 ?_;refine zL ?_
  try refine GA ?_
  exact iW (i:=1) I I I I I I fun w hm=>hm.meets (S:=⟨fun(_:Sb×Value)=>True,fun x=> .tuple #[aP #[x.1.vA,x.1.vG],x.2,ap av 0],fun x=>[bx 92 1 x.1.vA (fY g.az T Nx S S.length).length x.1.Da,eY (cB y8) x.1.FA (x.1.Da.map fun v=>[v]) (fY g.az T Nx S S.length),bx 26 1 x.1.vG (fa T Nx S.length).length x.1.Db,eY (cB iE) x.1.FG (x.1.Db.map fun v=>[v]) (fa T Nx S.length),bx 208 6 x.2 (iL g.az T Nx S S.length).length ((iL g.az T Nx S S.length).flatMap Oy)]⟩) (⟨ak aA _ cA,Da,FA,ak aG _ cG,Db,FG⟩,vf) trivial [8,9,10,11,12] akV I
 ·rw[if_pos c0]at hO
  rw[hO]
  repeat(first|refine GC ?_|refine gV (dz (b:=aB) I I (decide_eq_true c0)) ?_|refine gV (bz I xl) ?_|refine GB ?_)
  refine gG 1 ?_;refine zL ?_
  try refine GA ?_
  refine eL 92 1 (tc (eY (cB y8) (fun _=>False) [] []) (fun k hk=>hk.elim (fun h=>by cases h) id) (fun w=>lF) (eL 26 1 (tc (eY (cB iE) (fun _=>False) [] []) (fun k hk=>hk.elim (fun h=>by cases h) id) (fun w=>lF) (eL 208 6 ?_))));exact iW (i:=1) I I I I I I fun w hm=>hm.meets (S:=⟨fun(_:Sb×Value)=>True,fun x=> .tuple #[aP #[x.1.vA,x.1.vG],x.2,ap av e],fun x=>[bx 92 1 x.1.vA 0 x.1.Da,eY (cB y8) x.1.FA (x.1.Da.map fun v=>[v]) [],bx 26 1 x.1.vG 0 x.1.Db,eY (cB iE) x.1.FG (x.1.Db.map fun v=>[v]) [],bx 208 6 x.2 0 []]⟩) (⟨ak aj 0 0,[],fun _=>False,ak aj 0 0,[],fun _=>False⟩,ak aj 0 0) trivial [7,8,9,10,11] akV I
end cg
namespace o8
open aM dN ee dx cg
def Dc(O:Nat->Nat->Bool)(h a:Nat):Nat->Nat->Bool:=fun i j=>if i=h/\j=a then aB else O i j
def fal(N m:Nat)(O:Nat->Nat->Bool):Nat:=eJ (fun i=>eJ (fun j=>if O i j=aB then 0 else 1) m) N
def Sg(l:List aM.Prod)(w:List Int)(O:Nat->Nat->Bool):Prop:=∀(k:Nat) a,O k a=aB->a<=w.length->∃v,pI l (2,(k:Int)) (w.drop a++v)
theorem Lm{f f':Nat->Nat}:∀{k i:Nat},i<k->(∀j,j<k->f j<=f' j)->f i<f' i->eJ f k<eJ f' k
 | k +1,i,hi,h,hl=>by
  rw[eJ,eJ]
  by_cases e:i=k
  ·subst e
   have:=wU (f:=f) (f':=f') i fun j hj=>h j J;omega
  have:=Lm (f:=f) (f':=f') (k:=k) (i:=i) J (fun j hj=>h j J) hl;have:=h k J;omega
theorem aeg{N m h a:Nat}{O:Nat->Nat->Bool}(hh:h<N)(ha:a<m)(ho:O h a=aD):fal N m (Dc O h a)<fal N m O:=by
 have hle:∀i j,(if Dc O h a i j=aB then 0 else 1)<=(if O i j=aB then 0 else 1):=fun i j=>by
  unfold Dc
  by_cases e:i=h/\j=a
  rw[if_pos e,if_pos I];exact bC _;rw[if_neg e];exact aT _
 unfold fal;refine Lm hh (fun i _=>wU m fun j _=>hle i j) (Lm ha (fun j _=>hle h j) ?_);have e1:Dc O h a h a=true:=by unfold Dc;rw[if_pos ⟨rfl,rfl⟩]
 rw[e1,ho];decide
structure oM(l:List aM.Prod)(w:List Int)(o:bX->Nat->Nat->Nat)(M:List Bool)(N:Nat)(O O':Nat->Nat->Bool)(more:Bool)(i a:Nat):Prop where
 sound:Sg l w O'
 less:more=aB->fal N (w.length+1) O'<fal N (w.length+1) O
 still:more=aD->O'=O/\∀q a',(q<i\/(q=i/\a'<a))->∀h:q<l.length,a'<=w.length->qx o O M w.length a' l[q].2=aB->O l[q].1.toNat a'=aB
section
variable{l:List aM.Prod}{w:List Int}{n:Nat}{c:fA}{M:List Bool}{O O':Nat->Nat->Bool}{more:Bool}{i a:Nat}
theorem oM.start(h:Sg l w O)(o:bX->Nat->Nat->Nat)(N:Nat):oM l w o M N O O aD 0 0:=⟨h,fun h=>by(cases h),fun _=>⟨rfl,fun q a' h=>by omega⟩⟩
theorem oM.next{o:bX->Nat->Nat->Nat}{N:Nat}(h:oM l w o M N O O' more i (w.length+1)):oM l w o M N O O' more (i+1) 0:=⟨h.sound,h.less,fun e=>⟨(h.still e).1,fun q a' h1 h2 h3=>(h.still e).2 q a' J h2 h3⟩⟩
theorem oM.skip{o:bX->Nat->Nat->Nat}{N:Nat}(h:oM l w o M N O O' more i a)(hi:i<l.length)(hn:O' l[i].1.toNat a=aB\/qx o O' M w.length a l[i].2=aD):oM l w o M N O O' more i (a+1):=⟨h.sound,h.less,fun e=>by
 obtain⟨rfl,h2⟩:=h.still e;refine⟨rfl,fun q a' h1 h3 h4 h5=>?_⟩
 by_cases e2:q=i/\a'=a
 ·obtain⟨rfl,rfl⟩:=e2
  rcases hn with hn|hn
  exact hn;rw[hn]at h5;cases h5
 exact h2 q a' J h3 h4 h5⟩
theorem oM.set(hM:∀i:Nat,M.getD i aD=aB->∃ws,pI l (2,(i:Int)) ws)(hc:E6 w l n c)(hs:iR n l){N:Nat}(h:oM l w (eo c w) M N O O' more i a)(hi:i<l.length)(ha:a<=w.length)(hN:l[i].1.toNat<N)(h0:O' l[i].1.toNat a=aD)(h1:qx (eo c w) O' M w.length a l[i].2=aB):oM l w (eo c w) M N O (Dc O' l[i].1.toNat a) aB i (a+1):=by
 obtain⟨s1,s2,s3⟩:=hs _ (bV hi);refine⟨fun k b hk hb=>?_,fun _=>?_,fun e=>by cases e⟩
 ·unfold Dc at hk
  by_cases e:k=l[i].1.toNat/\b=a
  ·obtain⟨rfl,rfl⟩:=e
   obtain⟨v,hv⟩:=Lc hM hc hs h.sound ha (fun x hx=>(s3 x hx)) h1;exact⟨v,.MY (by show(2:Int)≠1;decide) (bV hi) (by show l[i].1=((l[i].1.toNat:Nat):Int);omega) hv⟩
  rw[if_neg e]at hk;exact h.sound k b hk hb
 have:=aeg (N:=N) (m:=w.length+1) hN (by omega:a<w.length+1) h0
 cases hm:more
 ·obtain⟨rfl,_⟩:=h.still hm
  exact this
 have:=h.less hm;omega
end
open Classical in
noncomputable def gX(g:dF)(w:List Int):Bool:=decide (fB g w=0/\∃v,pI g.az (2,0) (w++v))
open Classical in
theorem mG{g:dF}{w:List Int}:gX g w=aB↔fB g w=0/\∃v,pI g.az (2,0) (w++v):=by
 unfold gX;rw[decide_eq_true_iff]
theorem abx{n:Nat}{l:List aM.Prod}(hf:C3 n l)(hs:iR n l):zZ (Iq l) (fun s=>VK n s/\yK l s) (Aa n):=
 ⟨fun s yf=>⟨(yG hf).keep s yf.1,Ae hs l (fun _ h=>h) _ yf.2⟩,fun s yf=>(yG hf).dec s yf.1⟩
theorem Gx{g:dF}{n:Nat}(h_:cD g=0)(hn:g.bB=n):VK n (mS n g.az)/\yK g.az (mS n g.az):=by
 have hf:=wW h_ hn;have hs:=pG h_ hn;have hz:∀i:Nat,(db n aD).getD i aD=false:=fun i=>by
  rw[bD,List.getElem?_replicate];split<;>rfl
 have h0:yK g.az ⟨db n aD,(db n aD).set 0 aB,db n aD,aD⟩:=
  ⟨fun i h=>(by have h:(db n aD).getD i aD=true:=h;rw[hz i]at h;cases h),fun i h=>(by have h:(db n aD).getD i aD=true:=h;rw[hz i]at h;cases h)⟩
 obtain⟨s',h1,h2,h3⟩:=q8 (abx hf hs) _ ⟨db n aD,(db n aD).set 0 aB,db n aD,aD⟩ ⟨⟨by simp,by simp,by simp⟩,h0⟩ (aT _);have e:mS n g.az=fh g.az ⟨s'.E,s'.R,s'.M,aD⟩:=h3;rw[e];exact(abx hf hs).keep s' h1
theorem WW{g:dF}{w:List Int}{n:Nat}{c:fA}(h_:fB g w=0)(hn:g.bB=n)(hc:E6 w g.az n c){O O':Nat->Nat->Bool}{k:Nat}(h:oM g.az w (eo c w) (mS n g.az).M k O O' aD g.az.length 0):O' 0 0=gX g w:=by
 obtain⟨hg,_,_⟩:=ko h_;have hs:=pG hg hn;have hC:=BI hg hn;obtain⟨rfl,hst⟩:=h.still rfl;have e:O' 0 0=aB↔gX g w=true:=by
  rw[mG]
  constructor
  ·intro h1
   obtain⟨v,hv⟩:=h.sound 0 0 h1 (bC _);exact⟨h_,v,hv⟩
  rintro⟨_,v,hv⟩;have:=CD hC hc hs (O:=O') (fun p hp a ha hop=>by
   obtain⟨q,hq,rfl⟩:=jG.1 hp;exact hst q a (.inl hq) hq ha hop) hv (by show(2:Int)≠1;decide) (a:=0) (v:=v) (bC _) I
  exact this
 cases h1:O' 0 0<;>cases h2:gX g w<;>simp_all
end o8
end Go.Proofs.YtdmgcnggnejnnaaGreat

/- Part 5 of what SessionCreditUpto needs: ClimbC, ClimbD, ClimbE, LexL, LexA, LexB, SmBk, LexN, LrM, LrN, LrP, LrT, SpecG, SpecV, SpecLst, AbcL, SpecOneL, IntS, BuA, BuB, WhL, FeedL, FeedP, GateL, GateM, SeL, SeP, BuC, Half, WhC, Ev, EvS, GateC, GateD, FeedA, FeedB, FeedC, SeM, SeN, Bun, Mk2, SeO, SeQ, FeedN, SeU. -/
import Derived.Test.YtaobbfedlnddcaaGreatMgD
namespace Go.Proofs.YtaobbfedlnddcaaGreat
set_option linter.unusedVariables false
set_option linter.unusedSimpArgs false
open _root_.And renaming intro->cC
open _root_.Array renaming getElem?_eq_some_iff->jt,length_toList->lC
open _root_.Bool renaming false->aE,true->aD,and_eq_true->eV,true_and->uP,or_eq_false_iff->Dd
open _root_.Classical renaming not_not->aeA
open _root_.False renaming elim->nK
open _root_.Go.BigFrame renaming execOp_builtin->lD,builtin_append->rG
open _root_.Go.Builtin renaming append_->tj,lenOf->zK,firstCells->CJ
open _root_.Go.Instr renaming build->df
open _root_.Go.IntKind renaming i64->az
open _root_.Go.Oper renaming wp->fM
open _root_.Go.Proofs.Tryz renaming prog->aB
open _root_.Go.Value renaming slice->ap,int->av,pointer->aJ,agg->aQ,oneCell'->eQ,ownBlock->rM,cells->sw
open _root_.Go.Value.slice renaming injEq->iT
open _root_.Int renaming toNat_natCast->dB,eq_ofNat_of_zero_le->hY,le_refl->k8,toNat_of_nonneg->tV
open _root_.List renaming getElem?_eq_getElem->bD,getD_eq_getElem?_getD->cH,length_append->bK,getElem?_eq_some_iff->dl,getElem_mem->cD,length_cons->c_,all_cons->cY,drop_eq_getElem_cons->eI,all_nil->da,mem_singleton->dQ,size_toArray->dU,length_map->dI,mem_cons->dx,getElem?_append_left->gJ,append_nil->eG,getElem?_map->eX,append_assoc->eY,nil_append->eJ,flatMap_append->gO,getElem?_toArray->jf,mem_append->fj,mem_cons_self->gZ,not_mem_nil->fl,drop_of_length_le->jg,length_nil->gU,mem_map->fa,mem_iff_getElem->g_,length_drop->iX,mem_cons_of_mem->kC,getElem?_append_right->mP,getElem?_eq_none->ku,eq_nil_of_length_eq_zero->rN,mem_of_getElem?->kR,length_take->iU,length_singleton->lO,take_length->my,drop_eq_nil_of_le->oL,cons_append->kS,getElem?_cons_zero->tu,drop_zero->nh,any_eq_false->sD,drop_drop->qi,getElem?_take->qu,getElem?_of_mem->wW,mem_of_mem_drop->AB,exists_cons_of_ne_nil->Qc,mem_flatMap->Ad,length_reverse->Qd,length->xP,getElem?_take_of_lt->Zu,getD_cons_succ->Zv,getElem?_drop->Zw,flatMap_nil->Zx,take_left->Zy,map_take->Zz
open _root_.Nat renaming le_refl->bm,zero_le->bH,zero_add->cV,blt->dj,add_mul->jh,not_lt_zero->lT,lt_succ_self->mz,add_zero->jw,succ_mul->kU,sub_self->nT,succ_ne_zero->EP,le_add_right->Ae,zero_mul->wZ,add_sub_cancel->Qf,succ_le_succ->Qg,succ_pos->Dh,le_of_eq->ZA
open _root_.Option renaming some->aj,none->ak,getD_some->kD,map_some->ZB
open _root_.Option.some renaming injEq->dr,inj->rP
open _root_.Prod renaming snd->Ew
open _root_.Prod.mk renaming injEq->hJ
open _root_.True renaming intro->cI
open _root_.Vector renaming getElem_ofFn->ke
set_option maxHeartbeats 16000000
namespace bZ
open Go.RowKit cU dM aT dL e8
def iC(ll:List (List Int))(col:Nat)(n:Int):Int:=(ll.getD n.toNat []).getD col (-1)
structure EQ(g:d_)(ll:List (List Int))(T N:Nat):Prop where
 aR:g.aR=T
 bC:g.bC=N
 len:ll.length=N
 row:∀r∈ll,r.length=T+1
 nx:∀col,aaN g.aF (iC ll col)
theorem ZC{l:List aT.Prod}{nx:Int->Int}{f:Nat}{st:List TD}{out:List dv}{a:Nat}(h:(bP st out a).2.2.2=aE):fA l nx (f+1) st out a=((bP st out a).1,(bP st out a).2.1,(bP st out a).2.2.1,14):=by
 rw[fA,if_pos h]
theorem ZD{l:List aT.Prod}{nx:Int->Int}{f:Nat}{st:List TD}{out:List dv}{a:Nat}(h:(bP st out a).2.2.2=aD)(h2:(bP st out a).1=[]):fA l nx (f+1) st out a=([],(bP st out a).2.1,(bP st out a).2.2.1,0):=by
 rw[fA,if_neg (by simp[h])];simp only[h2]
theorem ZE{l:List aT.Prod}{nx:Int->Int}{f:Nat}{st:List TD}{out:List dv}{a:Nat}{x:dv}{r:List TD}(h:(bP st out a).2.2.2=aD)(h2:(bP st out a).1= .sym x::r):
 fA l nx (f+1) st out a=if x.1=1 then(.sym x::r,(bP st out a).2.1,(bP st out a).2.2.1,0)else if nx x.2<0 then(.sym x::r,(bP st out a).2.1,(bP st out a).2.2.1,13)
  else if(bP st out a).2.2.1+1<=2000/\(opened l (nx x.2) r).length<=60 then fA l nx f (opened l (nx x.2) r) ((bP st out a).2.1++[(1,nx x.2)]) ((bP st out a).2.2.1+1)
  else(opened l (nx x.2) r,(bP st out a).2.1++[(1,nx x.2)],(bP st out a).2.2.1+1,14):=by
 rw[fA,if_neg (by simp[h])];simp only[h2]
def dwS(gw:Nat)(t n:Int)(vp:Value)(R:List TD×List dv×Nat×Int):Spec (Value×Value):=⟨λ_=>True,λ_=>av az R.2.2.2,λx=>[xL gw t n vp x.1 x.2 R.2.2.1,wk x.1 R.1,kM x.2 R.2.1]⟩
theorem Bw(w0:World)(gw:Nat)(t n:Int)(vp vr:Value)(g:d_)(ll:List (List Int))(T N col:Nat)(hG:jQ nY (λk=>k<w0.heap.size) w0 vp g.aF)(hR:zj w0 vr ll)(hg:bX g=0)(hT:EQ g ll T N)(aiu:col<=T)
 (Zq Zr:Value) (Vd:List TD) (w:World) (B:bR) (UZ:∀d∈Vd,qx g d) (hl0:Vd.length<=60) (ho:pC w0 B) (hm:Mem B [xL gw t n vp Zq Zr 0,wk Zq Vd,kM Zr []] w):
 Calls aB 119 #[aJ (aj ⟨gw,0,ak⟩),vr,av az (col:Int)] w (dc (dwS gw t n vp (fA g.aF (iC ll col) 2001 Vd [] 0)) B):=by
 obtain⟨a1,a2,a3,a4,a5,a6⟩:=cP hg;have R5:=λp hp vt vo d r out dD w B h1 h2 h3 ho hm=>Qa w0 gw t n vp g.aF hG J p hp (a6 _ (cD hp)).1 vt vo d r out dD w B h1 h2 h3 ho hm;have uH:=hT.nx col;obtain⟨br,cr,rfl,U2,vC,Dr⟩:=hR;unfold maxLen at vC;refine dA hm (args:=[aJ (aj ⟨gw,0,ak⟩),ap br ll.length cr,av az (col:Int)]) (n:=60) Tryz.func119 I I I ?_;clear hm
 try refine GA ?_
 generalize hD:fA g.aF (iC ll col) 2001 Vd [] 0=D;refine dY (ι:=Nat×List TD×List dv×Nat×Value×Value) (λ(f,st,out,dD,_,_)=>fA g.aF (iC ll col) f st out dD=D/\2001<=f+dD/\st.length<=60/\dD<=2000/\out.length=dD/\∀d∈st,qx g d) (λ_=>[(0,aJ (aj ⟨gw,0,ak⟩)),(1,ap br ll.length cr),(2,av az (col:Int))])
  (λ(_,st,out,dD,vt,vo)=>[xL gw t n vp vt vo dD,wk vt st,kM vo out]) (λ(f,_,_,_,_,_)=>f) (2001,Vd,[],0,Zq,Zr) ⟨hD,by omega,hl0,by omega,rfl,UZ⟩ ?_
 clear hD UZ hl0;rintro⟨f,st,out,dD,vt,vo⟩ ⟨hD,h1,h2,h3,h4,h5⟩;dsimp only at hD h1 h2 h3 h4 h5⊢;obtain⟨f,rfl⟩:∃f',f=f'+1:=⟨f-1,by omega⟩
 try refine GA ?_
 refine bx [0,1,2] [] aiz I I (iM aI.en I I) (λw hm hb=>rq gw t n vp vt vo st out dD w _ J h3 h4 hb) I I I ?_;obtain⟨z1,z2,z3,z4⟩:=@sd st out dD;have z5:=qY (out:=out) (a:=dD) h5;rintro⟨Zt,vo1⟩ _
 conv=>arg 8;simp only[zJ,cL,ret,id_eq,clS,eJ]
 have hno:=@ZC g.aF (iC ll col) f st out dD;have agn:=@ZD g.aF (iC ll col) f st out dD;have ago:=λx r=>@ZE g.aF (iC ll col) f st out dD x r;have agp:=@xI st out dD;generalize bP st out dD=C at*;obtain⟨st1,gj,R9,ok⟩:=C;dsimp only at*
 cases ok with
 | false=>
  rw[hno I]at hD;subst hD
  try refine GA ?_
  exact cJ I I λw hm=>hm.cB (S:=dwS gw t n vp (st1,gj,R9,14)) (Zt,vo1) trivial [0,1,2] aiz I
 | true=>
  have zz3:=z3 I h3;clear z3;rcases agp rfl with rfl|⟨x,r,rfl⟩
  ·rw[agn I I]at hD
   subst hD
   try refine GA ?_
   refine dK ([xL gw t n vp Zt vo1 R9,wk Zt []]) (.calm 0 (.calm 1 (.calm 2 (.calm 3 (.calm 4 (.calm 5 (.calm 6 (.calm 7 (.calm 8 (.calm 9 (.calm 10 (.calm 11 (.calm 12 (.calm 13 (.calm 14 (.calm 15 (.calm 16 (.calm 17 (.calm 18 (.calm 19 (.calm 20 (.calm 21 (.calm 22 (.done)))))))))))))))))))))))) (bV [0,1]) ?_
   repeat(first|(refine GN ?_;first|refine QW QP ?_|refine QW (aC (v:=Zt) aK.ty I (aH (i:=0) I I)) ?_|refine QW (eR (i:=1) bL.eq I I) ?_|refine QW (de (b:=aD) I I I) ?_|refine GX ?_)|refine GW ?_)
   try refine GA ?_
   exact cJ I I λw hm=>hm.cB (S:=dwS gw t n vp ([],gj,R9,0)) (Zt,vo1) trivial [0,1,2] aiz I
  have Kk:=ago x r I I;simp only[c_]at z1;have z6:right g.aR g.bC x=true:=z5 _ (gZ ..);have z7:=λd hd=>z5 d (kC _ hd);clear hno agn agp ago
  try refine GA ?_
  refine xp (i:=1) I (by simp) λgt ct hv q1 q2=>?_;subst hv;simp only[c_]at*;obtain⟨k,m⟩:=x
  by_cases c1:k=1
  ·subst c1
   rw[if_pos I]at Kk;rw[Kk]at hD;subst hD;refine dK ([xL gw t n vp (ap (aj ⟨gt,0,ak⟩) (r.length+1) ct) vo1 R9,wk (ap (aj ⟨gt,0,ak⟩) (r.length+1) ct) (.sym (1,m)::r)]) (.calm 0 (.calm 1 (.calm 2 (.calm 3 (.calm 4 (.calm 5 (.calm 6 (.calm 7 (.calm 8 (.calm 9 (.calm 10 (.calm 11 (.calm 12 (.calm 13 (.calm 14 (.calm 15 (.calm 16 (.calm 17 (.calm 18 (.calm 19 (.calm 20 (.calm 21 (.calm 22 (.done)))))))))))))))))))))))) (bV [0,1]) ?_
   repeat(first|(refine GN ?_;first|refine QW QP ?_|refine QW (aC (v:=ap (aj ⟨gt,0,ak⟩) (r.length+1) ct) aK.ty I (aH (i:=0) I I)) ?_|refine QW (eC (r:=(r.length:Int)) I I J J J) ?_|refine QW (aX (j:=r.length) bL.eq aK.ty I I J) ?_|refine QW (aC (v:=av az 1) aK.ty I (Bv (i:=1) I 2 _ I)) ?_|refine QW (de (b:=aE) I I (decide_eq_false J)) ?_|refine QW (de (b:=aD) I I I) ?_|refine GX ?_)|refine GW ?_)
   try refine GA ?_
   exact cJ I I λw hm=>hm.cB (S:=dwS gw t n vp (.sym (1,m)::r,gj,R9,0)) (_,vo1) trivial [0,1,2] aiz I
  rw[if_neg c1]at Kk;unfold right at z6;dsimp only at z6;rw[if_neg c1]at z6
  by_cases c2:k=2
  ·subst c2
   rw[if_pos I]at z6;simp only[eV,decide_eq_true_eq]at z6;obtain⟨q,rfl⟩:∃q:Nat,m=q:=⟨m.toNat,by omega⟩;have hq:q<ll.length:=by rw[hT.len];have:=hT.bC;omega
   obtain⟨b,off,rfl,_,eL⟩:=Dr J;obtain⟨vi,y1,y2⟩:=R0 eL hq;have Fk:=hT.row _ (cD hq);have agq:iC ll col (q:Int)=ll[q].getD col (-1):=by unfold iC;rw[dB,cH (l:=ll),bD hq];rfl
   have lf:=uH (q:Int);rw[agq]at lf;dsimp only at Kk;rw[agq]at Kk;generalize ll[q]=row at*;obtain⟨bi,ci,rfl,w1,w2,w3⟩:=y2;obtain⟨b3,abN,rfl,MA⟩:=w3 J;have hc:row[col]?=aj (row.getD col (-1)):=by rw[cH,bD J];rfl
   have IP:∀L,At B L ⟨b,off+q,ak⟩ (ap (aj ⟨b3,abN,ak⟩) row.length ci):=λL=>iw ho y1;have s8:∀L,At B L ⟨b3,abN+col,ak⟩ (av az (row.getD col (-1))):=λL=>iw ho (MA col _ (by rw[eX,hc];rfl));clear eL y1 MA w3 Dr;generalize row.getD col (-1)=p at*;refine dK ([xL gw t n vp (ap (aj ⟨gt,0,ak⟩) (r.length+1) ct) vo1 R9,wk (ap (aj ⟨gt,0,ak⟩) (r.length+1) ct) (.sym (2,(q:Int))::r)]) (.calm 0 (.calm 1 (.calm 2 (.calm 3 (.calm 4 (.calm 5 (.calm 6 (.calm 7 (.calm 8 (.calm 9 (.calm 10 (.calm 11 (.calm 12 (.calm 13 (.calm 14 (.calm 15 (.calm 16 (.calm 17 (.calm 18 (.calm 19 (.calm 20 (.calm 21 (.calm 22 (.done)))))))))))))))))))))))) (bV [0,1]) ?_
   repeat(first|(refine GN ?_;first|refine QW QP ?_|refine QW (aC (v:=ap (aj ⟨gt,0,ak⟩) (r.length+1) ct) aK.ty I (aH (i:=0) I I)) ?_|refine QW (eC (r:=(r.length:Int)) I I J J J) ?_|refine QW (aX (j:=r.length) bL.eq aK.ty I I J) ?_|refine QW (aC (v:=av az 2) aK.ty I (Bv (i:=1) I 2 _ I)) ?_|refine QW (de (b:=aE) I I (decide_eq_false J)) ?_|refine GX ?_)|refine GW ?_)
   try refine GA ?_
   refine dK ([xL gw t n vp (ap (aj ⟨gt,0,ak⟩) (r.length+1) ct) vo1 R9,wk (ap (aj ⟨gt,0,ak⟩) (r.length+1) ct) (.sym (2,(q:Int))::r)]) (.calm 0 (.calm 1 (.calm 2 (.calm 3 (.calm 4 (.calm 5 (.calm 6 (.calm 7 (.calm 8 (.calm 9 (.calm 10 (.calm 11 (.calm 12 (.calm 13 (.calm 14 (.calm 15 (.calm 16 (.calm 17 (.calm 18 (.calm 19 (.calm 20 (.done)))))))))))))))))))))) (bV [0,1]) ?_
   repeat(first|(refine GN ?_;first|refine QW QP ?_|refine QW (aC (v:=ap (aj ⟨gt,0,ak⟩) (r.length+1) ct) aK.ty I (aH (i:=0) I I)) ?_|refine QW (eC (r:=(r.length:Int)) I I J J J) ?_|refine QW (aX (j:=r.length) bL.eq aK.ty I I J) ?_|refine QW (aC (v:=av az (q:Int)) aK.ty I (Bv (i:=1) I 3 _ I)) ?_|refine QW (bY (j:=q) bL.eq aK.ty I I hq) ?_|refine QW (aC aK.ty I (IP _)) ?_|refine QW (bY (j:=col) bL.eq aK.ty I I J) ?_|refine QW (aC aK.ty I (s8 _)) ?_|refine GX ?_)|refine GW ?_)
   by_cases c3:p<0
   ·rw[if_pos c3]at Kk
    rw[Kk]at hD;subst hD
    try refine GA ?_
    exact cJ I I λw hm=>hm.cB (S:=dwS gw t n vp (.sym (2,(q:Int))::r,gj,R9,13)) (_,vo1) trivial [0,1,2] aiz I
   rw[if_neg c3]at Kk;obtain⟨pn,rfl⟩:∃pn:Nat,p=pn:=⟨p.toNat,by omega⟩;have hpn:pn<g.aF.length:=by have:=(lf J).1;omega
   have hop:=R5 pn hpn;have hoo:=As hg (p:=(pn:Int)) J J z7
   try refine GA ?_
   refine bx [0,1,2] [] aiz I I (fI aI.en I I I) (λw hm hb=>hop _ vo1 (.sym (2,(q:Int))) r gj R9 w _ J zz3 J (ho.on hm λo h=>DZ h) hb) I I I ?_;rintro⟨R6,Ve⟩ _
   conv=>arg 8;simp only[zJ,cL,ret,id_eq,opS,eJ]
   conv=>arg 7;simp only[opS]
   have QH:(opened g.aF (pn:Int) r).length=(opened g.aF (pn:Int) r).length:=rfl;generalize ad0:opened g.aF (pn:Int) r=st2 at*
   by_cases c4:R9+1<=2000/\st2.length<=60
   ·rw[if_pos c4]at Kk
    rw[Kk]at hD;rw[decide_eq_true c4]
    try refine GA ?_
    refine dh [0,1,2] ?_;exact bW (f,st2,gj++[(1,(pn:Int))],R9+1,R6,Ve) ⟨hD,(by show 2001<=f+(R9+1);omega),c4.2,c4.1,(by show(gj++[(1,(pn:Int))]).length=R9+1;simp;omega),hoo⟩ (by show f<f+1;omega)
   rw[if_neg c4]at Kk;rw[Kk]at hD;subst hD;rw[decide_eq_false c4]
   try refine GA ?_
   exact cJ I I λw hm=>hm.cB (S:=dwS gw t n vp (st2,gj++[(1,(pn:Int))],R9+1,14)) (R6,Ve) trivial [0,1,2] aiz I
  rw[if_neg c2]at z6;cases z6
end bZ
namespace bZ
open Go.RowKit cU dM aT dL e8
theorem Ux(w:World):(df 156 #[(0,av az 2)]).run aB w= .ok (aQ (ep (2,0)).toArray) w:=by
 unfold ep;go_simp
theorem Uy(g:Nat)(w:World):(df 91 #[(0,ap (aj ⟨g,0,ak⟩) 1 1)]).run aB w= .ok (sO (ap (aj ⟨g,0,ak⟩) 1 1) 0 0 aE) w:=by
 unfold sO;go_simp
def Cu:Spec Value:=⟨λ_=>True,λvt=>sO vt 0 0 aE,λvt=>[wk vt [.sym (2,0)]]⟩
set_option maxRecDepth 100000 in
theorem AW(w:World):Calls aB 27 #[] w (cz Cu w):=by
 refine enter (args:=[]) (n:=5) Tryz.func27 I I I ?_;refine b9 (bz (aY I λg2=>?_));refine zL ?_
 repeat(first|refine QZ ?_|refine QV (bB I Ux) ?_|refine QV (bB I (GU (2,0))) ?_)
 refine fm (cs:=(wy (.sym (2,0))).toArray) [Ke (.sym (2,0))] I I I (by intro v hv;simp at hv;subst hv;rfl) I I I λg3=>?_;refine zL ?_
 repeat(first|refine QZ ?_|refine QV (bB I (Uy _)) ?_)
 refine gh 0 (cs':=#[ap (aj ⟨g3,0,ak⟩) 1 1,av az 0,av az 0,.bool aE]) ?_;refine zL ?_;refine yq (i:=1) 4 I I J ?_;refine zL ?_
 try refine GA ?_
 exact fF (i:=0) I I I I λw hm=>hm.meets (S:=Cu) (ap (aj ⟨g3,0,ak⟩) 1 1) trivial [1] aiz I
theorem ZF(t n:Int)(bp:Option Addr)(mp cp:Nat)(bt:Option Addr)(mt ct:Nat)(w:World):(df 260 #[(0,dE t n (ap bp mp cp)),(1,ap bt mt ct)]).run aB w= .ok (.agg (Lb t n (ap bp mp cp) (ap bt mt ct) (ap ak 0 0) 0)) w:=by
 unfold dE Lb;go_simp
def JH(t n:Int)(vp:Value)(st:List TD):Spec (Nat×Value):=⟨λ_=>True,λx=>aJ (aj ⟨x.1,0,ak⟩),λx=>[xL x.1 t n vp x.2 (ap ak 0 0) 0,wk x.2 st]⟩
theorem Bx(t n:Int)(vp vt:Value)(st:List TD)(seen over:Int)(done:Bool)(w:World)(ht:TdR w vt st)(hl:st.length<=60)(hvp:∃b m c,vp=ap b m c):
 Calls aB 118 #[dE t n vp,sO vt seen over done] w (cz (JH t n vp st) w):=by
 have iz:=λw' (hg:Gr w w')=>EN vt st.reverse w' (by rw[Qd];exact ht.gr hg) (by rw[Qd];omega);rw[Qd]at iz;obtain⟨bp,mp,cp,rfl⟩:=hvp;refine enter (args:=[dE t n (ap bp mp cp),sO vt seen over done]) (n:=11) Tryz.func118 I I I ?_;refine b9 (bz (bQ I I I λg0=>bQ I I I λg1=>?_));refine zL ?_
 try refine GA ?_
 refine dK ([aP g0 (dE t n (ap bp mp cp)).cells 34,aP g1 (sO vt seen over done).cells 91]) (.calm 0 (.calm 1 (.calm 2 (.one 3 (.calm 4 (.one 5 (.calm 6 (.done)))))))) (λ_ h=>h) ?_
 repeat(first|refine GW ?_|(refine GN ?_;first|refine QW (aO (i:=0) aK.ty I I I) ?_|refine QW (aC (v:=vt) aK.ty I (aH (i:=1) I I)) ?_))
 refine aL I ?_;refine aW (iM aI.en I I) (λw hm=>iz _ hm.below) I I I ?_;intro og _;refine zL ?_;refine lu (i:=2) I λbt ct hv q1 q2=>?_;subst hv;refine aM (bV [0,1]) ?_
 repeat(first|refine GW ?_|(refine GN ?_;first|refine QW (bB I (ZF _ _ _ _ _ _ _ _)) ?_))
 refine aL I (bQ I I I λg2=>?_);refine zL ?_;refine aM (bV [0,1]) ?_
 try refine GW ?_
 try refine GA ?_
 exact cJ I I λw hm=>hm.meets (S:=JH t n (ap bp mp cp) st) (g2,ap bt st.length ct) trivial [3,2] aiz I
theorem MB{l:List aT.Prod}{nx:Int->Int}{st:List TD}{seen:Nat}{t:Int}{st1:List TD}{gj:List dv}{a1:Nat}{e:Int}(hD:fA l nx 2001 st [] 0=(st1,gj,a1,e))(he:e≠0):jR l nx st seen t=(e,[],[]):=by
 unfold jR;rw[hD];dsimp only;rw[if_pos he]
theorem ZG{l:List aT.Prod}{nx:Int->Int}{st:List TD}{seen:Nat}{t:Int}{gj:List dv}{a1:Nat}(hD:fA l nx 2001 st [] 0=([],gj,a1,0)):jR l nx st seen t=(13,[],[]):=by
 unfold jR;rw[hD];dsimp only;rw[if_neg aiz]
theorem ZH{l:List aT.Prod}{nx:Int->Int}{st:List TD}{seen:Nat}{t:Int}{x:dv}{r:List TD}{gj:List dv}{a1:Nat}(hD:fA l nx 2001 st [] 0=(.sym x::r,gj,a1,0)):jR l nx st seen t=if x.2≠t then(13,[],[])else if a1+1<=2000/\(bP r (gj++[(2,(seen:Int))]) (a1+1)).2.2.2=aD then(0,(bP r (gj++[(2,(seen:Int))]) (a1+1)).1,(bP r (gj++[(2,(seen:Int))]) (a1+1)).2.1)else(14,[],[]):=by
 unfold jR;rw[hD];dsimp only;rw[if_neg aiz]
theorem R_{l:List aT.Prod}{nx:Int->Int}{st:List TD}{st1:List TD}{gj:List dv}{a1:Nat}{e:Int}(hD:fA l nx 2001 st [] 0=(st1,gj,a1,e))(he:e≠0):jm l nx st=(e,[]):=by
 unfold jm;rw[hD];dsimp only;rw[if_pos he]
theorem ab4{l:List aT.Prod}{nx:Int->Int}{st:List TD}{gj:List dv}{a1:Nat}(hD:fA l nx 2001 st [] 0=([],gj,a1,0)):jm l nx st=(0,gj):=by
 unfold jm;rw[hD];dsimp only;rw[if_neg aiz]
theorem ab5{l:List aT.Prod}{nx:Int->Int}{st:List TD}{x:dv}{r:List TD}{gj:List dv}{a1:Nat}(hD:fA l nx 2001 st [] 0=(.sym x::r,gj,a1,0)):jm l nx st=(13,[]):=by
 unfold jm;rw[hD];dsimp only;rw[if_neg aiz]
def sT(seen:Int)(R:Int×List TD×List dv):Spec (Value×Value):=
 ⟨λ_=>True,λx=>if R.1=0 then .tuple #[sO x.1 (seen+1) 0 aE,x.2,av az 0]else .tuple #[sO (ap ak 0 0) seen R.1 aE,ap ak 0 0,av az R.1],λx=>if R.1=0 then [wk x.1 R.2.1,kM x.2 R.2.2]else []⟩
theorem kO(seen e:Int)(w:World):(df 91 #[(1,av az seen),(2,av az e)]).run aB w= .ok (sO (ap ak 0 0) seen e aE) w:=by
 unfold sO;go_simp
theorem Uz(b:Option Addr)(m c:Nat)(seen:Int)(w:World):(df 91 #[(0,ap b m c),(1,av az seen)]).run aB w= .ok (sO (ap b m c) seen 0 aE) w:=by
 unfold sO;go_simp
theorem B1(v vr vt:Value)(g:d_)(ll:List (List Int))(T N:Nat)(st:List TD)(seen t:Nat)(w:World)(h:jZ (λk=>k<w.heap.size) w v g)(hr:zj w vr ll)(ht:TdR w vt st)(h0:EL g ll=0)(hg:bX g=0)(hT:EQ g ll T N)(hs:∀d∈st,qx g d)(hl:st.length<=60)(h1:seen<=1000000)(h2:t<T):
 Calls aB 91 #[v,vr,sO vt (seen:Int) 0 aE,av az (t:Int)] w (cz (sT (seen:Int) (jR g.aF (iC ll t) st seen (t:Int))) w):=by
 have iS:=λw' (yG:Gr w w')=>rr v vr vt g ll st (seen:Int) (t:Int) w' (h.gr yG) (hr.gr yG) (ht.gr yG) h0 hs hl J J J (by have:=hT.aR;omega);have Hu:=hT.aR;obtain⟨vp,rfl,hp,_⟩:=h;have BJ:=λw' (yG:Gr w w')=>Bx g.aR g.bC vp vt st (seen:Int) 0 aE w' (ht.gr yG) hl (by obtain⟨b,c,e,_⟩:=hp;exact⟨b,_,c,e⟩);have hdw:=λgw Zq Zr w' B ho hm=>Bw w gw g.aR g.bC vp vr g ll T N t hp hr hg hT J Zq Zr st w' B hs hl ho hm;have UY:=λR=>@yP g.aF (iC ll t) 2001 st [] 0 R;have hdt:=λR=>@uh g.aF (iC ll t) 2001 st [] 0 R;have hde:=@uf g.aF (iC ll t) 2001 st [] 0;generalize hD:fA g.aF (iC ll t) 2001 st [] 0=D at*;obtain⟨st1,gj,a1,e⟩:=D;have UY:=λh=>UY _ I h hl J;have hdt:=λh=>hdt _ I h;dsimp only at*;refine enter (args:=[dE g.aR g.bC vp,vr,sO vt (seen:Int) 0 aE,av az (t:Int)]) (n:=96) Tryz.func91 I I I ?_;refine b9 (bz (bQ I I I λg0=>bQ I I I λg1=>aY I λg2=>?_));refine zL ?_
 repeat(first|refine GA ?_|refine gV (aC (v:=av az g.aR) aK.ty I (aH (i:=0) I I)) ?_|refine gV (aO (i:=0) aK.ty I I I) ?_|refine gV (aO (i:=1) aK.ty I I I) ?_)
 refine aW (SO aI.en I I I I I) (λw hm=>iS _ hm.below) I I I ?_;intro _ _;refine zL ?_
 repeat(first|refine GA ?_|refine gV (aO (i:=0) aK.ty I I I) ?_|refine gV (aO (i:=1) aK.ty I I I) ?_)
 refine aW (fI aI.en I I I) (λw hm=>BJ _ hm.below) I I I ?_;rintro⟨gw,Zt⟩ _
 conv=>arg 8;simp only[zJ,cL,ret,id_eq,JH]
 try refine GA ?_
 refine vD 168 2 ?_;refine zL ?_;refine bx [3,4,5] [0,1,2] aiz I I (sZ aI.en I I I I) (λw' hm hb=>hdw gw Zt _ w' _ ((pC.self w).on hm λo h=>DZ h) hb) I I I ?_;rintro⟨R6,Ve⟩ _
 conv=>arg 8;simp only[zJ,cL,ret,id_eq,dwS]
 conv=>arg 7;simp only[dwS]
 rcases hde with rfl|rfl|rfl
 ·obtain⟨hd1,hd2,hd3,hd4⟩:=UY rfl
  rcases hdt rfl with rfl|⟨x,r,rfl,hx⟩
  ·rw[ZG hD]
   try refine GA ?_
   refine dK ([xL gw g.aR g.bC vp R6 Ve a1,wk R6 []]) (.calm 0 (.calm 1 (.calm 2 (.calm 3 (.calm 4 (.calm 5 (.calm 6 (.calm 7 (.calm 8 (.calm 9 (.calm 10 (.calm 11 (.calm 12 (.calm 13 (.calm 14 (.calm 15 (.calm 16 (.calm 17 (.calm 18 (.calm 19 (.calm 20 (.calm 21 (.calm 22 (.calm 23 (.calm 24 (.calm 25 (.calm 26 (.calm 27 (.done))))))))))))))))))))))))))))) (bV [3,4]) ?_
   repeat(first|(refine GN ?_;first|refine QW QP ?_|refine QW (aC (v:=R6) aK.ty I (aH (i:=0) I I)) ?_|refine QW (de (b:=aD) I I I) ?_|refine QW (eR (i:=1) bL.eq I I) ?_|refine GX ?_)|refine GW ?_)
   repeat(first|refine GA ?_|refine gV (aC (v:=av az (seen:Int)) aK.ty I (aH (i:=1) I I)) ?_|refine gV (bB I (kO _ _)) ?_)
   refine gh 2 (cs':=#[ap ak 0 0,av az (seen:Int),av az 13,.bool aE]) ?_;refine zL ?_
   try refine GA ?_
   exact ff (i:=2) I I I I I I λw hm=>hm.meets (S:=sT (seen:Int) (13,[],[])) (ap ak 0 0,ap ak 0 0) trivial [] aiz I
  rw[ZH hD];obtain⟨k,m⟩:=x;dsimp only at hx;subst hx;simp only[c_]at hd1
  try refine GA ?_
  refine xp (i:=4) I (by simp) λgt ct hv q1 q2=>?_;subst hv;simp only[c_]at*
  by_cases c1:m≠(t:Int)
  ·rw[if_pos c1]
   refine dK ([xL gw g.aR g.bC vp (ap (aj ⟨gt,0,ak⟩) (r.length+1) ct) Ve a1,wk (ap (aj ⟨gt,0,ak⟩) (r.length+1) ct) (.sym (1,m)::r)]) (.calm 0 (.calm 1 (.calm 2 (.calm 3 (.calm 4 (.calm 5 (.calm 6 (.calm 7 (.calm 8 (.calm 9 (.calm 10 (.calm 11 (.calm 12 (.calm 13 (.calm 14 (.calm 15 (.calm 16 (.calm 17 (.calm 18 (.calm 19 (.calm 20 (.calm 21 (.calm 22 (.calm 23 (.calm 24 (.calm 25 (.calm 26 (.calm 27 (.done))))))))))))))))))))))))))))) (bV [3,4]) ?_
   repeat(first|(refine GN ?_;first|refine QW QP ?_|refine QW (aC (v:=ap (aj ⟨gt,0,ak⟩) (r.length+1) ct) aK.ty I (aH (i:=0) I I)) ?_|refine QW (de (b:=aD) I I I) ?_|refine QW (de (b:=aE) I I (decide_eq_false J)) ?_|refine QW (aC (v:=av az m) aK.ty I (Bv (i:=1) I 3 _ I)) ?_|refine QW (dm (b:=aD) I I (decide_eq_true c1)) ?_|refine QW (eC (r:=(r.length:Int)) I I J J J) ?_|refine QW (aX (j:=r.length) bL.eq aK.ty I I J) ?_|refine GX ?_)|refine GW ?_)
   repeat(first|refine GA ?_|refine gV (aC (v:=av az (seen:Int)) aK.ty I (aH (i:=1) I I)) ?_|refine gV (bB I (kO _ _)) ?_)
   refine gh 2 (cs':=#[ap ak 0 0,av az (seen:Int),av az 13,.bool aE]) ?_;refine zL ?_
   try refine GA ?_
   exact ff (i:=2) I I I I I I λw hm=>hm.meets (S:=sT (seen:Int) (13,[],[])) (ap ak 0 0,ap ak 0 0) trivial [] aiz I
  rw[if_neg c1];obtain rfl:m=(t:Int):=by simpa using c1
  refine dK ([xL gw g.aR g.bC vp (ap (aj ⟨gt,0,ak⟩) (r.length+1) ct) Ve a1,wk (ap (aj ⟨gt,0,ak⟩) (r.length+1) ct) (.sym (1,(t:Int))::r)]) (.calm 0 (.calm 1 (.calm 2 (.calm 3 (.calm 4 (.calm 5 (.calm 6 (.calm 7 (.calm 8 (.calm 9 (.calm 10 (.calm 11 (.calm 12 (.calm 13 (.calm 14 (.calm 15 (.calm 16 (.calm 17 (.calm 18 (.calm 19 (.calm 20 (.calm 21 (.calm 22 (.calm 23 (.calm 24 (.calm 25 (.calm 26 (.calm 27 (.done))))))))))))))))))))))))))))) (bV [3,4]) ?_
  repeat(first|(refine GN ?_;first|refine QW QP ?_|refine QW (aC (v:=ap (aj ⟨gt,0,ak⟩) (r.length+1) ct) aK.ty I (aH (i:=0) I I)) ?_|refine QW (de (b:=aD) I I I) ?_|refine QW (de (b:=aE) I I (decide_eq_false J)) ?_|refine QW (aC (v:=av az (t:Int)) aK.ty I (Bv (i:=1) I 3 _ I)) ?_|refine QW (dm (b:=aE) I I (decide_eq_false (by simp))) ?_|refine QW (eC (r:=(r.length:Int)) I I J J J) ?_|refine QW (aX (j:=r.length) bL.eq aK.ty I I J) ?_|refine GX ?_)|refine GW ?_)
  repeat(first|refine GC ?_|refine gV (de (b:=aD) I I I) ?_|refine GB ?_)
  refine bx [3,4] [0,1,2,5] aiz I I (iM aI.en I I) (λw hm hb=>AV gw g.aR g.bC vp _ Ve (.sym (1,(t:Int))) r a1 w _ J hb) I I I ?_;intro R7 _;refine zL ?_;dsimp only
  repeat(first|refine GA ?_|refine gV (aC (v:=av az (seen:Int)) aK.ty I (aH (i:=1) I I)) ?_)
  refine bx [4,3] [0,1,2,5] aiz I I (sZ aI.en I I I I) (λw hm hb=>AU gw g.aR g.bC vp R7 Ve gj a1 2 (seen:Int) w _ (by simp at hd3;omega) J hb) I I I ?_;intro vo3 _;refine zL ?_;dsimp only
  by_cases c2:a1+1<=2000
  ·rw[decide_eq_true (show((a1+1:Nat):Int)<=2000 by omega)]
   try refine GA ?_
   refine B8 I I I ?_;refine bx [4,3,5] [0,1,2] aiz I I (iM aI.en I I) (λw hm hb=>rq gw g.aR g.bC vp R7 vo3 r (gj++[(2,(seen:Int))]) (a1+1) w _ J c2 (by simp at hd3⊢;omega) hb) I I I ?_;rintro⟨vt4,vo4⟩ _
   conv=>arg 8;simp only[zJ,cL,ret,id_eq,clS]
   conv=>arg 7;simp only[clS]
   generalize bP r (gj++[(2,(seen:Int))]) (a1+1)=C;obtain⟨st3,ahD,a3,ok⟩:=C;dsimp only
   cases ok with
   | true=>
    rw[if_pos ⟨c2,rfl⟩]
    repeat(first|refine GC ?_|refine gV (de (b:=aD) I I I) ?_|refine GB ?_)
    refine If (i:=4) I λbt ct' hv q3 q4=>?_;subst hv;refine dK ([xL gw g.aR g.bC vp (ap bt st3.length ct') vo4 a3,aP g1 (sO vt (seen:Int) 0 aE).cells 91]) (.calm 0 (.calm 1 (.calm 2 (.calm 3 (.calm 4 (.calm 5 (.calm 6 (.calm 7 (.calm 8 (.calm 9 (.calm 10 (.calm 11 (.one 12 (.calm 13 (.calm 14 (.done)))))))))))))))) (bV [3,1]) ?_
    repeat(first|refine GW ?_|(refine GN ?_;first|refine QW (aC (v:=ap bt st3.length ct') aK.ty I (aH (i:=0) I I)) ?_|refine QW (aC (v:=av az (seen:Int)) aK.ty I (aH (i:=1) I I)) ?_|refine QW (aC (v:=vo4) aK.ty I (aH (i:=0) I I)) ?_|refine QW (bB I (Uz _ _ _ _)) ?_))
    refine aL I (aV (i:=2) (cs':=#[ap bt st3.length ct',av az ((seen:Int)+1),av az 0,.bool aE]) I I I I I I (aM (bV [3,1]) ?_))
    try refine GW ?_
    try refine GA ?_
    exact ff (i:=2) I I I I I I λw hm=>hm.meets (S:=sT (seen:Int) (0,st3,ahD)) (ap bt st3.length ct',vo4) trivial [4,5] aiz I
   | false=>
    rw[if_neg (by rintro⟨_,h⟩;cases h)]
    try refine GA ?_
    repeat(first|refine GA ?_|refine gV (aC (v:=av az (seen:Int)) aK.ty I (aH (i:=1) I I)) ?_|refine gV (bB I (kO _ _)) ?_)
    refine gh 2 (cs':=#[ap ak 0 0,av az (seen:Int),av az 14,.bool aE]) ?_;refine zL ?_
    try refine GA ?_
    exact ff (i:=2) I I I I I I λw hm=>hm.meets (S:=sT (seen:Int) (14,[],[])) (ap ak 0 0,ap ak 0 0) trivial [] aiz I
  rw[if_neg (by rintro⟨h,_⟩;exact c2 h)];rw[decide_eq_false (show ¬((a1+1:Nat):Int)<=2000 by omega)]
  try refine GA ?_
  repeat(first|refine GA ?_|refine gV (aC (v:=av az (seen:Int)) aK.ty I (aH (i:=1) I I)) ?_|refine gV (bB I (kO _ _)) ?_)
  refine gh 2 (cs':=#[ap ak 0 0,av az (seen:Int),av az 14,.bool aE]) ?_;refine zL ?_
  try refine GA ?_
  exact ff (i:=2) I I I I I I λw hm=>hm.meets (S:=sT (seen:Int) (14,[],[])) (ap ak 0 0,ap ak 0 0) trivial [] aiz I
 ·rw[MB hD aiz]
  try refine GA ?_
  refine dK ([]) (.calm 0 (.calm 1 (.calm 2 (.calm 3 (.calm 4 (.calm 5 (.calm 6 (.calm 7 (.calm 8 (.calm 9 (.calm 10 (.calm 11 (.calm 12 (.calm 13 (.calm 14 (.calm 15 (.calm 16 (.calm 17 (.calm 18 (.calm 19 (.calm 20 (.calm 21 (.calm 22 (.calm 23 (.calm 24 (.calm 25 (.calm 26 (.calm 27 (.done))))))))))))))))))))))))))))) (bV []) ?_
  try refine GW ?_
  repeat(first|refine GA ?_|refine gV (aC (v:=av az (seen:Int)) aK.ty I (aH (i:=1) I I)) ?_|refine gV (bB I (kO _ _)) ?_)
  refine gh 2 (cs':=#[ap ak 0 0,av az (seen:Int),av az 13,.bool aE]) ?_;refine zL ?_
  try refine GA ?_
  exact ff (i:=2) I I I I I I λw hm=>hm.meets (S:=sT (seen:Int) (13,[],[])) (ap ak 0 0,ap ak 0 0) trivial [] aiz I
 ·rw[MB hD aiz]
  try refine GA ?_
  refine dK ([]) (.calm 0 (.calm 1 (.calm 2 (.calm 3 (.calm 4 (.calm 5 (.calm 6 (.calm 7 (.calm 8 (.calm 9 (.calm 10 (.calm 11 (.calm 12 (.calm 13 (.calm 14 (.calm 15 (.calm 16 (.calm 17 (.calm 18 (.calm 19 (.calm 20 (.calm 21 (.calm 22 (.calm 23 (.calm 24 (.calm 25 (.calm 26 (.calm 27 (.done))))))))))))))))))))))))))))) (bV []) ?_
  try refine GW ?_
  repeat(first|refine GA ?_|refine gV (aC (v:=av az (seen:Int)) aK.ty I (aH (i:=1) I I)) ?_|refine gV (bB I (kO _ _)) ?_)
  refine gh 2 (cs':=#[ap ak 0 0,av az (seen:Int),av az 14,.bool aE]) ?_;refine zL ?_
  try refine GA ?_
  exact ff (i:=2) I I I I I I λw hm=>hm.meets (S:=sT (seen:Int) (14,[],[])) (ap ak 0 0,ap ak 0 0) trivial [] aiz I
def JI(seen:Int)(R:Int×List dv):Spec Value:=
 ⟨λ_=>True,λx=>if R.1=0 then .tuple #[sO (ap ak 0 0) seen 0 aD,x,av az 0]else .tuple #[sO (ap ak 0 0) seen R.1 aE,ap ak 0 0,av az R.1],λx=>if R.1=0 then [kM x R.2]else []⟩
theorem UA(seen:Int)(w:World):(df 91 #[(1,av az seen),(3,.bool aD)]).run aB w= .ok (sO (ap ak 0 0) seen 0 aD) w:=by
 unfold sO;go_simp
theorem ER(v vr vt:Value)(g:d_)(ll:List (List Int))(T N:Nat)(st:List TD)(seen:Nat)(w:World)(h:jZ (λk=>k<w.heap.size) w v g)(hr:zj w vr ll)(ht:TdR w vt st)(h0:EL g ll=0)(hg:bX g=0)(hT:EQ g ll T N)(hs:∀d∈st,qx g d)(hl:st.length<=60)(h1:seen<=1000000):
 Calls aB 97 #[v,vr,sO vt (seen:Int) 0 aE] w (cz (JI (seen:Int) (jm g.aF (iC ll T) st)) w):=by
 have Hu:=hT.aR;have iS:=λw' (yG:Gr w w')=>rr v vr vt g ll st (seen:Int) g.aR w' (h.gr yG) (hr.gr yG) (ht.gr yG) h0 hs hl J J J J;obtain⟨vp,rfl,hp,_⟩:=h;have BJ:=λw' (yG:Gr w w')=>Bx g.aR g.bC vp vt st (seen:Int) 0 aE w' (ht.gr yG) hl (by obtain⟨b,c,e,_⟩:=hp;exact⟨b,_,c,e⟩);have hdw:=λgw Zq Zr w' B ho hm=>Bw w gw g.aR g.bC vp vr g ll T N T hp hr hg hT J Zq Zr st w' B hs hl ho hm;rw[<-Hu]at hdw;have hdt:=λR=>@uh g.aF (iC ll T) 2001 st [] 0 R;have hde:=@uf g.aF (iC ll T) 2001 st [] 0;generalize hD:fA g.aF (iC ll T) 2001 st [] 0=D at*;obtain⟨st1,gj,a1,e⟩:=D;have hdt:=λh=>hdt _ I h;dsimp only at*;refine enter (args:=[dE g.aR g.bC vp,vr,sO vt (seen:Int) 0 aE]) (n:=55) Tryz.func97 I I I ?_;refine b9 (bz (bQ I I I λg0=>bQ I I I λg1=>aY I λg2=>?_));refine zL ?_
 repeat(first|refine GA ?_|refine gV (aC (v:=av az g.aR) aK.ty I (aH (i:=0) I I)) ?_|refine gV (aO (i:=0) aK.ty I I I) ?_|refine gV (aO (i:=1) aK.ty I I I) ?_)
 refine aW (SO aI.en I I I I I) (λw hm=>iS _ hm.below) I I I ?_;intro _ _;refine zL ?_
 repeat(first|refine GA ?_|refine gV (aO (i:=0) aK.ty I I I) ?_|refine gV (aO (i:=1) aK.ty I I I) ?_)
 refine aW (fI aI.en I I I) (λw hm=>BJ _ hm.below) I I I ?_;rintro⟨gw,Zt⟩ _
 conv=>arg 8;simp only[zJ,cL,ret,id_eq,JH]
 repeat(first|refine GA ?_|refine gV (aC (v:=av az g.aR) aK.ty I (aH (i:=0) I I)) ?_)
 refine vD 168 2 ?_;refine zL ?_;refine bx [3,4,5] [0,1,2] aiz I I (sZ aI.en I I I I) (λw' hm hb=>hdw gw Zt _ w' _ ((pC.self w).on hm λo h=>DZ h) hb) I I I ?_;rintro⟨R6,Ve⟩ _
 conv=>arg 8;simp only[zJ,cL,ret,id_eq,dwS]
 conv=>arg 7;simp only[dwS]
 rcases hde with rfl|rfl|rfl
 ·rcases hdt rfl with rfl|⟨x,r,rfl,hx⟩
  ·rw[ab4 hD]
   repeat(first|refine GC ?_|refine gV (aC (v:=R6) aK.ty I (aH (i:=3) I I)) ?_|refine gV (de (b:=aD) I I I) ?_|refine gV (eR (i:=4) bL.eq I I) ?_|refine gV (dP (b:=aE) I I I) ?_|refine GB ?_)
   refine dK ([xL gw g.aR g.bC vp R6 Ve a1,aP g1 (sO vt (seen:Int) 0 aE).cells 91]) (.calm 0 (.calm 1 (.calm 2 (.calm 3 (.calm 4 (.calm 5 (.calm 6 (.one 7 (.calm 8 (.calm 9 (.done))))))))))) (bV [3,1]) ?_
   repeat(first|refine GW ?_|(refine GN ?_;first|refine QW (aC (v:=av az (seen:Int)) aK.ty I (aH (i:=1) I I)) ?_|refine QW (aC (v:=Ve) aK.ty I (aH (i:=0) I I)) ?_|refine QW (bB I (UA _)) ?_))
   refine aL I (aV (i:=2) (cs':=#[ap ak 0 0,av az (seen:Int),av az 0,.bool aD]) I I I I I I (aM (bV [3,1]) ?_))
   try refine GW ?_
   try refine GA ?_
   exact ff (i:=2) I I I I I I λw hm=>hm.meets (S:=JI (seen:Int) (0,gj)) Ve trivial [5] aiz I
  rw[ab5 hD]
  repeat(first|refine GC ?_|refine gV (aC (v:=R6) aK.ty I (aH (i:=3) I I)) ?_|refine gV (de (b:=aD) I I I) ?_|refine gV (aC (v:=av az (seen:Int)) aK.ty I (aH (i:=1) I I)) ?_|refine gV (bB I (kO _ _)) ?_|refine gV (eR (i:=4) bL.eq I I) ?_|refine gV (dP (b:=aD) I I (decide_eq_true (by rw[c_];omega))) ?_|refine GB ?_)
  refine gh 2 (cs':=#[ap ak 0 0,av az (seen:Int),av az 13,.bool aE]) ?_;refine zL ?_
  try refine GA ?_
  exact ff (i:=2) I I I I I I λw hm=>hm.meets (S:=JI (seen:Int) (13,[])) (ap ak 0 0) trivial [] aiz I
 ·rw[R_ hD aiz]
  repeat(first|refine GA ?_|refine gV (aC (v:=av az (seen:Int)) aK.ty I (aH (i:=1) I I)) ?_|refine gV (bB I (kO _ _)) ?_)
  refine gh 2 (cs':=#[ap ak 0 0,av az (seen:Int),av az 13,.bool aE]) ?_;refine zL ?_
  try refine GA ?_
  exact ff (i:=2) I I I I I I λw hm=>hm.meets (S:=JI (seen:Int) (13,[])) (ap ak 0 0) trivial [] aiz I
 ·rw[R_ hD aiz]
  repeat(first|refine GA ?_|refine gV (aC (v:=av az (seen:Int)) aK.ty I (aH (i:=1) I I)) ?_|refine gV (bB I (kO _ _)) ?_)
  refine gh 2 (cs':=#[ap ak 0 0,av az (seen:Int),av az 14,.bool aE]) ?_;refine zL ?_
  try refine GA ?_
  exact ff (i:=2) I I I I I I λw hm=>hm.meets (S:=JI (seen:Int) (14,[])) (ap ak 0 0) trivial [] aiz I
end bZ
namespace bZ
open Go.RowKit cU dM aT dL e8 BM fG dG xE
abbrev Sa(g:d_)(T N:Nat):List (List Int):=lP N λn=>lP (T+1) (BM.rowAt g.aF (AN N g.aF) T n)
theorem MC{α:Type}{len:Nat}{f:Nat->α}{d:α}(k:Nat):(lP len f).getD k d=if k<len then f k else d:=by
 rw[cH]
 by_cases h:k<len
 rw[ub _ h,if_pos h];rfl;rw[ku (by rw[ir];omega),if_neg h];rfl
theorem aeB{g:d_}{T N:Nat}(hT:g.aR=T)(hN:g.bC=N):EQ g (Sa g T N) T N where
 aR:=hT
 bC:=hN
 len:=ir _ _
 row r hr:=by
  obtain⟨n,_,rfl⟩:=fa.1 hr;exact ir _ _
 nx col n h0:=by
  unfold iC at h0⊢;rw[MC]at h0⊢
  by_cases h:n.toNat<N
  ·rw[if_pos h]at h0⊢
   rw[MC]at h0⊢
   by_cases h2:col<T+1
   ·rw[if_pos h2]at h0⊢
    refine⟨(ue n.toNat col g.aF.length).2,λhn=>?_⟩;have:=xH (may:=AN N g.aF) (T:=T) n.toNat col g.aF.length (bm _) h0;unfold BM.rowAt;rw[this];omega
   rw[if_neg h2]at h0;omega
  rw[if_neg h]at h0;have:([]:List Int).getD col (-1)= -1:=rfl;omega
theorem Hv{l:List aT.Prod}{n:Nat}:∀r:List Int,(∀p∈r,-1<=p/\p<(l.length:Int)/\(0<=p->(db l p).1=(n:Int)))->sC l n r=0
 |[],_=>rfl
 |p::r,h=>by
  have hp:=h p (gZ ..);rw[sC,if_neg J,if_neg J,if_neg (by rintro⟨h1,h2⟩;exact h2 (hp.2.2 h1))];exact Hv r λp hp=>h p (kC _ hp)
theorem ES{l:List aT.Prod}{t:Int}:∀(rows:List (List Int)) (n:Nat),(∀i (h:i<rows.length),(rows[i].length:Int)=t+1/\sC l (n+i) rows[i]=0)->p9 l t n rows=0
 |[],_,_=>rfl
 | r ::rs,n,h=>by
  have h0:=h 0 (by simp);simp only[List.getElem_cons_zero,jw]at h0;rw[p9,if_neg (by simp[h0.1]),if_neg (by simp[h0.2])];exact ES rs (n+1) λi hi=>by
   have:=h (i+1) (by simp;omega);simp only[List.getElem_cons_succ]at this;rw[show n+1+i=n+(i+1)by omega];exact this
theorem MD{g:d_}{T N:Nat}(hg:bX g=0)(hT:g.aR=T)(hN:g.bC=N):EL g (Sa g T N)=0:=by
 unfold EL;rw[if_neg (by simp[hg]),ir,if_neg (by simp[hN])];refine ES _ 0 λi hi=>?_;rw[ir]at hi;have xN:(Sa g T N)[i]'(by rw[ir];exact hi)=lP (T+1) (BM.rowAt g.aF (AN N g.aF) T i):=by simp[lP]
 rw[xN];refine⟨by rw[ir,hT];rfl,Hv _ λp hp=>?_⟩;obtain⟨c,_,rfl⟩:=fa.1 hp;have h1:=ue (l:=g.aF) (may:=AN N g.aF) (T:=T) i c g.aF.length;refine⟨h1.1,h1.2,λh0=>?_⟩;rw[cV];exact xH (l:=g.aF) (may:=AN N g.aF) (T:=T) i c g.aF.length (bm _) h0
theorem ZI(seen:Int)(st:List TD)(l:List dv):sT seen (0,st,l)=⟨λ_=>True,λx=> .tuple #[sO x.1 (seen+1) 0 aE,x.2,av az 0],λx=>[wk x.1 st,kM x.2 l]⟩:=by unfold sT;simp
theorem UB(seen:Int){e:Int}(he:e≠0)(st:List TD)(l:List dv):sT seen (e,st,l)=⟨λ_=>True,λx=> .tuple #[sO (ap ak 0 0) seen e aE,ap ak 0 0,av az e],λx=>[]⟩:=by unfold sT;simp[he]
theorem ab6(seen:Int)(l:List dv):JI seen (0,l)=⟨λ_=>True,λx=> .tuple #[sO (ap ak 0 0) seen 0 aD,x,av az 0],λx=>[kM x l]⟩:=by unfold JI;simp
theorem ZJ(seen:Int){e:Int}(he:e≠0)(l:List dv):JI seen (e,l)=⟨λ_=>True,λx=> .tuple #[sO (ap ak 0 0) seen e aE,ap ak 0 0,av az e],λx=>[]⟩:=by unfold JI;simp[he]
end bZ
namespace l_
open Go.RowKit cU dM bZ cT
def AX(o:Of)(N:List (List Int))(now:Int)(b:UInt8):Int:=(N.getD now.toNat []).getD (o.toList.getD b.toNat 0) 0
def p_(o:Of)(N:List (List Int))(tags:List Int):List UInt8->Nat->Int->Int->Nat->Int×Nat
 |[],_,_,r,t=>(r,t)
 | b::s,i,now,r,t=>
  if AX o N now b<0 then(r,t)
  else if 0<=tags.getD (AX o N now b).toNat 0 then p_ o N tags s (i+1) (AX o N now b) (tags.getD (AX o N now b).toNat 0) (i+1)
  else p_ o N tags s (i+1) (AX o N now b) r t
theorem x9(o:Of)(N:List (List Int))(tags:List Int)(b:UInt8)(s:List UInt8)(i:Nat)(now r:Int)(t:Nat):p_ o N tags (b::s) i now r t=
 if AX o N now b<0 then(r,t)
 else if 0<=tags.getD (AX o N now b).toNat 0 then p_ o N tags s (i+1) (AX o N now b) (tags.getD (AX o N now b).toNat 0) (i+1)
 else p_ o N tags s (i+1) (AX o N now b) r t:=rfl
abbrev Tok:=Int×Nat×Nat
theorem ET(o:Of)(N:List (List Int))(tags:List Int):∀(s:List UInt8) (i:Nat) (now r:Int) (t:Nat),(p_ o N tags s i now r t).2=t\/(i<(p_ o N tags s i now r t).2/\(p_ o N tags s i now r t).2<=i+s.length)
 |[],_,_,_,_=> .inl I
 | b ::s,i,now,r,t=>by
  rw[x9];split;exact .inl I;split
  ·rcases ET o N tags s (i+1) (AX o N now b) (tags.getD (AX o N now b).toNat 0) (i+1)with h|h
   rw[h];exact .inr ⟨by omega,by rw[c_];omega⟩;exact .inr ⟨by omega,by rw[c_];omega⟩
  rcases ET o N tags s (i+1) (AX o N now b) r t with h|h
  exact .inl h;exact .inr ⟨by omega,by rw[c_];omega⟩
theorem aeC{o:Of}{N:List (List Int)}{tags:List Int}(h:qJ o N tags){q:Nat}(hq:q<N.length)(b:UInt8):
 ∃(h1:q<N.length) (h2:o[b.toNat]'b.toNat_lt<N[q].length),AX o N (q:Int) b=N[q][o[b.toNat]'b.toNat_lt]/\ -1<=AX o N (q:Int) b/\AX o N (q:Int) b<N.length:=by
 have hw:o[b.toNat]'b.toNat_lt<N[q].length:=by rw[h.row q hq];exact h.of _ _
 have e:AX o N (q:Int) b=N[q][o[b.toNat]'b.toNat_lt]:=by
  unfold AX;rw[dB,cH (l:=N),bD hq,kD,cH (l:=o.toList),bD (by rw[Vector.length_toList];exact b.toNat_lt),kD,Vector.getElem_toList,cH,bD hw];rfl
 have hr:=h.rng q hq _ hw;exact⟨hq,hw,e,by rw[e];exact hr.1,by rw[e];exact hr.2⟩
end l_
namespace bZ
open Go.RowKit cU dM cT l_
theorem aeD{vn vt:Value}(o:Of)(b:UInt8):(eP o vn vt).toArray[0+b.toNat]?=aj (.int .u8 ((o[b.toNat]'b.toNat_lt:Nat):Int)):=by
 rw[cV];exact afX o vn vt b.toNat_lt
def sE(t:Tok):List Value:=[av az t.1,av az (t.2.1:Int),av az (t.2.2:Int)]
end bZ
namespace bZ
open Go.RowKit cU dM cT l_
abbrev EU(v:Value)(l:List Tok):b_:=a_ 163 3 v l.length (l.flatMap sE)
theorem Hw(v:Value)(l:List Tok)(x:Tok):EU v (l++[x])=a_ 163 3 v (l.length+1) (l.flatMap sE++sE x):=by
 unfold EU;rw[bK,gO];simp
end bZ
namespace bZ
open Go.RowKit cU dM yC cT
theorem kP(R:List Row):(Uk R).length=R.length:=by unfold Uk;simp
theorem JJ(R:List Row){i:Nat}(h:i<R.length):(Uk R)[i]'(by rw[kP];exact h)=Cr (np R 256) i:=by unfold Uk;simp
theorem ab7{R:List Row}{c:Ee}(h:c∈np R 256):∃b,b<256/\c=qI R b:=by
 unfold np at h;rcases kF.1 h with h|h
 cases h
 obtain⟨b,hb,rfl⟩:=fa.1 h;exact⟨b,by simpa using hb,rfl⟩
theorem aeE{R:List Row}{tags:List Int}(h:l7 R tags=0){i:Nat}(hi:i<R.length){x:Int}(hx:x∈Cr (np R 256) i): -1<=x/\x<R.length:=by
 obtain⟨hA,_⟩:=uI h;unfold Cr at hx;obtain⟨c,hc,rfl⟩:=fa.1 hx;obtain⟨b,hb,rfl⟩:=ab7 hc;rw[Mg R b i hi hA.le,uR hi hb];have:=hA.step i hi b hb;rw[LP hi hb]at this;exact this
theorem ac3{R:List Row}{tags:List Int}(h:l7 R tags=0):Zo (xW R 256) (Uk R) tags (np R 256).length:=by
 obtain⟨hA,hl⟩:=uI h;have hle:R.length<=200:=hA.le;refine⟨by rw[kP];exact hA.pos,by rw[kP];exact hle,by rw[kP];exact hl,List.length_pos_of_mem (Jq R (show 0<256 by decide)),Cq R 256,λi hi=>?_,λi hi=>?_,λi hi j hj=>?_,λb hb=>?_⟩
 ·rw[kP]at hi
  rw[JJ R hi];unfold Cr;rw[dI]
 ·have:=hA.tags i (show i<R.length by omega)
  rw[y8 hi]at this;exact this
 ·have pB:i<R.length:=by rw[kP]at hi;exact hi
  have e:=JJ R pB;have hx:(Uk R)[i][j]∈Cr (np R 256) i:=e▸cD hj;rw[kP];exact aeE h pB hx
 have e:(xW R 256)[b]'hb=pkN R b:=by
  unfold xW;rw[ke];simp[hb]
 rw[e];exact YU R hb
end bZ
namespace l_
open Go.RowKit cU dM bZ cT
end l_
namespace bZ
open Go.RowKit cU dM cT
theorem Mem.pkI{B:bR}{w:World}{L:List b_}{i j k g:Nat}{R:List Row}{tags:List Int}{vs:Nat->Value}{vt:Value}(hm:Mem B L w)(hi:L[i]?=aj (fg 27 x6 g R.length vs))(hj:L[j]?=aj (Ur R.length (np R 256) vs))(hk:L[k]?=aj (a_ 3 1 vt tags.length (tags.flatMap cU.eo)))(hc:l7 R tags=0):
 Vc w (ap (aj ⟨g,0,ak⟩) R.length R.length) vt (Uk R) tags:=by
 have h1:(fg 27 x6 g R.length vs).holds w:=hm.get hi;have h2:(Ur R.length (np R 256) vs).holds w:=hm.get hj;have ok:=ac3 hc;refine⟨⟨aj ⟨g,0,ak⟩,R.length,by rw[kP],by rw[kP];exact bm _,by have:=ok.le;rw[kP]at this;unfold maxLen;omega,λh0=>⟨g,0,rfl,?_,λi hi=>⟨[vs i],⟨vs i,rfl,?_⟩,λj u hj=>?_⟩⟩⟩,lI hk _ hm⟩
 ·rw[kP]at h0
  exact World.block_lt_of_cell? w _ (Ao h1 h0)
 ·have U0:i<R.length:=by rw[kP]at hi;exact hi
  have h3:(a_ 3 1 (vs i) (np R 256).length ((Cr (np R 256) i).flatMap cU.eo)).holds w:=h2.1 i U0;have h4:Sl w (vs i) (np R 256).length ((Cr (np R 256) i).flatMap cU.eo):=Sl.dy h3;have e:(Uk R)[i]=Cr (np R 256) i:=JJ R U0;have hl:(Cr (np R 256) i).length=(np R 256).length:=dI ..;refine jQ.of_flat (by rw[e,hl];exact h4) (λx hx=>?_) (λb hb=>?_) λa n cp hv=>?_
  ·obtain⟨q,hq,rfl⟩:=g_.1 hx
   have:=ok.rng i hi q hq;have:=ok.le;exact⟨by omega,by omega⟩
  exact b_.lt _ w h3 b (.inl hb);exact b_.lt _ w h3 a.block (.inl (by rw[hv];rfl))
 ·have U0:i<R.length:=by rw[kP]at hi;exact hi
  have hj0:j=0:=by have:=(dl.1 hj).1;simp at this;exact this
  subst hj0;simp only[tu,dr]at hj;subst hj;have:=Ao h1 U0;show w.cell? ⟨g,0+i*1+0,ak⟩=aj (vs i)
  rw[Nat.mul_one,jw];exact this
theorem Sb(R:List Row):∀b (h:b<256),(xW R 256)[b]<256:=λb hb=>by
 have e:(xW R 256)[b]'hb=pkN R b:=by
  unfold xW;rw[ke];simp[hb]
 rw[e];exact RW R hb
theorem Sc{R:List Row}{tags:List Int}(h:l7 R tags=0):qJ (xW R 256) (Uk R) tags:=by
 have ok:=ac3 h;have:((Uk R).headD []).length=(np R 256).length:=by
  have h0:=ok.pos;have:=ok.row 0 h0
  cases hR:Uk R with
  |nil=>rw[hR]at h0;simp at h0
  |cons x r=>simp only[hR]at this;exact this
 unfold qJ;rw[this];exact ok
end bZ
namespace bI
open aT dL fG dG cT
open BM (DK)
section
variable{l:List aT.Prod}{T N:Nat}{lk:Int->Int->Nat}{Nx:List (List Int)}{S:List (List Item)}{w:List Int}
variable{E R M:List Bool}{F W:List Nat}
theorem ME(hI:TZ l T N lk S.length Nx S){q:Nat}(hq:q<S.length):∀it∈S.getD q [],eh l T it:=by
 have xN:S.getD q []=S[q]:=by rw[cH,bD hq];rfl
 rw[xN];exact hI.ss.right _ (cD hq)
end
end bI
namespace bI
open aT dL fG dG cT xE
open BM (DK)
section
variable{l:List aT.Prod}{T N:Nat}{lk:Int->Int->Nat}{Nx:List (List Int)}{S:List (List Item)}
inductive Stk(l:List aT.Prod)(T N:Nat)(lk:Int->Int->Nat)(S:List (List Item)):List Nat->List (dv×Tree)->Nat->Prop
 |start:Stk l T N lk S [0] [] 0
 |push {q s:Nat} {σ:List Nat} {ts:List (dv×Tree)} {a:Nat} {x:dv} {t:Tree} (h:Stk l T N lk S (q::σ) ts a) (hs:s<S.length) (hx:S.getD s []=iO l T lk (S.getD q []) x) (hne:iO l T lk (S.getD q []) x≠[]) (ht:GG l t x a):Stk l T N lk S (s::q::σ) ((x,t)::ts) (a+leaves t)
theorem Stk.len{σ:List Nat}{ts:List (dv×Tree)}{a:Nat}(h:Stk l T N lk S σ ts a):σ.length=ts.length+1:=by
 induction h with
 |start=>rfl
 |push _ _ _ _ _ ih=>rw[c_,ih,c_]
section
end
end
end bI
namespace bI
open aT dL fG dG cT xE
open BM (DK)
section
variable(l:List aT.Prod)(act:Nat->Nat->Act)(gt:Nat->Int->Int)
def B2(σ:List Nat)(p:Int):Option (List Nat):=match σ.drop (db l p).2.length with
 |r::ρ=>if 0<=gt r (db l p).1 then aj ((gt r (db l p).1).toNat::r::ρ)else ak
 |[]=>ak
def fY(col a:Nat):Nat->List Nat->List dv->Int×List Nat×List dv
 |0,_,_=>(14,[],[])
 | f +1,σ,o=>
  if f=0/\(act (σ.headD 0) col).1≠0 then(14,[],[])
  else if(act (σ.headD 0) col).1=3 then(0,σ,o)
  else if(act (σ.headD 0) col).1=1 then(if 60<σ.length+1 then(14,[],[])else(0,(act (σ.headD 0) col).2.toNat::σ,o++[(2,(a:Int))]))
  else if(act (σ.headD 0) col).1=2 then(match B2 l gt σ (act (σ.headD 0) col).2 with
   |none=>(13,[],[])
   |some σ'=>if 60<σ'.length then(14,[],[])else fY col a f σ' (o++[(4,(act (σ.headD 0) col).2)]))
  else(13,[],[])
end
section
variable{l:List aT.Prod}{act:Nat->Nat->Act}{gt:Nat->Int->Int}{T N:Nat}{lk:Int->Int->Nat}{Nx:List (List Int)}{S:List (List Item)}
structure ahE(l:List aT.Prod)(act:Nat->Nat->Act)(gt:Nat->Int->Int)(T N:Nat)(Nx:List (List Int))(S:List (List Item)):Prop where
 act:∀q c,q<S.length->c<=T->act q c=pj l T Nx S q c
 gt:∀q n,q<S.length->0<=n->n<(N:Int)->gt q n=afy T Nx q n
theorem aeF{q c:Nat}{x:Act}(h:pj l T Nx S q c=x)(h0:x.1≠0):x∈km l T (S.getD q []) (Nx.getD q []) c:=by
 unfold pj at h
 cases e:km l T (S.getD q []) (Nx.getD q []) c with
 |nil=>grind
 |cons y r=>simp_all
theorem Hx{q c:Nat}{x:Act}(h:x∈km l T (S.getD q []) (Nx.getD q []) c):
 (x.1=1/\c<T/\0<=(Nx.getD q []).getD c 0/\x.2=(Nx.getD q []).getD c 0)\/(x=(3,0)/\(((l.length:Int),1,(c:Int)):Item)∈S.getD q [])\/(x.1=2/\x.2<(l.length:Int)/\((x.2,((db l x.2).2.length:Int),(c:Int)):Item)∈S.getD q []):=by
 unfold km at h;rcases fj.1 h with h|h
 simp_all
 ·obtain⟨it,hit,e⟩:=List.mem_filterMap.1 h
  obtain⟨p,d,k⟩:=it;unfold yW at e
  grind
section
variable(hB:ahE l act gt T N Nx S)(hI:TZ l T N lk S.length Nx S)(hw:∀q∈l,q.2.length<=8)(hl:l.length<=40)(hT:T<=30)(hh:∀q∈l,0<=q.1/\q.1<(N:Int))
include hB hI hw hl hT hh
omit hB hw hl hT hh in
theorem UC{q k s:Nat}{x:dv}(hq:q<S.length)(hk:(mC T N)[k]?=aj x)(hs:(Nx.getD q []).getD k 0=(s:Int)):s<S.length/\S.getD s []=iO l T lk (S.getD q []) x/\iO l T lk (S.getD q []) x≠[]:=by
 rcases hI.cell q hq k x hk with⟨_,h2⟩|⟨h1,h2,h3⟩
 omega;rw[hs]at h3;obtain rfl:s=idx S (iO l T lk (S.getD q []) x):=by omega
 simp_all[oO,Ca]
end
end
end bI
namespace bZ
open aT dL fG dG bI cT xE
open BM (DK)
structure nI(g:d_)(T N:Nat)(Nx:List (List Int))(S:List (List bI.Item)):Prop where
 JC:bX g=0
 aR:g.aR=(T:Int)
 bC:g.bC=(N:Int)
 all:allI g.aF T N (jW g)=aj (Nx,S)
 dD:(iB g).1=ib g.aF T Nx S S.length
 gos:(iB g).2.1=fu T Nx S.length
 aeG:(iB g).2.2.1=iy g.aF T Nx S S.length
theorem Hy{g:d_}(h:(iB g).2.2.2=0):∃T N Nx S,nI g T N Nx S:=by
 unfold iB at h
 by_cases c:(jn g).2.2≠0
 rw[if_pos c]at h;exact absurd h c;have c2:(jn g).2.2=0:=aeA.1 c;obtain⟨hg,hA⟩:=RI c2;obtain⟨hT1,hT2,hN1,WD,-⟩:=cP hg;exact⟨g.aR.toNat,g.bC.toNat,(jn g).1,(jn g).2.1,hg,by omega,by omega,hA,by unfold iB;rw[if_neg c],by unfold iB;rw[if_neg c],by unfold iB;rw[if_neg c]⟩
section
variable{g:d_}{T N:Nat}{Nx:List (List Int)}{S:List (List bI.Item)}
theorem nI.wide(h:nI g T N Nx S):∀q∈g.aF,q.2.length<=8:=λq hq=>((cP h.JC).2.2.2.2.2 q hq).1
theorem nI.Cg(h:nI g T N Nx S):g.aF.length<=40:=(cP h.JC).2.2.2.2.1
theorem nI.t30(h:nI g T N Nx S):T<=30:=by have:=(cP h.JC).2.1;have:=h.aR;omega
theorem nI.law(h:nI g T N Nx S):TZ g.aF T N (jW g) S.length Nx S:=LK h.wide h.Cg h.t30 h.all
theorem EV{l:List aT.Prod}{i n:Nat}(h:i<n):(ib l T Nx S n)[i]?=aj (gX l T Nx S i (T+1)):=by unfold ib;simp[h]
theorem By{i n:Nat}(h:i<n):(fu T Nx n)[i]?=aj ((Nx.getD i []).drop T):=by unfold fu;simp[h]
theorem Qh{l:List aT.Prod}{q c:Nat}(h:c<T+1):(gX l T Nx S q (T+1))[c]?=aj (pj l T Nx S q c):=by
 unfold gX;rw[eX,List.getElem?_range h];simp[h]
theorem nI.right(h:nI g T N Nx S){q c:Nat}(hq:q<S.length)(_:c<T+1):uY T g.aF.length S.length (pj g.aF T Nx S q c) c:=by
 have hI:=h.law
 by_cases h0:(pj g.aF T Nx S q c).1=0
 ·left
  refine⟨h0,?_⟩;unfold pj at h0⊢
  cases e:km g.aF T (S.getD q []) (Nx.getD q []) c with
  |nil=>rfl
  |cons y r=>
   rw[e]at h0;have hm:y∈km g.aF T (S.getD q []) (Nx.getD q []) c:=by rw[e];exact gZ ..
   rcases Hx hm with h'|h'|h'
   have:=h'.1;have h0:y.1=0:=h0;omega;have h0:y.1=0:=h0;rw[h'.1]at h0;cases h0;have:=h'.1;have h0:y.1=0:=h0;omega
 rcases Hx (aeF rfl h0)with h'|h'|h'
 ·obtain⟨h1,h2,h3,h4⟩:=h'
  obtain⟨s,hs⟩:=hY h3;obtain⟨k1,-,-⟩:=UC hI hq (TY h2) hs;exact .inr (.inl ⟨h1,h2,by omega,by rw[h4,hs];omega⟩)
 ·obtain⟨h1,h2⟩:=h'
  have ht:=abB h.wide h.Cg h.t30 h.all q hq _ h2 I;have ht:(c:Int)=(T:Int):=ht;exact .inr (.inr (.inr ⟨by rw[h1],by rw[h1],by omega⟩))
 obtain⟨h1,h2,h3⟩:=h';exact .inr (.inr (.inl ⟨h1,(ME hI hq _ h3).1,h2⟩))
theorem nI.oQ(h:nI g T N Nx S):rp g T N (ib g.aF T Nx S S.length) (fu T Nx S.length) where
 JC:=h.JC
 aR:=h.aR
 bC:=h.bC
 pos:=by rw[i_];exact(dl.1 h.law.start).1
 Cg:=by rw[i_];exact h.law.Cg
 same:=by rw[i_,lZ]
 wA:=λi hi=>by
  obtain⟨h1,h2⟩:=dl.1 (EV (T:=T) (Nx:=Nx) (S:=S) (l:=g.aF) (show i<S.length by rw[i_]at hi;exact hi));rw[h2];exact px
 dD:=λi hi c hc=>by
  have pB:i<S.length:=by rw[i_]at hi;exact hi
  obtain⟨h1,h2⟩:=dl.1 (EV (T:=T) (Nx:=Nx) (S:=S) (l:=g.aF) pB);simp only[h2]at hc⊢;rw[px]at hc;obtain⟨h3,h4⟩:=dl.1 (Qh (l:=g.aF) (T:=T) (Nx:=Nx) (S:=S) (q:=i) hc);rw[h4,i_];exact h.right pB hc
 wG:=λi hi=>by
  have pB:i<S.length:=by rw[lZ]at hi;exact hi
  obtain⟨h1,h2⟩:=dl.1 (By (T:=T) (Nx:=Nx) pB);rw[h2,iX,h.law.wide i pB];omega
 gos:=λi hi y hy=>by
  have pB:i<S.length:=by rw[lZ]at hi;exact hi
  obtain⟨h1,h2⟩:=dl.1 (By (T:=T) (Nx:=Nx) pB);rw[h2]at hy;obtain⟨k,hk,rfl⟩:=List.getElem_of_mem hy;rw[i_];rw[iX,h.law.wide i pB]at hk;rw[List.getElem_drop];have hw:=h.law.wide i pB;have hg:(Nx.getD i [])[T+k]'(by rw[hw];omega)=(Nx.getD i []).getD (T+k) 0:=by rw[cH (l:=Nx.getD i []),bD (by rw[hw];omega)];rfl
  rw[hg];rcases h.law.cell i pB (T+k) _ (Yc J)with⟨_,e⟩|⟨_,e1,e2⟩
  rw[e];omega;rw[e2];have:=oO e1;omega
def iH(A:List (List bI.Act))(q c:Nat):bI.Act:=(A.getD q []).getD c (0,0)
def eU(G:List (List Int))(q:Nat)(n:Int):Int:=(G.getD q []).getD n.toNat 0
theorem Bz{l:List aT.Prod}:∀n,(iy l T Nx S n).length=0->∀q,q<n->∀c,c<=T->(km l T (S.getD q []) (Nx.getD q []) c).length<=1
 |0,_,q,hq,_,_=>absurd hq (lT _)
 | n + 1,h,q,hq,c,hc=>by
  rw[iy,bK]at h
  by_cases e:q=n
  ·subst e
   have row:∀d,(ix l T Nx S q d).length=0->∀c,c<d->(v7 l T Nx S q c).length=0:=λd=>by
    induction d with
    |zero=>exact λ_ c hc=>absurd hc (lT _)
    | succ d ih=>
     intro h c hc;rw[ix,bK]at h
     by_cases e2:c=d
     subst e2;omega;exact ih J c J
   have:=row (T+1) J c J;unfold v7 at this;rw[dI,List.length_tail]at this;have h2:(km l T (S.getD q []) (Nx.getD q []) c).length-1=0:=this;omega
  exact Bz n J q J c hc
theorem nI.calm(h:nI g T N Nx S)(hc:ac2 g=aD):afz g.aF T Nx S:=by
 unfold ac2 at hc;rw[eV,decide_eq_true_eq,decide_eq_true_eq,h.aeG]at hc;exact λq hq c hcT=>Bz S.length hc.2 q hq c hcT
theorem Qi(hg:bX g=0){p:Int}:∀x∈fB g.aF p,right g.aR g.bC x=true:=λx hx=>by
 unfold fB at hx;split at hx
 ·rw[dQ.1 hx]
  have:=(cP hg).2.2.1;unfold right;rw[if_neg aiz,if_pos I];simp only[k8,decide_true,uP,decide_eq_true_eq];omega
 by_cases h2:p.toNat<g.aF.length
 ·have:db g.aF p∈g.aF:=by unfold db;rw[cH,bD h2];exact cD h2
  exact((cP hg).2.2.2.2.2 _ this).2.2.2 x hx
 unfold db at hx;rw[cH,ku J]at hx
 cases hx
theorem nI.looks(h:nI g T N Nx S)(p d:Int):jW g p d=fQ (wq N g.aF).E (Nr N g.aF) ((fB g.aF p).drop (d.toNat+1)) (2^62):=by
 unfold jW BS;have hb8:=mA (l:=g.aF) (p:=p) h.wide;have hE:ux g ((fB g.aF p).drop (d.toNat+1))=0:=by
  unfold ux;rw[if_neg (by rw[h.JC];simp),if_neg (by rw[iX];omega)];exact I0 λx hx=>Qi h.JC x (AB hx)
 rw[if_pos hE,show g.bC.toNat=N by rw[h.bC];rfl]
end
end bZ
namespace nb
open dg fZ ef cT
open bZ (l7 fe wt Jb)
variable{m:MS}{R:List Row}{d:DM}
theorem ab8(hm:IG m)(hi:MkI m (fc m.empty 0) (d.S.length+1) R d)(k:Nat):d.tags.getD k 0<m.empty.length:=by
 have h:=hi.tags;unfold qG at h;rw[h];have h0:=hm.some
 cases k with
 | zero=>
  have:=Hf (l:=m.empty);have e:(fc m.empty 0::d.S.map (nb.wm m.ps)).getD 0 0=fc m.empty 0:=rfl;rw[e];omega
 | succ k=>
  by_cases hk:k<d.S.length
  ·have e:(fc m.empty 0::d.S.map (nb.wm m.ps)).getD (k+1) 0=nb.wm m.ps d.S[k]:=by
    rw[Zv,cH,eX,bD hk];rfl
   rw[e];unfold nb.wm;rcases Jg hm.rules hm.ok.ps.rules d.S[k] m.ps.aZ.length (bm _)with⟨h1,_⟩|⟨_,_,_,_,_,h1,h2,_⟩
   rw[h1];omega;omega
  rw[Zv,cH,ku (by rw[dI];omega)];show(0:Int)<_
  omega
end nb
namespace bZ
open Go.RowKit cU dM dg fZ gu aT cT ef nb
theorem ZK{R:List Row}{tags:List Int}{n:Int}(h:∀k,tags.getD k 0<n):∀t∈za R tags,t<n:=λt ht=>by
 unfold za at ht;split at ht
 ·obtain⟨k,-,rfl⟩:=fa.1 ht
  exact h k
 cases ht
theorem ZL{s:Sp}{r:Int×List Row×List Int}(h:RZ s r)(h0:r.1=0):0<s.words.length/\s.words.length<=20/\∀t∈r.2.2,t<(s.words.length:Int):=by
 rcases h with⟨k,hk,-,rfl⟩|⟨es,m,h1,-,h3,h4,h5,-,⟨h,rfl⟩|⟨-,h,rfl⟩|⟨h,hd,hc,rfl⟩⟩
 exact absurd h0 hk;exact absurd h0 h;exact absurd h0 h;have hlen:s.words.length=es.length:=by
  have:=congrArg xP h1
  rwa [pw,dI,dI]at this
 obtain⟨-,h7,-,-⟩:=II es 0 .zero m IF rfl (λr hr=>by cases hr) (bH _) h5;refine⟨by omega,by omega,?_⟩;dsimp only
 cases hm:uj m with
 |none=>rw[Pq hm]at hd;cases hd
 |some y=>
  obtain⟨R,d⟩:=y;rw[Ei hm];refine ZK λk=>?_;have:=ab8 (Ch h3 h4 h5) (AG hm) k;show d.tags.getD k 0<_
  omega
end bZ
namespace gu
open dg fZ
theorem ac4(l:List Wd):∀k,k<=l.length->0<=((l.take k).foldl jb ws0).2.1/\∀x∈((l.take k).foldl jb ws0).1,-1<=x/\x<((l.take k).foldl jb ws0).2.1
 |0,_=>⟨k8 _,λx hx=>by cases hx⟩
 | k + 1,h=>by
  obtain⟨a1,a2⟩:=ac4 l k J;rw[step_take _ _ _ (show k<l.length by omega)];have key:∀(s:WS) (w:Wd),0<=s.2.1->(∀x∈s.1,-1<=x/\x<s.2.1)->0<=(jb s w).2.1/\∀x∈(jb s w).1,-1<=x/\x<(jb s w).2.1:=λs w b1 b2=>by
   unfold jb;split
   ·refine⟨b1,λx hx=>?_⟩
    rcases fj.1 hx with hx|hx
    exact b2 x hx;rw[dQ.1 hx];exact⟨k8 _,by show(-1:Int)<s.2.1;omega⟩
   refine⟨by show 0<=s.2.1+1;omega,λx hx=>?_⟩;show-1<=x/\x<s.2.1+1
   rcases fj.1 hx with hx|hx
   have:=b2 x hx;omega;rw[dQ.1 hx];omega
  exact key _ _ a1 a2
end gu
namespace bZ
open Go.RowKit cU dM dg fZ gu aT cT
def aeH(s:Sp)(R:List Row)(T:List Int):Md:=⟨(Js s.words).1,xW R 256,Uk R,T,cX s,1,Sa (cX s) (cX s).aR.toNat (cX s).bC.toNat,[],[]⟩
def aeI(s:Sp)(R:List Row)(T:List Int):Md:=⟨(Js s.words).1,xW R 256,Uk R,T,cX s,2,[],(iB (cX s)).1,(iB (cX s)).2.1⟩
theorem ZM{l:List Wd}(h:l.length<=60):(Js l).1.length=l.length:=by
 have:=(YW l l.length (bm _) h).1;rw[my]at this;exact this
section
variable{w:World}{B:bR}{L:List b_}{x:FX}{s:Sp}{R:List Row}{T:List Int}{i0 i1 i2 i3 i4 i5 i6 i7 i8:Nat}
theorem ac5(hl:s.words.length<=60)(h:(a_ 3 1 x.vo s.words.length ((Js s.words).1.map (av .i64))).holds w):Sl w x.vo (Js s.words).1.length ((Js s.words).1.flatMap cU.eo):=by
 rw[ZM hl];have:=Sl.dy h
 rwa [<-Ll]at this
theorem ZN(hg:bX (cX s)=0)(h:(nR x.F x.vp (cX s).aF).holds w):jZ (λk=>k<w.heap.size) w (dE (cX s).aR (cX s).bC x.vp) (cX s):=by
 obtain⟨a1,a2,a3,a4,a5,a6⟩:=cP hg;exact xZ (gok ⟨a1,by omega⟩) (gok ⟨by omega,by omega⟩) h
theorem aeJ(hm:Mem B L w)(hl:s.words.length<=60)(hc:l7 R T=0)(hg:bX (cX s)=0)
 (h0:L[i0]?=aj (a_ 3 1 x.vo s.words.length ((Js s.words).1.map (av .i64)))) (h1:L[i1]?=aj (nR x.F x.vp (cX s).aF)) (h2:L[i2]?=aj (fg 27 x6 x.gP R.length x.Y6)) (h3:L[i3]?=aj (Ur R.length (np R 256) x.Y6)) (h4:L[i4]?=aj (a_ 3 1 x.vT T.length (T.flatMap cU.eo)))
 (h5:L[i5]?=aj (fg 27 uU x.gR (cX s).bC.toNat x.vsR)) (h6:L[i6]?=aj (jd (λj=>j<(cX s).bC.toNat) (mL (cX s).aF (AN (cX s).bC.toNat (cX s).aF) (cX s).aR.toNat x.vsR (cX s).bC.toNat 0))):
 Ct w (.agg (x.cLL (cX s) R)) (aeH s R T) x.vo (ap (aj ⟨x.gP,0,ak⟩) R.length R.length) x.vT x.vp (ap (aj ⟨x.gR,0,ak⟩) (cX s).bC.toNat (cX s).bC.toNat) (ap ak 0 0) (ap ak 0 0) where
 val:=rfl
 of:=ac5 hl (hm.get h0)
 pk:=hm.pkI h2 h3 h4 hc
 AT:=ZN hg (hm.get h1)
 rows:=by
  obtain⟨a1,a2,a3,a4,a5,a6⟩:=cP hg;exact Zm a5 J (hm.get h5) (hm.get h6)
 oQ:=⟨_,_,rfl,jQ.nil,jQ.nil⟩
theorem aeK(hm:Mem B L w)(hl:s.words.length<=60)(hc:l7 R T=0)(hg:bX (cX s)=0)
 (h0:L[i0]?=aj (a_ 3 1 x.vo s.words.length ((Js s.words).1.map (av .i64)))) (h1:L[i1]?=aj (nR x.F x.vp (cX s).aF)) (h2:L[i2]?=aj (fg 27 x6 x.gP R.length x.Y6)) (h3:L[i3]?=aj (Ur R.length (np R 256) x.Y6)) (h4:L[i4]?=aj (a_ 3 1 x.vT T.length (T.flatMap cU.eo)))
 (h5:L[i5]?=aj (a_ 143 1 x.tx.vA (iB (cX s)).1.length x.tx.BW)) (h6:L[i6]?=aj (dZ zf x.tx.FA (x.tx.BW.map λv=>[v]) (iB (cX s)).1)) (h7:L[i7]?=aj (a_ 27 1 x.tx.vG (iB (cX s)).2.1.length x.tx.BX)) (h8:L[i8]?=aj (dZ (bM fz) x.tx.FG (x.tx.BX.map λv=>[v]) (iB (cX s)).2.1)):
 Ct w (.agg (x.cLR (cX s) R)) (aeI s R T) x.vo (ap (aj ⟨x.gP,0,ak⟩) R.length R.length) x.vT x.vp (ap ak 0 0) x.tx.vA x.tx.vG where
 val:=rfl
 of:=ac5 hl (hm.get h0)
 pk:=hm.pkI h2 h3 h4 hc
 AT:=ZN hg (hm.get h1)
 rows:=jQ.nil
 oQ:=abU (hm.get h5) (hm.get h6) (hm.get h7) (hm.get h8)
end
theorem JK{s:Sp}{r:Int×List Row×List Int}(h:RZ s r)(h0:r.1=0):s.words.length<=20/\bX (cX s)=0/\l7 r.2.1 r.2.2=0/\0<(Js s.words).1.length/\(Js s.words).1.length<=20/\(∀t∈(Js s.words).1,-1<=t/\t<(cX s).aR)/\∀t∈r.2.2,t<((Js s.words).1.length:Int):=by
 obtain⟨a1,a2⟩:=zh h h0;obtain⟨b1,b2,b3⟩:=ZL h h0;have e:=ZM (l:=s.words) J;have c:=(ac4 s.words s.words.length (bm _)).2;rw[my]at c;exact⟨b2,a1,a2,by omega,by omega,c,by rw[e];exact b3⟩
theorem ab9{s:Sp}{r:Int×List Row×List Int}(h:RZ s r)(h0:r.1=0):MdGood (aeH s r.2.1 r.2.2):=by
 obtain⟨a1,a2,a3,a4,a5,a6,a7⟩:=JK h h0;obtain⟨b1,b2,b3,b4,b5,b6⟩:=cP a2;exact⟨Sb _,P7 (Sc a3),a2,a4,a5,a6,a7,.inl ⟨rfl,MD (g:=cX s) (T:=(cX s).aR.toNat) (N:=(cX s).bC.toNat) a2 J J⟩⟩
theorem ab_{s:Sp}{r:Int×List Row×List Int}(h:RZ s r)(h0:r.1=0)(hT:(iB (cX s)).2.2.2=0):MdGood (aeI s r.2.1 r.2.2):=by
 obtain⟨a1,a2,a3,a4,a5,a6,a7⟩:=JK h h0;obtain⟨T,N,Nx,S,hM⟩:=Hy hT;refine⟨Sb _,P7 (Sc a3),a2,a4,a5,a6,a7,.inr ⟨rfl,T,N,?_⟩⟩;show rp (cX s) T N (iB (cX s)).1 (iB (cX s)).2.1
 rw[hM.dD,hM.gos];exact hM.oQ
end bZ
namespace Cv
open Go.RowKit cU dM dg fZ gu bZ
def aeL(a s:C4):List Wd:=[([97],.mk 3 a []),([],.mk 3 s [])]
def ZO:List Rl:=[([108],[[97],[109]]),([109],[]),([109],[[97],[109]])]
theorem Qj(n:Bs)(k:Int)(c:C4)(b:Option Addr)(m cp:Nat)(w:World):(df 83 #[(0,str n),(1,aQ (l8 k c (ap b m cp)).toArray)]).run aB w= .ok (aQ (yg n k c (ap b m cp)).toArray) w:=by kernel_rfl
theorem MF(n:Bs)(w:World):(df 86 #[(0,str n)]).run aB w= .ok (aQ #[str n,ap ak 0 0]) w:=by kernel_rfl
theorem MG(k:Int)(c:C4)(w:World):(df 83 #[(1,aQ (l8 k c (ap ak 0 0)).toArray)]).run aB w= .ok (aQ (yg [] k c (ap ak 0 0)).toArray) w:=by kernel_rfl
theorem BA(n:Bs)(g:Nat)(w:World):(df 86 #[(0,str n),(1,ap (aj ⟨g,0,ak⟩) 2 2)]).run aB w= .ok (aQ #[str n,ap (aj ⟨g,0,ak⟩) 2 2]) w:=by kernel_rfl
theorem MH(a b:Option Addr)(m c n d:Nat)(w:World):(df 25 #[(0,ap a m c),(1,ap b n d)]).run aB w= .ok (aQ #[ap a m c,ap b n d]) w:=by kernel_rfl
structure agr where
 g1:Nat
 g2:Nat
 g3:Nat
 g4:Nat
def rlC(n:Bs)(v:Value):List Value:=[str n,v]
def aca(a s:C4):bZ.Spec agr:=⟨λ_=>True,λx=>aQ #[ap (aj ⟨x.g1,0,ak⟩) 2 2,ap (aj ⟨x.g4,0,ak⟩) 3 3],λx=>[aP x.g1 (yg [97] 3 a (ap ak 0 0)++yg [] 3 s (ap ak 0 0)).toArray 83,aP x.g2 #[str [97],str [109]] 9,aP x.g3 #[str [97],str [109]] 9,
 aP x.g4 #[str [108],ap (aj ⟨x.g2,0,ak⟩) 2 2,str [109],ap ak 0 0,str [109],ap (aj ⟨x.g3,0,ak⟩) 2 2] 86]⟩
set_option maxRecDepth 100000 in
theorem Ql(w:World):Calls aB 6 #[] w (cz (aca (e_ 97 97) (e_ 32 32)) w):=by
 have hl:=λw=>yz 97 w ⟨by decide,by decide⟩;have J':=λw=>yz 32 w ⟨by decide,by decide⟩;generalize e_ 97 97=ca at*;generalize e_ 32 32=cs at*;refine enter (args:=[]) (n:=13) Tryz.func6 I I I ?_;refine b9 (bz (aY I λg0=>?_));refine zL ?_
 try refine GA ?_
 refine aW (iM aI.en I I) (λw hm=>hl w) I I I ?_;intro _ _;refine zL ?_
 repeat(first|refine QZ ?_|refine QV (bB I (Qj _ _ _ _ _ _)) ?_)
 refine aW (iM aI.en I I) (λw hm=>J' w) I I I ?_;intro _ _;refine zL ?_
 repeat(first|refine QZ ?_|refine QV (bB I (MG _ _)) ?_)
 refine fm (cs:=(yg [97] 3 ca (ap ak 0 0)++yg [] 3 cs (ap ak 0 0)).toArray) [aQ (yg [97] 3 ca (ap ak 0 0)).toArray,aQ (yg [] 3 cs (ap ak 0 0)).toArray] I I I (by intro v hv;simp only[dx,fl,or_false]at hv;rcases hv with rfl|rfl<;>rfl) I I I λg5=>?_;refine zL ?_;refine fm (cs:=#[str [97],str [109]]) [str [97],str [109]] I I I (by intro v hv;simp only[dx,fl,or_false]at hv;rcases hv with rfl|rfl<;>rfl) I I I λg6=>?_;refine zL ?_
 repeat(first|refine QZ ?_|refine QV (bB I (BA _ _)) ?_|refine QV (bB I (MF _)) ?_)
 refine fm (cs:=#[str [97],str [109]]) [str [97],str [109]] I I I (by intro v hv;simp only[dx,fl,or_false]at hv;rcases hv with rfl|rfl<;>rfl) I I I λg9=>?_;refine zL ?_
 repeat(first|refine QZ ?_|refine QV (bB I (BA _ _)) ?_)
 refine fm (cs:=#[str [108],ap (aj ⟨g6,0,ak⟩) 2 2,str [109],ap ak 0 0,str [109],ap (aj ⟨g9,0,ak⟩) 2 2]) [aQ #[str [108],ap (aj ⟨g6,0,ak⟩) 2 2],aQ #[str [109],ap ak 0 0],aQ #[str [109],ap (aj ⟨g9,0,ak⟩) 2 2]] I I I (by intro v hv;simp only[dx,fl,or_false]at hv;rcases hv with rfl|rfl|rfl<;>rfl) I I I λg11=>?_;refine zL ?_
 repeat(first|refine QZ ?_|refine QV (bB I (MH _ _ _ _ _ _)) ?_)
 refine gh 0 (cs':=#[ap (aj ⟨g5,0,ak⟩) 2 2,ap (aj ⟨g11,0,ak⟩) 3 3]) ?_;refine zL ?_
 try refine GA ?_
 exact fF (i:=0) I I I I λw hm=>hm.meets (S:=aca ca cs) ⟨g5,g6,g9,g11⟩ trivial [1,2,3,4] aiz I
theorem nle{n:Nat}(h:n<=10:=by exact Nat.le_of_ble_eq_true I):n<=9223372036854775807:=by omega
theorem Sd{w:World}{g:Nat}(h:(aP g #[str [97],str [109]] 9).holds w):jQ S3 (pD w) w (ap (aj ⟨g,0,ak⟩) 2 2) [[97],[109]]:=by
 have hb:w.heap[g]?=aj (.cells #[str [97],str [109]] 9 (0,0)):=h;refine⟨_,2,rfl,bm _,by decide,λ_=>⟨g,0,rfl,(jt.1 hb).1,λi hi=>⟨[str ([[97],[109]]:List Bs)[i]],⟨rfl,?_⟩,λj u hj=>?_⟩⟩⟩
 ·match i,hi with
  |0,_=>exact(by decide:(1:Nat)<=9223372036854775807)
  |1,_=>exact(by decide:(1:Nat)<=9223372036854775807)
 rw[cell_of_row w g _ _ _ _ hb]
 match i,hi,j,hj with
 |0,_,0,hj=>exact hj
 |1,_,0,hj=>exact hj
theorem acb{w:World}{a s:C4}{x:agr}(h1:(aP x.g1 (yg [97] 3 a (ap ak 0 0)++yg [] 3 s (ap ak 0 0)).toArray 83).holds w)(h2:(aP x.g2 #[str [97],str [109]] 9).holds w)(h3:(aP x.g3 #[str [97],str [109]] 9).holds w)
 (h4:(aP x.g4 #[str [108],ap (aj ⟨x.g2,0,ak⟩) 2 2,str [109],ap ak 0 0,str [109],ap (aj ⟨x.g3,0,ak⟩) 2 2] 86).holds w):RL (pD w) w (aQ #[ap (aj ⟨x.g1,0,ak⟩) 2 2,ap (aj ⟨x.g4,0,ak⟩) 3 3]) ⟨aeL a s,ZO⟩:=by
 have FC:w.heap[x.g1]?=aj (.cells (yg [97] 3 a (ap ak 0 0)++yg [] 3 s (ap ak 0 0)).toArray 83 (0,0)):=h1;have hb4:w.heap[x.g4]?=aj (.cells #[str [108],ap (aj ⟨x.g2,0,ak⟩) 2 2,str [109],ap ak 0 0,str [109],ap (aj ⟨x.g3,0,ak⟩) 2 2] 86 (0,0)):=h4;have hx:∀c,kh (pD w) w (l8 3 c (ap ak 0 0)) (.mk 3 c []):=λc=>yy.2 ⟨_,rfl,⟨by decide,by decide⟩,jQ.nil⟩;refine⟨_,_,rfl,⟨_,2,rfl,bm _,by decide,λ_=>⟨x.g1,0,rfl,(jt.1 FC).1,λi hi=>?_⟩⟩,⟨_,3,rfl,bm _,by decide,λ_=>⟨x.g4,0,rfl,(jt.1 hb4).1,λi hi=>?_⟩⟩⟩
 ·match i,hi with
  |0,_=>
   refine⟨yg [97] 3 a (ap ak 0 0),⟨[str [97]],_,rfl,⟨rfl,nle⟩,hx a⟩,λj u hj=>?_⟩;rw[cell_of_row w x.g1 _ _ _ _ FC,jf,wZ,cV,gJ (dl.1 hj).1];exact hj
  |1,_=>
   refine⟨yg [] 3 s (ap ak 0 0),⟨[str []],_,rfl,⟨rfl,nle⟩,hx s⟩,λj u hj=>?_⟩;rw[cell_of_row w x.g1 _ _ _ _ FC,jf];show(yg [97] 3 a (ap ak 0 0)++yg [] 3 s (ap ak 0 0))[0+1*7+j]?=aj u
   rw[mP (by show 7<=_;omega),show 0+1*7+j-(yg [97] 3 a (ap ak 0 0)).length=j from by show 0+1*7+j-7=j;omega];exact hj
 ·match i,hi with
  |0,_=>
   refine⟨rlC [108] (ap (aj ⟨x.g2,0,ak⟩) 2 2),⟨[str [108]],[_],rfl,⟨rfl,nle⟩,_,rfl,Sd h2⟩,λj u hj=>?_⟩;rw[cell_of_row w x.g4 _ _ _ _ hb4]
   match j,hj with
   |0,hj=>exact hj
   |1,hj=>exact hj
  |1,_=>
   refine⟨rlC [109] (ap ak 0 0),⟨[str [109]],[_],rfl,⟨rfl,nle⟩,_,rfl,jQ.nil⟩,λj u hj=>?_⟩;rw[cell_of_row w x.g4 _ _ _ _ hb4]
   match j,hj with
   |0,hj=>exact hj
   |1,hj=>exact hj
  |2,_=>
   refine⟨rlC [109] (ap (aj ⟨x.g3,0,ak⟩) 2 2),⟨[str [109]],[_],rfl,⟨rfl,nle⟩,_,rfl,Sd h3⟩,λj u hj=>?_⟩;rw[cell_of_row w x.g4 _ _ _ _ hb4]
   match j,hj with
   |0,hj=>exact hj
   |1,hj=>exact hj
end Cv
namespace nb
open dg fZ ef cT
theorem ZP{a b c:List Int}(h1:c.Pairwise (· < ·))(h2:∀x,(x∈a\/x∈b)↔x∈c):qy a b=c:=
 DL (Cf _ _).1 h1 λx=>by rw[(Cf _ _).2,h2]
end nb
namespace Cw
open Go.RowKit cU dM bZ dg fZ gu aT cT ef nb Cv
def lS:Sp:=⟨aeL (e_ 97 97) (e_ 32 32),ZO⟩
def lE:List Re:=[.byte (e_ 97 97),.byte (e_ 32 32)]
set_option maxRecDepth 1000000 in
theorem aeM:BY lS 0=(0,1):=by kernel_rfl
theorem acd:uS lS=0:=by kernel_rfl
def lM(a b:C4):MS:=⟨⟨[a,b],[0,1],[[],[]],[aD,aD]⟩,[0,1],[aE,aE]⟩
theorem aeN(a b:C4):lp 0 .zero [.byte a,.byte b]=(0,lM a b):=by
 have u0:qy [] [0]=[0]:=ZP (by simp) (by simp);have u1:qy [0] [1]=[0,1]:=ZP (by simp) (by simp);have s0:wz 0 .zero (.byte a)=⟨⟨[a],[0],[[]],[aD]⟩,[0],[aE]⟩:=by simp[wz,cK,MS.zero,fK,u0]
 have s1:wz 1 ⟨⟨[a],[0],[[]],[aD]⟩,[0],[aE]⟩ (.byte b)=lM a b:=by
  simp[wz,cK,fK,u1,lM]
 rw[lp,s0,if_neg (by simp),lp,s1,if_neg (by simp[lM]),lp]
theorem UD:jG (pw lS)=0:=by kernel_rfl
set_option maxRecDepth 1000000 in
theorem ace:((uj (lM (e_ 97 97) (e_ 32 32))).map λx=>x.1.length)=aj 3:=by kernel_rfl
theorem aeO:∃r,RZ lS r/\r.1=0:=by
 have hl:lp 0 .zero lE=(0,lM (e_ 97 97) (e_ 32 32)):=aeN _ _;have hd:=ace;generalize lM (e_ 97 97) (e_ 32 32)=m at*
 cases hm:uj m with
 |none=>rw[hm]at hd;cases hd
 | some y=>
  obtain⟨R,d⟩:=y;refine⟨_,.inr ⟨lE,m,rfl,?_,by decide,by decide,hl,.inr (.inr ⟨by decide,UD,lE,rfl,?_,hl.symm⟩),.inr (.inr ⟨acd,?_,?_,rfl⟩)⟩,rfl⟩
  ·intro e he
   simp only[lE,dx,fl,or_false]at he;rcases he with rfl|rfl<;>exact⟨by unfold Re.nz;decide,by decide,by decide⟩
  ·intro e he
   simp only[lE,dx,fl,or_false]at he;rcases he with rfl|rfl<;>decide
  rw[Ei hm];rw[Ei hm];exact Yu (Ch aiz aiz hl) (AG hm)
end Cw
namespace bZ
open Go.RowKit cU dM
theorem ZQ(a:Int):(cU.eo a).length=1:=rfl
theorem ww(v:Value)(l:List Int)(w:World)(hs:Sl w v l.length (l.flatMap cU.eo))(oU:FuncId)(first cp:Array Value)(p:Int->Bool)(Fv:Enters aB oU)
 (hp:∀a∈l,∀w',Gr w w'->Calls aB oU (first++#[((cU.eo a).headD undef)]++cp) w' (cz (ret (.bool (p a))) w')):
 Calls aB 162 #[v,.func (.func oU) first cp] w (cz (ret (av az (qP p l))) w):=by
 obtain⟨base,cap,rfl,lm,j0,eL⟩:=hs;unfold maxLen at j0;refine enter (args:=[ap base l.length cap,.func (.func oU) first cp]) (n:=19) Tryz.func162 I I I ?_
 repeat(first|refine qv I (qp I) I I ?_|refine ky ?_|refine b9 ?_|refine bz ?_|refine qcT I ?_|refine qcF I ?_|refine w_ ?_|refine xc ?_|refine yj ?_|refine rQ ?_|refine lH ?_|refine rR ?_|refine n9 ?_|refine oB ?_|refine oC ?_|refine nt ?_|refine nu I ?_|refine qv I (Ku bL.eq I) I I ?_|refine qv I (dO I I (qT J)) I I ?_|refine qv I (dO I I (qF J)) I I ?_|refine qv I (eM I I J J I) I I ?_)
 refine dY (ι:=Nat) (λk=>k<=l.length/\∀j (hj:j<l.length),j<k->p l[j]=aE) (λk=>[(0,ap base l.length cap),(1,.func (.func oU) first cp),(7,av az l.length),(8,av az (k:Int))]) (λ_=>[]) (λk=>l.length-k) 0 ⟨by omega,λj hj h=>by omega⟩ ?_;rintro k ⟨h1,h2⟩
 by_cases c2:k<l.length
 ·obtain⟨b,off,rfl,hr⟩:=eL J
  have dz:=gG (L:=([]:List b_)) ZQ hr c2;have iz:=hp l[k] (cD c2)
  by_cases c3:p l[k]=aD
  ·rw[qQ c2 c3 h2]
   rw[c3]at iz;clear hp h2 eL
   repeat(first|refine qv I (qp I) I I ?_|refine ky ?_|refine b9 ?_|refine bz ?_|refine qcT I ?_|refine qcF I ?_|refine w_ ?_|refine xc ?_|refine yj ?_|refine rQ ?_|refine lH ?_|refine rR ?_|refine n9 ?_|refine oB ?_|refine oC ?_|refine nt ?_|refine nu I ?_|refine qv I (aX bL.eq aK.ty I I c2) I I ?_|refine qv I (aC aK.ty I (dz 0 _ I)) I I ?_|refine qv I (Ku bL.eq I) I I ?_|refine qv I (dO I I (qT J)) I I ?_|refine qv I (dO I I (qF J)) I I ?_|refine qv I (eM I I J J I) I I ?_)
   refine aW (BK Fv I I) (λw hm=>iz w hm.below) I I I ?_;intro _ _
   repeat(first|refine qv I (qp I) I I ?_|refine ky ?_|refine b9 ?_|refine bz ?_|refine qcT I ?_|refine qcF I ?_|refine w_ ?_|refine xc ?_|refine yj ?_|refine rQ ?_|refine lH ?_|refine rR ?_|refine n9 ?_|refine oB ?_|refine oC ?_|refine nt ?_|refine nu I ?_|refine qv I (Ku bL.eq I) I I ?_|refine qv I (dO I I (qT J)) I I ?_|refine qv I (dO I I (qF J)) I I ?_|refine qv I (eM I I J J I) I I ?_)
   exact eE
  have Np:p l[k]=false:=by simpa using c3
  rw[Np]at iz;clear hp eL c3
  repeat(first|refine qv I (qp I) I I ?_|refine ky ?_|refine b9 ?_|refine bz ?_|refine qcT I ?_|refine qcF I ?_|refine w_ ?_|refine xc ?_|refine yj ?_|refine rQ ?_|refine lH ?_|refine rR ?_|refine n9 ?_|refine oB ?_|refine oC ?_|refine nt ?_|refine nu I ?_|refine qv I (aX bL.eq aK.ty I I c2) I I ?_|refine qv I (aC aK.ty I (dz 0 _ I)) I I ?_|refine qv I (Ku bL.eq I) I I ?_|refine qv I (dO I I (qT J)) I I ?_|refine qv I (dO I I (qF J)) I I ?_|refine qv I (eM I I J J I) I I ?_)
  refine aW (BK Fv I I) (λw hm=>iz w hm.below) I I I ?_;intro _ _
  repeat(first|refine qv I (qp I) I I ?_|refine ky ?_|refine b9 ?_|refine bz ?_|refine qcT I ?_|refine qcF I ?_|refine w_ ?_|refine xc ?_|refine yj ?_|refine rQ ?_|refine lH ?_|refine rR ?_|refine n9 ?_|refine oB ?_|refine oC ?_|refine nt ?_|refine nu I ?_|refine qv I (Ku bL.eq I) I I ?_|refine qv I (dO I I (qT J)) I I ?_|refine qv I (dO I I (qF J)) I I ?_|refine qv I (eM I I J J I) I I ?_)
  exact bW (k+1) ⟨by omega,λj hj h=>if e:j<k then h2 j hj e else(by obtain rfl:j=k:=J;exact Np)⟩ (by show l.length-(k+1)<l.length-k;omega)
 ·rw[qR λj hj=>h2 j hj J]
  clear hp h2 eL
  repeat(first|refine qv I (qp I) I I ?_|refine ky ?_|refine b9 ?_|refine bz ?_|refine qcT I ?_|refine qcF I ?_|refine w_ ?_|refine xc ?_|refine yj ?_|refine rQ ?_|refine lH ?_|refine rR ?_|refine n9 ?_|refine oB ?_|refine oC ?_|refine nt ?_|refine nu I ?_|refine qv I (Ku bL.eq I) I I ?_|refine qv I (dO I I (qT J)) I I ?_|refine qv I (dO I I (qF J)) I I ?_|refine qv I (eM I I J J I) I I ?_)
  exact eE
theorem sF(v:Value)(l:List Int)(w:World)(hs:Sl w v l.length (l.flatMap cU.eo))(oU:FuncId)(first cp:Array Value)(p:Int->Bool)(Fv:Enters aB oU)
 (hp:∀a∈l,∀w',Gr w w'->Calls aB oU (first++#[((cU.eo a).headD undef)]++cp) w' (cz (ret (.bool (p a))) w')):
 Calls aB 138 #[v,.func (.func oU) first cp] w (cz (ret (.bool (l.any p))) w):=by
 refine enter (args:=[v,.func (.func oU) first cp]) (n:=9) Tryz.func138 I I I ?_;have hh:=λw' (hg:Gr w w')=>ww v l w' (hs.gr hg) oU first cp p Fv λa ha Fg yG=>hp a ha Fg (hg.trans yG);have hr:=oJ p l;rw[<-tN p l];generalize qP p l=r at*
 repeat(first|refine qv I (qp I) I I ?_|refine ky ?_|refine b9 ?_|refine bz ?_|refine yj ?_|refine lH ?_|refine n9 ?_|refine qv I (eN I I (qT J)) I I ?_|refine qv I (eN I I (qF J)) I I ?_)
 refine aW (fI aI.en I I I) (λw hm=>hh _ hm.below) I I I ?_;intro _ _
 repeat(first|refine qv I (qp I) I I ?_|refine ky ?_|refine b9 ?_|refine bz ?_|refine yj ?_|refine lH ?_|refine n9 ?_|refine qv I (eN I I I) I I ?_|refine qv I (eN I I (qT J)) I I ?_|refine qv I (eN I I (qF J)) I I ?_)
 exact eE
end bZ
namespace bZ
open Go.RowKit cU dM aT dL dG bI cT
def sI(σ:List Nat):List Int:=σ.reverse.map λq:Nat=>(q:Int)
theorem uZ(σ:List Nat):(sI σ).length=σ.length:=by unfold sI;simp
theorem zl(q:Nat)(σ:List Nat):sI (q::σ)=sI σ++[(q:Int)]:=by unfold sI;simp
theorem Se(b:Nat)(σ:List Nat):sI (σ.drop b)=(sI σ).take (σ.length-b):=by
 unfold sI;rw[<-Zz,List.take_reverse]
 by_cases h:b<=σ.length
 rw[show σ.length-(σ.length-b)=b by omega];rw[oL J,oL J]
theorem ZR{b:Nat}{σ ρ:List Nat}{r n:Nat}(h:σ.drop b=r::ρ)(hn:σ.length=n+1+b):(sI σ)[n]?=aj (r:Int):=by
 have h1:=Se b σ;rw[h,zl,show σ.length-b=n+1 by omega]at h1;have h2:ρ.length=n:=by
  have:=congrArg xP h;rw[iX,c_]at this;omega
 have h3:((sI σ).take (n+1))[n]?=aj (r:Int):=by
  rw[<-h1,mP (by rw[uZ];omega),uZ,h2,nT];rfl
 rwa [Zu (mz n)]at h3
abbrev skR(w:World)(vs:Value)(σ:List Nat):Prop:=Sl w vs σ.length ((sI σ).flatMap cU.eo)
abbrev Sf(vs:Value)(σ:List Nat):b_:=a_ 3 1 vs σ.length ((sI σ).flatMap cU.eo)
def u_(vs:Value)(seen over:Int)(done:Bool):Value:=aQ #[vs,av az seen,av az over,.bool done]
theorem EW(aA:Option Addr)(nA cA:Nat)(vG:Value)(q:Int)(g5:Nat)(w:World)(h0:0<=q)(h1:q<(nA:Int))(hg:w.heap[g5]?=aj (.cells (aQ #[ap aA nA cA,vG]).cells 37 (0,0))):
 Calls aB 139 #[av az q,aJ (aj ⟨g5,0,ak⟩)] w (cz (ret (.bool aE)) w):=by
 have hcell:∀(L:List b_),At w L ⟨g5,0,ak⟩ (ap aA nA cA):=λL=>jX (by
  rw[cell_of_row w g5 0 _ _ _ hg];rfl)
 clear hg;refine enter (args:=[av az q,aJ (aj ⟨g5,0,ak⟩)]) (n:=13) Tryz.func139 I I I ?_
 repeat(first|refine GC ?_|refine gV (dO (b:=aE) I I (decide_eq_false J)) ?_|refine gV (aC (v:=ap aA nA cA) aK.ty I (hcell _)) ?_|refine gV (eN (b:=aE) I I (decide_eq_false J)) ?_|refine GB ?_)
 exact eE
theorem wL(v t vs:Value)(g:d_)(T N:Nat)(A:List (List bI.Act))(G:List (List Int))(σ:List Nat)(seen col:Int)(w:World)(hG:jZ (λk=>k<w.heap.size) w v g)(ht:AR w t A G)(hs:skR w vs σ)(hT:rp g T N A G)(hq:∀q∈σ,q<A.length)(h0:0<σ.length)(hl:σ.length<=60)(h1:0<=seen)(h2:seen<=1099511627776)(h3:0<=col)(h4:col<=g.aR):
 Calls aB 123 #[v,t,u_ vs seen 0 aE,av az col] w (cz (ret (av az 0)) w):=by
 have iS:=λw' (hg:Gr w w')=>wK v t g T N A G hT w' (hG.gr hg) (ht.gr hg);obtain⟨vp,rfl,hp,-,-⟩:=hG;obtain⟨bp,cp,rfl,-⟩:=hp;obtain⟨vA,vG,rfl,hA,hGo⟩:=ht;obtain⟨aA,cA,rfl,-,-⟩:=mD hA;clear hA hGo;have Kd:=λw' (hg:Gr w w') g5 (hb:w'.heap[g5]?=aj (.cells (aQ #[ap aA A.length cA,vG]).cells 37 (0,0)))=>sF vs (sI σ) w' (by rw[uZ];exact hs.gr hg) 139 #[] #[aJ (aj ⟨g5,0,ak⟩)] (λ_=>aE) aI.en (λa ha Fg yG=>by
  unfold sI at ha;obtain⟨q,hq1,rfl⟩:=fa.1 ha;have:=hq q (List.mem_reverse.1 hq1);exact EW aA A.length cA vG (q:Int) g5 Fg J J (by rw[yG.block g5 (jt.1 hb).1];exact hb))
 have EK:(sI σ).any (λ_=>aE)=false:=by rw[sD];intro _ _ h;cases h
 rw[EK]at Kd;obtain⟨bs,cs,rfl,-⟩:=hs;refine enter (args:=[dE g.aR g.bC (ap bp g.aF.length cp),aQ #[ap aA A.length cA,vG],u_ (ap bs σ.length cs) seen 0 aE,av az col]) (n:=66) Tryz.func123 I I I ?_;refine b9 (bz (bQ I I I λg4=>?_));refine zL ?_;refine bQ I I I λg5=>?_;refine zL ?_;refine bQ I I I λg6=>?_;refine zL ?_
 repeat(first|refine GA ?_|refine gV (aO (i:=0) aK.ty I I I) ?_|refine gV (aO (i:=1) aK.ty I I I) ?_)
 refine aW (fI aI.en I I I) (λw hm=>iS w hm.below) I I I ?_;intro _ _;refine zL ?_
 repeat(first|refine GA ?_|refine gV (aC (v:=ap bs σ.length cs) aK.ty I (aH (i:=2) I I)) ?_|refine gV (aC (v:=av az seen) aK.ty I (aH (i:=2) I I)) ?_|refine gV (aC (v:=av az 0) aK.ty I (aH (i:=2) I I)) ?_|refine gV (aC (v:= .bool aE) aK.ty I (aH (i:=2) I I)) ?_|refine gV (aC (v:=av az g.aR) aK.ty I (aH (i:=0) I I)) ?_|refine gV (vJ I I) ?_)
 refine aW (fI aI.en I I I) (λw hm=>Kd _ hm.below _ (hm.get (i:=1) I)) I I I ?_;intro _ _;refine zL ?_
 repeat(first|refine GA ?_|refine gV (aC (v:=av az 0) aK.ty I (aH (i:=2) I I)) ?_|refine gV (aC (v:= .bool aE) aK.ty I (aH (i:=2) I I)) ?_)
 exact eE
theorem UE(g:Nat)(w:World):(df 94 #[(0,ap (aj ⟨g,0,ak⟩) 1 1)]).run aB w= .ok (u_ (ap (aj ⟨g,0,ak⟩) 1 1) 0 0 aE) w:=by
 unfold u_;go_simp
theorem Hz(seen e:Int)(w:World):(df 94 #[(1,av az seen),(2,av az e)]).run aB w= .ok (u_ (ap ak 0 0) seen e aE) w:=by
 unfold u_;go_simp
theorem UF(b:Option Addr)(m c:Nat)(seen:Int)(w:World):(df 94 #[(0,ap b m c),(1,av az seen)]).run aB w= .ok (u_ (ap b m c) seen 0 aE) w:=by
 unfold u_;go_simp
theorem UG(seen:Int)(w:World):(df 94 #[(1,av az seen),(3,.bool aD)]).run aB w= .ok (u_ (ap ak 0 0) seen 0 aD) w:=by
 unfold u_;go_simp
def Cx:Spec Value:=⟨λ_=>True,λvt=>u_ vt 0 0 aE,λvt=>[Sf vt [0]]⟩
theorem F0(w:World):Calls aB 28 #[] w (cz Cx w):=by
 refine enter (args:=[]) (n:=3) Tryz.func28 I I I ?_;refine b9 (bz (aY I λg2=>?_));refine zL ?_
 try refine GA ?_
 refine fm (cs:=#[av az 0]) [av az 0] I I I (by intro v hv;simp at hv;subst hv;rfl) I I I λg3=>?_;refine zL ?_
 repeat(first|refine QZ ?_|refine QV (bB I (UE _)) ?_)
 refine gh 0 (cs':=#[ap (aj ⟨g3,0,ak⟩) 1 1,av az 0,av az 0,.bool aE]) ?_;refine zL ?_;refine yq (i:=1) 1 I I J ?_;refine zL ?_
 try refine GA ?_
 exact fF (i:=0) I I I I λw hm=>hm.meets (S:=Cx) (ap (aj ⟨g3,0,ak⟩) 1 1) trivial [1] aiz I
def MI(R:Option (List Nat)):Spec Value:=⟨λ_=>True,λv=> .tuple #[v,.bool R.isSome],λv=>match R with|some σ'=>[Sf v σ']|none=>[]⟩
theorem EX(v t vs:Value)(g:d_)(T N:Nat)(A:List (List bI.Act))(G:List (List Int))(σ:List Nat)(p:Nat)(w:World)(hG:jZ (λk=>k<w.heap.size) w v g)(ht:AR w t A G)(hs:skR w vs σ)(hT:rp g T N A G)(hq:∀q∈σ,q<A.length)(hl:σ.length<=60)(hp:p<g.aF.length):
 Calls aB 140 #[v,t,vs,av az (p:Int)] w (cz (MI (B2 g.aF (eU G) σ (p:Int))) w):=by
 obtain⟨hg,Jh,hNn,AE,Py,tX,hwA,abV,hwG,Zn⟩:=hT;obtain⟨hT1,hT2,-,WD,Bl,hpr⟩:=cP hg;have hpe:db g.aF (p:Int)=g.aF[p]:=by unfold db;rw[dB,cH,bD hp];rfl
 have hpp:=hpr _ (cD hp);obtain⟨vp,rfl,hpg,-,-⟩:=hG;obtain⟨bp,cp,rfl,-,-,nZ⟩:=hpg;obtain⟨b1,o1,rfl,-,nZ⟩:=nZ J;obtain⟨base,cap,eL,-,-⟩:=lx nZ hp;clear nZ;unfold B2;rw[hpe];have ahF:∀L,At (w:bR) L ⟨b1,o1+p*2+0,ak⟩ (av az g.aF[p].1):=λL=>iD eL I;have ags:∀L,At (w:bR) L ⟨b1,o1+p*2+1,ak⟩ (.slice base g.aF[p].2.length cap):=λL=>iD eL I;clear eL hpe hpr;generalize g.aF[p]=pr at*;obtain⟨hd,bd⟩:=pr;dsimp only at*;obtain⟨vA,vG,rfl,-,hGo⟩:=ht;obtain⟨aG,cG,rfl,-,-⟩:=mD hGo;obtain⟨bs,cs,rfl,hcs,hms,hrS⟩:=hs;unfold maxLen at hms;refine enter (args:=[dE g.aR g.bC (ap (aj ⟨b1,o1,ak⟩) g.aF.length cp),aQ #[vA,ap aG G.length cG],ap bs σ.length cs,av az (p:Int)]) (n:=50) Tryz.func140 I I I ?_;refine b9 (bz (bQ I I I λg4=>?_));refine zL ?_;refine bQ I I I λg5=>?_;refine zL ?_
 by_cases c:σ.length<=bd.length
 ·rw[oL c]
  repeat(first|refine GC ?_|refine gV (aC (v:=ap (aj ⟨b1,o1,ak⟩) g.aF.length cp) aK.ty I (aH (i:=0) I I)) ?_|refine gV (aX bL.eq aK.ty I I hp) ?_|refine gV (aC (v:=ap base bd.length cap) aK.ty I (ags _)) ?_|refine gV (eC (r:=(σ.length:Int)-(bd.length:Int)) I I I J J) ?_|refine gV (dO (b:=aD) I I (decide_eq_true J)) ?_|refine GB ?_)
  exact rS I I I λw hm=>hm.meets (S:=MI ak) (ap ak 0 0) trivial [] aiz I
 obtain⟨n,hn⟩:∃n,σ.length=n+1+bd.length:=⟨σ.length-bd.length-1,by omega⟩;obtain⟨r,ρ,hdr⟩:∃r ρ,σ.drop bd.length=r::ρ:=Qc λe=>by
  have:=congrArg xP e;rw[iX,gU]at this;omega
 have P6:=ZR hdr hn;have hdI:=Se bd.length σ;rw[hdr,zl,show σ.length-bd.length=n+1 by omega]at hdI;have hrA:r<A.length:=hq r (AB (i:=bd.length) (by rw[hdr];exact gZ ..));rw[hdr];dsimp only;have hrG:r<G.length:=by omega
 obtain⟨b2,o2,rfl,EC⟩:=hrS J;rw[Ll]at EC;have s8:∀L,At (w:bR) L ⟨b2,o2+n,ak⟩ (av az (r:Int)):=λL=>iD EC (by rw[eX,P6];rfl);have agt:∀L j u,(((sI σ).take (n+1)).flatMap cU.eo)[j]?=aj u->At (w:bR) L ⟨b2,o2+j,ak⟩ u:=λL j u hj=>iD EC (by
  rw[Ll,Zz,qu]at hj
  by_cases cc:j<n+1
  rwa [if_pos cc]at hj
  rw[if_neg cc]at hj;cases hj)
 clear EC hrS;obtain⟨bG,oG,wi,rfl,hcG,hsG⟩:=JA hGo hrG;have abX:∀L,At (w:bR) L ⟨bG,oG+r,ak⟩ wi:=λL=>jX hcG;clear hcG;obtain⟨ei,di,rfl,hdi,agj⟩:=mD hsG;have hfG:=hsG.flat (f:=λn=>[av .i64 n]) aiz;obtain⟨_,_,e2,-,-,hrY⟩:=hfG
 cases e2
 have aiv:=hwG r hrG;have hgo:=Zn r hrG;have Kz:eU G r hd=G[r].getD hd.toNat 0:=by unfold eU;rw[cH (l:=G),bD hrG];rfl
 rw[Kz];clear hsG Kz Zn hwG hwA abV hGo;generalize G[r]=Y at*;obtain⟨h,rfl⟩:=hY hpp.2.1;have hhY:h<Y.length:=by omega
 obtain⟨b3,o3,rfl,MA⟩:=hrY J;have hYh:Y[h]?=aj (Y.getD h 0):=by rw[cH,bD hhY];rfl
 have adV:∀L,At (w:bR) L ⟨b3,o3+h,ak⟩ (av az (Y.getD h 0)):=λL=>iD MA (by
  rw[show(Y.flatMap λn=>[av .i64 n])=Y.map (.int .i64)from Ll Y,eX,hYh];rfl)
 have hto:=hgo _ (kR hYh);clear MA hrY hYh hgo;rw[show Y.getD ((h:Int)).toNat 0=Y.getD h 0 from I];generalize Y.getD h 0=to1 at*
 repeat(first|refine GC ?_|refine gV (aC (v:=ap (aj ⟨b1,o1,ak⟩) g.aF.length cp) aK.ty I (aH (i:=0) I I)) ?_|refine gV (aX bL.eq aK.ty I I hp) ?_|refine gV (aC (v:=ap base bd.length cap) aK.ty I (ags _)) ?_|refine gV (eC (r:=((n+1:Nat):Int)) I I J J J) ?_|refine gV (dO (b:=aE) I I (decide_eq_false J)) ?_|refine GB ?_)
 refine dK ([aP g4 (dE g.aR g.bC (ap (aj ⟨b1,o1,ak⟩) g.aF.length cp)).cells 34,aP g5 (aQ #[vA,ap (aj ⟨bG,oG,ak⟩) G.length cG]).cells 37]) (.calm 0 (.calm 1 (.calm 2 (.calm 3 (.calm 4 (.calm 5 (.calm 6 (.calm 7 (.calm 8 (.calm 9 (.calm 10 (.calm 11 (.calm 12 (.calm 13 (.calm 14 (.calm 15 (.calm 16 (.calm 17 (.done))))))))))))))))))) (λ_ h=>h) ?_
 repeat(first|(refine GN ?_;first|refine QW QP ?_|refine QW (aC (v:=ap (aj ⟨bG,oG,ak⟩) G.length cG) aK.ty I (aH (i:=1) I I)) ?_|refine QW (eC (r:=(n:Int)) I I J J J) ?_|refine QW (bY (j:=n) bL.eq aK.ty I I J) ?_|refine QW (aC (v:=av az (r:Int)) aK.ty I (s8 _)) ?_|refine QW (bY (j:=r) bL.eq aK.ty I I hrG) ?_|refine QW (aC (v:=ap (aj ⟨b3,o3,ak⟩) Y.length di) aK.ty I (abX _)) ?_|refine QW (aC (v:=ap (aj ⟨b1,o1,ak⟩) g.aF.length cp) aK.ty I (aH (i:=0) I I)) ?_|refine QW (aX bL.eq aK.ty I I hp) ?_|refine QW (aC (v:=av az (h:Int)) aK.ty I (ahF _)) ?_|refine QW (bY (j:=h) bL.eq aK.ty I I hhY) ?_|refine QW (aC (v:=av az to1) aK.ty I (adV _)) ?_|refine GX ?_)|refine GW ?_)
 repeat(first|refine GC ?_|refine gV (adE (j:=n+1) bL.eq aK.ty I I I J) ?_|refine GB ?_)
 refine fy (cs:=#[av az to1]) I I I I I λg46=>?_;refine zL ?_;refine N_ (q:=2) (m:=n+1) (olds:=((sI σ).take (n+1)).flatMap cU.eo) I (agt _) (by rw[Ll,dI,iU,uZ];show _=(n+1)*1;omega) I I I J J I λv'=>?_;refine zL ?_
 by_cases c2:0<=to1
 ·rw[if_pos c2]
  have e:a_ 3 1 v' (n+1+1) (((sI σ).take (n+1)).flatMap cU.eo++[av az to1])=Sf v' (to1.toNat::r::ρ):=by
   have QR:(to1.toNat::r::ρ).length=n+1+1:=by
    have:=congrArg xP hdr;rw[iX]at this;simp only[c_]at this⊢;omega
   show _=a_ 3 1 v' (to1.toNat::r::ρ).length ((sI (to1.toNat::r::ρ)).flatMap cU.eo)
   rw[QR,zl,zl,hdI,gO,tV c2];rfl
  repeat(first|refine GC ?_|refine gV (eN (b:=aD) I I (decide_eq_true c2)) ?_|refine GB ?_)
  exact rS I I I λw hm=>hm.meets (S:=MI (aj (to1.toNat::r::ρ))) v' trivial [3] aiz (by show[_]=[_];rw[<-e];rfl)
 ·rw[if_neg c2]
  repeat(first|refine GC ?_|refine gV (eN (b:=aE) I I (decide_eq_false c2)) ?_|refine GB ?_)
  exact rS I I I λw hm=>hm.meets (S:=MI ak) v' trivial [] aiz I
end bZ
namespace bZ
open Go.RowKit cU dM aT dL dG bI cT
theorem rp.right{g:d_}{T N:Nat}{A:List (List bI.Act)}{G:List (List Int)}(h:rp g T N A G){q c:Nat}(hq:q<A.length)(hc:c<=T):uY T g.aF.length A.length (iH A q c) c:=by
 have h1:c<A[q].length:=by rw[h.wA q hq];omega
 have:=h.dD q hq c h1;unfold iH;rw[cH (l:=A),bD hq,kD,cH,bD h1];exact this
theorem rp.go{g:d_}{T N:Nat}{A:List (List bI.Act)}{G:List (List Int)}(h:rp g T N A G){q:Nat}{n:Int}(hq:q<A.length)(h0:0<=n)(h1:n<(N:Int)):eU G q n<(A.length:Int):=by
 have hqG:q<G.length:=by rw[h.same];exact hq
 have h2:n.toNat<G[q].length:=by rw[h.wG q hqG];omega
 have:=(h.gos q hqG _ (cD h2)).2;unfold eU;rw[cH (l:=G),bD hqG,kD,cH,bD h2];exact this
theorem JL{g:d_}{T N:Nat}{A:List (List bI.Act)}{G:List (List Int)}(h:rp g T N A G){σ σ':List Nat}{p:Int}(h0:0<=p)(h1:p<(g.aF.length:Int))(hq:∀q∈σ,q<A.length)(hr:B2 g.aF (eU G) σ p=aj σ'):σ'≠[]/\σ'.length<=σ.length+1/\∀q∈σ',q<A.length:=by
 unfold B2 at hr
 cases e:σ.drop (db g.aF p).2.length with
 |nil=>rw[e]at hr;cases hr
 | cons r ρ=>
  rw[e]at hr;dsimp only at hr;have kx:∀q∈r::ρ,q<A.length:=λq CT=>hq q (AB (i:=(db g.aF p).2.length) (by rw[e];exact CT));have hlen:(r::ρ).length<=σ.length:=by rw[<-e,iX];omega
  split at hr
  ·rename_i c
   obtain rfl:=rP hr;have hh:=(cP h.JC).2.2.2.2.2 _ (fG.xB h0 h1);have:=h.go (kx r (gZ ..)) hh.2.1 (by have:=h.bC;omega);refine⟨by simp,by simp only[c_]at hlen⊢;omega,λq CT=>?_⟩;rcases dx.1 CT with rfl|CT
   omega;exact kx q CT
  cases hr
section
variable{l:List aT.Prod}{act:Nat->Nat->bI.Act}{gt:Nat->Int->Int}{col a f q:Nat}{σ:List Nat}{o:List dv}
theorem agu{m:Int}(h:act q col=(0,m)):fY l act gt col a (f+1) (q::σ) o=(13,[],[]):=by
 rw[fY,show(q::σ).headD 0=q from I,h,if_neg (by simp),if_neg (by simp),if_neg (by simp),if_neg (by simp)]
theorem ZS{x:bI.Act}(h:act q col=x)(h0:x.1≠0):fY l act gt col a 1 (q::σ) o=(14,[],[]):=by
 rw[fY,show(q::σ).headD 0=q from I,h,if_pos ⟨rfl,h0⟩]
theorem agv{m:Int}(h:act q col=(3,m)):fY l act gt col a (f+1+1) (q::σ) o=(0,q::σ,o):=by
 rw[fY,show(q::σ).headD 0=q from I,h,if_neg (λh=>EP _ h.1),if_pos I]
theorem agw{m:Int}(h:act q col=(1,m)):fY l act gt col a (f+1+1) (q::σ) o=if 60<(q::σ).length+1 then(14,[],[])else(0,m.toNat::q::σ,o++[(2,(a:Int))]):=by
 rw[fY,show(q::σ).headD 0=q from I,h,if_neg (λh=>EP _ h.1),if_neg (by simp),if_pos I]
theorem ac6{m:Int}(h:act q col=(2,m))(hr:B2 l gt (q::σ) m=ak):fY l act gt col a (f+1+1) (q::σ) o=(13,[],[]):=by
 rw[fY,show(q::σ).headD 0=q from I,h,if_neg (λh=>EP _ h.1),if_neg (by simp),if_neg (by simp),if_pos I];dsimp only;rw[hr]
theorem agx{m:Int}{σ':List Nat}(h:act q col=(2,m))(hr:B2 l gt (q::σ) m=aj σ'):fY l act gt col a (f+1+1) (q::σ) o=if 60<σ'.length then(14,[],[])else fY l act gt col a (f+1) σ' (o++[(4,m)]):=by
 rw[fY,show(q::σ).headD 0=q from I,h,if_neg (λh=>EP _ h.1),if_neg (by simp),if_neg (by simp),if_pos I];dsimp only;rw[hr]
end
theorem Cy{g:d_}{T N:Nat}{A:List (List bI.Act)}{G:List (List Int)}(h:rp g T N A G){col a:Nat}(hc:col<=T):∀(f:Nat) {σ:List Nat} {o:List dv},σ≠[]->(∀q∈σ,q<A.length)->σ.length<=60->(fY g.aF (iH A) (eU G) col a f σ o).1=0->
 (fY g.aF (iH A) (eU G) col a f σ o).2.1≠[]/\(∀q∈(fY g.aF (iH A) (eU G) col a f σ o).2.1,q<A.length)/\(fY g.aF (iH A) (eU G) col a f σ o).2.1.length<=60/\(fY g.aF (iH A) (eU G) col a f σ o).2.2.length<=o.length+f
 |0,_,_,_,_,_,h0=>by cases h0
 | f + 1,σ,o,hne,hq,hl,h0=>by
  obtain⟨q,σ,rfl⟩:=Qc hne;have XK:=h.right (hq q (gZ ..)) hc;generalize hx:iH A q col=x at XK;obtain⟨k,m⟩:=x
  by_cases ck:k=0
  subst ck;rw[agu hx]at h0;cases h0
  cases f with
  |zero=>rw[ZS hx ck]at h0;cases h0
  | succ f=>
   rcases XK with⟨e,_⟩|⟨e,h1,h2,h3⟩|⟨e,h1,h2⟩|⟨e,_⟩<;>dsimp only at e<;>subst e
   exact absurd I ck
   ·rw[agw hx]at h0⊢
    by_cases c:60<(q::σ).length+1
    rw[if_pos c]at h0;cases h0;rw[if_neg c];refine⟨by simp,λy hy=>?_,by simp only[c_]at c⊢;omega,by simp⟩;rcases dx.1 hy with rfl|hy
    dsimp only at h2 h3;omega;exact hq y hy
   ·dsimp only at h1 h2
    cases hr:B2 g.aF (eU G) (q::σ) m with
    |none=>rw[ac6 hx hr]at h0;cases h0
    | some σ'=>
     rw[agx hx hr]at h0⊢
     by_cases c:60<σ'.length
     rw[if_pos c]at h0;cases h0;rw[if_neg c]at h0⊢;obtain⟨r1,r2,r3⟩:=JL h h1 h2 hq hr;have:=Cy h hc (f+1) (o:=o++[(4,m)]) r1 r3 J h0;refine⟨this.1,this.2.1,this.2.2.1,Nat.le_trans this.2.2.2 ?_⟩;rw[bK,lO];omega
   rw[agv hx];exact⟨hne,hq,hl,by show o.length<=_;omega⟩
theorem agy{B:bR}{L:List b_}{i g cap:Nat}{q:Nat}{σ:List Nat}(hi:L[i]?=aj (Sf (ap (aj ⟨g,0,ak⟩) (σ.length+1) cap) (q::σ))):At B L ⟨g,0+σ.length*1,ak⟩ (av az (q:Int)):=
 qO (f:=cU.eo) Lm hi (k:=σ.length) (by rw[uZ];simp) 0 _ (by
  have:(sI (q::σ))[σ.length]?=aj (q:Int):=ZR (b:=0) (ρ:=σ) I I;rw[dl]at this;obtain⟨_,h⟩:=this;rw[h];rfl)
theorem acf{v:Value}{m:Int}{q:Nat}{σ:List Nat}(h:0<=m):a_ 3 1 v (σ.length+1+1) ((sI (q::σ)).flatMap cU.eo++[av az m])=Sf v (m.toNat::q::σ):=by
 show _=a_ 3 1 v (m.toNat::q::σ).length ((sI (m.toNat::q::σ)).flatMap cU.eo)
 rw[zl m.toNat,gO,tV h];rfl
theorem Sg{v:Value}{x:dv}{o:List dv}:a_ 168 2 v (o.length+1) (o.flatMap ep++ep x)=kM v (o++[x]):=by
 show _=a_ 168 2 v (o++[x]).length ((o++[x]).flatMap ep)
 rw[bK,gO];simp
def ru(R:Int×List Nat×List dv):Spec (Value×Value):=⟨λ_=>True,λx=>if R.1=0 then .tuple #[x.1,x.2,av az 0]else .tuple #[ap ak 0 0,ap ak 0 0,av az R.1],λx=>if R.1=0 then [Sf x.1 R.2.1,kM x.2 R.2.2]else []⟩
theorem MJ{σ:List Nat}{o:List dv}:ru (0,σ,o)=⟨λ_=>True,λx=> .tuple #[x.1,x.2,av az 0],λx=>[Sf x.1 σ,kM x.2 o]⟩:=by unfold ru;simp
theorem MK{e:Int}(he:e≠0){x:List Nat×List dv}:ru (e,x)=⟨λ_=>True,λ_=> .tuple #[ap ak 0 0,ap ak 0 0,av az e],λ_=>[]⟩:=by unfold ru;simp[he]
attribute [local irreducible] Instr.build in
theorem BB(v t vs:Value)(g:d_)(T N:Nat)(A:List (List bI.Act))(G:List (List Int))(rC:List Nat)(seen col:Nat)(w:World)(hG:jZ (λk=>k<w.heap.size) w v g)(ht:AR w t A G)(hs:skR w vs rC)(hT:rp g T N A G)(hq:∀q∈rC,q<A.length)(hne:rC≠[])(hl:rC.length<=60)(hc:col<=T):
 Calls aB 125 #[v,t,u_ vs (seen:Int) 0 aE,av az (col:Int)] w (cz (ru (fY g.aF (iH A) (eU G) col seen 2001 rC [])) w):=by
 have iz:=λw' (hg:Gr w w')=>jS vs (sI rC) w' (by rw[uZ];exact hs.gr hg) (by rw[uZ];omega);rw[uZ]at iz;have eL:=λo7 σ p w' (hg:Gr w w') xe CT hl' hp=>EX v t o7 g T N A G σ p w' (hG.gr hg) (ht.gr hg) xe hT CT hl' hp;have agz:=λσ σ' p h0 h1 hq hr=>JL (σ:=σ) (σ':=σ') (p:=p) hT h0 h1 hq hr;have XK:=λq (hq:q<A.length)=>hT.right hq hc;have hwA:=hT.wA;clear hT;obtain⟨vp,rfl,-⟩:=hG;obtain⟨vA,vG,rfl,hA,-⟩:=ht;obtain⟨aA,cA,rfl,-,-⟩:=mD hA;refine enter (args:=[dE g.aR g.bC vp,aQ #[ap aA A.length cA,vG],u_ vs (seen:Int) 0 aE,av az (col:Int)]) (n:=87) Tryz.func125 I I I ?_;refine b9 (bz (bQ I I I λg4=>?_));refine zL ?_;refine bQ I I I λg5=>?_;refine zL ?_;refine bQ I I I λg6=>?_;refine zL ?_
 repeat(first|refine GA ?_|refine gV (aC (v:=vs) aK.ty I (aH (i:=2) I I)) ?_)
 refine aW (iM aI.en I I) (λw hm=>iz w hm.below) I I I ?_;intro nG _;refine zL ?_
 try refine GA ?_
 refine ja 168 2 ?_;generalize hR:fY g.aF (iH A) (eU G) col seen 2001 rC []=R;clear iz hs;refine dY (ι:=Nat×List Nat×List dv×Value×Value) (λ(f,σ,o,_,_)=>fY g.aF (iH A) (eU G) col seen f σ o=R/\f<=2001/\1<=f/\o.length+f<=2001/\σ≠[]/\σ.length<=60/\∀q∈σ,q<A.length)
  (λ(f,_,_,vs,vo)=>[(3,av az (col:Int)),(4,aJ (aj ⟨g4,0,ak⟩)),(5,aJ (aj ⟨g5,0,ak⟩)),(6,aJ (aj ⟨g6,0,ak⟩)),(11,vs),(12,vo),(13,av az ((2001-f:Nat):Int))])
  (λ(_,σ,o,o7,vo)=>[aP g4 (dE g.aR g.bC vp).cells 34,aP g5 (aQ #[ap aA A.length cA,vG]).cells 37,aP g6 (u_ vs (seen:Int) 0 aE).cells 94,Sf o7 σ,kM vo o]) (λ(f,_,_,_,_)=>f) (2001,rC,[],nG,ap ak 0 0) ⟨hR,by omega,by omega,by simp,hne,hl,hq⟩ ?_
 clear hR hne hl hq;rintro⟨f,σ,o,o7,vo⟩ ⟨i1,i2,i3,i4,i5,i6,i7⟩;dsimp only at i1 i2 i3 i4 i5 i6 i7⊢;obtain⟨q,σ,rfl⟩:=Qc i5;obtain⟨f,rfl⟩:∃f',f=f'+1:=⟨f-1,by omega⟩;have hqA:=i7 q (gZ ..);have ahG:=XK q hqA;obtain⟨bA,oA,wi,rfl,hcA,hsA⟩:=JA hA hqA;have abW:∀L,At (w:bR) L ⟨bA,oA+q,ak⟩ wi:=λL=>jX hcA;obtain⟨ei,di,rfl,hdi,agj⟩:=mD hsA;have hfA:=hsA.flat (f:=iZ) aiz;obtain⟨_,_,e2,-,-,hrX⟩:=hfA
 cases e2
 have aiw:=hwA q hqA;have hxe:iH A q col=A[q].getD col (0,0):=by unfold iH;rw[cH (l:=A),bD hqA];rfl
 have hcX:col<A[q].length:=by omega
 obtain⟨b3,o3,rfl,MA⟩:=hrX J;have dz:=λL=>gG (L:=L) rm MA hcX;have agA:A[q][col]=iH A q col:=by rw[hxe,cH,bD hcX];rfl
 rw[agA]at dz;have Eb:∀(L:List b_) (j:Nat) (u:Value),(iZ (iH A q col))[j]?=aj u->At (w:bR) L ⟨b3,o3+col*2+j,ak⟩ u:=dz;clear dz MA hrX hxe agA hsA hcA hwA hA XK;generalize A[q]=X at*;generalize hx:iH A q col=x at*;refine xp (i:=3) I (by simp) λgs cs hv q1 q2=>?_;subst hv;simp only[c_]at i4 i6 q1⊢
 try refine GA ?_
 refine dK ([aP g5 (aQ #[ap (aj ⟨bA,oA,ak⟩) A.length cA,vG]).cells 37,Sf (ap (aj ⟨gs,0,ak⟩) (σ.length+1) cs) (q::σ)]) (.calm 0 (.calm 1 (.calm 2 (.calm 3 (.calm 4 (.calm 5 (.calm 6 (.calm 7 (.calm 8 (.calm 9 (.calm 10 (.calm 11 (.calm 12 (.one 13 (.one 14 (.done)))))))))))))))) (bV [1,3]) ?_
 repeat(first|(refine GN ?_;first|refine QW QP ?_|refine QW (aC (v:=ap (aj ⟨bA,oA,ak⟩) A.length cA) aK.ty I (aH (i:=0) I I)) ?_|refine QW (eC (r:=(σ.length:Int)) I I J J J) ?_|refine QW (aX (j:=σ.length) bL.eq aK.ty I I J) ?_|refine QW (aC (v:=av az (q:Int)) aK.ty I (agy (i:=1) I)) ?_|refine QW (bY (j:=q) bL.eq aK.ty I I hqA) ?_|refine QW (aC (v:=ap (aj ⟨b3,o3,ak⟩) X.length di) aK.ty I (abW _)) ?_|refine QW (aX (j:=col) bL.eq aK.ty I I hcX) ?_|refine QW (a8 (cs:=iZ x) aK.ty I I (Eb _)) ?_|refine GX ?_)|refine GW ?_)
 refine aL I (aY I λg14=>?_);refine zL ?_;refine aM (bV [1,3]) ?_;refine aL I (aV (i:=5) (cs':=(iZ x).toArray) I I I I I I ?_);refine zL ?_;refine aM (bV [1,3]) ?_
 try refine GW ?_
 obtain⟨k,m⟩:=x;have JM:((2001-(f+1):Nat):Int)=2000↔f=0:=by omega
 by_cases ck:k=0
 ·subst ck
  rw[agu hx]at i1;subst i1
  by_cases c0:f=0
  ·repeat(first|refine GC ?_|refine gV (de (b:=aD) I I (decide_eq_true (JM.2 c0))) ?_|refine gV (aC (v:=av az 0) aK.ty I (aH (i:=5) I I)) ?_|refine GB ?_)
   exact mU I I I I λw hm=>hm.meets (S:=ru (13,[],[])) (ap ak 0 0,ap ak 0 0) trivial [] aiz I
  repeat(first|refine GC ?_|refine gV (de (b:=aE) I I (decide_eq_false λh=>c0 (JM.1 h))) ?_|refine gV (aC (v:=av az 0) aK.ty I (aH (i:=5) I I)) ?_|refine GB ?_)
  exact mU I I I I λw hm=>hm.meets (S:=ru (13,[],[])) (ap ak 0 0,ap ak 0 0) trivial [] aiz I
 by_cases c0:f=0
 ·subst c0
  rw[ZS hx ck]at i1;subst i1
  repeat(first|refine GC ?_|refine gV (de (b:=aD) I I (decide_eq_true (JM.2 I))) ?_|refine gV (aC (v:=av az k) aK.ty I (aH (i:=5) I I)) ?_|refine gV (dm (b:=aD) I I (decide_eq_true ck)) ?_|refine GB ?_)
  exact mU I I I I λw hm=>hm.meets (S:=ru (14,[],[])) (ap ak 0 0,ap ak 0 0) trivial [] aiz I
 have JM:¬((2001-(f+1):Nat):Int)=2000:=λh=>c0 (JM.1 h);obtain⟨f,rfl⟩:∃f',f=f'+1:=⟨f-1,by omega⟩;rcases ahG with⟨e,_⟩|⟨e,h1,h2,h3⟩|⟨e,h1,h2⟩|⟨e,_⟩<;>dsimp only at e<;>subst e
 ·exact absurd I ck
 ·dsimp only at h1 h2 h3
  rw[agw hx]at i1
  repeat(first|refine GC ?_|refine gV (de (b:=aE) I I (decide_eq_false JM)) ?_|refine gV (aC (v:=av az 1) aK.ty I (aH (i:=5) I I)) ?_|refine GB ?_)
  refine dK ([aP g6 (u_ vs (seen:Int) 0 aE).cells 94,aP g14 (iZ (1,m)).toArray 146]) (.calm 0 (.calm 1 (.calm 2 (.calm 5 (.calm 6 (.calm 7 (.calm 8 (.two 3 (.two 4 (.one 9 (.one 10 (.calm 11 (.calm 12 (.done))))) 9 (.one 4 (.one 10 (.calm 11 (.calm 12 (.done)))))) 9 (.one 3 (.one 4 (.one 10 (.calm 11 (.calm 12 (.done)))))))))))))) (bV [2,5]) ?_
  repeat(first|refine GW ?_|(refine GN ?_;first|refine QW (aC (v:=av az m) aK.ty I (aH (i:=1) I I)) ?_|refine QW (aC (v:=av az (seen:Int)) aK.ty I (aH (i:=0) I I)) ?_|refine QW (bB I (Au _ _)) ?_))
  refine ez I I ?bw1 ?bw2
  case' bw1=>
   refine fy (cs:=#[av az m]) I I I I I λg52=>aM (bV [2,5]) ?_;refine ez I I ?bw3 ?bw4
  case' bw3=>
   refine lg (i:=3) (q:=6) I I I I I I (by simp only[c_];omega) (by simp only[c_];omega) I λv3=>aM (bV [2,5]) ?_;refine aL I (fy (cs:=(ep (2,(seen:Int))).toArray) I I I I I λg58=>aM (bV [2,5]) ?_);refine aL I (mh (i:=4) (q:=7) I I I I I I J J I λv4=>aM (bV [2,5]) ?_)
  case' bw4=>
   refine fy (cs:=(ep (2,(seen:Int))).toArray) I I I I I λg58=>aM (bV [2,5]) ?_;refine aL I (lg (i:=3) (q:=6) I I I I I I (by simp only[c_];omega) (by simp only[c_];omega) I λv3=>aM (bV [2,5]) ?_);refine aL I (mh (i:=4) (q:=7) I I I I I I J J I λv4=>aM (bV [2,5]) ?_)
  case' bw2=>
   refine fy (cs:=(ep (2,(seen:Int))).toArray) I I I I I λg58=>aM (bV [2,5]) ?_;refine aL I (fy (cs:=#[av az m]) I I I I I λg52=>aM (bV [2,5]) ?_);refine aL I (lg (i:=3) (q:=7) I I I I I I (by simp only[c_];omega) (by simp only[c_];omega) I λv3=>aM (bV [2,5]) ?_);refine aL I (mh (i:=4) (q:=6) I I I I I I J J I λv4=>aM (bV [2,5]) ?_)
  all_goals
   try refine GW ?_
   by_cases c6:60<(q::σ).length+1
   ·rw[if_pos c6]at i1
    subst i1
    repeat(first|refine GC ?_|refine gV (eR (i:=3) bL.eq I I) ?_|refine gV (dP (b:=aD) I I (decide_eq_true J)) ?_|refine GB ?_)
    exact mU I I I I λw hm=>hm.meets (S:=ru (14,[],[])) (ap ak 0 0,ap ak 0 0) trivial [] aiz I
   ·rw[if_neg c6]at i1
    subst i1
    repeat(first|refine GC ?_|refine gV (eR (i:=3) bL.eq I I) ?_|refine gV (dP (b:=aE) I I (decide_eq_false J)) ?_|refine gV (aC (v:=av az 1) aK.ty I (aH (i:=5) I I)) ?_|refine GB ?_)
    exact mU I I I I λw hm=>hm.meets (S:=ru (0,m.toNat::q::σ,o++[(2,(seen:Int))])) (v3,v4) trivial [3,4] aiz (by
     show[Sf v3 (m.toNat::q::σ),kM v4 (o++[(2,(seen:Int))])]=_
     rw[<-acf h2,<-Sg];rfl)
 ·dsimp only at h1 h2
  obtain⟨pn,rfl⟩:=hY h1;have agB:=λw' yG xe=>eL (ap (aj ⟨gs,0,ak⟩) (σ.length+1) cs) (q::σ) pn w' yG xe i7 (by simp only[c_];omega) J;have S7:=λσ'=>agz (q::σ) σ' (pn:Int) h1 h2 i7;have ahH:=λhr=>@ac6 g.aF (iH A) (eU G) col seen f q σ o (pn:Int) hx hr;have Nn:=λσ' hr=>@agx g.aF (iH A) (eU G) col seen f q σ o (pn:Int) σ' hx hr;generalize B2 g.aF (eU G) (q::σ) (pn:Int)=R2 at*;clear eL agz
  cases R2 with
  | none=>
   rw[ahH I]at i1;subst i1
   repeat(first|refine GC ?_|refine gV (de (b:=aE) I I (decide_eq_false JM)) ?_|refine gV (aC (v:=av az 2) aK.ty I (aH (i:=5) I I)) ?_|refine gV (aO (i:=0) aK.ty I I I) ?_|refine gV (aO (i:=1) aK.ty I I I) ?_|refine gV (aC (v:=av az (pn:Int)) aK.ty I (aH (i:=5) I I)) ?_|refine GB ?_)
   refine aW (SO aI.en I I I I I) (λw' hm=>agB w' hm.below (Sl.dy (hm.get (i:=3) I))) I I I ?_;intro v2 _
   conv=>arg 8;simp only[zJ,cL,ret,id_eq,MI]
   conv=>arg 7;simp only[MI]
   try refine GA ?_
   exact mU I I I I λw hm=>hm.meets (S:=ru (13,[],[])) (ap ak 0 0,ap ak 0 0) trivial [] aiz I
  | some σ'=>
   rw[Nn σ' I]at i1;obtain⟨k1,k2,k3⟩:=S7 σ' rfl;simp only[c_]at k2
   repeat(first|refine GC ?_|refine gV (de (b:=aE) I I (decide_eq_false JM)) ?_|refine gV (aC (v:=av az 2) aK.ty I (aH (i:=5) I I)) ?_|refine gV (aO (i:=0) aK.ty I I I) ?_|refine gV (aO (i:=1) aK.ty I I I) ?_|refine gV (aC (v:=av az (pn:Int)) aK.ty I (aH (i:=5) I I)) ?_|refine GB ?_)
   refine aW (SO aI.en I I I I I) (λw' hm=>agB w' hm.below (Sl.dy (hm.get (i:=3) I))) I I I ?_;intro v2 _
   conv=>arg 8;simp only[zJ,cL,ret,id_eq,MI]
   conv=>arg 7;simp only[MI]
   repeat(first|refine GA ?_|refine gV (aC (v:=av az (pn:Int)) aK.ty I (aH (i:=5) I I)) ?_|refine gV (bB I (Au _ _)) ?_)
   refine jk (i:=4) I I I I I I I (λz h=>by cases h;rfl) J J I λz4 v4=>?_;refine zL ?_
   by_cases c6:60<σ'.length
   ·rw[if_pos c6]at i1
    subst i1
    repeat(first|refine GC ?_|refine gV (eR (i:=6) bL.eq I I) ?_|refine gV (dP (b:=aD) I I (decide_eq_true J)) ?_|refine GB ?_)
    exact mU I I I I λw hm=>hm.meets (S:=ru (14,[],[])) (ap ak 0 0,ap ak 0 0) trivial [] aiz I
   rw[if_neg c6]at i1
   repeat(first|refine GC ?_|refine gV (eR (i:=6) bL.eq I I) ?_|refine gV (dP (b:=aE) I I (decide_eq_false J)) ?_|refine gV (aC (v:=av az 2) aK.ty I (aH (i:=5) I I)) ?_|refine gV (eM (r:=((2001-(f+1):Nat):Int)) I I J J J) ?_|refine GB ?_)
   refine dh [0,1,2,6,4] ?_;exact bW (f+1,σ',o++[(4,(pn:Int))],v2,v4) ⟨i1,by omega,by omega,by show(o++[(4,(pn:Int))]).length+(f+1)<=2001;rw[bK,lO];omega,k1,by show σ'.length<=60;omega,k3⟩ (by show f+1<f+1+1;omega) (hl:=by rw[<-Sg];rfl)
 ·rw[agv hx]at i1
  subst i1
  repeat(first|refine GC ?_|refine gV (de (b:=aE) I I (decide_eq_false JM)) ?_|refine gV (aC (v:=av az 3) aK.ty I (aH (i:=5) I I)) ?_|refine GB ?_)
  exact mU I I I I λw hm=>hm.meets (S:=ru (0,q::σ,o)) (ap (aj ⟨gs,0,ak⟩) (σ.length+1) cs,vo) trivial [3,4] aiz I
end bZ
namespace jo
open aT dL e8 l_ bI cT bZ
abbrev PS:=List TD×List Nat
def ps0:PS:=([.sym (2,0)],[0])
def kq(m:Md)(b:Bool)(p:PS)(a:Nat)(t:Int):Int×PS×List dv:=
 if b then((jR m.g.aF (iC m.rows t.toNat) p.1 a t).1,((jR m.g.aF (iC m.rows t.toNat) p.1 a t).2.1,p.2),(jR m.g.aF (iC m.rows t.toNat) p.1 a t).2.2)
 else((fY m.g.aF (iH m.A) (eU m.G) t.toNat a 2001 p.2 []).1,(p.1,(fY m.g.aF (iH m.A) (eU m.G) t.toNat a 2001 p.2 []).2.1),(fY m.g.aF (iH m.A) (eU m.G) t.toNat a 2001 p.2 []).2.2)
def vd(m:Md)(b:Bool)(p:PS)(a:Nat):Int×List dv:=
 if b then jm m.g.aF (iC m.rows m.g.aR.toNat) p.1
 else((fY m.g.aF (iH m.A) (eU m.G) m.g.aR.toNat a 2001 p.2 []).1,(fY m.g.aF (iH m.A) (eU m.G) m.g.aR.toNat a 2001 p.2 []).2.2)
def Sh(m:Md)(b:Bool)(p:PS):Prop:=if b then(∀d∈p.1,qx m.g d)/\p.1.length<=60 else p.2≠[]/\(∀q∈p.2,q<m.A.length)/\p.2.length<=60
structure jq(m:Md)(b:Bool)(T N:Nat):Prop extends MdGood m where
 md:m.mode=if b then 1 else 2
 tT:m.g.aR=T
 nN:m.g.bC=N
 ll:b=aD->EL m.g m.rows=0/\EQ m.g m.rows T N
 lr:b=aE->rp m.g T N m.A m.G
def s9(m:Md)(t:Tok):Int:=m.of.getD t.1.toNat 0
theorem x_{o:Of}{N:List (List Int)}{tags:List Int}{n:Int}(hn:0<n)(ht:∀t∈tags,t<n):∀(s:List UInt8) (i:Nat) (now r:Int) (t:Nat),0<=r->r<n->0<=(p_ o N tags s i now r t).1/\(p_ o N tags s i now r t).1<n
 |[],_,_,_,_,h0,h1=>⟨h0,h1⟩
 | b ::s,i,now,r,t,h0,h1=>by
  rw[x9]
  by_cases c:AX o N now b<0
  rw[if_pos c];exact⟨h0,h1⟩;rw[if_neg c]
  by_cases c2:0<=tags.getD (AX o N now b).toNat 0
  ·rw[if_pos c2]
   refine x_ hn ht s _ _ _ _ c2 ?_;rw[cH]
   cases e:tags[(AX o N now b).toNat]? with
   |none=>exact hn
   |some z=>exact ht z (kR e)
  rw[if_neg c2];exact x_ hn ht s _ _ _ _ h0 h1
theorem agC{m:Md}{b:Bool}{T N:Nat}(h:jq m b T N):Sh m b ps0:=by
 have hg:=cP h.AT
 cases b with
 |true=>
  refine⟨λd hd=>?_,by decide⟩;simp only[ps0,dQ]at hd;subst hd;unfold qx right;simp;omega
 |false=>
  refine⟨by decide,λq hq=>?_,by decide⟩;simp only[ps0,dQ]at hq;subst hq;exact(h.lr I).pos
theorem v8{m:Md}{b:Bool}{T N:Nat}(h:jq m b T N){p:PS}(hp:Sh m b p){a:Nat}{t:Int}(ht:t<T)(h0:(kq m b p a t).1=0):Sh m b (kq m b p a t).2.1/\(kq m b p a t).2.2.length<=2001:=by
 cases b with
 |true=>
  obtain⟨h1,h2⟩:=hp;obtain⟨h3,h4,h5⟩:=aaO h.AT ((h.ll rfl).2.nx t.toNat) rfl h0 h1 h2;exact⟨⟨h3,h4⟩,by show _<=2001;exact Nat.le_succ_of_le h5⟩
 |false=>
  obtain⟨h1,h2,h3⟩:=hp;obtain⟨h4,h5,h6,h7⟩:=Cy (h.lr rfl) (col:=t.toNat) (a:=a) J 2001 h1 h2 h3 h0;simp only[gU,cV]at h7;exact⟨⟨h4,h5,h6⟩,h7⟩
theorem EY{l:List aT.Prod}{act:Nat->Nat->bI.Act}{gt:Nat->Int->Int}{col a:Nat}:∀(f:Nat) (σ:List Nat) (o:List dv),(fY l act gt col a f σ o).1≠0->(fY l act gt col a f σ o).2.2=[]
 |0,σ,o,_=>by unfold fY;rfl
 | f + 1,σ,o,h=>by
  unfold fY at h⊢;split at h
  ·rename_i c;rw[if_pos c]
  rename_i c;rw[if_neg c]
  split at h;exact absurd I h
  rename_i c2;rw[if_neg c2]
  split at h
  ·rename_i c3;rw[if_pos c3]
   split at h
   ·rename_i c4;rw[if_pos c4]
   exact absurd I h
  rename_i c3;rw[if_neg c3]
  split at h
  ·rename_i c4;rw[if_pos c4]
   cases hr:B2 l gt σ (act (σ.headD 0) col).2 with
   |none=>rfl
   | some σ'=>
    rw[hr]at h;dsimp only at h⊢;split at h
    ·rename_i c5;rw[if_pos c5]
    rename_i c5;rw[if_neg c5];exact EY f _ _ h
  rename_i c4;rw[if_neg c4]
theorem EZ{m:Md}{b:Bool}{T N:Nat}(h:jq m b T N){p:PS}(hp:Sh m b p){a:Nat}:((vd m b p a).1=0->(vd m b p a).2.length<=2001)/\((vd m b p a).1≠0->(vd m b p a).2=[]):=by
 cases b with
 |true=>
  rcases GS (l:=m.g.aF) (nx:=iC m.rows m.g.aR.toNat) (st:=p.1) rfl with⟨h1,h2⟩|⟨a1,h1,h2⟩
  exact⟨λh0=>by have:(vd m aD p a).1=_:=rfl;rcases h1 with h1|h1<;>exact absurd (h1.symm.trans h0) aiz,λ_=>h2⟩;obtain⟨_,h3,h4,_⟩:=yP h1 rfl hp.2 (bH _);refine⟨λ_=>?_,λh0=>absurd h2 h0⟩;show(jm m.g.aF (iC m.rows m.g.aR.toNat) p.1).2.length<=2001
  dsimp only at h3 h4;simp only[gU]at h4;omega
 |false=>
  obtain⟨h1,h2,h3⟩:=hp;refine⟨λh0=>?_,λh0=>EY _ _ _ h0⟩;obtain⟨h4,h5,h6,h7⟩:=Cy (h.lr rfl) (col:=m.g.aR.toNat) (a:=a) (by have:=h.tT;omega) 2001 h1 h2 h3 h0;simp only[gU,cV]at h7;exact h7
end jo
namespace l_
open Go.RowKit cU dM bZ cT
def HA(o:Of)(N:List (List Int)):Int->List UInt8->Bool
 |now,[]=>!((N.getD now.toNat []).any λx=>decide (0<=x))
 |now,b::s=>if AX o N now b<0 then aD else HA o N (AX o N now b) s
theorem Qm(o:Of)(N:List (List Int))(now:Int)(b:UInt8)(s:List UInt8):HA o N now (b::s)=if AX o N now b<0 then aD else HA o N (AX o N now b) s:=rfl
def eu(o:Of)(N:List (List Int))(tags:List Int)(s:List UInt8):(Int×Nat)×Bool:=(p_ o N tags s 0 0 0 0,decide (s≠[])&&HA o N 0 s)
theorem zm(o:Of)(N:List (List Int))(tags:List Int)(s:List UInt8):(eu o N tags s).1.2=0\/(0<(eu o N tags s).1.2/\(eu o N tags s).1.2<=s.length):=by
 rcases ET o N tags s 0 0 0 0 with h|h
 exact .inl h
 right
 exact⟨h.1,by have:=h.2;show(p_ _ _ _ _ _ _ _ _).2<=_;omega⟩
def dT(o:Of)(N:List (List Int))(tags:List Int):Nat->Nat->List UInt8->List Tok×Nat×List UInt8×Int
 |0,a,u=>([],a,u,0)
 |f+1,a,u=>if(eu o N tags u).2=aD then(if(eu o N tags u).1.2=0 then([],a,u,9)else(((eu o N tags u).1.1,a,a+(eu o N tags u).1.2)::(dT o N tags f (a+(eu o N tags u).1.2) (u.drop (eu o N tags u).1.2)).1,(dT o N tags f (a+(eu o N tags u).1.2) (u.drop (eu o N tags u).1.2)).2))else([],a,u,0)
theorem sG(o:Of)(N:List (List Int))(tags:List Int)(f a:Nat)(u:List UInt8):dT o N tags (f+1) a u=if(eu o N tags u).2=aD then(if(eu o N tags u).1.2=0 then([],a,u,9)else(((eu o N tags u).1.1,a,a+(eu o N tags u).1.2)::(dT o N tags f (a+(eu o N tags u).1.2) (u.drop (eu o N tags u).1.2)).1,(dT o N tags f (a+(eu o N tags u).1.2) (u.drop (eu o N tags u).1.2)).2))else([],a,u,0):=rfl
def ic(o:Of)(N:List (List Int))(tags:List Int):List UInt8->Nat->List UInt8->List Tok×Nat×List UInt8×Int
 |[],a,u=>([],a,u,0)
 | b::s,a,u=>
  if(dT o N tags (u.length+2) a (u++[b])).2.2.2≠0 then((dT o N tags (u.length+2) a (u++[b])).1,(dT o N tags (u.length+2) a (u++[b])).2.1,[],9)
  else if 64<(dT o N tags (u.length+2) a (u++[b])).2.2.1.length then((dT o N tags (u.length+2) a (u++[b])).1,(dT o N tags (u.length+2) a (u++[b])).2.1,[],10)
  else((dT o N tags (u.length+2) a (u++[b])).1++(ic o N tags s (dT o N tags (u.length+2) a (u++[b])).2.1 (dT o N tags (u.length+2) a (u++[b])).2.2.1).1,(ic o N tags s (dT o N tags (u.length+2) a (u++[b])).2.1 (dT o N tags (u.length+2) a (u++[b])).2.2.1).2)
theorem qc(o:Of)(N:List (List Int))(tags:List Int)(b:UInt8)(s:List UInt8)(a:Nat)(u:List UInt8):ic o N tags (b::s) a u=
 if(dT o N tags (u.length+2) a (u++[b])).2.2.2≠0 then((dT o N tags (u.length+2) a (u++[b])).1,(dT o N tags (u.length+2) a (u++[b])).2.1,[],9)
 else if 64<(dT o N tags (u.length+2) a (u++[b])).2.2.1.length then((dT o N tags (u.length+2) a (u++[b])).1,(dT o N tags (u.length+2) a (u++[b])).2.1,[],10)
 else((dT o N tags (u.length+2) a (u++[b])).1++(ic o N tags s (dT o N tags (u.length+2) a (u++[b])).2.1 (dT o N tags (u.length+2) a (u++[b])).2.2.1).1,(ic o N tags s (dT o N tags (u.length+2) a (u++[b])).2.1 (dT o N tags (u.length+2) a (u++[b])).2.2.1).2):=rfl
theorem UH{o:Of}{N:List (List Int)}{tags:List Int}{b:UInt8}{s:List UInt8}{a0:Nat}{u0:List UInt8}{uV:List Tok}{fin:List Tok×Nat×List UInt8×Int}(h:(uV++(ic o N tags (b::s) a0 u0).1,(ic o N tags (b::s) a0 u0).2)=fin)(out:List Tok)(a:Nat)(u:List UInt8)(e:Int)
 (hD:(out,a,u,e)=(uV++(dT o N tags (u0.length+2) a0 (u0++[b])).1,(dT o N tags (u0.length+2) a0 (u0++[b])).2)):
 (e≠0->fin=(out,a,[],9))/\(e=0->64<u.length->fin=(out,a,[],10))/\(e=0->¬64<u.length->(out++(ic o N tags s a u).1,(ic o N tags s a u).2)=fin):=by
 subst h;rw[qc];generalize dT o N tags (u0.length+2) a0 (u0++[b])=D at*;obtain⟨d1,d2,d3,d4⟩:=D;simp only[hJ]at hD;obtain⟨rfl,rfl,rfl,rfl⟩:=hD;dsimp only;refine⟨λh=>?_,λh1 h2=>?_,λh1 h2=>?_⟩
 ·rw[if_pos h]
 ·rw[if_neg (by simpa using h1),if_pos h2]
 ·rw[if_neg (by simpa using h1),if_neg h2]
  dsimp only;rw[eY]
theorem E0{o:Of}{N:List (List Int)}{tags:List Int}:∀(f a:Nat) (u:List UInt8),u.length<f->a<=(dT o N tags f a u).2.1/\(dT o N tags f a u).2.1<=a+u.length/\(dT o N tags f a u).2.2.1=u.drop ((dT o N tags f a u).2.1-a)/\((dT o N tags f a u).2.2.2=9\/((dT o N tags f a u).2.2.2=0/\(eu o N tags (dT o N tags f a u).2.2.1).2=aE))
 |0,_,_,h=>by omega
 | f + 1,a,u,h=>by
  rw[sG]
  by_cases c:(eu o N tags u).2=aD
  ·rw[if_pos c]
   by_cases c2:(eu o N tags u).1.2=0
   ·rw[if_pos c2]
    exact⟨bm _,Ae _ _,by simp,.inl I⟩
   rw[if_neg c2];have hto:=(zm o N tags u).resolve_left c2;obtain⟨h1,h2,h3,h4⟩:=E0 (o:=o) (N:=N) (tags:=tags) f (a+(eu o N tags u).1.2) (u.drop (eu o N tags u).1.2) (by rw[iX];omega);rw[iX]at h2;refine⟨by dsimp only;omega,by dsimp only;omega,?_,h4⟩;dsimp only;rw[h3,qi]
   congr 1;omega
  rw[if_neg c];exact⟨bm _,Ae _ _,by simp,.inr ⟨rfl,Bool.eq_false_iff.2 c⟩⟩
end l_
namespace l_
open Go.RowKit cU dM bZ cT
def jm(o:Of)(N:List (List Int))(tags:List Int):Nat->Nat->List UInt8->List Tok×Nat×Int
 |0,a,_=>([],a,0)
 |f+1,a,u=>if u=[]then([],a,0)else if(eu o N tags u).1.2=0 then([],a,9)else(((eu o N tags u).1.1,a,a+(eu o N tags u).1.2)::(jm o N tags f (a+(eu o N tags u).1.2) (u.drop (eu o N tags u).1.2)).1,(jm o N tags f (a+(eu o N tags u).1.2) (u.drop (eu o N tags u).1.2)).2)
theorem E3(o:Of)(N:List (List Int))(tags:List Int)(f a:Nat)(u:List UInt8):jm o N tags (f+1) a u=if u=[]then([],a,0)else if(eu o N tags u).1.2=0 then([],a,9)else(((eu o N tags u).1.1,a,a+(eu o N tags u).1.2)::(jm o N tags f (a+(eu o N tags u).1.2) (u.drop (eu o N tags u).1.2)).1,(jm o N tags f (a+(eu o N tags u).1.2) (u.drop (eu o N tags u).1.2)).2):=rfl
theorem HB{o:Of}{N:List (List Int)}{tags:List Int}:∀(f a:Nat) (u:List UInt8),(dT o N tags f a u).1.length+a<=(dT o N tags f a u).2.1
 |0,a,_=>by show 0+a<=a;omega
 | f +1,a,u=>by
  rw[sG]
  by_cases c:(eu o N tags u).2=aD
  ·rw[if_pos c]
   by_cases c2:(eu o N tags u).1.2=0
   rw[if_pos c2];show 0+a<=a;omega;rw[if_neg c2];have ih:=HB (o:=o) (N:=N) (tags:=tags) f (a+(eu o N tags u).1.2) (u.drop (eu o N tags u).1.2);dsimp only[c_];omega
  rw[if_neg c];show 0+a<=a;omega
theorem zn{o:Of}{N:List (List Int)}{tags:List Int}:∀(s:List UInt8) (a:Nat) (u:List UInt8),(ic o N tags s a u).1.length+a<=(ic o N tags s a u).2.1/\(ic o N tags s a u).2.1+(ic o N tags s a u).2.2.1.length<=a+u.length+s.length
 |[],a,u=>⟨by show 0+a<=a;omega,by show a+u.length<=a+u.length+0;omega⟩
 | b ::s,a,u=>by
  have h1:=HB (o:=o) (N:=N) (tags:=tags) (u.length+2) a (u++[b]);have hk:=E0 (o:=o) (N:=N) (tags:=tags) (u.length+2) a (u++[b]) (by rw[bK];exact mz _);have hl:(u++[b]).length=u.length+1:=by rw[bK];rfl
  rw[qc];generalize dT o N tags (u.length+2) a (u++[b])=D at*;obtain⟨d1,d2,d3,d4⟩:=D;dsimp only at h1 hk⊢;rw[c_];rw[hl]at hk
  by_cases c1:d4≠0
  ·rw[if_pos c1]
   exact⟨h1,by show d2+0<=_;omega⟩
  rw[if_neg c1]
  by_cases c2:64<d3.length
  ·rw[if_pos c2]
   exact⟨h1,by show d2+0<=_;omega⟩
  rw[if_neg c2];have ih:=zn (o:=o) (N:=N) (tags:=tags) s d2 d3;have h3:d3.length=u.length+1-(d2-a):=by rw[hk.2.2.1,iX,hl]
  dsimp only;rw[bK];omega
theorem Cz{o:Of}{N:List (List Int)}{tags:List Int}:∀(f a:Nat) (u:List UInt8),(jm o N tags f a u).1.length+a<=(jm o N tags f a u).2.1/\(jm o N tags f a u).2.1<=a+u.length/\((jm o N tags f a u).2.2=0\/(jm o N tags f a u).2.2=9)
 |0,a,_=>⟨by show 0+a<=a;omega,by show a<=a+_;omega,.inl I⟩
 | f+1,a,u=>by
  rw[E3]
  by_cases c:u=[]
  rw[if_pos c];exact⟨by show 0+a<=a;omega,by show a<=a+_;omega,.inl I⟩;rw[if_neg c]
  by_cases c2:(eu o N tags u).1.2=0
  rw[if_pos c2];exact⟨by show 0+a<=a;omega,by show a<=a+_;omega,.inr I⟩;rw[if_neg c2];have ih:=Cz (o:=o) (N:=N) (tags:=tags) f (a+(eu o N tags u).1.2) (u.drop (eu o N tags u).1.2);have hto:=(zm o N tags u).resolve_left c2;rw[iX]at ih;dsimp only[c_];exact⟨by omega,by omega,ih.2.2⟩
end l_
namespace ij
abbrev Ev:=Int×Int
def rv(x:Ev):Bool:=decide (x.1<1)||decide (4<x.1)||decide (x.2<0)||decide (1099511627776<x.2)
end ij
namespace ij
def bX(wait:List Ev)(c g:Int):Int:=if 4200<wait.length then 2 else if c<0 then 1 else if 1073741824<c then 1 else if g<0 then 1 else if 1099511627776<g then 1 else if wait.any rv=aD then 1 else 0
theorem cP{wait:List Ev}{c g:Int}(h:bX wait c g=0):wait.length<=4200/\0<=c/\c<=1073741824/\0<=g/\g<=1099511627776/\wait.any rv=false:=by
 unfold bX at h;split at h;· simp at h
 split at h;· simp at h
 split at h;· simp at h
 split at h;· simp at h
 split at h;· simp at h
 split at h;· simp at h
 rename_i a b c d e f
 exact⟨by omega,by omega,by omega,by omega,by omega,by simpa using f⟩
def F3(wait:List Ev)(c g:Int)(l:List Ev):Int:=if bX wait c g≠0 then bX wait c g else if l.any rv=aD then 1 else if 4200<wait.length+l.length then 18 else 0
def JN(wait:List Ev)(c g:Int)(l:List Ev):List Ev:=if F3 wait c g l=0 then wait++l else wait
theorem acg{wait:List Ev}{c g:Int}{l:List Ev}(h:F3 wait c g l=0):bX wait c g=0/\l.any rv=aE/\wait.length+l.length<=4200:=by
 unfold F3 at h;split at h;contradiction;split at h;simp at h;split at h;simp at h
 rename_i a b d
 exact⟨by simpa using a,by simpa using b,by omega⟩
def nX(wait:List Ev)(c g n:Int):Int:=if bX wait c g≠0 then bX wait c g else if n<1 then 1 else if 1073741824<n then 1 else 0
def ya(wait:List Ev)(c g n:Int):Int:=if nX wait c g n=0 then min (c+n) 1073741824 else c
theorem UI{wait:List Ev}{c g n:Int}(h:nX wait c g n=0):bX wait c g=0/\1<=n/\n<=1073741824:=by
 unfold nX at h;split at h;contradiction;split at h;simp at h;split at h;simp at h
 rename_i a b d
 exact⟨by simpa using a,by omega,by omega⟩
def HC(wait:List Ev)(c g n:Int):Int:=if bX wait c g≠0 then bX wait c g else if n<0 then 1 else 0
def takeN(wait:List Ev)(c n:Int):Nat:=(min n (min c wait.length)).toNat
end ij
namespace gv
open aT dL e8 l_ bI cT bZ jo
open ij (Ev rv takeN)
structure fJ where
 kg:Int
 l4:Int
 ee:Nat
 kr:List UInt8
 ended:Bool
 ma:Bool
 dz:Nat
 iI:List UInt8
 kQ:Int
 bad:Int
 ed:List Tok
 p:PS
 seen:Nat
 ry:Int
 rD:Bool
 wait:List Ev
 cr:Int
 gone:Int
 over:Bool
 fS:Int
 pl:Nat
def vh(kg l4:Int):fJ:=⟨kg,l4,0,[],aE,aE,0,[],0,0,[],ps0,0,0,aE,[],0,0,aE,0,0⟩
def yb(b:Bool)(p:PS):PS:=if b then([],p.2)else(p.1,[])
def kJ(s:fJ)(e:Int)(pl:Nat):fJ:={s with over:=aD,fS:=e,pl:=pl}
def v_(s:fJ)(e:Int)(pl:Nat):fJ:={kJ s e pl with wait:=[]}
def agD(s:fJ):Nat:=s.ee-s.kr.length
def l5(s:fJ)(x:List UInt8):fJ×Int:=
 if s.over=aD\/s.ended=aD then(s,15)else if 1024<x.length then(s,2)
 else if s.kg<x.length then(v_ s 16 s.ee,16)
 else({s with kg:=s.kg-x.length,ee:=s.ee+x.length,kr:=s.kr++x},0)
def ni(s:fJ):fJ×Int:=if s.over=aD\/s.ended=aD then(s,15)else({s with ended:=aD},0)
def lU(s:fJ)(n:Int):fJ×Int:=if s.over=aD/\s.wait=[]then(s,15)else if n<1\/1073741824<n then(s,1)else({s with cr:=min (s.cr+n) 1073741824},0)
def jK(s:fJ):Bool:=!s.over&&decide (s.wait.length<200)&&(decide (s.ed≠[])||decide (s.bad≠0)||decide (s.kr≠[])||s.ended)
def iE(s:fJ)(n:Int):fJ×List Ev:=
 if n<0 then(s,[])else({s with wait:=s.wait.drop (takeN s.wait s.cr n),cr:=s.cr-(takeN s.wait s.cr n:Nat),gone:=s.gone+(takeN s.wait s.cr n:Nat)},s.wait.take (takeN s.wait s.cr n))
def rz(m:Md)(b:Bool)(s:fJ)(t:Int):fJ×Int:=
 ({s with p:=(kq m b s.p s.seen t).2.1,seen:=if(kq m b s.p s.seen t).1=0 then s.seen+1 else s.seen,ry:=(kq m b s.p s.seen t).1,wait:=s.wait++(kq m b s.p s.seen t).2.2},(kq m b s.p s.seen t).1)
def sU(s:fJ)(e:Int)(pl:Nat):fJ:=if e≠0 then kJ s e pl else s
def pN(m:Md)(b:Bool)(s:fJ):fJ×Int:=
 ({s with p:=yb b s.p,ry:=(vd m b s.p s.seen).1,rD:=decide ((vd m b s.p s.seen).1=0),wait:=s.wait++(vd m b s.p s.seen).2},(vd m b s.p s.seen).1)
def BC(m:Md)(s:fJ)(c:UInt8):List Tok×Nat×List UInt8×Int:=ic m.o m.N m.tags [c] s.dz s.iI
def ML(m:Md)(s:fJ)(c:UInt8)(r:List UInt8):fJ:=
 {s with kr:=r,ed:=(BC m s c).1,dz:=(BC m s c).2.1,iI:=(BC m s c).2.2.1,kQ:=(BC m s c).2.2.2,bad:=(BC m s c).2.2.2}
def yc(m:Md)(s:fJ):List Tok×Nat×Int:=jm m.o m.N m.tags (s.iI.length+1) s.dz s.iI
def E4(m:Md)(s:fJ):fJ:=
 {s with ma:=aD,ed:=(yc m s).1,dz:=(yc m s).2.1,iI:=[],kQ:=if(yc m s).2.2=0 then 15 else 9,bad:=(yc m s).2.2}
def jr(m:Md)(b:Bool)(s:fJ):fJ:=
 match s.ed with
 |t::r=>if s9 m t<0 then {s with ed:=r}else sU (rz m b {s with ed:=r} (s9 m t)).1 (rz m b {s with ed:=r} (s9 m t)).2 t.2.1
 | []=>if s.bad≠0 then kJ s s.bad s.dz else
  match s.kr with
  |c::r=>ML m s c r
  |[]=>if s.ma=aE then E4 m s else kJ (pN m b s).1 (pN m b s).2 s.ee
def lq(m:Md)(b:Bool):Nat->fJ->fJ×Nat
 |0,s=>(s,0)
 |k+1,s=>if jK s=aD then((lq m b k (jr m b s)).1,(lq m b k (jr m b s)).2+1)else(s,0)
structure fC(m:Md)(b:Bool)(s:fJ):Prop where
 kg:0<=s.kg
 Cg:s.kg+s.ee<=4096
 l4:0<=s.l4/\s.l4<=1000
 kr:s.dz+s.iI.length+s.kr.length<=s.ee
 iI:s.iI.length<=64
 kQ:s.bad=0->s.ma=aE->s.kQ=0
 seen:s.seen+s.ed.length<=s.dz
 tok:∀t∈s.ed,0<=t.1/\t.1<(m.of.length:Int)
 live:s.over=aE->s.ry=0/\s.rD=aE/\Sh m b s.p
 ma:s.ma=aD->s.kr=[]/\s.ended=aD
 ev:s.wait.any rv=aE
 Wj:s.gone+s.wait.length<=(s.seen+if s.over=aD then 1 else 0)*2001
 wl:s.wait.length<=2201
 cr:0<=s.cr/\s.cr<=1073741824
 gone:0<=s.gone
theorem Si{m:Md}{b:Bool}{T N:Nat}(h:jq m b T N){x y:Int}(hx:0<=x)(fE:x<=4096)(hy:0<=y)(hy2:y<=1000):fC m b (vh x y):=by
 refine⟨hx,by show x+0<=4096;omega,⟨hy,hy2⟩,bm _,bH _,λ_ _=>rfl,bm _,λt ht=>(by cases ht),λ_=>⟨rfl,rfl,agC h⟩,λh=>(by cases h),rfl,by simp[vh],bH _,⟨k8 _,by simp[vh]⟩,k8 _⟩
theorem AY{g:d_}(hP:g.aF.length<=40):∀{st:List TD} {out:List dv} {a:Nat},(∀d∈st,qx g d)->(∀x∈out,rv x=aE)->∀x∈(bP st out a).2.1,rv x=aE
 |[],out,a,_,h=>h
 | .sym x::r,out,a,_,h=>h
 | .close p::r,out,a,hd,h=>by
  have h2:∀x∈out++[((3:Int),p)],rv x=false:=λx hx=>by
   rcases fj.1 hx with hx|hx
   exact h x hx;obtain⟨h0,h1⟩:=hd _ (gZ ..);rw[dQ.1 hx];simp only[rv,Dd,decide_eq_false_iff_not];omega
  unfold bP;split;exact AY hP (λd VW=>hd d (kC _ VW)) h2;exact h2
theorem CA{k n:Int}(h1:1<=k)(h2:k<=4)(h3:0<=n)(h4:n<=1099511627776):rv (k,n)=false:=by
 simp only[rv,Dd,decide_eq_false_iff_not];omega
theorem JO{g:d_}(hg:aT.bX g=0)(hP:g.aF.length<=40){nx:Int->Int}(hn:aaN g.aF nx):∀{f:Nat} {st:List TD} {out:List dv} {a:Nat},(∀d∈st,qx g d)->(∀x∈out,rv x=aE)->∀x∈(fA g.aF nx f st out a).2.1,rv x=aE
 |0,st,out,a,_,h=>h
 | f + 1,st,out,a,hd,h=>by
  have h1:=AY hP (a:=a) hd h;have hd1:=qY (out:=out) (a:=a) hd;unfold fA;split;exact h1;generalize hc:(bP st out a).1=C at*;split
  ·rename_i x r
   split;exact h1;split;exact h1
   rename_i c
   obtain⟨h3,-⟩:=hn x.2 J;have h2:∀y∈(bP st out a).2.1++[((1:Int),nx x.2)],rv y=false:=λy hy=>by
    rcases fj.1 hy with hy|hy
    exact h1 y hy;rw[dQ.1 hy];exact CA aiz aiz J J
   split;exact JO hg hP hn (As hg J h3 λd VW=>hd1 d (kC _ VW)) h2;exact h2
  exact h1
theorem JP{g:d_}{T N:Nat}{A:List (List bI.Act)}{G:List (List Int)}(h:rp g T N A G)(hP:g.aF.length<=40){col a:Nat}(hc:col<=T)(ha:a<=1000000):∀(f:Nat) {σ:List Nat} {o:List dv},σ≠[]->(∀q∈σ,q<A.length)->(∀x∈o,rv x=aE)->∀x∈(fY g.aF (iH A) (eU G) col a f σ o).2.2,rv x=aE
 |0,σ,o,_,_,_=>by unfold fY;simp
 | f + 1,σ,o,hne,hq,ho=>by
  have hd:σ.headD 0<A.length:=by
   cases σ with
   |nil=>exact absurd I hne
   |cons q σ=>exact hq q (gZ ..)
  have hr:=h.right hd hc;unfold fY;generalize iH A (σ.headD 0) col=x at*
  by_cases c1:f=0/\x.1≠0
  rw[if_pos c1];simp;rw[if_neg c1]
  by_cases c2:x.1=3
  rw[if_pos c2];exact ho;rw[if_neg c2]
  by_cases c3:x.1=1
  ·rw[if_pos c3]
   split;simp;intro y hy;rcases fj.1 hy with hy|hy
   exact ho y hy;rw[dQ.1 hy];exact CA aiz aiz J J
  rw[if_neg c3]
  by_cases c4:x.1=2
  ·rw[if_pos c4]
   have hx:0<=x.2/\x.2<(g.aF.length:Int):=by rcases hr with⟨h1,_⟩|⟨h1,_⟩|⟨_,h1,h2⟩|⟨h1,_⟩<;>omega
   cases e:B2 g.aF (eU G) σ x.2 with
   |none=>simp
   | some σ'=>
    obtain⟨r1,r2,r3⟩:=JL h hx.1 hx.2 hq e;dsimp only
    by_cases c5:60<σ'.length
    rw[if_pos c5];simp;rw[if_neg c5];refine JP h hP hc ha f r1 r3 λy hy=>?_;rcases fj.1 hy with hy|hy
    exact ho y hy;rw[dQ.1 hy];exact CA aiz aiz J J
  rw[if_neg c4];simp
theorem JQ{m:Md}{b:Bool}{T N:Nat}(h:jq m b T N){p:PS}(hp:Sh m b p){a:Nat}(ha:a<=1000000){t:Int}(ht:t<T):∀x∈(kq m b p a t).2.2,rv x=false:=by
 have hP:=(cP h.AT).2.2.2.2.1
 cases b with
 | true=>
  obtain⟨h1,h2⟩:=hp;have hn:=(h.ll I).2.nx t.toNat;have hd:=JO h.AT hP hn (f:=2001) (st:=p.1) (out:=[]) (a:=0) h1 (by simp);have ho:=λR (hR:fA m.g.aF (iC m.rows t.toNat) 2001 p.1 [] 0=R) h0=>IB h.AT hn (f:=2001) (st:=p.1) (out:=[]) (a:=0) hR h0 h1;intro x hx;have hx:x∈(jR m.g.aF (iC m.rows t.toNat) p.1 a t).2.2:=hx;unfold jR at hx;generalize fA m.g.aF (iC m.rows t.toNat) 2001 p.1 [] 0=D at*;obtain⟨st1,o1,a1,e⟩:=D;dsimp only at hx hd;split at hx
  cases hx
  rename_i c
  have ho:=ho _ I (by simpa using c);dsimp only at ho;split at hx
  ·rename_i y r
   split at hx
   cases hx
   split at hx
   ·refine AY hP (λd VW=>ho d (kC _ VW)) (λz hz=>?_) x hx
    rcases fj.1 hz with hz|hz
    exact hd z hz;rw[dQ.1 hz];exact CA aiz aiz J J
   cases hx
  cases hx
 | false=>
  obtain⟨h1,h2,h3⟩:=hp;exact JP (h.lr I) hP J ha 2001 h1 h2 (by simp)
theorem Qn{m:Md}{b:Bool}{T N:Nat}(h:jq m b T N){p:PS}(hp:Sh m b p){a:Nat}(ha:a<=1000000):∀x∈(vd m b p a).2,rv x=false:=by
 have hP:=(cP h.AT).2.2.2.2.1
 cases b with
 |true=>
  obtain⟨h1,h2⟩:=hp;have hn:=(h.ll I).2.nx m.g.aR.toNat;have hd:=JO h.AT hP hn (f:=2001) (st:=p.1) (out:=[]) (a:=0) h1 (by simp);intro x hx;have hx:x∈(e8.jm m.g.aF (iC m.rows m.g.aR.toNat) p.1).2:=hx;unfold e8.jm at hx;generalize fA m.g.aF (iC m.rows m.g.aR.toNat) 2001 p.1 [] 0=D at*;obtain⟨st1,o1,a1,e⟩:=D;dsimp only at hx hd;split at hx
  cases hx
  split at hx;exact hd x hx
  cases hx
 |false=>
  obtain⟨h1,h2,h3⟩:=hp;exact JP (h.lr I) hP (by have:=h.tT;omega) ha 2001 h1 h2 (by simp)
end gv
namespace bZ
open Go.RowKit cU dM
def pz(w:World)(e:TypeId)(size:Nat)(v:Value)(n:Nat)(xs:List Value):Prop:=
 xs.length=n*size/\((v=ap ak 0 0/\n=0)\/∃g off cap jM,v=ap (aj ⟨g,off,ak⟩) n cap/\w.heap[g]?=aj (.cells jM e (0,0))/\n<=cap/\cap<=maxLen/\off+cap*size<=jM.size/\(jM.toList.drop off).take (n*size)=xs)
def qK(e:TypeId)(size:Nat)(v:Value)(n:Nat)(xs:List Value):b_:=
 ⟨v.ownBlock,λ_=>False,λw=>pz w e size v n xs,λw h k hk=>by
  rcases h.2 with⟨rfl,_⟩|⟨g,off,cap,jM,rfl,hg,_⟩
  exact hk.elim (λh=>by cases h) nK
  ·simp only[rM,dr,or_false]at hk
   subst hk;exact(jt.1 hg).1,λw w' h _ hb=>by
  refine⟨h.1,?_⟩;rcases h.2 with hn|⟨g,off,cap,jM,rfl,hg,rest⟩
  exact .inl hn;exact .inr ⟨g,off,cap,jM,rfl,by rw[hb g (.inl I)];exact hg,rest⟩⟩
theorem UJ{w:World}{e:TypeId}{size:Nat}{v:Value}{n:Nat}{xs:List Value}(h:w.ownsRow 0 e size v n xs):pz w e size v n xs:=by
 refine⟨h.1,?_⟩;rcases h.2 with hn|⟨g,cap,jM,rfl,_,hg,h1,h2,h3,h4⟩
 exact .inl hn;exact .inr ⟨g,0,cap,jM,rfl,hg,h1,h2,by omega,by rw[nh];exact h4⟩
theorem lV{w:World}{e:TypeId}{size:Nat}{v:Value}{n:Nat}{xs:List Value}(h:pz w e size v n xs):∃base cap,v=ap base n cap/\n<=cap/\cap<=maxLen/\(base=ak->cap=0):=by
 rcases h.2 with⟨rfl,rfl⟩|⟨g,off,cap,jM,rfl,hg,h1,h2,h3,h4⟩
 exact⟨ak,0,rfl,bm _,bH _,λ_=>rfl⟩;exact⟨_,cap,rfl,h1,h2,λh=>by cases h⟩
theorem BD{w:World}{e:TypeId}{size:Nat}{g off m cap n:Nat}{xs:List Value}(h:pz w e size (ap (aj ⟨g,off,ak⟩) m cap) n xs){j:Nat}{u:Value}(hu:xs[j]?=aj u):w.cell? ⟨g,off+j,ak⟩=aj u:=by
 rcases h.2 with⟨h,_⟩|⟨g',Ah,Fp,jM,hv,hg,h1,h2,h3,h4⟩
 cases h
 cases hv
 rw[cell_of_row w g (off+j) jM e (0,0) hg];rw[<-h4,qu]at hu;split at hu;rw[Zw]at hu;simpa using hu
 cases hu
theorem MM{w:World}{e:TypeId}{size:Nat}{base:Option Addr}{cap n:Nat}{xs:List Value}(h:pz w e size (ap base (n+1) cap) (n+1) xs):pz w e size (s7 base cap size 1 (n+1)) n (xs.drop size):=by
 rcases h.2 with⟨_,h⟩|⟨g,off,Fp,jM,hv,hg,h1,h2,h3,h4⟩
 cases h
 cases hv
 have hl:=h.1;refine⟨by rw[iX,hl,kU];omega,.inr ?_⟩;unfold s7
 by_cases c:cap=1
 ·subst c
  obtain rfl:n=0:=by omega
  rw[if_pos I];refine⟨g,off,0,jM,rfl,hg,bm _,bH _,by omega,?_⟩;have e:xs.drop size=[]:=jg (by rw[hl];omega);rw[e];simp
 rw[if_neg c];refine⟨g,off+size,cap-1,jM,?_,hg,by omega,by omega,?_,?_⟩;rw[ZB,Nat.one_mul,eB,Qf]
 ·obtain⟨q,rfl⟩:∃q,cap=q+1:=⟨cap-1,by omega⟩
  rw[kU]at h3;rw[Qf];omega
 rw[<-h4,List.drop_take,qi,kU,Qf]
section
variable{P:Program}{n:Nat}{W:bR}{fr:Fr}{L:List b_}{Q:Exit->Act->World->Prop}{ops:Array Oper}{rest:List Oper}{d:Nat}{ty:TypeId}{pos:String}{after:Array Edge}
theorem UK{i g off size cap m k:Nat}{e:TypeId}{xs:List Value}(hi:L[i]?=aj (qK e size (ap (aj ⟨g,off,ak⟩) m cap) k xs)){j:Nat}{v:Value}(hv:xs[j]?=aj v):At W L ⟨g,off+j,ak⟩ v:=λw hm=>BD (hm.get hi) hv
theorem Sj{i size m:Nat}{e:TypeId}{v:Value}{xs:List Value}(hi:L[i]?=aj (qK e size v m xs))(h:∀base cap,v=ap base m cap->m<=cap->cap<=maxLen->(base=ak->cap=0)->TL P n W ops Q rest fr L):TL P n W ops Q rest fr L:=⟨λa w hr hm=>by
 obtain⟨base,cap,h1,h2,h3,h4⟩:=lV (hm.get hi:pz w e size v m xs);exact(h base cap h1 h2 h3 h4).go a w hr hm⟩
theorem ZT(i:Nat){e:TypeId}{size m cap:Nat}{base:Option Addr}{xs:List Value}(hi:L[i]?=aj (qK e size (ap base (m+1) cap) (m+1) xs))(h:TL P n W ops Q rest fr (L.set i (qK e size (s7 base cap size 1 (m+1)) m (xs.drop size)))):TL P n W ops Q rest fr L:=
 aax (qK e size (s7 base cap size 1 (m+1)) m (xs.drop size)) hi (λ_ h=>MM h) (λk hk=>by
  cases base with
  |none=>unfold s7 at hk;split at hk<;>cases hk
  | some q=>
   unfold s7 at hk;split at hk;exact hk;simp only[qK,ZB,rM,dr]at hk⊢;unfold Addr.add at hk;split at hk<;>exact hk) (λ_ h=>nK h) h
theorem JR{t ty e:TypeId}{i:TypeInfo}{z:Value}{size bytes:Nat}(ht:P.underlying t=aj (.slice e))(hi:P.info? e=aj i)(hz:i.zero=aj z)(nw:i.size=size)(Nk:i.bytes=bytes)(N2:z.cells.size=size)(hsz:0<size)(w:World)
 {v:Value} {m:Nat} {xs:List Value} (mf:pz w e size v m xs) {a:Addr} {k c:Nat} {news:List Value} (hl:news.length=k*size) (A4:∀j u,news[j]?=aj u->w.cell? (a.add j)=aj u) (h1:∀u∈news,u.oneCell'=aD)
 (qM:m+k<=maxLen) (H_:(m+k)*bytes<=140737488355328):
 ∃v' w',(tj #[t,t] ty #[v,ap (aj a) k c]).run P w= .ok v' w'/\pz w' e size v' (m+k) (xs++news)/\w.grownBy w' v.ownBlock/\(∀q,v'.ownBlock=aj q->v.ownBlock=aj q\/w.heap.size<=q):=by
 rcases mf.2 with⟨rfl,rfl⟩|⟨g,off,cap,jM,rfl,hg,hnc,Ks,hcs,yo⟩
 ·obtain⟨v',w',hr,h2,h3,h4⟩:=nP (ty:=ty) (c:=c) ht hi hz nw Nk N2 hsz w (⟨mf.1,.inl ⟨rfl,rfl⟩⟩:w.ownsRow 0 e size (ap ak 0 0) 0 xs) hl A4 h1 qM H_
  exact⟨v',w',hr,UJ h2,h3,h4⟩
 ·have hlen:(xs++news).length=(m+k)*size:=by rw[bK,mf.1,hl,jh]
  have ae7:((m+k:Nat):Int)<=9223372036854775807:=by simp only[maxLen]at qM;omega
  subst nw Nk
  by_cases hroom:m+k<=cap
  ·have Fs:off+m*i.size+news.length<=jM.size:=by
    have:=Nat.mul_le_mul_right i.size hroom;rw[jh,<-hl]at this;omega
   have hf:=run_firstCells_some (P:=P) w i.size k a k c news hl A4;have hst:=run_storeCells_at P g (off+m*i.size) e news 0 jM w hg (by simpa using Fs) h1;simp only[jw]at hst;refine⟨ap (aj ⟨g,off,ak⟩) (m+k) cap,_,by simp[tj,run_underlying ht,sizeOf,typeInfo,hi,zK,hroom,hf,eB,hst];rfl,⟨hlen,.inr ⟨g,off,cap,_,rfl,setRow_heap w g jM _ e _ hg,hroom,Ks,?_,?_⟩⟩,⟨rfl,rfl,rfl,by simp,λk hk h=>setRow_other w g k _ (λe=>h (by simp[rM,e]))⟩,λq hq=> .inl hq⟩
   ·simp only[dU,bK,iU,iX,lC]
    omega
   have e1:jM.toList.take (off+m*i.size)=jM.toList.take off++xs:=by rw[List.take_add,yo]
   have e2:(jM.toList.take off).length=off:=by rw[iU,lC];omega
   show((jM.toList.take (off+m*i.size)++(news++jM.toList.drop (off+m*i.size+news.length))).drop off).take _=_
   rw[e1,eY,List.drop_append,jg (ZA e2),e2,nT,nh,eJ,<-eY,<-hlen];exact Zy
  have holds:∀j u,xs[j]?=aj u->w.cell? ((⟨g,off,ak⟩:Addr).add j)=aj u:=λj u hj=>by rw[eB];exact BD mf hj
  have hr:=run_append_grow (P:=P) w t ty e i z ht hi hz ⟨g,off,ak⟩ m cap xs mf.1 holds a k c news hl A4 J ae7 (growslice_fits J H_);have hge:=grownCap_ge w (m+k) cap e;have Ks:grownCap w (m+k) cap e<=maxLen:=grownCap_le_maxLen w (m+k) cap e qM;refine⟨_,_,hr,⟨hlen,.inr ⟨w.heap.size,0,_,_,rfl,heap_alloc_new w.drew _,hge,Ks,?_,?_⟩⟩,⟨rfl,rfl,rfl,by simp,λk hk _=>heap_alloc_old w.drew _ hk⟩,λq hq=> .inr ?_⟩
  ·simp only[Array.size_append,dU,size_zeroCells,N2,mf.1,hl,<-jh,cV]
   exact ZA (by congr 1;omega)
  ·simp only[Array.toList_append,eY,nh]
   rw[<-eY,<-hlen];exact Zy
  simp only[rM,dr]at hq;omega
theorem Sk{t e:TypeId}{s x:Operand}{i j size bytes m k:Nat}{v v2:Value}{xs ys:List Value}[sW:qN P t e size bytes](hi:L[i]?=aj (qK e size v m xs))(hj:L[j]?=aj (a_ e size v2 k ys))(hs:ev fr s=aj v)(hx:ev fr x=aj v2)
 (h1:∀u∈ys,u.oneCell'=aD) (qM:m+k<=140737488355328) (hb:(m+k)*bytes<=140737488355328) (hn:dj d n=aD)
 (h:∀v',TL P n W ops Q rest ((d,v')::fr) (L.set i (qK e size v' (m+k) (xs++ys)))):
 TL P n W ops Q (⟨aj d,.call {callee:= .builtin .append,args:=#[s,x],argTypes:=#[t,t]},ty,pos,after,ak⟩::rest) fr L:=kz I λact w hr hm K hK=>by
 obtain⟨inf,z,ht,yp,hz,nw,Nk,N2,hsz⟩:=sW.el.ex;have mf:pz w e size v m xs:=hm.get hi;have ZU:w.ownsRow 0 e size v2 k ys:=hm.get hj;rcases ZU.2 with⟨rfl,rfl⟩|⟨g,cap,jM,rfl,_⟩
 ·have hy:ys=[]:=rN (by rw[ZU.1];simp)
  subst hy;have h2:=h v;have sX:L.set i (qK e size v (m+0) (xs++[]))=L:=by
   rw[eG,jw];apply List.ext_getElem?;intro q
   by_cases hq:i=q
   ·subst hq
    rw[List.getElem?_set_self (dl.1 hi).1,hi]
   rw[List.getElem?_set_ne hq]
  rw[sX]at h2;have e':(execOp act.eval ⟨aj d,.call {callee:= .builtin .append,args:=#[s,x],argTypes:=#[t,t]},ty,pos,after,ak⟩).run P w= .ok (.value v) w:=by
   obtain⟨base,cap,rfl,q1,q2,q3⟩:=lV mf
   cases base with
   | none=>
    obtain rfl:=q3 rfl;obtain rfl:m=0:=by omega
    simp[lD,rG,hr.ev hs,hr.ev hx,tj,run_underlying ht,sizeOf,typeInfo,yp,zK,CJ,loadCells,loadCellsFrom]
   |some q=>simp[lD,rG,hr.ev hs,hr.ev hx,tj,run_underlying ht,sizeOf,typeInfo,yp,zK,CJ,loadCells,loadCellsFrom,q1,storeCells]
  unfold fM;rw[e'];exact hK _ _ (h2.go _ _ (hr.put hn _) hm)
 ·obtain⟨v',w',hrun,h2,h3,h4⟩:=JR (ty:=ty) (c:=cap) ht yp hz nw Nk N2 hsz w mf ZU.1 (λq u hq=>by rw[eB,cV];exact jY hj hq w hm) h1 (by unfold maxLen;omega) hb
  have e':(execOp act.eval ⟨aj d,.call {callee:= .builtin .append,args:=#[s,x],argTypes:=#[t,t]},ty,pos,after,ak⟩).run P w= .ok (.value v') w':=by
   simp only[lD,rG,List.map_toArray,List.map_cons,List.map_nil,hr.ev hs,hr.ev hx,Sem.run_bind,hrun,Result.andThen_ok,Sem.run_pure]
  unfold fM;rw[e'];exact hK _ _ ((h v').go _ _ (hr.put hn _) (hm.BI hi h3 h2 h4))
end
end bZ
namespace bZ
open Go.RowKit cU dM aT dL dG bI cT
def E5(seen:Int)(R:Int×List Nat×List dv):Spec (Value×Value):=
 ⟨λ_=>True,λx=>if R.1=0 then .tuple #[u_ x.1 (seen+1) 0 aE,x.2,av az 0]else .tuple #[u_ (ap ak 0 0) seen R.1 aE,ap ak 0 0,av az R.1],λx=>if R.1=0 then [Sf x.1 R.2.1,kM x.2 R.2.2]else []⟩
theorem HD{seen:Int}{σ:List Nat}{o:List dv}:E5 seen (0,σ,o)=⟨λ_=>True,λx=> .tuple #[u_ x.1 (seen+1) 0 aE,x.2,av az 0],λx=>[Sf x.1 σ,kM x.2 o]⟩:=by unfold E5;simp
theorem HE{seen e:Int}(he:e≠0){x:List Nat×List dv}:E5 seen (e,x)=⟨λ_=>True,λ_=> .tuple #[u_ (ap ak 0 0) seen e aE,ap ak 0 0,av az e],λ_=>[]⟩:=by unfold E5;simp[he]
attribute [local irreducible] Instr.build in
theorem JS(v t vs:Value)(g:d_)(T N:Nat)(A:List (List bI.Act))(G:List (List Int))(rC:List Nat)(seen col:Nat)(w:World)(hG:jZ (λk=>k<w.heap.size) w v g)(ht:AR w t A G)(hs:skR w vs rC)(hT:rp g T N A G)(hq:∀q∈rC,q<A.length)(hne:rC≠[])(hl:rC.length<=60)(hc:col<T)(hsn:seen<=1000000):
 Calls aB 92 #[v,t,u_ vs (seen:Int) 0 aE,av az (col:Int)] w (cz (E5 (seen:Int) (fY g.aF (iH A) (eU G) col seen 2001 rC [])) w):=by
 have h0:0<rC.length:=by rcases rC with _|⟨a,b⟩;exact absurd I hne;simp
 have Hu:=hT.aR;have iS:=λw' (hg:Gr w w')=>wL v t vs g T N A G rC (seen:Int) (col:Int) w' (hG.gr hg) (ht.gr hg) (hs.gr hg) hT hq h0 hl J J J J;have hrn:=λw' (hg:Gr w w')=>BB v t vs g T N A G rC seen col w' (hG.gr hg) (ht.gr hg) (hs.gr hg) hT hq hne hl J;have hlen:=λh=>(Cy (a:=seen) hT (show col<=T by omega) 2001 (o:=[]) hne hq hl h).2.2.1;generalize fY g.aF (iH A) (eU G) col seen 2001 rC []=R at*;obtain⟨e,σ,o⟩:=R;dsimp only at hlen;obtain⟨vp,rfl,-⟩:=hG;obtain⟨vA,vG,rfl,-⟩:=ht;clear hs hT;refine enter (args:=[dE g.aR g.bC vp,aQ #[vA,vG],u_ vs (seen:Int) 0 aE,av az (col:Int)]) (n:=51) Tryz.func92 I I I ?_;refine b9 (bz (bQ I I I λg4=>?_));refine zL ?_;refine bQ I I I λg5=>?_;refine zL ?_;refine bQ I I I λg6=>?_;refine zL ?_;refine aY I λg8=>?_;refine zL ?_
 repeat(first|refine GC ?_|refine gV (aC (v:=av az g.aR) aK.ty I (aH (i:=0) I I)) ?_|refine gV (de (b:=aE) I I (decide_eq_false J)) ?_|refine gV (aO (i:=0) aK.ty I I I) ?_|refine gV (aO (i:=1) aK.ty I I I) ?_|refine gV (aO (i:=2) aK.ty I I I) ?_|refine GB ?_)
 refine aW (SO aI.en I I I I I) (λw hm=>iS w hm.below) I I I ?_;intro _ _;refine zL ?_
 repeat(first|refine GA ?_|refine gV (aO (i:=0) aK.ty I I I) ?_|refine gV (aO (i:=1) aK.ty I I I) ?_|refine gV (aO (i:=2) aK.ty I I I) ?_)
 by_cases c:e=0
 ·subst c
  rw[MJ]at hrn;rw[HD];have hlen:=hlen I;refine aW (SO aI.en I I I I I) (λw hm=>hrn w hm.below) I I I ?_;rintro⟨v1,v2⟩ _;refine zL ?_
  try refine GA ?_
  refine lu (i:=4) I λbt ct hv q1 q2=>?_;subst hv
  repeat(first|refine GC ?_|refine gV (aC (v:=av az (seen:Int)) aK.ty I (aH (i:=2) I I)) ?_|refine gV (eM (r:=(seen:Int)+1) I I J J J) ?_|refine gV (bB I (UF _ _ _ _)) ?_|refine GB ?_)
  refine gh 3 (cs':=#[ap bt σ.length ct,av az ((seen:Int)+1),av az 0,.bool aE]) ?_;refine zL ?_
  try refine GA ?_
  exact ff (i:=3) I I I I I I λw hm=>hm.meets (S:=⟨λ_=>True,λx=> .tuple #[u_ x.1 ((seen:Int)+1) 0 aE,x.2,av az 0],λx=>[Sf x.1 σ,kM x.2 o]⟩) (ap bt σ.length ct,v2) trivial [4,5] aiz I
 ·rw[MK c]at hrn
  rw[HE c];refine aW (SO aI.en I I I I I) (λw hm=>hrn w hm.below) I I I ?_;rintro _ _;refine zL ?_
  repeat(first|refine GC ?_|refine gV (dm (b:=aD) I I (decide_eq_true c)) ?_|refine gV (aC (v:=av az (seen:Int)) aK.ty I (aH (i:=2) I I)) ?_|refine gV (bB I (Hz _ _)) ?_|refine GB ?_)
  refine gh 3 (cs':=#[ap ak 0 0,av az (seen:Int),av az e,.bool aE]) ?_;refine zL ?_
  try refine GA ?_
  exact ff (i:=3) I I I I I I λw hm=>hm.meets (S:=⟨λ(_:Value×Value)=>True,λ_=> .tuple #[u_ (ap ak 0 0) (seen:Int) e aE,ap ak 0 0,av az e],λ_=>[]⟩) (ap ak 0 0,ap ak 0 0) trivial [] aiz I
def MN(seen:Int)(R:Int×List Nat×List dv):Spec Value:=
 ⟨λ_=>True,λx=>if R.1=0 then .tuple #[u_ (ap ak 0 0) seen 0 aD,x,av az 0]else .tuple #[u_ (ap ak 0 0) seen R.1 aE,ap ak 0 0,av az R.1],λx=>if R.1=0 then [kM x R.2.2]else []⟩
theorem MO{seen:Int}{σ:List Nat}{o:List dv}:MN seen (0,σ,o)=⟨λ_=>True,λx=> .tuple #[u_ (ap ak 0 0) seen 0 aD,x,av az 0],λx=>[kM x o]⟩:=by unfold MN;simp
theorem MP{seen e:Int}(he:e≠0){x:List Nat×List dv}:MN seen (e,x)=⟨λ_=>True,λ_=> .tuple #[u_ (ap ak 0 0) seen e aE,ap ak 0 0,av az e],λ_=>[]⟩:=by unfold MN;simp[he]
attribute [local irreducible] Instr.build in
theorem MQ(v t vs:Value)(g:d_)(T N:Nat)(A:List (List bI.Act))(G:List (List Int))(rC:List Nat)(seen:Nat)(w:World)(hG:jZ (λk=>k<w.heap.size) w v g)(ht:AR w t A G)(hs:skR w vs rC)(hT:rp g T N A G)(hq:∀q∈rC,q<A.length)(hne:rC≠[])(hl:rC.length<=60)(hsn:seen<=1000000):
 Calls aB 98 #[v,t,u_ vs (seen:Int) 0 aE] w (cz (MN (seen:Int) (fY g.aF (iH A) (eU G) T seen 2001 rC [])) w):=by
 have h0:0<rC.length:=by rcases rC with _|⟨a,b⟩;exact absurd I hne;simp
 have Hu:=hT.aR;have iS:=λw' (hg:Gr w w')=>wL v t vs g T N A G rC (seen:Int) (T:Int) w' (hG.gr hg) (ht.gr hg) (hs.gr hg) hT hq h0 hl J J J J;have hrn:=λw' (hg:Gr w w')=>BB v t vs g T N A G rC seen T w' (hG.gr hg) (ht.gr hg) (hs.gr hg) hT hq hne hl (bm _);generalize fY g.aF (iH A) (eU G) T seen 2001 rC []=R at*;obtain⟨e,σ,o⟩:=R;obtain⟨vp,rfl,-⟩:=hG;obtain⟨vA,vG,rfl,-⟩:=ht;clear hs hT;refine enter (args:=[dE g.aR g.bC vp,aQ #[vA,vG],u_ vs (seen:Int) 0 aE]) (n:=45) Tryz.func98 I I I ?_;refine b9 (bz (bQ I I I λg4=>?_));refine zL ?_;refine bQ I I I λg5=>?_;refine zL ?_;refine bQ I I I λg6=>?_;refine zL ?_;refine aY I λg8=>?_;refine zL ?_
 repeat(first|refine GA ?_|refine gV (aC (v:=av az (T:Int)) aK.ty I (aH (i:=0) I (by show aj (av .i64 g.aR)=_;rw[Hu]))) ?_|refine gV (aO (i:=0) aK.ty I I I) ?_|refine gV (aO (i:=1) aK.ty I I I) ?_|refine gV (aO (i:=2) aK.ty I I I) ?_)
 refine aW (SO aI.en I I I I I) (λw hm=>iS w hm.below) I I I ?_;intro _ _;refine zL ?_
 repeat(first|refine GA ?_|refine gV (aC (v:=av az (T:Int)) aK.ty I (aH (i:=0) I (by show aj (av .i64 g.aR)=_;rw[Hu]))) ?_|refine gV (aO (i:=0) aK.ty I I I) ?_|refine gV (aO (i:=1) aK.ty I I I) ?_|refine gV (aO (i:=2) aK.ty I I I) ?_)
 by_cases c:e=0
 ·subst c
  rw[MJ]at hrn;rw[MO];refine aW (SO aI.en I I I I I) (λw hm=>hrn w hm.below) I I I ?_;rintro⟨v1,v2⟩ _;refine zL ?_
  repeat(first|refine GA ?_|refine gV (aC (v:=av az (seen:Int)) aK.ty I (aH (i:=2) I I)) ?_|refine gV (bB I (UG _)) ?_)
  refine gh 3 (cs':=#[ap ak 0 0,av az (seen:Int),av az 0,.bool aD]) ?_;refine zL ?_
  try refine GA ?_
  exact ff (i:=3) I I I I I I λw hm=>hm.meets (S:=⟨λ_=>True,λx=> .tuple #[u_ (ap ak 0 0) (seen:Int) 0 aD,x,av az 0],λx=>[kM x o]⟩) v2 trivial [5] aiz I
 ·rw[MK c]at hrn
  rw[MP c];refine aW (SO aI.en I I I I I) (λw hm=>hrn w hm.below) I I I ?_;rintro _ _;refine zL ?_
  repeat(first|refine GC ?_|refine gV (dm (b:=aD) I I (decide_eq_true c)) ?_|refine gV (aC (v:=av az (seen:Int)) aK.ty I (aH (i:=2) I I)) ?_|refine gV (bB I (Hz _ _)) ?_|refine GB ?_)
  refine gh 3 (cs':=#[ap ak 0 0,av az (seen:Int),av az e,.bool aE]) ?_;refine zL ?_
  try refine GA ?_
  exact ff (i:=3) I I I I I I λw hm=>hm.meets (S:=⟨λ(_:Value)=>True,λ_=> .tuple #[u_ (ap ak 0 0) (seen:Int) e aE,ap ak 0 0,av az e],λ_=>[]⟩) (ap ak 0 0) trivial [] aiz I
end bZ
namespace bZ
open Go.RowKit cU dM
def wM(g:Nat)(cs:List Value)(T:TypeId):b_:=
 ⟨aj g,λ_=>False,λw=>∃r:List Value,w.heap[g]?=aj (.cells (cs++r).toArray T (0,0)),λw ⟨r,h⟩ k hk=>by simp only[dr,or_false]at hk;subst hk;exact(jt.1 h).1,
  λw w' ⟨r,h⟩ _ hb=>⟨r,by rw[hb g (.inl I)];exact h⟩⟩
section
variable{W:bR}{L:List b_}
theorem mE{i g off:Nat}{cs:List Value}{T:TypeId}{v:Value}(hi:L[i]?=aj (wM g cs T))(hv:cs.toArray[off]?=aj v):At W L ⟨g,off,ak⟩ v:=λw hm=>by
 obtain⟨r,h⟩:=hm.get hi;rw[cell_of_row w g off _ T (0,0) h,jf];rw[jf]at hv;rw[gJ (dl.1 hv).1];exact hv
theorem ea{i g:Nat}{C:Array Value}{cs:List Value}{T:TypeId}(hi:L[i]?=aj (aP g C T))(hC:∃r,C=(cs++r).toArray):∀w,Mem W L w->Mem W [wM g cs T] w:=λw hm=>by
 have h1:Mem W [aP g C T] w:=hm.pick [i] (by simp) (by simp[hi]);obtain⟨r,rfl⟩:=hC;exact h1.QX (i:=0) (wM g cs T) I (λw h=>⟨r,h⟩) λk h=>h
end
theorem gB(vo:Value)(pk tl r:List Value):∃q,(iY vo pk (tl++r)).toArray=(iY vo pk tl++q).toArray:=⟨r,by simp[iY]⟩
end bZ
namespace bZ
open Go.RowKit cU dM aT dL e8 gu jo bI
theorem lc{vo:Value}{pk tl cs:List Value}(k0:Nat)(hp:pk.length=258)(hc:(tl.drop k0).take cs.length=cs){j k:Nat}{v:Value}(h:cs[j]?=aj v)(hk:k=k0+259+j):(iY vo pk tl).toArray[k]?=aj v:=by
 have hj:=(dl.1 h).1;rw[<-hc,Zu hj,Zw]at h;exact jc (k0+j) hp h J
section
variable{P:Program}{n:Nat}{W:bR}{fr:Fr}{L:List b_}{Q:Exit->Act->World->Prop}{ops:Array Oper}{rest:List Oper}{ty:TypeId}{pos:String}{after:Array Edge}{t:TypeId}{p x:Operand}{i g k:Nat}{vo:Value}{pk tl:List Value}{T:TypeId}{agg:Bool}{v:Value}
theorem iv(k0:Nat){cs tl':List Value}{c:Nat}[hT:aK P t agg c](hi:L[i]?=aj (aP g (iY vo pk tl).toArray T))(hp:ev fr p=aj (aJ (aj ⟨g,k,ak⟩)))(hx:ev fr x=aj (aQ cs.toArray))(h1:cs.all eQ=aD)(hc:cs.length=c)(hk:k=k0+259)(dS:pk.length=258)(hj:Nat.ble (k0+c) tl.length=aD)
 (htl:tl.take k0++cs++tl.drop (k0+c)=tl') (h:TL P n W ops Q rest fr (L.set i (aP g (iY vo pk tl').toArray T))):TL P n W ops Q (⟨ak,.store t p x,ty,pos,after,ak⟩::rest) fr L:=by
 subst hk htl;have hj:=Nat.le_of_ble_eq_true hj;refine tH hT.ty hi hp hx (by simpa[sw]using hc) (by simpa[sw]using h1) (by rw[dU,iY,c_,bK];omega) ?_ h;apply Array.ext';show vo::(pk++(tl.take k0++cs++tl.drop (k0+c)))=List.take (k0+259) (vo::(pk++tl))++cs++List.drop (k0+259+c) (vo::(pk++tl))
 rw[show k0+259=pk.length+k0+1 by omega,List.take_succ_cons,show pk.length+k0+1+c=pk.length+(k0+c)+1 by omega,List.drop_succ_cons,List.take_length_add_append,List.drop_length_add_append];simp
end
def pO:Bool->Value->PS->b_
 |true,v,p=>wk v p.1
 |false,v,p=>Sf v p.2
theorem CB{v:Value}{a e:Int}{d:Bool}(h:v.oneCell'=aD):[v,av az a,av az e,.bool d].all eQ=true:=by
 simp only[cY,da,h];rfl
end bZ
namespace bZ
open Go.RowKit cU dM ij
def ta(e:Ev):List Value:=[av az e.1,av az e.2]
theorem ZV(l:List Ev):∀u∈l.flatMap ta,u.oneCell'=true:=by
 intro u hu;obtain⟨f,_,h⟩:=Ad.1 hu;simp only[ta,dx,fl,or_false]at h;rcases h with rfl|rfl<;>rfl
theorem HG(x:Ev)(w:World):Calls aB 90 #[aQ (ta x).toArray] w (cz (ret (.bool (rv x))) w):=by
 obtain⟨k,q⟩:=x;refine enter (args:=[aQ (ta (k,q)).toArray]) (n:=21) Tryz.func90 I I I ?_;refine b9 (bz (bQ I I I λg=>?_))
 repeat' (first
  |refine QV QP ?_
  |refine QZ ?_
  |refine qs I I I I I I ?_
  |(((try refine qg I I I ?_);first|refine QV QP ?_|refine QV (aC aK.ty I (aH (i:=0) I I)) ?_|refine QV QA ?_|refine QV QlT ?_|refine QV QlF ?_|refine QV QgT ?_|refine QV QgF ?_))
  |refine tE (dO I I I) I I I (λh=>?_) (λh=>?_)
  |refine oE (dO I I I) I I I I I (λh=>?_) (λh=>?_)
  |refine oE (dP I I I) I I I I I (λh=>?_) (λh=>?_)
  |((fail_if_success (refine NU I I I ?_));(fail_if_success (refine NV I I I ?_));refine zX I I I (λh=>?_) (λh=>?_)))
 all_goals (refine dC I I ?_;congr 1;unfold rv;dsimp only at*;simp only[*,decide_true,decide_false,Bool.true_or,Bool.false_or,Bool.or_true])
end bZ
namespace bZ
open Go.RowKit cU dM ij
theorem zo(a:Ev):(ta a).length=2:=rfl
theorem yd(v:Value)(l:List Ev)(w:World)(hs:Sl w v l.length (l.flatMap ta))(oU:FuncId)(first cp:Array Value)(p:Ev->Bool)(Fv:Enters aB oU)
 (hp:∀a∈l,∀w',Gr w w'->Calls aB oU (first++#[(aQ (ta a).toArray)]++cp) w' (cz (ret (.bool (p a))) w')):
 Calls aB 115 #[v,.func (.func oU) first cp] w (cz (ret (av az (qP p l))) w):=by
 obtain⟨base,cap,rfl,lm,j0,eL⟩:=hs;unfold maxLen at j0;refine enter (args:=[ap base l.length cap,.func (.func oU) first cp]) (n:=19) Tryz.func115 I I I ?_
 try refine GA ?_
 refine dY (ι:=Nat) (λk=>k<=l.length/\∀j (hj:j<l.length),j<k->p l[j]=aE) (λk=>[(0,ap base l.length cap),(1,.func (.func oU) first cp),(7,av az l.length),(8,av az (k:Int))]) (λ_=>[]) (λk=>l.length-k) 0 ⟨by omega,λj hj h=>by omega⟩ ?_;rintro k ⟨h1,h2⟩
 by_cases c2:k<l.length
 ·obtain⟨b,off,rfl,hr⟩:=eL J
  have dz:=gG (L:=([]:List b_)) zo hr c2;have iz:=hp l[k] (cD c2)
  by_cases c3:p l[k]=aD
  ·rw[qQ c2 c3 h2]
   rw[c3]at iz;clear hp h2 eL
   repeat(first|refine GA ?_|refine gV (aX bL.eq aK.ty I I c2) ?_|refine gV (a8 aK.ty I I dz) ?_)
   refine aW (BK Fv I I) (λw hm=>iz w hm.below) I I I ?_;intro _ _
   try refine GA ?_
   exact eE
  have Np:p l[k]=false:=by simpa using c3
  rw[Np]at iz;clear hp eL c3
  repeat(first|refine GA ?_|refine gV (aX bL.eq aK.ty I I c2) ?_|refine gV (a8 aK.ty I I dz) ?_)
  refine aW (BK Fv I I) (λw hm=>iz w hm.below) I I I ?_;intro _ _
  try refine GA ?_
  exact bW (k+1) ⟨by omega,λj hj h=>if e:j<k then h2 j hj e else(by obtain rfl:j=k:=J;exact Np)⟩ (by show l.length-(k+1)<l.length-k;omega)
 ·rw[qR λj hj=>h2 j hj J]
  clear hp h2 eL
  try refine GA ?_
  exact eE
theorem mM(v:Value)(l:List Ev)(w:World)(hs:Sl w v l.length (l.flatMap ta))(oU:FuncId)(first cp:Array Value)(p:Ev->Bool)(Fv:Enters aB oU)
 (hp:∀a∈l,∀w',Gr w w'->Calls aB oU (first++#[(aQ (ta a).toArray)]++cp) w' (cz (ret (.bool (p a))) w')):
 Calls aB 89 #[v,.func (.func oU) first cp] w (cz (ret (.bool (l.any p))) w):=by
 refine enter (args:=[v,.func (.func oU) first cp]) (n:=9) Tryz.func89 I I I ?_;have hh:=λw' (hg:Gr w w')=>yd v l w' (hs.gr hg) oU first cp p Fv λa ha Fg yG=>hp a ha Fg (hg.trans yG);have hr:=oJ p l;rw[<-tN p l];generalize qP p l=r at*
 try refine GA ?_
 refine aW (fI aI.en I I I) (λw hm=>hh _ hm.below) I I I ?_;intro _ _
 repeat(first|refine GC ?_|refine gV (eN I I I) ?_|refine GB ?_)
 exact eE
theorem pA(v:Value)(l:List Ev)(w:World)(hs:Sl w v l.length (l.flatMap ta))(hl:l.length*16<=140737488355328):
 Calls aB 65 #[v] w (cz (cL 168 2 l.length (l.flatMap ta) id) w):=by
 obtain⟨base,cap,rfl,lm,j0,eL⟩:=hs;unfold maxLen at j0;refine enter (args:=[ap base l.length cap]) (n:=8) Tryz.func65 I I I ?_;have qZ:∀w',Gr w w'->Sl w' (ap base l.length cap) l.length (l.flatMap ta):=λw' hg=>Sl.gr ⟨base,cap,rfl,lm,j0,eL⟩ hg;clear eL
 cases base with
 | none=>
  repeat(first|refine GC ?_|refine gV (jP bL.eq I I I) ?_|refine GB ?_)
  have h0:l=[]:=by
   cases l with
   |nil=>rfl
   |cons x l=>obtain⟨_,_,h,_,_,h2⟩:=qZ w (Gr.refl w);simp only[iT]at h;obtain⟨rfl,_⟩:=h;obtain⟨b,off,h,_⟩:=h2 (by simp);cases h
  subst h0;refine dF 168 2 ?_;exact cJ I I λw hm=>hm.meets (S:=cL 168 2 0 [] id) _ trivial [0] aiz I
 |some p=>
  repeat(first|refine GC ?_|refine gV (jP bL.eq I I I) ?_|refine GB ?_)
  refine vH I λg=>?_
  try refine GA ?_
  refine eD (i:=0) I (λw' hm=>qZ w' hm.below) I I (kW zo l) (ZV l) J J I λv'=>?_;rw[eJ]
  try refine GA ?_
  refine cJ I I λw hm=>?_;exact hm.meets (S:=cL 168 2 l.length (l.flatMap ta) id) v' trivial [0] aiz (by simp[cL])
end bZ
namespace bZ
open Go.RowKit cU dM ij
theorem jL{v:Value}{c g:Int}(h:v.oneCell'=aD):(#[v,av az c,av az g]:Array Value).toList.all eQ=true:=by
 simp only[cY,da,h];rfl
def zq(v:Value)(c g:Int):Value:=aQ #[v,av az c,av az g]
theorem sH(v:Value)(wait:List Ev)(c g:Int)(w:World)(hs:Sl w v wait.length (wait.flatMap ta)):
 Calls aB 59 #[zq v c g] w (cz (ret (av az (bX wait c g))) w):=by
 have Kd:=λw' (hg:Gr w w')=>mM v wait w' (hs.gr hg) 90 #[] #[] rv aI.en (λa _ Fg _=>HG a Fg);obtain⟨base,cap,rfl,lm,j0,eL⟩:=hs;unfold maxLen at j0;clear eL;refine enter (args:=[zq (ap base wait.length cap) c g]) (n:=32) Tryz.func59 I I I ?_;refine b9 (bz (bQ I I I λgb=>?_))
 repeat' (first
  |refine QV QP ?_
  |refine QZ ?_
  |refine qcT I ?_
  |refine qcF I ?_
  |refine qs I I I I I I ?_
  |(((try refine qg I I I ?_);first|refine QV QP ?_|refine QV (aC aK.ty I (aH (i:=0) I I)) ?_|refine QV QL ?_|refine QV QA ?_|refine QV QlT ?_|refine QV QlF ?_|refine QV QgT ?_|refine QV QgF ?_))
  |refine tE (dO I I I) I I I (λh=>?_) (λh=>?_)
  |refine oE (dO I I I) I I I I I (λh=>?_) (λh=>?_)
  |refine tE (dP I I I) I I I (λh=>?_) (λh=>?_)
  |refine oE (dP I I I) I I I I I (λh=>?_) (λh=>?_)
  |refine mg (fI aI.en I I I) (λw hm=>Kd _ hm.below) I I I I I (λ_ _=>?_)
  |((fail_if_success (refine H6 I ?_));(fail_if_success (refine H7 I ?_));refine QF I (λh=>?_) (λh=>?_))
  |((fail_if_success (refine NU I I I ?_));(fail_if_success (refine NV I I I ?_));refine zX I I I (λh=>?_) (λh=>?_)))
 all_goals (refine dC I I ?_;unfold bX;repeat (first|rfl|rw[if_pos (by first|omega|assumption)]|rw[if_neg (by first|omega|assumption|simp only[*,Bool.false_eq_true,not_false_eq_true])]))
theorem vj(v:Value)(wait:List Ev)(c g:Int)(w:World)(hs:Sl w v wait.length (wait.flatMap ta))(hl:wait.length*16<=140737488355328):
 Calls aB 58 #[zq v c g] w (cz (cL 168 2 wait.length (wait.flatMap ta) λv=>zq v c g) w):=by
 have iz:=λw' (hg:Gr w w')=>pA v wait w' (hs.gr hg) hl;refine enter (args:=[zq v c g]) (n:=8) Tryz.func58 I I I ?_;refine b9 (bz (bQ I I I λgb=>aY I λg2=>?_))
 repeat(first|refine GA ?_|refine gV (aC aK.ty I (aH (i:=0) I I)) ?_)
 refine aW (iM aI.en I I) (λw hm=>iz _ hm.below) I I I ?_;intro v2 _
 try refine GA ?_
 refine aU (i:=2) I λoo mi=>?_;refine bU (i:=0) I I I oo mi I ?_
 repeat(first|refine GA ?_|refine gV (aO (i:=0) aK.ty I I I) ?_)
 refine aV (i:=1) I I I I (jL mi) I ?_
 try refine GA ?_
 exact fF (i:=1) I I I I λw hm=>hm.meets (S:=cL 168 2 wait.length (wait.flatMap ta) λv=>zq v c g) v2 trivial [2] aiz I
def Qo(m:List Ev)(c g e:Int):Spec Value:=cL 168 2 m.length (m.flatMap ta) λv=> .tuple #[zq v c g,av az e]
theorem Qp(v:Value)(wait:List Ev)(c g:Int)(vl:Value)(l:List Ev)(w:World)(hs:Sl w v wait.length (wait.flatMap ta))(hl:wait.length*16<=140737488355328)(Ka:Sl w vl l.length (l.flatMap ta)):
 Calls aB 126 #[zq v c g,vl] w (cz (Qo (JN wait c g l) c g (F3 wait c g l)) w):=by
 have iS:=λw' (hg:Gr w w')=>sH v wait c g w' (hs.gr hg);have hsm:=λw' (hg:Gr w w')=>vj v wait c g w' (hs.gr hg) hl;have Kd:=λw' (hg:Gr w w')=>mM vl l w' (Ka.gr hg) 90 #[] #[] rv aI.en (λa _ Fg _=>HG a Fg);have qZ:∀L,SlL w L vl l.length (l.flatMap ta):=λL w' hm=>Ka.gr hm.below;obtain⟨base,cap,rfl,lm,j0,_⟩:=hs;obtain⟨ac7,OE,rfl,ahX,agE,_⟩:=Ka;unfold maxLen at j0 agE;refine enter (args:=[zq (ap base wait.length cap) c g,ap ac7 l.length OE]) (n:=35) Tryz.func126 I I I ?_;refine b9 (bz (bQ I I I λg0=>aY I λg4=>?_));have lf:=acg (wait:=wait) (c:=c) (g:=g) (l:=l);generalize hE:F3 wait c g l=E at*
 repeat(first|refine GA ?_|refine gV (aO (i:=0) aK.ty I I I) ?_)
 refine aW (iM aI.en I I) (λw hm=>iS _ hm.below) I I I ?_;intro _ _
 repeat(first|refine QV QP ?_|refine ky ?_|refine lH ?_|refine QV QL ?_|refine QV QA ?_|refine QV QgT ?_|refine QV QgF ?_|refine QV QeT ?_|refine QV QeF ?_|refine QV QnT ?_|refine QV QnF ?_|refine QV QaS ?_)
 refine VY (ι:=Unit) (λ_=>True) (λ_=>[(1,ap ac7 l.length OE),(2,aJ (aj ⟨g0,0,ak⟩)),(4,aJ (aj ⟨g4,0,ak⟩)),(6,av az E)]) (λ_=>[aP g0 (zq (ap base wait.length cap) c g).cells 100,aP g4 #[ap ak 0 0,av az 0,av az 0] 100]) ?_ ?_
 ·unfold F3 at hE
  by_cases c1:bX wait c g=0
  ·rw[if_neg (by simpa using c1)]at hE
   by_cases c2:l.any rv=aD
   ·rw[if_pos c2]at hE
    subst hE;rw[c2]at Kd;rw[c1]
    try refine GA ?_
    refine aW (fI aI.en I I I) (λw hm=>Kd _ hm.below) I I I ?_;intro _ _
    try refine GA ?_
    exact dJ () trivial (by repeat' (first|exact cI|refine cC I ?_)) I
   rw[if_neg c2]at hE;have U8:l.any rv=false:=by simpa using c2
   rw[U8]at Kd;rw[c1]
   by_cases c3:4200<wait.length+l.length
   ·rw[if_pos c3]at hE
    subst hE
    try refine GA ?_
    refine aW (fI aI.en I I I) (λw hm=>Kd _ hm.below) I I I ?_;intro _ _
    repeat(first|refine GA ?_|refine gV (aC aK.ty I (aH (i:=0) I I)) ?_)
    exact dJ () trivial (by repeat' (first|exact cI|refine cC I ?_)) I
   rw[if_neg c3]at hE;subst hE
   try refine GA ?_
   refine aW (fI aI.en I I I) (λw hm=>Kd _ hm.below) I I I ?_;intro _ _
   repeat(first|refine GA ?_|refine gV (aC aK.ty I (aH (i:=0) I I)) ?_)
   exact dJ () trivial (by repeat' (first|exact cI|refine cC I ?_)) I
  rw[if_pos c1]at hE;subst hE
  try refine GA ?_
  exact dJ () trivial (by repeat' (first|exact cI|refine cC I ?_)) I
 ·intro _ _
  repeat(first|refine GA ?_|refine gV (aO (i:=0) aK.ty I I I) ?_)
  refine aW (iM aI.en I I) (λw hm=>hsm _ hm.below) I I I ?_;intro v2 _;refine aU (i:=2) I λoo mi=>?_;refine aY I λg7=>?_;refine aV (i:=3) I I I I (jL mi) I ?_
  by_cases c1:E=0
  ·have hw:JN wait c g l=wait++l:=by unfold JN;rw[hE,if_pos c1]
   subst c1;obtain⟨_,_,k3⟩:=lf rfl;rw[hw]
   repeat(first|refine GA ?_|refine gV (aC aK.ty I (aH (i:=3) I I)) ?_)
   refine eD (i:=2) I (qZ _) I I (kW zo l) (ZV l) J J I λv'=>?_
   try refine GA ?_
   refine aU (i:=2) I λyv zZ=>?_;refine bU (i:=3) I I I yv zZ I ?_
   repeat(first|refine GA ?_|refine gV (aO (i:=3) aK.ty I I I) ?_)
   refine aV (i:=1) I I I I (jL zZ) I ?_
   try refine GA ?_
   exact ey (i:=1) I I I I I λw hm=>hm.meets (S:=Qo (wait++l) c g 0) v' trivial [2] aiz (by simp[Qo,cL])
  have hw:JN wait c g l=wait:=by unfold JN;rw[hE,if_neg c1]
  rw[hw]
  repeat(first|refine GA ?_|refine gV (aO (i:=3) aK.ty I I I) ?_)
  refine aV (i:=1) I I I I (jL mi) I ?_
  try refine GA ?_
  exact ey (i:=1) I I I I I λw hm=>hm.meets (S:=Qo wait c g E) v2 trivial [2] aiz I
end bZ
namespace bZ
open Go.RowKit cU dM ij
theorem JT(v:Value)(wait:List Ev)(c g n:Int)(w:World)(hs:Sl w v wait.length (wait.flatMap ta))(hl:wait.length*16<=140737488355328):
 Calls aB 31 #[zq v c g,av az n] w (cz (Qo wait (ya wait c g n) g (nX wait c g n)) w):=by
 have iS:=λw' (hg:Gr w w')=>sH v wait c g w' (hs.gr hg);have hsm:=λw' (hg:Gr w w')=>vj v wait c g w' (hs.gr hg) hl;have lf:=UI (wait:=wait) (c:=c) (g:=g) (n:=n);have yv:=cP (wait:=wait) (c:=c) (g:=g);obtain⟨base,cap,rfl,lm,j0,_⟩:=hs;unfold maxLen at j0;refine enter (args:=[zq (ap base wait.length cap) c g,av az n]) (n:=32) Tryz.func31 I I I ?_;refine b9 (bz (bQ I I I λg0=>aY I λg4=>?_))
 repeat(first|refine QV QP ?_|refine ky ?_|refine lH ?_|refine qs I I I I I I ?_|((try refine qg I I I ?_);first|refine QV QP ?_|refine QV QA ?_|refine QV (CX I I J) ?_|refine QV QeT ?_|refine QV QeF ?_|refine QV QaA ?_|refine QV QlT ?_|refine QV QlF ?_|refine QV QgT ?_|refine QV QgF ?_))
 refine VY (ι:=Value×Nat) (λ(v2,_)=>v2.oneCell'=aD) (λ(v2,g6)=>[(1,av az n),(4,aJ (aj ⟨g4,0,ak⟩)),(6,aJ (aj ⟨g6,0,ak⟩)),(7,av az (bX wait c g))]) (λ(v2,g6)=>[aP g4 #[ap ak 0 0,av az 0,av az 0] 100,a_ 168 2 v2 wait.length (wait.flatMap ta),aP g6 (zq v2 c g).cells 100]) ?_ ?_
 ·refine dK ([aP g0 (zq (ap base wait.length cap) c g).cells 100]) (.calm 0 (.calm 2 (.two 1 (.calm 3 (.one 4 (.one 5 (.calm 6 (.done))))) 4 (.one 1 (.calm 3 (.one 5 (.calm 6 (.done)))))))) (bV [0]) ?_
  repeat(first|refine GW ?_|(refine GN ?_;first|refine QW (aO (i:=0) aK.ty I I I) ?_))
  refine ez I I ?_ ?_
  ·refine aW (iM aI.en I I) (λw hm=>hsm _ hm.below) I I I ?_
   intro v2 _;refine aM (bV [0]) ?_;refine n_ I (iM aI.en I I) (λw hm=>iS _ hm.below) I I I ?_;refine aL I (aY I λg6=>aM (bV [0]) ?_);refine aL I ?_;refine aU (i:=2) I λoo mi=>?_;refine aV (i:=3) I I I I (jL mi) I ?_;refine aM (bV [0]) ?_
   try refine GW ?_
   refine dh [1,2,3] ?_;exact dJ (v2,g6) mi (by repeat' (first|exact cI|refine cC I ?_)) I
  refine aY I λg6=>?_;refine aM (bV [0]) ?_;refine aL I ?_;refine aW (iM aI.en I I) (λw hm=>hsm _ hm.below) I I I ?_;intro v2 _;refine aM (bV [0]) ?_;refine n_ I (iM aI.en I I) (λw hm=>iS _ hm.below) I I I ?_;refine aL I ?_;refine aU (i:=3) I λoo mi=>?_;refine aV (i:=2) I I I I (jL mi) I ?_;refine aM (bV [0]) ?_
  try refine GW ?_
  refine dh [1,3,2] ?_;exact dJ (v2,g6) mi (by repeat' (first|exact cI|refine cC I ?_)) I
 rintro⟨v2,g6⟩ mi;dsimp only at mi⊢;unfold ya nX at*
 by_cases c1:bX wait c g=0
 ·obtain⟨_,b1,b2,_⟩:=yv c1
  rw[c1];simp only[ne_eq,not_true_eq_false,if_false]
  by_cases c2:n<1
  ·rw[if_pos c2]
   repeat(first|refine GA ?_|refine gV (aO (i:=2) aK.ty I I I) ?_)
   refine aV (i:=0) I I I I (jL mi) I ?_
   try refine GA ?_
   exact ey (i:=0) I I I I I λw hm=>hm.meets (S:=Qo wait c g 1) v2 trivial [1] aiz I
  rw[if_neg c2]
  by_cases c3:1073741824<n
  ·rw[if_pos c3]
   repeat(first|refine GA ?_|refine gV (aO (i:=2) aK.ty I I I) ?_)
   refine aV (i:=0) I I I I (jL mi) I ?_
   try refine GA ?_
   exact ey (i:=0) I I I I I λw hm=>hm.meets (S:=Qo wait c g 1) v2 trivial [1] aiz I
  rw[if_neg c3]
  repeat(first|refine GC ?_|refine gV (aC aK.ty I (aH (i:=2) I I)) ?_|refine gV (CX I I I) ?_|refine GB ?_)
  refine bU (i:=2) I I I I I I ?_
  repeat(first|refine GA ?_|refine gV (aO (i:=2) aK.ty I I I) ?_)
  refine aV (i:=0) I I I I (jL mi) I ?_
  try refine GA ?_
  exact ey (i:=0) I I I I I λw hm=>hm.meets (S:=Qo wait (min (c+n) 1073741824) g 0) v2 trivial [1] aiz I
 ·rw[if_pos c1,if_neg c1]
  repeat(first|refine GA ?_|refine gV (aO (i:=2) aK.ty I I I) ?_)
  refine aV (i:=0) I I I I (jL mi) I ?_
  try refine GA ?_
  exact ey (i:=0) I I I I I λw hm=>hm.meets (S:=Qo wait c g (bX wait c g)) v2 trivial [1] aiz I
def taS(wait:List Ev)(c g n:Int):Spec (Value×Value):=
 if HC wait c g n=0 then
  ⟨λ_=>True,λx=> .tuple #[zq x.1 (c-takeN wait c n) (g+takeN wait c n),x.2,av az 0],λx=>[a_ 168 2 x.1 (wait.length-takeN wait c n) ((wait.drop (takeN wait c n)).flatMap ta),a_ 168 2 x.2 (takeN wait c n) ((wait.take (takeN wait c n)).flatMap ta)]⟩
 else⟨λ_=>True,λx=> .tuple #[zq x.1 c g,x.2,av az (HC wait c g n)],λx=>[a_ 168 2 x.1 wait.length (wait.flatMap ta),a_ 168 2 x.2 0 []]⟩
theorem MU(v:Value)(wait:List Ev)(c g n:Int)(w:World)(hs:Sl w v wait.length (wait.flatMap ta))(hl:wait.length*16<=140737488355328):
 Calls aB 33 #[zq v c g,av az n] w (cz (taS wait c g n) w):=by
 have iS:=λw' (hg:Gr w w')=>sH v wait c g w' (hs.gr hg);have hsm:=λw' (hg:Gr w w')=>vj v wait c g w' (hs.gr hg) hl;have yv:=cP (wait:=wait) (c:=c) (g:=g);obtain⟨base,cap,rfl,lm,j0,_⟩:=hs;unfold maxLen at j0;refine enter (args:=[zq (ap base wait.length cap) c g,av az n]) (n:=55) Tryz.func33 I I I ?_;refine b9 (bz (bQ I I I λg0=>aY I λg4=>?_))
 repeat(first|refine QV QP ?_|refine ky ?_|refine lH ?_|refine qs I I I I I I ?_|((try refine qg I I I ?_);first|refine QV QP ?_|refine QV QL ?_|refine QV QA ?_|refine QV (CX I I J) ?_|refine QV QeT ?_|refine QV QeF ?_|refine QV QnT ?_|refine QV QnF ?_|refine QV QaA ?_|refine QV QaS ?_|refine QV QlT ?_|refine QV QlF ?_))
 refine VY (ι:=Value×Nat) (λ(v2,_)=>v2.oneCell'=aD) (λ(v2,g6)=>[(1,av az n),(4,aJ (aj ⟨g4,0,ak⟩)),(7,aJ (aj ⟨g6,0,ak⟩)),(8,av az (bX wait c g))]) (λ(v2,g6)=>[aP g4 #[ap ak 0 0,av az 0,av az 0] 100,a_ 168 2 v2 wait.length (wait.flatMap ta),aP g6 (zq v2 c g).cells 100]) ?_ ?_
 ·refine dK ([aP g0 (zq (ap base wait.length cap) c g).cells 100]) (.calm 0 (.calm 2 (.two 1 (.calm 3 (.one 4 (.one 5 (.calm 6 (.done))))) 4 (.one 1 (.calm 3 (.one 5 (.calm 6 (.done)))))))) (bV [0]) ?_
  repeat(first|refine GW ?_|(refine GN ?_;first|refine QW (aO (i:=0) aK.ty I I I) ?_))
  refine ez I I ?_ ?_
  ·refine aW (iM aI.en I I) (λw hm=>hsm _ hm.below) I I I ?_
   intro v2 _;refine aM (bV [0]) ?_;refine n_ I (iM aI.en I I) (λw hm=>iS _ hm.below) I I I ?_;refine aL I (aY I λg6=>aM (bV [0]) ?_);refine aL I ?_;refine aU (i:=2) I λoo mi=>?_;refine aV (i:=3) I I I I (jL mi) I ?_;refine aM (bV [0]) ?_
   try refine GW ?_
   refine dh [1,2,3] ?_;exact dJ (v2,g6) mi (by repeat' (first|exact cI|refine cC I ?_)) I
  refine aY I λg6=>?_;refine aM (bV [0]) ?_;refine aL I ?_;refine aW (iM aI.en I I) (λw hm=>hsm _ hm.below) I I I ?_;intro v2 _;refine aM (bV [0]) ?_;refine n_ I (iM aI.en I I) (λw hm=>iS _ hm.below) I I I ?_;refine aL I ?_;refine aU (i:=3) I λoo mi=>?_;refine aV (i:=2) I I I I (jL mi) I ?_;refine aM (bV [0]) ?_
  try refine GW ?_
  refine dh [1,3,2] ?_;exact dJ (v2,g6) mi (by repeat' (first|exact cI|refine cC I ?_)) I
 rintro⟨v2,g6⟩ mi;dsimp only at mi⊢;unfold taS HC
 by_cases c1:bX wait c g=0
 ·obtain⟨b0,b1,b2,b3,b4,_⟩:=yv c1
  rw[c1];simp only[ne_eq,not_true_eq_false,if_false]
  by_cases c2:n<0
  ·rw[if_pos c2,if_neg aiz]
   repeat(first|refine GA ?_|refine gV (aO (i:=2) aK.ty I I I) ?_)
   refine aV (i:=0) I I I I (jL mi) I ?_
   try refine GA ?_
   refine dF 168 2 ?_;exact ff (i:=0) I I I I I I λw hm=>hm.meets (S:=⟨λ_=>True,λ(x:Value×Value)=> .tuple #[zq x.1 c g,x.2,av az 1],λx=>[a_ 168 2 x.1 wait.length (wait.flatMap ta),a_ 168 2 x.2 0 []]⟩) (v2,ap ak 0 0) trivial [1,3] aiz I
  rw[if_neg c2,if_pos I];have hN:(takeN wait c n:Int)=min n (min c wait.length):=by unfold takeN;omega
  have WD:takeN wait c n<=wait.length:=by omega
  generalize takeN wait c n=N at*;have ahI:=λv' w' (hx:Sl w' v' ((wait.drop 0).take (N-0)).length (((wait.drop 0).take (N-0)).flatMap ta))=>pA v' ((wait.drop 0).take (N-0)) w' hx (by simp;omega);have ahJ:=λv' w' (hx:Sl w' v' ((wait.drop N).take (wait.length-N)).length (((wait.drop N).take (wait.length-N)).flatMap ta))=>pA v' ((wait.drop N).take (wait.length-N)) w' hx (by simp;omega);refine If (i:=1) I λb2 OE lz q1 q2=>?_;subst lz
  repeat(first|refine GC ?_|refine gV (aC aK.ty I (aH (i:=2) I I)) ?_|refine gV (aau I I I hN.symm) ?_|refine gV (Gj bL.eq aK.ty I I J) ?_|refine GB ?_)
  refine aW (iM aI.en I I) (λw hm=>ahI _ _ (C8 zo (lI (i:=1) I w hm) J WD)) I I I ?_;intro vg _
  repeat(first|refine GC ?_|refine gV (aC aK.ty I (aH (i:=2) I I)) ?_|refine gV (qS bL.eq aK.ty I I WD q1) ?_|refine GB ?_)
  refine aW (iM aI.en I I) (λw hm=>ahJ _ _ (C8 zo (lI (i:=1) I w hm) WD J)) I I I ?_;intro vw _
  try refine GA ?_
  refine aU (i:=4) I λhc3 ho3=>?_;refine bU (i:=2) I I I hc3 ho3 I ?_
  repeat(first|refine GA ?_|refine gV (aC aK.ty I (aH (i:=2) I I)) ?_)
  refine bU (i:=2) I I I I I I ?_
  repeat(first|refine GA ?_|refine gV (aC aK.ty I (aH (i:=2) I I)) ?_)
  refine bU (i:=2) I I I I I I ?_
  repeat(first|refine GA ?_|refine gV (aO (i:=2) aK.ty I I I) ?_)
  refine aV (i:=0) I I I I (jL ho3) I ?_
  try refine GA ?_
  have e1:(wait.drop 0).take (N-0)=wait.take N:=by simp
  have e2:(wait.drop N).take (wait.length-N)=wait.drop N:=List.take_of_length_le (by simp);have e3:(wait.take N).length=N:=by simp;omega
  have e4:(wait.drop N).length=wait.length-N:=by simp
  refine ff (i:=0) I I I I I I λw hm=>hm.meets (S:=⟨λ_=>True,λ(x:Value×Value)=> .tuple #[zq x.1 (c-N) (g+N),x.2,av az 0],λx=>[a_ 168 2 x.1 (wait.length-N) ((wait.drop N).flatMap ta),a_ 168 2 x.2 N ((wait.take N).flatMap ta)]⟩) (vw,vg) trivial [4,3] aiz ?_;show _=[a_ 168 2 vw ((wait.drop N).take (wait.length-N)).length (((wait.drop N).take (wait.length-N)).flatMap ta),a_ 168 2 vg ((wait.drop 0).take (N-0)).length (((wait.drop 0).take (N-0)).flatMap ta)]
  rw[e1,e2,e3,e4]
 ·rw[if_pos c1,if_neg (by simpa using c1)]
  repeat(first|refine GA ?_|refine gV (aO (i:=2) aK.ty I I I) ?_)
  refine aV (i:=0) I I I I (jL mi) I ?_
  try refine GA ?_
  refine dF 168 2 ?_;exact ff (i:=0) I I I I I I λw hm=>hm.meets (S:=⟨λ_=>True,λ(x:Value×Value)=> .tuple #[zq x.1 c g,x.2,av az (bX wait c g)],λx=>[a_ 168 2 x.1 wait.length (wait.flatMap ta),a_ 168 2 x.2 0 []]⟩) (v2,ap ak 0 0) trivial [1,3] aiz I
end bZ
namespace bZ
open Go.RowKit cU dM cT l_
def gI(a:Int)(u:List UInt8)(e:Int):List Value:=[av az a,str u,av az e]
def ach(c:Int)(a:Int)(u:List UInt8)(e:Int):Int:=if c≠0 then c else if a<0\/1099511627776<a\/64<u.length then 1 else if e≠0 then 15 else 0
theorem sV(o:Of)(vn vt:Value)(N:List (List Int))(tags:List Int)(a:Int)(u:List UInt8)(e:Int)(w:World)(h:Vc w vn vt N tags)(ho:∀b (h:b<256),o[b]<256)(hu:u.length<=9223372036854775807):
 Calls aB 94 #[Nu o vn vt,aQ (gI a u e).toArray] w (cz (ret (av az (ach (zk o N tags) a u e))) w):=by
 have iS:=λw' (hg:Gr w w')=>Bu o vn vt N tags w' (h.gr hg) ho;obtain⟨⟨an,cn,rfl,-⟩,at',ct,rfl,-⟩:=h;generalize zk o N tags=c at*;unfold ach;refine enter (args:=[Nu o (ap an N.length cn) (ap at' tags.length ct),aQ (gI a u e).toArray]) (n:=30) Tryz.func94 I I I ?_;refine b9 (bz (bQ I I I λg2=>bQ I I I λg3=>?_));refine zL ?_
 repeat(first|refine GA ?_|refine gV (aO (i:=0) aK.ty I I (ko _ _ _)) ?_)
 refine aW (iM aI.en I I) (λw hm=>iS _ hm.below) I I I ?_;intro _ _;refine zL ?_
 by_cases c1:c=0
 ·rw[if_neg (by simpa using c1)]
  by_cases c2:a<0
  ·rw[if_pos (.inl c2)]
   repeat(first|refine GC ?_|refine gV (dm (b:=aE) I I (decide_eq_false (by simpa using c1))) ?_|refine gV (aC (v:=av az a) aK.ty I (aH (i:=1) I I)) ?_|refine gV (dO (b:=aD) I I (decide_eq_true c2)) ?_|refine GB ?_)
   exact dC I I I
  by_cases c3:1099511627776<a
  ·rw[if_pos (.inr (.inl c3))]
   repeat(first|refine GC ?_|refine gV (dm (b:=aE) I I (decide_eq_false (by simpa using c1))) ?_|refine gV (aC (v:=av az a) aK.ty I (aH (i:=1) I I)) ?_|refine gV (dO (b:=aE) I I (decide_eq_false c2)) ?_|refine gV (dP (b:=aD) I I (decide_eq_true c3)) ?_|refine GB ?_)
   exact dC I I I
  by_cases c4:64<u.length
  ·rw[if_pos (.inr (.inr c4))]
   repeat(first|refine GC ?_|refine gV (dm (b:=aE) I I (decide_eq_false (by simpa using c1))) ?_|refine gV (aC (v:=av az a) aK.ty I (aH (i:=1) I I)) ?_|refine gV (aC (v:=str u) aK.ty I (aH (i:=1) I I)) ?_|refine gV (dO (b:=aE) I I (decide_eq_false c2)) ?_|refine gV (dP (b:=aE) I I (decide_eq_false c3)) ?_|refine gV (dP (b:=aD) I I (decide_eq_true J)) ?_|refine GB ?_)
   exact dC I I I
  rw[if_neg J]
  by_cases c5:e=0
  ·rw[if_neg (by simpa using c5)]
   repeat(first|refine GC ?_|refine gV (dm (b:=aE) I I (decide_eq_false (by simpa using c1))) ?_|refine gV (aC (v:=av az a) aK.ty I (aH (i:=1) I I)) ?_|refine gV (aC (v:=str u) aK.ty I (aH (i:=1) I I)) ?_|refine gV (aC (v:=av az e) aK.ty I (aH (i:=1) I I)) ?_|refine gV (dO (b:=aE) I I (decide_eq_false c2)) ?_|refine gV (dm (b:=aE) I I (decide_eq_false (by simpa using c5))) ?_|refine gV (dP (b:=aE) I I (decide_eq_false c3)) ?_|refine gV (dP (b:=aE) I I (decide_eq_false J)) ?_|refine GB ?_)
   exact dC I I I
  rw[if_pos c5]
  repeat(first|refine GC ?_|refine gV (dm (b:=aE) I I (decide_eq_false (by simpa using c1))) ?_|refine gV (aC (v:=av az a) aK.ty I (aH (i:=1) I I)) ?_|refine gV (aC (v:=str u) aK.ty I (aH (i:=1) I I)) ?_|refine gV (aC (v:=av az e) aK.ty I (aH (i:=1) I I)) ?_|refine gV (dO (b:=aE) I I (decide_eq_false c2)) ?_|refine gV (dm (b:=aD) I I (decide_eq_true c5)) ?_|refine gV (dP (b:=aE) I I (decide_eq_false c3)) ?_|refine gV (dP (b:=aE) I I (decide_eq_false J)) ?_|refine GB ?_)
  exact dC I I I
 ·rw[if_pos c1]
  repeat(first|refine GC ?_|refine gV (dm (b:=aD) I I (decide_eq_true c1)) ?_|refine GB ?_)
  exact dC I I I
theorem aeP{l:List Int}{k:Nat}(h:∀j (h:j<l.length),j<k->l[j]<0)(hk:l.length<=k):(l.any λx=>decide (0<=x))=false:=by
 rw[sD];intro x hx;obtain⟨j,hj,rfl⟩:=g_.1 hx;have:=h j hj J;simp;omega
theorem E6(o:Of)(vn vt:Value)(N:List (List Int))(tags:List Int)(s:List UInt8)(w:World)(h:Vc w vn vt N tags)(hg:qJ o N tags)(hs:s.length<=1000000):
 Calls aB 95 #[Nu o vn vt,str s] w (cz (ret (.tuple #[av az (eu o N tags s).1.1,av az ((eu o N tags s).1.2:Int),.bool (eu o N tags s).2])) w):=by
 have uH:=λ{q} hq b=>aeC hg (q:=q) hq b;have AE:=hg.pos;have hlen:=hg.len;obtain⟨⟨an,cn,rfl,hn1,hn2,hn3⟩,at',ct,rfl,ht1,Xa,Kc⟩:=h;unfold maxLen at hn2 Xa;obtain⟨bn,My,rfl,_,Kn⟩:=hn3 J;obtain⟨bt,JD,rfl,htd⟩:=Kc J;clear hn3 Kc hg;refine enter (args:=[Nu o (ap (aj ⟨bn,My,ak⟩) N.length cn) (ap (aj ⟨bt,JD,ak⟩) tags.length ct),str s]) (n:=66) Tryz.func95 I I I ?_;refine b9 (bz (bQ I I I λg2=>?_));refine zL ?_
 try refine GA ?_
 unfold eu;dsimp only;generalize jp:p_ o N tags s 0 0 0 0=fin;generalize U_:HA o N 0 s=sr;refine dY (ι:=Nat×Nat×Int×Nat) (λ(i,now,r,t)=>i<=s.length/\now<N.length/\t<=i/\(t=0->r=0)/\p_ o N tags (s.drop i) i (now:Int) r t=fin/\HA o N (now:Int) (s.drop i)=sr) (λ(i,now,r,t)=>[(1,str s),(2,aJ (aj ⟨g2,0,ak⟩)),(4,av az r),(5,av az (t:Int)),(7,av az (now:Int)),(12,av az s.length),(13,av az (i:Int))])
  (λ_=>[aP g2 (eP o (ap (aj ⟨bn,My,ak⟩) N.length cn) (ap (aj ⟨bt,JD,ak⟩) tags.length ct)).toArray 31]) (λ(i,_,_,_)=>s.length-i) (0,0,0,0) ⟨bH _,AE,bH _,λ_=>rfl,jp,U_⟩ ?_
 rintro⟨i,now,r,t⟩ ⟨i1,i2,i3,i6,i4,i5⟩;dsimp only at i1 i2 i3 i4 i5 i6⊢;clear jp U_
 by_cases c1:i<s.length
 ·have hne:decide (s≠[])=true:=decide_eq_true (by rintro rfl;simp at c1)
  rw[eI c1,x9]at i4;rw[eI c1,Qm]at i5;obtain⟨_,hw,hx0,j_,fE⟩:=uH i2 s[i];have hb:s[(i:Int).toNat]?=aj s[i]:=by rw[dB];exact bD c1
  have hcell:=aeD (vn:=ap (aj ⟨bn,My,ak⟩) N.length cn) (vt:=ap (aj ⟨bt,JD,ak⟩) tags.length ct) o s[i];have hb8:=s[i].toNat_lt;obtain⟨u,⟨au,cu,rfl,hcu,hmu,Nq⟩,hdu⟩:=Az Kn i2;have JE:=λ(L:List b_)=>iD (L:=L) hdu (j:=0) (v:= .slice au N[now].length cu) I;obtain⟨bu,ab2,rfl,eL⟩:=Nq J;have FY:=λ(L:List b_)=>gG (L:=L) jU eL hw 0 _ I;have ZW:∀(L:List b_),At (w:bR) L ⟨bu,ab2+o[s[i].toNat]*1+0,ak⟩ (av az (AX o N (now:Int) s[i])):=λL=>by rw[hx0];exact FY L
  clear hdu eL Nq FY hx0 Kn;generalize s[i]=b at*;generalize o[b.toNat]=ob at*;generalize AX o N (now:Int) b=x at*;generalize N[now].length=wd at*
  try refine GA ?_
  refine dK ([aP g2 (eP o (ap (aj ⟨bn,My,ak⟩) N.length cn) (ap (aj ⟨bt,JD,ak⟩) tags.length ct)).toArray 31]) (.calm 0 (.calm 1 (.calm 2 (.calm 3 (.calm 4 (.calm 5 (.calm 6 (.calm 7 (.calm 8 (.calm 9 (.calm 10 (.calm 11 (.calm 12 (.calm 13 (.done))))))))))))))) (λ_ h=>h) ?_
  repeat(first|refine GW ?_|(refine GN ?_;first|refine QW (aC aK.ty I (aH (i:=0) I (lB _ _ _))) ?_|refine QW (aX (j:=now) bL.eq aK.ty I I i2) ?_|refine QW (aC aK.ty I (JE _)) ?_|refine QW (vB bL.eq I I J hb) ?_|refine QW (gY bL.eq aK.ty I I hb8) ?_|refine QW (aC aK.ty I (aH (i:=0) I hcell)) ?_|refine QW (aX (j:=ob) bL.eq aK.ty I I hw) ?_|refine QW (aC aK.ty I (ZW _)) ?_))
  by_cases q1:x<0
  ·rw[if_pos q1]at i4 i5
   subst i4 i5;rw[hne,uP]
   repeat(first|refine GC ?_|refine gV (dO (b:=aD) I I (decide_eq_true q1)) ?_|refine GB ?_)
   exact mU I I I I λw hm=>hm.ret
  rw[if_neg q1]at i4 i5;obtain⟨xn,rfl⟩:=hY (show 0<=x by omega);have hxt:xn<tags.length:=by omega
  have Mf:=λ(L:List b_)=>gG (L:=L) jU htd hxt 0 _ I;rw[dB,cH (l:=tags),bD hxt,kD]at i4;generalize tags[xn]=tg at*;have ac8:∀(L:List b_),At (w:bR) L ⟨bt,JD+xn*1+0,ak⟩ (av az tg):=Mf
  by_cases q2:0<=tg
  ·rw[if_pos q2]at i4
   repeat(first|refine GC ?_|refine gV (dO (b:=aE) I I (decide_eq_false q1)) ?_|refine gV (aC aK.ty I (aH (i:=0) I (nr _ _ _))) ?_|refine gV (aX (j:=xn) bL.eq aK.ty I I hxt) ?_|refine gV (aC (v:=av az tg) aK.ty I (ac8 _)) ?_|refine gV (eN (b:=aD) I I (decide_eq_true q2)) ?_|refine gV (eM (r:=((i+1:Nat):Int)) I I J J J) ?_|refine GB ?_)
   exact bW (i+1,xn,tg,i+1) ⟨by show i+1<=s.length;omega,by show xn<N.length;omega,bm _,λh=>absurd h (EP i),i4,i5⟩ (by show s.length-(i+1)<s.length-i;omega)
  rw[if_neg q2]at i4
  repeat(first|refine GC ?_|refine gV (dO (b:=aE) I I (decide_eq_false q1)) ?_|refine gV (aC aK.ty I (aH (i:=0) I (nr _ _ _))) ?_|refine gV (aX (j:=xn) bL.eq aK.ty I I hxt) ?_|refine gV (aC (v:=av az tg) aK.ty I (ac8 _)) ?_|refine gV (eN (b:=aE) I I (decide_eq_false q2)) ?_|refine gV (eM (r:=((i+1:Nat):Int)) I I J J J) ?_|refine GB ?_)
  exact bW (i+1,xn,r,t) ⟨by show i+1<=s.length;omega,by show xn<N.length;omega,by show t<=i+1;omega,i6,i4,i5⟩ (by show s.length-(i+1)<s.length-i;omega)
 ·rw[oL J]at i4 i5
  have i4:(r,t)=fin:=i4;subst i4
  by_cases e1:s=[]
  ·have hne:decide (s≠[])=false:=decide_eq_false (by simpa using e1)
   rw[hne,Bool.false_and];subst e1;obtain rfl:i=0:=by simp at i1;exact i1
   obtain rfl:t=0:=by omega
   obtain rfl:=i6 rfl
   repeat(first|refine GC ?_|refine gV (oI (b:=aD) I I (decide_eq_true I)) ?_|refine GB ?_)
   exact mU I I I I λw hm=>hm.ret
  have hne:decide (s≠[])=true:=decide_eq_true e1;rw[hne,uP];have i5:(!((N.getD ((now:Int).toNat) []).any λx=>decide (0<=x)))=sr:=i5;obtain⟨u,⟨au,cu,rfl,hcu,hmu,Nq⟩,hdu⟩:=Az Kn i2;have JE:=λ(L:List b_)=>iD (L:=L) hdu (j:=0) (v:= .slice au N[now].length cu) I;rw[dB,cH,bD i2,kD]at i5;clear hdu uH Kn i4;generalize N[now]=row at*;unfold maxLen at hmu
  repeat(first|refine GC ?_|refine gV (oI (b:=aE) I I (decide_eq_false e1)) ?_|refine gV (aC aK.ty I (aH (i:=0) I (lB _ _ _))) ?_|refine gV (aX (j:=now) bL.eq aK.ty I I i2) ?_|refine gV (aC aK.ty I (JE _)) ?_|refine GB ?_)
  clear JE;refine tJ [] ?_;refine dY (ι:=Nat) (λk=>k<=row.length/\∀j (h:j<row.length),j<k->row[j]<0) (λk=>[(4,av az r),(5,av az (t:Int)),(53,ap au row.length cu),(54,av az row.length),(55,av az (k:Int))]) (λ_=>[]) (λk=>row.length-k) 0 ⟨bH _,λj _ h=>absurd h (lT _)⟩ ?_;rintro k ⟨k1,k2⟩
  by_cases c2:k<row.length
  ·obtain⟨bu,ab2,rfl,eL⟩:=Nq J
   have FY:=λ(L:List b_)=>gG (L:=L) jU eL c2 0 _ I;have hk2:∀(h:row[k]<0),∀j (h:j<row.length),j<k+1->row[j]<0:=λh j hj hjk=>by
    by_cases e:j=k
    subst e;exact h;exact k2 j hj J
   by_cases c3:0<=row[k]
   ·have EK:(row.any λx=>decide (0<=x))=true:=List.any_eq_true.2 ⟨row[k],cD c2,decide_eq_true c3⟩
    rw[EK]at i5;subst i5;clear hk2 EK;generalize row[k]=x at*
    repeat(first|refine GC ?_|refine gV (aX bL.eq aK.ty I I c2) ?_|refine gV (aC (v:=av az x) aK.ty I (FY _)) ?_|refine gV (eN (b:=aD) I I (decide_eq_true c3)) ?_|refine GB ?_)
    exact mU I I I I λw hm=>hm.ret
   have hk3:=hk2 J;clear hk2;have ZW:∀(L:List b_),At (w:bR) L ⟨bu,ab2+k*1+0,ak⟩ (av az row[k]):=FY;clear FY;generalize hx:row[k]=x at*
   repeat(first|refine GC ?_|refine gV (aX bL.eq aK.ty I I c2) ?_|refine gV (aC (v:=av az x) aK.ty I (ZW _)) ?_|refine gV (eN (b:=aE) I I (decide_eq_false c3)) ?_|refine GB ?_)
   exact bW (k+1) ⟨by omega,hk3⟩ (by show row.length-(k+1)<row.length-k;omega)
  rw[aeP k2 J]at i5;subst i5
  try refine GA ?_
  exact mU I I I I λw hm=>hm.ret
end bZ
namespace bZ
open Go.RowKit cU dM cT l_
section
variable{P:Program}{n:Nat}{W:bR}{fr:Fr}{L:List b_}
theorem aci{fn:Func}{R:Ending->World->Prop}{t u:Tmp}{T U:TypeId}{i j g g' c c':Nat}{cs cs':Array Value}{T' U':TypeId}[hT:aK P T aD c][hU:aK P U aD c'](ns:fn.results=#[.cell t T,.cell u U])(hp:look fr t=aj (aJ (aj ⟨g,0,ak⟩)))(hi:L[i]?=aj (aP g cs T'))(hc:cs.size=c)
 (hq:look fr u=aj (aJ (aj ⟨g',0,ak⟩))) (hj:L[j]?=aj (aP g' cs' U')) (hc':cs'.size=c')
 (h:∀w,Mem W L w->R (.returned (.tuple #[.agg cs,.agg cs'])) w):E n W .ret (bodyPost P fn R) fr L:=
 CV λa w hr sY=>⟨_,by
  have C2:=run_loadCells_list (P:=P) w ⟨g,0,ak⟩ cs.toList λj v hj=>by rw[eB,cV];exact aH hi (by simpa using hj) w sY
  have hl:(loadCells ⟨g,0,ak⟩ c).run P w= .ok cs w:=by rw[<-hc];simpa using C2
  have hv:(loadVar T ⟨g,0,ak⟩).run P w= .ok (.agg cs) w:=by simp[loadVar,hT.ty.agg,hT.ty.size,hl]
  have aeQ:=run_loadCells_list (P:=P) w ⟨g',0,ak⟩ cs'.toList λj v rB=>by rw[eB,cV];exact aH hj (by simpa using rB) w sY
  have hl':(loadCells ⟨g',0,ak⟩ c').run P w= .ok cs' w:=by rw[<-hc'];simpa using aeQ
  have KP:(loadVar U ⟨g',0,ak⟩).run P w= .ok (.agg cs') w:=by simp[loadVar,hU.ty.agg,hU.ty.size,hl']
  simp[results,ns,Array.getD_eq_getD_getElem?,hr.get t _ hp,hr.get u _ hq,asAddr,hv,KP],h w sY⟩
end
theorem MV(a:Int)(u:List UInt8)(w:World):(df 97 #[(0,av az a),(1,str u)]).run aB w= .ok (aQ (gI a u 0).toArray) w:=by
 unfold gI str;go_simp
theorem BE(a e:Int)(w:World):(df 97 #[(0,av az a),(2,av az e)]).run aB w= .ok (aQ (gI a [] e).toArray) w:=by
 unfold gI str;go_simp
theorem Qq(r a b:Int)(w:World):(df 163 #[(0,av az r),(1,av az a),(2,av az b)]).run aB w= .ok (aQ #[av az r,av az a,av az b]) w:=by
 go_simp
theorem HH(a:Nat)(u:List UInt8)(e r:Int)(t:Nat)(w:World)(ha:a<=9223372036854775)(ht:t<=u.length)(hu:u.length<=1000000):
 Calls aB 96 #[aQ (gI a u e).toArray,av az r,av az (t:Int)] w (cz (ret (.tuple #[aQ (gI ((a+t:Nat):Int) (u.drop t) 0).toArray,aQ (sE (r,a,a+t)).toArray])) w):=by
 have hb:=Qq r a ((a+t:Nat):Int);have Nn:=MV ((a+t:Nat):Int) (u.drop t);refine enter (args:=[aQ (gI a u e).toArray,av az r,av az (t:Int)]) (n:=25) Tryz.func96 I I I ?_;refine b9 (bz (bQ I I I λg3=>aY I λg6=>aY I λg7=>?_));refine zL ?_
 repeat(first|refine GC ?_|refine gV (aC (v:=av az (a:Int)) aK.ty I (aH (i:=0) I I)) ?_|refine gV (eM (r:=((a+t:Nat):Int)) I I J J J) ?_|refine gV (bB I hb) ?_|refine GB ?_)
 refine aY I λg8=>?_;refine zL ?_;refine gh 3 (cs':=(sE (r,a,a+t)).toArray) ?_;refine zL ?_
 try refine GA ?_
 refine dK ([aP g3 (gI a u e).toArray 97,aP g8 (sE (r,a,a+t)).toArray 163]) (.calm 0 (.calm 1 (.calm 2 (.calm 3 (.calm 4 (.calm 5 (.calm 6 (.calm 7 (.one 8 (.one 9 (.done))))))))))) (bV [0,3]) ?_
 repeat(first|refine GW ?_|(refine GN ?_;first|refine QW (aC (v:=av az ((a+t:Nat):Int)) aK.ty I (aH (i:=1) I I)) ?_|refine QW (aC (v:=str u) aK.ty I (aH (i:=0) I I)) ?_|refine QW (CZ bL.eq I I ht) ?_|refine QW (bB I Nn) ?_|refine QW (aO (i:=1) aK.ty I I I) ?_))
 refine aL I ?_;refine gh 1 (cs':=(gI ((a+t:Nat):Int) (u.drop t) 0).toArray) ?_;refine zL ?_;refine aM (bV [0,3]) ?_
 try refine GW ?_
 refine aL I ?_;refine gh 2 (cs':=(sE (r,a,a+t)).toArray) ?_;refine zL ?_;refine aM (bV [0,3]) ?_
 try refine GW ?_
 try refine GA ?_
 exact aci (i:=1) (j:=2) I I I I I I I λw hm=>hm.ret
end bZ
namespace bZ
open Go.RowKit cU dM cT l_
def HJ(R:List Tok×Nat×List UInt8×Int):Spec Value:=⟨λ_=>True,λv=> .tuple #[aQ (gI (R.2.1:Int) R.2.2.1 R.2.2.2).toArray,v,av az R.2.2.2],λv=>[EU v R.1]⟩
theorem Sm{c:Int}{a:Nat}{u:List UInt8}(hc:c=0)(ha:a<=1099511627776)(hu:u.length<=64):ach c a u 0=0:=by
 unfold ach;rw[if_neg (by simpa using hc),if_neg J,if_neg aiz]
theorem sub_one{l:List UInt8}{i:Nat}(h:i<l.length):(l.drop i).take (i+1-i)=[l[i]]:=by
 rw[Nat.add_sub_cancel_left,eI h];rfl
theorem F4(o:Of)(vn vt:Value)(N:List (List Int))(tags:List Int)(a0:Nat)(u0:List UInt8)(s:List UInt8)(w:World)(h:Vc w vn vt N tags)(hc:zk o N tags=0)(ho:∀b (h:b<256),o[b]<256)(ha0:a0<=1099511627776)(hu0:u0.length<=64)(hs:s.length<=2000):
 Calls aB 62 #[Nu o vn vt,aQ (gI (a0:Int) u0 0).toArray,str s] w (cz (HJ (ic o N tags s a0 u0)) w):=by
 have iS:=λw' (hg:Gr w w')=>sV o vn vt N tags (a0:Int) u0 0 w' (h.gr hg) ho J;rw[Sm hc ha0 hu0]at iS;have Be:=λ(u:List UInt8) (hu:u.length<=65) w' (hg:Gr w w')=>E6 o vn vt N tags u w' (h.gr hg) (AS hc) J;have hcut:=λa u r t w' (ha:a<=9223372036854775) ht hu=>HH a u 0 r t w' ha ht hu;have hbE:=BE;obtain⟨⟨an,cn,rfl,-⟩,at',ct,rfl,-⟩:=h;refine enter (args:=[Nu o (ap an N.length cn) (ap at' tags.length ct),aQ (gI (a0:Int) u0 0).toArray,str s]) (n:=79) Tryz.func62 I I I ?_;refine b9 (bz (bQ I I I λg3=>bQ I I I λg4=>aY I λg6=>?_));refine zL ?_
 repeat(first|refine GA ?_|refine gV (aO (i:=0) aK.ty I I (ko _ _ _)) ?_|refine gV (aO (i:=1) aK.ty I I I) ?_)
 refine aW (fI aI.en I I I) (λw hm=>iS _ hm.below) I I I ?_;intro _ _;refine zL ?_;clear iS
 repeat(first|refine GC ?_|refine gV (dm (b:=aE) I I (decide_eq_false aiz)) ?_|refine gV (dP (b:=aE) I I (decide_eq_false J)) ?_|refine GB ?_)
 refine ja 163 3 ?_
 conv=>arg 7;simp only[zA,zB,zC,zD,zE,zF,zG,zH,zI,cL,ret,id_eq]
 generalize jp:ic o N tags s a0 u0=fin;refine dY (ι:=Nat×Nat×List UInt8×List Tok×Value) (λ(i,a,u,out,_)=>i<=s.length/\u.length<=64/\a+u.length<=1099511627840+i/\out.length<=a/\(out++(ic o N tags (s.drop i) a u).1,(ic o N tags (s.drop i) a u).2)=fin) (λ(i,_,_,_,v)=>[(2,str s),(3,aJ (aj ⟨g3,0,ak⟩)),(4,aJ (aj ⟨g4,0,ak⟩)),(6,aJ (aj ⟨g6,0,ak⟩)),(10,v),(28,av az s.length),(29,av az (i:Int))])
  (λ(_,a,u,out,v)=>[aP g3 (eP o (ap an N.length cn) (ap at' tags.length ct)).toArray 31,aP g4 (gI (a:Int) u 0).toArray 97,aP g6 (gI 0 [] 0).toArray 97,EU v out]) (λ(i,_,_,_,_)=>s.length-i) (0,a0,u0,[],ap ak 0 0) ⟨bH _,hu0,by show a0+u0.length<=_;omega,bH _,by rw[nh,jp];rfl⟩ ?_
 clear jp;rintro⟨i,a1,u1,gj,v1⟩ ⟨i1,i2,i3,i4,i5⟩;dsimp only at i1 i2 i3 i4 i5⊢
 by_cases c1:i<s.length
 ·have kx:=sub_one c1
  rw[eI c1]at i5;generalize s[i]=b at*;have hstep:=UH i5;clear i5
  try refine GA ?_
  refine dK ([]) (.calm 0 (.calm 2 (.calm 3 (.calm 4 (.calm 5 (.calm 6 (.one 1 (.calm 7 (.calm 8 (.one 9 (.done))))))))))) (bV []) ?_
  repeat(first|(refine GN ?_;first|refine QW QP ?_|refine QW (SK (j:=i+1) bL.eq I I I J J) ?_|refine QW (eM (r:=((i+1:Nat):Int)) I I J J J) ?_|refine GX ?_)|refine GW ?_)
  rw[kx];refine aL I (du (aC (v:=str u1) aK.ty I (aH (i:=1) I I)) I I I (aM (bV []) ?_))
  repeat(first|refine GW ?_|(refine GN ?_;first|refine QW (Gg I I (by show u1.length+1<=_;omega)) ?_))
  refine aL I ?_;refine bU (i:=1) I I I I I I ?_;refine zL ?_;refine aM (bV []) ?_
  try refine GW ?_
  try refine GA ?_
  generalize hD:dT o N tags (u1.length+2) a1 (u1++[b])=D at hstep;refine dY (ι:=Nat×Nat×List UInt8×List Tok×Value) (λ(f,a,u,out,_)=>u.length<f/\u.length<=65/\a+u.length<=1099511627840+i+1/\out.length<=a/\(out++(dT o N tags f a u).1,(dT o N tags f a u).2)=(gj++D.1,D.2)) (λ(_,_,_,_,v)=>[(2,str s),(3,aJ (aj ⟨g3,0,ak⟩)),(4,aJ (aj ⟨g4,0,ak⟩)),(6,aJ (aj ⟨g6,0,ak⟩)),(10,v),(28,av az s.length),(29,av az (i:Int))])
   (λ(_,a,u,out,v)=>[aP g3 (eP o (ap an N.length cn) (ap at' tags.length ct)).toArray 31,aP g4 (gI (a:Int) u 0).toArray 97,aP g6 (gI 0 [] 0).toArray 97,EU v out]) (λ(f,_,_,_,_)=>f) (u1.length+2,a1,u1++[b],gj,v1) ⟨by show(u1++[b]).length<_;rw[bK];exact mz _,by show(u1++[b]).length<=65;rw[bK];simp;omega,by show a1+(u1++[b]).length<=_;rw[bK];simp;omega,i4,by rw[hD]⟩ ?_
  clear hD;rintro⟨f,a,u,out,v⟩ ⟨j1,j2,j3,j4,j5⟩;dsimp only at j1 j2 j3 j4 j5⊢;obtain⟨f,rfl⟩:∃f',f=f'+1:=⟨f-1,by omega⟩;rw[sG]at j5;have hto:=zm o N tags u;have Ki:=Be u j2;generalize eu o N tags u=lk at*;obtain⟨⟨r,t⟩,sr⟩:=lk;dsimp only at hto Ki j5
  repeat(first|refine GA ?_|refine gV (aO (i:=0) aK.ty I I (ko _ _ _)) ?_|refine gV (aC (v:=str u) aK.ty I (aH (i:=1) I I)) ?_)
  refine aW (fI aI.en I I I) (λw hm=>Ki _ hm.below) I I I ?_;intro _ _;refine zL ?_
  cases sr with
  | false=>
   rw[if_neg aiz]at j5;have j5:(out++[],a,u,(0:Int))=(gj++D.1,D.2):=j5;rw[eG]at j5;obtain⟨_,k2,k3⟩:=hstep out a u 0 j5;clear hstep j5 Ki
   by_cases c2:64<u.length
   ·have k4:=k2 I c2
    subst k4
    repeat(first|refine GC ?_|refine gV (aC (v:=str u) aK.ty I (aH (i:=1) I I)) ?_|refine gV (dP (b:=aD) I I (decide_eq_true J)) ?_|refine gV (aC (v:=av az (a:Int)) aK.ty I (aH (i:=1) I I)) ?_|refine gV (bB I (hbE _ _)) ?_|refine GB ?_)
    refine gh 2 (cs':=(gI (a:Int) [] 10).toArray) ?_;refine zL ?_
    try refine GA ?_
    exact ff (i:=2) I I I I I I λw hm=>hm.meets (S:=HJ (out,a,[],10)) v trivial [3] aiz I
   have k4:=k3 I c2
   repeat(first|refine GC ?_|refine gV (aC (v:=str u) aK.ty I (aH (i:=1) I I)) ?_|refine gV (dP (b:=aE) I I (decide_eq_false J)) ?_|refine GB ?_)
   exact bW (i+1,a,u,out,v) ⟨by show i+1<=s.length;omega,by show u.length<=64;omega,by show a+u.length<=1099511627840+(i+1);omega,j4,k4⟩ (by show s.length-(i+1)<s.length-i;omega)
  | true=>
   rw[if_pos I]at j5
   by_cases c2:t=0
   ·rw[if_pos c2]at j5
    have j5:(out++[],a,u,(9:Int))=(gj++D.1,D.2):=j5;rw[eG]at j5;have k4:=(hstep out a u 9 j5).1 aiz;clear hstep j5 Ki;subst k4 c2
    repeat(first|refine GC ?_|refine gV (de (b:=aD) I I (decide_eq_true I)) ?_|refine gV (aC (v:=av az (a:Int)) aK.ty I (aH (i:=1) I I)) ?_|refine gV (bB I (hbE _ _)) ?_|refine GB ?_)
    refine gh 2 (cs':=(gI (a:Int) [] 9).toArray) ?_;refine zL ?_
    try refine GA ?_
    exact ff (i:=2) I I I I I I λw hm=>hm.meets (S:=HJ (out,a,[],9)) v trivial [3] aiz I
   rw[if_neg c2]at j5;have ht:=hto.resolve_left c2;have hct:=hcut a u r t;have UY:(u.drop t).length=u.length-t:=iX ..;clear Ki Be hcut
   repeat(first|refine GC ?_|refine gV (de (b:=aE) I I (decide_eq_false J)) ?_|refine GB ?_)
   refine aY I λg15=>?_;refine zL ?_
   repeat(first|refine GA ?_|refine gV (aO (i:=1) aK.ty I I I) ?_)
   refine aW (sZ aI.en I I I I) (λw hm=>hct w J ht.2 J) I I I ?_;intro _ _;refine zL ?_
   try refine GA ?_
   refine gh 1 (cs':=(gI ((a+t:Nat):Int) (u.drop t) 0).toArray) ?_;refine zL ?_
   try refine GA ?_
   refine gh 4 (cs':=(sE (r,a,a+t)).toArray) ?_;refine zL ?_
   repeat(first|refine GA ?_|refine gV (aO (i:=4) aK.ty I I I) ?_)
   refine jk (i:=3) I I I I I I I (λz h=>by cases h;rfl) J J I λz v2=>?_;refine zL ?_
   try refine GA ?_
   refine dh [0,1,2,3] ?_;exact bW (f,a+t,u.drop t,out++[(r,a,a+t)],v2) ⟨by show(u.drop t).length<f;omega,by show(u.drop t).length<=65;omega,by show a+t+(u.drop t).length<=1099511627840+i+1;omega,by show(out++[(r,a,a+t)]).length<=a+t;rw[bK];simp;omega,by rw[eY];exact j5⟩ (by show f<f+1;omega) (hl:=by dsimp only;rw[Hw];rfl)
 ·rw[oL J]at i5
  have i5:(gj++[],a1,u1,0)=fin:=i5;rw[eG]at i5;subst i5
  repeat(first|refine GA ?_|refine gV (aO (i:=1) aK.ty I I I) ?_)
  refine gh 2 (cs':=(gI (a1:Int) u1 0).toArray) ?_;refine zL ?_
  try refine GA ?_
  exact ff (i:=2) I I I I I I λw hm=>hm.meets (S:=HJ (gj,a1,u1,0)) v1 trivial [3] aiz I
end bZ
namespace bZ
open Go.RowKit cU dM aT dL e8 gu jo bI l_ gv
open ij (Ev rv takeN)
def iR(b:Bool)(s:fJ)(vp vq:Value):List Value:=
 if b then [vp,av az s.seen,av az s.ry,.bool s.rD,vq,av az 0,av az 0,.bool aE]else [vq,av az 0,av az 0,.bool aE,vp,av az s.seen,av az s.ry,.bool s.rD]
theorem Qr(b:Bool)(s:fJ)(vp vq:Value):∃a c d e f h i j,iR b s vp vq=[a,c,d,e,f,h,i,j]:=by
 cases b<;>exact⟨_,_,_,_,_,_,_,_,rfl⟩
def rA(s:fJ)(vt:Value)(pc:List Value)(vw:Value):List Value:=
 [av az s.kg,av az s.l4,av az s.ee,str s.kr,.bool s.ended,.bool s.ma,av az s.dz,str s.iI,av az s.kQ,av az s.bad,vt]++(pc++[vw,av az s.cr,av az s.gone,.bool s.over,av az s.fS,av az s.pl])
abbrev qL(g:Nat)(vo:Value)(pk md:List Value)(s:fJ)(vt:Value)(pc:List Value)(vw:Value):b_:=aP g (iY vo pk (md++rA s vt pc vw)).toArray 102
theorem fD{vo:Value}{pk tl:List Value}{j k:Nat}{v:Value}(hp:pk.length=258)(hk:k=j+259)(h:tl[j]?=aj v):(iY vo pk tl).toArray[k]?=aj v:=jc j hp h hk
theorem ye{w:World}{L:List b_}{g k:Nat}{cs:Array Value}{T:TypeId}{v:Value}(h:(aP g cs T).holds w)(hv:cs[k]?=aj v):At w L ⟨g,k,ak⟩ v:=jX (by rw[cell_of_row w g k cs T (0,0) h];exact hv)
def nJ(B:bR)(φ:World->Prop):Prop:=∀(L:List b_) (w:World),Mem B L w->φ w
theorem nJ.on{B:bR}{φ:World->Prop}(h:nJ B φ){Lx:List b_}{w:World}(hm:Mem B Lx w):nJ (bR.on w Lx) φ:=λL' w' h'=>h ([]++L') w' (Mem.back (R:=[]) (by rw[eG];exact hm) h')
theorem zr{α:Type}{l:List α}(h:l.length=7):∃a b c d e f g,l=[a,b,c,d,e,f,g]:=by
 match l,h with
 |[a,b,c,d,e,f,g],_=>exact⟨a,b,c,d,e,f,g,rfl⟩
theorem zt{α:Type}{l:List α}(h:l.length=8):∃a b c d e f g i,l=[a,b,c,d,e,f,g,i]:=by
 match l,h with
 |[a,b,c,d,e,f,g,i],_=>exact⟨a,b,c,d,e,f,g,i,rfl⟩
section
variable{g:Nat}{vo:Value}{pk md:List Value}{vt vw:Value}{pc:List Value}(dS:pk.length=258)(pE:md.length=7)(wI:pc.length=8)
include dS pE wI
set_option maxRecDepth 100000 in
theorem oh(s:fJ)(e:Int)(pl:Nat)(w:World)(B:bR)(hm:Mem B [qL g vo pk md s vt pc vw] w):
 Calls aB 57 #[aJ (aj ⟨g,0,ak⟩),av az e,av az (pl:Int)] w (dc ⟨λ(_:Unit)=>True,λ_=> .tuple #[],λ_=>[qL g vo pk md (kJ s e pl) vt pc vw]⟩ B):=by
 obtain⟨m0,m1,m2,m3,m4,m5,m6,rfl⟩:=zr pE;obtain⟨p0,p1,p2,p3,p4,p5,p6,p7,rfl⟩:=zt wI;refine dA hm (args:=[aJ (aj ⟨g,0,ak⟩),av az e,av az (pl:Int)]) (n:=17) Tryz.func57 I I I ?_
 try refine GA ?_
 refine dW (i:=0) 29 I I I I I I dS I ?_
 try refine GA ?_
 refine dW (i:=0) 30 I I I I I I dS I ?_
 try refine GA ?_
 refine dW (i:=0) 31 I I I I I I dS I ?_
 try refine GA ?_
 exact kY I λw hm=>hm.cB (S:=⟨λ(_:Unit)=>True,λ_=> .tuple #[],λ_=>[qL g vo pk [m0,m1,m2,m3,m4,m5,m6] (kJ s e pl) vt [p0,p1,p2,p3,p4,p5,p6,p7] vw]⟩) () trivial [0] aiz I
set_option maxRecDepth 100000 in
theorem E7(s:fJ)(e:Int)(pl:Nat)(w:World)(B:bR)(hm:Mem B [qL g vo pk md s vt pc vw] w):
 Calls aB 29 #[aJ (aj ⟨g,0,ak⟩),av az e,av az (pl:Int)] w (dc ⟨λ(_:Unit)=>True,λ_=> .tuple #[],λ_=>[qL g vo pk md (v_ s e pl) vt pc (ap ak 0 0),kM (ap ak 0 0) []]⟩ B):=by
 have hst:=λw' B hm=>oh (g:=g) (vo:=vo) (vt:=vt) (vw:=vw) dS pE wI s e pl w' B hm;obtain⟨m0,m1,m2,m3,m4,m5,m6,rfl⟩:=zr pE;obtain⟨p0,p1,p2,p3,p4,p5,p6,p7,rfl⟩:=zt wI;refine dA hm (args:=[aJ (aj ⟨g,0,ak⟩),av az e,av az (pl:Int)]) (n:=14) Tryz.func29 I I I ?_
 try refine GA ?_
 refine bx [0] [] aiz I I (sZ aI.en I I I I) (λw hm hb=>hst w _ hb) I I I ?_;intro _ _;refine zL ?_
 try refine GA ?_
 refine dW (i:=0) 26 I I I I I I dS I ?_
 try refine GA ?_
 refine dF 168 2 ?_;exact kY I λw hm=>hm.cB (S:=⟨λ(_:Unit)=>True,λ_=> .tuple #[],λ_=>[qL g vo pk [m0,m1,m2,m3,m4,m5,m6] (v_ s e pl) vt [p0,p1,p2,p3,p4,p5,p6,p7] (ap ak 0 0),kM (ap ak 0 0) []]⟩) () trivial [0,1] aiz I
set_option maxRecDepth 100000 in
theorem MW(s:fJ)(hs:s.ee<=9223372036854775807)(hi:s.kr.length<=s.ee)(w:World)(h:(qL g vo pk md s vt pc vw).holds w):
 Calls aB 30 #[aJ (aj ⟨g,0,ak⟩)] w (cz (ret (av az (agD s:Int))) w):=by
 obtain⟨m0,m1,m2,m3,m4,m5,m6,rfl⟩:=zr pE;obtain⟨p0,p1,p2,p3,p4,p5,p6,p7,rfl⟩:=zt wI;unfold agD;refine enter (args:=[aJ (aj ⟨g,0,ak⟩)]) (n:=13) Tryz.func30 I I I ?_
 try refine GA ?_
 refine dK ([]) (.calm 0 (.calm 1 (.calm 2 (.calm 3 (.calm 4 (.calm 5 (.calm 6 (.calm 7 (.calm 8 (.calm 9 (.calm 10 (.done)))))))))))) (yt) ?_
 repeat(first|refine GW ?_|(refine GN ?_;first|refine QW (aC aK.ty I (ye h (fD dS I I))) ?_))
 try refine GA ?_
 exact dC I I (congrArg (av .i64) (Int.ofNat_sub hi).symm)
end
end bZ
namespace bZ
open Go.RowKit cU dM aT dL e8 gu jo bI l_ gv
open ij (Ev rv takeN)
abbrev yf(g:Nat)(vo:Value)(pk md:List Value)(s:fJ)(vt:Value)(pc:List Value)(vw:Value):List b_:=[qL g vo pk md s vt pc vw,kM vw s.wait]
def B3(g:Nat)(vo:Value)(pk md:List Value)(R:fJ×Int)(vt:Value)(pc:List Value):Spec Value:=⟨λ_=>True,λ_=>av az R.2,λvw=>yf g vo pk md R.1 vt pc vw⟩
section
variable{g:Nat}{vo:Value}{pk md:List Value}{vt vw:Value}{pc:List Value}(dS:pk.length=258)(pE:md.length=7)(wI:pc.length=8)
include dS pE wI
set_option maxRecDepth 100000 in
theorem JU(s:fJ)(x:List UInt8)(hx:x.length<=9223372036854775807)(hb:0<=s.kg)(Nn:s.kg+s.ee<=4096)(hi:s.kr.length<=s.ee)(w:World)(B:bR)(hm:Mem B (yf g vo pk md s vt pc vw) w):
 Calls aB 9 #[aJ (aj ⟨g,0,ak⟩),str x] w (dc (B3 g vo pk md (l5 s x) vt pc) B):=by
 have hbr:=λ(s:fJ) e pl w' B hm=>E7 (g:=g) (vo:=vo) (vt:=vt) (vw:=vw) dS pE wI s e pl w' B hm;have hhd:=λ(s:fJ) h1 h2 w' h=>MW (g:=g) (vo:=vo) (vt:=vt) (vw:=vw) dS pE wI s h1 h2 w' h;obtain⟨m0,m1,m2,m3,m4,m5,m6,rfl⟩:=zr pE;obtain⟨p0,p1,p2,p3,p4,p5,p6,p7,rfl⟩:=zt wI;obtain⟨kg,l4,ee,kr,ended,ma,dz,iI,kQ,bad,ed,p,seen,ry,rD,wait,cr,gone,over,fS,pl⟩:=s
 try dsimp only at*
 dsimp only[yf,qL,rA,kS,eJ]at hm;unfold l5;dsimp only
 cases over with
 |true=>
  rw[if_pos (.inl I)];refine dA hm (args:=[aJ (aj ⟨g,0,ak⟩),str x]) (n:=60) Tryz.func9 I I I ?_
  repeat(first|refine GA ?_|refine gV (aC aK.ty I (aH (i:=0) I (fD dS I I))) ?_)
  exact cJ I I λw hm=>hm.cB (S:=B3 g vo pk [m0,m1,m2,m3,m4,m5,m6] (⟨kg,l4,ee,kr,ended,ma,dz,iI,kQ,bad,ed,p,seen,ry,rD,wait,cr,gone,aD,fS,pl⟩,15) vt [p0,p1,p2,p3,p4,p5,p6,p7]) vw trivial [0,1] aiz I
 |false=>
 cases ended with
 |true=>
  rw[if_pos (.inr I)];refine dA hm (args:=[aJ (aj ⟨g,0,ak⟩),str x]) (n:=60) Tryz.func9 I I I ?_
  repeat(first|refine GA ?_|refine gV (aC aK.ty I (aH (i:=0) I (fD dS I I))) ?_)
  exact cJ I I λw hm=>hm.cB (S:=B3 g vo pk [m0,m1,m2,m3,m4,m5,m6] (⟨kg,l4,ee,kr,aD,ma,dz,iI,kQ,bad,ed,p,seen,ry,rD,wait,cr,gone,aE,fS,pl⟩,15) vt [p0,p1,p2,p3,p4,p5,p6,p7]) vw trivial [0,1] aiz I
 |false=>
 rw[if_neg aiz]
 by_cases c4:1024<x.length
 ·rw[if_pos c4]
  refine dA hm (args:=[aJ (aj ⟨g,0,ak⟩),str x]) (n:=60) Tryz.func9 I I I ?_
  repeat(first|refine GA ?_|refine gV (aC aK.ty I (aH (i:=0) I (fD dS I I))) ?_)
  exact cJ I I λw hm=>hm.cB (S:=B3 g vo pk [m0,m1,m2,m3,m4,m5,m6] (⟨kg,l4,ee,kr,aE,ma,dz,iI,kQ,bad,ed,p,seen,ry,rD,wait,cr,gone,aE,fS,pl⟩,2) vt [p0,p1,p2,p3,p4,p5,p6,p7]) vw trivial [0,1] aiz I
 rw[if_neg c4]
 by_cases c5:kg<x.length
 ·rw[if_pos c5]
  refine dA hm (args:=[aJ (aj ⟨g,0,ak⟩),str x]) (n:=60) Tryz.func9 I I I ?_
  repeat(first|refine GA ?_|refine gV (aC aK.ty I (aH (i:=0) I (fD dS I I))) ?_)
  refine bx [0] [1] aiz I I (sZ aI.en I I I I) (λw hm hb=>hbr ⟨kg,l4,ee,kr,aE,ma,dz,iI,kQ,bad,ed,p,seen,ry,rD,wait,cr,gone,aE,fS,pl⟩ _ _ w _ hb) I I I ?_;intro _ _;refine zL ?_
  try refine GA ?_
  exact cJ I I λw hm=>hm.cB (S:=B3 g vo pk [m0,m1,m2,m3,m4,m5,m6] (v_ ⟨kg,l4,ee,kr,aE,ma,dz,iI,kQ,bad,ed,p,seen,ry,rD,wait,cr,gone,aE,fS,pl⟩ 16 ee,16) vt [p0,p1,p2,p3,p4,p5,p6,p7]) (ap ak 0 0) trivial [1,2] aiz I
 rw[if_neg c5];refine dA hm (args:=[aJ (aj ⟨g,0,ak⟩),str x]) (n:=60) Tryz.func9 I I I ?_
 repeat(first|refine GA ?_|refine gV (aC aK.ty I (aH (i:=0) I (fD dS I I))) ?_)
 refine dW (i:=0) 7 I I I I I I dS I ?_;refine zL ?_
 repeat(first|refine GA ?_|refine gV (aC aK.ty I (aH (i:=0) I (fD dS I I))) ?_)
 refine dW (i:=0) 9 I I I I I I dS I ?_;refine zL ?_
 repeat(first|refine GA ?_|refine gV (aC aK.ty I (aH (i:=0) I (fD dS I I))) ?_|refine gV (Gg I I J) ?_)
 refine dW (i:=0) 10 I I I I I I dS I ?_
 try refine GA ?_
 exact cJ I I λw hm=>hm.cB (S:=B3 g vo pk [m0,m1,m2,m3,m4,m5,m6] (⟨kg-x.length,l4,ee+x.length,kr++x,aE,ma,dz,iI,kQ,bad,ed,p,seen,ry,rD,wait,cr,gone,aE,fS,pl⟩,0) vt [p0,p1,p2,p3,p4,p5,p6,p7]) vw trivial [0,1] aiz I
set_option maxRecDepth 100000 in
theorem MX(s:fJ)(w:World)(B:bR)(hm:Mem B (yf g vo pk md s vt pc vw) w):
 Calls aB 10 #[aJ (aj ⟨g,0,ak⟩)] w (dc (B3 g vo pk md (ni s) vt pc) B):=by
 obtain⟨m0,m1,m2,m3,m4,m5,m6,rfl⟩:=zr pE;obtain⟨p0,p1,p2,p3,p4,p5,p6,p7,rfl⟩:=zt wI;obtain⟨kg,l4,ee,kr,ended,ma,dz,iI,kQ,bad,ed,p,seen,ry,rD,wait,cr,gone,over,fS,pl⟩:=s
 try dsimp only at*
 dsimp only[yf,qL,rA,kS,eJ]at hm;unfold ni;dsimp only
 cases over with
 |true=>
  rw[if_pos (.inl I)];refine dA hm (args:=[aJ (aj ⟨g,0,ak⟩)]) (n:=16) Tryz.func10 I I I ?_
  repeat(first|refine GA ?_|refine gV (aC aK.ty I (aH (i:=0) I (fD dS I I))) ?_)
  exact cJ I I λw hm=>hm.cB (S:=B3 g vo pk [m0,m1,m2,m3,m4,m5,m6] (⟨kg,l4,ee,kr,ended,ma,dz,iI,kQ,bad,ed,p,seen,ry,rD,wait,cr,gone,aD,fS,pl⟩,15) vt [p0,p1,p2,p3,p4,p5,p6,p7]) vw trivial [0,1] aiz I
 |false=>
 cases ended with
 |true=>
  rw[if_pos (.inr I)];refine dA hm (args:=[aJ (aj ⟨g,0,ak⟩)]) (n:=16) Tryz.func10 I I I ?_
  repeat(first|refine GA ?_|refine gV (aC aK.ty I (aH (i:=0) I (fD dS I I))) ?_)
  exact cJ I I λw hm=>hm.cB (S:=B3 g vo pk [m0,m1,m2,m3,m4,m5,m6] (⟨kg,l4,ee,kr,aD,ma,dz,iI,kQ,bad,ed,p,seen,ry,rD,wait,cr,gone,aE,fS,pl⟩,15) vt [p0,p1,p2,p3,p4,p5,p6,p7]) vw trivial [0,1] aiz I
 |false=>
 rw[if_neg aiz];refine dA hm (args:=[aJ (aj ⟨g,0,ak⟩)]) (n:=16) Tryz.func10 I I I ?_
 repeat(first|refine GA ?_|refine gV (aC aK.ty I (aH (i:=0) I (fD dS I I))) ?_)
 refine dW (i:=0) 11 I I I I I I dS I ?_
 try refine GA ?_
 exact cJ I I λw hm=>hm.cB (S:=B3 g vo pk [m0,m1,m2,m3,m4,m5,m6] (⟨kg,l4,ee,kr,aD,ma,dz,iI,kQ,bad,ed,p,seen,ry,rD,wait,cr,gone,aE,fS,pl⟩,0) vt [p0,p1,p2,p3,p4,p5,p6,p7]) vw trivial [0,1] aiz I
set_option maxRecDepth 100000 in
theorem F5(s:fJ)(hl:s.ed.length<=1000000)(hvt:∃a c,vt=ap a s.ed.length c)(hvw:∃a c,vw=ap a s.wait.length c)(hw:s.wait.length<=1000000)(w:World)(h:(qL g vo pk md s vt pc vw).holds w):
    Calls aB 17 #[aJ (aj ⟨g,0,ak⟩)] w (cz (ret (.bool (jK s))) w):=by
  obtain⟨m0,m1,m2,m3,m4,m5,m6,rfl⟩:=zr pE;obtain⟨p0,p1,p2,p3,p4,p5,p6,p7,rfl⟩:=zt wI;obtain⟨at',ct,rfl⟩:=hvt;obtain⟨aw,cw,rfl⟩:=hvw;obtain⟨kg,l4,ee,kr,ended,ma,dz,iI,kQ,bad,ed,p,seen,ry,rD,wait,cr,gone,over,fS,pl⟩:=s
  try dsimp only at*
  dsimp only[yf,qL,rA,kS,eJ]at h
  cases over with
  | true=>
    refine enter (args:=[aJ (aj ⟨g,0,ak⟩)]) (n:=45) Tryz.func17 I I I ?_
    repeat(first|refine GA ?_|refine gV (aC aK.ty I (ye h (fD dS I I))) ?_)
    exact dC I I I
  |false=>
  by_cases c1:wait.length<200
  · by_cases c2:ed.length=0
    · obtain rfl:=rN c2
      by_cases c3:bad=0
      · subst c3
        cases kr with
        | nil=>
          refine enter (args:=[aJ (aj ⟨g,0,ak⟩)]) (n:=45) Tryz.func17 I I I ?_
          repeat(first|refine GC ?_|refine gV (aC aK.ty I (ye h (fD dS I I))) ?_|refine gV (kA (b:=aE) I I I) ?_|refine GB ?_)
          exact dC I I (by simp[jK,c1])
        | cons c r=>
          refine enter (args:=[aJ (aj ⟨g,0,ak⟩)]) (n:=45) Tryz.func17 I I I ?_
          repeat(first|refine GC ?_|refine gV (aC aK.ty I (ye h (fD dS I I))) ?_|refine gV (kA (b:=aD) I I I) ?_|refine GB ?_)
          exact dC I I (by simp[jK,c1])
      refine enter (args:=[aJ (aj ⟨g,0,ak⟩)]) (n:=45) Tryz.func17 I I I ?_
      repeat(first|refine GA ?_|refine gV (aC aK.ty I (ye h (fD dS I I))) ?_)
      exact dC I I (by simp[jK,c1,c3])
    refine enter (args:=[aJ (aj ⟨g,0,ak⟩)]) (n:=45) Tryz.func17 I I I ?_
    repeat(first|refine GA ?_|refine gV (aC aK.ty I (ye h (fD dS I I))) ?_)
    exact dC I I (by simp[jK,c1,show ed≠[]from λh=>c2 (by rw[h];rfl)])
  · refine enter (args:=[aJ (aj ⟨g,0,ak⟩)]) (n:=45) Tryz.func17 I I I ?_
    repeat(first|refine GA ?_|refine gV (aC aK.ty I (ye h (fD dS I I))) ?_)
    exact dC I I (by simp[jK,c1])
end
end bZ
namespace bZ
open Go.RowKit cU dM
def AZ(Ls:List b_):b_ where
 BH:=ak
 more:=λk=>∃o∈Ls,o.e9 k
 holds:=λw=>eA (λ_=>True) w Ls
 lt:=λw h k hk=>by
  rcases hk with hk|⟨o,ho,hk⟩
  cases hk
  obtain⟨i,hi⟩:=wW ho;exact o.lt w (h.all i o hi).1 k hk
 stay:=λw w' h hs hk=>⟨λi o hi=>⟨o.stay w w' (h.all i o hi).1 hs λk hf=>hk k (.inr ⟨o,kR hi,hf⟩),λ_ _=>trivial⟩,h.apart⟩
theorem MY{Ls:List b_}{k:Nat}(h:(AZ Ls).e9 k):∃o∈Ls,o.e9 k:=by
 rcases h with h|h
 cases h
 exact h
theorem JV{Ls:List b_}{w:World}(h:(AZ Ls).holds w):Mem (bR.on w Ls) Ls w:=
 ⟨⟨rfl,rfl,rfl,bm _,λ_ _ _=>rfl⟩,⟨λi o hi=>⟨(h.all i o hi).1,λk hk=> .inr ⟨o,kR hi,hk⟩⟩,h.apart⟩⟩
theorem eA.bun{p:Nat->Prop}{w:World}{Ls:List b_}(h:eA p w Ls):eA p w [AZ Ls]:=
 eA.one ⟨λi o hi=>⟨(h.all i o hi).1,λ_ _=>trivial⟩,h.apart⟩ λk hk=>by
  obtain⟨o,ho,hk⟩:=MY hk;obtain⟨i,hi⟩:=wW ho;exact(h.all i o hi).2 k hk
theorem eA.Qs{p:Nat->Prop}{w:World}{Ls R:List b_}(h:eA p w (R++Ls)):eA p w (R++[AZ Ls]):=by
 have hR:eA p w R:=⟨λi o hi=>h.all i o (by rw[gJ (dl.1 hi).1];exact hi),λi j o o' sM hi hj=>h.apart i j o o' sM (by rw[gJ (dl.1 hi).1];exact hi) (by rw[gJ (dl.1 hj).1];exact hj)⟩;have hL:∀(j:Nat) (o:b_),Ls[j]?=aj o->(R++Ls)[R.length+j]?=aj o:=λj o hj=>by rw[mP J];simpa using hj
 have hS:eA p w Ls:=⟨λi o hi=>h.all _ o (hL i o hi),λi j o o' sM hi hj=>h.apart _ _ o o' J (hL i o hi) (hL j o' hj)⟩;refine hR.both hS.bun λi j o o' hi hj k hk mT=>?_
 match j,hj with
 |0,hj=>
  simp only[tu,dr]at hj;subst hj;obtain⟨q,hq,hqk⟩:=MY mT;obtain⟨j,hj⟩:=wW hq;exact h.apart i (R.length+j) o q (by have:=(dl.1 hi).1;omega) (by rw[gJ (dl.1 hi).1];exact hi) (hL j q hj) k hk hqk
 |j+1,hj=>simp at hj
theorem Mem.Qs{W:bR}{L R Ls:List b_}{w:World}(h:Mem W L w)(is js:List Nat)(hn:(js++is).Nodup)(hl:Ls=is.filterMap λi=>L[i]?)(hr:R=js.filterMap λi=>L[i]?):Mem W (R++[AZ Ls]) w:=
 ⟨h.low,eA.Qs (h.owns.pick (js++is) hn (by rw[List.filterMap_append,<-hl,<-hr]))⟩
end bZ
namespace bZ
open Go.RowKit cU dM dg fZ gu aT cT jo
structure MkX where
 vo:Value
 vn:Value
 vt:Value
 vp:Value
 vr:Value
 va:Value
 vg:Value
 Ls:List b_
def MkX.cells(x:MkX)(m:Md):List Value:=iY x.vo (eP m.o x.vn x.vt) (fR m.g.aR m.g.bC x.vp m.mode x.vr x.va x.vg)
structure acj(m:Md)(x:MkX):Prop where
 mdr:∀w,(AZ x.Ls).holds w->Ct w (aQ (x.cells m).toArray) m x.vo x.vn x.vt x.vp x.vr x.va x.vg
 one:(x.cells m).toArray.toList.all eQ=aD
def Qt(m:Md):Spec MkX:=⟨acj m,λx=> .tuple #[aQ (x.cells m).toArray,av az 0],λx=>[AZ x.Ls]⟩
def agF(e:Int):Spec Unit:=⟨λ_=>True,λ_=> .tuple #[aQ Fo.toArray,av az e],λ_=>[]⟩
def vm(s:Sp)(r:Int×List Row×List Int):Md:=if(BY s r.1).2=1 then aeH s r.2.1 r.2.2 else aeI s r.2.1 r.2.2
theorem zu(x:MkX)(m:Md):(x.cells m).toArray.size=266:=kp (fH _ _ _) I
theorem cz.to{ι κ:Type}{S:Spec ι}(S':Spec κ){w:World}{e:Ending}{w':World}(hm:cz S w e w')(h:∀x,S.ok x->∃y,S'.ok y/\S.val x=S'.val y/\∀w',mS w.heap.size w' (S.own x)->mS w.heap.size w' (S'.own y)):cz S' w e w':=by
 obtain⟨x,h1,h2,h3,h4⟩:=hm;obtain⟨y,k1,k2,k3⟩:=h x h1;exact⟨y,k1,by rw[h2,k2],h3,k3 w' h4⟩
theorem UL{v:Value}{s:Sp}{r:Int×List Row×List Int}(hx:RZ s r){w:World}(hv:RL (pD w) w v s)(hb:∀r∈s.rules,r.2.length<=8796093021952)(h:(BY s r.1).1≠0):
  Calls aB 5 #[v] w (cz (agF (BY s r.1).1) w):=
 (zi v s r hx w hv hb).mono λe w' hm=>by
  have hS:py s r=uX (BY s r.1).1:=by unfold py;rw[if_pos h]
  rw[hS]at hm;exact hm.to _ λx _=>⟨(),trivial,rfl,λw' h=>h⟩
theorem MZ{v:Value}{s:Sp}{r:Int×List Row×List Int}(hx:RZ s r){w:World}(hv:RL (pD w) w v s)(hb:∀r∈s.rules,r.2.length<=8796093021952)(h:(BY s r.1).1=0):
  Calls aB 5 #[v] w (cz (Qt (vm s r)) w):=
 (zi v s r hx w hv hb).mono λe w' hm=>by
  obtain⟨h1,-,-,h4⟩:=Mz (s:=s) (e:=r.1) (m:=(BY s r.1).2) (by rw[<-h]);obtain⟨hG,abT⟩:=zh hx h1;obtain⟨aix,-⟩:=JK hx h1;have hS:py s r=if(BY s r.1).2=1 then abR s r.2.1 r.2.2 else abS s r.2.1 r.2.2:=by unfold py;rw[if_neg (by rw[h];simp)]
  unfold vm;rcases h4 with⟨_,pE⟩|⟨_,_,_,pE⟩
  ·rw[pE,if_pos I]at hS⊢
   rw[hS]at hm;refine hm.to (Qt _) λx lf=>⟨⟨x.vo,ap (aj ⟨x.gP,0,ak⟩) r.2.1.length r.2.1.length,x.vT,x.vp,ap (aj ⟨x.gR,0,ak⟩) (cX s).bC.toNat (cX s).bC.toNat,ap ak 0 0,ap ak 0 0,x.lex s r.2.1 r.2.2++x.rows (cX s)⟩,⟨λw' hb=>aeJ (x:=x) (i0:=0) (i1:=1) (i2:=2) (i3:=3) (i4:=4) (i5:=5) (i6:=6) (JV hb) J abT hG I I I I I I I,?_⟩,rfl,λw' h=>h.bun⟩;obtain⟨k1,k2,k3⟩:=lf;exact uT k1 (Zp (x:=x) k3 r.2.1) (by simp only[fR,cY,da,k2];rfl)
  rw[pE,if_neg aiz]at hS⊢;rw[hS]at hm;refine hm.to (Qt _) λx lf=>⟨⟨x.vo,ap (aj ⟨x.gP,0,ak⟩) r.2.1.length r.2.1.length,x.vT,x.vp,ap ak 0 0,x.tx.vA,x.tx.vG,x.lex s r.2.1 r.2.2++Uu x.tx (iB (cX s)).1 (iB (cX s)).2.1⟩,⟨λw' hb=>aeK (x:=x) (i0:=0) (i1:=1) (i2:=2) (i3:=3) (i4:=4) (i5:=5) (i6:=6) (i7:=7) (i8:=8) (JV hb) J abT hG I I I I I I I I I,?_⟩,rfl,λw' h=>h.bun⟩;obtain⟨⟨k1,k2,k3⟩,b1,b2⟩:=lf;exact uT k1 (Zp (x:=x) k3 r.2.1) (by simp only[fR,cY,da,k2,b1,b2];rfl)
theorem E8{s:Sp}{r:Int×List Row×List Int}(hx:RZ s r)(h:(BY s r.1).1=0):∃b T N,jq (vm s r) b T N:=by
 obtain⟨h1,-,-,h4⟩:=Mz (s:=s) (e:=r.1) (m:=(BY s r.1).2) (by rw[<-h]);obtain⟨hG,abT⟩:=zh hx h1;obtain⟨b1,b2,b3,b4,b5,b6⟩:=cP hG;unfold vm;rcases h4 with⟨_,pE⟩|⟨_,h5,_,pE⟩
 ·rw[pE,if_pos I]
  exact⟨aD,(cX s).aR.toNat,(cX s).bC.toNat,ab9 hx h1,rfl,by show(cX s).aR=_;omega,by show(cX s).bC=_;omega,λ_=>⟨MD (g:=cX s) hG J J,aeB (g:=cX s) J J⟩,(λh=>by cases h)⟩
 rw[pE,if_neg aiz];obtain⟨T,N,Nx,S,hM⟩:=Hy h5;have hL:rp (cX s) T N (iB (cX s)).1 (iB (cX s)).2.1:=by rw[hM.dD,hM.gos];exact hM.oQ
 exact⟨aE,T,N,ab_ hx h1 h5,rfl,hL.aR,hL.bC,(λh=>by cases h),λ_=>hL⟩
end bZ
namespace bZ
open Go.RowKit cU dM aT dL e8 gu jo bI l_ gv
open ij (Ev rv takeN F3 JN nX ya HC)
theorem mS.ack{B:Nat}{w:World}(e e':TypeId)(c c':Nat)(h:mS B w []):mS B w [a_ e c (ap ak 0 0) 0 [],a_ e' c' (ap ak 0 0) 0 []]:=by
 refine⟨λi o hi=>?_,λi j o o' sM hi hj k hk=>?_⟩
 ·match i,hi with
  |0,hi=>cases hi;exact⟨⟨by simp,.inl ⟨rfl,rfl⟩⟩,λk hk=>hk.elim (λh=>by cases h) nK⟩
  |1,hi=>cases hi;exact⟨⟨by simp,.inl ⟨rfl,rfl⟩⟩,λk hk=>hk.elim (λh=>by cases h) nK⟩
  |i+2,hi=>cases hi
 match i,hi with
 |0,hi=>cases hi;exact absurd hk λhk=>hk.elim (λh=>by cases h) nK
 |1,hi=>cases hi;exact absurd hk λhk=>hk.elim (λh=>by cases h) nK
 |i+2,hi=>cases hi
theorem HK{l:List aT.Prod}{nx:Int->Int}{st:List TD}{seen:Nat}{t:Int}(h:(jR l nx st seen t).1≠0):(jR l nx st seen t).2=([],[]):=by
 rcases xK (l:=l) (nx:=nx) (st:=st) (seen:=seen) (t:=t) rfl with⟨h1,h2⟩|⟨x,r,o,a1,h1,h2,h3,h4,h5,h6⟩
 exact h2;exact absurd (congrArg Prod.fst h6) h
theorem ZX{l:List aT.Prod}{nx:Int->Int}{st:List TD}(h:(jm l nx st).1≠0):(jm l nx st).2=[]:=by
 rcases GS (l:=l) (nx:=nx) (st:=st) rfl with⟨h1,h2⟩|⟨a1,h1,h2⟩
 exact h2;exact absurd h2 h
theorem we{l:List aT.Prod}{act:Nat->Nat->bI.Act}{gt:Nat->Int->Int}{col a:Nat}:∀(f:Nat) (σ:List Nat) (o:List dv),(fY l act gt col a f σ o).1≠0->(fY l act gt col a f σ o).2=([],[])
 |0,σ,o,_=>by unfold fY;rfl
 | f + 1,σ,o,h=>by
  unfold fY at h⊢;split at h
  ·rename_i c;rw[if_pos c]
  rename_i c;rw[if_neg c]
  split at h;exact absurd I h
  rename_i c2;rw[if_neg c2]
  split at h
  ·rename_i c3;rw[if_pos c3]
   split at h
   ·rename_i c4;rw[if_pos c4]
   exact absurd I h
  rename_i c3;rw[if_neg c3]
  split at h
  ·rename_i c4;rw[if_pos c4]
   cases hr:B2 l gt σ (act (σ.headD 0) col).2 with
   |none=>rfl
   | some σ'=>
    rw[hr]at h;dsimp only at h⊢;split at h
    ·rename_i c5;rw[if_pos c5]
    rename_i c5;rw[if_neg c5];exact we f _ _ h
  rename_i c4;rw[if_neg c4]
def tkA(b:Bool)(seen:Nat)(e:Int)(p:PS)(o:List dv):Spec (Value×Value):=
 ⟨λ_=>True,λx=> .tuple #[sO x.1 ((if e=0 then seen+1 else seen:Nat):Int) e aE,x.2,av az e],λx=>[pO b x.1 p,kM x.2 o]⟩
def enA(seen:Int)(e:Int)(o:List dv):Spec Value:=
 ⟨λ_=>True,λx=> .tuple #[sO (ap ak 0 0) seen e (decide (e=0)),x,av az e],λx=>[kM x o]⟩
theorem Qu(v vr vt:Value)(g:d_)(ll:List (List Int))(T N:Nat)(p:PS)(seen t:Nat)(w:World)(h:jZ (λk=>k<w.heap.size) w v g)(hr:zj w vr ll)(ht:TdR w vt p.1)(h0:EL g ll=0)(hg:aT.bX g=0)(hT:EQ g ll T N)(hs:∀d∈p.1,qx g d)(hl:p.1.length<=60)(h1:seen<=1000000)(h2:t<T):
 Calls aB 91 #[v,vr,sO vt (seen:Int) 0 aE,av az (t:Int)] w (cz (tkA aD seen (jR g.aF (iC ll t) p.1 seen (t:Int)).1 ((jR g.aF (iC ll t) p.1 seen (t:Int)).2.1,p.2) (jR g.aF (iC ll t) p.1 seen (t:Int)).2.2) w):=by
 have hc:=B1 v vr vt g ll T N p.1 seen t w h hr ht h0 hg hT hs hl h1 h2;have hb:=HK (l:=g.aF) (nx:=iC ll t) (st:=p.1) (seen:=seen) (t:=(t:Int));generalize jR g.aF (iC ll t) p.1 seen (t:Int)=R at*;obtain⟨e,st,o⟩:=R;dsimp only at hb⊢
 by_cases c:e=0
 ·subst c;rw[ZI]at hc;exact hc
 ·rw[UB _ c]at hc
  have hb:=hb c;simp only[hJ]at hb;obtain⟨rfl,rfl⟩:=hb;exact hc.mono λe' w' hm=>hm.to (tkA aD seen e ([],p.2) []) λx _=>⟨(ap ak 0 0,ap ak 0 0),trivial,by simp only[tkA,if_neg c],λw' ho=>mS.ack _ _ _ _ ho⟩
theorem UM(v vr vt:Value)(g:d_)(ll:List (List Int))(T N:Nat)(st:List TD)(seen:Nat)(w:World)(h:jZ (λk=>k<w.heap.size) w v g)(hr:zj w vr ll)(ht:TdR w vt st)(h0:EL g ll=0)(hg:aT.bX g=0)(hT:EQ g ll T N)(hs:∀d∈st,qx g d)(hl:st.length<=60)(h1:seen<=1000000):
 Calls aB 97 #[v,vr,sO vt (seen:Int) 0 aE] w (cz (enA (seen:Int) (jm g.aF (iC ll T) st).1 (jm g.aF (iC ll T) st).2) w):=by
 have hc:=ER v vr vt g ll T N st seen w h hr ht h0 hg hT hs hl h1;have hb:=ZX (l:=g.aF) (nx:=iC ll T) (st:=st);generalize jm g.aF (iC ll T) st=R at*;obtain⟨e,o⟩:=R;dsimp only at hb⊢
 by_cases c:e=0
 ·subst c;rw[ab6]at hc;exact hc
 ·rw[ZJ _ c]at hc
  obtain rfl:=hb c;exact hc.mono λe' w' hm=>hm.to (enA (seen:Int) e []) λx _=>⟨ap ak 0 0,trivial,by simp only[enA,decide_eq_false c],λw' ho=>(mS.ack 168 168 2 2 ho).pick [0] (by simp) I⟩
theorem acm(v t vs:Value)(g:d_)(T N:Nat)(A:List (List bI.Act))(G:List (List Int))(p:PS)(seen col:Nat)(w:World)(hG:jZ (λk=>k<w.heap.size) w v g)(ht:AR w t A G)(hs:skR w vs p.2)(hT:rp g T N A G)(hq:∀q∈p.2,q<A.length)(hne:p.2≠[])(hl:p.2.length<=60)(hc:col<T)(hsn:seen<=1000000):
 Calls aB 92 #[v,t,u_ vs (seen:Int) 0 aE,av az (col:Int)] w (cz (tkA aE seen (fY g.aF (iH A) (eU G) col seen 2001 p.2 []).1 (p.1,(fY g.aF (iH A) (eU G) col seen 2001 p.2 []).2.1) (fY g.aF (iH A) (eU G) col seen 2001 p.2 []).2.2) w):=by
 have hc:=JS v t vs g T N A G p.2 seen col w hG ht hs hT hq hne hl hc hsn;have hb:=we (l:=g.aF) (act:=iH A) (gt:=eU G) (col:=col) (a:=seen) 2001 p.2 [];generalize fY g.aF (iH A) (eU G) col seen 2001 p.2 []=R at*;obtain⟨e,st,o⟩:=R;dsimp only at hb⊢
 by_cases c:e=0
 ·subst c;rw[HD]at hc;exact hc
 ·rw[HE c]at hc
  have hb:=hb c;simp only[hJ]at hb;obtain⟨rfl,rfl⟩:=hb;exact hc.mono λe' w' hm=>hm.to (tkA aE seen e (p.1,[]) []) λx _=>⟨(ap ak 0 0,ap ak 0 0),trivial,by simp only[tkA,if_neg c];rfl,λw' ho=>mS.ack _ _ _ _ ho⟩
theorem aeR(v t vs:Value)(g:d_)(T N:Nat)(A:List (List bI.Act))(G:List (List Int))(rC:List Nat)(seen:Nat)(w:World)(hG:jZ (λk=>k<w.heap.size) w v g)(ht:AR w t A G)(hs:skR w vs rC)(hT:rp g T N A G)(hq:∀q∈rC,q<A.length)(hne:rC≠[])(hl:rC.length<=60)(hsn:seen<=1000000):
 Calls aB 98 #[v,t,u_ vs (seen:Int) 0 aE] w (cz (enA (seen:Int) (fY g.aF (iH A) (eU G) T seen 2001 rC []).1 (fY g.aF (iH A) (eU G) T seen 2001 rC []).2.2) w):=by
 have hc:=MQ v t vs g T N A G rC seen w hG ht hs hT hq hne hl hsn;have hb:=we (l:=g.aF) (act:=iH A) (gt:=eU G) (col:=T) (a:=seen) 2001 rC [];generalize fY g.aF (iH A) (eU G) T seen 2001 rC []=R at*;obtain⟨e,st,o⟩:=R;dsimp only at hb⊢
 by_cases c:e=0
 ·subst c;rw[MO]at hc;exact hc
 ·rw[MP c]at hc
  have hb:=hb c;simp only[hJ]at hb;obtain⟨rfl,rfl⟩:=hb;exact hc.mono λe' w' hm=>hm.to (enA (seen:Int) e []) λx _=>⟨ap ak 0 0,trivial,by simp only[enA,decide_eq_false c];rfl,λw' ho=>(mS.ack 168 168 2 2 ho).pick [0] (by simp) I⟩
end bZ
namespace bZ
open Go.RowKit cU dM aT dL e8 gu jo bI l_ gv
open ij (Ev rv takeN F3 JN nX ya HC)
theorem wg{v:Value}{a b:Int}(h:v.oneCell'=aD):([v,av az a,av az b]:List Value).all eQ=true:=by
 simp only[cY,da,h];rfl
theorem Sn{w:World}{e:TypeId}{c n:Nat}{v:Value}{xs:List Value}(h:(a_ e c v n xs).holds w):∃a k,v=ap a n k:=by
 rcases h.2 with⟨rfl,rfl⟩|⟨g,cap,jM,rfl,_⟩
 exact⟨_,_,rfl⟩;exact⟨_,_,rfl⟩
theorem Sq{w:World}{v:Value}{l:List Ev}(h:(kM v l).holds w):Sl w v l.length (l.flatMap ta):=Sl.dy h
theorem aeS{a l:List Ev}{c g:Int}(h0:ij.bX a c g=0)(h1:l.any rv=aE)(h2:a.length+l.length<=4200):F3 a c g l=0:=by
 unfold F3;rw[if_neg (by rw[h0];simp),if_neg (by rw[h1];decide),if_neg J]
section
variable{g:Nat}{vo:Value}{pk md:List Value}{vt vw:Value}{pc:List Value}(dS:pk.length=258)(pE:md.length=7)(wI:pc.length=8)
include dS pE wI
set_option maxRecDepth 100000 in
theorem om(s:fJ)(vl:Value)(l:List Ev)(hg:ij.bX s.wait s.cr s.gone=0)(hl:l.any rv=aE)(hn:s.wait.length+l.length<=4200)(w:World)(B:bR)(hm:Mem B [qL g vo pk md s vt pc vw,kM vw s.wait,kM vl l] w):
 Calls aB 93 #[aJ (aj ⟨g,0,ak⟩),vl] w (dc ⟨λ_=>True,λ_=> .tuple #[],λJu=>yf g vo pk md {s with wait:=s.wait++l} vt pc Ju⟩ B):=by
 have L2:=λw' (h1:(kM vw s.wait).holds w') (h2:(kM vl l).holds w')=>Qp vw s.wait s.cr s.gone vl l w' (Sq h1) J (Sq h2);have hp:=aeS hg hl hn;have U5:JN s.wait s.cr s.gone l=s.wait++l:=by unfold JN;rw[if_pos hp]
 rw[hp,U5]at L2;obtain⟨m0,m1,m2,m3,m4,m5,m6,rfl⟩:=zr pE;obtain⟨p0,p1,p2,p3,p4,p5,p6,p7,rfl⟩:=zt wI;refine dA hm (args:=[aJ (aj ⟨g,0,ak⟩),vl]) (n:=16) Tryz.func93 I I I ?_
 repeat(first|refine GA ?_|refine gV (a8 (cs:=[vw,av az s.cr,av az s.gone]) aK.ty I I (λj v h=>aH (i:=0) I (lc 26 dS I h J))) ?_)
 refine aW (fI aI.en I I I) (λw' hm=>L2 w' (hm.get (i:=1) I) (hm.get (i:=2) I)) I I I ?_;intro v1 _
 conv=>arg 8;simp only[zJ,cL,ret,id_eq,Qo,cL]
 conv=>arg 7;simp only[Qo,cL,zq]
 try refine GA ?_
 refine aU (i:=3) I λ_ kK=>iv (i:=0) 26 (cs:=[v1,av az s.cr,av az s.gone]) I I I (wg kK) I I dS I I ?_;refine zL ?_
 try refine GA ?_
 exact kY I λw hm=>hm.cB (S:=⟨λ_=>True,λ_=> .tuple #[],λJu=>yf g vo pk [m0,m1,m2,m3,m4,m5,m6] {s with wait:=s.wait++l} vt [p0,p1,p2,p3,p4,p5,p6,p7] Ju⟩) v1 trivial [0,3] aiz rfl
set_option maxRecDepth 100000 in
theorem F6(s:fJ)(n:Int)(hg:ij.bX s.wait s.cr s.gone=0)(w:World)(B:bR)(hm:Mem B (yf g vo pk md s vt pc vw) w):
 Calls aB 12 #[aJ (aj ⟨g,0,ak⟩),av az n] w (dc (B3 g vo pk md (lU s n) vt pc) B):=by
 obtain⟨k1,k2,k3,k4,k5,-⟩:=ij.cP hg;have P6:=λw' (h1:(kM vw s.wait).holds w')=>JT vw s.wait s.cr s.gone n w' (Sq h1) J;obtain⟨m0,m1,m2,m3,m4,m5,m6,rfl⟩:=zr pE;obtain⟨p0,p1,p2,p3,p4,p5,p6,p7,rfl⟩:=zt wI;obtain⟨aw,cw,rfl⟩:=Sn (hm.get (i:=1) rfl);unfold lU
 by_cases c1:s.over=aD/\s.wait=[]
 ·rw[if_pos c1]
  obtain⟨c1,c2⟩:=c1;have c3:s.wait.length=0:=by rw[c2];rfl
  refine dA hm (args:=[aJ (aj ⟨g,0,ak⟩),av az n]) (n:=31) Tryz.func12 I I I ?_
  repeat(first|refine GA ?_|refine gV (aC (v:= .bool aD) aK.ty I (aH (i:=0) I (fD dS I (by rw[<-c1];rfl)))) ?_|refine gV (aC aK.ty I (aH (i:=0) I (fD dS I I))) ?_)
  exact cJ I I λw hm=>hm.cB (S:=B3 g vo pk [m0,m1,m2,m3,m4,m5,m6] (s,15) vt [p0,p1,p2,p3,p4,p5,p6,p7]) _ trivial [0,1] aiz I
 rw[if_neg c1];have ac9:∀(S:Spec Value) (e c':Int),(∀v,S.ok v)->(∀v,S.val v=av az e)->(∀v,S.own v=yf g vo pk [m0,m1,m2,m3,m4,m5,m6] {s with cr:=c'} vt [p0,p1,p2,p3,p4,p5,p6,p7] v)->ya s.wait s.cr s.gone n=c'->nX s.wait s.cr s.gone n=e->Calls aB 12 #[aJ (aj ⟨g,0,ak⟩),av az n] w (dc S B):=by
  intro S e c' s1 s2 s3 e1 e2;rw[e1,e2]at P6;have jp:∀v1 L w,L[0]?=aj (qL g vo pk [m0,m1,m2,m3,m4,m5,m6] {s with cr:=c'} vt [p0,p1,p2,p3,p4,p5,p6,p7] v1)->L[2]?=aj (kM v1 s.wait)->Mem B L w->dc S B (.returned (av az e)) w:=λv1 L w h0 h2 hm=>by
   rw[<-s2 v1];exact hm.cB v1 (s1 _) [0,2] aiz (by rw[s3];simp only[List.filterMap_cons,List.filterMap_nil,h0,h2])
  rcases(Bool.eq_false_or_eq_true s.over)with c2|c2
  ·have c3:¬s.wait.length=0:=λh=>c1 ⟨c2,rN h⟩
   refine dA hm (args:=[aJ (aj ⟨g,0,ak⟩),av az n]) (n:=31) Tryz.func12 I I I ?_
   repeat(first|refine GA ?_|refine gV (aC (v:= .bool aD) aK.ty I (aH (i:=0) I (fD dS I (by rw[<-c2];rfl)))) ?_|refine gV (aC aK.ty I (aH (i:=0) I (fD dS I I))) ?_|refine gV (a8 (cs:=[_,av az s.cr,av az s.gone]) aK.ty I I (λj v h=>aH (i:=0) I (lc 26 dS I h J))) ?_)
   refine aW (fI aI.en I I I) (λw' hm=>P6 w' (hm.get (i:=1) I)) I I I ?_;intro v1 _
   conv=>arg 8;simp only[zJ,cL,ret,id_eq,Qo,cL]
   conv=>arg 7;simp only[Qo,cL,zq]
   try refine GA ?_
   refine aU (i:=2) I λ_ kK=>iv (i:=0) 26 (cs:=[v1,av az c',av az s.gone]) I I I (wg kK) I I dS I I ?_;refine zL ?_
   try refine GA ?_
   exact cJ I I λw hm=>jp v1 _ w I I hm
  refine dA hm (args:=[aJ (aj ⟨g,0,ak⟩),av az n]) (n:=31) Tryz.func12 I I I ?_
  repeat(first|refine GA ?_|refine gV (aC (v:= .bool aE) aK.ty I (aH (i:=0) I (fD dS I (by rw[<-c2];rfl)))) ?_|refine gV (aC aK.ty I (aH (i:=0) I (fD dS I I))) ?_|refine gV (a8 (cs:=[_,av az s.cr,av az s.gone]) aK.ty I I (λj v h=>aH (i:=0) I (lc 26 dS I h J))) ?_)
  refine aW (fI aI.en I I I) (λw' hm=>P6 w' (hm.get (i:=1) I)) I I I ?_;intro v1 _
  conv=>arg 8;simp only[zJ,cL,ret,id_eq,Qo,cL]
  conv=>arg 7;simp only[Qo,cL,zq]
  try refine GA ?_
  refine aU (i:=2) I λ_ kK=>iv (i:=0) 26 (cs:=[v1,av az c',av az s.gone]) I I I (wg kK) I I dS I I ?_;refine zL ?_
  try refine GA ?_
  exact cJ I I λw hm=>jp v1 _ w I I hm
 by_cases c2:n<1\/1073741824<n
 ·rw[if_pos c2]
  have e1:nX s.wait s.cr s.gone n=1:=by
   unfold nX;rw[if_neg (by rw[hg];simp)]
   by_cases c3:n<1
   rw[if_pos c3];rw[if_neg c3,if_pos J]
  exact ac9 _ 1 s.cr (λ_=>trivial) (λ_=>rfl) (λ_=>rfl) (by unfold ya;rw[if_neg (by rw[e1];decide)]) e1
 ·rw[if_neg c2]
  have e1:nX s.wait s.cr s.gone n=0:=by
   unfold nX;rw[if_neg (by rw[hg];simp),if_neg J,if_neg J]
  exact ac9 _ 0 _ (λ_=>trivial) (λ_=>rfl) (λ_=>rfl) (by unfold ya;rw[if_pos e1]) e1
set_option maxRecDepth 100000 in
theorem JW(s:fJ)(n:Int)(hg:ij.bX s.wait s.cr s.gone=0)(w:World)(B:bR)(hm:Mem B (yf g vo pk md s vt pc vw) w):
 Calls aB 15 #[aJ (aj ⟨g,0,ak⟩),av az n] w (dc ⟨λ(_:Value×Value)=>True,λx=>x.2,λx=>yf g vo pk md (iE s n).1 vt pc x.1++[kM x.2 (iE s n).2]⟩ B):=by
 obtain⟨k1,k2,k3,k4,k5,-⟩:=ij.cP hg;have qD:=λw' (h1:(kM vw s.wait).holds w')=>MU vw s.wait s.cr s.gone n w' (Sq h1) J;have yo:∀w',(kM vw s.wait).holds w'->Calls aB 33 #[zq vw s.cr s.gone,av az n] w' (cz ⟨λ_=>True,λ(x:Value×Value)=> .tuple #[zq x.1 (iE s n).1.cr (iE s n).1.gone,x.2,av az (if n<0 then 1 else 0)],λx=>[kM x.1 (iE s n).1.wait,kM x.2 (iE s n).2]⟩ w'):=by
  intro w' h1;have h:=qD w' h1;unfold taS HC at h;simp only[hg,ne_eq,not_true_eq_false,if_false]at h;unfold iE
  by_cases c:n<0
  ·simp only[if_pos c]at h⊢
   exact h
  simp only[if_neg c]at h⊢;have hN:takeN s.wait s.cr n<=s.wait.length:=by unfold takeN;omega
  have e1:(s.wait.drop (takeN s.wait s.cr n)).length=s.wait.length-takeN s.wait s.cr n:=by simp
  have e2:(s.wait.take (takeN s.wait s.cr n)).length=takeN s.wait s.cr n:=by simp;omega
  unfold kM;rw[e1,e2];exact h
 have WE:(iE s n).1={s with wait:=(iE s n).1.wait,cr:=(iE s n).1.cr,gone:=(iE s n).1.gone}:=by
  unfold iE;split<;>rfl
 rw[WE];clear qD;generalize (iE s n).1.wait=W at*;generalize (iE s n).1.cr=C at*;generalize (iE s n).1.gone=G at*;generalize (iE s n).2=O at*;generalize (if n<0 then(1:Int)else 0)=E at*;obtain⟨m0,m1,m2,m3,m4,m5,m6,rfl⟩:=zr pE;obtain⟨p0,p1,p2,p3,p4,p5,p6,p7,rfl⟩:=zt wI;refine dA hm (args:=[aJ (aj ⟨g,0,ak⟩),av az n]) (n:=19) Tryz.func15 I I I ?_
 repeat(first|refine GA ?_|refine gV (a8 (cs:=[vw,av az s.cr,av az s.gone]) aK.ty I I (λj v h=>aH (i:=0) I (lc 26 dS I h J))) ?_)
 refine aW (fI aI.en I I I) (λw' hm=>yo w' (hm.get (i:=1) I)) I I I ?_;rintro⟨v1,v2⟩ _;refine zL ?_
 conv=>arg 7;simp only[zq]
 try refine GA ?_
 refine aU (i:=2) I λ_ kK=>iv (i:=0) 26 (cs:=[v1,av az C,av az G]) I I I (wg kK) I I dS I I ?_;refine zL ?_
 try refine GA ?_
 exact cJ I I λw hm=>hm.cB (S:=⟨λ_=>True,λ(x:Value×Value)=>x.2,λx=>yf g vo pk [m0,m1,m2,m3,m4,m5,m6] {s with wait:=W,cr:=C,gone:=G} vt [p0,p1,p2,p3,p4,p5,p6,p7] x.1++[kM x.2 O]⟩) (v1,v2) trivial [0,2,3] aiz rfl
end
set_option maxRecDepth 100000 in
theorem F7(x:Value)(m:Md){vo vn vt vp vr va vg ut up uq uw:Value}(T N:Nat)(hk:jq m aD T N)(g:Nat)(s:fJ)(hp:Sh m aD s.p)(FO:s.ry=0)(Oj:s.rD=aE)(t:Nat)(ha:s.seen<=1000000)(ht:t<T)(hg:ij.bX s.wait s.cr s.gone=0)(hw:s.wait.length<=2199)(w:World)(B:bR)(hR:nJ B λw=>Ct w x m vo vn vt vp vr va vg)
 (hm:Mem B [qL g vo (eP m.o vn vt) (fR m.g.aR m.g.bC vp m.mode vr va vg) s ut (iR aD s up uq) uw,pO aD up s.p,kM uw s.wait] w):
 Calls aB 61 #[aJ (aj ⟨g,0,ak⟩),av az (t:Int)] w (dc ⟨λ(_:Value×Value)=>True,λ_=>av az (rz m aD s (t:Int)).2,λx=>[pO aD x.1 (rz m aD s (t:Int)).1.p,qL g vo (eP m.o vn vt) (fR m.g.aR m.g.bC vp m.mode vr va vg) (rz m aD s (t:Int)).1 ut (iR aD (rz m aD s (t:Int)).1 x.1 uq) x.2,kM x.2 (rz m aD s (t:Int)).1.wait]⟩ B):=by
 have dS:(eP m.o vn vt).length=258:=fH _ _ _;have Qv:=JQ hk hp (a:=s.seen) ha (t:=(t:Int)) J;have wE:(kq m aD s.p s.seen (t:Int)).2.2.length<=2001:=by
  by_cases c:(kq m aD s.p s.seen (t:Int)).1=0
  exact(v8 hk hp J c).2;rw[show(kq m aD s.p s.seen (t:Int)).2.2=[]from congrArg Ew (HK c)];exact bH _
 obtain⟨p1,p2⟩:=hp;obtain⟨h1,h2⟩:=hk.ll rfl;have pE:m.mode=1:=hk.md;have hc:=λw' (hm:Mem B [qL g vo (eP m.o vn vt) (fR m.g.aR m.g.bC vp m.mode vr va vg) s ut (iR aD s up uq) uw,pO aD up s.p,kM uw s.wait] w')=>Qu _ vr up m.g m.rows T N s.p s.seen t w' (hR _ w' hm).AT (hR _ w' hm).rows (Sl.dy (hm.get (i:=1) I)) h1 hk.AT h2 p1 p2 ha ht;have hwt:=λ(s':fJ) ZY vl l h1 h2 h3 h4 w' B hm=>om (g:=g) (vo:=vo) (vt:=ut) (vw:=uw) (pc:=ZY) dS (show(fR m.g.aR m.g.bC vp m.mode vr va vg).length=7 from I) h4 s' vl l h1 h2 h3 w' B hm;unfold rz;rw[show kq m aD s.p s.seen (t:Int)=((jR m.g.aF (iC m.rows t) s.p.1 s.seen (t:Int)).1,((jR m.g.aF (iC m.rows t) s.p.1 s.seen (t:Int)).2.1,s.p.2),(jR m.g.aF (iC m.rows t) s.p.1 s.seen (t:Int)).2.2)from I]at Qv wE⊢;generalize jR m.g.aF (iC m.rows t) s.p.1 s.seen (t:Int)=R at*;obtain⟨e,st,o⟩:=R;generalize eP m.o vn vt=PK at*;generalize m.g.aR=gt at*;generalize m.g.bC=gn at*;generalize m.mode=md at*;clear hR hk;dsimp only at Qv wE⊢;obtain⟨kg,l4,ee,kr,ended,ma,dz,iI,kQ,bad,ed,p,seen,ry,rD,wait,cr,gone,over,fS,pl⟩:=s;dsimp only at*;subst FO Oj;refine dA hm (args:=[aJ (aj ⟨g,0,ak⟩),av az (t:Int)]) (n:=62) Tryz.func61 I I I ?_
 repeat(first|refine GA ?_|refine gV (aC (v:=av az md) aK.ty I (aH (i:=0) I (fD dS I I))) ?_)
 refine dK ([wM g (iY vo PK (fR gt gn vp md vr va vg)) 102]) (.calm 0 (.calm 1 (.calm 2 (.calm 3 (.calm 4 (.calm 5 (.calm 6 (.calm 7 (.calm 8 (.calm 9 (.calm 10 (.calm 11 (.calm 12 (.calm 13 (.calm 15 (.one 14 (.one 16 (.calm 17 (.calm 18 (.calm 19 (.calm 20 (.calm 21 (.calm 22 (.one 23 (.calm 24 (.calm 25 (.done))))))))))))))))))))))))))) (ea (i:=0) I (gB _ _ _ _)) ?_
 repeat(first|refine GW ?_|(refine GN ?_;first|refine QW (a8 (cs:=[av az gt,av az gn,vp]) aK.ty I I (λj v h=>mE (i:=0) I (lc 0 dS I h J))) ?_|refine QW (aC (v:=vr) aK.ty I (mE (i:=0) I (jc 4 dS I I))) ?_))
 refine aL I (du (a8 (cs:=[up,av az seen,av az 0,.bool aE]) aK.ty I I (λj v h=>aH (i:=0) I (lc 18 dS I h J))) I I I (aM (ea (i:=0) I (gB _ _ _ _)) ?_))
 try refine GW ?_
 refine aL I (aW (SO aI.en I I I I I) (λw hm=>hc w hm) I I I ?_);rintro⟨v1,v2⟩ _
 conv=>arg 8;simp only[zJ,cL,ret,id_eq,tkA]
 conv=>arg 7;simp only[tkA,sO]
 refine aM (ea (i:=0) I (gB _ _ _ _)) ?_
 try refine GW ?_
 refine aL I (aU (i:=3) I λ_ kK=>iv (i:=0) 18 (cs:=[v1,av az ((if e=0 then seen+1 else seen:Nat):Int),av az e,.bool aE]) (tl':=fR gt gn vp md vr va vg++rA ⟨kg,l4,ee,kr,ended,ma,dz,iI,kQ,bad,ed,(st,p.2),if e=0 then seen+1 else seen,e,aE,wait,cr,gone,over,fS,pl⟩ ut (iR aD ⟨kg,l4,ee,kr,ended,ma,dz,iI,kQ,bad,ed,(st,p.2),if e=0 then seen+1 else seen,e,aE,wait,cr,gone,over,fS,pl⟩ v1 uq) uw) I I I (CB kK) I I dS I I ?_);refine zL ?_;refine aM (ea (i:=0) I (gB _ _ _ _)) ?_
 try refine GW ?_
 try refine GA ?_
 refine bx [0,2,4] [3] aiz I I (fI aI.en I I I) (λw hm hb=>hwt ⟨kg,l4,ee,kr,ended,ma,dz,iI,kQ,bad,ed,(st,p.2),if e=0 then seen+1 else seen,e,aE,wait,cr,gone,over,fS,pl⟩ (iR aD ⟨kg,l4,ee,kr,ended,ma,dz,iI,kQ,bad,ed,(st,p.2),if e=0 then seen+1 else seen,e,aE,wait,cr,gone,over,fS,pl⟩ v1 uq) v2 o hg (sD.2 λy hy=>by rw[Qv y hy];decide) (by show wait.length+o.length<=4200;omega) I w _ hb) I I I ?_;intro Ju _;refine zL ?_
 try refine GA ?_
 exact cJ I I λw hm=>hm.cB (S:=⟨λ_=>True,λ_=>av az e,λ(x:Value×Value)=>[pO aD x.1 (st,p.2),qL g vo PK (fR gt gn vp md vr va vg) ⟨kg,l4,ee,kr,ended,ma,dz,iI,kQ,bad,ed,(st,p.2),if e=0 then seen+1 else seen,e,aE,wait++o,cr,gone,over,fS,pl⟩ ut (iR aD ⟨kg,l4,ee,kr,ended,ma,dz,iI,kQ,bad,ed,(st,p.2),if e=0 then seen+1 else seen,e,aE,wait++o,cr,gone,over,fS,pl⟩ x.1 uq) x.2,kM x.2 (wait++o)]⟩) (v1,Ju) trivial [0,1,2] aiz I
set_option maxRecDepth 100000 in
theorem JX(x:Value)(m:Md){vo vn vt vp vr va vg ut up uq uw:Value}(T N:Nat)(hk:jq m aD T N)(g:Nat)(s:fJ)(hp:Sh m aD s.p)(FO:s.ry=0)(Oj:s.rD=aE)(ha:s.seen<=1000000)(hg:ij.bX s.wait s.cr s.gone=0)(hw:s.wait.length<=2199)(w:World)(B:bR)(hR:nJ B λw=>Ct w x m vo vn vt vp vr va vg)
 (hm:Mem B [qL g vo (eP m.o vn vt) (fR m.g.aR m.g.bC vp m.mode vr va vg) s ut (iR aD s up uq) uw,pO aD up s.p,kM uw s.wait] w):
 Calls aB 64 #[aJ (aj ⟨g,0,ak⟩)] w (dc ⟨λ(_:Value×Value)=>True,λ_=>av az (pN m aD s).2,λx=>[pO aD x.1 (pN m aD s).1.p,qL g vo (eP m.o vn vt) (fR m.g.aR m.g.bC vp m.mode vr va vg) (pN m aD s).1 ut (iR aD (pN m aD s).1 x.1 uq) x.2,kM x.2 (pN m aD s).1.wait]⟩ B):=by
 have dS:(eP m.o vn vt).length=258:=fH _ _ _;have Qv:=Qn hk hp (a:=s.seen) ha;have wE:(vd m aD s.p s.seen).2.length<=2001:=by
  have:=EZ hk hp (a:=s.seen)
  by_cases c:(vd m aD s.p s.seen).1=0
  exact this.1 c;rw[this.2 c];exact bH _
 obtain⟨p1,p2⟩:=hp;obtain⟨h1,h2⟩:=hk.ll rfl;have pE:m.mode=1:=hk.md;have hc:=λw' (hm:Mem B [qL g vo (eP m.o vn vt) (fR m.g.aR m.g.bC vp m.mode vr va vg) s ut (iR aD s up uq) uw,pO aD up s.p,kM uw s.wait] w')=>UM _ vr up m.g m.rows T N s.p.1 s.seen  w' (hR _ w' hm).AT (hR _ w' hm).rows (Sl.dy (hm.get (i:=1) I)) h1 hk.AT h2 p1 p2 ha;have hwt:=λ(s':fJ) ZY vl l h1 h2 h3 h4 w' B hm=>om (g:=g) (vo:=vo) (vt:=ut) (vw:=uw) (pc:=ZY) dS (show(fR m.g.aR m.g.bC vp m.mode vr va vg).length=7 from I) h4 s' vl l h1 h2 h3 w' B hm;unfold pN;have hT:=hk.tT;rw[show vd m aD s.p s.seen=jm m.g.aF (iC m.rows m.g.aR.toNat) s.p.1 from I,show m.g.aR.toNat=T by omega]at Qv wE⊢;clear hT;generalize jm m.g.aF (iC m.rows T) s.p.1=R at*;obtain⟨e,o⟩:=R;generalize eP m.o vn vt=PK at*;generalize m.g.aR=gt at*;generalize m.g.bC=gn at*;generalize m.mode=md at*;clear hR hk;dsimp only at Qv wE⊢;obtain⟨kg,l4,ee,kr,ended,ma,dz,iI,kQ,bad,ed,p,seen,ry,rD,wait,cr,gone,over,fS,pl⟩:=s;dsimp only at*;subst FO Oj;refine dA hm (args:=[aJ (aj ⟨g,0,ak⟩)]) (n:=58) Tryz.func64 I I I ?_
 repeat(first|refine GA ?_|refine gV (aC (v:=av az md) aK.ty I (aH (i:=0) I (fD dS I I))) ?_)
 refine dK ([wM g (iY vo PK (fR gt gn vp md vr va vg)) 102]) (.calm 0 (.calm 1 (.calm 2 (.calm 3 (.calm 4 (.calm 5 (.calm 6 (.calm 7 (.calm 8 (.calm 9 (.calm 10 (.calm 11 (.calm 12 (.calm 13 (.one 14 (.one 15 (.calm 16 (.calm 17 (.calm 18 (.calm 19 (.calm 20 (.calm 21 (.one 22 (.calm 23 (.calm 24 (.done)))))))))))))))))))))))))) (ea (i:=0) I (gB _ _ _ _)) ?_
 repeat(first|refine GW ?_|(refine GN ?_;first|refine QW (a8 (cs:=[av az gt,av az gn,vp]) aK.ty I I (λj v h=>mE (i:=0) I (lc 0 dS I h J))) ?_|refine QW (aC (v:=vr) aK.ty I (mE (i:=0) I (jc 4 dS I I))) ?_))
 refine aL I (du (a8 (cs:=[up,av az seen,av az 0,.bool aE]) aK.ty I I (λj v h=>aH (i:=0) I (lc 18 dS I h J))) I I I (aM (ea (i:=0) I (gB _ _ _ _)) ?_))
 try refine GW ?_
 refine aL I (aW (sZ aI.en I I I I) (λw hm=>hc w hm) I I I ?_);intro v2 _
 conv=>arg 8;simp only[zJ,cL,ret,id_eq,enA]
 conv=>arg 7;simp only[enA,sO]
 refine aM (ea (i:=0) I (gB _ _ _ _)) ?_
 try refine GW ?_
 refine aL I (iv (i:=0) 18 (cs:=[ap ak 0 0,av az seen,av az e,.bool (decide (e=0))]) (tl':=fR gt gn vp md vr va vg++rA ⟨kg,l4,ee,kr,ended,ma,dz,iI,kQ,bad,ed,yb aD p,seen,e,decide (e=0),wait,cr,gone,over,fS,pl⟩ ut (iR aD ⟨kg,l4,ee,kr,ended,ma,dz,iI,kQ,bad,ed,yb aD p,seen,e,decide (e=0),wait,cr,gone,over,fS,pl⟩ (ap ak 0 0) uq) uw) I I I (CB I) I I dS I I ?_);refine zL ?_;refine aM (ea (i:=0) I (gB _ _ _ _)) ?_
 try refine GW ?_
 try refine GA ?_
 refine bx [0,2,3] [1] aiz I I (fI aI.en I I I) (λw hm hb=>hwt ⟨kg,l4,ee,kr,ended,ma,dz,iI,kQ,bad,ed,yb aD p,seen,e,decide (e=0),wait,cr,gone,over,fS,pl⟩ (iR aD ⟨kg,l4,ee,kr,ended,ma,dz,iI,kQ,bad,ed,yb aD p,seen,e,decide (e=0),wait,cr,gone,over,fS,pl⟩ (ap ak 0 0) uq) v2 o hg (sD.2 λy hy=>by rw[Qv y hy];decide) (by show wait.length+o.length<=4200;omega) I w _ hb) I I I ?_;intro Ju _;refine zL ?_
 try refine GA ?_
 refine dF 159 4 ?_;exact cJ I I λw hm=>hm.cB (S:=⟨λ_=>True,λ_=>av az e,λ(x:Value×Value)=>[pO aD x.1 (yb aD p),qL g vo PK (fR gt gn vp md vr va vg) ⟨kg,l4,ee,kr,ended,ma,dz,iI,kQ,bad,ed,yb aD p,seen,e,decide (e=0),wait++o,cr,gone,over,fS,pl⟩ ut (iR aD ⟨kg,l4,ee,kr,ended,ma,dz,iI,kQ,bad,ed,yb aD p,seen,e,decide (e=0),wait++o,cr,gone,over,fS,pl⟩ x.1 uq) x.2,kM x.2 (wait++o)]⟩) (ap ak 0 0,Ju) trivial [3,1,2] aiz I
set_option maxRecDepth 100000 in
theorem F8(x:Value)(m:Md){vo vn vt vp vr va vg ut up uq uw:Value}(T N:Nat)(hk:jq m aE T N)(g:Nat)(s:fJ)(hp:Sh m aE s.p)(FO:s.ry=0)(Oj:s.rD=aE)(t:Nat)(ha:s.seen<=1000000)(ht:t<T)(hg:ij.bX s.wait s.cr s.gone=0)(hw:s.wait.length<=2199)(w:World)(B:bR)(hR:nJ B λw=>Ct w x m vo vn vt vp vr va vg)
 (hm:Mem B [qL g vo (eP m.o vn vt) (fR m.g.aR m.g.bC vp m.mode vr va vg) s ut (iR aE s up uq) uw,pO aE up s.p,kM uw s.wait] w):
 Calls aB 61 #[aJ (aj ⟨g,0,ak⟩),av az (t:Int)] w (dc ⟨λ(_:Value×Value)=>True,λ_=>av az (rz m aE s (t:Int)).2,λx=>[pO aE x.1 (rz m aE s (t:Int)).1.p,qL g vo (eP m.o vn vt) (fR m.g.aR m.g.bC vp m.mode vr va vg) (rz m aE s (t:Int)).1 ut (iR aE (rz m aE s (t:Int)).1 x.1 uq) x.2,kM x.2 (rz m aE s (t:Int)).1.wait]⟩ B):=by
 have dS:(eP m.o vn vt).length=258:=fH _ _ _;have Qv:=JQ hk hp (a:=s.seen) ha (t:=(t:Int)) J;have wE:(kq m aE s.p s.seen (t:Int)).2.2.length<=2001:=by
  by_cases c:(kq m aE s.p s.seen (t:Int)).1=0
  exact(v8 hk hp J c).2;rw[show(kq m aE s.p s.seen (t:Int)).2.2=[]from congrArg Ew (we _ _ _ c)];exact bH _
 obtain⟨p1,p2,p3⟩:=hp;have h2:=hk.lr I;have pE:m.mode=2:=hk.md;have hc:=λw' (hm:Mem B [qL g vo (eP m.o vn vt) (fR m.g.aR m.g.bC vp m.mode vr va vg) s ut (iR aE s up uq) uw,pO aE up s.p,kM uw s.wait] w')=>acm _ (aQ #[va,vg]) up m.g T N m.A m.G s.p s.seen t w' (hR _ w' hm).AT (hR _ w' hm).oQ (Sl.dy (hm.get (i:=1) I)) h2 p2 p1 p3 ht ha;have hwt:=λ(s':fJ) ZY vl l h1 h2 h3 h4 w' B hm=>om (g:=g) (vo:=vo) (vt:=ut) (vw:=uw) (pc:=ZY) dS (show(fR m.g.aR m.g.bC vp m.mode vr va vg).length=7 from I) h4 s' vl l h1 h2 h3 w' B hm;unfold rz;rw[show kq m aE s.p s.seen (t:Int)=((fY m.g.aF (iH m.A) (eU m.G) t s.seen 2001 s.p.2 []).1,(s.p.1,(fY m.g.aF (iH m.A) (eU m.G) t s.seen 2001 s.p.2 []).2.1),(fY m.g.aF (iH m.A) (eU m.G) t s.seen 2001 s.p.2 []).2.2)from I]at Qv wE⊢;generalize fY m.g.aF (iH m.A) (eU m.G) t s.seen 2001 s.p.2 []=R at*;obtain⟨e,st,o⟩:=R;generalize eP m.o vn vt=PK at*;generalize m.g.aR=gt at*;generalize m.g.bC=gn at*;generalize m.mode=md at*;clear hR hk;dsimp only at Qv wE⊢;obtain⟨kg,l4,ee,kr,ended,ma,dz,iI,kQ,bad,ed,p,seen,ry,rD,wait,cr,gone,over,fS,pl⟩:=s;dsimp only at*;subst FO Oj;refine dA hm (args:=[aJ (aj ⟨g,0,ak⟩),av az (t:Int)]) (n:=62) Tryz.func61 I I I ?_
 repeat(first|refine GA ?_|refine gV (aC (v:=av az md) aK.ty I (aH (i:=0) I (fD dS I I))) ?_)
 refine dK ([wM g (iY vo PK (fR gt gn vp md vr va vg)) 102]) (.calm 0 (.calm 1 (.calm 2 (.calm 3 (.calm 4 (.calm 5 (.calm 6 (.calm 7 (.calm 8 (.calm 9 (.calm 10 (.calm 11 (.calm 12 (.calm 13 (.calm 15 (.one 14 (.one 16 (.calm 17 (.calm 18 (.calm 19 (.calm 20 (.calm 21 (.calm 22 (.one 23 (.calm 24 (.calm 25 (.done))))))))))))))))))))))))))) (ea (i:=0) I (gB _ _ _ _)) ?_
 repeat(first|refine GW ?_|(refine GN ?_;first|refine QW (a8 (cs:=[av az gt,av az gn,vp]) aK.ty I I (λj v h=>mE (i:=0) I (lc 0 dS I h J))) ?_|refine QW (a8 (cs:=[va,vg]) aK.ty I I (λj v h=>mE (i:=0) I (lc 5 dS I h J))) ?_))
 refine aL I (du (a8 (cs:=[up,av az seen,av az 0,.bool aE]) aK.ty I I (λj v h=>aH (i:=0) I (lc 22 dS I h J))) I I I (aM (ea (i:=0) I (gB _ _ _ _)) ?_))
 try refine GW ?_
 refine aL I (aW (SO aI.en I I I I I) (λw hm=>hc w hm) I I I ?_);rintro⟨v1,v2⟩ _
 conv=>arg 8;simp only[zJ,cL,ret,id_eq,tkA]
 conv=>arg 7;simp only[tkA,sO]
 refine aM (ea (i:=0) I (gB _ _ _ _)) ?_
 try refine GW ?_
 refine aL I (aU (i:=3) I λ_ kK=>iv (i:=0) 22 (cs:=[v1,av az ((if e=0 then seen+1 else seen:Nat):Int),av az e,.bool aE]) (tl':=fR gt gn vp md vr va vg++rA ⟨kg,l4,ee,kr,ended,ma,dz,iI,kQ,bad,ed,(p.1,st),if e=0 then seen+1 else seen,e,aE,wait,cr,gone,over,fS,pl⟩ ut (iR aE ⟨kg,l4,ee,kr,ended,ma,dz,iI,kQ,bad,ed,(p.1,st),if e=0 then seen+1 else seen,e,aE,wait,cr,gone,over,fS,pl⟩ v1 uq) uw) I I I (CB kK) I I dS I I ?_);refine zL ?_;refine aM (ea (i:=0) I (gB _ _ _ _)) ?_
 try refine GW ?_
 try refine GA ?_
 refine bx [0,2,4] [3] aiz I I (fI aI.en I I I) (λw hm hb=>hwt ⟨kg,l4,ee,kr,ended,ma,dz,iI,kQ,bad,ed,(p.1,st),if e=0 then seen+1 else seen,e,aE,wait,cr,gone,over,fS,pl⟩ (iR aE ⟨kg,l4,ee,kr,ended,ma,dz,iI,kQ,bad,ed,(p.1,st),if e=0 then seen+1 else seen,e,aE,wait,cr,gone,over,fS,pl⟩ v1 uq) v2 o hg (sD.2 λy hy=>by rw[Qv y hy];decide) (by show wait.length+o.length<=4200;omega) I w _ hb) I I I ?_;intro Ju _;refine zL ?_
 try refine GA ?_
 exact cJ I I λw hm=>hm.cB (S:=⟨λ_=>True,λ_=>av az e,λ(x:Value×Value)=>[pO aE x.1 (p.1,st),qL g vo PK (fR gt gn vp md vr va vg) ⟨kg,l4,ee,kr,ended,ma,dz,iI,kQ,bad,ed,(p.1,st),if e=0 then seen+1 else seen,e,aE,wait++o,cr,gone,over,fS,pl⟩ ut (iR aE ⟨kg,l4,ee,kr,ended,ma,dz,iI,kQ,bad,ed,(p.1,st),if e=0 then seen+1 else seen,e,aE,wait++o,cr,gone,over,fS,pl⟩ x.1 uq) x.2,kM x.2 (wait++o)]⟩) (v1,Ju) trivial [0,1,2] aiz I
set_option maxRecDepth 100000 in
theorem JY(x:Value)(m:Md){vo vn vt vp vr va vg ut up uq uw:Value}(T N:Nat)(hk:jq m aE T N)(g:Nat)(s:fJ)(hp:Sh m aE s.p)(FO:s.ry=0)(Oj:s.rD=aE)(ha:s.seen<=1000000)(hg:ij.bX s.wait s.cr s.gone=0)(hw:s.wait.length<=2199)(w:World)(B:bR)(hR:nJ B λw=>Ct w x m vo vn vt vp vr va vg)
 (hm:Mem B [qL g vo (eP m.o vn vt) (fR m.g.aR m.g.bC vp m.mode vr va vg) s ut (iR aE s up uq) uw,pO aE up s.p,kM uw s.wait] w):
 Calls aB 64 #[aJ (aj ⟨g,0,ak⟩)] w (dc ⟨λ(_:Value×Value)=>True,λ_=>av az (pN m aE s).2,λx=>[pO aE x.1 (pN m aE s).1.p,qL g vo (eP m.o vn vt) (fR m.g.aR m.g.bC vp m.mode vr va vg) (pN m aE s).1 ut (iR aE (pN m aE s).1 x.1 uq) x.2,kM x.2 (pN m aE s).1.wait]⟩ B):=by
 have dS:(eP m.o vn vt).length=258:=fH _ _ _;have Qv:=Qn hk hp (a:=s.seen) ha;have wE:(vd m aE s.p s.seen).2.length<=2001:=by
  have:=EZ hk hp (a:=s.seen)
  by_cases c:(vd m aE s.p s.seen).1=0
  exact this.1 c;rw[this.2 c];exact bH _
 obtain⟨p1,p2,p3⟩:=hp;have h2:=hk.lr I;have pE:m.mode=2:=hk.md;have hc:=λw' (hm:Mem B [qL g vo (eP m.o vn vt) (fR m.g.aR m.g.bC vp m.mode vr va vg) s ut (iR aE s up uq) uw,pO aE up s.p,kM uw s.wait] w')=>aeR _ (aQ #[va,vg]) up m.g T N m.A m.G s.p.2 s.seen  w' (hR _ w' hm).AT (hR _ w' hm).oQ (Sl.dy (hm.get (i:=1) I)) h2 p2 p1 p3 ha;have hwt:=λ(s':fJ) ZY vl l h1 h2 h3 h4 w' B hm=>om (g:=g) (vo:=vo) (vt:=ut) (vw:=uw) (pc:=ZY) dS (show(fR m.g.aR m.g.bC vp m.mode vr va vg).length=7 from I) h4 s' vl l h1 h2 h3 w' B hm;unfold pN;have hT:=hk.tT;rw[show vd m aE s.p s.seen=((fY m.g.aF (iH m.A) (eU m.G) m.g.aR.toNat s.seen 2001 s.p.2 []).1,(fY m.g.aF (iH m.A) (eU m.G) m.g.aR.toNat s.seen 2001 s.p.2 []).2.2)from I,show m.g.aR.toNat=T by omega]at Qv wE⊢;clear hT;generalize fY m.g.aF (iH m.A) (eU m.G) T s.seen 2001 s.p.2 []=R at*;obtain⟨e,st,o⟩:=R;generalize eP m.o vn vt=PK at*;generalize m.g.aR=gt at*;generalize m.g.bC=gn at*;generalize m.mode=md at*;clear hR hk;dsimp only at Qv wE⊢;obtain⟨kg,l4,ee,kr,ended,ma,dz,iI,kQ,bad,ed,p,seen,ry,rD,wait,cr,gone,over,fS,pl⟩:=s;dsimp only at*;subst FO Oj;refine dA hm (args:=[aJ (aj ⟨g,0,ak⟩)]) (n:=58) Tryz.func64 I I I ?_
 repeat(first|refine GA ?_|refine gV (aC (v:=av az md) aK.ty I (aH (i:=0) I (fD dS I I))) ?_)
 refine dK ([wM g (iY vo PK (fR gt gn vp md vr va vg)) 102]) (.calm 0 (.calm 1 (.calm 2 (.calm 3 (.calm 4 (.calm 5 (.calm 6 (.calm 7 (.calm 8 (.calm 9 (.calm 10 (.calm 11 (.calm 12 (.calm 13 (.one 14 (.one 15 (.calm 16 (.calm 17 (.calm 18 (.calm 19 (.calm 20 (.calm 21 (.one 22 (.calm 23 (.calm 24 (.done)))))))))))))))))))))))))) (ea (i:=0) I (gB _ _ _ _)) ?_
 repeat(first|refine GW ?_|(refine GN ?_;first|refine QW (a8 (cs:=[av az gt,av az gn,vp]) aK.ty I I (λj v h=>mE (i:=0) I (lc 0 dS I h J))) ?_|refine QW (a8 (cs:=[va,vg]) aK.ty I I (λj v h=>mE (i:=0) I (lc 5 dS I h J))) ?_))
 refine aL I (du (a8 (cs:=[up,av az seen,av az 0,.bool aE]) aK.ty I I (λj v h=>aH (i:=0) I (lc 22 dS I h J))) I I I (aM (ea (i:=0) I (gB _ _ _ _)) ?_))
 try refine GW ?_
 refine aL I (aW (sZ aI.en I I I I) (λw hm=>hc w hm) I I I ?_);intro v2 _
 conv=>arg 8;simp only[zJ,cL,ret,id_eq,enA]
 conv=>arg 7;simp only[enA,sO]
 refine aM (ea (i:=0) I (gB _ _ _ _)) ?_
 try refine GW ?_
 refine aL I (iv (i:=0) 22 (cs:=[ap ak 0 0,av az seen,av az e,.bool (decide (e=0))]) (tl':=fR gt gn vp md vr va vg++rA ⟨kg,l4,ee,kr,ended,ma,dz,iI,kQ,bad,ed,yb aE p,seen,e,decide (e=0),wait,cr,gone,over,fS,pl⟩ ut (iR aE ⟨kg,l4,ee,kr,ended,ma,dz,iI,kQ,bad,ed,yb aE p,seen,e,decide (e=0),wait,cr,gone,over,fS,pl⟩ (ap ak 0 0) uq) uw) I I I (CB I) I I dS I I ?_);refine zL ?_;refine aM (ea (i:=0) I (gB _ _ _ _)) ?_
 try refine GW ?_
 try refine GA ?_
 refine bx [0,2,3] [1] aiz I I (fI aI.en I I I) (λw hm hb=>hwt ⟨kg,l4,ee,kr,ended,ma,dz,iI,kQ,bad,ed,yb aE p,seen,e,decide (e=0),wait,cr,gone,over,fS,pl⟩ (iR aE ⟨kg,l4,ee,kr,ended,ma,dz,iI,kQ,bad,ed,yb aE p,seen,e,decide (e=0),wait,cr,gone,over,fS,pl⟩ (ap ak 0 0) uq) v2 o hg (sD.2 λy hy=>by rw[Qv y hy];decide) (by show wait.length+o.length<=4200;omega) I w _ hb) I I I ?_;intro Ju _;refine zL ?_
 try refine GA ?_
 refine dF 3 1 ?_;exact cJ I I λw hm=>hm.cB (S:=⟨λ_=>True,λ_=>av az e,λ(x:Value×Value)=>[pO aE x.1 (yb aE p),qL g vo PK (fR gt gn vp md vr va vg) ⟨kg,l4,ee,kr,ended,ma,dz,iI,kQ,bad,ed,yb aE p,seen,e,decide (e=0),wait++o,cr,gone,over,fS,pl⟩ ut (iR aE ⟨kg,l4,ee,kr,ended,ma,dz,iI,kQ,bad,ed,yb aE p,seen,e,decide (e=0),wait++o,cr,gone,over,fS,pl⟩ x.1 uq) x.2,kM x.2 (wait++o)]⟩) (ap ak 0 0,Ju) trivial [3,1,2] aiz I
end bZ
namespace bZ
open Go.RowKit cU dM cT l_
def E9(R:List Tok×Nat×Int):Spec Value:=⟨λ_=>True,λv=> .tuple #[aQ (gI (R.2.1:Int) [] (if R.2.2=0 then 15 else 9)).toArray,v,av az R.2.2],λv=>[EU v R.1]⟩
theorem F9(o:Of)(vn vt:Value)(N:List (List Int))(tags:List Int)(a0:Nat)(u0:List UInt8)(w:World)(h:Vc w vn vt N tags)(hc:zk o N tags=0)(ho:∀b (h:b<256),o[b]<256)(ha0:a0<=1099511627776)(hu0:u0.length<=64):
 Calls aB 63 #[Nu o vn vt,aQ (gI (a0:Int) u0 0).toArray] w (cz (E9 (jm o N tags (u0.length+1) a0 u0)) w):=by
 have iS:=λw' (hg:Gr w w')=>sV o vn vt N tags (a0:Int) u0 0 w' (h.gr hg) ho J;rw[Sm hc ha0 hu0]at iS;have Be:=λ(u:List UInt8) (hu:u.length<=65) w' (hg:Gr w w')=>E6 o vn vt N tags u w' (h.gr hg) (AS hc) J;have hcut:=λa u r t w' (ha:a<=9223372036854775) ht hu=>HH a u 0 r t w' ha ht hu;have hbE:=BE;obtain⟨⟨an,cn,rfl,-⟩,at',ct,rfl,-⟩:=h;refine enter (args:=[Nu o (ap an N.length cn) (ap at' tags.length ct),aQ (gI (a0:Int) u0 0).toArray]) (n:=52) Tryz.func63 I I I ?_;refine b9 (bz (bQ I I I λg2=>bQ I I I λg3=>aY I λg4=>?_));refine zL ?_
 repeat(first|refine GA ?_|refine gV (aO (i:=0) aK.ty I I (ko _ _ _)) ?_|refine gV (aO (i:=1) aK.ty I I I) ?_)
 refine aW (fI aI.en I I I) (λw hm=>iS _ hm.below) I I I ?_;intro _ _;refine zL ?_;clear iS
 repeat(first|refine GC ?_|refine gV (dm (b:=aE) I I (decide_eq_false aiz)) ?_|refine GB ?_)
 refine ja 163 3 ?_
 conv=>arg 7;simp only[zA,zB,zC,zD,zE,zF,zG,zH,zI,cL,ret,id_eq]
 generalize jp:jm o N tags (u0.length+1) a0 u0=fin;refine dY (ι:=Nat×Nat×List UInt8×List Tok×Value) (λ(f,a,u,out,_)=>u.length<f/\u.length<=64/\a+u.length<=1099511627840/\out.length<=a/\(out++(jm o N tags f a u).1,(jm o N tags f a u).2)=fin) (λ(_,_,_,_,v)=>[(2,aJ (aj ⟨g2,0,ak⟩)),(3,aJ (aj ⟨g3,0,ak⟩)),(4,aJ (aj ⟨g4,0,ak⟩)),(8,v)])
  (λ(_,a,u,out,v)=>[aP g2 (eP o (ap an N.length cn) (ap at' tags.length ct)).toArray 31,aP g3 (gI (a:Int) u 0).toArray 97,aP g4 (gI 0 [] 0).toArray 97,EU v out]) (λ(f,_,_,_,_)=>f) (u0.length+1,a0,u0,[],ap ak 0 0) ⟨mz _,hu0,by show a0+u0.length<=_;omega,bH _,by rw[jp];rfl⟩ ?_
 clear jp;rintro⟨f,a,u,out,v⟩ ⟨j1,j2,j3,j4,j5⟩;dsimp only at j1 j2 j3 j4 j5⊢;obtain⟨f,rfl⟩:∃f',f=f'+1:=⟨f-1,by omega⟩;rw[E3]at j5
 by_cases c1:u=[]
 ·rw[if_pos c1]at j5
  have j5:(out++[],a,(0:Int))=fin:=j5;rw[eG]at j5;subst j5
  repeat(first|refine GC ?_|refine gV (aC (v:=str u) aK.ty I (aH (i:=1) I I)) ?_|refine gV (kA (b:=aE) I I (decide_eq_false (λh=>h c1))) ?_|refine gV (aC (v:=av az (a:Int)) aK.ty I (aH (i:=1) I I)) ?_|refine gV (bB I (hbE _ _)) ?_|refine GB ?_)
  refine gh 2 (cs':=(gI (a:Int) [] 15).toArray) ?_;refine zL ?_
  try refine GA ?_
  exact ff (i:=2) I I I I I I λw hm=>hm.meets (S:=E9 (out,a,0)) v trivial [3] aiz I
 ·rw[if_neg c1]at j5
  have hto:=zm o N tags u;have Ki:=Be u J;generalize eu o N tags u=lk at*;obtain⟨⟨r,t⟩,sr⟩:=lk;dsimp only at hto Ki j5
  repeat(first|refine GC ?_|refine gV (aC (v:=str u) aK.ty I (aH (i:=1) I I)) ?_|refine gV (kA (b:=aD) I I (decide_eq_true c1)) ?_|refine gV (aO (i:=0) aK.ty I I (ko _ _ _)) ?_|refine GB ?_)
  refine aW (fI aI.en I I I) (λw hm=>Ki _ hm.below) I I I ?_;intro _ _;refine zL ?_
  by_cases c2:t=0
  ·rw[if_pos c2]at j5
   have j5:(out++[],a,(9:Int))=fin:=j5;rw[eG]at j5;subst j5 c2;clear Ki
   repeat(first|refine GC ?_|refine gV (de (b:=aD) I I (decide_eq_true I)) ?_|refine gV (aC (v:=av az (a:Int)) aK.ty I (aH (i:=1) I I)) ?_|refine gV (bB I (hbE _ _)) ?_|refine GB ?_)
   refine gh 2 (cs':=(gI (a:Int) [] 9).toArray) ?_;refine zL ?_
   try refine GA ?_
   exact ff (i:=2) I I I I I I λw hm=>hm.meets (S:=E9 (out,a,9)) v trivial [3] aiz I
  rw[if_neg c2]at j5;have ht:=hto.resolve_left c2;have hct:=hcut a u r t;have UY:(u.drop t).length=u.length-t:=iX ..;clear Ki Be hcut
  repeat(first|refine GC ?_|refine gV (de (b:=aE) I I (decide_eq_false J)) ?_|refine GB ?_)
  refine aY I λg15=>?_;refine zL ?_
  repeat(first|refine GA ?_|refine gV (aO (i:=1) aK.ty I I I) ?_)
  refine aW (sZ aI.en I I I I) (λw hm=>hct w J ht.2 J) I I I ?_;intro _ _;refine zL ?_
  try refine GA ?_
  refine gh 1 (cs':=(gI ((a+t:Nat):Int) (u.drop t) 0).toArray) ?_;refine zL ?_
  try refine GA ?_
  refine gh 4 (cs':=(sE (r,a,a+t)).toArray) ?_;refine zL ?_
  repeat(first|refine GA ?_|refine gV (aO (i:=4) aK.ty I I I) ?_)
  refine jk (i:=3) I I I I I I I (λz h=>by cases h;rfl) J J I λz v2=>?_;refine zL ?_
  try refine GA ?_
  refine dh [0,1,2,3] ?_;exact bW (f,a+t,u.drop t,out++[(r,a,a+t)],v2) ⟨by show(u.drop t).length<f;omega,by show(u.drop t).length<=64;omega,by show a+t+(u.drop t).length<=1099511627840;omega,by show(out++[(r,a,a+t)]).length<=a+t;rw[bK];simp;omega,by rw[eY];exact j5⟩ (by show f<f+1;omega) (hl:=by dsimp only;rw[Hw];rfl)
end bZ
namespace bZ
open Go.RowKit cU dM aT dL e8 gu jo bI l_ gv cT
open ij (Ev rv takeN)
abbrev toP(v:Value)(l:List Tok):b_:=qK 163 3 v l.length (l.flatMap sE)
abbrev gv(b:Bool)(g:Nat)(vo:Value)(pk md:List Value)(s:fJ)(ut up uq uw:Value):List b_:=[qL g vo pk md s ut (iR b s up uq) uw,toP ut s.ed,pO b up s.p,kM uw s.wait]
theorem M0(vo:Value)(pk md:List Value)(s:fJ)(vt:Value)(pc:List Value)(vw:Value):∃q,(iY vo pk (md++rA s vt pc vw)).toArray=(iY vo pk (md++[av az s.kg,av az s.l4,av az s.ee,str s.kr,.bool s.ended,.bool s.ma,av az s.dz,str s.iI,av az s.kQ,av az s.bad])++q).toArray:=
 ⟨vt::(pc++[vw,av az s.cr,av az s.gone,.bool s.over,av az s.fS,av az s.pl]),by simp[iY,rA]⟩
def tb(b:Bool)(g:Nat)(vo:Value)(pk md:List Value)(s:fJ)(uq:Value):Spec (Value×Value×Value):=⟨λ_=>True,λ_=> .tuple #[],λx=>gv b g vo pk md s x.1 x.2.1 uq x.2.2⟩
theorem Qw{w:World}{e:TypeId}{size:Nat}{v:Value}{n:Nat}{xs:List Value}(h:pz w e size v n xs)(hn:0<n):∃g off cap,v=ap (aj ⟨g,off,ak⟩) n cap/\n<=cap:=by
 rcases h.2 with⟨rfl,rfl⟩|⟨g,off,cap,jM,rfl,hg,h1,h2,h3,h4⟩
 exact absurd hn (Nat.lt_irrefl _);exact⟨g,off,cap,rfl,h1⟩
theorem aeT{t:Tok}{l:List Tok}{j:Nat}{v:Value}(h:(sE t)[j]?=aj v):((t::l).flatMap sE)[j]?=aj v:=by
 rw[List.flatMap_cons,gJ (dl.1 h).1];exact h
theorem zv{m:Md}{b:Bool}{s:fJ}(h:fC m b s):ij.bX s.wait s.cr s.gone=0:=by
 obtain⟨h1,h2,h3,h4,h5,h6,h7,h8,h9,Mq,JZ,Qx,Sr,M3,M4⟩:=h;have:(s.seen:Int)<=4096:=by omega
 have:(s.gone:Int)<=1099511627776:=by
  have h16:((s.seen:Int)+if s.over=aD then 1 else 0)<=4097:=by split<;>omega
  generalize ((s.seen:Int)+if s.over=aD then 1 else 0)=k at*;omega
 unfold ij.bX;rw[if_neg J,if_neg J,if_neg J,if_neg J,if_neg J,if_neg (by rw[JZ];decide)]
theorem M5(l:List Tok):∀u∈l.flatMap sE,u.oneCell'=true:=by
 intro u hu;obtain⟨t,_,h⟩:=Ad.1 hu;simp only[sE,dx,fl,or_false]at h;rcases h with rfl|rfl|rfl<;>rfl
theorem sJ{P:Program}{n:Nat}{W:bR}{fr:Fr}{L:List b_}{Q:Exit->Act->World->Prop}{ops:Array Oper}{rest:List Oper}{ty:TypeId}{pos:String}{after:Array Edge}{t:TypeId}{p x:Operand}{i g k:Nat}{vo:Value}{pk tl tl':List Value}{T:TypeId}{agg:Bool}{v:Value}(j:Nat)[hT:aK P t agg 1](hi:L[i]?=aj (aP g (iY vo pk tl).toArray T))(hp:ev fr p=aj (aJ (aj ⟨g,k,ak⟩)))(hx:ev fr x=aj v)(hv:v.cells=#[v])(h1:v.oneCell'=aD)(hk:k=j+259)(dS:pk.length=258)(hj:dj j tl.length=aD)(he:tl.set j v=tl')
 (h:TL P n W ops Q rest fr (L.set i (aP g (iY vo pk tl').toArray T))):TL P n W ops Q (⟨ak,.store t p x,ty,pos,after,ak⟩::rest) fr L:=by
 subst he;exact dW j hi hp hx hv h1 hk dS hj h
section
variable{g:Nat}{vo:Value}{pk md:List Value}{vt vw:Value}{pc:List Value}(dS:pk.length=258)(pE:md.length=7)(wI:pc.length=8)
include dS pE wI
set_option maxRecDepth 100000 in
theorem J0(s:fJ)(e:Int)(pl:Nat)(w:World)(B:bR)(hm:Mem B [qL g vo pk md s vt pc vw] w):
 Calls aB 60 #[aJ (aj ⟨g,0,ak⟩),av az e,av az (pl:Int)] w (dc ⟨λ(_:Unit)=>True,λ_=> .tuple #[],λ_=>[qL g vo pk md (sU s e pl) vt pc vw]⟩ B):=by
 have hst:=λw' B hm=>oh (g:=g) (vo:=vo) (vt:=vt) (vw:=vw) dS pE wI s e pl w' B hm;unfold sU
 by_cases c:e≠0
 ·rw[if_pos c]
  refine dA hm (args:=[aJ (aj ⟨g,0,ak⟩),av az e,av az (pl:Int)]) (n:=12) Tryz.func60 I I I ?_
  try refine GA ?_
  refine bx [0] [] aiz I I (sZ aI.en I I I I) (λw hm hb=>hst w _ hb) I I I ?_;intro _ _;refine zL ?_
  try refine GA ?_
  exact kY I λw hm=>hm.cB (S:=⟨λ(_:Unit)=>True,λ_=> .tuple #[],λ_=>[qL g vo pk md (kJ s e pl) vt pc vw]⟩) () trivial [0] aiz I
 ·rw[if_neg c]
  refine dA hm (args:=[aJ (aj ⟨g,0,ak⟩),av az e,av az (pl:Int)]) (n:=12) Tryz.func60 I I I ?_
  try refine GA ?_
  exact kY I λw hm=>hm.cB (S:=⟨λ(_:Unit)=>True,λ_=> .tuple #[],λ_=>[qL g vo pk md s vt pc vw]⟩) () trivial [0] aiz I
end
def psX(b:Bool)(g:Nat)(vo:Value)(pk md:List Value)(R:fJ×Int)(ut uq:Value):Spec (Value×Value):=⟨λ_=>True,λ_=>av az R.2,λx=>[pO b x.1 R.1.p,qL g vo pk md R.1 ut (iR b R.1 x.1 uq) x.2,kM x.2 R.1.wait]⟩
theorem J1(x:Value)(m:Md){vo vn vt vp vr va vg ut up uq uw:Value}(b:Bool)(T N:Nat)(hk:jq m b T N)(g:Nat)(s:fJ)(hp:Sh m b s.p)(FO:s.ry=0)(Oj:s.rD=aE)(t:Nat)(ha:s.seen<=1000000)(ht:t<T)(hg:ij.bX s.wait s.cr s.gone=0)(hw:s.wait.length<=2199)(w:World)(B:bR)(hR:nJ B λw=>Ct w x m vo vn vt vp vr va vg)
 (hm:Mem B [qL g vo (eP m.o vn vt) (fR m.g.aR m.g.bC vp m.mode vr va vg) s ut (iR b s up uq) uw,pO b up s.p,kM uw s.wait] w):
 Calls aB 61 #[aJ (aj ⟨g,0,ak⟩),av az (t:Int)] w (dc (psX b g vo (eP m.o vn vt) (fR m.g.aR m.g.bC vp m.mode vr va vg) (rz m b s (t:Int)) ut uq) B):=by
 cases b
 ·exact F8 x m T N hk g s hp FO Oj t ha ht hg hw w B hR hm
 ·exact F7 x m T N hk g s hp FO Oj t ha ht hg hw w B hR hm
theorem M6(x:Value)(m:Md){vo vn vt vp vr va vg ut up uq uw:Value}(b:Bool)(T N:Nat)(hk:jq m b T N)(g:Nat)(s:fJ)(hp:Sh m b s.p)(FO:s.ry=0)(Oj:s.rD=aE)(ha:s.seen<=1000000)(hg:ij.bX s.wait s.cr s.gone=0)(hw:s.wait.length<=2199)(w:World)(B:bR)(hR:nJ B λw=>Ct w x m vo vn vt vp vr va vg)
 (hm:Mem B [qL g vo (eP m.o vn vt) (fR m.g.aR m.g.bC vp m.mode vr va vg) s ut (iR b s up uq) uw,pO b up s.p,kM uw s.wait] w):
 Calls aB 64 #[aJ (aj ⟨g,0,ak⟩)] w (dc (psX b g vo (eP m.o vn vt) (fR m.g.aR m.g.bC vp m.mode vr va vg) (pN m b s) ut uq) B):=by
 cases b
 ·exact JY x m T N hk g s hp FO Oj ha hg hw w B hR hm
 ·exact JX x m T N hk g s hp FO Oj ha hg hw w B hR hm
set_option maxRecDepth 100000 in
theorem M7(x:Value)(m:Md){vo vn vt vp vr va vg ut up uq uw:Value}(b:Bool)(T N:Nat)(hk:jq m b T N)(g:Nat)(s:fJ)(hs:fC m b s)(kQ:s.over=aE)(t:Tok)(l:List Tok)(qD:s.ed=t::l)(hw:s.wait.length<200)(w:World)(B:bR)(hR:nJ B λw=>Ct w x m vo vn vt vp vr va vg)
 (hm:Mem B (gv b g vo (eP m.o vn vt) (fR m.g.aR m.g.bC vp m.mode vr va vg) s ut up uq uw) w):
 Calls aB 32 #[aJ (aj ⟨g,0,ak⟩)] w (dc (tb b g vo (eP m.o vn vt) (fR m.g.aR m.g.bC vp m.mode vr va vg) (jr m b s) uq) B):=by
 have dS:(eP m.o vn vt).length=258:=fH _ _ _;obtain⟨l1,l2,l3⟩:=hs.live kQ;have Kz:=zv hs;have hse:s.seen<=4096:=by have:=hs.seen;have:=hs.kr;have:=hs.Cg;have:=hs.kg;omega
 have htr:=hs.tok t (by rw[qD];exact gZ ..);have TP:=(hR _ w hm).of;have PT:=hk.ofs;have htT:=hk.tT;have hpu:=λog n hn w' B hR hm=>J1 x m (ut:=og) (up:=up) (uq:=uq) (uw:=uw) (vo:=vo) (vn:=vn) (vt:=vt) (vp:=vp) (vr:=vr) (va:=va) (vg:=vg) b T N hk g {s with ed:=l} l3 l1 l2 n (by show s.seen<=_;omega) hn Kz (by show s.wait.length<=_;omega) w' B hR hm;have htd:=λ(s':fJ) og Ju ZY (e:Int) pl h8 w' B hm=>J0 (g:=g) (vo:=vo) (vt:=og) (vw:=Ju) (pc:=ZY) dS (show(fR m.g.aR m.g.bC vp m.mode vr va vg).length=7 from I) h8 s' e pl w' B hm;have A3:jr m b s=if s9 m t<0 then {s with ed:=l}else sU (rz m b {s with ed:=l} (s9 m t)).1 (rz m b {s with ed:=l} (s9 m t)).2 t.2.1:=by
  unfold jr;rw[qD]
 rw[A3];have mf:=hm.get (i:=1) I;unfold gv at hm;rw[qD]at hm mf;obtain⟨bt,off,cap,rfl,lm⟩:=Qw mf (Dh _);obtain⟨r0,fr,tt⟩:=t;dsimp only at htr;obtain⟨r,rfl⟩:∃r:Nat,r0=r:=⟨r0.toNat,by omega⟩;obtain⟨ao,co,rfl,mi,zZ,ho3⟩:=TP;obtain⟨b1,o1,rfl,hro⟩:=ho3 J;have hr:r<m.of.length:=by omega
 have agG:∀L:List b_,At B L ⟨b1,o1+r*1+0,ak⟩ (av az m.of[r]):=λL w' qV=>by
  obtain⟨ao',co',e,_,_,eL⟩:=(hR L w' qV).of
  cases e
  obtain⟨b2,o2,e,hro⟩:=eL J
  cases e
  have:=hro (r*1+0) (av az m.of[r]) (by rw[tL P8 m.of r 0 hr aiz];rfl)
  rwa [<-Nat.add_assoc]at this
 have hxx:=PT _ (cD hr);have hox:s9 m ((r:Int),fr,tt)=m.of[r]:=by unfold s9;rw[cH,show((r:Int),fr,tt).1.toNat=r from I,bD hr,kD]
 rw[hox];generalize m.of[r]=x at*;clear A3 hox hro ho3 PT hs mf;unfold maxLen at zZ;simp only[c_]at hm lm;have gC:∀(L:List b_) (i:Nat),L[i]?=aj (toP (ap (aj ⟨bt,off,ak⟩) (l.length+1) cap) (((r:Int),fr,tt)::l))->∀j u,(sE ((r:Int),fr,tt))[j]?=aj u->At B L ⟨bt,off+0*3+j,ak⟩ u:=λL i hi j u hu=>by
  rw[wZ,jw];exact UK hi (aeT hu)
 cases b
 all_goals
  refine dA hm (args:=[aJ (aj ⟨g,0,ak⟩)]) (n:=160) Tryz.func32 I I I ?_
  repeat(first|refine GA ?_|refine gV (aC aK.ty I (aH (i:=0) I (fD dS I I))) ?_|refine gV (aX (j:=0) bL.eq aK.ty I I (Dh _)) ?_|refine gV (a8 aK.ty I I (gC _ 1 I)) ?_)
  refine aY I λg2=>?_;refine zL ?_;refine gh 4 (cs':=(sE ((r:Int),fr,tt)).toArray) ?_;refine zL ?_
  repeat(first|refine GC ?_|refine gV (aC aK.ty I (aH (i:=0) I (fD dS I I))) ?_|refine gV (qS (i:=1) bL.eq aK.ty I I (Qg (bH _)) lm) ?_|refine GB ?_)
  refine dW (i:=0) 17 I I I I I I dS I ?_;refine ZT 1 I ?_;refine zL ?_
  by_cases c1:x<0
  ·rw[if_pos c1]
   try refine GA ?_
   refine dK ([qL g (ap (aj ⟨b1,o1,ak⟩) m.of.length co) (eP m.o vn vt) (fR m.g.aR m.g.bC vp m.mode vr va vg) {s with ed:=l} (s7 (aj ⟨bt,off,ak⟩) cap 3 1 (l.length+1)) (iR _ s up uq) uw,aP g2 (sE ((r:Int),fr,tt)).toArray 163]) (.calm 0 (.calm 1 (.calm 2 (.calm 3 (.calm 4 (.calm 5 (.calm 6 (.calm 7 (.calm 8 (.calm 9 (.done))))))))))) (bV [0,4]) ?_
   repeat(first|refine GW ?_|(refine GN ?_;first|refine QW (aC (v:=ap (aj ⟨b1,o1,ak⟩) m.of.length co) aK.ty I (aH (i:=0) I I)) ?_|refine QW (aC (v:=av az (r:Int)) aK.ty I (aH (i:=1) I I)) ?_|refine QW (aX bL.eq aK.ty I I hr) ?_|refine QW (aC (v:=av az x) aK.ty I (agG _)) ?_))
   try refine GA ?_
   exact kY I λw hm=>hm.cB (S:=tb _ g (ap (aj ⟨b1,o1,ak⟩) m.of.length co) (eP m.o vn vt) (fR m.g.aR m.g.bC vp m.mode vr va vg) {s with ed:=l} uq) (s7 (aj ⟨bt,off,ak⟩) cap 3 1 (l.length+1),up,uw) trivial [0,1,2,3] aiz rfl
  ·rw[if_neg c1]
   obtain⟨tn,rfl⟩:∃tn:Nat,x=tn:=⟨x.toNat,by omega⟩;have hpu:=λog w' B hR hm=>hpu og tn J w' B hR hm;generalize aeU:rz m _ {s with ed:=l} (tn:Int)=R at*;have hRt:R.1.ed=l:=by rw[<-aeU];rfl
   have hRp:(sU R.1 R.2 fr).p=R.1.p/\(sU R.1 R.2 fr).wait=R.1.wait/\(sU R.1 R.2 fr).ed=l/\∀b ZZ vq,iR b (sU R.1 R.2 fr) ZZ vq=iR b R.1 ZZ vq:=by
    unfold sU;split<;>exact⟨rfl,rfl,hRt,λ_ _ _=>rfl⟩
   obtain⟨R1,R2⟩:=R;obtain⟨q1,q2,q3,q4⟩:=hRp;dsimp only at q1 q2 q3 q4 hRt⊢
   try refine GA ?_
   refine dK ([qL g (ap (aj ⟨b1,o1,ak⟩) m.of.length co) (eP m.o vn vt) (fR m.g.aR m.g.bC vp m.mode vr va vg) {s with ed:=l} (s7 (aj ⟨bt,off,ak⟩) cap 3 1 (l.length+1)) (iR _ s up uq) uw,aP g2 (sE ((r:Int),fr,tt)).toArray 163]) (.calm 0 (.calm 1 (.calm 2 (.calm 3 (.calm 4 (.calm 5 (.calm 6 (.calm 7 (.calm 8 (.calm 9 (.done))))))))))) (bV [0,4]) ?_
   repeat(first|refine GW ?_|(refine GN ?_;first|refine QW (aC (v:=ap (aj ⟨b1,o1,ak⟩) m.of.length co) aK.ty I (aH (i:=0) I I)) ?_|refine QW (aC (v:=av az (r:Int)) aK.ty I (aH (i:=1) I I)) ?_|refine QW (aX bL.eq aK.ty I I hr) ?_|refine QW (aC (v:=av az (tn:Int)) aK.ty I (agG _)) ?_))
   try refine GA ?_
   refine dK ([aP g2 (sE ((r:Int),fr,tt)).toArray 163]) (.calm 0 (.calm 1 (.calm 2 (.calm 4 (.calm 5 (.one 3 (.one 6 (.done)))))))) (bV [4]) ?_
   repeat(first|refine GW ?_|(refine GN ?_;first|refine QW (aC (v:=av az (fr:Int)) aK.ty I (aH (i:=0) I I)) ?_))
   refine aL I (bx [0,2,3] [1,4] aiz I I (fI aI.en I I I) (λw hm hb=>hpu _ w _ (hR.on (hm.pick [0,2,3] aiz I)) hb) I I I ?_);rintro⟨v1,v2⟩ _
   conv=>arg 8;simp only[zJ,cL,ret,id_eq,psX]
   conv=>arg 7;simp only[psX]
   refine aM (bV [1]) ?_;refine aL I (bx [3] [0,1,2,4] aiz I I (sZ aI.en I I I I) (λw hm hb=>htd R1 _ v2 _ R2 fr I w _ hb) I I I ?_);intro _ _;refine zL ?_;refine aM (bV [1]) ?_
   try refine GW ?_
   try refine GA ?_
   exact kY I λw hm=>hm.cB (S:=tb _ g (ap (aj ⟨b1,o1,ak⟩) m.of.length co) (eP m.o vn vt) (fR m.g.aR m.g.bC vp m.mode vr va vg) (sU R1 R2 fr) uq) (_,v1,v2) trivial [4,0,2,3] aiz (by simp only[tb,gv,q1,q2,q3,q4];rfl)
set_option maxRecDepth 100000 in
theorem M8(x:Value)(m:Md){vo vn vt vp vr va vg ut up uq uw:Value}(b:Bool)(T N:Nat)(hk:jq m b T N)(g:Nat)(s:fJ)(hs:fC m b s)(kQ:s.over=aE)(qD:s.ed=[])(hb:s.bad≠0)(w:World)(B:bR)(hR:nJ B λw=>Ct w x m vo vn vt vp vr va vg)
 (hm:Mem B (gv b g vo (eP m.o vn vt) (fR m.g.aR m.g.bC vp m.mode vr va vg) s ut up uq uw) w):
 Calls aB 32 #[aJ (aj ⟨g,0,ak⟩)] w (dc (tb b g vo (eP m.o vn vt) (fR m.g.aR m.g.bC vp m.mode vr va vg) (jr m b s) uq) B):=by
 have dS:(eP m.o vn vt).length=258:=fH _ _ _;obtain⟨l1,l2,l3⟩:=hs.live kQ;have Ks:s.ee<=4096:=by have:=hs.Cg;have:=hs.kg;omega
 unfold gv at hm;have hst:=λw' B hm=>oh (g:=g) (vo:=vo) (vt:=ut) (vw:=uw) (pc:=iR b s up uq) dS (show(fR m.g.aR m.g.bC vp m.mode vr va vg).length=7 from I) (by cases b<;>rfl) s s.bad s.dz w' B hm;have A3:jr m b s=kJ s s.bad s.dz:=by unfold jr;rw[qD];dsimp only;rw[if_pos hb]
 rw[A3];rw[qD]at hm;obtain⟨at',ct,rfl,-⟩:=lV (hm.get (i:=1) rfl);simp only[gU]at hm;have aeU:(kJ s s.bad s.dz).ed=[]:=qD;clear A3 hs
 cases b
 all_goals
  refine dA hm (args:=[aJ (aj ⟨g,0,ak⟩)]) (n:=160) Tryz.func32 I I I ?_
  repeat(first|refine GA ?_|refine gV (aC aK.ty I (aH (i:=0) I (fD dS I I))) ?_)
  refine dK ([wM g (iY vo (eP m.o vn vt) (fR m.g.aR m.g.bC vp m.mode vr va vg++[av az s.kg,av az s.l4,av az s.ee,str s.kr,.bool s.ended,.bool s.ma,av az s.dz,str s.iI,av az s.kQ,av az s.bad])) 102]) (.calm 0 (.calm 1 (.calm 2 (.calm 3 (.calm 4 (.calm 5 (.calm 6 (.calm 7 (.calm 8 (.calm 9 (.one 10 (.done)))))))))))) (ea (i:=0) I (M0 _ _ _ s _ _ _)) ?_
  repeat(first|refine GW ?_|(refine GN ?_;first|refine QW (aC aK.ty I (mE (i:=0) I (fD dS I I))) ?_))
  refine aL I (bx [0] [1,2,3] aiz I I (sZ aI.en I I I I) (λw hm hb=>hst w _ hb) I I I ?_);intro _ _;refine zL ?_;refine aM (ea (i:=3) I (M0 _ _ _ (kJ s s.bad s.dz) _ _ _)) ?_
  try refine GW ?_
  try refine GA ?_
  exact kY I λw hm=>hm.cB (S:=tb _ g vo (eP m.o vn vt) (fR m.g.aR m.g.bC vp m.mode vr va vg) (kJ s s.bad s.dz) uq) (_,up,uw) trivial [3,0,1,2] aiz (by simp only[tb,gv,aeU];rfl)
set_option maxRecDepth 100000 in
theorem J2(x:Value)(m:Md){vo vn vt vp vr va vg ut up uq uw:Value}(b:Bool)(T N:Nat)(hk:jq m b T N)(g:Nat)(s:fJ)(hs:fC m b s)(kQ:s.over=aE)(qD:s.ed=[])(hb:s.bad=0)(c:UInt8)(r:List UInt8)(Fh:s.kr=c::r)(w:World)(B:bR)(hR:nJ B λw=>Ct w x m vo vn vt vp vr va vg)
 (hm:Mem B (gv b g vo (eP m.o vn vt) (fR m.g.aR m.g.bC vp m.mode vr va vg) s ut up uq uw) w):
 Calls aB 32 #[aJ (aj ⟨g,0,ak⟩)] w (dc (tb b g vo (eP m.o vn vt) (fR m.g.aR m.g.bC vp m.mode vr va vg) (jr m b s) uq) B):=by
 have dS:(eP m.o vn vt).length=258:=fH _ _ _;obtain⟨l1,l2,l3⟩:=hs.live kQ;have Ks:s.ee<=4096:=by have:=hs.Cg;have:=hs.kg;omega
 unfold gv at hm;have wo:s.ma=false:=by
  cases h:s.ma with
  |false=>rfl
  |true=>have:=(hs.ma h).1;rw[Fh]at this;cases this
 have hho:=hs.kQ hb wo;have hfd:=λw' (hm:Vc w' vn vt m.N m.tags)=>F4 m.o vn vt m.N m.tags s.dz s.iI [c] w' hm hk.l7 hk.byte (by have:=hs.kr;omega) hs.iI (by simp);rw[show Nu m.o vn vt=aQ (eP m.o vn vt).toArray from I]at hfd;have Py:(ic m.o m.N m.tags [c] s.dz s.iI).1.length<=1000000:=by
  have:=zn (o:=m.o) (N:=m.N) (tags:=m.tags) [c] s.dz s.iI;have:=hs.kr;have:=hs.iI;simp only[lO]at*;omega
 have A3:jr m b s=ML m s c r:=by unfold jr;rw[qD,Fh];dsimp only;rw[if_neg (by rw[hb];decide)]
 rw[A3];unfold ML BC;obtain⟨at',ct,rfl,q1,q2,-⟩:=lV (hm.get (i:=1) rfl);clear A3 hs;obtain⟨kg,l4,ee,kr,ended,ma,dz,iI,kQ,bad,ed,p,seen,ry,rD,wait,cr,gone,over,fS,pl⟩:=s;dsimp only at*;subst qD hb Fh hho wo kQ;simp only[gU]at hm;dsimp only[qL,rA,kS,eJ]at hm;generalize ic m.o m.N m.tags [c] dz iI=D at*;obtain⟨D1,D2,D3,D4⟩:=D;dsimp only at*;generalize eP m.o vn vt=PK at*;obtain⟨a0,a1,a2,a3,a4,a5,a6,a7,wI⟩:=Qr b ⟨kg,l4,ee,c::r,ended,aE,dz,iI,0,0,[],p,seen,ry,rD,wait,cr,gone,aE,fS,pl⟩ up uq;rw[wI]at hm;refine dA hm (args:=[aJ (aj ⟨g,0,ak⟩)]) (n:=160) Tryz.func32 I I I ?_
 repeat(first|refine GC ?_|refine gV (aC aK.ty I (aH (i:=0) I (fD dS I I))) ?_|refine gV (kA (b:=aD) I I I) ?_|refine gV (NY (j:=1) bL.eq I I (Qg (bH _))) ?_|refine gV (CZ (i:=1) bL.eq I I (Qg (bH _))) ?_|refine GB ?_)
 refine sJ (i:=0) 10 (tl':=fR m.g.aR m.g.bC vp m.mode vr va vg++rA ⟨kg,l4,ee,r,ended,aE,dz,iI,0,0,[],p,seen,ry,rD,wait,cr,gone,aE,fS,pl⟩ _ [a0,a1,a2,a3,a4,a5,a6,a7] uw) I I I I I I dS I I ?_
 try refine GA ?_
 refine dK ([wM g (iY vo PK (fR m.g.aR m.g.bC vp m.mode vr va vg)) 102]) (.calm 0 (.calm 1 (.calm 2 (.calm 3 (.calm 4 (.calm 5 (.calm 6 (.calm 7 (.calm 8 (.calm 9 (.calm 11 (.one 10 (.one 12 (.calm 13 (.calm 14 (.calm 15 (.calm 16 (.calm 17 (.calm 18 (.one 19 (.calm 20 (.calm 21 (.calm 22 (.one 23 (.done))))))))))))))))))))))))) (ea (i:=0) I (gB _ _ _ _)) ?_
 repeat(first|refine GW ?_|(refine GN ?_;first|refine QW (a8 (cs:=PK) aK.ty I dS (λj v h=>mE (i:=0) I (Hs dS h))) ?_))
 refine aL I (du (a8 (cs:=gI (dz:Int) iI 0) aK.ty I I (λj v h=>aH (i:=0) I (lc 13 dS I h J))) I I I (aM (ea (i:=0) I (gB _ _ _ _)) ?_))
 try refine GW ?_
 refine aL I (aW (sZ aI.en I I I I) (λw hm=>hfd w (hR _ w hm).pk) I I I ?_);intro v1 _
 conv=>arg 8;simp only[zJ,cL,ret,id_eq,HJ]
 conv=>arg 7;simp only[HJ]
 refine aM (ea (i:=0) I (gB _ _ _ _)) ?_
 try refine GW ?_
 refine aL I (iv (i:=0) 13 (cs:=gI (D2:Int) D3 D4) (tl':=fR m.g.aR m.g.bC vp m.mode vr va vg++rA ⟨kg,l4,ee,r,ended,aE,D2,D3,D4,0,[],p,seen,ry,rD,wait,cr,gone,aE,fS,pl⟩ _ [a0,a1,a2,a3,a4,a5,a6,a7] uw) I I I I I I dS I I ?_);refine zL ?_;refine aM (ea (i:=0) I (gB _ _ _ _)) ?_
 try refine GW ?_
 refine aL I (sJ (i:=0) 16 (tl':=fR m.g.aR m.g.bC vp m.mode vr va vg++rA ⟨kg,l4,ee,r,ended,aE,D2,D3,D4,D4,[],p,seen,ry,rD,wait,cr,gone,aE,fS,pl⟩ _ [a0,a1,a2,a3,a4,a5,a6,a7] uw) I I I I I I dS I I ?_);refine aM (ea (i:=0) I (gB _ _ _ _)) ?_
 try refine GW ?_
 repeat(first|refine GA ?_|refine gV (aC aK.ty I (aH (i:=0) I (fD dS I I))) ?_)
 refine Sk (i:=1) (j:=4) I I I I (M5 _) (by simp only[gU];omega) (by simp only[gU];omega) I λv2=>?_;refine Sj (i:=1) I λb2 c2 lz _ _ _=>?_
 try refine GA ?_
 refine dW (i:=0) 17 I I I (by rw[lz];rfl) (by rw[lz];rfl) I dS I ?_
 try refine GA ?_
 exact kY I λw hm=>hm.cB (S:=tb b g vo PK (fR m.g.aR m.g.bC vp m.mode vr va vg) ⟨kg,l4,ee,r,ended,aE,D2,D3,D4,D4,D1,p,seen,ry,rD,wait,cr,gone,aE,fS,pl⟩ uq) (v2,up,uw) trivial [0,1,2,3] aiz (by
  have aeV:iR b ⟨kg,l4,ee,r,ended,aE,D2,D3,D4,D4,D1,p,seen,ry,rD,wait,cr,gone,aE,fS,pl⟩ up uq=[a0,a1,a2,a3,a4,a5,a6,a7]:=wI;simp only[tb,gv,aeV,toP,gU,cV,Zx,eJ];rfl)
set_option maxRecDepth 100000 in
theorem F_(x:Value)(m:Md){vo vn vt vp vr va vg ut up uq uw:Value}(b:Bool)(T N:Nat)(hk:jq m b T N)(g:Nat)(s:fJ)(hs:fC m b s)(kQ:s.over=aE)(qD:s.ed=[])(hb:s.bad=0)(Fh:s.kr=[])(wo:s.ma=aE)(w:World)(B:bR)(hR:nJ B λw=>Ct w x m vo vn vt vp vr va vg)
 (hm:Mem B (gv b g vo (eP m.o vn vt) (fR m.g.aR m.g.bC vp m.mode vr va vg) s ut up uq uw) w):
 Calls aB 32 #[aJ (aj ⟨g,0,ak⟩)] w (dc (tb b g vo (eP m.o vn vt) (fR m.g.aR m.g.bC vp m.mode vr va vg) (jr m b s) uq) B):=by
 have dS:(eP m.o vn vt).length=258:=fH _ _ _;obtain⟨l1,l2,l3⟩:=hs.live kQ;have Ks:s.ee<=4096:=by have:=hs.Cg;have:=hs.kg;omega
 unfold gv at hm;have hho:=hs.kQ hb wo;have hfd:=λw' (hm:Vc w' vn vt m.N m.tags)=>F9 m.o vn vt m.N m.tags s.dz s.iI w' hm hk.l7 hk.byte (by have:=hs.kr;omega) hs.iI;rw[show Nu m.o vn vt=aQ (eP m.o vn vt).toArray from I]at hfd;have Py:(jm m.o m.N m.tags (s.iI.length+1) s.dz s.iI).1.length<=1000000:=by
  have:=Cz (o:=m.o) (N:=m.N) (tags:=m.tags) (s.iI.length+1) s.dz s.iI;have:=hs.kr;have:=hs.iI;omega
 have A3:jr m b s=E4 m s:=by unfold jr;rw[qD,Fh];dsimp only;rw[if_neg (by rw[hb];decide),if_pos wo]
 rw[A3];unfold E4 yc;obtain⟨at',ct,rfl,q1,q2,-⟩:=lV (hm.get (i:=1) rfl);clear A3 hs;obtain⟨kg,l4,ee,kr,ended,ma,dz,iI,kQ,bad,ed,p,seen,ry,rD,wait,cr,gone,over,fS,pl⟩:=s;dsimp only at*;subst qD hb Fh hho wo kQ;simp only[gU]at hm;dsimp only[qL,rA,kS,eJ]at hm;generalize jm m.o m.N m.tags (iI.length+1) dz iI=D at*;obtain⟨D1,D2,D4⟩:=D;dsimp only at*;generalize eP m.o vn vt=PK at*;obtain⟨a0,a1,a2,a3,a4,a5,a6,a7,wI⟩:=Qr b ⟨kg,l4,ee,[],ended,aE,dz,iI,0,0,[],p,seen,ry,rD,wait,cr,gone,aE,fS,pl⟩ up uq;rw[wI]at hm;refine dA hm (args:=[aJ (aj ⟨g,0,ak⟩)]) (n:=160) Tryz.func32 I I I ?_
 repeat(first|refine GC ?_|refine gV (aC aK.ty I (aH (i:=0) I (fD dS I I))) ?_|refine gV (kA (b:=aE) I I I) ?_|refine GB ?_)
 refine sJ (i:=0) 12 (tl':=fR m.g.aR m.g.bC vp m.mode vr va vg++rA ⟨kg,l4,ee,[],ended,aD,dz,iI,0,0,[],p,seen,ry,rD,wait,cr,gone,aE,fS,pl⟩ _ [a0,a1,a2,a3,a4,a5,a6,a7] uw) I I I I I I dS I I ?_
 try refine GA ?_
 refine dK ([wM g (iY vo PK (fR m.g.aR m.g.bC vp m.mode vr va vg)) 102]) (.calm 0 (.calm 1 (.calm 2 (.calm 3 (.calm 4 (.calm 5 (.calm 6 (.calm 7 (.calm 8 (.calm 9 (.one 10 (.one 11 (.calm 12 (.calm 13 (.calm 14 (.calm 15 (.calm 16 (.calm 17 (.one 18 (.calm 19 (.calm 20 (.calm 21 (.one 22 (.done)))))))))))))))))))))))) (ea (i:=0) I (gB _ _ _ _)) ?_
 repeat(first|refine GW ?_|(refine GN ?_;first|refine QW (a8 (cs:=PK) aK.ty I dS (λj v h=>mE (i:=0) I (Hs dS h))) ?_))
 refine aL I (du (a8 (cs:=gI (dz:Int) iI 0) aK.ty I I (λj v h=>aH (i:=0) I (lc 13 dS I h J))) I I I (aM (ea (i:=0) I (gB _ _ _ _)) ?_))
 try refine GW ?_
 refine aL I (aW (fI aI.en I I I) (λw hm=>hfd w (hR _ w hm).pk) I I I ?_);intro v1 _
 conv=>arg 8;simp only[zJ,cL,ret,id_eq,E9]
 conv=>arg 7;simp only[E9]
 refine aM (ea (i:=0) I (gB _ _ _ _)) ?_
 try refine GW ?_
 refine aL I (iv (i:=0) 13 (cs:=gI (D2:Int) [] (if D4=0 then 15 else 9)) (tl':=fR m.g.aR m.g.bC vp m.mode vr va vg++rA ⟨kg,l4,ee,[],ended,aD,D2,[],if D4=0 then 15 else 9,0,[],p,seen,ry,rD,wait,cr,gone,aE,fS,pl⟩ _ [a0,a1,a2,a3,a4,a5,a6,a7] uw) I I I I I I dS I I ?_);refine zL ?_;refine aM (ea (i:=0) I (gB _ _ _ _)) ?_
 try refine GW ?_
 refine aL I (sJ (i:=0) 16 (tl':=fR m.g.aR m.g.bC vp m.mode vr va vg++rA ⟨kg,l4,ee,[],ended,aD,D2,[],if D4=0 then 15 else 9,D4,[],p,seen,ry,rD,wait,cr,gone,aE,fS,pl⟩ _ [a0,a1,a2,a3,a4,a5,a6,a7] uw) I I I I I I dS I I ?_);refine aM (ea (i:=0) I (gB _ _ _ _)) ?_
 try refine GW ?_
 repeat(first|refine GA ?_|refine gV (aC aK.ty I (aH (i:=0) I (fD dS I I))) ?_)
 refine Sk (i:=1) (j:=4) I I I I (M5 _) (by simp only[gU];omega) (by simp only[gU];omega) I λv2=>?_;refine Sj (i:=1) I λb2 c2 lz _ _ _=>?_
 try refine GA ?_
 refine dW (i:=0) 17 I I I (by rw[lz];rfl) (by rw[lz];rfl) I dS I ?_
 try refine GA ?_
 exact kY I λw hm=>hm.cB (S:=tb b g vo PK (fR m.g.aR m.g.bC vp m.mode vr va vg) ⟨kg,l4,ee,[],ended,aD,D2,[],if D4=0 then 15 else 9,D4,D1,p,seen,ry,rD,wait,cr,gone,aE,fS,pl⟩ uq) (v2,up,uw) trivial [0,1,2,3] aiz (by
  have aeV:iR b ⟨kg,l4,ee,[],ended,aD,D2,[],if D4=0 then 15 else 9,D4,D1,p,seen,ry,rD,wait,cr,gone,aE,fS,pl⟩ up uq=[a0,a1,a2,a3,a4,a5,a6,a7]:=wI;simp only[tb,gv,aeV,toP,gU,cV,Zx,eJ];rfl)
set_option maxRecDepth 100000 in
theorem M9(x:Value)(m:Md){vo vn vt vp vr va vg ut up uq uw:Value}(b:Bool)(T N:Nat)(hk:jq m b T N)(g:Nat)(s:fJ)(hs:fC m b s)(kQ:s.over=aE)(qD:s.ed=[])(hb:s.bad=0)(Fh:s.kr=[])(wo:s.ma=aD)(hw:s.wait.length<200)(w:World)(B:bR)(hR:nJ B λw=>Ct w x m vo vn vt vp vr va vg)
 (hm:Mem B (gv b g vo (eP m.o vn vt) (fR m.g.aR m.g.bC vp m.mode vr va vg) s ut up uq uw) w):
 Calls aB 32 #[aJ (aj ⟨g,0,ak⟩)] w (dc (tb b g vo (eP m.o vn vt) (fR m.g.aR m.g.bC vp m.mode vr va vg) (jr m b s) uq) B):=by
 have dS:(eP m.o vn vt).length=258:=fH _ _ _;obtain⟨l1,l2,l3⟩:=hs.live kQ;have Ks:s.ee<=4096:=by have:=hs.Cg;have:=hs.kg;omega
 unfold gv at hm;have Kz:=zv hs;have hse:s.seen<=4096:=by have:=hs.seen;have:=hs.kr;omega
 have U3:=λog w' B hR hm=>M6 x m (ut:=og) (up:=up) (uq:=uq) (uw:=uw) (vo:=vo) (vn:=vn) (vt:=vt) (vp:=vp) (vr:=vr) (va:=va) (vg:=vg) b T N hk g s l3 l1 l2 J Kz J w' B hR hm;have hst:=λ(s':fJ) og Ju ZY (e:Int) pl h8 w' B hm=>oh (g:=g) (vo:=vo) (vt:=og) (vw:=Ju) (pc:=ZY) dS (show(fR m.g.aR m.g.bC vp m.mode vr va vg).length=7 from I) h8 s' e pl w' B hm;have A3:jr m b s=kJ (pN m b s).1 (pN m b s).2 s.ee:=by unfold jr;rw[qD,Fh];dsimp only;rw[if_neg (by rw[hb];decide),if_neg (by rw[wo];decide)]
 rw[A3];have hR1:(pN m b s).1.ee=s.ee/\(pN m b s).1.ed=[]:=⟨rfl,qD⟩;obtain⟨at',ct,rfl,q1,q2,-⟩:=lV (hm.get (i:=1) rfl);generalize pN m b s=R at*;obtain⟨R1,R2⟩:=R;obtain⟨e1,e2⟩:=hR1;dsimp only at e1 e2 U3⊢;clear A3 hs;have Bl:∀ZZ vq,(iR b R1 ZZ vq).length=8:=by cases b<;>exact λ_ _=>rfl
 have A7:(kJ R1 R2 s.ee).p=R1.p/\(kJ R1 R2 s.ee).wait=R1.wait/\(kJ R1 R2 s.ee).ed=[]/\∀ZZ vq,iR b (kJ R1 R2 s.ee) ZZ vq=iR b R1 ZZ vq:=⟨rfl,rfl,e2,λ_ _=>rfl⟩;obtain⟨s1,s2,s3,s4⟩:=A7;rw[qD]at hm;simp only[gU]at hm;obtain⟨a0,a1,a2,a3,a4,a5,a6,a7,wI⟩:=Qr b s up uq;rw[wI]at hm;have U3:=λog w' B hR (hm:Mem B [qL g vo (eP m.o vn vt) (fR m.g.aR m.g.bC vp m.mode vr va vg) s og [a0,a1,a2,a3,a4,a5,a6,a7] uw,pO b up s.p,kM uw s.wait] w')=>U3 og w' B hR (by rw[wI];exact hm);refine dA hm (args:=[aJ (aj ⟨g,0,ak⟩)]) (n:=160) Tryz.func32 I I I ?_
 repeat(first|refine GC ?_|refine gV (aC (v:=av az 0) aK.ty I (aH (i:=0) I (fD dS I (by rw[<-hb];rfl)))) ?_|refine gV (aC (v:=str []) aK.ty I (aH (i:=0) I (fD dS I (by rw[<-Fh];rfl)))) ?_|refine gV (aC (v:= .bool aD) aK.ty I (aH (i:=0) I (fD dS I (by rw[<-wo];rfl)))) ?_|refine gV (aC aK.ty I (aH (i:=0) I (fD dS I I))) ?_|refine gV (kA (b:=aE) I I I) ?_|refine GB ?_)
 refine bx [0,2,3] [1] aiz I I (iM aI.en I I) (λw hm hb=>U3 _ w _ (hR.on (hm.pick [0,2,3] aiz I)) hb) I I I ?_;rintro⟨v1,v2⟩ _
 conv=>arg 8;simp only[zJ,cL,ret,id_eq,psX]
 conv=>arg 7;simp only[psX]
 repeat(first|refine GA ?_|refine gV (aC (v:=av az (s.ee:Int)) aK.ty I (aH (i:=2) I (fD dS I (by rw[<-e1];rfl)))) ?_)
 refine bx [2] [0,1,3] aiz I I (sZ aI.en I I I I) (λw hm hb=>hst R1 _ v2 _ R2 s.ee (Bl _ _) w _ hb) I I I ?_;intro _ _;refine zL ?_
 try refine GA ?_
 exact kY I λw hm=>hm.cB (S:=tb b g vo (eP m.o vn vt) (fR m.g.aR m.g.bC vp m.mode vr va vg) (kJ R1 R2 s.ee) uq) (_,v1,v2) trivial [3,0,1,2] aiz (by simp only[tb,gv,s1,s2,s3,s4];rfl)
theorem J3(x:Value)(m:Md){vo vn vt vp vr va vg ut up uq uw:Value}(b:Bool)(T N:Nat)(hk:jq m b T N)(g:Nat)(s:fJ)(hs:fC m b s)(kQ:s.over=aE)(hw:s.wait.length<200)(w:World)(B:bR)(hR:nJ B λw=>Ct w x m vo vn vt vp vr va vg)
 (hm:Mem B (gv b g vo (eP m.o vn vt) (fR m.g.aR m.g.bC vp m.mode vr va vg) s ut up uq uw) w):
 Calls aB 32 #[aJ (aj ⟨g,0,ak⟩)] w (dc (tb b g vo (eP m.o vn vt) (fR m.g.aR m.g.bC vp m.mode vr va vg) (jr m b s) uq) B):=by
 cases h1:s.ed with
 |cons t l=>exact M7 x m b T N hk g s hs kQ t l h1 hw w B hR hm
 | nil =>
  by_cases h2:s.bad=0
  ·cases h3:s.kr with
   |cons c r=>exact J2 x m b T N hk g s hs kQ h1 h2 c r h3 w B hR hm
   | nil=>
    cases h4:s.ma with
    |false=>exact F_ x m b T N hk g s hs kQ h1 h2 h3 h4 w B hR hm
    |true=>exact M9 x m b T N hk g s hs kQ h1 h2 h3 h4 hw w B hR hm
  exact M8 x m b T N hk g s hs kQ h1 h2 w B hR hm
end bZ
end Go.Proofs.YtaobbfedlnddcaaGreat

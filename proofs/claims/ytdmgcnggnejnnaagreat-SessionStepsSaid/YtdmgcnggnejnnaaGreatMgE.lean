/- Part 5 of what SessionSteps needs: ClimbD, ClimbE, BuC, DfX, DfM, PlacesG, ClassP, DfQ, SmPL, SpecN, SmPk, SmUp, SmCk, SpecRt, LexL, LexA, LexB, SmBk, LexN, WhL, FeedL, FeedP, SeL, Half, WhC, FeedA, FeedB, FeedC, SeM, SeN, SpecP, SpecQ, SpecC, BoolC, SpecU, SpecH. -/
import Derived.Test.YtdmgcnggnejnnaaGreatMgD
namespace Go.Proofs.YtdmgcnggnejnnaaGreat
set_option linter.unusedVariables false
set_option linter.unusedSimpArgs false
open _root_.And renaming intro->dh
open _root_.Array renaming ext'->qJ
open _root_.Array.mk renaming injEq->pv
open _root_.Bool renaming false->aE,true->aD,eq_false_iff->vz,true_and->EE,or_eq_false_iff->Dd,false_and->Pj
open _root_.Decidable renaming of_not_not->s7
open _root_.Go.Instr renaming build->dR
open _root_.Go.IntKind renaming i64->az,bits->lB,signed->oY
open _root_.Go.Op renaming equalIn->oZ
open _root_.Go.Proofs.Tryz renaming prog->aC
open _root_.Go.Value renaming slice->ap,int->av,pointer->aK,agg->aU,oneCell'->fG,cells->vV
open _root_.Go.Value.agg renaming injEq->k7
open _root_.Go.World renaming block_lt_of_cell?->np
open _root_.Int renaming toNat_natCast->dP,le_refl->k8
open _root_.List renaming getElem?_eq_getElem->bQ,getD_eq_getElem?_getD->cK,length_append->bT,getElem?_eq_some_iff->dv,getElem_mem->cV,length_cons->dE,all_cons->dw,drop_eq_getElem_cons->ff,replicate->dJ,all_nil->dA,mem_singleton->ep,getElem?_append_left->fH,length_map->dX,size_toArray->eE,take_succ_eq_append_getElem->ia,append_nil->eB,append_assoc->eZ,map_append->ft,getElem?_map->fx,mem_cons->ez,take_of_length_le->gj,flatMap_append->fV,nil_append->fg,getElem?_append_right->mC,mem_append->fC,range->eG,length_nil->gJ,mem_map->e7,drop_of_length_le->je,getElem?_toArray->kt,length_drop->iv,mem_cons_self->ir,mem_iff_getElem->jt,map_cons->gu,getElem?_eq_none->jE,mem_cons_of_mem->mb,eq_nil_of_length_eq_zero->si,not_mem_nil->iD,length_singleton->ky,drop_eq_nil_of_le->pO,cons_append->ku,take_length->nE,all_eq_true->sk,take_succ_cons->sm,map_set->sF,drop_length->xW,map_nil->o7,drop_succ_cons->Ax,flatten_append->AO,map_replicate->AH,getElem?_cons_succ->CH,length_reverse->Pk,set_append->AP,map_singleton->Ed,take->Pl,drop->Pm
open _root_.List.cons renaming injEq->ib
open _root_.Nat renaming le_refl->bJ,zero_le->bO,zero_add->du,blt->dM,lt_of_lt_of_le->jf,le_of_ble_eq_true->mH,lt_succ_self->ox,not_lt_zero->mc,add_zero->iO,le_add_right->Af,blt_eq->AI
open _root_.Ne renaming symm->zV
open _root_.Option renaming some->aj,none->ak,getD_some->lf
open _root_.Option.some renaming injEq->dB
open _root_.Prod renaming fst->AQ,snd->AR
open _root_.Prod.mk renaming injEq->gH
open _root_.True renaming intro->dl
open _root_.Vector renaming replicate->eS,getElem_ofFn->lK,getElem_toList->oy,ext->kE,getElem_set->vB,toList_replicate->Pn,getElem_set_ne->Po,ofFn->AJ,getElem_set_self->Yf,toList_set->Yg
set_option maxHeartbeats 16000000
namespace cZ
open Go.RowKit dr eH aV ey fJ
theorem TC(w:World):(dR 148 #[(0,av az 2)]).run aC w= .ok (aU (eX (2,0)).toArray) w:=by
 unfold eX;go_simp
theorem TE(g:Nat)(w:World):(dR 158 #[(0,ap (aj ⟨g,0,ak⟩) 1 1)]).run aC w= .ok (tk (ap (aj ⟨g,0,ak⟩) 1 1) 0 0 aE) w:=by
 unfold tk;go_simp
def Cr:Spec Value:=⟨λ_=>True,λvt=>tk vt 0 0 aE,λvt=>[wK vt [.sym (2,0)]]⟩
set_option maxRecDepth 100000 in
theorem AS(w:World):Calls aC 65 #[] w (cY Cr w):=by
 refine enter (args:=[]) (n:=5) Tryz.func65 I I I ?_;refine bC (aM (bz I λg2=>?_));refine zL ?_
 repeat(first|refine QZ ?_|refine QV (bP I TC) ?_|refine QV (bP I (GV (2,0))) ?_)
 refine im (cs:=(wY (.sym (2,0))).toArray) [JV (.sym (2,0))] I I I (by intro v hv;simp at hv;subst hv;rfl) I I I λg3=>?_;refine zL ?_
 repeat(first|refine QZ ?_|refine QV (bP I (TE _)) ?_)
 refine il 0 (cs':=#[ap (aj ⟨g3,0,ak⟩) 1 1,av az 0,av az 0,.bool aE]) ?_;refine zL ?_;refine yr (i:=1) 4 I I J ?_;refine zL ?_
 try refine GA ?_
 exact h_ (i:=0) I I I I λw hm=>hm.meets (S:=Cr) (ap (aj ⟨g3,0,ak⟩) 1 1) trivial [1] ahk I
theorem Yh(t n:Int)(bp:Option Addr)(mp cp:Nat)(bt:Option Addr)(mt ct:Nat)(w:World):(dR 329 #[(0,ee t n (ap bp mp cp)),(1,ap bt mt ct)]).run aC w= .ok (.agg (Lg t n (ap bp mp cp) (ap bt mt ct) (ap ak 0 0) 0)) w:=by
 unfold ee Lg;go_simp
def Jc(t n:Int)(vp:Value)(st:List TD):Spec (Nat×Value):=⟨λ_=>True,λx=>aK (aj ⟨x.1,0,ak⟩),λx=>[x7 x.1 t n vp x.2 (ap ak 0 0) 0,wK x.2 st]⟩
theorem Bx(t n:Int)(vp vt:Value)(st:List TD)(seen over:Int)(done:Bool)(w:World)(ht:TdR w vt st)(hl:st.length<=60)(hvp:∃b m c,vp=ap b m c):
 Calls aC 165 #[ee t n vp,tk vt seen over done] w (cY (Jc t n vp st) w):=by
 have lz:=λw' (hg:Gr w w')=>D9 vt st.reverse w' (by rw[Pk];exact ht.gr hg) (by rw[Pk];omega);rw[Pk]at lz;obtain⟨bp,mp,cp,rfl⟩:=hvp;refine enter (args:=[ee t n (ap bp mp cp),tk vt seen over done]) (n:=11) Tryz.func165 I I I ?_;refine bC (aM (b_ I I I λg0=>b_ I I I λg1=>?_));refine zL ?_
 try refine GA ?_
 refine eo ([aR g0 (ee t n (ap bp mp cp)).cells 33,aR g1 (tk vt seen over done).cells 158]) (.calm 0 (.calm 1 (.calm 2 (.one 3 (.calm 4 (.one 5 (.calm 6 (.done)))))))) (λ_ h=>h) ?_
 repeat(first|refine GW ?_|(refine GN ?_;first|refine QW (aQ (i:=0) aL.ty I I I) ?_|refine QW (aB (v:=vt) aL.ty I (aH (i:=1) I I)) ?_))
 refine aO I ?_;refine a8 (ju aJ.en I I) (λw hm=>lz _ hm.below) I I I ?_;intro oL _;refine zL ?_;refine nJ (i:=2) I λbt ct hv q1 q2=>?_;subst hv;refine aP (cH [0,1]) ?_
 repeat(first|refine GW ?_|(refine GN ?_;first|refine QW (bP I (Yh _ _ _ _ _ _ _ _)) ?_))
 refine aO I (b_ I I I λg2=>?_);refine zL ?_;refine aP (cH [0,1]) ?_
 try refine GW ?_
 try refine GA ?_
 exact da I I λw hm=>hm.meets (S:=Jc t n (ap bp mp cp) st) (g2,ap bt st.length ct) trivial [3,2] ahk I
theorem LU{l:List aV.Prod}{nx:Int->Int}{st:List TD}{seen:Nat}{t:Int}{st1:List TD}{ig:List dV}{a1:Nat}{e:Int}(hD:f_ l nx 2001 st [] 0=(st1,ig,a1,e))(he:e≠0):ko l nx st seen t=(e,[],[]):=by
 unfold ko;rw[hD];dsimp only;rw[if_pos he]
theorem Yi{l:List aV.Prod}{nx:Int->Int}{st:List TD}{seen:Nat}{t:Int}{ig:List dV}{a1:Nat}(hD:f_ l nx 2001 st [] 0=([],ig,a1,0)):ko l nx st seen t=(13,[],[]):=by
 unfold ko;rw[hD];dsimp only;rw[if_neg ahk]
theorem Yj{l:List aV.Prod}{nx:Int->Int}{st:List TD}{seen:Nat}{t:Int}{x:dV}{r:List TD}{ig:List dV}{a1:Nat}(hD:f_ l nx 2001 st [] 0=(.sym x::r,ig,a1,0)):ko l nx st seen t=if x.2≠t then(13,[],[])else if a1+1<=2000/\(bZ r (ig++[(2,(seen:Int))]) (a1+1)).2.2.2=aD then(0,(bZ r (ig++[(2,(seen:Int))]) (a1+1)).1,(bZ r (ig++[(2,(seen:Int))]) (a1+1)).2.1)else(14,[],[]):=by
 unfold ko;rw[hD];dsimp only;rw[if_neg ahk]
theorem Ri{l:List aV.Prod}{nx:Int->Int}{st:List TD}{st1:List TD}{ig:List dV}{a1:Nat}{e:Int}(hD:f_ l nx 2001 st [] 0=(st1,ig,a1,e))(he:e≠0):jK l nx st=(e,[]):=by
 unfold jK;rw[hD];dsimp only;rw[if_pos he]
theorem aaY{l:List aV.Prod}{nx:Int->Int}{st:List TD}{ig:List dV}{a1:Nat}(hD:f_ l nx 2001 st [] 0=([],ig,a1,0)):jK l nx st=(0,ig):=by
 unfold jK;rw[hD];dsimp only;rw[if_neg ahk]
theorem aaZ{l:List aV.Prod}{nx:Int->Int}{st:List TD}{x:dV}{r:List TD}{ig:List dV}{a1:Nat}(hD:f_ l nx 2001 st [] 0=(.sym x::r,ig,a1,0)):jK l nx st=(13,[]):=by
 unfold jK;rw[hD];dsimp only;rw[if_neg ahk]
def tm(seen:Int)(R:Int×List TD×List dV):Spec (Value×Value):=
 ⟨λ_=>True,λx=>if R.1=0 then .tuple #[tk x.1 (seen+1) 0 aE,x.2,av az 0]else .tuple #[tk (ap ak 0 0) seen R.1 aE,ap ak 0 0,av az R.1],λx=>if R.1=0 then [wK x.1 R.2.1,lu x.2 R.2.2]else []⟩
theorem lx(seen e:Int)(w:World):(dR 158 #[(1,av az seen),(2,av az e)]).run aC w= .ok (tk (ap ak 0 0) seen e aE) w:=by
 unfold tk;go_simp
theorem TF(b:Option Addr)(m c:Nat)(seen:Int)(w:World):(dR 158 #[(0,ap b m c),(1,av az seen)]).run aC w= .ok (tk (ap b m c) seen 0 aE) w:=by
 unfold tk;go_simp
theorem BX(v vr vt:Value)(g:eL)(ll:List (List Int))(T N:Nat)(st:List TD)(seen t:Nat)(w:World)(h:kz (λk=>k<w.heap.size) w v g)(hr:za w vr ll)(ht:TdR w vt st)(h0:Es g ll=0)(hg:cL g=0)(hT:Ez g ll T N)(hs:∀d∈st,qZ g d)(hl:st.length<=60)(h1:seen<=1000000)(h2:t<T):
 Calls aC 138 #[v,vr,tk vt (seen:Int) 0 aE,av az (t:Int)] w (cY (tm (seen:Int) (ko g.aF (ja ll t) st seen (t:Int))) w):=by
 have jr:=λw' (yC:Gr w w')=>rX v vr vt g ll st (seen:Int) (t:Int) w' (h.gr yC) (hr.gr yC) (ht.gr yC) h0 hs hl J J J (by have:=hT.aT;omega);have G':=hT.aT;obtain⟨vp,rfl,hp,_⟩:=h;have BH:=λw' (yC:Gr w w')=>Bx g.aT g.bM vp vt st (seen:Int) 0 aE w' (ht.gr yC) hl (by obtain⟨b,c,e,_⟩:=hp;exact⟨b,_,c,e⟩);have hdw:=λgw Xg Xh w' B ho hm=>Bt w gw g.aT g.bM vp vr g ll T N t hp hr hg hT J Xg Xh st w' B hs hl ho hm;have X_:=λR=>@yY g.aF (ja ll t) 2001 st [] 0 R;have hdt:=λR=>@vj g.aF (ja ll t) 2001 st [] 0 R;have hde:=@vh g.aF (ja ll t) 2001 st [] 0;generalize hD:f_ g.aF (ja ll t) 2001 st [] 0=D at*;obtain⟨st1,ig,a1,e⟩:=D;have X_:=λh=>X_ _ I h hl J;have hdt:=λh=>hdt _ I h;dsimp only at*;refine enter (args:=[ee g.aT g.bM vp,vr,tk vt (seen:Int) 0 aE,av az (t:Int)]) (n:=96) Tryz.func138 I I I ?_;refine bC (aM (b_ I I I λg0=>b_ I I I λg1=>bz I λg2=>?_));refine zL ?_
 repeat(first|refine GA ?_|refine gV (aB (v:=av az g.aT) aL.ty I (aH (i:=0) I I)) ?_|refine gV (aQ (i:=0) aL.ty I I I) ?_|refine gV (aQ (i:=1) aL.ty I I I) ?_)
 refine a8 (RT aJ.en I I I I I) (λw hm=>jr _ hm.below) I I I ?_;intro _ _;refine zL ?_
 repeat(first|refine GA ?_|refine gV (aQ (i:=0) aL.ty I I I) ?_|refine gV (aQ (i:=1) aL.ty I I I) ?_)
 refine a8 (gK aJ.en I I I) (λw hm=>BH _ hm.below) I I I ?_;rintro⟨gw,Xj⟩ _
 conv=>arg 8;simp only[zJ,dg,ret,id_eq,Jc]
 try refine GA ?_
 refine wg 55 2 ?_;refine zL ?_;refine bK [3,4,5] [0,1,2] ahk I I (tH aJ.en I I I I) (λw' hm hb=>hdw gw Xj _ w' _ ((p_.self w).on hm λo h=>DG h) hb) I I I ?_;rintro⟨QX,Uf⟩ _
 conv=>arg 8;simp only[zJ,dg,ret,id_eq,Ze]
 conv=>arg 7;simp only[Ze]
 rcases hde with rfl|rfl|rfl
 ·obtain⟨hd1,hd2,hd3,hd4⟩:=X_ rfl
  rcases hdt rfl with rfl|⟨x,r,rfl,hx⟩
  ·rw[Yi hD]
   try refine GA ?_
   refine eo ([x7 gw g.aT g.bM vp QX Uf a1,wK QX []]) (.calm 0 (.calm 1 (.calm 2 (.calm 3 (.calm 4 (.calm 5 (.calm 6 (.calm 7 (.calm 8 (.calm 9 (.calm 10 (.calm 11 (.calm 12 (.calm 13 (.calm 14 (.calm 15 (.calm 16 (.calm 17 (.calm 18 (.calm 19 (.calm 20 (.calm 21 (.calm 22 (.calm 23 (.calm 24 (.calm 25 (.calm 26 (.calm 27 (.done))))))))))))))))))))))))))))) (cH [3,4]) ?_
   repeat(first|(refine GN ?_;first|refine QW QP ?_|refine QW (aB (v:=QX) aL.ty I (aH (i:=0) I I)) ?_|refine QW (aX (b:=aD) I I I) ?_|refine QW (fy (i:=1) bR.eq I I) ?_|refine GX ?_)|refine GW ?_)
   repeat(first|refine GA ?_|refine gV (aB (v:=av az (seen:Int)) aL.ty I (aH (i:=1) I I)) ?_|refine gV (bP I (lx _ _)) ?_)
   refine il 2 (cs':=#[ap ak 0 0,av az (seen:Int),av az 13,.bool aE]) ?_;refine zL ?_
   try refine GA ?_
   exact fN (i:=2) I I I I I I λw hm=>hm.meets (S:=tm (seen:Int) (13,[],[])) (ap ak 0 0,ap ak 0 0) trivial [] ahk I
  rw[Yj hD];obtain⟨k,m⟩:=x;dsimp only at hx;subst hx;simp only[dE]at hd1
  try refine GA ?_
  refine xC (i:=4) I (by simp) λgt ct hv q1 q2=>?_;subst hv;simp only[dE]at*
  by_cases c1:m≠(t:Int)
  ·rw[if_pos c1]
   refine eo ([x7 gw g.aT g.bM vp (ap (aj ⟨gt,0,ak⟩) (r.length+1) ct) Uf a1,wK (ap (aj ⟨gt,0,ak⟩) (r.length+1) ct) (.sym (1,m)::r)]) (.calm 0 (.calm 1 (.calm 2 (.calm 3 (.calm 4 (.calm 5 (.calm 6 (.calm 7 (.calm 8 (.calm 9 (.calm 10 (.calm 11 (.calm 12 (.calm 13 (.calm 14 (.calm 15 (.calm 16 (.calm 17 (.calm 18 (.calm 19 (.calm 20 (.calm 21 (.calm 22 (.calm 23 (.calm 24 (.calm 25 (.calm 26 (.calm 27 (.done))))))))))))))))))))))))))))) (cH [3,4]) ?_
   repeat(first|(refine GN ?_;first|refine QW QP ?_|refine QW (aB (v:=ap (aj ⟨gt,0,ak⟩) (r.length+1) ct) aL.ty I (aH (i:=0) I I)) ?_|refine QW (aX (b:=aD) I I I) ?_|refine QW (aX (b:=aE) I I (decide_eq_false J)) ?_|refine QW (aB (v:=av az m) aL.ty I (Bm (i:=1) I 3 _ I)) ?_|refine QW (bm (b:=aD) I I (decide_eq_true c1)) ?_|refine QW (df (r:=(r.length:Int)) I I J J J) ?_|refine QW (a_ (j:=r.length) bR.eq aL.ty I I J) ?_|refine GX ?_)|refine GW ?_)
   repeat(first|refine GA ?_|refine gV (aB (v:=av az (seen:Int)) aL.ty I (aH (i:=1) I I)) ?_|refine gV (bP I (lx _ _)) ?_)
   refine il 2 (cs':=#[ap ak 0 0,av az (seen:Int),av az 13,.bool aE]) ?_;refine zL ?_
   try refine GA ?_
   exact fN (i:=2) I I I I I I λw hm=>hm.meets (S:=tm (seen:Int) (13,[],[])) (ap ak 0 0,ap ak 0 0) trivial [] ahk I
  rw[if_neg c1];obtain rfl:m=(t:Int):=by simpa using c1
  refine eo ([x7 gw g.aT g.bM vp (ap (aj ⟨gt,0,ak⟩) (r.length+1) ct) Uf a1,wK (ap (aj ⟨gt,0,ak⟩) (r.length+1) ct) (.sym (1,(t:Int))::r)]) (.calm 0 (.calm 1 (.calm 2 (.calm 3 (.calm 4 (.calm 5 (.calm 6 (.calm 7 (.calm 8 (.calm 9 (.calm 10 (.calm 11 (.calm 12 (.calm 13 (.calm 14 (.calm 15 (.calm 16 (.calm 17 (.calm 18 (.calm 19 (.calm 20 (.calm 21 (.calm 22 (.calm 23 (.calm 24 (.calm 25 (.calm 26 (.calm 27 (.done))))))))))))))))))))))))))))) (cH [3,4]) ?_
  repeat(first|(refine GN ?_;first|refine QW QP ?_|refine QW (aB (v:=ap (aj ⟨gt,0,ak⟩) (r.length+1) ct) aL.ty I (aH (i:=0) I I)) ?_|refine QW (aX (b:=aD) I I I) ?_|refine QW (aX (b:=aE) I I (decide_eq_false J)) ?_|refine QW (aB (v:=av az (t:Int)) aL.ty I (Bm (i:=1) I 3 _ I)) ?_|refine QW (bm (b:=aE) I I (decide_eq_false (by simp))) ?_|refine QW (df (r:=(r.length:Int)) I I J J J) ?_|refine QW (a_ (j:=r.length) bR.eq aL.ty I I J) ?_|refine GX ?_)|refine GW ?_)
  repeat(first|refine GC ?_|refine gV (aX (b:=aD) I I I) ?_|refine GB ?_)
  refine bK [3,4] [0,1,2,5] ahk I I (ju aJ.en I I) (λw hm hb=>AF gw g.aT g.bM vp _ Uf (.sym (1,(t:Int))) r a1 w _ J hb) I I I ?_;intro QY _;refine zL ?_;dsimp only
  repeat(first|refine GA ?_|refine gV (aB (v:=av az (seen:Int)) aL.ty I (aH (i:=1) I I)) ?_)
  refine bK [4,3] [0,1,2,5] ahk I I (tH aJ.en I I I I) (λw hm hb=>AE gw g.aT g.bM vp QY Uf ig a1 2 (seen:Int) w _ (by simp at hd3;omega) J hb) I I I ?_;intro vo3 _;refine zL ?_;dsimp only
  by_cases c2:a1+1<=2000
  ·rw[decide_eq_true (show((a1+1:Nat):Int)<=2000 by omega)]
   try refine GA ?_
   refine B8 I I I ?_;refine bK [4,3,5] [0,1,2] ahk I I (ju aJ.en I I) (λw hm hb=>rN gw g.aT g.bM vp QY vo3 r (ig++[(2,(seen:Int))]) (a1+1) w _ J c2 (by simp at hd3⊢;omega) hb) I I I ?_;rintro⟨vt4,vo4⟩ _
   conv=>arg 8;simp only[zJ,dg,ret,id_eq,clS]
   conv=>arg 7;simp only[clS]
   generalize bZ r (ig++[(2,(seen:Int))]) (a1+1)=C;obtain⟨st3,agy,a3,ok⟩:=C;dsimp only
   cases ok with
   | true=>
    rw[if_pos ⟨c2,rfl⟩]
    repeat(first|refine GC ?_|refine gV (aX (b:=aD) I I I) ?_|refine GB ?_)
    refine HV (i:=4) I λbt ct' hv q3 q4=>?_;subst hv;refine eo ([x7 gw g.aT g.bM vp (ap bt st3.length ct') vo4 a3,aR g1 (tk vt (seen:Int) 0 aE).cells 158]) (.calm 0 (.calm 1 (.calm 2 (.calm 3 (.calm 4 (.calm 5 (.calm 6 (.calm 7 (.calm 8 (.calm 9 (.calm 10 (.calm 11 (.one 12 (.calm 13 (.calm 14 (.done)))))))))))))))) (cH [3,1]) ?_
    repeat(first|refine GW ?_|(refine GN ?_;first|refine QW (aB (v:=ap bt st3.length ct') aL.ty I (aH (i:=0) I I)) ?_|refine QW (aB (v:=av az (seen:Int)) aL.ty I (aH (i:=1) I I)) ?_|refine QW (aB (v:=vo4) aL.ty I (aH (i:=0) I I)) ?_|refine QW (bP I (TF _ _ _ _)) ?_))
    refine aO I (aZ (i:=2) (cs':=#[ap bt st3.length ct',av az ((seen:Int)+1),av az 0,.bool aE]) I I I I I I (aP (cH [3,1]) ?_))
    try refine GW ?_
    try refine GA ?_
    exact fN (i:=2) I I I I I I λw hm=>hm.meets (S:=tm (seen:Int) (0,st3,agy)) (ap bt st3.length ct',vo4) trivial [4,5] ahk I
   | false=>
    rw[if_neg (by rintro⟨_,h⟩;cases h)]
    try refine GA ?_
    repeat(first|refine GA ?_|refine gV (aB (v:=av az (seen:Int)) aL.ty I (aH (i:=1) I I)) ?_|refine gV (bP I (lx _ _)) ?_)
    refine il 2 (cs':=#[ap ak 0 0,av az (seen:Int),av az 14,.bool aE]) ?_;refine zL ?_
    try refine GA ?_
    exact fN (i:=2) I I I I I I λw hm=>hm.meets (S:=tm (seen:Int) (14,[],[])) (ap ak 0 0,ap ak 0 0) trivial [] ahk I
  rw[if_neg (by rintro⟨h,_⟩;exact c2 h)];rw[decide_eq_false (show ¬((a1+1:Nat):Int)<=2000 by omega)]
  try refine GA ?_
  repeat(first|refine GA ?_|refine gV (aB (v:=av az (seen:Int)) aL.ty I (aH (i:=1) I I)) ?_|refine gV (bP I (lx _ _)) ?_)
  refine il 2 (cs':=#[ap ak 0 0,av az (seen:Int),av az 14,.bool aE]) ?_;refine zL ?_
  try refine GA ?_
  exact fN (i:=2) I I I I I I λw hm=>hm.meets (S:=tm (seen:Int) (14,[],[])) (ap ak 0 0,ap ak 0 0) trivial [] ahk I
 ·rw[LU hD ahk]
  try refine GA ?_
  refine eo ([]) (.calm 0 (.calm 1 (.calm 2 (.calm 3 (.calm 4 (.calm 5 (.calm 6 (.calm 7 (.calm 8 (.calm 9 (.calm 10 (.calm 11 (.calm 12 (.calm 13 (.calm 14 (.calm 15 (.calm 16 (.calm 17 (.calm 18 (.calm 19 (.calm 20 (.calm 21 (.calm 22 (.calm 23 (.calm 24 (.calm 25 (.calm 26 (.calm 27 (.done))))))))))))))))))))))))))))) (cH []) ?_
  try refine GW ?_
  repeat(first|refine GA ?_|refine gV (aB (v:=av az (seen:Int)) aL.ty I (aH (i:=1) I I)) ?_|refine gV (bP I (lx _ _)) ?_)
  refine il 2 (cs':=#[ap ak 0 0,av az (seen:Int),av az 13,.bool aE]) ?_;refine zL ?_
  try refine GA ?_
  exact fN (i:=2) I I I I I I λw hm=>hm.meets (S:=tm (seen:Int) (13,[],[])) (ap ak 0 0,ap ak 0 0) trivial [] ahk I
 ·rw[LU hD ahk]
  try refine GA ?_
  refine eo ([]) (.calm 0 (.calm 1 (.calm 2 (.calm 3 (.calm 4 (.calm 5 (.calm 6 (.calm 7 (.calm 8 (.calm 9 (.calm 10 (.calm 11 (.calm 12 (.calm 13 (.calm 14 (.calm 15 (.calm 16 (.calm 17 (.calm 18 (.calm 19 (.calm 20 (.calm 21 (.calm 22 (.calm 23 (.calm 24 (.calm 25 (.calm 26 (.calm 27 (.done))))))))))))))))))))))))))))) (cH []) ?_
  try refine GW ?_
  repeat(first|refine GA ?_|refine gV (aB (v:=av az (seen:Int)) aL.ty I (aH (i:=1) I I)) ?_|refine gV (bP I (lx _ _)) ?_)
  refine il 2 (cs':=#[ap ak 0 0,av az (seen:Int),av az 14,.bool aE]) ?_;refine zL ?_
  try refine GA ?_
  exact fN (i:=2) I I I I I I λw hm=>hm.meets (S:=tm (seen:Int) (14,[],[])) (ap ak 0 0,ap ak 0 0) trivial [] ahk I
def Jd(seen:Int)(R:Int×List dV):Spec Value:=
 ⟨λ_=>True,λx=>if R.1=0 then .tuple #[tk (ap ak 0 0) seen 0 aD,x,av az 0]else .tuple #[tk (ap ak 0 0) seen R.1 aE,ap ak 0 0,av az R.1],λx=>if R.1=0 then [lu x R.2]else []⟩
theorem TG(seen:Int)(w:World):(dR 158 #[(1,av az seen),(3,.bool aD)]).run aC w= .ok (tk (ap ak 0 0) seen 0 aD) w:=by
 unfold tk;go_simp
theorem EF(v vr vt:Value)(g:eL)(ll:List (List Int))(T N:Nat)(st:List TD)(seen:Nat)(w:World)(h:kz (λk=>k<w.heap.size) w v g)(hr:za w vr ll)(ht:TdR w vt st)(h0:Es g ll=0)(hg:cL g=0)(hT:Ez g ll T N)(hs:∀d∈st,qZ g d)(hl:st.length<=60)(h1:seen<=1000000):
 Calls aC 144 #[v,vr,tk vt (seen:Int) 0 aE] w (cY (Jd (seen:Int) (jK g.aF (ja ll T) st)) w):=by
 have G':=hT.aT;have jr:=λw' (yC:Gr w w')=>rX v vr vt g ll st (seen:Int) g.aT w' (h.gr yC) (hr.gr yC) (ht.gr yC) h0 hs hl J J J J;obtain⟨vp,rfl,hp,_⟩:=h;have BH:=λw' (yC:Gr w w')=>Bx g.aT g.bM vp vt st (seen:Int) 0 aE w' (ht.gr yC) hl (by obtain⟨b,c,e,_⟩:=hp;exact⟨b,_,c,e⟩);have hdw:=λgw Xg Xh w' B ho hm=>Bt w gw g.aT g.bM vp vr g ll T N T hp hr hg hT J Xg Xh st w' B hs hl ho hm;rw[<-G']at hdw;have hdt:=λR=>@vj g.aF (ja ll T) 2001 st [] 0 R;have hde:=@vh g.aF (ja ll T) 2001 st [] 0;generalize hD:f_ g.aF (ja ll T) 2001 st [] 0=D at*;obtain⟨st1,ig,a1,e⟩:=D;have hdt:=λh=>hdt _ I h;dsimp only at*;refine enter (args:=[ee g.aT g.bM vp,vr,tk vt (seen:Int) 0 aE]) (n:=55) Tryz.func144 I I I ?_;refine bC (aM (b_ I I I λg0=>b_ I I I λg1=>bz I λg2=>?_));refine zL ?_
 repeat(first|refine GA ?_|refine gV (aB (v:=av az g.aT) aL.ty I (aH (i:=0) I I)) ?_|refine gV (aQ (i:=0) aL.ty I I I) ?_|refine gV (aQ (i:=1) aL.ty I I I) ?_)
 refine a8 (RT aJ.en I I I I I) (λw hm=>jr _ hm.below) I I I ?_;intro _ _;refine zL ?_
 repeat(first|refine GA ?_|refine gV (aQ (i:=0) aL.ty I I I) ?_|refine gV (aQ (i:=1) aL.ty I I I) ?_)
 refine a8 (gK aJ.en I I I) (λw hm=>BH _ hm.below) I I I ?_;rintro⟨gw,Xj⟩ _
 conv=>arg 8;simp only[zJ,dg,ret,id_eq,Jc]
 repeat(first|refine GA ?_|refine gV (aB (v:=av az g.aT) aL.ty I (aH (i:=0) I I)) ?_)
 refine wg 55 2 ?_;refine zL ?_;refine bK [3,4,5] [0,1,2] ahk I I (tH aJ.en I I I I) (λw' hm hb=>hdw gw Xj _ w' _ ((p_.self w).on hm λo h=>DG h) hb) I I I ?_;rintro⟨QX,Uf⟩ _
 conv=>arg 8;simp only[zJ,dg,ret,id_eq,Ze]
 conv=>arg 7;simp only[Ze]
 rcases hde with rfl|rfl|rfl
 ·rcases hdt rfl with rfl|⟨x,r,rfl,hx⟩
  ·rw[aaY hD]
   repeat(first|refine GC ?_|refine gV (aB (v:=QX) aL.ty I (aH (i:=3) I I)) ?_|refine gV (aX (b:=aD) I I I) ?_|refine gV (fy (i:=4) bR.eq I I) ?_|refine gV (bB (b:=aE) I I I) ?_|refine GB ?_)
   refine eo ([x7 gw g.aT g.bM vp QX Uf a1,aR g1 (tk vt (seen:Int) 0 aE).cells 158]) (.calm 0 (.calm 1 (.calm 2 (.calm 3 (.calm 4 (.calm 5 (.calm 6 (.one 7 (.calm 8 (.calm 9 (.done))))))))))) (cH [3,1]) ?_
   repeat(first|refine GW ?_|(refine GN ?_;first|refine QW (aB (v:=av az (seen:Int)) aL.ty I (aH (i:=1) I I)) ?_|refine QW (aB (v:=Uf) aL.ty I (aH (i:=0) I I)) ?_|refine QW (bP I (TG _)) ?_))
   refine aO I (aZ (i:=2) (cs':=#[ap ak 0 0,av az (seen:Int),av az 0,.bool aD]) I I I I I I (aP (cH [3,1]) ?_))
   try refine GW ?_
   try refine GA ?_
   exact fN (i:=2) I I I I I I λw hm=>hm.meets (S:=Jd (seen:Int) (0,ig)) Uf trivial [5] ahk I
  rw[aaZ hD]
  repeat(first|refine GC ?_|refine gV (aB (v:=QX) aL.ty I (aH (i:=3) I I)) ?_|refine gV (aX (b:=aD) I I I) ?_|refine gV (aB (v:=av az (seen:Int)) aL.ty I (aH (i:=1) I I)) ?_|refine gV (bP I (lx _ _)) ?_|refine gV (fy (i:=4) bR.eq I I) ?_|refine gV (bB (b:=aD) I I (decide_eq_true (by rw[dE];omega))) ?_|refine GB ?_)
  refine il 2 (cs':=#[ap ak 0 0,av az (seen:Int),av az 13,.bool aE]) ?_;refine zL ?_
  try refine GA ?_
  exact fN (i:=2) I I I I I I λw hm=>hm.meets (S:=Jd (seen:Int) (13,[])) (ap ak 0 0) trivial [] ahk I
 ·rw[Ri hD ahk]
  repeat(first|refine GA ?_|refine gV (aB (v:=av az (seen:Int)) aL.ty I (aH (i:=1) I I)) ?_|refine gV (bP I (lx _ _)) ?_)
  refine il 2 (cs':=#[ap ak 0 0,av az (seen:Int),av az 13,.bool aE]) ?_;refine zL ?_
  try refine GA ?_
  exact fN (i:=2) I I I I I I λw hm=>hm.meets (S:=Jd (seen:Int) (13,[])) (ap ak 0 0) trivial [] ahk I
 ·rw[Ri hD ahk]
  repeat(first|refine GA ?_|refine gV (aB (v:=av az (seen:Int)) aL.ty I (aH (i:=1) I I)) ?_|refine gV (bP I (lx _ _)) ?_)
  refine il 2 (cs':=#[ap ak 0 0,av az (seen:Int),av az 14,.bool aE]) ?_;refine zL ?_
  try refine GA ?_
  exact fN (i:=2) I I I I I I λw hm=>hm.meets (S:=Jd (seen:Int) (14,[])) (ap ak 0 0) trivial [] ahk I
end cZ
namespace cZ
open Go.RowKit dr eH aV ey fJ BK gB eg xN
abbrev Rj(g:eL)(T N:Nat):List (List Int):=lG N λn=>lG (T+1) (BK.rowAt g.aF (AL N g.aF) T n)
theorem LV{α:Type}{len:Nat}{f:Nat->α}{d:α}(k:Nat):(lG len f).getD k d=if k<len then f k else d:=by
 rw[cK]
 by_cases h:k<len
 rw[uG _ h,if_pos h];rfl;rw[jE (by rw[ic];omega),if_neg h];rfl
theorem ads{g:eL}{T N:Nat}(hT:g.aT=T)(hN:g.bM=N):Ez g (Rj g T N) T N where
 aT:=hT
 bM:=hN
 len:=ic _ _
 row r hr:=by
  obtain⟨n,_,rfl⟩:=e7.1 hr;exact ic _ _
 nx col n h0:=by
  unfold ja at h0⊢;rw[LV]at h0⊢
  by_cases h:n.toNat<N
  ·rw[if_pos h]at h0⊢
   rw[LV]at h0⊢
   by_cases h2:col<T+1
   ·rw[if_pos h2]at h0⊢
    refine⟨(uI n.toNat col g.aF.length).2,λhn=>?_⟩;have:=xQ (may:=AL N g.aF) (T:=T) n.toNat col g.aF.length (bJ _) h0;unfold BK.rowAt;rw[this];omega
   rw[if_neg h2]at h0;omega
  rw[if_neg h]at h0;have:([]:List Int).getD col (-1)= -1:=rfl;omega
theorem Ha{l:List aV.Prod}{n:Nat}:∀r:List Int,(∀p∈r,-1<=p/\p<(l.length:Int)/\(0<=p->(dC l p).1=(n:Int)))->s6 l n r=0
 |[],_=>rfl
 |p::r,h=>by
  have hp:=h p (ir ..);rw[s6,if_neg J,if_neg J,if_neg (by rintro⟨h1,h2⟩;exact h2 (hp.2.2 h1))];exact Ha r λp hp=>h p (mb _ hp)
theorem EG{l:List aV.Prod}{t:Int}:∀(rows:List (List Int)) (n:Nat),(∀i (h:i<rows.length),(rows[i].length:Int)=t+1/\s6 l (n+i) rows[i]=0)->qG l t n rows=0
 |[],_,_=>rfl
 | r ::rs,n,h=>by
  have h0:=h 0 (by simp);simp only[List.getElem_cons_zero,iO]at h0;rw[qG,if_neg (by simp[h0.1]),if_neg (by simp[h0.2])];exact EG rs (n+1) λi hi=>by
   have:=h (i+1) (by simp;omega);simp only[List.getElem_cons_succ]at this;rw[show n+1+i=n+(i+1)by omega];exact this
theorem LW{g:eL}{T N:Nat}(hg:cL g=0)(hT:g.aT=T)(hN:g.bM=N):Es g (Rj g T N)=0:=by
 unfold Es;rw[if_neg (by simp[hg]),ic,if_neg (by simp[hN])];refine EG _ 0 λi hi=>?_;rw[ic]at hi;have xU:(Rj g T N)[i]'(by rw[ic];exact hi)=lG (T+1) (BK.rowAt g.aF (AL N g.aF) T i):=by simp[lG]
 rw[xU];refine⟨by rw[ic,hT];rfl,Ha _ λp hp=>?_⟩;obtain⟨c,_,rfl⟩:=e7.1 hp;have h1:=uI (l:=g.aF) (may:=AL N g.aF) (T:=T) i c g.aF.length;refine⟨h1.1,h1.2,λh0=>?_⟩;rw[du];exact xQ (l:=g.aF) (may:=AL N g.aF) (T:=T) i c g.aF.length (bJ _) h0
theorem Yk(seen:Int)(st:List TD)(l:List dV):tm seen (0,st,l)=⟨λ_=>True,λx=> .tuple #[tk x.1 (seen+1) 0 aE,x.2,av az 0],λx=>[wK x.1 st,lu x.2 l]⟩:=by unfold tm;simp
theorem TH(seen:Int){e:Int}(he:e≠0)(st:List TD)(l:List dV):tm seen (e,st,l)=⟨λ_=>True,λx=> .tuple #[tk (ap ak 0 0) seen e aE,ap ak 0 0,av az e],λx=>[]⟩:=by unfold tm;simp[he]
theorem aa0(seen:Int)(l:List dV):Jd seen (0,l)=⟨λ_=>True,λx=> .tuple #[tk (ap ak 0 0) seen 0 aD,x,av az 0],λx=>[lu x l]⟩:=by unfold Jd;simp
theorem Yl(seen:Int){e:Int}(he:e≠0)(l:List dV):Jd seen (e,l)=⟨λ_=>True,λx=> .tuple #[tk (ap ak 0 0) seen e aE,ap ak 0 0,av az e],λx=>[]⟩:=by unfold Jd;simp[he]
end cZ
namespace cZ
open Go.RowKit dr eH aV ey eg bV dq
def EH(seen:Int)(R:Int×List Nat×List dV):Spec (Value×Value):=
 ⟨λ_=>True,λx=>if R.1=0 then .tuple #[vU x.1 (seen+1) 0 aE,x.2,av az 0]else .tuple #[vU (ap ak 0 0) seen R.1 aE,ap ak 0 0,av az R.1],λx=>if R.1=0 then [Rg x.1 R.2.1,lu x.2 R.2.2]else []⟩
theorem Hb{seen:Int}{σ:List Nat}{o:List dV}:EH seen (0,σ,o)=⟨λ_=>True,λx=> .tuple #[vU x.1 (seen+1) 0 aE,x.2,av az 0],λx=>[Rg x.1 σ,lu x.2 o]⟩:=by unfold EH;simp
theorem Hc{seen e:Int}(he:e≠0){x:List Nat×List dV}:EH seen (e,x)=⟨λ_=>True,λ_=> .tuple #[vU (ap ak 0 0) seen e aE,ap ak 0 0,av az e],λ_=>[]⟩:=by unfold EH;simp[he]
attribute [local irreducible] Instr.build in
theorem Je(v t vs:Value)(g:eL)(T N:Nat)(A:List (List bV.Act))(G:List (List Int))(sb:List Nat)(seen col:Nat)(w:World)(hG:kz (λk=>k<w.heap.size) w v g)(ht:AN w t A G)(hs:skR w vs sb)(hT:rW g T N A G)(hq:∀q∈sb,q<A.length)(hne:sb≠[])(hl:sb.length<=60)(hc:col<T)(hsn:seen<=1000000):
 Calls aC 139 #[v,t,vU vs (seen:Int) 0 aE,av az (col:Int)] w (cY (EH (seen:Int) (hJ g.aF (ji A) (fB G) col seen 2001 sb [])) w):=by
 have h0:0<sb.length:=by rcases sb with _|⟨a,b⟩;exact absurd I hne;simp
 have G':=hT.aT;have jr:=λw' (hg:Gr w w')=>w6 v t vs g T N A G sb (seen:Int) (col:Int) w' (hG.gr hg) (ht.gr hg) (hs.gr hg) hT hq h0 hl J J J J;have Ug:=λw' (hg:Gr w w')=>Bw v t vs g T N A G sb seen col w' (hG.gr hg) (ht.gr hg) (hs.gr hg) hT hq hne hl J;have hlen:=λh=>(Cq (a:=seen) hT (show col<=T by omega) 2001 (o:=[]) hne hq hl h).2.2.1;generalize hJ g.aF (ji A) (fB G) col seen 2001 sb []=R at*;obtain⟨e,σ,o⟩:=R;dsimp only at hlen;obtain⟨vp,rfl,-⟩:=hG;obtain⟨vA,vG,rfl,-⟩:=ht;clear hs hT;refine enter (args:=[ee g.aT g.bM vp,aU #[vA,vG],vU vs (seen:Int) 0 aE,av az (col:Int)]) (n:=51) Tryz.func139 I I I ?_;refine bC (aM (b_ I I I λg4=>?_));refine zL ?_;refine b_ I I I λg5=>?_;refine zL ?_;refine b_ I I I λg6=>?_;refine zL ?_;refine bz I λg8=>?_;refine zL ?_
 repeat(first|refine GC ?_|refine gV (aB (v:=av az g.aT) aL.ty I (aH (i:=0) I I)) ?_|refine gV (aX (b:=aE) I I (decide_eq_false J)) ?_|refine gV (aQ (i:=0) aL.ty I I I) ?_|refine gV (aQ (i:=1) aL.ty I I I) ?_|refine gV (aQ (i:=2) aL.ty I I I) ?_|refine GB ?_)
 refine a8 (RT aJ.en I I I I I) (λw hm=>jr w hm.below) I I I ?_;intro _ _;refine zL ?_
 repeat(first|refine GA ?_|refine gV (aQ (i:=0) aL.ty I I I) ?_|refine gV (aQ (i:=1) aL.ty I I I) ?_|refine gV (aQ (i:=2) aL.ty I I I) ?_)
 by_cases c:e=0
 ·subst c
  rw[LR]at Ug;rw[Hb];have hlen:=hlen I;refine a8 (RT aJ.en I I I I I) (λw hm=>Ug w hm.below) I I I ?_;rintro⟨v1,v2⟩ _;refine zL ?_
  try refine GA ?_
  refine nJ (i:=4) I λbt ct hv q1 q2=>?_;subst hv
  repeat(first|refine GC ?_|refine gV (aB (v:=av az (seen:Int)) aL.ty I (aH (i:=2) I I)) ?_|refine gV (bL (r:=(seen:Int)+1) I I J J J) ?_|refine gV (bP I (TA _ _ _ _)) ?_|refine GB ?_)
  refine il 3 (cs':=#[ap bt σ.length ct,av az ((seen:Int)+1),av az 0,.bool aE]) ?_;refine zL ?_
  try refine GA ?_
  exact fN (i:=3) I I I I I I λw hm=>hm.meets (S:=⟨λ_=>True,λx=> .tuple #[vU x.1 ((seen:Int)+1) 0 aE,x.2,av az 0],λx=>[Rg x.1 σ,lu x.2 o]⟩) (ap bt σ.length ct,v2) trivial [4,5] ahk I
 ·rw[LS c]at Ug
  rw[Hc c];refine a8 (RT aJ.en I I I I I) (λw hm=>Ug w hm.below) I I I ?_;rintro _ _;refine zL ?_
  repeat(first|refine GC ?_|refine gV (bm (b:=aD) I I (decide_eq_true c)) ?_|refine gV (aB (v:=av az (seen:Int)) aL.ty I (aH (i:=2) I I)) ?_|refine gV (bP I (G_ _ _)) ?_|refine GB ?_)
  refine il 3 (cs':=#[ap ak 0 0,av az (seen:Int),av az e,.bool aE]) ?_;refine zL ?_
  try refine GA ?_
  exact fN (i:=3) I I I I I I λw hm=>hm.meets (S:=⟨λ(_:Value×Value)=>True,λ_=> .tuple #[vU (ap ak 0 0) (seen:Int) e aE,ap ak 0 0,av az e],λ_=>[]⟩) (ap ak 0 0,ap ak 0 0) trivial [] ahk I
def LX(seen:Int)(R:Int×List Nat×List dV):Spec Value:=
 ⟨λ_=>True,λx=>if R.1=0 then .tuple #[vU (ap ak 0 0) seen 0 aD,x,av az 0]else .tuple #[vU (ap ak 0 0) seen R.1 aE,ap ak 0 0,av az R.1],λx=>if R.1=0 then [lu x R.2.2]else []⟩
theorem LY{seen:Int}{σ:List Nat}{o:List dV}:LX seen (0,σ,o)=⟨λ_=>True,λx=> .tuple #[vU (ap ak 0 0) seen 0 aD,x,av az 0],λx=>[lu x o]⟩:=by unfold LX;simp
theorem LZ{seen e:Int}(he:e≠0){x:List Nat×List dV}:LX seen (e,x)=⟨λ_=>True,λ_=> .tuple #[vU (ap ak 0 0) seen e aE,ap ak 0 0,av az e],λ_=>[]⟩:=by unfold LX;simp[he]
attribute [local irreducible] Instr.build in
theorem L1(v t vs:Value)(g:eL)(T N:Nat)(A:List (List bV.Act))(G:List (List Int))(sb:List Nat)(seen:Nat)(w:World)(hG:kz (λk=>k<w.heap.size) w v g)(ht:AN w t A G)(hs:skR w vs sb)(hT:rW g T N A G)(hq:∀q∈sb,q<A.length)(hne:sb≠[])(hl:sb.length<=60)(hsn:seen<=1000000):
 Calls aC 145 #[v,t,vU vs (seen:Int) 0 aE] w (cY (LX (seen:Int) (hJ g.aF (ji A) (fB G) T seen 2001 sb [])) w):=by
 have h0:0<sb.length:=by rcases sb with _|⟨a,b⟩;exact absurd I hne;simp
 have G':=hT.aT;have jr:=λw' (hg:Gr w w')=>w6 v t vs g T N A G sb (seen:Int) (T:Int) w' (hG.gr hg) (ht.gr hg) (hs.gr hg) hT hq h0 hl J J J J;have Ug:=λw' (hg:Gr w w')=>Bw v t vs g T N A G sb seen T w' (hG.gr hg) (ht.gr hg) (hs.gr hg) hT hq hne hl (bJ _);generalize hJ g.aF (ji A) (fB G) T seen 2001 sb []=R at*;obtain⟨e,σ,o⟩:=R;obtain⟨vp,rfl,-⟩:=hG;obtain⟨vA,vG,rfl,-⟩:=ht;clear hs hT;refine enter (args:=[ee g.aT g.bM vp,aU #[vA,vG],vU vs (seen:Int) 0 aE]) (n:=45) Tryz.func145 I I I ?_;refine bC (aM (b_ I I I λg4=>?_));refine zL ?_;refine b_ I I I λg5=>?_;refine zL ?_;refine b_ I I I λg6=>?_;refine zL ?_;refine bz I λg8=>?_;refine zL ?_
 repeat(first|refine GA ?_|refine gV (aB (v:=av az (T:Int)) aL.ty I (aH (i:=0) I (by show aj (av .i64 g.aT)=_;rw[G']))) ?_|refine gV (aQ (i:=0) aL.ty I I I) ?_|refine gV (aQ (i:=1) aL.ty I I I) ?_|refine gV (aQ (i:=2) aL.ty I I I) ?_)
 refine a8 (RT aJ.en I I I I I) (λw hm=>jr w hm.below) I I I ?_;intro _ _;refine zL ?_
 repeat(first|refine GA ?_|refine gV (aB (v:=av az (T:Int)) aL.ty I (aH (i:=0) I (by show aj (av .i64 g.aT)=_;rw[G']))) ?_|refine gV (aQ (i:=0) aL.ty I I I) ?_|refine gV (aQ (i:=1) aL.ty I I I) ?_|refine gV (aQ (i:=2) aL.ty I I I) ?_)
 by_cases c:e=0
 ·subst c
  rw[LR]at Ug;rw[LY];refine a8 (RT aJ.en I I I I I) (λw hm=>Ug w hm.below) I I I ?_;rintro⟨v1,v2⟩ _;refine zL ?_
  repeat(first|refine GA ?_|refine gV (aB (v:=av az (seen:Int)) aL.ty I (aH (i:=2) I I)) ?_|refine gV (bP I (TB _)) ?_)
  refine il 3 (cs':=#[ap ak 0 0,av az (seen:Int),av az 0,.bool aD]) ?_;refine zL ?_
  try refine GA ?_
  exact fN (i:=3) I I I I I I λw hm=>hm.meets (S:=⟨λ_=>True,λx=> .tuple #[vU (ap ak 0 0) (seen:Int) 0 aD,x,av az 0],λx=>[lu x o]⟩) v2 trivial [5] ahk I
 ·rw[LS c]at Ug
  rw[LZ c];refine a8 (RT aJ.en I I I I I) (λw hm=>Ug w hm.below) I I I ?_;rintro _ _;refine zL ?_
  repeat(first|refine GC ?_|refine gV (bm (b:=aD) I I (decide_eq_true c)) ?_|refine gV (aB (v:=av az (seen:Int)) aL.ty I (aH (i:=2) I I)) ?_|refine gV (bP I (G_ _ _)) ?_|refine GB ?_)
  refine il 3 (cs':=#[ap ak 0 0,av az (seen:Int),av az e,.bool aE]) ?_;refine zL ?_
  try refine GA ?_
  exact fN (i:=3) I I I I I I λw hm=>hm.meets (S:=⟨λ(_:Value)=>True,λ_=> .tuple #[vU (ap ak 0 0) (seen:Int) e aE,ap ak 0 0,av az e],λ_=>[]⟩) (ap ak 0 0) trivial [] ahk I
end cZ
namespace cZ
open Go.RowKit dr eH dT iA fq pT dq
set_option maxRecDepth 100000 in
theorem adt(x y:C4)(w:World):(oZ 10000 303 (aU (fh x).toArray) (aU (fh y).toArray)).run aC w= .ok (decide (x=y)) w:=by
 show(oZ 10000 303 (aU #[v64 x.a,v64 x.b,v64 x.c,v64 x.d]) (aU #[v64 y.a,v64 y.b,v64 y.c,v64 y.d])).run aC w=_
 have e:(oZ 10000 303 (aU #[v64 x.a,v64 x.b,v64 x.c,v64 x.d]) (aU #[v64 y.a,v64 y.b,v64 y.c,v64 y.d])).run aC w= .ok ((iN x.a==iN y.a)&&((iN x.b==iN y.b)&&((iN x.c==iN y.c)&&(iN x.d==iN y.d)))) w:=by
  unfold v64;rw[run_equalIn_array (P:=aC) w 9999 (n:=4) (e:=114) _ _ I I];have h1:aC.cellsOf 114=1:=rfl;simp[Op.eqItems,go_sem,List.range_succ_eq_map,h1]
  by_cases e1:iN x.a=iN y.a<;>by_cases e2:iN x.b=iN y.b<;>by_cases e3:iN x.c=iN y.c<;>by_cases e4:iN x.d=iN y.d<;>simp[e1,e2,e3,e4]
 rw[e]
 congr 1
 by_cases h:x=y
 subst h;simp;rw[decide_eq_false h]
 by_cases e1:iN x.a=iN y.a<;>by_cases e2:iN x.b=iN y.b<;>by_cases e3:iN x.c=iN y.c<;>by_cases e4:iN x.d=iN y.d<;>simp[e1,e2,e3,e4]
 exact h (C4.ext' (oH e1) (oH e2) (oH e3) (oH e4))
theorem Pp(w:World):(dR 303 (#[]:Array (Nat×Value))).run aC w= .ok (aU (fh C4.zero).toArray) w:=by kernel_rfl
theorem aa1{x:Int}(h0: -32768<=x)(h1:x<=32767):IntKind.i16.wrap x=x:=by
 simp only[IntKind.wrap,lB,oY];simp;omega
theorem L2(r:Row):(fj r).toArray.toList.all fG=true:=sk.2 λu hu=>row_one [r] u (by simpa using hu)
def Hd(m:MS)(vc vr vf vfol vl ve rows:Value)(g gm n:Nat)(d:DM):Spec (Value×Value):=
 ⟨λ_=>True,λ_=>BS (qi m n d).1,λx=>JX vc vr vf vfol vl ve rows g gm x.1 x.2 (qi m n d).2⟩
theorem aa2(p:PS)(all:C4)(b i:Nat):IZ p all b (i+1)=if all.mem i=aD/\(p.bx.getD i C4.zero).mem b=aD then(IZ p all b i).bit i else IZ p all b i:=rfl
theorem Pq(p:PS)(all:C4)(f b:Nat)(r:Row)(d:DM):mU p all (f+1) b r d=if 200<(gD p all b r d).2.S.length+1 then gD p all b r d else mU p all f (b+1) (gD p all b r d).1 (gD p all b r d).2:=rfl
theorem aa3{p:PS}{all:C4}{b:Nat}{r:Row}{d:DM}(hb:b<256)(h:I0 p all b=C4.zero):gD p all b r d=(r.set b (-1),d):=by unfold gD;rw[if_pos h,dif_pos hb]
theorem aa4{p:PS}{all:C4}{b:Nat}{r:Row}{d:DM}(hb:b<256)(h:I0 p all b≠C4.zero):gD p all b r d=((r.set b (-1)).set b ((jh p d (I0 p all b)).1:Int),(jh p d (I0 p all b)).2):=by unfold gD;rw[if_neg h,dif_pos hb]
set_option maxRecDepth 100000 in
theorem Jf(m:MS)(vc vr vf vfol vl ve rows:Value)(d:DM)(g gm n:Nat)(vs vt:Value)(w0:World)(hp:Fo w0 (aU #[vc,vr,vf,vfol,vl,ve]) m)(h:II m)(hd:DOk m.ps d)(hd2:d.S.length+1<=200)(hn:n<=d.S.length)(w:World)(B:b9)(ho:p_ w0 B)
 (hm:Mem B (JX vc vr vf vfol vl ve rows g gm vs vt d) w):
 Calls aC 115 #[aK (aj ⟨g,0,ak⟩),av az (n:Int)] w (dF (Hd m vc vr vf vfol vl ve rows g gm n d) B):=by
 have uV:=λw' (hg:Gr w0 w') h1 h2=>Fq m vc vr vf vfol vl ve vs (.map (aj gm)) rows vt d.S g n w' (hp.gr hg) h h1 h2 hn;have hst:=λd' s pJ oL h1 h2 w' B' J6 rB=>Eh m vc vr vf vfol vl ve rows d' s g gm pJ oL w0 hp h h1 h2 w' B' J6 rB;obtain⟨_,_,_,_,_,_,he,h1,-⟩:=hp;simp only[k7,pv,ib,and_true]at he;obtain⟨rfl,rfl,rfl,rfl,rfl,rfl⟩:=he;have hmf:=h.BO;clear h;obtain⟨ac,cc,rfl,-,-,hrc⟩:=h1;unfold Hd qi;generalize nc m d.S n=all at*;obtain⟨p,fi,em⟩:=m;dsimp only at*;unfold JX at hm;have hB0:=Pp;refine dZ hm (args:=[aK (aj ⟨g,0,ak⟩),av az (n:Int)]) (n:=60) Tryz.func115 I I I ?_;clear hm;refine bC (aM (bz I λg4=>?_));refine zL ?_;rw[Ei]
 try refine GA ?_
 refine a8 (gK aJ.en I I I) (λw hm=>uV w (ho.mem hm) (hm.get (i:=0) I) (Sl.dY (hm.get (i:=1) I))) I I I ?_;intro _ _;refine zL ?_;clear uV
 try refine GA ?_
 refine bz I λg5=>?_;refine zL ?_;refine il 5 (cs':=(fh all).toArray) ?_;refine zL ?_
 try refine GA ?_
 refine bz I λg6=>?_;refine zL ?_;rw[Ei]
 try refine GA ?_
 clear hn;generalize jM:mU p all 256 0 (eS 256 0) d=fin;refine eK (ι:=Nat×Row×DM×Value×Value) (λ(b,r,d,_,_)=>b<=256/\DOk p d/\d.S.length+1<=200/\mU p all (256-b) b r d=fin) (λ(b,_,_,_,_)=>[(0,aK (aj ⟨g,0,ak⟩)),(4,aK (aj ⟨g4,0,ak⟩)),(5,aK (aj ⟨g5,0,ak⟩)),(6,aK (aj ⟨g6,0,ak⟩)),(14,av az (b:Int))])
  (λ(_,r,d,vs,vt)=>[aR g (JW (ap ac p.bx.length cc) vr vf vfol vl ve vs (.map (aj gm)) rows vt) 254,oE vs d.S,sZ gm d.S,gZ vt d.tags,aR g4 (fj (eS 256 0)).toArray 257,aR g5 (fh all).toArray 303,aR g6 (fj r).toArray 257]) (λ(b,_,_,_,_)=>256-b) (0,eS 256 0,d,vs,vt) ⟨bO _,hd,hd2,jM⟩ ?_
 clear hd hd2 jM d vs vt;rintro⟨b,r,d,vs,vt⟩ ⟨i1,i2,i3,i4⟩;dsimp only at i1 i2 i3 i4⊢
 by_cases c1:b<256
 ·rw[show 256-b=(256-(b+1))+1 by omega,Pq]at i4
  try refine GA ?_
  refine bz I λg8=>?_;refine zL ?_
  repeat(first|refine GA ?_|refine gV (aB (v:=ap ac p.bx.length cc) aL.ty I (aH (i:=0) I I)) ?_)
  refine eK (ι:=Nat) (λk=>k<=p.bx.length) (λk=>[(0,aK (aj ⟨g,0,ak⟩)),(4,aK (aj ⟨g4,0,ak⟩)),(5,aK (aj ⟨g5,0,ak⟩)),(6,aK (aj ⟨g6,0,ak⟩)),(7,av az (b:Int)),(8,aK (aj ⟨g8,0,ak⟩)),(14,av az (b:Int)),(21,ap ac p.bx.length cc),(22,av az p.bx.length),(23,av az (k:Int))])
   (λk=>[aR g (JW (ap ac p.bx.length cc) vr vf vfol vl ve vs (.map (aj gm)) rows vt) 254,oE vs d.S,sZ gm d.S,gZ vt d.tags,aR g4 (fj (eS 256 0)).toArray 257,aR g5 (fh all).toArray 303,aR g6 (fj r).toArray 257,aR g8 (fh (IZ p all b k)).toArray 303]) (λk=>p.bx.length-k) 0 (bO _) ?_
  intro k hk
  by_cases c2:k<p.bx.length
  ·have hts:=aa2 p all b k
   have Zd:p.bx.getD k C4.zero=p.bx[k]:=by rw[cK,bQ c2];rfl
   rw[Zd]at hts;obtain⟨bc,agz,rfl,afw⟩:=hrc J;have afx:=λ(L:List cU)=>OS (L:=L) (f:=fh) (c:=4) (λ_=>rfl) ho afw c2;clear afw hrc Zd;generalize p.bx[k]=c at*;have afy:∀(L:List cU) (j:Nat) (u:Value),(fh c)[j]?=aj u->At B L ⟨bc,agz+k*4+j,ak⟩ u:=afx;clear afx;have XF:=λw=>sW all k J w;have agA:=λw=>Sb c b c1 w;generalize IZ p all b k=tz at*;generalize all.mem k=b1 at*;generalize c.mem b=b2 at*;have hu8:IntKind.u8.wrap (b:Int)=(b:Int):=by rw[IntKind.wrap_u8];omega
   repeat(first|refine GA ?_|refine gV (a_ bR.eq aL.ty I I c2) ?_|refine gV (bH (cs:=fh c) aL.ty I I (afy _)) ?_)
   refine bz I λg10=>?_;refine zL ?_
   try refine GA ?_
   refine il 8 (cs':=(fh c).toArray) ?_;refine zL ?_
   repeat(first|refine GA ?_|refine gV (aQ (i:=5) aL.ty I I I) ?_)
   refine a8 (gK aJ.en I I I) (λw hm=>XF w) I I I ?_;intro _ _;refine zL ?_
   by_cases q1:b1=aD
   ·subst q1
    repeat(first|refine GA ?_|refine gV (aQ (i:=8) aL.ty I I I) ?_|refine gV (jl bR.eq bR.eq I hu8) ?_)
    refine mJ (gK aJ.en I I I) (λw hm=>agA w) I I I I I ?_;intro _ _;refine zL ?_
    by_cases q2:b2=aD
    ·subst q2
     rw[if_pos ⟨rfl,rfl⟩]at hts
     try refine GA ?_
     refine bK [7] [0,1,2,3,4,5,6] ahk I I (gK aJ.en I I I) (λw hm hb=>sX tz k J g8 w _ hb) I I I ?_;intro _ _;refine zL ?_
     try refine GA ?_
     exact cJ (k+1) J (by show p.bx.length-(k+1)<p.bx.length-k;omega) (hl:=by rw[hts])
    rw[if_neg (λh=>q2 h.2)]at hts;obtain rfl:=vz.2 q2
    try refine GA ?_
    refine dS [0,1,2,3,4,5,6,7] ?_;exact cJ (k+1) J (by show p.bx.length-(k+1)<p.bx.length-k;omega) (hl:=by rw[hts];rfl)
   rw[if_neg (λh=>q1 h.1)]at hts;obtain rfl:=vz.2 q1
   try refine GA ?_
   refine dS [0,1,2,3,4,5,6,7] ?_;exact cJ (k+1) J (by show p.bx.length-(k+1)<p.bx.length-k;omega) (hl:=by rw[hts];rfl)
  obtain rfl:k=p.bx.length:=by omega
  have hF:IZ p all b p.bx.length=I0 p all b:=rfl;rw[hF];have JO:=aa3 (p:=p) (all:=all) (r:=r) (d:=d) c1;have oQ:=aa4 (p:=p) (all:=all) (r:=r) (d:=d) c1;have P4:=adt (I0 p all b) C4.zero;clear hF hrc;generalize I0 p all b=tz at*
  repeat(first|refine GA ?_|refine gV (iz bR.eq aL.ty I I c1) ?_)
  refine rS (i:=6) I I I c1 ?_;refine zL ?_
  by_cases q1:tz=C4.zero
  ·rw[decide_eq_true q1]at P4
   rw[JO q1,if_neg (by show ¬200<d.S.length+1;omega)]at i4;refine qw (i:=1) I gO λij=>?_;obtain⟨ab,cs,rfl,hmS,-⟩:=ij
   repeat(first|refine GC ?_|refine gV (aQ (i:=7) aL.ty I I I) ?_|refine gV (bP I hB0) ?_|refine gV (CU I I (by kernel_rfl) P4 I) ?_|refine gV (aB (v:=ap ab (d.S.length+1) cs) aL.ty I (aH (i:=0) I I)) ?_|refine gV (bB (b:=aE) I I (decide_eq_false J)) ?_|refine GB ?_)
   refine dS [0,1,2,3,4,5,6] ?_;exact cJ (b+1,r.set b (-1),d,ap ab (d.S.length+1) cs,vt) ⟨by omega,i2,i3,i4⟩ (by show 256-(b+1)<256-b;omega)
  rw[decide_eq_false q1]at P4;rw[oQ q1]at i4;obtain⟨s1,s2,s3,s4,s5⟩:=Lv i2 tz
  repeat(first|refine GC ?_|refine gV (aQ (i:=7) aL.ty I I I) ?_|refine gV (bP I hB0) ?_|refine gV (CU I I (by kernel_rfl) P4 I) ?_|refine GB ?_)
  refine bK [0,1,2,3] [4,5,6,7] ahk I I (gK aJ.en I I I) (λw hm hb=>hst d tz vs vt J (by have:=i2.tags;omega) w _ (ho.on hm (by simp[JX])) hb) I I I ?_;rintro⟨pJ,oL⟩ _
  conv=>arg 8;simp only[zJ,dg,ret,id_eq,aaG,JX]
  conv=>arg 7;simp only[aaG]
  generalize jh p d tz=R at*;obtain⟨q,d'⟩:=R;dsimp only at i4 s1 s2 s3 s4 s5⊢;have hq:q<=200:=by omega
  refine qw (i:=5) I gO λij=>?_;obtain⟨ab,cs,rfl,hmS,-⟩:=ij
  repeat(first|refine GA ?_|refine gV (jl bR.eq bR.eq I (aa1 J J)) ?_|refine gV (iz bR.eq aL.ty I I c1) ?_)
  refine rS (i:=2) I I I c1 ?_;refine zL ?_;generalize (r.set b (-1)).set b (q:Int)=r' at*
  by_cases q2:200<d'.S.length+1
  ·rw[if_pos q2]at i4
   subst i4
   repeat(first|refine GC ?_|refine gV (aB (v:=ap ab (d'.S.length+1) cs) aL.ty I (aH (i:=4) I I)) ?_|refine gV (bB (b:=aD) I I (decide_eq_true J)) ?_|refine gV (aQ (i:=2) aL.ty I I (by rw[eE,dW])) ?_|refine GB ?_)
   refine aZ (i:=0) (cs':=(fj r').toArray) I I I (by rw[eE,dW]) (L2 r') (by rw[eE,dW]) ?_;refine zL ?_
   try refine GA ?_
   exact h_ (i:=0) I I I (by rw[eE,dW]) λw hm=>hm.cX (S:=⟨λ(_:Value×Value)=>True,λ_=>BS r',λx=>JX (ap ac p.bx.length cc) vr vf vfol vl ve rows g gm x.1 x.2 d'⟩) (ap ab (d'.S.length+1) cs,oL) trivial [4,5,6,7] ahk I
  rw[if_neg q2]at i4
  repeat(first|refine GC ?_|refine gV (aB (v:=ap ab (d'.S.length+1) cs) aL.ty I (aH (i:=4) I I)) ?_|refine gV (bB (b:=aE) I I (decide_eq_false J)) ?_|refine GB ?_)
  refine dS [4,5,6,7,0,1,2] ?_;exact cJ (b+1,r',d',ap ab (d'.S.length+1) cs,oL) ⟨by omega,s1,by show d'.S.length+1<=200;omega,i4⟩ (by show 256-(b+1)<256-b;omega)
 ·obtain rfl:b=256:=by omega
  have i4:(r,d)=fin:=i4;subst i4
  repeat(first|refine GA ?_|refine gV (aQ (i:=6) aL.ty I I (by rw[eE,dW])) ?_)
  refine aZ (i:=4) (cs':=(fj r).toArray) I I I (by rw[eE,dW]) (L2 r) (by rw[eE,dW]) ?_;refine zL ?_
  try refine GA ?_
  exact h_ (i:=4) I I I (by rw[eE,dW]) λw hm=>hm.cX (S:=⟨λ(_:Value×Value)=>True,λ_=>BS r,λx=>JX (ap ac p.bx.length cc) vr vf vfol vl ve rows g gm x.1 x.2 d⟩) (vs,vt) trivial [0,1,2,3] ahk I
end cZ
namespace cZ
open Go.RowKit dr eH dT iA fq pT dq
def s8(m:MS):List Row×List Int×Int:=match y7 m with
 |some (R,d)=>(R,d.tags,0)
 |none=>([],[],8)
def Rk(m:MS):Spec (Value×Value):=⟨λ_=>True,λx=> .tuple #[iZ x.1 x.2,av az (s8 m).2.2],λx=>[bD 257 256 x.1 (s8 m).1.length ((s8 m).1.flatMap fj),gZ x.2 (s8 m).2.1]⟩
theorem Ps{m:MS}{R:List Row}{d:DM}(h:y7 m=aj (R,d)):s8 m=(R,d.tags,0):=by unfold s8;rw[h]
theorem Pt{m:MS}(h:y7 m=ak):s8 m=([],[],8):=by unfold s8;rw[h]
theorem He(m:MS)(f n:Nat)(R:List Row)(d:DM):sY m (f+1) n R d=if n<d.S.length+1 then(if 200<(qi m n d).2.S.length+1 then ak else sY m f (n+1) (R++[(qi m n d).1]) (qi m n d).2)else aj (R,d):=rfl
theorem Pu(w:World):(dR 186 (#[]:Array (Nat×Value))).run aC w= .ok (aU #[ap ak 0 0,ap ak 0 0]) w:=by kernel_rfl
theorem L3(vc vr vf vfol vl ve:Value)(g gm:Nat)(w:World):(dR 254 #[(0,aU #[vc,vr,vf,vfol,vl,ve]),(1,ap (aj ⟨g,0,ak⟩) 1 1),(2,.map (aj gm))]).run aC w= .ok (.agg (JW vc vr vf vfol vl ve (ap (aj ⟨g,0,ak⟩) 1 1) (.map (aj gm)) (ap ak 0 0) (ap ak 0 0))) w:=by
 unfold JW;go_simp
theorem L4{g:Nat}{w:World}(h:(aR g (madeCells #[av .u64 0,av .u64 0,av .u64 0,av .u64 0] (1*4)) 303).holds w):(oE (ap (aj ⟨g,0,ak⟩) 1 1) []).holds w:=by
 rw[abL (k:=4) I ahk]at h;exact⟨rfl,.inr ⟨g,1,_,rfl,bO _,h,bJ _,by decide,rfl,rfl⟩⟩
theorem AT(v:Value)(R:List Row)(r:Row):bD 257 256 v (R++[r]).length ((R++[r]).flatMap fj)=bD 257 256 v (R.length+1) (R.flatMap fj++fj r):=by
 rw[bT,fV];simp
theorem adu{vc vr vf vfol vl ve vs num rows tags v:Value}{j:Nat}(h:[rows,tags][j]?=aj v):(JW vc vr vf vfol vl ve vs num rows tags)[8+j]?=aj v:=by
 match j,h with
 |0,h=>exact h
 |1,h=>exact h
theorem Jg(r:Row):(fj r).toArray=([BS r].flatMap λv=>v.cells.toList).toArray:=by
 show _=((fj r).toArray.toList++[]).toArray
 simp
theorem EI(r:Row):∀v∈[BS r],v.cells.size=256:=by
 intro v hv;rw[ep.1 hv];show(fj r).toArray.size=256
 rw[eE,dW]
set_option maxRecDepth 100000 in
theorem Fy(v:Value)(m:MS)(w:World)(hp:Fo w v m)(h:II m):
 Calls aC 77 #[v] w (cY (Rk m) w):=by
 have jr:=λw' (hg:Gr w w')=>D7 v m w' (hp.gr hg) h;obtain⟨vc,vr,vf,vfol,vl,ve,rfl,h1,h2,h3,h4,h5,h6⟩:=id hp;have hrw:=λrows d g gm n vs vt hd hd2 hn w' B ho hm=>Jf m vc vr vf vfol vl ve rows d g gm n vs vt w hp h hd hd2 hn w' B ho hm;clear h1 h2 h3 h4 h5 hp;have hms:=h.some;have tw:=h.qY;clear h;obtain⟨ae,ce,rfl,-,hme,hre⟩:=h6;unfold maxLen at hme;have hbz:=Pu;refine enter (args:=[aU #[vc,vr,vf,vfol,vl,ap ae m.empty.length ce]]) (n:=78) Tryz.func77 I I I ?_;refine bC (aM (b_ I I I λg1=>bz I λg2=>?_));refine zL ?_
 repeat(first|refine GA ?_|refine gV (aQ (i:=0) aL.ty I I I) ?_)
 refine a8 (ju aJ.en I I) (λw hm=>jr _ hm.below) I I I ?_;intro _ _;refine zL ?_;clear jr
 repeat(first|refine GC ?_|refine gV (bm (b:=aE) I I (decide_eq_false (by simp))) ?_|refine GB ?_)
 (repeat refine bC ?_)
 refine l_ (ι:=Nat×Nat×Nat) (λ_=>True) (λ(_,_,g5)=>[(1,aK (aj ⟨g1,0,ak⟩)),(2,aK (aj ⟨g2,0,ak⟩)),(5,aK (aj ⟨g5,0,ak⟩))])
  (λ(gs,gm,g5)=>[aR g1 #[vc,vr,vf,vfol,vl,ap ae m.empty.length ce] 181,aR g2 #[ap ak 0 0,ap ak 0 0] 186,aR g5 (JW vc vr vf vfol vl (ap ae m.empty.length ce) (ap (aj ⟨gs,0,ak⟩) 1 1) (.map (aj gm)) (ap ak 0 0) (ap ak 0 0)) 254,oE (ap (aj ⟨gs,0,ak⟩) 1 1) [],sZ gm []]) ?_ ?_
 ·refine eo ([aR g1 #[vc,vr,vf,vfol,vl,ap ae m.empty.length ce] 181]) (.calm 0 (.two 1 (.one 2 (.calm 3 (.one 4 (.calm 5 (.done))))) 2 (.one 1 (.calm 3 (.one 4 (.calm 5 (.done))))))) (cH [0]) ?_
  repeat(first|refine GW ?_|(refine GN ?_;first|refine QW (aQ (i:=0) aL.ty I I I) ?_))
  refine e9 I I ?_ ?_
  ·refine um (m:=1) (cap:=1) I I (bJ 1) ahk ahk I λgs=>aP (cH [0]) ?_
   refine aO I (xA O1 I λgm=>aP (cH [0]) ?_)
   repeat(first|refine GW ?_|(refine GN ?_;first|refine QW (bP I (L3 _ _ _ _ _ _ _ _)) ?_))
   refine aO I (b_ I I I λg5=>aP (cH [0]) ?_)
   try refine GW ?_
   refine oI (i:=2) (oE (ap (aj ⟨gs,0,ak⟩) 1 1) []) I (λw h=>L4 h) (λk h=>h) ?_;refine oI (i:=3) (sZ gm []) I (λw h=>by unfold sZ;rw[<-Eg];exact h) (λk h=>h) ?_;refine dS [0,1,4,2,3] ?_;exact eJ (gs,gm,g5) trivial (by repeat' (first|exact dl|refine dh I ?_)) I
  refine xA O1 I λgm=>aP (cH [0]) ?_;refine aO I (um (m:=1) (cap:=1) I I (bJ 1) ahk ahk I λgs=>aP (cH [0]) ?_)
  repeat(first|refine GW ?_|(refine GN ?_;first|refine QW (bP I (L3 _ _ _ _ _ _ _ _)) ?_))
  refine aO I (b_ I I I λg5=>aP (cH [0]) ?_)
  try refine GW ?_
  refine oI (i:=3) (oE (ap (aj ⟨gs,0,ak⟩) 1 1) []) I (λw h=>L4 h) (λk h=>h) ?_;refine oI (i:=2) (sZ gm []) I (λw h=>by unfold sZ;rw[<-Eg];exact h) (λk h=>h) ?_;refine dS [0,1,4,3,2] ?_;exact eJ (gs,gm,g5) trivial (by repeat' (first|exact dl|refine dh I ?_)) I
 rintro⟨gs,gm,g5⟩ _;dsimp only
 try refine GA ?_
 refine im (cs:=#[av az (-1)]) [av az (-1)] I I I (by intro v hv;simp at hv;subst hv;rfl) I I I λg20=>?_;refine zL ?_
 try refine GA ?_
 refine cD (i:=2) I I I I I I ?_;refine zL ?_
 repeat(first|refine GC ?_|refine gV (aB (v:=ap ae m.empty.length ce) aL.ty I (aH (i:=0) I I)) ?_|refine gV (df (r:=(m.empty.length:Int)-1) I I J J I) ?_|refine GB ?_)
 refine og (ι:=Nat) (λk=>k<=m.empty.length) (λk=>[(1,aK (aj ⟨g1,0,ak⟩)),(2,aK (aj ⟨g2,0,ak⟩)),(5,aK (aj ⟨g5,0,ak⟩)),(6,av az ((k:Int)-1))])
  (λk=>[aR g1 #[vc,vr,vf,vfol,vl,ap ae m.empty.length ce] 181,aR g2 #[ap ak 0 0,ap ak 0 0] 186,aR g5 (JW vc vr vf vfol vl (ap ae m.empty.length ce) (ap (aj ⟨gs,0,ak⟩) 1 1) (.map (aj gm)) (ap ak 0 0) (ap (aj ⟨g20,0,ak⟩) 1 1)) 254,oE (ap (aj ⟨gs,0,ak⟩) 1 1) [],sZ gm [],aR g20 #[av az (fK (m.empty.drop k) k)] 3]) (λk=>k) m.empty.length (bJ _) (by repeat' (first|exact dl|refine dh I ?_)) (by rw[pO (bJ _)];rfl) ?_
 intro k hk
 by_cases c1:0<k
 ·obtain⟨j,rfl⟩:∃j,k=j+1:=⟨k-1,by omega⟩
  have hj:j<m.empty.length:=by omega
  obtain⟨be,adv,rfl,agB⟩:=hre J;have agC:=λ(L:List cU)=>iB (L:=L) QQ agB hj 0 _ I;have hst:fK (m.empty.drop j) j=if m.empty[j]=aD then(j:Int)else fK (m.empty.drop (j+1)) ((j:Int)+1):=by rw[ff hj,fK]
  rw[show(((j+1:Nat):Int))=(j:Int)+1 by omega]at*;generalize fK (m.empty.drop (j+1)) ((j:Int)+1)=t at*;generalize m.empty[j]=b at*;rw[show(j:Int)+1-1=(j:Int)by omega];have ab2:∀(L:List cU),At (w:b9) L ⟨be,adv+j*1+0,ak⟩ (.bool b):=agC
  by_cases c2:b=aD
  ·subst c2
   rw[if_pos I]at hst
   repeat(first|refine GC ?_|refine gV (dQ (b:=aD) I I (decide_eq_true J)) ?_|refine gV (aB (v:=ap (aj ⟨be,adv,ak⟩) m.empty.length ce) aL.ty I (aH (i:=0) I I)) ?_|refine gV (a_ bR.eq aL.ty I I hj) ?_|refine gV (aB (v:= .bool aD) aL.ty I (ab2 _)) ?_|refine gV (aB (v:=ap (aj ⟨g20,0,ak⟩) 1 1) aL.ty I (aH (i:=2) I I)) ?_|refine gV (a_ (j:=0) bR.eq aL.ty I I ahk) ?_|refine GB ?_)
   refine cD (i:=5) I I I I I I ?_;refine zL ?_
   repeat(first|refine GC ?_|refine gV (df (r:=(j:Int)-1) I I J J I) ?_|refine GB ?_)
   exact cJ j J (by show j<j+1;omega) (hl:=by rw[hst];rfl)
  rw[if_neg c2]at hst;obtain rfl:=vz.2 c2
  repeat(first|refine GC ?_|refine gV (dQ (b:=aD) I I (decide_eq_true J)) ?_|refine gV (aB (v:=ap (aj ⟨be,adv,ak⟩) m.empty.length ce) aL.ty I (aH (i:=0) I I)) ?_|refine gV (a_ bR.eq aL.ty I I hj) ?_|refine gV (aB (v:= .bool aE) aL.ty I (ab2 _)) ?_|refine gV (df (r:=(j:Int)-1) I I J J I) ?_|refine GB ?_)
  exact cJ j J (by show j<j+1;omega) (hl:=by rw[hst])
 ·obtain rfl:k=0:=by omega
  rw[show fK (m.empty.drop 0) ((0:Nat):Int)=fK m.empty 0 from I];have jM:sY m (201-0) 0 [] ⟨[],[fK m.empty 0]⟩=y7 m:=rfl;generalize fK m.empty 0=t0 at*;refine Qa (i:=5) (gZ (ap (aj ⟨g20,0,ak⟩) 1 1) [t0]) I (λw h=>Iv h) (λk h=>h) ?_
  repeat(first|refine GC ?_|refine gV (dQ (b:=aE) I I (decide_eq_false J)) ?_|refine GB ?_)
  refine jy 257 256 ?_;refine ue [1,2,3,4,5,6] ?_;clear hre;refine eK (ι:=Nat×List Row×DM×Value×Value×Value) (λ(n,R,d,_,_,_)=>R.length=n/\n<=d.S.length+1/\DOk m.ps d/\d.S.length+1<=200/\sY m (201-n) n R d=y7 m) (λ(n,_,_,_,_,_)=>[(2,aK (aj ⟨g2,0,ak⟩)),(5,aK (aj ⟨g5,0,ak⟩)),(7,av az (n:Int))])
   (λ(_,R,d,vs,vW,vt)=>[aR g2 #[ap ak 0 0,ap ak 0 0] 186,aR g5 (JW vc vr vf vfol vl (ap ae m.empty.length ce) vs (.map (aj gm)) vW vt) 254,oE vs d.S,sZ gm d.S,gZ vt d.tags,bD 257 256 vW R.length (R.flatMap fj)]) (λ(n,_,_,_,_,_)=>201-n) (0,[],⟨[],[t0]⟩,ap (aj ⟨gs,0,ak⟩) 1 1,ap ak 0 0,ap (aj ⟨g20,0,ak⟩) 1 1) ⟨rfl,bO _,⟨List.nodup_nil,rfl⟩,by show 0+1<=200;omega,jM⟩ ?_
  clear jM hk c1;rintro⟨n,R,d,vs,vW,vt⟩ ⟨i0,i1,i2,i3,i4⟩;dsimp only at i0 i1 i2 i3 i4⊢;refine iR (i:=2) I gO λij=>?_;obtain⟨ab,cs,rfl,hmS,-⟩:=ij
  by_cases c1:n<d.S.length+1
  ·rw[show 201-n=(201-(n+1))+1 by omega,He,if_pos c1]at i4
   obtain⟨s1,s2,s3⟩:=Lw (p:=m.ps) (nc m d.S n) 256 0 (eS 256 0) d i2 i3;have Ym:=λw' (rB:Mem (w:b9) [aR g2 #[ap ak 0 0,ap ak 0 0] 186,aR g5 (JW vc vr vf vfol vl (ap ae m.empty.length ce) (ap ab (d.S.length+1) cs) (.map (aj gm)) vW vt) 254,oE (ap ab (d.S.length+1) cs) d.S,sZ gm d.S,gZ vt d.tags,bD 257 256 vW R.length (R.flatMap fj)] w') (hb:Mem (b9.on w' (JX vc vr vf vfol vl (ap ae m.empty.length ce) vW g5 gm (ap ab (d.S.length+1) cs) vt d)) (JX vc vr vf vfol vl (ap ae m.empty.length ce) vW g5 gm (ap ab (d.S.length+1) cs) vt d) w')=>hrw vW d g5 gm n (ap ab (d.S.length+1) cs) vt i2 i3 J w' _ ((p_.self w).on rB (by simp[JX])) hb;rw[show mU m.ps (nc m d.S n) 256 0 (eS 256 0) d=qi m n d from I]at s1 s2 s3;obtain⟨r',d',oC⟩:∃r' d',qi m n d=(r',d'):=⟨_,_,rfl⟩;rw[oC]at i4 s1 s2 s3;dsimp only at i4 s1 s2 s3
   repeat(first|refine GC ?_|refine gV (aB (v:=ap ab (d.S.length+1) cs) aL.ty I (aH (i:=1) I I)) ?_|refine gV (aW (b:=aD) I I (decide_eq_true J)) ?_|refine GB ?_)
   (repeat refine bC ?_)
   refine l_ (ι:=Value×Value×Value) (λ_=>True) (λ_=>[(2,aK (aj ⟨g2,0,ak⟩)),(5,aK (aj ⟨g5,0,ak⟩)),(7,av az (n:Int))])
    (λ(pJ,q8,oL)=>[aR g2 #[ap ak 0 0,ap ak 0 0] 186,aR g5 (JW vc vr vf vfol vl (ap ae m.empty.length ce) pJ (.map (aj gm)) q8 oL) 254,oE pJ d'.S,sZ gm d'.S,gZ oL d'.tags,bD 257 256 q8 (R++[r']).length ((R++[r']).flatMap fj)]) ?_ ?_
   ·refine eo ([]) (.calm 0 (.calm 1 (.calm 2 (.calm 3 (.calm 4 (.calm 6 (.calm 7 (.two 5 (.one 8 (.one 9 (.one 10 (.calm 11 (.calm 12 (.calm 13 (.one 14 (.done)))))))) 8 (.two 5 (.one 9 (.one 10 (.calm 11 (.calm 12 (.calm 13 (.one 14 (.done))))))) 9 (.one 5 (.one 10 (.calm 11 (.calm 12 (.calm 13 (.one 14 (.done)))))))))))))))) (cH []) ?_
    try refine GW ?_
    refine e9 I I ?_ ?_
    ·refine aI (aB (v:=vW) aL.ty I (aH (i:=1) I I)) I I I (aP (cH []) ?_)
     refine aO I (bK [1,2,3,4] [0,5] ahk I I (gK aJ.en I I I) (λw' hm hb=>Ym w' hm hb) I I I ?_);rintro⟨pJ,oL⟩ _
     conv=>arg 8;simp only[zJ,dg,ret,id_eq,Hd,JX]
     conv=>arg 7;simp only[Hd]
     rw[oC];dsimp only;refine aP (cH []) ?_;refine aO I (im (cs:=(fj r').toArray) [BS r'] I I I (EI r') I (Jg r') I λg62=>(aP (cH []) ?_));refine aO I (fc (i:=1) (e:=257) (size:=256) (bytes:=512) (m:=R.length) (xs:=R.flatMap fj) (k:=1) (ys:=fj r') I (lE (i:=6) I (λj u h=>by simpa using h) (bJ 1) ahk) I I (by rw[dW]) (λu hu=>row_one [r'] u (by simpa using hu)) J J I λq8=>(aP (cH []) ?_))
     try refine GW ?_
     refine aO I (aY (i:=1) I λlm lW=>cD (i:=2) I I I lm lW I (aP (cH []) ?_))
     try refine GW ?_
     refine dS [0,2,3,4,5,1] ?_;exact eJ (pJ,q8,oL) trivial (by repeat' (first|exact dl|refine dh I ?_)) (by dsimp only;rw[AT];rfl)
    refine bK [1,2,3,4] [0,5] ahk I I (gK aJ.en I I I) (λw' hm hb=>Ym w' hm hb) I I I ?_;rintro⟨pJ,oL⟩ _
    conv=>arg 8;simp only[zJ,dg,ret,id_eq,Hd,JX]
    conv=>arg 7;simp only[Hd]
    rw[oC];dsimp only;refine aP (cH []) ?_;refine e9 I I ?_ ?_
    ·refine aI (aB (v:=vW) aL.ty I (aH (i:=2) I I)) I I I (aP (cH []) ?_)
     refine aO I (im (cs:=(fj r').toArray) [BS r'] I I I (EI r') I (Jg r') I λg62=>(aP (cH []) ?_));refine aO I (fc (i:=1) (e:=257) (size:=256) (bytes:=512) (m:=R.length) (xs:=R.flatMap fj) (k:=1) (ys:=fj r') I (lE (i:=6) I (λj u h=>by simpa using h) (bJ 1) ahk) I I (by rw[dW]) (λu hu=>row_one [r'] u (by simpa using hu)) J J I λq8=>(aP (cH []) ?_))
     try refine GW ?_
     refine aO I (aY (i:=1) I λlm lW=>cD (i:=2) I I I lm lW I (aP (cH []) ?_))
     try refine GW ?_
     refine dS [0,2,3,4,5,1] ?_;exact eJ (pJ,q8,oL) trivial (by repeat' (first|exact dl|refine dh I ?_)) (by dsimp only;rw[AT];rfl)
    refine im (cs:=(fj r').toArray) [BS r'] I I I (EI r') I (Jg r') I λg62=>(aP (cH []) ?_);refine aO I (aI (aB (v:=vW) aL.ty I (aH (i:=2) I I)) I I I (aP (cH []) ?_));refine aO I (fc (i:=1) (e:=257) (size:=256) (bytes:=512) (m:=R.length) (xs:=R.flatMap fj) (k:=1) (ys:=fj r') I (lE (i:=6) I (λj u h=>by simpa using h) (bJ 1) ahk) I I (by rw[dW]) (λu hu=>row_one [r'] u (by simpa using hu)) J J I λq8=>(aP (cH []) ?_))
    try refine GW ?_
    refine aO I (aY (i:=1) I λlm lW=>cD (i:=2) I I I lm lW I (aP (cH []) ?_))
    try refine GW ?_
    refine dS [0,2,3,4,5,1] ?_;exact eJ (pJ,q8,oL) trivial (by repeat' (first|exact dl|refine dh I ?_)) (by dsimp only;rw[AT];rfl)
   clear Ym;rintro⟨pJ,q8,oL⟩ _;dsimp only;refine iR (i:=2) I gO λij=>?_;obtain⟨ab',cs',rfl,ahi,-⟩:=ij
   by_cases c2:200<d'.S.length+1
   ·rw[if_pos c2]at i4
    have ho:=Pt i4.symm;unfold Rk;rw[ho]
    repeat(first|refine GC ?_|refine gV (aB (v:=ap ab' (d'.S.length+1) cs') aL.ty I (aH (i:=1) I I)) ?_|refine gV (bB (b:=aD) I I (decide_eq_true J)) ?_|refine gV (bP I hbz) ?_|refine GB ?_)
    refine il 0 ?_;refine zL ?_
    try refine GA ?_
    refine ef 257 256 (ef 3 1 ?_);exact e8 (i:=0) I I I I I λw hm=>hm.meets (S:=⟨λ(_:Value×Value)=>True,λx=> .tuple #[iZ x.1 x.2,av az 8],λx=>[bD 257 256 x.1 0 [],bD 3 1 x.2 0 []]⟩) (ap ak 0 0,ap ak 0 0) trivial [6,7] ahk I
   rw[if_neg c2]at i4
   repeat(first|refine GC ?_|refine gV (aB (v:=ap ab' (d'.S.length+1) cs') aL.ty I (aH (i:=1) I I)) ?_|refine gV (bB (b:=aE) I I (decide_eq_false J)) ?_|refine GB ?_)
   exact cJ (n+1,R++[r'],d',ap ab' (d'.S.length+1) cs',q8,oL) ⟨by rw[bT,i0];rfl,by show n+1<=d'.S.length+1;omega,s1,by show d'.S.length+1<=200;omega,i4⟩ (by show 201-(n+1)<201-n;omega)
  have i5:y7 m=aj (R,d):=by
   rw[<-i4,show 201-n=(201-(n+1))+1 by omega,He,if_neg c1]
  have ho:=Ps i5;unfold Rk;rw[ho];refine iR (i:=4) I gO λij=>?_;obtain⟨at',ct',rfl,-⟩:=ij;refine iR (i:=5) I gO λij=>?_;obtain⟨ar',cr',rfl,-⟩:=ij
  repeat(first|refine GC ?_|refine gV (aB (v:=ap ab (d.S.length+1) cs) aL.ty I (aH (i:=1) I I)) ?_|refine gV (aW (b:=aE) I I (decide_eq_false J)) ?_|refine gV (bH (cs:=[ap ar' R.length cr',ap at' d.tags.length ct']) aL.ty I I (λj v hj=>aH (i:=1) I (adu hj))) ?_|refine GB ?_)
  refine il 0 (cs':=#[ap ar' R.length cr',ap at' d.tags.length ct']) ?_;refine zL ?_
  try refine GA ?_
  exact e8 (i:=0) I I I I I λw hm=>hm.meets (S:=⟨λ(_:Value×Value)=>True,λx=> .tuple #[iZ x.1 x.2,av az 0],λx=>[bD 257 256 x.1 R.length (R.flatMap fj),gZ x.2 d.tags]⟩) (ap ar' R.length cr',ap at' d.tags.length ct') trivial [5,4] ahk I
end cZ
namespace fq
open dT iA
def npl:Re->Nat
 | .byte _=>1
 | .HQ a b=>npl a+npl b
 | .HR a b=>npl a+npl b
 | .star a=>npl a
 |_=>0
inductive Rm(P:List Nat->Prop):List Nat->Prop
 |nil:Rm P []
 |cons {u v:List Nat}:P u->Rm P v->Rm P (u++v)
def Wd:Re->Nat->List Nat->Prop
 | .none,_,_=>False
 | .empty,_,l=>l=[]
 | .byte _,n,l=>l=[n]
 | .HQ a b,n,l=>∃u v,l=u++v/\Wd a n u/\Wd b (n+npl a) v
 | .HR a b,n,l=>Wd a n l\/Wd b (n+npl a) l
 | .star a,n,l=>Rm (Wd a n) l
def Zf(F:Nat->Nat->Prop)(T:Nat->Prop):Nat->List Nat->Prop
 |x,[]=>T x
 |x,y::r=>F x y/\Zf F T y r
theorem Zf.mono{F F':Nat->Nat->Prop}{T T':Nat->Prop}(hF:∀x y,F x y->F' x y)(hT:∀x,T x->T' x):∀{l:List Nat} {x:Nat},Zf F T x l->Zf F' T' x l
 |[],_,h=>hT _ h
 |_::_,_,⟨h,h'⟩=>⟨hF _ _ h,Zf.mono hF hT h'⟩
theorem Zf.Ss{F F':Nat->Nat->Prop}{T T':Nat->Prop}(hF:∀x y,F x y->F' x y){y:Nat}{r:List Nat}(hT:∀x,T x->F' x y)(hr:Zf F' T' y r):∀{l:List Nat} {x:Nat},Zf F T x l->Zf F' T' x (l++y::r)
 |[],_,h=>⟨hT _ h,hr⟩
 |_::_,_,⟨h,h'⟩=>⟨hF _ _ h,Zf.Ss hF hT hr h'⟩
end fq
namespace dT
def one(x:C4):List C4:=if x=C4.zero then []else [x]
structure L5(S:List C4)(all:List C4):Prop where
 some:∀x∈all,x≠C4.zero
 apart:all.Pairwise λx y=>x.Vl y=C4.zero
 sum:(all.map T6).sum=256
 whole:∀n,n<256->∃x∈all,x.mem n=aD
 each:∀c∈S,∀x∈all,x.Vl c=x\/x.Vl c=C4.zero
 told:all.Pairwise λx y=>∃c∈S,decide (x.Vl c=x)≠decide (y.Vl c=y)
theorem Yn{x:C4}:x=C4.zero↔∀n,n<256->x.mem n=false:=
 ⟨λh n _=>by rw[h,J8],λh=>ext_mem λn hn=>by rw[h n hn,J8]⟩
theorem Yo{x:C4}(h:T6 x=0):x=C4.zero:=by
 have:xr x=[]:=si h;refine Yn.2 λn hn=>?_
 cases e:x.mem n with
 |false=>rfl
 |true=>exact absurd (RU.2 ⟨hn,e⟩) (by rw[this];simp)
theorem Rn:∀all:List C4,(∀x∈all,x≠C4.zero)->all.length<=(all.map T6).sum
 |[],_=>bJ _
 |x::all,h=>by
  have ih:=Rn all λy hy=>h y (by simp[hy]);have:T6 x≠0:=λe=>h x (by simp) (Yo e);simp only[dE,gu,List.sum_cons];omega
theorem L5.len{S all:List C4}(h:L5 S all):all.length<=256:=by
 have:=Rn all h.some;rw[h.sum]at this;exact this
theorem L5.more{S S' all:List C4}(h:L5 S all)(h1:∀c,c∈S'->c∈S)(h2:∀c,c∈S->c∈S'):L5 S' all:=
 ⟨h.some,h.apart,h.sum,h.whole,λc hc=>h.each c (h1 c hc),h.told.imp λ⟨c,hc,h⟩=>⟨c,h2 c hc,h⟩⟩
end dT
namespace pT
open dT iA fq dq
open cZ (my fL wO I1)
def L6(p:PS)(S:List C4)(all:C4)(b:Nat):Int:=if I0 p all b=C4.zero then-1 else((idx S (I0 p all b)+1:Nat):Int)
def vX(p:PS)(S:List C4)(all:C4)(b:Nat)(x:Int):Prop:=x=L6 p S all b/\(I0 p all b=C4.zero\/I0 p all b∈S)
theorem vX.Ss{p:PS}{S:List C4}{all:C4}{b:Nat}{x:Int}(h:vX p S all b x)(E:List C4):vX p (S++E) all b x:=by
 obtain⟨h1,h2⟩:=h;refine⟨?_,h2.imp id λh=>List.mem_append_left _ h⟩;rw[h1];unfold L6
 by_cases c:I0 p all b=C4.zero
 rw[if_pos c,if_pos c];rw[if_neg c,if_neg c,qy (h2.resolve_left c)]
def q9(p:PS)(t0:Int)(d:DM):Prop:=d.tags=t0::d.S.map (pT.wN p)
theorem TI(p:PS)(t0:Int)(d:DM)(s:C4):(∃E,(jh p d s).2.S=d.S++E)/\s∈(jh p d s).2.S/\(jh p d s).1=idx (jh p d s).2.S s+1/\(q9 p t0 d->q9 p t0 (jh p d s).2):=by
 unfold jh
 by_cases c:s∈d.S
 ·rw[if_pos c]
  exact⟨⟨[],(eB _).symm⟩,c,rfl,id⟩
 rw[if_neg c];refine⟨⟨[s],rfl⟩,List.mem_append_right _ (ep.2 I),?_,λh=>?_⟩
 ·show d.S.length+1=idx (d.S++[s]) s+1
  unfold idx;rw[List.idxOf_append,if_neg c];simp
 show d.tags++[pT.wN p s]=t0::(d.S++[s]).map (pT.wN p)
 rw[h,ft];rfl
theorem Yp(p:PS)(t0:Int)(all:C4)(b:Nat)(hb:b<256)(r:Row)(d:DM):(∃E,(gD p all b r d).2.S=d.S++E)/\(∀c (h:c<256),c≠b->(gD p all b r d).1[c]=r[c])/\vX p (gD p all b r d).2.S all b ((gD p all b r d).1[b])/\(q9 p t0 d->q9 p t0 (gD p all b r d).2):=by
 unfold gD
 by_cases c:I0 p all b=C4.zero
 ·rw[if_pos c,dif_pos hb]
  refine⟨⟨[],(eB _).symm⟩,λc' h hc=>?_,⟨?_,.inl c⟩,id⟩;exact Po hb h (zV hc);rw[Yf hb];unfold L6;rw[if_pos c]
 rw[if_neg c,dif_pos hb];obtain⟨h1,h2,h3,h4⟩:=TI p t0 d (I0 p all b);refine⟨h1,λc' h hc=>?_,⟨?_,.inr h2⟩,h4⟩
 ·dsimp only
  rw[Po hb h (zV hc),Po hb h (zV hc)]
 dsimp only;rw[Yf hb,h3];unfold L6;rw[if_neg c]
theorem Ro(p:PS)(t0:Int)(all:C4):∀(f b:Nat) (r:Row) (d:DM),b+f=256->(mU p all f b r d).2.S.length+1<=200->
 (∃E,(mU p all f b r d).2.S=d.S++E)/\(∀c (h:c<256),c<b->(mU p all f b r d).1[c]=r[c])/\(∀c (h:c<256),b<=c->vX p (mU p all f b r d).2.S all c ((mU p all f b r d).1[c]))/\(q9 p t0 d->q9 p t0 (mU p all f b r d).2)
 |0,b,r,d,hbf,_=>⟨⟨[],(eB _).symm⟩,λ_ _ _=>rfl,λc h hc=>by omega,id⟩
 | f +1,b,r,d,hbf,hl=>by
  obtain⟨⟨E1,h1⟩,h2,h3,h4⟩:=Yp p t0 all b J r d;have e:mU p all (f+1) b r d=if 200<(gD p all b r d).2.S.length+1 then gD p all b r d else mU p all f (b+1) (gD p all b r d).1 (gD p all b r d).2:=rfl
  rw[e]at hl⊢
  by_cases c:200<(gD p all b r d).2.S.length+1
  rw[if_pos c]at hl;omega;rw[if_neg c]at hl⊢;obtain⟨⟨E2,q1⟩,q2,q3,q4⟩:=Ro p t0 all f (b+1) _ _ J hl;refine⟨⟨E1++E2,by rw[q1,h1,eZ]⟩,λc' h hc=>?_,λc' h hc=>?_,λh=>q4 (h4 h)⟩;rw[q2 c' h J,h2 c' h J]
  by_cases ec:c'=b
  ·subst ec
   rw[q2 c' h J,q1];exact h3.Ss E2
  exact q3 c' h J
theorem Hf(m:MS)(S E:List C4){n:Nat}(h:n<=S.length):nc m (S++E) n=nc m S n:=by
 cases n with
 |zero=>rfl
 |succ n=>
  show nG m.ps ((S++E).getD n C4.zero) _=nG m.ps (S.getD n C4.zero) _
  rw[jI J]
structure MkI(m:MS)(t0:Int)(n:Nat)(R:List Row)(d:DM):Prop where
 len:R.length=n
 le:n<=d.S.length+1
 BO:d.S.length+1<=200
 cell:∀q,q<n->∀c (h:c<256),vX m.ps d.S (nc m d.S q) c ((R.getD q wO)[c])
 tags:q9 m.ps t0 d
theorem L7(m:MS)(t0:Int):∀(f n:Nat) (R:List Row) (d:DM) (R':List Row) (d':DM),sY m f n R d=aj (R',d')->MkI m t0 n R d->MkI m t0 (d'.S.length+1) R' d'
 |0,_,_,_,_,_,h,_=>by cases h
 | f + 1,n,R,d,R',d',h,hi=>by
  have e:sY m (f+1) n R d=if n<d.S.length+1 then(if 200<(qi m n d).2.S.length+1 then ak else sY m f (n+1) (R++[(qi m n d).1]) (qi m n d).2)else aj (R,d):=rfl
  rw[e]at h
  by_cases c1:n<d.S.length+1
  ·rw[if_pos c1]at h
   by_cases c2:200<(qi m n d).2.S.length+1
   rw[if_pos c2]at h;cases h;rw[if_neg c2]at h;refine L7 m t0 f (n+1) _ _ R' d' h ?_;obtain⟨⟨E,q1⟩,_,q3,q4⟩:=Ro m.ps t0 (nc m d.S n) 256 0 (eS 256 0) d rfl (by show(qi m n d).2.S.length+1<=200;omega);have q1:(qi m n d).2.S=d.S++E:=q1;have q3:∀c (h:c<256),0<=c->vX m.ps (qi m n d).2.S (nc m d.S n) c ((qi m n d).1[c]):=q3;have hlen:=congrArg List.length q1;rw[bT]at hlen;refine⟨by rw[bT,hi.len];rfl,by omega,by omega,λq hq c hc=>?_,q4 hi.tags⟩
   by_cases eq:q=n
   ·subst eq
    rw[ma (by rw[hi.len];exact bJ _),hi.len,Nat.sub_self];show vX m.ps (qi m q d).2.S (nc m (qi m q d).2.S q) c ((qi m q d).1[c])
    rw[q1,Hf m d.S E J,<-q1];exact q3 c hc (bO _)
   rw[jI (by rw[hi.len];omega),q1,Hf m d.S E J];exact(hi.cell q J c hc).Ss E
  rw[if_neg c1]at h;simp only[dB,gH]at h;obtain⟨rfl,rfl⟩:=h;have:n=d.S.length+1:=by have:=hi.le;omega
  rw[<-this];exact hi
theorem Hg{m:MS}{R:List Row}{d:DM}(h:y7 m=aj (R,d)):MkI m (fK m.empty 0) (d.S.length+1) R d:=
 L7 m (fK m.empty 0) 201 0 [] ⟨[],[fK m.empty 0]⟩ R d h ⟨rfl,bO _,by show 0+1<=200;decide,λq hq=>absurd hq (mc q),rfl⟩
theorem Yq(R:List Row)(q c:Nat)(h:c<256):((R.getD q wO).toList.getD c 0)=(R.getD q wO)[c]:=by
 rw[cK,bQ (by simpa using h),lf,oy]
theorem Jh{p:PS}{n:Nat}(hr:∀r∈p.rules,0<=r/\r<n)(hl:p.rules.length=p.bx.length)(s:C4):∀k,k<=p.bx.length->(kL p s k= -1/\∀i,i<k->s.mem i=aD->p.last.getD i aE=aD->False)\/(∃i,i<k/\s.mem i=aD/\p.last.getD i aE=aD/\kL p s k=p.rules.getD i 0/\0<=kL p s k/\kL p s k<n/\∀i,i<k->s.mem i=aD->p.last.getD i aE=aD->kL p s k<=p.rules.getD i 0)
 |0,_=> .inl ⟨rfl,λi hi=>absurd hi (mc i)⟩
 | k +1,hk=>by
  have R_:0<=p.rules.getD k 0/\p.rules.getD k 0<n:=by
   rw[cK,bQ J,lf];exact hr _ (cV _)
  have e:kL p s (k+1)=if s.mem k=aD/\p.last.getD k aE=aD/\(kL p s k<0\/p.rules.getD k 0<kL p s k)then p.rules.getD k 0 else kL p s k:=rfl
  rw[e];have ih:=Jh hr hl s k J
  by_cases c:s.mem k=aD/\p.last.getD k aE=aD/\(kL p s k<0\/p.rules.getD k 0<kL p s k)
  ·rw[if_pos c]
   refine .inr ⟨k,ox k,c.1,c.2.1,rfl,R_.1,R_.2,λi hi h1 h2=>?_⟩
   by_cases ei:i=k
   subst ei;exact k8 _;rcases ih with⟨_,h⟩|⟨_,_,_,_,_,h0,_,h⟩
   exact(h i J h1 h2).elim;have h7:=h i J h1 h2;have h8:=c.2.2;omega
  rw[if_neg c];rcases ih with⟨h0,h⟩|⟨i,hi,h1,h2,h3,h4,h5,h6⟩
  ·refine .inl ⟨h0,λi hi h1 h2=>?_⟩
   by_cases ei:i=k
   subst ei;exact c ⟨h1,h2,.inl (by rw[h0];decide)⟩;exact h i J h1 h2
  refine .inr ⟨i,by omega,h1,h2,h3,h4,h5,λj hj g1 g2=>?_⟩
  by_cases ej:j=k
  ·subst ej
   have h9:¬(kL p s j<0\/p.rules.getD j 0<kL p s j):=λh=>c ⟨g1,g2,h⟩;omega
  exact h6 j J g1 g2
theorem EJ:∀(l:List Bool) (k:Nat),(fK l k= -1/\∀i,i<l.length->l.getD i aE=aE)\/(∃i,i<l.length/\fK l k=((k+i:Nat):Int)/\l.getD i aE=aD/\∀j,j<i->l.getD j aE=aE)
 |[],_=> .inl ⟨rfl,λ_ _=>rfl⟩
 |true::l,k=> .inr ⟨0,Nat.zero_lt_succ _,rfl,rfl,λj hj=>absurd hj (mc j)⟩
 | false::l,k=>by
  have e:fK (false::l) (k:Int)=fK l ((k+1:Nat):Int):=rfl;rw[e];rcases EJ l (k+1)with⟨h1,h2⟩|⟨i,h1,h2,h3,h4⟩
  ·refine .inl ⟨h1,λi hi=>?_⟩
   cases i with
   |zero=>rfl
   |succ i=>exact h2 i (by simpa using hi)
  refine .inr ⟨i+1,by simpa using h1,by rw[h2];congr 1;omega,h3,λj hj=>?_⟩
  cases j with
  |zero=>rfl
  |succ j=>exact h4 j J
theorem Hh{l:List Bool}: -1<=fK l 0/\fK l 0<(l.length:Int):=by
 rcases EJ l 0 with⟨h1,_⟩|⟨i,h1,h2,_⟩
 ·have h1:fK l 0= -1:=h1
  rw[h1];omega
 have h2:fK l 0=((0+i:Nat):Int):=h2;rw[h2];omega
section
variable{es:List Re}{m:MS}{R:List Row}{d:DM}
theorem aa5(hm:II m)(hi:MkI m (fK m.empty 0) (d.S.length+1) R d){k:Nat}(hk:k<d.S.length+1):d.tags.getD k 0=(if h:k=0 then fK m.empty 0 else pT.wN m.ps (d.S[k-1]' J))/\ -1<=d.tags.getD k 0/\d.tags.getD k 0<20:=by
 have h:=hi.tags;unfold q9 at h;rw[h];have h20:=hm.qY
 cases k with
 |zero=>
  have:=Hh (l:=m.empty);refine⟨rfl,this.1,?_⟩;have e:(fK m.empty 0::d.S.map (pT.wN m.ps)).getD 0 0=fK m.empty 0:=rfl;rw[e];omega
 | succ k=>
  have hk:k<d.S.length:=by omega
  have e:(fK m.empty 0::d.S.map (pT.wN m.ps)).getD (k+1) 0=pT.wN m.ps d.S[k]:=by
   rw[List.getD_cons_succ,cK,fx,bQ hk];rfl
  rw[e];refine⟨rfl,?_⟩;unfold pT.wN;rcases Jh hm.rules hm.ok.ps.rules d.S[k] m.ps.bx.length (bJ _)with⟨h1,_⟩|⟨_,_,_,_,_,h1,h2,_⟩
  rw[h1];omega;omega
theorem adw(hm:II m)(hi:MkI m (fK m.empty 0) (d.S.length+1) R d):my R d.tags=0:=by
 have hl:=hi.len;have hf:=hi.BO;refine I1 ⟨?_,?_,λq hq b hb=>?_,λq hq=>?_⟩ ?_;show 0<R.length;omega
 show R.length<=200;omega
 ·have hq:q<R.length:=hq
  show-1<=(R.getD q wO).toList.getD b 0/\(R.getD q wO).toList.getD b 0<(R.length:Int)
  rw[Yq R q b hb,(hi.cell q J b hb).1];unfold L6
  by_cases c:I0 m.ps (nc m d.S q) b=C4.zero
  rw[if_pos c];omega;rw[if_neg c];have:=nu ((hi.cell q J b hb).2.resolve_left c);omega
 ·have hq:q<R.length:=hq
  exact(aa5 hm hi J).2
 have h:=hi.tags;unfold q9 at h;rw[h,hl,dE,dX]
end
end pT
namespace cZ
open Go.RowKit dr eH yy dq
def gD(R:List Row)(i b:Nat):Int:=(R.getD i wO).toList.getD b 0
theorem vY{R:List Row}{i b:Nat}(h:i<R.length)(hb:b<256):gD R i b=(R[i])[b]:=LA (tags:=[]) h hb
def Fz(R:List Row)(b k:Nat):Ej:=AJ λi:Fin 200=>if i<k then gD R i b else 0
def q_(R:List Row)(b:Nat):Ej:=Fz R b R.length
theorem adx(R:List Row)(b:Nat):Fz R b 0=eS 200 0:=by
 refine kE λi hi=>?_;unfold Fz;simp
theorem Yr(R:List Row)(b k:Nat)(h:k<200):(Fz R b k).set k (gD R k b)=Fz R b (k+1):=by
 refine kE λi hi=>?_;unfold Fz;rw[vB,lK,lK];split
 ·rename_i e;subst e;simp
 have:i<k↔i<k+1:=by omega
 simp only[this]
theorem aa6(c:Ej){i:Nat}(h:i<200)(x:Int):(yb c).toArray.setIfInBounds i (.int .i16 x)=(yb (c.set i x)).toArray:=by
 unfold yb;rw[Yg,sF];simp
theorem Ys:(dJ 200 (av .i16 0)).toArray=(yb (eS 200 0)).toArray:=by
 unfold yb;rw[Pn,AH]
theorem L8(R:List Row)(b i:Nat)(h:i<R.length)(h2:R.length<=200):(q_ R b).toList.getD i 0=gD R i b:=by
 unfold q_ Fz;rw[cK,bQ (by simp;omega),lf,oy,lK];simp[h]
theorem aa7{R:List Row}(hr:∀r∈R,∀x∈r.toList,-32768<=x/\x<=32767){b:Nat}(hb:b<256):XN (q_ R b):=by
 intro i hi;unfold q_ Fz;rw[lK];dsimp only;split
 ·rename_i h
  rw[vY h hb];exact hr R[i] (cV h) _ (by rw[<-oy (h:=by simpa using hb)];exact cV _)
 omega
def nL(R:List Row)(k:Nat):List Ej:=eh [] ((eG k).map (q_ R))
theorem ze(R:List Row)(k:Nat):nL R (k+1)=more (nL R k) (q_ R k):=by
 unfold nL;rw[List.range_succ,ft,Ed,kY]
theorem Rp{R:List Row}{k:Nat}(h:q_ R k∈nL R k):nL R (k+1)=nL R k:=by
 rw[ze];exact if_pos h
theorem Rq{R:List Row}{k:Nat}(h:q_ R k∉nL R k):nL R (k+1)=nL R k++[q_ R k]:=by
 rw[ze];exact if_neg h
theorem Cs(R:List Row):∀k,(nL R k).length<=k
 |0=>bJ _
 |k+1=>by
  have:=Cs R k
  by_cases c:q_ R k∈nL R k
  rw[Rp c];omega;rw[Rq c,bT,ky];omega
theorem Rr(R:List Row)(k:Nat):∀j,k<=j->∃E,nL R j=nL R k++E
 |0,h=>⟨[],by obtain rfl:k=0:=J;rw[eB]⟩
 | j+1,h=>by
  by_cases c:k=j+1
  subst c;exact⟨[],by rw[eB]⟩;obtain⟨E,hE⟩:=Rr R k j J;obtain⟨E',hE'⟩:=C6 (nL R j) (q_ R j);exact⟨E++E',by rw[ze,hE',hE,eZ]⟩
theorem Ji(R:List Row){b k:Nat}(h:b<k):q_ R b∈nL R k:=kZ.2 (.inr (e7.2 ⟨b,by simpa using h,rfl⟩))
def pkN(R:List Row)(b:Nat):Nat:=idx (nL R 256) (q_ R b)
theorem ady{R:List Row}{k:Nat}(h:k<256):pkN R k=if q_ R k∈nL R k then idx (nL R k) (q_ R k)else(nL R k).length:=by
 obtain⟨E,hE⟩:=Rr R (k+1) 256 J;unfold pkN;rw[hE,qy (Ji R (ox k)),ze,rA]
 by_cases c:q_ R k∈nL R k
 rw[if_pos c,if_pos c];rw[if_neg c,if_neg c]
theorem Yt(R:List Row){b:Nat}(h:b<256):pkN R b<(nL R 256).length:=nu (Ji R h)
theorem Rs(R:List Row){b:Nat}(h:b<256):pkN R b<256:=jf (Yt R h) (Cs R 256)
abbrev Of:=Vector Nat 256
def yc(R:List Row)(k:Nat):Of:=AJ λb:Fin 256=>if b<k then pkN R b else 0
theorem ab3(R:List Row):yc R 0=eS 256 0:=by
 refine kE λi hi=>?_;unfold yc;simp
theorem aa8(R:List Row)(k:Nat)(h:k<256):(yc R k).set k (pkN R k)=yc R (k+1):=by
 refine kE λi hi=>?_;unfold yc;rw[vB,lK,lK];split
 ·rename_i e;subst e;simp
 have:i<k↔i<k+1:=by omega
 simp only[this]
def Ct(D:List Ej)(i:Nat):List Int:=D.map λc=>c.toList.getD i 0
def TJ(R:List Row):List (List Int):=(eG R.length).map (Ct (nL R 256))
def fw(o:Of)(vn vt:Value):List Value:=o.toList.map (λn:Nat=> .int .u8 (n:Int))++[vn,vt]
def MP(o:Of)(vn vt:Value):Value:=aU (fw o vn vt).toArray
theorem gT(o:Of)(vn vt:Value):(fw o vn vt).length=258:=by simp[fw]
theorem kM(o:Of)(vn vt:Value):(fw o vn vt).toArray.size=258:=by rw[eE,gT]
theorem afz(o:Of)(vn vt:Value){b:Nat}(h:b<256):(fw o vn vt).toArray[b]?=aj (.int .u8 (o[b]:Int)):=by
 rw[kt];unfold fw;rw[fH (by simpa using h),fx,bQ (by simpa using h),oy];rfl
theorem lX(o:Of)(vn vt:Value):(fw o vn vt).toArray[256]?=aj vn:=by
 rw[kt];unfold fw;rw[mC (by simp)];simp
theorem nM(o:Of)(vn vt:Value):(fw o vn vt).toArray[257]?=aj vt:=by
 rw[kt];unfold fw;rw[mC (by simp)];simp
theorem yd(o:Of){vn vt:Value}(h1:vn.oneCell'=aD)(h2:vt.oneCell'=aD):(fw o vn vt).toArray.toList.all fG=true:=by
 refine sk.2 λu hu=>?_;unfold fw at hu;simp only[fC,e7,ez,iD,or_false]at hu;rcases hu with⟨n,_,rfl⟩|rfl|rfl
 rfl;exact h1;exact h2
theorem adz(o:Of)(vn vt:Value){b:Nat}(h:b<256)(x:Nat):(fw o vn vt).toArray.setIfInBounds b (.int .u8 (x:Int))=(fw (o.set b x) vn vt).toArray:=by
 unfold fw;rw[Yg,sF];simp[AP,h]
theorem Jj:(dJ 256 (av .u8 0)++([ap ak 0 0,ap ak 0 0]:List Value)).toArray=(fw (eS 256 0) (ap ak 0 0) (ap ak 0 0)).toArray:=by
 unfold fw;rw[Pn,AH];rfl
theorem TK(w:World):(dR 30 #[]).run aC w= .ok (MP (eS 256 0) (ap ak 0 0) (ap ak 0 0)) w:=by kernel_rfl
theorem L9(g h n m cap:Nat)(w:World):(dR 30 #[(1,ap (aj ⟨g,0,ak⟩) n n),(2,ap (aj ⟨h,0,ak⟩) m cap)]).run aC w= .ok (MP (eS 256 0) (ap (aj ⟨g,0,ak⟩) n n) (ap (aj ⟨h,0,ak⟩) m cap)) w:=by kernel_rfl
end cZ
namespace iT
open dT iA
open aV (dV Prod eL)
abbrev L_:=Bs->Option dV
def FB(m:L_)(x:Bs)(s:dV):L_:=λy=>if y=x then aj s else m y
abbrev WS:=List Int×Int×L_
def jz(s:WS)(w:Wd):WS:=if w.1=[]then(s.1++[-1],s.2)else(s.1++[s.2.1],s.2.1+1,FB s.2.2 w.1 (1,s.2.1))
abbrev HS:=Int×L_
def tp(s:HS)(r:Rl):HS:=if(s.2 r.1).isSome then s else(s.1+1,FB s.2 r.1 (2,s.1))
def qj(m:L_)(x:Bs):dV:=(m x).getD (0,0)
def zf(m:L_)(r:Rl):Prod:=((qj m r.1).2,r.2.map (qj m))
def Zg:WS:=([],0,λ_=>ak)
def Jk(l:List Wd):WS:=l.foldl jz Zg
def hsN(s:Sp):HS:=s.rules.foldl tp (0,(Jk s.words).2.2)
def dz(s:Sp):eL:=⟨(Jk s.words).2.1,(hsN s).1,s.rules.map (zf (hsN s).2)⟩
def wP(s:Sp):Int:=if aV.cL (dz s)≠0 then 2 else 0
def Small(m:L_):Prop:=∀y s,m y=aj s->0<=s.1/\s.1<=2/\0<=s.2/\s.2<=1000
theorem TM:Small λ_=>none:=λ_ _ h=>by cases h
theorem Hi{m:L_}(h:Small m){x:Bs}{s:dV}(h1:0<=s.1/\s.1<=2/\0<=s.2/\s.2<=1000):Small (FB m x s):=λy z hz=>by
 unfold FB at hz;split at hz
 cases hz;exact h1
 exact h y z hz
theorem Hj{m:L_}(h:Small m)(x:Bs):0<=(qj m x).1/\(qj m x).1<=2/\0<=(qj m x).2/\(qj m x).2<=1000:=by
 unfold qj
 cases hx:m x with
 |none=>exact⟨by decide,by decide,by decide,by decide⟩
 |some s=>exact h x s hx
theorem step_take{α σ:Type}(f:σ->α->σ)(s:σ)(l:List α){k:Nat}(h:k<l.length):(l.take (k+1)).foldl f s=f ((l.take k).foldl f s) l[k]:=by
 rw[ia h,List.foldl_append];rfl
theorem Yu(s:WS)(w:Wd)(k:Nat)(h:k<60)(a1:s.1.length=k)(a2:0<=s.2.1)(a3:s.2.1<=k)(a4:Small s.2.2):
 (jz s w).1.length=k+1/\0<=(jz s w).2.1/\(jz s w).2.1<=((k+1:Nat):Int)/\Small (jz s w).2.2:=by
 unfold jz;split
 ·exact⟨by rw[bT,a1];rfl,a2,by show s.2.1<=_;omega,a4⟩
 ·exact⟨by rw[bT,a1];rfl,by show 0<=s.2.1+1;omega,by show s.2.1+1<=((k+1:Nat):Int);omega,Hi a4 ⟨(by decide:(0:Int)<=1),(by decide:(1:Int)<=2),a2,by show s.2.1<=1000;omega⟩⟩
theorem Yv(l:List Wd):∀k,k<=l.length->k<=60->((l.take k).foldl jz Zg).1.length=k/\0<=((l.take k).foldl jz Zg).2.1/\((l.take k).foldl jz Zg).2.1<=k/\Small ((l.take k).foldl jz Zg).2.2
 |0,_,_=>⟨rfl,k8 _,k8 _,TM⟩
 |k+1,h,h60=>by
  obtain⟨a1,a2,a3,a4⟩:=Yv l k J J;rw[step_take _ _ _ (show k<l.length by omega)];exact Yu _ _ k J a1 a2 a3 a4
theorem Yw(s:HS)(r:Rl)(k:Nat)(h:k<60)(a2:0<=s.1)(a3:s.1<=k)(a4:Small s.2):
 0<=(tp s r).1/\(tp s r).1<=((k+1:Nat):Int)/\Small (tp s r).2:=by
 unfold tp;split
 ·exact⟨a2,by show s.1<=_;omega,a4⟩
 ·exact⟨by show 0<=s.1+1;omega,by show s.1+1<=((k+1:Nat):Int);omega,Hi a4 ⟨(by decide:(0:Int)<=2),(by decide:(2:Int)<=2),a2,by show s.1<=1000;omega⟩⟩
theorem ab4(l:List Rl)(m:L_)(hm:Small m):∀k,k<=l.length->k<=60->0<=((l.take k).foldl tp (0,m)).1/\((l.take k).foldl tp (0,m)).1<=k/\Small ((l.take k).foldl tp (0,m)).2
 |0,_,_=>⟨k8 _,k8 _,hm⟩
 |k+1,h,h60=>by
  obtain⟨a2,a3,a4⟩:=ab4 l m hm k J J;rw[step_take _ _ _ (show k<l.length by omega)];exact Yw _ _ k J a2 a3 a4
end iT
namespace cZ
open Go.RowKit dr eH iT
def jx(vo:Value)(pk tl:List Value):List Value:=vo::(pk++tl)
def gU(t n:Int)(vp:Value)(mode:Int)(rows ed gt:Value):List Value:=[av az t,av az n,vp,av az mode,rows,ed,gt]
def Uh:List Value:=fw (eS 256 0) (ap ak 0 0) (ap ak 0 0)
theorem jp:Uh.length=258:=gT _ _ _
def E9:List Value:=jx (ap ak 0 0) Uh (gU 0 0 (ap ak 0 0) 0 (ap ak 0 0) (ap ak 0 0) (ap ak 0 0))
theorem wy:(([ap ak 0 0]:List Value)++dJ 256 (av .u8 0)++([ap ak 0 0,ap ak 0 0,av az 0,av az 0,ap ak 0 0,av az 0,ap ak 0 0,ap ak 0 0,ap ak 0 0]:List Value)).toArray=E9.toArray:=by
 have e:∀z:List Value,(([ap ak 0 0]:List Value)++z++([ap ak 0 0,ap ak 0 0,av az 0,av az 0,ap ak 0 0,av az 0,ap ak 0 0,ap ak 0 0,ap ak 0 0]:List Value)).toArray=((ap ak 0 0:Value)::((z++[ap ak 0 0,ap ak 0 0])++gU 0 0 (ap ak 0 0) 0 (ap ak 0 0) (ap ak 0 0) (ap ak 0 0))).toArray:=λz=>by simp[gU]
 unfold E9 jx Uh fw;rw[Pn,AH];exact e _
theorem TO(w:World):(dR 38 #[]).run aC w= .ok (aU E9.toArray) w:=by
 rw[<-wy];kernel_rfl
theorem jA{vo:Value}{pk tl:List Value}(j:Nat)(hp:pk.length=258){k:Nat}{v:Value}(h:tl[j]?=aj v)(hk:k=j+259):(jx vo pk tl).toArray[k]?=aj v:=by
 subst hk;rw[kt,jx,CH,mC J,show j+258-pk.length=j by omega];exact h
theorem adA{vo:Value}{pk tl:List Value}(j:Nat)(hp:pk.length=258){k:Nat}(v:Value)(hk:k=j+259):(jx vo pk tl).toArray.setIfInBounds k v=(jx vo pk (tl.set j v)).toArray:=by
 subst hk;rw[List.setIfInBounds_toArray,jx,List.set_cons_succ,AP,if_neg J,show j+258-pk.length=j by omega];rfl
theorem kN{vo:Value}{pk tl:List Value}(hp:pk.length=258)(ht:tl.length=7):(jx vo pk tl).toArray.size=266:=by
 rw[eE,jx,dE,bT];omega
theorem vZ{vo:Value}{pk tl:List Value}(h1:vo.oneCell'=aD)(h2:pk.all fG=aD)(h3:tl.all fG=aD):(jx vo pk tl).toArray.toList.all fG=true:=by
 rw[jx,dw,List.all_append,h1,h2,h3];rfl
theorem Rt:Uh.all fG=true:=by
 have:=yd (eS 256 0) (vn:=ap ak 0 0) (vt:=ap ak 0 0) I I
 simpa[Uh]using this
theorem s9{vo:Value}{pk:List Value}(hp:pk.length=258){t n mode:Int}{vp rows ed gt v:Value}{j:Nat}(h:[av az t,av az n,vp][j]?=aj v):(jx vo pk (gU t n vp mode rows ed gt)).toArray[0+259+j]?=aj v:=by
 match j,h with
 |0,h=>exact jA 0 hp h I
 |1,h=>exact jA 1 hp h I
 |2,h=>exact jA 2 hp h I
 |n+3,h=>cases h
section
variable{P:Program}{n:Nat}{W:b9}{fr:Fr}{L:List cU}{Q:Exit->Act->World->Prop}{ops:Array Oper}{rest:List Oper}{ty:TypeId}{pos:String}{after:Array Edge}{t:TypeId}{p x:Operand}{i g k:Nat}{vo:Value}{pk tl:List Value}{T:TypeId}{agg:Bool}{v:Value}
theorem eI(j:Nat)[hT:aL P t agg 1](hi:L[i]?=aj (aR g (jx vo pk tl).toArray T))(hp:ev fr p=aj (aK (aj ⟨g,k,ak⟩)))(hx:ev fr x=aj v)(hv:v.cells=#[v])(h1:v.oneCell'=aD)(hk:k=j+259)(eA:pk.length=258)(hj:dM j tl.length=aD)
 (h:TL P n W ops Q rest fr (L.set i (aR g (jx vo pk (tl.set j v)).toArray T))):TL P n W ops Q (⟨ak,.store t p x,ty,pos,after,ak⟩::rest) fr L:=by
 have hj:j<tl.length:=mH hj;refine cD hi hp hx hv h1 ?_ ?_
 ·rw[eE,jx,dE,bT]
  exact Nat.ble_eq_true_of_le J
 ·rw[adA j eA v hk];exact h
theorem ye[hT:aL P t agg 1](hi:L[i]?=aj (aR g (jx vo pk tl).toArray T))(hp:ev fr p=aj (aK (aj ⟨g,k,ak⟩)))(hx:ev fr x=aj v)(hv:v.cells=#[v])(h1:v.oneCell'=aD)(hk:k=0)
 (h:TL P n W ops Q rest fr (L.set i (aR g (jx v pk tl).toArray T))):TL P n W ops Q (⟨ak,.store t p x,ty,pos,after,ak⟩::rest) fr L:=by
 subst hk;refine cD hi hp hx hv h1 I ?_;exact h
theorem Pv{pk':List Value}[hT:aL P t agg 258](hi:L[i]?=aj (aR g (jx vo pk tl).toArray T))(hp:ev fr p=aj (aK (aj ⟨g,k,ak⟩)))(hx:ev fr x=aj (aU pk'.toArray))(h1:pk'.all fG=aD)(hk:k=1)(eA:pk.length=258)(agD:pk'.length=258)
 (h:TL P n W ops Q rest fr (L.set i (aR g (jx vo pk' tl).toArray T))):TL P n W ops Q (⟨ak,.store t p x,ty,pos,after,ak⟩::rest) fr L:=by
 subst hk;refine uc hT.ty hi hp hx (by simpa[vV]using agD) (by simpa[vV]using h1) (by rw[eE,jx,dE,bT];omega) ?_ h;apply qJ;show vo::(pk'++tl)=Pl 1 (vo::(pk++tl))++pk'++Pm (1+258) (vo::(pk++tl))
 rw[sm,List.take_zero,show 1+258=258+1 from I,Ax,List.drop_append_of_le_length J,je J];rfl
theorem Pw{a b c d e f f' u u':Value}[hT:aL P t agg 2](hi:L[i]?=aj (aR g (jx vo pk [a,b,c,d,e,f,f']).toArray T))(hp:ev fr p=aj (aK (aj ⟨g,k,ak⟩)))(hx:ev fr x=aj (aU #[u,u']))(h1:u.oneCell'=aD)(h2:u'.oneCell'=aD)(hk:k=264)(eA:pk.length=258)
 (h:TL P n W ops Q rest fr (L.set i (aR g (jx vo pk [a,b,c,d,e,u,u']).toArray T))):TL P n W ops Q (⟨ak,.store t p x,ty,pos,after,ak⟩::rest) fr L:=by
 subst hk;refine uc hT.ty hi hp hx I (by simp[vV,h1,h2]) (by rw[eE,jx,dE,bT];simp[eA]) ?_ h;apply qJ;show vo::(pk++[a,b,c,d,e,u,u'])=Pl (263+1) (vo::(pk++[a,b,c,d,e,f,f']))++[u,u']++Pm (265+1) (vo::(pk++[a,b,c,d,e,f,f']))
 rw[sm,Ax,show 263=pk.length+5 by omega,List.take_append,gj J,show 265=pk.length+7 by omega,List.drop_append,je J];simp
end
end cZ
namespace cZ
open Go.RowKit dr eH yy dq
def TP:Nat->Nat×Nat
 |0=>(0,0)
 | n+1=>match TP n with
  |(a,0)=>(0,a+1)
  |(a,b+1)=>(a+1,b)
theorem EK:∀(s a b:Nat),a+b=s->∃n,TP n=(a,b)
 |0,a,b,h=>⟨0,by obtain rfl:a=0:=J;obtain rfl:b=0:=J;rfl⟩
 |s+1,0,b,h=>by
  obtain rfl:b=s+1:=by omega
  obtain⟨n,hn⟩:=EK s s 0 J;exact⟨n+1,by simp[TP,hn]⟩
 |s+1,a+1,b,h=>by
  obtain⟨n,hn⟩:=EK (s+1) a (b+1) J;exact⟨n+1,by simp[TP,hn]⟩
def pY(m x:Nat):Value:=ap (aj ⟨(TP x).1,0,ak⟩) m (TP x).2
section
variable{P:Program}{n:Nat}{W:b9}{fr:Fr}{ops:Array Oper}
theorem aa9{i d:Nat}{α:Type}(val:α->Value)(z:α){t e ty:TypeId}{pos:String}{after:Array Edge}{x y:Operand}{bytes m:Nat}{k k':IntKind}[tA P t e 1 bytes][fm P e #[val z]](ho:ops[i]?=aj ⟨aj d,.makeSlice t x y,ty,pos,after,ak⟩)(hx:ev fr x=aj (.int k (m:Int)))(hy:ev fr y=aj (.int k' (m:Int)))(hb:bytes*m<=281474976710656)(r9:m<=9223372036854775807)(hn:dM d n=aD):
 F_ P n W ops fr ⟨i,d,λg=>ap (aj ⟨g,0,ak⟩) m m,λg=>fO e val g m λ_=>z⟩:=
 ⟨_,ho,λ_ _ _ hl h=>pA val z (yw hl hx) (yw hl hy) hb r9 hn h⟩
theorem Px{i d:Nat}{o:Oper}{f:FuncId}{args:Array Value}{e:TypeId}{size m:Nat}{xs:List Value}(ho:ops[i]?=aj o)(he:∀E4,(∀q v,look fr q=aj v->look E4 q=aj v)->∀a w,nH n a E4->(execOp a.eval o).run P w= .ok (.enter f args) w)
 (hc:∀(L:List cU) w,Mem W L w->Calls P f args w (cY (dg e size m xs id) w)) (hm:0<m) (hg:o.guard=ak) (hd:o.dst=aj d) (hn:dM d n=aD):
 F_ P n W ops fr ⟨i,d,pY m,λx=>bD e size (pY m x) m xs⟩:=
 ⟨o, ho,λQ E4 L hl h=>a8 (he E4 hl) (λw hw=>hc L w hw) hg hd hn λv _=> .mk λa w hr hw=>by
  have A4:(bD e size v m xs).holds w:=hw.get (i:=L.length) (by simp[dg]);obtain⟨G,cap,hv,_,_,_⟩:=Ki A4
  cases G with
  | none=>
   rcases A4.2 with⟨_,h0⟩|⟨g,HP,kg,Sa,_⟩
   omega;rw[Sa]at hv;cases hv
  | some g=>
   obtain⟨x,hx⟩:=EK _ g cap rfl;have e:v=pY m x:=by rw[hv];unfold pY;rw[hx];rfl
   have:=h x;dsimp only at this;rw[<-e]at this;exact this.go a w hr hw⟩
end
theorem Ma{P:Program}{n:Nat}{W:b9}{fr:Fr}{L:List cU}{Q:Exit->Act->World->Prop}{ops:Array Oper}{rest:List Oper}{ty:TypeId}{pos:String}{after:Array Edge}{t:TypeId}{p x:Operand}{i g b:Nat}{c:Ej}{T:TypeId}{agg:Bool}{z:Int}[hT:aL P t agg 1](hi:L[i]?=aj (aR g (yb c).toArray T))(hp:ev fr p=aj (aK (aj ⟨g,0+b,ak⟩)))(hx:ev fr x=aj (.int .i16 z))(hb:b<200)
 (h:TL P n W ops Q rest fr (L.set i (aR g (yb (c.set b z)).toArray T))):TL P n W ops Q (⟨ak,.store t p x,ty,pos,after,ak⟩::rest) fr L:=by
 rw[du]at hp;refine cD hi hp hx I I ?_ ?_
 ·rw[eE,rT];exact AI▸hb
 ·rw[aa6 c hb];exact h
abbrev yf(v:Value):Value:=v
def Yx(n:Nat):Mk:=⟨3,24,λg=>ap (aj ⟨g,0,ak⟩) n n,λg=>fO 26 yf g n λ_=>ap ak 0 0⟩
def Yy(tags:List Int):Mk:=⟨6,27,pY tags.length,λx=>bD 3 1 (pY tags.length x) tags.length (tags.flatMap dr.eV)⟩
def aa_:Mk:=⟨8,5,λg=>aK (aj ⟨g,0,ak⟩),λg=>aR g (dJ 256 (av .u8 0)++([ap ak 0 0,ap ak 0 0]:List Value)).toArray 30⟩
def TQ(n:Nat)(D:List Ej)(vs:Nat->Value):cU:=jB (λi=>i<n) λi=>bD 3 1 (vs i) D.length ((Ct D i).flatMap dr.eV)
def nxM(n:Nat)(D:List Ej)(col:Ej)(j:Nat)(vs:Nat->Value):cU:=jB (λi=>i<n) λi=>bD 3 1 (vs i) (if i<j then D++[col]else D).length ((Ct (if i<j then D++[col]else D) i).flatMap dr.eV)
theorem afA(n:Nat)(D:List Ej)(col:Ej)(vs:Nat->Value):nxM n D col 0 vs=TQ n D vs:=by
 unfold nxM TQ;simp
theorem Ru(n:Nat)(D:List Ej)(col:Ej)(vs:Nat->Value)(i:Nat)(h:i<n):(λi=>bD 3 1 (vs i) (D++[col]).length ((Ct (D++[col]) i).flatMap dr.eV)) i=(λi=>bD 3 1 (vs i) (if i<n then D++[col]else D).length ((Ct (if i<n then D++[col]else D) i).flatMap dr.eV)) i:=by
 dsimp only;rw[if_pos h]
theorem EL{P:Program}{n:Nat}{W:b9}{fr:Fr}{L:List cU}{Q:Exit->Act->World->Prop}{ops:Array Oper}{rest:List Oper}{ty:TypeId}{pos:String}{after:Array Edge}{t:TypeId}{p x:Operand}{i g b z:Nat}{o:Of}{vn vt:Value}{T:TypeId}{agg:Bool}[hT:aL P t agg 1](hi:L[i]?=aj (aR g (fw o vn vt).toArray T))(hp:ev fr p=aj (aK (aj ⟨g,0+b,ak⟩)))(hx:ev fr x=aj (.int .u8 (z:Int)))(hb:b<256)
 (h:TL P n W ops Q rest fr (L.set i (aR g (fw (o.set b z) vn vt).toArray T))):TL P n W ops Q (⟨ak,.store t p x,ty,pos,after,ak⟩::rest) fr L:=by
 rw[du]at hp;refine cD hi hp hx I I ?_ ?_
 ·rw[kM];exact AI▸J
 ·rw[adz o vn vt hb];exact h
theorem Yz{j:Nat}{D:List Ej}{col:Ej}{vs:Nat->Value}{v2:Value}{x:Int}(h:Ct (D++[col]) j=Ct D j++[x])(q:Nat):
  (λi=>bD 3 1 ((λi=>if i=j then v2 else vs i) i) (if i<j+1 then D++[col]else D).length ((Ct (if i<j+1 then D++[col]else D) i).flatMap dr.eV)) q
   =Sk (λi=>bD 3 1 (vs i) (if i<j then D++[col]else D).length ((Ct (if i<j then D++[col]else D) i).flatMap dr.eV)) j (bD 3 1 v2 (D.length+1) ((Ct D j).flatMap dr.eV++[av az x])) q:=by
 unfold Sk;dsimp only
 by_cases c:q=j
 ·subst c
  rw[if_pos I,if_pos I,if_pos (ox q),h,bT,fV];rfl
 ·rw[if_neg c,if_neg c]
  have e:q<j+1↔q<j:=by omega
  simp only[e]
def YA(R:List Row)(tags:List Int):Spec (Nat×(Nat->Value)×Value):=⟨λ_=>True,λx=> .tuple #[MP (yc R 256) (ap (aj ⟨x.1,0,ak⟩) R.length R.length) x.2.2,av az 0],
 λx=>[fO 26 yf x.1 R.length x.2.1,TQ R.length (nL R 256) x.2.1,bD 3 1 x.2.2 tags.length (tags.flatMap dr.eV)]⟩
set_option maxRecDepth 100000 in
theorem Py(vr vt:Value)(R:List Row)(tags:List Int)(w:World)(h:Fs w vr vt R tags)(hc:my R tags=0):
 Calls aC 79 #[iZ vr vt] w (cY (YA R tags) w):=by
 have jr:=λw' (hg:Gr w w')=>En vr vt R tags w' (h.gr hg);rw[hc]at jr;have lz:=λw' (hg:Gr w w') hl=>BR vt tags w' (h.hT.gr hg) hl;obtain⟨bt,ct,rfl,ht1,V5,JP⟩:=h.hT;obtain⟨br,cr,rfl,Za,we,Dg⟩:=h.hR;have aaR:=h.rng;unfold maxLen at we V5;clear h;obtain⟨hA,hlt⟩:=vC hc;have AA:0<R.length:=hA.pos;have hle:R.length<=200:=hA.le;clear hA hc;obtain⟨b,off,rfl,hr⟩:=Dg AA;obtain⟨bb,tF,rfl,hrt⟩:=JP J;clear Dg JP hrt;have lz:=λw' hg=>lz w' hg J;have FV:=TK;refine enter (args:=[iZ (ap (aj ⟨b,off,ak⟩) R.length cr) (ap (aj ⟨bb,tF,ak⟩) tags.length ct)]) (n:=91) Tryz.func79 I I I ?_;refine bC (aM (b_ I I I λg1=>?_));refine bz I λg2=>?_;rw[Jj];refine zL ?_
 repeat(first|refine GA ?_|refine gV (aQ (i:=0) aL.ty I I I) ?_)
 refine a8 (ju aJ.en I I) (λw hm=>jr _ hm.below) I I I ?_;intro _ _
 try refine GA ?_
 (repeat refine bC ?_)
 refine l_ (ι:=Nat×Nat×Nat) (λ_=>True) (λ(_,_,g5)=>[(1,aK (aj ⟨g1,0,ak⟩)),(2,aK (aj ⟨g2,0,ak⟩)),(5,aK (aj ⟨g5,0,ak⟩))])
  (λ(gN,x,g5)=>[aR g1 (iZ (ap (aj ⟨b,off,ak⟩) R.length cr) (ap (aj ⟨bb,tF,ak⟩) tags.length ct)).cells 186,aR g2 (fw (eS 256 0) (ap ak 0 0) (ap ak 0 0)).toArray 30,fO 26 yf gN R.length (λ_=>ap ak 0 0),bD 3 1 (pY tags.length x) tags.length (tags.flatMap dr.eV),aR g5 (fw (yc R 0) (ap (aj ⟨gN,0,ak⟩) R.length R.length) (pY tags.length x)).toArray 30]) ?_ ?_
 ·refine VJ [aR g1 (iZ (ap (aj ⟨b,off,ak⟩) R.length cr) (ap (aj ⟨bb,tF,ak⟩) tags.length ct)).cells 186] (cH [0]) (by kernel_rfl) (by kernel_rfl) (by intro c a d v w h;cases d<;>exact h) ?_
  refine qR 0 (by kernel_rfl) I (iQ cI.iC I I) I I I ?_;refine qR 1 (by kernel_rfl) I (aB aL.ty I (aH (i:=0) I I)) I I I ?_;refine qR 2 (by kernel_rfl) I (sq bR.eq I) I I I ?_;refine qR 4 (by kernel_rfl) I (iQ cI.iC I I) I I I ?_;refine qR 5 (by kernel_rfl) I (aB aL.ty I (aH (i:=0) I I)) I I I ?_;refine Km [Yx R.length,Yy tags,aa_] (λm=>!Nat.beq m.i 8) 2 (by kernel_rfl) (by kernel_rfl) ?_ (λq=>?_) λq=>?_
  ·intro m hm
   simp only[ez,iD,or_false]at hm;rcases hm with rfl|rfl|rfl
   exact aa9 yf _ I I I J J I;exact Px I (λE4 hl=>ju aJ.en I (yw hl I)) (λL w hm=>lz w hm.below) J I I I;exact Gb I I
  ·simp only[Yx,Yy,aa_,gu,o7]
   generalize q 3=gN;generalize q 6=x;generalize q 8=g5;clear q;rw[Jj];refine Ce (.calm 7 (.one 9 .done)) (by kernel_rfl) I ?_
   repeat(first|refine GW ?_|(refine GN ?_;first|refine QW (bP I (L9 _ _ _ _ _)) ?_))
   refine aO I ?_;refine aZ (i:=4) (cs':=(fw (eS 256 0) (ap (aj ⟨gN,0,ak⟩) R.length R.length) (pY tags.length x)).toArray) I I I (kM _ _ _) (yd _ I I) (kM _ _ _) ?_;refine aP (cH [0]) ?_
   try refine GW ?_
   exact eJ (gN,x,g5) trivial (by repeat' (first|exact dl|refine dh I ?_)) (by rw[ab3];rfl)
  rw[show List.filter (λm:Mk=>!Nat.beq m.i 8) [Yx R.length,Yy tags,aa_]=[Yx R.length,Yy tags]from I];simp only[Yx,Yy,aa_,gu,o7];generalize q 3=gN;generalize q 6=x;clear q;refine Ce (.calm 7 (.one 8 (.one 9 .done))) (by kernel_rfl) (by kernel_rfl) ?_
  repeat(first|refine GW ?_|(refine GN ?_;first|refine QW (bP I (L9 _ _ _ _ _)) ?_))
  refine aO I ?_;refine bz I λg5=>?_;refine aP (cH [0]) ?_;rw[Jj];refine aO I ?_;refine aZ (i:=4) (cs':=(fw (eS 256 0) (ap (aj ⟨gN,0,ak⟩) R.length R.length) (pY tags.length x)).toArray) I I I (kM _ _ _) (yd _ I I) (kM _ _ _) ?_;refine aP (cH [0]) ?_
  try refine GW ?_
  exact eJ (gN,x,g5) trivial (by repeat' (first|exact dl|refine dh I ?_)) (by rw[ab3];rfl)
 rintro⟨gN,xT,g5⟩ _;dsimp only;generalize hvT:pY tags.length xT=vT
 try refine GA ?_
 refine Ai (K:=LC) I λg6=>?_;refine zL ?_
 try refine GA ?_
 refine mN (TQ R.length [] λ_=>ap ak 0 0) (λk hk=>?_) (λw=>⟨λi _=>World.ownsRow_nil _ _ _ _,λi j _ _ _ k hk=>?_⟩) ?_
 ·rcases hk with hk|⟨i,_,hk⟩
  cases hk
  rcases hk with hk|hk<;>cases hk
 ·rcases hk with hk|hk<;>cases hk
 conv=>arg 7;simp only[zA,zB,zC,zD,zE,zF,zG,zH,zI,dg,ret,id_eq]
 refine eK (ι:=Nat×(Nat->Value)) (λ(k,_)=>k<=256) (λ(k,_)=>[(1,aK (aj ⟨g1,0,ak⟩)),(2,aK (aj ⟨g2,0,ak⟩)),(5,aK (aj ⟨g5,0,ak⟩)),(6,.map (aj g6)),(30,av az (k:Int))])
  (λ(k,vs)=>[aR g1 (iZ (ap (aj ⟨b,off,ak⟩) R.length cr) (ap (aj ⟨bb,tF,ak⟩) tags.length ct)).cells 186,aR g2 (fw (eS 256 0) (ap ak 0 0) (ap ak 0 0)).toArray 30,fO 26 yf gN R.length vs,bD 3 1 vT tags.length (tags.flatMap dr.eV),aR g5 (fw (yc R k) (ap (aj ⟨gN,0,ak⟩) R.length R.length) vT).toArray 30,fD LC g6 (kI (nL R k)) (nL R k).length,TQ R.length (nL R k) vs]) (λ(k,_)=>256-k) (0,λ_=>ap ak 0 0) (bO _) ?_
 rintro⟨k,vs⟩ hk;dsimp only at hk⊢
 by_cases c1:k<256
 ·try refine GA ?_
  refine bz I λg8=>?_;refine zL ?_;rw[Ys,<-adx R k]
  repeat(first|refine GA ?_|refine gV (aB aL.ty I (aH (i:=0) I I)) ?_)
  refine eK (ι:=Nat) (λj=>j<=R.length) (λj=>[(1,aK (aj ⟨g1,0,ak⟩)),(2,aK (aj ⟨g2,0,ak⟩)),(5,aK (aj ⟨g5,0,ak⟩)),(6,.map (aj g6)),(7,av az (k:Int)),(8,aK (aj ⟨g8,0,ak⟩)),(30,av az (k:Int)),(34,ap (aj ⟨b,off,ak⟩) R.length cr),(35,av az (R.length:Int)),(36,av az (j:Int))])
   (λj=>[aR g1 (iZ (ap (aj ⟨b,off,ak⟩) R.length cr) (ap (aj ⟨bb,tF,ak⟩) tags.length ct)).cells 186,aR g2 (fw (eS 256 0) (ap ak 0 0) (ap ak 0 0)).toArray 30,fO 26 yf gN R.length vs,bD 3 1 vT tags.length (tags.flatMap dr.eV),aR g5 (fw (yc R k) (ap (aj ⟨gN,0,ak⟩) R.length R.length) vT).toArray 30,fD LC g6 (kI (nL R k)) (nL R k).length,TQ R.length (nL R k) vs,aR g8 (yb (Fz R k j)).toArray 263]) (λj=>R.length-j) 0 (bO _) ?_
  intro j hj
  by_cases c2:j<R.length
  ·have O7:=λ(L:List cU)=>iB (W:=w) (L:=L) dW hr c2
   have hcell:(fj R[j]).toArray[0+k]?=aj (.int .i16 (gD R j k)):=by rw[du,kt,pW _ c1,vY c2 c1]
   have tv:=Yr R k j J;generalize R[j]=r at*;generalize gD R j k=x at*
   repeat(first|refine GA ?_|refine gV (a_ bR.eq aL.ty I I c2) ?_|refine gV (bH aL.ty I (dW r) (O7 _)) ?_)
   refine bz I λg10=>?_;refine zL ?_
   try refine GA ?_
   refine aZ (i:=8) (cs':=(fj r).toArray) I I I (by rw[eE,dW]) (by simpa using rR r) (by kernel_rfl) ?_;refine zL ?_
   repeat(first|refine GA ?_|refine gV (iz bR.eq aL.ty I I c1) ?_|refine gV (aB aL.ty I (aH (i:=8) I hcell)) ?_|refine gV (iz bR.eq aL.ty I I J) ?_)
   refine Ma (i:=7) (b:=j) I I I J ?_;rw[tv];refine zL ?_
   try refine GA ?_
   refine dS [0,1,2,3,4,5,6,7] ?_;exact cJ (j+1) J (by show R.length-(j+1)<R.length-j;omega)
  obtain rfl:j=R.length:=by omega
  rw[show Fz R k R.length=q_ R k from I];have l7:=aa7 aaR c1;have hnk:=ady (R:=R) c1;have YB:=Rs R c1;have Pz:=aa8 R k c1;have X_:=Cs R k;have hzero:∀w:World,(zeroValue 3).run aC w= .ok (av az 0) w:=XO
  by_cases c2:q_ R k∈nL R k
  ·have hD:=Rp c2
   rw[if_pos c2]at hnk;generalize q_ R k=col at*
   repeat(first|refine GA ?_|refine gV (aQ (i:=7) aL.ty I I (by rw[eE,rT])) ?_|refine gV (uE (K:=LC) (x:=col) bR.eq hzero (i:=5) I I I l7 c2) ?_)
   have hwr:=XZ (k:=idx (nL R k) col) (by rw[<-hnk];exact YB);rw[hnk]at Pz;clear hnk YB aaR;generalize nL R k=D at*
   repeat(first|refine GA ?_|refine gV (jl bR.eq bR.eq I hwr) ?_|refine gV (iz bR.eq aL.ty I I c1) ?_)
   refine EL (i:=4) (b:=k) I I I c1 ?_;rw[Pz];refine zL ?_
   try refine GA ?_
   refine dS [0,1,2,3,4,5,6] ?_;exact cJ (k+1,vs) (by show k+1<=256;omega) (by show 256-(k+1)<256-k;omega) (hl:=by dsimp only;rw[hD];rfl)
  have hD:=Rq c2;rw[if_neg c2]at hnk;have hcg:=λi hi=>L8 R k i hi hle;have hwr:=XZ (k:=(nL R k).length) J;rw[hnk]at Pz;clear hnk YB;generalize q_ R k=col at*;generalize hDk:nL R k=D at*
  repeat(first|refine GC ?_|refine gV (aQ (i:=7) aL.ty I I (by rw[eE,rT])) ?_|refine gV (uF (K:=LC) (x:=col) bR.eq hzero (i:=5) I I I l7 c2) ?_|refine gV (wo LC bR.eq (i:=5) I I) ?_|refine GB ?_)
  refine Aj (K:=LC) (i:=5) (x:=col) bR.eq I I I I l7 c2 J ?_;refine zL ?_
  repeat(first|refine GA ?_|refine gV (aB aL.ty I (aH (i:=0) I I)) ?_)
  refine ue [0,1,2,3,4,5,6] ?_;rw[<-afA R.length D col vs];refine eK (ι:=Nat×(Nat->Value)) (λ(j,_)=>j<=R.length) (λ(j,_)=>[(1,aK (aj ⟨g1,0,ak⟩)),(2,aK (aj ⟨g2,0,ak⟩)),(5,aK (aj ⟨g5,0,ak⟩)),(6,.map (aj g6)),(7,av az (k:Int)),(11,av az (D.length:Int)),(30,av az (k:Int)),(61,ap (aj ⟨b,off,ak⟩) R.length cr),(62,av az (R.length:Int)),(63,av az (j:Int))])
   (λ(j,vs)=>[aR g1 (iZ (ap (aj ⟨b,off,ak⟩) R.length cr) (ap (aj ⟨bb,tF,ak⟩) tags.length ct)).cells 186,aR g2 (fw (eS 256 0) (ap ak 0 0) (ap ak 0 0)).toArray 30,fO 26 yf gN R.length vs,bD 3 1 vT tags.length (tags.flatMap dr.eV),aR g5 (fw (yc R k) (ap (aj ⟨gN,0,ak⟩) R.length R.length) vT).toArray 30,fD LC g6 (kI (D++[col])) (D++[col]).length,nxM R.length D col j vs]) (λ(j,_)=>R.length-j) (0,vs) (bO _) ?_
  rintro⟨j,vs⟩ hj;dsimp only at hj⊢
  by_cases c3:j<R.length
  ·have O7:=λ(L:List cU)=>iB (W:=w) (L:=L) dW hr c3
   have hcell:(fj R[j]).toArray[0+k]?=aj (.int .i16 (gD R j k)):=by rw[du,kt,pW _ c1,vY c3 c1]
   have hx:=aaR R[j] (cV c3) (gD R j k) (by rw[vY c3 c1,<-oy (h:=by simpa using c1)];exact cV _);have hcj:=hcg j c3;clear hcg;generalize R[j]=r at*;generalize gD R j k=x at*
   repeat(first|refine GA ?_|refine gV (a_ bR.eq aL.ty I I c3) ?_|refine gV (bH aL.ty I (dW r) (O7 _)) ?_)
   refine bz I λg14=>?_;refine zL ?_
   try refine GA ?_
   refine aZ (i:=7) (cs':=(fj r).toArray) I I I (by rw[eE,dW]) (by simpa using rR r) (by kernel_rfl) ?_;refine zL ?_
   try refine GA ?_
   unfold nxM;refine NS (q:=6) j I c3 ?_;rw[if_neg (Nat.lt_irrefl j)]
   conv=>arg 7;simp only[zA,zB,zC,zD,zE,zF,zG,zH,zI,dg,ret,id_eq]
   (repeat refine bC ?_)
   refine eo ([aR g1 (iZ (ap (aj ⟨b,off,ak⟩) R.length cr) (ap (aj ⟨bb,tF,ak⟩) tags.length ct)).cells 186,aR g5 (fw (yc R k) (ap (aj ⟨gN,0,ak⟩) R.length R.length) vT).toArray 30,aR g14 (fj r).toArray 257]) (.calm 0 (.calm 1 (.calm 2 (.calm 3 (.calm 4 (.calm 5 (.calm 6 (.calm 8 (.calm 9 (.calm 10 (.calm 11 (.two 7 (.one 12 (.one 13 (.calm 14 (.one 15 (.done))))) 12 (.one 7 (.one 13 (.calm 14 (.one 15 (.done))))))))))))))))) (cH [0,4,7]) ?_
   repeat(first|refine GW ?_|(refine GN ?_;first|refine QW (aB aL.ty I (aH (i:=1) I (lX _ _ _))) ?_|refine QW (cT (j:=j) bR.eq aL.ty I I c3) ?_|refine QW (iz bR.eq aL.ty I I c1) ?_|refine QW (aB aL.ty I (aH (i:=2) I hcell)) ?_|refine QW (jl bR.eq bR.eq I (nI J J)) ?_))
   have hnj:Ct (D++[col]) j=Ct D j++[x]:=by unfold Ct;rw[ft,Ed,hcj]
   have hst:∀v2:Value,∀i,i<R.length->(λi=>if i=j then v2 else vs i) i=if i=j then v2 else vs i:=λ_ _ _=>rfl
   refine e9 I I ?_ ?_
   ·refine aI (aB aL.ty I (gL (i:=2) I c3)) I I I (aP (cH [0,4,7]) ?_)
    refine aO I (fX I I I I I λg80=>aP (cH [0,4,7]) ?_);refine aO I (lO (i:=8) (q:=9) I I I I I I J J I λv2=>aP (cH [0,4,7]) ?_)
    repeat(first|refine GW ?_|(refine GN ?_;first|refine QW (cT (j:=j) bR.eq aL.ty I I c3) ?_))
    refine aO I (aY (i:=8) I λoQ mL=>jj (i:=2) (val:=yf) (off:=j) (v:=v2) (λi=>if i=j then v2 else vs i) aL.ty I I I oQ mL c3 (hst v2) (aP (cH [0,4,7]) ?_))
    try refine GW ?_
    try refine GA ?_
    refine Qi j 6 8 [0,1,2,3,4,5] ahk I I I (λh=>h.2 I) (D':=λi=>i<R.length) (f':=λi=>bD 3 1 ((λi=>if i=j then v2 else vs i) i) (if i<j+1 then D++[col]else D).length ((Ct (if i<j+1 then D++[col]else D) i).flatMap dr.eV)) (λq hq=>(by by_cases e:q=j;exact .inr e;exact .inl ⟨hq,e⟩)) (λq hq=>?_) ?_;exact Yz hnj q;exact cJ (j+1,λi=>if i=j then v2 else vs i) (by show j+1<=R.length;omega) (by show R.length-(j+1)<R.length-j;omega)
   refine fX I I I I I λg80=>aP (cH [0,4,7]) ?_;refine aO I (aI (aB aL.ty I (gL (i:=2) I c3)) I I I (aP (cH [0,4,7]) ?_));refine aO I (lO (i:=8) (q:=9) I I I I I I J J I λv2=>aP (cH [0,4,7]) ?_)
   repeat(first|refine GW ?_|(refine GN ?_;first|refine QW (cT (j:=j) bR.eq aL.ty I I c3) ?_))
   refine aO I (aY (i:=8) I λoQ mL=>jj (i:=2) (val:=yf) (off:=j) (v:=v2) (λi=>if i=j then v2 else vs i) aL.ty I I I oQ mL c3 (hst v2) (aP (cH [0,4,7]) ?_))
   try refine GW ?_
   try refine GA ?_
   refine Qi j 6 8 [0,1,2,3,4,5] ahk I I I (λh=>h.2 I) (D':=λi=>i<R.length) (f':=λi=>bD 3 1 ((λi=>if i=j then v2 else vs i) i) (if i<j+1 then D++[col]else D).length ((Ct (if i<j+1 then D++[col]else D) i).flatMap dr.eV)) (λq hq=>(by by_cases e:q=j;exact .inr e;exact .inl ⟨hq,e⟩)) (λq hq=>?_) ?_;exact Yz hnj q;exact cJ (j+1,λi=>if i=j then v2 else vs i) (by show j+1<=R.length;omega) (by show R.length-(j+1)<R.length-j;omega)
  obtain rfl:j=R.length:=by omega
  refine Qa (TQ R.length (D++[col]) vs) (i:=6) I (Ak (λ_ h=>h) (Ru _ _ _ _)) (Dk (λ_ h=>h) (Ru _ _ _ _)) ?_
  conv=>arg 7;simp only[zA,zB,zC,zD,zE,zF,zG,zH,zI,dg,ret,id_eq]
  repeat(first|refine GA ?_|refine gV (jl bR.eq bR.eq I hwr) ?_|refine gV (iz bR.eq aL.ty I I c1) ?_)
  refine EL (i:=4) (b:=k) I I I c1 ?_;rw[Pz];refine zL ?_
  try refine GA ?_
  exact cJ (k+1,vs) (by show k+1<=256;omega) (by show 256-(k+1)<256-k;omega) (hl:=by dsimp only;rw[hD])
 ·obtain rfl:k=256:=by omega
  repeat(first|refine GA ?_|refine gV (aQ (i:=4) aL.ty I I (kM _ _ _)) ?_)
  refine aY (i:=3) I λoQ mL=>?_;refine aZ (i:=1) (cs':=(fw (yc R 256) (ap (aj ⟨gN,0,ak⟩) R.length R.length) vT).toArray) I I I (kM _ _ _) (yd _ I mL) (kM _ _ _) ?_;refine zL ?_
  try refine GA ?_
  refine e8 (i:=1) I I I (kM _ _ _) I λw hm=>?_;exact hm.meets (S:=YA R tags) (gN,vs,vT) trivial [2,6,3] ahk I
end cZ
namespace cZ
open Go.RowKit dr eH yy dq
structure PkM(w:World)(vn vt:Value)(N:List (List Int))(tags:List Int):Prop where
 ex:∃(b off cap:Nat) (vs:Nat->Value),vn=ap (aj ⟨b,off,ak⟩) N.length cap/\∀i (h:i<N.length),w.cell? ⟨b,off+i,ak⟩=aj (vs i)/\Sl w (vs i) N[i].length (N[i].flatMap dr.eV)
 hT:Sl w vt tags.length (tags.flatMap dr.eV)
structure YC(o:Of)(N:List (List Int))(tags:List Int)(wide:Nat):Prop where
 pos:0<N.length
 le:N.length<=200
 len:tags.length=N.length
 w0:0<wide
 w1:wide<=256
 row:∀i (h:i<N.length),N[i].length=wide
 tag:∀i (h:i<tags.length),-1<=tags[i]/\tags[i]<20
 rng:∀i (h:i<N.length),∀j (h':j<N[i].length),-1<=N[i][j]/\N[i][j]<N.length
 of:∀b (h:b<256),o[b]<wide
theorem PkM.gr{w w':World}{vn vt:Value}{N:List (List Int)}{tags:List Int}(h:PkM w vn vt N tags)(hg:Gr w w'):PkM w' vn vt N tags:=by
 obtain⟨b,off,cap,vs,h1,h2⟩:=h.ex;refine⟨⟨b,off,cap,vs,h1,λi hi=>⟨?_,(h2 i hi).2.gr hg⟩⟩,h.hT.gr hg⟩;rw[hg.cell (np w _ (h2 i hi).1)];exact(h2 i hi).1
def ofC(o:Of):List Value:=o.toList.map λn:Nat=> .int .u8 (n:Int)
theorem aa'(o:Of):(ofC o).length=256:=by simp[ofC]
theorem aba(o:Of){b:Nat}(h:b<256):(ofC o).toArray[b]?=aj (.int .u8 (o[b]:Int)):=by
 rw[kt];unfold ofC;rw[fx,bQ (by simpa using h),oy];rfl
theorem adB(o:Of)(vn vt:Value){j:Nat}{v:Value}(h:(ofC o)[j]?=aj v):(fw o vn vt).toArray[0+j]?=aj v:=by
 have hj:j<(ofC o).length:=(dv.1 h).1;rw[du,kt];show(ofC o++[vn,vt])[j]?=_
 rw[fH hj];exact h
end cZ
namespace cZ
open Go.RowKit dr eH dq
structure Ui(w:World)(vn vt:Value)(N:List (List Int))(tags:List Int):Prop where
 hN:kH (bW fY) (ri w) w vn N
 hT:Sl w vt tags.length (tags.flatMap dr.eV)
theorem Ui.gr{w w':World}{vn vt:Value}{N:List (List Int)}{tags:List Int}(h:Ui w vn vt N tags)(hg:Gr w w'):Ui w' vn vt N tags:=⟨sP h.hN hg,h.hT.gr hg⟩
abbrev ra(o:Of)(N:List (List Int))(tags:List Int):Prop:=YC o N tags (N.headD []).length
open Classical in
noncomputable def zg(o:Of)(N:List (List Int))(tags:List Int):Int:=if 200<N.length then 2 else if ra o N tags then 0 else 1
def Mb(N:List (List Int))(tags:List Int)(wide i:Nat):Prop:=(N.getD i []).length=wide/\ -1<=tags.getD i 0/\tags.getD i 0<20/\∀x∈N.getD i [],-1<=x/\x<N.length
theorem abb{o:Of}{N:List (List Int)}{tags:List Int}{wide:Nat}(h:YC o N tags wide){i:Nat}(hi:i<N.length):Mb N tags wide i:=by
 have hit:i<tags.length:=by rw[h.len];exact hi
 unfold Mb;rw[cK,bQ hi,cK,bQ hit];refine⟨h.row i hi,(h.tag i hit).1,(h.tag i hit).2,λx hx=>?_⟩;obtain⟨j,hj,rfl⟩:=jt.1 hx;exact h.rng i hi j hj
theorem abc{o:Of}{N:List (List Int)}{tags:List Int}{wide:Nat}(h0:0<N.length)(h1:N.length<=200)(h2:tags.length=N.length)(h3:0<wide)(h4:wide<=256)(h5:∀i,i<N.length->Mb N tags wide i)(h6:∀b (h:b<256),o[b]<wide):YC o N tags wide:=by
 have g:∀i (hi:i<N.length),N.getD i []=N[i]:=λi hi=>by rw[cK,bQ hi];rfl
 have gt:∀i (hi:i<tags.length),tags.getD i 0=tags[i]:=λi hi=>by rw[cK,bQ hi];rfl
 refine⟨h0,h1,h2,h3,h4,λi hi=>?_,λi hi=>?_,λi hi j hj=>?_,h6⟩;have:=(h5 i hi).1;rwa [g i hi]at this;have:=h5 i J;unfold Mb at this;rw[gt i hi]at this;exact⟨this.2.1,this.2.2.1⟩;have:=(h5 i hi).2.2.2;rw[g i hi]at this;exact this _ (cV hj)
theorem adC{o:Of}{N:List (List Int)}{tags:List Int}(h:200<N.length):zg o N tags=2:=if_pos h
theorem adD{o:Of}{N:List (List Int)}{tags:List Int}(h:¬200<N.length)(hg:¬ra o N tags):zg o N tags=1:=by unfold zg;rw[if_neg h,if_neg hg]
theorem PA{o:Of}{N:List (List Int)}{tags:List Int}(hg:ra o N tags):zg o N tags=0:=by unfold zg;rw[if_neg (by have:=hg.le;omega),if_pos hg]
theorem AU{o:Of}{N:List (List Int)}{tags:List Int}(h:zg o N tags=0):ra o N tags:=by
 unfold zg at h;split at h
 cases h
 split at h
 assumption
 cases h
theorem By(o:Of)(vn vt:Value)(N:List (List Int))(tags:List Int)(w:World)(h:Ui w vn vt N tags)(ho:∀b (h:b<256),o[b]<256):
 Calls aC 89 #[MP o vn vt] w (cY (ret (av az (zg o N tags))) w):=by
 obtain⟨⟨an,cn,rfl,hn1,Zo,hn3⟩,at',ct,rfl,ht1,V5,JP⟩:=h;unfold maxLen at Zo V5;have hE1:=λh hg=>adD (o:=o) (N:=N) (tags:=tags) h hg;have hE2:=λh=>adC (o:=o) (N:=N) (tags:=tags) h;have hE0:=λh=>PA (o:=o) (N:=N) (tags:=tags) h;generalize zg o N tags=e at*;refine enter (args:=[MP o (ap an N.length cn) (ap at' tags.length ct)]) (n:=92) Tryz.func89 I I I ?_;refine bC (aM (b_ I I I λg1=>?_))
 by_cases c1:200<N.length
 ·rw[hE2 c1]
  repeat(first|refine GC ?_|refine gV (aB aL.ty I (aH (i:=0) I (lX _ _ _))) ?_|refine gV (bB (b:=aD) I I (decide_eq_true J)) ?_|refine GB ?_)
  exact ea I I I
 by_cases c2:N.length=0
 ·rw[hE1 c1 (λh=>by have:=h.pos;omega)]
  repeat(first|refine GC ?_|refine gV (aB aL.ty I (aH (i:=0) I (lX _ _ _))) ?_|refine gV (bB (b:=aE) I I (decide_eq_false J)) ?_|refine gV (aX (b:=aD) I I (decide_eq_true J)) ?_|refine GB ?_)
  exact ea I I I
 by_cases c3:tags.length=N.length
 case neg=>
  rw[hE1 c1 (λh=>c3 h.len)]
  repeat(first|refine GC ?_|refine gV (aB aL.ty I (aH (i:=0) I (lX _ _ _))) ?_|refine gV (aB aL.ty I (aH (i:=0) I (nM _ _ _))) ?_|refine gV (bB (b:=aE) I I (decide_eq_false J)) ?_|refine gV (aX (b:=aE) I I (decide_eq_false J)) ?_|refine gV (bm (b:=aD) I I (decide_eq_true J)) ?_|refine GB ?_)
  exact ea I I I
 obtain⟨bn,Mc,rfl,_,J0⟩:=hn3 J;obtain⟨bt,Jl,rfl,htd⟩:=JP J;clear hn3 JP;obtain⟨u0,⟨a0,c0,rfl,-⟩,hd0⟩:=AB J0 (show 0<N.length by omega);have adp:=λ(L:List cU)=>jb (L:=L) hd0 (j:=0) (v:=ap a0 (N[0]' J).length c0) I;have hw:(N.headD []).length=(N[0]' J).length:=by cases N with
  |nil=>simp at c2
  |cons x r=>rfl
 have yz:ra o N tags↔YC o N tags (N[0]' J).length:=by unfold ra;rw[hw]
 clear hd0 hw;generalize (N[0]' J).length=wide at*
 repeat(first|refine GC ?_|refine gV (aB aL.ty I (aH (i:=0) I (lX _ _ _))) ?_|refine gV (aB aL.ty I (aH (i:=0) I (nM _ _ _))) ?_|refine gV (bB (b:=aE) I I (decide_eq_false J)) ?_|refine gV (aX (b:=aE) I I (decide_eq_false J)) ?_|refine gV (bm (b:=aE) I I (decide_eq_false J)) ?_|refine gV (a_ (j:=0) bR.eq aL.ty I I J) ?_|refine gV (aB (v:=ap a0 wide c0) aL.ty I (adp _)) ?_|refine GB ?_)
 by_cases c4:wide=0
 ·rw[hE1 c1 (λh=>by have:=(yz.1 h).w0;omega)]
  repeat(first|refine GC ?_|refine gV (aX (b:=aD) I I (decide_eq_true J)) ?_|refine GB ?_)
  exact ea I I I
 by_cases c5:256<wide
 ·rw[hE1 c1 (λh=>by have:=(yz.1 h).w1;omega)]
  repeat(first|refine GC ?_|refine gV (aX (b:=aE) I I (decide_eq_false J)) ?_|refine gV (bB (b:=aD) I I (decide_eq_true J)) ?_|refine GB ?_)
  exact ea I I I
 repeat(first|refine GC ?_|refine gV (aX (b:=aE) I I (decide_eq_false J)) ?_|refine gV (bB (b:=aE) I I (decide_eq_false J)) ?_|refine GB ?_)
 refine eK (ι:=Nat) (λi=>i<=N.length/\∀j,j<i->Mb N tags wide j) (λi=>[(1,aK (aj ⟨g1,0,ak⟩)),(3,av az (N.length:Int)),(4,av az (wide:Int)),(35,av az (N.length:Int)),(36,av az (i:Int))])
  (λ_=>[aR g1 (fw o (ap (aj ⟨bn,Mc,ak⟩) N.length cn) (ap (aj ⟨bt,Jl,ak⟩) tags.length ct)).toArray 30]) (λi=>N.length-i) 0 ⟨bO _,λj h=>by omega⟩ ?_
 rintro i ⟨hi,hgi⟩
 by_cases q1:i<N.length
 ·have hit:i<tags.length:=by omega
  obtain⟨u,⟨au,cu,rfl,hcu,hmu,MO⟩,hdu⟩:=AB J0 q1;unfold maxLen at hmu;have Jm:=λ(L:List cU)=>jb (L:=L) hdu (j:=0) (v:= .slice au N[i].length cu) I;have LG:=λ(L:List cU)=>iB (L:=L) km htd hit 0 _ I;have hG:Mb N tags wide i↔(N[i].length=wide/\ -1<=tags[i]/\tags[i]<20/\∀x∈N[i],-1<=x/\x<N.length):=by
   unfold Mb;rw[cK,bQ q1,cK,bQ hit];rfl
  have nU:¬Mb N tags wide i->e=1:=λhg=>hE1 c1 λh=>hg (abb (yz.1 h) q1);clear hdu hE1 hE2;generalize tags[i]=tg at*;generalize N[i]=l at*
  by_cases r1:l.length=wide
  case neg=>
   rw[nU (λh=>r1 (hG.1 h).1)]
   repeat(first|refine GC ?_|refine gV (aB aL.ty I (aH (i:=0) I (lX _ _ _))) ?_|refine gV (aB aL.ty I (aH (i:=0) I (nM _ _ _))) ?_|refine gV (a_ (j:=i) bR.eq aL.ty I I q1) ?_|refine gV (aB (v:=ap au l.length cu) aL.ty I (Jm _)) ?_|refine gV (bm (b:=aD) I I (decide_eq_true J)) ?_|refine GB ?_)
   exact ea I I I
  by_cases r2:tg< -1
  ·rw[nU (λh=>by have:=(hG.1 h).2.1;omega)]
   repeat(first|refine GC ?_|refine gV (aB aL.ty I (aH (i:=0) I (lX _ _ _))) ?_|refine gV (aB aL.ty I (aH (i:=0) I (nM _ _ _))) ?_|refine gV (a_ (j:=i) bR.eq aL.ty I I q1) ?_|refine gV (aB (v:=ap au l.length cu) aL.ty I (Jm _)) ?_|refine gV (bm (b:=aE) I I (decide_eq_false J)) ?_|refine gV (a_ (j:=i) bR.eq aL.ty I I hit) ?_|refine gV (aB (v:=av az tg) aL.ty I (LG _)) ?_|refine gV (aW (b:=aD) I I (decide_eq_true r2)) ?_|refine GB ?_)
   exact ea I I I
  by_cases r3:20<=tg
  ·rw[nU (λh=>by have:=(hG.1 h).2.2.1;omega)]
   repeat(first|refine GC ?_|refine gV (aB aL.ty I (aH (i:=0) I (lX _ _ _))) ?_|refine gV (aB aL.ty I (aH (i:=0) I (nM _ _ _))) ?_|refine gV (a_ (j:=i) bR.eq aL.ty I I q1) ?_|refine gV (aB (v:=ap au l.length cu) aL.ty I (Jm _)) ?_|refine gV (bm (b:=aE) I I (decide_eq_false J)) ?_|refine gV (a_ (j:=i) bR.eq aL.ty I I hit) ?_|refine gV (aB (v:=av az tg) aL.ty I (LG _)) ?_|refine gV (aW (b:=aE) I I (decide_eq_false r2)) ?_|refine gV (dQ (b:=aD) I I (decide_eq_true r3)) ?_|refine GB ?_)
   exact ea I I I
  repeat(first|refine GC ?_|refine gV (aB aL.ty I (aH (i:=0) I (lX _ _ _))) ?_|refine gV (aB aL.ty I (aH (i:=0) I (nM _ _ _))) ?_|refine gV (a_ (j:=i) bR.eq aL.ty I I q1) ?_|refine gV (aB (v:=ap au l.length cu) aL.ty I (Jm _)) ?_|refine gV (bm (b:=aE) I I (decide_eq_false J)) ?_|refine gV (a_ (j:=i) bR.eq aL.ty I I hit) ?_|refine gV (aB (v:=av az tg) aL.ty I (LG _)) ?_|refine gV (aW (b:=aE) I I (decide_eq_false r2)) ?_|refine gV (dQ (b:=aE) I I (decide_eq_false r3)) ?_|refine GB ?_)
  refine eK (ι:=Nat) (λj=>j<=l.length/\∀x∈l.take j,-1<=x/\x<N.length) (λj=>[(1,aK (aj ⟨g1,0,ak⟩)),(3,av az (N.length:Int)),(4,av az (wide:Int)),(35,av az (N.length:Int)),(36,av az (i:Int)),(67,ap au l.length cu),(68,av az (l.length:Int)),(69,av az (j:Int))])
   (λ_=>[aR g1 (fw o (ap (aj ⟨bn,Mc,ak⟩) N.length cn) (ap (aj ⟨bt,Jl,ak⟩) tags.length ct)).toArray 30]) (λj=>l.length-j) 0 ⟨bO _,λx h=>by simp at h⟩ ?_
  rintro j ⟨hj,hgj⟩
  by_cases s1:j<l.length
  ·obtain⟨bu,abd,rfl,fl⟩:=MO J
   have FC:=λ(L:List cU)=>iB (L:=L) km fl s1 0 _ I;have hxm:=cV s1;have rl:=ia s1;clear fl;generalize l[j]=x at*
   by_cases t1:x< -1
   ·rw[nU (λh=>by have:=((hG.1 h).2.2.2 x hxm).1;omega)]
    repeat(first|refine GC ?_|refine gV (a_ (j:=j) bR.eq aL.ty I I s1) ?_|refine gV (aB (v:=av az x) aL.ty I (FC _)) ?_|refine gV (aW (b:=aD) I I (decide_eq_true t1)) ?_|refine GB ?_)
    exact ea I I I
   by_cases t2:(N.length:Int)<=x
   ·rw[nU (λh=>by have:=((hG.1 h).2.2.2 x hxm).2;omega)]
    repeat(first|refine GC ?_|refine gV (a_ (j:=j) bR.eq aL.ty I I s1) ?_|refine gV (aB (v:=av az x) aL.ty I (FC _)) ?_|refine gV (aW (b:=aE) I I (decide_eq_false t1)) ?_|refine gV (dQ (b:=aD) I I (decide_eq_true t2)) ?_|refine GB ?_)
    exact ea I I I
   repeat(first|refine GC ?_|refine gV (a_ (j:=j) bR.eq aL.ty I I s1) ?_|refine gV (aB (v:=av az x) aL.ty I (FC _)) ?_|refine gV (aW (b:=aE) I I (decide_eq_false t1)) ?_|refine gV (dQ (b:=aE) I I (decide_eq_false t2)) ?_|refine GB ?_)
   exact jS (j+1) ⟨by omega,λy hy=>by
    rw[rl,fC,ep]at hy;rcases hy with hy|rfl
    exact hgj y hy;omega⟩ (by show l.length-(j+1)<l.length-j;omega) (by repeat' (first|exact dl|refine dh I ?_)) I
  rw[gj J]at hgj
  try refine GA ?_
  exact jS (i+1) ⟨by omega,λj hj2=>by
   by_cases e:j=i
   subst e;exact hG.2 ⟨r1,by omega,by omega,hgj⟩;exact hgi j J⟩ (by show N.length-(i+1)<N.length-i;omega) (by repeat' (first|exact dl|refine dh I ?_)) I
 ·repeat(first|refine GA ?_|refine gV (bH (cs:=ofC o) aL.ty I (aa' o) (λj v hj=>aH (i:=0) I (adB _ _ _ hj))) ?_)
  refine eK (ι:=Nat) (λj=>j<=256/\∀b (h:b<256),b<j->o[b]<wide) (λj=>[(4,av az (wide:Int)),(83,aU (ofC o).toArray),(84,av az (j:Int))]) (λ_=>[aR g1 (fw o (ap (aj ⟨bn,Mc,ak⟩) N.length cn) (ap (aj ⟨bt,Jl,ak⟩) tags.length ct)).toArray 30]) (λj=>256-j) 0 ⟨bO _,λb _ h=>by omega⟩ ?_;rintro j ⟨hj,Y_⟩
  by_cases s1:j<256
  ·have hcell:=aba o s1
   have hz:=ho j s1;have nU:¬o[j]<wide->e=1:=λhg=>hE1 c1 λh=>hg ((yz.1 h).of j s1);have uV:o[j]<wide->∀b (h:b<256),b<j+1->o[b]<wide:=λhw b h hb=>by
    by_cases e:b=j
    subst e;exact hw;exact Y_ b h J
   clear hE1 hE2;generalize o[j]=z at*
   by_cases t1:z<wide
   ·repeat(first|refine GC ?_|refine gV (jG bR.eq aL.ty I I s1 hcell) ?_|refine gV (jl bR.eq bR.eq I (nI J J)) ?_|refine gV (dQ (b:=aE) I I (decide_eq_false J)) ?_|refine GB ?_)
    exact cJ (j+1) ⟨by omega,uV t1⟩ (by show 256-(j+1)<256-j;omega)
   rw[nU t1]
   repeat(first|refine GC ?_|refine gV (jG bR.eq aL.ty I I s1 hcell) ?_|refine gV (jl bR.eq bR.eq I (nI J J)) ?_|refine gV (dQ (b:=aD) I I (decide_eq_true J)) ?_|refine GB ?_)
   exact ea I I I
  rw[hE0 (yz.2 (abc J J c3 J J (λi h=>hgi i J) λb h=>Y_ b h J))]
  try refine GA ?_
  exact ea I I I
end cZ
namespace cZ
open Go.RowKit dr eH dT iA iT aV dq
structure Md where
 of:List Int
 o:Of
 N:List (List Int)
 tags:List Int
 g:eL
 mode:Int
 rows:List (List Int)
 A:List (List bV.Act)
 G:List (List Int)
structure Cu(w:World)(v:Value)(m:Md)(vo vn vt vp vr va vg:Value):Prop where
 val:v=aU (jx vo (fw m.o vn vt) (gU m.g.aT m.g.bM vp m.mode vr va vg)).toArray
 of:Sl w vo m.of.length (m.of.flatMap dr.eV)
 pk:Ui w vn vt m.N m.tags
 AV:kz (λk=>k<w.heap.size) w (ee m.g.aT m.g.bM vp) m.g
 rows:za w vr m.rows
 py:AN w (aU #[va,vg]) m.A m.G
structure MdGood(m:Md):Prop where
 byte:∀b (h:b<256),m.o[b]<256
 my:zg m.o m.N m.tags=0
 AV:cL m.g=0
 some:0<m.of.length
 qY:m.of.length<=20
 ofs:∀t∈m.of,-1<=t/\t<m.g.aT
 tag:∀t∈m.tags,t<(m.of.length:Int)
 mode:(m.mode=1/\Es m.g m.rows=0)\/(m.mode=2/\∃T N,rW m.g T N m.A m.G)
theorem Hk{vo:Value}{pk tl:List Value}(hp:pk.length=258){j:Nat}{v:Value}(h:pk[j]?=aj v):(jx vo pk tl).toArray[0+1+j]?=aj v:=by
 rw[kt,jx,show 0+1+j=j+1 by omega,CH,fH (dv.1 h).1];exact h
theorem adE{vo:Value}{pk:List Value}(hp:pk.length=258){a b c d e f f' v:Value}{j:Nat}(h:[f,f'][j]?=aj v):(jx vo pk [a,b,c,d,e,f,f']).toArray[0+264+j]?=aj v:=by
 match j,h with
 |0,h=>exact jA 5 hp h I
 |1,h=>exact jA 6 hp h I
 |n+2,h=>cases h
theorem PB(x:Int):(dr.eV x).length=1:=rfl
set_option maxRecDepth 100000 in
theorem Jn(v:Value)(m:Md)(w:World){vo vn vt vp vr va vg:Value}(h:Cu w v m vo vn vt vp vr va vg)(hg:MdGood m):
 Calls aC 47 #[v] w (cY (ret (av az 0)) w):=by
 have jr:=λw' (hw:Gr w w')=>By m.o vn vt m.N m.tags w' (h.pk.gr hw) hg.byte;rw[hg.my]at jr;have hcg:=λw' (hw:Gr w w')=>jY (ee m.g.aT m.g.bM vp) m.g w' (h.AV.gr hw);rw[hg.AV]at hcg;have R5:=λw' (hw:Gr w w')=>w4 (ee m.g.aT m.g.bM vp) vr m.g m.rows w' (h.AV.gr hw) (sP h.rows hw);have MI:=λT N hT w' (hw:Gr w w')=>w5 (ee m.g.aT m.g.bM vp) (aU #[va,vg]) m.g T N m.A m.G hT w' (h.AV.gr hw) (h.py.gr hw);have SA:=h.of;have htg:=h.pk.hT;have hv:=h.val;obtain⟨b1,b2,b3,b4,b5,b6,b7,b8⟩:=hg;clear h b1 b2 b3;have eA:(fw m.o vn vt).length=258:=gT _ _ _;have hpt:(fw m.o vn vt)[257]?=aj vt:=by have:=nM m.o vn vt;simpa using this
 obtain⟨of,o,N,tags,g,mode,rows,A,G⟩:=m;dsimp only at*;rw[show MP o vn vt=aU (fw o vn vt).toArray from I]at jr;generalize fw o vn vt=PK at*;obtain⟨a1,c1,rfl,E7,ZK,Za⟩:=SA;obtain⟨a2,c2,rfl,Qr,U7,we⟩:=htg;unfold maxLen at ZK U7;subst hv;refine enter (args:=[aU (jx (ap a1 of.length c1) PK (gU g.aT g.bM vp mode vr va vg)).toArray]) (n:=77) Tryz.func47 I I I ?_;refine bC (aM (b_ I I I λg1=>?_));refine zL ?_
 repeat(first|refine GA ?_|refine gV (bH (cs:=PK) aL.ty I eA (λj v h=>aH (i:=0) I (Hk eA h))) ?_)
 refine a8 (ju aJ.en I I) (λw hm=>jr _ hm.below) I I I ?_;intro _ _;refine zL ?_
 repeat(first|refine GC ?_|refine gV (bm (b:=aE) I I (decide_eq_false (by simp))) ?_|refine gV (bH (cs:=[av az g.aT,av az g.bM,vp]) aL.ty I I (λj v h=>aH (i:=0) I (s9 eA h))) ?_|refine GB ?_)
 refine a8 (ju aJ.en I I) (λw hm=>hcg _ hm.below) I I I ?_;intro _ _;refine zL ?_
 repeat(first|refine GC ?_|refine gV (bm (b:=aE) I I (decide_eq_false (by simp))) ?_|refine gV (aB (v:=ap a1 of.length c1) aL.ty I (aH (i:=0) I I)) ?_|refine GB ?_)
 have hz:(1:Nat)<=of.length:=b4;refine eK (ι:=Nat) (λk=>k<=of.length) (λk=>[(1,aK (aj ⟨g1,0,ak⟩)),(31,ap a1 of.length c1),(32,av az of.length),(33,av az (k:Int))])
  (λ_=>[aR g1 (jx (ap a1 of.length c1) PK (gU g.aT g.bM vp mode vr va vg)).toArray 38]) (λk=>of.length-k) 0 (bO _) ?_
 intro k k1
 by_cases d1:k<of.length
 ·obtain⟨b,off,rfl,hr⟩:=Za J
  have d_:=λ(L:List cU)=>iB (L:=L) PB hr d1 0 _ I;obtain⟨y1,y2⟩:=b6 of[k] (cV d1);generalize of[k]=x at*
  repeat(first|refine GA ?_|refine gV (a_ bR.eq aL.ty I I d1) ?_|refine gV (aB (v:=av az x) aL.ty I (d_ _)) ?_|refine gV (aB (v:=av az g.aT) aL.ty I (aH (i:=0) I (jA 0 eA I I))) ?_)
  exact cJ (k+1) J (by show of.length-(k+1)<of.length-k;omega)
 obtain rfl:k=of.length:=by omega
 repeat(first|refine GA ?_|refine gV (aB (v:=ap a2 tags.length c2) aL.ty I (aH (i:=0) I (Hk eA hpt))) ?_)
 refine eK (ι:=Nat) (λk=>k<=tags.length) (λk=>[(1,aK (aj ⟨g1,0,ak⟩)),(49,ap a2 tags.length c2),(50,av az tags.length),(51,av az (k:Int))])
  (λ_=>[aR g1 (jx (ap a1 of.length c1) PK (gU g.aT g.bM vp mode vr va vg)).toArray 38]) (λk=>tags.length-k) 0 (bO _) ?_
 intro k k2
 by_cases d2:k<tags.length
 ·obtain⟨b,off,rfl,hr⟩:=we J
  have d_:=λ(L:List cU)=>iB (L:=L) PB hr d2 0 _ I;have y1:=b7 tags[k] (cV d2);generalize tags[k]=x at*
  repeat(first|refine GA ?_|refine gV (a_ bR.eq aL.ty I I d2) ?_|refine gV (aB (v:=av az x) aL.ty I (d_ _)) ?_|refine gV (aB (v:=ap a1 of.length c1) aL.ty I (aH (i:=0) I I)) ?_)
  exact cJ (k+1) J (by show tags.length-(k+1)<tags.length-k;omega)
 obtain rfl:k=tags.length:=by omega
 rcases b8 with⟨rfl,hc⟩|⟨rfl,T,N',hc⟩
 ·rw[hc]at R5
  repeat(first|refine GA ?_|refine gV (aB (v:=av az 1) aL.ty I (aH (i:=0) I (jA 3 eA I I))) ?_|refine gV (bH (cs:=[av az g.aT,av az g.bM,vp]) aL.ty I I (λj v h=>aH (i:=0) I (s9 eA h))) ?_|refine gV (aB (v:=vr) aL.ty I (aH (i:=0) I (jA 4 eA I I))) ?_)
  refine a8 (gK aJ.en I I I) (λw hm=>R5 _ hm.below) I I I ?_;intro _ _;refine zL ?_
  try refine GA ?_
  exact fa
 ·have MI:=λw' hw=>MI T N' hc w' hw
  repeat(first|refine GA ?_|refine gV (aB (v:=av az 2) aL.ty I (aH (i:=0) I (jA 3 eA I I))) ?_|refine gV (bH (cs:=[av az g.aT,av az g.bM,vp]) aL.ty I I (λj v h=>aH (i:=0) I (s9 eA h))) ?_|refine gV (bH (cs:=[va,vg]) aL.ty I I (λj v h=>aH (i:=0) I (adE eA h))) ?_)
  refine a8 (gK aJ.en I I I) (λw hm=>MI _ hm.below) I I I ?_;intro _ _;refine zL ?_
  try refine GA ?_
  exact fa
end cZ
namespace mW
open Go.RowKit dr eH cZ dq
def AW(o:Of)(N:List (List Int))(now:Int)(b:UInt8):Int:=(N.getD now.toNat []).getD (o.toList.getD b.toNat 0) 0
def qH(o:Of)(N:List (List Int))(tags:List Int):List UInt8->Nat->Int->Int->Nat->Int×Nat
 |[],_,_,r,t=>(r,t)
 | b::s,i,now,r,t=>
  if AW o N now b<0 then(r,t)
  else if 0<=tags.getD (AW o N now b).toNat 0 then qH o N tags s (i+1) (AW o N now b) (tags.getD (AW o N now b).toNat 0) (i+1)
  else qH o N tags s (i+1) (AW o N now b) r t
theorem yg(o:Of)(N:List (List Int))(tags:List Int)(b:UInt8)(s:List UInt8)(i:Nat)(now r:Int)(t:Nat):qH o N tags (b::s) i now r t=
 if AW o N now b<0 then(r,t)
 else if 0<=tags.getD (AW o N now b).toNat 0 then qH o N tags s (i+1) (AW o N now b) (tags.getD (AW o N now b).toNat 0) (i+1)
 else qH o N tags s (i+1) (AW o N now b) r t:=rfl
abbrev Tok:=Int×Nat×Nat
theorem EM(o:Of)(N:List (List Int))(tags:List Int):∀(s:List UInt8) (i:Nat) (now r:Int) (t:Nat),(qH o N tags s i now r t).2=t\/(i<(qH o N tags s i now r t).2/\(qH o N tags s i now r t).2<=i+s.length)
 |[],_,_,_,_=> .inl I
 | b ::s,i,now,r,t=>by
  rw[yg];split;exact .inl I;split
  ·rcases EM o N tags s (i+1) (AW o N now b) (tags.getD (AW o N now b).toNat 0) (i+1)with h|h
   rw[h];exact .inr ⟨by omega,by rw[dE];omega⟩;exact .inr ⟨by omega,by rw[dE];omega⟩
  rcases EM o N tags s (i+1) (AW o N now b) r t with h|h
  exact .inl h;exact .inr ⟨by omega,by rw[dE];omega⟩
theorem adF{o:Of}{N:List (List Int)}{tags:List Int}(h:ra o N tags){q:Nat}(hq:q<N.length)(b:UInt8):
 ∃(h1:q<N.length) (h2:o[b.toNat]'b.toNat_lt<N[q].length),AW o N (q:Int) b=N[q][o[b.toNat]'b.toNat_lt]/\ -1<=AW o N (q:Int) b/\AW o N (q:Int) b<N.length:=by
 have hw:o[b.toNat]'b.toNat_lt<N[q].length:=by rw[h.row q hq];exact h.of _ _
 have e:AW o N (q:Int) b=N[q][o[b.toNat]'b.toNat_lt]:=by
  unfold AW;rw[dP,cK (l:=N),bQ hq,lf,cK (l:=o.toList),bQ (by rw[Vector.length_toList];exact b.toNat_lt),lf,oy,cK,bQ hw];rfl
 have hr:=h.rng q hq _ hw;exact⟨hq,hw,e,by rw[e];exact hr.1,by rw[e];exact hr.2⟩
end mW
namespace cZ
open Go.RowKit dr eH dq mW
theorem adG{vn vt:Value}(o:Of)(b:UInt8):(fw o vn vt).toArray[0+b.toNat]?=aj (.int .u8 ((o[b.toNat]'b.toNat_lt:Nat):Int)):=by
 rw[du];exact afz o vn vt b.toNat_lt
def s_(t:Tok):List Value:=[av az t.1,av az (t.2.1:Int),av az (t.2.2:Int)]
end cZ
namespace cZ
open Go.RowKit dr eH dq mW
abbrev EN(v:Value)(l:List Tok):cU:=bD 53 3 v l.length (l.flatMap s_)
theorem Hl(v:Value)(l:List Tok)(x:Tok):EN v (l++[x])=bD 53 3 v (l.length+1) (l.flatMap s_++s_ x):=by
 unfold EN;rw[bT,fV];simp
end cZ
namespace cZ
open Go.RowKit dr eH yy dq
theorem ly(R:List Row):(TJ R).length=R.length:=by unfold TJ;simp
theorem Jo(R:List Row){i:Nat}(h:i<R.length):(TJ R)[i]'(by rw[ly];exact h)=Ct (nL R 256) i:=by unfold TJ;simp
theorem abe{R:List Row}{c:Ej}(h:c∈nL R 256):∃b,b<256/\c=q_ R b:=by
 unfold nL at h;rcases kZ.1 h with h|h
 cases h
 obtain⟨b,hb,rfl⟩:=e7.1 h;exact⟨b,by simpa using hb,rfl⟩
theorem adH{R:List Row}{tags:List Int}(h:my R tags=0){i:Nat}(hi:i<R.length){x:Int}(hx:x∈Ct (nL R 256) i): -1<=x/\x<R.length:=by
 obtain⟨hA,_⟩:=vC h;unfold Ct at hx;obtain⟨c,hc,rfl⟩:=e7.1 hx;obtain⟨b,hb,rfl⟩:=abe hc;rw[L8 R b i hi hA.le,vY hi hb];have:=hA.step i hi b hb;rw[LA hi hb]at this;exact this
theorem ab5{R:List Row}{tags:List Int}(h:my R tags=0):YC (yc R 256) (TJ R) tags (nL R 256).length:=by
 obtain⟨hA,hl⟩:=vC h;have hle:R.length<=200:=hA.le;refine⟨by rw[ly];exact hA.pos,by rw[ly];exact hle,by rw[ly];exact hl,List.length_pos_of_mem (Ji R (show 0<256 by decide)),Cs R 256,λi hi=>?_,λi hi=>?_,λi hi j hj=>?_,λb hb=>?_⟩
 ·rw[ly]at hi
  rw[Jo R hi];unfold Ct;rw[dX]
 ·have:=hA.tags i (show i<R.length by omega)
  rw[y8 hi]at this;exact this
 ·have qN:i<R.length:=by rw[ly]at hi;exact hi
  have e:=Jo R qN;have hx:(TJ R)[i][j]∈Ct (nL R 256) i:=e▸cV hj;rw[ly];exact adH h qN hx
 have e:(yc R 256)[b]'hb=pkN R b:=by
  unfold yc;rw[lK];simp[hb]
 rw[e];exact Yt R hb
end cZ
namespace mW
open Go.RowKit dr eH cZ dq
end mW
namespace cZ
open Go.RowKit dr eH dq
theorem Mem.pkI{B:b9}{w:World}{L:List cU}{i j k g:Nat}{R:List Row}{tags:List Int}{vs:Nat->Value}{vt:Value}(hm:Mem B L w)(hi:L[i]?=aj (fO 26 yf g R.length vs))(hj:L[j]?=aj (TQ R.length (nL R 256) vs))(hk:L[k]?=aj (bD 3 1 vt tags.length (tags.flatMap dr.eV)))(hc:my R tags=0):
 Ui w (ap (aj ⟨g,0,ak⟩) R.length R.length) vt (TJ R) tags:=by
 have h1:(fO 26 yf g R.length vs).holds w:=hm.get hi;have h2:(TQ R.length (nL R 256) vs).holds w:=hm.get hj;have ok:=ab5 hc;refine⟨⟨aj ⟨g,0,ak⟩,R.length,by rw[ly],by rw[ly];exact bJ _,by have:=ok.le;rw[ly]at this;unfold maxLen;omega,λh0=>⟨g,0,rfl,?_,λi hi=>⟨[vs i],⟨vs i,rfl,?_⟩,λj u hj=>?_⟩⟩⟩,l8 hk _ hm⟩
 ·rw[ly]at h0
  exact np w _ (An h1 h0)
 ·have R6:i<R.length:=by rw[ly]at hi;exact hi
  have h3:(bD 3 1 (vs i) (nL R 256).length ((Ct (nL R 256) i).flatMap dr.eV)).holds w:=h2.1 i R6;have h4:Sl w (vs i) (nL R 256).length ((Ct (nL R 256) i).flatMap dr.eV):=Sl.dY h3;have e:(TJ R)[i]=Ct (nL R 256) i:=Jo R R6;have hl:(Ct (nL R 256) i).length=(nL R 256).length:=dX ..;refine kH.of_flat (by rw[e,hl];exact h4) (λx hx=>?_) (λb hb=>?_) λa n cp hv=>?_
  ·obtain⟨q,hq,rfl⟩:=jt.1 hx
   have:=ok.rng i hi q hq;have:=ok.le;exact⟨by omega,by omega⟩
  exact cU.lt _ w h3 b (.inl hb);exact cU.lt _ w h3 a.block (.inl (by rw[hv];rfl))
 ·have R6:i<R.length:=by rw[ly]at hi;exact hi
  have hj0:j=0:=by have:=(dv.1 hj).1;simp at this;exact this
  subst hj0;simp only[List.getElem?_cons_zero,dB]at hj;subst hj;have:=An h1 R6;show w.cell? ⟨g,0+i*1+0,ak⟩=aj (vs i)
  rw[Nat.mul_one,iO];exact this
theorem Rv(R:List Row):∀b (h:b<256),(yc R 256)[b]<256:=λb hb=>by
 have e:(yc R 256)[b]'hb=pkN R b:=by
  unfold yc;rw[lK];simp[hb]
 rw[e];exact Rs R hb
theorem Rw{R:List Row}{tags:List Int}(h:my R tags=0):ra (yc R 256) (TJ R) tags:=by
 have ok:=ab5 h;have:((TJ R).headD []).length=(nL R 256).length:=by
  have h0:=ok.pos;have:=ok.row 0 h0
  cases hR:TJ R with
  |nil=>rw[hR]at h0;simp at h0
  |cons x r=>simp only[hR]at this;exact this
 unfold ra;rw[this];exact ok
end cZ
namespace kF
open aV ey fJ mW bV dq cZ
abbrev PS:=List TD×List Nat
def ps0:PS:=([.sym (2,0)],[0])
def kO(m:Md)(b:Bool)(p:PS)(a:Nat)(t:Int):Int×PS×List dV:=
 if b then((ko m.g.aF (ja m.rows t.toNat) p.1 a t).1,((ko m.g.aF (ja m.rows t.toNat) p.1 a t).2.1,p.2),(ko m.g.aF (ja m.rows t.toNat) p.1 a t).2.2)
 else((hJ m.g.aF (ji m.A) (fB m.G) t.toNat a 2001 p.2 []).1,(p.1,(hJ m.g.aF (ji m.A) (fB m.G) t.toNat a 2001 p.2 []).2.1),(hJ m.g.aF (ji m.A) (fB m.G) t.toNat a 2001 p.2 []).2.2)
def v7(m:Md)(b:Bool)(p:PS)(a:Nat):Int×List dV:=
 if b then jK m.g.aF (ja m.rows m.g.aT.toNat) p.1
 else((hJ m.g.aF (ji m.A) (fB m.G) m.g.aT.toNat a 2001 p.2 []).1,(hJ m.g.aF (ji m.A) (fB m.G) m.g.aT.toNat a 2001 p.2 []).2.2)
def Ry(m:Md)(b:Bool)(p:PS):Prop:=if b then(∀d∈p.1,qZ m.g d)/\p.1.length<=60 else p.2≠[]/\(∀q∈p.2,q<m.A.length)/\p.2.length<=60
structure jN(m:Md)(b:Bool)(T N:Nat):Prop extends MdGood m where
 md:m.mode=if b then 1 else 2
 tT:m.g.aT=T
 nN:m.g.bM=N
 ll:b=aD->Es m.g m.rows=0/\Ez m.g m.rows T N
 lr:b=aE->rW m.g T N m.A m.G
def tF(m:Md)(t:Tok):Int:=m.of.getD t.1.toNat 0
theorem yh{o:Of}{N:List (List Int)}{tags:List Int}{n:Int}(hn:0<n)(ht:∀t∈tags,t<n):∀(s:List UInt8) (i:Nat) (now r:Int) (t:Nat),0<=r->r<n->0<=(qH o N tags s i now r t).1/\(qH o N tags s i now r t).1<n
 |[],_,_,_,_,h0,h1=>⟨h0,h1⟩
 | b ::s,i,now,r,t,h0,h1=>by
  rw[yg]
  by_cases c:AW o N now b<0
  rw[if_pos c];exact⟨h0,h1⟩;rw[if_neg c]
  by_cases c2:0<=tags.getD (AW o N now b).toNat 0
  ·rw[if_pos c2]
   refine yh hn ht s _ _ _ _ c2 ?_;rw[cK]
   cases e:tags[(AW o N now b).toNat]? with
   |none=>exact hn
   |some z=>exact ht z (List.mem_of_getElem? e)
  rw[if_neg c2];exact yh hn ht s _ _ _ _ h0 h1
theorem afB{m:Md}{b:Bool}{T N:Nat}(h:jN m b T N):Ry m b ps0:=by
 have hg:=de h.AV
 cases b with
 |true=>
  refine⟨λd hd=>?_,by decide⟩;simp only[ps0,ep]at hd;subst hd;unfold qZ right;simp;omega
 |false=>
  refine⟨by decide,λq hq=>?_,by decide⟩;simp only[ps0,ep]at hq;subst hq;exact(h.lr I).pos
theorem wz{m:Md}{b:Bool}{T N:Nat}(h:jN m b T N){p:PS}(hp:Ry m b p){a:Nat}{t:Int}(ht:t<T)(h0:(kO m b p a t).1=0):Ry m b (kO m b p a t).2.1/\(kO m b p a t).2.2.length<=2001:=by
 cases b with
 |true=>
  obtain⟨h1,h2⟩:=hp;obtain⟨h3,h4,h5⟩:=aat h.AV ((h.ll rfl).2.nx t.toNat) rfl h0 h1 h2;exact⟨⟨h3,h4⟩,by show _<=2001;exact Nat.le_succ_of_le h5⟩
 |false=>
  obtain⟨h1,h2,h3⟩:=hp;obtain⟨h4,h5,h6,h7⟩:=Cq (h.lr rfl) (col:=t.toNat) (a:=a) J 2001 h1 h2 h3 h0;simp only[gJ,du]at h7;exact⟨⟨h4,h5,h6⟩,h7⟩
theorem EO{l:List aV.Prod}{act:Nat->Nat->bV.Act}{gt:Nat->Int->Int}{col a:Nat}:∀(f:Nat) (σ:List Nat) (o:List dV),(hJ l act gt col a f σ o).1≠0->(hJ l act gt col a f σ o).2.2=[]
 |0,σ,o,_=>by unfold hJ;rfl
 | f + 1,σ,o,h=>by
  unfold hJ at h⊢;split at h
  ·rename_i c;rw[if_pos c]
  rename_i c;rw[if_neg c]
  split at h;exact absurd I h
  rename_i c2;rw[if_neg c2]
  split at h
  ·rename_i c3;rw[if_pos c3]
   split at h
   ·rename_i c4;rw[if_pos c4]
   exact absurd I h
  rename_i c3;rw[if_neg c3]
  split at h
  ·rename_i c4;rw[if_pos c4]
   cases hr:BW l gt σ (act (σ.headD 0) col).2 with
   |none=>rfl
   | some σ'=>
    rw[hr]at h;dsimp only at h⊢;split at h
    ·rename_i c5;rw[if_pos c5]
    rename_i c5;rw[if_neg c5];exact EO f _ _ h
  rename_i c4;rw[if_neg c4]
theorem EP{m:Md}{b:Bool}{T N:Nat}(h:jN m b T N){p:PS}(hp:Ry m b p){a:Nat}:((v7 m b p a).1=0->(v7 m b p a).2.length<=2001)/\((v7 m b p a).1≠0->(v7 m b p a).2=[]):=by
 cases b with
 |true=>
  rcases GU (l:=m.g.aF) (nx:=ja m.rows m.g.aT.toNat) (st:=p.1) rfl with⟨h1,h2⟩|⟨a1,h1,h2⟩
  exact⟨λh0=>by have:(v7 m aD p a).1=_:=rfl;rcases h1 with h1|h1<;>exact absurd (h1.symm.trans h0) ahk,λ_=>h2⟩;obtain⟨_,h3,h4,_⟩:=yY h1 rfl hp.2 (bO _);refine⟨λ_=>?_,λh0=>absurd h2 h0⟩;show(jK m.g.aF (ja m.rows m.g.aT.toNat) p.1).2.length<=2001
  dsimp only at h3 h4;simp only[gJ]at h4;omega
 |false=>
  obtain⟨h1,h2,h3⟩:=hp;refine⟨λh0=>?_,λh0=>EO _ _ _ h0⟩;obtain⟨h4,h5,h6,h7⟩:=Cq (h.lr rfl) (col:=m.g.aT.toNat) (a:=a) (by have:=h.tT;omega) 2001 h1 h2 h3 h0;simp only[gJ,du]at h7;exact h7
end kF
namespace mW
open Go.RowKit dr eH cZ dq
def Hm(o:Of)(N:List (List Int)):Int->List UInt8->Bool
 |now,[]=>!((N.getD now.toNat []).any λx=>decide (0<=x))
 |now,b::s=>if AW o N now b<0 then aD else Hm o N (AW o N now b) s
theorem PC(o:Of)(N:List (List Int))(now:Int)(b:UInt8)(s:List UInt8):Hm o N now (b::s)=if AW o N now b<0 then aD else Hm o N (AW o N now b) s:=rfl
def eY(o:Of)(N:List (List Int))(tags:List Int)(s:List UInt8):(Int×Nat)×Bool:=(qH o N tags s 0 0 0 0,decide (s≠[])&&Hm o N 0 s)
theorem zh(o:Of)(N:List (List Int))(tags:List Int)(s:List UInt8):(eY o N tags s).1.2=0\/(0<(eY o N tags s).1.2/\(eY o N tags s).1.2<=s.length):=by
 rcases EM o N tags s 0 0 0 0 with h|h
 exact .inl h
 right
 exact⟨h.1,by have:=h.2;show(qH _ _ _ _ _ _ _ _).2<=_;omega⟩
def eC(o:Of)(N:List (List Int))(tags:List Int):Nat->Nat->List UInt8->List Tok×Nat×List UInt8×Int
 |0,a,u=>([],a,u,0)
 |f+1,a,u=>if(eY o N tags u).2=aD then(if(eY o N tags u).1.2=0 then([],a,u,9)else(((eY o N tags u).1.1,a,a+(eY o N tags u).1.2)::(eC o N tags f (a+(eY o N tags u).1.2) (u.drop (eY o N tags u).1.2)).1,(eC o N tags f (a+(eY o N tags u).1.2) (u.drop (eY o N tags u).1.2)).2))else([],a,u,0)
theorem ta(o:Of)(N:List (List Int))(tags:List Int)(f a:Nat)(u:List UInt8):eC o N tags (f+1) a u=if(eY o N tags u).2=aD then(if(eY o N tags u).1.2=0 then([],a,u,9)else(((eY o N tags u).1.1,a,a+(eY o N tags u).1.2)::(eC o N tags f (a+(eY o N tags u).1.2) (u.drop (eY o N tags u).1.2)).1,(eC o N tags f (a+(eY o N tags u).1.2) (u.drop (eY o N tags u).1.2)).2))else([],a,u,0):=rfl
def iI(o:Of)(N:List (List Int))(tags:List Int):List UInt8->Nat->List UInt8->List Tok×Nat×List UInt8×Int
 |[],a,u=>([],a,u,0)
 | b::s,a,u=>
  if(eC o N tags (u.length+2) a (u++[b])).2.2.2≠0 then((eC o N tags (u.length+2) a (u++[b])).1,(eC o N tags (u.length+2) a (u++[b])).2.1,[],9)
  else if 64<(eC o N tags (u.length+2) a (u++[b])).2.2.1.length then((eC o N tags (u.length+2) a (u++[b])).1,(eC o N tags (u.length+2) a (u++[b])).2.1,[],10)
  else((eC o N tags (u.length+2) a (u++[b])).1++(iI o N tags s (eC o N tags (u.length+2) a (u++[b])).2.1 (eC o N tags (u.length+2) a (u++[b])).2.2.1).1,(iI o N tags s (eC o N tags (u.length+2) a (u++[b])).2.1 (eC o N tags (u.length+2) a (u++[b])).2.2.1).2)
theorem qI(o:Of)(N:List (List Int))(tags:List Int)(b:UInt8)(s:List UInt8)(a:Nat)(u:List UInt8):iI o N tags (b::s) a u=
 if(eC o N tags (u.length+2) a (u++[b])).2.2.2≠0 then((eC o N tags (u.length+2) a (u++[b])).1,(eC o N tags (u.length+2) a (u++[b])).2.1,[],9)
 else if 64<(eC o N tags (u.length+2) a (u++[b])).2.2.1.length then((eC o N tags (u.length+2) a (u++[b])).1,(eC o N tags (u.length+2) a (u++[b])).2.1,[],10)
 else((eC o N tags (u.length+2) a (u++[b])).1++(iI o N tags s (eC o N tags (u.length+2) a (u++[b])).2.1 (eC o N tags (u.length+2) a (u++[b])).2.2.1).1,(iI o N tags s (eC o N tags (u.length+2) a (u++[b])).2.1 (eC o N tags (u.length+2) a (u++[b])).2.2.1).2):=rfl
theorem TR{o:Of}{N:List (List Int)}{tags:List Int}{b:UInt8}{s:List UInt8}{a0:Nat}{u0:List UInt8}{vm:List Tok}{fin:List Tok×Nat×List UInt8×Int}(h:(vm++(iI o N tags (b::s) a0 u0).1,(iI o N tags (b::s) a0 u0).2)=fin)(out:List Tok)(a:Nat)(u:List UInt8)(e:Int)
 (hD:(out,a,u,e)=(vm++(eC o N tags (u0.length+2) a0 (u0++[b])).1,(eC o N tags (u0.length+2) a0 (u0++[b])).2)):
 (e≠0->fin=(out,a,[],9))/\(e=0->64<u.length->fin=(out,a,[],10))/\(e=0->¬64<u.length->(out++(iI o N tags s a u).1,(iI o N tags s a u).2)=fin):=by
 subst h;rw[qI];generalize eC o N tags (u0.length+2) a0 (u0++[b])=D at*;obtain⟨d1,d2,d3,d4⟩:=D;simp only[gH]at hD;obtain⟨rfl,rfl,rfl,rfl⟩:=hD;dsimp only;refine⟨λh=>?_,λh1 h2=>?_,λh1 h2=>?_⟩
 ·rw[if_pos h]
 ·rw[if_neg (by simpa using h1),if_pos h2]
 ·rw[if_neg (by simpa using h1),if_neg h2]
  dsimp only;rw[eZ]
theorem EQ{o:Of}{N:List (List Int)}{tags:List Int}:∀(f a:Nat) (u:List UInt8),u.length<f->a<=(eC o N tags f a u).2.1/\(eC o N tags f a u).2.1<=a+u.length/\(eC o N tags f a u).2.2.1=u.drop ((eC o N tags f a u).2.1-a)/\((eC o N tags f a u).2.2.2=9\/((eC o N tags f a u).2.2.2=0/\(eY o N tags (eC o N tags f a u).2.2.1).2=aE))
 |0,_,_,h=>by omega
 | f + 1,a,u,h=>by
  rw[ta]
  by_cases c:(eY o N tags u).2=aD
  ·rw[if_pos c]
   by_cases c2:(eY o N tags u).1.2=0
   ·rw[if_pos c2]
    exact⟨bJ _,Af _ _,by simp,.inl I⟩
   rw[if_neg c2];have hto:=(zh o N tags u).resolve_left c2;obtain⟨h1,h2,h3,h4⟩:=EQ (o:=o) (N:=N) (tags:=tags) f (a+(eY o N tags u).1.2) (u.drop (eY o N tags u).1.2) (by rw[iv];omega);rw[iv]at h2;refine⟨by dsimp only;omega,by dsimp only;omega,?_,h4⟩;dsimp only;rw[h3,List.drop_drop]
   congr 1;omega
  rw[if_neg c];exact⟨bJ _,Af _ _,by simp,.inr ⟨rfl,vz.2 c⟩⟩
end mW
namespace mW
open Go.RowKit dr eH cZ dq
def jK(o:Of)(N:List (List Int))(tags:List Int):Nat->Nat->List UInt8->List Tok×Nat×Int
 |0,a,_=>([],a,0)
 |f+1,a,u=>if u=[]then([],a,0)else if(eY o N tags u).1.2=0 then([],a,9)else(((eY o N tags u).1.1,a,a+(eY o N tags u).1.2)::(jK o N tags f (a+(eY o N tags u).1.2) (u.drop (eY o N tags u).1.2)).1,(jK o N tags f (a+(eY o N tags u).1.2) (u.drop (eY o N tags u).1.2)).2)
theorem ER(o:Of)(N:List (List Int))(tags:List Int)(f a:Nat)(u:List UInt8):jK o N tags (f+1) a u=if u=[]then([],a,0)else if(eY o N tags u).1.2=0 then([],a,9)else(((eY o N tags u).1.1,a,a+(eY o N tags u).1.2)::(jK o N tags f (a+(eY o N tags u).1.2) (u.drop (eY o N tags u).1.2)).1,(jK o N tags f (a+(eY o N tags u).1.2) (u.drop (eY o N tags u).1.2)).2):=rfl
theorem Hn{o:Of}{N:List (List Int)}{tags:List Int}:∀(f a:Nat) (u:List UInt8),(eC o N tags f a u).1.length+a<=(eC o N tags f a u).2.1
 |0,a,_=>by show 0+a<=a;omega
 | f +1,a,u=>by
  rw[ta]
  by_cases c:(eY o N tags u).2=aD
  ·rw[if_pos c]
   by_cases c2:(eY o N tags u).1.2=0
   rw[if_pos c2];show 0+a<=a;omega;rw[if_neg c2];have ih:=Hn (o:=o) (N:=N) (tags:=tags) f (a+(eY o N tags u).1.2) (u.drop (eY o N tags u).1.2);dsimp only[dE];omega
  rw[if_neg c];show 0+a<=a;omega
theorem zi{o:Of}{N:List (List Int)}{tags:List Int}:∀(s:List UInt8) (a:Nat) (u:List UInt8),(iI o N tags s a u).1.length+a<=(iI o N tags s a u).2.1/\(iI o N tags s a u).2.1+(iI o N tags s a u).2.2.1.length<=a+u.length+s.length
 |[],a,u=>⟨by show 0+a<=a;omega,by show a+u.length<=a+u.length+0;omega⟩
 | b ::s,a,u=>by
  have h1:=Hn (o:=o) (N:=N) (tags:=tags) (u.length+2) a (u++[b]);have hk:=EQ (o:=o) (N:=N) (tags:=tags) (u.length+2) a (u++[b]) (by rw[bT];exact ox _);have hl:(u++[b]).length=u.length+1:=by rw[bT];rfl
  rw[qI];generalize eC o N tags (u.length+2) a (u++[b])=D at*;obtain⟨d1,d2,d3,d4⟩:=D;dsimp only at h1 hk⊢;rw[dE];rw[hl]at hk
  by_cases c1:d4≠0
  ·rw[if_pos c1]
   exact⟨h1,by show d2+0<=_;omega⟩
  rw[if_neg c1]
  by_cases c2:64<d3.length
  ·rw[if_pos c2]
   exact⟨h1,by show d2+0<=_;omega⟩
  rw[if_neg c2];have ih:=zi (o:=o) (N:=N) (tags:=tags) s d2 d3;have h3:d3.length=u.length+1-(d2-a):=by rw[hk.2.2.1,iv,hl]
  dsimp only;rw[bT];omega
theorem Cv{o:Of}{N:List (List Int)}{tags:List Int}:∀(f a:Nat) (u:List UInt8),(jK o N tags f a u).1.length+a<=(jK o N tags f a u).2.1/\(jK o N tags f a u).2.1<=a+u.length/\((jK o N tags f a u).2.2=0\/(jK o N tags f a u).2.2=9)
 |0,a,_=>⟨by show 0+a<=a;omega,by show a<=a+_;omega,.inl I⟩
 | f+1,a,u=>by
  rw[ER]
  by_cases c:u=[]
  rw[if_pos c];exact⟨by show 0+a<=a;omega,by show a<=a+_;omega,.inl I⟩;rw[if_neg c]
  by_cases c2:(eY o N tags u).1.2=0
  rw[if_pos c2];exact⟨by show 0+a<=a;omega,by show a<=a+_;omega,.inr I⟩;rw[if_neg c2];have ih:=Cv (o:=o) (N:=N) (tags:=tags) f (a+(eY o N tags u).1.2) (u.drop (eY o N tags u).1.2);have hto:=(zh o N tags u).resolve_left c2;rw[iv]at ih;dsimp only[dE];exact⟨by omega,by omega,ih.2.2⟩
end mW
namespace iy
open aV ey fJ mW bV dq cZ kF
open iU (Ev sa takeN)
structure gX where
 kq:Int
 mh:Int
 eP:Nat
 kG:List UInt8
 ended:Bool
 mv:Bool
 d_:Nat
 jc:List UInt8
 lp:Int
 bad:Int
 eN:List Tok
 p:PS
 seen:Nat
 rm:Int
 rZ:Bool
 wait:List Ev
 cr:Int
 gone:Int
 over:Bool
 gd:Int
 pl:Nat
def zj(kq mh:Int):gX:=⟨kq,mh,0,[],aE,aE,0,[],0,0,[],ps0,0,0,aE,[],0,0,aE,0,0⟩
def yi(b:Bool)(p:PS):PS:=if b then([],p.2)else(p.1,[])
def lg(s:gX)(e:Int)(pl:Nat):gX:={s with over:=aD,gd:=e,pl:=pl}
def wB(s:gX)(e:Int)(pl:Nat):gX:={lg s e pl with wait:=[]}
def afC(s:gX):Nat:=s.eP-s.kG.length
def w7(s:gX)(x:List UInt8):gX×Int:=
 if s.over=aD\/s.ended=aD then(s,15)else if 1024<x.length then(s,2)
 else if s.kq<x.length then(wB s 16 s.eP,16)
 else({s with kq:=s.kq-x.length,eP:=s.eP+x.length,kG:=s.kG++x},0)
def rb(s:gX):gX×Int:=if s.over=aD\/s.ended=aD then(s,15)else({s with ended:=aD},0)
def re(s:gX)(n:Int):gX×Int:=if s.over=aD/\s.wait=[]then(s,15)else if n<1\/1073741824<n then(s,1)else({s with cr:=min (s.cr+n) 1073741824},0)
def lh(s:gX):Bool:=!s.over&&decide (s.wait.length<200)&&(decide (s.eN≠[])||decide (s.bad≠0)||decide (s.kG≠[])||s.ended)
def jO(s:gX)(n:Int):gX×List Ev:=
 if n<0 then(s,[])else({s with wait:=s.wait.drop (takeN s.wait s.cr n),cr:=s.cr-(takeN s.wait s.cr n:Nat),gone:=s.gone+(takeN s.wait s.cr n:Nat)},s.wait.take (takeN s.wait s.cr n))
def zk(s:gX):Int×Nat×Bool:=if s.over=aD/\s.wait=[]then(s.gd,s.pl,aD)else(0,0,aE)
def r7(m:Md)(b:Bool)(s:gX)(t:Int):gX×Int:=
 ({s with p:=(kO m b s.p s.seen t).2.1,seen:=if(kO m b s.p s.seen t).1=0 then s.seen+1 else s.seen,rm:=(kO m b s.p s.seen t).1,wait:=s.wait++(kO m b s.p s.seen t).2.2},(kO m b s.p s.seen t).1)
def tr(s:gX)(e:Int)(pl:Nat):gX:=if e≠0 then lg s e pl else s
def qk(m:Md)(b:Bool)(s:gX):gX×Int:=
 ({s with p:=yi b s.p,rm:=(v7 m b s.p s.seen).1,rZ:=decide ((v7 m b s.p s.seen).1=0),wait:=s.wait++(v7 m b s.p s.seen).2},(v7 m b s.p s.seen).1)
def Bz(m:Md)(s:gX)(c:UInt8):List Tok×Nat×List UInt8×Int:=iI m.o m.N m.tags [c] s.d_ s.jc
def Me(m:Md)(s:gX)(c:UInt8)(r:List UInt8):gX:=
 {s with kG:=r,eN:=(Bz m s c).1,d_:=(Bz m s c).2.1,jc:=(Bz m s c).2.2.1,lp:=(Bz m s c).2.2.2,bad:=(Bz m s c).2.2.2}
def yj(m:Md)(s:gX):List Tok×Nat×Int:=jK m.o m.N m.tags (s.jc.length+1) s.d_ s.jc
def ES(m:Md)(s:gX):gX:=
 {s with mv:=aD,eN:=(yj m s).1,d_:=(yj m s).2.1,jc:=[],lp:=if(yj m s).2.2=0 then 15 else 9,bad:=(yj m s).2.2}
def jL(m:Md)(b:Bool)(s:gX):gX:=
 match s.eN with
 |t::r=>if tF m t<0 then {s with eN:=r}else tr (r7 m b {s with eN:=r} (tF m t)).1 (r7 m b {s with eN:=r} (tF m t)).2 t.2.1
 | []=>if s.bad≠0 then lg s s.bad s.d_ else
  match s.kG with
  |c::r=>Me m s c r
  |[]=>if s.mv=aE then ES m s else lg (qk m b s).1 (qk m b s).2 s.eP
def mX(m:Md)(b:Bool):Nat->gX->gX×Nat
 |0,s=>(s,0)
 |k+1,s=>if lh s=aD then((mX m b k (jL m b s)).1,(mX m b k (jL m b s)).2+1)else(s,0)
structure iM(m:Md)(b:Bool)(s:gX):Prop where
 kq:0<=s.kq
 BO:s.kq+s.eP<=4096
 mh:0<=s.mh/\s.mh<=1000
 kG:s.d_+s.jc.length+s.kG.length<=s.eP
 jc:s.jc.length<=64
 lp:s.bad=0->s.mv=aE->s.lp=0
 seen:s.seen+s.eN.length<=s.d_
 tok:∀t∈s.eN,0<=t.1/\t.1<(m.of.length:Int)
 live:s.over=aE->s.rm=0/\s.rZ=aE/\Ry m b s.p
 mv:s.mv=aD->s.kG=[]/\s.ended=aD
 ev:s.wait.any sa=aE
 T6:s.gone+s.wait.length<=(s.seen+if s.over=aD then 1 else 0)*2001
 wl:s.wait.length<=2201
 cr:0<=s.cr/\s.cr<=1073741824
 gone:0<=s.gone
theorem Rz{m:Md}{b:Bool}{T N:Nat}(h:jN m b T N){x y:Int}(hx:0<=x)(gh:x<=4096)(hy:0<=y)(hy2:y<=1000):iM m b (zj x y):=by
 refine⟨hx,by show x+0<=4096;omega,⟨hy,hy2⟩,bJ _,bO _,λ_ _=>rfl,bJ _,λt ht=>(by cases ht),λ_=>⟨rfl,rfl,afB h⟩,λh=>(by cases h),rfl,by simp[zj],bO _,⟨k8 _,by simp[zj]⟩,k8 _⟩
theorem AX{g:eL}(hP:g.aF.length<=40):∀{st:List TD} {out:List dV} {a:Nat},(∀d∈st,qZ g d)->(∀x∈out,sa x=aE)->∀x∈(bZ st out a).2.1,sa x=aE
 |[],out,a,_,h=>h
 | .sym x::r,out,a,_,h=>h
 | .close p::r,out,a,hd,h=>by
  have h2:∀x∈out++[((3:Int),p)],sa x=false:=λx hx=>by
   rcases fC.1 hx with hx|hx
   exact h x hx;obtain⟨h0,h1⟩:=hd _ (ir ..);rw[ep.1 hx];simp only[sa,Dd,decide_eq_false_iff_not];omega
  unfold bZ;split;exact AX hP (λd U3=>hd d (mb _ U3)) h2;exact h2
theorem Cw{k n:Int}(h1:1<=k)(h2:k<=4)(h3:0<=n)(h4:n<=1099511627776):sa (k,n)=false:=by
 simp only[sa,Dd,decide_eq_false_iff_not];omega
theorem Jp{g:eL}(hg:aV.cL g=0)(hP:g.aF.length<=40){nx:Int->Int}(hn:aas g.aF nx):∀{f:Nat} {st:List TD} {out:List dV} {a:Nat},(∀d∈st,qZ g d)->(∀x∈out,sa x=aE)->∀x∈(f_ g.aF nx f st out a).2.1,sa x=aE
 |0,st,out,a,_,h=>h
 | f + 1,st,out,a,hd,h=>by
  have h1:=AX hP (a:=a) hd h;have hd1:=rM (out:=out) (a:=a) hd;unfold f_;split;exact h1;generalize hc:(bZ st out a).1=C at*;split
  ·rename_i x r
   split;exact h1;split;exact h1
   rename_i c
   obtain⟨h3,-⟩:=hn x.2 J;have h2:∀y∈(bZ st out a).2.1++[((1:Int),nx x.2)],sa y=false:=λy hy=>by
    rcases fC.1 hy with hy|hy
    exact h1 y hy;rw[ep.1 hy];exact Cw ahk ahk J J
   split;exact Jp hg hP hn (AC hg J h3 λd U3=>hd1 d (mb _ U3)) h2;exact h2
  exact h1
theorem Jq{g:eL}{T N:Nat}{A:List (List bV.Act)}{G:List (List Int)}(h:rW g T N A G)(hP:g.aF.length<=40){col a:Nat}(hc:col<=T)(ha:a<=1000000):∀(f:Nat) {σ:List Nat} {o:List dV},σ≠[]->(∀q∈σ,q<A.length)->(∀x∈o,sa x=aE)->∀x∈(hJ g.aF (ji A) (fB G) col a f σ o).2.2,sa x=aE
 |0,σ,o,_,_,_=>by unfold hJ;simp
 | f + 1,σ,o,hne,hq,ho=>by
  have hd:σ.headD 0<A.length:=by
   cases σ with
   |nil=>exact absurd I hne
   |cons q σ=>exact hq q (ir ..)
  have hr:=h.right hd hc;unfold hJ;generalize ji A (σ.headD 0) col=x at*
  by_cases c1:f=0/\x.1≠0
  rw[if_pos c1];simp;rw[if_neg c1]
  by_cases c2:x.1=3
  rw[if_pos c2];exact ho;rw[if_neg c2]
  by_cases c3:x.1=1
  ·rw[if_pos c3]
   split;simp;intro y hy;rcases fC.1 hy with hy|hy
   exact ho y hy;rw[ep.1 hy];exact Cw ahk ahk J J
  rw[if_neg c3]
  by_cases c4:x.1=2
  ·rw[if_pos c4]
   have hx:0<=x.2/\x.2<(g.aF.length:Int):=by rcases hr with⟨h1,_⟩|⟨h1,_⟩|⟨_,h1,h2⟩|⟨h1,_⟩<;>omega
   cases e:BW g.aF (fB G) σ x.2 with
   |none=>simp
   | some σ'=>
    obtain⟨r1,r2,r3⟩:=Ja h hx.1 hx.2 hq e;dsimp only
    by_cases c5:60<σ'.length
    rw[if_pos c5];simp;rw[if_neg c5];refine Jq h hP hc ha f r1 r3 λy hy=>?_;rcases fC.1 hy with hy|hy
    exact ho y hy;rw[ep.1 hy];exact Cw ahk ahk J J
  rw[if_neg c4];simp
theorem Jr{m:Md}{b:Bool}{T N:Nat}(h:jN m b T N){p:PS}(hp:Ry m b p){a:Nat}(ha:a<=1000000){t:Int}(ht:t<T):∀x∈(kO m b p a t).2.2,sa x=false:=by
 have hP:=(de h.AV).2.2.2.2.1
 cases b with
 | true=>
  obtain⟨h1,h2⟩:=hp;have hn:=(h.ll I).2.nx t.toNat;have hd:=Jp h.AV hP hn (f:=2001) (st:=p.1) (out:=[]) (a:=0) h1 (by simp);have ho:=λR (hR:f_ m.g.aF (ja m.rows t.toNat) 2001 p.1 [] 0=R) h0=>IL h.AV hn (f:=2001) (st:=p.1) (out:=[]) (a:=0) hR h0 h1;intro x hx;have hx:x∈(ko m.g.aF (ja m.rows t.toNat) p.1 a t).2.2:=hx;unfold ko at hx;generalize f_ m.g.aF (ja m.rows t.toNat) 2001 p.1 [] 0=D at*;obtain⟨st1,o1,a1,e⟩:=D;dsimp only at hx hd;split at hx
  cases hx
  rename_i c
  have ho:=ho _ I (by simpa using c);dsimp only at ho;split at hx
  ·rename_i y r
   split at hx
   cases hx
   split at hx
   ·refine AX hP (λd U3=>ho d (mb _ U3)) (λz hz=>?_) x hx
    rcases fC.1 hz with hz|hz
    exact hd z hz;rw[ep.1 hz];exact Cw ahk ahk J J
   cases hx
  cases hx
 | false=>
  obtain⟨h1,h2,h3⟩:=hp;exact Jq (h.lr I) hP J ha 2001 h1 h2 (by simp)
theorem PD{m:Md}{b:Bool}{T N:Nat}(h:jN m b T N){p:PS}(hp:Ry m b p){a:Nat}(ha:a<=1000000):∀x∈(v7 m b p a).2,sa x=false:=by
 have hP:=(de h.AV).2.2.2.2.1
 cases b with
 |true=>
  obtain⟨h1,h2⟩:=hp;have hn:=(h.ll I).2.nx m.g.aT.toNat;have hd:=Jp h.AV hP hn (f:=2001) (st:=p.1) (out:=[]) (a:=0) h1 (by simp);intro x hx;have hx:x∈(fJ.jK m.g.aF (ja m.rows m.g.aT.toNat) p.1).2:=hx;unfold fJ.jK at hx;generalize f_ m.g.aF (ja m.rows m.g.aT.toNat) 2001 p.1 [] 0=D at*;obtain⟨st1,o1,a1,e⟩:=D;dsimp only at hx hd;split at hx
  cases hx
  split at hx;exact hd x hx
  cases hx
 |false=>
  obtain⟨h1,h2,h3⟩:=hp;exact Jq (h.lr I) hP (by have:=h.tT;omega) ha 2001 h1 h2 (by simp)
end iy
namespace cZ
open Go.RowKit dr eH
def w8(g:Nat)(cs:List Value)(T:TypeId):cU:=
 ⟨aj g,λ_=>False,λw=>∃r:List Value,w.heap[g]?=aj (.cells (cs++r).toArray T (0,0)),λw ⟨r,h⟩ k hk=>by simp only[dB,or_false]at hk;subst hk;exact(Array.getElem?_eq_some_iff.1 h).1,
  λw w' ⟨r,h⟩ _ hb=>⟨r,by rw[hb g (.inl I)];exact h⟩⟩
section
variable{W:b9}{L:List cU}
theorem mY{i g off:Nat}{cs:List Value}{T:TypeId}{v:Value}(hi:L[i]?=aj (w8 g cs T))(hv:cs.toArray[off]?=aj v):At W L ⟨g,off,ak⟩ v:=λw hm=>by
 obtain⟨r,h⟩:=hm.get hi;rw[cell_of_row w g off _ T (0,0) h,kt];rw[kt]at hv;rw[fH (dv.1 hv).1];exact hv
theorem eM{i g:Nat}{C:Array Value}{cs:List Value}{T:TypeId}(hi:L[i]?=aj (aR g C T))(hC:∃r,C=(cs++r).toArray):∀w,Mem W L w->Mem W [w8 g cs T] w:=λw hm=>by
 have h1:Mem W [aR g C T] w:=hm.pick [i] (by simp) (by simp[hi]);obtain⟨r,rfl⟩:=hC;exact h1.P' (i:=0) (w8 g cs T) I (λw h=>⟨r,h⟩) λk h=>h
end
theorem ii(vo:Value)(pk tl r:List Value):∃q,(jx vo pk (tl++r)).toArray=(jx vo pk tl++q).toArray:=⟨r,by simp[jx]⟩
end cZ
namespace cZ
open Go.RowKit dr eH aV ey fJ iT kF bV
theorem lM{vo:Value}{pk tl cs:List Value}(k0:Nat)(hp:pk.length=258)(hc:(tl.drop k0).take cs.length=cs){j k:Nat}{v:Value}(h:cs[j]?=aj v)(hk:k=k0+259+j):(jx vo pk tl).toArray[k]?=aj v:=by
 have hj:=(dv.1 h).1;rw[<-hc,List.getElem?_take_of_lt hj,List.getElem?_drop]at h;exact jA (k0+j) hp h J
section
variable{P:Program}{n:Nat}{W:b9}{fr:Fr}{L:List cU}{Q:Exit->Act->World->Prop}{ops:Array Oper}{rest:List Oper}{ty:TypeId}{pos:String}{after:Array Edge}{t:TypeId}{p x:Operand}{i g k:Nat}{vo:Value}{pk tl:List Value}{T:TypeId}{agg:Bool}{v:Value}
theorem iV(k0:Nat){cs tl':List Value}{c:Nat}[hT:aL P t agg c](hi:L[i]?=aj (aR g (jx vo pk tl).toArray T))(hp:ev fr p=aj (aK (aj ⟨g,k,ak⟩)))(hx:ev fr x=aj (aU cs.toArray))(h1:cs.all fG=aD)(hc:cs.length=c)(hk:k=k0+259)(eA:pk.length=258)(hj:Nat.ble (k0+c) tl.length=aD)
 (htl:tl.take k0++cs++tl.drop (k0+c)=tl') (h:TL P n W ops Q rest fr (L.set i (aR g (jx vo pk tl').toArray T))):TL P n W ops Q (⟨ak,.store t p x,ty,pos,after,ak⟩::rest) fr L:=by
 subst hk htl;have hj:=mH hj;refine uc hT.ty hi hp hx (by simpa[vV]using hc) (by simpa[vV]using h1) (by rw[eE,jx,dE,bT];omega) ?_ h;apply qJ;show vo::(pk++(tl.take k0++cs++tl.drop (k0+c)))=Pl (k0+259) (vo::(pk++tl))++cs++Pm (k0+259+c) (vo::(pk++tl))
 rw[show k0+259=pk.length+k0+1 by omega,sm,show pk.length+k0+1+c=pk.length+(k0+c)+1 by omega,Ax,List.take_length_add_append,List.drop_length_add_append];simp
end
def ql:Bool->Value->PS->cU
 |true,v,p=>wK v p.1
 |false,v,p=>Rg v p.2
theorem Cx{v:Value}{a e:Int}{d:Bool}(h:v.oneCell'=aD):[v,av az a,av az e,.bool d].all fG=true:=by
 simp only[dw,dA,h];rfl
end cZ
namespace cZ
open Go.RowKit dr eH dq mW
def iq(a:Int)(u:List UInt8)(e:Int):List Value:=[av az a,str u,av az e]
def abf(c:Int)(a:Int)(u:List UInt8)(e:Int):Int:=if c≠0 then c else if a<0\/1099511627776<a\/64<u.length then 1 else if e≠0 then 15 else 0
theorem tu(o:Of)(vn vt:Value)(N:List (List Int))(tags:List Int)(a:Int)(u:List UInt8)(e:Int)(w:World)(h:Ui w vn vt N tags)(ho:∀b (h:b<256),o[b]<256)(hu:u.length<=9223372036854775807):
 Calls aC 141 #[MP o vn vt,aU (iq a u e).toArray] w (cY (ret (av az (abf (zg o N tags) a u e))) w):=by
 have jr:=λw' (hg:Gr w w')=>By o vn vt N tags w' (h.gr hg) ho;obtain⟨⟨an,cn,rfl,-⟩,at',ct,rfl,-⟩:=h;generalize zg o N tags=c at*;unfold abf;refine enter (args:=[MP o (ap an N.length cn) (ap at' tags.length ct),aU (iq a u e).toArray]) (n:=30) Tryz.func141 I I I ?_;refine bC (aM (b_ I I I λg2=>b_ I I I λg3=>?_));refine zL ?_
 repeat(first|refine qv I (qp I) I I ?_|refine cz ?_|refine bC ?_|refine aM ?_|refine qn I ?_|refine qo I ?_|refine c_ ?_|refine dx ?_|refine dm ?_|refine cB ?_|refine bU ?_|refine cO ?_|refine cP ?_|refine qs I I I I I I ?_|((try refine qg I I I ?_);first|refine qv I (qp I) I I ?_|refine qv I (aQ (i:=0) aL.ty I I (kM _ _ _)) I I ?_|refine qv I (iQ cI.iC I I) I I ?_|refine qv I (aW I I (qT J)) I I ?_|refine qv I (aW I I (qF J)) I I ?_|refine qv I (bm I I (qT J)) I I ?_|refine qv I (bm I I (qF J)) I I ?_|refine qv I (dD bR.eq I) I I ?_|refine qv I (bB I I (qT J)) I I ?_|refine qv I (bB I I (qF J)) I I ?_))
 refine a8 (ju aJ.en I I) (λw hm=>jr _ hm.below) I I I ?_;intro _ _;refine zL ?_
 by_cases c1:c=0
 ·rw[if_neg (by simpa using c1)]
  by_cases c2:a<0
  ·rw[if_pos (.inl c2)]
   repeat(first|refine qv I (qp I) I I ?_|refine cz ?_|refine bC ?_|refine aM ?_|refine qn I ?_|refine qo I ?_|refine c_ ?_|refine dx ?_|refine dm ?_|refine cB ?_|refine bU ?_|refine cO ?_|refine cP ?_|refine qs I I I I I I ?_|((try refine qg I I I ?_);first|refine qv I (qp I) I I ?_|refine qv I (bm (b:=aE) I I (decide_eq_false (by simpa using c1))) I I ?_|refine qv I (aB (v:=av az a) aL.ty I (aH (i:=1) I I)) I I ?_|refine qv I (aW (b:=aD) I I (decide_eq_true c2)) I I ?_|refine qv I (iQ cI.iC I I) I I ?_|refine qv I (aW I I (qT J)) I I ?_|refine qv I (aW I I (qF J)) I I ?_|refine qv I (bm I I (qT J)) I I ?_|refine qv I (bm I I (qF J)) I I ?_|refine qv I (dD bR.eq I) I I ?_|refine qv I (bB I I (qT J)) I I ?_|refine qv I (bB I I (qF J)) I I ?_))
   exact ea I I I
  by_cases c3:1099511627776<a
  ·rw[if_pos (.inr (.inl c3))]
   repeat(first|refine qv I (qp I) I I ?_|refine cz ?_|refine bC ?_|refine aM ?_|refine qn I ?_|refine qo I ?_|refine c_ ?_|refine dx ?_|refine dm ?_|refine cB ?_|refine bU ?_|refine cO ?_|refine cP ?_|refine qs I I I I I I ?_|((try refine qg I I I ?_);first|refine qv I (qp I) I I ?_|refine qv I (bm (b:=aE) I I (decide_eq_false (by simpa using c1))) I I ?_|refine qv I (aB (v:=av az a) aL.ty I (aH (i:=1) I I)) I I ?_|refine qv I (aW (b:=aE) I I (decide_eq_false c2)) I I ?_|refine qv I (iQ cI.iC I I) I I ?_|refine qv I (aW I I (qT J)) I I ?_|refine qv I (aW I I (qF J)) I I ?_|refine qv I (bm I I (qT J)) I I ?_|refine qv I (bm I I (qF J)) I I ?_|refine qv I (bB (b:=aD) I I (decide_eq_true c3)) I I ?_|refine qv I (dD bR.eq I) I I ?_|refine qv I (bB I I (qT J)) I I ?_|refine qv I (bB I I (qF J)) I I ?_))
   exact ea I I I
  by_cases c4:64<u.length
  ·rw[if_pos (.inr (.inr c4))]
   repeat(first|refine qv I (qp I) I I ?_|refine cz ?_|refine bC ?_|refine aM ?_|refine qn I ?_|refine qo I ?_|refine c_ ?_|refine dx ?_|refine dm ?_|refine cB ?_|refine bU ?_|refine cO ?_|refine cP ?_|refine qs I I I I I I ?_|((try refine qg I I I ?_);first|refine qv I (qp I) I I ?_|refine qv I (bm (b:=aE) I I (decide_eq_false (by simpa using c1))) I I ?_|refine qv I (aB (v:=av az a) aL.ty I (aH (i:=1) I I)) I I ?_|refine qv I (aB (v:=str u) aL.ty I (aH (i:=1) I I)) I I ?_|refine qv I (aW (b:=aE) I I (decide_eq_false c2)) I I ?_|refine qv I (iQ cI.iC I I) I I ?_|refine qv I (aW I I (qT J)) I I ?_|refine qv I (aW I I (qF J)) I I ?_|refine qv I (bm I I (qT J)) I I ?_|refine qv I (bm I I (qF J)) I I ?_|refine qv I (bB (b:=aE) I I (decide_eq_false c3)) I I ?_|refine qv I (bB (b:=aD) I I (decide_eq_true J)) I I ?_|refine qv I (dD bR.eq I) I I ?_|refine qv I (bB I I (qT J)) I I ?_|refine qv I (bB I I (qF J)) I I ?_))
   exact ea I I I
  rw[if_neg J]
  by_cases c5:e=0
  ·rw[if_neg (by simpa using c5)]
   repeat(first|refine qv I (qp I) I I ?_|refine cz ?_|refine bC ?_|refine aM ?_|refine qn I ?_|refine qo I ?_|refine c_ ?_|refine dx ?_|refine dm ?_|refine cB ?_|refine bU ?_|refine cO ?_|refine cP ?_|refine qs I I I I I I ?_|((try refine qg I I I ?_);first|refine qv I (qp I) I I ?_|refine qv I (bm (b:=aE) I I (decide_eq_false (by simpa using c1))) I I ?_|refine qv I (aB (v:=av az a) aL.ty I (aH (i:=1) I I)) I I ?_|refine qv I (aB (v:=str u) aL.ty I (aH (i:=1) I I)) I I ?_|refine qv I (aB (v:=av az e) aL.ty I (aH (i:=1) I I)) I I ?_|refine qv I (aW (b:=aE) I I (decide_eq_false c2)) I I ?_|refine qv I (bm (b:=aE) I I (decide_eq_false (by simpa using c5))) I I ?_|refine qv I (iQ cI.iC I I) I I ?_|refine qv I (aW I I (qT J)) I I ?_|refine qv I (aW I I (qF J)) I I ?_|refine qv I (bm I I (qT J)) I I ?_|refine qv I (bm I I (qF J)) I I ?_|refine qv I (bB (b:=aE) I I (decide_eq_false c3)) I I ?_|refine qv I (bB (b:=aE) I I (decide_eq_false J)) I I ?_|refine qv I (dD bR.eq I) I I ?_|refine qv I (bB I I (qT J)) I I ?_|refine qv I (bB I I (qF J)) I I ?_))
   exact ea I I I
  rw[if_pos c5]
  repeat(first|refine qv I (qp I) I I ?_|refine cz ?_|refine bC ?_|refine aM ?_|refine qn I ?_|refine qo I ?_|refine c_ ?_|refine dx ?_|refine dm ?_|refine cB ?_|refine bU ?_|refine cO ?_|refine cP ?_|refine qs I I I I I I ?_|((try refine qg I I I ?_);first|refine qv I (qp I) I I ?_|refine qv I (bm (b:=aE) I I (decide_eq_false (by simpa using c1))) I I ?_|refine qv I (aB (v:=av az a) aL.ty I (aH (i:=1) I I)) I I ?_|refine qv I (aB (v:=str u) aL.ty I (aH (i:=1) I I)) I I ?_|refine qv I (aB (v:=av az e) aL.ty I (aH (i:=1) I I)) I I ?_|refine qv I (aW (b:=aE) I I (decide_eq_false c2)) I I ?_|refine qv I (bm (b:=aD) I I (decide_eq_true c5)) I I ?_|refine qv I (iQ cI.iC I I) I I ?_|refine qv I (aW I I (qT J)) I I ?_|refine qv I (aW I I (qF J)) I I ?_|refine qv I (bm I I (qT J)) I I ?_|refine qv I (bm I I (qF J)) I I ?_|refine qv I (bB (b:=aE) I I (decide_eq_false c3)) I I ?_|refine qv I (bB (b:=aE) I I (decide_eq_false J)) I I ?_|refine qv I (dD bR.eq I) I I ?_|refine qv I (bB I I (qT J)) I I ?_|refine qv I (bB I I (qF J)) I I ?_))
  exact ea I I I
 ·rw[if_pos c1]
  repeat(first|refine qv I (qp I) I I ?_|refine cz ?_|refine bC ?_|refine aM ?_|refine qn I ?_|refine qo I ?_|refine c_ ?_|refine dx ?_|refine dm ?_|refine cB ?_|refine bU ?_|refine cO ?_|refine cP ?_|refine qs I I I I I I ?_|((try refine qg I I I ?_);first|refine qv I (qp I) I I ?_|refine qv I (bm (b:=aD) I I (decide_eq_true c1)) I I ?_|refine qv I (iQ cI.iC I I) I I ?_|refine qv I (aW I I (qT J)) I I ?_|refine qv I (aW I I (qF J)) I I ?_|refine qv I (bm I I (qT J)) I I ?_|refine qv I (bm I I (qF J)) I I ?_|refine qv I (dD bR.eq I) I I ?_|refine qv I (bB I I (qT J)) I I ?_|refine qv I (bB I I (qF J)) I I ?_))
  exact ea I I I
theorem adI{l:List Int}{k:Nat}(h:∀j (h:j<l.length),j<k->l[j]<0)(hk:l.length<=k):(l.any λx=>decide (0<=x))=false:=by
 rw[List.any_eq_false];intro x hx;obtain⟨j,hj,rfl⟩:=jt.1 hx;have:=h j hj J;simp;omega
theorem ET(o:Of)(vn vt:Value)(N:List (List Int))(tags:List Int)(s:List UInt8)(w:World)(h:Ui w vn vt N tags)(hg:ra o N tags)(hs:s.length<=1000000):
 Calls aC 142 #[MP o vn vt,str s] w (cY (ret (.tuple #[av az (eY o N tags s).1.1,av az ((eY o N tags s).1.2:Int),.bool (eY o N tags s).2])) w):=by
 have uV:=λ{q} hq b=>adF hg (q:=q) hq b;have AA:=hg.pos;have hlen:=hg.len;obtain⟨⟨an,cn,rfl,hn1,Zo,hn3⟩,at',ct,rfl,ht1,V5,JP⟩:=h;unfold maxLen at Zo V5;obtain⟨bn,Mc,rfl,_,J0⟩:=hn3 J;obtain⟨bt,Jl,rfl,htd⟩:=JP J;clear hn3 JP hg;refine enter (args:=[MP o (ap (aj ⟨bn,Mc,ak⟩) N.length cn) (ap (aj ⟨bt,Jl,ak⟩) tags.length ct),str s]) (n:=66) Tryz.func142 I I I ?_;refine bC (aM (b_ I I I λg2=>?_));refine zL ?_
 repeat(first|refine qv I (qp I) I I ?_|refine cz ?_|refine bC ?_|refine aM ?_|refine qn I ?_|refine qo I ?_|refine c_ ?_|refine eQ ?_|refine dx ?_|refine dm ?_|refine cB ?_|refine eb ?_|refine bU ?_|refine cO ?_|refine cP ?_|refine dK ?_|refine dL I ?_|refine qv I (dD bR.eq I) I I ?_|refine qv I (sq bR.eq I) I I ?_|refine qv I (iQ cI.iC I I) I I ?_|refine qv I (aW I I (qT J)) I I ?_|refine qv I (aW I I (qF J)) I I ?_|refine qv I (dQ I I (qT J)) I I ?_|refine qv I (dQ I I (qF J)) I I ?_|refine qv I (bL I I J J I) I I ?_)
 unfold eY;dsimp only;generalize jM:qH o N tags s 0 0 0 0=fin;generalize Ub:Hm o N 0 s=sr;refine eK (ι:=Nat×Nat×Int×Nat) (λ(i,now,r,t)=>i<=s.length/\now<N.length/\t<=i/\(t=0->r=0)/\qH o N tags (s.drop i) i (now:Int) r t=fin/\Hm o N (now:Int) (s.drop i)=sr) (λ(i,now,r,t)=>[(1,str s),(2,aK (aj ⟨g2,0,ak⟩)),(4,av az r),(5,av az (t:Int)),(7,av az (now:Int)),(12,av az s.length),(13,av az (i:Int))])
  (λ_=>[aR g2 (fw o (ap (aj ⟨bn,Mc,ak⟩) N.length cn) (ap (aj ⟨bt,Jl,ak⟩) tags.length ct)).toArray 30]) (λ(i,_,_,_)=>s.length-i) (0,0,0,0) ⟨bO _,AA,bO _,λ_=>rfl,jM,Ub⟩ ?_
 rintro⟨i,now,r,t⟩ ⟨i1,i2,i3,i6,i4,i5⟩;dsimp only at i1 i2 i3 i4 i5 i6⊢;clear jM Ub
 by_cases c1:i<s.length
 ·have hne:decide (s≠[])=true:=decide_eq_true (by rintro rfl;simp at c1)
  rw[ff c1,yg]at i4;rw[ff c1,PC]at i5;obtain⟨_,hw,hx0,kB,gh⟩:=uV i2 s[i];have hb:s[(i:Int).toNat]?=aj s[i]:=by rw[dP];exact bQ c1
  have hcell:=adG (vn:=ap (aj ⟨bn,Mc,ak⟩) N.length cn) (vt:=ap (aj ⟨bt,Jl,ak⟩) tags.length ct) o s[i];have hb8:=s[i].toNat_lt;obtain⟨u,⟨au,cu,rfl,hcu,hmu,MO⟩,hdu⟩:=AB J0 i2;have Jm:=λ(L:List cU)=>jb (L:=L) hdu (j:=0) (v:= .slice au N[now].length cu) I;obtain⟨bu,abd,rfl,fl⟩:=MO J;have FC:=λ(L:List cU)=>iB (L:=L) km fl hw 0 _ I;have YD:∀(L:List cU),At (w:b9) L ⟨bu,abd+o[s[i].toNat]*1+0,ak⟩ (av az (AW o N (now:Int) s[i])):=λL=>by rw[hx0];exact FC L
  clear hdu fl MO FC hx0 J0;generalize s[i]=b at*;generalize o[b.toNat]=ob at*;generalize AW o N (now:Int) b=x at*;generalize N[now].length=wd at*
  repeat(first|refine qv I (qp I) I I ?_|refine cz ?_|refine bC ?_|refine aM ?_|refine qn I ?_|refine qo I ?_|refine c_ ?_|refine eQ ?_|refine dx ?_|refine dm ?_|refine cB ?_|refine eb ?_|refine bU ?_|refine cO ?_|refine cP ?_|refine dK ?_|refine dL I ?_|refine qv I (dD bR.eq I) I I ?_|refine qv I (sq bR.eq I) I I ?_|refine qv I (iQ cI.iC I I) I I ?_|refine qv I (aW I I (qT J)) I I ?_|refine qv I (aW I I (qF J)) I I ?_|refine qv I (dQ I I (qT J)) I I ?_|refine qv I (dQ I I (qF J)) I I ?_|refine qv I (bL I I J J I) I I ?_)
  refine eo ([aR g2 (fw o (ap (aj ⟨bn,Mc,ak⟩) N.length cn) (ap (aj ⟨bt,Jl,ak⟩) tags.length ct)).toArray 30]) (.calm 0 (.calm 1 (.calm 2 (.calm 3 (.calm 4 (.calm 5 (.calm 6 (.calm 7 (.calm 8 (.calm 9 (.calm 10 (.calm 11 (.calm 12 (.calm 13 (.done))))))))))))))) (λ_ h=>h) ?_
  repeat(first|((first|refine nQ I I ?_|refine qt I I I I ?_);first|refine dy (qp I) I I ?_|refine dy (aB aL.ty I (aH (i:=0) I (lX _ _ _))) I I ?_|refine dy (a_ (j:=now) bR.eq aL.ty I I i2) I I ?_|refine dy (aB aL.ty I (Jm _)) I I ?_|refine dy (v_ bR.eq I I J hb) I I ?_|refine dy (iz bR.eq aL.ty I I hb8) I I ?_|refine dy (aB aL.ty I (aH (i:=0) I hcell)) I I ?_|refine dy (a_ (j:=ob) bR.eq aL.ty I I hw) I I ?_|refine dy (aB aL.ty I (YD _)) I I ?_|refine dy (dD bR.eq I) I I ?_|refine dy (sq bR.eq I) I I ?_|refine dy (iQ cI.iC I I) I I ?_|refine dy (aW I I (qT J)) I I ?_|refine dy (aW I I (qF J)) I I ?_|refine dy (dQ I I (qT J)) I I ?_|refine dy (dQ I I (qF J)) I I ?_|refine dy (bL I I J J I) I I ?_)|refine jV ?_)
  by_cases q1:x<0
  ·rw[if_pos q1]at i4 i5
   subst i4 i5;rw[hne,EE]
   repeat(first|refine qv I (qp I) I I ?_|refine cz ?_|refine bC ?_|refine aM ?_|refine qn I ?_|refine qo I ?_|refine c_ ?_|refine eQ ?_|refine dx ?_|refine dm ?_|refine cB ?_|refine eb ?_|refine bU ?_|refine cO ?_|refine cP ?_|refine dK ?_|refine dL I ?_|refine qv I (aW (b:=aD) I I (decide_eq_true q1)) I I ?_|refine qv I (dD bR.eq I) I I ?_|refine qv I (sq bR.eq I) I I ?_|refine qv I (iQ cI.iC I I) I I ?_|refine qv I (aW I I (qT J)) I I ?_|refine qv I (aW I I (qF J)) I I ?_|refine qv I (dQ I I (qT J)) I I ?_|refine qv I (dQ I I (qF J)) I I ?_|refine qv I (bL I I J J I) I I ?_)
   exact mI I I I I λw hm=>hm.ret
  rw[if_neg q1]at i4 i5;obtain⟨xn,rfl⟩:=Int.eq_ofNat_of_zero_le (show 0<=x by omega);have hxt:xn<tags.length:=by omega
  have LG:=λ(L:List cU)=>iB (L:=L) km htd hxt 0 _ I;rw[dP,cK (l:=tags),bQ hxt,lf]at i4;generalize tags[xn]=tg at*;have ab6:∀(L:List cU),At (w:b9) L ⟨bt,Jl+xn*1+0,ak⟩ (av az tg):=LG
  by_cases q2:0<=tg
  ·rw[if_pos q2]at i4
   repeat(first|refine qv I (qp I) I I ?_|refine cz ?_|refine bC ?_|refine aM ?_|refine qn I ?_|refine qo I ?_|refine c_ ?_|refine eQ ?_|refine dx ?_|refine dm ?_|refine cB ?_|refine eb ?_|refine bU ?_|refine cO ?_|refine cP ?_|refine dK ?_|refine dL I ?_|refine qv I (aW (b:=aE) I I (decide_eq_false q1)) I I ?_|refine qv I (aB aL.ty I (aH (i:=0) I (nM _ _ _))) I I ?_|refine qv I (a_ (j:=xn) bR.eq aL.ty I I hxt) I I ?_|refine qv I (aB (v:=av az tg) aL.ty I (ab6 _)) I I ?_|refine qv I (dQ (b:=aD) I I (decide_eq_true q2)) I I ?_|refine qv I (bL (r:=((i+1:Nat):Int)) I I J J J) I I ?_|refine qv I (dD bR.eq I) I I ?_|refine qv I (sq bR.eq I) I I ?_|refine qv I (iQ cI.iC I I) I I ?_|refine qv I (aW I I (qT J)) I I ?_|refine qv I (aW I I (qF J)) I I ?_|refine qv I (dQ I I (qT J)) I I ?_|refine qv I (dQ I I (qF J)) I I ?_|refine qv I (bL I I J J I) I I ?_)
   exact cJ (i+1,xn,tg,i+1) ⟨by show i+1<=s.length;omega,by show xn<N.length;omega,bJ _,λh=>absurd h (Nat.succ_ne_zero i),i4,i5⟩ (by show s.length-(i+1)<s.length-i;omega)
  rw[if_neg q2]at i4
  repeat(first|refine qv I (qp I) I I ?_|refine cz ?_|refine bC ?_|refine aM ?_|refine qn I ?_|refine qo I ?_|refine c_ ?_|refine eQ ?_|refine dx ?_|refine dm ?_|refine cB ?_|refine eb ?_|refine bU ?_|refine cO ?_|refine cP ?_|refine dK ?_|refine dL I ?_|refine qv I (aW (b:=aE) I I (decide_eq_false q1)) I I ?_|refine qv I (aB aL.ty I (aH (i:=0) I (nM _ _ _))) I I ?_|refine qv I (a_ (j:=xn) bR.eq aL.ty I I hxt) I I ?_|refine qv I (aB (v:=av az tg) aL.ty I (ab6 _)) I I ?_|refine qv I (dQ (b:=aE) I I (decide_eq_false q2)) I I ?_|refine qv I (bL (r:=((i+1:Nat):Int)) I I J J J) I I ?_|refine qv I (dD bR.eq I) I I ?_|refine qv I (sq bR.eq I) I I ?_|refine qv I (iQ cI.iC I I) I I ?_|refine qv I (aW I I (qT J)) I I ?_|refine qv I (aW I I (qF J)) I I ?_|refine qv I (dQ I I (qT J)) I I ?_|refine qv I (dQ I I (qF J)) I I ?_|refine qv I (bL I I J J I) I I ?_)
  exact cJ (i+1,xn,r,t) ⟨by show i+1<=s.length;omega,by show xn<N.length;omega,by show t<=i+1;omega,i6,i4,i5⟩ (by show s.length-(i+1)<s.length-i;omega)
 ·rw[pO J]at i4 i5
  have i4:(r,t)=fin:=i4;subst i4
  by_cases e1:s=[]
  ·have hne:decide (s≠[])=false:=decide_eq_false (by simpa using e1)
   rw[hne,Pj];subst e1;obtain rfl:i=0:=by simp at i1;exact i1
   obtain rfl:t=0:=by omega
   obtain rfl:=i6 rfl
   repeat(first|refine qv I (qp I) I I ?_|refine cz ?_|refine bC ?_|refine aM ?_|refine qn I ?_|refine qo I ?_|refine c_ ?_|refine eQ ?_|refine dx ?_|refine dm ?_|refine cB ?_|refine eb ?_|refine bU ?_|refine cO ?_|refine cP ?_|refine dK ?_|refine dL I ?_|refine qv I (pf (b:=aD) I I (decide_eq_true I)) I I ?_|refine qv I (dD bR.eq I) I I ?_|refine qv I (sq bR.eq I) I I ?_|refine qv I (iQ cI.iC I I) I I ?_|refine qv I (aW I I (qT J)) I I ?_|refine qv I (aW I I (qF J)) I I ?_|refine qv I (dQ I I (qT J)) I I ?_|refine qv I (dQ I I (qF J)) I I ?_|refine qv I (bL I I J J I) I I ?_)
   exact mI I I I I λw hm=>hm.ret
  have hne:decide (s≠[])=true:=decide_eq_true e1;rw[hne,EE];have i5:(!((N.getD ((now:Int).toNat) []).any λx=>decide (0<=x)))=sr:=i5;obtain⟨u,⟨au,cu,rfl,hcu,hmu,MO⟩,hdu⟩:=AB J0 i2;have Jm:=λ(L:List cU)=>jb (L:=L) hdu (j:=0) (v:= .slice au N[now].length cu) I;rw[dP,cK,bQ i2,lf]at i5;clear hdu uV J0 i4;generalize N[now]=row at*;unfold maxLen at hmu
  repeat(first|refine qv I (qp I) I I ?_|refine cz ?_|refine bC ?_|refine aM ?_|refine qn I ?_|refine qo I ?_|refine c_ ?_|refine eQ ?_|refine dx ?_|refine dm ?_|refine cB ?_|refine eb ?_|refine bU ?_|refine cO ?_|refine cP ?_|refine dK ?_|refine dL I ?_|refine qv I (pf (b:=aE) I I (decide_eq_false e1)) I I ?_|refine qv I (aB aL.ty I (aH (i:=0) I (lX _ _ _))) I I ?_|refine qv I (a_ (j:=now) bR.eq aL.ty I I i2) I I ?_|refine qv I (aB aL.ty I (Jm _)) I I ?_|refine qv I (dD bR.eq I) I I ?_|refine qv I (sq bR.eq I) I I ?_|refine qv I (iQ cI.iC I I) I I ?_|refine qv I (aW I I (qT J)) I I ?_|refine qv I (aW I I (qF J)) I I ?_|refine qv I (dQ I I (qT J)) I I ?_|refine qv I (dQ I I (qF J)) I I ?_|refine qv I (bL I I J J I) I I ?_)
  clear Jm;refine ue [] ?_;refine eK (ι:=Nat) (λk=>k<=row.length/\∀j (h:j<row.length),j<k->row[j]<0) (λk=>[(4,av az r),(5,av az (t:Int)),(53,ap au row.length cu),(54,av az row.length),(55,av az (k:Int))]) (λ_=>[]) (λk=>row.length-k) 0 ⟨bO _,λj _ h=>absurd h (mc _)⟩ ?_;rintro k ⟨k1,k2⟩
  by_cases c2:k<row.length
  ·obtain⟨bu,abd,rfl,fl⟩:=MO J
   have FC:=λ(L:List cU)=>iB (L:=L) km fl c2 0 _ I;have hk2:∀(h:row[k]<0),∀j (h:j<row.length),j<k+1->row[j]<0:=λh j hj hjk=>by
    by_cases e:j=k
    subst e;exact h;exact k2 j hj J
   by_cases c3:0<=row[k]
   ·have Ey:(row.any λx=>decide (0<=x))=true:=List.any_eq_true.2 ⟨row[k],cV c2,decide_eq_true c3⟩
    rw[Ey]at i5;subst i5;clear hk2 Ey;generalize row[k]=x at*
    repeat(first|refine qv I (qp I) I I ?_|refine cz ?_|refine bC ?_|refine aM ?_|refine qn I ?_|refine qo I ?_|refine c_ ?_|refine eQ ?_|refine dx ?_|refine dm ?_|refine cB ?_|refine eb ?_|refine bU ?_|refine cO ?_|refine cP ?_|refine dK ?_|refine dL I ?_|refine qv I (a_ bR.eq aL.ty I I c2) I I ?_|refine qv I (aB (v:=av az x) aL.ty I (FC _)) I I ?_|refine qv I (dQ (b:=aD) I I (decide_eq_true c3)) I I ?_|refine qv I (dD bR.eq I) I I ?_|refine qv I (sq bR.eq I) I I ?_|refine qv I (iQ cI.iC I I) I I ?_|refine qv I (aW I I (qT J)) I I ?_|refine qv I (aW I I (qF J)) I I ?_|refine qv I (dQ I I (qT J)) I I ?_|refine qv I (dQ I I (qF J)) I I ?_|refine qv I (bL I I J J I) I I ?_)
    exact mI I I I I λw hm=>hm.ret
   have hk3:=hk2 J;clear hk2;have YD:∀(L:List cU),At (w:b9) L ⟨bu,abd+k*1+0,ak⟩ (av az row[k]):=FC;clear FC;generalize hx:row[k]=x at*
   repeat(first|refine qv I (qp I) I I ?_|refine cz ?_|refine bC ?_|refine aM ?_|refine qn I ?_|refine qo I ?_|refine c_ ?_|refine eQ ?_|refine dx ?_|refine dm ?_|refine cB ?_|refine eb ?_|refine bU ?_|refine cO ?_|refine cP ?_|refine dK ?_|refine dL I ?_|refine qv I (a_ bR.eq aL.ty I I c2) I I ?_|refine qv I (aB (v:=av az x) aL.ty I (YD _)) I I ?_|refine qv I (dQ (b:=aE) I I (decide_eq_false c3)) I I ?_|refine qv I (dD bR.eq I) I I ?_|refine qv I (sq bR.eq I) I I ?_|refine qv I (iQ cI.iC I I) I I ?_|refine qv I (aW I I (qT J)) I I ?_|refine qv I (aW I I (qF J)) I I ?_|refine qv I (dQ I I (qT J)) I I ?_|refine qv I (dQ I I (qF J)) I I ?_|refine qv I (bL I I J J I) I I ?_)
   exact cJ (k+1) ⟨by omega,hk3⟩ (by show row.length-(k+1)<row.length-k;omega)
  rw[adI k2 J]at i5;subst i5
  repeat(first|refine qv I (qp I) I I ?_|refine cz ?_|refine bC ?_|refine aM ?_|refine qn I ?_|refine qo I ?_|refine c_ ?_|refine eQ ?_|refine dx ?_|refine dm ?_|refine cB ?_|refine eb ?_|refine bU ?_|refine cO ?_|refine cP ?_|refine dK ?_|refine dL I ?_|refine qv I (dD bR.eq I) I I ?_|refine qv I (sq bR.eq I) I I ?_|refine qv I (iQ cI.iC I I) I I ?_|refine qv I (aW I I (qT J)) I I ?_|refine qv I (aW I I (qF J)) I I ?_|refine qv I (dQ I I (qT J)) I I ?_|refine qv I (dQ I I (qF J)) I I ?_|refine qv I (bL I I J J I) I I ?_)
  exact mI I I I I λw hm=>hm.ret
end cZ
namespace cZ
open Go.RowKit dr eH dq mW
section
variable{P:Program}{n:Nat}{W:b9}{fr:Fr}{L:List cU}
theorem abg{fn:Func}{R:Ending->World->Prop}{t u:Tmp}{T U:TypeId}{i j g g' c c':Nat}{cs cs':Array Value}{T' U':TypeId}[hT:aL P T aD c][hU:aL P U aD c'](na:fn.results=#[.cell t T,.cell u U])(hp:look fr t=aj (aK (aj ⟨g,0,ak⟩)))(hi:L[i]?=aj (aR g cs T'))(hc:cs.size=c)
 (hq:look fr u=aj (aK (aj ⟨g',0,ak⟩))) (hj:L[j]?=aj (aR g' cs' U')) (hc':cs'.size=c')
 (h:∀w,Mem W L w->R (.returned (.tuple #[.agg cs,.agg cs'])) w):E n W .ret (bodyPost P fn R) fr L:=
 CO λa w hr tw=>⟨_,by
  have CV:=run_loadCells_list (P:=P) w ⟨g,0,ak⟩ cs.toList λj v hj=>by rw[fv,du];exact aH hi (by simpa using hj) w tw
  have hl:(loadCells ⟨g,0,ak⟩ c).run P w= .ok cs w:=by rw[<-hc];simpa using CV
  have hv:(loadVar T ⟨g,0,ak⟩).run P w= .ok (.agg cs) w:=by simp[loadVar,hT.ty.agg,hT.ty.size,hl]
  have adJ:=run_loadCells_list (P:=P) w ⟨g',0,ak⟩ cs'.toList λj v qc=>by rw[fv,du];exact aH hj (by simpa using qc) w tw
  have ZA:(loadCells ⟨g',0,ak⟩ c').run P w= .ok cs' w:=by rw[<-hc'];simpa using adJ
  have Sa:(loadVar U ⟨g',0,ak⟩).run P w= .ok (.agg cs') w:=by simp[loadVar,hU.ty.agg,hU.ty.size,ZA]
  simp[results,na,Array.getD_eq_getD_getElem?,hr.get t _ hp,hr.get u _ hq,asAddr,hv,Sa],h w tw⟩
end
theorem Mf(a:Int)(u:List UInt8)(w:World):(dR 164 #[(0,av az a),(1,str u)]).run aC w= .ok (aU (iq a u 0).toArray) w:=by
 unfold iq str;go_simp
theorem BA(a e:Int)(w:World):(dR 164 #[(0,av az a),(2,av az e)]).run aC w= .ok (aU (iq a [] e).toArray) w:=by
 unfold iq str;go_simp
theorem PE(r a b:Int)(w:World):(dR 53 #[(0,av az r),(1,av az a),(2,av az b)]).run aC w= .ok (aU #[av az r,av az a,av az b]) w:=by
 go_simp
theorem Ho(a:Nat)(u:List UInt8)(e r:Int)(t:Nat)(w:World)(ha:a<=9223372036854775)(ht:t<=u.length)(hu:u.length<=1000000):
 Calls aC 143 #[aU (iq a u e).toArray,av az r,av az (t:Int)] w (cY (ret (.tuple #[aU (iq ((a+t:Nat):Int) (u.drop t) 0).toArray,aU (s_ (r,a,a+t)).toArray])) w):=by
 have hb:=PE r a ((a+t:Nat):Int);have MJ:=Mf ((a+t:Nat):Int) (u.drop t);refine enter (args:=[aU (iq a u e).toArray,av az r,av az (t:Int)]) (n:=25) Tryz.func143 I I I ?_;refine bC (aM (b_ I I I λg3=>bz I λg6=>bz I λg7=>?_));refine zL ?_
 repeat(first|refine qv I (qp I) I I ?_|refine cz ?_|refine bC ?_|refine aM ?_|refine dx ?_|refine cB ?_|refine bU ?_|refine qv I (aB (v:=av az (a:Int)) aL.ty I (aH (i:=0) I I)) I I ?_|refine qv I (bL (r:=((a+t:Nat):Int)) I I J J J) I I ?_|refine qv I (bP I hb) I I ?_|refine qv I (iQ cI.iC I I) I I ?_|refine qv I (bL I I J J I) I I ?_)
 refine bz I λg8=>?_;refine zL ?_;refine il 3 (cs':=(s_ (r,a,a+t)).toArray) ?_;refine zL ?_
 repeat(first|refine qv I (qp I) I I ?_|refine cz ?_|refine bC ?_|refine aM ?_|refine dx ?_|refine cB ?_|refine bU ?_|refine qv I (iQ cI.iC I I) I I ?_|refine qv I (bL I I J J I) I I ?_)
 refine eo ([aR g3 (iq a u e).toArray 164,aR g8 (s_ (r,a,a+t)).toArray 53]) (.calm 0 (.calm 1 (.calm 2 (.calm 3 (.calm 4 (.calm 5 (.calm 6 (.calm 7 (.one 8 (.one 9 (.done))))))))))) (cH [0,3]) ?_
 repeat(first|((first|refine nQ I I ?_|refine qt I I I I ?_);first|refine dy (qp I) I I ?_|refine dy (aB (v:=av az ((a+t:Nat):Int)) aL.ty I (aH (i:=1) I I)) I I ?_|refine dy (aB (v:=str u) aL.ty I (aH (i:=0) I I)) I I ?_|refine dy (CR bR.eq I I ht) I I ?_|refine dy (bP I MJ) I I ?_|refine dy (aQ (i:=1) aL.ty I I I) I I ?_|refine dy (iQ cI.iC I I) I I ?_|refine dy (bL I I J J I) I I ?_)|refine jV ?_)
 refine aO I ?_;refine il 1 (cs':=(iq ((a+t:Nat):Int) (u.drop t) 0).toArray) ?_;refine zL ?_;refine aP (cH [0,3]) ?_
 repeat(first|((first|refine nQ I I ?_|refine qt I I I I ?_);first|refine dy (qp I) I I ?_|refine dy (iQ cI.iC I I) I I ?_|refine dy (bL I I J J I) I I ?_)|refine jV ?_)
 refine aO I ?_;refine il 2 (cs':=(s_ (r,a,a+t)).toArray) ?_;refine zL ?_;refine aP (cH [0,3]) ?_
 repeat(first|((first|refine nQ I I ?_|refine qt I I I I ?_);first|refine dy (qp I) I I ?_|refine dy (iQ cI.iC I I) I I ?_|refine dy (bL I I J J I) I I ?_)|refine jV ?_)
 repeat(first|refine qv I (qp I) I I ?_|refine cz ?_|refine bC ?_|refine aM ?_|refine dx ?_|refine cB ?_|refine bU ?_|refine qv I (iQ cI.iC I I) I I ?_|refine qv I (bL I I J J I) I I ?_)
 exact abg (i:=1) (j:=2) I I I I I I I λw hm=>hm.ret
end cZ
namespace cZ
open Go.RowKit dr eH dq mW
def Hp(R:List Tok×Nat×List UInt8×Int):Spec Value:=⟨λ_=>True,λv=> .tuple #[aU (iq (R.2.1:Int) R.2.2.1 R.2.2.2).toArray,v,av az R.2.2.2],λv=>[EN v R.1]⟩
theorem RA{c:Int}{a:Nat}{u:List UInt8}(hc:c=0)(ha:a<=1099511627776)(hu:u.length<=64):abf c a u 0=0:=by
 unfold abf;rw[if_neg (by simpa using hc),if_neg J,if_neg ahk]
theorem sub_one{l:List UInt8}{i:Nat}(h:i<l.length):(l.drop i).take (i+1-i)=[l[i]]:=by
 rw[Nat.add_sub_cancel_left,ff h];rfl
theorem FD(o:Of)(vn vt:Value)(N:List (List Int))(tags:List Int)(a0:Nat)(u0:List UInt8)(s:List UInt8)(w:World)(h:Ui w vn vt N tags)(hc:zg o N tags=0)(ho:∀b (h:b<256),o[b]<256)(ha0:a0<=1099511627776)(hu0:u0.length<=64)(hs:s.length<=2000):
 Calls aC 106 #[MP o vn vt,aU (iq (a0:Int) u0 0).toArray,str s] w (cY (Hp (iI o N tags s a0 u0)) w):=by
 have jr:=λw' (hg:Gr w w')=>tu o vn vt N tags (a0:Int) u0 0 w' (h.gr hg) ho J;rw[RA hc ha0 hu0]at jr;have Bd:=λ(u:List UInt8) (hu:u.length<=65) w' (hg:Gr w w')=>ET o vn vt N tags u w' (h.gr hg) (AU hc) J;have hcut:=λa u r t w' (ha:a<=9223372036854775) ht hu=>Ho a u 0 r t w' ha ht hu;have hbE:=BA;obtain⟨⟨an,cn,rfl,-⟩,at',ct,rfl,-⟩:=h;refine enter (args:=[MP o (ap an N.length cn) (ap at' tags.length ct),aU (iq (a0:Int) u0 0).toArray,str s]) (n:=79) Tryz.func106 I I I ?_;refine bC (aM (b_ I I I λg3=>b_ I I I λg4=>bz I λg6=>?_));refine zL ?_
 repeat(first|refine qv I (qp I) I I ?_|refine cz ?_|refine bC ?_|refine aM ?_|refine qn I ?_|refine qo I ?_|refine c_ ?_|refine eQ ?_|refine dx ?_|refine dm ?_|refine cB ?_|refine eb ?_|refine bU ?_|refine cO ?_|refine cP ?_|refine dK ?_|refine dL I ?_|refine qv I (aQ (i:=0) aL.ty I I (kM _ _ _)) I I ?_|refine qv I (aQ (i:=1) aL.ty I I I) I I ?_|refine qv I (dD bR.eq I) I I ?_|refine qv I (iQ cI.iC I I) I I ?_|refine qv I (iu I I) I I ?_|refine qv I (aW I I (qT J)) I I ?_|refine qv I (aW I I (qF J)) I I ?_|refine qv I (bB I I (qT J)) I I ?_|refine qv I (bB I I (qF J)) I I ?_|refine qv I (aX I I (qT J)) I I ?_|refine qv I (aX I I (qF J)) I I ?_|refine qv I (bm I I (qT J)) I I ?_|refine qv I (bm I I (qF J)) I I ?_|refine qv I (bL I I J J I) I I ?_)
 refine a8 (gK aJ.en I I I) (λw hm=>jr _ hm.below) I I I ?_;intro _ _;refine zL ?_;clear jr
 repeat(first|refine qv I (qp I) I I ?_|refine cz ?_|refine bC ?_|refine aM ?_|refine qn I ?_|refine qo I ?_|refine c_ ?_|refine eQ ?_|refine dx ?_|refine dm ?_|refine cB ?_|refine eb ?_|refine bU ?_|refine cO ?_|refine cP ?_|refine dK ?_|refine dL I ?_|refine qv I (bm (b:=aE) I I (decide_eq_false ahk)) I I ?_|refine qv I (bB (b:=aE) I I (decide_eq_false J)) I I ?_|refine qv I (dD bR.eq I) I I ?_|refine qv I (iQ cI.iC I I) I I ?_|refine qv I (iu I I) I I ?_|refine qv I (aW I I (qT J)) I I ?_|refine qv I (aW I I (qF J)) I I ?_|refine qv I (bB I I (qT J)) I I ?_|refine qv I (bB I I (qF J)) I I ?_|refine qv I (aX I I (qT J)) I I ?_|refine qv I (aX I I (qF J)) I I ?_|refine qv I (bm I I (qT J)) I I ?_|refine qv I (bm I I (qF J)) I I ?_|refine qv I (bL I I J J I) I I ?_)
 refine jy 53 3 ?_
 conv=>arg 7;simp only[zA,zB,zC,zD,zE,zF,zG,zH,zI,dg,ret,id_eq]
 generalize jM:iI o N tags s a0 u0=fin;refine eK (ι:=Nat×Nat×List UInt8×List Tok×Value) (λ(i,a,u,out,_)=>i<=s.length/\u.length<=64/\a+u.length<=1099511627840+i/\out.length<=a/\(out++(iI o N tags (s.drop i) a u).1,(iI o N tags (s.drop i) a u).2)=fin) (λ(i,_,_,_,v)=>[(2,str s),(3,aK (aj ⟨g3,0,ak⟩)),(4,aK (aj ⟨g4,0,ak⟩)),(6,aK (aj ⟨g6,0,ak⟩)),(10,v),(28,av az s.length),(29,av az (i:Int))])
  (λ(_,a,u,out,v)=>[aR g3 (fw o (ap an N.length cn) (ap at' tags.length ct)).toArray 30,aR g4 (iq (a:Int) u 0).toArray 164,aR g6 (iq 0 [] 0).toArray 164,EN v out]) (λ(i,_,_,_,_)=>s.length-i) (0,a0,u0,[],ap ak 0 0) ⟨bO _,hu0,by show a0+u0.length<=_;omega,bO _,by rw[List.drop_zero,jM];rfl⟩ ?_
 clear jM;rintro⟨i,a1,u1,ig,v1⟩ ⟨i1,i2,i3,i4,i5⟩;dsimp only at i1 i2 i3 i4 i5⊢
 by_cases c1:i<s.length
 ·have lP:=sub_one c1
  rw[ff c1]at i5;generalize s[i]=b at*;have hstep:=TR i5;clear i5
  repeat(first|refine qv I (qp I) I I ?_|refine cz ?_|refine bC ?_|refine aM ?_|refine qn I ?_|refine qo I ?_|refine c_ ?_|refine eQ ?_|refine dx ?_|refine dm ?_|refine cB ?_|refine eb ?_|refine bU ?_|refine cO ?_|refine cP ?_|refine dK ?_|refine dL I ?_|refine qv I (dD bR.eq I) I I ?_|refine qv I (iQ cI.iC I I) I I ?_|refine qv I (iu I I) I I ?_|refine qv I (aW I I (qT J)) I I ?_|refine qv I (aW I I (qF J)) I I ?_|refine qv I (bB I I (qT J)) I I ?_|refine qv I (bB I I (qF J)) I I ?_|refine qv I (aX I I (qT J)) I I ?_|refine qv I (aX I I (qF J)) I I ?_|refine qv I (bm I I (qT J)) I I ?_|refine qv I (bm I I (qF J)) I I ?_|refine qv I (bL I I J J I) I I ?_)
  refine eo ([]) (.calm 0 (.calm 2 (.calm 3 (.calm 4 (.calm 5 (.calm 6 (.one 1 (.calm 7 (.calm 8 (.one 9 (.done))))))))))) (cH []) ?_
  repeat(first|((first|refine nQ I I ?_|refine qt I I I I ?_);first|refine dy (qp I) I I ?_|refine dy (RM (j:=i+1) bR.eq I I I J J) I I ?_|refine dy (bL (r:=((i+1:Nat):Int)) I I J J J) I I ?_|refine dy (dD bR.eq I) I I ?_|refine dy (iQ cI.iC I I) I I ?_|refine dy (iu I I) I I ?_|refine dy (aW I I (qT J)) I I ?_|refine dy (aW I I (qF J)) I I ?_|refine dy (bB I I (qT J)) I I ?_|refine dy (bB I I (qF J)) I I ?_|refine dy (aX I I (qT J)) I I ?_|refine dy (aX I I (qF J)) I I ?_|refine dy (bm I I (qT J)) I I ?_|refine dy (bm I I (qF J)) I I ?_|refine dy (bL I I J J I) I I ?_)|refine jV ?_)
  rw[lP];refine aO I (aI (aB (v:=str u1) aL.ty I (aH (i:=1) I I)) I I I (aP (cH []) ?_))
  repeat(first|((first|refine nQ I I ?_|refine qt I I I I ?_);first|refine dy (qp I) I I ?_|refine dy (FY I I (by show u1.length+1<=_;omega)) I I ?_|refine dy (dD bR.eq I) I I ?_|refine dy (iQ cI.iC I I) I I ?_|refine dy (iu I I) I I ?_|refine dy (aW I I (qT J)) I I ?_|refine dy (aW I I (qF J)) I I ?_|refine dy (bB I I (qT J)) I I ?_|refine dy (bB I I (qF J)) I I ?_|refine dy (aX I I (qT J)) I I ?_|refine dy (aX I I (qF J)) I I ?_|refine dy (bm I I (qT J)) I I ?_|refine dy (bm I I (qF J)) I I ?_|refine dy (bL I I J J I) I I ?_)|refine jV ?_)
  refine aO I ?_;refine cD (i:=1) I I I I I I ?_;refine zL ?_;refine aP (cH []) ?_
  repeat(first|((first|refine nQ I I ?_|refine qt I I I I ?_);first|refine dy (qp I) I I ?_|refine dy (dD bR.eq I) I I ?_|refine dy (iQ cI.iC I I) I I ?_|refine dy (iu I I) I I ?_|refine dy (aW I I (qT J)) I I ?_|refine dy (aW I I (qF J)) I I ?_|refine dy (bB I I (qT J)) I I ?_|refine dy (bB I I (qF J)) I I ?_|refine dy (aX I I (qT J)) I I ?_|refine dy (aX I I (qF J)) I I ?_|refine dy (bm I I (qT J)) I I ?_|refine dy (bm I I (qF J)) I I ?_|refine dy (bL I I J J I) I I ?_)|refine jV ?_)
  repeat(first|refine qv I (qp I) I I ?_|refine cz ?_|refine bC ?_|refine aM ?_|refine qn I ?_|refine qo I ?_|refine c_ ?_|refine eQ ?_|refine dx ?_|refine dm ?_|refine cB ?_|refine eb ?_|refine bU ?_|refine cO ?_|refine cP ?_|refine dK ?_|refine dL I ?_|refine qv I (dD bR.eq I) I I ?_|refine qv I (iQ cI.iC I I) I I ?_|refine qv I (iu I I) I I ?_|refine qv I (aW I I (qT J)) I I ?_|refine qv I (aW I I (qF J)) I I ?_|refine qv I (bB I I (qT J)) I I ?_|refine qv I (bB I I (qF J)) I I ?_|refine qv I (aX I I (qT J)) I I ?_|refine qv I (aX I I (qF J)) I I ?_|refine qv I (bm I I (qT J)) I I ?_|refine qv I (bm I I (qF J)) I I ?_|refine qv I (bL I I J J I) I I ?_)
  generalize hD:eC o N tags (u1.length+2) a1 (u1++[b])=D at hstep;refine eK (ι:=Nat×Nat×List UInt8×List Tok×Value) (λ(f,a,u,out,_)=>u.length<f/\u.length<=65/\a+u.length<=1099511627840+i+1/\out.length<=a/\(out++(eC o N tags f a u).1,(eC o N tags f a u).2)=(ig++D.1,D.2)) (λ(_,_,_,_,v)=>[(2,str s),(3,aK (aj ⟨g3,0,ak⟩)),(4,aK (aj ⟨g4,0,ak⟩)),(6,aK (aj ⟨g6,0,ak⟩)),(10,v),(28,av az s.length),(29,av az (i:Int))])
   (λ(_,a,u,out,v)=>[aR g3 (fw o (ap an N.length cn) (ap at' tags.length ct)).toArray 30,aR g4 (iq (a:Int) u 0).toArray 164,aR g6 (iq 0 [] 0).toArray 164,EN v out]) (λ(f,_,_,_,_)=>f) (u1.length+2,a1,u1++[b],ig,v1) ⟨by show(u1++[b]).length<_;rw[bT];exact ox _,by show(u1++[b]).length<=65;rw[bT];simp;omega,by show a1+(u1++[b]).length<=_;rw[bT];simp;omega,i4,by rw[hD]⟩ ?_
  clear hD;rintro⟨f,a,u,out,v⟩ ⟨j1,j2,j3,j4,j5⟩;dsimp only at j1 j2 j3 j4 j5⊢;obtain⟨f,rfl⟩:∃f',f=f'+1:=⟨f-1,by omega⟩;rw[ta]at j5;have hto:=zh o N tags u;have JS:=Bd u j2;generalize eY o N tags u=lk at*;obtain⟨⟨r,t⟩,sr⟩:=lk;dsimp only at hto JS j5
  repeat(first|refine qv I (qp I) I I ?_|refine cz ?_|refine bC ?_|refine aM ?_|refine qn I ?_|refine qo I ?_|refine c_ ?_|refine eQ ?_|refine dx ?_|refine dm ?_|refine cB ?_|refine eb ?_|refine bU ?_|refine cO ?_|refine cP ?_|refine dK ?_|refine dL I ?_|refine qv I (aQ (i:=0) aL.ty I I (kM _ _ _)) I I ?_|refine qv I (aB (v:=str u) aL.ty I (aH (i:=1) I I)) I I ?_|refine qv I (dD bR.eq I) I I ?_|refine qv I (iQ cI.iC I I) I I ?_|refine qv I (iu I I) I I ?_|refine qv I (aW I I (qT J)) I I ?_|refine qv I (aW I I (qF J)) I I ?_|refine qv I (bB I I (qT J)) I I ?_|refine qv I (bB I I (qF J)) I I ?_|refine qv I (aX I I (qT J)) I I ?_|refine qv I (aX I I (qF J)) I I ?_|refine qv I (bm I I (qT J)) I I ?_|refine qv I (bm I I (qF J)) I I ?_|refine qv I (bL I I J J I) I I ?_)
  refine a8 (gK aJ.en I I I) (λw hm=>JS _ hm.below) I I I ?_;intro _ _;refine zL ?_
  cases sr with
  | false=>
   rw[if_neg ahk]at j5;have j5:(out++[],a,u,(0:Int))=(ig++D.1,D.2):=j5;rw[eB]at j5;obtain⟨_,k2,k3⟩:=hstep out a u 0 j5;clear hstep j5 JS
   by_cases c2:64<u.length
   ·have k4:=k2 I c2
    subst k4
    repeat(first|refine qv I (qp I) I I ?_|refine cz ?_|refine bC ?_|refine aM ?_|refine qn I ?_|refine qo I ?_|refine c_ ?_|refine eQ ?_|refine dx ?_|refine dm ?_|refine cB ?_|refine eb ?_|refine bU ?_|refine cO ?_|refine cP ?_|refine dK ?_|refine dL I ?_|refine qv I (aB (v:=str u) aL.ty I (aH (i:=1) I I)) I I ?_|refine qv I (bB (b:=aD) I I (decide_eq_true J)) I I ?_|refine qv I (aB (v:=av az (a:Int)) aL.ty I (aH (i:=1) I I)) I I ?_|refine qv I (bP I (hbE _ _)) I I ?_|refine qv I (dD bR.eq I) I I ?_|refine qv I (iQ cI.iC I I) I I ?_|refine qv I (iu I I) I I ?_|refine qv I (aW I I (qT J)) I I ?_|refine qv I (aW I I (qF J)) I I ?_|refine qv I (bB I I (qT J)) I I ?_|refine qv I (bB I I (qF J)) I I ?_|refine qv I (aX I I (qT J)) I I ?_|refine qv I (aX I I (qF J)) I I ?_|refine qv I (bm I I (qT J)) I I ?_|refine qv I (bm I I (qF J)) I I ?_|refine qv I (bL I I J J I) I I ?_)
    refine il 2 (cs':=(iq (a:Int) [] 10).toArray) ?_;refine zL ?_
    repeat(first|refine qv I (qp I) I I ?_|refine cz ?_|refine bC ?_|refine aM ?_|refine qn I ?_|refine qo I ?_|refine c_ ?_|refine eQ ?_|refine dx ?_|refine dm ?_|refine cB ?_|refine eb ?_|refine bU ?_|refine cO ?_|refine cP ?_|refine dK ?_|refine dL I ?_|refine qv I (dD bR.eq I) I I ?_|refine qv I (iQ cI.iC I I) I I ?_|refine qv I (iu I I) I I ?_|refine qv I (aW I I (qT J)) I I ?_|refine qv I (aW I I (qF J)) I I ?_|refine qv I (bB I I (qT J)) I I ?_|refine qv I (bB I I (qF J)) I I ?_|refine qv I (aX I I (qT J)) I I ?_|refine qv I (aX I I (qF J)) I I ?_|refine qv I (bm I I (qT J)) I I ?_|refine qv I (bm I I (qF J)) I I ?_|refine qv I (bL I I J J I) I I ?_)
    exact fN (i:=2) I I I I I I λw hm=>hm.meets (S:=Hp (out,a,[],10)) v trivial [3] ahk I
   have k4:=k3 I c2
   repeat(first|refine qv I (qp I) I I ?_|refine cz ?_|refine bC ?_|refine aM ?_|refine qn I ?_|refine qo I ?_|refine c_ ?_|refine eQ ?_|refine dx ?_|refine dm ?_|refine cB ?_|refine eb ?_|refine bU ?_|refine cO ?_|refine cP ?_|refine dK ?_|refine dL I ?_|refine qv I (aB (v:=str u) aL.ty I (aH (i:=1) I I)) I I ?_|refine qv I (bB (b:=aE) I I (decide_eq_false J)) I I ?_|refine qv I (dD bR.eq I) I I ?_|refine qv I (iQ cI.iC I I) I I ?_|refine qv I (iu I I) I I ?_|refine qv I (aW I I (qT J)) I I ?_|refine qv I (aW I I (qF J)) I I ?_|refine qv I (bB I I (qT J)) I I ?_|refine qv I (bB I I (qF J)) I I ?_|refine qv I (aX I I (qT J)) I I ?_|refine qv I (aX I I (qF J)) I I ?_|refine qv I (bm I I (qT J)) I I ?_|refine qv I (bm I I (qF J)) I I ?_|refine qv I (bL I I J J I) I I ?_)
   exact cJ (i+1,a,u,out,v) ⟨by show i+1<=s.length;omega,by show u.length<=64;omega,by show a+u.length<=1099511627840+(i+1);omega,j4,k4⟩ (by show s.length-(i+1)<s.length-i;omega)
  | true=>
   rw[if_pos I]at j5
   by_cases c2:t=0
   ·rw[if_pos c2]at j5
    have j5:(out++[],a,u,(9:Int))=(ig++D.1,D.2):=j5;rw[eB]at j5;have k4:=(hstep out a u 9 j5).1 ahk;clear hstep j5 JS;subst k4 c2
    repeat(first|refine qv I (qp I) I I ?_|refine cz ?_|refine bC ?_|refine aM ?_|refine qn I ?_|refine qo I ?_|refine c_ ?_|refine eQ ?_|refine dx ?_|refine dm ?_|refine cB ?_|refine eb ?_|refine bU ?_|refine cO ?_|refine cP ?_|refine dK ?_|refine dL I ?_|refine qv I (aX (b:=aD) I I (decide_eq_true I)) I I ?_|refine qv I (aB (v:=av az (a:Int)) aL.ty I (aH (i:=1) I I)) I I ?_|refine qv I (bP I (hbE _ _)) I I ?_|refine qv I (dD bR.eq I) I I ?_|refine qv I (iQ cI.iC I I) I I ?_|refine qv I (iu I I) I I ?_|refine qv I (aW I I (qT J)) I I ?_|refine qv I (aW I I (qF J)) I I ?_|refine qv I (bB I I (qT J)) I I ?_|refine qv I (bB I I (qF J)) I I ?_|refine qv I (aX I I (qT J)) I I ?_|refine qv I (aX I I (qF J)) I I ?_|refine qv I (bm I I (qT J)) I I ?_|refine qv I (bm I I (qF J)) I I ?_|refine qv I (bL I I J J I) I I ?_)
    refine il 2 (cs':=(iq (a:Int) [] 9).toArray) ?_;refine zL ?_
    repeat(first|refine qv I (qp I) I I ?_|refine cz ?_|refine bC ?_|refine aM ?_|refine qn I ?_|refine qo I ?_|refine c_ ?_|refine eQ ?_|refine dx ?_|refine dm ?_|refine cB ?_|refine eb ?_|refine bU ?_|refine cO ?_|refine cP ?_|refine dK ?_|refine dL I ?_|refine qv I (dD bR.eq I) I I ?_|refine qv I (iQ cI.iC I I) I I ?_|refine qv I (iu I I) I I ?_|refine qv I (aW I I (qT J)) I I ?_|refine qv I (aW I I (qF J)) I I ?_|refine qv I (bB I I (qT J)) I I ?_|refine qv I (bB I I (qF J)) I I ?_|refine qv I (aX I I (qT J)) I I ?_|refine qv I (aX I I (qF J)) I I ?_|refine qv I (bm I I (qT J)) I I ?_|refine qv I (bm I I (qF J)) I I ?_|refine qv I (bL I I J J I) I I ?_)
    exact fN (i:=2) I I I I I I λw hm=>hm.meets (S:=Hp (out,a,[],9)) v trivial [3] ahk I
   rw[if_neg c2]at j5;have ht:=hto.resolve_left c2;have hct:=hcut a u r t;have X_:(u.drop t).length=u.length-t:=iv ..;clear JS Bd hcut
   repeat(first|refine qv I (qp I) I I ?_|refine cz ?_|refine bC ?_|refine aM ?_|refine qn I ?_|refine qo I ?_|refine c_ ?_|refine eQ ?_|refine dx ?_|refine dm ?_|refine cB ?_|refine eb ?_|refine bU ?_|refine cO ?_|refine cP ?_|refine dK ?_|refine dL I ?_|refine qv I (aX (b:=aE) I I (decide_eq_false J)) I I ?_|refine qv I (dD bR.eq I) I I ?_|refine qv I (iQ cI.iC I I) I I ?_|refine qv I (iu I I) I I ?_|refine qv I (aW I I (qT J)) I I ?_|refine qv I (aW I I (qF J)) I I ?_|refine qv I (bB I I (qT J)) I I ?_|refine qv I (bB I I (qF J)) I I ?_|refine qv I (aX I I (qT J)) I I ?_|refine qv I (aX I I (qF J)) I I ?_|refine qv I (bm I I (qT J)) I I ?_|refine qv I (bm I I (qF J)) I I ?_|refine qv I (bL I I J J I) I I ?_)
   refine bz I λg15=>?_;refine zL ?_
   repeat(first|refine qv I (qp I) I I ?_|refine cz ?_|refine bC ?_|refine aM ?_|refine qn I ?_|refine qo I ?_|refine c_ ?_|refine eQ ?_|refine dx ?_|refine dm ?_|refine cB ?_|refine eb ?_|refine bU ?_|refine cO ?_|refine cP ?_|refine dK ?_|refine dL I ?_|refine qv I (aQ (i:=1) aL.ty I I I) I I ?_|refine qv I (dD bR.eq I) I I ?_|refine qv I (iQ cI.iC I I) I I ?_|refine qv I (iu I I) I I ?_|refine qv I (aW I I (qT J)) I I ?_|refine qv I (aW I I (qF J)) I I ?_|refine qv I (bB I I (qT J)) I I ?_|refine qv I (bB I I (qF J)) I I ?_|refine qv I (aX I I (qT J)) I I ?_|refine qv I (aX I I (qF J)) I I ?_|refine qv I (bm I I (qT J)) I I ?_|refine qv I (bm I I (qF J)) I I ?_|refine qv I (bL I I J J I) I I ?_)
   refine a8 (tH aJ.en I I I I) (λw hm=>hct w J ht.2 J) I I I ?_;intro _ _;refine zL ?_
   repeat(first|refine qv I (qp I) I I ?_|refine cz ?_|refine bC ?_|refine aM ?_|refine qn I ?_|refine qo I ?_|refine c_ ?_|refine eQ ?_|refine dx ?_|refine dm ?_|refine cB ?_|refine eb ?_|refine bU ?_|refine cO ?_|refine cP ?_|refine dK ?_|refine dL I ?_|refine qv I (dD bR.eq I) I I ?_|refine qv I (iQ cI.iC I I) I I ?_|refine qv I (iu I I) I I ?_|refine qv I (aW I I (qT J)) I I ?_|refine qv I (aW I I (qF J)) I I ?_|refine qv I (bB I I (qT J)) I I ?_|refine qv I (bB I I (qF J)) I I ?_|refine qv I (aX I I (qT J)) I I ?_|refine qv I (aX I I (qF J)) I I ?_|refine qv I (bm I I (qT J)) I I ?_|refine qv I (bm I I (qF J)) I I ?_|refine qv I (bL I I J J I) I I ?_)
   refine il 1 (cs':=(iq ((a+t:Nat):Int) (u.drop t) 0).toArray) ?_;refine zL ?_
   repeat(first|refine qv I (qp I) I I ?_|refine cz ?_|refine bC ?_|refine aM ?_|refine qn I ?_|refine qo I ?_|refine c_ ?_|refine eQ ?_|refine dx ?_|refine dm ?_|refine cB ?_|refine eb ?_|refine bU ?_|refine cO ?_|refine cP ?_|refine dK ?_|refine dL I ?_|refine qv I (dD bR.eq I) I I ?_|refine qv I (iQ cI.iC I I) I I ?_|refine qv I (iu I I) I I ?_|refine qv I (aW I I (qT J)) I I ?_|refine qv I (aW I I (qF J)) I I ?_|refine qv I (bB I I (qT J)) I I ?_|refine qv I (bB I I (qF J)) I I ?_|refine qv I (aX I I (qT J)) I I ?_|refine qv I (aX I I (qF J)) I I ?_|refine qv I (bm I I (qT J)) I I ?_|refine qv I (bm I I (qF J)) I I ?_|refine qv I (bL I I J J I) I I ?_)
   refine il 4 (cs':=(s_ (r,a,a+t)).toArray) ?_;refine zL ?_
   repeat(first|refine qv I (qp I) I I ?_|refine cz ?_|refine bC ?_|refine aM ?_|refine qn I ?_|refine qo I ?_|refine c_ ?_|refine eQ ?_|refine dx ?_|refine dm ?_|refine cB ?_|refine eb ?_|refine bU ?_|refine cO ?_|refine cP ?_|refine dK ?_|refine dL I ?_|refine qv I (aQ (i:=4) aL.ty I I I) I I ?_|refine qv I (dD bR.eq I) I I ?_|refine qv I (iQ cI.iC I I) I I ?_|refine qv I (iu I I) I I ?_|refine qv I (aW I I (qT J)) I I ?_|refine qv I (aW I I (qF J)) I I ?_|refine qv I (bB I I (qT J)) I I ?_|refine qv I (bB I I (qF J)) I I ?_|refine qv I (aX I I (qT J)) I I ?_|refine qv I (aX I I (qF J)) I I ?_|refine qv I (bm I I (qT J)) I I ?_|refine qv I (bm I I (qF J)) I I ?_|refine qv I (bL I I J J I) I I ?_)
   refine jH (i:=3) I I I I I I I (λz h=>by cases h;rfl) J J I λz v2=>?_;refine zL ?_
   repeat(first|refine qv I (qp I) I I ?_|refine cz ?_|refine bC ?_|refine aM ?_|refine qn I ?_|refine qo I ?_|refine c_ ?_|refine eQ ?_|refine dx ?_|refine dm ?_|refine cB ?_|refine eb ?_|refine bU ?_|refine cO ?_|refine cP ?_|refine dK ?_|refine dL I ?_|refine qv I (dD bR.eq I) I I ?_|refine qv I (iQ cI.iC I I) I I ?_|refine qv I (iu I I) I I ?_|refine qv I (aW I I (qT J)) I I ?_|refine qv I (aW I I (qF J)) I I ?_|refine qv I (bB I I (qT J)) I I ?_|refine qv I (bB I I (qF J)) I I ?_|refine qv I (aX I I (qT J)) I I ?_|refine qv I (aX I I (qF J)) I I ?_|refine qv I (bm I I (qT J)) I I ?_|refine qv I (bm I I (qF J)) I I ?_|refine qv I (bL I I J J I) I I ?_)
   refine dS [0,1,2,3] ?_;exact cJ (f,a+t,u.drop t,out++[(r,a,a+t)],v2) ⟨by show(u.drop t).length<f;omega,by show(u.drop t).length<=65;omega,by show a+t+(u.drop t).length<=1099511627840+i+1;omega,by show(out++[(r,a,a+t)]).length<=a+t;rw[bT];simp;omega,by rw[eZ];exact j5⟩ (by show f<f+1;omega) (hl:=by dsimp only;rw[Hl];rfl)
 ·rw[pO J]at i5
  have i5:(ig++[],a1,u1,0)=fin:=i5;rw[eB]at i5;subst i5
  repeat(first|refine qv I (qp I) I I ?_|refine cz ?_|refine bC ?_|refine aM ?_|refine qn I ?_|refine qo I ?_|refine c_ ?_|refine eQ ?_|refine dx ?_|refine dm ?_|refine cB ?_|refine eb ?_|refine bU ?_|refine cO ?_|refine cP ?_|refine dK ?_|refine dL I ?_|refine qv I (aQ (i:=1) aL.ty I I I) I I ?_|refine qv I (dD bR.eq I) I I ?_|refine qv I (iQ cI.iC I I) I I ?_|refine qv I (iu I I) I I ?_|refine qv I (aW I I (qT J)) I I ?_|refine qv I (aW I I (qF J)) I I ?_|refine qv I (bB I I (qT J)) I I ?_|refine qv I (bB I I (qF J)) I I ?_|refine qv I (aX I I (qT J)) I I ?_|refine qv I (aX I I (qF J)) I I ?_|refine qv I (bm I I (qT J)) I I ?_|refine qv I (bm I I (qF J)) I I ?_|refine qv I (bL I I J J I) I I ?_)
  refine il 2 (cs':=(iq (a1:Int) u1 0).toArray) ?_;refine zL ?_
  repeat(first|refine qv I (qp I) I I ?_|refine cz ?_|refine bC ?_|refine aM ?_|refine qn I ?_|refine qo I ?_|refine c_ ?_|refine eQ ?_|refine dx ?_|refine dm ?_|refine cB ?_|refine eb ?_|refine bU ?_|refine cO ?_|refine cP ?_|refine dK ?_|refine dL I ?_|refine qv I (dD bR.eq I) I I ?_|refine qv I (iQ cI.iC I I) I I ?_|refine qv I (iu I I) I I ?_|refine qv I (aW I I (qT J)) I I ?_|refine qv I (aW I I (qF J)) I I ?_|refine qv I (bB I I (qT J)) I I ?_|refine qv I (bB I I (qF J)) I I ?_|refine qv I (aX I I (qT J)) I I ?_|refine qv I (aX I I (qF J)) I I ?_|refine qv I (bm I I (qT J)) I I ?_|refine qv I (bm I I (qF J)) I I ?_|refine qv I (bL I I J J I) I I ?_)
  exact fN (i:=2) I I I I I I λw hm=>hm.meets (S:=Hp (ig,a1,u1,0)) v1 trivial [3] ahk I
end cZ
namespace cZ
open Go.RowKit dr eH aV ey fJ iT kF bV mW iy
open iU (Ev sa takeN)
def jq(b:Bool)(s:gX)(vp vq:Value):List Value:=
 if b then [vp,av az s.seen,av az s.rm,.bool s.rZ,vq,av az 0,av az 0,.bool aE]else [vq,av az 0,av az 0,.bool aE,vp,av az s.seen,av az s.rm,.bool s.rZ]
theorem PF(b:Bool)(s:gX)(vp vq:Value):∃a c d e f h i j,jq b s vp vq=[a,c,d,e,f,h,i,j]:=by
 cases b<;>exact⟨_,_,_,_,_,_,_,_,rfl⟩
def rf(s:gX)(vt:Value)(pc:List Value)(vw:Value):List Value:=
 [av az s.kq,av az s.mh,av az s.eP,str s.kG,.bool s.ended,.bool s.mv,av az s.d_,str s.jc,av az s.lp,av az s.bad,vt]++(pc++[vw,av az s.cr,av az s.gone,.bool s.over,av az s.gd,av az s.pl])
abbrev qm(g:Nat)(vo:Value)(pk md:List Value)(s:gX)(vt:Value)(pc:List Value)(vw:Value):cU:=aR g (jx vo pk (md++rf s vt pc vw)).toArray 168
theorem fE{vo:Value}{pk tl:List Value}{j k:Nat}{v:Value}(hp:pk.length=258)(hk:k=j+259)(h:tl[j]?=aj v):(jx vo pk tl).toArray[k]?=aj v:=jA j hp h hk
theorem pZ{w:World}{L:List cU}{g k:Nat}{cs:Array Value}{T:TypeId}{v:Value}(h:(aR g cs T).holds w)(hv:cs[k]?=aj v):At w L ⟨g,k,ak⟩ v:=kw (by rw[cell_of_row w g k cs T (0,0) h];exact hv)
def n9(B:b9)(φ:World->Prop):Prop:=∀(L:List cU) (w:World),Mem B L w->φ w
theorem n9.on{B:b9}{φ:World->Prop}(h:n9 B φ){Lx:List cU}{w:World}(hm:Mem B Lx w):n9 (b9.on w Lx) φ:=λL' w' h'=>h ([]++L') w' (Mem.back (R:=[]) (by rw[eB];exact hm) h')
theorem w9{α:Type}{l:List α}(h:l.length=7):∃a b c d e f g,l=[a,b,c,d,e,f,g]:=by
 match l,h with
 |[a,b,c,d,e,f,g],_=>exact⟨a,b,c,d,e,f,g,rfl⟩
theorem w_{α:Type}{l:List α}(h:l.length=8):∃a b c d e f g i,l=[a,b,c,d,e,f,g,i]:=by
 match l,h with
 |[a,b,c,d,e,f,g,i],_=>exact⟨a,b,c,d,e,f,g,i,rfl⟩
section
variable{g:Nat}{vo:Value}{pk md:List Value}{vt vw:Value}{pc:List Value}(eA:pk.length=258)(oX:md.length=7)(wQ:pc.length=8)
include eA oX wQ
set_option maxRecDepth 100000 in
theorem oO(s:gX)(e:Int)(pl:Nat)(w:World)(B:b9)(hm:Mem B [qm g vo pk md s vt pc vw] w):
 Calls aC 103 #[aK (aj ⟨g,0,ak⟩),av az e,av az (pl:Int)] w (dF ⟨λ(_:Unit)=>True,λ_=> .tuple #[],λ_=>[qm g vo pk md (lg s e pl) vt pc vw]⟩ B):=by
 obtain⟨m0,m1,m2,m3,m4,m5,m6,rfl⟩:=w9 oX;obtain⟨p0,p1,p2,p3,p4,p5,p6,p7,rfl⟩:=w_ wQ;refine dZ hm (args:=[aK (aj ⟨g,0,ak⟩),av az e,av az (pl:Int)]) (n:=17) Tryz.func103 I I I ?_
 try refine GA ?_
 refine eI (i:=0) 29 I I I I I I eA I ?_
 try refine GA ?_
 refine eI (i:=0) 30 I I I I I I eA I ?_
 try refine GA ?_
 refine eI (i:=0) 31 I I I I I I eA I ?_
 try refine GA ?_
 exact lF I λw hm=>hm.cX (S:=⟨λ(_:Unit)=>True,λ_=> .tuple #[],λ_=>[qm g vo pk [m0,m1,m2,m3,m4,m5,m6] (lg s e pl) vt [p0,p1,p2,p3,p4,p5,p6,p7] vw]⟩) () trivial [0] ahk I
set_option maxRecDepth 100000 in
theorem EU(s:gX)(e:Int)(pl:Nat)(w:World)(B:b9)(hm:Mem B [qm g vo pk md s vt pc vw] w):
 Calls aC 68 #[aK (aj ⟨g,0,ak⟩),av az e,av az (pl:Int)] w (dF ⟨λ(_:Unit)=>True,λ_=> .tuple #[],λ_=>[qm g vo pk md (wB s e pl) vt pc (ap ak 0 0),lu (ap ak 0 0) []]⟩ B):=by
 have hst:=λw' B hm=>oO (g:=g) (vo:=vo) (vt:=vt) (vw:=vw) eA oX wQ s e pl w' B hm;obtain⟨m0,m1,m2,m3,m4,m5,m6,rfl⟩:=w9 oX;obtain⟨p0,p1,p2,p3,p4,p5,p6,p7,rfl⟩:=w_ wQ;refine dZ hm (args:=[aK (aj ⟨g,0,ak⟩),av az e,av az (pl:Int)]) (n:=14) Tryz.func68 I I I ?_
 try refine GA ?_
 refine bK [0] [] ahk I I (tH aJ.en I I I I) (λw hm hb=>hst w _ hb) I I I ?_;intro _ _;refine zL ?_
 try refine GA ?_
 refine eI (i:=0) 26 I I I I I I eA I ?_
 try refine GA ?_
 refine ef 55 2 ?_;exact lF I λw hm=>hm.cX (S:=⟨λ(_:Unit)=>True,λ_=> .tuple #[],λ_=>[qm g vo pk [m0,m1,m2,m3,m4,m5,m6] (wB s e pl) vt [p0,p1,p2,p3,p4,p5,p6,p7] (ap ak 0 0),lu (ap ak 0 0) []]⟩) () trivial [0,1] ahk I
set_option maxRecDepth 100000 in
theorem Mg(s:gX)(hs:s.eP<=9223372036854775807)(hi:s.kG.length<=s.eP)(w:World)(h:(qm g vo pk md s vt pc vw).holds w):
 Calls aC 71 #[aK (aj ⟨g,0,ak⟩)] w (cY (ret (av az (afC s:Int))) w):=by
 obtain⟨m0,m1,m2,m3,m4,m5,m6,rfl⟩:=w9 oX;obtain⟨p0,p1,p2,p3,p4,p5,p6,p7,rfl⟩:=w_ wQ;unfold afC;refine enter (args:=[aK (aj ⟨g,0,ak⟩)]) (n:=13) Tryz.func71 I I I ?_
 try refine GA ?_
 refine eo ([]) (.calm 0 (.calm 1 (.calm 2 (.calm 3 (.calm 4 (.calm 5 (.calm 6 (.calm 7 (.calm 8 (.calm 9 (.calm 10 (.done)))))))))))) (wh) ?_
 repeat(first|refine GW ?_|(refine GN ?_;first|refine QW (aB aL.ty I (pZ h (fE eA I I))) ?_))
 try refine GA ?_
 exact ea I I (congrArg (av .i64) (Int.ofNat_sub hi).symm)
end
end cZ
namespace cZ
open Go.RowKit dr eH aV ey fJ iT kF bV mW iy
open iU (Ev sa takeN)
abbrev wR(g:Nat)(vo:Value)(pk md:List Value)(s:gX)(vt:Value)(pc:List Value)(vw:Value):List cU:=[qm g vo pk md s vt pc vw,lu vw s.wait]
def BY(g:Nat)(vo:Value)(pk md:List Value)(R:gX×Int)(vt:Value)(pc:List Value):Spec Value:=⟨λ_=>True,λ_=>av az R.2,λvw=>wR g vo pk md R.1 vt pc vw⟩
section
variable{g:Nat}{vo:Value}{pk md:List Value}{vt vw:Value}{pc:List Value}(eA:pk.length=258)(oX:md.length=7)(wQ:pc.length=8)
include eA oX wQ
set_option maxRecDepth 100000 in
theorem Js(s:gX)(x:List UInt8)(hx:x.length<=9223372036854775807)(hb:0<=s.kq)(MJ:s.kq+s.eP<=4096)(hi:s.kG.length<=s.eP)(w:World)(B:b9)(hm:Mem B (wR g vo pk md s vt pc vw) w):
 Calls aC 27 #[aK (aj ⟨g,0,ak⟩),str x] w (dF (BY g vo pk md (w7 s x) vt pc) B):=by
 have hbr:=λ(s:gX) e pl w' B hm=>EU (g:=g) (vo:=vo) (vt:=vt) (vw:=vw) eA oX wQ s e pl w' B hm;have hhd:=λ(s:gX) h1 h2 w' h=>Mg (g:=g) (vo:=vo) (vt:=vt) (vw:=vw) eA oX wQ s h1 h2 w' h;obtain⟨m0,m1,m2,m3,m4,m5,m6,rfl⟩:=w9 oX;obtain⟨p0,p1,p2,p3,p4,p5,p6,p7,rfl⟩:=w_ wQ;obtain⟨kq,mh,eP,kG,ended,mv,d_,jc,lp,bad,eN,p,seen,rm,rZ,wait,cr,gone,over,gd,pl⟩:=s
 try dsimp only at*
 dsimp only[wR,qm,rf,ku,fg]at hm;unfold w7;dsimp only
 cases over with
 |true=>
  rw[if_pos (.inl I)];refine dZ hm (args:=[aK (aj ⟨g,0,ak⟩),str x]) (n:=60) Tryz.func27 I I I ?_
  repeat(first|refine GA ?_|refine gV (aB aL.ty I (aH (i:=0) I (fE eA I I))) ?_)
  exact da I I λw hm=>hm.cX (S:=BY g vo pk [m0,m1,m2,m3,m4,m5,m6] (⟨kq,mh,eP,kG,ended,mv,d_,jc,lp,bad,eN,p,seen,rm,rZ,wait,cr,gone,aD,gd,pl⟩,15) vt [p0,p1,p2,p3,p4,p5,p6,p7]) vw trivial [0,1] ahk I
 |false=>
 cases ended with
 |true=>
  rw[if_pos (.inr I)];refine dZ hm (args:=[aK (aj ⟨g,0,ak⟩),str x]) (n:=60) Tryz.func27 I I I ?_
  repeat(first|refine GA ?_|refine gV (aB aL.ty I (aH (i:=0) I (fE eA I I))) ?_)
  exact da I I λw hm=>hm.cX (S:=BY g vo pk [m0,m1,m2,m3,m4,m5,m6] (⟨kq,mh,eP,kG,aD,mv,d_,jc,lp,bad,eN,p,seen,rm,rZ,wait,cr,gone,aE,gd,pl⟩,15) vt [p0,p1,p2,p3,p4,p5,p6,p7]) vw trivial [0,1] ahk I
 |false=>
 rw[if_neg ahk]
 by_cases c4:1024<x.length
 ·rw[if_pos c4]
  refine dZ hm (args:=[aK (aj ⟨g,0,ak⟩),str x]) (n:=60) Tryz.func27 I I I ?_
  repeat(first|refine GA ?_|refine gV (aB aL.ty I (aH (i:=0) I (fE eA I I))) ?_)
  exact da I I λw hm=>hm.cX (S:=BY g vo pk [m0,m1,m2,m3,m4,m5,m6] (⟨kq,mh,eP,kG,aE,mv,d_,jc,lp,bad,eN,p,seen,rm,rZ,wait,cr,gone,aE,gd,pl⟩,2) vt [p0,p1,p2,p3,p4,p5,p6,p7]) vw trivial [0,1] ahk I
 rw[if_neg c4]
 by_cases c5:kq<x.length
 ·rw[if_pos c5]
  refine dZ hm (args:=[aK (aj ⟨g,0,ak⟩),str x]) (n:=60) Tryz.func27 I I I ?_
  repeat(first|refine GA ?_|refine gV (aB aL.ty I (aH (i:=0) I (fE eA I I))) ?_)
  refine bK [0] [1] ahk I I (tH aJ.en I I I I) (λw hm hb=>hbr ⟨kq,mh,eP,kG,aE,mv,d_,jc,lp,bad,eN,p,seen,rm,rZ,wait,cr,gone,aE,gd,pl⟩ _ _ w _ hb) I I I ?_;intro _ _;refine zL ?_
  try refine GA ?_
  exact da I I λw hm=>hm.cX (S:=BY g vo pk [m0,m1,m2,m3,m4,m5,m6] (wB ⟨kq,mh,eP,kG,aE,mv,d_,jc,lp,bad,eN,p,seen,rm,rZ,wait,cr,gone,aE,gd,pl⟩ 16 eP,16) vt [p0,p1,p2,p3,p4,p5,p6,p7]) (ap ak 0 0) trivial [1,2] ahk I
 rw[if_neg c5];refine dZ hm (args:=[aK (aj ⟨g,0,ak⟩),str x]) (n:=60) Tryz.func27 I I I ?_
 repeat(first|refine GA ?_|refine gV (aB aL.ty I (aH (i:=0) I (fE eA I I))) ?_)
 refine eI (i:=0) 7 I I I I I I eA I ?_;refine zL ?_
 repeat(first|refine GA ?_|refine gV (aB aL.ty I (aH (i:=0) I (fE eA I I))) ?_)
 refine eI (i:=0) 9 I I I I I I eA I ?_;refine zL ?_
 repeat(first|refine GA ?_|refine gV (aB aL.ty I (aH (i:=0) I (fE eA I I))) ?_|refine gV (FY I I J) ?_)
 refine eI (i:=0) 10 I I I I I I eA I ?_
 try refine GA ?_
 exact da I I λw hm=>hm.cX (S:=BY g vo pk [m0,m1,m2,m3,m4,m5,m6] (⟨kq-x.length,mh,eP+x.length,kG++x,aE,mv,d_,jc,lp,bad,eN,p,seen,rm,rZ,wait,cr,gone,aE,gd,pl⟩,0) vt [p0,p1,p2,p3,p4,p5,p6,p7]) vw trivial [0,1] ahk I
set_option maxRecDepth 100000 in
theorem Mh(s:gX)(w:World)(B:b9)(hm:Mem B (wR g vo pk md s vt pc vw) w):
 Calls aC 28 #[aK (aj ⟨g,0,ak⟩)] w (dF (BY g vo pk md (rb s) vt pc) B):=by
 obtain⟨m0,m1,m2,m3,m4,m5,m6,rfl⟩:=w9 oX;obtain⟨p0,p1,p2,p3,p4,p5,p6,p7,rfl⟩:=w_ wQ;obtain⟨kq,mh,eP,kG,ended,mv,d_,jc,lp,bad,eN,p,seen,rm,rZ,wait,cr,gone,over,gd,pl⟩:=s
 try dsimp only at*
 dsimp only[wR,qm,rf,ku,fg]at hm;unfold rb;dsimp only
 cases over with
 |true=>
  rw[if_pos (.inl I)];refine dZ hm (args:=[aK (aj ⟨g,0,ak⟩)]) (n:=16) Tryz.func28 I I I ?_
  repeat(first|refine GA ?_|refine gV (aB aL.ty I (aH (i:=0) I (fE eA I I))) ?_)
  exact da I I λw hm=>hm.cX (S:=BY g vo pk [m0,m1,m2,m3,m4,m5,m6] (⟨kq,mh,eP,kG,ended,mv,d_,jc,lp,bad,eN,p,seen,rm,rZ,wait,cr,gone,aD,gd,pl⟩,15) vt [p0,p1,p2,p3,p4,p5,p6,p7]) vw trivial [0,1] ahk I
 |false=>
 cases ended with
 |true=>
  rw[if_pos (.inr I)];refine dZ hm (args:=[aK (aj ⟨g,0,ak⟩)]) (n:=16) Tryz.func28 I I I ?_
  repeat(first|refine GA ?_|refine gV (aB aL.ty I (aH (i:=0) I (fE eA I I))) ?_)
  exact da I I λw hm=>hm.cX (S:=BY g vo pk [m0,m1,m2,m3,m4,m5,m6] (⟨kq,mh,eP,kG,aD,mv,d_,jc,lp,bad,eN,p,seen,rm,rZ,wait,cr,gone,aE,gd,pl⟩,15) vt [p0,p1,p2,p3,p4,p5,p6,p7]) vw trivial [0,1] ahk I
 |false=>
 rw[if_neg ahk];refine dZ hm (args:=[aK (aj ⟨g,0,ak⟩)]) (n:=16) Tryz.func28 I I I ?_
 repeat(first|refine GA ?_|refine gV (aB aL.ty I (aH (i:=0) I (fE eA I I))) ?_)
 refine eI (i:=0) 11 I I I I I I eA I ?_
 try refine GA ?_
 exact da I I λw hm=>hm.cX (S:=BY g vo pk [m0,m1,m2,m3,m4,m5,m6] (⟨kq,mh,eP,kG,aD,mv,d_,jc,lp,bad,eN,p,seen,rm,rZ,wait,cr,gone,aE,gd,pl⟩,0) vt [p0,p1,p2,p3,p4,p5,p6,p7]) vw trivial [0,1] ahk I
set_option maxRecDepth 100000 in
theorem FE(s:gX)(hl:s.eN.length<=1000000)(hvt:∃a c,vt=ap a s.eN.length c)(hvw:∃a c,vw=ap a s.wait.length c)(hw:s.wait.length<=1000000)(w:World)(h:(qm g vo pk md s vt pc vw).holds w):
    Calls aC 32 #[aK (aj ⟨g,0,ak⟩)] w (cY (ret (.bool (lh s))) w):=by
  obtain⟨m0,m1,m2,m3,m4,m5,m6,rfl⟩:=w9 oX;obtain⟨p0,p1,p2,p3,p4,p5,p6,p7,rfl⟩:=w_ wQ;obtain⟨at',ct,rfl⟩:=hvt;obtain⟨aw,cw,rfl⟩:=hvw;obtain⟨kq,mh,eP,kG,ended,mv,d_,jc,lp,bad,eN,p,seen,rm,rZ,wait,cr,gone,over,gd,pl⟩:=s
  try dsimp only at*
  dsimp only[wR,qm,rf,ku,fg]at h
  cases over with
  | true=>
    refine enter (args:=[aK (aj ⟨g,0,ak⟩)]) (n:=45) Tryz.func32 I I I ?_
    repeat(first|refine GA ?_|refine gV (aB aL.ty I (pZ h (fE eA I I))) ?_)
    exact ea I I I
  |false=>
  by_cases c1:wait.length<200
  · by_cases c2:eN.length=0
    · obtain rfl:=si c2
      by_cases c3:bad=0
      · subst c3
        cases kG with
        | nil=>
          refine enter (args:=[aK (aj ⟨g,0,ak⟩)]) (n:=45) Tryz.func32 I I I ?_
          repeat(first|refine GC ?_|refine gV (aB aL.ty I (pZ h (fE eA I I))) ?_|refine gV (kV (b:=aE) I I I) ?_|refine GB ?_)
          exact ea I I (by simp[lh,c1])
        | cons c r=>
          refine enter (args:=[aK (aj ⟨g,0,ak⟩)]) (n:=45) Tryz.func32 I I I ?_
          repeat(first|refine GC ?_|refine gV (aB aL.ty I (pZ h (fE eA I I))) ?_|refine gV (kV (b:=aD) I I I) ?_|refine GB ?_)
          exact ea I I (by simp[lh,c1])
      refine enter (args:=[aK (aj ⟨g,0,ak⟩)]) (n:=45) Tryz.func32 I I I ?_
      repeat(first|refine GA ?_|refine gV (aB aL.ty I (pZ h (fE eA I I))) ?_)
      exact ea I I (by simp[lh,c1,c3])
    refine enter (args:=[aK (aj ⟨g,0,ak⟩)]) (n:=45) Tryz.func32 I I I ?_
    repeat(first|refine GA ?_|refine gV (aB aL.ty I (pZ h (fE eA I I))) ?_)
    exact ea I I (by simp[lh,c1,show eN≠[]from λh=>c2 (by rw[h];rfl)])
  · refine enter (args:=[aK (aj ⟨g,0,ak⟩)]) (n:=45) Tryz.func32 I I I ?_
    repeat(first|refine GA ?_|refine gV (aB aL.ty I (pZ h (fE eA I I))) ?_)
    exact ea I I (by simp[lh,c1])
set_option maxRecDepth 100000 in
theorem BZ(s:gX)(hvw:∃a c,vw=ap a s.wait.length c)(hw:s.wait.length<=1000000)(w:World)(h:(qm g vo pk md s vt pc vw).holds w):
 Calls aC 31 #[aK (aj ⟨g,0,ak⟩)] w (cY (ret (.tuple #[av az (zk s).1,av az ((zk s).2.1:Int),.bool (zk s).2.2])) w):=by
 obtain⟨m0,m1,m2,m3,m4,m5,m6,rfl⟩:=w9 oX;obtain⟨p0,p1,p2,p3,p4,p5,p6,p7,rfl⟩:=w_ wQ;obtain⟨aw,cw,rfl⟩:=hvw;obtain⟨kq,mh,eP,kG,ended,mv,d_,jc,lp,bad,eN,p,seen,rm,rZ,wait,cr,gone,over,gd,pl⟩:=s
 try dsimp only at*
 dsimp only[wR,qm,rf,ku,fg]at h;unfold zk;dsimp only
 cases over with
 |false=>
  rw[if_neg (by simp)];refine enter (args:=[aK (aj ⟨g,0,ak⟩)]) (n:=27) Tryz.func31 I I I ?_
  repeat(first|refine GA ?_|refine gV (aB aL.ty I (pZ h (fE eA I I))) ?_)
  exact HM I I I I I
 |true=>
 by_cases c1:wait.length=0
 ·obtain rfl:=si c1
  rw[if_pos ⟨rfl,rfl⟩];refine enter (args:=[aK (aj ⟨g,0,ak⟩)]) (n:=27) Tryz.func31 I I I ?_
  repeat(first|refine GA ?_|refine gV (aB aL.ty I (pZ h (fE eA I I))) ?_)
  refine eo ([]) (.calm 0 (.calm 1 (.calm 2 (.calm 3 (.calm 4 (.calm 5 (.calm 6 (.calm 7 (.calm 8 (.calm 9 (.calm 10 (.done)))))))))))) (wh) ?_
  repeat(first|refine GW ?_|(refine GN ?_;first|refine QW (aB aL.ty I (pZ h (fE eA I I))) ?_))
  try refine GA ?_
  exact HM I I I I I
 ·rw[if_neg λh=>c1 (by rw[h.2];rfl)]
  refine enter (args:=[aK (aj ⟨g,0,ak⟩)]) (n:=27) Tryz.func31 I I I ?_
  repeat(first|refine GA ?_|refine gV (aB aL.ty I (pZ h (fE eA I I))) ?_)
  exact HM I I I I I
end
end cZ
namespace cZ
open Go.RowKit dr eH dT iA iT aV
def zl(s:dV):Value:=aU (eX s).toArray
theorem wC(w:World):(zeroValue 148).run aC w= .ok (zl (0,0)) w:=by kernel_rfl
theorem PG(s:dV)(w:World):(Instr.field 148 (zl s) 1).run aC w= .ok (av az s.2) w:=by
 obtain⟨a,b⟩:=s
 kernel_rfl
theorem Mi{P:Program}{k:TypeId}{κ:Type}{K:xz P k κ}{W:b9}{fr:Fr}{L:List cU}{n:Nat}{dst:Option Tmp}{ty:TypeId}{pos:String}{after:Array Edge}{guard:Option (Nat×Bool)}{i g c:Nat}{t e:TypeId}{m:κ->Option Value}{x:κ}{z v:Value}{xm xk:Operand}(ht:P.underlying t=aj (.map k e))(hz:∀w,(zeroValue e).run P w= .ok z w)(hi:L[i]?=aj (fD K g m c))(hm:ev fr xm=aj (.map (aj g)))(hk:ev fr xk=aj (K.kv x))(hx:K.ok x)(hv:(m x).getD z=v):RR P n W ⟨dst,.lookup t xm xk aE,ty,pos,after,guard⟩ fr L v:=by
 subst hv;exact ZB K ht hz hi hm hk hx
def BB(m:Bs->Option Value)(M:L_):Prop:=∀y,m y=(M y).map zl
theorem TS:BB (λ_=>ak) (λ_=>ak):=λ_=>rfl
theorem Hq{m:Bs->Option Value}{M:L_}(h:BB m M){x:Bs}{s:dV}{v:Value}(hv:v=zl s):BB (λy=>if y=x then aj v else m y) (FB M x s):=λy=>by
 unfold FB;dsimp only;subst hv
 by_cases e:y=x
 rw[if_pos e,if_pos e];rfl;rw[if_neg e,if_neg e];exact h y
theorem Hr{m:Bs->Option Value}{M:L_}(h:BB m M)(x:Bs):(m x).getD (zl (0,0))=zl (qj M x):=by
 rw[h x];unfold qj
 cases M x<;>rfl
theorem PH{m:Bs->Option Value}{M:L_}(h:BB m M){x:Bs}(hx:M x=ak):m x=none:=by rw[h x,hx];rfl
theorem PI{m:Bs->Option Value}{M:L_}(h:BB m M){x:Bs}{s:dV}(hx:M x=aj s):m x=aj (zl s):=by rw[h x,hx];rfl
def EV(gp:Nat)(e:Int)(len:Nat)(of:List Int)(g:eL):Spec (Value×Value×(Nat->Prop)):=
 ⟨λx=>x.1.oneCell'=aD/\x.2.1.oneCell'=aD,λ_=>av az e,λx=>[aR gp (jx x.1 Uh (gU g.aT g.bM x.2.1 0 (ap ak 0 0) (ap ak 0 0) (ap ak 0 0))).toArray 38,bD 3 1 x.1 len (of.map (av .i64)),oq x.2.2 x.2.1 g.aF]⟩
def Jt(gp:Nat)(s:Sp):Spec (Value×Value×(Nat->Prop)):=EV gp (wP s) s.words.length (Jk s.words).1 (dz s)
theorem FF(vw vr:Value)(s:Sp)(gp:Nat)(w0:World)(hv:Ud (ri w0) w0 (aU #[vw,vr]) s)(hlw:s.words.length<=60)(MI:s.rules.length<=60)(Gx:∀r∈s.rules,r.2.length<=8796093021952)(w:World)(B:b9)(ho:p_ w0 B)(hm:Mem B [aR gp E9.toArray 38] w):
 Calls aC 76 #[aU #[vw,vr],aK (aj ⟨gp,0,ak⟩)] w (dF (Jt gp s) B):=by
 obtain⟨Ju,BP,hvv,hw,hr⟩:=hv;obtain⟨rfl,rfl⟩:vw=Ju/\vr=BP:=by simpa using hvv
 clear hvv;obtain⟨words,rules⟩:=s;dsimp only at*;obtain⟨bw,cw,rfl,-,-,PJ⟩:=hw;obtain⟨br,cr,rfl,-,-,YE⟩:=hr;refine dZ hm (args:=[aU #[ap bw words.length cw,ap br rules.length cr],aK (aj ⟨gp,0,ak⟩)]) (n:=153) Tryz.func76 I I I ?_;refine bC (aM (b_ I I I λg2=>?_));refine zL ?_
 try refine GA ?_
 refine xA iE I λgm=>?_;refine zL ?_
 repeat(first|refine GA ?_|refine gV (aB (v:=ap bw words.length cw) aL.ty I (aH (i:=1) I I)) ?_)
 refine jy 3 1 ?_;refine eK (ι:=Nat×List Int×Int×L_×Value×(Bs->Option Value)×Nat)
  (λ(k,of,t,M,vo,m,n)=>k<=words.length/\n<=k/\(words.take k).foldl jz Zg=(of,t,M)/\BB m M/\vo.oneCell'=aD)
  (λ(k,_,_,_,_,_,_)=>[(1,aK (aj ⟨gp,0,ak⟩)),(2,aK (aj ⟨g2,0,ak⟩)),(5,.map (aj gm)),(19,ap bw words.length cw),(20,av az words.length),(21,av az (k:Int))])
  (λ(k,of,t,_,vo,m,n)=>[aR gp (jx vo Uh (gU t 0 (ap ak 0 0) 0 (ap ak 0 0) (ap ak 0 0) (ap ak 0 0))).toArray 38,aR g2 #[ap bw words.length cw,ap br rules.length cr] 25,fD iE gm m n,bD 3 1 vo k (of.map (av .i64))])
  (λ(k,_,_,_,_,_,_)=>words.length-k) (0,[],0,λ_=>ak,ap ak 0 0,λ_=>ak,0) ⟨bO _,bJ _,rfl,TS,rfl⟩ ?_
 clear hm;rintro⟨k,of,t,M,vo,m,n⟩ ⟨i1,i2,i3,i4,i5⟩;dsimp only at i1 i2 i3 i4 i5⊢;have hws:=Yv words k i1 J;rw[i3]at hws;obtain⟨s1,s2,s3,s4⟩:=hws;dsimp only at s1 s2 s3 s4
 by_cases c1:k<words.length
 ·obtain⟨b,off,rfl,_,hr⟩:=PJ J
  obtain⟨bk,ck,q1,q2,q3⟩:=Q2 hr c1;have hst:=step_take jz Zg words c1;rw[i3]at hst;have d_:∀(L:List cU) (j:Nat) (u:Value),(Th words[k].1 words[k].2.kind words[k].2.uf (.slice bk words[k].2.kids.length ck))[j]?=aj u->At B L ⟨b,off+k*7+j,ak⟩ u:=λL j u hj=>iW ho (q1 j u hj);clear hr PJ YE q1 q2;generalize words[k]=wd at*;obtain⟨nm,r⟩:=wd;dsimp only at*;generalize r.kind=rk at*;generalize r.uf=rc at*;generalize r.kids.length=rn at*
  repeat(first|refine GA ?_|refine gV (a_ bR.eq aL.ty I I c1) ?_|refine gV (bH (cs:=Th nm rk rc (ap bk rn ck)) aL.ty I I (d_ _)) ?_)
  clear d_;refine bz I λg7=>?_;refine zL ?_;refine il 4 (cs':=(Th nm rk rc (ap bk rn ck)).toArray) ?_;refine zL ?_
  by_cases e0:nm=[]
  ·subst e0
   repeat(first|refine GC ?_|refine gV (aB (v:=str []) aL.ty I (aH (i:=4) I I)) ?_|refine gV (pf (b:=aD) I I I) ?_|refine gV (aB (v:=vo) aL.ty I (aH (i:=0) I I)) ?_|refine GB ?_)
   refine kh (i:=3) I I I I I I (λz h=>by cases h;rfl) J J I λz' v'=>?_;refine zL ?_
   try refine GA ?_
   refine aY (i:=3) I λoQ mL=>?_;refine ye (i:=0) I I I oQ mL I ?_;refine zL ?_
   try refine GA ?_
   refine dS [0,1,2,3] ?_;exact cJ (k+1,of++[-1],t,M,v',m,n) ⟨by omega,by show n<=k+1;omega,hst,i4,mL⟩ (by show words.length-(k+1)<words.length-k;omega) (hl:=by dsimp only;rw[ft];rfl)
  rw[show jz (of,t,M) (nm,r)=(of++[t],t+1,FB M nm (1,t))from if_neg e0]at hst
  repeat(first|refine GC ?_|refine gV (aB (v:=str nm) aL.ty I (aH (i:=4) I I)) ?_|refine gV (pf (b:=aE) I I (decide_eq_false e0)) ?_|refine GB ?_)
  (repeat refine bC ?_)
  refine eo ([aR gp (jx vo Uh (gU t 0 (ap ak 0 0) 0 (ap ak 0 0) (ap ak 0 0) (ap ak 0 0))).toArray 38,aR g7 (Th nm rk rc (ap bk rn ck)).toArray 122]) (.calm 0 (.calm 1 (.calm 2 (.calm 3 (.calm 4 (.calm 5 (.calm 6 (.calm 7 (.calm 8 (.one 9 (.done))))))))))) (cH [0,4]) ?_
  repeat(first|refine GW ?_|(refine GN ?_;first|refine QW (aB (v:=str nm) aL.ty I (aH (i:=1) I I)) ?_|refine QW (aB (v:=av az t) aL.ty I (aH (i:=0) I (jA 0 jp I I))) ?_|refine QW (bP I (Lt _ _)) ?_))
  refine aO I (ml (i:=2) (x:=nm) (v:=zl (1,t)) iE bR.eq I I I I q3 J (aP (cH [0,4]) ?_));refine zL ?_
  try refine GW ?_
  try refine GA ?_
  (repeat refine bC ?_)
  refine eo ([]) (.calm 0 (.calm 1 (.calm 2 (.calm 3 (.calm 5 (.calm 6 (.calm 7 (.calm 8 (.two 4 (.one 9 (.one 10 (.one 11 (.calm 12 (.calm 13 (.one 14 (.done))))))) 9 (.two 4 (.one 10 (.one 11 (.calm 12 (.calm 13 (.one 14 (.done)))))) 10 (.one 4 (.one 11 (.calm 12 (.calm 13 (.one 14 (.done)))))))))))))))) (cH []) ?_
  try refine GW ?_
  refine e9 I I ?a1 ?a2
  case' a2=>
   refine aI (aB (v:=av az t) aL.ty I (aH (i:=0) I (jA 0 jp I I))) I I I (aP (cH []) ?_);refine e9 I I ?a3 ?a4
  case' a4=>
   refine fX (cs:=#[av az t]) I I I I I λg56=>aP (cH []) ?_;refine aO I (aI (aB (v:=vo) aL.ty I (aH (i:=0) I I)) I I I (aP (cH []) ?_))
  case' a3=>
   refine aI (aB (v:=vo) aL.ty I (aH (i:=0) I I)) I I I (aP (cH []) ?_);refine aO I (fX (cs:=#[av az t]) I I I I I λg56=>aP (cH []) ?_)
  case' a1=>
   refine aI (aB (v:=vo) aL.ty I (aH (i:=0) I I)) I I I (aP (cH []) ?_);refine aO I (aI (aB (v:=av az t) aL.ty I (aH (i:=0) I (jA 0 jp I I))) I I I (aP (cH []) ?_));refine aO I (fX (cs:=#[av az t]) I I I I I λg56=>aP (cH []) ?_)
  all_goals
   refine zL ?_;refine aO I (lO (i:=3) (q:=5) I I I I I I J J I λv'=>aP (cH []) ?_);refine zL ?_
   try refine GW ?_
   refine aO I (aY (i:=3) I λoQ mL=>ye (i:=0) I I I oQ mL I (aP (cH []) ?_));refine zL ?_
   try refine GW ?_
   repeat(first|refine GA ?_|refine gV (aB (v:=av az t) aL.ty I (aH (i:=0) I (jA 0 jp I I))) ?_)
   refine eI 0 (i:=0) I I I I I I jp I ?_;refine zL ?_
   try refine GA ?_
   refine dS [0,1,2,3] ?_;exact jS (k+1,of++[t],t+1,FB M nm (1,t),v',_,_) ⟨by omega,by show(if(m nm).isSome then n else n+1)<=k+1;split<;>omega,hst,Hq i4 I,mL⟩ (by show words.length-(k+1)<words.length-k;omega) (by repeat' (first|exact dl|refine dh I ?_)) (by dsimp only;rw[ft];rfl)
 ·obtain rfl:k=words.length:=by omega
  rw[nE]at i3;have hW:Jk words=(of,t,M):=i3;clear PJ
  repeat(first|refine GA ?_|refine gV (aB (v:=ap br rules.length cr) aL.ty I (aH (i:=1) I I)) ?_)
  refine eK (ι:=Nat×Int×L_×(Bs->Option Value)×Nat)
   (λ(j,N,M2,m2,n2)=>j<=rules.length/\n2<=60+j/\(rules.take j).foldl tp (0,M)=(N,M2)/\BB m2 M2)
   (λ(j,_,_,_,_)=>[(1,aK (aj ⟨gp,0,ak⟩)),(2,aK (aj ⟨g2,0,ak⟩)),(5,.map (aj gm)),(71,ap br rules.length cr),(72,av az rules.length),(73,av az (j:Int))])
   (λ(_,N,_,m2,n2)=>[aR gp (jx vo Uh (gU t N (ap ak 0 0) 0 (ap ak 0 0) (ap ak 0 0) (ap ak 0 0))).toArray 38,aR g2 #[ap bw words.length cw,ap br rules.length cr] 25,fD iE gm m2 n2,bD 3 1 vo words.length (of.map (av .i64))])
   (λ(j,_,_,_,_)=>rules.length-j) (0,0,M,m,n) ⟨bO _,by omega,rfl,i4⟩ ?_
  clear i4;rintro⟨j,N,M2,m2,n2⟩ ⟨j1,j2,j3,j4⟩;dsimp only at j1 j2 j3 j4⊢;have hhs:=ab4 rules M s4 j j1 J;rw[j3]at hhs;obtain⟨u1,u2,u3⟩:=hhs;dsimp only at u1 u2 u3
  by_cases c2:j<rules.length
  ·obtain⟨b,off,rfl,_,fl⟩:=YE J
   obtain⟨bk,ck,q1,-,q3⟩:=Co fl c2;have hst:=step_take tp (0,M) rules c2;rw[j3]at hst;have d_:∀(L:List cU) (j':Nat) (u:Value),([str rules[j].1,.slice bk rules[j].2.length ck]:List Value)[j']?=aj u->At B L ⟨b,off+j*2+j',ak⟩ u:=λL j' u hj=>iW ho (q1 j' u hj);clear fl q1 YE;generalize rules[j]=r at*;obtain⟨nm,bd⟩:=r;dsimp only at*;generalize bd.length=bn at*
   repeat(first|refine GA ?_|refine gV (a_ bR.eq aL.ty I I c2) ?_|refine gV (bH (cs:=[str nm,ap bk bn ck]) aL.ty I I (d_ _)) ?_)
   clear d_;refine bz I λg9=>?_;refine zL ?_;refine il 4 (cs':=#[str nm,ap bk bn ck]) ?_;refine zL ?_
   cases hM:M2 nm with
   | some x=>
    rw[show tp (N,M2) (nm,bd)=(N,M2)from if_pos (by show(M2 nm).isSome=aD;rw[hM];rfl)]at hst
    repeat(first|refine GA ?_|refine gV (aB (v:=str nm) aL.ty I (aH (i:=4) I I)) ?_|refine gV (jW iE (x:=nm) bR.eq wC (i:=2) I I I q3 (PI j4 hM)) ?_)
    refine bz I λg10=>?_;refine zL ?_;refine il 5 (cs':=(eX x).toArray) ?_;refine zL ?_
    try refine GA ?_
    refine dS [0,1,2,3] ?_;exact cJ (j+1,N,M2,m2,n2) ⟨by omega,by show n2<=60+(j+1);omega,hst,j4⟩ (by show rules.length-(j+1)<rules.length-j;omega)
   | none=>
    rw[show tp (N,M2) (nm,bd)=(N+1,FB M2 nm (2,N))from if_neg (by show ¬(M2 nm).isSome=aD;rw[hM];decide)]at hst
    repeat(first|refine GA ?_|refine gV (aB (v:=str nm) aL.ty I (aH (i:=4) I I)) ?_|refine gV (jX iE (x:=nm) bR.eq wC (i:=2) I I I q3 (PH j4 hM)) ?_)
    refine bz I λg10=>?_;refine zL ?_;refine il 5 (cs':=(eX (0,0)).toArray) ?_;refine zL ?_
    try refine GA ?_
    (repeat refine bC ?_)
    refine eo ([aR gp (jx vo Uh (gU t N (ap ak 0 0) 0 (ap ak 0 0) (ap ak 0 0) (ap ak 0 0))).toArray 38,aR g9 #[str nm,ap bk bn ck] 124]) (.calm 0 (.calm 1 (.calm 2 (.calm 3 (.calm 4 (.calm 5 (.calm 6 (.calm 7 (.calm 8 (.one 9 (.done))))))))))) (cH [0,4]) ?_
    repeat(first|refine GW ?_|(refine GN ?_;first|refine QW (aB (v:=str nm) aL.ty I (aH (i:=1) I I)) ?_|refine QW (aB (v:=av az N) aL.ty I (aH (i:=0) I (jA 1 jp I I))) ?_|refine QW (bP I (Lt _ _)) ?_))
    refine aO I (ml (i:=2) (x:=nm) (v:=zl (2,N)) iE bR.eq I I I I q3 J (aP (cH [0,4]) ?_));refine zL ?_
    try refine GW ?_
    repeat(first|refine GA ?_|refine gV (aB (v:=av az N) aL.ty I (aH (i:=0) I (jA 1 jp I I))) ?_)
    refine eI 1 (i:=0) I I I I I I jp I ?_;refine zL ?_
    try refine GA ?_
    refine dS [0,1,2,3] ?_;exact jS (j+1,N+1,FB M2 nm (2,N),_,_) ⟨by omega,by show(if(m2 nm).isSome then n2 else n2+1)<=60+(j+1);split<;>omega,hst,Hq j4 I⟩ (by show rules.length-(j+1)<rules.length-j;omega) (by repeat' (first|exact dl|refine dh I ?_)) I
  obtain rfl:j=rules.length:=by omega
  rw[nE]at j3;have hH:hsN ⟨words,rules⟩=(N,M2):=by unfold hsN;rw[hW];exact j3
  repeat(first|refine GA ?_|refine gV (aB (v:=ap br rules.length cr) aL.ty I (aH (i:=1) I I)) ?_)
  refine jy 140 2 (mN (eO oB (λ_=>False) [] []) (λk hk=>hk.elim (λh=>by cases h) id) (λw=>jD) ?_);refine ue [0,2,3,4,5] ?_;refine eK (ι:=Nat×List aV.Prod×Value×List (List Value)×(Nat->Prop))
   (λ(j,ps,vp,gY,F)=>j<=rules.length/\ps=(rules.take j).map (zf M2)/\vp.oneCell'=aD)
   (λ(j,_,_,_,_)=>[(1,aK (aj ⟨gp,0,ak⟩)),(5,.map (aj gm)),(106,ap br rules.length cr),(107,av az rules.length),(108,av az (j:Int))])
   (λ(j,ps,vp,gY,F)=>[aR gp (jx vo Uh (gU t N vp 0 (ap ak 0 0) (ap ak 0 0) (ap ak 0 0))).toArray 38,fD iE gm m2 n2,bD 3 1 vo words.length (of.map (av .i64)),bD 140 2 vp ps.length gY.flatten,eO oB F gY ps])
   (λ(j,_,_,_,_)=>rules.length-j) (0,[],ap ak 0 0,[],λ_=>False) ⟨bO _,rfl,rfl⟩ ?_
  rintro⟨j,ps,vp,gY,F⟩ ⟨k1,k2,k3⟩;dsimp only at k1 k2 k3⊢
  by_cases c3:j<rules.length
  ·obtain⟨b,off,rfl,_,fl⟩:=YE J
   obtain⟨bk,ck,q1,q2,q3⟩:=Co fl c3;have hps:(rules.take (j+1)).map (zf M2)=ps++[zf M2 rules[j]]:=by rw[ia c3,ft,<-k2];rfl
   have Bi:ps.length=j:=by rw[k2,dX,List.length_take];omega
   have d_:∀(L:List cU) (j':Nat) (u:Value),([str rules[j].1,.slice bk rules[j].2.length ck]:List Value)[j']?=aj u->At B L ⟨b,off+j*2+j',ak⟩ u:=λL j' u hj=>iW ho (q1 j' u hj);have rj:=q2.flat ahk;have l7:=q2.okp;have hb6:=Gx _ (cV c3);clear fl q1 q2 YE;generalize rules[j]=r at*;obtain⟨nm,bd⟩:=r;dsimp only at*;obtain⟨b2,T_,lW,xt,U7,ED⟩:=rj
   cases lW
   unfold maxLen at U7;have hsm:=Hj u3 nm
   repeat(first|refine GA ?_|refine gV (a_ bR.eq aL.ty I I c3) ?_|refine gV (bH (cs:=[str nm,ap bk bd.length ck]) aL.ty I I (d_ _)) ?_)
   clear d_;refine bz I λg13=>?_;refine zL ?_;refine il 5 (cs':=#[str nm,ap bk bd.length ck]) ?_;refine zL ?_
   repeat(first|refine GA ?_|refine gV (aB (v:=str nm) aL.ty I (aH (i:=5) I I)) ?_|refine gV (Mi (K:=iE) (x:=nm) bR.eq wC (i:=1) I I I q3 (Hr j4 nm)) ?_|refine gV (QR I (PG _)) ?_|refine gV (bP I (OZ _)) ?_)
   refine bz I λg14=>?_;refine zL ?_;refine il 6 (cs':=#[av az (qj M2 nm).2,ap ak 0 0]) ?_;refine zL ?_
   repeat(first|refine GA ?_|refine gV (aB (v:=ap bk bd.length ck) aL.ty I (aH (i:=5) I I)) ?_)
   refine jy 148 2 ?_;refine ue [0,1,2,3,4,6,7] ?_;refine eK (ι:=Nat×Value) (λ(i,vb)=>i<=bd.length/\vb.oneCell'=aD)
    (λ(i,vb)=>[(1,aK (aj ⟨gp,0,ak⟩)),(5,.map (aj gm)),(14,aK (aj ⟨g14,0,ak⟩)),(106,ap (aj ⟨b,off,ak⟩) rules.length cr),(107,av az rules.length),(108,av az (j:Int)),(119,ap bk bd.length ck),(120,av az bd.length),(121,av az (i:Int))])
    (λ(i,vb)=>[aR gp (jx vo Uh (gU t N vp 0 (ap ak 0 0) (ap ak 0 0) (ap ak 0 0))).toArray 38,fD iE gm m2 n2,bD 3 1 vo words.length (of.map (av .i64)),bD 140 2 vp ps.length gY.flatten,eO oB F gY ps,aR g14 #[av az (qj M2 nm).2,vb] 140,bD 148 2 vb i (((bd.take i).map (qj M2)).flatMap eX)])
    (λ(i,_)=>bd.length-i) (0,ap ak 0 0) ⟨bO _,rfl⟩ ?_
   rintro⟨i,vb⟩ ⟨l1,l2⟩;dsimp only at l1 l2⊢
   by_cases c4:i<bd.length
   ·obtain⟨b3,aaW,rfl,Dg⟩:=ED J
    have d_:=λL=>uj (W:=B) (L:=L) Q1 (λj u hj=>iW ho (Dg j u hj)) c4 0 _ I;have hlen:=l7 bd[i] (cV c4);have rl:((bd.take (i+1)).map (qj M2)).flatMap eX=((bd.take i).map (qj M2)).flatMap eX++eX (qj M2 bd[i]):=by
     rw[ia c4,ft,fV];simp
    clear Dg ED;generalize bd[i]=x at*
    repeat(first|refine GA ?_|refine gV (a_ bR.eq aL.ty I I c4) ?_|refine gV (aB (v:=str x) aL.ty I (d_ _)) ?_|refine gV (aB (v:=vb) aL.ty I (aH (i:=5) I I)) ?_|refine gV (Mi (K:=iE) (x:=x) bR.eq wC (i:=1) I I I hlen (Hr j4 x)) ?_)
    refine jH (i:=6) (cs:=(eX (qj M2 x)).toArray) I I I I I I I (λz h=>by cases h;rfl) J J I λz vb'=>?_;refine zL ?_
    try refine GA ?_
    refine aY (i:=6) I λoQ mL=>?_;refine cD (i:=5) I I I oQ mL I ?_;refine zL ?_
    try refine GA ?_
    exact cJ (i+1,vb') ⟨by omega,mL⟩ (by show bd.length-(i+1)<bd.length-i;omega) (hl:=by dsimp only;rw[rl];rfl)
   obtain rfl:i=bd.length:=by omega
   rw[nE];clear ED;have Sw:(bd.map (qj M2)).length=bd.length:=dX ..;rw[<-Sw];have agE:zf M2 (nm,bd)=((qj M2 nm).2,bd.map (qj M2)):=rfl;have JU:∀x∈bd.map (qj M2),Wf x:=λx hx=>by
    obtain⟨y,-,rfl⟩:=e7.1 hx;have:=Hj u3 y;exact⟨gok ⟨this.1,by omega⟩,gok ⟨this.2.2.1,by omega⟩⟩
   generalize qj M2 nm=hd at*;generalize bd.map (qj M2)=body at*
   try refine GA ?_
   (repeat refine bC ?_)
   refine eo ([aR g14 #[av az hd.2,vb] 140]) (.calm 0 (.calm 1 (.calm 2 (.calm 3 (.calm 4 (.calm 6 (.two 5 (.one 7 (.one 8 (.calm 9 (.calm 10 (.calm 11 (.one 12 (.done))))))) 7 (.one 5 (.one 8 (.calm 9 (.calm 10 (.calm 11 (.one 12 (.done)))))))))))))) (cH [5]) ?_
   repeat(first|refine GW ?_|(refine GN ?_;first|refine QW (aQ (i:=0) aL.ty I I I) ?_))
   refine e9 I I ?b1 ?b2
   case' b1=>
    refine aI (aB (v:=vp) aL.ty I (aH (i:=0) I (jA 2 jp I I))) I I I (aP (cH [5]) ?_);refine aO I (fX (cs:=#[av az hd.2,vb]) I I I I I λg15=>aP (cH [5]) ?_)
   case' b2=>
    refine fX (cs:=#[av az hd.2,vb]) I I I I I λg15=>aP (cH [5]) ?_;refine aO I (aI (aB (v:=vp) aL.ty I (aH (i:=0) I (jA 2 jp I I))) I I I (aP (cH [5]) ?_))
   all_goals
    refine zL ?_;refine aO I (mK (i:=3) (q:=7) I I I I I (by simp only[dw,dA,l2];rfl) J J I λv'=>aP (cH [5]) ?_);refine zL ?_
    try refine GW ?_
    refine aO I (aY (i:=3) I λoQ mL=>eI 2 (i:=0) I I I oQ mL I jp I (aP (cH [5]) ?_));refine zL ?_
    try refine GW ?_
    refine wm (eO oB (λk=>F k\/vb.ownBlock=aj k) (gY++[[av az hd.2,vb]]) (ps++[(hd.2,body)])) 6 4 [0,1,2,3] ahk I I I (λk hk=>hk.elim (λh=>by cases h) λh=>h.elim (λh=> .inr (.inr h)) λh=> .inl (.inl h)) (λw hr he=>?_) ?_
    ·exact mM he (Ba (gok ⟨hsm.2.2.1,by omega⟩) JU hr) λk hk=>(bD 148 2 vb body.length (body.flatMap eX)).lt w hr k (.inl hk)
    try refine GA ?_
    exact cJ (j+1,ps++[(hd.2,body)],v',gY++[[av az hd.2,vb]],λk=>F k\/vb.ownBlock=aj k) ⟨by omega,by rw[hps,agE],mL⟩ (by show rules.length-(j+1)<rules.length-j;omega) (hl:=by rw[bT,AO];rfl)
  obtain rfl:j=rules.length:=by omega
  rw[nE]at k2;subst k2;have hG:dz ⟨words,rules⟩=⟨t,N,rules.map (zf M2)⟩:=by unfold dz;rw[hW,hH]
  have hE:wP ⟨words,rules⟩=if cL ⟨t,N,rules.map (zf M2)⟩≠0 then 2 else 0:=by unfold wP;rw[hG]
  have hS:∀e,wP ⟨words,rules⟩=e->Jt gp ⟨words,rules⟩=EV gp e words.length of ⟨t,N,rules.map (zf M2)⟩:=λe he=>by
   show EV gp (wP _) words.length (Jk words).1 (dz _)=_
   rw[hW,hG,he]
  clear hG;generalize rules.map (zf M2)=ps at*
  repeat(first|refine GA ?_|refine gV (bH (cs:=[av az t,av az N,vp]) aL.ty I I (λj v h=>aH (i:=0) I (s9 jp h))) ?_)
  refine pj (oq (Vy F vp) vp ps) 3 4 [0,2] ahk I I I (λk hk=>hk.elim (λh=>by cases h) λh=>h.elim (λh=> .inr (.inr h)) λh=> .inl (.inl h)) (λw hr he=>⟨⟨vp,rfl,xw hr he ahk⟩,xy hr he⟩) ?_;refine zL ?_;refine a8 (ju aJ.en I I) (λw hm=>jY _ ⟨t,N,ps⟩ w (ya (gok ⟨s2,by omega⟩) (gok ⟨u1,by omega⟩) (hm.get (i:=2) I))) I I I ?_;intro _ _;refine zL ?_;generalize cL ⟨t,N,ps⟩=e at*
  by_cases c:e≠0
  ·rw[if_pos c]at hE
   rw[hS _ hE]
   repeat(first|refine GC ?_|refine gV (bm (b:=aD) I I (decide_eq_true c)) ?_|refine GB ?_)
   exact da I I λw hm=>hm.cX (S:=EV gp 2 words.length of ⟨t,N,ps⟩) (vo,vp,Vy F vp) ⟨i5,k3⟩ [0,1,2] ahk I
  rw[if_neg c]at hE;rw[hS _ hE]
  repeat(first|refine GC ?_|refine gV (bm (b:=aE) I I (decide_eq_false c)) ?_|refine GB ?_)
  exact da I I λw hm=>hm.cX (S:=EV gp 0 words.length of ⟨t,N,ps⟩) (vo,vp,Vy F vp) ⟨i5,k3⟩ [0,1,2] ahk I
end cZ
namespace cZ
open Go.RowKit dr eH dT iA iT aV fq pT dq
def rh(s:Sp):List Rx:=s.words.map (·.2)
def Uj(s:Sp)(r:Int×List Row×List Int):Prop:=
  (∃k:Int,k≠0/\GO (rh s) (k,.zero)/\r=(k,[],[]))\/
  ∃ (es:List Re) (m:MS),rh s=es.map lQ/\(∀e∈es,Fit e 1 0)/\0<es.length/\es.length<=20/\oD 0 .zero es=(0,m)/\GO (rh s) (0,m)/\
    ((wP s≠0/\r=(wP s,[],[]))\/(wP s=0/\(s8 m).2.2≠0/\r=((s8 m).2.2,[],[]))\/
      (wP s=0/\(s8 m).2.2=0/\my (s8 m).1 (s8 m).2.1=0/\r=(0,y_ (s8 m).1 (s8 m).2.1,y' (s8 m).1 (s8 m).2.1)))
theorem adK(s:Sp):∃r,Uj s r:=by
  rcases S4 (rh s)with⟨k,h1,h2⟩|⟨es,m,h1,h2,h3,h4,h5,h6⟩
  exact⟨_,.inl ⟨k,h1,h2,rfl⟩⟩
  by_cases c1:wP s=0
  · by_cases c2:(s8 m).2.2=0
    · refine⟨_,.inr ⟨es,m,h1,h2,h3,h4,h5,h6,.inr (.inr ⟨c1,c2,?_,rfl⟩)⟩⟩
      cases hd:y7 m with
      |none=>rw[Pt hd]at c2;cases c2
      | some y=>
        obtain⟨R,d⟩:=y;rw[Ps hd];exact adw (IK h3 h4 h5) (Hg hd)
    exact⟨_,.inr ⟨es,m,h1,h2,h3,h4,h5,h6,.inr (.inl ⟨c1,c2,rfl⟩)⟩⟩
  exact⟨_,.inr ⟨es,m,h1,h2,h3,h4,h5,h6,.inl ⟨c1,rfl⟩⟩⟩
theorem YF{F:Nat->Prop}{w:World}{b off:Nat}{l:List Wd}(h:∀i (h:i<l.length),∃cs,yZ.is F w cs l[i]/\Rd w b (off+i*yZ.c) cs){k:Nat}(hk:k<l.length):
 ∃base cap,Rd w b (off+k*7) (Th l[k].1 l[k].2.kind l[k].2.uf (.slice base l[k].2.kids.length cap))/\kX F w (nR l[k].2.kind l[k].2.uf (.slice base l[k].2.kids.length cap)) l[k].2:=by
 obtain⟨cs,⟨c1,c2,rfl,⟨rfl,h1⟩,h2⟩,h3⟩:=h k hk;have h2:kX F w c2 l[k].2:=h2;have h4:=h2.r;obtain⟨vk,e,-,hs⟩:=h4;obtain⟨base,cap,rfl,-⟩:=hs;have e2:c2=nR l[k].2.kind l[k].2.uf (.slice base l[k].2.kids.length cap):=by
  unfold sB at e;simp only[k7]at e
  simpa using congrArg Array.toList e
 subst e2;exact⟨base,cap,h3,h2⟩
def Cy(w0:World)(words:List Wd)(gY:List (List Value)):Prop:=∀i c,gY[i]?=aj c->∃h:i<words.length,xB.is (ri w0) w0 c words[i].2
theorem PL{w0:World}{words:List Wd}{gY:List (List Value)}{c:List Value}(h:Cy w0 words gY)(hk:gY.length<words.length)(hc:xB.is (ri w0) w0 c words[gY.length].2):Cy w0 words (gY++[c]):=λi x hx=>by
 rcases Nat.lt_trichotomy i gY.length with h1|h1|h1
 rw[fH h1]at hx;exact h i x hx
 ·subst h1
  rw[List.getElem?_concat_length]at hx
  cases hx
  exact⟨hk,hc⟩
 rw[jE (by rw[bT,ky];omega)]at hx;cases hx
theorem Hs{w0 w:World}(hg:Gr w0 w){words:List Wd}{gY:List (List Value)}{v:Value}(hl:gY.length=words.length)(h:Cy w0 words gY)(hr:(bD 119 6 v words.length gY.flatten).holds w):kH xB (ri w) w v (words.map (·.2)):=by
 have he:(eO xB (ri w0) gY (words.map (·.2))).holds w:=⟨⟨by rw[hl,dX],λi h1 h2=>by
  obtain⟨h3,h4⟩:=h i _ (bQ h2);rw[List.getElem_map];exact xB.stay h4 λk hk=>hg.block k hk⟩,λk hk=>jf hk hg.size⟩
 have hr:(bD 119 xB.c v (words.map (·.2)).length gY.flatten).holds w:=by rw[dX];exact hr
 exact(xw hr he ahk).mono λk hk=>xy hr he k hk
def Mj(gp:Nat)(s:Sp)(R:List Row)(T:List Int):Spec (Value×Value×(Nat->Prop)×Nat×(Nat->Value)×Value):=
 ⟨λx=>x.1.oneCell'=aD/\x.2.1.oneCell'=aD/\x.2.2.2.2.2.oneCell'=aD,λ_=>av az 0,λx=>[aR gp (jx x.1 (fw (yc R 256) (ap (aj ⟨x.2.2.2.1,0,ak⟩) R.length R.length) x.2.2.2.2.2) (gU (dz s).aT (dz s).bM x.2.1 0 (ap ak 0 0) (ap ak 0 0) (ap ak 0 0))).toArray 38,bD 3 1 x.1 s.words.length ((Jk s.words).1.map (av .i64)),oq x.2.2.1 x.2.1 (dz s).aF,
  fO 26 yf x.2.2.2.1 R.length x.2.2.2.2.1,TQ R.length (nL R 256) x.2.2.2.2.1,bD 3 1 x.2.2.2.2.2 T.length (T.flatMap dr.eV)]⟩
def Ht(gp:Nat)(s:Sp)(r:Int×List Row×List Int):Spec (Value×Value×(Nat->Prop)×Nat×(Nat->Value)×Value):=
 if r.1=0 then Mj gp s r.2.1 r.2.2 else⟨λ_=>True,λ_=>av az r.1,λ_=>[]⟩
set_option maxRecDepth 100000 in
theorem Ml(vw vr:Value)(s:Sp)(r:Int×List Row×List Int)(hx:Uj s r)(gp:Nat)(w0:World)(hv:Ud (ri w0) w0 (aU #[vw,vr]) s)(hlw:s.words.length<=60)(MI:s.rules.length<=60)(Gx:∀r∈s.rules,r.2.length<=8796093021952)(w:World)(B:b9)(ho:p_ w0 B)(hm:Mem B [aR gp E9.toArray 38] w):
 Calls aC 41 #[aU #[vw,vr],aK (aj ⟨gp,0,ak⟩)] w (dF (Ht gp s r) B):=by
 have XY:=λw' B' J6 rB=>FF vw vr s gp w0 hv hlw MI Gx w' B' J6 rB;obtain⟨Ju,BP,hvv,hw,-⟩:=hv;obtain⟨rfl,rfl⟩:vw=Ju/\vr=BP:=by simpa using hvv
 clear hvv Gx;obtain⟨bw,cw,rfl,-,-,PJ⟩:=hw;have E8:rh s=s.words.map (·.2):=rfl
 refine dZ hm (args:=[aU #[ap bw s.words.length cw,vr],aK (aj ⟨gp,0,ak⟩)]) (n:=60) Tryz.func41 I I I ?_;refine bC (aM (b_ I I I λg2=>?_));refine zL ?_
 repeat(first|refine GA ?_|refine gV (aB (v:=ap bw s.words.length cw) aL.ty I (aH (i:=1) I I)) ?_)
 refine jy 119 6 ?_;refine eK (ι:=Nat×List (List Value)×Value) (λ(k,gY,vl)=>k<=s.words.length/\gY.length=k/\Cy w0 s.words gY)
  (λ(k,_,vl)=>[(1,aK (aj ⟨gp,0,ak⟩)),(2,aK (aj ⟨g2,0,ak⟩)),(5,vl),(13,ap bw s.words.length cw),(14,av az s.words.length),(15,av az (k:Int))])
  (λ(k,gY,vl)=>[aR gp E9.toArray 38,aR g2 #[ap bw s.words.length cw,vr] 25,bD 119 6 vl k gY.flatten])
  (λ(k,_,_)=>s.words.length-k) (0,[],ap ak 0 0) ⟨bO _,rfl,λi c h=>by cases h⟩ ?_
 clear hm;rintro⟨k,gY,vl⟩ ⟨i1,i2,i3⟩;dsimp only at i1 i2 i3⊢
 by_cases c1:k<s.words.length
 ·obtain⟨b,off,rfl,_,hr⟩:=PJ J
  obtain⟨bk,ck,q1,q2⟩:=YF hr c1;have d_:∀(L:List cU) (j:Nat) (u:Value),(Th s.words[k].1 s.words[k].2.kind s.words[k].2.uf (.slice bk s.words[k].2.kids.length ck))[j]?=aj u->At B L ⟨b,off+k*7+j,ak⟩ u:=λL j u hj=>iW ho (q1 j u hj);clear hr PJ q1 hx XY;subst i2;have hsn:=PL i3 c1 q2;clear q2;generalize s.words[gY.length].1=nm at*;generalize s.words[gY.length].2.kind=rk at*;generalize s.words[gY.length].2.uf=rc at*;generalize s.words[gY.length].2.kids.length=rn at*
  repeat(first|refine GA ?_|refine gV (a_ bR.eq aL.ty I I c1) ?_|refine gV (bH (cs:=Th nm rk rc (ap bk rn ck)) aL.ty I I (d_ _)) ?_)
  clear d_;refine bz I λg7=>?_;refine zL ?_;refine il 3 (cs':=(Th nm rk rc (ap bk rn ck)).toArray) ?_;refine zL ?_
  repeat(first|refine GA ?_|refine gV (bH (cs:=nR rk rc (ap bk rn ck)) aL.ty I I (λj v hj=>aH (i:=3) I (OP hj))) ?_)
  refine jH (i:=2) I I I I I I I (λz h=>by cases h;rfl) J J I λz QG=>?_;refine zL ?_
  try refine GA ?_
  refine dS [0,1,2] ?_;exact cJ (gY.length+1,gY++[nR rk rc (ap bk rn ck)],QG) ⟨by omega,by rw[bT];rfl,hsn⟩ (by show s.words.length-(gY.length+1)<s.words.length-gY.length;omega) (hl:=by dsimp only;rw[AO];simp)
 ·obtain rfl:k=s.words.length:=by omega
  clear PJ;rcases hx with⟨k,hk,hR,rfl⟩|⟨es,m,hes,CS,h0,h20,hlp,hR,hx⟩
  ·have MK:=λw' (rj:kH xB (ri w') w' vl (rh s))=>DV vl (rh s) (k,.zero) w' rj hR
   rw[show Ht gp s (k,[],[])=⟨λ_=>True,λ_=>av az k,λ_=>[]⟩from if_neg hk]
   try refine GA ?_
   refine a8 (ju aJ.en I I) (λw hm=>MK _ (Hs (ho.mem hm) i2 i3 (hm.get (i:=2) I))) I I I ?_;rintro⟨tI,tJ,vf1,hZ,tK,ve1,nZ,F1⟩ kB
   conv=>arg 8;simp only[zJ,dg,ret,id_eq,qX,Ox,Oy]
   conv=>arg 7;simp only[qX,Oy]
   refine aY (i:=3) I λ_ a1=>aY (i:=4) I λ_ a2=>aY (i:=5) I λ_ a3=>aY (i:=6) I λ_ a4=>aY (i:=8) I λ_ a5=>aY (i:=9) I λ_ a6=>?_
   try refine GA ?_
   refine bz I λg4=>?_;refine zL ?_;refine aZ (i:=10) (cs':=#[tI,tJ,vf1,hZ,tK,ve1]) I I I I (by simp only[dw,dA,a1,a2,a3,a4,a5,a6];rfl) I ?_;refine zL ?_
   repeat(first|refine GC ?_|refine gV (bm (b:=aD) I I (decide_eq_true hk)) ?_|refine GB ?_)
   exact da I I λw hm=>hm.cX (S:=⟨λ_=>True,λ_=>av az k,λ_=>[]⟩) (vl,vl,λ_=>False,0,λ_=>vl,vl) trivial [] ahk I
  have MK:=λw' (rj:kH xB (ri w') w' vl (rh s))=>DV vl (rh s) (0,m) w' rj hR;have l7:=IK h0 h20 hlp;have hdm:=λv' w' h=>Fy v' m w' h l7;unfold Rk at hdm
  try refine GA ?_
  refine a8 (ju aJ.en I I) (λw hm=>MK _ (Hs (ho.mem hm) i2 i3 (hm.get (i:=2) I))) I I I ?_;rintro⟨tI,tJ,vf1,hZ,tK,ve1,nZ,F1⟩ kB;have kB:nZ.length=m.ps.follow.length:=kB
  conv=>arg 8;simp only[zJ,dg,ret,id_eq,qX,Ox,Oy]
  conv=>arg 7;simp only[qX,Oy]
  refine aY (i:=3) I λ_ a1=>aY (i:=4) I λ_ a2=>aY (i:=5) I λ_ a3=>aY (i:=6) I λ_ a4=>aY (i:=8) I λ_ a5=>aY (i:=9) I λ_ a6=>?_
  try refine GA ?_
  refine bz I λg4=>?_;refine zL ?_;refine aZ (i:=10) (cs':=#[tI,tJ,vf1,hZ,tK,ve1]) I I I I (by simp only[dw,dA,a1,a2,a3,a4,a5,a6];rfl) I ?_;refine zL ?_;clear a1 a2 a3 a4 a5 a6
  repeat(first|refine GC ?_|refine gV (bm (b:=aE) I I (decide_eq_false (by simp))) ?_|refine gV (aQ (i:=1) aL.ty I I I) ?_|refine GB ?_)
  refine bK [0] [3,4,5,6,7,8,9,10] ahk I I (gK aJ.en I I I) (λw' rB hb=>XY w' _ (p_.on ho rB (λo ho=>by simp at ho;subst ho;simp)) hb) I I I ?_;rintro⟨vo,vp,F⟩ ⟨k1,k2⟩
  conv=>arg 8;simp only[zJ,dg,ret,id_eq,Jt,EV]
  conv=>arg 7;simp only[Jt,EV]
  have nU:∀e:Int,e≠0->Ht gp s (e,[],[])=⟨λ_=>True,λ_=>av az e,λ_=>[]⟩:=λe he=>if_neg he;have yz:∀R T,Ht gp s (0,R,T)=Mj gp s R T:=λR T=>if_pos I
  by_cases d1:wP s≠0
  ·obtain rfl:r=(wP s,[],[]):=by
    rcases hx with⟨-,h⟩|⟨h,-⟩|⟨h,-⟩
    exact h;exact absurd h d1;exact absurd h d1
   rw[nU _ d1]
   repeat(first|refine GC ?_|refine gV (bm (b:=aD) I I (decide_eq_true d1)) ?_|refine GB ?_)
   exact da I I λw hm=>hm.cX (S:=⟨λ_=>True,λ_=>av az (wP s),λ_=>[]⟩) (vl,vl,λ_=>False,0,λ_=>vl,vl) trivial [] ahk I
  have d1:wP s=0:=s7 d1;rw[d1];have hx:=hx.resolve_left (λh=>h.1 d1);generalize s8 m=D at*;obtain⟨R,T,e⟩:=D;dsimp only at hdm hx⊢
  repeat(first|refine GC ?_|refine gV (bm (b:=aE) I I (decide_eq_false (by simp))) ?_|refine gV (aQ (i:=7) aL.ty I I I) ?_|refine GB ?_)
  refine a8 (ju aJ.en I I) (λw hm=>hdm _ w (hm.aga (x:=⟨tI,tJ,vf1,hZ,tK,ve1,nZ,F1⟩) 0 kB I (by simp))) I I I ?_;rintro⟨vrr,vtt⟩ _
  conv=>arg 8;simp only[zJ,dg,ret,id_eq,iZ]
  conv=>arg 7;simp only[iZ]
  refine aY (i:=11) I λ_ a1=>aY (i:=12) I λ_ a2=>?_
  try refine GA ?_
  refine bz I λg6=>?_;refine zL ?_;refine aZ (i:=13) (cs':=#[vrr,vtt]) I I I I (by simp only[dw,dA,a1,a2];rfl) I ?_;refine zL ?_;clear a1 a2
  by_cases d2:e≠0
  ·obtain rfl:r=(e,[],[]):=by
    rcases hx with⟨-,-,h⟩|⟨-,h,-⟩
    exact h;exact absurd h d2
   rw[nU _ d2]
   repeat(first|refine GC ?_|refine gV (bm (b:=aD) I I (decide_eq_true d2)) ?_|refine GB ?_)
   exact da I I λw hm=>hm.cX (S:=⟨λ_=>True,λ_=>av az e,λ_=>[]⟩) (vl,vl,λ_=>False,0,λ_=>vl,vl) trivial [] ahk I
  have d2:e=0:=s7 d2;subst d2;obtain⟨oQ,rfl⟩:my R T=0/\r=(0,y_ R T,y' R T):=by
   rcases hx with⟨-,h,-⟩|⟨-,-,h,h2⟩
   exact absurd I h;exact⟨h,h2⟩
  rw[yz];have adL:=λvr vt w' h=>Ft vr vt R T w' h;have P9:=Q_ oQ;unfold aaQ at adL;rw[oQ]at adL;generalize y_ R T=MR at*;generalize y' R T=MT at*;have wQ:=λvr vt w' h=>Py vr vt MR MT w' h P9;unfold YA at wQ
  repeat(first|refine GC ?_|refine gV (bm (b:=aE) I I (decide_eq_false (by simp))) ?_|refine gV (aQ (i:=13) aL.ty I I I) ?_|refine GB ?_)
  refine a8 (ju aJ.en I I) (λw hm=>adL _ _ w (hm.aeX (i:=11) (j:=12) I (by rw[rK];rfl) oQ)) I I I ?_;rintro⟨mr,mt⟩ _;refine zL ?_;dsimp only;refine aY (i:=14) I λ_ d1=>aY (i:=15) I λ_ d2=>?_
  try refine GA ?_
  refine aZ (i:=13) (cs':=(iZ mr mt).cells) I I I I (by show([mr,mt].all fG)=aD;simp[d1,d2]) I ?_;refine zL ?_
  repeat(first|refine GA ?_|refine gV (aQ (i:=13) aL.ty I I I) ?_)
  refine a8 (ju aJ.en I I) (λw hm=>wQ _ _ w (hm.aeX (i:=14) (j:=15) I I P9)) I I I ?_;rintro⟨gP,YG,vTP⟩ _;refine zL ?_;dsimp only;refine aY (i:=18) I λ_ d3=>?_
  try refine GA ?_
  refine Pv (i:=8) (pk':=fw (yc MR 256) (ap (aj ⟨gP,0,ak⟩) MR.length MR.length) vTP) I I I (by have:=yd (yc MR 256) (vn:=ap (aj ⟨gP,0,ak⟩) MR.length MR.length) (vt:=vTP) I d3;simpa using this) I jp (gT _ _ _) ?_;refine zL ?_
  try refine GA ?_
  exact da I I λw hm=>hm.cX (S:=Mj gp s MR MT) (vo,vp,F,gP,YG,vTP) ⟨k1,k2,d3⟩ [8,9,10,16,17,18] ahk I
end cZ
namespace cZ
open Go.RowKit dr eH dT iA iT
theorem PM(r:Rl)(l:List Rl)(of:List Bs):q6 (r::l) of=if sR r.1=aE then 1 else if r.1∈of then 11 else q6 l of:=rfl
theorem TT(of hd:List Bs)(x:Bs)(l:List Bs):AG of hd (x::l)=((decide (x∈of)||decide (x∈hd))&&AG of hd l):=rfl
theorem Mm(of hd:List Bs)(r:Rl)(l:List Rl):rO of hd (r::l)=(AG of hd r.2&&rO of hd l):=rfl
theorem FH(v:Value)(s:Sp)(w:World)(h:Ud (ri w) w v s):Calls aC 40 #[v] w (cY (ret (av az (pQ s))) w):=by
 obtain⟨vw,vr,rfl,hw,hr⟩:=h;have hnm:=λs w=>Bn s w;have hwd:=λgm w' B ho hl hm=>Ll vw vr s.words gm w hw hl w' B ho hm;obtain⟨bw,cw,rfl,-⟩:=hw;obtain⟨br,cr,rfl,hcr,hmr,hrr⟩:=hr;unfold maxLen at hmr;have hC:pQ s=if 60<s.words.length\/60<s.words.length+s.rules.length then 2 else if(lJ s.words []).1≠0 then(lJ s.words []).1 else if q6 s.rules (lJ s.words []).2≠0 then q6 s.rules (lJ s.words []).2 else if rO (lJ s.words []).2 (s.rules.map (·.1)) s.rules=aD then 0 else 11:=rfl
 obtain⟨words,rules⟩:=s;dsimp only at*;refine enter (args:=[aU #[ap bw words.length cw,ap br rules.length cr]]) (n:=99) Tryz.func40 I I I ?_;refine bC (aM (b_ I I I λg1=>?_));refine zL ?_
 by_cases c0:60<words.length
 ·rw[if_pos (.inl c0)]at hC
  rw[hC]
  repeat(first|refine GA ?_|refine gV (aB (v:=ap bw words.length cw) aL.ty I (aH (i:=0) I I)) ?_)
  exact ea I I I
 by_cases c1:60<words.length+rules.length
 ·rw[if_pos (.inr c1)]at hC
  rw[hC]
  repeat(first|refine GA ?_|refine gV (aB (v:=ap bw words.length cw) aL.ty I (aH (i:=0) I I)) ?_|refine gV (aB (v:=ap br rules.length cr) aL.ty I (aH (i:=0) I I)) ?_)
  exact ea I I I
 rw[if_neg J]at hC;rw[hC]
 repeat(first|refine GA ?_|refine gV (aB (v:=ap bw words.length cw) aL.ty I (aH (i:=0) I I)) ?_|refine gV (aB (v:=ap br rules.length cr) aL.ty I (aH (i:=0) I I)) ?_)
 refine xA iE I λg3=>?_;refine zL ?_;refine xA iE I λg4=>?_;refine zL ?_
 repeat(first|refine GA ?_|refine gV (aQ (i:=0) aL.ty I I I) ?_)
 refine bK [1] [0,2] ahk I I (gK aJ.en I I I) (λw' rB hb=>hwd g3 w' _ (p_.on (p_.self w) rB (λo ho=>by simp at ho;subst ho;simp)) J hb) I I I ?_;rintro⟨m,n⟩ ⟨k1,k2⟩
 conv=>arg 8;simp only[zJ,dg,ret,id_eq,sS]
 conv=>arg 7;simp only[sS]
 generalize lJ words []=W at*;obtain⟨e,of⟩:=W;dsimp only at k1 k2⊢
 by_cases e0:e=0
 ·subst e0
  rw[if_neg (by simp)]
  repeat(first|refine GA ?_|refine gV (aB (v:=ap br rules.length cr) aL.ty I (aH (i:=0) I I)) ?_)
  generalize jM:q6 rules of=fin;refine eK (ι:=Nat×(Bs->Option Value)×Nat) (λ(k,m2,n2)=>k<=rules.length/\n2<=k/\KeysOf m2 ((rules.take k).map (·.1))/\q6 (rules.drop k) of=fin) (λ(k,_,_)=>[(1,aK (aj ⟨g1,0,ak⟩)),(3,.map (aj g3)),(4,.map (aj g4)),(41,ap br rules.length cr),(42,av az rules.length),(43,av az (k:Int))])
   (λ(_,m2,n2)=>[aR g1 #[ap bw words.length cw,ap br rules.length cr] 25,fD iE g4 m2 n2,fD iE g3 m n]) (λ(k,_)=>rules.length-k) (0,λ_=>ak,0) ⟨bO _,bJ _,λy=>rfl,jM⟩ ?_
  rintro⟨k,m2,n2⟩ ⟨i1,i2,i3,i4⟩;dsimp only at i1 i2 i3 i4⊢
  by_cases c2:k<rules.length
  ·obtain⟨b,off,rfl,_,fl⟩:=hrr J
   obtain⟨bk,ck,q1,-,q3⟩:=Co fl c2;rw[ff c2,PM]at i4;have rl:(rules.take (k+1)).map (·.1)=(rules.take k).map (·.1)++[rules[k].1]:=by rw[ia c2,ft];rfl
   have d_:∀(L:List cU) (j:Nat) (u:Value),([str rules[k].1,.slice bk rules[k].2.length ck]:List Value)[j]?=aj u->At w L ⟨b,off+k*2+j,ak⟩ u:=λL j u hj=>kw (q1 j u hj);clear fl q1;generalize rules[k]=r at*;obtain⟨nm,bd⟩:=r;dsimp only at*;generalize bd.length=bn at*
   repeat(first|refine GA ?_|refine gV (a_ bR.eq aL.ty I I c2) ?_|refine gV (bH (cs:=[str nm,ap bk bn ck]) aL.ty I I (d_ _)) ?_)
   clear d_;refine bz I λg7=>?_;refine zL ?_
   try refine GA ?_
   refine il 3 (cs':=#[str nm,ap bk bn ck]) ?_;refine zL ?_
   repeat(first|refine GA ?_|refine gV (aB (v:=str nm) aL.ty I (aH (i:=3) I I)) ?_)
   refine a8 (ju aJ.en I I) (λw hm=>hnm nm w) I I I ?_;intro _ _;refine zL ?_
   cases hb:sR nm with
   | false=>
    rw[if_pos hb]at i4;subst i4;rw[if_pos ahk]
    try refine GA ?_
    exact ea I I I
   | true=>
    rw[if_neg (by rw[hb];decide)]at i4
    cases Bg:m nm with
    | some u=>
     rw[if_pos (rP k1 Bg)]at i4;subst i4;rw[if_pos ahk]
     repeat(first|refine GA ?_|refine gV (aB (v:=str nm) aL.ty I (aH (i:=3) I I)) ?_|refine gV (jW iE (x:=nm) bR.eq io (i:=2) I I I q3 Bg) ?_)
     exact ea I I I
    | none=>
     rw[if_neg (rQ k1 Bg)]at i4
     repeat(first|refine GA ?_|refine gV (aB (v:=str nm) aL.ty I (aH (i:=3) I I)) ?_|refine gV (jX iE (x:=nm) bR.eq io (i:=2) I I I q3 Bg) ?_)
     refine ml (i:=1) (x:=nm) (v:=av az (k:Int)) iE bR.eq I I I I q3 J ?_;refine zL ?_
     try refine GA ?_
     refine dS [0,1,2] ?_;exact jS (k+1,_,_) ⟨by omega,by show(if(m2 nm).isSome then n2 else n2+1)<=k+1;split<;>omega,by show KeysOf _ ((rules.take (k+1)).map (·.1));rw[rl];exact Lk i3,i4⟩ (by show rules.length-(k+1)<rules.length-k;omega) (by repeat' (first|exact dl|refine dh I ?_)) I
  obtain rfl:k=rules.length:=by omega
  rw[xW]at i4;subst i4;rw[nE]at i3;rw[if_neg (by simp[q6])];generalize rules.map (·.1)=hd at*
  repeat(first|refine GA ?_|refine gV (aB (v:=ap br rules.length cr) aL.ty I (aH (i:=0) I I)) ?_)
  refine ue [1,2] ?_;generalize jM:rO of hd rules=fin;refine eK (ι:=Nat) (λk=>k<=rules.length/\rO of hd (rules.drop k)=fin) (λk=>[(3,.map (aj g3)),(4,.map (aj g4)),(66,ap br rules.length cr),(67,av az rules.length),(68,av az (k:Int))])
   (λ_=>[fD iE g4 m2 n2,fD iE g3 m n]) (λk=>rules.length-k) 0 ⟨bO _,jM⟩ ?_
  rintro k ⟨i5,i6⟩
  by_cases c2:k<rules.length
  ·obtain⟨b,off,rfl,_,fl⟩:=hrr J
   obtain⟨bk,ck,q1,q2,q3⟩:=Co fl c2;rw[ff c2,Mm]at i6;have d_:∀(L:List cU) (j:Nat) (u:Value),([str rules[k].1,.slice bk rules[k].2.length ck]:List Value)[j]?=aj u->At w L ⟨b,off+k*2+j,ak⟩ u:=λL j u hj=>kw (q1 j u hj);have rj:=q2.flat ahk;have l7:=q2.okp;clear fl q1 q2;generalize rules[k]=r at*;obtain⟨nm,bd⟩:=r;dsimp only at*;obtain⟨b2,T_,lW,xt,U7,ED⟩:=rj
   cases lW
   unfold maxLen at U7
   repeat(first|refine GA ?_|refine gV (a_ bR.eq aL.ty I I c2) ?_|refine gV (bH (cs:=[str nm,ap bk bd.length ck]) aL.ty I I (d_ _)) ?_)
   clear d_;refine bz I λg11=>?_;refine zL ?_;refine il 2 (cs':=#[str nm,ap bk bd.length ck]) ?_;refine zL ?_
   repeat(first|refine GA ?_|refine gV (aB (v:=ap bk bd.length ck) aL.ty I (aH (i:=2) I I)) ?_)
   refine ue [0,1] ?_;generalize afD:AG of hd bd=afE at i6;refine eK (ι:=Nat) (λi=>i<=bd.length/\AG of hd (bd.drop i)=afE) (λi=>[(3,.map (aj g3)),(4,.map (aj g4)),(66,ap (aj ⟨b,off,ak⟩) rules.length cr),(67,av az rules.length),(68,av az (k:Int)),(73,ap bk bd.length ck),(74,av az bd.length),(75,av az (i:Int))])
    (λ_=>[fD iE g4 m2 n2,fD iE g3 m n]) (λi=>bd.length-i) 0 ⟨bO _,afD⟩ ?_
   rintro i ⟨i7,i8⟩
   by_cases c3:i<bd.length
   ·obtain⟨b3,aaW,rfl,Dg⟩:=ED J
    have d_:=iB (L:=([fD iE g4 m2 n2,fD iE g3 m n]:List cU)) Q1 Dg c3 0 _ I;rw[ff c3,TT]at i8;have hlen:=l7 bd[i] (cV c3);clear Dg l7 ED;generalize bd[i]=x at*
    repeat(first|refine GA ?_|refine gV (a_ bR.eq aL.ty I I c3) ?_|refine gV (aB (v:=str x) aL.ty I d_) ?_)
    cases Bg:m x with
    | some u=>
     rw[decide_eq_true (rP k1 Bg),Bool.true_or,EE]at i8
     cases PN:m2 x with
     | some u2=>
      repeat(first|refine GA ?_|refine gV (jW iE (x:=x) bR.eq io (i:=1) I I I hlen Bg) ?_|refine gV (jW iE (x:=x) bR.eq io (i:=0) I I I hlen PN) ?_)
      exact cJ (i+1) ⟨by omega,i8⟩ (by show bd.length-(i+1)<bd.length-i;omega)
     | none=>
      repeat(first|refine GA ?_|refine gV (jW iE (x:=x) bR.eq io (i:=1) I I I hlen Bg) ?_|refine gV (jX iE (x:=x) bR.eq io (i:=0) I I I hlen PN) ?_)
      exact cJ (i+1) ⟨by omega,i8⟩ (by show bd.length-(i+1)<bd.length-i;omega)
    | none=>
     cases PN:m2 x with
     | some u2=>
      rw[decide_eq_true (rP i3 PN),Bool.or_true,EE]at i8
      repeat(first|refine GA ?_|refine gV (jX iE (x:=x) bR.eq io (i:=1) I I I hlen Bg) ?_|refine gV (jW iE (x:=x) bR.eq io (i:=0) I I I hlen PN) ?_)
      exact cJ (i+1) ⟨by omega,i8⟩ (by show bd.length-(i+1)<bd.length-i;omega)
     | none=>
      rw[decide_eq_false (rQ k1 Bg),decide_eq_false (rQ i3 PN),Bool.or_false,Pj]at i8;subst i8;rw[Pj]at i6;rw[<-i6,if_neg ahk]
      repeat(first|refine GA ?_|refine gV (jX iE (x:=x) bR.eq io (i:=1) I I I hlen Bg) ?_|refine gV (jX iE (x:=x) bR.eq io (i:=0) I I I hlen PN) ?_)
      exact ea I I I
   obtain rfl:i=bd.length:=by omega
   rw[xW]at i8;have i8:aD=afE:=i8;rw[<-i8,EE]at i6
   try refine GA ?_
   exact cJ (k+1) ⟨by omega,i6⟩ (by show rules.length-(k+1)<rules.length-k;omega)
  obtain rfl:k=rules.length:=by omega
  rw[xW]at i6;have i6:aD=fin:=i6;rw[<-i6,if_pos I]
  try refine GA ?_
  exact ea I I I
 rw[if_pos e0]
 repeat(first|refine GC ?_|refine gV (bm (b:=aD) I I (decide_eq_true e0)) ?_|refine GB ?_)
 exact ea I I I
end cZ
namespace cZ
open Go.RowKit dr eH
theorem B1(v:Value)(l:List Bool)(x:Bool)(w:World)(hs:Sl w v l.length (l.map .bool)):
 Calls aC 83 #[v,.bool x] w (cY (ret (av az (rv (· ==x) l))) w):=by
 obtain⟨base,cap,rfl,lR,kA,fl⟩:=hs;unfold maxLen at kA;refine enter (args:=[ap base l.length cap,.bool x]) (n:=19) Tryz.func83 I I I ?_
 try refine GA ?_
 refine eK (ι:=Nat) (λk=>k<=l.length/\∀j (hj:j<l.length),j<k->(l[j]==x)=aE) (λk=>[(0,ap base l.length cap),(1,.bool x),(7,av az l.length),(8,av az (k:Int))]) (λ_=>[]) (λk=>l.length-k) 0 ⟨by omega,λj hj h=>by omega⟩ ?_;rintro k ⟨h1,h2⟩
 by_cases c2:k<l.length
 ·obtain⟨b,off,rfl,hr⟩:=fl J
  have d_:=Va (L:=([]:List cU)) hr c2
  by_cases c3:(l[k]==x)=aD
  ·rw[ry c2 c3 h2]
   have e:x=l[k]:=by simpa using(beq_iff_eq.1 c3).symm
   clear h2 fl;subst e
   repeat(first|refine GC ?_|refine gV (cT bR.eq aL.ty I I c2) ?_|refine gV (aB aL.ty I d_) ?_|refine gV (FX (c:=aD) bR.eq I I (by simp)) ?_|refine GB ?_)
   exact fa
  have Kk:(l[k]==x)=false:=by simpa using c3
  have e:(x==l[k])=false:=by rw[beq_eq_false_iff_ne]at Kk⊢;exact λh=>Kk h.symm
  clear fl c3
  repeat(first|refine GC ?_|refine gV (cT bR.eq aL.ty I I c2) ?_|refine gV (aB aL.ty I d_) ?_|refine gV (FX (c:=aE) bR.eq I I e) ?_|refine GB ?_)
  exact cJ (k+1) ⟨by omega,λj hj h=>if e:j<k then h2 j hj e else(by obtain rfl:j=k:=J;exact Kk)⟩ (by show l.length-(k+1)<l.length-k;omega)
 ·rw[rz λj hj=>h2 j hj J]
  clear h2 fl
  try refine GA ?_
  exact fa
theorem p8(v:Value)(l:List Bool)(x:Bool)(w:World)(hs:Sl w v l.length (l.map .bool)):
 Calls aC 43 #[v,.bool x] w (cY (ret (.bool (l.any (· ==x)))) w):=by
 refine enter (args:=[v,.bool x]) (n:=9) Tryz.func43 I I I ?_;have hh:=λw' (hg:Gr w w')=>B1 v l x w' (hs.gr hg);have hr:=ph (· ==x) l
 rw[<-uk (· ==x) l]
 generalize rv (· ==x) l=r at*
 try refine GA ?_
 refine a8 (gK aJ.en I I I) (λw hm=>hh _ hm.below) I I I ?_;intro _ _
 repeat(first|refine GC ?_|refine gV (dQ I I I) ?_|refine GB ?_)
 exact fa
end cZ
namespace cZ
open Go.RowKit dr eH dT iA iT aV dq BK
def AY(g:eL):List Bool:=(wJ g.bM.toNat g.aF).R
def AZ(g:eL):List Bool:=(wJ g.bM.toNat g.aF).M
def yl(g:eL):List Cl:=mP g.aF (AL g.bM.toNat g.aF) g.aT.toNat g.bM.toNat
def E_(s:Sp)(e:Int):Int×Int:=
 if pQ s≠0 then(pQ s,0)else if s.words.length=0\/s.rules.length=0 then(1,0)else if e≠0 then(e,0)
 else if(AY (dz s)).any (· ==aE)=aD\/(AZ (dz s)).any (· ==aE)=aD then(4,0)
 else if(yl (dz s)).length=0 then(0,1)
 else if(i_ (dz s)).2.2.2≠0 then((i_ (dz s)).2.2.2,0)else if 0<(i_ (dz s)).2.2.1.length then(12,0)else(0,2)
structure FI where
 vo:Value
 vp:Value
 F:Nat->Prop
 gP:Nat
 YG:Nat->Value
 vT:Value
 gR:Nat
 vsR:Nat->Value
 tx:Pb
def BC:FI:=⟨ap ak 0 0,ap ak 0 0,λ_=>False,0,λ_=>ap ak 0 0,ap ak 0 0,0,λ_=>ap ak 0 0,⟨ap ak 0 0,[],λ_=>False,ap ak 0 0,[],λ_=>False⟩⟩
def FI.pk(x:FI)(R:List Row):List Value:=fw (yc R 256) (ap (aj ⟨x.gP,0,ak⟩) R.length R.length) x.vT
structure afF(x:FI):Prop where
 o:x.vo.oneCell'=aD
 p:x.vp.oneCell'=aD
 t:x.vT.oneCell'=aD
def FI.lex(x:FI)(s:Sp)(R:List Row)(T:List Int):List cU:=
 [bD 3 1 x.vo s.words.length ((Jk s.words).1.map (av .i64)),oq x.F x.vp (dz s).aF,fO 26 yf x.gP R.length x.YG,TQ R.length (nL R 256) x.YG,bD 3 1 x.vT T.length (T.flatMap dr.eV)]
def v8(e:Int):Spec FI:=⟨λ_=>True,λ_=> .tuple #[aU E9.toArray,av az e],λ_=>[]⟩
def FI.cLL(x:FI)(g:eL)(R:List Row):Array Value:=(jx x.vo (x.pk R) (gU g.aT g.bM x.vp 1 (ap (aj ⟨x.gR,0,ak⟩) g.bM.toNat g.bM.toNat) (ap ak 0 0) (ap ak 0 0))).toArray
def FI.cLR(x:FI)(g:eL)(R:List Row):Array Value:=(jx x.vo (x.pk R) (gU g.aT g.bM x.vp 2 (ap ak 0 0) x.tx.vA x.tx.vG)).toArray
def FI.rows(x:FI)(g:eL):List cU:=[fO 26 vJ x.gR g.bM.toNat x.vsR,jB (λj=>j<g.bM.toNat) (ni g.aF (AL g.bM.toNat g.aF) g.aT.toNat x.vsR g.bM.toNat 0)]
def abh(s:Sp)(R:List Row)(T:List Int):Spec FI:=
 ⟨afF,λx=> .tuple #[.agg (x.cLL (dz s) R),av az 0],λx=>x.lex s R T++x.rows (dz s)⟩
def abi(s:Sp)(R:List Row)(T:List Int):Spec FI:=
 ⟨λx=>afF x/\x.tx.vA.oneCell'=aD/\x.tx.vG.oneCell'=aD,λx=> .tuple #[.agg (x.cLR (dz s) R),av az 0],λx=>x.lex s R T++Tu x.tx (i_ (dz s)).1 (i_ (dz s)).2.1⟩
def p9(s:Sp)(r:Int×List Row×List Int):Spec FI:=
 if(E_ s r.1).1≠0 then v8 (E_ s r.1).1 else if(E_ s r.1).2=1 then abh s r.2.1 r.2.2 else abi s r.2.1 r.2.2
theorem zm{s:Sp}{r:Int×List Row×List Int}(h:Uj s r)(h0:r.1=0):cL (dz s)=0/\my r.2.1 r.2.2=0:=by
 have hn:wP s=0->cL (dz s)=0:=λh=>by
  unfold wP at h;generalize cL (dz s)=e at*
  by_cases c:e≠0
  rw[if_pos c]at h;cases h;exact s7 c
 rcases h with⟨k,hk,-,rfl⟩|⟨es,m,-,-,h3,h4,h5,-,⟨h,rfl⟩|⟨-,h,rfl⟩|⟨h,-,hc,rfl⟩⟩
 exact absurd h0 hk;exact absurd h0 h;exact absurd h0 h;refine⟨hn h,?_⟩;have:=Q_ hc;dsimp only;exact this
set_option maxRecDepth 100000 in
theorem zn(v:Value)(s:Sp)(r:Int×List Row×List Int)(hx:Uj s r)(w:World)(hv:Ud (ri w) w v s)(Gx:∀r∈s.rules,r.2.length<=8796093021952):
 Calls aC 12 #[v] w (cY (p9 s r) w):=by
 have jr:=λw' (hg:Gr w w')=>FH v s w' (hv.gr hg);have hv0:=hv;obtain⟨vw,vr,rfl,hw,hr⟩:=hv;obtain⟨bw,cw,rfl,-⟩:=hw;obtain⟨br,cr,rfl,-⟩:=hr;have hM:E_ s r.1=if pQ s≠0 then(pQ s,0)else if s.words.length=0\/s.rules.length=0 then(1,0)else if r.1≠0 then(r.1,0)
  else if(AY (dz s)).any (· ==aE)=aD\/(AZ (dz s)).any (· ==aE)=aD then(4,0)
  else if(yl (dz s)).length=0 then(0,1)
  else if(i_ (dz s)).2.2.2≠0 then((i_ (dz s)).2.2.2,0)else if 0<(i_ (dz s)).2.2.1.length then(12,0)else(0,2):=rfl
 have nU:∀e m,E_ s r.1=(e,m)->e≠0->p9 s r=v8 e:=λe m h he=>by unfold p9;rw[h,if_pos he]
 have hLL:E_ s r.1=(0,1)->p9 s r=abh s r.2.1 r.2.2:=λh=>by unfold p9;rw[h];rfl
 have hLR:E_ s r.1=(0,2)->p9 s r=abi s r.2.1 r.2.2:=λh=>by unfold p9;rw[h];rfl
 have FV:=TO;have B2:E9.toArray.toList.all fG=true:=vZ I Rt I;have hsz:E9.toArray.size=266:=kN jp I;refine enter (args:=[aU #[ap bw s.words.length cw,ap br s.rules.length cr]]) (n:=86) Tryz.func12 I I I ?_;refine bC (aM (b_ I I I λg1=>bz I λg2=>?_));rw[wy];refine zL ?_
 repeat(first|refine GA ?_|refine gV (aQ (i:=0) aL.ty I I I) ?_)
 refine a8 (ju aJ.en I I) (λw hm=>jr _ hm.below) I I I ?_;intro _ _;refine zL ?_
 by_cases c0:pQ s≠0
 ·rw[if_pos c0]at hM
  rw[nU _ _ hM c0]
  repeat(first|refine GC ?_|refine gV (bm (b:=aD) I I (decide_eq_true c0)) ?_|refine gV (bP I FV) ?_|refine GB ?_)
  refine aZ (i:=1) (cs':=E9.toArray) I I I hsz B2 hsz ?_;refine zL ?_
  try refine GA ?_
  exact e8 (i:=1) I I I hsz I λw hm=>hm.meets (S:=v8 (pQ s)) BC trivial [] ahk I
 rw[if_neg c0]at hM;have YH:pQ s=0:=s7 c0;have wV:s.words.length<=60/\s.rules.length<=60:=by
  unfold pQ at YH
  by_cases c:60<s.words.length\/60<s.words.length+s.rules.length
  rw[if_pos c]at YH;cases YH;omega
 rw[YH];clear jr YH
 by_cases c1:s.words.length=0\/s.rules.length=0
 ·rw[if_pos c1]at hM
  rw[nU _ _ hM ahk]
  by_cases c2:s.words.length=0
  ·repeat(first|refine GC ?_|refine gV (bm (b:=aE) I I (decide_eq_false (by simp))) ?_|refine gV (aB (v:=ap bw s.words.length cw) aL.ty I (aH (i:=0) I I)) ?_|refine gV (aX (b:=aD) I I (decide_eq_true J)) ?_|refine gV (bP I FV) ?_|refine GB ?_)
   refine aZ (i:=1) (cs':=E9.toArray) I I I hsz B2 hsz ?_;refine zL ?_
   try refine GA ?_
   exact e8 (i:=1) I I I hsz I λw hm=>hm.meets (S:=v8 1) BC trivial [] ahk I
  repeat(first|refine GC ?_|refine gV (bm (b:=aE) I I (decide_eq_false (by simp))) ?_|refine gV (aB (v:=ap bw s.words.length cw) aL.ty I (aH (i:=0) I I)) ?_|refine gV (aB (v:=ap br s.rules.length cr) aL.ty I (aH (i:=0) I I)) ?_|refine gV (aX (b:=aE) I I (decide_eq_false J)) ?_|refine gV (aX (b:=aD) I I (decide_eq_true J)) ?_|refine gV (bP I FV) ?_|refine GB ?_)
  refine aZ (i:=1) (cs':=E9.toArray) I I I hsz B2 hsz ?_;refine zL ?_
  try refine GA ?_
  exact e8 (i:=1) I I I hsz I λw hm=>hm.meets (S:=v8 1) BC trivial [] ahk I
 rw[if_neg c1]at hM;have YI:=λgp w' B ho hm=>Ml (ap bw s.words.length cw) (ap br s.rules.length cr) s r hx gp w hv0 wV.1 wV.2 Gx w' B ho hm
 repeat(first|refine GC ?_|refine gV (bm (b:=aE) I I (decide_eq_false (by simp))) ?_|refine gV (aB (v:=ap bw s.words.length cw) aL.ty I (aH (i:=0) I I)) ?_|refine gV (aB (v:=ap br s.rules.length cr) aL.ty I (aH (i:=0) I I)) ?_|refine gV (aX (b:=aE) I I (decide_eq_false J)) ?_|refine GB ?_)
 refine bz I λg5=>?_;rw[wy];refine zL ?_
 repeat(first|refine GA ?_|refine gV (aQ (i:=0) aL.ty I I I) ?_)
 by_cases c2:r.1≠0
 ·rw[if_pos c2]at hM
  rw[nU _ _ hM c2];have kB:∀gp,Ht gp s r=⟨λ_=>True,λ_=>av az r.1,λ_=>[]⟩:=λgp=>if_neg c2;simp only[kB]at YI;refine bK [2] [0,1] ahk I I (gK aJ.en I I I) (λw' rB hb=>YI g5 w' _ (p_.on (p_.self w) rB (λo ho=>by simp at ho;subst ho;simp)) hb) I I I ?_;intro _ _;refine zL ?_
  repeat(first|refine GC ?_|refine gV (bm (b:=aD) I I (decide_eq_true c2)) ?_|refine gV (bP I FV) ?_|refine GB ?_)
  refine aZ (i:=1) (cs':=E9.toArray) I I I hsz B2 hsz ?_;refine zL ?_
  try refine GA ?_
  exact e8 (i:=1) I I I hsz I λw hm=>hm.meets (S:=v8 r.1) BC trivial [] ahk I
 rw[if_neg c2]at hM;have hr0:r.1=0:=s7 c2;obtain⟨hG,abj⟩:=zm hx hr0;have kB:∀gp,Ht gp s r=Mj gp s r.2.1 r.2.2:=λgp=>if_pos hr0;simp only[kB]at YI;clear hx kB c2;obtain⟨e,R,T⟩:=r;dsimp only at*;subst hr0;generalize E_ s 0=M at*;generalize LQ:dz s=g at*;refine bK [2] [0,1] ahk I I (gK aJ.en I I I) (λw' rB hb=>YI g5 w' _ (p_.on (p_.self w) rB (λo ho=>by simp at ho;subst ho;simp)) hb) I I I ?_;clear YI;rintro⟨vo,vp,F,gP,YG,vT⟩ ⟨k1,k2,k3⟩;dsimp only at k1 k2 k3;unfold Mj;rw[LQ];refine zL ?_;have eA:(fw (yc R 256) (ap (aj ⟨gP,0,ak⟩) R.length R.length) vT).length=258:=gT _ _ _;have Fl:(fw (yc R 256) (ap (aj ⟨gP,0,ak⟩) R.length R.length) vT).all fG=true:=by
  have:=yd (yc R 256) (vn:=ap (aj ⟨gP,0,ak⟩) R.length R.length) (vt:=vT) I k3
  simpa using this
 have hpx:∀x:FI,x.gP=gP->x.vT=vT->fw (yc R 256) (ap (aj ⟨gP,0,ak⟩) R.length R.length) vT=x.pk R:=λx h1 h2=>by unfold FI.pk;rw[h1,h2]
 generalize hPK:fw (yc R 256) (ap (aj ⟨gP,0,ak⟩) R.length R.length) vT=PK at*;obtain⟨a1,a2,a3,a4,a5,a6⟩:=de hG;have adM:∀w',(oq F vp g.aF).holds w'->kz (λk=>k<w'.heap.size) w' (ee g.aT g.bM vp) g:=λw' h=>ya (gok ⟨a1,by omega⟩) (gok ⟨by omega,by omega⟩) h
 repeat(first|refine GC ?_|refine gV (bm (b:=aE) I I (decide_eq_false (by simp))) ?_|refine gV (bH (cs:=[av az g.aT,av az g.bM,vp]) aL.ty I I (λj v h=>aH (i:=2) I (s9 eA h))) ?_|refine GB ?_)
 have hN:g.bM=(g.bM.toNat:Int):=by omega
 have hT:g.aT=(g.aT.toNat:Int):=by omega
 obtain⟨⟨-,hRl,hMl⟩,-⟩:=xN.Xr hG hN;have SA:=λw' h=>DF (ee g.aT g.bM vp) g w' h hG g.bM.toNat hN;have R5:=λw' h=>I5 (ee g.aT g.bM vp) g w' h hG g.aT.toNat g.bM.toNat hT hN;have MI:=λw' h=>I8 (ee g.aT g.bM vp) g w' h;unfold Pc Tu at MI;refine a8 (ju aJ.en I I) (λw' hm=>(SA w' (adM w' (hm.get (i:=4) I))).mono λe w2 h=>DH h) I I I ?_;intro x5 _
 conv=>arg 8;simp only[zJ,dg,ret,id_eq,DE.val]
 try refine GA ?_
 refine bz I λg7=>?_;refine il 13 ?_;refine zL ?_
 repeat(first|refine GA ?_|refine gV (aB aL.ty I (aH (i:=13) I I)) ?_)
 have YJ:AY g=(wJ g.bM.toNat g.aF).R:=rfl;have YK:AZ g=(wJ g.bM.toNat g.aF).M:=rfl;generalize (wJ g.bM.toNat g.aF).R=Rc at*;generalize (wJ g.bM.toNat g.aF).M=Mk at*;rw[YJ,YK]at hM;clear YJ YK SA;refine a8 (gK aJ.en I I I) (λw' hm=>p8 _ Rc aE w' (by have:=Sl.dY (hm.get (i:=11) I);rw[hRl];exact this)) I I I ?_;intro _ _;refine zL ?_
 cases Ey:Rc.any (· ==aE)with
 |true=>
  rw[if_pos (.inl Ey)]at hM;rw[nU _ _ hM ahk]
  repeat(first|refine GA ?_|refine gV (bP I FV) ?_)
  refine aZ (i:=1) (cs':=E9.toArray) I I I hsz B2 hsz ?_;refine zL ?_
  try refine GA ?_
  exact e8 (i:=1) I I I hsz I λw hm=>hm.meets (S:=v8 4) BC trivial [] ahk I
 |false=>
 repeat(first|refine GA ?_|refine gV (aB aL.ty I (aH (i:=13) I I)) ?_)
 refine mJ (gK aJ.en I I I) (λw' hm=>p8 _ Mk aE w' (by have:=Sl.dY (hm.get (i:=12) I);rw[hMl];exact this)) I I I I I ?_;intro _ _;refine zL ?_
 cases ab7:Mk.any (· ==aE)with
 |true=>
  rw[if_pos (.inr ab7)]at hM;rw[nU _ _ hM ahk]
  repeat(first|refine GA ?_|refine gV (bP I FV) ?_)
  refine aZ (i:=1) (cs':=E9.toArray) I I I hsz B2 hsz ?_;refine zL ?_
  try refine GA ?_
  exact e8 (i:=1) I I I hsz I λw hm=>hm.meets (S:=v8 4) BC trivial [] ahk I
 |false=>
 rw[if_neg (by rw[Ey,ab7];decide)]at hM;have lz:yl g=mP g.aF (AL g.bM.toNat g.aF) g.aT.toNat g.bM.toNat:=rfl
 repeat(first|refine GA ?_|refine gV (bH (cs:=[av az g.aT,av az g.bM,vp]) aL.ty I I (λj v h=>aH (i:=2) I (s9 eA h))) ?_)
 refine a8 (ju aJ.en I I) (λw' hm=>R5 w' (adM w' (hm.get (i:=4) I))) I I I ?_;rintro⟨gR,vsR,vcl⟩ _;unfold X2;rw[<-lz];refine zL ?_
 by_cases c3:(yl g).length=0
 ·rw[if_pos c3]at hM
  rw[hLL hM]
  repeat(first|refine GC ?_|refine gV (fy (i:=16) bR.eq I I) ?_|refine gV (aX (b:=aD) I I (decide_eq_true J)) ?_|refine GB ?_)
  refine eI 3 (i:=2) I I I I I I eA I ?_;refine zL ?_
  try refine GA ?_
  refine eI 4 (i:=2) I I I I I I eA I ?_;refine zL ?_
  repeat(first|refine GA ?_|refine gV (aQ (i:=2) aL.ty I I (kN eA I)) ?_)
  refine aZ (i:=1) (cs':=(jx vo PK (gU g.aT g.bM vp 1 (ap (aj ⟨gR,0,ak⟩) g.bM.toNat g.bM.toNat) (ap ak 0 0) (ap ak 0 0))).toArray) I I I (kN eA I) (vZ k1 Fl (by simp only[gU,dw,dA,k2];rfl)) hsz ?_;refine zL ?_
  try refine GA ?_
  subst hPK;subst LQ;exact e8 (i:=1) I I I (kN eA I) I λw hm=>hm.meets (S:=abh s R T) ⟨vo,vp,F,gP,YG,vT,gR,vsR,⟨ap ak 0 0,[],λ_=>False,ap ak 0 0,[],λ_=>False⟩⟩ ⟨k1,k2,k3⟩ [3,4,5,6,7,14,15] ahk I
 rw[if_neg c3]at hM
 repeat(first|refine GC ?_|refine gV (fy (i:=16) bR.eq I I) ?_|refine gV (aX (b:=aE) I I (decide_eq_false J)) ?_|refine gV (bH (cs:=[av az g.aT,av az g.bM,vp]) aL.ty I I (λj v h=>aH (i:=2) I (s9 eA h))) ?_|refine GB ?_)
 refine a8 (ju aJ.en I I) (λw' hm=>MI w' (adM w' (hm.get (i:=4) I))) I I I ?_;rintro⟨⟨vA,BU,FA,vG,BV,FG⟩,vfi⟩ _;have hO:i_ g=i_ g:=rfl;refine zL ?_;generalize hOT:i_ g=O at*;obtain⟨A,G,fi,e⟩:=O;dsimp only at hM⊢;refine aY (i:=17) I λ_ b1=>aY (i:=19) I λ_ b2=>?_
 try refine GA ?_
 refine bz I λg12=>?_;refine zL ?_;refine aZ (i:=22) (cs':=#[vA,vG]) I I I I (by simp only[dw,dA,b1,b2];rfl) I ?_;refine zL ?_
 by_cases c4:e≠0
 ·rw[if_pos c4]at hM
  rw[nU _ _ hM c4]
  repeat(first|refine GC ?_|refine gV (bm (b:=aD) I I (decide_eq_true c4)) ?_|refine gV (bP I FV) ?_|refine GB ?_)
  refine aZ (i:=1) (cs':=E9.toArray) I I I hsz B2 hsz ?_;refine zL ?_
  try refine GA ?_
  exact e8 (i:=1) I I I hsz I λw hm=>hm.meets (S:=v8 e) BC trivial [] ahk I
 rw[if_neg c4]at hM
 repeat(first|refine GC ?_|refine gV (bm (b:=aE) I I (decide_eq_false c4)) ?_|refine GB ?_)
 by_cases c5:0<fi.length
 ·rw[if_pos c5]at hM
  rw[nU _ _ hM ahk]
  repeat(first|refine GC ?_|refine gV (fy (i:=21) bR.eq I I) ?_|refine gV (bB (b:=aD) I I (decide_eq_true J)) ?_|refine gV (bP I FV) ?_|refine GB ?_)
  refine aZ (i:=1) (cs':=E9.toArray) I I I hsz B2 hsz ?_;refine zL ?_
  try refine GA ?_
  exact e8 (i:=1) I I I hsz I λw hm=>hm.meets (S:=v8 12) BC trivial [] ahk I
 rw[if_neg c5]at hM;rw[hLR hM]
 repeat(first|refine GC ?_|refine gV (fy (i:=21) bR.eq I I) ?_|refine gV (bB (b:=aE) I I (decide_eq_false J)) ?_|refine GB ?_)
 (repeat refine bC ?_)
 refine eo ([aR g12 #[vA,vG] 36]) (.calm 0 (.calm 1 (.one 2 (.calm 3 (.one 4 (.done)))))) (cH [22]) ?_
 repeat(first|refine GW ?_|(refine GN ?_;first|refine QW (aQ (i:=0) aL.ty I I I) ?_))
 refine aO I (eI 3 (i:=2) I I I I I I eA I (aP (cH [22]) ?_));refine zL ?_
 try refine GW ?_
 refine aO I (Pw (i:=2) I I I b1 b2 I eA (aP (cH [22]) ?_));refine zL ?_
 try refine GW ?_
 repeat(first|refine GA ?_|refine gV (aQ (i:=2) aL.ty I I (kN eA I)) ?_)
 refine aZ (i:=1) (cs':=(jx vo PK (gU g.aT g.bM vp 2 (ap ak 0 0) vA vG)).toArray) I I I (kN eA I) (vZ k1 Fl (by simp only[gU,dw,dA,k2,b1,b2];rfl)) hsz ?_;refine zL ?_
 try refine GA ?_
 subst hPK;subst LQ;refine e8 (i:=1) I I I (kN eA I) I λw hm=>hm.meets (S:=abi s R T) ⟨vo,vp,F,gP,YG,vT,gR,vsR,⟨vA,BU,FA,vG,BV,FG⟩⟩ ⟨⟨k1,k2,k3⟩,b1,b2⟩ [3,4,5,6,7,17,18,19,20] ahk ?_;show _++Tu _ (i_ (dz s)).1 (i_ (dz s)).2.1=_
 rw[hOT];rfl
end cZ
namespace cZ
open Go.RowKit dr eH dT iA iT aV dq
theorem Mn{s:Sp}{e m:Int}(h:E_ s e=(0,m)):e=0/\(AY (dz s)).any (· ==aE)=aE/\(AZ (dz s)).any (· ==aE)=aE/\(((yl (dz s)).length=0/\m=1)\/((yl (dz s)).length≠0/\(i_ (dz s)).2.2.2=0/\(i_ (dz s)).2.2.1.length=0/\m=2)):=by
 unfold E_ at h
 by_cases c0:pQ s≠0
 rw[if_pos c0]at h;exact absurd (congrArg AQ h) c0;rw[if_neg c0]at h
 by_cases c1:s.words.length=0\/s.rules.length=0
 rw[if_pos c1]at h;cases h;rw[if_neg c1]at h
 by_cases c2:e≠0
 rw[if_pos c2]at h;exact absurd (congrArg AQ h) c2;rw[if_neg c2]at h
 by_cases c3:(AY (dz s)).any (· ==aE)=aD\/(AZ (dz s)).any (· ==aE)=aD
 rw[if_pos c3]at h;cases h;rw[if_neg c3]at h;refine⟨s7 c2,?_,?_,?_⟩
 ·cases hb:(AY (dz s)).any (· ==aE)with
  |true=>exact absurd (.inl hb) c3
  |false=>rfl
 ·cases hb:(AZ (dz s)).any (· ==aE)with
  |true=>exact absurd (.inr hb) c3
  |false=>rfl
 by_cases c4:(yl (dz s)).length=0
 rw[if_pos c4]at h;exact .inl ⟨c4,(congrArg AR h).symm⟩;rw[if_neg c4]at h
 by_cases c5:(i_ (dz s)).2.2.2≠0
 rw[if_pos c5]at h;exact absurd (congrArg AQ h) c5;rw[if_neg c5]at h
 by_cases c6:0<(i_ (dz s)).2.2.1.length
 rw[if_pos c6]at h;cases h;rw[if_neg c6]at h;exact .inr ⟨c4,s7 c5,by omega,(congrArg AR h).symm⟩
theorem YL{x:FI}(h:x.vT.oneCell'=aD)(R:List Row):(x.pk R).all fG=true:=by
 have:=yd (yc R 256) (vn:=ap (aj ⟨x.gP,0,ak⟩) R.length R.length) (vt:=x.vT) I h;rw[FI.pk,<-this]
end cZ
end Go.Proofs.YtdmgcnggnejnnaaGreat

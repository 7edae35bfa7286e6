/- Part 4 of what SessionWholeUpto needs: DfX, DfM, AbcL, AppR, SeP, Ev, EvS, GateC, GateD, CfgP, SmX, SmY, SmA, CountC, CountD, LlM, LlC, LrA, LrK, LrC, ClimbB, ClimbC, LrP, LrT, BuA, BuB, ClimbD, ClimbE, BuC, CfgQ, CfgR, PlacesG, ClassP, DfQ, SmPL, SpecN. -/
import Derived.Test.YthmakbpkkoeabaaGreatMgC
namespace Go.Proofs.YthmakbpkkoeabaaGreat
set_option linter.unusedVariables false
set_option linter.unusedSimpArgs false
open _root_.And renaming intro->cP
open _root_.Array renaming getElem?_eq_some_iff->kC,ext'->aaI
open _root_.Array.mk renaming injEq->q7
open _root_.Bool renaming false->aF,true->aD,and_eq_true->fc,false_eq_true->rm,eq_false_iff->wg
open _root_.Classical renaming not_not->agJ
open _root_.False renaming elim->oc
open _root_.Go.BigFrame renaming execOp_builtin->me,builtin_append->sv
open _root_.Go.Builtin renaming append_->uo,lenOf->AT,firstCells->DI
open _root_.Go.Instr renaming build->dg
open _root_.Go.IntKind renaming i64->aB,bits->mf,signed->sB,wrap_u8->Jw,u8->Jx
open _root_.Go.Op renaming equalIn->od
open _root_.Go.Oper renaming wp->gi
open _root_.Go.Proofs.Tryz renaming prog->aE
open _root_.Go.Value renaming slice->av,int->az,pointer->aK,agg->aQ,oneCell'->ft,ownBlock->sC,cells->tp
open _root_.Go.Value.agg renaming injEq->lT
open _root_.Go.Value.slice renaming injEq->jN
open _root_.Go.World renaming ownsRow_nil->aaJ
open _root_.Int renaming toNat_natCast->dD,eq_ofNat_of_zero_le->gU,le_refl->lm,toNat_of_nonneg->u_
open _root_.List renaming getElem?_eq_getElem->bM,length_append->bK,getD_eq_getElem?_getD->de,getElem_mem->cH,getElem?_eq_some_iff->dX,length_cons->dj,drop_eq_getElem_cons->eH,replicate->dl,take_succ_eq_append_getElem->gv,mem_singleton->eV,size_toArray->eM,append_nil->dY,mem_cons->dM,length_map->eI,append_assoc->eY,take_of_length_le->gT,map_append->eZ,nil_append->e7,flatMap_append->ir,drop_of_length_le->jx,not_mem_nil->fz,range->eA,getElem?_set_ne->kX,eq_nil_of_length_eq_zero->mK,length_singleton->kO,length_drop->iT,mem_append->gj,map_cons->ff,length_nil->iv,mem_iff_getElem->iC,mem_cons_self->iO,getElem?_map->jy,mem_map->fG,mem_cons_of_mem->kJ,getElem?_set_self->oh,getElem?_append_left->mg,drop_eq_nil_of_le->oD,length_take->jz,getElem?_eq_none->ta,ext_getElem?->mh,getElem?_append_right->x6,all_eq_true->pq,mem_of_mem_drop->yu,length_reverse->Kn,exists_cons_of_ne_nil->Rk,range_succ->yw,mem_append_left->uE,length_tail->Ko,map_replicate->Rm,length->yU,flatMap_def->Rn,drop_zero->wh,flatten_cons->DP,map_eq_flatMap->aaK,map_singleton->aaL,mem_reverse->aaM,map_take->aaN,take->aaO,drop->aaP
open _root_.List.cons renaming injEq->jA
open _root_.Nat renaming le_refl->bC,zero_le->bH,zero_add->cX,blt->dq,le_trans->fH,not_lt_zero->ow,add_zero->lO,add_mul->nv,lt_succ_self->tr,succ_mul->pt,mul_one->lP,succ_ne_zero->yV,mul_le_mul->Fs,lt_irrefl->Kp,sub_self->Be
open _root_.Option renaming some->aj,none->ak,getD_some->jD,map_some->aaQ
open _root_.Option.some renaming injEq->dL,inj->sE
open _root_.Prod.mk renaming injEq->jX
open _root_.True renaming intro->cV
open _root_.Vector renaming replicate->eC,getElem_ofFn->kM,ext->kN,getElem_set->wj,getElem_toList->BH,toList_replicate->Ro,ofFn->rf,toList_set->aaR
set_option maxHeartbeats 16000000
namespace bZ
open Go.RowKit cL dQ dh gu eg mX cz
set_option maxRecDepth 100000 in
theorem agK(x y:C4)(w:World):(od 10000 256 (aQ (ed x).toArray) (aQ (ed y).toArray)).run aE w= .ok (decide (x=y)) w:=by
 show(od 10000 256 (aQ #[v64 x.a,v64 x.b,v64 x.c,v64 x.d]) (aQ #[v64 y.a,v64 y.b,v64 y.c,v64 y.d])).run aE w=_
 have e:(od 10000 256 (aQ #[v64 x.a,v64 x.b,v64 x.c,v64 x.d]) (aQ #[v64 y.a,v64 y.b,v64 y.c,v64 y.d])).run aE w= .ok ((ij x.a==ij y.a)&&((ij x.b==ij y.b)&&((ij x.c==ij y.c)&&(ij x.d==ij y.d)))) w:=by
  unfold v64;rw[run_equalIn_array (P:=aE) w 9999 (n:=4) (e:=82) _ _ I I];have h1:aE.cellsOf 82=1:=rfl;simp[Op.eqItems,go_sem,List.range_succ_eq_map,h1]
  by_cases e1:ij x.a=ij y.a<;>by_cases e2:ij x.b=ij y.b<;>by_cases e3:ij x.c=ij y.c<;>by_cases e4:ij x.d=ij y.d<;>simp[e1,e2,e3,e4]
 rw[e]
 congr 1
 by_cases h:x=y
 subst h;simp;rw[decide_eq_false h]
 by_cases e1:ij x.a=ij y.a<;>by_cases e2:ij x.b=ij y.b<;>by_cases e3:ij x.c=ij y.c<;>by_cases e4:ij x.d=ij y.d<;>simp[e1,e2,e3,e4]
 exact h (C4.ext' (oQ e1) (oQ e2) (oQ e3) (oQ e4))
theorem Rp(w:World):(dg 256 (#[]:Array (Nat×Value))).run aE w= .ok (aQ (ed C4.zero).toArray) w:=by kernel_rfl
theorem adY{x:Int}(h0: -32768<=x)(h1:x<=32767):IntKind.i16.wrap x=x:=by
 simp only[IntKind.wrap,mf,sB];simp;omega
theorem Nv(r:Row):(e8 r).toArray.toList.all ft=true:=pq.2 λu hu=>row_one [r] u (by simpa using hu)
def Iu(m:MS)(vc vr vf vfol vl ve rows:Value)(g gm n:Nat)(d:DM):Spec (Value×Value):=
 ⟨λ_=>True,λ_=>CY (qy m n d).1,λx=>Ly vc vr vf vfol vl ve rows g gm x.1 x.2 (qy m n d).2⟩
theorem adZ(p:PS)(all:C4)(b i:Nat):Ki p all b (i+1)=if all.mem i=aD/\(p.bm.getD i C4.zero).mem b=aD then(Ki p all b i).bit i else Ki p all b i:=rfl
theorem Rq(p:PS)(all:C4)(f b:Nat)(r:Row)(d:DM):mY p all (f+1) b r d=if 200<(fZ p all b r d).2.S.length+1 then fZ p all b r d else mY p all f (b+1) (fZ p all b r d).1 (fZ p all b r d).2:=rfl
theorem ad0{p:PS}{all:C4}{b:Nat}{r:Row}{d:DM}(hb:b<256)(h:Kj p all b=C4.zero):fZ p all b r d=(r.set b (-1),d):=by unfold fZ;rw[if_pos h,dif_pos hb]
theorem ad1{p:PS}{all:C4}{b:Nat}{r:Row}{d:DM}(hb:b<256)(h:Kj p all b≠C4.zero):fZ p all b r d=((r.set b (-1)).set b ((jf p d (Kj p all b)).1:Int),(jf p d (Kj p all b)).2):=by unfold fZ;rw[if_neg h,dif_pos hb]
set_option maxRecDepth 100000 in
theorem Kq(m:MS)(vc vr vf vfol vl ve rows:Value)(d:DM)(g gm n:Nat)(vs vt:Value)(w0:World)(hp:GZ w0 (aQ #[vc,vr,vf,vfol,vl,ve]) m)(h:J_ m)(hd:DOk m.ps d)(hd2:d.S.length+1<=200)(hn:n<=d.S.length)(w:World)(B:bP)(ho:mI w0 B)
 (hm:Mem B (Ly vc vr vf vfol vl ve rows g gm vs vt d) w):
 Calls aE 76 #[aK (aj ⟨g,0,ak⟩),az aB (n:Int)] w (cZ (Iu m vc vr vf vfol vl ve rows g gm n d) B):=by
 have tZ:=λw' (hg:Gr w0 w') h1 h2=>G1 m vc vr vf vfol vl ve vs (.map (aj gm)) rows vt d.S g n w' (hp.gr hg) h h1 h2 hn;have hst:=λd' s pO oV h1 h2 w' B' LK qu=>Fl m vc vr vf vfol vl ve rows d' s g gm pO oV w0 hp h h1 h2 w' B' LK qu;obtain⟨_,_,_,_,_,_,he,h1,-⟩:=hp;simp only[lT,q7,jA,and_true]at he;obtain⟨rfl,rfl,rfl,rfl,rfl,rfl⟩:=he;have hmf:=h.tY;clear h;obtain⟨ac,cc,rfl,-,-,hrc⟩:=h1;unfold Iu qy;generalize ni m d.S n=all at*;obtain⟨p,fi,em⟩:=m;dsimp only at*;unfold Ly at hm;have hB0:=Rp;refine du hm (args:=[aK (aj ⟨g,0,ak⟩),az aB (n:Int)]) (n:=60) Tryz.func76 I I I ?_;clear hm;refine cB (bD (a8 I λg4=>?_));refine zL ?_;rw[Fm]
 try refine GA ?_
 refine aU (fC aJ.en I I I) (λw hm=>tZ w (ho.mem hm) (hm.get (i:=0) I) (Sl.dx (hm.get (i:=1) I))) I I I ?_;intro _ _;refine zL ?_;clear tZ
 try refine GA ?_
 refine a8 I λg5=>?_;refine zL ?_;refine gG 5 (cs':=(ed all).toArray) ?_;refine zL ?_
 try refine GA ?_
 refine a8 I λg6=>?_;refine zL ?_;rw[Fm]
 try refine GA ?_
 clear hn;generalize jb:mY p all 256 0 (eC 256 0) d=fin;refine d_ (ι:=Nat×Row×DM×Value×Value) (λ(b,r,d,_,_)=>b<=256/\DOk p d/\d.S.length+1<=200/\mY p all (256-b) b r d=fin) (λ(b,_,_,_,_)=>[(0,aK (aj ⟨g,0,ak⟩)),(4,aK (aj ⟨g4,0,ak⟩)),(5,aK (aj ⟨g5,0,ak⟩)),(6,aK (aj ⟨g6,0,ak⟩)),(14,az aB (b:Int))])
  (λ(_,r,d,vs,vt)=>[aR g (Lw (av ac p.bm.length cc) vr vf vfol vl ve vs (.map (aj gm)) rows vt) 207,oO vs d.S,tm gm d.S,gL vt d.tags,aR g4 (e8 (eC 256 0)).toArray 210,aR g5 (ed all).toArray 256,aR g6 (e8 r).toArray 210]) (λ(b,_,_,_,_)=>256-b) (0,eC 256 0,d,vs,vt) ⟨bH _,hd,hd2,jb⟩ ?_
 clear hd hd2 jb d vs vt;rintro⟨b,r,d,vs,vt⟩ ⟨i1,i2,i3,i4⟩;dsimp only at i1 i2 i3 i4⊢
 by_cases c1:b<256
 ·rw[show 256-b=(256-(b+1))+1 by omega,Rq]at i4
  try refine GA ?_
  refine a8 I λg8=>?_;refine zL ?_
  repeat(first|refine GA ?_|refine gV (aC (v:=av ac p.bm.length cc) aL.ty I (aI (i:=0) I I)) ?_)
  refine d_ (ι:=Nat) (λk=>k<=p.bm.length) (λk=>[(0,aK (aj ⟨g,0,ak⟩)),(4,aK (aj ⟨g4,0,ak⟩)),(5,aK (aj ⟨g5,0,ak⟩)),(6,aK (aj ⟨g6,0,ak⟩)),(7,az aB (b:Int)),(8,aK (aj ⟨g8,0,ak⟩)),(14,az aB (b:Int)),(21,av ac p.bm.length cc),(22,az aB p.bm.length),(23,az aB (k:Int))])
   (λk=>[aR g (Lw (av ac p.bm.length cc) vr vf vfol vl ve vs (.map (aj gm)) rows vt) 207,oO vs d.S,tm gm d.S,gL vt d.tags,aR g4 (e8 (eC 256 0)).toArray 210,aR g5 (ed all).toArray 256,aR g6 (e8 r).toArray 210,aR g8 (ed (Ki p all b k)).toArray 256]) (λk=>p.bm.length-k) 0 (bH _) ?_
  intro k hk
  by_cases c2:k<p.bm.length
  ·have hts:=adZ p all b k
   have hgd:p.bm.getD k C4.zero=p.bm[k]:=by rw[de,bM c2];rfl
   rw[hgd]at hts;obtain⟨bc,akc,rfl,ais⟩:=hrc J;have ait:=λ(L:List b9)=>Ra (L:=L) (f:=ed) (c:=4) (λ_=>rfl) ho ais c2;clear ais hrc hgd;generalize p.bm[k]=c at*;have aiu:∀(L:List b9) (j:Nat) (u:Value),(ed c)[j]?=aj u->At B L ⟨bc,akc+k*4+j,ak⟩ u:=ait;clear ait;have aav:=λw=>ti all k J w;have akd:=λw=>Vc c b c1 w;generalize Ki p all b k=tz at*;generalize all.mem k=b1 at*;generalize c.mem b=b2 at*;have hu8:Jx.wrap (b:Int)=(b:Int):=by rw[Jw];omega
   repeat(first|refine GA ?_|refine gV (aZ bQ.eq aL.ty I I c2) ?_|refine gV (aY (cs:=ed c) aL.ty I I (aiu _)) ?_)
   refine a8 I λg10=>?_;refine zL ?_
   try refine GA ?_
   refine gG 8 (cs':=(ed c).toArray) ?_;refine zL ?_
   repeat(first|refine GA ?_|refine gV (aP (i:=5) aL.ty I I I) ?_)
   refine aU (fC aJ.en I I I) (λw hm=>aav w) I I I ?_;intro _ _;refine zL ?_
   by_cases q1:b1=aD
   ·subst q1
    repeat(first|refine GA ?_|refine gV (aP (i:=8) aL.ty I I I) ?_|refine gV (jk bQ.eq bQ.eq I hu8) ?_)
    refine k7 (fC aJ.en I I I) (λw hm=>akd w) I I I I I ?_;intro _ _;refine zL ?_
    by_cases q2:b2=aD
    ·subst q2
     rw[if_pos ⟨rfl,rfl⟩]at hts
     try refine GA ?_
     refine bz [7] [0,1,2,3,4,5,6] aln I I (fC aJ.en I I I) (λw hm hb=>tj tz k J g8 w _ hb) I I I ?_;intro _ _;refine zL ?_
     try refine GA ?_
     exact bW (k+1) J (by show p.bm.length-(k+1)<p.bm.length-k;omega) (hl:=by rw[hts])
    rw[if_neg (λh=>q2 h.2)]at hts;obtain rfl:=wg.2 q2
    try refine GA ?_
    refine dv [0,1,2,3,4,5,6,7] ?_;exact bW (k+1) J (by show p.bm.length-(k+1)<p.bm.length-k;omega) (hl:=by rw[hts];rfl)
   rw[if_neg (λh=>q1 h.1)]at hts;obtain rfl:=wg.2 q1
   try refine GA ?_
   refine dv [0,1,2,3,4,5,6,7] ?_;exact bW (k+1) J (by show p.bm.length-(k+1)<p.bm.length-k;omega) (hl:=by rw[hts];rfl)
  obtain rfl:k=p.bm.length:=by omega
  have hF:Ki p all b p.bm.length=Kj p all b:=rfl;rw[hF];have Gq:=ad0 (p:=p) (all:=all) (r:=r) (d:=d) c1;have o9:=ad1 (p:=p) (all:=all) (r:=r) (d:=d) c1;have Jc:=agK (Kj p all b) C4.zero;clear hF hrc;generalize Kj p all b=tz at*
  repeat(first|refine GA ?_|refine gV (hZ bQ.eq aL.ty I I c1) ?_)
  refine r8 (i:=6) I I I c1 ?_;refine zL ?_
  by_cases q1:tz=C4.zero
  ·rw[decide_eq_true q1]at Jc
   rw[Gq q1,if_neg (by show ¬200<d.S.length+1;omega)]at i4;refine nP (i:=1) I gJ λgK=>?_;obtain⟨ab,cs,rfl,hmS,-⟩:=gK
   repeat(first|refine GC ?_|refine gV (aP (i:=7) aL.ty I I I) ?_|refine gV (bB I hB0) ?_|refine gV (uM I I (by kernel_rfl) Jc I) ?_|refine gV (aC (v:=av ab (d.S.length+1) cs) aL.ty I (aI (i:=0) I I)) ?_|refine gV (dW (b:=aF) I I (decide_eq_false J)) ?_|refine GB ?_)
   refine dv [0,1,2,3,4,5,6] ?_;exact bW (b+1,r.set b (-1),d,av ab (d.S.length+1) cs,vt) ⟨by omega,i2,i3,i4⟩ (by show 256-(b+1)<256-b;omega)
  rw[decide_eq_false q1]at Jc;rw[o9 q1]at i4;obtain⟨s1,s2,s3,s4,s5⟩:=Nl i2 tz
  repeat(first|refine GC ?_|refine gV (aP (i:=7) aL.ty I I I) ?_|refine gV (bB I hB0) ?_|refine gV (uM I I (by kernel_rfl) Jc I) ?_|refine GB ?_)
  refine bz [0,1,2,3] [4,5,6,7] aln I I (fC aJ.en I I I) (λw hm hb=>hst d tz vs vt J (by have:=i2.tags;omega) w _ (ho.on hm (by simp[Ly])) hb) I I I ?_;rintro⟨pO,oV⟩ _
  conv=>arg 8;simp only[zJ,cD,ret,id_eq,adP,Ly]
  conv=>arg 7;simp only[adP]
  generalize jf p d tz=R at*;obtain⟨q,d'⟩:=R;dsimp only at i4 s1 s2 s3 s4 s5⊢;have hq:q<=200:=by omega
  refine nP (i:=5) I gJ λgK=>?_;obtain⟨ab,cs,rfl,hmS,-⟩:=gK
  repeat(first|refine GA ?_|refine gV (jk bQ.eq bQ.eq I (adY J J)) ?_|refine gV (hZ bQ.eq aL.ty I I c1) ?_)
  refine r8 (i:=2) I I I c1 ?_;refine zL ?_;generalize (r.set b (-1)).set b (q:Int)=r' at*
  by_cases q2:200<d'.S.length+1
  ·rw[if_pos q2]at i4
   subst i4
   repeat(first|refine GC ?_|refine gV (aC (v:=av ab (d'.S.length+1) cs) aL.ty I (aI (i:=4) I I)) ?_|refine gV (dW (b:=aD) I I (decide_eq_true J)) ?_|refine gV (aP (i:=2) aL.ty I I (by rw[eM,dC])) ?_|refine GB ?_)
   refine aW (i:=0) (cs':=(e8 r').toArray) I I I (by rw[eM,dC]) (Nv r') (by rw[eM,dC]) ?_;refine zL ?_
   try refine GA ?_
   exact fW (i:=0) I I I (by rw[eM,dC]) λw hm=>hm.b_ (S:=⟨λ(_:Value×Value)=>True,λ_=>CY r',λx=>Ly (av ac p.bm.length cc) vr vf vfol vl ve rows g gm x.1 x.2 d'⟩) (av ab (d'.S.length+1) cs,oV) trivial [4,5,6,7] aln I
  rw[if_neg q2]at i4
  repeat(first|refine GC ?_|refine gV (aC (v:=av ab (d'.S.length+1) cs) aL.ty I (aI (i:=4) I I)) ?_|refine gV (dW (b:=aF) I I (decide_eq_false J)) ?_|refine GB ?_)
  refine dv [4,5,6,7,0,1,2] ?_;exact bW (b+1,r',d',av ab (d'.S.length+1) cs,oV) ⟨by omega,s1,by show d'.S.length+1<=200;omega,i4⟩ (by show 256-(b+1)<256-b;omega)
 ·obtain rfl:b=256:=by omega
  have i4:(r,d)=fin:=i4;subst i4
  repeat(first|refine GA ?_|refine gV (aP (i:=6) aL.ty I I (by rw[eM,dC])) ?_)
  refine aW (i:=4) (cs':=(e8 r).toArray) I I I (by rw[eM,dC]) (Nv r) (by rw[eM,dC]) ?_;refine zL ?_
  try refine GA ?_
  exact fW (i:=4) I I I (by rw[eM,dC]) λw hm=>hm.b_ (S:=⟨λ(_:Value×Value)=>True,λ_=>CY r,λx=>Ly (av ac p.bm.length cc) vr vf vfol vl ve rows g gm x.1 x.2 d⟩) (vs,vt) trivial [0,1,2,3] aln I
def tu(m:MS):List Row×List Int×Int:=match wx m with
 |some (R,d)=>(R,d.tags,0)
 |none=>([],[],8)
def TV(m:MS):Spec (Value×Value):=⟨λ_=>True,λx=> .tuple #[jc x.1 x.2,az aB (tu m).2.2],λx=>[a_ 210 256 x.1 (tu m).1.length ((tu m).1.flatMap e8),gL x.2 (tu m).2.1]⟩
theorem yW{m:MS}{R:List Row}{d:DM}(h:wx m=aj (R,d)):tu m=(R,d.tags,0):=by unfold tu;rw[h]
theorem Rr{m:MS}(h:wx m=ak):tu m=([],[],8):=by unfold tu;rw[h]
theorem Iv(m:MS)(f n:Nat)(R:List Row)(d:DM):tk m (f+1) n R d=if n<d.S.length+1 then(if 200<(qy m n d).2.S.length+1 then ak else tk m f (n+1) (R++[(qy m n d).1]) (qy m n d).2)else aj (R,d):=rfl
theorem Rs(w:World):(dg 137 (#[]:Array (Nat×Value))).run aE w= .ok (aQ #[av ak 0 0,av ak 0 0]) w:=by kernel_rfl
theorem Nw(vc vr vf vfol vl ve:Value)(g gm:Nat)(w:World):(dg 207 #[(0,aQ #[vc,vr,vf,vfol,vl,ve]),(1,av (aj ⟨g,0,ak⟩) 1 1),(2,.map (aj gm))]).run aE w= .ok (.agg (Lw vc vr vf vfol vl ve (av (aj ⟨g,0,ak⟩) 1 1) (.map (aj gm)) (av ak 0 0) (av ak 0 0))) w:=by
 unfold Lw;go_simp
theorem Ny{g:Nat}{w:World}(h:(aR g (madeCells #[az .u64 0,az .u64 0,az .u64 0,az .u64 0] (1*4)) 256).holds w):(oO (av (aj ⟨g,0,ak⟩) 1 1) []).holds w:=by
 rw[ae5 (k:=4) I aln]at h;exact⟨rfl,.inr ⟨g,1,_,rfl,bH _,h,bC _,by decide,rfl,rfl⟩⟩
theorem BI(v:Value)(R:List Row)(r:Row):a_ 210 256 v (R++[r]).length ((R++[r]).flatMap e8)=a_ 210 256 v (R.length+1) (R.flatMap e8++e8 r):=by
 rw[bK,ir];simp
theorem agL{vc vr vf vfol vl ve vs num rows tags v:Value}{j:Nat}(h:[rows,tags][j]?=aj v):(Lw vc vr vf vfol vl ve vs num rows tags)[8+j]?=aj v:=by
 match j,h with
 |0,h=>exact h
 |1,h=>exact h
theorem Kr(r:Row):(e8 r).toArray=([CY r].flatMap λv=>v.cells.toList).toArray:=by
 show _=((e8 r).toArray.toList++[]).toArray
 simp
theorem Ft(r:Row):∀v∈[CY r],v.cells.size=256:=by
 intro v hv;rw[eV.1 hv];show(e8 r).toArray.size=256
 rw[eM,dC]
set_option maxRecDepth 100000 in
theorem G3(v:Value)(m:MS)(w:World)(hp:GZ w v m)(h:J_ m):
 Calls aE 41 #[v] w (bX (TV m) w):=by
 have iH:=λw' (hg:Gr w w')=>Ff v m w' (hp.gr hg) h;obtain⟨vc,vr,vf,vfol,vl,ve,rfl,h1,h2,h3,h4,h5,h6⟩:=id hp;have hrw:=λrows d g gm n vs vt hd hd2 hn w' B ho hm=>Kq m vc vr vf vfol vl ve rows d g gm n vs vt w hp h hd hd2 hn w' B ho hm;clear h1 h2 h3 h4 h5 hp;have hms:=h.some;have sG:=h.ri;clear h;obtain⟨ae,ce,rfl,-,hme,hre⟩:=h6;unfold maxLen at hme;have hbz:=Rs;refine enter (args:=[aQ #[vc,vr,vf,vfol,vl,av ae m.empty.length ce]]) (n:=78) Tryz.func41 I I I ?_;refine cB (bD (bL I I I λg1=>a8 I λg2=>?_));refine zL ?_
 repeat(first|refine GA ?_|refine gV (aP (i:=0) aL.ty I I I) ?_)
 refine aU (ja aJ.en I I) (λw hm=>iH _ hm.below) I I I ?_;intro _ _;refine zL ?_;clear iH
 repeat(first|refine GC ?_|refine gV (dc (b:=aF) I I (decide_eq_false (by simp))) ?_|refine GB ?_)
 (repeat refine cB ?_)
 refine ml (ι:=Nat×Nat×Nat) (λ_=>True) (λ(_,_,g5)=>[(1,aK (aj ⟨g1,0,ak⟩)),(2,aK (aj ⟨g2,0,ak⟩)),(5,aK (aj ⟨g5,0,ak⟩))])
  (λ(gs,gm,g5)=>[aR g1 #[vc,vr,vf,vfol,vl,av ae m.empty.length ce] 132,aR g2 #[av ak 0 0,av ak 0 0] 137,aR g5 (Lw vc vr vf vfol vl (av ae m.empty.length ce) (av (aj ⟨gs,0,ak⟩) 1 1) (.map (aj gm)) (av ak 0 0) (av ak 0 0)) 207,oO (av (aj ⟨gs,0,ak⟩) 1 1) [],tm gm []]) ?_ ?_
 ·refine dH ([aR g1 #[vc,vr,vf,vfol,vl,av ae m.empty.length ce] 132]) (.calm 0 (.two 1 (.one 2 (.calm 3 (.one 4 (.calm 5 (.done))))) 2 (.one 1 (.calm 3 (.one 4 (.calm 5 (.done))))))) (bV [0]) ?_
  repeat(first|refine GW ?_|(refine GN ?_;first|refine QW (aP (i:=0) aL.ty I I I) ?_))
  refine eN I I ?_ ?_
  ·refine uU (m:=1) (cap:=1) I I (bC 1) aln aln I λgs=>aO (bV [0]) ?_
   refine aM I (ym Rf I λgm=>aO (bV [0]) ?_)
   repeat(first|refine GW ?_|(refine GN ?_;first|refine QW (bB I (Nw _ _ _ _ _ _ _ _)) ?_))
   refine aM I (bL I I I λg5=>aO (bV [0]) ?_)
   try refine GW ?_
   refine oT (i:=2) (oO (av (aj ⟨gs,0,ak⟩) 1 1) []) I (λw h=>Ny h) (λk h=>h) ?_;refine oT (i:=3) (tm gm []) I (λw h=>by unfold tm;rw[<-Fk];exact h) (λk h=>h) ?_;refine dv [0,1,4,2,3] ?_;exact eh (gs,gm,g5) trivial (by repeat' (first|exact cV|refine cP I ?_)) I
  refine ym Rf I λgm=>aO (bV [0]) ?_;refine aM I (uU (m:=1) (cap:=1) I I (bC 1) aln aln I λgs=>aO (bV [0]) ?_)
  repeat(first|refine GW ?_|(refine GN ?_;first|refine QW (bB I (Nw _ _ _ _ _ _ _ _)) ?_))
  refine aM I (bL I I I λg5=>aO (bV [0]) ?_)
  try refine GW ?_
  refine oT (i:=3) (oO (av (aj ⟨gs,0,ak⟩) 1 1) []) I (λw h=>Ny h) (λk h=>h) ?_;refine oT (i:=2) (tm gm []) I (λw h=>by unfold tm;rw[<-Fk];exact h) (λk h=>h) ?_;refine dv [0,1,4,3,2] ?_;exact eh (gs,gm,g5) trivial (by repeat' (first|exact cV|refine cP I ?_)) I
 rintro⟨gs,gm,g5⟩ _;dsimp only
 try refine GA ?_
 refine fw (cs:=#[az aB (-1)]) [az aB (-1)] I I I (by intro v hv;simp at hv;subst hv;rfl) I I I λg20=>?_;refine zL ?_
 try refine GA ?_
 refine bJ (i:=2) I I I I I I ?_;refine zL ?_
 repeat(first|refine GC ?_|refine gV (aC (v:=av ae m.empty.length ce) aL.ty I (aI (i:=0) I I)) ?_|refine gV (eT (r:=(m.empty.length:Int)-1) I I J J I) ?_|refine GB ?_)
 refine mM (ι:=Nat) (λk=>k<=m.empty.length) (λk=>[(1,aK (aj ⟨g1,0,ak⟩)),(2,aK (aj ⟨g2,0,ak⟩)),(5,aK (aj ⟨g5,0,ak⟩)),(6,az aB ((k:Int)-1))])
  (λk=>[aR g1 #[vc,vr,vf,vfol,vl,av ae m.empty.length ce] 132,aR g2 #[av ak 0 0,av ak 0 0] 137,aR g5 (Lw vc vr vf vfol vl (av ae m.empty.length ce) (av (aj ⟨gs,0,ak⟩) 1 1) (.map (aj gm)) (av ak 0 0) (av (aj ⟨g20,0,ak⟩) 1 1)) 207,oO (av (aj ⟨gs,0,ak⟩) 1 1) [],tm gm [],aR g20 #[az aB (gC (m.empty.drop k) k)] 3]) (λk=>k) m.empty.length (bC _) (by repeat' (first|exact cV|refine cP I ?_)) (by rw[oD (bC _)];rfl) ?_
 intro k hk
 by_cases c1:0<k
 ·obtain⟨j,rfl⟩:∃j,k=j+1:=⟨k-1,by omega⟩
  have hj:j<m.empty.length:=by omega
  obtain⟨be,agM,rfl,ake⟩:=hre J;have akf:=λ(L:List b9)=>gd (L:=L) TB ake hj 0 _ I;have hst:gC (m.empty.drop j) j=if m.empty[j]=aD then(j:Int)else gC (m.empty.drop (j+1)) ((j:Int)+1):=by rw[eH hj,gC]
  rw[show(((j+1:Nat):Int))=(j:Int)+1 by omega]at*;generalize gC (m.empty.drop (j+1)) ((j:Int)+1)=t at*;generalize m.empty[j]=b at*;rw[show(j:Int)+1-1=(j:Int)by omega];have aff:∀(L:List b9),At (w:bP) L ⟨be,agM+j*1+0,ak⟩ (.bool b):=akf
  by_cases c2:b=aD
  ·subst c2
   rw[if_pos I]at hst
   repeat(first|refine GC ?_|refine gV (fu (b:=aD) I I (decide_eq_true J)) ?_|refine gV (aC (v:=av (aj ⟨be,agM,ak⟩) m.empty.length ce) aL.ty I (aI (i:=0) I I)) ?_|refine gV (aZ bQ.eq aL.ty I I hj) ?_|refine gV (aC (v:= .bool aD) aL.ty I (aff _)) ?_|refine gV (aC (v:=av (aj ⟨g20,0,ak⟩) 1 1) aL.ty I (aI (i:=2) I I)) ?_|refine gV (aZ (j:=0) bQ.eq aL.ty I I aln) ?_|refine GB ?_)
   refine bJ (i:=5) I I I I I I ?_;refine zL ?_
   repeat(first|refine GC ?_|refine gV (eT (r:=(j:Int)-1) I I J J I) ?_|refine GB ?_)
   exact bW j J (by show j<j+1;omega) (hl:=by rw[hst];rfl)
  rw[if_neg c2]at hst;obtain rfl:=wg.2 c2
  repeat(first|refine GC ?_|refine gV (fu (b:=aD) I I (decide_eq_true J)) ?_|refine gV (aC (v:=av (aj ⟨be,agM,ak⟩) m.empty.length ce) aL.ty I (aI (i:=0) I I)) ?_|refine gV (aZ bQ.eq aL.ty I I hj) ?_|refine gV (aC (v:= .bool aF) aL.ty I (aff _)) ?_|refine gV (eT (r:=(j:Int)-1) I I J J I) ?_|refine GB ?_)
  exact bW j J (by show j<j+1;omega) (hl:=by rw[hst])
 ·obtain rfl:k=0:=by omega
  rw[show gC (m.empty.drop 0) ((0:Nat):Int)=gC m.empty 0 from I];have jb:tk m (201-0) 0 [] ⟨[],[gC m.empty 0]⟩=wx m:=rfl;generalize gC m.empty 0=t0 at*;refine SV (i:=5) (gL (av (aj ⟨g20,0,ak⟩) 1 1) [t0]) I (λw h=>JZ h) (λk h=>h) ?_
  repeat(first|refine GC ?_|refine gV (fu (b:=aF) I I (decide_eq_false J)) ?_|refine GB ?_)
  refine iz 210 256 ?_;refine tW [1,2,3,4,5,6] ?_;clear hre;refine d_ (ι:=Nat×List Row×DM×Value×Value×Value) (λ(n,R,d,_,_,_)=>R.length=n/\n<=d.S.length+1/\DOk m.ps d/\d.S.length+1<=200/\tk m (201-n) n R d=wx m) (λ(n,_,_,_,_,_)=>[(2,aK (aj ⟨g2,0,ak⟩)),(5,aK (aj ⟨g5,0,ak⟩)),(7,az aB (n:Int))])
   (λ(_,R,d,vs,wz,vt)=>[aR g2 #[av ak 0 0,av ak 0 0] 137,aR g5 (Lw vc vr vf vfol vl (av ae m.empty.length ce) vs (.map (aj gm)) wz vt) 207,oO vs d.S,tm gm d.S,gL vt d.tags,a_ 210 256 wz R.length (R.flatMap e8)]) (λ(n,_,_,_,_,_)=>201-n) (0,[],⟨[],[t0]⟩,av (aj ⟨gs,0,ak⟩) 1 1,av ak 0 0,av (aj ⟨g20,0,ak⟩) 1 1) ⟨rfl,bH _,⟨List.nodup_nil,rfl⟩,by show 0+1<=200;omega,jb⟩ ?_
  clear jb hk c1;rintro⟨n,R,d,vs,wz,vt⟩ ⟨i0,i1,i2,i3,i4⟩;dsimp only at i0 i1 i2 i3 i4⊢;refine iR (i:=2) I gJ λgK=>?_;obtain⟨ab,cs,rfl,hmS,-⟩:=gK
  by_cases c1:n<d.S.length+1
  ·rw[show 201-n=(201-(n+1))+1 by omega,Iv,if_pos c1]at i4
   obtain⟨s1,s2,s3⟩:=Nn (p:=m.ps) (ni m d.S n) 256 0 (eC 256 0) d i2 i3;have aaS:=λw' (qu:Mem (w:bP) [aR g2 #[av ak 0 0,av ak 0 0] 137,aR g5 (Lw vc vr vf vfol vl (av ae m.empty.length ce) (av ab (d.S.length+1) cs) (.map (aj gm)) wz vt) 207,oO (av ab (d.S.length+1) cs) d.S,tm gm d.S,gL vt d.tags,a_ 210 256 wz R.length (R.flatMap e8)] w') (hb:Mem (bP.on w' (Ly vc vr vf vfol vl (av ae m.empty.length ce) wz g5 gm (av ab (d.S.length+1) cs) vt d)) (Ly vc vr vf vfol vl (av ae m.empty.length ce) wz g5 gm (av ab (d.S.length+1) cs) vt d) w')=>hrw wz d g5 gm n (av ab (d.S.length+1) cs) vt i2 i3 J w' _ ((mI.self w).on qu (by simp[Ly])) hb;rw[show mY m.ps (ni m d.S n) 256 0 (eC 256 0) d=qy m n d from I]at s1 s2 s3;obtain⟨r',d',oM⟩:∃r' d',qy m n d=(r',d'):=⟨_,_,rfl⟩;rw[oM]at i4 s1 s2 s3;dsimp only at i4 s1 s2 s3
   repeat(first|refine GC ?_|refine gV (aC (v:=av ab (d.S.length+1) cs) aL.ty I (aI (i:=1) I I)) ?_|refine gV (ez (b:=aD) I I (decide_eq_true J)) ?_|refine GB ?_)
   (repeat refine cB ?_)
   refine ml (ι:=Value×Value×Value) (λ_=>True) (λ_=>[(2,aK (aj ⟨g2,0,ak⟩)),(5,aK (aj ⟨g5,0,ak⟩)),(7,az aB (n:Int))])
    (λ(pO,rp,oV)=>[aR g2 #[av ak 0 0,av ak 0 0] 137,aR g5 (Lw vc vr vf vfol vl (av ae m.empty.length ce) pO (.map (aj gm)) rp oV) 207,oO pO d'.S,tm gm d'.S,gL oV d'.tags,a_ 210 256 rp (R++[r']).length ((R++[r']).flatMap e8)]) ?_ ?_
   ·refine dH ([]) (.calm 0 (.calm 1 (.calm 2 (.calm 3 (.calm 4 (.calm 6 (.calm 7 (.two 5 (.one 8 (.one 9 (.one 10 (.calm 11 (.calm 12 (.calm 13 (.one 14 (.done)))))))) 8 (.two 5 (.one 9 (.one 10 (.calm 11 (.calm 12 (.calm 13 (.one 14 (.done))))))) 9 (.one 5 (.one 10 (.calm 11 (.calm 12 (.calm 13 (.one 14 (.done)))))))))))))))) (bV []) ?_
    try refine GW ?_
    refine eN I I ?_ ?_
    ·refine dm (aC (v:=wz) aL.ty I (aI (i:=1) I I)) I I I (aO (bV []) ?_)
     refine aM I (bz [1,2,3,4] [0,5] aln I I (fC aJ.en I I I) (λw' hm hb=>aaS w' hm hb) I I I ?_);rintro⟨pO,oV⟩ _
     conv=>arg 8;simp only[zJ,cD,ret,id_eq,Iu,Ly]
     conv=>arg 7;simp only[Iu]
     rw[oM];dsimp only;refine aO (bV []) ?_;refine aM I (fw (cs:=(e8 r').toArray) [CY r'] I I I (Ft r') I (Kr r') I λg62=>(aO (bV []) ?_));refine aM I (ee (i:=1) (e:=210) (size:=256) (bytes:=512) (m:=R.length) (xs:=R.flatMap e8) (k:=1) (ys:=e8 r') I (kI (i:=6) I (λj u h=>by simpa using h) (bC 1) aln) I I (by rw[dC]) (λu hu=>row_one [r'] u (by simpa using hu)) J J I λrp=>(aO (bV []) ?_))
     try refine GW ?_
     refine aM I (aX (i:=1) I λju l_=>bJ (i:=2) I I I ju l_ I (aO (bV []) ?_))
     try refine GW ?_
     refine dv [0,2,3,4,5,1] ?_;exact eh (pO,rp,oV) trivial (by repeat' (first|exact cV|refine cP I ?_)) (by dsimp only;rw[BI];rfl)
    refine bz [1,2,3,4] [0,5] aln I I (fC aJ.en I I I) (λw' hm hb=>aaS w' hm hb) I I I ?_;rintro⟨pO,oV⟩ _
    conv=>arg 8;simp only[zJ,cD,ret,id_eq,Iu,Ly]
    conv=>arg 7;simp only[Iu]
    rw[oM];dsimp only;refine aO (bV []) ?_;refine eN I I ?_ ?_
    ·refine dm (aC (v:=wz) aL.ty I (aI (i:=2) I I)) I I I (aO (bV []) ?_)
     refine aM I (fw (cs:=(e8 r').toArray) [CY r'] I I I (Ft r') I (Kr r') I λg62=>(aO (bV []) ?_));refine aM I (ee (i:=1) (e:=210) (size:=256) (bytes:=512) (m:=R.length) (xs:=R.flatMap e8) (k:=1) (ys:=e8 r') I (kI (i:=6) I (λj u h=>by simpa using h) (bC 1) aln) I I (by rw[dC]) (λu hu=>row_one [r'] u (by simpa using hu)) J J I λrp=>(aO (bV []) ?_))
     try refine GW ?_
     refine aM I (aX (i:=1) I λju l_=>bJ (i:=2) I I I ju l_ I (aO (bV []) ?_))
     try refine GW ?_
     refine dv [0,2,3,4,5,1] ?_;exact eh (pO,rp,oV) trivial (by repeat' (first|exact cV|refine cP I ?_)) (by dsimp only;rw[BI];rfl)
    refine fw (cs:=(e8 r').toArray) [CY r'] I I I (Ft r') I (Kr r') I λg62=>(aO (bV []) ?_);refine aM I (dm (aC (v:=wz) aL.ty I (aI (i:=2) I I)) I I I (aO (bV []) ?_));refine aM I (ee (i:=1) (e:=210) (size:=256) (bytes:=512) (m:=R.length) (xs:=R.flatMap e8) (k:=1) (ys:=e8 r') I (kI (i:=6) I (λj u h=>by simpa using h) (bC 1) aln) I I (by rw[dC]) (λu hu=>row_one [r'] u (by simpa using hu)) J J I λrp=>(aO (bV []) ?_))
    try refine GW ?_
    refine aM I (aX (i:=1) I λju l_=>bJ (i:=2) I I I ju l_ I (aO (bV []) ?_))
    try refine GW ?_
    refine dv [0,2,3,4,5,1] ?_;exact eh (pO,rp,oV) trivial (by repeat' (first|exact cV|refine cP I ?_)) (by dsimp only;rw[BI];rfl)
   clear aaS;rintro⟨pO,rp,oV⟩ _;dsimp only;refine iR (i:=2) I gJ λgK=>?_;obtain⟨ab',cs',rfl,ak7,-⟩:=gK
   by_cases c2:200<d'.S.length+1
   ·rw[if_pos c2]at i4
    have ho:=Rr i4.symm;unfold TV;rw[ho]
    repeat(first|refine GC ?_|refine gV (aC (v:=av ab' (d'.S.length+1) cs') aL.ty I (aI (i:=1) I I)) ?_|refine gV (dW (b:=aD) I I (decide_eq_true J)) ?_|refine gV (bB I hbz) ?_|refine GB ?_)
    refine gG 0 ?_;refine zL ?_
    try refine GA ?_
    refine dJ 210 256 (dJ 3 1 ?_);exact dT (i:=0) I I I I I λw hm=>hm.meets (S:=⟨λ(_:Value×Value)=>True,λx=> .tuple #[jc x.1 x.2,az aB 8],λx=>[a_ 210 256 x.1 0 [],a_ 3 1 x.2 0 []]⟩) (av ak 0 0,av ak 0 0) trivial [6,7] aln I
   rw[if_neg c2]at i4
   repeat(first|refine GC ?_|refine gV (aC (v:=av ab' (d'.S.length+1) cs') aL.ty I (aI (i:=1) I I)) ?_|refine gV (dW (b:=aF) I I (decide_eq_false J)) ?_|refine GB ?_)
   exact bW (n+1,R++[r'],d',av ab' (d'.S.length+1) cs',rp,oV) ⟨by rw[bK,i0];rfl,by show n+1<=d'.S.length+1;omega,s1,by show d'.S.length+1<=200;omega,i4⟩ (by show 201-(n+1)<201-n;omega)
  have i5:wx m=aj (R,d):=by
   rw[<-i4,show 201-n=(201-(n+1))+1 by omega,Iv,if_neg c1]
  have ho:=yW i5;unfold TV;rw[ho];refine iR (i:=4) I gJ λgK=>?_;obtain⟨at',ct',rfl,-⟩:=gK;refine iR (i:=5) I gJ λgK=>?_;obtain⟨ar',cr',rfl,-⟩:=gK
  repeat(first|refine GC ?_|refine gV (aC (v:=av ab (d.S.length+1) cs) aL.ty I (aI (i:=1) I I)) ?_|refine gV (ez (b:=aF) I I (decide_eq_false J)) ?_|refine gV (aY (cs:=[av ar' R.length cr',av at' d.tags.length ct']) aL.ty I I (λj v hj=>aI (i:=1) I (agL hj))) ?_|refine GB ?_)
  refine gG 0 (cs':=#[av ar' R.length cr',av at' d.tags.length ct']) ?_;refine zL ?_
  try refine GA ?_
  exact dT (i:=0) I I I I I λw hm=>hm.meets (S:=⟨λ(_:Value×Value)=>True,λx=> .tuple #[jc x.1 x.2,az aB 0],λx=>[a_ 210 256 x.1 R.length (R.flatMap e8),gL x.2 d.tags]⟩) (av ar' R.length cr',av at' d.tags.length ct') trivial [5,4] aln I
end bZ
namespace mX
open dh gu eg cz
theorem aaT{a b c:List Int}(h1:c.Pairwise (· < ·))(h2:∀x,(x∈a\/x∈b)↔x∈c):re a b=c:=
 EZ (Dj _ _).1 h1 λx=>by simp_all[Dj]
end mX
namespace bZ
open Go.RowKit cL dQ
theorem Nz{P:Program}{n:Nat}{W:World}{fr:Fr}{L:List b9}{ops:Array Oper}{Q:Exit->Act->World->Prop}{rest:List Oper}{d:Nat}{ty:TypeId}{pos:String}{after:Array Edge}{t e:TypeId}{s x:Operand}{i j size bytes m k:Nat}{v v2:Value}{xs ys:List Value}[tK:rC P t e size bytes](hi:L[i]?=aj (a_ e size v m xs))(hj:L[j]?=aj (a_ e size v2 k ys))(hs:ev fr s=aj v)(hx:ev fr x=aj v2)
 (h1:∀u∈ys,u.oneCell'=aD) (qX:m+k<=140737488355328) (hb:(m+k)*bytes<=140737488355328) (hn:dq d n=aD)
 (h:∀v',TL P n W ops Q rest ((d,v')::fr) (L.set i (a_ e size v' (m+k) (xs++ys)))):
 TL P n W ops Q (⟨aj d,.call {callee:= .builtin .append,args:=#[s,x],argTypes:=#[t,t]},ty,pos,after,ak⟩::rest) fr L:=⟨λa w hr hm=>by
 have lX:w.ownsRow 0 e size v2 k ys:=hm.get hj;rcases lX.2 with⟨rfl,rfl⟩|⟨g,cap,kU,rfl,_⟩
 ·have hy:ys=[]:=mK (by rw[lX.1];simp)
  subst hy;have rB:L.set i (a_ e size v (m+0) (xs++[]))=L:=by
   rw[dY,lO];apply mh;intro q
   by_cases hq:i=q
   ·subst hq
    rw[oh (dX.1 hi).1,hi]
   rw[kX hq]
  have h2:=h v;rw[rB]at h2;exact(D5 tK.el hi hs hx hn h2).go a w hr hm
 ·refine(Ht (c:=cap) tK.el hi hs hx (λq u hq=>?_) lX.1 h1 qX hb hn h).go a w hr hm
  rw[eS,cX];exact jP hj hq⟩
def p8(w:World)(e:TypeId)(size:Nat)(v:Value)(n:Nat)(xs:List Value):Prop:=
 xs.length=n*size/\((v=av ak 0 0/\n=0)\/∃g off cap kU,v=av (aj ⟨g,off,ak⟩) n cap/\w.heap[g]?=aj (.cells kU e (0,0))/\n<=cap/\cap<=maxLen/\off+cap*size<=kU.size/\(kU.toList.drop off).take (n*size)=xs)
def rq(e:TypeId)(size:Nat)(v:Value)(n:Nat)(xs:List Value):b9:=
 ⟨v.ownBlock,λ_=>False,λw=>p8 w e size v n xs,λw h k hk=>by
  rcases h.2 with⟨rfl,_⟩|⟨g,off,cap,kU,rfl,hg,_⟩
  exact hk.elim (λh=>by cases h) oc
  ·simp only[sC,dL,or_false]at hk
   subst hk;exact(kC.1 hg).1,λw w' h _ hb=>by
  refine⟨h.1,?_⟩;rcases h.2 with hn|⟨g,off,cap,kU,rfl,hg,rest⟩
  exact .inl hn;exact .inr ⟨g,off,cap,kU,rfl,by rw[hb g (.inl I)];exact hg,rest⟩⟩
theorem Wf{w:World}{e:TypeId}{size:Nat}{v:Value}{n:Nat}{xs:List Value}(h:w.ownsRow 0 e size v n xs):p8 w e size v n xs:=by
 refine⟨h.1,?_⟩;rcases h.2 with hn|⟨g,cap,kU,rfl,_,hg,h1,h2,h3,h4⟩
 simp_all;exact .inr ⟨g,0,cap,kU,rfl,hg,h1,h2,by omega,by rw[wh];exact h4⟩
theorem mw{w:World}{e:TypeId}{size:Nat}{v:Value}{n:Nat}{xs:List Value}(h:p8 w e size v n xs):∃base cap,v=av base n cap/\n<=cap/\cap<=maxLen/\(base=ak->cap=0):=by
 rcases h.2 with⟨rfl,rfl⟩|⟨g,off,cap,kU,rfl,hg,h1,h2,h3,h4⟩
 grind;exact⟨_,cap,rfl,h1,h2,λh=>by cases h⟩
theorem Ct{w:World}{e:TypeId}{size:Nat}{g off m cap n:Nat}{xs:List Value}(h:p8 w e size (av (aj ⟨g,off,ak⟩) m cap) n xs){j:Nat}{u:Value}(hu:xs[j]?=aj u):w.cell? ⟨g,off+j,ak⟩=aj u:=by
 rcases h.2 with⟨h,_⟩|⟨g',zz,A3,kU,hv,hg,h1,h2,h3,h4⟩
 cases h
 cases hv
 grind[cell_of_row]
theorem NA{w:World}{e:TypeId}{size:Nat}{base:Option Addr}{cap n:Nat}{xs:List Value}(h:p8 w e size (av base (n+1) cap) (n+1) xs):p8 w e size (sN base cap size 1 (n+1)) n (xs.drop size):=by
 rcases h.2 with⟨_,h⟩|⟨g,off,A3,kU,hv,hg,h1,h2,h3,h4⟩
 cases h
 cases hv
 have hl:=h.1;refine⟨by grind,.inr ?_⟩;unfold sN
 by_cases c:cap=1
 ·subst c
  obtain rfl:n=0:=by omega
  grind
 rw[if_neg c];refine⟨g,off+size,cap-1,kU,?_,hg,by omega,by omega,?_,?_⟩;rw[aaQ,Nat.one_mul,eS,Nat.add_sub_cancel]
 ·obtain⟨q,rfl⟩:∃q,cap=q+1:=⟨cap-1,by omega⟩
  grind
 grind[List.drop_drop,pt]
section
variable{P:Program}{n:Nat}{W:bP}{fr:Fr}{L:List b9}{Q:Exit->Act->World->Prop}{ops:Array Oper}{rest:List Oper}{d:Nat}{ty:TypeId}{pos:String}{after:Array Edge}
theorem Wg{i g off size cap m k:Nat}{e:TypeId}{xs:List Value}(hi:L[i]?=aj (rq e size (av (aj ⟨g,off,ak⟩) m cap) k xs)){j:Nat}{v:Value}(hv:xs[j]?=aj v):At W L ⟨g,off+j,ak⟩ v:=λw hm=>Ct (hm.get hi) hv
theorem TY{i size m:Nat}{e:TypeId}{v:Value}{xs:List Value}(hi:L[i]?=aj (rq e size v m xs))(h:∀base cap,v=av base m cap->m<=cap->cap<=maxLen->(base=ak->cap=0)->TL P n W ops Q rest fr L):TL P n W ops Q rest fr L:=⟨λa w hr hm=>by
 obtain⟨base,cap,h1,h2,h3,h4⟩:=mw (hm.get hi:p8 w e size v m xs);exact(h base cap h1 h2 h3 h4).go a w hr hm⟩
theorem aaU(i:Nat){e:TypeId}{size m cap:Nat}{base:Option Addr}{xs:List Value}(hi:L[i]?=aj (rq e size (av base (m+1) cap) (m+1) xs))(h:TL P n W ops Q rest fr (L.set i (rq e size (sN base cap size 1 (m+1)) m (xs.drop size)))):TL P n W ops Q rest fr L:=
 acT (rq e size (sN base cap size 1 (m+1)) m (xs.drop size)) hi (λ_ h=>NA h) (λk hk=>by
  cases base with
  |none=>unfold sN at hk;split at hk<;>cases hk
  | some q=>
   grind[sN,rq,sC,Addr.add]) (λ_ h=>oc h) h
theorem Ks{t ty e:TypeId}{i:TypeInfo}{z:Value}{size bytes:Nat}(ht:P.underlying t=aj (.slice e))(hi:P.info? e=aj i)(hz:i.zero=aj z)(nT:i.size=size)(PB:i.bytes=bytes)(PC:z.cells.size=size)(hsz:0<size)(w:World)
 {v:Value} {m:Nat} {xs:List Value} (lX:p8 w e size v m xs) {a:Addr} {k c:Nat} {news:List Value} (hl:news.length=k*size) (B6:∀j u,news[j]?=aj u->w.cell? (a.add j)=aj u) (h1:∀u∈news,u.oneCell'=aD)
 (qX:m+k<=maxLen) (Jk:(m+k)*bytes<=140737488355328):
 ∃v' w',(uo #[t,t] ty #[v,av (aj a) k c]).run P w= .ok v' w'/\p8 w' e size v' (m+k) (xs++news)/\w.grownBy w' v.ownBlock/\(∀q,v'.ownBlock=aj q->v.ownBlock=aj q\/w.heap.size<=q):=by
 rcases lX.2 with⟨rfl,rfl⟩|⟨g,off,cap,kU,rfl,hg,hnc,LH,hcs,B7⟩
 ·obtain⟨v',w',hr,h2,h3,h4⟩:=oq (ty:=ty) (c:=c) ht hi hz nT PB PC hsz w (⟨lX.1,.inl ⟨rfl,rfl⟩⟩:w.ownsRow 0 e size (av ak 0 0) 0 xs) hl B6 h1 qX Jk
  exact⟨v',w',hr,Wf h2,h3,h4⟩
 ·have hlen:(xs++news).length=(m+k)*size:=by rw[bK,lX.1,hl,nv]
  have ahH:((m+k:Nat):Int)<=9223372036854775807:=by simp only[maxLen]at qX;omega
  subst nT PB
  by_cases hroom:m+k<=cap
  ·have Jl:off+m*i.size+news.length<=kU.size:=by
    have:=Nat.mul_le_mul_right i.size hroom;rw[nv,<-hl]at this;omega
   have hf:=run_firstCells_some (P:=P) w i.size k a k c news hl B6;have hst:=run_storeCells_at P g (off+m*i.size) e news 0 kU w hg J h1;simp only[lO]at hst;refine⟨sW g off (m+k) cap,_,by simp[uo,run_underlying ht,sizeOf,typeInfo,hi,AT,hroom,hf,eS,hst];rfl,⟨hlen,.inr ⟨g,off,cap,_,rfl,setRow_heap w g kU _ e _ hg,hroom,LH,?_,?_⟩⟩,⟨rfl,rfl,rfl,by simp,λk hk h=>setRow_other w g k _ (λe=>h (by simp[sC,e]))⟩,λq hq=> .inl hq⟩
   grind
   grind
  have holds:∀j u,xs[j]?=aj u->w.cell? ((⟨g,off,ak⟩:Addr).add j)=aj u:=λj u hj=>by grind[eS,Ct]
  have hr:=run_append_grow (P:=P) w t ty e i z ht hi hz ⟨g,off,ak⟩ m cap xs lX.1 holds a k c news hl B6 J ahH (growslice_fits J Jk);have hge:=grownCap_ge w (m+k) cap e;have LH:grownCap w (m+k) cap e<=maxLen:=grownCap_le_maxLen w (m+k) cap e qX;refine⟨_,_,hr,⟨hlen,.inr ⟨w.heap.size,0,_,_,rfl,heap_alloc_new w.drew _,hge,LH,?_,?_⟩⟩,⟨rfl,rfl,rfl,by simp,λk hk _=>heap_alloc_old w.drew _ hk⟩,λq hq=> .inr ?_⟩
  ·simp only[Array.size_append,eM,size_zeroCells,PC,lX.1,hl,<-nv,cX]
   simp_all
  grind
  simp_all[sC]
theorem TZ{t e:TypeId}{s x:Operand}{i j size bytes m k:Nat}{v v2:Value}{xs ys:List Value}[tK:rC P t e size bytes](hi:L[i]?=aj (rq e size v m xs))(hj:L[j]?=aj (a_ e size v2 k ys))(hs:ev fr s=aj v)(hx:ev fr x=aj v2)
 (h1:∀u∈ys,u.oneCell'=aD) (qX:m+k<=140737488355328) (hb:(m+k)*bytes<=140737488355328) (hn:dq d n=aD)
 (h:∀v',TL P n W ops Q rest ((d,v')::fr) (L.set i (rq e size v' (m+k) (xs++ys)))):
 TL P n W ops Q (⟨aj d,.call {callee:= .builtin .append,args:=#[s,x],argTypes:=#[t,t]},ty,pos,after,ak⟩::rest) fr L:=k8 I λact w hr hm K hK=>by
 obtain⟨inf,z,ht,zj,hz,nT,PB,PC,hsz⟩:=tK.el.ex;have lX:p8 w e size v m xs:=hm.get hi;have aaV:w.ownsRow 0 e size v2 k ys:=hm.get hj;rcases aaV.2 with⟨rfl,rfl⟩|⟨g,cap,kU,rfl,_⟩
 ·have hy:ys=[]:=mK (by rw[aaV.1];simp)
  subst hy;have h2:=h v;have rB:L.set i (rq e size v (m+0) (xs++[]))=L:=by
   rw[dY,lO];apply mh;intro q
   by_cases hq:i=q
   ·subst hq
    rw[oh (dX.1 hi).1,hi]
   rw[kX hq]
  rw[rB]at h2;have e':(execOp act.eval ⟨aj d,.call {callee:= .builtin .append,args:=#[s,x],argTypes:=#[t,t]},ty,pos,after,ak⟩).run P w= .ok (.value v) w:=by
   obtain⟨base,cap,rfl,q1,q2,q3⟩:=mw lX
   cases base with
   | none=>
    obtain rfl:=q3 rfl;obtain rfl:m=0:=by omega
    simp[me,sv,hr.ev hs,hr.ev hx,uo,run_underlying ht,sizeOf,typeInfo,zj,AT,DI,loadCells,loadCellsFrom]
   |some q=>simp[me,sv,hr.ev hs,hr.ev hx,uo,run_underlying ht,sizeOf,typeInfo,zj,AT,DI,loadCells,loadCellsFrom,q1,storeCells]
  unfold gi;rw[e'];exact hK _ _ (h2.go _ _ (hr.put hn _) hm)
 ·obtain⟨v',w',hrun,h2,h3,h4⟩:=Ks (ty:=ty) (c:=cap) ht zj hz nT PB PC hsz w lX aaV.1 (λq u hq=>by rw[eS,cX];exact jP hj hq w hm) h1 (by unfold maxLen;omega) hb
  have e':(execOp act.eval ⟨aj d,.call {callee:= .builtin .append,args:=#[s,x],argTypes:=#[t,t]},ty,pos,after,ak⟩).run P w= .ok (.value v') w':=by
   simp only[me,sv,List.map_toArray,ff,List.map_nil,hr.ev hs,hr.ev hx,Sem.run_bind,hrun,Result.andThen_ok,Sem.run_pure]
  unfold gi;rw[e'];exact hK _ _ ((h v').go _ _ (hr.put hn _) (hm.CN hi h3 h2 h4))
end
open ia
def rr(e:Ev):List Value:=[az aB e.1,az aB e.2]
theorem Kt(l:List Ev):∀u∈l.flatMap rr,u.oneCell'=true:=by
 intro u hu;obtain⟨f,_,h⟩:=List.mem_flatMap.1 hu;simp only[rr,dM,fz,or_false]at h;rcases h with rfl|rfl<;>rfl
theorem aiv(f f':Ev)(w:World):(od 10000 54 (aQ (rr f).toArray) (aQ (rr f').toArray)).run aE w= .ok (decide (f=f')) w:=by
 obtain⟨k,q⟩:=f;obtain⟨k',q'⟩:=f';unfold rr
 go_simp
 by_cases e1:k=k'<;>by_cases e2:q=q'<;>simp[e1,e2]
theorem Iw(x:Ev)(w:World):Calls aE 96 #[aQ (rr x).toArray] w (bX (ret (.bool (qM x))) w):=by
 obtain⟨k,q⟩:=x;refine enter (args:=[aQ (rr (k,q)).toArray]) (n:=21) Tryz.func96 I I I ?_;refine cB (bD (bL I I I λg=>?_))
 repeat' (first
  |refine QV QP ?_
  |refine QZ ?_
  |refine qs I I I I I I ?_
  |(((try refine qg I I I ?_);first|refine QV QP ?_|refine QV (aC aL.ty I (aI (i:=0) I I)) ?_|refine QV QA ?_|refine QV QlT ?_|refine QV QlF ?_|refine QV QgT ?_|refine QV QgF ?_))
  |refine uI (ez I I I) I I I (λh=>?_) (λh=>?_)
  |refine pw (ez I I I) I I I I I (λh=>?_) (λh=>?_)
  |refine pw (dW I I I) I I I I I (λh=>?_) (λh=>?_)
  |((fail_if_success (refine Pw I I I ?_));(fail_if_success (refine Px I I I ?_));refine A6 I I I (λh=>?_) (λh=>?_)))
 all_goals (refine dG I I ?_;congr 1;unfold qM;dsimp only at*;simp only[*,decide_true,decide_false,Bool.true_or,Bool.false_or,Bool.or_true])
theorem tv(a:Ev):(rr a).length=2:=rfl
theorem wB(v v':Value)(l l':List Ev)(w:World)(hs:Sl w v l.length (l.flatMap rr))(xE:Sl w v' l'.length (l'.flatMap rr)):
 Calls aE 10 #[v,v'] w (bX (ret (.bool (decide (l=l')))) w):=by
 obtain⟨base,cap,rfl,lf,jL,eR⟩:=hs;obtain⟨M5,A3,rfl,akH,aiw,af2⟩:=xE;unfold maxLen at jL aiw;refine enter (args:=[av base l.length cap,av M5 l'.length A3]) (n:=26) Tryz.func10 I I I ?_
 by_cases c1:l.length=l'.length
 ·try refine GA ?_
  refine mM (ι:=Nat) (λk=>k<=l.length/\l.take k=l'.take k) (λk=>[(0,av base l.length cap),(1,av M5 l'.length A3),(12,az aB l.length),(13,az aB (k:Int))]) (λ_=>[]) (λk=>l.length-k) 0 ⟨by omega,rfl⟩ ⟨rfl,rfl,rfl,rfl,trivial⟩ I ?_;rintro k ⟨h1,h2⟩
  by_cases c2:k<l.length
  ·obtain⟨b,off,rfl,hr⟩:=eR J
   obtain⟨b',zz,rfl,Gy⟩:=af2 J;have M4:k<l'.length:=by omega
   have dy:=gd (L:=([]:List b9)) tv hr c2;have aix:=gd (L:=([]:List b9)) tv Gy M4;have Jc:=aiv l[k] l'[k]
   by_cases c3:l[k]=l'[k]
   ·rw[decide_eq_true c3]at Jc
    try refine GA ?_
    refine Yg 8 (dl 8 aD) I (by kernel_rfl) (by kernel_rfl) (by intro c a d v w h;cases d<;>exact h) ?_
    repeat(first|refine gD I (qp I) I I ?_|refine gD I (aZ bQ.eq aL.ty I I c2) I I ?_|refine gD I (aZ bQ.eq aL.ty I I M4) I I ?_|refine gD I (aY aL.ty I I dy) I I ?_|refine gD I (aY aL.ty I I aix) I I ?_|refine gD I (acL bQ.eq I) I I ?_|refine gD I (ez I I (qT J)) I I ?_|refine gD I (ez I I (qF J)) I I ?_|refine gD I (dc I I (qT J)) I I ?_|refine gD I (dc I I (qF J)) I I ?_|refine gD I (fl I I J J I) I I ?_|refine Yh ?_)
    repeat(first|refine GC ?_|refine gV (uM I I (by kernel_rfl) Jc I) ?_|refine GB ?_)
    exact iW (k+1) ⟨by omega,by rw[gv c2,gv M4,h2,c3]⟩ (by show l.length-(k+1)<l.length-k;omega) ⟨rfl,rfl,rfl,rfl,trivial⟩ I
   rw[decide_eq_false c3]at Jc;rw[decide_eq_false (λh=>c3 (by subst h;rfl))]
   try refine GA ?_
   refine Yg 8 (dl 8 aD) I (by kernel_rfl) (by kernel_rfl) (by intro c a d v w h;cases d<;>exact h) ?_
   repeat(first|refine gD I (qp I) I I ?_|refine gD I (aZ bQ.eq aL.ty I I c2) I I ?_|refine gD I (aZ bQ.eq aL.ty I I M4) I I ?_|refine gD I (aY aL.ty I I dy) I I ?_|refine gD I (aY aL.ty I I aix) I I ?_|refine gD I (acL bQ.eq I) I I ?_|refine gD I (ez I I (qT J)) I I ?_|refine gD I (ez I I (qF J)) I I ?_|refine gD I (dc I I (qT J)) I I ?_|refine gD I (dc I I (qF J)) I I ?_|refine gD I (fl I I J J I) I I ?_|refine Yh ?_)
   repeat(first|refine GC ?_|refine gV (uM I I (by kernel_rfl) Jc I) ?_|refine GB ?_)
   exact eB
  have e:l=l':=by
   rw[gT J,gT J]at h2;exact h2
  rw[decide_eq_true e]
  try refine GA ?_
  exact eB
 ·rw[decide_eq_false (λh=>c1 (by rw[h]))]
  try refine GA ?_
  exact eB
theorem yX(v:Value)(l:List Ev)(w:World)(hs:Sl w v l.length (l.flatMap rr))(pF:FuncId)(first cp:Array Value)(p:Ev->Bool)(Bn:Enters aE pF)
 (hp:∀a∈l,∀w',Gr w w'->Calls aE pF (first++#[(aQ (rr a).toArray)]++cp) w' (bX (ret (.bool (p a))) w')):
 Calls aE 121 #[v,.func (.func pF) first cp] w (bX (ret (az aB (rF p l))) w):=by
 obtain⟨base,cap,rfl,lf,jL,eR⟩:=hs;unfold maxLen at jL;refine enter (args:=[av base l.length cap,.func (.func pF) first cp]) (n:=19) Tryz.func121 I I I ?_
 try refine GA ?_
 refine d_ (ι:=Nat) (λk=>k<=l.length/\∀j (hj:j<l.length),j<k->p l[j]=aF) (λk=>[(0,av base l.length cap),(1,.func (.func pF) first cp),(7,az aB l.length),(8,az aB (k:Int))]) (λ_=>[]) (λk=>l.length-k) 0 ⟨by omega,λj hj h=>by omega⟩ ?_;rintro k ⟨h1,h2⟩
 by_cases c2:k<l.length
 ·obtain⟨b,off,rfl,hr⟩:=eR J
  have dy:=gd (L:=([]:List b9)) tv hr c2;have jU:=hp l[k] (cH c2)
  by_cases c3:p l[k]=aD
  ·rw[rG c2 c3 h2]
   rw[c3]at jU;clear hp h2 eR
   repeat(first|refine GA ?_|refine gV (aZ bQ.eq aL.ty I I c2) ?_|refine gV (aY aL.ty I I dy) ?_)
   refine aU (CO Bn I I) (λw hm=>jU w hm.below) I I I ?_;intro _ _
   try refine GA ?_
   exact eB
  have OQ:p l[k]=false:=by simpa using c3
  rw[OQ]at jU;clear hp eR c3
  repeat(first|refine GA ?_|refine gV (aZ bQ.eq aL.ty I I c2) ?_|refine gV (aY aL.ty I I dy) ?_)
  refine aU (CO Bn I I) (λw hm=>jU w hm.below) I I I ?_;intro _ _
  try refine GA ?_
  exact bW (k+1) ⟨by omega,λj hj h=>if e:j<k then h2 j hj e else(by obtain rfl:j=k:=J;exact OQ)⟩ (by show l.length-(k+1)<l.length-k;omega)
 ·rw[rH λj hj=>h2 j hj J]
  clear hp h2 eR
  try refine GA ?_
  exact eB
theorem nk(v:Value)(l:List Ev)(w:World)(hs:Sl w v l.length (l.flatMap rr))(pF:FuncId)(first cp:Array Value)(p:Ev->Bool)(Bn:Enters aE pF)
 (hp:∀a∈l,∀w',Gr w w'->Calls aE pF (first++#[(aQ (rr a).toArray)]++cp) w' (bX (ret (.bool (p a))) w')):
 Calls aE 95 #[v,.func (.func pF) first cp] w (bX (ret (.bool (l.any p))) w):=by
 refine enter (args:=[v,.func (.func pF) first cp]) (n:=9) Tryz.func95 I I I ?_;have hh:=λw' (hg:Gr w w')=>yX v l w' (hs.gr hg) pF first cp p Bn λa ha Gs yy=>hp a ha Gs (hg.trans yy);have hr:=pA p l;rw[<-uS p l];generalize rF p l=r at*
 try refine GA ?_
 refine aU (fC aJ.en I I I) (λw hm=>hh _ hm.below) I I I ?_;intro _ _
 repeat(first|refine GC ?_|refine gV (fu I I I) ?_|refine GB ?_)
 exact eB
theorem p9(v:Value)(l:List Ev)(w:World)(hs:Sl w v l.length (l.flatMap rr))(hl:l.length*16<=140737488355328):
 Calls aE 71 #[v] w (bX (cD 54 2 l.length (l.flatMap rr) id) w):=by
 obtain⟨base,cap,rfl,lf,jL,eR⟩:=hs;unfold maxLen at jL;refine enter (args:=[av base l.length cap]) (n:=8) Tryz.func71 I I I ?_;have rQ:∀w',Gr w w'->Sl w' (av base l.length cap) l.length (l.flatMap rr):=λw' hg=>Sl.gr ⟨base,cap,rfl,lf,jL,eR⟩ hg;clear eR
 cases base with
 | none=>
  repeat(first|refine GC ?_|refine gV (ku bQ.eq I I I) ?_|refine GB ?_)
  have h0:l=[]:=by
   cases l with
   |nil=>rfl
   |cons x l=>obtain⟨_,_,h,_,_,h2⟩:=rQ w (Gr.refl w);simp only[jN]at h;obtain⟨rfl,_⟩:=h;obtain⟨b,off,h,_⟩:=h2 (by simp);cases h
  subst h0;refine dJ 54 2 ?_;exact cJ I I λw hm=>hm.meets (S:=cD 54 2 0 [] id) _ trivial [0] aln I
 |some p=>
  repeat(first|refine GC ?_|refine gV (ku bQ.eq I I I) ?_|refine GB ?_)
  refine wX I λg=>?_
  try refine GA ?_
  refine ee (i:=0) I (λw' hm=>rQ w' hm.below) I I (k_ tv l) (Kt l) J J I λv'=>?_;rw[e7]
  try refine GA ?_
  refine cJ I I λw hm=>?_;exact hm.meets (S:=cD 54 2 l.length (l.flatMap rr) id) v' trivial [0] aln (by simp[cD])
theorem km{v:Value}{c g:Int}(h:v.oneCell'=aD):(#[v,az aB c,az aB g]:Array Value).toList.all ft=true:=by
 simp only[List.all_cons,List.all_nil,h];rfl
def Ak(v:Value)(c g:Int):Value:=aQ #[v,az aB c,az aB g]
theorem tw(v:Value)(wait:List Ev)(c g:Int)(w:World)(hs:Sl w v wait.length (wait.flatMap rr)):
 Calls aE 64 #[Ak v c g] w (bX (ret (az aB (cC wait c g))) w):=by
 have Lp:=λw' (hg:Gr w w')=>nk v wait w' (hs.gr hg) 96 #[] #[] qM aJ.en (λa _ Gs _=>Iw a Gs);obtain⟨base,cap,rfl,lf,jL,eR⟩:=hs;unfold maxLen at jL;clear eR;refine enter (args:=[Ak (av base wait.length cap) c g]) (n:=32) Tryz.func64 I I I ?_;refine cB (bD (bL I I I λgb=>?_))
 repeat' (first
  |refine QV QP ?_
  |refine QZ ?_
  |refine qcT I ?_
  |refine qcF I ?_
  |refine qs I I I I I I ?_
  |(((try refine qg I I I ?_);first|refine QV QP ?_|refine QV (aC aL.ty I (aI (i:=0) I I)) ?_|refine QV QL ?_|refine QV QA ?_|refine QV QlT ?_|refine QV QlF ?_|refine QV QgT ?_|refine QV QgF ?_))
  |refine uI (ez I I I) I I I (λh=>?_) (λh=>?_)
  |refine pw (ez I I I) I I I I I (λh=>?_) (λh=>?_)
  |refine uI (dW I I I) I I I (λh=>?_) (λh=>?_)
  |refine pw (dW I I I) I I I I I (λh=>?_) (λh=>?_)
  |refine k7 (fC aJ.en I I I) (λw hm=>Lp _ hm.below) I I I I I (λ_ _=>?_)
  |((fail_if_success (refine Jf I ?_));(fail_if_success (refine Jg I ?_));refine SF I (λh=>?_) (λh=>?_))
  |((fail_if_success (refine Pw I I I ?_));(fail_if_success (refine Px I I I ?_));refine A6 I I I (λh=>?_) (λh=>?_)))
 all_goals (refine dG I I ?_;unfold cC;repeat (first|rfl|rw[if_pos (by first|omega|assumption)]|rw[if_neg (by first|omega|assumption|simp only[*,rm,not_false_eq_true])]))
theorem wC(v:Value)(wait:List Ev)(c g:Int)(w:World)(hs:Sl w v wait.length (wait.flatMap rr))(hl:wait.length*16<=140737488355328):
 Calls aE 63 #[Ak v c g] w (bX (cD 54 2 wait.length (wait.flatMap rr) λv=>Ak v c g) w):=by
 have jU:=λw' (hg:Gr w w')=>p9 v wait w' (hs.gr hg) hl;refine enter (args:=[Ak v c g]) (n:=8) Tryz.func63 I I I ?_;refine cB (bD (bL I I I λgb=>a8 I λg2=>?_))
 repeat(first|refine GA ?_|refine gV (aC aL.ty I (aI (i:=0) I I)) ?_)
 refine aU (ja aJ.en I I) (λw hm=>jU _ hm.below) I I I ?_;intro v2 _
 try refine GA ?_
 refine aX (i:=2) I λo9 mJ=>?_;refine bJ (i:=0) I I I o9 mJ I ?_
 repeat(first|refine GA ?_|refine gV (aP (i:=0) aL.ty I I I) ?_)
 refine aW (i:=1) I I I I (km mJ) I ?_
 try refine GA ?_
 exact fW (i:=1) I I I I λw hm=>hm.meets (S:=cD 54 2 wait.length (wait.flatMap rr) λv=>Ak v c g) v2 trivial [2] aln I
def Rt(m:List Ev)(c g e:Int):Spec Value:=cD 54 2 m.length (m.flatMap rr) λv=> .tuple #[Ak v c g,az aB e]
theorem Ru(v:Value)(wait:List Ev)(c g:Int)(vl:Value)(l:List Ev)(w:World)(hs:Sl w v wait.length (wait.flatMap rr))(hl:wait.length*16<=140737488355328)(Xd:Sl w vl l.length (l.flatMap rr)):
 Calls aE 132 #[Ak v c g,vl] w (bX (Rt (Kh wait c g l) c g (G0 wait c g l)) w):=by
 have iH:=λw' (hg:Gr w w')=>tw v wait c g w' (hs.gr hg);have hsm:=λw' (hg:Gr w w')=>wC v wait c g w' (hs.gr hg) hl;have Lp:=λw' (hg:Gr w w')=>nk vl l w' (Xd.gr hg) 96 #[] #[] qM aJ.en (λa _ Gs _=>Iw a Gs);have rQ:∀L,SlL w L vl l.length (l.flatMap rr):=λL w' hm=>Xd.gr hm.below;obtain⟨base,cap,rfl,lf,jL,_⟩:=hs;obtain⟨afg,QD,rfl,akI,aiy,_⟩:=Xd;unfold maxLen at jL aiy;refine enter (args:=[Ak (av base wait.length cap) c g,av afg l.length QD]) (n:=35) Tryz.func132 I I I ?_;refine cB (bD (bL I I I λg0=>a8 I λg4=>?_));have kV:=adI (wait:=wait) (c:=c) (g:=g) (l:=l);generalize hE:G0 wait c g l=E at*
 repeat(first|refine GA ?_|refine gV (aP (i:=0) aL.ty I I I) ?_)
 refine aU (ja aJ.en I I) (λw hm=>iH _ hm.below) I I I ?_;intro _ _
 repeat(first|refine QV QP ?_|refine yc ?_|refine DW ?_|refine QV QL ?_|refine QV QA ?_|refine QV QgT ?_|refine QV QgF ?_|refine QV QeT ?_|refine QV QeF ?_|refine QV QnT ?_|refine QV QnF ?_|refine QV QaS ?_)
 refine Ye (ι:=Unit) (λ_=>True) (λ_=>[(1,av afg l.length QD),(2,aK (aj ⟨g0,0,ak⟩)),(4,aK (aj ⟨g4,0,ak⟩)),(6,az aB E)]) (λ_=>[aR g0 (Ak (av base wait.length cap) c g).cells 117,aR g4 #[av ak 0 0,az aB 0,az aB 0] 117]) ?_ ?_
 ·unfold G0 at hE
  by_cases c1:cC wait c g=0
  ·rw[if_neg (by simpa using c1)]at hE
   by_cases c2:l.any qM=aD
   ·rw[if_pos c2]at hE
    subst hE;rw[c2]at Lp;rw[c1]
    try refine GA ?_
    refine aU (fC aJ.en I I I) (λw hm=>Lp _ hm.below) I I I ?_;intro _ _
    try refine GA ?_
    exact eh () trivial (by repeat' (first|exact cV|refine cP I ?_)) I
   rw[if_neg c2]at hE;have M4:l.any qM=false:=by simpa using c2
   rw[M4]at Lp;rw[c1]
   by_cases c3:4200<wait.length+l.length
   ·rw[if_pos c3]at hE
    subst hE
    try refine GA ?_
    refine aU (fC aJ.en I I I) (λw hm=>Lp _ hm.below) I I I ?_;intro _ _
    repeat(first|refine GA ?_|refine gV (aC aL.ty I (aI (i:=0) I I)) ?_)
    exact eh () trivial (by repeat' (first|exact cV|refine cP I ?_)) I
   rw[if_neg c3]at hE;subst hE
   try refine GA ?_
   refine aU (fC aJ.en I I I) (λw hm=>Lp _ hm.below) I I I ?_;intro _ _
   repeat(first|refine GA ?_|refine gV (aC aL.ty I (aI (i:=0) I I)) ?_)
   exact eh () trivial (by repeat' (first|exact cV|refine cP I ?_)) I
  rw[if_pos c1]at hE;subst hE
  try refine GA ?_
  exact eh () trivial (by repeat' (first|exact cV|refine cP I ?_)) I
 ·intro _ _
  repeat(first|refine GA ?_|refine gV (aP (i:=0) aL.ty I I I) ?_)
  refine aU (ja aJ.en I I) (λw hm=>hsm _ hm.below) I I I ?_;intro v2 _;refine aX (i:=2) I λo9 mJ=>?_;refine a8 I λg7=>?_;refine aW (i:=3) I I I I (km mJ) I ?_
  by_cases c1:E=0
  ·have hw:Kh wait c g l=wait++l:=by unfold Kh;rw[hE,if_pos c1]
   subst c1;obtain⟨_,_,k3⟩:=kV rfl;rw[hw]
   repeat(first|refine GA ?_|refine gV (aC aL.ty I (aI (i:=3) I I)) ?_)
   refine ee (i:=2) I (rQ _) I I (k_ tv l) (Kt l) J J I λv'=>?_
   try refine GA ?_
   refine aX (i:=2) I λzo CP=>?_;refine bJ (i:=3) I I I zo CP I ?_
   repeat(first|refine GA ?_|refine gV (aP (i:=3) aL.ty I I I) ?_)
   refine aW (i:=1) I I I I (km CP) I ?_
   try refine GA ?_
   exact dT (i:=1) I I I I I λw hm=>hm.meets (S:=Rt (wait++l) c g 0) v' trivial [2] aln (by simp[Rt,cD])
  have hw:Kh wait c g l=wait:=by unfold Kh;rw[hE,if_neg c1]
  rw[hw]
  repeat(first|refine GA ?_|refine gV (aP (i:=3) aL.ty I I I) ?_)
  refine aW (i:=1) I I I I (km mJ) I ?_
  try refine GA ?_
  exact dT (i:=1) I I I I I λw hm=>hm.meets (S:=Rt wait c g E) v2 trivial [2] aln I
theorem Ku(v:Value)(wait:List Ev)(c g n:Int)(w:World)(hs:Sl w v wait.length (wait.flatMap rr))(hl:wait.length*16<=140737488355328):
 Calls aE 32 #[Ak v c g,az aB n] w (bX (Rt wait (yS wait c g n) g (oF wait c g n)) w):=by
 have iH:=λw' (hg:Gr w w')=>tw v wait c g w' (hs.gr hg);have hsm:=λw' (hg:Gr w w')=>wC v wait c g w' (hs.gr hg) hl;have kV:=V_ (wait:=wait) (c:=c) (g:=g) (n:=n);have zo:=cU (wait:=wait) (c:=c) (g:=g);obtain⟨base,cap,rfl,lf,jL,_⟩:=hs;unfold maxLen at jL;refine enter (args:=[Ak (av base wait.length cap) c g,az aB n]) (n:=32) Tryz.func32 I I I ?_;refine cB (bD (bL I I I λg0=>a8 I λg4=>?_))
 repeat(first|refine QV QP ?_|refine yc ?_|refine DW ?_|refine qs I I I I I I ?_|((try refine qg I I I ?_);first|refine QV QP ?_|refine QV QA ?_|refine QV (DY I I J) ?_|refine QV QeT ?_|refine QV QeF ?_|refine QV QaA ?_|refine QV QlT ?_|refine QV QlF ?_|refine QV QgT ?_|refine QV QgF ?_))
 refine Ye (ι:=Value×Nat) (λ(v2,_)=>v2.oneCell'=aD) (λ(v2,g6)=>[(1,az aB n),(4,aK (aj ⟨g4,0,ak⟩)),(6,aK (aj ⟨g6,0,ak⟩)),(7,az aB (cC wait c g))]) (λ(v2,g6)=>[aR g4 #[av ak 0 0,az aB 0,az aB 0] 117,a_ 54 2 v2 wait.length (wait.flatMap rr),aR g6 (Ak v2 c g).cells 117]) ?_ ?_
 ·refine dH ([aR g0 (Ak (av base wait.length cap) c g).cells 117]) (.calm 0 (.calm 2 (.two 1 (.calm 3 (.one 4 (.one 5 (.calm 6 (.done))))) 4 (.one 1 (.calm 3 (.one 5 (.calm 6 (.done)))))))) (bV [0]) ?_
  repeat(first|refine GW ?_|(refine GN ?_;first|refine QW (aP (i:=0) aL.ty I I I) ?_))
  refine eN I I ?_ ?_
  ·refine aU (ja aJ.en I I) (λw hm=>hsm _ hm.below) I I I ?_
   intro v2 _;refine aO (bV [0]) ?_;refine oP I (ja aJ.en I I) (λw hm=>iH _ hm.below) I I I ?_;refine aM I (a8 I λg6=>aO (bV [0]) ?_);refine aM I ?_;refine aX (i:=2) I λo9 mJ=>?_;refine aW (i:=3) I I I I (km mJ) I ?_;refine aO (bV [0]) ?_
   try refine GW ?_
   refine dv [1,2,3] ?_;exact eh (v2,g6) mJ (by repeat' (first|exact cV|refine cP I ?_)) I
  refine a8 I λg6=>?_;refine aO (bV [0]) ?_;refine aM I ?_;refine aU (ja aJ.en I I) (λw hm=>hsm _ hm.below) I I I ?_;intro v2 _;refine aO (bV [0]) ?_;refine oP I (ja aJ.en I I) (λw hm=>iH _ hm.below) I I I ?_;refine aM I ?_;refine aX (i:=3) I λo9 mJ=>?_;refine aW (i:=2) I I I I (km mJ) I ?_;refine aO (bV [0]) ?_
  try refine GW ?_
  refine dv [1,3,2] ?_;exact eh (v2,g6) mJ (by repeat' (first|exact cV|refine cP I ?_)) I
 rintro⟨v2,g6⟩ mJ;dsimp only at mJ⊢;unfold yS oF at*
 by_cases c1:cC wait c g=0
 ·obtain⟨_,b1,b2,_⟩:=zo c1
  rw[c1];simp only[ne_eq,not_true_eq_false,if_false]
  by_cases c2:n<1
  ·rw[if_pos c2]
   repeat(first|refine GA ?_|refine gV (aP (i:=2) aL.ty I I I) ?_)
   refine aW (i:=0) I I I I (km mJ) I ?_
   try refine GA ?_
   exact dT (i:=0) I I I I I λw hm=>hm.meets (S:=Rt wait c g 1) v2 trivial [1] aln I
  rw[if_neg c2]
  by_cases c3:1073741824<n
  ·rw[if_pos c3]
   repeat(first|refine GA ?_|refine gV (aP (i:=2) aL.ty I I I) ?_)
   refine aW (i:=0) I I I I (km mJ) I ?_
   try refine GA ?_
   exact dT (i:=0) I I I I I λw hm=>hm.meets (S:=Rt wait c g 1) v2 trivial [1] aln I
  rw[if_neg c3]
  repeat(first|refine GC ?_|refine gV (aC aL.ty I (aI (i:=2) I I)) ?_|refine gV (DY I I I) ?_|refine GB ?_)
  refine bJ (i:=2) I I I I I I ?_
  repeat(first|refine GA ?_|refine gV (aP (i:=2) aL.ty I I I) ?_)
  refine aW (i:=0) I I I I (km mJ) I ?_
  try refine GA ?_
  exact dT (i:=0) I I I I I λw hm=>hm.meets (S:=Rt wait (min (c+n) 1073741824) g 0) v2 trivial [1] aln I
 ·rw[if_pos c1,if_neg c1]
  repeat(first|refine GA ?_|refine gV (aP (i:=2) aL.ty I I I) ?_)
  refine aW (i:=0) I I I I (km mJ) I ?_
  try refine GA ?_
  exact dT (i:=0) I I I I I λw hm=>hm.meets (S:=Rt wait c g (cC wait c g)) v2 trivial [1] aln I
def taS(wait:List Ev)(c g n:Int):Spec (Value×Value):=
 if Iq wait c g n=0 then
  ⟨λ_=>True,λx=> .tuple #[Ak x.1 (c-takeN wait c n) (g+takeN wait c n),x.2,az aB 0],λx=>[a_ 54 2 x.1 (wait.length-takeN wait c n) ((wait.drop (takeN wait c n)).flatMap rr),a_ 54 2 x.2 (takeN wait c n) ((wait.take (takeN wait c n)).flatMap rr)]⟩
 else⟨λ_=>True,λx=> .tuple #[Ak x.1 c g,x.2,az aB (Iq wait c g n)],λx=>[a_ 54 2 x.1 wait.length (wait.flatMap rr),a_ 54 2 x.2 0 []]⟩
theorem NB(v:Value)(wait:List Ev)(c g n:Int)(w:World)(hs:Sl w v wait.length (wait.flatMap rr))(hl:wait.length*16<=140737488355328):
 Calls aE 36 #[Ak v c g,az aB n] w (bX (taS wait c g n) w):=by
 have iH:=λw' (hg:Gr w w')=>tw v wait c g w' (hs.gr hg);have hsm:=λw' (hg:Gr w w')=>wC v wait c g w' (hs.gr hg) hl;have zo:=cU (wait:=wait) (c:=c) (g:=g);obtain⟨base,cap,rfl,lf,jL,_⟩:=hs;unfold maxLen at jL;refine enter (args:=[Ak (av base wait.length cap) c g,az aB n]) (n:=55) Tryz.func36 I I I ?_;refine cB (bD (bL I I I λg0=>a8 I λg4=>?_))
 repeat(first|refine QV QP ?_|refine yc ?_|refine DW ?_|refine qs I I I I I I ?_|((try refine qg I I I ?_);first|refine QV QP ?_|refine QV QL ?_|refine QV QA ?_|refine QV (DY I I J) ?_|refine QV QeT ?_|refine QV QeF ?_|refine QV QnT ?_|refine QV QnF ?_|refine QV QaA ?_|refine QV QaS ?_|refine QV QlT ?_|refine QV QlF ?_))
 refine Ye (ι:=Value×Nat) (λ(v2,_)=>v2.oneCell'=aD) (λ(v2,g6)=>[(1,az aB n),(4,aK (aj ⟨g4,0,ak⟩)),(7,aK (aj ⟨g6,0,ak⟩)),(8,az aB (cC wait c g))]) (λ(v2,g6)=>[aR g4 #[av ak 0 0,az aB 0,az aB 0] 117,a_ 54 2 v2 wait.length (wait.flatMap rr),aR g6 (Ak v2 c g).cells 117]) ?_ ?_
 ·refine dH ([aR g0 (Ak (av base wait.length cap) c g).cells 117]) (.calm 0 (.calm 2 (.two 1 (.calm 3 (.one 4 (.one 5 (.calm 6 (.done))))) 4 (.one 1 (.calm 3 (.one 5 (.calm 6 (.done)))))))) (bV [0]) ?_
  repeat(first|refine GW ?_|(refine GN ?_;first|refine QW (aP (i:=0) aL.ty I I I) ?_))
  refine eN I I ?_ ?_
  ·refine aU (ja aJ.en I I) (λw hm=>hsm _ hm.below) I I I ?_
   intro v2 _;refine aO (bV [0]) ?_;refine oP I (ja aJ.en I I) (λw hm=>iH _ hm.below) I I I ?_;refine aM I (a8 I λg6=>aO (bV [0]) ?_);refine aM I ?_;refine aX (i:=2) I λo9 mJ=>?_;refine aW (i:=3) I I I I (km mJ) I ?_;refine aO (bV [0]) ?_
   try refine GW ?_
   refine dv [1,2,3] ?_;exact eh (v2,g6) mJ (by repeat' (first|exact cV|refine cP I ?_)) I
  refine a8 I λg6=>?_;refine aO (bV [0]) ?_;refine aM I ?_;refine aU (ja aJ.en I I) (λw hm=>hsm _ hm.below) I I I ?_;intro v2 _;refine aO (bV [0]) ?_;refine oP I (ja aJ.en I I) (λw hm=>iH _ hm.below) I I I ?_;refine aM I ?_;refine aX (i:=3) I λo9 mJ=>?_;refine aW (i:=2) I I I I (km mJ) I ?_;refine aO (bV [0]) ?_
  try refine GW ?_
  refine dv [1,3,2] ?_;exact eh (v2,g6) mJ (by repeat' (first|exact cV|refine cP I ?_)) I
 rintro⟨v2,g6⟩ mJ;dsimp only at mJ⊢;unfold taS Iq
 by_cases c1:cC wait c g=0
 ·obtain⟨b0,b1,b2,b3,b4,_⟩:=zo c1
  rw[c1];simp only[ne_eq,not_true_eq_false,if_false]
  by_cases c2:n<0
  ·rw[if_pos c2,if_neg aln]
   repeat(first|refine GA ?_|refine gV (aP (i:=2) aL.ty I I I) ?_)
   refine aW (i:=0) I I I I (km mJ) I ?_
   try refine GA ?_
   refine dJ 54 2 ?_;exact fD (i:=0) I I I I I I λw hm=>hm.meets (S:=⟨λ_=>True,λ(x:Value×Value)=> .tuple #[Ak x.1 c g,x.2,az aB 1],λx=>[a_ 54 2 x.1 wait.length (wait.flatMap rr),a_ 54 2 x.2 0 []]⟩) (v2,av ak 0 0) trivial [1,3] aln I
  rw[if_neg c2,if_pos I];have hN:(takeN wait c n:Int)=min n (min c wait.length):=by unfold takeN;omega
  have YT:takeN wait c n<=wait.length:=by omega
  generalize takeN wait c n=N at*;have akg:=λv' w' (hx:Sl w' v' ((wait.drop 0).take (N-0)).length (((wait.drop 0).take (N-0)).flatMap rr))=>p9 v' ((wait.drop 0).take (N-0)) w' hx (by simp;omega);have akh:=λv' w' (hx:Sl w' v' ((wait.drop N).take (wait.length-N)).length (((wait.drop N).take (wait.length-N)).flatMap rr))=>p9 v' ((wait.drop N).take (wait.length-N)) w' hx (by simp;omega);refine Jq (i:=1) I λb2 QD l_ q1 q2=>?_;subst l_
  repeat(first|refine GC ?_|refine gV (aC aL.ty I (aI (i:=2) I I)) ?_|refine gV (acQ I I I hN.symm) ?_|refine gV (A8 bQ.eq aL.ty I I J) ?_|refine GB ?_)
  refine aU (ja aJ.en I I) (λw hm=>akg _ _ (A9 tv (iQ (i:=1) I w hm) J YT)) I I I ?_;intro vg _
  repeat(first|refine GC ?_|refine gV (aC aL.ty I (aI (i:=2) I I)) ?_|refine gV (rI bQ.eq aL.ty I I YT q1) ?_|refine GB ?_)
  refine aU (ja aJ.en I I) (λw hm=>akh _ _ (A9 tv (iQ (i:=1) I w hm) YT J)) I I I ?_;intro vw _
  try refine GA ?_
  refine aX (i:=4) I λhc3 Xa=>?_;refine bJ (i:=2) I I I hc3 Xa I ?_
  repeat(first|refine GA ?_|refine gV (aC aL.ty I (aI (i:=2) I I)) ?_)
  refine bJ (i:=2) I I I I I I ?_
  repeat(first|refine GA ?_|refine gV (aC aL.ty I (aI (i:=2) I I)) ?_)
  refine bJ (i:=2) I I I I I I ?_
  repeat(first|refine GA ?_|refine gV (aP (i:=2) aL.ty I I I) ?_)
  refine aW (i:=0) I I I I (km Xa) I ?_
  try refine GA ?_
  have e1:(wait.drop 0).take (N-0)=wait.take N:=by simp
  have e2:(wait.drop N).take (wait.length-N)=wait.drop N:=gT (by simp);have e3:(wait.take N).length=N:=by simp;omega
  have e4:(wait.drop N).length=wait.length-N:=by simp
  refine fD (i:=0) I I I I I I λw hm=>hm.meets (S:=⟨λ_=>True,λ(x:Value×Value)=> .tuple #[Ak x.1 (c-N) (g+N),x.2,az aB 0],λx=>[a_ 54 2 x.1 (wait.length-N) ((wait.drop N).flatMap rr),a_ 54 2 x.2 N ((wait.take N).flatMap rr)]⟩) (vw,vg) trivial [4,3] aln ?_;show _=[a_ 54 2 vw ((wait.drop N).take (wait.length-N)).length (((wait.drop N).take (wait.length-N)).flatMap rr),a_ 54 2 vg ((wait.drop 0).take (N-0)).length (((wait.drop 0).take (N-0)).flatMap rr)]
  rw[e1,e2,e3,e4]
 ·rw[if_pos c1,if_neg (by simpa using c1)]
  repeat(first|refine GA ?_|refine gV (aP (i:=2) aL.ty I I I) ?_)
  refine aW (i:=0) I I I I (km mJ) I ?_
  try refine GA ?_
  refine dJ 54 2 ?_;exact fD (i:=0) I I I I I I λw hm=>hm.meets (S:=⟨λ_=>True,λ(x:Value×Value)=> .tuple #[Ak x.1 c g,x.2,az aB (cC wait c g)],λx=>[a_ 54 2 x.1 wait.length (wait.flatMap rr),a_ 54 2 x.2 0 []]⟩) (v2,av ak 0 0) trivial [1,3] aln I
open aV
theorem NC(k q:Int)(w:World):(dg 182 #[(0,az aB k),(1,az aB q)]).run aE w= .ok (aQ #[az aB k,az aB q]) w:=by
 go_simp
open zy cz
def yY(R:List Row)(tags:List Int):List Row:=if lI R tags=0 then(nf (eL R tags) (dr (eL R tags))).2 else []
def yZ(R:List Row)(tags:List Int):List Int:=if lI R tags=0 then(nf (eL R tags) (dr (eL R tags))).1.map (eL R tags).tag else []
theorem T2{R:List Row}{tags:List Int}(h:lI R tags=0):(yY R tags).length=(yZ R tags).length/\(yY R tags).length=(pU (eL R tags)).n:=by
 obtain⟨hA,_⟩:=oH h;have:=(E8 (bl:=dr (eL R tags)) hA).2.len;unfold yY yZ;rw[if_pos h,if_pos h,eI];exact⟨this,this⟩
theorem T3{R:List Row}{tags:List Int}(h:lI R tags=0):eL (yY R tags) (yZ R tags)=pU (eL R tags):=by
 have hl:=(T2 h).2;have e1:yY R tags=(nf (eL R tags) (dr (eL R tags))).2:=if_pos h;have e2:yZ R tags=(nf (eL R tags) (dr (eL R tags))).1.map (eL R tags).tag:=if_pos h;show tX.mk (yY R tags).length _ _=_
 rw[hl];rw[e1,e2];rfl
theorem Ds{R:List Row}{tags:List Int}(h:lI R tags=0):lI (yY R tags) (yZ R tags)=0:=by
 refine Kk ?_ (T2 h).1.symm;rw[T3 h];exact Dm (oH h).1
def wD(bl:Nat->Nat)(Q:List Nat)(b:Nat):Int:=if b∈Q.map bl then(idx (Q.map bl) b:Int)+1 else 0
theorem aaW{bl:Nat->Nat}{Q:List Nat}{q:Nat}(hn:bl q∉Q.map bl)(b:Nat):wD bl (Q++[q]) b=if b=bl q then(Q.length:Int)+1 else wD bl Q b:=by
 unfold wD;rw[eZ,aaL]
 by_cases c:b=bl q
 ·subst c
  rw[if_pos (by simp),if_pos I];have:=rJ (D:=Q.map bl) (k:=bl q);unfold more at this;rw[if_neg hn,if_neg hn]at this;rw[this,eI]
 rw[if_neg c]
 by_cases c2:b∈Q.map bl
 rw[if_pos c2,if_pos (uE _ c2),qE c2];rw[if_neg c2,if_neg];rw[gj,eV];rintro(h|h);exact c2 h;exact c h
def BJ(l:List Int):Row:=rf λb:Fin 256=>if b<l.length then l.getD b 0 else-1
theorem aaX:BJ []=eC 256 (-1):=by
 refine kN λj hj=>?_;unfold BJ;simp
theorem aaY{l:List Int}(h:l.length=256):BJ l=vec l:=by
 refine kN λj hj=>?_;unfold BJ vec;simp[h,hj]
theorem Fu(l:List Int)(x:Int)(h:l.length<256):(BJ l).set l.length x=BJ (l++[x]):=by
 refine kN λj hj=>?_;unfold BJ;rw[wj,kM,kM];simp only[bK,kO];split
 ·rename_i e;subst e
  rw[if_pos J,sT (bC _),Be];rfl
 by_cases c:j<l.length
 rw[if_pos c,if_pos J,lC c];rw[if_neg c,if_neg J]
theorem Wh(l:List Int)(h:l.length<256):BJ (l++[-1])=BJ l:=by
 rw[<-Fu l (-1) h];refine kN λj hj=>?_;rw[wj];split
 ·rename_i e;subst e;unfold BJ;simp
 rfl
structure aaZ(R:List Row)(tags:List Int)(f n:Nat)(Q:List Nat)(out:List Row):Prop where
 eq:nf (eL R tags) (dr (eL R tags))=xL (eL R tags) (dr (eL R tags)) f n Q out
 ok:VV (eL R tags) (dr (eL R tags)) Q
 outs:VW (eL R tags) (dr (eL R tags)) n Q out
 fuel:(eL R tags).n+1<=f+n
theorem aiz{R:List Row}{tags:List Int}(hA:(eL R tags).Ok):aaZ R tags (R.length+1) 0 [0] []:=⟨rfl,aid hA,⟨rfl,bH _,λk hk=>by omega⟩,bC _⟩
theorem Wi{R:List Row}{tags:List Int}(hA:(eL R tags).Ok){f n:Nat}{Q:List Nat}{out:List Row}(h:aaZ R tags f n Q out)(hn:n<Q.length):∃f',f=f'+1/\aaZ R tags f' (n+1) (lD (eL R tags) (dr (eL R tags)) (Q.getD n 0) Q 256).1 (out++[vec (lD (eL R tags) (dr (eL R tags)) (Q.getD n 0) Q 256).2]):=by
 have h1:=h.ok.len;have h2:=h.fuel;obtain⟨f',rfl⟩:∃f',f=f'+1:=⟨f-1,by omega⟩;have e:=h.eq;unfold xL at e;rw[if_pos hn]at e;exact⟨f',rfl,e,Dl hA h.ok (h.ok.lt _ (wk hn)) 256 (bC _),Ic hA h.outs hn,by omega⟩
theorem aa0{R:List Row}{tags:List Int}{f n:Nat}{Q:List Nat}{out:List Row}(h:aaZ R tags f n Q out)(hn:¬n<Q.length):nf (eL R tags) (dr (eL R tags))=(Q,out)/\n=Q.length:=by
 have h1:=h.outs.le;refine⟨?_,by omega⟩;rw[h.eq]
 cases f with
 |zero=>rfl
 |succ f=>unfold xL;rw[if_neg hn]
def ad2(R:List Row)(tags:List Int):Spec (Value×Value):=⟨λ_=>True,λx=> .tuple #[jc x.1 x.2,az aB (lI R tags)],λx=>[a_ 210 256 x.1 (yY R tags).length ((yY R tags).flatMap e8),a_ 3 1 x.2 (yZ R tags).length ((yZ R tags).flatMap cL.eJ)]⟩
theorem Rv(w:World):(dg 137 #[]).run aE w= .ok (jc (av ak 0 0) (av ak 0 0)) w:=by kernel_rfl
set_option maxRecDepth 100000 in
theorem G4(vr vt:Value)(R:List Row)(tags:List Int)(w:World)(h:G2 w vr vt R tags):
 Calls aE 42 #[jc vr vt] w (bX (ad2 R tags) w):=by
 have iH:=λw' (hg:Gr w w')=>Fq vr vt R tags w' (h.gr hg);have PO:=λw' (hg:Gr w w') hc=>Km vr vt R tags w' (h.gr hg) hc;obtain⟨bt,ct,rfl,ht1,OR,GI⟩:=h.hT;obtain⟨br,cr,rfl,Vi,tV,Ep⟩:=h.hR;have ad3:=h.rng;unfold maxLen at tV OR;clear h
 by_cases hc:lI R tags=0
 ·obtain⟨hA,hlt⟩:=oH hc
  have hbo:=HM hA;have en:(eL R tags).n=R.length:=rfl;have xp:0<R.length:=hA.pos;have hle:R.length<=200:=hA.le;obtain⟨b,off,rfl,hr⟩:=Ep xp;obtain⟨bb,ma,rfl,hrt⟩:=GI J;clear Ep GI;unfold ad2;have er:yY R tags=(nf (eL R tags) (dr (eL R tags))).2:=if_pos hc;have et:yZ R tags=(nf (eL R tags) (dr (eL R tags))).1.map (eL R tags).tag:=if_pos hc;rw[er,et];clear er et;have aiA:=hbo.le 0 xp;rw[en]at aiA;rw[hc]at iH⊢;refine enter (args:=[jc (av (aj ⟨b,off,ak⟩) R.length cr) (av (aj ⟨bb,ma,ak⟩) tags.length ct)]) (n:=113) Tryz.func42 I I I ?_;refine cB (bD (bL I I I λg1=>?_));refine a8 I λg2=>?_;refine zL ?_
  repeat(first|refine GA ?_|refine gV (aC aL.ty I (aI (i:=0) I I)) ?_|refine gV (aP (i:=0) aL.ty I I I) ?_)
  refine aU (ja aJ.en I I) (λw hm=>iH _ hm.below) I I I ?_;intro _ _
  repeat(first|refine GA ?_|refine gV (aP (i:=0) aL.ty I I I) ?_)
  refine aU (ja aJ.en I I) (λw hm=>PO _ hm.below hc) I I I ?_;intro g5 _;refine zL ?_
  repeat(first|refine GA ?_|refine gV (aC aL.ty I (aI (i:=0) I I)) ?_)
  refine pE (m:=R.length+1) lW 0 (by rfl) (by rfl) J J I λg6=>?_;refine zL ?_
  try refine GA ?_
  refine a8 I λg7=>?_;refine zL ?_
  try refine GA ?_
  refine fO I I I I I λg8=>?_;refine zL ?_;refine zk (i:=5) (m:=1) 1 I I aln ?_;refine zL ?_
  repeat(first|refine GA ?_|refine gV (bY (j:=0) bQ.eq aL.ty I I xp) ?_|refine gV (aC aL.ty I (gI (i:=2) I xp)) ?_|refine gV (bY (j:=dr (eL R tags) 0) bQ.eq aL.ty I I J) ?_)
  refine ji (i:=3) (off:=dr (eL R tags) 0) (v:=1) (wD (dr (eL R tags)) [0]) aL.ty I I I I I J (λj hj=>?_) ?_
  ·by_cases e:j=dr (eL R tags) 0
   subst e;simp[wD,idx];rw[if_neg e];unfold wD;rw[if_neg (by simpa using e)]
  refine zL ?_
  try refine GA ?_
  refine iz 210 256 ?_;refine iz 3 1 ?_
  conv=>arg 7;simp only[zA,zB,zC,zD,zE,zF,zG,zH,zI,cD,ret,id_eq]
  have yq:=aiz (tags:=tags) hA;have jb:=λf n Q out=>@aa0 R tags f n Q out;have nl:=λf n Q out=>@Wi R tags hA f n Q out;have aki:=hbo.le;clear aiA hbo PO iH;generalize akj:dr (eL R tags)=nb at*;refine d_ (ι:=Nat×Nat×List Nat×List Row×Value×Value×Value) (λ(f,n,Q,out,_)=>aaZ R tags f n Q out) (λ(_,n,_,_,vQ,_,_)=>[(1,aK (aj ⟨g1,0,ak⟩)),(2,aK (aj ⟨g2,0,ak⟩)),(5,av (aj ⟨g5,0,ak⟩) R.length R.length),(6,av (aj ⟨g6,0,ak⟩) (R.length+1) (R.length+1)),(7,aK (aj ⟨g7,0,ak⟩)),(8,vQ),(9,az aB (n:Int))])
   (λ(_,n,Q,out,vQ,vR,vT)=>[aR g1 (jc (av (aj ⟨b,off,ak⟩) R.length cr) (av (aj ⟨bb,ma,ak⟩) tags.length ct)).cells 137,aR g2 (jc (av ak 0 0) (av ak 0 0)).cells 137,fE 3 lW g5 R.length λi=>(nb i:Int),fE 3 lW g6 (R.length+1) (wD nb Q),aR g7 (jc vR vT).cells 137,a_ 3 1 vQ Q.length (Q.map λq:Nat=>lW q),a_ 210 256 vR out.length (out.flatMap e8),a_ 3 1 vT n (((Q.take n).map (eL R tags).tag).flatMap cL.eJ)]) (λ(f,_)=>f) (R.length+1,0,[0],[],av (aj ⟨g8,0,ak⟩) 1 1,av ak 0 0,av ak 0 0) yq ?_
  rintro⟨f,n,Q,out,vQ,vR,vT⟩ hw;dsimp only at hw⊢;have hQ:=hw.ok;have hQl:=hQ.len;have ak8:=hw.outs.len;rw[akj]at hQ;rw[en]at hQl
  by_cases c1:n<Q.length
  ·obtain⟨f',rfl,ud⟩:=nl _ _ _ _ hw c1
   have hq:=hQ.lt _ (wk c1);have hqc:(Q.map λq:Nat=>lW q)[0+n]?=aj (lW (Q.getD n 0)):=by rw[cX,jy,de,bM c1];rfl
   rw[en]at hq;have qW:=Cs (-1);have hrw:=λk hk=>Dl (bl:=nb) hA hQ (q:=Q.getD n 0) (by rw[en];exact hq) k hk;have agN:=J6 (A:=eL R tags) (bl:=nb) (Q.getD n 0) Q;have JU:=J5 (A:=eL R tags) (bl:=nb) (Q.getD n 0) Q;have hst:∀k,k<256->St (eL R tags) ((eL R tags).d (Q.getD n 0) k):=λk hk=>hA.step _ hq k hk;have hd:∀(k:Nat) (hk:k<256),(eL R tags).d (Q.getD n 0) k=(R[Q.getD n 0]'hq)[k]:=λk hk=>Nq hq hk;have Kv:Q.getD n 0<tags.length:=by omega
   have htg:(eL R tags).tag (Q.getD n 0)=tags[Q.getD n 0]'Kv:=Ai Kv;have Rw:=λ(L:List b9)=>gd (W:=w) (L:=L) dC hr hq;have G5:=λ(L:List b9)=>gd (W:=w) (L:=L) (c:=1) (f:=cL.eJ) (λ_=>rfl) hrt Kv 0 _ I;have hQn:Q.getD n 0=Q[n]:=by rw[de,bM c1];rfl
   clear jb nl hw;generalize hqq:Q.getD n 0=q at*;generalize hrr:R[q]=r at*
   repeat(first|refine GC ?_|refine gV (e_ (i:=5) bQ.eq I I) ?_|refine GB ?_)
   refine aU (ja aJ.en I I) (λw hm=>qW _) I I I ?_;intro _ _
   try refine GA ?_
   refine a8 I λg10=>?_;refine zL ?_;refine aW (i:=8) (cs':=(e8 (eC 256 (-1))).toArray) I I I (by rw[eM,dC]) (by simpa using r7 (eC 256 (-1))) (by kernel_rfl) ?_;refine zL ?_
   try refine GA ?_
   refine yp (i:=5) I J λgQ cQ hv hcQ ak9=>?_;subst hv
   (repeat refine cB ?_)
   refine dH ([aR g1 (jc (av (aj ⟨b,off,ak⟩) R.length cr) (av (aj ⟨bb,ma,ak⟩) tags.length ct)).cells 137,a_ 3 1 (av (aj ⟨gQ,0,ak⟩) Q.length cQ) Q.length (Q.map λq:Nat=>lW q)]) (.calm 0 (.calm 1 (.calm 2 (.calm 3 (.calm 4 (.calm 5 (.calm 6 (.calm 7 (.calm 8 (.done)))))))))) (bV [0,5]) ?_
   repeat(first|refine GW ?_|(refine GN ?_;first|refine QW (aC aL.ty I (aI (i:=0) I I)) ?_|refine QW (bY (j:=n) bQ.eq aL.ty I I c1) ?_|refine QW (aC aL.ty I (jP (i:=1) I hqc)) ?_|refine QW (aZ (j:=q) bQ.eq aL.ty I I hq) ?_|refine QW (aY aL.ty I (dC r) (Rw _)) ?_))
   try refine GA ?_
   rw[<-aaX];refine tW [0,1,2,3,4,6,7,8,5] ?_;refine d_ (ι:=Nat×Value) (λ(k,_)=>k<=256) (λ(k,vK)=>[(1,aK (aj ⟨g1,0,ak⟩)),(2,aK (aj ⟨g2,0,ak⟩)),(5,av (aj ⟨g5,0,ak⟩) R.length R.length),(6,av (aj ⟨g6,0,ak⟩) (R.length+1) (R.length+1)),(7,aK (aj ⟨g7,0,ak⟩)),(8,vK),(9,az aB (n:Int)),(10,aK (aj ⟨g10,0,ak⟩)),(46,CY r),(47,az aB (k:Int))])
    (λ(k,vK)=>[aR g1 (jc (av (aj ⟨b,off,ak⟩) R.length cr) (av (aj ⟨bb,ma,ak⟩) tags.length ct)).cells 137,aR g2 (jc (av ak 0 0) (av ak 0 0)).cells 137,fE 3 lW g5 R.length λi=>(nb i:Int),fE 3 lW g6 (R.length+1) (wD nb (lD (eL R tags) nb q Q k).1),aR g7 (jc vR vT).cells 137,a_ 210 256 vR out.length (out.flatMap e8),a_ 3 1 vT n (((Q.take n).map (eL R tags).tag).flatMap cL.eJ),aR g10 (e8 (BJ (lD (eL R tags) nb q Q k).2)).toArray 210,a_ 3 1 vK (lD (eL R tags) nb q Q k).1.length ((lD (eL R tags) nb q Q k).1.map λq:Nat=>lW q)]) (λ(k,_)=>256-k) (0,av (aj ⟨gQ,0,ak⟩) Q.length cQ) (bH _) ?_
   rintro⟨k,vK⟩ hk;dsimp only at hk⊢
   by_cases c2:k<256
   ·have hcell:(e8 r).toArray[k]?=aj (.int .i16 r[k]):=by rw[List.getElem?_toArray];exact pZ r c2
    have hx:=hd k c2;have hsx:=hst k c2;have kV:=hrw k hk;have hlen:=JU k;have G6:=(MX kV hsx).len;have nl:lD (eL R tags) nb q Q (k+1)=((pT nb (lD (eL R tags) nb q Q k).1 ((eL R tags).d q k)).1,(lD (eL R tags) nb q Q k).2++[(pT nb (lD (eL R tags) nb q Q k).1 ((eL R tags).d q k)).2]):=rfl;rw[hx]at nl hsx G6;clear hx hst hrw agN JU hd Rw G5;generalize r[k]=x at*;generalize lD (eL R tags) nb q Q k=RQ at*;obtain⟨Qk,vk⟩:=RQ;dsimp only at kV hlen G6 nl⊢;subst hlen;unfold St at hsx;rw[en]at hsx
    by_cases c3:val nb x=0
    ·have e:pT nb Qk x=(Qk,-1):=by unfold pT;rw[if_pos c3]
     rw[e]at nl;have aa1:∀(S:List b9),S=[aR g1 (jc (av (aj ⟨b,off,ak⟩) R.length cr) (av (aj ⟨bb,ma,ak⟩) tags.length ct)).cells 137,aR g2 (jc (av ak 0 0) (av ak 0 0)).cells 137,fE 3 lW g5 R.length λi=>(nb i:Int),fE 3 lW g6 (R.length+1) (wD nb Qk),aR g7 (jc vR vT).cells 137,a_ 210 256 vR out.length (out.flatMap e8),a_ 3 1 vT n (((Q.take n).map (eL R tags).tag).flatMap cL.eJ),aR g10 (e8 (BJ vk)).toArray 210,a_ 3 1 vK Qk.length (Qk.map λq:Nat=>lW q)]->S=[aR g1 (jc (av (aj ⟨b,off,ak⟩) R.length cr) (av (aj ⟨bb,ma,ak⟩) tags.length ct)).cells 137,aR g2 (jc (av ak 0 0) (av ak 0 0)).cells 137,fE 3 lW g5 R.length λi=>(nb i:Int),fE 3 lW g6 (R.length+1) (wD nb (lD (eL R tags) nb q Q (vk.length+1)).1),aR g7 (jc vR vT).cells 137,a_ 210 256 vR out.length (out.flatMap e8),a_ 3 1 vT n (((Q.take n).map (eL R tags).tag).flatMap cL.eJ),aR g10 (e8 (BJ (lD (eL R tags) nb q Q (vk.length+1)).2)).toArray 210,a_ 3 1 vK (lD (eL R tags) nb q Q (vk.length+1)).1.length ((lD (eL R tags) nb q Q (vk.length+1)).1.map λq:Nat=>lW q)]:=λS h=>by
      rw[nl];dsimp only;rw[Wh vk c2];exact h
     by_cases c4:x<0
     ·repeat(first|refine GA ?_|refine gV (jQ bQ.eq aL.ty I I c2 hcell) ?_)
      exact iW (vk.length+1,vK) (by show vk.length+1<=256;omega) (by show 256-(vk.length+1)<256-vk.length;omega) (by repeat' (first|exact cV|refine cP I ?_)) (aa1 _ I)
     obtain⟨m,rfl⟩:∃m:Nat,x=m:=⟨x.toNat,by omega⟩;have hm:m<R.length:=by omega
     rw[Ae]at c3
     repeat(first|refine GC ?_|refine gV (jQ bQ.eq aL.ty I I c2 hcell) ?_|refine gV (bY (j:=m) bQ.eq aL.ty I I hm) ?_|refine gV (aC aL.ty I (gI (i:=2) I hm)) ?_|refine gV (cY (b:=aD) I I (decide_eq_true J)) ?_|refine GB ?_)
     exact iW (vk.length+1,vK) (by show vk.length+1<=256;omega) (by show 256-(vk.length+1)<256-vk.length;omega) (by repeat' (first|exact cV|refine cP I ?_)) (aa1 _ I)
    have c4:¬x<0:=λe=>c3 (by unfold val;rw[if_pos e]);obtain⟨m,rfl⟩:∃m:Nat,x=m:=⟨x.toNat,by omega⟩;have hm:m<R.length:=by omega
    rw[Ae]at c3;have hbm:=aki m hm;rw[en]at hbm;have e:pT nb Qk (m:Int)=(E6 nb Qk (m:Int),(idx ((E6 nb Qk (m:Int)).map nb) (nb m):Int)):=by unfold pT;rw[Ae,if_neg c3,dD]
    rw[e]at nl G6;dsimp only at G6 nl;rw[en]at G6;unfold E6 at nl G6;rw[dD]at nl G6
    by_cases c5:nb m∈Qk.map nb
    ·rw[if_pos c5]at nl G6
     have hid:=nC c5;rw[eI]at hid;have aa2:wD nb Qk (nb m)=(idx (Qk.map nb) (nb m):Int)+1:=by unfold wD;rw[if_pos c5]
     generalize idx (Qk.map nb) (nb m)=z at*
     repeat(first|refine GC ?_|refine gV (jQ bQ.eq aL.ty I I c2 hcell) ?_|refine gV (bY (j:=m) bQ.eq aL.ty I I hm) ?_|refine gV (aC aL.ty I (gI (i:=2) I hm)) ?_|refine gV (cY (b:=aF) I I (decide_eq_false J)) ?_|refine gV (bY (j:=nb m) bQ.eq aL.ty I I J) ?_|refine gV (aC aL.ty I (gI (i:=3) I (show nb m<R.length+1 by omega))) ?_|refine gV (eT (r:=(z:Int)) I I J J J) ?_|refine gV (jk bQ.eq bQ.eq I (Rj J J)) ?_|refine gV (hZ bQ.eq aL.ty I I c2) ?_|refine GB ?_)
     refine r8 (i:=7) I I I c2 ?_;rw[Fu vk z c2];refine zL ?_
     try refine GA ?_
     exact bW (vk.length+1,vK) (by show vk.length+1<=256;omega) (by show 256-(vk.length+1)<256-vk.length;omega) (hl:=by dsimp only;rw[nl])
    rw[if_neg c5]at nl G6;have aa2:wD nb Qk (nb m)=0:=by unfold wD;rw[if_neg c5]
    have GK:=aaW (q:=m) c5;have aiB:wD nb (Qk++[m]) (nb m)=(Qk.length:Int)+1:=by rw[GK,if_pos I]
    have agj:idx ((Qk++[m]).map nb) (nb m)=Qk.length:=by
     have h1:=aiB;unfold wD at h1;rw[if_pos (by simp)]at h1;omega
    rw[agj]at nl;rw[bK,kO]at G6
    repeat(first|refine GC ?_|refine gV (jQ bQ.eq aL.ty I I c2 hcell) ?_|refine gV (bY (j:=m) bQ.eq aL.ty I I hm) ?_|refine gV (aC aL.ty I (gI (i:=2) I hm)) ?_|refine gV (cY (b:=aF) I I (decide_eq_false (show ¬(nb m:Int)=0 by omega))) ?_|refine gV (bY (j:=nb m) bQ.eq aL.ty I I J) ?_|refine gV (aC aL.ty I (gI (i:=3) I (show nb m<R.length+1 by omega))) ?_|refine gV (cY (b:=aD) I I (decide_eq_true aa2)) ?_|refine gV (jk bQ.eq bQ.eq I (nO J J)) ?_|refine GB ?_)
    refine iA (i:=8) I I I I I I (λz h=>by cases h;rfl) J J I λz v2=>?_;refine zL ?_
    repeat(first|refine GC ?_|refine gV (bY (j:=m) bQ.eq aL.ty I I hm) ?_|refine gV (aC aL.ty I (gI (i:=2) I hm)) ?_|refine gV (bY (j:=nb m) bQ.eq aL.ty I I J) ?_|refine gV (e_ (i:=8) bQ.eq I I) ?_|refine GB ?_)
    refine ji (i:=3) (off:=nb m) (v:=((Qk.length+1:Nat):Int)) (wD nb (Qk++[m])) aL.ty I I I I I J (λj hj=>by rw[GK];rfl) ?_;refine zL ?_
    repeat(first|refine GC ?_|refine gV (bY (j:=m) bQ.eq aL.ty I I hm) ?_|refine gV (aC aL.ty I (gI (i:=2) I hm)) ?_|refine gV (bY (j:=nb m) bQ.eq aL.ty I I J) ?_|refine gV (aC aL.ty I (gI (i:=3) I (show nb m<R.length+1 by omega))) ?_|refine gV (eT (r:=(Qk.length:Int)) I I J J J) ?_|refine gV (jk bQ.eq bQ.eq I (Rj J J)) ?_|refine gV (hZ bQ.eq aL.ty I I c2) ?_|refine GB ?_)
    refine r8 (i:=7) I I I c2 ?_;rw[Fu vk (Qk.length:Int) c2];refine zL ?_
    try refine GA ?_
    exact bW (vk.length+1,v2) (by show vk.length+1<=256;omega) (by show 256-(vk.length+1)<256-vk.length;omega) (hl:=by dsimp only;rw[nl];simp)
   obtain rfl:k=256:=by omega
   have kV:=(hrw 256 (bC _)).len;obtain⟨E,hE⟩:=agN 256;have hv:=JU 256;clear hrw agN JU hst hd Rw;generalize lD (eL R tags) nb q Q 256=RQ at*;obtain⟨Qe,ve⟩:=RQ;dsimp only at kV hE hv ud⊢;subst hE;rw[aaY hv];rw[en]at kV;have hqe:((Q++E).map λq:Nat=>lW q)[0+n]?=aj (lW q):=by
    rw[cX,jy,mg c1,bM c1,<-hQn];rfl
   have oB:(((Q++E).take (n+1)).map (eL R tags).tag).flatMap cL.eJ=((Q.take n).map (eL R tags).tag).flatMap cL.eJ++[lW tags[q]]:=by
    rw[List.take_append_of_le_length J,gv c1,<-hQn,eZ,ir,aaL,List.flatMap_singleton,htg];rfl
   rw[bK]at kV;have aiC:n<(Q++E).length:=by rw[bK];omega
   repeat(first|refine GA ?_|refine gV (aC aL.ty I (aI (i:=4) I I)) ?_|refine gV (aP (i:=7) aL.ty I I (by rw[eM,dC])) ?_)
   refine jR (i:=5) I I (by rw[eM,dC]) I (by simpa using r7 (vec ve)) I I (λz h=>by cases h;rfl) J J I λz v2=>?_;refine zL ?_
   try refine GA ?_
   refine aX (i:=5) I λo9 mJ=>?_;refine bJ (i:=4) I I I o9 mJ I ?_;refine zL ?_
   try refine GA ?_
   refine yp (i:=8) I J λgQ' cQ' L6 ak_ akJ=>?_;subst L6
   (repeat refine cB ?_)
   refine dH ([aR g1 (jc (av (aj ⟨b,off,ak⟩) R.length cr) (av (aj ⟨bb,ma,ak⟩) tags.length ct)).cells 137,a_ 3 1 (av (aj ⟨gQ',0,ak⟩) (Q++E).length cQ') (Q++E).length ((Q++E).map λq:Nat=>lW q)]) (.calm 0 (.calm 2 (.calm 3 (.calm 4 (.calm 5 (.calm 6 (.calm 7 (.calm 8 (.calm 9 (.two 1 (.one 10 (.one 11 (.calm 12 (.one 13 (.done))))) 10 (.one 1 (.one 11 (.calm 12 (.one 13 (.done))))))))))))))) (bV [0,8]) ?_
   repeat(first|refine GW ?_|(refine GN ?_;first|refine QW (aC aL.ty I (aI (i:=0) I I)) ?_|refine QW (bY (j:=n) bQ.eq aL.ty I I aiC) ?_|refine QW (aC aL.ty I (jP (i:=1) I hqe)) ?_|refine QW (aZ (j:=q) bQ.eq aL.ty I I Kv) ?_|refine QW (aC aL.ty I (G5 _)) ?_))
   refine eN I I ?_ ?_
   ·refine dm (aC aL.ty I (aI (i:=4) I I)) I I I (aO (bV [0,8]) ?_)
    refine aM I (fO I I I I I λakk=>aO (bV [0,8]) ?_);refine aM I (lZ (i:=6) (q:=9) I I I I I I J J I λv3=>aO (bV [0,8]) ?_)
    try refine GW ?_
    refine aM I (aX (i:=6) I λzo CP=>bJ (i:=4) I I I zo CP I (aO (bV [0,8]) ?_))
    try refine GW ?_
    try refine GA ?_
    refine dv [0,1,2,3,4,8,5,6] ?_;exact bW (f',n+1,Q++E,out++[vec ve],av (aj ⟨gQ',0,ak⟩) (Q++E).length cQ',v2,v3) ud (tr f') (hl:=by dsimp only;rw[oB];simp;rfl)
   refine fO I I I I I λakk=>aO (bV [0,8]) ?_;refine aM I (dm (aC aL.ty I (aI (i:=4) I I)) I I I (aO (bV [0,8]) ?_));refine aM I (lZ (i:=6) (q:=9) I I I I I I J J I λv3=>aO (bV [0,8]) ?_)
   try refine GW ?_
   refine aM I (aX (i:=6) I λzo CP=>bJ (i:=4) I I I zo CP I (aO (bV [0,8]) ?_))
   try refine GW ?_
   try refine GA ?_
   refine dv [0,1,2,3,4,8,5,6] ?_;exact bW (f',n+1,Q++E,out++[vec ve],av (aj ⟨gQ',0,ak⟩) (Q++E).length cQ',v2,v3) ud (tr f') (hl:=by dsimp only;rw[oB];simp;rfl)
  obtain⟨e,rfl⟩:=jb _ _ _ _ hw c1;rw[e]
  repeat(first|refine GC ?_|refine gV (e_ (i:=5) bQ.eq I I) ?_|refine gV (aP (i:=4) aL.ty I I I) ?_|refine GB ?_)
  refine aX (i:=6) I λo9 mJ=>?_;refine aX (i:=7) I λzo CP=>?_;refine aW (i:=1) (cs':=(jc vR vT).cells) I I I I (by show([vR,vT].all ft)=aD;simp[mJ,CP]) I ?_;refine zL ?_
  try refine GA ?_
  refine dT (i:=1) I I I I I λw hm=>?_;exact hm.meets (S:=⟨λ(_:Value×Value)=>True,λx=> .tuple #[jc x.1 x.2,az aB 0],λx=>[a_ 210 256 x.1 out.length (out.flatMap e8),a_ 3 1 x.2 (Q.map (eL R tags).tag).length ((Q.map (eL R tags).tag).flatMap cL.eJ)]⟩) (vR,vT) trivial [6,7] aln (by simp)
 ·have er:yY R tags=[]:=if_neg hc
  have et:yZ R tags=[]:=if_neg hc;unfold ad2;rw[er,et];generalize lI R tags=e at*;refine enter (args:=[jc (av br R.length cr) (av bt tags.length ct)]) (n:=113) Tryz.func42 I I I ?_;refine cB (bD (bL I I I λg1=>?_));refine a8 I λg2=>?_;refine zL ?_
  repeat(first|refine GA ?_|refine gV (aP (i:=0) aL.ty I I I) ?_)
  refine aU (ja aJ.en I I) (λw hm=>iH _ hm.below) I I I ?_;intro _ _
  repeat(first|refine GC ?_|refine gV (bB I Rv) ?_|refine gV (dc (b:=aD) I I (decide_eq_true hc)) ?_|refine GB ?_)
  refine gG 1 ?_;refine zL ?_
  try refine GA ?_
  refine dJ 210 256 (dJ 3 1 ?_);refine dT (i:=1) I I I I I λw hm=>?_;exact hm.meets (S:=⟨λ(_:Value×Value)=>True,λx=> .tuple #[jc x.1 x.2,az aB e],λx=>[a_ 210 256 x.1 0 [],a_ 3 1 x.2 0 []]⟩) (av ak 0 0,av ak 0 0) trivial [2,3] aln I
theorem T4{R:List Row}{tags:List Int}(h:lI R tags=0):(∀r∈R,∀x∈r.toList,-32768<=x/\x<=32767)/\∀x∈tags,cL.dV x:=by
 obtain⟨hA,hl⟩:=oH h;have hle:R.length<=200:=hA.le;refine⟨λr hr x hx=>?_,λx hx=>?_⟩
 ·obtain⟨i,hi,rfl⟩:=iC.1 hr
  obtain⟨b,hb,rfl⟩:=iC.1 hx;have SD:b<256:=by grind
  have:=hA.step i hi b SD;rw[Nq hi SD]at this;have e:(eL R tags).n=R.length:=rfl;rw[BH];omega
 obtain⟨i,hi,rfl⟩:=iC.1 hx;have:=hA.tags i (by show i<R.length;omega);rw[Ai hi]at this;exact⟨by omega,by omega⟩
theorem Mem.aiD{B:bP}{w:World}{L:List b9}{i j:Nat}{vr vt:Value}{R:List Row}{tags:List Int}(hm:Mem B L w)(hi:L[i]?=aj (a_ 210 256 vr R.length (R.flatMap e8)))(hj:L[j]?=aj (a_ 3 1 vt tags.length (tags.flatMap cL.eJ)))(hc:lI R tags=0):G2 w vr vt R tags:=
 ⟨iQ hi _ hm,iQ hj _ hm,(T4 hc).1,(T4 hc).2⟩
theorem Dt{R:List Row}{tags:List Int}{s:List UInt8}(h:lI R tags=0):oW R tags s=(tg (eL R tags) (go (eL R tags) 0 s),0):=if_pos h
theorem aa3{R:List Row}{tags:List Int}{s:List UInt8}(h:lI R tags=0):oW (yY R tags) (yZ R tags) s=(tg (eL R tags) (go (eL R tags) 0 s),0):=by
 simp_all[Dt,Ds,T3,VX,oH]
section
end
theorem aa4{k:Nat}(h:k<256):Jx.wrap (k:Int)=(k:Int):=by
 grind[Jw]
open fX
def aiE(n:Nat)(l:List aV.Prod):Prop:=∀p∈l,0<=p.1/\p.1<(n:Int)/\∀x∈p.2,cL.dV x.2
end bZ
namespace bZ
open Go.RowKit cL dQ aV fX
theorem aa5{g:ep}{n:Nat}(h:cC g=0)(hn:g.bx=n):aiE n g.aH/\Zz n g.aH:=by
 obtain⟨a1,a2,a3,a4,a5,a6⟩:=cU h;refine⟨λp hp=>?_,λp hp x hx h2=>?_⟩
 ·obtain⟨b1,b2,b3,b4⟩:=a6 p hp
  refine⟨b2,by omega,λx hx=>?_⟩;have:=b4 x hx;unfold right at this;split at this;simp at this;exact⟨by omega,by omega⟩;split at this;simp at this;exact⟨by omega,by omega⟩;simp at this
 have:=(a6 p hp).2.2.2 x hx;unfold right at this;rw[if_neg J,if_pos h2]at this;simp at this;omega
open dO dR yD CR
attribute [local irreducible] Op.shift Go.bits in
theorem Wj(t:Nat)(n:Int)(vp:Value)(col:Nat)(w:World)(ht:t<=30)(hc:col<=t)(hv:∃b m c,vp=av b m c):
 Calls aE 49 #[dP (t:Int) n vp,az aB (col:Int)] w (bX (ret (ie (Ql t col))) w):=by
 obtain⟨b,m,c,rfl⟩:=hv;have YU:=λw=>ac_ (P:=aE) col J w;unfold Ql;refine enter (args:=[dP (t:Int) n (av b m c),az aB (col:Int)]) (n:=11) Tryz.func49 I I I ?_;refine cB (bD (bL I I I λg2=>?_))
 by_cases e:col=t
 ·rw[if_pos e]
  repeat(first|refine GA ?_|refine gV (aC aL.ty I (aI (i:=0) I I)) ?_)
  exact eB
 ·rw[if_neg e]
  repeat(first|refine GA ?_|refine gV (aC aL.ty I (aI (i:=0) I I)) ?_|refine gV (DX I I YU) ?_)
  exact eB
def clC(x:Cl):List Value:=[az aB x.1,az aB x.2.1,az aB x.2.2.1,az aB x.2.2.2]
theorem aa6(a b c d:Int)(w:World):(dg 154 #[(0,az aB a),(1,az aB b),(2,az aB c),(3,az aB d)]).run aE w= .ok (aQ (clC (a,b,c,d)).toArray) w:=by
 unfold clC;go_simp
abbrev wE(v:Value):Value:=v
def agO(n:Int):Value:=az aB n
def CZ(T n c j:Nat):Nat:=if j<n then T+1 else if j=n then c else 0
def np(l:List aV.Prod)(may:Nat->Nat)(T:Nat)(vs:Nat->Value)(n c:Nat)(j:Nat):b9:=a_ 3 1 (vs j) (CZ T n c j) ((mq (CZ T n c j) (CR.rowAt l may T j)).map agO)
def aa7(N T:Nat)(l:List aV.Prod)(may:Nat->Nat):Spec (Nat×(Nat->Value)×Value):=
 ⟨λ_=>True,λx=> .tuple #[av (aj ⟨x.1,0,ak⟩) N N,x.2.2,az aB 0],λx=>[fE 26 wE x.1 N x.2.1,jK (λj=>j<N) (np l may T x.2.1 N 0),a_ 154 4 x.2.2 (mR l may T N).length ((mR l may T N).flatMap clC)]⟩
def BK(n:Nat)(l:List aV.Prod)(i:Nat):Nat:=gB (xo n l).E (OT n l) (df l (i:Int)).2 ((OU n l).getD (df l (i:Int)).1.toNat 0)
section
variable{l:List aV.Prod}{may:Nat->Nat}{T:Nat}
theorem Fv(n col:Nat):∀(k:Nat) (out:List Cl),(yF l may T n col k out).length<=out.length+k
 |0,out=>by rw[yF];omega
 | k +1,out=>by
  have:=Fv n col k out;rw[yF];split
  ·split
   omega;rw[bK];simp;omega
  omega
theorem Fw(n:Nat):∀(c:Nat) (out:List Cl),(CS l may T n c out).length<=out.length+c*l.length
 |0,out=>by rw[CS];omega
 |c+1,out=>by
  have h1:=Fw n c out;have h2:=Fv (l:=l) (may:=may) (T:=T) n c l.length (CS l may T n c out);rw[CS,pt];omega
theorem ND:∀(N:Nat),(mR l may T N).length<=N*((T+1)*l.length)
 |0=>by rw[mR];simp
 |N+1=>by
  have h1:=ND N;have h2:=Fw (l:=l) (may:=may) (T:=T) N (T+1) (mR l may T N);rw[mR,pt];omega
end
theorem aa8{g:ep}{n:Nat}(iH:cC g=0)(hn:g.bx=n):AO n (OU n g.aH):=by
 obtain⟨_,_,a3,_⟩:=cU iH;have hf:=zR iH hn;have hF:=(JM iH hn).2;have ue:=ZE (E:=(xo n g.aH).E) hF hf;obtain⟨s',h1,h2,h3⟩:=zQ ue _ ((dl n 0).set 0 9223372036854775808) ⟨by simp,λx hx=>by
  rcases List.mem_or_eq_of_mem_set hx with h|h
  rw[List.eq_of_mem_replicate h];decide;rw[h];decide⟩ (bC _)
 obtain⟨_,h4,h5⟩:=Cf _ _ _ h2;have h6:OU n g.aH=s':=by unfold OU xG;rw[h3];exact h4
 rw[h6];exact h1
attribute [local irreducible] Op.shift Go.bits Instr.build in
set_option maxRecDepth 100000 in
theorem Kw(v:Value)(g:ep)(w:World)(h:kK (λk=>k<w.heap.size) w v g)(hg:cC g=0)(T N:Nat)(hT:g.aT=T)(hN:g.bx=N):
    Calls aE 21 #[v] w (bX (aa7 N T g.aH (BK N g.aH)) w):=by
  obtain⟨a1,a2,a3,a4,a5,a6⟩:=cU hg;have MA:=λw' (yy:Gr w w')=>EL v g w' (h.gr yy) hg N hN;have hbe:∀body:List dw,body∈g.aH.map (·.2)->vJ g body=0/\∀b,CU g body b=gB (xo N g.aH).E (OT N g.aH) body b:=λbody hb=>by
    obtain⟨p,hp,rfl⟩:=fG.1 hb;obtain⟨b1,b2,b3,b4⟩:=a6 p hp;have e:vJ g p.2=0:=by
      unfold vJ;rw[if_neg (by simpa using hg),if_neg J];exact JL b4
    refine⟨e,λb=>?_⟩;unfold CU;rw[if_pos e,show g.bx.toNat=N by omega]
  have hBg:=λvb body b w' (hg:Gr w w') hs=>rR v vb g body b w' (h.gr hg) hs;obtain⟨_,hF⟩:=JM hg hN;have hWW:=aa8 hg hN;have Xg:=aa5 hg hN;have MN:BK N g.aH=λi:Nat=>gB (xo N g.aH).E (OT N g.aH) (df g.aH (i:Int)).2 ((OU N g.aH).getD (df g.aH (i:Int)).1.toNat 0):=rfl;have akl:∀i,BK N g.aH i<18446744073709551616:=λi=>by
    refine pf hF (qI hWW _) λx hx h1=>?_
    by_cases c:i<g.aH.length
    · rw[yB c]at hx
      have:=(a6 _ (cH c)).2.2.2 x hx;unfold right at this;rw[if_pos h1]at this;simp at this;omega
    unfold df at hx;rw[dD,de,ta J]at hx
    cases hx
  generalize sG:BK N g.aH=may at*;obtain⟨vp,rfl,h1,_⟩:=h;obtain⟨t,nn,aH⟩:=g;dsimp only at*;subst hT hN;have NE:=h1;obtain⟨bp,cp,rfl,JE,Gv,oM⟩:=h1;unfold maxLen at Gv;refine enter (args:=[dP (T:Int) (N:Int) (av bp aH.length cp)]) (n:=119) Tryz.func21 I I I ?_;refine cB (bD (bL I I I λg1=>?_));refine zL ?_
  repeat(first|refine GA ?_|refine gV (aP (i:=0) aL.ty I I I) ?_)
  refine aU (ja aJ.en I I) (λw' hm=>(MA w' hm.below).mono λe w2 h=>EM h) I I I ?_;intro x _
  conv=>arg 8;simp only[zJ,cD,ret,id_eq,EK.val]
  refine B8 [0,3] ?_
  try refine GA ?_
  refine a8 I λg5=>?_;refine gG 2 ?_;refine zL ?_
  repeat(first|refine GA ?_|refine gV (aC aL.ty I (aI (i:=0) I I)) ?_)
  have hz:eU aE 82 #[ie 0]:=(inferInstance:eU aE 82 #[.int .u64 0]);refine pE ie 0 I I J J I λg7=>?_;refine zL ?_
  repeat(first|refine GA ?_|refine gV (aC aL.ty I (aI (i:=0) I I)) ?_)
  refine mM (ι:=Nat) (λk=>k<=aH.length) (λk=>[(1,aK (aj ⟨g1,0,ak⟩)),(5,aK (aj ⟨g5,0,ak⟩)),(7,av (aj ⟨g7,0,ak⟩) aH.length aH.length),(30,av bp aH.length cp),(31,az aB aH.length),(32,az aB (k:Int))])
    (λk=>[aR g1 (dP (T:Int) (N:Int) (av bp aH.length cp)).cells 33,iS N x.gW x.cW (OU N aH),aR g5 (mH (dz N x.gE x.cE) (dz N x.gF x.cF) (dz N x.gW x.cW) (dz N x.gR x.cR) (dz N x.gM x.cM)).cells 72,fE 82 ie g7 aH.length (λj=>if j<k then may j else 0)]) (λk=>aH.length-k) 0 (bH _) (by repeat' (first|exact cV|refine cP I ?_)) (by rw[show(λj=>if j<0 then may j else 0)=λ_=>0 from funext λj=>if_neg J];rfl) ?_
  intro k k1
  by_cases c7:k<aH.length
  · obtain⟨b,off,rfl,_,hr⟩:=oM J
    obtain⟨bb,cb,y1,y2,y3⟩:=l7 hr c7;have dy:∀(L:List b9) (j:Nat) (v:Value),([az aB aH[k].1,.slice bb aH[k].2.length cb]:List Value)[j]?=aj v->At w L ⟨b,off+k*2+j,ak⟩ v:=λL j v hj=>kH (y1 j v hj);have ue:=y3.flat aln;obtain⟨b1,b2,b3,b4⟩:=a6 _ (cH c7);obtain⟨GP,OP⟩:=hbe aH[k].2 (fG.2 ⟨_,cH c7,rfl⟩);have L4:may k=gB (xo N aH).E (OT N aH) aH[k].2 ((OU N aH).getD aH[k].1.toNat 0):=by rw[MN];dsimp only;rw[yB c7]
    clear y1 y3 hr hbe oM;generalize aH[k]=pd at*;obtain⟨hd,body⟩:=pd;dsimp only at*;obtain⟨hn,rfl⟩:∃hn:Nat,hd=hn:=⟨hd.toNat,by omega⟩;have hlt:hn<N:=by omega
    rw[dD]at L4;have akm:((OU N aH).map ie)[0+hn]?=aj (ie ((OU N aH).getD hn 0)):=by rw[cX];exact JI (by rw[hWW.1];exact hlt)
    have akn:=qI hWW hn;have hBg:=λw' hg hs=>hBg (av bb body.length cb) body ((OU N aH).getD hn 0) w' hg hs akn;rw[GP,OP,<-L4]at hBg;generalize (OU N aH).getD hn 0=wv at*
    repeat(first|refine GA ?_|refine gV (aZ bQ.eq aL.ty I I c7) ?_|refine gV (aY aL.ty I I (dy _)) ?_)
    refine a8 I λg9=>?_
    try refine GA ?_
    refine gG 4 ?_;refine zL ?_
    try refine GA ?_
    refine dH ([aR g1 (dP (T:Int) (N:Int) (av (aj ⟨b,off,ak⟩) aH.length cp)).cells 33,iS N x.gW x.cW (OU N aH),aR g5 (mH (dz N x.gE x.cE) (dz N x.gF x.cF) (dz N x.gW x.cW) (dz N x.gR x.cR) (dz N x.gM x.cM)).cells 72,aR g9 #[az aB (hn:Int),av bb body.length cb] 149]) (.calm 0 (.calm 1 (.calm 2 (.calm 3 (.calm 4 (.calm 5 (.calm 6 (.calm 7 (.calm 8 (.calm 9 (.calm 10 (.calm 11 (.calm 12 (.calm 13 (.calm 14 (.calm 15 (.one 16 (.done)))))))))))))))))) (bV [0,1,2,4]) ?_
    repeat(first|refine GW ?_|(refine GN ?_;first|refine QW (aP (i:=0) aL.ty I I I) ?_|refine QW (aC aL.ty I (aI (i:=3) I I)) ?_|refine QW (aC aL.ty I (aI (i:=2) I I)) ?_|refine QW (bY bQ.eq aL.ty I I hlt) ?_|refine QW (aC aL.ty I (jP (i:=1) I akm)) ?_))
    refine oP I (qq aJ.en I I I I) (λw hm=>hBg _ hm.below (ue.gr hm.below)) I I I ?_
    repeat(first|refine GW ?_|(refine GN ?_;first|refine QW (bY bQ.eq aL.ty I I c7) ?_))
    refine aM I ?_;refine ji (i:=3) (v:=may k) (λj=>if j<k+1 then may j else 0) aL.ty I I I I I c7 (λj _=>by
      by_cases e:j=k
      subst e;simp
      by_cases e2:j<k
      simp[e,e2,show j<k+1 by omega];simp[e,e2,show ¬j<k+1 by omega]) ?_
    refine zL ?_;refine aO (bV [0,1,2,4]) ?_
    try refine GW ?_
    try refine GA ?_
    refine dv [0,1,2,3] ?_;exact bW (k+1) J J
  · obtain rfl:k=aH.length:=by omega
    rw[show fE 82 ie g7 aH.length (λj=>if j<aH.length then may j else 0)=fE 82 ie g7 aH.length may from pD λj hj=>if_pos hj];clear hBg hbe MA MN
    repeat(first|refine GA ?_|refine gV (aC aL.ty I (aI (i:=0) I I)) ?_)
    refine pE wE (av ak 0 0) I I J J I λg10=>?_;refine zL ?_
    try refine GA ?_
    refine tW [0,3,4] ?_;refine mP (jK (λj=>j<N) (np aH may T (λ_=>av ak 0 0) 0 0)) (λk hk=>hk.elim (λh=>by cases h) λ⟨i,hi,h⟩=>h.elim (λh=>by cases h) id) (λw=>⟨λi hi=>?_,λi j _ _ _ k h=>h.elim (λh=>by cases h) oc⟩) ?_
    · unfold np CZ
      rw[if_neg J,ite_self];exact aaJ _ _ _ _
    refine iz 154 4 ?_;refine d_ (ι:=Nat×(Nat->Value)×Value) (λ(n,_,_)=>n<=N) (λ(n,_,vo)=>[(1,aK (aj ⟨g1,0,ak⟩)),(7,av (aj ⟨g7,0,ak⟩) aH.length aH.length),(10,av (aj ⟨g10,0,ak⟩) N N),(11,vo),(58,az aB (N:Int)),(59,az aB (n:Int))])
      (λ(n,vs,vo)=>[aR g1 (dP (T:Int) (N:Int) (av bp aH.length cp)).cells 33,fE 82 ie g7 aH.length may,fE 26 wE g10 N vs,jK (λj=>j<N) (np aH may T vs n 0),a_ 154 4 vo (mR aH may T n).length ((mR aH may T n).flatMap clC)]) (λ(n,_,_)=>N-n) (0,λ_=>av ak 0 0,av ak 0 0) (bH _) ?_
    rintro⟨n,vs,vo⟩ n1;dsimp only at n1⊢
    by_cases c8:n<N
    · repeat(first|refine GC ?_|refine gV (aC aL.ty I (aI (i:=0) I I)) ?_|refine gV (fl (r:=((T+1:Nat):Int)) I I J J J) ?_|refine GB ?_)
      refine d_ (ι:=Nat×(Nat->Value)×Value) (λ(c,_,_)=>c<=T+1) (λ(c,_,vo)=>[(1,aK (aj ⟨g1,0,ak⟩)),(7,av (aj ⟨g7,0,ak⟩) aH.length aH.length),(10,av (aj ⟨g10,0,ak⟩) N N),(11,vo),(12,az aB (n:Int)),(58,az aB (N:Int)),(59,az aB (n:Int)),(64,az aB ((T+1:Nat):Int)),(65,az aB (c:Int))])
        (λ(c,vs,vo)=>[aR g1 (dP (T:Int) (N:Int) (av bp aH.length cp)).cells 33,fE 82 ie g7 aH.length may,fE 26 wE g10 N vs,jK (λj=>j<N) (np aH may T vs n c),a_ 154 4 vo (CS aH may T n c (mR aH may T n)).length ((CS aH may T n c (mR aH may T n)).flatMap clC)]) (λ(c,_,_)=>T+1-c) (0,vs,vo) (bH _) ?_
      rintro⟨c,vs,vo⟩ cc;dsimp only at cc⊢
      by_cases c9:c<T+1
      · have akK:=Fw (l:=aH) (may:=may) (T:=T) n c (mR aH may T n)
        have akL:=ND (l:=aH) (may:=may) (T:=T) n;have Y0:c*aH.length<=31*40:=Fs J a5;have Yf:(T+1)*aH.length<=31*40:=Fs J a5;have hm3:n*((T+1)*aH.length)<=20*(31*40):=Fs J Yf;have ako:mR aH may T (n+1)=CS aH may T n (T+1) (mR aH may T n):=rfl;have aiF:CS aH may T n (c+1) (mR aH may T n)=yF aH may T n c aH.length (CS aH may T n c (mR aH may T n)):=rfl;have hbc:Ql T c<18446744073709551616:=by
          unfold Ql;split
          decide
          exact Nat.lt_of_le_of_lt (Nat.pow_le_pow_right aln (show c<=30 by omega)) aln
        have adJ:=λw=>Wj T (N:Int) (av bp aH.length cp) c w J J ⟨_,_,_,rfl⟩;generalize CS aH may T n c (mR aH may T n)=ww at*
        repeat(first|refine GA ?_|refine gV (aC aL.ty I (aI (i:=0) I I)) ?_)
        refine d_ (ι:=Nat×Value) (λ(k,_)=>k<=aH.length) (λ(k,vo)=>[(1,aK (aj ⟨g1,0,ak⟩)),(7,av (aj ⟨g7,0,ak⟩) aH.length aH.length),(10,av (aj ⟨g10,0,ak⟩) N N),(11,vo),(12,az aB (n:Int)),(13,az aB (c:Int)),(14,az aB (iE aH may T n c k)),(58,az aB (N:Int)),(59,az aB (n:Int)),(64,az aB ((T+1:Nat):Int)),(65,az aB (c:Int)),(69,av bp aH.length cp),(70,az aB aH.length),(71,az aB (k:Int))])
          (λ(k,vo)=>[aR g1 (dP (T:Int) (N:Int) (av bp aH.length cp)).cells 33,fE 82 ie g7 aH.length may,fE 26 wE g10 N vs,jK (λj=>j<N) (np aH may T vs n c),a_ 154 4 vo (yF aH may T n c k ww).length ((yF aH may T n c k ww).flatMap clC)]) (λ(k,_)=>aH.length-k) (0,vo) (bH _) ?_
        rintro⟨k,vo⟩ kk;dsimp only at kk⊢
        by_cases ck:k<aH.length
        · obtain⟨b,off,rfl,_,hr⟩:=oM J
          obtain⟨bb,cb,y1,y2,y3⟩:=l7 hr ck;have dy:∀(L:List b9) (j:Nat) (v:Value),([az aB aH[k].1,.slice bb aH[k].2.length cb]:List Value)[j]?=aj v->At w L ⟨b,off+k*2+j,ak⟩ v:=λL j v hj=>kH (y1 j v hj);have hol:=Fv (l:=aH) (may:=may) (T:=T) n c k ww;have hf:iE aH may T n c (k+1)=if iE aH may T n c k<0 then(if EH aH may T n c k=aD then(k:Int)else iE aH may T n c k)else iE aH may T n c k:=rfl
          have ho:yF aH may T n c (k+1) ww=if EH aH may T n c k=aD then(if iE aH may T n c k<0 then yF aH may T n c k ww else yF aH may T n c k ww++[((n:Int),(c:Int),iE aH may T n c k,(k:Int))])else yF aH may T n c k ww:=rfl
          have hcd:EH aH may T n c k=(decide (aH[k].1=(n:Int))&&!decide ((may k&&&Ql T c)=0)):=by unfold EH;rw[yB ck]
          have hand:=Vt (akl k) hbc;have hfk:=vC (l:=aH) (may:=may) (T:=T) n c k;clear y1 y3 hr oM;generalize aH[k]=pd at*;obtain⟨hd,body⟩:=pd;dsimp only at*;generalize hzz:may k&&&Ql T c=z at*;generalize iE aH may T n c k=fk at*;generalize yF aH may T n c k ww=ok at*
          repeat(first|refine GA ?_|refine gV (aZ bQ.eq aL.ty I I ck) ?_|refine gV (aY aL.ty I I (dy _)) ?_)
          refine a8 I λg16=>?_
          try refine GA ?_
          refine gG 5 ?_;refine zL ?_
          try refine GA ?_
          refine dH ([aR g1 (dP (T:Int) (N:Int) (av (aj ⟨b,off,ak⟩) aH.length cp)).cells 33,fE 82 ie g7 aH.length may,aR g16 #[az aB hd,av bb body.length cb] 149]) (.calm 0 (.calm 1 (.calm 2 (.calm 3 (.calm 4 (.calm 5 (.calm 6 (.calm 7 (.calm 8 (.calm 9 (.calm 10 (.calm 11 (.calm 12 (.calm 13 (.calm 14 (.calm 15 (.done))))))))))))))))) (bV [0,1,5]) ?_
          by_cases e1:hd=(n:Int)
          · by_cases e2:z=0
            · rw[decide_eq_true e1,decide_eq_true e2]at hcd
              rw[hcd]at hf ho;simp only[Bool.not_true,Bool.and_false,rm,if_false,ite_self]at hf ho
              repeat(first|refine GW ?_|(refine GN ?_;first|refine QW (aC aL.ty I (aI (i:=2) I I)) ?_|refine QW (bY bQ.eq aL.ty I I ck) ?_|refine QW (aC aL.ty I (gI (i:=1) I ck)) ?_|refine QW (aP (i:=0) aL.ty I I I) ?_))
              refine LL I (fC aJ.en I I I) (λw hm=>adJ _) I I I I I ?_
              repeat(first|refine GW ?_|(refine GN ?_;first|refine QW (nB I I hand) ?_))
              try refine GA ?_
              refine dv [0,1,2,3,4] ?_;exact iW (k+1,vo) (by show k+1<=aH.length;omega) (by show aH.length-(k+1)<aH.length-k;omega) (by dsimp only;rw[hf];repeat' (first|exact cV|refine cP I ?_)) (by dsimp only;rw[ho];rfl)
            rw[decide_eq_true e1,decide_eq_false e2]at hcd;rw[hcd]at hf ho;simp only[Bool.not_false,Bool.and_true,if_true]at hf ho
            repeat(first|refine GW ?_|(refine GN ?_;first|refine QW (aC aL.ty I (aI (i:=2) I I)) ?_|refine QW (bY bQ.eq aL.ty I I ck) ?_|refine QW (aC aL.ty I (gI (i:=1) I ck)) ?_|refine QW (aP (i:=0) aL.ty I I I) ?_))
            refine LL I (fC aJ.en I I I) (λw hm=>adJ _) I I I I I ?_
            repeat(first|refine GW ?_|(refine GN ?_;first|refine QW (nB I I hand) ?_))
            by_cases e3:fk<0
            · rw[if_pos e3]at hf ho
              try refine GA ?_
              refine dv [0,1,2,3,4] ?_;exact iW (k+1,vo) (by show k+1<=aH.length;omega) (by show aH.length-(k+1)<aH.length-k;omega) (by dsimp only;rw[hf];repeat' (first|exact cV|refine cP I ?_)) (by dsimp only;rw[ho];rfl)
            rw[if_neg e3]at hf ho
            repeat(first|refine GA ?_|refine gV (bB I (aa6 _ _ _ _)) ?_)
            refine jR (i:=4) I I I I I I I (λz h=>by cases h;rfl) J J I λz' v2=>?_;refine zL ?_
            try refine GA ?_
            refine dv [0,1,2,3,4] ?_;exact iW (k+1,v2) (by show k+1<=aH.length;omega) (by show aH.length-(k+1)<aH.length-k;omega) (by dsimp only;rw[hf];repeat' (first|exact cV|refine cP I ?_)) (by dsimp only;rw[ho,ir,bK];rfl)
          rw[decide_eq_false e1]at hcd;rw[hcd]at hf ho;simp only[Bool.false_and,rm,if_false,ite_self]at hf ho
          repeat(first|refine GW ?_|(refine GN ?_;first|refine QW (aC aL.ty I (aI (i:=2) I I)) ?_))
          try refine GA ?_
          refine dv [0,1,2,3,4] ?_;exact iW (k+1,vo) (by show k+1<=aH.length;omega) (by show aH.length-(k+1)<aH.length-k;omega) (by dsimp only;rw[hf];repeat' (first|exact cV|refine cP I ?_)) (by dsimp only;rw[ho];rfl)
        obtain rfl:k=aH.length:=by omega
        rw[<-aiF];have hra:iE aH may T n c aH.length=CR.rowAt aH may T n c:=rfl;rw[hra];clear aiF ako hra;have hcn:np aH may T vs n c n=a_ 3 1 (vs n) c ((mq c (CR.rowAt aH may T n)).map agO):=by
          unfold np CZ;rw[if_neg (Kp n),if_pos I]
        repeat(first|refine GA ?_|refine gV (bY bQ.eq aL.ty I I c8) ?_|refine gV (aC aL.ty I (gI (i:=2) I c8)) ?_)
        refine S6 (q:=3) n I c8 ?_;rw[hcn];refine zL ?_;refine SJ [az aB (CR.rowAt aH may T n c)] I I I (by intro v hv;simp at hv;subst hv;rfl) I I λak'=>?_;refine zL ?_;refine lZ (i:=5) (q:=6) I I I I I I J J I λv3=>?_;refine zL ?_;refine aX (i:=5) I λju l_=>?_
        repeat(first|refine GA ?_|refine gV (bY bQ.eq aL.ty I I c8) ?_)
        refine ji (i:=2) (v:=v3) (λj=>if j=n then v3 else vs j) aL.ty I I I ju l_ c8 (λj _=>rfl) ?_;refine zL ?_;refine Zs (D':=λj=>j<N) (f':=np aH may T (λj=>if j=n then v3 else vs j) n (c+1)) n 3 5 [0,1,2,4] aln I I I (λh=>h.2 I) (λj hj=>by
          by_cases e:j=n
          exact .inr e;exact .inl ⟨hj,e⟩) (λj hj=>by
          by_cases e:j=n
          · subst e
            rw[Bl];unfold np CZ;rw[if_neg (Kp j),if_pos I];dsimp only;rw[if_pos I]
            congr 1
            unfold mq;rw[yw,eZ,eZ];rfl
          rw[Bk e];have:CZ T n (c+1) j=CZ T n c j:=by unfold CZ;rw[if_neg e,if_neg e]
          unfold np;rw[this];dsimp only;rw[if_neg e]) ?_
        refine zL ?_;refine B8 [0,1,2,4,3] ?_
        try refine GA ?_
        exact bW (c+1,λj=>if j=n then v3 else vs j,vo) (by show c+1<=T+1;omega) (by show T+1-(c+1)<T+1-c;omega)
      obtain rfl:c=T+1:=by omega
      have akp:np aH may T vs n (T+1)=np aH may T vs (n+1) 0:=funext λj=>by
        have:CZ T n (T+1) j=CZ T (n+1) 0 j:=by
          unfold CZ
          by_cases e:j<n
          rw[if_pos e,if_pos J];rw[if_neg e]
          by_cases e2:j=n
          rw[if_pos e2,if_pos J];rw[if_neg e2,if_neg J,ite_self]
        unfold np;rw[this]
      try refine GA ?_
      exact bW (n+1,vs,vo) (by show n+1<=N;omega) (by show N-(n+1)<N-n;omega) (hl:=by rw[akp];rfl)
    obtain rfl:n=N:=by omega
    try refine GA ?_
    exact kG I I I I λw hm=>hm.meets (S:=aa7 n T aH may) (g10,vs,vo) trivial [2,3,4] aln I
end bZ
namespace bZ
open Go.RowKit cL dQ aV CR
def tA(l:List aV.Prod)(n:Nat):List Int->Int
 |[]=>0
 |p::r=>if p< -1 then 1 else if(l.length:Int)<=p then 1 else if 0<=p/\(l.getD p.toNat (0,[])).1≠(n:Int)then 1 else tA l n r
def qN(l:List aV.Prod)(t:Int):Nat->List (List Int)->Int
 |_,[]=>0
 |n,r::rs=>if(r.length:Int)≠t+1 then 1 else if tA l n r≠0 then 1 else qN l t (n+1) rs
def Fy(g:ep)(ll:List (List Int)):Int:=if cC g≠0 then cC g else if(ll.length:Int)≠g.bx then 1 else qN g.aH g.aT 0 ll
abbrev Al(w:World)(v:Value)(ll:List (List Int)):Prop:=kw (bR fP) (λk=>k<w.heap.size) w v ll
theorem T5{F:Nat->Prop}{w:World}{b off:Nat}{ll:List (List Int)}(h:∀i (h:i<ll.length),∃cs,(bR fP).is F w cs ll[i]/\Rd w b (off+i*(bR fP).c) cs){k:Nat}(hk:k<ll.length):
 ∃vi,w.cell? ⟨b,off+k,ak⟩=aj vi/\Sl w vi ll[k].length (ll[k].map (.int .i64)):=by
 obtain⟨cs,⟨vi,rfl,h1⟩,hr⟩:=h k hk;refine⟨vi,?_,?_⟩
 ·have:=hr 0 vi I
  rwa [show(bR fP).c=1 from I,lP,lO]at this
 ·have:=h1.flat aln
  rw[show(ll[k].flatMap λn=>[az .i64 n])=ll[k].map (.int .i64)from by rw[Rn];induction ll[k]with
   |nil=>rfl
   |cons x r ih=>simp only[ff,DP,ih];rfl]at this
  exact this
set_option maxRecDepth 100000 in
theorem xO(v vr:Value)(g:ep)(ll:List (List Int))(w:World)(h:kK (λk=>k<w.heap.size) w v g)(hr:Al w vr ll):
 Calls aE 54 #[v,vr] w (bX (ret (az aB (Fy g ll))) w):=by
 have iH:=λw' (hg:Gr w w')=>ke v g w' (h.gr hg);obtain⟨vp,rfl,h1,_⟩:=h;obtain⟨br,cr,rfl,Vi,tV,Ep⟩:=hr;unfold maxLen at tV;unfold Fy
 by_cases c0:cC g=0
 ·rw[if_neg (by simpa using c0)]
  obtain⟨a1,a2,a3,a4,a5,_⟩:=cU c0;rw[c0]at iH;obtain⟨t,nn,aH⟩:=g;dsimp only at*;obtain⟨bp,cp,rfl,JE,Gv,oM⟩:=h1;unfold maxLen at Gv;refine enter (args:=[dP t nn (av bp aH.length cp),av br ll.length cr]) (n:=64) Tryz.func54 I I I ?_;refine cB (bD (bL I I I λg2=>?_));refine zL ?_
  repeat(first|refine GA ?_|refine gV (aP (i:=0) aL.ty I I I) ?_)
  refine aU (ja aJ.en I I) (λw hm=>iH _ hm.below) I I I ?_;intro _ _;refine zL ?_
  by_cases c1:(ll.length:Int)=nn
  ·rw[if_neg (by simpa using c1)]
   repeat(first|refine GA ?_|refine gV (aC aL.ty I (aI (i:=0) I I)) ?_)
   generalize lY:qN aH t 0 ll=res;refine d_ (ι:=Nat) (λn=>n<=ll.length/\res=qN aH t n (ll.drop n)) (λn=>[(2,aK (aj ⟨g2,0,ak⟩)),(20,av br ll.length cr),(21,az aB ll.length),(22,az aB (n:Int))]) (λ_=>[aR g2 (dP t nn (av bp aH.length cp)).cells 33]) (λn=>ll.length-n) 0 ⟨bH _,by rw[wh];exact lY.symm⟩ ?_;clear lY;rintro n ⟨i1,i2⟩
   by_cases c2:n<ll.length
   ·obtain⟨b,off,rfl,_,eR⟩:=Ep J
    obtain⟨vi,y1,y2⟩:=T5 eR c2;have dy:∀L,At w L ⟨b,off+n,ak⟩ vi:=λL=>kH y1;rw[eH c2,qN]at i2;clear eR y1;generalize ll[n]=r at*;obtain⟨bi,ci,rfl,z1,z2,z3⟩:=y2;unfold maxLen at z2
    by_cases c3:(r.length:Int)=t+1
    ·rw[if_neg (by simpa using c3)]at i2
     repeat(first|refine GA ?_|refine gV (bY bQ.eq aL.ty I I c2) ?_|refine gV (aC aL.ty I (dy _)) ?_|refine gV (aC aL.ty I (aI (i:=0) I I)) ?_)
     refine d_ (ι:=Nat) (λj=>j<=r.length/\tA aH n r=tA aH n (r.drop j)) (λj=>[(2,aK (aj ⟨g2,0,ak⟩)),(6,az aB (n:Int)),(20,av (aj ⟨b,off,ak⟩) ll.length cr),(21,az aB ll.length),(22,az aB (n:Int)),(33,av bi r.length ci),(34,az aB r.length),(35,az aB (j:Int))]) (λ_=>[aR g2 (dP t nn (av bp aH.length cp)).cells 33]) (λj=>r.length-j) 0 ⟨bH _,rfl⟩ ?_;rintro j ⟨j1,j2⟩
     by_cases c4:j<r.length
     ·obtain⟨b',zz,rfl,Gy⟩:=z3 J
      have aa9:=λL=>age (L:=L) Gy c4;rw[eH c4,tA]at j2;clear Gy z3;generalize r[j]=p at*
      by_cases e1:p< -1
      ·rw[if_pos e1]at j2
       rw[j2,if_pos aln]at i2;subst i2
       repeat(first|refine GA ?_|refine gV (bY bQ.eq aL.ty I I c4) ?_|refine gV (aC aL.ty I (aa9 _)) ?_|refine gV (aC aL.ty I (aI (i:=0) I I)) ?_)
       exact eB
      by_cases e2:(aH.length:Int)<=p
      ·rw[if_neg e1,if_pos e2]at j2
       rw[j2,if_pos aln]at i2;subst i2
       repeat(first|refine GA ?_|refine gV (bY bQ.eq aL.ty I I c4) ?_|refine gV (aC aL.ty I (aa9 _)) ?_|refine gV (aC aL.ty I (aI (i:=0) I I)) ?_)
       exact eB
      rw[if_neg e1,if_neg e2]at j2
      by_cases e3:0<=p
      ·obtain⟨m,rfl⟩:∃m:Nat,p=m:=⟨p.toNat,by omega⟩
       have hm:m<aH.length:=by omega
       obtain⟨bq,akq,rfl,_,hrq⟩:=oM J;obtain⟨bb,cb,q1,_,_⟩:=l7 hrq hm;have aiG:∀(L:List b9),At w L ⟨bq,akq+m*2+0,ak⟩ (az aB aH[m].1):=λL=>kH (q1 0 _ I);rw[dD,de,bM hm]at j2;dsimp only[Option.getD]at j2;clear q1 hrq;generalize aH[m]=pd at*;obtain⟨hd,_⟩:=pd;dsimp only at*
       by_cases e4:hd=(n:Int)
       ·rw[if_neg (λh=>h.2 e4)]at j2
        repeat(first|refine GA ?_|refine gV (bY bQ.eq aL.ty I I c4) ?_|refine gV (aC aL.ty I (aa9 _)) ?_|refine gV (aC aL.ty I (aI (i:=0) I I)) ?_|refine gV (aZ bQ.eq aL.ty I I hm) ?_|refine gV (aC aL.ty I (aiG _)) ?_)
        exact bW (j+1) ⟨by omega,j2⟩ J
       rw[if_pos ⟨e3,e4⟩]at j2;rw[j2,if_pos aln]at i2;subst i2
       repeat(first|refine GA ?_|refine gV (bY bQ.eq aL.ty I I c4) ?_|refine gV (aC aL.ty I (aa9 _)) ?_|refine gV (aC aL.ty I (aI (i:=0) I I)) ?_|refine gV (aZ bQ.eq aL.ty I I hm) ?_|refine gV (aC aL.ty I (aiG _)) ?_)
       exact eB
      rw[if_neg (λh=>e3 h.1)]at j2
      repeat(first|refine GA ?_|refine gV (bY bQ.eq aL.ty I I c4) ?_|refine gV (aC aL.ty I (aa9 _)) ?_|refine gV (aC aL.ty I (aI (i:=0) I I)) ?_)
      exact bW (j+1) ⟨by omega,j2⟩ J
     rw[jx J,tA]at j2;rw[j2,if_neg aln]at i2
     try refine GA ?_
     exact bW (n+1) ⟨by omega,i2⟩ J
    rw[if_pos (by simpa using c3)]at i2;subst i2
    repeat(first|refine GA ?_|refine gV (bY bQ.eq aL.ty I I c2) ?_|refine gV (aC aL.ty I (dy _)) ?_|refine gV (aC aL.ty I (aI (i:=0) I I)) ?_)
    exact eB
   rw[jx J,qN]at i2;subst i2
   try refine GA ?_
   exact eB
  rw[if_pos (by simpa using c1)]
  repeat(first|refine GA ?_|refine gV (aC aL.ty I (aI (i:=0) I I)) ?_)
  exact eB
 ·rw[if_pos (by simpa using c0)]
  generalize cC g=e at*;refine enter (args:=[dP g.aT g.bx vp,av br ll.length cr]) (n:=64) Tryz.func54 I I I ?_;refine cB (bD (bL I I I λg2=>?_));refine zL ?_
  repeat(first|refine GA ?_|refine gV (aP (i:=0) aL.ty I I I) ?_)
  refine aU (ja aJ.en I I) (λw hm=>iH _ hm.below) I I I ?_;intro _ _;refine zL ?_
  try refine GA ?_
  exact eB
theorem aa_{l:List aV.Prod}{may:Nat->Nat}{T N g:Nat}{vs:Nat->Value}{w:World}(hl:l.length<=40)(hN:N<=20)(h1:(fE 26 wE g N vs).holds w)(h2:(jK (λj=>j<N) (np l may T vs N 0)).holds w):
 Al w (av (aj ⟨g,0,ak⟩) N N) (mq N λn=>mq (T+1) (CR.rowAt l may T n)):=by
 refine⟨aj ⟨g,0,ak⟩,N,by rw[jl],by rw[jl];exact bC _,by unfold maxLen;omega,λh0=>⟨g,0,rfl,(fE 26 wE g N vs).lt w h1 g (.inl I),λi hi=>?_⟩⟩;rw[jl]at hi;have hf:=h2.1 i hi;unfold np CZ at hf;rw[if_pos hi]at hf;have Bu:(mq N λn=>mq (T+1) (CR.rowAt l may T n))[i]'(by rw[jl];exact hi)=mq (T+1) (CR.rowAt l may T i):=by simp[mq]
 rw[Bu];refine⟨[vs i],⟨vs i,rfl,?_⟩,λj u hj=>?_⟩
 ·have hs:=Sl.dx hf
  refine kw.of_flat (p:=cL.dV) (by rw[jl];rw[show((mq (T+1) (CR.rowAt l may T i)).flatMap λn=>[az .i64 n])=(mq (T+1) (CR.rowAt l may T i)).map agO from by
   rw[Rn]
   induction mq (T+1) (CR.rowAt l may T i)with
   |nil=>rfl
   |cons x r ih=>simp only[ff,DP,ih];rfl];exact hs) (λa ha=>?_) (λb hb=>(a_ 3 1 (vs i) (T+1) _).lt w hf b (.inl hb)) (λa n cp he=>?_)
  ·unfold mq at ha
   obtain⟨c,_,rfl⟩:=fG.1 ha;have:=vC (l:=l) (may:=may) (T:=T) i c l.length;unfold CR.rowAt;exact⟨by omega,by omega⟩
  have hr:w.ownsRow 0 3 1 (vs i) (T+1) _:=hf;rcases hr.2 with⟨hv,h⟩|⟨gg,cap,kU,hv,_⟩
  omega;rw[hv]at he;simp only[jN,dL]at he;rw[<-he.1];exact(a_ 3 1 (vs i) (T+1) _).lt w hf gg (.inl (by rw[hv];rfl))
 ·have hj0:j=0:=by
   have:=(dX.1 hj).1;simp at this;omega
  subst hj0;simp only[List.getElem?_cons_zero,dL]at hj;subst hj;have:=Bm h1 hi;rw[show 0+i*(bR fP).c+0=0+i by rw[show(bR fP).c=1 from I];omega];exact this
open dO dR bI cz
def jE(x:bI.Act):List Value:=[az aB x.1,az aB x.2]
theorem sa(x:bI.Act):(jE x).length=2:=rfl
def gO(l:List aV.Prod)(T:Nat)(nx:List Int)(t:Nat)(s:List bI.Item)(c:Nat):List bI.Act:=(if c<t/\0<=nx.getD c 0 then [(1,nx.getD c 0)]else [])++s.filterMap (zZ l c)
theorem Ix{l:List aV.Prod}{T:Nat}{nx:List Int}{s:List bI.Item}{c:Nat}:gO l T nx T s c=kR l T s nx c:=rfl
def oI(vs:Nat->Value)(A:Nat->List bI.Act)(j:Nat):b9:=a_ 162 2 (vs j) (A j).length ((A j).flatMap jE)
def NF(T:Nat)(A:Nat->List bI.Act):Spec (Nat×(Nat->Value)):=⟨λ_=>True,λx=>av (aj ⟨x.1,0,ak⟩) (T+1) (T+1),λx=>[fE 160 wE x.1 (T+1) x.2,jK (λj=>j<T+1) (oI x.2 A)]⟩
theorem Ry(n:Int)(w:World):(dg 162 #[(0,az aB 1),(1,az aB n)]).run aE w= .ok (aQ (jE (1,n)).toArray) w:=by kernel_rfl
theorem Rz(n:Int)(w:World):(dg 162 #[(0,az aB 2),(1,az aB n)]).run aE w= .ok (aQ (jE (2,n)).toArray) w:=by kernel_rfl
theorem RA(w:World):(dg 162 #[(0,az aB 3)]).run aE w= .ok (aQ (jE (3,0)).toArray) w:=by kernel_rfl
theorem BL{l:List aV.Prod}{T:Nat}{nx:List Int}{t:Nat}{s:List bI.Item}{c:Nat}:(gO l T nx t s c).length<=1+s.length:=by
 unfold gO;rw[bK];have:=List.length_filterMap_le (zZ l c) s;split;rw[kO];omega;rw[iv];omega
theorem Kx(v:Value)(g:ep)(T:Nat)(J7:g.aT=(T:Int))(hT:T<=30)(bS oS lS cS bN oN lN cN n:Nat)(n9 vn1:Value)(s:List bI.Item)(nx:List Int)(w:World)(hG:kK (λk=>k<w.heap.size) w v g)(Af:g.aH.length<=40)(hnS:n<lS)(hcS:w.cell? ⟨bS,oS+n,ak⟩=aj n9)(zu:Sl w n9 s.length (s.flatMap jj))(hnN:n<lN)(hcN:w.cell? ⟨bN,oN+n,ak⟩=aj vn1)(hn1:Sl w vn1 nx.length (nx.map (az .i64)))(hnl:T<=nx.length)(hr:∀it∈s,eK g.aH T it)(rQ:s.length<=20000)(_:n<=1000000):
 Calls aE 51 #[v,aQ #[av (aj ⟨bS,oS,ak⟩) lS cS,av (aj ⟨bN,oN,ak⟩) lN cN],az aB (n:Int)] w (bX (NF T (kR g.aH T s nx)) w):=by
 obtain⟨vp,rfl,hp,-,-⟩:=hG;obtain⟨bp,cp,rfl,JE,Gv,oM⟩:=hp;obtain⟨bs,cs,rfl,-,hmS,hrS⟩:=zu;obtain⟨bn,cn,rfl,-,hmN,hrN⟩:=hn1;unfold maxLen at hmS hmN;rw[J7];have GP:=Ry;have OP:=Rz;have hb3:=RA;refine enter (args:=[dP (T:Int) g.bx (av bp g.aH.length cp),aQ #[av (aj ⟨bS,oS,ak⟩) lS cS,av (aj ⟨bN,oN,ak⟩) lN cN],az aB (n:Int)]) (n:=113) Tryz.func51 I I I ?_;refine cB (bD (bL I I I λg3=>?_));refine zL ?_;refine bL I I I λg4=>?_;refine zL ?_
 repeat(first|refine GC ?_|refine gV (aC (v:=az aB (T:Int)) aL.ty I (aI (i:=0) I I)) ?_|refine gV (fl (r:=((T+1:Nat):Int)) I I J J J) ?_|refine GB ?_)
 refine pE (m:=T+1) wE (av ak 0 0) I I J J I λg7=>?_;refine zL ?_
 repeat(first|refine GA ?_|refine gV (aC (v:=az aB (T:Int)) aL.ty I (aI (i:=0) I I)) ?_)
 refine mP (jK (λj=>j<T+1) (oI (λ_=>av ak 0 0) (gO g.aH T nx 0 []))) (λk hk=>hk.elim (λh=>by cases h) λ⟨i,hi,h⟩=>h.elim (λh=>by cases h) id) (λw=>⟨λi hi=>?_,λi j _ _ _ k h=>h.elim (λh=>by cases h) oc⟩) ?_
 ·unfold oI gO
  rw[if_neg J];exact aaJ _ _ _ _
 conv=>arg 7;simp only[zA,zB,zC,zD,zE,zF,zG,zH,zI,cD,ret,id_eq]
 refine d_ (ι:=Nat×(Nat->Value)) (λ(t,_)=>t<=T) (λ(t,_)=>[(2,az aB (n:Int)),(3,aK (aj ⟨g3,0,ak⟩)),(4,aK (aj ⟨g4,0,ak⟩)),(7,av (aj ⟨g7,0,ak⟩) (T+1) (T+1)),(17,az aB (T:Int)),(18,az aB (t:Int))])
  (λ(t,vs)=>[aR g3 (dP (T:Int) g.bx (av bp g.aH.length cp)).cells 33,aR g4 (aQ #[av (aj ⟨bS,oS,ak⟩) lS cS,av (aj ⟨bN,oN,ak⟩) lN cN]).cells 157,fE 160 wE g7 (T+1) vs,jK (λj=>j<T+1) (oI vs (gO g.aH T nx t []))]) (λ(t,_)=>T-t) (0,λ_=>av ak 0 0) (bH _) ?_
 rintro⟨t,vs⟩ i1;dsimp only at i1⊢
 by_cases c1:t<T
 ·obtain⟨b,off,rfl,eR⟩:=hrN J
  have hny:(nx.map (az .i64))[t]?=aj (az aB (nx.getD t 0)):=by
   rw[jy,de,bM J];rfl
  have dy:=λ(L:List b9)=>iP (W:=w) (L:=L) eR hny;have htl:t<nx.length:=by omega
  have RC:∀j,j≠t->gO g.aH T nx (t+1) [] j=gO g.aH T nx t [] j:=λj hj=>by
   unfold gO;have:(j<t+1/\0<=nx.getD j 0)↔(j<t/\0<=nx.getD j 0):=by constructor<;>(rintro⟨h1,h2⟩;exact⟨by omega,h2⟩)
   simp only[this]
  have Cu:gO g.aH T nx (t+1) [] t=if 0<=nx.getD t 0 then [(1,nx.getD t 0)]else []:=by
   unfold gO
   by_cases c:0<=nx.getD t 0
   rw[if_pos ⟨tr t,c⟩,if_pos c];rfl;rw[if_neg (λh=>c h.2),if_neg c];rfl
  have aa':gO g.aH T nx t [] t=[]:=by unfold gO;rw[if_neg (λh=>Kp t h.1)];rfl
  generalize nx.getD t 0=y at*
  repeat(first|refine GA ?_|refine gV (aC (v:=av (aj ⟨bN,oN,ak⟩) lN cN) aL.ty I (aI (i:=1) I I)) ?_|refine gV (bY bQ.eq aL.ty I I hnN) ?_|refine gV (aC (v:=av (aj ⟨b,off,ak⟩) nx.length cn) aL.ty I (kH hcN)) ?_|refine gV (bY bQ.eq aL.ty I I htl) ?_|refine gV (aC (v:=az aB y) aL.ty I (dy _)) ?_)
  by_cases c2:0<=y
  ·rw[if_pos c2]at Cu
   repeat(first|refine GC ?_|refine gV (fu (b:=aD) I I (decide_eq_true c2)) ?_|refine gV (bY bQ.eq aL.ty I I (show t<T+1 by omega)) ?_|refine gV (aC aL.ty I (gI (i:=2) I (show t<T+1 by omega))) ?_|refine gV (bB I (GP _)) ?_|refine GB ?_)
   refine S6 (q:=3) t I (show t<T+1 by omega) ?_;have hFt:oI vs (gO g.aH T nx t []) t=a_ 162 2 (vs t) 0 []:=by unfold oI;rw[aa'];rfl
   rw[hFt];refine zL ?_;refine jR (i:=4) I I I I I I I (λz h=>by cases h;rfl) J J I λz v3=>?_;refine zL ?_
   repeat(first|refine GA ?_|refine gV (bY bQ.eq aL.ty I I (show t<T+1 by omega)) ?_)
   refine aX (i:=4) I λju l_=>?_;refine ji (i:=2) (v:=v3) (λj=>if j=t then v3 else vs j) aL.ty I I I ju l_ (show t<T+1 by omega) (λj _=>rfl) ?_;refine zL ?_;refine Zs (D':=λj=>j<T+1) (f':=oI (λj=>if j=t then v3 else vs j) (gO g.aH T nx (t+1) [])) t 3 4 [0,1,2] aln I I I (λh=>h.2 I) (λj hj=>by
    by_cases e:j=t
    exact .inr e;exact .inl ⟨hj,e⟩) (λj hj=>by
    by_cases e:j=t
    ·subst e
     rw[Bl];unfold oI;dsimp only;rw[Cu,if_pos I];rfl
    rw[Bk e];unfold oI;dsimp only;rw[RC j e,if_neg e]) ?_
   refine zL ?_
   try refine GA ?_
   exact bW (t+1,λj=>if j=t then v3 else vs j) (by show t+1<=T;omega) (by show T-(t+1)<T-t;omega)
  rw[if_neg c2]at Cu;have uZ:gO g.aH T nx (t+1) []=gO g.aH T nx t []:=funext λj=>by
   by_cases e:j=t
   subst e;rw[Cu,aa'];exact RC j e
  repeat(first|refine GC ?_|refine gV (fu (b:=aF) I I (decide_eq_false c2)) ?_|refine GB ?_)
  exact bW (t+1,vs) (by show t+1<=T;omega) (by show T-(t+1)<T-t;omega) (hl:=by dsimp only;rw[uZ])
 obtain rfl:t=T:=by omega
 repeat(first|refine GA ?_|refine gV (aC (v:=av (aj ⟨bS,oS,ak⟩) lS cS) aL.ty I (aI (i:=1) I I)) ?_|refine gV (bY bQ.eq aL.ty I I hnS) ?_|refine gV (aC (v:=av bs s.length cs) aL.ty I (kH hcS)) ?_)
 refine d_ (ι:=Nat×(Nat->Value)) (λ(k,_)=>k<=s.length) (λ(k,_)=>[(3,aK (aj ⟨g3,0,ak⟩)),(7,av (aj ⟨g7,0,ak⟩) (t+1) (t+1)),(47,av bs s.length cs),(48,az aB (s.length:Int)),(49,az aB (k:Int))])
  (λ(k,vs)=>[aR g3 (dP (t:Int) g.bx (av bp g.aH.length cp)).cells 33,aR g4 (aQ #[av (aj ⟨bS,oS,ak⟩) lS cS,av (aj ⟨bN,oN,ak⟩) lN cN]).cells 157,fE 160 wE g7 (t+1) vs,jK (λj=>j<t+1) (oI vs (gO g.aH t nx t (s.take k)))]) (λ(k,_)=>s.length-k) (0,vs) (bH _) ?_
 rintro⟨k,vs⟩ j1;dsimp only at j1⊢;clear GP
 by_cases c2:k<s.length
 ·obtain⟨b,off,rfl,eR⟩:=hrS J
  have dy:=λ(L:List b9)=>gd (L:=L) l8 eR c2;have EX:∀(L:List b9) (j:Nat) (u:Value),(jj s[k])[j]?=aj u->At (w:bP) L ⟨b,off+k*3+j,ak⟩ u:=dy;clear dy eR hrS;have hxr:=hr s[k] (cH c2);have oB:s.take (k+1)=s.take k++[s[k]]:=gv c2;have qW:∀c,gO g.aH t nx t (s.take (k+1)) c=gO g.aH t nx t (s.take k) c++(match zZ g.aH c s[k]with|some x=>[x]|none=>[]):=λc=>by
   rw[oB];unfold gO;rw[List.filterMap_append,<-eY]
   congr 1
   rw[List.filterMap_cons]
   cases zZ g.aH c s[k]<;>rfl
  have hlen:∀c,(gO g.aH t nx t (s.take k) c).length<=20001:=λc=>fH BL (by rw[jz];omega);generalize hit:s[k]=it at*;obtain⟨p,d,lo⟩:=it;obtain⟨r1,r2,r3,r4,r5,r6⟩:=hxr;dsimp only at r1 r2 r3 r4 r5 r6;obtain⟨pn,rfl⟩:=gU r1;obtain⟨dn,rfl⟩:=gU r3;obtain⟨ln,rfl⟩:=gU r5;have xI:ln<t+1:=by omega
  have RC:∀j,j≠ln->gO g.aH t nx t (s.take (k+1)) j=gO g.aH t nx t (s.take k) j:=λj hj=>by
   rw[qW j];have:zZ g.aH j ((pn:Int),(dn:Int),(ln:Int))=none:=by
    unfold zZ;rw[if_pos (by show(ln:Int)≠(j:Int);omega)]
   rw[this,dY]
  have pL:=qW ln;unfold zZ at pL;rw[if_neg (by show ¬(ln:Int)≠(ln:Int);simp)]at pL;dsimp only at pL;clear qW oB
  repeat(first|refine GA ?_|refine gV (aZ bQ.eq aL.ty I I c2) ?_|refine gV (aY (cs:=jj ((pn:Int),(dn:Int),(ln:Int))) aL.ty I I (EX _)) ?_)
  refine a8 I λg11=>?_;refine zL ?_;refine gG 4 (cs':=(jj ((pn:Int),(dn:Int),(ln:Int))).toArray) ?_;refine zL ?_;have hFt:oI vs (gO g.aH t nx t (s.take k)) ln=a_ 162 2 (vs ln) (gO g.aH t nx t (s.take k) ln).length ((gO g.aH t nx t (s.take k) ln).flatMap jE):=rfl;have Pt:=hlen ln
  by_cases q1:pn=g.aH.length
  ·subst q1
   by_cases q2:dn=1
   ·subst q2
    have Cu:gO g.aH t nx t (s.take (k+1)) ln=gO g.aH t nx t (s.take k) ln++[(3,0)]:=by
     rw[if_pos ⟨rfl,rfl⟩]at pL;exact pL
    repeat(first|refine GA ?_|refine gV (aC (v:=az aB (g.aH.length:Int)) aL.ty I (aI (i:=4) I I)) ?_|refine gV (aC (v:=av bp g.aH.length cp) aL.ty I (aI (i:=0) I I)) ?_|refine gV (aC (v:=az aB 1) aL.ty I (aI (i:=4) I I)) ?_)
    refine P' (q:=3) ln I xI ?_;rw[hFt]
    conv=>arg 7;simp only[zA,zB,zC,zD,zE,zF,zG,zH,zI,cD,ret,id_eq]
    refine dH ([aR g11 (jj ((g.aH.length:Int),1,(ln:Int))).toArray 231]) (.calm 0 (.calm 1 (.calm 2 (.calm 3 (.calm 4 (.calm 5 (.calm 6 (.calm 8 (.two 7 (.one 9 (.one 10 (.calm 11 (.one 12 (.done))))) 9 (.one 7 (.one 10 (.calm 11 (.one 12 (.done)))))))))))))) (bV [4]) ?_
    repeat(first|refine GW ?_|(refine GN ?_;first|refine QW (aC (v:=az aB (ln:Int)) aL.ty I (aI (i:=0) I I)) ?_|refine QW (bY bQ.eq aL.ty I I xI) ?_|refine QW (bB I hb3) ?_))
    refine eN I I ?aiH ?aiI
    case' aiH=>
     refine dm (aC aL.ty I (gI (i:=2) I xI)) I I I (aO (bV [4]) ?_);refine aM I (fO (cs:=(jE (3,0)).toArray) I I I I I λg74=>aO (bV [4]) ?_)
    case' aiI=>
     refine fO (cs:=(jE (3,0)).toArray) I I I I I λg74=>aO (bV [4]) ?_;refine aM I (dm (aC aL.ty I (gI (i:=2) I xI)) I I I (aO (bV [4]) ?_))
    all_goals
     refine aM I (mN (i:=5) (q:=6) I I I I I I J J I λv3=>aO (bV [4]) ?_)
     repeat(first|refine GW ?_|(refine GN ?_;first|refine QW (bY bQ.eq aL.ty I I xI) ?_))
     refine aM I (aX (i:=5) I λju l_=>ji (i:=2) (v:=v3) (λj=>if j=ln then v3 else vs j) aL.ty I I I ju l_ xI (λj _=>rfl) (aO (bV [4]) ?_))
     try refine GW ?_
     refine S7 (D':=λj=>j<t+1) (f':=oI (λj=>if j=ln then v3 else vs j) (gO g.aH t nx t (s.take (k+1)))) ln 3 5 [0,1,2] aln I I I (λh=>h.2 I) (λj hj=>by
      by_cases e:j=ln
      exact .inr e;exact .inl ⟨hj,e⟩) (λj hj=>by
      by_cases e:j=ln
      ·subst e
       rw[Bl];unfold oI;dsimp only;rw[Cu,if_pos I,bK,ir];rfl
      rw[Bk e];unfold oI;dsimp only;rw[RC j e,if_neg e]) ?_
     try refine GA ?_
     exact bW (k+1,λj=>if j=ln then v3 else vs j) (by show k+1<=s.length;omega) (by show s.length-(k+1)<s.length-k;omega)
   have uZ:gO g.aH t nx t (s.take (k+1))=gO g.aH t nx t (s.take k):=funext λj=>by
    by_cases e:j=ln
    ·subst e
     rw[if_neg (λh=>q2 (by have:=h.2;omega)),if_neg (λh=>by have:=h.1;omega)]at pL;rw[pL];exact dY _
    exact RC j e
   repeat(first|refine GA ?_|refine gV (aC (v:=az aB (g.aH.length:Int)) aL.ty I (aI (i:=4) I I)) ?_|refine gV (aC (v:=av bp g.aH.length cp) aL.ty I (aI (i:=0) I I)) ?_|refine gV (aC (v:=az aB (dn:Int)) aL.ty I (aI (i:=4) I I)) ?_)
   refine dH ([aR g3 (dP (t:Int) g.bx (av bp g.aH.length cp)).cells 33,aR g11 (jj ((g.aH.length:Int),(dn:Int),(ln:Int))).toArray 231]) (.calm 0 (.calm 1 (.calm 2 (.calm 3 (.calm 4 (.calm 5 (.calm 6 (.calm 7 (.calm 8 (.calm 9 (.calm 10 (.calm 11 (.calm 12 (.calm 13 (.calm 14 (.calm 15 (.calm 16 (.calm 17 (.calm 18 (.calm 19 (.done))))))))))))))))))))) (bV [0,4]) ?_
   repeat(first|refine GW ?_|(refine GN ?_;first|refine QW (aC (v:=az aB (g.aH.length:Int)) aL.ty I (aI (i:=1) I I)) ?_|refine QW (aC (v:=av bp g.aH.length cp) aL.ty I (aI (i:=0) I I)) ?_))
   try refine GA ?_
   refine dv [0,1,2,3] ?_;exact bW (k+1,vs) (by show k+1<=s.length;omega) (by show s.length-(k+1)<s.length-k;omega) (hl:=by dsimp only;rw[uZ];rfl)
  have hpn:pn<g.aH.length:=by omega
  obtain⟨pb,po,rfl,hFb,hpr⟩:=oM J;obtain⟨bb,cb,hq1,hq2,hq3⟩:=l7 hpr hpn;have hpg:g.aH[pn]=df g.aH (pn:Int):=by
   unfold df;rw[dD,de,bM hpn];rfl
  rw[hpg]at hq1 hq2 hq3;have aiJ:∀(L:List b9) (j:Nat) (v:Value),([az aB (df g.aH (pn:Int)).1,av bb (df g.aH (pn:Int)).2.length cb]:List Value)[j]?=aj v->At w L ⟨pb,po+pn*2+j,ak⟩ v:=λL j v hj=>iP hq1 hj;clear hpr oM hq1 hq3
  by_cases q2:dn=(df g.aH (pn:Int)).2.length
  ·subst q2
   have Cu:gO g.aH t nx t (s.take (k+1)) ln=gO g.aH t nx t (s.take k) ln++[(2,(pn:Int))]:=by
    rw[if_neg (λh=>q1 (by have:=h.1;omega)),if_pos ⟨by omega,rfl⟩]at pL;exact pL
   repeat(first|refine GA ?_|refine gV (aC (v:=az aB (pn:Int)) aL.ty I (aI (i:=4) I I)) ?_|refine gV (aC (v:=av (aj ⟨pb,po,ak⟩) g.aH.length cp) aL.ty I (aI (i:=0) I I)) ?_)
   refine dH ([aR g3 (dP (t:Int) g.bx (av (aj ⟨pb,po,ak⟩) g.aH.length cp)).cells 33,aR g11 (jj ((pn:Int),((df g.aH (pn:Int)).2.length:Int),(ln:Int))).toArray 231]) (.calm 0 (.calm 1 (.calm 2 (.calm 3 (.calm 4 (.calm 5 (.calm 6 (.calm 7 (.calm 8 (.calm 9 (.calm 10 (.calm 11 (.calm 12 (.calm 13 (.calm 14 (.calm 15 (.calm 16 (.calm 17 (.calm 18 (.calm 19 (.done))))))))))))))))))))) (bV [0,4]) ?_
   repeat(first|refine GW ?_|(refine GN ?_;first|refine QW (aC (v:=az aB (pn:Int)) aL.ty I (aI (i:=1) I I)) ?_|refine QW (aC (v:=az aB ((df g.aH (pn:Int)).2.length:Int)) aL.ty I (aI (i:=1) I I)) ?_|refine QW (aC (v:=av (aj ⟨pb,po,ak⟩) g.aH.length cp) aL.ty I (aI (i:=0) I I)) ?_|refine QW (aZ bQ.eq aL.ty I I hpn) ?_|refine QW (aC (v:=av bb (df g.aH (pn:Int)).2.length cb) aL.ty I (aiJ _ 1 _ I)) ?_))
   try refine GA ?_
   refine P' (q:=3) ln I xI ?_;rw[hFt]
   conv=>arg 7;simp only[zA,zB,zC,zD,zE,zF,zG,zH,zI,cD,ret,id_eq]
   refine dH ([aR g11 (jj ((pn:Int),((df g.aH (pn:Int)).2.length:Int),(ln:Int))).toArray 231]) (.calm 0 (.calm 1 (.calm 2 (.calm 3 (.calm 4 (.calm 5 (.calm 6 (.calm 8 (.calm 9 (.calm 10 (.two 7 (.one 11 (.one 12 (.calm 13 (.one 14 (.done))))) 11 (.one 7 (.one 12 (.calm 13 (.one 14 (.done)))))))))))))))) (bV [4]) ?_
   repeat(first|refine GW ?_|(refine GN ?_;first|refine QW (aC (v:=az aB (ln:Int)) aL.ty I (aI (i:=0) I I)) ?_|refine QW (aC (v:=az aB (pn:Int)) aL.ty I (aI (i:=0) I I)) ?_|refine QW (bY bQ.eq aL.ty I I xI) ?_|refine QW (bB I (OP _)) ?_))
   refine eN I I ?aiK ?aiL
   case' aiK=>
    refine dm (aC aL.ty I (gI (i:=2) I xI)) I I I (aO (bV [4]) ?_);refine aM I (fO (cs:=(jE (2,(pn:Int))).toArray) I I I I I λg74=>aO (bV [4]) ?_)
   case' aiL=>
    refine fO (cs:=(jE (2,(pn:Int))).toArray) I I I I I λg74=>aO (bV [4]) ?_;refine aM I (dm (aC aL.ty I (gI (i:=2) I xI)) I I I (aO (bV [4]) ?_))
   all_goals
    refine aM I (mN (i:=5) (q:=6) I I I I I I J J I λv3=>aO (bV [4]) ?_)
    repeat(first|refine GW ?_|(refine GN ?_;first|refine QW (bY bQ.eq aL.ty I I xI) ?_))
    refine aM I (aX (i:=5) I λju l_=>ji (i:=2) (v:=v3) (λj=>if j=ln then v3 else vs j) aL.ty I I I ju l_ xI (λj _=>rfl) (aO (bV [4]) ?_))
    try refine GW ?_
    refine S7 (D':=λj=>j<t+1) (f':=oI (λj=>if j=ln then v3 else vs j) (gO g.aH t nx t (s.take (k+1)))) ln 3 5 [0,1,2] aln I I I (λh=>h.2 I) (λj hj=>by
     by_cases e:j=ln
     exact .inr e;exact .inl ⟨hj,e⟩) (λj hj=>by
     by_cases e:j=ln
     ·subst e
      rw[Bl];unfold oI;dsimp only;rw[Cu,if_pos I,bK,ir];rfl
     rw[Bk e];unfold oI;dsimp only;rw[RC j e,if_neg e]) ?_
    try refine GA ?_
    exact bW (k+1,λj=>if j=ln then v3 else vs j) (by show k+1<=s.length;omega) (by show s.length-(k+1)<s.length-k;omega)
  have uZ:gO g.aH t nx t (s.take (k+1))=gO g.aH t nx t (s.take k):=funext λj=>by
   by_cases e:j=ln
   ·subst e
    rw[if_neg (λh=>q1 (by have:=h.1;omega)),if_neg (λh=>q2 (by have:=h.2;omega))]at pL;rw[pL];exact dY _
   exact RC j e
  repeat(first|refine GA ?_|refine gV (aC (v:=az aB (pn:Int)) aL.ty I (aI (i:=4) I I)) ?_|refine gV (aC (v:=av (aj ⟨pb,po,ak⟩) g.aH.length cp) aL.ty I (aI (i:=0) I I)) ?_)
  refine dH ([aR g3 (dP (t:Int) g.bx (av (aj ⟨pb,po,ak⟩) g.aH.length cp)).cells 33,aR g11 (jj ((pn:Int),(dn:Int),(ln:Int))).toArray 231]) (.calm 0 (.calm 1 (.calm 2 (.calm 3 (.calm 4 (.calm 5 (.calm 6 (.calm 7 (.calm 8 (.calm 9 (.calm 10 (.calm 11 (.calm 12 (.calm 13 (.calm 14 (.calm 15 (.calm 16 (.calm 17 (.calm 18 (.calm 19 (.done))))))))))))))))))))) (bV [0,4]) ?_
  repeat(first|refine GW ?_|(refine GN ?_;first|refine QW (aC (v:=az aB (pn:Int)) aL.ty I (aI (i:=1) I I)) ?_|refine QW (aC (v:=az aB (dn:Int)) aL.ty I (aI (i:=1) I I)) ?_|refine QW (aC (v:=av (aj ⟨pb,po,ak⟩) g.aH.length cp) aL.ty I (aI (i:=0) I I)) ?_|refine QW (aZ bQ.eq aL.ty I I hpn) ?_|refine QW (aC (v:=av bb (df g.aH (pn:Int)).2.length cb) aL.ty I (aiJ _ 1 _ I)) ?_))
  try refine GA ?_
  refine dv [0,1,2,3] ?_;exact bW (k+1,vs) (by show k+1<=s.length;omega) (by show s.length-(k+1)<s.length-k;omega) (hl:=by dsimp only;rw[uZ];rfl)
 ·obtain rfl:k=s.length:=by omega
  rw[List.take_length]
  try refine GA ?_
  exact cJ I I λw hm=>hm.meets (S:=NF t (kR g.aH t s nx)) (g7,vs) trivial [2,3] aln I
section
variable{P:Program}{n:Nat}{W:bP}{fr:Fr}{L:List b9}{Q:Exit->Act->World->Prop}{ops:Array Oper}{rest:List Oper}{d:Nat}{ty:TypeId}{pos:String}{after:Array Edge}
theorem NG{α:Type}{f:α->List Value}{c:Nat}(hc:∀a,(f a).length=c)(h0:0<c)(z:α){t e:TypeId}{x y:Operand}{bytes m:Nat}{k k':IntKind}{zs:Array Value}[rC P t e c bytes][eU P e zs](hz:zs.toList=f z)(hx:ev fr x=aj (.int k (m:Int)))(hy:ev fr y=aj (.int k' (m:Int)))(hb:bytes*m<=281474976710656)(qX:m<=9223372036854775807)(hn:dq d n=aD)
 (h:∀g,TL P n W ops Q rest ((d,av (aj ⟨g,0,ak⟩) m m)::fr) (L++[a_ e c (av (aj ⟨g,0,ak⟩) m m) m ((dl m z).flatMap f)])):TL P n W ops Q (⟨aj d,.makeSlice t x y,ty,pos,after,ak⟩::rest) fr L:=by
 refine uU hx hy (bC _) hb qX hn λg=>Hz (i:=L.length) c (List.getElem?_concat_length ..) (by rw[size_madeCells]) (bC _) qX ?_;have hsz:zs.size=c:=by grind
 have hl:(madeCells zs (m*c)).toList.take (m*c)=(dl m z).flatMap f:=by
  simp_all[ae5,gT,Rn]
 simp_all
end
abbrev Xn:=Int×Int×bI.Act×bI.Act
def NH(x:Xn):List Value:=[az aB x.1,az aB x.2.1,az aB x.2.2.1.1,az aB x.2.2.1.2,az aB x.2.2.2.1,az aB x.2.2.2.2]
def wF:wY bI.Act:=zq jE 2 (λ_=>rfl) (λ_=>True)
section
variable(l:List aV.Prod)(T:Nat)(Nx:List (List Int))(S:List (List bI.Item))
abbrev Fz(q c:Nat):List bI.Act:=kR l T (S.getD q []) (Nx.getD q []) c
def xc(q c:Nat):List Xn:=(Fz l T Nx S q c).tail.map λx=>((q:Int),(c:Int),(Fz l T Nx S q c).headD (0,0),x)
def iY(q:Nat):Nat->List Xn
 |0=>[]
 |c+1=>iY q c++xc l T Nx S q c
def iZ:Nat->List Xn
 |0=>[]
 |q+1=>iZ q++iY l T Nx S q (T+1)
def ix(q c:Nat):List bI.Act:=(eA (T+1)).map λj=>if j<c then pN l T Nx S q j else(0,0)
def iG(n:Nat):List (List bI.Act):=(eA n).map λq=>ix l T Nx S q (T+1)
def fN(n:Nat):List (List Int):=(eA n).map λq=>(Nx.getD q []).drop T
end
def jd(g:ep):List (List bI.Act)×List (List Int)×List Xn×Int:=if(jS g).2.2≠0 then([],[],[],(jS g).2.2)else(iG g.aH g.aT.toNat (jS g).1 (jS g).2.1 (jS g).2.1.length,fN g.aT.toNat (jS g).1 (jS g).2.1.length,iZ g.aH g.aT.toNat (jS g).1 (jS g).2.1 (jS g).2.1.length,0)
structure RD where
 vA:Value
 C0:List Value
 FA:Nat->Prop
 vG:Value
 C1:List Value
 FG:Nat->Prop
def Am:wY (List bI.Act):=⟨1,λF w cs l=>(bR wF).is F w cs l/\∀v∈cs,WrI (wrP 162 2 F w) v,λh=>(bR wF).len h.1,λh hk=>⟨(bR wF).stay h.1 hk,λv hv=>(h.2 v hv).imp λg _ hp=>hp.stay (hk g hp.1)⟩,λh hk=>⟨(bR wF).mono h.1 hk,λv hv=>(h.2 v hv).imp λg _ hp=>⟨hk g hp.1,hp.2⟩⟩⟩
theorem aba{F:Nat->Prop}{gH:List (List Value)}{l:List (List bI.Act)}{w:World}(h:(eo Am F gH l).holds w):(eo (bR wF) F gH l).holds w:=
 ⟨⟨h.1.1,λi hi qB=>(h.1.2 i hi qB).1⟩,h.2⟩
def Wk(x:RD)(A:List (List bI.Act))(G:List (List Int)):List b9:=[a_ 160 1 x.vA A.length x.C0,eo Am x.FA (x.C0.map λv=>[v]) A,a_ 26 1 x.vG G.length x.C1,eo (bR fP) x.FG (x.C1.map λv=>[v]) G]
def RE(g:ep):Spec (RD×Value):=⟨λ_=>True,λx=> .tuple #[aQ #[x.1.vA,x.1.vG],x.2,az aB (jd g).2.2.2],λx=>Wk x.1 (jd g).1 (jd g).2.1++[a_ 164 6 x.2 (jd g).2.2.1.length ((jd g).2.2.1.flatMap NH)]⟩
theorem RF(w:World):(dg 36 (#[]:Array (Nat×Value))).run aE w= .ok (aQ #[av ak 0 0,av ak 0 0]) w:=by kernel_rfl
theorem Wl(q c:Int)(a b:bI.Act)(w:World):(dg 164 #[(0,az aB q),(1,az aB c),(2,aQ (jE a).toArray),(3,aQ (jE b).toArray)]).run aE w= .ok (aQ (NH (q,c,a,b)).toArray) w:=by kernel_rfl
theorem FB{w:World}{v:Value}{l:List bI.Act}(h:(a_ 162 2 v l.length (l.flatMap jE)).holds w):(bR wF).is (λk=>v.ownBlock=aj k) w [v] l:=
 ⟨v,rfl,kw.of_flat (Sl.dx h) (λ_ _=>trivial) (λ_ h=>h) (λa n cp hv=>by rw[hv];rfl)⟩
theorem abb{w:World}{v:Value}{l:List bI.Act}(h:(a_ 162 2 v l.length (l.flatMap jE)).holds w):Am.is (λk=>v.ownBlock=aj k) w [v] l:=
 ⟨FB h,λu hu=>by obtain rfl:=eV.1 hu;exact agx h⟩
theorem p_{l:List aV.Prod}{T:Nat}{Nx:List (List Int)}{S:List (List bI.Item)}{q c:Nat}:(ix l T Nx S q c).length=T+1:=by simp[ix]
theorem abc{l:List aV.Prod}{T:Nat}{Nx:List (List Int)}{S:List (List bI.Item)}{q:Nat}:ix l T Nx S q 0=dl (T+1) (0,0):=by
 unfold ix;apply mh;intro j
 by_cases h:j<T+1
 simp[h];simp[h]
theorem RG{l:List aV.Prod}{T:Nat}{Nx:List (List Int)}{S:List (List bI.Item)}{q c:Nat}(hc:c<T+1):(ix l T Nx S q c).set c (pN l T Nx S q c)=ix l T Nx S q (c+1):=by
 unfold ix;apply mh;intro j;rw[List.getElem?_set]
 by_cases h:j<T+1
 ·by_cases e:c=j
  subst e;simp[h];rw[if_neg e];simp only[jy,List.getElem?_range h,aaQ]
  by_cases e2:j<c
  rw[if_pos e2,if_pos J];rw[if_neg e2,if_neg J]
 have h1:(eA (T+1))[j]?=none:=ta (by rw[List.length_range];omega);simp only[jy,h1,Option.map_none];split
 ·rename_i e;subst e;exact absurd hc h
 rfl
theorem NI{l:List aV.Prod}{T:Nat}{Nx:List (List Int)}{S:List (List bI.Item)}{q c:Nat}(h:Fz l T Nx S q c=[]):ix l T Nx S q (c+1)=ix l T Nx S q c:=by
 unfold ix;apply List.map_congr_left;intro j hj
 by_cases e:j=c
 ·subst e
  rw[if_pos (tr _),if_neg (Kp _)];unfold pN;rw[show kR l T (S.getD q []) (Nx.getD q []) j=[]from h];rfl
 grind
theorem FC{l:List aV.Prod}{T:Nat}{Nx:List (List Int)}{S:List (List bI.Item)}{q:Nat}{M:Nat}(h:(S.getD q []).length<=M):∀c,(iY l T Nx S q c).length<=c*(M+1)
 |0=>bH _
 | c +1=>by
  rw[iY,bK,pt];have h2:(xc l T Nx S q c).length<=M+1:=by
   unfold xc;rw[eI,Ko];have:(Fz l T Nx S q c).length<=1+(S.getD q []).length:=by rw[Fz,<-Ix];exact BL
   omega
  have:=FC (l:=l) (T:=T) (Nx:=Nx) h c;omega
theorem Cv{l:List aV.Prod}{T:Nat}{Nx:List (List Int)}{S:List (List bI.Item)}{M:Nat}(h:∀q,(S.getD q []).length<=M):∀q,(iZ l T Nx S q).length<=q*((T+1)*(M+1))
 |0=>bH _
 |q+1=>by
  rw[iZ,bK,pt];have:=Cv (l:=l) (T:=T) (Nx:=Nx) h q;have:=FC (l:=l) (T:=T) (Nx:=Nx) (h q) (T+1);omega
theorem An{l:List aV.Prod}{T:Nat}{Nx:List (List Int)}{S:List (List bI.Item)}{q c:Nat}:∀{d:Nat},c<=d->(iY l T Nx S q c).length<=(iY l T Nx S q d).length
 |0,h=>by simp_all
 | d+1,h=>by
  by_cases e:c=d+1
  simp_all;rw[iY,bK];have:=An (l:=l) (T:=T) (Nx:=Nx) (S:=S) (q:=q) (c:=c) (d:=d) J;omega
theorem NJ{l:List aV.Prod}{T:Nat}{Nx:List (List Int)}{S:List (List bI.Item)}(n:Nat):iG l T Nx S (n+1)=iG l T Nx S n++[ix l T Nx S n (T+1)]:=by simp[iG,yw]
theorem Ky{T:Nat}{Nx:List (List Int)}(n:Nat):fN T Nx (n+1)=fN T Nx n++[(Nx.getD n []).drop T]:=by simp[fN,yw]
theorem jF{l:List aV.Prod}{T:Nat}{Nx:List (List Int)}{S:List (List bI.Item)}(n:Nat):(iG l T Nx S n).length=n:=by simp[iG]
theorem mE{T:Nat}{Nx:List (List Int)}(n:Nat):(fN T Nx n).length=n:=by simp[fN]
theorem Kz(v:Value)(g:ep)(w:World)(hG:kK (λk=>k<w.heap.size) w v g):
 Calls aE 22 #[v] w (bX (RE g) w):=by
 have hG0:=hG;have hal:=λw' (hg:Gr w w')=>V4 v g w' (hG.gr hg);have hac:=λT J7 hT bS oS lS cS bN oN lN cN n n9 vn1 s nx w' (hg:Gr w w')=>Kx v g T J7 hT bS oS lS cS bN oN lN cN n n9 vn1 s nx w' (hG.gr hg);obtain⟨vp,rfl,-⟩:=hG;have A5:=RF;have hO:jd g=if(jS g).2.2≠0 then([],[],[],(jS g).2.2)else(iG g.aH g.aT.toNat (jS g).1 (jS g).2.1 (jS g).2.1.length,fN g.aT.toNat (jS g).1 (jS g).2.1.length,iZ g.aH g.aT.toNat (jS g).1 (jS g).2.1 (jS g).2.1.length,0):=rfl
 unfold RE Wk;refine enter (args:=[dP g.aT g.bx vp]) (n:=92) Tryz.func22 I I I ?_;refine cB (bD (bL I I I λg1=>?_));refine zL ?_
 try refine GA ?_
 refine a8 I λg2=>?_;refine zL ?_
 repeat(first|refine GA ?_|refine gV (aP (i:=0) aL.ty I I I) ?_)
 refine aU (ja aJ.en I I) (λw hm=>hal w hm.below) I I I ?_;rintro⟨vS,vN,w_,F,Co,FN⟩ _
 conv=>arg 8;simp only[zJ,cD,ret,id_eq,adu]
 conv=>arg 7;simp only[adu]
 have kV:=TA (g:=g);have hno:=adx (g:=g);obtain⟨⟨Nx,S,e⟩,hOA⟩:∃R,jS g=R:=⟨_,rfl⟩;rw[hOA]at kV hno hO;rw[hOA];dsimp only at kV hno hO⊢;refine nP (i:=2) I gJ λgK=>?_;obtain⟨aS,cS,rfl,-,haS⟩:=gK;refine nP (i:=4) I gJ λgK=>?_;obtain⟨aN,cN,rfl,-,haN⟩:=gK;clear hOA hal
 try refine GA ?_
 refine a8 I λg5=>?_;refine zL ?_;refine gG 6 (cs':=#[av aS S.length cS,av aN Nx.length cN]) ?_;refine zL ?_
 try refine GA ?_
 by_cases c0:e=0
 ·subst c0
  rw[if_neg (by simp)]at hO;obtain⟨hg,hA⟩:=kV rfl;obtain⟨hT1,hT2,hN1,YT,Af,hgb⟩:=cU hg;have Ii:∀q∈g.aH,q.2.length<=8:=λq hq=>(hgb q hq).1;obtain⟨T,J7⟩:∃T:Nat,g.aT=(T:Int):=⟨g.aT.toNat,by omega⟩;obtain⟨N,hNn⟩:∃N:Nat,g.bx=(N:Int):=⟨g.bx.toNat,by omega⟩;have hTn:g.aT.toNat=T:=by omega
  rw[hTn,show g.bx.toNat=N by omega]at hA;rw[hTn]at hO;have hT:T<=30:=by omega
  have hI:=MH Ii Af hT hA;have J8:=adw Ii Af hT hA;have hS0:0<S.length:=(dX.1 hI.start).1;have hS2:=hI.tY;have hNl:=hI.len;have hac:=hac T J7 hT;obtain⟨gS,rfl⟩:=haS hS0;obtain⟨gN,rfl⟩:=haN J;clear kV hno haS haN;rw[J7,hO];rw[J7]at hac
  try refine GA ?_
  refine a8 I λg7=>?_;refine zL ?_
  repeat(first|refine GA ?_|refine gV (aC (v:=av (aj ⟨gS,0,ak⟩) S.length cS) aL.ty I (aI (i:=6) I I)) ?_)
  refine iz 160 1 (mP (eo Am (λ_=>False) [] []) (λk hk=>hk.elim (λh=>by cases h) id) (λw=>jM) (iz 26 1 (mP (eo (bR fP) (λ_=>False) [] []) (λk hk=>hk.elim (λh=>by cases h) id) (λw=>jM) (iz 164 6 ?_))))
  conv=>arg 7;simp only[zA,zB,zC,zD,zE,zF,zG,zH,zI,cD,ret,id_eq]
  refine d_ (ι:=Nat×RD×Value) (λ(n,_,_)=>n<=S.length) (λ(n,_,vf)=>[(1,aK (aj ⟨g1,0,ak⟩)),(2,aK (aj ⟨g2,0,ak⟩)),(5,aK (aj ⟨g5,0,ak⟩)),(7,aK (aj ⟨g7,0,ak⟩)),(8,vf),(26,az aB (S.length:Int)),(27,az aB (n:Int))])
   (λ(n,x,vf)=>[aR g1 (dP (T:Int) g.bx vp).cells 33,aR g2 #[av ak 0 0,av ak 0 0] 36,a_ 226 1 (av (aj ⟨gS,0,ak⟩) S.length cS) S.length w_,eo (bR J3) F (w_.map λv=>[v]) S,a_ 26 1 (av (aj ⟨gN,0,ak⟩) Nx.length cN) Nx.length Co,eo (bR fP) FN (Co.map λv=>[v]) Nx,aR g5 #[av (aj ⟨gS,0,ak⟩) S.length cS,av (aj ⟨gN,0,ak⟩) Nx.length cN] 157,aR g7 #[x.vA,x.vG] 36,a_ 160 1 x.vA (iG g.aH T Nx S n).length x.C0,eo Am x.FA (x.C0.map λv=>[v]) (iG g.aH T Nx S n),a_ 26 1 x.vG (fN T Nx n).length x.C1,eo (bR fP) x.FG (x.C1.map λv=>[v]) (fN T Nx n),a_ 164 6 vf (iZ g.aH T Nx S n).length ((iZ g.aH T Nx S n).flatMap NH)]) (λ(n,_,_)=>S.length-n) (0,⟨av ak 0 0,[],λ_=>False,av ak 0 0,[],λ_=>False⟩,av ak 0 0) (bH _) ?_
  rintro⟨n,x,vf⟩ i1;dsimp only at i1⊢
  by_cases c1:n<S.length
  ·have hnN:n<Nx.length:=by omega
   have hSn:S.getD n []=S[n]:=by rw[de,bM c1];rfl
   have agP:Nx.getD n []=Nx[n]:=by rw[de,bM hnN];rfl
   have Xl:=hI.ss.right S[n] (cH c1);have hwd:=hI.wide n c1;rw[agP]at hwd;have rQ:=J8 S[n] (cH c1);refine iR (i:=3) I (λw h=>Ig h) λhvl=>?_;refine iR (i:=5) I (λw h=>Ig h) λhnl=>?_;have hvq:w_[0+n]?=aj (w_[n]' J):=by rw[cX];exact bM _
   have aiM:w_[n]?=aj (w_[n]' J):=bM _;generalize w_[n]' J=vq at hvq aiM;have hnq:Co[0+n]?=aj (Co[n]' J):=by rw[cX];exact bM _
   have abd:Co[n]?=aj (Co[n]' J):=bM _;generalize Co[n]' J=nq at hnq abd;refine iR (i:=5) I (λw h=>cP (aad h hnN abd) (kw.okp (QY h hnN abd))) λaiN=>?_;obtain⟨⟨aq,cq,rfl,hcq,ala,-⟩,akr⟩:=aiN;have ue:(iZ g.aH T Nx S n++iY g.aH T Nx S n (T+1)).length<=100000000:=by
    have h1:=Cv (l:=g.aH) (T:=T) (Nx:=Nx) (S:=S) (M:=11439) (λq=>by
     by_cases hq:q<S.length
     rw[de,bM hq];exact J8 _ (cH hq);rw[de,ta J];exact bH _) (n+1)
    rw[iZ]at h1;exact fH h1 (fH (Fs (show n+1<=200 by omega) (Fs (show T+1<=31 by omega) (bC _))) aln)
   have hS1:=λ(L:List b9) (i:Nat) (hL:L[i]?=aj (eo (bR J3) F (w_.map λv=>[v]) S))=>Q0 (W:=(w:bP)) (L:=L) (f:=jj) (c:=3) aln hL c1 aiM;have hN1:∀(L:List b9) (i:Nat) (hL:L[i]?=aj (eo (bR fP) FN (Co.map λv=>[v]) Nx)),SlL (w:bP) L (.slice aq Nx[n].length cq) Nx[n].length (Nx[n].map (az .i64)):=λL i hL w' qu=>by
    have:=Q0 (W:=(w:bP)) (L:=L) (f:=λn=>[az .i64 n]) (c:=1) aln hL hnN abd w' qu
    rwa [<-aaK]at this
   repeat(first|refine GC ?_|refine gV (aC (v:=az aB (T:Int)) aL.ty I (aI (i:=0) I I)) ?_|refine gV (fl (r:=((T+1:Nat):Int)) I I J J J) ?_|refine GB ?_)
   refine NG sa aln (0,0) I I I J J I λg10=>?_;rw[<-abc (l:=g.aH) (Nx:=Nx) (S:=S) (q:=n)];refine zL ?_
   repeat(first|refine GA ?_|refine gV (aP (i:=0) aL.ty I I I) ?_|refine gV (aP (i:=6) aL.ty I I I) ?_)
   refine aU (S:=NF T (kR g.aH T S[n] Nx[n])) (qq aJ.en I I I I) (λw hm=>hac gS 0 S.length cS gN 0 Nx.length cN n vq (.slice aq Nx[n].length cq) S[n] Nx[n] w hm.below Af c1 (zN (hm.get (i:=2) I) hvq) (hS1 _ 3 I w hm) hnN (zN (hm.get (i:=4) I) hnq) (hN1 _ 5 I w hm) J Xl J J) I I I ?_;rintro⟨ga,vs⟩ _
   conv=>arg 8;simp only[zJ,cD,ret,id_eq,NF]
   conv=>arg 7;simp only[NF]
   rw[<-hSn,<-agP];clear hac
   try refine GA ?_
   refine mM (ι:=Nat×Value) (λ(c,_)=>c<=T+1) (λ(c,vf)=>[(1,aK (aj ⟨g1,0,ak⟩)),(2,aK (aj ⟨g2,0,ak⟩)),(5,aK (aj ⟨g5,0,ak⟩)),(7,aK (aj ⟨g7,0,ak⟩)),(8,vf),(26,az aB (S.length:Int)),(27,az aB (n:Int)),(9,az aB (n:Int)),(10,av (aj ⟨g10,0,ak⟩) (T+1) (T+1)),(37,av (aj ⟨ga,0,ak⟩) (T+1) (T+1)),(38,az aB ((T+1:Nat):Int)),(39,az aB (c:Int))])
    (λ(c,vf)=>[aR g1 (dP (T:Int) g.bx vp).cells 33,aR g2 #[av ak 0 0,av ak 0 0] 36,a_ 226 1 (av (aj ⟨gS,0,ak⟩) S.length cS) S.length w_,eo (bR J3) F (w_.map λv=>[v]) S,a_ 26 1 (av (aj ⟨gN,0,ak⟩) Nx.length cN) Nx.length Co,eo (bR fP) FN (Co.map λv=>[v]) Nx,aR g5 #[av (aj ⟨gS,0,ak⟩) S.length cS,av (aj ⟨gN,0,ak⟩) Nx.length cN] 157,aR g7 #[x.vA,x.vG] 36,a_ 160 1 x.vA (iG g.aH T Nx S n).length x.C0,eo Am x.FA (x.C0.map λv=>[v]) (iG g.aH T Nx S n),a_ 26 1 x.vG (fN T Nx n).length x.C1,eo (bR fP) x.FG (x.C1.map λv=>[v]) (fN T Nx n),a_ 164 6 vf (iZ g.aH T Nx S n++iY g.aH T Nx S n c).length ((iZ g.aH T Nx S n++iY g.aH T Nx S n c).flatMap NH),a_ 162 2 (av (aj ⟨g10,0,ak⟩) (T+1) (T+1)) (T+1) ((ix g.aH T Nx S n c).flatMap jE),fE 160 wE ga (T+1) vs,jK (λj=>j<T+1) (oI vs (kR g.aH T (S.getD n []) (Nx.getD n [])))]) (λ(c,_)=>T+1-c) (0,vf) (bH _) (by repeat' (first|exact cV|refine cP I ?_)) (by dsimp only;rw[iY,dY]) ?_
   rintro⟨c,vf⟩ j1;dsimp only at j1⊢
   by_cases c2:c<T+1
   ·obtain⟨X,hX⟩:∃X,kR g.aH T (S.getD n []) (Nx.getD n []) c=X:=⟨_,rfl⟩
    have hXl:X.length<=11440:=by
     rw[<-hX,<-Ix];have:=BL (l:=g.aH) (T:=T) (nx:=Nx.getD n []) (t:=T) (s:=S.getD n []) (c:=c);rw[hSn]at this⊢;omega
    have aiO:=RG (l:=g.aH) (Nx:=Nx) (S:=S) (q:=n) c2;have aiP:X=[]->ix g.aH T Nx S n (c+1)=ix g.aH T Nx S n c:=λh=>NI (by unfold Fz;rw[hX,h]);have hhd:pN g.aH T Nx S n c=X.headD (0,0):=by unfold pN;rw[hX]
    have S3:iY g.aH T Nx S n (c+1)=iY g.aH T Nx S n c++X.tail.map λx=>(((n:Int),(c:Int),X.headD (0,0),x):Xn):=by
     rw[iY,xc];unfold Fz;rw[hX]
    have alb:(iZ g.aH T Nx S n++iY g.aH T Nx S n c).length<=100000000:=by
     rw[bK]at ue⊢;have:=An (l:=g.aH) (T:=T) (Nx:=Nx) (S:=S) (q:=n) (show c<=T+1 by omega);omega
    generalize aiQ:iZ g.aH T Nx S n++iY g.aH T Nx S n c=base at*;refine iR (i:=15) I (λw h=>gJ w (h.1 c c2)) λgK=>?_;obtain⟨ax,cx,Xi,-,hax⟩:=gK;rw[hX]at Xi hax;have abe:∀(L:List b9) (i:Nat) (gx:Nat),ax=aj ⟨gx,0,ak⟩->L[i]?=aj (jK (λj=>j<T+1) (oI vs (kR g.aH T (S.getD n []) (Nx.getD n []))))->∀k (hk:k<X.length) (j:Nat) (u:Value),(jE X[k])[j]?=aj u->At (w:bP) L ⟨gx,0+k*2+j,ak⟩ u:=λL i gx hgx hL k hk j u hu=>ac2 hL λw h=>by
     have h2:=h.1 c c2;unfold oI at h2;rw[Xi,hX,hgx]at h2;have hj2:j<2:=by rw[<-sa X[k]];exact(dX.1 hu).1
     exact zN h2 (by rw[cX,uQ sa X k j hk hj2];exact hu)
    repeat(first|refine GA ?_|refine gV (bY bQ.eq aL.ty I I c2) ?_|refine gV (aC (v:=av ax X.length cx) aL.ty I (by have:=gI (W:=(w:bP)) (val:=wE) (i:=14) (f:=vs) (e:=160) (g:=ga) (len:=T+1) (L:=[aR g1 (dP (T:Int) g.bx vp).cells 33,aR g2 #[av ak 0 0,av ak 0 0] 36,a_ 226 1 (av (aj ⟨gS,0,ak⟩) S.length cS) S.length w_,eo (bR J3) F (w_.map λv=>[v]) S,a_ 26 1 (av (aj ⟨gN,0,ak⟩) Nx.length cN) Nx.length Co,eo (bR fP) FN (Co.map λv=>[v]) Nx,aR g5 #[av (aj ⟨gS,0,ak⟩) S.length cS,av (aj ⟨gN,0,ak⟩) Nx.length cN] 157,aR g7 #[x.vA,x.vG] 36,a_ 160 1 x.vA (iG g.aH T Nx S n).length x.C0,eo Am x.FA (x.C0.map λv=>[v]) (iG g.aH T Nx S n),a_ 26 1 x.vG (fN T Nx n).length x.C1,eo (bR fP) x.FG (x.C1.map λv=>[v]) (fN T Nx n),a_ 164 6 vf (base).length ((base).flatMap NH),a_ 162 2 (av (aj ⟨g10,0,ak⟩) (T+1) (T+1)) (T+1) ((ix g.aH T Nx S n c).flatMap jE),fE 160 wE ga (T+1) vs,jK (λj=>j<T+1) (oI vs (kR g.aH T (S.getD n []) (Nx.getD n [])))]) I c2;rw[Xi]at this;exact this)) ?_)
    refine mM (ι:=Nat×Value) (λ(i,_)=>i<=X.length) (λ(i,vf)=>[(1,aK (aj ⟨g1,0,ak⟩)),(2,aK (aj ⟨g2,0,ak⟩)),(5,aK (aj ⟨g5,0,ak⟩)),(7,aK (aj ⟨g7,0,ak⟩)),(8,vf),(26,az aB (S.length:Int)),(27,az aB (n:Int)),(9,az aB (n:Int)),(10,av (aj ⟨g10,0,ak⟩) (T+1) (T+1)),(37,av (aj ⟨ga,0,ak⟩) (T+1) (T+1)),(38,az aB ((T+1:Nat):Int)),(11,az aB (c:Int)),(12,av ax X.length cx),(39,az aB (c:Int)),(44,av ax X.length cx),(45,az aB (X.length:Int)),(46,az aB (i:Int))])
     (λ(i,vf)=>[aR g1 (dP (T:Int) g.bx vp).cells 33,aR g2 #[av ak 0 0,av ak 0 0] 36,a_ 226 1 (av (aj ⟨gS,0,ak⟩) S.length cS) S.length w_,eo (bR J3) F (w_.map λv=>[v]) S,a_ 26 1 (av (aj ⟨gN,0,ak⟩) Nx.length cN) Nx.length Co,eo (bR fP) FN (Co.map λv=>[v]) Nx,aR g5 #[av (aj ⟨gS,0,ak⟩) S.length cS,av (aj ⟨gN,0,ak⟩) Nx.length cN] 157,aR g7 #[x.vA,x.vG] 36,a_ 160 1 x.vA (iG g.aH T Nx S n).length x.C0,eo Am x.FA (x.C0.map λv=>[v]) (iG g.aH T Nx S n),a_ 26 1 x.vG (fN T Nx n).length x.C1,eo (bR fP) x.FG (x.C1.map λv=>[v]) (fN T Nx n),a_ 164 6 vf ((base++(X.tail.take (i-1)).map λx=>(((n:Int),(c:Int),X.headD (0,0),x):Xn))).length (((base++(X.tail.take (i-1)).map λx=>(((n:Int),(c:Int),X.headD (0,0),x):Xn))).flatMap NH),a_ 162 2 (av (aj ⟨g10,0,ak⟩) (T+1) (T+1)) (T+1) ((if i=0 then ix g.aH T Nx S n c else ix g.aH T Nx S n (c+1)).flatMap jE),fE 160 wE ga (T+1) vs,jK (λj=>j<T+1) (oI vs (kR g.aH T (S.getD n []) (Nx.getD n [])))]) (λ(i,_)=>X.length-i) (0,vf) (bH _) (by repeat' (first|exact cV|refine cP I ?_)) (by simp) ?_
    rintro⟨i,vf⟩ k1;dsimp only at k1⊢
    by_cases c3:i<X.length
    ·have aks:=λ(L:List b9) (k:Nat) (gx:Nat) (hgx:ax=aj ⟨gx,0,ak⟩) (hL:L[k]?=aj (jK (λj=>j<T+1) (oI vs (kR g.aH T (S.getD n []) (Nx.getD n [])))))=>abe L k gx hgx hL i c3
     obtain⟨gx,rfl⟩:=hax J;have agQ:∀(L:List b9) (k:Nat),L[k]?=aj (jK (λj=>j<T+1) (oI vs (kR g.aH T (S.getD n []) (Nx.getD n []))))->∀(j:Nat) (u:Value),(jE (X.headD (0,0)))[j]?=aj u->At (w:bP) L ⟨gx,0+0*2+j,ak⟩ u:=λL k hL j u hu=>abe L k gx I hL 0 J j u (by
      have:X.headD (0,0)=X[0]' J:=by
       cases X with
       |nil=>exact absurd c3 (Nat.not_lt_zero _)
       |cons y r=>rfl
      rwa [this]at hu)
     have hXi:i=0->X[i]=pN g.aH T Nx S n c:=λe=>by
      subst e;rw[hhd]
      cases X with
      |nil=>exact absurd c3 (ow _)
      |cons y r=>rfl
     have hXt:i≠0->X.tail.take (i+1-1)=X.tail.take (i-1)++[X[i]]:=λe=>by
      obtain⟨m,rfl⟩:∃m,i=m+1:=⟨i-1,by omega⟩
      cases X with
      |nil=>exact absurd c3 (ow _)
      | cons y r=>
       have hm:m<r.length:=by simpa using c3
       show r.take (m+1)=r.take m++[r[m]]
       exact gv hm
     have akM:(base++(X.tail.take (i-1)).map λx=>(((n:Int),(c:Int),X.headD (0,0),x):Xn)).length<=100100000:=by
      rw[bK,eI,jz,Ko];omega
     have hbf:=Wl (n:Int) (c:Int) (X.headD (0,0));generalize hXX:X[i]=xa at*;clear abe hS1 hN1
     repeat(first|refine GA ?_|refine gV (aZ bQ.eq aL.ty I I c3) ?_|refine gV (aY (cs:=jE xa) aL.ty I I (aks _ 15 gx I I)) ?_)
     refine a8 I λg14=>?_;refine zL ?_
     try refine GA ?_
     refine gG 16 (cs':=(jE xa).toArray) ?_;refine zL ?_
     by_cases q1:i=0
     ·subst q1
      rw[if_pos I];have hXi:=hXi I
      repeat(first|refine GA ?_|refine gV (aP (i:=16) aL.ty I I I) ?_|refine gV (aZ bQ.eq aL.ty I I c2) ?_)
      refine A' sa (k:=c) (a:=xa) (i:=13) aL.ty I I J (by rw[p_];exact c2) p_.symm I I I ?_;rw[hXi,aiO];refine zL ?_
      try refine GA ?_
      refine dv [0,1,2,3,4,5,6,7,8,9,10,11,12,13,14,15] ?_;exact bW (0+1,vf) (by show 0+1<=X.length;omega) (by show X.length-(0+1)<X.length-0;omega) (hl:=by dsimp only;rw[if_neg J];rfl)
     rw[if_neg q1];have nl:base++(X.tail.take (i+1-1)).map (λx=>(((n:Int),(c:Int),X.headD (0,0),x):Xn))=(base++(X.tail.take (i-1)).map λx=>(((n:Int),(c:Int),X.headD (0,0),x):Xn))++[((n:Int),(c:Int),X.headD (0,0),xa)]:=by rw[hXt q1,eZ,<-eY];rfl
     clear hXt;generalize (base++(X.tail.take (i-1)).map λx=>(((n:Int),(c:Int),X.headD (0,0),x):Xn))=fb at*
     try refine GA ?_
     refine dH ([jK (λj=>j<T+1) (oI vs (kR g.aH T (S.getD n []) (Nx.getD n []))),aR g14 (jE xa).toArray 162]) (.calm 0 (.calm 1 (.calm 2 (.calm 3 (.calm 4 (.calm 5 (.calm 6 (.calm 7 (.one 8 (.one 9 (.calm 10 (.done)))))))))))) (bV [15,16]) ?_
     repeat(first|refine GW ?_|(refine GN ?_;first|refine QW (aZ (j:=0) bQ.eq aL.ty I I (show 0<X.length by omega)) ?_|refine QW (aY (cs:=jE (X.headD (0,0))) aL.ty I I (agQ _ 0 I)) ?_|refine QW (aP (i:=1) aL.ty I I I) ?_|refine QW (bB I (hbf _)) ?_))
     refine aM I (fO (cs:=(NH ((n:Int),(c:Int),X.headD (0,0),xa)).toArray) I I I I I λg65=>aO (bV [15,16]) ?_);refine aM I (mN (i:=12) (q:=17) I I I I I I J J I λvf2=>aO (bV [15,16]) ?_)
     try refine GW ?_
     try refine GA ?_
     refine dv [0,1,2,3,4,5,6,7,8,9,10,11,12,13,14,15] ?_;exact bW (i+1,vf2) (by show i+1<=X.length;omega) (by show X.length-(i+1)<X.length-i;omega) (hl:=by dsimp only;rw[if_neg J,nl,bK,ir];rfl)
    obtain rfl:i=X.length:=by omega
    have aiR:(if X.length=0 then ix g.aH T Nx S n c else ix g.aH T Nx S n (c+1))=ix g.aH T Nx S n (c+1):=by
     by_cases e:X.length=0
     rw[if_pos e];exact(aiP (mK e)).symm;rw[if_neg e]
    have htt:X.tail.take (X.length-1)=X.tail:=gT (by rw[Ko];exact bC _);rw[aiR,htt]
    try refine GA ?_
    exact bW (c+1,vf) (by show c+1<=T+1;omega) (by show T+1-(c+1)<T+1-c;omega) (hl:=by dsimp only;rw[S3,<-eY,aiQ])
   obtain rfl:c=T+1:=by omega
   have hTN:T<=Nx[n].length:=by omega
   have UM:(Nx[n].drop T).length=Nx[n].length-T:=iT;have oB:(Nx[n].drop T).take (Nx[n].length-T)=Nx[n].drop T:=gT (by rw[UM];exact bC _);have hSub:∀(L:List b9) (i:Nat),L[i]?=aj (eo (bR fP) FN (Co.map λv=>[v]) Nx)->SlL (w:bP) L (sN aq cq 1 T Nx[n].length) (Nx[n].length-T) ((Nx[n].drop T).map (az .i64)):=λL i hL w' qu=>by
    have h1:=Q0 (W:=(w:bP)) (L:=L) (f:=λn=>[az .i64 n]) (c:=1) aln hL hnN abd w' qu;have h2:=A9 (i:=T) (j:=Nx[n].length) (f:=λn=>[az .i64 n]) (λ_=>rfl) h1 hTN (bC _);rw[oB,UM,<-aaK]at h2;exact h2
   have afh:((Nx[n].drop T).map (az .i64)).length=(Nx[n].length-T)*1:=by rw[eI,UM,lP]
   have afi:∀u∈(Nx[n].drop T).map (az .i64),u.oneCell'=true:=λu hu=>by obtain⟨y,_,rfl⟩:=fG.1 hu;rfl
   have hgo:∀{v:Value} {w':World},(a_ 3 1 v (0+(Nx[n].length-T)) ([]++(Nx[n].drop T).map (az .i64))).holds w'->(bR fP).is (λk=>v.ownBlock=aj k) w' [v] ((Nx.getD n []).drop T):=λ{v w'} h=>by
    rw[agP];rw[cX,e7,<-UM]at h;exact Cn (λy hy=>akr y (yu hy)) h
   repeat(first|refine GA ?_|refine gV (aC (v:=x.vA) aL.ty I (aI (i:=7) I I)) ?_)
   have hAl:=jF (l:=g.aH) (T:=T) (Nx:=Nx) (S:=S) n;have hGl:=mE (T:=T) (Nx:=Nx) n;refine iA (i:=8) I I I I I I (λz h=>by cases h;rfl) J J I λz vA2=>?_;refine zL ?_;refine pB (eo Am (λk=>x.FA k\/(av (aj ⟨g10,0,ak⟩) (T+1) (T+1)).ownBlock=aj k) ((x.C0.map λv=>[v])++[[av (aj ⟨g10,0,ak⟩) (T+1) (T+1)]]) (iG g.aH T Nx S n++[ix g.aH T Nx S n (T+1)])) 13 9 [0,1,2,3,4,5,6,7,8,10,11,12] aln I I I (λk hk=>hk.elim (λh=>by cases h) λh=>h.elim (λh=> .inr (.inr h)) λh=> .inl (.inl h)) (λw hr he=>mO he (abb (by rw[p_];exact hr)) (Ad hr)) ?_;refine zL ?_
   try refine GA ?_
   refine aX (i:=8) I λju l_=>bJ (i:=7) I I I ju l_ I ?_;refine zL ?_
   try refine GA ?_
   refine iz 3 1 ?_
   conv=>arg 7;simp only[zA,zB,zC,zD,zE,zF,zG,zH,zI,cD,ret,id_eq]
   refine dH ([aR g1 (dP (T:Int) g.bx vp).cells 33,a_ 26 1 (av (aj ⟨gN,0,ak⟩) Nx.length cN) Nx.length Co,eo (bR fP) FN (Co.map λv=>[v]) Nx,aR g5 #[av (aj ⟨gS,0,ak⟩) S.length cS,av (aj ⟨gN,0,ak⟩) Nx.length cN] 157]) (.calm 0 (.calm 2 (.calm 3 (.calm 4 (.calm 5 (.calm 6 (.calm 7 (.calm 8 (.calm 9 (.two 1 (.one 10 (.one 11 (.one 12 (.calm 13 (.one 14 (.done)))))) 10 (.two 1 (.one 11 (.one 12 (.calm 13 (.one 14 (.done))))) 11 (.one 1 (.one 12 (.calm 13 (.one 14 (.done)))))))))))))))) (bV [0,4,5,6]) ?_
   repeat(first|(refine GN ?_;first|refine QW QP ?_|refine QW (aC (v:=av (aj ⟨gN,0,ak⟩) Nx.length cN) aL.ty I (aI (i:=3) I I)) ?_|refine QW (bY bQ.eq aL.ty I I hnN) ?_|refine QW (aC (v:= .slice aq Nx[n].length cq) aL.ty I (jP (i:=1) I hnq)) ?_|refine QW (aC (v:=az aB (T:Int)) aL.ty I (aI (i:=0) I I)) ?_|refine QW (rI (i:=T) bQ.eq aL.ty I I hTN hcq) ?_|refine GX ?_)|refine GW ?_)
   refine eN I I ?aiS ?aiT
   case' aiS=>
    refine dm (aC (v:=x.vG) aL.ty I (aI (i:=7) I I)) I I I (aO (bV [0,4,5,6]) ?_);refine aM I (ee (i:=13) (k:=Nx[n].length-T) I (hSub _ 5 I) I I afh afi J J I λvI=>aO (bV [0,4,5,6]) ?_);refine aM I (aX (i:=13) I λhw1 hw2=>fO (cs:=#[vI]) I hw1 I I I λg86=>aO (bV [0,4,5,6]) ?_)
   case' aiT=>
    refine ee (i:=13) (k:=Nx[n].length-T) I (hSub _ 5 I) I I afh afi J J I λvI=>aO (bV [0,4,5,6]) ?_;refine eN I I ?aiU ?aiV
   case' aiU=>
    refine dm (aC (v:=x.vG) aL.ty I (aI (i:=7) I I)) I I I (aO (bV [0,4,5,6]) ?_);refine aM I (aX (i:=13) I λhw1 hw2=>fO (cs:=#[vI]) I hw1 I I I λg86=>aO (bV [0,4,5,6]) ?_)
   case' aiV=>
    refine aX (i:=13) I λhw1 hw2=>fO (cs:=#[vI]) I hw1 I I I λg86=>aO (bV [0,4,5,6]) ?_;refine aM I (dm (aC (v:=x.vG) aL.ty I (aI (i:=7) I I)) I I I (aO (bV [0,4,5,6]) ?_))
   all_goals
    refine aM I (lZ (i:=9) (q:=14) I I I I I hw2 J J I λvG2=>aO (bV [0,4,5,6]) ?_)
    try refine GW ?_
    refine aM I (aX (i:=9) I λju l_=>bJ (i:=7) I I I ju l_ I (aO (bV [0,4,5,6]) ?_))
    try refine GW ?_
    refine wZ (eo (bR fP) (λk=>x.FG k\/vI.ownBlock=aj k) ((x.C1.map λv=>[v])++[[vI]]) (fN T Nx n++[(Nx.getD n []).drop T])) 13 10 [0,1,2,3,4,5,6,7,8,9,11,12] aln I I I (λk hk=>hk.elim (λh=>by cases h) λh=>h.elim (λh=> .inr (.inr h)) λh=> .inl (.inl h)) (λw hr he=>mO he (hgo hr) (Ad hr)) ?_
    try refine GA ?_
    refine dv [0,1,2,3,4,5,6,7,8,11,9,12,10] ?_;exact bW (n+1,⟨vA2,x.C0++[av (aj ⟨g10,0,ak⟩) (T+1) (T+1)],λk=>x.FA k\/(av (aj ⟨g10,0,ak⟩) (T+1) (T+1)).ownBlock=aj k,vG2,x.C1++[vI],λk=>x.FG k\/vI.ownBlock=aj k⟩,vf) (by show n+1<=S.length;omega) (by show S.length-(n+1)<S.length-n;omega) (hl:=by dsimp only;rw[show(iG g.aH T Nx S (n+1)).length=(iG g.aH T Nx S n).length+1 by rw[jF,jF],show(fN T Nx (n+1)).length=(fN T Nx n).length+1 by rw[mE,mE],NJ,Ky,eZ,eZ];rfl)
  obtain rfl:n=S.length:=by omega
  refine iR (i:=8) I (λw h=>gJ w h) λgK=>?_;obtain⟨aA,cA,hvA,-⟩:=gK;refine iR (i:=10) I (λw h=>gJ w h) λgK=>?_;obtain⟨aG,cG,hvG,-⟩:=gK;obtain⟨vA,C0,FA,vG,C1,FG⟩:=x;dsimp only at hvA hvG⊢;subst hvA hvG
  repeat(first|refine GA ?_|refine gV (aP (i:=7) aL.ty I I I) ?_)
  refine gG 1 ?_;refine zL ?_
  try refine GA ?_
  exact fD (i:=1) I I I I I I λw hm=>hm.meets (S:=⟨λ(_:RD×Value)=>True,λx=> .tuple #[aQ #[x.1.vA,x.1.vG],x.2,az aB 0],λx=>[a_ 160 1 x.1.vA (iG g.aH T Nx S S.length).length x.1.C0,eo Am x.1.FA (x.1.C0.map λv=>[v]) (iG g.aH T Nx S S.length),a_ 26 1 x.1.vG (fN T Nx S.length).length x.1.C1,eo (bR fP) x.1.FG (x.1.C1.map λv=>[v]) (fN T Nx S.length),a_ 164 6 x.2 (iZ g.aH T Nx S S.length).length ((iZ g.aH T Nx S S.length).flatMap NH)]⟩) (⟨av aA _ cA,C0,FA,av aG _ cG,C1,FG⟩,vf) trivial [8,9,10,11,12] aln I
 ·rw[if_pos c0]at hO
  rw[hO]
  repeat(first|refine GC ?_|refine gV (dc (b:=aD) I I (decide_eq_true c0)) ?_|refine gV (bB I A5) ?_|refine GB ?_)
  refine gG 1 ?_;refine zL ?_
  try refine GA ?_
  refine dJ 160 1 (qC (eo Am (λ_=>False) [] []) (λk hk=>hk.elim (λh=>by cases h) id) (λw=>jM) (dJ 26 1 (qC (eo (bR fP) (λ_=>False) [] []) (λk hk=>hk.elim (λh=>by cases h) id) (λw=>jM) (dJ 164 6 ?_))));exact fD (i:=1) I I I I I I λw hm=>hm.meets (S:=⟨λ(_:RD×Value)=>True,λx=> .tuple #[aQ #[x.1.vA,x.1.vG],x.2,az aB e],λx=>[a_ 160 1 x.1.vA 0 x.1.C0,eo Am x.1.FA (x.1.C0.map λv=>[v]) [],a_ 26 1 x.1.vG 0 x.1.C1,eo (bR fP) x.1.FG (x.1.C1.map λv=>[v]) [],a_ 164 6 x.2 0 []]⟩) (⟨av ak 0 0,[],λ_=>False,av ak 0 0,[],λ_=>False⟩,av ak 0 0) trivial [7,8,9,10,11] aln I
def BM(w:World)(t:Value)(A:List (List bI.Act))(G:List (List Int)):Prop:=∃vA vG,t=aQ #[vA,vG]/\kw (bR wF) (λk=>k<w.heap.size) w vA A/\kw (bR fP) (λk=>k<w.heap.size) w vG G
theorem BM.gr{w w':World}{t:Value}{A:List (List bI.Act)}{G:List (List Int)}(h:BM w t A G)(hg:Gr w w'):BM w' t A G:=let ⟨a,b,h1,h2,h3⟩:=h;⟨a,b,h1,h2.gr hg,h3.gr hg⟩
theorem ad4{w:World}{x:RD}{A:List (List bI.Act)}{G:List (List Int)}(h1:(a_ 160 1 x.vA A.length x.C0).holds w)(h2:(eo Am x.FA (x.C0.map λv=>[v]) A).holds w)(h3:(a_ 26 1 x.vG G.length x.C1).holds w)(h4:(eo (bR fP) x.FG (x.C1.map λv=>[v]) G).holds w):BM w (aQ #[x.vA,x.vG]) A G:=by
 have h1':(a_ 160 (bR wF).c x.vA A.length (x.C0.map λv=>[v]).flatten).holds w:=by rw[Fb];exact h1
 have h3':(a_ 26 (bR fP).c x.vG G.length (x.C1.map λv=>[v]).flatten).holds w:=by rw[Fb];exact h3
 exact⟨x.vA,x.vG,rfl,(yj h1' (aba h2) aln).mono λk hk=>yl h1' h2 k hk,(yj h3' h4 aln).mono λk hk=>yl h3' h4 k hk⟩
theorem KA{α:Type}{s:wY α}{F:Nat->Prop}{w:World}{base:Option Addr}{n cap:Nat}{l:List (List α)}(h:kw (bR s) F w (av base n cap) l){i:Nat}(hi:i<l.length):∃b off vi,base=aj ⟨b,off,ak⟩/\w.cell? ⟨b,off+i,ak⟩=aj vi/\kw s F w vi l[i]:=by
 obtain⟨M5,A3,e,_,_,h3⟩:=h
 cases e
 obtain⟨b,off,rfl,_,h4⟩:=h3 J;obtain⟨cs,⟨vi,rfl,h5⟩,h6⟩:=h4 i hi;refine⟨b,off,vi,rfl,?_,h5⟩;have:=h6 0 vi I
 rwa [show off+i*(bR s).c+0=off+i by show off+i*1+0=_;omega]at this
theorem mZ{α:Type}{s:wY α}{F:Nat->Prop}{w:World}{v:Value}{l:List α}(h:kw s F w v l):∃base cap,v=av base l.length cap/\l.length<=cap/\cap<=9223372036854775807:=let ⟨b,c,h1,h2,h3,_⟩:=h;⟨b,c,h1,h2,by unfold maxLen at h3;omega⟩
def wH(T P n:Nat)(x:bI.Act)(c:Nat):Prop:=(x.1=0/\x.2=0)\/(x.1=1/\c<T/\0<=x.2/\x.2<(n:Int))\/(x.1=2/\0<=x.2/\x.2<(P:Int))\/(x.1=3/\x.2=0/\c=T)
theorem KB(T P n:Nat)(nn:Int)(bp:Option Addr)(cp:Nat)(aA:Option Addr)(cA:Nat)(vG:Value)(x:bI.Act)(c:Nat)(h:wH T P n x c)(w:World):
 Calls aE 93 #[dP (T:Int) nn (av bp P cp),aQ #[av aA n cA,vG],aQ (jE x).toArray,az aB (c:Int)] w (bX (ret (.bool aD)) w):=by
 obtain⟨k,m⟩:=x;unfold wH at h;dsimp only at h;refine enter (args:=[dP (T:Int) nn (av bp P cp),aQ #[av aA n cA,vG],aQ (jE (k,m)).toArray,az aB (c:Int)]) (n:=59) Tryz.func93 I I I ?_;refine cB (bD (bL I I I λg4=>?_));refine zL ?_;refine bL I I I λg5=>?_;refine zL ?_;refine bL I I I λg6=>?_;refine zL ?_;rcases h with⟨rfl,rfl⟩|⟨rfl,h1,h2,h3⟩|⟨rfl,h1,h2⟩|⟨rfl,rfl,rfl⟩
 ·repeat(first|refine GA ?_|refine gV (aC (v:=az aB 0) aL.ty I (aI (i:=2) I I)) ?_)
  exact eB
 ·repeat(first|refine GA ?_|refine gV (aC (v:=az aB 1) aL.ty I (aI (i:=2) I I)) ?_|refine gV (aC (v:=az aB m) aL.ty I (aI (i:=2) I I)) ?_|refine gV (aC (v:=az aB (T:Int)) aL.ty I (aI (i:=0) I I)) ?_|refine gV (aC (v:=av aA n cA) aL.ty I (aI (i:=1) I I)) ?_)
  exact eB
 ·repeat(first|refine GA ?_|refine gV (aC (v:=az aB 2) aL.ty I (aI (i:=2) I I)) ?_|refine gV (aC (v:=az aB m) aL.ty I (aI (i:=2) I I)) ?_|refine gV (aC (v:=av bp P cp) aL.ty I (aI (i:=0) I I)) ?_)
  exact eB
 ·repeat(first|refine GA ?_|refine gV (aC (v:=az aB 3) aL.ty I (aI (i:=2) I I)) ?_|refine gV (aC (v:=az aB 0) aL.ty I (aI (i:=2) I I)) ?_|refine gV (aC (v:=az aB (c:Int)) aL.ty I (aI (i:=0) I I)) ?_)
  exact eB
structure sb(g:ep)(T N:Nat)(A:List (List bI.Act))(G:List (List Int)):Prop where
 KC:cC g=0
 aT:g.aT=(T:Int)
 bx:g.bx=(N:Int)
 pos:0<A.length
 tY:A.length<=200
 same:G.length=A.length
 wA:∀i (h:i<A.length),A[i].length=T+1
 dN:∀i (h:i<A.length),∀c (hc:c<A[i].length),wH T g.aH.length A.length A[i][c] c
 wG:∀i (h:i<G.length),G[i].length=N
 gos:∀i (h:i<G.length),∀y∈G[i],-1<=y/\y<(A.length:Int)
theorem xP(v t:Value)(g:ep)(T N:Nat)(A:List (List bI.Act))(G:List (List Int))(h:sb g T N A G)(w:World)(hG:kK (λk=>k<w.heap.size) w v g)(ht:BM w t A G):
 Calls aE 55 #[v,t] w (bX (ret (az aB 0)) w):=by
 have iH:=λw' (hg:Gr w w')=>ke v g w' (hG.gr hg);obtain⟨vp,rfl,hp,-,-⟩:=hG;obtain⟨bp,cp,rfl,-⟩:=hp;obtain⟨vA,vG,rfl,hA,hGo⟩:=ht;obtain⟨aA,cA,rfl,-,-⟩:=mZ hA;obtain⟨aG,cG,rfl,-,-⟩:=mZ hGo;obtain⟨hg,J7,hNn,xp,J8,uZ,hwA,ad5,hwG,abf⟩:=h;obtain⟨hT1,hT2,-,YT,Af,-⟩:=cU hg;rw[hg]at iH;rw[J7,hNn]at iH⊢;refine enter (args:=[dP (T:Int) (N:Int) (av bp g.aH.length cp),aQ #[av aA A.length cA,av aG G.length cG]]) (n:=93) Tryz.func55 I I I ?_;refine cB (bD (bL I I I λg2=>?_));refine zL ?_;refine bL I I I λg3=>?_;refine zL ?_
 repeat(first|refine GA ?_|refine gV (aP (i:=0) aL.ty I I I) ?_)
 refine aU (ja aJ.en I I) (λw hm=>iH w hm.below) I I I ?_;intro _ _;refine zL ?_
 repeat(first|refine GA ?_|refine gV (aC (v:=av aA A.length cA) aL.ty I (aI (i:=1) I I)) ?_|refine gV (aC (v:=av aG G.length cG) aL.ty I (aI (i:=1) I I)) ?_)
 clear iH;refine d_ (ι:=Nat) (λi=>i<=A.length) (λi=>[(2,aK (aj ⟨g2,0,ak⟩)),(3,aK (aj ⟨g3,0,ak⟩)),(6,az aB (A.length:Int)),(31,az aB (A.length:Int)),(32,az aB (i:Int))])
  (λ_=>[aR g2 (dP (T:Int) (N:Int) (av bp g.aH.length cp)).cells 33,aR g3 (aQ #[av aA A.length cA,av aG G.length cG]).cells 36]) (λi=>A.length-i) 0 (bH _) ?_
 intro i i1
 by_cases c1:i<A.length
 ·have c1G:i<G.length:=by omega
  obtain⟨bA,oA,vi,rfl,hcA,hsA⟩:=KA hA c1;obtain⟨bG,oG,wi,rfl,hcG,hsG⟩:=KA hGo c1G;obtain⟨ai,ci,rfl,hci,alc⟩:=mZ hsA;obtain⟨ei,di,rfl,hdi,aiW⟩:=mZ hsG;have hfA:=hsA.flat (f:=jE) aln;have hfG:=hsG.flat (f:=λn=>[az .i64 n]) aln;have ald:=hwA i c1;have ale:=hwG i c1G;have aiX:=ad5 i c1;have aiY:=abf i c1G;obtain⟨_,_,e1,-,-,hrA⟩:=hfA
  cases e1
  obtain⟨_,_,e2,-,-,hrG⟩:=hfG
  cases e2
  clear hsA hsG ad5 abf hwA hwG;have ad6:∀L,At (w:bP) L ⟨bA,oA+i,ak⟩ (.slice ai A[i].length ci):=λL=>kH hcA;have ad7:∀L,At (w:bP) L ⟨bG,oG+i,ak⟩ (.slice ei G[i].length di):=λL=>kH hcG;generalize A[i]=X at*;generalize G[i]=Y at*
  try refine GA ?_
  refine dH ([aR g2 (dP (T:Int) (N:Int) (av bp g.aH.length cp)).cells 33,aR g3 (aQ #[av (aj ⟨bA,oA,ak⟩) A.length cA,av (aj ⟨bG,oG,ak⟩) G.length cG]).cells 36]) (.calm 0 (.calm 1 (.calm 2 (.calm 3 (.calm 4 (.calm 5 (.calm 6 (.calm 7 (.calm 8 (.calm 9 (.calm 10 (.calm 11 (.calm 12 (.calm 13 (.calm 14 (.calm 15 (.calm 16 (.calm 17 (.calm 18 (.calm 19 (.calm 20 (.done)))))))))))))))))))))) (λ_ h=>h) ?_
  repeat(first|refine GW ?_|(refine GN ?_;first|refine QW (aC (v:=av (aj ⟨bA,oA,ak⟩) A.length cA) aL.ty I (aI (i:=1) I I)) ?_|refine QW (bY bQ.eq aL.ty I I c1) ?_|refine QW (aC (v:=av ai X.length ci) aL.ty I (ad6 _)) ?_|refine QW (aC (v:=az aB (T:Int)) aL.ty I (aI (i:=0) I I)) ?_|refine QW (aC (v:=av (aj ⟨bG,oG,ak⟩) G.length cG) aL.ty I (aI (i:=1) I I)) ?_|refine QW (bY bQ.eq aL.ty I I c1G) ?_|refine QW (aC (v:=av ei Y.length di) aL.ty I (ad7 _)) ?_|refine QW (aC (v:=az aB (N:Int)) aL.ty I (aI (i:=0) I I)) ?_))
  repeat(first|refine GA ?_|refine gV (aC (v:=av (aj ⟨bA,oA,ak⟩) A.length cA) aL.ty I (aI (i:=1) I I)) ?_|refine gV (bY bQ.eq aL.ty I I c1) ?_|refine gV (aC (v:=av ai X.length ci) aL.ty I (ad6 _)) ?_)
  refine d_ (ι:=Nat) (λc=>c<=X.length) (λc=>[(2,aK (aj ⟨g2,0,ak⟩)),(3,aK (aj ⟨g3,0,ak⟩)),(6,az aB (A.length:Int)),(7,az aB (i:Int)),(31,az aB (A.length:Int)),(32,az aB (i:Int)),(60,av ai X.length ci),(61,az aB (X.length:Int)),(62,az aB (c:Int))])
   (λ_=>[aR g2 (dP (T:Int) (N:Int) (av bp g.aH.length cp)).cells 33,aR g3 (aQ #[av (aj ⟨bA,oA,ak⟩) A.length cA,av (aj ⟨bG,oG,ak⟩) G.length cG]).cells 36]) (λc=>X.length-c) 0 (bH _) ?_
  intro c j1
  by_cases c2:c<X.length
  ·obtain⟨b,off,rfl,eR⟩:=hrA J
   have dy:=λL=>gd (L:=L) sa eR c2;have EX:∀(L:List b9) (j:Nat) (u:Value),(jE X[c])[j]?=aj u->At (w:bP) L ⟨b,off+c*2+j,ak⟩ u:=dy;have TC:=aiX c c2;clear dy;generalize X[c]=x at*;have hrc:=KB T g.aH.length A.length (N:Int) bp cp (aj ⟨bA,oA,ak⟩) cA (av (aj ⟨bG,oG,ak⟩) G.length cG) x c TC
   repeat(first|refine GA ?_|refine gV (aZ bQ.eq aL.ty I I c2) ?_|refine gV (aY (cs:=jE x) aL.ty I I (EX _)) ?_)
   refine a8 I λg9=>?_;refine zL ?_
   try refine GA ?_
   refine gG 2 (cs':=(jE x).toArray) ?_;refine zL ?_
   repeat(first|refine GA ?_|refine gV (aP (i:=0) aL.ty I I I) ?_|refine gV (aP (i:=1) aL.ty I I I) ?_|refine gV (aP (i:=2) aL.ty I I I) ?_)
   refine aU (Ln aJ.en I I I I I) (λw hm=>hrc w) I I I ?_;intro _ _;refine zL ?_
   try refine GA ?_
   refine dv [0,1] ?_;exact bW (c+1) J (by show X.length-(c+1)<X.length-c;omega)
  obtain rfl:c=X.length:=by omega
  repeat(first|refine GA ?_|refine gV (aC (v:=av (aj ⟨bG,oG,ak⟩) G.length cG) aL.ty I (aI (i:=1) I I)) ?_|refine gV (bY bQ.eq aL.ty I I c1G) ?_|refine gV (aC (v:=av ei Y.length di) aL.ty I (ad7 _)) ?_)
  refine d_ (ι:=Nat) (λc=>c<=Y.length) (λc=>[(2,aK (aj ⟨g2,0,ak⟩)),(3,aK (aj ⟨g3,0,ak⟩)),(6,az aB (A.length:Int)),(31,az aB (A.length:Int)),(32,az aB (i:Int)),(78,av ei Y.length di),(79,az aB (Y.length:Int)),(80,az aB (c:Int))])
   (λ_=>[aR g2 (dP (T:Int) (N:Int) (av bp g.aH.length cp)).cells 33,aR g3 (aQ #[av (aj ⟨bA,oA,ak⟩) A.length cA,av (aj ⟨bG,oG,ak⟩) G.length cG]).cells 36]) (λc=>Y.length-c) 0 (bH _) ?_
  intro c k1
  by_cases c3:c<Y.length
  ·obtain⟨b,off,rfl,eR⟩:=hrG J
   have dy:=λL=>gd (L:=L) (f:=λn=>[az .i64 n]) (c:=1) (λ_=>rfl) eR c3 0 _ I;have EX:∀(L:List b9),At (w:bP) L ⟨b,off+c*1+0,ak⟩ (az aB Y[c]):=dy;have hgo:=aiY Y[c] (cH c3);clear dy;generalize Y[c]=y at*
   repeat(first|refine GA ?_|refine gV (aZ bQ.eq aL.ty I I c3) ?_|refine gV (aC (v:=az aB y) aL.ty I (EX _)) ?_)
   exact bW (c+1) J (by show Y.length-(c+1)<Y.length-c;omega)
  obtain rfl:c=Y.length:=by omega
  try refine GA ?_
  exact bW (i+1) J (by show A.length-(i+1)<A.length-i;omega)
 ·obtain rfl:i=A.length:=by omega
  try refine GA ?_
  exact eB
def afj(g:ep):Bool:=decide ((jd g).2.2.2=0)&&decide ((jd g).2.2.1.length=0)
open eX
theorem RH(w:World):(dg 182 (#[]:Array (Nat×Value))).run aE w= .ok (aQ (eu (0,0)).toArray) w:=by
 unfold eu;go_simp
set_option maxRecDepth 100000 in
theorem G7(g:ep)(b:Option Addr)(cp:Nat)(d:TD)(w:World)(hd:rj g d):Calls aE 141 #[dP g.aT g.bx (av b g.aH.length cp),Lv d] w (bX (ret (.bool aD)) w):=by
 cases d with
 | close p=>
  obtain⟨h1,h2⟩:=hd;refine enter (args:=[dP g.aT g.bx (av b g.aH.length cp),Lv (.close p)]) (n:=65) Tryz.func141 I I I<|cB (bD (bL I I I λg0=>bL I I I λg1=>?_))
  repeat(first|refine GC ?_|refine gV (aC (v:= .bool aD) aL.ty I (aI (i:=1) I I)) ?_|refine gV (aC (v:=az aB p) aL.ty I (aI (i:=1) I I)) ?_|refine gV (aC aL.ty I (aI (i:=0) I I)) ?_|refine gV (aY (cs:=eu (0,0)) aL.ty I I (λj v hj=>aI (i:=1) I (by match j,hj with|0,h=>exact h|1,h=>exact h))) ?_|refine gV (bB I (RH)) ?_|refine gV (D6 (b:=aD) I I (by kernel_rfl) (λw=>by rw[Zw];rfl)) ?_|refine GB ?_)
  exact eB
 | sym x=>
  obtain⟨k,m⟩:=x;have hd:right g.aT g.bx (k,m)=true:=hd;unfold right at hd
  by_cases c1:k=1
  ·subst c1
   rw[if_pos I]at hd;simp only[fc,decide_eq_true_eq]at hd;refine enter (args:=[dP g.aT g.bx (av b g.aH.length cp),Lv (.sym (1,m))]) (n:=65) Tryz.func141 I I I<|cB (bD (bL I I I λg0=>bL I I I λg1=>?_))
   repeat(first|refine GA ?_|refine gV (aC (v:= .bool aF) aL.ty I (aI (i:=1) I I)) ?_|refine gV (aC (v:=az aB 1) aL.ty I (aI (i:=1) I I)) ?_|refine gV (aC (v:=az aB 0) aL.ty I (aI (i:=1) I I)) ?_|refine gV (aC (v:=az aB m) aL.ty I (aI (i:=1) I I)) ?_|refine gV (aC aL.ty I (aI (i:=0) I I)) ?_)
   exact eB
  rw[if_neg c1]at hd
  by_cases c2:k=2
  ·subst c2
   rw[if_pos I]at hd;simp only[fc,decide_eq_true_eq]at hd;refine enter (args:=[dP g.aT g.bx (av b g.aH.length cp),Lv (.sym (2,m))]) (n:=65) Tryz.func141 I I I<|cB (bD (bL I I I λg0=>bL I I I λg1=>?_))
   repeat(first|refine GA ?_|refine gV (aC (v:= .bool aF) aL.ty I (aI (i:=1) I I)) ?_|refine gV (aC (v:=az aB 2) aL.ty I (aI (i:=1) I I)) ?_|refine gV (aC (v:=az aB 0) aL.ty I (aI (i:=1) I I)) ?_|refine gV (aC (v:=az aB m) aL.ty I (aI (i:=1) I I)) ?_|refine gV (aC aL.ty I (aI (i:=0) I I)) ?_)
   exact eB
  simp_all
theorem FD(g:ep)(b:Option Addr)(cp:Nat)(d:TD)(gg:Nat)(w:World)(hd:rj g d)(hg:w.heap[gg]?=aj (.cells (dP g.aT g.bx (av b g.aH.length cp)).cells 33 (0,0))):
 Calls aE 140 #[Lv d,aK (aj ⟨gg,0,ak⟩)] w (bX (ret (.bool aF)) w):=by
 have hcell:∀(L:List b9) (j:Nat) (v:Value),([az aB g.aT,az aB g.bx,av b g.aH.length cp]:List Value)[j]?=aj v->At w L ⟨gg,0+j,ak⟩ v:=λL j v hj=>kH (by
  rw[cell_of_row w gg (0+j) _ _ _ hg,cX];show(#[az aB g.aT,az aB g.bx,av b g.aH.length cp]:Array Value)[j]?=aj v
  simp_all)
 have hr:=G7 g b cp d;refine enter (args:=[Lv d,aK (aj ⟨gg,0,ak⟩)]) (n:=8) Tryz.func140 I I I<|cB (bD (bL I I I λg0=>?_))
 repeat(first|refine GL ?_|refine gV (aY aL.ty I I (hcell _)) ?_)
 refine aU (fC aJ.en I I I) (λw hm=>hr w hd) I I I ?_;intro _ _
 refine GA ?_
 exact eB
abbrev TdR(w:World)(vt:Value)(st:List TD):Prop:=Sl w vt st.length (st.reverse.flatMap xM)
theorem sc(v vr vt:Value)(g:ep)(ll:List (List Int))(st:List TD)(seen col:Int)(w:World)(h:kK (λk=>k<w.heap.size) w v g)(hr:Al w vr ll)(ht:TdR w vt st)(h0:Fy g ll=0)(hs:∀d∈st,rj g d)(hl:st.length<=60)(h1:0<=seen)(h2:seen<=1099511627776)(h3:0<=col)(h4:col<=g.aT):
 Calls aE 122 #[v,vr,tQ vt seen 0 aF,az aB col] w (bX (ret (az aB 0)) w):=by
 have iH:=λw' (hg:Gr w w')=>xO v vr g ll w' (h.gr hg) (hr.gr hg);rw[h0]at iH;obtain⟨vp,rfl,hp,_⟩:=h;obtain⟨bp,cp,rfl,_⟩:=hp;have Lp:=λw' (hg:Gr w w') gg (hb:w'.heap[gg]?=aj (.cells (dP g.aT g.bx (av bp g.aH.length cp)).cells 33 (0,0)))=>t_ vt st.reverse w' (by rw[Kn];exact ht.gr hg) 140 #[] #[aK (aj ⟨gg,0,ak⟩)] (λ_=>aF) aJ.en (λa ha Gs yy=>FD g bp cp a gg Gs (hs a (aaM.1 ha)) (by rw[yy.block gg (kC.1 hb).1];exact hb));have FE:st.reverse.any (λ_=>aF)=false:=by simp
 rw[FE]at Lp;obtain⟨bt,ct,rfl,_⟩:=ht;refine enter (args:=[dP g.aT g.bx (av bp g.aH.length cp),vr,tQ (av bt st.length ct) seen 0 aF,az aB col]) (n:=54) Tryz.func122 I I I<|cB (bD (bL I I I λg0=>bL I I I λg1=>?_))
 refine GM ?_
 refine aU (fC aJ.en I I I) (λw hm=>iH _ hm.below) I I I ?_;intro _ _;refine zL ?_
 repeat(first|refine GL ?_|refine gV (sO I I) ?_)
 refine aU (fC aJ.en I I I) (λw hm=>Lp _ hm.below _ (hm.get (i:=0) I)) I I I ?_;intro _ _;refine zL ?_
 refine GM ?_
 exact eB
def ig(ll:List (List Int))(col:Nat)(n:Int):Int:=(ll.getD n.toNat []).getD col (-1)
structure FF(g:ep)(ll:List (List Int))(T N:Nat):Prop where
 aT:g.aT=T
 bx:g.bx=N
 len:ll.length=N
 row:∀r∈ll,r.length=T+1
 nx:∀col,adB g.aH (ig ll col)
theorem abg{l:List aV.Prod}{nx:Int->Int}{f:Nat}{st:List TD}{out:List dw}{a:Nat}(h:(bT st out a).2.2.2=aF):fR l nx (f+1) st out a=((bT st out a).1,(bT st out a).2.1,(bT st out a).2.2.1,14):=by
 rw[fR,if_pos h]
theorem abh{l:List aV.Prod}{nx:Int->Int}{f:Nat}{st:List TD}{out:List dw}{a:Nat}(h:(bT st out a).2.2.2=aD)(h2:(bT st out a).1=[]):fR l nx (f+1) st out a=([],(bT st out a).2.1,(bT st out a).2.2.1,0):=by
 simp_all[fR]
theorem abi{l:List aV.Prod}{nx:Int->Int}{f:Nat}{st:List TD}{out:List dw}{a:Nat}{x:dw}{r:List TD}(h:(bT st out a).2.2.2=aD)(h2:(bT st out a).1= .sym x::r):
 fR l nx (f+1) st out a=if x.1=1 then(.sym x::r,(bT st out a).2.1,(bT st out a).2.2.1,0)else if nx x.2<0 then(.sym x::r,(bT st out a).2.1,(bT st out a).2.2.1,13)
  else if(bT st out a).2.2.1+1<=2000/\(opened l (nx x.2) r).length<=60 then fR l nx f (opened l (nx x.2) r) ((bT st out a).2.1++[(1,nx x.2)]) ((bT st out a).2.2.1+1)
  else(opened l (nx x.2) r,(bT st out a).2.1++[(1,nx x.2)],(bT st out a).2.2.1+1,14):=by
 simp_all[fR]
def dwS(gw:Nat)(t n:Int)(vp:Value)(R:List TD×List dw×Nat×Int):Spec (Value×Value):=⟨λ_=>True,λ_=>az aB R.2.2.2,λx=>[yQ gw t n vp x.1 x.2 R.2.2.1,xr x.1 R.1,jJ x.2 R.2.1]⟩
theorem Cw(w0:World)(gw:Nat)(t n:Int)(vp vr:Value)(g:ep)(ll:List (List Int))(T N col:Nat)(hG:kw oL (λk=>k<w0.heap.size) w0 vp g.aH)(hR:Al w0 vr ll)(hg:cC g=0)(hT:FF g ll T N)(alf:col<=T)
 (vt0 vo0:Value) (Xm:List TD) (w:World) (B:bP) (W_:∀d∈Xm,rj g d) (hl0:Xm.length<=60) (ho:mI w0 B) (hm:Mem B [yQ gw t n vp vt0 vo0 0,xr vt0 Xm,jJ vo0 []] w):
 Calls aE 125 #[aK (aj ⟨gw,0,ak⟩),vr,az aB (col:Int)] w (cZ (dwS gw t n vp (fR g.aH (ig ll col) 2001 Xm [] 0)) B):=by
 obtain⟨a1,a2,a3,a4,a5,a6⟩:=cU hg;have TG:=λp hp vt vo d r out dN w B h1 h2 h3 ho hm=>Q8 w0 gw t n vp g.aH hG J p hp (a6 _ (cH hp)).1 vt vo d r out dN w B h1 h2 h3 ho hm;have tZ:=hT.nx col;obtain⟨br,cr,rfl,Vi,tV,Ep⟩:=hR;unfold maxLen at tV;refine du hm (args:=[pV gw,av br ll.length cr,iV col]) (n:=60) Tryz.func125 I I I ?_;clear hm
 refine GA ?_
 generalize hD:fR g.aH (ig ll col) 2001 Xm [] 0=D;refine d_ (ι:=Nat×List TD×List dw×Nat×Value×Value) (λ(f,st,out,dN,_,_)=>fR g.aH (ig ll col) f st out dN=D/\2001<=f+dN/\st.length<=60/\dN<=2000/\out.length=dN/\∀d∈st,rj g d) (λ_=>[(0,pV gw),(1,av br ll.length cr),(2,iV col)])
  (λ(_,st,out,dN,vt,vo)=>[yQ gw t n vp vt vo dN,xr vt st,jJ vo out]) (λ(f,_,_,_,_,_)=>f) (2001,Xm,[],0,vt0,vo0) ⟨hD,by omega,hl0,by omega,rfl,W_⟩ ?_
 clear hD W_ hl0;rintro⟨f,st,out,dN,vt,vo⟩ ⟨hD,h1,h2,h3,h4,h5⟩;dsimp only at hD h1 h2 h3 h4 h5⊢;obtain⟨f,rfl⟩:∃f',f=f'+1:=⟨f-1,by omega⟩
 refine GA ?_
 refine CB [0,1,2] [] (λw hm hb=>rW gw t n vp vt vo st out dN w _ J h3 h4 hb) ?_;obtain⟨z1,z2,z3,z4⟩:=@td st out dN;have z5:=rU (out:=out) (a:=dN) h5;rintro⟨vt1,vo1⟩ _
 conv=>arg 8;simp only[zJ,cD,ret,id_eq,clS,e7]
 have hno:=@abg g.aH (ig ll col) f st out dN;have aiZ:=@abh g.aH (ig ll col) f st out dN;have ai0:=λx r=>@abi g.aH (ig ll col) f st out dN x r;have ai1:=@yN st out dN;generalize bT st out dN=C at*;obtain⟨st1,fI,a1',ok⟩:=C;dsimp only at*
 cases ok with
 | false=>
  rw[hno I]at hD;subst hD
  refine GA ?_
  exact RB (vt1,vo1) trivial [0,1,2]
 | true=>
  have zz3:=z3 I h3;clear z3;rcases ai1 rfl with rfl|⟨x,r,rfl⟩
  ·rw[aiZ I I]at hD
   subst hD
   refine GA ?_
   refine dH ([yQ gw t n vp vt1 vo1 a1',xr vt1 []]) (oC [0,1,2,3,4,5,6,7,8,9,10,11,12,13,14,15,16,17,18,19,20,21,22] .done) (bV [0,1]) ?_
   repeat(first|(refine GN ?_;first|refine QW QP ?_|refine QW (aC (v:=vt1) aL.ty I (aI (i:=0) I I)) ?_|refine QW (e_ (i:=1) bQ.eq I I) ?_|refine QW (cY (b:=aD) I I I) ?_|refine GX ?_)|refine GW ?_)
   refine GA ?_
   exact RB (vt1,vo1) trivial [0,1,2]
  have Lu:=ai0 x r I I;simp only[dj]at z1;have z6:right g.aT g.bx x=true:=z5 _ (iO ..);have z7:=λd hd=>z5 d (kJ _ hd);clear hno aiZ ai1 ai0
  refine GA ?_
  refine yp (i:=1) I (by simp) λgt ct hv q1 q2=>?_;subst hv;simp only[dj]at*;obtain⟨k,m⟩:=x
  by_cases c1:k=1
  ·subst c1
   rw[if_pos I]at Lu;rw[Lu]at hD;subst hD;refine dH ([yQ gw t n vp (sV gt (r.length+1) ct) vo1 a1',xr (sV gt (r.length+1) ct) (.sym (1,m)::r)]) (oC [0,1,2,3,4,5,6,7,8,9,10,11,12,13,14,15,16,17,18,19,20,21,22] .done) (bV [0,1]) ?_
   repeat(first|(refine GN ?_;first|refine QW QP ?_|refine QW (aC (v:=sV gt (r.length+1) ct) aL.ty I (aI (i:=0) I I)) ?_|refine QW (eT (r:=(r.length:Int)) I I J J J) ?_|refine QW (aZ (j:=r.length) bQ.eq aL.ty I I J) ?_|refine QW (aC (v:=iV 1) aL.ty I (Cq (i:=1) I 2 _ I)) ?_|refine QW (cY (b:=aF) I I (decide_eq_false J)) ?_|refine QW (cY (b:=aD) I I I) ?_|refine GX ?_)|refine GW ?_)
   refine GA ?_
   exact RB (_,vo1) trivial [0,1,2]
  rw[if_neg c1]at Lu;unfold right at z6;dsimp only at z6;rw[if_neg c1]at z6
  by_cases c2:k=2
  ·subst c2
   rw[if_pos I]at z6;simp only[fc,decide_eq_true_eq]at z6;obtain⟨q,rfl⟩:∃q:Nat,m=q:=⟨m.toNat,by omega⟩;have hq:q<ll.length:=by rw[hT.len];have:=hT.bx;omega
   obtain⟨b,off,rfl,_,eR⟩:=Ep J;obtain⟨vi,y1,y2⟩:=T5 eR hq;have JU:=hT.row _ (cH hq);have ai2:ig ll col (q:Int)=ll[q].getD col (-1):=by unfold ig;rw[dD,de (l:=ll),bM hq];rfl
   have kV:=tZ (q:Int);rw[ai2]at kV;dsimp only at Lu;rw[ai2]at Lu;generalize ll[q]=row at*;obtain⟨bi,ci,rfl,w1,w2,w3⟩:=y2;obtain⟨b3,ad8,rfl,NK⟩:=w3 J;have hc:row[col]?=aj (row.getD col (-1)):=by grind
   have J0:∀L,At B L ⟨b,off+q,ak⟩ (sW b3 ad8 row.length ci):=λL=>iX ho y1;have q_:∀L,At B L ⟨b3,ad8+col,ak⟩ (iV (row.getD col (-1))):=λL=>iX ho (NK col _ (by grind));clear eR y1 NK w3 Ep;generalize row.getD col (-1)=p at*;refine dH ([yQ gw t n vp (sV gt (r.length+1) ct) vo1 a1',xr (sV gt (r.length+1) ct) (.sym (2,(q:Int))::r)]) (oC [0,1,2,3,4,5,6,7,8,9,10,11,12,13,14,15,16,17,18,19,20,21,22] .done) (bV [0,1]) ?_
   repeat(first|(refine GN ?_;first|refine QW QP ?_|refine QW (aC (v:=sV gt (r.length+1) ct) aL.ty I (aI (i:=0) I I)) ?_|refine QW (eT (r:=(r.length:Int)) I I J J J) ?_|refine QW (aZ (j:=r.length) bQ.eq aL.ty I I J) ?_|refine QW (aC (v:=iV 2) aL.ty I (Cq (i:=1) I 2 _ I)) ?_|refine QW (cY (b:=aF) I I (decide_eq_false J)) ?_|refine GX ?_)|refine GW ?_)
   refine GA ?_
   refine dH ([yQ gw t n vp (sV gt (r.length+1) ct) vo1 a1',xr (sV gt (r.length+1) ct) (.sym (2,(q:Int))::r)]) (oC [0,1,2,3,4,5,6,7,8,9,10,11,12,13,14,15,16,17,18,19,20] .done) (bV [0,1]) ?_
   repeat(first|(refine GN ?_;first|refine QW QP ?_|refine QW (aC (v:=sV gt (r.length+1) ct) aL.ty I (aI (i:=0) I I)) ?_|refine QW (eT (r:=(r.length:Int)) I I J J J) ?_|refine QW (aZ (j:=r.length) bQ.eq aL.ty I I J) ?_|refine QW (aC (v:=iV q) aL.ty I (Cq (i:=1) I 3 _ I)) ?_|refine QW (bY (j:=q) bQ.eq aL.ty I I hq) ?_|refine QW (aC aL.ty I (J0 _)) ?_|refine QW (bY (j:=col) bQ.eq aL.ty I I J) ?_|refine QW (aC aL.ty I (q_ _)) ?_|refine GX ?_)|refine GW ?_)
   by_cases c3:p<0
   ·rw[if_pos c3]at Lu
    rw[Lu]at hD;subst hD
    refine GA ?_
    exact RB (_,vo1) trivial [0,1,2]
   rw[if_neg c3]at Lu;obtain⟨pn,rfl⟩:∃pn:Nat,p=pn:=⟨p.toNat,by omega⟩;have hpn:pn<g.aH.length:=by omega
   have hop:=TG pn hpn;have hoo:=BC hg (p:=(pn:Int)) J J z7
   refine GA ?_
   refine bz [0,1,2] [] aln I I (fC aJ.en I I I) (λw hm hb=>hop _ vo1 (.sym (2,(q:Int))) r fI a1' w _ J zz3 J (ho.on hm λo h=>pM h) hb) I I I ?_;rintro⟨TH,Xo⟩ _
   conv=>arg 8;simp only[zJ,cD,ret,id_eq,opS,e7]
   conv=>arg 7;simp only[opS]
   have SH:(opened g.aH (pn:Int) r).length=(opened g.aH (pn:Int) r).length:=rfl;generalize agC:opened g.aH (pn:Int) r=st2 at*
   by_cases c4:a1'+1<=2000/\st2.length<=60
   ·rw[if_pos c4]at Lu
    rw[Lu]at hD;rw[decide_eq_true c4]
    refine GA ?_
    refine dv [0,1,2] ?_;exact ER (f,st2,fI++[(1,(pn:Int))],a1'+1,TH,Xo) ⟨hD,(by grind),c4.2,c4.1,(by grind),hoo⟩
   rw[if_neg c4]at Lu;rw[Lu]at hD;subst hD;rw[decide_eq_false c4]
   refine GA ?_
   exact RB (TH,Xo) trivial [0,1,2]
  simp_all
end bZ
namespace bI
open aV dO fX dR cz yD
open CR (EI)
section
variable(l:List aV.Prod)(act:Nat->Nat->Act)(gt:Nat->Int->Int)
def C2(σ:List Nat)(p:Int):Option (List Nat):=match σ.drop (df l p).2.length with
 |r::ρ=>if 0<=gt r (df l p).1 then aj ((gt r (df l p).1).toNat::r::ρ)else ak
 |[]=>ak
def fJ(col a:Nat):Nat->List Nat->List dw->Int×List Nat×List dw
 |0,_,_=>(14,[],[])
 | f +1,σ,o=>
  if f=0/\(act (σ.headD 0) col).1≠0 then(14,[],[])
  else if(act (σ.headD 0) col).1=3 then(0,σ,o)
  else if(act (σ.headD 0) col).1=1 then(if 60<σ.length+1 then(14,[],[])else(0,(act (σ.headD 0) col).2.toNat::σ,o++[(2,(a:Int))]))
  else if(act (σ.headD 0) col).1=2 then(match C2 l gt σ (act (σ.headD 0) col).2 with
   |none=>(13,[],[])
   |some σ'=>if 60<σ'.length then(14,[],[])else fJ col a f σ' (o++[(4,(act (σ.headD 0) col).2)]))
  else(13,[],[])
end
section
variable{l:List aV.Prod}{act:Nat->Nat->Act}{gt:Nat->Int->Int}{T N:Nat}{lk:Int->Int->Nat}{Nx:List (List Int)}{S:List (List Item)}
structure akt(l:List aV.Prod)(act:Nat->Nat->Act)(gt:Nat->Int->Int)(T N:Nat)(Nx:List (List Int))(S:List (List Item)):Prop where
 act:∀q c,q<S.length->c<=T->act q c=pN l T Nx S q c
 gt:∀q n,q<S.length->0<=n->n<(N:Int)->gt q n=ah5 T Nx q n
theorem agR{q c:Nat}{x:Act}(h:pN l T Nx S q c=x)(h0:x.1≠0):x∈kR l T (S.getD q []) (Nx.getD q []) c:=by
 unfold pN at h
 cases e:kR l T (S.getD q []) (Nx.getD q []) c with
 |nil=>grind
 |cons y r=>simp_all
theorem Iy{q c:Nat}{x:Act}(h:x∈kR l T (S.getD q []) (Nx.getD q []) c):
 (x.1=1/\c<T/\0<=(Nx.getD q []).getD c 0/\x.2=(Nx.getD q []).getD c 0)\/(x=(3,0)/\(((l.length:Int),1,(c:Int)):Item)∈S.getD q [])\/(x.1=2/\x.2<(l.length:Int)/\((x.2,((df l x.2).2.length:Int),(c:Int)):Item)∈S.getD q []):=by
 unfold kR at h;rcases gj.1 h with h|h
 simp_all
 ·obtain⟨it,hit,e⟩:=List.mem_filterMap.1 h
  obtain⟨p,d,k⟩:=it;unfold zZ at e
  grind
section
variable(hB:akt l act gt T N Nx S)(hI:VC l T N lk S.length Nx S)(hw:∀q∈l,q.2.length<=8)(hl:l.length<=40)(hT:T<=30)(hh:∀q∈l,0<=q.1/\q.1<(N:Int))
include hB hI hw hl hT hh
omit hB hw hl hT hh in
theorem Wm{q k s:Nat}{x:dw}(hq:q<S.length)(hk:(mU T N)[k]?=aj x)(hs:(Nx.getD q []).getD k 0=(s:Int)):s<S.length/\S.getD s []=jn l T lk (S.getD q []) x/\jn l T lk (S.getD q []) x≠[]:=by
 rcases hI.cell q hq k x hk with⟨_,h2⟩|⟨h1,h2,h3⟩
 omega;rw[hs]at h3;obtain rfl:s=idx S (jn l T lk (S.getD q []) x):=by omega
 simp_all[nC,w7]
end
end
end bI
namespace bZ
open aV dO fX dR bI cz yD
open CR (EI)
structure n_(g:ep)(T N:Nat)(Nx:List (List Int))(S:List (List bI.Item)):Prop where
 KC:cC g=0
 aT:g.aT=(T:Int)
 bx:g.bx=(N:Int)
 all:allI g.aH T N (kS g)=aj (Nx,S)
 dN:(jd g).1=iG g.aH T Nx S S.length
 gos:(jd g).2.1=fN T Nx S.length
 agS:(jd g).2.2.1=iZ g.aH T Nx S S.length
theorem Iz{g:ep}(h:(jd g).2.2.2=0):∃T N Nx S,n_ g T N Nx S:=by
 unfold jd at h
 by_cases c:(jS g).2.2≠0
 simp_all;have c2:(jS g).2.2=0:=agJ.1 c;obtain⟨hg,hA⟩:=TA c2;obtain⟨hT1,hT2,hN1,YT,-⟩:=cU hg;exact⟨g.aT.toNat,g.bx.toNat,(jS g).1,(jS g).2.1,hg,by omega,by omega,hA,by simp_all[jd],by simp_all[jd],by simp_all[jd]⟩
section
variable{g:ep}{T N:Nat}{Nx:List (List Int)}{S:List (List bI.Item)}
theorem n_.wide(h:n_ g T N Nx S):∀q∈g.aH,q.2.length<=8:=λq hq=>((cU h.KC).2.2.2.2.2 q hq).1
theorem n_.tY(h:n_ g T N Nx S):g.aH.length<=40:=(cU h.KC).2.2.2.2.1
theorem n_.t30(h:n_ g T N Nx S):T<=30:=by have:=(cU h.KC).2.1;have:=h.aT;omega
theorem n_.law(h:n_ g T N Nx S):VC g.aH T N (kS g) S.length Nx S:=MH h.wide h.tY h.t30 h.all
theorem FH{l:List aV.Prod}{i n:Nat}(h:i<n):(iG l T Nx S n)[i]?=aj (ix l T Nx S i (T+1)):=by simp_all[iG]
theorem Cx{i n:Nat}(h:i<n):(fN T Nx n)[i]?=aj ((Nx.getD i []).drop T):=by simp_all[fN]
theorem RI{l:List aV.Prod}{q c:Nat}(h:c<T+1):(ix l T Nx S q (T+1))[c]?=aj (pN l T Nx S q c):=by
 simp_all[ix]
theorem n_.right(h:n_ g T N Nx S){q c:Nat}(hq:q<S.length)(_:c<T+1):wH T g.aH.length S.length (pN g.aH T Nx S q c) c:=by
 have hI:=h.law
 by_cases h0:(pN g.aH T Nx S q c).1=0
 ·left
  refine⟨h0,?_⟩;unfold pN at h0⊢
  cases e:kR g.aH T (S.getD q []) (Nx.getD q []) c with
  |nil=>rfl
  |cons y r=>
   rw[e]at h0;have hm:y∈kR g.aH T (S.getD q []) (Nx.getD q []) c:=by simp_all
   rcases Iy hm with h'|h'|h'
   simp_all;have h0:y.1=0:=h0;rw[h'.1]at h0;cases h0;have:=h'.1;have h0:y.1=0:=h0;omega
 rcases Iy (agR rfl h0)with h'|h'|h'
 ·obtain⟨h1,h2,h3,h4⟩:=h'
  obtain⟨s,hs⟩:=gU h3;obtain⟨k1,-,-⟩:=Wm hI hq (VB h2) hs;exact .inr (.inl ⟨h1,h2,by omega,by omega⟩)
 ·obtain⟨h1,h2⟩:=h'
  have ht:=adv h.wide h.tY h.t30 h.all q hq _ h2 I;have ht:(c:Int)=(T:Int):=ht;exact .inr (.inr (.inr ⟨by rw[h1],by rw[h1],by omega⟩))
 obtain⟨h1,h2,h3⟩:=h';exact .inr (.inr (.inl ⟨h1,(Na hI hq _ h3).1,h2⟩))
theorem n_.ox(h:n_ g T N Nx S):sb g T N (iG g.aH T Nx S S.length) (fN T Nx S.length) where
 KC:=h.KC
 aT:=h.aT
 bx:=h.bx
 pos:=by rw[jF];exact(dX.1 h.law.start).1
 tY:=by rw[jF];exact h.law.tY
 same:=by rw[jF,mE]
 wA:=λi hi=>by
  obtain⟨h1,h2⟩:=dX.1 (FH (T:=T) (Nx:=Nx) (S:=S) (l:=g.aH) (show i<S.length by simp_all[jF]));rw[h2];exact p_
 dN:=λi hi c hc=>by
  have qB:i<S.length:=by grind[jF]
  obtain⟨h1,h2⟩:=dX.1 (FH (T:=T) (Nx:=Nx) (S:=S) (l:=g.aH) qB);simp only[h2]at hc⊢;rw[p_]at hc;obtain⟨h3,h4⟩:=dX.1 (RI (l:=g.aH) (T:=T) (Nx:=Nx) (S:=S) (q:=i) hc);rw[h4,jF];exact h.right qB hc
 wG:=λi hi=>by
  have qB:i<S.length:=by simp_all[mE]
  obtain⟨h1,h2⟩:=dX.1 (Cx (T:=T) (Nx:=Nx) qB);rw[h2,iT,h.law.wide i qB];omega
 gos:=λi hi y hy=>by
  have qB:i<S.length:=by grind[mE]
  obtain⟨h1,h2⟩:=dX.1 (Cx (T:=T) (Nx:=Nx) qB);rw[h2]at hy;obtain⟨k,hk,rfl⟩:=List.getElem_of_mem hy;rw[jF];rw[iT,h.law.wide i qB]at hk;rw[List.getElem_drop];have hw:=h.law.wide i qB;have hg:(Nx.getD i [])[T+k]' J=(Nx.getD i []).getD (T+k) 0:=by grind
  rw[hg];rcases h.law.cell i qB (T+k) _ (ZQ J)with⟨_,e⟩|⟨_,e1,e2⟩
  omega;rw[e2];have:=nC e1;omega
def ii(A:List (List bI.Act))(q c:Nat):bI.Act:=(A.getD q []).getD c (0,0)
def eQ(G:List (List Int))(q:Nat)(n:Int):Int:=(G.getD q []).getD n.toNat 0
theorem Cy{l:List aV.Prod}:∀n,(iZ l T Nx S n).length=0->∀q,q<n->∀c,c<=T->(kR l T (S.getD q []) (Nx.getD q []) c).length<=1
 |0,_,q,hq,_,_=>absurd hq (ow _)
 | n + 1,h,q,hq,c,hc=>by
  rw[iZ,bK]at h
  by_cases e:q=n
  ·subst e
   have row:∀d,(iY l T Nx S q d).length=0->∀c,c<d->(xc l T Nx S q c).length=0:=λd=>by
    induction d with
    |zero=>omega
    | succ d ih=>
     grind[iY]
   have:=row (T+1) J c J;unfold xc at this;rw[eI,Ko]at this;have h2:(kR l T (S.getD q []) (Nx.getD q []) c).length-1=0:=this;omega
  exact Cy n J q J c hc
theorem n_.calm(h:n_ g T N Nx S)(hc:afj g=aD):ah6 g.aH T Nx S:=by
 unfold afj at hc;rw[fc,decide_eq_true_eq,decide_eq_true_eq,h.agS]at hc;exact λq hq c hcT=>Cy S.length hc.2 q hq c hcT
theorem RJ(hg:cC g=0){p:Int}:∀x∈fQ g.aH p,right g.aT g.bx x=true:=λx hx=>by
 unfold fQ at hx;split at hx
 ·rw[eV.1 hx]
  have:=(cU hg).2.2.1;unfold right;rw[if_neg aln,if_pos I];simp only[lm,decide_true,Bool.true_and,decide_eq_true_eq];omega
 by_cases h2:p.toNat<g.aH.length
 ·have:df g.aH p∈g.aH:=by simp_all[df]
  exact((cU hg).2.2.2.2.2 _ this).2.2.2 x hx
 simp_all[df]
theorem n_.looks(h:n_ g T N Nx S)(p d:Int):kS g p d=gB (xo N g.aH).E (OT N g.aH) ((fQ g.aH p).drop (d.toNat+1)) (2^62):=by
 unfold kS CU;have hb8:=mS (l:=g.aH) (p:=p) h.wide;have hE:vJ g ((fQ g.aH p).drop (d.toNat+1))=0:=by
  unfold vJ;rw[if_neg (by rw[h.KC];simp),if_neg (by grind)];exact JL λx hx=>RJ h.KC x (yu hx)
 rw[if_pos hE,show g.bx.toNat=N by rw[h.bx];rfl]
end
open Go.RowKit cL dQ
def sI(σ:List Nat):List Int:=σ.reverse.map λq:Nat=>(q:Int)
theorem wI(σ:List Nat):(sI σ).length=σ.length:=by unfold sI;simp
theorem Ao(q:Nat)(σ:List Nat):sI (q::σ)=sI σ++[(q:Int)]:=by unfold sI;simp
theorem T6(b:Nat)(σ:List Nat):sI (σ.drop b)=(sI σ).take (σ.length-b):=by
 unfold sI;rw[<-aaN,List.take_reverse]
 by_cases h:b<=σ.length
 rw[show σ.length-(σ.length-b)=b by omega];rw[oD J,oD J]
theorem abj{b:Nat}{σ ρ:List Nat}{r n:Nat}(h:σ.drop b=r::ρ)(hn:σ.length=n+1+b):(sI σ)[n]?=aj (r:Int):=by
 have h1:=T6 b σ;rw[h,Ao,show σ.length-b=n+1 by omega]at h1;have h2:ρ.length=n:=by
  have:=congrArg yU h;rw[iT,dj]at this;omega
 have h3:((sI σ).take (n+1))[n]?=aj (r:Int):=by
  rw[<-h1,x6 (by rw[wI];omega),wI,h2,Be];rfl
 rwa [List.getElem?_take_of_lt (tr n)]at h3
abbrev skR(w:World)(vs:Value)(σ:List Nat):Prop:=Sl w vs σ.length ((sI σ).flatMap cL.eJ)
abbrev T7(vs:Value)(σ:List Nat):b9:=a_ 3 1 vs σ.length ((sI σ).flatMap cL.eJ)
def uj(vs:Value)(seen over:Int)(done:Bool):Value:=aQ #[vs,az aB seen,az aB over,.bool done]
theorem FI(aA:Option Addr)(nA cA:Nat)(vG:Value)(q:Int)(g5:Nat)(w:World)(h0:0<=q)(h1:q<(nA:Int))(hg:w.heap[g5]?=aj (.cells (aQ #[av aA nA cA,vG]).cells 36 (0,0))):
 Calls aE 145 #[az aB q,aK (aj ⟨g5,0,ak⟩)] w (bX (ret (.bool aF)) w):=by
 have hcell:∀(L:List b9),At w L ⟨g5,0,ak⟩ (av aA nA cA):=λL=>kH (by
  rw[cell_of_row w g5 0 _ _ _ hg];rfl)
 clear hg;refine enter (args:=[az aB q,aK (aj ⟨g5,0,ak⟩)]) (n:=13) Tryz.func145 I I I ?_
 repeat(first|refine GC ?_|refine gV (ez (b:=aF) I I (decide_eq_false J)) ?_|refine gV (aC (v:=av aA nA cA) aL.ty I (hcell _)) ?_|refine gV (fu (b:=aF) I I (decide_eq_false J)) ?_|refine GB ?_)
 exact eB
theorem xQ(v t vs:Value)(g:ep)(T N:Nat)(A:List (List bI.Act))(G:List (List Int))(σ:List Nat)(seen col:Int)(w:World)(hG:kK (λk=>k<w.heap.size) w v g)(ht:BM w t A G)(hs:skR w vs σ)(hT:sb g T N A G)(hq:∀q∈σ,q<A.length)(h0:0<σ.length)(hl:σ.length<=60)(h1:0<=seen)(h2:seen<=1099511627776)(h3:0<=col)(h4:col<=g.aT):
 Calls aE 129 #[v,t,uj vs seen 0 aF,az aB col] w (bX (ret (az aB 0)) w):=by
 have iH:=λw' (hg:Gr w w')=>xP v t g T N A G hT w' (hG.gr hg) (ht.gr hg);obtain⟨vp,rfl,hp,-,-⟩:=hG;obtain⟨bp,cp,rfl,-⟩:=hp;obtain⟨vA,vG,rfl,hA,hGo⟩:=ht;obtain⟨aA,cA,rfl,-,-⟩:=mZ hA;clear hA hGo;have Lp:=λw' (hg:Gr w w') g5 (hb:w'.heap[g5]?=aj (.cells (aQ #[av aA A.length cA,vG]).cells 36 (0,0)))=>th vs (sI σ) w' (by rw[wI];exact hs.gr hg) 145 #[] #[aK (aj ⟨g5,0,ak⟩)] (λ_=>aF) aJ.en (λa ha Gs yy=>by
  unfold sI at ha;obtain⟨q,hq1,rfl⟩:=fG.1 ha;have:=hq q (aaM.1 hq1);exact FI aA A.length cA vG (q:Int) g5 Gs J J (by rw[yy.block g5 (kC.1 hb).1];exact hb))
 have FE:(sI σ).any (λ_=>aF)=false:=by rw[List.any_eq_false];intro _ _ h;cases h
 rw[FE]at Lp;obtain⟨bs,cs,rfl,-⟩:=hs;refine enter (args:=[dP g.aT g.bx (av bp g.aH.length cp),aQ #[av aA A.length cA,vG],uj (av bs σ.length cs) seen 0 aF,az aB col]) (n:=66) Tryz.func129 I I I ?_;refine cB (bD (bL I I I λg4=>?_));refine zL ?_;refine bL I I I λg5=>?_;refine zL ?_;refine bL I I I λg6=>?_;refine zL ?_
 repeat(first|refine GA ?_|refine gV (aP (i:=0) aL.ty I I I) ?_|refine gV (aP (i:=1) aL.ty I I I) ?_)
 refine aU (fC aJ.en I I I) (λw hm=>iH w hm.below) I I I ?_;intro _ _;refine zL ?_
 repeat(first|refine GA ?_|refine gV (aC (v:=av bs σ.length cs) aL.ty I (aI (i:=2) I I)) ?_|refine gV (aC (v:=az aB seen) aL.ty I (aI (i:=2) I I)) ?_|refine gV (aC (v:=az aB 0) aL.ty I (aI (i:=2) I I)) ?_|refine gV (aC (v:= .bool aF) aL.ty I (aI (i:=2) I I)) ?_|refine gV (aC (v:=az aB g.aT) aL.ty I (aI (i:=0) I I)) ?_|refine gV (sO I I) ?_)
 refine aU (fC aJ.en I I I) (λw hm=>Lp _ hm.below _ (hm.get (i:=1) I)) I I I ?_;intro _ _;refine zL ?_
 repeat(first|refine GA ?_|refine gV (aC (v:=az aB 0) aL.ty I (aI (i:=2) I I)) ?_|refine gV (aC (v:= .bool aF) aL.ty I (aI (i:=2) I I)) ?_)
 exact eB
theorem Wn(g:Nat)(w:World):(dg 112 #[(0,av (aj ⟨g,0,ak⟩) 1 1)]).run aE w= .ok (uj (av (aj ⟨g,0,ak⟩) 1 1) 0 0 aF) w:=by
 unfold uj;go_simp
theorem IA(seen e:Int)(w:World):(dg 112 #[(1,az aB seen),(2,az aB e)]).run aE w= .ok (uj (av ak 0 0) seen e aF) w:=by
 unfold uj;go_simp
theorem Wo(b:Option Addr)(m c:Nat)(seen:Int)(w:World):(dg 112 #[(0,av b m c),(1,az aB seen)]).run aE w= .ok (uj (av b m c) seen 0 aF) w:=by
 unfold uj;go_simp
theorem Wp(seen:Int)(w:World):(dg 112 #[(1,az aB seen),(3,.bool aD)]).run aE w= .ok (uj (av ak 0 0) seen 0 aD) w:=by
 unfold uj;go_simp
def xd:Spec Value:=⟨λ_=>True,λvt=>uj vt 0 0 aF,λvt=>[T7 vt [0]]⟩
theorem xR(w:World):Calls aE 31 #[] w (bX xd w):=by
 refine enter (args:=[]) (n:=3) Tryz.func31 I I I ?_;refine cB (bD (a8 I λg2=>?_));refine zL ?_
 try refine GA ?_
 refine fw (cs:=#[az aB 0]) [az aB 0] I I I (by intro v hv;simp at hv;subst hv;rfl) I I I λg3=>?_;refine zL ?_
 repeat(first|refine QZ ?_|refine QV (bB I (Wn _)) ?_)
 refine gG 0 (cs':=#[av (aj ⟨g3,0,ak⟩) 1 1,az aB 0,az aB 0,.bool aF]) ?_;refine zL ?_;refine zk (i:=1) 1 I I J ?_;refine zL ?_
 try refine GA ?_
 exact fW (i:=0) I I I I λw hm=>hm.meets (S:=xd) (av (aj ⟨g3,0,ak⟩) 1 1) trivial [1] aln I
def NL(R:Option (List Nat)):Spec Value:=⟨λ_=>True,λv=> .tuple #[v,.bool R.isSome],λv=>match R with|some σ'=>[T7 v σ']|none=>[]⟩
theorem FJ(v t vs:Value)(g:ep)(T N:Nat)(A:List (List bI.Act))(G:List (List Int))(σ:List Nat)(p:Nat)(w:World)(hG:kK (λk=>k<w.heap.size) w v g)(ht:BM w t A G)(hs:skR w vs σ)(hT:sb g T N A G)(hq:∀q∈σ,q<A.length)(hl:σ.length<=60)(hp:p<g.aH.length):
 Calls aE 146 #[v,t,vs,az aB (p:Int)] w (bX (NL (C2 g.aH (eQ G) σ (p:Int))) w):=by
 obtain⟨hg,J7,hNn,xp,J8,uZ,hwA,ad5,hwG,abf⟩:=hT;obtain⟨hT1,hT2,-,YT,Af,hpr⟩:=cU hg;have hpe:df g.aH (p:Int)=g.aH[p]:=by unfold df;rw[dD,de,bM hp];rfl
 have hpp:=hpr _ (cH hp);obtain⟨vp,rfl,hpg,-,-⟩:=hG;obtain⟨bp,cp,rfl,-,-,oM⟩:=hpg;obtain⟨b1,o1,rfl,-,oM⟩:=oM J;obtain⟨base,cap,eR,-,-⟩:=l7 oM hp;clear oM;unfold C2;rw[hpe];have aku:∀L,At (w:bP) L ⟨b1,o1+p*2+0,ak⟩ (az aB g.aH[p].1):=λL=>iP eR I;have ai3:∀L,At (w:bP) L ⟨b1,o1+p*2+1,ak⟩ (.slice base g.aH[p].2.length cap):=λL=>iP eR I;clear eR hpe hpr;generalize g.aH[p]=pr at*;obtain⟨hd,bd⟩:=pr;dsimp only at*;obtain⟨vA,vG,rfl,-,hGo⟩:=ht;obtain⟨aG,cG,rfl,-,-⟩:=mZ hGo;obtain⟨bs,cs,rfl,hcs,hms,hrS⟩:=hs;unfold maxLen at hms;refine enter (args:=[dP g.aT g.bx (av (aj ⟨b1,o1,ak⟩) g.aH.length cp),aQ #[vA,av aG G.length cG],av bs σ.length cs,az aB (p:Int)]) (n:=50) Tryz.func146 I I I ?_;refine cB (bD (bL I I I λg4=>?_));refine zL ?_;refine bL I I I λg5=>?_;refine zL ?_
 by_cases c:σ.length<=bd.length
 ·rw[oD c]
  repeat(first|refine GC ?_|refine gV (aC (v:=av (aj ⟨b1,o1,ak⟩) g.aH.length cp) aL.ty I (aI (i:=0) I I)) ?_|refine gV (aZ bQ.eq aL.ty I I hp) ?_|refine gV (aC (v:=av base bd.length cap) aL.ty I (ai3 _)) ?_|refine gV (eT (r:=(σ.length:Int)-(bd.length:Int)) I I I J J) ?_|refine gV (ez (b:=aD) I I (decide_eq_true J)) ?_|refine GB ?_)
  exact kZ I I I λw hm=>hm.meets (S:=NL ak) (av ak 0 0) trivial [] aln I
 obtain⟨n,hn⟩:∃n,σ.length=n+1+bd.length:=⟨σ.length-bd.length-1,by omega⟩;obtain⟨r,ρ,hdr⟩:∃r ρ,σ.drop bd.length=r::ρ:=Rk λe=>by
  have:=congrArg yU e;rw[iT,iv]at this;omega
 have NM:=abj hdr hn;have hdI:=T6 bd.length σ;rw[hdr,Ao,show σ.length-bd.length=n+1 by omega]at hdI;have hrA:r<A.length:=hq r (yu (i:=bd.length) (by rw[hdr];exact iO ..));rw[hdr];dsimp only;have hrG:r<G.length:=by omega
 obtain⟨b2,o2,rfl,FK⟩:=hrS J;rw[Mt]at FK;have q_:∀L,At (w:bP) L ⟨b2,o2+n,ak⟩ (az aB (r:Int)):=λL=>iP FK (by rw[jy,NM];rfl);have ai4:∀L j u,(((sI σ).take (n+1)).flatMap cL.eJ)[j]?=aj u->At (w:bP) L ⟨b2,o2+j,ak⟩ u:=λL j u hj=>iP FK (by
  rw[Mt,aaN,List.getElem?_take]at hj
  by_cases cc:j<n+1
  rwa [if_pos cc]at hj
  rw[if_neg cc]at hj;cases hj)
 clear FK hrS;obtain⟨bG,oG,wi,rfl,hcG,hsG⟩:=KA hGo hrG;have ad7:∀L,At (w:bP) L ⟨bG,oG+r,ak⟩ wi:=λL=>kH hcG;clear hcG;obtain⟨ei,di,rfl,hdi,aiW⟩:=mZ hsG;have hfG:=hsG.flat (f:=λn=>[az .i64 n]) aln;obtain⟨_,_,e2,-,-,hrY⟩:=hfG
 cases e2
 have alg:=hwG r hrG;have hgo:=abf r hrG;have LN:eQ G r hd=G[r].getD hd.toNat 0:=by unfold eQ;rw[de (l:=G),bM hrG];rfl
 rw[LN];clear hsG LN abf hwG hwA ad5 hGo;generalize G[r]=Y at*;obtain⟨h,rfl⟩:=gU hpp.2.1;have hhY:h<Y.length:=by omega
 obtain⟨b3,o3,rfl,NK⟩:=hrY J;have hYh:Y[h]?=aj (Y.getD h 0):=by rw[de,bM hhY];rfl
 have ags:∀L,At (w:bP) L ⟨b3,o3+h,ak⟩ (az aB (Y.getD h 0)):=λL=>iP NK (by
  rw[show(Y.flatMap λn=>[az .i64 n])=Y.map (.int .i64)from Mt Y,jy,hYh];rfl)
 have hto:=hgo _ (List.mem_of_getElem? hYh);clear NK hrY hYh hgo;rw[show Y.getD ((h:Int)).toNat 0=Y.getD h 0 from I];generalize Y.getD h 0=to1 at*
 repeat(first|refine GC ?_|refine gV (aC (v:=av (aj ⟨b1,o1,ak⟩) g.aH.length cp) aL.ty I (aI (i:=0) I I)) ?_|refine gV (aZ bQ.eq aL.ty I I hp) ?_|refine gV (aC (v:=av base bd.length cap) aL.ty I (ai3 _)) ?_|refine gV (eT (r:=((n+1:Nat):Int)) I I J J J) ?_|refine gV (ez (b:=aF) I I (decide_eq_false J)) ?_|refine GB ?_)
 refine dH ([aR g4 (dP g.aT g.bx (av (aj ⟨b1,o1,ak⟩) g.aH.length cp)).cells 33,aR g5 (aQ #[vA,av (aj ⟨bG,oG,ak⟩) G.length cG]).cells 36]) (.calm 0 (.calm 1 (.calm 2 (.calm 3 (.calm 4 (.calm 5 (.calm 6 (.calm 7 (.calm 8 (.calm 9 (.calm 10 (.calm 11 (.calm 12 (.calm 13 (.calm 14 (.calm 15 (.calm 16 (.calm 17 (.done))))))))))))))))))) (λ_ h=>h) ?_
 repeat(first|(refine GN ?_;first|refine QW QP ?_|refine QW (aC (v:=av (aj ⟨bG,oG,ak⟩) G.length cG) aL.ty I (aI (i:=1) I I)) ?_|refine QW (eT (r:=(n:Int)) I I J J J) ?_|refine QW (bY (j:=n) bQ.eq aL.ty I I J) ?_|refine QW (aC (v:=az aB (r:Int)) aL.ty I (q_ _)) ?_|refine QW (bY (j:=r) bQ.eq aL.ty I I hrG) ?_|refine QW (aC (v:=av (aj ⟨b3,o3,ak⟩) Y.length di) aL.ty I (ad7 _)) ?_|refine QW (aC (v:=av (aj ⟨b1,o1,ak⟩) g.aH.length cp) aL.ty I (aI (i:=0) I I)) ?_|refine QW (aZ bQ.eq aL.ty I I hp) ?_|refine QW (aC (v:=az aB (h:Int)) aL.ty I (aku _)) ?_|refine QW (bY (j:=h) bQ.eq aL.ty I I hhY) ?_|refine QW (aC (v:=az aB to1) aL.ty I (ags _)) ?_|refine GX ?_)|refine GW ?_)
 repeat(first|refine GC ?_|refine gV (af6 (j:=n+1) bQ.eq aL.ty I I I J) ?_|refine GB ?_)
 refine fO (cs:=#[az aB to1]) I I I I I λg46=>?_;refine zL ?_;refine PL (q:=2) (m:=n+1) (olds:=((sI σ).take (n+1)).flatMap cL.eJ) I (ai4 _) (by rw[Mt,eI,jz,wI];show _=(n+1)*1;omega) I I I J J I λv'=>?_;refine zL ?_
 by_cases c2:0<=to1
 ·rw[if_pos c2]
  have e:a_ 3 1 v' (n+1+1) (((sI σ).take (n+1)).flatMap cL.eJ++[az aB to1])=T7 v' (to1.toNat::r::ρ):=by
   have Lo:(to1.toNat::r::ρ).length=n+1+1:=by
    have:=congrArg yU hdr;rw[iT]at this;simp only[dj]at this⊢;omega
   show _=a_ 3 1 v' (to1.toNat::r::ρ).length ((sI (to1.toNat::r::ρ)).flatMap cL.eJ)
   rw[Lo,Ao,Ao,hdI,ir,u_ c2];rfl
  repeat(first|refine GC ?_|refine gV (fu (b:=aD) I I (decide_eq_true c2)) ?_|refine GB ?_)
  exact kZ I I I λw hm=>hm.meets (S:=NL (aj (to1.toNat::r::ρ))) v' trivial [3] aln (by show[_]=[_];rw[<-e];rfl)
 ·rw[if_neg c2]
  repeat(first|refine GC ?_|refine gV (fu (b:=aF) I I (decide_eq_false c2)) ?_|refine GB ?_)
  exact kZ I I I λw hm=>hm.meets (S:=NL ak) v' trivial [] aln I
theorem sb.right{g:ep}{T N:Nat}{A:List (List bI.Act)}{G:List (List Int)}(h:sb g T N A G){q c:Nat}(hq:q<A.length)(hc:c<=T):wH T g.aH.length A.length (ii A q c) c:=by
 have h1:c<A[q].length:=by rw[h.wA q hq];omega
 have:=h.dN q hq c h1;unfold ii;rw[de (l:=A),bM hq,jD,de,bM h1];exact this
theorem sb.go{g:ep}{T N:Nat}{A:List (List bI.Act)}{G:List (List Int)}(h:sb g T N A G){q:Nat}{n:Int}(hq:q<A.length)(h0:0<=n)(h1:n<(N:Int)):eQ G q n<(A.length:Int):=by
 have hqG:q<G.length:=by rw[h.same];exact hq
 have h2:n.toNat<G[q].length:=by rw[h.wG q hqG];omega
 have:=(h.gos q hqG _ (cH h2)).2;unfold eQ;rw[de (l:=G),bM hqG,jD,de,bM h2];exact this
theorem KD{g:ep}{T N:Nat}{A:List (List bI.Act)}{G:List (List Int)}(h:sb g T N A G){σ σ':List Nat}{p:Int}(h0:0<=p)(h1:p<(g.aH.length:Int))(hq:∀q∈σ,q<A.length)(hr:C2 g.aH (eQ G) σ p=aj σ'):σ'≠[]/\σ'.length<=σ.length+1/\∀q∈σ',q<A.length:=by
 unfold C2 at hr
 cases e:σ.drop (df g.aH p).2.length with
 |nil=>rw[e]at hr;cases hr
 | cons r ρ=>
  rw[e]at hr;dsimp only at hr;have kY:∀q∈r::ρ,q<A.length:=λq DU=>hq q (yu (i:=(df g.aH p).2.length) (by rw[e];exact DU));have hlen:(r::ρ).length<=σ.length:=by rw[<-e,iT];omega
  split at hr
  ·rename_i c
   obtain rfl:=sE hr;have hh:=(cU h.KC).2.2.2.2.2 _ (fX.yA h0 h1);have:=h.go (kY r (iO ..)) hh.2.1 (by have:=h.bx;omega);refine⟨by simp,by simp only[dj]at hlen⊢;omega,λq DU=>?_⟩;rcases dM.1 DU with rfl|DU
   omega;exact kY q DU
  cases hr
section
variable{l:List aV.Prod}{act:Nat->Nat->bI.Act}{gt:Nat->Int->Int}{col a f q:Nat}{σ:List Nat}{o:List dw}
theorem ai5{m:Int}(h:act q col=(0,m)):fJ l act gt col a (f+1) (q::σ) o=(13,[],[]):=by
 rw[fJ,show(q::σ).headD 0=q from I,h,if_neg (by simp),if_neg (by simp),if_neg (by simp),if_neg (by simp)]
theorem abk{x:bI.Act}(h:act q col=x)(h0:x.1≠0):fJ l act gt col a 1 (q::σ) o=(14,[],[]):=by
 rw[fJ,show(q::σ).headD 0=q from I,h,if_pos ⟨rfl,h0⟩]
theorem ai6{m:Int}(h:act q col=(3,m)):fJ l act gt col a (f+1+1) (q::σ) o=(0,q::σ,o):=by
 rw[fJ,show(q::σ).headD 0=q from I,h,if_neg (λh=>yV _ h.1),if_pos I]
theorem ai7{m:Int}(h:act q col=(1,m)):fJ l act gt col a (f+1+1) (q::σ) o=if 60<(q::σ).length+1 then(14,[],[])else(0,m.toNat::q::σ,o++[(2,(a:Int))]):=by
 rw[fJ,show(q::σ).headD 0=q from I,h,if_neg (λh=>yV _ h.1),if_neg (by simp),if_pos I]
theorem afk{m:Int}(h:act q col=(2,m))(hr:C2 l gt (q::σ) m=ak):fJ l act gt col a (f+1+1) (q::σ) o=(13,[],[]):=by
 rw[fJ,show(q::σ).headD 0=q from I,h,if_neg (λh=>yV _ h.1),if_neg (by simp),if_neg (by simp),if_pos I];dsimp only;rw[hr]
theorem ai8{m:Int}{σ':List Nat}(h:act q col=(2,m))(hr:C2 l gt (q::σ) m=aj σ'):fJ l act gt col a (f+1+1) (q::σ) o=if 60<σ'.length then(14,[],[])else fJ l act gt col a (f+1) σ' (o++[(4,m)]):=by
 rw[fJ,show(q::σ).headD 0=q from I,h,if_neg (λh=>yV _ h.1),if_neg (by simp),if_neg (by simp),if_pos I];dsimp only;rw[hr]
end
theorem Du{g:ep}{T N:Nat}{A:List (List bI.Act)}{G:List (List Int)}(h:sb g T N A G){col a:Nat}(hc:col<=T):∀(f:Nat) {σ:List Nat} {o:List dw},σ≠[]->(∀q∈σ,q<A.length)->σ.length<=60->(fJ g.aH (ii A) (eQ G) col a f σ o).1=0->
 (fJ g.aH (ii A) (eQ G) col a f σ o).2.1≠[]/\(∀q∈(fJ g.aH (ii A) (eQ G) col a f σ o).2.1,q<A.length)/\(fJ g.aH (ii A) (eQ G) col a f σ o).2.1.length<=60/\(fJ g.aH (ii A) (eQ G) col a f σ o).2.2.length<=o.length+f
 |0,_,_,_,_,_,h0=>by cases h0
 | f + 1,σ,o,hne,hq,hl,h0=>by
  obtain⟨q,σ,rfl⟩:=Rk hne;have TC:=h.right (hq q (iO ..)) hc;generalize hx:ii A q col=x at TC;obtain⟨k,m⟩:=x
  by_cases ck:k=0
  subst ck;rw[ai5 hx]at h0;cases h0
  cases f with
  |zero=>rw[abk hx ck]at h0;cases h0
  | succ f=>
   rcases TC with⟨e,_⟩|⟨e,h1,h2,h3⟩|⟨e,h1,h2⟩|⟨e,_⟩<;>dsimp only at e<;>subst e
   exact absurd I ck
   ·rw[ai7 hx]at h0⊢
    by_cases c:60<(q::σ).length+1
    rw[if_pos c]at h0;cases h0;rw[if_neg c];refine⟨by simp,λy hy=>?_,by simp only[dj]at c⊢;omega,by simp⟩;rcases dM.1 hy with rfl|hy
    dsimp only at h2 h3;omega;exact hq y hy
   ·dsimp only at h1 h2
    cases hr:C2 g.aH (eQ G) (q::σ) m with
    |none=>rw[afk hx hr]at h0;cases h0
    | some σ'=>
     rw[ai8 hx hr]at h0⊢
     by_cases c:60<σ'.length
     rw[if_pos c]at h0;cases h0;rw[if_neg c]at h0⊢;obtain⟨r1,r2,r3⟩:=KD h h1 h2 hq hr;have:=Du h hc (f+1) (o:=o++[(4,m)]) r1 r3 J h0;refine⟨this.1,this.2.1,this.2.2.1,fH this.2.2.2 ?_⟩;rw[bK,kO];omega
   rw[ai6 hx];exact⟨hne,hq,hl,by show o.length<=_;omega⟩
theorem ai9{B:bP}{L:List b9}{i g cap:Nat}{q:Nat}{σ:List Nat}(hi:L[i]?=aj (T7 (av (aj ⟨g,0,ak⟩) (σ.length+1) cap) (q::σ))):At B L ⟨g,0+σ.length*1,ak⟩ (az aB (q:Int)):=
 pz (f:=cL.eJ) MI hi (k:=σ.length) (by rw[wI];simp) 0 _ (by
  have:(sI (q::σ))[σ.length]?=aj (q:Int):=abj (b:=0) (ρ:=σ) I I;rw[dX]at this;obtain⟨_,h⟩:=this;rw[h];rfl)
theorem ad9{v:Value}{m:Int}{q:Nat}{σ:List Nat}(h:0<=m):a_ 3 1 v (σ.length+1+1) ((sI (q::σ)).flatMap cL.eJ++[az aB m])=T7 v (m.toNat::q::σ):=by
 show _=a_ 3 1 v (m.toNat::q::σ).length ((sI (m.toNat::q::σ)).flatMap cL.eJ)
 rw[Ao m.toNat,ir,u_ h];rfl
theorem T8{v:Value}{x:dw}{o:List dw}:a_ 54 2 v (o.length+1) (o.flatMap eu++eu x)=jJ v (o++[x]):=by
 show _=a_ 54 2 v (o++[x]).length ((o++[x]).flatMap eu)
 rw[bK,ir];simp
def sd(R:Int×List Nat×List dw):Spec (Value×Value):=⟨λ_=>True,λx=>if R.1=0 then .tuple #[x.1,x.2,az aB 0]else .tuple #[av ak 0 0,av ak 0 0,az aB R.1],λx=>if R.1=0 then [T7 x.1 R.2.1,jJ x.2 R.2.2]else []⟩
theorem NN{σ:List Nat}{o:List dw}:sd (0,σ,o)=⟨λ_=>True,λx=> .tuple #[x.1,x.2,az aB 0],λx=>[T7 x.1 σ,jJ x.2 o]⟩:=by unfold sd;simp
theorem NO{e:Int}(he:e≠0){x:List Nat×List dw}:sd (e,x)=⟨λ_=>True,λ_=> .tuple #[av ak 0 0,av ak 0 0,az aB e],λ_=>[]⟩:=by unfold sd;simp[he]
attribute [local irreducible] Instr.build in
theorem Cz(v t vs:Value)(g:ep)(T N:Nat)(A:List (List bI.Act))(G:List (List Int))(su:List Nat)(seen col:Nat)(w:World)(hG:kK (λk=>k<w.heap.size) w v g)(ht:BM w t A G)(hs:skR w vs su)(hT:sb g T N A G)(hq:∀q∈su,q<A.length)(hne:su≠[])(hl:su.length<=60)(hc:col<=T):
 Calls aE 131 #[v,t,uj vs (seen:Int) 0 aF,az aB (col:Int)] w (bX (sd (fJ g.aH (ii A) (eQ G) col seen 2001 su [])) w):=by
 have jU:=λw' (hg:Gr w w')=>ky vs (sI su) w' (by rw[wI];exact hs.gr hg) (by rw[wI];omega);rw[wI]at jU;have eR:=λpO σ p w' (hg:Gr w w') xE DU hl' hp=>FJ v t pO g T N A G σ p w' (hG.gr hg) (ht.gr hg) xE hT DU hl' hp;have ai_:=λσ σ' p h0 h1 hq hr=>KD (σ:=σ) (σ':=σ') (p:=p) hT h0 h1 hq hr;have TC:=λq (hq:q<A.length)=>hT.right hq hc;have hwA:=hT.wA;clear hT;obtain⟨vp,rfl,-⟩:=hG;obtain⟨vA,vG,rfl,hA,-⟩:=ht;obtain⟨aA,cA,rfl,-,-⟩:=mZ hA;refine enter (args:=[dP g.aT g.bx vp,aQ #[av aA A.length cA,vG],uj vs (seen:Int) 0 aF,az aB (col:Int)]) (n:=87) Tryz.func131 I I I ?_;refine cB (bD (bL I I I λg4=>?_));refine zL ?_;refine bL I I I λg5=>?_;refine zL ?_;refine bL I I I λg6=>?_;refine zL ?_
 repeat(first|refine GA ?_|refine gV (aC (v:=vs) aL.ty I (aI (i:=2) I I)) ?_)
 refine aU (ja aJ.en I I) (λw hm=>jU w hm.below) I I I ?_;intro n9 _;refine zL ?_
 try refine GA ?_
 refine iz 54 2 ?_;generalize hR:fJ g.aH (ii A) (eQ G) col seen 2001 su []=R;clear jU hs;refine d_ (ι:=Nat×List Nat×List dw×Value×Value) (λ(f,σ,o,_,_)=>fJ g.aH (ii A) (eQ G) col seen f σ o=R/\f<=2001/\1<=f/\o.length+f<=2001/\σ≠[]/\σ.length<=60/\∀q∈σ,q<A.length)
  (λ(f,_,_,vs,vo)=>[(3,az aB (col:Int)),(4,aK (aj ⟨g4,0,ak⟩)),(5,aK (aj ⟨g5,0,ak⟩)),(6,aK (aj ⟨g6,0,ak⟩)),(11,vs),(12,vo),(13,az aB ((2001-f:Nat):Int))])
  (λ(_,σ,o,pO,vo)=>[aR g4 (dP g.aT g.bx vp).cells 33,aR g5 (aQ #[av aA A.length cA,vG]).cells 36,aR g6 (uj vs (seen:Int) 0 aF).cells 112,T7 pO σ,jJ vo o]) (λ(f,_,_,_,_)=>f) (2001,su,[],n9,av ak 0 0) ⟨hR,by omega,by omega,by simp,hne,hl,hq⟩ ?_
 clear hR hne hl hq;rintro⟨f,σ,o,pO,vo⟩ ⟨i1,i2,i3,i4,i5,i6,i7⟩;dsimp only at i1 i2 i3 i4 i5 i6 i7⊢;obtain⟨q,σ,rfl⟩:=Rk i5;obtain⟨f,rfl⟩:∃f',f=f'+1:=⟨f-1,by omega⟩;have hqA:=i7 q (iO ..);have akv:=TC q hqA;obtain⟨bA,oA,wi,rfl,hcA,hsA⟩:=KA hA hqA;have ad6:∀L,At (w:bP) L ⟨bA,oA+q,ak⟩ wi:=λL=>kH hcA;obtain⟨ei,di,rfl,hdi,aiW⟩:=mZ hsA;have hfA:=hsA.flat (f:=jE) aln;obtain⟨_,_,e2,-,-,hrX⟩:=hfA
 cases e2
 have alh:=hwA q hqA;have hxe:ii A q col=A[q].getD col (0,0):=by unfold ii;rw[de (l:=A),bM hqA];rfl
 have hcX:col<A[q].length:=by omega
 obtain⟨b3,o3,rfl,NK⟩:=hrX J;have dy:=λL=>gd (L:=L) sa NK hcX;have ai':A[q][col]=ii A q col:=by rw[hxe,de,bM hcX];rfl
 rw[ai']at dy;have EX:∀(L:List b9) (j:Nat) (u:Value),(jE (ii A q col))[j]?=aj u->At (w:bP) L ⟨b3,o3+col*2+j,ak⟩ u:=dy;clear dy NK hrX hxe ai' hsA hcA hwA hA TC;generalize A[q]=X at*;generalize hx:ii A q col=x at*;refine yp (i:=3) I (by simp) λgs cs hv q1 q2=>?_;subst hv;simp only[dj]at i4 i6 q1⊢
 try refine GA ?_
 refine dH ([aR g5 (aQ #[av (aj ⟨bA,oA,ak⟩) A.length cA,vG]).cells 36,T7 (av (aj ⟨gs,0,ak⟩) (σ.length+1) cs) (q::σ)]) (.calm 0 (.calm 1 (.calm 2 (.calm 3 (.calm 4 (.calm 5 (.calm 6 (.calm 7 (.calm 8 (.calm 9 (.calm 10 (.calm 11 (.calm 12 (.one 13 (.one 14 (.done)))))))))))))))) (bV [1,3]) ?_
 repeat(first|(refine GN ?_;first|refine QW QP ?_|refine QW (aC (v:=av (aj ⟨bA,oA,ak⟩) A.length cA) aL.ty I (aI (i:=0) I I)) ?_|refine QW (eT (r:=(σ.length:Int)) I I J J J) ?_|refine QW (aZ (j:=σ.length) bQ.eq aL.ty I I J) ?_|refine QW (aC (v:=az aB (q:Int)) aL.ty I (ai9 (i:=1) I)) ?_|refine QW (bY (j:=q) bQ.eq aL.ty I I hqA) ?_|refine QW (aC (v:=av (aj ⟨b3,o3,ak⟩) X.length di) aL.ty I (ad6 _)) ?_|refine QW (aZ (j:=col) bQ.eq aL.ty I I hcX) ?_|refine QW (aY (cs:=jE x) aL.ty I I (EX _)) ?_|refine GX ?_)|refine GW ?_)
 refine aM I (a8 I λg14=>?_);refine zL ?_;refine aO (bV [1,3]) ?_;refine aM I (aW (i:=5) (cs':=(jE x).toArray) I I I I I I ?_);refine zL ?_;refine aO (bV [1,3]) ?_
 try refine GW ?_
 obtain⟨k,m⟩:=x;have KE:((2001-(f+1):Nat):Int)=2000↔f=0:=by omega
 by_cases ck:k=0
 ·subst ck
  rw[ai5 hx]at i1;subst i1
  by_cases c0:f=0
  ·repeat(first|refine GC ?_|refine gV (cY (b:=aD) I I (decide_eq_true (KE.2 c0))) ?_|refine gV (aC (v:=az aB 0) aL.ty I (aI (i:=5) I I)) ?_|refine GB ?_)
   exact kG I I I I λw hm=>hm.meets (S:=sd (13,[],[])) (av ak 0 0,av ak 0 0) trivial [] aln I
  repeat(first|refine GC ?_|refine gV (cY (b:=aF) I I (decide_eq_false λh=>c0 (KE.1 h))) ?_|refine gV (aC (v:=az aB 0) aL.ty I (aI (i:=5) I I)) ?_|refine GB ?_)
  exact kG I I I I λw hm=>hm.meets (S:=sd (13,[],[])) (av ak 0 0,av ak 0 0) trivial [] aln I
 by_cases c0:f=0
 ·subst c0
  rw[abk hx ck]at i1;subst i1
  repeat(first|refine GC ?_|refine gV (cY (b:=aD) I I (decide_eq_true (KE.2 I))) ?_|refine gV (aC (v:=az aB k) aL.ty I (aI (i:=5) I I)) ?_|refine gV (dc (b:=aD) I I (decide_eq_true ck)) ?_|refine GB ?_)
  exact kG I I I I λw hm=>hm.meets (S:=sd (14,[],[])) (av ak 0 0,av ak 0 0) trivial [] aln I
 have KE:¬((2001-(f+1):Nat):Int)=2000:=λh=>c0 (KE.1 h);obtain⟨f,rfl⟩:∃f',f=f'+1:=⟨f-1,by omega⟩;rcases akv with⟨e,_⟩|⟨e,h1,h2,h3⟩|⟨e,h1,h2⟩|⟨e,_⟩<;>dsimp only at e<;>subst e
 ·exact absurd I ck
 ·dsimp only at h1 h2 h3
  rw[ai7 hx]at i1
  repeat(first|refine GC ?_|refine gV (cY (b:=aF) I I (decide_eq_false KE)) ?_|refine gV (aC (v:=az aB 1) aL.ty I (aI (i:=5) I I)) ?_|refine GB ?_)
  refine dH ([aR g6 (uj vs (seen:Int) 0 aF).cells 112,aR g14 (jE (1,m)).toArray 162]) (.calm 0 (.calm 1 (.calm 2 (.calm 5 (.calm 6 (.calm 7 (.calm 8 (.two 3 (.two 4 (.one 9 (.one 10 (.calm 11 (.calm 12 (.done))))) 9 (.one 4 (.one 10 (.calm 11 (.calm 12 (.done)))))) 9 (.one 3 (.one 4 (.one 10 (.calm 11 (.calm 12 (.done)))))))))))))) (bV [2,5]) ?_
  repeat(first|refine GW ?_|(refine GN ?_;first|refine QW (aC (v:=az aB m) aL.ty I (aI (i:=1) I I)) ?_|refine QW (aC (v:=az aB (seen:Int)) aL.ty I (aI (i:=0) I I)) ?_|refine QW (bB I (BD _ _)) ?_))
  refine eN I I ?bw1 ?bw2
  case' bw1=>
   refine fO (cs:=#[az aB m]) I I I I I λg52=>aO (bV [2,5]) ?_;refine eN I I ?bw3 ?bw4
  case' bw3=>
   refine lZ (i:=3) (q:=6) I I I I I I (by simp only[dj];omega) (by simp only[dj];omega) I λv3=>aO (bV [2,5]) ?_;refine aM I (fO (cs:=(eu (2,(seen:Int))).toArray) I I I I I λg58=>aO (bV [2,5]) ?_);refine aM I (mN (i:=4) (q:=7) I I I I I I J J I λv4=>aO (bV [2,5]) ?_)
  case' bw4=>
   refine fO (cs:=(eu (2,(seen:Int))).toArray) I I I I I λg58=>aO (bV [2,5]) ?_;refine aM I (lZ (i:=3) (q:=6) I I I I I I (by simp only[dj];omega) (by simp only[dj];omega) I λv3=>aO (bV [2,5]) ?_);refine aM I (mN (i:=4) (q:=7) I I I I I I J J I λv4=>aO (bV [2,5]) ?_)
  case' bw2=>
   refine fO (cs:=(eu (2,(seen:Int))).toArray) I I I I I λg58=>aO (bV [2,5]) ?_;refine aM I (fO (cs:=#[az aB m]) I I I I I λg52=>aO (bV [2,5]) ?_);refine aM I (lZ (i:=3) (q:=7) I I I I I I (by simp only[dj];omega) (by simp only[dj];omega) I λv3=>aO (bV [2,5]) ?_);refine aM I (mN (i:=4) (q:=6) I I I I I I J J I λv4=>aO (bV [2,5]) ?_)
  all_goals
   try refine GW ?_
   by_cases c6:60<(q::σ).length+1
   ·rw[if_pos c6]at i1
    subst i1
    repeat(first|refine GC ?_|refine gV (e_ (i:=3) bQ.eq I I) ?_|refine gV (dW (b:=aD) I I (decide_eq_true J)) ?_|refine GB ?_)
    exact kG I I I I λw hm=>hm.meets (S:=sd (14,[],[])) (av ak 0 0,av ak 0 0) trivial [] aln I
   ·rw[if_neg c6]at i1
    subst i1
    repeat(first|refine GC ?_|refine gV (e_ (i:=3) bQ.eq I I) ?_|refine gV (dW (b:=aF) I I (decide_eq_false J)) ?_|refine gV (aC (v:=az aB 1) aL.ty I (aI (i:=5) I I)) ?_|refine GB ?_)
    exact kG I I I I λw hm=>hm.meets (S:=sd (0,m.toNat::q::σ,o++[(2,(seen:Int))])) (v3,v4) trivial [3,4] aln (by
     show[T7 v3 (m.toNat::q::σ),jJ v4 (o++[(2,(seen:Int))])]=_
     rw[<-ad9 h2,<-T8];rfl)
 ·dsimp only at h1 h2
  obtain⟨pn,rfl⟩:=gU h1;have aja:=λw' yy xE=>eR (av (aj ⟨gs,0,ak⟩) (σ.length+1) cs) (q::σ) pn w' yy xE i7 (by simp only[dj];omega) J;have YR:=λσ'=>ai_ (q::σ) σ' (pn:Int) h1 h2 i7;have akw:=λhr=>@afk g.aH (ii A) (eQ G) col seen f q σ o (pn:Int) hx hr;have OP:=λσ' hr=>@ai8 g.aH (ii A) (eQ G) col seen f q σ o (pn:Int) σ' hx hr;generalize C2 g.aH (eQ G) (q::σ) (pn:Int)=R2 at*;clear eR ai_
  cases R2 with
  | none=>
   rw[akw I]at i1;subst i1
   repeat(first|refine GC ?_|refine gV (cY (b:=aF) I I (decide_eq_false KE)) ?_|refine gV (aC (v:=az aB 2) aL.ty I (aI (i:=5) I I)) ?_|refine gV (aP (i:=0) aL.ty I I I) ?_|refine gV (aP (i:=1) aL.ty I I I) ?_|refine gV (aC (v:=az aB (pn:Int)) aL.ty I (aI (i:=5) I I)) ?_|refine GB ?_)
   refine aU (Ln aJ.en I I I I I) (λw' hm=>aja w' hm.below (Sl.dx (hm.get (i:=3) I))) I I I ?_;intro v2 _
   conv=>arg 8;simp only[zJ,cD,ret,id_eq,NL]
   conv=>arg 7;simp only[NL]
   try refine GA ?_
   exact kG I I I I λw hm=>hm.meets (S:=sd (13,[],[])) (av ak 0 0,av ak 0 0) trivial [] aln I
  | some σ'=>
   rw[OP σ' I]at i1;obtain⟨k1,k2,k3⟩:=YR σ' rfl;simp only[dj]at k2
   repeat(first|refine GC ?_|refine gV (cY (b:=aF) I I (decide_eq_false KE)) ?_|refine gV (aC (v:=az aB 2) aL.ty I (aI (i:=5) I I)) ?_|refine gV (aP (i:=0) aL.ty I I I) ?_|refine gV (aP (i:=1) aL.ty I I I) ?_|refine gV (aC (v:=az aB (pn:Int)) aL.ty I (aI (i:=5) I I)) ?_|refine GB ?_)
   refine aU (Ln aJ.en I I I I I) (λw' hm=>aja w' hm.below (Sl.dx (hm.get (i:=3) I))) I I I ?_;intro v2 _
   conv=>arg 8;simp only[zJ,cD,ret,id_eq,NL]
   conv=>arg 7;simp only[NL]
   repeat(first|refine GA ?_|refine gV (aC (v:=az aB (pn:Int)) aL.ty I (aI (i:=5) I I)) ?_|refine gV (bB I (BD _ _)) ?_)
   refine jR (i:=4) I I I I I I I (λz h=>by cases h;rfl) J J I λz4 v4=>?_;refine zL ?_
   by_cases c6:60<σ'.length
   ·rw[if_pos c6]at i1
    subst i1
    repeat(first|refine GC ?_|refine gV (e_ (i:=6) bQ.eq I I) ?_|refine gV (dW (b:=aD) I I (decide_eq_true J)) ?_|refine GB ?_)
    exact kG I I I I λw hm=>hm.meets (S:=sd (14,[],[])) (av ak 0 0,av ak 0 0) trivial [] aln I
   rw[if_neg c6]at i1
   repeat(first|refine GC ?_|refine gV (e_ (i:=6) bQ.eq I I) ?_|refine gV (dW (b:=aF) I I (decide_eq_false J)) ?_|refine gV (aC (v:=az aB 2) aL.ty I (aI (i:=5) I I)) ?_|refine gV (fl (r:=((2001-(f+1):Nat):Int)) I I J J J) ?_|refine GB ?_)
   refine dv [0,1,2,6,4] ?_;exact bW (f+1,σ',o++[(4,(pn:Int))],v2,v4) ⟨i1,by omega,by omega,by show(o++[(4,(pn:Int))]).length+(f+1)<=2001;rw[bK,kO];omega,k1,by show σ'.length<=60;omega,k3⟩ (by show f+1<f+1+1;omega) (hl:=by rw[<-T8];rfl)
 ·rw[ai6 hx]at i1
  subst i1
  repeat(first|refine GC ?_|refine gV (cY (b:=aF) I I (decide_eq_false KE)) ?_|refine gV (aC (v:=az aB 3) aL.ty I (aI (i:=5) I I)) ?_|refine GB ?_)
  exact kG I I I I λw hm=>hm.meets (S:=sd (0,q::σ,o)) (av (aj ⟨gs,0,ak⟩) (σ.length+1) cs,vo) trivial [3,4] aln I
open eX
theorem Wq(w:World):(dg 182 #[(0,az aB 2)]).run aE w= .ok (aQ (eu (2,0)).toArray) w:=by
 unfold eu;go_simp
theorem Ws(g:Nat)(w:World):(dg 109 #[(0,av (aj ⟨g,0,ak⟩) 1 1)]).run aE w= .ok (tQ (av (aj ⟨g,0,ak⟩) 1 1) 0 0 aF) w:=by
 unfold tQ;go_simp
def xe:Spec Value:=⟨λ_=>True,λvt=>tQ vt 0 0 aF,λvt=>[xr vt [.sym (2,0)]]⟩
set_option maxRecDepth 100000 in
theorem se(w:World):Calls aE 30 #[] w (bX xe w):=by
 refine enter (args:=[]) (n:=5) Tryz.func30 I I I ?_;refine cB (bD (a8 I λg2=>?_));refine zL ?_
 repeat(first|refine QZ ?_|refine QV (bB I Wq) ?_|refine QV (bB I (Ik (2,0))) ?_)
 refine fw (cs:=(xM (.sym (2,0))).toArray) [Lv (.sym (2,0))] I I I (by intro v hv;simp at hv;subst hv;rfl) I I I λg3=>?_;refine zL ?_
 repeat(first|refine QZ ?_|refine QV (bB I (Ws _)) ?_)
 refine gG 0 (cs':=#[av (aj ⟨g3,0,ak⟩) 1 1,az aB 0,az aB 0,.bool aF]) ?_;refine zL ?_;refine zk (i:=1) 4 I I J ?_;refine zL ?_
 try refine GA ?_
 exact fW (i:=0) I I I I λw hm=>hm.meets (S:=xe) (av (aj ⟨g3,0,ak⟩) 1 1) trivial [1] aln I
theorem abl(t n:Int)(bp:Option Addr)(mp cp:Nat)(bt:Option Addr)(mt ct:Nat)(w:World):(dg 283 #[(0,dP t n (av bp mp cp)),(1,av bt mt ct)]).run aE w= .ok (.agg (M_ t n (av bp mp cp) (av bt mt ct) (av ak 0 0) 0)) w:=by
 unfold dP M_;go_simp
def KF(t n:Int)(vp:Value)(st:List TD):Spec (Nat×Value):=⟨λ_=>True,λx=>aK (aj ⟨x.1,0,ak⟩),λx=>[yQ x.1 t n vp x.2 (av ak 0 0) 0,xr x.2 st]⟩
theorem CA(t n:Int)(vp vt:Value)(st:List TD)(seen over:Int)(done:Bool)(w:World)(ht:TdR w vt st)(hl:st.length<=60)(hvp:∃b m c,vp=av b m c):
 Calls aE 124 #[dP t n vp,tQ vt seen over done] w (bX (KF t n vp st) w):=by
 have jU:=λw' (hg:Gr w w')=>Fg vt st.reverse w' (by rw[Kn];exact ht.gr hg) (by rw[Kn];omega);rw[Kn]at jU;obtain⟨bp,mp,cp,rfl⟩:=hvp;refine enter (args:=[dP t n (av bp mp cp),tQ vt seen over done]) (n:=11) Tryz.func124 I I I ?_;refine cB (bD (bL I I I λg0=>bL I I I λg1=>?_));refine zL ?_
 try refine GA ?_
 refine dH ([aR g0 (dP t n (av bp mp cp)).cells 33,aR g1 (tQ vt seen over done).cells 109]) (.calm 0 (.calm 1 (.calm 2 (.one 3 (.calm 4 (.one 5 (.calm 6 (.done)))))))) (λ_ h=>h) ?_
 repeat(first|refine GW ?_|(refine GN ?_;first|refine QW (aP (i:=0) aL.ty I I I) ?_|refine QW (aC (v:=vt) aL.ty I (aI (i:=1) I I)) ?_))
 refine aM I ?_;refine aU (ja aJ.en I I) (λw hm=>jU _ hm.below) I I I ?_;intro oV _;refine zL ?_;refine lA (i:=2) I λbt ct hv q1 q2=>?_;subst hv;refine aO (bV [0,1]) ?_
 repeat(first|refine GW ?_|(refine GN ?_;first|refine QW (bB I (abl _ _ _ _ _ _ _ _)) ?_))
 refine aM I (bL I I I λg2=>?_);refine zL ?_;refine aO (bV [0,1]) ?_
 try refine GW ?_
 try refine GA ?_
 exact cJ I I λw hm=>hm.meets (S:=KF t n (av bp mp cp) st) (g2,av bt st.length ct) trivial [3,2] aln I
theorem NP{l:List aV.Prod}{nx:Int->Int}{st:List TD}{seen:Nat}{t:Int}{st1:List TD}{fI:List dw}{a1:Nat}{e:Int}(hD:fR l nx 2001 st [] 0=(st1,fI,a1,e))(he:e≠0):jq l nx st seen t=(e,[],[]):=by
 unfold jq;rw[hD];dsimp only;rw[if_pos he]
theorem abm{l:List aV.Prod}{nx:Int->Int}{st:List TD}{seen:Nat}{t:Int}{fI:List dw}{a1:Nat}(hD:fR l nx 2001 st [] 0=([],fI,a1,0)):jq l nx st seen t=(13,[],[]):=by
 unfold jq;rw[hD];dsimp only;rw[if_neg aln]
theorem abn{l:List aV.Prod}{nx:Int->Int}{st:List TD}{seen:Nat}{t:Int}{x:dw}{r:List TD}{fI:List dw}{a1:Nat}(hD:fR l nx 2001 st [] 0=(.sym x::r,fI,a1,0)):jq l nx st seen t=if x.2≠t then(13,[],[])else if a1+1<=2000/\(bT r (fI++[(2,(seen:Int))]) (a1+1)).2.2.2=aD then(0,(bT r (fI++[(2,(seen:Int))]) (a1+1)).1,(bT r (fI++[(2,(seen:Int))]) (a1+1)).2.1)else(14,[],[]):=by
 unfold jq;rw[hD];dsimp only;rw[if_neg aln]
theorem T9{l:List aV.Prod}{nx:Int->Int}{st:List TD}{st1:List TD}{fI:List dw}{a1:Nat}{e:Int}(hD:fR l nx 2001 st [] 0=(st1,fI,a1,e))(he:e≠0):iw l nx st=(e,[]):=by
 unfold iw;rw[hD];dsimp only;rw[if_pos he]
theorem ad_{l:List aV.Prod}{nx:Int->Int}{st:List TD}{fI:List dw}{a1:Nat}(hD:fR l nx 2001 st [] 0=([],fI,a1,0)):iw l nx st=(0,fI):=by
 unfold iw;rw[hD];dsimp only;rw[if_neg aln]
theorem ad'{l:List aV.Prod}{nx:Int->Int}{st:List TD}{x:dw}{r:List TD}{fI:List dw}{a1:Nat}(hD:fR l nx 2001 st [] 0=(.sym x::r,fI,a1,0)):iw l nx st=(13,[]):=by
 unfold iw;rw[hD];dsimp only;rw[if_neg aln]
def wJ(seen:Int)(R:Int×List TD×List dw):Spec (Value×Value):=
 ⟨λ_=>True,λx=>if R.1=0 then .tuple #[tQ x.1 (seen+1) 0 aF,x.2,az aB 0]else .tuple #[tQ (av ak 0 0) seen R.1 aF,av ak 0 0,az aB R.1],λx=>if R.1=0 then [xr x.1 R.2.1,jJ x.2 R.2.2]else []⟩
theorem lF(seen e:Int)(w:World):(dg 109 #[(1,az aB seen),(2,az aB e)]).run aE w= .ok (tQ (av ak 0 0) seen e aF) w:=by
 unfold tQ;go_simp
theorem Wt(b:Option Addr)(m c:Nat)(seen:Int)(w:World):(dg 109 #[(0,av b m c),(1,az aB seen)]).run aE w= .ok (tQ (av b m c) seen 0 aF) w:=by
 unfold tQ;go_simp
theorem tR(v vr vt:Value)(g:ep)(ll:List (List Int))(T N:Nat)(st:List TD)(seen t:Nat)(w:World)(h:kK (λk=>k<w.heap.size) w v g)(hr:Al w vr ll)(ht:TdR w vt st)(h0:Fy g ll=0)(hg:cC g=0)(hT:FF g ll T N)(hs:∀d∈st,rj g d)(hl:st.length<=60)(h1:seen<=1000000)(h2:t<T):
 Calls aE 97 #[v,vr,tQ vt (seen:Int) 0 aF,az aB (t:Int)] w (bX (wJ (seen:Int) (jq g.aH (ig ll t) st seen (t:Int))) w):=by
 have iH:=λw' (yy:Gr w w')=>sc v vr vt g ll st (seen:Int) (t:Int) w' (h.gr yy) (hr.gr yy) (ht.gr yy) h0 hs hl J J J (by have:=hT.aT;omega);have IB:=hT.aT;obtain⟨vp,rfl,hp,_⟩:=h;have A7:=λw' (yy:Gr w w')=>CA g.aT g.bx vp vt st (seen:Int) 0 aF w' (ht.gr yy) hl (by obtain⟨b,c,e,_⟩:=hp;exact⟨b,_,c,e⟩);have hdw:=λgw vt0 vo0 w' B ho hm=>Cw w gw g.aT g.bx vp vr g ll T N t hp hr hg hT J vt0 vo0 st w' B hs hl ho hm;have UM:=λR=>@Ag g.aH (ig ll t) 2001 st [] 0 R;have hdt:=λR=>@wu g.aH (ig ll t) 2001 st [] 0 R;have hde:=@wt g.aH (ig ll t) 2001 st [] 0;generalize hD:fR g.aH (ig ll t) 2001 st [] 0=D at*;obtain⟨st1,fI,a1,e⟩:=D;have UM:=λh=>UM _ I h hl J;have hdt:=λh=>hdt _ I h;dsimp only at*;refine enter (args:=[dP g.aT g.bx vp,vr,tQ vt (seen:Int) 0 aF,az aB (t:Int)]) (n:=96) Tryz.func97 I I I ?_;refine cB (bD (bL I I I λg0=>bL I I I λg1=>a8 I λg2=>?_));refine zL ?_
 repeat(first|refine GA ?_|refine gV (aC (v:=az aB g.aT) aL.ty I (aI (i:=0) I I)) ?_|refine gV (aP (i:=0) aL.ty I I I) ?_|refine gV (aP (i:=1) aL.ty I I I) ?_)
 refine aU (Ln aJ.en I I I I I) (λw hm=>iH _ hm.below) I I I ?_;intro _ _;refine zL ?_
 repeat(first|refine GA ?_|refine gV (aP (i:=0) aL.ty I I I) ?_|refine gV (aP (i:=1) aL.ty I I I) ?_)
 refine aU (fC aJ.en I I I) (λw hm=>A7 _ hm.below) I I I ?_;rintro⟨gw,vt1⟩ _
 conv=>arg 8;simp only[zJ,cD,ret,id_eq,KF]
 try refine GA ?_
 refine rD 54 2 ?_;refine zL ?_;refine bz [3,4,5] [0,1,2] aln I I (qq aJ.en I I I I) (λw' hm hb=>hdw gw vt1 _ w' _ ((mI.self w).on hm λo h=>pM h) hb) I I I ?_;rintro⟨TH,Xo⟩ _
 conv=>arg 8;simp only[zJ,cD,ret,id_eq,dwS]
 conv=>arg 7;simp only[dwS]
 rcases hde with rfl|rfl|rfl
 ·obtain⟨hd1,hd2,hd3,hd4⟩:=UM rfl
  rcases hdt rfl with rfl|⟨x,r,rfl,hx⟩
  ·rw[abm hD]
   try refine GA ?_
   refine dH ([yQ gw g.aT g.bx vp TH Xo a1,xr TH []]) (.calm 0 (.calm 1 (.calm 2 (.calm 3 (.calm 4 (.calm 5 (.calm 6 (.calm 7 (.calm 8 (.calm 9 (.calm 10 (.calm 11 (.calm 12 (.calm 13 (.calm 14 (.calm 15 (.calm 16 (.calm 17 (.calm 18 (.calm 19 (.calm 20 (.calm 21 (.calm 22 (.calm 23 (.calm 24 (.calm 25 (.calm 26 (.calm 27 (.done))))))))))))))))))))))))))))) (bV [3,4]) ?_
   repeat(first|(refine GN ?_;first|refine QW QP ?_|refine QW (aC (v:=TH) aL.ty I (aI (i:=0) I I)) ?_|refine QW (cY (b:=aD) I I I) ?_|refine QW (e_ (i:=1) bQ.eq I I) ?_|refine GX ?_)|refine GW ?_)
   repeat(first|refine GA ?_|refine gV (aC (v:=az aB (seen:Int)) aL.ty I (aI (i:=1) I I)) ?_|refine gV (bB I (lF _ _)) ?_)
   refine gG 2 (cs':=#[av ak 0 0,az aB (seen:Int),az aB 13,.bool aF]) ?_;refine zL ?_
   try refine GA ?_
   exact fD (i:=2) I I I I I I λw hm=>hm.meets (S:=wJ (seen:Int) (13,[],[])) (av ak 0 0,av ak 0 0) trivial [] aln I
  rw[abn hD];obtain⟨k,m⟩:=x;dsimp only at hx;subst hx;simp only[dj]at hd1
  try refine GA ?_
  refine yp (i:=4) I (by simp) λgt ct hv q1 q2=>?_;subst hv;simp only[dj]at*
  by_cases c1:m≠(t:Int)
  ·rw[if_pos c1]
   refine dH ([yQ gw g.aT g.bx vp (av (aj ⟨gt,0,ak⟩) (r.length+1) ct) Xo a1,xr (av (aj ⟨gt,0,ak⟩) (r.length+1) ct) (.sym (1,m)::r)]) (.calm 0 (.calm 1 (.calm 2 (.calm 3 (.calm 4 (.calm 5 (.calm 6 (.calm 7 (.calm 8 (.calm 9 (.calm 10 (.calm 11 (.calm 12 (.calm 13 (.calm 14 (.calm 15 (.calm 16 (.calm 17 (.calm 18 (.calm 19 (.calm 20 (.calm 21 (.calm 22 (.calm 23 (.calm 24 (.calm 25 (.calm 26 (.calm 27 (.done))))))))))))))))))))))))))))) (bV [3,4]) ?_
   repeat(first|(refine GN ?_;first|refine QW QP ?_|refine QW (aC (v:=av (aj ⟨gt,0,ak⟩) (r.length+1) ct) aL.ty I (aI (i:=0) I I)) ?_|refine QW (cY (b:=aD) I I I) ?_|refine QW (cY (b:=aF) I I (decide_eq_false J)) ?_|refine QW (aC (v:=az aB m) aL.ty I (Cq (i:=1) I 3 _ I)) ?_|refine QW (dc (b:=aD) I I (decide_eq_true c1)) ?_|refine QW (eT (r:=(r.length:Int)) I I J J J) ?_|refine QW (aZ (j:=r.length) bQ.eq aL.ty I I J) ?_|refine GX ?_)|refine GW ?_)
   repeat(first|refine GA ?_|refine gV (aC (v:=az aB (seen:Int)) aL.ty I (aI (i:=1) I I)) ?_|refine gV (bB I (lF _ _)) ?_)
   refine gG 2 (cs':=#[av ak 0 0,az aB (seen:Int),az aB 13,.bool aF]) ?_;refine zL ?_
   try refine GA ?_
   exact fD (i:=2) I I I I I I λw hm=>hm.meets (S:=wJ (seen:Int) (13,[],[])) (av ak 0 0,av ak 0 0) trivial [] aln I
  rw[if_neg c1];obtain rfl:m=(t:Int):=by simpa using c1
  refine dH ([yQ gw g.aT g.bx vp (av (aj ⟨gt,0,ak⟩) (r.length+1) ct) Xo a1,xr (av (aj ⟨gt,0,ak⟩) (r.length+1) ct) (.sym (1,(t:Int))::r)]) (.calm 0 (.calm 1 (.calm 2 (.calm 3 (.calm 4 (.calm 5 (.calm 6 (.calm 7 (.calm 8 (.calm 9 (.calm 10 (.calm 11 (.calm 12 (.calm 13 (.calm 14 (.calm 15 (.calm 16 (.calm 17 (.calm 18 (.calm 19 (.calm 20 (.calm 21 (.calm 22 (.calm 23 (.calm 24 (.calm 25 (.calm 26 (.calm 27 (.done))))))))))))))))))))))))))))) (bV [3,4]) ?_
  repeat(first|(refine GN ?_;first|refine QW QP ?_|refine QW (aC (v:=av (aj ⟨gt,0,ak⟩) (r.length+1) ct) aL.ty I (aI (i:=0) I I)) ?_|refine QW (cY (b:=aD) I I I) ?_|refine QW (cY (b:=aF) I I (decide_eq_false J)) ?_|refine QW (aC (v:=az aB (t:Int)) aL.ty I (Cq (i:=1) I 3 _ I)) ?_|refine QW (dc (b:=aF) I I (decide_eq_false (by simp))) ?_|refine QW (eT (r:=(r.length:Int)) I I J J J) ?_|refine QW (aZ (j:=r.length) bQ.eq aL.ty I I J) ?_|refine GX ?_)|refine GW ?_)
  repeat(first|refine GC ?_|refine gV (cY (b:=aD) I I I) ?_|refine GB ?_)
  refine bz [3,4] [0,1,2,5] aln I I (ja aJ.en I I) (λw hm hb=>BF gw g.aT g.bx vp _ Xo (.sym (1,(t:Int))) r a1 w _ J hb) I I I ?_;intro TI _;refine zL ?_;dsimp only
  repeat(first|refine GA ?_|refine gV (aC (v:=az aB (seen:Int)) aL.ty I (aI (i:=1) I I)) ?_)
  refine bz [4,3] [0,1,2,5] aln I I (qq aJ.en I I I I) (λw hm hb=>BE gw g.aT g.bx vp TI Xo fI a1 2 (seen:Int) w _ (by simp at hd3;omega) J hb) I I I ?_;intro vo3 _;refine zL ?_;dsimp only
  by_cases c2:a1+1<=2000
  ·rw[decide_eq_true (show((a1+1:Nat):Int)<=2000 by omega)]
   try refine GA ?_
   refine C' I I I ?_;refine bz [4,3,5] [0,1,2] aln I I (ja aJ.en I I) (λw hm hb=>rW gw g.aT g.bx vp TI vo3 r (fI++[(2,(seen:Int))]) (a1+1) w _ J c2 (by simp at hd3⊢;omega) hb) I I I ?_;rintro⟨vt4,vo4⟩ _
   conv=>arg 8;simp only[zJ,cD,ret,id_eq,clS]
   conv=>arg 7;simp only[clS]
   generalize bT r (fI++[(2,(seen:Int))]) (a1+1)=C;obtain⟨st3,akx,a3,ok⟩:=C;dsimp only
   cases ok with
   | true=>
    rw[if_pos ⟨c2,rfl⟩]
    repeat(first|refine GC ?_|refine gV (cY (b:=aD) I I I) ?_|refine GB ?_)
    refine Jq (i:=4) I λbt ct' hv q3 q4=>?_;subst hv;refine dH ([yQ gw g.aT g.bx vp (av bt st3.length ct') vo4 a3,aR g1 (tQ vt (seen:Int) 0 aF).cells 109]) (.calm 0 (.calm 1 (.calm 2 (.calm 3 (.calm 4 (.calm 5 (.calm 6 (.calm 7 (.calm 8 (.calm 9 (.calm 10 (.calm 11 (.one 12 (.calm 13 (.calm 14 (.done)))))))))))))))) (bV [3,1]) ?_
    repeat(first|refine GW ?_|(refine GN ?_;first|refine QW (aC (v:=av bt st3.length ct') aL.ty I (aI (i:=0) I I)) ?_|refine QW (aC (v:=az aB (seen:Int)) aL.ty I (aI (i:=1) I I)) ?_|refine QW (aC (v:=vo4) aL.ty I (aI (i:=0) I I)) ?_|refine QW (bB I (Wt _ _ _ _)) ?_))
    refine aM I (aW (i:=2) (cs':=#[av bt st3.length ct',az aB ((seen:Int)+1),az aB 0,.bool aF]) I I I I I I (aO (bV [3,1]) ?_))
    try refine GW ?_
    try refine GA ?_
    exact fD (i:=2) I I I I I I λw hm=>hm.meets (S:=wJ (seen:Int) (0,st3,akx)) (av bt st3.length ct',vo4) trivial [4,5] aln I
   | false=>
    rw[if_neg (by rintro⟨_,h⟩;cases h)]
    try refine GA ?_
    repeat(first|refine GA ?_|refine gV (aC (v:=az aB (seen:Int)) aL.ty I (aI (i:=1) I I)) ?_|refine gV (bB I (lF _ _)) ?_)
    refine gG 2 (cs':=#[av ak 0 0,az aB (seen:Int),az aB 14,.bool aF]) ?_;refine zL ?_
    try refine GA ?_
    exact fD (i:=2) I I I I I I λw hm=>hm.meets (S:=wJ (seen:Int) (14,[],[])) (av ak 0 0,av ak 0 0) trivial [] aln I
  rw[if_neg (by rintro⟨h,_⟩;exact c2 h)];rw[decide_eq_false (show ¬((a1+1:Nat):Int)<=2000 by omega)]
  try refine GA ?_
  repeat(first|refine GA ?_|refine gV (aC (v:=az aB (seen:Int)) aL.ty I (aI (i:=1) I I)) ?_|refine gV (bB I (lF _ _)) ?_)
  refine gG 2 (cs':=#[av ak 0 0,az aB (seen:Int),az aB 14,.bool aF]) ?_;refine zL ?_
  try refine GA ?_
  exact fD (i:=2) I I I I I I λw hm=>hm.meets (S:=wJ (seen:Int) (14,[],[])) (av ak 0 0,av ak 0 0) trivial [] aln I
 ·rw[NP hD aln]
  try refine GA ?_
  refine dH ([]) (.calm 0 (.calm 1 (.calm 2 (.calm 3 (.calm 4 (.calm 5 (.calm 6 (.calm 7 (.calm 8 (.calm 9 (.calm 10 (.calm 11 (.calm 12 (.calm 13 (.calm 14 (.calm 15 (.calm 16 (.calm 17 (.calm 18 (.calm 19 (.calm 20 (.calm 21 (.calm 22 (.calm 23 (.calm 24 (.calm 25 (.calm 26 (.calm 27 (.done))))))))))))))))))))))))))))) (bV []) ?_
  try refine GW ?_
  repeat(first|refine GA ?_|refine gV (aC (v:=az aB (seen:Int)) aL.ty I (aI (i:=1) I I)) ?_|refine gV (bB I (lF _ _)) ?_)
  refine gG 2 (cs':=#[av ak 0 0,az aB (seen:Int),az aB 13,.bool aF]) ?_;refine zL ?_
  try refine GA ?_
  exact fD (i:=2) I I I I I I λw hm=>hm.meets (S:=wJ (seen:Int) (13,[],[])) (av ak 0 0,av ak 0 0) trivial [] aln I
 ·rw[NP hD aln]
  try refine GA ?_
  refine dH ([]) (.calm 0 (.calm 1 (.calm 2 (.calm 3 (.calm 4 (.calm 5 (.calm 6 (.calm 7 (.calm 8 (.calm 9 (.calm 10 (.calm 11 (.calm 12 (.calm 13 (.calm 14 (.calm 15 (.calm 16 (.calm 17 (.calm 18 (.calm 19 (.calm 20 (.calm 21 (.calm 22 (.calm 23 (.calm 24 (.calm 25 (.calm 26 (.calm 27 (.done))))))))))))))))))))))))))))) (bV []) ?_
  try refine GW ?_
  repeat(first|refine GA ?_|refine gV (aC (v:=az aB (seen:Int)) aL.ty I (aI (i:=1) I I)) ?_|refine gV (bB I (lF _ _)) ?_)
  refine gG 2 (cs':=#[av ak 0 0,az aB (seen:Int),az aB 14,.bool aF]) ?_;refine zL ?_
  try refine GA ?_
  exact fD (i:=2) I I I I I I λw hm=>hm.meets (S:=wJ (seen:Int) (14,[],[])) (av ak 0 0,av ak 0 0) trivial [] aln I
def NQ(seen:Int)(R:Int×List dw):Spec Value:=
 ⟨λ_=>True,λx=>if R.1=0 then .tuple #[tQ (av ak 0 0) seen 0 aD,x,az aB 0]else .tuple #[tQ (av ak 0 0) seen R.1 aF,av ak 0 0,az aB R.1],λx=>if R.1=0 then [jJ x R.2]else []⟩
theorem Wu(seen:Int)(w:World):(dg 109 #[(1,az aB seen),(3,.bool aD)]).run aE w= .ok (tQ (av ak 0 0) seen 0 aD) w:=by
 unfold tQ;go_simp
theorem wK(v vr vt:Value)(g:ep)(ll:List (List Int))(T N:Nat)(st:List TD)(seen:Nat)(w:World)(h:kK (λk=>k<w.heap.size) w v g)(hr:Al w vr ll)(ht:TdR w vt st)(h0:Fy g ll=0)(hg:cC g=0)(hT:FF g ll T N)(hs:∀d∈st,rj g d)(hl:st.length<=60)(h1:seen<=1000000):
 Calls aE 103 #[v,vr,tQ vt (seen:Int) 0 aF] w (bX (NQ (seen:Int) (iw g.aH (ig ll T) st)) w):=by
 have IB:=hT.aT;have iH:=λw' (yy:Gr w w')=>sc v vr vt g ll st (seen:Int) g.aT w' (h.gr yy) (hr.gr yy) (ht.gr yy) h0 hs hl J J J J;obtain⟨vp,rfl,hp,_⟩:=h;have A7:=λw' (yy:Gr w w')=>CA g.aT g.bx vp vt st (seen:Int) 0 aF w' (ht.gr yy) hl (by obtain⟨b,c,e,_⟩:=hp;exact⟨b,_,c,e⟩);have hdw:=λgw vt0 vo0 w' B ho hm=>Cw w gw g.aT g.bx vp vr g ll T N T hp hr hg hT J vt0 vo0 st w' B hs hl ho hm;rw[<-IB]at hdw;have hdt:=λR=>@wu g.aH (ig ll T) 2001 st [] 0 R;have hde:=@wt g.aH (ig ll T) 2001 st [] 0;generalize hD:fR g.aH (ig ll T) 2001 st [] 0=D at*;obtain⟨st1,fI,a1,e⟩:=D;have hdt:=λh=>hdt _ I h;dsimp only at*;refine enter (args:=[dP g.aT g.bx vp,vr,tQ vt (seen:Int) 0 aF]) (n:=55) Tryz.func103 I I I ?_;refine cB (bD (bL I I I λg0=>bL I I I λg1=>a8 I λg2=>?_));refine zL ?_
 repeat(first|refine GA ?_|refine gV (aC (v:=az aB g.aT) aL.ty I (aI (i:=0) I I)) ?_|refine gV (aP (i:=0) aL.ty I I I) ?_|refine gV (aP (i:=1) aL.ty I I I) ?_)
 refine aU (Ln aJ.en I I I I I) (λw hm=>iH _ hm.below) I I I ?_;intro _ _;refine zL ?_
 repeat(first|refine GA ?_|refine gV (aP (i:=0) aL.ty I I I) ?_|refine gV (aP (i:=1) aL.ty I I I) ?_)
 refine aU (fC aJ.en I I I) (λw hm=>A7 _ hm.below) I I I ?_;rintro⟨gw,vt1⟩ _
 conv=>arg 8;simp only[zJ,cD,ret,id_eq,KF]
 repeat(first|refine GA ?_|refine gV (aC (v:=az aB g.aT) aL.ty I (aI (i:=0) I I)) ?_)
 refine rD 54 2 ?_;refine zL ?_;refine bz [3,4,5] [0,1,2] aln I I (qq aJ.en I I I I) (λw' hm hb=>hdw gw vt1 _ w' _ ((mI.self w).on hm λo h=>pM h) hb) I I I ?_;rintro⟨TH,Xo⟩ _
 conv=>arg 8;simp only[zJ,cD,ret,id_eq,dwS]
 conv=>arg 7;simp only[dwS]
 rcases hde with rfl|rfl|rfl
 ·rcases hdt rfl with rfl|⟨x,r,rfl,hx⟩
  ·rw[ad_ hD]
   repeat(first|refine GC ?_|refine gV (aC (v:=TH) aL.ty I (aI (i:=3) I I)) ?_|refine gV (cY (b:=aD) I I I) ?_|refine gV (e_ (i:=4) bQ.eq I I) ?_|refine gV (dW (b:=aF) I I I) ?_|refine GB ?_)
   refine dH ([yQ gw g.aT g.bx vp TH Xo a1,aR g1 (tQ vt (seen:Int) 0 aF).cells 109]) (.calm 0 (.calm 1 (.calm 2 (.calm 3 (.calm 4 (.calm 5 (.calm 6 (.one 7 (.calm 8 (.calm 9 (.done))))))))))) (bV [3,1]) ?_
   repeat(first|refine GW ?_|(refine GN ?_;first|refine QW (aC (v:=az aB (seen:Int)) aL.ty I (aI (i:=1) I I)) ?_|refine QW (aC (v:=Xo) aL.ty I (aI (i:=0) I I)) ?_|refine QW (bB I (Wu _)) ?_))
   refine aM I (aW (i:=2) (cs':=#[av ak 0 0,az aB (seen:Int),az aB 0,.bool aD]) I I I I I I (aO (bV [3,1]) ?_))
   try refine GW ?_
   try refine GA ?_
   exact fD (i:=2) I I I I I I λw hm=>hm.meets (S:=NQ (seen:Int) (0,fI)) Xo trivial [5] aln I
  rw[ad' hD]
  repeat(first|refine GC ?_|refine gV (aC (v:=TH) aL.ty I (aI (i:=3) I I)) ?_|refine gV (cY (b:=aD) I I I) ?_|refine gV (aC (v:=az aB (seen:Int)) aL.ty I (aI (i:=1) I I)) ?_|refine gV (bB I (lF _ _)) ?_|refine gV (e_ (i:=4) bQ.eq I I) ?_|refine gV (dW (b:=aD) I I (decide_eq_true (by rw[dj];omega))) ?_|refine GB ?_)
  refine gG 2 (cs':=#[av ak 0 0,az aB (seen:Int),az aB 13,.bool aF]) ?_;refine zL ?_
  try refine GA ?_
  exact fD (i:=2) I I I I I I λw hm=>hm.meets (S:=NQ (seen:Int) (13,[])) (av ak 0 0) trivial [] aln I
 ·rw[T9 hD aln]
  repeat(first|refine GA ?_|refine gV (aC (v:=az aB (seen:Int)) aL.ty I (aI (i:=1) I I)) ?_|refine gV (bB I (lF _ _)) ?_)
  refine gG 2 (cs':=#[av ak 0 0,az aB (seen:Int),az aB 13,.bool aF]) ?_;refine zL ?_
  try refine GA ?_
  exact fD (i:=2) I I I I I I λw hm=>hm.meets (S:=NQ (seen:Int) (13,[])) (av ak 0 0) trivial [] aln I
 ·rw[T9 hD aln]
  repeat(first|refine GA ?_|refine gV (aC (v:=az aB (seen:Int)) aL.ty I (aI (i:=1) I I)) ?_|refine gV (bB I (lF _ _)) ?_)
  refine gG 2 (cs':=#[av ak 0 0,az aB (seen:Int),az aB 14,.bool aF]) ?_;refine zL ?_
  try refine GA ?_
  exact fD (i:=2) I I I I I I λw hm=>hm.meets (S:=NQ (seen:Int) (14,[])) (av ak 0 0) trivial [] aln I
open CR
abbrev T_(g:ep)(T N:Nat):List (List Int):=mq N λn=>mq (T+1) (CR.rowAt g.aH (BK N g.aH) T n)
theorem NR{α:Type}{len:Nat}{f:Nat->α}{d:α}(k:Nat):(mq len f).getD k d=if k<len then f k else d:=by
 rw[de]
 by_cases h:k<len
 rw[vv _ h,if_pos h];rfl;rw[ta (by rw[jl];omega),if_neg h];rfl
theorem agT{g:ep}{T N:Nat}(hT:g.aT=T)(hN:g.bx=N):FF g (T_ g T N) T N where
 aT:=hT
 bx:=hN
 len:=jl _ _
 row r hr:=by
  obtain⟨n,_,rfl⟩:=fG.1 hr;exact jl _ _
 nx col n h0:=by
  unfold ig at h0⊢;rw[NR]at h0⊢
  by_cases h:n.toNat<N
  ·rw[if_pos h]at h0⊢
   rw[NR]at h0⊢
   by_cases h2:col<T+1
   ·rw[if_pos h2]at h0⊢
    refine⟨(vC n.toNat col g.aH.length).2,λhn=>?_⟩;have:=yG (may:=BK N g.aH) (T:=T) n.toNat col g.aH.length (bC _) h0;unfold CR.rowAt;rw[this];omega
   omega
  simp_all
theorem IC{l:List aV.Prod}{n:Nat}:∀r:List Int,(∀p∈r,-1<=p/\p<(l.length:Int)/\(0<=p->(df l p).1=(n:Int)))->tA l n r=0
 |[],_=>rfl
 |p::r,h=>by
  have hp:=h p (iO ..);rw[tA,if_neg J,if_neg J,if_neg (by rintro⟨h1,h2⟩;exact h2 (hp.2.2 h1))];exact IC r λp hp=>h p (kJ _ hp)
theorem FL{l:List aV.Prod}{t:Int}:∀(rows:List (List Int)) (n:Nat),(∀i (h:i<rows.length),(rows[i].length:Int)=t+1/\tA l (n+i) rows[i]=0)->qN l t n rows=0
 |[],_,_=>rfl
 | r ::rs,n,h=>by
  have h0:=h 0 (by simp);simp only[List.getElem_cons_zero,lO]at h0;rw[qN,if_neg J,if_neg J];exact FL rs (n+1) λi hi=>by
   have:=h (i+1) (by grind);simp only[List.getElem_cons_succ]at this;rw[show n+1+i=n+(i+1)by omega];exact this
theorem NS{g:ep}{T N:Nat}(hg:cC g=0)(hT:g.aT=T)(hN:g.bx=N):Fy g (T_ g T N)=0:=by
 unfold Fy;rw[if_neg J,jl,if_neg J];refine FL _ 0 λi hi=>?_;rw[jl]at hi;have Bu:(T_ g T N)[i]' J=mq (T+1) (CR.rowAt g.aH (BK N g.aH) T i):=by simp[mq]
 rw[Bu];refine⟨by rw[jl,hT];rfl,IC _ λp hp=>?_⟩;obtain⟨c,_,rfl⟩:=fG.1 hp;have h1:=vC (l:=g.aH) (may:=BK N g.aH) (T:=T) i c g.aH.length;refine⟨h1.1,h1.2,λh0=>?_⟩;rw[cX];exact yG (l:=g.aH) (may:=BK N g.aH) (T:=T) i c g.aH.length (bC _) h0
theorem NT(seen:Int)(st:List TD)(l:List dw):wJ seen (0,st,l)=⟨λ_=>True,λx=> .tuple #[tQ x.1 (seen+1) 0 aF,x.2,az aB 0],λx=>[xr x.1 st,jJ x.2 l]⟩:=by rfl
theorem ID(seen:Int){e:Int}(he:e≠0)(st:List TD)(l:List dw):wJ seen (e,st,l)=⟨λ_=>True,λx=> .tuple #[tQ (av ak 0 0) seen e aF,av ak 0 0,az aB e],λx=>[]⟩:=by simp_all[wJ]
theorem Ua(seen:Int)(l:List dw):NQ seen (0,l)=⟨λ_=>True,λx=> .tuple #[tQ (av ak 0 0) seen 0 aD,x,az aB 0],λx=>[jJ x l]⟩:=by rfl
theorem NU(seen:Int){e:Int}(he:e≠0)(l:List dw):NQ seen (e,l)=⟨λ_=>True,λx=> .tuple #[tQ (av ak 0 0) seen e aF,av ak 0 0,az aB e],λx=>[]⟩:=by simp_all[NQ]
theorem Dv{v:Value}{a b:List dw}:a_ 54 2 v (a.length+b.length) (a.flatMap eu++b.flatMap eu)=jJ v (a++b):=by grind
theorem abo(l:List dw):(l.flatMap eu).length=l.length*2:=k_ (f:=eu) (c:=2) (λ_=>rfl) l
def FM(seen:Int)(R:Int×List Nat×List dw):Spec (Value×Value):=
 ⟨λ_=>True,λx=>if R.1=0 then .tuple #[uj x.1 (seen+1) 0 aF,x.2,az aB 0]else .tuple #[uj (av ak 0 0) seen R.1 aF,av ak 0 0,az aB R.1],λx=>if R.1=0 then [T7 x.1 R.2.1,jJ x.2 R.2.2]else []⟩
theorem BN{seen:Int}{σ:List Nat}{o:List dw}:FM seen (0,σ,o)=⟨λ_=>True,λx=> .tuple #[uj x.1 (seen+1) 0 aF,x.2,az aB 0],λx=>[T7 x.1 σ,jJ x.2 o]⟩:=by unfold FM;simp
theorem BO{seen e:Int}(he:e≠0){x:List Nat×List dw}:FM seen (e,x)=⟨λ_=>True,λ_=> .tuple #[uj (av ak 0 0) seen e aF,av ak 0 0,az aB e],λ_=>[]⟩:=by unfold FM;simp[he]
attribute [local irreducible] Instr.build in
theorem Ap(v t vs:Value)(g:ep)(T N:Nat)(A:List (List bI.Act))(G:List (List Int))(su:List Nat)(seen col:Nat)(w:World)(hG:kK (λk=>k<w.heap.size) w v g)(ht:BM w t A G)(hs:skR w vs su)(hT:sb g T N A G)(hq:∀q∈su,q<A.length)(hne:su≠[])(hl:su.length<=60)(hc:col<T)(hsn:seen<=1000000):
 Calls aE 98 #[v,t,uj vs (seen:Int) 0 aF,az aB (col:Int)] w (bX (FM (seen:Int) (fJ g.aH (ii A) (eQ G) col seen 2001 su [])) w):=by
 have h0:0<su.length:=by rcases su with _|⟨a,b⟩;exact absurd I hne;simp
 have IB:=hT.aT;have iH:=λw' (hg:Gr w w')=>xQ v t vs g T N A G su (seen:Int) (col:Int) w' (hG.gr hg) (ht.gr hg) (hs.gr hg) hT hq h0 hl J J J J;have hrn:=λw' (hg:Gr w w')=>Cz v t vs g T N A G su seen col w' (hG.gr hg) (ht.gr hg) (hs.gr hg) hT hq hne hl J;have hlen:=λh=>(Du (a:=seen) hT (show col<=T by omega) 2001 (o:=[]) hne hq hl h).2.2.1;generalize fJ g.aH (ii A) (eQ G) col seen 2001 su []=R at*;obtain⟨e,σ,o⟩:=R;dsimp only at hlen;obtain⟨vp,rfl,-⟩:=hG;obtain⟨vA,vG,rfl,-⟩:=ht;clear hs hT;refine enter (args:=[dP g.aT g.bx vp,aQ #[vA,vG],uj vs (seen:Int) 0 aF,az aB (col:Int)]) (n:=51) Tryz.func98 I I I ?_;refine cB (bD (bL I I I λg4=>?_));refine zL ?_;refine bL I I I λg5=>?_;refine zL ?_;refine bL I I I λg6=>?_;refine zL ?_;refine a8 I λg8=>?_;refine zL ?_
 repeat(first|refine GC ?_|refine gV (aC (v:=az aB g.aT) aL.ty I (aI (i:=0) I I)) ?_|refine gV (cY (b:=aF) I I (decide_eq_false J)) ?_|refine gV (aP (i:=0) aL.ty I I I) ?_|refine gV (aP (i:=1) aL.ty I I I) ?_|refine gV (aP (i:=2) aL.ty I I I) ?_|refine GB ?_)
 refine aU (Ln aJ.en I I I I I) (λw hm=>iH w hm.below) I I I ?_;intro _ _;refine zL ?_
 repeat(first|refine GA ?_|refine gV (aP (i:=0) aL.ty I I I) ?_|refine gV (aP (i:=1) aL.ty I I I) ?_|refine gV (aP (i:=2) aL.ty I I I) ?_)
 by_cases c:e=0
 ·subst c
  rw[NN]at hrn;rw[BN];have hlen:=hlen I;refine aU (Ln aJ.en I I I I I) (λw hm=>hrn w hm.below) I I I ?_;rintro⟨v1,v2⟩ _;refine zL ?_
  try refine GA ?_
  refine lA (i:=4) I λbt ct hv q1 q2=>?_;subst hv
  repeat(first|refine GC ?_|refine gV (aC (v:=az aB (seen:Int)) aL.ty I (aI (i:=2) I I)) ?_|refine gV (fl (r:=(seen:Int)+1) I I J J J) ?_|refine gV (bB I (Wo _ _ _ _)) ?_|refine GB ?_)
  refine gG 3 (cs':=#[av bt σ.length ct,az aB ((seen:Int)+1),az aB 0,.bool aF]) ?_;refine zL ?_
  try refine GA ?_
  exact fD (i:=3) I I I I I I λw hm=>hm.meets (S:=⟨λ_=>True,λx=> .tuple #[uj x.1 ((seen:Int)+1) 0 aF,x.2,az aB 0],λx=>[T7 x.1 σ,jJ x.2 o]⟩) (av bt σ.length ct,v2) trivial [4,5] aln I
 ·rw[NO c]at hrn
  rw[BO c];refine aU (Ln aJ.en I I I I I) (λw hm=>hrn w hm.below) I I I ?_;rintro _ _;refine zL ?_
  repeat(first|refine GC ?_|refine gV (dc (b:=aD) I I (decide_eq_true c)) ?_|refine gV (aC (v:=az aB (seen:Int)) aL.ty I (aI (i:=2) I I)) ?_|refine gV (bB I (IA _ _)) ?_|refine GB ?_)
  refine gG 3 (cs':=#[av ak 0 0,az aB (seen:Int),az aB e,.bool aF]) ?_;refine zL ?_
  try refine GA ?_
  exact fD (i:=3) I I I I I I λw hm=>hm.meets (S:=⟨λ(_:Value×Value)=>True,λ_=> .tuple #[uj (av ak 0 0) (seen:Int) e aF,av ak 0 0,az aB e],λ_=>[]⟩) (av ak 0 0,av ak 0 0) trivial [] aln I
def NV(seen:Int)(R:Int×List Nat×List dw):Spec Value:=
 ⟨λ_=>True,λx=>if R.1=0 then .tuple #[uj (av ak 0 0) seen 0 aD,x,az aB 0]else .tuple #[uj (av ak 0 0) seen R.1 aF,av ak 0 0,az aB R.1],λx=>if R.1=0 then [jJ x R.2.2]else []⟩
theorem FO{seen:Int}{σ:List Nat}{o:List dw}:NV seen (0,σ,o)=⟨λ_=>True,λx=> .tuple #[uj (av ak 0 0) seen 0 aD,x,az aB 0],λx=>[jJ x o]⟩:=by unfold NV;simp
theorem FP{seen e:Int}(he:e≠0){x:List Nat×List dw}:NV seen (e,x)=⟨λ_=>True,λ_=> .tuple #[uj (av ak 0 0) seen e aF,av ak 0 0,az aB e],λ_=>[]⟩:=by unfold NV;simp[he]
attribute [local irreducible] Instr.build in
theorem CC(v t vs:Value)(g:ep)(T N:Nat)(A:List (List bI.Act))(G:List (List Int))(su:List Nat)(seen:Nat)(w:World)(hG:kK (λk=>k<w.heap.size) w v g)(ht:BM w t A G)(hs:skR w vs su)(hT:sb g T N A G)(hq:∀q∈su,q<A.length)(hne:su≠[])(hl:su.length<=60)(hsn:seen<=1000000):
 Calls aE 104 #[v,t,uj vs (seen:Int) 0 aF] w (bX (NV (seen:Int) (fJ g.aH (ii A) (eQ G) T seen 2001 su [])) w):=by
 have h0:0<su.length:=by rcases su with _|⟨a,b⟩;exact absurd I hne;simp
 have IB:=hT.aT;have iH:=λw' (hg:Gr w w')=>xQ v t vs g T N A G su (seen:Int) (T:Int) w' (hG.gr hg) (ht.gr hg) (hs.gr hg) hT hq h0 hl J J J J;have hrn:=λw' (hg:Gr w w')=>Cz v t vs g T N A G su seen T w' (hG.gr hg) (ht.gr hg) (hs.gr hg) hT hq hne hl (bC _);generalize fJ g.aH (ii A) (eQ G) T seen 2001 su []=R at*;obtain⟨e,σ,o⟩:=R;obtain⟨vp,rfl,-⟩:=hG;obtain⟨vA,vG,rfl,-⟩:=ht;clear hs hT;refine enter (args:=[dP g.aT g.bx vp,aQ #[vA,vG],uj vs (seen:Int) 0 aF]) (n:=45) Tryz.func104 I I I ?_;refine cB (bD (bL I I I λg4=>?_));refine zL ?_;refine bL I I I λg5=>?_;refine zL ?_;refine bL I I I λg6=>?_;refine zL ?_;refine a8 I λg8=>?_;refine zL ?_
 repeat(first|refine GA ?_|refine gV (aC (v:=az aB (T:Int)) aL.ty I (aI (i:=0) I (by show aj (az .i64 g.aT)=_;rw[IB]))) ?_|refine gV (aP (i:=0) aL.ty I I I) ?_|refine gV (aP (i:=1) aL.ty I I I) ?_|refine gV (aP (i:=2) aL.ty I I I) ?_)
 refine aU (Ln aJ.en I I I I I) (λw hm=>iH w hm.below) I I I ?_;intro _ _;refine zL ?_
 repeat(first|refine GA ?_|refine gV (aC (v:=az aB (T:Int)) aL.ty I (aI (i:=0) I (by show aj (az .i64 g.aT)=_;rw[IB]))) ?_|refine gV (aP (i:=0) aL.ty I I I) ?_|refine gV (aP (i:=1) aL.ty I I I) ?_|refine gV (aP (i:=2) aL.ty I I I) ?_)
 by_cases c:e=0
 ·subst c
  rw[NN]at hrn;rw[FO];refine aU (Ln aJ.en I I I I I) (λw hm=>hrn w hm.below) I I I ?_;rintro⟨v1,v2⟩ _;refine zL ?_
  repeat(first|refine GA ?_|refine gV (aC (v:=az aB (seen:Int)) aL.ty I (aI (i:=2) I I)) ?_|refine gV (bB I (Wp _)) ?_)
  refine gG 3 (cs':=#[av ak 0 0,az aB (seen:Int),az aB 0,.bool aD]) ?_;refine zL ?_
  try refine GA ?_
  exact fD (i:=3) I I I I I I λw hm=>hm.meets (S:=⟨λ_=>True,λx=> .tuple #[uj (av ak 0 0) (seen:Int) 0 aD,x,az aB 0],λx=>[jJ x o]⟩) v2 trivial [5] aln I
 ·rw[NO c]at hrn
  rw[FP c];refine aU (Ln aJ.en I I I I I) (λw hm=>hrn w hm.below) I I I ?_;rintro _ _;refine zL ?_
  repeat(first|refine GC ?_|refine gV (dc (b:=aD) I I (decide_eq_true c)) ?_|refine gV (aC (v:=az aB (seen:Int)) aL.ty I (aI (i:=2) I I)) ?_|refine gV (bB I (IA _ _)) ?_|refine GB ?_)
  refine gG 3 (cs':=#[av ak 0 0,az aB (seen:Int),az aB e,.bool aF]) ?_;refine zL ?_
  try refine GA ?_
  exact fD (i:=3) I I I I I I λw hm=>hm.meets (S:=⟨λ(_:Value)=>True,λ_=> .tuple #[uj (av ak 0 0) (seen:Int) e aF,av ak 0 0,az aB e],λ_=>[]⟩) (av ak 0 0) trivial [] aln I
theorem RL(h:Int)(w:World):(dg 149 #[(0,az aB h)]).run aE w= .ok (aQ #[az aB h,av ak 0 0]) w:=by
 go_simp
end bZ
namespace bZ
open Go.RowKit cL dQ aV
theorem gok{x:Int}(h:0<=x/\x<1000000000):cL.dV x:=by grind[cL.dV]
theorem y0{F:Nat->Prop}{vp:Value}{l:List aV.Prod}{w:World}{t n:Int}(ht:cL.dV t)(hn:cL.dV n)(h:(oz F vp l).holds w):kK (λk=>k<w.heap.size) w (dP t n vp) ⟨t,n,l⟩:=by
 obtain⟨⟨v',hv,h1⟩,h2⟩:=h;simp only[jA,and_true]at hv;subst hv;exact⟨vp,rfl,h1.mono h2,ht,hn⟩
end bZ
namespace eg
open dh gu
def npl:Re->Nat
 | .byte _=>1
 | .Jn a b=>npl a+npl b
 | .Jo a b=>npl a+npl b
 | .star a=>npl a
 |_=>0
inductive Ub(P:List Nat->Prop):List Nat->Prop
 |nil:Ub P []
 |cons {u v:List Nat}:P u->Ub P v->Ub P (u++v)
def Wd:Re->Nat->List Nat->Prop
 | .none,_,_=>False
 | .empty,_,l=>l=[]
 | .byte _,n,l=>l=[n]
 | .Jn a b,n,l=>∃u v,l=u++v/\Wd a n u/\Wd b (n+npl a) v
 | .Jo a b,n,l=>Wd a n l\/Wd b (n+npl a) l
 | .star a,n,l=>Ub (Wd a n) l
def Chn(F:Nat->Nat->Prop)(T:Nat->Prop):Nat->List Nat->Prop
 |x,[]=>T x
 |x,y::r=>F x y/\Chn F T y r
theorem Chn.mono{F F':Nat->Nat->Prop}{T T':Nat->Prop}(hF:∀x y,F x y->F' x y)(hT:∀x,T x->T' x):∀{l:List Nat} {x:Nat},Chn F T x l->Chn F' T' x l
 |[],_,h=>hT _ h
 |_::_,_,⟨h,h'⟩=>⟨hF _ _ h,Chn.mono hF hT h'⟩
theorem Chn.OS{F F':Nat->Nat->Prop}{T T':Nat->Prop}(hF:∀x y,F x y->F' x y){y:Nat}{r:List Nat}(hT:∀x,T x->F' x y)(hr:Chn F' T' y r):∀{l:List Nat} {x:Nat},Chn F T x l->Chn F' T' x (l++y::r)
 |[],_,h=>⟨hT _ h,hr⟩
 |_::_,_,⟨h,h'⟩=>⟨hF _ _ h,Chn.OS hF hT hr h'⟩
end eg
namespace dh
def one(x:C4):List C4:=if x=C4.zero then []else [x]
structure NW(S:List C4)(all:List C4):Prop where
 some:∀x∈all,x≠C4.zero
 apart:all.Pairwise λx y=>x.Yx y=C4.zero
 sum:(all.map Xb).sum=256
 whole:∀n,n<256->∃x∈all,x.mem n=aD
 each:∀c∈S,∀x∈all,x.Yx c=x\/x.Yx c=C4.zero
 told:all.Pairwise λx y=>∃c∈S,decide (x.Yx c=x)≠decide (y.Yx c=y)
theorem abp{x:C4}:x=C4.zero↔∀n,n<256->x.mem n=false:=
 ⟨λh n _=>by rw[h,LM],λh=>ext_mem λn hn=>by grind[LM]⟩
theorem abq{x:C4}(h:Xb x=0):x=C4.zero:=by
 have:yh x=[]:=mK h;refine abp.2 λn hn=>?_
 cases e:x.mem n with
 |false=>rfl
 |true=>exact absurd (UZ.2 ⟨hn,e⟩) (by simp_all)
theorem Uc:∀all:List C4,(∀x∈all,x≠C4.zero)->all.length<=(all.map Xb).sum
 |[],_=>bC _
 |x::all,h=>by
  have ih:=Uc all λy hy=>h y (by grind);have:Xb x≠0:=λe=>h x (by simp) (abq e);simp only[dj,ff,List.sum_cons];omega
theorem NW.len{S all:List C4}(h:NW S all):all.length<=256:=by
 have:=Uc all h.some;rw[h.sum]at this;exact this
theorem NW.more{S S' all:List C4}(h:NW S all)(h1:∀c,c∈S'->c∈S)(h2:∀c,c∈S->c∈S'):NW S' all:=
 ⟨h.some,h.apart,h.sum,h.whole,λc hc=>h.each c (h1 c hc),h.told.imp λ⟨c,hc,h⟩=>⟨c,h2 c hc,h⟩⟩
end dh
namespace mX
open dh gu eg cz
open bZ (lI eL xy Kk)
def NX(p:PS)(S:List C4)(all:C4)(b:Nat):Int:=if Kj p all b=C4.zero then-1 else((idx S (Kj p all b)+1:Nat):Int)
def wL(p:PS)(S:List C4)(all:C4)(b:Nat)(x:Int):Prop:=x=NX p S all b/\(Kj p all b=C4.zero\/Kj p all b∈S)
theorem wL.OS{p:PS}{S:List C4}{all:C4}{b:Nat}{x:Int}(h:wL p S all b x)(E:List C4):wL p (S++E) all b x:=by
 obtain⟨h1,h2⟩:=h;refine⟨?_,h2.imp id λh=>uE _ h⟩;rw[h1];unfold NX
 by_cases c:Kj p all b=C4.zero
 simp_all;rw[if_neg c,if_neg c,qE (h2.resolve_left c)]
def ru(p:PS)(t0:Int)(d:DM):Prop:=d.tags=t0::d.S.map (mX.oW p)
theorem Wv(p:PS)(t0:Int)(d:DM)(s:C4):(∃E,(jf p d s).2.S=d.S++E)/\s∈(jf p d s).2.S/\(jf p d s).1=idx (jf p d s).2.S s+1/\(ru p t0 d->ru p t0 (jf p d s).2):=by
 unfold jf
 by_cases c:s∈d.S
 simp_all
 rw[if_neg c];refine⟨⟨[s],rfl⟩,List.mem_append_right _ (eV.2 I),?_,λh=>?_⟩
 simp_all[idx,List.idxOf_append]
 show d.tags++[mX.oW p s]=t0::(d.S++[s]).map (mX.oW p)
 rw[h,eZ];rfl
theorem abr(p:PS)(t0:Int)(all:C4)(b:Nat)(hb:b<256)(r:Row)(d:DM):(∃E,(fZ p all b r d).2.S=d.S++E)/\(∀c (h:c<256),c≠b->(fZ p all b r d).1[c]=r[c])/\wL p (fZ p all b r d).2.S all b ((fZ p all b r d).1[b])/\(ru p t0 d->ru p t0 (fZ p all b r d).2):=by
 unfold fZ
 by_cases c:Kj p all b=C4.zero
 ·rw[if_pos c,dif_pos hb]
  refine⟨⟨[],(dY _).symm⟩,λc' h hc=>?_,⟨?_,.inl c⟩,id⟩;exact Vector.getElem_set_ne hb h (Ne.symm hc);rw[Vector.getElem_set_self hb];unfold NX;rw[if_pos c]
 rw[if_neg c,dif_pos hb];obtain⟨h1,h2,h3,h4⟩:=Wv p t0 d (Kj p all b);refine⟨h1,λc' h hc=>?_,⟨?_,.inr h2⟩,h4⟩
 grind
 simp_all[NX]
theorem Ud(p:PS)(t0:Int)(all:C4):∀(f b:Nat) (r:Row) (d:DM),b+f=256->(mY p all f b r d).2.S.length+1<=200->
 (∃E,(mY p all f b r d).2.S=d.S++E)/\(∀c (h:c<256),c<b->(mY p all f b r d).1[c]=r[c])/\(∀c (h:c<256),b<=c->wL p (mY p all f b r d).2.S all c ((mY p all f b r d).1[c]))/\(ru p t0 d->ru p t0 (mY p all f b r d).2)
 |0,b,r,d,hbf,_=>⟨⟨[],(dY _).symm⟩,λ_ _ _=>rfl,λc h hc=>by omega,id⟩
 | f +1,b,r,d,hbf,hl=>by
  obtain⟨⟨E1,h1⟩,h2,h3,h4⟩:=abr p t0 all b J r d;have e:mY p all (f+1) b r d=if 200<(fZ p all b r d).2.S.length+1 then fZ p all b r d else mY p all f (b+1) (fZ p all b r d).1 (fZ p all b r d).2:=rfl
  rw[e]at hl⊢
  by_cases c:200<(fZ p all b r d).2.S.length+1
  grind;rw[if_neg c]at hl⊢;obtain⟨⟨E2,q1⟩,q2,q3,q4⟩:=Ud p t0 all f (b+1) _ _ J hl;refine⟨⟨E1++E2,by simp_all⟩,λc' h hc=>?_,λc' h hc=>?_,λh=>q4 (h4 h)⟩;rw[q2 c' h J,h2 c' h J]
  by_cases ec:c'=b
  ·subst ec
   rw[q2 c' h J,q1];exact h3.OS E2
  grind
theorem IE(m:MS)(S E:List C4){n:Nat}(h:n<=S.length):ni m (S++E) n=ni m S n:=by
 cases n with
 |zero=>rfl
 |succ n=>
  show nL m.ps ((S++E).getD n C4.zero) _=nL m.ps (S.getD n C4.zero) _
  grind
structure MkI(m:MS)(t0:Int)(n:Nat)(R:List Row)(d:DM):Prop where
 len:R.length=n
 le:n<=d.S.length+1
 tY:d.S.length+1<=200
 cell:∀q,q<n->∀c (h:c<256),wL m.ps d.S (ni m d.S q) c ((R.getD q xy)[c])
 tags:ru m.ps t0 d
theorem NY(m:MS)(t0:Int):∀(f n:Nat) (R:List Row) (d:DM) (R':List Row) (d':DM),tk m f n R d=aj (R',d')->MkI m t0 n R d->MkI m t0 (d'.S.length+1) R' d'
 |0,_,_,_,_,_,h,_=>by cases h
 | f + 1,n,R,d,R',d',h,hi=>by
  have e:tk m (f+1) n R d=if n<d.S.length+1 then(if 200<(qy m n d).2.S.length+1 then ak else tk m f (n+1) (R++[(qy m n d).1]) (qy m n d).2)else aj (R,d):=rfl
  rw[e]at h
  by_cases c1:n<d.S.length+1
  ·rw[if_pos c1]at h
   by_cases c2:200<(qy m n d).2.S.length+1
   simp_all;rw[if_neg c2]at h;refine NY m t0 f (n+1) _ _ R' d' h ?_;obtain⟨⟨E,q1⟩,_,q3,q4⟩:=Ud m.ps t0 (ni m d.S n) 256 0 (eC 256 0) d rfl (by simp_all[qy]);have q1:(qy m n d).2.S=d.S++E:=q1;have q3:∀c (h:c<256),0<=c->wL m.ps (qy m n d).2.S (ni m d.S n) c ((qy m n d).1[c]):=q3;have hlen:=congrArg yU q1;rw[bK]at hlen;refine⟨by rw[bK,hi.len];rfl,by omega,by omega,λq hq c hc=>?_,q4 hi.tags⟩
   by_cases eq:q=n
   ·subst eq
    rw[sT (by rw[hi.len];exact bC _),hi.len,Be];show wL m.ps (qy m q d).2.S (ni m (qy m q d).2.S q) c ((qy m q d).1[c])
    rw[q1,IE m d.S E J,<-q1];exact q3 c hc (bH _)
   rw[lC (by rw[hi.len];omega),q1,IE m d.S E J];exact(hi.cell q J c hc).OS E
  rw[if_neg c1]at h;simp only[dL,jX]at h;obtain⟨rfl,rfl⟩:=h;have:n=d.S.length+1:=by have:=hi.le;omega
  simp_all
theorem BP{m:MS}{R:List Row}{d:DM}(h:wx m=aj (R,d)):MkI m (gC m.empty 0) (d.S.length+1) R d:=
 NY m (gC m.empty 0) 201 0 [] ⟨[],[gC m.empty 0]⟩ R d h ⟨rfl,bH _,by simp,λq hq=>absurd hq (ow q),rfl⟩
theorem abt(R:List Row)(q c:Nat)(h:c<256):((R.getD q xy).toList.getD c 0)=(R.getD q xy)[c]:=by
 simp_all
theorem KG{p:PS}{n:Nat}(hr:∀r∈p.rules,0<=r/\r<n)(hl:p.rules.length=p.bm.length)(s:C4):∀k,k<=p.bm.length->(mC p s k= -1/\∀i,i<k->s.mem i=aD->p.last.getD i aF=aD->False)\/(∃i,i<k/\s.mem i=aD/\p.last.getD i aF=aD/\mC p s k=p.rules.getD i 0/\0<=mC p s k/\mC p s k<n/\∀i,i<k->s.mem i=aD->p.last.getD i aF=aD->mC p s k<=p.rules.getD i 0)
 |0,_=> .inl ⟨rfl,λi hi=>absurd hi (ow i)⟩
 | k +1,hk=>by
  have YR:0<=p.rules.getD k 0/\p.rules.getD k 0<n:=by
   grind[cH]
  have e:mC p s (k+1)=if s.mem k=aD/\p.last.getD k aF=aD/\(mC p s k<0\/p.rules.getD k 0<mC p s k)then p.rules.getD k 0 else mC p s k:=rfl
  rw[e];have ih:=KG hr hl s k J
  grind
theorem FQ:∀(l:List Bool) (k:Nat),(gC l k= -1/\∀i,i<l.length->l.getD i aF=aF)\/(∃i,i<l.length/\gC l k=((k+i:Nat):Int)/\l.getD i aF=aD/\∀j,j<i->l.getD j aF=aF)
 |[],_=> .inl ⟨rfl,λ_ _=>rfl⟩
 |true::l,k=> .inr ⟨0,Nat.zero_lt_succ _,rfl,rfl,λj hj=>absurd hj (ow j)⟩
 |false::l,k=>by
  have e:gC (false::l) (k:Int)=gC l ((k+1:Nat):Int):=rfl;rw[e];rcases FQ l (k+1)with⟨h1,h2⟩|⟨i,h1,h2,h3,h4⟩
  grind
  refine .inr ⟨i+1,by simp_all,by omega,h3,λj hj=>?_⟩
  cases j with
  |zero=>rfl
  |succ j=>simp_all
theorem IF{l:List Bool}: -1<=gC l 0/\gC l 0<(l.length:Int):=by
 rcases FQ l 0 with⟨h1,_⟩|⟨i,h1,h2,_⟩
 grind
 simp_all
section
variable{es:List Re}{m:MS}{R:List Row}{d:DM}
theorem aea(hm:J_ m)(hi:MkI m (gC m.empty 0) (d.S.length+1) R d){k:Nat}(hk:k<d.S.length+1):d.tags.getD k 0=(if h:k=0 then gC m.empty 0 else mX.oW m.ps (d.S[k-1]' J))/\ -1<=d.tags.getD k 0/\d.tags.getD k 0<20:=by
 have h:=hi.tags;unfold ru at h;rw[h];have h20:=hm.ri
 cases k with
 |zero=>
  have:=IF (l:=m.empty);refine⟨rfl,this.1,?_⟩;have e:(gC m.empty 0::d.S.map (mX.oW m.ps)).getD 0 0=gC m.empty 0:=rfl;rw[e];omega
 | succ k=>
  have hk:k<d.S.length:=by omega
  have e:(gC m.empty 0::d.S.map (mX.oW m.ps)).getD (k+1) 0=mX.oW m.ps d.S[k]:=by
   simp_all
  rw[e];refine⟨rfl,?_⟩;unfold mX.oW;rcases KG hm.rules hm.ok.ps.rules d.S[k] m.ps.bm.length (bC _)with⟨h1,_⟩|⟨_,_,_,_,_,h1,h2,_⟩
  omega;omega
theorem abu(hm:J_ m)(hi:MkI m (gC m.empty 0) (d.S.length+1) R d):lI R d.tags=0:=by
 have hl:=hi.len;have hf:=hi.tY;refine Kk ⟨?_,?_,λq hq b hb=>?_,λq hq=>?_⟩ ?_;show 0<R.length;omega
 show R.length<=200;omega
 ·have hq:q<R.length:=hq
  show-1<=(R.getD q xy).toList.getD b 0/\(R.getD q xy).toList.getD b 0<(R.length:Int)
  rw[abt R q b hb,(hi.cell q J b hb).1];unfold NX
  by_cases c:Kj m.ps (ni m d.S q) b=C4.zero
  grind;rw[if_neg c];have:=nC ((hi.cell q J b hb).2.resolve_left c);omega
 ·have hq:q<R.length:=hq
  exact(aea hm hi J).2
 have h:=hi.tags;unfold ru at h;rw[h,hl,dj,eI]
end
end mX
namespace bZ
open Go.RowKit cL dQ zy cz
def fZ(R:List Row)(i b:Nat):Int:=(R.getD i xy).toList.getD b 0
theorem sf{R:List Row}{i b:Nat}(h:i<R.length)(hb:b<256):fZ R i b=(R[i])[b]:=Nq (tags:=[]) h hb
def G8(R:List Row)(b k:Nat):Dr:=rf λi:Fin 200=>if i<k then fZ R i b else 0
def sg(R:List Row)(b:Nat):Dr:=G8 R b R.length
theorem agU(R:List Row)(b:Nat):G8 R b 0=eC 200 0:=by
 refine kN λi hi=>?_;unfold G8;simp
theorem abv(R:List Row)(b k:Nat)(h:k<200):(G8 R b k).set k (fZ R k b)=G8 R b (k+1):=by
 refine kN λi hi=>?_;unfold G8;rw[wj,kM,kM];split
 ·rename_i e;subst e;simp
 have:i<k↔i<k+1:=by omega
 simp only[this]
theorem aeb(c:Dr){i:Nat}(h:i<200)(x:Int):(yT c).toArray.setIfInBounds i (.int .i16 x)=(yT (c.set i x)).toArray:=by
 simp[yT,aaR]
theorem abw:(dl 200 (az .i16 0)).toArray=(yT (eC 200 0)).toArray:=by
 unfold yT;rw[Ro,Rm]
theorem FR(R:List Row)(b i:Nat)(h:i<R.length)(h2:R.length<=200):(sg R b).toList.getD i 0=fZ R i b:=by
 unfold sg G8;rw[de,bM (by grind),jD,BH,kM];simp[h]
theorem aec{R:List Row}(hr:∀r∈R,∀x∈r.toList,-32768<=x/\x<=32767){b:Nat}(hb:b<256):aaD (sg R b):=by
 intro i hi;unfold sg G8;rw[kM];split
 ·rename_i h
  rw[sf h hb];exact hr R[i] (cH h) _ (by simp)
 omega
def nM(R:List Row)(k:Nat):List Dr:=dU [] ((eA k).map (sg R))
theorem Aq(R:List Row)(k:Nat):nM R (k+1)=more (nM R k) (sg R k):=by
 simp[nM,yw,lg]
theorem Ue{R:List Row}{k:Nat}(h:sg R k∈nM R k):nM R (k+1)=nM R k:=by
 rw[Aq];exact if_pos h
theorem Uf{R:List Row}{k:Nat}(h:sg R k∉nM R k):nM R (k+1)=nM R k++[sg R k]:=by
 rw[Aq];exact if_neg h
theorem Dw(R:List Row):∀k,(nM R k).length<=k
 |0=>bC _
 |k+1=>by
  have:=Dw R k
  by_cases c:sg R k∈nM R k
  grind[Ue];rw[Uf c,bK,kO];omega
theorem Ug(R:List Row)(k:Nat):∀j,k<=j->∃E,nM R j=nM R k++E
 |0,h=>⟨[],by simp_all⟩
 | j+1,h=>by
  by_cases c:k=j+1
  simp_all;obtain⟨E,hE⟩:=Ug R k j J;obtain⟨E',hE'⟩:=Ec (nM R j) (sg R j);exact⟨E++E',by rw[Aq,hE',hE,eY]⟩
theorem Dx(R:List Row){b k:Nat}(h:b<k):sg R b∈nM R k:=lh.2 (.inr (fG.2 ⟨b,by simp_all,rfl⟩))
def pkN(R:List Row)(b:Nat):Nat:=idx (nM R 256) (sg R b)
theorem agV{R:List Row}{k:Nat}(h:k<256):pkN R k=if sg R k∈nM R k then idx (nM R k) (sg R k)else(nM R k).length:=by
 obtain⟨E,hE⟩:=Ug R (k+1) 256 J;unfold pkN;rw[hE,qE (Dx R (tr k)),Aq,rJ]
 simp
theorem abx(R:List Row){b:Nat}(h:b<256):pkN R b<(nM R 256).length:=nC (Dx R h)
theorem Uh(R:List Row){b:Nat}(h:b<256):pkN R b<256:=Nat.lt_of_lt_of_le (abx R h) (Dw R 256)
abbrev Of:=Vector Nat 256
def wM(R:List Row)(k:Nat):Of:=rf λb:Fin 256=>if b<k then pkN R b else 0
theorem afl(R:List Row):wM R 0=eC 256 0:=by
 refine kN λi hi=>?_;unfold wM;simp
theorem aed(R:List Row)(k:Nat)(h:k<256):(wM R k).set k (pkN R k)=wM R (k+1):=by
 refine kN λi hi=>?_;unfold wM;rw[wj,kM,kM];split
 ·rename_i e;subst e;simp
 have:i<k↔i<k+1:=by omega
 simp only[this]
def AP(D:List Dr)(i:Nat):List Int:=D.map λc=>c.toList.getD i 0
def RM(R:List Row):List (List Int):=(eA R.length).map (AP (nM R 256))
def ey(o:Of)(vn vt:Value):List Value:=o.toList.map (λn:Nat=> .int .u8 (n:Int))++[vn,vt]
def C3(o:Of)(vn vt:Value):Value:=aQ (ey o vn vt).toArray
theorem fh(o:Of)(vn vt:Value):(ey o vn vt).length=258:=by simp[ey]
theorem il(o:Of)(vn vt:Value):(ey o vn vt).toArray.size=258:=by rw[eM,fh]
theorem ajb(o:Of)(vn vt:Value){b:Nat}(h:b<256):(ey o vn vt).toArray[b]?=aj (.int .u8 (o[b]:Int)):=by
 simp_all[ey,mg]
theorem lG(o:Of)(vn vt:Value):(ey o vn vt).toArray[256]?=aj vn:=by
 simp[ey]
theorem mb(o:Of)(vn vt:Value):(ey o vn vt).toArray[257]?=aj vt:=by
 simp[ey]
theorem y6(o:Of){vn vt:Value}(h1:vn.oneCell'=aD)(h2:vt.oneCell'=aD):(ey o vn vt).toArray.toList.all ft=true:=by
 refine pq.2 λu hu=>?_;unfold ey at hu;simp only[gj,fG,dM,fz,or_false]at hu;rcases hu with⟨n,_,rfl⟩|rfl|rfl
 rfl;exact h1;exact h2
theorem agW(o:Of)(vn vt:Value){b:Nat}(h:b<256)(x:Nat):(ey o vn vt).toArray.setIfInBounds b (.int .u8 (x:Int))=(ey (o.set b x) vn vt).toArray:=by
 simp_all[ey,aaR]
theorem KH:(dl 256 (az .u8 0)++([av ak 0 0,av ak 0 0]:List Value)).toArray=(ey (eC 256 0) (av ak 0 0) (av ak 0 0)).toArray:=by
 unfold ey;rw[Ro,Rm];rfl
theorem Ww(w:World):(dg 30 #[]).run aE w= .ok (C3 (eC 256 0) (av ak 0 0) (av ak 0 0)) w:=by kernel_rfl
theorem NZ(g h n m cap:Nat)(w:World):(dg 30 #[(1,av (aj ⟨g,0,ak⟩) n n),(2,av (aj ⟨h,0,ak⟩) m cap)]).run aE w= .ok (C3 (eC 256 0) (av (aj ⟨g,0,ak⟩) n n) (av (aj ⟨h,0,ak⟩) m cap)) w:=by kernel_rfl
end bZ
namespace fY
open dh gu
open aV (dw Prod ep)
abbrev N2:=Bs->Option dw
def G9(m:N2)(x:Bs)(s:dw):N2:=λy=>if y=x then aj s else m y
abbrev WS:=List Int×Int×N2
def jI(s:WS)(w:Wd):WS:=if w.1=[]then(s.1++[-1],s.2)else(s.1++[s.2.1],s.2.1+1,G9 s.2.2 w.1 (1,s.2.1))
abbrev HS:=Int×N2
def tS(s:HS)(r:Rl):HS:=if(s.2 r.1).isSome then s else(s.1+1,G9 s.2 r.1 (2,s.1))
def qz(m:N2)(x:Bs):dw:=(m x).getD (0,0)
def Ar(m:N2)(r:Rl):Prod:=((qz m r.1).2,r.2.map (qz m))
def ws0:WS:=([],0,λ_=>ak)
def KI(l:List Wd):WS:=l.foldl jI ws0
def hsN(s:Sp):HS:=s.rules.foldl tS (0,(KI s.words).2.2)
def da(s:Sp):ep:=⟨(KI s.words).2.1,(hsN s).1,s.rules.map (Ar (hsN s).2)⟩
def wN(s:Sp):Int:=if aV.cC (da s)≠0 then 2 else 0
def Small(m:N2):Prop:=∀y s,m y=aj s->0<=s.1/\s.1<=2/\0<=s.2/\s.2<=1000
theorem Wy:Small λ_=>none:=λ_ _ h=>by cases h
theorem IG{m:N2}(h:Small m){x:Bs}{s:dw}(h1:0<=s.1/\s.1<=2/\0<=s.2/\s.2<=1000):Small (G9 m x s):=λy z hz=>by
 unfold G9 at hz;split at hz
 simp_all
 exact h y z hz
theorem II{m:N2}(h:Small m)(x:Bs):0<=(qz m x).1/\(qz m x).1<=2/\0<=(qz m x).2/\(qz m x).2<=1000:=by
 unfold qz
 cases hx:m x with
 |none=>simp
 |some s=>exact h x s hx
theorem step_take{α σ:Type}(f:σ->α->σ)(s:σ)(l:List α){k:Nat}(h:k<l.length):(l.take (k+1)).foldl f s=f ((l.take k).foldl f s) l[k]:=by
 rw[gv h,List.foldl_append];rfl
theorem aby(s:WS)(w:Wd)(k:Nat)(h:k<60)(a1:s.1.length=k)(a2:0<=s.2.1)(a3:s.2.1<=k)(a4:Small s.2.2):
 (jI s w).1.length=k+1/\0<=(jI s w).2.1/\(jI s w).2.1<=((k+1:Nat):Int)/\Small (jI s w).2.2:=by
 unfold jI;split
 grind
 ·exact⟨by simp_all,by grind,by simp_all,IG a4 ⟨(by decide:(0:Int)<=1),(by decide:(1:Int)<=2),a2,by omega⟩⟩
theorem abz(l:List Wd):∀k,k<=l.length->k<=60->((l.take k).foldl jI ws0).1.length=k/\0<=((l.take k).foldl jI ws0).2.1/\((l.take k).foldl jI ws0).2.1<=k/\Small ((l.take k).foldl jI ws0).2.2
 |0,_,_=>⟨rfl,lm _,lm _,Wy⟩
 |k+1,h,h60=>by
  obtain⟨a1,a2,a3,a4⟩:=abz l k J J;rw[step_take _ _ _ (show k<l.length by omega)];exact aby _ _ k J a1 a2 a3 a4
theorem abA(s:HS)(r:Rl)(k:Nat)(h:k<60)(a2:0<=s.1)(a3:s.1<=k)(a4:Small s.2):
 0<=(tS s r).1/\(tS s r).1<=((k+1:Nat):Int)/\Small (tS s r).2:=by
 grind[tS,IG]
theorem afm(l:List Rl)(m:N2)(hm:Small m):∀k,k<=l.length->k<=60->0<=((l.take k).foldl tS (0,m)).1/\((l.take k).foldl tS (0,m)).1<=k/\Small ((l.take k).foldl tS (0,m)).2
 |0,_,_=>⟨lm _,lm _,hm⟩
 |k+1,h,h60=>by
  obtain⟨a2,a3,a4⟩:=afm l m hm k J J;rw[step_take _ _ _ (show k<l.length by omega)];exact abA _ _ k J a2 a3 a4
end fY
namespace bZ
open Go.RowKit cL dQ fY
def gZ(vo:Value)(pk tl:List Value):List Value:=vo::(pk++tl)
def eD(t n:Int)(vp:Value)(mode:Int)(rows dN gt:Value):List Value:=[az aB t,az aB n,vp,az aB mode,rows,dN,gt]
def Xp:List Value:=ey (eC 256 0) (av ak 0 0) (av ak 0 0)
theorem jr:Xp.length=258:=fh _ _ _
def Gx:List Value:=gZ (av ak 0 0) Xp (eD 0 0 (av ak 0 0) 0 (av ak 0 0) (av ak 0 0) (av ak 0 0))
theorem tB:(([av ak 0 0]:List Value)++dl 256 (az .u8 0)++([av ak 0 0,av ak 0 0,az aB 0,az aB 0,av ak 0 0,az aB 0,av ak 0 0,av ak 0 0,av ak 0 0]:List Value)).toArray=Gx.toArray:=by
 have e:∀z:List Value,(([av ak 0 0]:List Value)++z++([av ak 0 0,av ak 0 0,iV 0,iV 0,av ak 0 0,iV 0,av ak 0 0,av ak 0 0,av ak 0 0]:List Value)).toArray=((av ak 0 0:Value)::((z++[av ak 0 0,av ak 0 0])++eD 0 0 (av ak 0 0) 0 (av ak 0 0) (av ak 0 0) (av ak 0 0))).toArray:=λz=>by simp[eD]
 unfold Gx gZ Xp ey;rw[Ro,Rm];exact e _
theorem Wz(w:World):(dg 38 #[]).run aE w= .ok (aQ Gx.toArray) w:=by
 rw[<-tB];kernel_rfl
theorem im{vo:Value}{pk tl:List Value}(j:Nat)(hp:pk.length=258){k:Nat}{v:Value}(h:tl[j]?=aj v)(hk:k=j+259):(gZ vo pk tl).toArray[k]?=aj v:=by
 simp_all[gZ,x6]
theorem agX{vo:Value}{pk tl:List Value}(j:Nat)(hp:pk.length=258){k:Nat}(v:Value)(hk:k=j+259):(gZ vo pk tl).toArray.setIfInBounds k v=(gZ vo pk (tl.set j v)).toArray:=by
 simp_all[gZ]
theorem i_{vo:Value}{pk tl:List Value}(hp:pk.length=258)(ht:tl.length=7):(gZ vo pk tl).toArray.size=266:=by
 grind[gZ]
theorem wO{vo:Value}{pk tl:List Value}(h1:vo.oneCell'=aD)(h2:pk.all ft=aD)(h3:tl.all ft=aD):(gZ vo pk tl).toArray.toList.all ft=true:=by
 simp_all[gZ]
theorem Ui:Xp.all ft=true:=by
 have:=y6 (eC 256 0) (vn:=av ak 0 0) (vt:=av ak 0 0) I I
 simpa[Xp]using this
theorem tC{vo:Value}{pk:List Value}(hp:pk.length=258){t n mode:Int}{vp rows dN gt v:Value}{j:Nat}(h:[az aB t,az aB n,vp][j]?=aj v):(gZ vo pk (eD t n vp mode rows dN gt)).toArray[0+259+j]?=aj v:=by
 match j,h with
 |0,h=>exact im 0 hp h I
 |1,h=>exact im 1 hp h I
 |2,h=>exact im 2 hp h I
 |n+3,h=>cases h
section
variable{P:Program}{n:Nat}{W:bP}{fr:Fr}{L:List b9}{Q:Exit->Act->World->Prop}{ops:Array Oper}{rest:List Oper}{ty:TypeId}{pos:String}{after:Array Edge}{t:TypeId}{p x:Operand}{i g k:Nat}{vo:Value}{pk tl:List Value}{T:TypeId}{agg:Bool}{v:Value}
theorem ef(j:Nat)[hT:aL P t agg 1](hi:L[i]?=aj (aR g (gZ vo pk tl).toArray T))(hp:ev fr p=aj (aK (aj ⟨g,k,ak⟩)))(hx:ev fr x=aj v)(hv:v.cells=#[v])(h1:v.oneCell'=aD)(hk:k=j+259)(dE:pk.length=258)(hj:dq j tl.length=aD)
 (h:TL P n W ops Q rest fr (L.set i (aR g (gZ vo pk (tl.set j v)).toArray T))):TL P n W ops Q (⟨ak,.store t p x,ty,pos,after,ak⟩::rest) fr L:=by
 have hj:j<tl.length:=Nat.le_of_ble_eq_true hj;refine bJ hi hp hx hv h1 ?_ ?_
 ·rw[eM,gZ,dj,bK]
  exact Nat.ble_eq_true_of_le J
 grind[agX]
theorem y7[hT:aL P t agg 1](hi:L[i]?=aj (aR g (gZ vo pk tl).toArray T))(hp:ev fr p=aj (aK (aj ⟨g,k,ak⟩)))(hx:ev fr x=aj v)(hv:v.cells=#[v])(h1:v.oneCell'=aD)(hk:k=0)
 (h:TL P n W ops Q rest fr (L.set i (aR g (gZ v pk tl).toArray T))):TL P n W ops Q (⟨ak,.store t p x,ty,pos,after,ak⟩::rest) fr L:=by
 subst hk;exact bJ hi hp hx hv h1 I<|h
theorem RN{pk':List Value}[hT:aL P t agg 258](hi:L[i]?=aj (aR g (gZ vo pk tl).toArray T))(hp:ev fr p=aj (aK (aj ⟨g,k,ak⟩)))(hx:ev fr x=aj (aQ pk'.toArray))(h1:pk'.all ft=aD)(hk:k=1)(dE:pk.length=258)(ali:pk'.length=258)
 (h:TL P n W ops Q rest fr (L.set i (aR g (gZ vo pk' tl).toArray T))):TL P n W ops Q (⟨ak,.store t p x,ty,pos,after,ak⟩::rest) fr L:=by
 subst hk;refine uL hT.ty hi hp hx (by simp_all[tp]) (by simp_all[tp]) (by grind[gZ]) ?_ h;apply aaI;show vo::(pk'++tl)=aaO 1 (vo::(pk++tl))++pk'++aaP (1+258) (vo::(pk++tl))
 simp_all
theorem RO{a b c d e f f' u u':Value}[hT:aL P t agg 2](hi:L[i]?=aj (aR g (gZ vo pk [a,b,c,d,e,f,f']).toArray T))(hp:ev fr p=aj (aK (aj ⟨g,k,ak⟩)))(hx:ev fr x=aj (aQ #[u,u']))(h1:u.oneCell'=aD)(h2:u'.oneCell'=aD)(hk:k=264)(dE:pk.length=258)
 (h:TL P n W ops Q rest fr (L.set i (aR g (gZ vo pk [a,b,c,d,e,u,u']).toArray T))):TL P n W ops Q (⟨ak,.store t p x,ty,pos,after,ak⟩::rest) fr L:=by
 subst hk;refine uL hT.ty hi hp hx I (by grind[tp]) (by simp_all[gZ]) ?_ h;apply aaI;show vo::(pk++[a,b,c,d,e,u,u'])=aaO (263+1) (vo::(pk++[a,b,c,d,e,f,f']))++[u,u']++aaP (265+1) (vo::(pk++[a,b,c,d,e,f,f']))
 simp_all[List.take_append,gT]
end
end bZ
end Go.Proofs.YthmakbpkkoeabaaGreat

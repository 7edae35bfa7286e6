/- Part 6 of what SessionWholeUpto needs: SeQ, FeedN, SeU, SeV, ActK, SeC, WhM, Fill, WhR, SeD, SeW, SeX, SeSat, RestE, FrameP, SeDa, SpecLst, SpecOneL, SeY, LxRl, WhE, WhO, SessionWholeW, OpenU, SessionWholeU. -/
import Derived.Test.YthmakbpkkoeabaaGreatMgE
namespace Go.Proofs.YthmakbpkkoeabaaGreat
set_option linter.unusedVariables false
set_option linter.unusedSimpArgs false
open _root_.Array renaming getElem?_eq_some_iff->kC
open _root_.Bool renaming false->aF,true->aD
open _root_.Decidable renaming of_not_not->tD
open _root_.Go.Instr renaming build->dg,fill->jv,makeInterface->ab8
open _root_.Go.IntKind renaming i64->aB
open _root_.Go.Made renaming depth->ab9
open _root_.Go.Op renaming intDiv->Si
open _root_.Go.Proofs.Tryz renaming prog->aE
open _root_.Go.Value renaming slice->av,int->az,pointer->aK,agg->aQ,oneCell'->ft,cells->tp
open _root_.Go.Value.agg renaming injEq->lT
open _root_.Go.Value.slice renaming injEq->jN
open _root_.Int renaming emod_lt_of_pos->ab_,tmod_eq_emod->aca,emod_nonneg->acb
open _root_.List renaming getElem?_eq_getElem->bM,length_append->bK,getD_eq_getElem?_getD->de,getElem_mem->cH,length_cons->dj,all_cons->c_,drop_eq_getElem_cons->eH,replicate->dl,all_nil->db,take_succ_eq_append_getElem->gv,append_nil->dY,mem_cons->dM,append_assoc->eY,take_of_length_le->gT,map_append->eZ,nil_append->e7,drop_of_length_le->jx,not_mem_nil->fz,length_singleton->kO,length_drop->iT,map_cons->ff,length_nil->iv,mem_iff_getElem->iC,cons_append->kD,flatten_append->qc,take_append_drop->om,getElem?_toArray->oE,length_take->jz,take_length->mW,map_nil->lL,setIfInBounds_toArray->uC,any_eq_false->y8,take_zero->uD,flatten_singleton->Sj,mem_flatMap->vd,drop_zero->wh,set_append->Sk,length_replicate->acd,flatMap_nil->ace,drop_append->acf
open _root_.List.cons renaming injEq->jA
open _root_.Nat renaming le_refl->bC,zero_le->bH,zero_add->cX,le_of_ble_eq_true->nu,add_assoc->kF,add_zero->lO,succ_le_succ->Sm,zero_mul->A1,sub_zero->E0,succ_pos->E3
open _root_.Option renaming some->aj,none->ak,getD_some->jD
open _root_.Option.some renaming injEq->dL
open _root_.Prod renaming snd->BQ
set_option maxHeartbeats 16000000
namespace bZ
open Go.RowKit cL dQ aV dO eX fY gX bI ib f_
open ia (Ev qM takeN G0 Kh oF yS Iq)
theorem xi{v:Value}{a b:Int}(h:v.oneCell'=aD):([v,az aB a,az aB b]:List Value).all ft=true:=by
 simp only[c_,db,h];rfl
theorem K7{w:World}{e:TypeId}{c n:Nat}{v:Value}{xs:List Value}(h:(a_ e c v n xs).holds w):∃a k,v=av a n k:=by
 rcases h.2 with⟨rfl,rfl⟩|⟨g,cap,kU,rfl,_⟩
 simp;exact⟨_,_,rfl⟩
theorem Uz{w:World}{v:Value}{l:List Ev}(h:(jJ v l).holds w):Sl w v l.length (l.flatMap rr):=Sl.dx h
theorem ahi{a l:List Ev}{c g:Int}(h0:ia.cC a c g=0)(h1:l.any qM=aF)(h2:a.length+l.length<=4200):G0 a c g l=0:=by
 simp_all[G0,if_neg]
section
variable{g:Nat}{vo:Value}{pk md:List Value}{vt vw:Value}{pc:List Value}(dE:pk.length=258)(oY:md.length=7)(xB:pc.length=8)
include dE oY xB
set_option maxRecDepth 100000 in
theorem o7(s:fx)(vl:Value)(l:List Ev)(hg:ia.cC s.wait s.cr s.gone=0)(hl:l.any qM=aF)(hn:s.wait.length+l.length<=4200)(w:World)(B:bP)(hm:Mem B [qQ g vo pk md s vt pc vw,jJ vw s.wait,jJ vl l] w):
 Calls aE 99 #[aK (aj ⟨g,0,ak⟩),vl] w (cZ ⟨λ_=>True,λ_=> .tuple #[],λK4=>xC g vo pk md {s with wait:=s.wait++l} vt pc K4⟩ B):=by
 have M3:=λw' (h1:(jJ vw s.wait).holds w') (h2:(jJ vl l).holds w')=>Ru vw s.wait s.cr s.gone vl l w' (Uz h1) J (Uz h2);have hp:=ahi hg hl hn;have Xf:Kh s.wait s.cr s.gone l=s.wait++l:=by unfold Kh;rw[if_pos hp]
 rw[hp,Xf]at M3;obtain⟨m0,m1,m2,m3,m4,m5,m6,rfl⟩:=AE oY;obtain⟨p0,p1,p2,p3,p4,p5,p6,p7,rfl⟩:=AF xB;refine du hm (args:=[aK (aj ⟨g,0,ak⟩),vl]) (n:=16) Tryz.func99 I I I ?_
 repeat(first|refine GA ?_|refine gV (aY (cs:=[vw,az aB s.cr,az aB s.gone]) aL.ty I I (λj v h=>aI (i:=0) I (e9 26 dE I h J))) ?_)
 refine aU (fC aJ.en I I I) (λw' hm=>M3 w' (hm.get (i:=1) I) (hm.get (i:=2) I)) I I I ?_;intro v1 _
 conv=>arg 8;simp only[zJ,cD,ret,id_eq,Rt,cD]
 conv=>arg 7;simp only[Rt,cD,Ak]
 try refine GA ?_
 refine aX (i:=3) I λ_ ju=>eO (i:=0) 26 (cs:=[v1,az aB s.cr,az aB s.gone]) I I I (xi ju) I I dE I I ?_;refine zL ?_
 try refine GA ?_
 exact lR I λw hm=>hm.b_ (S:=⟨λ_=>True,λ_=> .tuple #[],λK4=>xC g vo pk [m0,m1,m2,m3,m4,m5,m6] {s with wait:=s.wait++l} vt [p0,p1,p2,p3,p4,p5,p6,p7] K4⟩) v1 trivial [0,3] aln rfl
set_option maxRecDepth 100000 in
theorem Hf(s:fx)(n:Int)(hg:ia.cC s.wait s.cr s.gone=0)(w:World)(B:bP)(hm:Mem B (xC g vo pk md s vt pc vw) w):
 Calls aE 12 #[aK (aj ⟨g,0,ak⟩),az aB n] w (cZ (C5 g vo pk md (tF s n) vt pc) B):=by
 obtain⟨k1,k2,k3,k4,k5,-⟩:=ia.cU hg;have NM:=λw' (h1:(jJ vw s.wait).holds w')=>Ku vw s.wait s.cr s.gone n w' (Uz h1) J;obtain⟨m0,m1,m2,m3,m4,m5,m6,rfl⟩:=AE oY;obtain⟨p0,p1,p2,p3,p4,p5,p6,p7,rfl⟩:=AF xB;obtain⟨aw,cw,rfl⟩:=K7 (hm.get (i:=1) rfl);unfold tF
 by_cases c1:s.over=aD/\s.wait=[]
 ·rw[if_pos c1]
  obtain⟨c1,c2⟩:=c1;have c3:s.wait.length=0:=by rw[c2];rfl
  refine du hm (args:=[aK (aj ⟨g,0,ak⟩),az aB n]) (n:=31) Tryz.func12 I I I ?_
  repeat(first|refine GA ?_|refine gV (aC (v:= .bool aD) aL.ty I (aI (i:=0) I (fB dE I (by rw[<-c1];rfl)))) ?_|refine gV (aC aL.ty I (aI (i:=0) I (fB dE I I))) ?_)
  exact cJ I I λw hm=>hm.b_ (S:=C5 g vo pk [m0,m1,m2,m3,m4,m5,m6] (s,15) vt [p0,p1,p2,p3,p4,p5,p6,p7]) _ trivial [0,1] aln I
 rw[if_neg c1];have aft:∀(S:Spec Value) (e c':Int),(∀v,S.ok v)->(∀v,S.val v=az aB e)->(∀v,S.own v=xC g vo pk [m0,m1,m2,m3,m4,m5,m6] {s with cr:=c'} vt [p0,p1,p2,p3,p4,p5,p6,p7] v)->yS s.wait s.cr s.gone n=c'->oF s.wait s.cr s.gone n=e->Calls aE 12 #[aK (aj ⟨g,0,ak⟩),az aB n] w (cZ S B):=by
  intro S e c' s1 s2 s3 e1 e2;rw[e1,e2]at NM;have jb:∀v1 L w,L[0]?=aj (qQ g vo pk [m0,m1,m2,m3,m4,m5,m6] {s with cr:=c'} vt [p0,p1,p2,p3,p4,p5,p6,p7] v1)->L[2]?=aj (jJ v1 s.wait)->Mem B L w->cZ S B (.returned (az aB e)) w:=λv1 L w h0 h2 hm=>by
   rw[<-s2 v1];exact hm.b_ v1 (s1 _) [0,2] aln (by rw[s3];simp only[List.filterMap_cons,List.filterMap_nil,h0,h2])
  rcases(Bool.eq_false_or_eq_true s.over)with c2|c2
  ·have c3:¬s.wait.length=0:=λh=>c1 ⟨c2,List.eq_nil_of_length_eq_zero h⟩
   refine du hm (args:=[aK (aj ⟨g,0,ak⟩),az aB n]) (n:=31) Tryz.func12 I I I ?_
   repeat(first|refine GA ?_|refine gV (aC (v:= .bool aD) aL.ty I (aI (i:=0) I (fB dE I (by rw[<-c2];rfl)))) ?_|refine gV (aC aL.ty I (aI (i:=0) I (fB dE I I))) ?_|refine gV (aY (cs:=[_,az aB s.cr,az aB s.gone]) aL.ty I I (λj v h=>aI (i:=0) I (e9 26 dE I h J))) ?_)
   refine aU (fC aJ.en I I I) (λw' hm=>NM w' (hm.get (i:=1) I)) I I I ?_;intro v1 _
   conv=>arg 8;simp only[zJ,cD,ret,id_eq,Rt,cD]
   conv=>arg 7;simp only[Rt,cD,Ak]
   try refine GA ?_
   refine aX (i:=2) I λ_ ju=>eO (i:=0) 26 (cs:=[v1,az aB c',az aB s.gone]) I I I (xi ju) I I dE I I ?_;refine zL ?_
   try refine GA ?_
   exact cJ I I λw hm=>jb v1 _ w I I hm
  refine du hm (args:=[aK (aj ⟨g,0,ak⟩),az aB n]) (n:=31) Tryz.func12 I I I ?_
  repeat(first|refine GA ?_|refine gV (aC (v:= .bool aF) aL.ty I (aI (i:=0) I (fB dE I (by rw[<-c2];rfl)))) ?_|refine gV (aC aL.ty I (aI (i:=0) I (fB dE I I))) ?_|refine gV (aY (cs:=[_,az aB s.cr,az aB s.gone]) aL.ty I I (λj v h=>aI (i:=0) I (e9 26 dE I h J))) ?_)
  refine aU (fC aJ.en I I I) (λw' hm=>NM w' (hm.get (i:=1) I)) I I I ?_;intro v1 _
  conv=>arg 8;simp only[zJ,cD,ret,id_eq,Rt,cD]
  conv=>arg 7;simp only[Rt,cD,Ak]
  try refine GA ?_
  refine aX (i:=2) I λ_ ju=>eO (i:=0) 26 (cs:=[v1,az aB c',az aB s.gone]) I I I (xi ju) I I dE I I ?_;refine zL ?_
  try refine GA ?_
  exact cJ I I λw hm=>jb v1 _ w I I hm
 by_cases c2:n<1\/1073741824<n
 ·rw[if_pos c2]
  have e1:oF s.wait s.cr s.gone n=1:=by
   unfold oF;rw[if_neg (by rw[hg];simp)]
   by_cases c3:n<1
   rw[if_pos c3];rw[if_neg c3,if_pos J]
  exact aft _ 1 s.cr (λ_=>trivial) (λ_=>rfl) (λ_=>rfl) (by unfold yS;rw[if_neg (by rw[e1];decide)]) e1
 ·rw[if_neg c2]
  have e1:oF s.wait s.cr s.gone n=0:=by
   unfold oF;rw[if_neg (by rw[hg];simp),if_neg J,if_neg J]
  exact aft _ 0 _ (λ_=>trivial) (λ_=>rfl) (λ_=>rfl) (by unfold yS;rw[if_pos e1]) e1
set_option maxRecDepth 100000 in
theorem K8(s:fx)(n:Int)(hg:ia.cC s.wait s.cr s.gone=0)(w:World)(B:bP)(hm:Mem B (xC g vo pk md s vt pc vw) w):
 Calls aE 15 #[aK (aj ⟨g,0,ak⟩),az aB n] w (cZ ⟨λ(_:Value×Value)=>True,λx=>x.2,λx=>xC g vo pk md (dS s n).1 vt pc x.1++[jJ x.2 (dS s n).2]⟩ B):=by
 obtain⟨k1,k2,k3,k4,k5,-⟩:=ia.cU hg;have oB:=λw' (h1:(jJ vw s.wait).holds w')=>NB vw s.wait s.cr s.gone n w' (Uz h1) J;have B7:∀w',(jJ vw s.wait).holds w'->Calls aE 36 #[Ak vw s.cr s.gone,az aB n] w' (bX ⟨λ_=>True,λ(x:Value×Value)=> .tuple #[Ak x.1 (dS s n).1.cr (dS s n).1.gone,x.2,az aB (if n<0 then 1 else 0)],λx=>[jJ x.1 (dS s n).1.wait,jJ x.2 (dS s n).2]⟩ w'):=by
  intro w' h1;have h:=oB w' h1;unfold taS Iq at h;simp only[hg,ne_eq,not_true_eq_false,if_false]at h;unfold dS
  by_cases c:n<0
  ·simp only[if_pos c]at h⊢
   exact h
  simp only[if_neg c]at h⊢;have hN:takeN s.wait s.cr n<=s.wait.length:=by unfold takeN;omega
  have e1:(s.wait.drop (takeN s.wait s.cr n)).length=s.wait.length-takeN s.wait s.cr n:=by simp
  have e2:(s.wait.take (takeN s.wait s.cr n)).length=takeN s.wait s.cr n:=by simp;omega
  unfold jJ;rw[e1,e2];exact h
 have YU:(dS s n).1={s with wait:=(dS s n).1.wait,cr:=(dS s n).1.cr,gone:=(dS s n).1.gone}:=by
  unfold dS;split<;>rfl
 rw[YU];clear oB;generalize (dS s n).1.wait=W at*;generalize (dS s n).1.cr=C at*;generalize (dS s n).1.gone=G at*;generalize (dS s n).2=O at*;generalize (if n<0 then(1:Int)else 0)=E at*;obtain⟨m0,m1,m2,m3,m4,m5,m6,rfl⟩:=AE oY;obtain⟨p0,p1,p2,p3,p4,p5,p6,p7,rfl⟩:=AF xB;refine du hm (args:=[aK (aj ⟨g,0,ak⟩),az aB n]) (n:=19) Tryz.func15 I I I ?_
 repeat(first|refine GA ?_|refine gV (aY (cs:=[vw,az aB s.cr,az aB s.gone]) aL.ty I I (λj v h=>aI (i:=0) I (e9 26 dE I h J))) ?_)
 refine aU (fC aJ.en I I I) (λw' hm=>B7 w' (hm.get (i:=1) I)) I I I ?_;rintro⟨v1,v2⟩ _;refine zL ?_
 conv=>arg 7;simp only[Ak]
 try refine GA ?_
 refine aX (i:=2) I λ_ ju=>eO (i:=0) 26 (cs:=[v1,az aB C,az aB G]) I I I (xi ju) I I dE I I ?_;refine zL ?_
 try refine GA ?_
 exact cJ I I λw hm=>hm.b_ (S:=⟨λ_=>True,λ(x:Value×Value)=>x.2,λx=>xC g vo pk [m0,m1,m2,m3,m4,m5,m6] {s with wait:=W,cr:=C,gone:=G} vt [p0,p1,p2,p3,p4,p5,p6,p7] x.1++[jJ x.2 O]⟩) (v1,v2) trivial [0,2,3] aln rfl
end
set_option maxRecDepth 100000 in
theorem Hg(x:Value)(m:Md){vo vn vt vp vr va vg ut up uq uw:Value}(T N:Nat)(hk:fS m aD T N)(g:Nat)(s:fx)(hp:G_ m aD s.p)(GV:s.rz=0)(PQ:s.sj=aF)(t:Nat)(ha:s.seen<=1000000)(ht:t<T)(hg:ia.cC s.wait s.cr s.gone=0)(hw:s.wait.length<=2199)(w:World)(B:bP)(hR:n' B λw=>xS w x m vo vn vt vp vr va vg)
 (hm:Mem B [qQ g vo (ey m.o vn vt) (eD m.g.aT m.g.bx vp m.mode vr va vg) s ut (jt aD s up uq) uw,kB aD up s.p,jJ uw s.wait] w):
 Calls aE 67 #[aK (aj ⟨g,0,ak⟩),az aB (t:Int)] w (cZ ⟨λ(_:Value×Value)=>True,λ_=>az aB (qA m aD s (t:Int)).2,λx=>[kB aD x.1 (qA m aD s (t:Int)).1.p,qQ g vo (ey m.o vn vt) (eD m.g.aT m.g.bx vp m.mode vr va vg) (qA m aD s (t:Int)).1 ut (jt aD (qA m aD s (t:Int)).1 x.1 uq) x.2,jJ x.2 (qA m aD s (t:Int)).1.wait]⟩ B):=by
 have dE:(ey m.o vn vt).length=258:=fh _ _ _;have Sn:=KU hk hp (a:=s.seen) ha (t:=(t:Int)) J;have xI:(fa m aD s.p s.seen (t:Int)).2.2.length<=2001:=by
  by_cases c:(fa m aD s.p s.seen (t:Int)).1=0
  exact(sh hk hp J c).2;rw[show(fa m aD s.p s.seen (t:Int)).2.2=[]from congrArg BQ (I0 c)];exact bH _
 obtain⟨p1,p2⟩:=hp;obtain⟨h1,h2⟩:=hk.ll rfl;have oY:m.mode=1:=hk.md;have hc:=λw' (hm:Mem B [qQ g vo (ey m.o vn vt) (eD m.g.aT m.g.bx vp m.mode vr va vg) s ut (jt aD s up uq) uw,kB aD up s.p,jJ uw s.wait] w')=>Sh _ vr up m.g m.rows T N s.p s.seen t w' (hR _ w' hm).xz (hR _ w' hm).rows (Sl.dx (hm.get (i:=1) I)) h1 hk.xz h2 p1 p2 ha ht;have hwt:=λ(s':fx) pc' vl l h1 h2 h3 h4 w' B hm=>o7 (g:=g) (vo:=vo) (vt:=ut) (vw:=uw) (pc:=pc') dE (show(eD m.g.aT m.g.bx vp m.mode vr va vg).length=7 from I) h4 s' vl l h1 h2 h3 w' B hm;unfold qA;rw[show fa m aD s.p s.seen (t:Int)=((jq m.g.aH (ig m.rows t) s.p.1 s.seen (t:Int)).1,((jq m.g.aH (ig m.rows t) s.p.1 s.seen (t:Int)).2.1,s.p.2),(jq m.g.aH (ig m.rows t) s.p.1 s.seen (t:Int)).2.2)from I]at Sn xI⊢;generalize jq m.g.aH (ig m.rows t) s.p.1 s.seen (t:Int)=R at*;obtain⟨e,st,o⟩:=R;generalize ey m.o vn vt=PK at*;generalize m.g.aT=gt at*;generalize m.g.bx=gn at*;generalize m.mode=md at*;clear hR hk;dsimp only at Sn xI⊢;obtain⟨jT,mz,dZ,jV,ended,kP,dy,iU,lz,bad,eb,p,seen,rz,sj,wait,cr,gone,over,fq,pl⟩:=s;dsimp only at*;subst GV PQ;refine du hm (args:=[aK (aj ⟨g,0,ak⟩),az aB (t:Int)]) (n:=62) Tryz.func67 I I I ?_
 repeat(first|refine GA ?_|refine gV (aC (v:=az aB md) aL.ty I (aI (i:=0) I (fB dE I I))) ?_)
 refine dH ([nr g (gZ vo PK (eD gt gn vp md vr va vg)) 119]) (.calm 0 (.calm 1 (.calm 2 (.calm 3 (.calm 4 (.calm 5 (.calm 6 (.calm 7 (.calm 8 (.calm 9 (.calm 10 (.calm 11 (.calm 12 (.calm 13 (.calm 15 (.one 14 (.one 16 (.calm 17 (.calm 18 (.calm 19 (.calm 20 (.calm 21 (.calm 22 (.one 23 (.calm 24 (.calm 25 (.done))))))))))))))))))))))))))) (cI (i:=0) I (dB _ _ _ _)) ?_
 repeat(first|refine GW ?_|(refine GN ?_;first|refine QW (aY (cs:=[az aB gt,az aB gn,vp]) aL.ty I I (λj v h=>fj (i:=0) I (e9 0 dE I h J))) ?_|refine QW (aC (v:=vr) aL.ty I (fj (i:=0) I (im 4 dE I I))) ?_))
 refine aM I (dm (aY (cs:=[up,az aB seen,az aB 0,.bool aF]) aL.ty I I (λj v h=>aI (i:=0) I (e9 18 dE I h J))) I I I (aO (cI (i:=0) I (dB _ _ _ _)) ?_))
 try refine GW ?_
 refine aM I (aU (Ln aJ.en I I I I I) (λw hm=>hc w hm) I I I ?_);rintro⟨v1,v2⟩ _
 conv=>arg 8;simp only[zJ,cD,ret,id_eq,tkA]
 conv=>arg 7;simp only[tkA,tQ]
 refine aO (cI (i:=0) I (dB _ _ _ _)) ?_
 try refine GW ?_
 refine aM I (aX (i:=3) I λ_ ju=>eO (i:=0) 18 (cs:=[v1,az aB ((if e=0 then seen+1 else seen:Nat):Int),az aB e,.bool aF]) (tl':=eD gt gn vp md vr va vg++rv ⟨jT,mz,dZ,jV,ended,kP,dy,iU,lz,bad,eb,(st,p.2),if e=0 then seen+1 else seen,e,aF,wait,cr,gone,over,fq,pl⟩ ut (jt aD ⟨jT,mz,dZ,jV,ended,kP,dy,iU,lz,bad,eb,(st,p.2),if e=0 then seen+1 else seen,e,aF,wait,cr,gone,over,fq,pl⟩ v1 uq) uw) I I I (mc ju) I I dE I I ?_);refine zL ?_;refine aO (cI (i:=0) I (dB _ _ _ _)) ?_
 try refine GW ?_
 try refine GA ?_
 refine bz [0,2,4] [3] aln I I (fC aJ.en I I I) (λw hm hb=>hwt ⟨jT,mz,dZ,jV,ended,kP,dy,iU,lz,bad,eb,(st,p.2),if e=0 then seen+1 else seen,e,aF,wait,cr,gone,over,fq,pl⟩ (jt aD ⟨jT,mz,dZ,jV,ended,kP,dy,iU,lz,bad,eb,(st,p.2),if e=0 then seen+1 else seen,e,aF,wait,cr,gone,over,fq,pl⟩ v1 uq) v2 o hg (y8.2 λy hy=>by rw[Sn y hy];decide) (by show wait.length+o.length<=4200;omega) I w _ hb) I I I ?_;intro K4 _;refine zL ?_
 try refine GA ?_
 exact cJ I I λw hm=>hm.b_ (S:=⟨λ_=>True,λ_=>az aB e,λ(x:Value×Value)=>[kB aD x.1 (st,p.2),qQ g vo PK (eD gt gn vp md vr va vg) ⟨jT,mz,dZ,jV,ended,kP,dy,iU,lz,bad,eb,(st,p.2),if e=0 then seen+1 else seen,e,aF,wait++o,cr,gone,over,fq,pl⟩ ut (jt aD ⟨jT,mz,dZ,jV,ended,kP,dy,iU,lz,bad,eb,(st,p.2),if e=0 then seen+1 else seen,e,aF,wait++o,cr,gone,over,fq,pl⟩ x.1 uq) x.2,jJ x.2 (wait++o)]⟩) (v1,K4) trivial [0,1,2] aln I
set_option maxRecDepth 100000 in
theorem K9(x:Value)(m:Md){vo vn vt vp vr va vg ut up uq uw:Value}(T N:Nat)(hk:fS m aD T N)(g:Nat)(s:fx)(hp:G_ m aD s.p)(GV:s.rz=0)(PQ:s.sj=aF)(ha:s.seen<=1000000)(hg:ia.cC s.wait s.cr s.gone=0)(hw:s.wait.length<=2199)(w:World)(B:bP)(hR:n' B λw=>xS w x m vo vn vt vp vr va vg)
 (hm:Mem B [qQ g vo (ey m.o vn vt) (eD m.g.aT m.g.bx vp m.mode vr va vg) s ut (jt aD s up uq) uw,kB aD up s.p,jJ uw s.wait] w):
 Calls aE 70 #[aK (aj ⟨g,0,ak⟩)] w (cZ ⟨λ(_:Value×Value)=>True,λ_=>az aB (qj m aD s).2,λx=>[kB aD x.1 (qj m aD s).1.p,qQ g vo (ey m.o vn vt) (eD m.g.aT m.g.bx vp m.mode vr va vg) (qj m aD s).1 ut (jt aD (qj m aD s).1 x.1 uq) x.2,jJ x.2 (qj m aD s).1.wait]⟩ B):=by
 have dE:(ey m.o vn vt).length=258:=fh _ _ _;have Sn:=R5 hk hp (a:=s.seen) ha;have xI:(m_ m aD s.p s.seen).2.length<=2001:=by
  have:=Aw hk hp (a:=s.seen)
  by_cases c:(m_ m aD s.p s.seen).1=0
  exact this.1 c;rw[this.2 c];exact bH _
 obtain⟨p1,p2⟩:=hp;obtain⟨h1,h2⟩:=hk.ll rfl;have oY:m.mode=1:=hk.md;have hc:=λw' (hm:Mem B [qQ g vo (ey m.o vn vt) (eD m.g.aT m.g.bx vp m.mode vr va vg) s ut (jt aD s up uq) uw,kB aD up s.p,jJ uw s.wait] w')=>WV _ vr up m.g m.rows T N s.p.1 s.seen  w' (hR _ w' hm).xz (hR _ w' hm).rows (Sl.dx (hm.get (i:=1) I)) h1 hk.xz h2 p1 p2 ha;have hwt:=λ(s':fx) pc' vl l h1 h2 h3 h4 w' B hm=>o7 (g:=g) (vo:=vo) (vt:=ut) (vw:=uw) (pc:=pc') dE (show(eD m.g.aT m.g.bx vp m.mode vr va vg).length=7 from I) h4 s' vl l h1 h2 h3 w' B hm;unfold qj;have hT:=hk.tT;rw[show m_ m aD s.p s.seen=iw m.g.aH (ig m.rows m.g.aT.toNat) s.p.1 from I,show m.g.aT.toNat=T by omega]at Sn xI⊢;clear hT;generalize iw m.g.aH (ig m.rows T) s.p.1=R at*;obtain⟨e,o⟩:=R;generalize ey m.o vn vt=PK at*;generalize m.g.aT=gt at*;generalize m.g.bx=gn at*;generalize m.mode=md at*;clear hR hk;dsimp only at Sn xI⊢;obtain⟨jT,mz,dZ,jV,ended,kP,dy,iU,lz,bad,eb,p,seen,rz,sj,wait,cr,gone,over,fq,pl⟩:=s;dsimp only at*;subst GV PQ;refine du hm (args:=[aK (aj ⟨g,0,ak⟩)]) (n:=58) Tryz.func70 I I I ?_
 repeat(first|refine GA ?_|refine gV (aC (v:=az aB md) aL.ty I (aI (i:=0) I (fB dE I I))) ?_)
 refine dH ([nr g (gZ vo PK (eD gt gn vp md vr va vg)) 119]) (.calm 0 (.calm 1 (.calm 2 (.calm 3 (.calm 4 (.calm 5 (.calm 6 (.calm 7 (.calm 8 (.calm 9 (.calm 10 (.calm 11 (.calm 12 (.calm 13 (.one 14 (.one 15 (.calm 16 (.calm 17 (.calm 18 (.calm 19 (.calm 20 (.calm 21 (.one 22 (.calm 23 (.calm 24 (.done)))))))))))))))))))))))))) (cI (i:=0) I (dB _ _ _ _)) ?_
 repeat(first|refine GW ?_|(refine GN ?_;first|refine QW (aY (cs:=[az aB gt,az aB gn,vp]) aL.ty I I (λj v h=>fj (i:=0) I (e9 0 dE I h J))) ?_|refine QW (aC (v:=vr) aL.ty I (fj (i:=0) I (im 4 dE I I))) ?_))
 refine aM I (dm (aY (cs:=[up,az aB seen,az aB 0,.bool aF]) aL.ty I I (λj v h=>aI (i:=0) I (e9 18 dE I h J))) I I I (aO (cI (i:=0) I (dB _ _ _ _)) ?_))
 try refine GW ?_
 refine aM I (aU (qq aJ.en I I I I) (λw hm=>hc w hm) I I I ?_);intro v2 _
 conv=>arg 8;simp only[zJ,cD,ret,id_eq,enA]
 conv=>arg 7;simp only[enA,tQ]
 refine aO (cI (i:=0) I (dB _ _ _ _)) ?_
 try refine GW ?_
 refine aM I (eO (i:=0) 18 (cs:=[av ak 0 0,az aB seen,az aB e,.bool (decide (e=0))]) (tl':=eD gt gn vp md vr va vg++rv ⟨jT,mz,dZ,jV,ended,kP,dy,iU,lz,bad,eb,za aD p,seen,e,decide (e=0),wait,cr,gone,over,fq,pl⟩ ut (jt aD ⟨jT,mz,dZ,jV,ended,kP,dy,iU,lz,bad,eb,za aD p,seen,e,decide (e=0),wait,cr,gone,over,fq,pl⟩ (av ak 0 0) uq) uw) I I I (mc I) I I dE I I ?_);refine zL ?_;refine aO (cI (i:=0) I (dB _ _ _ _)) ?_
 try refine GW ?_
 try refine GA ?_
 refine bz [0,2,3] [1] aln I I (fC aJ.en I I I) (λw hm hb=>hwt ⟨jT,mz,dZ,jV,ended,kP,dy,iU,lz,bad,eb,za aD p,seen,e,decide (e=0),wait,cr,gone,over,fq,pl⟩ (jt aD ⟨jT,mz,dZ,jV,ended,kP,dy,iU,lz,bad,eb,za aD p,seen,e,decide (e=0),wait,cr,gone,over,fq,pl⟩ (av ak 0 0) uq) v2 o hg (y8.2 λy hy=>by rw[Sn y hy];decide) (by show wait.length+o.length<=4200;omega) I w _ hb) I I I ?_;intro K4 _;refine zL ?_
 try refine GA ?_
 refine dJ 185 4 ?_;exact cJ I I λw hm=>hm.b_ (S:=⟨λ_=>True,λ_=>az aB e,λ(x:Value×Value)=>[kB aD x.1 (za aD p),qQ g vo PK (eD gt gn vp md vr va vg) ⟨jT,mz,dZ,jV,ended,kP,dy,iU,lz,bad,eb,za aD p,seen,e,decide (e=0),wait++o,cr,gone,over,fq,pl⟩ ut (jt aD ⟨jT,mz,dZ,jV,ended,kP,dy,iU,lz,bad,eb,za aD p,seen,e,decide (e=0),wait++o,cr,gone,over,fq,pl⟩ x.1 uq) x.2,jJ x.2 (wait++o)]⟩) (av ak 0 0,K4) trivial [3,1,2] aln I
set_option maxRecDepth 100000 in
theorem Hh(x:Value)(m:Md){vo vn vt vp vr va vg ut up uq uw:Value}(T N:Nat)(hk:fS m aF T N)(g:Nat)(s:fx)(hp:G_ m aF s.p)(GV:s.rz=0)(PQ:s.sj=aF)(t:Nat)(ha:s.seen<=1000000)(ht:t<T)(hg:ia.cC s.wait s.cr s.gone=0)(hw:s.wait.length<=2199)(w:World)(B:bP)(hR:n' B λw=>xS w x m vo vn vt vp vr va vg)
 (hm:Mem B [qQ g vo (ey m.o vn vt) (eD m.g.aT m.g.bx vp m.mode vr va vg) s ut (jt aF s up uq) uw,kB aF up s.p,jJ uw s.wait] w):
 Calls aE 67 #[aK (aj ⟨g,0,ak⟩),az aB (t:Int)] w (cZ ⟨λ(_:Value×Value)=>True,λ_=>az aB (qA m aF s (t:Int)).2,λx=>[kB aF x.1 (qA m aF s (t:Int)).1.p,qQ g vo (ey m.o vn vt) (eD m.g.aT m.g.bx vp m.mode vr va vg) (qA m aF s (t:Int)).1 ut (jt aF (qA m aF s (t:Int)).1 x.1 uq) x.2,jJ x.2 (qA m aF s (t:Int)).1.wait]⟩ B):=by
 have dE:(ey m.o vn vt).length=258:=fh _ _ _;have Sn:=KU hk hp (a:=s.seen) ha (t:=(t:Int)) J;have xI:(fa m aF s.p s.seen (t:Int)).2.2.length<=2001:=by
  by_cases c:(fa m aF s.p s.seen (t:Int)).1=0
  exact(sh hk hp J c).2;rw[show(fa m aF s.p s.seen (t:Int)).2.2=[]from congrArg BQ (xh _ _ _ c)];exact bH _
 obtain⟨p1,p2,p3⟩:=hp;have h2:=hk.lr I;have oY:m.mode=2:=hk.md;have hc:=λw' (hm:Mem B [qQ g vo (ey m.o vn vt) (eD m.g.aT m.g.bx vp m.mode vr va vg) s ut (jt aF s up uq) uw,kB aF up s.p,jJ uw s.wait] w')=>aeG _ (aQ #[va,vg]) up m.g T N m.A m.G s.p s.seen t w' (hR _ w' hm).xz (hR _ w' hm).ox (Sl.dx (hm.get (i:=1) I)) h2 p2 p1 p3 ht ha;have hwt:=λ(s':fx) pc' vl l h1 h2 h3 h4 w' B hm=>o7 (g:=g) (vo:=vo) (vt:=ut) (vw:=uw) (pc:=pc') dE (show(eD m.g.aT m.g.bx vp m.mode vr va vg).length=7 from I) h4 s' vl l h1 h2 h3 w' B hm;unfold qA;rw[show fa m aF s.p s.seen (t:Int)=((fJ m.g.aH (ii m.A) (eQ m.G) t s.seen 2001 s.p.2 []).1,(s.p.1,(fJ m.g.aH (ii m.A) (eQ m.G) t s.seen 2001 s.p.2 []).2.1),(fJ m.g.aH (ii m.A) (eQ m.G) t s.seen 2001 s.p.2 []).2.2)from I]at Sn xI⊢;generalize fJ m.g.aH (ii m.A) (eQ m.G) t s.seen 2001 s.p.2 []=R at*;obtain⟨e,st,o⟩:=R;generalize ey m.o vn vt=PK at*;generalize m.g.aT=gt at*;generalize m.g.bx=gn at*;generalize m.mode=md at*;clear hR hk;dsimp only at Sn xI⊢;obtain⟨jT,mz,dZ,jV,ended,kP,dy,iU,lz,bad,eb,p,seen,rz,sj,wait,cr,gone,over,fq,pl⟩:=s;dsimp only at*;subst GV PQ;refine du hm (args:=[aK (aj ⟨g,0,ak⟩),az aB (t:Int)]) (n:=62) Tryz.func67 I I I ?_
 repeat(first|refine GA ?_|refine gV (aC (v:=az aB md) aL.ty I (aI (i:=0) I (fB dE I I))) ?_)
 refine dH ([nr g (gZ vo PK (eD gt gn vp md vr va vg)) 119]) (.calm 0 (.calm 1 (.calm 2 (.calm 3 (.calm 4 (.calm 5 (.calm 6 (.calm 7 (.calm 8 (.calm 9 (.calm 10 (.calm 11 (.calm 12 (.calm 13 (.calm 15 (.one 14 (.one 16 (.calm 17 (.calm 18 (.calm 19 (.calm 20 (.calm 21 (.calm 22 (.one 23 (.calm 24 (.calm 25 (.done))))))))))))))))))))))))))) (cI (i:=0) I (dB _ _ _ _)) ?_
 repeat(first|refine GW ?_|(refine GN ?_;first|refine QW (aY (cs:=[az aB gt,az aB gn,vp]) aL.ty I I (λj v h=>fj (i:=0) I (e9 0 dE I h J))) ?_|refine QW (aY (cs:=[va,vg]) aL.ty I I (λj v h=>fj (i:=0) I (e9 5 dE I h J))) ?_))
 refine aM I (dm (aY (cs:=[up,az aB seen,az aB 0,.bool aF]) aL.ty I I (λj v h=>aI (i:=0) I (e9 22 dE I h J))) I I I (aO (cI (i:=0) I (dB _ _ _ _)) ?_))
 try refine GW ?_
 refine aM I (aU (Ln aJ.en I I I I I) (λw hm=>hc w hm) I I I ?_);rintro⟨v1,v2⟩ _
 conv=>arg 8;simp only[zJ,cD,ret,id_eq,tkA]
 conv=>arg 7;simp only[tkA,tQ]
 refine aO (cI (i:=0) I (dB _ _ _ _)) ?_
 try refine GW ?_
 refine aM I (aX (i:=3) I λ_ ju=>eO (i:=0) 22 (cs:=[v1,az aB ((if e=0 then seen+1 else seen:Nat):Int),az aB e,.bool aF]) (tl':=eD gt gn vp md vr va vg++rv ⟨jT,mz,dZ,jV,ended,kP,dy,iU,lz,bad,eb,(p.1,st),if e=0 then seen+1 else seen,e,aF,wait,cr,gone,over,fq,pl⟩ ut (jt aF ⟨jT,mz,dZ,jV,ended,kP,dy,iU,lz,bad,eb,(p.1,st),if e=0 then seen+1 else seen,e,aF,wait,cr,gone,over,fq,pl⟩ v1 uq) uw) I I I (mc ju) I I dE I I ?_);refine zL ?_;refine aO (cI (i:=0) I (dB _ _ _ _)) ?_
 try refine GW ?_
 try refine GA ?_
 refine bz [0,2,4] [3] aln I I (fC aJ.en I I I) (λw hm hb=>hwt ⟨jT,mz,dZ,jV,ended,kP,dy,iU,lz,bad,eb,(p.1,st),if e=0 then seen+1 else seen,e,aF,wait,cr,gone,over,fq,pl⟩ (jt aF ⟨jT,mz,dZ,jV,ended,kP,dy,iU,lz,bad,eb,(p.1,st),if e=0 then seen+1 else seen,e,aF,wait,cr,gone,over,fq,pl⟩ v1 uq) v2 o hg (y8.2 λy hy=>by rw[Sn y hy];decide) (by show wait.length+o.length<=4200;omega) I w _ hb) I I I ?_;intro K4 _;refine zL ?_
 try refine GA ?_
 exact cJ I I λw hm=>hm.b_ (S:=⟨λ_=>True,λ_=>az aB e,λ(x:Value×Value)=>[kB aF x.1 (p.1,st),qQ g vo PK (eD gt gn vp md vr va vg) ⟨jT,mz,dZ,jV,ended,kP,dy,iU,lz,bad,eb,(p.1,st),if e=0 then seen+1 else seen,e,aF,wait++o,cr,gone,over,fq,pl⟩ ut (jt aF ⟨jT,mz,dZ,jV,ended,kP,dy,iU,lz,bad,eb,(p.1,st),if e=0 then seen+1 else seen,e,aF,wait++o,cr,gone,over,fq,pl⟩ x.1 uq) x.2,jJ x.2 (wait++o)]⟩) (v1,K4) trivial [0,1,2] aln I
set_option maxRecDepth 100000 in
theorem K_(x:Value)(m:Md){vo vn vt vp vr va vg ut up uq uw:Value}(T N:Nat)(hk:fS m aF T N)(g:Nat)(s:fx)(hp:G_ m aF s.p)(GV:s.rz=0)(PQ:s.sj=aF)(ha:s.seen<=1000000)(hg:ia.cC s.wait s.cr s.gone=0)(hw:s.wait.length<=2199)(w:World)(B:bP)(hR:n' B λw=>xS w x m vo vn vt vp vr va vg)
 (hm:Mem B [qQ g vo (ey m.o vn vt) (eD m.g.aT m.g.bx vp m.mode vr va vg) s ut (jt aF s up uq) uw,kB aF up s.p,jJ uw s.wait] w):
 Calls aE 70 #[aK (aj ⟨g,0,ak⟩)] w (cZ ⟨λ(_:Value×Value)=>True,λ_=>az aB (qj m aF s).2,λx=>[kB aF x.1 (qj m aF s).1.p,qQ g vo (ey m.o vn vt) (eD m.g.aT m.g.bx vp m.mode vr va vg) (qj m aF s).1 ut (jt aF (qj m aF s).1 x.1 uq) x.2,jJ x.2 (qj m aF s).1.wait]⟩ B):=by
 have dE:(ey m.o vn vt).length=258:=fh _ _ _;have Sn:=R5 hk hp (a:=s.seen) ha;have xI:(m_ m aF s.p s.seen).2.length<=2001:=by
  have:=Aw hk hp (a:=s.seen)
  by_cases c:(m_ m aF s.p s.seen).1=0
  exact this.1 c;rw[this.2 c];exact bH _
 obtain⟨p1,p2,p3⟩:=hp;have h2:=hk.lr I;have oY:m.mode=2:=hk.md;have hc:=λw' (hm:Mem B [qQ g vo (ey m.o vn vt) (eD m.g.aT m.g.bx vp m.mode vr va vg) s ut (jt aF s up uq) uw,kB aF up s.p,jJ uw s.wait] w')=>ahh _ (aQ #[va,vg]) up m.g T N m.A m.G s.p.2 s.seen  w' (hR _ w' hm).xz (hR _ w' hm).ox (Sl.dx (hm.get (i:=1) I)) h2 p2 p1 p3 ha;have hwt:=λ(s':fx) pc' vl l h1 h2 h3 h4 w' B hm=>o7 (g:=g) (vo:=vo) (vt:=ut) (vw:=uw) (pc:=pc') dE (show(eD m.g.aT m.g.bx vp m.mode vr va vg).length=7 from I) h4 s' vl l h1 h2 h3 w' B hm;unfold qj;have hT:=hk.tT;rw[show m_ m aF s.p s.seen=((fJ m.g.aH (ii m.A) (eQ m.G) m.g.aT.toNat s.seen 2001 s.p.2 []).1,(fJ m.g.aH (ii m.A) (eQ m.G) m.g.aT.toNat s.seen 2001 s.p.2 []).2.2)from I,show m.g.aT.toNat=T by omega]at Sn xI⊢;clear hT;generalize fJ m.g.aH (ii m.A) (eQ m.G) T s.seen 2001 s.p.2 []=R at*;obtain⟨e,st,o⟩:=R;generalize ey m.o vn vt=PK at*;generalize m.g.aT=gt at*;generalize m.g.bx=gn at*;generalize m.mode=md at*;clear hR hk;dsimp only at Sn xI⊢;obtain⟨jT,mz,dZ,jV,ended,kP,dy,iU,lz,bad,eb,p,seen,rz,sj,wait,cr,gone,over,fq,pl⟩:=s;dsimp only at*;subst GV PQ;refine du hm (args:=[aK (aj ⟨g,0,ak⟩)]) (n:=58) Tryz.func70 I I I ?_
 repeat(first|refine GA ?_|refine gV (aC (v:=az aB md) aL.ty I (aI (i:=0) I (fB dE I I))) ?_)
 refine dH ([nr g (gZ vo PK (eD gt gn vp md vr va vg)) 119]) (.calm 0 (.calm 1 (.calm 2 (.calm 3 (.calm 4 (.calm 5 (.calm 6 (.calm 7 (.calm 8 (.calm 9 (.calm 10 (.calm 11 (.calm 12 (.calm 13 (.one 14 (.one 15 (.calm 16 (.calm 17 (.calm 18 (.calm 19 (.calm 20 (.calm 21 (.one 22 (.calm 23 (.calm 24 (.done)))))))))))))))))))))))))) (cI (i:=0) I (dB _ _ _ _)) ?_
 repeat(first|refine GW ?_|(refine GN ?_;first|refine QW (aY (cs:=[az aB gt,az aB gn,vp]) aL.ty I I (λj v h=>fj (i:=0) I (e9 0 dE I h J))) ?_|refine QW (aY (cs:=[va,vg]) aL.ty I I (λj v h=>fj (i:=0) I (e9 5 dE I h J))) ?_))
 refine aM I (dm (aY (cs:=[up,az aB seen,az aB 0,.bool aF]) aL.ty I I (λj v h=>aI (i:=0) I (e9 22 dE I h J))) I I I (aO (cI (i:=0) I (dB _ _ _ _)) ?_))
 try refine GW ?_
 refine aM I (aU (qq aJ.en I I I I) (λw hm=>hc w hm) I I I ?_);intro v2 _
 conv=>arg 8;simp only[zJ,cD,ret,id_eq,enA]
 conv=>arg 7;simp only[enA,tQ]
 refine aO (cI (i:=0) I (dB _ _ _ _)) ?_
 try refine GW ?_
 refine aM I (eO (i:=0) 22 (cs:=[av ak 0 0,az aB seen,az aB e,.bool (decide (e=0))]) (tl':=eD gt gn vp md vr va vg++rv ⟨jT,mz,dZ,jV,ended,kP,dy,iU,lz,bad,eb,za aF p,seen,e,decide (e=0),wait,cr,gone,over,fq,pl⟩ ut (jt aF ⟨jT,mz,dZ,jV,ended,kP,dy,iU,lz,bad,eb,za aF p,seen,e,decide (e=0),wait,cr,gone,over,fq,pl⟩ (av ak 0 0) uq) uw) I I I (mc I) I I dE I I ?_);refine zL ?_;refine aO (cI (i:=0) I (dB _ _ _ _)) ?_
 try refine GW ?_
 try refine GA ?_
 refine bz [0,2,3] [1] aln I I (fC aJ.en I I I) (λw hm hb=>hwt ⟨jT,mz,dZ,jV,ended,kP,dy,iU,lz,bad,eb,za aF p,seen,e,decide (e=0),wait,cr,gone,over,fq,pl⟩ (jt aF ⟨jT,mz,dZ,jV,ended,kP,dy,iU,lz,bad,eb,za aF p,seen,e,decide (e=0),wait,cr,gone,over,fq,pl⟩ (av ak 0 0) uq) v2 o hg (y8.2 λy hy=>by rw[Sn y hy];decide) (by show wait.length+o.length<=4200;omega) I w _ hb) I I I ?_;intro K4 _;refine zL ?_
 try refine GA ?_
 refine dJ 3 1 ?_;exact cJ I I λw hm=>hm.b_ (S:=⟨λ_=>True,λ_=>az aB e,λ(x:Value×Value)=>[kB aF x.1 (za aF p),qQ g vo PK (eD gt gn vp md vr va vg) ⟨jT,mz,dZ,jV,ended,kP,dy,iU,lz,bad,eb,za aF p,seen,e,decide (e=0),wait++o,cr,gone,over,fq,pl⟩ ut (jt aF ⟨jT,mz,dZ,jV,ended,kP,dy,iU,lz,bad,eb,za aF p,seen,e,decide (e=0),wait++o,cr,gone,over,fq,pl⟩ x.1 uq) x.2,jJ x.2 (wait++o)]⟩) (av ak 0 0,K4) trivial [3,1,2] aln I
end bZ
namespace bZ
open Go.RowKit cL dQ cz ib
def Gb(R:List Tok×Nat×Int):Spec Value:=⟨λ_=>True,λv=> .tuple #[aQ (io (R.2.1:Int) [] (if R.2.2=0 then 15 else 9)).toArray,v,az aB R.2.2],λv=>[wQ v R.1]⟩
theorem Hi(o:Of)(vn vt:Value)(N:List (List Int))(tags:List Int)(a0:Nat)(u0:List UInt8)(w:World)(h:RW w vn vt N tags)(hc:qe o N tags=0)(ho:∀b (h:b<256),o[b]<256)(ha0:a0<=1099511627776)(hu0:u0.length<=64):
 Calls aE 69 #[C3 o vn vt,aQ (io (a0:Int) u0 0).toArray] w (bX (Gb (iw o N tags (u0.length+1) a0 u0)) w):=by
 have iH:=λw' (hg:Gr w w')=>tU o vn vt N tags (a0:Int) u0 0 w' (h.gr hg) ho J;rw[Uw hc ha0 hu0]at iH;have H3:=λ(u:List UInt8) (hu:u.length<=65) w' (hg:Gr w w')=>F7 o vn vt N tags u w' (h.gr hg) (pg hc) J;have hcut:=λa u r t w' (ha:a<=9223372036854775) ht hu=>IR a u 0 r t w' ha ht hu;have hbE:=CE;obtain⟨⟨an,cn,rfl,-⟩,at',ct,rfl,-⟩:=h;refine enter (args:=[C3 o (av an N.length cn) (av at' tags.length ct),aQ (io (a0:Int) u0 0).toArray]) (n:=52) Tryz.func69 I I I ?_;refine cB (bD (bL I I I λg2=>bL I I I λg3=>a8 I λg4=>?_));refine zL ?_
 repeat(first|refine GA ?_|refine gV (aP (i:=0) aL.ty I I (il _ _ _)) ?_|refine gV (aP (i:=1) aL.ty I I I) ?_)
 refine aU (fC aJ.en I I I) (λw hm=>iH _ hm.below) I I I ?_;intro _ _;refine zL ?_;clear iH
 repeat(first|refine GC ?_|refine gV (dc (b:=aF) I I (decide_eq_false aln)) ?_|refine GB ?_)
 refine iz 102 3 ?_
 conv=>arg 7;simp only[zA,zB,zC,zD,zE,zF,zG,zH,zI,cD,ret,id_eq]
 generalize jb:iw o N tags (u0.length+1) a0 u0=fin;refine d_ (ι:=Nat×Nat×List UInt8×List Tok×Value) (λ(f,a,u,out,_)=>u.length<f/\u.length<=64/\a+u.length<=1099511627840/\out.length<=a/\(out++(iw o N tags f a u).1,(iw o N tags f a u).2)=fin) (λ(_,_,_,_,v)=>[(2,aK (aj ⟨g2,0,ak⟩)),(3,aK (aj ⟨g3,0,ak⟩)),(4,aK (aj ⟨g4,0,ak⟩)),(8,v)])
  (λ(_,a,u,out,v)=>[aR g2 (ey o (av an N.length cn) (av at' tags.length ct)).toArray 30,aR g3 (io (a:Int) u 0).toArray 115,aR g4 (io 0 [] 0).toArray 115,wQ v out]) (λ(f,_,_,_,_)=>f) (u0.length+1,a0,u0,[],av ak 0 0) ⟨Nat.lt_succ_self _,hu0,by show a0+u0.length<=_;omega,bH _,by rw[jb];rfl⟩ ?_
 clear jb;rintro⟨f,a,u,out,v⟩ ⟨j1,j2,j3,j4,j5⟩;dsimp only at j1 j2 j3 j4 j5⊢;obtain⟨f,rfl⟩:∃f',f=f'+1:=⟨f-1,by omega⟩;rw[AA]at j5
 by_cases c1:u=[]
 ·rw[if_pos c1]at j5
  have j5:(out++[],a,(0:Int))=fin:=j5;rw[dY]at j5;subst j5
  repeat(first|refine GC ?_|refine gV (aC (v:=str u) aL.ty I (aI (i:=1) I I)) ?_|refine gV (k9 (b:=aF) I I (decide_eq_false (λh=>h c1))) ?_|refine gV (aC (v:=az aB (a:Int)) aL.ty I (aI (i:=1) I I)) ?_|refine gV (bB I (hbE _ _)) ?_|refine GB ?_)
  refine gG 2 (cs':=(io (a:Int) [] 15).toArray) ?_;refine zL ?_
  try refine GA ?_
  exact fD (i:=2) I I I I I I λw hm=>hm.meets (S:=Gb (out,a,0)) v trivial [3] aln I
 ·rw[if_neg c1]at j5
  have hto:=si o N tags u;have Lt:=H3 u J;generalize dK o N tags u=lk at*;obtain⟨⟨r,t⟩,sr⟩:=lk;dsimp only at hto Lt j5
  repeat(first|refine GC ?_|refine gV (aC (v:=str u) aL.ty I (aI (i:=1) I I)) ?_|refine gV (k9 (b:=aD) I I (decide_eq_true c1)) ?_|refine gV (aP (i:=0) aL.ty I I (il _ _ _)) ?_|refine GB ?_)
  refine aU (fC aJ.en I I I) (λw hm=>Lt _ hm.below) I I I ?_;intro _ _;refine zL ?_
  by_cases c2:t=0
  ·rw[if_pos c2]at j5
   have j5:(out++[],a,(9:Int))=fin:=j5;rw[dY]at j5;subst j5 c2;clear Lt
   repeat(first|refine GC ?_|refine gV (cY (b:=aD) I I (decide_eq_true I)) ?_|refine gV (aC (v:=az aB (a:Int)) aL.ty I (aI (i:=1) I I)) ?_|refine gV (bB I (hbE _ _)) ?_|refine GB ?_)
   refine gG 2 (cs':=(io (a:Int) [] 9).toArray) ?_;refine zL ?_
   try refine GA ?_
   exact fD (i:=2) I I I I I I λw hm=>hm.meets (S:=Gb (out,a,9)) v trivial [3] aln I
  rw[if_neg c2]at j5;have ht:=hto.resolve_left c2;have hct:=hcut a u r t;have UM:(u.drop t).length=u.length-t:=iT ..;clear Lt H3 hcut
  repeat(first|refine GC ?_|refine gV (cY (b:=aF) I I (decide_eq_false J)) ?_|refine GB ?_)
  refine a8 I λg15=>?_;refine zL ?_
  repeat(first|refine GA ?_|refine gV (aP (i:=1) aL.ty I I I) ?_)
  refine aU (qq aJ.en I I I I) (λw hm=>hct w J ht.2 J) I I I ?_;intro _ _;refine zL ?_
  try refine GA ?_
  refine gG 1 (cs':=(io ((a+t:Nat):Int) (u.drop t) 0).toArray) ?_;refine zL ?_
  try refine GA ?_
  refine gG 4 (cs':=(jg (r,a,a+t)).toArray) ?_;refine zL ?_
  repeat(first|refine GA ?_|refine gV (aP (i:=4) aL.ty I I I) ?_)
  refine jR (i:=3) I I I I I I I (λz h=>by cases h;rfl) J J I λz v2=>?_;refine zL ?_
  try refine GA ?_
  refine dv [0,1,2,3] ?_;exact bW (f,a+t,u.drop t,out++[(r,a,a+t)],v2) ⟨by show(u.drop t).length<f;omega,by show(u.drop t).length<=64;omega,by show a+t+(u.drop t).length<=1099511627840;omega,by show(out++[(r,a,a+t)]).length<=a+t;rw[bK];simp;omega,by rw[eY];exact j5⟩ (by show f<f+1;omega) (hl:=by dsimp only;rw[BU];rfl)
open aV dO eX fY gX bI f_
open ia (Ev qM takeN)
abbrev toP(v:Value)(l:List Tok):b9:=rq 102 3 v l.length (l.flatMap jg)
abbrev f_(b:Bool)(g:Nat)(vo:Value)(pk md:List Value)(s:fx)(ut up uq uw:Value):List b9:=[qQ g vo pk md s ut (jt b s up uq) uw,toP ut s.eb,kB b up s.p,jJ uw s.wait]
theorem Oy(vo:Value)(pk md:List Value)(s:fx)(vt:Value)(pc:List Value)(vw:Value):∃q,(gZ vo pk (md++rv s vt pc vw)).toArray=(gZ vo pk (md++[az aB s.jT,az aB s.mz,az aB s.dZ,str s.jV,.bool s.ended,.bool s.kP,az aB s.dy,str s.iU,az aB s.lz,az aB s.bad])++q).toArray:=
 ⟨vt::(pc++[vw,az aB s.cr,az aB s.gone,.bool s.over,az aB s.fq,az aB s.pl]),by simp[gZ,rv]⟩
def uc(b:Bool)(g:Nat)(vo:Value)(pk md:List Value)(s:fx)(uq:Value):Spec (Value×Value×Value):=⟨λ_=>True,λ_=> .tuple #[],λx=>f_ b g vo pk md s x.1 x.2.1 uq x.2.2⟩
theorem Sq{w:World}{e:TypeId}{size:Nat}{v:Value}{n:Nat}{xs:List Value}(h:p8 w e size v n xs)(hn:0<n):∃g off cap,v=av (aj ⟨g,off,ak⟩) n cap/\n<=cap:=by
 rcases h.2 with⟨rfl,rfl⟩|⟨g,off,cap,kU,rfl,hg,h1,h2,h3,h4⟩
 omega;exact⟨g,off,cap,rfl,h1⟩
theorem ahj{t:Tok}{l:List Tok}{j:Nat}{v:Value}(h:(jg t)[j]?=aj v):((t::l).flatMap jg)[j]?=aj v:=by
 grind
theorem AK{m:Md}{b:Bool}{s:fx}(h:ic m b s):ia.cC s.wait s.cr s.gone=0:=by
 obtain⟨h1,h2,h3,h4,h5,h6,h7,h8,h9,NE,Oa,h12,Uu,Ob,Oc⟩:=h;have:(s.seen:Int)<=4096:=by omega
 have:(s.gone:Int)<=1099511627776:=by
  have h16:((s.seen:Int)+if s.over=aD then 1 else 0)<=4097:=by split<;>omega
  generalize ((s.seen:Int)+if s.over=aD then 1 else 0)=k at*;omega
 unfold ia.cC;rw[if_neg J,if_neg J,if_neg J,if_neg J,if_neg J,if_neg (by rw[Oa];decide)]
theorem Oz(l:List Tok):∀u∈l.flatMap jg,u.oneCell'=true:=by
 intro u hu;obtain⟨t,_,h⟩:=vd.1 hu;simp only[jg,dM,fz,or_false]at h;rcases h with rfl|rfl|rfl<;>rfl
theorem tH{P:Program}{n:Nat}{W:bP}{fr:Fr}{L:List b9}{Q:Exit->Act->World->Prop}{ops:Array Oper}{rest:List Oper}{ty:TypeId}{pos:String}{after:Array Edge}{t:TypeId}{p x:Operand}{i g k:Nat}{vo:Value}{pk tl tl':List Value}{T:TypeId}{agg:Bool}{v:Value}(j:Nat)[hT:aL P t agg 1](hi:L[i]?=aj (aR g (gZ vo pk tl).toArray T))(hp:ev fr p=aj (aK (aj ⟨g,k,ak⟩)))(hx:ev fr x=aj v)(hv:v.cells=#[v])(h1:v.oneCell'=aD)(hk:k=j+259)(dE:pk.length=258)(hj:Nat.blt j tl.length=aD)(he:tl.set j v=tl')
 (h:TL P n W ops Q rest fr (L.set i (aR g (gZ vo pk tl').toArray T))):TL P n W ops Q (⟨ak,.store t p x,ty,pos,after,ak⟩::rest) fr L:=by
 subst he;exact ef j hi hp hx hv h1 hk dE hj h
section
variable{g:Nat}{vo:Value}{pk md:List Value}{vt vw:Value}{pc:List Value}(dE:pk.length=258)(oY:md.length=7)(xB:pc.length=8)
include dE oY xB
set_option maxRecDepth 100000 in
theorem K'(s:fx)(e:Int)(pl:Nat)(w:World)(B:bP)(hm:Mem B [qQ g vo pk md s vt pc vw] w):
 Calls aE 66 #[aK (aj ⟨g,0,ak⟩),az aB e,az aB (pl:Int)] w (cZ ⟨λ(_:Unit)=>True,λ_=> .tuple #[],λ_=>[qQ g vo pk md (qP s e pl) vt pc vw]⟩ B):=by
 have hst:=λw' B hm=>oZ (g:=g) (vo:=vo) (vt:=vt) (vw:=vw) dE oY xB s e pl w' B hm;unfold qP
 by_cases c:e≠0
 ·rw[if_pos c]
  refine du hm (args:=[aK (aj ⟨g,0,ak⟩),az aB e,az aB (pl:Int)]) (n:=12) Tryz.func66 I I I ?_
  try refine GA ?_
  refine bz [0] [] aln I I (qq aJ.en I I I I) (λw hm hb=>hst w _ hb) I I I ?_;intro _ _;refine zL ?_
  try refine GA ?_
  exact lR I λw hm=>hm.b_ (S:=⟨λ(_:Unit)=>True,λ_=> .tuple #[],λ_=>[qQ g vo pk md (jW s e pl) vt pc vw]⟩) () trivial [0] aln I
 ·rw[if_neg c]
  refine du hm (args:=[aK (aj ⟨g,0,ak⟩),az aB e,az aB (pl:Int)]) (n:=12) Tryz.func66 I I I ?_
  try refine GA ?_
  exact lR I λw hm=>hm.b_ (S:=⟨λ(_:Unit)=>True,λ_=> .tuple #[],λ_=>[qQ g vo pk md s vt pc vw]⟩) () trivial [0] aln I
end
def psX(b:Bool)(g:Nat)(vo:Value)(pk md:List Value)(R:fx×Int)(ut uq:Value):Spec (Value×Value):=⟨λ_=>True,λ_=>az aB R.2,λx=>[kB b x.1 R.1.p,qQ g vo pk md R.1 ut (jt b R.1 x.1 uq) x.2,jJ x.2 R.1.wait]⟩
theorem La(x:Value)(m:Md){vo vn vt vp vr va vg ut up uq uw:Value}(b:Bool)(T N:Nat)(hk:fS m b T N)(g:Nat)(s:fx)(hp:G_ m b s.p)(GV:s.rz=0)(PQ:s.sj=aF)(t:Nat)(ha:s.seen<=1000000)(ht:t<T)(hg:ia.cC s.wait s.cr s.gone=0)(hw:s.wait.length<=2199)(w:World)(B:bP)(hR:n' B λw=>xS w x m vo vn vt vp vr va vg)
 (hm:Mem B [qQ g vo (ey m.o vn vt) (eD m.g.aT m.g.bx vp m.mode vr va vg) s ut (jt b s up uq) uw,kB b up s.p,jJ uw s.wait] w):
 Calls aE 67 #[aK (aj ⟨g,0,ak⟩),az aB (t:Int)] w (cZ (psX b g vo (ey m.o vn vt) (eD m.g.aT m.g.bx vp m.mode vr va vg) (qA m b s (t:Int)) ut uq) B):=by
 cases b
 ·exact Hh x m T N hk g s hp GV PQ t ha ht hg hw w B hR hm
 ·exact Hg x m T N hk g s hp GV PQ t ha ht hg hw w B hR hm
theorem OA(x:Value)(m:Md){vo vn vt vp vr va vg ut up uq uw:Value}(b:Bool)(T N:Nat)(hk:fS m b T N)(g:Nat)(s:fx)(hp:G_ m b s.p)(GV:s.rz=0)(PQ:s.sj=aF)(ha:s.seen<=1000000)(hg:ia.cC s.wait s.cr s.gone=0)(hw:s.wait.length<=2199)(w:World)(B:bP)(hR:n' B λw=>xS w x m vo vn vt vp vr va vg)
 (hm:Mem B [qQ g vo (ey m.o vn vt) (eD m.g.aT m.g.bx vp m.mode vr va vg) s ut (jt b s up uq) uw,kB b up s.p,jJ uw s.wait] w):
 Calls aE 70 #[aK (aj ⟨g,0,ak⟩)] w (cZ (psX b g vo (ey m.o vn vt) (eD m.g.aT m.g.bx vp m.mode vr va vg) (qj m b s) ut uq) B):=by
 cases b
 ·exact K_ x m T N hk g s hp GV PQ ha hg hw w B hR hm
 ·exact K9 x m T N hk g s hp GV PQ ha hg hw w B hR hm
set_option maxRecDepth 100000 in
theorem OB(x:Value)(m:Md){vo vn vt vp vr va vg ut up uq uw:Value}(b:Bool)(T N:Nat)(hk:fS m b T N)(g:Nat)(s:fx)(hs:ic m b s)(lz:s.over=aF)(t:Tok)(l:List Tok)(oB:s.eb=t::l)(hw:s.wait.length<200)(w:World)(B:bP)(hR:n' B λw=>xS w x m vo vn vt vp vr va vg)
 (hm:Mem B (f_ b g vo (ey m.o vn vt) (eD m.g.aT m.g.bx vp m.mode vr va vg) s ut up uq uw) w):
 Calls aE 35 #[aK (aj ⟨g,0,ak⟩)] w (cZ (uc b g vo (ey m.o vn vt) (eD m.g.aT m.g.bx vp m.mode vr va vg) (g_ m b s) uq) B):=by
 have dE:(ey m.o vn vt).length=258:=fh _ _ _;obtain⟨l1,l2,l3⟩:=hs.live lz;have LN:=AK hs;have hse:s.seen<=4096:=by have:=hs.seen;have:=hs.jV;have:=hs.tY;have:=hs.jT;omega
 have htr:=hs.tok t (by rw[oB];exact List.mem_cons_self ..);have MA:=(hR _ w hm).of;have KJ:=hk.ofs;have htT:=hk.tT;have hpu:=λoV n hn w' B hR hm=>La x m (ut:=oV) (up:=up) (uq:=uq) (uw:=uw) (vo:=vo) (vn:=vn) (vt:=vt) (vp:=vp) (vr:=vr) (va:=va) (vg:=vg) b T N hk g {s with eb:=l} l3 l1 l2 n (by show s.seen<=_;omega) hn LN (by show s.wait.length<=_;omega) w' B hR hm;have htd:=λ(s':fx) oV K4 pc' (e:Int) pl h8 w' B hm=>K' (g:=g) (vo:=vo) (vt:=oV) (vw:=K4) (pc:=pc') dE (show(eD m.g.aT m.g.bx vp m.mode vr va vg).length=7 from I) h8 s' e pl w' B hm;have DT:g_ m b s=if ma m t<0 then {s with eb:=l}else qP (qA m b {s with eb:=l} (ma m t)).1 (qA m b {s with eb:=l} (ma m t)).2 t.2.1:=by
  unfold g_;rw[oB]
 rw[DT];have lX:=hm.get (i:=1) I;unfold f_ at hm;rw[oB]at hm lX;obtain⟨bt,off,cap,rfl,lf⟩:=Sq lX (E3 _);obtain⟨r0,fr,tt⟩:=t;dsimp only at htr;obtain⟨r,rfl⟩:∃r:Nat,r0=r:=⟨r0.toNat,by omega⟩;obtain⟨ao,co,rfl,mJ,CP,Xa⟩:=MA;obtain⟨b1,o1,rfl,hro⟩:=Xa J;have hr:r<m.of.length:=by omega
 have ajm:∀L:List b9,At B L ⟨b1,o1+r*1+0,ak⟩ (az aB m.of[r]):=λL w' qu=>by
  obtain⟨ao',co',e,_,_,eR⟩:=(hR L w' qu).of
  cases e
  obtain⟨b2,o2,e,hro⟩:=eR J
  cases e
  have:=hro (r*1+0) (az aB m.of[r]) (by rw[uQ KM m.of r 0 hr aln];rfl)
  rwa [<-kF]at this
 have hxx:=KJ _ (cH hr);have hox:ma m ((r:Int),fr,tt)=m.of[r]:=by unfold ma;rw[de,show((r:Int),fr,tt).1.toNat=r from I,bM hr,jD]
 rw[hox];generalize m.of[r]=x at*;clear DT hox hro Xa KJ hs lX;unfold maxLen at CP;simp only[dj]at hm lf;have gK:∀(L:List b9) (i:Nat),L[i]?=aj (toP (av (aj ⟨bt,off,ak⟩) (l.length+1) cap) (((r:Int),fr,tt)::l))->∀j u,(jg ((r:Int),fr,tt))[j]?=aj u->At B L ⟨bt,off+0*3+j,ak⟩ u:=λL i hi j u hu=>by
  rw[A1,lO];exact Wg hi (ahj hu)
 cases b
 all_goals
  refine du hm (args:=[aK (aj ⟨g,0,ak⟩)]) (n:=160) Tryz.func35 I I I ?_
  repeat(first|refine GA ?_|refine gV (aC aL.ty I (aI (i:=0) I (fB dE I I))) ?_|refine gV (aZ (j:=0) bQ.eq aL.ty I I (E3 _)) ?_|refine gV (aY aL.ty I I (gK _ 1 I)) ?_)
  refine a8 I λg2=>?_;refine zL ?_;refine gG 4 (cs':=(jg ((r:Int),fr,tt)).toArray) ?_;refine zL ?_
  repeat(first|refine GC ?_|refine gV (aC aL.ty I (aI (i:=0) I (fB dE I I))) ?_|refine gV (rI (i:=1) bQ.eq aL.ty I I (Sm (bH _)) lf) ?_|refine GB ?_)
  refine ef (i:=0) 17 I I I I I I dE I ?_;refine aaU 1 I ?_;refine zL ?_
  by_cases c1:x<0
  ·rw[if_pos c1]
   try refine GA ?_
   refine dH ([qQ g (av (aj ⟨b1,o1,ak⟩) m.of.length co) (ey m.o vn vt) (eD m.g.aT m.g.bx vp m.mode vr va vg) {s with eb:=l} (sN (aj ⟨bt,off,ak⟩) cap 3 1 (l.length+1)) (jt _ s up uq) uw,aR g2 (jg ((r:Int),fr,tt)).toArray 102]) (.calm 0 (.calm 1 (.calm 2 (.calm 3 (.calm 4 (.calm 5 (.calm 6 (.calm 7 (.calm 8 (.calm 9 (.done))))))))))) (bV [0,4]) ?_
   repeat(first|refine GW ?_|(refine GN ?_;first|refine QW (aC (v:=av (aj ⟨b1,o1,ak⟩) m.of.length co) aL.ty I (aI (i:=0) I I)) ?_|refine QW (aC (v:=az aB (r:Int)) aL.ty I (aI (i:=1) I I)) ?_|refine QW (aZ bQ.eq aL.ty I I hr) ?_|refine QW (aC (v:=az aB x) aL.ty I (ajm _)) ?_))
   try refine GA ?_
   exact lR I λw hm=>hm.b_ (S:=uc _ g (av (aj ⟨b1,o1,ak⟩) m.of.length co) (ey m.o vn vt) (eD m.g.aT m.g.bx vp m.mode vr va vg) {s with eb:=l} uq) (sN (aj ⟨bt,off,ak⟩) cap 3 1 (l.length+1),up,uw) trivial [0,1,2,3] aln rfl
  ·rw[if_neg c1]
   obtain⟨tn,rfl⟩:∃tn:Nat,x=tn:=⟨x.toNat,by omega⟩;have hpu:=λoV w' B hR hm=>hpu oV tn J w' B hR hm;generalize ahk:qA m _ {s with eb:=l} (tn:Int)=R at*;have hRt:R.1.eb=l:=by rw[<-ahk];rfl
   have hRp:(qP R.1 R.2 fr).p=R.1.p/\(qP R.1 R.2 fr).wait=R.1.wait/\(qP R.1 R.2 fr).eb=l/\∀b vp' vq,jt b (qP R.1 R.2 fr) vp' vq=jt b R.1 vp' vq:=by
    unfold qP;split<;>exact⟨rfl,rfl,hRt,λ_ _ _=>rfl⟩
   obtain⟨R1,R2⟩:=R;obtain⟨q1,q2,q3,q4⟩:=hRp;dsimp only at q1 q2 q3 q4 hRt⊢
   try refine GA ?_
   refine dH ([qQ g (av (aj ⟨b1,o1,ak⟩) m.of.length co) (ey m.o vn vt) (eD m.g.aT m.g.bx vp m.mode vr va vg) {s with eb:=l} (sN (aj ⟨bt,off,ak⟩) cap 3 1 (l.length+1)) (jt _ s up uq) uw,aR g2 (jg ((r:Int),fr,tt)).toArray 102]) (.calm 0 (.calm 1 (.calm 2 (.calm 3 (.calm 4 (.calm 5 (.calm 6 (.calm 7 (.calm 8 (.calm 9 (.done))))))))))) (bV [0,4]) ?_
   repeat(first|refine GW ?_|(refine GN ?_;first|refine QW (aC (v:=av (aj ⟨b1,o1,ak⟩) m.of.length co) aL.ty I (aI (i:=0) I I)) ?_|refine QW (aC (v:=az aB (r:Int)) aL.ty I (aI (i:=1) I I)) ?_|refine QW (aZ bQ.eq aL.ty I I hr) ?_|refine QW (aC (v:=az aB (tn:Int)) aL.ty I (ajm _)) ?_))
   try refine GA ?_
   refine dH ([aR g2 (jg ((r:Int),fr,tt)).toArray 102]) (.calm 0 (.calm 1 (.calm 2 (.calm 4 (.calm 5 (.one 3 (.one 6 (.done)))))))) (bV [4]) ?_
   repeat(first|refine GW ?_|(refine GN ?_;first|refine QW (aC (v:=az aB (fr:Int)) aL.ty I (aI (i:=0) I I)) ?_))
   refine aM I (bz [0,2,3] [1,4] aln I I (fC aJ.en I I I) (λw hm hb=>hpu _ w _ (hR.on (hm.pick [0,2,3] aln I)) hb) I I I ?_);rintro⟨v1,v2⟩ _
   conv=>arg 8;simp only[zJ,cD,ret,id_eq,psX]
   conv=>arg 7;simp only[psX]
   refine aO (bV [1]) ?_;refine aM I (bz [3] [0,1,2,4] aln I I (qq aJ.en I I I I) (λw hm hb=>htd R1 _ v2 _ R2 fr I w _ hb) I I I ?_);intro _ _;refine zL ?_;refine aO (bV [1]) ?_
   try refine GW ?_
   try refine GA ?_
   exact lR I λw hm=>hm.b_ (S:=uc _ g (av (aj ⟨b1,o1,ak⟩) m.of.length co) (ey m.o vn vt) (eD m.g.aT m.g.bx vp m.mode vr va vg) (qP R1 R2 fr) uq) (_,v1,v2) trivial [4,0,2,3] aln (by simp only[uc,f_,q1,q2,q3,q4];rfl)
set_option maxRecDepth 100000 in
theorem OC(x:Value)(m:Md){vo vn vt vp vr va vg ut up uq uw:Value}(b:Bool)(T N:Nat)(hk:fS m b T N)(g:Nat)(s:fx)(hs:ic m b s)(lz:s.over=aF)(oB:s.eb=[])(hb:s.bad≠0)(w:World)(B:bP)(hR:n' B λw=>xS w x m vo vn vt vp vr va vg)
 (hm:Mem B (f_ b g vo (ey m.o vn vt) (eD m.g.aT m.g.bx vp m.mode vr va vg) s ut up uq uw) w):
 Calls aE 35 #[aK (aj ⟨g,0,ak⟩)] w (cZ (uc b g vo (ey m.o vn vt) (eD m.g.aT m.g.bx vp m.mode vr va vg) (g_ m b s) uq) B):=by
 have dE:(ey m.o vn vt).length=258:=fh _ _ _;obtain⟨l1,l2,l3⟩:=hs.live lz;have LH:s.dZ<=4096:=by have:=hs.tY;have:=hs.jT;omega
 unfold f_ at hm;have hst:=λw' B hm=>oZ (g:=g) (vo:=vo) (vt:=ut) (vw:=uw) (pc:=jt b s up uq) dE (show(eD m.g.aT m.g.bx vp m.mode vr va vg).length=7 from I) (by cases b<;>rfl) s s.bad s.dy w' B hm;have DT:g_ m b s=jW s s.bad s.dy:=by unfold g_;rw[oB];dsimp only;rw[if_pos hb]
 rw[DT];rw[oB]at hm;obtain⟨at',ct,rfl,-⟩:=mw (hm.get (i:=1) rfl);simp only[iv]at hm;have ahk:(jW s s.bad s.dy).eb=[]:=oB;clear DT hs
 cases b
 all_goals
  refine du hm (args:=[aK (aj ⟨g,0,ak⟩)]) (n:=160) Tryz.func35 I I I ?_
  repeat(first|refine GA ?_|refine gV (aC aL.ty I (aI (i:=0) I (fB dE I I))) ?_)
  refine dH ([nr g (gZ vo (ey m.o vn vt) (eD m.g.aT m.g.bx vp m.mode vr va vg++[az aB s.jT,az aB s.mz,az aB s.dZ,str s.jV,.bool s.ended,.bool s.kP,az aB s.dy,str s.iU,az aB s.lz,az aB s.bad])) 119]) (.calm 0 (.calm 1 (.calm 2 (.calm 3 (.calm 4 (.calm 5 (.calm 6 (.calm 7 (.calm 8 (.calm 9 (.one 10 (.done)))))))))))) (cI (i:=0) I (Oy _ _ _ s _ _ _)) ?_
  repeat(first|refine GW ?_|(refine GN ?_;first|refine QW (aC aL.ty I (fj (i:=0) I (fB dE I I))) ?_))
  refine aM I (bz [0] [1,2,3] aln I I (qq aJ.en I I I I) (λw hm hb=>hst w _ hb) I I I ?_);intro _ _;refine zL ?_;refine aO (cI (i:=3) I (Oy _ _ _ (jW s s.bad s.dy) _ _ _)) ?_
  try refine GW ?_
  try refine GA ?_
  exact lR I λw hm=>hm.b_ (S:=uc _ g vo (ey m.o vn vt) (eD m.g.aT m.g.bx vp m.mode vr va vg) (jW s s.bad s.dy) uq) (_,up,uw) trivial [3,0,1,2] aln (by simp only[uc,f_,ahk];rfl)
set_option maxRecDepth 100000 in
theorem Lb(x:Value)(m:Md){vo vn vt vp vr va vg ut up uq uw:Value}(b:Bool)(T N:Nat)(hk:fS m b T N)(g:Nat)(s:fx)(hs:ic m b s)(lz:s.over=aF)(oB:s.eb=[])(hb:s.bad=0)(c:UInt8)(r:List UInt8)(Gt:s.jV=c::r)(w:World)(B:bP)(hR:n' B λw=>xS w x m vo vn vt vp vr va vg)
 (hm:Mem B (f_ b g vo (ey m.o vn vt) (eD m.g.aT m.g.bx vp m.mode vr va vg) s ut up uq uw) w):
 Calls aE 35 #[aK (aj ⟨g,0,ak⟩)] w (cZ (uc b g vo (ey m.o vn vt) (eD m.g.aT m.g.bx vp m.mode vr va vg) (g_ m b s) uq) B):=by
 have dE:(ey m.o vn vt).length=258:=fh _ _ _;obtain⟨l1,l2,l3⟩:=hs.live lz;have LH:s.dZ<=4096:=by have:=hs.tY;have:=hs.jT;omega
 unfold f_ at hm;have ue:s.kP=false:=by
  cases h:s.kP with
  |false=>rfl
  |true=>have:=(hs.kP h).1;rw[Gt]at this;cases this
 have hho:=hs.lz hb ue;have hfd:=λw' (hm:RW w' vn vt m.N m.tags)=>G' m.o vn vt m.N m.tags s.dy s.iU [c] w' hm hk.lI hk.byte (by have:=hs.jV;omega) hs.iU (by simp);rw[show C3 m.o vn vt=aQ (ey m.o vn vt).toArray from I]at hfd;have J8:(dA m.o m.N m.tags [c] s.dy s.iU).1.length<=1000000:=by
  have:=AB (o:=m.o) (N:=m.N) (tags:=m.tags) [c] s.dy s.iU;have:=hs.jV;have:=hs.iU;simp only[kO]at*;omega
 have DT:g_ m b s=IM m s c r:=by unfold g_;rw[oB,Gt];dsimp only;rw[if_neg (by rw[hb];decide)]
 rw[DT];unfold IM AC;obtain⟨at',ct,rfl,q1,q2,-⟩:=mw (hm.get (i:=1) rfl);clear DT hs;obtain⟨jT,mz,dZ,jV,ended,kP,dy,iU,lz,bad,eb,p,seen,rz,sj,wait,cr,gone,over,fq,pl⟩:=s;dsimp only at*;subst oB hb Gt hho ue lz;simp only[iv]at hm;dsimp only[qQ,rv,kD,e7]at hm;generalize dA m.o m.N m.tags [c] dy iU=D at*;obtain⟨D1,D2,D3,D4⟩:=D;dsimp only at*;generalize ey m.o vn vt=PK at*;obtain⟨a0,a1,a2,a3,a4,a5,a6,a7,xB⟩:=R8 b ⟨jT,mz,dZ,c::r,ended,aF,dy,iU,0,0,[],p,seen,rz,sj,wait,cr,gone,aF,fq,pl⟩ up uq;rw[xB]at hm;refine du hm (args:=[aK (aj ⟨g,0,ak⟩)]) (n:=160) Tryz.func35 I I I ?_
 repeat(first|refine GC ?_|refine gV (aC aL.ty I (aI (i:=0) I (fB dE I I))) ?_|refine gV (k9 (b:=aD) I I I) ?_|refine gV (yf (j:=1) bQ.eq I I (Sm (bH _))) ?_|refine gV (sH (i:=1) bQ.eq I I (Sm (bH _))) ?_|refine GB ?_)
 refine tH (i:=0) 10 (tl':=eD m.g.aT m.g.bx vp m.mode vr va vg++rv ⟨jT,mz,dZ,r,ended,aF,dy,iU,0,0,[],p,seen,rz,sj,wait,cr,gone,aF,fq,pl⟩ _ [a0,a1,a2,a3,a4,a5,a6,a7] uw) I I I I I I dE I I ?_
 try refine GA ?_
 refine dH ([nr g (gZ vo PK (eD m.g.aT m.g.bx vp m.mode vr va vg)) 119]) (.calm 0 (.calm 1 (.calm 2 (.calm 3 (.calm 4 (.calm 5 (.calm 6 (.calm 7 (.calm 8 (.calm 9 (.calm 11 (.one 10 (.one 12 (.calm 13 (.calm 14 (.calm 15 (.calm 16 (.calm 17 (.calm 18 (.one 19 (.calm 20 (.calm 21 (.calm 22 (.one 23 (.done))))))))))))))))))))))))) (cI (i:=0) I (dB _ _ _ _)) ?_
 repeat(first|refine GW ?_|(refine GN ?_;first|refine QW (aY (cs:=PK) aL.ty I dE (λj v h=>fj (i:=0) I (FX dE h))) ?_))
 refine aM I (dm (aY (cs:=io (dy:Int) iU 0) aL.ty I I (λj v h=>aI (i:=0) I (e9 13 dE I h J))) I I I (aO (cI (i:=0) I (dB _ _ _ _)) ?_))
 try refine GW ?_
 refine aM I (aU (qq aJ.en I I I I) (λw hm=>hfd w (hR _ w hm).pk) I I I ?_);intro v1 _
 conv=>arg 8;simp only[zJ,cD,ret,id_eq,IS]
 conv=>arg 7;simp only[IS]
 refine aO (cI (i:=0) I (dB _ _ _ _)) ?_
 try refine GW ?_
 refine aM I (eO (i:=0) 13 (cs:=io (D2:Int) D3 D4) (tl':=eD m.g.aT m.g.bx vp m.mode vr va vg++rv ⟨jT,mz,dZ,r,ended,aF,D2,D3,D4,0,[],p,seen,rz,sj,wait,cr,gone,aF,fq,pl⟩ _ [a0,a1,a2,a3,a4,a5,a6,a7] uw) I I I I I I dE I I ?_);refine zL ?_;refine aO (cI (i:=0) I (dB _ _ _ _)) ?_
 try refine GW ?_
 refine aM I (tH (i:=0) 16 (tl':=eD m.g.aT m.g.bx vp m.mode vr va vg++rv ⟨jT,mz,dZ,r,ended,aF,D2,D3,D4,D4,[],p,seen,rz,sj,wait,cr,gone,aF,fq,pl⟩ _ [a0,a1,a2,a3,a4,a5,a6,a7] uw) I I I I I I dE I I ?_);refine aO (cI (i:=0) I (dB _ _ _ _)) ?_
 try refine GW ?_
 repeat(first|refine GA ?_|refine gV (aC aL.ty I (aI (i:=0) I (fB dE I I))) ?_)
 refine TZ (i:=1) (j:=4) I I I I (Oz _) (by simp only[iv];omega) (by simp only[iv];omega) I λv2=>?_;refine TY (i:=1) I λb2 c2 l_ _ _ _=>?_
 try refine GA ?_
 refine ef (i:=0) 17 I I I (by rw[l_];rfl) (by rw[l_];rfl) I dE I ?_
 try refine GA ?_
 exact lR I λw hm=>hm.b_ (S:=uc b g vo PK (eD m.g.aT m.g.bx vp m.mode vr va vg) ⟨jT,mz,dZ,r,ended,aF,D2,D3,D4,D4,D1,p,seen,rz,sj,wait,cr,gone,aF,fq,pl⟩ uq) (v2,up,uw) trivial [0,1,2,3] aln (by
  have ahl:jt b ⟨jT,mz,dZ,r,ended,aF,D2,D3,D4,D4,D1,p,seen,rz,sj,wait,cr,gone,aF,fq,pl⟩ up uq=[a0,a1,a2,a3,a4,a5,a6,a7]:=xB;simp only[uc,f_,ahl,toP,iv,cX,ace,e7];rfl)
set_option maxRecDepth 100000 in
theorem Hj(x:Value)(m:Md){vo vn vt vp vr va vg ut up uq uw:Value}(b:Bool)(T N:Nat)(hk:fS m b T N)(g:Nat)(s:fx)(hs:ic m b s)(lz:s.over=aF)(oB:s.eb=[])(hb:s.bad=0)(Gt:s.jV=[])(ue:s.kP=aF)(w:World)(B:bP)(hR:n' B λw=>xS w x m vo vn vt vp vr va vg)
 (hm:Mem B (f_ b g vo (ey m.o vn vt) (eD m.g.aT m.g.bx vp m.mode vr va vg) s ut up uq uw) w):
 Calls aE 35 #[aK (aj ⟨g,0,ak⟩)] w (cZ (uc b g vo (ey m.o vn vt) (eD m.g.aT m.g.bx vp m.mode vr va vg) (g_ m b s) uq) B):=by
 have dE:(ey m.o vn vt).length=258:=fh _ _ _;obtain⟨l1,l2,l3⟩:=hs.live lz;have LH:s.dZ<=4096:=by have:=hs.tY;have:=hs.jT;omega
 unfold f_ at hm;have hho:=hs.lz hb ue;have hfd:=λw' (hm:RW w' vn vt m.N m.tags)=>Hi m.o vn vt m.N m.tags s.dy s.iU w' hm hk.lI hk.byte (by have:=hs.jV;omega) hs.iU;rw[show C3 m.o vn vt=aQ (ey m.o vn vt).toArray from I]at hfd;have J8:(iw m.o m.N m.tags (s.iU.length+1) s.dy s.iU).1.length<=1000000:=by
  have:=Dz (o:=m.o) (N:=m.N) (tags:=m.tags) (s.iU.length+1) s.dy s.iU;have:=hs.jV;have:=hs.iU;omega
 have DT:g_ m b s=BX m s:=by unfold g_;rw[oB,Gt];dsimp only;rw[if_neg (by rw[hb];decide),if_pos ue]
 rw[DT];unfold BX wS;obtain⟨at',ct,rfl,q1,q2,-⟩:=mw (hm.get (i:=1) rfl);clear DT hs;obtain⟨jT,mz,dZ,jV,ended,kP,dy,iU,lz,bad,eb,p,seen,rz,sj,wait,cr,gone,over,fq,pl⟩:=s;dsimp only at*;subst oB hb Gt hho ue lz;simp only[iv]at hm;dsimp only[qQ,rv,kD,e7]at hm;generalize iw m.o m.N m.tags (iU.length+1) dy iU=D at*;obtain⟨D1,D2,D4⟩:=D;dsimp only at*;generalize ey m.o vn vt=PK at*;obtain⟨a0,a1,a2,a3,a4,a5,a6,a7,xB⟩:=R8 b ⟨jT,mz,dZ,[],ended,aF,dy,iU,0,0,[],p,seen,rz,sj,wait,cr,gone,aF,fq,pl⟩ up uq;rw[xB]at hm;refine du hm (args:=[aK (aj ⟨g,0,ak⟩)]) (n:=160) Tryz.func35 I I I ?_
 repeat(first|refine GC ?_|refine gV (aC aL.ty I (aI (i:=0) I (fB dE I I))) ?_|refine gV (k9 (b:=aF) I I I) ?_|refine GB ?_)
 refine tH (i:=0) 12 (tl':=eD m.g.aT m.g.bx vp m.mode vr va vg++rv ⟨jT,mz,dZ,[],ended,aD,dy,iU,0,0,[],p,seen,rz,sj,wait,cr,gone,aF,fq,pl⟩ _ [a0,a1,a2,a3,a4,a5,a6,a7] uw) I I I I I I dE I I ?_
 try refine GA ?_
 refine dH ([nr g (gZ vo PK (eD m.g.aT m.g.bx vp m.mode vr va vg)) 119]) (.calm 0 (.calm 1 (.calm 2 (.calm 3 (.calm 4 (.calm 5 (.calm 6 (.calm 7 (.calm 8 (.calm 9 (.one 10 (.one 11 (.calm 12 (.calm 13 (.calm 14 (.calm 15 (.calm 16 (.calm 17 (.one 18 (.calm 19 (.calm 20 (.calm 21 (.one 22 (.done)))))))))))))))))))))))) (cI (i:=0) I (dB _ _ _ _)) ?_
 repeat(first|refine GW ?_|(refine GN ?_;first|refine QW (aY (cs:=PK) aL.ty I dE (λj v h=>fj (i:=0) I (FX dE h))) ?_))
 refine aM I (dm (aY (cs:=io (dy:Int) iU 0) aL.ty I I (λj v h=>aI (i:=0) I (e9 13 dE I h J))) I I I (aO (cI (i:=0) I (dB _ _ _ _)) ?_))
 try refine GW ?_
 refine aM I (aU (fC aJ.en I I I) (λw hm=>hfd w (hR _ w hm).pk) I I I ?_);intro v1 _
 conv=>arg 8;simp only[zJ,cD,ret,id_eq,Gb]
 conv=>arg 7;simp only[Gb]
 refine aO (cI (i:=0) I (dB _ _ _ _)) ?_
 try refine GW ?_
 refine aM I (eO (i:=0) 13 (cs:=io (D2:Int) [] (if D4=0 then 15 else 9)) (tl':=eD m.g.aT m.g.bx vp m.mode vr va vg++rv ⟨jT,mz,dZ,[],ended,aD,D2,[],if D4=0 then 15 else 9,0,[],p,seen,rz,sj,wait,cr,gone,aF,fq,pl⟩ _ [a0,a1,a2,a3,a4,a5,a6,a7] uw) I I I I I I dE I I ?_);refine zL ?_;refine aO (cI (i:=0) I (dB _ _ _ _)) ?_
 try refine GW ?_
 refine aM I (tH (i:=0) 16 (tl':=eD m.g.aT m.g.bx vp m.mode vr va vg++rv ⟨jT,mz,dZ,[],ended,aD,D2,[],if D4=0 then 15 else 9,D4,[],p,seen,rz,sj,wait,cr,gone,aF,fq,pl⟩ _ [a0,a1,a2,a3,a4,a5,a6,a7] uw) I I I I I I dE I I ?_);refine aO (cI (i:=0) I (dB _ _ _ _)) ?_
 try refine GW ?_
 repeat(first|refine GA ?_|refine gV (aC aL.ty I (aI (i:=0) I (fB dE I I))) ?_)
 refine TZ (i:=1) (j:=4) I I I I (Oz _) (by simp only[iv];omega) (by simp only[iv];omega) I λv2=>?_;refine TY (i:=1) I λb2 c2 l_ _ _ _=>?_
 try refine GA ?_
 refine ef (i:=0) 17 I I I (by rw[l_];rfl) (by rw[l_];rfl) I dE I ?_
 try refine GA ?_
 exact lR I λw hm=>hm.b_ (S:=uc b g vo PK (eD m.g.aT m.g.bx vp m.mode vr va vg) ⟨jT,mz,dZ,[],ended,aD,D2,[],if D4=0 then 15 else 9,D4,D1,p,seen,rz,sj,wait,cr,gone,aF,fq,pl⟩ uq) (v2,up,uw) trivial [0,1,2,3] aln (by
  have ahl:jt b ⟨jT,mz,dZ,[],ended,aD,D2,[],if D4=0 then 15 else 9,D4,D1,p,seen,rz,sj,wait,cr,gone,aF,fq,pl⟩ up uq=[a0,a1,a2,a3,a4,a5,a6,a7]:=xB;simp only[uc,f_,ahl,toP,iv,cX,ace,e7];rfl)
set_option maxRecDepth 100000 in
theorem OD(x:Value)(m:Md){vo vn vt vp vr va vg ut up uq uw:Value}(b:Bool)(T N:Nat)(hk:fS m b T N)(g:Nat)(s:fx)(hs:ic m b s)(lz:s.over=aF)(oB:s.eb=[])(hb:s.bad=0)(Gt:s.jV=[])(ue:s.kP=aD)(hw:s.wait.length<200)(w:World)(B:bP)(hR:n' B λw=>xS w x m vo vn vt vp vr va vg)
 (hm:Mem B (f_ b g vo (ey m.o vn vt) (eD m.g.aT m.g.bx vp m.mode vr va vg) s ut up uq uw) w):
 Calls aE 35 #[aK (aj ⟨g,0,ak⟩)] w (cZ (uc b g vo (ey m.o vn vt) (eD m.g.aT m.g.bx vp m.mode vr va vg) (g_ m b s) uq) B):=by
 have dE:(ey m.o vn vt).length=258:=fh _ _ _;obtain⟨l1,l2,l3⟩:=hs.live lz;have LH:s.dZ<=4096:=by have:=hs.tY;have:=hs.jT;omega
 unfold f_ at hm;have LN:=AK hs;have hse:s.seen<=4096:=by have:=hs.seen;have:=hs.jV;omega
 have Xg:=λoV w' B hR hm=>OA x m (ut:=oV) (up:=up) (uq:=uq) (uw:=uw) (vo:=vo) (vn:=vn) (vt:=vt) (vp:=vp) (vr:=vr) (va:=va) (vg:=vg) b T N hk g s l3 l1 l2 J LN J w' B hR hm;have hst:=λ(s':fx) oV K4 pc' (e:Int) pl h8 w' B hm=>oZ (g:=g) (vo:=vo) (vt:=oV) (vw:=K4) (pc:=pc') dE (show(eD m.g.aT m.g.bx vp m.mode vr va vg).length=7 from I) h8 s' e pl w' B hm;have DT:g_ m b s=jW (qj m b s).1 (qj m b s).2 s.dZ:=by unfold g_;rw[oB,Gt];dsimp only;rw[if_neg (by rw[hb];decide),if_neg (by rw[ue];decide)]
 rw[DT];have hR1:(qj m b s).1.dZ=s.dZ/\(qj m b s).1.eb=[]:=⟨rfl,oB⟩;obtain⟨at',ct,rfl,q1,q2,-⟩:=mw (hm.get (i:=1) rfl);generalize qj m b s=R at*;obtain⟨R1,R2⟩:=R;obtain⟨e1,e2⟩:=hR1;dsimp only at e1 e2 Xg⊢;clear DT hs;have Af:∀vp' vq,(jt b R1 vp' vq).length=8:=by cases b<;>exact λ_ _=>rfl
 have zu:(jW R1 R2 s.dZ).p=R1.p/\(jW R1 R2 s.dZ).wait=R1.wait/\(jW R1 R2 s.dZ).eb=[]/\∀vp' vq,jt b (jW R1 R2 s.dZ) vp' vq=jt b R1 vp' vq:=⟨rfl,rfl,e2,λ_ _=>rfl⟩;obtain⟨s1,s2,s3,s4⟩:=zu;rw[oB]at hm;simp only[iv]at hm;obtain⟨a0,a1,a2,a3,a4,a5,a6,a7,xB⟩:=R8 b s up uq;rw[xB]at hm;have Xg:=λoV w' B hR (hm:Mem B [qQ g vo (ey m.o vn vt) (eD m.g.aT m.g.bx vp m.mode vr va vg) s oV [a0,a1,a2,a3,a4,a5,a6,a7] uw,kB b up s.p,jJ uw s.wait] w')=>Xg oV w' B hR (by rw[xB];exact hm);refine du hm (args:=[aK (aj ⟨g,0,ak⟩)]) (n:=160) Tryz.func35 I I I ?_
 repeat(first|refine GC ?_|refine gV (aC (v:=az aB 0) aL.ty I (aI (i:=0) I (fB dE I (by rw[<-hb];rfl)))) ?_|refine gV (aC (v:=str []) aL.ty I (aI (i:=0) I (fB dE I (by rw[<-Gt];rfl)))) ?_|refine gV (aC (v:= .bool aD) aL.ty I (aI (i:=0) I (fB dE I (by rw[<-ue];rfl)))) ?_|refine gV (aC aL.ty I (aI (i:=0) I (fB dE I I))) ?_|refine gV (k9 (b:=aF) I I I) ?_|refine GB ?_)
 refine bz [0,2,3] [1] aln I I (ja aJ.en I I) (λw hm hb=>Xg _ w _ (hR.on (hm.pick [0,2,3] aln I)) hb) I I I ?_;rintro⟨v1,v2⟩ _
 conv=>arg 8;simp only[zJ,cD,ret,id_eq,psX]
 conv=>arg 7;simp only[psX]
 repeat(first|refine GA ?_|refine gV (aC (v:=az aB (s.dZ:Int)) aL.ty I (aI (i:=2) I (fB dE I (by rw[<-e1];rfl)))) ?_)
 refine bz [2] [0,1,3] aln I I (qq aJ.en I I I I) (λw hm hb=>hst R1 _ v2 _ R2 s.dZ (Af _ _) w _ hb) I I I ?_;intro _ _;refine zL ?_
 try refine GA ?_
 exact lR I λw hm=>hm.b_ (S:=uc b g vo (ey m.o vn vt) (eD m.g.aT m.g.bx vp m.mode vr va vg) (jW R1 R2 s.dZ) uq) (_,v1,v2) trivial [3,0,1,2] aln (by simp only[uc,f_,s1,s2,s3,s4];rfl)
theorem Lc(x:Value)(m:Md){vo vn vt vp vr va vg ut up uq uw:Value}(b:Bool)(T N:Nat)(hk:fS m b T N)(g:Nat)(s:fx)(hs:ic m b s)(lz:s.over=aF)(hw:s.wait.length<200)(w:World)(B:bP)(hR:n' B λw=>xS w x m vo vn vt vp vr va vg)
 (hm:Mem B (f_ b g vo (ey m.o vn vt) (eD m.g.aT m.g.bx vp m.mode vr va vg) s ut up uq uw) w):
 Calls aE 35 #[aK (aj ⟨g,0,ak⟩)] w (cZ (uc b g vo (ey m.o vn vt) (eD m.g.aT m.g.bx vp m.mode vr va vg) (g_ m b s) uq) B):=by
 cases h1:s.eb with
 |cons t l=>exact OB x m b T N hk g s hs lz t l h1 hw w B hR hm
 | nil =>
  by_cases h2:s.bad=0
  ·cases h3:s.jV with
   |cons c r=>exact Lb x m b T N hk g s hs lz h1 h2 c r h3 w B hR hm
   | nil=>
    cases h4:s.kP with
    |false=>exact Hj x m b T N hk g s hs lz h1 h2 h3 h4 w B hR hm
    |true=>exact OD x m b T N hk g s hs lz h1 h2 h3 h4 hw w B hR hm
  exact OC x m b T N hk g s hs lz h1 h2 w B hR hm
open ia (Ev qM takeN)
theorem sn(b:Bool)(s:fx)(vp vq:Value):(jt b s vp vq).length=8:=by cases b<;>rfl
theorem Gc{b:Bool}{g:Nat}{vo:Value}{pk md:List Value}{ut up uq uw:Value}{m:Md}(dE:pk.length=258)(oY:md.length=7)(s:fx)(hs:ic m b s)(B:bP)(w:World)(hm:Mem B (f_ b g vo pk md s ut up uq uw) w):
 Calls aE 34 #[aK (aj ⟨g,0,ak⟩)] w (bX (ret (.bool (iy s))) w):=by
 obtain⟨a1,c1,e1,_⟩:=mw (hm.get (i:=1) rfl);obtain⟨a2,c2,e2⟩:=K7 (hm.get (i:=3) rfl);exact Hb dE oY (sn b s up uq) s (by have:=hs.seen;have:=hs.jV;have:=hs.tY;have:=hs.jT;omega) ⟨a1,c1,e1⟩ ⟨a2,c2,e2⟩ (by have:=hs.wl;omega) w (hm.get (i:=0) I)
def wkS(b:Bool)(g:Nat)(vo:Value)(pk md:List Value)(R:fx×Nat)(uq:Value):Spec (Value×Value×Value):=⟨λ_=>True,λ_=>az aB (R.2:Int),λx=>f_ b g vo pk md R.1 x.1 x.2.1 uq x.2.2⟩
theorem UA{m:Md}{b:Bool}{k:Nat}{s:fx}(h:iy s=aF\/k=0):eE m b k s=(s,0):=by
 cases k with
 |zero=>rfl
 |succ k=>rw[eE,if_neg (by rcases h with h|h;rw[h];decide;cases h)]
theorem aeH{m:Md}{b:Bool}{k:Nat}{s:fx}(h:iy s=aD):eE m b (k+1) s=((eE m b k (g_ m b s)).1,(eE m b k (g_ m b s)).2+1):=by rw[eE,if_pos h]
set_option maxRecDepth 100000 in
theorem Ld(x:Value)(m:Md){vo vn vt vp vr va vg ut up uq uw:Value}(b:Bool)(T N:Nat)(hk:fS m b T N)(g:Nat)(s:fx)(hs:ic m b s)(ri:Int)(qX:ri<=9223372036854775807)(w:World)(B:bP)(hR:n' B λw=>xS w x m vo vn vt vp vr va vg)
 (hm:Mem B (f_ b g vo (ey m.o vn vt) (eD m.g.aT m.g.bx vp m.mode vr va vg) s ut up uq uw) w):
 Calls aE 14 #[aK (aj ⟨g,0,ak⟩),az aB ri] w (cZ (wkS b g vo (ey m.o vn vt) (eD m.g.aT m.g.bx vp m.mode vr va vg) (eE m b ri.toNat s) uq) B):=by
 have dE:(ey m.o vn vt).length=258:=fh _ _ _;have DT:=λs' (h1:ic m b s') h2 h3 ut' up' uw' w' B hR hm=>Lc x m (vo:=vo) (vn:=vn) (vt:=vt) (vp:=vp) (vr:=vr) (va:=va) (vg:=vg) (ut:=ut') (up:=up') (uq:=uq) (uw:=uw') b T N hk g s' h1 h2 h3 w' B hR hm;have eR:=λs' (h1:ic m b s') ut' up' uw' B w' (hm:Mem B (f_ b g vo (ey m.o vn vt) (eD m.g.aT m.g.bx vp m.mode vr va vg) s' ut' up' uq uw') w')=>Gc (m:=m) dE I s' h1 B w' hm;have kV:=λ(s':fx) h1 h2=>Ut hk (s:=s') h1 h2;generalize hE:eE m b ri.toNat s=E;generalize ey m.o vn vt=PK at*;generalize eD m.g.aT m.g.bx vp m.mode vr va vg=MT at*;refine du hm (args:=[aK (aj ⟨g,0,ak⟩),az aB ri]) (n:=18) Tryz.func14 I I I ?_
 try refine GA ?_
 refine d_ (ι:=Nat×fx×Value×Value×Value) (λ(k,s',_)=>(k:Int)<=max 0 ri/\ic m b s'/\((eE m b (ri.toNat-k) s').1,k+(eE m b (ri.toNat-k) s').2)=E) (λ(k,_)=>[(0,aK (aj ⟨g,0,ak⟩)),(1,az aB ri),(5,az aB (k:Int))])
  (λ(_,s',ut',up',uw')=>f_ b g vo PK MT s' ut' up' uq uw') (λ(k,_)=>ri.toNat-k) (0,s,ut,up,uw) ⟨by omega,hs,by subst hE;rw[E0,cX]⟩ ?_
 clear hE hs;rintro⟨k,s',ut',up',uw'⟩ ⟨i1,i2,i3⟩;dsimp only at i1 i2 i3⊢
 by_cases c:(k:Int)<ri
 ·have eR:=eR s' i2 ut' up' uw'
  cases hr:iy s' with
  |true=>
   rw[hr]at eR;obtain⟨r1,r2,_⟩:=sk hr;rw[show ri.toNat-k=(ri.toNat-(k+1))+1 by omega,aeH hr]at i3
   try refine GA ?_
   refine k7 (ja aJ.en I I) (λw hm=>eR B w hm) I I I I I ?_;intro _ _;refine zL ?_
   try refine GA ?_
   refine bz [0,1,2,3] [] aln I I (ja aJ.en I I) (λw hm hb=>DT s' i2 r1 r2 _ _ _ w _ (hR.on (hm.pick [0,1,2,3] aln I)) hb) I I I ?_;rintro⟨v1,v2,v3⟩ _
   conv=>arg 8;simp only[zJ,cD,ret,id_eq,uc]
   try refine GA ?_
   exact bW (k+1,g_ m b s',v1,v2,v3) ⟨by omega,kV s' i2 hr,by rw[<-i3];dsimp only;rw[kF,Nat.add_comm 1]⟩ (by show ri.toNat-(k+1)<ri.toNat-k;omega)
  |false=>
   rw[hr]at eR;rw[UA (.inl hr)]at i3;subst i3
   try refine GA ?_
   refine k7 (ja aJ.en I I) (λw hm=>eR B w hm) I I I I I ?_;intro _ _;refine zL ?_
   try refine GA ?_
   exact cJ I I λw hm=>hm.b_ (S:=wkS b g vo PK MT (s',k+0) uq) (ut',up',uw') trivial [0,1,2,3] aln I
 ·rw[UA (.inr J)]at i3
  subst i3
  try refine GA ?_
  exact cJ I I λw hm=>hm.b_ (S:=wkS b g vo PK MT (s',k+0) uq) (ut',up',uw') trivial [0,1,2,3] aln I
theorem aeI(l:List bI.Act):∀u∈l.flatMap jE,u.oneCell'=true:=by
 intro u hu;obtain⟨x,_,h⟩:=vd.1 hu;simp only[jE,dM,fz,or_false]at h;rcases h with rfl|rfl<;>rfl
theorem acg(a:bI.Act):(jE a).length=2:=rfl
theorem C8(v:Value)(l:List bI.Act)(w:World)(hs:Sl w v l.length (l.flatMap jE))(hl:l.length*16<=140737488355328):
 Calls aE 94 #[v] w (bX (cD 162 2 l.length (l.flatMap jE) id) w):=by
 obtain⟨base,cap,rfl,lf,jL,eR⟩:=hs;unfold maxLen at jL;refine enter (args:=[av base l.length cap]) (n:=8) Tryz.func94 I I I ?_;have rQ:∀w',Gr w w'->Sl w' (av base l.length cap) l.length (l.flatMap jE):=λw' hg=>Sl.gr ⟨base,cap,rfl,lf,jL,eR⟩ hg;clear eR
 cases base with
 | none=>
  repeat(first|refine GC ?_|refine gV (ku bQ.eq I I I) ?_|refine GB ?_)
  have h0:l=[]:=by
   cases l with
   |nil=>rfl
   |cons x l=>obtain⟨_,_,h,_,_,h2⟩:=rQ w (Gr.refl w);simp only[jN]at h;obtain⟨rfl,_⟩:=h;obtain⟨b,off,h,_⟩:=h2 (by simp);cases h
  subst h0;refine dJ 162 2 ?_;exact cJ I I λw hm=>hm.meets (S:=cD 162 2 0 [] id) _ trivial [0] aln I
 |some p=>
  repeat(first|refine GC ?_|refine gV (ku bQ.eq I I I) ?_|refine GB ?_)
  refine wX I λg=>?_
  try refine GA ?_
  refine ee (i:=0) I (λw' hm=>rQ w' hm.below) I I (k_ acg l) (aeI l) J J I λv'=>?_;rw[e7]
  try refine GA ?_
  refine cJ I I λw hm=>?_;exact hm.meets (S:=cD 162 2 l.length (l.flatMap jE) id) v' trivial [0] aln (by simp[cD])
abbrev CI{α:Type}(s:wY α)(N:List (List α)):Spec (Value×(Nat->Prop)):=⟨λx=>∃a c,x.1=av a N.length c,λx=>x.1,λx=>[GG (bR (bR s)) x.2 [x.1] N]⟩
theorem OE{w:World}{v:Value}{l:List Int}(hp:∀x∈l,cL.dV x)(h:(a_ 3 1 v l.length (l.flatMap cL.eJ)).holds w):(bR fP).is (λk=>v.ownBlock=aj k) w [v] l:=
 ⟨v,rfl,kw.of_flat (Sl.dx h) hp (λ_ h=>h) (λa n cp hv=>by rw[hv];rfl)⟩
theorem tI(v:Value)(N:List (List Int))(w:World)(h:kw (bR fP) (qo w) w v N)(hn:N.length<=1000000)(hl:∀r∈N,r.length<=1000000):
 Calls aE 60 #[v] w (bX (CI fP N) w):=by
 obtain⟨bv,cv,rfl,JE,Gv,hrv⟩:=h;unfold maxLen at Gv;refine enter (args:=[av bv N.length cv]) (n:=19) Tryz.func60 I I I ?_
 try refine GA ?_
 refine iz 26 1 (mP (eo (bR fP) (λ_=>False) [] []) (λk hk=>hk.elim (λh=>by cases h) id) (λw=>jM) ?_);refine d_ (ι:=Nat×Value×List (List Value)×(Nat->Prop)) (λ(k,_,_,_)=>k<=N.length) (λ(k,vo,_,_)=>[(3,vo),(6,av bv N.length cv),(7,az aB N.length),(8,az aB (k:Int))])
  (λ(k,vo,gH,F)=>[a_ 26 1 vo k gH.flatten,eo (bR fP) F gH (N.take k)]) (λ(k,_,_,_)=>N.length-k) (0,av ak 0 0,[],λ_=>False) (bH _) ?_
 rintro⟨k,vo,gH,F⟩ i1;dsimp only at i1⊢
 by_cases c:k<N.length
 ·obtain⟨b,off,rfl,_,hr⟩:=hrv J
  obtain⟨cs,⟨vx,rfl,hx⟩,eR⟩:=hr k c;have dy:∀(L:List b9),At w L ⟨b,off+k*1,ak⟩ vx:=λL=>iP (j:=0) eR I;have Lt:=hl _ (cH c);have oB:N.take (k+1)=N.take k++[N[k]]:=gv c;have jU:=λw' (hg:Gr w w')=>ky vx N[k] w' ((hx.flat aln).gr hg) J;have kV:=hx.okp;generalize N[k]=l at*;clear hr eR hrv hx
  repeat(first|refine GA ?_|refine gV (aZ bQ.eq aL.ty I I c) ?_|refine gV (aC (v:=vx) aL.ty I (dy _)) ?_)
  refine aU (ja aJ.en I I) (λw hm=>jU _ hm.below) I I I ?_;intro v1 _;refine zL ?_;refine aX (i:=2) I λhu1 hu2=>?_;refine iA (i:=0) I I hu1 hu2 I I (λz h=>by cases h;rfl) J J I λz xt=>?_;refine zL ?_;refine pB (eo (bR fP) (λk=>F k\/v1.ownBlock=aj k) (gH++[[v1]]) (N.take k++[l])) 2 1 [0] aln I I I (λk hk=>hk.elim (λh=>by cases h) λh=>h.elim (λh=> .inr (.inr h)) λh=> .inl (.inl h)) (λw hr he=>?_) ?_;exact mO he (OE kV hr) λk hk=>(a_ 3 1 v1 l.length (l.flatMap cL.eJ)).lt w hr k (.inl hk);refine zL ?_
  try refine GA ?_
  exact bW (k+1,xt,gH++[[v1]],λk=>F k\/v1.ownBlock=aj k) (by show k+1<=N.length;omega) (by show N.length-(k+1)<N.length-k;omega) (hl:=by rw[oB,qc];rfl)
 ·obtain rfl:k=N.length:=by omega
  rw[gT (bC _)];refine Jq (i:=0) I λbase cap hv _ _=>?_
  try refine GA ?_
  refine wZ (GG (bR (bR fP)) (YM F vo) [vo] N) 0 1 [] aln I I I (λk hk=>hk.elim (λh=>by cases h) λh=>h.elim (λh=> .inr (.inr h)) λh=> .inl (.inl h)) (λw hr he=>?_) ?_;exact⟨⟨vo,rfl,yj (s:=bR fP) hr he aln⟩,yl hr he⟩;exact cJ I I λw hm=>hm.meets (S:=CI fP N) (vo,YM F vo) ⟨base,cap,hv⟩ [0] aln I
theorem Le(v:Value)(N:List (List bI.Act))(w:World)(h:kw (bR wF) (qo w) w v N)(hn:N.length<=1000000)(hl:∀r∈N,r.length<=1000000):
 Calls aE 62 #[v] w (bX (CI wF N) w):=by
 obtain⟨bv,cv,rfl,JE,Gv,hrv⟩:=h;unfold maxLen at Gv;refine enter (args:=[av bv N.length cv]) (n:=19) Tryz.func62 I I I ?_
 try refine GA ?_
 refine iz 160 1 (mP (eo (bR wF) (λ_=>False) [] []) (λk hk=>hk.elim (λh=>by cases h) id) (λw=>jM) ?_);refine d_ (ι:=Nat×Value×List (List Value)×(Nat->Prop)) (λ(k,_,_,_)=>k<=N.length) (λ(k,vo,_,_)=>[(3,vo),(6,av bv N.length cv),(7,az aB N.length),(8,az aB (k:Int))])
  (λ(k,vo,gH,F)=>[a_ 160 1 vo k gH.flatten,eo (bR wF) F gH (N.take k)]) (λ(k,_,_,_)=>N.length-k) (0,av ak 0 0,[],λ_=>False) (bH _) ?_
 rintro⟨k,vo,gH,F⟩ i1;dsimp only at i1⊢
 by_cases c:k<N.length
 ·obtain⟨b,off,rfl,_,hr⟩:=hrv J
  obtain⟨cs,⟨vx,rfl,hx⟩,eR⟩:=hr k c;have dy:∀(L:List b9),At w L ⟨b,off+k*1,ak⟩ vx:=λL=>iP (j:=0) eR I;have Lt:=hl _ (cH c);have oB:N.take (k+1)=N.take k++[N[k]]:=gv c;have jU:=λw' (hg:Gr w w')=>C8 vx N[k] w' ((hx.flat aln).gr hg) J;have kV:=hx.okp;generalize N[k]=l at*;clear hr eR hrv hx
  repeat(first|refine GA ?_|refine gV (aZ bQ.eq aL.ty I I c) ?_|refine gV (aC (v:=vx) aL.ty I (dy _)) ?_)
  refine aU (ja aJ.en I I) (λw hm=>jU _ hm.below) I I I ?_;intro v1 _;refine zL ?_;refine aX (i:=2) I λhu1 hu2=>?_;refine iA (i:=0) I I hu1 hu2 I I (λz h=>by cases h;rfl) J J I λz xt=>?_;refine zL ?_;refine pB (eo (bR wF) (λk=>F k\/v1.ownBlock=aj k) (gH++[[v1]]) (N.take k++[l])) 2 1 [0] aln I I I (λk hk=>hk.elim (λh=>by cases h) λh=>h.elim (λh=> .inr (.inr h)) λh=> .inl (.inl h)) (λw hr he=>?_) ?_;exact mO he (FB hr) λk hk=>(a_ 162 2 v1 l.length (l.flatMap jE)).lt w hr k (.inl hk);refine zL ?_
  try refine GA ?_
  exact bW (k+1,xt,gH++[[v1]],λk=>F k\/v1.ownBlock=aj k) (by show k+1<=N.length;omega) (by show N.length-(k+1)<N.length-k;omega) (hl:=by rw[oB,qc];rfl)
 ·obtain rfl:k=N.length:=by omega
  rw[gT (bC _)];refine Jq (i:=0) I λbase cap hv _ _=>?_
  try refine GA ?_
  refine wZ (GG (bR (bR wF)) (YM F vo) [vo] N) 0 1 [] aln I I I (λk hk=>hk.elim (λh=>by cases h) λh=>h.elim (λh=> .inr (.inr h)) λh=> .inl (.inl h)) (λw hr he=>?_) ?_;exact⟨⟨vo,rfl,yj (s:=bR wF) hr he aln⟩,yl hr he⟩;exact cJ I I λw hm=>hm.meets (S:=CI wF N) (vo,YM F vo) ⟨base,cap,hv⟩ [0] aln I
section
variable{P:Program}{n:Nat}{W:bP}{fr:Fr}{L:List b9}{dst:Option Tmp}{ty:TypeId}{pos:String}{after:Array Edge}{guard:Option (Nat×Bool)}
def UB(P:Program)(t:TypeId)(v:Value)(name:String)(f:FuncId):Prop:=∀w,(method (P.types.size+ab9) t v name).run P w= .ok (f,v) w
def ajn(P:Program)(t:TypeId)(v:Value)(name:String):Prop:=∀w,(nilAhead (P.types.size+ab9) t v name).run P w= .ok (aj aF) w
theorem aeJ{x:Operand}{name:String}{t:TypeId}{v:Value}{cap:Array Value}(hx:ev fr x=aj (.func (.method name) #[.iface t v] cap))(hn:ajn P t v name):RR P n W ⟨dst,.nilCheck x,ty,pos,after,guard⟩ fr L (.func (.method name) #[.iface t v] cap):= .mk λa w hr _=>by
 have hn':=hn w;simp only[execOp,hr.ev hx];simp[hn']
theorem UC{t:TypeId}{x:Operand}{v u:Value}(hx:ev fr x=aj v)(h:∀w,(ab8 t v).run P w= .ok u w):RR P n W ⟨dst,.makeInterface t x,ty,pos,after,guard⟩ fr L u:= .mk λa w hr _=>by
 have h':=h w;simp[execOp,hr.ev hx,h']
theorem ajo{name:String}{t:TypeId}{v:Value}{f:FuncId}{x:Operand}{ts:Array TypeId}(hf:Enters P f)(hx:ev fr x=aj (.iface t v))(hm:UB P t v name f):∀a w,na n a fr->(execOp a.eval ⟨dst,.call {callee:= .invoke x name,args:=#[],argTypes:=ts},ty,pos,after,guard⟩).run P w= .ok (.enter f #[v]) w:=λa w hr=>by
 have C9:∀args w,(callFunc f args).run P w= .ok (.enter f args) w:=hf;have qu:=hm w;simp[execOp,resolve,hr.ev hx,invoke,callMethod,qu,C9]
theorem ajp{name:String}{t:TypeId}{v v1:Value}{f:FuncId}{x x1:Operand}{ts:Array TypeId}(hf:Enters P f)(hx:ev fr x=aj (.iface t v))(h1:ev fr x1=aj v1)(hm:UB P t v name f):∀a w,na n a fr->(execOp a.eval ⟨dst,.call {callee:= .invoke x name,args:=#[x1],argTypes:=ts},ty,pos,after,guard⟩).run P w= .ok (.enter f #[v,v1]) w:=λa w hr=>by
 have C9:∀args w,(callFunc f args).run P w= .ok (.enter f args) w:=hf;have qu:=hm w;simp[execOp,resolve,hr.ev hx,hr.ev h1,invoke,callMethod,qu,C9]
end
abbrev paT(b:Bool):TypeId:=if b then 172 else 175
abbrev paB(b:Bool):TypeId:=if b then 174 else 177
abbrev Sr(b:Bool):FuncId:=if b then 196 else 198
abbrev ach(b:Bool):FuncId:=if b then 195 else 197
theorem WW(b:Bool)(a:Addr):ajn aE (paT b) (aK (aj a)) "pushmill/whole.push" :=λw=>by cases b<;>kernel_rfl
theorem Ge(b:Bool)(a:Addr):UB aE (paT b) (aK (aj a)) "pushmill/whole.push" (Sr b):=λw=>by cases b<;>kernel_rfl
theorem I1(b:Bool)(a:Addr):UB aE (paT b) (aK (aj a)) "pushmill/whole.end" (ach b):=λw=>by cases b<;>kernel_rfl
theorem UD(b:Bool)(a:Addr)(w:World):(ab8 (paT b) (aK (aj a))).run aE w= .ok (.iface (paT b) (aK (aj a))) w:=by cases b<;>kernel_rfl
theorem CJ(b:Bool):Enters aE (Sr b):=by cases b<;>exact Enters.of (by kernel_rfl)
theorem Gf(b:Bool):Enters aE (ach b):=by cases b<;>exact Enters.of (by kernel_rfl)
theorem Gg{P:Program}{t:TypeId}{fields:Array Field}{z:Value}{pl:Array (Nat×Nat)}{parts:Array (Nat×Value)}{c:Array Value}{w:World}(hz:(zeroValue t).run P w= .ok z w)(hu:(underlying t).run P w= .ok (.struct fields) w)
 (hp:(fields.mapM λf=>do pure (f.offset,<-sizeOf f.type):Sem (Array (Nat×Nat))).run P w= .ok pl w) (hf:jv (pl[·]?) z.cells parts.toList=aj c):(dg t parts).run P w= .ok (.agg c) w:=by
 simp_all[dg]
theorem Gh(off:Nat):∀(vs:List Value) (k:Nat) (cs:List Value),off+k+vs.length<=cs.length->(vs.zipIdx k).foldl (λcs (c,j)=>cs.setIfInBounds (off+j) c) cs.toArray=(cs.take (off+k)++vs++cs.drop (off+k+vs.length)).toArray
 |[],k,cs,_=>by simp
 |v::vs,k,cs,h=>by
  simp only[dj]at h;rw[List.zipIdx_cons,List.foldl_cons];dsimp only;rw[uC,Gh off vs (k+1) _ (by grind)]
  congr 1
  rw[show off+(k+1)=off+k+1 by omega,List.take_set,List.drop_set_of_lt J,dj,show off+k+(vs.length+1)=off+k+1+vs.length by omega,List.take_add_one,List.set_append_right _ _ (by grind)];have:(off+k)<cs.length:=by omega
  simp_all[Nat.le_of_lt]
theorem B2{place:Nat->Option (Nat×Nat)}{i off m:Nat}{cells a:List Value}{rest:List (Nat×Value)}(h0:place i=aj (off,m))(ha:a.length=m)(hc:off+m<=cells.length):jv place cells.toArray ((i,aQ a.toArray)::rest)=jv place (cells.take off++a++cells.drop (off+m)).toArray rest:=by
 subst ha;have:=Gh off a 0 cells J;rw[lO]at this;rw[jv,h0];show(if _ then ak else _)=_
 rw[if_neg (by grind[tp])]
 simp_all[tp]
def paZ(b:Value):List Value:=([av ak 0 0]:List Value)++dl 256 (az .u8 0)++([av ak 0 0,av ak 0 0,az aB 0,az aB 0,av ak 0 0,az aB 0,av ak 0 0,av ak 0 0,av ak 0 0,av ak 0 0,az aB 0,az aB 0,b]:List Value)
theorem aeK(b:Value):(paZ b).length=270:=by
 unfold paZ;rw[bK,bK,acd];rfl
set_option maxRecDepth 100000 in
theorem aci(b:Bool){vo v:Value}{pk tl:List Value}(dE:pk.length=258)(htl:tl.length=7)(w:World):(dg (paB b) #[(0,aQ (gZ vo pk tl).toArray),(1,uj v 0 0 aF)]).run aE w= .ok (aQ (gZ vo pk (tl++[v,az aB 0,az aB 0,.bool aF])).toArray) w:=by
 have hz:(zeroValue (paB b)).run aE w= .ok (aQ (paZ (.bool aF)).toArray) w:=by cases b<;>kernel_rfl
 have hu:∃fields,(underlying (paB b)).run aE w= .ok (.struct fields) w/\(fields.mapM λf=>do pure (f.offset,<-sizeOf f.type):Sem (Array (Nat×Nat))).run aE w= .ok #[(0,266),(266,4)] w:=by cases b<;>exact⟨_,rfl,by kernel_rfl⟩
 obtain⟨fields,hu,hp⟩:=hu;have hl:(gZ vo pk tl).length=266:=by rw[gZ,dj,bK];omega
 refine Gg hz hu hp ?_;show jv _ (paZ (.bool aF)).toArray [(0,aQ (gZ vo pk tl).toArray),(1,aQ [v,az aB 0,az aB 0,.bool aF].toArray)]=_
 have hz:=aeK (.bool aF);generalize paZ (.bool aF)=Z at*;rw[B2 (m:=266) I hl J,B2 (m:=4) I I (by rw[bK,bK,jz,iT];omega)];rw[jv,uD,e7,cX,List.take_append_of_le_length J,gT J,acf,jx J,jx (by rw[iT];omega)];simp[gZ]
def bgS(b:Bool)(vo:Value)(pk tl:List Value):Spec (Nat×Value):=⟨λ_=>True,λx=> .iface (paT b) (aK (aj ⟨x.1,0,ak⟩)),λx=>[ng x.1 vo pk tl x.2 0 0 aF (paB b),kB b x.2 Uo]⟩
set_option maxRecDepth 100000 in
theorem Lf(b:Bool){vo:Value}{pk:List Value}{t n md:Int}{vp vr va vg:Value}(dE:pk.length=258)(oY:md=if b then 1 else 2)(w:World):
 Calls aE 27 #[aQ (gZ vo pk (eD t n vp md vr va vg)).toArray] w (bX (bgS b vo pk (eD t n vp md vr va vg)) w):=by
 have hb:=λv=>aci b (vo:=vo) (v:=v) dE (show(eD t n vp md vr va vg).length=7 from I)
 cases b with
 |true=>
  subst oY;refine enter (args:=[aQ (gZ vo pk (eD t n vp (if aD=aD then 1 else 2) vr va vg)).toArray]) (n:=16) Tryz.func27 I I I ?_;refine cB (bD (bL I I I λg1=>?_));refine zL ?_
  repeat(first|refine GA ?_|refine gV (aC (v:=az aB 1) aL.ty I (aI (i:=0) I (im 3 dE I I))) ?_)
  refine dH ([aR g1 (gZ vo pk (eD t n vp 1 vr va vg)).toArray 38]) (.calm 0 (.one 1 (.calm 2 (.one 3 (.calm 4 (.calm 5 (.done))))))) (bV [0]) ?_
  repeat(first|refine GW ?_|(refine GN ?_;first|refine QW (aP (i:=0) aL.ty I I (i_ dE I)) ?_))
  refine aM I ?_;refine aU (he0 aJ.en I) (λw hm=>se w) I I I ?_;intro vt _
  conv=>arg 8;simp only[zJ,cD,ret,id_eq,xe]
  conv=>arg 7;simp only[xe]
  refine aO (bV [0]) ?_
  repeat(first|refine GW ?_|(refine GN ?_;first|refine QW (bB I (hb vt)) ?_))
  refine aM I (bL I I I λg2=>?_);refine zL ?_;refine aO (bV [0]) ?_
  repeat(first|refine GW ?_|(refine GN ?_;first|refine QW (UC I (UD aD _)) ?_))
  try refine GA ?_
  exact cJ I I λw hm=>hm.meets (S:=bgS aD vo pk (eD t n vp 1 vr va vg)) (g2,vt) trivial [2,1] aln I
 |false=>
  subst oY;refine enter (args:=[aQ (gZ vo pk (eD t n vp (if aF=aD then 1 else 2) vr va vg)).toArray]) (n:=16) Tryz.func27 I I I ?_;refine cB (bD (bL I I I λg1=>?_));refine zL ?_
  repeat(first|refine GA ?_|refine gV (aC (v:=az aB 2) aL.ty I (aI (i:=0) I (im 3 dE I I))) ?_)
  refine dH ([aR g1 (gZ vo pk (eD t n vp 2 vr va vg)).toArray 38]) (.calm 0 (.one 1 (.calm 2 (.one 3 (.calm 4 (.calm 5 (.done))))))) (bV [0]) ?_
  repeat(first|refine GW ?_|(refine GN ?_;first|refine QW (aP (i:=0) aL.ty I I (i_ dE I)) ?_))
  refine aM I ?_;refine aU (he0 aJ.en I) (λw hm=>xR w) I I I ?_;intro vt _
  conv=>arg 8;simp only[zJ,cD,ret,id_eq,xd]
  conv=>arg 7;simp only[xd]
  refine aO (bV [0]) ?_
  repeat(first|refine GW ?_|(refine GN ?_;first|refine QW (bB I (hb vt)) ?_))
  refine aM I (bL I I I λg2=>?_);refine zL ?_;refine aO (bV [0]) ?_
  repeat(first|refine GW ?_|(refine GN ?_;first|refine QW (UC I (UD aF _)) ?_))
  try refine GA ?_
  exact cJ I I λw hm=>hm.meets (S:=bgS aF vo pk (eD t n vp 2 vr va vg)) (g2,vt) trivial [2,1] aln I
theorem xS.gr{w w':World}{v:Value}{m:Md}{vo vn vt vp vr va vg:Value}(h:xS w v m vo vn vt vp vr va vg)(hg:Gr w w'):xS w' v m vo vn vt vp vr va vg:=
 ⟨h.val,h.of.gr hg,h.pk.gr hg,h.xz.gr hg,tc h.rows hg,h.ox.gr hg⟩
theorem Lg(w0:World)(x:Value)(m:Md)(T N:Nat)(b:Bool){vo vn vt vp vr va vg:Value}(hv:xS w0 x m vo vn vt vp vr va vg)(hk:fS m b T N)(g:Nat)(v:Value)(p:PS)(hp:G_ m b p)(a t:Nat)(ha:a<=1000000)(ht:t<T)(w:World)(B:bP)(ho:mI w0 B)
 (hm:Mem B [ng g vo (ey m.o vn vt) (eD m.g.aT m.g.bx vp m.mode vr va vg) v a 0 aF (paB b),kB b v p] w):
 Calls aE (Sr b) #[aK (aj ⟨g,0,ak⟩),az aB (t:Int)] w (cZ (WO b (paB b) g vo (ey m.o vn vt) (eD m.g.aT m.g.bx vp m.mode vr va vg) a (fa m b p a (t:Int))) B):=by
 cases b
 ·exact K1 w0 x m T N hv hk g v p hp a t ha ht w B ho hm
 ·exact K0 w0 x m T N hv hk g v p hp a t ha ht w B ho hm
theorem OF(w0:World)(x:Value)(m:Md)(T N:Nat)(b:Bool){vo vn vt vp vr va vg:Value}(hv:xS w0 x m vo vn vt vp vr va vg)(hk:fS m b T N)(g:Nat)(v:Value)(p:PS)(hp:G_ m b p)(a:Nat)(ha:a<=1000000)(w:World)(B:bP)(ho:mI w0 B)
 (hm:Mem B [ng g vo (ey m.o vn vt) (eD m.g.aT m.g.bx vp m.mode vr va vg) v a 0 aF (paB b),kB b v p] w):
 Calls aE (ach b) #[aK (aj ⟨g,0,ak⟩)] w (cZ (WQ g vo (ey m.o vn vt) (eD m.g.aT m.g.bx vp m.mode vr va vg) a (m_ m b p a) (paB b)) B):=by
 cases b
 ·exact Om w0 x m T N hv hk g v p hp a ha w B ho hm
 ·exact Ol w0 x m T N hv hk g v p hp a ha w B ho hm
def UE(vo:Value)(R:List dw×Int×Nat):Array Value:=#[vo,az aB R.2.1,az aB (R.2.2:Int)]
def Gi(R:List dw×Int×Nat):Spec Value:=⟨λ_=>True,λvo=> .tuple #[.agg (UE vo R),az aB 0],λvo=>[jJ vo R.1]⟩
theorem wU{v:Value}{a b:Int}(h:v.oneCell'=aD):(#[v,az aB a,az aB b]:Array Value).toList.all ft=true:=by
 simp only[c_,db,h];rfl
theorem aeL(m:Md)(b:Bool)(p:PS)(a:Nat)(out:List dw):IJ m b [] p a out=(ak,out,p,a):=rfl
attribute [local irreducible] Instr.build in
set_option maxRecDepth 100000 in
theorem OG(x:Value)(m:Md)(b:Bool)(T N:Nat){vo vn vt vp vr va vg:Value}(s:List UInt8)(w:World)(h:xS w x m vo vn vt vp vr va vg)(hk:fS m b T N)(hs:s.length<=2000):
 Calls aE 8 #[x,str s] w (bX (Gi (jh m b s)) w):=by
 have dE:(ey m.o vn vt).length=258:=fh _ _ _;have hrt:=λw' (hw:Gr w w')=>As x m w' (h.gr hw) hk.toMdGood;have UO:=λw' (hw:Gr w w')=>WE m.o vn vt m.N m.tags s w' (h.pk.gr hw) hk.byte J;rw[Um hk.lI hs,show C3 m.o vn vt=aQ (ey m.o vn vt).toArray from I]at UO;have A7:=λw'=>Lf b (vo:=vo) (pk:=ey m.o vn vt) (t:=m.g.aT) (n:=m.g.bx) (vp:=vp) (vr:=vr) (va:=va) (vg:=vg) dE hk.md w';have ajq:=λg v p hp a t ha ht w' B (ho:mI w B) hm=>Lg w x m T N b h hk g v p hp a t ha ht w' B ho hm;have agI:=λg v p hp a ha w' B (ho:mI w B) hm=>OF w x m T N b h hk g v p hp a ha w' B ho hm;have vh:=λ(p:PS) hp a t ht h0=>sh (b:=b) hk (p:=p) hp (a:=a) (t:=t) ht h0;have acj:=FZ (o:=m.o) (N:=m.N) (tags:=m.tags) (n:=(m.of.length:Int)) (by have:=hk.some;omega) hk.tag s (s.length+1) 0;have J8:=abM (o:=m.o) (N:=m.N) (tags:=m.tags) s;have hb5:=h.of;have aeM:=afp hk;have ahm:=λ(p:PS) hp a=>Aw (b:=b) hk (p:=p) hp (a:=a);have KJ:=hk.ofs;have htT:=hk.tT;obtain⟨ao,co,rfl,mJ,CP,Xa⟩:=hb5;unfold jh;rw[show je m.o m.N m.tags s (s.length+1) 0=oX m.o m.N m.tags s from I]at acj;generalize oX m.o m.N m.tags s=R at*;obtain⟨l,at',e⟩:=R;obtain rfl:=h.val;clear h hk;generalize ey m.o vn vt=PK at*;generalize hG:kq m b (l,at',e) s.length=G;refine enter (args:=[aQ (gZ (av ao m.of.length co) PK (eD m.g.aT m.g.bx vp m.mode vr va vg)).toArray,str s]) (n:=102) Tryz.func8 I I I ?_;refine cB (bD (bL I I I λg2=>a8 I λg4=>?_));refine zL ?_
 repeat(first|refine GA ?_|refine gV (aP (i:=0) aL.ty I I (i_ dE I)) ?_)
 refine aU (ja aJ.en I I) (λw hm=>hrt _ hm.below) I I I ?_;intro _ _;refine zL ?_
 repeat(first|refine GA ?_|refine gV (aY (cs:=PK) aL.ty I dE (λj v h=>aI (i:=0) I (FX dE h))) ?_)
 refine aU (fC aJ.en I I I) (λw hm=>UO _ hm.below) I I I ?_;intro vl _
 conv=>arg 8;simp only[zJ,cD,ret,id_eq,KO]
 conv=>arg 7;simp only[KO]
 repeat(first|refine GA ?_|refine gV (aP (i:=0) aL.ty I I (i_ dE I)) ?_)
 refine aU (ja aJ.en I I) (λw hm=>A7 _) I I I ?_;rintro⟨g5,vq⟩ _
 conv=>arg 8;simp only[zJ,cD,ret,id_eq,bgS]
 conv=>arg 7;simp only[bgS]
 try refine GA ?_
 refine a8 I λg11=>?_;refine zL ?_
 repeat(first|refine GC ?_|refine gV (e_ (i:=2) bQ.eq I I) ?_|refine GB ?_)
 refine YP (i:=2) I λGl cl hv q1 q2 q3=>?_;subst hv;refine iz 54 2 ?_;obtain⟨f1,f2⟩:=J8;dsimp only at f1 f2;have hG0:∀R,IJ m b l Uo 0 []=R->kq m b (l,at',e) s.length=match R with|(aj x,out,_,_)=>(out,x)|(ak,out,p,a)=>if e≠0 then(out,e,at')else(out++(m_ m b p a).2,(m_ m b p a).1,s.length):=λR h=>by subst h;rfl
 generalize hR0:IJ m b l Uo 0 []=R0 at hG0;refine tW [0,1,2,3,4,5,6] ?_;refine d_ (ι:=Nat×Nat×PS×List dw×Value×Value) (λ(k,a,p,out,_,_)=>k<=l.length/\IJ m b (l.drop k) p a out=R0/\G_ m b p/\a<=k/\out.length<=k*2001)
  (λ(k,_,_,_,_,_)=>[(1,str s),(2,aK (aj ⟨g2,0,ak⟩)),(4,aK (aj ⟨g4,0,ak⟩)),(8,az aB (at':Int)),(9,az aB e),(10,.iface (paT b) (aK (aj ⟨g5,0,ak⟩))),(11,aK (aj ⟨g11,0,ak⟩)),(38,av (gA Gl) l.length cl),(39,az aB l.length),(40,az aB (k:Int))])
  (λ(_,a,p,out,vq,vo)=>[aR g2 (gZ (av ao m.of.length co) PK (eD m.g.aT m.g.bx vp m.mode vr va vg)).toArray 38,aR g4 #[av ak 0 0,az aB 0,az aB 0] 48,wQ (av (gA Gl) l.length cl) l,ng g5 (av ao m.of.length co) PK (eD m.g.aT m.g.bx vp m.mode vr va vg) vq a 0 aF (paB b),kB b vq p,aR g11 #[vo,az aB 0,az aB 0] 48,jJ vo out]) (λ(k,_,_,_,_,_)=>l.length-k) (0,0,Uo,[],vq,av ak 0 0)
  ⟨bH _,hR0,aeM,bC _,by simp⟩ ?_
 clear hR0;rintro⟨k,a,p,out,vq,vo⟩ ⟨i1,i2,i3,i4,i5⟩;dsimp only at i1 i2 i3 i4 i5⊢
 by_cases c:k<l.length
 ·obtain⟨gl,rfl⟩:∃gl,Gl=aj gl:=by
   cases Gl with
   |none=>have:=q3 I;omega
   |some gl=>exact⟨gl,rfl⟩
  obtain⟨r1,r2⟩:=acj _ (cH c);rw[eH c,qf]at i2;have dy:=λ(W:bP) (L:List b9) (i:Nat) (hi:L[i]?=aj (wQ (av (aj ⟨gl,0,ak⟩) l.length cl) l))=>λ(j:Nat) (u:Value) (h:(jg l[k])[j]?=aj u)=>pz (W:=W) abK hi c j u h;generalize l[k]=t at*;obtain⟨r0,fr,tt⟩:=t;dsimp only at r1 r2 dy;obtain⟨r,rfl⟩:∃r:Nat,r0=r:=⟨r0.toNat,by omega⟩;obtain⟨b1,o1,rfl,hro⟩:=Xa J;have hr:r<m.of.length:=by omega
  have MA:=λ(L:List b9)=>gd (L:=L) KM hro hr 0 _ I;have hx:=KJ _ (cH hr);have hox:ma m ((r:Int),fr,tt)=m.of[r]:=by unfold ma;rw[de,show((r:Int),fr,tt).1.toNat=r from I,bM hr,jD]
  rw[hox]at i2;generalize m.of[r]=x at*;clear hox hro Xa acj
  repeat(first|refine GA ?_|refine gV (aZ bQ.eq aL.ty I I c) ?_|refine gV (aY aL.ty I I (dy _ _ 2 I)) ?_)
  refine a8 I λg13=>?_;refine zL ?_
  try refine GA ?_
  refine gG 7 (cs':=(jg ((r:Int),fr,tt)).toArray) ?_;refine zL ?_
  by_cases c1:x<0
  ·rw[if_pos c1]at i2
   repeat(first|refine GA ?_|refine gV (aC (v:=av (aj ⟨b1,o1,ak⟩) m.of.length co) aL.ty I (aI (i:=0) I I)) ?_|refine gV (aC (v:=az aB (r:Int)) aL.ty I (aI (i:=7) I I)) ?_|refine gV (aZ bQ.eq aL.ty I I hr) ?_|refine gV (aC (v:=az aB x) aL.ty I (MA _)) ?_)
   refine dv [0,1,2,3,4,5,6] ?_;exact bW (k+1,a,p,out,vq,vo) ⟨by omega,i2,i3,by show a<=k+1;omega,by show out.length<=(k+1)*2001;omega⟩ (by show l.length-(k+1)<l.length-k;omega)
  rw[if_neg c1]at i2;obtain⟨tn,rfl⟩:∃tn:Nat,x=tn:=⟨x.toNat,by omega⟩;have hpu:=λw' B (ho:mI w B) hm=>ajq g5 vq p i3 a tn J J w' B ho hm;have hgo:=vh p i3 a (tn:Int) J;generalize fa m b p a (tn:Int)=R at*;obtain⟨e1,p1,fI⟩:=R;dsimp only at i2 hgo
  repeat(first|refine GA ?_|refine gV (aC (v:=av (aj ⟨b1,o1,ak⟩) m.of.length co) aL.ty I (aI (i:=0) I I)) ?_|refine gV (aC (v:=az aB (r:Int)) aL.ty I (aI (i:=7) I I)) ?_|refine gV (aZ bQ.eq aL.ty I I hr) ?_|refine gV (aC (v:=az aB (tn:Int)) aL.ty I (MA _)) ?_)
  refine dH ([aR g2 (gZ (av (aj ⟨b1,o1,ak⟩) m.of.length co) PK (eD m.g.aT m.g.bx vp m.mode vr va vg)).toArray 38,aR g13 (jg ((r:Int),fr,tt)).toArray 102]) (.calm 0 (.calm 1 (.calm 2 (.calm 3 (.calm 4 (.calm 5 (.calm 6 (.calm 7 (.calm 8 (.calm 9 (.one 10 (.calm 11 (.calm 12 (.calm 13 (.calm 14 (.calm 15 (.done))))))))))))))))) (bV [0,7]) ?_
  repeat(first|(refine GN ?_;first|refine QW QP ?_|refine QW (aC (v:=av (aj ⟨b1,o1,ak⟩) m.of.length co) aL.ty I (aI (i:=0) I I)) ?_|refine QW (aC (v:=az aB (r:Int)) aL.ty I (aI (i:=1) I I)) ?_|refine QW (aZ bQ.eq aL.ty I I hr) ?_|refine QW (aC (v:=az aB (tn:Int)) aL.ty I (MA _)) ?_|refine QW (sO I I) ?_|refine QW (aeJ I (WW b _)) ?_|refine GX ?_)|refine GW ?_)
  by_cases c2:e1=0
  ·subst c2
   obtain⟨j1,j2⟩:=hgo rfl;rw[if_neg (by simp)]at i2;rw[KW]at hpu;refine aM I (bz [3,4] [0,1,2,5,6,7] aln I I (ajp (CJ b) I I (Ge b _)) (λw' hm hb=>hpu w' _ ((mI.self w).on hm λo h=>pM h) hb) I I I ?_);rintro⟨v1,v2⟩ _;refine zL ?_;refine aO (bV [0,5]) ?_
   try refine GW ?_
   repeat(first|refine GA ?_|refine gV (aC (v:=vo) aL.ty I (aI (i:=3) I I)) ?_)
   refine ee (i:=4) (k:=fI.length) (ys:=fI.flatMap eu) I (iQ (i:=8) I) I I (abo fI) (JC fI) J J I λxt=>?_;refine zL ?_
   try refine GA ?_
   refine aX (i:=4) I λhv0 ju=>bJ (i:=3) I I I hv0 ju I ?_;refine zL ?_
   try refine GA ?_
   refine dv [0,1,2,6,7,3,4] ?_;exact bW (k+1,a+1,p1,out++fI,v1,xt) ⟨by omega,i2,j1,by show a+1<=k+1;omega,(by show(out++fI).length<=(k+1)*2001;rw[bK];omega)⟩ (by show l.length-(k+1)<l.length-k;omega) (hl:=by rw[Dv];push_cast;rfl)
  rw[if_pos c2]at i2;rw[KX c2]at hpu;subst i2;have Xr:=hG0 _ I;rw[hG]at Xr;subst Xr;refine aM I (bz [3,4] [0,1,2,5,6,7] aln I I (ajp (CJ b) I I (Ge b _)) (λw' hm hb=>hpu w' _ ((mI.self w).on hm λo h=>pM h) hb) I I I ?_);rintro _ _;refine zL ?_;refine aO (bV [0,5]) ?_
  try refine GW ?_
  repeat(first|refine GC ?_|refine gV (dc (b:=aD) I I (decide_eq_true c2)) ?_|refine GB ?_)
  refine SQ (i:=4) I λ_ ju=>?_;refine dH ([aR g13 (jg ((r:Int),fr,tt)).toArray 102]) (.calm 0 (.calm 1 (.calm 2 (.calm 3 (.one 4 (.calm 5 (.one 6 (.done)))))))) (bV [5]) ?_
  repeat(first|refine GW ?_|(refine GN ?_;first|refine QW (aC (v:=az aB (fr:Int)) aL.ty I (aI (i:=0) I I)) ?_))
  refine aM I (bJ (i:=3) I I I I I I (aO (bV [5]) ?_))
  try refine GW ?_
  refine aM I (bJ (i:=3) I I I I I I (aO (bV [5]) ?_))
  try refine GW ?_
  repeat(first|refine GA ?_|refine gV (aP (i:=3) aL.ty I I I) ?_)
  refine aW (i:=1) (cs':=#[vo,az aB e1,az aB (fr:Int)]) I I I I (wU ju) I ?_;refine zL ?_
  try refine GA ?_
  exact dT (i:=1) I I I I I λw hm=>hm.meets (S:=Gi (out,e1,fr)) vo trivial [4] aln I
 ·obtain rfl:k=l.length:=by omega
  rw[jx (bC _),aeL]at i2;subst i2;refine SQ (i:=6) I λhv0 ju=>?_
  by_cases c3:e=0
  ·subst c3
   have Xr:=hG0 (ak,out,p,a) I;rw[hG]at Xr;dsimp only at Xr;rw[if_neg (by simp)]at Xr;subst Xr;have Bn:=λw' B (ho:mI w B) hm=>agI g5 vq p i3 a J w' B ho hm;obtain⟨Lo,GH⟩:=ahm p i3 a;generalize m_ m b p a=R at*;obtain⟨e1,fI⟩:=R
   try refine GA ?_
   by_cases c4:e1=0
   ·subst c4
    have Lo:=Lo I;dsimp only at Lo;rw[KY]at Bn;refine bz [3,4] [0,1,2,5,6] aln I I (ajo (Gf b) I (I1 b _)) (λw' hm hb=>Bn w' _ ((mI.self w).on hm λo h=>pM h) hb) I I I ?_;intro v2 _;refine zL ?_
    repeat(first|refine GA ?_|refine gV (aC (v:=vo) aL.ty I (aI (i:=3) I I)) ?_)
    refine ee (i:=4) (k:=fI.length) (ys:=fI.flatMap eu) I (iQ (i:=6) I) I I (abo fI) (JC fI) J J I λxt=>?_;refine zL ?_
    try refine GA ?_
    refine aX (i:=4) I λhv0 ju=>bJ (i:=3) I I I hv0 ju I ?_;refine zL ?_
    try refine GA ?_
    refine bJ (i:=3) I I I I I I ?_;refine zL ?_
    try refine GA ?_
    refine bJ (i:=3) I I I I I I ?_;refine zL ?_
    repeat(first|refine GA ?_|refine gV (aP (i:=3) aL.ty I I I) ?_)
    refine aW (i:=1) (cs':=#[xt,az aB 0,az aB (s.length:Int)]) I I I I (wU ju) I ?_;refine zL ?_
    try refine GA ?_
    exact dT (i:=1) I I I I I λw hm=>hm.meets (S:=Gi ((out++fI),0,s.length)) xt trivial [4] aln (by show[jJ xt (out++fI)]=_;rw[<-Dv];rfl)
   obtain rfl:fI=[]:=GH c4;rw[KZ c4]at Bn;refine bz [3,4] [0,1,2,5,6] aln I I (ajo (Gf b) I (I1 b _)) (λw' hm hb=>Bn w' _ ((mI.self w).on hm λo h=>pM h) hb) I I I ?_;intro v2 _;refine zL ?_
   repeat(first|refine GA ?_|refine gV (aC (v:=vo) aL.ty I (aI (i:=3) I I)) ?_)
   refine rD 54 2 ?_;refine B8 [0,1,2,3,4,5,6] ?_;refine ee (i:=4) (k:=0) (ys:=[]) I (iQ (i:=6) I) I I I (by simp) J J I λxt=>?_;refine zL ?_
   try refine GA ?_
   refine aX (i:=4) I λhv0 ju=>bJ (i:=3) I I I hv0 ju I ?_;refine zL ?_
   try refine GA ?_
   refine bJ (i:=3) I I I I I I ?_;refine zL ?_
   try refine GA ?_
   refine bJ (i:=3) I I I I I I ?_;refine zL ?_
   repeat(first|refine GA ?_|refine gV (aP (i:=3) aL.ty I I I) ?_)
   refine aW (i:=1) (cs':=#[xt,az aB e1,az aB (s.length:Int)]) I I I I (wU ju) I ?_;refine zL ?_
   try refine GA ?_
   exact dT (i:=1) I I I I I λw hm=>hm.meets (S:=Gi ((out++[]),e1,s.length)) xt trivial [4] aln (by show[jJ xt (out++[])]=_;rw[dY];rfl)
  repeat(first|refine GC ?_|refine gV (dc (b:=aD) I I (decide_eq_true c3)) ?_|refine GB ?_)
  refine bJ (i:=5) I I I I I I ?_;refine zL ?_
  try refine GA ?_
  refine bJ (i:=5) I I I I I I ?_;refine zL ?_
  repeat(first|refine GA ?_|refine gV (aP (i:=5) aL.ty I I I) ?_)
  refine aW (i:=1) (cs':=#[vo,az aB e,az aB (at':Int)]) I I I I (wU ju) I ?_;refine zL ?_
  try refine GA ?_
  have Xr:=hG0 (ak,out,p,a) I;rw[hG]at Xr;dsimp only at Xr;rw[if_pos c3]at Xr;subst Xr;exact dT (i:=1) I I I I I λw hm=>hm.meets (S:=Gi (out,e,at')) vo trivial [6] aln I
theorem aeN(o:Of)(vn vt v:Value):(ey o vn vt).set 256 v=ey o v vt:=by
 unfold ey;rw[Sk,if_neg (by simp)];simp
theorem aeO(o:Of)(vn vt v:Value):(ey o vn vt).set 257 v=ey o vn v:=by
 unfold ey;rw[Sk,if_neg (by simp)];simp
theorem aeP{vo:Value}{pk tl:List Value}(j:Nat)(hj:j<pk.length){k:Nat}(v:Value)(hk:k=j+1):(gZ vo pk tl).toArray.setIfInBounds k v=(gZ vo (pk.set j v) tl).toArray:=by
 subst hk;rw[uC,gZ,List.set_cons_succ,Sk,if_pos hj];rfl
section
variable{P:Program}{n:Nat}{W:bP}{fr:Fr}{L:List b9}{Q:Exit->Act->World->Prop}{ops:Array Oper}{rest:List Oper}{ty:TypeId}{pos:String}{after:Array Edge}{t:TypeId}{p x:Operand}{i g k:Nat}{vo:Value}{pk tl:List Value}{T:TypeId}{agg:Bool}{v:Value}
theorem Gj(j:Nat){pk':List Value}[hT:aL P t agg 1](hi:L[i]?=aj (aR g (gZ vo pk tl).toArray T))(hp:ev fr p=aj (aK (aj ⟨g,k,ak⟩)))(hx:ev fr x=aj v)(hv:v.cells=#[v])(h1:v.oneCell'=aD)(hk:k=j+1)(dE:pk.length=258)(hj:j<258)(he:pk.set j v=pk')
 (h:TL P n W ops Q rest fr (L.set i (aR g (gZ vo pk' tl).toArray T))):TL P n W ops Q (⟨ak,.store t p x,ty,pos,after,ak⟩::rest) fr L:=by
 subst he;refine bJ hi hp hx hv h1 ?_ ?_
 ·rw[List.size_toArray,gZ,dj,bK]
  exact Nat.ble_eq_true_of_le J
 ·rw[aeP j J v hk];exact h
end
theorem OH(a:Option Addr)(m c:Nat)(b:Option Addr)(n d:Nat)(w:World):(dg 36 #[(0,av a m c),(1,av b n d)]).run aE w= .ok (aQ #[av a m c,av b n d]) w:=by kernel_rfl
structure ack(m:Md):Prop where
 n1:m.N.length<=1000000
 n2:∀r∈m.N,r.length<=1000000
 t1:m.tags.length<=1000000
 r1:m.rows.length<=1000000
 r2:∀r∈m.rows,r.length<=1000000
 a1:m.A.length<=1000000
 a2:∀r∈m.A,r.length<=1000000
 g1:m.G.length<=1000000
 g2:∀r∈m.G,r.length<=1000000
structure CpX where
 vo:Value
 vn:Value×(Nat->Prop)
 vt:Value
 vp:Value×(Nat->Prop)
 vr:Value×(Nat->Prop)
 va:Value×(Nat->Prop)
 vg:Value×(Nat->Prop)
def CpX.L(x:CpX)(m:Md):List b9:=[a_ 3 1 x.vo m.of.length (m.of.flatMap cL.eJ),GG (bR (bR fP)) x.vn.2 [x.vn.1] m.N,a_ 3 1 x.vt m.tags.length (m.tags.flatMap cL.eJ),oz x.vp.2 x.vp.1 m.g.aH,GG (bR (bR fP)) x.vr.2 [x.vr.1] m.rows,GG (bR (bR wF)) x.va.2 [x.va.1] m.A,GG (bR (bR fP)) x.vg.2 [x.vg.1] m.G]
def CpX.mk'(x:CpX)(Ls:List b9):MkX:=⟨x.vo,x.vn.1,x.vt,x.vp.1,x.vr.1,x.va.1,x.vg.1,Ls⟩
def cpS(m:Md):Spec CpX:=⟨λx=>((x.mk' []).cells m).toArray.toList.all ft=aD,λx=>aQ ((x.mk' []).cells m).toArray,λx=>x.L m⟩
theorem Lh{α:Type}{s:wY α}{F:Nat->Prop}{v:Value}{N:List (List α)}{w:World}(h:(GG (bR (bR s)) F [v] N).holds w):kw (bR s) (qo w) w v N:=by
 obtain⟨⟨v',hv,h1⟩,h2⟩:=h
 cases hv
 exact h1.mono h2
theorem ahn{m:Md}{x:CpX}{B:bP}{w:World}(hm:Mem B (x.L m) w)(ht:cL.dV m.g.aT)(hn:cL.dV m.g.bx):xS w (aQ ((x.mk' []).cells m).toArray) m x.vo x.vn.1 x.vt x.vp.1 x.vr.1 x.va.1 x.vg.1 where
 val:=rfl
 of:=Sl.dx (hm.get (i:=0) I)
 pk:=⟨Lh (hm.get (i:=1) I),Sl.dx (hm.get (i:=2) I)⟩
 xz:=⟨x.vp.1,rfl,(by
  obtain⟨⟨v',hv,h1⟩,h2⟩:=(hm.get (i:=3) rfl:(oz x.vp.2 x.vp.1 m.g.aH).holds w)
  cases hv
  exact h1.mono h2),ht,hn⟩
 rows:=Lh (hm.get (i:=4) I)
 ox:=⟨x.va.1,x.vg.1,rfl,Lh (hm.get (i:=5) I),Lh (hm.get (i:=6) I)⟩
theorem UF{o:Of}{vn vt:Value}(h1:vn.oneCell'=aD)(h2:vt.oneCell'=aD):(ey o vn vt).all ft=true:=by
 unfold ey;rw[List.all_append,List.all_eq_true.2 (λx hx=>by obtain⟨n,_,rfl⟩:=List.mem_map.1 hx;rfl)];simp[h1,h2]
theorem aeQ{α:Type}{s:wY α}{w:World}{v:Value}{N:List (List α)}(h:kw (bR s) (qo w) w v N):v.oneCell'=true:=by
 obtain⟨b,c,rfl,_⟩:=h;rfl
attribute [local irreducible] Instr.build in
set_option maxRecDepth 100000 in
theorem Li(x:Value)(m:Md){vo vn vt vp vr va vg:Value}(w:World)(h:xS w x m vo vn vt vp vr va vg)(hs:ack m)(hg:aV.cC m.g=0)(h20:m.of.length<=20):
 Calls aE 29 #[x] w (bX (cpS m) w):=by
 have dE:(ey m.o vn vt).length=258:=fh _ _ _;have hpn:(ey m.o vn vt)[256]?=aj vn:=by have:=lG m.o vn vt;simpa using this
 have hpt:(ey m.o vn vt)[257]?=aj vt:=by have:=mb m.o vn vt;simpa using this
 have hcO:=λw' (hw:Gr w w')=>ky vo m.of w' (h.of.gr hw) J;have hcN:=λw' (hw:Gr w w')=>tI vn m.N w' (tc h.pk.hN hw) hs.n1 hs.n2;have hcT:=λw' (hw:Gr w w')=>ky vt m.tags w' (h.pk.hT.gr hw) (by have:=hs.t1;omega);have hcR:=λw' (hw:Gr w w')=>tI vr m.rows w' (tc h.rows hw) hs.r1 hs.r2;obtain⟨va',vg',hag,hA,hG⟩:=h.ox
 cases hag
 have hcA:=λw' (hw:Gr w w')=>Le va m.A w' (kw.gr hA hw) hs.a1 hs.a2;have hcG:=λw' (hw:Gr w w')=>tI vg m.G w' (tc hG hw) hs.g1 hs.g2;obtain⟨_,_,_,_,hlen,hps⟩:=cU hg;have oJ:((gZ vo (ey m.o vn vt) (eD m.g.aT m.g.bx vp m.mode vr va vg)).toArray.toList.all ft=aD):=by
  refine wO ?_ (UF (aeQ h.pk.hN) ?_) ?_;obtain⟨b,c,e,_⟩:=h.of;rw[e];rfl;obtain⟨b,c,e,_⟩:=h.pk.hT;rw[e];rfl;obtain⟨vp',e,⟨b,c,e',_⟩,_⟩:=h.xz;have e2:vp=vp':=by simp only[dP,lT]at e;have:=congrArg (λz:Array Value=>z[2]?) e;simpa using this
  rw[e2,e'];obtain⟨b1,c1,e1,_⟩:=h.rows;obtain⟨b2,c2,e2,_⟩:=hA;obtain⟨b3,c3,e3,_⟩:=hG;rw[e1,e2,e3];rfl
 obtain⟨vp',NM,hP,_⟩:=h.xz;obtain rfl:vp=vp':=by simp only[dP,lT]at NM;have:=congrArg (λz:Array Value=>z[2]?) NM;simpa using this
 clear NM;obtain⟨bp,cp,rfl,JE,Gv,oM⟩:=hP;unfold maxLen at Gv;obtain rfl:=h.val;clear h hA hG;obtain⟨of,o,N,tags,g,mode,rows,A,G⟩:=m;obtain⟨gt,gn,aH⟩:=g;dsimp only at*;have hsz:∀(vo:Value) (o:Of) (vn vt a b c d e f q:Value),(gZ vo (ey o vn vt) [a,b,c,d,e,f,q]).toArray.size=266:=λ_ _ _ _ _ _ _ _ _ _ _=>i_ (fh _ _ _) I;have Lj:∀(vn vt:Value),(ey o vn vt).length=258:=λ_ _=>fh _ _ _;refine enter (args:=[aQ (gZ vo (ey o vn vt) (eD gt gn (av bp aH.length cp) mode vr va vg)).toArray]) (n:=62) Tryz.func29 I I I ?_;refine cB (bD (bL I I I λg1=>a8 I λg2=>?_));refine zL ?_
 repeat(first|refine GA ?_|refine gV (aP (i:=0) aL.ty I I (hsz _ _ _ _ _ _ _ _ _ _ _)) ?_)
 refine a8 I λg3=>?_;rw[tB];refine zL ?_;refine aW (i:=2) (cs':=(gZ vo (ey o vn vt) (eD gt gn (av bp aH.length cp) mode vr va vg)).toArray) I I I (hsz _ _ _ _ _ _ _ _ _ _ _) oJ (i_ jr I) ?_;refine zL ?_
 repeat(first|refine GA ?_|refine gV (aC (v:=vo) aL.ty I (aI (i:=0) I I)) ?_)
 refine aU (ja aJ.en I I) (λw hm=>hcO _ hm.below) I I I ?_;intro xt _;refine zL ?_
 try refine GA ?_
 refine aX (i:=3) I λu1 u2=>y7 (i:=2) I I I u1 u2 I ?_;refine zL ?_
 try refine GA ?_
 refine dH ([aR g1 (gZ vo (ey o vn vt) (eD gt gn (av bp aH.length cp) mode vr va vg)).toArray 38]) (.calm 0 (.calm 1 (.calm 2 (.calm 4 (.calm 5 (.calm 6 (.one 3 (.calm 8 (.calm 9 (.one 7 (.one 10 (.calm 11 (.calm 12 (.one 13 (.done))))))))))))))) (bV [0]) ?_
 repeat(first|refine GW ?_|(refine GN ?_;first|refine QW (aC (v:=vn) aL.ty I (aI (i:=0) I (FX dE hpn))) ?_|refine QW (aC (v:=vt) aL.ty I (aI (i:=0) I (FX dE hpt))) ?_))
 refine aM I ?_;refine aU (ja aJ.en I I) (λw hm=>hcN _ hm.below) I I I ?_;rintro⟨vn',Fn⟩ ⟨an,cn,un⟩;dsimp only at un;subst un
 conv=>arg 8;simp only[zJ,cD,ret,id_eq,CI]
 refine aO (bV [0]) ?_
 try refine GW ?_
 refine aM I ?_;refine aU (ja aJ.en I I) (λw hm=>hcT _ hm.below) I I I ?_;intro oV _;refine zL ?_;refine aO (bV [0]) ?_
 try refine GW ?_
 refine aM I (Gj (i:=2) 256 I I I I I I (Lj _ _) aln (aeN _ _ _ _) ?_);refine zL ?_;refine aO (bV [0]) ?_
 try refine GW ?_
 refine aM I (aX (i:=5) I λu3 u4=>Gj (i:=2) 257 I I I u3 u4 I (Lj _ _) aln (aeO _ _ _ _) ?_);refine zL ?_;refine aO (bV [0]) ?_
 try refine GW ?_
 try refine GA ?_
 refine ef (i:=2) 2 I I I I I I (Lj _ _) I ?_;refine zL ?_
 repeat(first|refine GA ?_|refine gV (aC (v:=av bp aH.length cp) aL.ty I (aI (i:=0) I (im 2 dE I I))) ?_)
 refine iz 149 2 (mP (eo oL (λ_=>False) [] []) (λk hk=>hk.elim (λh=>by cases h) id) (λw=>jM) ?_);refine d_ (ι:=Nat×Value×List (List Value)×(Nat->Prop)) (λ(k,vq,_,_)=>k<=aH.length/\vq.cells=#[vq]/\vq.oneCell'=aD) (λ(k,vq,_,_)=>[(1,aK (aj ⟨g1,0,ak⟩)),(2,aK (aj ⟨g2,0,ak⟩)),(3,aK (aj ⟨g3,0,ak⟩)),(27,av bp aH.length cp),(28,az aB aH.length),(29,az aB (k:Int))])
  (λ(k,vq,gH,F)=>[aR g1 (gZ vo (ey o vn vt) (eD gt gn (av bp aH.length cp) mode vr va vg)).toArray 38,aR g2 Gx.toArray 38,aR g3 (gZ xt (ey o (av an N.length cn) oV) (eD gt gn vq mode vr va vg)).toArray 38,a_ 3 1 xt of.length (of.flatMap cL.eJ),GG (bR (bR fP)) Fn [av an N.length cn] N,a_ 3 1 oV tags.length (tags.flatMap cL.eJ),a_ 149 2 vq k gH.flatten,eo oL F gH (aH.take k)]) (λ(k,_,_,_)=>aH.length-k) (0,av ak 0 0,[],λ_=>False) ⟨bH _,rfl,rfl⟩ ?_
 rintro⟨k,vq,gH,F⟩ ⟨i1,i2,i3⟩;dsimp only at i1 i2 i3⊢
 by_cases c6:k<aH.length
 ·obtain⟨b,off,rfl,_,hr⟩:=oM J
  obtain⟨bb,cb,q1,q2,q3⟩:=l7 hr c6;have dy:∀(L:List b9) (j:Nat) (v:Value),([az aB aH[k].1,.slice bb aH[k].2.length cb]:List Value)[j]?=aj v->At w L ⟨b,off+k*2+j,ak⟩ v:=λL j v hj=>iP q1 hj;have PO:=(hps aH[k] (cH c6)).1;have oB:aH.take (k+1)=aH.take k++[aH[k]]:=gv c6;clear hr oM q1 hps;generalize aH[k]=p at*;obtain⟨hd,body⟩:=p;have akA:=q3.okp;have jU:=λw' (hg:Gr w w')=>CT (av bb body.length cb) body w' ((q3.flat aln).gr hg) (by dsimp only at PO;omega);dsimp only at*
  repeat(first|refine GA ?_|refine gV (aZ bQ.eq aL.ty I I c6) ?_|refine gV (aY aL.ty I I (dy _)) ?_)
  clear dy;refine a8 I λg5=>?_;refine gG 8 ?_;refine zL ?_
  try refine GA ?_
  refine dH ([aR g5 #[az aB hd,av bb body.length cb] 149]) (.calm 0 (.calm 1 (.calm 3 (.calm 4 (.calm 5 (.calm 6 (.two 2 (.one 7 (.calm 8 (.one 9 (.one 10 (.calm 11 (.calm 12 (.one 13 (.done)))))))) 7 (.calm 8 (.two 2 (.one 9 (.one 10 (.calm 11 (.calm 12 (.one 13 (.done)))))) 9 (.one 2 (.one 10 (.calm 11 (.calm 12 (.one 13 (.done))))))))))))))) (bV [8]) ?_
  repeat(first|refine GW ?_|(refine GN ?_;first|refine QW (aC aL.ty I (aI (i:=0) I I)) ?_))
  refine eN I I ?wa ?wb
  case' wa=>
   refine dm (aC (v:=vq) aL.ty I (aI (i:=2) I (im 2 (Lj _ _) I I))) I I I (aO (bV [8]) ?_);refine aM I ?_
  all_goals
   refine aU (ja aJ.en I I) (λw hm=>jU _ hm.below) I I I ?_;intro vb _;refine zL ?_;refine lA (i:=9) I λb2 c2 AN e1 e2=>?_;subst AN;refine aO (bV [8]) ?_
   repeat(first|refine GW ?_|(refine GN ?_;first|refine QW (bB I (Qq _ _ _ _)) ?_))
  case' wa=>refine aM I (fO (cs:=#[az aB hd,av b2 body.length c2]) I I I I I λg9=>aO (bV [8]) ?_)
  case' wb=>refine eN I I ?wc ?wd
  case' wc=>
   refine dm (aC (v:=vq) aL.ty I (aI (i:=2) I (im 2 (Lj _ _) I I))) I I I (aO (bV [8]) ?_);refine aM I (fO (cs:=#[az aB hd,av b2 body.length c2]) I I I I I λg9=>aO (bV [8]) ?_)
  case' wd=>
   refine fO (cs:=#[az aB hd,av b2 body.length c2]) I I I I I λg9=>aO (bV [8]) ?_;refine aM I (dm (aC (v:=vq) aL.ty I (aI (i:=2) I (im 2 (Lj _ _) I I))) I I I (aO (bV [8]) ?_))
  all_goals
   refine aM I (mN (i:=6) (q:=10) I I I I I I J J I λvq2=>aO (bV [8]) ?_)
   try refine GW ?_
   refine aM I (aX (i:=6) I λo9 mJ=>ef (i:=2) 2 I I I o9 mJ I (Lj _ _) I (aO (bV [8]) ?_))
   try refine GW ?_
   refine wZ (eo oL (λk=>F k\/(av b2 body.length c2).ownBlock=aj k) (gH++[[az aB hd,av b2 body.length c2]]) (aH.take k++[(hd,body)])) 9 7 [0,1,2,3,4,5,6] aln I I I (λk hk=>hk.elim (λh=>by cases h) λh=>h.elim (λh=> .inr (.inr h)) λh=> .inl (.inl h)) (λw hr he=>?_) ?_
   ·exact mO he (Cg q2 akA hr) λk hk=>(a_ 182 2 (av b2 body.length c2) body.length (body.flatMap eu)).lt w hr k (.inl hk)
   try refine GA ?_
   exact bW (k+1,vq2,gH++[[az aB hd,av b2 body.length c2]],λk=>F k\/(av b2 body.length c2).ownBlock=aj k) ⟨by omega,o9,mJ⟩ (by show aH.length-(k+1)<aH.length-k;omega) (hl:=by rw[oB,qc];rfl)
 ·obtain rfl:k=aH.length:=by omega
  rw[gT (bC _)]
  repeat(first|refine GA ?_|refine gV (aC (v:=vr) aL.ty I (aI (i:=0) I (im 4 dE I I))) ?_)
  refine aU (ja aJ.en I I) (λw hm=>hcR _ hm.below) I I I ?_;rintro⟨CV,Fr'⟩ ⟨ar,cr,ur⟩;dsimp only at ur;subst ur
  conv=>arg 8;simp only[zJ,cD,ret,id_eq,CI]
  try refine GA ?_
  refine ef (i:=2) 4 I I I I I I (Lj _ _) I ?_;refine zL ?_
  try refine GA ?_
  refine dH ([aR g1 (gZ vo (ey o vn vt) (eD gt gn (av bp aH.length cp) mode vr va vg)).toArray 38]) (.calm 0 (.calm 1 (.calm 2 (.calm 4 (.calm 5 (.calm 6 (.one 3 (.one 7 (.calm 8 (.calm 9 (.one 10 (.done)))))))))))) (bV [0]) ?_
  repeat(first|refine GW ?_|(refine GN ?_;first|refine QW (aC (v:=va) aL.ty I (aI (i:=0) I (im 5 dE I I))) ?_|refine QW (aC (v:=vg) aL.ty I (aI (i:=0) I (im 6 dE I I))) ?_))
  refine aM I ?_;refine aU (ja aJ.en I I) (λw hm=>hcA _ hm.below) I I I ?_;rintro⟨va',Fa'⟩ ⟨aa,ca,ua⟩;dsimp only at ua;subst ua
  conv=>arg 8;simp only[zJ,cD,ret,id_eq,CI]
  refine aO (bV [0]) ?_
  try refine GW ?_
  refine aM I ?_;refine aU (ja aJ.en I I) (λw hm=>hcG _ hm.below) I I I ?_;rintro⟨vg',Fg'⟩ ⟨ag,cg,ug⟩;dsimp only at ug;subst ug
  conv=>arg 8;simp only[zJ,cD,ret,id_eq,CI]
  refine aO (bV [0]) ?_
  repeat(first|refine GW ?_|(refine GN ?_;first|refine QW (bB I (OH _ _ _ _ _ _)) ?_))
  refine aM I (eO (i:=2) 5 (cs:=[av aa A.length ca,av ag G.length cg]) (tl':=eD gt gn vq mode (av ar rows.length cr) (av aa A.length ca) (av ag G.length cg)) I I I I I I (Lj _ _) I I ?_);refine zL ?_;refine aO (bV [0]) ?_
  try refine GW ?_
  repeat(first|refine GA ?_|refine gV (aP (i:=2) aL.ty I I (hsz _ _ _ _ _ _ _ _ _ _ _)) ?_)
  refine aX (i:=3) I λ_ w1=>aX (i:=5) I λ_ w2=>?_;have qW:(gZ xt (ey o (av an N.length cn) oV) (eD gt gn vq mode (av ar rows.length cr) (av aa A.length ca) (av ag G.length cg))).toArray.toList.all ft=true:=wO w1 (UF I w2) (by simp only[eD,c_,db,i3];rfl);refine aW (i:=1) (cs':=(gZ xt (ey o (av an N.length cn) oV) (eD gt gn vq mode (av ar rows.length cr) (av aa A.length ca) (av ag G.length cg))).toArray) I I I (hsz _ _ _ _ _ _ _ _ _ _ _) qW (i_ jr I) ?_;refine zL ?_;refine pB (oz (YM F vq) vq aH) 6 7 [1,3,4,5,8,9,10] aln I I I (λk hk=>hk.elim (λh=>by cases h) λh=>h.elim (λh=> .inr (.inr h)) λh=> .inl (.inl h)) (λw hr he=>?_) ?_;exact⟨⟨vq,rfl,yj (s:=oL) hr he aln⟩,yl hr he⟩
  try refine GA ?_
  exact fW (i:=0) I I I (hsz _ _ _ _ _ _ _ _ _ _ _) λw hm=>hm.meets (S:=cpS ⟨of,o,N,tags,⟨gt,gn,aH⟩,mode,rows,A,G⟩) ⟨xt,(_,Fn),oV,(vq,YM F vq),(_,Fr'),(_,Fa'),(_,Fg')⟩ qW [1,2,3,7,4,5,6] aln I
theorem DD{place:Nat->Option (Nat×Nat)}{i m:Nat}{C T T' a:List Value}{v:Value}{rest:List (Nat×Value)}(j:Nat)(hC:C.length=266)(h0:place i=aj (266+j,m))(hv:v.cells=a.toArray)(ha:a.length=m)(hc:Nat.ble (j+m) T.length=aD)(he:T.take j++a++T.drop (j+m)=T'):jv place (C++T).toArray ((i,v)::rest)=jv place (C++T').toArray rest:=by
 subst ha he;have hc:=nu hc;have:=Gh (266+j) a 0 (C++T) (by rw[bK];omega);rw[lO]at this;rw[jv,h0];show(if _ then ak else _)=_
 rw[if_neg (by simp[hv];omega)]
 congr 1
 rw[show 266+j=C.length+j by omega,List.take_length_add_append,show C.length+j+a.length=C.length+(j+a.length)by omega,List.drop_length_add_append]at this;rw[<-eY,<-eY,<-this,<-Array.foldl_toList];simp[hv,hC]
def acm:List Value:=([av ak 0 0]:List Value)++dl 256 (az .u8 0)++([av ak 0 0,av ak 0 0,az aB 0,az aB 0,av ak 0 0,az aB 0,av ak 0 0,av ak 0 0,av ak 0 0]:List Value)
def ajr:List Value:=rv (wR 0 0) (av ak 0 0) [av ak 0 0,az aB 0,az aB 0,.bool aF,av ak 0 0,az aB 0,az aB 0,.bool aF] (av ak 0 0)
theorem acn:acm.length=266:=by
 unfold acm;rw[bK,bK,acd];rfl
set_option maxRecDepth 100000 in
theorem WX{vo vc vs:Value}{pk tl:List Value}(x y:Int)(dE:pk.length=258)(htl:tl.length=7)(w:World):(dg 119 #[(0,aQ (gZ vo pk tl).toArray),(1,az aB x),(2,az aB y),(10,tQ vc 0 0 aF),(11,uj vs 0 0 aF)]).run aE w= .ok (aQ (gZ vo pk (tl++rv (wR x y) (av ak 0 0) [vc,az aB 0,az aB 0,.bool aF,vs,az aB 0,az aB 0,.bool aF] (av ak 0 0))).toArray) w:=by
 have hz:(zeroValue 119).run aE w= .ok (aQ (acm++ajr).toArray) w:=by kernel_rfl
 have hu:∃fields,(underlying 119).run aE w= .ok (.struct fields) w/\(fields.mapM λf=>do pure (f.offset,<-sizeOf f.type):Sem (Array (Nat×Nat))).run aE w= .ok #[(0,266),(266,1),(267,1),(268,1),(269,1),(270,1),(271,1),(272,3),(275,1),(276,1),(277,4),(281,4),(285,3),(288,1),(289,1),(290,1)] w:=⟨_,rfl,by kernel_rfl⟩;obtain⟨fields,hu,hp⟩:=hu;have hl:(gZ vo pk tl).length=266:=by rw[gZ,dj,bK];omega
 refine Gg hz hu hp ?_;show jv _ (acm++ajr).toArray [(0,aQ (gZ vo pk tl).toArray),(1,az aB x),(2,az aB y),(10,tQ vc 0 0 aF),(11,uj vs 0 0 aF)]=_
 have hz:=acn;generalize acm=Z at*;rw[B2 (m:=266) I hl (by rw[bK];omega),uD,e7,cX,acf,jx (Nat.le_of_eq hz),hz,Nat.sub_self,wh,e7];rw[DD (m:=1) (a:=[az aB x]) 0 hl I I I I I,DD (m:=1) (a:=[az aB y]) 1 hl I I I I I,DD (m:=4) (a:=[vc,az aB 0,az aB 0,.bool aF]) 11 hl I I I I I,DD (m:=4) (a:=[vs,az aB 0,az aB 0,.bool aF]) 15 hl I I I I I];rw[jv];simp[gZ];rfl
structure aeR where
 g:Nat
 y:MkX
 up:Value
 uq:Value
abbrev aeR.L(z:aeR)(b:Bool)(m:Md)(s:fx)(ut up uw:Value):List b9:=f_ b z.g z.y.vo (ey m.o z.y.vn z.y.vt) (eD m.g.aT m.g.bx z.y.vp m.mode z.y.vr z.y.va z.y.vg) s ut up z.uq uw
def aeS(b:Bool)(m:Md)(x y:Int):Spec aeR:=⟨λz=>ahg m z.y,λz=> .tuple #[aK (aj ⟨z.g,0,ak⟩),az aB 0],λz=>z.L b m (wR x y) (av ak 0 0) z.up (av ak 0 0)++[AJ z.y.Ls]⟩
def aho(b:Bool)(m:Md)(x y:Int):Spec (Nat×CpX×Value×Value):=⟨λz=>((z.2.1.mk' []).cells m).toArray.toList.all ft=aD,λz=> .tuple #[aK (aj ⟨z.1,0,ak⟩),az aB 0],λz=>(⟨z.1,z.2.1.mk' [],z.2.2.1,z.2.2.2⟩:aeR).L b m (wR x y) (av ak 0 0) z.2.2.1 (av ak 0 0)++z.2.1.L m⟩
attribute [local irreducible] Instr.build in
set_option maxRecDepth 100000 in
theorem aeT(v:Value)(m:Md)(b:Bool)(T N:Nat){vo vn vt vp vr va vg:Value}(x y:Int)(V0:0<=x)(kr:x<=4096)(hy0:0<=y)(hy1:y<=1000)(w:World)(h:xS w v m vo vn vt vp vr va vg)(hk:fS m b T N)(hs:ack m):
 Calls aE 11 #[v,az aB x,az aB y] w (bX (aho b m x y) w):=by
 have dE:(ey m.o vn vt).length=258:=fh _ _ _;have hrt:=λw' (hw:Gr w w')=>As v m w' (h.gr hw) hk.toMdGood;have JE:=λw' (hw:Gr w w')=>Li v m w' (h.gr hw) hs hk.xz hk.ri;have hbs:=λ(vo vn vt vp vr va vg vc vs:Value)=>WX (vo:=vo) (pk:=ey m.o vn vt) (tl:=eD m.g.aT m.g.bx vp m.mode vr va vg) (vc:=vc) (vs:=vs) x y (fh _ _ _) I;obtain rfl:=h.val;clear h hk hs;refine enter (args:=[aQ (gZ vo (ey m.o vn vt) (eD m.g.aT m.g.bx vp m.mode vr va vg)).toArray,az aB x,az aB y]) (n:=36) Tryz.func11 I I I ?_;refine cB (bD (bL I I I λg1=>?_));refine zL ?_
 repeat(first|refine GA ?_|refine gV (aP (i:=0) aL.ty I I (i_ dE I)) ?_)
 refine aU (ja aJ.en I I) (λw hm=>hrt _ hm.below) I I I ?_;intro _ _;refine zL ?_
 repeat(first|refine GA ?_|refine gV (aP (i:=0) aL.ty I I (i_ dE I)) ?_)
 refine aU (ja aJ.en I I) (λw hm=>JE _ hm.below) I I I ?_;intro c hc
 conv=>arg 8;simp only[zJ,cD,ret,id_eq,cpS,CpX.L]
 conv=>arg 7;simp only[cpS,CpX.mk',MkX.cells]
 try refine GA ?_
 refine aU (he0 aJ.en I) (λw hm=>se w) I I I ?_;intro vc _
 conv=>arg 8;simp only[zJ,cD,ret,id_eq,xe]
 conv=>arg 7;simp only[xe]
 try refine GA ?_
 refine aU (he0 aJ.en I) (λw hm=>xR w) I I I ?_;intro vs _
 conv=>arg 8;simp only[zJ,cD,ret,id_eq,xd]
 conv=>arg 7;simp only[xd]
 repeat(first|refine GA ?_|refine gV (bB I (hbs _ _ _ _ _ _ _ _ _)) ?_)
 refine bL I I I λg2=>?_;refine zL ?_
 try refine GA ?_
 refine qC (toP (av ak 0 0) []) (λk hk=>hk.elim (λh=>by cases h) id) (λw=>⟨rfl,.inl ⟨rfl,rfl⟩⟩) ?_;refine dJ 54 2 ?_
 cases b with
 |true=>exact kZ I I I λw hm=>hm.meets (S:=aho aD m x y) (g2,c,vc,vs) hc [10,11,8,12,1,2,3,4,5,6,7] aln I
 |false=>exact kZ I I I λw hm=>hm.meets (S:=aho aF m x y) (g2,c,vs,vc) hc [10,11,9,12,1,2,3,4,5,6,7] aln I
theorem WY(v:Value)(m:Md)(b:Bool)(T N:Nat){vo vn vt vp vr va vg:Value}(x y:Int)(V0:0<=x)(kr:x<=4096)(hy0:0<=y)(hy1:y<=1000)(w:World)(h:xS w v m vo vn vt vp vr va vg)(hk:fS m b T N)(hs:ack m):
  Calls aE 11 #[v,az aB x,az aB y] w (bX (aeS b m x y) w):=
 (aeT v m b T N x y V0 kr hy0 hy1 w h hk hs).mono λe w' hm=>hm.to (aeS b m x y) λz hz=>by
  obtain⟨g,c,up,uq⟩:=z;obtain⟨b1,b2,b3,b4,b5,_⟩:=cU hk.xz;exact⟨⟨g,c.mk' (c.L m),up,uq⟩,⟨λw hb=>ahn (K6 hb) ⟨by omega,by omega⟩ ⟨by omega,by omega⟩,hz⟩,rfl,λw' ho=>eP.Sf ho⟩
theorem Gk{s:Sp}{r:Int×List Row×List Int}(hx:Uy s r)(h:(DC s r.1).1=0):ack (qn s r):=by
 obtain⟨b,T,N,hf⟩:=Ga hx h;have ok:=pg hf.lI;obtain⟨b1,b2,b3,b4,b5,_⟩:=cU hf.xz;have hN:∀r'∈(qn s r).N,r'.length<=1000000:=λr' hr=>by
  obtain⟨i,hi,rfl⟩:=iC.1 hr;have:=ok.row i hi;have:=ok.w1;omega
 have hm:((qn s r).mode=1/\(qn s r).A=[]/\(qn s r).G=[])\/((qn s r).mode=2/\(qn s r).rows=[]):=by
  unfold qn;split;exact .inl ⟨rfl,rfl,rfl⟩;exact .inr ⟨rfl,rfl⟩
 have oY:=hf.md;have htl:(qn s r).tags.length<=1000000:=by have:=ok.len;have:=ok.le;omega
 cases b with
 | true=>
  rcases hm with⟨_,h1,h2⟩|⟨h1,_⟩
  ·obtain⟨_,ht⟩:=hf.ll rfl
   have e1:=ht.aT;have e2:=ht.bx;refine⟨by have:=ok.le;omega,hN,htl,by rw[ht.len];omega,λr hr=>by rw[ht.row r hr];omega,by rw[h1];simp,by rw[h1];simp,by rw[h2];simp,by rw[h2];simp⟩
  rw[h1]at oY;exact absurd oY aln
 | false=>
  rcases hm with⟨h1,_⟩|⟨_,h1⟩
  rw[h1]at oY;exact absurd oY aln;have ht:=hf.lr I;have e1:=ht.aT;have e2:=ht.bx;have e3:=ht.tY;have e4:=ht.same;refine⟨by have:=ok.le;omega,hN,htl,by rw[h1];simp,by rw[h1];simp,by omega,λr hr=>?_,by omega,λr hr=>?_⟩
  ·obtain⟨i,hi,rfl⟩:=iC.1 hr
   rw[ht.wA i hi];omega
  obtain⟨i,hi,rfl⟩:=iC.1 hr;rw[ht.wG i hi];omega
open ia (Ev qM takeN)
theorem CK{P:Program}{f:FuncId}{args:Array Value}{w:World}{ι κ:Type}{S:Spec ι}{S':Spec κ}{W:bP}{L Lx R:List b9}(hm:Mem W L w)(is js:List Nat)(UP:(is++js).Nodup)(UO:Lx=is.filterMap λi=>L[i]?)(LD:R=js.filterMap λi=>L[i]?)(hc:∀B,Mem B Lx w->Calls P f args w (cZ S B))
 (hS:∀x,S.ok x->∃y,S'.ok y/\S'.val y=S.val x/\∃qs:List Nat,qs.Nodup/\S'.own y=qs.filterMap λi=>(R++S.own x)[i]?):Calls P f args w (cZ S' W):=by
 have Yf:Mem W (Lx++R) w:=hm.pick (is++js) UP (yd UO LD);have hm3:Mem W Lx w:=hm.pick is (List.nodup_append.1 UP).1 UO;refine(hc _ hm3.over).mono λe w' ⟨x,h1,h2,h3⟩=>?_;obtain⟨y,k1,k2,qs,k3,k4⟩:=hS x h1;exact⟨y,k1,by rw[h2,k2],(Yf.back h3).pick qs k3 k4⟩
theorem OI{W:bP}{L Lx Ls:List b9}{w:World}{φ:World->Prop}(hm:Mem W L w)(is:List Nat)(i:Nat)(hn:(is++[i]).Nodup)(UO:Lx=is.filterMap λi=>L[i]?)(hi:L[i]?=aj (AJ Ls))(hφ:∀w,(AJ Ls).holds w->φ w):n' (bP.on w Lx) φ:=λL' w' h'=>
 hφ w' (((hm.pick (L':=Lx++[AJ Ls]) (is++[i]) hn (yd UO (by simp[hi]))).back h').get (i:=0) I)
structure OJ(s' s:fx):Prop where
 eb:s'.eb=s.eb
 p:s'.p=s.p
 par:∀b vp vq,jt b s' vp vq=jt b s vp vq
theorem OJ.self(s:fx):OJ s s:=⟨rfl,rfl,λ_ _ _=>rfl⟩
theorem OK(s:fx)(e:Int)(pl:Nat):OJ (xf s e pl) s:=⟨rfl,rfl,λ_ _ _=>rfl⟩
theorem WZ(s:fx)(x:List UInt8):OJ (lK s x).1 s:=by
 unfold lK;split;exact .self s;split;exact .self s;split;exact OK _ _ _;exact⟨rfl,rfl,λ_ _ _=>rfl⟩
theorem Ss(s:fx):OJ (jH s).1 s:=by
 unfold jH;split;exact .self s;exact⟨rfl,rfl,λ_ _ _=>rfl⟩
theorem Su(s:fx)(n:Int):OJ (tF s n).1 s:=by
 unfold tF;split;exact .self s;split;exact .self s;exact⟨rfl,rfl,λ_ _ _=>rfl⟩
theorem W1(s:fx)(n:Int):OJ (dS s n).1 s:=by
 unfold dS;split;exact .self s;exact⟨rfl,rfl,λ_ _ _=>rfl⟩
section
variable{b:Bool}{g:Nat}{vo:Value}{pk md:List Value}{ut up uq uw:Value}{m:Md}(dE:pk.length=258)(oY:md.length=7)
include dE oY
def Gm(b:Bool)(g:Nat)(vo:Value)(pk md:List Value)(s':fx)(v:Value)(ut up uq:Value):Spec Value:=⟨λ_=>True,λ_=>v,λvw=>f_ b g vo pk md s' ut up uq vw⟩
omit dE oY in
theorem Sv{f:FuncId}{args:Array Value}{w:World}{B:bP}{s s':fx}{v:Value}(hm:Mem B (f_ b g vo pk md s ut up uq uw) w)(hk:OJ s' s)(hc:∀B,Mem B (xC g vo pk md s ut (jt b s up uq) uw) w->Calls aE f args w (cZ ⟨λ(_:Value)=>True,λ_=>v,λvw=>xC g vo pk md s' ut (jt b s up uq) vw⟩ B)):Calls aE f args w (cZ (Gm b g vo pk md s' v ut up uq) B):=by
 refine CK hm [0,3] [1,2] aln I I hc λx _=>⟨x,trivial,rfl,[2,0,1,3],by decide,?_⟩;simp only[Gm,f_,hk.par,hk.eb,hk.p];rfl
theorem Hk(s:fx)(hs:ic m b s)(x:List UInt8)(hx:x.length<=9223372036854775807)(w:World)(B:bP)(hm:Mem B (f_ b g vo pk md s ut up uq uw) w):
 Calls aE 13 #[aK (aj ⟨g,0,ak⟩),str x] w (cZ (Gm b g vo pk md (lK s x).1 (az aB (lK s x).2) ut up uq) B):=
 Sv hm (WZ s x) λB hm=>K2 dE oY (sn b s up uq) s x hx hs.jT hs.tY (by have:=hs.jV;omega) w B hm
theorem Lk(s:fx)(w:World)(B:bP)(hm:Mem B (f_ b g vo pk md s ut up uq uw) w):
 Calls aE 24 #[aK (aj ⟨g,0,ak⟩)] w (cZ (Gm b g vo pk md (jH s).1 (az aB (jH s).2) ut up uq) B):=
 Sv hm (Ss s) λB hm=>On dE oY (sn b s up uq) s w B hm
theorem Gn(s:fx)(hs:ic m b s)(n:Int)(w:World)(B:bP)(hm:Mem B (f_ b g vo pk md s ut up uq uw) w):
 Calls aE 12 #[aK (aj ⟨g,0,ak⟩),az aB n] w (cZ (Gm b g vo pk md (tF s n).1 (az aB (tF s n).2) ut up uq) B):=
 Sv hm (Su s n) λB hm=>Hf dE oY (sn b s up uq) s n (AK hs) w B hm
def W4(b:Bool)(g:Nat)(vo:Value)(pk md:List Value)(R:fx×List Ev)(ut up uq:Value):Spec (Value×Value):=⟨λ_=>True,λx=>x.2,λx=>f_ b g vo pk md R.1 ut up uq x.1++[jJ x.2 R.2]⟩
theorem Hl(s:fx)(hs:ic m b s)(n:Int)(w:World)(B:bP)(hm:Mem B (f_ b g vo pk md s ut up uq uw) w):
 Calls aE 15 #[aK (aj ⟨g,0,ak⟩),az aB n] w (cZ (W4 b g vo pk md (dS s n) ut up uq) B):=by
 have hk:=W1 s n;refine CK hm [0,3] [1,2] aln I I (λB hm=>K8 dE oY (sn b s up uq) s n (AK hs) w B hm) λx _=>⟨x,trivial,rfl,[2,0,1,3,4],by decide,?_⟩;simp only[W4,f_,hk.par,hk.eb,hk.p];rfl
theorem B3(s:fx)(hs:ic m b s)(B:bP)(w:World)(hm:Mem B (f_ b g vo pk md s ut up uq uw) w):
 Calls aE 16 #[aK (aj ⟨g,0,ak⟩)] w (bX (ret (.tuple #[az aB (CD s).1,az aB ((CD s).2.1:Int),.bool (CD s).2.2])) w):=by
 obtain⟨a2,c2,e2⟩:=K7 (hm.get (i:=3) rfl);exact C6 dE oY (sn b s up uq) s ⟨a2,c2,e2⟩ (by have:=hs.wl;omega) w (hm.get (i:=0) I)
end
open dh
open ia (Ev qM takeN)
theorem ahp{P:Program}{n:Nat}{W:bP}{fr:Fr}{L:List b9}{fn:Func}{R:Ending->World->Prop}{t u s r:Tmp}{v z y x:Value}(lY:fn.results=#[.tmp t,.tmp u,.tmp s,.tmp r])(hv:look fr t=aj v)(hz:look fr u=aj z)(hy:look fr s=aj y)(hx:look fr r=aj x)(h:∀w,Mem W L w->R (.returned (.tuple #[v,z,y,x])) w):E n W .ret (bodyPost P fn R) fr L:=
 B5 λa w hr hm=>⟨_,by simp[results,lY,Array.getD_eq_getD_getElem?,hr.get t v hv,hr.get u z hz,hr.get s y hy,hr.get r x hx],h w hm⟩
theorem afu(n k:Int)(hk:k=50\/k=70)(w:World):(binOp .rem 3 (az aB n) (az aB k)).run aE w= .ok (az aB (n.tmod k)) w:=by
 rcases hk with rfl|rfl<;>simp[binOp,Si]
theorem ajs(i k:Nat)(hk:0<k)(w:World):(binOp .rem 3 (az aB (i:Int)) (az aB (k:Int))).run aE w= .ok (az aB ((i %k:Nat):Int)) w:=by
 have h1:(k:Int)≠0:=by omega
 simp[binOp,Si,h1];rw[if_neg J,Int.tmod_eq_emod_of_nonneg J]
theorem ahq(n k:Int)(hk:k=50\/k=70):n.tmod k<=9223372036854775807:=by
 have:=Int.tmod_lt_of_pos n (show(0:Int)<k by omega);omega
def W5(m:Md)(b:Bool)(l:List (List UInt8))(k:Nat):Spec (Value×List Ev×Int×Nat):=⟨λx=>abW m b l.flatten x.2/\(k=0->Ha m b (aey l) [] x.2),λx=> .tuple #[x.1,az aB x.2.2.1,az aB (x.2.2.2:Int),.bool aD],λx=>[jJ x.1 x.2.1]⟩
set_option maxRecDepth 100000 in
theorem I2(y:MkX)(m:Md)(b:Bool)(T N:Nat)(hk:fS m b T N)(hs:ack m)(vl:Value)(l:List (List UInt8))(vw:Value)(ws:List Int)(w:World)(hy:xS w (aQ (y.cells m).toArray) m y.vo y.vn y.vt y.vp y.vr y.va y.vg)(hl:Sl w vl l.length (l.map str))(hw:Sl w vw ws.length (ws.map (.int .i64)))(h1:∀x∈l,x.length<=1024)(h2:l.flatten.length<=4096):
 Calls aE 7 #[aQ (y.cells m).toArray,vl,vw] w (bX (W5 m b l ws.length) w):=by
 have ajt:=λw' (hg:Gr w w')=>WY (aQ (y.cells m).toArray) m b T N 4096 1000 aln aln aln aln w' (hy.gr hg) hk hs;obtain⟨bl,cl,rfl,Lo,GH,ZL⟩:=hl;obtain⟨bw,cw,rfl,hw1,hw2,hw3⟩:=hw;unfold maxLen at GH hw2;refine enter (args:=[aQ (y.cells m).toArray,av bl l.length cl,av bw ws.length cw]) (n:=88) Tryz.func7 I I I ?_;refine cB (bD (bL I I I λg3=>?_));refine zL ?_
 repeat(first|refine GA ?_|refine gV (aP (i:=0) aL.ty I I (sm y m)) ?_)
 refine aU (qq aJ.en I I I I) (λw' hm=>ajt w' hm.below) I I I ?_;clear ajt;rintro⟨gs,z,up,uq⟩ hz;have hz:ahg m z:=hz
 conv=>arg 8;simp only[zJ,cD,ret,id_eq,aeS]
 conv=>arg 7;simp only[aeS]
 refine B8 [5,1,2,3,4] ?_;refine zL ?_;have dE:(ey m.o z.vn z.vt).length=258:=fh _ _ _;have aeM:=Ur hk (x:=4096) (y:=1000) aln aln aln aln;have NM:=λB w' hm=>Gn (g:=gs) (vo:=z.vo) (md:=eD m.g.aT m.g.bx z.vp m.mode z.vr z.va z.vg) (ut:=av ak 0 0) (up:=up) (uq:=uq) (uw:=av ak 0 0) dE I (wR 4096 1000) aeM 1073741824 w' B hm;rw[Uv]at NM;have h0:=aky hk;have zu:(jH (l.foldl (λs x=>(lK s x).1) {wR 4096 1000 with cr:=1073741824})).1=aey l:=rfl;have hda:=λs' (h1:ic m b s') x hx ut up uw w' B hm=>Hk (m:=m) (b:=b) (g:=gs) (vo:=z.vo) (md:=eD m.g.aT m.g.bx z.vp m.mode z.vr z.va z.vg) (ut:=ut) (up:=up) (uq:=uq) (uw:=uw) dE I s' h1 x hx w' B hm;have hwk:=λs' h1 n qX ut up uw w' B hR hm=>Ld (aQ (z.cells m).toArray) m (vo:=z.vo) (vn:=z.vn) (vt:=z.vt) (vp:=z.vp) (vr:=z.vr) (va:=z.va) (vg:=z.vg) (ut:=ut) (up:=up) (uq:=uq) (uw:=uw) b T N hk gs s' h1 n qX w' B hR hm;have hse:=λs' (h1:ic m b s') n ut up uw w' B hm=>Hl (m:=m) (b:=b) (g:=gs) (vo:=z.vo) (md:=eD m.g.aT m.g.bx z.vp m.mode z.vr z.va z.vg) (ut:=ut) (up:=up) (uq:=uq) (uw:=uw) dE I s' h1 n w' B hm;have Bn:=λs' ut up uw w' B hm=>Lk (b:=b) (g:=gs) (vo:=z.vo) (md:=eD m.g.aT m.g.bx z.vp m.mode z.vr z.va z.vg) (ut:=ut) (up:=up) (uq:=uq) (uw:=uw) dE I s' w' B hm;have hve:=λs' (h1:ic m b s') ut up uw B w' hm=>B3 (m:=m) (b:=b) (g:=gs) (vo:=z.vo) (md:=eD m.g.aT m.g.bx z.vp m.mode z.vr z.va z.vg) (ut:=ut) (up:=up) (uq:=uq) (uw:=uw) dE I s' h1 B w' hm;have aju:=hz.mdr;have hwS:=λs' out X (h:oK m b s' out X) k=>h.ajh hk k;have eR:=λs' out X (h:oK m b s' out X) he=>h.round hk he;clear aeM hz hs hk;generalize ey m.o z.vn z.vt=PK at*;generalize eD m.g.aT m.g.bx z.vp m.mode z.vr z.va z.vg=MT at*
 repeat(first|refine GC ?_|refine gV (dc (b:=aF) I I (decide_eq_false aln)) ?_|refine GB ?_)
 refine bz [1,2,3,4] [0] aln I I (fC aJ.en I I I) (λw hm hb=>NM _ w hb) I I I ?_;intro u1 _
 conv=>arg 8;simp only[zJ,cD,ret,id_eq,Gm]
 conv=>arg 7;simp only[Gm]
 clear NM
 try refine GA ?_
 refine iz 54 2 ?_
 conv=>arg 7;simp only[zA,zB,zC,zD,zE,zF,zG,zH,zI,cD,ret,id_eq]
 refine d_ (ι:=Nat×fx×List Ev×Value×Value×Value×Value) (λ(i,s',out,_)=>i<=l.length/\s'.ended=aF/\oK m b s' out (l.take i).flatten/\(ws.length=0->out=[]/\s'=(l.take i).foldl (λs x=>(lK s x).1) {wR 4096 1000 with cr:=1073741824})) (λ(i,_,_,v,_)=>[(2,av bw ws.length cw),(6,v),(10,aK (aj ⟨gs,0,ak⟩)),(26,av bl l.length cl),(27,az aB (l.length:Int)),(28,az aB (i:Int))])
  (λ(_,s',out,v,ut,up,uw)=>[AJ z.Ls]++f_ b gs z.vo PK MT s' ut up uq uw++[jJ v out]) (λ(i,_)=>l.length-i) (0,{wR 4096 1000 with cr:=1073741824},[],av ak 0 0,av ak 0 0,up,u1) ⟨bH _,rfl,h0,λ_=>⟨rfl,rfl⟩⟩ ?_
 ·clear h0
  rintro⟨i,s',out,v,ut,up,uw⟩ ⟨i1,i2,i3,i4⟩;dsimp only at i1 i2 i3 i4⊢;have hfw:=i3.tY
  by_cases c1:i<l.length
  ·obtain⟨x,hxi⟩:∃x,x=l[i]:=⟨_,rfl⟩
   have kr:x.length<=1024:=by rw[hxi];exact h1 _ (cH c1)
   have fK:(l.take (i+1)).flatten=(l.take i).flatten++x:=by rw[hxi,gv c1,qc,Sj]
   have hx4:l.take (i+1)=l.take i++[x]:=by rw[hxi,gv c1]
   have ZM:(l.take i).flatten.length+x.length<=4096:=by
    rw[<-bK,<-fK];have h3:(l.take (i+1)).flatten.length+(l.drop (i+1)).flatten.length=l.flatten.length:=by rw[<-bK,<-qc,om]
    omega
   obtain⟨b0,off,rfl,hr⟩:=ZL J;have dy:=λ(L:List b9)=>D0 (L:=L) hr c1;rw[<-hxi]at dy;clear hxi hr ZL;obtain⟨j1,j2⟩:=i3.data i2 kr ZM;have ahr:=hda s' i3.x.ok x J ut up uw;clear hda;rw[<-fK]at j1;have j4:ws.length=0->out=[]/\(lK s' x).1=(l.take (i+1)).foldl (λs x=>(lK s x).1) {wR 4096 1000 with cr:=1073741824}:=λh=>⟨(i4 h).1,by rw[hx4,List.foldl_append,<-(i4 h).2];rfl⟩;clear i4;generalize lK s' x=D at*;obtain⟨s1,e1⟩:=D;dsimp only at j1 j2 j4 ahr
   repeat(first|refine GA ?_|refine gV (bY bQ.eq aL.ty I I c1) ?_|refine gV (aC aL.ty I (dy _)) ?_)
   refine bz [1,2,3,4] [0,5] aln I I (fC aJ.en I I I) (λw hm hb=>ahr w _ hb) I I I ?_;intro u1 _
   conv=>arg 8;simp only[zJ,cD,ret,id_eq,Gm]
   conv=>arg 7;simp only[Gm]
   clear ahr
   by_cases c2:0<ws.length
   ·obtain⟨b2,ZJ,rfl,hr⟩:=hw3 c2
    have c3:i %ws.length<ws.length:=Nat.mod_lt _ c2;have q_:=λ(L:List b9)=>D0 (L:=L) hr c3;have TC:=ajs i ws.length c2;generalize ws[i %ws.length]=n at*;generalize i %ws.length=k at*;clear hr hw3;have Vi:=afu n 50 (.inl I);have tV:=afu n 70 (.inr I);obtain⟨k1,k2⟩:=hwS s1 out _ j1 (n.tmod 50).toNat;have W6:=hwk s1 j1.x.ok (n.tmod 50) (ahq n 50 (.inl I)) ut up u1;clear hwk hwS;generalize eE m b (n.tmod 50).toNat s1=W at*;obtain⟨s2,n2⟩:=W;dsimp only at k1 k2 W6;obtain⟨g1,g2,g3⟩:=k1.send (n.tmod 70);have W7:=hse s2 k1.x.ok (n.tmod 70);clear hse;generalize dS s2 (n.tmod 70)=S at*;obtain⟨s3,o3⟩:=S;dsimp only at g1 g2 g3 W7;have hf3:=g1.tY;rw[bK]at hf3
    repeat(first|refine GA ?_|refine gV (lQ I I TC) ?_|refine gV (bY bQ.eq aL.ty I I c3) ?_|refine gV (aC aL.ty I (q_ _)) ?_|refine gV (lQ I I Vi) ?_)
    refine bz [2,3,4,5] [0,1] aln I I (fC aJ.en I I I) (λw hm hb=>W6 w _ (OI hm [2,3,4,5] 0 aln I I aju) hb) I I I ?_;rintro⟨u2,u3,u4⟩ _
    conv=>arg 8;simp only[zJ,cD,ret,id_eq,wkS]
    conv=>arg 7;simp only[wkS]
    repeat(first|refine GA ?_|refine gV (lQ I I TC) ?_|refine gV (bY bQ.eq aL.ty I I c3) ?_|refine gV (aC aL.ty I (q_ _)) ?_|refine gV (lQ I I tV) ?_)
    refine bz [2,3,4,5] [0,1] aln I I (fC aJ.en I I I) (λw hm hb=>W7 _ _ _ w _ hb) I I I ?_;rintro⟨u5,vx⟩ _
    conv=>arg 8;simp only[zJ,cD,ret,id_eq,W4]
    conv=>arg 7;simp only[W4]
    try refine GA ?_
    refine Nz (i:=1) (j:=6) I I I I (Kt _) J J I λv'=>?_;refine zL ?_
    try refine GA ?_
    refine dv [0,2,3,4,5,1] ?_;exact bW (i+1,s3,out++o3,v',u2,u3,u5) ⟨by show i+1<=l.length;omega,by show s3.ended=aF;rw[g2,k2,j2],g1,λh=>by omega⟩ (by show l.length-(i+1)<l.length-i;omega) (hl:=by dsimp only;rw[<-Dv];rfl)
   try refine GA ?_
   refine dv [0,2,3,4,5,1] ?_;exact bW (i+1,s1,out,v,ut,up,u1) ⟨by show i+1<=l.length;omega,j2,j1,j4⟩ (by show l.length-(i+1)<l.length-i;omega)
  obtain rfl:i=l.length:=by omega
  rw[mW]at i3 i4;clear hda ZL hw3 c1 i1;have ahs:=Bn s' ut up uw;obtain⟨j1,j2⟩:=i3.ended i2;have j4:∀r,Ha m b (jH s').1 out r->(ws.length=0->Ha m b (aey l) [] r):=λr h h0=>by rw[<-zu,<-(i4 h0).2,<-(i4 h0).1];exact h
  clear Bn hwS zu i4;generalize jH s'=D at*;obtain⟨s1,e1⟩:=D;dsimp only at j1 j2 j4 ahs
  try refine GA ?_
  refine bz [1,2,3,4] [0,5] aln I I (ja aJ.en I I) (λw hm hb=>ahs w _ hb) I I I ?_;intro u1 _
  conv=>arg 8;simp only[zJ,cD,ret,id_eq,Gm]
  conv=>arg 7;simp only[Gm]
  clear ahs
  try refine GA ?_
  refine d_ (ι:=fx×List Ev×Value×Value×Value×Value) (λ(s',out,_)=>(s'.ended=aD\/s'.over=aD)/\oK m b s' out l.flatten/\∀r,Ha m b s' out r->(ws.length=0->Ha m b (aey l) [] r)) (λ(_,_,v,_)=>[(6,v),(10,aK (aj ⟨gs,0,ak⟩))])
   (λ(s',out,v,ut,up,uw)=>[AJ z.Ls,jJ v out]++f_ b gs z.vo PK MT s' ut up uq uw) (λ(s',_)=>F8 s') (s1,out,v,ut,up,u1) ⟨j2,j1,j4⟩ ?_
  clear j1 j2 j4 i2 i3 hfw;rintro⟨s',out,v,ut,up,uw⟩ ⟨i2,i3,i4⟩;dsimp only at i2 i3 i4⊢;have l1:=λh=>i4 _ (Ha.stop (m:=m) (b:=b) (s:=s') (out:=out) h);have l2:=λh r h2=>i4 r (Ha.step (m:=m) (b:=b) (s:=s') (out:=out) (r:=r) h h2);obtain⟨k1,k2,k3,k4,k5⟩:=eR s' out _ i3 i2;have W6:=hwk s' i3.x.ok 37 aln ut up uw;rw[show(37:Int).toNat=37 from I]at W6;have W7:=hse _ k1.x.ok 41;have hfw:=i3.tY;clear hwk hse eR i2 i3 i4;generalize eE m b 37 s'=W at*;obtain⟨s2,n2⟩:=W;dsimp only at k1 k2 k3 k4 k5 l1 l2 W6 W7;generalize dS s2 41=S at*;obtain⟨s3,o3⟩:=S;dsimp only at k2 k3 k4 k5 l1 l2 W7;have hf3:=k2.tY;rw[bK]at hf3
  try refine GA ?_
  refine bz [2,3,4,5] [0,1] aln I I (fC aJ.en I I I) (λw hm hb=>W6 w _ (OI hm [2,3,4,5] 0 aln I I aju) hb) I I I ?_;rintro⟨u2,u3,u4⟩ _
  conv=>arg 8;simp only[zJ,cD,ret,id_eq,wkS]
  conv=>arg 7;simp only[wkS]
  try refine GA ?_
  refine bz [2,3,4,5] [0,1] aln I I (fC aJ.en I I I) (λw hm hb=>W7 _ _ _ w _ hb) I I I ?_;rintro⟨u5,vx⟩ _
  conv=>arg 8;simp only[zJ,cD,ret,id_eq,W4]
  conv=>arg 7;simp only[W4]
  try refine GA ?_
  refine nP (i:=6) I Z_ λgK=>?_;obtain⟨avl,cvl,rfl,alm⟩:=gK;refine Nz (i:=1) (j:=6) I I I I (Kt _) J J I λv'=>?_;refine zL ?_;rw[Dv]
  by_cases c0:n2=0/\o3.length=0
  ·obtain⟨f1,f2⟩:=k4 c0
   have l3:=l1 c0;obtain⟨c1,c2⟩:=c0;subst c1;obtain⟨r1,r2⟩:=k2.fin f1 f2;have ajv:=hve s3 k2.x.ok;rw[r2]at ajv
   repeat(first|refine GC ?_|refine gV (cY (b:=aD) I I (decide_eq_true c2)) ?_|refine GB ?_)
   refine aU (ja aJ.en I I) (λw hm=>ajv u2 u3 u5 _ w (hm.pick [2,3,4,5] aln I)) I I I ?_;intro _ _;refine zL ?_
   try refine GA ?_
   exact ahp I I I I I λw hm=>hm.meets (S:=W5 m b l ws.length) (v',out++o3,s3.fq,s3.pl) ⟨r1,l3⟩ [1] aln I
  by_cases c1:n2=0
  ·subst c1
   repeat(first|refine GC ?_|refine gV (cY (b:=aF) I I (decide_eq_false λh=>c0 ⟨rfl,h⟩)) ?_|refine GB ?_)
   refine dv [0,1,2,3,4,5] ?_;exact bW (s3,out++o3,v',u2,u3,u5) ⟨k3,k2,l2 c0⟩ (k5 c0)
  repeat(first|refine GC ?_|refine gV (cY (b:=aF) I I (decide_eq_false (show ¬(n2:Int)=0 by omega))) ?_|refine GB ?_)
  refine dv [0,1,2,3,4,5] ?_;exact bW (s3,out++o3,v',u2,u3,u5) ⟨k3,k2,l2 c0⟩ (k5 c0)
theorem ajw(n m:Int)(w:World)(hn0: -9223372036854775808<=n)(hn1:n<=9223372036854775807)(hm0:0<m)(Y0:m<=9223372036854775807):
 Calls aE 58 #[az aB n,az aB m] w (bX (ret (az aB (n %m))) w):=by
 have hm:¬m=0:=by omega
 have Vi:=acb n hm;have tV:=ab_ n hm0;refine enter (args:=[az aB n,az aB m]) (n:=15) Tryz.func58 I I I ?_;have ajx:∀w,(binOp .rem 2 (az aB n) (az aB m)).run aE w= .ok (az aB (n.tmod m)) w:=λw=>by simp[binOp,Si,hm]
 by_cases h:n.tmod m<0
 ·have e:n.tmod m+m=n %m:=by
   rw[aca]at h⊢;split at h;omega
   rename_i hd
   rw[if_neg hd];have:(m.natAbs:Int)=m:=by omega
   omega
  repeat(first|refine GA ?_|refine gV (lQ I I ajx) ?_)
  rw[e];exact eB
 ·have e:n.tmod m=n %m:=by
   rw[aca]at h⊢;split at h
   ·rename_i hd
    rw[if_pos hd];omega
   rename_i hd
   rw[if_neg hd];have:(m.natAbs:Int)=m:=by omega
   omega
  repeat(first|refine GA ?_|refine gV (lQ I I ajx) ?_)
  rw[e];exact eB
end bZ
namespace Sw
def cutAt(c:Int)(s:List UInt8):Nat:=(c %((s.length:Int)+1)).toNat
def lH(s:List UInt8):List Int->List (List UInt8)
 |[]=>[s]
 |c::r=>s.take (cutAt c s)::lH (s.drop (cutAt c s)) r
theorem wV:∀(cs:List Int) (s:List UInt8),(lH s cs).length=cs.length+1
 |[],_=>rfl
 |c::r,s=>by simp[lH,wV r]
theorem AL:∀(cs:List Int) (s:List UInt8),(lH s cs).flatten=s
 |[],s=>by simp[lH]
 |c::r,s=>by simp[lH,AL r]
end Sw
namespace bZ
open Go.RowKit cL dQ Sw
theorem Ll(s:List UInt8)(vc:Value)(cs:List Int)(w:World)(hs:Sl w vc cs.length (cs.map (.int .i64)))(kV:∀c∈cs,cL.dV c)(hn:cs.length<=1048576)(hl:s.length<=1000000000000000000):
 Calls aE 28 #[str s,vc] w (bX (cD 9 1 (lH s cs).length ((lH s cs).map str) λv=>v) w):=by
 obtain⟨base,cap,rfl,lf,jL,eR⟩:=hs;unfold maxLen at jL;refine enter (args:=[str s,av base cs.length cap]) (n:=34) Tryz.func28 I I I ?_
 try refine GA ?_
 refine iz 9 1 ?_;refine mM (ι:=Nat×List UInt8×List (List UInt8)×Value) (λ(i,r,o,_)=>i<=cs.length/\o++lH r (cs.drop i)=lH s cs/\o.length=i/\r.length<=s.length) (λ(i,r,_,v)=>[(0,str r),(5,v),(9,av base cs.length cap),(10,az aB cs.length),(11,az aB (i:Int))]) (λ(_,_,o,v)=>[a_ 9 1 v o.length (o.map str)]) (λ(i,_,_,_)=>cs.length-i) (0,s,[],av ak 0 0) ⟨by omega,rfl,rfl,by omega⟩ ⟨rfl,rfl,rfl,rfl,rfl,trivial⟩ I ?_;rintro⟨i,r,o,v⟩ ⟨h1,h2,h3,h4⟩
 by_cases c1:i<cs.length
 ·obtain⟨b,off,rfl,hr⟩:=eR J
  have dy:=D0 (L:=[a_ 9 1 v o.length (o.map str)]) hr c1;have hc:=kV cs[i] (cH c1);rw[eH c1]at h2;simp only[lH]at h2;generalize cs[i]=c at*;have hm0:=acb c (b:=(r.length:Int)+1) J;have Y0:=ab_ c (b:=(r.length:Int)+1) J;have hcut:c %((r.length:Int)+1)=cutAt c r:=by unfold cutAt;omega
  have aco:=λw=>ajw c ((r.length:Int)+1) w hc.1 hc.2 J J;rw[hcut]at aco hm0 Y0;generalize cutAt c r=n at*;clear hr eR kV hc
  repeat(first|refine GA ?_|refine gV (bY bQ.eq aL.ty I I c1) ?_|refine gV (aC aL.ty I dy) ?_)
  refine aU (fC aJ.en I I I) (λw hm=>aco _) I I I ?_;intro _ _;clear aco
  repeat(first|refine GA ?_|refine gV (yf bQ.eq I I J) ?_)
  refine iA (i:=0) I I I I I I (λz h=>by cases h;rfl) J J I λz v'=>?_
  repeat(first|refine GA ?_|refine gV (sH bQ.eq I I J) ?_)
  exact iW (i+1,r.drop n,o++[r.take n],v') ⟨by omega,by rw[eY];exact h2,by simp[h3],by simp;omega⟩ (by show cs.length-(i+1)<cs.length-i;omega) ⟨rfl,rfl,rfl,rfl,rfl,trivial⟩ (by simp only[bK,eZ,kO,ff,lL];rfl)
 ·rw[jx J]at h2
  simp only[lH]at h2;rw[<-h2]
  try refine GA ?_
  refine iA (i:=0) I I I I I I (λz h=>by cases h;rfl) J J I λz v'=>?_
  try refine GA ?_
  exact cJ I I λw hm=>hm.meets (S:=cD 9 1 (o++[r]).length ((o++[r]).map str) λv=>v) v' trivial [0] aln (by simp[cD])
structure so(s:List UInt8)(k:Nat)(l:List (List UInt8)):Prop where
 flat:l.flatten=s
 small:∀t∈l,t.length<=1000
 tY:l.length<=k+s.length
def UG(s:List UInt8)(k:Nat):Spec (Value×List (List UInt8)):=⟨λx=>so s k x.2,λx=>x.1,λx=>[a_ 9 1 x.1 x.2.length (x.2.map str)]⟩
theorem so.OS{s t:List UInt8}{k:Nat}{l:List (List UInt8)}(h:so s k l)(ht:t.length<=1000):so (s++t) (k+1) (l++[t]):=by
 refine⟨by rw[qc,h.flat,Sj],λx hx=>?_,by have:=h.tY;simp only[bK,kO];omega⟩;rcases List.mem_append.1 hx with hx|hx
 exact h.small x hx;rw[List.mem_singleton.1 hx];exact ht
theorem so.akB{s t:List UInt8}{k:Nat}{l:List (List UInt8)}(h:so s k l)(ht:1000<t.length):so (s++t.take 1000) k (l++[t.take 1000]):=by
 have hl:(t.take 1000).length=1000:=by rw[jz];omega
 have:=h.OS (t:=t.take 1000) J;exact⟨this.flat,this.small,by have:=h.tY;simp only[bK,kO,hl];omega⟩
theorem Sx(s:List UInt8)(vc:Value)(cs:List Int)(w:World)(hs:Sl w vc cs.length (cs.map (.int .i64)))(kV:∀c∈cs,cL.dV c)(hn:cs.length<=1048576)(hl:s.length<=1000000):
 Calls aE 9 #[str s,vc] w (bX (UG s (cs.length+1)) w):=by
 have xB:=λw' (hg:Gr w w')=>Ll s vc cs w' (hs.gr hg) kV hn J;have Af:=wV cs s;have hpf:=AL cs s;obtain⟨base,cap,rfl,lf,jL,eR⟩:=hs;generalize lH s cs=P at*;have hpn:P.length<=1048577:=by omega
 rw[<-Af];clear Af hn kV eR;have hT:∀i,(P.take i).flatten.length<=s.length:=λi=>by
  rw[<-hpf];have h3:(P.take i).flatten.length+(P.drop i).flatten.length=P.flatten.length:=by rw[<-bK,<-qc,om]
  omega
 refine enter (args:=[str s,av base cs.length cap]) (n:=32) Tryz.func9 I I I ?_
 try refine GA ?_
 refine aU (fC aJ.en I I I) (λw hm=>xB _ hm.below) I I I ?_;intro vp _
 conv=>arg 8;simp only[zJ,cD,ret,id_eq,cD]
 conv=>arg 7;simp only[cD]
 refine nP (i:=0) I Z_ λgK=>?_;obtain⟨ap,cp,rfl,hap⟩:=gK
 try refine GA ?_
 refine iz 9 1 ?_
 conv=>arg 7;simp only[zA,zB,zC,zD,zE,zF,zG,zH,zI,cD,ret,id_eq]
 refine d_ (ι:=Nat×List (List UInt8)×Value) (λ(i,out,_)=>i<=P.length/\so (P.take i).flatten i out) (λ(i,_,v)=>[(5,v),(10,av ap P.length cp),(11,az aB (P.length:Int)),(12,az aB (i:Int))]) (λ(_,out,v)=>[a_ 9 1 (av ap P.length cp) P.length (P.map str),a_ 9 1 v out.length (out.map str)]) (λ(i,_,_)=>P.length-i) (0,[],av ak 0 0) ⟨bH _,rfl,λt ht=>(by cases ht),bH _⟩ ?_;rintro⟨i,out,v⟩ ⟨i1,i2⟩;dsimp only at i1 i2⊢
 by_cases c1:i<P.length
 ·obtain⟨t,hti⟩:∃t,t=P[i]:=⟨_,rfl⟩
  have OR:(P.take (i+1)).flatten=(P.take i).flatten++t:=by rw[hti,gv c1,qc,Sj]
  have L6:(P.map str)[0+i]?=aj (str t):=by rw[hti,cX];simp[c1]
  obtain⟨gp,rfl⟩:=hap J;have hT1:=hT (i+1);clear hti
  repeat(first|refine GA ?_|refine gV (bY bQ.eq aL.ty I I c1) ?_|refine gV (aC aL.ty I (jP (i:=0) I L6)) ?_)
  refine d_ (ι:=List UInt8×List (List UInt8)×Value) (λ(u,out,_)=>∃q,so q i out/\q++u=(P.take (i+1)).flatten) (λ(u,_,v)=>[(5,v),(7,str u),(10,av (aj ⟨gp,0,ak⟩) P.length cp),(11,az aB (P.length:Int)),(12,az aB (i:Int))]) (λ(_,out,v)=>[a_ 9 1 (av (aj ⟨gp,0,ak⟩) P.length cp) P.length (P.map str),a_ 9 1 v out.length (out.map str)]) (λ(u,_,_)=>u.length) (t,out,v) ⟨_,i2,OR.symm⟩ ?_;clear i2 OR L6;rintro⟨u,out,v⟩ ⟨q,i2,i3⟩;dsimp only at i2 i3⊢;have hf:=i2.tY;have hq:q.length+u.length=(P.take (i+1)).flatten.length:=by rw[<-i3,bK]
  by_cases c2:1000<u.length
  ·repeat(first|refine GA ?_|refine gV (yf (j:=1000) bQ.eq I I J) ?_)
   refine iA (i:=1) I I I I I I (λz h=>by cases h;rfl) J J I λz v'=>?_
   repeat(first|refine GA ?_|refine gV (sH (i:=1000) bQ.eq I I J) ?_)
   have hq2:(q++u.take 1000)++u.drop 1000=(P.take (i+1)).flatten:=by rw[eY,om];exact i3
   exact bW (u.drop 1000,out++[u.take 1000],v') ⟨_,i2.akB c2,hq2⟩ (by show(u.drop 1000).length<u.length;rw[iT];omega) (hl:=by simp only[bK,eZ,kO,ff,lL];rfl)
  try refine GA ?_
  refine iA (i:=1) I I I I I I (λz h=>by cases h;rfl) J J I λz v'=>?_
  try refine GA ?_
  exact bW (i+1,out++[u],v') ⟨by show i+1<=P.length;omega,by show so (P.take (i+1)).flatten (i+1) (out++[u]);rw[<-i3];exact i2.OS J⟩ (by show P.length-(i+1)<P.length-i;omega) (hl:=by simp only[bK,eZ,kO,ff,lL];rfl)
 ·obtain rfl:i=P.length:=by omega
  rw[mW,hpf]at i2
  try refine GA ?_
  exact cJ I I λw hm=>hm.meets (S:=UG s P.length) (v,out) i2 [1] aln I
end bZ
namespace xj
open Go.RowKit cL dQ dh gu fY bZ
def aht(a s:C4):List Wd:=[([97],.mk 3 a []),([],.mk 3 s [])]
def acp:List Rl:=[([108],[[97],[109]]),([109],[]),([109],[[97],[109]])]
theorem Sy(n:Bs)(k:Int)(c:C4)(b:Option Addr)(m cp:Nat)(w:World):(dg 90 #[(0,str n),(1,aQ (mG k c (av b m cp)).toArray)]).run aE w= .ok (aQ (ze n k c (av b m cp)).toArray) w:=by kernel_rfl
theorem OL(n:Bs)(w:World):(dg 92 #[(0,str n)]).run aE w= .ok (aQ #[str n,av ak 0 0]) w:=by kernel_rfl
theorem OM(k:Int)(c:C4)(w:World):(dg 90 #[(1,aQ (mG k c (av ak 0 0)).toArray)]).run aE w= .ok (aQ (ze [] k c (av ak 0 0)).toArray) w:=by kernel_rfl
theorem CL(n:Bs)(g:Nat)(w:World):(dg 92 #[(0,str n),(1,av (aj ⟨g,0,ak⟩) 2 2)]).run aE w= .ok (aQ #[str n,av (aj ⟨g,0,ak⟩) 2 2]) w:=by kernel_rfl
theorem ON(a b:Option Addr)(m c n d:Nat)(w:World):(dg 25 #[(0,av a m c),(1,av b n d)]).run aE w= .ok (aQ #[av a m c,av b n d]) w:=by kernel_rfl
structure ajy where
 g1:Nat
 g2:Nat
 g3:Nat
 g4:Nat
def rlC(n:Bs)(v:Value):List Value:=[str n,v]
def aeU(a s:C4):bZ.Spec ajy:=⟨λ_=>True,λx=>aQ #[av (aj ⟨x.g1,0,ak⟩) 2 2,av (aj ⟨x.g4,0,ak⟩) 3 3],λx=>[aR x.g1 (ze [97] 3 a (av ak 0 0)++ze [] 3 s (av ak 0 0)).toArray 90,aR x.g2 #[str [97],str [109]] 9,aR x.g3 #[str [97],str [109]] 9,
 aR x.g4 #[str [108],av (aj ⟨x.g2,0,ak⟩) 2 2,str [109],av ak 0 0,str [109],av (aj ⟨x.g3,0,ak⟩) 2 2] 92]⟩
set_option maxRecDepth 100000 in
theorem Sz(w:World):Calls aE 6 #[] w (bX (aeU (fA 97 97) (fA 32 32)) w):=by
 have hl:=λw=>zv 97 w ⟨by decide,by decide⟩;have GH:=λw=>zv 32 w ⟨by decide,by decide⟩;generalize fA 97 97=ca at*;generalize fA 32 32=cs at*;refine enter (args:=[]) (n:=13) Tryz.func6 I I I ?_;refine cB (bD (a8 I λg0=>?_));refine zL ?_
 try refine GA ?_
 refine aU (ja aJ.en I I) (λw hm=>hl w) I I I ?_;intro _ _;refine zL ?_
 repeat(first|refine QZ ?_|refine QV (bB I (Sy _ _ _ _ _ _)) ?_)
 refine aU (ja aJ.en I I) (λw hm=>GH w) I I I ?_;intro _ _;refine zL ?_
 repeat(first|refine QZ ?_|refine QV (bB I (OM _ _)) ?_)
 refine fw (cs:=(ze [97] 3 ca (av ak 0 0)++ze [] 3 cs (av ak 0 0)).toArray) [aQ (ze [97] 3 ca (av ak 0 0)).toArray,aQ (ze [] 3 cs (av ak 0 0)).toArray] I I I (by intro v hv;simp only[dM,fz,or_false]at hv;rcases hv with rfl|rfl<;>rfl) I I I λg5=>?_;refine zL ?_;refine fw (cs:=#[str [97],str [109]]) [str [97],str [109]] I I I (by intro v hv;simp only[dM,fz,or_false]at hv;rcases hv with rfl|rfl<;>rfl) I I I λg6=>?_;refine zL ?_
 repeat(first|refine QZ ?_|refine QV (bB I (CL _ _)) ?_|refine QV (bB I (OL _)) ?_)
 refine fw (cs:=#[str [97],str [109]]) [str [97],str [109]] I I I (by intro v hv;simp only[dM,fz,or_false]at hv;rcases hv with rfl|rfl<;>rfl) I I I λg9=>?_;refine zL ?_
 repeat(first|refine QZ ?_|refine QV (bB I (CL _ _)) ?_)
 refine fw (cs:=#[str [108],av (aj ⟨g6,0,ak⟩) 2 2,str [109],av ak 0 0,str [109],av (aj ⟨g9,0,ak⟩) 2 2]) [aQ #[str [108],av (aj ⟨g6,0,ak⟩) 2 2],aQ #[str [109],av ak 0 0],aQ #[str [109],av (aj ⟨g9,0,ak⟩) 2 2]] I I I (by intro v hv;simp only[dM,fz,or_false]at hv;rcases hv with rfl|rfl|rfl<;>rfl) I I I λg11=>?_;refine zL ?_
 repeat(first|refine QZ ?_|refine QV (bB I (ON _ _ _ _ _ _)) ?_)
 refine gG 0 (cs':=#[av (aj ⟨g5,0,ak⟩) 2 2,av (aj ⟨g11,0,ak⟩) 3 3]) ?_;refine zL ?_
 try refine GA ?_
 exact fW (i:=0) I I I I λw hm=>hm.meets (S:=aeU ca cs) ⟨g5,g6,g9,g11⟩ trivial [1,2,3,4] aln I
theorem nle{n:Nat}(h:n<=10:=by exact Nat.le_of_ble_eq_true I):n<=9223372036854775807:=by omega
theorem UH{w:World}{g:Nat}(h:(aR g #[str [97],str [109]] 9).holds w):kw U6 (qo w) w (av (aj ⟨g,0,ak⟩) 2 2) [[97],[109]]:=by
 have hb:w.heap[g]?=aj (.cells #[str [97],str [109]] 9 (0,0)):=h;refine⟨_,2,rfl,bC _,by decide,λ_=>⟨g,0,rfl,(kC.1 hb).1,λi hi=>⟨[str ([[97],[109]]:List Bs)[i]],⟨rfl,?_⟩,λj u hj=>?_⟩⟩⟩
 ·match i,hi with
  |0,_=>exact(by decide:(1:Nat)<=9223372036854775807)
  |1,_=>exact(by decide:(1:Nat)<=9223372036854775807)
 rw[cell_of_row w g _ _ _ _ hb]
 match i,hi,j,hj with
 |0,_,0,hj=>exact hj
 |1,_,0,hj=>exact hj
theorem aeV{w:World}{a s:C4}{x:ajy}(h1:(aR x.g1 (ze [97] 3 a (av ak 0 0)++ze [] 3 s (av ak 0 0)).toArray 90).holds w)(h2:(aR x.g2 #[str [97],str [109]] 9).holds w)(h3:(aR x.g3 #[str [97],str [109]] 9).holds w)
 (h4:(aR x.g4 #[str [108],av (aj ⟨x.g2,0,ak⟩) 2 2,str [109],av ak 0 0,str [109],av (aj ⟨x.g3,0,ak⟩) 2 2] 92).holds w):TO (qo w) w (aQ #[av (aj ⟨x.g1,0,ak⟩) 2 2,av (aj ⟨x.g4,0,ak⟩) 3 3]) ⟨aht a s,acp⟩:=by
 have GP:w.heap[x.g1]?=aj (.cells (ze [97] 3 a (av ak 0 0)++ze [] 3 s (av ak 0 0)).toArray 90 (0,0)):=h1;have hb4:w.heap[x.g4]?=aj (.cells #[str [108],av (aj ⟨x.g2,0,ak⟩) 2 2,str [109],av ak 0 0,str [109],av (aj ⟨x.g3,0,ak⟩) 2 2] 92 (0,0)):=h4;have hx:∀c,kQ (qo w) w (mG 3 c (av ak 0 0)) (.mk 3 c []):=λc=>zt.2 ⟨_,rfl,⟨by decide,by decide⟩,kw.nil⟩;refine⟨_,_,rfl,⟨_,2,rfl,bC _,by decide,λ_=>⟨x.g1,0,rfl,(kC.1 GP).1,λi hi=>?_⟩⟩,⟨_,3,rfl,bC _,by decide,λ_=>⟨x.g4,0,rfl,(kC.1 hb4).1,λi hi=>?_⟩⟩⟩
 ·match i,hi with
  |0,_=>
   refine⟨ze [97] 3 a (av ak 0 0),⟨[str [97]],_,rfl,⟨rfl,nle⟩,hx a⟩,λj u hj=>?_⟩;rw[cell_of_row w x.g1 _ _ _ _ GP,oE,A1,cX,List.getElem?_append_left (List.getElem?_eq_some_iff.1 hj).1];exact hj
  |1,_=>
   refine⟨ze [] 3 s (av ak 0 0),⟨[str []],_,rfl,⟨rfl,nle⟩,hx s⟩,λj u hj=>?_⟩;rw[cell_of_row w x.g1 _ _ _ _ GP,oE];show(ze [97] 3 a (av ak 0 0)++ze [] 3 s (av ak 0 0))[0+1*7+j]?=aj u
   rw[List.getElem?_append_right (by show 7<=_;omega),show 0+1*7+j-(ze [97] 3 a (av ak 0 0)).length=j from by show 0+1*7+j-7=j;omega];exact hj
 ·match i,hi with
  |0,_=>
   refine⟨rlC [108] (av (aj ⟨x.g2,0,ak⟩) 2 2),⟨[str [108]],[_],rfl,⟨rfl,nle⟩,_,rfl,UH h2⟩,λj u hj=>?_⟩;rw[cell_of_row w x.g4 _ _ _ _ hb4]
   match j,hj with
   |0,hj=>exact hj
   |1,hj=>exact hj
  |1,_=>
   refine⟨rlC [109] (av ak 0 0),⟨[str [109]],[_],rfl,⟨rfl,nle⟩,_,rfl,kw.nil⟩,λj u hj=>?_⟩;rw[cell_of_row w x.g4 _ _ _ _ hb4]
   match j,hj with
   |0,hj=>exact hj
   |1,hj=>exact hj
  |2,_=>
   refine⟨rlC [109] (av (aj ⟨x.g3,0,ak⟩) 2 2),⟨[str [109]],[_],rfl,⟨rfl,nle⟩,_,rfl,UH h3⟩,λj u hj=>?_⟩;rw[cell_of_row w x.g4 _ _ _ _ hb4]
   match j,hj with
   |0,hj=>exact hj
   |1,hj=>exact hj
end xj
namespace qR
open Go.RowKit cL dQ bZ dh gu fY aV cz eg mX xj
def lS:Sp:=⟨aht (fA 97 97) (fA 32 32),acp⟩
def lE:List Re:=[.byte (fA 97 97),.byte (fA 32 32)]
theorem aeW:wN lS=0:=by rfl
def lM(a b:C4):MS:=⟨⟨[a,b],[0,1],[[],[]],[aD,aD]⟩,[0,1],[aF,aF]⟩
theorem ahu(a b:C4):l6 0 .zero [.byte a,.byte b]=(0,lM a b):=by
 have u0:re [] [0]=[0]:=aaT (by simp) (by simp);have u1:re [0] [1]=[0,1]:=aaT (by simp) (by simp);have s0:xK 0 .zero (.byte a)=⟨⟨[a],[0],[[]],[aD]⟩,[0],[aF]⟩:=by simp[xK,cK,MS.zero,gh,u0]
 have s1:xK 1 ⟨⟨[a],[0],[[]],[aD]⟩,[0],[aF]⟩ (.byte b)=lM a b:=by
  simp[xK,cK,gh,u1,lM]
 rw[l6,s0,if_neg (by simp),l6,s1,if_neg (by simp[lM]),l6]
theorem W8:kl (qk lS)=0:=by rfl
open gX
theorem acq:∀r∈lS.rules,r.2.length<=8796093021952:=by
 intro r hr;have:r∈acp:=hr;simp only[acp,dM,fz,or_false]at this;rcases this with rfl|rfl|rfl<;>exact Nat.le_trans (nu I:_<=10) J
end qR
namespace bZ
open Go.RowKit cL dQ
end bZ
namespace ib
open Go.RowKit cL dQ bZ cz
theorem acr{R:List Row}{tags:List Int}(hc:lI R tags=0){s:List UInt8}{a:Nat}:
 ((ub R tags s a).2=0->∀e,a<e->e<=s.length->(oW R tags ((s.drop a).take (e-a))).1<0)/\((ub R tags s a).2≠0->0<=(ub R tags s a).1):=by
 have hA:=(oH hc).1;have h:=Ax (R:=R) (tags:=tags) hA (s.drop a) a 0 0 0 (TS hA) (Int.le_refl _);have e:ub R tags s a=Xq (nxR R) tags (s.drop a) a 0 0 0:=rfl;rw[e];rcases h with⟨h1,h2⟩|⟨k,h1,h2,h3,h4,h5⟩
 ·rw[h1]
  refine⟨λ_ e he hl=>?_,λh=>absurd I h⟩;rw[Dt hc];exact h2 (e-a) J (by rw[iT];omega)
 grind
end ib
namespace qR
open Go.RowKit cL dQ bZ dh gu fY aV cz eg mX xj ib
def acs(R:List Row)(T:List Int):List Int:=[[97],[32],[97,32],[97,32,97],[32,97],[97,97]].map λs=>tg (eL R T) (go (eL R T) 0 s)
set_option maxRecDepth 1000000 in
theorem acu:((wx (lM (fA 97 97) (fA 32 32))).map λx=>acs x.1 x.2.tags)=aj [0,1,-1,-1,-1,-1]:=by kernel_rfl
theorem acv:∃R T,Uy lS (0,R,T)/\lI R T=0/\[[97],[32],[97,32],[97,32,97],[32,97],[97,97]].map (λs=>(oW R T s).1)=[0,1,-1,-1,-1,-1]:=by
 have hl:l6 0 .zero lE=(0,lM (fA 97 97) (fA 32 32)):=ahu _ _;have hd:=acu;generalize lM (fA 97 97) (fA 32 32)=m at*
 cases hm:wx m with
 |none=>simp_all
 | some y=>
  obtain⟨R,d⟩:=y;rw[hm,Option.map_some,dL]at hd;have hc:lI R d.tags=0:=abu (Dp aln aln hl) (BP hm);refine⟨_,_,.inr ⟨lE,m,rfl,?_,by decide,by decide,hl,.inr (.inr ⟨by decide,W8,lE,rfl,?_,hl.symm⟩),.inr (.inr ⟨aeW,?_,?_,rfl⟩)⟩,?_,?_⟩
  ·intro e he
   simp only[lE,dM,fz,or_false]at he;rcases he with rfl|rfl<;>exact⟨by unfold Re.nz;decide,by decide,by decide⟩
  ·intro e he
   simp only[lE,dM,fz,or_false]at he;rcases he with rfl|rfl<;>decide
  rw[yW hm];rw[yW hm];exact hc;rw[yW hm];exact Ds hc;rw[yW hm];rw[<-hd];unfold acs;simp only[ff,lL,aa3 hc]
theorem tJ{R:List Row}{T:List Int}(hc:lI R T=0){s:List UInt8}{a n:Nat}{r:Int}(ha:a+n<=s.length)(hn:0<n)(h1:(oW R T ((s.drop a).take n)).1=r)(h0:0<=r)(h2:∀e,a<e->e<=s.length->e≠a+n->(oW R T ((s.drop a).take (e-a))).1<0):ib.ub R T s a=(r,a+n):=by
 obtain⟨h3,h4⟩:=acr hc (s:=s) (a:=a);have h5:=WH hc (s:=s) (a:=a) J;generalize ib.ub R T s a=x at*;obtain⟨x,t⟩:=x
 by_cases c:t=0
 grind
 obtain⟨h6,h7,h8,_⟩:=h5 c;have h9:=h4 c
 by_cases d:t=a+n
 ·subst d
  rw[show a+n-a=n by omega]at h8;rw[h8]at h1;rw[<-h1]
 have:=h2 t h6 h7 d;rw[h8]at this;exact absurd h9 (by dsimp only at this;omega)
theorem AM{R:List Row}{T:List Int}{s:List UInt8}{f a:Nat}(r:Int)(t:Nat)(h:ib.ub R T s a=(r,t))(ha:a<s.length)(ht:t≠0):xA R T s (f+1) a=((r,a,t)::(xA R T s f t).1,(xA R T s f t).2):=by
 rw[xA,if_pos ha,h,if_neg ht]
theorem DE{R:List Row}{T:List Int}{s:List UInt8}{f a:Nat}(ha:¬a<s.length):xA R T s (f+1) a=([],0,0):=by rw[xA,if_neg ha]
theorem aeX{R:List Row}{T:List Int}(hc:lI R T=0)(h:[[97],[32],[97,32],[97,32,97],[32,97],[97,97]].map (λs=>(oW R T s).1)=[0,1,-1,-1,-1,-1]):
 xA R T [97] 2 0=([(0,0,1)],0,0)/\xA R T [32] 2 0=([(1,0,1)],0,0)/\xA R T [97,32,97] 4 0=([(0,0,1),(1,1,2),(0,2,3)],0,0)/\xA R T [97,97] 3 0=([(0,0,1),(0,1,2)],0,0):=by
 simp only[ff,lL,jA,and_true]at h;obtain⟨h1,h2,h3,h4,h5,h6⟩:=h;refine⟨?_,?_,?_,?_⟩
 grind[tJ,AM,DE]
 grind[tJ,AM,DE]
 ·have e0:=tJ hc (s:=[97,32,97]) (a:=0) (n:=1) aln aln h1 aln λe x1 x2 x3=>by
   match e,x2 with
   |0,_=>omega
   |1,_=>omega
   |2,_=>simp_all
   |3,_=>simp_all
  have e1:=tJ hc (s:=[97,32,97]) (a:=1) (n:=1) aln aln h2 aln λe x1 x2 x3=>by
   match e,x2 with
   |0,_=>omega
   |1,_=>omega
   |2,_=>omega
   |3,_=>simp_all
  grind[tJ,AM,DE]
 ·have e0:=tJ hc (s:=[97,97]) (a:=0) (n:=1) aln aln h1 aln λe x1 x2 x3=>by
   match e,x2 with
   |0,_=>omega
   |1,_=>omega
   |2,_=>simp_all
  grind[tJ,AM,DE]
open gX
theorem ahv(R:List Row)(T:List Int):kq (zc lS R T) aD ([(0,0,1)],0,0) 1=([(1,0),(2,0),(1,1),(3,1),(3,0)],0,1):=by kernel_rfl
theorem ahw(R:List Row)(T:List Int):kq (zc lS R T) aD ([(1,0,1)],0,0) 1=([],13,1):=by rfl
theorem ahx(R:List Row)(T:List Int):kq (zc lS R T) aD ([(0,0,1),(1,1,2),(0,2,3)],0,0) 3=([(1,0),(2,0),(1,2),(2,1),(1,1),(3,1),(3,2),(3,0)],0,3):=by kernel_rfl
theorem ahy(R:List Row)(T:List Int):kq (zc lS R T) aD ([(0,0,1),(0,1,2)],0,0) 2=([(1,0),(2,0),(1,2),(2,1),(1,1),(3,1),(3,2),(3,0)],0,2):=by kernel_rfl
structure akC(r:Int×List Row×List Int)(T N:Nat):Prop where
 lx:Uy lS r
 ok:(DC lS r.1).1=0
 fit:fS (qn lS r) aD T N
 w1:jh (qn lS r) aD [97]=([(1,0),(2,0),(1,1),(3,1),(3,0)],0,1)
 w2:jh (qn lS r) aD [32]=([],13,1)
 w3:jh (qn lS r) aD [97,32,97]=([(1,0),(2,0),(1,2),(2,1),(1,1),(3,1),(3,2),(3,0)],0,3)
 w4:jh (qn lS r) aD [97,97]=([(1,0),(2,0),(1,2),(2,1),(1,1),(3,1),(3,2),(3,0)],0,2)
theorem acw:∃r T N,akC r T N:=by
 obtain⟨R,T,hx,hc,ht⟩:=acv;have e0:(DC lS 0).1=0:=by rfl
 obtain⟨b,T1,N1,hf⟩:=Ga hx e0;have hm:qn lS (0,R,T)=zc lS R T:=by rfl
 obtain rfl:b=true:=by
  have:=hf.md;rw[hm]at this
  cases b with
  |true=>rfl
  |false=>exact absurd this (by show(1:Int)≠2;decide)
 obtain⟨l1,l2,l3,l4⟩:=aeX hc ht;have hl:∀s:List UInt8,oX (zc lS R T).o (zc lS R T).N (zc lS R T).tags s=xA R T s (s.length+1) 0:=λs=>by
  show oX (wM R 256) (RM R) T s=_
  rw[WG (KQ hc),ajd R (oH hc).1.le]
 refine⟨_,T1,N1,hx,e0,hf,?_,?_,?_,?_⟩;rw[hm,jh,hl];exact(congrArg (λx=>kq (zc lS R T) aD x 1) l1).trans (ahv R T);rw[hm,jh,hl];exact(congrArg (λx=>kq (zc lS R T) aD x 1) l2).trans (ahw R T);rw[hm,jh,hl];exact(congrArg (λx=>kq (zc lS R T) aD x 3) l3).trans (ahx R T);rw[hm,jh,hl];exact(congrArg (λx=>kq (zc lS R T) aD x 2) l4).trans (ahy R T)
end qR
namespace sessionWhole
open Go.RowKit cL dQ bZ dh gu fY aV dO cz ib gX f_ xj qR
theorem ahz{w:World}:Sl w (av ak 0 0) 0 []:=⟨ak,0,rfl,bC _,bH _,λh=>absurd h (Nat.lt_irrefl _)⟩
set_option maxRecDepth 100000 in
theorem ajz(w:World)(v:Value)(s:Sp)(hv:TO (qo w) w v s)(hb:∀r∈s.rules,r.2.length*16<=140737488351232)(tx:List UInt8)(htx:tx.length<=140737488351232)(vc:Value)(cs:List Int)(Xi:Sl w vc cs.length (cs.map (.int .i64)))(kV:∀c∈cs,cL.dV c)(hn:cs.length<=1048576)(vk:Value)(ks:List Int)(hvk:Sl w vk ks.length (ks.map (.int .i64))):
 Calls aE 3 #[v,str tx,vc,vk] w (bX (ret (.bool aD)) w):=by
 obtain⟨r,hx⟩:=aha s;obtain⟨r0,T0,N0,h1⟩:=acw;have ajA:=λv' w' h=>Ox h1.lx (v:=v') (w:=w') h acq h1.ok;have ajB:=λc w' (hg:Gr w w')=>WU hx (hv.gr hg) (λr h=>by have:=hb r h;omega) c;have ajC:=λc w' (hg:Gr w w')=>Ox hx (hv.gr hg) (λr h=>by have:=hb r h;omega) c;have Jl:=Ga hx;have hsm:=Gk hx;have afv:=λ(y:MkX) vl w' h hl=>I2 y (qn lS r0) aD T0 N0 h1.fit (Gk h1.lx h1.ok) vl [[97],[97]] (av ak 0 0) [] w' h hl ahz aln aln;have ajD:=λx (h:abW (qn lS r0) aD [97,97] x)=>(h.all (.inr aln)).symm.trans h1.w4;have hls:=λw'=>Sz w';have ahA:=λw' x h1 h2 h3 h4=>aeV (w:=w') (a:=fA 97 97) (s:=fA 32 32) (x:=x) h1 h2 h3 h4;have hlS:lS=⟨aht (fA 97 97) (fA 32 32),acp⟩:=rfl;rw[<-hlS]at ahA;have ajE:=λw' (hg:Gr w w') h=>Sx tx vc cs w' (Xi.gr hg) kV hn h;have hvk:=λw' (hg:Gr w w')=>hvk.gr hg;clear hlS h1;generalize fA 97 97=ca at*;generalize fA 32 32=cs' at*;generalize qn lS r0=m0 at*;generalize lS=l0 at*;obtain⟨vw0,vr0,rfl,hw,hr⟩:=hv;obtain⟨bw,cw,rfl,-⟩:=hw;obtain⟨br,cr,rfl,-⟩:=hr;obtain⟨bc,cc,rfl,-⟩:=Xi;obtain⟨bk,ck,rfl,-⟩:=hvk w (Gr.refl w);clear hb;have hsz:Gx.toArray.size=266:=i_ jr I;have oJ:Gx.toArray.toList.all ft=true:=wO I Ui I;refine enter (args:=[aQ #[av bw s.words.length cw,av br s.rules.length cr],str tx,av bc cs.length cc,av bk ks.length ck]) (n:=114) Tryz.func3 I I I ?_;refine cB (bD (bL I I I λg2=>?_));refine zL ?_
 try refine GA ?_
 refine aU (he0 aJ.en I) (λw hm=>hls w) I I I ?_;rintro⟨q1,q2,q3,q4⟩ _
 conv=>arg 8;simp only[zJ,cD,ret,id_eq,aeU]
 conv=>arg 7;simp only[aeU]
 refine aU (ja aJ.en I I) (λw' hm=>ajA _ w' (ahA w' ⟨q1,q2,q3,q4⟩ (hm.get (i:=1) I) (hm.get (i:=2) I) (hm.get (i:=3) I) (hm.get (i:=4) I))) I I I ?_;intro y hy
 conv=>arg 8;simp only[zJ,cD,ret,id_eq,Sg]
 conv=>arg 7;simp only[Sg]
 refine B8 [0,5] ?_
 try refine GA ?_
 refine a8 I λg5'=>?_;rw[tB];refine zL ?_;refine aW (i:=2) (cs':=(y.cells m0).toArray) I I I (sm y m0) hy.one hsz ?_;refine zL ?_
 repeat(first|refine GA ?_|refine gV (aP (i:=2) aL.ty I I (sm y m0)) ?_)
 refine fw (cs:=#[str [97],str [97]]) [str [97],str [97]] I I I (by intro v hv;simp at hv;rcases hv with rfl|rfl<;>rfl) I I I λg29=>?_;refine zL ?_;refine aU (qq aJ.en I I I I) (λw' hm=>afv y _ w' (hy.mdr w' (hm.get (i:=1) I)) (kI (i:=3) (xs:=[str [97],str [97]]) I (λj u h=>by simpa using h) (bC _) aln w' hm)) I I I ?_;rintro⟨vo,x⟩ V0;obtain rfl:=ajD x V0.1
 conv=>arg 8;simp only[zJ,cD,ret,id_eq,W5]
 conv=>arg 7;simp only[W5]
 clear V0 ajD afv ajA hls ahA hy;refine lA (i:=4) I λba1 ca1 L6 _ _=>?_;subst L6;simp only[dj,iv,Nat.reduceAdd];refine B8 [0] ?_
 repeat(first|refine GA ?_|refine gV (aP (i:=0) aL.ty I I I) ?_)
 by_cases c0:(DC s r.1).1≠0
 ·have L4:=ajB c0
  refine aU (ja aJ.en I I) (λw hm=>L4 _ hm.below) I I I ?_;intro _ _;unfold ajl;refine zL ?_
  try refine GA ?_
  refine a8 I λg9'=>?_;rw[tB];refine zL ?_;refine aW (i:=1) (cs':=Gx.toArray) I I I hsz oJ hsz ?_;refine zL ?_
  repeat(first|refine GC ?_|refine gV (dc (b:=aD) I I (decide_eq_true c0)) ?_|refine GB ?_)
  exact eB
 have c1:(DC s r.1).1=0:=tD c0;have L4:=ajC c1;obtain⟨b,T,N,hk⟩:=Jl c1;have hsm:=hsm c1;clear ajC ajB Jl c0 c1 hx;generalize qn s r=m at*;refine aU (ja aJ.en I I) (λw hm=>L4 _ hm.below) I I I ?_;intro y hy
 conv=>arg 8;simp only[zJ,cD,ret,id_eq,Sg]
 conv=>arg 7;simp only[Sg]
 try refine GA ?_
 refine a8 I λg15=>?_;rw[tB];refine zL ?_;refine aW (i:=2) (cs':=(y.cells m).toArray) I I I (sm y m) hy.one hsz ?_;refine zL ?_
 by_cases c2:2000<tx.length
 ·try refine GA ?_
  exact eB
 have hrun:=λw' h=>OG (aQ (y.cells m).toArray) m b T N (vo:=y.vo) (vn:=y.vn) (vt:=y.vt) (vp:=y.vp) (vr:=y.vr) (va:=y.va) (vg:=y.vg) tx w' h hk J;have ajF:=λvl (ps:List (List UInt8)) (hp:so tx (cs.length+1) ps) w' h hl hg=>I2 y m b T N hk hsm vl ps (av bk ks.length ck) ks w' h hl (hvk w' hg) (λx hx=>by have:=hp.small x hx;omega) (by rw[hp.flat];omega)
 repeat(first|refine GA ?_|refine gV (aP (i:=2) aL.ty I I (sm y m)) ?_)
 refine aU (fC aJ.en I I I) (λw' hm=>hrun w' (hy.mdr w' (hm.get (i:=1) I))) I I I ?_;intro va _
 conv=>arg 8;simp only[zJ,cD,ret,id_eq,Gi]
 conv=>arg 7;simp only[Gi,UE]
 try refine GA ?_
 refine aX (i:=3) I λ_ ju=>?_;refine a8 I λg17=>?_;refine aW (i:=4) (cs':=UE va (jh m b tx)) I I I I (wU ju) I ?_;refine zL ?_;refine B8 [1,2,3,4] ?_;refine zL ?_
 try refine GA ?_
 have hrs:=λ(ps:List (List UInt8)) (hp:so tx (cs.length+1) ps) x (h:abW m b ps.flatten x)=>show abW m b tx x by rw[<-hp.flat];exact h
 clear hrun hk hsm L4;generalize hA:jh m b tx=A at*;obtain⟨ea,oa,pa⟩:=A;unfold UE;refine dH ([AJ y.Ls,aR g15 (y.cells m).toArray 38,jJ va ea,aR g17 #[va,az aB oa,az aB (pa:Int)] 48]) (.calm 0 (.calm 1 (.calm 2 (.calm 4 (.one 3 (.one 5 (.calm 6 (.calm 7 (.calm 8 (.calm 9 (.calm 10 (.calm 11 (.calm 12 (.calm 13 (.calm 14 (.done)))))))))))))))) (bV [0,1,2,3]) ?_
 repeat(first|refine GW ?_|(refine GN ?_;first|refine QW (aP (i:=1) aL.ty I I (sm y m)) ?_))
 refine aM I ?_;refine aU (fC aJ.en I I I) (λw hm=>ajE _ hm.below J) I I I ?_;rintro⟨vp,ps⟩ hp;have hp:so tx (cs.length+1) ps:=hp
 conv=>arg 8;simp only[zJ,cD,ret,id_eq,UG]
 conv=>arg 7;simp only[UG]
 refine aO (bV [0,1,2,3]) ?_;have afw:=ajF vp ps hp;have hrs:=hrs ps hp;clear ajF ajE
 try refine GW ?_
 refine aM I ?_;refine aU (qq aJ.en I I I I) (λw' hm=>afw w' (hy.mdr w' (hm.get (i:=0) I)) (iQ (i:=4) I w' hm) hm.below) I I I ?_;rintro⟨vo,out,e,at'⟩ hr;have hr:=hrs _ hr.1
 conv=>arg 8;simp only[zJ,cD,ret,id_eq,W5]
 conv=>arg 7;simp only[W5]
 clear hrs afw;refine aO (bV [0,1,2,3]) ?_
 try refine GW ?_
 try refine GA ?_
 refine lA (i:=2) I λbA cA hvA _ _=>?_;subst hvA;refine lA (i:=5) I λbO cO hvO _ _=>?_;subst hvO
 by_cases c3:e=10
 ·obtain⟨E,hE⟩:=hr.pre
  rw[hA]at hE;have hE:ea=out++E:=hE;have hle:out.length<=ea.length:=by rw[hE,bK];omega
  have oB:out=(ea.drop 0).take (out.length-0):=by rw[wh,E0,hE,List.take_left]
  have hEq:=λw' h1 h2=>wB (av bO out.length cO) (sN bA cA 2 0 out.length) out ((ea.drop 0).take (out.length-0)) w' h1 h2;rw[decide_eq_true oB]at hEq;clear hE oB
  repeat(first|refine GC ?_|refine gV (cY (b:=aD) I I (decide_eq_true c3)) ?_|refine gV (aC (v:=av bA ea.length cA) aL.ty I (aI (i:=3) I I)) ?_|refine gV (ye (b:=aD) I I (decide_eq_true J)) ?_|refine gV (A8 bQ.eq aL.ty I I J) ?_|refine GB ?_)
  refine k7 (fC aJ.en I I I) (λw hm=>hEq w (iQ (i:=5) I _ hm) (A9 (f:=rr) (c:=2) (λ_=>rfl) (iQ (i:=2) I _ hm) (bH _) J)) I I I I I ?_;intro _ _;refine zL ?_
  try refine GA ?_
  exact eB
 ·have hW:=hr.all (.inl c3)
  rw[hA]at hW;obtain⟨rfl,rfl,rfl⟩:ea=out/\oa=e/\pa=at':=by cases hW;exact⟨rfl,rfl,rfl⟩
  have hEq:=λw' h1 h2=>wB (av bO ea.length cO) (av bA ea.length cA) ea ea w' h1 h2;rw[decide_eq_true (rfl:ea=ea)]at hEq
  repeat(first|refine GC ?_|refine gV (cY (b:=aF) I I (decide_eq_false c3)) ?_|refine gV (aC (v:=az aB oa) aL.ty I (aI (i:=3) I I)) ?_|refine gV (cY (b:=aD) I I (decide_eq_true I)) ?_|refine gV (aC (v:=az aB (pa:Int)) aL.ty I (aI (i:=3) I I)) ?_|refine gV (aC (v:=av bA ea.length cA) aL.ty I (aI (i:=3) I I)) ?_|refine GB ?_)
  refine k7 (fC aJ.en I I I) (λw hm=>hEq w (iQ (i:=5) I _ hm) (iQ (i:=2) I _ hm)) I I I I I ?_;intro _ _;refine zL ?_
  try refine GA ?_
  exact eB
end sessionWhole
namespace bZ
open Go.RowKit cL dQ
theorem acx{H:Type}(d:DataW H):1<=Rows.uptoBulk d:=by
 unfold Rows.uptoBulk;split<;>omega
theorem OO{H:Type}:∀(ds:List (DataW H)),ds.length<=Rows.uptoBulkAll ds
 |[]=>by simp
 |d::r=>by
  have:=OO r;have:=acx d;rw[Rows.uptoBulkAll,dj];omega
set_option maxRecDepth 100000 in
theorem Gp{H:Type}{enc0:TypeId×Value->H}{W:World}{base:Nat}{v:Value}{d:DataW H}{ps:List MemPlace}(hv:Value.okWide aE W .any base 26 v)(h:DataW.Trod enc0 aE W 0 (λ_=>aD) aD 26 v d ps):
 ∃l:List Int,Sl W v l.length (l.map (.int .i64))/\(∀f∈l,cL.dV f)/\l.length<=Rows.uptoBulk d:=by
 obtain⟨l,h1,h2,h3⟩:=UI Tryz.underlying26 (c:=1) (by kernel_rfl) aln eJ (λ_=>rfl) cL.dV (λn cs x hx=>let ⟨a,e,h⟩:=Hw Tryz.underlying3 n cs x hx;⟨a,e,h⟩) hv h;refine⟨l,by rw[<-X_];exact h1,h2,?_⟩;rcases h3 with⟨_,rfl⟩|⟨elems,spare,rfl,hl⟩
 ·simp
 ·have:=OO elems
  rw[Rows.uptoBulk];omega
end bZ
namespace sessionWhole
open Go.RowKit cL dQ bZ fY
theorem walk{H:Type}{d0 d2 d3:DataW H}(w:World)(v:Value)(s:Sp)(hv:TO (qo w) w v s)(hb:∀r∈s.rules,r.2.length*16<=140737488351232)(tx:List UInt8)(htx:tx.length<=140737488351232)(vc:Value)(cs:List Int)(Xi:Sl w vc cs.length (cs.map (.int .i64)))(kV:∀c∈cs,cL.dV c)(hn:cs.length<=Rows.uptoBulk d2)(vk:Value)(ks:List Int)(hvk:Sl w vk ks.length (ks.map (.int .i64)))(_:∀c∈ks,cL.dV c)(_:ks.length<=Rows.uptoBulk d3)(hk:Rows.uptoSmall H [d0,.lit (.string tx),d2,d3]=aD):
 Calls aE 3 #[v,str tx,vc,vk] w (bX (ret (.bool aD)) w):=by
 have h:=of_decide_eq_true hk;simp only[Rows.uptoBulkAll]at h;exact ajz w v s hv hb tx htx vc cs Xi kV J vk ks hvk
end sessionWhole
end Go.Proofs.YthmakbpkkoeabaaGreat

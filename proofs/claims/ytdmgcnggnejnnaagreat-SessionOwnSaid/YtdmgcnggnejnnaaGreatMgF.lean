/- Part 6 of what SessionOwn needs: SeQ, FeedN, SeU, SeV, ActK, SeC, Fill, WhR, SeD, SeW, SeX, SeSat, SeOw, SpecLst, SpecOneL, SeY, SeOn, SmIr, ActZ, SessionOwnW. -/
import Derived.Test.YtdmgcnggnejnnaaGreatMgE
namespace Go.Proofs.YtdmgcnggnejnnaaGreat
set_option linter.unusedVariables false
set_option linter.unusedSimpArgs false
open _root_.And renaming intro->cJ
open _root_.Array renaming getElem?_eq_some_iff->jx,foldl_toList->abx
open _root_.Bool renaming true->aC,false->aE
open _root_.Decidable renaming of_not_not->tI
open _root_.Go.Instr renaming build->df,fill->j_
open _root_.Go.IntKind renaming i64->az
open _root_.Go.Op renaming equalIn->lQ
open _root_.Go.Proofs.Tryz renaming prog->aD
open _root_.Go.Value renaming slice->ap,int->av,pointer->aJ,agg->aQ,oneCell'->eY,cells->wM
open _root_.Go.Value.agg renaming injEq->ly
open _root_.Go.Value.slice renaming injEq->kH
open _root_.List renaming getElem?_eq_getElem->bK,length_append->bI,getElem?_eq_some_iff->dg,getElem_mem->b_,replicate->cL,length_cons->db,all_cons->cY,mem_singleton->dO,all_nil->c_,append_nil->du,length_map->dA,take_succ_eq_append_getElem->gX,append_assoc->dZ,mem_cons->dC,getElem?_append_left->iq,take_of_length_le->fU,nil_append->eI,drop_of_length_le->ir,not_mem_nil->fH,getElem?_toArray->jz,length_nil->gY,mem_map->eT,mem_iff_getElem->iB,cons_append->jf,drop_drop->kI,flatten_append->rC,any_eq_false->tJ,setIfInBounds_toArray->uF,take_left'->A1,drop_left'->A2,set_append->BN,mem_flatMap->vj,replicate_succ'->aby,flatMap_nil->abz
open _root_.Nat renaming le_refl->bz,zero_le->bH,zero_add->cX,le_of_ble_eq_true->k8,add_mul->iP,add_zero->iu,add_assoc->k9,lt_irrefl->y6,zero_mul->yf,succ_le_succ->Se,succ_pos->E9
open _root_.Option renaming some->aj,none->ak
open _root_.Prod renaming snd->BO
open _root_.True renaming intro->cT
set_option maxHeartbeats 16000000
namespace bZ
open Go.RowKit cK dS aU dL eO hY gZ bJ jG ft
open gK (Ev qG takeN G6 Kn oM yY Iu)
theorem xp{v:Value}{a b:Int}(h:v.oneCell'=aC):([v,av az a,av az b]:List Value).all eY=true:=by
 simp only[cY,c_,h];rfl
theorem K'{w:World}{e:TypeId}{c n:Nat}{v:Value}{xs:List Value}(h:(aZ e c v n xs).holds w):∃a k,v=ap a n k:=by
 rcases h.2 with⟨rfl,rfl⟩|⟨g,cap,jZ,rfl,_⟩
 exact⟨_,_,rfl⟩;exact⟨_,_,rfl⟩
theorem Ui{w:World}{v:Value}{l:List Ev}(h:(jY v l).holds w):Sl w v l.length (l.flatMap rL):=Sl.dD h
theorem agp{a l:List Ev}{c g:Int}(h0:gK.cz a c g=0)(h1:l.any qG=aE)(h2:a.length+l.length<=4200):G6 a c g l=0:=by
 unfold G6;rw[if_neg (by rw[h0];simp),if_neg (by rw[h1];decide),if_neg J]
section
variable{g:Nat}{vo:Value}{pk md:List Value}{vt vw:Value}{pc:List Value}(dX:pk.length=258)(oD:md.length=7)(xE:pc.length=8)
include dX oD xE
set_option maxRecDepth 100000 in
theorem pe(s:e9)(vl:Value)(l:List Ev)(hg:gK.cz s.wait s.cr s.gone=0)(hl:l.any qG=aE)(hn:s.wait.length+l.length<=4200)(w:World)(B:bL)(hm:Mem B [qL g vo pk md s vt pc vw,jY vw s.wait,jY vl l] w):
 Calls aD 140 #[aJ (aj ⟨g,0,ak⟩),vl] w (da ⟨λ_=>True,λ_=> .tuple #[],λK9=>xF g vo pk md {s with wait:=s.wait++l} vt pc K9⟩ B):=by
 have M4:=λw' (h1:(jY vw s.wait).holds w') (h2:(jY vl l).holds w')=>Ro vw s.wait s.cr s.gone vl l w' (Ui h1) J (Ui h2);have hp:=agp hg hl hn;have WE:Kn s.wait s.cr s.gone l=s.wait++l:=by unfold Kn;rw[if_pos hp]
 rw[hp,WE]at M4;obtain⟨m0,m1,m2,m3,m4,m5,m6,rfl⟩:=xW oD;obtain⟨p0,p1,p2,p3,p4,p5,p6,p7,rfl⟩:=xX xE;refine dB hm (args:=[aJ (aj ⟨g,0,ak⟩),vl]) (n:=16) Tryz.func140 I I I ?_
 repeat(first|refine GA ?_|refine gV (bm (cs:=[vw,av az s.cr,av az s.gone]) aK.ty I I (λj v h=>aH (i:=0) I (l7 26 dX I h J))) ?_)
 refine aV (fB aI.en I I I) (λw' hm=>M4 w' (hm.get (i:=1) I) (hm.get (i:=2) I)) I I I ?_;intro v1 _
 conv=>arg 8;simp only[zJ,cI,ret,id_eq,Rn,cI]
 conv=>arg 7;simp only[Rn,cI,As]
 try refine GA ?_
 refine aW (i:=3) I λ_ lD=>iW (i:=0) 26 (cs:=[v1,av az s.cr,av az s.gone]) I I I (xp lD) I I dX I I ?_;refine zL ?_
 try refine GA ?_
 exact jP I λw hm=>hm.cC (S:=⟨λ_=>True,λ_=> .tuple #[],λK9=>xF g vo pk [m0,m1,m2,m3,m4,m5,m6] {s with wait:=s.wait++l} vt [p0,p1,p2,p3,p4,p5,p6,p7] K9⟩) v1 trivial [0,3] akh rfl
set_option maxRecDepth 100000 in
theorem Hl(s:e9)(n:Int)(hg:gK.cz s.wait s.cr s.gone=0)(w:World)(B:bL)(hm:Mem B (xF g vo pk md s vt pc vw) w):
 Calls aD 26 #[aJ (aj ⟨g,0,ak⟩),av az n] w (da (CZ g vo pk md (rJ s n) vt pc) B):=by
 obtain⟨k1,k2,k3,k4,k5,-⟩:=gK.cV hg;have Hc:=λw' (h1:(jY vw s.wait).holds w')=>Ky vw s.wait s.cr s.gone n w' (Ui h1) J;obtain⟨m0,m1,m2,m3,m4,m5,m6,rfl⟩:=xW oD;obtain⟨p0,p1,p2,p3,p4,p5,p6,p7,rfl⟩:=xX xE;obtain⟨aw,cw,rfl⟩:=K' (hm.get (i:=1) rfl);unfold rJ
 by_cases c1:s.over=aC/\s.wait=[]
 ·rw[if_pos c1]
  obtain⟨c1,c2⟩:=c1;have c3:s.wait.length=0:=by rw[c2];rfl
  refine dB hm (args:=[aJ (aj ⟨g,0,ak⟩),av az n]) (n:=31) Tryz.func26 I I I ?_
  repeat(first|refine GA ?_|refine gV (aB (v:= .bool aC) aK.ty I (aH (i:=0) I (fu dX I (by rw[<-c1];rfl)))) ?_|refine gV (aB aK.ty I (aH (i:=0) I (fu dX I I))) ?_)
  exact cO I I λw hm=>hm.cC (S:=CZ g vo pk [m0,m1,m2,m3,m4,m5,m6] (s,15) vt [p0,p1,p2,p3,p4,p5,p6,p7]) _ trivial [0,1] akh I
 rw[if_neg c1];have aeD:∀(S:Spec Value) (e c':Int),(∀v,S.ok v)->(∀v,S.val v=av az e)->(∀v,S.own v=xF g vo pk [m0,m1,m2,m3,m4,m5,m6] {s with cr:=c'} vt [p0,p1,p2,p3,p4,p5,p6,p7] v)->yY s.wait s.cr s.gone n=c'->oM s.wait s.cr s.gone n=e->Calls aD 26 #[aJ (aj ⟨g,0,ak⟩),av az n] w (da S B):=by
  intro S e c' s1 s2 s3 e1 e2;rw[e1,e2]at Hc;have jX:∀v1 L w,L[0]?=aj (qL g vo pk [m0,m1,m2,m3,m4,m5,m6] {s with cr:=c'} vt [p0,p1,p2,p3,p4,p5,p6,p7] v1)->L[2]?=aj (jY v1 s.wait)->Mem B L w->da S B (.returned (av az e)) w:=λv1 L w h0 h2 hm=>by
   rw[<-s2 v1];exact hm.cC v1 (s1 _) [0,2] akh (by rw[s3];simp only[List.filterMap_cons,List.filterMap_nil,h0,h2])
  rcases(Bool.eq_false_or_eq_true s.over)with c2|c2
  ·have c3:¬s.wait.length=0:=λh=>c1 ⟨c2,List.eq_nil_of_length_eq_zero h⟩
   refine dB hm (args:=[aJ (aj ⟨g,0,ak⟩),av az n]) (n:=31) Tryz.func26 I I I ?_
   repeat(first|refine GA ?_|refine gV (aB (v:= .bool aC) aK.ty I (aH (i:=0) I (fu dX I (by rw[<-c2];rfl)))) ?_|refine gV (aB aK.ty I (aH (i:=0) I (fu dX I I))) ?_|refine gV (bm (cs:=[_,av az s.cr,av az s.gone]) aK.ty I I (λj v h=>aH (i:=0) I (l7 26 dX I h J))) ?_)
   refine aV (fB aI.en I I I) (λw' hm=>Hc w' (hm.get (i:=1) I)) I I I ?_;intro v1 _
   conv=>arg 8;simp only[zJ,cI,ret,id_eq,Rn,cI]
   conv=>arg 7;simp only[Rn,cI,As]
   try refine GA ?_
   refine aW (i:=2) I λ_ lD=>iW (i:=0) 26 (cs:=[v1,av az c',av az s.gone]) I I I (xp lD) I I dX I I ?_;refine zL ?_
   try refine GA ?_
   exact cO I I λw hm=>jX v1 _ w I I hm
  refine dB hm (args:=[aJ (aj ⟨g,0,ak⟩),av az n]) (n:=31) Tryz.func26 I I I ?_
  repeat(first|refine GA ?_|refine gV (aB (v:= .bool aE) aK.ty I (aH (i:=0) I (fu dX I (by rw[<-c2];rfl)))) ?_|refine gV (aB aK.ty I (aH (i:=0) I (fu dX I I))) ?_|refine gV (bm (cs:=[_,av az s.cr,av az s.gone]) aK.ty I I (λj v h=>aH (i:=0) I (l7 26 dX I h J))) ?_)
  refine aV (fB aI.en I I I) (λw' hm=>Hc w' (hm.get (i:=1) I)) I I I ?_;intro v1 _
  conv=>arg 8;simp only[zJ,cI,ret,id_eq,Rn,cI]
  conv=>arg 7;simp only[Rn,cI,As]
  try refine GA ?_
  refine aW (i:=2) I λ_ lD=>iW (i:=0) 26 (cs:=[v1,av az c',av az s.gone]) I I I (xp lD) I I dX I I ?_;refine zL ?_
  try refine GA ?_
  exact cO I I λw hm=>jX v1 _ w I I hm
 by_cases c2:n<1\/1073741824<n
 ·rw[if_pos c2]
  have e1:oM s.wait s.cr s.gone n=1:=by
   unfold oM;rw[if_neg (by rw[hg];simp)]
   by_cases c3:n<1
   rw[if_pos c3];rw[if_neg c3,if_pos J]
  exact aeD _ 1 s.cr (λ_=>trivial) (λ_=>rfl) (λ_=>rfl) (by unfold yY;rw[if_neg (by rw[e1];decide)]) e1
 ·rw[if_neg c2]
  have e1:oM s.wait s.cr s.gone n=0:=by
   unfold oM;rw[if_neg (by rw[hg];simp),if_neg J,if_neg J]
  exact aeD _ 0 _ (λ_=>trivial) (λ_=>rfl) (λ_=>rfl) (by unfold yY;rw[if_pos e1]) e1
set_option maxRecDepth 100000 in
theorem La(s:e9)(n:Int)(hg:gK.cz s.wait s.cr s.gone=0)(w:World)(B:bL)(hm:Mem B (xF g vo pk md s vt pc vw) w):
 Calls aD 30 #[aJ (aj ⟨g,0,ak⟩),av az n] w (da ⟨λ(_:Value×Value)=>True,λx=>x.2,λx=>xF g vo pk md (dI s n).1 vt pc x.1++[jY x.2 (dI s n).2]⟩ B):=by
 obtain⟨k1,k2,k3,k4,k5,-⟩:=gK.cV hg;have pq:=λw' (h1:(jY vw s.wait).holds w')=>NC vw s.wait s.cr s.gone n w' (Ui h1) J;have zo:∀w',(jY vw s.wait).holds w'->Calls aD 70 #[As vw s.cr s.gone,av az n] w' (bY ⟨λ_=>True,λ(x:Value×Value)=> .tuple #[As x.1 (dI s n).1.cr (dI s n).1.gone,x.2,av az (if n<0 then 1 else 0)],λx=>[jY x.1 (dI s n).1.wait,jY x.2 (dI s n).2]⟩ w'):=by
  intro w' h1;have h:=pq w' h1;unfold taS Iu at h;simp only[hg,ne_eq,not_true_eq_false,if_false]at h;unfold dI
  by_cases c:n<0
  ·simp only[if_pos c]at h⊢
   exact h
  simp only[if_neg c]at h⊢;have hN:takeN s.wait s.cr n<=s.wait.length:=by unfold takeN;omega
  have e1:(s.wait.drop (takeN s.wait s.cr n)).length=s.wait.length-takeN s.wait s.cr n:=by simp
  have e2:(s.wait.take (takeN s.wait s.cr n)).length=takeN s.wait s.cr n:=by simp;omega
  unfold jY;rw[e1,e2];exact h
 have Yd:(dI s n).1={s with wait:=(dI s n).1.wait,cr:=(dI s n).1.cr,gone:=(dI s n).1.gone}:=by
  unfold dI;split<;>rfl
 rw[Yd];clear pq;generalize (dI s n).1.wait=W at*;generalize (dI s n).1.cr=C at*;generalize (dI s n).1.gone=G at*;generalize (dI s n).2=O at*;generalize (if n<0 then(1:Int)else 0)=E at*;obtain⟨m0,m1,m2,m3,m4,m5,m6,rfl⟩:=xW oD;obtain⟨p0,p1,p2,p3,p4,p5,p6,p7,rfl⟩:=xX xE;refine dB hm (args:=[aJ (aj ⟨g,0,ak⟩),av az n]) (n:=19) Tryz.func30 I I I ?_
 repeat(first|refine GA ?_|refine gV (bm (cs:=[vw,av az s.cr,av az s.gone]) aK.ty I I (λj v h=>aH (i:=0) I (l7 26 dX I h J))) ?_)
 refine aV (fB aI.en I I I) (λw' hm=>zo w' (hm.get (i:=1) I)) I I I ?_;rintro⟨v1,v2⟩ _;refine zL ?_
 conv=>arg 7;simp only[As]
 try refine GA ?_
 refine aW (i:=2) I λ_ lD=>iW (i:=0) 26 (cs:=[v1,av az C,av az G]) I I I (xp lD) I I dX I I ?_;refine zL ?_
 try refine GA ?_
 exact cO I I λw hm=>hm.cC (S:=⟨λ_=>True,λ(x:Value×Value)=>x.2,λx=>xF g vo pk [m0,m1,m2,m3,m4,m5,m6] {s with wait:=W,cr:=C,gone:=G} vt [p0,p1,p2,p3,p4,p5,p6,p7] x.1++[jY x.2 O]⟩) (v1,v2) trivial [0,2,3] akh rfl
end
set_option maxRecDepth 100000 in
theorem Hm(x:Value)(m:Md){vo vn vt vp vr va vg ut up uq uw:Value}(T N:Nat)(hk:iA m aC T N)(g:Nat)(s:e9)(hp:Ub m aC s.p)(G3:s.rM=0)(PJ:s.sy=aE)(t:Nat)(ha:s.seen<=1000000)(ht:t<T)(hg:gK.cz s.wait s.cr s.gone=0)(hw:s.wait.length<=2199)(w:World)(B:bL)(hR:oB B λw=>CY w x m vo vn vt vp vr va vg)
 (hm:Mem B [qL g vo (fc m.o vn vt) (fQ m.g.aT m.g.bC vp m.mode vr va vg) s ut (jk aC s up uq) uw,qK aC up s.p,jY uw s.wait] w):
 Calls aD 105 #[aJ (aj ⟨g,0,ak⟩),av az (t:Int)] w (da ⟨λ(_:Value×Value)=>True,λ_=>av az (qJ m aC s (t:Int)).2,λx=>[qK aC x.1 (qJ m aC s (t:Int)).1.p,qL g vo (fc m.o vn vt) (fQ m.g.aT m.g.bC vp m.mode vr va vg) (qJ m aC s (t:Int)).1 ut (jk aC (qJ m aC s (t:Int)).1 x.1 uq) x.2,jY x.2 (qJ m aC s (t:Int)).1.wait]⟩ B):=by
 have dX:(fc m.o vn vt).length=258:=fj _ _ _;have Sf:=K2 hk hp (a:=s.seen) ha (t:=(t:Int)) J;have xJ:(fG m aC s.p s.seen (t:Int)).2.2.length<=2001:=by
  by_cases c:(fG m aC s.p s.seen (t:Int)).1=0
  exact(xh hk hp J c).2;rw[show(fG m aC s.p s.seen (t:Int)).2.2=[]from congrArg BO (I6 c)];exact bH _
 obtain⟨p1,p2⟩:=hp;obtain⟨h1,h2⟩:=hk.ll rfl;have oD:m.mode=1:=hk.md;have hc:=λw' (hm:Mem B [qL g vo (fc m.o vn vt) (fQ m.g.aT m.g.bC vp m.mode vr va vg) s ut (jk aC s up uq) uw,qK aC up s.p,jY uw s.wait] w')=>Sd _ vr up m.g m.rows T N s.p s.seen t w' (hR _ w' hm).BQ (hR _ w' hm).rows (Sl.dD (hm.get (i:=1) I)) h1 hk.BQ h2 p1 p2 ha ht;have hwt:=λ(s':e9) pc' vl l h1 h2 h3 h4 w' B hm=>pe (g:=g) (vo:=vo) (vt:=ut) (vw:=uw) (pc:=pc') dX (show(fQ m.g.aT m.g.bC vp m.mode vr va vg).length=7 from I) h4 s' vl l h1 h2 h3 w' B hm;unfold qJ;rw[show fG m aC s.p s.seen (t:Int)=((kD m.g.aF (jb m.rows t) s.p.1 s.seen (t:Int)).1,((kD m.g.aF (jb m.rows t) s.p.1 s.seen (t:Int)).2.1,s.p.2),(kD m.g.aF (jb m.rows t) s.p.1 s.seen (t:Int)).2.2)from I]at Sf xJ⊢;generalize kD m.g.aF (jb m.rows t) s.p.1 s.seen (t:Int)=R at*;obtain⟨e,st,o⟩:=R;generalize fc m.o vn vt=PK at*;generalize m.g.aT=gt at*;generalize m.g.bC=gn at*;generalize m.mode=md at*;clear hR hk;dsimp only at Sf xJ⊢;obtain⟨jU,mF,dV,jV,ended,kO,dy,iU,lF,bad,eb,p,seen,rM,sy,wait,cr,gone,over,e8,pl⟩:=s;dsimp only at*;subst G3 PJ;refine dB hm (args:=[aJ (aj ⟨g,0,ak⟩),av az (t:Int)]) (n:=62) Tryz.func105 I I I ?_
 repeat(first|refine GA ?_|refine gV (aB (v:=av az md) aK.ty I (aH (i:=0) I (fu dX I I))) ?_)
 refine dT ([xV g (jE vo PK (fQ gt gn vp md vr va vg)) 168]) (.calm 0 (.calm 1 (.calm 2 (.calm 3 (.calm 4 (.calm 5 (.calm 6 (.calm 7 (.calm 8 (.calm 9 (.calm 10 (.calm 11 (.calm 12 (.calm 13 (.calm 15 (.one 14 (.one 16 (.calm 17 (.calm 18 (.calm 19 (.calm 20 (.calm 21 (.calm 22 (.one 23 (.calm 24 (.calm 25 (.done))))))))))))))))))))))))))) (eu (i:=0) I (ii _ _ _ _)) ?_
 repeat(first|refine GW ?_|(refine GN ?_;first|refine QW (bm (cs:=[av az gt,av az gn,vp]) aK.ty I I (λj v h=>np (i:=0) I (l7 0 dX I h J))) ?_|refine QW (aB (v:=vr) aK.ty I (np (i:=0) I (je 4 dX I I))) ?_))
 refine aL I (dx (bm (cs:=[up,av az seen,av az 0,.bool aE]) aK.ty I I (λj v h=>aH (i:=0) I (l7 18 dX I h J))) I I I (aM (eu (i:=0) I (ii _ _ _ _)) ?_))
 try refine GW ?_
 refine aL I (aV (UA aI.en I I I I I) (λw hm=>hc w hm) I I I ?_);rintro⟨v1,v2⟩ _
 conv=>arg 8;simp only[zJ,cI,ret,id_eq,tkA]
 conv=>arg 7;simp only[tkA,t_]
 refine aM (eu (i:=0) I (ii _ _ _ _)) ?_
 try refine GW ?_
 refine aL I (aW (i:=3) I λ_ lD=>iW (i:=0) 18 (cs:=[v1,av az ((if e=0 then seen+1 else seen:Nat):Int),av az e,.bool aE]) (tl':=fQ gt gn vp md vr va vg++rK ⟨jU,mF,dV,jV,ended,kO,dy,iU,lF,bad,eb,(st,p.2),if e=0 then seen+1 else seen,e,aE,wait,cr,gone,over,e8,pl⟩ ut (jk aC ⟨jU,mF,dV,jV,ended,kO,dy,iU,lF,bad,eb,(st,p.2),if e=0 then seen+1 else seen,e,aE,wait,cr,gone,over,e8,pl⟩ v1 uq) uw) I I I (Dv lD) I I dX I I ?_);refine zL ?_;refine aM (eu (i:=0) I (ii _ _ _ _)) ?_
 try refine GW ?_
 try refine GA ?_
 refine bx [0,2,4] [3] akh I I (fB aI.en I I I) (λw hm hb=>hwt ⟨jU,mF,dV,jV,ended,kO,dy,iU,lF,bad,eb,(st,p.2),if e=0 then seen+1 else seen,e,aE,wait,cr,gone,over,e8,pl⟩ (jk aC ⟨jU,mF,dV,jV,ended,kO,dy,iU,lF,bad,eb,(st,p.2),if e=0 then seen+1 else seen,e,aE,wait,cr,gone,over,e8,pl⟩ v1 uq) v2 o hg (tJ.2 λy hy=>by rw[Sf y hy];decide) (by show wait.length+o.length<=4200;omega) I w _ hb) I I I ?_;intro K9 _;refine zL ?_
 try refine GA ?_
 exact cO I I λw hm=>hm.cC (S:=⟨λ_=>True,λ_=>av az e,λ(x:Value×Value)=>[qK aC x.1 (st,p.2),qL g vo PK (fQ gt gn vp md vr va vg) ⟨jU,mF,dV,jV,ended,kO,dy,iU,lF,bad,eb,(st,p.2),if e=0 then seen+1 else seen,e,aE,wait++o,cr,gone,over,e8,pl⟩ ut (jk aC ⟨jU,mF,dV,jV,ended,kO,dy,iU,lF,bad,eb,(st,p.2),if e=0 then seen+1 else seen,e,aE,wait++o,cr,gone,over,e8,pl⟩ x.1 uq) x.2,jY x.2 (wait++o)]⟩) (v1,K9) trivial [0,1,2] akh I
set_option maxRecDepth 100000 in
theorem Lb(x:Value)(m:Md){vo vn vt vp vr va vg ut up uq uw:Value}(T N:Nat)(hk:iA m aC T N)(g:Nat)(s:e9)(hp:Ub m aC s.p)(G3:s.rM=0)(PJ:s.sy=aE)(ha:s.seen<=1000000)(hg:gK.cz s.wait s.cr s.gone=0)(hw:s.wait.length<=2199)(w:World)(B:bL)(hR:oB B λw=>CY w x m vo vn vt vp vr va vg)
 (hm:Mem B [qL g vo (fc m.o vn vt) (fQ m.g.aT m.g.bC vp m.mode vr va vg) s ut (jk aC s up uq) uw,qK aC up s.p,jY uw s.wait] w):
 Calls aD 108 #[aJ (aj ⟨g,0,ak⟩)] w (da ⟨λ(_:Value×Value)=>True,λ_=>av az (qo m aC s).2,λx=>[qK aC x.1 (qo m aC s).1.p,qL g vo (fc m.o vn vt) (fQ m.g.aT m.g.bC vp m.mode vr va vg) (qo m aC s).1 ut (jk aC (qo m aC s).1 x.1 uq) x.2,jY x.2 (qo m aC s).1.wait]⟩ B):=by
 have dX:(fc m.o vn vt).length=258:=fj _ _ _;have Sf:=RX hk hp (a:=s.seen) ha;have xJ:(rH m aC s.p s.seen).2.length<=2001:=by
  have:=Gi hk hp (a:=s.seen)
  by_cases c:(rH m aC s.p s.seen).1=0
  exact this.1 c;rw[this.2 c];exact bH _
 obtain⟨p1,p2⟩:=hp;obtain⟨h1,h2⟩:=hk.ll rfl;have oD:m.mode=1:=hk.md;have hc:=λw' (hm:Mem B [qL g vo (fc m.o vn vt) (fQ m.g.aT m.g.bC vp m.mode vr va vg) s ut (jk aC s up uq) uw,qK aC up s.p,jY uw s.wait] w')=>Wp _ vr up m.g m.rows T N s.p.1 s.seen  w' (hR _ w' hm).BQ (hR _ w' hm).rows (Sl.dD (hm.get (i:=1) I)) h1 hk.BQ h2 p1 p2 ha;have hwt:=λ(s':e9) pc' vl l h1 h2 h3 h4 w' B hm=>pe (g:=g) (vo:=vo) (vt:=ut) (vw:=uw) (pc:=pc') dX (show(fQ m.g.aT m.g.bC vp m.mode vr va vg).length=7 from I) h4 s' vl l h1 h2 h3 w' B hm;unfold qo;have hT:=hk.tT;rw[show rH m aC s.p s.seen=iF m.g.aF (jb m.rows m.g.aT.toNat) s.p.1 from I,show m.g.aT.toNat=T by omega]at Sf xJ⊢;clear hT;generalize iF m.g.aF (jb m.rows T) s.p.1=R at*;obtain⟨e,o⟩:=R;generalize fc m.o vn vt=PK at*;generalize m.g.aT=gt at*;generalize m.g.bC=gn at*;generalize m.mode=md at*;clear hR hk;dsimp only at Sf xJ⊢;obtain⟨jU,mF,dV,jV,ended,kO,dy,iU,lF,bad,eb,p,seen,rM,sy,wait,cr,gone,over,e8,pl⟩:=s;dsimp only at*;subst G3 PJ;refine dB hm (args:=[aJ (aj ⟨g,0,ak⟩)]) (n:=58) Tryz.func108 I I I ?_
 repeat(first|refine GA ?_|refine gV (aB (v:=av az md) aK.ty I (aH (i:=0) I (fu dX I I))) ?_)
 refine dT ([xV g (jE vo PK (fQ gt gn vp md vr va vg)) 168]) (.calm 0 (.calm 1 (.calm 2 (.calm 3 (.calm 4 (.calm 5 (.calm 6 (.calm 7 (.calm 8 (.calm 9 (.calm 10 (.calm 11 (.calm 12 (.calm 13 (.one 14 (.one 15 (.calm 16 (.calm 17 (.calm 18 (.calm 19 (.calm 20 (.calm 21 (.one 22 (.calm 23 (.calm 24 (.done)))))))))))))))))))))))))) (eu (i:=0) I (ii _ _ _ _)) ?_
 repeat(first|refine GW ?_|(refine GN ?_;first|refine QW (bm (cs:=[av az gt,av az gn,vp]) aK.ty I I (λj v h=>np (i:=0) I (l7 0 dX I h J))) ?_|refine QW (aB (v:=vr) aK.ty I (np (i:=0) I (je 4 dX I I))) ?_))
 refine aL I (dx (bm (cs:=[up,av az seen,av az 0,.bool aE]) aK.ty I I (λj v h=>aH (i:=0) I (l7 18 dX I h J))) I I I (aM (eu (i:=0) I (ii _ _ _ _)) ?_))
 try refine GW ?_
 refine aL I (aV (sV aI.en I I I I) (λw hm=>hc w hm) I I I ?_);intro v2 _
 conv=>arg 8;simp only[zJ,cI,ret,id_eq,enA]
 conv=>arg 7;simp only[enA,t_]
 refine aM (eu (i:=0) I (ii _ _ _ _)) ?_
 try refine GW ?_
 refine aL I (iW (i:=0) 18 (cs:=[ap ak 0 0,av az seen,av az e,.bool (decide (e=0))]) (tl':=fQ gt gn vp md vr va vg++rK ⟨jU,mF,dV,jV,ended,kO,dy,iU,lF,bad,eb,zh aC p,seen,e,decide (e=0),wait,cr,gone,over,e8,pl⟩ ut (jk aC ⟨jU,mF,dV,jV,ended,kO,dy,iU,lF,bad,eb,zh aC p,seen,e,decide (e=0),wait,cr,gone,over,e8,pl⟩ (ap ak 0 0) uq) uw) I I I (Dv I) I I dX I I ?_);refine zL ?_;refine aM (eu (i:=0) I (ii _ _ _ _)) ?_
 try refine GW ?_
 try refine GA ?_
 refine bx [0,2,3] [1] akh I I (fB aI.en I I I) (λw hm hb=>hwt ⟨jU,mF,dV,jV,ended,kO,dy,iU,lF,bad,eb,zh aC p,seen,e,decide (e=0),wait,cr,gone,over,e8,pl⟩ (jk aC ⟨jU,mF,dV,jV,ended,kO,dy,iU,lF,bad,eb,zh aC p,seen,e,decide (e=0),wait,cr,gone,over,e8,pl⟩ (ap ak 0 0) uq) v2 o hg (tJ.2 λy hy=>by rw[Sf y hy];decide) (by show wait.length+o.length<=4200;omega) I w _ hb) I I I ?_;intro K9 _;refine zL ?_
 try refine GA ?_
 refine dN 231 4 ?_;exact cO I I λw hm=>hm.cC (S:=⟨λ_=>True,λ_=>av az e,λ(x:Value×Value)=>[qK aC x.1 (zh aC p),qL g vo PK (fQ gt gn vp md vr va vg) ⟨jU,mF,dV,jV,ended,kO,dy,iU,lF,bad,eb,zh aC p,seen,e,decide (e=0),wait++o,cr,gone,over,e8,pl⟩ ut (jk aC ⟨jU,mF,dV,jV,ended,kO,dy,iU,lF,bad,eb,zh aC p,seen,e,decide (e=0),wait++o,cr,gone,over,e8,pl⟩ x.1 uq) x.2,jY x.2 (wait++o)]⟩) (ap ak 0 0,K9) trivial [3,1,2] akh I
set_option maxRecDepth 100000 in
theorem Hn(x:Value)(m:Md){vo vn vt vp vr va vg ut up uq uw:Value}(T N:Nat)(hk:iA m aE T N)(g:Nat)(s:e9)(hp:Ub m aE s.p)(G3:s.rM=0)(PJ:s.sy=aE)(t:Nat)(ha:s.seen<=1000000)(ht:t<T)(hg:gK.cz s.wait s.cr s.gone=0)(hw:s.wait.length<=2199)(w:World)(B:bL)(hR:oB B λw=>CY w x m vo vn vt vp vr va vg)
 (hm:Mem B [qL g vo (fc m.o vn vt) (fQ m.g.aT m.g.bC vp m.mode vr va vg) s ut (jk aE s up uq) uw,qK aE up s.p,jY uw s.wait] w):
 Calls aD 105 #[aJ (aj ⟨g,0,ak⟩),av az (t:Int)] w (da ⟨λ(_:Value×Value)=>True,λ_=>av az (qJ m aE s (t:Int)).2,λx=>[qK aE x.1 (qJ m aE s (t:Int)).1.p,qL g vo (fc m.o vn vt) (fQ m.g.aT m.g.bC vp m.mode vr va vg) (qJ m aE s (t:Int)).1 ut (jk aE (qJ m aE s (t:Int)).1 x.1 uq) x.2,jY x.2 (qJ m aE s (t:Int)).1.wait]⟩ B):=by
 have dX:(fc m.o vn vt).length=258:=fj _ _ _;have Sf:=K2 hk hp (a:=s.seen) ha (t:=(t:Int)) J;have xJ:(fG m aE s.p s.seen (t:Int)).2.2.length<=2001:=by
  by_cases c:(fG m aE s.p s.seen (t:Int)).1=0
  exact(xh hk hp J c).2;rw[show(fG m aE s.p s.seen (t:Int)).2.2=[]from congrArg BO (xo _ _ _ c)];exact bH _
 obtain⟨p1,p2,p3⟩:=hp;have h2:=hk.lr I;have oD:m.mode=2:=hk.md;have hc:=λw' (hm:Mem B [qL g vo (fc m.o vn vt) (fQ m.g.aT m.g.bC vp m.mode vr va vg) s ut (jk aE s up uq) uw,qK aE up s.p,jY uw s.wait] w')=>adP _ (aQ #[va,vg]) up m.g T N m.A m.G s.p s.seen t w' (hR _ w' hm).BQ (hR _ w' hm).pM (Sl.dD (hm.get (i:=1) I)) h2 p2 p1 p3 ht ha;have hwt:=λ(s':e9) pc' vl l h1 h2 h3 h4 w' B hm=>pe (g:=g) (vo:=vo) (vt:=ut) (vw:=uw) (pc:=pc') dX (show(fQ m.g.aT m.g.bC vp m.mode vr va vg).length=7 from I) h4 s' vl l h1 h2 h3 w' B hm;unfold qJ;rw[show fG m aE s.p s.seen (t:Int)=((gO m.g.aF (jj m.A) (fm m.G) t s.seen 2001 s.p.2 []).1,(s.p.1,(gO m.g.aF (jj m.A) (fm m.G) t s.seen 2001 s.p.2 []).2.1),(gO m.g.aF (jj m.A) (fm m.G) t s.seen 2001 s.p.2 []).2.2)from I]at Sf xJ⊢;generalize gO m.g.aF (jj m.A) (fm m.G) t s.seen 2001 s.p.2 []=R at*;obtain⟨e,st,o⟩:=R;generalize fc m.o vn vt=PK at*;generalize m.g.aT=gt at*;generalize m.g.bC=gn at*;generalize m.mode=md at*;clear hR hk;dsimp only at Sf xJ⊢;obtain⟨jU,mF,dV,jV,ended,kO,dy,iU,lF,bad,eb,p,seen,rM,sy,wait,cr,gone,over,e8,pl⟩:=s;dsimp only at*;subst G3 PJ;refine dB hm (args:=[aJ (aj ⟨g,0,ak⟩),av az (t:Int)]) (n:=62) Tryz.func105 I I I ?_
 repeat(first|refine GA ?_|refine gV (aB (v:=av az md) aK.ty I (aH (i:=0) I (fu dX I I))) ?_)
 refine dT ([xV g (jE vo PK (fQ gt gn vp md vr va vg)) 168]) (.calm 0 (.calm 1 (.calm 2 (.calm 3 (.calm 4 (.calm 5 (.calm 6 (.calm 7 (.calm 8 (.calm 9 (.calm 10 (.calm 11 (.calm 12 (.calm 13 (.calm 15 (.one 14 (.one 16 (.calm 17 (.calm 18 (.calm 19 (.calm 20 (.calm 21 (.calm 22 (.one 23 (.calm 24 (.calm 25 (.done))))))))))))))))))))))))))) (eu (i:=0) I (ii _ _ _ _)) ?_
 repeat(first|refine GW ?_|(refine GN ?_;first|refine QW (bm (cs:=[av az gt,av az gn,vp]) aK.ty I I (λj v h=>np (i:=0) I (l7 0 dX I h J))) ?_|refine QW (bm (cs:=[va,vg]) aK.ty I I (λj v h=>np (i:=0) I (l7 5 dX I h J))) ?_))
 refine aL I (dx (bm (cs:=[up,av az seen,av az 0,.bool aE]) aK.ty I I (λj v h=>aH (i:=0) I (l7 22 dX I h J))) I I I (aM (eu (i:=0) I (ii _ _ _ _)) ?_))
 try refine GW ?_
 refine aL I (aV (UA aI.en I I I I I) (λw hm=>hc w hm) I I I ?_);rintro⟨v1,v2⟩ _
 conv=>arg 8;simp only[zJ,cI,ret,id_eq,tkA]
 conv=>arg 7;simp only[tkA,t_]
 refine aM (eu (i:=0) I (ii _ _ _ _)) ?_
 try refine GW ?_
 refine aL I (aW (i:=3) I λ_ lD=>iW (i:=0) 22 (cs:=[v1,av az ((if e=0 then seen+1 else seen:Nat):Int),av az e,.bool aE]) (tl':=fQ gt gn vp md vr va vg++rK ⟨jU,mF,dV,jV,ended,kO,dy,iU,lF,bad,eb,(p.1,st),if e=0 then seen+1 else seen,e,aE,wait,cr,gone,over,e8,pl⟩ ut (jk aE ⟨jU,mF,dV,jV,ended,kO,dy,iU,lF,bad,eb,(p.1,st),if e=0 then seen+1 else seen,e,aE,wait,cr,gone,over,e8,pl⟩ v1 uq) uw) I I I (Dv lD) I I dX I I ?_);refine zL ?_;refine aM (eu (i:=0) I (ii _ _ _ _)) ?_
 try refine GW ?_
 try refine GA ?_
 refine bx [0,2,4] [3] akh I I (fB aI.en I I I) (λw hm hb=>hwt ⟨jU,mF,dV,jV,ended,kO,dy,iU,lF,bad,eb,(p.1,st),if e=0 then seen+1 else seen,e,aE,wait,cr,gone,over,e8,pl⟩ (jk aE ⟨jU,mF,dV,jV,ended,kO,dy,iU,lF,bad,eb,(p.1,st),if e=0 then seen+1 else seen,e,aE,wait,cr,gone,over,e8,pl⟩ v1 uq) v2 o hg (tJ.2 λy hy=>by rw[Sf y hy];decide) (by show wait.length+o.length<=4200;omega) I w _ hb) I I I ?_;intro K9 _;refine zL ?_
 try refine GA ?_
 exact cO I I λw hm=>hm.cC (S:=⟨λ_=>True,λ_=>av az e,λ(x:Value×Value)=>[qK aE x.1 (p.1,st),qL g vo PK (fQ gt gn vp md vr va vg) ⟨jU,mF,dV,jV,ended,kO,dy,iU,lF,bad,eb,(p.1,st),if e=0 then seen+1 else seen,e,aE,wait++o,cr,gone,over,e8,pl⟩ ut (jk aE ⟨jU,mF,dV,jV,ended,kO,dy,iU,lF,bad,eb,(p.1,st),if e=0 then seen+1 else seen,e,aE,wait++o,cr,gone,over,e8,pl⟩ x.1 uq) x.2,jY x.2 (wait++o)]⟩) (v1,K9) trivial [0,1,2] akh I
set_option maxRecDepth 100000 in
theorem Lc(x:Value)(m:Md){vo vn vt vp vr va vg ut up uq uw:Value}(T N:Nat)(hk:iA m aE T N)(g:Nat)(s:e9)(hp:Ub m aE s.p)(G3:s.rM=0)(PJ:s.sy=aE)(ha:s.seen<=1000000)(hg:gK.cz s.wait s.cr s.gone=0)(hw:s.wait.length<=2199)(w:World)(B:bL)(hR:oB B λw=>CY w x m vo vn vt vp vr va vg)
 (hm:Mem B [qL g vo (fc m.o vn vt) (fQ m.g.aT m.g.bC vp m.mode vr va vg) s ut (jk aE s up uq) uw,qK aE up s.p,jY uw s.wait] w):
 Calls aD 108 #[aJ (aj ⟨g,0,ak⟩)] w (da ⟨λ(_:Value×Value)=>True,λ_=>av az (qo m aE s).2,λx=>[qK aE x.1 (qo m aE s).1.p,qL g vo (fc m.o vn vt) (fQ m.g.aT m.g.bC vp m.mode vr va vg) (qo m aE s).1 ut (jk aE (qo m aE s).1 x.1 uq) x.2,jY x.2 (qo m aE s).1.wait]⟩ B):=by
 have dX:(fc m.o vn vt).length=258:=fj _ _ _;have Sf:=RX hk hp (a:=s.seen) ha;have xJ:(rH m aE s.p s.seen).2.length<=2001:=by
  have:=Gi hk hp (a:=s.seen)
  by_cases c:(rH m aE s.p s.seen).1=0
  exact this.1 c;rw[this.2 c];exact bH _
 obtain⟨p1,p2,p3⟩:=hp;have h2:=hk.lr I;have oD:m.mode=2:=hk.md;have hc:=λw' (hm:Mem B [qL g vo (fc m.o vn vt) (fQ m.g.aT m.g.bC vp m.mode vr va vg) s ut (jk aE s up uq) uw,qK aE up s.p,jY uw s.wait] w')=>ago _ (aQ #[va,vg]) up m.g T N m.A m.G s.p.2 s.seen  w' (hR _ w' hm).BQ (hR _ w' hm).pM (Sl.dD (hm.get (i:=1) I)) h2 p2 p1 p3 ha;have hwt:=λ(s':e9) pc' vl l h1 h2 h3 h4 w' B hm=>pe (g:=g) (vo:=vo) (vt:=ut) (vw:=uw) (pc:=pc') dX (show(fQ m.g.aT m.g.bC vp m.mode vr va vg).length=7 from I) h4 s' vl l h1 h2 h3 w' B hm;unfold qo;have hT:=hk.tT;rw[show rH m aE s.p s.seen=((gO m.g.aF (jj m.A) (fm m.G) m.g.aT.toNat s.seen 2001 s.p.2 []).1,(gO m.g.aF (jj m.A) (fm m.G) m.g.aT.toNat s.seen 2001 s.p.2 []).2.2)from I,show m.g.aT.toNat=T by omega]at Sf xJ⊢;clear hT;generalize gO m.g.aF (jj m.A) (fm m.G) T s.seen 2001 s.p.2 []=R at*;obtain⟨e,st,o⟩:=R;generalize fc m.o vn vt=PK at*;generalize m.g.aT=gt at*;generalize m.g.bC=gn at*;generalize m.mode=md at*;clear hR hk;dsimp only at Sf xJ⊢;obtain⟨jU,mF,dV,jV,ended,kO,dy,iU,lF,bad,eb,p,seen,rM,sy,wait,cr,gone,over,e8,pl⟩:=s;dsimp only at*;subst G3 PJ;refine dB hm (args:=[aJ (aj ⟨g,0,ak⟩)]) (n:=58) Tryz.func108 I I I ?_
 repeat(first|refine GA ?_|refine gV (aB (v:=av az md) aK.ty I (aH (i:=0) I (fu dX I I))) ?_)
 refine dT ([xV g (jE vo PK (fQ gt gn vp md vr va vg)) 168]) (.calm 0 (.calm 1 (.calm 2 (.calm 3 (.calm 4 (.calm 5 (.calm 6 (.calm 7 (.calm 8 (.calm 9 (.calm 10 (.calm 11 (.calm 12 (.calm 13 (.one 14 (.one 15 (.calm 16 (.calm 17 (.calm 18 (.calm 19 (.calm 20 (.calm 21 (.one 22 (.calm 23 (.calm 24 (.done)))))))))))))))))))))))))) (eu (i:=0) I (ii _ _ _ _)) ?_
 repeat(first|refine GW ?_|(refine GN ?_;first|refine QW (bm (cs:=[av az gt,av az gn,vp]) aK.ty I I (λj v h=>np (i:=0) I (l7 0 dX I h J))) ?_|refine QW (bm (cs:=[va,vg]) aK.ty I I (λj v h=>np (i:=0) I (l7 5 dX I h J))) ?_))
 refine aL I (dx (bm (cs:=[up,av az seen,av az 0,.bool aE]) aK.ty I I (λj v h=>aH (i:=0) I (l7 22 dX I h J))) I I I (aM (eu (i:=0) I (ii _ _ _ _)) ?_))
 try refine GW ?_
 refine aL I (aV (sV aI.en I I I I) (λw hm=>hc w hm) I I I ?_);intro v2 _
 conv=>arg 8;simp only[zJ,cI,ret,id_eq,enA]
 conv=>arg 7;simp only[enA,t_]
 refine aM (eu (i:=0) I (ii _ _ _ _)) ?_
 try refine GW ?_
 refine aL I (iW (i:=0) 22 (cs:=[ap ak 0 0,av az seen,av az e,.bool (decide (e=0))]) (tl':=fQ gt gn vp md vr va vg++rK ⟨jU,mF,dV,jV,ended,kO,dy,iU,lF,bad,eb,zh aE p,seen,e,decide (e=0),wait,cr,gone,over,e8,pl⟩ ut (jk aE ⟨jU,mF,dV,jV,ended,kO,dy,iU,lF,bad,eb,zh aE p,seen,e,decide (e=0),wait,cr,gone,over,e8,pl⟩ (ap ak 0 0) uq) uw) I I I (Dv I) I I dX I I ?_);refine zL ?_;refine aM (eu (i:=0) I (ii _ _ _ _)) ?_
 try refine GW ?_
 try refine GA ?_
 refine bx [0,2,3] [1] akh I I (fB aI.en I I I) (λw hm hb=>hwt ⟨jU,mF,dV,jV,ended,kO,dy,iU,lF,bad,eb,zh aE p,seen,e,decide (e=0),wait,cr,gone,over,e8,pl⟩ (jk aE ⟨jU,mF,dV,jV,ended,kO,dy,iU,lF,bad,eb,zh aE p,seen,e,decide (e=0),wait,cr,gone,over,e8,pl⟩ (ap ak 0 0) uq) v2 o hg (tJ.2 λy hy=>by rw[Sf y hy];decide) (by show wait.length+o.length<=4200;omega) I w _ hb) I I I ?_;intro K9 _;refine zL ?_
 try refine GA ?_
 refine dN 3 1 ?_;exact cO I I λw hm=>hm.cC (S:=⟨λ_=>True,λ_=>av az e,λ(x:Value×Value)=>[qK aE x.1 (zh aE p),qL g vo PK (fQ gt gn vp md vr va vg) ⟨jU,mF,dV,jV,ended,kO,dy,iU,lF,bad,eb,zh aE p,seen,e,decide (e=0),wait++o,cr,gone,over,e8,pl⟩ ut (jk aE ⟨jU,mF,dV,jV,ended,kO,dy,iU,lF,bad,eb,zh aE p,seen,e,decide (e=0),wait++o,cr,gone,over,e8,pl⟩ x.1 uq) x.2,jY x.2 (wait++o)]⟩) (ap ak 0 0,K9) trivial [3,1,2] akh I
end bZ
namespace bZ
open Go.RowKit cK dS cD jG
def Gt(R:List Tok×Nat×Int):Spec Value:=⟨λ_=>True,λv=> .tuple #[aQ (im (R.2.1:Int) [] (if R.2.2=0 then 15 else 9)).toArray,v,av az R.2.2],λv=>[Gg v R.1]⟩
theorem Ho(o:Of)(vn vt:Value)(N:List (List Int))(tags:List Int)(a0:Nat)(u0:List UInt8)(w:World)(h:WR w vn vt N tags)(hc:AB o N tags=0)(ho:∀b (h:b<256),o[b]<256)(ha0:a0<=1099511627776)(hu0:u0.length<=64):
 Calls aD 107 #[OU o vn vt,aQ (im (a0:Int) u0 0).toArray] w (bY (Gt (iF o N tags (u0.length+1) a0 u0)) w):=by
 have jw:=λw' (hg:Gr w w')=>ud o vn vt N tags (a0:Int) u0 0 w' (h.gr hg) ho J;rw[Ug hc ha0 hu0]at jw;have Cc:=λ(u:List UInt8) (hu:u.length<=65) w' (hg:Gr w w')=>Gm o vn vt N tags u w' (h.gr hg) (sv hc) J;have hcut:=λa u r t w' (ha:a<=9223372036854775) ht hu=>IW a u 0 r t w' ha ht hu;have hbE:=Cz;obtain⟨⟨an,cn,rfl,-⟩,at',ct,rfl,-⟩:=h;refine enter (args:=[OU o (ap an N.length cn) (ap at' tags.length ct),aQ (im (a0:Int) u0 0).toArray]) (n:=52) Tryz.func107 I I I ?_;refine bW (bB (bP I I I λg2=>bP I I I λg3=>a8 I λg4=>?_));refine zL ?_
 repeat(first|refine GA ?_|refine gV (aO (i:=0) aK.ty I I (kV _ _ _)) ?_|refine gV (aO (i:=1) aK.ty I I I) ?_)
 refine aV (fB aI.en I I I) (λw hm=>jw _ hm.below) I I I ?_;intro _ _;refine zL ?_;clear jw
 repeat(first|refine GC ?_|refine gV (dl (b:=aE) I I (decide_eq_false akh)) ?_|refine GB ?_)
 refine jd 53 3 ?_
 conv=>arg 7;simp only[zA,zB,zC,zD,zE,zF,zG,zH,zI,cI,ret,id_eq]
 generalize jX:iF o N tags (u0.length+1) a0 u0=fin;refine d_ (ι:=Nat×Nat×List UInt8×List Tok×Value) (λ(f,a,u,out,_)=>u.length<f/\u.length<=64/\a+u.length<=1099511627840/\out.length<=a/\(out++(iF o N tags f a u).1,(iF o N tags f a u).2)=fin) (λ(_,_,_,_,v)=>[(2,aJ (aj ⟨g2,0,ak⟩)),(3,aJ (aj ⟨g3,0,ak⟩)),(4,aJ (aj ⟨g4,0,ak⟩)),(8,v)])
  (λ(_,a,u,out,v)=>[aP g2 (fc o (ap an N.length cn) (ap at' tags.length ct)).toArray 30,aP g3 (im (a:Int) u 0).toArray 164,aP g4 (im 0 [] 0).toArray 164,Gg v out]) (λ(f,_,_,_,_)=>f) (u0.length+1,a0,u0,[],ap ak 0 0) ⟨Nat.lt_succ_self _,hu0,by show a0+u0.length<=_;omega,bH _,by rw[jX];rfl⟩ ?_
 clear jX;rintro⟨f,a,u,out,v⟩ ⟨j1,j2,j3,j4,j5⟩;dsimp only at j1 j2 j3 j4 j5⊢;obtain⟨f,rfl⟩:∃f',f=f'+1:=⟨f-1,by omega⟩;rw[AE]at j5
 by_cases c1:u=[]
 ·rw[if_pos c1]at j5
  have j5:(out++[],a,(0:Int))=fin:=j5;rw[du]at j5;subst j5
  repeat(first|refine GC ?_|refine gV (aB (v:=str u) aK.ty I (aH (i:=1) I I)) ?_|refine gV (lh (b:=aE) I I (decide_eq_false (λh=>h c1))) ?_|refine gV (aB (v:=av az (a:Int)) aK.ty I (aH (i:=1) I I)) ?_|refine gV (bD I (hbE _ _)) ?_|refine GB ?_)
  refine ij 2 (cs':=(im (a:Int) [] 15).toArray) ?_;refine zL ?_
  try refine GA ?_
  exact fC (i:=2) I I I I I I λw hm=>hm.meets (S:=Gt (out,a,0)) v trivial [3] akh I
 ·rw[if_neg c1]at j5
  have hto:=sx o N tags u;have Lu:=Cc u J;generalize dG o N tags u=lk at*;obtain⟨⟨r,t⟩,sr⟩:=lk;dsimp only at hto Lu j5
  repeat(first|refine GC ?_|refine gV (aB (v:=str u) aK.ty I (aH (i:=1) I I)) ?_|refine gV (lh (b:=aC) I I (decide_eq_true c1)) ?_|refine gV (aO (i:=0) aK.ty I I (kV _ _ _)) ?_|refine GB ?_)
  refine aV (fB aI.en I I I) (λw hm=>Lu _ hm.below) I I I ?_;intro _ _;refine zL ?_
  by_cases c2:t=0
  ·rw[if_pos c2]at j5
   have j5:(out++[],a,(9:Int))=fin:=j5;rw[du]at j5;subst j5 c2;clear Lu
   repeat(first|refine GC ?_|refine gV (cZ (b:=aC) I I (decide_eq_true I)) ?_|refine gV (aB (v:=av az (a:Int)) aK.ty I (aH (i:=1) I I)) ?_|refine gV (bD I (hbE _ _)) ?_|refine GB ?_)
   refine ij 2 (cs':=(im (a:Int) [] 9).toArray) ?_;refine zL ?_
   try refine GA ?_
   exact fC (i:=2) I I I I I I λw hm=>hm.meets (S:=Gt (out,a,9)) v trivial [3] akh I
  rw[if_neg c2]at j5;have ht:=hto.resolve_left c2;have hct:=hcut a u r t;have Ur:(u.drop t).length=u.length-t:=List.length_drop ..;clear Lu Cc hcut
  repeat(first|refine GC ?_|refine gV (cZ (b:=aE) I I (decide_eq_false J)) ?_|refine GB ?_)
  refine a8 I λg15=>?_;refine zL ?_
  repeat(first|refine GA ?_|refine gV (aO (i:=1) aK.ty I I I) ?_)
  refine aV (sV aI.en I I I I) (λw hm=>hct w J ht.2 J) I I I ?_;intro _ _;refine zL ?_
  try refine GA ?_
  refine ij 1 (cs':=(im ((a+t:Nat):Int) (u.drop t) 0).toArray) ?_;refine zL ?_
  try refine GA ?_
  refine ij 4 (cs':=(tM (r,a,a+t)).toArray) ?_;refine zL ?_
  repeat(first|refine GA ?_|refine gV (aO (i:=4) aK.ty I I I) ?_)
  refine jO (i:=3) I I I I I I I (λz h=>by cases h;rfl) J J I λz v2=>?_;refine zL ?_
  try refine GA ?_
  refine dm [0,1,2,3] ?_;exact bT (f,a+t,u.drop t,out++[(r,a,a+t)],v2) ⟨by show(u.drop t).length<f;omega,by show(u.drop t).length<=64;omega,by show a+t+(u.drop t).length<=1099511627840;omega,by show(out++[(r,a,a+t)]).length<=a+t;rw[bI];simp;omega,by rw[dZ];exact j5⟩ (by show f<f+1;omega) (hl:=by dsimp only;rw[IP];rfl)
end bZ
namespace bZ
open Go.RowKit cK dS aU dL eO hY gZ bJ jG ft cD
open gK (Ev qG takeN)
abbrev toP(v:Value)(l:List Tok):b9:=rB 53 3 v l.length (l.flatMap tM)
abbrev ft(b:Bool)(g:Nat)(vo:Value)(pk md:List Value)(s:e9)(ut up uq uw:Value):List b9:=[qL g vo pk md s ut (jk b s up uq) uw,toP ut s.eb,qK b up s.p,jY uw s.wait]
theorem Ot(vo:Value)(pk md:List Value)(s:e9)(vt:Value)(pc:List Value)(vw:Value):∃q,(jE vo pk (md++rK s vt pc vw)).toArray=(jE vo pk (md++[av az s.jU,av az s.mF,av az s.dV,str s.jV,.bool s.ended,.bool s.kO,av az s.dy,str s.iU,av az s.lF,av az s.bad])++q).toArray:=
 ⟨vt::(pc++[vw,av az s.cr,av az s.gone,.bool s.over,av az s.e8,av az s.pl]),by simp[jE,rK]⟩
def uj(b:Bool)(g:Nat)(vo:Value)(pk md:List Value)(s:e9)(uq:Value):Spec (Value×Value×Value):=⟨λ_=>True,λ_=> .tuple #[],λx=>ft b g vo pk md s x.1 x.2.1 uq x.2.2⟩
theorem Sg{w:World}{e:TypeId}{size:Nat}{v:Value}{n:Nat}{xs:List Value}(h:qi w e size v n xs)(hn:0<n):∃g off cap,v=ap (aj ⟨g,off,ak⟩) n cap/\n<=cap:=by
 rcases h.2 with⟨rfl,rfl⟩|⟨g,off,cap,jZ,rfl,hg,h1,h2,h3,h4⟩
 exact absurd hn (y6 _);exact⟨g,off,cap,rfl,h1⟩
theorem agq{t:Tok}{l:List Tok}{j:Nat}{v:Value}(h:(tM t)[j]?=aj v):((t::l).flatMap tM)[j]?=aj v:=by
 rw[List.flatMap_cons,iq (dg.1 h).1];exact h
theorem AJ{m:Md}{b:Bool}{s:e9}(h:gT m b s):gK.cz s.wait s.cr s.gone=0:=by
 obtain⟨h1,h2,h3,h4,h5,h6,h7,h8,h9,LA,K3,RY,Uf,N9,N_⟩:=h;have:(s.seen:Int)<=4096:=by omega
 have:(s.gone:Int)<=1099511627776:=by
  have h16:((s.seen:Int)+if s.over=aC then 1 else 0)<=4097:=by split<;>omega
  generalize ((s.seen:Int)+if s.over=aC then 1 else 0)=k at*;omega
 unfold gK.cz;rw[if_neg J,if_neg J,if_neg J,if_neg J,if_neg J,if_neg (by rw[K3];decide)]
theorem Ou(l:List Tok):∀u∈l.flatMap tM,u.oneCell'=true:=by
 intro u hu;obtain⟨t,_,h⟩:=vj.1 hu;simp only[tM,dC,fH,or_false]at h;rcases h with rfl|rfl|rfl<;>rfl
theorem tR{P:Program}{n:Nat}{W:bL}{fr:Fr}{L:List b9}{Q:Exit->Act->World->Prop}{ops:Array Oper}{rest:List Oper}{ty:TypeId}{pos:String}{after:Array Edge}{t:TypeId}{p x:Operand}{i g k:Nat}{vo:Value}{pk tl tl':List Value}{T:TypeId}{agg:Bool}{v:Value}(j:Nat)[hT:aK P t agg 1](hi:L[i]?=aj (aP g (jE vo pk tl).toArray T))(hp:ev fr p=aj (aJ (aj ⟨g,k,ak⟩)))(hx:ev fr x=aj v)(hv:v.cells=#[v])(h1:v.oneCell'=aC)(hk:k=j+259)(dX:pk.length=258)(hj:Nat.blt j tl.length=aC)(he:tl.set j v=tl')
 (h:TL P n W ops Q rest fr (L.set i (aP g (jE vo pk tl').toArray T))):TL P n W ops Q (⟨ak,.store t p x,ty,pos,after,ak⟩::rest) fr L:=by
 subst he;exact eo j hi hp hx hv h1 hk dX hj h
section
variable{g:Nat}{vo:Value}{pk md:List Value}{vt vw:Value}{pc:List Value}(dX:pk.length=258)(oD:md.length=7)(xE:pc.length=8)
include dX oD xE
set_option maxRecDepth 100000 in
theorem Ld(s:e9)(e:Int)(pl:Nat)(w:World)(B:bL)(hm:Mem B [qL g vo pk md s vt pc vw] w):
 Calls aD 104 #[aJ (aj ⟨g,0,ak⟩),av az e,av az (pl:Int)] w (da ⟨λ(_:Unit)=>True,λ_=> .tuple #[],λ_=>[qL g vo pk md (q6 s e pl) vt pc vw]⟩ B):=by
 have hst:=λw' B hm=>pa (g:=g) (vo:=vo) (vt:=vt) (vw:=vw) dX oD xE s e pl w' B hm;unfold q6
 by_cases c:e≠0
 ·rw[if_pos c]
  refine dB hm (args:=[aJ (aj ⟨g,0,ak⟩),av az e,av az (pl:Int)]) (n:=12) Tryz.func104 I I I ?_
  try refine GA ?_
  refine bx [0] [] akh I I (sV aI.en I I I I) (λw hm hb=>hst w _ hb) I I I ?_;intro _ _;refine zL ?_
  try refine GA ?_
  exact jP I λw hm=>hm.cC (S:=⟨λ(_:Unit)=>True,λ_=> .tuple #[],λ_=>[qL g vo pk md (j0 s e pl) vt pc vw]⟩) () trivial [0] akh I
 ·rw[if_neg c]
  refine dB hm (args:=[aJ (aj ⟨g,0,ak⟩),av az e,av az (pl:Int)]) (n:=12) Tryz.func104 I I I ?_
  try refine GA ?_
  exact jP I λw hm=>hm.cC (S:=⟨λ(_:Unit)=>True,λ_=> .tuple #[],λ_=>[qL g vo pk md s vt pc vw]⟩) () trivial [0] akh I
end
def psX(b:Bool)(g:Nat)(vo:Value)(pk md:List Value)(R:e9×Int)(ut uq:Value):Spec (Value×Value):=⟨λ_=>True,λ_=>av az R.2,λx=>[qK b x.1 R.1.p,qL g vo pk md R.1 ut (jk b R.1 x.1 uq) x.2,jY x.2 R.1.wait]⟩
theorem Le(x:Value)(m:Md){vo vn vt vp vr va vg ut up uq uw:Value}(b:Bool)(T N:Nat)(hk:iA m b T N)(g:Nat)(s:e9)(hp:Ub m b s.p)(G3:s.rM=0)(PJ:s.sy=aE)(t:Nat)(ha:s.seen<=1000000)(ht:t<T)(hg:gK.cz s.wait s.cr s.gone=0)(hw:s.wait.length<=2199)(w:World)(B:bL)(hR:oB B λw=>CY w x m vo vn vt vp vr va vg)
 (hm:Mem B [qL g vo (fc m.o vn vt) (fQ m.g.aT m.g.bC vp m.mode vr va vg) s ut (jk b s up uq) uw,qK b up s.p,jY uw s.wait] w):
 Calls aD 105 #[aJ (aj ⟨g,0,ak⟩),av az (t:Int)] w (da (psX b g vo (fc m.o vn vt) (fQ m.g.aT m.g.bC vp m.mode vr va vg) (qJ m b s (t:Int)) ut uq) B):=by
 cases b
 ·exact Hn x m T N hk g s hp G3 PJ t ha ht hg hw w B hR hm
 ·exact Hm x m T N hk g s hp G3 PJ t ha ht hg hw w B hR hm
theorem Ov(x:Value)(m:Md){vo vn vt vp vr va vg ut up uq uw:Value}(b:Bool)(T N:Nat)(hk:iA m b T N)(g:Nat)(s:e9)(hp:Ub m b s.p)(G3:s.rM=0)(PJ:s.sy=aE)(ha:s.seen<=1000000)(hg:gK.cz s.wait s.cr s.gone=0)(hw:s.wait.length<=2199)(w:World)(B:bL)(hR:oB B λw=>CY w x m vo vn vt vp vr va vg)
 (hm:Mem B [qL g vo (fc m.o vn vt) (fQ m.g.aT m.g.bC vp m.mode vr va vg) s ut (jk b s up uq) uw,qK b up s.p,jY uw s.wait] w):
 Calls aD 108 #[aJ (aj ⟨g,0,ak⟩)] w (da (psX b g vo (fc m.o vn vt) (fQ m.g.aT m.g.bC vp m.mode vr va vg) (qo m b s) ut uq) B):=by
 cases b
 ·exact Lc x m T N hk g s hp G3 PJ ha hg hw w B hR hm
 ·exact Lb x m T N hk g s hp G3 PJ ha hg hw w B hR hm
set_option maxRecDepth 100000 in
theorem Ow(x:Value)(m:Md){vo vn vt vp vr va vg ut up uq uw:Value}(b:Bool)(T N:Nat)(hk:iA m b T N)(g:Nat)(s:e9)(hs:gT m b s)(lF:s.over=aE)(t:Tok)(l:List Tok)(pq:s.eb=t::l)(hw:s.wait.length<200)(w:World)(B:bL)(hR:oB B λw=>CY w x m vo vn vt vp vr va vg)
 (hm:Mem B (ft b g vo (fc m.o vn vt) (fQ m.g.aT m.g.bC vp m.mode vr va vg) s ut up uq uw) w):
 Calls aD 69 #[aJ (aj ⟨g,0,ak⟩)] w (da (uj b g vo (fc m.o vn vt) (fQ m.g.aT m.g.bC vp m.mode vr va vg) (hZ m b s) uq) B):=by
 have dX:(fc m.o vn vt).length=258:=fj _ _ _;obtain⟨l1,l2,l3⟩:=hs.live lF;have LQ:=AJ hs;have WI:s.seen<=4096:=by have:=hs.seen;have:=hs.jV;have:=hs.we;have:=hs.jU;omega
 have htr:=hs.tok t (by rw[pq];exact List.mem_cons_self ..);have Vc:=(hR _ w hm).of;have RT:=hk.ofs;have htT:=hk.tT;have hpu:=λo_ n hn w' B hR hm=>Le x m (ut:=o_) (up:=up) (uq:=uq) (uw:=uw) (vo:=vo) (vn:=vn) (vt:=vt) (vp:=vp) (vr:=vr) (va:=va) (vg:=vg) b T N hk g {s with eb:=l} l3 l1 l2 n (by show s.seen<=_;omega) hn LQ (by show s.wait.length<=_;omega) w' B hR hm;have htd:=λ(s':e9) o_ K9 pc' (e:Int) pl h8 w' B hm=>Ld (g:=g) (vo:=vo) (vt:=o_) (vw:=K9) (pc:=pc') dX (show(fQ m.g.aT m.g.bC vp m.mode vr va vg).length=7 from I) h8 s' e pl w' B hm;have BZ:hZ m b s=if mK m t<0 then {s with eb:=l}else q6 (qJ m b {s with eb:=l} (mK m t)).1 (qJ m b {s with eb:=l} (mK m t)).2 t.2.1:=by
  unfold hZ;rw[pq]
 rw[BZ];have lR:=hm.get (i:=1) I;unfold ft at hm;rw[pq]at hm lR;obtain⟨bt,off,cap,rfl,lW⟩:=Sg lR (E9 _);obtain⟨r0,fr,tt⟩:=t;dsimp only at htr;obtain⟨r,rfl⟩:∃r:Nat,r0=r:=⟨r0.toNat,by omega⟩;obtain⟨ao,co,rfl,mY,C_,ho3⟩:=Vc;obtain⟨b1,o1,rfl,hro⟩:=ho3 J;have hr:r<m.of.length:=by omega
 have ais:∀L:List b9,At B L ⟨b1,o1+r*1+0,ak⟩ (av az m.of[r]):=λL w' rX=>by
  obtain⟨ao',co',e,_,_,eP⟩:=(hR L w' rX).of
  cases e
  obtain⟨b2,o2,e,hro⟩:=eP J
  cases e
  have:=hro (r*1+0) (av az m.of[r]) (by rw[uS RV m.of r 0 hr akh];rfl)
  rwa [<-k9]at this
 have hxx:=RT _ (b_ hr);have hox:mK m ((r:Int),fr,tt)=m.of[r]:=by unfold mK;rw[List.getD_eq_getElem?_getD,show((r:Int),fr,tt).1.toNat=r from I,bK hr,Option.getD_some]
 rw[hox];generalize m.of[r]=x at*;clear BZ hox hro ho3 RT hs lR;unfold maxLen at C_;simp only[db]at hm lW;have fJ:∀(L:List b9) (i:Nat),L[i]?=aj (toP (ap (aj ⟨bt,off,ak⟩) (l.length+1) cap) (((r:Int),fr,tt)::l))->∀j u,(tM ((r:Int),fr,tt))[j]?=aj u->At B L ⟨bt,off+0*3+j,ak⟩ u:=λL i hi j u hu=>by
  rw[yf,iu];exact VW hi (agq hu)
 cases b
 all_goals
  refine dB hm (args:=[aJ (aj ⟨g,0,ak⟩)]) (n:=160) Tryz.func69 I I I ?_
  repeat(first|refine GA ?_|refine gV (aB aK.ty I (aH (i:=0) I (fu dX I I))) ?_|refine gV (aY (j:=0) bM.eq aK.ty I I (E9 _)) ?_|refine gV (bm aK.ty I I (fJ _ 1 I)) ?_)
  refine a8 I λg2=>?_;refine zL ?_;refine ij 4 (cs':=(tM ((r:Int),fr,tt)).toArray) ?_;refine zL ?_
  repeat(first|refine GC ?_|refine gV (aB aK.ty I (aH (i:=0) I (fu dX I I))) ?_|refine gV (rT (i:=1) bM.eq aK.ty I I (Se (bH _)) lW) ?_|refine GB ?_)
  refine eo (i:=0) 17 I I I I I I dX I ?_;refine aah 1 I ?_;refine zL ?_
  by_cases c1:x<0
  ·rw[if_pos c1]
   try refine GA ?_
   refine dT ([qL g (ap (aj ⟨b1,o1,ak⟩) m.of.length co) (fc m.o vn vt) (fQ m.g.aT m.g.bC vp m.mode vr va vg) {s with eb:=l} (ue (aj ⟨bt,off,ak⟩) cap 3 1 (l.length+1)) (jk _ s up uq) uw,aP g2 (tM ((r:Int),fr,tt)).toArray 53]) (.calm 0 (.calm 1 (.calm 2 (.calm 3 (.calm 4 (.calm 5 (.calm 6 (.calm 7 (.calm 8 (.calm 9 (.done))))))))))) (bX [0,4]) ?_
   repeat(first|refine GW ?_|(refine GN ?_;first|refine QW (aB (v:=ap (aj ⟨b1,o1,ak⟩) m.of.length co) aK.ty I (aH (i:=0) I I)) ?_|refine QW (aB (v:=av az (r:Int)) aK.ty I (aH (i:=1) I I)) ?_|refine QW (aY bM.eq aK.ty I I hr) ?_|refine QW (aB (v:=av az x) aK.ty I (ais _)) ?_))
   try refine GA ?_
   exact jP I λw hm=>hm.cC (S:=uj _ g (ap (aj ⟨b1,o1,ak⟩) m.of.length co) (fc m.o vn vt) (fQ m.g.aT m.g.bC vp m.mode vr va vg) {s with eb:=l} uq) (ue (aj ⟨bt,off,ak⟩) cap 3 1 (l.length+1),up,uw) trivial [0,1,2,3] akh rfl
  ·rw[if_neg c1]
   obtain⟨tn,rfl⟩:∃tn:Nat,x=tn:=⟨x.toNat,by omega⟩;have hpu:=λo_ w' B hR hm=>hpu o_ tn J w' B hR hm;generalize agr:qJ m _ {s with eb:=l} (tn:Int)=R at*;have hRt:R.1.eb=l:=by rw[<-agr];rfl
   have hRp:(q6 R.1 R.2 fr).p=R.1.p/\(q6 R.1 R.2 fr).wait=R.1.wait/\(q6 R.1 R.2 fr).eb=l/\∀b vp' vq,jk b (q6 R.1 R.2 fr) vp' vq=jk b R.1 vp' vq:=by
    unfold q6;split<;>exact⟨rfl,rfl,hRt,λ_ _ _=>rfl⟩
   obtain⟨R1,R2⟩:=R;obtain⟨q1,q2,q3,q4⟩:=hRp;dsimp only at q1 q2 q3 q4 hRt⊢
   try refine GA ?_
   refine dT ([qL g (ap (aj ⟨b1,o1,ak⟩) m.of.length co) (fc m.o vn vt) (fQ m.g.aT m.g.bC vp m.mode vr va vg) {s with eb:=l} (ue (aj ⟨bt,off,ak⟩) cap 3 1 (l.length+1)) (jk _ s up uq) uw,aP g2 (tM ((r:Int),fr,tt)).toArray 53]) (.calm 0 (.calm 1 (.calm 2 (.calm 3 (.calm 4 (.calm 5 (.calm 6 (.calm 7 (.calm 8 (.calm 9 (.done))))))))))) (bX [0,4]) ?_
   repeat(first|refine GW ?_|(refine GN ?_;first|refine QW (aB (v:=ap (aj ⟨b1,o1,ak⟩) m.of.length co) aK.ty I (aH (i:=0) I I)) ?_|refine QW (aB (v:=av az (r:Int)) aK.ty I (aH (i:=1) I I)) ?_|refine QW (aY bM.eq aK.ty I I hr) ?_|refine QW (aB (v:=av az (tn:Int)) aK.ty I (ais _)) ?_))
   try refine GA ?_
   refine dT ([aP g2 (tM ((r:Int),fr,tt)).toArray 53]) (.calm 0 (.calm 1 (.calm 2 (.calm 4 (.calm 5 (.one 3 (.one 6 (.done)))))))) (bX [4]) ?_
   repeat(first|refine GW ?_|(refine GN ?_;first|refine QW (aB (v:=av az (fr:Int)) aK.ty I (aH (i:=0) I I)) ?_))
   refine aL I (bx [0,2,3] [1,4] akh I I (fB aI.en I I I) (λw hm hb=>hpu _ w _ (hR.on (hm.pick [0,2,3] akh I)) hb) I I I ?_);rintro⟨v1,v2⟩ _
   conv=>arg 8;simp only[zJ,cI,ret,id_eq,psX]
   conv=>arg 7;simp only[psX]
   refine aM (bX [1]) ?_;refine aL I (bx [3] [0,1,2,4] akh I I (sV aI.en I I I I) (λw hm hb=>htd R1 _ v2 _ R2 fr I w _ hb) I I I ?_);intro _ _;refine zL ?_;refine aM (bX [1]) ?_
   try refine GW ?_
   try refine GA ?_
   exact jP I λw hm=>hm.cC (S:=uj _ g (ap (aj ⟨b1,o1,ak⟩) m.of.length co) (fc m.o vn vt) (fQ m.g.aT m.g.bC vp m.mode vr va vg) (q6 R1 R2 fr) uq) (_,v1,v2) trivial [4,0,2,3] akh (by simp only[uj,ft,q1,q2,q3,q4];rfl)
set_option maxRecDepth 100000 in
theorem Ox(x:Value)(m:Md){vo vn vt vp vr va vg ut up uq uw:Value}(b:Bool)(T N:Nat)(hk:iA m b T N)(g:Nat)(s:e9)(hs:gT m b s)(lF:s.over=aE)(pq:s.eb=[])(hb:s.bad≠0)(w:World)(B:bL)(hR:oB B λw=>CY w x m vo vn vt vp vr va vg)
 (hm:Mem B (ft b g vo (fc m.o vn vt) (fQ m.g.aT m.g.bC vp m.mode vr va vg) s ut up uq uw) w):
 Calls aD 69 #[aJ (aj ⟨g,0,ak⟩)] w (da (uj b g vo (fc m.o vn vt) (fQ m.g.aT m.g.bC vp m.mode vr va vg) (hZ m b s) uq) B):=by
 have dX:(fc m.o vn vt).length=258:=fj _ _ _;obtain⟨l1,l2,l3⟩:=hs.live lF;have LJ:s.dV<=4096:=by have:=hs.we;have:=hs.jU;omega
 unfold ft at hm;have hst:=λw' B hm=>pa (g:=g) (vo:=vo) (vt:=ut) (vw:=uw) (pc:=jk b s up uq) dX (show(fQ m.g.aT m.g.bC vp m.mode vr va vg).length=7 from I) (by cases b<;>rfl) s s.bad s.dy w' B hm;have BZ:hZ m b s=j0 s s.bad s.dy:=by unfold hZ;rw[pq];dsimp only;rw[if_pos hb]
 rw[BZ];rw[pq]at hm;obtain⟨at',ct,rfl,-⟩:=mD (hm.get (i:=1) rfl);simp only[gY]at hm;have agr:(j0 s s.bad s.dy).eb=[]:=pq;clear BZ hs
 cases b
 all_goals
  refine dB hm (args:=[aJ (aj ⟨g,0,ak⟩)]) (n:=160) Tryz.func69 I I I ?_
  repeat(first|refine GA ?_|refine gV (aB aK.ty I (aH (i:=0) I (fu dX I I))) ?_)
  refine dT ([xV g (jE vo (fc m.o vn vt) (fQ m.g.aT m.g.bC vp m.mode vr va vg++[av az s.jU,av az s.mF,av az s.dV,str s.jV,.bool s.ended,.bool s.kO,av az s.dy,str s.iU,av az s.lF,av az s.bad])) 168]) (.calm 0 (.calm 1 (.calm 2 (.calm 3 (.calm 4 (.calm 5 (.calm 6 (.calm 7 (.calm 8 (.calm 9 (.one 10 (.done)))))))))))) (eu (i:=0) I (Ot _ _ _ s _ _ _)) ?_
  repeat(first|refine GW ?_|(refine GN ?_;first|refine QW (aB aK.ty I (np (i:=0) I (fu dX I I))) ?_))
  refine aL I (bx [0] [1,2,3] akh I I (sV aI.en I I I I) (λw hm hb=>hst w _ hb) I I I ?_);intro _ _;refine zL ?_;refine aM (eu (i:=3) I (Ot _ _ _ (j0 s s.bad s.dy) _ _ _)) ?_
  try refine GW ?_
  try refine GA ?_
  exact jP I λw hm=>hm.cC (S:=uj _ g vo (fc m.o vn vt) (fQ m.g.aT m.g.bC vp m.mode vr va vg) (j0 s s.bad s.dy) uq) (_,up,uw) trivial [3,0,1,2] akh (by simp only[uj,ft,agr];rfl)
set_option maxRecDepth 100000 in
theorem Lf(x:Value)(m:Md){vo vn vt vp vr va vg ut up uq uw:Value}(b:Bool)(T N:Nat)(hk:iA m b T N)(g:Nat)(s:e9)(hs:gT m b s)(lF:s.over=aE)(pq:s.eb=[])(hb:s.bad=0)(c:UInt8)(r:List UInt8)(GF:s.jV=c::r)(w:World)(B:bL)(hR:oB B λw=>CY w x m vo vn vt vp vr va vg)
 (hm:Mem B (ft b g vo (fc m.o vn vt) (fQ m.g.aT m.g.bC vp m.mode vr va vg) s ut up uq uw) w):
 Calls aD 69 #[aJ (aj ⟨g,0,ak⟩)] w (da (uj b g vo (fc m.o vn vt) (fQ m.g.aT m.g.bC vp m.mode vr va vg) (hZ m b s) uq) B):=by
 have dX:(fc m.o vn vt).length=258:=fj _ _ _;obtain⟨l1,l2,l3⟩:=hs.live lF;have LJ:s.dV<=4096:=by have:=hs.we;have:=hs.jU;omega
 unfold ft at hm;have tW:s.kO=false:=by
  cases h:s.kO with
  |false=>rfl
  |true=>have:=(hs.kO h).1;rw[GF]at this;cases this
 have hho:=hs.lF hb tW;have hfd:=λw' (hm:WR w' vn vt m.N m.tags)=>Hg m.o vn vt m.N m.tags s.dy s.iU [c] w' hm hk.mw hk.byte (by have:=hs.jV;omega) hs.iU (by simp);rw[show OU m.o vn vt=aQ (fc m.o vn vt).toArray from I]at hfd;have QT:(dv m.o m.N m.tags [c] s.dy s.iU).1.length<=1000000:=by
  have:=AF (o:=m.o) (N:=m.N) (tags:=m.tags) [c] s.dy s.iU;have:=hs.jV;have:=hs.iU;simp only[List.length_singleton]at*;omega
 have BZ:hZ m b s=IS m s c r:=by unfold hZ;rw[pq,GF];dsimp only;rw[if_neg (by rw[hb];decide)]
 rw[BZ];unfold IS AG;obtain⟨at',ct,rfl,q1,q2,-⟩:=mD (hm.get (i:=1) rfl);clear BZ hs;obtain⟨jU,mF,dV,jV,ended,kO,dy,iU,lF,bad,eb,p,seen,rM,sy,wait,cr,gone,over,e8,pl⟩:=s;dsimp only at*;subst pq hb GF hho tW lF;simp only[gY]at hm;dsimp only[qL,rK,jf,eI]at hm;generalize dv m.o m.N m.tags [c] dy iU=D at*;obtain⟨D1,D2,D3,D4⟩:=D;dsimp only at*;generalize fc m.o vn vt=PK at*;obtain⟨a0,a1,a2,a3,a4,a5,a6,a7,xE⟩:=K6 b ⟨jU,mF,dV,c::r,ended,aE,dy,iU,0,0,[],p,seen,rM,sy,wait,cr,gone,aE,e8,pl⟩ up uq;rw[xE]at hm;refine dB hm (args:=[aJ (aj ⟨g,0,ak⟩)]) (n:=160) Tryz.func69 I I I ?_
 repeat(first|refine GC ?_|refine gV (aB aK.ty I (aH (i:=0) I (fu dX I I))) ?_|refine gV (lh (b:=aC) I I I) ?_|refine gV (Ps (j:=1) bM.eq I I (Se (bH _))) ?_|refine gV (DZ (i:=1) bM.eq I I (Se (bH _))) ?_|refine GB ?_)
 refine tR (i:=0) 10 (tl':=fQ m.g.aT m.g.bC vp m.mode vr va vg++rK ⟨jU,mF,dV,r,ended,aE,dy,iU,0,0,[],p,seen,rM,sy,wait,cr,gone,aE,e8,pl⟩ _ [a0,a1,a2,a3,a4,a5,a6,a7] uw) I I I I I I dX I I ?_
 try refine GA ?_
 refine dT ([xV g (jE vo PK (fQ m.g.aT m.g.bC vp m.mode vr va vg)) 168]) (.calm 0 (.calm 1 (.calm 2 (.calm 3 (.calm 4 (.calm 5 (.calm 6 (.calm 7 (.calm 8 (.calm 9 (.calm 11 (.one 10 (.one 12 (.calm 13 (.calm 14 (.calm 15 (.calm 16 (.calm 17 (.calm 18 (.one 19 (.calm 20 (.calm 21 (.calm 22 (.one 23 (.done))))))))))))))))))))))))) (eu (i:=0) I (ii _ _ _ _)) ?_
 repeat(first|refine GW ?_|(refine GN ?_;first|refine QW (bm (cs:=PK) aK.ty I dX (λj v h=>np (i:=0) I (Gc dX h))) ?_))
 refine aL I (dx (bm (cs:=im (dy:Int) iU 0) aK.ty I I (λj v h=>aH (i:=0) I (l7 13 dX I h J))) I I I (aM (eu (i:=0) I (ii _ _ _ _)) ?_))
 try refine GW ?_
 refine aL I (aV (sV aI.en I I I I) (λw hm=>hfd w (hR _ w hm).pk) I I I ?_);intro v1 _
 conv=>arg 8;simp only[zJ,cI,ret,id_eq,IX]
 conv=>arg 7;simp only[IX]
 refine aM (eu (i:=0) I (ii _ _ _ _)) ?_
 try refine GW ?_
 refine aL I (iW (i:=0) 13 (cs:=im (D2:Int) D3 D4) (tl':=fQ m.g.aT m.g.bC vp m.mode vr va vg++rK ⟨jU,mF,dV,r,ended,aE,D2,D3,D4,0,[],p,seen,rM,sy,wait,cr,gone,aE,e8,pl⟩ _ [a0,a1,a2,a3,a4,a5,a6,a7] uw) I I I I I I dX I I ?_);refine zL ?_;refine aM (eu (i:=0) I (ii _ _ _ _)) ?_
 try refine GW ?_
 refine aL I (tR (i:=0) 16 (tl':=fQ m.g.aT m.g.bC vp m.mode vr va vg++rK ⟨jU,mF,dV,r,ended,aE,D2,D3,D4,D4,[],p,seen,rM,sy,wait,cr,gone,aE,e8,pl⟩ _ [a0,a1,a2,a3,a4,a5,a6,a7] uw) I I I I I I dX I I ?_);refine aM (eu (i:=0) I (ii _ _ _ _)) ?_
 try refine GW ?_
 repeat(first|refine GA ?_|refine gV (aB aK.ty I (aH (i:=0) I (fu dX I I))) ?_)
 refine TK (i:=1) (j:=4) I I I I (Ou _) (by simp only[gY];omega) (by simp only[gY];omega) I λv2=>?_;refine TJ (i:=1) I λb2 c2 me _ _ _=>?_
 try refine GA ?_
 refine eo (i:=0) 17 I I I (by rw[me];rfl) (by rw[me];rfl) I dX I ?_
 try refine GA ?_
 exact jP I λw hm=>hm.cC (S:=uj b g vo PK (fQ m.g.aT m.g.bC vp m.mode vr va vg) ⟨jU,mF,dV,r,ended,aE,D2,D3,D4,D4,D1,p,seen,rM,sy,wait,cr,gone,aE,e8,pl⟩ uq) (v2,up,uw) trivial [0,1,2,3] akh (by
  have ags:jk b ⟨jU,mF,dV,r,ended,aE,D2,D3,D4,D4,D1,p,seen,rM,sy,wait,cr,gone,aE,e8,pl⟩ up uq=[a0,a1,a2,a3,a4,a5,a6,a7]:=xE;simp only[uj,ft,ags,toP,gY,cX,abz,eI];rfl)
set_option maxRecDepth 100000 in
theorem Hp(x:Value)(m:Md){vo vn vt vp vr va vg ut up uq uw:Value}(b:Bool)(T N:Nat)(hk:iA m b T N)(g:Nat)(s:e9)(hs:gT m b s)(lF:s.over=aE)(pq:s.eb=[])(hb:s.bad=0)(GF:s.jV=[])(tW:s.kO=aE)(w:World)(B:bL)(hR:oB B λw=>CY w x m vo vn vt vp vr va vg)
 (hm:Mem B (ft b g vo (fc m.o vn vt) (fQ m.g.aT m.g.bC vp m.mode vr va vg) s ut up uq uw) w):
 Calls aD 69 #[aJ (aj ⟨g,0,ak⟩)] w (da (uj b g vo (fc m.o vn vt) (fQ m.g.aT m.g.bC vp m.mode vr va vg) (hZ m b s) uq) B):=by
 have dX:(fc m.o vn vt).length=258:=fj _ _ _;obtain⟨l1,l2,l3⟩:=hs.live lF;have LJ:s.dV<=4096:=by have:=hs.we;have:=hs.jU;omega
 unfold ft at hm;have hho:=hs.lF hb tW;have hfd:=λw' (hm:WR w' vn vt m.N m.tags)=>Ho m.o vn vt m.N m.tags s.dy s.iU w' hm hk.mw hk.byte (by have:=hs.jV;omega) hs.iU;rw[show OU m.o vn vt=aQ (fc m.o vn vt).toArray from I]at hfd;have QT:(iF m.o m.N m.tags (s.iU.length+1) s.dy s.iU).1.length<=1000000:=by
  have:=Dt (o:=m.o) (N:=m.N) (tags:=m.tags) (s.iU.length+1) s.dy s.iU;have:=hs.jV;have:=hs.iU;omega
 have BZ:hZ m b s=BS m s:=by unfold hZ;rw[pq,GF];dsimp only;rw[if_neg (by rw[hb];decide),if_pos tW]
 rw[BZ];unfold BS wR;obtain⟨at',ct,rfl,q1,q2,-⟩:=mD (hm.get (i:=1) rfl);clear BZ hs;obtain⟨jU,mF,dV,jV,ended,kO,dy,iU,lF,bad,eb,p,seen,rM,sy,wait,cr,gone,over,e8,pl⟩:=s;dsimp only at*;subst pq hb GF hho tW lF;simp only[gY]at hm;dsimp only[qL,rK,jf,eI]at hm;generalize iF m.o m.N m.tags (iU.length+1) dy iU=D at*;obtain⟨D1,D2,D4⟩:=D;dsimp only at*;generalize fc m.o vn vt=PK at*;obtain⟨a0,a1,a2,a3,a4,a5,a6,a7,xE⟩:=K6 b ⟨jU,mF,dV,[],ended,aE,dy,iU,0,0,[],p,seen,rM,sy,wait,cr,gone,aE,e8,pl⟩ up uq;rw[xE]at hm;refine dB hm (args:=[aJ (aj ⟨g,0,ak⟩)]) (n:=160) Tryz.func69 I I I ?_
 repeat(first|refine GC ?_|refine gV (aB aK.ty I (aH (i:=0) I (fu dX I I))) ?_|refine gV (lh (b:=aE) I I I) ?_|refine GB ?_)
 refine tR (i:=0) 12 (tl':=fQ m.g.aT m.g.bC vp m.mode vr va vg++rK ⟨jU,mF,dV,[],ended,aC,dy,iU,0,0,[],p,seen,rM,sy,wait,cr,gone,aE,e8,pl⟩ _ [a0,a1,a2,a3,a4,a5,a6,a7] uw) I I I I I I dX I I ?_
 try refine GA ?_
 refine dT ([xV g (jE vo PK (fQ m.g.aT m.g.bC vp m.mode vr va vg)) 168]) (.calm 0 (.calm 1 (.calm 2 (.calm 3 (.calm 4 (.calm 5 (.calm 6 (.calm 7 (.calm 8 (.calm 9 (.one 10 (.one 11 (.calm 12 (.calm 13 (.calm 14 (.calm 15 (.calm 16 (.calm 17 (.one 18 (.calm 19 (.calm 20 (.calm 21 (.one 22 (.done)))))))))))))))))))))))) (eu (i:=0) I (ii _ _ _ _)) ?_
 repeat(first|refine GW ?_|(refine GN ?_;first|refine QW (bm (cs:=PK) aK.ty I dX (λj v h=>np (i:=0) I (Gc dX h))) ?_))
 refine aL I (dx (bm (cs:=im (dy:Int) iU 0) aK.ty I I (λj v h=>aH (i:=0) I (l7 13 dX I h J))) I I I (aM (eu (i:=0) I (ii _ _ _ _)) ?_))
 try refine GW ?_
 refine aL I (aV (fB aI.en I I I) (λw hm=>hfd w (hR _ w hm).pk) I I I ?_);intro v1 _
 conv=>arg 8;simp only[zJ,cI,ret,id_eq,Gt]
 conv=>arg 7;simp only[Gt]
 refine aM (eu (i:=0) I (ii _ _ _ _)) ?_
 try refine GW ?_
 refine aL I (iW (i:=0) 13 (cs:=im (D2:Int) [] (if D4=0 then 15 else 9)) (tl':=fQ m.g.aT m.g.bC vp m.mode vr va vg++rK ⟨jU,mF,dV,[],ended,aC,D2,[],if D4=0 then 15 else 9,0,[],p,seen,rM,sy,wait,cr,gone,aE,e8,pl⟩ _ [a0,a1,a2,a3,a4,a5,a6,a7] uw) I I I I I I dX I I ?_);refine zL ?_;refine aM (eu (i:=0) I (ii _ _ _ _)) ?_
 try refine GW ?_
 refine aL I (tR (i:=0) 16 (tl':=fQ m.g.aT m.g.bC vp m.mode vr va vg++rK ⟨jU,mF,dV,[],ended,aC,D2,[],if D4=0 then 15 else 9,D4,[],p,seen,rM,sy,wait,cr,gone,aE,e8,pl⟩ _ [a0,a1,a2,a3,a4,a5,a6,a7] uw) I I I I I I dX I I ?_);refine aM (eu (i:=0) I (ii _ _ _ _)) ?_
 try refine GW ?_
 repeat(first|refine GA ?_|refine gV (aB aK.ty I (aH (i:=0) I (fu dX I I))) ?_)
 refine TK (i:=1) (j:=4) I I I I (Ou _) (by simp only[gY];omega) (by simp only[gY];omega) I λv2=>?_;refine TJ (i:=1) I λb2 c2 me _ _ _=>?_
 try refine GA ?_
 refine eo (i:=0) 17 I I I (by rw[me];rfl) (by rw[me];rfl) I dX I ?_
 try refine GA ?_
 exact jP I λw hm=>hm.cC (S:=uj b g vo PK (fQ m.g.aT m.g.bC vp m.mode vr va vg) ⟨jU,mF,dV,[],ended,aC,D2,[],if D4=0 then 15 else 9,D4,D1,p,seen,rM,sy,wait,cr,gone,aE,e8,pl⟩ uq) (v2,up,uw) trivial [0,1,2,3] akh (by
  have ags:jk b ⟨jU,mF,dV,[],ended,aC,D2,[],if D4=0 then 15 else 9,D4,D1,p,seen,rM,sy,wait,cr,gone,aE,e8,pl⟩ up uq=[a0,a1,a2,a3,a4,a5,a6,a7]:=xE;simp only[uj,ft,ags,toP,gY,cX,abz,eI];rfl)
set_option maxRecDepth 100000 in
theorem Oy(x:Value)(m:Md){vo vn vt vp vr va vg ut up uq uw:Value}(b:Bool)(T N:Nat)(hk:iA m b T N)(g:Nat)(s:e9)(hs:gT m b s)(lF:s.over=aE)(pq:s.eb=[])(hb:s.bad=0)(GF:s.jV=[])(tW:s.kO=aC)(hw:s.wait.length<200)(w:World)(B:bL)(hR:oB B λw=>CY w x m vo vn vt vp vr va vg)
 (hm:Mem B (ft b g vo (fc m.o vn vt) (fQ m.g.aT m.g.bC vp m.mode vr va vg) s ut up uq uw) w):
 Calls aD 69 #[aJ (aj ⟨g,0,ak⟩)] w (da (uj b g vo (fc m.o vn vt) (fQ m.g.aT m.g.bC vp m.mode vr va vg) (hZ m b s) uq) B):=by
 have dX:(fc m.o vn vt).length=258:=fj _ _ _;obtain⟨l1,l2,l3⟩:=hs.live lF;have LJ:s.dV<=4096:=by have:=hs.we;have:=hs.jU;omega
 unfold ft at hm;have LQ:=AJ hs;have WI:s.seen<=4096:=by have:=hs.seen;have:=hs.jV;omega
 have WG:=λo_ w' B hR hm=>Ov x m (ut:=o_) (up:=up) (uq:=uq) (uw:=uw) (vo:=vo) (vn:=vn) (vt:=vt) (vp:=vp) (vr:=vr) (va:=va) (vg:=vg) b T N hk g s l3 l1 l2 J LQ J w' B hR hm;have hst:=λ(s':e9) o_ K9 pc' (e:Int) pl h8 w' B hm=>pa (g:=g) (vo:=vo) (vt:=o_) (vw:=K9) (pc:=pc') dX (show(fQ m.g.aT m.g.bC vp m.mode vr va vg).length=7 from I) h8 s' e pl w' B hm;have BZ:hZ m b s=j0 (qo m b s).1 (qo m b s).2 s.dV:=by unfold hZ;rw[pq,GF];dsimp only;rw[if_neg (by rw[hb];decide),if_neg (by rw[tW];decide)]
 rw[BZ];have hR1:(qo m b s).1.dV=s.dV/\(qo m b s).1.eb=[]:=⟨rfl,pq⟩;obtain⟨at',ct,rfl,q1,q2,-⟩:=mD (hm.get (i:=1) rfl);generalize qo m b s=R at*;obtain⟨R1,R2⟩:=R;obtain⟨e1,e2⟩:=hR1;dsimp only at e1 e2 WG⊢;clear BZ hs;have Ci:∀vp' vq,(jk b R1 vp' vq).length=8:=by cases b<;>exact λ_ _=>rfl
 have xt:(j0 R1 R2 s.dV).p=R1.p/\(j0 R1 R2 s.dV).wait=R1.wait/\(j0 R1 R2 s.dV).eb=[]/\∀vp' vq,jk b (j0 R1 R2 s.dV) vp' vq=jk b R1 vp' vq:=⟨rfl,rfl,e2,λ_ _=>rfl⟩;obtain⟨s1,s2,s3,s4⟩:=xt;rw[pq]at hm;simp only[gY]at hm;obtain⟨a0,a1,a2,a3,a4,a5,a6,a7,xE⟩:=K6 b s up uq;rw[xE]at hm;have WG:=λo_ w' B hR (hm:Mem B [qL g vo (fc m.o vn vt) (fQ m.g.aT m.g.bC vp m.mode vr va vg) s o_ [a0,a1,a2,a3,a4,a5,a6,a7] uw,qK b up s.p,jY uw s.wait] w')=>WG o_ w' B hR (by rw[xE];exact hm);refine dB hm (args:=[aJ (aj ⟨g,0,ak⟩)]) (n:=160) Tryz.func69 I I I ?_
 repeat(first|refine GC ?_|refine gV (aB (v:=av az 0) aK.ty I (aH (i:=0) I (fu dX I (by rw[<-hb];rfl)))) ?_|refine gV (aB (v:=str []) aK.ty I (aH (i:=0) I (fu dX I (by rw[<-GF];rfl)))) ?_|refine gV (aB (v:= .bool aC) aK.ty I (aH (i:=0) I (fu dX I (by rw[<-tW];rfl)))) ?_|refine gV (aB aK.ty I (aH (i:=0) I (fu dX I I))) ?_|refine gV (lh (b:=aE) I I I) ?_|refine GB ?_)
 refine bx [0,2,3] [1] akh I I (i_ aI.en I I) (λw hm hb=>WG _ w _ (hR.on (hm.pick [0,2,3] akh I)) hb) I I I ?_;rintro⟨v1,v2⟩ _
 conv=>arg 8;simp only[zJ,cI,ret,id_eq,psX]
 conv=>arg 7;simp only[psX]
 repeat(first|refine GA ?_|refine gV (aB (v:=av az (s.dV:Int)) aK.ty I (aH (i:=2) I (fu dX I (by rw[<-e1];rfl)))) ?_)
 refine bx [2] [0,1,3] akh I I (sV aI.en I I I I) (λw hm hb=>hst R1 _ v2 _ R2 s.dV (Ci _ _) w _ hb) I I I ?_;intro _ _;refine zL ?_
 try refine GA ?_
 exact jP I λw hm=>hm.cC (S:=uj b g vo (fc m.o vn vt) (fQ m.g.aT m.g.bC vp m.mode vr va vg) (j0 R1 R2 s.dV) uq) (_,v1,v2) trivial [3,0,1,2] akh (by simp only[uj,ft,s1,s2,s3,s4];rfl)
theorem Lg(x:Value)(m:Md){vo vn vt vp vr va vg ut up uq uw:Value}(b:Bool)(T N:Nat)(hk:iA m b T N)(g:Nat)(s:e9)(hs:gT m b s)(lF:s.over=aE)(hw:s.wait.length<200)(w:World)(B:bL)(hR:oB B λw=>CY w x m vo vn vt vp vr va vg)
 (hm:Mem B (ft b g vo (fc m.o vn vt) (fQ m.g.aT m.g.bC vp m.mode vr va vg) s ut up uq uw) w):
 Calls aD 69 #[aJ (aj ⟨g,0,ak⟩)] w (da (uj b g vo (fc m.o vn vt) (fQ m.g.aT m.g.bC vp m.mode vr va vg) (hZ m b s) uq) B):=by
 cases h1:s.eb with
 |cons t l=>exact Ow x m b T N hk g s hs lF t l h1 hw w B hR hm
 | nil =>
  by_cases h2:s.bad=0
  ·cases h3:s.jV with
   |cons c r=>exact Lf x m b T N hk g s hs lF h1 h2 c r h3 w B hR hm
   | nil=>
    cases h4:s.kO with
    |false=>exact Hp x m b T N hk g s hs lF h1 h2 h3 h4 w B hR hm
    |true=>exact Oy x m b T N hk g s hs lF h1 h2 h3 h4 hw w B hR hm
  exact Ox x m b T N hk g s hs lF h1 h2 w B hR hm
end bZ
namespace bZ
open Go.RowKit cK dS aU dL eO hY gZ bJ jG ft cD
open gK (Ev qG takeN)
theorem sC(b:Bool)(s:e9)(vp vq:Value):(jk b s vp vq).length=8:=by cases b<;>rfl
theorem Gu{b:Bool}{g:Nat}{vo:Value}{pk md:List Value}{ut up uq uw:Value}{m:Md}(dX:pk.length=258)(oD:md.length=7)(s:e9)(hs:gT m b s)(B:bL)(w:World)(hm:Mem B (ft b g vo pk md s ut up uq uw) w):
 Calls aD 32 #[aJ (aj ⟨g,0,ak⟩)] w (bY (ret (.bool (gD s))) w):=by
 obtain⟨a1,c1,e1,_⟩:=mD (hm.get (i:=1) rfl);obtain⟨a2,c2,e2⟩:=K' (hm.get (i:=3) rfl);exact xY dX oD (sC b s up uq) s (by have:=hs.seen;have:=hs.jV;have:=hs.we;have:=hs.jU;omega) ⟨a1,c1,e1⟩ ⟨a2,c2,e2⟩ (by have:=hs.wl;omega) w (hm.get (i:=0) I)
def wkS(b:Bool)(g:Nat)(vo:Value)(pk md:List Value)(R:e9×Nat)(uq:Value):Spec (Value×Value×Value):=⟨λ_=>True,λ_=>av az (R.2:Int),λx=>ft b g vo pk md R.1 x.1 x.2.1 uq x.2.2⟩
theorem Uj{m:Md}{b:Bool}{k:Nat}{s:e9}(h:gD s=aE\/k=0):ef m b k s=(s,0):=by
 cases k with
 |zero=>rfl
 |succ k=>rw[ef,if_neg (by rcases h with h|h;rw[h];decide;cases h)]
theorem adQ{m:Md}{b:Bool}{k:Nat}{s:e9}(h:gD s=aC):ef m b (k+1) s=((ef m b k (hZ m b s)).1,(ef m b k (hZ m b s)).2+1):=by rw[ef,if_pos h]
set_option maxRecDepth 100000 in
theorem AK(x:Value)(m:Md){vo vn vt vp vr va vg ut up uq uw:Value}(b:Bool)(T N:Nat)(hk:iA m b T N)(g:Nat)(s:e9)(hs:gT m b s)(rv:Int)(qA:rv<=9223372036854775807)(w:World)(B:bL)(hR:oB B λw=>CY w x m vo vn vt vp vr va vg)
 (hm:Mem B (ft b g vo (fc m.o vn vt) (fQ m.g.aT m.g.bC vp m.mode vr va vg) s ut up uq uw) w):
 Calls aD 29 #[aJ (aj ⟨g,0,ak⟩),av az rv] w (da (wkS b g vo (fc m.o vn vt) (fQ m.g.aT m.g.bC vp m.mode vr va vg) (ef m b rv.toNat s) uq) B):=by
 have dX:(fc m.o vn vt).length=258:=fj _ _ _;have BZ:=λs' (h1:gT m b s') h2 h3 ut' up' uw' w' B hR hm=>Lg x m (vo:=vo) (vn:=vn) (vt:=vt) (vp:=vp) (vr:=vr) (va:=va) (vg:=vg) (ut:=ut') (up:=up') (uq:=uq) (uw:=uw') b T N hk g s' h1 h2 h3 w' B hR hm;have eP:=λs' (h1:gT m b s') ut' up' uw' B w' (hm:Mem B (ft b g vo (fc m.o vn vt) (fQ m.g.aT m.g.bC vp m.mode vr va vg) s' ut' up' uq uw') w')=>Gu (m:=m) dX I s' h1 B w' hm;have lT:=λ(s':e9) h1 h2=>Ue hk (s:=s') h1 h2;generalize hE:ef m b rv.toNat s=E;generalize fc m.o vn vt=PK at*;generalize fQ m.g.aT m.g.bC vp m.mode vr va vg=MT at*;refine dB hm (args:=[aJ (aj ⟨g,0,ak⟩),av az rv]) (n:=18) Tryz.func29 I I I ?_
 try refine GA ?_
 refine d_ (ι:=Nat×e9×Value×Value×Value) (λ(k,s',_)=>(k:Int)<=max 0 rv/\gT m b s'/\((ef m b (rv.toNat-k) s').1,k+(ef m b (rv.toNat-k) s').2)=E) (λ(k,_)=>[(0,aJ (aj ⟨g,0,ak⟩)),(1,av az rv),(5,av az (k:Int))])
  (λ(_,s',ut',up',uw')=>ft b g vo PK MT s' ut' up' uq uw') (λ(k,_)=>rv.toNat-k) (0,s,ut,up,uw) ⟨by omega,hs,by subst hE;rw[Nat.sub_zero,cX]⟩ ?_
 clear hE hs;rintro⟨k,s',ut',up',uw'⟩ ⟨i1,i2,i3⟩;dsimp only at i1 i2 i3⊢
 by_cases c:(k:Int)<rv
 ·have eP:=eP s' i2 ut' up' uw'
  cases hr:gD s' with
  |true=>
   rw[hr]at eP;obtain⟨r1,r2,_⟩:=sA hr;rw[show rv.toNat-k=(rv.toNat-(k+1))+1 by omega,adQ hr]at i3
   try refine GA ?_
   refine mV (i_ aI.en I I) (λw hm=>eP B w hm) I I I I I ?_;intro _ _;refine zL ?_
   try refine GA ?_
   refine bx [0,1,2,3] [] akh I I (i_ aI.en I I) (λw hm hb=>BZ s' i2 r1 r2 _ _ _ w _ (hR.on (hm.pick [0,1,2,3] akh I)) hb) I I I ?_;rintro⟨v1,v2,v3⟩ _
   conv=>arg 8;simp only[zJ,cI,ret,id_eq,uj]
   try refine GA ?_
   exact bT (k+1,hZ m b s',v1,v2,v3) ⟨by omega,lT s' i2 hr,by rw[<-i3];dsimp only;rw[k9,Nat.add_comm 1]⟩ (by show rv.toNat-(k+1)<rv.toNat-k;omega)
  |false=>
   rw[hr]at eP;rw[Uj (.inl hr)]at i3;subst i3
   try refine GA ?_
   refine mV (i_ aI.en I I) (λw hm=>eP B w hm) I I I I I ?_;intro _ _;refine zL ?_
   try refine GA ?_
   exact cO I I λw hm=>hm.cC (S:=wkS b g vo PK MT (s',k+0) uq) (ut',up',uw') trivial [0,1,2,3] akh I
 ·rw[Uj (.inr J)]at i3
  subst i3
  try refine GA ?_
  exact cO I I λw hm=>hm.cC (S:=wkS b g vo PK MT (s',k+0) uq) (ut',up',uw') trivial [0,1,2,3] akh I
end bZ
namespace bZ
open Go.RowKit cK dS
theorem adR(l:List bJ.Act):∀u∈l.flatMap fw,u.oneCell'=true:=by
 intro u hu;obtain⟨x,_,h⟩:=vj.1 hu;simp only[fw,dC,fH,or_false]at h;rcases h with rfl|rfl<;>rfl
theorem abA(a:bJ.Act):(fw a).length=2:=rfl
theorem C3(v:Value)(l:List bJ.Act)(w:World)(hs:Sl w v l.length (l.flatMap fw))(hl:l.length*16<=140737488355328):
 Calls aD 135 #[v] w (bY (cI 94 2 l.length (l.flatMap fw) id) w):=by
 obtain⟨base,cap,rfl,lW,jS,eP⟩:=hs;unfold maxLen at jS;refine enter (args:=[ap base l.length cap]) (n:=8) Tryz.func135 I I I ?_;have sa:∀w',Gr w w'->Sl w' (ap base l.length cap) l.length (l.flatMap fw):=λw' hg=>Sl.gr ⟨base,cap,rfl,lW,jS,eP⟩ hg;clear eP
 cases base with
 | none=>
  repeat(first|refine GC ?_|refine gV (kx bM.eq I I I) ?_|refine GB ?_)
  have h0:l=[]:=by
   cases l with
   |nil=>rfl
   |cons x l=>obtain⟨_,_,h,_,_,h2⟩:=sa w (Gr.refl w);simp only[kH]at h;obtain⟨rfl,_⟩:=h;obtain⟨b,off,h,_⟩:=h2 (by simp);cases h
  subst h0;refine dN 94 2 ?_;exact cO I I λw hm=>hm.meets (S:=cI 94 2 0 [] id) _ trivial [0] akh I
 |some p=>
  repeat(first|refine GC ?_|refine gV (kx bM.eq I I I) ?_|refine GB ?_)
  refine w6 I λg=>?_
  try refine GA ?_
  refine eM (i:=0) I (λw' hm=>sa w' hm.below) I I (lV abA l) (adR l) J J I λv'=>?_;rw[eI]
  try refine GA ?_
  refine cO I I λw hm=>?_;exact hm.meets (S:=cI 94 2 l.length (l.flatMap fw) id) v' trivial [0] akh (by simp[cI])
end bZ
namespace bZ
open Go.RowKit cK dS aU dL eO hY gZ bJ jG ft cD
abbrev CD{α:Type}(s:w8 α)(N:List (List α)):Spec (Value×(Nat->Prop)):=⟨λx=>∃a c,x.1=ap a N.length c,λx=>x.1,λx=>[GR (bO (bO s)) x.2 [x.1] N]⟩
theorem Oz{w:World}{v:Value}{l:List Int}(hp:∀x∈l,cK.dU x)(h:(aZ 3 1 v l.length (l.flatMap cK.dQ)).holds w):(bO fP).is (λk=>v.ownBlock=aj k) w [v] l:=
 ⟨v,rfl,ky.of_flat (Sl.dD h) hp (λ_ h=>h) (λa n cp hv=>by rw[hv];rfl)⟩
theorem tS(v:Value)(N:List (List Int))(w:World)(h:ky (bO fP) (qy w) w v N)(hn:N.length<=1000000)(hl:∀r∈N,r.length<=1000000):
 Calls aD 98 #[v] w (bY (CD fP N) w):=by
 obtain⟨bv,cv,rfl,JN,GI,hrv⟩:=h;unfold maxLen at GI;refine enter (args:=[ap bv N.length cv]) (n:=19) Tryz.func98 I I I ?_
 try refine GA ?_
 refine jd 26 1 (m_ (eh (bO fP) (λ_=>False) [] []) (λk hk=>hk.elim (λh=>by cases h) id) (λw=>jI) ?_);refine d_ (ι:=Nat×Value×List (List Value)×(Nat->Prop)) (λ(k,_,_,_)=>k<=N.length) (λ(k,vo,_,_)=>[(3,vo),(6,ap bv N.length cv),(7,av az N.length),(8,av az (k:Int))])
  (λ(k,vo,gH,F)=>[aZ 26 1 vo k gH.flatten,eh (bO fP) F gH (N.take k)]) (λ(k,_,_,_)=>N.length-k) (0,ap ak 0 0,[],λ_=>False) (bH _) ?_
 rintro⟨k,vo,gH,F⟩ i1;dsimp only at i1⊢
 by_cases c:k<N.length
 ·obtain⟨b,off,rfl,_,hr⟩:=hrv J
  obtain⟨cs,⟨vx,rfl,hx⟩,eP⟩:=hr k c;have dy:∀(L:List b9),At w L ⟨b,off+k*1,ak⟩ vx:=λL=>jc (j:=0) eP I;have Lu:=hl _ (b_ c);have pq:N.take (k+1)=N.take k++[N[k]]:=gX c;have jW:=λw' (hg:Gr w w')=>kA vx N[k] w' ((hx.flat akh).gr hg) J;have lT:=hx.okp;generalize N[k]=l at*;clear hr eP hrv hx
  repeat(first|refine GA ?_|refine gV (aY bM.eq aK.ty I I c) ?_|refine gV (aB (v:=vx) aK.ty I (dy _)) ?_)
  refine aV (i_ aI.en I I) (λw hm=>jW _ hm.below) I I I ?_;intro v1 _;refine zL ?_;refine aW (i:=2) I λhu1 hu2=>?_;refine ku (i:=0) I I hu1 hu2 I I (λz h=>by cases h;rfl) J J I λz Fm=>?_;refine zL ?_;refine pF (eh (bO fP) (λk=>F k\/v1.ownBlock=aj k) (gH++[[v1]]) (N.take k++[l])) 2 1 [0] akh I I I (λk hk=>hk.elim (λh=>by cases h) λh=>h.elim (λh=> .inr (.inr h)) λh=> .inl (.inl h)) (λw hr he=>?_) ?_;exact mZ he (Oz lT hr) λk hk=>(aZ 3 1 v1 l.length (l.flatMap cK.dQ)).lt w hr k (.inl hk);refine zL ?_
  try refine GA ?_
  exact bT (k+1,Fm,gH++[[v1]],λk=>F k\/v1.ownBlock=aj k) (by show k+1<=N.length;omega) (by show N.length-(k+1)<N.length-k;omega) (hl:=by rw[pq,rC];rfl)
 ·obtain rfl:k=N.length:=by omega
  rw[fU (bz _)];refine Jv (i:=0) I λbase cap hv _ _=>?_
  try refine GA ?_
  refine oZ (GR (bO (bO fP)) (X_ F vo) [vo] N) 0 1 [] akh I I I (λk hk=>hk.elim (λh=>by cases h) λh=>h.elim (λh=> .inr (.inr h)) λh=> .inl (.inl h)) (λw hr he=>?_) ?_;exact⟨⟨vo,rfl,yq (s:=bO fP) hr he akh⟩,yr hr he⟩;exact cO I I λw hm=>hm.meets (S:=CD fP N) (vo,X_ F vo) ⟨base,cap,hv⟩ [0] akh I
theorem Lh(v:Value)(N:List (List bJ.Act))(w:World)(h:ky (bO wI) (qy w) w v N)(hn:N.length<=1000000)(hl:∀r∈N,r.length<=1000000):
 Calls aD 100 #[v] w (bY (CD wI N) w):=by
 obtain⟨bv,cv,rfl,JN,GI,hrv⟩:=h;unfold maxLen at GI;refine enter (args:=[ap bv N.length cv]) (n:=19) Tryz.func100 I I I ?_
 try refine GA ?_
 refine jd 92 1 (m_ (eh (bO wI) (λ_=>False) [] []) (λk hk=>hk.elim (λh=>by cases h) id) (λw=>jI) ?_);refine d_ (ι:=Nat×Value×List (List Value)×(Nat->Prop)) (λ(k,_,_,_)=>k<=N.length) (λ(k,vo,_,_)=>[(3,vo),(6,ap bv N.length cv),(7,av az N.length),(8,av az (k:Int))])
  (λ(k,vo,gH,F)=>[aZ 92 1 vo k gH.flatten,eh (bO wI) F gH (N.take k)]) (λ(k,_,_,_)=>N.length-k) (0,ap ak 0 0,[],λ_=>False) (bH _) ?_
 rintro⟨k,vo,gH,F⟩ i1;dsimp only at i1⊢
 by_cases c:k<N.length
 ·obtain⟨b,off,rfl,_,hr⟩:=hrv J
  obtain⟨cs,⟨vx,rfl,hx⟩,eP⟩:=hr k c;have dy:∀(L:List b9),At w L ⟨b,off+k*1,ak⟩ vx:=λL=>jc (j:=0) eP I;have Lu:=hl _ (b_ c);have pq:N.take (k+1)=N.take k++[N[k]]:=gX c;have jW:=λw' (hg:Gr w w')=>C3 vx N[k] w' ((hx.flat akh).gr hg) J;have lT:=hx.okp;generalize N[k]=l at*;clear hr eP hrv hx
  repeat(first|refine GA ?_|refine gV (aY bM.eq aK.ty I I c) ?_|refine gV (aB (v:=vx) aK.ty I (dy _)) ?_)
  refine aV (i_ aI.en I I) (λw hm=>jW _ hm.below) I I I ?_;intro v1 _;refine zL ?_;refine aW (i:=2) I λhu1 hu2=>?_;refine ku (i:=0) I I hu1 hu2 I I (λz h=>by cases h;rfl) J J I λz Fm=>?_;refine zL ?_;refine pF (eh (bO wI) (λk=>F k\/v1.ownBlock=aj k) (gH++[[v1]]) (N.take k++[l])) 2 1 [0] akh I I I (λk hk=>hk.elim (λh=>by cases h) λh=>h.elim (λh=> .inr (.inr h)) λh=> .inl (.inl h)) (λw hr he=>?_) ?_;exact mZ he (FU hr) λk hk=>(aZ 94 2 v1 l.length (l.flatMap fw)).lt w hr k (.inl hk);refine zL ?_
  try refine GA ?_
  exact bT (k+1,Fm,gH++[[v1]],λk=>F k\/v1.ownBlock=aj k) (by show k+1<=N.length;omega) (by show N.length-(k+1)<N.length-k;omega) (hl:=by rw[pq,rC];rfl)
 ·obtain rfl:k=N.length:=by omega
  rw[fU (bz _)];refine Jv (i:=0) I λbase cap hv _ _=>?_
  try refine GA ?_
  refine oZ (GR (bO (bO wI)) (X_ F vo) [vo] N) 0 1 [] akh I I I (λk hk=>hk.elim (λh=>by cases h) λh=>h.elim (λh=> .inr (.inr h)) λh=> .inl (.inl h)) (λw hr he=>?_) ?_;exact⟨⟨vo,rfl,yq (s:=bO wI) hr he akh⟩,yr hr he⟩;exact cO I I λw hm=>hm.meets (S:=CD wI N) (vo,X_ F vo) ⟨base,cap,hv⟩ [0] akh I
end bZ
namespace bZ
open Go.RowKit cK
theorem Sh{P:Program}{t:TypeId}{fields:Array Field}{z:Value}{pl:Array (Nat×Nat)}{parts:Array (Nat×Value)}{c:Array Value}{w:World}(hz:(zeroValue t).run P w= .ok z w)(hu:(underlying t).run P w= .ok (.struct fields) w)
 (hp:(fields.mapM λf=>do pure (f.offset,<-sizeOf f.type):Sem (Array (Nat×Nat))).run P w= .ok pl w) (hf:j_ (pl[·]?) z.cells parts.toList=aj c):(df t parts).run P w= .ok (.agg c) w:=by
 simp at hp;simp[df,hz,hu,hp,hf]
theorem Gv(off:Nat):∀(vs:List Value) (k:Nat) (cs:List Value),off+k+vs.length<=cs.length->(vs.zipIdx k).foldl (λcs (c,j)=>cs.setIfInBounds (off+j) c) cs.toArray=(cs.take (off+k)++vs++cs.drop (off+k+vs.length)).toArray
 |[],k,cs,_=>by simp
 |v::vs,k,cs,h=>by
  simp only[db]at h;rw[List.zipIdx_cons,List.foldl_cons];dsimp only;rw[uF,Gv off vs (k+1) _ (by rw[List.length_set];omega)]
  congr 1
  rw[show off+(k+1)=off+k+1 by omega,List.take_set,List.drop_set_of_lt J,db,show off+k+(vs.length+1)=off+k+1+vs.length by omega];rw[List.take_add_one,List.set_append_right _ _ (by simp;omega)];have:(off+k)<cs.length:=by omega
  simp[bK this,List.length_take,Nat.min_eq_left (Nat.le_of_lt this)]
theorem Wq{place:Nat->Option (Nat×Nat)}{i off m:Nat}{cells a:List Value}{rest:List (Nat×Value)}(h0:place i=aj (off,m))(ha:a.length=m)(hc:off+m<=cells.length):j_ place cells.toArray ((i,aQ a.toArray)::rest)=j_ place (cells.take off++a++cells.drop (off+m)).toArray rest:=by
 subst ha;have:=Gv off a 0 cells J;rw[iu]at this;rw[j_,h0];show(if _ then ak else _)=_
 rw[if_neg (by simp[wM];omega)]
 congr 1
 rw[<-this,<-abx];simp[wM]
end bZ
namespace bZ
open Go.RowKit cK dS aU dL eO hY gZ bJ jG cD
theorem CY.gr{w w':World}{v:Value}{m:Md}{vo vn vt vp vr va vg:Value}(h:CY w v m vo vn vt vp vr va vg)(hg:Gr w w'):CY w' v m vo vn vt vp vr va vg:=
 ⟨h.val,h.of.gr hg,h.pk.gr hg,h.BQ.gr hg,tp h.rows hg,h.pM.gr hg⟩
end bZ
namespace bZ
open Go.RowKit cK dS aU dL eO hY gZ bJ jG ft cD
theorem adS(o:Of)(vn vt v:Value):(fc o vn vt).set 256 v=fc o v vt:=by
 unfold fc;rw[BN,if_neg (by simp)];simp
theorem adT(o:Of)(vn vt v:Value):(fc o vn vt).set 257 v=fc o vn v:=by
 unfold fc;rw[BN,if_neg (by simp)];simp
theorem adU{vo:Value}{pk tl:List Value}(j:Nat)(hj:j<pk.length){k:Nat}(v:Value)(hk:k=j+1):(jE vo pk tl).toArray.setIfInBounds k v=(jE vo (pk.set j v) tl).toArray:=by
 subst hk;rw[uF,jE,List.set_cons_succ,BN,if_pos hj];rfl
section
variable{P:Program}{n:Nat}{W:bL}{fr:Fr}{L:List b9}{Q:Exit->Act->World->Prop}{ops:Array Oper}{rest:List Oper}{ty:TypeId}{pos:String}{after:Array Edge}{t:TypeId}{p x:Operand}{i g k:Nat}{vo:Value}{pk tl:List Value}{T:TypeId}{agg:Bool}{v:Value}
theorem Gw(j:Nat){pk':List Value}[hT:aK P t agg 1](hi:L[i]?=aj (aP g (jE vo pk tl).toArray T))(hp:ev fr p=aj (aJ (aj ⟨g,k,ak⟩)))(hx:ev fr x=aj v)(hv:v.cells=#[v])(h1:v.oneCell'=aC)(hk:k=j+1)(dX:pk.length=258)(hj:j<258)(he:pk.set j v=pk')
 (h:TL P n W ops Q rest fr (L.set i (aP g (jE vo pk' tl).toArray T))):TL P n W ops Q (⟨ak,.store t p x,ty,pos,after,ak⟩::rest) fr L:=by
 subst he;refine bV hi hp hx hv h1 ?_ ?_
 ·rw[List.size_toArray,jE,db,bI]
  exact Nat.ble_eq_true_of_le J
 ·rw[adU j J v hk];exact h
end
theorem OA(a:Option Addr)(m c:Nat)(b:Option Addr)(n d:Nat)(w:World):(df 36 #[(0,ap a m c),(1,ap b n d)]).run aD w= .ok (aQ #[ap a m c,ap b n d]) w:=by kernel_rfl
structure Ws(m:Md):Prop where
 n1:m.N.length<=1000000
 n2:∀r∈m.N,r.length<=1000000
 t1:m.tags.length<=1000000
 r1:m.rows.length<=1000000
 r2:∀r∈m.rows,r.length<=1000000
 a1:m.A.length<=1000000
 a2:∀r∈m.A,r.length<=1000000
 g1:m.G.length<=1000000
 g2:∀r∈m.G,r.length<=1000000
structure CpX where
 vo:Value
 vn:Value×(Nat->Prop)
 vt:Value
 vp:Value×(Nat->Prop)
 vr:Value×(Nat->Prop)
 va:Value×(Nat->Prop)
 vg:Value×(Nat->Prop)
def CpX.L(x:CpX)(m:Md):List b9:=[aZ 3 1 x.vo m.of.length (m.of.flatMap cK.dQ),GR (bO (bO fP)) x.vn.2 [x.vn.1] m.N,aZ 3 1 x.vt m.tags.length (m.tags.flatMap cK.dQ),oL x.vp.2 x.vp.1 m.g.aF,GR (bO (bO fP)) x.vr.2 [x.vr.1] m.rows,GR (bO (bO wI)) x.va.2 [x.va.1] m.A,GR (bO (bO fP)) x.vg.2 [x.vg.1] m.G]
def CpX.mk'(x:CpX)(Ls:List b9):MkX:=⟨x.vo,x.vn.1,x.vt,x.vp.1,x.vr.1,x.va.1,x.vg.1,Ls⟩
def cpS(m:Md):Spec CpX:=⟨λx=>((x.mk' []).cells m).toArray.toList.all eY=aC,λx=>aQ ((x.mk' []).cells m).toArray,λx=>x.L m⟩
theorem Li{α:Type}{s:w8 α}{F:Nat->Prop}{v:Value}{N:List (List α)}{w:World}(h:(GR (bO (bO s)) F [v] N).holds w):ky (bO s) (qy w) w v N:=by
 obtain⟨⟨v',hv,h1⟩,h2⟩:=h
 cases hv
 exact h1.mono h2
theorem agt{m:Md}{x:CpX}{B:bL}{w:World}(hm:Mem B (x.L m) w)(ht:cK.dU m.g.aT)(hn:cK.dU m.g.bC):CY w (aQ ((x.mk' []).cells m).toArray) m x.vo x.vn.1 x.vt x.vp.1 x.vr.1 x.va.1 x.vg.1 where
 val:=rfl
 of:=Sl.dD (hm.get (i:=0) I)
 pk:=⟨Li (hm.get (i:=1) I),Sl.dD (hm.get (i:=2) I)⟩
 BQ:=⟨x.vp.1,rfl,(by
  obtain⟨⟨v',hv,h1⟩,h2⟩:=(hm.get (i:=3) rfl:(oL x.vp.2 x.vp.1 m.g.aF).holds w)
  cases hv
  exact h1.mono h2),ht,hn⟩
 rows:=Li (hm.get (i:=4) I)
 pM:=⟨x.va.1,x.vg.1,rfl,Li (hm.get (i:=5) I),Li (hm.get (i:=6) I)⟩
theorem Uk{o:Of}{vn vt:Value}(h1:vn.oneCell'=aC)(h2:vt.oneCell'=aC):(fc o vn vt).all eY=true:=by
 unfold fc;rw[List.all_append,List.all_eq_true.2 (λx hx=>by obtain⟨n,_,rfl⟩:=eT.1 hx;rfl)];simp[h1,h2]
theorem adV{α:Type}{s:w8 α}{w:World}{v:Value}{N:List (List α)}(h:ky (bO s) (qy w) w v N):v.oneCell'=true:=by
 obtain⟨b,c,rfl,_⟩:=h;rfl
attribute [local irreducible] Instr.build in
set_option maxRecDepth 100000 in
theorem Lj(x:Value)(m:Md){vo vn vt vp vr va vg:Value}(w:World)(h:CY w x m vo vn vt vp vr va vg)(hs:Ws m)(hg:aU.cz m.g=0)(h20:m.of.length<=20):
 Calls aD 64 #[x] w (bY (cpS m) w):=by
 have dX:(fc m.o vn vt).length=258:=fj _ _ _;have hpn:(fc m.o vn vt)[256]?=aj vn:=by have:=lK m.o vn vt;simpa using this
 have hpt:(fc m.o vn vt)[257]?=aj vt:=by have:=n' m.o vn vt;simpa using this
 have hcO:=λw' (hw:Gr w w')=>kA vo m.of w' (h.of.gr hw) J;have hcN:=λw' (hw:Gr w w')=>tS vn m.N w' (tp h.pk.hN hw) hs.n1 hs.n2;have hcT:=λw' (hw:Gr w w')=>kA vt m.tags w' (h.pk.hT.gr hw) (by have:=hs.t1;omega);have hcR:=λw' (hw:Gr w w')=>tS vr m.rows w' (tp h.rows hw) hs.r1 hs.r2;obtain⟨va',vg',hag,hA,hG⟩:=h.pM
 cases hag
 have hcA:=λw' (hw:Gr w w')=>Lh va m.A w' (ky.gr hA hw) hs.a1 hs.a2;have hcG:=λw' (hw:Gr w w')=>tS vg m.G w' (tp hG hw) hs.g1 hs.g2;obtain⟨_,_,_,_,hlen,hps⟩:=cV hg;have C2:((jE vo (fc m.o vn vt) (fQ m.g.aT m.g.bC vp m.mode vr va vg)).toArray.toList.all eY=aC):=by
  refine rG ?_ (Uk (adV h.pk.hN) ?_) ?_;obtain⟨b,c,e,_⟩:=h.of;rw[e];rfl;obtain⟨b,c,e,_⟩:=h.pk.hT;rw[e];rfl;obtain⟨vp',e,⟨b,c,e',_⟩,_⟩:=h.BQ;have e2:vp=vp':=by simp only[dM,ly]at e;have:=congrArg (λz:Array Value=>z[2]?) e;simpa using this
  rw[e2,e'];obtain⟨b1,c1,e1,_⟩:=h.rows;obtain⟨b2,c2,e2,_⟩:=hA;obtain⟨b3,c3,e3,_⟩:=hG;rw[e1,e2,e3];rfl
 obtain⟨vp',Hc,hP,_⟩:=h.BQ;obtain rfl:vp=vp':=by simp only[dM,ly]at Hc;have:=congrArg (λz:Array Value=>z[2]?) Hc;simpa using this
 clear Hc;obtain⟨bp,cp,rfl,JN,GI,oT⟩:=hP;unfold maxLen at GI;obtain rfl:=h.val;clear h hA hG;obtain⟨of,o,N,tags,g,mode,rows,A,G⟩:=m;obtain⟨gt,gn,aF⟩:=g;dsimp only at*;have hsz:∀(vo:Value) (o:Of) (vn vt a b c d e f q:Value),(jE vo (fc o vn vt) [a,b,c,d,e,f,q]).toArray.size=266:=λ_ _ _ _ _ _ _ _ _ _ _=>kW (fj _ _ _) I;have Lk:∀(vn vt:Value),(fc o vn vt).length=258:=λ_ _=>fj _ _ _;refine enter (args:=[aQ (jE vo (fc o vn vt) (fQ gt gn (ap bp aF.length cp) mode vr va vg)).toArray]) (n:=62) Tryz.func64 I I I ?_;refine bW (bB (bP I I I λg1=>a8 I λg2=>?_));refine zL ?_
 repeat(first|refine GA ?_|refine gV (aO (i:=0) aK.ty I I (hsz _ _ _ _ _ _ _ _ _ _ _)) ?_)
 refine a8 I λg3=>?_;rw[tK];refine zL ?_;refine aX (i:=2) (cs':=(jE vo (fc o vn vt) (fQ gt gn (ap bp aF.length cp) mode vr va vg)).toArray) I I I (hsz _ _ _ _ _ _ _ _ _ _ _) C2 (kW ju I) ?_;refine zL ?_
 repeat(first|refine GA ?_|refine gV (aB (v:=vo) aK.ty I (aH (i:=0) I I)) ?_)
 refine aV (i_ aI.en I I) (λw hm=>hcO _ hm.below) I I I ?_;intro Fm _;refine zL ?_
 try refine GA ?_
 refine aW (i:=3) I λu1 u2=>zc (i:=2) I I I u1 u2 I ?_;refine zL ?_
 try refine GA ?_
 refine dT ([aP g1 (jE vo (fc o vn vt) (fQ gt gn (ap bp aF.length cp) mode vr va vg)).toArray 38]) (.calm 0 (.calm 1 (.calm 2 (.calm 4 (.calm 5 (.calm 6 (.one 3 (.calm 8 (.calm 9 (.one 7 (.one 10 (.calm 11 (.calm 12 (.one 13 (.done))))))))))))))) (bX [0]) ?_
 repeat(first|refine GW ?_|(refine GN ?_;first|refine QW (aB (v:=vn) aK.ty I (aH (i:=0) I (Gc dX hpn))) ?_|refine QW (aB (v:=vt) aK.ty I (aH (i:=0) I (Gc dX hpt))) ?_))
 refine aL I ?_;refine aV (i_ aI.en I I) (λw hm=>hcN _ hm.below) I I I ?_;rintro⟨vn',Fn⟩ ⟨an,cn,un⟩;dsimp only at un;subst un
 conv=>arg 8;simp only[zJ,cI,ret,id_eq,CD]
 refine aM (bX [0]) ?_
 try refine GW ?_
 refine aL I ?_;refine aV (i_ aI.en I I) (λw hm=>hcT _ hm.below) I I I ?_;intro o_ _;refine zL ?_;refine aM (bX [0]) ?_
 try refine GW ?_
 refine aL I (Gw (i:=2) 256 I I I I I I (Lk _ _) akh (adS _ _ _ _) ?_);refine zL ?_;refine aM (bX [0]) ?_
 try refine GW ?_
 refine aL I (aW (i:=5) I λu3 u4=>Gw (i:=2) 257 I I I u3 u4 I (Lk _ _) akh (adT _ _ _ _) ?_);refine zL ?_;refine aM (bX [0]) ?_
 try refine GW ?_
 try refine GA ?_
 refine eo (i:=2) 2 I I I I I I (Lk _ _) I ?_;refine zL ?_
 repeat(first|refine GA ?_|refine gV (aB (v:=ap bp aF.length cp) aK.ty I (aH (i:=0) I (je 2 dX I I))) ?_)
 refine jd 140 2 (m_ (eh oR (λ_=>False) [] []) (λk hk=>hk.elim (λh=>by cases h) id) (λw=>jI) ?_);refine d_ (ι:=Nat×Value×List (List Value)×(Nat->Prop)) (λ(k,vq,_,_)=>k<=aF.length/\vq.cells=#[vq]/\vq.oneCell'=aC) (λ(k,vq,_,_)=>[(1,aJ (aj ⟨g1,0,ak⟩)),(2,aJ (aj ⟨g2,0,ak⟩)),(3,aJ (aj ⟨g3,0,ak⟩)),(27,ap bp aF.length cp),(28,av az aF.length),(29,av az (k:Int))])
  (λ(k,vq,gH,F)=>[aP g1 (jE vo (fc o vn vt) (fQ gt gn (ap bp aF.length cp) mode vr va vg)).toArray 38,aP g2 GO.toArray 38,aP g3 (jE Fm (fc o (ap an N.length cn) o_) (fQ gt gn vq mode vr va vg)).toArray 38,aZ 3 1 Fm of.length (of.flatMap cK.dQ),GR (bO (bO fP)) Fn [ap an N.length cn] N,aZ 3 1 o_ tags.length (tags.flatMap cK.dQ),aZ 140 2 vq k gH.flatten,eh oR F gH (aF.take k)]) (λ(k,_,_,_)=>aF.length-k) (0,ap ak 0 0,[],λ_=>False) ⟨bH _,rfl,rfl⟩ ?_
 rintro⟨k,vq,gH,F⟩ ⟨i1,i2,i3⟩;dsimp only at i1 i2 i3⊢
 by_cases c6:k<aF.length
 ·obtain⟨b,off,rfl,_,hr⟩:=oT J
  obtain⟨bb,cb,q1,q2,q3⟩:=ma hr c6;have dy:∀(L:List b9) (j:Nat) (v:Value),([av az aF[k].1,.slice bb aF[k].2.length cb]:List Value)[j]?=aj v->At w L ⟨b,off+k*2+j,ak⟩ v:=λL j v hj=>jc q1 hj;have PH:=(hps aF[k] (b_ c6)).1;have pq:aF.take (k+1)=aF.take k++[aF[k]]:=gX c6;clear hr oT q1 hps;generalize aF[k]=p at*;obtain⟨hd,body⟩:=p;have ajx:=q3.okp;have jW:=λw' (hg:Gr w w')=>CN (ap bb body.length cb) body w' ((q3.flat akh).gr hg) (by dsimp only at PH;omega);dsimp only at*
  repeat(first|refine GA ?_|refine gV (aY bM.eq aK.ty I I c6) ?_|refine gV (bm aK.ty I I (dy _)) ?_)
  clear dy;refine a8 I λg5=>?_;refine ij 8 ?_;refine zL ?_
  try refine GA ?_
  refine dT ([aP g5 #[av az hd,ap bb body.length cb] 140]) (.calm 0 (.calm 1 (.calm 3 (.calm 4 (.calm 5 (.calm 6 (.two 2 (.one 7 (.calm 8 (.one 9 (.one 10 (.calm 11 (.calm 12 (.one 13 (.done)))))))) 7 (.calm 8 (.two 2 (.one 9 (.one 10 (.calm 11 (.calm 12 (.one 13 (.done)))))) 9 (.one 2 (.one 10 (.calm 11 (.calm 12 (.one 13 (.done))))))))))))))) (bX [8]) ?_
  repeat(first|refine GW ?_|(refine GN ?_;first|refine QW (aB aK.ty I (aH (i:=0) I I)) ?_))
  refine eK I I ?wa ?wb
  case' wa=>
   refine dx (aB (v:=vq) aK.ty I (aH (i:=2) I (je 2 (Lk _ _) I I))) I I I (aM (bX [8]) ?_);refine aL I ?_
  all_goals
   refine aV (i_ aI.en I I) (λw hm=>jW _ hm.below) I I I ?_;intro vb _;refine zL ?_;refine n9 (i:=9) I λb2 c2 AM e1 e2=>?_;subst AM;refine aM (bX [8]) ?_
   repeat(first|refine GW ?_|(refine GN ?_;first|refine QW (bD I (Qf _ _ _ _)) ?_))
  case' wa=>refine aL I (fN (cs:=#[av az hd,ap b2 body.length c2]) I I I I I λg9=>aM (bX [8]) ?_)
  case' wb=>refine eK I I ?wc ?wd
  case' wc=>
   refine dx (aB (v:=vq) aK.ty I (aH (i:=2) I (je 2 (Lk _ _) I I))) I I I (aM (bX [8]) ?_);refine aL I (fN (cs:=#[av az hd,ap b2 body.length c2]) I I I I I λg9=>aM (bX [8]) ?_)
  case' wd=>
   refine fN (cs:=#[av az hd,ap b2 body.length c2]) I I I I I λg9=>aM (bX [8]) ?_;refine aL I (dx (aB (v:=vq) aK.ty I (aH (i:=2) I (je 2 (Lk _ _) I I))) I I I (aM (bX [8]) ?_))
  all_goals
   refine aL I (mX (i:=6) (q:=10) I I I I I I J J I λvq2=>aM (bX [8]) ?_)
   try refine GW ?_
   refine aL I (aW (i:=6) I λpf mY=>eo (i:=2) 2 I I I pf mY I (Lk _ _) I (aM (bX [8]) ?_))
   try refine GW ?_
   refine oZ (eh oR (λk=>F k\/(ap b2 body.length c2).ownBlock=aj k) (gH++[[av az hd,ap b2 body.length c2]]) (aF.take k++[(hd,body)])) 9 7 [0,1,2,3,4,5,6] akh I I I (λk hk=>hk.elim (λh=>by cases h) λh=>h.elim (λh=> .inr (.inr h)) λh=> .inl (.inl h)) (λw hr he=>?_) ?_
   ·exact mZ he (B_ q2 ajx hr) λk hk=>(aZ 148 2 (ap b2 body.length c2) body.length (body.flatMap eC)).lt w hr k (.inl hk)
   try refine GA ?_
   exact bT (k+1,vq2,gH++[[av az hd,ap b2 body.length c2]],λk=>F k\/(ap b2 body.length c2).ownBlock=aj k) ⟨by omega,pf,mY⟩ (by show aF.length-(k+1)<aF.length-k;omega) (hl:=by rw[pq,rC];rfl)
 ·obtain rfl:k=aF.length:=by omega
  rw[fU (bz _)]
  repeat(first|refine GA ?_|refine gV (aB (v:=vr) aK.ty I (aH (i:=0) I (je 4 dX I I))) ?_)
  refine aV (i_ aI.en I I) (λw hm=>hcR _ hm.below) I I I ?_;rintro⟨CQ,Fr'⟩ ⟨ar,cr,ur⟩;dsimp only at ur;subst ur
  conv=>arg 8;simp only[zJ,cI,ret,id_eq,CD]
  try refine GA ?_
  refine eo (i:=2) 4 I I I I I I (Lk _ _) I ?_;refine zL ?_
  try refine GA ?_
  refine dT ([aP g1 (jE vo (fc o vn vt) (fQ gt gn (ap bp aF.length cp) mode vr va vg)).toArray 38]) (.calm 0 (.calm 1 (.calm 2 (.calm 4 (.calm 5 (.calm 6 (.one 3 (.one 7 (.calm 8 (.calm 9 (.one 10 (.done)))))))))))) (bX [0]) ?_
  repeat(first|refine GW ?_|(refine GN ?_;first|refine QW (aB (v:=va) aK.ty I (aH (i:=0) I (je 5 dX I I))) ?_|refine QW (aB (v:=vg) aK.ty I (aH (i:=0) I (je 6 dX I I))) ?_))
  refine aL I ?_;refine aV (i_ aI.en I I) (λw hm=>hcA _ hm.below) I I I ?_;rintro⟨va',Fa'⟩ ⟨aa,ca,ua⟩;dsimp only at ua;subst ua
  conv=>arg 8;simp only[zJ,cI,ret,id_eq,CD]
  refine aM (bX [0]) ?_
  try refine GW ?_
  refine aL I ?_;refine aV (i_ aI.en I I) (λw hm=>hcG _ hm.below) I I I ?_;rintro⟨vg',Fg'⟩ ⟨ag,cg,ug⟩;dsimp only at ug;subst ug
  conv=>arg 8;simp only[zJ,cI,ret,id_eq,CD]
  refine aM (bX [0]) ?_
  repeat(first|refine GW ?_|(refine GN ?_;first|refine QW (bD I (OA _ _ _ _ _ _)) ?_))
  refine aL I (iW (i:=2) 5 (cs:=[ap aa A.length ca,ap ag G.length cg]) (tl':=fQ gt gn vq mode (ap ar rows.length cr) (ap aa A.length ca) (ap ag G.length cg)) I I I I I I (Lk _ _) I I ?_);refine zL ?_;refine aM (bX [0]) ?_
  try refine GW ?_
  repeat(first|refine GA ?_|refine gV (aO (i:=2) aK.ty I I (hsz _ _ _ _ _ _ _ _ _ _ _)) ?_)
  refine aW (i:=3) I λ_ w1=>aW (i:=5) I λ_ w2=>?_;have qz:(jE Fm (fc o (ap an N.length cn) o_) (fQ gt gn vq mode (ap ar rows.length cr) (ap aa A.length ca) (ap ag G.length cg))).toArray.toList.all eY=true:=rG w1 (Uk I w2) (by simp only[fQ,cY,c_,i3];rfl);refine aX (i:=1) (cs':=(jE Fm (fc o (ap an N.length cn) o_) (fQ gt gn vq mode (ap ar rows.length cr) (ap aa A.length ca) (ap ag G.length cg))).toArray) I I I (hsz _ _ _ _ _ _ _ _ _ _ _) qz (kW ju I) ?_;refine zL ?_;refine pF (oL (X_ F vq) vq aF) 6 7 [1,3,4,5,8,9,10] akh I I I (λk hk=>hk.elim (λh=>by cases h) λh=>h.elim (λh=> .inr (.inr h)) λh=> .inl (.inl h)) (λw hr he=>?_) ?_;exact⟨⟨vq,rfl,yq (s:=oR) hr he akh⟩,yr hr he⟩
  try refine GA ?_
  exact fZ (i:=0) I I I (hsz _ _ _ _ _ _ _ _ _ _ _) λw hm=>hm.meets (S:=cpS ⟨of,o,N,tags,⟨gt,gn,aF⟩,mode,rows,A,G⟩) ⟨Fm,(_,Fn),o_,(vq,X_ F vq),(_,Fr'),(_,Fa'),(_,Fg')⟩ qz [1,2,3,7,4,5,6] akh I
end bZ
namespace bZ
open Go.RowKit cK dS aU dL eO hY gZ bJ jG ft cD
theorem Dy{place:Nat->Option (Nat×Nat)}{i m:Nat}{C T T' a:List Value}{v:Value}{rest:List (Nat×Value)}(j:Nat)(hC:C.length=266)(h0:place i=aj (266+j,m))(hv:v.cells=a.toArray)(ha:a.length=m)(hc:Nat.ble (j+m) T.length=aC)(he:T.take j++a++T.drop (j+m)=T'):j_ place (C++T).toArray ((i,v)::rest)=j_ place (C++T').toArray rest:=by
 subst ha he;have hc:=k8 hc;have:=Gv (266+j) a 0 (C++T) (by rw[bI];omega);rw[iu]at this;rw[j_,h0];show(if _ then ak else _)=_
 rw[if_neg (by simp[hv];omega)]
 congr 1
 rw[show 266+j=C.length+j by omega,List.take_length_add_append,show C.length+j+a.length=C.length+(j+a.length)by omega,List.drop_length_add_append]at this;rw[<-dZ,<-dZ,<-this,<-abx];simp[hv,hC]
def abB:List Value:=([ap ak 0 0]:List Value)++cL 256 (av .u8 0)++([ap ak 0 0,ap ak 0 0,av az 0,av az 0,ap ak 0 0,av az 0,ap ak 0 0,ap ak 0 0,ap ak 0 0]:List Value)
def ait:List Value:=rK (oP 0 0) (ap ak 0 0) [ap ak 0 0,av az 0,av az 0,.bool aE,ap ak 0 0,av az 0,av az 0,.bool aE] (ap ak 0 0)
theorem abC:abB.length=266:=by
 unfold abB;rw[bI,bI,List.length_replicate];rfl
set_option maxRecDepth 100000 in
theorem Wt{vo vc vs:Value}{pk tl:List Value}(x y:Int)(dX:pk.length=258)(htl:tl.length=7)(w:World):(df 168 #[(0,aQ (jE vo pk tl).toArray),(1,av az x),(2,av az y),(10,t_ vc 0 0 aE),(11,wL vs 0 0 aE)]).run aD w= .ok (aQ (jE vo pk (tl++rK (oP x y) (ap ak 0 0) [vc,av az 0,av az 0,.bool aE,vs,av az 0,av az 0,.bool aE] (ap ak 0 0))).toArray) w:=by
 have hz:(zeroValue 168).run aD w= .ok (aQ (abB++ait).toArray) w:=by kernel_rfl
 have hu:∃fields,(underlying 168).run aD w= .ok (.struct fields) w/\(fields.mapM λf=>do pure (f.offset,<-sizeOf f.type):Sem (Array (Nat×Nat))).run aD w= .ok #[(0,266),(266,1),(267,1),(268,1),(269,1),(270,1),(271,1),(272,3),(275,1),(276,1),(277,4),(281,4),(285,3),(288,1),(289,1),(290,1)] w:=⟨_,rfl,by kernel_rfl⟩;obtain⟨fields,hu,hp⟩:=hu;have hl:(jE vo pk tl).length=266:=by rw[jE,db,bI];omega
 refine Sh hz hu hp ?_;show j_ _ (abB++ait).toArray [(0,aQ (jE vo pk tl).toArray),(1,av az x),(2,av az y),(10,t_ vc 0 0 aE),(11,wL vs 0 0 aE)]=_
 have hz:=abC;generalize abB=Z at*;rw[Wq (m:=266) I hl (by rw[bI];omega),List.take_zero,eI,cX,List.drop_append,ir (Nat.le_of_eq hz),hz,Nat.sub_self,List.drop_zero,eI];rw[Dy (m:=1) (a:=[av az x]) 0 hl I I I I I,Dy (m:=1) (a:=[av az y]) 1 hl I I I I I,Dy (m:=4) (a:=[vc,av az 0,av az 0,.bool aE]) 11 hl I I I I I,Dy (m:=4) (a:=[vs,av az 0,av az 0,.bool aE]) 15 hl I I I I I];rw[j_];simp[jE];rfl
structure adW where
 g:Nat
 y:MkX
 up:Value
 uq:Value
abbrev adW.L(z:adW)(b:Bool)(m:Md)(s:e9)(ut up uw:Value):List b9:=ft b z.g z.y.vo (fc m.o z.y.vn z.y.vt) (fQ m.g.aT m.g.bC z.y.vp m.mode z.y.vr z.y.va z.y.vg) s ut up z.uq uw
def OB(b:Bool)(m:Md)(x y:Int):Spec adW:=⟨λz=>Wn m z.y,λz=> .tuple #[aJ (aj ⟨z.g,0,ak⟩),av az 0],λz=>z.L b m (oP x y) (ap ak 0 0) z.up (ap ak 0 0)++[oC z.y.Ls]⟩
def agu(b:Bool)(m:Md)(x y:Int):Spec (Nat×CpX×Value×Value):=⟨λz=>((z.2.1.mk' []).cells m).toArray.toList.all eY=aC,λz=> .tuple #[aJ (aj ⟨z.1,0,ak⟩),av az 0],λz=>(⟨z.1,z.2.1.mk' [],z.2.2.1,z.2.2.2⟩:adW).L b m (oP x y) (ap ak 0 0) z.2.2.1 (ap ak 0 0)++z.2.1.L m⟩
attribute [local irreducible] Instr.build in
set_option maxRecDepth 100000 in
theorem adX(v:Value)(m:Md)(b:Bool)(T N:Nat){vo vn vt vp vr va vg:Value}(x y:Int)(hx0:0<=x)(kz:x<=4096)(hy0:0<=y)(hy1:y<=1000)(w:World)(h:CY w v m vo vn vt vp vr va vg)(hk:iA m b T N)(hs:Ws m):
 Calls aD 25 #[v,av az x,av az y] w (bY (agu b m x y) w):=by
 have dX:(fc m.o vn vt).length=258:=fj _ _ _;have hrt:=λw' (hw:Gr w w')=>KW v m w' (h.gr hw) hk.toMdGood;have JN:=λw' (hw:Gr w w')=>Lj v m w' (h.gr hw) hs hk.BQ hk.rv;have hbs:=λ(vo vn vt vp vr va vg vc vs:Value)=>Wt (vo:=vo) (pk:=fc m.o vn vt) (tl:=fQ m.g.aT m.g.bC vp m.mode vr va vg) (vc:=vc) (vs:=vs) x y (fj _ _ _) I;obtain rfl:=h.val;clear h hk hs;refine enter (args:=[aQ (jE vo (fc m.o vn vt) (fQ m.g.aT m.g.bC vp m.mode vr va vg)).toArray,av az x,av az y]) (n:=36) Tryz.func25 I I I ?_;refine bW (bB (bP I I I λg1=>?_));refine zL ?_
 repeat(first|refine GA ?_|refine gV (aO (i:=0) aK.ty I I (kW dX I)) ?_)
 refine aV (i_ aI.en I I) (λw hm=>hrt _ hm.below) I I I ?_;intro _ _;refine zL ?_
 repeat(first|refine GA ?_|refine gV (aO (i:=0) aK.ty I I (kW dX I)) ?_)
 refine aV (i_ aI.en I I) (λw hm=>JN _ hm.below) I I I ?_;intro c hc
 conv=>arg 8;simp only[zJ,cI,ret,id_eq,cpS,CpX.L]
 conv=>arg 7;simp only[cpS,CpX.mk',MkX.cells]
 try refine GA ?_
 refine aV (he0 aI.en I) (λw hm=>BM w) I I I ?_;intro vc _
 conv=>arg 8;simp only[zJ,cI,ret,id_eq,Dr]
 conv=>arg 7;simp only[Dr]
 try refine GA ?_
 refine aV (he0 aI.en I) (λw hm=>Hb w) I I I ?_;intro vs _
 conv=>arg 8;simp only[zJ,cI,ret,id_eq,Dp]
 conv=>arg 7;simp only[Dp]
 repeat(first|refine GA ?_|refine gV (bD I (hbs _ _ _ _ _ _ _ _ _)) ?_)
 refine bP I I I λg2=>?_;refine zL ?_
 try refine GA ?_
 refine qM (toP (ap ak 0 0) []) (λk hk=>hk.elim (λh=>by cases h) id) (λw=>⟨rfl,.inl ⟨rfl,rfl⟩⟩) ?_;refine dN 55 2 ?_
 cases b with
 |true=>exact sS I I I λw hm=>hm.meets (S:=agu aC m x y) (g2,c,vc,vs) hc [10,11,8,12,1,2,3,4,5,6,7] akh I
 |false=>exact sS I I I λw hm=>hm.meets (S:=agu aE m x y) (g2,c,vs,vc) hc [10,11,9,12,1,2,3,4,5,6,7] akh I
theorem BW(v:Value)(m:Md)(b:Bool)(T N:Nat){vo vn vt vp vr va vg:Value}(x y:Int)(hx0:0<=x)(kz:x<=4096)(hy0:0<=y)(hy1:y<=1000)(w:World)(h:CY w v m vo vn vt vp vr va vg)(hk:iA m b T N)(hs:Ws m):
  Calls aD 25 #[v,av az x,av az y] w (bY (OB b m x y) w):=
 (adX v m b T N x y hx0 kz hy0 hy1 w h hk hs).mono λe w' hm=>hm.to (OB b m x y) λz hz=>by
  obtain⟨g,c,up,uq⟩:=z;obtain⟨b1,b2,b3,b4,b5,_⟩:=cV hk.BQ;exact⟨⟨g,c.mk' (c.L m),up,uq⟩,⟨λw hb=>agt (xl hb) ⟨by omega,by omega⟩ ⟨by omega,by omega⟩,hz⟩,rfl,λw' ho=>ez.Sc ho⟩
theorem Gx{s:Sp}{r:Int×List Row×List Int}(hx:R8 s r)(h:(AP s r.1).1=0):Ws (tQ s r):=by
 obtain⟨b,T,N,hf⟩:=Gs hx h;have ok:=sv hf.mw;obtain⟨b1,b2,b3,b4,b5,_⟩:=cV hf.BQ;have hN:∀r'∈(tQ s r).N,r'.length<=1000000:=λr' hr=>by
  obtain⟨i,hi,rfl⟩:=iB.1 hr;have:=ok.row i hi;have:=ok.w1;omega
 have hm:((tQ s r).mode=1/\(tQ s r).A=[]/\(tQ s r).G=[])\/((tQ s r).mode=2/\(tQ s r).rows=[]):=by
  unfold tQ;split;exact .inl ⟨rfl,rfl,rfl⟩;exact .inr ⟨rfl,rfl⟩
 have oD:=hf.md;have htl:(tQ s r).tags.length<=1000000:=by have:=ok.len;have:=ok.le;omega
 cases b with
 | true=>
  rcases hm with⟨_,h1,h2⟩|⟨h1,_⟩
  ·obtain⟨_,ht⟩:=hf.ll rfl
   have e1:=ht.aT;have e2:=ht.bC;refine⟨by have:=ok.le;omega,hN,htl,by rw[ht.len];omega,λr hr=>by rw[ht.row r hr];omega,by rw[h1];simp,by rw[h1];simp,by rw[h2];simp,by rw[h2];simp⟩
  rw[h1]at oD;exact absurd oD akh
 | false=>
  rcases hm with⟨h1,_⟩|⟨_,h1⟩
  rw[h1]at oD;exact absurd oD akh;have ht:=hf.lr I;have e1:=ht.aT;have e2:=ht.bC;have e3:=ht.we;have e4:=ht.same;refine⟨by have:=ok.le;omega,hN,htl,by rw[h1];simp,by rw[h1];simp,by omega,λr hr=>?_,by omega,λr hr=>?_⟩
  ·obtain⟨i,hi,rfl⟩:=iB.1 hr
   rw[ht.wA i hi];omega
  obtain⟨i,hi,rfl⟩:=iB.1 hr;rw[ht.wG i hi];omega
end bZ
namespace bZ
open Go.RowKit cK dS aU dL eO hY gZ bJ jG ft cD
open gK (Ev qG takeN)
theorem CE{P:Program}{f:FuncId}{args:Array Value}{w:World}{ι κ:Type}{S:Spec ι}{S':Spec κ}{W:bL}{L Lx R:List b9}(hm:Mem W L w)(is js:List Nat)(hn2:(is++js).Nodup)(hlx:Lx=is.filterMap λi=>L[i]?)(Pp:R=js.filterMap λi=>L[i]?)(hc:∀B,Mem B Lx w->Calls P f args w (da S B))
 (hS:∀x,S.ok x->∃y,S'.ok y/\S'.val y=S.val x/\∃qs:List Nat,qs.Nodup/\S'.own y=qs.filterMap λi=>(R++S.own x)[i]?):Calls P f args w (da S' W):=by
 have XD:Mem W (Lx++R) w:=hm.pick (is++js) hn2 (yl hlx Pp);have hm3:Mem W Lx w:=hm.pick is (List.nodup_append.1 hn2).1 hlx;refine(hc _ hm3.over).mono λe w' ⟨x,h1,h2,h3⟩=>?_;obtain⟨y,k1,k2,qs,k3,k4⟩:=hS x h1;exact⟨y,k1,by rw[h2,k2],(XD.back h3).pick qs k3 k4⟩
theorem Gy{W:bL}{L Lx Ls:List b9}{w:World}{φ:World->Prop}(hm:Mem W L w)(is:List Nat)(i:Nat)(hn:(is++[i]).Nodup)(hlx:Lx=is.filterMap λi=>L[i]?)(hi:L[i]?=aj (oC Ls))(hφ:∀w,(oC Ls).holds w->φ w):oB (bL.on w Lx) φ:=λL' w' h'=>
 hφ w' (((hm.pick (L':=Lx++[oC Ls]) (is++[i]) hn (yl hlx (by simp[hi]))).back h').get (i:=0) I)
structure OC(s' s:e9):Prop where
 eb:s'.eb=s.eb
 p:s'.p=s.p
 par:∀b vp vq,jk b s' vp vq=jk b s vp vq
theorem OC.self(s:e9):OC s s:=⟨rfl,rfl,λ_ _ _=>rfl⟩
theorem OD(s:e9)(e:Int)(pl:Nat):OC (xi s e pl) s:=⟨rfl,rfl,λ_ _ _=>rfl⟩
theorem Wu(s:e9)(x:List UInt8):OC (kF s x).1 s:=by
 unfold kF;split;exact .self s;split;exact .self s;split;exact OD _ _ _;exact⟨rfl,rfl,λ_ _ _=>rfl⟩
theorem Si(s:e9):OC (iV s).1 s:=by
 unfold iV;split;exact .self s;exact⟨rfl,rfl,λ_ _ _=>rfl⟩
theorem Sj(s:e9)(n:Int):OC (rJ s n).1 s:=by
 unfold rJ;split;exact .self s;split;exact .self s;exact⟨rfl,rfl,λ_ _ _=>rfl⟩
theorem Wv(s:e9)(n:Int):OC (dI s n).1 s:=by
 unfold dI;split;exact .self s;exact⟨rfl,rfl,λ_ _ _=>rfl⟩
section
variable{b:Bool}{g:Nat}{vo:Value}{pk md:List Value}{ut up uq uw:Value}{m:Md}(dX:pk.length=258)(oD:md.length=7)
include dX oD
def wU(b:Bool)(g:Nat)(vo:Value)(pk md:List Value)(s':e9)(v:Value)(ut up uq:Value):Spec Value:=⟨λ_=>True,λ_=>v,λvw=>ft b g vo pk md s' ut up uq vw⟩
omit dX oD in
theorem Sk{f:FuncId}{args:Array Value}{w:World}{B:bL}{s s':e9}{v:Value}(hm:Mem B (ft b g vo pk md s ut up uq uw) w)(hk:OC s' s)(hc:∀B,Mem B (xF g vo pk md s ut (jk b s up uq) uw) w->Calls aD f args w (da ⟨λ(_:Value)=>True,λ_=>v,λvw=>xF g vo pk md s' ut (jk b s up uq) vw⟩ B)):Calls aD f args w (da (wU b g vo pk md s' v ut up uq) B):=by
 refine CE hm [0,3] [1,2] akh I I hc λx _=>⟨x,trivial,rfl,[2,0,1,3],by decide,?_⟩;simp only[wU,ft,hk.par,hk.eb,hk.p];rfl
theorem xZ(s:e9)(hs:gT m b s)(x:List UInt8)(hx:x.length<=9223372036854775807)(w:World)(B:bL)(hm:Mem B (ft b g vo pk md s ut up uq uw) w):
 Calls aD 27 #[aJ (aj ⟨g,0,ak⟩),str x] w (da (wU b g vo pk md (kF s x).1 (av az (kF s x).2) ut up uq) B):=
 Sk hm (Wu s x) λB hm=>K7 dX oD (sC b s up uq) s x hx hs.jU hs.we (by have:=hs.jV;omega) w B hm
theorem AL(s:e9)(w:World)(B:bL)(hm:Mem B (ft b g vo pk md s ut up uq uw) w):
 Calls aD 28 #[aJ (aj ⟨g,0,ak⟩)] w (da (wU b g vo pk md (iV s).1 (av az (iV s).2) ut up uq) B):=
 Sk hm (Si s) λB hm=>Oj dX oD (sC b s up uq) s w B hm
theorem wV(s:e9)(hs:gT m b s)(n:Int)(w:World)(B:bL)(hm:Mem B (ft b g vo pk md s ut up uq uw) w):
 Calls aD 26 #[aJ (aj ⟨g,0,ak⟩),av az n] w (da (wU b g vo pk md (rJ s n).1 (av az (rJ s n).2) ut up uq) B):=
 Sk hm (Sj s n) λB hm=>Hl dX oD (sC b s up uq) s n (AJ hs) w B hm
def OE(b:Bool)(g:Nat)(vo:Value)(pk md:List Value)(R:e9×List Ev)(ut up uq:Value):Spec (Value×Value):=⟨λ_=>True,λx=>x.2,λx=>ft b g vo pk md R.1 ut up uq x.1++[jY x.2 R.2]⟩
theorem x6(s:e9)(hs:gT m b s)(n:Int)(w:World)(B:bL)(hm:Mem B (ft b g vo pk md s ut up uq uw) w):
 Calls aD 30 #[aJ (aj ⟨g,0,ak⟩),av az n] w (da (OE b g vo pk md (dI s n) ut up uq) B):=by
 have hk:=Wv s n;refine CE hm [0,3] [1,2] akh I I (λB hm=>La dX oD (sC b s up uq) s n (AJ hs) w B hm) λx _=>⟨x,trivial,rfl,[2,0,1,3,4],by decide,?_⟩;simp only[OE,ft,hk.par,hk.eb,hk.p];rfl
theorem sD(s:e9)(hs:gT m b s)(B:bL)(w:World)(hm:Mem B (ft b g vo pk md s ut up uq uw) w):
 Calls aD 31 #[aJ (aj ⟨g,0,ak⟩)] w (bY (ret (.tuple #[av az (wQ s).1,av az ((wQ s).2.1:Int),.bool (wQ s).2.2])) w):=by
 obtain⟨a2,c2,e2⟩:=K' (hm.get (i:=3) rfl);exact C0 dX oD (sC b s up uq) s ⟨a2,c2,e2⟩ (by have:=hs.wl;omega) w (hm.get (i:=0) I)
end
end bZ
namespace bZ
open Go.RowKit cK dS aU dL eO hY gZ bJ jG ft cD de
open gK (Ev qG takeN)
theorem agv{P:Program}{n:Nat}{W:bL}{fr:Fr}{L:List b9}{fn:Func}{R:Ending->World->Prop}{t u s r:Tmp}{v z y x:Value}(mO:fn.results=#[.tmp t,.tmp u,.tmp s,.tmp r])(hv:look fr t=aj v)(hz:look fr u=aj z)(hy:look fr s=aj y)(hx:look fr r=aj x)(h:∀w,Mem W L w->R (.returned (.tuple #[v,z,y,x])) w):E n W .ret (bodyPost P fn R) fr L:=
 B1 λa w hr hm=>⟨_,by simp[results,mO,Array.getD_eq_getD_getElem?,hr.get t v hv,hr.get u z hz,hr.get s y hy,hr.get r x hx],h w hm⟩
theorem aeE(n k:Int)(hk:k=50\/k=70)(w:World):(binOp .rem 3 (av az n) (av az k)).run aD w= .ok (av az (n.tmod k)) w:=by
 rcases hk with rfl|rfl<;>simp[binOp,Op.intDiv]
theorem aiu(i k:Nat)(hk:0<k)(w:World):(binOp .rem 3 (av az (i:Int)) (av az (k:Int))).run aD w= .ok (av az ((i %k:Nat):Int)) w:=by
 have h1:(k:Int)≠0:=by omega
 simp[binOp,Op.intDiv,h1];rw[if_neg J,Int.tmod_eq_emod_of_nonneg J]
theorem agw(n k:Int)(hk:k=50\/k=70):n.tmod k<=9223372036854775807:=by
 have:=Int.tmod_lt_of_pos n (show(0:Int)<k by omega);omega
def adY(m:Md)(b:Bool)(l:List (List UInt8))(k:Nat):Spec (Value×List Ev×Int×Nat):=⟨λx=>ain m b l.flatten x.2/\(k=0->ui m b (Oh l) [] x.2),λx=> .tuple #[x.1,av az x.2.2.1,av az (x.2.2.2:Int),.bool aC],λx=>[jY x.1 x.2.1]⟩
set_option maxRecDepth 100000 in
theorem Ww(y:MkX)(m:Md)(b:Bool)(T N:Nat)(hk:iA m b T N)(hs:Ws m)(vl:Value)(l:List (List UInt8))(vw:Value)(ws:List Int)(w:World)(hy:CY w (aQ (y.cells m).toArray) m y.vo y.vn y.vt y.vp y.vr y.va y.vg)(hl:Sl w vl l.length (l.map str))(hw:Sl w vw ws.length (ws.map (.int .i64)))(h1:∀x∈l,x.length<=1024)(h2:l.flatten.length<=4096):
 Calls aD 33 #[aQ (y.cells m).toArray,vl,vw] w (bY (adY m b l ws.length) w):=by
 have OF:=λw' (hg:Gr w w')=>BW (aQ (y.cells m).toArray) m b T N 4096 1000 akh akh akh akh w' (hy.gr hg) hk hs;obtain⟨bl,cl,rfl,PB,HJ,Y4⟩:=hl;obtain⟨bw,cw,rfl,hw1,hw2,hw3⟩:=hw;unfold maxLen at HJ hw2;refine enter (args:=[aQ (y.cells m).toArray,ap bl l.length cl,ap bw ws.length cw]) (n:=88) Tryz.func33 I I I ?_;refine bW (bB (bP I I I λg3=>?_));refine zL ?_
 repeat(first|refine GA ?_|refine gV (aO (i:=0) aK.ty I I (sB y m)) ?_)
 refine aV (sV aI.en I I I I) (λw' hm=>OF w' hm.below) I I I ?_;clear OF;rintro⟨gs,z,up,uq⟩ hz;have hz:Wn m z:=hz
 conv=>arg 8;simp only[zJ,cI,ret,id_eq,OB]
 conv=>arg 7;simp only[OB]
 refine zv [5,1,2,3,4] ?_;refine zL ?_;have dX:(fc m.o z.vn z.vt).length=258:=fj _ _ _;have abD:=KZ hk (x:=4096) (y:=1000) akh akh akh akh;have Hc:=λB w' hm=>wV (g:=gs) (vo:=z.vo) (md:=fQ m.g.aT m.g.bC z.vp m.mode z.vr z.va z.vg) (ut:=ap ak 0 0) (up:=up) (uq:=uq) (uw:=ap ak 0 0) dX I (oP 4096 1000) abD 1073741824 w' B hm;rw[K4]at Hc;have h0:=aim hk;have xt:(iV (l.foldl (λs x=>(kF s x).1) {oP 4096 1000 with cr:=1073741824})).1=Oh l:=rfl;have hda:=λs' (h1:gT m b s') x hx ut up uw w' B hm=>xZ (m:=m) (b:=b) (g:=gs) (vo:=z.vo) (md:=fQ m.g.aT m.g.bC z.vp m.mode z.vr z.va z.vg) (ut:=ut) (up:=up) (uq:=uq) (uw:=uw) dX I s' h1 x hx w' B hm;have To:=λs' h1 n qA ut up uw w' B hR hm=>AK (aQ (z.cells m).toArray) m (vo:=z.vo) (vn:=z.vn) (vt:=z.vt) (vp:=z.vp) (vr:=z.vr) (va:=z.va) (vg:=z.vg) (ut:=ut) (up:=up) (uq:=uq) (uw:=uw) b T N hk gs s' h1 n qA w' B hR hm;have WI:=λs' (h1:gT m b s') n ut up uw w' B hm=>x6 (m:=m) (b:=b) (g:=gs) (vo:=z.vo) (md:=fQ m.g.aT m.g.bC z.vp m.mode z.vr z.va z.vg) (ut:=ut) (up:=up) (uq:=uq) (uw:=uw) dX I s' h1 n w' B hm;have Bm:=λs' ut up uw w' B hm=>AL (b:=b) (g:=gs) (vo:=z.vo) (md:=fQ m.g.aT m.g.bC z.vp m.mode z.vr z.va z.vg) (ut:=ut) (up:=up) (uq:=uq) (uw:=uw) dX I s' w' B hm;have hve:=λs' (h1:gT m b s') ut up uw B w' hm=>sD (m:=m) (b:=b) (g:=gs) (vo:=z.vo) (md:=fQ m.g.aT m.g.bC z.vp m.mode z.vr z.va z.vg) (ut:=ut) (up:=up) (uq:=uq) (uw:=uw) dX I s' h1 B w' hm;have adZ:=hz.mdr;have hwS:=λs' out X (h:nY m b s' out X) k=>h.agi hk k;have eP:=λs' out X (h:nY m b s' out X) he=>h.round hk he;clear abD hz hs hk;generalize fc m.o z.vn z.vt=PK at*;generalize fQ m.g.aT m.g.bC z.vp m.mode z.vr z.va z.vg=MT at*
 repeat(first|refine GC ?_|refine gV (dl (b:=aE) I I (decide_eq_false akh)) ?_|refine GB ?_)
 refine bx [1,2,3,4] [0] akh I I (fB aI.en I I I) (λw hm hb=>Hc _ w hb) I I I ?_;intro u1 _
 conv=>arg 8;simp only[zJ,cI,ret,id_eq,wU]
 conv=>arg 7;simp only[wU]
 clear Hc
 try refine GA ?_
 refine jd 55 2 ?_
 conv=>arg 7;simp only[zA,zB,zC,zD,zE,zF,zG,zH,zI,cI,ret,id_eq]
 refine d_ (ι:=Nat×e9×List Ev×Value×Value×Value×Value) (λ(i,s',out,_)=>i<=l.length/\s'.ended=aE/\nY m b s' out (l.take i).flatten/\(ws.length=0->out=[]/\s'=(l.take i).foldl (λs x=>(kF s x).1) {oP 4096 1000 with cr:=1073741824})) (λ(i,_,_,v,_)=>[(2,ap bw ws.length cw),(6,v),(10,aJ (aj ⟨gs,0,ak⟩)),(26,ap bl l.length cl),(27,av az (l.length:Int)),(28,av az (i:Int))])
  (λ(_,s',out,v,ut,up,uw)=>[oC z.Ls]++ft b gs z.vo PK MT s' ut up uq uw++[jY v out]) (λ(i,_)=>l.length-i) (0,{oP 4096 1000 with cr:=1073741824},[],ap ak 0 0,ap ak 0 0,up,u1) ⟨bH _,rfl,h0,λ_=>⟨rfl,rfl⟩⟩ ?_
 ·clear h0
  rintro⟨i,s',out,v,ut,up,uw⟩ ⟨i1,i2,i3,i4⟩;dsimp only at i1 i2 i3 i4⊢;have hfw:=i3.we
  by_cases c1:i<l.length
  ·obtain⟨x,hxi⟩:∃x,x=l[i]:=⟨_,rfl⟩
   have kz:x.length<=1024:=by rw[hxi];exact h1 _ (b_ c1)
   have fO:(l.take (i+1)).flatten=(l.take i).flatten++x:=by rw[hxi,gX c1,rC,List.flatten_singleton]
   have hx4:l.take (i+1)=l.take i++[x]:=by rw[hxi,gX c1]
   have Y5:(l.take i).flatten.length+x.length<=4096:=by
    rw[<-bI,<-fO];have h3:(l.take (i+1)).flatten.length+(l.drop (i+1)).flatten.length=l.flatten.length:=by rw[<-bI,<-rC,List.take_append_drop]
    omega
   obtain⟨b0,off,rfl,hr⟩:=Y4 J;have dy:=λ(L:List b9)=>Jo (L:=L) hr c1;rw[<-hxi]at dy;clear hxi hr Y4;obtain⟨j1,j2⟩:=i3.data i2 kz Y5;have agx:=hda s' i3.x.ok x J ut up uw;clear hda;rw[<-fO]at j1;have j4:ws.length=0->out=[]/\(kF s' x).1=(l.take (i+1)).foldl (λs x=>(kF s x).1) {oP 4096 1000 with cr:=1073741824}:=λh=>⟨(i4 h).1,by rw[hx4,List.foldl_append,<-(i4 h).2];rfl⟩;clear i4;generalize kF s' x=D at*;obtain⟨s1,e1⟩:=D;dsimp only at j1 j2 j4 agx
   repeat(first|refine GA ?_|refine gV (bU bM.eq aK.ty I I c1) ?_|refine gV (aB aK.ty I (dy _)) ?_)
   refine bx [1,2,3,4] [0,5] akh I I (fB aI.en I I I) (λw hm hb=>agx w _ hb) I I I ?_;intro u1 _
   conv=>arg 8;simp only[zJ,cI,ret,id_eq,wU]
   conv=>arg 7;simp only[wU]
   clear agx
   by_cases c2:0<ws.length
   ·obtain⟨b2,Y2,rfl,hr⟩:=hw3 c2
    have c3:i %ws.length<ws.length:=Nat.mod_lt _ c2;have rm:=λ(L:List b9)=>Jo (L:=L) hr c3;have Tr:=aiu i ws.length c2;generalize ws[i %ws.length]=n at*;generalize i %ws.length=k at*;clear hr hw3;have WD:=aeE n 50 (.inl I);have ul:=aeE n 70 (.inr I);obtain⟨k1,k2⟩:=hwS s1 out _ j1 (n.tmod 50).toNat;have Hq:=To s1 j1.x.ok (n.tmod 50) (agw n 50 (.inl I)) ut up u1;clear To hwS;generalize ef m b (n.tmod 50).toNat s1=W at*;obtain⟨s2,n2⟩:=W;dsimp only at k1 k2 Hq;obtain⟨g1,g2,g3⟩:=k1.send (n.tmod 70);have Hr:=WI s2 k1.x.ok (n.tmod 70);clear WI;generalize dI s2 (n.tmod 70)=S at*;obtain⟨s3,o3⟩:=S;dsimp only at g1 g2 g3 Hr;have hf3:=g1.we;rw[bI]at hf3
    repeat(first|refine GA ?_|refine gV (mW I I Tr) ?_|refine gV (bU bM.eq aK.ty I I c3) ?_|refine gV (aB aK.ty I (rm _)) ?_|refine gV (mW I I WD) ?_)
    refine bx [2,3,4,5] [0,1] akh I I (fB aI.en I I I) (λw hm hb=>Hq w _ (Gy hm [2,3,4,5] 0 akh I I adZ) hb) I I I ?_;rintro⟨u2,u3,u4⟩ _
    conv=>arg 8;simp only[zJ,cI,ret,id_eq,wkS]
    conv=>arg 7;simp only[wkS]
    repeat(first|refine GA ?_|refine gV (mW I I Tr) ?_|refine gV (bU bM.eq aK.ty I I c3) ?_|refine gV (aB aK.ty I (rm _)) ?_|refine gV (mW I I ul) ?_)
    refine bx [2,3,4,5] [0,1] akh I I (fB aI.en I I I) (λw hm hb=>Hr _ _ _ w _ hb) I I I ?_;rintro⟨u5,vx⟩ _
    conv=>arg 8;simp only[zJ,cI,ret,id_eq,OE]
    conv=>arg 7;simp only[OE]
    try refine GA ?_
    refine FI (i:=1) (j:=6) I I I I (FJ _) J J I λv'=>?_;refine zL ?_
    try refine GA ?_
    refine dm [0,2,3,4,5,1] ?_;exact bT (i+1,s3,out++o3,v',u2,u3,u5) ⟨by show i+1<=l.length;omega,by show s3.ended=aE;rw[g2,k2,j2],g1,λh=>by omega⟩ (by show l.length-(i+1)<l.length-i;omega) (hl:=by dsimp only;rw[<-KN];rfl)
   try refine GA ?_
   refine dm [0,2,3,4,5,1] ?_;exact bT (i+1,s1,out,v,ut,up,u1) ⟨by show i+1<=l.length;omega,j2,j1,j4⟩ (by show l.length-(i+1)<l.length-i;omega)
  obtain rfl:i=l.length:=by omega
  rw[List.take_length]at i3 i4;clear hda Y4 hw3 c1 i1;have agy:=Bm s' ut up uw;obtain⟨j1,j2⟩:=i3.ended i2;have j4:∀r,ui m b (iV s').1 out r->(ws.length=0->ui m b (Oh l) [] r):=λr h h0=>by rw[<-xt,<-(i4 h0).2,<-(i4 h0).1];exact h
  clear Bm hwS xt i4;generalize iV s'=D at*;obtain⟨s1,e1⟩:=D;dsimp only at j1 j2 j4 agy
  try refine GA ?_
  refine bx [1,2,3,4] [0,5] akh I I (i_ aI.en I I) (λw hm hb=>agy w _ hb) I I I ?_;intro u1 _
  conv=>arg 8;simp only[zJ,cI,ret,id_eq,wU]
  conv=>arg 7;simp only[wU]
  clear agy
  try refine GA ?_
  refine d_ (ι:=e9×List Ev×Value×Value×Value×Value) (λ(s',out,_)=>(s'.ended=aC\/s'.over=aC)/\nY m b s' out l.flatten/\∀r,ui m b s' out r->(ws.length=0->ui m b (Oh l) [] r)) (λ(_,_,v,_)=>[(6,v),(10,aJ (aj ⟨gs,0,ak⟩))])
   (λ(s',out,v,ut,up,uw)=>[oC z.Ls,jY v out]++ft b gs z.vo PK MT s' ut up uq uw) (λ(s',_)=>xU s') (s1,out,v,ut,up,u1) ⟨j2,j1,j4⟩ ?_
  clear j1 j2 j4 i2 i3 hfw;rintro⟨s',out,v,ut,up,uw⟩ ⟨i2,i3,i4⟩;dsimp only at i2 i3 i4⊢;have l1:=λh=>i4 _ (ui.stop (m:=m) (b:=b) (s:=s') (out:=out) h);have l2:=λh r h2=>i4 r (ui.step (m:=m) (b:=b) (s:=s') (out:=out) (r:=r) h h2);obtain⟨k1,k2,k3,k4,k5⟩:=eP s' out _ i3 i2;have Hq:=To s' i3.x.ok 37 akh ut up uw;rw[show(37:Int).toNat=37 from I]at Hq;have Hr:=WI _ k1.x.ok 41;have hfw:=i3.we;clear To WI eP i2 i3 i4;generalize ef m b 37 s'=W at*;obtain⟨s2,n2⟩:=W;dsimp only at k1 k2 k3 k4 k5 l1 l2 Hq Hr;generalize dI s2 41=S at*;obtain⟨s3,o3⟩:=S;dsimp only at k2 k3 k4 k5 l1 l2 Hr;have hf3:=k2.we;rw[bI]at hf3
  try refine GA ?_
  refine bx [2,3,4,5] [0,1] akh I I (fB aI.en I I I) (λw hm hb=>Hq w _ (Gy hm [2,3,4,5] 0 akh I I adZ) hb) I I I ?_;rintro⟨u2,u3,u4⟩ _
  conv=>arg 8;simp only[zJ,cI,ret,id_eq,wkS]
  conv=>arg 7;simp only[wkS]
  try refine GA ?_
  refine bx [2,3,4,5] [0,1] akh I I (fB aI.en I I I) (λw hm hb=>Hr _ _ _ w _ hb) I I I ?_;rintro⟨u5,vx⟩ _
  conv=>arg 8;simp only[zJ,cI,ret,id_eq,OE]
  conv=>arg 7;simp only[OE]
  try refine GA ?_
  refine jJ (i:=6) I Zv λfJ=>?_;obtain⟨avl,cvl,rfl,ajy⟩:=fJ;refine FI (i:=1) (j:=6) I I I I (FJ _) J J I λv'=>?_;refine zL ?_;rw[KN]
  by_cases c0:n2=0/\o3.length=0
  ·obtain⟨f1,f2⟩:=k4 c0
   have l3:=l1 c0;obtain⟨c1,c2⟩:=c0;subst c1;obtain⟨r1,r2⟩:=k2.fin f1 f2;have abE:=hve s3 k2.x.ok;rw[r2]at abE
   repeat(first|refine GC ?_|refine gV (cZ (b:=aC) I I (decide_eq_true c2)) ?_|refine GB ?_)
   refine aV (i_ aI.en I I) (λw hm=>abE u2 u3 u5 _ w (hm.pick [2,3,4,5] akh I)) I I I ?_;intro _ _;refine zL ?_
   try refine GA ?_
   exact agv I I I I I λw hm=>hm.meets (S:=adY m b l ws.length) (v',out++o3,s3.e8,s3.pl) ⟨r1,l3⟩ [1] akh I
  by_cases c1:n2=0
  ·subst c1
   repeat(first|refine GC ?_|refine gV (cZ (b:=aE) I I (decide_eq_false λh=>c0 ⟨rfl,h⟩)) ?_|refine GB ?_)
   refine dm [0,1,2,3,4,5] ?_;exact bT (s3,out++o3,v',u2,u3,u5) ⟨k3,k2,l2 c0⟩ (k5 c0)
  repeat(first|refine GC ?_|refine gV (cZ (b:=aE) I I (decide_eq_false (show ¬(n2:Int)=0 by omega))) ?_|refine GB ?_)
  refine dm [0,1,2,3,4,5] ?_;exact bT (s3,out++o3,v',u2,u3,u5) ⟨k3,k2,l2 c0⟩ (k5 c0)
end bZ
namespace bZ
open Go.RowKit cK dS de gd hY aU cD gZ
theorem Mem.ad0{W:bL}{L R Ls L':List b9}{w:World}(hm:Mem W L w)(hl:L=R++[oC Ls])(h:∀w,Mem (bL.on w Ls) Ls w->Mem (bL.on w Ls) L' w):Mem W (R++L') w:=by
 subst hl;have hb:=hm.owns.all R.length (oC Ls) (by simp);have h7:=(h w (xl hb.1)).owns;have hf:∀(i:Nat) (o:b9),L'[i]?=aj o->∀k,o.e_ k->(oC Ls).e_ k:=λi o hi k hk=>by
  rcases(h7.all i o hi).2 k hk with a|a
  exact absurd (o.lt w (h7.all i o hi).1 k hk) (Nat.not_lt.2 a);exact .inr a
 have hR:∀(i:Nat) (o:b9),R[i]?=aj o->(R++[oC Ls])[i]?=aj o:=λi o hi=>by rw[iq (dg.1 hi).1];exact hi
 refine⟨hm.low,ez.both ⟨λi o hi=>hm.owns.all i o (hR i o hi),λi j o o' sE hi hj=>hm.owns.apart i j o o' sE (hR i o hi) (hR j o' hj)⟩ ⟨λi o hi=>⟨(h7.all i o hi).1,λk hk=>hb.2 k (hf i o hi k hk)⟩,h7.apart⟩ λi j o o' hi hj k hk lO=>?_⟩;exact hm.owns.apart i R.length o (oC Ls) (Nat.ne_of_lt (dg.1 hi).1) (hR i o hi) (by simp) k hk (hf j o' hj k lO)
theorem Sm{P:Program}{n:Nat}{W:bL}{fr:Fr}{L R Ls L':List b9}{Q:Exit->Act->World->Prop}{ops:Array Oper}{rest:List Oper}(hl:L=R++[oC Ls])(h:∀w,Mem (bL.on w Ls) Ls w->Mem (bL.on w Ls) L' w)(k:TL P n W ops Q rest fr (R++L')):TL P n W ops Q rest fr L:=
 ⟨λa w hr hm=>k.go a w hr (hm.ad0 hl h)⟩
section
variable{e:TypeId}{sz:Nat}{w:World}
theorem abF{v:Value}{n:Nat}{xs:List Value}(h:(aZ e sz v n xs).holds w):(xy e sz (λk=>v.ownBlock=aj k) [v]).holds w:=
 ⟨λu hu=>by obtain rfl:=dO.1 hu;exact QU h,λk hk=>(aZ e sz v n xs).lt w h k (.inl hk)⟩
def Sn(len:Nat)(f:Nat->b9)(k:Nat):Prop:=∃i,i<len/\(f i).e_ k
theorem Sq{len:Nat}{vs:Nat->Value}{nf:Nat->Nat}{xs:Nat->List Value}(h:(jB (λi=>i<len) λi=>aZ e sz (vs i) (nf i) (xs i)).holds w):(xy e sz (Sn len λi=>aZ e sz (vs i) (nf i) (xs i)) (jp len vs)).holds w:=by
 refine⟨λv hv=>?_,λk ⟨i,hi,hk⟩=>(aZ e sz (vs i) (nf i) (xs i)).lt w (h.1 i hi) k hk⟩;obtain⟨i,hi,rfl⟩:=eT.1 hv;have hi:i<len:=by simpa using hi
 exact(QU (h.1 i hi)).imp λg _ hp=>⟨⟨i,hi,.inl hp.1⟩,hp.2⟩
theorem ad1{F:Nat->Prop}{vs:List Value}{l:List (List bJ.Act)}(h:(eh y_ F (vs.map λv=>[v]) l).holds w):(xy 94 2 F vs).holds w:=by
 obtain⟨⟨h1,h2⟩,h3⟩:=h;refine⟨λv hv=>?_,h3⟩;obtain⟨i,hi,rfl⟩:=iB.1 hv;have:=(h2 i (by rw[<-h1,dA];exact hi) (by rw[dA];exact hi)).2;exact this _ (by simp)
end
theorem Ll{e:TypeId}{val:Value->Value}{g len:Nat}{f:Nat->Value}(hv:∀v,val v=v){w:World}(h:(fv e val g len f).holds w):(aZ e 1 (ap (aj ⟨g,0,ak⟩) len len) len (jp len f)).holds w:=by
 have hid:(jp len f).map val=jp len f:=(List.map_congr_left λv _=>hv v).trans (List.map_id _);unfold fv at h
 rwa [hid]at h
structure OwX where
 nN:Nat
 vN:List Value
 FN:Nat->Prop
 FO:Nat->Prop
 nR:Nat
 vR:List Value
 FR:Nat->Prop
 nA:Nat
 vA:List Value
 FA:Nat->Prop
def OwX.L(x:OwX)(y:MkX):List b9:=[aZ 26 1 y.vn x.nN x.vN,xy 3 1 x.FN x.vN,xy 3 1 x.FO [y.vo],aZ 26 1 y.vr x.nR x.vR,xy 3 1 x.FR x.vR,aZ 92 1 y.va x.nA x.vA,xy 94 2 x.FA x.vA]
def abG(m:Md):Spec (MkX×OwX):=⟨λx=>Wn m x.1/\∀w,Mem (bL.on w x.1.Ls) x.1.Ls w->Mem (bL.on w x.1.Ls) (x.2.L x.1) w,λx=> .tuple #[aQ (x.1.cells m).toArray,av az 0],λx=>[oC x.1.Ls]⟩
theorem Ul{e:TypeId}{sz:Nat}(w:World):(aZ e sz (ap ak 0 0) 0 []).holds w:=⟨(yf sz).symm,.inl ⟨rfl,rfl⟩⟩
theorem abH{v:Value}{s:Sp}{r:Int×List Row×List Int}(hx:R8 s r){w:World}(hv:TB (qy w) w v s)(hb:∀r∈s.rules,r.2.length<=8796093021952)(h:(AP s r.1).1=0):
 Calls aD 12 #[v] w (bY (abG (tQ s r)) w):=
 (tP v s r hx w hv hb).mono λe w' hm=>by
  obtain⟨h1,-,-,h4⟩:=Gq (s:=s) (e:=r.1) (m:=(AP s r.1).2) (by rw[<-h]);obtain⟨hG,Sb⟩:=wT hx h1;obtain⟨ajw,-⟩:=Dx hx h1;have hS:nZ s r=if(AP s r.1).2=1 then abi s r.2.1 r.2.2 else abj s r.2.1 r.2.2:=by unfold nZ;rw[if_neg (by rw[h];simp)]
  have afX:∀(v:Value) (F:Nat->Prop) (k:Nat),(λ_=>False) k->F k:=λ_ _ _ h=>h.elim;unfold tQ;rcases h4 with⟨_,oD⟩|⟨_,_,_,oD⟩
  ·rw[oD,if_pos I]at hS⊢
   rw[hS]at hm;refine hm.to (abG _) λx lT=>⟨⟨⟨x.vo,ap (aj ⟨x.gP,0,ak⟩) r.2.1.length r.2.1.length,x.vT,x.vp,ap (aj ⟨x.gR,0,ak⟩) (cH s).bC.toNat (cH s).bC.toNat,ap ak 0 0,ap ak 0 0,x.lex s r.2.1 r.2.2++x.rows (cH s)⟩,
    ⟨r.2.1.length,jp r.2.1.length x.Hi,Sn r.2.1.length λi=>aZ 3 1 (x.Hi i) (mN r.2.1 256).length ((AO (mN r.2.1 256) i).flatMap cK.dQ),λk=>x.vo.ownBlock=aj k,(cH s).bC.toNat,jp (cH s).bC.toNat x.WT,Sn (cH s).bC.toNat (mL (cH s).aF (y9 (cH s).bC.toNat (cH s).aF) (cH s).aT.toNat x.WT (cH s).bC.toNat 0),0,[],λ_=>False⟩⟩,
    ⟨⟨λw' hb=>abr (x:=x) (i0:=0) (i1:=1) (i2:=2) (i3:=3) (i4:=4) (i5:=5) (i6:=6) (xl hb) J Sb hG I I I I I I I,?_⟩,λw hw=>?_⟩,rfl,λw' h=>h.bun⟩
   ·obtain⟨k1,k2,k3⟩:=lT
    exact rG k1 (K_ (x:=x) k3 r.2.1) (by simp only[fQ,cY,c_,k2];rfl)
   have hw:=hw.qN (i:=0) (xy 3 1 (λk=>x.vo.ownBlock=aj k) [x.vo]) I (λ_ h=>abF h) (λk hk=>hk.elim (λh=>by cases h) .inl);have hw:=hw.qN (i:=3) (xy 3 1 (Sn r.2.1.length λi=>aZ 3 1 (x.Hi i) (mN r.2.1 256).length ((AO (mN r.2.1 256) i).flatMap cK.dQ)) (jp r.2.1.length x.Hi)) I (λ_ h=>Sq h) (λk hk=>hk.elim (λh=>by cases h) .inr);have hw:=hw.qN (i:=6) (xy 3 1 (Sn (cH s).bC.toNat (mL (cH s).aF (y9 (cH s).bC.toNat (cH s).aF) (cH s).aT.toNat x.WT (cH s).bC.toNat 0)) (jp (cH s).bC.toNat x.WT)) I (λ_ h=>Sq h) (λk hk=>hk.elim (λh=>by cases h) .inr);have hw:=hw.qN (i:=2) (aZ 26 1 (ap (aj ⟨x.gP,0,ak⟩) r.2.1.length r.2.1.length) r.2.1.length (jp r.2.1.length x.Hi)) I (λ_ h=>Ll (λ_=>rfl) h) (λ_ h=>h);have hw:=hw.qN (i:=5) (aZ 26 1 (ap (aj ⟨x.gR,0,ak⟩) (cH s).bC.toNat (cH s).bC.toNat) (cH s).bC.toNat (jp (cH s).bC.toNat x.WT)) I (λ_ h=>Ll (λ_=>rfl) h) (λ_ h=>h);have hw:=hw.pick [2,3,0,5,6] akh I;have hw:=(hw.Ed (aZ 92 1 (ap ak 0 0) 0 []) (λk hk=>hk.elim (λh=>by cases h) id) (Ul w)).Ed (xy 94 2 (λ_=>False) []) (λk hk=>hk.elim (λh=>by cases h) id) (ZF w);exact hw
  rw[oD,if_neg akh]at hS⊢;rw[hS]at hm;refine hm.to (abG _) λx lT=>⟨⟨⟨x.vo,ap (aj ⟨x.gP,0,ak⟩) r.2.1.length r.2.1.length,x.vT,x.vp,ap ak 0 0,x.tx.vA,x.tx.vG,x.lex s r.2.1 r.2.2++Rw x.tx (iH (cH s)).1 (iH (cH s)).2.1⟩,
   ⟨r.2.1.length,jp r.2.1.length x.Hi,Sn r.2.1.length λi=>aZ 3 1 (x.Hi i) (mN r.2.1 256).length ((AO (mN r.2.1 256) i).flatMap cK.dQ),λk=>x.vo.ownBlock=aj k,0,[],λ_=>False,(iH (cH s)).1.length,x.tx.BK,x.tx.FA⟩⟩,
   ⟨⟨λw' hb=>abt (x:=x) (i0:=0) (i1:=1) (i2:=2) (i3:=3) (i4:=4) (i5:=5) (i6:=6) (i7:=7) (i8:=8) (xl hb) J Sb hG I I I I I I I I I,?_⟩,λw hw=>?_⟩,rfl,λw' h=>h.bun⟩
  ·obtain⟨⟨k1,k2,k3⟩,b1,b2⟩:=lT
   exact rG k1 (K_ (x:=x) k3 r.2.1) (by simp only[fQ,cY,c_,k2,b1,b2];rfl)
  have hw:=hw.qN (i:=0) (xy 3 1 (λk=>x.vo.ownBlock=aj k) [x.vo]) I (λ_ h=>abF h) (λk hk=>hk.elim (λh=>by cases h) .inl);have hw:=hw.qN (i:=3) (xy 3 1 (Sn r.2.1.length λi=>aZ 3 1 (x.Hi i) (mN r.2.1 256).length ((AO (mN r.2.1 256) i).flatMap cK.dQ)) (jp r.2.1.length x.Hi)) I (λ_ h=>Sq h) (λk hk=>hk.elim (λh=>by cases h) .inr);have hw:=hw.qN (i:=6) (xy 94 2 x.tx.FA x.tx.BK) I (λ_ h=>ad1 h) (λk hk=>hk.elim (λh=>by cases h) .inr);have hw:=hw.qN (i:=2) (aZ 26 1 (ap (aj ⟨x.gP,0,ak⟩) r.2.1.length r.2.1.length) r.2.1.length (jp r.2.1.length x.Hi)) I (λ_ h=>Ll (λ_=>rfl) h) (λ_ h=>h);have hw:=hw.pick [2,3,0,5,6] akh I;have hw:=(hw.Ed (aZ 26 1 (ap ak 0 0) 0 []) (λk hk=>hk.elim (λh=>by cases h) id) (Ul w)).Ed (xy 3 1 (λ_=>False) []) (λk hk=>hk.elim (λh=>by cases h) id) (ZF w);have hw:=hw.pick [0,1,2,5,6,3,4] akh I;exact hw
end bZ
namespace Dz
open Go.RowKit cK dS de gd hY bZ
def agz(a s:C4):List Wd:=[([97],.mk 3 a []),([],.mk 3 s [])]
def abI:List Rl:=[([108],[[97],[109]]),([109],[]),([109],[[97],[109]])]
theorem Sr(n:Bs)(k:Int)(c:C4)(b:Option Addr)(m cp:Nat)(w:World):(df 122 #[(0,str n),(1,aQ (mQ k c (ap b m cp)).toArray)]).run aD w= .ok (aQ (zk n k c (ap b m cp)).toArray) w:=by kernel_rfl
theorem OG(n:Bs)(w:World):(df 124 #[(0,str n)]).run aD w= .ok (aQ #[str n,ap ak 0 0]) w:=by kernel_rfl
theorem OH(k:Int)(c:C4)(w:World):(df 122 #[(1,aQ (mQ k c (ap ak 0 0)).toArray)]).run aD w= .ok (aQ (zk [] k c (ap ak 0 0)).toArray) w:=by kernel_rfl
theorem CF(n:Bs)(g:Nat)(w:World):(df 124 #[(0,str n),(1,ap (aj ⟨g,0,ak⟩) 2 2)]).run aD w= .ok (aQ #[str n,ap (aj ⟨g,0,ak⟩) 2 2]) w:=by kernel_rfl
theorem OI(a b:Option Addr)(m c n d:Nat)(w:World):(df 25 #[(0,ap a m c),(1,ap b n d)]).run aD w= .ok (aQ #[ap a m c,ap b n d]) w:=by kernel_rfl
structure aiv where
 g1:Nat
 g2:Nat
 g3:Nat
 g4:Nat
def rlC(n:Bs)(v:Value):List Value:=[str n,v]
def ad2(a s:C4):bZ.Spec aiv:=⟨λ_=>True,λx=>aQ #[ap (aj ⟨x.g1,0,ak⟩) 2 2,ap (aj ⟨x.g4,0,ak⟩) 3 3],λx=>[aP x.g1 (zk [97] 3 a (ap ak 0 0)++zk [] 3 s (ap ak 0 0)).toArray 122,aP x.g2 #[str [97],str [109]] 9,aP x.g3 #[str [97],str [109]] 9,
 aP x.g4 #[str [108],ap (aj ⟨x.g2,0,ak⟩) 2 2,str [109],ap ak 0 0,str [109],ap (aj ⟨x.g3,0,ak⟩) 2 2] 124]⟩
set_option maxRecDepth 100000 in
theorem Ss(w:World):Calls aD 13 #[] w (bY (ad2 (fy 97 97) (fy 32 32)) w):=by
 have hl:=λw=>zz 97 w ⟨by decide,by decide⟩;have HJ:=λw=>zz 32 w ⟨by decide,by decide⟩;generalize fy 97 97=ca at*;generalize fy 32 32=cs at*;refine enter (args:=[]) (n:=13) Tryz.func13 I I I ?_;refine bW (bB (a8 I λg0=>?_));refine zL ?_
 try refine GA ?_
 refine aV (i_ aI.en I I) (λw hm=>hl w) I I I ?_;intro _ _;refine zL ?_
 repeat(first|refine QZ ?_|refine QV (bD I (Sr _ _ _ _ _ _)) ?_)
 refine aV (i_ aI.en I I) (λw hm=>HJ w) I I I ?_;intro _ _;refine zL ?_
 repeat(first|refine QZ ?_|refine QV (bD I (OH _ _)) ?_)
 refine fD (cs:=(zk [97] 3 ca (ap ak 0 0)++zk [] 3 cs (ap ak 0 0)).toArray) [aQ (zk [97] 3 ca (ap ak 0 0)).toArray,aQ (zk [] 3 cs (ap ak 0 0)).toArray] I I I (by intro v hv;simp only[dC,fH,or_false]at hv;rcases hv with rfl|rfl<;>rfl) I I I λg5=>?_;refine zL ?_;refine fD (cs:=#[str [97],str [109]]) [str [97],str [109]] I I I (by intro v hv;simp only[dC,fH,or_false]at hv;rcases hv with rfl|rfl<;>rfl) I I I λg6=>?_;refine zL ?_
 repeat(first|refine QZ ?_|refine QV (bD I (CF _ _)) ?_|refine QV (bD I (OG _)) ?_)
 refine fD (cs:=#[str [97],str [109]]) [str [97],str [109]] I I I (by intro v hv;simp only[dC,fH,or_false]at hv;rcases hv with rfl|rfl<;>rfl) I I I λg9=>?_;refine zL ?_
 repeat(first|refine QZ ?_|refine QV (bD I (CF _ _)) ?_)
 refine fD (cs:=#[str [108],ap (aj ⟨g6,0,ak⟩) 2 2,str [109],ap ak 0 0,str [109],ap (aj ⟨g9,0,ak⟩) 2 2]) [aQ #[str [108],ap (aj ⟨g6,0,ak⟩) 2 2],aQ #[str [109],ap ak 0 0],aQ #[str [109],ap (aj ⟨g9,0,ak⟩) 2 2]] I I I (by intro v hv;simp only[dC,fH,or_false]at hv;rcases hv with rfl|rfl|rfl<;>rfl) I I I λg11=>?_;refine zL ?_
 repeat(first|refine QZ ?_|refine QV (bD I (OI _ _ _ _ _ _)) ?_)
 refine ij 0 (cs':=#[ap (aj ⟨g5,0,ak⟩) 2 2,ap (aj ⟨g11,0,ak⟩) 3 3]) ?_;refine zL ?_
 try refine GA ?_
 exact fZ (i:=0) I I I I λw hm=>hm.meets (S:=ad2 ca cs) ⟨g5,g6,g9,g11⟩ trivial [1,2,3,4] akh I
theorem nle{n:Nat}(h:n<=10:=by exact Nat.le_of_ble_eq_true I):n<=9223372036854775807:=by omega
theorem Um{w:World}{g:Nat}(h:(aP g #[str [97],str [109]] 9).holds w):ky UK (qy w) w (ap (aj ⟨g,0,ak⟩) 2 2) [[97],[109]]:=by
 have hb:w.heap[g]?=aj (.cells #[str [97],str [109]] 9 (0,0)):=h;refine⟨_,2,rfl,bz _,by decide,λ_=>⟨g,0,rfl,(jx.1 hb).1,λi hi=>⟨[str ([[97],[109]]:List Bs)[i]],⟨rfl,?_⟩,λj u hj=>?_⟩⟩⟩
 ·match i,hi with
  |0,_=>exact(by decide:(1:Nat)<=9223372036854775807)
  |1,_=>exact(by decide:(1:Nat)<=9223372036854775807)
 rw[cell_of_row w g _ _ _ _ hb]
 match i,hi,j,hj with
 |0,_,0,hj=>exact hj
 |1,_,0,hj=>exact hj
theorem ad3{w:World}{a s:C4}{x:aiv}(h1:(aP x.g1 (zk [97] 3 a (ap ak 0 0)++zk [] 3 s (ap ak 0 0)).toArray 122).holds w)(h2:(aP x.g2 #[str [97],str [109]] 9).holds w)(h3:(aP x.g3 #[str [97],str [109]] 9).holds w)
 (h4:(aP x.g4 #[str [108],ap (aj ⟨x.g2,0,ak⟩) 2 2,str [109],ap ak 0 0,str [109],ap (aj ⟨x.g3,0,ak⟩) 2 2] 124).holds w):TB (qy w) w (aQ #[ap (aj ⟨x.g1,0,ak⟩) 2 2,ap (aj ⟨x.g4,0,ak⟩) 3 3]) ⟨agz a s,abI⟩:=by
 have GY:w.heap[x.g1]?=aj (.cells (zk [97] 3 a (ap ak 0 0)++zk [] 3 s (ap ak 0 0)).toArray 122 (0,0)):=h1;have hb4:w.heap[x.g4]?=aj (.cells #[str [108],ap (aj ⟨x.g2,0,ak⟩) 2 2,str [109],ap ak 0 0,str [109],ap (aj ⟨x.g3,0,ak⟩) 2 2] 124 (0,0)):=h4;have hx:∀c,kQ (qy w) w (mQ 3 c (ap ak 0 0)) (.mk 3 c []):=λc=>zy.2 ⟨_,rfl,⟨by decide,by decide⟩,ky.nil⟩;refine⟨_,_,rfl,⟨_,2,rfl,bz _,by decide,λ_=>⟨x.g1,0,rfl,(jx.1 GY).1,λi hi=>?_⟩⟩,⟨_,3,rfl,bz _,by decide,λ_=>⟨x.g4,0,rfl,(jx.1 hb4).1,λi hi=>?_⟩⟩⟩
 ·match i,hi with
  |0,_=>
   refine⟨zk [97] 3 a (ap ak 0 0),⟨[str [97]],_,rfl,⟨rfl,nle⟩,hx a⟩,λj u hj=>?_⟩;rw[cell_of_row w x.g1 _ _ _ _ GY,jz,yf,cX,iq (dg.1 hj).1];exact hj
  |1,_=>
   refine⟨zk [] 3 s (ap ak 0 0),⟨[str []],_,rfl,⟨rfl,nle⟩,hx s⟩,λj u hj=>?_⟩;rw[cell_of_row w x.g1 _ _ _ _ GY,jz];show(zk [97] 3 a (ap ak 0 0)++zk [] 3 s (ap ak 0 0))[0+1*7+j]?=aj u
   rw[List.getElem?_append_right (by show 7<=_;omega),show 0+1*7+j-(zk [97] 3 a (ap ak 0 0)).length=j from by show 0+1*7+j-7=j;omega];exact hj
 ·match i,hi with
  |0,_=>
   refine⟨rlC [108] (ap (aj ⟨x.g2,0,ak⟩) 2 2),⟨[str [108]],[_],rfl,⟨rfl,nle⟩,_,rfl,Um h2⟩,λj u hj=>?_⟩;rw[cell_of_row w x.g4 _ _ _ _ hb4]
   match j,hj with
   |0,hj=>exact hj
   |1,hj=>exact hj
  |1,_=>
   refine⟨rlC [109] (ap ak 0 0),⟨[str [109]],[_],rfl,⟨rfl,nle⟩,_,rfl,ky.nil⟩,λj u hj=>?_⟩;rw[cell_of_row w x.g4 _ _ _ _ hb4]
   match j,hj with
   |0,hj=>exact hj
   |1,hj=>exact hj
  |2,_=>
   refine⟨rlC [109] (ap (aj ⟨x.g3,0,ak⟩) 2 2),⟨[str [109]],[_],rfl,⟨rfl,nle⟩,_,rfl,Um h3⟩,λj u hj=>?_⟩;rw[cell_of_row w x.g4 _ _ _ _ hb4]
   match j,hj with
   |0,hj=>exact hj
   |1,hj=>exact hj
end Dz
namespace DA
open Go.RowKit cK dS bZ de gd hY aU cD eE nu Dz
def lS:Sp:=⟨agz (fy 97 97) (fy 32 32),abI⟩
def lE:List Re:=[.byte (fy 97 97),.byte (fy 32 32)]
set_option maxRecDepth 1000000 in
theorem agA:AP lS 0=(0,1):=by kernel_rfl
theorem ad4:wP lS=0:=by kernel_rfl
def lM(a b:C4):MS:=⟨⟨[a,b],[0,1],[[],[]],[aC,aC]⟩,[0,1],[aE,aE]⟩
theorem agB(a b:C4):l_ 0 .zero [.byte a,.byte b]=(0,lM a b):=by
 have u0:rr [] [0]=[0]:=aag (by simp) (by simp);have u1:rr [0] [1]=[0,1]:=aag (by simp) (by simp);have s0:xL 0 .zero (.byte a)=⟨⟨[a],[0],[[]],[aC]⟩,[0],[aE]⟩:=by simp[xL,cP,MS.zero,gh,u0]
 have s1:xL 1 ⟨⟨[a],[0],[[]],[aC]⟩,[0],[aE]⟩ (.byte b)=lM a b:=by
  simp[xL,cP,gh,u1,lM]
 rw[l_,s0,if_neg (by simp),l_,s1,if_neg (by simp[lM]),l_]
theorem Wy:kr (qt lS)=0:=by kernel_rfl
set_option maxRecDepth 1000000 in
theorem ad5:((wy (lM (fy 97 97) (fy 32 32))).map λx=>x.1.length)=aj 3:=by kernel_rfl
theorem agC:∃r,R8 lS r/\r.1=0:=by
 have hl:l_ 0 .zero lE=(0,lM (fy 97 97) (fy 32 32)):=agB _ _;have hd:=ad5;generalize lM (fy 97 97) (fy 32 32)=m at*
 cases hm:wy m with
 |none=>rw[hm]at hd;cases hd
 | some y=>
  obtain⟨R,d⟩:=y;refine⟨_,.inr ⟨lE,m,rfl,?_,by decide,by decide,hl,.inr (.inr ⟨by decide,Wy,lE,rfl,?_,hl.symm⟩),.inr (.inr ⟨ad4,?_,?_,rfl⟩)⟩,rfl⟩
  ·intro e he
   simp only[lE,dC,fH,or_false]at he;rcases he with rfl|rfl<;>exact⟨by unfold Re.nz;decide,by decide,by decide⟩
  ·intro e he
   simp only[lE,dC,fH,or_false]at he;rcases he with rfl|rfl<;>decide
  rw[FF hm];rw[FF hm];exact aaV (Dm akh akh hl) (BP hm)
end DA
namespace DA
open Go.RowKit cK dS bZ de gd hY aU cD eE nu Dz gZ
theorem abJ:∀r∈lS.rules,r.2.length<=8796093021952:=by
 intro r hr;have:r∈abI:=hr;simp only[abI,dC,fH,or_false]at this;rcases this with rfl|rfl|rfl<;>exact Nat.le_trans (k8 I:_<=10) J
theorem ad6:∃r b T N,R8 lS r/\(AP lS r.1).1=0/\iA (tQ lS r) b T N/\Ws (tQ lS r):=by
 obtain⟨r,hx,h0⟩:=agC;have h1:(AP lS r.1).1=0:=by rw[h0,agA]
 obtain⟨b,T,N,hf⟩:=Gs hx h1;exact⟨r,b,T,N,hx,h1,hf,Gx hx h1⟩
end DA
namespace bZ
open Go.RowKit cK dS
theorem Wz{n:Nat}{W:bL}{fr:Fr}{L:List b9}{dst:Option Tmp}{ty:TypeId}{pos:String}{after:Array Edge}{guard:Option (Nat×Bool)}{x y:Operand}{u:TypeId}{p:Option Addr}{b:Bool}(hx:ev fr x=aj (.pointer p))(hy:ev fr y=aj (aJ ak))(hb:p.isNone=b):RR aD n W ⟨dst,.binOp .eql 73 x y u,ty,pos,after,guard⟩ fr L (.bool b):= .mk λac w hr _=>by
 subst hb;have e1:(eqGuard .eql 73 x y (.pointer p) (aJ ak)).run aD w= .ok () w:=rfl;have e2:(binOp .eql 73 (.pointer p) (aJ ak)).run aD w= .ok (.bool p.isNone) w:=by
  have h:∀d:Nat,(lQ (d+1) 73 (.pointer p) (aJ ak)).run aD w= .ok p.isNone w:=λd=>by
   cases p with
   |none=>simp[lQ,run_underlying Tryz.underlying73]
   |some a=>simp[lQ,run_underlying Tryz.underlying73]
  simp only[binOp];simp[Op.equal,Op.maxDepth,h 9999]
 simp[execOp,hr.ev hx,hr.ev hy,e1,e2]
end bZ
namespace ft
open aU dL eO jG bJ cD bZ gZ
open gK (Ev qG takeN)
structure BX(s:e9):Prop where
 over:s.over=aC
 wait:s.wait=[]
theorem BX.e8{s:e9}(h:BX s):wQ s=(s.e8,s.pl,aC):=if_pos ⟨h.over,h.wait⟩
theorem BX.ready{s:e9}(h:BX s):gD s=false:=by unfold gD;rw[h.over];rfl
theorem BX.data{s:e9}(h:BX s)(x:List UInt8):kF s x=(s,15):=if_pos (.inl h.over)
theorem BX.ended{s:e9}(h:BX s):iV s=(s,15):=if_pos (.inl h.over)
theorem BX.agi{m:Md}{b:Bool}{s:e9}(h:BX s)(k:Nat):ef m b k s=(s,0):=by
 cases k with
 |zero=>rfl
 |succ k=>rw[ef,if_neg (by rw[h.ready];decide)]
theorem BX.send{s:e9}(h:BX s)(n:Int):(dI s n).2=[]/\wQ (dI s n).1=wQ s:=by
 unfold dI;split;exact⟨rfl,rfl⟩;refine⟨by dsimp only;rw[h.wait];simp,?_⟩;have h2:BX {s with wait:=s.wait.drop (takeN s.wait s.cr n),cr:=s.cr-(takeN s.wait s.cr n:Nat),gone:=s.gone+(takeN s.wait s.cr n:Nat)}:=⟨h.over,by dsimp only;rw[h.wait];simp⟩;rw[h2.e8,h.e8]
end ft
namespace bZ
open Go.RowKit cK dS
theorem Su(k cap:Nat)(a:Int)(cs:Array Value)(hc:cs.size=cap*1)(hk:k<cap):(((cL k (cK.dQ a)).flatten++cs.toList.drop (k*1)).toArray.toList.take (k*1)++(cK.dQ a).toArray.toList++((cL k (cK.dQ a)).flatten++cs.toList.drop (k*1)).toArray.toList.drop (k*1+1)).toArray=((cL (k+1) (cK.dQ a)).flatten++cs.toList.drop ((k+1)*1)).toArray:=by
 congr 1
 have h:((cL k (cK.dQ a)).flatten).length=k*1:=by simp[cK.dQ]
 simp only[];rw[A1 h,<-kI,A2 h,aby,rC,kI];simp[iP]
theorem oQ(g n cap:Nat)(cs:Array Value)(a:Int)(w:World)(B:bL)(hn:n<=cap)(jS:cap<=9223372036854775807)(hc:cs.size=cap*1)(h1:(cK.dQ a).all eY=aC)(hm:Mem B [aP g cs 3] w):
 Calls aD 34 #[ap (aj ⟨g,0,ak⟩) n cap,av az a] w (da ⟨λ(_:Unit)=>True,λ_=> .tuple #[],λ_=>[aP g ((cL cap (cK.dQ a)).flatten).toArray 3]⟩ B):=by
 refine dB hm (args:=[ap (aj ⟨g,0,ak⟩) n cap,av az a]) (n:=19) Tryz.func34 I I I ?_
 repeat(first|refine qv I (qp I) I I ?_|refine jg ?_|refine bW ?_|refine bB ?_|refine OM I ?_|refine LL I ?_|refine nJ ?_|refine mT ?_|refine lG ?_|refine jA ?_|refine kP ?_|refine ke ?_|refine jL ?_|refine jM ?_|refine iQ ?_|refine jn I ?_|refine qv I (Jw bM.eq I) I I ?_|refine qv I (rU bM.eq aK.ty I I (bz cap)) I I ?_|refine qv I (xr bM.eq I) I I ?_|refine qv I (dq I I (qT J)) I I ?_|refine qv I (dq I I (qF J)) I I ?_|refine qv I (dW I I J J I) I I ?_)
 refine mq (ι:=Nat) (λk=>k<=cap) (λk=>[(0,ap (aj ⟨g,0,ak⟩) cap cap),(1,av az a),(10,av az cap),(11,av az (k:Int))]) (λk=>[aP g ((cL k (cK.dQ a)).flatten++cs.toList.drop (k*1)).toArray 3]) (λk=>cap-k) 0 (bH _) (by repeat' (first|exact cT|refine cJ I ?_)) (by simp) ?_;intro k hk
 by_cases c1:k<cap
 ·have hsz:((cL k (cK.dQ a)).flatten++cs.toList.drop (k*1)).toArray.size=cap*1:=by simp[hc,cK.dQ];omega
  repeat(first|refine qv I (qp I) I I ?_|refine jg ?_|refine bW ?_|refine bB ?_|refine OM I ?_|refine LL I ?_|refine nJ ?_|refine mT ?_|refine lG ?_|refine jA ?_|refine kP ?_|refine ke ?_|refine jL ?_|refine jM ?_|refine iQ ?_|refine jn I ?_|refine qv I (aY bM.eq aK.ty I I c1) I I ?_|refine qv I (xr bM.eq I) I I ?_|refine qv I (dq I I (qT J)) I I ?_|refine qv I (dq I I (qF J)) I I ?_|refine qv I (dW I I J J I) I I ?_)
  refine pD (i:=0) (cs':=((cL (k+1) (cK.dQ a)).flatten++cs.toList.drop ((k+1)*1)).toArray) aK.ty I I I I (show((cK.dQ a).toArray.toList.all eY)=aC by simpa using h1) (by rw[hsz];omega) (by rw[cX];exact(Su k cap a cs hc c1).symm) ?_
  repeat(first|refine qv I (qp I) I I ?_|refine jg ?_|refine bW ?_|refine bB ?_|refine OM I ?_|refine LL I ?_|refine nJ ?_|refine mT ?_|refine lG ?_|refine jA ?_|refine kP ?_|refine ke ?_|refine jL ?_|refine jM ?_|refine iQ ?_|refine jn I ?_|refine qv I (xr bM.eq I) I I ?_|refine qv I (dq I I (qT J)) I I ?_|refine qv I (dq I I (qF J)) I I ?_|refine qv I (dW I I J J I) I I ?_)
  exact bT (k+1) J (by show cap-(k+1)<cap-k;omega)
 ·obtain rfl:k=cap:=by omega
  repeat(first|refine qv I (qp I) I I ?_|refine jg ?_|refine bW ?_|refine bB ?_|refine OM I ?_|refine LL I ?_|refine nJ ?_|refine mT ?_|refine lG ?_|refine jA ?_|refine kP ?_|refine ke ?_|refine jL ?_|refine jM ?_|refine iQ ?_|refine jn I ?_|refine qv I (xr bM.eq I) I I ?_|refine qv I (dq I I (qT J)) I I ?_|refine qv I (dq I I (qF J)) I I ?_|refine qv I (dW I I J J I) I I ?_)
  refine jP I λw hm=>hm.cC (S:=⟨λ(_:Unit)=>True,λ_=> .tuple #[],λ_=>[aP g ((cL k (cK.dQ a)).flatten).toArray 3]⟩) () trivial [0] akh (by simp only[ir (show cs.toList.length<=k*1 by simp[hc]),du];rfl)
theorem mG(a:Int)(w:World):Calls aD 34 #[ap ak 0 0,av az a] w (bY (ret (.tuple #[])) w):=by
 refine enter (args:=[ap ak 0 0,av az a]) (n:=19) Tryz.func34 I I I ?_
 repeat(first|refine qv I (qp I) I I ?_|refine jg ?_|refine bW ?_|refine bB ?_|refine OM I ?_|refine LL I ?_|refine nJ ?_|refine mT ?_|refine lG ?_|refine jA ?_|refine kP ?_|refine ke ?_|refine jL ?_|refine jM ?_|refine iQ ?_|refine jn I ?_|refine qv I (Jw bM.eq I) I I ?_|refine qv I (rU (j:=0) bM.eq aK.ty I I (bz 0)) I I ?_|refine qv I (xr bM.eq I) I I ?_|refine qv I (dq I I (qT J)) I I ?_|refine qv I (dq I I (qF J)) I I ?_|refine qv I (dW I I J J I) I I ?_)
 refine d_ (ι:=Unit) (λ_=>True) (λ_=>[(10,av az 0),(11,av az 0)]) (λ_=>[]) (λ_=>0) () trivial ?_;intro _ _
 repeat(first|refine qv I (qp I) I I ?_|refine jg ?_|refine bW ?_|refine bB ?_|refine OM I ?_|refine LL I ?_|refine nJ ?_|refine mT ?_|refine lG ?_|refine jA ?_|refine kP ?_|refine ke ?_|refine jL ?_|refine jM ?_|refine iQ ?_|refine jn I ?_|refine qv I (xr bM.eq I) I I ?_|refine qv I (dq I I (qT J)) I I ?_|refine qv I (dq I I (qF J)) I I ?_|refine qv I (dW I I J J I) I I ?_)
 exact jP I λw hm=>hm.ret
end bZ
namespace bZ
open Go.RowKit cK dS
theorem Sv(k cap:Nat)(a:bJ.Act)(cs:Array Value)(hc:cs.size=cap*2)(hk:k<cap):(((cL k (fw a)).flatten++cs.toList.drop (k*2)).toArray.toList.take (k*2)++(fw a).toArray.toList++((cL k (fw a)).flatten++cs.toList.drop (k*2)).toArray.toList.drop (k*2+2)).toArray=((cL (k+1) (fw a)).flatten++cs.toList.drop ((k+1)*2)).toArray:=by
 congr 1
 have h:((cL k (fw a)).flatten).length=k*2:=by simp[fw]
 simp only[];rw[A1 h,<-kI,A2 h,aby,rC,kI];simp[iP]
theorem C5(g n cap:Nat)(cs:Array Value)(a:bJ.Act)(w:World)(B:bL)(hn:n<=cap)(jS:cap<=9223372036854775807)(hc:cs.size=cap*2)(h1:(fw a).all eY=aC)(hm:Mem B [aP g cs 94] w):
 Calls aD 35 #[ap (aj ⟨g,0,ak⟩) n cap,(aQ (fw a).toArray)] w (da ⟨λ(_:Unit)=>True,λ_=> .tuple #[],λ_=>[aP g ((cL cap (fw a)).flatten).toArray 94]⟩ B):=by
 refine dB hm (args:=[ap (aj ⟨g,0,ak⟩) n cap,(aQ (fw a).toArray)]) (n:=19) Tryz.func35 I I I ?_;refine bW (bB (bP I I I λg0=>?_))
 repeat(first|refine GC ?_|refine gV (Jw bM.eq I) ?_|refine gV (rU bM.eq aK.ty I I (bz cap)) ?_|refine GB ?_)
 refine mq (ι:=Nat) (λk=>k<=cap) (λk=>[(0,ap (aj ⟨g,0,ak⟩) cap cap),(3,aJ (aj ⟨g0,0,ak⟩)),(10,av az cap),(11,av az (k:Int))]) (λk=>[aP g ((cL k (fw a)).flatten++cs.toList.drop (k*2)).toArray 94,aP g0 (fw a).toArray 94]) (λk=>cap-k) 0 (bH _) (by repeat' (first|exact cT|refine cJ I ?_)) (by simp;rfl) ?_;intro k hk
 by_cases c1:k<cap
 ·have hsz:((cL k (fw a)).flatten++cs.toList.drop (k*2)).toArray.size=cap*2:=by simp[hc,fw];omega
  repeat(first|refine GA ?_|refine gV (aO (i:=1) aK.ty I I I) ?_|refine gV (aY bM.eq aK.ty I I c1) ?_)
  refine pD (i:=0) (cs':=((cL (k+1) (fw a)).flatten++cs.toList.drop ((k+1)*2)).toArray) aK.ty I I I I (show((fw a).toArray.toList.all eY)=aC by simpa using h1) (by rw[hsz];omega) (by rw[cX];exact(Sv k cap a cs hc c1).symm) ?_
  try refine GA ?_
  exact bT (k+1) J (by show cap-(k+1)<cap-k;omega)
 ·obtain rfl:k=cap:=by omega
  try refine GA ?_
  refine jP I λw hm=>hm.cC (S:=⟨λ(_:Unit)=>True,λ_=> .tuple #[],λ_=>[aP g ((cL k (fw a)).flatten).toArray 94]⟩) () trivial [0] akh (by simp only[ir (show cs.toList.length<=k*2 by simp[hc]),du];rfl)
theorem zj(a:bJ.Act)(w:World):Calls aD 35 #[ap ak 0 0,(aQ (fw a).toArray)] w (bY (ret (.tuple #[])) w):=by
 refine enter (args:=[ap ak 0 0,(aQ (fw a).toArray)]) (n:=19) Tryz.func35 I I I ?_;refine bW (bB (bP I I I λg0=>?_))
 repeat(first|refine GC ?_|refine gV (Jw bM.eq I) ?_|refine gV (rU (j:=0) bM.eq aK.ty I I (bz 0)) ?_|refine GB ?_)
 refine d_ (ι:=Unit) (λ_=>True) (λ_=>[(10,av az 0),(11,av az 0)]) (λ_=>[aP g0 (fw a).toArray 94]) (λ_=>0) () trivial ?_;intro _ _
 try refine GA ?_
 exact jP I λw hm=>hm.ret
end bZ
namespace sessionOwn
open Go.RowKit cK dS bZ de gd hY aU dL cD jG gZ ft Dz DA
open gK (Ev)
theorem agD{w:World}:Sl w (ap ak 0 0) 0 []:=⟨ak,0,rfl,bz _,bH _,λh=>absurd h (y6 _)⟩
theorem Sw(w:World):(df 94 (#[]:Array (Nat×Value))).run aD w= .ok (aQ (fw (0,0)).toArray) w:=by
 unfold fw;go_simp
set_option maxRecDepth 100000 in
theorem walk(w:World)(v:Value)(s:Sp)(hv:TB (qy w) w v s)(hb:∀r∈s.rules,r.2.length*16<=140737488351232)(tx:List UInt8)(htx:tx.length<=140737488351232):
 Calls aD 8 #[v,str tx] w (bY (ret (.bool aC)) w):=by
 obtain⟨r,hx⟩:=agj s;obtain⟨r0,b0,T0,N0,hx0,hm0,hk0,aiw⟩:=ad6;have aix:=λv' w' h=>abv hx0 (v:=v') (w:=w') h abJ hm0;have aiy:=λc w' (hg:Gr w w')=>Wo hx (hv.gr hg) (λr h=>by have:=hb r h;omega) c;have aiz:=λc w' (hg:Gr w w')=>abH hx (hv.gr hg) (λr h=>by have:=hb r h;omega) c;have D0:=Gs hx;have hsm:=Gx hx;have hls:=λw'=>Ss w';have agE:=λw' x h1 h2 h3 h4=>ad3 (w:=w') (a:=fy 97 97) (s:=fy 32 32) (x:=x) h1 h2 h3 h4;have hlS:lS=⟨agz (fy 97 97) (fy 32 32),abI⟩:=rfl;rw[<-hlS]at agE;clear hlS hm0;generalize fy 97 97=ca at*;generalize fy 32 32=cs at*;generalize tQ lS r0=m0 at*;generalize lS=l0 at*;obtain⟨vw0,vr0,rfl,hw,hr⟩:=hv;obtain⟨bw,cw,rfl,-⟩:=hw;obtain⟨br,cr,rfl,-⟩:=hr;clear hb;have hsz:GO.toArray.size=266:=kW ju I;have C2:GO.toArray.toList.all eY=true:=rG I T8 I;refine enter (args:=[aQ #[ap bw s.words.length cw,ap br s.rules.length cr],str tx]) (n:=156) Tryz.func8 I I I ?_;refine bW (bB (bP I I I λg2=>?_));refine zL ?_
 try refine GA ?_
 refine aV (he0 aI.en I) (λw hm=>hls w) I I I ?_;rintro⟨q1,q2,q3,q4⟩ _
 conv=>arg 8;simp only[zJ,cI,ret,id_eq,ad2]
 conv=>arg 7;simp only[ad2]
 refine aV (i_ aI.en I I) (λw' hm=>aix _ w' (agE w' ⟨q1,q2,q3,q4⟩ (hm.get (i:=1) I) (hm.get (i:=2) I) (hm.get (i:=3) I) (hm.get (i:=4) I))) I I I ?_;intro y hy
 conv=>arg 8;simp only[zJ,cI,ret,id_eq,abu]
 conv=>arg 7;simp only[abu]
 refine zv [0,5] ?_
 try refine GA ?_
 refine a8 I λg5'=>?_;rw[tK];refine zL ?_;refine aX (i:=2) (cs':=(y.cells m0).toArray) I I I (sB y m0) hy.one hsz ?_;refine zL ?_;have OF:=λw' h=>BW (aQ (y.cells m0).toArray) m0 b0 T0 N0 (vo:=y.vo) (vn:=y.vn) (vt:=y.vt) (vp:=y.vp) (vr:=y.vr) (va:=y.va) (vg:=y.vg) 5 5 akh akh akh akh w' h hk0 aiw
 repeat(first|refine GA ?_|refine gV (aO (i:=2) aK.ty I I (sB y m0)) ?_)
 refine aV (sV aI.en I I I I) (λw' hm=>OF w' (hy.mdr w' (hm.get (i:=1) I))) I I I ?_;clear OF;rintro⟨gs,z,up,uq⟩ hz
 conv=>arg 8;simp only[zJ,cI,ret,id_eq,OB]
 conv=>arg 7;simp only[OB]
 refine zv [0,3] ?_;refine zL ?_;have aiA:(fc m0.o z.vn z.vt).length=258:=fj _ _ _;have agF:=λw' h=>xY (g:=gs) (vo:=z.vo) (md:=fQ m0.g.aT m0.g.bC z.vp m0.mode z.vr z.va z.vg) (vt:=ap ak 0 0) (pc:=jk b0 (oP 5 5) up uq) (vw:=ap ak 0 0) aiA I (by obtain⟨a,c,d,e,f,h,i,j,k⟩:=K6 b0 (oP 5 5) up uq;rw[k];rfl) (oP 5 5) akh ⟨ak,0,rfl⟩ ⟨ak,0,rfl⟩ akh w' h;rw[show gD (oP 5 5)=aE from I]at agF
 repeat(first|refine GA ?_|refine gV (Wz (b:=aE) I I I) ?_)
 refine qg I I I ?_;refine aV (i_ aI.en I I) (λw' hm=>agF w' (hm.get (i:=1) I)) I I I ?_;intro _ _;refine zL ?_;refine zv [0] ?_
 repeat(first|refine GA ?_|refine gV (aO (i:=0) aK.ty I I I) ?_)
 clear agF aix hls agE hy hk0 aiw hx0 hz aiA
 by_cases c0:(AP s r.1).1≠0
 ·have L6:=aiy c0
  refine aV (i_ aI.en I I) (λw hm=>L6 _ hm.below) I I I ?_;intro _ _;unfold air;refine zL ?_
  try refine GA ?_
  refine a8 I λg9'=>?_;rw[tK];refine zL ?_;refine aX (i:=1) (cs':=GO.toArray) I I I hsz C2 hsz ?_;refine zL ?_
  repeat(first|refine GC ?_|refine gV (dl (b:=aC) I I (decide_eq_true c0)) ?_|refine GB ?_)
  exact eH
 have c1:(AP s r.1).1=0:=tI c0;have L6:=aiz c1;obtain⟨b,T,N,hk⟩:=D0 c1;have hsm:=hsm c1;clear aiz aiy D0 c0 c1 hx;generalize tQ s r=m at*;refine aV (i_ aI.en I I) (λw hm=>L6 _ hm.below) I I I ?_;rintro⟨y,X⟩ ⟨hy,hX⟩;have hy:Wn m y:=hy;have hX:∀w,Mem (bL.on w y.Ls) y.Ls w->Mem (bL.on w y.Ls) (X.L y) w:=hX
 conv=>arg 8;simp only[zJ,cI,ret,id_eq,abG]
 conv=>arg 7;simp only[abG]
 try refine GA ?_
 refine a8 I λg9=>?_;rw[tK];refine zL ?_;refine aX (i:=2) (cs':=(y.cells m).toArray) I I I (sB y m) hy.one hsz ?_;refine zL ?_
 by_cases c2:1000<tx.length
 ·try refine GA ?_
  exact eH
 have tW:[tx].flatten=tx:=by simp
 have aiB:=λvl w' h hl=>Ww y m b T N hk hsm vl [tx] (ap ak 0 0) [] w' h hl agD (λx hx=>by obtain rfl:=dO.1 hx;omega) (by rw[tW];omega);have OF:=λw' h=>BW (aQ (y.cells m).toArray) m b T N (vo:=y.vo) (vn:=y.vn) (vt:=y.vt) (vp:=y.vp) (vr:=y.vr) (va:=y.va) (vg:=y.vg) 4096 1000 akh akh akh akh w' h hk hsm
 repeat(first|refine GA ?_|refine gV (aO (i:=2) aK.ty I I (sB y m)) ?_)
 refine fD (cs:=#[str tx]) [str tx] I I I (by intro v hv;simp at hv;subst hv;rfl) I I I λg64=>?_;refine zL ?_;refine aV (sV aI.en I I I I) (λw' hm=>aiB _ w' (hy.mdr w' (hm.get (i:=1) I)) (lq (i:=3) (xs:=[str tx]) I (λj u h=>by simpa using h) (bz _) akh w' hm)) I I I ?_;rintro⟨vo,Lm,eS,aS⟩ Py;have aen:ui m b (Oh [tx]) [] (Lm,eS,aS):=Py.2 I
 conv=>arg 8;simp only[zJ,cI,ret,id_eq,adY]
 conv=>arg 7;simp only[adY]
 clear aiB Py L6
 repeat(first|refine GA ?_|refine gV (aO (i:=2) aK.ty I I (sB y m)) ?_)
 refine aV (sV aI.en I I I I) (λw' hm=>OF w' (hy.mdr w' (hm.get (i:=1) I))) I I I ?_;clear OF;rintro⟨gs,z,up,uq⟩ hz;have hz:Wn m z:=hz
 conv=>arg 8;simp only[zJ,cI,ret,id_eq,OB]
 conv=>arg 7;simp only[OB]
 refine zv [2,4,5,6,7,8,9,1] ?_;refine zL ?_;have dX:(fc m.o z.vn z.vt).length=258:=fj _ _ _;have abD:=KZ hk (x:=4096) (y:=1000) akh akh akh akh;have Hc:=λB w' hm=>wV (g:=gs) (vo:=z.vo) (md:=fQ m.g.aT m.g.bC z.vp m.mode z.vr z.va z.vg) (ut:=ap ak 0 0) (up:=up) (uq:=uq) (uw:=ap ak 0 0) dX I (oP 4096 1000) abD 1073741824 w' B hm;rw[K4]at Hc;have h0:=aim hk;have hda:=λut up uw w' B hm=>xZ (m:=m) (b:=b) (g:=gs) (vo:=z.vo) (md:=fQ m.g.aT m.g.bC z.vp m.mode z.vr z.va z.vg) (ut:=ut) (up:=up) (uq:=uq) (uw:=uw) dX I _ h0.x.ok tx J w' B hm;have Bm:=λs' ut up uw w' B hm=>AL (b:=b) (g:=gs) (vo:=z.vo) (md:=fQ m.g.aT m.g.bC z.vp m.mode z.vr z.va z.vg) (ut:=ut) (up:=up) (uq:=uq) (uw:=uw) dX I s' w' B hm;have To:=λs' h1 n qA ut up uw w' B hR hm=>AK (aQ (z.cells m).toArray) m (vo:=z.vo) (vn:=z.vn) (vt:=z.vt) (vp:=z.vp) (vr:=z.vr) (va:=z.va) (vg:=z.vg) (ut:=ut) (up:=up) (uq:=uq) (uw:=uw) b T N hk gs s' h1 n qA w' B hR hm;have WI:=λs' (h1:gT m b s') n ut up uw w' B hm=>x6 (m:=m) (b:=b) (g:=gs) (vo:=z.vo) (md:=fQ m.g.aT m.g.bC z.vp m.mode z.vr z.va z.vg) (ut:=ut) (up:=up) (uq:=uq) (uw:=uw) dX I s' h1 n w' B hm;have hve:=λs' (h1:gT m b s') ut up uw B w' hm=>sD (m:=m) (b:=b) (g:=gs) (vo:=z.vo) (md:=fQ m.g.aT m.g.bC z.vp m.mode z.vr z.va z.vg) (ut:=ut) (up:=up) (uq:=uq) (uw:=uw) dX I s' h1 B w' hm;have adZ:=hz.mdr;have eP:=λs' out X (h:nY m b s' out X) he=>h.round hk he;have xt:(iV (kF {oP 4096 1000 with cr:=1073741824} tx).1).1=Oh [tx]:=rfl;obtain⟨d1,d2⟩:=h0.data rfl (x:=tx) J (by show 0+tx.length<=4096;omega);rw[eI]at d1;obtain⟨j1,j2⟩:=d1.ended d2;rw[xt]at j1 j2;have Bm:=Bm (kF {oP 4096 1000 with cr:=1073741824} tx).1;clear abD hz hsm h0 d1 d2;have hvn:(y.cells m).toArray[257]?=aj y.vn:=Gc (j:=256) (fj _ _ _) (by have:=lK m.o y.vn y.vt;simpa using this);have hvr:(y.cells m).toArray[263]?=aj y.vr:=je 4 (fj _ _ _) I I;have hva:(y.cells m).toArray[264]?=aj y.va:=je 5 (fj _ _ _) I I;have hvo:(y.cells m).toArray[0]?=aj y.vo:=rfl;generalize fc m.o z.vn z.vt=PK at*;generalize fQ m.g.aT m.g.bC z.vp m.mode z.vr z.va z.vg=MT at*
 try refine GA ?_
 refine bx [2,3,4,5] [0,1,6,7] akh I I (fB aI.en I I I) (λw hm hb=>Hc _ w hb) I I I ?_;intro u1 _
 conv=>arg 8;simp only[zJ,cI,ret,id_eq,wU]
 conv=>arg 7;simp only[wU]
 clear Hc
 try refine GA ?_
 refine bx [4,5,6,7] [0,1,2,3] akh I I (fB aI.en I I I) (λw hm hb=>hda _ _ _ w _ hb) I I I ?_;intro u2 _
 conv=>arg 8;simp only[zJ,cI,ret,id_eq,wU]
 conv=>arg 7;simp only[wU]
 clear hda
 try refine GA ?_
 refine bx [4,5,6,7] [0,1,2,3] akh I I (i_ aI.en I I) (λw hm hb=>Bm _ _ _ w _ hb) I I I ?_;intro u3 _
 conv=>arg 8;simp only[zJ,cI,ret,id_eq,wU]
 conv=>arg 7;simp only[wU]
 rw[xt];clear Bm xt;refine zv [0,1,2,4,5,6,7,3] ?_;refine Sm (R:=[aP g9 (y.cells m).toArray 38,jY vo Lm,oC z.Ls]++ft b gs z.vo PK MT (Oh [tx]) (ap ak 0 0) up uq u3) I hX ?_;clear hX;unfold OwX.L;refine zL ?_;obtain⟨nN,vN,FN,FO,nR,vR,FR,nA,vA,FA⟩:=X;dsimp only;refine jJ (i:=7) I fF λfJ=>?_;obtain⟨aN,cN,eN,hnN,haN⟩:=fJ;refine jJ (i:=7) (φ:=vN.length=nN) I (λw h=>by have:=h.1;simpa using this) λhNl=>?_;refine jJ (i:=10) I fF λfJ=>?_;obtain⟨aR,cR,eR,hnR,haR⟩:=fJ;refine jJ (i:=10) (φ:=vR.length=nR) I (λw h=>by have:=h.1;simpa using this) λhRl=>?_;refine jJ (i:=12) I fF λfJ=>?_;obtain⟨aA,cA,eA,hnA,haA⟩:=fJ;refine jJ (i:=12) (φ:=vA.length=nA) I (λw h=>by have:=h.1;simpa using this) λhAl=>?_;rw[eN]at hvn⊢;rw[eR]at hvr⊢;rw[eA]at hva⊢;clear eN eR eA;generalize Oh [tx]=s1 at*
 repeat(first|refine GA ?_|refine gV (aB (v:=ap aN nN cN) aK.ty I (aH (i:=0) I hvn)) ?_)
 refine rb [0,1,2,3,4,5,6,7,9,10,11,12,13,8] ?_;refine d_ (ι:=Nat) (λj=>j<=nN) (λj=>[(9,aJ (aj ⟨g9,0,ak⟩)),(11,vo),(12,av az eS),(13,av az (aS:Int)),(14,.bool aC),(15,aJ (aj ⟨gs,0,ak⟩)),(84,ap aN nN cN),(85,av az nN),(86,av az (j:Int))])
  (λ_=>[aP g9 (y.cells m).toArray 38,jY vo Lm,oC z.Ls]++ft b gs z.vo PK MT s1 (ap ak 0 0) up uq u3++[aZ 26 1 (ap aN nN cN) nN vN,xy 3 1 FO [y.vo],aZ 26 1 (ap aR nR cR) nR vR,xy 3 1 FR vR,aZ 92 1 (ap aA nA cA) nA vA,xy 94 2 FA vA,xy 3 1 FN vN]) (λj=>nN-j) 0 (bH _) ?_
 intro j i2
 by_cases c3:j<nN
 ·obtain⟨gg,rfl⟩:=haN J
  have hq:vN[0+j]?=aj (vN[j]' J):=by rw[cX];exact bK _
  have Ey:vN[j]' J∈vN:=b_ _;generalize vN[j]' J=u at hq Ey
  repeat(first|refine GA ?_|refine gV (bU bM.eq aK.ty I I c3) ?_|refine gV (aB (v:=u) aK.ty I (jh (i:=7) I hq)) ?_)
  refine xf (i:=13) I Ey (λhu=>?_) λgu mu cu csu hu z1 z2 z3=>?_
  ·subst hu
   refine aV (fB aI.en I I I) (λw hm=>mG (-1) w) I I I ?_;intro _ _;refine zL ?_
   try refine GA ?_
   exact bT (j+1) J (by show nN-(j+1)<nN-j;omega)
  subst hu;refine zL ?_;refine bx [14] [0,1,2,3,4,5,6,7,8,9,10,11,12,13] akh I I (fB aI.en I I I) (λw hm hb=>oQ gu mu cu csu (-1) w _ z1 z2 z3 I hb) I I I ?_;intro _ _;refine zL ?_
  try refine GA ?_
  refine oZ (xy 3 1 FN vN) 13 14 [0,1,2,3,4,5,6,7,8,9,10,11,12] akh I I I Fk (λw h1 h2=>Fj h1 h2 (by simp[cK.dQ])) ?_;exact bT (j+1) J (by show nN-(j+1)<nN-j;omega)
 (repeat refine bW ?_)
 refine bB ?_
 repeat(first|refine QV QP ?_|refine jg ?_|refine jA ?_|refine qs I I I I I I ?_|((try refine qg I I I ?_);first|refine QV QP ?_|refine QV (dq (b:=aE) I I (decide_eq_false J)) ?_|refine QV QL ?_|refine QV QA ?_|refine QV QlT ?_|refine QV QlF ?_|refine QV QeT ?_|refine QV QeF ?_|refine QV QnT ?_|refine QV QnF ?_|refine QV QaA ?_|refine QV QS ?_|refine QV QgT ?_|refine QV QgF ?_))
 clear c3 i2 haN hNl hvn hnN
 (repeat refine bW ?_)
 refine LL I (mT ?_)
 (repeat first|refine kP ?_|refine iQ ?_|refine jA ?_)
 (repeat refine bW ?_)
 refine lU (ι:=Unit) (λ_=>True) (λ_=>[(9,aJ (aj ⟨g9,0,ak⟩)),(11,vo),(12,av az eS),(13,av az (aS:Int)),(14,.bool aC),(15,aJ (aj ⟨gs,0,ak⟩))])
  (λ_=>[aP g9 (y.cells m).toArray 38,jY vo Lm,oC z.Ls]++ft b gs z.vo PK MT s1 (ap ak 0 0) up uq u3++[aZ 26 1 (ap aR nR cR) nR vR,aZ 92 1 (ap aA nA cA) nA vA,xy 94 2 FA vA,xy 3 1 FR vR]) ?_ ?_
 ·repeat(first|refine GA ?_|refine gV (aB (v:=y.vo) aK.ty I (aH (i:=0) I hvo)) ?_)
  refine xf (i:=8) I (dO.2 I) (λhu=>?_) λgu mu cu csu hu z1 z2 z3=>?_
  ·rw[hu]
   refine aV (fB aI.en I I I) (λw hm=>mG (-1) w) I I I ?_;intro _ _;refine zL ?_
   try refine GA ?_
   refine dm [0,1,2,3,4,5,6,9,11,12,10] ?_;exact ee () trivial (by repeat' (first|exact cT|refine cJ I ?_)) I
  rw[hu];refine zL ?_;refine bx [14] [0,1,2,3,4,5,6,9,11,12,10] akh I I (fB aI.en I I I) (λw hm hb=>oQ gu mu cu csu (-1) w _ z1 z2 z3 I hb) I I I ?_;intro _ _;refine zL ?_
  try refine GA ?_
  refine dm [0,1,2,3,4,5,6,7,8,9,10] ?_;exact ee () trivial (by repeat' (first|exact cT|refine cJ I ?_)) I
 intro _ _;clear hvo
 repeat(first|refine GA ?_|refine gV (aB (v:=ap aR nR cR) aK.ty I (aH (i:=0) I hvr)) ?_)
 refine d_ (ι:=Nat) (λj=>j<=nR) (λj=>[(9,aJ (aj ⟨g9,0,ak⟩)),(11,vo),(12,av az eS),(13,av az (aS:Int)),(14,.bool aC),(15,aJ (aj ⟨gs,0,ak⟩)),(97,ap aR nR cR),(98,av az nR),(99,av az (j:Int))])
  (λ_=>[aP g9 (y.cells m).toArray 38,jY vo Lm,oC z.Ls]++ft b gs z.vo PK MT s1 (ap ak 0 0) up uq u3++[aZ 26 1 (ap aR nR cR) nR vR,aZ 92 1 (ap aA nA cA) nA vA,xy 94 2 FA vA,xy 3 1 FR vR]) (λj=>nR-j) 0 (bH _) ?_
 intro j i2
 by_cases c3:j<nR
 ·obtain⟨gg,rfl⟩:=haR J
  have hq:vR[0+j]?=aj (vR[j]' J):=by rw[cX];exact bK _
  have Ey:vR[j]' J∈vR:=b_ _;generalize vR[j]' J=u at hq Ey
  repeat(first|refine GA ?_|refine gV (bU bM.eq aK.ty I I c3) ?_|refine gV (aB (v:=u) aK.ty I (jh (i:=7) I hq)) ?_)
  refine xf (i:=10) I Ey (λhu=>?_) λgu mu cu csu hu z1 z2 z3=>?_
  ·subst hu
   refine aV (fB aI.en I I I) (λw hm=>mG (-1) w) I I I ?_;intro _ _;refine zL ?_
   try refine GA ?_
   exact bT (j+1) J (by show nR-(j+1)<nR-j;omega)
  subst hu;refine zL ?_;refine bx [11] [0,1,2,3,4,5,6,7,8,9,10] akh I I (fB aI.en I I I) (λw hm hb=>oQ gu mu cu csu (-1) w _ z1 z2 z3 I hb) I I I ?_;intro _ _;refine zL ?_
  try refine GA ?_
  refine oZ (xy 3 1 FR vR) 10 11 [0,1,2,3,4,5,6,7,8,9] akh I I I Fk (λw h1 h2=>Fj h1 h2 (by simp[cK.dQ])) ?_;exact bT (j+1) J (by show nR-(j+1)<nR-j;omega)
 repeat(first|refine GA ?_|refine gV (aB (v:=ap aA nA cA) aK.ty I (aH (i:=0) I hva)) ?_)
 clear c3 i2 haR hRl hvr hnR;refine rb [1,2,3,4,5,6,8,9] ?_;refine d_ (ι:=Nat) (λj=>j<=nA) (λj=>[(11,vo),(12,av az eS),(13,av az (aS:Int)),(14,.bool aC),(15,aJ (aj ⟨gs,0,ak⟩)),(108,ap aA nA cA),(109,av az nA),(110,av az (j:Int))])
  (λ_=>[jY vo Lm,oC z.Ls]++ft b gs z.vo PK MT s1 (ap ak 0 0) up uq u3++[aZ 92 1 (ap aA nA cA) nA vA,xy 94 2 FA vA]) (λj=>nA-j) 0 (bH _) ?_
 intro j i2
 by_cases c3:j<nA
 ·obtain⟨gg,rfl⟩:=haA J
  have hq:vA[0+j]?=aj (vA[j]' J):=by rw[cX];exact bK _
  have Ey:vA[j]' J∈vA:=b_ _;generalize vA[j]' J=u at hq Ey
  repeat(first|refine GA ?_|refine gV (bU bM.eq aK.ty I I c3) ?_|refine gV (aB (v:=u) aK.ty I (jh (i:=6) I hq)) ?_|refine gV (bD I Sw) ?_)
  refine xf (i:=7) I Ey (λhu=>?_) λgu mu cu csu hu z1 z2 z3=>?_
  ·subst hu
   refine aV (fB aI.en I I I) (λw hm=>zj (0,0) w) I I I ?_;intro _ _;refine zL ?_
   try refine GA ?_
   exact bT (j+1) J (by show nA-(j+1)<nA-j;omega)
  subst hu;refine zL ?_;refine bx [8] [0,1,2,3,4,5,6,7] akh I I (fB aI.en I I I) (λw hm hb=>C5 gu mu cu csu (0,0) w _ z1 z2 z3 I hb) I I I ?_;intro _ _;refine zL ?_
  try refine GA ?_
  refine oZ (xy 94 2 FA vA) 7 8 [0,1,2,3,4,5,6] akh I I I (Fk (c:=cu*2)) (λw h1 h2=>Fj h1 h2 (by simp[fw])) ?_;exact bT (j+1) J (by show nA-(j+1)<nA-j;omega)
 have hEq:=λw' v v' l h1 h2=>FK v v' l Lm w' h1 h2
 try refine GA ?_
 clear c3 i2 haA hAl hva hnA;refine rb [0,1,2,3,4,5] ?_;refine jd 55 2 ?_
 conv=>arg 7;simp only[zA,zB,zC,zD,zE,zF,zG,zH,zI,cI,ret,id_eq]
 refine rb [0,1,6,2,3,4,5] ?_;refine d_ (ι:=e9×List Ev×Value×Value×Value×Value) (λ(s',out,_)=>(s'.ended=aC\/s'.over=aC)/\nY m b s' out tx/\∀r,ui m b s' out r->ui m b s1 [] r) (λ(_,_,v,_)=>[(11,vo),(12,av az eS),(13,av az (aS:Int)),(14,.bool aC),(15,aJ (aj ⟨gs,0,ak⟩)),(23,v)])
  (λ(s',out,v,ut,up,uw)=>[jY vo Lm,oC z.Ls,jY v out]++ft b gs z.vo PK MT s' ut up uq uw) (λ(s',_)=>xU s') (s1,[],ap ak 0 0,ap ak 0 0,up,u3) ⟨j2,j1,λr h=>h⟩ ?_
 clear j1 j2;rintro⟨s',out,v,ut,up,uw⟩ ⟨i2,i3,i4⟩;dsimp only at i2 i3 i4⊢;have l1:=λh=>i4 _ (ui.stop (m:=m) (b:=b) (s:=s') (out:=out) h);have l2:=λh r h2=>i4 r (ui.step (m:=m) (b:=b) (s:=s') (out:=out) (r:=r) h h2);obtain⟨k1,k2,k3,k4,k5⟩:=eP s' out _ i3 i2;have Hq:=To s' i3.x.ok 37 akh ut up uw;rw[show(37:Int).toNat=37 from I]at Hq;have Hr:=WI _ k1.x.ok 41;have hfw:=i3.we;clear To WI eP i2 i3 i4;generalize ef m b 37 s'=W at*;obtain⟨s2,n2⟩:=W;dsimp only at k1 k2 k3 k4 k5 l1 l2 Hq Hr;generalize dI s2 41=S at*;obtain⟨s3,o3⟩:=S;dsimp only at k2 k3 k4 k5 l1 l2 Hr;have hf3:=k2.we;rw[bI]at hf3
 try refine GA ?_
 refine bx [3,4,5,6] [0,1,2] akh I I (fB aI.en I I I) (λw hm hb=>Hq w _ (Gy hm [3,4,5,6] 1 akh I I adZ) hb) I I I ?_;rintro⟨u2,u3,u4⟩ _
 conv=>arg 8;simp only[zJ,cI,ret,id_eq,wkS]
 conv=>arg 7;simp only[wkS]
 try refine GA ?_
 refine bx [3,4,5,6] [0,1,2] akh I I (fB aI.en I I I) (λw hm hb=>Hr _ _ _ w _ hb) I I I ?_;rintro⟨u5,vx⟩ _
 conv=>arg 8;simp only[zJ,cI,ret,id_eq,OE]
 conv=>arg 7;simp only[OE]
 try refine GA ?_
 refine jJ (i:=7) I Zv λfJ=>?_;obtain⟨avl,cvl,rfl,ajy⟩:=fJ;refine FI (i:=2) (j:=7) I I I I (FJ _) J J I λv'=>?_;refine zL ?_;rw[KN]
 by_cases c0:n2=0/\o3.length=0
 ·obtain⟨f1,f2⟩:=k4 c0
  have hd:=(l1 c0).det aen;obtain⟨c1,c2⟩:=c0;subst c1;obtain⟨r1,r2⟩:=k2.fin f1 f2;have abE:=hve s3 k2.x.ok;rw[r2]at abE;obtain⟨e1,e2,e3⟩:out++o3=Lm/\s3.e8=eS/\s3.pl=aS:=by cases hd;exact⟨rfl,rfl,rfl⟩
  subst e1 e2 e3;have aiC:=λw' h1 h2=>hEq w' v' vo (out++o3) h1 h2;rw[decide_eq_true I]at aiC
  repeat(first|refine GC ?_|refine gV (cZ (b:=aC) I I (decide_eq_true c2)) ?_|refine GB ?_)
  refine aV (i_ aI.en I I) (λw hm=>abE u2 u3 u5 _ w (hm.pick [3,4,5,6] akh I)) I I I ?_;intro _ _;refine zL ?_
  try refine GA ?_
  refine aV (fB aI.en I I I) (λw hm=>aiC w (lm (i:=2) I _ hm) (lm (i:=0) I _ hm)) I I I ?_;intro _ _;refine zL ?_
  repeat(first|refine GC ?_|refine gV (cZ (b:=aC) I I (decide_eq_true I)) ?_|refine gV (A8 (c:=aC) Tryz.underlying4 I I I) ?_|refine GB ?_)
  exact eH
 ·by_cases c1:n2=0
  ·subst c1
   repeat(first|refine GC ?_|refine gV (cZ (b:=aE) I I (decide_eq_false λh=>c0 ⟨rfl,h⟩)) ?_|refine GB ?_)
   refine dm [0,1,2,3,4,5,6] ?_;exact bT (s3,out++o3,v',u2,u3,u5) ⟨k3,k2,l2 c0⟩ (k5 c0)
  repeat(first|refine GC ?_|refine gV (cZ (b:=aE) I I (decide_eq_false (show ¬(n2:Int)=0 by omega))) ?_|refine GB ?_)
  refine dm [0,1,2,3,4,5,6] ?_;exact bT (s3,out++o3,v',u2,u3,u5) ⟨k3,k2,l2 c0⟩ (k5 c0)
end sessionOwn
end Go.Proofs.YtdmgcnggnejnnaaGreat

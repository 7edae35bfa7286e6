/- Part 6 of what SessionOnce needs: SeQ, FeedN, SeU, SeR, SeV, ActK, SeC, Fill, WhR, SeD, SeW, SeX, SeY, SeOn, SessionOnceW. -/
import Derived.Test.YtaobbfedlnddcaaGreatMgE
namespace Go.Proofs.YtaobbfedlnddcaaGreat
set_option linter.unusedVariables false
set_option linter.unusedSimpArgs false
open _root_.And renaming intro->bX
open _root_.Array renaming foldl_toList->aaq
open _root_.Bool renaming false->aE,true->aD,false_eq_true->EL
open _root_.Decidable renaming of_not_not->sQ
open _root_.Go.Instr renaming build->dh,fill->jB
open _root_.Go.IntKind renaming i64->az
open _root_.Go.Op renaming equalIn->lJ
open _root_.Go.Proofs.Tryz renaming prog->aB
open _root_.Go.Value renaming slice->ap,int->av,pointer->aJ,agg->aQ,oneCell'->eZ,cells->sR
open _root_.Go.Value.agg renaming injEq->lV
open _root_.Go.Value.slice renaming injEq->iX
open _root_.List renaming getElem?_eq_getElem->bD,getD_eq_getElem?_getD->b9,length_append->bI,getElem_mem->cD,length_cons->de,all_cons->cZ,all_nil->db,take_succ_eq_append_getElem->iv,mem_cons->dA,append_nil->dW,append_assoc->eD,nil_append->eu,take_of_length_le->gB,mem_cons_self->gd,not_mem_nil->fv,mem_iff_getElem->hY,length_drop->jc,length_nil->ia,cons_append->iY,length_singleton->lW,any_eq_false->sX,setIfInBounds_toArray->ux,flatten_append->A1,mem_flatMap->Au,set_append->A2,flatMap_nil->aar
open _root_.Nat renaming le_refl->bx,zero_le->bH,zero_add->cV,le_of_ble_eq_true->nf,add_assoc->kZ,add_zero->jC,succ_le_succ->Q4,succ_pos->DB
open _root_.Option renaming some->aj,none->ak,getD_some->kp
open _root_.Prod renaming snd->A3
open _root_.True renaming intro->bZ
set_option maxHeartbeats 16000000
namespace cI
open Go.RowKit cU dS aT dP fh gT jQ bJ mM gu
open iz (Ev rZ takeN Gl Kf oe yx H6)
theorem wI{v:Value}{a b:Int}(h:v.oneCell'=aD):([v,av az a,av az b]:List Value).all eZ=true:=by
 simp only[cZ,db,h];rfl
theorem Kq{w:World}{e:TypeId}{c n:Nat}{v:Value}{xs:List Value}(h:(a_ e c v n xs).holds w):∃a k,v=ap a n k:=by
 rcases h.2 with⟨rfl,rfl⟩|⟨g,cap,jS,rfl,_⟩
 exact⟨_,_,rfl⟩;exact⟨_,_,rfl⟩
theorem SV{w:World}{v:Value}{l:List Ev}(h:(kV v l).holds w):Sl w v l.length (l.flatMap tE):=Sl.dB h
theorem afe{a l:List Ev}{c g:Int}(h0:iz.b_ a c g=0)(h1:l.any rZ=aE)(h2:a.length+l.length<=4200):Gl a c g l=0:=by
 unfold Gl;rw[if_neg (by rw[h0];simp),if_neg (by rw[h1];decide),if_neg J]
section
variable{g:Nat}{vo:Value}{pk md:List Value}{vt vw:Value}{pc:List Value}(dG:pk.length=258)(ml:md.length=7)(rb:pc.length=8)
include dG ml rb
set_option maxRecDepth 100000 in
theorem oI(s:eP)(vl:Value)(l:List Ev)(hg:iz.b_ s.wait s.cr s.gone=0)(hl:l.any rZ=aE)(hn:s.wait.length+l.length<=4200)(w:World)(B:bO)(hm:Mem B [oM g vo pk md s vt pc vw,kV vw s.wait,kV vl l] w):
 Calls aB 93 #[aJ (aj ⟨g,0,ak⟩),vl] w (cY ⟨λ_=>True,λ_=> .tuple #[],λJU=>nT g vo pk md {s with wait:=s.wait++l} vt pc JU⟩ B):=by
 have Mv:=λw' (h1:(kV vw s.wait).holds w') (h2:(kV vl l).holds w')=>QX vw s.wait s.cr s.gone vl l w' (SV h1) J (SV h2);have hp:=afe hg hl hn;have Vu:Kf s.wait s.cr s.gone l=s.wait++l:=by unfold Kf;rw[if_pos hp]
 rw[hp,Vu]at Mv;obtain⟨m0,m1,m2,m3,m4,m5,m6,rfl⟩:=rS ml;obtain⟨p0,p1,p2,p3,p4,p5,p6,p7,rfl⟩:=rT rb;refine dm hm (args:=[aJ (aj ⟨g,0,ak⟩),vl]) (n:=16) Tryz.func93 I I I ?_
 repeat(first|refine GA ?_|refine gV (a8 (cs:=[vw,av az s.cr,av az s.gone]) aK.ty I I (λj v h=>aH (i:=0) I (lp 26 dG I h J))) ?_)
 refine aV (fO aI.en I I I) (λw' hm=>Mv w' (hm.get (i:=1) I) (hm.get (i:=2) I)) I I I ?_;intro v1 _
 conv=>arg 8;simp only[zJ,cK,ret,id_eq,QU,cK]
 conv=>arg 7;simp only[QU,cK,zQ]
 try refine GA ?_
 refine aU (i:=3) I λ_ kT=>iA (i:=0) 26 (cs:=[v1,av az s.cr,av az s.gone]) I I I (wI kT) I I dG I I ?_;refine zL ?_
 try refine GA ?_
 exact jG I λw hm=>hm.bV (S:=⟨λ_=>True,λ_=> .tuple #[],λJU=>nT g vo pk [m0,m1,m2,m3,m4,m5,m6] {s with wait:=s.wait++l} vt [p0,p1,p2,p3,p4,p5,p6,p7] JU⟩) v1 trivial [0,3] aiT rfl
set_option maxRecDepth 100000 in
theorem Gq(s:eP)(n:Int)(hg:iz.b_ s.wait s.cr s.gone=0)(w:World)(B:bO)(hm:Mem B (nT g vo pk md s vt pc vw) w):
 Calls aB 12 #[aJ (aj ⟨g,0,ak⟩),av az n] w (cY (rU g vo pk md (og s n) vt pc) B):=by
 obtain⟨k1,k2,k3,k4,k5,-⟩:=iz.cP hg;have NS:=λw' (h1:(kV vw s.wait).holds w')=>Km vw s.wait s.cr s.gone n w' (SV h1) J;obtain⟨m0,m1,m2,m3,m4,m5,m6,rfl⟩:=rS ml;obtain⟨p0,p1,p2,p3,p4,p5,p6,p7,rfl⟩:=rT rb;obtain⟨aw,cw,rfl⟩:=Kq (hm.get (i:=1) rfl);unfold og
 by_cases c1:s.over=aD/\s.wait=[]
 ·rw[if_pos c1]
  obtain⟨c1,c2⟩:=c1;have c3:s.wait.length=0:=by rw[c2];rfl
  refine dm hm (args:=[aJ (aj ⟨g,0,ak⟩),av az n]) (n:=31) Tryz.func12 I I I ?_
  repeat(first|refine GA ?_|refine gV (aC (v:= .bool aD) aK.ty I (aH (i:=0) I (eC dG I (by rw[<-c1];rfl)))) ?_|refine gV (aC aK.ty I (aH (i:=0) I (eC dG I I))) ?_)
  exact cJ I I λw hm=>hm.bV (S:=rU g vo pk [m0,m1,m2,m3,m4,m5,m6] (s,15) vt [p0,p1,p2,p3,p4,p5,p6,p7]) _ trivial [0,1] aiT I
 rw[if_neg c1];have adw:∀(S:Spec Value) (e c':Int),(∀v,S.ok v)->(∀v,S.val v=av az e)->(∀v,S.own v=nT g vo pk [m0,m1,m2,m3,m4,m5,m6] {s with cr:=c'} vt [p0,p1,p2,p3,p4,p5,p6,p7] v)->yx s.wait s.cr s.gone n=c'->oe s.wait s.cr s.gone n=e->Calls aB 12 #[aJ (aj ⟨g,0,ak⟩),av az n] w (cY S B):=by
  intro S e c' s1 s2 s3 e1 e2;rw[e1,e2]at NS;have ja:∀v1 L w,L[0]?=aj (oM g vo pk [m0,m1,m2,m3,m4,m5,m6] {s with cr:=c'} vt [p0,p1,p2,p3,p4,p5,p6,p7] v1)->L[2]?=aj (kV v1 s.wait)->Mem B L w->cY S B (.returned (av az e)) w:=λv1 L w h0 h2 hm=>by
   rw[<-s2 v1];exact hm.bV v1 (s1 _) [0,2] aiT (by rw[s3];simp only[List.filterMap_cons,List.filterMap_nil,h0,h2])
  rcases(Bool.eq_false_or_eq_true s.over)with c2|c2
  ·have c3:¬s.wait.length=0:=λh=>c1 ⟨c2,List.eq_nil_of_length_eq_zero h⟩
   refine dm hm (args:=[aJ (aj ⟨g,0,ak⟩),av az n]) (n:=31) Tryz.func12 I I I ?_
   repeat(first|refine GA ?_|refine gV (aC (v:= .bool aD) aK.ty I (aH (i:=0) I (eC dG I (by rw[<-c2];rfl)))) ?_|refine gV (aC aK.ty I (aH (i:=0) I (eC dG I I))) ?_|refine gV (a8 (cs:=[_,av az s.cr,av az s.gone]) aK.ty I I (λj v h=>aH (i:=0) I (lp 26 dG I h J))) ?_)
   refine aV (fO aI.en I I I) (λw' hm=>NS w' (hm.get (i:=1) I)) I I I ?_;intro v1 _
   conv=>arg 8;simp only[zJ,cK,ret,id_eq,QU,cK]
   conv=>arg 7;simp only[QU,cK,zQ]
   try refine GA ?_
   refine aU (i:=2) I λ_ kT=>iA (i:=0) 26 (cs:=[v1,av az c',av az s.gone]) I I I (wI kT) I I dG I I ?_;refine zL ?_
   try refine GA ?_
   exact cJ I I λw hm=>ja v1 _ w I I hm
  refine dm hm (args:=[aJ (aj ⟨g,0,ak⟩),av az n]) (n:=31) Tryz.func12 I I I ?_
  repeat(first|refine GA ?_|refine gV (aC (v:= .bool aE) aK.ty I (aH (i:=0) I (eC dG I (by rw[<-c2];rfl)))) ?_|refine gV (aC aK.ty I (aH (i:=0) I (eC dG I I))) ?_|refine gV (a8 (cs:=[_,av az s.cr,av az s.gone]) aK.ty I I (λj v h=>aH (i:=0) I (lp 26 dG I h J))) ?_)
  refine aV (fO aI.en I I I) (λw' hm=>NS w' (hm.get (i:=1) I)) I I I ?_;intro v1 _
  conv=>arg 8;simp only[zJ,cK,ret,id_eq,QU,cK]
  conv=>arg 7;simp only[QU,cK,zQ]
  try refine GA ?_
  refine aU (i:=2) I λ_ kT=>iA (i:=0) 26 (cs:=[v1,av az c',av az s.gone]) I I I (wI kT) I I dG I I ?_;refine zL ?_
  try refine GA ?_
  exact cJ I I λw hm=>ja v1 _ w I I hm
 by_cases c2:n<1\/1073741824<n
 ·rw[if_pos c2]
  have e1:oe s.wait s.cr s.gone n=1:=by
   unfold oe;rw[if_neg (by rw[hg];simp)]
   by_cases c3:n<1
   rw[if_pos c3];rw[if_neg c3,if_pos J]
  exact adw _ 1 s.cr (λ_=>trivial) (λ_=>rfl) (λ_=>rfl) (by unfold yx;rw[if_neg (by rw[e1];decide)]) e1
 ·rw[if_neg c2]
  have e1:oe s.wait s.cr s.gone n=0:=by
   unfold oe;rw[if_neg (by rw[hg];simp),if_neg J,if_neg J]
  exact adw _ 0 _ (λ_=>trivial) (λ_=>rfl) (λ_=>rfl) (by unfold yx;rw[if_pos e1]) e1
set_option maxRecDepth 100000 in
theorem Kr(s:eP)(n:Int)(hg:iz.b_ s.wait s.cr s.gone=0)(w:World)(B:bO)(hm:Mem B (nT g vo pk md s vt pc vw) w):
 Calls aB 15 #[aJ (aj ⟨g,0,ak⟩),av az n] w (cY ⟨λ(_:Value×Value)=>True,λx=>x.2,λx=>nT g vo pk md (ka s n).1 vt pc x.1++[kV x.2 (ka s n).2]⟩ B):=by
 obtain⟨k1,k2,k3,k4,k5,-⟩:=iz.cP hg;have qf:=λw' (h1:(kV vw s.wait).holds w')=>Nn vw s.wait s.cr s.gone n w' (SV h1) J;have yH:∀w',(kV vw s.wait).holds w'->Calls aB 33 #[zQ vw s.cr s.gone,av az n] w' (cB ⟨λ_=>True,λ(x:Value×Value)=> .tuple #[zQ x.1 (ka s n).1.cr (ka s n).1.gone,x.2,av az (if n<0 then 1 else 0)],λx=>[kV x.1 (ka s n).1.wait,kV x.2 (ka s n).2]⟩ w'):=by
  intro w' h1;have h:=qf w' h1;unfold taS H6 at h;simp only[hg,ne_eq,not_true_eq_false,if_false]at h;unfold ka
  by_cases c:n<0
  ·simp only[if_pos c]at h⊢
   exact h
  simp only[if_neg c]at h⊢;have hN:takeN s.wait s.cr n<=s.wait.length:=by unfold takeN;omega
  have e1:(s.wait.drop (takeN s.wait s.cr n)).length=s.wait.length-takeN s.wait s.cr n:=by simp
  have e2:(s.wait.take (takeN s.wait s.cr n)).length=takeN s.wait s.cr n:=by simp;omega
  unfold kV;rw[e1,e2];exact h
 have Xt:(ka s n).1={s with wait:=(ka s n).1.wait,cr:=(ka s n).1.cr,gone:=(ka s n).1.gone}:=by
  unfold ka;split<;>rfl
 rw[Xt];clear qf;generalize (ka s n).1.wait=W at*;generalize (ka s n).1.cr=C at*;generalize (ka s n).1.gone=G at*;generalize (ka s n).2=O at*;generalize (if n<0 then(1:Int)else 0)=E at*;obtain⟨m0,m1,m2,m3,m4,m5,m6,rfl⟩:=rS ml;obtain⟨p0,p1,p2,p3,p4,p5,p6,p7,rfl⟩:=rT rb;refine dm hm (args:=[aJ (aj ⟨g,0,ak⟩),av az n]) (n:=19) Tryz.func15 I I I ?_
 repeat(first|refine GA ?_|refine gV (a8 (cs:=[vw,av az s.cr,av az s.gone]) aK.ty I I (λj v h=>aH (i:=0) I (lp 26 dG I h J))) ?_)
 refine aV (fO aI.en I I I) (λw' hm=>yH w' (hm.get (i:=1) I)) I I I ?_;rintro⟨v1,v2⟩ _;refine zL ?_
 conv=>arg 7;simp only[zQ]
 try refine GA ?_
 refine aU (i:=2) I λ_ kT=>iA (i:=0) 26 (cs:=[v1,av az C,av az G]) I I I (wI kT) I I dG I I ?_;refine zL ?_
 try refine GA ?_
 exact cJ I I λw hm=>hm.bV (S:=⟨λ_=>True,λ(x:Value×Value)=>x.2,λx=>nT g vo pk [m0,m1,m2,m3,m4,m5,m6] {s with wait:=W,cr:=C,gone:=G} vt [p0,p1,p2,p3,p4,p5,p6,p7] x.1++[kV x.2 O]⟩) (v1,v2) trivial [0,2,3] aiT rfl
end
set_option maxRecDepth 100000 in
theorem Gs(x:Value)(m:Md){vo vn vt vp vr va vg ut up uq uw:Value}(T N:Nat)(hk:jA m aD T N)(g:Nat)(s:eP)(hp:SO m aD s.p)(F9:s.l6=0)(OP:s.mc=aE)(t:Nat)(ha:s.seen<=1000000)(ht:t<T)(hg:iz.b_ s.wait s.cr s.gone=0)(hw:s.wait.length<=2199)(w:World)(B:bO)(hR:nS B λw=>CO w x m vo vn vt vp vr va vg)
 (hm:Mem B [oM g vo (eY m.o vn vt) (fK m.g.aR m.g.bC vp m.mode vr va vg) s ut (iV aD s up uq) uw,qj aD up s.p,kV uw s.wait] w):
 Calls aB 61 #[aJ (aj ⟨g,0,ak⟩),av az (t:Int)] w (cY ⟨λ(_:Value×Value)=>True,λ_=>av az (s8 m aD s (t:Int)).2,λx=>[qj aD x.1 (s8 m aD s (t:Int)).1.p,oM g vo (eY m.o vn vt) (fK m.g.aR m.g.bC vp m.mode vr va vg) (s8 m aD s (t:Int)).1 ut (iV aD (s8 m aD s (t:Int)).1 x.1 uq) x.2,kV x.2 (s8 m aD s (t:Int)).1.wait]⟩ B):=by
 have dG:(eY m.o vn vt).length=258:=fN _ _ _;have Q5:=Kj hk hp (a:=s.seen) ha (t:=(t:Int)) J;have w4:(kC m aD s.p s.seen (t:Int)).2.2.length<=2001:=by
  by_cases c:(kC m aD s.p s.seen (t:Int)).1=0
  exact(wF hk hp J c).2;rw[show(kC m aD s.p s.seen (t:Int)).2.2=[]from congrArg A3 (Ia c)];exact bH _
 obtain⟨p1,p2⟩:=hp;obtain⟨h1,h2⟩:=hk.ll rfl;have ml:m.mode=1:=hk.md;have hc:=λw' (hm:Mem B [oM g vo (eY m.o vn vt) (fK m.g.aR m.g.bC vp m.mode vr va vg) s ut (iV aD s up uq) uw,qj aD up s.p,kV uw s.wait] w')=>Q3 _ vr up m.g m.rows T N s.p s.seen t w' (hR _ w' hm).Ba (hR _ w' hm).rows (Sl.dB (hm.get (i:=1) I)) h1 hk.Ba h2 p1 p2 ha ht;have Wn:=λ(s':eP) pc' vl l h1 h2 h3 h4 w' B hm=>oI (g:=g) (vo:=vo) (vt:=ut) (vw:=uw) (pc:=pc') dG (show(fK m.g.aR m.g.bC vp m.mode vr va vg).length=7 from I) h4 s' vl l h1 h2 h3 w' B hm;unfold s8;rw[show kC m aD s.p s.seen (t:Int)=((jX m.g.aF (iH m.rows t) s.p.1 s.seen (t:Int)).1,((jX m.g.aF (iH m.rows t) s.p.1 s.seen (t:Int)).2.1,s.p.2),(jX m.g.aF (iH m.rows t) s.p.1 s.seen (t:Int)).2.2)from I]at Q5 w4⊢;generalize jX m.g.aF (iH m.rows t) s.p.1 s.seen (t:Int)=R at*;obtain⟨e,st,o⟩:=R;generalize eY m.o vn vt=PK at*;generalize m.g.aR=gt at*;generalize m.g.bC=gn at*;generalize m.mode=md at*;clear hR hk;dsimp only at Q5 w4⊢;obtain⟨il,iJ,dC,im,ended,jy,du,gI,iN,bad,dH,p,seen,l6,mc,wait,cr,gone,over,eg,pl⟩:=s;dsimp only at*;subst F9 OP;refine dm hm (args:=[aJ (aj ⟨g,0,ak⟩),av az (t:Int)]) (n:=62) Tryz.func61 I I I ?_
 repeat(first|refine GA ?_|refine gV (aC (v:=av az md) aK.ty I (aH (i:=0) I (eC dG I I))) ?_)
 refine dN ([xd g (jd vo PK (fK gt gn vp md vr va vg)) 102]) (.calm 0 (.calm 1 (.calm 2 (.calm 3 (.calm 4 (.calm 5 (.calm 6 (.calm 7 (.calm 8 (.calm 9 (.calm 10 (.calm 11 (.calm 12 (.calm 13 (.calm 15 (.one 14 (.one 16 (.calm 17 (.calm 18 (.calm 19 (.calm 20 (.calm 21 (.calm 22 (.one 23 (.calm 24 (.calm 25 (.done))))))))))))))))))))))))))) (ed (i:=0) I (gH _ _ _ _)) ?_
 repeat(first|refine GW ?_|(refine GN ?_;first|refine QW (a8 (cs:=[av az gt,av az gn,vp]) aK.ty I I (λj v h=>mN (i:=0) I (lp 0 dG I h J))) ?_|refine QW (aC (v:=vr) aK.ty I (mN (i:=0) I (jh 4 dG I I))) ?_))
 refine aL I (dx (a8 (cs:=[up,av az seen,av az 0,.bool aE]) aK.ty I I (λj v h=>aH (i:=0) I (lp 18 dG I h J))) I I I (aM (ed (i:=0) I (gH _ _ _ _)) ?_))
 try refine GW ?_
 refine aL I (aV (Ti aI.en I I I I I) (λw hm=>hc w hm) I I I ?_);rintro⟨v1,v2⟩ _
 conv=>arg 8;simp only[zJ,cK,ret,id_eq,tkA]
 conv=>arg 7;simp only[tkA,te]
 refine aM (ed (i:=0) I (gH _ _ _ _)) ?_
 try refine GW ?_
 refine aL I (aU (i:=3) I λ_ kT=>iA (i:=0) 18 (cs:=[v1,av az ((if e=0 then seen+1 else seen:Nat):Int),av az e,.bool aE]) (tl':=fK gt gn vp md vr va vg++oF ⟨il,iJ,dC,im,ended,jy,du,gI,iN,bad,dH,(st,p.2),if e=0 then seen+1 else seen,e,aE,wait,cr,gone,over,eg,pl⟩ ut (iV aD ⟨il,iJ,dC,im,ended,jy,du,gI,iN,bad,dH,(st,p.2),if e=0 then seen+1 else seen,e,aE,wait,cr,gone,over,eg,pl⟩ v1 uq) uw) I I I (CV kT) I I dG I I ?_);refine zL ?_;refine aM (ed (i:=0) I (gH _ _ _ _)) ?_
 try refine GW ?_
 try refine GA ?_
 refine bm [0,2,4] [3] aiT I I (fO aI.en I I I) (λw hm hb=>Wn ⟨il,iJ,dC,im,ended,jy,du,gI,iN,bad,dH,(st,p.2),if e=0 then seen+1 else seen,e,aE,wait,cr,gone,over,eg,pl⟩ (iV aD ⟨il,iJ,dC,im,ended,jy,du,gI,iN,bad,dH,(st,p.2),if e=0 then seen+1 else seen,e,aE,wait,cr,gone,over,eg,pl⟩ v1 uq) v2 o hg (sX.2 λy hy=>by rw[Q5 y hy];decide) (by show wait.length+o.length<=4200;omega) I w _ hb) I I I ?_;intro JU _;refine zL ?_
 try refine GA ?_
 exact cJ I I λw hm=>hm.bV (S:=⟨λ_=>True,λ_=>av az e,λ(x:Value×Value)=>[qj aD x.1 (st,p.2),oM g vo PK (fK gt gn vp md vr va vg) ⟨il,iJ,dC,im,ended,jy,du,gI,iN,bad,dH,(st,p.2),if e=0 then seen+1 else seen,e,aE,wait++o,cr,gone,over,eg,pl⟩ ut (iV aD ⟨il,iJ,dC,im,ended,jy,du,gI,iN,bad,dH,(st,p.2),if e=0 then seen+1 else seen,e,aE,wait++o,cr,gone,over,eg,pl⟩ x.1 uq) x.2,kV x.2 (wait++o)]⟩) (v1,JU) trivial [0,1,2] aiT I
set_option maxRecDepth 100000 in
theorem Ks(x:Value)(m:Md){vo vn vt vp vr va vg ut up uq uw:Value}(T N:Nat)(hk:jA m aD T N)(g:Nat)(s:eP)(hp:SO m aD s.p)(F9:s.l6=0)(OP:s.mc=aE)(ha:s.seen<=1000000)(hg:iz.b_ s.wait s.cr s.gone=0)(hw:s.wait.length<=2199)(w:World)(B:bO)(hR:nS B λw=>CO w x m vo vn vt vp vr va vg)
 (hm:Mem B [oM g vo (eY m.o vn vt) (fK m.g.aR m.g.bC vp m.mode vr va vg) s ut (iV aD s up uq) uw,qj aD up s.p,kV uw s.wait] w):
 Calls aB 64 #[aJ (aj ⟨g,0,ak⟩)] w (cY ⟨λ(_:Value×Value)=>True,λ_=>av az (q9 m aD s).2,λx=>[qj aD x.1 (q9 m aD s).1.p,oM g vo (eY m.o vn vt) (fK m.g.aR m.g.bC vp m.mode vr va vg) (q9 m aD s).1 ut (iV aD (q9 m aD s).1 x.1 uq) x.2,kV x.2 (q9 m aD s).1.wait]⟩ B):=by
 have dG:(eY m.o vn vt).length=258:=fN _ _ _;have Q5:=QT hk hp (a:=s.seen) ha;have w4:(v7 m aD s.p s.seen).2.length<=2001:=by
  have:=Fo hk hp (a:=s.seen)
  by_cases c:(v7 m aD s.p s.seen).1=0
  exact this.1 c;rw[this.2 c];exact bH _
 obtain⟨p1,p2⟩:=hp;obtain⟨h1,h2⟩:=hk.ll rfl;have ml:m.mode=1:=hk.md;have hc:=λw' (hm:Mem B [oM g vo (eY m.o vn vt) (fK m.g.aR m.g.bC vp m.mode vr va vg) s ut (iV aD s up uq) uw,qj aD up s.p,kV uw s.wait] w')=>Vf _ vr up m.g m.rows T N s.p.1 s.seen  w' (hR _ w' hm).Ba (hR _ w' hm).rows (Sl.dB (hm.get (i:=1) I)) h1 hk.Ba h2 p1 p2 ha;have Wn:=λ(s':eP) pc' vl l h1 h2 h3 h4 w' B hm=>oI (g:=g) (vo:=vo) (vt:=ut) (vw:=uw) (pc:=pc') dG (show(fK m.g.aR m.g.bC vp m.mode vr va vg).length=7 from I) h4 s' vl l h1 h2 h3 w' B hm;unfold q9;have hT:=hk.tT;rw[show v7 m aD s.p s.seen=jz m.g.aF (iH m.rows m.g.aR.toNat) s.p.1 from I,show m.g.aR.toNat=T by omega]at Q5 w4⊢;clear hT;generalize jz m.g.aF (iH m.rows T) s.p.1=R at*;obtain⟨e,o⟩:=R;generalize eY m.o vn vt=PK at*;generalize m.g.aR=gt at*;generalize m.g.bC=gn at*;generalize m.mode=md at*;clear hR hk;dsimp only at Q5 w4⊢;obtain⟨il,iJ,dC,im,ended,jy,du,gI,iN,bad,dH,p,seen,l6,mc,wait,cr,gone,over,eg,pl⟩:=s;dsimp only at*;subst F9 OP;refine dm hm (args:=[aJ (aj ⟨g,0,ak⟩)]) (n:=58) Tryz.func64 I I I ?_
 repeat(first|refine GA ?_|refine gV (aC (v:=av az md) aK.ty I (aH (i:=0) I (eC dG I I))) ?_)
 refine dN ([xd g (jd vo PK (fK gt gn vp md vr va vg)) 102]) (.calm 0 (.calm 1 (.calm 2 (.calm 3 (.calm 4 (.calm 5 (.calm 6 (.calm 7 (.calm 8 (.calm 9 (.calm 10 (.calm 11 (.calm 12 (.calm 13 (.one 14 (.one 15 (.calm 16 (.calm 17 (.calm 18 (.calm 19 (.calm 20 (.calm 21 (.one 22 (.calm 23 (.calm 24 (.done)))))))))))))))))))))))))) (ed (i:=0) I (gH _ _ _ _)) ?_
 repeat(first|refine GW ?_|(refine GN ?_;first|refine QW (a8 (cs:=[av az gt,av az gn,vp]) aK.ty I I (λj v h=>mN (i:=0) I (lp 0 dG I h J))) ?_|refine QW (aC (v:=vr) aK.ty I (mN (i:=0) I (jh 4 dG I I))) ?_))
 refine aL I (dx (a8 (cs:=[up,av az seen,av az 0,.bool aE]) aK.ty I I (λj v h=>aH (i:=0) I (lp 18 dG I h J))) I I I (aM (ed (i:=0) I (gH _ _ _ _)) ?_))
 try refine GW ?_
 refine aL I (aV (rX aI.en I I I I) (λw hm=>hc w hm) I I I ?_);intro v2 _
 conv=>arg 8;simp only[zJ,cK,ret,id_eq,enA]
 conv=>arg 7;simp only[enA,te]
 refine aM (ed (i:=0) I (gH _ _ _ _)) ?_
 try refine GW ?_
 refine aL I (iA (i:=0) 18 (cs:=[ap ak 0 0,av az seen,av az e,.bool (decide (e=0))]) (tl':=fK gt gn vp md vr va vg++oF ⟨il,iJ,dC,im,ended,jy,du,gI,iN,bad,dH,yy aD p,seen,e,decide (e=0),wait,cr,gone,over,eg,pl⟩ ut (iV aD ⟨il,iJ,dC,im,ended,jy,du,gI,iN,bad,dH,yy aD p,seen,e,decide (e=0),wait,cr,gone,over,eg,pl⟩ (ap ak 0 0) uq) uw) I I I (CV I) I I dG I I ?_);refine zL ?_;refine aM (ed (i:=0) I (gH _ _ _ _)) ?_
 try refine GW ?_
 try refine GA ?_
 refine bm [0,2,3] [1] aiT I I (fO aI.en I I I) (λw hm hb=>Wn ⟨il,iJ,dC,im,ended,jy,du,gI,iN,bad,dH,yy aD p,seen,e,decide (e=0),wait,cr,gone,over,eg,pl⟩ (iV aD ⟨il,iJ,dC,im,ended,jy,du,gI,iN,bad,dH,yy aD p,seen,e,decide (e=0),wait,cr,gone,over,eg,pl⟩ (ap ak 0 0) uq) v2 o hg (sX.2 λy hy=>by rw[Q5 y hy];decide) (by show wait.length+o.length<=4200;omega) I w _ hb) I I I ?_;intro JU _;refine zL ?_
 try refine GA ?_
 refine dK 159 4 ?_;exact cJ I I λw hm=>hm.bV (S:=⟨λ_=>True,λ_=>av az e,λ(x:Value×Value)=>[qj aD x.1 (yy aD p),oM g vo PK (fK gt gn vp md vr va vg) ⟨il,iJ,dC,im,ended,jy,du,gI,iN,bad,dH,yy aD p,seen,e,decide (e=0),wait++o,cr,gone,over,eg,pl⟩ ut (iV aD ⟨il,iJ,dC,im,ended,jy,du,gI,iN,bad,dH,yy aD p,seen,e,decide (e=0),wait++o,cr,gone,over,eg,pl⟩ x.1 uq) x.2,kV x.2 (wait++o)]⟩) (ap ak 0 0,JU) trivial [3,1,2] aiT I
set_option maxRecDepth 100000 in
theorem Gt(x:Value)(m:Md){vo vn vt vp vr va vg ut up uq uw:Value}(T N:Nat)(hk:jA m aE T N)(g:Nat)(s:eP)(hp:SO m aE s.p)(F9:s.l6=0)(OP:s.mc=aE)(t:Nat)(ha:s.seen<=1000000)(ht:t<T)(hg:iz.b_ s.wait s.cr s.gone=0)(hw:s.wait.length<=2199)(w:World)(B:bO)(hR:nS B λw=>CO w x m vo vn vt vp vr va vg)
 (hm:Mem B [oM g vo (eY m.o vn vt) (fK m.g.aR m.g.bC vp m.mode vr va vg) s ut (iV aE s up uq) uw,qj aE up s.p,kV uw s.wait] w):
 Calls aB 61 #[aJ (aj ⟨g,0,ak⟩),av az (t:Int)] w (cY ⟨λ(_:Value×Value)=>True,λ_=>av az (s8 m aE s (t:Int)).2,λx=>[qj aE x.1 (s8 m aE s (t:Int)).1.p,oM g vo (eY m.o vn vt) (fK m.g.aR m.g.bC vp m.mode vr va vg) (s8 m aE s (t:Int)).1 ut (iV aE (s8 m aE s (t:Int)).1 x.1 uq) x.2,kV x.2 (s8 m aE s (t:Int)).1.wait]⟩ B):=by
 have dG:(eY m.o vn vt).length=258:=fN _ _ _;have Q5:=Kj hk hp (a:=s.seen) ha (t:=(t:Int)) J;have w4:(kC m aE s.p s.seen (t:Int)).2.2.length<=2001:=by
  by_cases c:(kC m aE s.p s.seen (t:Int)).1=0
  exact(wF hk hp J c).2;rw[show(kC m aE s.p s.seen (t:Int)).2.2=[]from congrArg A3 (wH _ _ _ c)];exact bH _
 obtain⟨p1,p2,p3⟩:=hp;have h2:=hk.lr I;have ml:m.mode=2:=hk.md;have hc:=λw' (hm:Mem B [oM g vo (eY m.o vn vt) (fK m.g.aR m.g.bC vp m.mode vr va vg) s ut (iV aE s up uq) uw,qj aE up s.p,kV uw s.wait] w')=>acJ _ (aQ #[va,vg]) up m.g T N m.A m.G s.p s.seen t w' (hR _ w' hm).Ba (hR _ w' hm).pt (Sl.dB (hm.get (i:=1) I)) h2 p2 p1 p3 ht ha;have Wn:=λ(s':eP) pc' vl l h1 h2 h3 h4 w' B hm=>oI (g:=g) (vo:=vo) (vt:=ut) (vw:=uw) (pc:=pc') dG (show(fK m.g.aR m.g.bC vp m.mode vr va vg).length=7 from I) h4 s' vl l h1 h2 h3 w' B hm;unfold s8;rw[show kC m aE s.p s.seen (t:Int)=((f_ m.g.aF (iM m.A) (fa m.G) t s.seen 2001 s.p.2 []).1,(s.p.1,(f_ m.g.aF (iM m.A) (fa m.G) t s.seen 2001 s.p.2 []).2.1),(f_ m.g.aF (iM m.A) (fa m.G) t s.seen 2001 s.p.2 []).2.2)from I]at Q5 w4⊢;generalize f_ m.g.aF (iM m.A) (fa m.G) t s.seen 2001 s.p.2 []=R at*;obtain⟨e,st,o⟩:=R;generalize eY m.o vn vt=PK at*;generalize m.g.aR=gt at*;generalize m.g.bC=gn at*;generalize m.mode=md at*;clear hR hk;dsimp only at Q5 w4⊢;obtain⟨il,iJ,dC,im,ended,jy,du,gI,iN,bad,dH,p,seen,l6,mc,wait,cr,gone,over,eg,pl⟩:=s;dsimp only at*;subst F9 OP;refine dm hm (args:=[aJ (aj ⟨g,0,ak⟩),av az (t:Int)]) (n:=62) Tryz.func61 I I I ?_
 repeat(first|refine GA ?_|refine gV (aC (v:=av az md) aK.ty I (aH (i:=0) I (eC dG I I))) ?_)
 refine dN ([xd g (jd vo PK (fK gt gn vp md vr va vg)) 102]) (.calm 0 (.calm 1 (.calm 2 (.calm 3 (.calm 4 (.calm 5 (.calm 6 (.calm 7 (.calm 8 (.calm 9 (.calm 10 (.calm 11 (.calm 12 (.calm 13 (.calm 15 (.one 14 (.one 16 (.calm 17 (.calm 18 (.calm 19 (.calm 20 (.calm 21 (.calm 22 (.one 23 (.calm 24 (.calm 25 (.done))))))))))))))))))))))))))) (ed (i:=0) I (gH _ _ _ _)) ?_
 repeat(first|refine GW ?_|(refine GN ?_;first|refine QW (a8 (cs:=[av az gt,av az gn,vp]) aK.ty I I (λj v h=>mN (i:=0) I (lp 0 dG I h J))) ?_|refine QW (a8 (cs:=[va,vg]) aK.ty I I (λj v h=>mN (i:=0) I (lp 5 dG I h J))) ?_))
 refine aL I (dx (a8 (cs:=[up,av az seen,av az 0,.bool aE]) aK.ty I I (λj v h=>aH (i:=0) I (lp 22 dG I h J))) I I I (aM (ed (i:=0) I (gH _ _ _ _)) ?_))
 try refine GW ?_
 refine aL I (aV (Ti aI.en I I I I I) (λw hm=>hc w hm) I I I ?_);rintro⟨v1,v2⟩ _
 conv=>arg 8;simp only[zJ,cK,ret,id_eq,tkA]
 conv=>arg 7;simp only[tkA,te]
 refine aM (ed (i:=0) I (gH _ _ _ _)) ?_
 try refine GW ?_
 refine aL I (aU (i:=3) I λ_ kT=>iA (i:=0) 22 (cs:=[v1,av az ((if e=0 then seen+1 else seen:Nat):Int),av az e,.bool aE]) (tl':=fK gt gn vp md vr va vg++oF ⟨il,iJ,dC,im,ended,jy,du,gI,iN,bad,dH,(p.1,st),if e=0 then seen+1 else seen,e,aE,wait,cr,gone,over,eg,pl⟩ ut (iV aE ⟨il,iJ,dC,im,ended,jy,du,gI,iN,bad,dH,(p.1,st),if e=0 then seen+1 else seen,e,aE,wait,cr,gone,over,eg,pl⟩ v1 uq) uw) I I I (CV kT) I I dG I I ?_);refine zL ?_;refine aM (ed (i:=0) I (gH _ _ _ _)) ?_
 try refine GW ?_
 try refine GA ?_
 refine bm [0,2,4] [3] aiT I I (fO aI.en I I I) (λw hm hb=>Wn ⟨il,iJ,dC,im,ended,jy,du,gI,iN,bad,dH,(p.1,st),if e=0 then seen+1 else seen,e,aE,wait,cr,gone,over,eg,pl⟩ (iV aE ⟨il,iJ,dC,im,ended,jy,du,gI,iN,bad,dH,(p.1,st),if e=0 then seen+1 else seen,e,aE,wait,cr,gone,over,eg,pl⟩ v1 uq) v2 o hg (sX.2 λy hy=>by rw[Q5 y hy];decide) (by show wait.length+o.length<=4200;omega) I w _ hb) I I I ?_;intro JU _;refine zL ?_
 try refine GA ?_
 exact cJ I I λw hm=>hm.bV (S:=⟨λ_=>True,λ_=>av az e,λ(x:Value×Value)=>[qj aE x.1 (p.1,st),oM g vo PK (fK gt gn vp md vr va vg) ⟨il,iJ,dC,im,ended,jy,du,gI,iN,bad,dH,(p.1,st),if e=0 then seen+1 else seen,e,aE,wait++o,cr,gone,over,eg,pl⟩ ut (iV aE ⟨il,iJ,dC,im,ended,jy,du,gI,iN,bad,dH,(p.1,st),if e=0 then seen+1 else seen,e,aE,wait++o,cr,gone,over,eg,pl⟩ x.1 uq) x.2,kV x.2 (wait++o)]⟩) (v1,JU) trivial [0,1,2] aiT I
set_option maxRecDepth 100000 in
theorem Kt(x:Value)(m:Md){vo vn vt vp vr va vg ut up uq uw:Value}(T N:Nat)(hk:jA m aE T N)(g:Nat)(s:eP)(hp:SO m aE s.p)(F9:s.l6=0)(OP:s.mc=aE)(ha:s.seen<=1000000)(hg:iz.b_ s.wait s.cr s.gone=0)(hw:s.wait.length<=2199)(w:World)(B:bO)(hR:nS B λw=>CO w x m vo vn vt vp vr va vg)
 (hm:Mem B [oM g vo (eY m.o vn vt) (fK m.g.aR m.g.bC vp m.mode vr va vg) s ut (iV aE s up uq) uw,qj aE up s.p,kV uw s.wait] w):
 Calls aB 64 #[aJ (aj ⟨g,0,ak⟩)] w (cY ⟨λ(_:Value×Value)=>True,λ_=>av az (q9 m aE s).2,λx=>[qj aE x.1 (q9 m aE s).1.p,oM g vo (eY m.o vn vt) (fK m.g.aR m.g.bC vp m.mode vr va vg) (q9 m aE s).1 ut (iV aE (q9 m aE s).1 x.1 uq) x.2,kV x.2 (q9 m aE s).1.wait]⟩ B):=by
 have dG:(eY m.o vn vt).length=258:=fN _ _ _;have Q5:=QT hk hp (a:=s.seen) ha;have w4:(v7 m aE s.p s.seen).2.length<=2001:=by
  have:=Fo hk hp (a:=s.seen)
  by_cases c:(v7 m aE s.p s.seen).1=0
  exact this.1 c;rw[this.2 c];exact bH _
 obtain⟨p1,p2,p3⟩:=hp;have h2:=hk.lr I;have ml:m.mode=2:=hk.md;have hc:=λw' (hm:Mem B [oM g vo (eY m.o vn vt) (fK m.g.aR m.g.bC vp m.mode vr va vg) s ut (iV aE s up uq) uw,qj aE up s.p,kV uw s.wait] w')=>afd _ (aQ #[va,vg]) up m.g T N m.A m.G s.p.2 s.seen  w' (hR _ w' hm).Ba (hR _ w' hm).pt (Sl.dB (hm.get (i:=1) I)) h2 p2 p1 p3 ha;have Wn:=λ(s':eP) pc' vl l h1 h2 h3 h4 w' B hm=>oI (g:=g) (vo:=vo) (vt:=ut) (vw:=uw) (pc:=pc') dG (show(fK m.g.aR m.g.bC vp m.mode vr va vg).length=7 from I) h4 s' vl l h1 h2 h3 w' B hm;unfold q9;have hT:=hk.tT;rw[show v7 m aE s.p s.seen=((f_ m.g.aF (iM m.A) (fa m.G) m.g.aR.toNat s.seen 2001 s.p.2 []).1,(f_ m.g.aF (iM m.A) (fa m.G) m.g.aR.toNat s.seen 2001 s.p.2 []).2.2)from I,show m.g.aR.toNat=T by omega]at Q5 w4⊢;clear hT;generalize f_ m.g.aF (iM m.A) (fa m.G) T s.seen 2001 s.p.2 []=R at*;obtain⟨e,st,o⟩:=R;generalize eY m.o vn vt=PK at*;generalize m.g.aR=gt at*;generalize m.g.bC=gn at*;generalize m.mode=md at*;clear hR hk;dsimp only at Q5 w4⊢;obtain⟨il,iJ,dC,im,ended,jy,du,gI,iN,bad,dH,p,seen,l6,mc,wait,cr,gone,over,eg,pl⟩:=s;dsimp only at*;subst F9 OP;refine dm hm (args:=[aJ (aj ⟨g,0,ak⟩)]) (n:=58) Tryz.func64 I I I ?_
 repeat(first|refine GA ?_|refine gV (aC (v:=av az md) aK.ty I (aH (i:=0) I (eC dG I I))) ?_)
 refine dN ([xd g (jd vo PK (fK gt gn vp md vr va vg)) 102]) (.calm 0 (.calm 1 (.calm 2 (.calm 3 (.calm 4 (.calm 5 (.calm 6 (.calm 7 (.calm 8 (.calm 9 (.calm 10 (.calm 11 (.calm 12 (.calm 13 (.one 14 (.one 15 (.calm 16 (.calm 17 (.calm 18 (.calm 19 (.calm 20 (.calm 21 (.one 22 (.calm 23 (.calm 24 (.done)))))))))))))))))))))))))) (ed (i:=0) I (gH _ _ _ _)) ?_
 repeat(first|refine GW ?_|(refine GN ?_;first|refine QW (a8 (cs:=[av az gt,av az gn,vp]) aK.ty I I (λj v h=>mN (i:=0) I (lp 0 dG I h J))) ?_|refine QW (a8 (cs:=[va,vg]) aK.ty I I (λj v h=>mN (i:=0) I (lp 5 dG I h J))) ?_))
 refine aL I (dx (a8 (cs:=[up,av az seen,av az 0,.bool aE]) aK.ty I I (λj v h=>aH (i:=0) I (lp 22 dG I h J))) I I I (aM (ed (i:=0) I (gH _ _ _ _)) ?_))
 try refine GW ?_
 refine aL I (aV (rX aI.en I I I I) (λw hm=>hc w hm) I I I ?_);intro v2 _
 conv=>arg 8;simp only[zJ,cK,ret,id_eq,enA]
 conv=>arg 7;simp only[enA,te]
 refine aM (ed (i:=0) I (gH _ _ _ _)) ?_
 try refine GW ?_
 refine aL I (iA (i:=0) 22 (cs:=[ap ak 0 0,av az seen,av az e,.bool (decide (e=0))]) (tl':=fK gt gn vp md vr va vg++oF ⟨il,iJ,dC,im,ended,jy,du,gI,iN,bad,dH,yy aE p,seen,e,decide (e=0),wait,cr,gone,over,eg,pl⟩ ut (iV aE ⟨il,iJ,dC,im,ended,jy,du,gI,iN,bad,dH,yy aE p,seen,e,decide (e=0),wait,cr,gone,over,eg,pl⟩ (ap ak 0 0) uq) uw) I I I (CV I) I I dG I I ?_);refine zL ?_;refine aM (ed (i:=0) I (gH _ _ _ _)) ?_
 try refine GW ?_
 try refine GA ?_
 refine bm [0,2,3] [1] aiT I I (fO aI.en I I I) (λw hm hb=>Wn ⟨il,iJ,dC,im,ended,jy,du,gI,iN,bad,dH,yy aE p,seen,e,decide (e=0),wait,cr,gone,over,eg,pl⟩ (iV aE ⟨il,iJ,dC,im,ended,jy,du,gI,iN,bad,dH,yy aE p,seen,e,decide (e=0),wait,cr,gone,over,eg,pl⟩ (ap ak 0 0) uq) v2 o hg (sX.2 λy hy=>by rw[Q5 y hy];decide) (by show wait.length+o.length<=4200;omega) I w _ hb) I I I ?_;intro JU _;refine zL ?_
 try refine GA ?_
 refine dK 3 1 ?_;exact cJ I I λw hm=>hm.bV (S:=⟨λ_=>True,λ_=>av az e,λ(x:Value×Value)=>[qj aE x.1 (yy aE p),oM g vo PK (fK gt gn vp md vr va vg) ⟨il,iJ,dC,im,ended,jy,du,gI,iN,bad,dH,yy aE p,seen,e,decide (e=0),wait++o,cr,gone,over,eg,pl⟩ ut (iV aE ⟨il,iJ,dC,im,ended,jy,du,gI,iN,bad,dH,yy aE p,seen,e,decide (e=0),wait++o,cr,gone,over,eg,pl⟩ x.1 uq) x.2,kV x.2 (wait++o)]⟩) (ap ak 0 0,JU) trivial [3,1,2] aiT I
end cI
namespace cI
open Go.RowKit cU dS cT mM
def Fz(R:List Tok×Nat×Int):Spec Value:=⟨λ_=>True,λv=> .tuple #[aQ (gX (R.2.1:Int) [] (if R.2.2=0 then 15 else 9)).toArray,v,av az R.2.2],λv=>[Fh v R.1]⟩
theorem Gu(o:Of)(vn vt:Value)(N:List (List Int))(tags:List Int)(a0:Nat)(u0:List UInt8)(w:World)(h:VC w vn vt N tags)(hc:zM o N tags=0)(ho:∀b (h:b<256),o[b]<256)(ha0:a0<=1099511627776)(hu0:u0.length<=64):
 Calls aB 63 #[NR o vn vt,aQ (gX (a0:Int) u0 0).toArray] w (cB (Fz (jz o N tags (u0.length+1) a0 u0)) w):=by
 have iW:=λw' (hg:Gr w w')=>tp o vn vt N tags (a0:Int) u0 0 w' (h.gr hg) ho J;rw[SU hc ha0 hu0]at iW;have By:=λ(u:List UInt8) (hu:u.length<=65) w' (hg:Gr w w')=>Fv o vn vt N tags u w' (h.gr hg) (A' hc) J;have hcut:=λa u r t w' (ha:a<=9223372036854775) ht hu=>H_ a u 0 r t w' ha ht hu;have hbE:=BW;obtain⟨⟨an,cn,rfl,-⟩,at',ct,rfl,-⟩:=h;refine enter (args:=[NR o (ap an N.length cn) (ap at' tags.length ct),aQ (gX (a0:Int) u0 0).toArray]) (n:=52) Tryz.func63 I I I ?_;refine cC (bz (bR I I I λg2=>bR I I I λg3=>aY I λg4=>?_));refine zL ?_
 repeat(first|refine GA ?_|refine gV (aO (i:=0) aK.ty I I (kA _ _ _)) ?_|refine gV (aO (i:=1) aK.ty I I I) ?_)
 refine aV (fO aI.en I I I) (λw hm=>iW _ hm.below) I I I ?_;intro _ _;refine zL ?_;clear iW
 repeat(first|refine GC ?_|refine gV (dr (b:=aE) I I (decide_eq_false aiT)) ?_|refine GB ?_)
 refine jf 163 3 ?_
 conv=>arg 7;simp only[zA,zB,zC,zD,zE,zF,zG,zH,zI,cK,ret,id_eq]
 generalize ja:jz o N tags (u0.length+1) a0 u0=fin;refine ea (ι:=Nat×Nat×List UInt8×List Tok×Value) (λ(f,a,u,out,_)=>u.length<f/\u.length<=64/\a+u.length<=1099511627840/\out.length<=a/\(out++(jz o N tags f a u).1,(jz o N tags f a u).2)=fin) (λ(_,_,_,_,v)=>[(2,aJ (aj ⟨g2,0,ak⟩)),(3,aJ (aj ⟨g3,0,ak⟩)),(4,aJ (aj ⟨g4,0,ak⟩)),(8,v)])
  (λ(_,a,u,out,v)=>[aP g2 (eY o (ap an N.length cn) (ap at' tags.length ct)).toArray 31,aP g3 (gX (a:Int) u 0).toArray 97,aP g4 (gX 0 [] 0).toArray 97,Fh v out]) (λ(f,_,_,_,_)=>f) (u0.length+1,a0,u0,[],ap ak 0 0) ⟨Nat.lt_succ_self _,hu0,by show a0+u0.length<=_;omega,bH _,by rw[ja];rfl⟩ ?_
 clear ja;rintro⟨f,a,u,out,v⟩ ⟨j1,j2,j3,j4,j5⟩;dsimp only at j1 j2 j3 j4 j5⊢;obtain⟨f,rfl⟩:∃f',f=f'+1:=⟨f-1,by omega⟩;rw[Fq]at j5
 by_cases c1:u=[]
 ·rw[if_pos c1]at j5
  have j5:(out++[],a,(0:Int))=fin:=j5;rw[dW]at j5;subst j5
  repeat(first|refine GC ?_|refine gV (aC (v:=str u) aK.ty I (aH (i:=1) I I)) ?_|refine gV (kK (b:=aE) I I (decide_eq_false (λh=>h c1))) ?_|refine gV (aC (v:=av az (a:Int)) aK.ty I (aH (i:=1) I I)) ?_|refine gV (bB I (hbE _ _)) ?_|refine GB ?_)
  refine gC 2 (cs':=(gX (a:Int) [] 15).toArray) ?_;refine zL ?_
  try refine GA ?_
  exact fm (i:=2) I I I I I I λw hm=>hm.meets (S:=Fz (out,a,0)) v trivial [3] aiT I
 ·rw[if_neg c1]at j5
  have hto:=zO o N tags u;have KQ:=By u J;generalize eB o N tags u=lk at*;obtain⟨⟨r,t⟩,sr⟩:=lk;dsimp only at hto KQ j5
  repeat(first|refine GC ?_|refine gV (aC (v:=str u) aK.ty I (aH (i:=1) I I)) ?_|refine gV (kK (b:=aD) I I (decide_eq_true c1)) ?_|refine gV (aO (i:=0) aK.ty I I (kA _ _ _)) ?_|refine GB ?_)
  refine aV (fO aI.en I I I) (λw hm=>KQ _ hm.below) I I I ?_;intro _ _;refine zL ?_
  by_cases c2:t=0
  ·rw[if_pos c2]at j5
   have j5:(out++[],a,(9:Int))=fin:=j5;rw[dW]at j5;subst j5 c2;clear KQ
   repeat(first|refine GC ?_|refine gV (dg (b:=aD) I I (decide_eq_true I)) ?_|refine gV (aC (v:=av az (a:Int)) aK.ty I (aH (i:=1) I I)) ?_|refine gV (bB I (hbE _ _)) ?_|refine GB ?_)
   refine gC 2 (cs':=(gX (a:Int) [] 9).toArray) ?_;refine zL ?_
   try refine GA ?_
   exact fm (i:=2) I I I I I I λw hm=>hm.meets (S:=Fz (out,a,9)) v trivial [3] aiT I
  rw[if_neg c2]at j5;have ht:=hto.resolve_left c2;have hct:=hcut a u r t;have Rf:(u.drop t).length=u.length-t:=jc ..;clear KQ By hcut
  repeat(first|refine GC ?_|refine gV (dg (b:=aE) I I (decide_eq_false J)) ?_|refine GB ?_)
  refine aY I λg15=>?_;refine zL ?_
  repeat(first|refine GA ?_|refine gV (aO (i:=1) aK.ty I I I) ?_)
  refine aV (rX aI.en I I I I) (λw hm=>hct w J ht.2 J) I I I ?_;intro _ _;refine zL ?_
  try refine GA ?_
  refine gC 1 (cs':=(gX ((a+t:Nat):Int) (u.drop t) 0).toArray) ?_;refine zL ?_
  try refine GA ?_
  refine gC 4 (cs':=(sY (r,a,a+t)).toArray) ?_;refine zL ?_
  repeat(first|refine GA ?_|refine gV (aO (i:=4) aK.ty I I I) ?_)
  refine ju (i:=3) I I I I I I I (λz h=>by cases h;rfl) J J I λz v2=>?_;refine zL ?_
  try refine GA ?_
  refine dj [0,1,2,3] ?_;exact bY (f,a+t,u.drop t,out++[(r,a,a+t)],v2) ⟨by show(u.drop t).length<f;omega,by show(u.drop t).length<=64;omega,by show a+t+(u.drop t).length<=1099511627840;omega,by show(out++[(r,a,a+t)]).length<=a+t;rw[bI];simp;omega,by rw[eD];exact j5⟩ (by show f<f+1;omega) (hl:=by dsimp only;rw[HZ];rfl)
end cI
namespace cI
open Go.RowKit cU dS aT dP fh gT jQ bJ mM gu cT
open iz (Ev rZ takeN)
abbrev toP(v:Value)(l:List Tok):cH:=q_ 163 3 v l.length (l.flatMap sY)
abbrev gu(b:Bool)(g:Nat)(vo:Value)(pk md:List Value)(s:eP)(ut up uq uw:Value):List cH:=[oM g vo pk md s ut (iV b s up uq) uw,toP ut s.dH,qj b up s.p,kV uw s.wait]
theorem Ns(vo:Value)(pk md:List Value)(s:eP)(vt:Value)(pc:List Value)(vw:Value):∃q,(jd vo pk (md++oF s vt pc vw)).toArray=(jd vo pk (md++[av az s.il,av az s.iJ,av az s.dC,str s.im,.bool s.ended,.bool s.jy,av az s.du,str s.gI,av az s.iN,av az s.bad])++q).toArray:=
 ⟨vt::(pc++[vw,av az s.cr,av az s.gone,.bool s.over,av az s.eg,av az s.pl]),by simp[jd,oF]⟩
def tF(b:Bool)(g:Nat)(vo:Value)(pk md:List Value)(s:eP)(uq:Value):Spec (Value×Value×Value):=⟨λ_=>True,λ_=> .tuple #[],λx=>gu b g vo pk md s x.1 x.2.1 uq x.2.2⟩
theorem Q6{w:World}{e:TypeId}{size:Nat}{v:Value}{n:Nat}{xs:List Value}(h:pV w e size v n xs)(hn:0<n):∃g off cap,v=ap (aj ⟨g,off,ak⟩) n cap/\n<=cap:=by
 rcases h.2 with⟨rfl,rfl⟩|⟨g,off,cap,jS,rfl,hg,h1,h2,h3,h4⟩
 exact absurd hn (Nat.lt_irrefl _);exact⟨g,off,cap,rfl,h1⟩
theorem aff{t:Tok}{l:List Tok}{j:Nat}{v:Value}(h:(sY t)[j]?=aj v):((t::l).flatMap sY)[j]?=aj v:=by
 rw[List.flatMap_cons,List.getElem?_append_left (List.getElem?_eq_some_iff.1 h).1];exact h
theorem zS{m:Md}{b:Bool}{s:eP}(h:dY m b s):iz.b_ s.wait s.cr s.gone=0:=by
 obtain⟨h1,h2,h3,h4,h5,h6,h7,h8,h9,JW,Gv,Nt,NT,Ku,Kv⟩:=h;have:(s.seen:Int)<=4096:=by omega
 have:(s.gone:Int)<=1099511627776:=by
  have h16:((s.seen:Int)+if s.over=aD then 1 else 0)<=4097:=by split<;>omega
  generalize ((s.seen:Int)+if s.over=aD then 1 else 0)=k at*;omega
 unfold iz.b_;rw[if_neg J,if_neg J,if_neg J,if_neg J,if_neg J,if_neg (by rw[Gv];decide)]
theorem Nu(l:List Tok):∀u∈l.flatMap sY,u.oneCell'=true:=by
 intro u hu;obtain⟨t,_,h⟩:=Au.1 hu;simp only[sY,dA,fv,or_false]at h;rcases h with rfl|rfl|rfl<;>rfl
theorem s_{P:Program}{n:Nat}{W:bO}{fr:Fr}{L:List cH}{Q:Exit->Act->World->Prop}{ops:Array Oper}{rest:List Oper}{ty:TypeId}{pos:String}{after:Array Edge}{t:TypeId}{p x:Operand}{i g k:Nat}{vo:Value}{pk tl tl':List Value}{T:TypeId}{agg:Bool}{v:Value}(j:Nat)[hT:aK P t agg 1](hi:L[i]?=aj (aP g (jd vo pk tl).toArray T))(hp:ev fr p=aj (aJ (aj ⟨g,k,ak⟩)))(hx:ev fr x=aj v)(hv:v.cells=#[v])(h1:v.oneCell'=aD)(hk:k=j+259)(dG:pk.length=258)(hj:Nat.blt j tl.length=aD)(he:tl.set j v=tl')
 (h:TL P n W ops Q rest fr (L.set i (aP g (jd vo pk tl').toArray T))):TL P n W ops Q (⟨ak,.store t p x,ty,pos,after,ak⟩::rest) fr L:=by
 subst he;exact dU j hi hp hx hv h1 hk dG hj h
section
variable{g:Nat}{vo:Value}{pk md:List Value}{vt vw:Value}{pc:List Value}(dG:pk.length=258)(ml:md.length=7)(rb:pc.length=8)
include dG ml rb
set_option maxRecDepth 100000 in
theorem Kw(s:eP)(e:Int)(pl:Nat)(w:World)(B:bO)(hm:Mem B [oM g vo pk md s vt pc vw] w):
 Calls aB 60 #[aJ (aj ⟨g,0,ak⟩),av az e,av az (pl:Int)] w (cY ⟨λ(_:Unit)=>True,λ_=> .tuple #[],λ_=>[oM g vo pk md (v8 s e pl) vt pc vw]⟩ B):=by
 have hst:=λw' B hm=>oH (g:=g) (vo:=vo) (vt:=vt) (vw:=vw) dG ml rb s e pl w' B hm;unfold v8
 by_cases c:e≠0
 ·rw[if_pos c]
  refine dm hm (args:=[aJ (aj ⟨g,0,ak⟩),av az e,av az (pl:Int)]) (n:=12) Tryz.func60 I I I ?_
  try refine GA ?_
  refine bm [0] [] aiT I I (rX aI.en I I I I) (λw hm hb=>hst w _ hb) I I I ?_;intro _ _;refine zL ?_
  try refine GA ?_
  exact jG I λw hm=>hm.bV (S:=⟨λ(_:Unit)=>True,λ_=> .tuple #[],λ_=>[oM g vo pk md (me s e pl) vt pc vw]⟩) () trivial [0] aiT I
 ·rw[if_neg c]
  refine dm hm (args:=[aJ (aj ⟨g,0,ak⟩),av az e,av az (pl:Int)]) (n:=12) Tryz.func60 I I I ?_
  try refine GA ?_
  exact jG I λw hm=>hm.bV (S:=⟨λ(_:Unit)=>True,λ_=> .tuple #[],λ_=>[oM g vo pk md s vt pc vw]⟩) () trivial [0] aiT I
end
def psX(b:Bool)(g:Nat)(vo:Value)(pk md:List Value)(R:eP×Int)(ut uq:Value):Spec (Value×Value):=⟨λ_=>True,λ_=>av az R.2,λx=>[qj b x.1 R.1.p,oM g vo pk md R.1 ut (iV b R.1 x.1 uq) x.2,kV x.2 R.1.wait]⟩
theorem Kx(x:Value)(m:Md){vo vn vt vp vr va vg ut up uq uw:Value}(b:Bool)(T N:Nat)(hk:jA m b T N)(g:Nat)(s:eP)(hp:SO m b s.p)(F9:s.l6=0)(OP:s.mc=aE)(t:Nat)(ha:s.seen<=1000000)(ht:t<T)(hg:iz.b_ s.wait s.cr s.gone=0)(hw:s.wait.length<=2199)(w:World)(B:bO)(hR:nS B λw=>CO w x m vo vn vt vp vr va vg)
 (hm:Mem B [oM g vo (eY m.o vn vt) (fK m.g.aR m.g.bC vp m.mode vr va vg) s ut (iV b s up uq) uw,qj b up s.p,kV uw s.wait] w):
 Calls aB 61 #[aJ (aj ⟨g,0,ak⟩),av az (t:Int)] w (cY (psX b g vo (eY m.o vn vt) (fK m.g.aR m.g.bC vp m.mode vr va vg) (s8 m b s (t:Int)) ut uq) B):=by
 cases b
 ·exact Gt x m T N hk g s hp F9 OP t ha ht hg hw w B hR hm
 ·exact Gs x m T N hk g s hp F9 OP t ha ht hg hw w B hR hm
theorem Nv(x:Value)(m:Md){vo vn vt vp vr va vg ut up uq uw:Value}(b:Bool)(T N:Nat)(hk:jA m b T N)(g:Nat)(s:eP)(hp:SO m b s.p)(F9:s.l6=0)(OP:s.mc=aE)(ha:s.seen<=1000000)(hg:iz.b_ s.wait s.cr s.gone=0)(hw:s.wait.length<=2199)(w:World)(B:bO)(hR:nS B λw=>CO w x m vo vn vt vp vr va vg)
 (hm:Mem B [oM g vo (eY m.o vn vt) (fK m.g.aR m.g.bC vp m.mode vr va vg) s ut (iV b s up uq) uw,qj b up s.p,kV uw s.wait] w):
 Calls aB 64 #[aJ (aj ⟨g,0,ak⟩)] w (cY (psX b g vo (eY m.o vn vt) (fK m.g.aR m.g.bC vp m.mode vr va vg) (q9 m b s) ut uq) B):=by
 cases b
 ·exact Kt x m T N hk g s hp F9 OP ha hg hw w B hR hm
 ·exact Ks x m T N hk g s hp F9 OP ha hg hw w B hR hm
set_option maxRecDepth 100000 in
theorem Nw(x:Value)(m:Md){vo vn vt vp vr va vg ut up uq uw:Value}(b:Bool)(T N:Nat)(hk:jA m b T N)(g:Nat)(s:eP)(hs:dY m b s)(iN:s.over=aE)(t:Tok)(l:List Tok)(qf:s.dH=t::l)(hw:s.wait.length<200)(w:World)(B:bO)(hR:nS B λw=>CO w x m vo vn vt vp vr va vg)
 (hm:Mem B (gu b g vo (eY m.o vn vt) (fK m.g.aR m.g.bC vp m.mode vr va vg) s ut up uq uw) w):
 Calls aB 32 #[aJ (aj ⟨g,0,ak⟩)] w (cY (tF b g vo (eY m.o vn vt) (fK m.g.aR m.g.bC vp m.mode vr va vg) (kS m b s) uq) B):=by
 have dG:(eY m.o vn vt).length=258:=fN _ _ _;obtain⟨l1,l2,l3⟩:=hs.live iN;have K6:=zS hs;have hse:s.seen<=4096:=by have:=hs.seen;have:=hs.im;have:=hs.B7;have:=hs.il;omega
 have htr:=hs.tok t (by rw[qf];exact gd ..);have Uj:=(hR _ w hm).of;have Qo:=hk.ofs;have htT:=hk.tT;have hpu:=λoD n hn w' B hR hm=>Kx x m (ut:=oD) (up:=up) (uq:=uq) (uw:=uw) (vo:=vo) (vn:=vn) (vt:=vt) (vp:=vp) (vr:=vr) (va:=va) (vg:=vg) b T N hk g {s with dH:=l} l3 l1 l2 n (by show s.seen<=_;omega) hn K6 (by show s.wait.length<=_;omega) w' B hR hm;have htd:=λ(s':eP) oD JU pc' (e:Int) pl h8 w' B hm=>Kw (g:=g) (vo:=vo) (vt:=oD) (vw:=JU) (pc:=pc') dG (show(fK m.g.aR m.g.bC vp m.mode vr va vg).length=7 from I) h8 s' e pl w' B hm;have yD:kS m b s=if tB m t<0 then {s with dH:=l}else v8 (s8 m b {s with dH:=l} (tB m t)).1 (s8 m b {s with dH:=l} (tB m t)).2 t.2.1:=by
  unfold kS;rw[qf]
 rw[yD];have mf:=hm.get (i:=1) I;unfold gu at hm;rw[qf]at hm mf;obtain⟨bt,off,cap,rfl,ly⟩:=Q6 mf (DB _);obtain⟨r0,fr,tt⟩:=t;dsimp only at htr;obtain⟨r,rfl⟩:∃r:Nat,r0=r:=⟨r0.toNat,by omega⟩;obtain⟨ao,co,rfl,my,Cv,ho3⟩:=Uj;obtain⟨b1,o1,rfl,hro⟩:=ho3 J;have hr:r<m.of.length:=by omega
 have ag6:∀L:List cH,At B L ⟨b1,o1+r*1+0,ak⟩ (av az m.of[r]):=λL w' rq=>by
  obtain⟨ao',co',e,_,_,eL⟩:=(hR L w' rq).of
  cases e
  obtain⟨b2,o2,e,hro⟩:=eL J
  cases e
  have:=hro (r*1+0) (av az m.of[r]) (by rw[ue QD m.of r 0 hr aiT];rfl)
  rwa [<-kZ]at this
 have hxx:=Qo _ (cD hr);have hox:tB m ((r:Int),fr,tt)=m.of[r]:=by unfold tB;rw[b9,show((r:Int),fr,tt).1.toNat=r from I,bD hr,kp]
 rw[hox];generalize m.of[r]=x at*;clear yD hox hro ho3 Qo hs mf;unfold maxLen at Cv;simp only[de]at hm ly;have gJ:∀(L:List cH) (i:Nat),L[i]?=aj (toP (ap (aj ⟨bt,off,ak⟩) (l.length+1) cap) (((r:Int),fr,tt)::l))->∀j u,(sY ((r:Int),fr,tt))[j]?=aj u->At B L ⟨bt,off+0*3+j,ak⟩ u:=λL i hi j u hu=>by
  rw[Nat.zero_mul,jC];exact Vd hi (aff hu)
 cases b
 all_goals
  refine dm hm (args:=[aJ (aj ⟨g,0,ak⟩)]) (n:=160) Tryz.func32 I I I ?_
  repeat(first|refine GA ?_|refine gV (aC aK.ty I (aH (i:=0) I (eC dG I I))) ?_|refine gV (aX (j:=0) bM.eq aK.ty I I (DB _)) ?_|refine gV (a8 aK.ty I I (gJ _ 1 I)) ?_)
  refine aY I λg2=>?_;refine zL ?_;refine gC 4 (cs':=(sY ((r:Int),fr,tt)).toArray) ?_;refine zL ?_
  repeat(first|refine GC ?_|refine gV (aC aK.ty I (aH (i:=0) I (eC dG I I))) ?_|refine gV (rm (i:=1) bM.eq aK.ty I I (Q4 (bH _)) ly) ?_|refine GB ?_)
  refine dU (i:=0) 17 I I I I I I dG I ?_;refine aal 1 I ?_;refine zL ?_
  by_cases c1:x<0
  ·rw[if_pos c1]
   try refine GA ?_
   refine dN ([oM g (ap (aj ⟨b1,o1,ak⟩) m.of.length co) (eY m.o vn vt) (fK m.g.aR m.g.bC vp m.mode vr va vg) {s with dH:=l} (tw (aj ⟨bt,off,ak⟩) cap 3 1 (l.length+1)) (iV _ s up uq) uw,aP g2 (sY ((r:Int),fr,tt)).toArray 163]) (.calm 0 (.calm 1 (.calm 2 (.calm 3 (.calm 4 (.calm 5 (.calm 6 (.calm 7 (.calm 8 (.calm 9 (.done))))))))))) (bW [0,4]) ?_
   repeat(first|refine GW ?_|(refine GN ?_;first|refine QW (aC (v:=ap (aj ⟨b1,o1,ak⟩) m.of.length co) aK.ty I (aH (i:=0) I I)) ?_|refine QW (aC (v:=av az (r:Int)) aK.ty I (aH (i:=1) I I)) ?_|refine QW (aX bM.eq aK.ty I I hr) ?_|refine QW (aC (v:=av az x) aK.ty I (ag6 _)) ?_))
   try refine GA ?_
   exact jG I λw hm=>hm.bV (S:=tF _ g (ap (aj ⟨b1,o1,ak⟩) m.of.length co) (eY m.o vn vt) (fK m.g.aR m.g.bC vp m.mode vr va vg) {s with dH:=l} uq) (tw (aj ⟨bt,off,ak⟩) cap 3 1 (l.length+1),up,uw) trivial [0,1,2,3] aiT rfl
  ·rw[if_neg c1]
   obtain⟨tn,rfl⟩:∃tn:Nat,x=tn:=⟨x.toNat,by omega⟩;have hpu:=λoD w' B hR hm=>hpu oD tn J w' B hR hm;generalize afg:s8 m _ {s with dH:=l} (tn:Int)=R at*;have hRt:R.1.dH=l:=by rw[<-afg];rfl
   have hRp:(v8 R.1 R.2 fr).p=R.1.p/\(v8 R.1 R.2 fr).wait=R.1.wait/\(v8 R.1 R.2 fr).dH=l/\∀b vp' vq,iV b (v8 R.1 R.2 fr) vp' vq=iV b R.1 vp' vq:=by
    unfold v8;split<;>exact⟨rfl,rfl,hRt,λ_ _ _=>rfl⟩
   obtain⟨R1,R2⟩:=R;obtain⟨q1,q2,q3,q4⟩:=hRp;dsimp only at q1 q2 q3 q4 hRt⊢
   try refine GA ?_
   refine dN ([oM g (ap (aj ⟨b1,o1,ak⟩) m.of.length co) (eY m.o vn vt) (fK m.g.aR m.g.bC vp m.mode vr va vg) {s with dH:=l} (tw (aj ⟨bt,off,ak⟩) cap 3 1 (l.length+1)) (iV _ s up uq) uw,aP g2 (sY ((r:Int),fr,tt)).toArray 163]) (.calm 0 (.calm 1 (.calm 2 (.calm 3 (.calm 4 (.calm 5 (.calm 6 (.calm 7 (.calm 8 (.calm 9 (.done))))))))))) (bW [0,4]) ?_
   repeat(first|refine GW ?_|(refine GN ?_;first|refine QW (aC (v:=ap (aj ⟨b1,o1,ak⟩) m.of.length co) aK.ty I (aH (i:=0) I I)) ?_|refine QW (aC (v:=av az (r:Int)) aK.ty I (aH (i:=1) I I)) ?_|refine QW (aX bM.eq aK.ty I I hr) ?_|refine QW (aC (v:=av az (tn:Int)) aK.ty I (ag6 _)) ?_))
   try refine GA ?_
   refine dN ([aP g2 (sY ((r:Int),fr,tt)).toArray 163]) (.calm 0 (.calm 1 (.calm 2 (.calm 4 (.calm 5 (.one 3 (.one 6 (.done)))))))) (bW [4]) ?_
   repeat(first|refine GW ?_|(refine GN ?_;first|refine QW (aC (v:=av az (fr:Int)) aK.ty I (aH (i:=0) I I)) ?_))
   refine aL I (bm [0,2,3] [1,4] aiT I I (fO aI.en I I I) (λw hm hb=>hpu _ w _ (hR.on (hm.pick [0,2,3] aiT I)) hb) I I I ?_);rintro⟨v1,v2⟩ _
   conv=>arg 8;simp only[zJ,cK,ret,id_eq,psX]
   conv=>arg 7;simp only[psX]
   refine aM (bW [1]) ?_;refine aL I (bm [3] [0,1,2,4] aiT I I (rX aI.en I I I I) (λw hm hb=>htd R1 _ v2 _ R2 fr I w _ hb) I I I ?_);intro _ _;refine zL ?_;refine aM (bW [1]) ?_
   try refine GW ?_
   try refine GA ?_
   exact jG I λw hm=>hm.bV (S:=tF _ g (ap (aj ⟨b1,o1,ak⟩) m.of.length co) (eY m.o vn vt) (fK m.g.aR m.g.bC vp m.mode vr va vg) (v8 R1 R2 fr) uq) (_,v1,v2) trivial [4,0,2,3] aiT (by simp only[tF,gu,q1,q2,q3,q4];rfl)
set_option maxRecDepth 100000 in
theorem Ny(x:Value)(m:Md){vo vn vt vp vr va vg ut up uq uw:Value}(b:Bool)(T N:Nat)(hk:jA m b T N)(g:Nat)(s:eP)(hs:dY m b s)(iN:s.over=aE)(qf:s.dH=[])(hb:s.bad≠0)(w:World)(B:bO)(hR:nS B λw=>CO w x m vo vn vt vp vr va vg)
 (hm:Mem B (gu b g vo (eY m.o vn vt) (fK m.g.aR m.g.bC vp m.mode vr va vg) s ut up uq uw) w):
 Calls aB 32 #[aJ (aj ⟨g,0,ak⟩)] w (cY (tF b g vo (eY m.o vn vt) (fK m.g.aR m.g.bC vp m.mode vr va vg) (kS m b s) uq) B):=by
 have dG:(eY m.o vn vt).length=258:=fN _ _ _;obtain⟨l1,l2,l3⟩:=hs.live iN;have Ow:s.dC<=4096:=by have:=hs.B7;have:=hs.il;omega
 unfold gu at hm;have hst:=λw' B hm=>oH (g:=g) (vo:=vo) (vt:=ut) (vw:=uw) (pc:=iV b s up uq) dG (show(fK m.g.aR m.g.bC vp m.mode vr va vg).length=7 from I) (by cases b<;>rfl) s s.bad s.du w' B hm;have yD:kS m b s=me s s.bad s.du:=by unfold kS;rw[qf];dsimp only;rw[if_pos hb]
 rw[yD];rw[qf]at hm;obtain⟨at',ct,rfl,-⟩:=l7 (hm.get (i:=1) rfl);simp only[ia]at hm;have afg:(me s s.bad s.du).dH=[]:=qf;clear yD hs
 cases b
 all_goals
  refine dm hm (args:=[aJ (aj ⟨g,0,ak⟩)]) (n:=160) Tryz.func32 I I I ?_
  repeat(first|refine GA ?_|refine gV (aC aK.ty I (aH (i:=0) I (eC dG I I))) ?_)
  refine dN ([xd g (jd vo (eY m.o vn vt) (fK m.g.aR m.g.bC vp m.mode vr va vg++[av az s.il,av az s.iJ,av az s.dC,str s.im,.bool s.ended,.bool s.jy,av az s.du,str s.gI,av az s.iN,av az s.bad])) 102]) (.calm 0 (.calm 1 (.calm 2 (.calm 3 (.calm 4 (.calm 5 (.calm 6 (.calm 7 (.calm 8 (.calm 9 (.one 10 (.done)))))))))))) (ed (i:=0) I (Ns _ _ _ s _ _ _)) ?_
  repeat(first|refine GW ?_|(refine GN ?_;first|refine QW (aC aK.ty I (mN (i:=0) I (eC dG I I))) ?_))
  refine aL I (bm [0] [1,2,3] aiT I I (rX aI.en I I I I) (λw hm hb=>hst w _ hb) I I I ?_);intro _ _;refine zL ?_;refine aM (ed (i:=3) I (Ns _ _ _ (me s s.bad s.du) _ _ _)) ?_
  try refine GW ?_
  try refine GA ?_
  exact jG I λw hm=>hm.bV (S:=tF _ g vo (eY m.o vn vt) (fK m.g.aR m.g.bC vp m.mode vr va vg) (me s s.bad s.du) uq) (_,up,uw) trivial [3,0,1,2] aiT (by simp only[tF,gu,afg];rfl)
set_option maxRecDepth 100000 in
theorem Ky(x:Value)(m:Md){vo vn vt vp vr va vg ut up uq uw:Value}(b:Bool)(T N:Nat)(hk:jA m b T N)(g:Nat)(s:eP)(hs:dY m b s)(iN:s.over=aE)(qf:s.dH=[])(hb:s.bad=0)(c:UInt8)(r:List UInt8)(FI:s.im=c::r)(w:World)(B:bO)(hR:nS B λw=>CO w x m vo vn vt vp vr va vg)
 (hm:Mem B (gu b g vo (eY m.o vn vt) (fK m.g.aR m.g.bC vp m.mode vr va vg) s ut up uq uw) w):
 Calls aB 32 #[aJ (aj ⟨g,0,ak⟩)] w (cY (tF b g vo (eY m.o vn vt) (fK m.g.aR m.g.bC vp m.mode vr va vg) (kS m b s) uq) B):=by
 have dG:(eY m.o vn vt).length=258:=fN _ _ _;obtain⟨l1,l2,l3⟩:=hs.live iN;have Ow:s.dC<=4096:=by have:=hs.B7;have:=hs.il;omega
 unfold gu at hm;have wP:s.jy=false:=by
  cases h:s.jy with
  |false=>rfl
  |true=>have:=(hs.jy h).1;rw[FI]at this;cases this
 have hho:=hs.iN hb wP;have hfd:=λw' (hm:VC w' vn vt m.N m.tags)=>Gm m.o vn vt m.N m.tags s.du s.gI [c] w' hm hk.mh hk.byte (by have:=hs.im;omega) hs.gI (by simp);rw[show NR m.o vn vt=aQ (eY m.o vn vt).toArray from I]at hfd;have P4:(iy m.o m.N m.tags [c] s.du s.gI).1.length<=1000000:=by
  have:=Fs (o:=m.o) (N:=m.N) (tags:=m.tags) [c] s.du s.gI;have:=hs.im;have:=hs.gI;simp only[lW]at*;omega
 have yD:kS m b s=SP m s c r:=by unfold kS;rw[qf,FI];dsimp only;rw[if_neg (by rw[hb];decide)]
 rw[yD];unfold SP Ft;obtain⟨at',ct,rfl,q1,q2,-⟩:=l7 (hm.get (i:=1) rfl);clear yD hs;obtain⟨il,iJ,dC,im,ended,jy,du,gI,iN,bad,dH,p,seen,l6,mc,wait,cr,gone,over,eg,pl⟩:=s;dsimp only at*;subst qf hb FI hho wP iN;simp only[ia]at hm;dsimp only[oM,oF,iY,eu]at hm;generalize iy m.o m.N m.tags [c] du gI=D at*;obtain⟨D1,D2,D3,D4⟩:=D;dsimp only at*;generalize eY m.o vn vt=PK at*;obtain⟨a0,a1,a2,a3,a4,a5,a6,a7,rb⟩:=Q0 b ⟨il,iJ,dC,c::r,ended,aE,du,gI,0,0,[],p,seen,l6,mc,wait,cr,gone,aE,eg,pl⟩ up uq;rw[rb]at hm;refine dm hm (args:=[aJ (aj ⟨g,0,ak⟩)]) (n:=160) Tryz.func32 I I I ?_
 repeat(first|refine GC ?_|refine gV (aC aK.ty I (aH (i:=0) I (eC dG I I))) ?_|refine gV (kK (b:=aD) I I I) ?_|refine gV (Oq (j:=1) bM.eq I I (Q4 (bH _))) ?_|refine gV (Dg (i:=1) bM.eq I I (Q4 (bH _))) ?_|refine GB ?_)
 refine s_ (i:=0) 10 (tl':=fK m.g.aR m.g.bC vp m.mode vr va vg++oF ⟨il,iJ,dC,r,ended,aE,du,gI,0,0,[],p,seen,l6,mc,wait,cr,gone,aE,eg,pl⟩ _ [a0,a1,a2,a3,a4,a5,a6,a7] uw) I I I I I I dG I I ?_
 try refine GA ?_
 refine dN ([xd g (jd vo PK (fK m.g.aR m.g.bC vp m.mode vr va vg)) 102]) (.calm 0 (.calm 1 (.calm 2 (.calm 3 (.calm 4 (.calm 5 (.calm 6 (.calm 7 (.calm 8 (.calm 9 (.calm 11 (.one 10 (.one 12 (.calm 13 (.calm 14 (.calm 15 (.calm 16 (.calm 17 (.calm 18 (.one 19 (.calm 20 (.calm 21 (.calm 22 (.one 23 (.done))))))))))))))))))))))))) (ed (i:=0) I (gH _ _ _ _)) ?_
 repeat(first|refine GW ?_|(refine GN ?_;first|refine QW (a8 (cs:=PK) aK.ty I dG (λj v h=>mN (i:=0) I (HV dG h))) ?_))
 refine aL I (dx (a8 (cs:=gX (du:Int) gI 0) aK.ty I I (λj v h=>aH (i:=0) I (lp 13 dG I h J))) I I I (aM (ed (i:=0) I (gH _ _ _ _)) ?_))
 try refine GW ?_
 refine aL I (aV (rX aI.en I I I I) (λw hm=>hfd w (hR _ w hm).pk) I I I ?_);intro v1 _
 conv=>arg 8;simp only[zJ,cK,ret,id_eq,H']
 conv=>arg 7;simp only[H']
 refine aM (ed (i:=0) I (gH _ _ _ _)) ?_
 try refine GW ?_
 refine aL I (iA (i:=0) 13 (cs:=gX (D2:Int) D3 D4) (tl':=fK m.g.aR m.g.bC vp m.mode vr va vg++oF ⟨il,iJ,dC,r,ended,aE,D2,D3,D4,0,[],p,seen,l6,mc,wait,cr,gone,aE,eg,pl⟩ _ [a0,a1,a2,a3,a4,a5,a6,a7] uw) I I I I I I dG I I ?_);refine zL ?_;refine aM (ed (i:=0) I (gH _ _ _ _)) ?_
 try refine GW ?_
 refine aL I (s_ (i:=0) 16 (tl':=fK m.g.aR m.g.bC vp m.mode vr va vg++oF ⟨il,iJ,dC,r,ended,aE,D2,D3,D4,D4,[],p,seen,l6,mc,wait,cr,gone,aE,eg,pl⟩ _ [a0,a1,a2,a3,a4,a5,a6,a7] uw) I I I I I I dG I I ?_);refine aM (ed (i:=0) I (gH _ _ _ _)) ?_
 try refine GW ?_
 repeat(first|refine GA ?_|refine gV (aC aK.ty I (aH (i:=0) I (eC dG I I))) ?_)
 refine SS (i:=1) (j:=4) I I I I (Nu _) (by simp only[ia];omega) (by simp only[ia];omega) I λv2=>?_;refine SR (i:=1) I λb2 c2 lC _ _ _=>?_
 try refine GA ?_
 refine dU (i:=0) 17 I I I (by rw[lC];rfl) (by rw[lC];rfl) I dG I ?_
 try refine GA ?_
 exact jG I λw hm=>hm.bV (S:=tF b g vo PK (fK m.g.aR m.g.bC vp m.mode vr va vg) ⟨il,iJ,dC,r,ended,aE,D2,D3,D4,D4,D1,p,seen,l6,mc,wait,cr,gone,aE,eg,pl⟩ uq) (v2,up,uw) trivial [0,1,2,3] aiT (by
  have afh:iV b ⟨il,iJ,dC,r,ended,aE,D2,D3,D4,D4,D1,p,seen,l6,mc,wait,cr,gone,aE,eg,pl⟩ up uq=[a0,a1,a2,a3,a4,a5,a6,a7]:=rb;simp only[tF,gu,afh,toP,ia,cV,aar,eu];rfl)
set_option maxRecDepth 100000 in
theorem Gw(x:Value)(m:Md){vo vn vt vp vr va vg ut up uq uw:Value}(b:Bool)(T N:Nat)(hk:jA m b T N)(g:Nat)(s:eP)(hs:dY m b s)(iN:s.over=aE)(qf:s.dH=[])(hb:s.bad=0)(FI:s.im=[])(wP:s.jy=aE)(w:World)(B:bO)(hR:nS B λw=>CO w x m vo vn vt vp vr va vg)
 (hm:Mem B (gu b g vo (eY m.o vn vt) (fK m.g.aR m.g.bC vp m.mode vr va vg) s ut up uq uw) w):
 Calls aB 32 #[aJ (aj ⟨g,0,ak⟩)] w (cY (tF b g vo (eY m.o vn vt) (fK m.g.aR m.g.bC vp m.mode vr va vg) (kS m b s) uq) B):=by
 have dG:(eY m.o vn vt).length=258:=fN _ _ _;obtain⟨l1,l2,l3⟩:=hs.live iN;have Ow:s.dC<=4096:=by have:=hs.B7;have:=hs.il;omega
 unfold gu at hm;have hho:=hs.iN hb wP;have hfd:=λw' (hm:VC w' vn vt m.N m.tags)=>Gu m.o vn vt m.N m.tags s.du s.gI w' hm hk.mh hk.byte (by have:=hs.im;omega) hs.gI;rw[show NR m.o vn vt=aQ (eY m.o vn vt).toArray from I]at hfd;have P4:(jz m.o m.N m.tags (s.gI.length+1) s.du s.gI).1.length<=1000000:=by
  have:=Ke (o:=m.o) (N:=m.N) (tags:=m.tags) (s.gI.length+1) s.du s.gI;have:=hs.im;have:=hs.gI;omega
 have yD:kS m b s=Kg m s:=by unfold kS;rw[qf,FI];dsimp only;rw[if_neg (by rw[hb];decide),if_pos wP]
 rw[yD];unfold Kg Bf;obtain⟨at',ct,rfl,q1,q2,-⟩:=l7 (hm.get (i:=1) rfl);clear yD hs;obtain⟨il,iJ,dC,im,ended,jy,du,gI,iN,bad,dH,p,seen,l6,mc,wait,cr,gone,over,eg,pl⟩:=s;dsimp only at*;subst qf hb FI hho wP iN;simp only[ia]at hm;dsimp only[oM,oF,iY,eu]at hm;generalize jz m.o m.N m.tags (gI.length+1) du gI=D at*;obtain⟨D1,D2,D4⟩:=D;dsimp only at*;generalize eY m.o vn vt=PK at*;obtain⟨a0,a1,a2,a3,a4,a5,a6,a7,rb⟩:=Q0 b ⟨il,iJ,dC,[],ended,aE,du,gI,0,0,[],p,seen,l6,mc,wait,cr,gone,aE,eg,pl⟩ up uq;rw[rb]at hm;refine dm hm (args:=[aJ (aj ⟨g,0,ak⟩)]) (n:=160) Tryz.func32 I I I ?_
 repeat(first|refine GC ?_|refine gV (aC aK.ty I (aH (i:=0) I (eC dG I I))) ?_|refine gV (kK (b:=aE) I I I) ?_|refine GB ?_)
 refine s_ (i:=0) 12 (tl':=fK m.g.aR m.g.bC vp m.mode vr va vg++oF ⟨il,iJ,dC,[],ended,aD,du,gI,0,0,[],p,seen,l6,mc,wait,cr,gone,aE,eg,pl⟩ _ [a0,a1,a2,a3,a4,a5,a6,a7] uw) I I I I I I dG I I ?_
 try refine GA ?_
 refine dN ([xd g (jd vo PK (fK m.g.aR m.g.bC vp m.mode vr va vg)) 102]) (.calm 0 (.calm 1 (.calm 2 (.calm 3 (.calm 4 (.calm 5 (.calm 6 (.calm 7 (.calm 8 (.calm 9 (.one 10 (.one 11 (.calm 12 (.calm 13 (.calm 14 (.calm 15 (.calm 16 (.calm 17 (.one 18 (.calm 19 (.calm 20 (.calm 21 (.one 22 (.done)))))))))))))))))))))))) (ed (i:=0) I (gH _ _ _ _)) ?_
 repeat(first|refine GW ?_|(refine GN ?_;first|refine QW (a8 (cs:=PK) aK.ty I dG (λj v h=>mN (i:=0) I (HV dG h))) ?_))
 refine aL I (dx (a8 (cs:=gX (du:Int) gI 0) aK.ty I I (λj v h=>aH (i:=0) I (lp 13 dG I h J))) I I I (aM (ed (i:=0) I (gH _ _ _ _)) ?_))
 try refine GW ?_
 refine aL I (aV (fO aI.en I I I) (λw hm=>hfd w (hR _ w hm).pk) I I I ?_);intro v1 _
 conv=>arg 8;simp only[zJ,cK,ret,id_eq,Fz]
 conv=>arg 7;simp only[Fz]
 refine aM (ed (i:=0) I (gH _ _ _ _)) ?_
 try refine GW ?_
 refine aL I (iA (i:=0) 13 (cs:=gX (D2:Int) [] (if D4=0 then 15 else 9)) (tl':=fK m.g.aR m.g.bC vp m.mode vr va vg++oF ⟨il,iJ,dC,[],ended,aD,D2,[],if D4=0 then 15 else 9,0,[],p,seen,l6,mc,wait,cr,gone,aE,eg,pl⟩ _ [a0,a1,a2,a3,a4,a5,a6,a7] uw) I I I I I I dG I I ?_);refine zL ?_;refine aM (ed (i:=0) I (gH _ _ _ _)) ?_
 try refine GW ?_
 refine aL I (s_ (i:=0) 16 (tl':=fK m.g.aR m.g.bC vp m.mode vr va vg++oF ⟨il,iJ,dC,[],ended,aD,D2,[],if D4=0 then 15 else 9,D4,[],p,seen,l6,mc,wait,cr,gone,aE,eg,pl⟩ _ [a0,a1,a2,a3,a4,a5,a6,a7] uw) I I I I I I dG I I ?_);refine aM (ed (i:=0) I (gH _ _ _ _)) ?_
 try refine GW ?_
 repeat(first|refine GA ?_|refine gV (aC aK.ty I (aH (i:=0) I (eC dG I I))) ?_)
 refine SS (i:=1) (j:=4) I I I I (Nu _) (by simp only[ia];omega) (by simp only[ia];omega) I λv2=>?_;refine SR (i:=1) I λb2 c2 lC _ _ _=>?_
 try refine GA ?_
 refine dU (i:=0) 17 I I I (by rw[lC];rfl) (by rw[lC];rfl) I dG I ?_
 try refine GA ?_
 exact jG I λw hm=>hm.bV (S:=tF b g vo PK (fK m.g.aR m.g.bC vp m.mode vr va vg) ⟨il,iJ,dC,[],ended,aD,D2,[],if D4=0 then 15 else 9,D4,D1,p,seen,l6,mc,wait,cr,gone,aE,eg,pl⟩ uq) (v2,up,uw) trivial [0,1,2,3] aiT (by
  have afh:iV b ⟨il,iJ,dC,[],ended,aD,D2,[],if D4=0 then 15 else 9,D4,D1,p,seen,l6,mc,wait,cr,gone,aE,eg,pl⟩ up uq=[a0,a1,a2,a3,a4,a5,a6,a7]:=rb;simp only[tF,gu,afh,toP,ia,cV,aar,eu];rfl)
set_option maxRecDepth 100000 in
theorem Nz(x:Value)(m:Md){vo vn vt vp vr va vg ut up uq uw:Value}(b:Bool)(T N:Nat)(hk:jA m b T N)(g:Nat)(s:eP)(hs:dY m b s)(iN:s.over=aE)(qf:s.dH=[])(hb:s.bad=0)(FI:s.im=[])(wP:s.jy=aD)(hw:s.wait.length<200)(w:World)(B:bO)(hR:nS B λw=>CO w x m vo vn vt vp vr va vg)
 (hm:Mem B (gu b g vo (eY m.o vn vt) (fK m.g.aR m.g.bC vp m.mode vr va vg) s ut up uq uw) w):
 Calls aB 32 #[aJ (aj ⟨g,0,ak⟩)] w (cY (tF b g vo (eY m.o vn vt) (fK m.g.aR m.g.bC vp m.mode vr va vg) (kS m b s) uq) B):=by
 have dG:(eY m.o vn vt).length=258:=fN _ _ _;obtain⟨l1,l2,l3⟩:=hs.live iN;have Ow:s.dC<=4096:=by have:=hs.B7;have:=hs.il;omega
 unfold gu at hm;have K6:=zS hs;have hse:s.seen<=4096:=by have:=hs.seen;have:=hs.im;omega
 have Vs:=λoD w' B hR hm=>Nv x m (ut:=oD) (up:=up) (uq:=uq) (uw:=uw) (vo:=vo) (vn:=vn) (vt:=vt) (vp:=vp) (vr:=vr) (va:=va) (vg:=vg) b T N hk g s l3 l1 l2 J K6 J w' B hR hm;have hst:=λ(s':eP) oD JU pc' (e:Int) pl h8 w' B hm=>oH (g:=g) (vo:=vo) (vt:=oD) (vw:=JU) (pc:=pc') dG (show(fK m.g.aR m.g.bC vp m.mode vr va vg).length=7 from I) h8 s' e pl w' B hm;have yD:kS m b s=me (q9 m b s).1 (q9 m b s).2 s.dC:=by unfold kS;rw[qf,FI];dsimp only;rw[if_neg (by rw[hb];decide),if_neg (by rw[wP];decide)]
 rw[yD];have hR1:(q9 m b s).1.dC=s.dC/\(q9 m b s).1.dH=[]:=⟨rfl,qf⟩;obtain⟨at',ct,rfl,q1,q2,-⟩:=l7 (hm.get (i:=1) rfl);generalize q9 m b s=R at*;obtain⟨R1,R2⟩:=R;obtain⟨e1,e2⟩:=hR1;dsimp only at e1 e2 Vs⊢;clear yD hs;have BF:∀vp' vq,(iV b R1 vp' vq).length=8:=by cases b<;>exact λ_ _=>rfl
 have Bo:(me R1 R2 s.dC).p=R1.p/\(me R1 R2 s.dC).wait=R1.wait/\(me R1 R2 s.dC).dH=[]/\∀vp' vq,iV b (me R1 R2 s.dC) vp' vq=iV b R1 vp' vq:=⟨rfl,rfl,e2,λ_ _=>rfl⟩;obtain⟨s1,s2,s3,s4⟩:=Bo;rw[qf]at hm;simp only[ia]at hm;obtain⟨a0,a1,a2,a3,a4,a5,a6,a7,rb⟩:=Q0 b s up uq;rw[rb]at hm;have Vs:=λoD w' B hR (hm:Mem B [oM g vo (eY m.o vn vt) (fK m.g.aR m.g.bC vp m.mode vr va vg) s oD [a0,a1,a2,a3,a4,a5,a6,a7] uw,qj b up s.p,kV uw s.wait] w')=>Vs oD w' B hR (by rw[rb];exact hm);refine dm hm (args:=[aJ (aj ⟨g,0,ak⟩)]) (n:=160) Tryz.func32 I I I ?_
 repeat(first|refine GC ?_|refine gV (aC (v:=av az 0) aK.ty I (aH (i:=0) I (eC dG I (by rw[<-hb];rfl)))) ?_|refine gV (aC (v:=str []) aK.ty I (aH (i:=0) I (eC dG I (by rw[<-FI];rfl)))) ?_|refine gV (aC (v:= .bool aD) aK.ty I (aH (i:=0) I (eC dG I (by rw[<-wP];rfl)))) ?_|refine gV (aC aK.ty I (aH (i:=0) I (eC dG I I))) ?_|refine gV (kK (b:=aE) I I I) ?_|refine GB ?_)
 refine bm [0,2,3] [1] aiT I I (hZ aI.en I I) (λw hm hb=>Vs _ w _ (hR.on (hm.pick [0,2,3] aiT I)) hb) I I I ?_;rintro⟨v1,v2⟩ _
 conv=>arg 8;simp only[zJ,cK,ret,id_eq,psX]
 conv=>arg 7;simp only[psX]
 repeat(first|refine GA ?_|refine gV (aC (v:=av az (s.dC:Int)) aK.ty I (aH (i:=2) I (eC dG I (by rw[<-e1];rfl)))) ?_)
 refine bm [2] [0,1,3] aiT I I (rX aI.en I I I I) (λw hm hb=>hst R1 _ v2 _ R2 s.dC (BF _ _) w _ hb) I I I ?_;intro _ _;refine zL ?_
 try refine GA ?_
 exact jG I λw hm=>hm.bV (S:=tF b g vo (eY m.o vn vt) (fK m.g.aR m.g.bC vp m.mode vr va vg) (me R1 R2 s.dC) uq) (_,v1,v2) trivial [3,0,1,2] aiT (by simp only[tF,gu,s1,s2,s3,s4];rfl)
theorem Kz(x:Value)(m:Md){vo vn vt vp vr va vg ut up uq uw:Value}(b:Bool)(T N:Nat)(hk:jA m b T N)(g:Nat)(s:eP)(hs:dY m b s)(iN:s.over=aE)(hw:s.wait.length<200)(w:World)(B:bO)(hR:nS B λw=>CO w x m vo vn vt vp vr va vg)
 (hm:Mem B (gu b g vo (eY m.o vn vt) (fK m.g.aR m.g.bC vp m.mode vr va vg) s ut up uq uw) w):
 Calls aB 32 #[aJ (aj ⟨g,0,ak⟩)] w (cY (tF b g vo (eY m.o vn vt) (fK m.g.aR m.g.bC vp m.mode vr va vg) (kS m b s) uq) B):=by
 cases h1:s.dH with
 |cons t l=>exact Nw x m b T N hk g s hs iN t l h1 hw w B hR hm
 | nil =>
  by_cases h2:s.bad=0
  ·cases h3:s.im with
   |cons c r=>exact Ky x m b T N hk g s hs iN h1 h2 c r h3 w B hR hm
   | nil=>
    cases h4:s.jy with
    |false=>exact Gw x m b T N hk g s hs iN h1 h2 h3 h4 w B hR hm
    |true=>exact Nz x m b T N hk g s hs iN h1 h2 h3 h4 hw w B hR hm
  exact Ny x m b T N hk g s hs iN h1 h2 w B hR hm
end cI
namespace gu
open aT dP fh mM bJ cT cI jQ
open iz (Ev rZ takeN)
section
variable{o:Of}{N:List (List Int)}{tags:List Int}{n:Int}(hn:0<n)(ht:∀t∈tags,t<n)
include hn ht
theorem Ib(s:List UInt8):0<=(eB o N tags s).1.1/\(eB o N tags s).1.1<n:=yw hn ht s 0 0 0 0 (Int.le_refl 0) hn
theorem ta:∀(f a:Nat) (u:List UInt8),∀t∈(dX o N tags f a u).1,0<=t.1/\t.1<n
 |0,_,_,_,h=>by cases h
 | f +1,a,u,t,h=>by
  rw[s7]at h;split at h
  ·split at h
   cases h
   rcases dA.1 h with rfl|h
   exact Ib hn ht u;exact ta f _ _ t h
  cases h
theorem Ic:∀(s:List UInt8) (a:Nat) (u:List UInt8),∀t∈(iy o N tags s a u).1,0<=t.1/\t.1<n
 |[],_,_,_,h=>by cases h
 | b::s,a,u,t,h=>by
  rw[qB]at h;split at h;exact ta hn ht _ _ _ t h;split at h;exact ta hn ht _ _ _ t h;rcases List.mem_append.1 h with h|h
  exact ta hn ht _ _ _ t h;exact Ic s _ _ t h
theorem NA:∀(f a:Nat) (u:List UInt8),∀t∈(jz o N tags f a u).1,0<=t.1/\t.1<n
 |0,_,_,_,h=>by cases h
 | f+1,a,u,t,h=>by
  rw[Fq]at h;split at h
  cases h
  split at h
  cases h
  rcases dA.1 h with rfl|h
  exact Ib hn ht u;exact NA f _ _ t h
end
theorem NB{o:Of}{N:List (List Int)}{tags:List Int}:∀(s:List UInt8) (a:Nat) (u:List UInt8),u.length<=64->(iy o N tags s a u).2.2.1.length<=64
 |[],_,_,h=>h
 | b::s,a,u,h=>by
  rw[qB];split;exact bH _;split;exact bH _;exact NB s _ _ J
theorem SX{a l:List Ev}(h:a.any rZ=aE)(h2:∀x∈l,rZ x=aE):(a++l).any rZ=false:=by
 rw[List.any_append,h,sX.2 λx hx=>by rw[h2 x hx];decide];rfl
theorem Ie{s:eP}(h:kt s=aD):s.over=aE/\s.wait.length<200/\(s.dH≠[]\/s.bad≠0\/s.im≠[]\/s.ended=aD):=by
 unfold kt at h;simp only[Bool.and_eq_true,Bool.not_eq_true',Bool.or_eq_true,decide_eq_true_eq]at h;exact⟨h.1.1,h.1.2,by rcases h.2 with((h|h)|h)|h<;>simp[h]⟩
theorem aas{m:Md}{b:Bool}{T N:Nat}(h:jA m b T N){p:PS}(hp:SO m b p){a:Nat}{t:Int}(ht:t<T):(kC m b p a t).2.2.length<=2001/\((kC m b p a t).1≠0->(kC m b p a t).2.2=[]):=by
 have hb:(kC m b p a t).1≠0->(kC m b p a t).2.2=[]:=λh0=>by
  cases b with
  |true=>
   rcases ya (l:=m.g.aF) (nx:=iH m.rows t.toNat) (st:=p.1) (seen:=a) (t:=t) rfl with⟨h1,h2⟩|⟨x,r,o,a1,h1,h2,h3,h4,h5,h6⟩
   exact congrArg A3 h2;exact absurd (congrArg Prod.fst h6) h0
  |false=>exact Fl 2001 p.2 [] h0
 refine⟨?_,hb⟩
 by_cases c:(kC m b p a t).1=0
 exact(wF h hp ht c).2;rw[hb c];exact bH _
theorem SY{m:Md}{b:Bool}{T N:Nat}(hk:jA m b T N){s:eP}(hs:dY m b s)(hr:kt s=aD):dY m b (kS m b s):=by
 obtain⟨r1,r2,r3⟩:=Ie hr;obtain⟨h1,h2,h3,h4,h5,h6,h7,h8,h9,JW,Gv,Nt,NT,Ku,Kv⟩:=hs;obtain⟨l1,l2,l3⟩:=h9 r1;have hn:(0:Int)<m.of.length:=by have:=hk.some;omega
 have hse:s.seen<=4096:=by omega
 rw[r1]at Nt;simp only[EL,if_false]at Nt;unfold kS
 cases e1:s.dH with
 | cons t l=>
  rw[e1]at h7 h8;simp only[de]at h7;have h8':=λu hu=>h8 u (List.mem_cons_of_mem _ hu);dsimp only
  by_cases c1:tB m t<0
  ·rw[if_pos c1]
   exact⟨h1,h2,h3,h4,h5,h6,by dsimp only;omega,h8',λ_=>⟨l1,l2,l3⟩,JW,Gv,by dsimp only;rw[r1];simpa using Nt,NT,Ku,Kv⟩
  rw[if_neg c1];obtain⟨t0,t1⟩:=h8 t (gd ..);have hl:tB m t<T:=by
   unfold tB;rw[b9,bD J,kp];have:=(hk.ofs _ (cD (show t.1.toNat<m.of.length by omega))).2;have:=hk.tT;omega
  obtain⟨g1,g2⟩:=aas hk l3 (a:=s.seen) hl;have g3:=Kj hk l3 (a:=s.seen) J hl;have g4:=wF hk l3 (a:=s.seen) hl;unfold v8 s8;dsimp only;generalize kC m b s.p s.seen (tB m t)=R at*;have hlen:(s.wait++R.2.2).length<=s.wait.length+2001:=by rw[bI];omega
  by_cases c2:R.1≠0
  ·rw[if_pos c2]
   unfold me;rw[g2 c2,dW,if_neg c2];exact⟨h1,h2,h3,h4,h5,h6,by dsimp only;omega,h8',λh=>(by cases h),JW,Gv,by dsimp only;rw[if_pos I];omega,NT,Ku,Kv⟩
  rw[if_neg c2];have c3:R.1=0:=by simpa using c2
  rw[if_pos c3];refine⟨h1,h2,h3,h4,h5,h6,by dsimp only;omega,h8',λ_=>⟨c3,l2,(g4 c3).1⟩,JW,SX Gv g3,by dsimp only;rw[r1,bI];simp only[EL,if_false];omega,by dsimp only;omega,Ku,Kv⟩
 | nil =>
  rw[e1]at h7 h8 r3;simp only[ia,ne_eq,not_true_eq_false,false_or]at h7 r3;dsimp only
  by_cases c1:s.bad≠0
  ·rw[if_pos c1]
   unfold me;exact⟨h1,h2,h3,h4,h5,h6,by dsimp only;rw[e1];simpa using h7,by dsimp only;rw[e1];exact h8,λh=>(by cases h),JW,Gv,by dsimp only;rw[if_pos I];omega,NT,Ku,Kv⟩
  rw[if_neg c1];have c1:s.bad=0:=by simpa using c1
  cases e2:s.im with
  | cons c r=>
   rw[e2]at h4;simp only[de]at h4;dsimp only;unfold SP Ft;have hc:=Fs (o:=m.o) (N:=m.N) (tags:=m.tags) [c] s.du s.gI;have hb:=NB (o:=m.o) (N:=m.N) (tags:=m.tags) [c] s.du s.gI h5;have NN:=Ic (o:=m.o) (N:=m.N) (tags:=m.tags) hn hk.tag [c] s.du s.gI;simp only[lW]at hc;generalize iy m.o m.N m.tags [c] s.du s.gI=D at*;have wP:¬s.jy=true:=λh=>by have:=(JW h).1;rw[e2]at this;cases this
   exact⟨h1,h2,h3,by dsimp only;omega,hb,λh _=>h,by dsimp only;omega,NN,λ_=>⟨l1,l2,l3⟩,λh=>absurd h wP,Gv,by dsimp only;rw[r1];simpa using Nt,NT,Ku,Kv⟩
  | nil=>
   rw[e2]at r3 h4;simp only[not_true_eq_false,false_or,c1]at r3;dsimp only
   by_cases c2:s.jy=aE
   ·rw[if_pos c2]
    unfold Kg Bf;have hc:=Ke (o:=m.o) (N:=m.N) (tags:=m.tags) (s.gI.length+1) s.du s.gI;have NN:=NA (o:=m.o) (N:=m.N) (tags:=m.tags) hn hk.tag (s.gI.length+1) s.du s.gI;generalize jz m.o m.N m.tags (s.gI.length+1) s.du s.gI=D at*;refine⟨h1,h2,h3,by dsimp only;rw[e2];simp only[ia]at h4⊢;omega,bH _,λ_ h=>(by cases h),by dsimp only;omega,NN,λ_=>⟨l1,l2,l3⟩,λ_=>⟨e2,r3⟩,Gv,by dsimp only;rw[r1];simpa using Nt,NT,Ku,Kv⟩
   rw[if_neg c2];have g1:=Fo hk l3 (a:=s.seen);have g3:=QT hk l3 (a:=s.seen) J;unfold me q9;dsimp only;generalize v7 m b s.p s.seen=R at*;have g2:R.2.length<=2001:=by
    by_cases c:R.1=0
    exact g1.1 c;rw[g1.2 c];exact bH _
   refine⟨h1,h2,h3,by dsimp only;rw[e2];exact h4,h5,h6,by dsimp only;rw[e1];simpa using h7,by dsimp only;rw[e1];exact h8,λh=>(by cases h),JW,SX Gv g3,by dsimp only;rw[if_pos I,bI];omega,by dsimp only;rw[bI];omega,Ku,Kv⟩
theorem SZ{m:Md}{b:Bool}{T N:Nat}(hk:jA m b T N):∀(k:Nat) {s:eP},dY m b s->dY m b (mZ m b k s).1/\(mZ m b k s).2<=k
 |0,s,hs=>⟨hs,bx _⟩
 | k +1,s,hs=>by
  unfold mZ
  by_cases c:kt s=aD
  ·rw[if_pos c]
   obtain⟨h1,h2⟩:=SZ hk k (SY hk hs c);exact⟨h1,by dsimp only;omega⟩
  rw[if_neg c];exact⟨hs,bH _⟩
theorem wJ{m:Md}{b:Bool}{s:eP}(hs:dY m b s)(e:Int)(pl:Nat):dY m b (jl s e pl):=by
 obtain⟨h1,h2,h3,h4,h5,h6,h7,h8,h9,JW,Gv,Nt,NT,Ku,Kv⟩:=hs;refine⟨h1,h2,h3,h4,h5,h6,h7,h8,λh=>(by cases h),JW,rfl,?_,bH _,Ku,Kv⟩;show s.gone+((0:Nat):Int)<=(s.seen+if aD=aD then 1 else 0)*2001
 rw[if_pos I];split at Nt<;>omega
theorem acK{m:Md}{b:Bool}{s:eP}(hs:dY m b s)(x:List UInt8):dY m b (xc s x).1:=by
 unfold xc;split;exact hs;split;exact hs;split;exact wJ hs _ _
 rename_i c1 c2 c3
 have c4:¬s.jy=true:=λh=>c1 (.inr (hs.jy h).2);obtain⟨h1,h2,h3,h4,h5,h6,h7,h8,h9,JW,Gv,Nt,NT,Ku,Kv⟩:=hs;exact⟨by dsimp only;omega,by dsimp only;omega,h3,by dsimp only;rw[bI];omega,h5,h6,h7,h8,h9,λh=>absurd h c4,Gv,Nt,NT,Ku,Kv⟩
theorem aat{m:Md}{b:Bool}{s:eP}(hs:dY m b s):dY m b (q8 s).1:=by
 unfold q8;split;exact hs;obtain⟨h1,h2,h3,h4,h5,h6,h7,h8,h9,JW,Gv,Nt,NT,Ku,Kv⟩:=hs;exact⟨h1,h2,h3,h4,h5,h6,h7,h8,h9,λh=>⟨(JW h).1,rfl⟩,Gv,Nt,NT,Ku,Kv⟩
theorem If{m:Md}{b:Bool}{s:eP}(hs:dY m b s):dY m b (kD s).1:=by
 unfold kD;split;exact hs;exact wJ hs _ _
theorem Vg{m:Md}{b:Bool}{s:eP}(hs:dY m b s):dY m b (pU s):=by
 unfold pU;split;exact hs;exact wJ hs _ _
theorem aau{m:Md}{b:Bool}{s:eP}(hs:dY m b s)(n:Int):dY m b (og s n).1:=by
 unfold og;split;exact hs;split;exact hs;obtain⟨h1,h2,h3,h4,h5,h6,h7,h8,h9,JW,Gv,Nt,NT,Ku,Kv⟩:=hs;exact⟨h1,h2,h3,h4,h5,h6,h7,h8,h9,JW,Gv,Nt,NT,⟨by dsimp only;omega,by dsimp only;omega⟩,Kv⟩
theorem acL{m:Md}{b:Bool}{s:eP}(hs:dY m b s)(n:Int):dY m b (tm s n).1:=by
 unfold tm;split;exact hs;split;exact hs;split;exact wJ hs _ _;obtain⟨h1,h2,h3,h4,h5,h6,h7,h8,h9,JW,Gv,Nt,NT,Ku,Kv⟩:=hs;exact⟨h1,h2,⟨by dsimp only;omega,by dsimp only;omega⟩,h4,h5,h6,h7,h8,h9,JW,Gv,Nt,NT,Ku,Kv⟩
theorem aav{l:List Ev}{c n:Int}(hc:0<=c)(hn:0<=n):takeN l c n<=l.length/\(takeN l c n:Int)<=c:=by
 unfold takeN;omega
theorem acM{m:Md}{b:Bool}{s:eP}(hs:dY m b s)(n:Int):dY m b (ka s n).1:=by
 unfold ka;split;exact hs
 rename_i c
 obtain⟨h1,h2,h3,h4,h5,h6,h7,h8,h9,JW,Gv,Nt,NT,Ku,Kv⟩:=hs;obtain⟨k1,k2⟩:=aav (l:=s.wait) Ku.1 (by omega:0<=n);have E7:(s.wait.drop (takeN s.wait s.cr n)).any rZ=false:=by
  rw[sX]at Gv⊢;exact λx hx=>Gv x (List.mem_of_mem_drop hx)
 refine⟨h1,h2,h3,h4,h5,h6,h7,h8,h9,JW,E7,?_,?_,⟨by dsimp only;omega,by dsimp only;omega⟩,by dsimp only;omega⟩
 ·dsimp only
  rw[jc];generalize ((s.seen:Int)+if s.over=aD then 1 else 0)=K at*;omega
 dsimp only;rw[jc];omega
end gu
namespace cI
open Go.RowKit cU dS aT dP fh gT jQ bJ mM gu cT
open iz (Ev rZ takeN)
theorem mP(b:Bool)(s:eP)(vp vq:Value):(iV b s vp vq).length=8:=by cases b<;>rfl
theorem wg{b:Bool}{g:Nat}{vo:Value}{pk md:List Value}{ut up uq uw:Value}{m:Md}(dG:pk.length=258)(ml:md.length=7)(s:eP)(hs:dY m b s)(B:bO)(w:World)(hm:Mem B (gu b g vo pk md s ut up uq uw) w):
 Calls aB 17 #[aJ (aj ⟨g,0,ak⟩)] w (cB (ret (.bool (kt s))) w):=by
 obtain⟨a1,c1,e1,_⟩:=l7 (hm.get (i:=1) rfl);obtain⟨a2,c2,e2⟩:=Kq (hm.get (i:=3) rfl);exact Gp dG ml (mP b s up uq) s (by have:=hs.seen;have:=hs.im;have:=hs.B7;have:=hs.il;omega) ⟨a1,c1,e1⟩ ⟨a2,c2,e2⟩ (by have:=hs.wl;omega) w (hm.get (i:=0) I)
def wkS(b:Bool)(g:Nat)(vo:Value)(pk md:List Value)(R:eP×Nat)(uq:Value):Spec (Value×Value×Value):=⟨λ_=>True,λ_=>av az (R.2:Int),λx=>gu b g vo pk md R.1 x.1 x.2.1 uq x.2.2⟩
theorem S3{m:Md}{b:Bool}{k:Nat}{s:eP}(h:kt s=aE\/k=0):mZ m b k s=(s,0):=by
 cases k with
 |zero=>rfl
 |succ k=>rw[mZ,if_neg (by rcases h with h|h;rw[h];decide;cases h)]
theorem acN{m:Md}{b:Bool}{k:Nat}{s:eP}(h:kt s=aD):mZ m b (k+1) s=((mZ m b k (kS m b s)).1,(mZ m b k (kS m b s)).2+1):=by rw[mZ,if_pos h]
set_option maxRecDepth 100000 in
theorem KA(x:Value)(m:Md){vo vn vt vp vr va vg ut up uq uw:Value}(b:Bool)(T N:Nat)(hk:jA m b T N)(g:Nat)(s:eP)(hs:dY m b s)(qS:Int)(ra:qS<=9223372036854775807)(w:World)(B:bO)(hR:nS B λw=>CO w x m vo vn vt vp vr va vg)
 (hm:Mem B (gu b g vo (eY m.o vn vt) (fK m.g.aR m.g.bC vp m.mode vr va vg) s ut up uq uw) w):
 Calls aB 14 #[aJ (aj ⟨g,0,ak⟩),av az qS] w (cY (wkS b g vo (eY m.o vn vt) (fK m.g.aR m.g.bC vp m.mode vr va vg) (mZ m b qS.toNat s) uq) B):=by
 have dG:(eY m.o vn vt).length=258:=fN _ _ _;have yD:=λs' (h1:dY m b s') h2 h3 ut' up' uw' w' B hR hm=>Kz x m (vo:=vo) (vn:=vn) (vt:=vt) (vp:=vp) (vr:=vr) (va:=va) (vg:=vg) (ut:=ut') (up:=up') (uq:=uq) (uw:=uw') b T N hk g s' h1 h2 h3 w' B hR hm;have eL:=λs' (h1:dY m b s') ut' up' uw' B w' (hm:Mem B (gu b g vo (eY m.o vn vt) (fK m.g.aR m.g.bC vp m.mode vr va vg) s' ut' up' uq uw') w')=>wg (m:=m) dG I s' h1 B w' hm;have lq:=λ(s':eP) h1 h2=>SY hk (s:=s') h1 h2;generalize hE:mZ m b qS.toNat s=E;generalize eY m.o vn vt=PK at*;generalize fK m.g.aR m.g.bC vp m.mode vr va vg=MT at*;refine dm hm (args:=[aJ (aj ⟨g,0,ak⟩),av az qS]) (n:=18) Tryz.func14 I I I ?_
 try refine GA ?_
 refine ea (ι:=Nat×eP×Value×Value×Value) (λ(k,s',_)=>(k:Int)<=max 0 qS/\dY m b s'/\((mZ m b (qS.toNat-k) s').1,k+(mZ m b (qS.toNat-k) s').2)=E) (λ(k,_)=>[(0,aJ (aj ⟨g,0,ak⟩)),(1,av az qS),(5,av az (k:Int))])
  (λ(_,s',ut',up',uw')=>gu b g vo PK MT s' ut' up' uq uw') (λ(k,_)=>qS.toNat-k) (0,s,ut,up,uw) ⟨by omega,hs,by subst hE;rw[Nat.sub_zero,cV]⟩ ?_
 clear hE hs;rintro⟨k,s',ut',up',uw'⟩ ⟨i1,i2,i3⟩;dsimp only at i1 i2 i3⊢
 by_cases c:(k:Int)<qS
 ·have eL:=eL s' i2 ut' up' uw'
  cases hr:kt s' with
  |true=>
   rw[hr]at eL;obtain⟨r1,r2,_⟩:=Ie hr;rw[show qS.toNat-k=(qS.toNat-(k+1))+1 by omega,acN hr]at i3
   try refine GA ?_
   refine mv (hZ aI.en I I) (λw hm=>eL B w hm) I I I I I ?_;intro _ _;refine zL ?_
   try refine GA ?_
   refine bm [0,1,2,3] [] aiT I I (hZ aI.en I I) (λw hm hb=>yD s' i2 r1 r2 _ _ _ w _ (hR.on (hm.pick [0,1,2,3] aiT I)) hb) I I I ?_;rintro⟨v1,v2,v3⟩ _
   conv=>arg 8;simp only[zJ,cK,ret,id_eq,tF]
   try refine GA ?_
   exact bY (k+1,kS m b s',v1,v2,v3) ⟨by omega,lq s' i2 hr,by rw[<-i3];dsimp only;rw[kZ,Nat.add_comm 1]⟩ (by show qS.toNat-(k+1)<qS.toNat-k;omega)
  |false=>
   rw[hr]at eL;rw[S3 (.inl hr)]at i3;subst i3
   try refine GA ?_
   refine mv (hZ aI.en I I) (λw hm=>eL B w hm) I I I I I ?_;intro _ _;refine zL ?_
   try refine GA ?_
   exact cJ I I λw hm=>hm.bV (S:=wkS b g vo PK MT (s',k+0) uq) (ut',up',uw') trivial [0,1,2,3] aiT I
 ·rw[S3 (.inr J)]at i3
  subst i3
  try refine GA ?_
  exact cJ I I λw hm=>hm.bV (S:=wkS b g vo PK MT (s',k+0) uq) (ut',up',uw') trivial [0,1,2,3] aiT I
end cI
namespace cI
open Go.RowKit cU dS
theorem acO(l:List bJ.Act):∀u∈l.flatMap jj,u.oneCell'=true:=by
 intro u hu;obtain⟨x,_,h⟩:=Au.1 hu;simp only[jj,dA,fv,or_false]at h;rcases h with rfl|rfl<;>rfl
theorem aaw(a:bJ.Act):(jj a).length=2:=rfl
theorem Cp(v:Value)(l:List bJ.Act)(w:World)(hs:Sl w v l.length (l.flatMap jj))(hl:l.length*16<=140737488355328):
 Calls aB 88 #[v] w (cB (cK 146 2 l.length (l.flatMap jj) id) w):=by
 obtain⟨base,cap,rfl,ly,kl,eL⟩:=hs;unfold maxLen at kl;refine enter (args:=[ap base l.length cap]) (n:=8) Tryz.func88 I I I ?_;have ry:∀w',Gr w w'->Sl w' (ap base l.length cap) l.length (l.flatMap jj):=λw' hg=>Sl.gr ⟨base,cap,rfl,ly,kl,eL⟩ hg;clear eL
 cases base with
 | none=>
  repeat(first|refine GC ?_|refine gV (jV bM.eq I I I) ?_|refine GB ?_)
  have h0:l=[]:=by
   cases l with
   |nil=>rfl
   |cons x l=>obtain⟨_,_,h,_,_,h2⟩:=ry w (Gr.refl w);simp only[iX]at h;obtain⟨rfl,_⟩:=h;obtain⟨b,off,h,_⟩:=h2 (by simp);cases h
  subst h0;refine dK 146 2 ?_;exact cJ I I λw hm=>hm.meets (S:=cK 146 2 0 [] id) _ trivial [0] aiT I
 |some p=>
  repeat(first|refine GC ?_|refine gV (jV bM.eq I I I) ?_|refine GB ?_)
  refine wq I λg=>?_
  try refine GA ?_
  refine eK (i:=0) I (λw' hm=>ry w' hm.below) I I (k9 aaw l) (acO l) J J I λv'=>?_;rw[eu]
  try refine GA ?_
  refine cJ I I λw hm=>?_;exact hm.meets (S:=cK 146 2 l.length (l.flatMap jj) id) v' trivial [0] aiT (by simp[cK])
end cI
namespace cI
open Go.RowKit cU dS aT dP fh gT jQ bJ mM gu cT
abbrev BX{α:Type}(s:wL α)(N:List (List α)):Spec (Value×(Nat->Prop)):=⟨λx=>∃a c,x.1=ap a N.length c,λx=>x.1,λx=>[FU (bL (bL s)) x.2 [x.1] N]⟩
theorem NC{w:World}{v:Value}{l:List Int}(hp:∀x∈l,cU.d_ x)(h:(a_ 3 1 v l.length (l.flatMap cU.ez)).holds w):(bL fG).is (λk=>v.ownBlock=aj k) w [v] l:=
 ⟨v,rfl,jW.of_flat (Sl.dB h) hp (λ_ h=>h) (λa n cp hv=>by rw[hv];rfl)⟩
theorem tb(v:Value)(N:List (List Int))(w:World)(h:jW (bL fG) (p9 w) w v N)(hn:N.length<=1000000)(hl:∀r∈N,r.length<=1000000):
 Calls aB 54 #[v] w (cB (BX fG N) w):=by
 obtain⟨bv,cv,rfl,IZ,FL,hrv⟩:=h;unfold maxLen at FL;refine enter (args:=[ap bv N.length cv]) (n:=19) Tryz.func54 I I I ?_
 try refine GA ?_
 refine jf 27 1 (mB (ef (bL fG) (λ_=>False) [] []) (λk hk=>hk.elim (λh=>by cases h) id) (λw=>jk) ?_);refine ea (ι:=Nat×Value×List (List Value)×(Nat->Prop)) (λ(k,_,_,_)=>k<=N.length) (λ(k,vo,_,_)=>[(3,vo),(6,ap bv N.length cv),(7,av az N.length),(8,av az (k:Int))])
  (λ(k,vo,fX,F)=>[a_ 27 1 vo k fX.flatten,ef (bL fG) F fX (N.take k)]) (λ(k,_,_,_)=>N.length-k) (0,ap ak 0 0,[],λ_=>False) (bH _) ?_
 rintro⟨k,vo,fX,F⟩ i1;dsimp only at i1⊢
 by_cases c:k<N.length
 ·obtain⟨b,off,rfl,_,hr⟩:=hrv J
  obtain⟨cs,⟨vx,rfl,hx⟩,eL⟩:=hr k c;have du:∀(L:List cH),At w L ⟨b,off+k*1,ak⟩ vx:=λL=>iI (j:=0) eL I;have KQ:=hl _ (cD c);have qf:N.take (k+1)=N.take k++[N[k]]:=iv c;have gL:=λw' (hg:Gr w w')=>jY vx N[k] w' ((hx.flat aiT).gr hg) J;have lq:=hx.okp;generalize N[k]=l at*;clear hr eL hrv hx
  repeat(first|refine GA ?_|refine gV (aX bM.eq aK.ty I I c) ?_|refine gV (aC (v:=vx) aK.ty I (du _)) ?_)
  refine aV (hZ aI.en I I) (λw hm=>gL _ hm.below) I I I ?_;intro v1 _;refine zL ?_;refine aU (i:=2) I λhu1 hu2=>?_;refine jT (i:=0) I I hu1 hu2 I I (λz h=>by cases h;rfl) J J I λz E_=>?_;refine zL ?_;refine pa (ef (bL fG) (λk=>F k\/v1.ownBlock=aj k) (fX++[[v1]]) (N.take k++[l])) 2 1 [0] aiT I I I (λk hk=>hk.elim (λh=>by cases h) λh=>h.elim (λh=> .inr (.inr h)) λh=> .inl (.inl h)) (λw hr he=>?_) ?_;exact mA he (NC lq hr) λk hk=>(a_ 3 1 v1 l.length (l.flatMap cU.ez)).lt w hr k (.inl hk);refine zL ?_
  try refine GA ?_
  exact bY (k+1,E_,fX++[[v1]],λk=>F k\/v1.ownBlock=aj k) (by show k+1<=N.length;omega) (by show N.length-(k+1)<N.length-k;omega) (hl:=by rw[qf,A1];rfl)
 ·obtain rfl:k=N.length:=by omega
  rw[gB (bx _)];refine IG (i:=0) I λbase cap hv _ _=>?_
  try refine GA ?_
  refine ww (FU (bL (bL fG)) (W9 F vo) [vo] N) 0 1 [] aiT I I I (λk hk=>hk.elim (λh=>by cases h) λh=>h.elim (λh=> .inr (.inr h)) λh=> .inl (.inl h)) (λw hr he=>?_) ?_;exact⟨⟨vo,rfl,xG (s:=bL fG) hr he aiT⟩,xH hr he⟩;exact cJ I I λw hm=>hm.meets (S:=BX fG N) (vo,W9 F vo) ⟨base,cap,hv⟩ [0] aiT I
theorem KB(v:Value)(N:List (List bJ.Act))(w:World)(h:jW (bL oE) (p9 w) w v N)(hn:N.length<=1000000)(hl:∀r∈N,r.length<=1000000):
 Calls aB 56 #[v] w (cB (BX oE N) w):=by
 obtain⟨bv,cv,rfl,IZ,FL,hrv⟩:=h;unfold maxLen at FL;refine enter (args:=[ap bv N.length cv]) (n:=19) Tryz.func56 I I I ?_
 try refine GA ?_
 refine jf 143 1 (mB (ef (bL oE) (λ_=>False) [] []) (λk hk=>hk.elim (λh=>by cases h) id) (λw=>jk) ?_);refine ea (ι:=Nat×Value×List (List Value)×(Nat->Prop)) (λ(k,_,_,_)=>k<=N.length) (λ(k,vo,_,_)=>[(3,vo),(6,ap bv N.length cv),(7,av az N.length),(8,av az (k:Int))])
  (λ(k,vo,fX,F)=>[a_ 143 1 vo k fX.flatten,ef (bL oE) F fX (N.take k)]) (λ(k,_,_,_)=>N.length-k) (0,ap ak 0 0,[],λ_=>False) (bH _) ?_
 rintro⟨k,vo,fX,F⟩ i1;dsimp only at i1⊢
 by_cases c:k<N.length
 ·obtain⟨b,off,rfl,_,hr⟩:=hrv J
  obtain⟨cs,⟨vx,rfl,hx⟩,eL⟩:=hr k c;have du:∀(L:List cH),At w L ⟨b,off+k*1,ak⟩ vx:=λL=>iI (j:=0) eL I;have KQ:=hl _ (cD c);have qf:N.take (k+1)=N.take k++[N[k]]:=iv c;have gL:=λw' (hg:Gr w w')=>Cp vx N[k] w' ((hx.flat aiT).gr hg) J;have lq:=hx.okp;generalize N[k]=l at*;clear hr eL hrv hx
  repeat(first|refine GA ?_|refine gV (aX bM.eq aK.ty I I c) ?_|refine gV (aC (v:=vx) aK.ty I (du _)) ?_)
  refine aV (hZ aI.en I I) (λw hm=>gL _ hm.below) I I I ?_;intro v1 _;refine zL ?_;refine aU (i:=2) I λhu1 hu2=>?_;refine jT (i:=0) I I hu1 hu2 I I (λz h=>by cases h;rfl) J J I λz E_=>?_;refine zL ?_;refine pa (ef (bL oE) (λk=>F k\/v1.ownBlock=aj k) (fX++[[v1]]) (N.take k++[l])) 2 1 [0] aiT I I I (λk hk=>hk.elim (λh=>by cases h) λh=>h.elim (λh=> .inr (.inr h)) λh=> .inl (.inl h)) (λw hr he=>?_) ?_;exact mA he (E5 hr) λk hk=>(a_ 146 2 v1 l.length (l.flatMap jj)).lt w hr k (.inl hk);refine zL ?_
  try refine GA ?_
  exact bY (k+1,E_,fX++[[v1]],λk=>F k\/v1.ownBlock=aj k) (by show k+1<=N.length;omega) (by show N.length-(k+1)<N.length-k;omega) (hl:=by rw[qf,A1];rfl)
 ·obtain rfl:k=N.length:=by omega
  rw[gB (bx _)];refine IG (i:=0) I λbase cap hv _ _=>?_
  try refine GA ?_
  refine ww (FU (bL (bL oE)) (W9 F vo) [vo] N) 0 1 [] aiT I I I (λk hk=>hk.elim (λh=>by cases h) λh=>h.elim (λh=> .inr (.inr h)) λh=> .inl (.inl h)) (λw hr he=>?_) ?_;exact⟨⟨vo,rfl,xG (s:=bL oE) hr he aiT⟩,xH hr he⟩;exact cJ I I λw hm=>hm.meets (S:=BX oE N) (vo,W9 F vo) ⟨base,cap,hv⟩ [0] aiT I
end cI
namespace cI
open Go.RowKit cU
theorem Q7{P:Program}{t:TypeId}{fields:Array Field}{z:Value}{pl:Array (Nat×Nat)}{parts:Array (Nat×Value)}{c:Array Value}{w:World}(hz:(zeroValue t).run P w= .ok z w)(hu:(underlying t).run P w= .ok (.struct fields) w)
 (hp:(fields.mapM λf=>do pure (f.offset,<-sizeOf f.type):Sem (Array (Nat×Nat))).run P w= .ok pl w) (hf:jB (pl[·]?) z.cells parts.toList=aj c):(dh t parts).run P w= .ok (.agg c) w:=by
 simp at hp;simp[dh,hz,hu,hp,hf]
theorem FB(off:Nat):∀(vs:List Value) (k:Nat) (cs:List Value),off+k+vs.length<=cs.length->(vs.zipIdx k).foldl (λcs (c,j)=>cs.setIfInBounds (off+j) c) cs.toArray=(cs.take (off+k)++vs++cs.drop (off+k+vs.length)).toArray
 |[],k,cs,_=>by simp
 |v::vs,k,cs,h=>by
  simp only[de]at h;rw[List.zipIdx_cons,List.foldl_cons];dsimp only;rw[ux,FB off vs (k+1) _ (by rw[List.length_set];omega)]
  congr 1
  rw[show off+(k+1)=off+k+1 by omega,List.take_set,List.drop_set_of_lt J,de,show off+k+(vs.length+1)=off+k+1+vs.length by omega];rw[List.take_add_one,List.set_append_right _ _ (by simp;omega)];have:(off+k)<cs.length:=by omega
  simp[bD this,List.length_take,Nat.min_eq_left (Nat.le_of_lt this)]
theorem Vh{place:Nat->Option (Nat×Nat)}{i off m:Nat}{cells a:List Value}{rest:List (Nat×Value)}(h0:place i=aj (off,m))(ha:a.length=m)(hc:off+m<=cells.length):jB place cells.toArray ((i,aQ a.toArray)::rest)=jB place (cells.take off++a++cells.drop (off+m)).toArray rest:=by
 subst ha;have:=FB off a 0 cells J;rw[jC]at this;rw[jB,h0];show(if _ then ak else _)=_
 rw[if_neg (by simp[sR];omega)]
 congr 1
 rw[<-this,<-aaq];simp[sR]
end cI
namespace cI
open Go.RowKit cU dS aT dP fh gT jQ bJ mM cT
theorem CO.gr{w w':World}{v:Value}{m:Md}{vo vn vt vp vr va vg:Value}(h:CO w v m vo vn vt vp vr va vg)(hg:Gr w w'):CO w' v m vo vn vt vp vr va vg:=
 ⟨h.val,h.of.gr hg,h.pk.gr hg,h.Ba.gr hg,sL h.rows hg,h.pt.gr hg⟩
end cI
namespace cI
open Go.RowKit cU dS aT dP fh gT jQ bJ mM gu cT
theorem acP(o:Of)(vn vt v:Value):(eY o vn vt).set 256 v=eY o v vt:=by
 unfold eY;rw[A2,if_neg (by simp)];simp
theorem acQ(o:Of)(vn vt v:Value):(eY o vn vt).set 257 v=eY o vn v:=by
 unfold eY;rw[A2,if_neg (by simp)];simp
theorem acR{vo:Value}{pk tl:List Value}(j:Nat)(hj:j<pk.length){k:Nat}(v:Value)(hk:k=j+1):(jd vo pk tl).toArray.setIfInBounds k v=(jd vo (pk.set j v) tl).toArray:=by
 subst hk;rw[ux,jd,List.set_cons_succ,A2,if_pos hj];rfl
section
variable{P:Program}{n:Nat}{W:bO}{fr:Fr}{L:List cH}{Q:Exit->Act->World->Prop}{ops:Array Oper}{rest:List Oper}{ty:TypeId}{pos:String}{after:Array Edge}{t:TypeId}{p x:Operand}{i g k:Nat}{vo:Value}{pk tl:List Value}{T:TypeId}{agg:Bool}{v:Value}
theorem FC(j:Nat){pk':List Value}[hT:aK P t agg 1](hi:L[i]?=aj (aP g (jd vo pk tl).toArray T))(hp:ev fr p=aj (aJ (aj ⟨g,k,ak⟩)))(hx:ev fr x=aj v)(hv:v.cells=#[v])(h1:v.oneCell'=aD)(hk:k=j+1)(dG:pk.length=258)(hj:j<258)(he:pk.set j v=pk')
 (h:TL P n W ops Q rest fr (L.set i (aP g (jd vo pk' tl).toArray T))):TL P n W ops Q (⟨ak,.store t p x,ty,pos,after,ak⟩::rest) fr L:=by
 subst he;refine bU hi hp hx hv h1 ?_ ?_
 ·rw[List.size_toArray,jd,de,bI]
  exact Nat.ble_eq_true_of_le J
 ·rw[acR j J v hk];exact h
end
theorem ND(a:Option Addr)(m c:Nat)(b:Option Addr)(n d:Nat)(w:World):(dh 37 #[(0,ap a m c),(1,ap b n d)]).run aB w= .ok (aQ #[ap a m c,ap b n d]) w:=by kernel_rfl
structure aax(m:Md):Prop where
 n1:m.N.length<=1000000
 n2:∀r∈m.N,r.length<=1000000
 t1:m.tags.length<=1000000
 r1:m.rows.length<=1000000
 r2:∀r∈m.rows,r.length<=1000000
 a1:m.A.length<=1000000
 a2:∀r∈m.A,r.length<=1000000
 g1:m.G.length<=1000000
 g2:∀r∈m.G,r.length<=1000000
structure CpX where
 vo:Value
 vn:Value×(Nat->Prop)
 vt:Value
 vp:Value×(Nat->Prop)
 vr:Value×(Nat->Prop)
 va:Value×(Nat->Prop)
 vg:Value×(Nat->Prop)
def CpX.L(x:CpX)(m:Md):List cH:=[a_ 3 1 x.vo m.of.length (m.of.flatMap cU.ez),FU (bL (bL fG)) x.vn.2 [x.vn.1] m.N,a_ 3 1 x.vt m.tags.length (m.tags.flatMap cU.ez),n_ x.vp.2 x.vp.1 m.g.aF,FU (bL (bL fG)) x.vr.2 [x.vr.1] m.rows,FU (bL (bL oE)) x.va.2 [x.va.1] m.A,FU (bL (bL fG)) x.vg.2 [x.vg.1] m.G]
def CpX.mk'(x:CpX)(Ls:List cH):MkX:=⟨x.vo,x.vn.1,x.vt,x.vp.1,x.vr.1,x.va.1,x.vg.1,Ls⟩
def cpS(m:Md):Spec CpX:=⟨λx=>((x.mk' []).cells m).toArray.toList.all eZ=aD,λx=>aQ ((x.mk' []).cells m).toArray,λx=>x.L m⟩
theorem KC{α:Type}{s:wL α}{F:Nat->Prop}{v:Value}{N:List (List α)}{w:World}(h:(FU (bL (bL s)) F [v] N).holds w):jW (bL s) (p9 w) w v N:=by
 obtain⟨⟨v',hv,h1⟩,h2⟩:=h
 cases hv
 exact h1.mono h2
theorem afi{m:Md}{x:CpX}{B:bO}{w:World}(hm:Mem B (x.L m) w)(ht:cU.d_ m.g.aR)(hn:cU.d_ m.g.bC):CO w (aQ ((x.mk' []).cells m).toArray) m x.vo x.vn.1 x.vt x.vp.1 x.vr.1 x.va.1 x.vg.1 where
 val:=rfl
 of:=Sl.dB (hm.get (i:=0) I)
 pk:=⟨KC (hm.get (i:=1) I),Sl.dB (hm.get (i:=2) I)⟩
 Ba:=⟨x.vp.1,rfl,(by
  obtain⟨⟨v',hv,h1⟩,h2⟩:=(hm.get (i:=3) rfl:(n_ x.vp.2 x.vp.1 m.g.aF).holds w)
  cases hv
  exact h1.mono h2),ht,hn⟩
 rows:=KC (hm.get (i:=4) I)
 pt:=⟨x.va.1,x.vg.1,rfl,KC (hm.get (i:=5) I),KC (hm.get (i:=6) I)⟩
theorem S4{o:Of}{vn vt:Value}(h1:vn.oneCell'=aD)(h2:vt.oneCell'=aD):(eY o vn vt).all eZ=true:=by
 unfold eY;rw[List.all_append,List.all_eq_true.2 (λx hx=>by obtain⟨n,_,rfl⟩:=List.mem_map.1 hx;rfl)];simp[h1,h2]
theorem acS{α:Type}{s:wL α}{w:World}{v:Value}{N:List (List α)}(h:jW (bL s) (p9 w) w v N):v.oneCell'=true:=by
 obtain⟨b,c,rfl,_⟩:=h;rfl
attribute [local irreducible] Instr.build in
set_option maxRecDepth 100000 in
theorem KD(x:Value)(m:Md){vo vn vt vp vr va vg:Value}(w:World)(h:CO w x m vo vn vt vp vr va vg)(hs:aax m)(hg:aT.b_ m.g=0)(h20:m.of.length<=20):
 Calls aB 26 #[x] w (cB (cpS m) w):=by
 have dG:(eY m.o vn vt).length=258:=fN _ _ _;have hpn:(eY m.o vn vt)[256]?=aj vn:=by have:=lF m.o vn vt;simpa using this
 have hpt:(eY m.o vn vt)[257]?=aj vt:=by have:=nE m.o vn vt;simpa using this
 have hcO:=λw' (hw:Gr w w')=>jY vo m.of w' (h.of.gr hw) J;have hcN:=λw' (hw:Gr w w')=>tb vn m.N w' (sL h.pk.hN hw) hs.n1 hs.n2;have hcT:=λw' (hw:Gr w w')=>jY vt m.tags w' (h.pk.hT.gr hw) (by have:=hs.t1;omega);have hcR:=λw' (hw:Gr w w')=>tb vr m.rows w' (sL h.rows hw) hs.r1 hs.r2;obtain⟨va',vg',hag,hA,hG⟩:=h.pt
 cases hag
 have hcA:=λw' (hw:Gr w w')=>KB va m.A w' (jW.gr hA hw) hs.a1 hs.a2;have hcG:=λw' (hw:Gr w w')=>tb vg m.G w' (sL hG hw) hs.g1 hs.g2;obtain⟨_,_,_,_,hlen,hps⟩:=cP hg;have Cj:((jd vo (eY m.o vn vt) (fK m.g.aR m.g.bC vp m.mode vr va vg)).toArray.toList.all eZ=aD):=by
  refine vP ?_ (S4 (acS h.pk.hN) ?_) ?_;obtain⟨b,c,e,_⟩:=h.of;rw[e];rfl;obtain⟨b,c,e,_⟩:=h.pk.hT;rw[e];rfl;obtain⟨vp',e,⟨b,c,e',_⟩,_⟩:=h.Ba;have e2:vp=vp':=by simp only[dJ,lV]at e;have:=congrArg (λz:Array Value=>z[2]?) e;simpa using this
  rw[e2,e'];obtain⟨b1,c1,e1,_⟩:=h.rows;obtain⟨b2,c2,e2,_⟩:=hA;obtain⟨b3,c3,e3,_⟩:=hG;rw[e1,e2,e3];rfl
 obtain⟨vp',NS,hP,_⟩:=h.Ba;obtain rfl:vp=vp':=by simp only[dJ,lV]at NS;have:=congrArg (λz:Array Value=>z[2]?) NS;simpa using this
 clear NS;obtain⟨bp,cp,rfl,IZ,FL,oo⟩:=hP;unfold maxLen at FL;obtain rfl:=h.val;clear h hA hG;obtain⟨of,o,N,tags,g,mode,rows,A,G⟩:=m;obtain⟨gt,gn,aF⟩:=g;dsimp only at*;have hsz:∀(vo:Value) (o:Of) (vn vt a b c d e f q:Value),(jd vo (eY o vn vt) [a,b,c,d,e,f,q]).toArray.size=266:=λ_ _ _ _ _ _ _ _ _ _ _=>kB (fN _ _ _) I;have KE:∀(vn vt:Value),(eY o vn vt).length=258:=λ_ _=>fN _ _ _;refine enter (args:=[aQ (jd vo (eY o vn vt) (fK gt gn (ap bp aF.length cp) mode vr va vg)).toArray]) (n:=62) Tryz.func26 I I I ?_;refine cC (bz (bR I I I λg1=>aY I λg2=>?_));refine zL ?_
 repeat(first|refine GA ?_|refine gV (aO (i:=0) aK.ty I I (hsz _ _ _ _ _ _ _ _ _ _ _)) ?_)
 refine aY I λg3=>?_;rw[sU];refine zL ?_;refine aW (i:=2) (cs':=(jd vo (eY o vn vt) (fK gt gn (ap bp aF.length cp) mode vr va vg)).toArray) I I I (hsz _ _ _ _ _ _ _ _ _ _ _) Cj (kB iU I) ?_;refine zL ?_
 repeat(first|refine GA ?_|refine gV (aC (v:=vo) aK.ty I (aH (i:=0) I I)) ?_)
 refine aV (hZ aI.en I I) (λw hm=>hcO _ hm.below) I I I ?_;intro E_ _;refine zL ?_
 try refine GA ?_
 refine aU (i:=3) I λu1 u2=>yp (i:=2) I I I u1 u2 I ?_;refine zL ?_
 try refine GA ?_
 refine dN ([aP g1 (jd vo (eY o vn vt) (fK gt gn (ap bp aF.length cp) mode vr va vg)).toArray 39]) (.calm 0 (.calm 1 (.calm 2 (.calm 4 (.calm 5 (.calm 6 (.one 3 (.calm 8 (.calm 9 (.one 7 (.one 10 (.calm 11 (.calm 12 (.one 13 (.done))))))))))))))) (bW [0]) ?_
 repeat(first|refine GW ?_|(refine GN ?_;first|refine QW (aC (v:=vn) aK.ty I (aH (i:=0) I (HV dG hpn))) ?_|refine QW (aC (v:=vt) aK.ty I (aH (i:=0) I (HV dG hpt))) ?_))
 refine aL I ?_;refine aV (hZ aI.en I I) (λw hm=>hcN _ hm.below) I I I ?_;rintro⟨vn',Fn⟩ ⟨an,cn,un⟩;dsimp only at un;subst un
 conv=>arg 8;simp only[zJ,cK,ret,id_eq,BX]
 refine aM (bW [0]) ?_
 try refine GW ?_
 refine aL I ?_;refine aV (hZ aI.en I I) (λw hm=>hcT _ hm.below) I I I ?_;intro oD _;refine zL ?_;refine aM (bW [0]) ?_
 try refine GW ?_
 refine aL I (FC (i:=2) 256 I I I I I I (KE _ _) aiT (acP _ _ _ _) ?_);refine zL ?_;refine aM (bW [0]) ?_
 try refine GW ?_
 refine aL I (aU (i:=5) I λu3 u4=>FC (i:=2) 257 I I I u3 u4 I (KE _ _) aiT (acQ _ _ _ _) ?_);refine zL ?_;refine aM (bW [0]) ?_
 try refine GW ?_
 try refine GA ?_
 refine dU (i:=2) 2 I I I I I I (KE _ _) I ?_;refine zL ?_
 repeat(first|refine GA ?_|refine gV (aC (v:=ap bp aF.length cp) aK.ty I (aH (i:=0) I (jh 2 dG I I))) ?_)
 refine jf 132 2 (mB (ef om (λ_=>False) [] []) (λk hk=>hk.elim (λh=>by cases h) id) (λw=>jk) ?_);refine ea (ι:=Nat×Value×List (List Value)×(Nat->Prop)) (λ(k,vq,_,_)=>k<=aF.length/\vq.cells=#[vq]/\vq.oneCell'=aD) (λ(k,vq,_,_)=>[(1,aJ (aj ⟨g1,0,ak⟩)),(2,aJ (aj ⟨g2,0,ak⟩)),(3,aJ (aj ⟨g3,0,ak⟩)),(27,ap bp aF.length cp),(28,av az aF.length),(29,av az (k:Int))])
  (λ(k,vq,fX,F)=>[aP g1 (jd vo (eY o vn vt) (fK gt gn (ap bp aF.length cp) mode vr va vg)).toArray 39,aP g2 FP.toArray 39,aP g3 (jd E_ (eY o (ap an N.length cn) oD) (fK gt gn vq mode vr va vg)).toArray 39,a_ 3 1 E_ of.length (of.flatMap cU.ez),FU (bL (bL fG)) Fn [ap an N.length cn] N,a_ 3 1 oD tags.length (tags.flatMap cU.ez),a_ 132 2 vq k fX.flatten,ef om F fX (aF.take k)]) (λ(k,_,_,_)=>aF.length-k) (0,ap ak 0 0,[],λ_=>False) ⟨bH _,rfl,rfl⟩ ?_
 rintro⟨k,vq,fX,F⟩ ⟨i1,i2,i3⟩;dsimp only at i1 i2 i3⊢
 by_cases c6:k<aF.length
 ·obtain⟨b,off,rfl,_,hr⟩:=oo J
  obtain⟨bb,cb,q1,q2,q3⟩:=lA hr c6;have du:∀(L:List cH) (j:Nat) (v:Value),([av az aF[k].1,.slice bb aF[k].2.length cb]:List Value)[j]?=aj v->At w L ⟨b,off+k*2+j,ak⟩ v:=λL j v hj=>iI q1 hj;have ON:=(hps aF[k] (cD c6)).1;have qf:aF.take (k+1)=aF.take k++[aF[k]]:=iv c6;clear hr oo q1 hps;generalize aF[k]=p at*;obtain⟨hd,body⟩:=p;have ah9:=q3.okp;have gL:=λw' (hg:Gr w w')=>Ca (ap bb body.length cb) body w' ((q3.flat aiT).gr hg) (by dsimp only at ON;omega);dsimp only at*
  repeat(first|refine GA ?_|refine gV (aX bM.eq aK.ty I I c6) ?_|refine gV (a8 aK.ty I I (du _)) ?_)
  clear du;refine aY I λg5=>?_;refine gC 8 ?_;refine zL ?_
  try refine GA ?_
  refine dN ([aP g5 #[av az hd,ap bb body.length cb] 132]) (.calm 0 (.calm 1 (.calm 3 (.calm 4 (.calm 5 (.calm 6 (.two 2 (.one 7 (.calm 8 (.one 9 (.one 10 (.calm 11 (.calm 12 (.one 13 (.done)))))))) 7 (.calm 8 (.two 2 (.one 9 (.one 10 (.calm 11 (.calm 12 (.one 13 (.done)))))) 9 (.one 2 (.one 10 (.calm 11 (.calm 12 (.one 13 (.done))))))))))))))) (bW [8]) ?_
  repeat(first|refine GW ?_|(refine GN ?_;first|refine QW (aC aK.ty I (aH (i:=0) I I)) ?_))
  refine eG I I ?wa ?wb
  case' wa=>
   refine dx (aC (v:=vq) aK.ty I (aH (i:=2) I (jh 2 (KE _ _) I I))) I I I (aM (bW [8]) ?_);refine aL I ?_
  all_goals
   refine aV (hZ aI.en I I) (λw hm=>gL _ hm.below) I I I ?_;intro vb _;refine zL ?_;refine mz (i:=9) I λb2 c2 zU e1 e2=>?_;subst zU;refine aM (bW [8]) ?_
   repeat(first|refine GW ?_|(refine GN ?_;first|refine QW (bB I (OV _ _ _ _)) ?_))
  case' wa=>refine aL I (fF (cs:=#[av az hd,ap b2 body.length c2]) I I I I I λg9=>aM (bW [8]) ?_)
  case' wb=>refine eG I I ?wc ?wd
  case' wc=>
   refine dx (aC (v:=vq) aK.ty I (aH (i:=2) I (jh 2 (KE _ _) I I))) I I I (aM (bW [8]) ?_);refine aL I (fF (cs:=#[av az hd,ap b2 body.length c2]) I I I I I λg9=>aM (bW [8]) ?_)
  case' wd=>
   refine fF (cs:=#[av az hd,ap b2 body.length c2]) I I I I I λg9=>aM (bW [8]) ?_;refine aL I (dx (aC (v:=vq) aK.ty I (aH (i:=2) I (jh 2 (KE _ _) I I))) I I I (aM (bW [8]) ?_))
  all_goals
   refine aL I (mw (i:=6) (q:=10) I I I I I I J J I λvq2=>aM (bW [8]) ?_)
   try refine GW ?_
   refine aL I (aU (i:=6) I λnU my=>dU (i:=2) 2 I I I nU my I (KE _ _) I (aM (bW [8]) ?_))
   try refine GW ?_
   refine ww (ef om (λk=>F k\/(ap b2 body.length c2).ownBlock=aj k) (fX++[[av az hd,ap b2 body.length c2]]) (aF.take k++[(hd,body)])) 9 7 [0,1,2,3,4,5,6] aiT I I I (λk hk=>hk.elim (λh=>by cases h) λh=>h.elim (λh=> .inr (.inr h)) λh=> .inl (.inl h)) (λw hr he=>?_) ?_
   ·exact mA he (Bq q2 ah9 hr) λk hk=>(a_ 156 2 (ap b2 body.length c2) body.length (body.flatMap eA)).lt w hr k (.inl hk)
   try refine GA ?_
   exact bY (k+1,vq2,fX++[[av az hd,ap b2 body.length c2]],λk=>F k\/(ap b2 body.length c2).ownBlock=aj k) ⟨by omega,nU,my⟩ (by show aF.length-(k+1)<aF.length-k;omega) (hl:=by rw[qf,A1];rfl)
 ·obtain rfl:k=aF.length:=by omega
  rw[gB (bx _)]
  repeat(first|refine GA ?_|refine gV (aC (v:=vr) aK.ty I (aH (i:=0) I (jh 4 dG I I))) ?_)
  refine aV (hZ aI.en I I) (λw hm=>hcR _ hm.below) I I I ?_;rintro⟨B8,Fr'⟩ ⟨ar,cr,ur⟩;dsimp only at ur;subst ur
  conv=>arg 8;simp only[zJ,cK,ret,id_eq,BX]
  try refine GA ?_
  refine dU (i:=2) 4 I I I I I I (KE _ _) I ?_;refine zL ?_
  try refine GA ?_
  refine dN ([aP g1 (jd vo (eY o vn vt) (fK gt gn (ap bp aF.length cp) mode vr va vg)).toArray 39]) (.calm 0 (.calm 1 (.calm 2 (.calm 4 (.calm 5 (.calm 6 (.one 3 (.one 7 (.calm 8 (.calm 9 (.one 10 (.done)))))))))))) (bW [0]) ?_
  repeat(first|refine GW ?_|(refine GN ?_;first|refine QW (aC (v:=va) aK.ty I (aH (i:=0) I (jh 5 dG I I))) ?_|refine QW (aC (v:=vg) aK.ty I (aH (i:=0) I (jh 6 dG I I))) ?_))
  refine aL I ?_;refine aV (hZ aI.en I I) (λw hm=>hcA _ hm.below) I I I ?_;rintro⟨va',Fa'⟩ ⟨aa,ca,ua⟩;dsimp only at ua;subst ua
  conv=>arg 8;simp only[zJ,cK,ret,id_eq,BX]
  refine aM (bW [0]) ?_
  try refine GW ?_
  refine aL I ?_;refine aV (hZ aI.en I I) (λw hm=>hcG _ hm.below) I I I ?_;rintro⟨vg',Fg'⟩ ⟨ag,cg,ug⟩;dsimp only at ug;subst ug
  conv=>arg 8;simp only[zJ,cK,ret,id_eq,BX]
  refine aM (bW [0]) ?_
  repeat(first|refine GW ?_|(refine GN ?_;first|refine QW (bB I (ND _ _ _ _ _ _)) ?_))
  refine aL I (iA (i:=2) 5 (cs:=[ap aa A.length ca,ap ag G.length cg]) (tl':=fK gt gn vq mode (ap ar rows.length cr) (ap aa A.length ca) (ap ag G.length cg)) I I I I I I (KE _ _) I I ?_);refine zL ?_;refine aM (bW [0]) ?_
  try refine GW ?_
  repeat(first|refine GA ?_|refine gV (aO (i:=2) aK.ty I I (hsz _ _ _ _ _ _ _ _ _ _ _)) ?_)
  refine aU (i:=3) I λ_ w1=>aU (i:=5) I λ_ w2=>?_;have oT:(jd E_ (eY o (ap an N.length cn) oD) (fK gt gn vq mode (ap ar rows.length cr) (ap aa A.length ca) (ap ag G.length cg))).toArray.toList.all eZ=true:=vP w1 (S4 I w2) (by simp only[fK,cZ,db,i3];rfl);refine aW (i:=1) (cs':=(jd E_ (eY o (ap an N.length cn) oD) (fK gt gn vq mode (ap ar rows.length cr) (ap aa A.length ca) (ap ag G.length cg))).toArray) I I I (hsz _ _ _ _ _ _ _ _ _ _ _) oT (kB iU I) ?_;refine zL ?_;refine pa (n_ (W9 F vq) vq aF) 6 7 [1,3,4,5,8,9,10] aiT I I I (λk hk=>hk.elim (λh=>by cases h) λh=>h.elim (λh=> .inr (.inr h)) λh=> .inl (.inl h)) (λw hr he=>?_) ?_;exact⟨⟨vq,rfl,xG (s:=om) hr he aiT⟩,xH hr he⟩
  try refine GA ?_
  exact fL (i:=0) I I I (hsz _ _ _ _ _ _ _ _ _ _ _) λw hm=>hm.meets (S:=cpS ⟨of,o,N,tags,⟨gt,gn,aF⟩,mode,rows,A,G⟩) ⟨E_,(_,Fn),oD,(vq,W9 F vq),(_,Fr'),(_,Fa'),(_,Fg')⟩ oT [1,2,3,7,4,5,6] aiT I
end cI
namespace cI
open Go.RowKit cU dS aT dP fh gT jQ bJ mM gu cT
theorem CW{place:Nat->Option (Nat×Nat)}{i m:Nat}{C T T' a:List Value}{v:Value}{rest:List (Nat×Value)}(j:Nat)(hC:C.length=266)(h0:place i=aj (266+j,m))(hv:v.cells=a.toArray)(ha:a.length=m)(hc:Nat.ble (j+m) T.length=aD)(he:T.take j++a++T.drop (j+m)=T'):jB place (C++T).toArray ((i,v)::rest)=jB place (C++T').toArray rest:=by
 subst ha he;have hc:=nf hc;have:=FB (266+j) a 0 (C++T) (by rw[bI];omega);rw[jC]at this;rw[jB,h0];show(if _ then ak else _)=_
 rw[if_neg (by simp[hv];omega)]
 congr 1
 rw[show 266+j=C.length+j by omega,List.take_length_add_append,show C.length+j+a.length=C.length+(j+a.length)by omega,List.drop_length_add_append]at this;rw[<-eD,<-eD,<-this,<-aaq];simp[hv,hC]
def aay:List Value:=([ap ak 0 0]:List Value)++List.replicate 256 (av .u8 0)++([ap ak 0 0,ap ak 0 0,av az 0,av az 0,ap ak 0 0,av az 0,ap ak 0 0,ap ak 0 0,ap ak 0 0]:List Value)
def ag7:List Value:=oF (tD 0 0) (ap ak 0 0) [ap ak 0 0,av az 0,av az 0,.bool aE,ap ak 0 0,av az 0,av az 0,.bool aE] (ap ak 0 0)
theorem aaz:aay.length=266:=by
 unfold aay;rw[bI,bI,List.length_replicate];rfl
set_option maxRecDepth 100000 in
theorem Vi{vo vc vs:Value}{pk tl:List Value}(x y:Int)(dG:pk.length=258)(Wo:tl.length=7)(w:World):(dh 102 #[(0,aQ (jd vo pk tl).toArray),(1,av az x),(2,av az y),(10,te vc 0 0 aE),(11,vZ vs 0 0 aE)]).run aB w= .ok (aQ (jd vo pk (tl++oF (tD x y) (ap ak 0 0) [vc,av az 0,av az 0,.bool aE,vs,av az 0,av az 0,.bool aE] (ap ak 0 0))).toArray) w:=by
 have hz:(zeroValue 102).run aB w= .ok (aQ (aay++ag7).toArray) w:=by kernel_rfl
 have hu:∃fields,(underlying 102).run aB w= .ok (.struct fields) w/\(fields.mapM λf=>do pure (f.offset,<-sizeOf f.type):Sem (Array (Nat×Nat))).run aB w= .ok #[(0,266),(266,1),(267,1),(268,1),(269,1),(270,1),(271,1),(272,3),(275,1),(276,1),(277,4),(281,4),(285,3),(288,1),(289,1),(290,1)] w:=⟨_,rfl,by kernel_rfl⟩;obtain⟨fields,hu,hp⟩:=hu;have hl:(jd vo pk tl).length=266:=by rw[jd,de,bI];omega
 refine Q7 hz hu hp ?_;show jB _ (aay++ag7).toArray [(0,aQ (jd vo pk tl).toArray),(1,av az x),(2,av az y),(10,te vc 0 0 aE),(11,vZ vs 0 0 aE)]=_
 have hz:=aaz;generalize aay=Z at*;rw[Vh (m:=266) I hl (by rw[bI];omega),List.take_zero,eu,cV,List.drop_append,List.drop_of_length_le (Nat.le_of_eq hz),hz,Nat.sub_self,List.drop_zero,eu];rw[CW (m:=1) (a:=[av az x]) 0 hl I I I I I,CW (m:=1) (a:=[av az y]) 1 hl I I I I I,CW (m:=4) (a:=[vc,av az 0,av az 0,.bool aE]) 11 hl I I I I I,CW (m:=4) (a:=[vs,av az 0,av az 0,.bool aE]) 15 hl I I I I I];rw[jB];simp[jd];rfl
structure acT where
 g:Nat
 y:MkX
 up:Value
 uq:Value
abbrev acT.L(z:acT)(b:Bool)(m:Md)(s:eP)(ut up uw:Value):List cH:=gu b z.g z.y.vo (eY m.o z.y.vn z.y.vt) (fK m.g.aR m.g.bC z.y.vp m.mode z.y.vr z.y.va z.y.vg) s ut up z.uq uw
def Vj(b:Bool)(m:Md)(x y:Int):Spec acT:=⟨λz=>afc m z.y,λz=> .tuple #[aJ (aj ⟨z.g,0,ak⟩),av az 0],λz=>z.L b m (tD x y) (ap ak 0 0) z.up (ap ak 0 0)++[Bh z.y.Ls]⟩
def afj(b:Bool)(m:Md)(x y:Int):Spec (Nat×CpX×Value×Value):=⟨λz=>((z.2.1.mk' []).cells m).toArray.toList.all eZ=aD,λz=> .tuple #[aJ (aj ⟨z.1,0,ak⟩),av az 0],λz=>(⟨z.1,z.2.1.mk' [],z.2.2.1,z.2.2.2⟩:acT).L b m (tD x y) (ap ak 0 0) z.2.2.1 (ap ak 0 0)++z.2.1.L m⟩
attribute [local irreducible] Instr.build in
set_option maxRecDepth 100000 in
theorem acU(v:Value)(m:Md)(b:Bool)(T N:Nat){vo vn vt vp vr va vg:Value}(x y:Int)(hx0:0<=x)(km:x<=4096)(hy0:0<=y)(hy1:y<=1000)(w:World)(h:CO w v m vo vn vt vp vr va vg)(hk:jA m b T N)(hs:aax m):
 Calls aB 7 #[v,av az x,av az y] w (cB (afj b m x y) w):=by
 have dG:(eY m.o vn vt).length=258:=fN _ _ _;have hrt:=λw' (hw:Gr w w')=>J6 v m w' (h.gr hw) hk.toMdGood;have IZ:=λw' (hw:Gr w w')=>KD v m w' (h.gr hw) hs hk.Ba hk.qS;have hbs:=λ(vo vn vt vp vr va vg vc vs:Value)=>Vi (vo:=vo) (pk:=eY m.o vn vt) (tl:=fK m.g.aR m.g.bC vp m.mode vr va vg) (vc:=vc) (vs:=vs) x y (fN _ _ _) I;obtain rfl:=h.val;clear h hk hs;refine enter (args:=[aQ (jd vo (eY m.o vn vt) (fK m.g.aR m.g.bC vp m.mode vr va vg)).toArray,av az x,av az y]) (n:=36) Tryz.func7 I I I ?_;refine cC (bz (bR I I I λg1=>?_));refine zL ?_
 repeat(first|refine GA ?_|refine gV (aO (i:=0) aK.ty I I (kB dG I)) ?_)
 refine aV (hZ aI.en I I) (λw hm=>hrt _ hm.below) I I I ?_;intro _ _;refine zL ?_
 repeat(first|refine GA ?_|refine gV (aO (i:=0) aK.ty I I (kB dG I)) ?_)
 refine aV (hZ aI.en I I) (λw hm=>IZ _ hm.below) I I I ?_;intro c hc
 conv=>arg 8;simp only[zJ,cK,ret,id_eq,cpS,CpX.L]
 conv=>arg 7;simp only[cpS,CpX.mk',MkX.cells]
 try refine GA ?_
 refine aV (he0 aI.en I) (λw hm=>Bd w) I I I ?_;intro vc _
 conv=>arg 8;simp only[zJ,cK,ret,id_eq,CP]
 conv=>arg 7;simp only[CP]
 try refine GA ?_
 refine aV (he0 aI.en I) (λw hm=>Gk w) I I I ?_;intro vs _
 conv=>arg 8;simp only[zJ,cK,ret,id_eq,CS]
 conv=>arg 7;simp only[CS]
 repeat(first|refine GA ?_|refine gV (bB I (hbs _ _ _ _ _ _ _ _ _)) ?_)
 refine bR I I I λg2=>?_;refine zL ?_
 try refine GA ?_
 refine qm (toP (ap ak 0 0) []) (λk hk=>hk.elim (λh=>by cases h) id) (λw=>⟨rfl,.inl ⟨rfl,rfl⟩⟩) ?_;refine dK 168 2 ?_
 cases b with
 |true=>exact si I I I λw hm=>hm.meets (S:=afj aD m x y) (g2,c,vc,vs) hc [10,11,8,12,1,2,3,4,5,6,7] aiT I
 |false=>exact si I I I λw hm=>hm.meets (S:=afj aE m x y) (g2,c,vs,vc) hc [10,11,9,12,1,2,3,4,5,6,7] aiT I
theorem Ig(v:Value)(m:Md)(b:Bool)(T N:Nat){vo vn vt vp vr va vg:Value}(x y:Int)(hx0:0<=x)(km:x<=4096)(hy0:0<=y)(hy1:y<=1000)(w:World)(h:CO w v m vo vn vt vp vr va vg)(hk:jA m b T N)(hs:aax m):
  Calls aB 7 #[v,av az x,av az y] w (cB (Vj b m x y) w):=
 (acU v m b T N x y hx0 km hy0 hy1 w h hk hs).mono λe w' hm=>hm.to (Vj b m x y) λz hz=>by
  obtain⟨g,c,up,uq⟩:=z;obtain⟨b1,b2,b3,b4,b5,_⟩:=cP hk.Ba;exact⟨⟨g,c.mk' (c.L m),up,uq⟩,⟨λw hb=>afi (Kp hb) ⟨by omega,by omega⟩ ⟨by omega,by omega⟩,hz⟩,rfl,λw' ho=>eH.Q1 ho⟩
theorem FD{s:Sp}{r:Int×List Row×List Int}(hx:Sy s r)(h:(Ci s r.1).1=0):aax (we s r):=by
 obtain⟨b,T,N,hf⟩:=Fy hx h;have ok:=A' hf.mh;obtain⟨b1,b2,b3,b4,b5,_⟩:=cP hf.Ba;have hN:∀r'∈(we s r).N,r'.length<=1000000:=λr' hr=>by
  obtain⟨i,hi,rfl⟩:=hY.1 hr;have:=ok.row i hi;have:=ok.w1;omega
 have hm:((we s r).mode=1/\(we s r).A=[]/\(we s r).G=[])\/((we s r).mode=2/\(we s r).rows=[]):=by
  unfold we;split;exact .inl ⟨rfl,rfl,rfl⟩;exact .inr ⟨rfl,rfl⟩
 have ml:=hf.md;have Wo:(we s r).tags.length<=1000000:=by have:=ok.len;have:=ok.le;omega
 cases b with
 | true=>
  rcases hm with⟨_,h1,h2⟩|⟨h1,_⟩
  ·obtain⟨_,ht⟩:=hf.ll rfl
   have e1:=ht.aR;have e2:=ht.bC;refine⟨by have:=ok.le;omega,hN,Wo,by rw[ht.len];omega,λr hr=>by rw[ht.row r hr];omega,by rw[h1];simp,by rw[h1];simp,by rw[h2];simp,by rw[h2];simp⟩
  rw[h1]at ml;exact absurd ml aiT
 | false=>
  rcases hm with⟨h1,_⟩|⟨_,h1⟩
  rw[h1]at ml;exact absurd ml aiT;have ht:=hf.lr I;have e1:=ht.aR;have e2:=ht.bC;have e3:=ht.B7;have e4:=ht.same;refine⟨by have:=ok.le;omega,hN,Wo,by rw[h1];simp,by rw[h1];simp,by omega,λr hr=>?_,by omega,λr hr=>?_⟩
  ·obtain⟨i,hi,rfl⟩:=hY.1 hr
   rw[ht.wA i hi];omega
  obtain⟨i,hi,rfl⟩:=hY.1 hr;rw[ht.wG i hi];omega
end cI
namespace cI
open Go.RowKit cU dS aT dP fh gT jQ bJ mM gu cT
open iz (Ev rZ takeN)
theorem BY{P:Program}{f:FuncId}{args:Array Value}{w:World}{ι κ:Type}{S:Spec ι}{S':Spec κ}{W:bO}{L Lx R:List cH}(hm:Mem W L w)(is js:List Nat)(hn2:(is++js).Nodup)(hlx:Lx=is.filterMap λi=>L[i]?)(NI:R=js.filterMap λi=>L[i]?)(hc:∀B,Mem B Lx w->Calls P f args w (cY S B))
 (hS:∀x,S.ok x->∃y,S'.ok y/\S'.val y=S.val x/\∃qs:List Nat,qs.Nodup/\S'.own y=qs.filterMap λi=>(R++S.own x)[i]?):Calls P f args w (cY S' W):=by
 have Wu:Mem W (Lx++R) w:=hm.pick (is++js) hn2 (xB hlx NI);have hm3:Mem W Lx w:=hm.pick is (List.nodup_append.1 hn2).1 hlx;refine(hc _ hm3.over).mono λe w' ⟨x,h1,h2,h3⟩=>?_;obtain⟨y,k1,k2,qs,k3,k4⟩:=hS x h1;exact⟨y,k1,by rw[h2,k2],(Wu.back h3).pick qs k3 k4⟩
theorem aaA{W:bO}{L Lx Ls:List cH}{w:World}{φ:World->Prop}(hm:Mem W L w)(is:List Nat)(i:Nat)(hn:(is++[i]).Nodup)(hlx:Lx=is.filterMap λi=>L[i]?)(hi:L[i]?=aj (Bh Ls))(hφ:∀w,(Bh Ls).holds w->φ w):nS (bO.on w Lx) φ:=λL' w' h'=>
 hφ w' (((hm.pick (L':=Lx++[Bh Ls]) (is++[i]) hn (xB hlx (by simp[hi]))).back h').get (i:=0) I)
structure FE(s' s:eP):Prop where
 dH:s'.dH=s.dH
 p:s'.p=s.p
 par:∀b vp vq,iV b s' vp vq=iV b s vp vq
theorem FE.self(s:eP):FE s s:=⟨rfl,rfl,λ_ _ _=>rfl⟩
theorem qD(s:eP)(e:Int)(pl:Nat):FE (jl s e pl) s:=⟨rfl,rfl,λ_ _ _=>rfl⟩
theorem Vk(s:eP)(x:List UInt8):FE (xc s x).1 s:=by
 unfold xc;split;exact .self s;split;exact .self s;split;exact qD _ _ _;exact⟨rfl,rfl,λ_ _ _=>rfl⟩
theorem Q8(s:eP):FE (q8 s).1 s:=by
 unfold q8;split;exact .self s;exact⟨rfl,rfl,λ_ _ _=>rfl⟩
theorem NE(s:eP):FE (kD s).1 s:=by
 unfold kD;split;exact .self s;exact qD _ _ _
theorem Q9(s:eP):FE (pU s) s:=by
 unfold pU;split;exact .self s;exact qD _ _ _
theorem Q_(s:eP)(n:Int):FE (og s n).1 s:=by
 unfold og;split;exact .self s;split;exact .self s;exact⟨rfl,rfl,λ_ _ _=>rfl⟩
theorem Vl(s:eP)(n:Int):FE (tm s n).1 s:=by
 unfold tm;split;exact .self s;split;exact .self s;split;exact qD _ _ _;exact⟨rfl,rfl,λ_ _ _=>rfl⟩
theorem Vm(s:eP)(n:Int):FE (ka s n).1 s:=by
 unfold ka;split;exact .self s;exact⟨rfl,rfl,λ_ _ _=>rfl⟩
section
variable{b:Bool}{g:Nat}{vo:Value}{pk md:List Value}{ut up uq uw:Value}{m:Md}(dG:pk.length=258)(ml:md.length=7)
include dG ml
def rW(b:Bool)(g:Nat)(vo:Value)(pk md:List Value)(s':eP)(v:Value)(ut up uq:Value):Spec Value:=⟨λ_=>True,λ_=>v,λvw=>gu b g vo pk md s' ut up uq vw⟩
omit dG ml in
theorem Bi{f:FuncId}{args:Array Value}{w:World}{B:bO}{s s':eP}{v:Value}(hm:Mem B (gu b g vo pk md s ut up uq uw) w)(hk:FE s' s)(hc:∀B,Mem B (nT g vo pk md s ut (iV b s up uq) uw) w->Calls aB f args w (cY ⟨λ(_:Value)=>True,λ_=>v,λvw=>nT g vo pk md s' ut (iV b s up uq) vw⟩ B)):Calls aB f args w (cY (rW b g vo pk md s' v ut up uq) B):=by
 refine BY hm [0,3] [1,2] aiT I I hc λx _=>⟨x,trivial,rfl,[2,0,1,3],by decide,?_⟩;simp only[rW,gu,hk.par,hk.dH,hk.p];rfl
theorem Gx(s:eP)(hs:dY m b s)(x:List UInt8)(hx:x.length<=9223372036854775807)(w:World)(B:bO)(hm:Mem B (gu b g vo pk md s ut up uq uw) w):
 Calls aB 9 #[aJ (aj ⟨g,0,ak⟩),str x] w (cY (rW b g vo pk md (xc s x).1 (av az (xc s x).2) ut up uq) B):=
 Bi hm (Vk s x) λB hm=>Kn dG ml (mP b s up uq) s x hx hs.il hs.B7 (by have:=hs.im;omega) w B hm
theorem KF(s:eP)(w:World)(B:bO)(hm:Mem B (gu b g vo pk md s ut up uq uw) w):
 Calls aB 10 #[aJ (aj ⟨g,0,ak⟩)] w (cY (rW b g vo pk md (q8 s).1 (av az (q8 s).2) ut up uq) B):=
 Bi hm (Q8 s) λB hm=>Np dG ml (mP b s up uq) s w B hm
omit dG ml in
theorem wK{s:eP}(hs:dY m b s):s.dC<=9223372036854775807/\s.im.length<=s.dC:=by
 have:=hs.B7;have:=hs.il;have:=hs.im;omega
theorem oh(s:eP)(hs:dY m b s)(w:World)(B:bO)(hm:Mem B (gu b g vo pk md s ut up uq uw) w):
 Calls aB 8 #[aJ (aj ⟨g,0,ak⟩)] w (cY (rW b g vo pk md (kD s).1 (av az (kD s).2) ut up uq) B):=
 Bi hm (NE s) λB hm=>Fw dG ml (mP b s up uq) s (wK hs).1 (wK hs).2 w B hm
theorem FF(s:eP)(hs:dY m b s)(w:World)(B:bO)(hm:Mem B (gu b g vo pk md s ut up uq uw) w):
 Calls aB 11 #[aJ (aj ⟨g,0,ak⟩)] w (cY (rW b g vo pk md (pU s) (.tuple #[]) ut up uq) B):=
 Bi hm (Q9 s) λB hm=>Gn dG ml (mP b s up uq) s (wK hs).1 (wK hs).2 w B hm
theorem FH(s:eP)(hs:dY m b s)(n:Int)(w:World)(B:bO)(hm:Mem B (gu b g vo pk md s ut up uq uw) w):
 Calls aB 12 #[aJ (aj ⟨g,0,ak⟩),av az n] w (cY (rW b g vo pk md (og s n).1 (av az (og s n).2) ut up uq) B):=
 Bi hm (Q_ s n) λB hm=>Gq dG ml (mP b s up uq) s n (zS hs) w B hm
theorem Gy(s:eP)(hs:dY m b s)(n:Int)(w:World)(B:bO)(hm:Mem B (gu b g vo pk md s ut up uq uw) w):
 Calls aB 13 #[aJ (aj ⟨g,0,ak⟩),av az n] w (cY (rW b g vo pk md (tm s n).1 (av az (tm s n).2) ut up uq) B):=
 Bi hm (Vl s n) λB hm=>Ko dG ml (mP b s up uq) s n hs.iJ.1 hs.iJ.2 (wK hs).1 (wK hs).2 w B hm
def acV(b:Bool)(g:Nat)(vo:Value)(pk md:List Value)(R:eP×List Ev)(ut up uq:Value):Spec (Value×Value):=⟨λ_=>True,λx=>x.2,λx=>gu b g vo pk md R.1 ut up uq x.1++[kV x.2 R.2]⟩
theorem Gz(s:eP)(hs:dY m b s)(n:Int)(w:World)(B:bO)(hm:Mem B (gu b g vo pk md s ut up uq uw) w):
 Calls aB 15 #[aJ (aj ⟨g,0,ak⟩),av az n] w (cY (acV b g vo pk md (ka s n) ut up uq) B):=by
 have hk:=Vm s n;refine BY hm [0,3] [1,2] aiT I I (λB hm=>Kr dG ml (mP b s up uq) s n (zS hs) w B hm) λx _=>⟨x,trivial,rfl,[2,0,1,3,4],by decide,?_⟩;simp only[acV,gu,hk.par,hk.dH,hk.p];rfl
theorem Bj(s:eP)(hs:dY m b s)(B:bO)(w:World)(hm:Mem B (gu b g vo pk md s ut up uq uw) w):
 Calls aB 16 #[aJ (aj ⟨g,0,ak⟩)] w (cB (ret (.tuple #[av az (jx s).1,av az ((jx s).2.1:Int),.bool (jx s).2.2])) w):=by
 obtain⟨a2,c2,e2⟩:=Kq (hm.get (i:=3) rfl);exact Co dG ml (mP b s up uq) s ⟨a2,c2,e2⟩ (by have:=hs.wl;omega) w (hm.get (i:=0) I)
end
end cI
namespace CR
open Go.RowKit cU dS cI dl gj gT aT cT eo ns CQ jQ
theorem aaB:∀r∈lS.rules,r.2.length<=8796093021952:=by
 intro r hr;have:r∈aag:=hr;simp only[aag,dA,fv,or_false]at this;rcases this with rfl|rfl|rfl<;>exact Nat.le_trans (nf I:_<=10) J
theorem acW:∃r b T N,Sy lS r/\(Ci lS r.1).1=0/\jA (we lS r) b T N/\aax (we lS r):=by
 obtain⟨r,hx,h0⟩:=ae';have h1:(Ci lS r.1).1=0:=by rw[h0,ae9]
 obtain⟨b,T,N,hf⟩:=Fy hx h1;exact⟨r,b,T,N,hx,h1,hf,FD hx h1⟩
end CR
namespace cI
open Go.RowKit cU dS
theorem Vn{n:Nat}{W:bO}{fr:Fr}{L:List cH}{dst:Option Tmp}{ty:TypeId}{pos:String}{after:Array Edge}{guard:Option (Nat×Bool)}{x y:Operand}{u:TypeId}{p:Option Addr}{b:Bool}(hx:ev fr x=aj (.pointer p))(hy:ev fr y=aj (aJ ak))(hb:p.isNone=b):RR aB n W ⟨dst,.binOp .eql 44 x y u,ty,pos,after,guard⟩ fr L (.bool b):= .mk λac w hr _=>by
 subst hb;have e1:(eqGuard .eql 44 x y (.pointer p) (aJ ak)).run aB w= .ok () w:=rfl;have e2:(binOp .eql 44 (.pointer p) (aJ ak)).run aB w= .ok (.bool p.isNone) w:=by
  have h:∀d:Nat,(lJ (d+1) 44 (.pointer p) (aJ ak)).run aB w= .ok p.isNone w:=λd=>by
   cases p with
   |none=>simp[lJ,run_underlying Tryz.underlying44]
   |some a=>simp[lJ,run_underlying Tryz.underlying44]
  simp only[binOp];simp[Op.equal,Op.maxDepth,h 9999]
 simp[execOp,hr.ev hx,hr.ev hy,e1,e2]
end cI
namespace gu
open aT dP fh mM bJ cT cI jQ
open iz (Ev rZ takeN)
structure pY(s:eP):Prop where
 over:s.over=aD
 wait:s.wait=[]
theorem NF{s:eP}:(jx s).2.2=aD↔pY s:=by
 unfold jx;split
 ·rename_i h;exact⟨λ_=>⟨h.1,h.2⟩,λ_=>rfl⟩
 rename_i h;exact⟨λh'=>(by cases h'),λh'=>absurd ⟨h'.1,h'.2⟩ h⟩
theorem pY.eg{s:eP}(h:pY s):jx s=(s.eg,s.pl,aD):=if_pos ⟨h.over,h.wait⟩
theorem pY.ready{s:eP}(h:pY s):kt s=false:=by unfold kt;rw[h.over];rfl
theorem pY.data{s:eP}(h:pY s)(x:List UInt8):xc s x=(s,15):=if_pos (.inl h.over)
theorem pY.ended{s:eP}(h:pY s):q8 s=(s,15):=if_pos (.inl h.over)
theorem pY.cancel{s:eP}(h:pY s):kD s=(s,15):=if_pos h.over
theorem pY.drain{s:eP}(h:pY s):pU s=s:=if_pos (.inl h.over)
theorem pY.ag8{s:eP}(h:pY s)(n:Int):og s n=(s,15):=if_pos ⟨h.over,h.wait⟩
theorem pY.tick{s:eP}(h:pY s)(n:Int):tm s n=(s,15):=if_pos h.over
theorem pY.ah_{m:Md}{b:Bool}{s:eP}(h:pY s)(k:Nat):mZ m b k s=(s,0):=by
 cases k with
 |zero=>rfl
 |succ k=>rw[mZ,if_neg (by rw[h.ready];decide)]
theorem pY.send{s:eP}(h:pY s)(n:Int):(ka s n).2=[]/\jx (ka s n).1=jx s:=by
 unfold ka;split;exact⟨rfl,rfl⟩;refine⟨by dsimp only;rw[h.wait];simp,?_⟩;have h2:pY {s with wait:=s.wait.drop (takeN s.wait s.cr n),cr:=s.cr-(takeN s.wait s.cr n:Nat),gone:=s.gone+(takeN s.wait s.cr n:Nat)}:=⟨h.over,by dsimp only;rw[h.wait];simp⟩;rw[h2.eg,h.eg]
end gu
namespace sessionOnce
open Go.RowKit cU dS cI dl gj gT aT dP cT mM jQ gu CQ CR
theorem afk(n:Int)(w:World):(binOp .rem 3 (av az n) (av az 1000)).run aB w= .ok (av az (n.tmod 1000)) w:=by simp[binOp,Op.intDiv]
theorem acX(n:Int):n.tmod 1000<=9223372036854775807:=by
 have:=Int.tmod_lt_of_pos n (show(0:Int)<1000 by decide);omega
set_option maxRecDepth 100000 in
theorem walk(w:World)(v:Value)(s:Sp)(hv:UK (p9 w) w v s)(hb:∀r∈s.rules,r.2.length*16<=140737488351232)(vl:Value)(l:List IT.Fm)(hs:Sl w vl l.length (l.flatMap frC))(hol:∀f∈l,ad' f)(KW:l.length*32<=140737488351232):
 Calls aB 3 #[v,vl] w (cB (ret (.bool aD)) w):=by
 obtain⟨r,hx⟩:=aeO s;obtain⟨r0,b0,T0,N0,hx0,hm0,hk0,ag9⟩:=acW;have ag_:=λv' w' h=>Nr hx0 (v:=v') (w:=w') h aaB hm0;have ag':=λc w' (hg:Gr w w')=>Ve hx (hv.gr hg) (λr h=>by have:=hb r h;omega) c;have aha:=λc w' (hg:Gr w w')=>Nr hx (hv.gr hg) (λr h=>by have:=hb r h;omega) c;have Dh:=Fy hx;have hsm:=FD hx;have hls:=λw'=>QQ w';have afl:=λw' x h1 h2 h3 h4=>acB (w:=w') (a:=fg 97 97) (s:=fg 32 32) (x:=x) h1 h2 h3 h4;have hlS:lS=⟨ae8 (fg 97 97) (fg 32 32),aag⟩:=rfl;rw[<-hlS]at afl;clear hlS hm0;generalize fg 97 97=ca at*;generalize fg 32 32=cs at*;generalize we lS r0=m0 at*;generalize lS=l0 at*;obtain⟨al,cl,rfl,NJ,II,XF⟩:=hs;unfold maxLen at II;obtain⟨vw0,vr0,rfl,hw,hr⟩:=hv;obtain⟨bw,cw,rfl,-⟩:=hw;obtain⟨br,cr,rfl,-⟩:=hr;clear hb;have hsz:FP.toArray.size=266:=kB iU I;have Cj:FP.toArray.toList.all eZ=true:=vP I Sw I;refine enter (args:=[aQ #[ap bw s.words.length cw,ap br s.rules.length cr],ap al l.length cl]) (n:=168) Tryz.func3 I I I ?_;refine cC (bz (bR I I I λg2=>?_));refine zL ?_
 try refine GA ?_
 refine aV (he0 aI.en I) (λw hm=>hls w) I I I ?_;rintro⟨q1,q2,q3,q4⟩ _
 conv=>arg 8;simp only[zJ,cK,ret,id_eq,acA]
 conv=>arg 7;simp only[acA]
 refine aV (hZ aI.en I I) (λw' hm=>ag_ _ w' (afl w' ⟨q1,q2,q3,q4⟩ (hm.get (i:=1) I) (hm.get (i:=2) I) (hm.get (i:=3) I) (hm.get (i:=4) I))) I I I ?_;intro y hy
 conv=>arg 8;simp only[zJ,cK,ret,id_eq,Q2]
 conv=>arg 7;simp only[Q2]
 refine Dl [0,5] ?_
 try refine GA ?_
 refine aY I λg5'=>?_;rw[sU];refine zL ?_;refine aW (i:=2) (cs':=(y.cells m0).toArray) I I I (zR y m0) hy.one hsz ?_;refine zL ?_;have aaC:=λw' h=>Ig (aQ (y.cells m0).toArray) m0 b0 T0 N0 (vo:=y.vo) (vn:=y.vn) (vt:=y.vt) (vp:=y.vp) (vr:=y.vr) (va:=y.va) (vg:=y.vg) 5 5 aiT aiT aiT aiT w' h hk0 ag9
 repeat(first|refine GA ?_|refine gV (aO (i:=2) aK.ty I I (zR y m0)) ?_)
 refine aV (rX aI.en I I I I) (λw' hm=>aaC w' (hy.mdr w' (hm.get (i:=1) I))) I I I ?_;clear aaC;rintro⟨gs,z,up,uq⟩ hz
 conv=>arg 8;simp only[zJ,cK,ret,id_eq,Vj]
 conv=>arg 7;simp only[Vj]
 refine Dl [0,3,4,5,6] ?_;refine zL ?_;have dG:(eY m0.o z.vn z.vt).length=258:=fN _ _ _;have Vo:=SQ hk0 (x:=5) (y:=5) aiT aiT aiT aiT;have nU:kD (tD 5 5)=(jl (tD 5 5) 15 (Cn (tD 5 5)),0):=if_neg aiT;have wt:kD (jl (tD 5 5) 15 (Cn (tD 5 5)))=(jl (tD 5 5) 15 (Cn (tD 5 5)),15):=if_pos I;have afm:=If Vo;rw[nU]at afm;have afn:=λB w' hm=>oh (g:=gs) (vo:=z.vo) (md:=fK m0.g.aR m0.g.bC z.vp m0.mode z.vr z.va z.vg) (ut:=ap ak 0 0) (up:=up) (uq:=uq) (uw:=ap ak 0 0) dG I (tD 5 5) Vo w' B hm;rw[nU]at afn;have afp:=λuw B w' hm=>oh (g:=gs) (vo:=z.vo) (md:=fK m0.g.aR m0.g.bC z.vp m0.mode z.vr z.va z.vg) (ut:=ap ak 0 0) (up:=up) (uq:=uq) (uw:=uw) dG I _ afm w' B hm;rw[wt]at afp;clear nU wt Vo afm;generalize jl (tD 5 5) 15 (Cn (tD 5 5))=sB at*
 repeat(first|refine GA ?_|refine gV (Vn (b:=aE) I I I) ?_)
 refine qg I I I ?_;refine bm [1,2,3,4] [0] aiT I I (hZ aI.en I I) (λw hm hb=>afn _ w hb) I I I ?_;intro u1 _
 conv=>arg 8;simp only[zJ,cK,ret,id_eq,rW]
 conv=>arg 7;simp only[rW]
 try refine GA ?_
 refine qg I I I ?_;refine bm [1,2,3,4] [0] aiT I I (hZ aI.en I I) (λw hm hb=>afp _ _ w hb) I I I ?_;intro u2 _
 conv=>arg 8;simp only[zJ,cK,ret,id_eq,rW]
 conv=>arg 7;simp only[rW]
 refine Dl [0] ?_
 repeat(first|refine GA ?_|refine gV (aO (i:=0) aK.ty I I I) ?_)
 clear afn afp ag_ hls afl hy hk0 ag9 hx0 hz
 by_cases c0:(Ci s r.1).1≠0
 ·have NL:=ag' c0
  refine aV (hZ aI.en I I) (λw hm=>NL _ hm.below) I I I ?_;intro _ _;unfold ag5;refine zL ?_
  try refine GA ?_
  refine aY I λg9'=>?_;rw[sU];refine zL ?_;refine aW (i:=1) (cs':=FP.toArray) I I I hsz Cj hsz ?_;refine zL ?_
  repeat(first|refine GC ?_|refine gV (dr (b:=aD) I I (decide_eq_true c0)) ?_|refine GB ?_)
  exact eM
 have c1:(Ci s r.1).1=0:=sQ c0;have NL:=aha c1;obtain⟨b,T,N,hk⟩:=Dh c1;have hsm:=hsm c1;clear aha ag' Dh c0 c1 hx;generalize we s r=m at*;refine aV (hZ aI.en I I) (λw hm=>NL _ hm.below) I I I ?_;intro y hy
 conv=>arg 8;simp only[zJ,cK,ret,id_eq,Q2]
 conv=>arg 7;simp only[Q2]
 try refine GA ?_
 refine aY I λg5=>?_;rw[sU];refine zL ?_;refine aW (i:=2) (cs':=(y.cells m).toArray) I I I (zR y m) hy.one hsz ?_;refine zL ?_;have aaC:=λw' h=>Ig (aQ (y.cells m).toArray) m b T N (vo:=y.vo) (vn:=y.vn) (vt:=y.vt) (vp:=y.vp) (vr:=y.vr) (va:=y.va) (vg:=y.vg) 60 20 aiT aiT aiT aiT w' h hk hsm
 repeat(first|refine GA ?_|refine gV (aO (i:=2) aK.ty I I (zR y m)) ?_)
 refine aV (rX aI.en I I I I) (λw' hm=>aaC w' (hy.mdr w' (hm.get (i:=1) I))) I I I ?_;clear aaC;rintro⟨gs,z,up,uq⟩ hz;have hz:afc m z:=hz
 conv=>arg 8;simp only[zJ,cK,ret,id_eq,Vj]
 conv=>arg 7;simp only[Vj]
 refine Dl [7,3,4,5,6] ?_;refine zL ?_;have dG:(eY m.o z.vn z.vt).length=258:=fN _ _ _;have Vo:=SQ hk (x:=60) (y:=20) aiT aiT aiT aiT;have ah':=hz.mdr;have hwk:=λs' h1 n ra ut up uw w' B hR hm=>KA (aQ (z.cells m).toArray) m (vo:=z.vo) (vn:=z.vn) (vt:=z.vt) (vp:=z.vp) (vr:=z.vr) (va:=z.va) (vg:=z.vg) (ut:=ut) (up:=up) (uq:=uq) (uw:=uw) b T N hk gs s' h1 n ra w' B hR hm;have hda:=λs' (h1:dY m b s') x hx ut up uw w' B hm=>Gx (m:=m) (b:=b) (g:=gs) (vo:=z.vo) (md:=fK m.g.aR m.g.bC z.vp m.mode z.vr z.va z.vg) (ut:=ut) (up:=up) (uq:=uq) (uw:=uw) dG I s' h1 x hx w' B hm;have NS:=λs' (h1:dY m b s') n ut up uw w' B hm=>FH (m:=m) (b:=b) (g:=gs) (vo:=z.vo) (md:=fK m.g.aR m.g.bC z.vp m.mode z.vr z.va z.vg) (ut:=ut) (up:=up) (uq:=uq) (uw:=uw) dG I s' h1 n w' B hm;have qf:=λs' (h1:dY m b s') n ut up uw w' B hm=>Gy (m:=m) (b:=b) (g:=gs) (vo:=z.vo) (md:=fK m.g.aR m.g.bC z.vp m.mode z.vr z.va z.vg) (ut:=ut) (up:=up) (uq:=uq) (uw:=uw) dG I s' h1 n w' B hm;have hse:=λs' (h1:dY m b s') n ut up uw w' B hm=>Gz (m:=m) (b:=b) (g:=gs) (vo:=z.vo) (md:=fK m.g.aR m.g.bC z.vp m.mode z.vr z.va z.vg) (ut:=ut) (up:=up) (uq:=uq) (uw:=uw) dG I s' h1 n w' B hm;have hca:=λs' (h1:dY m b s')  ut up uw w' B hm=>oh (m:=m) (b:=b) (g:=gs) (vo:=z.vo) (md:=fK m.g.aR m.g.bC z.vp m.mode z.vr z.va z.vg) (ut:=ut) (up:=up) (uq:=uq) (uw:=uw) dG I s' h1 w' B hm;have Vv:=λs' (h1:dY m b s')  ut up uw w' B hm=>FF (m:=m) (b:=b) (g:=gs) (vo:=z.vo) (md:=fK m.g.aR m.g.bC z.vp m.mode z.vr z.va z.vg) (ut:=ut) (up:=up) (uq:=uq) (uw:=uw) dG I s' h1 w' B hm;have FK:=λs' ut up uw w' B hm=>KF (b:=b) (g:=gs) (vo:=z.vo) (md:=fK m.g.aR m.g.bC z.vp m.mode z.vr z.va z.vg) (ut:=ut) (up:=up) (uq:=uq) (uw:=uw) dG I s' w' B hm;have hve:=λs' (h1:dY m b s') ut up uw B w' hm=>Bj (m:=m) (b:=b) (g:=gs) (vo:=z.vo) (md:=fK m.g.aR m.g.bC z.vp m.mode z.vr z.va z.vg) (ut:=ut) (up:=up) (uq:=uq) (uw:=uw) dG I s' h1 B w' hm;have eL:=λs' (h1:dY m b s') ut up uw B w' hm=>wg (m:=m) (b:=b) (g:=gs) (vo:=z.vo) (md:=fK m.g.aR m.g.bC z.vp m.mode z.vr z.va z.vg) (ut:=ut) (up:=up) (uq:=uq) (uw:=uw) dG I s' h1 B w' hm;have ahb:=λ(s':eP) h1 n=>(SZ hk (s:=s') n h1).1;clear hz hsm hk;generalize eY m.o z.vn z.vt=PK at*;generalize fK m.g.aR m.g.bC z.vp m.mode z.vr z.va z.vg=MT at*
 try refine GA ?_
 refine ea (ι:=Nat×eP×Value×Value×Value) (λ(k,s',_)=>k<=l.length/\dY m b s') (λ(k,s',_)=>[(11,aJ (aj ⟨gs,0,ak⟩)),(12,.bool (jx s').2.2),(13,av az (jx s').1),(14,av az ((jx s').2.1:Int)),(64,ap al l.length cl),(65,av az l.length),(66,av az (k:Int))])
  (λ(_,s',ut,up,uw)=>[Bh z.Ls]++gu b gs z.vo PK MT s' ut up uq uw) (λ(k,_)=>l.length-k) (0,tD 60 20,ap ak 0 0,up,ap ak 0 0) ⟨bH _,Vo⟩ ?_
 clear Vo;rintro⟨k,s',ut,up,uw⟩ ⟨i1,i2⟩;dsimp only at i1 i2⊢
 by_cases c:k<l.length
 ·obtain⟨bl,ol,rfl,FM⟩:=XF J
  have du:=λ(L:List cH)=>gO (L:=L) (f:=frC) (c:=3) (λ_=>rfl) FM c;obtain⟨f1,f2,f3⟩:=hol _ (cD c);generalize l[k]=f at*;obtain⟨kd,n,x⟩:=f;dsimp only at f1 f2 f3;clear FM XF hol
  repeat(first|refine GA ?_|refine gV (aX bM.eq aK.ty I I c) ?_|refine gV (a8 aK.ty I I (du _)) ?_)
  clear du;refine aY I λg16=>?_;refine zL ?_
  try refine GA ?_
  refine gC 5 (cs':=(frC (kd,n,x)).toArray) ?_;refine zL ?_
  repeat(first|refine QV QP ?_|refine kI ?_|refine lQ ?_|refine qs I I I I I I ?_|((try refine qg I I I ?_);first|refine QV QP ?_|refine QV QL ?_|refine QV QA ?_|refine QV QlT ?_|refine QV QlF ?_|refine QV QeT ?_|refine QV QeF ?_|refine QV QnT ?_|refine QV QnF ?_|refine QV QaA ?_|refine QV (Ak I I) ?_))
  (repeat refine cC ?_)
  refine bz ?_
  repeat(first|refine QV QP ?_|refine kI ?_|refine lQ ?_|refine qs I I I I I I ?_|((try refine qg I I I ?_);first|refine QV QP ?_|refine QV (aC aK.ty I (aH (i:=5) I I)) ?_|refine QV QL ?_|refine QV QA ?_|refine QV QlT ?_|refine QV QlF ?_|refine QV QeT ?_|refine QV QeF ?_|refine QV QnT ?_|refine QV QnF ?_|refine QV QaA ?_|refine QV (Ak I I) ?_))
  have RT:=NF (s:=s');generalize hV:jx s'=V at*;obtain⟨v0,p0,h0⟩:=V;dsimp only at RT⊢
  (repeat refine cC ?_)
  refine k8 (ι:=eP×Value×Value×Value) (λ(s2,_)=>dY m b s2/\(h0=aD->jx s2=(v0,p0,h0))) (λ_=>[(11,aJ (aj ⟨gs,0,ak⟩)),(12,.bool h0),(13,av az v0),(14,av az (p0:Int)),(64,ap (aj ⟨bl,ol,ak⟩) l.length cl),(65,av az l.length),(66,av az (k:Int))]) (λ(s2,ut,up,uw)=>[Bh z.Ls]++gu b gs z.vo PK MT s2 ut up uq uw) ?_ ?_
  ·clear hve eL
   by_cases e0:kd=0
   ·subst e0
    obtain⟨s2,e,zT⟩:∃s2 e,xc s' x=(s2,e):=⟨_,_,rfl⟩;have Hu:dY m b s2:=by have:=acK i2 x;rw[zT]at this;exact this
    have hq:h0=aD->e=15/\jx s2=(v0,p0,h0):=λh=>by
     have:=(RT.1 h).data x;rw[zT]at this
     cases this
     exact⟨rfl,hV⟩
    have gL:=hda s' i2 x f3 ut up uw;rw[zT]at gL
    repeat(first|refine GA ?_|refine gV (aC aK.ty I (aH (i:=5) I I)) ?_)
    refine bm [1,2,3,4] [0,5] aiT I I (fO aI.en I I I) (λw hm hb=>gL w _ hb) I I I ?_;intro u1 _
    conv=>arg 8;simp only[zJ,cK,ret,id_eq,rW]
    conv=>arg 7;simp only[rW]
    cases h0 with
    | true=>
     obtain⟨rfl,hq2⟩:=hq rfl
     try refine GA ?_
     refine dj [0,2,3,4,5] ?_;exact dE (s2,ut,up,u1) ⟨Hu,λ_=>hq2⟩ (by repeat' (first|exact bZ|refine bX I ?_)) I
    | false=>
     try refine GA ?_
     refine dj [0,2,3,4,5] ?_;exact dE (s2,ut,up,u1) ⟨Hu,λh=>by cases h⟩ (by repeat' (first|exact bZ|refine bX I ?_)) I
   by_cases e1:kd=1
   ·subst e1
    obtain⟨s2,e,zT⟩:∃s2 e,q8 s'=(s2,e):=⟨_,_,rfl⟩;have Hu:dY m b s2:=by have:=aat i2;rw[zT]at this;exact this
    have hq:h0=aD->e=15/\jx s2=(v0,p0,h0):=λh=>by
     have:=(RT.1 h).ended;rw[zT]at this
     cases this
     exact⟨rfl,hV⟩
    have gL:=FK s' ut up uw;rw[zT]at gL
    try refine GA ?_
    refine bm [1,2,3,4] [0,5] aiT I I (hZ aI.en I I) (λw hm hb=>gL w _ hb) I I I ?_;intro u1 _
    conv=>arg 8;simp only[zJ,cK,ret,id_eq,rW]
    conv=>arg 7;simp only[rW]
    cases h0 with
    | true=>
     obtain⟨rfl,hq2⟩:=hq rfl
     try refine GA ?_
     refine dj [0,2,3,4,5] ?_;exact dE (s2,ut,up,u1) ⟨Hu,λ_=>hq2⟩ (by repeat' (first|exact bZ|refine bX I ?_)) I
    | false=>
     try refine GA ?_
     refine dj [0,2,3,4,5] ?_;exact dE (s2,ut,up,u1) ⟨Hu,λh=>by cases h⟩ (by repeat' (first|exact bZ|refine bX I ?_)) I
   by_cases e2:kd=2
   ·subst e2
    have Hu:dY m b (kD s').1:=If i2;have hq:h0=aD->jx (kD s').1=(v0,p0,h0):=λh=>by rw[(RT.1 h).cancel];exact hV
    have gL:=hca s' i2 ut up uw;generalize (kD s').1=s2 at*
    try refine GA ?_
    refine bm [1,2,3,4] [0,5] aiT I I (hZ aI.en I I) (λw hm hb=>gL w _ hb) I I I ?_;intro u1 _
    conv=>arg 8;simp only[zJ,cK,ret,id_eq,rW]
    try refine GA ?_
    refine dj [0,2,3,4,5] ?_;exact dE (s2,ut,up,u1) ⟨Hu,hq⟩ (by repeat' (first|exact bZ|refine bX I ?_)) I
   by_cases e3:kd=3
   ·subst e3
    have Hu:dY m b (pU s'):=Vg i2;have hq:h0=aD->jx (pU s')=(v0,p0,h0):=λh=>by rw[(RT.1 h).drain];exact hV
    have gL:=Vv s' i2 ut up uw;generalize (pU s')=s2 at*
    try refine GA ?_
    refine bm [1,2,3,4] [0,5] aiT I I (hZ aI.en I I) (λw hm hb=>gL w _ hb) I I I ?_;intro u1 _
    conv=>arg 8;simp only[zJ,cK,ret,id_eq,rW]
    try refine GA ?_
    refine dj [0,2,3,4,5] ?_;exact dE (s2,ut,up,u1) ⟨Hu,hq⟩ (by repeat' (first|exact bZ|refine bX I ?_)) I
   by_cases e4:kd=4
   ·subst e4
    have Hu:dY m b (og s' n).1:=aau i2 n;have hq:h0=aD->jx (og s' n).1=(v0,p0,h0):=λh=>by rw[(RT.1 h).ag8 n];exact hV
    have gL:=NS s' i2 n ut up uw;generalize (og s' n).1=s2 at*
    repeat(first|refine GA ?_|refine gV (aC aK.ty I (aH (i:=5) I I)) ?_)
    refine bm [1,2,3,4] [0,5] aiT I I (fO aI.en I I I) (λw hm hb=>gL w _ hb) I I I ?_;intro u1 _
    conv=>arg 8;simp only[zJ,cK,ret,id_eq,rW]
    try refine GA ?_
    refine dj [0,2,3,4,5] ?_;exact dE (s2,ut,up,u1) ⟨Hu,hq⟩ (by repeat' (first|exact bZ|refine bX I ?_)) I
   by_cases e5:kd=5
   ·subst e5
    have Hu:dY m b (tm s' n).1:=acL i2 n;have hq:h0=aD->jx (tm s' n).1=(v0,p0,h0):=λh=>by rw[(RT.1 h).tick n];exact hV
    have gL:=qf s' i2 n ut up uw;generalize (tm s' n).1=s2 at*
    repeat(first|refine GA ?_|refine gV (aC aK.ty I (aH (i:=5) I I)) ?_)
    refine bm [1,2,3,4] [0,5] aiT I I (fO aI.en I I I) (λw hm hb=>gL w _ hb) I I I ?_;intro u1 _
    conv=>arg 8;simp only[zJ,cK,ret,id_eq,rW]
    try refine GA ?_
    refine dj [0,2,3,4,5] ?_;exact dE (s2,ut,up,u1) ⟨Hu,hq⟩ (by repeat' (first|exact bZ|refine bX I ?_)) I
   by_cases e6:kd=6
   ·subst e6
    obtain⟨s2,e,zT⟩:∃s2 e,mZ m b (n.tmod 1000).toNat s'=(s2,e):=⟨_,_,rfl⟩;have Hu:dY m b s2:=by have:=ahb s' i2 (n.tmod 1000).toNat;rw[zT]at this;exact this
    have hq:h0=aD->e=0/\jx s2=(v0,p0,h0):=λh=>by
     have:=(RT.1 h).ah_ (m:=m) (b:=b) (n.tmod 1000).toNat;rw[zT]at this
     cases this
     exact⟨rfl,hV⟩
    have gL:=hwk s' i2 (n.tmod 1000) (acX n) ut up uw;rw[zT]at gL
    repeat(first|refine GA ?_|refine gV (aC aK.ty I (aH (i:=5) I I)) ?_|refine gV (o7 I I (afk n)) ?_)
    refine bm [1,2,3,4] [0,5] aiT I I (fO aI.en I I I) (λw hm hb=>gL w _ (aaA hm [1,2,3,4] 0 aiT I I ah') hb) I I I ?_;rintro⟨u1,u2,u3⟩ _
    conv=>arg 8;simp only[zJ,cK,ret,id_eq,wkS]
    conv=>arg 7;simp only[wkS]
    cases h0 with
    | true=>
     obtain⟨rfl,hq2⟩:=hq rfl
     try refine GA ?_
     refine dj [0,2,3,4,5] ?_;exact dE (s2,u1,u2,u3) ⟨Hu,λ_=>hq2⟩ (by repeat' (first|exact bZ|refine bX I ?_)) I
    | false=>
     try refine GA ?_
     refine dj [0,2,3,4,5] ?_;exact dE (s2,u1,u2,u3) ⟨Hu,λh=>by cases h⟩ (by repeat' (first|exact bZ|refine bX I ?_)) I
   by_cases e7:kd=7
   ·subst e7
    obtain⟨s2,o2,zT⟩:∃s2 o2,ka s' n=(s2,o2):=⟨_,_,rfl⟩;have Hu:dY m b s2:=by have:=acM i2 n;rw[zT]at this;exact this
    have hq:h0=aD->o2=[]/\jx s2=(v0,p0,h0):=λh=>by
     have:=(RT.1 h).send n;rw[zT,hV]at this;exact this
    have gL:=hse s' i2 n ut up uw;rw[zT]at gL
    repeat(first|refine GA ?_|refine gV (aC aK.ty I (aH (i:=5) I I)) ?_)
    refine bm [1,2,3,4] [0,5] aiT I I (fO aI.en I I I) (λw hm hb=>gL w _ hb) I I I ?_;rintro⟨u1,u2⟩ _
    conv=>arg 8;simp only[zJ,cK,ret,id_eq,acV]
    conv=>arg 7;simp only[acV]
    cases h0 with
    | true=>
     obtain⟨rfl,hq2⟩:=hq rfl;refine mz (i:=6) I λba ca OL _ _=>?_;subst OL;simp only[ia]
     try refine GA ?_
     refine dj [0,2,3,4,5] ?_;exact dE (s2,ut,up,u1) ⟨Hu,λ_=>hq2⟩ (by repeat' (first|exact bZ|refine bX I ?_)) I
    | false=>
     try refine GA ?_
     refine dj [0,2,3,4,5] ?_;exact dE (s2,ut,up,u1) ⟨Hu,λh=>by cases h⟩ (by repeat' (first|exact bZ|refine bX I ?_)) I
   try refine GA ?_
   refine dj [0,1,2,3,4] ?_;exact dE (s',ut,up,uw) ⟨i2,λ_=>hV⟩ (by repeat' (first|exact bZ|refine bX I ?_)) I
  clear hda NS qf hse hca Vv FK hwk ahb i2 RT;rintro⟨s2,ut,up,uw⟩ ⟨j1,j2⟩;dsimp only at j1 j2⊢;have hve:=hve s2 j1 ut up uw;have eL:=eL s2 j1 ut up uw;have RT:=NF (s:=s2)
  try refine GA ?_
  refine aV (hZ aI.en I I) (λw hm=>hve _ w (hm.pick [1,2,3,4] aiT I)) I I I ?_;intro _ _;refine zL ?_;clear hve;have ja:∀v1 p1 h1,jx s2=(v1,p1,h1)->(h1=aD->kt s2=aE):=λv1 p1 h1 e h=>pY.ready (RT.1 (by rw[e];exact h))
  cases h0 with
  | true=>
   have hV2:=j2 I;rw[hV2];rw[ja _ _ _ hV2 I]at eL
   repeat(first|refine GC ?_|refine gV (dr (b:=aE) I I (decide_eq_false (by simp))) ?_|refine GB ?_)
   refine qg I I I ?_;refine aV (hZ aI.en I I) (λw hm=>eL _ w (hm.pick [1,2,3,4] aiT I)) I I I ?_;intro _ _;refine zL ?_
   try refine GA ?_
   exact iB (k+1,s2,ut,up,uw) ⟨by show k+1<=l.length;omega,j1⟩ (by show l.length-(k+1)<l.length-k;omega) (by dsimp only;rw[hV2];repeat' (first|exact bZ|refine bX I ?_)) I
  | false=>
   generalize hV2:jx s2=V2 at*;obtain⟨v1,p1,h1⟩:=V2
   cases h1 with
   | false=>
    try refine GA ?_
    exact iB (k+1,s2,ut,up,uw) ⟨by show k+1<=l.length;omega,j1⟩ (by show l.length-(k+1)<l.length-k;omega) (by dsimp only;rw[hV2];repeat' (first|exact bZ|refine bX I ?_)) I
   | true=>
    rw[ja _ _ _ I I]at eL
    try refine GA ?_
    refine qg I I I ?_;refine aV (hZ aI.en I I) (λw hm=>eL _ w (hm.pick [1,2,3,4] aiT I)) I I I ?_;intro _ _;refine zL ?_
    try refine GA ?_
    exact iB (k+1,s2,ut,up,uw) ⟨by show k+1<=l.length;omega,j1⟩ (by show l.length-(k+1)<l.length-k;omega) (by dsimp only;rw[hV2];repeat' (first|exact bZ|refine bX I ?_)) I
 ·try refine GA ?_
  exact eM
end sessionOnce
end Go.Proofs.YtaobbfedlnddcaaGreat

/- Part 6 of what SessionCreditUpto needs: SeR, SeV, ActK, SeC, Fill, WhR, SeD, SeW, SeX, SeY, SeSt, SeCr, FrameL, Frame, OpsO, SessionCreditW, OpenU, SessionCreditU. -/
import Derived.Test.YtaobbfedlnddcaaGreatMgE
namespace Go.Proofs.YtaobbfedlnddcaaGreat
set_option linter.unusedVariables false
set_option linter.unusedSimpArgs false
open _root_.And renaming intro->cC
open _root_.Array renaming foldl_toList->Z0
open _root_.Bool renaming false->aE,true->aD,false_eq_true->nV
open _root_.Decidable renaming of_not_not->sv
open _root_.Go.Instr renaming build->df,fill->ju
open _root_.Go.IntKind renaming i64->az
open _root_.Go.Proofs.Tryz renaming prog->aB
open _root_.Go.Value renaming slice->ap,int->av,pointer->aJ,agg->aQ,oneCell'->eQ,cells->sw
open _root_.Go.Value.agg renaming injEq->lL
open _root_.Go.Value.slice renaming injEq->iT
open _root_.List renaming getElem?_eq_getElem->bD,length_append->bK,getElem_mem->cD,length_cons->c_,take_succ_eq_append_getElem->iq,mem_cons->dx,take_of_length_le->gK,append_assoc->eY,nil_append->eJ,not_mem_nil->fl,length_nil->gU,mem_iff_getElem->g_,length_drop->iX,length_singleton->lO,drop_zero->nh,any_eq_false->sD,take_zero->nM,setIfInBounds_toArray->tw,flatten_append->AJ,set_append->AK
open _root_.List.cons renaming injEq->fO
open _root_.Nat renaming le_refl->bm,zero_le->bH,zero_add->cV,le_of_ble_eq_true->me,add_zero->jw
open _root_.Option renaming some->aj,none->ak
open _root_.True renaming intro->cI
set_option maxHeartbeats 16000000
namespace gv
open aT dL e8 l_ bI cT bZ jo
open ij (Ev rv takeN)
section
variable{o:Of}{N:List (List Int)}{tags:List Int}{n:Int}(hn:0<n)(ht:∀t∈tags,t<n)
include hn ht
theorem HL(s:List UInt8):0<=(eu o N tags s).1.1/\(eu o N tags s).1.1<n:=x_ hn ht s 0 0 0 0 (Int.le_refl 0) hn
theorem sK:∀(f a:Nat) (u:List UInt8),∀t∈(dT o N tags f a u).1,0<=t.1/\t.1<n
 |0,_,_,_,h=>by cases h
 | f +1,a,u,t,h=>by
  rw[sG]at h;split at h
  ·split at h
   cases h
   rcases dx.1 h with rfl|h
   exact HL hn ht u;exact sK f _ _ t h
  cases h
theorem HM:∀(s:List UInt8) (a:Nat) (u:List UInt8),∀t∈(ic o N tags s a u).1,0<=t.1/\t.1<n
 |[],_,_,_,h=>by cases h
 | b::s,a,u,t,h=>by
  rw[qc]at h;split at h;exact sK hn ht _ _ _ t h;split at h;exact sK hn ht _ _ _ t h;rcases List.mem_append.1 h with h|h
  exact sK hn ht _ _ _ t h;exact HM s _ _ t h
theorem M_:∀(f a:Nat) (u:List UInt8),∀t∈(jm o N tags f a u).1,0<=t.1/\t.1<n
 |0,_,_,_,h=>by cases h
 | f+1,a,u,t,h=>by
  rw[E3]at h;split at h
  cases h
  split at h
  cases h
  rcases dx.1 h with rfl|h
  exact HL hn ht u;exact M_ f _ _ t h
end
theorem Na{o:Of}{N:List (List Int)}{tags:List Int}:∀(s:List UInt8) (a:Nat) (u:List UInt8),u.length<=64->(ic o N tags s a u).2.2.1.length<=64
 |[],_,_,h=>h
 | b::s,a,u,h=>by
  rw[qc];split;exact bH _;split;exact bH _;exact Na s _ _ J
theorem Ss{a l:List Ev}(h:a.any rv=aE)(h2:∀x∈l,rv x=aE):(a++l).any rv=false:=by
 rw[List.any_append,h,sD.2 λx hx=>by rw[h2 x hx];decide];rfl
theorem A0{s:fJ}(h:jK s=aD):s.over=aE/\s.wait.length<200/\(s.ed≠[]\/s.bad≠0\/s.kr≠[]\/s.ended=aD):=by
 unfold jK at h;simp only[Bool.and_eq_true,Bool.not_eq_true',Bool.or_eq_true,decide_eq_true_eq]at h;exact⟨h.1.1,h.1.2,by rcases h.2 with((h|h)|h)|h<;>simp[h]⟩
theorem Z1{m:Md}{b:Bool}{T N:Nat}(h:jq m b T N){p:PS}(hp:Sh m b p){a:Nat}{t:Int}(ht:t<T):(kq m b p a t).2.2.length<=2001/\((kq m b p a t).1≠0->(kq m b p a t).2.2=[]):=by
 have hb:(kq m b p a t).1≠0->(kq m b p a t).2.2=[]:=λh0=>by
  cases b with
  |true=>
   rcases xK (l:=m.g.aF) (nx:=iC m.rows t.toNat) (st:=p.1) (seen:=a) (t:=t) rfl with⟨h1,h2⟩|⟨x,r,o,a1,h1,h2,h3,h4,h5,h6⟩
   exact congrArg Prod.snd h2;exact absurd (congrArg Prod.fst h6) h0
  |false=>exact EY 2001 p.2 [] h0
 refine⟨?_,hb⟩
 by_cases c:(kq m b p a t).1=0
 exact(v8 h hp ht c).2;rw[hb c];exact bH _
theorem Su{m:Md}{b:Bool}{T N:Nat}(hk:jq m b T N){s:fJ}(hs:fC m b s)(hr:jK s=aD):fC m b (jr m b s):=by
 obtain⟨r1,r2,r3⟩:=A0 hr;obtain⟨h1,h2,h3,h4,h5,h6,h7,h8,h9,Mq,JZ,Qx,Sr,M3,M4⟩:=hs;obtain⟨l1,l2,l3⟩:=h9 r1;have hn:(0:Int)<m.of.length:=by have:=hk.some;omega
 have hse:s.seen<=4096:=by omega
 rw[r1]at Qx;simp only[nV,if_false]at Qx;unfold jr
 cases e1:s.ed with
 | cons t l=>
  rw[e1]at h7 h8;simp only[c_]at h7;have h8':=λu hu=>h8 u (List.mem_cons_of_mem _ hu);dsimp only
  by_cases c1:s9 m t<0
  ·rw[if_pos c1]
   exact⟨h1,h2,h3,h4,h5,h6,by dsimp only;omega,h8',λ_=>⟨l1,l2,l3⟩,Mq,JZ,by dsimp only;rw[r1];simpa using Qx,Sr,M3,M4⟩
  rw[if_neg c1];obtain⟨t0,t1⟩:=h8 t (List.mem_cons_self ..);have hl:s9 m t<T:=by
   unfold s9;rw[List.getD_eq_getElem?_getD,bD J,Option.getD_some];have:=(hk.ofs _ (cD (show t.1.toNat<m.of.length by omega))).2;have:=hk.tT;omega
  obtain⟨g1,g2⟩:=Z1 hk l3 (a:=s.seen) hl;have g3:=JQ hk l3 (a:=s.seen) J hl;have g4:=v8 hk l3 (a:=s.seen) hl;unfold sU rz;dsimp only;generalize kq m b s.p s.seen (s9 m t)=R at*;have hlen:(s.wait++R.2.2).length<=s.wait.length+2001:=by rw[bK];omega
  by_cases c2:R.1≠0
  ·rw[if_pos c2]
   unfold kJ;rw[g2 c2,List.append_nil,if_neg c2];exact⟨h1,h2,h3,h4,h5,h6,by dsimp only;omega,h8',λh=>(by cases h),Mq,JZ,by dsimp only;rw[if_pos I];omega,Sr,M3,M4⟩
  rw[if_neg c2];have c3:R.1=0:=by simpa using c2
  rw[if_pos c3];refine⟨h1,h2,h3,h4,h5,h6,by dsimp only;omega,h8',λ_=>⟨c3,l2,(g4 c3).1⟩,Mq,Ss JZ g3,by dsimp only;rw[r1,bK];simp only[nV,if_false];omega,by dsimp only;omega,M3,M4⟩
 | nil =>
  rw[e1]at h7 h8 r3;simp only[gU,ne_eq,not_true_eq_false,false_or]at h7 r3;dsimp only
  by_cases c1:s.bad≠0
  ·rw[if_pos c1]
   unfold kJ;exact⟨h1,h2,h3,h4,h5,h6,by dsimp only;rw[e1];simpa using h7,by dsimp only;rw[e1];exact h8,λh=>(by cases h),Mq,JZ,by dsimp only;rw[if_pos I];omega,Sr,M3,M4⟩
  rw[if_neg c1];have c1:s.bad=0:=by simpa using c1
  cases e2:s.kr with
  | cons c r=>
   rw[e2]at h4;simp only[c_]at h4;dsimp only;unfold ML BC;have hc:=zn (o:=m.o) (N:=m.N) (tags:=m.tags) [c] s.dz s.iI;have hb:=Na (o:=m.o) (N:=m.N) (tags:=m.tags) [c] s.dz s.iI h5;have Nq:=HM (o:=m.o) (N:=m.N) (tags:=m.tags) hn hk.tag [c] s.dz s.iI;simp only[lO]at hc;generalize ic m.o m.N m.tags [c] s.dz s.iI=D at*;have wo:¬s.ma=true:=λh=>by have:=(Mq h).1;rw[e2]at this;cases this
   exact⟨h1,h2,h3,by dsimp only;omega,hb,λh _=>h,by dsimp only;omega,Nq,λ_=>⟨l1,l2,l3⟩,λh=>absurd h wo,JZ,by dsimp only;rw[r1];simpa using Qx,Sr,M3,M4⟩
  | nil=>
   rw[e2]at r3 h4;simp only[not_true_eq_false,false_or,c1]at r3;dsimp only
   by_cases c2:s.ma=aE
   ·rw[if_pos c2]
    unfold E4 yc;have hc:=Cz (o:=m.o) (N:=m.N) (tags:=m.tags) (s.iI.length+1) s.dz s.iI;have Nq:=M_ (o:=m.o) (N:=m.N) (tags:=m.tags) hn hk.tag (s.iI.length+1) s.dz s.iI;generalize jm m.o m.N m.tags (s.iI.length+1) s.dz s.iI=D at*;refine⟨h1,h2,h3,by dsimp only;rw[e2];simp only[gU]at h4⊢;omega,bH _,λ_ h=>(by cases h),by dsimp only;omega,Nq,λ_=>⟨l1,l2,l3⟩,λ_=>⟨e2,r3⟩,JZ,by dsimp only;rw[r1];simpa using Qx,Sr,M3,M4⟩
   rw[if_neg c2];have g1:=EZ hk l3 (a:=s.seen);have g3:=Qn hk l3 (a:=s.seen) J;unfold kJ pN;dsimp only;generalize vd m b s.p s.seen=R at*;have g2:R.2.length<=2001:=by
    by_cases c:R.1=0
    exact g1.1 c;rw[g1.2 c];exact bH _
   refine⟨h1,h2,h3,by dsimp only;rw[e2];exact h4,h5,h6,by dsimp only;rw[e1];simpa using h7,by dsimp only;rw[e1];exact h8,λh=>(by cases h),Mq,Ss JZ g3,by dsimp only;rw[if_pos I,bK];omega,by dsimp only;rw[bK];omega,M3,M4⟩
theorem J4{m:Md}{b:Bool}{T N:Nat}(hk:jq m b T N):∀(k:Nat) {s:fJ},fC m b s->fC m b (lq m b k s).1/\(lq m b k s).2<=k
 |0,s,hs=>⟨hs,bm _⟩
 | k +1,s,hs=>by
  unfold lq
  by_cases c:jK s=aD
  ·rw[if_pos c]
   obtain⟨h1,h2⟩:=J4 hk k (Su hk hs c);exact⟨h1,by dsimp only;omega⟩
  rw[if_neg c];exact⟨hs,bH _⟩
theorem UN{m:Md}{b:Bool}{s:fJ}(hs:fC m b s)(e:Int)(pl:Nat):fC m b (v_ s e pl):=by
 obtain⟨h1,h2,h3,h4,h5,h6,h7,h8,h9,Mq,JZ,Qx,Sr,M3,M4⟩:=hs;refine⟨h1,h2,h3,h4,h5,h6,h7,h8,λh=>(by cases h),Mq,rfl,?_,bH _,M3,M4⟩;show s.gone+((0:Nat):Int)<=(s.seen+if aD=aD then 1 else 0)*2001
 rw[if_pos I];split at Qx<;>omega
theorem Sv{m:Md}{b:Bool}{s:fJ}(hs:fC m b s)(x:List UInt8):fC m b (l5 s x).1:=by
 unfold l5;split;exact hs;split;exact hs;split;exact UN hs _ _
 rename_i c1 c2 c3
 have c4:¬s.ma=true:=λh=>c1 (.inr (hs.ma h).2);obtain⟨h1,h2,h3,h4,h5,h6,h7,h8,h9,Mq,JZ,Qx,Sr,M3,M4⟩:=hs;exact⟨by dsimp only;omega,by dsimp only;omega,h3,by dsimp only;rw[bK];omega,h5,h6,h7,h8,h9,λh=>absurd h c4,JZ,Qx,Sr,M3,M4⟩
theorem Z2{m:Md}{b:Bool}{s:fJ}(hs:fC m b s):fC m b (ni s).1:=by
 unfold ni;split;exact hs;obtain⟨h1,h2,h3,h4,h5,h6,h7,h8,h9,Mq,JZ,Qx,Sr,M3,M4⟩:=hs;exact⟨h1,h2,h3,h4,h5,h6,h7,h8,h9,λh=>⟨(Mq h).1,rfl⟩,JZ,Qx,Sr,M3,M4⟩
theorem Z3{m:Md}{b:Bool}{s:fJ}(hs:fC m b s)(n:Int):fC m b (lU s n).1:=by
 unfold lU;split;exact hs;split;exact hs;obtain⟨h1,h2,h3,h4,h5,h6,h7,h8,h9,Mq,JZ,Qx,Sr,M3,M4⟩:=hs;exact⟨h1,h2,h3,h4,h5,h6,h7,h8,h9,Mq,JZ,Qx,Sr,⟨by dsimp only;omega,by dsimp only;omega⟩,M4⟩
theorem Nb{l:List Ev}{c n:Int}(hc:0<=c)(hn:0<=n):takeN l c n<=l.length/\(takeN l c n:Int)<=c:=by
 unfold takeN;omega
theorem acn{m:Md}{b:Bool}{s:fJ}(hs:fC m b s)(n:Int):fC m b (iE s n).1:=by
 unfold iE;split;exact hs
 rename_i c
 obtain⟨h1,h2,h3,h4,h5,h6,h7,h8,h9,Mq,JZ,Qx,Sr,M3,M4⟩:=hs;obtain⟨k1,k2⟩:=Nb (l:=s.wait) M3.1 (by omega:0<=n);have EK:(s.wait.drop (takeN s.wait s.cr n)).any rv=false:=by
  rw[sD]at JZ⊢;exact λx hx=>JZ x (List.mem_of_mem_drop hx)
 refine⟨h1,h2,h3,h4,h5,h6,h7,h8,h9,Mq,EK,?_,?_,⟨by dsimp only;omega,by dsimp only;omega⟩,by dsimp only;omega⟩
 ·dsimp only
  rw[iX];generalize ((s.seen:Int)+if s.over=aD then 1 else 0)=K at*;omega
 dsimp only;rw[iX];omega
end gv
namespace bZ
open Go.RowKit cU dM aT dL e8 gu jo bI l_ gv cT
open ij (Ev rv takeN)
theorem vv(b:Bool)(s:fJ)(vp vq:Value):(iR b s vp vq).length=8:=by cases b<;>rfl
theorem E_{b:Bool}{g:Nat}{vo:Value}{pk md:List Value}{ut up uq uw:Value}{m:Md}(dS:pk.length=258)(pE:md.length=7)(s:fJ)(hs:fC m b s)(B:bR)(w:World)(hm:Mem B (gv b g vo pk md s ut up uq uw) w):
 Calls aB 17 #[aJ (aj ⟨g,0,ak⟩)] w (cz (ret (.bool (jK s))) w):=by
 obtain⟨a1,c1,e1,_⟩:=lV (hm.get (i:=1) rfl);obtain⟨a2,c2,e2⟩:=Sn (hm.get (i:=3) rfl);exact F5 dS pE (vv b s up uq) s (by have:=hs.seen;have:=hs.kr;have:=hs.Cg;have:=hs.kg;omega) ⟨a1,c1,e1⟩ ⟨a2,c2,e2⟩ (by have:=hs.wl;omega) w (hm.get (i:=0) I)
def wkS(b:Bool)(g:Nat)(vo:Value)(pk md:List Value)(R:fJ×Nat)(uq:Value):Spec (Value×Value×Value):=⟨λ_=>True,λ_=>av az (R.2:Int),λx=>gv b g vo pk md R.1 x.1 x.2.1 uq x.2.2⟩
theorem Sw{m:Md}{b:Bool}{k:Nat}{s:fJ}(h:jK s=aE\/k=0):lq m b k s=(s,0):=by
 cases k with
 |zero=>rfl
 |succ k=>rw[lq,if_neg (by rcases h with h|h;rw[h];decide;cases h)]
theorem aco{m:Md}{b:Bool}{k:Nat}{s:fJ}(h:jK s=aD):lq m b (k+1) s=((lq m b k (jr m b s)).1,(lq m b k (jr m b s)).2+1):=by rw[lq,if_pos h]
set_option maxRecDepth 100000 in
theorem zw(x:Value)(m:Md){vo vn vt vp vr va vg ut up uq uw:Value}(b:Bool)(T N:Nat)(hk:jq m b T N)(g:Nat)(s:fJ)(hs:fC m b s)(qz:Int)(qM:qz<=9223372036854775807)(w:World)(B:bR)(hR:nJ B λw=>Ct w x m vo vn vt vp vr va vg)
 (hm:Mem B (gv b g vo (eP m.o vn vt) (fR m.g.aR m.g.bC vp m.mode vr va vg) s ut up uq uw) w):
 Calls aB 14 #[aJ (aj ⟨g,0,ak⟩),av az qz] w (dc (wkS b g vo (eP m.o vn vt) (fR m.g.aR m.g.bC vp m.mode vr va vg) (lq m b qz.toNat s) uq) B):=by
 have dS:(eP m.o vn vt).length=258:=fH _ _ _;have A3:=λs' (h1:fC m b s') h2 h3 ut' up' uw' w' B hR hm=>J3 x m (vo:=vo) (vn:=vn) (vt:=vt) (vp:=vp) (vr:=vr) (va:=va) (vg:=vg) (ut:=ut') (up:=up') (uq:=uq) (uw:=uw') b T N hk g s' h1 h2 h3 w' B hR hm;have eL:=λs' (h1:fC m b s') ut' up' uw' B w' (hm:Mem B (gv b g vo (eP m.o vn vt) (fR m.g.aR m.g.bC vp m.mode vr va vg) s' ut' up' uq uw') w')=>E_ (m:=m) dS I s' h1 B w' hm;have lf:=λ(s':fJ) h1 h2=>Su hk (s:=s') h1 h2;generalize hE:lq m b qz.toNat s=E;generalize eP m.o vn vt=PK at*;generalize fR m.g.aR m.g.bC vp m.mode vr va vg=MT at*;refine dA hm (args:=[aJ (aj ⟨g,0,ak⟩),av az qz]) (n:=18) Tryz.func14 I I I ?_
 try refine GA ?_
 refine dY (ι:=Nat×fJ×Value×Value×Value) (λ(k,s',_)=>(k:Int)<=max 0 qz/\fC m b s'/\((lq m b (qz.toNat-k) s').1,k+(lq m b (qz.toNat-k) s').2)=E) (λ(k,_)=>[(0,aJ (aj ⟨g,0,ak⟩)),(1,av az qz),(5,av az (k:Int))])
  (λ(_,s',ut',up',uw')=>gv b g vo PK MT s' ut' up' uq uw') (λ(k,_)=>qz.toNat-k) (0,s,ut,up,uw) ⟨by omega,hs,by subst hE;rw[Nat.sub_zero,cV]⟩ ?_
 clear hE hs;rintro⟨k,s',ut',up',uw'⟩ ⟨i1,i2,i3⟩;dsimp only at i1 i2 i3⊢
 by_cases c:(k:Int)<qz
 ·have eL:=eL s' i2 ut' up' uw'
  cases hr:jK s' with
  |true=>
   rw[hr]at eL;obtain⟨r1,r2,_⟩:=A0 hr;rw[show qz.toNat-k=(qz.toNat-(k+1))+1 by omega,aco hr]at i3
   try refine GA ?_
   refine mg (iM aI.en I I) (λw hm=>eL B w hm) I I I I I ?_;intro _ _;refine zL ?_
   try refine GA ?_
   refine bx [0,1,2,3] [] aiz I I (iM aI.en I I) (λw hm hb=>A3 s' i2 r1 r2 _ _ _ w _ (hR.on (hm.pick [0,1,2,3] aiz I)) hb) I I I ?_;rintro⟨v1,v2,v3⟩ _
   conv=>arg 8;simp only[zJ,cL,ret,id_eq,tb]
   try refine GA ?_
   exact bW (k+1,jr m b s',v1,v2,v3) ⟨by omega,lf s' i2 hr,by rw[<-i3];dsimp only;rw[Nat.add_assoc,Nat.add_comm 1]⟩ (by show qz.toNat-(k+1)<qz.toNat-k;omega)
  |false=>
   rw[hr]at eL;rw[Sw (.inl hr)]at i3;subst i3
   try refine GA ?_
   refine mg (iM aI.en I I) (λw hm=>eL B w hm) I I I I I ?_;intro _ _;refine zL ?_
   try refine GA ?_
   exact cJ I I λw hm=>hm.cB (S:=wkS b g vo PK MT (s',k+0) uq) (ut',up',uw') trivial [0,1,2,3] aiz I
 ·rw[Sw (.inr J)]at i3
  subst i3
  try refine GA ?_
  exact cJ I I λw hm=>hm.cB (S:=wkS b g vo PK MT (s',k+0) uq) (ut',up',uw') trivial [0,1,2,3] aiz I
end bZ
namespace bZ
open Go.RowKit cU dM
theorem acp(l:List bI.Act):∀u∈l.flatMap iZ,u.oneCell'=true:=by
 intro u hu;obtain⟨x,_,h⟩:=List.mem_flatMap.1 hu;simp only[iZ,dx,fl,or_false]at h;rcases h with rfl|rfl<;>rfl
theorem Z4(a:bI.Act):(iZ a).length=2:=rfl
theorem B4(v:Value)(l:List bI.Act)(w:World)(hs:Sl w v l.length (l.flatMap iZ))(hl:l.length*16<=140737488355328):
 Calls aB 88 #[v] w (cz (cL 146 2 l.length (l.flatMap iZ) id) w):=by
 obtain⟨base,cap,rfl,lm,j0,eL⟩:=hs;unfold maxLen at j0;refine enter (args:=[ap base l.length cap]) (n:=8) Tryz.func88 I I I ?_;have qZ:∀w',Gr w w'->Sl w' (ap base l.length cap) l.length (l.flatMap iZ):=λw' hg=>Sl.gr ⟨base,cap,rfl,lm,j0,eL⟩ hg;clear eL
 cases base with
 | none=>
  repeat(first|refine GC ?_|refine gV (jP bL.eq I I I) ?_|refine GB ?_)
  have h0:l=[]:=by
   cases l with
   |nil=>rfl
   |cons x l=>obtain⟨_,_,h,_,_,h2⟩:=qZ w (Gr.refl w);simp only[iT]at h;obtain⟨rfl,_⟩:=h;obtain⟨b,off,h,_⟩:=h2 (by simp);cases h
  subst h0;refine dF 146 2 ?_;exact cJ I I λw hm=>hm.meets (S:=cL 146 2 0 [] id) _ trivial [0] aiz I
 |some p=>
  repeat(first|refine GC ?_|refine gV (jP bL.eq I I I) ?_|refine GB ?_)
  refine vH I λg=>?_
  try refine GA ?_
  refine eD (i:=0) I (λw' hm=>qZ w' hm.below) I I (kW Z4 l) (acp l) J J I λv'=>?_;rw[eJ]
  try refine GA ?_
  refine cJ I I λw hm=>?_;exact hm.meets (S:=cL 146 2 l.length (l.flatMap iZ) id) v' trivial [0] aiz (by simp[cL])
end bZ
namespace bZ
open Go.RowKit cU dM aT dL e8 gu jo bI l_ gv cT
abbrev BF{α:Type}(s:vO α)(N:List (List α)):Spec (Value×(Nat->Prop)):=⟨λx=>∃a c,x.1=ap a N.length c,λx=>x.1,λx=>[Fu (bM (bM s)) x.2 [x.1] N]⟩
theorem Nc{w:World}{v:Value}{l:List Int}(hp:∀x∈l,cU.dX x)(h:(a_ 3 1 v l.length (l.flatMap cU.eo)).holds w):(bM fz).is (λk=>v.ownBlock=aj k) w [v] l:=
 ⟨v,rfl,jQ.of_flat (Sl.dy h) hp (λ_ h=>h) (λa n cp hv=>by rw[hv];rfl)⟩
theorem sL(v:Value)(N:List (List Int))(w:World)(h:jQ (bM fz) (pD w) w v N)(hn:N.length<=1000000)(hl:∀r∈N,r.length<=1000000):
 Calls aB 54 #[v] w (cz (BF fz N) w):=by
 obtain⟨bv,cv,rfl,Ix,Fj,hrv⟩:=h;unfold maxLen at Fj;refine enter (args:=[ap bv N.length cv]) (n:=19) Tryz.func54 I I I ?_
 try refine GA ?_
 refine ja 27 1 (ml (dZ (bM fz) (λ_=>False) [] []) (λk hk=>hk.elim (λh=>by cases h) id) (λw=>je) ?_);refine dY (ι:=Nat×Value×List (List Value)×(Nat->Prop)) (λ(k,_,_,_)=>k<=N.length) (λ(k,vo,_,_)=>[(3,vo),(6,ap bv N.length cv),(7,av az N.length),(8,av az (k:Int))])
  (λ(k,vo,fT,F)=>[a_ 27 1 vo k fT.flatten,dZ (bM fz) F fT (N.take k)]) (λ(k,_,_,_)=>N.length-k) (0,ap ak 0 0,[],λ_=>False) (bH _) ?_
 rintro⟨k,vo,fT,F⟩ i1;dsimp only at i1⊢
 by_cases c:k<N.length
 ·obtain⟨b,off,rfl,_,hr⟩:=hrv J
  obtain⟨cs,⟨vx,rfl,hx⟩,eL⟩:=hr k c;have dz:∀(L:List b_),At w L ⟨b,off+k*1,ak⟩ vx:=λL=>iD (j:=0) eL I;have Ki:=hl _ (cD c);have qD:N.take (k+1)=N.take k++[N[k]]:=iq c;have iz:=λw' (hg:Gr w w')=>jS vx N[k] w' ((hx.flat aiz).gr hg) J;have lf:=hx.okp;generalize N[k]=l at*;clear hr eL hrv hx
  repeat(first|refine GA ?_|refine gV (aX bL.eq aK.ty I I c) ?_|refine gV (aC (v:=vx) aK.ty I (dz _)) ?_)
  refine aW (iM aI.en I I) (λw hm=>iz _ hm.below) I I I ?_;intro v1 _;refine zL ?_;refine aU (i:=2) I λhu1 hu2=>?_;refine jN (i:=0) I I hu1 hu2 I I (λz h=>by cases h;rfl) J J I λz EM=>?_;refine zL ?_;refine oK (dZ (bM fz) (λk=>F k\/v1.ownBlock=aj k) (fT++[[v1]]) (N.take k++[l])) 2 1 [0] aiz I I I (λk hk=>hk.elim (λh=>by cases h) λh=>h.elim (λh=> .inr (.inr h)) λh=> .inl (.inl h)) (λw hr he=>?_) ?_;exact mj he (Nc lf hr) λk hk=>(a_ 3 1 v1 l.length (l.flatMap cU.eo)).lt w hr k (.inl hk);refine zL ?_
  try refine GA ?_
  exact bW (k+1,EM,fT++[[v1]],λk=>F k\/v1.ownBlock=aj k) (by show k+1<=N.length;omega) (by show N.length-(k+1)<N.length-k;omega) (hl:=by rw[qD,AJ];rfl)
 ·obtain rfl:k=N.length:=by omega
  rw[gK (bm _)];refine If (i:=0) I λbase cap hv _ _=>?_
  try refine GA ?_
  refine vP (Fu (bM (bM fz)) (Wy F vo) [vo] N) 0 1 [] aiz I I I (λk hk=>hk.elim (λh=>by cases h) λh=>h.elim (λh=> .inr (.inr h)) λh=> .inl (.inl h)) (λw hr he=>?_) ?_;exact⟨⟨vo,rfl,xi (s:=bM fz) hr he aiz⟩,xj hr he⟩;exact cJ I I λw hm=>hm.meets (S:=BF fz N) (vo,Wy F vo) ⟨base,cap,hv⟩ [0] aiz I
theorem J5(v:Value)(N:List (List bI.Act))(w:World)(h:jQ (bM uW) (pD w) w v N)(hn:N.length<=1000000)(hl:∀r∈N,r.length<=1000000):
 Calls aB 56 #[v] w (cz (BF uW N) w):=by
 obtain⟨bv,cv,rfl,Ix,Fj,hrv⟩:=h;unfold maxLen at Fj;refine enter (args:=[ap bv N.length cv]) (n:=19) Tryz.func56 I I I ?_
 try refine GA ?_
 refine ja 143 1 (ml (dZ (bM uW) (λ_=>False) [] []) (λk hk=>hk.elim (λh=>by cases h) id) (λw=>je) ?_);refine dY (ι:=Nat×Value×List (List Value)×(Nat->Prop)) (λ(k,_,_,_)=>k<=N.length) (λ(k,vo,_,_)=>[(3,vo),(6,ap bv N.length cv),(7,av az N.length),(8,av az (k:Int))])
  (λ(k,vo,fT,F)=>[a_ 143 1 vo k fT.flatten,dZ (bM uW) F fT (N.take k)]) (λ(k,_,_,_)=>N.length-k) (0,ap ak 0 0,[],λ_=>False) (bH _) ?_
 rintro⟨k,vo,fT,F⟩ i1;dsimp only at i1⊢
 by_cases c:k<N.length
 ·obtain⟨b,off,rfl,_,hr⟩:=hrv J
  obtain⟨cs,⟨vx,rfl,hx⟩,eL⟩:=hr k c;have dz:∀(L:List b_),At w L ⟨b,off+k*1,ak⟩ vx:=λL=>iD (j:=0) eL I;have Ki:=hl _ (cD c);have qD:N.take (k+1)=N.take k++[N[k]]:=iq c;have iz:=λw' (hg:Gr w w')=>B4 vx N[k] w' ((hx.flat aiz).gr hg) J;have lf:=hx.okp;generalize N[k]=l at*;clear hr eL hrv hx
  repeat(first|refine GA ?_|refine gV (aX bL.eq aK.ty I I c) ?_|refine gV (aC (v:=vx) aK.ty I (dz _)) ?_)
  refine aW (iM aI.en I I) (λw hm=>iz _ hm.below) I I I ?_;intro v1 _;refine zL ?_;refine aU (i:=2) I λhu1 hu2=>?_;refine jN (i:=0) I I hu1 hu2 I I (λz h=>by cases h;rfl) J J I λz EM=>?_;refine zL ?_;refine oK (dZ (bM uW) (λk=>F k\/v1.ownBlock=aj k) (fT++[[v1]]) (N.take k++[l])) 2 1 [0] aiz I I I (λk hk=>hk.elim (λh=>by cases h) λh=>h.elim (λh=> .inr (.inr h)) λh=> .inl (.inl h)) (λw hr he=>?_) ?_;exact mj he (EI hr) λk hk=>(a_ 146 2 v1 l.length (l.flatMap iZ)).lt w hr k (.inl hk);refine zL ?_
  try refine GA ?_
  exact bW (k+1,EM,fT++[[v1]],λk=>F k\/v1.ownBlock=aj k) (by show k+1<=N.length;omega) (by show N.length-(k+1)<N.length-k;omega) (hl:=by rw[qD,AJ];rfl)
 ·obtain rfl:k=N.length:=by omega
  rw[gK (bm _)];refine If (i:=0) I λbase cap hv _ _=>?_
  try refine GA ?_
  refine vP (Fu (bM (bM uW)) (Wy F vo) [vo] N) 0 1 [] aiz I I I (λk hk=>hk.elim (λh=>by cases h) λh=>h.elim (λh=> .inr (.inr h)) λh=> .inl (.inl h)) (λw hr he=>?_) ?_;exact⟨⟨vo,rfl,xi (s:=bM uW) hr he aiz⟩,xj hr he⟩;exact cJ I I λw hm=>hm.meets (S:=BF uW N) (vo,Wy F vo) ⟨base,cap,hv⟩ [0] aiz I
end bZ
namespace bZ
open Go.RowKit cU
theorem Qy{P:Program}{t:TypeId}{fields:Array Field}{z:Value}{pl:Array (Nat×Nat)}{parts:Array (Nat×Value)}{c:Array Value}{w:World}(hz:(zeroValue t).run P w= .ok z w)(hu:(underlying t).run P w= .ok (.struct fields) w)
 (hp:(fields.mapM λf=>do pure (f.offset,<-sizeOf f.type):Sem (Array (Nat×Nat))).run P w= .ok pl w) (hf:ju (pl[·]?) z.cells parts.toList=aj c):(df t parts).run P w= .ok (.agg c) w:=by
 simp at hp;simp[df,hz,hu,hp,hf]
theorem Fa(off:Nat):∀(vs:List Value) (k:Nat) (cs:List Value),off+k+vs.length<=cs.length->(vs.zipIdx k).foldl (λcs (c,j)=>cs.setIfInBounds (off+j) c) cs.toArray=(cs.take (off+k)++vs++cs.drop (off+k+vs.length)).toArray
 |[],k,cs,_=>by simp
 |v::vs,k,cs,h=>by
  simp only[c_]at h;rw[List.zipIdx_cons,List.foldl_cons];dsimp only;rw[tw,Fa off vs (k+1) _ (by rw[List.length_set];omega)]
  congr 1
  rw[show off+(k+1)=off+k+1 by omega,List.take_set,List.drop_set_of_lt J,c_,show off+k+(vs.length+1)=off+k+1+vs.length by omega];rw[List.take_add_one,List.set_append_right _ _ (by simp;omega)];have:(off+k)<cs.length:=by omega
  simp[bD this,List.length_take,Nat.min_eq_left (Nat.le_of_lt this)]
theorem UO{place:Nat->Option (Nat×Nat)}{i off m:Nat}{cells a:List Value}{rest:List (Nat×Value)}(h0:place i=aj (off,m))(ha:a.length=m)(hc:off+m<=cells.length):ju place cells.toArray ((i,aQ a.toArray)::rest)=ju place (cells.take off++a++cells.drop (off+m)).toArray rest:=by
 subst ha;have:=Fa off a 0 cells J;rw[jw]at this;rw[ju,h0];show(if _ then ak else _)=_
 rw[if_neg (by simp[sw];omega)]
 congr 1
 rw[<-this,<-Z0];simp[sw]
end bZ
namespace bZ
open Go.RowKit cU dM aT dL e8 gu jo bI l_ cT
theorem Ct.gr{w w':World}{v:Value}{m:Md}{vo vn vt vp vr va vg:Value}(h:Ct w v m vo vn vt vp vr va vg)(hg:Gr w w'):Ct w' v m vo vn vt vp vr va vg:=
 ⟨h.val,h.of.gr hg,h.pk.gr hg,h.AT.gr hg,sm h.rows hg,h.oQ.gr hg⟩
end bZ
namespace bZ
open Go.RowKit cU dM aT dL e8 gu jo bI l_ gv cT
theorem acq(o:Of)(vn vt v:Value):(eP o vn vt).set 256 v=eP o v vt:=by
 unfold eP;rw[AK,if_neg (by simp)];simp
theorem acr(o:Of)(vn vt v:Value):(eP o vn vt).set 257 v=eP o vn v:=by
 unfold eP;rw[AK,if_neg (by simp)];simp
theorem acs{vo:Value}{pk tl:List Value}(j:Nat)(hj:j<pk.length){k:Nat}(v:Value)(hk:k=j+1):(iY vo pk tl).toArray.setIfInBounds k v=(iY vo (pk.set j v) tl).toArray:=by
 subst hk;rw[tw,iY,List.set_cons_succ,AK,if_pos hj];rfl
section
variable{P:Program}{n:Nat}{W:bR}{fr:Fr}{L:List b_}{Q:Exit->Act->World->Prop}{ops:Array Oper}{rest:List Oper}{ty:TypeId}{pos:String}{after:Array Edge}{t:TypeId}{p x:Operand}{i g k:Nat}{vo:Value}{pk tl:List Value}{T:TypeId}{agg:Bool}{v:Value}
theorem Fb(j:Nat){pk':List Value}[hT:aK P t agg 1](hi:L[i]?=aj (aP g (iY vo pk tl).toArray T))(hp:ev fr p=aj (aJ (aj ⟨g,k,ak⟩)))(hx:ev fr x=aj v)(hv:v.cells=#[v])(h1:v.oneCell'=aD)(hk:k=j+1)(dS:pk.length=258)(hj:j<258)(he:pk.set j v=pk')
 (h:TL P n W ops Q rest fr (L.set i (aP g (iY vo pk' tl).toArray T))):TL P n W ops Q (⟨ak,.store t p x,ty,pos,after,ak⟩::rest) fr L:=by
 subst he;refine bU hi hp hx hv h1 ?_ ?_
 ·rw[List.size_toArray,iY,c_,bK]
  exact Nat.ble_eq_true_of_le J
 ·rw[acs j J v hk];exact h
end
theorem Nd(a:Option Addr)(m c:Nat)(b:Option Addr)(n d:Nat)(w:World):(df 37 #[(0,ap a m c),(1,ap b n d)]).run aB w= .ok (aQ #[ap a m c,ap b n d]) w:=by kernel_rfl
structure Z5(m:Md):Prop where
 n1:m.N.length<=1000000
 n2:∀r∈m.N,r.length<=1000000
 t1:m.tags.length<=1000000
 r1:m.rows.length<=1000000
 r2:∀r∈m.rows,r.length<=1000000
 a1:m.A.length<=1000000
 a2:∀r∈m.A,r.length<=1000000
 g1:m.G.length<=1000000
 g2:∀r∈m.G,r.length<=1000000
structure CpX where
 vo:Value
 vn:Value×(Nat->Prop)
 vt:Value
 vp:Value×(Nat->Prop)
 vr:Value×(Nat->Prop)
 va:Value×(Nat->Prop)
 vg:Value×(Nat->Prop)
def CpX.L(x:CpX)(m:Md):List b_:=[a_ 3 1 x.vo m.of.length (m.of.flatMap cU.eo),Fu (bM (bM fz)) x.vn.2 [x.vn.1] m.N,a_ 3 1 x.vt m.tags.length (m.tags.flatMap cU.eo),nR x.vp.2 x.vp.1 m.g.aF,Fu (bM (bM fz)) x.vr.2 [x.vr.1] m.rows,Fu (bM (bM uW)) x.va.2 [x.va.1] m.A,Fu (bM (bM fz)) x.vg.2 [x.vg.1] m.G]
def CpX.mk'(x:CpX)(Ls:List b_):MkX:=⟨x.vo,x.vn.1,x.vt,x.vp.1,x.vr.1,x.va.1,x.vg.1,Ls⟩
def cpS(m:Md):Spec CpX:=⟨λx=>((x.mk' []).cells m).toArray.toList.all eQ=aD,λx=>aQ ((x.mk' []).cells m).toArray,λx=>x.L m⟩
theorem J6{α:Type}{s:vO α}{F:Nat->Prop}{v:Value}{N:List (List α)}{w:World}(h:(Fu (bM (bM s)) F [v] N).holds w):jQ (bM s) (pD w) w v N:=by
 obtain⟨⟨v',hv,h1⟩,h2⟩:=h
 cases hv
 exact h1.mono h2
theorem aeW{m:Md}{x:CpX}{B:bR}{w:World}(hm:Mem B (x.L m) w)(ht:cU.dX m.g.aR)(hn:cU.dX m.g.bC):Ct w (aQ ((x.mk' []).cells m).toArray) m x.vo x.vn.1 x.vt x.vp.1 x.vr.1 x.va.1 x.vg.1 where
 val:=rfl
 of:=Sl.dy (hm.get (i:=0) I)
 pk:=⟨J6 (hm.get (i:=1) I),Sl.dy (hm.get (i:=2) I)⟩
 AT:=⟨x.vp.1,rfl,(by
  obtain⟨⟨v',hv,h1⟩,h2⟩:=(hm.get (i:=3) rfl:(nR x.vp.2 x.vp.1 m.g.aF).holds w)
  cases hv
  exact h1.mono h2),ht,hn⟩
 rows:=J6 (hm.get (i:=4) I)
 oQ:=⟨x.va.1,x.vg.1,rfl,J6 (hm.get (i:=5) I),J6 (hm.get (i:=6) I)⟩
theorem Sx{o:Of}{vn vt:Value}(h1:vn.oneCell'=aD)(h2:vt.oneCell'=aD):(eP o vn vt).all eQ=true:=by
 unfold eP;rw[List.all_append,List.all_eq_true.2 (λx hx=>by obtain⟨n,_,rfl⟩:=List.mem_map.1 hx;rfl)];simp[h1,h2]
theorem acu{α:Type}{s:vO α}{w:World}{v:Value}{N:List (List α)}(h:jQ (bM s) (pD w) w v N):v.oneCell'=true:=by
 obtain⟨b,c,rfl,_⟩:=h;rfl
attribute [local irreducible] Instr.build in
set_option maxRecDepth 100000 in
theorem J7(x:Value)(m:Md){vo vn vt vp vr va vg:Value}(w:World)(h:Ct w x m vo vn vt vp vr va vg)(hs:Z5 m)(hg:aT.bX m.g=0)(h20:m.of.length<=20):
 Calls aB 26 #[x] w (cz (cpS m) w):=by
 have dS:(eP m.o vn vt).length=258:=fH _ _ _;have hpn:(eP m.o vn vt)[256]?=aj vn:=by have:=lB m.o vn vt;simpa using this
 have hpt:(eP m.o vn vt)[257]?=aj vt:=by have:=nr m.o vn vt;simpa using this
 have hcO:=λw' (hw:Gr w w')=>jS vo m.of w' (h.of.gr hw) J;have hcN:=λw' (hw:Gr w w')=>sL vn m.N w' (sm h.pk.hN hw) hs.n1 hs.n2;have hcT:=λw' (hw:Gr w w')=>jS vt m.tags w' (h.pk.hT.gr hw) (by have:=hs.t1;omega);have hcR:=λw' (hw:Gr w w')=>sL vr m.rows w' (sm h.rows hw) hs.r1 hs.r2;obtain⟨va',vg',hag,hA,hG⟩:=h.oQ
 cases hag
 have hcA:=λw' (hw:Gr w w')=>J5 va m.A w' (jQ.gr hA hw) hs.a1 hs.a2;have hcG:=λw' (hw:Gr w w')=>sL vg m.G w' (sm hG hw) hs.g1 hs.g2;obtain⟨_,_,_,_,hlen,hps⟩:=cP hg;have BZ:((iY vo (eP m.o vn vt) (fR m.g.aR m.g.bC vp m.mode vr va vg)).toArray.toList.all eQ=aD):=by
  refine uT ?_ (Sx (acu h.pk.hN) ?_) ?_;obtain⟨b,c,e,_⟩:=h.of;rw[e];rfl;obtain⟨b,c,e,_⟩:=h.pk.hT;rw[e];rfl;obtain⟨ZZ,e,⟨b,c,e',_⟩,_⟩:=h.AT;have e2:vp=ZZ:=by simp only[dE,lL]at e;have:=congrArg (λz:Array Value=>z[2]?) e;simpa using this
  rw[e2,e'];obtain⟨b1,c1,e1,_⟩:=h.rows;obtain⟨b2,c2,e2,_⟩:=hA;obtain⟨b3,c3,e3,_⟩:=hG;rw[e1,e2,e3];rfl
 obtain⟨ZZ,P6,hP,_⟩:=h.AT;obtain rfl:vp=ZZ:=by simp only[dE,lL]at P6;have:=congrArg (λz:Array Value=>z[2]?) P6;simpa using this
 clear P6;obtain⟨bp,cp,rfl,Ix,Fj,nZ⟩:=hP;unfold maxLen at Fj;obtain rfl:=h.val;clear h hA hG;obtain⟨of,o,N,tags,g,mode,rows,A,G⟩:=m;obtain⟨gt,gn,aF⟩:=g;dsimp only at*;have hsz:∀(vo:Value) (o:Of) (vn vt a b c d e f q:Value),(iY vo (eP o vn vt) [a,b,c,d,e,f,q]).toArray.size=266:=λ_ _ _ _ _ _ _ _ _ _ _=>kp (fH _ _ _) I;have J8:∀(vn vt:Value),(eP o vn vt).length=258:=λ_ _=>fH _ _ _;refine enter (args:=[aQ (iY vo (eP o vn vt) (fR gt gn (ap bp aF.length cp) mode vr va vg)).toArray]) (n:=62) Tryz.func26 I I I ?_;refine b9 (bz (bQ I I I λg1=>aY I λg2=>?_));refine zL ?_
 repeat(first|refine GA ?_|refine gV (aO (i:=0) aK.ty I I (hsz _ _ _ _ _ _ _ _ _ _ _)) ?_)
 refine aY I λg3=>?_;rw[sA];refine zL ?_;refine aV (i:=2) (cs':=(iY vo (eP o vn vt) (fR gt gn (ap bp aF.length cp) mode vr va vg)).toArray) I I I (hsz _ _ _ _ _ _ _ _ _ _ _) BZ (kp iQ I) ?_;refine zL ?_
 repeat(first|refine GA ?_|refine gV (aC (v:=vo) aK.ty I (aH (i:=0) I I)) ?_)
 refine aW (iM aI.en I I) (λw hm=>hcO _ hm.below) I I I ?_;intro EM _;refine zL ?_
 try refine GA ?_
 refine aU (i:=3) I λu1 u2=>xY (i:=2) I I I u1 u2 I ?_;refine zL ?_
 try refine GA ?_
 refine dK ([aP g1 (iY vo (eP o vn vt) (fR gt gn (ap bp aF.length cp) mode vr va vg)).toArray 39]) (.calm 0 (.calm 1 (.calm 2 (.calm 4 (.calm 5 (.calm 6 (.one 3 (.calm 8 (.calm 9 (.one 7 (.one 10 (.calm 11 (.calm 12 (.one 13 (.done))))))))))))))) (bV [0]) ?_
 repeat(first|refine GW ?_|(refine GN ?_;first|refine QW (aC (v:=vn) aK.ty I (aH (i:=0) I (Hs dS hpn))) ?_|refine QW (aC (v:=vt) aK.ty I (aH (i:=0) I (Hs dS hpt))) ?_))
 refine aL I ?_;refine aW (iM aI.en I I) (λw hm=>hcN _ hm.below) I I I ?_;rintro⟨vn',Fn⟩ ⟨an,cn,un⟩;dsimp only at un;subst un
 conv=>arg 8;simp only[zJ,cL,ret,id_eq,BF]
 refine aM (bV [0]) ?_
 try refine GW ?_
 refine aL I ?_;refine aW (iM aI.en I I) (λw hm=>hcT _ hm.below) I I I ?_;intro og _;refine zL ?_;refine aM (bV [0]) ?_
 try refine GW ?_
 refine aL I (Fb (i:=2) 256 I I I I I I (J8 _ _) aiz (acq _ _ _ _) ?_);refine zL ?_;refine aM (bV [0]) ?_
 try refine GW ?_
 refine aL I (aU (i:=5) I λu3 u4=>Fb (i:=2) 257 I I I u3 u4 I (J8 _ _) aiz (acr _ _ _ _) ?_);refine zL ?_;refine aM (bV [0]) ?_
 try refine GW ?_
 try refine GA ?_
 refine dW (i:=2) 2 I I I I I I (J8 _ _) I ?_;refine zL ?_
 repeat(first|refine GA ?_|refine gV (aC (v:=ap bp aF.length cp) aK.ty I (aH (i:=0) I (jc 2 dS I I))) ?_)
 refine ja 132 2 (ml (dZ nY (λ_=>False) [] []) (λk hk=>hk.elim (λh=>by cases h) id) (λw=>je) ?_);refine dY (ι:=Nat×Value×List (List Value)×(Nat->Prop)) (λ(k,vq,_,_)=>k<=aF.length/\vq.cells=#[vq]/\vq.oneCell'=aD) (λ(k,vq,_,_)=>[(1,aJ (aj ⟨g1,0,ak⟩)),(2,aJ (aj ⟨g2,0,ak⟩)),(3,aJ (aj ⟨g3,0,ak⟩)),(27,ap bp aF.length cp),(28,av az aF.length),(29,av az (k:Int))])
  (λ(k,vq,fT,F)=>[aP g1 (iY vo (eP o vn vt) (fR gt gn (ap bp aF.length cp) mode vr va vg)).toArray 39,aP g2 Fo.toArray 39,aP g3 (iY EM (eP o (ap an N.length cn) og) (fR gt gn vq mode vr va vg)).toArray 39,a_ 3 1 EM of.length (of.flatMap cU.eo),Fu (bM (bM fz)) Fn [ap an N.length cn] N,a_ 3 1 og tags.length (tags.flatMap cU.eo),a_ 132 2 vq k fT.flatten,dZ nY F fT (aF.take k)]) (λ(k,_,_,_)=>aF.length-k) (0,ap ak 0 0,[],λ_=>False) ⟨bH _,rfl,rfl⟩ ?_
 rintro⟨k,vq,fT,F⟩ ⟨i1,i2,i3⟩;dsimp only at i1 i2 i3⊢
 by_cases c6:k<aF.length
 ·obtain⟨b,off,rfl,_,hr⟩:=nZ J
  obtain⟨bb,cb,q1,q2,q3⟩:=lx hr c6;have dz:∀(L:List b_) (j:Nat) (v:Value),([av az aF[k].1,.slice bb aF[k].2.length cb]:List Value)[j]?=aj v->At w L ⟨b,off+k*2+j,ak⟩ v:=λL j v hj=>iD q1 hj;have Oh:=(hps aF[k] (cD c6)).1;have qD:aF.take (k+1)=aF.take k++[aF[k]]:=iq c6;clear hr nZ q1 hps;generalize aF[k]=p at*;obtain⟨hd,body⟩:=p;have ahK:=q3.okp;have iz:=λw' (hg:Gr w w')=>BR (ap bb body.length cb) body w' ((q3.flat aiz).gr hg) (by dsimp only at Oh;omega);dsimp only at*
  repeat(first|refine GA ?_|refine gV (aX bL.eq aK.ty I I c6) ?_|refine gV (a8 aK.ty I I (dz _)) ?_)
  clear dz;refine aY I λg5=>?_;refine gh 8 ?_;refine zL ?_
  try refine GA ?_
  refine dK ([aP g5 #[av az hd,ap bb body.length cb] 132]) (.calm 0 (.calm 1 (.calm 3 (.calm 4 (.calm 5 (.calm 6 (.two 2 (.one 7 (.calm 8 (.one 9 (.one 10 (.calm 11 (.calm 12 (.one 13 (.done)))))))) 7 (.calm 8 (.two 2 (.one 9 (.one 10 (.calm 11 (.calm 12 (.one 13 (.done)))))) 9 (.one 2 (.one 10 (.calm 11 (.calm 12 (.one 13 (.done))))))))))))))) (bV [8]) ?_
  repeat(first|refine GW ?_|(refine GN ?_;first|refine QW (aC aK.ty I (aH (i:=0) I I)) ?_))
  refine ez I I ?wa ?wb
  case' wa=>
   refine du (aC (v:=vq) aK.ty I (aH (i:=2) I (jc 2 (J8 _ _) I I))) I I I (aM (bV [8]) ?_);refine aL I ?_
  all_goals
   refine aW (iM aI.en I I) (λw hm=>iz _ hm.below) I I I ?_;intro vb _;refine zL ?_;refine lu (i:=9) I λb2 c2 zx e1 e2=>?_;subst zx;refine aM (bV [8]) ?_
   repeat(first|refine GW ?_|(refine GN ?_;first|refine QW (bB I (Ot _ _ _ _)) ?_))
  case' wa=>refine aL I (fy (cs:=#[av az hd,ap b2 body.length c2]) I I I I I λg9=>aM (bV [8]) ?_)
  case' wb=>refine ez I I ?wc ?wd
  case' wc=>
   refine du (aC (v:=vq) aK.ty I (aH (i:=2) I (jc 2 (J8 _ _) I I))) I I I (aM (bV [8]) ?_);refine aL I (fy (cs:=#[av az hd,ap b2 body.length c2]) I I I I I λg9=>aM (bV [8]) ?_)
  case' wd=>
   refine fy (cs:=#[av az hd,ap b2 body.length c2]) I I I I I λg9=>aM (bV [8]) ?_;refine aL I (du (aC (v:=vq) aK.ty I (aH (i:=2) I (jc 2 (J8 _ _) I I))) I I I (aM (bV [8]) ?_))
  all_goals
   refine aL I (mh (i:=6) (q:=10) I I I I I I J J I λvq2=>aM (bV [8]) ?_)
   try refine GW ?_
   refine aL I (aU (i:=6) I λoo mi=>dW (i:=2) 2 I I I oo mi I (J8 _ _) I (aM (bV [8]) ?_))
   try refine GW ?_
   refine vP (dZ nY (λk=>F k\/(ap b2 body.length c2).ownBlock=aj k) (fT++[[av az hd,ap b2 body.length c2]]) (aF.take k++[(hd,body)])) 9 7 [0,1,2,3,4,5,6] aiz I I I (λk hk=>hk.elim (λh=>by cases h) λh=>h.elim (λh=> .inr (.inr h)) λh=> .inl (.inl h)) (λw hr he=>?_) ?_
   ·exact mj he (A9 q2 ahK hr) λk hk=>(a_ 156 2 (ap b2 body.length c2) body.length (body.flatMap ep)).lt w hr k (.inl hk)
   try refine GA ?_
   exact bW (k+1,vq2,fT++[[av az hd,ap b2 body.length c2]],λk=>F k\/(ap b2 body.length c2).ownBlock=aj k) ⟨by omega,oo,mi⟩ (by show aF.length-(k+1)<aF.length-k;omega) (hl:=by rw[qD,AJ];rfl)
 ·obtain rfl:k=aF.length:=by omega
  rw[gK (bm _)]
  repeat(first|refine GA ?_|refine gV (aC (v:=vr) aK.ty I (aH (i:=0) I (jc 4 dS I I))) ?_)
  refine aW (iM aI.en I I) (λw hm=>hcR _ hm.below) I I I ?_;rintro⟨BO,Fr'⟩ ⟨ar,cr,ur⟩;dsimp only at ur;subst ur
  conv=>arg 8;simp only[zJ,cL,ret,id_eq,BF]
  try refine GA ?_
  refine dW (i:=2) 4 I I I I I I (J8 _ _) I ?_;refine zL ?_
  try refine GA ?_
  refine dK ([aP g1 (iY vo (eP o vn vt) (fR gt gn (ap bp aF.length cp) mode vr va vg)).toArray 39]) (.calm 0 (.calm 1 (.calm 2 (.calm 4 (.calm 5 (.calm 6 (.one 3 (.one 7 (.calm 8 (.calm 9 (.one 10 (.done)))))))))))) (bV [0]) ?_
  repeat(first|refine GW ?_|(refine GN ?_;first|refine QW (aC (v:=va) aK.ty I (aH (i:=0) I (jc 5 dS I I))) ?_|refine QW (aC (v:=vg) aK.ty I (aH (i:=0) I (jc 6 dS I I))) ?_))
  refine aL I ?_;refine aW (iM aI.en I I) (λw hm=>hcA _ hm.below) I I I ?_;rintro⟨va',Fa'⟩ ⟨aa,ca,ua⟩;dsimp only at ua;subst ua
  conv=>arg 8;simp only[zJ,cL,ret,id_eq,BF]
  refine aM (bV [0]) ?_
  try refine GW ?_
  refine aL I ?_;refine aW (iM aI.en I I) (λw hm=>hcG _ hm.below) I I I ?_;rintro⟨vg',Fg'⟩ ⟨ag,cg,ug⟩;dsimp only at ug;subst ug
  conv=>arg 8;simp only[zJ,cL,ret,id_eq,BF]
  refine aM (bV [0]) ?_
  repeat(first|refine GW ?_|(refine GN ?_;first|refine QW (bB I (Nd _ _ _ _ _ _)) ?_))
  refine aL I (iv (i:=2) 5 (cs:=[ap aa A.length ca,ap ag G.length cg]) (tl':=fR gt gn vq mode (ap ar rows.length cr) (ap aa A.length ca) (ap ag G.length cg)) I I I I I I (J8 _ _) I I ?_);refine zL ?_;refine aM (bV [0]) ?_
  try refine GW ?_
  repeat(first|refine GA ?_|refine gV (aO (i:=2) aK.ty I I (hsz _ _ _ _ _ _ _ _ _ _ _)) ?_)
  refine aU (i:=3) I λ_ w1=>aU (i:=5) I λ_ w2=>?_;have pF:(iY EM (eP o (ap an N.length cn) og) (fR gt gn vq mode (ap ar rows.length cr) (ap aa A.length ca) (ap ag G.length cg))).toArray.toList.all eQ=true:=uT w1 (Sx I w2) (by simp only[fR,List.all_cons,List.all_nil,i3];rfl);refine aV (i:=1) (cs':=(iY EM (eP o (ap an N.length cn) og) (fR gt gn vq mode (ap ar rows.length cr) (ap aa A.length ca) (ap ag G.length cg))).toArray) I I I (hsz _ _ _ _ _ _ _ _ _ _ _) pF (kp iQ I) ?_;refine zL ?_;refine oK (nR (Wy F vq) vq aF) 6 7 [1,3,4,5,8,9,10] aiz I I I (λk hk=>hk.elim (λh=>by cases h) λh=>h.elim (λh=> .inr (.inr h)) λh=> .inl (.inl h)) (λw hr he=>?_) ?_;exact⟨⟨vq,rfl,xi (s:=nY) hr he aiz⟩,xj hr he⟩
  try refine GA ?_
  exact fF (i:=0) I I I (hsz _ _ _ _ _ _ _ _ _ _ _) λw hm=>hm.meets (S:=cpS ⟨of,o,N,tags,⟨gt,gn,aF⟩,mode,rows,A,G⟩) ⟨EM,(_,Fn),og,(vq,Wy F vq),(_,Fr'),(_,Fa'),(_,Fg')⟩ pF [1,2,3,7,4,5,6] aiz I
end bZ
namespace bZ
open Go.RowKit cU dM aT dL e8 gu jo bI l_ gv cT
theorem CC{place:Nat->Option (Nat×Nat)}{i m:Nat}{C T T' a:List Value}{v:Value}{rest:List (Nat×Value)}(j:Nat)(hC:C.length=266)(h0:place i=aj (266+j,m))(hv:v.cells=a.toArray)(ha:a.length=m)(hc:Nat.ble (j+m) T.length=aD)(he:T.take j++a++T.drop (j+m)=T'):ju place (C++T).toArray ((i,v)::rest)=ju place (C++T').toArray rest:=by
 subst ha he;have hc:=me hc;have:=Fa (266+j) a 0 (C++T) (by rw[bK];omega);rw[jw]at this;rw[ju,h0];show(if _ then ak else _)=_
 rw[if_neg (by simp[hv];omega)]
 congr 1
 rw[show 266+j=C.length+j by omega,List.take_length_add_append,show C.length+j+a.length=C.length+(j+a.length)by omega,List.drop_length_add_append]at this;rw[<-eY,<-eY,<-this,<-Z0];simp[hv,hC]
def Z6:List Value:=([ap ak 0 0]:List Value)++List.replicate 256 (av .u8 0)++([ap ak 0 0,ap ak 0 0,av az 0,av az 0,ap ak 0 0,av az 0,ap ak 0 0,ap ak 0 0,ap ak 0 0]:List Value)
def agH:List Value:=rA (vh 0 0) (ap ak 0 0) [ap ak 0 0,av az 0,av az 0,.bool aE,ap ak 0 0,av az 0,av az 0,.bool aE] (ap ak 0 0)
theorem Z7:Z6.length=266:=by
 unfold Z6;rw[bK,bK,List.length_replicate];rfl
set_option maxRecDepth 100000 in
theorem UP{vo vc vs:Value}{pk tl:List Value}(x y:Int)(dS:pk.length=258)(htl:tl.length=7)(w:World):(df 102 #[(0,aQ (iY vo pk tl).toArray),(1,av az x),(2,av az y),(10,sO vc 0 0 aE),(11,u_ vs 0 0 aE)]).run aB w= .ok (aQ (iY vo pk (tl++rA (vh x y) (ap ak 0 0) [vc,av az 0,av az 0,.bool aE,vs,av az 0,av az 0,.bool aE] (ap ak 0 0))).toArray) w:=by
 have hz:(zeroValue 102).run aB w= .ok (aQ (Z6++agH).toArray) w:=by kernel_rfl
 have hu:∃fields,(underlying 102).run aB w= .ok (.struct fields) w/\(fields.mapM λf=>do pure (f.offset,<-sizeOf f.type):Sem (Array (Nat×Nat))).run aB w= .ok #[(0,266),(266,1),(267,1),(268,1),(269,1),(270,1),(271,1),(272,3),(275,1),(276,1),(277,4),(281,4),(285,3),(288,1),(289,1),(290,1)] w:=⟨_,rfl,by kernel_rfl⟩;obtain⟨fields,hu,hp⟩:=hu;have hl:(iY vo pk tl).length=266:=by rw[iY,c_,bK];omega
 refine Qy hz hu hp ?_;show ju _ (Z6++agH).toArray [(0,aQ (iY vo pk tl).toArray),(1,av az x),(2,av az y),(10,sO vc 0 0 aE),(11,u_ vs 0 0 aE)]=_
 have hz:=Z7;generalize Z6=Z at*;rw[UO (m:=266) I hl (by rw[bK];omega),nM,eJ,cV,List.drop_append,List.drop_of_length_le (Nat.le_of_eq hz),hz,Nat.sub_self,nh,eJ];rw[CC (m:=1) (a:=[av az x]) 0 hl I I I I I,CC (m:=1) (a:=[av az y]) 1 hl I I I I I,CC (m:=4) (a:=[vc,av az 0,av az 0,.bool aE]) 11 hl I I I I I,CC (m:=4) (a:=[vs,av az 0,av az 0,.bool aE]) 15 hl I I I I I];rw[ju];simp[iY];rfl
structure acv where
 g:Nat
 y:MkX
 up:Value
 uq:Value
abbrev acv.L(z:acv)(b:Bool)(m:Md)(s:fJ)(ut up uw:Value):List b_:=gv b z.g z.y.vo (eP m.o z.y.vn z.y.vt) (fR m.g.aR m.g.bC z.y.vp m.mode z.y.vr z.y.va z.y.vg) s ut up z.uq uw
def UQ(b:Bool)(m:Md)(x y:Int):Spec acv:=⟨λz=>acj m z.y,λz=> .tuple #[aJ (aj ⟨z.g,0,ak⟩),av az 0],λz=>z.L b m (vh x y) (ap ak 0 0) z.up (ap ak 0 0)++[AZ z.y.Ls]⟩
def aeX(b:Bool)(m:Md)(x y:Int):Spec (Nat×CpX×Value×Value):=⟨λz=>((z.2.1.mk' []).cells m).toArray.toList.all eQ=aD,λz=> .tuple #[aJ (aj ⟨z.1,0,ak⟩),av az 0],λz=>(⟨z.1,z.2.1.mk' [],z.2.2.1,z.2.2.2⟩:acv).L b m (vh x y) (ap ak 0 0) z.2.2.1 (ap ak 0 0)++z.2.1.L m⟩
attribute [local irreducible] Instr.build in
set_option maxRecDepth 100000 in
theorem acw(v:Value)(m:Md)(b:Bool)(T N:Nat){vo vn vt vp vr va vg:Value}(x y:Int)(hx0:0<=x)(j_:x<=4096)(hy0:0<=y)(hy1:y<=1000)(w:World)(h:Ct w v m vo vn vt vp vr va vg)(hk:jq m b T N)(hs:Z5 m):
 Calls aB 7 #[v,av az x,av az y] w (cz (aeX b m x y) w):=by
 have dS:(eP m.o vn vt).length=258:=fH _ _ _;have hrt:=λw' (hw:Gr w w')=>JF v m w' (h.gr hw) hk.toMdGood;have Ix:=λw' (hw:Gr w w')=>J7 v m w' (h.gr hw) hs hk.AT hk.qz;have hbs:=λ(vo vn vt vp vr va vg vc vs:Value)=>UP (vo:=vo) (pk:=eP m.o vn vt) (tl:=fR m.g.aR m.g.bC vp m.mode vr va vg) (vc:=vc) (vs:=vs) x y (fH _ _ _) I;obtain rfl:=h.val;clear h hk hs;refine enter (args:=[aQ (iY vo (eP m.o vn vt) (fR m.g.aR m.g.bC vp m.mode vr va vg)).toArray,av az x,av az y]) (n:=36) Tryz.func7 I I I ?_;refine b9 (bz (bQ I I I λg1=>?_));refine zL ?_
 repeat(first|refine GA ?_|refine gV (aO (i:=0) aK.ty I I (kp dS I)) ?_)
 refine aW (iM aI.en I I) (λw hm=>hrt _ hm.below) I I I ?_;intro _ _;refine zL ?_
 repeat(first|refine GA ?_|refine gV (aO (i:=0) aK.ty I I (kp dS I)) ?_)
 refine aW (iM aI.en I I) (λw hm=>Ix _ hm.below) I I I ?_;intro c hc
 conv=>arg 8;simp only[zJ,cL,ret,id_eq,cpS,CpX.L]
 conv=>arg 7;simp only[cpS,CpX.mk',MkX.cells]
 try refine GA ?_
 refine aW (he0 aI.en I) (λw hm=>AW w) I I I ?_;intro vc _
 conv=>arg 8;simp only[zJ,cL,ret,id_eq,Cu]
 conv=>arg 7;simp only[Cu]
 try refine GA ?_
 refine aW (he0 aI.en I) (λw hm=>F0 w) I I I ?_;intro vs _
 conv=>arg 8;simp only[zJ,cL,ret,id_eq,Cx]
 conv=>arg 7;simp only[Cx]
 repeat(first|refine GA ?_|refine gV (bB I (hbs _ _ _ _ _ _ _ _ _)) ?_)
 refine bQ I I I λg2=>?_;refine zL ?_
 try refine GA ?_
 refine pR (toP (ap ak 0 0) []) (λk hk=>hk.elim (λh=>by cases h) id) (λw=>⟨rfl,.inl ⟨rfl,rfl⟩⟩) ?_;refine dF 168 2 ?_
 cases b with
 |true=>exact rS I I I λw hm=>hm.meets (S:=aeX aD m x y) (g2,c,vc,vs) hc [10,11,8,12,1,2,3,4,5,6,7] aiz I
 |false=>exact rS I I I λw hm=>hm.meets (S:=aeX aE m x y) (g2,c,vs,vc) hc [10,11,9,12,1,2,3,4,5,6,7] aiz I
theorem HO(v:Value)(m:Md)(b:Bool)(T N:Nat){vo vn vt vp vr va vg:Value}(x y:Int)(hx0:0<=x)(j_:x<=4096)(hy0:0<=y)(hy1:y<=1000)(w:World)(h:Ct w v m vo vn vt vp vr va vg)(hk:jq m b T N)(hs:Z5 m):
  Calls aB 7 #[v,av az x,av az y] w (cz (UQ b m x y) w):=
 (acw v m b T N x y hx0 j_ hy0 hy1 w h hk hs).mono λe w' hm=>hm.to (UQ b m x y) λz hz=>by
  obtain⟨g,c,up,uq⟩:=z;obtain⟨b1,b2,b3,b4,b5,_⟩:=cP hk.AT;exact⟨⟨g,c.mk' (c.L m),up,uq⟩,⟨λw hb=>aeW (JV hb) ⟨by omega,by omega⟩ ⟨by omega,by omega⟩,hz⟩,rfl,λw' ho=>eA.Qs ho⟩
theorem Fc{s:Sp}{r:Int×List Row×List Int}(hx:RZ s r)(h:(BY s r.1).1=0):Z5 (vm s r):=by
 obtain⟨b,T,N,hf⟩:=E8 hx h;have ok:=AS hf.l7;obtain⟨b1,b2,b3,b4,b5,_⟩:=cP hf.AT;have hN:∀r'∈(vm s r).N,r'.length<=1000000:=λr' hr=>by
  obtain⟨i,hi,rfl⟩:=g_.1 hr;have:=ok.row i hi;have:=ok.w1;omega
 have hm:((vm s r).mode=1/\(vm s r).A=[]/\(vm s r).G=[])\/((vm s r).mode=2/\(vm s r).rows=[]):=by
  unfold vm;split;exact .inl ⟨rfl,rfl,rfl⟩;exact .inr ⟨rfl,rfl⟩
 have pE:=hf.md;have htl:(vm s r).tags.length<=1000000:=by have:=ok.len;have:=ok.le;omega
 cases b with
 | true=>
  rcases hm with⟨_,h1,h2⟩|⟨h1,_⟩
  ·obtain⟨_,ht⟩:=hf.ll rfl
   have e1:=ht.aR;have e2:=ht.bC;refine⟨by have:=ok.le;omega,hN,htl,by rw[ht.len];omega,λr hr=>by rw[ht.row r hr];omega,by rw[h1];simp,by rw[h1];simp,by rw[h2];simp,by rw[h2];simp⟩
  rw[h1]at pE;exact absurd pE aiz
 | false=>
  rcases hm with⟨h1,_⟩|⟨_,h1⟩
  rw[h1]at pE;exact absurd pE aiz;have ht:=hf.lr I;have e1:=ht.aR;have e2:=ht.bC;have e3:=ht.Cg;have e4:=ht.same;refine⟨by have:=ok.le;omega,hN,htl,by rw[h1];simp,by rw[h1];simp,by omega,λr hr=>?_,by omega,λr hr=>?_⟩
  ·obtain⟨i,hi,rfl⟩:=g_.1 hr
   rw[ht.wA i hi];omega
  obtain⟨i,hi,rfl⟩:=g_.1 hr;rw[ht.wG i hi];omega
end bZ
namespace bZ
open Go.RowKit cU dM aT dL e8 gu jo bI l_ gv cT
open ij (Ev rv takeN)
theorem BG{P:Program}{f:FuncId}{args:Array Value}{w:World}{ι κ:Type}{S:Spec ι}{S':Spec κ}{W:bR}{L Lx R:List b_}(hm:Mem W L w)(is js:List Nat)(hn2:(is++js).Nodup)(hlx:Lx=is.filterMap λi=>L[i]?)(NW:R=js.filterMap λi=>L[i]?)(hc:∀B,Mem B Lx w->Calls P f args w (dc S B))
 (hS:∀x,S.ok x->∃y,S'.ok y/\S'.val y=S.val x/\∃qs:List Nat,qs.Nodup/\S'.own y=qs.filterMap λi=>(R++S.own x)[i]?):Calls P f args w (dc S' W):=by
 have VZ:Mem W (Lx++R) w:=hm.pick (is++js) hn2 (xd hlx NW);have hm3:Mem W Lx w:=hm.pick is (List.nodup_append.1 hn2).1 hlx;refine(hc _ hm3.over).mono λe w' ⟨x,h1,h2,h3⟩=>?_;obtain⟨y,k1,k2,qs,k3,k4⟩:=hS x h1;exact⟨y,k1,by rw[h2,k2],(VZ.back h3).pick qs k3 k4⟩
theorem Nf{W:bR}{L Lx Ls:List b_}{w:World}{φ:World->Prop}(hm:Mem W L w)(is:List Nat)(i:Nat)(hn:(is++[i]).Nodup)(hlx:Lx=is.filterMap λi=>L[i]?)(hi:L[i]?=aj (AZ Ls))(hφ:∀w,(AZ Ls).holds w->φ w):nJ (bR.on w Lx) φ:=λL' w' h'=>
 hφ w' (((hm.pick (L':=Lx++[AZ Ls]) (is++[i]) hn (xd hlx (by simp[hi]))).back h').get (i:=0) I)
structure Ng(s' s:fJ):Prop where
 ed:s'.ed=s.ed
 p:s'.p=s.p
 par:∀b vp vq,iR b s' vp vq=iR b s vp vq
theorem Ng.self(s:fJ):Ng s s:=⟨rfl,rfl,λ_ _ _=>rfl⟩
theorem Nh(s:fJ)(e:Int)(pl:Nat):Ng (v_ s e pl) s:=⟨rfl,rfl,λ_ _ _=>rfl⟩
theorem UR(s:fJ)(x:List UInt8):Ng (l5 s x).1 s:=by
 unfold l5;split;exact .self s;split;exact .self s;split;exact Nh _ _ _;exact⟨rfl,rfl,λ_ _ _=>rfl⟩
theorem Qz(s:fJ):Ng (ni s).1 s:=by
 unfold ni;split;exact .self s;exact⟨rfl,rfl,λ_ _ _=>rfl⟩
theorem QB(s:fJ)(n:Int):Ng (lU s n).1 s:=by
 unfold lU;split;exact .self s;split;exact .self s;exact⟨rfl,rfl,λ_ _ _=>rfl⟩
theorem US(s:fJ)(n:Int):Ng (iE s n).1 s:=by
 unfold iE;split;exact .self s;exact⟨rfl,rfl,λ_ _ _=>rfl⟩
section
variable{b:Bool}{g:Nat}{vo:Value}{pk md:List Value}{ut up uq uw:Value}{m:Md}(dS:pk.length=258)(pE:md.length=7)
include dS pE
def Fe(b:Bool)(g:Nat)(vo:Value)(pk md:List Value)(s':fJ)(v:Value)(ut up uq:Value):Spec Value:=⟨λ_=>True,λ_=>v,λvw=>gv b g vo pk md s' ut up uq vw⟩
omit dS pE in
theorem QC{f:FuncId}{args:Array Value}{w:World}{B:bR}{s s':fJ}{v:Value}(hm:Mem B (gv b g vo pk md s ut up uq uw) w)(hk:Ng s' s)(hc:∀B,Mem B (yf g vo pk md s ut (iR b s up uq) uw) w->Calls aB f args w (dc ⟨λ(_:Value)=>True,λ_=>v,λvw=>yf g vo pk md s' ut (iR b s up uq) vw⟩ B)):Calls aB f args w (dc (Fe b g vo pk md s' v ut up uq) B):=by
 refine BG hm [0,3] [1,2] aiz I I hc λx _=>⟨x,trivial,rfl,[2,0,1,3],by decide,?_⟩;simp only[Fe,gv,hk.par,hk.ed,hk.p];rfl
theorem wN(s:fJ)(hs:fC m b s)(x:List UInt8)(hx:x.length<=9223372036854775807)(w:World)(B:bR)(hm:Mem B (gv b g vo pk md s ut up uq uw) w):
 Calls aB 9 #[aJ (aj ⟨g,0,ak⟩),str x] w (dc (Fe b g vo pk md (l5 s x).1 (av az (l5 s x).2) ut up uq) B):=
 QC hm (UR s x) λB hm=>JU dS pE (vv b s up uq) s x hx hs.kg hs.Cg (by have:=hs.kr;omega) w B hm
theorem J9(s:fJ)(w:World)(B:bR)(hm:Mem B (gv b g vo pk md s ut up uq uw) w):
 Calls aB 10 #[aJ (aj ⟨g,0,ak⟩)] w (dc (Fe b g vo pk md (ni s).1 (av az (ni s).2) ut up uq) B):=
 QC hm (Qz s) λB hm=>MX dS pE (vv b s up uq) s w B hm
theorem Ff(s:fJ)(hs:fC m b s)(n:Int)(w:World)(B:bR)(hm:Mem B (gv b g vo pk md s ut up uq uw) w):
 Calls aB 12 #[aJ (aj ⟨g,0,ak⟩),av az n] w (dc (Fe b g vo pk md (lU s n).1 (av az (lU s n).2) ut up uq) B):=
 QC hm (QB s n) λB hm=>F6 dS pE (vv b s up uq) s n (zv hs) w B hm
def UT(b:Bool)(g:Nat)(vo:Value)(pk md:List Value)(R:fJ×List Ev)(ut up uq:Value):Spec (Value×Value):=⟨λ_=>True,λx=>x.2,λx=>gv b g vo pk md R.1 ut up uq x.1++[kM x.2 R.2]⟩
theorem wO(s:fJ)(hs:fC m b s)(n:Int)(w:World)(B:bR)(hm:Mem B (gv b g vo pk md s ut up uq uw) w):
 Calls aB 15 #[aJ (aj ⟨g,0,ak⟩),av az n] w (dc (UT b g vo pk md (iE s n) ut up uq) B):=by
 have hk:=US s n;refine BG hm [0,3] [1,2] aiz I I (λB hm=>JW dS pE (vv b s up uq) s n (zv hs) w B hm) λx _=>⟨x,trivial,rfl,[2,0,1,3,4],by decide,?_⟩;simp only[UT,gv,hk.par,hk.ed,hk.p];rfl
end
end bZ
namespace Cw
open Go.RowKit cU dM bZ dg fZ gu aT cT ef nb Cv jo
theorem Z8:∀r∈lS.rules,r.2.length<=8796093021952:=by
 intro r hr;have:r∈ZO:=hr;simp only[ZO,dx,fl,or_false]at this;rcases this with rfl|rfl|rfl<;>exact Nat.le_trans (me I:_<=10) J
theorem acx:∃r b T N,RZ lS r/\(BY lS r.1).1=0/\jq (vm lS r) b T N/\Z5 (vm lS r):=by
 obtain⟨r,hx,h0⟩:=aeO;have h1:(BY lS r.1).1=0:=by rw[h0,aeM]
 obtain⟨b,T,N,hf⟩:=E8 hx h1;exact⟨r,b,T,N,hx,h1,hf,Fc hx h1⟩
end Cw
namespace bZ
open Go.RowKit cU dM
end bZ
namespace gv
open aT dL e8 l_ bI cT bZ jo
open ij (Ev rv takeN)
def aeY(s:fJ):Nat:=2*s.kr.length+s.iI.length+s.ed.length+(if s.ma=aD then 0 else 1)+(if s.over=aD then 0 else 1)
structure UU(s' s:fJ):Prop where
 ended:s'.ended=s.ended
 cr:s'.cr=s.cr
 gone:s'.gone=s.gone
theorem Z9{m:Md}{b:Bool}{s:fJ}(hr:jK s=aD):aeY (jr m b s)+1<=aeY s/\UU (jr m b s) s:=by
 obtain⟨r1,r2,r3⟩:=A0 hr;unfold jr aeY;rw[r1]
 cases e1:s.ed with
 | cons t l=>
  dsimp only;split
  ·refine⟨?_,rfl,rfl,rfl⟩
   dsimp only;rw[c_];simp only[nV,if_false];omega
  unfold sU rz;dsimp only;split
  ·refine⟨?_,rfl,rfl,rfl⟩
   unfold kJ;dsimp only;rw[c_];simp only[nV,if_false,if_true];omega
  refine⟨?_,rfl,rfl,rfl⟩;dsimp only;rw[c_];simp only[nV,if_false];omega
 | nil =>
  dsimp only;split
  ·refine⟨?_,rfl,rfl,rfl⟩
   unfold kJ;dsimp only;rw[e1];simp only[nV,if_false,if_true,gU];omega
  cases e2:s.kr with
  | cons c r=>
   dsimp only;unfold ML BC;have hc:=zn (o:=m.o) (N:=m.N) (tags:=m.tags) [c] s.dz s.iI;simp only[lO]at hc;generalize ic m.o m.N m.tags [c] s.dz s.iI=D at*;refine⟨?_,rfl,rfl,rfl⟩;dsimp only;rw[c_];simp only[r1,nV,if_false,gU];omega
  | nil=>
   dsimp only;split
   ·rename_i c2
    unfold E4 yc;have hc:=Cz (o:=m.o) (N:=m.N) (tags:=m.tags) (s.iI.length+1) s.dz s.iI;generalize jm m.o m.N m.tags (s.iI.length+1) s.dz s.iI=D at*;refine⟨?_,rfl,rfl,rfl⟩;dsimp only;rw[e2,c2];simp only[r1,nV,if_false,if_true,gU];omega
   refine⟨?_,rfl,rfl,rfl⟩;unfold kJ pN;dsimp only;rw[e1,e2];simp only[nV,if_false,if_true,gU];omega
end gv
namespace gv
open aT dL e8 l_ bI cT bZ jo
open ij (Ev rv takeN)
theorem UU.trans{s1 s2 s3:fJ}(h:UU s1 s2)(h':UU s2 s3):UU s1 s3:=⟨h.ended.trans h'.ended,h.cr.trans h'.cr,h.gone.trans h'.gone⟩
theorem wh{m:Md}{b:Bool}:∀(k:Nat) (s:fJ),UU (lq m b k s).1 s
 |0,s=>⟨rfl,rfl,rfl⟩
 |k+1,s=>by
  unfold lq;split
  ·rename_i h;exact(wh k _).trans (Z9 h).2
  exact⟨rfl,rfl,rfl⟩
theorem Sy(s:fJ)(x:List UInt8):(l5 s x).1.cr=s.cr/\(l5 s x).1.gone=s.gone:=by
 unfold l5;split;exact⟨rfl,rfl⟩;split;exact⟨rfl,rfl⟩;split<;>exact⟨rfl,rfl⟩
theorem Z_(s:fJ):(ni s).1.cr=s.cr/\(ni s).1.gone=s.gone:=by
 unfold ni;split<;>exact⟨rfl,rfl⟩
theorem Z'(s:fJ)(n:Int):(lU s n).1.gone=s.gone/\(((lU s n).2=0/\1<=n/\n<=1073741824/\(lU s n).1.cr<=s.cr+n)\/((lU s n).2≠0/\(lU s n).1.cr=s.cr)):=by
 unfold lU;split;exact⟨rfl,.inr ⟨by simp,rfl⟩⟩;split;exact⟨rfl,.inr ⟨by simp,rfl⟩⟩;exact⟨rfl,.inl ⟨rfl,by omega,by omega,by dsimp only;omega⟩⟩
theorem Sz{m:Md}{b:Bool}{s:fJ}(hs:fC m b s)(n:Int):(iE s n).1.gone=s.gone+((iE s n).2.length:Int)/\(iE s n).1.cr+(iE s n).1.gone=s.cr+s.gone/\((iE s n).2.length:Int)<=s.cr:=by
 unfold iE;split;have:=hs.cr;exact⟨by simp,rfl,by simp;omega⟩;obtain⟨h1,h2⟩:=Nb (l:=s.wait) hs.cr.1 (by omega:0<=n);have e:(s.wait.take (takeN s.wait s.cr n)).length=takeN s.wait s.cr n:=by simp;omega
 dsimp only;rw[e];exact⟨rfl,by omega,h2⟩
theorem aaa{m:Md}{b:Bool}{s:fJ}(h:jK s=aD)(k:Nat):1<=(lq m b (k+1) s).2:=by
 rw[lq,if_pos h];dsimp only;omega
end gv
namespace A1
abbrev Fm:=Int×Int×List UInt8
end A1
namespace bZ
open Go.RowKit cU dM A1
def frC(f:Fm):List Value:=[av az f.1,av az f.2.1,str f.2.2]
end bZ
namespace bZ
open Go.RowKit cU dM A1
set_option maxRecDepth 100000
def ahL(cs:List Value)(f:Fm):Prop:=cs=frC f/\(-9223372036854775808<=f.1/\f.1<=9223372036854775807)/\(-9223372036854775808<=f.2.1/\f.2.1<=9223372036854775807)/\f.2.2.length<=9223372036854775807
theorem aab{H:Type}{enc0:TypeId×Value->H}{W:World}:pQ enc0 aB W 49 ahL:=λfuel cs x h=>by
 obtain⟨hl,Kb⟩:=Wp Tryz.underlying49 h;have XG:cs.length=3:=hl;obtain⟨k,e0,k1,k2⟩:=Kb 0 _ rfl (z8 Tryz.underlying3);obtain⟨q,e1,q1,q2⟩:=Kb 1 _ rfl (z8 Tryz.underlying3);obtain⟨b,e2,b1⟩:=Kb 2 _ rfl (SZ Tryz.underlying9)
 replace e0:(cs.drop 0).take 1=[av az k]:=e0
 replace e1:(cs.drop 1).take 1=[av az q]:=e1
 replace e2:(cs.drop 2).take 1=[str b]:=e2
 refine⟨(k,q,b),?_,⟨k1,k2⟩,⟨q1,q2⟩,b1⟩
 match cs,XG with
 |[x,y,z],_=>
  simp only[List.drop_succ_cons,nh,List.take_succ_cons,nM,fO,and_true]at e0 e1 e2;subst e0 e1 e2;rfl
def acy(f:Fm):Prop:=(-9223372036854775808<=f.1/\f.1<=9223372036854775807)/\(-9223372036854775808<=f.2.1/\f.2.1<=9223372036854775807)/\f.2.2.length<=9223372036854775807
end bZ
namespace sessionCredit
open Go.RowKit cU dM bZ dg fZ gu aT dL cT l_ jo gv Cv Cw
theorem aeZ(n:Int)(w:World):(binOp .rem 3 (av az n) (av az 1000)).run aB w= .ok (av az (n.tmod 1000)) w:=by simp[binOp,Op.intDiv]
theorem acz(n:Int):n.tmod 1000<=9223372036854775807:=by
 have:=Int.tmod_lt_of_pos n (show(0:Int)<1000 by decide);omega
set_option maxRecDepth 100000 in
theorem agI(w:World)(v:Value)(s:Sp)(hv:RL (pD w) w v s)(hb:∀r∈s.rules,r.2.length*16<=140737488351232)(vl:Value)(l:List A1.Fm)(hs:Sl w vl l.length (l.flatMap frC))(U1:∀f∈l,acy f)(Ko:l.length<=1048576):
 Calls aB 4 #[v,vl] w (cz (ret (.bool aD)) w):=by
 obtain⟨r,hx⟩:=aeq s;obtain⟨r0,b0,T0,N0,hx0,hm0,hk0,agJ⟩:=acx;have agK:=λv' w' h=>MZ hx0 (v:=v') (w:=w') h Z8 hm0;have agL:=λc w' (hg:Gr w w')=>UL hx (hv.gr hg) (λr h=>by have:=hb r h;omega) c;have agM:=λc w' (hg:Gr w w')=>MZ hx (hv.gr hg) (λr h=>by have:=hb r h;omega) c;have Fs:=E8 hx;have hsm:=Fc hx;have hls:=λw'=>Ql w';have ae0:=λw' x h1 h2 h3 h4=>acb (w:=w') (a:=e_ 97 97) (s:=e_ 32 32) (x:=x) h1 h2 h3 h4;have hlS:lS=⟨aeL (e_ 97 97) (e_ 32 32),ZO⟩:=rfl;rw[<-hlS]at ae0;clear hlS hm0;generalize e_ 97 97=ca at*;generalize e_ 32 32=cs at*;generalize vm lS r0=m0 at*;generalize lS=l0 at*;obtain⟨al,cl,rfl,QR,J',XG⟩:=hs;unfold maxLen at J';obtain⟨vw0,vr0,rfl,hw,hr⟩:=hv;obtain⟨bw,cw,rfl,-⟩:=hw;obtain⟨br,cr,rfl,-⟩:=hr;clear hb;have hsz:Fo.toArray.size=266:=kp iQ I;have BZ:Fo.toArray.toList.all eQ=true:=uT I RX I;refine enter (args:=[aQ #[ap bw s.words.length cw,ap br s.rules.length cr],ap al l.length cl]) (n:=105) Tryz.func4 I I I ?_;refine b9 (bz (bQ I I I λg2=>?_));refine zL ?_
 try refine GA ?_
 refine aW (he0 aI.en I) (λw hm=>hls w) I I I ?_;rintro⟨q1,q2,q3,q4⟩ _
 conv=>arg 8;simp only[zJ,cL,ret,id_eq,aca]
 conv=>arg 7;simp only[aca]
 refine aW (iM aI.en I I) (λw' hm=>agK _ w' (ae0 w' ⟨q1,q2,q3,q4⟩ (hm.get (i:=1) I) (hm.get (i:=2) I) (hm.get (i:=3) I) (hm.get (i:=4) I))) I I I ?_;intro y hy
 conv=>arg 8;simp only[zJ,cL,ret,id_eq,Qt]
 conv=>arg 7;simp only[Qt]
 refine C3 [0,5] ?_
 try refine GA ?_
 refine aY I λg5'=>?_;rw[sA];refine zL ?_;refine aV (i:=2) (cs':=(y.cells m0).toArray) I I I (zu y m0) hy.one hsz ?_;refine zL ?_;have aac:=λw' h=>HO (aQ (y.cells m0).toArray) m0 b0 T0 N0 (vo:=y.vo) (vn:=y.vn) (vt:=y.vt) (vp:=y.vp) (vr:=y.vr) (va:=y.va) (vg:=y.vg) 10 10 aiz aiz aiz aiz w' h hk0 agJ
 repeat(first|refine GA ?_|refine gV (aO (i:=2) aK.ty I I (zu y m0)) ?_)
 refine aW (sZ aI.en I I I I) (λw' hm=>aac w' (hy.mdr w' (hm.get (i:=1) I))) I I I ?_;clear aac;rintro⟨gs,z,up,uq⟩ hz
 conv=>arg 8;simp only[zJ,cL,ret,id_eq,UQ]
 conv=>arg 7;simp only[UQ]
 refine C3 [0,3,4,5,6,7] ?_;refine zL ?_;have dS:(eP m0.o z.vn z.vt).length=258:=fH _ _ _;have hz:acj m0 z:=hz;have ac_:=hz.mdr;have aad:=Si hk0 (x:=10) (y:=10) aiz aiz aiz aiz;have hd0:l5 (vh 10 10) [97]=((l5 (vh 10 10) [97]).1,0):=by unfold l5 vh;simp
 have agN:=Sv aad [97];have ae1:=λB w' hm=>wN (g:=gs) (vo:=z.vo) (md:=fR m0.g.aR m0.g.bC z.vp m0.mode z.vr z.va z.vg) (ut:=ap ak 0 0) (up:=up) (uq:=uq) (uw:=ap ak 0 0) dS I (vh 10 10) aad [97] aiz w' B hm;rw[hd0]at ae1;have U2:jK (l5 (vh 10 10) [97]).1=true:=by unfold l5 vh jK;simp
 have aiy:(l5 (vh 10 10) [97]).1.cr=0:=(Sy _ _).1;generalize (l5 (vh 10 10) [97]).1=s1 at*;have ae2:=λuw w' B hR hm=>zw (aQ (z.cells m0).toArray) m0 (vo:=z.vo) (vn:=z.vn) (vt:=z.vt) (vp:=z.vp) (vr:=z.vr) (va:=z.va) (vg:=z.vg) (ut:=ap ak 0 0) (up:=up) (uq:=uq) (uw:=uw) b0 T0 N0 hk0 gs s1 agN 5 aiz w' B hR hm;rw[show(5:Int).toNat=4+1 from I]at ae2;have hn1:=aaa (m:=m0) (b:=b0) U2 4;have FF:=(J4 hk0 (4+1) agN).1;have ahM:=(wh (m:=m0) (b:=b0) (4+1) s1).cr;generalize lq m0 b0 (4+1) s1=W1 at*;obtain⟨s2,n2⟩:=W1;dsimp only at hn1 FF ahM;have agO:=λut up uw w' B hm=>wO (m:=m0) (b:=b0) (g:=gs) (vo:=z.vo) (md:=fR m0.g.aR m0.g.bC z.vp m0.mode z.vr z.va z.vg) (ut:=ut) (up:=up) (uq:=uq) (uw:=uw) dS I s2 FF 5 w' B hm;have zZ:(iE s2 5).2=[]:=List.eq_nil_of_length_eq_zero (by have:=(Sz FF 5).2.2;omega);generalize iE s2 5=S2 at*;obtain⟨s3,o3⟩:=S2;dsimp only at zZ;subst zZ
 try refine GA ?_
 refine qg I I I ?_;refine bx [1,2,3,4] [0,5] aiz I I (fI aI.en I I I) (λw hm hb=>ae1 _ w hb) I I I ?_;intro u1 _
 conv=>arg 8;simp only[zJ,cL,ret,id_eq,Fe]
 conv=>arg 7;simp only[Fe]
 try refine GA ?_
 refine qg I I I ?_;refine bx [2,3,4,5] [0] aiz I I (fI aI.en I I I) (λw hm hb=>ae2 _ w _ (Nf hm [2,3,4,5] 1 aiz I I ac_) hb) I I I ?_;rintro⟨u2,u3,u4⟩ _
 conv=>arg 8;simp only[zJ,cL,ret,id_eq,wkS]
 conv=>arg 7;simp only[wkS]
 try refine GA ?_
 refine qg I I I ?_;refine bx [1,2,3,4] [0] aiz I I (fI aI.en I I I) (λw hm hb=>agO _ _ _ w _ hb) I I I ?_;rintro⟨u5,u6⟩ _
 conv=>arg 8;simp only[zJ,cL,ret,id_eq,UT]
 conv=>arg 7;simp only[UT]
 refine lu (i:=5) I λba ca KP _ _=>?_;subst KP;simp only[gU];refine C3 [0] ?_
 repeat(first|refine GA ?_|refine gV (aO (i:=0) aK.ty I I I) ?_)
 clear ae1 ae2 agO agK hls ae0 hy hk0 agJ hx0 hz ac_
 by_cases c0:(BY s r.1).1≠0
 ·have No:=agL c0
  refine aW (iM aI.en I I) (λw hm=>No _ hm.below) I I I ?_;intro _ _;unfold agF;refine zL ?_
  try refine GA ?_
  refine aY I λg9'=>?_;rw[sA];refine zL ?_;refine aV (i:=1) (cs':=Fo.toArray) I I I hsz BZ hsz ?_;refine zL ?_
  repeat(first|refine GC ?_|refine gV (dm (b:=aD) I I (decide_eq_true c0)) ?_|refine GB ?_)
  exact eE
 have c1:(BY s r.1).1=0:=sv c0;have No:=agM c1;obtain⟨b,T,N,hk⟩:=Fs c1;have hsm:=hsm c1;clear agM agL Fs c0 c1 hx;generalize vm s r=m at*;refine aW (iM aI.en I I) (λw hm=>No _ hm.below) I I I ?_;intro y hy
 conv=>arg 8;simp only[zJ,cL,ret,id_eq,Qt]
 conv=>arg 7;simp only[Qt]
 try refine GA ?_
 refine aY I λg5=>?_;rw[sA];refine zL ?_;refine aV (i:=2) (cs':=(y.cells m).toArray) I I I (zu y m) hy.one hsz ?_;refine zL ?_;have aac:=λw' h=>HO (aQ (y.cells m).toArray) m b T N (vo:=y.vo) (vn:=y.vn) (vt:=y.vt) (vp:=y.vp) (vr:=y.vr) (va:=y.va) (vg:=y.vg) 4096 1000 aiz aiz aiz aiz w' h hk hsm
 repeat(first|refine GA ?_|refine gV (aO (i:=2) aK.ty I I (zu y m)) ?_)
 refine aW (sZ aI.en I I I I) (λw' hm=>aac w' (hy.mdr w' (hm.get (i:=1) I))) I I I ?_;clear aac;rintro⟨gs,z,up,uq⟩ hz;have hz:acj m z:=hz
 conv=>arg 8;simp only[zJ,cL,ret,id_eq,UQ]
 conv=>arg 7;simp only[UQ]
 refine C3 [7,3,4,5,6] ?_;refine zL ?_;have dS:(eP m.o z.vn z.vt).length=258:=fH _ _ _;have aad:=Si hk (x:=4096) (y:=1000) aiz aiz aiz aiz;have ahN:=hz.mdr;have hwk:=λs' h1 n qM ut up uw w' B hR hm=>zw (aQ (z.cells m).toArray) m (vo:=z.vo) (vn:=z.vn) (vt:=z.vt) (vp:=z.vp) (vr:=z.vr) (va:=z.va) (vg:=z.vg) (ut:=ut) (up:=up) (uq:=uq) (uw:=uw) b T N hk gs s' h1 n qM w' B hR hm;have hda:=λs' (h1:fC m b s') x hx ut up uw w' B hm=>wN (m:=m) (b:=b) (g:=gs) (vo:=z.vo) (md:=fR m.g.aR m.g.bC z.vp m.mode z.vr z.va z.vg) (ut:=ut) (up:=up) (uq:=uq) (uw:=uw) dS I s' h1 x hx w' B hm;have P6:=λs' (h1:fC m b s') n ut up uw w' B hm=>Ff (m:=m) (b:=b) (g:=gs) (vo:=z.vo) (md:=fR m.g.aR m.g.bC z.vp m.mode z.vr z.va z.vg) (ut:=ut) (up:=up) (uq:=uq) (uw:=uw) dS I s' h1 n w' B hm;have hse:=λs' (h1:fC m b s') n ut up uw w' B hm=>wO (m:=m) (b:=b) (g:=gs) (vo:=z.vo) (md:=fR m.g.aR m.g.bC z.vp m.mode z.vr z.va z.vg) (ut:=ut) (up:=up) (uq:=uq) (uw:=uw) dS I s' h1 n w' B hm;have Fv:=λs' ut up uw w' B hm=>J9 (b:=b) (g:=gs) (vo:=z.vo) (md:=fR m.g.aR m.g.bC z.vp m.mode z.vr z.va z.vg) (ut:=ut) (up:=up) (uq:=uq) (uw:=uw) dS I s' w' B hm;have ahO:=λ(s':fJ) h1 n=>(J4 hk (s:=s') n h1).1;clear hz hsm hk;generalize eP m.o z.vn z.vt=PK at*;generalize fR m.g.aR m.g.bC z.vp m.mode z.vr z.va z.vg=MT at*
 try refine GA ?_
 refine dY (ι:=Nat×fJ×Int×Value×Value×Value) (λ(k,s',gr,_)=>k<=l.length/\fC m b s'/\s'.cr+s'.gone<=gr/\gr<=1073741824*(k:Int)) (λ(k,s',gr,_)=>[(7,aJ (aj ⟨gs,0,ak⟩)),(10,av az gr),(11,av az s'.gone),(56,ap al l.length cl),(57,av az l.length),(58,av az (k:Int))])
  (λ(_,s',_,ut,up,uw)=>[AZ z.Ls]++gv b gs z.vo PK MT s' ut up uq uw) (λ(k,_)=>l.length-k) (0,vh 4096 1000,0,ap ak 0 0,up,ap ak 0 0) ⟨bH _,aad,by simp[vh],by simp⟩ ?_
 clear aad;rintro⟨k,s',gr,ut,up,uw⟩ ⟨i1,i2,i3,i4⟩;dsimp only at i1 i2 i3 i4⊢;have i5:=i2.gone;have i6:=i2.cr.1
 by_cases c:k<l.length
 ·obtain⟨bl,ol,rfl,Fk⟩:=XG J
  have dz:=λ(L:List b_)=>gG (L:=L) (f:=frC) (c:=3) (λ_=>rfl) Fk c;obtain⟨f1,f2,f3⟩:=U1 _ (cD c);generalize l[k]=f at*;obtain⟨kd,n,x⟩:=f;dsimp only at f1 f2 f3;clear Fk XG U1
  repeat(first|refine GA ?_|refine gV (aX bL.eq aK.ty I I c) ?_|refine gV (a8 aK.ty I I (dz _)) ?_)
  clear dz;refine aY I λg13=>?_;refine zL ?_
  try refine GA ?_
  refine gh 5 (cs':=(frC (kd,n,x)).toArray) ?_;refine zL ?_
  repeat(first|refine QV QP ?_|refine ky ?_|refine lH ?_|refine qs I I I I I I ?_|((try refine qg I I I ?_);first|refine QV QP ?_|refine QV QL ?_|refine QV QA ?_|refine QV QlT ?_|refine QV QlF ?_|refine QV QgT ?_|refine QV QgF ?_|refine QV QeT ?_|refine QV QeF ?_|refine QV QnT ?_|refine QV QnF ?_|refine QV QaA ?_))
  (repeat refine b9 ?_)
  refine bz ?_
  repeat(first|refine QV QP ?_|refine ky ?_|refine lH ?_|refine qs I I I I I I ?_|((try refine qg I I I ?_);first|refine QV QP ?_|refine QV (aC aK.ty I (aH (i:=5) I I)) ?_|refine QV QL ?_|refine QV QA ?_|refine QV QlT ?_|refine QV QlF ?_|refine QV QgT ?_|refine QV QgF ?_|refine QV QeT ?_|refine QV QeF ?_|refine QV QnT ?_|refine QV QnF ?_|refine QV QaA ?_))
  (repeat refine b9 ?_)
  refine kV (ι:=fJ×Int×Value×Value×Value) (λ(s2,g2,_)=>fC m b s2/\s2.cr+s2.gone<=g2/\g2<=1073741824*((k:Int)+1)) (λ(s2,g2,_)=>[(7,aJ (aj ⟨gs,0,ak⟩)),(10,av az g2),(11,av az s2.gone),(56,ap (aj ⟨bl,ol,ak⟩) l.length cl),(57,av az l.length),(58,av az (k:Int))]) (λ(s2,_,ut,up,uw)=>[AZ z.Ls]++gv b gs z.vo PK MT s2 ut up uq uw) ?_ ?_
  ·have i7:s'.gone<=1073741824*1048576:=by omega
   by_cases e0:kd=0
   ·subst e0
    have U7:fC m b (l5 s' x).1:=Sv i2 x;obtain⟨q1,q2⟩:=Sy s' x;have iz:=hda s' i2 x f3 ut up uw;generalize (l5 s' x).1=s2 at*
    repeat(first|refine GA ?_|refine gV (aC aK.ty I (aH (i:=5) I I)) ?_)
    refine bx [1,2,3,4] [0,5] aiz I I (fI aI.en I I I) (λw hm hb=>iz w _ hb) I I I ?_;intro u1 _
    conv=>arg 8;simp only[zJ,cL,ret,id_eq,Fe]
    try refine GA ?_
    refine dh [0,2,3,4,5] ?_;exact dJ (s2,gr,ut,up,u1) ⟨U7,by omega,by omega⟩ (by dsimp only;rw[q2];repeat' (first|exact cI|refine cC I ?_)) I
   by_cases e1:kd=1
   ·subst e1
    have U7:fC m b (ni s').1:=Z2 i2;obtain⟨q1,q2⟩:=Z_ s';have iz:=Fv s' ut up uw;generalize (ni s').1=s2 at*
    try refine GA ?_
    refine bx [1,2,3,4] [0,5] aiz I I (iM aI.en I I) (λw hm hb=>iz w _ hb) I I I ?_;intro u1 _
    conv=>arg 8;simp only[zJ,cL,ret,id_eq,Fe]
    try refine GA ?_
    refine dh [0,2,3,4,5] ?_;exact dJ (s2,gr,ut,up,u1) ⟨U7,by omega,by omega⟩ (by dsimp only;rw[q2];repeat' (first|exact cI|refine cC I ?_)) I
   by_cases e4:kd=4
   ·subst e4
    obtain⟨s2,e,Ka⟩:∃s2 e,lU s' n=(s2,e):=⟨_,_,rfl⟩;have U7:fC m b s2:=by have:=Z3 i2 n;rw[Ka]at this;exact this
    have hq:=Z' s' n;have iz:=P6 s' i2 n ut up uw;rw[Ka]at hq iz;dsimp only at hq;obtain⟨q1,hq⟩:=hq
    repeat(first|refine GA ?_|refine gV (aC aK.ty I (aH (i:=5) I I)) ?_)
    refine bx [1,2,3,4] [0,5] aiz I I (fI aI.en I I I) (λw hm hb=>iz w _ hb) I I I ?_;intro u1 _
    conv=>arg 8;simp only[zJ,cL,ret,id_eq,Fe]
    conv=>arg 7;simp only[Fe]
    rcases hq with⟨q2,q3,q4,q5⟩|⟨q2,q3⟩
    ·subst q2
     repeat(first|refine GA ?_|refine gV (aC (v:=av az n) aK.ty I (aH (i:=1) I I)) ?_)
     refine dh [0,2,3,4,5] ?_;exact dJ (s2,gr+n,ut,up,u1) ⟨U7,by omega,by omega⟩ (by dsimp only;rw[q1];repeat' (first|exact cI|refine cC I ?_)) I
    repeat(first|refine GC ?_|refine gV (de (b:=aE) I I (decide_eq_false q2)) ?_|refine GB ?_)
    refine dh [0,2,3,4,5] ?_;exact dJ (s2,gr,ut,up,u1) ⟨U7,by omega,by omega⟩ (by dsimp only;rw[q1];repeat' (first|exact cI|refine cC I ?_)) I
   by_cases e6:kd=6
   ·subst e6
    have U7:=ahO s' i2 (n.tmod 1000).toNat;have q1:=(wh (m:=m) (b:=b) (n.tmod 1000).toNat s').cr;have q2:=(wh (m:=m) (b:=b) (n.tmod 1000).toNat s').gone;have iz:=hwk s' i2 (n.tmod 1000) (acz n) ut up uw;generalize lq m b (n.tmod 1000).toNat s'=W at*;obtain⟨s2,e⟩:=W;dsimp only at U7 q1 q2
    repeat(first|refine GA ?_|refine gV (aC aK.ty I (aH (i:=5) I I)) ?_|refine gV (oF I I (aeZ n)) ?_)
    refine bx [1,2,3,4] [0,5] aiz I I (fI aI.en I I I) (λw hm hb=>iz w _ (Nf hm [1,2,3,4] 0 aiz I I ahN) hb) I I I ?_;rintro⟨u1,u2,u3⟩ _
    conv=>arg 8;simp only[zJ,cL,ret,id_eq,wkS]
    try refine GA ?_
    refine dh [0,2,3,4,5] ?_;exact dJ (s2,gr,u1,u2,u3) ⟨U7,by omega,by omega⟩ (by dsimp only;rw[q2];repeat' (first|exact cI|refine cC I ?_)) I
   by_cases e7:kd=7
   ·subst e7
    obtain⟨s2,o2,Ka⟩:∃s2 o2,iE s' n=(s2,o2):=⟨_,_,rfl⟩;have U7:fC m b s2:=by have:=acn i2 n;rw[Ka]at this;exact this
    have hq:=Sz i2 n;have iz:=hse s' i2 n ut up uw;rw[Ka]at hq iz;dsimp only at hq;obtain⟨q1,q2,q3⟩:=hq
    repeat(first|refine GA ?_|refine gV (aC aK.ty I (aH (i:=5) I I)) ?_)
    refine bx [1,2,3,4] [0,5] aiz I I (fI aI.en I I I) (λw hm hb=>iz w _ hb) I I I ?_;rintro⟨u1,u2⟩ _
    conv=>arg 8;simp only[zJ,cL,ret,id_eq,UT]
    conv=>arg 7;simp only[UT]
    refine lu (i:=6) I λba ca KP _ _=>?_;subst KP
    try refine GA ?_
    refine dh [0,2,3,4,5] ?_;exact dJ (s2,gr,ut,up,u1) ⟨U7,by omega,by omega⟩ (by dsimp only;rw[q1];repeat' (first|exact cI|refine cC I ?_)) I
   try refine GA ?_
   refine dh [0,1,2,3,4] ?_;exact dJ (s',gr,ut,up,uw) ⟨i2,by omega,by omega⟩ (by repeat' (first|exact cI|refine cC I ?_)) I
  rintro⟨s2,g2,ut,up,uw⟩ ⟨j1,j2,j3⟩;dsimp only at j1 j2 j3⊢;have j4:=j1.cr.1
  try refine GA ?_
  exact bW (k+1,s2,g2,ut,up,uw) ⟨by show k+1<=l.length;omega,j1,j2,by show g2<=1073741824*((k+1:Nat):Int);omega⟩ (by show l.length-(k+1)<l.length-k;omega)
 ·try refine GA ?_
  exact eE
end sessionCredit
namespace bZ
open Go.RowKit cU dM
theorem aae{H:Type}(d:DataW H):1<=Rows.uptoBulk d:=by
 unfold Rows.uptoBulk;split<;>omega
theorem Ni{H:Type}:∀(ds:List (DataW H)),ds.length<=Rows.uptoBulkAll ds
 |[]=>by simp
 |d::r=>by
  have:=Ni r;have:=aae d;rw[Rows.uptoBulkAll,c_];omega
end bZ
namespace bZ
open Go.RowKit cU dM A1
set_option maxRecDepth 100000 in
theorem UW{H:Type}{enc0:TypeId×Value->H}{W:World}{base:Nat}{v:Value}{d:DataW H}{ps:List MemPlace}(hv:Value.okWide aB W .any base 26 v)(h:DataW.Trod enc0 aB W 0 (λ_=>aD) aD 26 v d ps):
 ∃l:List Fm,Sl W v l.length (l.flatMap frC)/\(∀f∈l,acy f)/\l.length<=Rows.uptoBulk d:=by
 obtain⟨l,h1,h2,h3⟩:=SA Tryz.underlying26 (c:=3) (by kernel_rfl) aiz frC (λ_=>rfl) acy (λn cs x hx=>let ⟨f,e,h⟩:=aab n cs x hx;⟨f,e,h⟩) hv h;refine⟨l,h1,h2,?_⟩;rcases h3 with⟨_,rfl⟩|⟨elems,spare,rfl,hl⟩
 ·simp
 ·have:=Ni elems
  rw[Rows.uptoBulk];omega
end bZ
namespace sessionCredit
open Go.RowKit cU dM bZ gu A1
theorem walk{H:Type}{d0 d1:DataW H}(w:World)(v:Value)(s:Sp)(hv:RL (pD w) w v s)(hb:∀r∈s.rules,r.2.length*16<=140737488351232)(vl:Value)(l:List Fm)(hs:Sl w vl l.length (l.flatMap frC))(U1:∀f∈l,acy f)(hl:l.length<=Rows.uptoBulk d1)(hk:Rows.uptoSmall H [d0,d1]=aD):
 Calls aB 4 #[v,vl] w (cz (ret (.bool aD)) w):=by
 have h:=of_decide_eq_true hk;simp only[Rows.uptoBulkAll]at h;exact agI w v s hv hb vl l hs U1 J
end sessionCredit
end Go.Proofs.YtaobbfedlnddcaaGreat

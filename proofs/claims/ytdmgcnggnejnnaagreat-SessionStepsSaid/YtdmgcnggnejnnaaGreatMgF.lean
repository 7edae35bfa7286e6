/- Part 6 of what SessionSteps needs: SpecG, SpecV, Bun, Mk2, SeO, SeQ, FeedN, SeU, SeR, SeV, ActK, SeC, Fill, WhR, SeD, SeW, SeX, SeSt, SessionStepsW. -/
import Derived.Test.YtdmgcnggnejnnaaGreatMgE
namespace Go.Proofs.YtdmgcnggnejnnaaGreat
set_option linter.unusedVariables false
set_option linter.unusedSimpArgs false
open _root_.Array renaming foldl_toList->YM
open _root_.Bool renaming false->aE,true->aD,false_eq_true->ow
open _root_.Decidable renaming of_not_not->s7
open _root_.False renaming elim->nk
open _root_.Go.Instr renaming build->dR,fill->jP
open _root_.Go.IntKind renaming i64->az
open _root_.Go.Proofs.Tryz renaming prog->aC
open _root_.Go.Value renaming slice->ap,int->av,pointer->aK,agg->aU,oneCell'->fG,cells->vV
open _root_.Go.Value.agg renaming injEq->k7
open _root_.Go.Value.slice renaming injEq->jQ
open _root_.Int renaming le_refl->k8
open _root_.List renaming getElem?_eq_getElem->bQ,getD_eq_getElem?_getD->cK,length_append->bT,getElem?_eq_some_iff->dv,getElem_mem->cV,length_cons->dE,all_cons->dw,all_nil->dA,mem_singleton->ep,getElem?_append_left->fH,length_map->dX,take_succ_eq_append_getElem->ia,append_nil->eB,append_assoc->eZ,mem_cons->ez,take_of_length_le->gj,nil_append->fg,mem_append->fC,length_nil->gJ,mem_map->e7,length_drop->iv,mem_cons_self->ir,mem_iff_getElem->jt,not_mem_nil->iD,length_singleton->ky,mem_of_getElem?->mF,cons_append->ku,take_length->nE,getElem?_of_mem->tQ,any_eq_false->sV,flatten_append->AO,setIfInBounds_toArray->Ec,set_append->AP,mem_flatMap->uB,getD_cons_succ->YN,flatMap_nil->YO
open _root_.Nat renaming le_refl->bJ,zero_le->bO,zero_add->du,add_zero->iO,add_assoc->l6,succ_le_succ->PO,succ_pos->Ef
open _root_.Option renaming some->aj,none->ak,getD_some->lf
open _root_.Option.some renaming injEq->dB
open _root_.Prod renaming fst->AQ,snd->AR
open _root_.Prod.mk renaming injEq->gH
set_option maxHeartbeats 16000000
namespace pT
open dT iA fq dq
open cZ (my fL wO I1)
variable{m:MS}{R:List Row}{d:DM}
theorem abk(hm:II m)(hi:MkI m (fK m.empty 0) (d.S.length+1) R d)(k:Nat):d.tags.getD k 0<m.empty.length:=by
 have h:=hi.tags;unfold q9 at h;rw[h];have h0:=hm.some
 cases k with
 | zero=>
  have:=Hh (l:=m.empty);have e:(fK m.empty 0::d.S.map (pT.wN m.ps)).getD 0 0=fK m.empty 0:=rfl;rw[e];omega
 | succ k=>
  by_cases hk:k<d.S.length
  ·have e:(fK m.empty 0::d.S.map (pT.wN m.ps)).getD (k+1) 0=pT.wN m.ps d.S[k]:=by
    rw[YN,cK,List.getElem?_map,bQ hk];rfl
   rw[e];unfold pT.wN;rcases Jh hm.rules hm.ok.ps.rules d.S[k] m.ps.bx.length (bJ _)with⟨h1,_⟩|⟨_,_,_,_,_,h1,h2,_⟩
   rw[h1];omega;omega
  rw[YN,cK,List.getElem?_eq_none (by rw[dX];omega)];show(0:Int)<_
  omega
end pT
namespace cZ
open Go.RowKit dr eH dT iA iT aV dq fq pT
theorem YP{R:List Row}{tags:List Int}{n:Int}(h:∀k,tags.getD k 0<n):∀t∈y' R tags,t<n:=λt ht=>by
 unfold y' at ht;split at ht
 ·obtain⟨k,-,rfl⟩:=e7.1 ht
  exact h k
 cases ht
theorem YQ{s:Sp}{r:Int×List Row×List Int}(h:Uj s r)(h0:r.1=0):0<s.words.length/\s.words.length<=20/\∀t∈r.2.2,t<(s.words.length:Int):=by
 rcases h with⟨k,hk,-,rfl⟩|⟨es,m,h1,-,h3,h4,h5,-,⟨h,rfl⟩|⟨-,h,rfl⟩|⟨h,hd,hc,rfl⟩⟩
 exact absurd h0 hk;exact absurd h0 h;exact absurd h0 h;have hlen:s.words.length=es.length:=by
  have:=congrArg List.length h1
  rwa [rh,dX,dX]at this
 obtain⟨-,h7,-,-⟩:=IJ es 0 .zero m Iy rfl (λr hr=>by cases hr) (bO _) h5;refine⟨by omega,by omega,?_⟩;dsimp only
 cases hm:y7 m with
 |none=>rw[Pt hm]at hd;cases hd
 |some y=>
  obtain⟨R,d⟩:=y;rw[Ps hm];refine YP λk=>?_;have:=abk (IK h3 h4 h5) (Hg hm) k;show d.tags.getD k 0<_
  omega
end cZ
namespace iT
open dT iA
theorem ab8(l:List Wd):∀k,k<=l.length->0<=((l.take k).foldl jz Zg).2.1/\∀x∈((l.take k).foldl jz Zg).1,-1<=x/\x<((l.take k).foldl jz Zg).2.1
 |0,_=>⟨k8 _,λx hx=>by cases hx⟩
 | k + 1,h=>by
  obtain⟨a1,a2⟩:=ab8 l k J;rw[step_take _ _ _ (show k<l.length by omega)];have key:∀(s:WS) (w:Wd),0<=s.2.1->(∀x∈s.1,-1<=x/\x<s.2.1)->0<=(jz s w).2.1/\∀x∈(jz s w).1,-1<=x/\x<(jz s w).2.1:=λs w b1 b2=>by
   unfold jz;split
   ·refine⟨b1,λx hx=>?_⟩
    rcases fC.1 hx with hx|hx
    exact b2 x hx;rw[ep.1 hx];exact⟨k8 _,by show(-1:Int)<s.2.1;omega⟩
   refine⟨by show 0<=s.2.1+1;omega,λx hx=>?_⟩;show-1<=x/\x<s.2.1+1
   rcases fC.1 hx with hx|hx
   have:=b2 x hx;omega;rw[ep.1 hx];omega
  exact key _ _ a1 a2
end iT
namespace cZ
open Go.RowKit dr eH dT iA iT aV dq
def adN(s:Sp)(R:List Row)(T:List Int):Md:=⟨(Jk s.words).1,yc R 256,TJ R,T,dz s,1,Rj (dz s) (dz s).aT.toNat (dz s).bM.toNat,[],[]⟩
def adO(s:Sp)(R:List Row)(T:List Int):Md:=⟨(Jk s.words).1,yc R 256,TJ R,T,dz s,2,[],(i_ (dz s)).1,(i_ (dz s)).2.1⟩
theorem YR{l:List Wd}(h:l.length<=60):(Jk l).1.length=l.length:=by
 have:=(Yv l l.length (bJ _) h).1;rw[nE]at this;exact this
section
variable{w:World}{B:b9}{L:List cU}{x:FI}{s:Sp}{R:List Row}{T:List Int}{i0 i1 i2 i3 i4 i5 i6 i7 i8:Nat}
theorem ab9(hl:s.words.length<=60)(h:(bD 3 1 x.vo s.words.length ((Jk s.words).1.map (av .i64))).holds w):Sl w x.vo (Jk s.words).1.length ((Jk s.words).1.flatMap dr.eV):=by
 rw[YR hl];have:=Sl.dY h
 rwa [<-KG]at this
theorem YS(hg:cL (dz s)=0)(h:(oq x.F x.vp (dz s).aF).holds w):kz (λk=>k<w.heap.size) w (ee (dz s).aT (dz s).bM x.vp) (dz s):=by
 obtain⟨a1,a2,a3,a4,a5,a6⟩:=de hg;exact ya (gok ⟨a1,by omega⟩) (gok ⟨by omega,by omega⟩) h
theorem adP(hm:Mem B L w)(hl:s.words.length<=60)(hc:my R T=0)(hg:cL (dz s)=0)
 (h0:L[i0]?=aj (bD 3 1 x.vo s.words.length ((Jk s.words).1.map (av .i64)))) (h1:L[i1]?=aj (oq x.F x.vp (dz s).aF)) (h2:L[i2]?=aj (fO 26 yf x.gP R.length x.YG)) (h3:L[i3]?=aj (TQ R.length (nL R 256) x.YG)) (h4:L[i4]?=aj (bD 3 1 x.vT T.length (T.flatMap dr.eV)))
 (h5:L[i5]?=aj (fO 26 vJ x.gR (dz s).bM.toNat x.vsR)) (h6:L[i6]?=aj (jB (λj=>j<(dz s).bM.toNat) (ni (dz s).aF (AL (dz s).bM.toNat (dz s).aF) (dz s).aT.toNat x.vsR (dz s).bM.toNat 0))):
 Cu w (.agg (x.cLL (dz s) R)) (adN s R T) x.vo (ap (aj ⟨x.gP,0,ak⟩) R.length R.length) x.vT x.vp (ap (aj ⟨x.gR,0,ak⟩) (dz s).bM.toNat (dz s).bM.toNat) (ap ak 0 0) (ap ak 0 0) where
 val:=rfl
 of:=ab9 hl (hm.get h0)
 pk:=hm.pkI h2 h3 h4 hc
 AV:=YS hg (hm.get h1)
 rows:=by
  obtain⟨a1,a2,a3,a4,a5,a6⟩:=de hg;exact X5 a5 J (hm.get h5) (hm.get h6)
 py:=⟨_,_,rfl,kH.nil,kH.nil⟩
theorem adQ(hm:Mem B L w)(hl:s.words.length<=60)(hc:my R T=0)(hg:cL (dz s)=0)
 (h0:L[i0]?=aj (bD 3 1 x.vo s.words.length ((Jk s.words).1.map (av .i64)))) (h1:L[i1]?=aj (oq x.F x.vp (dz s).aF)) (h2:L[i2]?=aj (fO 26 yf x.gP R.length x.YG)) (h3:L[i3]?=aj (TQ R.length (nL R 256) x.YG)) (h4:L[i4]?=aj (bD 3 1 x.vT T.length (T.flatMap dr.eV)))
 (h5:L[i5]?=aj (bD 92 1 x.tx.vA (i_ (dz s)).1.length x.tx.BU)) (h6:L[i6]?=aj (eO (bW oM) x.tx.FA (x.tx.BU.map λv=>[v]) (i_ (dz s)).1)) (h7:L[i7]?=aj (bD 26 1 x.tx.vG (i_ (dz s)).2.1.length x.tx.BV)) (h8:L[i8]?=aj (eO (bW fY) x.tx.FG (x.tx.BV.map λv=>[v]) (i_ (dz s)).2.1)):
 Cu w (.agg (x.cLR (dz s) R)) (adO s R T) x.vo (ap (aj ⟨x.gP,0,ak⟩) R.length R.length) x.vT x.vp (ap ak 0 0) x.tx.vA x.tx.vG where
 val:=rfl
 of:=ab9 hl (hm.get h0)
 pk:=hm.pkI h2 h3 h4 hc
 AV:=YS hg (hm.get h1)
 rows:=kH.nil
 py:=aaS (hm.get h5) (hm.get h6) (hm.get h7) (hm.get h8)
end
theorem Jv{s:Sp}{r:Int×List Row×List Int}(h:Uj s r)(h0:r.1=0):s.words.length<=20/\cL (dz s)=0/\my r.2.1 r.2.2=0/\0<(Jk s.words).1.length/\(Jk s.words).1.length<=20/\(∀t∈(Jk s.words).1,-1<=t/\t<(dz s).aT)/\∀t∈r.2.2,t<((Jk s.words).1.length:Int):=by
 obtain⟨a1,a2⟩:=zm h h0;obtain⟨b1,b2,b3⟩:=YQ h h0;have e:=YR (l:=s.words) J;have c:=(ab8 s.words s.words.length (bJ _)).2;rw[nE]at c;exact⟨b2,a1,a2,by omega,by omega,c,by rw[e];exact b3⟩
theorem abl{s:Sp}{r:Int×List Row×List Int}(h:Uj s r)(h0:r.1=0):MdGood (adN s r.2.1 r.2.2):=by
 obtain⟨a1,a2,a3,a4,a5,a6,a7⟩:=Jv h h0;obtain⟨b1,b2,b3,b4,b5,b6⟩:=de a2;exact⟨Rv _,PA (Rw a3),a2,a4,a5,a6,a7,.inl ⟨rfl,LW (g:=dz s) (T:=(dz s).aT.toNat) (N:=(dz s).bM.toNat) a2 J J⟩⟩
theorem abm{s:Sp}{r:Int×List Row×List Int}(h:Uj s r)(h0:r.1=0)(hT:(i_ (dz s)).2.2.2=0):MdGood (adO s r.2.1 r.2.2):=by
 obtain⟨a1,a2,a3,a4,a5,a6,a7⟩:=Jv h h0;obtain⟨T,N,Nx,S,hM⟩:=G9 hT;refine⟨Rv _,PA (Rw a3),a2,a4,a5,a6,a7,.inr ⟨rfl,T,N,?_⟩⟩;show rW (dz s) T N (i_ (dz s)).1 (i_ (dz s)).2.1
 rw[hM.ed,hM.gos];exact hM.py
end cZ
namespace cZ
open Go.RowKit dr eH
def B3(Ls:List cU):cU where
 BF:=ak
 more:=λk=>∃o∈Ls,o.fF k
 holds:=λw=>e_ (λ_=>True) w Ls
 lt:=λw h k hk=>by
  rcases hk with hk|⟨o,ho,hk⟩
  cases hk
  obtain⟨i,hi⟩:=tQ ho;exact o.lt w (h.all i o hi).1 k hk
 stay:=λw w' h hs hk=>⟨λi o hi=>⟨o.stay w w' (h.all i o hi).1 hs λk hf=>hk k (.inr ⟨o,mF hi,hf⟩),λ_ _=>trivial⟩,h.apart⟩
theorem Mo{Ls:List cU}{k:Nat}(h:(B3 Ls).fF k):∃o∈Ls,o.fF k:=by
 rcases h with h|h
 cases h
 exact h
theorem Jw{Ls:List cU}{w:World}(h:(B3 Ls).holds w):Mem (b9.on w Ls) Ls w:=
 ⟨⟨rfl,rfl,rfl,bJ _,λ_ _ _=>rfl⟩,⟨λi o hi=>⟨(h.all i o hi).1,λk hk=> .inr ⟨o,mF hi,hk⟩⟩,h.apart⟩⟩
theorem e_.bun{p:Nat->Prop}{w:World}{Ls:List cU}(h:e_ p w Ls):e_ p w [B3 Ls]:=
 e_.one ⟨λi o hi=>⟨(h.all i o hi).1,λ_ _=>trivial⟩,h.apart⟩ λk hk=>by
  obtain⟨o,ho,hk⟩:=Mo hk;obtain⟨i,hi⟩:=tQ ho;exact(h.all i o hi).2 k hk
theorem e_.PP{p:Nat->Prop}{w:World}{Ls R:List cU}(h:e_ p w (R++Ls)):e_ p w (R++[B3 Ls]):=by
 have hR:e_ p w R:=⟨λi o hi=>h.all i o (by rw[fH (dv.1 hi).1];exact hi),λi j o o' rp hi hj=>h.apart i j o o' rp (by rw[fH (dv.1 hi).1];exact hi) (by rw[fH (dv.1 hj).1];exact hj)⟩;have hL:∀(j:Nat) (o:cU),Ls[j]?=aj o->(R++Ls)[R.length+j]?=aj o:=λj o hj=>by rw[List.getElem?_append_right J];simpa using hj
 have hS:e_ p w Ls:=⟨λi o hi=>h.all _ o (hL i o hi),λi j o o' rp hi hj=>h.apart _ _ o o' J (hL i o hi) (hL j o' hj)⟩;refine hR.both hS.bun λi j o o' hi hj k hk mZ=>?_
 match j,hj with
 |0,hj=>
  simp only[List.getElem?_cons_zero,dB]at hj;subst hj;obtain⟨q,hq,hqk⟩:=Mo mZ;obtain⟨j,hj⟩:=tQ hq;exact h.apart i (R.length+j) o q (by have:=(dv.1 hi).1;omega) (by rw[fH (dv.1 hi).1];exact hi) (hL j q hj) k hk hqk
 |j+1,hj=>simp at hj
theorem Mem.PP{W:b9}{L R Ls:List cU}{w:World}(h:Mem W L w)(is js:List Nat)(hn:(js++is).Nodup)(hl:Ls=is.filterMap λi=>L[i]?)(hr:R=js.filterMap λi=>L[i]?):Mem W (R++[B3 Ls]) w:=
 ⟨h.low,e_.PP (h.owns.pick (js++is) hn (by rw[List.filterMap_append,<-hl,<-hr]))⟩
end cZ
namespace cZ
open Go.RowKit dr eH dT iA iT aV dq kF
structure MkX where
 vo:Value
 vn:Value
 vt:Value
 vp:Value
 vr:Value
 va:Value
 vg:Value
 Ls:List cU
def MkX.cells(x:MkX)(m:Md):List Value:=jx x.vo (fw m.o x.vn x.vt) (gU m.g.aT m.g.bM x.vp m.mode x.vr x.va x.vg)
structure adR(m:Md)(x:MkX):Prop where
 mdr:∀w,(B3 x.Ls).holds w->Cu w (aU (x.cells m).toArray) m x.vo x.vn x.vt x.vp x.vr x.va x.vg
 one:(x.cells m).toArray.toList.all fG=aD
def YT(m:Md):Spec MkX:=⟨adR m,λx=> .tuple #[aU (x.cells m).toArray,av az 0],λx=>[B3 x.Ls]⟩
def afG(e:Int):Spec Unit:=⟨λ_=>True,λ_=> .tuple #[aU E9.toArray,av az e],λ_=>[]⟩
def zo(s:Sp)(r:Int×List Row×List Int):Md:=if(E_ s r.1).2=1 then adN s r.2.1 r.2.2 else adO s r.2.1 r.2.2
theorem Mp(x:MkX)(m:Md):(x.cells m).toArray.size=266:=kN (gT _ _ _) I
theorem cY.to{ι κ:Type}{S:Spec ι}(S':Spec κ){w:World}{e:Ending}{w':World}(hm:cY S w e w')(h:∀x,S.ok x->∃y,S'.ok y/\S.val x=S'.val y/\∀w',nO w.heap.size w' (S.own x)->nO w.heap.size w' (S'.own y)):cY S' w e w':=by
 obtain⟨x,h1,h2,h3,h4⟩:=hm;obtain⟨y,k1,k2,k3⟩:=h x h1;exact⟨y,k1,by rw[h2,k2],h3,k3 w' h4⟩
theorem TU{v:Value}{s:Sp}{r:Int×List Row×List Int}(hx:Uj s r){w:World}(hv:Ud (ri w) w v s)(hb:∀r∈s.rules,r.2.length<=8796093021952)(h:(E_ s r.1).1≠0):
  Calls aC 12 #[v] w (cY (afG (E_ s r.1).1) w):=
 (zn v s r hx w hv hb).mono λe w' hm=>by
  have hS:p9 s r=v8 (E_ s r.1).1:=by unfold p9;rw[if_pos h]
  rw[hS]at hm;exact hm.to _ λx _=>⟨(),trivial,rfl,λw' h=>h⟩
theorem YU{v:Value}{s:Sp}{r:Int×List Row×List Int}(hx:Uj s r){w:World}(hv:Ud (ri w) w v s)(hb:∀r∈s.rules,r.2.length<=8796093021952)(h:(E_ s r.1).1=0):
  Calls aC 12 #[v] w (cY (YT (zo s r)) w):=
 (zn v s r hx w hv hb).mono λe w' hm=>by
  obtain⟨h1,-,-,h4⟩:=Mn (s:=s) (e:=r.1) (m:=(E_ s r.1).2) (by rw[<-h]);obtain⟨hG,abj⟩:=zm hx h1;obtain⟨ahj,-⟩:=Jv hx h1;have hS:p9 s r=if(E_ s r.1).2=1 then abh s r.2.1 r.2.2 else abi s r.2.1 r.2.2:=by unfold p9;rw[if_neg (by rw[h];simp)]
  unfold zo;rcases h4 with⟨_,oX⟩|⟨_,_,_,oX⟩
  ·rw[oX,if_pos I]at hS⊢
   rw[hS]at hm;refine hm.to (YT _) λx l7=>⟨⟨x.vo,ap (aj ⟨x.gP,0,ak⟩) r.2.1.length r.2.1.length,x.vT,x.vp,ap (aj ⟨x.gR,0,ak⟩) (dz s).bM.toNat (dz s).bM.toNat,ap ak 0 0,ap ak 0 0,x.lex s r.2.1 r.2.2++x.rows (dz s)⟩,⟨λw' hb=>adP (x:=x) (i0:=0) (i1:=1) (i2:=2) (i3:=3) (i4:=4) (i5:=5) (i6:=6) (Jw hb) J abj hG I I I I I I I,?_⟩,rfl,λw' h=>h.bun⟩;obtain⟨k1,k2,k3⟩:=l7;exact vZ k1 (YL (x:=x) k3 r.2.1) (by simp only[gU,dw,dA,k2];rfl)
  rw[oX,if_neg ahk]at hS⊢;rw[hS]at hm;refine hm.to (YT _) λx l7=>⟨⟨x.vo,ap (aj ⟨x.gP,0,ak⟩) r.2.1.length r.2.1.length,x.vT,x.vp,ap ak 0 0,x.tx.vA,x.tx.vG,x.lex s r.2.1 r.2.2++Tu x.tx (i_ (dz s)).1 (i_ (dz s)).2.1⟩,⟨λw' hb=>adQ (x:=x) (i0:=0) (i1:=1) (i2:=2) (i3:=3) (i4:=4) (i5:=5) (i6:=6) (i7:=7) (i8:=8) (Jw hb) J abj hG I I I I I I I I I,?_⟩,rfl,λw' h=>h.bun⟩;obtain⟨⟨k1,k2,k3⟩,b1,b2⟩:=l7;exact vZ k1 (YL (x:=x) k3 r.2.1) (by simp only[gU,dw,dA,k2,b1,b2];rfl)
theorem Mq{s:Sp}{r:Int×List Row×List Int}(hx:Uj s r)(h:(E_ s r.1).1=0):∃b T N,jN (zo s r) b T N:=by
 obtain⟨h1,-,-,h4⟩:=Mn (s:=s) (e:=r.1) (m:=(E_ s r.1).2) (by rw[<-h]);obtain⟨hG,abj⟩:=zm hx h1;obtain⟨b1,b2,b3,b4,b5,b6⟩:=de hG;unfold zo;rcases h4 with⟨_,oX⟩|⟨_,h5,_,oX⟩
 ·rw[oX,if_pos I]
  exact⟨aD,(dz s).aT.toNat,(dz s).bM.toNat,abl hx h1,rfl,by show(dz s).aT=_;omega,by show(dz s).bM=_;omega,λ_=>⟨LW (g:=dz s) hG J J,ads (g:=dz s) J J⟩,(λh=>by cases h)⟩
 rw[oX,if_neg ahk];obtain⟨T,N,Nx,S,hM⟩:=G9 h5;have hL:rW (dz s) T N (i_ (dz s)).1 (i_ (dz s)).2.1:=by rw[hM.ed,hM.gos];exact hM.py
 exact⟨aE,T,N,abm hx h1 h5,rfl,hL.aT,hL.bM,(λh=>by cases h),λ_=>hL⟩
end cZ
namespace cZ
open Go.RowKit dr eH aV ey fJ iT kF bV mW iy
open iU (Ev sa takeN Fp IT ot x9 G2)
theorem nO.abn{B:Nat}{w:World}(e e':TypeId)(c c':Nat)(h:nO B w []):nO B w [bD e c (ap ak 0 0) 0 [],bD e' c' (ap ak 0 0) 0 []]:=by
 refine⟨λi o hi=>?_,λi j o o' rp hi hj k hk=>?_⟩
 ·match i,hi with
  |0,hi=>cases hi;exact⟨⟨by simp,.inl ⟨rfl,rfl⟩⟩,λk hk=>hk.elim (λh=>by cases h) nk⟩
  |1,hi=>cases hi;exact⟨⟨by simp,.inl ⟨rfl,rfl⟩⟩,λk hk=>hk.elim (λh=>by cases h) nk⟩
  |i+2,hi=>cases hi
 match i,hi with
 |0,hi=>cases hi;exact absurd hk λhk=>hk.elim (λh=>by cases h) nk
 |1,hi=>cases hi;exact absurd hk λhk=>hk.elim (λh=>by cases h) nk
 |i+2,hi=>cases hi
theorem Hu{l:List aV.Prod}{nx:Int->Int}{st:List TD}{seen:Nat}{t:Int}(h:(ko l nx st seen t).1≠0):(ko l nx st seen t).2=([],[]):=by
 rcases x6 (l:=l) (nx:=nx) (st:=st) (seen:=seen) (t:=t) rfl with⟨h1,h2⟩|⟨x,r,o,a1,h1,h2,h3,h4,h5,h6⟩
 exact h2;exact absurd (congrArg AQ h6) h
theorem YV{l:List aV.Prod}{nx:Int->Int}{st:List TD}(h:(jK l nx st).1≠0):(jK l nx st).2=[]:=by
 rcases GU (l:=l) (nx:=nx) (st:=st) rfl with⟨h1,h2⟩|⟨a1,h1,h2⟩
 exact h2;exact absurd h2 h
theorem wD{l:List aV.Prod}{act:Nat->Nat->bV.Act}{gt:Nat->Int->Int}{col a:Nat}:∀(f:Nat) (σ:List Nat) (o:List dV),(hJ l act gt col a f σ o).1≠0->(hJ l act gt col a f σ o).2=([],[])
 |0,σ,o,_=>by unfold hJ;rfl
 | f + 1,σ,o,h=>by
  unfold hJ at h⊢;split at h
  ·rename_i c;rw[if_pos c]
  rename_i c;rw[if_neg c]
  split at h;exact absurd I h
  rename_i c2;rw[if_neg c2]
  split at h
  ·rename_i c3;rw[if_pos c3]
   split at h
   ·rename_i c4;rw[if_pos c4]
   exact absurd I h
  rename_i c3;rw[if_neg c3]
  split at h
  ·rename_i c4;rw[if_pos c4]
   cases hr:BW l gt σ (act (σ.headD 0) col).2 with
   |none=>rfl
   | some σ'=>
    rw[hr]at h;dsimp only at h⊢;split at h
    ·rename_i c5;rw[if_pos c5]
    rename_i c5;rw[if_neg c5];exact wD f _ _ h
  rename_i c4;rw[if_neg c4]
def Zh(b:Bool)(seen:Nat)(e:Int)(p:PS)(o:List dV):Spec (Value×Value):=
 ⟨λ_=>True,λx=> .tuple #[tk x.1 ((if e=0 then seen+1 else seen:Nat):Int) e aE,x.2,av az e],λx=>[ql b x.1 p,lu x.2 o]⟩
def Zi(seen:Int)(e:Int)(o:List dV):Spec Value:=
 ⟨λ_=>True,λx=> .tuple #[tk (ap ak 0 0) seen e (decide (e=0)),x,av az e],λx=>[lu x o]⟩
theorem PQ(v vr vt:Value)(g:eL)(ll:List (List Int))(T N:Nat)(p:PS)(seen t:Nat)(w:World)(h:kz (λk=>k<w.heap.size) w v g)(hr:za w vr ll)(ht:TdR w vt p.1)(h0:Es g ll=0)(hg:aV.cL g=0)(hT:Ez g ll T N)(hs:∀d∈p.1,qZ g d)(hl:p.1.length<=60)(h1:seen<=1000000)(h2:t<T):
 Calls aC 138 #[v,vr,tk vt (seen:Int) 0 aE,av az (t:Int)] w (cY (Zh aD seen (ko g.aF (ja ll t) p.1 seen (t:Int)).1 ((ko g.aF (ja ll t) p.1 seen (t:Int)).2.1,p.2) (ko g.aF (ja ll t) p.1 seen (t:Int)).2.2) w):=by
 have hc:=BX v vr vt g ll T N p.1 seen t w h hr ht h0 hg hT hs hl h1 h2;have hb:=Hu (l:=g.aF) (nx:=ja ll t) (st:=p.1) (seen:=seen) (t:=(t:Int));generalize ko g.aF (ja ll t) p.1 seen (t:Int)=R at*;obtain⟨e,st,o⟩:=R;dsimp only at hb⊢
 by_cases c:e=0
 ·subst c;rw[Yk]at hc;exact hc
 ·rw[TH _ c]at hc
  have hb:=hb c;simp only[gH]at hb;obtain⟨rfl,rfl⟩:=hb;exact hc.mono λe' w' hm=>hm.to (Zh aD seen e ([],p.2) []) λx _=>⟨(ap ak 0 0,ap ak 0 0),trivial,by simp only[Zh,if_neg c],λw' ho=>nO.abn _ _ _ _ ho⟩
theorem TV(v vr vt:Value)(g:eL)(ll:List (List Int))(T N:Nat)(st:List TD)(seen:Nat)(w:World)(h:kz (λk=>k<w.heap.size) w v g)(hr:za w vr ll)(ht:TdR w vt st)(h0:Es g ll=0)(hg:aV.cL g=0)(hT:Ez g ll T N)(hs:∀d∈st,qZ g d)(hl:st.length<=60)(h1:seen<=1000000):
 Calls aC 144 #[v,vr,tk vt (seen:Int) 0 aE] w (cY (Zi (seen:Int) (jK g.aF (ja ll T) st).1 (jK g.aF (ja ll T) st).2) w):=by
 have hc:=EF v vr vt g ll T N st seen w h hr ht h0 hg hT hs hl h1;have hb:=YV (l:=g.aF) (nx:=ja ll T) (st:=st);generalize jK g.aF (ja ll T) st=R at*;obtain⟨e,o⟩:=R;dsimp only at hb⊢
 by_cases c:e=0
 ·subst c;rw[aa0]at hc;exact hc
 ·rw[Yl _ c]at hc
  obtain rfl:=hb c;exact hc.mono λe' w' hm=>hm.to (Zi (seen:Int) e []) λx _=>⟨ap ak 0 0,trivial,by simp only[Zi,decide_eq_false c],λw' ho=>(nO.abn 55 55 2 2 ho).pick [0] (by simp) I⟩
theorem abo(v t vs:Value)(g:eL)(T N:Nat)(A:List (List bV.Act))(G:List (List Int))(p:PS)(seen col:Nat)(w:World)(hG:kz (λk=>k<w.heap.size) w v g)(ht:AN w t A G)(hs:skR w vs p.2)(hT:rW g T N A G)(hq:∀q∈p.2,q<A.length)(hne:p.2≠[])(hl:p.2.length<=60)(hc:col<T)(hsn:seen<=1000000):
 Calls aC 139 #[v,t,vU vs (seen:Int) 0 aE,av az (col:Int)] w (cY (Zh aE seen (hJ g.aF (ji A) (fB G) col seen 2001 p.2 []).1 (p.1,(hJ g.aF (ji A) (fB G) col seen 2001 p.2 []).2.1) (hJ g.aF (ji A) (fB G) col seen 2001 p.2 []).2.2) w):=by
 have hc:=Je v t vs g T N A G p.2 seen col w hG ht hs hT hq hne hl hc hsn;have hb:=wD (l:=g.aF) (act:=ji A) (gt:=fB G) (col:=col) (a:=seen) 2001 p.2 [];generalize hJ g.aF (ji A) (fB G) col seen 2001 p.2 []=R at*;obtain⟨e,st,o⟩:=R;dsimp only at hb⊢
 by_cases c:e=0
 ·subst c;rw[Hb]at hc;exact hc
 ·rw[Hc c]at hc
  have hb:=hb c;simp only[gH]at hb;obtain⟨rfl,rfl⟩:=hb;exact hc.mono λe' w' hm=>hm.to (Zh aE seen e (p.1,[]) []) λx _=>⟨(ap ak 0 0,ap ak 0 0),trivial,by simp only[Zh,if_neg c];rfl,λw' ho=>nO.abn _ _ _ _ ho⟩
theorem adS(v t vs:Value)(g:eL)(T N:Nat)(A:List (List bV.Act))(G:List (List Int))(sb:List Nat)(seen:Nat)(w:World)(hG:kz (λk=>k<w.heap.size) w v g)(ht:AN w t A G)(hs:skR w vs sb)(hT:rW g T N A G)(hq:∀q∈sb,q<A.length)(hne:sb≠[])(hl:sb.length<=60)(hsn:seen<=1000000):
 Calls aC 145 #[v,t,vU vs (seen:Int) 0 aE] w (cY (Zi (seen:Int) (hJ g.aF (ji A) (fB G) T seen 2001 sb []).1 (hJ g.aF (ji A) (fB G) T seen 2001 sb []).2.2) w):=by
 have hc:=L1 v t vs g T N A G sb seen w hG ht hs hT hq hne hl hsn;have hb:=wD (l:=g.aF) (act:=ji A) (gt:=fB G) (col:=T) (a:=seen) 2001 sb [];generalize hJ g.aF (ji A) (fB G) T seen 2001 sb []=R at*;obtain⟨e,st,o⟩:=R;dsimp only at hb⊢
 by_cases c:e=0
 ·subst c;rw[LY]at hc;exact hc
 ·rw[LZ c]at hc
  have hb:=hb c;simp only[gH]at hb;obtain⟨rfl,rfl⟩:=hb;exact hc.mono λe' w' hm=>hm.to (Zi (seen:Int) e []) λx _=>⟨ap ak 0 0,trivial,by simp only[Zi,decide_eq_false c];rfl,λw' ho=>(nO.abn 55 55 2 2 ho).pick [0] (by simp) I⟩
end cZ
namespace cZ
open Go.RowKit dr eH aV ey fJ iT kF bV mW iy
open iU (Ev sa takeN Fp IT ot x9 G2)
theorem wE{v:Value}{a b:Int}(h:v.oneCell'=aD):([v,av az a,av az b]:List Value).all fG=true:=by
 simp only[dw,dA,h];rfl
theorem Jx{w:World}{e:TypeId}{c n:Nat}{v:Value}{xs:List Value}(h:(bD e c v n xs).holds w):∃a k,v=ap a n k:=by
 rcases h.2 with⟨rfl,rfl⟩|⟨g,cap,kg,rfl,_⟩
 exact⟨_,_,rfl⟩;exact⟨_,_,rfl⟩
theorem RB{w:World}{v:Value}{l:List Ev}(h:(lu v l).holds w):Sl w v l.length (l.flatMap tE):=Sl.dY h
theorem adT{a l:List Ev}{c g:Int}(h0:iU.cL a c g=0)(h1:l.any sa=aE)(h2:a.length+l.length<=4200):Fp a c g l=0:=by
 unfold Fp;rw[if_neg (by rw[h0];simp),if_neg (by rw[h1];decide),if_neg J]
section
variable{g:Nat}{vo:Value}{pk md:List Value}{vt vw:Value}{pc:List Value}(eA:pk.length=258)(oX:md.length=7)(wQ:pc.length=8)
include eA oX wQ
set_option maxRecDepth 100000 in
theorem oP(s:gX)(vl:Value)(l:List Ev)(hg:iU.cL s.wait s.cr s.gone=0)(hl:l.any sa=aE)(hn:s.wait.length+l.length<=4200)(w:World)(B:b9)(hm:Mem B [qm g vo pk md s vt pc vw,lu vw s.wait,lu vl l] w):
 Calls aC 140 #[aK (aj ⟨g,0,ak⟩),vl] w (dF ⟨λ_=>True,λ_=> .tuple #[],λJu=>wR g vo pk md {s with wait:=s.wait++l} vt pc Ju⟩ B):=by
 have La:=λw' (h1:(lu vw s.wait).holds w') (h2:(lu vl l).holds w')=>OU vw s.wait s.cr s.gone vl l w' (RB h1) J (RB h2);have hp:=adT hg hl hn;have Qr:IT s.wait s.cr s.gone l=s.wait++l:=by unfold IT;rw[if_pos hp]
 rw[hp,Qr]at La;obtain⟨m0,m1,m2,m3,m4,m5,m6,rfl⟩:=w9 oX;obtain⟨p0,p1,p2,p3,p4,p5,p6,p7,rfl⟩:=w_ wQ;refine dZ hm (args:=[aK (aj ⟨g,0,ak⟩),vl]) (n:=16) Tryz.func140 I I I ?_
 repeat(first|refine GA ?_|refine gV (bH (cs:=[vw,av az s.cr,av az s.gone]) aL.ty I I (λj v h=>aH (i:=0) I (lM 26 eA I h J))) ?_)
 refine a8 (gK aJ.en I I I) (λw' hm=>La w' (hm.get (i:=1) I) (hm.get (i:=2) I)) I I I ?_;intro v1 _
 conv=>arg 8;simp only[zJ,dg,ret,id_eq,OT,dg]
 conv=>arg 7;simp only[OT,dg,y6]
 try refine GA ?_
 refine aY (i:=3) I λ_ lm=>iV (i:=0) 26 (cs:=[v1,av az s.cr,av az s.gone]) I I I (wE lm) I I eA I I ?_;refine zL ?_
 try refine GA ?_
 exact lF I λw hm=>hm.cX (S:=⟨λ_=>True,λ_=> .tuple #[],λJu=>wR g vo pk [m0,m1,m2,m3,m4,m5,m6] {s with wait:=s.wait++l} vt [p0,p1,p2,p3,p4,p5,p6,p7] Ju⟩) v1 trivial [0,3] ahk rfl
set_option maxRecDepth 100000 in
theorem FJ(s:gX)(n:Int)(hg:iU.cL s.wait s.cr s.gone=0)(w:World)(B:b9)(hm:Mem B (wR g vo pk md s vt pc vw) w):
 Calls aC 26 #[aK (aj ⟨g,0,ak⟩),av az n] w (dF (BY g vo pk md (re s n) vt pc) B):=by
 obtain⟨k1,k2,k3,k4,k5,-⟩:=iU.de hg;have LQ:=λw' (h1:(lu vw s.wait).holds w')=>IY vw s.wait s.cr s.gone n w' (RB h1) J;obtain⟨m0,m1,m2,m3,m4,m5,m6,rfl⟩:=w9 oX;obtain⟨p0,p1,p2,p3,p4,p5,p6,p7,rfl⟩:=w_ wQ;obtain⟨aw,cw,rfl⟩:=Jx (hm.get (i:=1) rfl);unfold re
 by_cases c1:s.over=aD/\s.wait=[]
 ·rw[if_pos c1]
  obtain⟨c1,c2⟩:=c1;have c3:s.wait.length=0:=by rw[c2];rfl
  refine dZ hm (args:=[aK (aj ⟨g,0,ak⟩),av az n]) (n:=31) Tryz.func26 I I I ?_
  repeat(first|refine GA ?_|refine gV (aB (v:= .bool aD) aL.ty I (aH (i:=0) I (fE eA I (by rw[<-c1];rfl)))) ?_|refine gV (aB aL.ty I (aH (i:=0) I (fE eA I I))) ?_)
  exact da I I λw hm=>hm.cX (S:=BY g vo pk [m0,m1,m2,m3,m4,m5,m6] (s,15) vt [p0,p1,p2,p3,p4,p5,p6,p7]) _ trivial [0,1] ahk I
 rw[if_neg c1];have ab_:∀(S:Spec Value) (e c':Int),(∀v,S.ok v)->(∀v,S.val v=av az e)->(∀v,S.own v=wR g vo pk [m0,m1,m2,m3,m4,m5,m6] {s with cr:=c'} vt [p0,p1,p2,p3,p4,p5,p6,p7] v)->x9 s.wait s.cr s.gone n=c'->ot s.wait s.cr s.gone n=e->Calls aC 26 #[aK (aj ⟨g,0,ak⟩),av az n] w (dF S B):=by
  intro S e c' s1 s2 s3 e1 e2;rw[e1,e2]at LQ;have jM:∀v1 L w,L[0]?=aj (qm g vo pk [m0,m1,m2,m3,m4,m5,m6] {s with cr:=c'} vt [p0,p1,p2,p3,p4,p5,p6,p7] v1)->L[2]?=aj (lu v1 s.wait)->Mem B L w->dF S B (.returned (av az e)) w:=λv1 L w h0 h2 hm=>by
   rw[<-s2 v1];exact hm.cX v1 (s1 _) [0,2] ahk (by rw[s3];simp only[List.filterMap_cons,List.filterMap_nil,h0,h2])
  rcases(Bool.eq_false_or_eq_true s.over)with c2|c2
  ·have c3:¬s.wait.length=0:=λh=>c1 ⟨c2,List.eq_nil_of_length_eq_zero h⟩
   refine dZ hm (args:=[aK (aj ⟨g,0,ak⟩),av az n]) (n:=31) Tryz.func26 I I I ?_
   repeat(first|refine GA ?_|refine gV (aB (v:= .bool aD) aL.ty I (aH (i:=0) I (fE eA I (by rw[<-c2];rfl)))) ?_|refine gV (aB aL.ty I (aH (i:=0) I (fE eA I I))) ?_|refine gV (bH (cs:=[_,av az s.cr,av az s.gone]) aL.ty I I (λj v h=>aH (i:=0) I (lM 26 eA I h J))) ?_)
   refine a8 (gK aJ.en I I I) (λw' hm=>LQ w' (hm.get (i:=1) I)) I I I ?_;intro v1 _
   conv=>arg 8;simp only[zJ,dg,ret,id_eq,OT,dg]
   conv=>arg 7;simp only[OT,dg,y6]
   try refine GA ?_
   refine aY (i:=2) I λ_ lm=>iV (i:=0) 26 (cs:=[v1,av az c',av az s.gone]) I I I (wE lm) I I eA I I ?_;refine zL ?_
   try refine GA ?_
   exact da I I λw hm=>jM v1 _ w I I hm
  refine dZ hm (args:=[aK (aj ⟨g,0,ak⟩),av az n]) (n:=31) Tryz.func26 I I I ?_
  repeat(first|refine GA ?_|refine gV (aB (v:= .bool aE) aL.ty I (aH (i:=0) I (fE eA I (by rw[<-c2];rfl)))) ?_|refine gV (aB aL.ty I (aH (i:=0) I (fE eA I I))) ?_|refine gV (bH (cs:=[_,av az s.cr,av az s.gone]) aL.ty I I (λj v h=>aH (i:=0) I (lM 26 eA I h J))) ?_)
  refine a8 (gK aJ.en I I I) (λw' hm=>LQ w' (hm.get (i:=1) I)) I I I ?_;intro v1 _
  conv=>arg 8;simp only[zJ,dg,ret,id_eq,OT,dg]
  conv=>arg 7;simp only[OT,dg,y6]
  try refine GA ?_
  refine aY (i:=2) I λ_ lm=>iV (i:=0) 26 (cs:=[v1,av az c',av az s.gone]) I I I (wE lm) I I eA I I ?_;refine zL ?_
  try refine GA ?_
  exact da I I λw hm=>jM v1 _ w I I hm
 by_cases c2:n<1\/1073741824<n
 ·rw[if_pos c2]
  have e1:ot s.wait s.cr s.gone n=1:=by
   unfold ot;rw[if_neg (by rw[hg];simp)]
   by_cases c3:n<1
   rw[if_pos c3];rw[if_neg c3,if_pos J]
  exact ab_ _ 1 s.cr (λ_=>trivial) (λ_=>rfl) (λ_=>rfl) (by unfold x9;rw[if_neg (by rw[e1];decide)]) e1
 ·rw[if_neg c2]
  have e1:ot s.wait s.cr s.gone n=0:=by
   unfold ot;rw[if_neg (by rw[hg];simp),if_neg J,if_neg J]
  exact ab_ _ 0 _ (λ_=>trivial) (λ_=>rfl) (λ_=>rfl) (by unfold x9;rw[if_pos e1]) e1
set_option maxRecDepth 100000 in
theorem Jy(s:gX)(n:Int)(hg:iU.cL s.wait s.cr s.gone=0)(w:World)(B:b9)(hm:Mem B (wR g vo pk md s vt pc vw) w):
 Calls aC 30 #[aK (aj ⟨g,0,ak⟩),av az n] w (dF ⟨λ(_:Value×Value)=>True,λx=>x.2,λx=>wR g vo pk md (jO s n).1 vt pc x.1++[lu x.2 (jO s n).2]⟩ B):=by
 obtain⟨k1,k2,k3,k4,k5,-⟩:=iU.de hg;have rl:=λw' (h1:(lu vw s.wait).holds w')=>Lr vw s.wait s.cr s.gone n w' (RB h1) J;have yp:∀w',(lu vw s.wait).holds w'->Calls aC 70 #[y6 vw s.cr s.gone,av az n] w' (cY ⟨λ_=>True,λ(x:Value×Value)=> .tuple #[y6 x.1 (jO s n).1.cr (jO s n).1.gone,x.2,av az (if n<0 then 1 else 0)],λx=>[lu x.1 (jO s n).1.wait,lu x.2 (jO s n).2]⟩ w'):=by
  intro w' h1;have h:=rl w' h1;unfold taS G2 at h;simp only[hg,ne_eq,not_true_eq_false,if_false]at h;unfold jO
  by_cases c:n<0
  ·simp only[if_pos c]at h⊢
   exact h
  simp only[if_neg c]at h⊢;have hN:takeN s.wait s.cr n<=s.wait.length:=by unfold takeN;omega
  have e1:(s.wait.drop (takeN s.wait s.cr n)).length=s.wait.length-takeN s.wait s.cr n:=by simp
  have e2:(s.wait.take (takeN s.wait s.cr n)).length=takeN s.wait s.cr n:=by simp;omega
  unfold lu;rw[e1,e2];exact h
 have ZY:(jO s n).1={s with wait:=(jO s n).1.wait,cr:=(jO s n).1.cr,gone:=(jO s n).1.gone}:=by
  unfold jO;split<;>rfl
 rw[ZY];clear rl;generalize (jO s n).1.wait=W at*;generalize (jO s n).1.cr=C at*;generalize (jO s n).1.gone=G at*;generalize (jO s n).2=O at*;generalize (if n<0 then(1:Int)else 0)=E at*;obtain⟨m0,m1,m2,m3,m4,m5,m6,rfl⟩:=w9 oX;obtain⟨p0,p1,p2,p3,p4,p5,p6,p7,rfl⟩:=w_ wQ;refine dZ hm (args:=[aK (aj ⟨g,0,ak⟩),av az n]) (n:=19) Tryz.func30 I I I ?_
 repeat(first|refine GA ?_|refine gV (bH (cs:=[vw,av az s.cr,av az s.gone]) aL.ty I I (λj v h=>aH (i:=0) I (lM 26 eA I h J))) ?_)
 refine a8 (gK aJ.en I I I) (λw' hm=>yp w' (hm.get (i:=1) I)) I I I ?_;rintro⟨v1,v2⟩ _;refine zL ?_
 conv=>arg 7;simp only[y6]
 try refine GA ?_
 refine aY (i:=2) I λ_ lm=>iV (i:=0) 26 (cs:=[v1,av az C,av az G]) I I I (wE lm) I I eA I I ?_;refine zL ?_
 try refine GA ?_
 exact da I I λw hm=>hm.cX (S:=⟨λ_=>True,λ(x:Value×Value)=>x.2,λx=>wR g vo pk [m0,m1,m2,m3,m4,m5,m6] {s with wait:=W,cr:=C,gone:=G} vt [p0,p1,p2,p3,p4,p5,p6,p7] x.1++[lu x.2 O]⟩) (v1,v2) trivial [0,2,3] ahk rfl
end
set_option maxRecDepth 100000 in
theorem FK(x:Value)(m:Md){vo vn vt vp vr va vg ut up uq uw:Value}(T N:Nat)(hk:jN m aD T N)(g:Nat)(s:gX)(hp:Ry m aD s.p)(Fl:s.rm=0)(ND:s.rZ=aE)(t:Nat)(ha:s.seen<=1000000)(ht:t<T)(hg:iU.cL s.wait s.cr s.gone=0)(hw:s.wait.length<=2199)(w:World)(B:b9)(hR:n9 B λw=>Cu w x m vo vn vt vp vr va vg)
 (hm:Mem B [qm g vo (fw m.o vn vt) (gU m.g.aT m.g.bM vp m.mode vr va vg) s ut (jq aD s up uq) uw,ql aD up s.p,lu uw s.wait] w):
 Calls aC 105 #[aK (aj ⟨g,0,ak⟩),av az (t:Int)] w (dF ⟨λ(_:Value×Value)=>True,λ_=>av az (r7 m aD s (t:Int)).2,λx=>[ql aD x.1 (r7 m aD s (t:Int)).1.p,qm g vo (fw m.o vn vt) (gU m.g.aT m.g.bM vp m.mode vr va vg) (r7 m aD s (t:Int)).1 ut (jq aD (r7 m aD s (t:Int)).1 x.1 uq) x.2,lu x.2 (r7 m aD s (t:Int)).1.wait]⟩ B):=by
 have eA:(fw m.o vn vt).length=258:=gT _ _ _;have PR:=Jr hk hp (a:=s.seen) ha (t:=(t:Int)) J;have wV:(kO m aD s.p s.seen (t:Int)).2.2.length<=2001:=by
  by_cases c:(kO m aD s.p s.seen (t:Int)).1=0
  exact(wz hk hp J c).2;rw[show(kO m aD s.p s.seen (t:Int)).2.2=[]from congrArg AR (Hu c)];exact bO _
 obtain⟨p1,p2⟩:=hp;obtain⟨h1,h2⟩:=hk.ll rfl;have oX:m.mode=1:=hk.md;have hc:=λw' (hm:Mem B [qm g vo (fw m.o vn vt) (gU m.g.aT m.g.bM vp m.mode vr va vg) s ut (jq aD s up uq) uw,ql aD up s.p,lu uw s.wait] w')=>PQ _ vr up m.g m.rows T N s.p s.seen t w' (hR _ w' hm).AV (hR _ w' hm).rows (Sl.dY (hm.get (i:=1) I)) h1 hk.AV h2 p1 p2 ha ht;have hwt:=λ(s':gX) YW vl l h1 h2 h3 h4 w' B hm=>oP (g:=g) (vo:=vo) (vt:=ut) (vw:=uw) (pc:=YW) eA (show(gU m.g.aT m.g.bM vp m.mode vr va vg).length=7 from I) h4 s' vl l h1 h2 h3 w' B hm;unfold r7;rw[show kO m aD s.p s.seen (t:Int)=((ko m.g.aF (ja m.rows t) s.p.1 s.seen (t:Int)).1,((ko m.g.aF (ja m.rows t) s.p.1 s.seen (t:Int)).2.1,s.p.2),(ko m.g.aF (ja m.rows t) s.p.1 s.seen (t:Int)).2.2)from I]at PR wV⊢;generalize ko m.g.aF (ja m.rows t) s.p.1 s.seen (t:Int)=R at*;obtain⟨e,st,o⟩:=R;generalize fw m.o vn vt=PK at*;generalize m.g.aT=gt at*;generalize m.g.bM=gn at*;generalize m.mode=md at*;clear hR hk;dsimp only at PR wV⊢;obtain⟨kq,mh,eP,kG,ended,mv,d_,jc,lp,bad,eN,p,seen,rm,rZ,wait,cr,gone,over,gd,pl⟩:=s;dsimp only at*;subst Fl ND;refine dZ hm (args:=[aK (aj ⟨g,0,ak⟩),av az (t:Int)]) (n:=62) Tryz.func105 I I I ?_
 repeat(first|refine GA ?_|refine gV (aB (v:=av az md) aL.ty I (aH (i:=0) I (fE eA I I))) ?_)
 refine eo ([w8 g (jx vo PK (gU gt gn vp md vr va vg)) 168]) (.calm 0 (.calm 1 (.calm 2 (.calm 3 (.calm 4 (.calm 5 (.calm 6 (.calm 7 (.calm 8 (.calm 9 (.calm 10 (.calm 11 (.calm 12 (.calm 13 (.calm 15 (.one 14 (.one 16 (.calm 17 (.calm 18 (.calm 19 (.calm 20 (.calm 21 (.calm 22 (.one 23 (.calm 24 (.calm 25 (.done))))))))))))))))))))))))))) (eM (i:=0) I (ii _ _ _ _)) ?_
 repeat(first|refine GW ?_|(refine GN ?_;first|refine QW (bH (cs:=[av az gt,av az gn,vp]) aL.ty I I (λj v h=>mY (i:=0) I (lM 0 eA I h J))) ?_|refine QW (aB (v:=vr) aL.ty I (mY (i:=0) I (jA 4 eA I I))) ?_))
 refine aO I (aI (bH (cs:=[up,av az seen,av az 0,.bool aE]) aL.ty I I (λj v h=>aH (i:=0) I (lM 18 eA I h J))) I I I (aP (eM (i:=0) I (ii _ _ _ _)) ?_))
 try refine GW ?_
 refine aO I (a8 (RT aJ.en I I I I I) (λw hm=>hc w hm) I I I ?_);rintro⟨v1,v2⟩ _
 conv=>arg 8;simp only[zJ,dg,ret,id_eq,Zh]
 conv=>arg 7;simp only[Zh,tk]
 refine aP (eM (i:=0) I (ii _ _ _ _)) ?_
 try refine GW ?_
 refine aO I (aY (i:=3) I λ_ lm=>iV (i:=0) 18 (cs:=[v1,av az ((if e=0 then seen+1 else seen:Nat):Int),av az e,.bool aE]) (tl':=gU gt gn vp md vr va vg++rf ⟨kq,mh,eP,kG,ended,mv,d_,jc,lp,bad,eN,(st,p.2),if e=0 then seen+1 else seen,e,aE,wait,cr,gone,over,gd,pl⟩ ut (jq aD ⟨kq,mh,eP,kG,ended,mv,d_,jc,lp,bad,eN,(st,p.2),if e=0 then seen+1 else seen,e,aE,wait,cr,gone,over,gd,pl⟩ v1 uq) uw) I I I (Cx lm) I I eA I I ?_);refine zL ?_;refine aP (eM (i:=0) I (ii _ _ _ _)) ?_
 try refine GW ?_
 try refine GA ?_
 refine bK [0,2,4] [3] ahk I I (gK aJ.en I I I) (λw hm hb=>hwt ⟨kq,mh,eP,kG,ended,mv,d_,jc,lp,bad,eN,(st,p.2),if e=0 then seen+1 else seen,e,aE,wait,cr,gone,over,gd,pl⟩ (jq aD ⟨kq,mh,eP,kG,ended,mv,d_,jc,lp,bad,eN,(st,p.2),if e=0 then seen+1 else seen,e,aE,wait,cr,gone,over,gd,pl⟩ v1 uq) v2 o hg (sV.2 λy hy=>by rw[PR y hy];decide) (by show wait.length+o.length<=4200;omega) I w _ hb) I I I ?_;intro Ju _;refine zL ?_
 try refine GA ?_
 exact da I I λw hm=>hm.cX (S:=⟨λ_=>True,λ_=>av az e,λ(x:Value×Value)=>[ql aD x.1 (st,p.2),qm g vo PK (gU gt gn vp md vr va vg) ⟨kq,mh,eP,kG,ended,mv,d_,jc,lp,bad,eN,(st,p.2),if e=0 then seen+1 else seen,e,aE,wait++o,cr,gone,over,gd,pl⟩ ut (jq aD ⟨kq,mh,eP,kG,ended,mv,d_,jc,lp,bad,eN,(st,p.2),if e=0 then seen+1 else seen,e,aE,wait++o,cr,gone,over,gd,pl⟩ x.1 uq) x.2,lu x.2 (wait++o)]⟩) (v1,Ju) trivial [0,1,2] ahk I
set_option maxRecDepth 100000 in
theorem Jz(x:Value)(m:Md){vo vn vt vp vr va vg ut up uq uw:Value}(T N:Nat)(hk:jN m aD T N)(g:Nat)(s:gX)(hp:Ry m aD s.p)(Fl:s.rm=0)(ND:s.rZ=aE)(ha:s.seen<=1000000)(hg:iU.cL s.wait s.cr s.gone=0)(hw:s.wait.length<=2199)(w:World)(B:b9)(hR:n9 B λw=>Cu w x m vo vn vt vp vr va vg)
 (hm:Mem B [qm g vo (fw m.o vn vt) (gU m.g.aT m.g.bM vp m.mode vr va vg) s ut (jq aD s up uq) uw,ql aD up s.p,lu uw s.wait] w):
 Calls aC 108 #[aK (aj ⟨g,0,ak⟩)] w (dF ⟨λ(_:Value×Value)=>True,λ_=>av az (qk m aD s).2,λx=>[ql aD x.1 (qk m aD s).1.p,qm g vo (fw m.o vn vt) (gU m.g.aT m.g.bM vp m.mode vr va vg) (qk m aD s).1 ut (jq aD (qk m aD s).1 x.1 uq) x.2,lu x.2 (qk m aD s).1.wait]⟩ B):=by
 have eA:(fw m.o vn vt).length=258:=gT _ _ _;have PR:=PD hk hp (a:=s.seen) ha;have wV:(v7 m aD s.p s.seen).2.length<=2001:=by
  have:=EP hk hp (a:=s.seen)
  by_cases c:(v7 m aD s.p s.seen).1=0
  exact this.1 c;rw[this.2 c];exact bO _
 obtain⟨p1,p2⟩:=hp;obtain⟨h1,h2⟩:=hk.ll rfl;have oX:m.mode=1:=hk.md;have hc:=λw' (hm:Mem B [qm g vo (fw m.o vn vt) (gU m.g.aT m.g.bM vp m.mode vr va vg) s ut (jq aD s up uq) uw,ql aD up s.p,lu uw s.wait] w')=>TV _ vr up m.g m.rows T N s.p.1 s.seen  w' (hR _ w' hm).AV (hR _ w' hm).rows (Sl.dY (hm.get (i:=1) I)) h1 hk.AV h2 p1 p2 ha;have hwt:=λ(s':gX) YW vl l h1 h2 h3 h4 w' B hm=>oP (g:=g) (vo:=vo) (vt:=ut) (vw:=uw) (pc:=YW) eA (show(gU m.g.aT m.g.bM vp m.mode vr va vg).length=7 from I) h4 s' vl l h1 h2 h3 w' B hm;unfold qk;have hT:=hk.tT;rw[show v7 m aD s.p s.seen=jK m.g.aF (ja m.rows m.g.aT.toNat) s.p.1 from I,show m.g.aT.toNat=T by omega]at PR wV⊢;clear hT;generalize jK m.g.aF (ja m.rows T) s.p.1=R at*;obtain⟨e,o⟩:=R;generalize fw m.o vn vt=PK at*;generalize m.g.aT=gt at*;generalize m.g.bM=gn at*;generalize m.mode=md at*;clear hR hk;dsimp only at PR wV⊢;obtain⟨kq,mh,eP,kG,ended,mv,d_,jc,lp,bad,eN,p,seen,rm,rZ,wait,cr,gone,over,gd,pl⟩:=s;dsimp only at*;subst Fl ND;refine dZ hm (args:=[aK (aj ⟨g,0,ak⟩)]) (n:=58) Tryz.func108 I I I ?_
 repeat(first|refine GA ?_|refine gV (aB (v:=av az md) aL.ty I (aH (i:=0) I (fE eA I I))) ?_)
 refine eo ([w8 g (jx vo PK (gU gt gn vp md vr va vg)) 168]) (.calm 0 (.calm 1 (.calm 2 (.calm 3 (.calm 4 (.calm 5 (.calm 6 (.calm 7 (.calm 8 (.calm 9 (.calm 10 (.calm 11 (.calm 12 (.calm 13 (.one 14 (.one 15 (.calm 16 (.calm 17 (.calm 18 (.calm 19 (.calm 20 (.calm 21 (.one 22 (.calm 23 (.calm 24 (.done)))))))))))))))))))))))))) (eM (i:=0) I (ii _ _ _ _)) ?_
 repeat(first|refine GW ?_|(refine GN ?_;first|refine QW (bH (cs:=[av az gt,av az gn,vp]) aL.ty I I (λj v h=>mY (i:=0) I (lM 0 eA I h J))) ?_|refine QW (aB (v:=vr) aL.ty I (mY (i:=0) I (jA 4 eA I I))) ?_))
 refine aO I (aI (bH (cs:=[up,av az seen,av az 0,.bool aE]) aL.ty I I (λj v h=>aH (i:=0) I (lM 18 eA I h J))) I I I (aP (eM (i:=0) I (ii _ _ _ _)) ?_))
 try refine GW ?_
 refine aO I (a8 (tH aJ.en I I I I) (λw hm=>hc w hm) I I I ?_);intro v2 _
 conv=>arg 8;simp only[zJ,dg,ret,id_eq,Zi]
 conv=>arg 7;simp only[Zi,tk]
 refine aP (eM (i:=0) I (ii _ _ _ _)) ?_
 try refine GW ?_
 refine aO I (iV (i:=0) 18 (cs:=[ap ak 0 0,av az seen,av az e,.bool (decide (e=0))]) (tl':=gU gt gn vp md vr va vg++rf ⟨kq,mh,eP,kG,ended,mv,d_,jc,lp,bad,eN,yi aD p,seen,e,decide (e=0),wait,cr,gone,over,gd,pl⟩ ut (jq aD ⟨kq,mh,eP,kG,ended,mv,d_,jc,lp,bad,eN,yi aD p,seen,e,decide (e=0),wait,cr,gone,over,gd,pl⟩ (ap ak 0 0) uq) uw) I I I (Cx I) I I eA I I ?_);refine zL ?_;refine aP (eM (i:=0) I (ii _ _ _ _)) ?_
 try refine GW ?_
 try refine GA ?_
 refine bK [0,2,3] [1] ahk I I (gK aJ.en I I I) (λw hm hb=>hwt ⟨kq,mh,eP,kG,ended,mv,d_,jc,lp,bad,eN,yi aD p,seen,e,decide (e=0),wait,cr,gone,over,gd,pl⟩ (jq aD ⟨kq,mh,eP,kG,ended,mv,d_,jc,lp,bad,eN,yi aD p,seen,e,decide (e=0),wait,cr,gone,over,gd,pl⟩ (ap ak 0 0) uq) v2 o hg (sV.2 λy hy=>by rw[PR y hy];decide) (by show wait.length+o.length<=4200;omega) I w _ hb) I I I ?_;intro Ju _;refine zL ?_
 try refine GA ?_
 refine ef 231 4 ?_;exact da I I λw hm=>hm.cX (S:=⟨λ_=>True,λ_=>av az e,λ(x:Value×Value)=>[ql aD x.1 (yi aD p),qm g vo PK (gU gt gn vp md vr va vg) ⟨kq,mh,eP,kG,ended,mv,d_,jc,lp,bad,eN,yi aD p,seen,e,decide (e=0),wait++o,cr,gone,over,gd,pl⟩ ut (jq aD ⟨kq,mh,eP,kG,ended,mv,d_,jc,lp,bad,eN,yi aD p,seen,e,decide (e=0),wait++o,cr,gone,over,gd,pl⟩ x.1 uq) x.2,lu x.2 (wait++o)]⟩) (ap ak 0 0,Ju) trivial [3,1,2] ahk I
set_option maxRecDepth 100000 in
theorem FL(x:Value)(m:Md){vo vn vt vp vr va vg ut up uq uw:Value}(T N:Nat)(hk:jN m aE T N)(g:Nat)(s:gX)(hp:Ry m aE s.p)(Fl:s.rm=0)(ND:s.rZ=aE)(t:Nat)(ha:s.seen<=1000000)(ht:t<T)(hg:iU.cL s.wait s.cr s.gone=0)(hw:s.wait.length<=2199)(w:World)(B:b9)(hR:n9 B λw=>Cu w x m vo vn vt vp vr va vg)
 (hm:Mem B [qm g vo (fw m.o vn vt) (gU m.g.aT m.g.bM vp m.mode vr va vg) s ut (jq aE s up uq) uw,ql aE up s.p,lu uw s.wait] w):
 Calls aC 105 #[aK (aj ⟨g,0,ak⟩),av az (t:Int)] w (dF ⟨λ(_:Value×Value)=>True,λ_=>av az (r7 m aE s (t:Int)).2,λx=>[ql aE x.1 (r7 m aE s (t:Int)).1.p,qm g vo (fw m.o vn vt) (gU m.g.aT m.g.bM vp m.mode vr va vg) (r7 m aE s (t:Int)).1 ut (jq aE (r7 m aE s (t:Int)).1 x.1 uq) x.2,lu x.2 (r7 m aE s (t:Int)).1.wait]⟩ B):=by
 have eA:(fw m.o vn vt).length=258:=gT _ _ _;have PR:=Jr hk hp (a:=s.seen) ha (t:=(t:Int)) J;have wV:(kO m aE s.p s.seen (t:Int)).2.2.length<=2001:=by
  by_cases c:(kO m aE s.p s.seen (t:Int)).1=0
  exact(wz hk hp J c).2;rw[show(kO m aE s.p s.seen (t:Int)).2.2=[]from congrArg AR (wD _ _ _ c)];exact bO _
 obtain⟨p1,p2,p3⟩:=hp;have h2:=hk.lr I;have oX:m.mode=2:=hk.md;have hc:=λw' (hm:Mem B [qm g vo (fw m.o vn vt) (gU m.g.aT m.g.bM vp m.mode vr va vg) s ut (jq aE s up uq) uw,ql aE up s.p,lu uw s.wait] w')=>abo _ (aU #[va,vg]) up m.g T N m.A m.G s.p s.seen t w' (hR _ w' hm).AV (hR _ w' hm).py (Sl.dY (hm.get (i:=1) I)) h2 p2 p1 p3 ht ha;have hwt:=λ(s':gX) YW vl l h1 h2 h3 h4 w' B hm=>oP (g:=g) (vo:=vo) (vt:=ut) (vw:=uw) (pc:=YW) eA (show(gU m.g.aT m.g.bM vp m.mode vr va vg).length=7 from I) h4 s' vl l h1 h2 h3 w' B hm;unfold r7;rw[show kO m aE s.p s.seen (t:Int)=((hJ m.g.aF (ji m.A) (fB m.G) t s.seen 2001 s.p.2 []).1,(s.p.1,(hJ m.g.aF (ji m.A) (fB m.G) t s.seen 2001 s.p.2 []).2.1),(hJ m.g.aF (ji m.A) (fB m.G) t s.seen 2001 s.p.2 []).2.2)from I]at PR wV⊢;generalize hJ m.g.aF (ji m.A) (fB m.G) t s.seen 2001 s.p.2 []=R at*;obtain⟨e,st,o⟩:=R;generalize fw m.o vn vt=PK at*;generalize m.g.aT=gt at*;generalize m.g.bM=gn at*;generalize m.mode=md at*;clear hR hk;dsimp only at PR wV⊢;obtain⟨kq,mh,eP,kG,ended,mv,d_,jc,lp,bad,eN,p,seen,rm,rZ,wait,cr,gone,over,gd,pl⟩:=s;dsimp only at*;subst Fl ND;refine dZ hm (args:=[aK (aj ⟨g,0,ak⟩),av az (t:Int)]) (n:=62) Tryz.func105 I I I ?_
 repeat(first|refine GA ?_|refine gV (aB (v:=av az md) aL.ty I (aH (i:=0) I (fE eA I I))) ?_)
 refine eo ([w8 g (jx vo PK (gU gt gn vp md vr va vg)) 168]) (.calm 0 (.calm 1 (.calm 2 (.calm 3 (.calm 4 (.calm 5 (.calm 6 (.calm 7 (.calm 8 (.calm 9 (.calm 10 (.calm 11 (.calm 12 (.calm 13 (.calm 15 (.one 14 (.one 16 (.calm 17 (.calm 18 (.calm 19 (.calm 20 (.calm 21 (.calm 22 (.one 23 (.calm 24 (.calm 25 (.done))))))))))))))))))))))))))) (eM (i:=0) I (ii _ _ _ _)) ?_
 repeat(first|refine GW ?_|(refine GN ?_;first|refine QW (bH (cs:=[av az gt,av az gn,vp]) aL.ty I I (λj v h=>mY (i:=0) I (lM 0 eA I h J))) ?_|refine QW (bH (cs:=[va,vg]) aL.ty I I (λj v h=>mY (i:=0) I (lM 5 eA I h J))) ?_))
 refine aO I (aI (bH (cs:=[up,av az seen,av az 0,.bool aE]) aL.ty I I (λj v h=>aH (i:=0) I (lM 22 eA I h J))) I I I (aP (eM (i:=0) I (ii _ _ _ _)) ?_))
 try refine GW ?_
 refine aO I (a8 (RT aJ.en I I I I I) (λw hm=>hc w hm) I I I ?_);rintro⟨v1,v2⟩ _
 conv=>arg 8;simp only[zJ,dg,ret,id_eq,Zh]
 conv=>arg 7;simp only[Zh,tk]
 refine aP (eM (i:=0) I (ii _ _ _ _)) ?_
 try refine GW ?_
 refine aO I (aY (i:=3) I λ_ lm=>iV (i:=0) 22 (cs:=[v1,av az ((if e=0 then seen+1 else seen:Nat):Int),av az e,.bool aE]) (tl':=gU gt gn vp md vr va vg++rf ⟨kq,mh,eP,kG,ended,mv,d_,jc,lp,bad,eN,(p.1,st),if e=0 then seen+1 else seen,e,aE,wait,cr,gone,over,gd,pl⟩ ut (jq aE ⟨kq,mh,eP,kG,ended,mv,d_,jc,lp,bad,eN,(p.1,st),if e=0 then seen+1 else seen,e,aE,wait,cr,gone,over,gd,pl⟩ v1 uq) uw) I I I (Cx lm) I I eA I I ?_);refine zL ?_;refine aP (eM (i:=0) I (ii _ _ _ _)) ?_
 try refine GW ?_
 try refine GA ?_
 refine bK [0,2,4] [3] ahk I I (gK aJ.en I I I) (λw hm hb=>hwt ⟨kq,mh,eP,kG,ended,mv,d_,jc,lp,bad,eN,(p.1,st),if e=0 then seen+1 else seen,e,aE,wait,cr,gone,over,gd,pl⟩ (jq aE ⟨kq,mh,eP,kG,ended,mv,d_,jc,lp,bad,eN,(p.1,st),if e=0 then seen+1 else seen,e,aE,wait,cr,gone,over,gd,pl⟩ v1 uq) v2 o hg (sV.2 λy hy=>by rw[PR y hy];decide) (by show wait.length+o.length<=4200;omega) I w _ hb) I I I ?_;intro Ju _;refine zL ?_
 try refine GA ?_
 exact da I I λw hm=>hm.cX (S:=⟨λ_=>True,λ_=>av az e,λ(x:Value×Value)=>[ql aE x.1 (p.1,st),qm g vo PK (gU gt gn vp md vr va vg) ⟨kq,mh,eP,kG,ended,mv,d_,jc,lp,bad,eN,(p.1,st),if e=0 then seen+1 else seen,e,aE,wait++o,cr,gone,over,gd,pl⟩ ut (jq aE ⟨kq,mh,eP,kG,ended,mv,d_,jc,lp,bad,eN,(p.1,st),if e=0 then seen+1 else seen,e,aE,wait++o,cr,gone,over,gd,pl⟩ x.1 uq) x.2,lu x.2 (wait++o)]⟩) (v1,Ju) trivial [0,1,2] ahk I
set_option maxRecDepth 100000 in
theorem JA(x:Value)(m:Md){vo vn vt vp vr va vg ut up uq uw:Value}(T N:Nat)(hk:jN m aE T N)(g:Nat)(s:gX)(hp:Ry m aE s.p)(Fl:s.rm=0)(ND:s.rZ=aE)(ha:s.seen<=1000000)(hg:iU.cL s.wait s.cr s.gone=0)(hw:s.wait.length<=2199)(w:World)(B:b9)(hR:n9 B λw=>Cu w x m vo vn vt vp vr va vg)
 (hm:Mem B [qm g vo (fw m.o vn vt) (gU m.g.aT m.g.bM vp m.mode vr va vg) s ut (jq aE s up uq) uw,ql aE up s.p,lu uw s.wait] w):
 Calls aC 108 #[aK (aj ⟨g,0,ak⟩)] w (dF ⟨λ(_:Value×Value)=>True,λ_=>av az (qk m aE s).2,λx=>[ql aE x.1 (qk m aE s).1.p,qm g vo (fw m.o vn vt) (gU m.g.aT m.g.bM vp m.mode vr va vg) (qk m aE s).1 ut (jq aE (qk m aE s).1 x.1 uq) x.2,lu x.2 (qk m aE s).1.wait]⟩ B):=by
 have eA:(fw m.o vn vt).length=258:=gT _ _ _;have PR:=PD hk hp (a:=s.seen) ha;have wV:(v7 m aE s.p s.seen).2.length<=2001:=by
  have:=EP hk hp (a:=s.seen)
  by_cases c:(v7 m aE s.p s.seen).1=0
  exact this.1 c;rw[this.2 c];exact bO _
 obtain⟨p1,p2,p3⟩:=hp;have h2:=hk.lr I;have oX:m.mode=2:=hk.md;have hc:=λw' (hm:Mem B [qm g vo (fw m.o vn vt) (gU m.g.aT m.g.bM vp m.mode vr va vg) s ut (jq aE s up uq) uw,ql aE up s.p,lu uw s.wait] w')=>adS _ (aU #[va,vg]) up m.g T N m.A m.G s.p.2 s.seen  w' (hR _ w' hm).AV (hR _ w' hm).py (Sl.dY (hm.get (i:=1) I)) h2 p2 p1 p3 ha;have hwt:=λ(s':gX) YW vl l h1 h2 h3 h4 w' B hm=>oP (g:=g) (vo:=vo) (vt:=ut) (vw:=uw) (pc:=YW) eA (show(gU m.g.aT m.g.bM vp m.mode vr va vg).length=7 from I) h4 s' vl l h1 h2 h3 w' B hm;unfold qk;have hT:=hk.tT;rw[show v7 m aE s.p s.seen=((hJ m.g.aF (ji m.A) (fB m.G) m.g.aT.toNat s.seen 2001 s.p.2 []).1,(hJ m.g.aF (ji m.A) (fB m.G) m.g.aT.toNat s.seen 2001 s.p.2 []).2.2)from I,show m.g.aT.toNat=T by omega]at PR wV⊢;clear hT;generalize hJ m.g.aF (ji m.A) (fB m.G) T s.seen 2001 s.p.2 []=R at*;obtain⟨e,st,o⟩:=R;generalize fw m.o vn vt=PK at*;generalize m.g.aT=gt at*;generalize m.g.bM=gn at*;generalize m.mode=md at*;clear hR hk;dsimp only at PR wV⊢;obtain⟨kq,mh,eP,kG,ended,mv,d_,jc,lp,bad,eN,p,seen,rm,rZ,wait,cr,gone,over,gd,pl⟩:=s;dsimp only at*;subst Fl ND;refine dZ hm (args:=[aK (aj ⟨g,0,ak⟩)]) (n:=58) Tryz.func108 I I I ?_
 repeat(first|refine GA ?_|refine gV (aB (v:=av az md) aL.ty I (aH (i:=0) I (fE eA I I))) ?_)
 refine eo ([w8 g (jx vo PK (gU gt gn vp md vr va vg)) 168]) (.calm 0 (.calm 1 (.calm 2 (.calm 3 (.calm 4 (.calm 5 (.calm 6 (.calm 7 (.calm 8 (.calm 9 (.calm 10 (.calm 11 (.calm 12 (.calm 13 (.one 14 (.one 15 (.calm 16 (.calm 17 (.calm 18 (.calm 19 (.calm 20 (.calm 21 (.one 22 (.calm 23 (.calm 24 (.done)))))))))))))))))))))))))) (eM (i:=0) I (ii _ _ _ _)) ?_
 repeat(first|refine GW ?_|(refine GN ?_;first|refine QW (bH (cs:=[av az gt,av az gn,vp]) aL.ty I I (λj v h=>mY (i:=0) I (lM 0 eA I h J))) ?_|refine QW (bH (cs:=[va,vg]) aL.ty I I (λj v h=>mY (i:=0) I (lM 5 eA I h J))) ?_))
 refine aO I (aI (bH (cs:=[up,av az seen,av az 0,.bool aE]) aL.ty I I (λj v h=>aH (i:=0) I (lM 22 eA I h J))) I I I (aP (eM (i:=0) I (ii _ _ _ _)) ?_))
 try refine GW ?_
 refine aO I (a8 (tH aJ.en I I I I) (λw hm=>hc w hm) I I I ?_);intro v2 _
 conv=>arg 8;simp only[zJ,dg,ret,id_eq,Zi]
 conv=>arg 7;simp only[Zi,tk]
 refine aP (eM (i:=0) I (ii _ _ _ _)) ?_
 try refine GW ?_
 refine aO I (iV (i:=0) 22 (cs:=[ap ak 0 0,av az seen,av az e,.bool (decide (e=0))]) (tl':=gU gt gn vp md vr va vg++rf ⟨kq,mh,eP,kG,ended,mv,d_,jc,lp,bad,eN,yi aE p,seen,e,decide (e=0),wait,cr,gone,over,gd,pl⟩ ut (jq aE ⟨kq,mh,eP,kG,ended,mv,d_,jc,lp,bad,eN,yi aE p,seen,e,decide (e=0),wait,cr,gone,over,gd,pl⟩ (ap ak 0 0) uq) uw) I I I (Cx I) I I eA I I ?_);refine zL ?_;refine aP (eM (i:=0) I (ii _ _ _ _)) ?_
 try refine GW ?_
 try refine GA ?_
 refine bK [0,2,3] [1] ahk I I (gK aJ.en I I I) (λw hm hb=>hwt ⟨kq,mh,eP,kG,ended,mv,d_,jc,lp,bad,eN,yi aE p,seen,e,decide (e=0),wait,cr,gone,over,gd,pl⟩ (jq aE ⟨kq,mh,eP,kG,ended,mv,d_,jc,lp,bad,eN,yi aE p,seen,e,decide (e=0),wait,cr,gone,over,gd,pl⟩ (ap ak 0 0) uq) v2 o hg (sV.2 λy hy=>by rw[PR y hy];decide) (by show wait.length+o.length<=4200;omega) I w _ hb) I I I ?_;intro Ju _;refine zL ?_
 try refine GA ?_
 refine ef 3 1 ?_;exact da I I λw hm=>hm.cX (S:=⟨λ_=>True,λ_=>av az e,λ(x:Value×Value)=>[ql aE x.1 (yi aE p),qm g vo PK (gU gt gn vp md vr va vg) ⟨kq,mh,eP,kG,ended,mv,d_,jc,lp,bad,eN,yi aE p,seen,e,decide (e=0),wait++o,cr,gone,over,gd,pl⟩ ut (jq aE ⟨kq,mh,eP,kG,ended,mv,d_,jc,lp,bad,eN,yi aE p,seen,e,decide (e=0),wait++o,cr,gone,over,gd,pl⟩ x.1 uq) x.2,lu x.2 (wait++o)]⟩) (ap ak 0 0,Ju) trivial [3,1,2] ahk I
end cZ
namespace cZ
open Go.RowKit dr eH dq mW
def EW(R:List Tok×Nat×Int):Spec Value:=⟨λ_=>True,λv=> .tuple #[aU (iq (R.2.1:Int) [] (if R.2.2=0 then 15 else 9)).toArray,v,av az R.2.2],λv=>[EN v R.1]⟩
theorem FM(o:Of)(vn vt:Value)(N:List (List Int))(tags:List Int)(a0:Nat)(u0:List UInt8)(w:World)(h:Ui w vn vt N tags)(hc:zg o N tags=0)(ho:∀b (h:b<256),o[b]<256)(ha0:a0<=1099511627776)(hu0:u0.length<=64):
 Calls aC 107 #[MP o vn vt,aU (iq (a0:Int) u0 0).toArray] w (cY (EW (jK o N tags (u0.length+1) a0 u0)) w):=by
 have jr:=λw' (hg:Gr w w')=>tu o vn vt N tags (a0:Int) u0 0 w' (h.gr hg) ho J;rw[RA hc ha0 hu0]at jr;have Bd:=λ(u:List UInt8) (hu:u.length<=65) w' (hg:Gr w w')=>ET o vn vt N tags u w' (h.gr hg) (AU hc) J;have hcut:=λa u r t w' (ha:a<=9223372036854775) ht hu=>Ho a u 0 r t w' ha ht hu;have hbE:=BA;obtain⟨⟨an,cn,rfl,-⟩,at',ct,rfl,-⟩:=h;refine enter (args:=[MP o (ap an N.length cn) (ap at' tags.length ct),aU (iq (a0:Int) u0 0).toArray]) (n:=52) Tryz.func107 I I I ?_;refine bC (aM (b_ I I I λg2=>b_ I I I λg3=>bz I λg4=>?_));refine zL ?_
 repeat(first|refine GA ?_|refine gV (aQ (i:=0) aL.ty I I (kM _ _ _)) ?_|refine gV (aQ (i:=1) aL.ty I I I) ?_)
 refine a8 (gK aJ.en I I I) (λw hm=>jr _ hm.below) I I I ?_;intro _ _;refine zL ?_;clear jr
 repeat(first|refine GC ?_|refine gV (bm (b:=aE) I I (decide_eq_false ahk)) ?_|refine GB ?_)
 refine jy 53 3 ?_
 conv=>arg 7;simp only[zA,zB,zC,zD,zE,zF,zG,zH,zI,dg,ret,id_eq]
 generalize jM:jK o N tags (u0.length+1) a0 u0=fin;refine eK (ι:=Nat×Nat×List UInt8×List Tok×Value) (λ(f,a,u,out,_)=>u.length<f/\u.length<=64/\a+u.length<=1099511627840/\out.length<=a/\(out++(jK o N tags f a u).1,(jK o N tags f a u).2)=fin) (λ(_,_,_,_,v)=>[(2,aK (aj ⟨g2,0,ak⟩)),(3,aK (aj ⟨g3,0,ak⟩)),(4,aK (aj ⟨g4,0,ak⟩)),(8,v)])
  (λ(_,a,u,out,v)=>[aR g2 (fw o (ap an N.length cn) (ap at' tags.length ct)).toArray 30,aR g3 (iq (a:Int) u 0).toArray 164,aR g4 (iq 0 [] 0).toArray 164,EN v out]) (λ(f,_,_,_,_)=>f) (u0.length+1,a0,u0,[],ap ak 0 0) ⟨Nat.lt_succ_self _,hu0,by show a0+u0.length<=_;omega,bO _,by rw[jM];rfl⟩ ?_
 clear jM;rintro⟨f,a,u,out,v⟩ ⟨j1,j2,j3,j4,j5⟩;dsimp only at j1 j2 j3 j4 j5⊢;obtain⟨f,rfl⟩:∃f',f=f'+1:=⟨f-1,by omega⟩;rw[ER]at j5
 by_cases c1:u=[]
 ·rw[if_pos c1]at j5
  have j5:(out++[],a,(0:Int))=fin:=j5;rw[eB]at j5;subst j5
  repeat(first|refine GC ?_|refine gV (aB (v:=str u) aL.ty I (aH (i:=1) I I)) ?_|refine gV (kV (b:=aE) I I (decide_eq_false (λh=>h c1))) ?_|refine gV (aB (v:=av az (a:Int)) aL.ty I (aH (i:=1) I I)) ?_|refine gV (bP I (hbE _ _)) ?_|refine GB ?_)
  refine il 2 (cs':=(iq (a:Int) [] 15).toArray) ?_;refine zL ?_
  try refine GA ?_
  exact fN (i:=2) I I I I I I λw hm=>hm.meets (S:=EW (out,a,0)) v trivial [3] ahk I
 ·rw[if_neg c1]at j5
  have hto:=zh o N tags u;have JS:=Bd u J;generalize eY o N tags u=lk at*;obtain⟨⟨r,t⟩,sr⟩:=lk;dsimp only at hto JS j5
  repeat(first|refine GC ?_|refine gV (aB (v:=str u) aL.ty I (aH (i:=1) I I)) ?_|refine gV (kV (b:=aD) I I (decide_eq_true c1)) ?_|refine gV (aQ (i:=0) aL.ty I I (kM _ _ _)) ?_|refine GB ?_)
  refine a8 (gK aJ.en I I I) (λw hm=>JS _ hm.below) I I I ?_;intro _ _;refine zL ?_
  by_cases c2:t=0
  ·rw[if_pos c2]at j5
   have j5:(out++[],a,(9:Int))=fin:=j5;rw[eB]at j5;subst j5 c2;clear JS
   repeat(first|refine GC ?_|refine gV (aX (b:=aD) I I (decide_eq_true I)) ?_|refine gV (aB (v:=av az (a:Int)) aL.ty I (aH (i:=1) I I)) ?_|refine gV (bP I (hbE _ _)) ?_|refine GB ?_)
   refine il 2 (cs':=(iq (a:Int) [] 9).toArray) ?_;refine zL ?_
   try refine GA ?_
   exact fN (i:=2) I I I I I I λw hm=>hm.meets (S:=EW (out,a,9)) v trivial [3] ahk I
  rw[if_neg c2]at j5;have ht:=hto.resolve_left c2;have hct:=hcut a u r t;have X_:(u.drop t).length=u.length-t:=iv ..;clear JS Bd hcut
  repeat(first|refine GC ?_|refine gV (aX (b:=aE) I I (decide_eq_false J)) ?_|refine GB ?_)
  refine bz I λg15=>?_;refine zL ?_
  repeat(first|refine GA ?_|refine gV (aQ (i:=1) aL.ty I I I) ?_)
  refine a8 (tH aJ.en I I I I) (λw hm=>hct w J ht.2 J) I I I ?_;intro _ _;refine zL ?_
  try refine GA ?_
  refine il 1 (cs':=(iq ((a+t:Nat):Int) (u.drop t) 0).toArray) ?_;refine zL ?_
  try refine GA ?_
  refine il 4 (cs':=(s_ (r,a,a+t)).toArray) ?_;refine zL ?_
  repeat(first|refine GA ?_|refine gV (aQ (i:=4) aL.ty I I I) ?_)
  refine jH (i:=3) I I I I I I I (λz h=>by cases h;rfl) J J I λz v2=>?_;refine zL ?_
  try refine GA ?_
  refine dS [0,1,2,3] ?_;exact cJ (f,a+t,u.drop t,out++[(r,a,a+t)],v2) ⟨by show(u.drop t).length<f;omega,by show(u.drop t).length<=64;omega,by show a+t+(u.drop t).length<=1099511627840;omega,by show(out++[(r,a,a+t)]).length<=a+t;rw[bT];simp;omega,by rw[eZ];exact j5⟩ (by show f<f+1;omega) (hl:=by dsimp only;rw[Hl];rfl)
end cZ
namespace cZ
open Go.RowKit dr eH aV ey fJ iT kF bV mW iy dq
open iU (Ev sa takeN)
abbrev toP(v:Value)(l:List Tok):cU:=q7 53 3 v l.length (l.flatMap s_)
abbrev iy(b:Bool)(g:Nat)(vo:Value)(pk md:List Value)(s:gX)(ut up uq uw:Value):List cU:=[qm g vo pk md s ut (jq b s up uq) uw,toP ut s.eN,ql b up s.p,lu uw s.wait]
theorem Mr(vo:Value)(pk md:List Value)(s:gX)(vt:Value)(pc:List Value)(vw:Value):∃q,(jx vo pk (md++rf s vt pc vw)).toArray=(jx vo pk (md++[av az s.kq,av az s.mh,av az s.eP,str s.kG,.bool s.ended,.bool s.mv,av az s.d_,str s.jc,av az s.lp,av az s.bad])++q).toArray:=
 ⟨vt::(pc++[vw,av az s.cr,av az s.gone,.bool s.over,av az s.gd,av az s.pl]),by simp[jx,rf]⟩
def tG(b:Bool)(g:Nat)(vo:Value)(pk md:List Value)(s:gX)(uq:Value):Spec (Value×Value×Value):=⟨λ_=>True,λ_=> .tuple #[],λx=>iy b g vo pk md s x.1 x.2.1 uq x.2.2⟩
theorem PT{w:World}{e:TypeId}{size:Nat}{v:Value}{n:Nat}{xs:List Value}(h:pR w e size v n xs)(hn:0<n):∃g off cap,v=ap (aj ⟨g,off,ak⟩) n cap/\n<=cap:=by
 rcases h.2 with⟨rfl,rfl⟩|⟨g,off,cap,kg,rfl,hg,h1,h2,h3,h4⟩
 exact absurd hn (Nat.lt_irrefl _);exact⟨g,off,cap,rfl,h1⟩
theorem adU{t:Tok}{l:List Tok}{j:Nat}{v:Value}(h:(s_ t)[j]?=aj v):((t::l).flatMap s_)[j]?=aj v:=by
 rw[List.flatMap_cons,fH (dv.1 h).1];exact h
theorem zq{m:Md}{b:Bool}{s:gX}(h:iM m b s):iU.cL s.wait s.cr s.gone=0:=by
 obtain⟨h1,h2,h3,h4,h5,h6,h7,h8,h9,LI,JB,PU,RC,Ms,Mt⟩:=h;have:(s.seen:Int)<=4096:=by omega
 have:(s.gone:Int)<=1099511627776:=by
  have h16:((s.seen:Int)+if s.over=aD then 1 else 0)<=4097:=by split<;>omega
  generalize ((s.seen:Int)+if s.over=aD then 1 else 0)=k at*;omega
 unfold iU.cL;rw[if_neg J,if_neg J,if_neg J,if_neg J,if_neg J,if_neg (by rw[JB];decide)]
theorem Mu(l:List Tok):∀u∈l.flatMap s_,u.oneCell'=true:=by
 intro u hu;obtain⟨t,_,h⟩:=uB.1 hu;simp only[s_,ez,iD,or_false]at h;rcases h with rfl|rfl|rfl<;>rfl
theorem tb{P:Program}{n:Nat}{W:b9}{fr:Fr}{L:List cU}{Q:Exit->Act->World->Prop}{ops:Array Oper}{rest:List Oper}{ty:TypeId}{pos:String}{after:Array Edge}{t:TypeId}{p x:Operand}{i g k:Nat}{vo:Value}{pk tl tl':List Value}{T:TypeId}{agg:Bool}{v:Value}(j:Nat)[hT:aL P t agg 1](hi:L[i]?=aj (aR g (jx vo pk tl).toArray T))(hp:ev fr p=aj (aK (aj ⟨g,k,ak⟩)))(hx:ev fr x=aj v)(hv:v.cells=#[v])(h1:v.oneCell'=aD)(hk:k=j+259)(eA:pk.length=258)(hj:Nat.blt j tl.length=aD)(he:tl.set j v=tl')
 (h:TL P n W ops Q rest fr (L.set i (aR g (jx vo pk tl').toArray T))):TL P n W ops Q (⟨ak,.store t p x,ty,pos,after,ak⟩::rest) fr L:=by
 subst he;exact eI j hi hp hx hv h1 hk eA hj h
section
variable{g:Nat}{vo:Value}{pk md:List Value}{vt vw:Value}{pc:List Value}(eA:pk.length=258)(oX:md.length=7)(wQ:pc.length=8)
include eA oX wQ
set_option maxRecDepth 100000 in
theorem JC(s:gX)(e:Int)(pl:Nat)(w:World)(B:b9)(hm:Mem B [qm g vo pk md s vt pc vw] w):
 Calls aC 104 #[aK (aj ⟨g,0,ak⟩),av az e,av az (pl:Int)] w (dF ⟨λ(_:Unit)=>True,λ_=> .tuple #[],λ_=>[qm g vo pk md (tr s e pl) vt pc vw]⟩ B):=by
 have hst:=λw' B hm=>oO (g:=g) (vo:=vo) (vt:=vt) (vw:=vw) eA oX wQ s e pl w' B hm;unfold tr
 by_cases c:e≠0
 ·rw[if_pos c]
  refine dZ hm (args:=[aK (aj ⟨g,0,ak⟩),av az e,av az (pl:Int)]) (n:=12) Tryz.func104 I I I ?_
  try refine GA ?_
  refine bK [0] [] ahk I I (tH aJ.en I I I I) (λw hm hb=>hst w _ hb) I I I ?_;intro _ _;refine zL ?_
  try refine GA ?_
  exact lF I λw hm=>hm.cX (S:=⟨λ(_:Unit)=>True,λ_=> .tuple #[],λ_=>[qm g vo pk md (lg s e pl) vt pc vw]⟩) () trivial [0] ahk I
 ·rw[if_neg c]
  refine dZ hm (args:=[aK (aj ⟨g,0,ak⟩),av az e,av az (pl:Int)]) (n:=12) Tryz.func104 I I I ?_
  try refine GA ?_
  exact lF I λw hm=>hm.cX (S:=⟨λ(_:Unit)=>True,λ_=> .tuple #[],λ_=>[qm g vo pk md s vt pc vw]⟩) () trivial [0] ahk I
end
def psX(b:Bool)(g:Nat)(vo:Value)(pk md:List Value)(R:gX×Int)(ut uq:Value):Spec (Value×Value):=⟨λ_=>True,λ_=>av az R.2,λx=>[ql b x.1 R.1.p,qm g vo pk md R.1 ut (jq b R.1 x.1 uq) x.2,lu x.2 R.1.wait]⟩
theorem JD(x:Value)(m:Md){vo vn vt vp vr va vg ut up uq uw:Value}(b:Bool)(T N:Nat)(hk:jN m b T N)(g:Nat)(s:gX)(hp:Ry m b s.p)(Fl:s.rm=0)(ND:s.rZ=aE)(t:Nat)(ha:s.seen<=1000000)(ht:t<T)(hg:iU.cL s.wait s.cr s.gone=0)(hw:s.wait.length<=2199)(w:World)(B:b9)(hR:n9 B λw=>Cu w x m vo vn vt vp vr va vg)
 (hm:Mem B [qm g vo (fw m.o vn vt) (gU m.g.aT m.g.bM vp m.mode vr va vg) s ut (jq b s up uq) uw,ql b up s.p,lu uw s.wait] w):
 Calls aC 105 #[aK (aj ⟨g,0,ak⟩),av az (t:Int)] w (dF (psX b g vo (fw m.o vn vt) (gU m.g.aT m.g.bM vp m.mode vr va vg) (r7 m b s (t:Int)) ut uq) B):=by
 cases b
 ·exact FL x m T N hk g s hp Fl ND t ha ht hg hw w B hR hm
 ·exact FK x m T N hk g s hp Fl ND t ha ht hg hw w B hR hm
theorem Mv(x:Value)(m:Md){vo vn vt vp vr va vg ut up uq uw:Value}(b:Bool)(T N:Nat)(hk:jN m b T N)(g:Nat)(s:gX)(hp:Ry m b s.p)(Fl:s.rm=0)(ND:s.rZ=aE)(ha:s.seen<=1000000)(hg:iU.cL s.wait s.cr s.gone=0)(hw:s.wait.length<=2199)(w:World)(B:b9)(hR:n9 B λw=>Cu w x m vo vn vt vp vr va vg)
 (hm:Mem B [qm g vo (fw m.o vn vt) (gU m.g.aT m.g.bM vp m.mode vr va vg) s ut (jq b s up uq) uw,ql b up s.p,lu uw s.wait] w):
 Calls aC 108 #[aK (aj ⟨g,0,ak⟩)] w (dF (psX b g vo (fw m.o vn vt) (gU m.g.aT m.g.bM vp m.mode vr va vg) (qk m b s) ut uq) B):=by
 cases b
 ·exact JA x m T N hk g s hp Fl ND ha hg hw w B hR hm
 ·exact Jz x m T N hk g s hp Fl ND ha hg hw w B hR hm
set_option maxRecDepth 100000 in
theorem Mw(x:Value)(m:Md){vo vn vt vp vr va vg ut up uq uw:Value}(b:Bool)(T N:Nat)(hk:jN m b T N)(g:Nat)(s:gX)(hs:iM m b s)(lp:s.over=aE)(t:Tok)(l:List Tok)(rl:s.eN=t::l)(hw:s.wait.length<200)(w:World)(B:b9)(hR:n9 B λw=>Cu w x m vo vn vt vp vr va vg)
 (hm:Mem B (iy b g vo (fw m.o vn vt) (gU m.g.aT m.g.bM vp m.mode vr va vg) s ut up uq uw) w):
 Calls aC 69 #[aK (aj ⟨g,0,ak⟩)] w (dF (tG b g vo (fw m.o vn vt) (gU m.g.aT m.g.bM vp m.mode vr va vg) (jL m b s) uq) B):=by
 have eA:(fw m.o vn vt).length=258:=gT _ _ _;obtain⟨l1,l2,l3⟩:=hs.live lp;have J9:=zq hs;have hse:s.seen<=4096:=by have:=hs.seen;have:=hs.kG;have:=hs.BO;have:=hs.kq;omega
 have htr:=hs.tok t (by rw[rl];exact ir ..);have SA:=(hR _ w hm).of;have Pz:=hk.ofs;have htT:=hk.tT;have hpu:=λoL n hn w' B hR hm=>JD x m (ut:=oL) (up:=up) (uq:=uq) (uw:=uw) (vo:=vo) (vn:=vn) (vt:=vt) (vp:=vp) (vr:=vr) (va:=va) (vg:=vg) b T N hk g {s with eN:=l} l3 l1 l2 n (by show s.seen<=_;omega) hn J9 (by show s.wait.length<=_;omega) w' B hR hm;have htd:=λ(s':gX) oL Ju YW (e:Int) pl h8 w' B hm=>JC (g:=g) (vo:=vo) (vt:=oL) (vw:=Ju) (pc:=YW) eA (show(gU m.g.aT m.g.bM vp m.mode vr va vg).length=7 from I) h8 s' e pl w' B hm;have Fa:jL m b s=if tF m t<0 then {s with eN:=l}else tr (r7 m b {s with eN:=l} (tF m t)).1 (r7 m b {s with eN:=l} (tF m t)).2 t.2.1:=by
  unfold jL;rw[rl]
 rw[Fa];have mw:=hm.get (i:=1) I;unfold iy at hm;rw[rl]at hm mw;obtain⟨bt,off,cap,rfl,lR⟩:=PT mw (Ef _);obtain⟨r0,fr,tt⟩:=t;dsimp only at htr;obtain⟨r,rfl⟩:∃r:Nat,r0=r:=⟨r0.toNat,by omega⟩;obtain⟨ao,co,rfl,mL,B9,Zu⟩:=SA;obtain⟨b1,o1,rfl,hro⟩:=Zu J;have hr:r<m.of.length:=by omega
 have afH:∀L:List cU,At B L ⟨b1,o1+r*1+0,ak⟩ (av az m.of[r]):=λL w' rB=>by
  obtain⟨ao',co',e,_,_,fl⟩:=(hR L w' rB).of
  cases e
  obtain⟨b2,o2,e,hro⟩:=fl J
  cases e
  have:=hro (r*1+0) (av az m.of[r]) (by rw[ui PB m.of r 0 hr ahk];rfl)
  rwa [<-l6]at this
 have hxx:=Pz _ (cV hr);have hox:tF m ((r:Int),fr,tt)=m.of[r]:=by unfold tF;rw[cK,show((r:Int),fr,tt).1.toNat=r from I,bQ hr,lf]
 rw[hox];generalize m.of[r]=x at*;clear Fa hox hro Zu Pz hs mw;unfold maxLen at B9;simp only[dE]at hm lR;have ij:∀(L:List cU) (i:Nat),L[i]?=aj (toP (ap (aj ⟨bt,off,ak⟩) (l.length+1) cap) (((r:Int),fr,tt)::l))->∀j u,(s_ ((r:Int),fr,tt))[j]?=aj u->At B L ⟨bt,off+0*3+j,ak⟩ u:=λL i hi j u hu=>by
  rw[Nat.zero_mul,iO];exact Tl hi (adU hu)
 cases b
 all_goals
  refine dZ hm (args:=[aK (aj ⟨g,0,ak⟩)]) (n:=160) Tryz.func69 I I I ?_
  repeat(first|refine GA ?_|refine gV (aB aL.ty I (aH (i:=0) I (fE eA I I))) ?_|refine gV (a_ (j:=0) bR.eq aL.ty I I (Ef _)) ?_|refine gV (bH aL.ty I I (ij _ 1 I)) ?_)
  refine bz I λg2=>?_;refine zL ?_;refine il 4 (cs':=(s_ ((r:Int),fr,tt)).toArray) ?_;refine zL ?_
  repeat(first|refine GC ?_|refine gV (aB aL.ty I (aH (i:=0) I (fE eA I I))) ?_|refine gV (oR (i:=1) bR.eq aL.ty I I (PO (bO _)) lR) ?_|refine GB ?_)
  refine eI (i:=0) 17 I I I I I I eA I ?_;refine Xt 1 I ?_;refine zL ?_
  by_cases c1:x<0
  ·rw[if_pos c1]
   try refine GA ?_
   refine eo ([qm g (ap (aj ⟨b1,o1,ak⟩) m.of.length co) (fw m.o vn vt) (gU m.g.aT m.g.bM vp m.mode vr va vg) {s with eN:=l} (tB (aj ⟨bt,off,ak⟩) cap 3 1 (l.length+1)) (jq _ s up uq) uw,aR g2 (s_ ((r:Int),fr,tt)).toArray 53]) (.calm 0 (.calm 1 (.calm 2 (.calm 3 (.calm 4 (.calm 5 (.calm 6 (.calm 7 (.calm 8 (.calm 9 (.done))))))))))) (cH [0,4]) ?_
   repeat(first|refine GW ?_|(refine GN ?_;first|refine QW (aB (v:=ap (aj ⟨b1,o1,ak⟩) m.of.length co) aL.ty I (aH (i:=0) I I)) ?_|refine QW (aB (v:=av az (r:Int)) aL.ty I (aH (i:=1) I I)) ?_|refine QW (a_ bR.eq aL.ty I I hr) ?_|refine QW (aB (v:=av az x) aL.ty I (afH _)) ?_))
   try refine GA ?_
   exact lF I λw hm=>hm.cX (S:=tG _ g (ap (aj ⟨b1,o1,ak⟩) m.of.length co) (fw m.o vn vt) (gU m.g.aT m.g.bM vp m.mode vr va vg) {s with eN:=l} uq) (tB (aj ⟨bt,off,ak⟩) cap 3 1 (l.length+1),up,uw) trivial [0,1,2,3] ahk rfl
  ·rw[if_neg c1]
   obtain⟨tn,rfl⟩:∃tn:Nat,x=tn:=⟨x.toNat,by omega⟩;have hpu:=λoL w' B hR hm=>hpu oL tn J w' B hR hm;generalize adV:r7 m _ {s with eN:=l} (tn:Int)=R at*;have hRt:R.1.eN=l:=by rw[<-adV];rfl
   have hRp:(tr R.1 R.2 fr).p=R.1.p/\(tr R.1 R.2 fr).wait=R.1.wait/\(tr R.1 R.2 fr).eN=l/\∀b YX vq,jq b (tr R.1 R.2 fr) YX vq=jq b R.1 YX vq:=by
    unfold tr;split<;>exact⟨rfl,rfl,hRt,λ_ _ _=>rfl⟩
   obtain⟨R1,R2⟩:=R;obtain⟨q1,q2,q3,q4⟩:=hRp;dsimp only at q1 q2 q3 q4 hRt⊢
   try refine GA ?_
   refine eo ([qm g (ap (aj ⟨b1,o1,ak⟩) m.of.length co) (fw m.o vn vt) (gU m.g.aT m.g.bM vp m.mode vr va vg) {s with eN:=l} (tB (aj ⟨bt,off,ak⟩) cap 3 1 (l.length+1)) (jq _ s up uq) uw,aR g2 (s_ ((r:Int),fr,tt)).toArray 53]) (.calm 0 (.calm 1 (.calm 2 (.calm 3 (.calm 4 (.calm 5 (.calm 6 (.calm 7 (.calm 8 (.calm 9 (.done))))))))))) (cH [0,4]) ?_
   repeat(first|refine GW ?_|(refine GN ?_;first|refine QW (aB (v:=ap (aj ⟨b1,o1,ak⟩) m.of.length co) aL.ty I (aH (i:=0) I I)) ?_|refine QW (aB (v:=av az (r:Int)) aL.ty I (aH (i:=1) I I)) ?_|refine QW (a_ bR.eq aL.ty I I hr) ?_|refine QW (aB (v:=av az (tn:Int)) aL.ty I (afH _)) ?_))
   try refine GA ?_
   refine eo ([aR g2 (s_ ((r:Int),fr,tt)).toArray 53]) (.calm 0 (.calm 1 (.calm 2 (.calm 4 (.calm 5 (.one 3 (.one 6 (.done)))))))) (cH [4]) ?_
   repeat(first|refine GW ?_|(refine GN ?_;first|refine QW (aB (v:=av az (fr:Int)) aL.ty I (aH (i:=0) I I)) ?_))
   refine aO I (bK [0,2,3] [1,4] ahk I I (gK aJ.en I I I) (λw hm hb=>hpu _ w _ (hR.on (hm.pick [0,2,3] ahk I)) hb) I I I ?_);rintro⟨v1,v2⟩ _
   conv=>arg 8;simp only[zJ,dg,ret,id_eq,psX]
   conv=>arg 7;simp only[psX]
   refine aP (cH [1]) ?_;refine aO I (bK [3] [0,1,2,4] ahk I I (tH aJ.en I I I I) (λw hm hb=>htd R1 _ v2 _ R2 fr I w _ hb) I I I ?_);intro _ _;refine zL ?_;refine aP (cH [1]) ?_
   try refine GW ?_
   try refine GA ?_
   exact lF I λw hm=>hm.cX (S:=tG _ g (ap (aj ⟨b1,o1,ak⟩) m.of.length co) (fw m.o vn vt) (gU m.g.aT m.g.bM vp m.mode vr va vg) (tr R1 R2 fr) uq) (_,v1,v2) trivial [4,0,2,3] ahk (by simp only[tG,iy,q1,q2,q3,q4];rfl)
set_option maxRecDepth 100000 in
theorem Mx(x:Value)(m:Md){vo vn vt vp vr va vg ut up uq uw:Value}(b:Bool)(T N:Nat)(hk:jN m b T N)(g:Nat)(s:gX)(hs:iM m b s)(lp:s.over=aE)(rl:s.eN=[])(hb:s.bad≠0)(w:World)(B:b9)(hR:n9 B λw=>Cu w x m vo vn vt vp vr va vg)
 (hm:Mem B (iy b g vo (fw m.o vn vt) (gU m.g.aT m.g.bM vp m.mode vr va vg) s ut up uq uw) w):
 Calls aC 69 #[aK (aj ⟨g,0,ak⟩)] w (dF (tG b g vo (fw m.o vn vt) (gU m.g.aT m.g.bM vp m.mode vr va vg) (jL m b s) uq) B):=by
 have eA:(fw m.o vn vt).length=258:=gT _ _ _;obtain⟨l1,l2,l3⟩:=hs.live lp;have No:s.eP<=4096:=by have:=hs.BO;have:=hs.kq;omega
 unfold iy at hm;have hst:=λw' B hm=>oO (g:=g) (vo:=vo) (vt:=ut) (vw:=uw) (pc:=jq b s up uq) eA (show(gU m.g.aT m.g.bM vp m.mode vr va vg).length=7 from I) (by cases b<;>rfl) s s.bad s.d_ w' B hm;have Fa:jL m b s=lg s s.bad s.d_:=by unfold jL;rw[rl];dsimp only;rw[if_pos hb]
 rw[Fa];rw[rl]at hm;obtain⟨at',ct,rfl,-⟩:=mg (hm.get (i:=1) rfl);simp only[gJ]at hm;have adV:(lg s s.bad s.d_).eN=[]:=rl;clear Fa hs
 cases b
 all_goals
  refine dZ hm (args:=[aK (aj ⟨g,0,ak⟩)]) (n:=160) Tryz.func69 I I I ?_
  repeat(first|refine GA ?_|refine gV (aB aL.ty I (aH (i:=0) I (fE eA I I))) ?_)
  refine eo ([w8 g (jx vo (fw m.o vn vt) (gU m.g.aT m.g.bM vp m.mode vr va vg++[av az s.kq,av az s.mh,av az s.eP,str s.kG,.bool s.ended,.bool s.mv,av az s.d_,str s.jc,av az s.lp,av az s.bad])) 168]) (.calm 0 (.calm 1 (.calm 2 (.calm 3 (.calm 4 (.calm 5 (.calm 6 (.calm 7 (.calm 8 (.calm 9 (.one 10 (.done)))))))))))) (eM (i:=0) I (Mr _ _ _ s _ _ _)) ?_
  repeat(first|refine GW ?_|(refine GN ?_;first|refine QW (aB aL.ty I (mY (i:=0) I (fE eA I I))) ?_))
  refine aO I (bK [0] [1,2,3] ahk I I (tH aJ.en I I I I) (λw hm hb=>hst w _ hb) I I I ?_);intro _ _;refine zL ?_;refine aP (eM (i:=3) I (Mr _ _ _ (lg s s.bad s.d_) _ _ _)) ?_
  try refine GW ?_
  try refine GA ?_
  exact lF I λw hm=>hm.cX (S:=tG _ g vo (fw m.o vn vt) (gU m.g.aT m.g.bM vp m.mode vr va vg) (lg s s.bad s.d_) uq) (_,up,uw) trivial [3,0,1,2] ahk (by simp only[tG,iy,adV];rfl)
set_option maxRecDepth 100000 in
theorem JE(x:Value)(m:Md){vo vn vt vp vr va vg ut up uq uw:Value}(b:Bool)(T N:Nat)(hk:jN m b T N)(g:Nat)(s:gX)(hs:iM m b s)(lp:s.over=aE)(rl:s.eN=[])(hb:s.bad=0)(c:UInt8)(r:List UInt8)(HZ:s.kG=c::r)(w:World)(B:b9)(hR:n9 B λw=>Cu w x m vo vn vt vp vr va vg)
 (hm:Mem B (iy b g vo (fw m.o vn vt) (gU m.g.aT m.g.bM vp m.mode vr va vg) s ut up uq uw) w):
 Calls aC 69 #[aK (aj ⟨g,0,ak⟩)] w (dF (tG b g vo (fw m.o vn vt) (gU m.g.aT m.g.bM vp m.mode vr va vg) (jL m b s) uq) B):=by
 have eA:(fw m.o vn vt).length=258:=gT _ _ _;obtain⟨l1,l2,l3⟩:=hs.live lp;have No:s.eP<=4096:=by have:=hs.BO;have:=hs.kq;omega
 unfold iy at hm;have wI:s.mv=false:=by
  cases h:s.mv with
  |false=>rfl
  |true=>have:=(hs.mv h).1;rw[HZ]at this;cases this
 have hho:=hs.lp hb wI;have hfd:=λw' (hm:Ui w' vn vt m.N m.tags)=>FD m.o vn vt m.N m.tags s.d_ s.jc [c] w' hm hk.my hk.byte (by have:=hs.kG;omega) hs.jc (by simp);rw[show MP m.o vn vt=aU (fw m.o vn vt).toArray from I]at hfd;have OJ:(iI m.o m.N m.tags [c] s.d_ s.jc).1.length<=1000000:=by
  have:=zi (o:=m.o) (N:=m.N) (tags:=m.tags) [c] s.d_ s.jc;have:=hs.kG;have:=hs.jc;simp only[ky]at*;omega
 have Fa:jL m b s=Me m s c r:=by unfold jL;rw[rl,HZ];dsimp only;rw[if_neg (by rw[hb];decide)]
 rw[Fa];unfold Me Bz;obtain⟨at',ct,rfl,q1,q2,-⟩:=mg (hm.get (i:=1) rfl);clear Fa hs;obtain⟨kq,mh,eP,kG,ended,mv,d_,jc,lp,bad,eN,p,seen,rm,rZ,wait,cr,gone,over,gd,pl⟩:=s;dsimp only at*;subst rl hb HZ hho wI lp;simp only[gJ]at hm;dsimp only[qm,rf,ku,fg]at hm;generalize iI m.o m.N m.tags [c] d_ jc=D at*;obtain⟨D1,D2,D3,D4⟩:=D;dsimp only at*;generalize fw m.o vn vt=PK at*;obtain⟨a0,a1,a2,a3,a4,a5,a6,a7,wQ⟩:=PF b ⟨kq,mh,eP,c::r,ended,aE,d_,jc,0,0,[],p,seen,rm,rZ,wait,cr,gone,aE,gd,pl⟩ up uq;rw[wQ]at hm;refine dZ hm (args:=[aK (aj ⟨g,0,ak⟩)]) (n:=160) Tryz.func69 I I I ?_
 repeat(first|refine GC ?_|refine gV (aB aL.ty I (aH (i:=0) I (fE eA I I))) ?_|refine gV (kV (b:=aD) I I I) ?_|refine gV (Nk (j:=1) bR.eq I I (PO (bO _))) ?_|refine gV (CR (i:=1) bR.eq I I (PO (bO _))) ?_|refine GB ?_)
 refine tb (i:=0) 10 (tl':=gU m.g.aT m.g.bM vp m.mode vr va vg++rf ⟨kq,mh,eP,r,ended,aE,d_,jc,0,0,[],p,seen,rm,rZ,wait,cr,gone,aE,gd,pl⟩ _ [a0,a1,a2,a3,a4,a5,a6,a7] uw) I I I I I I eA I I ?_
 try refine GA ?_
 refine eo ([w8 g (jx vo PK (gU m.g.aT m.g.bM vp m.mode vr va vg)) 168]) (.calm 0 (.calm 1 (.calm 2 (.calm 3 (.calm 4 (.calm 5 (.calm 6 (.calm 7 (.calm 8 (.calm 9 (.calm 11 (.one 10 (.one 12 (.calm 13 (.calm 14 (.calm 15 (.calm 16 (.calm 17 (.calm 18 (.one 19 (.calm 20 (.calm 21 (.calm 22 (.one 23 (.done))))))))))))))))))))))))) (eM (i:=0) I (ii _ _ _ _)) ?_
 repeat(first|refine GW ?_|(refine GN ?_;first|refine QW (bH (cs:=PK) aL.ty I eA (λj v h=>mY (i:=0) I (Hk eA h))) ?_))
 refine aO I (aI (bH (cs:=iq (d_:Int) jc 0) aL.ty I I (λj v h=>aH (i:=0) I (lM 13 eA I h J))) I I I (aP (eM (i:=0) I (ii _ _ _ _)) ?_))
 try refine GW ?_
 refine aO I (a8 (tH aJ.en I I I I) (λw hm=>hfd w (hR _ w hm).pk) I I I ?_);intro v1 _
 conv=>arg 8;simp only[zJ,dg,ret,id_eq,Hp]
 conv=>arg 7;simp only[Hp]
 refine aP (eM (i:=0) I (ii _ _ _ _)) ?_
 try refine GW ?_
 refine aO I (iV (i:=0) 13 (cs:=iq (D2:Int) D3 D4) (tl':=gU m.g.aT m.g.bM vp m.mode vr va vg++rf ⟨kq,mh,eP,r,ended,aE,D2,D3,D4,0,[],p,seen,rm,rZ,wait,cr,gone,aE,gd,pl⟩ _ [a0,a1,a2,a3,a4,a5,a6,a7] uw) I I I I I I eA I I ?_);refine zL ?_;refine aP (eM (i:=0) I (ii _ _ _ _)) ?_
 try refine GW ?_
 refine aO I (tb (i:=0) 16 (tl':=gU m.g.aT m.g.bM vp m.mode vr va vg++rf ⟨kq,mh,eP,r,ended,aE,D2,D3,D4,D4,[],p,seen,rm,rZ,wait,cr,gone,aE,gd,pl⟩ _ [a0,a1,a2,a3,a4,a5,a6,a7] uw) I I I I I I eA I I ?_);refine aP (eM (i:=0) I (ii _ _ _ _)) ?_
 try refine GW ?_
 repeat(first|refine GA ?_|refine gV (aB aL.ty I (aH (i:=0) I (fE eA I I))) ?_)
 refine Q4 (i:=1) (j:=4) I I I I (Mu _) (by simp only[gJ];omega) (by simp only[gJ];omega) I λv2=>?_;refine Q3 (i:=1) I λb2 c2 lW _ _ _=>?_
 try refine GA ?_
 refine eI (i:=0) 17 I I I (by rw[lW];rfl) (by rw[lW];rfl) I eA I ?_
 try refine GA ?_
 exact lF I λw hm=>hm.cX (S:=tG b g vo PK (gU m.g.aT m.g.bM vp m.mode vr va vg) ⟨kq,mh,eP,r,ended,aE,D2,D3,D4,D4,D1,p,seen,rm,rZ,wait,cr,gone,aE,gd,pl⟩ uq) (v2,up,uw) trivial [0,1,2,3] ahk (by
  have adW:jq b ⟨kq,mh,eP,r,ended,aE,D2,D3,D4,D4,D1,p,seen,rm,rZ,wait,cr,gone,aE,gd,pl⟩ up uq=[a0,a1,a2,a3,a4,a5,a6,a7]:=wQ;simp only[tG,iy,adW,toP,gJ,du,YO,fg];rfl)
set_option maxRecDepth 100000 in
theorem FO(x:Value)(m:Md){vo vn vt vp vr va vg ut up uq uw:Value}(b:Bool)(T N:Nat)(hk:jN m b T N)(g:Nat)(s:gX)(hs:iM m b s)(lp:s.over=aE)(rl:s.eN=[])(hb:s.bad=0)(HZ:s.kG=[])(wI:s.mv=aE)(w:World)(B:b9)(hR:n9 B λw=>Cu w x m vo vn vt vp vr va vg)
 (hm:Mem B (iy b g vo (fw m.o vn vt) (gU m.g.aT m.g.bM vp m.mode vr va vg) s ut up uq uw) w):
 Calls aC 69 #[aK (aj ⟨g,0,ak⟩)] w (dF (tG b g vo (fw m.o vn vt) (gU m.g.aT m.g.bM vp m.mode vr va vg) (jL m b s) uq) B):=by
 have eA:(fw m.o vn vt).length=258:=gT _ _ _;obtain⟨l1,l2,l3⟩:=hs.live lp;have No:s.eP<=4096:=by have:=hs.BO;have:=hs.kq;omega
 unfold iy at hm;have hho:=hs.lp hb wI;have hfd:=λw' (hm:Ui w' vn vt m.N m.tags)=>FM m.o vn vt m.N m.tags s.d_ s.jc w' hm hk.my hk.byte (by have:=hs.kG;omega) hs.jc;rw[show MP m.o vn vt=aU (fw m.o vn vt).toArray from I]at hfd;have OJ:(jK m.o m.N m.tags (s.jc.length+1) s.d_ s.jc).1.length<=1000000:=by
  have:=Cv (o:=m.o) (N:=m.N) (tags:=m.tags) (s.jc.length+1) s.d_ s.jc;have:=hs.kG;have:=hs.jc;omega
 have Fa:jL m b s=ES m s:=by unfold jL;rw[rl,HZ];dsimp only;rw[if_neg (by rw[hb];decide),if_pos wI]
 rw[Fa];unfold ES yj;obtain⟨at',ct,rfl,q1,q2,-⟩:=mg (hm.get (i:=1) rfl);clear Fa hs;obtain⟨kq,mh,eP,kG,ended,mv,d_,jc,lp,bad,eN,p,seen,rm,rZ,wait,cr,gone,over,gd,pl⟩:=s;dsimp only at*;subst rl hb HZ hho wI lp;simp only[gJ]at hm;dsimp only[qm,rf,ku,fg]at hm;generalize jK m.o m.N m.tags (jc.length+1) d_ jc=D at*;obtain⟨D1,D2,D4⟩:=D;dsimp only at*;generalize fw m.o vn vt=PK at*;obtain⟨a0,a1,a2,a3,a4,a5,a6,a7,wQ⟩:=PF b ⟨kq,mh,eP,[],ended,aE,d_,jc,0,0,[],p,seen,rm,rZ,wait,cr,gone,aE,gd,pl⟩ up uq;rw[wQ]at hm;refine dZ hm (args:=[aK (aj ⟨g,0,ak⟩)]) (n:=160) Tryz.func69 I I I ?_
 repeat(first|refine GC ?_|refine gV (aB aL.ty I (aH (i:=0) I (fE eA I I))) ?_|refine gV (kV (b:=aE) I I I) ?_|refine GB ?_)
 refine tb (i:=0) 12 (tl':=gU m.g.aT m.g.bM vp m.mode vr va vg++rf ⟨kq,mh,eP,[],ended,aD,d_,jc,0,0,[],p,seen,rm,rZ,wait,cr,gone,aE,gd,pl⟩ _ [a0,a1,a2,a3,a4,a5,a6,a7] uw) I I I I I I eA I I ?_
 try refine GA ?_
 refine eo ([w8 g (jx vo PK (gU m.g.aT m.g.bM vp m.mode vr va vg)) 168]) (.calm 0 (.calm 1 (.calm 2 (.calm 3 (.calm 4 (.calm 5 (.calm 6 (.calm 7 (.calm 8 (.calm 9 (.one 10 (.one 11 (.calm 12 (.calm 13 (.calm 14 (.calm 15 (.calm 16 (.calm 17 (.one 18 (.calm 19 (.calm 20 (.calm 21 (.one 22 (.done)))))))))))))))))))))))) (eM (i:=0) I (ii _ _ _ _)) ?_
 repeat(first|refine GW ?_|(refine GN ?_;first|refine QW (bH (cs:=PK) aL.ty I eA (λj v h=>mY (i:=0) I (Hk eA h))) ?_))
 refine aO I (aI (bH (cs:=iq (d_:Int) jc 0) aL.ty I I (λj v h=>aH (i:=0) I (lM 13 eA I h J))) I I I (aP (eM (i:=0) I (ii _ _ _ _)) ?_))
 try refine GW ?_
 refine aO I (a8 (gK aJ.en I I I) (λw hm=>hfd w (hR _ w hm).pk) I I I ?_);intro v1 _
 conv=>arg 8;simp only[zJ,dg,ret,id_eq,EW]
 conv=>arg 7;simp only[EW]
 refine aP (eM (i:=0) I (ii _ _ _ _)) ?_
 try refine GW ?_
 refine aO I (iV (i:=0) 13 (cs:=iq (D2:Int) [] (if D4=0 then 15 else 9)) (tl':=gU m.g.aT m.g.bM vp m.mode vr va vg++rf ⟨kq,mh,eP,[],ended,aD,D2,[],if D4=0 then 15 else 9,0,[],p,seen,rm,rZ,wait,cr,gone,aE,gd,pl⟩ _ [a0,a1,a2,a3,a4,a5,a6,a7] uw) I I I I I I eA I I ?_);refine zL ?_;refine aP (eM (i:=0) I (ii _ _ _ _)) ?_
 try refine GW ?_
 refine aO I (tb (i:=0) 16 (tl':=gU m.g.aT m.g.bM vp m.mode vr va vg++rf ⟨kq,mh,eP,[],ended,aD,D2,[],if D4=0 then 15 else 9,D4,[],p,seen,rm,rZ,wait,cr,gone,aE,gd,pl⟩ _ [a0,a1,a2,a3,a4,a5,a6,a7] uw) I I I I I I eA I I ?_);refine aP (eM (i:=0) I (ii _ _ _ _)) ?_
 try refine GW ?_
 repeat(first|refine GA ?_|refine gV (aB aL.ty I (aH (i:=0) I (fE eA I I))) ?_)
 refine Q4 (i:=1) (j:=4) I I I I (Mu _) (by simp only[gJ];omega) (by simp only[gJ];omega) I λv2=>?_;refine Q3 (i:=1) I λb2 c2 lW _ _ _=>?_
 try refine GA ?_
 refine eI (i:=0) 17 I I I (by rw[lW];rfl) (by rw[lW];rfl) I eA I ?_
 try refine GA ?_
 exact lF I λw hm=>hm.cX (S:=tG b g vo PK (gU m.g.aT m.g.bM vp m.mode vr va vg) ⟨kq,mh,eP,[],ended,aD,D2,[],if D4=0 then 15 else 9,D4,D1,p,seen,rm,rZ,wait,cr,gone,aE,gd,pl⟩ uq) (v2,up,uw) trivial [0,1,2,3] ahk (by
  have adW:jq b ⟨kq,mh,eP,[],ended,aD,D2,[],if D4=0 then 15 else 9,D4,D1,p,seen,rm,rZ,wait,cr,gone,aE,gd,pl⟩ up uq=[a0,a1,a2,a3,a4,a5,a6,a7]:=wQ;simp only[tG,iy,adW,toP,gJ,du,YO,fg];rfl)
set_option maxRecDepth 100000 in
theorem My(x:Value)(m:Md){vo vn vt vp vr va vg ut up uq uw:Value}(b:Bool)(T N:Nat)(hk:jN m b T N)(g:Nat)(s:gX)(hs:iM m b s)(lp:s.over=aE)(rl:s.eN=[])(hb:s.bad=0)(HZ:s.kG=[])(wI:s.mv=aD)(hw:s.wait.length<200)(w:World)(B:b9)(hR:n9 B λw=>Cu w x m vo vn vt vp vr va vg)
 (hm:Mem B (iy b g vo (fw m.o vn vt) (gU m.g.aT m.g.bM vp m.mode vr va vg) s ut up uq uw) w):
 Calls aC 69 #[aK (aj ⟨g,0,ak⟩)] w (dF (tG b g vo (fw m.o vn vt) (gU m.g.aT m.g.bM vp m.mode vr va vg) (jL m b s) uq) B):=by
 have eA:(fw m.o vn vt).length=258:=gT _ _ _;obtain⟨l1,l2,l3⟩:=hs.live lp;have No:s.eP<=4096:=by have:=hs.BO;have:=hs.kq;omega
 unfold iy at hm;have J9:=zq hs;have hse:s.seen<=4096:=by have:=hs.seen;have:=hs.kG;omega
 have T7:=λoL w' B hR hm=>Mv x m (ut:=oL) (up:=up) (uq:=uq) (uw:=uw) (vo:=vo) (vn:=vn) (vt:=vt) (vp:=vp) (vr:=vr) (va:=va) (vg:=vg) b T N hk g s l3 l1 l2 J J9 J w' B hR hm;have hst:=λ(s':gX) oL Ju YW (e:Int) pl h8 w' B hm=>oO (g:=g) (vo:=vo) (vt:=oL) (vw:=Ju) (pc:=YW) eA (show(gU m.g.aT m.g.bM vp m.mode vr va vg).length=7 from I) h8 s' e pl w' B hm;have Fa:jL m b s=lg (qk m b s).1 (qk m b s).2 s.eP:=by unfold jL;rw[rl,HZ];dsimp only;rw[if_neg (by rw[hb];decide),if_neg (by rw[wI];decide)]
 rw[Fa];have hR1:(qk m b s).1.eP=s.eP/\(qk m b s).1.eN=[]:=⟨rfl,rl⟩;obtain⟨at',ct,rfl,q1,q2,-⟩:=mg (hm.get (i:=1) rfl);generalize qk m b s=R at*;obtain⟨R1,R2⟩:=R;obtain⟨e1,e2⟩:=hR1;dsimp only at e1 e2 T7⊢;clear Fa hs;have Bi:∀YX vq,(jq b R1 YX vq).length=8:=by cases b<;>exact λ_ _=>rfl
 have C_:(lg R1 R2 s.eP).p=R1.p/\(lg R1 R2 s.eP).wait=R1.wait/\(lg R1 R2 s.eP).eN=[]/\∀YX vq,jq b (lg R1 R2 s.eP) YX vq=jq b R1 YX vq:=⟨rfl,rfl,e2,λ_ _=>rfl⟩;obtain⟨s1,s2,s3,s4⟩:=C_;rw[rl]at hm;simp only[gJ]at hm;obtain⟨a0,a1,a2,a3,a4,a5,a6,a7,wQ⟩:=PF b s up uq;rw[wQ]at hm;have T7:=λoL w' B hR (hm:Mem B [qm g vo (fw m.o vn vt) (gU m.g.aT m.g.bM vp m.mode vr va vg) s oL [a0,a1,a2,a3,a4,a5,a6,a7] uw,ql b up s.p,lu uw s.wait] w')=>T7 oL w' B hR (by rw[wQ];exact hm);refine dZ hm (args:=[aK (aj ⟨g,0,ak⟩)]) (n:=160) Tryz.func69 I I I ?_
 repeat(first|refine GC ?_|refine gV (aB (v:=av az 0) aL.ty I (aH (i:=0) I (fE eA I (by rw[<-hb];rfl)))) ?_|refine gV (aB (v:=str []) aL.ty I (aH (i:=0) I (fE eA I (by rw[<-HZ];rfl)))) ?_|refine gV (aB (v:= .bool aD) aL.ty I (aH (i:=0) I (fE eA I (by rw[<-wI];rfl)))) ?_|refine gV (aB aL.ty I (aH (i:=0) I (fE eA I I))) ?_|refine gV (kV (b:=aE) I I I) ?_|refine GB ?_)
 refine bK [0,2,3] [1] ahk I I (ju aJ.en I I) (λw hm hb=>T7 _ w _ (hR.on (hm.pick [0,2,3] ahk I)) hb) I I I ?_;rintro⟨v1,v2⟩ _
 conv=>arg 8;simp only[zJ,dg,ret,id_eq,psX]
 conv=>arg 7;simp only[psX]
 repeat(first|refine GA ?_|refine gV (aB (v:=av az (s.eP:Int)) aL.ty I (aH (i:=2) I (fE eA I (by rw[<-e1];rfl)))) ?_)
 refine bK [2] [0,1,3] ahk I I (tH aJ.en I I I I) (λw hm hb=>hst R1 _ v2 _ R2 s.eP (Bi _ _) w _ hb) I I I ?_;intro _ _;refine zL ?_
 try refine GA ?_
 exact lF I λw hm=>hm.cX (S:=tG b g vo (fw m.o vn vt) (gU m.g.aT m.g.bM vp m.mode vr va vg) (lg R1 R2 s.eP) uq) (_,v1,v2) trivial [3,0,1,2] ahk (by simp only[tG,iy,s1,s2,s3,s4];rfl)
theorem JF(x:Value)(m:Md){vo vn vt vp vr va vg ut up uq uw:Value}(b:Bool)(T N:Nat)(hk:jN m b T N)(g:Nat)(s:gX)(hs:iM m b s)(lp:s.over=aE)(hw:s.wait.length<200)(w:World)(B:b9)(hR:n9 B λw=>Cu w x m vo vn vt vp vr va vg)
 (hm:Mem B (iy b g vo (fw m.o vn vt) (gU m.g.aT m.g.bM vp m.mode vr va vg) s ut up uq uw) w):
 Calls aC 69 #[aK (aj ⟨g,0,ak⟩)] w (dF (tG b g vo (fw m.o vn vt) (gU m.g.aT m.g.bM vp m.mode vr va vg) (jL m b s) uq) B):=by
 cases h1:s.eN with
 |cons t l=>exact Mw x m b T N hk g s hs lp t l h1 hw w B hR hm
 | nil =>
  by_cases h2:s.bad=0
  ·cases h3:s.kG with
   |cons c r=>exact JE x m b T N hk g s hs lp h1 h2 c r h3 w B hR hm
   | nil=>
    cases h4:s.mv with
    |false=>exact FO x m b T N hk g s hs lp h1 h2 h3 h4 w B hR hm
    |true=>exact My x m b T N hk g s hs lp h1 h2 h3 h4 hw w B hR hm
  exact Mx x m b T N hk g s hs lp h1 h2 w B hR hm
end cZ
namespace iy
open aV ey fJ mW bV dq cZ kF
open iU (Ev sa takeN)
section
variable{o:Of}{N:List (List Int)}{tags:List Int}{n:Int}(hn:0<n)(ht:∀t∈tags,t<n)
include hn ht
theorem Hv(s:List UInt8):0<=(eY o N tags s).1.1/\(eY o N tags s).1.1<n:=yh hn ht s 0 0 0 0 (k8 0) hn
theorem tc:∀(f a:Nat) (u:List UInt8),∀t∈(eC o N tags f a u).1,0<=t.1/\t.1<n
 |0,_,_,_,h=>by cases h
 | f +1,a,u,t,h=>by
  rw[ta]at h;split at h
  ·split at h
   cases h
   rcases ez.1 h with rfl|h
   exact Hv hn ht u;exact tc f _ _ t h
  cases h
theorem Hw:∀(s:List UInt8) (a:Nat) (u:List UInt8),∀t∈(iI o N tags s a u).1,0<=t.1/\t.1<n
 |[],_,_,_,h=>by cases h
 | b::s,a,u,t,h=>by
  rw[qI]at h;split at h;exact tc hn ht _ _ _ t h;split at h;exact tc hn ht _ _ _ t h;rcases fC.1 h with h|h
  exact tc hn ht _ _ _ t h;exact Hw s _ _ t h
theorem Mz:∀(f a:Nat) (u:List UInt8),∀t∈(jK o N tags f a u).1,0<=t.1/\t.1<n
 |0,_,_,_,h=>by cases h
 | f+1,a,u,t,h=>by
  rw[ER]at h;split at h
  cases h
  split at h
  cases h
  rcases ez.1 h with rfl|h
  exact Hv hn ht u;exact Mz f _ _ t h
end
theorem MA{o:Of}{N:List (List Int)}{tags:List Int}:∀(s:List UInt8) (a:Nat) (u:List UInt8),u.length<=64->(iI o N tags s a u).2.2.1.length<=64
 |[],_,_,h=>h
 | b::s,a,u,h=>by
  rw[qI];split;exact bO _;split;exact bO _;exact MA s _ _ J
theorem RD{a l:List Ev}(h:a.any sa=aE)(h2:∀x∈l,sa x=aE):(a++l).any sa=false:=by
 rw[List.any_append,h,sV.2 λx hx=>by rw[h2 x hx];decide];rfl
theorem A0{s:gX}(h:lh s=aD):s.over=aE/\s.wait.length<200/\(s.eN≠[]\/s.bad≠0\/s.kG≠[]\/s.ended=aD):=by
 unfold lh at h;simp only[Bool.and_eq_true,Bool.not_eq_true',Bool.or_eq_true,decide_eq_true_eq]at h;exact⟨h.1.1,h.1.2,by rcases h.2 with((h|h)|h)|h<;>simp[h]⟩
theorem YY{m:Md}{b:Bool}{T N:Nat}(h:jN m b T N){p:PS}(hp:Ry m b p){a:Nat}{t:Int}(ht:t<T):(kO m b p a t).2.2.length<=2001/\((kO m b p a t).1≠0->(kO m b p a t).2.2=[]):=by
 have hb:(kO m b p a t).1≠0->(kO m b p a t).2.2=[]:=λh0=>by
  cases b with
  |true=>
   rcases x6 (l:=m.g.aF) (nx:=ja m.rows t.toNat) (st:=p.1) (seen:=a) (t:=t) rfl with⟨h1,h2⟩|⟨x,r,o,a1,h1,h2,h3,h4,h5,h6⟩
   exact congrArg AR h2;exact absurd (congrArg AQ h6) h0
  |false=>exact EO 2001 p.2 [] h0
 refine⟨?_,hb⟩
 by_cases c:(kO m b p a t).1=0
 exact(wz h hp ht c).2;rw[hb c];exact bO _
theorem RE{m:Md}{b:Bool}{T N:Nat}(hk:jN m b T N){s:gX}(hs:iM m b s)(hr:lh s=aD):iM m b (jL m b s):=by
 obtain⟨r1,r2,r3⟩:=A0 hr;obtain⟨h1,h2,h3,h4,h5,h6,h7,h8,h9,LI,JB,PU,RC,Ms,Mt⟩:=hs;obtain⟨l1,l2,l3⟩:=h9 r1;have hn:(0:Int)<m.of.length:=by have:=hk.some;omega
 have hse:s.seen<=4096:=by omega
 rw[r1]at PU;simp only[ow,if_false]at PU;unfold jL
 cases e1:s.eN with
 | cons t l=>
  rw[e1]at h7 h8;simp only[dE]at h7;have h8':=λu hu=>h8 u (List.mem_cons_of_mem _ hu);dsimp only
  by_cases c1:tF m t<0
  ·rw[if_pos c1]
   exact⟨h1,h2,h3,h4,h5,h6,by dsimp only;omega,h8',λ_=>⟨l1,l2,l3⟩,LI,JB,by dsimp only;rw[r1];simpa using PU,RC,Ms,Mt⟩
  rw[if_neg c1];obtain⟨t0,t1⟩:=h8 t (ir ..);have hl:tF m t<T:=by
   unfold tF;rw[cK,bQ J,lf];have:=(hk.ofs _ (cV (show t.1.toNat<m.of.length by omega))).2;have:=hk.tT;omega
  obtain⟨g1,g2⟩:=YY hk l3 (a:=s.seen) hl;have g3:=Jr hk l3 (a:=s.seen) J hl;have g4:=wz hk l3 (a:=s.seen) hl;unfold tr r7;dsimp only;generalize kO m b s.p s.seen (tF m t)=R at*;have hlen:(s.wait++R.2.2).length<=s.wait.length+2001:=by rw[bT];omega
  by_cases c2:R.1≠0
  ·rw[if_pos c2]
   unfold lg;rw[g2 c2,eB,if_neg c2];exact⟨h1,h2,h3,h4,h5,h6,by dsimp only;omega,h8',λh=>(by cases h),LI,JB,by dsimp only;rw[if_pos I];omega,RC,Ms,Mt⟩
  rw[if_neg c2];have c3:R.1=0:=by simpa using c2
  rw[if_pos c3];refine⟨h1,h2,h3,h4,h5,h6,by dsimp only;omega,h8',λ_=>⟨c3,l2,(g4 c3).1⟩,LI,RD JB g3,by dsimp only;rw[r1,bT];simp only[ow,if_false];omega,by dsimp only;omega,Ms,Mt⟩
 | nil =>
  rw[e1]at h7 h8 r3;simp only[gJ,ne_eq,not_true_eq_false,false_or]at h7 r3;dsimp only
  by_cases c1:s.bad≠0
  ·rw[if_pos c1]
   unfold lg;exact⟨h1,h2,h3,h4,h5,h6,by dsimp only;rw[e1];simpa using h7,by dsimp only;rw[e1];exact h8,λh=>(by cases h),LI,JB,by dsimp only;rw[if_pos I];omega,RC,Ms,Mt⟩
  rw[if_neg c1];have c1:s.bad=0:=by simpa using c1
  cases e2:s.kG with
  | cons c r=>
   rw[e2]at h4;simp only[dE]at h4;dsimp only;unfold Me Bz;have hc:=zi (o:=m.o) (N:=m.N) (tags:=m.tags) [c] s.d_ s.jc;have hb:=MA (o:=m.o) (N:=m.N) (tags:=m.tags) [c] s.d_ s.jc h5;have MO:=Hw (o:=m.o) (N:=m.N) (tags:=m.tags) hn hk.tag [c] s.d_ s.jc;simp only[ky]at hc;generalize iI m.o m.N m.tags [c] s.d_ s.jc=D at*;have wI:¬s.mv=true:=λh=>by have:=(LI h).1;rw[e2]at this;cases this
   exact⟨h1,h2,h3,by dsimp only;omega,hb,λh _=>h,by dsimp only;omega,MO,λ_=>⟨l1,l2,l3⟩,λh=>absurd h wI,JB,by dsimp only;rw[r1];simpa using PU,RC,Ms,Mt⟩
  | nil=>
   rw[e2]at r3 h4;simp only[not_true_eq_false,false_or,c1]at r3;dsimp only
   by_cases c2:s.mv=aE
   ·rw[if_pos c2]
    unfold ES yj;have hc:=Cv (o:=m.o) (N:=m.N) (tags:=m.tags) (s.jc.length+1) s.d_ s.jc;have MO:=Mz (o:=m.o) (N:=m.N) (tags:=m.tags) hn hk.tag (s.jc.length+1) s.d_ s.jc;generalize jK m.o m.N m.tags (s.jc.length+1) s.d_ s.jc=D at*;refine⟨h1,h2,h3,by dsimp only;rw[e2];simp only[gJ]at h4⊢;omega,bO _,λ_ h=>(by cases h),by dsimp only;omega,MO,λ_=>⟨l1,l2,l3⟩,λ_=>⟨e2,r3⟩,JB,by dsimp only;rw[r1];simpa using PU,RC,Ms,Mt⟩
   rw[if_neg c2];have g1:=EP hk l3 (a:=s.seen);have g3:=PD hk l3 (a:=s.seen) J;unfold lg qk;dsimp only;generalize v7 m b s.p s.seen=R at*;have g2:R.2.length<=2001:=by
    by_cases c:R.1=0
    exact g1.1 c;rw[g1.2 c];exact bO _
   refine⟨h1,h2,h3,by dsimp only;rw[e2];exact h4,h5,h6,by dsimp only;rw[e1];simpa using h7,by dsimp only;rw[e1];exact h8,λh=>(by cases h),LI,RD JB g3,by dsimp only;rw[if_pos I,bT];omega,by dsimp only;rw[bT];omega,Ms,Mt⟩
theorem TY{m:Md}{b:Bool}{s:gX}(hs:iM m b s)(e:Int)(pl:Nat):iM m b (wB s e pl):=by
 obtain⟨h1,h2,h3,h4,h5,h6,h7,h8,h9,LI,JB,PU,RC,Ms,Mt⟩:=hs;refine⟨h1,h2,h3,h4,h5,h6,h7,h8,λh=>(by cases h),LI,rfl,?_,bO _,Ms,Mt⟩;show s.gone+((0:Nat):Int)<=(s.seen+if aD=aD then 1 else 0)*2001
 rw[if_pos I];split at PU<;>omega
theorem abp{m:Md}{b:Bool}{s:gX}(hs:iM m b s)(x:List UInt8):iM m b (w7 s x).1:=by
 unfold w7;split;exact hs;split;exact hs;split;exact TY hs _ _
 rename_i c1 c2 c3
 have c4:¬s.mv=true:=λh=>c1 (.inr (hs.mv h).2);obtain⟨h1,h2,h3,h4,h5,h6,h7,h8,h9,LI,JB,PU,RC,Ms,Mt⟩:=hs;exact⟨by dsimp only;omega,by dsimp only;omega,h3,by dsimp only;rw[bT];omega,h5,h6,h7,h8,h9,λh=>absurd h c4,JB,PU,RC,Ms,Mt⟩
theorem YZ{m:Md}{b:Bool}{s:gX}(hs:iM m b s):iM m b (rb s).1:=by
 unfold rb;split;exact hs;obtain⟨h1,h2,h3,h4,h5,h6,h7,h8,h9,LI,JB,PU,RC,Ms,Mt⟩:=hs;exact⟨h1,h2,h3,h4,h5,h6,h7,h8,h9,λh=>⟨(LI h).1,rfl⟩,JB,PU,RC,Ms,Mt⟩
theorem MB{m:Md}{b:Bool}{s:gX}(hs:iM m b s)(n:Int):iM m b (re s n).1:=by
 unfold re;split;exact hs;split;exact hs;obtain⟨h1,h2,h3,h4,h5,h6,h7,h8,h9,LI,JB,PU,RC,Ms,Mt⟩:=hs;exact⟨h1,h2,h3,h4,h5,h6,h7,h8,h9,LI,JB,PU,RC,⟨by dsimp only;omega,by dsimp only;omega⟩,Mt⟩
theorem Y0{l:List Ev}{c n:Int}(hc:0<=c)(hn:0<=n):takeN l c n<=l.length/\(takeN l c n:Int)<=c:=by
 unfold takeN;omega
theorem abq{m:Md}{b:Bool}{s:gX}(hs:iM m b s)(n:Int):iM m b (jO s n).1:=by
 unfold jO;split;exact hs
 rename_i c
 obtain⟨h1,h2,h3,h4,h5,h6,h7,h8,h9,LI,JB,PU,RC,Ms,Mt⟩:=hs;obtain⟨k1,k2⟩:=Y0 (l:=s.wait) Ms.1 (by omega:0<=n);have Ey:(s.wait.drop (takeN s.wait s.cr n)).any sa=false:=by
  rw[sV]at JB⊢;exact λx hx=>JB x (List.mem_of_mem_drop hx)
 refine⟨h1,h2,h3,h4,h5,h6,h7,h8,h9,LI,Ey,?_,?_,⟨by dsimp only;omega,by dsimp only;omega⟩,by dsimp only;omega⟩
 ·dsimp only
  rw[iv];generalize ((s.seen:Int)+if s.over=aD then 1 else 0)=K at*;omega
 dsimp only;rw[iv];omega
end iy
namespace cZ
open Go.RowKit dr eH aV ey fJ iT kF bV mW iy dq
open iU (Ev sa takeN)
theorem r8(b:Bool)(s:gX)(vp vq:Value):(jq b s vp vq).length=8:=by cases b<;>rfl
theorem EX{b:Bool}{g:Nat}{vo:Value}{pk md:List Value}{ut up uq uw:Value}{m:Md}(eA:pk.length=258)(oX:md.length=7)(s:gX)(hs:iM m b s)(B:b9)(w:World)(hm:Mem B (iy b g vo pk md s ut up uq uw) w):
 Calls aC 32 #[aK (aj ⟨g,0,ak⟩)] w (cY (ret (.bool (lh s))) w):=by
 obtain⟨a1,c1,e1,_⟩:=mg (hm.get (i:=1) rfl);obtain⟨a2,c2,e2⟩:=Jx (hm.get (i:=3) rfl);exact FE eA oX (r8 b s up uq) s (by have:=hs.seen;have:=hs.kG;have:=hs.BO;have:=hs.kq;omega) ⟨a1,c1,e1⟩ ⟨a2,c2,e2⟩ (by have:=hs.wl;omega) w (hm.get (i:=0) I)
def wkS(b:Bool)(g:Nat)(vo:Value)(pk md:List Value)(R:gX×Nat)(uq:Value):Spec (Value×Value×Value):=⟨λ_=>True,λ_=>av az (R.2:Int),λx=>iy b g vo pk md R.1 x.1 x.2.1 uq x.2.2⟩
theorem RF{m:Md}{b:Bool}{k:Nat}{s:gX}(h:lh s=aE\/k=0):mX m b k s=(s,0):=by
 cases k with
 |zero=>rfl
 |succ k=>rw[mX,if_neg (by rcases h with h|h;rw[h];decide;cases h)]
theorem abr{m:Md}{b:Bool}{k:Nat}{s:gX}(h:lh s=aD):mX m b (k+1) s=((mX m b k (jL m b s)).1,(mX m b k (jL m b s)).2+1):=by rw[mX,if_pos h]
set_option maxRecDepth 100000 in
theorem JG(x:Value)(m:Md){vo vn vt vp vr va vg ut up uq uw:Value}(b:Bool)(T N:Nat)(hk:jN m b T N)(g:Nat)(s:gX)(hs:iM m b s)(qY:Int)(r9:qY<=9223372036854775807)(w:World)(B:b9)(hR:n9 B λw=>Cu w x m vo vn vt vp vr va vg)
 (hm:Mem B (iy b g vo (fw m.o vn vt) (gU m.g.aT m.g.bM vp m.mode vr va vg) s ut up uq uw) w):
 Calls aC 29 #[aK (aj ⟨g,0,ak⟩),av az qY] w (dF (wkS b g vo (fw m.o vn vt) (gU m.g.aT m.g.bM vp m.mode vr va vg) (mX m b qY.toNat s) uq) B):=by
 have eA:(fw m.o vn vt).length=258:=gT _ _ _;have Fa:=λs' (h1:iM m b s') h2 h3 ut' up' uw' w' B hR hm=>JF x m (vo:=vo) (vn:=vn) (vt:=vt) (vp:=vp) (vr:=vr) (va:=va) (vg:=vg) (ut:=ut') (up:=up') (uq:=uq) (uw:=uw') b T N hk g s' h1 h2 h3 w' B hR hm;have fl:=λs' (h1:iM m b s') ut' up' uw' B w' (hm:Mem B (iy b g vo (fw m.o vn vt) (gU m.g.aT m.g.bM vp m.mode vr va vg) s' ut' up' uq uw') w')=>EX (m:=m) eA I s' h1 B w' hm;have l7:=λ(s':gX) h1 h2=>RE hk (s:=s') h1 h2;generalize hE:mX m b qY.toNat s=E;generalize fw m.o vn vt=PK at*;generalize gU m.g.aT m.g.bM vp m.mode vr va vg=MT at*;refine dZ hm (args:=[aK (aj ⟨g,0,ak⟩),av az qY]) (n:=18) Tryz.func29 I I I ?_
 try refine GA ?_
 refine eK (ι:=Nat×gX×Value×Value×Value) (λ(k,s',_)=>(k:Int)<=max 0 qY/\iM m b s'/\((mX m b (qY.toNat-k) s').1,k+(mX m b (qY.toNat-k) s').2)=E) (λ(k,_)=>[(0,aK (aj ⟨g,0,ak⟩)),(1,av az qY),(5,av az (k:Int))])
  (λ(_,s',ut',up',uw')=>iy b g vo PK MT s' ut' up' uq uw') (λ(k,_)=>qY.toNat-k) (0,s,ut,up,uw) ⟨by omega,hs,by subst hE;rw[Nat.sub_zero,du]⟩ ?_
 clear hE hs;rintro⟨k,s',ut',up',uw'⟩ ⟨i1,i2,i3⟩;dsimp only at i1 i2 i3⊢
 by_cases c:(k:Int)<qY
 ·have fl:=fl s' i2 ut' up' uw'
  cases hr:lh s' with
  |true=>
   rw[hr]at fl;obtain⟨r1,r2,_⟩:=A0 hr;rw[show qY.toNat-k=(qY.toNat-(k+1))+1 by omega,abr hr]at i3
   try refine GA ?_
   refine mJ (ju aJ.en I I) (λw hm=>fl B w hm) I I I I I ?_;intro _ _;refine zL ?_
   try refine GA ?_
   refine bK [0,1,2,3] [] ahk I I (ju aJ.en I I) (λw hm hb=>Fa s' i2 r1 r2 _ _ _ w _ (hR.on (hm.pick [0,1,2,3] ahk I)) hb) I I I ?_;rintro⟨v1,v2,v3⟩ _
   conv=>arg 8;simp only[zJ,dg,ret,id_eq,tG]
   try refine GA ?_
   exact cJ (k+1,jL m b s',v1,v2,v3) ⟨by omega,l7 s' i2 hr,by rw[<-i3];dsimp only;rw[l6,Nat.add_comm 1]⟩ (by show qY.toNat-(k+1)<qY.toNat-k;omega)
  |false=>
   rw[hr]at fl;rw[RF (.inl hr)]at i3;subst i3
   try refine GA ?_
   refine mJ (ju aJ.en I I) (λw hm=>fl B w hm) I I I I I ?_;intro _ _;refine zL ?_
   try refine GA ?_
   exact da I I λw hm=>hm.cX (S:=wkS b g vo PK MT (s',k+0) uq) (ut',up',uw') trivial [0,1,2,3] ahk I
 ·rw[RF (.inr J)]at i3
  subst i3
  try refine GA ?_
  exact da I I λw hm=>hm.cX (S:=wkS b g vo PK MT (s',k+0) uq) (ut',up',uw') trivial [0,1,2,3] ahk I
end cZ
namespace cZ
open Go.RowKit dr eH
theorem abt(l:List bV.Act):∀u∈l.flatMap jC,u.oneCell'=true:=by
 intro u hu;obtain⟨x,_,h⟩:=uB.1 hu;simp only[jC,ez,iD,or_false]at h;rcases h with rfl|rfl<;>rfl
theorem Y1(a:bV.Act):(jC a).length=2:=rfl
theorem B4(v:Value)(l:List bV.Act)(w:World)(hs:Sl w v l.length (l.flatMap jC))(hl:l.length*16<=140737488355328):
 Calls aC 135 #[v] w (cY (dg 94 2 l.length (l.flatMap jC) id) w):=by
 obtain⟨base,cap,rfl,lR,kA,fl⟩:=hs;unfold maxLen at kA;refine enter (args:=[ap base l.length cap]) (n:=8) Tryz.func135 I I I ?_;have rj:∀w',Gr w w'->Sl w' (ap base l.length cap) l.length (l.flatMap jC):=λw' hg=>Sl.gr ⟨base,cap,rfl,lR,kA,fl⟩ hg;clear fl
 cases base with
 | none=>
  repeat(first|refine GC ?_|refine gV (ki bR.eq I I I) ?_|refine GB ?_)
  have h0:l=[]:=by
   cases l with
   |nil=>rfl
   |cons x l=>obtain⟨_,_,h,_,_,h2⟩:=rj w (Gr.refl w);simp only[jQ]at h;obtain⟨rfl,_⟩:=h;obtain⟨b,off,h,_⟩:=h2 (by simp);cases h
  subst h0;refine ef 94 2 ?_;exact da I I λw hm=>hm.meets (S:=dg 94 2 0 [] id) _ trivial [0] ahk I
 |some p=>
  repeat(first|refine GC ?_|refine gV (ki bR.eq I I I) ?_|refine GB ?_)
  refine wj I λg=>?_
  try refine GA ?_
  refine fc (i:=0) I (λw' hm=>rj w' hm.below) I I (lD Y1 l) (abt l) J J I λv'=>?_;rw[fg]
  try refine GA ?_
  refine da I I λw hm=>?_;exact hm.meets (S:=dg 94 2 l.length (l.flatMap jC) id) v' trivial [0] ahk (by simp[dg])
end cZ
namespace cZ
open Go.RowKit dr eH aV ey fJ iT kF bV mW iy dq
abbrev BD{α:Type}(s:wF α)(N:List (List α)):Spec (Value×(Nat->Prop)):=⟨λx=>∃a c,x.1=ap a N.length c,λx=>x.1,λx=>[Fc (bW (bW s)) x.2 [x.1] N]⟩
theorem MC{w:World}{v:Value}{l:List Int}(hp:∀x∈l,dr.eD x)(h:(bD 3 1 v l.length (l.flatMap dr.eV)).holds w):(bW fY).is (λk=>v.ownBlock=aj k) w [v] l:=
 ⟨v,rfl,kH.of_flat (Sl.dY h) hp (λ_ h=>h) (λa n cp hv=>by rw[hv];rfl)⟩
theorem td(v:Value)(N:List (List Int))(w:World)(h:kH (bW fY) (ri w) w v N)(hn:N.length<=1000000)(hl:∀r∈N,r.length<=1000000):
 Calls aC 98 #[v] w (cY (BD fY N) w):=by
 obtain⟨bv,cv,rfl,H',E6,hrv⟩:=h;unfold maxLen at E6;refine enter (args:=[ap bv N.length cv]) (n:=19) Tryz.func98 I I I ?_
 try refine GA ?_
 refine jy 26 1 (mN (eO (bW fY) (λ_=>False) [] []) (λk hk=>hk.elim (λh=>by cases h) id) (λw=>jD) ?_);refine eK (ι:=Nat×Value×List (List Value)×(Nat->Prop)) (λ(k,_,_,_)=>k<=N.length) (λ(k,vo,_,_)=>[(3,vo),(6,ap bv N.length cv),(7,av az N.length),(8,av az (k:Int))])
  (λ(k,vo,gY,F)=>[bD 26 1 vo k gY.flatten,eO (bW fY) F gY (N.take k)]) (λ(k,_,_,_)=>N.length-k) (0,ap ak 0 0,[],λ_=>False) (bO _) ?_
 rintro⟨k,vo,gY,F⟩ i1;dsimp only at i1⊢
 by_cases c:k<N.length
 ·obtain⟨b,off,rfl,_,hr⟩:=hrv J
  obtain⟨cs,⟨vx,rfl,hx⟩,fl⟩:=hr k c;have d_:∀(L:List cU),At w L ⟨b,off+k*1,ak⟩ vx:=λL=>jb (j:=0) fl I;have JS:=hl _ (cV c);have rl:N.take (k+1)=N.take k++[N[k]]:=ia c;have lz:=λw' (hg:Gr w w')=>kj vx N[k] w' ((hx.flat ahk).gr hg) J;have l7:=hx.okp;generalize N[k]=l at*;clear hr fl hrv hx
  repeat(first|refine GA ?_|refine gV (a_ bR.eq aL.ty I I c) ?_|refine gV (aB (v:=vx) aL.ty I (d_ _)) ?_)
  refine a8 (ju aJ.en I I) (λw hm=>lz _ hm.below) I I I ?_;intro v1 _;refine zL ?_;refine aY (i:=2) I λhu1 hu2=>?_;refine kh (i:=0) I I hu1 hu2 I I (λz h=>by cases h;rfl) J J I λz D8=>?_;refine zL ?_;refine pj (eO (bW fY) (λk=>F k\/v1.ownBlock=aj k) (gY++[[v1]]) (N.take k++[l])) 2 1 [0] ahk I I I (λk hk=>hk.elim (λh=>by cases h) λh=>h.elim (λh=> .inr (.inr h)) λh=> .inl (.inl h)) (λw hr he=>?_) ?_;exact mM he (MC l7 hr) λk hk=>(bD 3 1 v1 l.length (l.flatMap dr.eV)).lt w hr k (.inl hk);refine zL ?_
  try refine GA ?_
  exact cJ (k+1,D8,gY++[[v1]],λk=>F k\/v1.ownBlock=aj k) (by show k+1<=N.length;omega) (by show N.length-(k+1)<N.length-k;omega) (hl:=by rw[rl,AO];rfl)
 ·obtain rfl:k=N.length:=by omega
  rw[gj (bJ _)];refine HV (i:=0) I λbase cap hv _ _=>?_
  try refine GA ?_
  refine wm (Fc (bW (bW fY)) (Vy F vo) [vo] N) 0 1 [] ahk I I I (λk hk=>hk.elim (λh=>by cases h) λh=>h.elim (λh=> .inr (.inr h)) λh=> .inl (.inl h)) (λw hr he=>?_) ?_;exact⟨⟨vo,rfl,xw (s:=bW fY) hr he ahk⟩,xy hr he⟩;exact da I I λw hm=>hm.meets (S:=BD fY N) (vo,Vy F vo) ⟨base,cap,hv⟩ [0] ahk I
theorem JH(v:Value)(N:List (List bV.Act))(w:World)(h:kH (bW oM) (ri w) w v N)(hn:N.length<=1000000)(hl:∀r∈N,r.length<=1000000):
 Calls aC 100 #[v] w (cY (BD oM N) w):=by
 obtain⟨bv,cv,rfl,H',E6,hrv⟩:=h;unfold maxLen at E6;refine enter (args:=[ap bv N.length cv]) (n:=19) Tryz.func100 I I I ?_
 try refine GA ?_
 refine jy 92 1 (mN (eO (bW oM) (λ_=>False) [] []) (λk hk=>hk.elim (λh=>by cases h) id) (λw=>jD) ?_);refine eK (ι:=Nat×Value×List (List Value)×(Nat->Prop)) (λ(k,_,_,_)=>k<=N.length) (λ(k,vo,_,_)=>[(3,vo),(6,ap bv N.length cv),(7,av az N.length),(8,av az (k:Int))])
  (λ(k,vo,gY,F)=>[bD 92 1 vo k gY.flatten,eO (bW oM) F gY (N.take k)]) (λ(k,_,_,_)=>N.length-k) (0,ap ak 0 0,[],λ_=>False) (bO _) ?_
 rintro⟨k,vo,gY,F⟩ i1;dsimp only at i1⊢
 by_cases c:k<N.length
 ·obtain⟨b,off,rfl,_,hr⟩:=hrv J
  obtain⟨cs,⟨vx,rfl,hx⟩,fl⟩:=hr k c;have d_:∀(L:List cU),At w L ⟨b,off+k*1,ak⟩ vx:=λL=>jb (j:=0) fl I;have JS:=hl _ (cV c);have rl:N.take (k+1)=N.take k++[N[k]]:=ia c;have lz:=λw' (hg:Gr w w')=>B4 vx N[k] w' ((hx.flat ahk).gr hg) J;have l7:=hx.okp;generalize N[k]=l at*;clear hr fl hrv hx
  repeat(first|refine GA ?_|refine gV (a_ bR.eq aL.ty I I c) ?_|refine gV (aB (v:=vx) aL.ty I (d_ _)) ?_)
  refine a8 (ju aJ.en I I) (λw hm=>lz _ hm.below) I I I ?_;intro v1 _;refine zL ?_;refine aY (i:=2) I λhu1 hu2=>?_;refine kh (i:=0) I I hu1 hu2 I I (λz h=>by cases h;rfl) J J I λz D8=>?_;refine zL ?_;refine pj (eO (bW oM) (λk=>F k\/v1.ownBlock=aj k) (gY++[[v1]]) (N.take k++[l])) 2 1 [0] ahk I I I (λk hk=>hk.elim (λh=>by cases h) λh=>h.elim (λh=> .inr (.inr h)) λh=> .inl (.inl h)) (λw hr he=>?_) ?_;exact mM he (Eu hr) λk hk=>(bD 94 2 v1 l.length (l.flatMap jC)).lt w hr k (.inl hk);refine zL ?_
  try refine GA ?_
  exact cJ (k+1,D8,gY++[[v1]],λk=>F k\/v1.ownBlock=aj k) (by show k+1<=N.length;omega) (by show N.length-(k+1)<N.length-k;omega) (hl:=by rw[rl,AO];rfl)
 ·obtain rfl:k=N.length:=by omega
  rw[gj (bJ _)];refine HV (i:=0) I λbase cap hv _ _=>?_
  try refine GA ?_
  refine wm (Fc (bW (bW oM)) (Vy F vo) [vo] N) 0 1 [] ahk I I I (λk hk=>hk.elim (λh=>by cases h) λh=>h.elim (λh=> .inr (.inr h)) λh=> .inl (.inl h)) (λw hr he=>?_) ?_;exact⟨⟨vo,rfl,xw (s:=bW oM) hr he ahk⟩,xy hr he⟩;exact da I I λw hm=>hm.meets (S:=BD oM N) (vo,Vy F vo) ⟨base,cap,hv⟩ [0] ahk I
end cZ
namespace cZ
open Go.RowKit dr
theorem PV{P:Program}{t:TypeId}{fields:Array Field}{z:Value}{pl:Array (Nat×Nat)}{parts:Array (Nat×Value)}{c:Array Value}{w:World}(hz:(zeroValue t).run P w= .ok z w)(hu:(underlying t).run P w= .ok (.struct fields) w)
 (hp:(fields.mapM λf=>do pure (f.offset,<-sizeOf f.type):Sem (Array (Nat×Nat))).run P w= .ok pl w) (hf:jP (pl[·]?) z.cells parts.toList=aj c):(dR t parts).run P w= .ok (.agg c) w:=by
 simp at hp;simp[dR,hz,hu,hp,hf]
theorem EY(off:Nat):∀(vs:List Value) (k:Nat) (cs:List Value),off+k+vs.length<=cs.length->(vs.zipIdx k).foldl (λcs (c,j)=>cs.setIfInBounds (off+j) c) cs.toArray=(cs.take (off+k)++vs++cs.drop (off+k+vs.length)).toArray
 |[],k,cs,_=>by simp
 |v::vs,k,cs,h=>by
  simp only[dE]at h;rw[List.zipIdx_cons,List.foldl_cons];dsimp only;rw[Ec,EY off vs (k+1) _ (by rw[List.length_set];omega)]
  congr 1
  rw[show off+(k+1)=off+k+1 by omega,List.take_set,List.drop_set_of_lt J,dE,show off+k+(vs.length+1)=off+k+1+vs.length by omega];rw[List.take_add_one,List.set_append_right _ _ (by simp;omega)];have:(off+k)<cs.length:=by omega
  simp[bQ this,List.length_take,Nat.min_eq_left (Nat.le_of_lt this)]
theorem TZ{place:Nat->Option (Nat×Nat)}{i off m:Nat}{cells a:List Value}{rest:List (Nat×Value)}(h0:place i=aj (off,m))(ha:a.length=m)(hc:off+m<=cells.length):jP place cells.toArray ((i,aU a.toArray)::rest)=jP place (cells.take off++a++cells.drop (off+m)).toArray rest:=by
 subst ha;have:=EY off a 0 cells J;rw[iO]at this;rw[jP,h0];show(if _ then ak else _)=_
 rw[if_neg (by simp[vV];omega)]
 congr 1
 rw[<-this,<-YM];simp[vV]
end cZ
namespace cZ
open Go.RowKit dr eH aV ey fJ iT kF bV mW dq
theorem Cu.gr{w w':World}{v:Value}{m:Md}{vo vn vt vp vr va vg:Value}(h:Cu w v m vo vn vt vp vr va vg)(hg:Gr w w'):Cu w' v m vo vn vt vp vr va vg:=
 ⟨h.val,h.of.gr hg,h.pk.gr hg,h.AV.gr hg,sP h.rows hg,h.py.gr hg⟩
end cZ
namespace cZ
open Go.RowKit dr eH aV ey fJ iT kF bV mW iy dq
theorem abu(o:Of)(vn vt v:Value):(fw o vn vt).set 256 v=fw o v vt:=by
 unfold fw;rw[AP,if_neg (by simp)];simp
theorem abv(o:Of)(vn vt v:Value):(fw o vn vt).set 257 v=fw o vn v:=by
 unfold fw;rw[AP,if_neg (by simp)];simp
theorem abw{vo:Value}{pk tl:List Value}(j:Nat)(hj:j<pk.length){k:Nat}(v:Value)(hk:k=j+1):(jx vo pk tl).toArray.setIfInBounds k v=(jx vo (pk.set j v) tl).toArray:=by
 subst hk;rw[Ec,jx,List.set_cons_succ,AP,if_pos hj];rfl
section
variable{P:Program}{n:Nat}{W:b9}{fr:Fr}{L:List cU}{Q:Exit->Act->World->Prop}{ops:Array Oper}{rest:List Oper}{ty:TypeId}{pos:String}{after:Array Edge}{t:TypeId}{p x:Operand}{i g k:Nat}{vo:Value}{pk tl:List Value}{T:TypeId}{agg:Bool}{v:Value}
theorem EZ(j:Nat){pk':List Value}[hT:aL P t agg 1](hi:L[i]?=aj (aR g (jx vo pk tl).toArray T))(hp:ev fr p=aj (aK (aj ⟨g,k,ak⟩)))(hx:ev fr x=aj v)(hv:v.cells=#[v])(h1:v.oneCell'=aD)(hk:k=j+1)(eA:pk.length=258)(hj:j<258)(he:pk.set j v=pk')
 (h:TL P n W ops Q rest fr (L.set i (aR g (jx vo pk' tl).toArray T))):TL P n W ops Q (⟨ak,.store t p x,ty,pos,after,ak⟩::rest) fr L:=by
 subst he;refine cD hi hp hx hv h1 ?_ ?_
 ·rw[List.size_toArray,jx,dE,bT]
  exact Nat.ble_eq_true_of_le J
 ·rw[abw j J v hk];exact h
end
theorem MD(a:Option Addr)(m c:Nat)(b:Option Addr)(n d:Nat)(w:World):(dR 36 #[(0,ap a m c),(1,ap b n d)]).run aC w= .ok (aU #[ap a m c,ap b n d]) w:=by kernel_rfl
structure abx(m:Md):Prop where
 n1:m.N.length<=1000000
 n2:∀r∈m.N,r.length<=1000000
 t1:m.tags.length<=1000000
 r1:m.rows.length<=1000000
 r2:∀r∈m.rows,r.length<=1000000
 a1:m.A.length<=1000000
 a2:∀r∈m.A,r.length<=1000000
 g1:m.G.length<=1000000
 g2:∀r∈m.G,r.length<=1000000
structure CpX where
 vo:Value
 vn:Value×(Nat->Prop)
 vt:Value
 vp:Value×(Nat->Prop)
 vr:Value×(Nat->Prop)
 va:Value×(Nat->Prop)
 vg:Value×(Nat->Prop)
def CpX.L(x:CpX)(m:Md):List cU:=[bD 3 1 x.vo m.of.length (m.of.flatMap dr.eV),Fc (bW (bW fY)) x.vn.2 [x.vn.1] m.N,bD 3 1 x.vt m.tags.length (m.tags.flatMap dr.eV),oq x.vp.2 x.vp.1 m.g.aF,Fc (bW (bW fY)) x.vr.2 [x.vr.1] m.rows,Fc (bW (bW oM)) x.va.2 [x.va.1] m.A,Fc (bW (bW fY)) x.vg.2 [x.vg.1] m.G]
def CpX.mk'(x:CpX)(Ls:List cU):MkX:=⟨x.vo,x.vn.1,x.vt,x.vp.1,x.vr.1,x.va.1,x.vg.1,Ls⟩
def cpS(m:Md):Spec CpX:=⟨λx=>((x.mk' []).cells m).toArray.toList.all fG=aD,λx=>aU ((x.mk' []).cells m).toArray,λx=>x.L m⟩
theorem JI{α:Type}{s:wF α}{F:Nat->Prop}{v:Value}{N:List (List α)}{w:World}(h:(Fc (bW (bW s)) F [v] N).holds w):kH (bW s) (ri w) w v N:=by
 obtain⟨⟨v',hv,h1⟩,h2⟩:=h
 cases hv
 exact h1.mono h2
theorem adX{m:Md}{x:CpX}{B:b9}{w:World}(hm:Mem B (x.L m) w)(ht:dr.eD m.g.aT)(hn:dr.eD m.g.bM):Cu w (aU ((x.mk' []).cells m).toArray) m x.vo x.vn.1 x.vt x.vp.1 x.vr.1 x.va.1 x.vg.1 where
 val:=rfl
 of:=Sl.dY (hm.get (i:=0) I)
 pk:=⟨JI (hm.get (i:=1) I),Sl.dY (hm.get (i:=2) I)⟩
 AV:=⟨x.vp.1,rfl,(by
  obtain⟨⟨v',hv,h1⟩,h2⟩:=(hm.get (i:=3) rfl:(oq x.vp.2 x.vp.1 m.g.aF).holds w)
  cases hv
  exact h1.mono h2),ht,hn⟩
 rows:=JI (hm.get (i:=4) I)
 py:=⟨x.va.1,x.vg.1,rfl,JI (hm.get (i:=5) I),JI (hm.get (i:=6) I)⟩
theorem RG{o:Of}{vn vt:Value}(h1:vn.oneCell'=aD)(h2:vt.oneCell'=aD):(fw o vn vt).all fG=true:=by
 unfold fw;rw[List.all_append,List.all_eq_true.2 (λx hx=>by obtain⟨n,_,rfl⟩:=e7.1 hx;rfl)];simp[h1,h2]
theorem aby{α:Type}{s:wF α}{w:World}{v:Value}{N:List (List α)}(h:kH (bW s) (ri w) w v N):v.oneCell'=true:=by
 obtain⟨b,c,rfl,_⟩:=h;rfl
attribute [local irreducible] Instr.build in
set_option maxRecDepth 100000 in
theorem JJ(x:Value)(m:Md){vo vn vt vp vr va vg:Value}(w:World)(h:Cu w x m vo vn vt vp vr va vg)(hs:abx m)(hg:aV.cL m.g=0)(h20:m.of.length<=20):
 Calls aC 64 #[x] w (cY (cpS m) w):=by
 have eA:(fw m.o vn vt).length=258:=gT _ _ _;have hpn:(fw m.o vn vt)[256]?=aj vn:=by have:=lX m.o vn vt;simpa using this
 have hpt:(fw m.o vn vt)[257]?=aj vt:=by have:=nM m.o vn vt;simpa using this
 have hcO:=λw' (hw:Gr w w')=>kj vo m.of w' (h.of.gr hw) J;have hcN:=λw' (hw:Gr w w')=>td vn m.N w' (sP h.pk.hN hw) hs.n1 hs.n2;have hcT:=λw' (hw:Gr w w')=>kj vt m.tags w' (h.pk.hT.gr hw) (by have:=hs.t1;omega);have hcR:=λw' (hw:Gr w w')=>td vr m.rows w' (sP h.rows hw) hs.r1 hs.r2;obtain⟨va',vg',hag,hA,hG⟩:=h.py
 cases hag
 have hcA:=λw' (hw:Gr w w')=>JH va m.A w' (kH.gr hA hw) hs.a1 hs.a2;have hcG:=λw' (hw:Gr w w')=>td vg m.G w' (sP hG hw) hs.g1 hs.g2;obtain⟨_,_,_,_,hlen,hps⟩:=de hg;have B2:((jx vo (fw m.o vn vt) (gU m.g.aT m.g.bM vp m.mode vr va vg)).toArray.toList.all fG=aD):=by
  refine vZ ?_ (RG (aby h.pk.hN) ?_) ?_;obtain⟨b,c,e,_⟩:=h.of;rw[e];rfl;obtain⟨b,c,e,_⟩:=h.pk.hT;rw[e];rfl;obtain⟨YX,e,⟨b,c,e',_⟩,_⟩:=h.AV;have e2:vp=YX:=by simp only[ee,k7]at e;have:=congrArg (λz:Array Value=>z[2]?) e;simpa using this
  rw[e2,e'];obtain⟨b1,c1,e1,_⟩:=h.rows;obtain⟨b2,c2,e2,_⟩:=hA;obtain⟨b3,c3,e3,_⟩:=hG;rw[e1,e2,e3];rfl
 obtain⟨YX,LQ,hP,_⟩:=h.AV;obtain rfl:vp=YX:=by simp only[ee,k7]at LQ;have:=congrArg (λz:Array Value=>z[2]?) LQ;simpa using this
 clear LQ;obtain⟨bp,cp,rfl,H',E6,oC⟩:=hP;unfold maxLen at E6;obtain rfl:=h.val;clear h hA hG;obtain⟨of,o,N,tags,g,mode,rows,A,G⟩:=m;obtain⟨gt,gn,aF⟩:=g;dsimp only at*;have hsz:∀(vo:Value) (o:Of) (vn vt a b c d e f q:Value),(jx vo (fw o vn vt) [a,b,c,d,e,f,q]).toArray.size=266:=λ_ _ _ _ _ _ _ _ _ _ _=>kN (gT _ _ _) I;have JK:∀(vn vt:Value),(fw o vn vt).length=258:=λ_ _=>gT _ _ _;refine enter (args:=[aU (jx vo (fw o vn vt) (gU gt gn (ap bp aF.length cp) mode vr va vg)).toArray]) (n:=62) Tryz.func64 I I I ?_;refine bC (aM (b_ I I I λg1=>bz I λg2=>?_));refine zL ?_
 repeat(first|refine GA ?_|refine gV (aQ (i:=0) aL.ty I I (hsz _ _ _ _ _ _ _ _ _ _ _)) ?_)
 refine bz I λg3=>?_;rw[wy];refine zL ?_;refine aZ (i:=2) (cs':=(jx vo (fw o vn vt) (gU gt gn (ap bp aF.length cp) mode vr va vg)).toArray) I I I (hsz _ _ _ _ _ _ _ _ _ _ _) B2 (kN jp I) ?_;refine zL ?_
 repeat(first|refine GA ?_|refine gV (aB (v:=vo) aL.ty I (aH (i:=0) I I)) ?_)
 refine a8 (ju aJ.en I I) (λw hm=>hcO _ hm.below) I I I ?_;intro D8 _;refine zL ?_
 try refine GA ?_
 refine aY (i:=3) I λu1 u2=>ye (i:=2) I I I u1 u2 I ?_;refine zL ?_
 try refine GA ?_
 refine eo ([aR g1 (jx vo (fw o vn vt) (gU gt gn (ap bp aF.length cp) mode vr va vg)).toArray 38]) (.calm 0 (.calm 1 (.calm 2 (.calm 4 (.calm 5 (.calm 6 (.one 3 (.calm 8 (.calm 9 (.one 7 (.one 10 (.calm 11 (.calm 12 (.one 13 (.done))))))))))))))) (cH [0]) ?_
 repeat(first|refine GW ?_|(refine GN ?_;first|refine QW (aB (v:=vn) aL.ty I (aH (i:=0) I (Hk eA hpn))) ?_|refine QW (aB (v:=vt) aL.ty I (aH (i:=0) I (Hk eA hpt))) ?_))
 refine aO I ?_;refine a8 (ju aJ.en I I) (λw hm=>hcN _ hm.below) I I I ?_;rintro⟨vn',Fn⟩ ⟨an,cn,un⟩;dsimp only at un;subst un
 conv=>arg 8;simp only[zJ,dg,ret,id_eq,BD]
 refine aP (cH [0]) ?_
 try refine GW ?_
 refine aO I ?_;refine a8 (ju aJ.en I I) (λw hm=>hcT _ hm.below) I I I ?_;intro oL _;refine zL ?_;refine aP (cH [0]) ?_
 try refine GW ?_
 refine aO I (EZ (i:=2) 256 I I I I I I (JK _ _) ahk (abu _ _ _ _) ?_);refine zL ?_;refine aP (cH [0]) ?_
 try refine GW ?_
 refine aO I (aY (i:=5) I λu3 u4=>EZ (i:=2) 257 I I I u3 u4 I (JK _ _) ahk (abv _ _ _ _) ?_);refine zL ?_;refine aP (cH [0]) ?_
 try refine GW ?_
 try refine GA ?_
 refine eI (i:=2) 2 I I I I I I (JK _ _) I ?_;refine zL ?_
 repeat(first|refine GA ?_|refine gV (aB (v:=ap bp aF.length cp) aL.ty I (aH (i:=0) I (jA 2 eA I I))) ?_)
 refine jy 140 2 (mN (eO oB (λ_=>False) [] []) (λk hk=>hk.elim (λh=>by cases h) id) (λw=>jD) ?_);refine eK (ι:=Nat×Value×List (List Value)×(Nat->Prop)) (λ(k,vq,_,_)=>k<=aF.length/\vq.cells=#[vq]/\vq.oneCell'=aD) (λ(k,vq,_,_)=>[(1,aK (aj ⟨g1,0,ak⟩)),(2,aK (aj ⟨g2,0,ak⟩)),(3,aK (aj ⟨g3,0,ak⟩)),(27,ap bp aF.length cp),(28,av az aF.length),(29,av az (k:Int))])
  (λ(k,vq,gY,F)=>[aR g1 (jx vo (fw o vn vt) (gU gt gn (ap bp aF.length cp) mode vr va vg)).toArray 38,aR g2 E9.toArray 38,aR g3 (jx D8 (fw o (ap an N.length cn) oL) (gU gt gn vq mode vr va vg)).toArray 38,bD 3 1 D8 of.length (of.flatMap dr.eV),Fc (bW (bW fY)) Fn [ap an N.length cn] N,bD 3 1 oL tags.length (tags.flatMap dr.eV),bD 140 2 vq k gY.flatten,eO oB F gY (aF.take k)]) (λ(k,_,_,_)=>aF.length-k) (0,ap ak 0 0,[],λ_=>False) ⟨bO _,rfl,rfl⟩ ?_
 rintro⟨k,vq,gY,F⟩ ⟨i1,i2,i3⟩;dsimp only at i1 i2 i3⊢
 by_cases c6:k<aF.length
 ·obtain⟨b,off,rfl,_,hr⟩:=oC J
  obtain⟨bb,cb,q1,q2,q3⟩:=lT hr c6;have d_:∀(L:List cU) (j:Nat) (v:Value),([av az aF[k].1,.slice bb aF[k].2.length cb]:List Value)[j]?=aj v->At w L ⟨b,off+k*2+j,ak⟩ v:=λL j v hj=>jb q1 hj;have Sw:=(hps aF[k] (cV c6)).1;have rl:aF.take (k+1)=aF.take k++[aF[k]]:=ia c6;clear hr oC q1 hps;generalize aF[k]=p at*;obtain⟨hd,body⟩:=p;have agF:=q3.okp;have lz:=λw' (hg:Gr w w')=>BM (ap bb body.length cb) body w' ((q3.flat ahk).gr hg) (by dsimp only at Sw;omega);dsimp only at*
  repeat(first|refine GA ?_|refine gV (a_ bR.eq aL.ty I I c6) ?_|refine gV (bH aL.ty I I (d_ _)) ?_)
  clear d_;refine bz I λg5=>?_;refine il 8 ?_;refine zL ?_
  try refine GA ?_
  refine eo ([aR g5 #[av az hd,ap bb body.length cb] 140]) (.calm 0 (.calm 1 (.calm 3 (.calm 4 (.calm 5 (.calm 6 (.two 2 (.one 7 (.calm 8 (.one 9 (.one 10 (.calm 11 (.calm 12 (.one 13 (.done)))))))) 7 (.calm 8 (.two 2 (.one 9 (.one 10 (.calm 11 (.calm 12 (.one 13 (.done)))))) 9 (.one 2 (.one 10 (.calm 11 (.calm 12 (.one 13 (.done))))))))))))))) (cH [8]) ?_
  repeat(first|refine GW ?_|(refine GN ?_;first|refine QW (aB aL.ty I (aH (i:=0) I I)) ?_))
  refine e9 I I ?wa ?wb
  case' wa=>
   refine aI (aB (v:=vq) aL.ty I (aH (i:=2) I (jA 2 (JK _ _) I I))) I I I (aP (cH [8]) ?_);refine aO I ?_
  all_goals
   refine a8 (ju aJ.en I I) (λw hm=>lz _ hm.below) I I I ?_;intro vb _;refine zL ?_;refine nJ (i:=9) I λb2 c2 zr e1 e2=>?_;subst zr;refine aP (cH [8]) ?_
   repeat(first|refine GW ?_|(refine GN ?_;first|refine QW (bP I (N7 _ _ _ _)) ?_))
  case' wa=>refine aO I (fX (cs:=#[av az hd,ap b2 body.length c2]) I I I I I λg9=>aP (cH [8]) ?_)
  case' wb=>refine e9 I I ?wc ?wd
  case' wc=>
   refine aI (aB (v:=vq) aL.ty I (aH (i:=2) I (jA 2 (JK _ _) I I))) I I I (aP (cH [8]) ?_);refine aO I (fX (cs:=#[av az hd,ap b2 body.length c2]) I I I I I λg9=>aP (cH [8]) ?_)
  case' wd=>
   refine fX (cs:=#[av az hd,ap b2 body.length c2]) I I I I I λg9=>aP (cH [8]) ?_;refine aO I (aI (aB (v:=vq) aL.ty I (aH (i:=2) I (jA 2 (JK _ _) I I))) I I I (aP (cH [8]) ?_))
  all_goals
   refine aO I (mK (i:=6) (q:=10) I I I I I I J J I λvq2=>aP (cH [8]) ?_)
   try refine GW ?_
   refine aO I (aY (i:=6) I λoQ mL=>eI (i:=2) 2 I I I oQ mL I (JK _ _) I (aP (cH [8]) ?_))
   try refine GW ?_
   refine wm (eO oB (λk=>F k\/(ap b2 body.length c2).ownBlock=aj k) (gY++[[av az hd,ap b2 body.length c2]]) (aF.take k++[(hd,body)])) 9 7 [0,1,2,3,4,5,6] ahk I I I (λk hk=>hk.elim (λh=>by cases h) λh=>h.elim (λh=> .inr (.inr h)) λh=> .inl (.inl h)) (λw hr he=>?_) ?_
   ·exact mM he (Ba q2 agF hr) λk hk=>(bD 148 2 (ap b2 body.length c2) body.length (body.flatMap eX)).lt w hr k (.inl hk)
   try refine GA ?_
   exact cJ (k+1,vq2,gY++[[av az hd,ap b2 body.length c2]],λk=>F k\/(ap b2 body.length c2).ownBlock=aj k) ⟨by omega,oQ,mL⟩ (by show aF.length-(k+1)<aF.length-k;omega) (hl:=by rw[rl,AO];rfl)
 ·obtain rfl:k=aF.length:=by omega
  rw[gj (bJ _)]
  repeat(first|refine GA ?_|refine gV (aB (v:=vr) aL.ty I (aH (i:=0) I (jA 4 eA I I))) ?_)
  refine a8 (ju aJ.en I I) (λw hm=>hcR _ hm.below) I I I ?_;rintro⟨BP,Fr'⟩ ⟨ar,cr,ur⟩;dsimp only at ur;subst ur
  conv=>arg 8;simp only[zJ,dg,ret,id_eq,BD]
  try refine GA ?_
  refine eI (i:=2) 4 I I I I I I (JK _ _) I ?_;refine zL ?_
  try refine GA ?_
  refine eo ([aR g1 (jx vo (fw o vn vt) (gU gt gn (ap bp aF.length cp) mode vr va vg)).toArray 38]) (.calm 0 (.calm 1 (.calm 2 (.calm 4 (.calm 5 (.calm 6 (.one 3 (.one 7 (.calm 8 (.calm 9 (.one 10 (.done)))))))))))) (cH [0]) ?_
  repeat(first|refine GW ?_|(refine GN ?_;first|refine QW (aB (v:=va) aL.ty I (aH (i:=0) I (jA 5 eA I I))) ?_|refine QW (aB (v:=vg) aL.ty I (aH (i:=0) I (jA 6 eA I I))) ?_))
  refine aO I ?_;refine a8 (ju aJ.en I I) (λw hm=>hcA _ hm.below) I I I ?_;rintro⟨va',Fa'⟩ ⟨aa,ca,ua⟩;dsimp only at ua;subst ua
  conv=>arg 8;simp only[zJ,dg,ret,id_eq,BD]
  refine aP (cH [0]) ?_
  try refine GW ?_
  refine aO I ?_;refine a8 (ju aJ.en I I) (λw hm=>hcG _ hm.below) I I I ?_;rintro⟨vg',Fg'⟩ ⟨ag,cg,ug⟩;dsimp only at ug;subst ug
  conv=>arg 8;simp only[zJ,dg,ret,id_eq,BD]
  refine aP (cH [0]) ?_
  repeat(first|refine GW ?_|(refine GN ?_;first|refine QW (bP I (MD _ _ _ _ _ _)) ?_))
  refine aO I (iV (i:=2) 5 (cs:=[ap aa A.length ca,ap ag G.length cg]) (tl':=gU gt gn vq mode (ap ar rows.length cr) (ap aa A.length ca) (ap ag G.length cg)) I I I I I I (JK _ _) I I ?_);refine zL ?_;refine aP (cH [0]) ?_
  try refine GW ?_
  repeat(first|refine GA ?_|refine gV (aQ (i:=2) aL.ty I I (hsz _ _ _ _ _ _ _ _ _ _ _)) ?_)
  refine aY (i:=3) I λ_ w1=>aY (i:=5) I λ_ w2=>?_;have qQ:(jx D8 (fw o (ap an N.length cn) oL) (gU gt gn vq mode (ap ar rows.length cr) (ap aa A.length ca) (ap ag G.length cg))).toArray.toList.all fG=true:=vZ w1 (RG I w2) (by simp only[gU,dw,dA,i3];rfl);refine aZ (i:=1) (cs':=(jx D8 (fw o (ap an N.length cn) oL) (gU gt gn vq mode (ap ar rows.length cr) (ap aa A.length ca) (ap ag G.length cg))).toArray) I I I (hsz _ _ _ _ _ _ _ _ _ _ _) qQ (kN jp I) ?_;refine zL ?_;refine pj (oq (Vy F vq) vq aF) 6 7 [1,3,4,5,8,9,10] ahk I I I (λk hk=>hk.elim (λh=>by cases h) λh=>h.elim (λh=> .inr (.inr h)) λh=> .inl (.inl h)) (λw hr he=>?_) ?_;exact⟨⟨vq,rfl,xw (s:=oB) hr he ahk⟩,xy hr he⟩
  try refine GA ?_
  exact h_ (i:=0) I I I (hsz _ _ _ _ _ _ _ _ _ _ _) λw hm=>hm.meets (S:=cpS ⟨of,o,N,tags,⟨gt,gn,aF⟩,mode,rows,A,G⟩) ⟨D8,(_,Fn),oL,(vq,Vy F vq),(_,Fr'),(_,Fa'),(_,Fg')⟩ qQ [1,2,3,7,4,5,6] ahk I
end cZ
namespace cZ
open Go.RowKit dr eH aV ey fJ iT kF bV mW iy dq
theorem Cz{place:Nat->Option (Nat×Nat)}{i m:Nat}{C T T' a:List Value}{v:Value}{rest:List (Nat×Value)}(j:Nat)(hC:C.length=266)(h0:place i=aj (266+j,m))(hv:v.cells=a.toArray)(ha:a.length=m)(hc:Nat.ble (j+m) T.length=aD)(he:T.take j++a++T.drop (j+m)=T'):jP place (C++T).toArray ((i,v)::rest)=jP place (C++T').toArray rest:=by
 subst ha he;have hc:=Nat.le_of_ble_eq_true hc;have:=EY (266+j) a 0 (C++T) (by rw[bT];omega);rw[iO]at this;rw[jP,h0];show(if _ then ak else _)=_
 rw[if_neg (by simp[hv];omega)]
 congr 1
 rw[show 266+j=C.length+j by omega,List.take_length_add_append,show C.length+j+a.length=C.length+(j+a.length)by omega,List.drop_length_add_append]at this;rw[<-eZ,<-eZ,<-this,<-YM];simp[hv,hC]
def Y2:List Value:=([ap ak 0 0]:List Value)++List.replicate 256 (av .u8 0)++([ap ak 0 0,ap ak 0 0,av az 0,av az 0,ap ak 0 0,av az 0,ap ak 0 0,ap ak 0 0,ap ak 0 0]:List Value)
def afI:List Value:=rf (zj 0 0) (ap ak 0 0) [ap ak 0 0,av az 0,av az 0,.bool aE,ap ak 0 0,av az 0,av az 0,.bool aE] (ap ak 0 0)
theorem Y3:Y2.length=266:=by
 unfold Y2;rw[bT,bT,List.length_replicate];rfl
set_option maxRecDepth 100000 in
theorem T0{vo vc vs:Value}{pk tl:List Value}(x y:Int)(eA:pk.length=258)(htl:tl.length=7)(w:World):(dR 168 #[(0,aU (jx vo pk tl).toArray),(1,av az x),(2,av az y),(10,tk vc 0 0 aE),(11,vU vs 0 0 aE)]).run aC w= .ok (aU (jx vo pk (tl++rf (zj x y) (ap ak 0 0) [vc,av az 0,av az 0,.bool aE,vs,av az 0,av az 0,.bool aE] (ap ak 0 0))).toArray) w:=by
 have hz:(zeroValue 168).run aC w= .ok (aU (Y2++afI).toArray) w:=by kernel_rfl
 have hu:∃fields,(underlying 168).run aC w= .ok (.struct fields) w/\(fields.mapM λf=>do pure (f.offset,<-sizeOf f.type):Sem (Array (Nat×Nat))).run aC w= .ok #[(0,266),(266,1),(267,1),(268,1),(269,1),(270,1),(271,1),(272,3),(275,1),(276,1),(277,4),(281,4),(285,3),(288,1),(289,1),(290,1)] w:=⟨_,rfl,by kernel_rfl⟩;obtain⟨fields,hu,hp⟩:=hu;have hl:(jx vo pk tl).length=266:=by rw[jx,dE,bT];omega
 refine PV hz hu hp ?_;show jP _ (Y2++afI).toArray [(0,aU (jx vo pk tl).toArray),(1,av az x),(2,av az y),(10,tk vc 0 0 aE),(11,vU vs 0 0 aE)]=_
 have hz:=Y3;generalize Y2=Z at*;rw[TZ (m:=266) I hl (by rw[bT];omega),List.take_zero,fg,du,List.drop_append,List.drop_of_length_le (Nat.le_of_eq hz),hz,Nat.sub_self,List.drop_zero,fg];rw[Cz (m:=1) (a:=[av az x]) 0 hl I I I I I,Cz (m:=1) (a:=[av az y]) 1 hl I I I I I,Cz (m:=4) (a:=[vc,av az 0,av az 0,.bool aE]) 11 hl I I I I I,Cz (m:=4) (a:=[vs,av az 0,av az 0,.bool aE]) 15 hl I I I I I];rw[jP];simp[jx];rfl
structure abz where
 g:Nat
 y:MkX
 up:Value
 uq:Value
abbrev abz.L(z:abz)(b:Bool)(m:Md)(s:gX)(ut up uw:Value):List cU:=iy b z.g z.y.vo (fw m.o z.y.vn z.y.vt) (gU m.g.aT m.g.bM z.y.vp m.mode z.y.vr z.y.va z.y.vg) s ut up z.uq uw
def abA(b:Bool)(m:Md)(x y:Int):Spec abz:=⟨λz=>adR m z.y,λz=> .tuple #[aK (aj ⟨z.g,0,ak⟩),av az 0],λz=>z.L b m (zj x y) (ap ak 0 0) z.up (ap ak 0 0)++[B3 z.y.Ls]⟩
def adY(b:Bool)(m:Md)(x y:Int):Spec (Nat×CpX×Value×Value):=⟨λz=>((z.2.1.mk' []).cells m).toArray.toList.all fG=aD,λz=> .tuple #[aK (aj ⟨z.1,0,ak⟩),av az 0],λz=>(⟨z.1,z.2.1.mk' [],z.2.2.1,z.2.2.2⟩:abz).L b m (zj x y) (ap ak 0 0) z.2.2.1 (ap ak 0 0)++z.2.1.L m⟩
attribute [local irreducible] Instr.build in
set_option maxRecDepth 100000 in
theorem abB(v:Value)(m:Md)(b:Bool)(T N:Nat){vo vn vt vp vr va vg:Value}(x y:Int)(hx0:0<=x)(kB:x<=4096)(hy0:0<=y)(hy1:y<=1000)(w:World)(h:Cu w v m vo vn vt vp vr va vg)(hk:jN m b T N)(hs:abx m):
 Calls aC 25 #[v,av az x,av az y] w (cY (adY b m x y) w):=by
 have eA:(fw m.o vn vt).length=258:=gT _ _ _;have hrt:=λw' (hw:Gr w w')=>Jn v m w' (h.gr hw) hk.toMdGood;have H':=λw' (hw:Gr w w')=>JJ v m w' (h.gr hw) hs hk.AV hk.qY;have hbs:=λ(vo vn vt vp vr va vg vc vs:Value)=>T0 (vo:=vo) (pk:=fw m.o vn vt) (tl:=gU m.g.aT m.g.bM vp m.mode vr va vg) (vc:=vc) (vs:=vs) x y (gT _ _ _) I;obtain rfl:=h.val;clear h hk hs;refine enter (args:=[aU (jx vo (fw m.o vn vt) (gU m.g.aT m.g.bM vp m.mode vr va vg)).toArray,av az x,av az y]) (n:=36) Tryz.func25 I I I ?_;refine bC (aM (b_ I I I λg1=>?_));refine zL ?_
 repeat(first|refine GA ?_|refine gV (aQ (i:=0) aL.ty I I (kN eA I)) ?_)
 refine a8 (ju aJ.en I I) (λw hm=>hrt _ hm.below) I I I ?_;intro _ _;refine zL ?_
 repeat(first|refine GA ?_|refine gV (aQ (i:=0) aL.ty I I (kN eA I)) ?_)
 refine a8 (ju aJ.en I I) (λw hm=>H' _ hm.below) I I I ?_;intro c hc
 conv=>arg 8;simp only[zJ,dg,ret,id_eq,cpS,CpX.L]
 conv=>arg 7;simp only[cpS,CpX.mk',MkX.cells]
 try refine GA ?_
 refine a8 (he0 aJ.en I) (λw hm=>AS w) I I I ?_;intro vc _
 conv=>arg 8;simp only[zJ,dg,ret,id_eq,Cr]
 conv=>arg 7;simp only[Cr]
 try refine GA ?_
 refine a8 (he0 aJ.en I) (λw hm=>Fw w) I I I ?_;intro vs _
 conv=>arg 8;simp only[zJ,dg,ret,id_eq,Cp]
 conv=>arg 7;simp only[Cp]
 repeat(first|refine GA ?_|refine gV (bP I (hbs _ _ _ _ _ _ _ _ _)) ?_)
 refine b_ I I I λg2=>?_;refine zL ?_
 try refine GA ?_
 refine qu (toP (ap ak 0 0) []) (λk hk=>hk.elim (λh=>by cases h) id) (λw=>⟨rfl,.inl ⟨rfl,rfl⟩⟩) ?_;refine ef 55 2 ?_
 cases b with
 |true=>exact sn I I I λw hm=>hm.meets (S:=adY aD m x y) (g2,c,vc,vs) hc [10,11,8,12,1,2,3,4,5,6,7] ahk I
 |false=>exact sn I I I λw hm=>hm.meets (S:=adY aE m x y) (g2,c,vs,vc) hc [10,11,9,12,1,2,3,4,5,6,7] ahk I
theorem T1(v:Value)(m:Md)(b:Bool)(T N:Nat){vo vn vt vp vr va vg:Value}(x y:Int)(hx0:0<=x)(kB:x<=4096)(hy0:0<=y)(hy1:y<=1000)(w:World)(h:Cu w v m vo vn vt vp vr va vg)(hk:jN m b T N)(hs:abx m):
  Calls aC 25 #[v,av az x,av az y] w (cY (abA b m x y) w):=
 (abB v m b T N x y hx0 kB hy0 hy1 w h hk hs).mono λe w' hm=>hm.to (abA b m x y) λz hz=>by
  obtain⟨g,c,up,uq⟩:=z;obtain⟨b1,b2,b3,b4,b5,_⟩:=de hk.AV;exact⟨⟨g,c.mk' (c.L m),up,uq⟩,⟨λw hb=>adX (Jw hb) ⟨by omega,by omega⟩ ⟨by omega,by omega⟩,hz⟩,rfl,λw' ho=>e_.PP ho⟩
theorem PW{s:Sp}{r:Int×List Row×List Int}(hx:Uj s r)(h:(E_ s r.1).1=0):abx (zo s r):=by
 obtain⟨b,T,N,hf⟩:=Mq hx h;have ok:=AU hf.my;obtain⟨b1,b2,b3,b4,b5,_⟩:=de hf.AV;have hN:∀r'∈(zo s r).N,r'.length<=1000000:=λr' hr=>by
  obtain⟨i,hi,rfl⟩:=jt.1 hr;have:=ok.row i hi;have:=ok.w1;omega
 have hm:((zo s r).mode=1/\(zo s r).A=[]/\(zo s r).G=[])\/((zo s r).mode=2/\(zo s r).rows=[]):=by
  unfold zo;split;exact .inl ⟨rfl,rfl,rfl⟩;exact .inr ⟨rfl,rfl⟩
 have oX:=hf.md;have htl:(zo s r).tags.length<=1000000:=by have:=ok.len;have:=ok.le;omega
 cases b with
 | true=>
  rcases hm with⟨_,h1,h2⟩|⟨h1,_⟩
  ·obtain⟨_,ht⟩:=hf.ll rfl
   have e1:=ht.aT;have e2:=ht.bM;refine⟨by have:=ok.le;omega,hN,htl,by rw[ht.len];omega,λr hr=>by rw[ht.row r hr];omega,by rw[h1];simp,by rw[h1];simp,by rw[h2];simp,by rw[h2];simp⟩
  rw[h1]at oX;exact absurd oX ahk
 | false=>
  rcases hm with⟨h1,_⟩|⟨_,h1⟩
  rw[h1]at oX;exact absurd oX ahk;have ht:=hf.lr I;have e1:=ht.aT;have e2:=ht.bM;have e3:=ht.BO;have e4:=ht.same;refine⟨by have:=ok.le;omega,hN,htl,by rw[h1];simp,by rw[h1];simp,by omega,λr hr=>?_,by omega,λr hr=>?_⟩
  ·obtain⟨i,hi,rfl⟩:=jt.1 hr
   rw[ht.wA i hi];omega
  obtain⟨i,hi,rfl⟩:=jt.1 hr;rw[ht.wG i hi];omega
end cZ
namespace cZ
open Go.RowKit dr eH aV ey fJ iT kF bV mW iy dq
open iU (Ev sa takeN)
theorem BE{P:Program}{f:FuncId}{args:Array Value}{w:World}{ι κ:Type}{S:Spec ι}{S':Spec κ}{W:b9}{L Lx R:List cU}(hm:Mem W L w)(is js:List Nat)(Zo:(is++js).Nodup)(Zn:Lx=is.filterMap λi=>L[i]?)(MI:R=js.filterMap λi=>L[i]?)(hc:∀B,Mem B Lx w->Calls P f args w (dF S B))
 (hS:∀x,S.ok x->∃y,S'.ok y/\S'.val y=S.val x/\∃qs:List Nat,qs.Nodup/\S'.own y=qs.filterMap λi=>(R++S.own x)[i]?):Calls P f args w (dF S' W):=by
 have U7:Mem W (Lx++R) w:=hm.pick (is++js) Zo (xl Zn MI);have hm3:Mem W Lx w:=hm.pick is (List.nodup_append.1 Zo).1 Zn;refine(hc _ hm3.over).mono λe w' ⟨x,h1,h2,h3⟩=>?_;obtain⟨y,k1,k2,qs,k3,k4⟩:=hS x h1;exact⟨y,k1,by rw[h2,k2],(U7.back h3).pick qs k3 k4⟩
theorem Y4{W:b9}{L Lx Ls:List cU}{w:World}{φ:World->Prop}(hm:Mem W L w)(is:List Nat)(i:Nat)(hn:(is++[i]).Nodup)(Zn:Lx=is.filterMap λi=>L[i]?)(hi:L[i]?=aj (B3 Ls))(hφ:∀w,(B3 Ls).holds w->φ w):n9 (b9.on w Lx) φ:=λL' w' h'=>
 hφ w' (((hm.pick (L':=Lx++[B3 Ls]) (is++[i]) hn (xl Zn (by simp[hi]))).back h').get (i:=0) I)
structure ME(s' s:gX):Prop where
 eN:s'.eN=s.eN
 p:s'.p=s.p
 par:∀b vp vq,jq b s' vp vq=jq b s vp vq
theorem ME.self(s:gX):ME s s:=⟨rfl,rfl,λ_ _ _=>rfl⟩
theorem MF(s:gX)(e:Int)(pl:Nat):ME (wB s e pl) s:=⟨rfl,rfl,λ_ _ _=>rfl⟩
theorem T2(s:gX)(x:List UInt8):ME (w7 s x).1 s:=by
 unfold w7;split;exact .self s;split;exact .self s;split;exact MF _ _ _;exact⟨rfl,rfl,λ_ _ _=>rfl⟩
theorem PX(s:gX):ME (rb s).1 s:=by
 unfold rb;split;exact .self s;exact⟨rfl,rfl,λ_ _ _=>rfl⟩
theorem PY(s:gX)(n:Int):ME (re s n).1 s:=by
 unfold re;split;exact .self s;split;exact .self s;exact⟨rfl,rfl,λ_ _ _=>rfl⟩
theorem T3(s:gX)(n:Int):ME (jO s n).1 s:=by
 unfold jO;split;exact .self s;exact⟨rfl,rfl,λ_ _ _=>rfl⟩
section
variable{b:Bool}{g:Nat}{vo:Value}{pk md:List Value}{ut up uq uw:Value}{m:Md}(eA:pk.length=258)(oX:md.length=7)
include eA oX
def E0(b:Bool)(g:Nat)(vo:Value)(pk md:List Value)(s':gX)(v:Value)(ut up uq:Value):Spec Value:=⟨λ_=>True,λ_=>v,λvw=>iy b g vo pk md s' ut up uq vw⟩
omit eA oX in
theorem PZ{f:FuncId}{args:Array Value}{w:World}{B:b9}{s s':gX}{v:Value}(hm:Mem B (iy b g vo pk md s ut up uq uw) w)(hk:ME s' s)(hc:∀B,Mem B (wR g vo pk md s ut (jq b s up uq) uw) w->Calls aC f args w (dF ⟨λ(_:Value)=>True,λ_=>v,λvw=>wR g vo pk md s' ut (jq b s up uq) vw⟩ B)):Calls aC f args w (dF (E0 b g vo pk md s' v ut up uq) B):=by
 refine BE hm [0,3] [1,2] ahk I I hc λx _=>⟨x,trivial,rfl,[2,0,1,3],by decide,?_⟩;simp only[E0,iy,hk.par,hk.eN,hk.p];rfl
theorem FP(s:gX)(hs:iM m b s)(x:List UInt8)(hx:x.length<=9223372036854775807)(w:World)(B:b9)(hm:Mem B (iy b g vo pk md s ut up uq uw) w):
 Calls aC 27 #[aK (aj ⟨g,0,ak⟩),str x] w (dF (E0 b g vo pk md (w7 s x).1 (av az (w7 s x).2) ut up uq) B):=
 PZ hm (T2 s x) λB hm=>Js eA oX (r8 b s up uq) s x hx hs.kq hs.BO (by have:=hs.kG;omega) w B hm
theorem JL(s:gX)(w:World)(B:b9)(hm:Mem B (iy b g vo pk md s ut up uq uw) w):
 Calls aC 28 #[aK (aj ⟨g,0,ak⟩)] w (dF (E0 b g vo pk md (rb s).1 (av az (rb s).2) ut up uq) B):=
 PZ hm (PX s) λB hm=>Mh eA oX (r8 b s up uq) s w B hm
theorem E3(s:gX)(hs:iM m b s)(n:Int)(w:World)(B:b9)(hm:Mem B (iy b g vo pk md s ut up uq uw) w):
 Calls aC 26 #[aK (aj ⟨g,0,ak⟩),av az n] w (dF (E0 b g vo pk md (re s n).1 (av az (re s n).2) ut up uq) B):=
 PZ hm (PY s n) λB hm=>FJ eA oX (r8 b s up uq) s n (zq hs) w B hm
def abC(b:Bool)(g:Nat)(vo:Value)(pk md:List Value)(R:gX×List Ev)(ut up uq:Value):Spec (Value×Value):=⟨λ_=>True,λx=>x.2,λx=>iy b g vo pk md R.1 ut up uq x.1++[lu x.2 R.2]⟩
theorem FQ(s:gX)(hs:iM m b s)(n:Int)(w:World)(B:b9)(hm:Mem B (iy b g vo pk md s ut up uq uw) w):
 Calls aC 30 #[aK (aj ⟨g,0,ak⟩),av az n] w (dF (abC b g vo pk md (jO s n) ut up uq) B):=by
 have hk:=T3 s n;refine BE hm [0,3] [1,2] ahk I I (λB hm=>Jy eA oX (r8 b s up uq) s n (zq hs) w B hm) λx _=>⟨x,trivial,rfl,[2,0,1,3,4],by decide,?_⟩;simp only[abC,iy,hk.par,hk.eN,hk.p];rfl
theorem A1(s:gX)(hs:iM m b s)(B:b9)(w:World)(hm:Mem B (iy b g vo pk md s ut up uq uw) w):
 Calls aC 31 #[aK (aj ⟨g,0,ak⟩)] w (cY (ret (.tuple #[av az (zk s).1,av az ((zk s).2.1:Int),.bool (zk s).2.2])) w):=by
 obtain⟨a2,c2,e2⟩:=Jx (hm.get (i:=3) rfl);exact BZ eA oX (r8 b s up uq) s ⟨a2,c2,e2⟩ (by have:=hs.wl;omega) w (hm.get (i:=0) I)
end
end cZ
namespace iy
open aV ey fJ mW bV dq cZ kF
open iU (Ev sa takeN)
def B5(s:gX):Nat:=2*s.kG.length+s.jc.length+s.eN.length+(if s.mv=aD then 0 else 1)+(if s.over=aD then 0 else 1)
structure agG(s' s:gX):Prop where
 ended:s'.ended=s.ended
 cr:s'.cr=s.cr
 gone:s'.gone=s.gone
theorem Y5{m:Md}{b:Bool}{s:gX}(hr:lh s=aD):B5 (jL m b s)+1<=B5 s/\agG (jL m b s) s:=by
 obtain⟨r1,r2,r3⟩:=A0 hr;unfold jL B5;rw[r1]
 cases e1:s.eN with
 | cons t l=>
  dsimp only;split
  ·refine⟨?_,rfl,rfl,rfl⟩
   dsimp only;rw[dE];simp only[ow,if_false];omega
  unfold tr r7;dsimp only;split
  ·refine⟨?_,rfl,rfl,rfl⟩
   unfold lg;dsimp only;rw[dE];simp only[ow,if_false,if_true];omega
  refine⟨?_,rfl,rfl,rfl⟩;dsimp only;rw[dE];simp only[ow,if_false];omega
 | nil =>
  dsimp only;split
  ·refine⟨?_,rfl,rfl,rfl⟩
   unfold lg;dsimp only;rw[e1];simp only[ow,if_false,if_true,gJ];omega
  cases e2:s.kG with
  | cons c r=>
   dsimp only;unfold Me Bz;have hc:=zi (o:=m.o) (N:=m.N) (tags:=m.tags) [c] s.d_ s.jc;simp only[ky]at hc;generalize iI m.o m.N m.tags [c] s.d_ s.jc=D at*;refine⟨?_,rfl,rfl,rfl⟩;dsimp only;rw[dE];simp only[r1,ow,if_false,gJ];omega
  | nil=>
   dsimp only;split
   ·rename_i c2
    unfold ES yj;have hc:=Cv (o:=m.o) (N:=m.N) (tags:=m.tags) (s.jc.length+1) s.d_ s.jc;generalize jK m.o m.N m.tags (s.jc.length+1) s.d_ s.jc=D at*;refine⟨?_,rfl,rfl,rfl⟩;dsimp only;rw[e2,c2];simp only[r1,ow,if_false,if_true,gJ];omega
   refine⟨?_,rfl,rfl,rfl⟩;unfold lg qk;dsimp only;rw[e1,e2];simp only[ow,if_false,if_true,gJ];omega
theorem MG{m:Md}{b:Bool}{s:gX}(hs:iM m b s)(hc:s.cr+s.gone=1073741824){n:Int}(hn:2201<=n):jO s n=({s with wait:=[],cr:=s.cr-(s.wait.length:Nat),gone:=s.gone+(s.wait.length:Nat)},s.wait):=by
 have h1:=hs.seen;have h2:=hs.kG;have h3:=hs.BO;have h4:=hs.kq;have h5:=hs.T6;have h6:=hs.wl;have hk:((s.seen:Int)+if s.over=aD then 1 else 0)<=4097:=by split<;>omega
 generalize ((s.seen:Int)+if s.over=aD then 1 else 0)=K at*;have ht:takeN s.wait s.cr n=s.wait.length:=by unfold takeN;omega
 unfold jO;rw[if_neg J,ht,List.drop_length,nE]
structure Zk(m:Md)(b:Bool)(s:gX):Prop where
 ok:iM m b s
 ended:s.ended=aD
 wait:s.wait=[]
 cr:s.cr+s.gone=1073741824
theorem T4{m:Md}{b:Bool}{T N:Nat}(hk:jN m b T N){s:gX}(h:Zk m b s)(ho:s.over=aE):(mX m b 1 s).2=1/\iM m b (mX m b 1 s).1/\Zk m b (jO (mX m b 1 s).1 1048576).1/\B5 (jO (mX m b 1 s).1 1048576).1+1<=B5 s:=by
 have hr:lh s=true:=by unfold lh;rw[ho,h.wait,h.ended];simp
 have hw:mX m b 1 s=(jL m b s,1):=by rw[mX,if_pos hr];rfl
 obtain⟨h1,h2⟩:=Y5 (m:=m) (b:=b) hr;have h3:=RE hk h.ok hr;rw[hw];dsimp only;rw[MG h3 (by rw[h2.cr,h2.gone];exact h.cr) ahk];have h4:=abq h3 1048576;rw[MG h3 (by rw[h2.cr,h2.gone];exact h.cr) ahk]at h4;refine⟨rfl,h3,⟨h4,h2.ended.trans h.ended,rfl,?_⟩,h1⟩;have:=h.cr;dsimp only;rw[h2.cr,h2.gone];omega
def FR(tx:List UInt8):gX:=⟨4096-tx.length,1000,tx.length,tx,aD,aE,0,[],0,0,[],ps0,0,0,aE,[],1073741824,0,aE,0,0⟩
theorem JM:re (zj 4096 1000) 1073741824=({zj 4096 1000 with cr:=1073741824},0):=by
 unfold re zj;simp
theorem Y6{tx:List UInt8}(h:tx.length<=1000):w7 {zj 4096 1000 with cr:=1073741824} tx=({FR tx with ended:=aE},0):=by
 unfold w7 zj FR;dsimp only;rw[if_neg ahk,if_neg J,if_neg J];simp
theorem RH(tx:List UInt8):rb {FR tx with ended:=aE}=(FR tx,0):=by
 unfold rb FR;simp
theorem Y7{m:Md}{b:Bool}{T N:Nat}(hk:jN m b T N){tx:List UInt8}(h:tx.length<=1000):Zk m b (FR tx)/\B5 (FR tx)=2*tx.length+2:=by
 have h0:=Rz hk (x:=4096) (y:=1000) ahk ahk ahk ahk;have h1:=MB h0 1073741824;rw[JM]at h1;have h2:=abp h1 tx;rw[Y6 h]at h2;have h3:=YZ h2;rw[RH]at h3;refine⟨⟨h3,rfl,rfl,rfl⟩,?_⟩;unfold B5 FR;simp
end iy
namespace sessionSteps
open Go.RowKit dr eH cZ dT iA iT aV ey dq mW kF iy
set_option maxRecDepth 100000 in
theorem walk(w:World)(v:Value)(s:Sp)(hv:Ud (ri w) w v s)(hb:∀r∈s.rules,r.2.length*16<=140737488351232)(tx:List UInt8)(htx:tx.length<=140737488351232):
 Calls aC 6 #[v,str tx] w (cY (ret (.bool aD)) w):=by
 obtain⟨r,hx⟩:=adK s;have afJ:=λc w' (hg:Gr w w')=>TU hx (hv.gr hg) (λr h=>by have:=hb r h;omega) c;have afK:=λc w' (hg:Gr w w')=>YU hx (hv.gr hg) (λr h=>by have:=hb r h;omega) c;have CS:=Mq hx;have hsm:=PW hx;obtain⟨vw0,vr0,rfl,hw,hr⟩:=hv;obtain⟨bw,cw,rfl,-⟩:=hw;obtain⟨br,cr,rfl,-⟩:=hr;clear hb;have hsz:E9.toArray.size=266:=kN jp I;have B2:E9.toArray.toList.all fG=true:=vZ I Rt I;refine enter (args:=[aU #[ap bw s.words.length cw,ap br s.rules.length cr],str tx]) (n:=70) Tryz.func6 I I I ?_;refine bC (aM (b_ I I I λg2=>?_));refine zL ?_
 repeat(first|refine GA ?_|refine gV (aQ (i:=0) aL.ty I I I) ?_)
 by_cases c0:(E_ s r.1).1≠0
 ·have MK:=afJ c0
  refine a8 (ju aJ.en I I) (λw hm=>MK _ hm.below) I I I ?_;intro _ _;unfold afG;refine zL ?_
  try refine GA ?_
  refine bz I λg9'=>?_;rw[wy];refine zL ?_;refine aZ (i:=1) (cs':=E9.toArray) I I I hsz B2 hsz ?_;refine zL ?_
  repeat(first|refine GC ?_|refine gV (bm (b:=aD) I I (decide_eq_true c0)) ?_|refine GB ?_)
  exact fa
 have c1:(E_ s r.1).1=0:=s7 c0;have MK:=afK c1;obtain⟨b,T,N,hk⟩:=CS c1;have hsm:=hsm c1;clear afK afJ CS c0 c1 hx;generalize zo s r=m at*;refine a8 (ju aJ.en I I) (λw hm=>MK _ hm.below) I I I ?_;intro y hy
 conv=>arg 8;simp only[zJ,dg,ret,id_eq,YT]
 conv=>arg 7;simp only[YT]
 try refine GA ?_
 refine bz I λg5=>?_;rw[wy];refine zL ?_;refine aZ (i:=2) (cs':=(y.cells m).toArray) I I I (Mp y m) hy.one hsz ?_;refine zL ?_
 by_cases c2:1000<tx.length
 ·try refine GA ?_
  exact fa
 have afL:=λw' h=>T1 (aU (y.cells m).toArray) m b T N (vo:=y.vo) (vn:=y.vn) (vt:=y.vt) (vp:=y.vp) (vr:=y.vr) (va:=y.va) (vg:=y.vg) 4096 1000 ahk ahk ahk ahk w' h hk hsm
 repeat(first|refine GA ?_|refine gV (aQ (i:=2) aL.ty I I (Mp y m)) ?_)
 refine a8 (tH aJ.en I I I I) (λw' hm=>afL w' (hy.mdr w' (hm.get (i:=1) I))) I I I ?_;clear afL;rintro⟨gs,z,up,uq⟩ hz;have hz:adR m z:=hz
 conv=>arg 8;simp only[zJ,dg,ret,id_eq,abA]
 conv=>arg 7;simp only[abA]
 refine P5 [3,4,5,6,7] ?_;refine zL ?_;have eA:(fw m.o z.vn z.vt).length=258:=gT _ _ _;have adZ:=Rz hk (x:=4096) (y:=1000) ahk ahk ahk ahk;have ad0:=MB adZ 1073741824;rw[JM]at ad0;have LQ:=λB w' hm=>E3 (g:=gs) (vo:=z.vo) (md:=gU m.g.aT m.g.bM z.vp m.mode z.vr z.va z.vg) (ut:=ap ak 0 0) (up:=up) (uq:=uq) (uw:=ap ak 0 0) eA I (zj 4096 1000) adZ 1073741824 w' B hm;rw[JM]at LQ;have hda:=λuw B w' hm=>FP (g:=gs) (vo:=z.vo) (md:=gU m.g.aT m.g.bM z.vp m.mode z.vr z.va z.vg) (ut:=ap ak 0 0) (up:=up) (uq:=uq) (uw:=uw) eA I {zj 4096 1000 with cr:=1073741824} ad0 tx J w' B hm;rw[Y6 J]at hda;have Dl:=λuw B w' hm=>JL (b:=b) (g:=gs) (vo:=z.vo) (md:=gU m.g.aT m.g.bM z.vp m.mode z.vr z.va z.vg) (ut:=ap ak 0 0) (up:=up) (uq:=uq) (uw:=uw) eA I {FR tx with ended:=aE} w' B hm;rw[RH]at Dl;obtain⟨Ug,hph⟩:=Y7 hk (tx:=tx) J;have E8:=λs' h h'=>T4 hk (b:=b) (s:=s') h h';have Xd:=λs' h1 ut up uw w' B hR hm=>JG (aU (z.cells m).toArray) m (vo:=z.vo) (vn:=z.vn) (vt:=z.vt) (vp:=z.vp) (vr:=z.vr) (va:=z.va) (vg:=z.vg) (ut:=ut) (up:=up) (uq:=uq) (uw:=uw) b T N hk gs s' h1 1 ahk w' B hR hm;have hse:=λs' h1 ut up uw w' B hm=>FQ (m:=m) (b:=b) (g:=gs) (vo:=z.vo) (md:=gU m.g.aT m.g.bM z.vp m.mode z.vr z.va z.vg) (ut:=ut) (up:=up) (uq:=uq) (uw:=uw) eA I s' h1 1048576 w' B hm;have hve:=λs' h1 ut up uw B w' hm=>A1 (m:=m) (b:=b) (g:=gs) (vo:=z.vo) (md:=gU m.g.aT m.g.bM z.vp m.mode z.vr z.va z.vg) (ut:=ut) (up:=up) (uq:=uq) (uw:=uw) eA I s' h1 B w' hm;have agH:=hz.mdr;clear adZ ad0 hz hsm;generalize fw m.o z.vn z.vt=PK at*;generalize gU m.g.aT m.g.bM z.vp m.mode z.vr z.va z.vg=MT at*
 try refine GA ?_
 refine qg I I I ?_;refine bK [0,1,2,3] [4] ahk I I (gK aJ.en I I I) (λw hm hb=>LQ _ w hb) I I I ?_;intro u1 _
 conv=>arg 8;simp only[zJ,dg,ret,id_eq,E0]
 conv=>arg 7;simp only[E0]
 try refine GA ?_
 refine qg I I I ?_;refine bK [1,2,3,4] [0] ahk I I (gK aJ.en I I I) (λw hm hb=>hda _ _ w hb) I I I ?_;intro u2 _
 conv=>arg 8;simp only[zJ,dg,ret,id_eq,E0]
 conv=>arg 7;simp only[E0]
 try refine GA ?_
 refine qg I I I ?_;refine bK [1,2,3,4] [0] ahk I I (ju aJ.en I I) (λw hm hb=>Dl _ _ w hb) I I I ?_;intro u3 _
 conv=>arg 8;simp only[zJ,dg,ret,id_eq,E0]
 conv=>arg 7;simp only[E0]
 try refine GA ?_
 clear LQ hda Dl;refine eK (ι:=Nat×gX×Value×Value×Value) (λ(u,s',_)=>Zk m b s'/\s'.over=aE/\u+B5 s'<=2*tx.length+2) (λ(u,_)=>[(1,str tx),(7,aK (aj ⟨gs,0,ak⟩)),(8,av az (u:Int))])
  (λ(_,s',ut,up,uw)=>[B3 z.Ls]++iy b gs z.vo PK MT s' ut up uq uw) (λ(_,s',_)=>B5 s') (0,FR tx,ap ak 0 0,up,u3) ⟨Ug,rfl,by omega⟩ ?_
 rintro⟨u,s',ut,up,uw⟩ ⟨i1,i2,i3⟩;dsimp only at i1 i2 i3⊢;obtain⟨k1,k2,k3,k4⟩:=E8 s' i1 i2;have hse:=hse _ k2;have hve:=hve _ k3.ok;have Xd:=λut up uw w' B hR hm=>Xd s' i1.ok ut up uw w' B hR hm;rw[show(1:Int).toNat=1 from I]at Xd;generalize mX m b 1 s'=WW at*;obtain⟨s1,n1⟩:=WW;dsimp only at*;subst k1;generalize jO s1 1048576=SS at*;obtain⟨s2,o2⟩:=SS;dsimp only at*;clear E8 Ug hph
 try refine GA ?_
 refine bK [1,2,3,4] [0] ahk I I (gK aJ.en I I I) (λw hm hb=>Xd ut up uw w _ (Y4 hm [1,2,3,4] 0 ahk I I agH) hb) I I I ?_;rintro⟨ut1,up1,uw1⟩ _
 conv=>arg 8;simp only[zJ,dg,ret,id_eq,wkS]
 conv=>arg 7;simp only[wkS]
 try refine GA ?_
 refine bK [1,2,3,4] [0] ahk I I (gK aJ.en I I I) (λw hm hb=>hse ut1 up1 uw1 w _ hb) I I I ?_;rintro⟨vw,vo⟩ _
 conv=>arg 8;simp only[zJ,dg,ret,id_eq,abC]
 conv=>arg 7;simp only[abC]
 try refine GA ?_
 refine a8 (ju aJ.en I I) (λw hm=>hve ut1 up1 vw _ w (hm.pick [1,2,3,4] ahk I)) I I I ?_;intro _ _;refine zL ?_
 cases ho:s2.over with
 |true=>
  have hvd:zk s2=(s2.gd,s2.pl,aD):=if_pos ⟨ho,k3.wait⟩;rw[hvd]
  try refine GA ?_
  exact fa
 |false=>
  have hvd:zk s2=(0,0,aE):=if_neg λh=>by rw[ho]at h;exact absurd h.1 ahk
  rw[hvd]
  try refine GA ?_
  refine dS [0,1,2,3,4] ?_;exact cJ (u+1,s2,ut1,up1,vw) ⟨k3,ho,by show u+1+B5 s2<=2*tx.length+2;omega⟩ (by show B5 s2<B5 s';omega)
end sessionSteps
end Go.Proofs.YtdmgcnggnejnnaaGreat

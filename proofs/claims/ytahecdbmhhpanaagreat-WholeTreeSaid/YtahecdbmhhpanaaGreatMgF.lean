/- Part 6 of what WholeTree needs: WhL, Mk2, WhO, BuP, WhP, WhQ, BuC, Half, WhC, WhM, Fill, WhR, WhK, EachF, EvT, DownUp, ReadD, CountY, CountO, WhT, EvP, EvQ, WholeTreeW. -/
import Derived.Test.YtahecdbmhhpanaaGreatMgE
namespace Go.Proofs.YtahecdbmhhpanaaGreat
set_option linter.unusedVariables false
set_option linter.unusedSimpArgs false
open _root_.Bool renaming true->aB,false->aE,and_eq_true->eE
open _root_.Decidable renaming of_not_not->rC
open _root_.Go.Deferred renaming ofValue->py
open _root_.Go.Instr renaming build->da,fill->lO,makeInterface->adx
open _root_.Go.IntKind renaming i64->av
open _root_.Go.Made renaming depth->ady
open _root_.Go.Proofs.Tryz renaming prog->aC
open _root_.Go.Value renaming slice->ak,int->ap,pointer->aH,agg->aP,oneCell'->fV,cells->oX
open _root_.Go.Value.slice renaming injEq->kq
open _root_.Int renaming le_refl->jg
open _root_.List renaming getElem?_eq_getElem->bL,getD_eq_getElem?_getD->cH,length_append->bT,getElem_mem->bX,getElem?_eq_some_iff->dK,drop_eq_getElem_cons->dL,all_cons->cY,length_cons->dj,replicate->c_,all_nil->db,mem_cons->dw,mem_singleton->ez,take_succ_eq_append_getElem->ic,append_assoc->eu,length_map->dY,map_append->eK,drop_of_length_le->ia,take_of_length_le->gD,append_nil->fj,nil_append->fD,length_drop->je,mem_of_getElem?->kr,length_take->jr,getElem?_toArray->oY,length_nil->nG,foldl_cons->rh,length->ky,drop_zero->B3,filter_nil->adz
open _root_.List.cons renaming injEq->fL
open _root_.Nat renaming le_refl->aX,zero_le->bC,zero_add->cU,le_trans->eL,le_of_ble_eq_true->nB
open _root_.Option renaming some->ah,none->aj,getD_some->jz
open _root_.Option.some renaming injEq->dM
set_option maxHeartbeats 16000000
namespace nj
open aL dI gI pt bK cX cB
abbrev PS:=List TD×List Nat
def Ho:PS:=([.sym (2,0)],[0])
def iL(m:Md)(b:Bool)(p:PS)(a:Nat)(t:Int):Int×PS×List bJ:=
 if b then((iz m.g.az (kF m.rows t.toNat) p.1 a t).1,((iz m.g.az (kF m.rows t.toNat) p.1 a t).2.1,p.2),(iz m.g.az (kF m.rows t.toNat) p.1 a t).2.2)
 else((eB m.g.az (ke m.A) (fQ m.G) t.toNat a 2001 p.2 []).1,(p.1,(eB m.g.az (ke m.A) (fQ m.G) t.toNat a 2001 p.2 []).2.1),(eB m.g.az (ke m.A) (fQ m.G) t.toNat a 2001 p.2 []).2.2)
def qC(m:Md)(b:Bool)(p:PS)(a:Nat):Int×List bJ:=
 if b then s7 m.g.az (kF m.rows m.g.aQ.toNat) p.1
 else((eB m.g.az (ke m.A) (fQ m.G) m.g.aQ.toNat a 2001 p.2 []).1,(eB m.g.az (ke m.A) (fQ m.G) m.g.aQ.toNat a 2001 p.2 []).2.2)
def okP(m:Md)(b:Bool)(p:PS):Prop:=if b then(∀d∈p.1,pX m.g d)/\p.1.length<=60 else p.2≠[]/\(∀q∈p.2,q<m.A.length)/\p.2.length<=60
structure MdFit(m:Md)(b:Bool)(T N:Nat):Prop extends MdGood m where
 md:m.mode=if b then 1 else 2
 tT:m.g.aQ=T
 nN:m.g.bB=N
 ll:b=aB->LF m.g m.rows=0/\OX m.g m.rows T N
 lr:b=aE->wz m.g T N m.A m.G
def og(m:Md)(t:Tok):Int:=m.of.getD t.1.toNat 0
def Tq(m:Md)(b:Bool):List Tok->PS->Nat->List bJ->Option (Int×Nat)×List bJ×PS×Nat
 |[],p,a,out=>(aj,out,p,a)
 | t::r,p,a,out=>
  if og m t<0 then Tq m b r p a out
  else if(iL m b p a (og m t)).1≠0 then(ah ((iL m b p a (og m t)).1,t.2.1),out,p,a)
  else Tq m b r (iL m b p a (og m t)).2.1 (a+1) (out++(iL m b p a (og m t)).2.2)
theorem Hb(m:Md)(b:Bool)(t:Tok)(r:List Tok)(p:PS)(a:Nat)(out:List bJ):Tq m b (t::r) p a out=
 if og m t<0 then Tq m b r p a out
 else if(iL m b p a (og m t)).1≠0 then(ah ((iL m b p a (og m t)).1,t.2.1),out,p,a)
 else Tq m b r (iL m b p a (og m t)).2.1 (a+1) (out++(iL m b p a (og m t)).2.2):=rfl
def lp(m:Md)(b:Bool)(L:List Tok×Nat×Int)(n:Nat):List bJ×Int×Nat:=
 match Tq m b L.1 Ho 0 []with
 |(ah x,out,_,_)=>(out,x)
 |(aj,out,p,a)=>if L.2.2≠0 then(out,L.2.2,L.2.1)else(out++(qC m b p a).2,(qC m b p a).1,n)
def lq(m:Md)(b:Bool)(s:List UInt8):List bJ×Int×Nat:=lp m b (wD m.o m.N m.tags s) s.length
theorem zg{o:Of}{N:List (List Int)}{tags:List Int}{n:Int}(hn:0<n)(ht:∀t∈tags,t<n):∀(s:List UInt8) (i:Nat) (now r:Int) (t:Nat),0<=r->r<n->0<=(qt o N tags s i now r t).1/\(qt o N tags s i now r t).1<n
 |[],_,_,_,_,h0,h1=>⟨h0,h1⟩
 | b ::s,i,now,r,t,h0,h1=>by
  rw[tE]
  by_cases c:Dc o N now b<0
  simp_all;rw[if_neg c]
  by_cases c2:0<=tags.getD (Dc o N now b).toNat 0
  ·rw[if_pos c2]
   refine zg hn ht s _ _ _ _ c2 ?_;rw[cH]
   cases e:tags[(Dc o N now b).toNat]? with
   |none=>grind
   |some z=>exact ht z (kr e)
  rw[if_neg c2];exact zg hn ht s _ _ _ _ h0 h1
theorem tH{o:Of}{N:List (List Int)}{tags:List Int}{n:Int}(hn:0<n)(ht:∀t∈tags,t<n)(s:List UInt8):∀(f a:Nat),∀t∈(l_ o N tags s f a).1,0<=t.1/\t.1<n
 |0,_,_,h=>by cases h
 | f +1,a,t,h=>by
  rw[qu]at h;split at h
  ·split at h
   cases h
   rcases dw.1 h with rfl|h
   exact zg hn ht _ _ _ _ _ (jg 0) hn;exact tH hn ht s f _ t h
  cases h
theorem Hc:∀{l:List Tok} {e:Nat},Tp l e->l.length+e<=B_ l e
 |[],_,_=>by simp[B_]
 |t::l,e,⟨h1,h2,h3⟩=>by
  have:=Hc h3;simp only[dj,B_];omega
theorem Ph{o:Of}{N:List (List Int)}{tags:List Int}(s:List UInt8):(wD o N tags s).1.length<=s.length/\(wD o N tags s).2.1<=s.length:=by
 obtain⟨h1,h2⟩:=AL (o:=o) (N:=N) (tags:=tags) (s:=s) (s.length+1) 0 (bC _) J;have h3:=Hc h1;unfold wD;rcases h2 with⟨h4,h5⟩|⟨h4,h5,h6⟩
 rw[h4];exact⟨by omega,bC _⟩;exact⟨by omega,by omega⟩
theorem aj_{m:Md}{b:Bool}{T N:Nat}(h:MdFit m b T N):okP m b Ho:=by
 have hg:=cz h.Hm
 cases b with
 |true=>
  refine⟨λd hd=>?_,by decide⟩;simp only[Ho,ez]at hd;subst hd;unfold pX right;simp;omega
 |false=>
  refine⟨by decide,λq hq=>?_,by decide⟩;simp only[Ho,ez]at hq;subst hq;exact(h.lr I).pos
theorem X_{m:Md}{b:Bool}{T N:Nat}(h:MdFit m b T N){p:PS}(hp:okP m b p){a:Nat}{t:Int}(ht:t<T)(h0:(iL m b p a t).1=0):okP m b (iL m b p a t).2.1/\(iL m b p a t).2.2.length<=2001:=by
 cases b with
 |true=>
  obtain⟨h1,h2⟩:=hp;obtain⟨h3,h4,h5⟩:=Ut h.Hm ((h.ll rfl).2.nx t.toNat) rfl h0 h1 h2;exact⟨⟨h3,h4⟩,by show _<=2001;exact Nat.le_succ_of_le h5⟩
 |false=>
  obtain⟨h1,h2,h3⟩:=hp;obtain⟨h4,h5,h6,h7⟩:=DU (h.lr rfl) (col:=t.toNat) (a:=a) J 2001 h1 h2 h3 h0;simp only[nG,cU]at h7;exact⟨⟨h4,h5,h6⟩,h7⟩
theorem Pj{l:List aL.Prod}{act:Nat->Nat->bK.Act}{gt:Nat->Int->Int}{col a:Nat}:∀(f:Nat) (σ:List Nat) (o:List bJ),(eB l act gt col a f σ o).1≠0->(eB l act gt col a f σ o).2.2=[]
 |0,σ,o,_=>by rfl
 | f + 1,σ,o,h=>by
  unfold eB at h⊢;split at h
  simp_all
  rename_i c;rw[if_neg c]
  split at h;exact absurd I h
  rename_i c2;rw[if_neg c2]
  split at h
  grind
  rename_i c3;rw[if_neg c3]
  split at h
  ·rename_i c4;rw[if_pos c4]
   cases hr:zc l gt σ (act (σ.headD 0) col).2 with
   |none=>rfl
   | some σ'=>
    rw[hr]at h;dsimp only at h⊢;split at h
    simp_all
    rename_i c5;rw[if_neg c5];exact Pj f _ _ h
  simp_all
theorem adA{m:Md}{b:Bool}{T N:Nat}(h:MdFit m b T N){p:PS}(hp:okP m b p){a:Nat}:((qC m b p a).1=0->(qC m b p a).2.length<=2001)/\((qC m b p a).1≠0->(qC m b p a).2=[]):=by
 cases b with
 |true=>
  rcases BB (l:=m.g.az) (nx:=kF m.rows m.g.aQ.toNat) (st:=p.1) rfl with⟨h1,h2⟩|⟨a1,h1,h2⟩
  simp_all[qC];obtain⟨_,h3,h4,_⟩:=Ae h1 rfl hp.2 (bC _);refine⟨λ_=>?_,λh0=>absurd h2 h0⟩;show(s7 m.g.az (kF m.rows m.g.aQ.toNat) p.1).2.length<=2001
  grind
 |false=>
  obtain⟨h1,h2,h3⟩:=hp;refine⟨λh0=>?_,λh0=>Pj _ _ _ h0⟩;obtain⟨h4,h5,h6,h7⟩:=DU (h.lr rfl) (col:=m.g.aQ.toNat) (a:=a) (by have:=h.tT;omega) 2001 h1 h2 h3 h0;simp only[nG,cU]at h7;exact h7
end nj
namespace cB
open Go.RowKit cL dV dg gv iK aL cX nj
structure MkX where
 vo:Value
 vn:Value
 vt:Value
 vp:Value
 vr:Value
 va:Value
 vg:Value
 Ls:List b_
def MkX.cells(x:MkX)(m:Md):List Value:=km x.vo (jk m.o x.vn x.vt) (jC m.g.aQ m.g.bB x.vp m.mode x.vr x.va x.vg)
structure alf(m:Md)(x:MkX):Prop where
 mdr:∀w,(ads x.Ls).holds w->JC w (aP (x.cells m).toArray) m x.vo x.vn x.vt x.vp x.vr x.va x.vg
 one:(x.cells m).toArray.toList.all fV=aB
def Tr(m:Md):Spec MkX:=⟨alf m,λx=> .tuple #[aP (x.cells m).toArray,ap av 0],λx=>[ads x.Ls]⟩
def aj'(e:Int):Spec Unit:=⟨λ_=>True,λ_=> .tuple #[aP HV.toArray,ap av e],λ_=>[]⟩
def xz(s:Sp)(r:Int×List Row×List Int):Md:=if(Da s r.1).2=1 then zf s r.2.1 r.2.2 else aid s r.2.1 r.2.2
theorem sr(x:MkX)(m:Md):(x.cells m).toArray.size=266:=kJ (iE _ _ _) I
theorem cJ.to{ι κ:Type}{S:Spec ι}(S':Spec κ){w:World}{e:Ending}{w':World}(hm:cJ S w e w')(h:∀x,S.ok x->∃y,S'.ok y/\S.val x=S'.val y/\∀w',rI w.heap.size w' (S.own x)->rI w.heap.size w' (S'.own y)):cJ S' w e w':=by
 obtain⟨x,h1,h2,h3,h4⟩:=hm;obtain⟨y,k1,k2,k3⟩:=h x h1;exact⟨y,k1,by rw[h2,k2],h3,k3 w' h4⟩
theorem X'{v:Value}{s:Sp}{r:Int×List Row×List Int}(hx:Vg s r){w:World}(hv:XA (rP w) w v s)(hb:∀r∈s.rules,r.2.length<=8796093021952)(h:(Da s r.1).1≠0):
  Calls aC 6 #[v] w (cJ (aj' (Da s r.1).1) w):=
 (AF v s r hx w hv hb).mono λe w' hm=>by
  have hS:qq s r=ww (Da s r.1).1:=by unfold qq;rw[if_pos h]
  rw[hS]at hm;exact hm.to _ λx _=>⟨(),trivial,rfl,λw' h=>h⟩
theorem Pk{v:Value}{s:Sp}{r:Int×List Row×List Int}(hx:Vg s r){w:World}(hv:XA (rP w) w v s)(hb:∀r∈s.rules,r.2.length<=8796093021952)(h:(Da s r.1).1=0):
  Calls aC 6 #[v] w (cJ (Tr (xz s r)) w):=
 (AF v s r hx w hv hb).mono λe w' hm=>by
  obtain⟨h1,-,-,h4⟩:=GP (s:=s) (e:=r.1) (m:=(Da s r.1).2) (by rw[<-h]);obtain⟨hG,OU⟩:=wx hx h1;obtain⟨al3,-⟩:=LS hx h1;have hS:qq s r=if(Da s r.1).2=1 then afn s r.2.1 r.2.2 else afp s r.2.1 r.2.2:=by unfold qq;rw[if_neg (by rw[h];simp)]
  unfold xz;rcases h4 with⟨_,De⟩|⟨_,_,_,De⟩
  ·rw[De,if_pos I]at hS⊢
   rw[hS]at hm;refine hm.to (Tr _) λx mP=>⟨⟨x.vo,ak (ah ⟨x.gP,0,aj⟩) r.2.1.length r.2.1.length,x.vT,x.vp,ak (ah ⟨x.gR,0,aj⟩) (cT s).bB.toNat (cT s).bB.toNat,ak aj 0 0,ak aj 0 0,x.lex s r.2.1 r.2.2++x.rows (cT s)⟩,⟨λw' hb=>aie (x:=x) (i0:=0) (i1:=1) (i2:=2) (i3:=3) (i4:=4) (i5:=5) (i6:=6) (Vy hb) J OU hG I I I I I I I,?_⟩,rfl,λw' h=>h.bun⟩;obtain⟨k1,k2,k3⟩:=mP;exact BX k1 (ac1 (x:=x) k3 r.2.1) (by simp only[jC,cY,db,k2];rfl)
  rw[De,if_neg alt]at hS⊢;rw[hS]at hm;refine hm.to (Tr _) λx mP=>⟨⟨x.vo,ak (ah ⟨x.gP,0,aj⟩) r.2.1.length r.2.1.length,x.vT,x.vp,ak aj 0 0,x.tx.vA,x.tx.vG,x.lex s r.2.1 r.2.2++XM x.tx (iI (cT s)).1 (iI (cT s)).2.1⟩,⟨λw' hb=>aif (x:=x) (i0:=0) (i1:=1) (i2:=2) (i3:=3) (i4:=4) (i5:=5) (i6:=6) (i7:=7) (i8:=8) (Vy hb) J OU hG I I I I I I I I I,?_⟩,rfl,λw' h=>h.bun⟩;obtain⟨⟨k1,k2,k3⟩,b1,b2⟩:=mP;exact BX k1 (ac1 (x:=x) k3 r.2.1) (by simp only[jC,cY,db,k2,b1,b2];rfl)
theorem Pl{s:Sp}{r:Int×List Row×List Int}(hx:Vg s r)(h:(Da s r.1).1=0):∃b T N,MdFit (xz s r) b T N:=by
 obtain⟨h1,-,-,h4⟩:=GP (s:=s) (e:=r.1) (m:=(Da s r.1).2) (by rw[<-h]);obtain⟨hG,OU⟩:=wx hx h1;obtain⟨b1,b2,b3,b4,b5,b6⟩:=cz hG;unfold xz;rcases h4 with⟨_,De⟩|⟨_,h5,_,De⟩
 ·rw[De,if_pos I]
  exact⟨aB,(cT s).aQ.toNat,(cT s).bB.toNat,afL hx h1,rfl,by show(cT s).aQ=_;omega,by show(cT s).bB=_;omega,λ_=>⟨O7 (g:=cT s) hG J J,ah7 (g:=cT s) J J⟩,(λh=>by cases h)⟩
 rw[De,if_neg alt];obtain⟨T,N,Nx,S,hM⟩:=xg h5;have hL:wz (cT s) T N (iI (cT s)).1 (iI (cT s)).2.1:=by rw[hM.dB,hM.gos];exact hM.mb
 exact⟨aE,T,N,afM hx h1 h5,rfl,hL.aQ,hL.bB,(λh=>by cases h),λ_=>hL⟩
end cB
namespace xh
open Go.RowKit cL dV cB dg gv iK aL cX ep nP AK pt nj
theorem aij(R:List Row)(T:List Int):lp (zf lS R T) aB ([(0,0,1)],0,0) 1=([(1,0),(2,0),(1,1),(3,1),(3,0)],0,1):=by kernel_rfl
theorem aik(R:List Row)(T:List Int):lp (zf lS R T) aB ([(1,0,1)],0,0) 1=([],13,1):=by rfl
theorem ail(R:List Row)(T:List Int):lp (zf lS R T) aB ([(0,0,1),(1,1,2),(0,2,3)],0,0) 3=([(1,0),(2,0),(1,2),(2,1),(1,1),(3,1),(3,2),(3,0)],0,3):=by kernel_rfl
theorem aim(R:List Row)(T:List Int):lp (zf lS R T) aB ([(0,0,1),(0,1,2)],0,0) 2=([(1,0),(2,0),(1,2),(2,1),(1,1),(3,1),(3,2),(3,0)],0,2):=by kernel_rfl
structure alg(r:Int×List Row×List Int)(T N:Nat):Prop where
 lx:Vg lS r
 ok:(Da lS r.1).1=0
 fit:MdFit (xz lS r) aB T N
 w1:lq (xz lS r) aB [97]=([(1,0),(2,0),(1,1),(3,1),(3,0)],0,1)
 w2:lq (xz lS r) aB [32]=([],13,1)
 w3:lq (xz lS r) aB [97,32,97]=([(1,0),(2,0),(1,2),(2,1),(1,1),(3,1),(3,2),(3,0)],0,3)
 w4:lq (xz lS r) aB [97,97]=([(1,0),(2,0),(1,2),(2,1),(1,1),(3,1),(3,2),(3,0)],0,2)
theorem adB:∃r T N,alg r T N:=by
 obtain⟨R,T,hx,hc,ht⟩:=adr;have e0:(Da lS 0).1=0:=by rfl
 obtain⟨b,T1,N1,hf⟩:=Pl hx e0;have hm:xz lS (0,R,T)=zf lS R T:=by rfl
 obtain rfl:b=true:=by
  have:=hf.md;rw[hm]at this
  cases b with
  |true=>rfl
  |false=>exact absurd this (by show(1:Int)≠2;decide)
 obtain⟨l1,l2,l3,l4⟩:=afQ hc ht;have hl:∀s:List UInt8,wD (zf lS R T).o (zf lS R T).N (zf lS R T).tags s=xw R T s (s.length+1) 0:=λs=>by
  show wD (wq R 256) (SB R) T s=_
  rw[XZ (LO hc),ajT R (oW hc).1.le]
 refine⟨_,T1,N1,hx,e0,hf,?_,?_,?_,?_⟩;rw[hm,lq,hl];exact(congrArg (λx=>lp (zf lS R T) aB x 1) l1).trans (aij R T);rw[hm,lq,hl];exact(congrArg (λx=>lp (zf lS R T) aB x 1) l2).trans (aik R T);rw[hm,lq,hl];exact(congrArg (λx=>lp (zf lS R T) aB x 3) l3).trans (ail R T);rw[hm,lq,hl];exact(congrArg (λx=>lp (zf lS R T) aB x 2) l4).trans (aim R T)
end xh
namespace cB
open aL dI eh dA bK cX rj
open gI (xe tD wC)
open wX (dU)
section
variable{g:dD}{T N:Nat}{Nx:List (List Int)}{S:List (List bK.Item)}
abbrev bR(g:dD)(T:Nat)(Nx:List (List Int))(S:List (List bK.Item))(W:List Int):List bJ×Nat×Int:=G8 g.az (ke (f_ g.az T Nx S S.length)) (fQ (ff T Nx S.length)) T W [0] 0 []
theorem iC.top(h:iC g T N Nx S):∀q,q<S.length->∀it∈S.getD q [],it.1=(g.az.length:Int)->it.2.2=(T:Int):=U5 h.wide h.Dv h.t30 h.all
theorem iC.pos(h:iC g T N Nx S):0<S.length:=(dK.1 h.law.start).1
theorem adC(h:iC g T N Nx S){W:List Int}(hW:∀x∈W,0<=x/\x<(T:Int))(h0:(bR g T Nx S W).2.2=0):∃t,dm g.az t (2,0) 0/\upE g.az t=(bR g T Nx S W).1/\eU g.az t=W:=by
 obtain⟨t,h1,h2,h3⟩:=JK h.ajX h.law h.wide h.Dv h.t30 h.heads h.top W (out:=[]) hW .start rfl h0;refine⟨t,h1,?_,h3⟩;rw[<-h2];unfold K2;rw[if_neg (by have:=wC h1;omega)]
theorem ain(h:iC g T N Nx S)(hc:xW g=aB){W:List Int}(hW:∀x∈W,0<=x/\x<(T:Int)){t:Tree}(ht:dm g.az t (2,0) 0)(hy:eU g.az t=W):(bR g T Nx S W).2.2=14\/((bR g T Nx S W).2.2=0/\(bR g T Nx S W).1=upE g.az t/\(bR g T Nx S W).2.1=W.length):=by
 obtain⟨s,ρ,h1,h2⟩:=B9 (h.lrH hc hW) ht hy;have:=(DP h.ajX h.law h.heads hW h1 (by intro q hq;rw[ez.1 hq];exact h.pos) I (λq ρ e=>by simp_all) (by simp) 2001 [] 0 W [] (bC _) (bC _) (bC _) I).1 I;rw[<-Pa]at this;rcases this with h14|e
 simp_all;refine .inr ?_;unfold bR;rw[e];refine⟨rfl,?_,rfl⟩;show[]++([]++K2 g.az t)=_
 rw[fD,fD];unfold K2;rw[if_neg (by have:=wC ht;omega)]
end
section
open gI (xX ago Tc O6 JG GV)
variable{g:dD}{T N:Nat}
abbrev cR(g:dD)(T N:Nat)(W:List Int):List bJ×Nat×Int:=gI.na g.az (xX g T N) T W [.sym (2,0)] 0 []
end
end cB
namespace nj
open aL dI gI pt bK cX iK eh rj dA wX cB
structure LV(m:Md)(b:Bool)(T N:Nat):Prop extends MdFit m b T N where
 hM:∀i:Nat,i<N->∃ws,By m.g.az (2,(i:Int)) ws
 kLL:b=aB->m.rows=GY m.g T N/\JB m.g.az (nX N m.g.az) T N=aB
 kLR:b=aE->∃Nx S,iC m.g T N Nx S/\m.A=f_ m.g.az T Nx S S.length/\m.G=ff T Nx S.length/\xW m.g=aB
theorem wW{g:dD}{N:Nat}(hg:cI g=0)(hN:g.bB=N)(h:(y_ g).any (· ==aE)=aE):∀i:Nat,i<N->∃ws,By g.az (2,(i:Int)) ws:=by
 obtain⟨⟨_,_,m1⟩,hS2⟩:=OT hg hN;have hM:(nf N g.az).M.any (· ==aE)=false:=by
  have e:g.bB.toNat=N:=by omega
  rw[<-e];exact h
 intro i hi;refine hS2.2 i ?_;have Qv:i<(nf N g.az).M.length:=by omega
 rw[cH,bL Qv];rw[List.any_eq_false]at hM;have:=hM _ (bX Qv);show(nf N g.az).M[i]=aB
 cases hb:(nf N g.az).M[i]with
 |true=>rfl
 |false=>rw[hb]at this;exact absurd I this
theorem Ya{s:Sp}{r:Int×List cX.Row×List Int}(hx:Vg s r)(h:(Da s r.1).1=0):∃b T N,LV (xz s r) b T N:=by
 obtain⟨b,T,N,hf⟩:=Pl hx h;refine⟨b,T,N,hf,?_,?_,?_⟩
 all_goals
  obtain⟨h1,-,h3,h4⟩:=GP (s:=s) (e:=r.1) (m:=(Da s r.1).2) (by grind);obtain⟨hG,OU⟩:=wx hx h1;obtain⟨tT,nN,md⟩:=(⟨hf.tT,hf.nN,hf.md⟩:_/\_/\_);unfold xz at tT nN md⊢
 ·rcases h4 with⟨_,De⟩|⟨_,_,_,De⟩
  ·rw[De,if_pos I]at nN⊢
   exact wW hG nN h3
  rw[De,if_neg alt]at nN⊢;exact wW hG nN h3
 ·intro hb
  subst hb;rcases h4 with⟨h5,De⟩|⟨_,_,_,De⟩
  ·rw[De,if_pos I]at tT nN⊢
   have e1:(cT s).aQ.toNat=T:=by have:(cT s).aQ=T:=tT;omega
   have e2:(cT s).bB.toNat=N:=by have:(cT s).bB=N:=nN;omega
   refine⟨by rw[<-e1,<-e2];rfl,?_⟩;rw[<-e1,<-e2];unfold JB;exact decide_eq_true h5
  rw[De,if_neg alt]at md;exact absurd md (by show(2:Int)≠1;decide)
 intro hb;subst hb;rcases h4 with⟨h5,De⟩|⟨_,h5,h6,De⟩
 ·rw[De,if_pos I]at md
  exact absurd md (by show(1:Int)≠2;decide)
 rw[De,if_neg alt]at tT nN⊢;obtain⟨T',N',Nx,S,hM⟩:=xg h5;obtain rfl:T'=T:=by have:=hM.aQ;have:(cT s).aQ=T:=tT;omega
 obtain rfl:N'=N:=by have:=hM.bB;have:(cT s).bB=N:=nN;omega
 exact⟨Nx,S,hM,hM.dB,hM.gos,by show xW (cT s)=aB;unfold xW;rw[h5,h6];rfl⟩
def oI(m:Md)(l:List Tok):List Tok:=l.filter λt=>decide (0<=og m t)
def iD(m:Md)(l:List Tok):List Int:=(oI m l).map (og m)
def xA(m:Md)(b:Bool)(T:Nat)(W:List Int)(p:PS)(a:Nat)(out:List bJ):List bJ×Nat×Int:=
 if b then na m.g.az (λn col=>kF m.rows col n) T W p.1 a out else G8 m.g.az (ke m.A) (fQ m.G) T W p.2 a out
theorem adD{m:Md}{b:Bool}{T:Nat}(hT:m.g.aQ=T)(p:PS)(a:Nat)(out:List bJ):xA m b T [] p a out=(out++(qC m b p a).2,a,(qC m b p a).1):=by
 have e:m.g.aQ.toNat=T:=by omega
 unfold xA qC;rw[e]
 cases b with
 |true=>simp only[if_true];rw[na]
 |false=>rfl
theorem Yb{m:Md}{b:Bool}{T:Nat}(t:Int)(W:List Int)(p:PS)(a:Nat)(out:List bJ):xA m b T (t::W) p a out=if(iL m b p a t).1≠0 then(out,a,(iL m b p a t).1)else xA m b T W (iL m b p a t).2.1 (a+1) (out++(iL m b p a t).2.2):=by
 cases b<;>rfl
theorem Ts{m:Md}{b:Bool}{T:Nat}(hT:m.g.aQ=T):∀(l:List Tok) (p:PS) (a:Nat) (out:List bJ),(match Tq m b l p a out with
 |(aj,ab6,p',a')=>xA m b T (iD m l) p a out=(ab6++(qC m b p' a').2,a',(qC m b p' a').1)/\a'=a+(iD m l).length
 |(ah x,ab6,_,a')=>xA m b T (iD m l) p a out=(ab6,a',x.1)/\x.1≠0/\a<=a'/\∃h:a'-a<(oI m l).length,(oI m l)[a'-a].2.1=x.2)
 |[],p,a,out=>⟨adD hT p a out,rfl⟩
 | t ::l,p,a,out=>by
  rw[Hb]
  by_cases c:og m t<0
  ·rw[if_pos c]
   have e:oI m (t::l)=oI m l:=by
    simp_all[oI]
   have ew:iD m (t::l)=iD m l:=by simp_all[iD]
   rw[ew,e];exact Ts hT l p a out
  rw[if_neg c];have e:oI m (t::l)=t::oI m l:=by
   simp_all[oI]
  have ew:iD m (t::l)=og m t::iD m l:=by simp_all[iD]
  rw[ew,Yb]
  by_cases d:(iL m b p a (og m t)).1≠0
  simp_all
  rw[if_neg d,if_neg d];have ih:=Ts (b:=b) hT l (iL m b p a (og m t)).2.1 (a+1) (out++(iL m b p a (og m t)).2.2);generalize Tq m b l (iL m b p a (og m t)).2.1 (a+1) (out++(iL m b p a (og m t)).2.2)=R at*;obtain⟨q,ab6,p',a'⟩:=R
  cases q with
  | none=>
   obtain⟨h1,h2⟩:=ih;exact⟨h1,by rw[h2,dj];omega⟩
  | some x=>
   obtain⟨h1,h2,h3,h4,h5⟩:=ih;refine⟨h1,h2,by omega,by rw[e,dj];omega,?_⟩;simp only[e];rw[List.getElem_cons,dif_neg J]
   simpa[show a'-a-1=a'-(a+1)by omega]using h5
theorem aio{m:Md}{b:Bool}{T N:Nat}(h:LV m b T N){W:List Int}(hc:iP m.g W=0):
 ((xA m b T W Ho 0 []).2.2=0->∃t,dm m.g.az t (2,0) 0/\(if b then qR m.g.az t else upE m.g.az t)=(xA m b T W Ho 0 []).1/\eU m.g.az t=W)/\
 ∀t,dm m.g.az t (2,0) 0->eU m.g.az t=W->(xA m b T W Ho 0 []).2.2=14\/((xA m b T W Ho 0 []).2.2=0/\(xA m b T W Ho 0 []).1=if b then qR m.g.az t else upE m.g.az t):=by
 have hw:∀x∈W,0<=x/\x<(T:Int):=by rw[<-h.tT];exact(lD hc).2.2
 cases b with
 | true=>
  obtain⟨k1,k2⟩:=h.kLL rfl;have e:xA m aB T W Ho 0 []=na m.g.az (xX m.g T N) T W [.sym (2,0)] 0 []:=by
   show na m.g.az (λn col=>kF m.rows col n) T W [.sym (2,0)] 0 []=_
   rw[k1];exact run_eq h.Hm h.nN hw
  rw[e];obtain⟨h1,h2⟩:=Td h.Hm h.tT h.nN k2 (W:=W);exact⟨h1,λt ht hy=>(h2 t ht hy).imp id λ⟨x,y,_⟩=>⟨x,y⟩⟩
 | false=>
  obtain⟨Nx,S,k1,k2,k3,k4⟩:=h.kLR rfl;have e:xA m aE T W Ho 0 []=bR m.g T Nx S W:=by
   show G8 m.g.az (ke m.A) (fQ m.G) T W [0] 0 []=_
   grind
  grind[adC,ain]
theorem AJ{l:List aL.Prod}{act:Nat->Nat->bK.Act}{gt:Nat->Int->Int}{col a:Nat}:∀(f:Nat) (σ:List Nat) (o:List bJ),(eB l act gt col a f σ o).1=0\/(eB l act gt col a f σ o).1=13\/(eB l act gt col a f σ o).1=14
 |0,σ,o=> .inr (.inr (by rfl))
 | f +1,σ,o=>by
  unfold eB;split;exact .inr (.inr I);split;exact .inl I;split
  grind
  split
  ·split
   omega;split;exact .inr (.inr I);exact AJ f _ _
  omega
theorem adE{m:Md}{b:Bool}{p:PS}{a:Nat}{t:Int}:(iL m b p a t).1=0\/(iL m b p a t).1=13\/(iL m b p a t).1=14:=by
 cases b with
 |true=>
  rcases s9 (l:=m.g.az) (nx:=kF m.rows t.toNat) (st:=p.1) (seen:=a) (t:=t) rfl with⟨h,_⟩|⟨x,r,o,a1,h1,h2,h3,h4,h5,h6⟩
  exact .inr h;exact .inl (congrArg Prod.fst h6)
 |false=>exact AJ _ _ _
theorem LW{m:Md}{b:Bool}:∀(l:List Tok) (p:PS) (a:Nat) (out:List bJ) (x:Int×Nat),(Tq m b l p a out).1=ah x->x.1=13\/x.1=14
 |[],p,a,out,x,h=>by cases h
 | t ::l,p,a,out,x,h=>by
  rw[Hb]at h
  by_cases c:og m t<0
  rw[if_pos c]at h;exact LW l p a out x h;rw[if_neg c]at h
  by_cases d:(iL m b p a (og m t)).1≠0
  ·rw[if_pos d]at h
   cases h
   exact adE.resolve_left d
  rw[if_neg d]at h;exact LW l _ _ _ x h
def n0(m:Md)(l:List Tok):List Int:=(oI m l).map λt=>(t.2.1:Int)
theorem adF{m:Md}(h:MdGood m){l:List Tok}(hr:∀t∈l,0<=t.1/\t.1<m.of.length)(h20:(iD m l).length<=20):iP m.g (iD m l)=0:=by
 unfold iP;rw[if_neg (by rw[h.Hm];simp),if_neg J];refine IF λx hx=>?_;obtain⟨t,ht,rfl⟩:=List.mem_map.1 hx;obtain⟨h1,h2⟩:=List.mem_filter.1 ht;obtain⟨h3,h4⟩:=hr t h1;refine⟨by simp_all,?_⟩;unfold og;rw[cH,bL J,jz];exact(h.ofs _ (bX J)).2
end nj
namespace cB
open Go.RowKit cL dV aL dI dA bK cX
def Hd(seen:Int)(R:Int×List Nat×List bJ):Spec (Value×Value):=
 ⟨λ_=>True,λx=>if R.1=0 then .tuple #[xY x.1 (seen+1) 0 aE,x.2,ap av 0]else .tuple #[xY (ak aj 0 0) seen R.1 aE,ak aj 0 0,ap av R.1],λx=>if R.1=0 then [VA x.1 R.2.1,rW x.2 R.2.2]else []⟩
theorem JM{seen:Int}{σ:List Nat}{o:List bJ}:Hd seen (0,σ,o)=⟨λ_=>True,λx=> .tuple #[xY x.1 (seen+1) 0 aE,x.2,ap av 0],λx=>[VA x.1 σ,rW x.2 o]⟩:=by unfold Hd;simp
theorem JN{seen e:Int}(he:e≠0){x:List Nat×List bJ}:Hd seen (e,x)=⟨λ_=>True,λ_=> .tuple #[xY (ak aj 0 0) seen e aE,ak aj 0 0,ap av e],λ_=>[]⟩:=by unfold Hd;simp[he]
attribute [local irreducible] Instr.build in
theorem LX(v t vs:Value)(g:dD)(T N:Nat)(A:List (List bK.Act))(G:List (List Int))(zl:List Nat)(seen col:Nat)(w:World)(hG:jS (λk=>k<w.heap.size) w v g)(ht:GO w t A G)(hs:skR w vs zl)(hT:wz g T N A G)(hq:∀q∈zl,q<A.length)(hne:zl≠[])(hl:zl.length<=60)(hc:col<T)(hsn:seen<=1000000):
 Calls aC 121 #[v,t,xY vs (seen:Int) 0 aE,ap av (col:Int)] w (cJ (Hd (seen:Int) (eB g.az (ke A) (fQ G) col seen 2001 zl [])) w):=by
 have h0:0<zl.length:=by rcases zl with _|⟨a,b⟩;exact absurd I hne;simp
 have JE:=hT.aQ;have fS:=λw' (hg:Gr w w')=>xZ v t vs g T N A G zl (seen:Int) (col:Int) w' (hG.gr hg) (ht.gr hg) (hs.gr hg) hT hq h0 hl J J J J;have hrn:=λw' (hg:Gr w w')=>CP v t vs g T N A G zl seen col w' (hG.gr hg) (ht.gr hg) (hs.gr hg) hT hq hne hl J;have hlen:=λh=>(DU (a:=seen) hT (show col<=T by omega) 2001 (o:=[]) hne hq hl h).2.2.1;generalize eB g.az (ke A) (fQ G) col seen 2001 zl []=R at*;obtain⟨e,σ,o⟩:=R;dsimp only at hlen;obtain⟨vp,rfl,-⟩:=hG;obtain⟨vA,vG,rfl,-⟩:=ht;clear hs hT;refine enter (args:=[du g.aQ g.bB vp,aP #[vA,vG],xY vs (seen:Int) 0 aE,ap av (col:Int)]) (n:=51) Tryz.func121 I I I ?_;refine bZ (bx (bH I I I λg4=>?_));refine zL ?_;refine bH I I I λg5=>?_;refine zL ?_;refine bH I I I λg6=>?_;refine zL ?_;refine aY I λg8=>?_;refine zL ?_
 repeat(first|refine GC ?_|refine gV (aw (v:=ap av g.aQ) aI.ty I (aD (i:=0) I I)) ?_|refine gV (dc (b:=aE) I I (decide_eq_false J)) ?_|refine gV (aJ (i:=0) aI.ty I I I) ?_|refine gV (aJ (i:=1) aI.ty I I I) ?_|refine gV (aJ (i:=2) aI.ty I I I) ?_|refine GB ?_)
 refine aT (Bc aF.en I I I I I) (λw hm=>fS w hm.below) I I I ?_;intro _ _;refine zL ?_
 repeat(first|refine GA ?_|refine gV (aJ (i:=0) aI.ty I I I) ?_|refine gV (aJ (i:=1) aI.ty I I I) ?_|refine gV (aJ (i:=2) aI.ty I I I) ?_)
 by_cases c:e=0
 ·subst c
  rw[Pf]at hrn;rw[JM];have hlen:=hlen I;refine aT (Bc aF.en I I I I I) (λw hm=>hrn w hm.below) I I I ?_;rintro⟨v1,v2⟩ _;refine zL ?_
  try refine GA ?_
  refine n' (i:=4) I λbt ct hv q1 q2=>?_;subst hv
  repeat(first|refine GC ?_|refine gV (aw (v:=ap av (seen:Int)) aI.ty I (aD (i:=2) I I)) ?_|refine gV (dN (r:=(seen:Int)+1) I I J J J) ?_|refine gV (aZ I (X8 _ _ _ _)) ?_|refine GB ?_)
  refine fR 3 (cs':=#[ak bt σ.length ct,ap av ((seen:Int)+1),ap av 0,.bool aE]) ?_;refine zL ?_
  try refine GA ?_
  exact iW (i:=3) I I I I I I λw hm=>hm.meets (S:=⟨λ_=>True,λx=> .tuple #[xY x.1 ((seen:Int)+1) 0 aE,x.2,ap av 0],λx=>[VA x.1 σ,rW x.2 o]⟩) (ak bt σ.length ct,v2) trivial [4,5] alt I
 ·rw[Pg c]at hrn
  rw[JN c];refine aT (Bc aF.en I I I I I) (λw hm=>hrn w hm.below) I I I ?_;rintro _ _;refine zL ?_
  repeat(first|refine GC ?_|refine gV (dh (b:=aB) I I (decide_eq_true c)) ?_|refine gV (aw (v:=ap av (seen:Int)) aI.ty I (aD (i:=2) I I)) ?_|refine gV (aZ I (JL _ _)) ?_|refine GB ?_)
  refine fR 3 (cs':=#[ak aj 0 0,ap av (seen:Int),ap av e,.bool aE]) ?_;refine zL ?_
  try refine GA ?_
  exact iW (i:=3) I I I I I I λw hm=>hm.meets (S:=⟨λ(_:Value×Value)=>True,λ_=> .tuple #[xY (ak aj 0 0) (seen:Int) e aE,ak aj 0 0,ap av e],λ_=>[]⟩) (ak aj 0 0,ak aj 0 0) trivial [] alt I
def Pm(seen:Int)(R:Int×List Nat×List bJ):Spec Value:=
 ⟨λ_=>True,λx=>if R.1=0 then .tuple #[xY (ak aj 0 0) seen 0 aB,x,ap av 0]else .tuple #[xY (ak aj 0 0) seen R.1 aE,ak aj 0 0,ap av R.1],λx=>if R.1=0 then [rW x R.2.2]else []⟩
theorem Pn{seen:Int}{σ:List Nat}{o:List bJ}:Pm seen (0,σ,o)=⟨λ_=>True,λx=> .tuple #[xY (ak aj 0 0) seen 0 aB,x,ap av 0],λx=>[rW x o]⟩:=by unfold Pm;simp
theorem Po{seen e:Int}(he:e≠0){x:List Nat×List bJ}:Pm seen (e,x)=⟨λ_=>True,λ_=> .tuple #[xY (ak aj 0 0) seen e aE,ak aj 0 0,ap av e],λ_=>[]⟩:=by unfold Pm;simp[he]
attribute [local irreducible] Instr.build in
theorem Pp(v t vs:Value)(g:dD)(T N:Nat)(A:List (List bK.Act))(G:List (List Int))(zl:List Nat)(seen:Nat)(w:World)(hG:jS (λk=>k<w.heap.size) w v g)(ht:GO w t A G)(hs:skR w vs zl)(hT:wz g T N A G)(hq:∀q∈zl,q<A.length)(hne:zl≠[])(hl:zl.length<=60)(hsn:seen<=1000000):
 Calls aC 127 #[v,t,xY vs (seen:Int) 0 aE] w (cJ (Pm (seen:Int) (eB g.az (ke A) (fQ G) T seen 2001 zl [])) w):=by
 have h0:0<zl.length:=by rcases zl with _|⟨a,b⟩;exact absurd I hne;simp
 have JE:=hT.aQ;have fS:=λw' (hg:Gr w w')=>xZ v t vs g T N A G zl (seen:Int) (T:Int) w' (hG.gr hg) (ht.gr hg) (hs.gr hg) hT hq h0 hl J J J J;have hrn:=λw' (hg:Gr w w')=>CP v t vs g T N A G zl seen T w' (hG.gr hg) (ht.gr hg) (hs.gr hg) hT hq hne hl (aX _);generalize eB g.az (ke A) (fQ G) T seen 2001 zl []=R at*;obtain⟨e,σ,o⟩:=R;obtain⟨vp,rfl,-⟩:=hG;obtain⟨vA,vG,rfl,-⟩:=ht;clear hs hT;refine enter (args:=[du g.aQ g.bB vp,aP #[vA,vG],xY vs (seen:Int) 0 aE]) (n:=45) Tryz.func127 I I I ?_;refine bZ (bx (bH I I I λg4=>?_));refine zL ?_;refine bH I I I λg5=>?_;refine zL ?_;refine bH I I I λg6=>?_;refine zL ?_;refine aY I λg8=>?_;refine zL ?_
 repeat(first|refine GA ?_|refine gV (aw (v:=ap av (T:Int)) aI.ty I (aD (i:=0) I (by show ah (ap .i64 g.aQ)=_;rw[JE]))) ?_|refine gV (aJ (i:=0) aI.ty I I I) ?_|refine gV (aJ (i:=1) aI.ty I I I) ?_|refine gV (aJ (i:=2) aI.ty I I I) ?_)
 refine aT (Bc aF.en I I I I I) (λw hm=>fS w hm.below) I I I ?_;intro _ _;refine zL ?_
 repeat(first|refine GA ?_|refine gV (aw (v:=ap av (T:Int)) aI.ty I (aD (i:=0) I (by show ah (ap .i64 g.aQ)=_;rw[JE]))) ?_|refine gV (aJ (i:=0) aI.ty I I I) ?_|refine gV (aJ (i:=1) aI.ty I I I) ?_|refine gV (aJ (i:=2) aI.ty I I I) ?_)
 by_cases c:e=0
 ·subst c
  rw[Pf]at hrn;rw[Pn];refine aT (Bc aF.en I I I I I) (λw hm=>hrn w hm.below) I I I ?_;rintro⟨v1,v2⟩ _;refine zL ?_
  repeat(first|refine GA ?_|refine gV (aw (v:=ap av (seen:Int)) aI.ty I (aD (i:=2) I I)) ?_|refine gV (aZ I (X9 _)) ?_)
  refine fR 3 (cs':=#[ak aj 0 0,ap av (seen:Int),ap av 0,.bool aB]) ?_;refine zL ?_
  try refine GA ?_
  exact iW (i:=3) I I I I I I λw hm=>hm.meets (S:=⟨λ_=>True,λx=> .tuple #[xY (ak aj 0 0) (seen:Int) 0 aB,x,ap av 0],λx=>[rW x o]⟩) v2 trivial [5] alt I
 ·rw[Pg c]at hrn
  rw[Po c];refine aT (Bc aF.en I I I I I) (λw hm=>hrn w hm.below) I I I ?_;rintro _ _;refine zL ?_
  repeat(first|refine GC ?_|refine gV (dh (b:=aB) I I (decide_eq_true c)) ?_|refine gV (aw (v:=ap av (seen:Int)) aI.ty I (aD (i:=2) I I)) ?_|refine gV (aZ I (JL _ _)) ?_|refine GB ?_)
  refine fR 3 (cs':=#[ak aj 0 0,ap av (seen:Int),ap av e,.bool aE]) ?_;refine zL ?_
  try refine GA ?_
  exact iW (i:=3) I I I I I I λw hm=>hm.meets (S:=⟨λ(_:Value)=>True,λ_=> .tuple #[xY (ak aj 0 0) (seen:Int) e aE,ak aj 0 0,ap av e],λ_=>[]⟩) (ak aj 0 0) trivial [] alt I
def wI(g:Nat)(cs:List Value)(T:TypeId):b_:=
 ⟨ah g,λ_=>False,λw=>∃r:List Value,w.heap[g]?=ah (.cells (cs++r).toArray T (0,0)),λw ⟨r,h⟩ k hk=>by simp only[dM,or_false]at hk;subst hk;exact(Array.getElem?_eq_some_iff.1 h).1,
  λw w' ⟨r,h⟩ _ hb=>⟨r,by rw[hb g (.inl I)];exact h⟩⟩
section
variable{W:bV}{L:List b_}
theorem jq{i g off:Nat}{cs:List Value}{T:TypeId}{v:Value}(hi:L[i]?=ah (wI g cs T))(hv:cs.toArray[off]?=ah v):At W L ⟨g,off,aj⟩ v:=λw hm=>by
 obtain⟨r,h⟩:=hm.get hi;rw[cell_of_row w g off _ T (0,0) h,oY];rw[oY]at hv;rw[List.getElem?_append_left (dK.1 hv).1];exact hv
theorem dP{i g:Nat}{C:Array Value}{cs:List Value}{T:TypeId}(hi:L[i]?=ah (aK g C T))(hC:∃r,C=(cs++r).toArray):∀w,Mem W L w->Mem W [wI g cs T] w:=λw hm=>by
 have h1:Mem W [aK g C T] w:=hm.pick [i] (by simp) (by grind);obtain⟨r,rfl⟩:=hC;exact h1.T3 (i:=0) (wI g cs T) I (λw h=>⟨r,h⟩) λk h=>h
end
theorem fx(vo:Value)(pk tl r:List Value):∃q,(km vo pk (tl++r)).toArray=(km vo pk tl++q).toArray:=⟨r,by simp[km]⟩
end cB
namespace cB
open Go.RowKit cL dV aL dI gI iK nj bK
theorem jD{vo:Value}{pk tl cs:List Value}(k0:Nat)(hp:pk.length=258)(hc:(tl.drop k0).take cs.length=cs){j k:Nat}{v:Value}(h:cs[j]?=ah v)(hk:k=k0+259+j):(km vo pk tl).toArray[k]?=ah v:=by
 have hj:=(dK.1 h).1;rw[<-hc,List.getElem?_take_of_lt hj,List.getElem?_drop]at h;exact jH (k0+j) hp h J
section
variable{P:Program}{n:Nat}{W:bV}{fr:Fr}{L:List b_}{Q:Exit->Act->World->Prop}{ops:Array Oper}{rest:List Oper}{ty:TypeId}{pos:String}{after:Array Edge}{t:TypeId}{p x:Operand}{i g k:Nat}{vo:Value}{pk tl:List Value}{T:TypeId}{agg:Bool}{v:Value}
theorem lu(k0:Nat){cs tl':List Value}{c:Nat}[hT:aI P t agg c](hi:L[i]?=ah (aK g (km vo pk tl).toArray T))(hp:ev fr p=ah (aH (ah ⟨g,k,aj⟩)))(hx:ev fr x=ah (aP cs.toArray))(h1:cs.all fV=aB)(hc:cs.length=c)(hk:k=k0+259)(ji:pk.length=258)(hj:Nat.ble (k0+c) tl.length=aB)
 (htl:tl.take k0++cs++tl.drop (k0+c)=tl') (h:TL P n W ops Q rest fr (L.set i (aK g (km vo pk tl').toArray T))):TL P n W ops Q (⟨aj,.store t p x,ty,pos,after,aj⟩::rest) fr L:=by
 subst hk htl;have hj:=nB hj;refine uC hT.ty hi hp hx (by simpa[oX]using hc) (by simpa[oX]using h1) (by rw[List.size_toArray,km,dj,bT];omega) ?_ h;apply Array.ext';show vo::(pk++(tl.take k0++cs++tl.drop (k0+c)))=List.take (k0+259) (vo::(pk++tl))++cs++List.drop (k0+259+c) (vo::(pk++tl))
 rw[show k0+259=pk.length+k0+1 by omega,List.take_succ_cons,show pk.length+k0+1+c=pk.length+(k0+c)+1 by omega,List.drop_succ_cons,List.take_length_add_append,List.drop_length_add_append];simp
end
def xB:Bool->Value->PS->b_
 |true,v,p=>xo v p.1
 |false,v,p=>VA v p.2
abbrev ns(g:Nat)(vo:Value)(pk tl:List Value)(v:Value)(a e:Int)(d:Bool)(T:TypeId):b_:=aK g (km vo pk (tl++[v,ap av a,ap av e,.bool d])).toArray T
theorem qX{v:Value}{a e:Int}{d:Bool}(h:v.oneCell'=aB):[v,ap av a,ap av e,.bool d].all fV=true:=by
 simp only[cY,db,h];rfl
def Yc(b:Bool)(T:TypeId)(g:Nat)(vo:Value)(pk tl:List Value)(a:Nat)(R:Int×PS×List bJ):Spec (Value×Value):=
 ⟨λ_=>True,λx=>if R.1=0 then .tuple #[x.2,ap av 0]else .tuple #[ak aj 0 0,ap av R.1],λx=>if R.1=0 then [ns g vo pk tl x.1 ((a:Int)+1) 0 aE T,xB b x.1 R.2.1,rW x.2 R.2.2]else [ns g vo pk tl (ak aj 0 0) a R.1 aE T]⟩
theorem LY{b:Bool}{T:TypeId}{g:Nat}{vo:Value}{pk tl:List Value}{a:Nat}{p:PS}{o:List bJ}:Yc b T g vo pk tl a (0,p,o)=⟨λ_=>True,λx=> .tuple #[x.2,ap av 0],λx=>[ns g vo pk tl x.1 ((a:Int)+1) 0 aE T,xB b x.1 p,rW x.2 o]⟩:=rfl
theorem LZ{b:Bool}{T:TypeId}{g:Nat}{vo:Value}{pk tl:List Value}{a:Nat}{e:Int}(he:e≠0){R:PS×List bJ}:Yc b T g vo pk tl a (e,R)=⟨λ_=>True,λ_=> .tuple #[ak aj 0 0,ap av e],λ_=>[ns g vo pk tl (ak aj 0 0) a e aE T]⟩:=by unfold Yc;simp[he]
def Yd(g:Nat)(vo:Value)(pk tl:List Value)(a:Nat)(R:Int×List bJ)(T:TypeId):Spec Value:=
 ⟨λ_=>True,λx=>if R.1=0 then .tuple #[x,ap av 0]else .tuple #[ak aj 0 0,ap av R.1],λx=>if R.1=0 then [ns g vo pk tl (ak aj 0 0) a 0 aB T,rW x R.2]else [ns g vo pk tl (ak aj 0 0) a R.1 aE T]⟩
theorem L1{g:Nat}{vo:Value}{pk tl:List Value}{a:Nat}{T:TypeId}{o:List bJ}:Yd g vo pk tl a (0,o) T=⟨λ_=>True,λx=> .tuple #[x,ap av 0],λx=>[ns g vo pk tl (ak aj 0 0) a 0 aB T,rW x o]⟩:=rfl
theorem L2{g:Nat}{vo:Value}{pk tl:List Value}{a:Nat}{T:TypeId}{e:Int}(he:e≠0){o:List bJ}:Yd g vo pk tl a (e,o) T=⟨λ_=>True,λ_=> .tuple #[ak aj 0 0,ap av e],λ_=>[ns g vo pk tl (ak aj 0 0) a e aE T]⟩:=by unfold Yd;simp[he]
attribute [local irreducible] Instr.build in
set_option maxRecDepth 100000 in
theorem L3(w0:World)(x:Value)(m:Md){vo vn vt vp vr va vg:Value}(T N:Nat)(hv:JC w0 x m vo vn vt vp vr va vg)(hk:MdFit m aB T N)(g:Nat)(v:Value)(p:PS)(hp:okP m aB p)(a t:Nat)(ha:a<=1000000)(ht:t<T)(w:World)(B:bV)(ho:ly w0 B)
 (hm:Mem B [ns g vo (jk m.o vn vt) (jC m.g.aQ m.g.bB vp m.mode vr va vg) v a 0 aE 199,xB aB v p] w):
 Calls aC 219 #[aH (ah ⟨g,0,aj⟩),ap av (t:Int)] w (dz (Yc aB 199 g vo (jk m.o vn vt) (jC m.g.aQ m.g.bB vp m.mode vr va vg) a (iL m aB p a (t:Int))) B):=by
 have ji:(jk m.o vn vt).length=258:=iE _ _ _;obtain⟨p1,p2⟩:=hp;obtain⟨h1,h2⟩:=hk.ll rfl;have hG:=hv.Hm;have hr:=hv.rows;have Yj:=hv.mb;have hc:=λw' (hm:Mem B [ns g vo (jk m.o vn vt) (jC m.g.aQ m.g.bB vp m.mode vr va vg) v a 0 aE 199,xB aB v p] w')=>Db _ vr v m.g m.rows T N p.1 a t w' (hG.gr (ho.mem hm)) (hr.gr (ho.mem hm)) (Sl.dF (hm.get (i:=1) I)) h1 hk.Hm h2 p1 p2 ha ht;have hR:iL m aB p a (t:Int)=((iz m.g.az (kF m.rows t) p.1 a (t:Int)).1,((iz m.g.az (kF m.rows t) p.1 a (t:Int)).2.1,p.2),(iz m.g.az (kF m.rows t) p.1 a (t:Int)).2.2):=rfl;rw[hR];clear hR;generalize iz m.g.az (kF m.rows t) p.1 a (t:Int)=R at*;obtain⟨e,st,o⟩:=R;generalize jk m.o vn vt=PK at*;generalize m.g.aQ=gt at*;generalize m.g.bB=gn at*;generalize m.mode=md at*;clear hG hr Yj hv
 by_cases c:e=0
 ·subst c
  rw[ac9]at hc;rw[LY];refine dT hm (args:=[aH (ah ⟨g,0,aj⟩),ap av (t:Int)]) (n:=31) Tryz.func219 I I I ?_
  try refine GA ?_
  refine dG ([wI g (km vo PK (jC gt gn vp md vr va vg)) 199]) (.calm 0 (.calm 1 (.calm 2 (.calm 3 (.calm 4 (.calm 5 (.calm 6 (.calm 7 (.calm 8 (.calm 9 (.calm 10 (.calm 11 (.calm 12 (.calm 13 (.calm 15 (.one 14 (.one 16 (.calm 17 (.calm 18 (.calm 19 (.calm 20 (.calm 21 (.calm 22 (.one 23 (.calm 24 (.calm 25 (.done))))))))))))))))))))))))))) (dP (i:=0) I (fx _ _ _ _)) ?_
  repeat(first|refine GW ?_|(refine GN ?_;first|refine QW (aW (cs:=[ap av gt,ap av gn,vp]) aI.ty I I (λj v h=>jq (i:=0) I (jD 0 ji I h J))) ?_|refine QW (aw (v:=vr) aI.ty I (jq (i:=0) I (jH 4 ji I I))) ?_))
  refine aM I (dy (aW (cs:=[v,ap av a,ap av 0,.bool aE]) aI.ty I I (λj v h=>aD (i:=0) I (jD 7 ji I h J))) I I I (aO (dP (i:=0) I (fx _ _ _ _)) ?_))
  try refine GW ?_
  refine aM I (aT (Bc aF.en I I I I I) (λw hm=>hc w hm) I I I ?_);rintro⟨v1,v2⟩ _;refine zL ?_;refine aO (dP (i:=0) I (fx _ _ _ _)) ?_
  try refine GW ?_
  refine aM I (aU (i:=2) I λ_ jm=>lu (i:=0) 7 (tl':=jC gt gn vp md vr va vg++[v1,ap av ((a:Int)+1),ap av 0,.bool aE]) I I I (qX jm) I I ji I I ?_);refine zL ?_;refine aO (dP (i:=0) I (fx _ _ _ _)) ?_
  try refine GW ?_
  try refine GA ?_
  exact kP I I I λw hm=>hm.cg (S:=⟨λ_=>True,λx=> .tuple #[x.2,ap av 0],λx=>[ns g vo PK (jC gt gn vp md vr va vg) x.1 ((a:Int)+1) 0 aE 199,xB aB x.1 (st,p.2),rW x.2 o]⟩) (v1,v2) trivial [0,2,3] alt I
 ·rw[XX _ c]at hc
  rw[LZ c];refine dT hm (args:=[aH (ah ⟨g,0,aj⟩),ap av (t:Int)]) (n:=31) Tryz.func219 I I I ?_
  try refine GA ?_
  refine dG ([wI g (km vo PK (jC gt gn vp md vr va vg)) 199]) (.calm 0 (.calm 1 (.calm 2 (.calm 3 (.calm 4 (.calm 5 (.calm 6 (.calm 7 (.calm 8 (.calm 9 (.calm 10 (.calm 11 (.calm 12 (.calm 13 (.calm 15 (.one 14 (.one 16 (.calm 17 (.calm 18 (.calm 19 (.calm 20 (.calm 21 (.calm 22 (.one 23 (.calm 24 (.calm 25 (.done))))))))))))))))))))))))))) (dP (i:=0) I (fx _ _ _ _)) ?_
  repeat(first|refine GW ?_|(refine GN ?_;first|refine QW (aW (cs:=[ap av gt,ap av gn,vp]) aI.ty I I (λj v h=>jq (i:=0) I (jD 0 ji I h J))) ?_|refine QW (aw (v:=vr) aI.ty I (jq (i:=0) I (jH 4 ji I I))) ?_))
  refine aM I (dy (aW (cs:=[v,ap av a,ap av 0,.bool aE]) aI.ty I I (λj v h=>aD (i:=0) I (jD 7 ji I h J))) I I I (aO (dP (i:=0) I (fx _ _ _ _)) ?_))
  try refine GW ?_
  refine aM I (aT (Bc aF.en I I I I I) (λw hm=>hc w hm) I I I ?_);rintro x1 _;refine zL ?_;refine aO (dP (i:=0) I (fx _ _ _ _)) ?_
  try refine GW ?_
  refine aM I (lu (i:=0) 7 (tl':=jC gt gn vp md vr va vg++[ak aj 0 0,ap av (a:Int),ap av e,.bool aE]) I I I (qX I) I I ji I I ?_);refine zL ?_;refine aO (dP (i:=0) I (fx _ _ _ _)) ?_
  try refine GW ?_
  try refine GA ?_
  exact kP I I I λw hm=>hm.cg (S:=⟨λ(_:Value×Value)=>True,λ_=> .tuple #[ak aj 0 0,ap av e],λ_=>[ns g vo PK (jC gt gn vp md vr va vg) (ak aj 0 0) a e aE 199]⟩) (v,v) trivial [0] alt I
attribute [local irreducible] Instr.build in
set_option maxRecDepth 100000 in
theorem L4(w0:World)(x:Value)(m:Md){vo vn vt vp vr va vg:Value}(T N:Nat)(hv:JC w0 x m vo vn vt vp vr va vg)(hk:MdFit m aE T N)(g:Nat)(v:Value)(p:PS)(hp:okP m aE p)(a t:Nat)(ha:a<=1000000)(ht:t<T)(w:World)(B:bV)(ho:ly w0 B)
 (hm:Mem B [ns g vo (jk m.o vn vt) (jC m.g.aQ m.g.bB vp m.mode vr va vg) v a 0 aE 202,xB aE v p] w):
 Calls aC 221 #[aH (ah ⟨g,0,aj⟩),ap av (t:Int)] w (dz (Yc aE 202 g vo (jk m.o vn vt) (jC m.g.aQ m.g.bB vp m.mode vr va vg) a (iL m aE p a (t:Int))) B):=by
 have ji:(jk m.o vn vt).length=258:=iE _ _ _;obtain⟨p1,p2,p3⟩:=hp;have h2:=hk.lr I;have hG:=hv.Hm;have hr:=hv.rows;have Yj:=hv.mb;have hc:=λw' (hm:Mem B [ns g vo (jk m.o vn vt) (jC m.g.aQ m.g.bB vp m.mode vr va vg) v a 0 aE 202,xB aE v p] w')=>LX _ (aP #[va,vg]) v m.g T N m.A m.G p.2 a t w' (hG.gr (ho.mem hm)) (Yj.gr (ho.mem hm)) (Sl.dF (hm.get (i:=1) I)) h2 p2 p1 p3 ht ha;have hR:iL m aE p a (t:Int)=((eB m.g.az (ke m.A) (fQ m.G) t a 2001 p.2 []).1,(p.1,(eB m.g.az (ke m.A) (fQ m.G) t a 2001 p.2 []).2.1),(eB m.g.az (ke m.A) (fQ m.G) t a 2001 p.2 []).2.2):=rfl;rw[hR];clear hR;generalize eB m.g.az (ke m.A) (fQ m.G) t a 2001 p.2 []=R at*;obtain⟨e,st,o⟩:=R;generalize jk m.o vn vt=PK at*;generalize m.g.aQ=gt at*;generalize m.g.bB=gn at*;generalize m.mode=md at*;clear hG hr Yj hv
 by_cases c:e=0
 ·subst c
  rw[JM]at hc;rw[LY];refine dT hm (args:=[aH (ah ⟨g,0,aj⟩),ap av (t:Int)]) (n:=31) Tryz.func221 I I I ?_
  try refine GA ?_
  refine dG ([wI g (km vo PK (jC gt gn vp md vr va vg)) 202]) (.calm 0 (.calm 1 (.calm 2 (.calm 3 (.calm 4 (.calm 5 (.calm 6 (.calm 7 (.calm 8 (.calm 9 (.calm 10 (.calm 11 (.calm 12 (.calm 13 (.calm 15 (.one 14 (.one 16 (.calm 17 (.calm 18 (.calm 19 (.calm 20 (.calm 21 (.calm 22 (.one 23 (.calm 24 (.calm 25 (.done))))))))))))))))))))))))))) (dP (i:=0) I (fx _ _ _ _)) ?_
  repeat(first|refine GW ?_|(refine GN ?_;first|refine QW (aW (cs:=[ap av gt,ap av gn,vp]) aI.ty I I (λj v h=>jq (i:=0) I (jD 0 ji I h J))) ?_|refine QW (aW (cs:=[va,vg]) aI.ty I I (λj v h=>jq (i:=0) I (jD 5 ji I h J))) ?_))
  refine aM I (dy (aW (cs:=[v,ap av a,ap av 0,.bool aE]) aI.ty I I (λj v h=>aD (i:=0) I (jD 7 ji I h J))) I I I (aO (dP (i:=0) I (fx _ _ _ _)) ?_))
  try refine GW ?_
  refine aM I (aT (Bc aF.en I I I I I) (λw hm=>hc w hm) I I I ?_);rintro⟨v1,v2⟩ _;refine zL ?_;refine aO (dP (i:=0) I (fx _ _ _ _)) ?_
  try refine GW ?_
  refine aM I (aU (i:=2) I λ_ jm=>lu (i:=0) 7 (tl':=jC gt gn vp md vr va vg++[v1,ap av ((a:Int)+1),ap av 0,.bool aE]) I I I (qX jm) I I ji I I ?_);refine zL ?_;refine aO (dP (i:=0) I (fx _ _ _ _)) ?_
  try refine GW ?_
  try refine GA ?_
  exact kP I I I λw hm=>hm.cg (S:=⟨λ_=>True,λx=> .tuple #[x.2,ap av 0],λx=>[ns g vo PK (jC gt gn vp md vr va vg) x.1 ((a:Int)+1) 0 aE 202,xB aE x.1 (p.1,st),rW x.2 o]⟩) (v1,v2) trivial [0,2,3] alt I
 ·rw[JN c]at hc
  rw[LZ c];refine dT hm (args:=[aH (ah ⟨g,0,aj⟩),ap av (t:Int)]) (n:=31) Tryz.func221 I I I ?_
  try refine GA ?_
  refine dG ([wI g (km vo PK (jC gt gn vp md vr va vg)) 202]) (.calm 0 (.calm 1 (.calm 2 (.calm 3 (.calm 4 (.calm 5 (.calm 6 (.calm 7 (.calm 8 (.calm 9 (.calm 10 (.calm 11 (.calm 12 (.calm 13 (.calm 15 (.one 14 (.one 16 (.calm 17 (.calm 18 (.calm 19 (.calm 20 (.calm 21 (.calm 22 (.one 23 (.calm 24 (.calm 25 (.done))))))))))))))))))))))))))) (dP (i:=0) I (fx _ _ _ _)) ?_
  repeat(first|refine GW ?_|(refine GN ?_;first|refine QW (aW (cs:=[ap av gt,ap av gn,vp]) aI.ty I I (λj v h=>jq (i:=0) I (jD 0 ji I h J))) ?_|refine QW (aW (cs:=[va,vg]) aI.ty I I (λj v h=>jq (i:=0) I (jD 5 ji I h J))) ?_))
  refine aM I (dy (aW (cs:=[v,ap av a,ap av 0,.bool aE]) aI.ty I I (λj v h=>aD (i:=0) I (jD 7 ji I h J))) I I I (aO (dP (i:=0) I (fx _ _ _ _)) ?_))
  try refine GW ?_
  refine aM I (aT (Bc aF.en I I I I I) (λw hm=>hc w hm) I I I ?_);rintro x1 _;refine zL ?_;refine aO (dP (i:=0) I (fx _ _ _ _)) ?_
  try refine GW ?_
  refine aM I (lu (i:=0) 7 (tl':=jC gt gn vp md vr va vg++[ak aj 0 0,ap av (a:Int),ap av e,.bool aE]) I I I (qX I) I I ji I I ?_);refine zL ?_;refine aO (dP (i:=0) I (fx _ _ _ _)) ?_
  try refine GW ?_
  try refine GA ?_
  exact kP I I I λw hm=>hm.cg (S:=⟨λ(_:Value×Value)=>True,λ_=> .tuple #[ak aj 0 0,ap av e],λ_=>[ns g vo PK (jC gt gn vp md vr va vg) (ak aj 0 0) a e aE 202]⟩) (v,v) trivial [0] alt I
attribute [local irreducible] Instr.build in
set_option maxRecDepth 100000 in
theorem Pq(w0:World)(x:Value)(m:Md){vo vn vt vp vr va vg:Value}(T N:Nat)(hv:JC w0 x m vo vn vt vp vr va vg)(hk:MdFit m aB T N)(g:Nat)(v:Value)(p:PS)(hp:okP m aB p)(a:Nat)(ha:a<=1000000)(w:World)(B:bV)(ho:ly w0 B)
 (hm:Mem B [ns g vo (jk m.o vn vt) (jC m.g.aQ m.g.bB vp m.mode vr va vg) v a 0 aE 199,xB aB v p] w):
 Calls aC 218 #[aH (ah ⟨g,0,aj⟩)] w (dz (Yd g vo (jk m.o vn vt) (jC m.g.aQ m.g.bB vp m.mode vr va vg) a (qC m aB p a) 199) B):=by
 have ji:(jk m.o vn vt).length=258:=iE _ _ _;obtain⟨p1,p2⟩:=hp;obtain⟨h1,h2⟩:=hk.ll rfl;have hG:=hv.Hm;have hr:=hv.rows;have Yj:=hv.mb;have hc:=λw' (hm:Mem B [ns g vo (jk m.o vn vt) (jC m.g.aQ m.g.bB vp m.mode vr va vg) v a 0 aE 199,xB aB v p] w')=>GU _ vr v m.g m.rows T N p.1 a w' (hG.gr (ho.mem hm)) (hr.gr (ho.mem hm)) (Sl.dF (hm.get (i:=1) I)) h1 hk.Hm h2 p1 p2 ha;have hT:=hk.tT;have hR:qC m aB p a=s7 m.g.az (kF m.rows m.g.aQ.toNat) p.1:=rfl;rw[hR,show m.g.aQ.toNat=T by omega];clear hR hT;generalize s7 m.g.az (kF m.rows T) p.1=R at*;obtain⟨e,o⟩:=R;generalize jk m.o vn vt=PK at*;generalize m.g.aQ=gt at*;generalize m.g.bB=gn at*;generalize m.mode=md at*;clear hG hr Yj hv
 by_cases c:e=0
 ·subst c
  rw[afC]at hc;rw[L1];refine dT hm (args:=[aH (ah ⟨g,0,aj⟩)]) (n:=28) Tryz.func218 I I I ?_
  try refine GA ?_
  refine dG ([wI g (km vo PK (jC gt gn vp md vr va vg)) 199]) (.calm 0 (.calm 1 (.calm 2 (.calm 3 (.calm 4 (.calm 5 (.calm 6 (.calm 7 (.calm 8 (.calm 9 (.calm 10 (.calm 11 (.calm 12 (.calm 13 (.one 14 (.one 15 (.calm 16 (.calm 17 (.calm 18 (.calm 19 (.calm 20 (.calm 21 (.one 22 (.calm 23 (.calm 24 (.done)))))))))))))))))))))))))) (dP (i:=0) I (fx _ _ _ _)) ?_
  repeat(first|refine GW ?_|(refine GN ?_;first|refine QW (aW (cs:=[ap av gt,ap av gn,vp]) aI.ty I I (λj v h=>jq (i:=0) I (jD 0 ji I h J))) ?_|refine QW (aw (v:=vr) aI.ty I (jq (i:=0) I (jH 4 ji I I))) ?_))
  refine aM I (dy (aW (cs:=[v,ap av a,ap av 0,.bool aE]) aI.ty I I (λj v h=>aD (i:=0) I (jD 7 ji I h J))) I I I (aO (dP (i:=0) I (fx _ _ _ _)) ?_))
  try refine GW ?_
  refine aM I (aT (xE aF.en I I I I) (λw hm=>hc w hm) I I I ?_);rintro x1 _;refine zL ?_;refine aO (dP (i:=0) I (fx _ _ _ _)) ?_
  try refine GW ?_
  refine aM I (lu (i:=0) 7 (tl':=jC gt gn vp md vr va vg++[ak aj 0 0,ap av (a:Int),ap av 0,.bool aB]) I I I (qX I) I I ji I I ?_);refine zL ?_;refine aO (dP (i:=0) I (fx _ _ _ _)) ?_
  try refine GW ?_
  try refine GA ?_
  exact kP I I I λw hm=>hm.cg (S:=⟨λ_=>True,λx=> .tuple #[x,ap av 0],λx=>[ns g vo PK (jC gt gn vp md vr va vg) (ak aj 0 0) a 0 aB 199,rW x o]⟩) x1 trivial [0,2] alt I
 ·rw[ac_ _ c]at hc
  rw[L2 c];refine dT hm (args:=[aH (ah ⟨g,0,aj⟩)]) (n:=28) Tryz.func218 I I I ?_
  try refine GA ?_
  refine dG ([wI g (km vo PK (jC gt gn vp md vr va vg)) 199]) (.calm 0 (.calm 1 (.calm 2 (.calm 3 (.calm 4 (.calm 5 (.calm 6 (.calm 7 (.calm 8 (.calm 9 (.calm 10 (.calm 11 (.calm 12 (.calm 13 (.one 14 (.one 15 (.calm 16 (.calm 17 (.calm 18 (.calm 19 (.calm 20 (.calm 21 (.one 22 (.calm 23 (.calm 24 (.done)))))))))))))))))))))))))) (dP (i:=0) I (fx _ _ _ _)) ?_
  repeat(first|refine GW ?_|(refine GN ?_;first|refine QW (aW (cs:=[ap av gt,ap av gn,vp]) aI.ty I I (λj v h=>jq (i:=0) I (jD 0 ji I h J))) ?_|refine QW (aw (v:=vr) aI.ty I (jq (i:=0) I (jH 4 ji I I))) ?_))
  refine aM I (dy (aW (cs:=[v,ap av a,ap av 0,.bool aE]) aI.ty I I (λj v h=>aD (i:=0) I (jD 7 ji I h J))) I I I (aO (dP (i:=0) I (fx _ _ _ _)) ?_))
  try refine GW ?_
  refine aM I (aT (xE aF.en I I I I) (λw hm=>hc w hm) I I I ?_);rintro x1 _;refine zL ?_;refine aO (dP (i:=0) I (fx _ _ _ _)) ?_
  try refine GW ?_
  refine aM I (lu (i:=0) 7 (tl':=jC gt gn vp md vr va vg++[ak aj 0 0,ap av (a:Int),ap av e,.bool aE]) I I I (qX I) I I ji I I ?_);refine zL ?_;refine aO (dP (i:=0) I (fx _ _ _ _)) ?_
  try refine GW ?_
  try refine GA ?_
  exact kP I I I λw hm=>hm.cg (S:=⟨λ(_:Value)=>True,λ_=> .tuple #[ak aj 0 0,ap av e],λ_=>[ns g vo PK (jC gt gn vp md vr va vg) (ak aj 0 0) a e aE 199]⟩) v trivial [0] alt I
attribute [local irreducible] Instr.build in
set_option maxRecDepth 100000 in
theorem Pr(w0:World)(x:Value)(m:Md){vo vn vt vp vr va vg:Value}(T N:Nat)(hv:JC w0 x m vo vn vt vp vr va vg)(hk:MdFit m aE T N)(g:Nat)(v:Value)(p:PS)(hp:okP m aE p)(a:Nat)(ha:a<=1000000)(w:World)(B:bV)(ho:ly w0 B)
 (hm:Mem B [ns g vo (jk m.o vn vt) (jC m.g.aQ m.g.bB vp m.mode vr va vg) v a 0 aE 202,xB aE v p] w):
 Calls aC 220 #[aH (ah ⟨g,0,aj⟩)] w (dz (Yd g vo (jk m.o vn vt) (jC m.g.aQ m.g.bB vp m.mode vr va vg) a (qC m aE p a) 202) B):=by
 have ji:(jk m.o vn vt).length=258:=iE _ _ _;obtain⟨p1,p2,p3⟩:=hp;have h2:=hk.lr I;have hG:=hv.Hm;have hr:=hv.rows;have Yj:=hv.mb;have hc:=λw' (hm:Mem B [ns g vo (jk m.o vn vt) (jC m.g.aQ m.g.bB vp m.mode vr va vg) v a 0 aE 202,xB aE v p] w')=>Pp _ (aP #[va,vg]) v m.g T N m.A m.G p.2 a w' (hG.gr (ho.mem hm)) (Yj.gr (ho.mem hm)) (Sl.dF (hm.get (i:=1) I)) h2 p2 p1 p3 ha;have hT:=hk.tT;have hR:qC m aE p a=((eB m.g.az (ke m.A) (fQ m.G) m.g.aQ.toNat a 2001 p.2 []).1,(eB m.g.az (ke m.A) (fQ m.G) m.g.aQ.toNat a 2001 p.2 []).2.2):=rfl;rw[hR,show m.g.aQ.toNat=T by omega];clear hR hT;generalize eB m.g.az (ke m.A) (fQ m.G) T a 2001 p.2 []=R at*;obtain⟨e,st,o⟩:=R;generalize jk m.o vn vt=PK at*;generalize m.g.aQ=gt at*;generalize m.g.bB=gn at*;generalize m.mode=md at*;clear hG hr Yj hv;dsimp only
 by_cases c:e=0
 ·subst c
  rw[Pn]at hc;rw[L1];refine dT hm (args:=[aH (ah ⟨g,0,aj⟩)]) (n:=28) Tryz.func220 I I I ?_
  try refine GA ?_
  refine dG ([wI g (km vo PK (jC gt gn vp md vr va vg)) 202]) (.calm 0 (.calm 1 (.calm 2 (.calm 3 (.calm 4 (.calm 5 (.calm 6 (.calm 7 (.calm 8 (.calm 9 (.calm 10 (.calm 11 (.calm 12 (.calm 13 (.one 14 (.one 15 (.calm 16 (.calm 17 (.calm 18 (.calm 19 (.calm 20 (.calm 21 (.one 22 (.calm 23 (.calm 24 (.done)))))))))))))))))))))))))) (dP (i:=0) I (fx _ _ _ _)) ?_
  repeat(first|refine GW ?_|(refine GN ?_;first|refine QW (aW (cs:=[ap av gt,ap av gn,vp]) aI.ty I I (λj v h=>jq (i:=0) I (jD 0 ji I h J))) ?_|refine QW (aW (cs:=[va,vg]) aI.ty I I (λj v h=>jq (i:=0) I (jD 5 ji I h J))) ?_))
  refine aM I (dy (aW (cs:=[v,ap av a,ap av 0,.bool aE]) aI.ty I I (λj v h=>aD (i:=0) I (jD 7 ji I h J))) I I I (aO (dP (i:=0) I (fx _ _ _ _)) ?_))
  try refine GW ?_
  refine aM I (aT (xE aF.en I I I I) (λw hm=>hc w hm) I I I ?_);rintro x1 _;refine zL ?_;refine aO (dP (i:=0) I (fx _ _ _ _)) ?_
  try refine GW ?_
  refine aM I (lu (i:=0) 7 (tl':=jC gt gn vp md vr va vg++[ak aj 0 0,ap av (a:Int),ap av 0,.bool aB]) I I I (qX I) I I ji I I ?_);refine zL ?_;refine aO (dP (i:=0) I (fx _ _ _ _)) ?_
  try refine GW ?_
  try refine GA ?_
  exact kP I I I λw hm=>hm.cg (S:=⟨λ_=>True,λx=> .tuple #[x,ap av 0],λx=>[ns g vo PK (jC gt gn vp md vr va vg) (ak aj 0 0) a 0 aB 202,rW x o]⟩) x1 trivial [0,2] alt I
 ·rw[Po c]at hc
  rw[L2 c];refine dT hm (args:=[aH (ah ⟨g,0,aj⟩)]) (n:=28) Tryz.func220 I I I ?_
  try refine GA ?_
  refine dG ([wI g (km vo PK (jC gt gn vp md vr va vg)) 202]) (.calm 0 (.calm 1 (.calm 2 (.calm 3 (.calm 4 (.calm 5 (.calm 6 (.calm 7 (.calm 8 (.calm 9 (.calm 10 (.calm 11 (.calm 12 (.calm 13 (.one 14 (.one 15 (.calm 16 (.calm 17 (.calm 18 (.calm 19 (.calm 20 (.calm 21 (.one 22 (.calm 23 (.calm 24 (.done)))))))))))))))))))))))))) (dP (i:=0) I (fx _ _ _ _)) ?_
  repeat(first|refine GW ?_|(refine GN ?_;first|refine QW (aW (cs:=[ap av gt,ap av gn,vp]) aI.ty I I (λj v h=>jq (i:=0) I (jD 0 ji I h J))) ?_|refine QW (aW (cs:=[va,vg]) aI.ty I I (λj v h=>jq (i:=0) I (jD 5 ji I h J))) ?_))
  refine aM I (dy (aW (cs:=[v,ap av a,ap av 0,.bool aE]) aI.ty I I (λj v h=>aD (i:=0) I (jD 7 ji I h J))) I I I (aO (dP (i:=0) I (fx _ _ _ _)) ?_))
  try refine GW ?_
  refine aM I (aT (xE aF.en I I I I) (λw hm=>hc w hm) I I I ?_);rintro x1 _;refine zL ?_;refine aO (dP (i:=0) I (fx _ _ _ _)) ?_
  try refine GW ?_
  refine aM I (lu (i:=0) 7 (tl':=jC gt gn vp md vr va vg++[ak aj 0 0,ap av (a:Int),ap av e,.bool aE]) I I I (qX I) I I ji I I ?_);refine zL ?_;refine aO (dP (i:=0) I (fx _ _ _ _)) ?_
  try refine GW ?_
  try refine GA ?_
  exact kP I I I λw hm=>hm.cg (S:=⟨λ(_:Value)=>True,λ_=> .tuple #[ak aj 0 0,ap av e],λ_=>[ns g vo PK (jC gt gn vp md vr va vg) (ak aj 0 0) a e aE 202]⟩) v trivial [0] alt I
section
variable{P:Program}{n:Nat}{W:bV}{fr:Fr}{L:List b_}{dst:Option Tmp}{ty:TypeId}{pos:String}{after:Array Edge}{guard:Option (Nat×Bool)}
def VD(P:Program)(t:TypeId)(v:Value)(name:String)(f:FuncId):Prop:=∀w,(method (P.types.size+ady) t v name).run P w= .ok (f,v) w
def aka(P:Program)(t:TypeId)(v:Value)(name:String):Prop:=∀w,(nilAhead (P.types.size+ady) t v name).run P w= .ok (ah aE) w
theorem afS{x:Operand}{name:String}{t:TypeId}{v:Value}{cap:Array Value}(hx:ev fr x=ah (.func (.method name) #[.iface t v] cap))(hn:aka P t v name):RR P n W ⟨dst,.nilCheck x,ty,pos,after,guard⟩ fr L (.func (.method name) #[.iface t v] cap):= .mk λa w hr _=>by
 have hn':=hn w;simp only[execOp,hr.ev hx];simp[hn']
theorem VE{t:TypeId}{x:Operand}{v u:Value}(hx:ev fr x=ah v)(h:∀w,(adx t v).run P w= .ok u w):RR P n W ⟨dst,.makeInterface t x,ty,pos,after,guard⟩ fr L u:= .mk λa w hr _=>by
 have h':=h w;simp[execOp,hr.ev hx,h']
theorem akb{name:String}{t:TypeId}{v:Value}{f:FuncId}{x:Operand}{ts:Array TypeId}(hf:Enters P f)(hx:ev fr x=ah (.iface t v))(hm:VD P t v name f):∀a w,mK n a fr->(execOp a.eval ⟨dst,.call {callee:= .invoke x name,args:=#[],argTypes:=ts},ty,pos,after,guard⟩).run P w= .ok (.enter f #[v]) w:=λa w hr=>by
 have AR:∀args w,(callFunc f args).run P w= .ok (.enter f args) w:=hf;have pg:=hm w;simp[execOp,resolve,hr.ev hx,invoke,callMethod,pg,AR]
theorem akc{name:String}{t:TypeId}{v v1:Value}{f:FuncId}{x x1:Operand}{ts:Array TypeId}(hf:Enters P f)(hx:ev fr x=ah (.iface t v))(h1:ev fr x1=ah v1)(hm:VD P t v name f):∀a w,mK n a fr->(execOp a.eval ⟨dst,.call {callee:= .invoke x name,args:=#[x1],argTypes:=ts},ty,pos,after,guard⟩).run P w= .ok (.enter f #[v,v1]) w:=λa w hr=>by
 have AR:∀args w,(callFunc f args).run P w= .ok (.enter f args) w:=hf;have pg:=hm w;simp[execOp,resolve,hr.ev hx,hr.ev h1,invoke,callMethod,pg,AR]
end
abbrev paT(b:Bool):TypeId:=if b then 197 else 200
abbrev paB(b:Bool):TypeId:=if b then 199 else 202
abbrev Tt(b:Bool):FuncId:=if b then 219 else 221
abbrev adG(b:Bool):FuncId:=if b then 218 else 220
theorem Ye(b:Bool)(a:Addr):aka aC (paT b) (aH (ah a)) "pushmill/whole.push" :=λw=>by cases b<;>kernel_rfl
theorem He(b:Bool)(a:Addr):VD aC (paT b) (aH (ah a)) "pushmill/whole.push" (Tt b):=λw=>by cases b<;>kernel_rfl
theorem JO(b:Bool)(a:Addr):VD aC (paT b) (aH (ah a)) "pushmill/whole.end" (adG b):=λw=>by cases b<;>kernel_rfl
theorem VF(b:Bool)(a:Addr)(w:World):(adx (paT b) (aH (ah a))).run aC w= .ok (.iface (paT b) (aH (ah a))) w:=by cases b<;>kernel_rfl
theorem CQ(b:Bool):Enters aC (Tt b):=by cases b<;>exact Enters.of (by kernel_rfl)
theorem Hf(b:Bool):Enters aC (adG b):=by cases b<;>exact Enters.of (by kernel_rfl)
theorem Tu{P:Program}{t:TypeId}{fields:Array Field}{z:Value}{pl:Array (Nat×Nat)}{parts:Array (Nat×Value)}{c:Array Value}{w:World}(hz:(zeroValue t).run P w= .ok z w)(hu:(underlying t).run P w= .ok (.struct fields) w)
 (hp:(fields.mapM λf=>do pure (f.offset,<-sizeOf f.type):Sem (Array (Nat×Nat))).run P w= .ok pl w) (hf:lO (pl[·]?) z.cells parts.toList=ah c):(da t parts).run P w= .ok (.agg c) w:=by
 simp_all[da]
theorem Ps(off:Nat):∀(vs:List Value) (k:Nat) (cs:List Value),off+k+vs.length<=cs.length->(vs.zipIdx k).foldl (λcs (c,j)=>cs.setIfInBounds (off+j) c) cs.toArray=(cs.take (off+k)++vs++cs.drop (off+k+vs.length)).toArray
 |[],k,cs,_=>by simp
 |v::vs,k,cs,h=>by
  simp only[dj]at h;rw[List.zipIdx_cons,rh];dsimp only;rw[List.setIfInBounds_toArray,Ps off vs (k+1) _ (by grind)]
  congr 1
  rw[show off+(k+1)=off+k+1 by omega,List.take_set,List.drop_set_of_lt J,dj,show off+k+(vs.length+1)=off+k+1+vs.length by omega,List.take_add_one,List.set_append_right _ _ (by grind)];have:(off+k)<cs.length:=by omega
  simp_all[Nat.le_of_lt]
theorem JP{place:Nat->Option (Nat×Nat)}{i off m:Nat}{cells a:List Value}{rest:List (Nat×Value)}(h0:place i=ah (off,m))(ha:a.length=m)(hc:off+m<=cells.length):lO place cells.toArray ((i,aP a.toArray)::rest)=lO place (cells.take off++a++cells.drop (off+m)).toArray rest:=by
 subst ha;have:=Ps off a 0 cells J;rw[Nat.add_zero]at this;rw[lO,h0];show(if _ then aj else _)=_
 rw[if_neg (by grind[oX])]
 simp_all[oX]
open pt cX
def paZ(b:Value):List Value:=([ak aj 0 0]:List Value)++c_ 256 (ap .u8 0)++([ak aj 0 0,ak aj 0 0,ap av 0,ap av 0,ak aj 0 0,ap av 0,ak aj 0 0,ak aj 0 0,ak aj 0 0,ak aj 0 0,ap av 0,ap av 0,b]:List Value)
theorem afT(b:Value):(paZ b).length=270:=by
 unfold paZ;rw[bT,bT,List.length_replicate];rfl
set_option maxRecDepth 100000 in
theorem adH(b:Bool){vo v:Value}{pk tl:List Value}(ji:pk.length=258)(htl:tl.length=7)(w:World):(da (paB b) #[(0,aP (km vo pk tl).toArray),(1,xY v 0 0 aE)]).run aC w= .ok (aP (km vo pk (tl++[v,ap av 0,ap av 0,.bool aE])).toArray) w:=by
 have hz:(zeroValue (paB b)).run aC w= .ok (aP (paZ (.bool aE)).toArray) w:=by cases b<;>kernel_rfl
 have hu:∃fields,(underlying (paB b)).run aC w= .ok (.struct fields) w/\(fields.mapM λf=>do pure (f.offset,<-sizeOf f.type):Sem (Array (Nat×Nat))).run aC w= .ok #[(0,266),(266,4)] w:=by cases b<;>exact⟨_,rfl,by kernel_rfl⟩
 obtain⟨fields,hu,hp⟩:=hu;have hl:(km vo pk tl).length=266:=by rw[km,dj,bT];omega
 refine Tu hz hu hp ?_;show lO _ (paZ (.bool aE)).toArray [(0,aP (km vo pk tl).toArray),(1,aP [v,ap av 0,ap av 0,.bool aE].toArray)]=_
 have hz:=afT (.bool aE);generalize paZ (.bool aE)=Z at*;rw[JP (m:=266) I hl J,JP (m:=4) I I (by rw[bT,bT,jr,je];omega)];rw[lO,List.take_zero,fD,cU,List.take_append_of_le_length J,gD J,List.drop_append,ia J,ia (by rw[je];omega)];simp[km]
def bgS(b:Bool)(vo:Value)(pk tl:List Value):Spec (Nat×Value):=⟨λ_=>True,λx=> .iface (paT b) (aH (ah ⟨x.1,0,aj⟩)),λx=>[ns x.1 vo pk tl x.2 0 0 aE (paB b),xB b x.2 Ho]⟩
set_option maxRecDepth 100000 in
theorem L5(b:Bool){vo:Value}{pk:List Value}{t n md:Int}{vp vr va vg:Value}(ji:pk.length=258)(De:md=if b then 1 else 2)(w:World):
 Calls aC 31 #[aP (km vo pk (jC t n vp md vr va vg)).toArray] w (cJ (bgS b vo pk (jC t n vp md vr va vg)) w):=by
 have hb:=λv=>adH b (vo:=vo) (v:=v) ji (show(jC t n vp md vr va vg).length=7 from I)
 cases b with
 |true=>
  subst De;refine enter (args:=[aP (km vo pk (jC t n vp (if aB=aB then 1 else 2) vr va vg)).toArray]) (n:=16) Tryz.func31 I I I ?_;refine bZ (bx (bH I I I λg1=>?_));refine zL ?_
  repeat(first|refine GA ?_|refine gV (aw (v:=ap av 1) aI.ty I (aD (i:=0) I (jH 3 ji I I))) ?_)
  refine dG ([aK g1 (km vo pk (jC t n vp 1 vr va vg)).toArray 38]) (.calm 0 (.one 1 (.calm 2 (.one 3 (.calm 4 (.calm 5 (.done))))))) (bY [0]) ?_
  repeat(first|refine GW ?_|(refine GN ?_;first|refine QW (aJ (i:=0) aI.ty I I (kJ ji I)) ?_))
  refine aM I ?_;refine aT (he0 aF.en I) (λw hm=>B7 w) I I I ?_;intro vt _
  conv=>arg 8;simp only[zJ,df,ret,id_eq,DO]
  conv=>arg 7;simp only[DO]
  refine aO (bY [0]) ?_
  repeat(first|refine GW ?_|(refine GN ?_;first|refine QW (aZ I (hb vt)) ?_))
  refine aM I (bH I I I λg2=>?_);refine zL ?_;refine aO (bY [0]) ?_
  repeat(first|refine GW ?_|(refine GN ?_;first|refine QW (VE I (VF aB _)) ?_))
  try refine GA ?_
  exact cV I I λw hm=>hm.meets (S:=bgS aB vo pk (jC t n vp 1 vr va vg)) (g2,vt) trivial [2,1] alt I
 |false=>
  subst De;refine enter (args:=[aP (km vo pk (jC t n vp (if aE=aB then 1 else 2) vr va vg)).toArray]) (n:=16) Tryz.func31 I I I ?_;refine bZ (bx (bH I I I λg1=>?_));refine zL ?_
  repeat(first|refine GA ?_|refine gV (aw (v:=ap av 2) aI.ty I (aD (i:=0) I (jH 3 ji I I))) ?_)
  refine dG ([aK g1 (km vo pk (jC t n vp 2 vr va vg)).toArray 38]) (.calm 0 (.one 1 (.calm 2 (.one 3 (.calm 4 (.calm 5 (.done))))))) (bY [0]) ?_
  repeat(first|refine GW ?_|(refine GN ?_;first|refine QW (aJ (i:=0) aI.ty I I (kJ ji I)) ?_))
  refine aM I ?_;refine aT (he0 aF.en I) (λw hm=>H0 w) I I I ?_;intro vt _
  conv=>arg 8;simp only[zJ,df,ret,id_eq,DT]
  conv=>arg 7;simp only[DT]
  refine aO (bY [0]) ?_
  repeat(first|refine GW ?_|(refine GN ?_;first|refine QW (aZ I (hb vt)) ?_))
  refine aM I (bH I I I λg2=>?_);refine zL ?_;refine aO (bY [0]) ?_
  repeat(first|refine GW ?_|(refine GN ?_;first|refine QW (VE I (VF aE _)) ?_))
  try refine GA ?_
  exact cV I I λw hm=>hm.meets (S:=bgS aE vo pk (jC t n vp 2 vr va vg)) (g2,vt) trivial [2,1] alt I
theorem JC.gr{w w':World}{v:Value}{m:Md}{vo vn vt vp vr va vg:Value}(h:JC w v m vo vn vt vp vr va vg)(hg:Gr w w'):JC w' v m vo vn vt vp vr va vg:=
 ⟨h.val,h.of.gr hg,h.pk.gr hg,h.Hm.gr hg,Dz h.rows hg,h.mb.gr hg⟩
theorem L6(w0:World)(x:Value)(m:Md)(T N:Nat)(b:Bool){vo vn vt vp vr va vg:Value}(hv:JC w0 x m vo vn vt vp vr va vg)(hk:MdFit m b T N)(g:Nat)(v:Value)(p:PS)(hp:okP m b p)(a t:Nat)(ha:a<=1000000)(ht:t<T)(w:World)(B:bV)(ho:ly w0 B)
 (hm:Mem B [ns g vo (jk m.o vn vt) (jC m.g.aQ m.g.bB vp m.mode vr va vg) v a 0 aE (paB b),xB b v p] w):
 Calls aC (Tt b) #[aH (ah ⟨g,0,aj⟩),ap av (t:Int)] w (dz (Yc b (paB b) g vo (jk m.o vn vt) (jC m.g.aQ m.g.bB vp m.mode vr va vg) a (iL m b p a (t:Int))) B):=by
 cases b
 ·exact L4 w0 x m T N hv hk g v p hp a t ha ht w B ho hm
 ·exact L3 w0 x m T N hv hk g v p hp a t ha ht w B ho hm
theorem Pt(w0:World)(x:Value)(m:Md)(T N:Nat)(b:Bool){vo vn vt vp vr va vg:Value}(hv:JC w0 x m vo vn vt vp vr va vg)(hk:MdFit m b T N)(g:Nat)(v:Value)(p:PS)(hp:okP m b p)(a:Nat)(ha:a<=1000000)(w:World)(B:bV)(ho:ly w0 B)
 (hm:Mem B [ns g vo (jk m.o vn vt) (jC m.g.aQ m.g.bB vp m.mode vr va vg) v a 0 aE (paB b),xB b v p] w):
 Calls aC (adG b) #[aH (ah ⟨g,0,aj⟩)] w (dz (Yd g vo (jk m.o vn vt) (jC m.g.aQ m.g.bB vp m.mode vr va vg) a (qC m b p a) (paB b)) B):=by
 cases b
 ·exact Pr w0 x m T N hv hk g v p hp a ha w B ho hm
 ·exact Pq w0 x m T N hv hk g v p hp a ha w B ho hm
def Pu(vo:Value)(R:List bJ×Int×Nat):Array Value:=#[vo,ap av R.2.1,ap av (R.2.2:Int)]
def AP(R:List bJ×Int×Nat):Spec Value:=⟨λ_=>True,λvo=> .tuple #[.agg (Pu vo R),ap av 0],λvo=>[rW vo R.1]⟩
theorem su{v:Value}{a b:Int}(h:v.oneCell'=aB):(#[v,ap av a,ap av b]:Array Value).toList.all fV=true:=by
 simp only[cY,db,h];rfl
theorem afU(m:Md)(b:Bool)(p:PS)(a:Nat)(out:List bJ):Tq m b [] p a out=(aj,out,p,a):=rfl
attribute [local irreducible] Instr.build in
set_option maxRecDepth 100000 in
theorem CR(x:Value)(m:Md)(b:Bool)(T N:Nat){vo vn vt vp vr va vg:Value}(s:List UInt8)(w:World)(h:JC w x m vo vn vt vp vr va vg)(hk:MdFit m b T N)(hs:s.length<=2000):
 Calls aC 8 #[x,str s] w (cJ (AP (lq m b s)) w):=by
 have ji:(jk m.o vn vt).length=258:=iE _ _ _;have hrt:=λw' (hw:Gr w w')=>AH x m w' (h.gr hw) hk.toMdGood;have Zk:=λw' (hw:Gr w w')=>JI m.o vn vt m.N m.tags s w' (h.pk.gr hw) hk.byte J;rw[DQ hk.lZ hs,show PF m.o vn vt=aP (jk m.o vn vt).toArray from I]at Zk;have Bb:=λw'=>L5 b (vo:=vo) (pk:=jk m.o vn vt) (t:=m.g.aQ) (n:=m.g.bB) (vp:=vp) (vr:=vr) (va:=va) (vg:=vg) ji hk.md w';have akd:=λg v p hp a t ha ht w' B (ho:ly w B) hm=>L6 w x m T N b h hk g v p hp a t ha ht w' B ho hm;have ahH:=λg v p hp a ha w' B (ho:ly w B) hm=>Pt w x m T N b h hk g v p hp a ha w' B ho hm;have uR:=λ(p:PS) hp a t ht h0=>X_ (b:=b) hk (p:=p) hp (a:=a) (t:=t) ht h0;have CS:=tH (o:=m.o) (N:=m.N) (tags:=m.tags) (n:=(m.of.length:Int)) (by have:=hk.some;omega) hk.tag s (s.length+1) 0;have Ol:=Ph (o:=m.o) (N:=m.N) (tags:=m.tags) s;have Yi:=h.of;have alh:=aj_ hk;have aip:=λ(p:PS) hp a=>adA (b:=b) hk (p:=p) hp (a:=a);have OG:=hk.ofs;have htT:=hk.tT;obtain⟨ao,co,rfl,zv,Be,ho3⟩:=Yi;unfold lq;rw[show l_ m.o m.N m.tags s (s.length+1) 0=wD m.o m.N m.tags s from I]at CS;generalize wD m.o m.N m.tags s=R at*;obtain⟨l,at',e⟩:=R;obtain rfl:=h.val;clear h hk;generalize jk m.o vn vt=PK at*;generalize hG:lp m b (l,at',e) s.length=G;refine enter (args:=[aP (km (ak ao m.of.length co) PK (jC m.g.aQ m.g.bB vp m.mode vr va vg)).toArray,str s]) (n:=102) Tryz.func8 I I I ?_;refine bZ (bx (bH I I I λg2=>aY I λg4=>?_));refine zL ?_
 repeat(first|refine GA ?_|refine gV (aJ (i:=0) aI.ty I I (kJ ji I)) ?_)
 refine aT (lz aF.en I I) (λw hm=>hrt _ hm.below) I I I ?_;intro _ _;refine zL ?_
 repeat(first|refine GA ?_|refine gV (aW (cs:=PK) aI.ty I ji (λj v h=>aD (i:=0) I (Vl ji h))) ?_)
 refine aT (gh aF.en I I I) (λw hm=>Zk _ hm.below) I I I ?_;intro vl _
 conv=>arg 8;simp only[zJ,df,ret,id_eq,G3]
 conv=>arg 7;simp only[G3]
 repeat(first|refine GA ?_|refine gV (aJ (i:=0) aI.ty I I (kJ ji I)) ?_)
 refine aT (lz aF.en I I) (λw hm=>Bb _) I I I ?_;rintro⟨g5,vq⟩ _
 conv=>arg 8;simp only[zJ,df,ret,id_eq,bgS]
 conv=>arg 7;simp only[bgS]
 try refine GA ?_
 refine aY I λg11=>?_;refine zL ?_
 repeat(first|refine GC ?_|refine gV (dW (i:=2) bM.eq I I) ?_|refine GB ?_)
 refine Qz (i:=2) I λGl cl hv q1 q2 q3=>?_;subst hv;refine iJ 59 2 ?_;obtain⟨f1,f2⟩:=Ol;dsimp only at f1 f2;have hG0:∀R,Tq m b l Ho 0 []=R->lp m b (l,at',e) s.length=match R with|(ah x,out,_,_)=>(out,x)|(aj,out,p,a)=>if e≠0 then(out,e,at')else(out++(qC m b p a).2,(qC m b p a).1,s.length):=λR h=>by subst h;rfl
 generalize hR0:Tq m b l Ho 0 []=R0 at hG0;refine tY [0,1,2,3,4,5,6] ?_;refine dZ (ι:=Nat×Nat×PS×List bJ×Value×Value) (λ(k,a,p,out,_,_)=>k<=l.length/\Tq m b (l.drop k) p a out=R0/\okP m b p/\a<=k/\out.length<=k*2001)
  (λ(k,_,_,_,_,_)=>[(1,str s),(2,aH (ah ⟨g2,0,aj⟩)),(4,aH (ah ⟨g4,0,aj⟩)),(8,ap av (at':Int)),(9,ap av e),(10,.iface (paT b) (aH (ah ⟨g5,0,aj⟩))),(11,aH (ah ⟨g11,0,aj⟩)),(38,ak (gA Gl) l.length cl),(39,ap av l.length),(40,ap av (k:Int))])
  (λ(_,a,p,out,vq,vo)=>[aK g2 (km (ak ao m.of.length co) PK (jC m.g.aQ m.g.bB vp m.mode vr va vg)).toArray 38,aK g4 #[ak aj 0 0,ap av 0,ap av 0] 45,CL (ak (gA Gl) l.length cl) l,ns g5 (ak ao m.of.length co) PK (jC m.g.aQ m.g.bB vp m.mode vr va vg) vq a 0 aE (paB b),xB b vq p,aK g11 #[vo,ap av 0,ap av 0] 45,rW vo out]) (λ(k,_,_,_,_,_)=>l.length-k) (0,0,Ho,[],vq,ak aj 0 0)
  ⟨bC _,hR0,alh,aX _,by simp⟩ ?_
 clear hR0;rintro⟨k,a,p,out,vq,vo⟩ ⟨i1,i2,i3,i4,i5⟩;dsimp only at i1 i2 i3 i4 i5⊢
 by_cases c:k<l.length
 ·obtain⟨gl,rfl⟩:∃gl,Gl=ah gl:=by
   cases Gl with
   |none=>have:=q3 I;omega
   |some gl=>exact⟨gl,rfl⟩
  obtain⟨r1,r2⟩:=CS _ (bX c);rw[dL c,Hb]at i2;have eC:=λ(W:bV) (L:List b_) (i:Nat) (hi:L[i]?=ah (CL (ak (ah ⟨gl,0,aj⟩) l.length cl) l))=>λ(j:Nat) (u:Value) (h:(mC l[k])[j]?=ah u)=>ow (W:=W) O8 hi c j u h;generalize l[k]=t at*;obtain⟨r0,fr,tt⟩:=t;dsimp only at r1 r2 eC;obtain⟨r,rfl⟩:∃r:Nat,r0=r:=⟨r0.toNat,by omega⟩;obtain⟨b1,o1,rfl,hro⟩:=ho3 J;have hr:r<m.of.length:=by omega
  have HJ:=λ(L:List b_)=>gK (L:=L) LJ hro hr 0 _ I;have hx:=OG _ (bX hr);have hox:og m ((r:Int),fr,tt)=m.of[r]:=by unfold og;rw[cH,show((r:Int),fr,tt).1.toNat=r from I,bL hr,jz]
  rw[hox]at i2;generalize m.of[r]=x at*;clear hox hro ho3 CS
  repeat(first|refine GA ?_|refine gV (aR bM.eq aI.ty I I c) ?_|refine gV (aW aI.ty I I (eC _ _ 2 I)) ?_)
  refine aY I λg13=>?_;refine zL ?_
  try refine GA ?_
  refine fR 7 (cs':=(mC ((r:Int),fr,tt)).toArray) ?_;refine zL ?_
  by_cases c1:x<0
  ·rw[if_pos c1]at i2
   repeat(first|refine GA ?_|refine gV (aw (v:=ak (ah ⟨b1,o1,aj⟩) m.of.length co) aI.ty I (aD (i:=0) I I)) ?_|refine gV (aw (v:=ap av (r:Int)) aI.ty I (aD (i:=7) I I)) ?_|refine gV (aR bM.eq aI.ty I I hr) ?_|refine gV (aw (v:=ap av x) aI.ty I (HJ _)) ?_)
   refine dq [0,1,2,3,4,5,6] ?_;exact bQ (k+1,a,p,out,vq,vo) ⟨by omega,i2,i3,by show a<=k+1;omega,by show out.length<=(k+1)*2001;omega⟩ (by show l.length-(k+1)<l.length-k;omega)
  rw[if_neg c1]at i2;obtain⟨tn,rfl⟩:∃tn:Nat,x=tn:=⟨x.toNat,by omega⟩;have hpu:=λw' B (ho:ly w B) hm=>akd g5 vq p i3 a tn J J w' B ho hm;have hgo:=uR p i3 a (tn:Int) J;generalize iL m b p a (tn:Int)=R at*;obtain⟨e1,p1,fK⟩:=R;dsimp only at i2 hgo
  repeat(first|refine GA ?_|refine gV (aw (v:=ak (ah ⟨b1,o1,aj⟩) m.of.length co) aI.ty I (aD (i:=0) I I)) ?_|refine gV (aw (v:=ap av (r:Int)) aI.ty I (aD (i:=7) I I)) ?_|refine gV (aR bM.eq aI.ty I I hr) ?_|refine gV (aw (v:=ap av (tn:Int)) aI.ty I (HJ _)) ?_)
  refine dG ([aK g2 (km (ak (ah ⟨b1,o1,aj⟩) m.of.length co) PK (jC m.g.aQ m.g.bB vp m.mode vr va vg)).toArray 38,aK g13 (mC ((r:Int),fr,tt)).toArray 111]) (.calm 0 (.calm 1 (.calm 2 (.calm 3 (.calm 4 (.calm 5 (.calm 6 (.calm 7 (.calm 8 (.calm 9 (.one 10 (.calm 11 (.calm 12 (.calm 13 (.calm 14 (.calm 15 (.done))))))))))))))))) (bY [0,7]) ?_
  repeat(first|(refine GN ?_;first|refine QW QP ?_|refine QW (aw (v:=ak (ah ⟨b1,o1,aj⟩) m.of.length co) aI.ty I (aD (i:=0) I I)) ?_|refine QW (aw (v:=ap av (r:Int)) aI.ty I (aD (i:=1) I I)) ?_|refine QW (aR bM.eq aI.ty I I hr) ?_|refine QW (aw (v:=ap av (tn:Int)) aI.ty I (HJ _)) ?_|refine QW (lA I I) ?_|refine QW (afS I (Ye b _)) ?_|refine GX ?_)|refine GW ?_)
  by_cases c2:e1=0
  ·subst c2
   obtain⟨j1,j2⟩:=hgo rfl;rw[if_neg (by simp)]at i2;rw[LY]at hpu;refine aM I (bz [3,4] [0,1,2,5,6,7] alt I I (akc (CQ b) I I (He b _)) (λw' hm hb=>hpu w' _ ((ly.self w).on hm λo h=>qh h) hb) I I I ?_);rintro⟨v1,v2⟩ _;refine zL ?_;refine aO (bY [0,5]) ?_
   try refine GW ?_
   repeat(first|refine GA ?_|refine gV (aw (v:=vo) aI.ty I (aD (i:=3) I I)) ?_)
   refine eM (i:=4) (k:=fK.length) (ys:=fK.flatMap dr) I (lT (i:=8) I) I I (ac' fK) (Ub fK) J J I λGQ=>?_;refine zL ?_
   try refine GA ?_
   refine aU (i:=4) I λhv0 jm=>bD (i:=3) I I I hv0 jm I ?_;refine zL ?_
   try refine GA ?_
   refine dq [0,1,2,6,7,3,4] ?_;exact bQ (k+1,a+1,p1,out++fK,v1,GQ) ⟨by omega,i2,j1,by show a+1<=k+1;omega,(by show(out++fK).length<=(k+1)*2001;rw[bT];omega)⟩ (by show l.length-(k+1)<l.length-k;omega) (hl:=by rw[Vt];push_cast;rfl)
  rw[if_pos c2]at i2;rw[LZ c2]at hpu;subst i2;have Yw:=hG0 _ I;rw[hG]at Yw;subst Yw;refine aM I (bz [3,4] [0,1,2,5,6,7] alt I I (akc (CQ b) I I (He b _)) (λw' hm hb=>hpu w' _ ((ly.self w).on hm λo h=>qh h) hb) I I I ?_);rintro _ _;refine zL ?_;refine aO (bY [0,5]) ?_
  try refine GW ?_
  repeat(first|refine GC ?_|refine gV (dh (b:=aB) I I (decide_eq_true c2)) ?_|refine GB ?_)
  refine TV (i:=4) I λ_ jm=>?_;refine dG ([aK g13 (mC ((r:Int),fr,tt)).toArray 111]) (.calm 0 (.calm 1 (.calm 2 (.calm 3 (.one 4 (.calm 5 (.one 6 (.done)))))))) (bY [5]) ?_
  repeat(first|refine GW ?_|(refine GN ?_;first|refine QW (aw (v:=ap av (fr:Int)) aI.ty I (aD (i:=0) I I)) ?_))
  refine aM I (bD (i:=3) I I I I I I (aO (bY [5]) ?_))
  try refine GW ?_
  refine aM I (bD (i:=3) I I I I I I (aO (bY [5]) ?_))
  try refine GW ?_
  repeat(first|refine GA ?_|refine gV (aJ (i:=3) aI.ty I I I) ?_)
  refine aV (i:=1) (cs':=#[vo,ap av e1,ap av (fr:Int)]) I I I I (su jm) I ?_;refine zL ?_
  try refine GA ?_
  exact dH (i:=1) I I I I I λw hm=>hm.meets (S:=AP (out,e1,fr)) vo trivial [4] alt I
 ·obtain rfl:k=l.length:=by omega
  rw[ia (aX _),afU]at i2;subst i2;refine TV (i:=6) I λhv0 jm=>?_
  by_cases c3:e=0
  ·subst c3
   have Yw:=hG0 (aj,out,p,a) I;rw[hG]at Yw;dsimp only at Yw;rw[if_neg (by simp)]at Yw;subst Yw;have Kl:=λw' B (ho:ly w B) hm=>ahH g5 vq p i3 a J w' B ho hm;obtain⟨Ia,Ig⟩:=aip p i3 a;generalize qC m b p a=R at*;obtain⟨e1,fK⟩:=R
   try refine GA ?_
   by_cases c4:e1=0
   ·subst c4
    have Ia:=Ia I;dsimp only at Ia;rw[L1]at Kl;refine bz [3,4] [0,1,2,5,6] alt I I (akb (Hf b) I (JO b _)) (λw' hm hb=>Kl w' _ ((ly.self w).on hm λo h=>qh h) hb) I I I ?_;intro v2 _;refine zL ?_
    repeat(first|refine GA ?_|refine gV (aw (v:=vo) aI.ty I (aD (i:=3) I I)) ?_)
    refine eM (i:=4) (k:=fK.length) (ys:=fK.flatMap dr) I (lT (i:=6) I) I I (ac' fK) (Ub fK) J J I λGQ=>?_;refine zL ?_
    try refine GA ?_
    refine aU (i:=4) I λhv0 jm=>bD (i:=3) I I I hv0 jm I ?_;refine zL ?_
    try refine GA ?_
    refine bD (i:=3) I I I I I I ?_;refine zL ?_
    try refine GA ?_
    refine bD (i:=3) I I I I I I ?_;refine zL ?_
    repeat(first|refine GA ?_|refine gV (aJ (i:=3) aI.ty I I I) ?_)
    refine aV (i:=1) (cs':=#[GQ,ap av 0,ap av (s.length:Int)]) I I I I (su jm) I ?_;refine zL ?_
    try refine GA ?_
    exact dH (i:=1) I I I I I λw hm=>hm.meets (S:=AP ((out++fK),0,s.length)) GQ trivial [4] alt (by show[rW GQ (out++fK)]=_;rw[<-Vt];rfl)
   obtain rfl:fK=[]:=Ig c4;rw[L2 c4]at Kl;refine bz [3,4] [0,1,2,5,6] alt I I (akb (Hf b) I (JO b _)) (λw' hm hb=>Kl w' _ ((ly.self w).on hm λo h=>qh h) hb) I I I ?_;intro v2 _;refine zL ?_
   repeat(first|refine GA ?_|refine gV (aw (v:=vo) aI.ty I (aD (i:=3) I I)) ?_)
   refine rK 59 2 ?_;refine H9 [0,1,2,3,4,5,6] ?_;refine eM (i:=4) (k:=0) (ys:=[]) I (lT (i:=6) I) I I I (by simp) J J I λGQ=>?_;refine zL ?_
   try refine GA ?_
   refine aU (i:=4) I λhv0 jm=>bD (i:=3) I I I hv0 jm I ?_;refine zL ?_
   try refine GA ?_
   refine bD (i:=3) I I I I I I ?_;refine zL ?_
   try refine GA ?_
   refine bD (i:=3) I I I I I I ?_;refine zL ?_
   repeat(first|refine GA ?_|refine gV (aJ (i:=3) aI.ty I I I) ?_)
   refine aV (i:=1) (cs':=#[GQ,ap av e1,ap av (s.length:Int)]) I I I I (su jm) I ?_;refine zL ?_
   try refine GA ?_
   exact dH (i:=1) I I I I I λw hm=>hm.meets (S:=AP ((out++[]),e1,s.length)) GQ trivial [4] alt (by show[rW GQ (out++[])]=_;rw[fj];rfl)
  repeat(first|refine GC ?_|refine gV (dh (b:=aB) I I (decide_eq_true c3)) ?_|refine GB ?_)
  refine bD (i:=5) I I I I I I ?_;refine zL ?_
  try refine GA ?_
  refine bD (i:=5) I I I I I I ?_;refine zL ?_
  repeat(first|refine GA ?_|refine gV (aJ (i:=5) aI.ty I I I) ?_)
  refine aV (i:=1) (cs':=#[vo,ap av e,ap av (at':Int)]) I I I I (su jm) I ?_;refine zL ?_
  try refine GA ?_
  have Yw:=hG0 (aj,out,p,a) I;rw[hG]at Yw;dsimp only at Yw;rw[if_pos c3]at Yw;subst Yw;exact dH (i:=1) I I I I I λw hm=>hm.meets (S:=AP (out,e,at')) vo trivial [6] alt I
theorem afV{o:Of}{N:List (List Int)}{tags:List Int}{s:List UInt8}(h:sj o N tags=0)(hs:2000<s.length):Dd o N tags s=([],0,2):=by
 unfold Dd;rw[if_neg (by rw[h];simp),if_pos hs]
theorem Pv(w:World):(da 45 (#[]:Array (Nat×Value))).run aC w= .ok (aP #[ak aj 0 0,ap av 0,ap av 0]) w:=by kernel_rfl
attribute [local irreducible] Instr.build in
set_option maxRecDepth 100000 in
theorem L7(x:Value)(m:Md){vo vn vt vp vr va vg:Value}(s:List UInt8)(w:World)(h:JC w x m vo vn vt vp vr va vg)(hk:MdGood m)(hs:2000<s.length)(hs2:s.length<=9223372036854775807):
 Calls aC 8 #[x,str s] w (cJ (ret (.tuple #[aP #[ak aj 0 0,ap av 0,ap av 0],ap av 2])) w):=by
 have ji:(jk m.o vn vt).length=258:=iE _ _ _;have hrt:=λw' (hw:Gr w w')=>AH x m w' (h.gr hw) hk;obtain rfl:=h.val;clear h hk;generalize jk m.o vn vt=PK at*;refine enter (args:=[aP (km vo PK (jC m.g.aQ m.g.bB vp m.mode vr va vg)).toArray,str s]) (n:=102) Tryz.func8 I I I ?_;refine bZ (bx (bH I I I λg2=>aY I λg4=>?_));refine zL ?_
 repeat(first|refine GA ?_|refine gV (aJ (i:=0) aI.ty I I (kJ ji I)) ?_)
 refine aT (lz aF.en I I) (λw hm=>hrt _ hm.below) I I I ?_;intro _ _;refine zL ?_;have zm:=Pv
 try refine GA ?_
 refine dy (aZ I (λw=>zm w)) I I I ?_
 try refine GA ?_
 refine fR 1 (cs':=#[ak aj 0 0,ap av 0,ap av 0]) ?_;refine zL ?_
 try refine GA ?_
 exact dH (i:=1) I I I I I λw hm=>hm.ret
def VG(m:Md)(X:List Tok×Nat×Int):Spec (Value×Value):=⟨λ_=>True,λx=> .tuple #[x.1,x.2,.bool (decide (X.2.2≠0))],λx=>[bm 3 1 x.1 (iD m X.1).length ((iD m X.1).map (.int .i64)),bm 3 1 x.2 (n0 m X.1).length ((n0 m X.1).map (.int .i64))]⟩
theorem Yf{m:Md}{l:List Tok}{k:Nat}(hk:k<l.length):oI m (l.take (k+1))=if 0<=og m l[k]then oI m (l.take k)++[l[k]]else oI m (l.take k):=by
 unfold oI;rw[ic hk,List.filter_append]
 by_cases c:0<=og m l[k]
 rw[if_pos c,List.filter_cons_of_pos (by simpa using c),adz];rw[if_neg c,List.filter_cons_of_neg (by simpa using c),adz,fj]
theorem afW{m:Md}{l:List Tok}{k:Nat}:(oI m (l.take k)).length<=k:=eL (List.length_filter_le _ _) (by rw[jr];omega)
theorem Yg(m:Md)(l:List Tok):(iD m l).length=(oI m l).length:=dY ..
theorem Tv(m:Md)(l:List Tok):(n0 m l).length=(oI m l).length:=dY ..
set_option maxRecDepth 100000 in
theorem L8(x:Value)(m:Md){vo vn vt vp vr va vg:Value}(s:List UInt8)(w:World)(h:JC w x m vo vn vt vp vr va vg)(hk:MdGood m)(hs:s.length<=9223372036854775807):
 Calls aC 9 #[x,str s] w (cJ (VG m (Dd m.o m.N m.tags s)) w):=by
 have ji:(jk m.o vn vt).length=258:=iE _ _ _;have Zk:=λw' (hw:Gr w w')=>JI m.o vn vt m.N m.tags s w' (h.pk.gr hw) hk.byte hs;rw[show PF m.o vn vt=aP (jk m.o vn vt).toArray from I]at Zk;have CS:(∀t∈(Dd m.o m.N m.tags s).1,0<=t.1/\t.1<(m.of.length:Int))/\(Dd m.o m.N m.tags s).1.length<=2000:=by
  by_cases c:2000<s.length
  rw[afV hk.lZ c];exact⟨λt ht=>(by cases ht),by simp⟩;rw[DQ hk.lZ J];have:=(Ph (o:=m.o) (N:=m.N) (tags:=m.tags) s).1;exact⟨tH (by have:=hk.some;omega) hk.tag s (s.length+1) 0,by omega⟩
 have HJ:=h.of;have OG:=hk.ofs;generalize Dd m.o m.N m.tags s=X at*;obtain⟨l,at',e⟩:=X;obtain⟨hr,hl⟩:=CS;obtain⟨ao,co,rfl,zv,Be,ho3⟩:=HJ;unfold maxLen at Be;obtain rfl:=h.val;clear h hk;generalize jk m.o vn vt=PK at*;dsimp only at hr hl;refine enter (args:=[aP (km (ak ao m.of.length co) PK (jC m.g.aQ m.g.bB vp m.mode vr va vg)).toArray,str s]) (n:=52) Tryz.func9 I I I ?_;refine bZ (bx (bH I I I λg2=>?_));refine zL ?_
 repeat(first|refine GA ?_|refine gV (aW (cs:=PK) aI.ty I ji (λj v h=>aD (i:=0) I (Vl ji h))) ?_)
 refine aT (gh aF.en I I I) (λw hm=>Zk _ hm.below) I I I ?_;intro vl _
 conv=>arg 8;simp only[zJ,df,ret,id_eq,G3]
 conv=>arg 7;simp only[G3]
 repeat(first|refine GC ?_|refine gV (dW (i:=1) bM.eq I I) ?_|refine GB ?_)
 refine Qz (i:=1) I λGl cl hv q1 q2 q3=>?_;subst hv;refine iJ 3 1 (iJ 3 1 ?_);refine dZ (ι:=Nat×Value×Value) (λ(k,_,_)=>k<=l.length) (λ(k,v4,v5)=>[(2,aH (ah ⟨g2,0,aj⟩)),(4,v4),(5,v5),(9,ap av e),(20,ak (gA Gl) l.length cl),(21,ap av l.length),(22,ap av (k:Int))])
  (λ(k,v4,v5)=>[aK g2 (km (ak ao m.of.length co) PK (jC m.g.aQ m.g.bB vp m.mode vr va vg)).toArray 38,CL (ak (gA Gl) l.length cl) l,bm 3 1 v4 (iD m (l.take k)).length ((iD m (l.take k)).map (.int .i64)),bm 3 1 v5 (n0 m (l.take k)).length ((n0 m (l.take k)).map (.int .i64))]) (λ(k,_,_)=>l.length-k) (0,ak aj 0 0,ak aj 0 0) (bC _) ?_
 rintro⟨k,v4,v5⟩ i1;dsimp only at i1⊢
 by_cases c:k<l.length
 ·obtain⟨gl,rfl⟩:∃gl,Gl=ah gl:=by
   cases Gl with
   |none=>have:=q3 I;omega
   |some gl=>exact⟨gl,rfl⟩
  have eC:=λ(W:bV) (L:List b_) (i:Nat) (hi:L[i]?=ah (CL (ak (ah ⟨gl,0,aj⟩) l.length cl) l))=>λ(j:Nat) (u:Value) (h:(mC l[k])[j]?=ah u)=>ow (W:=W) O8 hi c j u h;obtain⟨r1,r2⟩:=hr _ (bX c);have hkt:=Yf (m:=m) c;have ZT:=afW (m:=m) (l:=l) (k:=k);have hw1:(iD m (l.take k)).length<=2000:=by rw[Yg];omega
  have hw2:(n0 m (l.take k)).length<=2000:=by rw[Tv];omega
  generalize l[k]=t at*;obtain⟨r0,fr,tt⟩:=t;dsimp only at r1 r2 eC;obtain⟨r,rfl⟩:∃r:Nat,r0=r:=⟨r0.toNat,by omega⟩;obtain⟨b1,o1,rfl,hro⟩:=ho3 J;have uz:r<m.of.length:=by omega
  have HJ:=λ(L:List b_)=>gK (L:=L) LJ hro uz 0 _ I;have hox:og m ((r:Int),fr,tt)=m.of[r]:=by unfold og;rw[cH,show((r:Int),fr,tt).1.toNat=r from I,bL uz,jz]
  have hxx:=OG _ (bX uz);rw[<-hox]at HJ hxx;generalize hx:og m ((r:Int),fr,tt)=x at*;clear hox hro ho3
  repeat(first|refine GA ?_|refine gV (aR bM.eq aI.ty I I c) ?_|refine gV (aW aI.ty I I (eC _ _ 1 I)) ?_)
  refine aY I λg11=>?_;refine zL ?_
  try refine GA ?_
  refine fR 4 (cs':=(mC ((r:Int),fr,tt)).toArray) ?_;refine zL ?_
  by_cases c1:0<=x
  ·rw[if_pos c1]at hkt
   have e1:iD m (l.take (k+1))=iD m (l.take k)++[x]:=by unfold iD;rw[hkt,eK,<-hx];rfl
   have e2:n0 m (l.take (k+1))=n0 m (l.take k)++[(fr:Int)]:=by unfold n0;rw[hkt,eK];rfl
   repeat(first|refine GA ?_|refine gV (aw (v:=ak (ah ⟨b1,o1,aj⟩) m.of.length co) aI.ty I (aD (i:=0) I I)) ?_|refine gV (aw (v:=ap av (r:Int)) aI.ty I (aD (i:=4) I I)) ?_|refine gV (aR bM.eq aI.ty I I uz) ?_|refine gV (aw (v:=ap av x) aI.ty I (HJ _)) ?_)
   refine kf (i:=2) I I I I I I (λz h=>by cases h;rfl) J J I λz1 w1=>?_;refine zL ?_
   repeat(first|refine GA ?_|refine gV (aw (v:=ap av (fr:Int)) aI.ty I (aD (i:=4) I I)) ?_)
   refine kf (i:=3) I I I I I I (λz h=>by cases h;rfl) J J I λz2 w2=>?_;refine zL ?_
   try refine GA ?_
   refine dq [0,1,2,3] ?_;exact bQ (k+1,w1,w2) (by show k+1<=l.length;omega) (by show l.length-(k+1)<l.length-k;omega) (hl:=by dsimp only;rw[e1,e2,eK,eK,bT,bT];rfl)
  rw[if_neg c1]at hkt;have e1:iD m (l.take (k+1))=iD m (l.take k):=by unfold iD;rw[hkt]
  have e2:n0 m (l.take (k+1))=n0 m (l.take k):=by unfold n0;rw[hkt]
  repeat(first|refine GA ?_|refine gV (aw (v:=ak (ah ⟨b1,o1,aj⟩) m.of.length co) aI.ty I (aD (i:=0) I I)) ?_|refine gV (aw (v:=ap av (r:Int)) aI.ty I (aD (i:=4) I I)) ?_|refine gV (aR bM.eq aI.ty I I uz) ?_|refine gV (aw (v:=ap av x) aI.ty I (HJ _)) ?_)
  refine dq [0,1,2,3] ?_;exact bQ (k+1,v4,v5) (by show k+1<=l.length;omega) (by show l.length-(k+1)<l.length-k;omega) (hl:=by dsimp only;rw[e1,e2];rfl)
 ·obtain rfl:k=l.length:=by omega
  rw[gD (aX _)]
  repeat(first|refine GC ?_|refine gV (dh (b:=decide (e≠0)) I I I) ?_|refine GB ?_)
  exact mW I I I I λw hm=>hm.meets (S:=VG m (l,at',e)) (v4,v5) trivial [2,3] alt I
theorem sv{L:List b_}{R:List Nat}{o:b_}(h:o∈R.filterMap λi=>L[i]?):o∈L:=by
 obtain⟨i,_,hi⟩:=List.mem_filterMap.1 h;exact kr hi
set_option maxRecDepth 100000 in
theorem wJ(w0:World)(t n:Int)(vp:Value)(az:List aL.Prod)(hG:jO oB (λk=>k<w0.heap.size) w0 vp az){α:Type}(O1 O2:α->Value->b_)(X1 X2 X3:b_)(step:α->zT->α)(len:α->Nat)(fa fb fl:FuncId)(a1 a2 b1 b2 l1 l2:Array Value)(ea:Enters aC fa)(eb:Enters aC fb)(el:Enters aC fl)
 (hA:∀s z p w B,len s<=100000->Mem B [O1 s z,O2 s z,X1,X2,X3] w->Calls aC fa (a1++#[ap av p]++a2) w (dz ⟨λ(_:Value)=>True,λ_=> .tuple #[],λz'=>[O1 (step s (.ahead p)) z',O2 (step s (.ahead p)) z',X1,X2,X3]⟩ B))
 (hB:∀s z p w B,len s<=100000->Mem B [O1 s z,O2 s z,X1,X2,X3] w->Calls aC fb (b1++#[ap av p]++b2) w (dz ⟨λ(_:Value)=>True,λ_=> .tuple #[],λz'=>[O1 (step s (.behind p)) z',O2 (step s (.behind p)) z',X1,X2,X3]⟩ B))
 (hL:∀s z p q w B,len s<=100000->Mem B [O1 s z,O2 s z,X1,X2,X3] w->Calls aC fl (l1++#[ap av p,ap av q]++l2) w (dz ⟨λ(_:Value)=>True,λ_=> .tuple #[],λz'=>[O1 (step s (.leaf p q)) z',O2 (step s (.leaf p q)) z',X1,X2,X3]⟩ B))
 (hlen:∀s x,len (step s x)<=len s+1):∀(N:Nat) (tr:Tree),size tr<=N->∀(vt:Value) (x:bJ) (u:Nat) (s:α) (z:Value) (w:World) (B:bV),xN (λk=>k<w0.heap.size) w0 vt tr->dm az tr x u->0<=tr.prod->len s+(dB az tr).length<=100000->ly w0 B->Mem B [O1 s z,O2 s z,X1,X2,X3] w->
 Calls aC 38 #[du t n vp,vt,.func (.func fa) a1 a2,.func (.func fb) b1 b2,.func (.func fl) l1 l2] w (dz ⟨λ(_:Value)=>True,λ_=> .tuple #[],λz'=>[O1 ((dB az tr).foldl step s) z',O2 ((dB az tr).foldl step s) z',X1,X2,X3]⟩ B)
 |0,tr,h,_,_,_,_,_,_,_,_,_,_,_,_,_=>by have:=size_pos tr;omega
 | N + 1,.mk p k kids,hN,vt,x,u,s,z,w,B,hv,hR,hp0,ua,ho,hm=>by
  have IH:=wJ w0 t n vp az hG O1 O2 X1 X2 X3 step len fa fb fl a1 a2 b1 b2 l1 l2 ea eb el hA hB hL hlen N;obtain⟨vk,rfl,aht,ZV,Ik⟩:=hv;dsimp only[Tree.prod,Tree.tok,Tree.kids]at aht ZV Ik hp0⊢;obtain⟨bk,ck,rfl,fS,Il,MJ⟩:=Ik;unfold maxLen at Il;rw[size]at hN;rw[dm]at hR;rw[dB]at ua⊢;obtain⟨r1,r2,r3,r4,r5,r6⟩:x.1≠1/\0<=p/\p<(az.length:Int)/\(a_ az p).1=x.2/\k=0/\b9 az kids (a_ az p).2 u:=by
   rcases hR with⟨_,h,_⟩|h
   omega;exact h
  clear hR;obtain⟨pn,rfl⟩:∃pn:Nat,p=pn:=⟨p.toNat,by omega⟩;have c6:pn<az.length:=by omega
  obtain⟨bp,cp,rfl,MV,Cg,mQ⟩:=hG;unfold maxLen at Cg;obtain⟨b,off,rfl,_,hr⟩:=mQ J;obtain⟨bb,cb,q1,q2,q3⟩:=jp hr c6;rw[I4 c6]at r4 r6 ua⊢;have eC:∀(L:List b_) (j:Nat) (v:Value),([ap av az[pn].1,.slice bb az[pn].2.length cb]:List Value)[j]?=ah v->At B L ⟨b,off+pn*2+j,aj⟩ v:=λL j v hj=>eY ho (q1 j v hj);have tU:=q3.flat alt;clear hr mQ q1 q3 q2;generalize az[pn]=pd at*;obtain⟨hd,body⟩:=pd;dsimp only at*;have pj:=λL=>eC L 1 _ I;clear eC;obtain⟨b2',cb2,he,hb4,Yi,Yo⟩:=tU;simp only[kq,true_and]at he;obtain⟨rfl,rfl⟩:=he;unfold maxLen at Yi;have ZT:=nI r6;have q9:=I5 r6;refine dT hm (args:=[du t n (ak (ah ⟨b,off,aj⟩) az.length cp),fT (pn:Int) k (ak bk kids.length ck),.func (.func fa) a1 a2,.func (.func fb) b1 b2,.func (.func fl) l1 l2]) (n:=53) Tryz.func38 I I I ?_;clear hm;refine bZ (bx (bH I I I λg5=>bH I I I λg6=>?_));refine zL ?_
  repeat(first|refine GA ?_|refine gV (aw aI.ty I (aD (i:=6) I I)) ?_)
  refine bz [0,1,2,3,4] [5,6] alt I I (sD ea I I) (λw hm hb=>hA s z _ w _ J hb) I I I ?_;intro z1 _;refine zL ?_
  repeat(first|refine GA ?_|refine gV (aw aI.ty I (aD (i:=1) I I)) ?_)
  rw[rh]at*;have Ia:=hlen s (.ahead (pn:Int));rw[dj]at ua;generalize step s (.ahead (pn:Int))=s1 at*;generalize jh:(jx az kids body++[zT.behind (pn:Int)]).foldl step s1=fin;refine dZ (ι:=Nat×α×Value) (λ(i,a,_)=>i<=kids.length/\len a+(jx az (kids.drop i) (body.drop i)++[zT.behind (pn:Int)]).length<=100000/\(jx az (kids.drop i) (body.drop i)++[zT.behind (pn:Int)]).foldl step a=fin) (λ(i,_,_)=>[(2,.func (.func fa) a1 a2),(3,.func (.func fb) b1 b2),(4,.func (.func fl) l1 l2),(5,aH (ah ⟨g5,0,aj⟩)),(6,aH (ah ⟨g6,0,aj⟩)),(17,ak bk kids.length ck),(18,ap av kids.length),(19,ap av (i:Int))])
   (λ(_,a,z)=>[aK g5 (du t n (ak (ah ⟨b,off,aj⟩) az.length cp)).cells 33,aK g6 (fT (pn:Int) k (ak bk kids.length ck)).cells 52,O1 a z,O2 a z,X1,X2,X3]) (λ(i,_,_)=>kids.length-i) (0,s1,z1) ⟨bC _,by rw[B3,B3];omega,jh⟩ ?_
  clear jh ua Ia;rintro⟨i,a,z'⟩ ⟨i1,i2,i3⟩;dsimp only at i1 i2 i3⊢
  by_cases c7:i<kids.length
  ·obtain⟨bk2,abn,rfl,_,abo⟩:=MJ J
   obtain⟨kb,kc,y1,y2⟩:=abm abo c7;have c8:i<body.length:=by omega
   obtain⟨b3,HD,rfl,xG⟩:=Yo J;obtain⟨uu,Yl⟩:=q9 i c7 c8;rw[dL c7,dL c8]at i2 i3;have ahu:∀(L:List b_) (j:Nat) (v:Value),([ap av kids[i].prod,ap av kids[i].tok,.slice kb kids[i].kids.length kc]:List Value)[j]?=ah v->At B L ⟨bk2,abn+i*3+j,aj⟩ v:=λL j v hj=>eY ho (y1 j v hj);have C2:=λL=>pI (W:=B) (L:=L) kh (λq x hq=>eY ho (xG q x hq)) c8;have ahv:size kids[i]<=N:=by have:=EP kids i c7;omega
   have Yp:=IH kids[i] ahv;clear MJ abo Yo xG y1 IH q9;generalize kids[i]=kt at*;generalize body[i]=y at*;have Yp:=Yp (fT kt.prod kt.tok (ak kb kt.kids.length kc)) y uu a z';obtain⟨kp,kk,kk2⟩:=kt;dsimp only[Tree.prod,Tree.tok,Tree.kids]at*;obtain⟨yq,ym⟩:=y;rw[jx]at i2 i3
   repeat(first|refine GA ?_|refine gV (aR bM.eq aI.ty I I c7) ?_|refine gV (aW aI.ty I I (ahu _)) ?_)
   refine aY I λg11=>?_
   try refine GA ?_
   refine fR 7 ?_;refine zL ?_
   by_cases c9:kp<0
   ·rw[if_pos c9]at i2 i3
    have Ig:=hlen a (.leaf ym kk);simp only[List.cons_append,fD,rh,dj]at i2 i3
    repeat(first|refine GA ?_|refine gV (aw aI.ty I (aD (i:=7) I I)) ?_)
    refine dG ([aK g5 (du t n (ak (ah ⟨b,off,aj⟩) az.length cp)).cells 33,aK g6 (fT (pn:Int) k (ak (ah ⟨bk2,abn,aj⟩) kids.length ck)).cells 52,aK g11 #[ap av kp,ap av kk,ak kb kk2.length kc] 52]) (.calm 0 (.calm 1 (.calm 2 (.calm 3 (.calm 4 (.calm 5 (.calm 6 (.calm 7 (.calm 8 (.calm 9 (.calm 10 (.calm 11 (.calm 12 (.calm 13 (.one 14 (.done)))))))))))))))) (bY [0,1,7]) ?_
    repeat(first|refine GW ?_|(refine GN ?_;first|refine QW (aw aI.ty I (aD (i:=0) I I)) ?_|refine QW (aw aI.ty I (aD (i:=1) I I)) ?_|refine QW (aw aI.ty I (aD (i:=2) I I)) ?_|refine QW (aR bM.eq aI.ty I I c6) ?_|refine QW (aw aI.ty I (pj _)) ?_|refine QW (aR bM.eq aI.ty I I c8) ?_|refine QW (aw aI.ty I (C2 _ 1 _ I)) ?_))
    refine aM I ?_;refine bz [2,3,4,5,6] [0,1,7] alt I I (akF el I I I) (λw hm hb=>hL a z' _ _ w _ J hb) I I I ?_;intro z2 _;refine zL ?_;refine aO (bY [0,1,2]) ?_
    try refine GW ?_
    try refine GA ?_
    refine dq [0,1,3,4,5,6,7] ?_;exact bQ (i+1,step a (.leaf ym kk),z2) ⟨by omega,by dsimp only;omega,i3⟩ (by show kids.length-(i+1)<kids.length-i;omega)
   rw[if_neg c9]at i2 i3;rw[eu,List.foldl_append]at i3;rw[eu,bT]at i2;have tU:len ((dB az (.mk kp kk kk2)).foldl step a)<=len a+(dB az (.mk kp kk kk2)).length:=by
    have:∀(l:List zT) (a:α),len (l.foldl step a)<=len a+l.length:=by
     intro l
     induction l with
     |nil=>intro a;simp
     |cons y r ih=>intro a;rw[rh,dj];have:=ih (step a y);have:=hlen a y;omega
    exact this _ a
   have Yp:=λw' B' Hs pg=>Yp w' B' y2 Yl J J Hs pg;generalize (dB az (.mk kp kk kk2)).foldl step a=a' at*
   repeat(first|refine GA ?_|refine gV (aw aI.ty I (aD (i:=7) I I)) ?_|refine gV (aJ (i:=0) aI.ty I I I) ?_|refine gV (aJ (i:=7) aI.ty I I I) ?_)
   refine bz [2,3,4,5,6] [0,1,7] alt I I (he5 aF.en I I I I I I) (λw hm hb=>Yp w _ (ho.on hm λo h=>sv h) hb) I I I ?_;intro z2 _;refine zL ?_
   try refine GA ?_
   refine dq [0,1,3,4,5,6,7] ?_;exact bQ (i+1,a',z2) ⟨by omega,by dsimp only;omega,i3⟩ (by show kids.length-(i+1)<kids.length-i;omega)
  have e1:jx az (kids.drop i) (body.drop i)=[]:=by rw[ia J,jx]
  rw[e1]at i2 i3;simp only[fD,rh,List.foldl_nil,dj,nG]at i2 i3;subst i3
  repeat(first|refine GA ?_|refine gV (aw aI.ty I (aD (i:=1) I I)) ?_)
  refine bz [2,3,4,5,6] [0,1] alt I I (sD eb I I) (λw hm hb=>hB a z' _ w _ J hb) I I I ?_;intro z2 _;refine zL ?_
  try refine GA ?_
  exact oO I λw hm=>hm.cg (S:=⟨λ(_:Value)=>True,λ_=> .tuple #[],λz'=>[O1 (step a (.behind (pn:Int))) z',O2 (step a (.behind (pn:Int))) z',X1,X2,X3]⟩) z2 trivial [2,3,4,5,6] alt I
end cB
namespace cB
open Go.RowKit cL dV aL dI
instance:aI aC 127 aE 1:={}
instance:eH aC 127 #[.nilFunc]:={}
theorem Pw(k q:Int)(w:World):(da 59 #[(0,ap av k),(1,ap av q)]).run aC w= .ok (aP #[ap av k,ap av q]) w:=by
 go_simp
def Px(g:Nat)(_:List bJ)(z:Value):b_:=aK g #[z] 43
def Py(s:List bJ)(z:Value):b_:=bm 59 2 z s.length (s.flatMap dr)
def eS(l:List bJ):Spec Value:=df 59 2 l.length (l.flatMap dr) λv=> .tuple #[v,ap av 0]
theorem rF(g gb:Nat)(kind n:Int)(s:List bJ)(z:Value)(w:World)(B:bV)(Y1 Y2 Y3:b_)(i:Nat)(hi:∀a b,([a,b,Y1,Y2,Y3]:List b_)[i]?=ah (aK gb #[ap av kind] 3))(hs:s.length<=100000)(hm:Mem B [Px g s z,Py s z,Y1,Y2,Y3] w):
 Calls aC 37 #[ap av n,aH (ah ⟨g,0,aj⟩),aH (ah ⟨gb,0,aj⟩)] w (dz ⟨λ(_:Value)=>True,λ_=> .tuple #[],λz'=>[Px g (s++[(kind,n)]) z',Py (s++[(kind,n)]) z',Y1,Y2,Y3]⟩ B):=by
 refine dT hm (args:=[ap av n,aH (ah ⟨g,0,aj⟩),aH (ah ⟨gb,0,aj⟩)]) (n:=10) Tryz.func37 I I I ?_
 repeat(first|refine GA ?_|refine gV (aw aI.ty I (aD (i:=0) I I)) ?_|refine gV (aw aI.ty I (aD (i:=i) (hi _ _) I)) ?_|refine gV (aZ I (Pw _ _)) ?_)
 refine iU (i:=1) I I I I I I I (λz h=>by cases h;rfl) J J I λz' v'=>?_;refine zL ?_;refine aU (i:=1) I λjm mz=>?_;refine bD (i:=0) I I I jm mz I ?_;refine zL ?_
 try refine GA ?_
 exact oO I λw hm=>hm.cg (S:=⟨λ(_:Value)=>True,λ_=> .tuple #[],λz'=>[Px g (s++[(kind,n)]) z',Py (s++[(kind,n)]) z',Y1,Y2,Y3]⟩) v' trivial [0,1,2,3,4] alt (by simp[Px,Py,dr])
theorem qv(g:Nat)(kind:Int)(w:World):Calls aC 36 #[ap av kind,aH (ah ⟨g,0,aj⟩)] w (cJ ⟨λ(_:Nat)=>True,λgb=> .func (.func 37) #[] #[aH (ah ⟨g,0,aj⟩),aH (ah ⟨gb,0,aj⟩)],λgb=>[aK gb #[ap av kind] 3]⟩ w):=by
 refine enter (args:=[ap av kind,aH (ah ⟨g,0,aj⟩)]) (n:=5) Tryz.func36 I I I ?_;refine bZ (bx (bH I I I λgb=>?_));refine zL ?_
 repeat(first|refine GA ?_|refine gV (lA I I) ?_)
 exact cV I I λw hm=>hm.meets (S:=⟨λ(_:Nat)=>True,λgb=> .func (.func 37) #[] #[aH (ah ⟨g,0,aj⟩),aH (ah ⟨gb,0,aj⟩)],λgb=>[aK gb #[ap av kind] 3]⟩) gb trivial [0] alt I
theorem Hg(g g8:Nat)(p q:Int)(s:List bJ)(z:Value)(w:World)(B:bV)(Y2 Y3:b_)(hs:s.length<=100000)(hm:Mem B [Px g s z,Py s z,aK g8 #[.func (.func 36) #[] #[aH (ah ⟨g,0,aj⟩)]] 127,Y2,Y3] w):
 Calls aC 39 #[ap av p,ap av q,aH (ah ⟨g8,0,aj⟩)] w (dz ⟨λ(_:Value)=>True,λ_=> .tuple #[],λz'=>[Px g (s++[(2,q)]) z',Py (s++[(2,q)]) z',aK g8 #[.func (.func 36) #[] #[aH (ah ⟨g,0,aj⟩)]] 127,Y2,Y3]⟩ B):=by
 refine dT hm (args:=[ap av p,ap av q,aH (ah ⟨g8,0,aj⟩)]) (n:=9) Tryz.func39 I I I ?_
 repeat(first|refine GA ?_|refine gV (aw aI.ty I (aD (i:=2) I I)) ?_)
 refine aT (sD aF.en I I) (λw hm=>qv g 2 w) I I I ?_;intro gb _;refine zL ?_
 try refine GA ?_
 refine bz [0,1,5,2,3] [4] alt I I (sD aF.en I I) (λw hm hb=>rF g gb 2 q s z w _ _ _ _ 2 (λ_ _=>rfl) hs hb) I I I ?_;intro z' _;refine zL ?_
 try refine GA ?_
 exact oO I λw hm=>hm.cg (S:=⟨λ(_:Value)=>True,λ_=> .tuple #[],λz'=>[Px g (s++[(2,q)]) z',Py (s++[(2,q)]) z',aK g8 #[.func (.func 36) #[] #[aH (ah ⟨g,0,aj⟩)]] 127,Y2,Y3]⟩) z' trivial [1,2,4,5,0] alt I
theorem CT(g gb:Nat)(kind n:Int)(s:List bJ)(z:Value)(w:World)(B:bV)(Y1 Y2 Y3:b_)(i:Nat)(hi:∀a b,([a,b,Y1,Y2,Y3]:List b_)[i]?=ah (aK gb #[ap av kind] 3))(hs:s.length<=100000)(hm:Mem B [Px g s z,Py s z,Y1,Y2,Y3] w):
 Calls aC 41 #[ap av n,aH (ah ⟨g,0,aj⟩),aH (ah ⟨gb,0,aj⟩)] w (dz ⟨λ(_:Value)=>True,λ_=> .tuple #[],λz'=>[Px g (s++[(kind,n)]) z',Py (s++[(kind,n)]) z',Y1,Y2,Y3]⟩ B):=by
 refine dT hm (args:=[ap av n,aH (ah ⟨g,0,aj⟩),aH (ah ⟨gb,0,aj⟩)]) (n:=10) Tryz.func41 I I I ?_
 repeat(first|refine GA ?_|refine gV (aw aI.ty I (aD (i:=0) I I)) ?_|refine gV (aw aI.ty I (aD (i:=i) (hi _ _) I)) ?_|refine gV (aZ I (Pw _ _)) ?_)
 refine iU (i:=1) I I I I I I I (λz h=>by cases h;rfl) J J I λz' v'=>?_;refine zL ?_;refine aU (i:=1) I λjm mz=>?_;refine bD (i:=0) I I I jm mz I ?_;refine zL ?_
 try refine GA ?_
 exact oO I λw hm=>hm.cg (S:=⟨λ(_:Value)=>True,λ_=> .tuple #[],λz'=>[Px g (s++[(kind,n)]) z',Py (s++[(kind,n)]) z',Y1,Y2,Y3]⟩) v' trivial [0,1,2,3,4] alt (by simp[Px,Py,dr])
theorem AQ(g:Nat)(kind:Int)(w:World):Calls aC 40 #[ap av kind,aH (ah ⟨g,0,aj⟩)] w (cJ ⟨λ(_:Nat)=>True,λgb=> .func (.func 41) #[] #[aH (ah ⟨g,0,aj⟩),aH (ah ⟨gb,0,aj⟩)],λgb=>[aK gb #[ap av kind] 3]⟩ w):=by
 refine enter (args:=[ap av kind,aH (ah ⟨g,0,aj⟩)]) (n:=5) Tryz.func40 I I I ?_;refine bZ (bx (bH I I I λgb=>?_));refine zL ?_
 repeat(first|refine GA ?_|refine gV (lA I I) ?_)
 exact cV I I λw hm=>hm.meets (S:=⟨λ(_:Nat)=>True,λgb=> .func (.func 41) #[] #[aH (ah ⟨g,0,aj⟩),aH (ah ⟨gb,0,aj⟩)],λgb=>[aK gb #[ap av kind] 3]⟩) gb trivial [0] alt I
theorem L9(g g8:Nat)(p q:Int)(s:List bJ)(z:Value)(w:World)(B:bV)(Y2 Y3:b_)(hs:s.length<=100000)(hm:Mem B [Px g s z,Py s z,aK g8 #[.func (.func 40) #[] #[aH (ah ⟨g,0,aj⟩)]] 127,Y2,Y3] w):
 Calls aC 43 #[ap av p,ap av q,aH (ah ⟨g8,0,aj⟩)] w (dz ⟨λ(_:Value)=>True,λ_=> .tuple #[],λz'=>[Px g (s++[(2,q)]) z',Py (s++[(2,q)]) z',aK g8 #[.func (.func 40) #[] #[aH (ah ⟨g,0,aj⟩)]] 127,Y2,Y3]⟩ B):=by
 refine dT hm (args:=[ap av p,ap av q,aH (ah ⟨g8,0,aj⟩)]) (n:=9) Tryz.func43 I I I ?_
 repeat(first|refine GA ?_|refine gV (aw aI.ty I (aD (i:=2) I I)) ?_)
 refine aT (sD aF.en I I) (λw hm=>AQ g 2 w) I I I ?_;intro gb _;refine zL ?_
 try refine GA ?_
 refine bz [0,1,5,2,3] [4] alt I I (sD aF.en I I) (λw hm hb=>CT g gb 2 q s z w _ _ _ _ 2 (λ_ _=>rfl) hs hb) I I I ?_;intro z' _;refine zL ?_
 try refine GA ?_
 exact oO I λw hm=>hm.cg (S:=⟨λ(_:Value)=>True,λ_=> .tuple #[],λz'=>[Px g (s++[(2,q)]) z',Py (s++[(2,q)]) z',aK g8 #[.func (.func 40) #[] #[aH (ah ⟨g,0,aj⟩)]] 127,Y2,Y3]⟩) z' trivial [1,2,4,5,0] alt I
theorem Tw(v vt:Value)(g:dD)(tr:Tree)(w:World)(h:jS (λk=>k<w.heap.size) w v g)(ht:xN (λk=>k<w.heap.size) w vt tr)(hc:nH g tr=0):
 Calls aC 11 #[v,vt] w (cJ (eS (qR g.az tr)) w):=by
 have fS:=λw' (hg:Gr w w')=>tV v vt g tr w' (h.gr hg) (ht.gr hg);rw[hc]at fS;obtain⟨c1,c2,c3,c4⟩:=pN.1 hc;obtain⟨vp,rfl,h1,_⟩:=h;have ht0:=ht;obtain⟨vk,rfl,_,_,hk4⟩:=ht;obtain⟨bk,ck,rfl,_⟩:=hk4;obtain⟨t,n,az⟩:=g;dsimp only at*;have hea:=λg7 g8 ga gb w' B ho hm=>wJ w t n vp az h1 (Px g7) Py (aK g8 #[.func (.func 36) #[] #[aH (ah ⟨g7,0,aj⟩)]] 127) (aK ga #[ap av 1] 3) (aK gb #[ap av 3] 3) Uq ky 37 37 39 #[] #[aH (ah ⟨g7,0,aj⟩),aH (ah ⟨ga,0,aj⟩)] #[] #[aH (ah ⟨g7,0,aj⟩),aH (ah ⟨gb,0,aj⟩)] #[] #[aH (ah ⟨g8,0,aj⟩)] aF.en aF.en aF.en
  (λs z p w B hs hm=>rF g7 ga 1 p s z w B _ _ _ 3 (λ_ _=>rfl) hs hm) (λs z p w B hs hm=>rF g7 gb 3 p s z w B _ _ _ 4 (λ_ _=>rfl) hs hm) (λs z p q w B hs hm=>Hg g7 g8 p q s z w B _ _ hs hm)
  (λs x=>by simp[Uq]) (size tr) tr (aX _) (fT tr.prod tr.tok (ak bk tr.kids.length ck)) (2,0) 0 [] (ak aj 0 0) w' B ht0 c2 (yS c2) (by have:=Ko az tr;simp only[nG];omega) ho hm
 rw[agc]at hea;refine enter (args:=[du t n vp,fT tr.prod tr.tok (ak bk tr.kids.length ck)]) (n:=25) Tryz.func11 I I I ?_;refine bZ (bx (bH I I I λg2=>bH I I I λg3=>?_));refine zL ?_
 repeat(first|refine GA ?_|refine gV (aJ (i:=0) aI.ty I I I) ?_|refine gV (aJ (i:=1) aI.ty I I I) ?_)
 refine aT (gh aF.en I I I) (λw hm=>fS _ hm.below) I I I ?_;intro _ _;refine zL ?_
 try refine GA ?_
 refine aY I λg7=>?_;refine zL ?_
 repeat(first|refine GA ?_|refine gV (lA I I) ?_)
 refine aY I λg8=>?_;refine bD (i:=3) I I I I I I ?_;refine zL ?_
 repeat(first|refine QV QP ?_|refine A' ?_|refine J6 ?_|refine QV QnT ?_|refine QV QnF ?_)
 (repeat refine bZ ?_)
 refine iJ 59 2 ?_
 conv=>arg 7;simp only[zA,zB,zC,zD,zE,zF,zG,zH,zI,df,ret,id_eq]
 refine dG ([aK g2 (du t n vp).cells 33,aK g3 (fT tr.prod tr.tok (ak bk tr.kids.length ck)).cells 52,aK g8 #[.func (.func 36) #[] #[aH (ah ⟨g7,0,aj⟩)]] 127]) (.calm 0 (.calm 1 (.calm 2 (.calm 4 (.calm 6 (.one 3 (.one 5 (.one 7 (.done))))))))) (bY [0,1,3]) ?_
 repeat(first|refine GW ?_|(refine GN ?_;first|refine QW (aJ (i:=0) aI.ty I I I) ?_|refine QW (aJ (i:=1) aI.ty I I I) ?_|refine QW (aw aI.ty I (aD (i:=2) I I)) ?_|refine QW (lA I I) ?_))
 refine aM I ?_;refine aT (sD aF.en I I) (λw hm=>qv g7 1 w) I I I ?_;intro ga _;refine zL ?_;refine aO (bY [0,1,3]) ?_;refine aM I ?_;refine aT (sD aF.en I I) (λw hm=>qv g7 3 w) I I I ?_;intro gb _;refine zL ?_;refine aO (bY [0,1,3]) ?_;refine aM I ?_;refine bz [2,4,3,5,6] [0,1] alt I I (he5 aF.en I I I I I I) (λw' hm hb=>hea g7 g8 ga gb w' _ ((ly.self w).on hm λo h=>sv h) hb) I I I ?_;intro z _;refine zL ?_;refine aO (bY [0,1,4]) ?_
 try refine GW ?_
 repeat(first|refine GA ?_|refine gV (aw aI.ty I (aD (i:=2) I I)) ?_)
 exact kP I I I λw hm=>hm.meets (S:=eS (qR az tr)) z trivial [3] alt I
theorem adI(v vt:Value)(g:dD)(tr:Tree)(w:World)(h:jS (λk=>k<w.heap.size) w v g)(ht:xN (λk=>k<w.heap.size) w vt tr)(hc:nH g tr=0):
 Calls aC 12 #[v,vt] w (cJ (eS (upE g.az tr)) w):=by
 have fS:=λw' (hg:Gr w w')=>tV v vt g tr w' (h.gr hg) (ht.gr hg);rw[hc]at fS;obtain⟨c1,c2,c3,c4⟩:=pN.1 hc;obtain⟨vp,rfl,h1,_⟩:=h;have ht0:=ht;obtain⟨vk,rfl,_,_,hk4⟩:=ht;obtain⟨bk,ck,rfl,_⟩:=hk4;obtain⟨t,n,az⟩:=g;dsimp only at*;have hea:=λg7 g8 ga w' B ho hm=>wJ w t n vp az h1 (Px g7) Py (aK g8 #[.func (.func 40) #[] #[aH (ah ⟨g7,0,aj⟩)]] 127) (aK ga #[ap av 4] 3) (nv (λ_=>False) (ak aj 0 0) []) IS ky 42 41 43 #[] #[] #[] #[aH (ah ⟨g7,0,aj⟩),aH (ah ⟨ga,0,aj⟩)] #[] #[aH (ah ⟨g8,0,aj⟩)] aF.en aF.en aF.en
  (λs z p w B _ hm=>HE p (λz=>[Px g7 s z,Py s z,(aK g8 #[.func (.func 40) #[] #[aH (ah ⟨g7,0,aj⟩)]] 127),(aK ga #[ap av 4] 3),(nv (λ_=>False) (ak aj 0 0) [])]) z w B hm) (λs z p w B hs hm=>CT g7 ga 4 p s z w B _ _ _ 3 (λ_ _=>rfl) hs hm) (λs z p q w B hs hm=>L9 g7 g8 p q s z w B _ _ hs hm)
  (λs x=>by cases x<;>simp[IS,evU]) (size tr) tr (aX _) (fT tr.prod tr.tok (ak bk tr.kids.length ck)) (2,0) 0 [] (ak aj 0 0) w' B ht0 c2 (yS c2) (by have:=Ko az tr;simp only[nG];omega) ho hm
 rw[Ur]at hea;refine enter (args:=[du t n vp,fT tr.prod tr.tok (ak bk tr.kids.length ck)]) (n:=23) Tryz.func12 I I I ?_;refine bZ (bx (bH I I I λg2=>bH I I I λg3=>?_));refine zL ?_
 repeat(first|refine GA ?_|refine gV (aJ (i:=0) aI.ty I I I) ?_|refine gV (aJ (i:=1) aI.ty I I I) ?_)
 refine aT (gh aF.en I I I) (λw hm=>fS _ hm.below) I I I ?_;intro _ _;refine zL ?_
 try refine GA ?_
 refine aY I λg7=>?_;refine zL ?_
 repeat(first|refine GA ?_|refine gV (lA I I) ?_)
 refine aY I λg8=>?_;refine bD (i:=3) I I I I I I ?_;refine zL ?_
 repeat(first|refine QV QP ?_|refine A' ?_|refine J6 ?_|refine QV QnT ?_|refine QV QnF ?_)
 (repeat refine bZ ?_)
 refine iJ 59 2 (oc (nv (λ_=>False) (ak aj 0 0) []) (λk hk=>hk.elim (λh=>by cases h) id) lF ?_)
 conv=>arg 7;simp only[zA,zB,zC,zD,zE,zF,zG,zH,zI,df,ret,id_eq]
 refine dG ([aK g2 (du t n vp).cells 33,aK g3 (fT tr.prod tr.tok (ak bk tr.kids.length ck)).cells 52,aK g8 #[.func (.func 40) #[] #[aH (ah ⟨g7,0,aj⟩)]] 127]) (.calm 0 (.calm 1 (.calm 2 (.calm 4 (.one 3 (.one 5 (.done))))))) (bY [0,1,3]) ?_
 repeat(first|refine GW ?_|(refine GN ?_;first|refine QW (aJ (i:=0) aI.ty I I I) ?_|refine QW (aJ (i:=1) aI.ty I I I) ?_|refine QW (aw aI.ty I (aD (i:=2) I I)) ?_|refine QW (lA I I) ?_))
 refine aM I ?_;refine aT (sD aF.en I I) (λw hm=>AQ g7 4 w) I I I ?_;intro ga _;refine zL ?_;refine aO (bY [0,1,3]) ?_;refine aM I ?_;refine bz [2,4,3,6,5] [0,1] alt I I (he5 aF.en I I I I I I) (λw' hm hb=>hea g7 g8 ga w' _ ((ly.self w).on hm λo h=>sv h) hb) I I I ?_;intro z _;refine zL ?_;refine aO (bY [0,1,4]) ?_
 try refine GW ?_
 repeat(first|refine GA ?_|refine gV (aw aI.ty I (aD (i:=2) I I)) ?_)
 exact kP I I I λw hm=>hm.meets (S:=eS (upE az tr)) z trivial [3] alt I
theorem jJ(w:World):(da 52 (#[]:Array (Nat×Value))).run aC w= .ok (fT 0 0 (ak aj 0 0)) w:=by
 unfold fT;go_simp
open eh
theorem Tz(k:Nat)(w:World):(da 52 #[(0,ap av (-1)),(1,ap av (k:Int))]).run aC w= .ok (fT (-1) (k:Int) (ak aj 0 0)) w:=NM _ _ w
def trS(gc gm gn n:Nat)(t:Int)(vp vw:Value)(c:eR)(Bd:Nat)(R:Tree×Int×Nat):Spec (Value×(Nat->Prop)):=
 ⟨λ_=>cL.dv R.1.prod/\cL.dv R.1.tok,λx=> .tuple #[fT R.1.prod R.1.tok x.1,ap av R.2.1],λx=>[aK gc (zj t (n:Int) vp vw gm) 119,xp gm c Bd,aK gn #[ap av (R.2.2:Int)] 3,nv x.2 x.1 R.1.kids]⟩
theorem adJ(gc gm gn n:Nat)(t:Int)(vp vw:Value)(c:eR)(Bd:Nat)(p q:Int)(ks:List Tree)(e:Int)(k:Nat):trS gc gm gn n t vp vw c Bd (.mk p q ks,e,k)=
 ⟨λ_=>cL.dv p/\cL.dv q,λx=> .tuple #[fT p q x.1,ap av e],λx=>[aK gc (zj t (n:Int) vp vw gm) 119,xp gm c Bd,aK gn #[ap av (k:Int)] 3,nv x.2 x.1 ks]⟩:=rfl
section
variable{P:Program}{n:Nat}{W:bV}{fr:Fr}{L:List b_}{dst:Option Tmp}{ty:TypeId}{pos:String}{after:Array Edge}{guard:Option (Nat×Bool)}{f:FuncId}{ts:Array TypeId}{cl x1 x2:Operand}{v1 v2:Value}
theorem he6{x3 x4 x5 x6:Operand}{v3 v4 v5 v6:Value}(hf:Enters P f)(hc:ev fr cl=ah (.func (.func f) #[] #[]))(h1:ev fr x1=ah v1)(h2:ev fr x2=ah v2)(h3:ev fr x3=ah v3)(h4:ev fr x4=ah v4)(h5:ev fr x5=ah v5)(h6:ev fr x6=ah v6):∀a w,mK n a fr->(execOp a.eval ⟨dst,.call {callee:= .value cl,args:=#[x1,x2,x3,x4,x5,x6],argTypes:=ts},ty,pos,after,guard⟩).run P w= .ok (.enter f #[v1,v2,v3,v4,v5,v6]) w:=λa w hr=>by
 have AR:∀args w,(callFunc f args).run P w= .ok (.enter f args) w:=hf;simp[execOp,resolve,hr.ev hc,hr.ev h1,hr.ev h2,hr.ev h3,hr.ev h4,hr.ev h5,hr.ev h6,py,invoke,AR]
end
theorem okn{k:Nat}(h:k<=9223372036854775807):cL.dv (k:Int):=⟨by show _<=(k:Int);omega,by show(k:Int)<=_;omega⟩
section
variable(w0:World)(gc gm n:Nat)(t:Int)(vp vw:Value)(word:List Int)(az:List aL.Prod)(c:eR)(Bd:Nat)
attribute [local irreducible] Instr.build in
set_option maxRecDepth 100000 in
theorem CU(hG:jO oB (λk=>k<w0.heap.size) w0 vp az)(hW:Sl w0 vw word.length (word.map (.int .i64)))(lJ:Vh n az)(hs:fY n az)(hc:AS word az n c)(hw:word.length<=20)(hlen:az.length<=40)(h8:∀p∈az,p.2.length<=8):
    ∀(f d:Nat) (x:bJ) (a b k gn:Nat) (w:World) (B:bV),f+d=101->(x.1=1\/(x.1=2/\0<=x.2/\x.2<(n:Int)))->cL.dv x.2->a<=b->b<=word.length->k<=1000->0<cD c word x a b->ly w0 B->Mem B [aK gc (zj t (n:Int) vp vw gm) 119,xp gm c Bd,aK gn #[ap av (k:Int)] 3] w->
    Calls aC 34 #[aH (ah ⟨gc,0,aj⟩),aP (dr x).toArray,ap av (a:Int),ap av (b:Int),ap av (d:Int),aH (ah ⟨gn,0,aj⟩)] w (dz (trS gc gm gn n t vp vw c Bd (hY (cD c word) az f x a b k)) B)
  | 0,d,(xq,xm),a,b,k,gn,w,B,hd,_,_,_,_,hk,_,_,hm=>by
    rw[hY];refine dT hm (args:=[aH (ah ⟨gc,0,aj⟩),aP (dr (xq,xm)).toArray,ap av (a:Int),ap av (b:Int),ap av (d:Int),aH (ah ⟨gn,0,aj⟩)]) (n:=145) Tryz.func34 I I I ?_;clear hm;refine bZ (bx (bH I I I λg7=>aY I λg12=>?_));refine zL ?_
    repeat(first|refine GC ?_|refine gV (aw aI.ty I (aD (i:=2) I I)) ?_|refine gV (dN (r:=((k+1:Nat):Int)) I I J J J) ?_|refine GB ?_)
    refine bD (i:=2) I I I I I I ?_;rw[show(#[ap av (k:Int)]:Array Value).setIfInBounds 0 (ap av ((k+1:Nat):Int))=#[ap av ((k+1:Nat):Int)]from I];refine zL ?_
    by_cases c1:1000<k+1
    · rw[if_pos c1]
      repeat(first|refine GA ?_|refine gV (aw aI.ty I (aD (i:=2) I I)) ?_|refine gV (aZ I jJ) ?_)
      refine fR 4 ?_;refine zL ?_
      try refine GA ?_
      refine jP (nv (λ_=>False) (ak aj 0 0) []) (λk hk=>hk.elim (λh=>by cases h) id) lF ?_;exact dH (i:=4) I I I I I λw hm=>hm.cg (S:=trS gc gm gn n t vp vw c Bd (.mk 0 0 [],2,k+1)) (ak aj 0 0,λ_=>False) ⟨RL,RL⟩ [0,1,2,5] alt I
    rw[if_neg c1]
    repeat(first|refine GA ?_|refine gV (aw aI.ty I (aD (i:=2) I I)) ?_|refine gV (aZ I jJ) ?_)
    refine fR 4 ?_;refine zL ?_
    try refine GA ?_
    refine jP (nv (λ_=>False) (ak aj 0 0) []) (λk hk=>hk.elim (λh=>by cases h) id) lF ?_;exact dH (i:=4) I I I I I λw hm=>hm.cg (S:=trS gc gm gn n t vp vw c Bd (.mk 0 0 [],7,k+1)) (ak aj 0 0,λ_=>False) ⟨RL,RL⟩ [0,1,2,5] alt I
  | f + 1,d,(xq,xm),a,b,k,gn,w,B,hd,hx,hx6,mE,hb,hk,h0,ho,hm=>by
    have IH:=CU hG hW lJ hs hc hw hlen h8 f (d+1);rw[hY];refine dT hm (args:=[aH (ah ⟨gc,0,aj⟩),aP (dr (xq,xm)).toArray,ap av (a:Int),ap av (b:Int),ap av (d:Int),aH (ah ⟨gn,0,aj⟩)]) (n:=145) Tryz.func34 I I I ?_;clear hm;refine bZ (bx (bH I I I λg7=>aY I λg12=>?_));refine zL ?_
    repeat(first|refine GC ?_|refine gV (aw aI.ty I (aD (i:=2) I I)) ?_|refine gV (dN (r:=((k+1:Nat):Int)) I I J J J) ?_|refine GB ?_)
    refine bD (i:=2) I I I I I I ?_;rw[show(#[ap av (k:Int)]:Array Value).setIfInBounds 0 (ap av ((k+1:Nat):Int))=#[ap av ((k+1:Nat):Int)]from I];refine zL ?_
    by_cases c1:1000<k+1
    · rw[if_pos c1]
      repeat(first|refine GA ?_|refine gV (aw aI.ty I (aD (i:=2) I I)) ?_|refine gV (aZ I jJ) ?_)
      refine fR 4 ?_;refine zL ?_
      try refine GA ?_
      refine jP (nv (λ_=>False) (ak aj 0 0) []) (λk hk=>hk.elim (λh=>by cases h) id) lF ?_;exact dH (i:=4) I I I I I λw hm=>hm.cg (S:=trS gc gm gn n t vp vw c Bd (.mk 0 0 [],2,k+1)) (ak aj 0 0,λ_=>False) ⟨RL,RL⟩ [0,1,2,5] alt I
    rw[if_neg c1];dsimp only at hx hx6
    by_cases c2:xq=1
    · rw[if_pos c2]
      repeat(first|refine GA ?_|refine gV (aw aI.ty I (aD (i:=2) I I)) ?_|refine gV (aw aI.ty I (aD (i:=3) I I)) ?_|refine gV (aZ I (Tz _)) ?_)
      refine fR 4 ?_;refine zL ?_
      try refine GA ?_
      refine jP (nv (λ_=>False) (ak aj 0 0) []) (λk hk=>hk.elim (λh=>by cases h) id) lF ?_;exact dH (i:=4) I I I I I λw hm=>hm.cg (S:=trS gc gm gn n t vp vw c Bd (.mk (-1) (a:Int) [],0,k+1)) (ak aj 0 0,λ_=>False) ⟨akG,okn J⟩ [0,1,2,5] alt I
    rw[if_neg c2];have fy:xq=2/\0<=xm/\xm<(n:Int):=hx.resolve_left c2;obtain⟨q1,q2⟩:=Nc hc fy.1 fy.2 mE hb h0;have hCh:∀w',w'.heap[gc]?=ah (.cells (zj t (n:Int) vp vw gm) 119 (0,0))->(xp gm c Bd).holds w'->Sl w' vw word.length (word.map (.int .i64))->ChR w' gc gm t (n:Int) vp vw word c Bd:=λw' h1 h2 h3=>⟨h1,h2,h3⟩;have lh:=λx a b w' h=>I9 gc gm t (n:Int) vp vw word c Bd x a b w' h;have fu:=λvb body a b w' h hs mP=>Jz gc gm t (n:Int) vp vw vb word c Bd body a b w' h hs mP hc.le2;have hG0:=hG;obtain⟨bp,cp,rfl,_,Cg,mQ⟩:=hG;unfold maxLen at Cg;obtain⟨b0,Hh,rfl,_,hr0⟩:=mQ J;clear mQ
    repeat(first|refine GA ?_|refine gV (aw aI.ty I (aD (i:=2) I I)) ?_|refine gV (aw aI.ty I (aD (i:=3) I I)) ?_|refine gV (aZ I jJ) ?_)
    refine aY I λg14=>?_;refine fR 5 ?_;refine zL ?_
    repeat(first|refine GA ?_|refine gV (aw aI.ty I (aD (i:=0) I I)) ?_)
    refine dZ (ι:=Nat) (λi=>i<=az.length) (λi=>[(0,aH (ah ⟨gc,0,aj⟩)),(2,ap av (a:Int)),(3,ap av (b:Int)),(4,ap av (d:Int)),(5,aH (ah ⟨gn,0,aj⟩)),(7,aH (ah ⟨g7,0,aj⟩)),(12,aH (ah ⟨g12,0,aj⟩)),(14,aH (ah ⟨g14,0,aj⟩)),(49,ap av az.length),(50,ap av (i:Int))])
      (λi=>[aK gc (zj t (n:Int) (ak (ah ⟨b0,Hh,aj⟩) az.length cp) vw gm) 119,xp gm c Bd,aK gn #[ap av ((k+1:Nat):Int)] 3,aK g7 (dr (xq,xm)).toArray 123,aK g12 #[ap av 0,ap av 0,ak aj 0 0] 52,aK g14 #[ap av (l8 (cD c word) az (xq,xm) a b i:Nat),ap av 0,ak aj 0 0] 52]) (λi=>az.length-i) 0 (bC _) ?_
    intro i i1
    by_cases c7:i<az.length
    · obtain⟨bb,cb,y1,y2,y3⟩:=jp hr0 c7
      have Vi:l8 (cD c word) az (xq,xm) a b (i+1)=if tN (cD c word) az (xq,xm) a b i=aB then i else l8 (cD c word) az (xq,xm) a b i:=rfl
      have hcf:tN (cD c word) az (xq,xm) a b i=(decide (az[i].1=xm)&&decide (0<jT (cD c word) az[i].2 a b)):=by unfold tN;rw[k7 c7]
      have eC:∀(L:List b_) (j:Nat) (v:Value),([ap av az[i].1,.slice bb az[i].2.length cb]:List Value)[j]?=ah v->At B L ⟨b0,Hh+i*2+j,aj⟩ v:=λL j v hj=>eY ho (y1 j v hj);have BM:=λL=>eC L 0 _ I;have pj:=λL=>eC L 1 _ I;have tU:=y3.flat alt;have afX:=(lJ _ (bX c7)).2.2;have PD:=λ(w':World) (h:ChR w' gc gm t (n:Int) (ak (ah ⟨b0,Hh,aj⟩) az.length cp) vw word c Bd) (ua:Sl w' (.slice bb az[i].2.length cb) az[i].2.length (az[i].2.flatMap dr))=>fu (.slice bb az[i].2.length cb) az[i].2 a b w' h ua afX mE hb hw;clear eC y1 y3 IH q1 q2;generalize az[i]=pd at*;obtain⟨hd,body⟩:=pd;dsimp only at*;generalize jT (cD c word) body a b=rw at*;generalize l8 (cD c word) az (xq,xm) a b i=bi at*;rw[hcf]at Vi;clear hcf fu
      by_cases e1:hd=xm
      · by_cases e2:0<rw
        · rw[decide_eq_true e1,decide_eq_true e2,Bool.and_self,if_pos I]at Vi
          try refine GA ?_
          refine dG ([aK gc (zj t (n:Int) (ak (ah ⟨b0,Hh,aj⟩) az.length cp) vw gm) 119,xp gm c Bd,aK gn #[ap av ((k+1:Nat):Int)] 3,aK g7 (dr (xq,xm)).toArray 123,aK g12 #[ap av 0,ap av 0,ak aj 0 0] 52,aK g14 #[ap av (bi:Nat),ap av 0,ak aj 0 0] 52]) (.calm 0 (.calm 1 (.calm 2 (.calm 3 (.calm 4 (.calm 5 (.calm 6 (.calm 7 (.calm 8 (.calm 9 (.calm 10 (.calm 11 (.calm 12 (.calm 13 (.calm 14 (.calm 15 (.calm 16 (.calm 17 (.calm 18 (.calm 19 (.calm 20 (.calm 21 (.calm 22 (.calm 23 (.calm 24 (.calm 25 (.calm 26 (.calm 27 (.done))))))))))))))))))))))))))))) (λ_ h=>h) ?_
          repeat(first|refine GW ?_|(refine GN ?_;first|refine QW (aw aI.ty I (aD (i:=0) I I)) ?_|refine QW (aw aI.ty I (aD (i:=3) I I)) ?_|refine QW (aR bM.eq aI.ty I I c7) ?_|refine QW (aw aI.ty I (BM _)) ?_|refine QW (aw aI.ty I (pj _)) ?_))
          refine zw I (Bc aF.en I I I I I) (λw hm=>PD _ (hCh _ (hm.get (i:=0) I) (hm.get (i:=1) I) (hW.gr (ho.mem hm))) (tU.gr (ho.mem hm))) I I I I I ?_
          try refine GW ?_
          try refine GA ?_
          refine bD (i:=5) I I I I I I ?_;refine zL ?_
          try refine GA ?_
          exact bQ (i+1) J J (hl:=by rw[Vi];rfl)
        rw[decide_eq_true e1,decide_eq_false e2,Bool.and_false,if_neg alt]at Vi
        try refine GA ?_
        refine dG ([aK gc (zj t (n:Int) (ak (ah ⟨b0,Hh,aj⟩) az.length cp) vw gm) 119,xp gm c Bd,aK gn #[ap av ((k+1:Nat):Int)] 3,aK g7 (dr (xq,xm)).toArray 123,aK g12 #[ap av 0,ap av 0,ak aj 0 0] 52,aK g14 #[ap av (bi:Nat),ap av 0,ak aj 0 0] 52]) (.calm 0 (.calm 1 (.calm 2 (.calm 3 (.calm 4 (.calm 5 (.calm 6 (.calm 7 (.calm 8 (.calm 9 (.calm 10 (.calm 11 (.calm 12 (.calm 13 (.calm 14 (.calm 15 (.calm 16 (.calm 17 (.calm 18 (.calm 19 (.calm 20 (.calm 21 (.calm 22 (.calm 23 (.calm 24 (.calm 25 (.calm 26 (.calm 27 (.done))))))))))))))))))))))))))))) (λ_ h=>h) ?_
        repeat(first|refine GW ?_|(refine GN ?_;first|refine QW (aw aI.ty I (aD (i:=0) I I)) ?_|refine QW (aw aI.ty I (aD (i:=3) I I)) ?_|refine QW (aR bM.eq aI.ty I I c7) ?_|refine QW (aw aI.ty I (BM _)) ?_|refine QW (aw aI.ty I (pj _)) ?_))
        refine zw I (Bc aF.en I I I I I) (λw hm=>PD _ (hCh _ (hm.get (i:=0) I) (hm.get (i:=1) I) (hW.gr (ho.mem hm))) (tU.gr (ho.mem hm))) I I I I I ?_
        try refine GW ?_
        try refine GA ?_
        exact bQ (i+1) J J (hl:=by rw[Vi])
      rw[decide_eq_false e1,Bool.false_and,if_neg alt]at Vi
      try refine GA ?_
      refine dG ([aK gc (zj t (n:Int) (ak (ah ⟨b0,Hh,aj⟩) az.length cp) vw gm) 119,xp gm c Bd,aK gn #[ap av ((k+1:Nat):Int)] 3,aK g7 (dr (xq,xm)).toArray 123,aK g12 #[ap av 0,ap av 0,ak aj 0 0] 52,aK g14 #[ap av (bi:Nat),ap av 0,ak aj 0 0] 52]) (.calm 0 (.calm 1 (.calm 2 (.calm 3 (.calm 4 (.calm 5 (.calm 6 (.calm 7 (.calm 8 (.calm 9 (.calm 10 (.calm 11 (.calm 12 (.calm 13 (.calm 14 (.calm 15 (.calm 16 (.calm 17 (.calm 18 (.calm 19 (.calm 20 (.calm 21 (.calm 22 (.calm 23 (.calm 24 (.calm 25 (.calm 26 (.calm 27 (.done))))))))))))))))))))))))))))) (λ_ h=>h) ?_
      repeat(first|refine GW ?_|(refine GN ?_;first|refine QW (aw aI.ty I (aD (i:=0) I I)) ?_|refine QW (aw aI.ty I (aD (i:=3) I I)) ?_|refine QW (aR bM.eq aI.ty I I c7) ?_|refine QW (aw aI.ty I (BM _)) ?_|refine QW (aw aI.ty I (pj _)) ?_))
      try refine GA ?_
      exact bQ (i+1) J J (hl:=by rw[Vi])
    obtain rfl:i=az.length:=by omega
    obtain⟨q3,q4⟩:=zX.1 q1;generalize l8 (cD c word) az (xq,xm) a b az.length=p at*;have hm8:=h8 _ (bX q2);have hsp:=(hs _ (bX q2)).2.2;have afX:=(lJ _ (bX q2)).2.2;rw[k7 q2]at q3 q4;rw[k7 q2];obtain⟨bb,cb,y1,y2,y3⟩:=jp hr0 q2;have pj:=λ(L:List b_)=>eY (W:=B) (L:=L) ho (y1 1 (.slice bb az[p].2.length cb) I);have tU:=y3.flat alt;clear y1 y3 q1 hr0;generalize az[p]=pd at*;obtain⟨hd,body⟩:=pd;dsimp only at*;obtain⟨bb',cb',he,hb4,Yi,Yo⟩:=tU;simp only[kq,true_and]at he;obtain⟨rfl,rfl⟩:=he;have tU:Sl w0 (ak bb body.length cb) body.length (body.flatMap dr):=⟨bb,cb,rfl,hb4,Yi,Yo⟩;unfold maxLen at Yi
    try refine GA ?_
    refine dG ([aK gc (zj t (n:Int) (ak (ah ⟨b0,Hh,aj⟩) az.length cp) vw gm) 119,aK g14 #[ap av (p:Nat),ap av 0,ak aj 0 0] 52]) (.calm 0 (.calm 1 (.calm 2 (.calm 3 (.calm 4 (.calm 5 (.calm 6 (.calm 7 (.calm 8 (.calm 9 (.calm 10 (.done)))))))))))) (bY [0,5]) ?_
    repeat(first|refine GW ?_|(refine GN ?_;first|refine QW (aw aI.ty I (aD (i:=0) I I)) ?_|refine QW (aw aI.ty I (aD (i:=1) I I)) ?_|refine QW (aR bM.eq aI.ty I I q2) ?_|refine QW (aw aI.ty I (pj _)) ?_))
    try refine GA ?_
    refine iJ 52 3 (oc (eG vJ (λ_=>False) [] []) (λk hk=>hk.elim (λh=>by cases h) id) (λw=>kG) ?_);generalize hK:kZ (cD c word) (hY (cD c word) az f) b body a (k+1)=K at*;refine dZ (ι:=Nat×Nat×Nat×Value×List (List Value)×(Nat->Prop)×List Tree) (λ(j,a',k',v,_,_,ts)=>j<=body.length/\a<=a'/\a'<=b/\k'<=1000/\v.oneCell'=aB/\ts.length=j/\0<jT (cD c word) (body.drop j) a' b/\K=(ts++(kZ (cD c word) (hY (cD c word) az f) b (body.drop j) a' k').1,(kZ (cD c word) (hY (cD c word) az f) b (body.drop j) a' k').2)) (λ(j,a',_,_,_,_,_)=>[(0,aH (ah ⟨gc,0,aj⟩)),(2,ap av (a':Int)),(3,ap av (b:Int)),(4,ap av (d:Int)),(5,aH (ah ⟨gn,0,aj⟩)),(12,aH (ah ⟨g12,0,aj⟩)),(14,aH (ah ⟨g14,0,aj⟩)),(16,ak bb body.length cb),(94,ak bb body.length cb),(95,ap av body.length),(96,ap av (j:Int))])
      (λ(j,_,k',v,gY,F,ts)=>[aK gc (zj t (n:Int) (ak (ah ⟨b0,Hh,aj⟩) az.length cp) vw gm) 119,xp gm c Bd,aK gn #[ap av (k':Int)] 3,aK g7 (dr (xq,xm)).toArray 123,aK g12 #[ap av 0,ap av 0,ak aj 0 0] 52,aK g14 (fT (p:Int) 0 v).cells 52,bm 52 3 v j gY.flatten,eG vJ F gY ts]) (λ(j,_,_,_,_,_,_)=>body.length-j) (0,a,k+1,ak aj 0 0,[],λ_=>False,[]) ⟨bC _,aX _,mE,by omega,rfl,rfl,q4,by rw[B3,hK];simp⟩ ?_
    clear hK q4;rintro⟨j,a',k',v,gY,F,ts⟩ ⟨i1,i2,i3,i4,i5,i6,i7,i8⟩;dsimp only at i1 i2 i3 i4 i5 i6 i7 i8⊢
    by_cases c7:j<body.length
    · obtain⟨b3,HD,rfl,xG⟩:=Yo J
      have C2:=λL=>pI (W:=B) (L:=L) kh (λq x hq=>eY ho (xG q x hq)) c7;rw[dL c7]at i7 i8;obtain⟨m1,m2,m3,m4⟩:=Uh i3 i7;rw[kZ]at i8;have hyo:=afX body[j] (bX c7);have hys:=hsp body[j] (bX c7);have uz:=λx hx=>afX x (List.mem_of_mem_drop (i:=j+1) hx);have kK:∀w',Gr w0 w'->Sl w' (Hu (ah ⟨b3,HD,aj⟩) cb 2 (j+1) body.length) (body.drop (j+1)).length ((body.drop (j+1)).flatMap dr):=λw' hg=>by
        have:=Kc kh (tU.gr hg) (i:=j+1) (j:=body.length) J (aX _)
        rwa [gD (by simp)]at this
      clear Yo xG;generalize body[j]=y at*;obtain⟨yq,ym⟩:=y;have ake:mM (cD c word) (yq,ym) (body.drop (j+1)) a' b (m_ (mM (cD c word) (yq,ym) (body.drop (j+1)) a' b) a' (b-a'))=true:=by
        unfold mM at m3 m4⊢;rw[eE,decide_eq_true_iff,decide_eq_true_iff];exact⟨m3,m4⟩
      generalize hMM:m_ (mM (cD c word) (yq,ym) (body.drop (j+1)) a' b) a' (b-a')=M at*;have Yp:=λw B=>IH (yq,ym) a' M k' gn w B J hys hyo m1 J i4 m3;have hg3:=λt k2 h=>(E7 hc hs f (yq,ym) a' M k' t k2 hys m1 J m3 h).2.2.1;clear IH
      repeat(first|refine GA ?_|refine gV (aR bM.eq aI.ty I I c7) ?_|refine gV (aW aI.ty I I (C2 _)) ?_)
      refine aY I λg18=>?_
      try refine GA ?_
      refine fR 8 ?_;refine zL ?_
      try refine GA ?_
      refine dZ (ι:=Nat) (λm=>a'<=m/\m<=M/\m_ (mM (cD c word) (yq,ym) (body.drop (j+1)) a' b) m (b-m)=M) (λm=>[(0,aH (ah ⟨gc,0,aj⟩)),(2,ap av (a':Int)),(3,ap av (b:Int)),(4,ap av (d:Int)),(5,aH (ah ⟨gn,0,aj⟩)),(12,aH (ah ⟨g12,0,aj⟩)),(14,aH (ah ⟨g14,0,aj⟩)),(16,ak (ah ⟨b3,HD,aj⟩) body.length cb),(17,ap av (j:Int)),(18,aH (ah ⟨g18,0,aj⟩)),(19,ap av (m:Int)),(94,ak (ah ⟨b3,HD,aj⟩) body.length cb),(95,ap av body.length),(96,ap av (j:Int))])
        (λ_=>[aK gc (zj t (n:Int) (ak (ah ⟨b0,Hh,aj⟩) az.length cp) vw gm) 119,xp gm c Bd,aK gn #[ap av (k':Int)] 3,aK g7 (dr (xq,xm)).toArray 123,aK g12 #[ap av 0,ap av 0,ak aj 0 0] 52,aK g14 (fT (p:Int) 0 v).cells 52,bm 52 3 v j gY.flatten,eG vJ F gY ts,aK g18 (dr (yq,ym)).toArray 123]) (λm=>M-m) a' ⟨aX _,m1,hMM⟩ ?_
      clear hMM;rintro m ⟨j1,j2,j3⟩
      by_cases hcut:mM (cD c word) (yq,ym) (body.drop (j+1)) a' b m=aB
      · have:=aaG (k:=b-m) hcut
        obtain rfl:m=M:=by rw[<-j3];exact this.symm
        clear this j3 hcut ake
        repeat(first|refine GA ?_|refine gV (aJ (i:=8) aI.ty I I I) ?_)
        refine aT (Bc aF.en I I I I I) (λw hm=>lh (yq,ym) a' m w (hCh _ (hm.get (i:=0) I) (hm.get (i:=1) I) (hW.gr (ho.mem hm))) hyo j1 J hw) I I I ?_;intro _ _;generalize cD c word (yq,ym) a' m=ov at*;refine zL ?_
        repeat(first|refine GC ?_|refine gV (dN (r:=((j+1:Nat):Int)) I I J J J) ?_|refine gV (rN bM.eq aI.ty I I J hb4) ?_|refine GB ?_)
        refine l5 (Bc aF.en I I I I I) (λw hm=>fu _ (body.drop (j+1)) m b w (hCh _ (hm.get (i:=0) I) (hm.get (i:=1) I) (hW.gr (ho.mem hm))) (kK _ (ho.mem hm)) uz J hb hw) I I I I I ?_;intro _ _;obtain⟨rv,hrv⟩:∃rv,rv=jT (cD c word) (body.drop (j+1)) m b:=⟨_,rfl⟩;have uc:0<rv:=by rw[hrv];exact m4
        rw[<-hrv];clear hrv;generalize hR:hY (cD c word) az f (yq,ym) a' m k'=R at*;obtain⟨⟨p',r',Un⟩,er,k2⟩:=R;dsimp only at i8;simp only[adJ]at Yp;refine zL ?_
        repeat(first|refine GC ?_|refine gV (aJ (i:=8) aI.ty I I I) ?_|refine gV (dN (r:=((d+1:Nat):Int)) I I J J J) ?_|refine GB ?_)
        refine bz [0,1,2] [3,4,5,6,7,8] alt I I (he6 aF.en I I I I I I I) (λw' hm hb=>Yp w' _ (ho.on hm λo h=>sv h) hb) I I I ?_;rintro⟨v',F'⟩ ⟨o1,o2⟩;refine zL ?_;refine mX (i:=9) (φ:=v'.oneCell'=aB/\v'.cells=#[v']) I (λw h=>BN h) λhvm=>?_
        try refine GA ?_
        refine aY I λg20=>?_;refine aV (i:=10) I I I I (by simp[fT,oX,hvm.1];exact⟨rfl,rfl⟩) I ?_;refine zL ?_
        by_cases c0:er=0
        · subst c0
          rw[if_neg alt]at i8;have g3:=hg3 _ _ I;clear hg3;clear hR
          repeat(first|refine GA ?_|refine gV (aw aI.ty I (aD (i:=2) I I)) ?_|refine gV (aJ (i:=10) aI.ty I I I) ?_)
          refine iU (i:=3) I I I I (by simp[fT,oX,hvm.1];exact⟨rfl,rfl⟩) I I (λz h=>by cases h;rfl) J J I λz' v2=>?_;refine zL ?_;refine aU (i:=3) I λjm mz=>?_
          try refine GA ?_
          refine bD (i:=2) I I I jm mz I ?_;refine zL ?_
          try refine GA ?_
          refine Dj (eG vJ (λk=>F k\/F' k) (gY++[[ap av p',ap av r',v']]) (ts++[.mk p' r' Un])) 9 4 [6,7,8,0,1,2,3] alt I I I (λk hk=>hk.elim (λh=>by cases h) λh=>h.elim (λh=> .inr (.inr h)) λh=> .inl (.inr h)) (λw hk he=>?_) ?_
          · obtain⟨⟨v'',hv,h5⟩,h6⟩:=hk
            simp only[fL,and_true]at hv;subst hv;exact pJ he (NL.2 ⟨v',rfl,o1,o2,h5⟩) h6
          exact bQ (j+1,m,k2,v2,gY++[[ap av p',ap av r',v']],λk=>F k\/F' k,ts++[.mk p' r' Un]) ⟨by omega,(by show a<=m;omega),(by show m<=b;omega),(by show k2<=1000;omega),mz,by simp[i6],m4,by rw[i8];simp⟩ (by show body.length-(j+1)<body.length-j;omega) (hl:=by rw[List.flatten_append];rfl)
        have jh:(if K.2.1≠0 then((.mk 0 0 [],K.2):Tree×Int×Nat)else(.mk (p:Nat) 0 K.1,K.2))=(.mk 0 0 [],er,k2):=by rw[i8,if_pos c0];exact if_pos c0
        rw[jh];clear jh hR i8
        repeat(first|refine GA ?_|refine gV (aZ I jJ) ?_)
        refine fR 1 ?_;refine zL ?_
        try refine GA ?_
        refine jP (nv (λ_=>False) (ak aj 0 0) []) (λk hk=>hk.elim (λh=>by cases h) id) lF ?_;exact dH (i:=1) I I I I I λw hm=>hm.cg (S:=trS gc gm gn n t (ak (ah ⟨b0,Hh,aj⟩) az.length cp) vw c Bd (.mk 0 0 [],er,k2)) (ak aj 0 0,λ_=>False) ⟨RL,RL⟩ [6,7,8,11] alt I
      have hne:m≠M:=λe=>by subst e;exact hcut ake
      have hst:m_ (mM (cD c word) (yq,ym) (body.drop (j+1)) a' b) (m+1) (b-(m+1))=M:=by
        rw[<-aaF (by simpa using hcut),show b-(m+1)+1=b-m by omega];exact j3
      clear j3;have hcc:cD c word (yq,ym) a' m=0\/(0<cD c word (yq,ym) a' m/\jT (cD c word) (body.drop (j+1)) m b=0):=by
        unfold mM at hcut;rw[eE,decide_eq_true_iff,decide_eq_true_iff]at hcut;omega
      rcases hcc with h1|⟨h1,h2⟩
      · repeat(first|refine GA ?_|refine gV (aJ (i:=8) aI.ty I I I) ?_)
        refine aT (Bc aF.en I I I I I) (λw hm=>lh (yq,ym) a' m w (hCh _ (hm.get (i:=0) I) (hm.get (i:=1) I) (hW.gr (ho.mem hm))) hyo j1 J hw) I I I ?_;intro _ _;rw[h1];refine zL ?_
        repeat(first|refine GC ?_|refine gV (dN (r:=((m+1:Nat):Int)) I I J J J) ?_|refine GB ?_)
        exact bQ (m+1) ⟨by omega,by omega,hst⟩ (by show M-(m+1)<M-m;omega)
      repeat(first|refine GA ?_|refine gV (aJ (i:=8) aI.ty I I I) ?_)
      refine aT (Bc aF.en I I I I I) (λw hm=>lh (yq,ym) a' m w (hCh _ (hm.get (i:=0) I) (hm.get (i:=1) I) (hW.gr (ho.mem hm))) hyo j1 J hw) I I I ?_;intro _ _;generalize cD c word (yq,ym) a' m=ov at*;refine zL ?_
      repeat(first|refine GC ?_|refine gV (dN (r:=((j+1:Nat):Int)) I I J J J) ?_|refine gV (rN bM.eq aI.ty I I J hb4) ?_|refine GB ?_)
      refine l5 (Bc aF.en I I I I I) (λw hm=>fu _ (body.drop (j+1)) m b w (hCh _ (hm.get (i:=0) I) (hm.get (i:=1) I) (hW.gr (ho.mem hm))) (kK _ (ho.mem hm)) uz J hb hw) I I I I I ?_;intro _ _;rw[h2];refine zL ?_
      repeat(first|refine GC ?_|refine gV (dN (r:=((m+1:Nat):Int)) I I J J J) ?_|refine GB ?_)
      exact bQ (m+1) ⟨by omega,by omega,hst⟩ (by show M-(m+1)<M-m;omega)
    obtain rfl:j=body.length:=by omega
    rw[ia (aX _),kZ]at i8;have jh:(if K.2.1≠0 then((.mk 0 0 [],K.2):Tree×Int×Nat)else(.mk (p:Nat) 0 K.1,K.2))=(.mk (p:Nat) 0 ts,0,k'):=by rw[i8];simp
    rw[jh];clear jh i8 IH i7 lh fu hCh
    repeat(first|refine GA ?_|refine gV (aJ (i:=5) aI.ty I I I) ?_)
    refine aV (i:=4) I I I I (by simp[fT,oX,i5];exact⟨rfl,rfl⟩) I ?_;refine zL ?_;refine uK (nv (Or1 F v) v ts) 6 7 [0,1,2,4] alt I I I (λk hk=>hk.elim (λh=>by cases h) λh=>h.elim (λh=> .inr (.inr h)) λh=> .inl (.inl h)) (λw hr he=>?_) ?_
    · have uz:(bm 52 vJ.c v ts.length gY.flatten).holds w:=by rw[i6];exact hr
      exact⟨⟨v,rfl,Er uz he alt⟩,Es uz he⟩
    refine zL ?_
    try refine GA ?_
    exact dH (i:=3) I I I I I λw hm=>hm.cg (S:=trS gc gm gn n t (ak (ah ⟨b0,Hh,aj⟩) az.length cp) vw c Bd (.mk (p:Nat) 0 ts,0,k')) (v,Or1 F v) ⟨okn J,RL⟩ [0,1,2,4] alt I
end
def tI(g:dD)(word:List Int)(t:Tree)(e:Int):Prop:=
 if iP g word≠0 then e=iP g word/\t= .mk 0 0 []
 else(iy g word=0->e=17/\t= .mk 0 0 [])/\(iy g word=2->e=12/\t= .mk 0 0 [])/\
  (iy g word=1->((e=0/\nH g t=0/\eU g.az t=word)\/((e=2\/e=7)/\t= .mk 0 0 []))/\∀t',nH g t'=0->eU g.az t'=word->e=0/\t=t')
theorem JQ(o:bJ->Nat->Nat->Nat)(l:List aL.Prod):∀(f:Nat) (x:bJ) (a b k:Nat),(hY o l f x a b k).2.1=0\/(((hY o l f x a b k).2.1=2\/(hY o l f x a b k).2.1=7)/\(hY o l f x a b k).1= .mk 0 0 [])
 | 0,x,a,b,k=>by
  rw[hY];dsimp only;split<;>simp
 | f + 1,x,a,b,k=>by
  have hk:∀(body:List bJ) (a k:Nat),(kZ o (hY o l f) b body a k).2.1=0\/(kZ o (hY o l f) b body a k).2.1=2\/(kZ o (hY o l f) b body a k).2.1=7:=by
   intro body
   induction body with
   |nil=>intro a k;exact .inl I
   | cons y r ih=>
    intro a k;rw[kZ];have h1:=JQ o l f y a (m_ (mM o y r a b) a (b-a)) k;split;exact h1.imp id λh=>h.1;exact ih _ _
  rw[hY];split;exact .inr ⟨.inl I,rfl⟩;split;exact .inl I;have h1:=hk (a_ l (l8 o l x a b l.length:Nat)).2 a (k+1);split
  ·rename_i c
   exact .inr ⟨h1.resolve_left c,rfl⟩
  exact h1.imp id λh=>(by rename_i c;exact absurd (by rcases h with h|h<;>omega) c)
theorem Yh(o:bJ->Nat->Nat->Nat)(l:List aL.Prod)(f:Nat)(x:bJ)(a b k:Nat)(hx:x.1≠1)(h:(hY o l f x a b k).2.1=0):0<=(hY o l f x a b k).1.prod:=by
 cases f with
 |zero=>rw[hY];exact jg _
 |succ f=>
  rw[hY];split;exact jg _
  first|rw[if_neg hx]|skip
  split;exact jg _;show(0:Int)<=((l8 o l x a b l.length:Nat):Int);omega
theorem afY{g:dD}{word:List Int}{c:eR}(fS:iP g word=0)(hc:AS word g.az g.bB.toNat c)(h1:iy g word=1):
 tI g word (hY (cD c word) g.az 100 (2,0) 0 word.length 0).1 (hY (cD c word) g.az 100 (2,0) 0 word.length 0).2.1:=by
 obtain⟨hg,hl,hw⟩:=lD fS;obtain⟨a1,a2,a3,a4,a5,a6⟩:=cz hg;have hs:=nK (n:=g.bB.toNat) hg J;have hN:=IC fS hc;have ho:cD c word (2,0) 0 word.length=1:=by
  unfold cD;rw[if_pos I]
  simpa using hN.trans h1
 have ali:=JQ (cD c word) g.az 100 (2,0) 0 word.length 0;have mP:=E7 hc hs 100 (2,0) 0 word.length 0;unfold tI;rw[if_neg (by simpa using fS)];refine⟨λh=>by omega,λh=>by omega,λ_=>⟨?_,λt' ht hy=>?_⟩⟩
 ·rcases ali with h|h
  ·refine .inl ⟨h,?_⟩
   have hp:=Yh (cD c word) g.az 100 (2,0) 0 word.length 0 alt h;generalize hY (cD c word) g.az 100 (2,0) 0 word.length 0=R at*;obtain⟨t,e,k1⟩:=R;dsimp only at h hp⊢;subst h;obtain⟨r1,r2,r3,r4,r5,r6⟩:=mP t k1 (.inr ⟨rfl,by dsimp only;omega,by dsimp only;omega⟩) (bC _) (aX _) J I;refine⟨pN.2 ⟨hg,r1,by omega,r4⟩,?_⟩;unfold dJ at r6;rw[if_neg J]at r6
   simpa using r6
  exact .inr h
 ·obtain⟨b1,b2,b3,b4⟩:=pN.1 ht
  have hp:=yS b2;have:=Ng hc hs 100 t' (2,0) 0 word.length 0 0 b2 (.inr I) (bC _) (aX _) J (by unfold dJ;rw[if_neg J,hy];simp) J b4 I;rw[this];exact⟨rfl,rfl⟩
def Hi(g:dD)(word:List Int):Spec (Tree×Int×Value×(Nat->Prop)):=
 ⟨λx=>tI g word x.1 x.2.1/\cL.dv x.1.prod/\cL.dv x.1.tok,λx=> .tuple #[fT x.1.prod x.1.tok x.2.2.1,ap av x.2.1],λx=>[nv x.2.2.2 x.2.2.1 x.1.kids]⟩
attribute [local irreducible] Instr.build in
theorem TA(v vw:Value)(g:dD)(word:List Int)(w:World)(h:jS (λk=>k<w.heap.size) w v g)(hs:Sl w vw word.length (word.map (.int .i64))):
 Calls aC 10 #[v,vw] w (cJ (Hi g word) w):=by
 have fS:=λw' (hg:Gr w w')=>KY v vw g word w' (h.gr hg) (hs.gr hg)
 by_cases c0:iP g word=0
 ·have h0:=h
  obtain⟨vp,rfl,h1,_⟩:=h;have Yk:=λw' (hg:Gr w w')=>Lt vp vw g word w' (h0.gr hg) (hs.gr hg) c0;have hN:=λ(c:eR) hc=>IC (c:=c) c0 hc;have hO:=λ(c:eR) hc=>afY (c:=c) c0 hc;have hX:∀e,(iy g word=0->e=17)->(iy g word=2->e=12)->iy g word≠1->tI g word (.mk 0 0 []) e:=λe e1 e2 e3=>by
   unfold tI;rw[if_neg (by simpa using c0)];exact⟨λh=>⟨e1 h,rfl⟩,λh=>⟨e2 h,rfl⟩,λh=>absurd h e3⟩
  obtain⟨hg,hl,hw⟩:=lD c0;obtain⟨a1,a2,a3,a4,a5,a6⟩:=cz hg;obtain⟨n,hn⟩:∃n:Nat,g.bB=n:=⟨g.bB.toNat,by omega⟩;obtain⟨f1,f2⟩:=Gz hg hn;have Jp:=nK (n:=n) hg hn;have h8:∀p∈g.az,p.2.length<=8:=λp hp=>(a6 p hp).1;rw[c0]at fS;have TO:=hs;have hle:iy g word<=2:=by
   unfold iy;rw[if_pos c0];have hnn:g.bB.toNat=n:=by omega
   rw[hnn];exact(qM f2).le2 _
  have hc3:iy g word=0\/iy g word=1\/iy g word=2:=by omega
  obtain⟨t,nn,az⟩:=g;dsimp only at*;subst hn;have htr:=λgc gm c Bd (hc:AS word az n c) uc gn w' B=>CU w gc gm n t vp vw word az c Bd h1 TO f1 Jp hc hl a5 h8 100 1 (2,0) 0 word.length 0 gn w' B I (.inr ⟨rfl,by dsimp only;omega,by dsimp only;omega⟩) ⟨by decide,by decide⟩ (bC _) (aX _) J uc;obtain⟨bw,cw,rfl,hw1,hw2,_⟩:=hs;refine enter (args:=[du t (n:Int) vp,ak bw word.length cw]) (n:=40) Tryz.func10 I I I ?_;refine bZ (bx (bH I I I λg2=>aY I λg4=>?_));refine zL ?_
  repeat(first|refine GA ?_|refine gV (aJ (i:=0) aI.ty I I I) ?_)
  refine aT (gh aF.en I I I) (λw hm=>fS _ hm.below) I I I ?_;intro _ _;refine zL ?_
  repeat(first|refine GA ?_|refine gV (aJ (i:=0) aI.ty I I I) ?_)
  refine aT (gh aF.en I I I) (λw' hm=>Yk w' hm.below) I I I ?_;rintro⟨gc,gm,c,Bd⟩ ⟨hx,_⟩;dsimp only at hx;have hN:=hN c hx;have hO:=hO c hx;have htr:=htr gc gm c Bd hx;clear Yk fS
  conv=>arg 8;simp only[zJ,df,ret,id_eq,Lr]
  try refine GA ?_
  refine aY I λg8=>?_;refine bD (i:=4) I I I I I I ?_;rw[show(#[ap av 0]:Array Value).setIfInBounds 0 (ap av 0)=#[ap av ((0:Nat):Int)]from I];refine zL ?_
  repeat(first|refine GA ?_|refine gV (aw aI.ty I (aD (i:=2) I I)) ?_|refine gV (aZ I (yV _ _ _)) ?_|refine gV (rO (x:=(0,0,(word.length:Int))) (i:=3) xO bM.eq Ai I I I (KW (m:=0) (a:=0) ⟨by decide,by decide⟩ J J) (by rw[hN])) ?_)
  rcases hc3 with h3|h3|h3
  ·rw[h3]
   repeat(first|refine GA ?_|refine gV (aZ I jJ) ?_)
   refine fR 1 ?_;refine zL ?_
   try refine GA ?_
   refine jP (nv (λ_=>False) (ak aj 0 0) []) (λk hk=>hk.elim (λh=>by cases h) id) lF ?_;exact dH (i:=1) I I I I I λw hm=>hm.meets (S:=Hi ⟨t,(n:Int),az⟩ word) (.mk 0 0 [],17,ak aj 0 0,λ_=>False) ⟨hX 17 (λ_=>rfl) (λh=>by omega) J,RL,RL⟩ [5] alt I
  ·rw[h3]
   have uc:0<cD c word (2,0) 0 word.length:=by
    unfold cD;rw[if_pos I];have:c (0,0,(word.length:Int))=1:=hN.trans h3;show 0<c (0,((0:Nat):Int),(word.length:Int))
    rw[show((0:Nat):Int)=0 from I,this];decide
   have htr:=htr uc;have hO:=hO h3;generalize hY (cD c word) az 100 (2,0) 0 word.length 0=R at*;obtain⟨⟨p,q,ks⟩,e,k2⟩:=R;simp only[adJ]at htr;dsimp only at hO
   repeat(first|refine GA ?_|refine gV (aZ I FI) ?_)
   refine bz [2,3,4] [0,1] alt I I (he6 aF.en I I I I I I I) (λw' hm hb=>htr g8 w' _ ((ly.self w).on hm λo h=>sv h) hb) I I I ?_;rintro⟨v',F'⟩ ⟨o1,o2⟩;refine zL ?_;refine mX (i:=5) (φ:=v'.oneCell'=aB/\v'.cells=#[v']) I (λw h=>BN h) λhvm=>?_
   try refine GA ?_
   refine aV (i:=1) I I I I (by simp[fT,oX,hvm.1];exact⟨rfl,rfl⟩) I ?_;refine zL ?_
   try refine GA ?_
   exact dH (i:=1) I I I I I λw hm=>hm.meets (S:=Hi ⟨t,(n:Int),az⟩ word) (.mk p q ks,e,v',F') ⟨hO,o1,o2⟩ [5] alt I
  rw[h3]
  repeat(first|refine GA ?_|refine gV (aZ I jJ) ?_)
  refine fR 1 ?_;refine zL ?_
  try refine GA ?_
  refine jP (nv (λ_=>False) (ak aj 0 0) []) (λk hk=>hk.elim (λh=>by cases h) id) lF ?_;exact dH (i:=1) I I I I I λw hm=>hm.meets (S:=Hi ⟨t,(n:Int),az⟩ word) (.mk 0 0 [],12,ak aj 0 0,λ_=>False) ⟨hX 12 (λh=>by omega) (λ_=>rfl) J,RL,RL⟩ [5] alt I
 ·have hX:tI g word (.mk 0 0 []) (iP g word):=by
   unfold tI;rw[if_pos c0];exact⟨rfl,rfl⟩
  obtain⟨vp,rfl,h1,_⟩:=h;obtain⟨bw,cw,rfl,_⟩:=hs;generalize iP g word=e at*;obtain⟨t,n,az⟩:=g;dsimp only at*;refine enter (args:=[du t n vp,ak bw word.length cw]) (n:=40) Tryz.func10 I I I ?_;refine bZ (bx (bH I I I λg2=>aY I λg4=>?_));refine zL ?_
  repeat(first|refine GA ?_|refine gV (aJ (i:=0) aI.ty I I I) ?_)
  refine aT (gh aF.en I I I) (λw hm=>fS _ hm.below) I I I ?_;intro _ _;refine zL ?_
  repeat(first|refine GA ?_|refine gV (aZ I jJ) ?_)
  refine fR 1 ?_;refine zL ?_
  try refine GA ?_
  refine jP (nv (λ_=>False) (ak aj 0 0) []) (λk hk=>hk.elim (λh=>by cases h) id) lF ?_;exact dH (i:=1) I I I I I λw hm=>hm.meets (S:=Hi ⟨t,n,az⟩ word) (.mk 0 0 [],e,ak aj 0 0,λ_=>False) ⟨hX,RL,RL⟩ [2] alt I
end cB
namespace nj
open aL dI gI pt bK cX iK eh rj dA wX cB
theorem adK{m:Md}{b:Bool}{T N:Nat}(h:LV m b T N){W:List Int}(hc:iP m.g W=0):iy m.g W<=1:=by
 cases b with
 |true=>exact ah1 h.tT h.nN (h.kLL I).2 hc
 |false=>
  obtain⟨Nx,S,k1,k2,k3,k4⟩:=h.kLR rfl;exact afJ k4 hc
theorem adL{m:Md}{b:Bool}{T N:Nat}(h:LV m b T N){L:List Tok×Nat×Int}{n:Nat}(hc:iP m.g (iD m L.1)=0){t:Tree}{f:Int}(hO:tI m.g (iD m L.1) t f):
 ((lp m b L n).2.1≠0->(lp m b L n).2.1≠14->L.2.2≠0\/f≠0)/\
 ((lp m b L n).2.1=0->L.2.2=0/\(lp m b L n).2.2=n/\((f=2\/f=7)\/(f=0/\nH m.g t=0/\(lp m b L n).1=if b then qR m.g.az t else upE m.g.az t))):=by
 obtain⟨p1,p2⟩:=aio h hc;have hg:=Ts (b:=b) h.tT L.1 Ho 0 [];have he:=LW (m:=m) (b:=b) L.1 Ho 0 [];have Ol:=adK h hc;have hW:∀R,Tq m b L.1 Ho 0 []=R->lp m b L n=match R with|(ah x,out,_,_)=>(out,x)|(aj,out,p,a)=>if L.2.2≠0 then(out,L.2.2,L.2.1)else(out++(qC m b p a).2,(qC m b p a).1,n):=λR h=>by subst h;rfl
 unfold tI at hO;rw[if_neg J]at hO;obtain⟨o1,-,o3⟩:=hO
 have key:f=0->(xA m b T (iD m L.1) Ho 0 []).2.2=14\/((xA m b T (iD m L.1) Ho 0 []).2.2=0/\nH m.g t=0/\(xA m b T (iD m L.1) Ho 0 []).1=if b then qR m.g.az t else upE m.g.az t):=λhf=>by
  have h1:iy m.g (iD m L.1)=1:=by
   omega
  rcases(o3 h1).1 with⟨_,q1,q2⟩|⟨q,_⟩
  ·obtain⟨c1,c2,c3,c4⟩:=pN.1 q1
   simp_all
  omega
 generalize Tq m b L.1 Ho 0 []=R at*;obtain⟨q,out,p,a⟩:=R;have hW:=hW _ I
 cases q with
 | some x=>
  grind
 | none=>
  obtain⟨g1,g2⟩:=hg;rw[g1]at key p1;dsimp only at hW key p1
  by_cases c:L.2.2≠0
  simp_all
  rw[if_neg c]at hW;rw[hW];dsimp only;refine⟨λh0 h14=> .inr λhf=>?_,λh0=>⟨by omega,rfl,?_⟩⟩;rcases key hf with k|⟨k,_⟩<;>omega
  obtain⟨t0,ht0,_,hy⟩:=p1 h0;have h1:iy m.g (iD m L.1)=1:=by
   have:=(WD hc).2 (by rw[<-hy,<-tD ht0];exact xe ht0);omega
  grind
end nj
namespace cB
open Go.RowKit cL dV aL
theorem aiq(f f':bJ)(w:World):(Op.equalIn 10000 59 (aP (dr f).toArray) (aP (dr f').toArray)).run aC w= .ok (decide (f=f')) w:=by
 obtain⟨k,q⟩:=f;obtain⟨k',q'⟩:=f';unfold dr
 go_simp
 grind
theorem VH(a:aL.bJ):(dr a).length=2:=rfl
theorem Hj(v v':Value)(l l':List aL.bJ)(w:World)(hs:Sl w v l.length (l.flatMap dr))(xF:Sl w v' l'.length (l'.flatMap dr)):
 Calls aC 13 #[v,v'] w (cJ (ret (.bool (decide (l=l')))) w):=by
 obtain⟨base,cap,rfl,sM,rR,gu⟩:=hs;obtain⟨Om,Hr,rfl,alv,akf,ag2⟩:=xF;unfold maxLen at rR akf;refine enter (args:=[ak base l.length cap,ak Om l'.length Hr]) (n:=26) Tryz.func13 I I I ?_
 by_cases c1:l.length=l'.length
 ·try refine GA ?_
  refine kO (ι:=Nat) (λk=>k<=l.length/\l.take k=l'.take k) (λk=>[(0,ak base l.length cap),(1,ak Om l'.length Hr),(12,ap av l.length),(13,ap av (k:Int))]) (λ_=>[]) (λk=>l.length-k) 0 ⟨by omega,rfl⟩ ⟨rfl,rfl,rfl,rfl,trivial⟩ I ?_;rintro k ⟨h1,h2⟩
  by_cases c2:k<l.length
  ·obtain⟨b,off,rfl,hr⟩:=gu J
   obtain⟨b',Bn,rfl,uz⟩:=ag2 J;have Sw:k<l'.length:=by omega
   have eC:=gK (L:=([]:List b_)) VH hr c2;have akg:=gK (L:=([]:List b_)) VH uz Sw;have J3:=aiq l[k] l'[k]
   by_cases c3:l[k]=l'[k]
   ·rw[decide_eq_true c3]at J3
    try refine GA ?_
    refine Zl 8 (c_ 8 aB) I (by kernel_rfl) (by kernel_rfl) (by intro c a d v w h;cases d<;>exact h) ?_
    repeat(first|refine gd I (qp I) I I ?_|refine gd I (aR bM.eq aI.ty I I c2) I I ?_|refine gd I (aR bM.eq aI.ty I I Sw) I I ?_|refine gd I (aW aI.ty I I eC) I I ?_|refine gd I (aW aI.ty I I akg) I I ?_|refine gd I (ad1 bM.eq I) I I ?_|refine gd I (fI I I (qT J)) I I ?_|refine gd I (fI I I (qF J)) I I ?_|refine gd I (dh I I (qT J)) I I ?_|refine gd I (dh I I (qF J)) I I ?_|refine gd I (dN I I J J I) I I ?_|refine Zm ?_)
    repeat(first|refine GC ?_|refine gV (uD I I (by kernel_rfl) J3 I) ?_|refine GB ?_)
    exact ik (k+1) ⟨by omega,by rw[ic c2,ic Sw,h2,c3]⟩ (by show l.length-(k+1)<l.length-k;omega) ⟨rfl,rfl,rfl,rfl,trivial⟩ I
   rw[decide_eq_false c3]at J3;rw[decide_eq_false (λh=>c3 (by subst h;rfl))]
   try refine GA ?_
   refine Zl 8 (c_ 8 aB) I (by kernel_rfl) (by kernel_rfl) (by intro c a d v w h;cases d<;>exact h) ?_
   repeat(first|refine gd I (qp I) I I ?_|refine gd I (aR bM.eq aI.ty I I c2) I I ?_|refine gd I (aR bM.eq aI.ty I I Sw) I I ?_|refine gd I (aW aI.ty I I eC) I I ?_|refine gd I (aW aI.ty I I akg) I I ?_|refine gd I (ad1 bM.eq I) I I ?_|refine gd I (fI I I (qT J)) I I ?_|refine gd I (fI I I (qF J)) I I ?_|refine gd I (dh I I (qT J)) I I ?_|refine gd I (dh I I (qF J)) I I ?_|refine gd I (dN I I J J I) I I ?_|refine Zm ?_)
   repeat(first|refine GC ?_|refine gV (uD I I (by kernel_rfl) J3 I) ?_|refine GB ?_)
   exact dQ
  have e:l=l':=by
   rw[gD J,gD J]at h2;exact h2
  rw[decide_eq_true e]
  try refine GA ?_
  exact dQ
 ·rw[decide_eq_false (λh=>c1 (by rw[h]))]
  try refine GA ?_
  exact dQ
end cB
namespace wholeTree
open Go.RowKit cL dV cB dg gv iK aL dI cX pt nj AK xh eh
theorem afZ:∀r∈lS.rules,r.2.length<=8796093021952:=by
 intro r hr;have:r∈adm:=hr;simp only[adm,dw,List.not_mem_nil,or_false]at this;rcases this with rfl|rfl|rfl<;>exact eL (nB I:_<=10) J
set_option maxRecDepth 100000 in
theorem walk(w:World)(v:Value)(s:Sp)(hv:XA (rP w) w v s)(hb:∀r∈s.rules,r.2.length*16<=140737488351232)(tx:List UInt8)(htx:tx.length<=140737488351232):
    Calls aC 3 #[v,str tx] w (cJ (ret (.bool aB)) w):=by
  obtain⟨r,hx⟩:=ahV s;obtain⟨r0,T0,N0,h1⟩:=adB;have akh:=λv' w' h=>Pk h1.lx (v:=v') (w:=w') h afZ h1.ok;have aki:=λc w' (hg:Gr w w')=>X' hx (hv.gr hg) (λr h=>by have:=hb r h;omega) c;have akj:=λc w' (hg:Gr w w')=>Pk hx (hv.gr hg) (λr h=>by have:=hb r h;omega) c;have Mv:=Ya hx;have adM:=λ(y:MkX) w' h=>CR (aP (y.cells (xz lS r0)).toArray) (xz lS r0) aB T0 N0 (vo:=y.vo) (vn:=y.vn) (vt:=y.vt) (vp:=y.vp) (vr:=y.vr) (va:=y.va) (vg:=y.vg) [97,32,97] w' h h1.fit alt;rw[h1.w3]at adM;have hls:=λw'=>To w';have air:=λw' x h1 h2 h3 h4=>afO (w:=w') (a:=fv 97 97) (s:=fv 32 32) (x:=x) h1 h2 h3 h4;have hlS:lS=⟨aih (fv 97 97) (fv 32 32),adm⟩:=rfl;rw[<-hlS]at air;clear hlS h1;generalize fv 97 97=ca at*;generalize fv 32 32=cs at*;generalize xz lS r0=m0 at*;generalize lS=l0 at*;obtain⟨vw0,vr0,rfl,hw,hr⟩:=hv;obtain⟨bw,cw,rfl,-⟩:=hw;obtain⟨br,cr,rfl,-⟩:=hr;clear hb;have hsz:HV.toArray.size=266:=kJ j_ I;have lh:HV.toArray.toList.all fV=true:=BX I Ve I;refine enter (args:=[aP #[ak bw s.words.length cw,ak br s.rules.length cr],str tx]) (n:=137) Tryz.func3 I I I ?_;refine bZ (bx (bH I I I λg2=>?_));refine zL ?_
  try refine GA ?_
  refine aT (he0 aF.en I) (λw hm=>hls w) I I I ?_;rintro⟨q1,q2,q3,q4⟩ _
  conv=>arg 8;simp only[zJ,df,ret,id_eq,afN]
  conv=>arg 7;simp only[afN]
  refine aT (lz aF.en I I) (λw' hm=>akh _ w' (air w' ⟨q1,q2,q3,q4⟩ (hm.get (i:=1) I) (hm.get (i:=2) I) (hm.get (i:=3) I) (hm.get (i:=4) I))) I I I ?_;intro y hy
  conv=>arg 8;simp only[zJ,df,ret,id_eq,Tr]
  conv=>arg 7;simp only[Tr]
  refine H9 [0,5] ?_
  try refine GA ?_
  refine aY I λg5'=>?_;rw[w_];refine zL ?_;refine aV (i:=2) (cs':=(y.cells m0).toArray) I I I (sr y m0) hy.one hsz ?_;refine zL ?_
  repeat(first|refine GA ?_|refine gV (aJ (i:=2) aI.ty I I (sr y m0)) ?_)
  refine aT (gh aF.en I I I) (λw' hm=>adM y w' (hy.mdr w' (hm.get (i:=1) I))) I I I ?_;intro vo _
  conv=>arg 8;simp only[zJ,df,ret,id_eq,AP]
  conv=>arg 7;simp only[AP,Pu]
  try refine GA ?_
  refine aU (i:=3) I λ_ jm=>?_;refine aY I λg7'=>?_;refine aV (i:=4) (cs':=#[vo,ap av 0,ap av 3]) I I I I (su jm) I ?_;refine zL ?_
  repeat(first|refine GC ?_|refine gV (aw (v:=ap av 0) aI.ty I (aD (i:=4) I I)) ?_|refine gV (aw (v:=vo) aI.ty I (aD (i:=4) I I)) ?_|refine gV (dh (b:=aE) I I (decide_eq_false (by simp))) ?_|refine gV (aJ (i:=0) aI.ty I I I) ?_|refine gV (dW (i:=3) bM.eq I I) ?_|refine GB ?_)
  refine H9 [0] ?_;clear adM akh hls air hy jm
  by_cases c0:(Da s r.1).1≠0
  · have Il:=aki c0
    refine aT (lz aF.en I I) (λw hm=>Il _ hm.below) I I I ?_;intro _ _;unfold aj';refine zL ?_
    try refine GA ?_
    refine aY I λg9'=>?_;rw[w_];refine zL ?_;refine aV (i:=1) (cs':=HV.toArray) I I I hsz lh hsz ?_;refine zL ?_
    repeat(first|refine GC ?_|refine gV (dh (b:=aB) I I (decide_eq_true c0)) ?_|refine GB ?_)
    exact dQ
  have c1:(Da s r.1).1=0:=rC c0;have Il:=akj c1;obtain⟨b,T,N,hk⟩:=Mv c1;clear akj aki Mv c0 c1 hx;generalize xz s r=m at*;refine aT (lz aF.en I I) (λw hm=>Il _ hm.below) I I I ?_;intro y hy
  conv=>arg 8;simp only[zJ,df,ret,id_eq,Tr]
  conv=>arg 7;simp only[Tr]
  try refine GA ?_
  refine aY I λg9=>?_;rw[w_];refine zL ?_;refine aV (i:=2) (cs':=(y.cells m).toArray) I I I (sr y m) hy.one hsz ?_;refine zL ?_;have UG:=hk.toMdGood;have hrun:=λ(q:List UInt8) w' h hq=>CR (aP (y.cells m).toArray) m b T N (vo:=y.vo) (vn:=y.vn) (vt:=y.vt) (vp:=y.vp) (vr:=y.vr) (va:=y.va) (vg:=y.vg) q w' h hk.toMdFit hq;have agw:=λ(q:List UInt8) w' h hq=>L7 (aP (y.cells m).toArray) m (vo:=y.vo) (vn:=y.vn) (vt:=y.vt) (vp:=y.vp) (vr:=y.vr) (va:=y.va) (vg:=y.vg) q w' h UG hq;have ais:=λ(q:List UInt8) w' (h:JC w' (aP (y.cells m).toArray) m y.vo y.vn y.vt y.vp y.vr y.va y.vg) hq=>L8 (aP (y.cells m).toArray) m q w' h UG hq
  repeat(first|refine GA ?_|refine gV (aJ (i:=2) aI.ty I I (sr y m)) ?_)
  by_cases c2:2000<tx.length
  · refine aT (gh aF.en I I I) (λw' hm=>agw tx w' (hy.mdr w' (hm.get (i:=1) I)) c2 J) I I I ?_
    intro _ _;refine zL ?_
    try refine GA ?_
    refine aY I λg11=>aV (i:=3) (cs':=#[ak aj 0 0,ap av 0,ap av 0]) I I I I I I ?_;refine zL ?_
    repeat(first|refine GA ?_|refine gV (aJ (i:=2) aI.ty I I (sr y m)) ?_)
    refine aT (gh aF.en I I I) (λw' hm=>ais tx w' (hy.mdr w' (hm.get (i:=1) I)) J) I I I ?_;rintro⟨x1,x2⟩ _;refine zL ?_
    try refine GA ?_
    exact dQ
  refine aT (gh aF.en I I I) (λw' hm=>hrun tx w' (hy.mdr w' (hm.get (i:=1) I)) J) I I I ?_;intro va _
  conv=>arg 8;simp only[zJ,df,ret,id_eq,AP]
  conv=>arg 7;simp only[AP,Pu]
  try refine GA ?_
  refine aU (i:=3) I λ_ jm=>?_;refine aY I λg11=>?_;refine aV (i:=4) (cs':=Pu va (lq m b tx)) I I I I (su jm) I ?_;refine zL ?_
  repeat(first|refine GA ?_|refine gV (aJ (i:=2) aI.ty I I (sr y m)) ?_)
  refine aT (gh aF.en I I I) (λw' hm=>ais tx w' (hy.mdr w' (hm.get (i:=1) I)) J) I I I ?_;rw[DQ hk.lZ J];rintro⟨x1,x2⟩ _
  conv=>arg 8;simp only[zJ,df,ret,id_eq,VG]
  conv=>arg 7;simp only[VG]
  have CS:=tH (o:=m.o) (N:=m.N) (tags:=m.tags) (n:=(m.of.length:Int)) (by have:=hk.some;omega) hk.tag tx (tx.length+1) 0;have OU:=adF UG CS;rw[show l_ m.o m.N m.tags tx (tx.length+1) 0=wD m.o m.N m.tags tx from I]at OU;have wY:=λh20 t f hO=>adL hk (L:=wD m.o m.N m.tags tx) (n:=tx.length) (OU h20) (t:=t) (f:=f) hO;have wY:_->∀t f,_->((lq m b tx).2.1≠0->(lq m b tx).2.1≠14->_)/\((lq m b tx).2.1=0->_/\(lq m b tx).2.2=tx.length/\(_\/(_/\_/\(lq m b tx).1=_))):=wY;have De:=hk.md;clear CS hrun agw ais;generalize lq m b tx=A at*;generalize iD m (wD m.o m.N m.tags tx).1=W at*;generalize n0 m (wD m.o m.N m.tags tx).1=P at*;generalize (wD m.o m.N m.tags tx).2.2=bd at*;obtain⟨ea,oa,pa⟩:=A;unfold Pu;dsimp only at wY⊢;have hO:=λvw w' (h:JC w' (aP (y.cells m).toArray) m y.vo y.vn y.vt y.vp y.vr y.va y.vg) hs=>TA (du m.g.aQ m.g.bB y.vp) vw m.g W w' h.Hm hs;have hD:=λva t w' (h:JC w' (aP (y.cells m).toArray) m y.vo y.vn y.vt y.vp y.vr y.va y.vg) ht hc=>Tw (du m.g.aQ m.g.bB y.vp) va m.g t w' h.Hm ht hc;have hU:=λva t w' (h:JC w' (aP (y.cells m).toArray) m y.vo y.vn y.vt y.vp y.vr y.va y.vg) ht hc=>adI (du m.g.aQ m.g.bB y.vp) va m.g t w' h.Hm ht hc;have hEq:∀v v' (l:List bJ) w',Sl w' v l.length (l.flatMap dr)->Sl w' v' l.length (l.flatMap dr)->Calls aC 13 #[v,v'] w' (cJ (ret (.bool aB)) w'):=λv v' l w' h h'=>by
    have:=Hj v v' l l w' h h'
    rwa [decide_eq_true (rfl:l=l)]at this
  refine n' (i:=5) I λbW cW hvW k1 k2=>?_;subst hvW
  by_cases c4:20<W.length
  · repeat(first|refine GC ?_|refine gV (dW (i:=5) bM.eq I I) ?_|refine gV (eO (b:=aB) I I (decide_eq_true J)) ?_|refine GB ?_)
    exact dQ
  have wY:=wY J
  by_cases c14:oa=14
  · subst c14
    repeat(first|refine GC ?_|refine gV (aw (v:=ap av 14) aI.ty I (aD (i:=4) I I)) ?_|refine gV (dW (i:=5) bM.eq I I) ?_|refine gV (eO (b:=aE) I I (decide_eq_false J)) ?_|refine GB ?_)
    exact dQ
  repeat(first|refine GC ?_|refine gV (aw (v:=ap av oa) aI.ty I (aD (i:=4) I I)) ?_|refine gV (dc (b:=aE) I I (decide_eq_false c14)) ?_|refine gV (aW (cs:=[ap av m.g.aQ,ap av m.g.bB,y.vp]) aI.ty I I (λj v h=>aD (i:=2) I (om (iE _ _ _) h))) ?_|refine gV (dW (i:=5) bM.eq I I) ?_|refine gV (eO (b:=aE) I I (decide_eq_false J)) ?_|refine GB ?_)
  refine aT (gh aF.en I I I) (λw' hm=>hO _ w' (hy.mdr w' (hm.get (i:=1) I)) (Sl.dF (hm.get (i:=5) I))) I I I ?_;rintro⟨t,f,vk,F⟩ ⟨ho,CZ,WR⟩;obtain⟨n1,n2⟩:=wY t f ho;clear ho hO wY
  conv=>arg 8;simp only[zJ,df,ret,id_eq,Hi]
  conv=>arg 7;simp only[Hi]
  try refine GA ?_
  refine aY I λg15=>?_;refine mX (i:=7) I (λw h=>BN h) λhk=>?_;refine aV (i:=8) (cs':=#[ap av t.prod,ap av t.tok,vk]) I I I I (by simp only[cY,db,hk.1];rfl) I ?_;refine zL ?_
  by_cases c0:oa=0
  · subst c0
    obtain⟨rfl,rfl,n3⟩:=n2 rfl;rw[show decide ((0:Int)≠0)=aE by decide];rcases n3 with n3|⟨rfl,n3,rfl⟩
    · rcases n3 with rfl|rfl
      · repeat(first|refine GA ?_|refine gV (aw (v:=ap av 0) aI.ty I (aD (i:=4) I I)) ?_)
        exact dQ
      repeat(first|refine GA ?_|refine gV (aw (v:=ap av 0) aI.ty I (aD (i:=4) I I)) ?_)
      exact dQ
    cases b with
    | true=>
      repeat(first|refine GA ?_|refine gV (aw (v:=ap av 0) aI.ty I (aD (i:=4) I I)) ?_|refine gV (aw (v:=ap av 1) aI.ty I (aD (i:=2) I (jH 3 (iE _ _ _) (by rw[jC,De];rfl) I))) ?_|refine gV (aW (cs:=[ap av m.g.aQ,ap av m.g.bB,y.vp]) aI.ty I I (λj v h=>aD (i:=2) I (om (iE _ _ _) h))) ?_|refine gV (aJ (i:=8) aI.ty I I I) ?_)
      refine aT (gh aF.en I I I) (λw' hm=>hD _ t w' (hy.mdr w' (hm.get (i:=1) I)) (FJ CZ WR (hm.get (i:=7) I)) n3) I I I ?_;intro ve _
      conv=>arg 8;simp only[zJ,df,ret,id_eq,eS]
      conv=>arg 7;simp only[eS,df]
      repeat(first|refine GA ?_|refine gV (aw (v:=va) aI.ty I (aD (i:=4) I I)) ?_)
      refine l5 (gh aF.en I I I) (λw' hm=>hEq va ve _ w' (Sl.dF (hm.get (i:=3) I)) (Sl.dF (hm.get (i:=9) I))) I I I I I ?_;intro _ _
      repeat(first|refine GC ?_|refine gV (aw (v:=ap av (tx.length:Int)) aI.ty I (aD (i:=4) I I)) ?_|refine gV (dc (b:=aB) I I (decide_eq_true I)) ?_|refine GB ?_)
      exact dQ
    | false=>
      repeat(first|refine GA ?_|refine gV (aw (v:=ap av 0) aI.ty I (aD (i:=4) I I)) ?_|refine gV (aw (v:=ap av 2) aI.ty I (aD (i:=2) I (jH 3 (iE _ _ _) (by rw[jC,De];rfl) I))) ?_|refine gV (aW (cs:=[ap av m.g.aQ,ap av m.g.bB,y.vp]) aI.ty I I (λj v h=>aD (i:=2) I (om (iE _ _ _) h))) ?_|refine gV (aJ (i:=8) aI.ty I I I) ?_)
      refine aT (gh aF.en I I I) (λw' hm=>hU _ t w' (hy.mdr w' (hm.get (i:=1) I)) (FJ CZ WR (hm.get (i:=7) I)) n3) I I I ?_;intro ve _
      conv=>arg 8;simp only[zJ,df,ret,id_eq,eS]
      conv=>arg 7;simp only[eS,df]
      repeat(first|refine GA ?_|refine gV (aw (v:=va) aI.ty I (aD (i:=4) I I)) ?_)
      refine l5 (gh aF.en I I I) (λw' hm=>hEq va ve _ w' (Sl.dF (hm.get (i:=3) I)) (Sl.dF (hm.get (i:=9) I))) I I I I I ?_;intro _ _
      repeat(first|refine GC ?_|refine gV (aw (v:=ap av (tx.length:Int)) aI.ty I (aD (i:=4) I I)) ?_|refine gV (dc (b:=aB) I I (decide_eq_true I)) ?_|refine GB ?_)
      exact dQ
  · by_cases cb:bd=0
    · have hf:=(n1 c0 c14).resolve_left (λh=>h cb)
      rw[decide_eq_false (λh=>h cb)]
      repeat(first|refine GC ?_|refine gV (aw (v:=ap av oa) aI.ty I (aD (i:=4) I I)) ?_|refine gV (dh (b:=aB) I I (decide_eq_true c0)) ?_|refine gV (dh (b:=aB) I I (decide_eq_true hf)) ?_|refine GB ?_)
      exact dQ
    rw[decide_eq_true cb]
    repeat(first|refine GC ?_|refine gV (aw (v:=ap av oa) aI.ty I (aD (i:=4) I I)) ?_|refine gV (dh (b:=aB) I I (decide_eq_true c0)) ?_|refine GB ?_)
    exact dQ
end wholeTree
end Go.Proofs.YtahecdbmhhpanaaGreat

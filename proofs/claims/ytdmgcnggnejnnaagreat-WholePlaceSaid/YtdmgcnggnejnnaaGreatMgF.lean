/- Part 6 of what WholePlace needs: WhO, BuP, WhP, InC, WhQ, BuC, Half, WhC, WhM, Fill, WhR, WhK, CountP, CountQ, CountE, ClimbF, FrameS, WholePlaceW. -/
import Derived.Test.YtdmgcnggnejnnaaGreatMgE
namespace Go.Proofs.YtdmgcnggnejnnaaGreat
set_option linter.unusedVariables false
set_option linter.unusedSimpArgs false
open _root_.Bool renaming true->aB,false->aD,true_and->rP,true_or->uR,false_or->LL
open _root_.Decidable renaming of_not_not->rQ
open _root_.Go.Addr renaming add->rl
open _root_.Go.Addr.mk renaming injEq->D5
open _root_.Go.Instr renaming build->dm,fill->lT,slice->uy,makeInterface->acu
open _root_.Go.IntKind renaming i64->av
open _root_.Go.Made renaming depth->acv
open _root_.Go.Proofs.Tryz renaming prog->aC
open _root_.Go.Value renaming slice->ak,int->ap,pointer->aH,agg->aP,oneCell'->f_,cells->wo
open _root_.Go.Value.slice renaming injEq->kr
open _root_.Int renaming toNat_natCast->cX
open _root_.List renaming getElem?_eq_getElem->bm,getD_eq_getElem?_getD->bD,length_append->bK,getElem?_eq_some_iff->cU,getElem_mem->bV,length_cons->cO,drop_eq_getElem_cons->dJ,all_cons->cV,mem_singleton->dH,length_map->dw,mem_cons->df,all_nil->dc,append_nil->dQ,map_append->eb,drop_of_length_le->fS,take_of_length_le->ig,mem_map->eI,getElem?_toArray->jh,length_drop->ik,nil_append->fN,length_take->gZ,take_append_of_le_length->BR,drop_zero->pf,mem_filter->pN,filter_cons_of_neg->acw,filter_cons_of_pos->acx,filter_nil->acy
open _root_.List.cons renaming inj->oc
open _root_.Nat renaming le_refl->aT,zero_le->bC,zero_add->cI,le_trans->eC,le_of_ble_eq_true->mW,sub_zero->GD
open _root_.Option renaming some->ah,none->aj,getD_some->iz
open _root_.Option.some renaming injEq->dg
set_option maxHeartbeats 16000000
namespace xi
open Go.RowKit cT ey cg dj gu je aM c_ eB nw AP qE ph
theorem aha(R:List Row)(T:List Int):lz (zh lS R T) aB ([(0,0,1)],0,0) 1=([(1,0),(2,0),(1,1),(3,1),(3,0)],0,1):=by kernel_rfl
theorem ahb(R:List Row)(T:List Int):lz (zh lS R T) aB ([(1,0,1)],0,0) 1=([],13,1):=by kernel_rfl
theorem ahc(R:List Row)(T:List Int):lz (zh lS R T) aB ([(0,0,1),(1,1,2),(0,2,3)],0,0) 3=([(1,0),(2,0),(1,2),(2,1),(1,1),(3,1),(3,2),(3,0)],0,3):=by kernel_rfl
theorem ahd(R:List Row)(T:List Int):lz (zh lS R T) aB ([(0,0,1),(0,1,2)],0,0) 2=([(1,0),(2,0),(1,2),(2,1),(1,1),(3,1),(3,2),(3,0)],0,2):=by kernel_rfl
structure ake(r:Int×List Row×List Int)(T N:Nat):Prop where
 lx:Uo lS r
 ok:(CI lS r.1).1=0
 fit:MdFit (wL lS r) aB T N
 w1:lA (wL lS r) aB [97]=([(1,0),(2,0),(1,1),(3,1),(3,0)],0,1)
 w2:lA (wL lS r) aB [32]=([],13,1)
 w3:lA (wL lS r) aB [97,32,97]=([(1,0),(2,0),(1,2),(2,1),(1,1),(3,1),(3,2),(3,0)],0,3)
 w4:lA (wL lS r) aB [97,97]=([(1,0),(2,0),(1,2),(2,1),(1,1),(3,1),(3,2),(3,0)],0,2)
theorem acz:∃r T N,ake r T N:=by
 obtain⟨R,T,hx,hc,ht⟩:=acm;have e0:(CI lS 0).1=0:=by rw[ach]
 obtain⟨b,T1,N1,hf⟩:=OY hx e0;have hm:wL lS (0,R,T)=zh lS R T:=by unfold wL;rw[if_pos (by rw[ach])]
 obtain rfl:b=true:=by
  have:=hf.md;rw[hm]at this
  cases b with
  |true=>rfl
  |false=>exact absurd this (by show(1:Int)≠2;decide)
 obtain⟨l1,l2,l3,l4⟩:=aeJ hc ht;have hl:∀s:List UInt8,qH (zh lS R T).o (zh lS R T).N (zh lS R T).tags s=xy R T s (s.length+1) 0:=fun s=>by
  show qH (uu R 256) (RN R) T s=_
  rw[W_ (LF hc),aiN R (pe hc).1.le]
 refine⟨_,T1,N1,hx,e0,hf,?_,?_,?_,?_⟩;rw[hm,lA,hl];exact(congrArg (fun x=>lz (zh lS R T) aB x 1) l1).trans (aha R T);rw[hm,lA,hl];exact(congrArg (fun x=>lz (zh lS R T) aB x 1) l2).trans (ahb R T);rw[hm,lA,hl];exact(congrArg (fun x=>lz (zh lS R T) aB x 3) l3).trans (ahc R T);rw[hm,lA,hl];exact(congrArg (fun x=>lz (zh lS R T) aB x 2) l4).trans (ahd R T)
end xi
namespace cg
open aM dN ee dx bP c_ o8
open gK (sE og mH sF)
open wZ (dW)
section
variable{g:dF}{T N:Nat}{Nx:List (List Int)}{S:List (List bP.Item)}
abbrev bR(g:dF)(T:Nat)(Nx:List (List Int))(S:List (List bP.Item))(W:List Int):List bX×Nat×Int:=tR g.az (jC (fY g.az T Nx S S.length)) (fK (fa T Nx S.length)) T W [0] 0 []
theorem hZ.top(h:hZ g T N Nx S):∀q,q<S.length->∀it∈S.getD q [],it.1=(g.az.length:Int)->it.2.2=(T:Int):=T_ h.wide h.Cq h.t30 h.all
theorem hZ.pos(h:hZ g T N Nx S):0<S.length:=(cU.1 h.law.start).1
theorem hZ.akf(h:hZ g T N Nx S):∀p x,x∈dA g.az p->x.1=1\/(x.1=2/\0<=x.2/\x.2<(N:Int)):=fun p x hx=>by
 rcases oK (G5 h.xw x hx)with⟨h1,_⟩|⟨h1,h2,h3⟩
 exact .inl h1;exact .inr ⟨h1,h2,by rw[h.bB]at h3;exact h3⟩
theorem acA(h:hZ g T N Nx S){W:List Int}(hW:∀x∈W,0<=x/\x<(T:Int))(h0:(bR g T Nx S W).2.2=0):∃t,eH g.az t (2,0) 0/\upE g.az t=(bR g T Nx S W).1/\fU g.az t=W:=by
 obtain⟨t,h1,h2,h3⟩:=Jm h.aeC h.law h.wide h.Cq h.t30 h.heads h.top W (out:=[]) hW .start rfl h0;refine⟨t,h1,?_,h3⟩;rw[<-h2];unfold L9;rw[if_neg (by have:=sF h1;omega)]
theorem ahe(h:hZ g T N Nx S)(hc:AL g=aB){W:List Int}(hW:∀x∈W,0<=x/\x<(T:Int)){t:Tree}(ht:eH g.az t (2,0) 0)(hy:fU g.az t=W):(bR g T Nx S W).2.2=14\/((bR g T Nx S W).2.2=0/\(bR g T Nx S W).1=upE g.az t/\(bR g T Nx S W).2.1=W.length):=by
 obtain⟨s,ρ,h1,h2⟩:=Jk (h.lrH hc hW) ht hy;have:=(AN h.aeC h.law h.heads hW h1 (by intro q hq;rw[dH.1 hq];exact h.pos) I (fun q ρ e=>by obtain⟨rfl,rfl⟩:=oc e;exact h2) (by simp) 2001 [] 0 W [] (bC _) (bC _) (bC _) I).1 I;rw[<-G2]at this;rcases this with zn|e
 exact .inl zn;refine .inr ?_;unfold bR;rw[e];refine⟨rfl,?_,rfl⟩;show[]++([]++L9 g.az t)=_
 rw[fN,fN];unfold L9;rw[if_neg (by have:=sF ht;omega)]
theorem ai5{W:List Int}:(bR g T Nx S W).2.1<=W.length:=by
 have:=UE (l:=g.az) (act:=jC (fY g.az T Nx S S.length)) (gt:=fK (fa T Nx S.length)) (T:=T) W [0] 0 []
 rwa [cI]at this
theorem Jo(h:hZ g T N Nx S)(hM:∀i:Nat,i<N->∃ws,pI g.az (2,(i:Int)) ws){W:List Int}(hW:∀x∈W,0<=x/\x<(T:Int)):∃v,pI g.az (2,0) (W.take (bR g T Nx S W).2.1++v):=by
 obtain⟨σ',B7,h1,h2⟩:=xf h.aeC h.law h.wide h.Cq h.t30 h.heads h.top W (out:=[]) hW .start;obtain⟨v,hv⟩:=SE h.law h.wide h.Cq h.t30 hM h.akf h1;rw[h2,GD]at hv;exact⟨v,hv⟩
theorem ahf(h:hZ g T N Nx S)(hc:AL g=aB){W:List Int}(zn:(bR g T Nx S W).2.2≠14)(hl:(bR g T Nx S W).2.1<W.length):∀v,¬pI g.az (2,0) (W.take ((bR g T Nx S W).2.1+1)++v):=fun v hd=>by
 obtain⟨t,h1,h2⟩:=og hd 0;rw[mH h1]at h2;have hW:∀x∈W.take ((bR g T Nx S W).2.1+1)++v,0<=x/\x<(T:Int):=by
  rw[<-h2,<-h.aQ];exact Fb h.xw h1 (sF h1)
 obtain⟨s,ρ,k1,k2⟩:=Jk (h.lrH hc hW) h1 h2;have hlen:(W.take ((bR g T Nx S W).2.1+1)).length=(bR g T Nx S W).2.1+1:=by rw[gZ];omega
 have:=(AN h.aeC h.law h.heads hW k1 (by intro q hq;rw[dH.1 hq];exact h.pos) I (fun q ρ e=>by obtain⟨rfl,rfl⟩:=oc e;exact k2) (by simp) 2001 [] ((bR g T Nx S W).2.1+1) W [] (bC _) J (by rw[pf,bK];omega) (by rw[pf,BR J,List.take_take,Nat.min_self])).2;rw[<-G2]at this;rcases this with h|h
 exact zn h;unfold bR at h;omega
theorem ri{W:List Int}{n:Nat}(hc:fB g W=0):fB g (W.take n)=0:=by
 have h:=OH hc;obtain⟨hg,h3,_⟩:=ko hc;exact Jg hg (by rw[gZ];omega) (wH _ h)
theorem aeL(h:hZ g T N Nx S)(hc:AL g=aB){W:List Int}(h_:fB g W=0)(hM:∀i:Nat,i<N->∃ws,pI g.az (2,(i:Int)) ws)(zn:(bR g T Nx S W).2.2≠14):gX g (W.take (bR g T Nx S W).2.1)=aB/\((bR g T Nx S W).2.1≠W.length->gX g (W.take ((bR g T Nx S W).2.1+1))=aD):=by
 have hW:∀x∈W,0<=x/\x<(T:Int):=by rw[<-h.aQ];exact(ko h_).2.2
 have hle:=ai5 (g:=g) (T:=T) (Nx:=Nx) (S:=S) (W:=W);refine⟨mG.2 ⟨ri h_,Jo h hM hW⟩,fun hne=>?_⟩
 cases hb:gX g (W.take ((bR g T Nx S W).2.1+1))with
 |false=>rfl
 |true=>
  obtain⟨_,v,hd⟩:=mG.1 hb;exact absurd hd (ahf h hc zn J v)
end
section
open gK (qS afj LB GO xg B5 zc xf)
variable{g:dF}{T N:Nat}
abbrev cR(g:dF)(T N:Nat)(W:List Int):List bX×Nat×Int:=gK.ja g.az (qS g T N) T W [.sym (2,0)] 0 []
end
end cg
namespace ph
open aM dN gK qE bP c_ je ee o8 dx wZ cg
structure LM(m:Md)(b:Bool)(T N:Nat):Prop extends MdFit m b T N where
 hM:∀i:Nat,i<N->∃ws,pI m.g.az (2,(i:Int)) ws
 kLL:b=aB->m.rows=GP m.g T N/\Jc m.g.az (oe N m.g.az) T N=aB
 kLR:b=aD->∃Nx S,hZ m.g T N Nx S/\m.A=fY m.g.az T Nx S S.length/\m.G=fa T Nx S.length/\AL m.g=aB
theorem wY{g:dF}{N:Nat}(hg:cD g=0)(hN:g.bB=N)(h:(y9 g).any (· ==aD)=aD):∀i:Nat,i<N->∃ws,pI g.az (2,(i:Int)) ws:=by
 obtain⟨⟨_,_,m1⟩,hS2⟩:=Gx hg hN;have hM:(mS N g.az).M.any (· ==aD)=false:=by
  have e:g.bB.toNat=N:=by omega
  rw[<-e];exact h
 intro i hi;refine hS2.2 i ?_;have Pb:i<(mS N g.az).M.length:=by rw[m1];exact hi
 rw[bD,bm Pb];rw[List.any_eq_false]at hM;have:=hM _ (bV Pb);show(mS N g.az).M[i]=aB
 cases hb:(mS N g.az).M[i]with
 |true=>rfl
 |false=>rw[hb]at this;exact absurd I this
theorem Xh{s:Sp}{r:Int×List c_.Row×List Int}(hx:Uo s r)(h:(CI s r.1).1=0):∃b T N,LM (wL s r) b T N:=by
 obtain⟨b,T,N,hf⟩:=OY hx h;refine⟨b,T,N,hf,?_,?_,?_⟩
 all_goals
  obtain⟨h1,-,h3,h4⟩:=GH (s:=s) (e:=r.1) (m:=(CI s r.1).2) (by rw[<-h]);obtain⟨hG,OB⟩:=wD hx h1;obtain⟨tT,nN,md⟩:=(⟨hf.tT,hf.nN,hf.md⟩:_/\_/\_);unfold wL at tT nN md⊢
 ·rcases h4 with⟨_,Dj⟩|⟨_,_,_,Dj⟩
  ·rw[Dj,if_pos I]at nN⊢
   exact wY hG nN h3
  rw[Dj,if_neg akV]at nN⊢;exact wY hG nN h3
 ·intro hb
  subst hb;rcases h4 with⟨h5,Dj⟩|⟨_,_,_,Dj⟩
  ·rw[Dj,if_pos I]at tT nN⊢
   have e1:(cL s).aQ.toNat=T:=by have:(cL s).aQ=T:=tT;omega
   have e2:(cL s).bB.toNat=N:=by have:(cL s).bB=N:=nN;omega
   refine⟨by rw[<-e1,<-e2];rfl,?_⟩;rw[<-e1,<-e2];unfold Jc;exact decide_eq_true h5
  rw[Dj,if_neg akV]at md;exact absurd md (by show(2:Int)≠1;decide)
 intro hb;subst hb;rcases h4 with⟨h5,Dj⟩|⟨_,h5,h6,Dj⟩
 ·rw[Dj,if_pos I]at md
  exact absurd md (by show(1:Int)≠2;decide)
 rw[Dj,if_neg akV]at tT nN⊢;obtain⟨T',N',Nx,S,hM⟩:=B8 h5;obtain rfl:T'=T:=by have:=hM.aQ;have:(cL s).aQ=T:=tT;omega
 obtain rfl:N'=N:=by have:=hM.bB;have:(cL s).bB=N:=nN;omega
 exact⟨Nx,S,hM,hM.dG,hM.gos,by show AL (cL s)=aB;unfold AL;rw[h5,h6];rfl⟩
def nK(m:Md)(l:List Tok):List Tok:=l.filter fun t=>decide (0<=oy m t)
def iq(m:Md)(l:List Tok):List Int:=(nK m l).map (oy m)
def tW(m:Md)(b:Bool)(T:Nat)(W:List Int)(p:PS)(a:Nat)(out:List bX):List bX×Nat×Int:=
 if b then ja m.g.az (fun n col=>jW m.rows col n) T W p.1 a out else tR m.g.az (jC m.A) (fK m.G) T W p.2 a out
theorem acB{m:Md}{b:Bool}{T:Nat}(hT:m.g.aQ=T)(p:PS)(a:Nat)(out:List bX):tW m b T [] p a out=(out++(oh m b p a).2,a,(oh m b p a).1):=by
 have e:m.g.aQ.toNat=T:=by omega
 unfold tW oh;rw[e]
 cases b with
 |true=>simp only[if_true];rw[ja]
 |false=>simp only[Bool.false_eq_true,if_false];rw[tR]
theorem Xi{m:Md}{b:Bool}{T:Nat}(t:Int)(W:List Int)(p:PS)(a:Nat)(out:List bX):tW m b T (t::W) p a out=if(iO m b p a t).1≠0 then(out,a,(iO m b p a t).1)else tW m b T W (iO m b p a t).2.1 (a+1) (out++(iO m b p a t).2.2):=by
 cases b<;>rfl
theorem SK{m:Md}{b:Bool}{T:Nat}(hT:m.g.aQ=T):∀(l:List Tok) (p:PS) (a:Nat) (out:List bX),(match SI m b l p a out with
 |(aj,aaW,p',a')=>tW m b T (iq m l) p a out=(aaW++(oh m b p' a').2,a',(oh m b p' a').1)/\a'=a+(iq m l).length
 |(ah x,aaW,_,a')=>tW m b T (iq m l) p a out=(aaW,a',x.1)/\x.1≠0/\a<=a'/\∃h:a'-a<(nK m l).length,(nK m l)[a'-a].2.1=x.2)
 |[],p,a,out=>⟨acB hT p a out,rfl⟩
 | t ::l,p,a,out=>by
  rw[G8]
  by_cases c:oy m t<0
  ·rw[if_pos c]
   have e:nK m (t::l)=nK m l:=by
    unfold nK;rw[acw];simpa using c
   have ew:iq m (t::l)=iq m l:=by unfold iq;rw[e]
   rw[ew,e];exact SK hT l p a out
  rw[if_neg c];have e:nK m (t::l)=t::nK m l:=by
   unfold nK;rw[acx];simpa using c
  have ew:iq m (t::l)=oy m t::iq m l:=by unfold iq;rw[e,List.map_cons]
  rw[ew,Xi]
  by_cases d:(iO m b p a (oy m t)).1≠0
  ·rw[if_pos d]
   refine⟨by rw[if_pos d],d,aT _,by rw[e];simp,?_⟩;simp only[e,Nat.sub_self,List.getElem_cons_zero]
  rw[if_neg d,if_neg d];have ih:=SK (b:=b) hT l (iO m b p a (oy m t)).2.1 (a+1) (out++(iO m b p a (oy m t)).2.2);generalize SI m b l (iO m b p a (oy m t)).2.1 (a+1) (out++(iO m b p a (oy m t)).2.2)=R at*;obtain⟨q,aaW,p',a'⟩:=R
  cases q with
  | none=>
   obtain⟨h1,h2⟩:=ih;exact⟨h1,by rw[h2,cO];omega⟩
  | some x=>
   obtain⟨h1,h2,h3,h4,h5⟩:=ih;refine⟨h1,h2,by omega,by rw[e,cO];omega,?_⟩;simp only[e];rw[List.getElem_cons,dif_neg J]
   simpa[show a'-a-1=a'-(a+1)by omega]using h5
theorem ai6{m:Md}{b:Bool}{T N:Nat}(h:LM m b T N){W:List Int}(hc:fB m.g W=0):gX m.g (W.take (tW m b T W Di 0 []).2.1)=aB/\
 ((tW m b T W Di 0 []).2.2≠14->(tW m b T W Di 0 []).2.1<W.length->gX m.g (W.take ((tW m b T W Di 0 []).2.1+1))=aD):=by
 have hw:∀x∈W,0<=x/\x<(T:Int):=by rw[<-h.tT];exact(ko hc).2.2
 cases b with
 | true=>
  obtain⟨k1,k2⟩:=h.kLL rfl;have e:tW m aB T W Di 0 []=ja m.g.az (qS m.g T N) T W [.sym (2,0)] 0 []:=by
   show ja m.g.az (fun n col=>jW m.rows col n) T W [.sym (2,0)] 0 []=_
   rw[k1];exact run_eq h.De h.nN hw
  rw[e];exact⟨OK h.De h.nN h.hM hc,fun zn hl=>abY h.De h.tT h.nN k2 zn hl⟩
 | false=>
  obtain⟨Nx,S,k1,k2,k3,k4⟩:=h.kLR rfl;have e:tW m aD T W Di 0 []=bR m.g T Nx S W:=by
   show tR m.g.az (jC m.A) (fK m.G) T W [0] 0 []=_
   rw[k2,k3]
  rw[e];refine⟨mG.2 ⟨ri hc,Jo k1 h.hM hw⟩,fun zn hl=>(aeL k1 k4 hc h.hM zn).2 J⟩
end ph
namespace cg
open Go.RowKit cT ey
def AS:List Int->Int->Int->Int
 |[],_,_=> -1
 |y::l,x,k=>if x=y then k else AS l x (k+1)
theorem HM(v:Value)(l:List Int)(x:Int)(w:World)(hs:Sl w v l.length (l.flatMap cT.eX)):
 Calls aC 19 #[v,ap av x] w (cJ (ret (ap av (AS l x 0))) w):=by
 obtain⟨base,cap,rfl,tb,sc,fZ⟩:=hs;unfold maxLen at sc;refine enter (args:=[ak base l.length cap,ap av x]) (n:=19) Tryz.func19 I I I ?_
 repeat(first|refine qv I (qp I) I I ?_|refine lY ?_|refine bY ?_|refine a_ ?_|refine U5 I ?_|refine U6 I ?_|refine pQ ?_|refine pR ?_|refine rX ?_|refine mX ?_|refine mY ?_|refine mZ ?_|refine lD ?_|refine kT ?_|refine kU ?_|refine j0 ?_|refine j_ I ?_|refine qv I (CZ bI.eq I) I I ?_|refine qv I (dT I I (qT J)) I I ?_|refine qv I (dT I I (qF J)) I I ?_|refine qv I (cP I I (qT J)) I I ?_|refine qv I (cP I I (qF J)) I I ?_|refine qv I (dh I I J J I) I I ?_)
 refine dU (ι:=Nat) (fun k=>k<=l.length/\AS l x 0=AS (l.drop k) x k) (fun k=>[(0,ak base l.length cap),(1,ap av x),(7,ap av l.length),(8,ap av (k:Int))]) (fun _=>[]) (fun k=>l.length-k) 0 ⟨bC _,rfl⟩ ?_;rintro k ⟨h1,h2⟩
 by_cases c2:k<l.length
 ·obtain⟨b,off,rfl,hr⟩:=fZ J
  have eK:=fun(L:List b9)=>hU (L:=L) kh hr c2 0 _ I;rw[dJ c2,AS]at h2;generalize l[k]=y at*
  by_cases c3:x=y
  ·rw[if_pos c3]at h2
   rw[h2]
   repeat(first|refine qv I (qp I) I I ?_|refine lY ?_|refine bY ?_|refine a_ ?_|refine U5 I ?_|refine U6 I ?_|refine pQ ?_|refine pR ?_|refine rX ?_|refine mX ?_|refine mY ?_|refine mZ ?_|refine lD ?_|refine kT ?_|refine kU ?_|refine j0 ?_|refine j_ I ?_|refine qv I (aR bI.eq aI.ty I I c2) I I ?_|refine qv I (aw (v:=ap av y) aI.ty I (eK _)) I I ?_|refine qv I (cP (b:=aB) I I (decide_eq_true c3)) I I ?_|refine qv I (CZ bI.eq I) I I ?_|refine qv I (dT I I (qT J)) I I ?_|refine qv I (dT I I (qF J)) I I ?_|refine qv I (cP I I (qT J)) I I ?_|refine qv I (cP I I (qF J)) I I ?_|refine qv I (dh I I J J I) I I ?_)
   exact dR
  rw[if_neg c3]at h2
  repeat(first|refine qv I (qp I) I I ?_|refine lY ?_|refine bY ?_|refine a_ ?_|refine U5 I ?_|refine U6 I ?_|refine pQ ?_|refine pR ?_|refine rX ?_|refine mX ?_|refine mY ?_|refine mZ ?_|refine lD ?_|refine kT ?_|refine kU ?_|refine j0 ?_|refine j_ I ?_|refine qv I (aR bI.eq aI.ty I I c2) I I ?_|refine qv I (aw (v:=ap av y) aI.ty I (eK _)) I I ?_|refine qv I (cP (b:=aD) I I (decide_eq_false c3)) I I ?_|refine qv I (CZ bI.eq I) I I ?_|refine qv I (dT I I (qT J)) I I ?_|refine qv I (dT I I (qF J)) I I ?_|refine qv I (cP I I (qT J)) I I ?_|refine qv I (cP I I (qF J)) I I ?_|refine qv I (dh I I J J I) I I ?_)
  exact bO (k+1) ⟨by omega,h2⟩ (by show l.length-(k+1)<l.length-k;omega)
 ·rw[List.drop_eq_nil_of_le J]at h2
  rw[h2]
  repeat(first|refine qv I (qp I) I I ?_|refine lY ?_|refine bY ?_|refine a_ ?_|refine U5 I ?_|refine U6 I ?_|refine pQ ?_|refine pR ?_|refine rX ?_|refine mX ?_|refine mY ?_|refine mZ ?_|refine lD ?_|refine kT ?_|refine kU ?_|refine j0 ?_|refine j_ I ?_|refine qv I (CZ bI.eq I) I I ?_|refine qv I (dT I I (qT J)) I I ?_|refine qv I (dT I I (qF J)) I I ?_|refine qv I (cP I I (qT J)) I I ?_|refine qv I (cP I I (qF J)) I I ?_|refine qv I (dh I I J J I) I I ?_)
  exact dR
end cg
namespace ph
open aM dN gK qE bP c_ je ee o8 dx wZ cg
theorem ahg{m:Md}{b:Bool}{T N:Nat}(h:LM m b T N){W:List Int}(hc:fB m.g W=0):
 ((tW m b T W Di 0 []).2.2=0->∃t,eH m.g.az t (2,0) 0/\(if b then xG m.g.az t else upE m.g.az t)=(tW m b T W Di 0 []).1/\fU m.g.az t=W)/\
 ∀t,eH m.g.az t (2,0) 0->fU m.g.az t=W->(tW m b T W Di 0 []).2.2=14\/((tW m b T W Di 0 []).2.2=0/\(tW m b T W Di 0 []).1=if b then xG m.g.az t else upE m.g.az t):=by
 have hw:∀x∈W,0<=x/\x<(T:Int):=by rw[<-h.tT];exact(ko hc).2.2
 cases b with
 | true=>
  obtain⟨k1,k2⟩:=h.kLL rfl;have e:tW m aB T W Di 0 []=ja m.g.az (qS m.g T N) T W [.sym (2,0)] 0 []:=by
   show ja m.g.az (fun n col=>jW m.rows col n) T W [.sym (2,0)] 0 []=_
   rw[k1];exact run_eq h.De h.nN hw
  rw[e];obtain⟨h1,h2⟩:=Ss h.De h.tT h.nN k2 (W:=W);exact⟨h1,fun t ht hy=>(h2 t ht hy).imp id fun⟨x,y,_⟩=>⟨x,y⟩⟩
 | false=>
  obtain⟨Nx,S,k1,k2,k3,k4⟩:=h.kLR rfl;have e:tW m aD T W Di 0 []=bR m.g T Nx S W:=by
   show tR m.g.az (jC m.A) (fK m.G) T W [0] 0 []=_
   rw[k2,k3]
  rw[e];exact⟨acA k1 hw,fun t ht hy=>(ahe k1 k4 hw ht hy).imp id fun⟨x,y,_⟩=>⟨x,y⟩⟩
theorem wI{l:List aM.Prod}{act:Nat->Nat->bP.Act}{gt:Nat->Int->Int}{col a:Nat}:∀(f:Nat) (σ:List Nat) (o:List bX),(dY l act gt col a f σ o).1=0\/(dY l act gt col a f σ o).1=13\/(dY l act gt col a f σ o).1=14
 |0,σ,o=> .inr (.inr (by unfold dY;rfl))
 | f +1,σ,o=>by
  unfold dY;split;exact .inr (.inr I);split;exact .inl I;split
  ·split
   exact .inr (.inr I);exact .inl I
  split
  ·split
   exact .inr (.inl I);split;exact .inr (.inr I);exact wI f _ _
  exact .inr (.inl I)
theorem acC{m:Md}{b:Bool}{p:PS}{a:Nat}{t:Int}:(iO m b p a t).1=0\/(iO m b p a t).1=13\/(iO m b p a t).1=14:=by
 cases b with
 |true=>
  rcases tA (l:=m.g.az) (nx:=jW m.rows t.toNat) (st:=p.1) (seen:=a) (t:=t) rfl with⟨h,_⟩|⟨x,r,o,a1,h1,h2,h3,h4,h5,h6⟩
  exact .inr h;exact .inl (congrArg Prod.fst h6)
 |false=>exact wI _ _ _
theorem aeM{m:Md}{b:Bool}{p:PS}{a:Nat}:(oh m b p a).1=0\/(oh m b p a).1=13\/(oh m b p a).1=14:=by
 cases b with
 |true=>
  rcases w6 (l:=m.g.az) (nx:=jW m.rows m.g.aQ.toNat) (st:=p.1) rfl with⟨h,_⟩|⟨a1,h1,h2⟩
  exact .inr h;exact .inl h2
 |false=>exact wI _ _ _
theorem LN{m:Md}{b:Bool}:∀(l:List Tok) (p:PS) (a:Nat) (out:List bX) (x:Int×Nat),(SI m b l p a out).1=ah x->x.1=13\/x.1=14
 |[],p,a,out,x,h=>by cases h
 | t ::l,p,a,out,x,h=>by
  rw[G8]at h
  by_cases c:oy m t<0
  rw[if_pos c]at h;exact LN l p a out x h;rw[if_neg c]at h
  by_cases d:(iO m b p a (oy m t)).1≠0
  ·rw[if_pos d]at h
   cases h
   exact acC.resolve_left d
  rw[if_neg d]at h;exact LN l _ _ _ x h
theorem G9:∀{l:List Tok} {e:Nat},B9 l e->l.Pairwise (fun s t=>s.2.1<t.2.1)/\∀t∈l,e<=t.2.1/\t.2.1<qJ l e
 |[],e,_=>⟨.nil,fun t h=>by cases h⟩
 | x::l,e,⟨h1,h2,h3⟩=>by
  obtain⟨k1,k2⟩:=G9 h3;have h4:=zj h3;refine⟨.cons (fun t ht=>?_) k1,fun t ht=>?_⟩;have:=(k2 t ht).1;omega;rcases df.1 ht with rfl|ht
  exact⟨by omega,by show _<qJ l _;omega⟩;obtain⟨q1,q2⟩:=k2 t ht;exact⟨by omega,q2⟩
theorem UL:∀{l:List Int} {k:Nat} {x j:Int},l.Pairwise (· < ·)->(h:k<l.length)->l[k]=x->AS l x j=j+k
 |y::l,0,x,j,_,_,h=>by rw[AS,if_pos (by simpa using h.symm)];simp
 |y::l,k+1,x,j,hp,hk,h=>by
  rw[List.pairwise_cons]at hp;have nu:k<l.length:=by simpa using hk
  have h':l[k]=x:=by simpa using h
  have:=hp.1 _ (bV nu);rw[AS,if_neg J,UL hp.2 nu h']
  push_cast;omega
theorem UM:∀{l:List Int} {x j:Int},(∀y∈l,y≠x)->AS l x j= -1
 |[],_,_,_=>rfl
 |y::l,x,j,h=>by
  rw[AS,if_neg (fun e=>h y (List.mem_cons_self ..) e.symm)];exact UM fun z hz=>h z (List.mem_cons_of_mem _ hz)
def jo(m:Md)(l:List Tok):List Int:=(nK m l).map fun t=>(t.2.1:Int)
theorem acD{m:Md}{l:List Tok}{e:Nat}(h:B9 l e):(jo m l).Pairwise (· < ·)/\∀x∈jo m l,x<(qJ l e:Int):=by
 obtain⟨k1,k2⟩:=G9 h;refine⟨List.pairwise_map.2 ((k1.sublist List.filter_sublist).imp fun h=>by omega),fun x hx=>?_⟩;obtain⟨t,ht,rfl⟩:=eI.1 hx;have:=(k2 t (pN.1 ht).1).2;omega
theorem OZ{m:Md}(h:MdGood m){l:List Tok}(hr:∀t∈l,0<=t.1/\t.1<m.of.length)(h20:(iq m l).length<=20):fB m.g (iq m l)=0:=by
 unfold fB;rw[if_neg (by rw[h.De];simp),if_neg J];refine Ik fun x hx=>?_;obtain⟨t,ht,rfl⟩:=eI.1 hx;obtain⟨h1,h2⟩:=pN.1 ht;obtain⟨h3,h4⟩:=hr t h1;refine⟨by simpa using h2,?_⟩;unfold oy;rw[bD,bm J,iz];exact(h.ofs _ (bV J)).2
theorem Xj{m:Md}{b:Bool}{T N:Nat}(h:LM m b T N){L:List Tok×Nat×Int}{n:Nat}(hcv:B9 L.1 0)(hn:qJ L.1 0<=n)(h9:L.2.2=0\/L.2.2=9)(hc:fB m.g (iq m L.1)=0):
    ((lz m b L n).2.1=9->gX m.g (iq m L.1)=aB/\L.2.2≠0)/\
    ((lz m b L n).2.1=13->(∃k,k<(iq m L.1).length/\AS (jo m L.1) ((lz m b L n).2.2:Int) 0=k/\gX m.g ((iq m L.1).take k)=aB/\gX m.g ((iq m L.1).take (k+1))=aD)\/
      (AS (jo m L.1) ((lz m b L n).2.2:Int) 0= -1/\gX m.g (iq m L.1)=aB/\tm m.g (iq m L.1)=0/\(lz m b L n).2.2=n)):=by
  obtain⟨s1,s2⟩:=ai6 h hc;obtain⟨p1,p2⟩:=ahg h hc;obtain⟨w1,w2⟩:=acD (m:=m) hcv;have hg:=SK (b:=b) h.tT L.1 Di 0 [];have he:=LN (m:=m) (b:=b) L.1 Di 0 [];have hW:∀R,SI m b L.1 Di 0 []=R->lz m b L n=match R with|(ah x,out,_,_)=>(out,x)|(aj,out,p,a)=>if L.2.2≠0 then(out,L.2.2,L.2.1)else(out++(oh m b p a).2,(oh m b p a).1,n):=fun R h=>by subst h;rfl
  generalize SI m b L.1 Di 0 []=R at*;obtain⟨q,out,p,a⟩:=R;have hW:=hW _ I
  cases q with
  | some x=>
    obtain⟨g1,g2,g3,g4,g5⟩:=hg;dsimp only at hW;rw[hW];rw[g1]at s1 s2;have hx:=he x I;dsimp only at s1 s2⊢;have hl:(iq m L.1).length=(nK m L.1).length:=dw ..;refine⟨fun h=>by rcases hx with hx|hx<;>omega,fun h=> .inl ⟨a,by omega,?_,s1,s2 J J⟩⟩;have e:(jo m L.1)[a]?=ah (x.2:Int):=by
      simp only[GD]at g5 g4;unfold jo;rw[List.getElem?_map,bm g4,Option.map_some,g5]
    obtain⟨hk,e⟩:=cU.1 e;rw[UL w1 hk e];omega
  | none=>
    obtain⟨g1,g2⟩:=hg;rw[g1]at s1 s2 p2;dsimp only at hW s1 s2 p2;rw[cI]at g2;rw[g2,ig (aT _)]at s1
    by_cases c:L.2.2≠0
    · rw[if_pos c]at hW
      rw[hW];refine⟨fun _=>⟨s1,c⟩,fun h=>?_⟩;have h:L.2.2=13:=h;rcases h9 with h9|h9<;>omega
    rw[if_neg c]at hW;rw[hW];have hee:=aeM (m:=m) (b:=b) (p:=p) (a:=a);refine⟨fun h=>?_,fun h=> .inr ⟨UM fun y hy=>?_,s1,?_,rfl⟩⟩
    · have h:(oh m b p a).1=9:=h
      omega
    · have:=w2 y hy
      show y≠(n:Int)
      omega
    have h:(oh m b p a).1=13:=h;rcases Nat.eq_zero_or_pos (tm m.g (iq m L.1))with h0|h0
    exact h0;obtain⟨t,ht,hy⟩:=og ((VO hc).1 h0) 0;have:=p2 t ht (by rw[<-mH ht];exact hy);omega
end ph
namespace cg
open Go.RowKit cT ey aM dN dx bP c_
def G_(seen:Int)(R:Int×List Nat×List bX):Spec (Value×Value):=
 ⟨fun _=>True,fun x=>if R.1=0 then .tuple #[xR x.1 (seen+1) 0 aD,x.2,ap av 0]else .tuple #[xR (ak aj 0 0) seen R.1 aD,ak aj 0 0,ap av R.1],fun x=>if R.1=0 then [UI x.1 R.2.1,rT x.2 R.2.2]else []⟩
theorem Jp{seen:Int}{σ:List Nat}{o:List bX}:G_ seen (0,σ,o)=⟨fun _=>True,fun x=> .tuple #[xR x.1 (seen+1) 0 aD,x.2,ap av 0],fun x=>[UI x.1 σ,rT x.2 o]⟩:=by unfold G_;simp
theorem Jq{seen e:Int}(he:e≠0){x:List Nat×List bX}:G_ seen (e,x)=⟨fun _=>True,fun _=> .tuple #[xR (ak aj 0 0) seen e aD,ak aj 0 0,ap av e],fun _=>[]⟩:=by unfold G_;simp[he]
attribute [local irreducible] Instr.build in
theorem LO(v t vs:Value)(g:dF)(T N:Nat)(A:List (List bP.Act))(G:List (List Int))(zo:List Nat)(seen col:Nat)(w:World)(hG:kw (fun k=>k<w.heap.size) w v g)(ht:GG w t A G)(hs:skR w vs zo)(hT:wF g T N A G)(hq:∀q∈zo,q<A.length)(hne:zo≠[])(hl:zo.length<=60)(hc:col<T)(hsn:seen<=1000000):
 Calls aC 139 #[v,t,xR vs (seen:Int) 0 aD,ap av (col:Int)] w (cJ (G_ (seen:Int) (dY g.az (jC A) (fK G) col seen 2001 zo [])) w):=by
 have h0:0<zo.length:=by rcases zo with _|⟨a,b⟩;exact absurd I hne;simp
 have Jf:=hT.aQ;have h_:=fun w' (hg:Gr w w')=>xS v t vs g T N A G zo (seen:Int) (col:Int) w' (hG.gr hg) (ht.gr hg) (hs.gr hg) hT hq h0 hl J J J J;have hrn:=fun w' (hg:Gr w w')=>CT v t vs g T N A G zo seen col w' (hG.gr hg) (ht.gr hg) (hs.gr hg) hT hq hne hl J;have hlen:=fun h=>(DW (a:=seen) hT (show col<=T by omega) 2001 (o:=[]) hne hq hl h).2.2.1;generalize dY g.az (jC A) (fK G) col seen 2001 zo []=R at*;obtain⟨e,σ,o⟩:=R;dsimp only at hlen;obtain⟨vp,rfl,-⟩:=hG;obtain⟨vA,vG,rfl,-⟩:=ht;clear hs hT;refine enter (args:=[dD g.aQ g.bB vp,aP #[vA,vG],xR vs (seen:Int) 0 aD,ap av (col:Int)]) (n:=51) Tryz.func139 I I I ?_;refine bY (a_ (bQ I I I fun g4=>?_));refine zL ?_;refine bQ I I I fun g5=>?_;refine zL ?_;refine bQ I I I fun g6=>?_;refine zL ?_;refine aY I fun g8=>?_;refine zL ?_
 repeat(first|refine GC ?_|refine gV (aw (v:=ap av g.aQ) aI.ty I (aE (i:=0) I I)) ?_|refine gV (cP (b:=aD) I I (decide_eq_false J)) ?_|refine gV (aL (i:=0) aI.ty I I I) ?_|refine gV (aL (i:=1) aI.ty I I I) ?_|refine gV (aL (i:=2) aI.ty I I I) ?_|refine GB ?_)
 refine aW (Hi aF.en I I I I I) (fun w hm=>h_ w hm.below) I I I ?_;intro _ _;refine zL ?_
 repeat(first|refine GA ?_|refine gV (aL (i:=0) aI.ty I I I) ?_|refine gV (aL (i:=1) aI.ty I I I) ?_|refine gV (aL (i:=2) aI.ty I I I) ?_)
 by_cases c:e=0
 ·subst c
  rw[OT]at hrn;rw[Jp];have hlen:=hlen I;refine aW (Hi aF.en I I I I I) (fun w hm=>hrn w hm.below) I I I ?_;rintro⟨v1,v2⟩ _;refine zL ?_
  try refine GA ?_
  refine ot (i:=4) I fun bt ct hv q1 q2=>?_;subst hv
  repeat(first|refine GC ?_|refine gV (aw (v:=ap av (seen:Int)) aI.ty I (aE (i:=2) I I)) ?_|refine gV (dh (r:=(seen:Int)+1) I I J J J) ?_|refine gV (bz I (Xd _ _ _ _)) ?_|refine GB ?_)
  refine gG 3 (cs':=#[ak bt σ.length ct,ap av ((seen:Int)+1),ap av 0,.bool aD]) ?_;refine zL ?_
  try refine GA ?_
  exact iW (i:=3) I I I I I I fun w hm=>hm.meets (S:=⟨fun _=>True,fun x=> .tuple #[xR x.1 ((seen:Int)+1) 0 aD,x.2,ap av 0],fun x=>[UI x.1 σ,rT x.2 o]⟩) (ak bt σ.length ct,v2) trivial [4,5] akV I
 ·rw[OU c]at hrn
  rw[Jq c];refine aW (Hi aF.en I I I I I) (fun w hm=>hrn w hm.below) I I I ?_;rintro _ _;refine zL ?_
  repeat(first|refine GC ?_|refine gV (dz (b:=aB) I I (decide_eq_true c)) ?_|refine gV (aw (v:=ap av (seen:Int)) aI.ty I (aE (i:=2) I I)) ?_|refine gV (bz I (Jn _ _)) ?_|refine GB ?_)
  refine gG 3 (cs':=#[ak aj 0 0,ap av (seen:Int),ap av e,.bool aD]) ?_;refine zL ?_
  try refine GA ?_
  exact iW (i:=3) I I I I I I fun w hm=>hm.meets (S:=⟨fun(_:Value×Value)=>True,fun _=> .tuple #[xR (ak aj 0 0) (seen:Int) e aD,ak aj 0 0,ap av e],fun _=>[]⟩) (ak aj 0 0,ak aj 0 0) trivial [] akV I
def O0(seen:Int)(R:Int×List Nat×List bX):Spec Value:=
 ⟨fun _=>True,fun x=>if R.1=0 then .tuple #[xR (ak aj 0 0) seen 0 aB,x,ap av 0]else .tuple #[xR (ak aj 0 0) seen R.1 aD,ak aj 0 0,ap av R.1],fun x=>if R.1=0 then [rT x R.2.2]else []⟩
theorem O1{seen:Int}{σ:List Nat}{o:List bX}:O0 seen (0,σ,o)=⟨fun _=>True,fun x=> .tuple #[xR (ak aj 0 0) seen 0 aB,x,ap av 0],fun x=>[rT x o]⟩:=by unfold O0;simp
theorem O2{seen e:Int}(he:e≠0){x:List Nat×List bX}:O0 seen (e,x)=⟨fun _=>True,fun _=> .tuple #[xR (ak aj 0 0) seen e aD,ak aj 0 0,ap av e],fun _=>[]⟩:=by unfold O0;simp[he]
attribute [local irreducible] Instr.build in
theorem O3(v t vs:Value)(g:dF)(T N:Nat)(A:List (List bP.Act))(G:List (List Int))(zo:List Nat)(seen:Nat)(w:World)(hG:kw (fun k=>k<w.heap.size) w v g)(ht:GG w t A G)(hs:skR w vs zo)(hT:wF g T N A G)(hq:∀q∈zo,q<A.length)(hne:zo≠[])(hl:zo.length<=60)(hsn:seen<=1000000):
 Calls aC 145 #[v,t,xR vs (seen:Int) 0 aD] w (cJ (O0 (seen:Int) (dY g.az (jC A) (fK G) T seen 2001 zo [])) w):=by
 have h0:0<zo.length:=by rcases zo with _|⟨a,b⟩;exact absurd I hne;simp
 have Jf:=hT.aQ;have h_:=fun w' (hg:Gr w w')=>xS v t vs g T N A G zo (seen:Int) (T:Int) w' (hG.gr hg) (ht.gr hg) (hs.gr hg) hT hq h0 hl J J J J;have hrn:=fun w' (hg:Gr w w')=>CT v t vs g T N A G zo seen T w' (hG.gr hg) (ht.gr hg) (hs.gr hg) hT hq hne hl (aT _);generalize dY g.az (jC A) (fK G) T seen 2001 zo []=R at*;obtain⟨e,σ,o⟩:=R;obtain⟨vp,rfl,-⟩:=hG;obtain⟨vA,vG,rfl,-⟩:=ht;clear hs hT;refine enter (args:=[dD g.aQ g.bB vp,aP #[vA,vG],xR vs (seen:Int) 0 aD]) (n:=45) Tryz.func145 I I I ?_;refine bY (a_ (bQ I I I fun g4=>?_));refine zL ?_;refine bQ I I I fun g5=>?_;refine zL ?_;refine bQ I I I fun g6=>?_;refine zL ?_;refine aY I fun g8=>?_;refine zL ?_
 repeat(first|refine GA ?_|refine gV (aw (v:=ap av (T:Int)) aI.ty I (aE (i:=0) I (by show ah (ap .i64 g.aQ)=_;rw[Jf]))) ?_|refine gV (aL (i:=0) aI.ty I I I) ?_|refine gV (aL (i:=1) aI.ty I I I) ?_|refine gV (aL (i:=2) aI.ty I I I) ?_)
 refine aW (Hi aF.en I I I I I) (fun w hm=>h_ w hm.below) I I I ?_;intro _ _;refine zL ?_
 repeat(first|refine GA ?_|refine gV (aw (v:=ap av (T:Int)) aI.ty I (aE (i:=0) I (by show ah (ap .i64 g.aQ)=_;rw[Jf]))) ?_|refine gV (aL (i:=0) aI.ty I I I) ?_|refine gV (aL (i:=1) aI.ty I I I) ?_|refine gV (aL (i:=2) aI.ty I I I) ?_)
 by_cases c:e=0
 ·subst c
  rw[OT]at hrn;rw[O1];refine aW (Hi aF.en I I I I I) (fun w hm=>hrn w hm.below) I I I ?_;rintro⟨v1,v2⟩ _;refine zL ?_
  repeat(first|refine GA ?_|refine gV (aw (v:=ap av (seen:Int)) aI.ty I (aE (i:=2) I I)) ?_|refine gV (bz I (Xe _)) ?_)
  refine gG 3 (cs':=#[ak aj 0 0,ap av (seen:Int),ap av 0,.bool aB]) ?_;refine zL ?_
  try refine GA ?_
  exact iW (i:=3) I I I I I I fun w hm=>hm.meets (S:=⟨fun _=>True,fun x=> .tuple #[xR (ak aj 0 0) (seen:Int) 0 aB,x,ap av 0],fun x=>[rT x o]⟩) v2 trivial [5] akV I
 ·rw[OU c]at hrn
  rw[O2 c];refine aW (Hi aF.en I I I I I) (fun w hm=>hrn w hm.below) I I I ?_;rintro _ _;refine zL ?_
  repeat(first|refine GC ?_|refine gV (dz (b:=aB) I I (decide_eq_true c)) ?_|refine gV (aw (v:=ap av (seen:Int)) aI.ty I (aE (i:=2) I I)) ?_|refine gV (bz I (Jn _ _)) ?_|refine GB ?_)
  refine gG 3 (cs':=#[ak aj 0 0,ap av (seen:Int),ap av e,.bool aD]) ?_;refine zL ?_
  try refine GA ?_
  exact iW (i:=3) I I I I I I fun w hm=>hm.meets (S:=⟨fun(_:Value)=>True,fun _=> .tuple #[xR (ak aj 0 0) (seen:Int) e aD,ak aj 0 0,ap av e],fun _=>[]⟩) (ak aj 0 0) trivial [] akV I
end cg
namespace cg
open Go.RowKit cT ey
def wM(g:Nat)(cs:List Value)(T:TypeId):b9:=
 ⟨ah g,fun _=>False,fun w=>∃r:List Value,w.heap[g]?=ah (.cells (cs++r).toArray T (0,0)),fun w ⟨r,h⟩ k hk=>by simp only[dg,or_false]at hk;subst hk;exact(Array.getElem?_eq_some_iff.1 h).1,
  fun w w' ⟨r,h⟩ _ hb=>⟨r,by rw[hb g (.inl I)];exact h⟩⟩
section
variable{W:b_}{L:List b9}
theorem jr{i g off:Nat}{cs:List Value}{T:TypeId}{v:Value}(hi:L[i]?=ah (wM g cs T))(hv:cs.toArray[off]?=ah v):At W L ⟨g,off,aj⟩ v:=fun w hm=>by
 obtain⟨r,h⟩:=hm.get hi;rw[cell_of_row w g off _ T (0,0) h,jh];rw[jh]at hv;rw[List.getElem?_append_left (cU.1 hv).1];exact hv
theorem dP{i g:Nat}{C:Array Value}{cs:List Value}{T:TypeId}(hi:L[i]?=ah (aO g C T))(hC:∃r,C=(cs++r).toArray):∀w,Mem W L w->Mem W [wM g cs T] w:=fun w hm=>by
 have h1:Mem W [aO g C T] w:=hm.pick [i] (by simp) (by simp[hi]);obtain⟨r,rfl⟩:=hC;exact h1.Tb (i:=0) (wM g cs T) I (fun w h=>⟨r,h⟩) fun k h=>h
end
theorem fE(vo:Value)(pk tl r:List Value):∃q,(kp vo pk (tl++r)).toArray=(kp vo pk tl++q).toArray:=⟨r,by simp[kp]⟩
end cg
namespace cg
open Go.RowKit cT ey aM dN gK je ph bP
theorem jD{vo:Value}{pk tl cs:List Value}(k0:Nat)(hp:pk.length=258)(hc:(tl.drop k0).take cs.length=cs){j k:Nat}{v:Value}(h:cs[j]?=ah v)(hk:k=k0+259+j):(kp vo pk tl).toArray[k]?=ah v:=by
 have hj:=(cU.1 h).1;rw[<-hc,List.getElem?_take_of_lt hj,List.getElem?_drop]at h;exact kI (k0+j) hp h J
section
variable{P:Program}{n:Nat}{W:b_}{fr:Fr}{L:List b9}{Q:Exit->Act->World->Prop}{ops:Array Oper}{rest:List Oper}{ty:TypeId}{pos:String}{after:Array Edge}{t:TypeId}{p x:Operand}{i g k:Nat}{vo:Value}{pk tl:List Value}{T:TypeId}{agg:Bool}{v:Value}
theorem lB(k0:Nat){cs tl':List Value}{c:Nat}[hT:aI P t agg c](hi:L[i]?=ah (aO g (kp vo pk tl).toArray T))(hp:ev fr p=ah (aH (ah ⟨g,k,aj⟩)))(hx:ev fr x=ah (aP cs.toArray))(h1:cs.all f_=aB)(hc:cs.length=c)(hk:k=k0+259)(jb:pk.length=258)(hj:Nat.ble (k0+c) tl.length=aB)
 (htl:tl.take k0++cs++tl.drop (k0+c)=tl') (h:TL P n W ops Q rest fr (L.set i (aO g (kp vo pk tl').toArray T))):TL P n W ops Q (⟨aj,.store t p x,ty,pos,after,aj⟩::rest) fr L:=by
 subst hk htl;have hj:=mW hj;refine uH hT.ty hi hp hx (by simpa[wo]using hc) (by simpa[wo]using h1) (by rw[List.size_toArray,kp,cO,bK];omega) ?_ h;apply Array.ext';show vo::(pk++(tl.take k0++cs++tl.drop (k0+c)))=List.take (k0+259) (vo::(pk++tl))++cs++List.drop (k0+259+c) (vo::(pk++tl))
 rw[show k0+259=pk.length+k0+1 by omega,List.take_succ_cons,show pk.length+k0+1+c=pk.length+(k0+c)+1 by omega,List.drop_succ_cons,List.take_length_add_append,List.drop_length_add_append];simp
end
def xA:Bool->Value->PS->b9
 |true,v,p=>xt v p.1
 |false,v,p=>UI v p.2
abbrev nC(g:Nat)(vo:Value)(pk tl:List Value)(v:Value)(a e:Int)(d:Bool)(T:TypeId):b9:=aO g (kp vo pk (tl++[v,ap av a,ap av e,.bool d])).toArray T
theorem rj{v:Value}{a e:Int}{d:Bool}(h:v.oneCell'=aB):[v,ap av a,ap av e,.bool d].all f_=true:=by
 simp only[cV,dc,h];rfl
def Xk(b:Bool)(T:TypeId)(g:Nat)(vo:Value)(pk tl:List Value)(a:Nat)(R:Int×PS×List bX):Spec (Value×Value):=
 ⟨fun _=>True,fun x=>if R.1=0 then .tuple #[x.2,ap av 0]else .tuple #[ak aj 0 0,ap av R.1],fun x=>if R.1=0 then [nC g vo pk tl x.1 ((a:Int)+1) 0 aD T,xA b x.1 R.2.1,rT x.2 R.2.2]else [nC g vo pk tl (ak aj 0 0) a R.1 aD T]⟩
theorem LP{b:Bool}{T:TypeId}{g:Nat}{vo:Value}{pk tl:List Value}{a:Nat}{p:PS}{o:List bX}:Xk b T g vo pk tl a (0,p,o)=⟨fun _=>True,fun x=> .tuple #[x.2,ap av 0],fun x=>[nC g vo pk tl x.1 ((a:Int)+1) 0 aD T,xA b x.1 p,rT x.2 o]⟩:=rfl
theorem LQ{b:Bool}{T:TypeId}{g:Nat}{vo:Value}{pk tl:List Value}{a:Nat}{e:Int}(he:e≠0){R:PS×List bX}:Xk b T g vo pk tl a (e,R)=⟨fun _=>True,fun _=> .tuple #[ak aj 0 0,ap av e],fun _=>[nC g vo pk tl (ak aj 0 0) a e aD T]⟩:=by unfold Xk;simp[he]
def Xl(g:Nat)(vo:Value)(pk tl:List Value)(a:Nat)(R:Int×List bX)(T:TypeId):Spec Value:=
 ⟨fun _=>True,fun x=>if R.1=0 then .tuple #[x,ap av 0]else .tuple #[ak aj 0 0,ap av R.1],fun x=>if R.1=0 then [nC g vo pk tl (ak aj 0 0) a 0 aB T,rT x R.2]else [nC g vo pk tl (ak aj 0 0) a R.1 aD T]⟩
theorem LR{g:Nat}{vo:Value}{pk tl:List Value}{a:Nat}{T:TypeId}{o:List bX}:Xl g vo pk tl a (0,o) T=⟨fun _=>True,fun x=> .tuple #[x,ap av 0],fun x=>[nC g vo pk tl (ak aj 0 0) a 0 aB T,rT x o]⟩:=rfl
theorem LS{g:Nat}{vo:Value}{pk tl:List Value}{a:Nat}{T:TypeId}{e:Int}(he:e≠0){o:List bX}:Xl g vo pk tl a (e,o) T=⟨fun _=>True,fun _=> .tuple #[ak aj 0 0,ap av e],fun _=>[nC g vo pk tl (ak aj 0 0) a e aD T]⟩:=by unfold Xl;simp[he]
attribute [local irreducible] Instr.build in
set_option maxRecDepth 100000 in
theorem LU(w0:World)(x:Value)(m:Md){vo vn vt vp vr va vg:Value}(T N:Nat)(hv:Jd w0 x m vo vn vt vp vr va vg)(hk:MdFit m aB T N)(g:Nat)(v:Value)(p:PS)(hp:okP m aB p)(a t:Nat)(ha:a<=1000000)(ht:t<T)(w:World)(B:b_)(ho:mv w0 B)
 (hm:Mem B [nC g vo (jm m.o vn vt) (jE m.g.aQ m.g.bB vp m.mode vr va vg) v a 0 aD 215,xA aB v p] w):
 Calls aC 236 #[aH (ah ⟨g,0,aj⟩),ap av (t:Int)] w (dX (Xk aB 215 g vo (jm m.o vn vt) (jE m.g.aQ m.g.bB vp m.mode vr va vg) a (iO m aB p a (t:Int))) B):=by
 have jb:(jm m.o vn vt).length=258:=iA _ _ _;obtain⟨p1,p2⟩:=hp;obtain⟨h1,h2⟩:=hk.ll rfl;have hG:=hv.De;have hr:=hv.rows;have Xv:=hv.l_;have hc:=fun w' (hm:Mem B [nC g vo (jm m.o vn vt) (jE m.g.aQ m.g.bB vp m.mode vr va vg) v a 0 aD 215,xA aB v p] w')=>Df _ vr v m.g m.rows T N p.1 a t w' (hG.gr (ho.mem hm)) (hr.gr (ho.mem hm)) (Sl.dy (hm.get (i:=1) I)) h1 hk.De h2 p1 p2 ha ht;have hR:iO m aB p a (t:Int)=((iB m.g.az (jW m.rows t) p.1 a (t:Int)).1,((iB m.g.az (jW m.rows t) p.1 a (t:Int)).2.1,p.2),(iB m.g.az (jW m.rows t) p.1 a (t:Int)).2.2):=rfl;rw[hR];clear hR;generalize iB m.g.az (jW m.rows t) p.1 a (t:Int)=R at*;obtain⟨e,st,o⟩:=R;generalize jm m.o vn vt=PK at*;generalize m.g.aQ=gt at*;generalize m.g.bB=gn at*;generalize m.mode=md at*;clear hG hr Xv hv
 by_cases c:e=0
 ·subst c
  rw[abZ]at hc;rw[LP];refine eR hm (args:=[aH (ah ⟨g,0,aj⟩),ap av (t:Int)]) (n:=31) Tryz.func236 I I I ?_
  try refine GA ?_
  refine dK ([wM g (kp vo PK (jE gt gn vp md vr va vg)) 215]) (.calm 0 (.calm 1 (.calm 2 (.calm 3 (.calm 4 (.calm 5 (.calm 6 (.calm 7 (.calm 8 (.calm 9 (.calm 10 (.calm 11 (.calm 12 (.calm 13 (.calm 15 (.one 14 (.one 16 (.calm 17 (.calm 18 (.calm 19 (.calm 20 (.calm 21 (.calm 22 (.one 23 (.calm 24 (.calm 25 (.done))))))))))))))))))))))))))) (dP (i:=0) I (fE _ _ _ _)) ?_
  repeat(first|refine GW ?_|(refine GN ?_;first|refine QW (aU (cs:=[ap av gt,ap av gn,vp]) aI.ty I I (fun j v h=>jr (i:=0) I (jD 0 jb I h J))) ?_|refine QW (aw (v:=vr) aI.ty I (jr (i:=0) I (kI 4 jb I I))) ?_))
  refine aJ I (dC (aU (cs:=[v,ap av a,ap av 0,.bool aD]) aI.ty I I (fun j v h=>aE (i:=0) I (jD 7 jb I h J))) I I I (aK (dP (i:=0) I (fE _ _ _ _)) ?_))
  try refine GW ?_
  refine aJ I (aW (Hi aF.en I I I I I) (fun w hm=>hc w hm) I I I ?_);rintro⟨v1,v2⟩ _;refine zL ?_;refine aK (dP (i:=0) I (fE _ _ _ _)) ?_
  try refine GW ?_
  refine aJ I (aV (i:=2) I fun _ jM=>lB (i:=0) 7 (tl':=jE gt gn vp md vr va vg++[v1,ap av ((a:Int)+1),ap av 0,.bool aD]) I I I (rj jM) I I jb I I ?_);refine zL ?_;refine aK (dP (i:=0) I (fE _ _ _ _)) ?_
  try refine GW ?_
  try refine GA ?_
  exact jJ I I I fun w hm=>hm.cZ (S:=⟨fun _=>True,fun x=> .tuple #[x.2,ap av 0],fun x=>[nC g vo PK (jE gt gn vp md vr va vg) x.1 ((a:Int)+1) 0 aD 215,xA aB x.1 (st,p.2),rT x.2 o]⟩) (v1,v2) trivial [0,2,3] akV I
 ·rw[W8 _ c]at hc
  rw[LQ c];refine eR hm (args:=[aH (ah ⟨g,0,aj⟩),ap av (t:Int)]) (n:=31) Tryz.func236 I I I ?_
  try refine GA ?_
  refine dK ([wM g (kp vo PK (jE gt gn vp md vr va vg)) 215]) (.calm 0 (.calm 1 (.calm 2 (.calm 3 (.calm 4 (.calm 5 (.calm 6 (.calm 7 (.calm 8 (.calm 9 (.calm 10 (.calm 11 (.calm 12 (.calm 13 (.calm 15 (.one 14 (.one 16 (.calm 17 (.calm 18 (.calm 19 (.calm 20 (.calm 21 (.calm 22 (.one 23 (.calm 24 (.calm 25 (.done))))))))))))))))))))))))))) (dP (i:=0) I (fE _ _ _ _)) ?_
  repeat(first|refine GW ?_|(refine GN ?_;first|refine QW (aU (cs:=[ap av gt,ap av gn,vp]) aI.ty I I (fun j v h=>jr (i:=0) I (jD 0 jb I h J))) ?_|refine QW (aw (v:=vr) aI.ty I (jr (i:=0) I (kI 4 jb I I))) ?_))
  refine aJ I (dC (aU (cs:=[v,ap av a,ap av 0,.bool aD]) aI.ty I I (fun j v h=>aE (i:=0) I (jD 7 jb I h J))) I I I (aK (dP (i:=0) I (fE _ _ _ _)) ?_))
  try refine GW ?_
  refine aJ I (aW (Hi aF.en I I I I I) (fun w hm=>hc w hm) I I I ?_);rintro x1 _;refine zL ?_;refine aK (dP (i:=0) I (fE _ _ _ _)) ?_
  try refine GW ?_
  refine aJ I (lB (i:=0) 7 (tl':=jE gt gn vp md vr va vg++[ak aj 0 0,ap av (a:Int),ap av e,.bool aD]) I I I (rj I) I I jb I I ?_);refine zL ?_;refine aK (dP (i:=0) I (fE _ _ _ _)) ?_
  try refine GW ?_
  try refine GA ?_
  exact jJ I I I fun w hm=>hm.cZ (S:=⟨fun(_:Value×Value)=>True,fun _=> .tuple #[ak aj 0 0,ap av e],fun _=>[nC g vo PK (jE gt gn vp md vr va vg) (ak aj 0 0) a e aD 215]⟩) (v,v) trivial [0] akV I
attribute [local irreducible] Instr.build in
set_option maxRecDepth 100000 in
theorem LV(w0:World)(x:Value)(m:Md){vo vn vt vp vr va vg:Value}(T N:Nat)(hv:Jd w0 x m vo vn vt vp vr va vg)(hk:MdFit m aD T N)(g:Nat)(v:Value)(p:PS)(hp:okP m aD p)(a t:Nat)(ha:a<=1000000)(ht:t<T)(w:World)(B:b_)(ho:mv w0 B)
 (hm:Mem B [nC g vo (jm m.o vn vt) (jE m.g.aQ m.g.bB vp m.mode vr va vg) v a 0 aD 218,xA aD v p] w):
 Calls aC 238 #[aH (ah ⟨g,0,aj⟩),ap av (t:Int)] w (dX (Xk aD 218 g vo (jm m.o vn vt) (jE m.g.aQ m.g.bB vp m.mode vr va vg) a (iO m aD p a (t:Int))) B):=by
 have jb:(jm m.o vn vt).length=258:=iA _ _ _;obtain⟨p1,p2,p3⟩:=hp;have h2:=hk.lr I;have hG:=hv.De;have hr:=hv.rows;have Xv:=hv.l_;have hc:=fun w' (hm:Mem B [nC g vo (jm m.o vn vt) (jE m.g.aQ m.g.bB vp m.mode vr va vg) v a 0 aD 218,xA aD v p] w')=>LO _ (aP #[va,vg]) v m.g T N m.A m.G p.2 a t w' (hG.gr (ho.mem hm)) (Xv.gr (ho.mem hm)) (Sl.dy (hm.get (i:=1) I)) h2 p2 p1 p3 ht ha;have hR:iO m aD p a (t:Int)=((dY m.g.az (jC m.A) (fK m.G) t a 2001 p.2 []).1,(p.1,(dY m.g.az (jC m.A) (fK m.G) t a 2001 p.2 []).2.1),(dY m.g.az (jC m.A) (fK m.G) t a 2001 p.2 []).2.2):=rfl;rw[hR];clear hR;generalize dY m.g.az (jC m.A) (fK m.G) t a 2001 p.2 []=R at*;obtain⟨e,st,o⟩:=R;generalize jm m.o vn vt=PK at*;generalize m.g.aQ=gt at*;generalize m.g.bB=gn at*;generalize m.mode=md at*;clear hG hr Xv hv
 by_cases c:e=0
 ·subst c
  rw[Jp]at hc;rw[LP];refine eR hm (args:=[aH (ah ⟨g,0,aj⟩),ap av (t:Int)]) (n:=31) Tryz.func238 I I I ?_
  try refine GA ?_
  refine dK ([wM g (kp vo PK (jE gt gn vp md vr va vg)) 218]) (.calm 0 (.calm 1 (.calm 2 (.calm 3 (.calm 4 (.calm 5 (.calm 6 (.calm 7 (.calm 8 (.calm 9 (.calm 10 (.calm 11 (.calm 12 (.calm 13 (.calm 15 (.one 14 (.one 16 (.calm 17 (.calm 18 (.calm 19 (.calm 20 (.calm 21 (.calm 22 (.one 23 (.calm 24 (.calm 25 (.done))))))))))))))))))))))))))) (dP (i:=0) I (fE _ _ _ _)) ?_
  repeat(first|refine GW ?_|(refine GN ?_;first|refine QW (aU (cs:=[ap av gt,ap av gn,vp]) aI.ty I I (fun j v h=>jr (i:=0) I (jD 0 jb I h J))) ?_|refine QW (aU (cs:=[va,vg]) aI.ty I I (fun j v h=>jr (i:=0) I (jD 5 jb I h J))) ?_))
  refine aJ I (dC (aU (cs:=[v,ap av a,ap av 0,.bool aD]) aI.ty I I (fun j v h=>aE (i:=0) I (jD 7 jb I h J))) I I I (aK (dP (i:=0) I (fE _ _ _ _)) ?_))
  try refine GW ?_
  refine aJ I (aW (Hi aF.en I I I I I) (fun w hm=>hc w hm) I I I ?_);rintro⟨v1,v2⟩ _;refine zL ?_;refine aK (dP (i:=0) I (fE _ _ _ _)) ?_
  try refine GW ?_
  refine aJ I (aV (i:=2) I fun _ jM=>lB (i:=0) 7 (tl':=jE gt gn vp md vr va vg++[v1,ap av ((a:Int)+1),ap av 0,.bool aD]) I I I (rj jM) I I jb I I ?_);refine zL ?_;refine aK (dP (i:=0) I (fE _ _ _ _)) ?_
  try refine GW ?_
  try refine GA ?_
  exact jJ I I I fun w hm=>hm.cZ (S:=⟨fun _=>True,fun x=> .tuple #[x.2,ap av 0],fun x=>[nC g vo PK (jE gt gn vp md vr va vg) x.1 ((a:Int)+1) 0 aD 218,xA aD x.1 (p.1,st),rT x.2 o]⟩) (v1,v2) trivial [0,2,3] akV I
 ·rw[Jq c]at hc
  rw[LQ c];refine eR hm (args:=[aH (ah ⟨g,0,aj⟩),ap av (t:Int)]) (n:=31) Tryz.func238 I I I ?_
  try refine GA ?_
  refine dK ([wM g (kp vo PK (jE gt gn vp md vr va vg)) 218]) (.calm 0 (.calm 1 (.calm 2 (.calm 3 (.calm 4 (.calm 5 (.calm 6 (.calm 7 (.calm 8 (.calm 9 (.calm 10 (.calm 11 (.calm 12 (.calm 13 (.calm 15 (.one 14 (.one 16 (.calm 17 (.calm 18 (.calm 19 (.calm 20 (.calm 21 (.calm 22 (.one 23 (.calm 24 (.calm 25 (.done))))))))))))))))))))))))))) (dP (i:=0) I (fE _ _ _ _)) ?_
  repeat(first|refine GW ?_|(refine GN ?_;first|refine QW (aU (cs:=[ap av gt,ap av gn,vp]) aI.ty I I (fun j v h=>jr (i:=0) I (jD 0 jb I h J))) ?_|refine QW (aU (cs:=[va,vg]) aI.ty I I (fun j v h=>jr (i:=0) I (jD 5 jb I h J))) ?_))
  refine aJ I (dC (aU (cs:=[v,ap av a,ap av 0,.bool aD]) aI.ty I I (fun j v h=>aE (i:=0) I (jD 7 jb I h J))) I I I (aK (dP (i:=0) I (fE _ _ _ _)) ?_))
  try refine GW ?_
  refine aJ I (aW (Hi aF.en I I I I I) (fun w hm=>hc w hm) I I I ?_);rintro x1 _;refine zL ?_;refine aK (dP (i:=0) I (fE _ _ _ _)) ?_
  try refine GW ?_
  refine aJ I (lB (i:=0) 7 (tl':=jE gt gn vp md vr va vg++[ak aj 0 0,ap av (a:Int),ap av e,.bool aD]) I I I (rj I) I I jb I I ?_);refine zL ?_;refine aK (dP (i:=0) I (fE _ _ _ _)) ?_
  try refine GW ?_
  try refine GA ?_
  exact jJ I I I fun w hm=>hm.cZ (S:=⟨fun(_:Value×Value)=>True,fun _=> .tuple #[ak aj 0 0,ap av e],fun _=>[nC g vo PK (jE gt gn vp md vr va vg) (ak aj 0 0) a e aD 218]⟩) (v,v) trivial [0] akV I
attribute [local irreducible] Instr.build in
set_option maxRecDepth 100000 in
theorem O4(w0:World)(x:Value)(m:Md){vo vn vt vp vr va vg:Value}(T N:Nat)(hv:Jd w0 x m vo vn vt vp vr va vg)(hk:MdFit m aB T N)(g:Nat)(v:Value)(p:PS)(hp:okP m aB p)(a:Nat)(ha:a<=1000000)(w:World)(B:b_)(ho:mv w0 B)
 (hm:Mem B [nC g vo (jm m.o vn vt) (jE m.g.aQ m.g.bB vp m.mode vr va vg) v a 0 aD 215,xA aB v p] w):
 Calls aC 235 #[aH (ah ⟨g,0,aj⟩)] w (dX (Xl g vo (jm m.o vn vt) (jE m.g.aQ m.g.bB vp m.mode vr va vg) a (oh m aB p a) 215) B):=by
 have jb:(jm m.o vn vt).length=258:=iA _ _ _;obtain⟨p1,p2⟩:=hp;obtain⟨h1,h2⟩:=hk.ll rfl;have hG:=hv.De;have hr:=hv.rows;have Xv:=hv.l_;have hc:=fun w' (hm:Mem B [nC g vo (jm m.o vn vt) (jE m.g.aQ m.g.bB vp m.mode vr va vg) v a 0 aD 215,xA aB v p] w')=>GL _ vr v m.g m.rows T N p.1 a w' (hG.gr (ho.mem hm)) (hr.gr (ho.mem hm)) (Sl.dy (hm.get (i:=1) I)) h1 hk.De h2 p1 p2 ha;have hT:=hk.tT;have hR:oh m aB p a=tv m.g.az (jW m.rows m.g.aQ.toNat) p.1:=rfl;rw[hR,show m.g.aQ.toNat=T by omega];clear hR hT;generalize tv m.g.az (jW m.rows T) p.1=R at*;obtain⟨e,o⟩:=R;generalize jm m.o vn vt=PK at*;generalize m.g.aQ=gt at*;generalize m.g.bB=gn at*;generalize m.mode=md at*;clear hG hr Xv hv
 by_cases c:e=0
 ·subst c
  rw[aev]at hc;rw[LR];refine eR hm (args:=[aH (ah ⟨g,0,aj⟩)]) (n:=28) Tryz.func235 I I I ?_
  try refine GA ?_
  refine dK ([wM g (kp vo PK (jE gt gn vp md vr va vg)) 215]) (.calm 0 (.calm 1 (.calm 2 (.calm 3 (.calm 4 (.calm 5 (.calm 6 (.calm 7 (.calm 8 (.calm 9 (.calm 10 (.calm 11 (.calm 12 (.calm 13 (.one 14 (.one 15 (.calm 16 (.calm 17 (.calm 18 (.calm 19 (.calm 20 (.calm 21 (.one 22 (.calm 23 (.calm 24 (.done)))))))))))))))))))))))))) (dP (i:=0) I (fE _ _ _ _)) ?_
  repeat(first|refine GW ?_|(refine GN ?_;first|refine QW (aU (cs:=[ap av gt,ap av gn,vp]) aI.ty I I (fun j v h=>jr (i:=0) I (jD 0 jb I h J))) ?_|refine QW (aw (v:=vr) aI.ty I (jr (i:=0) I (kI 4 jb I I))) ?_))
  refine aJ I (dC (aU (cs:=[v,ap av a,ap av 0,.bool aD]) aI.ty I I (fun j v h=>aE (i:=0) I (jD 7 jb I h J))) I I I (aK (dP (i:=0) I (fE _ _ _ _)) ?_))
  try refine GW ?_
  refine aJ I (aW (ye aF.en I I I I) (fun w hm=>hc w hm) I I I ?_);rintro x1 _;refine zL ?_;refine aK (dP (i:=0) I (fE _ _ _ _)) ?_
  try refine GW ?_
  refine aJ I (lB (i:=0) 7 (tl':=jE gt gn vp md vr va vg++[ak aj 0 0,ap av (a:Int),ap av 0,.bool aB]) I I I (rj I) I I jb I I ?_);refine zL ?_;refine aK (dP (i:=0) I (fE _ _ _ _)) ?_
  try refine GW ?_
  try refine GA ?_
  exact jJ I I I fun w hm=>hm.cZ (S:=⟨fun _=>True,fun x=> .tuple #[x,ap av 0],fun x=>[nC g vo PK (jE gt gn vp md vr va vg) (ak aj 0 0) a 0 aB 215,rT x o]⟩) x1 trivial [0,2] akV I
 ·rw[ab0 _ c]at hc
  rw[LS c];refine eR hm (args:=[aH (ah ⟨g,0,aj⟩)]) (n:=28) Tryz.func235 I I I ?_
  try refine GA ?_
  refine dK ([wM g (kp vo PK (jE gt gn vp md vr va vg)) 215]) (.calm 0 (.calm 1 (.calm 2 (.calm 3 (.calm 4 (.calm 5 (.calm 6 (.calm 7 (.calm 8 (.calm 9 (.calm 10 (.calm 11 (.calm 12 (.calm 13 (.one 14 (.one 15 (.calm 16 (.calm 17 (.calm 18 (.calm 19 (.calm 20 (.calm 21 (.one 22 (.calm 23 (.calm 24 (.done)))))))))))))))))))))))))) (dP (i:=0) I (fE _ _ _ _)) ?_
  repeat(first|refine GW ?_|(refine GN ?_;first|refine QW (aU (cs:=[ap av gt,ap av gn,vp]) aI.ty I I (fun j v h=>jr (i:=0) I (jD 0 jb I h J))) ?_|refine QW (aw (v:=vr) aI.ty I (jr (i:=0) I (kI 4 jb I I))) ?_))
  refine aJ I (dC (aU (cs:=[v,ap av a,ap av 0,.bool aD]) aI.ty I I (fun j v h=>aE (i:=0) I (jD 7 jb I h J))) I I I (aK (dP (i:=0) I (fE _ _ _ _)) ?_))
  try refine GW ?_
  refine aJ I (aW (ye aF.en I I I I) (fun w hm=>hc w hm) I I I ?_);rintro x1 _;refine zL ?_;refine aK (dP (i:=0) I (fE _ _ _ _)) ?_
  try refine GW ?_
  refine aJ I (lB (i:=0) 7 (tl':=jE gt gn vp md vr va vg++[ak aj 0 0,ap av (a:Int),ap av e,.bool aD]) I I I (rj I) I I jb I I ?_);refine zL ?_;refine aK (dP (i:=0) I (fE _ _ _ _)) ?_
  try refine GW ?_
  try refine GA ?_
  exact jJ I I I fun w hm=>hm.cZ (S:=⟨fun(_:Value)=>True,fun _=> .tuple #[ak aj 0 0,ap av e],fun _=>[nC g vo PK (jE gt gn vp md vr va vg) (ak aj 0 0) a e aD 215]⟩) v trivial [0] akV I
attribute [local irreducible] Instr.build in
set_option maxRecDepth 100000 in
theorem O5(w0:World)(x:Value)(m:Md){vo vn vt vp vr va vg:Value}(T N:Nat)(hv:Jd w0 x m vo vn vt vp vr va vg)(hk:MdFit m aD T N)(g:Nat)(v:Value)(p:PS)(hp:okP m aD p)(a:Nat)(ha:a<=1000000)(w:World)(B:b_)(ho:mv w0 B)
 (hm:Mem B [nC g vo (jm m.o vn vt) (jE m.g.aQ m.g.bB vp m.mode vr va vg) v a 0 aD 218,xA aD v p] w):
 Calls aC 237 #[aH (ah ⟨g,0,aj⟩)] w (dX (Xl g vo (jm m.o vn vt) (jE m.g.aQ m.g.bB vp m.mode vr va vg) a (oh m aD p a) 218) B):=by
 have jb:(jm m.o vn vt).length=258:=iA _ _ _;obtain⟨p1,p2,p3⟩:=hp;have h2:=hk.lr I;have hG:=hv.De;have hr:=hv.rows;have Xv:=hv.l_;have hc:=fun w' (hm:Mem B [nC g vo (jm m.o vn vt) (jE m.g.aQ m.g.bB vp m.mode vr va vg) v a 0 aD 218,xA aD v p] w')=>O3 _ (aP #[va,vg]) v m.g T N m.A m.G p.2 a w' (hG.gr (ho.mem hm)) (Xv.gr (ho.mem hm)) (Sl.dy (hm.get (i:=1) I)) h2 p2 p1 p3 ha;have hT:=hk.tT;have hR:oh m aD p a=((dY m.g.az (jC m.A) (fK m.G) m.g.aQ.toNat a 2001 p.2 []).1,(dY m.g.az (jC m.A) (fK m.G) m.g.aQ.toNat a 2001 p.2 []).2.2):=rfl;rw[hR,show m.g.aQ.toNat=T by omega];clear hR hT;generalize dY m.g.az (jC m.A) (fK m.G) T a 2001 p.2 []=R at*;obtain⟨e,st,o⟩:=R;generalize jm m.o vn vt=PK at*;generalize m.g.aQ=gt at*;generalize m.g.bB=gn at*;generalize m.mode=md at*;clear hG hr Xv hv;dsimp only
 by_cases c:e=0
 ·subst c
  rw[O1]at hc;rw[LR];refine eR hm (args:=[aH (ah ⟨g,0,aj⟩)]) (n:=28) Tryz.func237 I I I ?_
  try refine GA ?_
  refine dK ([wM g (kp vo PK (jE gt gn vp md vr va vg)) 218]) (.calm 0 (.calm 1 (.calm 2 (.calm 3 (.calm 4 (.calm 5 (.calm 6 (.calm 7 (.calm 8 (.calm 9 (.calm 10 (.calm 11 (.calm 12 (.calm 13 (.one 14 (.one 15 (.calm 16 (.calm 17 (.calm 18 (.calm 19 (.calm 20 (.calm 21 (.one 22 (.calm 23 (.calm 24 (.done)))))))))))))))))))))))))) (dP (i:=0) I (fE _ _ _ _)) ?_
  repeat(first|refine GW ?_|(refine GN ?_;first|refine QW (aU (cs:=[ap av gt,ap av gn,vp]) aI.ty I I (fun j v h=>jr (i:=0) I (jD 0 jb I h J))) ?_|refine QW (aU (cs:=[va,vg]) aI.ty I I (fun j v h=>jr (i:=0) I (jD 5 jb I h J))) ?_))
  refine aJ I (dC (aU (cs:=[v,ap av a,ap av 0,.bool aD]) aI.ty I I (fun j v h=>aE (i:=0) I (jD 7 jb I h J))) I I I (aK (dP (i:=0) I (fE _ _ _ _)) ?_))
  try refine GW ?_
  refine aJ I (aW (ye aF.en I I I I) (fun w hm=>hc w hm) I I I ?_);rintro x1 _;refine zL ?_;refine aK (dP (i:=0) I (fE _ _ _ _)) ?_
  try refine GW ?_
  refine aJ I (lB (i:=0) 7 (tl':=jE gt gn vp md vr va vg++[ak aj 0 0,ap av (a:Int),ap av 0,.bool aB]) I I I (rj I) I I jb I I ?_);refine zL ?_;refine aK (dP (i:=0) I (fE _ _ _ _)) ?_
  try refine GW ?_
  try refine GA ?_
  exact jJ I I I fun w hm=>hm.cZ (S:=⟨fun _=>True,fun x=> .tuple #[x,ap av 0],fun x=>[nC g vo PK (jE gt gn vp md vr va vg) (ak aj 0 0) a 0 aB 218,rT x o]⟩) x1 trivial [0,2] akV I
 ·rw[O2 c]at hc
  rw[LS c];refine eR hm (args:=[aH (ah ⟨g,0,aj⟩)]) (n:=28) Tryz.func237 I I I ?_
  try refine GA ?_
  refine dK ([wM g (kp vo PK (jE gt gn vp md vr va vg)) 218]) (.calm 0 (.calm 1 (.calm 2 (.calm 3 (.calm 4 (.calm 5 (.calm 6 (.calm 7 (.calm 8 (.calm 9 (.calm 10 (.calm 11 (.calm 12 (.calm 13 (.one 14 (.one 15 (.calm 16 (.calm 17 (.calm 18 (.calm 19 (.calm 20 (.calm 21 (.one 22 (.calm 23 (.calm 24 (.done)))))))))))))))))))))))))) (dP (i:=0) I (fE _ _ _ _)) ?_
  repeat(first|refine GW ?_|(refine GN ?_;first|refine QW (aU (cs:=[ap av gt,ap av gn,vp]) aI.ty I I (fun j v h=>jr (i:=0) I (jD 0 jb I h J))) ?_|refine QW (aU (cs:=[va,vg]) aI.ty I I (fun j v h=>jr (i:=0) I (jD 5 jb I h J))) ?_))
  refine aJ I (dC (aU (cs:=[v,ap av a,ap av 0,.bool aD]) aI.ty I I (fun j v h=>aE (i:=0) I (jD 7 jb I h J))) I I I (aK (dP (i:=0) I (fE _ _ _ _)) ?_))
  try refine GW ?_
  refine aJ I (aW (ye aF.en I I I I) (fun w hm=>hc w hm) I I I ?_);rintro x1 _;refine zL ?_;refine aK (dP (i:=0) I (fE _ _ _ _)) ?_
  try refine GW ?_
  refine aJ I (lB (i:=0) 7 (tl':=jE gt gn vp md vr va vg++[ak aj 0 0,ap av (a:Int),ap av e,.bool aD]) I I I (rj I) I I jb I I ?_);refine zL ?_;refine aK (dP (i:=0) I (fE _ _ _ _)) ?_
  try refine GW ?_
  try refine GA ?_
  exact jJ I I I fun w hm=>hm.cZ (S:=⟨fun(_:Value)=>True,fun _=> .tuple #[ak aj 0 0,ap av e],fun _=>[nC g vo PK (jE gt gn vp md vr va vg) (ak aj 0 0) a e aD 218]⟩) v trivial [0] akV I
end cg
namespace cg
open Go.RowKit cT ey aM dN gK je ph bP
section
variable{P:Program}{n:Nat}{W:b_}{fr:Fr}{L:List b9}{dst:Option Tmp}{ty:TypeId}{pos:String}{after:Array Edge}{guard:Option (Nat×Bool)}
def UN(P:Program)(t:TypeId)(v:Value)(name:String)(f:FuncId):Prop:=∀w,(method (P.types.size+acv) t v name).run P w= .ok (f,v) w
def ai7(P:Program)(t:TypeId)(v:Value)(name:String):Prop:=∀w,(nilAhead (P.types.size+acv) t v name).run P w= .ok (ah aD) w
theorem aeN{x:Operand}{name:String}{t:TypeId}{v:Value}{cap:Array Value}(hx:ev fr x=ah (.func (.method name) #[.iface t v] cap))(hn:ai7 P t v name):RR P n W ⟨dst,.nilCheck x,ty,pos,after,guard⟩ fr L (.func (.method name) #[.iface t v] cap):= .mk fun a w hr _=>by
 have hn':=hn w;simp only[execOp,hr.ev hx];simp[hn']
theorem UO{t:TypeId}{x:Operand}{v u:Value}(hx:ev fr x=ah v)(h:∀w,(acu t v).run P w= .ok u w):RR P n W ⟨dst,.makeInterface t x,ty,pos,after,guard⟩ fr L u:= .mk fun a w hr _=>by
 have h':=h w;simp[execOp,hr.ev hx,h']
theorem ai8{name:String}{t:TypeId}{v:Value}{f:FuncId}{x:Operand}{ts:Array TypeId}(hf:Enters P f)(hx:ev fr x=ah (.iface t v))(hm:UN P t v name f):∀a w,nt n a fr->(execOp a.eval ⟨dst,.call {callee:= .invoke x name,args:=#[],argTypes:=ts},ty,pos,after,guard⟩).run P w= .ok (.enter f #[v]) w:=fun a w hr=>by
 have AV:∀args w,(callFunc f args).run P w= .ok (.enter f args) w:=hf;have pV:=hm w;simp[execOp,resolve,hr.ev hx,invoke,callMethod,pV,AV]
theorem ai9{name:String}{t:TypeId}{v v1:Value}{f:FuncId}{x x1:Operand}{ts:Array TypeId}(hf:Enters P f)(hx:ev fr x=ah (.iface t v))(h1:ev fr x1=ah v1)(hm:UN P t v name f):∀a w,nt n a fr->(execOp a.eval ⟨dst,.call {callee:= .invoke x name,args:=#[x1],argTypes:=ts},ty,pos,after,guard⟩).run P w= .ok (.enter f #[v,v1]) w:=fun a w hr=>by
 have AV:∀args w,(callFunc f args).run P w= .ok (.enter f args) w:=hf;have pV:=hm w;simp[execOp,resolve,hr.ev hx,hr.ev h1,invoke,callMethod,pV,AV]
end
abbrev paT(b:Bool):TypeId:=if b then 213 else 216
abbrev paB(b:Bool):TypeId:=if b then 215 else 218
abbrev SL(b:Bool):FuncId:=if b then 236 else 238
abbrev acE(b:Bool):FuncId:=if b then 235 else 237
theorem Xm(b:Bool)(a:Addr):ai7 aC (paT b) (aH (ah a)) "pushmill/whole.push" :=fun w=>by cases b<;>kernel_rfl
theorem G'(b:Bool)(a:Addr):UN aC (paT b) (aH (ah a)) "pushmill/whole.push" (SL b):=fun w=>by cases b<;>kernel_rfl
theorem Jr(b:Bool)(a:Addr):UN aC (paT b) (aH (ah a)) "pushmill/whole.end" (acE b):=fun w=>by cases b<;>kernel_rfl
theorem UP(b:Bool)(a:Addr)(w:World):(acu (paT b) (aH (ah a))).run aC w= .ok (.iface (paT b) (aH (ah a))) w:=by cases b<;>kernel_rfl
theorem CU(b:Bool):Enters aC (SL b):=by cases b<;>exact Enters.of (by kernel_rfl)
theorem Ha(b:Bool):Enters aC (acE b):=by cases b<;>exact Enters.of (by kernel_rfl)
end cg
namespace cg
open Go.RowKit cT
theorem SM{P:Program}{t:TypeId}{fields:Array Field}{z:Value}{pl:Array (Nat×Nat)}{parts:Array (Nat×Value)}{c:Array Value}{w:World}(hz:(zeroValue t).run P w= .ok z w)(hu:(underlying t).run P w= .ok (.struct fields) w)
 (hp:(fields.mapM fun f=>do pure (f.offset,<-sizeOf f.type):Sem (Array (Nat×Nat))).run P w= .ok pl w) (hf:lT (pl[·]?) z.cells parts.toList=ah c):(dm t parts).run P w= .ok (.agg c) w:=by
 simp at hp;simp[dm,hz,hu,hp,hf]
theorem O6(off:Nat):∀(vs:List Value) (k:Nat) (cs:List Value),off+k+vs.length<=cs.length->(vs.zipIdx k).foldl (fun cs (c,j)=>cs.setIfInBounds (off+j) c) cs.toArray=(cs.take (off+k)++vs++cs.drop (off+k+vs.length)).toArray
 |[],k,cs,_=>by simp
 |v::vs,k,cs,h=>by
  simp only[cO]at h;rw[List.zipIdx_cons,List.foldl_cons];dsimp only;rw[List.setIfInBounds_toArray,O6 off vs (k+1) _ (by rw[List.length_set];omega)]
  congr 1
  rw[show off+(k+1)=off+k+1 by omega,List.take_set,List.drop_set_of_lt J,cO,show off+k+(vs.length+1)=off+k+1+vs.length by omega];rw[List.take_add_one,List.set_append_right _ _ (by simp;omega)];have:(off+k)<cs.length:=by omega
  simp[bm this,gZ,Nat.min_eq_left (Nat.le_of_lt this)]
theorem Js{place:Nat->Option (Nat×Nat)}{i off m:Nat}{cells a:List Value}{rest:List (Nat×Value)}(h0:place i=ah (off,m))(ha:a.length=m)(hc:off+m<=cells.length):lT place cells.toArray ((i,aP a.toArray)::rest)=lT place (cells.take off++a++cells.drop (off+m)).toArray rest:=by
 subst ha;have:=O6 off a 0 cells J;rw[Nat.add_zero]at this;rw[lT,h0];show(if _ then aj else _)=_
 rw[if_neg (by simp[wo];omega)]
 congr 1
 rw[<-this,<-Array.foldl_toList];simp[wo]
end cg
namespace cg
open Go.RowKit cT ey aM dN gK je ph bP qE c_
def paZ(b:Value):List Value:=([ak aj 0 0]:List Value)++List.replicate 256 (ap .u8 0)++([ak aj 0 0,ak aj 0 0,ap av 0,ap av 0,ak aj 0 0,ap av 0,ak aj 0 0,ak aj 0 0,ak aj 0 0,ak aj 0 0,ap av 0,ap av 0,b]:List Value)
theorem aeO(b:Value):(paZ b).length=270:=by
 unfold paZ;rw[bK,bK,List.length_replicate];rfl
set_option maxRecDepth 100000 in
theorem acF(b:Bool){vo v:Value}{pk tl:List Value}(jb:pk.length=258)(htl:tl.length=7)(w:World):(dm (paB b) #[(0,aP (kp vo pk tl).toArray),(1,xR v 0 0 aD)]).run aC w= .ok (aP (kp vo pk (tl++[v,ap av 0,ap av 0,.bool aD])).toArray) w:=by
 have hz:(zeroValue (paB b)).run aC w= .ok (aP (paZ (.bool aD)).toArray) w:=by cases b<;>kernel_rfl
 have hu:∃fields,(underlying (paB b)).run aC w= .ok (.struct fields) w/\(fields.mapM fun f=>do pure (f.offset,<-sizeOf f.type):Sem (Array (Nat×Nat))).run aC w= .ok #[(0,266),(266,4)] w:=by cases b<;>exact⟨_,rfl,by kernel_rfl⟩
 obtain⟨fields,hu,hp⟩:=hu;have hl:(kp vo pk tl).length=266:=by rw[kp,cO,bK];omega
 refine SM hz hu hp ?_;show lT _ (paZ (.bool aD)).toArray [(0,aP (kp vo pk tl).toArray),(1,aP [v,ap av 0,ap av 0,.bool aD].toArray)]=_
 have hz:=aeO (.bool aD);generalize paZ (.bool aD)=Z at*;rw[Js (m:=266) I hl J,Js (m:=4) I I (by rw[bK,bK,gZ,ik];omega)];rw[lT,List.take_zero,fN,cI,BR J,ig J,List.drop_append,fS J,fS (by rw[ik];omega)];simp[kp]
def bgS(b:Bool)(vo:Value)(pk tl:List Value):Spec (Nat×Value):=⟨fun _=>True,fun x=> .iface (paT b) (aH (ah ⟨x.1,0,aj⟩)),fun x=>[nC x.1 vo pk tl x.2 0 0 aD (paB b),xA b x.2 Di]⟩
set_option maxRecDepth 100000 in
theorem LW(b:Bool){vo:Value}{pk:List Value}{t n md:Int}{vp vr va vg:Value}(jb:pk.length=258)(Dj:md=if b then 1 else 2)(w:World):
 Calls aC 48 #[aP (kp vo pk (jE t n vp md vr va vg)).toArray] w (cJ (bgS b vo pk (jE t n vp md vr va vg)) w):=by
 have hb:=fun v=>acF b (vo:=vo) (v:=v) jb (show(jE t n vp md vr va vg).length=7 from I)
 cases b with
 |true=>
  subst Dj;refine enter (args:=[aP (kp vo pk (jE t n vp (if aB=aB then 1 else 2) vr va vg)).toArray]) (n:=16) Tryz.func48 I I I ?_;refine bY (a_ (bQ I I I fun g1=>?_));refine zL ?_
  repeat(first|refine GA ?_|refine gV (aw (v:=ap av 1) aI.ty I (aE (i:=0) I (kI 3 jb I I))) ?_)
  refine dK ([aO g1 (kp vo pk (jE t n vp 1 vr va vg)).toArray 38]) (.calm 0 (.one 1 (.calm 2 (.one 3 (.calm 4 (.calm 5 (.done))))))) (bZ [0]) ?_
  repeat(first|refine GW ?_|(refine GN ?_;first|refine QW (aL (i:=0) aI.ty I I (kJ jb I)) ?_))
  refine aJ I ?_;refine aW (he0 aF.en I) (fun w hm=>B4 w) I I I ?_;intro vt _
  conv=>arg 8;simp only[zJ,dr,ret,id_eq,DQ]
  conv=>arg 7;simp only[DQ]
  refine aK (bZ [0]) ?_
  repeat(first|refine GW ?_|(refine GN ?_;first|refine QW (bz I (hb vt)) ?_))
  refine aJ I (bQ I I I fun g2=>?_);refine zL ?_;refine aK (bZ [0]) ?_
  repeat(first|refine GW ?_|(refine GN ?_;first|refine QW (UO I (UP aB _)) ?_))
  try refine GA ?_
  exact dq I I fun w hm=>hm.meets (S:=bgS aB vo pk (jE t n vp 1 vr va vg)) (g2,vt) trivial [2,1] akV I
 |false=>
  subst Dj;refine enter (args:=[aP (kp vo pk (jE t n vp (if aD=aB then 1 else 2) vr va vg)).toArray]) (n:=16) Tryz.func48 I I I ?_;refine bY (a_ (bQ I I I fun g1=>?_));refine zL ?_
  repeat(first|refine GA ?_|refine gV (aw (v:=ap av 2) aI.ty I (aE (i:=0) I (kI 3 jb I I))) ?_)
  refine dK ([aO g1 (kp vo pk (jE t n vp 2 vr va vg)).toArray 38]) (.calm 0 (.one 1 (.calm 2 (.one 3 (.calm 4 (.calm 5 (.done))))))) (bZ [0]) ?_
  repeat(first|refine GW ?_|(refine GN ?_;first|refine QW (aL (i:=0) aI.ty I I (kJ jb I)) ?_))
  refine aJ I ?_;refine aW (he0 aF.en I) (fun w hm=>HL w) I I I ?_;intro vt _
  conv=>arg 8;simp only[zJ,dr,ret,id_eq,DV]
  conv=>arg 7;simp only[DV]
  refine aK (bZ [0]) ?_
  repeat(first|refine GW ?_|(refine GN ?_;first|refine QW (bz I (hb vt)) ?_))
  refine aJ I (bQ I I I fun g2=>?_);refine zL ?_;refine aK (bZ [0]) ?_
  repeat(first|refine GW ?_|(refine GN ?_;first|refine QW (UO I (UP aD _)) ?_))
  try refine GA ?_
  exact dq I I fun w hm=>hm.meets (S:=bgS aD vo pk (jE t n vp 2 vr va vg)) (g2,vt) trivial [2,1] akV I
theorem Jd.gr{w w':World}{v:Value}{m:Md}{vo vn vt vp vr va vg:Value}(h:Jd w v m vo vn vt vp vr va vg)(hg:Gr w w'):Jd w' v m vo vn vt vp vr va vg:=
 ⟨h.val,h.of.gr hg,h.pk.gr hg,h.De.gr hg,Dz h.rows hg,h.l_.gr hg⟩
theorem LX(w0:World)(x:Value)(m:Md)(T N:Nat)(b:Bool){vo vn vt vp vr va vg:Value}(hv:Jd w0 x m vo vn vt vp vr va vg)(hk:MdFit m b T N)(g:Nat)(v:Value)(p:PS)(hp:okP m b p)(a t:Nat)(ha:a<=1000000)(ht:t<T)(w:World)(B:b_)(ho:mv w0 B)
 (hm:Mem B [nC g vo (jm m.o vn vt) (jE m.g.aQ m.g.bB vp m.mode vr va vg) v a 0 aD (paB b),xA b v p] w):
 Calls aC (SL b) #[aH (ah ⟨g,0,aj⟩),ap av (t:Int)] w (dX (Xk b (paB b) g vo (jm m.o vn vt) (jE m.g.aQ m.g.bB vp m.mode vr va vg) a (iO m b p a (t:Int))) B):=by
 cases b
 ·exact LV w0 x m T N hv hk g v p hp a t ha ht w B ho hm
 ·exact LU w0 x m T N hv hk g v p hp a t ha ht w B ho hm
theorem O7(w0:World)(x:Value)(m:Md)(T N:Nat)(b:Bool){vo vn vt vp vr va vg:Value}(hv:Jd w0 x m vo vn vt vp vr va vg)(hk:MdFit m b T N)(g:Nat)(v:Value)(p:PS)(hp:okP m b p)(a:Nat)(ha:a<=1000000)(w:World)(B:b_)(ho:mv w0 B)
 (hm:Mem B [nC g vo (jm m.o vn vt) (jE m.g.aQ m.g.bB vp m.mode vr va vg) v a 0 aD (paB b),xA b v p] w):
 Calls aC (acE b) #[aH (ah ⟨g,0,aj⟩)] w (dX (Xl g vo (jm m.o vn vt) (jE m.g.aQ m.g.bB vp m.mode vr va vg) a (oh m b p a) (paB b)) B):=by
 cases b
 ·exact O5 w0 x m T N hv hk g v p hp a ha w B ho hm
 ·exact O4 w0 x m T N hv hk g v p hp a ha w B ho hm
def O8(vo:Value)(R:List bX×Int×Nat):Array Value:=#[vo,ap av R.2.1,ap av (R.2.2:Int)]
def AT(R:List bX×Int×Nat):Spec Value:=⟨fun _=>True,fun vo=> .tuple #[.agg (O8 vo R),ap av 0],fun vo=>[rT vo R.1]⟩
theorem sL{v:Value}{a b:Int}(h:v.oneCell'=aB):(#[v,ap av a,ap av b]:Array Value).toList.all f_=true:=by
 simp only[cV,dc,h];rfl
theorem aeP(m:Md)(b:Bool)(p:PS)(a:Nat)(out:List bX):SI m b [] p a out=(aj,out,p,a):=rfl
attribute [local irreducible] Instr.build in
set_option maxRecDepth 100000 in
theorem CV(x:Value)(m:Md)(b:Bool)(T N:Nat){vo vn vt vp vr va vg:Value}(s:List UInt8)(w:World)(h:Jd w x m vo vn vt vp vr va vg)(hk:MdFit m b T N)(hs:s.length<=2000):
 Calls aC 14 #[x,str s] w (cJ (AT (lA m b s)) w):=by
 have jb:(jm m.o vn vt).length=258:=iA _ _ _;have hrt:=fun w' (hw:Gr w w')=>AM x m w' (h.gr hw) hk.toMdGood;have hlx:=fun w' (hw:Gr w w')=>Jj m.o vn vt m.N m.tags s w' (h.pk.gr hw) hk.byte J;rw[DR hk.lC hs,show Pf m.o vn vt=aP (jm m.o vn vt).toArray from I]at hlx;have zv:=fun w'=>LW b (vo:=vo) (pk:=jm m.o vn vt) (t:=m.g.aQ) (n:=m.g.bB) (vp:=vp) (vr:=vr) (va:=va) (vg:=vg) jb hk.md w';have ai_:=fun g v p hp a t ha ht w' B (ho:mv w B) hm=>LX w x m T N b h hk g v p hp a t ha ht w' B ho hm;have agC:=fun g v p hp a ha w' B (ho:mv w B) hm=>O7 w x m T N b h hk g v p hp a ha w' B ho hm;have uT:=fun(p:PS) hp a t ht h0=>Xf (b:=b) hk (p:=p) hp (a:=a) (t:=t) ht h0;have AU:=tV (o:=m.o) (N:=m.N) (tags:=m.tags) (n:=(m.of.length:Int)) (by have:=hk.some;omega) hk.tag s (s.length+1) 0;have RG:=OV (o:=m.o) (N:=m.N) (tags:=m.tags) s;have hb5:=h.of;have akg:=ai3 hk;have ahh:=fun(p:PS) hp a=>acs (b:=b) hk (p:=p) hp (a:=a);have On:=hk.ofs;have htT:=hk.tT;obtain⟨ao,co,rfl,zy,Hd,ho3⟩:=hb5;unfold lA;rw[show mg m.o m.N m.tags s (s.length+1) 0=qH m.o m.N m.tags s from I]at AU;generalize qH m.o m.N m.tags s=R at*;obtain⟨l,at',e⟩:=R;obtain rfl:=h.val;clear h hk;generalize jm m.o vn vt=PK at*;generalize hG:lz m b (l,at',e) s.length=G;refine enter (args:=[aP (kp (ak ao m.of.length co) PK (jE m.g.aQ m.g.bB vp m.mode vr va vg)).toArray,str s]) (n:=102) Tryz.func14 I I I ?_;refine bY (a_ (bQ I I I fun g2=>aY I fun g4=>?_));refine zL ?_
 repeat(first|refine GA ?_|refine gV (aL (i:=0) aI.ty I I (kJ jb I)) ?_)
 refine aW (kZ aF.en I I) (fun w hm=>hrt _ hm.below) I I I ?_;intro _ _;refine zL ?_
 repeat(first|refine GA ?_|refine gV (aU (cs:=PK) aI.ty I jb (fun j v h=>aE (i:=0) I (Us jb h))) ?_)
 refine aW (fP aF.en I I I) (fun w hm=>hlx _ hm.below) I I I ?_;intro vl _
 conv=>arg 8;simp only[zJ,dr,ret,id_eq,GV]
 conv=>arg 7;simp only[GV]
 repeat(first|refine GA ?_|refine gV (aL (i:=0) aI.ty I I (kJ jb I)) ?_)
 refine aW (kZ aF.en I I) (fun w hm=>zv _) I I I ?_;rintro⟨g5,vq⟩ _
 conv=>arg 8;simp only[zJ,dr,ret,id_eq,bgS]
 conv=>arg 7;simp only[bgS]
 try refine GA ?_
 refine aY I fun g11=>?_;refine zL ?_
 repeat(first|refine GC ?_|refine gV (dV (i:=2) bI.eq I I) ?_|refine GB ?_)
 refine P2 (i:=2) I fun Gl cl hv q1 q2 q3=>?_;subst hv;refine jw 55 2 ?_;obtain⟨f1,f2⟩:=RG;dsimp only at f1 f2;have hG0:∀R,SI m b l Di 0 []=R->lz m b (l,at',e) s.length=match R with|(ah x,out,_,_)=>(out,x)|(aj,out,p,a)=>if e≠0 then(out,e,at')else(out++(oh m b p a).2,(oh m b p a).1,s.length):=fun R h=>by subst h;rfl
 generalize hR0:SI m b l Di 0 []=R0 at hG0;refine s7 [0,1,2,3,4,5,6] ?_;refine dU (ι:=Nat×Nat×PS×List bX×Value×Value) (fun(k,a,p,out,_,_)=>k<=l.length/\SI m b (l.drop k) p a out=R0/\okP m b p/\a<=k/\out.length<=k*2001)
  (fun(k,_,_,_,_,_)=>[(1,str s),(2,aH (ah ⟨g2,0,aj⟩)),(4,aH (ah ⟨g4,0,aj⟩)),(8,ap av (at':Int)),(9,ap av e),(10,.iface (paT b) (aH (ah ⟨g5,0,aj⟩))),(11,aH (ah ⟨g11,0,aj⟩)),(38,ak (gA Gl) l.length cl),(39,ap av l.length),(40,ap av (k:Int))])
  (fun(_,a,p,out,vq,vo)=>[aO g2 (kp (ak ao m.of.length co) PK (jE m.g.aQ m.g.bB vp m.mode vr va vg)).toArray 38,aO g4 #[ak aj 0 0,ap av 0,ap av 0] 45,CO (ak (gA Gl) l.length cl) l,nC g5 (ak ao m.of.length co) PK (jE m.g.aQ m.g.bB vp m.mode vr va vg) vq a 0 aD (paB b),xA b vq p,aO g11 #[vo,ap av 0,ap av 0] 45,rT vo out]) (fun(k,_,_,_,_,_)=>l.length-k) (0,0,Di,[],vq,ak aj 0 0)
  ⟨bC _,hR0,akg,aT _,by simp⟩ ?_
 clear hR0;rintro⟨k,a,p,out,vq,vo⟩ ⟨i1,i2,i3,i4,i5⟩;dsimp only at i1 i2 i3 i4 i5⊢
 by_cases c:k<l.length
 ·obtain⟨gl,rfl⟩:∃gl,Gl=ah gl:=by
   cases Gl with
   |none=>have:=q3 I;omega
   |some gl=>exact⟨gl,rfl⟩
  obtain⟨r1,r2⟩:=AU _ (bV c);rw[dJ c,G8]at i2;have eK:=fun(W:b_) (L:List b9) (i:Nat) (hi:L[i]?=ah (CO (ak (ah ⟨gl,0,aj⟩) l.length cl) l))=>fun(j:Nat) (u:Value) (h:(mI l[k])[j]?=ah u)=>oC (W:=W) OM hi c j u h;generalize l[k]=t at*;obtain⟨r0,fr,tt⟩:=t;dsimp only at r1 r2 eK;obtain⟨r,rfl⟩:∃r:Nat,r0=r:=⟨r0.toNat,by omega⟩;obtain⟨b1,o1,rfl,hro⟩:=ho3 J;have hr:r<m.of.length:=by omega
  have DB:=fun(L:List b9)=>hU (L:=L) Lw hro hr 0 _ I;have hx:=On _ (bV hr);have hox:oy m ((r:Int),fr,tt)=m.of[r]:=by unfold oy;rw[bD,show((r:Int),fr,tt).1.toNat=r from I,bm hr,iz]
  rw[hox]at i2;generalize m.of[r]=x at*;clear hox hro ho3 AU
  repeat(first|refine GA ?_|refine gV (aR bI.eq aI.ty I I c) ?_|refine gV (aU aI.ty I I (eK _ _ 2 I)) ?_)
  refine aY I fun g13=>?_;refine zL ?_
  try refine GA ?_
  refine gG 7 (cs':=(mI ((r:Int),fr,tt)).toArray) ?_;refine zL ?_
  by_cases c1:x<0
  ·rw[if_pos c1]at i2
   repeat(first|refine GA ?_|refine gV (aw (v:=ak (ah ⟨b1,o1,aj⟩) m.of.length co) aI.ty I (aE (i:=0) I I)) ?_|refine gV (aw (v:=ap av (r:Int)) aI.ty I (aE (i:=7) I I)) ?_|refine gV (aR bI.eq aI.ty I I hr) ?_|refine gV (aw (v:=ap av x) aI.ty I (DB _)) ?_)
   refine dv [0,1,2,3,4,5,6] ?_;exact bO (k+1,a,p,out,vq,vo) ⟨by omega,i2,i3,by show a<=k+1;omega,by show out.length<=(k+1)*2001;omega⟩ (by show l.length-(k+1)<l.length-k;omega)
  rw[if_neg c1]at i2;obtain⟨tn,rfl⟩:∃tn:Nat,x=tn:=⟨x.toNat,by omega⟩;have hpu:=fun w' B (ho:mv w B) hm=>ai_ g5 vq p i3 a tn J J w' B ho hm;have hgo:=uT p i3 a (tn:Int) J;generalize iO m b p a (tn:Int)=R at*;obtain⟨e1,p1,fv⟩:=R;dsimp only at i2 hgo
  repeat(first|refine GA ?_|refine gV (aw (v:=ak (ah ⟨b1,o1,aj⟩) m.of.length co) aI.ty I (aE (i:=0) I I)) ?_|refine gV (aw (v:=ap av (r:Int)) aI.ty I (aE (i:=7) I I)) ?_|refine gV (aR bI.eq aI.ty I I hr) ?_|refine gV (aw (v:=ap av (tn:Int)) aI.ty I (DB _)) ?_)
  refine dK ([aO g2 (kp (ak (ah ⟨b1,o1,aj⟩) m.of.length co) PK (jE m.g.aQ m.g.bB vp m.mode vr va vg)).toArray 38,aO g13 (mI ((r:Int),fr,tt)).toArray 53]) (.calm 0 (.calm 1 (.calm 2 (.calm 3 (.calm 4 (.calm 5 (.calm 6 (.calm 7 (.calm 8 (.calm 9 (.one 10 (.calm 11 (.calm 12 (.calm 13 (.calm 14 (.calm 15 (.done))))))))))))))))) (bZ [0,7]) ?_
  repeat(first|(refine GN ?_;first|refine QW QP ?_|refine QW (aw (v:=ak (ah ⟨b1,o1,aj⟩) m.of.length co) aI.ty I (aE (i:=0) I I)) ?_|refine QW (aw (v:=ap av (r:Int)) aI.ty I (aE (i:=1) I I)) ?_|refine QW (aR bI.eq aI.ty I I hr) ?_|refine QW (aw (v:=ap av (tn:Int)) aI.ty I (DB _)) ?_|refine QW (qV I I) ?_|refine QW (aeN I (Xm b _)) ?_|refine GX ?_)|refine GW ?_)
  by_cases c2:e1=0
  ·subst c2
   obtain⟨j1,j2⟩:=hgo rfl;rw[if_neg (by simp)]at i2;rw[LP]at hpu;refine aJ I (bH [3,4] [0,1,2,5,6,7] akV I I (ai9 (CU b) I I (G' b _)) (fun w' hm hb=>hpu w' _ ((mv.self w).on hm fun o h=>qq h) hb) I I I ?_);rintro⟨v1,v2⟩ _;refine zL ?_;refine aK (bZ [0,5]) ?_
   try refine GW ?_
   repeat(first|refine GA ?_|refine gV (aw (v:=vo) aI.ty I (aE (i:=3) I I)) ?_)
   refine eT (i:=4) (k:=fv.length) (ys:=fv.flatMap dS) I (kX (i:=8) I) I I (ab1 fv) (Tl fv) J J I fun GI=>?_;refine zL ?_
   try refine GA ?_
   refine aV (i:=4) I fun hv0 jM=>bT (i:=3) I I I hv0 jM I ?_;refine zL ?_
   try refine GA ?_
   refine dv [0,1,2,6,7,3,4] ?_;exact bO (k+1,a+1,p1,out++fv,v1,GI) ⟨by omega,i2,j1,by show a+1<=k+1;omega,(by show(out++fv).length<=(k+1)*2001;rw[bK];omega)⟩ (by show l.length-(k+1)<l.length-k;omega) (hl:=by rw[UB];push_cast;rfl)
  rw[if_pos c2]at i2;rw[LQ c2]at hpu;subst i2;have XF:=hG0 _ I;rw[hG]at XF;subst XF;refine aJ I (bH [3,4] [0,1,2,5,6,7] akV I I (ai9 (CU b) I I (G' b _)) (fun w' hm hb=>hpu w' _ ((mv.self w).on hm fun o h=>qq h) hb) I I I ?_);rintro _ _;refine zL ?_;refine aK (bZ [0,5]) ?_
  try refine GW ?_
  repeat(first|refine GC ?_|refine gV (dz (b:=aB) I I (decide_eq_true c2)) ?_|refine GB ?_)
  refine S7 (i:=4) I fun _ jM=>?_;refine dK ([aO g13 (mI ((r:Int),fr,tt)).toArray 53]) (.calm 0 (.calm 1 (.calm 2 (.calm 3 (.one 4 (.calm 5 (.one 6 (.done)))))))) (bZ [5]) ?_
  repeat(first|refine GW ?_|(refine GN ?_;first|refine QW (aw (v:=ap av (fr:Int)) aI.ty I (aE (i:=0) I I)) ?_))
  refine aJ I (bT (i:=3) I I I I I I (aK (bZ [5]) ?_))
  try refine GW ?_
  refine aJ I (bT (i:=3) I I I I I I (aK (bZ [5]) ?_))
  try refine GW ?_
  repeat(first|refine GA ?_|refine gV (aL (i:=3) aI.ty I I I) ?_)
  refine aX (i:=1) (cs':=#[vo,ap av e1,ap av (fr:Int)]) I I I I (sL jM) I ?_;refine zL ?_
  try refine GA ?_
  exact ez (i:=1) I I I I I fun w hm=>hm.meets (S:=AT (out,e1,fr)) vo trivial [4] akV I
 ·obtain rfl:k=l.length:=by omega
  rw[fS (aT _),aeP]at i2;subst i2;refine S7 (i:=6) I fun hv0 jM=>?_
  by_cases c3:e=0
  ·subst c3
   have XF:=hG0 (aj,out,p,a) I;rw[hG]at XF;dsimp only at XF;rw[if_neg (by simp)]at XF;subst XF;have Kc:=fun w' B (ho:mv w B) hm=>agC g5 vq p i3 a J w' B ho hm;obtain⟨JW,J1⟩:=ahh p i3 a;generalize oh m b p a=R at*;obtain⟨e1,fv⟩:=R
   try refine GA ?_
   by_cases c4:e1=0
   ·subst c4
    have JW:=JW I;dsimp only at JW;rw[LR]at Kc;refine bH [3,4] [0,1,2,5,6] akV I I (ai8 (Ha b) I (Jr b _)) (fun w' hm hb=>Kc w' _ ((mv.self w).on hm fun o h=>qq h) hb) I I I ?_;intro v2 _;refine zL ?_
    repeat(first|refine GA ?_|refine gV (aw (v:=vo) aI.ty I (aE (i:=3) I I)) ?_)
    refine eT (i:=4) (k:=fv.length) (ys:=fv.flatMap dS) I (kX (i:=6) I) I I (ab1 fv) (Tl fv) J J I fun GI=>?_;refine zL ?_
    try refine GA ?_
    refine aV (i:=4) I fun hv0 jM=>bT (i:=3) I I I hv0 jM I ?_;refine zL ?_
    try refine GA ?_
    refine bT (i:=3) I I I I I I ?_;refine zL ?_
    try refine GA ?_
    refine bT (i:=3) I I I I I I ?_;refine zL ?_
    repeat(first|refine GA ?_|refine gV (aL (i:=3) aI.ty I I I) ?_)
    refine aX (i:=1) (cs':=#[GI,ap av 0,ap av (s.length:Int)]) I I I I (sL jM) I ?_;refine zL ?_
    try refine GA ?_
    exact ez (i:=1) I I I I I fun w hm=>hm.meets (S:=AT ((out++fv),0,s.length)) GI trivial [4] akV (by show[rT GI (out++fv)]=_;rw[<-UB];rfl)
   obtain rfl:fv=[]:=J1 c4;rw[LS c4]at Kc;refine bH [3,4] [0,1,2,5,6] akV I I (ai8 (Ha b) I (Jr b _)) (fun w' hm hb=>Kc w' _ ((mv.self w).on hm fun o h=>qq h) hb) I I I ?_;intro v2 _;refine zL ?_
   repeat(first|refine GA ?_|refine gV (aw (v:=vo) aI.ty I (aE (i:=3) I I)) ?_)
   refine rZ 55 2 ?_;refine Et [0,1,2,3,4,5,6] ?_;refine eT (i:=4) (k:=0) (ys:=[]) I (kX (i:=6) I) I I I (by simp) J J I fun GI=>?_;refine zL ?_
   try refine GA ?_
   refine aV (i:=4) I fun hv0 jM=>bT (i:=3) I I I hv0 jM I ?_;refine zL ?_
   try refine GA ?_
   refine bT (i:=3) I I I I I I ?_;refine zL ?_
   try refine GA ?_
   refine bT (i:=3) I I I I I I ?_;refine zL ?_
   repeat(first|refine GA ?_|refine gV (aL (i:=3) aI.ty I I I) ?_)
   refine aX (i:=1) (cs':=#[GI,ap av e1,ap av (s.length:Int)]) I I I I (sL jM) I ?_;refine zL ?_
   try refine GA ?_
   exact ez (i:=1) I I I I I fun w hm=>hm.meets (S:=AT ((out++[]),e1,s.length)) GI trivial [4] akV (by show[rT GI (out++[])]=_;rw[dQ];rfl)
  repeat(first|refine GC ?_|refine gV (dz (b:=aB) I I (decide_eq_true c3)) ?_|refine GB ?_)
  refine bT (i:=5) I I I I I I ?_;refine zL ?_
  try refine GA ?_
  refine bT (i:=5) I I I I I I ?_;refine zL ?_
  repeat(first|refine GA ?_|refine gV (aL (i:=5) aI.ty I I I) ?_)
  refine aX (i:=1) (cs':=#[vo,ap av e,ap av (at':Int)]) I I I I (sL jM) I ?_;refine zL ?_
  try refine GA ?_
  have XF:=hG0 (aj,out,p,a) I;rw[hG]at XF;dsimp only at XF;rw[if_pos c3]at XF;subst XF;exact ez (i:=1) I I I I I fun w hm=>hm.meets (S:=AT (out,e,at')) vo trivial [6] akV I
theorem aeQ{o:Of}{N:List (List Int)}{tags:List Int}{s:List UInt8}(h:sB o N tags=0)(hs:2000<s.length):Dh o N tags s=([],0,2):=by
 unfold Dh;rw[if_neg (by rw[h];simp),if_pos hs]
theorem O9(w:World):(dm 45 (#[]:Array (Nat×Value))).run aC w= .ok (aP #[ak aj 0 0,ap av 0,ap av 0]) w:=by kernel_rfl
attribute [local irreducible] Instr.build in
set_option maxRecDepth 100000 in
theorem LY(x:Value)(m:Md){vo vn vt vp vr va vg:Value}(s:List UInt8)(w:World)(h:Jd w x m vo vn vt vp vr va vg)(hk:MdGood m)(hs:2000<s.length)(hs2:s.length<=9223372036854775807):
 Calls aC 14 #[x,str s] w (cJ (ret (.tuple #[aP #[ak aj 0 0,ap av 0,ap av 0],ap av 2])) w):=by
 have jb:(jm m.o vn vt).length=258:=iA _ _ _;have hrt:=fun w' (hw:Gr w w')=>AM x m w' (h.gr hw) hk;obtain rfl:=h.val;clear h hk;generalize jm m.o vn vt=PK at*;refine enter (args:=[aP (kp vo PK (jE m.g.aQ m.g.bB vp m.mode vr va vg)).toArray,str s]) (n:=102) Tryz.func14 I I I ?_;refine bY (a_ (bQ I I I fun g2=>aY I fun g4=>?_));refine zL ?_
 repeat(first|refine GA ?_|refine gV (aL (i:=0) aI.ty I I (kJ jb I)) ?_)
 refine aW (kZ aF.en I I) (fun w hm=>hrt _ hm.below) I I I ?_;intro _ _;refine zL ?_;have xl:=O9
 try refine GA ?_
 refine dC (bz I (fun w=>xl w)) I I I ?_
 try refine GA ?_
 refine gG 1 (cs':=#[ak aj 0 0,ap av 0,ap av 0]) ?_;refine zL ?_
 try refine GA ?_
 exact ez (i:=1) I I I I I fun w hm=>hm.ret
end cg
namespace cg
open Go.RowKit cT ey aM je ph qE c_
def UQ(m:Md)(X:List Tok×Nat×Int):Spec (Value×Value):=⟨fun _=>True,fun x=> .tuple #[x.1,x.2,.bool (decide (X.2.2≠0))],fun x=>[bx 3 1 x.1 (iq m X.1).length ((iq m X.1).map (.int .i64)),bx 3 1 x.2 (jo m X.1).length ((jo m X.1).map (.int .i64))]⟩
theorem Xn{m:Md}{l:List Tok}{k:Nat}(hk:k<l.length):nK m (l.take (k+1))=if 0<=oy m l[k]then nK m (l.take k)++[l[k]]else nK m (l.take k):=by
 unfold nK;rw[List.take_succ_eq_append_getElem hk,List.filter_append]
 by_cases c:0<=oy m l[k]
 rw[if_pos c,acx (by simpa using c),acy];rw[if_neg c,acw (by simpa using c),acy,dQ]
theorem aeR{m:Md}{l:List Tok}{k:Nat}:(nK m (l.take k)).length<=k:=eC (List.length_filter_le _ _) (by rw[gZ];omega)
theorem Xo(m:Md)(l:List Tok):(iq m l).length=(nK m l).length:=dw ..
theorem SN(m:Md)(l:List Tok):(jo m l).length=(nK m l).length:=dw ..
set_option maxRecDepth 100000 in
theorem LZ(x:Value)(m:Md){vo vn vt vp vr va vg:Value}(s:List UInt8)(w:World)(h:Jd w x m vo vn vt vp vr va vg)(hk:MdGood m)(hs:s.length<=9223372036854775807):
 Calls aC 18 #[x,str s] w (cJ (UQ m (Dh m.o m.N m.tags s)) w):=by
 have jb:(jm m.o vn vt).length=258:=iA _ _ _;have hlx:=fun w' (hw:Gr w w')=>Jj m.o vn vt m.N m.tags s w' (h.pk.gr hw) hk.byte hs;rw[show Pf m.o vn vt=aP (jm m.o vn vt).toArray from I]at hlx;have AU:(∀t∈(Dh m.o m.N m.tags s).1,0<=t.1/\t.1<(m.of.length:Int))/\(Dh m.o m.N m.tags s).1.length<=2000:=by
  by_cases c:2000<s.length
  rw[aeQ hk.lC c];exact⟨fun t ht=>(by cases ht),by simp⟩;rw[DR hk.lC J];have:=(OV (o:=m.o) (N:=m.N) (tags:=m.tags) s).1;exact⟨tV (by have:=hk.some;omega) hk.tag s (s.length+1) 0,by omega⟩
 have DB:=h.of;have On:=hk.ofs;generalize Dh m.o m.N m.tags s=X at*;obtain⟨l,at',e⟩:=X;obtain⟨hr,hl⟩:=AU;obtain⟨ao,co,rfl,zy,Hd,ho3⟩:=DB;unfold maxLen at Hd;obtain rfl:=h.val;clear h hk;generalize jm m.o vn vt=PK at*;dsimp only at hr hl;refine enter (args:=[aP (kp (ak ao m.of.length co) PK (jE m.g.aQ m.g.bB vp m.mode vr va vg)).toArray,str s]) (n:=52) Tryz.func18 I I I ?_;refine bY (a_ (bQ I I I fun g2=>?_));refine zL ?_
 repeat(first|refine GA ?_|refine gV (aU (cs:=PK) aI.ty I jb (fun j v h=>aE (i:=0) I (Us jb h))) ?_)
 refine aW (fP aF.en I I I) (fun w hm=>hlx _ hm.below) I I I ?_;intro vl _
 conv=>arg 8;simp only[zJ,dr,ret,id_eq,GV]
 conv=>arg 7;simp only[GV]
 repeat(first|refine GC ?_|refine gV (dV (i:=1) bI.eq I I) ?_|refine GB ?_)
 refine P2 (i:=1) I fun Gl cl hv q1 q2 q3=>?_;subst hv;refine jw 3 1 (jw 3 1 ?_);refine dU (ι:=Nat×Value×Value) (fun(k,_,_)=>k<=l.length) (fun(k,v4,v5)=>[(2,aH (ah ⟨g2,0,aj⟩)),(4,v4),(5,v5),(9,ap av e),(20,ak (gA Gl) l.length cl),(21,ap av l.length),(22,ap av (k:Int))])
  (fun(k,v4,v5)=>[aO g2 (kp (ak ao m.of.length co) PK (jE m.g.aQ m.g.bB vp m.mode vr va vg)).toArray 38,CO (ak (gA Gl) l.length cl) l,bx 3 1 v4 (iq m (l.take k)).length ((iq m (l.take k)).map (.int .i64)),bx 3 1 v5 (jo m (l.take k)).length ((jo m (l.take k)).map (.int .i64))]) (fun(k,_,_)=>l.length-k) (0,ak aj 0 0,ak aj 0 0) (bC _) ?_
 rintro⟨k,v4,v5⟩ i1;dsimp only at i1⊢
 by_cases c:k<l.length
 ·obtain⟨gl,rfl⟩:∃gl,Gl=ah gl:=by
   cases Gl with
   |none=>have:=q3 I;omega
   |some gl=>exact⟨gl,rfl⟩
  have eK:=fun(W:b_) (L:List b9) (i:Nat) (hi:L[i]?=ah (CO (ak (ah ⟨gl,0,aj⟩) l.length cl) l))=>fun(j:Nat) (u:Value) (h:(mI l[k])[j]?=ah u)=>oC (W:=W) OM hi c j u h;obtain⟨r1,r2⟩:=hr _ (bV c);have hkt:=Xn (m:=m) c;have hkl:=aeR (m:=m) (l:=l) (k:=k);have hw1:(iq m (l.take k)).length<=2000:=by rw[Xo];omega
  have hw2:(jo m (l.take k)).length<=2000:=by rw[SN];omega
  generalize l[k]=t at*;obtain⟨r0,fr,tt⟩:=t;dsimp only at r1 r2 eK;obtain⟨r,rfl⟩:∃r:Nat,r0=r:=⟨r0.toNat,by omega⟩;obtain⟨b1,o1,rfl,hro⟩:=ho3 J;have Ca:r<m.of.length:=by omega
  have DB:=fun(L:List b9)=>hU (L:=L) Lw hro Ca 0 _ I;have hox:oy m ((r:Int),fr,tt)=m.of[r]:=by unfold oy;rw[bD,show((r:Int),fr,tt).1.toNat=r from I,bm Ca,iz]
  have hxx:=On _ (bV Ca);rw[<-hox]at DB hxx;generalize hx:oy m ((r:Int),fr,tt)=x at*;clear hox hro ho3
  repeat(first|refine GA ?_|refine gV (aR bI.eq aI.ty I I c) ?_|refine gV (aU aI.ty I I (eK _ _ 1 I)) ?_)
  refine aY I fun g11=>?_;refine zL ?_
  try refine GA ?_
  refine gG 4 (cs':=(mI ((r:Int),fr,tt)).toArray) ?_;refine zL ?_
  by_cases c1:0<=x
  ·rw[if_pos c1]at hkt
   have e1:iq m (l.take (k+1))=iq m (l.take k)++[x]:=by unfold iq;rw[hkt,eb,<-hx];rfl
   have e2:jo m (l.take (k+1))=jo m (l.take k)++[(fr:Int)]:=by unfold jo;rw[hkt,eb];rfl
   repeat(first|refine GA ?_|refine gV (aw (v:=ak (ah ⟨b1,o1,aj⟩) m.of.length co) aI.ty I (aE (i:=0) I I)) ?_|refine gV (aw (v:=ap av (r:Int)) aI.ty I (aE (i:=4) I I)) ?_|refine gV (aR bI.eq aI.ty I I Ca) ?_|refine gV (aw (v:=ap av x) aI.ty I (DB _)) ?_)
   refine ka (i:=2) I I I I I I (fun z h=>by cases h;rfl) J J I fun z1 w1=>?_;refine zL ?_
   repeat(first|refine GA ?_|refine gV (aw (v:=ap av (fr:Int)) aI.ty I (aE (i:=4) I I)) ?_)
   refine ka (i:=3) I I I I I I (fun z h=>by cases h;rfl) J J I fun z2 w2=>?_;refine zL ?_
   try refine GA ?_
   refine dv [0,1,2,3] ?_;exact bO (k+1,w1,w2) (by show k+1<=l.length;omega) (by show l.length-(k+1)<l.length-k;omega) (hl:=by dsimp only;rw[e1,e2,eb,eb,bK,bK];rfl)
  rw[if_neg c1]at hkt;have e1:iq m (l.take (k+1))=iq m (l.take k):=by unfold iq;rw[hkt]
  have e2:jo m (l.take (k+1))=jo m (l.take k):=by unfold jo;rw[hkt]
  repeat(first|refine GA ?_|refine gV (aw (v:=ak (ah ⟨b1,o1,aj⟩) m.of.length co) aI.ty I (aE (i:=0) I I)) ?_|refine gV (aw (v:=ap av (r:Int)) aI.ty I (aE (i:=4) I I)) ?_|refine gV (aR bI.eq aI.ty I I Ca) ?_|refine gV (aw (v:=ap av x) aI.ty I (DB _)) ?_)
  refine dv [0,1,2,3] ?_;exact bO (k+1,v4,v5) (by show k+1<=l.length;omega) (by show l.length-(k+1)<l.length-k;omega) (hl:=by dsimp only;rw[e1,e2];rfl)
 ·obtain rfl:k=l.length:=by omega
  rw[ig (aT _)]
  repeat(first|refine GC ?_|refine gV (dz (b:=decide (e≠0)) I I I) ?_|refine GB ?_)
  exact m_ I I I I fun w hm=>hm.meets (S:=UQ m (l,at',e)) (v4,v5) trivial [2,3] akV I
end cg
namespace cg
open Go.RowKit cT ey aM dN ee dx o8
theorem Xp{M:List Bool}{b:List bX}{t:Bool}{k:Nat}(h:k<b.length):iY M (b.drop k) t=((if b[k].1=1 then t else if b[k].1=2 then M.getD b[k].2.toNat aD else aB)&&iY M (b.drop (k+1)) t):=by
 rw[dJ h];unfold iY;rw[cV]
theorem SO(g6 n gM cM:Nat)(vE vF vW vR vb:Value)(M:List Bool)(body:List bX)(w:World)(hg:w.heap[g6]?=ah (.cells (kB vE vF vW vR (da n gM cM)).cells 104 (0,0)))(hM:Sl w (da n gM cM) M.length (M.map .bool))(hn:n=M.length)(hs:Sl w vb body.length (body.flatMap dS))(hx:∀x∈body,x.1=1\/(x.1=2/\0<=x.2/\x.2<(n:Int)))
 (h5:∃b1 n1 c1 b2 n2 c2 b3 n3 c3 b4 n4 c4,vE=ak b1 n1 c1/\vF=ak b2 n2 c2/\vW=ak b3 n3 c3/\vR=ak b4 n4 c4):
 Calls aC 93 #[vb,aH (ah ⟨g6,0,aj⟩)] w (cJ (ret (.bool (iY M body aB))) w):=by
 subst hn;obtain⟨b1,n1,c1,b2,n2,c2,b3,n3,c3,b4,n4,c4,rfl,rfl,rfl,rfl⟩:=h5;have h4:∀(L:List b9),At w L ⟨g6,4,aj⟩ (da M.length gM cM):=fun L=>hJ (by rw[cell_of_row w g6 4 _ _ _ hg];rfl);obtain⟨bb,cb,rfl,Ft,JX,hb3⟩:=hs;obtain⟨bM,cM',he,hM1,hM2,hM3⟩:=hM;unfold da at he;simp only[kr,true_and]at he;obtain⟨rfl,rfl⟩:=he;unfold maxLen at JX hM2;refine enter (args:=[ak bb body.length cb,aH (ah ⟨g6,0,aj⟩)]) (n:=25) Tryz.func93 I I I ?_
 try refine GA ?_
 refine dU (ι:=Nat) (fun j=>j<=body.length/\iY M body aB=iY M (body.drop j) aB) (fun j=>[(1,aH (ah ⟨g6,0,aj⟩)),(6,ak bb body.length cb),(7,ap av body.length),(8,ap av (j:Int))]) (fun _=>[]) (fun j=>body.length-j) 0 ⟨bC _,rfl⟩ ?_;rintro j ⟨j1,j2⟩
 by_cases c7:j<body.length
 ·obtain⟨b,off,rfl,hr⟩:=hb3 J
  have eK:=fun L=>rz (W:=w) (L:=L) mc (fun q x hq=>hJ (hr q x hq)) c7;rw[Xp c7]at j2;have hxj:=hx body[j] (bV c7);clear hr hx;generalize body[j]=x at*;obtain⟨xq,xm⟩:=x;dsimp only at hxj j2
  by_cases c1:xq=2
  ·obtain⟨c2,c3⟩:=(hxj.resolve_left J).2
   obtain⟨m,rfl⟩:∃m:Nat,xm=m:=⟨xm.toNat,by omega⟩;have hm:m<M.length:=by omega
   obtain⟨b',Br,fP,pC⟩:=hM3 J;simp only[dg,D5,and_true]at fP;obtain⟨rfl,rfl⟩:=fP;have Kp:At w [] ⟨gM,0+m,aj⟩ (.bool M[m]):=jp pC (by simp[hm]);rw[if_neg J,if_pos c1,cX,bD,bm hm]at j2;dsimp only[Option.getD]at j2;have afr:∀L,At w L ⟨gM,0+m,aj⟩ (.bool M[m]):=fun L=>jp pC (by simp[hm]);generalize M[m]=bit at*;clear pC hM3
   cases bit
   ·rw[Bool.false_and]at j2
    rw[j2]
    repeat(first|refine GA ?_|refine gV (aR bI.eq aI.ty I I c7) ?_|refine gV (aU aI.ty I I (eK _)) ?_)
    refine aY I fun g5=>?_;refine gG 0 ?_;refine zL ?_
    repeat(first|refine GA ?_|refine gV (aw aI.ty I (aE (i:=0) I I)) ?_|refine gV (aw aI.ty I (h4 _)) ?_|refine gV (a8 bI.eq aI.ty I I hm) ?_|refine gV (aw aI.ty I (afr _)) ?_)
    exact dR
   rw[rP]at j2
   repeat(first|refine GA ?_|refine gV (aR bI.eq aI.ty I I c7) ?_|refine gV (aU aI.ty I I (eK _)) ?_)
   refine aY I fun g5=>?_;refine gG 0 ?_;refine zL ?_
   repeat(first|refine GA ?_|refine gV (aw aI.ty I (aE (i:=0) I I)) ?_|refine gV (aw aI.ty I (h4 _)) ?_|refine gV (a8 bI.eq aI.ty I I hm) ?_|refine gV (aw aI.ty I (afr _)) ?_)
   refine dv [] ?_;exact bO (j+1) ⟨by omega,j2⟩ J
  have c2:xq=1:=by omega
  rw[if_pos c2,rP]at j2
  repeat(first|refine GA ?_|refine gV (aR bI.eq aI.ty I I c7) ?_|refine gV (aU aI.ty I I (eK _)) ?_)
  refine aY I fun g5=>?_;refine gG 0 ?_;refine zL ?_
  repeat(first|refine GA ?_|refine gV (aw aI.ty I (aE (i:=0) I I)) ?_)
  refine dv [] ?_;exact bO (j+1) ⟨by omega,j2⟩ J
 ·rw[fS J]at j2
  rw[j2]
  try refine GA ?_
  exact dR
theorem O_(gc gm gO n gM cM:Nat)(t:Int)(vp vw vE vF vW vR vb:Value)(word:List Int)(c:fA)(Bd:Nat)(O:Nat->Nat->Bool)(M:List Bool)(body:List bX)(eh:Nat)(w:World)(h:ChR w gc gm t (n:Int) vp vw word c Bd)(hO:ae6 w gO n (word.length+1) O)(hM:Sl w (da n gM cM) M.length (M.map .bool))(hn:n=M.length)(hs:Sl w vb body.length (body.flatMap dS))(hx:∀x∈body,x.1=1\/(x.1=2/\0<=x.2/\x.2<(n:Int)))(mJ:∀x∈body,cT.dM x.2)(hf:eh<=word.length)(hw:word.length<=20)
 (h5:∃b1 n1 c1 b2 n2 c2 b3 n3 c3 b4 n4 c4,vE=ak b1 n1 c1/\vF=ak b2 n2 c2/\vW=ak b3 n3 c3/\vR=ak b4 n4 c4):
 Calls aC 53 #[aH (ah ⟨gc,0,aj⟩),kB vE vF vW vR (da n gM cM),nc n gO,vb,ap av (eh:Int)] w (cJ (ret (.bool (qx (eo c word) O M word.length eh body))) w):=by
 have Dj:=fun g6 w' (hg:Gr w w') hh=>SO g6 n gM cM vE vF vW vR vb M body w' hh (hM.gr hg) hn (hs.gr hg) hx h5;have jB:=fun x a' b' w' (hg:Gr w w')=>IK gc gm t (n:Int) vp vw word c Bd x a' b' w' (h.gr hg);obtain⟨b1,n1,c1,b2,n2,c2,b3,n3,c3,b4,n4,c4,rfl,rfl,rfl,rfl⟩:=h5;have h3:∀(L:List b9),At w L ⟨gc,3,aj⟩ vw:=fun L=>hJ (by rw[cell_of_row w gc 3 _ _ _ h.cell];rfl);obtain⟨gs,hgs⟩:=hO.ex;obtain⟨bw,cw,rfl,_,_,_⟩:=h.word;obtain⟨bb,cb,rfl,Ft,JX,hb3⟩:=hs;unfold maxLen at JX;clear h hO;unfold qx;generalize eo c word=o at*;refine enter (args:=[aH (ah ⟨gc,0,aj⟩),kB (ak b1 n1 c1) (ak b2 n2 c2) (ak b3 n3 c3) (ak b4 n4 c4) (da n gM cM),nc n gO,ak bb body.length cb,ap av (eh:Int)]) (n:=106) Tryz.func53 I I I ?_;refine bY (a_ (bQ I I I fun g6=>?_))
 repeat(first|refine GA ?_|refine gV (aw aI.ty I (h3 _)) ?_|refine gV (qV I I) ?_)
 refine aW (Ep aF.en I I) (fun w hm=>Dj g6 w hm.below (hm.get (i:=0) I)) I I I ?_;intro _ _;clear Dj;refine zL ?_
 cases rv:iY M body aB
 ·rw[if_neg akV]
  try refine GA ?_
  exact dR
 rw[if_pos I]
 repeat(first|refine GC ?_|refine gV (dh (r:=((word.length+1:Nat):Int)) I I J J J) ?_|refine GB ?_)
 refine lg gB aD I I J J I fun g13=>?_;refine zL ?_
 repeat(first|refine GA ?_|refine gV (a8 bI.eq aI.ty I I (show eh<word.length+1 by omega)) ?_)
 refine eV (i:=1) (v:=aB) (fun b=>decide (b=eh)) aI.ty I I I I I J (fun i _=>by by_cases e:i=eh<;>simp[e]) ?_;refine zL ?_
 try refine GA ?_
 generalize nQ:Hy o O word.length eh body (fun b=>decide (b=eh))=res;refine s7 [1] ?_;refine dU (ι:=Nat×Nat×(Nat->Bool)) (fun(j,_,A)=>j<=body.length/\res=Hy o O word.length eh (body.drop j) A) (fun(j,g,_)=>[(0,aH (ah ⟨gc,0,aj⟩)),(2,nc n gO),(4,ap av (eh:Int)),(11,ap av word.length),(13,ak (ah ⟨g,0,aj⟩) (word.length+1) (word.length+1)),(35,ak bb body.length cb),(36,ap av body.length),(37,ap av (j:Int))])
  (fun(_,g,A)=>[dI 4 gB g (word.length+1) A]) (fun(j,_,_)=>body.length-j) (0,g13,fun b=>decide (b=eh)) ⟨bC _,by rw[pf];exact nQ.symm⟩ ?_
 clear nQ;rintro⟨j,g,A⟩ ⟨i1,i2⟩;dsimp only at i1 i2⊢
 by_cases c7:j<body.length
 ·obtain⟨b,off,rfl,hr⟩:=hb3 J
  have eK:=fun L=>rz (W:=w) (L:=L) mc (fun q x hq=>hJ (hr q x hq)) c7;have hxj:=hx body[j] (bV c7);have ai':=mJ body[j] (bV c7);rw[dJ c7,Hy]at i2;clear hr hx mJ hb3;generalize body[j]=x at*;obtain⟨xq,xm⟩:=x;dsimp only at hxj ai' i2;have jB:=fun a b w' hg=>jB (xq,xm) a b w' hg ai'
  cases hAn:A word.length
  ·rw[hAn,if_neg akV]at i2
   repeat(first|refine GA ?_|refine gV (aR bI.eq aI.ty I I c7) ?_|refine gV (aU aI.ty I I (eK _)) ?_)
   refine aY I fun g15=>?_;refine gG 1 ?_;refine zL ?_;have hAt:∀L:List b9,L[0]?=ah (dI 4 gB g (word.length+1) A)->At w L ⟨g,0+word.length,aj⟩ (.bool aD):=fun L hL=>by rw[<-hAn];exact eG hL J
   repeat(first|refine GC ?_|refine gV (a8 bI.eq aI.ty I I (show word.length<word.length+1 by omega)) ?_|refine gV (aw aI.ty I (hAt _ I)) ?_|refine gV (dh (r:=((word.length+1:Nat):Int)) I I J J J) ?_|refine GB ?_)
   refine lg gB aD I I J J I fun g16=>?_;refine zL ?_
   try refine GA ?_
   refine dU (ι:=Nat) (fun k=>eh+k<=word.length+1/\(xq=2->Gb (fun a=>A a&&O xm.toNat a) eh k=aD)) (fun k=>[(0,aH (ah ⟨gc,0,aj⟩)),(2,nc n gO),(4,ap av (eh:Int)),(11,ap av word.length),(13,ak (ah ⟨g,0,aj⟩) (word.length+1) (word.length+1)),(15,aH (ah ⟨g15,0,aj⟩)),(16,ak (ah ⟨g16,0,aj⟩) (word.length+1) (word.length+1)),(17,ap av ((eh+k:Nat):Int)),(35,ak (ah ⟨b,off,aj⟩) body.length cb),(36,ap av body.length),(37,ap av (j:Int))])
    (fun k=>[dI 4 gB g (word.length+1) A,aO g15 (dS (xq,xm)).toArray 148,dI 4 gB g16 (word.length+1) (km o (xq,xm) eh A k)]) (fun k=>word.length+1-(eh+k)) 0 ⟨by omega,fun _=>rfl⟩ ?_
   rintro k ⟨k1,k2⟩
   by_cases c8:eh+k<=word.length
   ·have aja:∀L:List b9,L[0]?=ah (dI 4 gB g (word.length+1) A)->At w L ⟨g,0+(eh+k),aj⟩ (.bool (A (eh+k))):=fun L hL=>eG hL J
    cases hA:A (eh+k)
    ·have hAk:∀L:List b9,L[0]?=ah (dI 4 gB g (word.length+1) A)->At w L ⟨g,0+(eh+k),aj⟩ (.bool aD):=by rw[<-hA];exact aja
     have Dd:xq=2->Gb (fun a=>A a&&O xm.toNat a) eh (k+1)=false:=fun e=>by rw[Gb,k2 e,hA];rfl
     repeat(first|refine GA ?_|refine gV (a8 bI.eq aI.ty I I (show eh+k<word.length+1 by omega)) ?_|refine gV (aw aI.ty I (hAk _ I)) ?_|refine gV (aw aI.ty I (aE (i:=1) I I)) ?_)
     refine dU (ι:=Unit) (fun _=>True) (fun _=>[(0,aH (ah ⟨gc,0,aj⟩)),(2,nc n gO),(4,ap av (eh:Int)),(11,ap av word.length),(13,ak (ah ⟨g,0,aj⟩) (word.length+1) (word.length+1)),(15,aH (ah ⟨g15,0,aj⟩)),(16,ak (ah ⟨g16,0,aj⟩) (word.length+1) (word.length+1)),(17,ap av ((eh+k:Nat):Int)),(18,ap av (((eh+k:Nat):Int):Int)),(35,ak (ah ⟨b,off,aj⟩) body.length cb),(36,ap av body.length),(37,ap av (j:Int))]) (fun _=>[dI 4 gB g (word.length+1) A,aO g15 (dS (xq,xm)).toArray 148,dI 4 gB g16 (word.length+1) (km o (xq,xm) eh A k)]) (fun _=>0) () trivial ?_;intro _ _
     repeat(first|refine GC ?_|refine gV (a8 bI.eq aI.ty I I (show eh+k<word.length+1 by omega)) ?_|refine gV (aw aI.ty I (hAk _ I)) ?_|refine gV (aw aI.ty I (aE (i:=1) I I)) ?_|refine gV (dh (r:=((eh+(k+1):Nat):Int)) I I J J J) ?_|refine GB ?_)
     exact bO (k+1) ⟨by omega,Dd⟩ J (hl:=by rw[RH hA])
    have hAk:∀L:List b9,L[0]?=ah (dI 4 gB g (word.length+1) A)->At w L ⟨g,0+(eh+k),aj⟩ (.bool aB):=by rw[<-hA];exact aja
    have ajb:(xq=2/\∃m:Nat,xm=m/\m<n)\/(xq=1):=by
     rcases hxj with e|⟨e1,e2,e3⟩
     exact .inr e;exact .inl ⟨e1,xm.toNat,by omega,by omega⟩
    have ajc:xq=2->O xm.toNat (eh+k)=aB->res=true:=fun e1 e2=>by
     rw[i2,if_pos ⟨e1,AC.2 ⟨k,by omega,by rw[hA,e2];rfl⟩⟩]
    have hgo:(xq=2->O xm.toNat (eh+k)=aD)->xq=2->Gb (fun a=>A a&&O xm.toNat a) eh (k+1)=false:=fun h e=>by rw[Gb,k2 e,hA,h e];rfl
    rcases ajb with⟨rfl,m,rfl,hm⟩|rfl
    ·rw[cX]at ajc hgo
     have hg1:∀L,At w L ⟨gO,0+m,aj⟩ (nc (word.length+1) (gs m)):=fun L=>hJ (hgs m hm).1;have ajd:∀L,At w L ⟨gs m,0+(eh+k),aj⟩ (.bool (O m (eh+k))):=fun L=>hJ ((hgs m hm).2 (eh+k) J)
     cases hOm:O m (eh+k)
     ·have hg2:∀L,At w L ⟨gs m,0+(eh+k),aj⟩ (.bool aD):=by rw[<-hOm];exact ajd
      have Dd:=hgo fun _=>hOm
      repeat(first|refine GA ?_|refine gV (a8 bI.eq aI.ty I I (show eh+k<word.length+1 by omega)) ?_|refine gV (aw aI.ty I (hAk _ I)) ?_|refine gV (aw aI.ty I (aE (i:=1) I I)) ?_|refine gV (a8 bI.eq aI.ty I I hm) ?_|refine gV (aw aI.ty I (hg1 _)) ?_|refine gV (aw aI.ty I (hg2 _)) ?_)
      rw[<-aaY k];refine dU (ι:=Nat) (fun b'=>eh+k<=b'/\b'<=word.length+1) (fun b'=>[(0,aH (ah ⟨gc,0,aj⟩)),(2,nc n gO),(4,ap av (eh:Int)),(11,ap av word.length),(13,ak (ah ⟨g,0,aj⟩) (word.length+1) (word.length+1)),(15,aH (ah ⟨g15,0,aj⟩)),(16,ak (ah ⟨g16,0,aj⟩) (word.length+1) (word.length+1)),(17,ap av ((eh+k:Nat):Int)),(18,ap av (b':Int)),(35,ak (ah ⟨b,off,aj⟩) body.length cb),(36,ap av body.length),(37,ap av (j:Int))]) (fun b'=>[dI 4 gB g (word.length+1) A,aO g15 (dS (2,((m:Nat):Int))).toArray 148,dI 4 gB g16 (word.length+1) (qy o (2,((m:Nat):Int)) eh A k b')]) (fun b'=>word.length+1-b') (eh+k) ⟨aT _,by omega⟩ ?_;rintro b' ⟨b1',b2'⟩
      by_cases c9:b'<=word.length
      ·have jB:=fun w' hg=>jB (eh+k) b' w' hg b1' c9 hw
       have acG:∀L:List b9,L[2]?=ah (dI 4 gB g16 (word.length+1) (qy o (2,((m:Nat):Int)) eh A k b'))->At w L ⟨g16,0+b',aj⟩ (.bool (km o (2,((m:Nat):Int)) eh A k b')):=fun L hL=>by rw[<-Uc];exact eG hL J
       cases hp:km o (2,((m:Nat):Int)) eh A k b'
       ·have pJ:∀L:List b9,L[2]?=ah (dI 4 gB g16 (word.length+1) (qy o (2,((m:Nat):Int)) eh A k b'))->At w L ⟨g16,0+b',aj⟩ (.bool aD):=by rw[<-hp];exact acG
        by_cases hps:0<o (2,((m:Nat):Int)) (eh+k) b'
        ·repeat(first|refine GA ?_|refine gV (a8 bI.eq aI.ty I I (show b'<word.length+1 by omega)) ?_|refine gV (aw aI.ty I (pJ _ I)) ?_|refine gV (a8 bI.eq aI.ty I I (show eh+k<word.length+1 by omega)) ?_|refine gV (aw aI.ty I (hAk _ I)) ?_|refine gV (aL (i:=1) aI.ty I I I) ?_)
         refine kV (Hi aF.en I I I I I) (fun w hm=>jB _ hm.below) I I I I I ?_;intro _ _;refine zL ?_
         repeat(first|refine GA ?_|refine gV (a8 bI.eq aI.ty I I (show b'<word.length+1 by omega)) ?_|refine gV (aw aI.ty I (pJ _ I)) ?_|refine gV (a8 bI.eq aI.ty I I (show eh+k<word.length+1 by omega)) ?_|refine gV (aw aI.ty I (hAk _ I)) ?_|refine gV (aL (i:=1) aI.ty I I I) ?_)
         refine eV (i:=2) (v:=aB) (qy o (2,((m:Nat):Int)) eh A k (b'+1)) aI.ty I I I I I J (fun i _=>by rw[pK hA b1',hp,decide_eq_true hps,LL]) ?_;refine zL ?_
         repeat(first|refine GC ?_|refine gV (dh (r:=((b'+1:Nat):Int)) I I J J J) ?_|refine GB ?_)
         exact bO (b'+1) ⟨by omega,by omega⟩ J
        repeat(first|refine GA ?_|refine gV (a8 bI.eq aI.ty I I (show b'<word.length+1 by omega)) ?_|refine gV (aw aI.ty I (pJ _ I)) ?_|refine gV (a8 bI.eq aI.ty I I (show eh+k<word.length+1 by omega)) ?_|refine gV (aw aI.ty I (hAk _ I)) ?_|refine gV (aL (i:=1) aI.ty I I I) ?_)
        refine kV (Hi aF.en I I I I I) (fun w hm=>jB _ hm.below) I I I I I ?_;intro _ _;refine zL ?_
        repeat(first|refine GA ?_|refine gV (a8 bI.eq aI.ty I I (show b'<word.length+1 by omega)) ?_|refine gV (aw aI.ty I (pJ _ I)) ?_|refine gV (a8 bI.eq aI.ty I I (show eh+k<word.length+1 by omega)) ?_|refine gV (aw aI.ty I (hAk _ I)) ?_|refine gV (aL (i:=1) aI.ty I I I) ?_)
        refine eV (i:=2) (v:=aD) (qy o (2,((m:Nat):Int)) eh A k (b'+1)) aI.ty I I I I I J (fun i _=>by rw[pK hA b1',hp,decide_eq_false hps,LL]) ?_;refine zL ?_
        repeat(first|refine GC ?_|refine gV (dh (r:=((b'+1:Nat):Int)) I I J J J) ?_|refine GB ?_)
        exact bO (b'+1) ⟨by omega,by omega⟩ J
       have pJ:∀L:List b9,L[2]?=ah (dI 4 gB g16 (word.length+1) (qy o (2,((m:Nat):Int)) eh A k b'))->At w L ⟨g16,0+b',aj⟩ (.bool aB):=by rw[<-hp];exact acG
       repeat(first|refine GA ?_|refine gV (a8 bI.eq aI.ty I I (show b'<word.length+1 by omega)) ?_|refine gV (aw aI.ty I (pJ _ I)) ?_|refine gV (a8 bI.eq aI.ty I I (show eh+k<word.length+1 by omega)) ?_|refine gV (aw aI.ty I (hAk _ I)) ?_|refine gV (aL (i:=1) aI.ty I I I) ?_)
       refine eV (i:=2) (v:=aB) (qy o (2,((m:Nat):Int)) eh A k (b'+1)) aI.ty I I I I I J (fun i _=>by rw[pK hA b1',hp,uR]) ?_;refine zL ?_
       repeat(first|refine GC ?_|refine gV (dh (r:=((b'+1:Nat):Int)) I I J J J) ?_|refine GB ?_)
       exact bO (b'+1) ⟨by omega,by omega⟩ J
      repeat(first|refine GC ?_|refine gV (dh (r:=((eh+(k+1):Nat):Int)) I I J J J) ?_|refine GB ?_)
      exact bO (k+1) ⟨by omega,Dd⟩ J (hl:=by rw[mA (f':=km o (2,((m:Nat):Int)) eh A (k+1)) fun i hi=>N_ J])
     have hg2:∀L,At w L ⟨gs m,0+(eh+k),aj⟩ (.bool aB):=by rw[<-hOm];exact ajd
     have:=ajc I hOm;subst this
     repeat(first|refine GA ?_|refine gV (a8 bI.eq aI.ty I I (show eh+k<word.length+1 by omega)) ?_|refine gV (aw aI.ty I (hAk _ I)) ?_|refine gV (aw aI.ty I (aE (i:=1) I I)) ?_|refine gV (a8 bI.eq aI.ty I I hm) ?_|refine gV (aw aI.ty I (hg1 _)) ?_|refine gV (aw aI.ty I (hg2 _)) ?_)
     exact dR
    have Dd:=hgo fun e=>by cases e
    repeat(first|refine GA ?_|refine gV (a8 bI.eq aI.ty I I (show eh+k<word.length+1 by omega)) ?_|refine gV (aw aI.ty I (hAk _ I)) ?_|refine gV (aw aI.ty I (aE (i:=1) I I)) ?_)
    rw[<-aaY k];refine dU (ι:=Nat) (fun b'=>eh+k<=b'/\b'<=word.length+1) (fun b'=>[(0,aH (ah ⟨gc,0,aj⟩)),(2,nc n gO),(4,ap av (eh:Int)),(11,ap av word.length),(13,ak (ah ⟨g,0,aj⟩) (word.length+1) (word.length+1)),(15,aH (ah ⟨g15,0,aj⟩)),(16,ak (ah ⟨g16,0,aj⟩) (word.length+1) (word.length+1)),(17,ap av ((eh+k:Nat):Int)),(18,ap av (b':Int)),(35,ak (ah ⟨b,off,aj⟩) body.length cb),(36,ap av body.length),(37,ap av (j:Int))]) (fun b'=>[dI 4 gB g (word.length+1) A,aO g15 (dS (1,xm)).toArray 148,dI 4 gB g16 (word.length+1) (qy o (1,xm) eh A k b')]) (fun b'=>word.length+1-b') (eh+k) ⟨aT _,by omega⟩ ?_;rintro b' ⟨b1',b2'⟩
    by_cases c9:b'<=word.length
    ·have jB:=fun w' hg=>jB (eh+k) b' w' hg b1' c9 hw
     have acG:∀L:List b9,L[2]?=ah (dI 4 gB g16 (word.length+1) (qy o (1,xm) eh A k b'))->At w L ⟨g16,0+b',aj⟩ (.bool (km o (1,xm) eh A k b')):=fun L hL=>by rw[<-Uc];exact eG hL J
     cases hp:km o (1,xm) eh A k b'
     ·have pJ:∀L:List b9,L[2]?=ah (dI 4 gB g16 (word.length+1) (qy o (1,xm) eh A k b'))->At w L ⟨g16,0+b',aj⟩ (.bool aD):=by rw[<-hp];exact acG
      by_cases hps:0<o (1,xm) (eh+k) b'
      ·repeat(first|refine GA ?_|refine gV (a8 bI.eq aI.ty I I (show b'<word.length+1 by omega)) ?_|refine gV (aw aI.ty I (pJ _ I)) ?_|refine gV (a8 bI.eq aI.ty I I (show eh+k<word.length+1 by omega)) ?_|refine gV (aw aI.ty I (hAk _ I)) ?_|refine gV (aL (i:=1) aI.ty I I I) ?_)
       refine kV (Hi aF.en I I I I I) (fun w hm=>jB _ hm.below) I I I I I ?_;intro _ _;refine zL ?_
       repeat(first|refine GA ?_|refine gV (a8 bI.eq aI.ty I I (show b'<word.length+1 by omega)) ?_|refine gV (aw aI.ty I (pJ _ I)) ?_|refine gV (a8 bI.eq aI.ty I I (show eh+k<word.length+1 by omega)) ?_|refine gV (aw aI.ty I (hAk _ I)) ?_|refine gV (aL (i:=1) aI.ty I I I) ?_)
       refine eV (i:=2) (v:=aB) (qy o (1,xm) eh A k (b'+1)) aI.ty I I I I I J (fun i _=>by rw[pK hA b1',hp,decide_eq_true hps,LL]) ?_;refine zL ?_
       repeat(first|refine GC ?_|refine gV (dh (r:=((b'+1:Nat):Int)) I I J J J) ?_|refine GB ?_)
       exact bO (b'+1) ⟨by omega,by omega⟩ J
      repeat(first|refine GA ?_|refine gV (a8 bI.eq aI.ty I I (show b'<word.length+1 by omega)) ?_|refine gV (aw aI.ty I (pJ _ I)) ?_|refine gV (a8 bI.eq aI.ty I I (show eh+k<word.length+1 by omega)) ?_|refine gV (aw aI.ty I (hAk _ I)) ?_|refine gV (aL (i:=1) aI.ty I I I) ?_)
      refine kV (Hi aF.en I I I I I) (fun w hm=>jB _ hm.below) I I I I I ?_;intro _ _;refine zL ?_
      repeat(first|refine GA ?_|refine gV (a8 bI.eq aI.ty I I (show b'<word.length+1 by omega)) ?_|refine gV (aw aI.ty I (pJ _ I)) ?_|refine gV (a8 bI.eq aI.ty I I (show eh+k<word.length+1 by omega)) ?_|refine gV (aw aI.ty I (hAk _ I)) ?_|refine gV (aL (i:=1) aI.ty I I I) ?_)
      refine eV (i:=2) (v:=aD) (qy o (1,xm) eh A k (b'+1)) aI.ty I I I I I J (fun i _=>by rw[pK hA b1',hp,decide_eq_false hps,LL]) ?_;refine zL ?_
      repeat(first|refine GC ?_|refine gV (dh (r:=((b'+1:Nat):Int)) I I J J J) ?_|refine GB ?_)
      exact bO (b'+1) ⟨by omega,by omega⟩ J
     have pJ:∀L:List b9,L[2]?=ah (dI 4 gB g16 (word.length+1) (qy o (1,xm) eh A k b'))->At w L ⟨g16,0+b',aj⟩ (.bool aB):=by rw[<-hp];exact acG
     repeat(first|refine GA ?_|refine gV (a8 bI.eq aI.ty I I (show b'<word.length+1 by omega)) ?_|refine gV (aw aI.ty I (pJ _ I)) ?_|refine gV (a8 bI.eq aI.ty I I (show eh+k<word.length+1 by omega)) ?_|refine gV (aw aI.ty I (hAk _ I)) ?_|refine gV (aL (i:=1) aI.ty I I I) ?_)
     refine eV (i:=2) (v:=aB) (qy o (1,xm) eh A k (b'+1)) aI.ty I I I I I J (fun i _=>by rw[pK hA b1',hp,uR]) ?_;refine zL ?_
     repeat(first|refine GC ?_|refine gV (dh (r:=((b'+1:Nat):Int)) I I J J J) ?_|refine GB ?_)
     exact bO (b'+1) ⟨by omega,by omega⟩ J
    repeat(first|refine GC ?_|refine gV (dh (r:=((eh+(k+1):Nat):Int)) I I J J J) ?_|refine GB ?_)
    exact bO (k+1) ⟨by omega,Dd⟩ J (hl:=by rw[mA (f':=km o (1,xm) eh A (k+1)) fun i hi=>N_ J])
   have hk:word.length+1-eh=k:=by omega
   rw[hk,if_neg (fun h=>by have:=k2 h.1;rw[h.2]at this;cases this)]at i2
   try refine GA ?_
   refine dv [2] ?_;exact bO (j+1,g16,km o (xq,xm) eh A k) ⟨by omega,i2⟩ (by show body.length-(j+1)<body.length-j;omega)
  rw[hAn,if_pos I]at i2;subst i2;have hAt:∀L:List b9,L[0]?=ah (dI 4 gB g (word.length+1) A)->At w L ⟨g,0+word.length,aj⟩ (.bool aB):=fun L hL=>by rw[<-hAn];exact eG hL J
  repeat(first|refine GA ?_|refine gV (aR bI.eq aI.ty I I c7) ?_|refine gV (aU aI.ty I I (eK _)) ?_)
  refine aY I fun g15=>?_;refine gG 1 ?_;refine zL ?_
  repeat(first|refine GA ?_|refine gV (a8 bI.eq aI.ty I I (show word.length<word.length+1 by omega)) ?_|refine gV (aw aI.ty I (hAt _ I)) ?_)
  exact dR
 ·rw[fS J,Hy]at i2
  subst i2;have hAt:=eG (L:=[dI 4 gB g (word.length+1) A]) (W:=w) (i:=0) I (show word.length<word.length+1 by omega)
  repeat(first|refine GA ?_|refine gV (a8 bI.eq aI.ty I I (show word.length<word.length+1 by omega)) ?_|refine gV (aw aI.ty I hAt) ?_)
  exact dR
end cg
namespace cg
open Go.RowKit cT ey aM dN ee dx o8
abbrev idV(v:Value):Value:=v
theorem Xq{T:TypeId}{g n m:Nat}{gs:Nat->Nat}:dI T idV g n (fun j=>if j<n then nc m (gs j)else ak aj 0 0)=dI T (nc m) g n gs:=by
 unfold dI
 congr 1
 rw[EU (g:=fun j=>nc m (gs j)) fun i hi=>by simp[hi]];simp[lH]
set_option maxRecDepth 100000 in
theorem L1(v vw:Value)(g:dF)(word:List Int)(w:World)(h:kw (fun k=>k<w.heap.size) w v g)(hs:Sl w vw word.length (word.map (.int .i64))):
 Calls aC 20 #[v,vw] w (cJ (ret (.tuple #[.bool (gX g word),ap av (fB g word)])) w):=by
 have h_:=fun w' (hg:Gr w w')=>Ao v vw g word w' (h.gr hg) (hs.gr hg)
 by_cases c0:fB g word=0
 ·have h0 :=h
  obtain⟨hg,hl,hw⟩:=ko c0;obtain⟨a1,a2,a3,a4,a5,a6⟩:=cz hg;obtain⟨n,hn⟩:∃n:Nat,g.bB=n:=⟨g.bB.toNat,by omega⟩;have DB:=fun w' (yA:Gr w w')=>Al v g w' (h0.gr yA) hg n hn;obtain⟨vp,rfl,h1,_⟩:=h;have TE:=fun w' (hg:Gr w w')=>AH vp vw g word w' (h0.gr hg) (hs.gr hg) c0;have zv:=fun(c:fA) hc O O' k=>WW (g:=g) (w:=word) (n:=n) (c:=c) c0 hn hc (O:=O) (O':=O') (k:=k);obtain⟨aje,ajf⟩:=Gx hg hn;obtain⟨f1,f2⟩:=Gs hg hn;have Hx:=pG (n:=n) hg hn;rw[c0]at h_⊢;generalize gX g word=res at*;obtain⟨t,nn,az⟩:=g;dsimp only at*;subst hn;have hMl:=aje.2.2;have hMs:=ajf.2;generalize (mS n az).M=Mf at*;clear aje ajf;have SY:=hs;have hop:=fun gc gm g11 gM cM vE vF vW vR vb c Bd O body eh w' hch acH hM vD hx mJ hf h5=>O_ gc gm g11 n gM cM t vp vw vE vF vW vR vb word c Bd O Mf body eh w' hch acH hM hMl.symm vD hx mJ hf hl h5;obtain⟨bw,cw,rfl,hw1,hw2,_⟩:=hs;obtain⟨bp,cp,rfl,_,He,ow⟩:=h1;unfold maxLen at He;refine enter (args:=[dD t (n:Int) (ak bp az.length cp),ak bw word.length cw]) (n:=93) Tryz.func20 I I I ?_;refine bY (a_ (bQ I I I fun g2=>?_));refine zL ?_
  repeat(first|refine GA ?_|refine gV (aL (i:=0) aI.ty I I I) ?_)
  refine aW (fP aF.en I I I) (fun w hm=>h_ _ hm.below) I I I ?_;intro _ _;refine zL ?_
  repeat(first|refine GA ?_|refine gV (aL (i:=0) aI.ty I I I) ?_)
  refine aW (kZ aF.en I I) (fun w' hm=>(DB w' hm.below).mono fun e w2 h=>Am h) I I I ?_;rintro x _;refine zL ?_;refine Et [0,5] ?_
  try refine GA ?_
  refine aY I fun g7=>?_;refine gG 2 ?_;refine zL ?_
  repeat(first|refine GA ?_|refine gV (aL (i:=0) aI.ty I I I) ?_)
  refine aW (fP aF.en I I I) (fun w' hm=>TE w' hm.below) I I I ?_;rintro⟨gc,gm,c,Bd⟩ ⟨hx,_⟩;dsimp only at hx;have hx:E6 word az n c:=hx;have akh:=zv c hx;clear TE h_ DB
  conv=>arg 8;simp only[zJ,dr,ret,id_eq,DP]
  repeat(first|refine GA ?_|refine gV (aw aI.ty I (aE (i:=0) I I)) ?_)
  refine lg idV (ak aj 0 0) I I J J I fun g11=>?_;refine zL ?_
  try refine GA ?_
  refine pv (ia (fun k=>k<0) fun i=>dI 4 gB 0 (word.length+1) fun _=>aD) (fun k hk=>hk.elim (fun h=>by cases h) fun⟨i,h,_⟩=>by omega) (fun w=>⟨fun i h=>by omega,fun i j h=>by omega⟩) ?_;refine dU (ι:=Nat×(Nat->Nat)) (fun(k,_)=>k<=n) (fun(k,_)=>[(2,aH (ah ⟨g2,0,aj⟩)),(7,aH (ah ⟨g7,0,aj⟩)),(9,aH (ah ⟨gc,0,aj⟩)),(10,ap av word.length),(11,ak (ah ⟨g11,0,aj⟩) n n),(37,ap av (n:Int)),(38,ap av (k:Int))])
   (fun(k,gs)=>[aO g2 (dD t (n:Int) (ak bp az.length cp)).cells 33,ep n x.gM x.cM Mf,aO g7 (kB (da n x.gE x.cE) (da n x.gF x.cF) (da n x.gW x.cW) (da n x.gR x.cR) (da n x.gM x.cM)).cells 104,aO gc (FK t (n:Int) (ak bp az.length cp) (ak bw word.length cw) gm) 144,BJ gm c Bd,dI 101 idV g11 n (fun j=>if j<k then nc (word.length+1) (gs j)else ak aj 0 0),ia (fun j=>j<k) fun j=>dI 4 gB (gs j) (word.length+1) fun _=>aD]) (fun(k,_)=>n-k) (0,fun _=>0) (bC _) ?_
  rintro⟨k,gs⟩ k1;dsimp only at k1⊢
  by_cases c7:k<n
  ·repeat(first|refine GC ?_|refine gV (dh (r:=((word.length+1:Nat):Int)) I I J J J) ?_|refine GB ?_)
   refine lg gB aD I I J J I fun g45=>?_;refine zL ?_
   repeat(first|refine GA ?_|refine gV (a8 bI.eq aI.ty I I c7) ?_)
   refine eV (i:=5) (v:=nc (word.length+1) g45) (fun j=>if j<k+1 then nc (word.length+1) (if j=k then g45 else gs j)else ak aj 0 0) aI.ty I I I I I c7 (fun i _=>by
    by_cases e:i=k
    subst e;simp
    by_cases e2:i<k
    simp[e,e2,show i<k+1 by omega];simp[e,e2,show ¬i<k+1 by omega]) ?_
   refine zL ?_
   try refine GA ?_
   refine MG (D':=fun j=>j<k+1) (f':=fun j=>dI 4 gB (if j=k then g45 else gs j) (word.length+1) fun _=>aD) k 6 7 [0,1,2,3,4,5] akV I I I J (fun j hj=>by omega) (fun j hj=>by
    unfold Tk
    by_cases e:j=k<;>simp[e]) ?_
   exact bO (k+1,fun j=>if j=k then g45 else gs j) (by show k+1<=n;omega) (by show n-(k+1)<n-k;omega)
  obtain rfl:k=n:=by omega
  rw[Xq]
  try refine GA ?_
  refine dU (ι:=(Nat->Nat->Bool)×Bool) (fun(O,mr)=>Sg az word O/\(mr=aD->O 0 0=res)) (fun(_,mr)=>[(2,aH (ah ⟨g2,0,aj⟩)),(7,aH (ah ⟨g7,0,aj⟩)),(9,aH (ah ⟨gc,0,aj⟩)),(10,ap av word.length),(11,ak (ah ⟨g11,0,aj⟩) k k),(13,.bool mr)])
   (fun(O,_)=>[aO g2 (dD t (k:Int) (ak bp az.length cp)).cells 33,ep k x.gM x.cM Mf,aO g7 (kB (da k x.gE x.cE) (da k x.gF x.cF) (da k x.gW x.cW) (da k x.gR x.cR) (da k x.gM x.cM)).cells 104,aO gc (FK t (k:Int) (ak bp az.length cp) (ak bw word.length cw) gm) 144,BJ gm c Bd,dI 101 (nc (word.length+1)) g11 k gs,ia (fun j=>j<k) fun j=>dI 4 gB (gs j) (word.length+1) (O j)]) (fun(O,mr)=>2*fal k (word.length+1) O+(if mr=aB then 1 else 0)) (fun _ _=>aD,aB) ⟨fun _ _ h=>(by cases h),fun h=>(by cases h)⟩ ?_
  rintro⟨O,mr⟩ ⟨i1,i2⟩;dsimp only at i1 i2⊢
  cases mr
  ·have i2:=i2 I
   have hk0:0<k:=by omega
   have xl:∀L:List b9,L[6]?=ah (ia (fun j=>j<k) fun j=>dI 4 gB (gs j) (word.length+1) (O j))->At w L ⟨gs 0,0+0,aj⟩ (.bool res):=fun L hL=>by
    rw[<-i2];exact Kb hL fun w hh=>nY (hh.1 0 hk0) J
   repeat(first|refine GA ?_|refine gV (a8 (j:=0) bI.eq aI.ty I I hk0) ?_|refine gV (aw aI.ty I (eG (i:=5) (k:=0) I hk0)) ?_|refine gV (a8 (j:=0) bI.eq aI.ty I I (by omega:0<word.length+1)) ?_|refine gV (aw aI.ty I (xl _ I)) ?_)
   exact jJ I I I fun w hm=>hm.ret
  clear i2
  repeat(first|refine GA ?_|refine gV (aw aI.ty I (aE (i:=0) I I)) ?_)
  refine dU (ι:=Nat×(Nat->Nat->Bool)×Bool) (fun(i,O',m2)=>i<=az.length/\oM az word (eo c word) Mf k O O' m2 i 0) (fun(i,_,m2)=>[(2,aH (ah ⟨g2,0,aj⟩)),(7,aH (ah ⟨g7,0,aj⟩)),(9,aH (ah ⟨gc,0,aj⟩)),(10,ap av word.length),(11,ak (ah ⟨g11,0,aj⟩) k k),(13,.bool m2),(50,ak bp az.length cp),(51,ap av az.length),(52,ap av (i:Int))])
   (fun(_,O',_)=>[aO g2 (dD t (k:Int) (ak bp az.length cp)).cells 33,ep k x.gM x.cM Mf,aO g7 (kB (da k x.gE x.cE) (da k x.gF x.cF) (da k x.gW x.cW) (da k x.gR x.cR) (da k x.gM x.cM)).cells 104,aO gc (FK t (k:Int) (ak bp az.length cp) (ak bw word.length cw) gm) 144,BJ gm c Bd,dI 101 (nc (word.length+1)) g11 k gs,ia (fun j=>j<k) fun j=>dI 4 gB (gs j) (word.length+1) (O' j)]) (fun(i,_,_)=>az.length-i) (0,O,aD) ⟨bC _,oM.start i1 _ _⟩ ?_
  rintro⟨i,O',m2⟩ ⟨j1,j2⟩;dsimp only at j1 j2⊢
  by_cases c8:i<az.length
  ·obtain⟨b,off,rfl,_,hr⟩:=ow J
   obtain⟨bb,cb,y1,y2,y3⟩:=lI hr c8;have eK:∀(L:List b9) (j:Nat) (v:Value),([ap av az[i].1,.slice bb az[i].2.length cb]:List Value)[j]?=ah v->At w L ⟨b,off+i*2+j,aj⟩ v:=fun L j v hj=>hJ (y1 j v hj);have AX:=y3.flat akV;obtain⟨s1,s2,s3⟩:=Hx _ (bV c8);have aki:=(f1 _ (bV c8)).2.2;have IY:=fun(O':Nat->Nat->Bool) m2 a (h:oM az word (eo c word) Mf k O O' m2 i a) hn=>h.skip c8 hn;have sW:=fun(O':Nat->Nat->Bool) m2 a (h:oM az word (eo c word) Mf k O O' m2 i a) h1 h2 h3 h4=>h.set hMs hx Hx c8 h1 h2 h3 h4;clear y1 y3 hr ow;generalize az[i]=pd at*;obtain⟨hd,body⟩:=pd;dsimp only at*;obtain⟨hn,rfl⟩:∃hn:Nat,hd=hn:=⟨hd.toNat,by omega⟩;have hlt:hn<k:=by omega
   rw[cX]at IY sW;have hop:=fun O' a w' hch acH hM vD ha=>hop gc gm g11 x.gM x.cM (da k x.gE x.cE) (da k x.gF x.cF) (da k x.gW x.cW) (da k x.gR x.cR) (ak bb body.length cb) c Bd O' body a w' hch acH hM vD s3 aki ha ⟨_,_,_,_,_,_,_,_,_,_,_,_,rfl,rfl,rfl,rfl⟩
   repeat(first|refine GA ?_|refine gV (aR bI.eq aI.ty I I c8) ?_|refine gV (aU aI.ty I I (eK _)) ?_)
   refine aY I fun g15=>?_;refine gG 7 ?_;refine zL ?_
   repeat(first|refine GC ?_|refine gV (dh (r:=((word.length+1:Nat):Int)) I I J J J) ?_|refine GB ?_)
   refine s7 [0,1,2,3,4,5,7,6] ?_;refine dU (ι:=Nat×(Nat->Nat->Bool)×Bool) (fun(a,O',m2)=>a<=word.length+1/\oM az word (eo c word) Mf k O O' m2 i a) (fun(a,_,m2)=>[(2,aH (ah ⟨g2,0,aj⟩)),(7,aH (ah ⟨g7,0,aj⟩)),(9,aH (ah ⟨gc,0,aj⟩)),(10,ap av word.length),(11,ak (ah ⟨g11,0,aj⟩) k k),(13,.bool m2),(15,aH (ah ⟨g15,0,aj⟩)),(50,ak (ah ⟨b,off,aj⟩) az.length cp),(51,ap av az.length),(52,ap av (i:Int)),(57,ap av ((word.length+1:Nat):Int)),(58,ap av (a:Int))])
    (fun(_,O',_)=>[aO g2 (dD t (k:Int) (ak (ah ⟨b,off,aj⟩) az.length cp)).cells 33,ep k x.gM x.cM Mf,aO g7 (kB (da k x.gE x.cE) (da k x.gF x.cF) (da k x.gW x.cW) (da k x.gR x.cR) (da k x.gM x.cM)).cells 104,aO gc (FK t (k:Int) (ak (ah ⟨b,off,aj⟩) az.length cp) (ak bw word.length cw) gm) 144,BJ gm c Bd,dI 101 (nc (word.length+1)) g11 k gs,aO g15 #[ap av (hn:Int),ak bb body.length cb] 140,ia (fun j=>j<k) fun j=>dI 4 gB (gs j) (word.length+1) (O' j)]) (fun(a,_,_)=>word.length+1-a) (0,O',m2) ⟨bC _,j2⟩ ?_
   clear j2;rintro⟨a,O',m2⟩ ⟨l1,l2⟩;dsimp only at l1 l2⊢
   by_cases c9:a<word.length+1
   ·have afs:∀L:List b9,L[7]?=ah (ia (fun j=>j<k) fun j=>dI 4 gB (gs j) (word.length+1) (O' j))->At w L ⟨gs hn,0+a,aj⟩ (.bool (O' hn a)):=fun L hL=>Kb hL fun w hh=>nY (hh.1 hn hlt) c9
    cases hOb:O' hn a
    ·have Kp:∀L:List b9,L[7]?=ah (ia (fun j=>j<k) fun j=>dI 4 gB (gs j) (word.length+1) (O' j))->At w L ⟨gs hn,0+a,aj⟩ (.bool aD):=by rw[<-hOb];exact afs
     repeat(first|refine GA ?_|refine gV (aw aI.ty I (aE (i:=6) I I)) ?_|refine gV (a8 bI.eq aI.ty I I hlt) ?_|refine gV (aw aI.ty I (eG (i:=5) I hlt)) ?_|refine gV (a8 bI.eq aI.ty I I c9) ?_|refine gV (aw aI.ty I (Kp _ I)) ?_|refine gV (aL (i:=2) aI.ty I I I) ?_)
     refine kV (he5 aF.en I I I I I I) (fun w hm=>hop O' a w ⟨hm.get (i:=3) I,hm.get (i:=4) I,SY.gr hm.below⟩ (ac7 (hm.get (i:=5) I) (hm.get (i:=7) I)) (by rw[hMl];exact kX (i:=1) I w hm) (AX.gr hm.below) J) I I I I I ?_;intro _ _;refine zL ?_
     cases ajg:qx (eo c word) O' Mf word.length a body
     ·try refine GA ?_
      exact bO (a+1,O',m2) ⟨by omega,IY O' m2 a l2 (.inr ajg)⟩ (by show word.length+1-(a+1)<word.length+1-a;omega)
     repeat(first|refine GA ?_|refine gV (aw aI.ty I (aE (i:=6) I I)) ?_|refine gV (a8 bI.eq aI.ty I I hlt) ?_|refine gV (aw aI.ty I (eG (i:=5) I hlt)) ?_|refine gV (a8 bI.eq aI.ty I I c9) ?_)
     refine Ka (q:=7) hn I hlt ?_;refine zL ?_;refine eV (i:=8) (v:=aB) (Dc O' hn a hn) aI.ty I I I I I c9 (fun j _=>by
      unfold Dc
      by_cases e:j=a<;>simp[e]) ?_
     refine zL ?_;refine Qd (D':=fun j=>j<k) (f':=fun j=>dI 4 gB (gs j) (word.length+1) (Dc O' hn a j)) hn 7 8 [0,1,2,3,4,5,6] akV I I I (fun h=>h.2 I) (fun j hj=>by
      by_cases e:j=hn
      exact .inr e;exact .inl ⟨hj,e⟩) (fun j hj=>by
      by_cases e:j=hn
      subst e;rw[yz];rw[yy e]
      congr 1
      funext b
      unfold Dc;rw[if_neg fun h=>e h.1]) ?_
     refine zL ?_
     try refine GA ?_
     exact bO (a+1,Dc O' hn a,aB) ⟨by omega,sW O' m2 a l2 J hlt hOb ajg⟩ (by show word.length+1-(a+1)<word.length+1-a;omega)
    have Kp:∀L:List b9,L[7]?=ah (ia (fun j=>j<k) fun j=>dI 4 gB (gs j) (word.length+1) (O' j))->At w L ⟨gs hn,0+a,aj⟩ (.bool aB):=by rw[<-hOb];exact afs
    repeat(first|refine GA ?_|refine gV (aw aI.ty I (aE (i:=6) I I)) ?_|refine gV (a8 bI.eq aI.ty I I hlt) ?_|refine gV (aw aI.ty I (eG (i:=5) I hlt)) ?_|refine gV (a8 bI.eq aI.ty I I c9) ?_|refine gV (aw aI.ty I (Kp _ I)) ?_)
    exact bO (a+1,O',m2) ⟨by omega,IY O' m2 a l2 (.inl hOb)⟩ (by show word.length+1-(a+1)<word.length+1-a;omega)
   obtain rfl:a=word.length+1:=by omega
   try refine GA ?_
   refine dv [0,1,2,3,4,5,7] ?_;exact bO (i+1,O',m2) ⟨by omega,l2.next⟩ (by show az.length-(i+1)<az.length-i;omega)
  obtain rfl:i=az.length:=by omega
  try refine GA ?_
  cases Hc:m2
  exact bO (O',aD) ⟨j2.sound,fun _=>akh O O' k (by rw[<-Hc];exact j2)⟩ (by dsimp only;rw[(j2.still Hc).1];simp);have:=j2.less Hc;exact bO (O',aB) ⟨j2.sound,fun h=>by cases h⟩ (by dsimp only;simp;omega)
 ·have hb:gX g word=false:=by
   cases hb:gX g word
   rfl;exact absurd (mG.1 hb).1 c0
  rw[hb];obtain⟨vp,rfl,h1,_⟩:=h;obtain⟨bw,cw,rfl,_⟩:=hs;generalize fB g word=e at*;obtain⟨t,n,az⟩:=g;dsimp only at*;refine enter (args:=[dD t n vp,ak bw word.length cw]) (n:=93) Tryz.func20 I I I ?_;refine bY (a_ (bQ I I I fun g2=>?_));refine zL ?_
  repeat(first|refine GA ?_|refine gV (aL (i:=0) aI.ty I I I) ?_)
  refine aW (fP aF.en I I I) (fun w hm=>h_ _ hm.below) I I I ?_;intro _ _;refine zL ?_
  try refine GA ?_
  exact jJ I I I fun w hm=>hm.ret
end cg
namespace cg
open Go.RowKit cT ey aM ee
attribute [local irreducible] Instr.build in
theorem CW(v vw:Value)(g:dF)(word:List Int)(w:World)(h:kw (fun k=>k<w.heap.size) w v g)(hs:Sl w vw word.length (word.map (.int .i64))):
 Calls aC 21 #[v,vw] w (cJ (ret (.tuple #[ap av (tm g word:Int),ap av (fB g word)])) w):=by
 have h_:=fun w' (hg:Gr w w')=>Ao v vw g word w' (h.gr hg) (hs.gr hg)
 by_cases c0:fB g word=0
 ·have h0:=h
  obtain⟨vp,rfl,h1,_⟩:=h;have TE:=fun w' (hg:Gr w w')=>AH vp vw g word w' (h0.gr hg) (hs.gr hg) c0;have hN:=fun(c:fA) hc=>VI (c:=c) c0 hc;obtain⟨hg,hl,hw⟩:=ko c0;rw[c0]at h_⊢;obtain⟨bw,cw,rfl,_⟩:=hs;obtain⟨t,n,az⟩:=g;dsimp only at*;refine enter (args:=[dD t n vp,ak bw word.length cw]) (n:=23) Tryz.func21 I I I ?_;refine bY (a_ (bQ I I I fun g2=>?_))
  repeat(first|refine GA ?_|refine gV (aL (i:=0) aI.ty I I I) ?_)
  refine aW (fP aF.en I I I) (fun w hm=>h_ _ hm.below) I I I ?_;intro _ _;refine zL ?_
  repeat(first|refine GA ?_|refine gV (aL (i:=0) aI.ty I I I) ?_)
  refine aW (fP aF.en I I I) (fun w' hm=>TE w' hm.below) I I I ?_;rintro⟨gc,gm,c,Bd⟩ ⟨hx,_⟩;have hN:=hN c hx
  conv=>arg 8;simp only[zJ,dr,ret,id_eq,DP]
  repeat(first|refine GA ?_|refine gV (aw aI.ty I (aE (i:=1) I I)) ?_|refine gV (bz I (yU _ _ _)) ?_|refine gV (r_ (x:=(0,0,(word.length:Int))) (i:=2) xK bI.eq An I I I (KO (m:=0) (a:=0) ⟨by decide,by decide⟩ J J) (by rw[hN])) ?_)
  exact jJ I I I fun w hm=>hm.ret
 ·have hN:tm g word=0:=by unfold tm;rw[if_neg c0]
  rw[hN];obtain⟨vp,rfl,h1,_⟩:=h;obtain⟨bw,cw,rfl,_⟩:=hs;generalize fB g word=e at*;obtain⟨t,n,az⟩:=g;dsimp only at*;refine enter (args:=[dD t n vp,ak bw word.length cw]) (n:=23) Tryz.func21 I I I ?_;refine bY (a_ (bQ I I I fun g2=>?_))
  repeat(first|refine GA ?_|refine gV (aL (i:=0) aI.ty I I I) ?_)
  refine aW (fP aF.en I I I) (fun w hm=>h_ _ hm.below) I I I ?_;intro _ _
  try refine GA ?_
  exact jJ I I I fun w hm=>hm.ret
end cg
namespace cg
open Go.RowKit cT ey aM dN gK wZ ee dx o8
theorem UR{α:Type}{f:α->Value}{w:World}{b:Option Addr}{c:Nat}{l:List α}(h:Sl w (ak b l.length c) l.length (l.map f)){k:Nat}(hk:k<=l.length):Sl w (ak b k c) (l.take k).length ((l.take k).map f):=by
 obtain⟨b',c',he,h1,h2,h3⟩:=h;simp only[kr,true_and]at he;obtain⟨rfl,rfl⟩:=he;have hl:(l.take k).length=k:=by rw[gZ];omega
 refine⟨b,c,by rw[hl],by rw[hl];omega,h2,fun h0=>?_⟩;rw[hl]at h0;obtain⟨b',off,e,hr⟩:=h3 J;refine⟨b',off,e,fun j u hj=>hr j u ?_⟩;rw[List.map_take,List.getElem?_take]at hj;split at hj;exact hj
 cases hj
end cg
namespace cg
open Go.RowKit cT ey
theorem US{P:Program}{n:Nat}{W:World}{fr:Fr}{L:List b9}{dst:Option Tmp}{ty:TypeId}{pos:String}{after:Array Edge}{guard:Option (Nat×Bool)}{t e:TypeId}{x z:Operand}{agg:Bool}{c j len cap:Nat}{base:Option Addr}{k:IntKind}(ht:P.underlying t=ah (.slice e))(he:Ty P e agg c)(hx:ev fr x=ah (ak base len cap))(hz:ev fr z=ah (.int k (j:Int)))(h:j<=cap):RR P n W ⟨dst,.slice t x aj (ah z) aj,ty,pos,after,guard⟩ fr L (ak base j cap):= .mk fun a w hr _=>by
 have e1:(uy t (ak base len cap) aj (ah (.int k (j:Int))) aj).run P w= .ok (ak base j cap) w:=by
  have hj:((j:Int)).toNat=j:=cX j;have hb:base.map (fun(q:Addr)=>q.add (0*c))=base:=by
   cases base with
   |none=>rfl
   |some q=>simp[rl]
  simp[uy,run_underlying ht,Instr.sliceBounds,Instr.sliceBound,asIntOf,he.size,h];intro _
  cases base with
  |none=>rfl
  |some q=>simp[rl]
 simp[execOp,hr.ev hx,hr.ev hz,Instr.sliceAt,run_underlying ht,e1]
end cg
namespace wholePlace
open Go.RowKit cT ey cg dj gu je aM c_ qE ph AP xi ee
theorem aeS:∀r∈lS.rules,r.2.length<=8796093021952:=by
 intro r hr;have:r∈acf:=hr;simp only[acf,df,List.not_mem_nil,or_false]at this;rcases this with rfl|rfl|rfl<;>exact eC (mW I:_<=10) J
set_option maxRecDepth 100000 in
theorem walk(w:World)(v:Value)(s:Sp)(hv:WE (sa w) w v s)(hb:∀r∈s.rules,r.2.length*16<=140737488351232)(tx:List UInt8)(htx:tx.length<=140737488351232):
 Calls aC 4 #[v,str tx] w (cJ (ret (.bool aB)) w):=by
 obtain⟨r,hx⟩:=agP s;obtain⟨r0,T0,N0,h1⟩:=acz;have ajh:=fun v' w' h=>OX h1.lx (v:=v') (w:=w') h aeS h1.ok;have aji:=fun c w' (hg:Gr w w')=>Xg hx (hv.gr hg) (fun r h=>by have:=hb r h;omega) c;have ajj:=fun c w' (hg:Gr w w')=>OX hx (hv.gr hg) (fun r h=>by have:=hb r h;omega) c;have JN:=Xh hx;have acI:=fun(y:MkX) w' h=>CV (aP (y.cells (wL lS r0)).toArray) (wL lS r0) aB T0 N0 (vo:=y.vo) (vn:=y.vn) (vt:=y.vt) (vp:=y.vp) (vr:=y.vr) (va:=y.va) (vg:=y.vg) [32] w' h h1.fit akV;rw[h1.w2]at acI;have hls:=fun w'=>SG w';have ahi:=fun w' x h1 h2 h3 h4=>aeH (w:=w') (a:=fy 97 97) (s:=fy 32 32) (x:=x) h1 h2 h3 h4;have hlS:lS=⟨ag_ (fy 97 97) (fy 32 32),acf⟩:=rfl;rw[<-hlS]at ahi;clear hlS h1;generalize fy 97 97=ca at*;generalize fy 32 32=cs at*;generalize wL lS r0=m0 at*;generalize lS=l0 at*;obtain⟨vw0,vr0,rfl,hw,hr⟩:=hv;obtain⟨bw,cw,rfl,-⟩:=hw;obtain⟨br,cr,rfl,-⟩:=hr;clear hb;have hsz:HD.toArray.size=266:=kJ jV I;have jB:HD.toArray.toList.all f_=true:=BV I Um I;refine enter (args:=[aP #[ak bw s.words.length cw,ak br s.rules.length cr],str tx]) (n:=165) Tryz.func4 I I I ?_;refine bY (a_ (bQ I I I fun g2=>?_));refine zL ?_
 try refine GA ?_
 refine aW (he0 aF.en I) (fun w hm=>hls w) I I I ?_;rintro⟨q1,q2,q3,q4⟩ _
 conv=>arg 8;simp only[zJ,dr,ret,id_eq,aeG]
 conv=>arg 7;simp only[aeG]
 refine aW (kZ aF.en I I) (fun w' hm=>ajh _ w' (ahi w' ⟨q1,q2,q3,q4⟩ (hm.get (i:=1) I) (hm.get (i:=2) I) (hm.get (i:=3) I) (hm.get (i:=4) I))) I I I ?_;intro y hy
 conv=>arg 8;simp only[zJ,dr,ret,id_eq,SJ]
 conv=>arg 7;simp only[SJ]
 refine Et [0,5] ?_
 try refine GA ?_
 refine aY I fun g5'=>?_;rw[xc];refine zL ?_;refine aX (i:=2) (cs':=(y.cells m0).toArray) I I I (sK y m0) hy.one hsz ?_;refine zL ?_
 repeat(first|refine GA ?_|refine gV (aL (i:=2) aI.ty I I (sK y m0)) ?_)
 refine aW (fP aF.en I I I) (fun w' hm=>acI y w' (hy.mdr w' (hm.get (i:=1) I))) I I I ?_;intro vo _
 conv=>arg 8;simp only[zJ,dr,ret,id_eq,AT]
 conv=>arg 7;simp only[AT,O8]
 try refine GA ?_
 refine aV (i:=3) I fun _ jM=>?_;refine aY I fun g7'=>?_;refine aX (i:=4) (cs':=#[vo,ap av 13,ap av 1]) I I I I (sL jM) I ?_;refine zL ?_
 repeat(first|refine GC ?_|refine gV (aw (v:=ap av 13) aI.ty I (aE (i:=4) I I)) ?_|refine gV (aw (v:=ap av 1) aI.ty I (aE (i:=4) I I)) ?_|refine gV (dz (b:=aD) I I (decide_eq_false (by simp))) ?_|refine gV (aL (i:=0) aI.ty I I I) ?_|refine GB ?_)
 refine Et [0] ?_;clear acI ajh hls ahi hy jM
 by_cases c0:(CI s r.1).1≠0
 ·have Pc:=aji c0
  refine aW (kZ aF.en I I) (fun w hm=>Pc _ hm.below) I I I ?_;intro _ _;unfold ai4;refine zL ?_
  try refine GA ?_
  refine aY I fun g9'=>?_;rw[xc];refine zL ?_;refine aX (i:=1) (cs':=HD.toArray) I I I hsz jB hsz ?_;refine zL ?_
  repeat(first|refine GC ?_|refine gV (dz (b:=aB) I I (decide_eq_true c0)) ?_|refine GB ?_)
  exact dR
 have c1:(CI s r.1).1=0:=rQ c0;have Pc:=ajj c1;obtain⟨b,T,N,hk⟩:=JN c1;clear ajj aji JN c0 c1 hx;generalize wL s r=m at*;refine aW (kZ aF.en I I) (fun w hm=>Pc _ hm.below) I I I ?_;intro y hy
 conv=>arg 8;simp only[zJ,dr,ret,id_eq,SJ]
 conv=>arg 7;simp only[SJ]
 try refine GA ?_
 refine aY I fun g9=>?_;rw[xc];refine zL ?_;refine aX (i:=2) (cs':=(y.cells m).toArray) I I I (sK y m) hy.one hsz ?_;refine zL ?_;have QH:=hk.toMdGood;have hrun:=fun(q:List UInt8) w' h hq=>CV (aP (y.cells m).toArray) m b T N (vo:=y.vo) (vn:=y.vn) (vt:=y.vt) (vp:=y.vp) (vr:=y.vr) (va:=y.va) (vg:=y.vg) q w' h hk.toMdFit hq;have aft:=fun(q:List UInt8) w' h hq=>LY (aP (y.cells m).toArray) m (vo:=y.vo) (vn:=y.vn) (vt:=y.vt) (vp:=y.vp) (vr:=y.vr) (va:=y.va) (vg:=y.vg) q w' h QH hq;have ahj:=fun(q:List UInt8) w' (h:Jd w' (aP (y.cells m).toArray) m y.vo y.vn y.vt y.vp y.vr y.va y.vg) hq=>LZ (aP (y.cells m).toArray) m q w' h QH hq
 repeat(first|refine GA ?_|refine gV (aL (i:=2) aI.ty I I (sK y m)) ?_)
 by_cases c2:2000<tx.length
 ·refine aW (fP aF.en I I I) (fun w' hm=>aft tx w' (hy.mdr w' (hm.get (i:=1) I)) c2 J) I I I ?_
  intro _ _;refine zL ?_
  try refine GA ?_
  refine aY I fun g11=>aX (i:=3) (cs':=#[ak aj 0 0,ap av 0,ap av 0]) I I I I I I ?_;refine zL ?_
  repeat(first|refine GA ?_|refine gV (aL (i:=2) aI.ty I I (sK y m)) ?_)
  refine aW (fP aF.en I I I) (fun w' hm=>ahj tx w' (hy.mdr w' (hm.get (i:=1) I)) J) I I I ?_;rintro⟨x1,x2⟩ _;refine zL ?_
  try refine GA ?_
  exact dR
 refine aW (fP aF.en I I I) (fun w' hm=>hrun tx w' (hy.mdr w' (hm.get (i:=1) I)) J) I I I ?_;intro va _
 conv=>arg 8;simp only[zJ,dr,ret,id_eq,AT]
 conv=>arg 7;simp only[AT,O8]
 try refine GA ?_
 refine aV (i:=3) I fun _ jM=>?_;refine aY I fun g11=>?_;refine aX (i:=4) (cs':=O8 va (lA m b tx)) I I I I (sL jM) I ?_;refine zL ?_
 repeat(first|refine GA ?_|refine gV (aL (i:=2) aI.ty I I (sK y m)) ?_)
 refine aW (fP aF.en I I I) (fun w' hm=>ahj tx w' (hy.mdr w' (hm.get (i:=1) I)) J) I I I ?_;rw[DR hk.lC J];rintro⟨x1,x2⟩ _
 conv=>arg 8;simp only[zJ,dr,ret,id_eq,UQ]
 conv=>arg 7;simp only[UQ]
 have hcv:=pB (o:=m.o) (N:=m.N) (tags:=m.tags) (s:=tx) (tx.length+1) 0 (bC _) J;have hcn:qJ (qH m.o m.N m.tags tx).1 0<=tx.length:=by
  unfold qH;rcases hcv.2 with⟨_,h⟩|⟨_,h,h2⟩<;>omega
 have AU:=tV (o:=m.o) (N:=m.N) (tags:=m.tags) (n:=(m.of.length:Int)) (by have:=hk.some;omega) hk.tag tx (tx.length+1) 0;have xF:=fun h20=>Xj hk (L:=qH m.o m.N m.tags tx) (n:=tx.length) hcv.1 hcn (acr tx) (OZ QH AU h20);have OB:=OZ QH AU;rw[show mg m.o m.N m.tags tx (tx.length+1) 0=qH m.o m.N m.tags tx from I]at OB;have xF:_->((lA m b tx).2.1=9->_)/\((lA m b tx).2.1=13->(∃k,_/\AS (jo m (qH m.o m.N m.tags tx).1) ((lA m b tx).2.2:Int) 0=_/\_)\/(AS (jo m (qH m.o m.N m.tags tx).1) ((lA m b tx).2.2:Int) 0= -1/\_/\_/\(lA m b tx).2.2=tx.length)):=xF;clear hcv hcn AU hrun aft ahj;generalize lA m b tx=A at*;generalize iq m (qH m.o m.N m.tags tx).1=W at*;generalize jo m (qH m.o m.N m.tags tx).1=P at*;generalize (qH m.o m.N m.tags tx).2.2=bd at*;obtain⟨ea,oa,pa⟩:=A;unfold O8;dsimp only at xF⊢;have hB:=fun vw (W:List Int) w' (h:Jd w' (aP (y.cells m).toArray) m y.vo y.vn y.vt y.vp y.vr y.va y.vg) hs=>L1 (dD m.g.aQ m.g.bB y.vp) vw m.g W w' h.De hs;have hI:=fun w' (h:Sl w' x2 P.length (P.map (.int .i64)))=>HM x2 P (pa:Int) w' (by rw[IA];exact h);refine ot (i:=5) I fun bW cW hvW k1 k2=>?_;subst hvW
 by_cases c4:20<W.length
 ·repeat(first|refine GC ?_|refine gV (dV (i:=5) bI.eq I I) ?_|refine gV (eP (b:=aB) I I (decide_eq_true J)) ?_|refine GB ?_)
  exact dR
 have hc:=OB J;obtain⟨p9,p13⟩:=xF J
 by_cases c9:oa=9
 ·subst c9
  obtain⟨p1,p2⟩:=p9 rfl;have hB:=fun w' h hs=>hB (ak bW W.length cW) W w' h hs;have hT:=fun w' (h:Jd w' (aP (y.cells m).toArray) m y.vo y.vn y.vt y.vp y.vr y.va y.vg) hs=>CW (dD m.g.aQ m.g.bB y.vp) (ak bW W.length cW) m.g W w' h.De hs;rw[hc,p1]at hB;rw[hc]at hT
  repeat(first|refine GC ?_|refine gV (aw (v:=ap av 9) aI.ty I (aE (i:=4) I I)) ?_|refine gV (aw (v:=ap av (pa:Int)) aI.ty I (aE (i:=4) I I)) ?_|refine gV (dV (i:=5) bI.eq I I) ?_|refine gV (eP (b:=aD) I I (decide_eq_false J)) ?_|refine GB ?_)
  refine aW (fP aF.en I I I) (fun w' hm=>hI w' (Sl.dy (hm.get (i:=6) I))) I I I ?_;intro _ _;refine zL ?_
  repeat(first|refine GA ?_|refine gV (aw (v:=ap av 9) aI.ty I (aE (i:=4) I I)) ?_|refine gV (aU (cs:=[ap av m.g.aQ,ap av m.g.bB,y.vp]) aI.ty I I (fun j v h=>aE (i:=2) I (lO (iA _ _ _) h))) ?_)
  refine aW (fP aF.en I I I) (fun w' hm=>hB w' (hy.mdr w' (hm.get (i:=1) I)) (Sl.dy (hm.get (i:=5) I))) I I I ?_;intro _ _;refine zL ?_
  repeat(first|refine GA ?_|refine gV (aU (cs:=[ap av m.g.aQ,ap av m.g.bB,y.vp]) aI.ty I I (fun j v h=>aE (i:=2) I (lO (iA _ _ _) h))) ?_)
  refine aW (fP aF.en I I I) (fun w' hm=>hT w' (hy.mdr w' (hm.get (i:=1) I)) (Sl.dy (hm.get (i:=5) I))) I I I ?_;intro _ _;refine zL ?_;rw[decide_eq_true p2]
  repeat(first|refine GA ?_|refine gV (aw (v:=ap av 9) aI.ty I (aE (i:=4) I I)) ?_)
  exact dR
 by_cases c13:oa=13
 ·subst c13
  rcases p13 rfl with⟨k,q1,q2,q3,q4⟩|⟨q2,q3,q4,q5⟩
  ·rw[q2]at hI
   have hB1:=fun w' h hs=>hB (ak bW k cW) (W.take k) w' h hs;have hB2:=fun w' h hs=>hB (ak bW (k+1) cW) (W.take (k+1)) w' h hs;rw[q3,ri hc]at hB1;rw[q4,ri hc]at hB2
   repeat(first|refine GC ?_|refine gV (aw (v:=ap av 13) aI.ty I (aE (i:=4) I I)) ?_|refine gV (aw (v:=ap av (pa:Int)) aI.ty I (aE (i:=4) I I)) ?_|refine gV (dV (i:=5) bI.eq I I) ?_|refine gV (eP (b:=aD) I I (decide_eq_false J)) ?_|refine GB ?_)
   refine aW (fP aF.en I I I) (fun w' hm=>hI w' (Sl.dy (hm.get (i:=6) I))) I I I ?_;intro _ _;refine zL ?_
   repeat(first|refine GC ?_|refine gV (aw (v:=ap av 13) aI.ty I (aE (i:=4) I I)) ?_|refine gV (dT (b:=aD) I I (decide_eq_false J)) ?_|refine GB ?_)
   refine dK ([SH y.Ls,aO g9 (y.cells m).toArray 38,bx 3 1 (ak bW W.length cW) W.length (W.map (.int .i64))]) (.calm 0 (.calm 1 (.calm 2 (.calm 3 (.calm 4 (.calm 5 (.calm 6 (.calm 7 (.calm 8 (.calm 9 (.calm 10 (.done)))))))))))) (bZ [1,2,5]) ?_
   repeat(first|(refine GN ?_;first|refine QW QP ?_|refine QW (aU (cs:=[ap av m.g.aQ,ap av m.g.bB,y.vp]) aI.ty I I (fun j v h=>aE (i:=1) I (lO (iA _ _ _) h))) ?_|refine QW (US bI.eq aI.ty I I J) ?_|refine GX ?_)|refine GW ?_)
   refine na I (fP aF.en I I I) (fun w hm=>hB1 w (hy.mdr w (hm.get (i:=0) I)) (UR (Sl.dy (hm.get (i:=2) I)) J)) I I I ?_
   try refine GW ?_
   try refine GA ?_
   refine dK ([SH y.Ls,aO g9 (y.cells m).toArray 38,bx 3 1 (ak bW W.length cW) W.length (W.map (.int .i64))]) (.calm 0 (.calm 1 (.calm 2 (.calm 3 (.calm 4 (.calm 5 (.calm 6 (.calm 7 (.calm 8 (.calm 9 (.calm 10 (.calm 11 (.done))))))))))))) (bZ [1,2,5]) ?_
   repeat(first|(refine GN ?_;first|refine QW QP ?_|refine QW (aU (cs:=[ap av m.g.aQ,ap av m.g.bB,y.vp]) aI.ty I I (fun j v h=>aE (i:=1) I (lO (iA _ _ _) h))) ?_|refine QW (dh (r:=((k+1:Nat):Int)) I I J J J) ?_|refine QW (US bI.eq aI.ty I I J) ?_|refine GX ?_)|refine GW ?_)
   refine na I (fP aF.en I I I) (fun w hm=>hB2 w (hy.mdr w (hm.get (i:=0) I)) (UR (Sl.dy (hm.get (i:=2) I)) J)) I I I ?_
   try refine GW ?_
   try refine GA ?_
   exact dR
  rw[q2]at hI;have hB:=fun w' h hs=>hB (ak bW W.length cW) W w' h hs;have hT:=fun w' (h:Jd w' (aP (y.cells m).toArray) m y.vo y.vn y.vt y.vp y.vr y.va y.vg) hs=>CW (dD m.g.aQ m.g.bB y.vp) (ak bW W.length cW) m.g W w' h.De hs;rw[hc,q3]at hB;rw[hc,q4]at hT
  repeat(first|refine GC ?_|refine gV (aw (v:=ap av 13) aI.ty I (aE (i:=4) I I)) ?_|refine gV (aw (v:=ap av (pa:Int)) aI.ty I (aE (i:=4) I I)) ?_|refine gV (dV (i:=5) bI.eq I I) ?_|refine gV (eP (b:=aD) I I (decide_eq_false J)) ?_|refine GB ?_)
  refine aW (fP aF.en I I I) (fun w' hm=>hI w' (Sl.dy (hm.get (i:=6) I))) I I I ?_;intro _ _;refine zL ?_
  repeat(first|refine GA ?_|refine gV (aw (v:=ap av 13) aI.ty I (aE (i:=4) I I)) ?_|refine gV (aU (cs:=[ap av m.g.aQ,ap av m.g.bB,y.vp]) aI.ty I I (fun j v h=>aE (i:=2) I (lO (iA _ _ _) h))) ?_)
  refine aW (fP aF.en I I I) (fun w' hm=>hB w' (hy.mdr w' (hm.get (i:=1) I)) (Sl.dy (hm.get (i:=5) I))) I I I ?_;intro _ _;refine zL ?_
  repeat(first|refine GA ?_|refine gV (aU (cs:=[ap av m.g.aQ,ap av m.g.bB,y.vp]) aI.ty I I (fun j v h=>aE (i:=2) I (lO (iA _ _ _) h))) ?_)
  refine aW (fP aF.en I I I) (fun w' hm=>hT w' (hy.mdr w' (hm.get (i:=1) I)) (Sl.dy (hm.get (i:=5) I))) I I I ?_;intro _ _;refine zL ?_
  repeat(first|refine GC ?_|refine gV (aw (v:=ap av 13) aI.ty I (aE (i:=4) I I)) ?_|refine gV (aw (v:=ap av (pa:Int)) aI.ty I (aE (i:=4) I I)) ?_|refine gV (cP (b:=aB) I I (decide_eq_true J)) ?_|refine GB ?_)
  exact dR
 ·repeat(first|refine GC ?_|refine gV (aw (v:=ap av oa) aI.ty I (aE (i:=4) I I)) ?_|refine gV (dz (b:=aB) I I (decide_eq_true c13)) ?_|refine gV (dz (b:=aB) I I (decide_eq_true c9)) ?_|refine gV (dV (i:=5) bI.eq I I) ?_|refine gV (eP (b:=aD) I I (decide_eq_false J)) ?_|refine GB ?_)
  exact dR
end wholePlace
end Go.Proofs.YtdmgcnggnejnnaaGreat

/- Part 5 of what SessionWholeUpto needs: SmPk, SmUp, SmCk, SpecRt, LexL, LexA, LexB, SmBk, LexN, LexV, WhL, LexW, FeedL, FeedV, WhF, FeedP, SeL, SeR, SeSt, SeCr, FeedA, FeedB, FeedC, FeedD, FeedQ, SeJ, SeT, Half, WhC, SeM, SeN, SpecP, SpecQ, SpecC, BoolC, SpecU, SpecH, SpecG, SpecV, Bun, Mk2, SeO. -/
import Derived.Test.YthmakbpkkoeabaaGreatMgD
namespace Go.Proofs.YthmakbpkkoeabaaGreat
set_option linter.unusedVariables false
set_option linter.unusedSimpArgs false
open _root_.And renaming intro->cP
open _root_.Bool renaming false->aF,true->aD,and_eq_true->fc,false_eq_true->rm,true_and->FT,not_eq_true'->AR,false_and->RP
open _root_.Decidable renaming of_not_not->tD
open _root_.False renaming elim->oc
open _root_.Go.Instr renaming build->dg
open _root_.Go.IntKind renaming i64->aB
open _root_.Go.Proofs.Tryz renaming prog->aE
open _root_.Go.Value renaming slice->av,int->az,pointer->aK,agg->aQ,oneCell'->ft,cells->tp
open _root_.Go.Value.agg renaming injEq->lT
open _root_.Go.World renaming block_lt_of_cell?->og
open _root_.Int renaming toNat_natCast->dD,eq_ofNat_of_zero_le->gU,le_refl->lm
open _root_.List renaming getElem?_eq_getElem->bM,length_append->bK,getD_eq_getElem?_getD->de,getElem_mem->cH,getElem?_eq_some_iff->dX,length_cons->dj,all_cons->c_,drop_eq_getElem_cons->eH,all_nil->db,take_succ_eq_append_getElem->gv,mem_singleton->eV,size_toArray->eM,append_nil->dY,mem_cons->dM,length_map->eI,append_assoc->eY,map_append->eZ,nil_append->e7,flatMap_append->ir,not_mem_nil->fz,eq_nil_of_length_eq_zero->mK,length_singleton->kO,length_drop->iT,mem_append->gj,map_cons->ff,length_nil->iv,mem_iff_getElem->iC,mem_cons_self->iO,mem_map->fG,mem_cons_of_mem->kJ,getElem?_append_left->mg,cons_append->kD,drop_eq_nil_of_le->oD,flatten_append->qc,getElem?_toArray->oE,getElem?_cons_zero->pj,length_take->jz,take_length->mW,mem_of_getElem?->mL,drop_drop->nt,getElem?_of_mem->uA,map_nil->lL,any_eq_false->y8,drop_length->yK,length->yU,drop_append_of_le_length->abB,length_pos_iff->abC
open _root_.Nat renaming le_refl->bC,zero_le->bH,zero_add->cX,blt->dq,lt_succ_self->tr,succ_ne_zero->yV,blt_eq->Bz
open _root_.Option renaming some->aj,none->ak,getD_some->jD
open _root_.Option.some renaming injEq->dL
open _root_.Prod renaming ext->nw,snd->BQ,fst->RT
open _root_.Prod.mk renaming injEq->jX
open _root_.True renaming intro->cV
open _root_.Vector renaming replicate->eC,getElem_ofFn->kM,getElem_toList->BH,ofFn->rf
set_option maxHeartbeats 16000000
namespace bZ
open Go.RowKit cL dQ zy cz
def WA:Nat->Nat×Nat
 |0=>(0,0)
 | n+1=>match WA n with
  |(a,0)=>(0,a+1)
  |(a,b+1)=>(a+1,b)
theorem FU:∀(s a b:Nat),a+b=s->∃n,WA n=(a,b)
 |0,a,b,h=>⟨0,by obtain rfl:a=0:=J;obtain rfl:b=0:=J;rfl⟩
 |s+1,0,b,h=>by
  obtain rfl:b=s+1:=by omega
  obtain⟨n,hn⟩:=FU s s 0 J;exact⟨n+1,by simp[WA,hn]⟩
 |s+1,a+1,b,h=>by
  obtain⟨n,hn⟩:=FU (s+1) a (b+1) J;exact⟨n+1,by simp[WA,hn]⟩
def qd(m x:Nat):Value:=av (aj ⟨(WA x).1,0,ak⟩) m (WA x).2
section
variable{P:Program}{n:Nat}{W:bP}{fr:Fr}{ops:Array Oper}
theorem aee{i d:Nat}{α:Type}(val:α->Value)(z:α){t e ty:TypeId}{pos:String}{after:Array Edge}{x y:Operand}{bytes m:Nat}{k k':IntKind}[rC P t e 1 bytes][eU P e #[val z]](ho:ops[i]?=aj ⟨aj d,.makeSlice t x y,ty,pos,after,ak⟩)(hx:ev fr x=aj (.int k (m:Int)))(hy:ev fr y=aj (.int k' (m:Int)))(hb:bytes*m<=281474976710656)(qX:m<=9223372036854775807)(hn:dq d n=aD):
 HE P n W ops fr ⟨i,d,λg=>av (aj ⟨g,0,ak⟩) m m,λg=>fE e val g m λ_=>z⟩:=
 ⟨_,ho,λ_ _ _ hl h=>pE val z (zw hl hx) (zw hl hy) hb qX hn h⟩
theorem RU{i d:Nat}{o:Oper}{f:FuncId}{args:Array Value}{e:TypeId}{size m:Nat}{xs:List Value}(ho:ops[i]?=aj o)(he:∀Gu,(∀q v,look fr q=aj v->look Gu q=aj v)->∀a w,na n a Gu->(execOp a.eval o).run P w= .ok (.enter f args) w)
 (hc:∀(L:List b9) w,Mem W L w->Calls P f args w (bX (cD e size m xs id) w)) (hm:0<m) (hg:o.guard=ak) (hd:o.dst=aj d) (hn:dq d n=aD):
 HE P n W ops fr ⟨i,d,qd m,λx=>a_ e size (qd m x) m xs⟩:=
 ⟨o, ho,λQ Gu L hl h=>aU (he Gu hl) (λw hw=>hc L w hw) hg hd hn λv _=> .mk λa w hr hw=>by
  have ud:(a_ e size v m xs).holds w:=hw.get (i:=L.length) (by simp[cD]);obtain⟨G,cap,hv,_,_,_⟩:=LZ ud
  cases G with
  | none=>
   rcases ud.2 with⟨_,h0⟩|⟨g,A3,kU,L6,_⟩
   omega;rw[L6]at hv;cases hv
  | some g=>
   obtain⟨x,hx⟩:=FU _ g cap rfl;have e:v=qd m x:=by rw[hv];unfold qd;rw[hx];rfl
   have:=h x;dsimp only at this;rw[<-e]at this;exact this.go a w hr hw⟩
end
theorem N3{P:Program}{n:Nat}{W:bP}{fr:Fr}{L:List b9}{Q:Exit->Act->World->Prop}{ops:Array Oper}{rest:List Oper}{ty:TypeId}{pos:String}{after:Array Edge}{t:TypeId}{p x:Operand}{i g b:Nat}{c:Dr}{T:TypeId}{agg:Bool}{z:Int}[hT:aL P t agg 1](hi:L[i]?=aj (aR g (yT c).toArray T))(hp:ev fr p=aj (aK (aj ⟨g,0+b,ak⟩)))(hx:ev fr x=aj (.int .i16 z))(hb:b<200)
 (h:TL P n W ops Q rest fr (L.set i (aR g (yT (c.set b z)).toArray T))):TL P n W ops Q (⟨ak,.store t p x,ty,pos,after,ak⟩::rest) fr L:=by
 rw[cX]at hp;refine bJ hi hp hx I I ?_ ?_
 ·rw[eM,r_];exact Bz▸hb
 ·rw[aeb c hb];exact h
abbrev y9(v:Value):Value:=v
def abD(n:Nat):Mk:=⟨3,24,λg=>av (aj ⟨g,0,ak⟩) n n,λg=>fE 26 y9 g n λ_=>av ak 0 0⟩
def abE(tags:List Int):Mk:=⟨6,27,qd tags.length,λx=>a_ 3 1 (qd tags.length x) tags.length (tags.flatMap cL.eJ)⟩
def aef:Mk:=⟨8,5,λg=>aK (aj ⟨g,0,ak⟩),λg=>aR g (List.replicate 256 (az .u8 0)++([av ak 0 0,av ak 0 0]:List Value)).toArray 30⟩
def WB(n:Nat)(D:List Dr)(vs:Nat->Value):b9:=jK (λi=>i<n) λi=>a_ 3 1 (vs i) D.length ((AP D i).flatMap cL.eJ)
def nxM(n:Nat)(D:List Dr)(col:Dr)(j:Nat)(vs:Nat->Value):b9:=jK (λi=>i<n) λi=>a_ 3 1 (vs i) (if i<j then D++[col]else D).length ((AP (if i<j then D++[col]else D) i).flatMap cL.eJ)
theorem ajc(n:Nat)(D:List Dr)(col:Dr)(vs:Nat->Value):nxM n D col 0 vs=WB n D vs:=by
 unfold nxM WB;simp
theorem Uj(n:Nat)(D:List Dr)(col:Dr)(vs:Nat->Value)(i:Nat)(h:i<n):(λi=>a_ 3 1 (vs i) (D++[col]).length ((AP (D++[col]) i).flatMap cL.eJ)) i=(λi=>a_ 3 1 (vs i) (if i<n then D++[col]else D).length ((AP (if i<n then D++[col]else D) i).flatMap cL.eJ)) i:=by
 dsimp only;rw[if_pos h]
theorem FV{P:Program}{n:Nat}{W:bP}{fr:Fr}{L:List b9}{Q:Exit->Act->World->Prop}{ops:Array Oper}{rest:List Oper}{ty:TypeId}{pos:String}{after:Array Edge}{t:TypeId}{p x:Operand}{i g b z:Nat}{o:Of}{vn vt:Value}{T:TypeId}{agg:Bool}[hT:aL P t agg 1](hi:L[i]?=aj (aR g (ey o vn vt).toArray T))(hp:ev fr p=aj (aK (aj ⟨g,0+b,ak⟩)))(hx:ev fr x=aj (.int .u8 (z:Int)))(hb:b<256)
 (h:TL P n W ops Q rest fr (L.set i (aR g (ey (o.set b z) vn vt).toArray T))):TL P n W ops Q (⟨ak,.store t p x,ty,pos,after,ak⟩::rest) fr L:=by
 rw[cX]at hp;refine bJ hi hp hx I I ?_ ?_
 ·rw[il];exact Bz▸J
 ·rw[agW o vn vt hb];exact h
theorem abF{j:Nat}{D:List Dr}{col:Dr}{vs:Nat->Value}{v2:Value}{x:Int}(h:AP (D++[col]) j=AP D j++[x])(q:Nat):
  (λi=>a_ 3 1 ((λi=>if i=j then v2 else vs i) i) (if i<j+1 then D++[col]else D).length ((AP (if i<j+1 then D++[col]else D) i).flatMap cL.eJ)) q
   =Vl (λi=>a_ 3 1 (vs i) (if i<j then D++[col]else D).length ((AP (if i<j then D++[col]else D) i).flatMap cL.eJ)) j (a_ 3 1 v2 (D.length+1) ((AP D j).flatMap cL.eJ++[az aB x])) q:=by
 unfold Vl;dsimp only
 by_cases c:q=j
 ·subst c
  rw[if_pos I,if_pos I,if_pos (tr q),h,bK,ir];rfl
 ·rw[if_neg c,if_neg c]
  have e:q<j+1↔q<j:=by omega
  simp only[e]
def abG(R:List Row)(tags:List Int):Spec (Nat×(Nat->Value)×Value):=⟨λ_=>True,λx=> .tuple #[C3 (wM R 256) (av (aj ⟨x.1,0,ak⟩) R.length R.length) x.2.2,az aB 0],
 λx=>[fE 26 y9 x.1 R.length x.2.1,WB R.length (nM R 256) x.2.1,a_ 3 1 x.2.2 tags.length (tags.flatMap cL.eJ)]⟩
set_option maxRecDepth 100000 in
theorem RV(vr vt:Value)(R:List Row)(tags:List Int)(w:World)(h:G2 w vr vt R tags)(hc:lI R tags=0):
 Calls aE 43 #[jc vr vt] w (bX (abG R tags) w):=by
 have iH:=λw' (hg:Gr w w')=>Fq vr vt R tags w' (h.gr hg);rw[hc]at iH;have jU:=λw' (hg:Gr w w') hl=>CX vt tags w' (h.hT.gr hg) hl;obtain⟨bt,ct,rfl,ht1,OR,GI⟩:=h.hT;obtain⟨br,cr,rfl,Vi,tV,Ep⟩:=h.hR;have ad3:=h.rng;unfold maxLen at tV OR;clear h;obtain⟨hA,hlt⟩:=oH hc;have xp:0<R.length:=hA.pos;have hle:R.length<=200:=hA.le;clear hA hc;obtain⟨b,off,rfl,hr⟩:=Ep xp;obtain⟨bb,ma,rfl,hrt⟩:=GI J;clear Ep GI hrt;have jU:=λw' hg=>jU w' hg J;have A5:=Ww;refine enter (args:=[jc (av (aj ⟨b,off,ak⟩) R.length cr) (av (aj ⟨bb,ma,ak⟩) tags.length ct)]) (n:=91) Tryz.func43 I I I ?_;refine cB (bD (bL I I I λg1=>?_));refine a8 I λg2=>?_;rw[KH];refine zL ?_
 repeat(first|refine GA ?_|refine gV (aP (i:=0) aL.ty I I I) ?_)
 refine aU (ja aJ.en I I) (λw hm=>iH _ hm.below) I I I ?_;intro _ _
 try refine GA ?_
 (repeat refine cB ?_)
 refine ml (ι:=Nat×Nat×Nat) (λ_=>True) (λ(_,_,g5)=>[(1,aK (aj ⟨g1,0,ak⟩)),(2,aK (aj ⟨g2,0,ak⟩)),(5,aK (aj ⟨g5,0,ak⟩))])
  (λ(gN,x,g5)=>[aR g1 (jc (av (aj ⟨b,off,ak⟩) R.length cr) (av (aj ⟨bb,ma,ak⟩) tags.length ct)).cells 137,aR g2 (ey (eC 256 0) (av ak 0 0) (av ak 0 0)).toArray 30,fE 26 y9 gN R.length (λ_=>av ak 0 0),a_ 3 1 (qd tags.length x) tags.length (tags.flatMap cL.eJ),aR g5 (ey (wM R 0) (av (aj ⟨gN,0,ak⟩) R.length R.length) (qd tags.length x)).toArray 30]) ?_ ?_
 ·refine Y1 [aR g1 (jc (av (aj ⟨b,off,ak⟩) R.length cr) (av (aj ⟨bb,ma,ak⟩) tags.length ct)).cells 137] (bV [0]) (by kernel_rfl) (by kernel_rfl) (by intro c a d v w h;cases d<;>exact h) ?_
  refine qZ 0 (by kernel_rfl) I (ahK dI.fld I I) I I I ?_;refine qZ 1 (by kernel_rfl) I (aC aL.ty I (aI (i:=0) I I)) I I I ?_;refine qZ 2 (by kernel_rfl) I (acL bQ.eq I) I I I ?_;refine qZ 4 (by kernel_rfl) I (ahK dI.fld I I) I I I ?_;refine qZ 5 (by kernel_rfl) I (aC aL.ty I (aI (i:=0) I I)) I I I ?_;refine L9 [abD R.length,abE tags,aef] (λm=>!Nat.beq m.i 8) 2 (by kernel_rfl) (by kernel_rfl) ?_ (λq=>?_) λq=>?_
  ·intro m hm
   simp only[dM,fz,or_false]at hm;rcases hm with rfl|rfl|rfl
   exact aee y9 _ I I I J J I;exact RU I (λGu hl=>ja aJ.en I (zw hl I)) (λL w hm=>jU w hm.below) J I I I;exact HH I I
  ·simp only[abD,abE,aef,ff,lL]
   generalize q 3=gN;generalize q 6=x;generalize q 8=g5;clear q;rw[KH];refine Dc (.calm 7 (.one 9 .done)) (by kernel_rfl) I ?_
   repeat(first|refine GW ?_|(refine GN ?_;first|refine QW (bB I (NZ _ _ _ _ _)) ?_))
   refine aM I ?_;refine aW (i:=4) (cs':=(ey (eC 256 0) (av (aj ⟨gN,0,ak⟩) R.length R.length) (qd tags.length x)).toArray) I I I (il _ _ _) (y6 _ I I) (il _ _ _) ?_;refine aO (bV [0]) ?_
   try refine GW ?_
   exact eh (gN,x,g5) trivial (by repeat' (first|exact cV|refine cP I ?_)) (by rw[afl];rfl)
  rw[show List.filter (λm:Mk=>!Nat.beq m.i 8) [abD R.length,abE tags,aef]=[abD R.length,abE tags]from I];simp only[abD,abE,aef,ff,lL];generalize q 3=gN;generalize q 6=x;clear q;refine Dc (.calm 7 (.one 8 (.one 9 .done))) (by kernel_rfl) (by kernel_rfl) ?_
  repeat(first|refine GW ?_|(refine GN ?_;first|refine QW (bB I (NZ _ _ _ _ _)) ?_))
  refine aM I ?_;refine a8 I λg5=>?_;refine aO (bV [0]) ?_;rw[KH];refine aM I ?_;refine aW (i:=4) (cs':=(ey (eC 256 0) (av (aj ⟨gN,0,ak⟩) R.length R.length) (qd tags.length x)).toArray) I I I (il _ _ _) (y6 _ I I) (il _ _ _) ?_;refine aO (bV [0]) ?_
  try refine GW ?_
  exact eh (gN,x,g5) trivial (by repeat' (first|exact cV|refine cP I ?_)) (by rw[afl];rfl)
 rintro⟨gN,xT,g5⟩ _;dsimp only;generalize hvT:qd tags.length xT=vT
 try refine GA ?_
 refine Bh (K:=Ns) I λg6=>?_;refine zL ?_
 try refine GA ?_
 refine mP (WB R.length [] λ_=>av ak 0 0) (λk hk=>?_) (λw=>⟨λi _=>World.ownsRow_nil _ _ _ _,λi j _ _ _ k hk=>?_⟩) ?_
 ·rcases hk with hk|⟨i,_,hk⟩
  cases hk
  rcases hk with hk|hk<;>cases hk
 ·rcases hk with hk|hk<;>cases hk
 conv=>arg 7;simp only[zA,zB,zC,zD,zE,zF,zG,zH,zI,cD,ret,id_eq]
 refine d_ (ι:=Nat×(Nat->Value)) (λ(k,_)=>k<=256) (λ(k,_)=>[(1,aK (aj ⟨g1,0,ak⟩)),(2,aK (aj ⟨g2,0,ak⟩)),(5,aK (aj ⟨g5,0,ak⟩)),(6,.map (aj g6)),(30,az aB (k:Int))])
  (λ(k,vs)=>[aR g1 (jc (av (aj ⟨b,off,ak⟩) R.length cr) (av (aj ⟨bb,ma,ak⟩) tags.length ct)).cells 137,aR g2 (ey (eC 256 0) (av ak 0 0) (av ak 0 0)).toArray 30,fE 26 y9 gN R.length vs,a_ 3 1 vT tags.length (tags.flatMap cL.eJ),aR g5 (ey (wM R k) (av (aj ⟨gN,0,ak⟩) R.length R.length) vT).toArray 30,fv Ns g6 (lp (nM R k)) (nM R k).length,WB R.length (nM R k) vs]) (λ(k,_)=>256-k) (0,λ_=>av ak 0 0) (bH _) ?_
 rintro⟨k,vs⟩ hk;dsimp only at hk⊢
 by_cases c1:k<256
 ·try refine GA ?_
  refine a8 I λg8=>?_;refine zL ?_;rw[abw,<-agU R k]
  repeat(first|refine GA ?_|refine gV (aC aL.ty I (aI (i:=0) I I)) ?_)
  refine d_ (ι:=Nat) (λj=>j<=R.length) (λj=>[(1,aK (aj ⟨g1,0,ak⟩)),(2,aK (aj ⟨g2,0,ak⟩)),(5,aK (aj ⟨g5,0,ak⟩)),(6,.map (aj g6)),(7,az aB (k:Int)),(8,aK (aj ⟨g8,0,ak⟩)),(30,az aB (k:Int)),(34,av (aj ⟨b,off,ak⟩) R.length cr),(35,az aB (R.length:Int)),(36,az aB (j:Int))])
   (λj=>[aR g1 (jc (av (aj ⟨b,off,ak⟩) R.length cr) (av (aj ⟨bb,ma,ak⟩) tags.length ct)).cells 137,aR g2 (ey (eC 256 0) (av ak 0 0) (av ak 0 0)).toArray 30,fE 26 y9 gN R.length vs,a_ 3 1 vT tags.length (tags.flatMap cL.eJ),aR g5 (ey (wM R k) (av (aj ⟨gN,0,ak⟩) R.length R.length) vT).toArray 30,fv Ns g6 (lp (nM R k)) (nM R k).length,WB R.length (nM R k) vs,aR g8 (yT (G8 R k j)).toArray 216]) (λj=>R.length-j) 0 (bH _) ?_
  intro j hj
  by_cases c2:j<R.length
  ·have Rw:=λ(L:List b9)=>gd (W:=w) (L:=L) dC hr c2
   have hcell:(e8 R[j]).toArray[0+k]?=aj (.int .i16 (fZ R j k)):=by rw[cX,oE,pZ _ c1,sf c2 c1]
   have rB:=abv R k j J;generalize R[j]=r at*;generalize fZ R j k=x at*
   repeat(first|refine GA ?_|refine gV (aZ bQ.eq aL.ty I I c2) ?_|refine gV (aY aL.ty I (dC r) (Rw _)) ?_)
   refine a8 I λg10=>?_;refine zL ?_
   try refine GA ?_
   refine aW (i:=8) (cs':=(e8 r).toArray) I I I (by rw[eM,dC]) (by simpa using r7 r) (by kernel_rfl) ?_;refine zL ?_
   repeat(first|refine GA ?_|refine gV (hZ bQ.eq aL.ty I I c1) ?_|refine gV (aC aL.ty I (aI (i:=8) I hcell)) ?_|refine gV (hZ bQ.eq aL.ty I I J) ?_)
   refine N3 (i:=7) (b:=j) I I I J ?_;rw[rB];refine zL ?_
   try refine GA ?_
   refine dv [0,1,2,3,4,5,6,7] ?_;exact bW (j+1) J (by show R.length-(j+1)<R.length-j;omega)
  obtain rfl:j=R.length:=by omega
  rw[show G8 R k R.length=sg R k from I];have kV:=aec ad3 c1;have hnk:=agV (R:=R) c1;have abH:=Uh R c1;have KJ:=aed R k c1;have UM:=Dw R k;have hzero:∀w:World,(zeroValue 3).run aE w= .ok (az aB 0) w:=aaE
  by_cases c2:sg R k∈nM R k
  ·have hD:=Ue c2
   rw[if_pos c2]at hnk;generalize sg R k=col at*
   repeat(first|refine GA ?_|refine gV (aP (i:=7) aL.ty I I (by rw[eM,r_])) ?_|refine gV (vj (K:=Ns) (x:=col) bQ.eq hzero (i:=5) I I I kV c2) ?_)
   have hwr:=aa4 (k:=idx (nM R k) col) (by rw[<-hnk];exact abH);rw[hnk]at KJ;clear hnk abH ad3;generalize nM R k=D at*
   repeat(first|refine GA ?_|refine gV (jk bQ.eq bQ.eq I hwr) ?_|refine gV (hZ bQ.eq aL.ty I I c1) ?_)
   refine FV (i:=4) (b:=k) I I I c1 ?_;rw[KJ];refine zL ?_
   try refine GA ?_
   refine dv [0,1,2,3,4,5,6] ?_;exact bW (k+1,vs) (by show k+1<=256;omega) (by show 256-(k+1)<256-k;omega) (hl:=by dsimp only;rw[hD];rfl)
  have hD:=Uf c2;rw[if_neg c2]at hnk;have hcg:=λi hi=>FR R k i hi hle;have hwr:=aa4 (k:=(nM R k).length) J;rw[hnk]at KJ;clear hnk abH;generalize sg R k=col at*;generalize hDk:nM R k=D at*
  repeat(first|refine GC ?_|refine gV (aP (i:=7) aL.ty I I (by rw[eM,r_])) ?_|refine gV (vm (K:=Ns) (x:=col) bQ.eq hzero (i:=5) I I I kV c2) ?_|refine gV (w6 Ns bQ.eq (i:=5) I I) ?_|refine GB ?_)
  refine Bi (K:=Ns) (i:=5) (x:=col) bQ.eq I I I I kV c2 J ?_;refine zL ?_
  repeat(first|refine GA ?_|refine gV (aC aL.ty I (aI (i:=0) I I)) ?_)
  refine tW [0,1,2,3,4,5,6] ?_;rw[<-ajc R.length D col vs];refine d_ (ι:=Nat×(Nat->Value)) (λ(j,_)=>j<=R.length) (λ(j,_)=>[(1,aK (aj ⟨g1,0,ak⟩)),(2,aK (aj ⟨g2,0,ak⟩)),(5,aK (aj ⟨g5,0,ak⟩)),(6,.map (aj g6)),(7,az aB (k:Int)),(11,az aB (D.length:Int)),(30,az aB (k:Int)),(61,av (aj ⟨b,off,ak⟩) R.length cr),(62,az aB (R.length:Int)),(63,az aB (j:Int))])
   (λ(j,vs)=>[aR g1 (jc (av (aj ⟨b,off,ak⟩) R.length cr) (av (aj ⟨bb,ma,ak⟩) tags.length ct)).cells 137,aR g2 (ey (eC 256 0) (av ak 0 0) (av ak 0 0)).toArray 30,fE 26 y9 gN R.length vs,a_ 3 1 vT tags.length (tags.flatMap cL.eJ),aR g5 (ey (wM R k) (av (aj ⟨gN,0,ak⟩) R.length R.length) vT).toArray 30,fv Ns g6 (lp (D++[col])) (D++[col]).length,nxM R.length D col j vs]) (λ(j,_)=>R.length-j) (0,vs) (bH _) ?_
  rintro⟨j,vs⟩ hj;dsimp only at hj⊢
  by_cases c3:j<R.length
  ·have Rw:=λ(L:List b9)=>gd (W:=w) (L:=L) dC hr c3
   have hcell:(e8 R[j]).toArray[0+k]?=aj (.int .i16 (fZ R j k)):=by rw[cX,oE,pZ _ c1,sf c3 c1]
   have hx:=ad3 R[j] (cH c3) (fZ R j k) (by rw[sf c3 c1,<-BH (h:=by simpa using c1)];exact cH _);have hcj:=hcg j c3;clear hcg;generalize R[j]=r at*;generalize fZ R j k=x at*
   repeat(first|refine GA ?_|refine gV (aZ bQ.eq aL.ty I I c3) ?_|refine gV (aY aL.ty I (dC r) (Rw _)) ?_)
   refine a8 I λg14=>?_;refine zL ?_
   try refine GA ?_
   refine aW (i:=7) (cs':=(e8 r).toArray) I I I (by rw[eM,dC]) (by simpa using r7 r) (by kernel_rfl) ?_;refine zL ?_
   try refine GA ?_
   unfold nxM;refine P' (q:=6) j I c3 ?_;rw[if_neg (Nat.lt_irrefl j)]
   conv=>arg 7;simp only[zA,zB,zC,zD,zE,zF,zG,zH,zI,cD,ret,id_eq]
   (repeat refine cB ?_)
   refine dH ([aR g1 (jc (av (aj ⟨b,off,ak⟩) R.length cr) (av (aj ⟨bb,ma,ak⟩) tags.length ct)).cells 137,aR g5 (ey (wM R k) (av (aj ⟨gN,0,ak⟩) R.length R.length) vT).toArray 30,aR g14 (e8 r).toArray 210]) (.calm 0 (.calm 1 (.calm 2 (.calm 3 (.calm 4 (.calm 5 (.calm 6 (.calm 8 (.calm 9 (.calm 10 (.calm 11 (.two 7 (.one 12 (.one 13 (.calm 14 (.one 15 (.done))))) 12 (.one 7 (.one 13 (.calm 14 (.one 15 (.done))))))))))))))))) (bV [0,4,7]) ?_
   repeat(first|refine GW ?_|(refine GN ?_;first|refine QW (aC aL.ty I (aI (i:=1) I (lG _ _ _))) ?_|refine QW (bY (j:=j) bQ.eq aL.ty I I c3) ?_|refine QW (hZ bQ.eq aL.ty I I c1) ?_|refine QW (aC aL.ty I (aI (i:=2) I hcell)) ?_|refine QW (jk bQ.eq bQ.eq I (nO J J)) ?_))
   have hnj:AP (D++[col]) j=AP D j++[x]:=by unfold AP;rw[eZ,List.map_singleton,hcj]
   have hst:∀v2:Value,∀i,i<R.length->(λi=>if i=j then v2 else vs i) i=if i=j then v2 else vs i:=λ_ _ _=>rfl
   refine eN I I ?_ ?_
   ·refine dm (aC aL.ty I (gI (i:=2) I c3)) I I I (aO (bV [0,4,7]) ?_)
    refine aM I (fO I I I I I λg80=>aO (bV [0,4,7]) ?_);refine aM I (lZ (i:=8) (q:=9) I I I I I I J J I λv2=>aO (bV [0,4,7]) ?_)
    repeat(first|refine GW ?_|(refine GN ?_;first|refine QW (bY (j:=j) bQ.eq aL.ty I I c3) ?_))
    refine aM I (aX (i:=8) I λo9 mJ=>ji (i:=2) (val:=y9) (off:=j) (v:=v2) (λi=>if i=j then v2 else vs i) aL.ty I I I o9 mJ c3 (hst v2) (aO (bV [0,4,7]) ?_))
    try refine GW ?_
    try refine GA ?_
    refine S7 j 6 8 [0,1,2,3,4,5] aln I I I (λh=>h.2 I) (D':=λi=>i<R.length) (f':=λi=>a_ 3 1 ((λi=>if i=j then v2 else vs i) i) (if i<j+1 then D++[col]else D).length ((AP (if i<j+1 then D++[col]else D) i).flatMap cL.eJ)) (λq hq=>(by by_cases e:q=j;exact .inr e;exact .inl ⟨hq,e⟩)) (λq hq=>?_) ?_;exact abF hnj q;exact bW (j+1,λi=>if i=j then v2 else vs i) (by show j+1<=R.length;omega) (by show R.length-(j+1)<R.length-j;omega)
   refine fO I I I I I λg80=>aO (bV [0,4,7]) ?_;refine aM I (dm (aC aL.ty I (gI (i:=2) I c3)) I I I (aO (bV [0,4,7]) ?_));refine aM I (lZ (i:=8) (q:=9) I I I I I I J J I λv2=>aO (bV [0,4,7]) ?_)
   repeat(first|refine GW ?_|(refine GN ?_;first|refine QW (bY (j:=j) bQ.eq aL.ty I I c3) ?_))
   refine aM I (aX (i:=8) I λo9 mJ=>ji (i:=2) (val:=y9) (off:=j) (v:=v2) (λi=>if i=j then v2 else vs i) aL.ty I I I o9 mJ c3 (hst v2) (aO (bV [0,4,7]) ?_))
   try refine GW ?_
   try refine GA ?_
   refine S7 j 6 8 [0,1,2,3,4,5] aln I I I (λh=>h.2 I) (D':=λi=>i<R.length) (f':=λi=>a_ 3 1 ((λi=>if i=j then v2 else vs i) i) (if i<j+1 then D++[col]else D).length ((AP (if i<j+1 then D++[col]else D) i).flatMap cL.eJ)) (λq hq=>(by by_cases e:q=j;exact .inr e;exact .inl ⟨hq,e⟩)) (λq hq=>?_) ?_;exact abF hnj q;exact bW (j+1,λi=>if i=j then v2 else vs i) (by show j+1<=R.length;omega) (by show R.length-(j+1)<R.length-j;omega)
  obtain rfl:j=R.length:=by omega
  refine SV (WB R.length (D++[col]) vs) (i:=6) I (Bj (λ_ h=>h) (Uj _ _ _ _)) (Eu (λ_ h=>h) (Uj _ _ _ _)) ?_
  conv=>arg 7;simp only[zA,zB,zC,zD,zE,zF,zG,zH,zI,cD,ret,id_eq]
  repeat(first|refine GA ?_|refine gV (jk bQ.eq bQ.eq I hwr) ?_|refine gV (hZ bQ.eq aL.ty I I c1) ?_)
  refine FV (i:=4) (b:=k) I I I c1 ?_;rw[KJ];refine zL ?_
  try refine GA ?_
  exact bW (k+1,vs) (by show k+1<=256;omega) (by show 256-(k+1)<256-k;omega) (hl:=by dsimp only;rw[hD])
 ·obtain rfl:k=256:=by omega
  repeat(first|refine GA ?_|refine gV (aP (i:=4) aL.ty I I (il _ _ _)) ?_)
  refine aX (i:=3) I λo9 mJ=>?_;refine aW (i:=1) (cs':=(ey (wM R 256) (av (aj ⟨gN,0,ak⟩) R.length R.length) vT).toArray) I I I (il _ _ _) (y6 _ I mJ) (il _ _ _) ?_;refine zL ?_
  try refine GA ?_
  refine dT (i:=1) I I I (il _ _ _) I λw hm=>?_;exact hm.meets (S:=abG R tags) (gN,vs,vT) trivial [2,6,3] aln I
structure PkM(w:World)(vn vt:Value)(N:List (List Int))(tags:List Int):Prop where
 ex:∃(b off cap:Nat) (vs:Nat->Value),vn=av (aj ⟨b,off,ak⟩) N.length cap/\∀i (h:i<N.length),w.cell? ⟨b,off+i,ak⟩=aj (vs i)/\Sl w (vs i) N[i].length (N[i].flatMap cL.eJ)
 hT:Sl w vt tags.length (tags.flatMap cL.eJ)
structure abI(o:Of)(N:List (List Int))(tags:List Int)(wide:Nat):Prop where
 pos:0<N.length
 le:N.length<=200
 len:tags.length=N.length
 w0:0<wide
 w1:wide<=256
 row:∀i (h:i<N.length),N[i].length=wide
 tag:∀i (h:i<tags.length),-1<=tags[i]/\tags[i]<20
 rng:∀i (h:i<N.length),∀j (h':j<N[i].length),-1<=N[i][j]/\N[i][j]<N.length
 of:∀b (h:b<256),o[b]<wide
theorem PkM.gr{w w':World}{vn vt:Value}{N:List (List Int)}{tags:List Int}(h:PkM w vn vt N tags)(hg:Gr w w'):PkM w' vn vt N tags:=by
 obtain⟨b,off,cap,vs,h1,h2⟩:=h.ex;refine⟨⟨b,off,cap,vs,h1,λi hi=>⟨?_,(h2 i hi).2.gr hg⟩⟩,h.hT.gr hg⟩;rw[hg.cell (og w _ (h2 i hi).1)];exact(h2 i hi).1
def ofC(o:Of):List Value:=o.toList.map λn:Nat=> .int .u8 (n:Int)
theorem aeg(o:Of):(ofC o).length=256:=by simp[ofC]
theorem aeh(o:Of){b:Nat}(h:b<256):(ofC o).toArray[b]?=aj (.int .u8 (o[b]:Int)):=by
 simp_all[ofC]
theorem agY(o:Of)(vn vt:Value){j:Nat}{v:Value}(h:(ofC o)[j]?=aj v):(ey o vn vt).toArray[0+j]?=aj v:=by
 have hj:j<(ofC o).length:=(dX.1 h).1;rw[cX,oE];show(ofC o++[vn,vt])[j]?=_
 grind
def unR(o:Of)(N:List (List Int)):List Row:=N.map λl=>rf λb:Fin 256=>l.getD o[b] 0
theorem Uk(o:Of)(N:List (List Int)):(unR o N).length=N.length:=eI ..
structure RW(w:World)(vn vt:Value)(N:List (List Int))(tags:List Int):Prop where
 hN:kw (bR fP) (qo w) w vn N
 hT:Sl w vt tags.length (tags.flatMap cL.eJ)
theorem RW.gr{w w':World}{vn vt:Value}{N:List (List Int)}{tags:List Int}(h:RW w vn vt N tags)(hg:Gr w w'):RW w' vn vt N tags:=⟨tc h.hN hg,h.hT.gr hg⟩
abbrev ko(o:Of)(N:List (List Int))(tags:List Int):Prop:=abI o N tags (N.headD []).length
open Classical in
noncomputable def qe(o:Of)(N:List (List Int))(tags:List Int):Int:=if 200<N.length then 2 else if ko o N tags then 0 else 1
def N4(N:List (List Int))(tags:List Int)(wide i:Nat):Prop:=(N.getD i []).length=wide/\ -1<=tags.getD i 0/\tags.getD i 0<20/\∀x∈N.getD i [],-1<=x/\x<N.length
theorem aei{o:Of}{N:List (List Int)}{tags:List Int}{wide:Nat}(h:abI o N tags wide){i:Nat}(hi:i<N.length):N4 N tags wide i:=by
 have hit:i<tags.length:=by rw[h.len];exact hi
 unfold N4;rw[de,bM hi,de,bM hit];refine⟨h.row i hi,(h.tag i hit).1,(h.tag i hit).2,λx hx=>?_⟩;obtain⟨j,hj,rfl⟩:=iC.1 hx;exact h.rng i hi j hj
theorem aej{o:Of}{N:List (List Int)}{tags:List Int}{wide:Nat}(h0:0<N.length)(h1:N.length<=200)(h2:tags.length=N.length)(h3:0<wide)(h4:wide<=256)(h5:∀i,i<N.length->N4 N tags wide i)(h6:∀b (h:b<256),o[b]<wide):abI o N tags wide:=by
 have g:∀i (hi:i<N.length),N.getD i []=N[i]:=λi hi=>by rw[de,bM hi];rfl
 have gt:∀i (hi:i<tags.length),tags.getD i 0=tags[i]:=λi hi=>by rw[de,bM hi];rfl
 refine⟨h0,h1,h2,h3,h4,λi hi=>?_,λi hi=>?_,λi hi j hj=>?_,h6⟩;have:=(h5 i hi).1;rwa [g i hi]at this;have:=h5 i J;unfold N4 at this;rw[gt i hi]at this;exact⟨this.2.1,this.2.2.1⟩;have:=(h5 i hi).2.2.2;rw[g i hi]at this;exact this _ (cH hj)
theorem agZ{o:Of}{N:List (List Int)}{tags:List Int}(h:200<N.length):qe o N tags=2:=if_pos h
theorem ag0{o:Of}{N:List (List Int)}{tags:List Int}(h:¬200<N.length)(hg:¬ko o N tags):qe o N tags=1:=by unfold qe;rw[if_neg h,if_neg hg]
theorem RX{o:Of}{N:List (List Int)}{tags:List Int}(hg:ko o N tags):qe o N tags=0:=by unfold qe;rw[if_neg (by have:=hg.le;omega),if_pos hg]
theorem pg{o:Of}{N:List (List Int)}{tags:List Int}(h:qe o N tags=0):ko o N tags:=by
 unfold qe at h;split at h
 cases h
 split at h
 assumption
 cases h
theorem wP(o:Of)(vn vt:Value)(N:List (List Int))(tags:List Int)(w:World)(h:RW w vn vt N tags)(ho:∀b (h:b<256),o[b]<256):
 Calls aE 53 #[C3 o vn vt] w (bX (ret (az aB (qe o N tags))) w):=by
 obtain⟨⟨an,cn,rfl,hn1,UP,hn3⟩,at',ct,rfl,ht1,OR,GI⟩:=h;unfold maxLen at UP OR;have hE1:=λh hg=>ag0 (o:=o) (N:=N) (tags:=tags) h hg;have hE2:=λh=>agZ (o:=o) (N:=N) (tags:=tags) h;have hE0:=λh=>RX (o:=o) (N:=N) (tags:=tags) h;generalize qe o N tags=e at*;refine enter (args:=[C3 o (av an N.length cn) (av at' tags.length ct)]) (n:=92) Tryz.func53 I I I ?_;refine cB (bD (bL I I I λg1=>?_))
 by_cases c1:200<N.length
 ·rw[hE2 c1]
  repeat(first|refine GC ?_|refine gV (aC aL.ty I (aI (i:=0) I (lG _ _ _))) ?_|refine gV (dW (b:=aD) I I (decide_eq_true J)) ?_|refine GB ?_)
  exact dG I I I
 by_cases c2:N.length=0
 ·rw[hE1 c1 (λh=>by have:=h.pos;omega)]
  repeat(first|refine GC ?_|refine gV (aC aL.ty I (aI (i:=0) I (lG _ _ _))) ?_|refine gV (dW (b:=aF) I I (decide_eq_false J)) ?_|refine gV (cY (b:=aD) I I (decide_eq_true J)) ?_|refine GB ?_)
  exact dG I I I
 by_cases c3:tags.length=N.length
 case neg=>
  rw[hE1 c1 (λh=>c3 h.len)]
  repeat(first|refine GC ?_|refine gV (aC aL.ty I (aI (i:=0) I (lG _ _ _))) ?_|refine gV (aC aL.ty I (aI (i:=0) I (mb _ _ _))) ?_|refine gV (dW (b:=aF) I I (decide_eq_false J)) ?_|refine gV (cY (b:=aF) I I (decide_eq_false J)) ?_|refine gV (dc (b:=aD) I I (decide_eq_true J)) ?_|refine GB ?_)
  exact dG I I I
 obtain⟨bn,BR,rfl,_,Hm⟩:=hn3 J;obtain⟨bt,y_,rfl,htd⟩:=GI J;clear hn3 GI;obtain⟨u0,⟨a0,c0,rfl,-⟩,hd0⟩:=yM Hm (show 0<N.length by omega);have agQ:=λ(L:List b9)=>iP (L:=L) hd0 (j:=0) (v:=av a0 (N[0]' J).length c0) I;have hw:(N.headD []).length=(N[0]' J).length:=by cases N with
  |nil=>simp at c2
  |cons x r=>rfl
 have vh:ko o N tags↔abI o N tags (N[0]' J).length:=by unfold ko;rw[hw]
 clear hd0 hw;generalize (N[0]' J).length=wide at*
 repeat(first|refine GC ?_|refine gV (aC aL.ty I (aI (i:=0) I (lG _ _ _))) ?_|refine gV (aC aL.ty I (aI (i:=0) I (mb _ _ _))) ?_|refine gV (dW (b:=aF) I I (decide_eq_false J)) ?_|refine gV (cY (b:=aF) I I (decide_eq_false J)) ?_|refine gV (dc (b:=aF) I I (decide_eq_false J)) ?_|refine gV (aZ (j:=0) bQ.eq aL.ty I I J) ?_|refine gV (aC (v:=av a0 wide c0) aL.ty I (agQ _)) ?_|refine GB ?_)
 by_cases c4:wide=0
 ·rw[hE1 c1 (λh=>by have:=(vh.1 h).w0;omega)]
  repeat(first|refine GC ?_|refine gV (cY (b:=aD) I I (decide_eq_true J)) ?_|refine GB ?_)
  exact dG I I I
 by_cases c5:256<wide
 ·rw[hE1 c1 (λh=>by have:=(vh.1 h).w1;omega)]
  repeat(first|refine GC ?_|refine gV (cY (b:=aF) I I (decide_eq_false J)) ?_|refine gV (dW (b:=aD) I I (decide_eq_true J)) ?_|refine GB ?_)
  exact dG I I I
 repeat(first|refine GC ?_|refine gV (cY (b:=aF) I I (decide_eq_false J)) ?_|refine gV (dW (b:=aF) I I (decide_eq_false J)) ?_|refine GB ?_)
 refine d_ (ι:=Nat) (λi=>i<=N.length/\∀j,j<i->N4 N tags wide j) (λi=>[(1,aK (aj ⟨g1,0,ak⟩)),(3,az aB (N.length:Int)),(4,az aB (wide:Int)),(35,az aB (N.length:Int)),(36,az aB (i:Int))])
  (λ_=>[aR g1 (ey o (av (aj ⟨bn,BR,ak⟩) N.length cn) (av (aj ⟨bt,y_,ak⟩) tags.length ct)).toArray 30]) (λi=>N.length-i) 0 ⟨bH _,λj h=>by omega⟩ ?_
 rintro i ⟨hi,hgi⟩
 by_cases q1:i<N.length
 ·have hit:i<tags.length:=by omega
  obtain⟨u,⟨au,cu,rfl,hcu,hmu,JX⟩,hdu⟩:=yM Hm q1;unfold maxLen at hmu;have FW:=λ(L:List b9)=>iP (L:=L) hdu (j:=0) (v:= .slice au N[i].length cu) I;have G5:=λ(L:List b9)=>gd (L:=L) jp htd hit 0 _ I;have hG:N4 N tags wide i↔(N[i].length=wide/\ -1<=tags[i]/\tags[i]<20/\∀x∈N[i],-1<=x/\x<N.length):=by
   unfold N4;rw[de,bM q1,de,bM hit];rfl
  have nW:¬N4 N tags wide i->e=1:=λhg=>hE1 c1 λh=>hg (aei (vh.1 h) q1);clear hdu hE1 hE2;generalize tags[i]=tg at*;generalize N[i]=l at*
  by_cases r1:l.length=wide
  case neg=>
   rw[nW (λh=>r1 (hG.1 h).1)]
   repeat(first|refine GC ?_|refine gV (aC aL.ty I (aI (i:=0) I (lG _ _ _))) ?_|refine gV (aC aL.ty I (aI (i:=0) I (mb _ _ _))) ?_|refine gV (aZ (j:=i) bQ.eq aL.ty I I q1) ?_|refine gV (aC (v:=av au l.length cu) aL.ty I (FW _)) ?_|refine gV (dc (b:=aD) I I (decide_eq_true J)) ?_|refine GB ?_)
   exact dG I I I
  by_cases r2:tg< -1
  ·rw[nW (λh=>by have:=(hG.1 h).2.1;omega)]
   repeat(first|refine GC ?_|refine gV (aC aL.ty I (aI (i:=0) I (lG _ _ _))) ?_|refine gV (aC aL.ty I (aI (i:=0) I (mb _ _ _))) ?_|refine gV (aZ (j:=i) bQ.eq aL.ty I I q1) ?_|refine gV (aC (v:=av au l.length cu) aL.ty I (FW _)) ?_|refine gV (dc (b:=aF) I I (decide_eq_false J)) ?_|refine gV (aZ (j:=i) bQ.eq aL.ty I I hit) ?_|refine gV (aC (v:=az aB tg) aL.ty I (G5 _)) ?_|refine gV (ez (b:=aD) I I (decide_eq_true r2)) ?_|refine GB ?_)
   exact dG I I I
  by_cases r3:20<=tg
  ·rw[nW (λh=>by have:=(hG.1 h).2.2.1;omega)]
   repeat(first|refine GC ?_|refine gV (aC aL.ty I (aI (i:=0) I (lG _ _ _))) ?_|refine gV (aC aL.ty I (aI (i:=0) I (mb _ _ _))) ?_|refine gV (aZ (j:=i) bQ.eq aL.ty I I q1) ?_|refine gV (aC (v:=av au l.length cu) aL.ty I (FW _)) ?_|refine gV (dc (b:=aF) I I (decide_eq_false J)) ?_|refine gV (aZ (j:=i) bQ.eq aL.ty I I hit) ?_|refine gV (aC (v:=az aB tg) aL.ty I (G5 _)) ?_|refine gV (ez (b:=aF) I I (decide_eq_false r2)) ?_|refine gV (fu (b:=aD) I I (decide_eq_true r3)) ?_|refine GB ?_)
   exact dG I I I
  repeat(first|refine GC ?_|refine gV (aC aL.ty I (aI (i:=0) I (lG _ _ _))) ?_|refine gV (aC aL.ty I (aI (i:=0) I (mb _ _ _))) ?_|refine gV (aZ (j:=i) bQ.eq aL.ty I I q1) ?_|refine gV (aC (v:=av au l.length cu) aL.ty I (FW _)) ?_|refine gV (dc (b:=aF) I I (decide_eq_false J)) ?_|refine gV (aZ (j:=i) bQ.eq aL.ty I I hit) ?_|refine gV (aC (v:=az aB tg) aL.ty I (G5 _)) ?_|refine gV (ez (b:=aF) I I (decide_eq_false r2)) ?_|refine gV (fu (b:=aF) I I (decide_eq_false r3)) ?_|refine GB ?_)
  refine d_ (ι:=Nat) (λj=>j<=l.length/\∀x∈l.take j,-1<=x/\x<N.length) (λj=>[(1,aK (aj ⟨g1,0,ak⟩)),(3,az aB (N.length:Int)),(4,az aB (wide:Int)),(35,az aB (N.length:Int)),(36,az aB (i:Int)),(67,av au l.length cu),(68,az aB (l.length:Int)),(69,az aB (j:Int))])
   (λ_=>[aR g1 (ey o (av (aj ⟨bn,BR,ak⟩) N.length cn) (av (aj ⟨bt,y_,ak⟩) tags.length ct)).toArray 30]) (λj=>l.length-j) 0 ⟨bH _,λx h=>by simp at h⟩ ?_
  rintro j ⟨hj,hgj⟩
  by_cases s1:j<l.length
  ·obtain⟨bu,WC,rfl,eR⟩:=JX J
   have BS:=λ(L:List b9)=>gd (L:=L) jp eR s1 0 _ I;have hxm:=cH s1;have oB:=gv s1;clear eR;generalize l[j]=x at*
   by_cases t1:x< -1
   ·rw[nW (λh=>by have:=((hG.1 h).2.2.2 x hxm).1;omega)]
    repeat(first|refine GC ?_|refine gV (aZ (j:=j) bQ.eq aL.ty I I s1) ?_|refine gV (aC (v:=az aB x) aL.ty I (BS _)) ?_|refine gV (ez (b:=aD) I I (decide_eq_true t1)) ?_|refine GB ?_)
    exact dG I I I
   by_cases t2:(N.length:Int)<=x
   ·rw[nW (λh=>by have:=((hG.1 h).2.2.2 x hxm).2;omega)]
    repeat(first|refine GC ?_|refine gV (aZ (j:=j) bQ.eq aL.ty I I s1) ?_|refine gV (aC (v:=az aB x) aL.ty I (BS _)) ?_|refine gV (ez (b:=aF) I I (decide_eq_false t1)) ?_|refine gV (fu (b:=aD) I I (decide_eq_true t2)) ?_|refine GB ?_)
    exact dG I I I
   repeat(first|refine GC ?_|refine gV (aZ (j:=j) bQ.eq aL.ty I I s1) ?_|refine gV (aC (v:=az aB x) aL.ty I (BS _)) ?_|refine gV (ez (b:=aF) I I (decide_eq_false t1)) ?_|refine gV (fu (b:=aF) I I (decide_eq_false t2)) ?_|refine GB ?_)
   exact iW (j+1) ⟨by omega,λy hy=>by
    rw[oB,gj,eV]at hy;rcases hy with hy|rfl
    exact hgj y hy;omega⟩ (by show l.length-(j+1)<l.length-j;omega) (by repeat' (first|exact cV|refine cP I ?_)) I
  rw[List.take_of_length_le J]at hgj
  try refine GA ?_
  exact iW (i+1) ⟨by omega,λj hj2=>by
   by_cases e:j=i
   subst e;exact hG.2 ⟨r1,by omega,by omega,hgj⟩;exact hgi j J⟩ (by show N.length-(i+1)<N.length-i;omega) (by repeat' (first|exact cV|refine cP I ?_)) I
 ·repeat(first|refine GA ?_|refine gV (aY (cs:=ofC o) aL.ty I (aeg o) (λj v hj=>aI (i:=0) I (agY _ _ _ hj))) ?_)
  refine d_ (ι:=Nat) (λj=>j<=256/\∀b (h:b<256),b<j->o[b]<wide) (λj=>[(4,az aB (wide:Int)),(83,aQ (ofC o).toArray),(84,az aB (j:Int))]) (λ_=>[aR g1 (ey o (av (aj ⟨bn,BR,ak⟩) N.length cn) (av (aj ⟨bt,y_,ak⟩) tags.length ct)).toArray 30]) (λj=>256-j) 0 ⟨bH _,λb _ h=>by omega⟩ ?_;rintro j ⟨hj,SA⟩
  by_cases s1:j<256
  ·have hcell:=aeh o s1
   have hz:=ho j s1;have nW:¬o[j]<wide->e=1:=λhg=>hE1 c1 λh=>hg ((vh.1 h).of j s1);have tZ:o[j]<wide->∀b (h:b<256),b<j+1->o[b]<wide:=λhw b h hb=>by
    by_cases e:b=j
    subst e;exact hw;exact SA b h J
   clear hE1 hE2;generalize o[j]=z at*
   by_cases t1:z<wide
   ·repeat(first|refine GC ?_|refine gV (jQ bQ.eq aL.ty I I s1 hcell) ?_|refine gV (jk bQ.eq bQ.eq I (nO J J)) ?_|refine gV (fu (b:=aF) I I (decide_eq_false J)) ?_|refine GB ?_)
    exact bW (j+1) ⟨by omega,tZ t1⟩ (by show 256-(j+1)<256-j;omega)
   rw[nW t1]
   repeat(first|refine GC ?_|refine gV (jQ bQ.eq aL.ty I I s1 hcell) ?_|refine gV (jk bQ.eq bQ.eq I (nO J J)) ?_|refine gV (fu (b:=aD) I I (decide_eq_true J)) ?_|refine GB ?_)
   exact dG I I I
  rw[hE0 (vh.2 (aej J J c3 J J (λi h=>hgi i J) λb h=>SA b h J))]
  try refine GA ?_
  exact dG I I I
open dh gu fY aV
structure Md where
 of:List Int
 o:Of
 N:List (List Int)
 tags:List Int
 g:ep
 mode:Int
 rows:List (List Int)
 A:List (List bI.Act)
 G:List (List Int)
structure xS(w:World)(v:Value)(m:Md)(vo vn vt vp vr va vg:Value):Prop where
 val:v=aQ (gZ vo (ey m.o vn vt) (eD m.g.aT m.g.bx vp m.mode vr va vg)).toArray
 of:Sl w vo m.of.length (m.of.flatMap cL.eJ)
 pk:RW w vn vt m.N m.tags
 xz:kK (λk=>k<w.heap.size) w (dP m.g.aT m.g.bx vp) m.g
 rows:Al w vr m.rows
 ox:BM w (aQ #[va,vg]) m.A m.G
structure MdGood(m:Md):Prop where
 byte:∀b (h:b<256),m.o[b]<256
 lI:qe m.o m.N m.tags=0
 xz:cC m.g=0
 some:0<m.of.length
 ri:m.of.length<=20
 ofs:∀t∈m.of,-1<=t/\t<m.g.aT
 tag:∀t∈m.tags,t<(m.of.length:Int)
 mode:(m.mode=1/\Fy m.g m.rows=0)\/(m.mode=2/\∃T N,sb m.g T N m.A m.G)
theorem FX{vo:Value}{pk tl:List Value}(hp:pk.length=258){j:Nat}{v:Value}(h:pk[j]?=aj v):(gZ vo pk tl).toArray[0+1+j]?=aj v:=by
 rw[oE,gZ,show 0+1+j=j+1 by omega,List.getElem?_cons_succ,mg (dX.1 h).1];exact h
theorem ag1{vo:Value}{pk:List Value}(hp:pk.length=258){a b c d e f f' v:Value}{j:Nat}(h:[f,f'][j]?=aj v):(gZ vo pk [a,b,c,d,e,f,f']).toArray[0+264+j]?=aj v:=by
 match j,h with
 |0,h=>exact im 5 hp h I
 |1,h=>exact im 6 hp h I
 |n+2,h=>cases h
theorem KM(x:Int):(cL.eJ x).length=1:=rfl
set_option maxRecDepth 100000 in
theorem As(v:Value)(m:Md)(w:World){vo vn vt vp vr va vg:Value}(h:xS w v m vo vn vt vp vr va vg)(hg:MdGood m):
 Calls aE 25 #[v] w (bX (ret (az aB 0)) w):=by
 have iH:=λw' (hw:Gr w w')=>wP m.o vn vt m.N m.tags w' (h.pk.gr hw) hg.byte;rw[hg.lI]at iH;have hcg:=λw' (hw:Gr w w')=>ke (dP m.g.aT m.g.bx vp) m.g w' (h.xz.gr hw);rw[hg.xz]at hcg;have Pt:=λw' (hw:Gr w w')=>xO (dP m.g.aT m.g.bx vp) vr m.g m.rows w' (h.xz.gr hw) (tc h.rows hw);have LD:=λT N hT w' (hw:Gr w w')=>xP (dP m.g.aT m.g.bx vp) (aQ #[va,vg]) m.g T N m.A m.G hT w' (h.xz.gr hw) (h.ox.gr hw);have MA:=h.of;have htg:=h.pk.hT;have hv:=h.val;obtain⟨b1,b2,b3,b4,b5,b6,b7,b8⟩:=hg;clear h b1 b2 b3;have dE:(ey m.o vn vt).length=258:=fh _ _ _;have hpt:(ey m.o vn vt)[257]?=aj vt:=by have:=mb m.o vn vt;simpa using this
 obtain⟨of,o,N,tags,g,mode,rows,A,G⟩:=m;dsimp only at*;rw[show C3 o vn vt=aQ (ey o vn vt).toArray from I]at iH;generalize ey o vn vt=PK at*;obtain⟨a1,c1,rfl,Gw,Y0,Vi⟩:=MA;obtain⟨a2,c2,rfl,Xf,Yf,tV⟩:=htg;unfold maxLen at Y0 Yf;subst hv;refine enter (args:=[aQ (gZ (av a1 of.length c1) PK (eD g.aT g.bx vp mode vr va vg)).toArray]) (n:=77) Tryz.func25 I I I ?_;refine cB (bD (bL I I I λg1=>?_));refine zL ?_
 repeat(first|refine GA ?_|refine gV (aY (cs:=PK) aL.ty I dE (λj v h=>aI (i:=0) I (FX dE h))) ?_)
 refine aU (ja aJ.en I I) (λw hm=>iH _ hm.below) I I I ?_;intro _ _;refine zL ?_
 repeat(first|refine GC ?_|refine gV (dc (b:=aF) I I (decide_eq_false (by simp))) ?_|refine gV (aY (cs:=[az aB g.aT,az aB g.bx,vp]) aL.ty I I (λj v h=>aI (i:=0) I (tC dE h))) ?_|refine GB ?_)
 refine aU (ja aJ.en I I) (λw hm=>hcg _ hm.below) I I I ?_;intro _ _;refine zL ?_
 repeat(first|refine GC ?_|refine gV (dc (b:=aF) I I (decide_eq_false (by simp))) ?_|refine gV (aC (v:=av a1 of.length c1) aL.ty I (aI (i:=0) I I)) ?_|refine GB ?_)
 have hz:(1:Nat)<=of.length:=b4;refine d_ (ι:=Nat) (λk=>k<=of.length) (λk=>[(1,aK (aj ⟨g1,0,ak⟩)),(31,av a1 of.length c1),(32,az aB of.length),(33,az aB (k:Int))])
  (λ_=>[aR g1 (gZ (av a1 of.length c1) PK (eD g.aT g.bx vp mode vr va vg)).toArray 38]) (λk=>of.length-k) 0 (bH _) ?_
 intro k k1
 by_cases d1:k<of.length
 ·obtain⟨b,off,rfl,hr⟩:=Vi J
  have dy:=λ(L:List b9)=>gd (L:=L) KM hr d1 0 _ I;obtain⟨y1,y2⟩:=b6 of[k] (cH d1);generalize of[k]=x at*
  repeat(first|refine GA ?_|refine gV (aZ bQ.eq aL.ty I I d1) ?_|refine gV (aC (v:=az aB x) aL.ty I (dy _)) ?_|refine gV (aC (v:=az aB g.aT) aL.ty I (aI (i:=0) I (im 0 dE I I))) ?_)
  exact bW (k+1) J (by show of.length-(k+1)<of.length-k;omega)
 obtain rfl:k=of.length:=by omega
 repeat(first|refine GA ?_|refine gV (aC (v:=av a2 tags.length c2) aL.ty I (aI (i:=0) I (FX dE hpt))) ?_)
 refine d_ (ι:=Nat) (λk=>k<=tags.length) (λk=>[(1,aK (aj ⟨g1,0,ak⟩)),(49,av a2 tags.length c2),(50,az aB tags.length),(51,az aB (k:Int))])
  (λ_=>[aR g1 (gZ (av a1 of.length c1) PK (eD g.aT g.bx vp mode vr va vg)).toArray 38]) (λk=>tags.length-k) 0 (bH _) ?_
 intro k k2
 by_cases d2:k<tags.length
 ·obtain⟨b,off,rfl,hr⟩:=tV J
  have dy:=λ(L:List b9)=>gd (L:=L) KM hr d2 0 _ I;have y1:=b7 tags[k] (cH d2);generalize tags[k]=x at*
  repeat(first|refine GA ?_|refine gV (aZ bQ.eq aL.ty I I d2) ?_|refine gV (aC (v:=az aB x) aL.ty I (dy _)) ?_|refine gV (aC (v:=av a1 of.length c1) aL.ty I (aI (i:=0) I I)) ?_)
  exact bW (k+1) J (by show tags.length-(k+1)<tags.length-k;omega)
 obtain rfl:k=tags.length:=by omega
 rcases b8 with⟨rfl,hc⟩|⟨rfl,T,N',hc⟩
 ·rw[hc]at Pt
  repeat(first|refine GA ?_|refine gV (aC (v:=az aB 1) aL.ty I (aI (i:=0) I (im 3 dE I I))) ?_|refine gV (aY (cs:=[az aB g.aT,az aB g.bx,vp]) aL.ty I I (λj v h=>aI (i:=0) I (tC dE h))) ?_|refine gV (aC (v:=vr) aL.ty I (aI (i:=0) I (im 4 dE I I))) ?_)
  refine aU (fC aJ.en I I I) (λw hm=>Pt _ hm.below) I I I ?_;intro _ _;refine zL ?_
  try refine GA ?_
  exact eB
 ·have LD:=λw' hw=>LD T N' hc w' hw
  repeat(first|refine GA ?_|refine gV (aC (v:=az aB 2) aL.ty I (aI (i:=0) I (im 3 dE I I))) ?_|refine gV (aY (cs:=[az aB g.aT,az aB g.bx,vp]) aL.ty I I (λj v h=>aI (i:=0) I (tC dE h))) ?_|refine gV (aY (cs:=[va,vg]) aL.ty I I (λj v h=>aI (i:=0) I (ag1 dE h))) ?_)
  refine aU (fC aJ.en I I I) (λw hm=>LD _ hm.below) I I I ?_;intro _ _;refine zL ?_
  try refine GA ?_
  exact eB
end bZ
namespace ib
open Go.RowKit cL dQ bZ cz
def uk(o:Of)(N:List (List Int))(now:Int)(b:UInt8):Int:=(N.getD now.toNat []).getD (o.toList.getD b.toNat 0) 0
def iB(o:Of)(N:List (List Int))(tags:List Int):List UInt8->Nat->Int->Int->Nat->Int×Nat
 |[],_,_,r,t=>(r,t)
 | b::s,i,now,r,t=>
  if uk o N now b<0 then(r,t)
  else if 0<=tags.getD (uk o N now b).toNat 0 then iB o N tags s (i+1) (uk o N now b) (tags.getD (uk o N now b).toNat 0) (i+1)
  else iB o N tags s (i+1) (uk o N now b) r t
def kx(o:Of)(N:List (List Int))(tags:List Int)(s:List UInt8)(fr:Nat):Int×Nat:=iB o N tags (s.drop fr) fr 0 0 0
theorem jG(o:Of)(N:List (List Int))(tags:List Int)(b:UInt8)(s:List UInt8)(i:Nat)(now r:Int)(t:Nat):iB o N tags (b::s) i now r t=
 if uk o N now b<0 then(r,t)
 else if 0<=tags.getD (uk o N now b).toNat 0 then iB o N tags s (i+1) (uk o N now b) (tags.getD (uk o N now b).toNat 0) (i+1)
 else iB o N tags s (i+1) (uk o N now b) r t:=rfl
abbrev Tok:=Int×Nat×Nat
def je(o:Of)(N:List (List Int))(tags:List Int)(s:List UInt8):Nat->Nat->List Tok×Nat×Int
 |0,_=>([],0,0)
 |f+1,at'=>if at'<s.length then(if(kx o N tags s at').2=0 then([],at',9)else((((kx o N tags s at').1,at',(kx o N tags s at').2)::(je o N tags s f (kx o N tags s at').2).1),(je o N tags s f (kx o N tags s at').2).2))else([],0,0)
def oX(o:Of)(N:List (List Int))(tags:List Int)(s:List UInt8):List Tok×Nat×Int:=je o N tags s (s.length+1) 0
theorem my(o:Of)(N:List (List Int))(tags:List Int)(s:List UInt8)(f at':Nat):je o N tags s (f+1) at'=if at'<s.length then(if(kx o N tags s at').2=0 then([],at',9)else((((kx o N tags s at').1,at',(kx o N tags s at').2)::(je o N tags s f (kx o N tags s at').2).1),(je o N tags s f (kx o N tags s at').2).2))else([],0,0):=rfl
theorem Au(o:Of)(N:List (List Int))(tags:List Int):∀(s:List UInt8) (i:Nat) (now r:Int) (t:Nat),(iB o N tags s i now r t).2=t\/(i<(iB o N tags s i now r t).2/\(iB o N tags s i now r t).2<=i+s.length)
 |[],_,_,_,_=> .inl I
 | b ::s,i,now,r,t=>by
  rw[jG];split;exact .inl I;split
  ·rcases Au o N tags s (i+1) (uk o N now b) (tags.getD (uk o N now b).toNat 0) (i+1)with h|h
   simp_all;exact .inr ⟨by omega,by rw[dj];omega⟩
  rcases Au o N tags s (i+1) (uk o N now b) r t with h|h
  omega;exact .inr ⟨by omega,by rw[dj];omega⟩
theorem Ul{o:Of}{N:List (List Int)}{tags:List Int}{s:List UInt8}{fr:Nat}(hf:fr<=s.length):(kx o N tags s fr).2=0\/(fr<(kx o N tags s fr).2/\(kx o N tags s fr).2<=s.length):=by
 rcases Au o N tags (s.drop fr) fr 0 0 0 with h|h
 exact .inl h
 right
 rw[iT]at h;exact⟨h.1,by have:=h.2;show(iB _ _ _ _ _ _ _ _).2<=_;omega⟩
theorem BT{o:Of}{N:List (List Int)}{tags:List Int}(h:ko o N tags){q:Nat}(hq:q<N.length)(b:UInt8):
 ∃(h1:q<N.length) (h2:o[b.toNat]'b.toNat_lt<N[q].length),uk o N (q:Int) b=N[q][o[b.toNat]'b.toNat_lt]/\ -1<=uk o N (q:Int) b/\uk o N (q:Int) b<N.length:=by
 have hw:o[b.toNat]'b.toNat_lt<N[q].length:=by rw[h.row q hq];exact h.of _ _
 have e:uk o N (q:Int) b=N[q][o[b.toNat]'b.toNat_lt]:=by
  unfold uk;rw[dD,de (l:=N),bM hq,jD,de (l:=o.toList),bM (by rw[Vector.length_toList];exact b.toNat_lt),jD,BH,de,bM hw];rfl
 have hr:=h.rng q hq _ hw;exact⟨hq,hw,e,by rw[e];exact hr.1,by rw[e];exact hr.2⟩
end ib
namespace bZ
open Go.RowKit cL dQ cz ib
theorem abJ{vn vt:Value}(o:Of)(b:UInt8):(ey o vn vt).toArray[0+b.toNat]?=aj (.int .u8 ((o[b.toNat]'b.toNat_lt:Nat):Int)):=by
 rw[cX];exact ajb o vn vt b.toNat_lt
theorem FY(o:Of)(vn vt:Value)(N:List (List Int))(tags:List Int)(s:List UInt8)(w:World)(h:RW w vn vt N tags)(ho:∀b (h:b<256),o[b]<256)(hs:s.length<=9223372036854775807):
 Calls aE 56 #[C3 o vn vt,str s] w (bX (ret (az aB (if qe o N tags≠0 then qe o N tags else if 2000<s.length then 2 else 0))) w):=by
 have iH:=λw' (hg:Gr w w')=>wP o vn vt N tags w' (h.gr hg) ho;obtain⟨⟨an,cn,rfl,-⟩,at',ct,rfl,-⟩:=h;generalize qe o N tags=e at*;refine enter (args:=[C3 o (av an N.length cn) (av at' tags.length ct),str s]) (n:=14) Tryz.func56 I I I ?_;refine cB (bD (bL I I I λg2=>?_));refine zL ?_
 repeat(first|refine GA ?_|refine gV (aP (i:=0) aL.ty I I (il _ _ _)) ?_)
 refine aU (ja aJ.en I I) (λw hm=>iH _ hm.below) I I I ?_;intro _ _;refine zL ?_
 by_cases c1:e=0
 ·rw[if_neg (by simpa using c1)]
  by_cases c2:2000<s.length
  ·rw[if_pos c2]
   repeat(first|refine GC ?_|refine gV (dc (b:=aF) I I (decide_eq_false (by simpa using c1))) ?_|refine gV (dW (b:=aD) I I (decide_eq_true J)) ?_|refine GB ?_)
   exact dG I I I
  rw[if_neg c2]
  repeat(first|refine GC ?_|refine gV (dc (b:=aF) I I (decide_eq_false (by simpa using c1))) ?_|refine gV (dW (b:=aF) I I (decide_eq_false J)) ?_|refine GB ?_)
  exact dG I I I
 ·rw[if_pos c1]
  repeat(first|refine GC ?_|refine gV (dc (b:=aD) I I (decide_eq_true c1)) ?_|refine GB ?_)
  exact dG I I I
def jg(t:Tok):List Value:=[az aB t.1,az aB (t.2.1:Int),az aB (t.2.2:Int)]
theorem abK(t:Tok):(jg t).length=3:=rfl
theorem RY(f:Nat)(w:World):(dg 102 #[(1,az aB (f:Int))]).run aE w= .ok (aQ (jg (0,f,0)).toArray) w:=by
 unfold jg;go_simp
theorem RZ(w:World):(dg 102 (#[]:Array (Nat×Value))).run aE w= .ok (aQ (jg (0,0,0)).toArray) w:=by kernel_rfl
def aek(fr:Nat)(x:Int×Nat):Value:=if x.2=0 then .tuple #[aQ (jg (0,0,0)).toArray,.bool aF]else .tuple #[aQ (jg (x.1,fr,x.2)).toArray,.bool aD]
theorem KN(o:Of)(vn vt:Value)(N:List (List Int))(tags:List Int)(s:List UInt8)(fr:Nat)(w:World)(h:RW w vn vt N tags)(hg:ko o N tags)(hs:s.length<=1000000)(hf:fr<=s.length):
 Calls aE 57 #[C3 o vn vt,str s,az aB (fr:Int)] w (bX (ret (aek fr (kx o N tags s fr))) w):=by
 have tZ:=λ{q} hq b=>BT hg (q:=q) hq b;have xp:=hg.pos;have hlen:=hg.len;have agH:=hg.tag;obtain⟨⟨an,cn,rfl,hn1,UP,hn3⟩,at',ct,rfl,ht1,OR,GI⟩:=h;unfold maxLen at UP OR;obtain⟨bn,BR,rfl,_,Hm⟩:=hn3 J;obtain⟨bt,y_,rfl,htd⟩:=GI J;clear hn3 GI hg;have hbt:=RY fr;have A5:=RZ;refine enter (args:=[C3 o (av (aj ⟨bn,BR,ak⟩) N.length cn) (av (aj ⟨bt,y_,ak⟩) tags.length ct),str s,az aB (fr:Int)]) (n:=55) Tryz.func57 I I I ?_;refine cB (bD (bL I I I λg3=>a8 I λg6=>?_));refine zL ?_
 repeat(first|refine GA ?_|refine gV (bB I hbt) ?_)
 refine a8 I λg9=>?_;refine zL ?_;refine gG 2 (cs':=(jg (0,fr,0)).toArray) ?_;refine zL ?_
 try refine GA ?_
 unfold kx;generalize jb:iB o N tags (s.drop fr) fr 0 0 0=fin;refine d_ (ι:=Nat×Nat×Int×Nat) (λ(i,now,r,t)=>i<=s.length/\now<N.length/\t<=i/\iB o N tags (s.drop i) i (now:Int) r t=fin) (λ(i,now,_,_)=>[(1,str s),(3,aK (aj ⟨g3,0,ak⟩)),(6,aK (aj ⟨g6,0,ak⟩)),(8,az aB (now:Int)),(9,aK (aj ⟨g9,0,ak⟩)),(10,az aB (i:Int))])
  (λ(_,_,r,t)=>[aR g3 (ey o (av (aj ⟨bn,BR,ak⟩) N.length cn) (av (aj ⟨bt,y_,ak⟩) tags.length ct)).toArray 30,aR g6 (jg (0,0,0)).toArray 102,aR g9 (jg (r,fr,t)).toArray 102]) (λ(i,_,_,_)=>s.length-i) (fr,0,0,0) ⟨hf,xp,bH _,jb⟩ ?_
 rintro⟨i,now,r,t⟩ ⟨i1,i2,i3,i4⟩;dsimp only at i1 i2 i3 i4⊢
 by_cases c1:i<s.length
 ·rw[eH c1,jG]at i4
  obtain⟨_,hw,V0,kr,fK⟩:=tZ i2 s[i];have hb:s[(i:Int).toNat]?=aj s[i]:=by rw[dD];exact bM c1
  have hcell:=abJ (vn:=av (aj ⟨bn,BR,ak⟩) N.length cn) (vt:=av (aj ⟨bt,y_,ak⟩) tags.length ct) o s[i];have hb8:=s[i].toNat_lt;obtain⟨u,⟨au,cu,rfl,hcu,hmu,JX⟩,hdu⟩:=yM Hm i2;have FW:=λ(L:List b9)=>iP (L:=L) hdu (j:=0) (v:= .slice au N[now].length cu) I;obtain⟨bu,WC,rfl,eR⟩:=JX J;have BS:=λ(L:List b9)=>gd (L:=L) jp eR hw 0 _ I;have N5:∀(L:List b9),At (w:bP) L ⟨bu,WC+o[s[i].toNat]*1+0,ak⟩ (az aB (uk o N (now:Int) s[i])):=λL=>by rw[V0];exact BS L
  clear hdu eR JX BS V0 jb Hm;generalize s[i]=b at*;generalize o[b.toNat]=ob at*;generalize uk o N (now:Int) b=x at*;generalize N[now].length=wd at*
  try refine GA ?_
  refine dH ([aR g3 (ey o (av (aj ⟨bn,BR,ak⟩) N.length cn) (av (aj ⟨bt,y_,ak⟩) tags.length ct)).toArray 30]) (.calm 0 (.calm 1 (.calm 2 (.calm 3 (.calm 4 (.calm 5 (.calm 6 (.calm 7 (.calm 8 (.calm 9 (.calm 10 (.calm 11 (.calm 12 (.calm 13 (.done))))))))))))))) (bV [0]) ?_
  repeat(first|refine GW ?_|(refine GN ?_;first|refine QW (aC aL.ty I (aI (i:=0) I (lG _ _ _))) ?_|refine QW (aZ (j:=now) bQ.eq aL.ty I I i2) ?_|refine QW (aC aL.ty I (FW _)) ?_|refine QW (rA bQ.eq I I J hb) ?_|refine QW (hZ bQ.eq aL.ty I I hb8) ?_|refine QW (aC aL.ty I (aI (i:=0) I hcell)) ?_|refine QW (aZ (j:=ob) bQ.eq aL.ty I I hw) ?_|refine QW (aC aL.ty I (N5 _)) ?_))
  by_cases q1:x<0
  ·rw[if_pos q1]at i4
   subst i4;unfold aek
   by_cases e1:t=0
   ·subst e1
    rw[if_pos I]
    repeat(first|refine GC ?_|refine gV (ez (b:=aD) I I (decide_eq_true q1)) ?_|refine gV (aC (v:=az aB ((0:Nat):Int)) aL.ty I (aI (i:=2) I I)) ?_|refine gV (cY (b:=aD) I I (decide_eq_true (by simp))) ?_|refine gV (bB I A5) ?_|refine GB ?_)
    refine gG 1 (cs':=(jg (0,0,0)).toArray) ?_;refine zL ?_
    try refine GA ?_
    exact dT (i:=1) I I I I I λw hm=>hm.ret
   rw[if_neg e1]
   repeat(first|refine GC ?_|refine gV (ez (b:=aD) I I (decide_eq_true q1)) ?_|refine gV (aC (v:=az aB (t:Int)) aL.ty I (aI (i:=2) I I)) ?_|refine gV (cY (b:=aF) I I (decide_eq_false J)) ?_|refine gV (aP (i:=2) aL.ty I I I) ?_|refine GB ?_)
   refine gG 1 (cs':=(jg (r,fr,t)).toArray) ?_;refine zL ?_
   try refine GA ?_
   exact dT (i:=1) I I I I I λw hm=>hm.ret
  rw[if_neg q1]at i4;obtain⟨xn,rfl⟩:=gU (show 0<=x by omega);have hxt:xn<tags.length:=by omega
  have G5:=λ(L:List b9)=>gd (L:=L) jp htd hxt 0 _ I;rw[dD,de (l:=tags),bM hxt,jD]at i4;generalize tags[xn]=tg at*;have N6:∀(L:List b9),At (w:bP) L ⟨bt,y_+xn*1+0,ak⟩ (az aB tg):=G5
  by_cases q2:0<=tg
  ·rw[if_pos q2]at i4
   repeat(first|refine GC ?_|refine gV (ez (b:=aF) I I (decide_eq_false q1)) ?_|refine gV (aC aL.ty I (aI (i:=0) I (mb _ _ _))) ?_|refine gV (aZ (j:=xn) bQ.eq aL.ty I I hxt) ?_|refine gV (aC (v:=az aB tg) aL.ty I (N6 _)) ?_|refine gV (fu (b:=aD) I I (decide_eq_true q2)) ?_|refine gV (fl (r:=((i+1:Nat):Int)) I I J J J) ?_|refine GB ?_)
   refine bJ (i:=2) I I I I I I ?_;refine zL ?_
   try refine GA ?_
   refine bJ (i:=2) I I I I I I ?_;refine zL ?_
   repeat(first|refine GC ?_|refine gV (fl (r:=((i+1:Nat):Int)) I I J J J) ?_|refine GB ?_)
   exact bW (i+1,xn,tg,i+1) ⟨by show i+1<=s.length;omega,by show xn<N.length;omega,bC _,i4⟩ (by show s.length-(i+1)<s.length-i;omega)
  rw[if_neg q2]at i4
  repeat(first|refine GC ?_|refine gV (ez (b:=aF) I I (decide_eq_false q1)) ?_|refine gV (aC aL.ty I (aI (i:=0) I (mb _ _ _))) ?_|refine gV (aZ (j:=xn) bQ.eq aL.ty I I hxt) ?_|refine gV (aC (v:=az aB tg) aL.ty I (N6 _)) ?_|refine gV (fu (b:=aF) I I (decide_eq_false q2)) ?_|refine gV (fl (r:=((i+1:Nat):Int)) I I J J J) ?_|refine GB ?_)
  exact bW (i+1,xn,r,t) ⟨by show i+1<=s.length;omega,by show xn<N.length;omega,by show t<=i+1;omega,i4⟩ (by show s.length-(i+1)<s.length-i;omega)
 ·rw[oD J]at i4
  have i4:(r,t)=fin:=i4;subst i4;unfold aek
  by_cases e1:t=0
  ·subst e1
   rw[if_pos I]
   repeat(first|refine GC ?_|refine gV (aC (v:=az aB ((0:Nat):Int)) aL.ty I (aI (i:=2) I I)) ?_|refine gV (cY (b:=aD) I I (decide_eq_true (by simp))) ?_|refine gV (bB I A5) ?_|refine GB ?_)
   refine gG 1 (cs':=(jg (0,0,0)).toArray) ?_;refine zL ?_
   try refine GA ?_
   exact dT (i:=1) I I I I I λw hm=>hm.ret
  rw[if_neg e1]
  repeat(first|refine GC ?_|refine gV (aC (v:=az aB (t:Int)) aL.ty I (aI (i:=2) I I)) ?_|refine gV (cY (b:=aF) I I (decide_eq_false J)) ?_|refine gV (aP (i:=2) aL.ty I I I) ?_|refine GB ?_)
  refine gG 1 (cs':=(jg (r,fr,t)).toArray) ?_;refine zL ?_
  try refine GA ?_
  exact dT (i:=1) I I I I I λw hm=>hm.ret
noncomputable def WD(o:Of)(N:List (List Int))(tags:List Int)(s:List UInt8):List Tok×Nat×Int:=if qe o N tags≠0 then([],0,qe o N tags)else if 2000<s.length then([],0,2)else oX o N tags s
theorem Um{o:Of}{N:List (List Int)}{tags:List Int}{s:List UInt8}(h:qe o N tags=0)(hs:s.length<=2000):WD o N tags s=oX o N tags s:=by
 unfold WD;rw[if_neg (by simpa using h),if_neg J]
abbrev wQ(v:Value)(l:List Tok):b9:=a_ 102 3 v l.length (l.flatMap jg)
def KO(R:List Tok×Nat×Int):Spec Value:=⟨λ_=>True,λv=> .tuple #[v,az aB (R.2.1:Int),az aB R.2.2],λv=>[wQ v R.1]⟩
theorem BU(v:Value)(l:List Tok)(x:Tok):wQ v (l++[x])=a_ 102 3 v (l.length+1) (l.flatMap jg++jg x):=by
 unfold wQ;rw[bK,ir];simp
theorem ael(t:Tok):∀u∈jg t,u.oneCell'=true:=by
 intro u h;simp only[jg,dM,fz,or_false]at h;rcases h with rfl|rfl|rfl<;>rfl
theorem WE(o:Of)(vn vt:Value)(N:List (List Int))(tags:List Int)(s:List UInt8)(w:World)(h:RW w vn vt N tags)(ho:∀b (h:b<256),o[b]<256)(hs:s.length<=9223372036854775807):
 Calls aE 26 #[C3 o vn vt,str s] w (bX (KO (WD o N tags s)) w):=by
 have iH:=λw' (hg:Gr w w')=>FY o vn vt N tags s w' (h.gr hg) ho hs;have oJ:=λhg hs (fr:Nat) hf w' (yy:Gr w w')=>KN o vn vt N tags s fr w' (h.gr yy) hg hs hf;have hA0:=λh=>Um (o:=o) (N:=N) (tags:=tags) (s:=s) h;obtain⟨⟨an,cn,rfl,-⟩,at',ct,rfl,-⟩:=h
 by_cases c1:qe o N tags=0
 case neg=>
  have hA:WD o N tags s=([],0,qe o N tags):=if_pos c1;rw[if_pos c1]at iH;rw[hA];clear hA0 hA oJ;generalize qe o N tags=e at*;refine enter (args:=[C3 o (av an N.length cn) (av at' tags.length ct),str s]) (n:=40) Tryz.func26 I I I ?_;refine cB (bD (bL I I I λg2=>?_));refine zL ?_
  repeat(first|refine GA ?_|refine gV (aP (i:=0) aL.ty I I (il _ _ _)) ?_)
  refine aU (fC aJ.en I I I) (λw hm=>iH _ hm.below) I I I ?_;intro _ _;refine zL ?_
  repeat(first|refine GC ?_|refine gV (dc (b:=aD) I I (decide_eq_true c1)) ?_|refine GB ?_)
  refine dJ 102 3 ?_;exact kG I I I I λw hm=>hm.meets (S:=KO ([],0,e)) (av ak 0 0) trivial [1] aln I
 by_cases c2:2000<s.length
 ·have hA:WD o N tags s=([],0,2):=by unfold WD;rw[if_neg (by simpa using c1),if_pos c2]
  rw[if_neg (by simpa using c1),if_pos c2]at iH;rw[hA];clear hA0 hA oJ;refine enter (args:=[C3 o (av an N.length cn) (av at' tags.length ct),str s]) (n:=40) Tryz.func26 I I I ?_;refine cB (bD (bL I I I λg2=>?_));refine zL ?_
  repeat(first|refine GA ?_|refine gV (aP (i:=0) aL.ty I I (il _ _ _)) ?_)
  refine aU (fC aJ.en I I I) (λw hm=>iH _ hm.below) I I I ?_;intro _ _;refine zL ?_
  repeat(first|refine GC ?_|refine gV (dc (b:=aD) I I (decide_eq_true aln)) ?_|refine GB ?_)
  refine dJ 102 3 ?_;exact kG I I I I λw hm=>hm.meets (S:=KO ([],0,2)) (av ak 0 0) trivial [1] aln I
 rw[if_neg (by simpa using c1),if_neg c2]at iH;have oJ:=oJ (pg c1) J;rw[hA0 c1 J];unfold oX;clear hA0 c1;refine enter (args:=[C3 o (av an N.length cn) (av at' tags.length ct),str s]) (n:=40) Tryz.func26 I I I ?_;refine cB (bD (bL I I I λg2=>?_));refine zL ?_
 repeat(first|refine GA ?_|refine gV (aP (i:=0) aL.ty I I (il _ _ _)) ?_)
 refine aU (fC aJ.en I I I) (λw hm=>iH _ hm.below) I I I ?_;intro _ _;refine zL ?_;clear iH
 repeat(first|refine GC ?_|refine gV (dc (b:=aF) I I (decide_eq_false (by simp))) ?_|refine GB ?_)
 refine iz 102 3 ?_;generalize jb:je o N tags s (s.length+1) 0=fin;refine d_ (ι:=Nat×List Tok×Value×Nat) (λ(a,l,_,f)=>a<=s.length/\l.length<=a/\s.length<a+f/\fin=(l++(je o N tags s f a).1,(je o N tags s f a).2)) (λ(a,_,v,_)=>[(1,str s),(2,aK (aj ⟨g2,0,ak⟩)),(8,v),(9,az aB (a:Int))])
  (λ(_,l,v,_)=>[aR g2 (ey o (av an N.length cn) (av at' tags.length ct)).toArray 30,wQ v l]) (λ(a,_,_,_)=>s.length-a) (0,[],av ak 0 0,s.length+1) ⟨bH _,bH _,by omega,by rw[jb];rfl⟩ ?_
 clear jb;rintro⟨a,l,v,f⟩ ⟨i1,i2,i3,i4⟩;dsimp only at i1 i2 i3 i4⊢
 by_cases c1:a<s.length
 ·obtain⟨f,rfl⟩:∃f',f=f'+1:=⟨f-1,by omega⟩
  rw[my,if_pos c1]at i4;have ht:=Ul (o:=o) (N:=N) (tags:=tags) (s:=s) (fr:=a) J;have oJ:=oJ a J;generalize kx o N tags s a=x at*;obtain⟨r,t⟩:=x;dsimp only at i4 ht;unfold aek at oJ
  by_cases q1:t=0
  ·subst q1
   rw[if_pos I]at i4 oJ;subst i4
   repeat(first|refine GA ?_|refine gV (aP (i:=0) aL.ty I I (il _ _ _)) ?_)
   refine aU (qq aJ.en I I I I) (λw hm=>oJ _ hm.below) I I I ?_;intro _ _;refine zL ?_
   try refine GA ?_
   refine a8 I λg10=>?_;refine zL ?_;refine gG 2 (cs':=(jg (0,0,0)).toArray) ?_;refine zL ?_
   try refine GA ?_
   exact kG I I I I λw hm=>hm.meets (S:=KO (l++[],a,9)) v trivial [1] aln (by unfold KO;simp)
  rw[if_neg q1]at i4 oJ;dsimp only at oJ;have ht:=ht.resolve_left q1
  repeat(first|refine GA ?_|refine gV (aP (i:=0) aL.ty I I (il _ _ _)) ?_)
  refine aU (qq aJ.en I I I I) (λw hm=>oJ _ hm.below) I I I ?_;intro _ _;refine zL ?_
  try refine GA ?_
  refine a8 I λg10=>?_;refine zL ?_;refine gG 2 (cs':=(jg (r,a,t)).toArray) ?_;refine zL ?_
  try refine GA ?_
  refine dH ([aR g10 (jg (r,a,t)).toArray 102]) (.calm 0 (.calm 1 (.calm 4 (.calm 5 (.one 2 (.one 3 (.calm 6 (.calm 7 (.done))))))))) (bV [2]) ?_
  repeat(first|refine GW ?_|(refine GN ?_;first|refine QW (aP (i:=0) aL.ty I I I) ?_|refine QW (aC (v:=az aB (t:Int)) aL.ty I (aI (i:=0) I I)) ?_))
  refine aM I (fw (cs:=(jg (r,a,t)).toArray) [aQ (jg (r,a,t)).toArray] I I I (by intro v hv;simp at hv;subst hv;rfl) I I I λg35=>(aO (bV [2]) ?_));refine aM I (ee (i:=1) (e:=102) (size:=3) (bytes:=24) (m:=l.length) (xs:=l.flatMap jg) (k:=1) (ys:=jg (r,a,t)) I (kI (i:=3) I (λj u h=>by simpa using h) (bC 1) aln) I I I (λu hu=>ael _ u hu) J J I λv'=>(aO (bV [2]) ?_))
  try refine GW ?_
  try refine GA ?_
  refine dv [0,1] ?_;exact bW (t,l++[(r,a,t)],v',f) ⟨ht.2,by show(l++[_]).length<=t;rw[bK,kO];omega,by show s.length<t+f;omega,by rw[i4];simp⟩ (by show s.length-t<s.length-a;omega) (hl:=by dsimp only;rw[BU];rfl)
 ·have e:je o N tags s f a=([],0,0):=by
   cases f with
   |zero=>rfl
   |succ f=>rw[my,if_neg c1]
  rw[e]at i4;subst i4
  try refine GA ?_
  exact kG I I I I λw hm=>hm.meets (S:=KO (l++[],0,0)) v trivial [1] aln (by unfold KO;simp)
open zy
theorem kp(R:List Row):(RM R).length=R.length:=by simp[RM]
theorem Dy(R:List Row){i:Nat}(h:i<R.length):(RM R)[i]'(by grind[kp])=AP (nM R 256) i:=by simp[RM]
theorem aem(D:List Dr)(i:Nat){j:Nat}(h:j<D.length):(AP D i).getD j 0=(D[j]).toList.getD i 0:=by
 simp_all[AP]
theorem aen(R:List Row)(hle:R.length<=200){i b:Nat}(hi:i<R.length)(hb:b<256):(AP (nM R 256) i).getD (pkN R b) 0=fZ R i b:=by
 grind[Dx,pkN,aem,nC,w7,FR]
theorem aeo(o:Of)(N:List (List Int)){i:Nat}(h:i<N.length):(unR o N)[i]'(by grind[Uk])=rf λb:Fin 256=>N[i].getD o[b] 0:=by
 simp[unR]
theorem ajd(R:List Row)(hle:R.length<=200):unR (wM R 256) (RM R)=R:=by
 refine List.ext_getElem (by rw[Uk,kp]) λi h1 h2=>?_;have hi:i<R.length:=h2;rw[aeo _ _ (by simp_all[kp]),Dy R hi];refine Vector.ext λb hb=>?_;rw[kM];have e:(wM R 256)[b]'hb=pkN R b:=by
  unfold wM;rw[kM];simp[hb]
 show(AP (nM R 256) i).getD ((wM R 256)[b]'hb) 0=_
 rw[e,aen R hle hi hb,sf hi hb]
theorem aep{R:List Row}{c:Dr}(h:c∈nM R 256):∃b,b<256/\c=sg R b:=by
 unfold nM at h;rcases lh.1 h with h|h
 cases h
 grind
theorem ag2{R:List Row}{tags:List Int}(h:lI R tags=0){i:Nat}(hi:i<R.length){x:Int}(hx:x∈AP (nM R 256) i): -1<=x/\x<R.length:=by
 obtain⟨hA,_⟩:=oH h;unfold AP at hx;obtain⟨c,hc,rfl⟩:=fG.1 hx;obtain⟨b,hb,rfl⟩:=aep hc;rw[FR R b i hi hA.le,sf hi hb];have:=hA.step i hi b hb;rw[Nq hi hb]at this;exact this
theorem afn{R:List Row}{tags:List Int}(h:lI R tags=0):abI (wM R 256) (RM R) tags (nM R 256).length:=by
 obtain⟨hA,hl⟩:=oH h;have hle:R.length<=200:=hA.le;refine⟨by rw[kp];exact hA.pos,by simp_all[kp],by simp_all[kp],List.length_pos_of_mem (Dx R (show 0<256 by decide)),Dw R 256,λi hi=>?_,λi hi=>?_,λi hi j hj=>?_,λb hb=>?_⟩
 grind[kp,Dy,AP]
 ·have:=hA.tags i (show i<R.length by omega)
  grind[Ai]
 ·have qB:i<R.length:=by grind[kp]
  have e:=Dy R qB;have hx:(RM R)[i][j]∈AP (nM R 256) i:=e▸cH hj;rw[kp];exact ag2 h qB hx
 have e:(wM R 256)[b]'hb=pkN R b:=by
  simp[wM]
 simp_all[abx]
end bZ
namespace ib
open Go.RowKit cL dQ bZ cz
def Xq(nx:Int->UInt8->Int)(tags:List Int):List UInt8->Nat->Int->Int->Nat->Int×Nat
 |[],_,_,r,t=>(r,t)
 | b::s,i,now,r,t=>
  if nx now b<0 then(r,t)
  else if 0<=tags.getD (nx now b).toNat 0 then Xq nx tags s (i+1) (nx now b) (tags.getD (nx now b).toNat 0) (i+1)
  else Xq nx tags s (i+1) (nx now b) r t
theorem BV{nx Tj:Int->UInt8->Int}{tags:List Int}{n:Nat}(h:∀(q:Nat),q<n->∀b,nx q b=Tj q b/\ -1<=nx q b/\nx q b<n):∀(s:List UInt8) (i q:Nat) (r:Int) (t:Nat),q<n->Xq nx tags s i q r t=Xq Tj tags s i q r t
 |[],_,_,_,_,_=>rfl
 | b::s,i,q,r,t,hq=>by
  obtain⟨h1,h2,h3⟩:=h q hq b;unfold Xq;rw[<-h1]
  by_cases c:nx q b<0
  simp_all;rw[if_neg c,if_neg c];obtain⟨z,hz⟩:=gU (show 0<=nx q b by omega);rw[hz]at h3⊢;rw[BV h s (i+1) z _ _ J,BV h s (i+1) z _ _ J]
theorem KP(o:Of)(N:List (List Int))(tags:List Int):∀(s:List UInt8) (i:Nat) (now r:Int) (t:Nat),iB o N tags s i now r t=Xq (uk o N) tags s i now r t
 |[],_,_,_,_=>rfl
 |b::s,i,now,r,t=>by
  rw[jG,Xq,KP o N tags s,KP o N tags s]
def nxR(R:List Row)(now:Int)(b:UInt8):Int:=(R.getD now.toNat xy).toList.getD b.toNat 0
theorem ag3{o:Of}{N:List (List Int)}{tags:List Int}(h:ko o N tags){q:Nat}(hq:q<N.length)(b:UInt8):uk o N (q:Int) b=nxR (unR o N) q b:=by
 obtain⟨_,hw,e,_⟩:=BT h hq b;rw[e];unfold nxR unR;rw[dD,de (l:=List.map _ _),List.getElem?_map,bM hq,Option.map_some,jD,de,bM (by simpa using b.toNat_lt),jD,BH,kM];show _=N[q].getD (o[b.toNat]'b.toNat_lt) 0
 rw[de,bM hw];rfl
def ub(R:List Row)(tags:List Int)(s:List UInt8)(fr:Nat):Int×Nat:=Xq (nxR R) tags (s.drop fr) fr 0 0 0
theorem abL{o:Of}{N:List (List Int)}{tags:List Int}(h:ko o N tags)(s:List UInt8)(fr:Nat):kx o N tags s fr=ub (unR o N) tags s fr:=by
 unfold kx ub;rw[KP];exact BV (n:=N.length) (λq hq b=>⟨ag3 h hq b,(BT h hq b).2.2.2⟩) _ fr 0 0 0 h.pos
def xA(R:List Row)(tags:List Int)(s:List UInt8):Nat->Nat->List Tok×Nat×Int
 |0,_=>([],0,0)
 |f+1,at'=>if at'<s.length then(if(ub R tags s at').2=0 then([],at',9)else((((ub R tags s at').1,at',(ub R tags s at').2)::(xA R tags s f (ub R tags s at').2).1),(xA R tags s f (ub R tags s at').2).2))else([],0,0)
theorem N7{o:Of}{N:List (List Int)}{tags:List Int}(h:ko o N tags)(s:List UInt8):∀f at',je o N tags s f at'=xA (unR o N) tags s f at'
 |0,_=>rfl
 |f+1,at'=>by rw[my,xA,abL h,N7 h s f]
theorem WG{o:Of}{N:List (List Int)}{tags:List Int}(h:ko o N tags)(s:List UInt8):oX o N tags s=xA (unR o N) tags s (s.length+1) 0:=N7 h s _ _
end ib
namespace bZ
open Go.RowKit cL dQ cz
theorem Mem.pkI{B:bP}{w:World}{L:List b9}{i j k g:Nat}{R:List Row}{tags:List Int}{vs:Nat->Value}{vt:Value}(hm:Mem B L w)(hi:L[i]?=aj (fE 26 y9 g R.length vs))(hj:L[j]?=aj (WB R.length (nM R 256) vs))(hk:L[k]?=aj (a_ 3 1 vt tags.length (tags.flatMap cL.eJ)))(hc:lI R tags=0):
 RW w (av (aj ⟨g,0,ak⟩) R.length R.length) vt (RM R) tags:=by
 have h1:(fE 26 y9 g R.length vs).holds w:=hm.get hi;have h2:(WB R.length (nM R 256) vs).holds w:=hm.get hj;have ok:=afn hc;refine⟨⟨aj ⟨g,0,ak⟩,R.length,by rw[kp],by simp[kp],by have:=ok.le;rw[kp]at this;unfold maxLen;omega,λh0=>⟨g,0,rfl,?_,λi hi=>⟨[vs i],⟨vs i,rfl,?_⟩,λj u hj=>?_⟩⟩⟩,iQ hk _ hm⟩
 ·rw[kp]at h0
  exact og w _ (Bm h1 h0)
 ·have Xc:i<R.length:=by simp_all[kp]
  have h3:(a_ 3 1 (vs i) (nM R 256).length ((AP (nM R 256) i).flatMap cL.eJ)).holds w:=h2.1 i Xc;have h4:Sl w (vs i) (nM R 256).length ((AP (nM R 256) i).flatMap cL.eJ):=Sl.dx h3;have e:(RM R)[i]=AP (nM R 256) i:=Dy R Xc;have hl:(AP (nM R 256) i).length=(nM R 256).length:=eI ..;refine kw.of_flat (by rw[e,hl];exact h4) (λx hx=>?_) (λb hb=>?_) λa n cp hv=>?_
  ·obtain⟨q,hq,rfl⟩:=iC.1 hx
   have:=ok.rng i hi q hq;have:=ok.le;exact⟨by omega,by omega⟩
  exact b9.lt _ w h3 b (.inl hb);exact b9.lt _ w h3 a.block (.inl (by rw[hv];rfl))
 ·have Xc:i<R.length:=by simp_all[kp]
  have hj0:j=0:=by grind
  subst hj0;simp only[pj,dL]at hj;subst hj;have:=Bm h1 Xc;show w.cell? ⟨g,0+i*1+0,ak⟩=aj (vs i)
  simp_all
theorem Un(R:List Row):∀b (h:b<256),(wM R 256)[b]<256:=λb hb=>by
 grind[wM,Uh]
theorem KQ{R:List Row}{tags:List Int}(h:lI R tags=0):ko (wM R 256) (RM R) tags:=by
 have ok:=afn h;have:((RM R).headD []).length=(nM R 256).length:=by
  have h0:=ok.pos;have:=ok.row 0 h0
  cases hR:RM R with
  |nil=>grind
  |cons x r=>simp_all
 grind
end bZ
namespace ib
open Go.RowKit cL dQ bZ cz
def BW:List Tok->Nat->Nat
 |[],e=>e
 |t::l,_=>BW l t.2.2
def R4:List Tok->Nat->Prop
 |[],_=>True
 |t::l,e=>t.2.1=e/\e<t.2.2/\R4 l t.2.2
theorem Av{o:Of}{N:List (List Int)}{tags:List Int}{s:List UInt8}:∀(f a:Nat),a<=s.length->s.length<a+f->R4 (je o N tags s f a).1 a/\
 (((je o N tags s f a).2=(0,0)/\BW (je o N tags s f a).1 a=s.length)\/((je o N tags s f a).2.2=9/\BW (je o N tags s f a).1 a=(je o N tags s f a).2.1/\(je o N tags s f a).2.1<s.length))
 |0,a,h1,h2=>by omega
 | f + 1,a,h1,h2=>by
  rw[my]
  by_cases c:a<s.length
  ·rw[if_pos c]
   by_cases c2:(kx o N tags s a).2=0
   ·rw[if_pos c2]
    exact⟨trivial,.inr ⟨rfl,rfl,c⟩⟩
   rw[if_neg c2];have ht:=(Ul (o:=o) (N:=N) (tags:=tags) h1).resolve_left c2;obtain⟨q1,q2⟩:=Av (o:=o) (N:=N) (tags:=tags) (s:=s) f (kx o N tags s a).2 ht.2 J;exact⟨⟨rfl,ht.1,q1⟩,q2⟩
  rw[if_neg c];exact⟨trivial,.inl ⟨rfl,by show a=s.length;omega⟩⟩
end ib
namespace gX
open aV dO eX ib bI cz bZ
abbrev PS:=List TD×List Nat
def Uo:PS:=([.sym (2,0)],[0])
def fa(m:Md)(b:Bool)(p:PS)(a:Nat)(t:Int):Int×PS×List dw:=
 if b then((jq m.g.aH (ig m.rows t.toNat) p.1 a t).1,((jq m.g.aH (ig m.rows t.toNat) p.1 a t).2.1,p.2),(jq m.g.aH (ig m.rows t.toNat) p.1 a t).2.2)
 else((fJ m.g.aH (ii m.A) (eQ m.G) t.toNat a 2001 p.2 []).1,(p.1,(fJ m.g.aH (ii m.A) (eQ m.G) t.toNat a 2001 p.2 []).2.1),(fJ m.g.aH (ii m.A) (eQ m.G) t.toNat a 2001 p.2 []).2.2)
def m_(m:Md)(b:Bool)(p:PS)(a:Nat):Int×List dw:=
 if b then iw m.g.aH (ig m.rows m.g.aT.toNat) p.1
 else((fJ m.g.aH (ii m.A) (eQ m.G) m.g.aT.toNat a 2001 p.2 []).1,(fJ m.g.aH (ii m.A) (eQ m.G) m.g.aT.toNat a 2001 p.2 []).2.2)
def G_(m:Md)(b:Bool)(p:PS):Prop:=if b then(∀d∈p.1,rj m.g d)/\p.1.length<=60 else p.2≠[]/\(∀q∈p.2,q<m.A.length)/\p.2.length<=60
structure fS(m:Md)(b:Bool)(T N:Nat):Prop extends MdGood m where
 md:m.mode=if b then 1 else 2
 tT:m.g.aT=T
 nN:m.g.bx=N
 ll:b=aD->Fy m.g m.rows=0/\FF m.g m.rows T N
 lr:b=aF->sb m.g T N m.A m.G
def ma(m:Md)(t:Tok):Int:=m.of.getD t.1.toNat 0
def IJ(m:Md)(b:Bool):List Tok->PS->Nat->List dw->Option (Int×Nat)×List dw×PS×Nat
 |[],p,a,out=>(ak,out,p,a)
 | t::r,p,a,out=>
  if ma m t<0 then IJ m b r p a out
  else if(fa m b p a (ma m t)).1≠0 then(aj ((fa m b p a (ma m t)).1,t.2.1),out,p,a)
  else IJ m b r (fa m b p a (ma m t)).2.1 (a+1) (out++(fa m b p a (ma m t)).2.2)
theorem qf(m:Md)(b:Bool)(t:Tok)(r:List Tok)(p:PS)(a:Nat)(out:List dw):IJ m b (t::r) p a out=
 if ma m t<0 then IJ m b r p a out
 else if(fa m b p a (ma m t)).1≠0 then(aj ((fa m b p a (ma m t)).1,t.2.1),out,p,a)
 else IJ m b r (fa m b p a (ma m t)).2.1 (a+1) (out++(fa m b p a (ma m t)).2.2):=rfl
def kq(m:Md)(b:Bool)(L:List Tok×Nat×Int)(n:Nat):List dw×Int×Nat:=
 match IJ m b L.1 Uo 0 []with
 |(aj x,out,_,_)=>(out,x)
 |(ak,out,p,a)=>if L.2.2≠0 then(out,L.2.2,L.2.1)else(out++(m_ m b p a).2,(m_ m b p a).1,n)
def jh(m:Md)(b:Bool)(s:List UInt8):List dw×Int×Nat:=kq m b (oX m.o m.N m.tags s) s.length
theorem tE{o:Of}{N:List (List Int)}{tags:List Int}{n:Int}(hn:0<n)(ht:∀t∈tags,t<n):∀(s:List UInt8) (i:Nat) (now r:Int) (t:Nat),0<=r->r<n->0<=(iB o N tags s i now r t).1/\(iB o N tags s i now r t).1<n
 |[],_,_,_,_,h0,h1=>⟨h0,h1⟩
 | b ::s,i,now,r,t,h0,h1=>by
  rw[jG]
  by_cases c:uk o N now b<0
  simp_all;rw[if_neg c]
  by_cases c2:0<=tags.getD (uk o N now b).toNat 0
  ·rw[if_pos c2]
   refine tE hn ht s _ _ _ _ c2 ?_;rw[de]
   cases e:tags[(uk o N now b).toNat]? with
   |none=>grind
   |some z=>exact ht z (mL e)
  rw[if_neg c2];exact tE hn ht s _ _ _ _ h0 h1
theorem FZ{o:Of}{N:List (List Int)}{tags:List Int}{n:Int}(hn:0<n)(ht:∀t∈tags,t<n)(s:List UInt8):∀(f a:Nat),∀t∈(je o N tags s f a).1,0<=t.1/\t.1<n
 |0,_,_,h=>by cases h
 | f +1,a,t,h=>by
  rw[my]at h;split at h
  ·split at h
   cases h
   rcases dM.1 h with rfl|h
   exact tE hn ht _ _ _ _ _ (lm 0) hn;exact FZ hn ht s f _ t h
  cases h
theorem F0:∀{l:List Tok} {e:Nat},R4 l e->l.length+e<=BW l e
 |[],_,_=>by simp[BW]
 |t::l,e,⟨h1,h2,h3⟩=>by
  have:=F0 h3;simp only[dj,BW];omega
theorem abM{o:Of}{N:List (List Int)}{tags:List Int}(s:List UInt8):(oX o N tags s).1.length<=s.length/\(oX o N tags s).2.1<=s.length:=by
 obtain⟨h1,h2⟩:=Av (o:=o) (N:=N) (tags:=tags) (s:=s) (s.length+1) 0 (bH _) J;have h3:=F0 h1;unfold oX;rcases h2 with⟨h4,h5⟩|⟨h4,h5,h6⟩
 rw[h4];exact⟨by omega,bH _⟩;exact⟨by omega,by omega⟩
theorem afp{m:Md}{b:Bool}{T N:Nat}(h:fS m b T N):G_ m b Uo:=by
 have hg:=cU h.xz
 cases b with
 |true=>
  refine⟨λd hd=>?_,by decide⟩;simp only[Uo,eV]at hd;subst hd;unfold rj right;simp;omega
 |false=>
  refine⟨by decide,λq hq=>?_,by decide⟩;simp only[Uo,eV]at hq;subst hq;exact(h.lr I).pos
theorem sh{m:Md}{b:Bool}{T N:Nat}(h:fS m b T N){p:PS}(hp:G_ m b p){a:Nat}{t:Int}(ht:t<T)(h0:(fa m b p a t).1=0):G_ m b (fa m b p a t).2.1/\(fa m b p a t).2.2.length<=2001:=by
 cases b with
 |true=>
  obtain⟨h1,h2⟩:=hp;obtain⟨h3,h4,h5⟩:=adC h.xz ((h.ll rfl).2.nx t.toNat) rfl h0 h1 h2;exact⟨⟨h3,h4⟩,by show _<=2001;exact Nat.le_succ_of_le h5⟩
 |false=>
  obtain⟨h1,h2,h3⟩:=hp;obtain⟨h4,h5,h6,h7⟩:=Du (h.lr rfl) (col:=t.toNat) (a:=a) J 2001 h1 h2 h3 h0;simp only[iv,cX]at h7;exact⟨⟨h4,h5,h6⟩,h7⟩
theorem F3{l:List aV.Prod}{act:Nat->Nat->bI.Act}{gt:Nat->Int->Int}{col a:Nat}:∀(f:Nat) (σ:List Nat) (o:List dw),(fJ l act gt col a f σ o).1≠0->(fJ l act gt col a f σ o).2.2=[]
 |0,σ,o,_=>by rfl
 | f + 1,σ,o,h=>by
  unfold fJ at h⊢;split at h
  simp_all
  rename_i c;rw[if_neg c]
  split at h;exact absurd I h
  rename_i c2;rw[if_neg c2]
  split at h
  grind
  rename_i c3;rw[if_neg c3]
  split at h
  ·rename_i c4;rw[if_pos c4]
   cases hr:C2 l gt σ (act (σ.headD 0) col).2 with
   |none=>rfl
   | some σ'=>
    rw[hr]at h;dsimp only at h⊢;split at h
    simp_all
    rename_i c5;rw[if_neg c5];exact F3 f _ _ h
  simp_all
theorem Aw{m:Md}{b:Bool}{T N:Nat}(h:fS m b T N){p:PS}(hp:G_ m b p){a:Nat}:((m_ m b p a).1=0->(m_ m b p a).2.length<=2001)/\((m_ m b p a).1≠0->(m_ m b p a).2=[]):=by
 cases b with
 |true=>
  rcases Ij (l:=m.g.aH) (nx:=ig m.rows m.g.aT.toNat) (st:=p.1) rfl with⟨h1,h2⟩|⟨a1,h1,h2⟩
  simp_all[m_];obtain⟨_,h3,h4,_⟩:=Ag h1 rfl hp.2 (bH _);refine⟨λ_=>?_,λh0=>absurd h2 h0⟩;show(iw m.g.aH (ig m.rows m.g.aT.toNat) p.1).2.length<=2001
  grind
 |false=>
  obtain⟨h1,h2,h3⟩:=hp;refine⟨λh0=>?_,λh0=>F3 _ _ _ h0⟩;obtain⟨h4,h5,h6,h7⟩:=Du (h.lr rfl) (col:=m.g.aT.toNat) (a:=a) (by have:=h.tT;omega) 2001 h1 h2 h3 h0;simp only[iv,cX]at h7;exact h7
end gX
namespace ib
open Go.RowKit cL dQ bZ cz
theorem Ax{R:List Row}{tags:List Int}(hA:(eL R tags).Ok):∀(s:List UInt8) (i:Nat) (q r:Int) (t:Nat),St (eL R tags) q->0<=q->
 (Xq (nxR R) tags s i q r t=(r,t)/\∀k,0<k->k<=s.length->tg (eL R tags) (go (eL R tags) q (s.take k))<0)\/
 (∃k,0<k/\k<=s.length/\Xq (nxR R) tags s i q r t=(tg (eL R tags) (go (eL R tags) q (s.take k)),i+k)/\0<=tg (eL R tags) (go (eL R tags) q (s.take k))/\∀j,k<j->j<=s.length->tg (eL R tags) (go (eL R tags) q (s.take j))<0)
 |[],_,_,_,_,_,_=> .inl ⟨rfl,λk h1 h2=>by simp_all⟩
 | b ::s,i,q,r,t,hq,h0=>by
  have e:nxR R q b=dt (eL R tags) q b.toNat:=by unfold dt;rw[if_neg J];rfl
  have hst:=xF hA hq b.toNat_lt;have hgo:∀k,go (eL R tags) q ((b::s).take (k+1))=go (eL R tags) (dt (eL R tags) q b.toNat) (s.take k):=λk=>rfl;unfold Xq;rw[e];have hk:∀k,0<k->∃k',k=k'+1:=λk h=>⟨k-1,by omega⟩;generalize dt (eL R tags) q b.toNat=x at*;have agH:tags.getD x.toNat 0=(eL R tags).tag x.toNat:=rfl
  by_cases c:x<0
  ·rw[if_pos c]
   refine .inl ⟨rfl,λk h1 h2=>?_⟩;obtain⟨k,rfl⟩:=hk k h1;rw[hgo];have:=Zk (A:=eL R tags) (s.take k) c;unfold tg;rw[if_pos this];decide
  rw[if_neg c,agH];have htg:tg (eL R tags) x=(eL R tags).tag x.toNat:=by simp_all[tg,if_neg]
  by_cases c2:0<=(eL R tags).tag x.toNat
  ·rw[if_pos c2]
   right
   rcases Ax hA s (i+1) x ((eL R tags).tag x.toNat) (i+1) hst J with⟨h1,h2⟩|⟨k,h1,h2,h3,h4,h5⟩
   ·refine⟨1,by omega,by simp,?_,?_,λj h3 h4=>?_⟩
    rw[h1,hgo 0];show _=(tg (eL R tags) x,_);rw[htg];rw[hgo 0];show 0<=tg (eL R tags) x;rw[htg];exact c2;obtain⟨j,rfl⟩:=hk j J;rw[hgo];exact h2 j J (by rw[dj]at h4;omega)
   refine⟨k+1,by omega,by simp_all,?_,by simp_all,λj h6 h7=>?_⟩;rw[h3,hgo];exact nw I (by show i+1+k=i+(k+1);omega);obtain⟨j,rfl⟩:=hk j J;rw[hgo];exact h5 j J (by rw[dj]at h7;omega)
  rw[if_neg c2];rcases Ax hA s (i+1) x r t hst J with⟨h1,h2⟩|⟨k,h1,h2,h3,h4,h5⟩
  ·refine .inl ⟨h1,λk h3 h4=>?_⟩
   obtain⟨k,rfl⟩:=hk k h3;rw[hgo]
   by_cases c3:k=0
   ·subst c3
    show tg (eL R tags) x<0
    omega
   grind
  refine .inr ⟨k+1,by omega,by simp_all,?_,by simp_all,λj h6 h7=>?_⟩;rw[h3,hgo];exact nw I (by show i+1+k=i+(k+1);omega);obtain⟨j,rfl⟩:=hk j J;rw[hgo];exact h5 j J (by rw[dj]at h7;omega)
def aje(R:List Row)(tags:List Int)(s:List UInt8)(x:Tok):Prop:=
 x.2.1<x.2.2/\x.2.2<=s.length/\oW R tags ((s.drop x.2.1).take (x.2.2-x.2.1))=(x.1,0)/\∀e,x.2.2<e->e<=s.length->(oW R tags ((s.drop x.2.1).take (e-x.2.1))).1<0
theorem WH{R:List Row}{tags:List Int}(hc:lI R tags=0){s:List UInt8}{a:Nat}(ha:a<=s.length)(h:(ub R tags s a).2≠0):aje R tags s ((ub R tags s a).1,a,(ub R tags s a).2):=by
 have hA:=(oH hc).1;unfold ub at*;rcases Ax hA (s.drop a) a 0 0 0 (TS hA) aln with⟨h1,_⟩|⟨k,h1,h2,h3,h4,h5⟩
 simp_all;rw[iT]at h2 h5;rw[h3];refine⟨by simp_all,by grind,?_,λe ja fC=>?_⟩
 simp_all[Dt]
 grind[Dt]
end ib
namespace bZ
open Go.RowKit cL dQ cz ib
end bZ
namespace ib
open Go.RowKit cL dQ bZ cz
def Ay(o:Of)(N:List (List Int)):Int->List UInt8->Bool
 |now,[]=>!((N.getD now.toNat []).any λx=>decide (0<=x))
 |now,b::s=>if uk o N now b<0 then aD else Ay o N (uk o N now b) s
theorem F4(o:Of)(N:List (List Int))(now:Int)(b:UInt8)(s:List UInt8):Ay o N now (b::s)=if uk o N now b<0 then aD else Ay o N (uk o N now b) s:=rfl
def dK(o:Of)(N:List (List Int))(tags:List Int)(s:List UInt8):(Int×Nat)×Bool:=(iB o N tags s 0 0 0 0,decide (s≠[])&&Ay o N 0 s)
theorem si(o:Of)(N:List (List Int))(tags:List Int)(s:List UInt8):(dK o N tags s).1.2=0\/(0<(dK o N tags s).1.2/\(dK o N tags s).1.2<=s.length):=by
 rcases Au o N tags s 0 0 0 0 with h|h
 exact .inl h
 right
 exact⟨h.1,by have:=h.2;show(iB _ _ _ _ _ _ _ _).2<=_;omega⟩
def dF(o:Of)(N:List (List Int))(tags:List Int):Nat->Nat->List UInt8->List Tok×Nat×List UInt8×Int
 |0,a,u=>([],a,u,0)
 |f+1,a,u=>if(dK o N tags u).2=aD then(if(dK o N tags u).1.2=0 then([],a,u,9)else(((dK o N tags u).1.1,a,a+(dK o N tags u).1.2)::(dF o N tags f (a+(dK o N tags u).1.2) (u.drop (dK o N tags u).1.2)).1,(dF o N tags f (a+(dK o N tags u).1.2) (u.drop (dK o N tags u).1.2)).2))else([],a,u,0)
theorem qh(o:Of)(N:List (List Int))(tags:List Int)(f a:Nat)(u:List UInt8):dF o N tags (f+1) a u=if(dK o N tags u).2=aD then(if(dK o N tags u).1.2=0 then([],a,u,9)else(((dK o N tags u).1.1,a,a+(dK o N tags u).1.2)::(dF o N tags f (a+(dK o N tags u).1.2) (u.drop (dK o N tags u).1.2)).1,(dF o N tags f (a+(dK o N tags u).1.2) (u.drop (dK o N tags u).1.2)).2))else([],a,u,0):=rfl
def dA(o:Of)(N:List (List Int))(tags:List Int):List UInt8->Nat->List UInt8->List Tok×Nat×List UInt8×Int
 |[],a,u=>([],a,u,0)
 | b::s,a,u=>
  if(dF o N tags (u.length+2) a (u++[b])).2.2.2≠0 then((dF o N tags (u.length+2) a (u++[b])).1,(dF o N tags (u.length+2) a (u++[b])).2.1,[],9)
  else if 64<(dF o N tags (u.length+2) a (u++[b])).2.2.1.length then((dF o N tags (u.length+2) a (u++[b])).1,(dF o N tags (u.length+2) a (u++[b])).2.1,[],10)
  else((dF o N tags (u.length+2) a (u++[b])).1++(dA o N tags s (dF o N tags (u.length+2) a (u++[b])).2.1 (dF o N tags (u.length+2) a (u++[b])).2.2.1).1,(dA o N tags s (dF o N tags (u.length+2) a (u++[b])).2.1 (dF o N tags (u.length+2) a (u++[b])).2.2.1).2)
theorem iL(o:Of)(N:List (List Int))(tags:List Int)(b:UInt8)(s:List UInt8)(a:Nat)(u:List UInt8):dA o N tags (b::s) a u=
 if(dF o N tags (u.length+2) a (u++[b])).2.2.2≠0 then((dF o N tags (u.length+2) a (u++[b])).1,(dF o N tags (u.length+2) a (u++[b])).2.1,[],9)
 else if 64<(dF o N tags (u.length+2) a (u++[b])).2.2.1.length then((dF o N tags (u.length+2) a (u++[b])).1,(dF o N tags (u.length+2) a (u++[b])).2.1,[],10)
 else((dF o N tags (u.length+2) a (u++[b])).1++(dA o N tags s (dF o N tags (u.length+2) a (u++[b])).2.1 (dF o N tags (u.length+2) a (u++[b])).2.2.1).1,(dA o N tags s (dF o N tags (u.length+2) a (u++[b])).2.1 (dF o N tags (u.length+2) a (u++[b])).2.2.1).2):=rfl
theorem WI{o:Of}{N:List (List Int)}{tags:List Int}{b:UInt8}{s:List UInt8}{a0:Nat}{u0:List UInt8}{ww:List Tok}{fin:List Tok×Nat×List UInt8×Int}(h:(ww++(dA o N tags (b::s) a0 u0).1,(dA o N tags (b::s) a0 u0).2)=fin)(out:List Tok)(a:Nat)(u:List UInt8)(e:Int)
 (hD:(out,a,u,e)=(ww++(dF o N tags (u0.length+2) a0 (u0++[b])).1,(dF o N tags (u0.length+2) a0 (u0++[b])).2)):
 (e≠0->fin=(out,a,[],9))/\(e=0->64<u.length->fin=(out,a,[],10))/\(e=0->¬64<u.length->(out++(dA o N tags s a u).1,(dA o N tags s a u).2)=fin):=by
 subst h;rw[iL];generalize dF o N tags (u0.length+2) a0 (u0++[b])=D at*;obtain⟨d1,d2,d3,d4⟩:=D;simp only[jX]at hD;obtain⟨rfl,rfl,rfl,rfl⟩:=hD;refine⟨λh=>?_,λh1 h2=>?_,λh1 h2=>?_⟩
 ·rw[if_pos h]
 ·rw[if_neg (by simpa using h1),if_pos h2]
 ·rw[if_neg (by simpa using h1),if_neg h2]
  rw[eY]
theorem qi{o:Of}{N:List (List Int)}{tags:List Int}:∀(f a:Nat) (u:List UInt8),u.length<f->a<=(dF o N tags f a u).2.1/\(dF o N tags f a u).2.1<=a+u.length/\(dF o N tags f a u).2.2.1=u.drop ((dF o N tags f a u).2.1-a)/\((dF o N tags f a u).2.2.2=9\/((dF o N tags f a u).2.2.2=0/\(dK o N tags (dF o N tags f a u).2.2.1).2=aF))
 |0,_,_,h=>by omega
 | f +1,a,u,h=>by
  rw[qh]
  by_cases c:(dK o N tags u).2=aD
  ·rw[if_pos c]
   by_cases c2:(dK o N tags u).1.2=0
   simp_all
   rw[if_neg c2];have hto:=(si o N tags u).resolve_left c2;obtain⟨h1,h2,h3,h4⟩:=qi (o:=o) (N:=N) (tags:=tags) f (a+(dK o N tags u).1.2) (u.drop (dK o N tags u).1.2) (by grind);rw[iT]at h2;refine⟨by grind,by grind,?_,h4⟩;dsimp only;rw[h3,nt]
   grind
  simp_all
theorem abN{o:Of}{N:List (List Int)}{tags:List Int}(hg:ko o N tags){q:Nat}(hq:q<N.length)(h:Ay o N (q:Int) []=aD)(b:UInt8):uk o N (q:Int) b<0:=by
 obtain⟨_,hw,e,_⟩:=BT hg hq b;have hN:N.getD ((q:Int).toNat) []=N[q]:=by simp_all
 have h:(!((N.getD ((q:Int).toNat) []).any λx=>decide (0<=x)))=true:=h;rw[hN,AR,y8]at h;have:=h _ (cH hw);rw[e]
 simpa using this
theorem y'{o:Of}{N:List (List Int)}{tags:List Int}(hg:ko o N tags)(m:List UInt8):∀(u:List UInt8) (i:Nat) (q:Nat) (r:Int) (t:Nat),q<N.length->Ay o N (q:Int) u=aD->iB o N tags (u++m) i (q:Int) r t=iB o N tags u i (q:Int) r t
 | [],i,q,r,t,hq,h=>by
  cases m with
  |nil=>rfl
  | cons b m=>
   show iB o N tags (b::m) i (q:Int) r t=(r,t)
   rw[jG,if_pos (abN hg hq h b)]
 | b::u,i,q,r,t,hq,h=>by
  rw[F4]at h;obtain⟨_,_,_,h1,h2⟩:=BT hg hq b;rw[kD,jG,jG]
  by_cases c:uk o N (q:Int) b<0
  simp_all;rw[if_neg c]at h;obtain⟨x,hx⟩:=gU (show 0<=uk o N (q:Int) b by omega);rw[hx]at h h2⊢;rw[y' hg m u _ x _ _ J h,y' hg m u _ x _ _ J h]
theorem qO{o:Of}{N:List (List Int)}{tags:List Int}(a:Nat):∀(u:List UInt8) (i:Nat) (now r:Int) (t t':Nat),((t=0/\t'=0)\/(t≠0/\t'=a+t))->
 (iB o N tags u (a+i) now r t').1=(iB o N tags u i now r t).1/\(((iB o N tags u i now r t).2=0/\(iB o N tags u (a+i) now r t').2=0)\/((iB o N tags u i now r t).2≠0/\(iB o N tags u (a+i) now r t').2=a+(iB o N tags u i now r t).2))
 |[],_,_,_,_,_,h=>⟨rfl,h⟩
 | b ::u,i,now,r,t,t',h=>by
  rw[jG,jG]
  by_cases c:uk o N now b<0
  simp_all;rw[if_neg c,if_neg c]
  by_cases c2:0<=tags.getD (uk o N now b).toNat 0
  ·rw[if_pos c2,if_pos c2]
   exact qO a u (i+1) _ _ (i+1) (a+i+1) (.inr ⟨yV i,rfl⟩)
  rw[if_neg c2,if_neg c2];exact qO a u (i+1) _ _ t t' h
theorem abO{o:Of}{N:List (List Int)}{tags:List Int}(hg:ko o N tags){full u m:List UInt8}{a:Nat}(hf:full.drop a=u++m)(h:(dK o N tags u).2=aD):u≠[]/\(kx o N tags full a).1=(dK o N tags u).1.1/\(((dK o N tags u).1.2=0/\(kx o N tags full a).2=0)\/((dK o N tags u).1.2≠0/\(kx o N tags full a).2=a+(dK o N tags u).1.2)):=by
 have h:(decide (u≠[])&&Ay o N 0 u)=true:=h;rw[fc,decide_eq_true_eq]at h;refine⟨h.1,?_⟩;unfold kx;rw[hf];have e:=y' hg m u a 0 0 0 hg.pos h.2;have e:iB o N tags (u++m) a 0 0 0=iB o N tags u a 0 0 0:=e;rw[e];exact qO (o:=o) (N:=N) (tags:=tags) a u 0 0 0 0 0 (.inl ⟨rfl,rfl⟩)
theorem IK{o:Of}{N:List (List Int)}{tags:List Int}(hg:ko o N tags){full m:List UInt8}:∀(f a:Nat) (u:List UInt8) (F:Nat),u.length<f->full.drop a=u++m->full.length<a+F->
 ((dF o N tags f a u).2.2.2=9->je o N tags full F a=((dF o N tags f a u).1,(dF o N tags f a u).2.1,9))/\
 ((dF o N tags f a u).2.2.2=0->∃F',full.length<(dF o N tags f a u).2.1+F'/\je o N tags full F a=((dF o N tags f a u).1++(je o N tags full F' (dF o N tags f a u).2.1).1,(je o N tags full F' (dF o N tags f a u).2.1).2))
 |0,_,_,_,h,_,_=>by omega
 | f + 1,a,u,F,h,hf,hF=>by
  rw[qh]
  by_cases c:(dK o N tags u).2=aD
  ·rw[if_pos c]
   obtain⟨h1,h2,h3⟩:=abO hg hf c;have hlt:a<full.length:=by
    have:=congrArg yU hf;rw[iT,bK]at this;have:=abC.2 h1;omega
   obtain⟨F,rfl⟩:∃F',F=F'+1:=by
    cases F with
    |zero=>omega
    |succ n=>simp
   rw[my,if_pos hlt]
   by_cases c2:(dK o N tags u).1.2=0
   simp_all
   rw[if_neg c2];have h4:=(h3.resolve_left λh=>c2 h.1).2;have hto:=(si o N tags u).resolve_left c2;rw[if_neg J,h4,h2];have ih:=IK hg (full:=full) (m:=m) f (a+(dK o N tags u).1.2) (u.drop (dK o N tags u).1.2) F (by grind) (by rw[<-nt,hf,abB hto.2]) J;refine⟨λh=>?_,λh=>?_⟩;rw[ih.1 h];obtain⟨F',k1,k2⟩:=ih.2 h;exact⟨F',k1,by rw[k2];rfl⟩
  grind
theorem F5{o:Of}{N:List (List Int)}{tags:List Int}(hg:ko o N tags){full m:List UInt8}:∀(s:List UInt8) (a:Nat) (u:List UInt8) (F:Nat),full.drop a=u++(s++m)->full.length<a+F->
 ((dA o N tags s a u).2.2.2=9->je o N tags full F a=((dA o N tags s a u).1,(dA o N tags s a u).2.1,9))/\
 (∃F',full.length<(dA o N tags s a u).2.1+F'/\((dA o N tags s a u).2.2.2≠9->je o N tags full F a=((dA o N tags s a u).1++(je o N tags full F' (dA o N tags s a u).2.1).1,(je o N tags full F' (dA o N tags s a u).2.1).2)))
 |[],a,u,F,hf,hF=>⟨λh=>absurd (show(0:Int)=9 from h) aln,F,hF,λ_=>rfl⟩
 | b ::s,a,u,F,hf,hF=>by
  have hk:=qi (o:=o) (N:=N) (tags:=tags) (u.length+2) a (u++[b]) (by simp);have hd:=IK hg (full:=full) (m:=s++m) (u.length+2) a (u++[b]) F (by simp) (by simp_all) hF;rw[iL];generalize dF o N tags (u.length+2) a (u++[b])=D at*;obtain⟨d1,d2,d3,d4⟩:=D;dsimp only at hk hd⊢;obtain⟨k1,k2,k3,k4⟩:=hk
  by_cases c1:d4≠0
  ·rw[if_pos c1]
   have h9:d4=9:=k4.resolve_right λh=>c1 h.1;exact⟨λ_=>hd.1 h9,full.length+1,by omega,λh=>absurd I h⟩
  rw[if_neg c1];obtain⟨F',k5,k6⟩:=hd.2 J
  by_cases c2:64<d3.length
  simp_all
  rw[if_neg c2];have zO:full.drop d2=d3++(s++m):=by
   have e1:full.drop a=(u++[b])++(s++m):=by simp_all
   have e2:d2=a+(d2-a):=by omega
   rw[e2,<-nt,e1,abB J,k3]
  obtain⟨ih1,F2,ih2,ih3⟩:=F5 hg s d2 d3 F' zO k5;refine⟨λh=>?_,F2,ih2,λh=>?_⟩;rw[k6,ih1 h];rw[k6,ih3 h,eY]
end ib
namespace gX
open aV dO eX ib bI cz bZ
theorem Az{m:Md}{b:Bool}(z:List Tok):∀(x:List Tok) (p:PS) (a:Nat) (out:List dw),IJ m b (x++z) p a out=match IJ m b x p a out with|(aj e,r)=>(aj e,r)|(ak,aif,p',a')=>IJ m b z p' a' aif
 |[],p,a,out=>rfl
 | t::x,p,a,out=>by
  rw[kD,qf,qf]
  by_cases c:ma m t<0
  rw[if_pos c,if_pos c];exact Az z x p a out;rw[if_neg c,if_neg c]
  by_cases d:(fa m b p a (ma m t)).1≠0
  simp_all;rw[if_neg d,if_neg d];exact Az z x _ _ _
theorem KR{m:Md}{b:Bool}:∀(x:List Tok) (p:PS) (a:Nat) (out:List dw),∃E,(IJ m b x p a out).2.1=out++E
 |[],p,a,out=>⟨[],(dY _).symm⟩
 | t::x,p,a,out=>by
  rw[qf]
  by_cases c:ma m t<0
  rw[if_pos c];exact KR x p a out;rw[if_neg c]
  by_cases d:(fa m b p a (ma m t)).1≠0
  simp_all;rw[if_neg d];obtain⟨E,h⟩:=KR x (fa m b p a (ma m t)).2.1 (a+1) (out++(fa m b p a (ma m t)).2.2);exact⟨_,by rw[h,eY]⟩
end gX
namespace ib
open Go.RowKit cL dQ bZ cz
theorem F6{o:Of}{N:List (List Int)}{tags:List Int}:∀(s t:List UInt8) (a:Nat) (u:List UInt8),dA o N tags (s++t) a u=
 if(dA o N tags s a u).2.2.2≠0 then dA o N tags s a u else((dA o N tags s a u).1++(dA o N tags t (dA o N tags s a u).2.1 (dA o N tags s a u).2.2.1).1,(dA o N tags t (dA o N tags s a u).2.1 (dA o N tags s a u).2.2.1).2)
 | [],t,a,u=>by
  rfl
 | b::s,t,a,u=>by
  rw[kD,iL,iL];generalize dF o N tags (u.length+2) a (u++[b])=D at*
  by_cases c1:D.2.2.2≠0
  simp_all;rw[if_neg c1,if_neg c1]
  by_cases c2:64<D.2.2.1.length
  simp_all;rw[if_neg c2,if_neg c2];rw[F6 s t]
  grind
def iw(o:Of)(N:List (List Int))(tags:List Int):Nat->Nat->List UInt8->List Tok×Nat×Int
 |0,a,_=>([],a,0)
 |f+1,a,u=>if u=[]then([],a,0)else if(dK o N tags u).1.2=0 then([],a,9)else(((dK o N tags u).1.1,a,a+(dK o N tags u).1.2)::(iw o N tags f (a+(dK o N tags u).1.2) (u.drop (dK o N tags u).1.2)).1,(iw o N tags f (a+(dK o N tags u).1.2) (u.drop (dK o N tags u).1.2)).2)
theorem AA(o:Of)(N:List (List Int))(tags:List Int)(f a:Nat)(u:List UInt8):iw o N tags (f+1) a u=if u=[]then([],a,0)else if(dK o N tags u).1.2=0 then([],a,9)else(((dK o N tags u).1.1,a,a+(dK o N tags u).1.2)::(iw o N tags f (a+(dK o N tags u).1.2) (u.drop (dK o N tags u).1.2)).1,(iw o N tags f (a+(dK o N tags u).1.2) (u.drop (dK o N tags u).1.2)).2):=rfl
theorem Uq{o:Of}{N:List (List Int)}{tags:List Int}{full:List UInt8}:∀(f a:Nat) (u:List UInt8) (F:Nat),u.length<f->full.drop a=u->a+u.length=full.length->full.length<a+F->
 ((iw o N tags f a u).2.2=9/\je o N tags full F a=((iw o N tags f a u).1,(iw o N tags f a u).2.1,9))\/((iw o N tags f a u).2=(full.length,0)/\je o N tags full F a=((iw o N tags f a u).1,0,0))
 |0,_,_,_,h,_,_,_=>by omega
 | f+1,a,u,F,h,hu,hl,hF=>by
  obtain⟨F,rfl⟩:∃F',F=F'+1:=⟨F-1,by omega⟩;rw[AA,my]
  by_cases c1:u=[]
  simp_all
  rw[if_neg c1];have xp:=abC.2 c1;rw[if_pos (show a<full.length by omega)];have e:=qO (o:=o) (N:=N) (tags:=tags) a u 0 0 0 0 0 (.inl ⟨rfl,rfl⟩);have e1:kx o N tags full a=iB o N tags u (a+0) 0 0 0:=by simp_all[kx]
  rw[<-e1]at e;have e2:iB o N tags u 0 0 0 0=(dK o N tags u).1:=rfl;rw[e2]at e
  by_cases c2:(dK o N tags u).1.2=0
  simp_all
  rw[if_neg c2];have h4:=(e.2.resolve_left λh=>c2 h.1).2;have hto:=(si o N tags u).resolve_left c2;have UM:(u.drop (dK o N tags u).1.2).length=u.length-(dK o N tags u).1.2:=iT ..;rw[if_neg J,h4,e.1];rcases Uq (full:=full) f (a+(dK o N tags u).1.2) (u.drop (dK o N tags u).1.2) F J (by grind[nt]) J J with ih|ih
  exact .inl ⟨ih.1,by grind⟩;exact .inr ⟨ih.1,by rw[ih.2]⟩
theorem IL{o:Of}{N:List (List Int)}{tags:List Int}:∀(f a:Nat) (u:List UInt8),(dF o N tags f a u).1.length+a<=(dF o N tags f a u).2.1
 |0,a,_=>by show 0+a<=a;omega
 | f +1,a,u=>by
  rw[qh]
  by_cases c:(dK o N tags u).2=aD
  ·rw[if_pos c]
   by_cases c2:(dK o N tags u).1.2=0
   simp_all;rw[if_neg c2];have ih:=IL (o:=o) (N:=N) (tags:=tags) f (a+(dK o N tags u).1.2) (u.drop (dK o N tags u).1.2);dsimp only[dj];omega
  simp_all
theorem AB{o:Of}{N:List (List Int)}{tags:List Int}:∀(s:List UInt8) (a:Nat) (u:List UInt8),(dA o N tags s a u).1.length+a<=(dA o N tags s a u).2.1/\(dA o N tags s a u).2.1+(dA o N tags s a u).2.2.1.length<=a+u.length+s.length
 |[],a,u=>⟨by show 0+a<=a;omega,by show a+u.length<=a+u.length+0;omega⟩
 | b::s,a,u=>by
  have h1:=IL (o:=o) (N:=N) (tags:=tags) (u.length+2) a (u++[b]);have hk:=qi (o:=o) (N:=N) (tags:=tags) (u.length+2) a (u++[b]) (by simp);have hl:(u++[b]).length=u.length+1:=by simp
  rw[iL];generalize dF o N tags (u.length+2) a (u++[b])=D at*;obtain⟨d1,d2,d3,d4⟩:=D;dsimp only at h1 hk⊢;rw[dj];rw[hl]at hk
  by_cases c1:d4≠0
  grind
  rw[if_neg c1]
  by_cases c2:64<d3.length
  grind
  rw[if_neg c2];have ih:=AB (o:=o) (N:=N) (tags:=tags) s d2 d3;have h3:d3.length=u.length+1-(d2-a):=by rw[hk.2.2.1,iT,hl]
  dsimp only;rw[bK];omega
theorem Dz{o:Of}{N:List (List Int)}{tags:List Int}:∀(f a:Nat) (u:List UInt8),(iw o N tags f a u).1.length+a<=(iw o N tags f a u).2.1/\(iw o N tags f a u).2.1<=a+u.length/\((iw o N tags f a u).2.2=0\/(iw o N tags f a u).2.2=9)
 |0,a,_=>⟨by show 0+a<=a;omega,by show a<=a+_;omega,.inl I⟩
 | f+1,a,u=>by
  rw[AA]
  by_cases c:u=[]
  simp_all;rw[if_neg c]
  by_cases c2:(dK o N tags u).1.2=0
  simp_all;rw[if_neg c2];have ih:=Dz (o:=o) (N:=N) (tags:=tags) f (a+(dK o N tags u).1.2) (u.drop (dK o N tags u).1.2);have hto:=(si o N tags u).resolve_left c2;rw[iT]at ih;dsimp only[dj];exact⟨by omega,by omega,ih.2.2⟩
end ib
namespace f_
open aV dO eX ib bI cz bZ gX
open ia (Ev qM takeN)
structure fx where
 jT:Int
 mz:Int
 dZ:Nat
 jV:List UInt8
 ended:Bool
 kP:Bool
 dy:Nat
 iU:List UInt8
 lz:Int
 bad:Int
 eb:List Tok
 p:PS
 seen:Nat
 rz:Int
 sj:Bool
 wait:List Ev
 cr:Int
 gone:Int
 over:Bool
 fq:Int
 pl:Nat
def wR(jT mz:Int):fx:=⟨jT,mz,0,[],aF,aF,0,[],0,0,[],Uo,0,0,aF,[],0,0,aF,0,0⟩
def za(b:Bool)(p:PS):PS:=if b then([],p.2)else(p.1,[])
def jW(s:fx)(e:Int)(pl:Nat):fx:={s with over:=aD,fq:=e,pl:=pl}
def xf(s:fx)(e:Int)(pl:Nat):fx:={jW s e pl with wait:=[]}
def lK(s:fx)(x:List UInt8):fx×Int:=
 if s.over=aD\/s.ended=aD then(s,15)else if 1024<x.length then(s,2)
 else if s.jT<x.length then(xf s 16 s.dZ,16)
 else({s with jT:=s.jT-x.length,dZ:=s.dZ+x.length,jV:=s.jV++x},0)
def jH(s:fx):fx×Int:=if s.over=aD\/s.ended=aD then(s,15)else({s with ended:=aD},0)
def tF(s:fx)(n:Int):fx×Int:=if s.over=aD/\s.wait=[]then(s,15)else if n<1\/1073741824<n then(s,1)else({s with cr:=min (s.cr+n) 1073741824},0)
def iy(s:fx):Bool:=!s.over&&decide (s.wait.length<200)&&(decide (s.eb≠[])||decide (s.bad≠0)||decide (s.jV≠[])||s.ended)
def dS(s:fx)(n:Int):fx×List Ev:=
 if n<0 then(s,[])else({s with wait:=s.wait.drop (takeN s.wait s.cr n),cr:=s.cr-(takeN s.wait s.cr n:Nat),gone:=s.gone+(takeN s.wait s.cr n:Nat)},s.wait.take (takeN s.wait s.cr n))
def CD(s:fx):Int×Nat×Bool:=if s.over=aD/\s.wait=[]then(s.fq,s.pl,aD)else(0,0,aF)
def qA(m:Md)(b:Bool)(s:fx)(t:Int):fx×Int:=
 ({s with p:=(fa m b s.p s.seen t).2.1,seen:=if(fa m b s.p s.seen t).1=0 then s.seen+1 else s.seen,rz:=(fa m b s.p s.seen t).1,wait:=s.wait++(fa m b s.p s.seen t).2.2},(fa m b s.p s.seen t).1)
def qP(s:fx)(e:Int)(pl:Nat):fx:=if e≠0 then jW s e pl else s
def qj(m:Md)(b:Bool)(s:fx):fx×Int:=
 ({s with p:=za b s.p,rz:=(m_ m b s.p s.seen).1,sj:=decide ((m_ m b s.p s.seen).1=0),wait:=s.wait++(m_ m b s.p s.seen).2},(m_ m b s.p s.seen).1)
def AC(m:Md)(s:fx)(c:UInt8):List Tok×Nat×List UInt8×Int:=dA m.o m.N m.tags [c] s.dy s.iU
def IM(m:Md)(s:fx)(c:UInt8)(r:List UInt8):fx:=
 {s with jV:=r,eb:=(AC m s c).1,dy:=(AC m s c).2.1,iU:=(AC m s c).2.2.1,lz:=(AC m s c).2.2.2,bad:=(AC m s c).2.2.2}
def wS(m:Md)(s:fx):List Tok×Nat×Int:=iw m.o m.N m.tags (s.iU.length+1) s.dy s.iU
def BX(m:Md)(s:fx):fx:=
 {s with kP:=aD,eb:=(wS m s).1,dy:=(wS m s).2.1,iU:=[],lz:=if(wS m s).2.2=0 then 15 else 9,bad:=(wS m s).2.2}
def g_(m:Md)(b:Bool)(s:fx):fx:=
 match s.eb with
 |t::r=>if ma m t<0 then {s with eb:=r}else qP (qA m b {s with eb:=r} (ma m t)).1 (qA m b {s with eb:=r} (ma m t)).2 t.2.1
 | []=>if s.bad≠0 then jW s s.bad s.dy else
  match s.jV with
  |c::r=>IM m s c r
  |[]=>if s.kP=aF then BX m s else jW (qj m b s).1 (qj m b s).2 s.dZ
def eE(m:Md)(b:Bool):Nat->fx->fx×Nat
 |0,s=>(s,0)
 |k+1,s=>if iy s=aD then((eE m b k (g_ m b s)).1,(eE m b k (g_ m b s)).2+1)else(s,0)
structure ic(m:Md)(b:Bool)(s:fx):Prop where
 jT:0<=s.jT
 tY:s.jT+s.dZ<=4096
 mz:0<=s.mz/\s.mz<=1000
 jV:s.dy+s.iU.length+s.jV.length<=s.dZ
 iU:s.iU.length<=64
 lz:s.bad=0->s.kP=aF->s.lz=0
 seen:s.seen+s.eb.length<=s.dy
 tok:∀t∈s.eb,0<=t.1/\t.1<(m.of.length:Int)
 live:s.over=aF->s.rz=0/\s.sj=aF/\G_ m b s.p
 kP:s.kP=aD->s.jV=[]/\s.ended=aD
 ev:s.wait.any qM=aF
 Xb:s.gone+s.wait.length<=(s.seen+if s.over=aD then 1 else 0)*2001
 wl:s.wait.length<=2201
 cr:0<=s.cr/\s.cr<=1073741824
 gone:0<=s.gone
theorem Ur{m:Md}{b:Bool}{T N:Nat}(h:fS m b T N){x y:Int}(hx:0<=x)(fK:x<=4096)(hy:0<=y)(hy2:y<=1000):ic m b (wR x y):=by
 refine⟨hx,by show x+0<=4096;omega,⟨hy,hy2⟩,bC _,bH _,λ_ _=>rfl,bC _,λt ht=>(by cases ht),λ_=>⟨rfl,rfl,afp h⟩,λh=>(by cases h),rfl,by simp[wR],bH _,⟨lm _,by simp[wR]⟩,lm _⟩
theorem BY{g:ep}(hP:g.aH.length<=40):∀{st:List TD} {out:List dw} {a:Nat},(∀d∈st,rj g d)->(∀x∈out,qM x=aF)->∀x∈(bT st out a).2.1,qM x=aF
 |[],out,a,_,h=>h
 | .sym x::r,out,a,_,h=>h
 | .close p::r,out,a,hd,h=>by
  have h2:∀x∈out++[((3:Int),p)],qM x=false:=λx hx=>by
   rcases gj.1 hx with hx|hx
   simp_all;obtain⟨h0,h1⟩:=hd _ (iO ..);rw[eV.1 hx];simp only[qM,Bool.or_eq_false_iff,decide_eq_false_iff_not];omega
  unfold bT;split;exact BY hP (λd Ya=>hd d (kJ _ Ya)) h2;exact h2
theorem DA{k n:Int}(h1:1<=k)(h2:k<=4)(h3:0<=n)(h4:n<=1099511627776):qM (k,n)=false:=by
 simp_all[qM]
theorem KS{g:ep}(hg:aV.cC g=0)(hP:g.aH.length<=40){nx:Int->Int}(hn:adB g.aH nx):∀{f:Nat} {st:List TD} {out:List dw} {a:Nat},(∀d∈st,rj g d)->(∀x∈out,qM x=aF)->∀x∈(fR g.aH nx f st out a).2.1,qM x=aF
 |0,st,out,a,_,h=>h
 | f + 1,st,out,a,hd,h=>by
  have h1:=BY hP (a:=a) hd h;have hd1:=rU (out:=out) (a:=a) hd;unfold fR;split;exact h1;generalize hc:(bT st out a).1=C at*;split
  ·rename_i x r
   split;exact h1;split;exact h1
   rename_i c
   obtain⟨h3,-⟩:=hn x.2 J;have h2:∀y∈(bT st out a).2.1++[((1:Int),nx x.2)],qM y=false:=λy hy=>by
    grind[DA]
   split;exact KS hg hP hn (BC hg J h3 λd Ya=>hd1 d (kJ _ Ya)) h2;exact h2
  omega
theorem KT{g:ep}{T N:Nat}{A:List (List bI.Act)}{G:List (List Int)}(h:sb g T N A G)(hP:g.aH.length<=40){col a:Nat}(hc:col<=T)(ha:a<=1000000):∀(f:Nat) {σ:List Nat} {o:List dw},σ≠[]->(∀q∈σ,q<A.length)->(∀x∈o,qM x=aF)->∀x∈(fJ g.aH (ii A) (eQ G) col a f σ o).2.2,qM x=aF
 |0,σ,o,_,_,_=>by simp[fJ]
 | f + 1,σ,o,hne,hq,ho=>by
  have hd:σ.headD 0<A.length:=by
   cases σ with
   |nil=>simp_all
   |cons q σ=>simp_all
  have hr:=h.right hd hc;unfold fJ;generalize ii A (σ.headD 0) col=x at*
  by_cases c1:f=0/\x.1≠0
  simp_all;rw[if_neg c1]
  by_cases c2:x.1=3
  simp_all;rw[if_neg c2]
  by_cases c3:x.1=1
  ·rw[if_pos c3]
   grind[DA]
  rw[if_neg c3]
  by_cases c4:x.1=2
  ·rw[if_pos c4]
   have hx:0<=x.2/\x.2<(g.aH.length:Int):=by rcases hr with⟨h1,_⟩|⟨h1,_⟩|⟨_,h1,h2⟩|⟨h1,_⟩<;>omega
   cases e:C2 g.aH (eQ G) σ x.2 with
   |none=>simp
   | some σ'=>
    obtain⟨r1,r2,r3⟩:=KD h hx.1 hx.2 hq e;dsimp only
    by_cases c5:60<σ'.length
    simp_all;rw[if_neg c5];refine KT h hP hc ha f r1 r3 λy hy=>?_;rcases gj.1 hy with hy|hy
    exact ho y hy;rw[eV.1 hy];exact DA aln aln J J
  simp_all
theorem KU{m:Md}{b:Bool}{T N:Nat}(h:fS m b T N){p:PS}(hp:G_ m b p){a:Nat}(ha:a<=1000000){t:Int}(ht:t<T):∀x∈(fa m b p a t).2.2,qM x=false:=by
 have hP:=(cU h.xz).2.2.2.2.1
 cases b with
 | true=>
  obtain⟨h1,h2⟩:=hp;have hn:=(h.ll I).2.nx t.toNat;have hd:=KS h.xz hP hn (f:=2001) (st:=p.1) (out:=[]) (a:=0) h1 (by simp);have ho:=λR (hR:fR m.g.aH (ig m.rows t.toNat) 2001 p.1 [] 0=R) h0=>Ka h.xz hn (f:=2001) (st:=p.1) (out:=[]) (a:=0) hR h0 h1;intro x hx;have hx:x∈(jq m.g.aH (ig m.rows t.toNat) p.1 a t).2.2:=hx;unfold jq at hx;generalize fR m.g.aH (ig m.rows t.toNat) 2001 p.1 [] 0=D at*;obtain⟨st1,o1,a1,e⟩:=D;dsimp only at hx hd;split at hx
  grind
  rename_i c
  have ho:=ho _ I (by simp_all);split at hx
  ·rename_i y r
   split at hx
   cases hx
   split at hx
   ·refine BY hP (λd Ya=>ho d (kJ _ Ya)) (λz hz=>?_) x hx
    rcases gj.1 hz with hz|hz
    exact hd z hz;rw[eV.1 hz];exact DA aln aln J J
   cases hx
  cases hx
 | false=>
  obtain⟨h1,h2,h3⟩:=hp;exact KT (h.lr I) hP J ha 2001 h1 h2 (by simp)
theorem R5{m:Md}{b:Bool}{T N:Nat}(h:fS m b T N){p:PS}(hp:G_ m b p){a:Nat}(ha:a<=1000000):∀x∈(m_ m b p a).2,qM x=false:=by
 have hP:=(cU h.xz).2.2.2.2.1
 cases b with
 |true=>
  obtain⟨h1,h2⟩:=hp;have hn:=(h.ll I).2.nx m.g.aT.toNat;have hd:=KS h.xz hP hn (f:=2001) (st:=p.1) (out:=[]) (a:=0) h1 (by simp);intro x hx;have hx:x∈(eX.iw m.g.aH (ig m.rows m.g.aT.toNat) p.1).2:=hx;unfold eX.iw at hx;generalize fR m.g.aH (ig m.rows m.g.aT.toNat) 2001 p.1 [] 0=D at*;obtain⟨st1,o1,a1,e⟩:=D;dsimp only at hx hd;split at hx
  cases hx
  split at hx;exact hd x hx
  cases hx
 |false=>
  obtain⟨h1,h2,h3⟩:=hp;exact KT (h.lr I) hP (by have:=h.tT;omega) ha 2001 h1 h2 (by simp)
open ia (Ev qM takeN)
section
variable{o:Of}{N:List (List Int)}{tags:List Int}{n:Int}(hn:0<n)(ht:∀t∈tags,t<n)
include hn ht
theorem IN(s:List UInt8):0<=(dK o N tags s).1.1/\(dK o N tags s).1.1<n:=tE hn ht s 0 0 0 0 (lm 0) hn
theorem tG:∀(f a:Nat) (u:List UInt8),∀t∈(dF o N tags f a u).1,0<=t.1/\t.1<n
 |0,_,_,_,h=>by cases h
 | f +1,a,u,t,h=>by
  rw[qh]at h;split at h
  ·split at h
   cases h
   rcases dM.1 h with rfl|h
   exact IN hn ht u;exact tG f _ _ t h
  cases h
theorem IP:∀(s:List UInt8) (a:Nat) (u:List UInt8),∀t∈(dA o N tags s a u).1,0<=t.1/\t.1<n
 |[],_,_,_,h=>by cases h
 | b::s,a,u,t,h=>by
  rw[iL]at h;split at h;exact tG hn ht _ _ _ t h;split at h;exact tG hn ht _ _ _ t h;rcases gj.1 h with h|h
  exact tG hn ht _ _ _ t h;exact IP s _ _ t h
theorem N8:∀(f a:Nat) (u:List UInt8),∀t∈(iw o N tags f a u).1,0<=t.1/\t.1<n
 |0,_,_,_,h=>by cases h
 | f+1,a,u,t,h=>by
  rw[AA]at h;split at h
  cases h
  split at h
  cases h
  rcases dM.1 h with rfl|h
  exact IN hn ht u;exact N8 f _ _ t h
end
theorem N9{o:Of}{N:List (List Int)}{tags:List Int}:∀(s:List UInt8) (a:Nat) (u:List UInt8),u.length<=64->(dA o N tags s a u).2.2.1.length<=64
 |[],_,_,h=>h
 | b::s,a,u,h=>by
  rw[iL];split;exact bH _;split;exact bH _;exact N9 s _ _ J
theorem Us{a l:List Ev}(h:a.any qM=aF)(h2:∀x∈l,qM x=aF):(a++l).any qM=false:=by
 simp_all
theorem sk{s:fx}(h:iy s=aD):s.over=aF/\s.wait.length<200/\(s.eb≠[]\/s.bad≠0\/s.jV≠[]\/s.ended=aD):=by
 unfold iy at h;simp only[fc,AR,Bool.or_eq_true,decide_eq_true_eq]at h;exact⟨h.1.1,h.1.2,by rcases h.2 with((h|h)|h)|h<;>simp[h]⟩
theorem N_{m:Md}{b:Bool}{T N:Nat}(h:fS m b T N){p:PS}(hp:G_ m b p){a:Nat}{t:Int}(ht:t<T):(fa m b p a t).2.2.length<=2001/\((fa m b p a t).1≠0->(fa m b p a t).2.2=[]):=by
 have hb:(fa m b p a t).1≠0->(fa m b p a t).2.2=[]:=λh0=>by
  cases b with
  |true=>
   rcases yP (l:=m.g.aH) (nx:=ig m.rows t.toNat) (st:=p.1) (seen:=a) (t:=t) rfl with⟨h1,h2⟩|⟨x,r,o,a1,h1,h2,h3,h4,h5,h6⟩
   exact congrArg BQ h2;exact absurd (congrArg RT h6) h0
  |false=>exact F3 2001 p.2 [] h0
 refine⟨?_,hb⟩
 by_cases c:(fa m b p a t).1=0
 grind[sh];rw[hb c];exact bH _
theorem Ut{m:Md}{b:Bool}{T N:Nat}(hk:fS m b T N){s:fx}(hs:ic m b s)(hr:iy s=aD):ic m b (g_ m b s):=by
 obtain⟨r1,r2,r3⟩:=sk hr;obtain⟨h1,h2,h3,h4,h5,h6,h7,h8,h9,NE,Oa,h12,Uu,Ob,Oc⟩:=hs;obtain⟨l1,l2,l3⟩:=h9 r1;have hn:(0:Int)<m.of.length:=by have:=hk.some;omega
 have hse:s.seen<=4096:=by omega
 rw[r1]at h12;simp only[rm,if_false]at h12;unfold g_
 cases e1:s.eb with
 | cons t l=>
  rw[e1]at h7 h8;simp only[dj]at h7;have h8':=λu hu=>h8 u (kJ _ hu);dsimp only
  by_cases c1:ma m t<0
  ·rw[if_pos c1]
   exact⟨h1,h2,h3,h4,h5,h6,by grind,h8',λ_=>⟨l1,l2,l3⟩,NE,Oa,by simp_all,Uu,Ob,Oc⟩
  rw[if_neg c1];obtain⟨t0,t1⟩:=h8 t (iO ..);have hl:ma m t<T:=by
   unfold ma;rw[de,bM J,jD];have:=(hk.ofs _ (cH (show t.1.toNat<m.of.length by omega))).2;have:=hk.tT;omega
  obtain⟨g1,g2⟩:=N_ hk l3 (a:=s.seen) hl;have g3:=KU hk l3 (a:=s.seen) J hl;have g4:=sh hk l3 (a:=s.seen) hl;unfold qP qA;generalize fa m b s.p s.seen (ma m t)=R at*;have hlen:(s.wait++R.2.2).length<=s.wait.length+2001:=by simp_all
  by_cases c2:R.1≠0
  ·rw[if_pos c2]
   unfold jW;rw[g2 c2,dY,if_neg c2];exact⟨h1,h2,h3,h4,h5,h6,by grind,h8',λh=>(by cases h),NE,Oa,by grind,Uu,Ob,Oc⟩
  rw[if_neg c2];have c3:R.1=0:=by omega
  rw[if_pos c3];refine⟨h1,h2,h3,h4,h5,h6,by grind,h8',λ_=>⟨c3,l2,(g4 c3).1⟩,NE,Us Oa g3,by grind,by grind,Ob,Oc⟩
 | nil =>
  rw[e1]at h7 h8 r3;simp only[iv,ne_eq,not_true_eq_false,false_or]at h7 r3
  by_cases c1:s.bad≠0
  ·rw[if_pos c1]
   unfold jW;exact⟨h1,h2,h3,h4,h5,h6,by simp_all,by simp_all,λh=>(by cases h),NE,Oa,by grind,Uu,Ob,Oc⟩
  rw[if_neg c1];have c1:s.bad=0:=by omega
  cases e2:s.jV with
  | cons c r=>
   rw[e2]at h4;simp only[dj]at h4;dsimp only;unfold IM AC;have hc:=AB (o:=m.o) (N:=m.N) (tags:=m.tags) [c] s.dy s.iU;have hb:=N9 (o:=m.o) (N:=m.N) (tags:=m.tags) [c] s.dy s.iU h5;have JX:=IP (o:=m.o) (N:=m.N) (tags:=m.tags) hn hk.tag [c] s.dy s.iU;simp only[kO]at hc;generalize dA m.o m.N m.tags [c] s.dy s.iU=D at*;have ue:¬s.kP=true:=λh=>by simp_all
   exact⟨h1,h2,h3,by grind,hb,λh _=>h,by grind,JX,λ_=>⟨l1,l2,l3⟩,λh=>absurd h ue,Oa,by simp_all,Uu,Ob,Oc⟩
  | nil=>
   rw[e2]at r3 h4;simp only[not_true_eq_false,false_or,c1]at r3
   by_cases c2:s.kP=aF
   ·rw[if_pos c2]
    unfold BX wS;have hc:=Dz (o:=m.o) (N:=m.N) (tags:=m.tags) (s.iU.length+1) s.dy s.iU;have JX:=N8 (o:=m.o) (N:=m.N) (tags:=m.tags) hn hk.tag (s.iU.length+1) s.dy s.iU;generalize iw m.o m.N m.tags (s.iU.length+1) s.dy s.iU=D at*;refine⟨h1,h2,h3,by grind,bH _,λ_ h=>(by cases h),by grind,JX,λ_=>⟨l1,l2,l3⟩,λ_=>⟨e2,r3⟩,Oa,by simp_all,Uu,Ob,Oc⟩
   rw[if_neg c2];have g1:=Aw hk l3 (a:=s.seen);have g3:=R5 hk l3 (a:=s.seen) J;unfold jW qj;generalize m_ m b s.p s.seen=R at*;have g2:R.2.length<=2001:=by
    grind
   refine⟨h1,h2,h3,by simp_all,h5,h6,by simp_all,by simp_all,λh=>(by cases h),NE,Us Oa g3,by grind,by grind,Ob,Oc⟩
theorem WJ{m:Md}{b:Bool}{s:fx}(hs:ic m b s)(e:Int)(pl:Nat):ic m b (xf s e pl):=by
 obtain⟨h1,h2,h3,h4,h5,h6,h7,h8,h9,NE,Oa,h12,Uu,Ob,Oc⟩:=hs;refine⟨h1,h2,h3,h4,h5,h6,h7,h8,λh=>(by cases h),NE,rfl,?_,bH _,Ob,Oc⟩;show s.gone+((0:Nat):Int)<=(s.seen+if aD=aD then 1 else 0)*2001
 grind
theorem aeq{m:Md}{b:Bool}{s:fx}(hs:ic m b s)(x:List UInt8):ic m b (lK s x).1:=by
 unfold lK;split;exact hs;split;exact hs;split;exact WJ hs _ _
 rename_i c1 c2 c3
 have c4:¬s.kP=true:=λh=>c1 (.inr (hs.kP h).2);obtain⟨h1,h2,h3,h4,h5,h6,h7,h8,h9,NE,Oa,h12,Uu,Ob,Oc⟩:=hs;exact⟨by simp_all,by grind,h3,by grind,h5,h6,h7,h8,h9,λh=>absurd h c4,Oa,h12,Uu,Ob,Oc⟩
theorem abP{m:Md}{b:Bool}{s:fx}(hs:ic m b s):ic m b (jH s).1:=by
 unfold jH;split;exact hs;obtain⟨h1,h2,h3,h4,h5,h6,h7,h8,h9,NE,Oa,h12,Uu,Ob,Oc⟩:=hs;exact⟨h1,h2,h3,h4,h5,h6,h7,h8,h9,λh=>⟨(NE h).1,rfl⟩,Oa,h12,Uu,Ob,Oc⟩
theorem abQ{m:Md}{b:Bool}{s:fx}(hs:ic m b s)(n:Int):ic m b (tF s n).1:=by
 unfold tF;split;exact hs;split;exact hs;obtain⟨h1,h2,h3,h4,h5,h6,h7,h8,h9,NE,Oa,h12,Uu,Ob,Oc⟩:=hs;exact⟨h1,h2,h3,h4,h5,h6,h7,h8,h9,NE,Oa,h12,Uu,⟨by grind,by grind⟩,Oc⟩
theorem Od{l:List Ev}{c n:Int}(hc:0<=c)(hn:0<=n):takeN l c n<=l.length/\(takeN l c n:Int)<=c:=by
 grind[takeN]
theorem aer{m:Md}{b:Bool}{s:fx}(hs:ic m b s)(n:Int):ic m b (dS s n).1:=by
 unfold dS;split;exact hs
 rename_i c
 obtain⟨h1,h2,h3,h4,h5,h6,h7,h8,h9,NE,Oa,h12,Uu,Ob,Oc⟩:=hs;obtain⟨k1,k2⟩:=Od (l:=s.wait) Ob.1 (by omega:0<=n);have FE:(s.wait.drop (takeN s.wait s.cr n)).any qM=false:=by
  grind
 refine⟨h1,h2,h3,h4,h5,h6,h7,h8,h9,NE,FE,?_,?_,⟨by simp_all,by grind⟩,by grind⟩
 grind
 grind
open ia (Ev qM takeN)
def R6(s:fx):Nat:=2*s.jV.length+s.iU.length+s.eb.length+(if s.kP=aD then 0 else 1)+(if s.over=aD then 0 else 1)
structure WK(s' s:fx):Prop where
 ended:s'.ended=s.ended
 cr:s'.cr=s.cr
 gone:s'.gone=s.gone
theorem Oe{m:Md}{b:Bool}{s:fx}(hr:iy s=aD):R6 (g_ m b s)+1<=R6 s/\WK (g_ m b s) s:=by
 obtain⟨r1,r2,r3⟩:=sk hr;unfold g_ R6;rw[r1]
 cases e1:s.eb with
 | cons t l=>
  dsimp only;split
  ·refine⟨?_,rfl,rfl,rfl⟩
   grind
  unfold qP qA;dsimp only;split
  ·refine⟨?_,rfl,rfl,rfl⟩
   unfold jW;dsimp only;rw[dj];simp only[rm,if_false,if_true];omega
  refine⟨?_,rfl,rfl,rfl⟩;dsimp only;rw[dj];simp only[rm,if_false];omega
 | nil =>
  dsimp only;split
  ·refine⟨?_,rfl,rfl,rfl⟩
   simp_all[jW]
  cases e2:s.jV with
  | cons c r=>
   dsimp only;unfold IM AC;have hc:=AB (o:=m.o) (N:=m.N) (tags:=m.tags) [c] s.dy s.iU;simp only[kO]at hc;generalize dA m.o m.N m.tags [c] s.dy s.iU=D at*;refine⟨?_,rfl,rfl,rfl⟩;rw[dj];simp only[r1,rm,if_false,iv];omega
  | nil=>
   dsimp only;split
   ·rename_i c2
    unfold BX wS;have hc:=Dz (o:=m.o) (N:=m.N) (tags:=m.tags) (s.iU.length+1) s.dy s.iU;generalize iw m.o m.N m.tags (s.iU.length+1) s.dy s.iU=D at*;refine⟨?_,rfl,rfl,rfl⟩;dsimp only;rw[e2,c2];simp only[r1,rm,if_false,if_true,iv];omega
   refine⟨?_,rfl,rfl,rfl⟩;unfold jW qj;rw[e1,e2];simp only[rm,if_false,if_true,iv];omega
theorem Uv:tF (wR 4096 1000) 1073741824=({wR 4096 1000 with cr:=1073741824},0):=by
 rfl
open ia (Ev qM takeN)
theorem WK.trans{s1 s2 s3:fx}(h:WK s1 s2)(h':WK s2 s3):WK s1 s3:=⟨h.ended.trans h'.ended,h.cr.trans h'.cr,h.gone.trans h'.gone⟩
theorem IQ{m:Md}{b:Bool}:∀(k:Nat) (s:fx),WK (eE m b k s).1 s
 |0,s=>⟨rfl,rfl,rfl⟩
 |k+1,s=>by
  unfold eE;split
  ·rename_i h;exact(IQ k _).trans (Oe h).2
  exact⟨rfl,rfl,rfl⟩
theorem aes(s:fx)(x:List UInt8):(lK s x).1.cr=s.cr/\(lK s x).1.gone=s.gone:=by
 unfold lK;split;exact⟨rfl,rfl⟩;split;exact⟨rfl,rfl⟩;split<;>exact⟨rfl,rfl⟩
theorem abR(s:fx):(jH s).1.cr=s.cr/\(jH s).1.gone=s.gone:=by
 unfold jH;split<;>exact⟨rfl,rfl⟩
theorem aet{m:Md}{b:Bool}{s:fx}(hs:ic m b s)(n:Int):(dS s n).1.gone=s.gone+((dS s n).2.length:Int)/\(dS s n).1.cr+(dS s n).1.gone=s.cr+s.gone/\((dS s n).2.length:Int)<=s.cr:=by
 unfold dS;split;have:=hs.cr;exact⟨by simp,rfl,by simp;omega⟩;obtain⟨h1,h2⟩:=Od (l:=s.wait) hs.cr.1 (by omega:0<=n);have e:(s.wait.take (takeN s.wait s.cr n)).length=takeN s.wait s.cr n:=by simp;omega
 dsimp only;rw[e];exact⟨rfl,by omega,h2⟩
end f_
namespace bZ
open Go.RowKit cL dQ cz ib
def io(a:Int)(u:List UInt8)(e:Int):List Value:=[az aB a,str u,az aB e]
def aeu(c:Int)(a:Int)(u:List UInt8)(e:Int):Int:=if c≠0 then c else if a<0\/1099511627776<a\/64<u.length then 1 else if e≠0 then 15 else 0
theorem tU(o:Of)(vn vt:Value)(N:List (List Int))(tags:List Int)(a:Int)(u:List UInt8)(e:Int)(w:World)(h:RW w vn vt N tags)(ho:∀b (h:b<256),o[b]<256)(hu:u.length<=9223372036854775807):
 Calls aE 100 #[C3 o vn vt,aQ (io a u e).toArray] w (bX (ret (az aB (aeu (qe o N tags) a u e))) w):=by
 have iH:=λw' (hg:Gr w w')=>wP o vn vt N tags w' (h.gr hg) ho;obtain⟨⟨an,cn,rfl,-⟩,at',ct,rfl,-⟩:=h;generalize qe o N tags=c at*;unfold aeu;refine enter (args:=[C3 o (av an N.length cn) (av at' tags.length ct),aQ (io a u e).toArray]) (n:=30) Tryz.func100 I I I ?_;refine cB (bD (bL I I I λg2=>bL I I I λg3=>?_));refine zL ?_
 repeat(first|refine GA ?_|refine gV (aP (i:=0) aL.ty I I (il _ _ _)) ?_)
 refine aU (ja aJ.en I I) (λw hm=>iH _ hm.below) I I I ?_;intro _ _;refine zL ?_
 by_cases c1:c=0
 ·rw[if_neg (by simpa using c1)]
  by_cases c2:a<0
  ·rw[if_pos (.inl c2)]
   repeat(first|refine GC ?_|refine gV (dc (b:=aF) I I (decide_eq_false (by simpa using c1))) ?_|refine gV (aC (v:=az aB a) aL.ty I (aI (i:=1) I I)) ?_|refine gV (ez (b:=aD) I I (decide_eq_true c2)) ?_|refine GB ?_)
   exact dG I I I
  by_cases c3:1099511627776<a
  ·rw[if_pos (.inr (.inl c3))]
   repeat(first|refine GC ?_|refine gV (dc (b:=aF) I I (decide_eq_false (by simpa using c1))) ?_|refine gV (aC (v:=az aB a) aL.ty I (aI (i:=1) I I)) ?_|refine gV (ez (b:=aF) I I (decide_eq_false c2)) ?_|refine gV (dW (b:=aD) I I (decide_eq_true c3)) ?_|refine GB ?_)
   exact dG I I I
  by_cases c4:64<u.length
  ·rw[if_pos (.inr (.inr c4))]
   repeat(first|refine GC ?_|refine gV (dc (b:=aF) I I (decide_eq_false (by simpa using c1))) ?_|refine gV (aC (v:=az aB a) aL.ty I (aI (i:=1) I I)) ?_|refine gV (aC (v:=str u) aL.ty I (aI (i:=1) I I)) ?_|refine gV (ez (b:=aF) I I (decide_eq_false c2)) ?_|refine gV (dW (b:=aF) I I (decide_eq_false c3)) ?_|refine gV (dW (b:=aD) I I (decide_eq_true J)) ?_|refine GB ?_)
   exact dG I I I
  rw[if_neg J]
  by_cases c5:e=0
  ·rw[if_neg (by simpa using c5)]
   repeat(first|refine GC ?_|refine gV (dc (b:=aF) I I (decide_eq_false (by simpa using c1))) ?_|refine gV (aC (v:=az aB a) aL.ty I (aI (i:=1) I I)) ?_|refine gV (aC (v:=str u) aL.ty I (aI (i:=1) I I)) ?_|refine gV (aC (v:=az aB e) aL.ty I (aI (i:=1) I I)) ?_|refine gV (ez (b:=aF) I I (decide_eq_false c2)) ?_|refine gV (dc (b:=aF) I I (decide_eq_false (by simpa using c5))) ?_|refine gV (dW (b:=aF) I I (decide_eq_false c3)) ?_|refine gV (dW (b:=aF) I I (decide_eq_false J)) ?_|refine GB ?_)
   exact dG I I I
  rw[if_pos c5]
  repeat(first|refine GC ?_|refine gV (dc (b:=aF) I I (decide_eq_false (by simpa using c1))) ?_|refine gV (aC (v:=az aB a) aL.ty I (aI (i:=1) I I)) ?_|refine gV (aC (v:=str u) aL.ty I (aI (i:=1) I I)) ?_|refine gV (aC (v:=az aB e) aL.ty I (aI (i:=1) I I)) ?_|refine gV (ez (b:=aF) I I (decide_eq_false c2)) ?_|refine gV (dc (b:=aD) I I (decide_eq_true c5)) ?_|refine gV (dW (b:=aF) I I (decide_eq_false c3)) ?_|refine gV (dW (b:=aF) I I (decide_eq_false J)) ?_|refine GB ?_)
  exact dG I I I
 ·rw[if_pos c1]
  repeat(first|refine GC ?_|refine gV (dc (b:=aD) I I (decide_eq_true c1)) ?_|refine GB ?_)
  exact dG I I I
theorem ag4{l:List Int}{k:Nat}(h:∀j (h:j<l.length),j<k->l[j]<0)(hk:l.length<=k):(l.any λx=>decide (0<=x))=false:=by
 rw[y8];intro x hx;obtain⟨j,hj,rfl⟩:=iC.1 hx;have:=h j hj J;simp;omega
theorem F7(o:Of)(vn vt:Value)(N:List (List Int))(tags:List Int)(s:List UInt8)(w:World)(h:RW w vn vt N tags)(hg:ko o N tags)(hs:s.length<=1000000):
 Calls aE 101 #[C3 o vn vt,str s] w (bX (ret (.tuple #[az aB (dK o N tags s).1.1,az aB ((dK o N tags s).1.2:Int),.bool (dK o N tags s).2])) w):=by
 have tZ:=λ{q} hq b=>BT hg (q:=q) hq b;have xp:=hg.pos;have hlen:=hg.len;obtain⟨⟨an,cn,rfl,hn1,UP,hn3⟩,at',ct,rfl,ht1,OR,GI⟩:=h;unfold maxLen at UP OR;obtain⟨bn,BR,rfl,_,Hm⟩:=hn3 J;obtain⟨bt,y_,rfl,htd⟩:=GI J;clear hn3 GI hg;refine enter (args:=[C3 o (av (aj ⟨bn,BR,ak⟩) N.length cn) (av (aj ⟨bt,y_,ak⟩) tags.length ct),str s]) (n:=66) Tryz.func101 I I I ?_;refine cB (bD (bL I I I λg2=>?_));refine zL ?_
 try refine GA ?_
 unfold dK;dsimp only;generalize jb:iB o N tags s 0 0 0 0=fin;generalize Xl:Ay o N 0 s=sr;refine d_ (ι:=Nat×Nat×Int×Nat) (λ(i,now,r,t)=>i<=s.length/\now<N.length/\t<=i/\(t=0->r=0)/\iB o N tags (s.drop i) i (now:Int) r t=fin/\Ay o N (now:Int) (s.drop i)=sr) (λ(i,now,r,t)=>[(1,str s),(2,aK (aj ⟨g2,0,ak⟩)),(4,az aB r),(5,az aB (t:Int)),(7,az aB (now:Int)),(12,az aB s.length),(13,az aB (i:Int))])
  (λ_=>[aR g2 (ey o (av (aj ⟨bn,BR,ak⟩) N.length cn) (av (aj ⟨bt,y_,ak⟩) tags.length ct)).toArray 30]) (λ(i,_,_,_)=>s.length-i) (0,0,0,0) ⟨bH _,xp,bH _,λ_=>rfl,jb,Xl⟩ ?_
 rintro⟨i,now,r,t⟩ ⟨i1,i2,i3,i6,i4,i5⟩;dsimp only at i1 i2 i3 i4 i5 i6⊢;clear jb Xl
 by_cases c1:i<s.length
 ·have hne:decide (s≠[])=true:=decide_eq_true (by rintro rfl;simp at c1)
  rw[eH c1,jG]at i4;rw[eH c1,F4]at i5;obtain⟨_,hw,V0,kr,fK⟩:=tZ i2 s[i];have hb:s[(i:Int).toNat]?=aj s[i]:=by rw[dD];exact bM c1
  have hcell:=abJ (vn:=av (aj ⟨bn,BR,ak⟩) N.length cn) (vt:=av (aj ⟨bt,y_,ak⟩) tags.length ct) o s[i];have hb8:=s[i].toNat_lt;obtain⟨u,⟨au,cu,rfl,hcu,hmu,JX⟩,hdu⟩:=yM Hm i2;have FW:=λ(L:List b9)=>iP (L:=L) hdu (j:=0) (v:= .slice au N[now].length cu) I;obtain⟨bu,WC,rfl,eR⟩:=JX J;have BS:=λ(L:List b9)=>gd (L:=L) jp eR hw 0 _ I;have N5:∀(L:List b9),At (w:bP) L ⟨bu,WC+o[s[i].toNat]*1+0,ak⟩ (az aB (uk o N (now:Int) s[i])):=λL=>by rw[V0];exact BS L
  clear hdu eR JX BS V0 Hm;generalize s[i]=b at*;generalize o[b.toNat]=ob at*;generalize uk o N (now:Int) b=x at*;generalize N[now].length=wd at*
  try refine GA ?_
  refine dH ([aR g2 (ey o (av (aj ⟨bn,BR,ak⟩) N.length cn) (av (aj ⟨bt,y_,ak⟩) tags.length ct)).toArray 30]) (.calm 0 (.calm 1 (.calm 2 (.calm 3 (.calm 4 (.calm 5 (.calm 6 (.calm 7 (.calm 8 (.calm 9 (.calm 10 (.calm 11 (.calm 12 (.calm 13 (.done))))))))))))))) (λ_ h=>h) ?_
  repeat(first|refine GW ?_|(refine GN ?_;first|refine QW (aC aL.ty I (aI (i:=0) I (lG _ _ _))) ?_|refine QW (aZ (j:=now) bQ.eq aL.ty I I i2) ?_|refine QW (aC aL.ty I (FW _)) ?_|refine QW (rA bQ.eq I I J hb) ?_|refine QW (hZ bQ.eq aL.ty I I hb8) ?_|refine QW (aC aL.ty I (aI (i:=0) I hcell)) ?_|refine QW (aZ (j:=ob) bQ.eq aL.ty I I hw) ?_|refine QW (aC aL.ty I (N5 _)) ?_))
  by_cases q1:x<0
  ·rw[if_pos q1]at i4 i5
   subst i4 i5;rw[hne,FT]
   repeat(first|refine GC ?_|refine gV (ez (b:=aD) I I (decide_eq_true q1)) ?_|refine GB ?_)
   exact kG I I I I λw hm=>hm.ret
  rw[if_neg q1]at i4 i5;obtain⟨xn,rfl⟩:=gU (show 0<=x by omega);have hxt:xn<tags.length:=by omega
  have G5:=λ(L:List b9)=>gd (L:=L) jp htd hxt 0 _ I;rw[dD,de (l:=tags),bM hxt,jD]at i4;generalize tags[xn]=tg at*;have N6:∀(L:List b9),At (w:bP) L ⟨bt,y_+xn*1+0,ak⟩ (az aB tg):=G5
  by_cases q2:0<=tg
  ·rw[if_pos q2]at i4
   repeat(first|refine GC ?_|refine gV (ez (b:=aF) I I (decide_eq_false q1)) ?_|refine gV (aC aL.ty I (aI (i:=0) I (mb _ _ _))) ?_|refine gV (aZ (j:=xn) bQ.eq aL.ty I I hxt) ?_|refine gV (aC (v:=az aB tg) aL.ty I (N6 _)) ?_|refine gV (fu (b:=aD) I I (decide_eq_true q2)) ?_|refine gV (fl (r:=((i+1:Nat):Int)) I I J J J) ?_|refine GB ?_)
   exact bW (i+1,xn,tg,i+1) ⟨by show i+1<=s.length;omega,by show xn<N.length;omega,bC _,λh=>absurd h (yV i),i4,i5⟩ (by show s.length-(i+1)<s.length-i;omega)
  rw[if_neg q2]at i4
  repeat(first|refine GC ?_|refine gV (ez (b:=aF) I I (decide_eq_false q1)) ?_|refine gV (aC aL.ty I (aI (i:=0) I (mb _ _ _))) ?_|refine gV (aZ (j:=xn) bQ.eq aL.ty I I hxt) ?_|refine gV (aC (v:=az aB tg) aL.ty I (N6 _)) ?_|refine gV (fu (b:=aF) I I (decide_eq_false q2)) ?_|refine gV (fl (r:=((i+1:Nat):Int)) I I J J J) ?_|refine GB ?_)
  exact bW (i+1,xn,r,t) ⟨by show i+1<=s.length;omega,by show xn<N.length;omega,by show t<=i+1;omega,i6,i4,i5⟩ (by show s.length-(i+1)<s.length-i;omega)
 ·rw[oD J]at i4 i5
  have i4:(r,t)=fin:=i4;subst i4
  by_cases e1:s=[]
  ·have hne:decide (s≠[])=false:=decide_eq_false (by simpa using e1)
   rw[hne,RP];subst e1;obtain rfl:i=0:=by simp at i1;exact i1
   obtain rfl:t=0:=by omega
   obtain rfl:=i6 rfl
   repeat(first|refine GC ?_|refine gV (py (b:=aD) I I (decide_eq_true I)) ?_|refine GB ?_)
   exact kG I I I I λw hm=>hm.ret
  have hne:decide (s≠[])=true:=decide_eq_true e1;rw[hne,FT];have i5:(!((N.getD ((now:Int).toNat) []).any λx=>decide (0<=x)))=sr:=i5;obtain⟨u,⟨au,cu,rfl,hcu,hmu,JX⟩,hdu⟩:=yM Hm i2;have FW:=λ(L:List b9)=>iP (L:=L) hdu (j:=0) (v:= .slice au N[now].length cu) I;rw[dD,de,bM i2,jD]at i5;clear hdu tZ Hm i4;generalize N[now]=row at*;unfold maxLen at hmu
  repeat(first|refine GC ?_|refine gV (py (b:=aF) I I (decide_eq_false e1)) ?_|refine gV (aC aL.ty I (aI (i:=0) I (lG _ _ _))) ?_|refine gV (aZ (j:=now) bQ.eq aL.ty I I i2) ?_|refine gV (aC aL.ty I (FW _)) ?_|refine GB ?_)
  clear FW;refine tW [] ?_;refine d_ (ι:=Nat) (λk=>k<=row.length/\∀j (h:j<row.length),j<k->row[j]<0) (λk=>[(4,az aB r),(5,az aB (t:Int)),(53,av au row.length cu),(54,az aB row.length),(55,az aB (k:Int))]) (λ_=>[]) (λk=>row.length-k) 0 ⟨bH _,λj _ h=>absurd h (Nat.not_lt_zero _)⟩ ?_;rintro k ⟨k1,k2⟩
  by_cases c2:k<row.length
  ·obtain⟨bu,WC,rfl,eR⟩:=JX J
   have BS:=λ(L:List b9)=>gd (L:=L) jp eR c2 0 _ I;have hk2:∀(h:row[k]<0),∀j (h:j<row.length),j<k+1->row[j]<0:=λh j hj hjk=>by
    by_cases e:j=k
    subst e;exact h;exact k2 j hj J
   by_cases c3:0<=row[k]
   ·have FE:(row.any λx=>decide (0<=x))=true:=List.any_eq_true.2 ⟨row[k],cH c2,decide_eq_true c3⟩
    rw[FE]at i5;subst i5;clear hk2 FE;generalize row[k]=x at*
    repeat(first|refine GC ?_|refine gV (aZ bQ.eq aL.ty I I c2) ?_|refine gV (aC (v:=az aB x) aL.ty I (BS _)) ?_|refine gV (fu (b:=aD) I I (decide_eq_true c3)) ?_|refine GB ?_)
    exact kG I I I I λw hm=>hm.ret
   have hk3:=hk2 J;clear hk2;have N5:∀(L:List b9),At (w:bP) L ⟨bu,WC+k*1+0,ak⟩ (az aB row[k]):=BS;clear BS;generalize hx:row[k]=x at*
   repeat(first|refine GC ?_|refine gV (aZ bQ.eq aL.ty I I c2) ?_|refine gV (aC (v:=az aB x) aL.ty I (N5 _)) ?_|refine gV (fu (b:=aF) I I (decide_eq_false c3)) ?_|refine GB ?_)
   exact bW (k+1) ⟨by omega,hk3⟩ (by show row.length-(k+1)<row.length-k;omega)
  rw[ag4 k2 J]at i5;subst i5
  try refine GA ?_
  exact kG I I I I λw hm=>hm.ret
section
variable{P:Program}{n:Nat}{W:bP}{fr:Fr}{L:List b9}
theorem aev{fn:Func}{R:Ending->World->Prop}{t u:Tmp}{T U:TypeId}{i j g g' c c':Nat}{cs cs':Array Value}{T' U':TypeId}[hT:aL P T aD c][hU:aL P U aD c'](lY:fn.results=#[.cell t T,.cell u U])(hp:look fr t=aj (aK (aj ⟨g,0,ak⟩)))(hi:L[i]?=aj (aR g cs T'))(hc:cs.size=c)
 (hq:look fr u=aj (aK (aj ⟨g',0,ak⟩))) (hj:L[j]?=aj (aR g' cs' U')) (hc':cs'.size=c')
 (h:∀w,Mem W L w->R (.returned (.tuple #[.agg cs,.agg cs'])) w):E n W .ret (bodyPost P fn R) fr L:=
 B5 λa w hr sG=>⟨_,by
  have SK:=run_loadCells_list (P:=P) w ⟨g,0,ak⟩ cs.toList λj v hj=>by rw[eS,cX];exact aI hi (by simpa using hj) w sG
  have hl:(loadCells ⟨g,0,ak⟩ c).run P w= .ok cs w:=by rw[<-hc];simpa using SK
  have hv:(loadVar T ⟨g,0,ak⟩).run P w= .ok (.agg cs) w:=by simp[loadVar,hT.ty.agg,hT.ty.size,hl]
  have ag5:=run_loadCells_list (P:=P) w ⟨g',0,ak⟩ cs'.toList λj v sq=>by rw[eS,cX];exact aI hj (by simpa using sq) w sG
  have hl':(loadCells ⟨g',0,ak⟩ c').run P w= .ok cs' w:=by rw[<-hc'];simpa using ag5
  have L6:(loadVar U ⟨g',0,ak⟩).run P w= .ok (.agg cs') w:=by simp[loadVar,hU.ty.agg,hU.ty.size,hl']
  simp[results,lY,Array.getD_eq_getD_getElem?,hr.get t _ hp,hr.get u _ hq,asAddr,hv,L6],h w sG⟩
end
theorem Og(a:Int)(u:List UInt8)(w:World):(dg 115 #[(0,az aB a),(1,str u)]).run aE w= .ok (aQ (io a u 0).toArray) w:=by
 unfold io str;go_simp
theorem CE(a e:Int)(w:World):(dg 115 #[(0,az aB a),(2,az aB e)]).run aE w= .ok (aQ (io a [] e).toArray) w:=by
 unfold io str;go_simp
theorem R7(r a b:Int)(w:World):(dg 102 #[(0,az aB r),(1,az aB a),(2,az aB b)]).run aE w= .ok (aQ #[az aB r,az aB a,az aB b]) w:=by
 go_simp
theorem IR(a:Nat)(u:List UInt8)(e r:Int)(t:Nat)(w:World)(ha:a<=9223372036854775)(ht:t<=u.length)(hu:u.length<=1000000):
 Calls aE 102 #[aQ (io a u e).toArray,az aB r,az aB (t:Int)] w (bX (ret (.tuple #[aQ (io ((a+t:Nat):Int) (u.drop t) 0).toArray,aQ (jg (r,a,a+t)).toArray])) w):=by
 have hb:=R7 r a ((a+t:Nat):Int);have OP:=Og ((a+t:Nat):Int) (u.drop t);refine enter (args:=[aQ (io a u e).toArray,az aB r,az aB (t:Int)]) (n:=25) Tryz.func102 I I I ?_;refine cB (bD (bL I I I λg3=>a8 I λg6=>a8 I λg7=>?_));refine zL ?_
 repeat(first|refine GC ?_|refine gV (aC (v:=az aB (a:Int)) aL.ty I (aI (i:=0) I I)) ?_|refine gV (fl (r:=((a+t:Nat):Int)) I I J J J) ?_|refine gV (bB I hb) ?_|refine GB ?_)
 refine a8 I λg8=>?_;refine zL ?_;refine gG 3 (cs':=(jg (r,a,a+t)).toArray) ?_;refine zL ?_
 try refine GA ?_
 refine dH ([aR g3 (io a u e).toArray 115,aR g8 (jg (r,a,a+t)).toArray 102]) (.calm 0 (.calm 1 (.calm 2 (.calm 3 (.calm 4 (.calm 5 (.calm 6 (.calm 7 (.one 8 (.one 9 (.done))))))))))) (bV [0,3]) ?_
 repeat(first|refine GW ?_|(refine GN ?_;first|refine QW (aC (v:=az aB ((a+t:Nat):Int)) aL.ty I (aI (i:=1) I I)) ?_|refine QW (aC (v:=str u) aL.ty I (aI (i:=0) I I)) ?_|refine QW (sH bQ.eq I I ht) ?_|refine QW (bB I OP) ?_|refine QW (aP (i:=1) aL.ty I I I) ?_))
 refine aM I ?_;refine gG 1 (cs':=(io ((a+t:Nat):Int) (u.drop t) 0).toArray) ?_;refine zL ?_;refine aO (bV [0,3]) ?_
 try refine GW ?_
 refine aM I ?_;refine gG 2 (cs':=(jg (r,a,a+t)).toArray) ?_;refine zL ?_;refine aO (bV [0,3]) ?_
 try refine GW ?_
 try refine GA ?_
 exact aev (i:=1) (j:=2) I I I I I I I λw hm=>hm.ret
def IS(R:List Tok×Nat×List UInt8×Int):Spec Value:=⟨λ_=>True,λv=> .tuple #[aQ (io (R.2.1:Int) R.2.2.1 R.2.2.2).toArray,v,az aB R.2.2.2],λv=>[wQ v R.1]⟩
theorem Uw{c:Int}{a:Nat}{u:List UInt8}(hc:c=0)(ha:a<=1099511627776)(hu:u.length<=64):aeu c a u 0=0:=by
 unfold aeu;rw[if_neg (by simpa using hc),if_neg J,if_neg aln]
theorem sub_one{l:List UInt8}{i:Nat}(h:i<l.length):(l.drop i).take (i+1-i)=[l[i]]:=by
 rw[Nat.add_sub_cancel_left,eH h];rfl
theorem G'(o:Of)(vn vt:Value)(N:List (List Int))(tags:List Int)(a0:Nat)(u0:List UInt8)(s:List UInt8)(w:World)(h:RW w vn vt N tags)(hc:qe o N tags=0)(ho:∀b (h:b<256),o[b]<256)(ha0:a0<=1099511627776)(hu0:u0.length<=64)(hs:s.length<=2000):
 Calls aE 68 #[C3 o vn vt,aQ (io (a0:Int) u0 0).toArray,str s] w (bX (IS (dA o N tags s a0 u0)) w):=by
 have iH:=λw' (hg:Gr w w')=>tU o vn vt N tags (a0:Int) u0 0 w' (h.gr hg) ho J;rw[Uw hc ha0 hu0]at iH;have H3:=λ(u:List UInt8) (hu:u.length<=65) w' (hg:Gr w w')=>F7 o vn vt N tags u w' (h.gr hg) (pg hc) J;have hcut:=λa u r t w' (ha:a<=9223372036854775) ht hu=>IR a u 0 r t w' ha ht hu;have hbE:=CE;obtain⟨⟨an,cn,rfl,-⟩,at',ct,rfl,-⟩:=h;refine enter (args:=[C3 o (av an N.length cn) (av at' tags.length ct),aQ (io (a0:Int) u0 0).toArray,str s]) (n:=79) Tryz.func68 I I I ?_;refine cB (bD (bL I I I λg3=>bL I I I λg4=>a8 I λg6=>?_));refine zL ?_
 repeat(first|refine GA ?_|refine gV (aP (i:=0) aL.ty I I (il _ _ _)) ?_|refine gV (aP (i:=1) aL.ty I I I) ?_)
 refine aU (fC aJ.en I I I) (λw hm=>iH _ hm.below) I I I ?_;intro _ _;refine zL ?_;clear iH
 repeat(first|refine GC ?_|refine gV (dc (b:=aF) I I (decide_eq_false aln)) ?_|refine gV (dW (b:=aF) I I (decide_eq_false J)) ?_|refine GB ?_)
 refine iz 102 3 ?_
 conv=>arg 7;simp only[zA,zB,zC,zD,zE,zF,zG,zH,zI,cD,ret,id_eq]
 generalize jb:dA o N tags s a0 u0=fin;refine d_ (ι:=Nat×Nat×List UInt8×List Tok×Value) (λ(i,a,u,out,_)=>i<=s.length/\u.length<=64/\a+u.length<=1099511627840+i/\out.length<=a/\(out++(dA o N tags (s.drop i) a u).1,(dA o N tags (s.drop i) a u).2)=fin) (λ(i,_,_,_,v)=>[(2,str s),(3,aK (aj ⟨g3,0,ak⟩)),(4,aK (aj ⟨g4,0,ak⟩)),(6,aK (aj ⟨g6,0,ak⟩)),(10,v),(28,az aB s.length),(29,az aB (i:Int))])
  (λ(_,a,u,out,v)=>[aR g3 (ey o (av an N.length cn) (av at' tags.length ct)).toArray 30,aR g4 (io (a:Int) u 0).toArray 115,aR g6 (io 0 [] 0).toArray 115,wQ v out]) (λ(i,_,_,_,_)=>s.length-i) (0,a0,u0,[],av ak 0 0) ⟨bH _,hu0,by show a0+u0.length<=_;omega,bH _,by rw[List.drop_zero,jb];rfl⟩ ?_
 clear jb;rintro⟨i,a1,u1,fI,v1⟩ ⟨i1,i2,i3,i4,i5⟩;dsimp only at i1 i2 i3 i4 i5⊢
 by_cases c1:i<s.length
 ·have kY:=sub_one c1
  rw[eH c1]at i5;generalize s[i]=b at*;have hstep:=WI i5;clear i5
  try refine GA ?_
  refine dH ([]) (.calm 0 (.calm 2 (.calm 3 (.calm 4 (.calm 5 (.calm 6 (.one 1 (.calm 7 (.calm 8 (.one 9 (.done))))))))))) (bV []) ?_
  repeat(first|(refine GN ?_;first|refine QW QP ?_|refine QW (UU (j:=i+1) bQ.eq I I I J J) ?_|refine QW (fl (r:=((i+1:Nat):Int)) I I J J J) ?_|refine GX ?_)|refine GW ?_)
  rw[kY];refine aM I (dm (aC (v:=str u1) aL.ty I (aI (i:=1) I I)) I I I (aO (bV []) ?_))
  repeat(first|refine GW ?_|(refine GN ?_;first|refine QW (Hs I I (by show u1.length+1<=_;omega)) ?_))
  refine aM I ?_;refine bJ (i:=1) I I I I I I ?_;refine zL ?_;refine aO (bV []) ?_
  try refine GW ?_
  try refine GA ?_
  generalize hD:dF o N tags (u1.length+2) a1 (u1++[b])=D at hstep;refine d_ (ι:=Nat×Nat×List UInt8×List Tok×Value) (λ(f,a,u,out,_)=>u.length<f/\u.length<=65/\a+u.length<=1099511627840+i+1/\out.length<=a/\(out++(dF o N tags f a u).1,(dF o N tags f a u).2)=(fI++D.1,D.2)) (λ(_,_,_,_,v)=>[(2,str s),(3,aK (aj ⟨g3,0,ak⟩)),(4,aK (aj ⟨g4,0,ak⟩)),(6,aK (aj ⟨g6,0,ak⟩)),(10,v),(28,az aB s.length),(29,az aB (i:Int))])
   (λ(_,a,u,out,v)=>[aR g3 (ey o (av an N.length cn) (av at' tags.length ct)).toArray 30,aR g4 (io (a:Int) u 0).toArray 115,aR g6 (io 0 [] 0).toArray 115,wQ v out]) (λ(f,_,_,_,_)=>f) (u1.length+2,a1,u1++[b],fI,v1) ⟨by show(u1++[b]).length<_;rw[bK];exact tr _,by show(u1++[b]).length<=65;rw[bK];simp;omega,by show a1+(u1++[b]).length<=_;rw[bK];simp;omega,i4,by rw[hD]⟩ ?_
  clear hD;rintro⟨f,a,u,out,v⟩ ⟨j1,j2,j3,j4,j5⟩;dsimp only at j1 j2 j3 j4 j5⊢;obtain⟨f,rfl⟩:∃f',f=f'+1:=⟨f-1,by omega⟩;rw[qh]at j5;have hto:=si o N tags u;have Lt:=H3 u j2;generalize dK o N tags u=lk at*;obtain⟨⟨r,t⟩,sr⟩:=lk;dsimp only at hto Lt j5
  repeat(first|refine GA ?_|refine gV (aP (i:=0) aL.ty I I (il _ _ _)) ?_|refine gV (aC (v:=str u) aL.ty I (aI (i:=1) I I)) ?_)
  refine aU (fC aJ.en I I I) (λw hm=>Lt _ hm.below) I I I ?_;intro _ _;refine zL ?_
  cases sr with
  | false=>
   rw[if_neg aln]at j5;have j5:(out++[],a,u,(0:Int))=(fI++D.1,D.2):=j5;rw[dY]at j5;obtain⟨_,k2,k3⟩:=hstep out a u 0 j5;clear hstep j5 Lt
   by_cases c2:64<u.length
   ·have k4:=k2 I c2
    subst k4
    repeat(first|refine GC ?_|refine gV (aC (v:=str u) aL.ty I (aI (i:=1) I I)) ?_|refine gV (dW (b:=aD) I I (decide_eq_true J)) ?_|refine gV (aC (v:=az aB (a:Int)) aL.ty I (aI (i:=1) I I)) ?_|refine gV (bB I (hbE _ _)) ?_|refine GB ?_)
    refine gG 2 (cs':=(io (a:Int) [] 10).toArray) ?_;refine zL ?_
    try refine GA ?_
    exact fD (i:=2) I I I I I I λw hm=>hm.meets (S:=IS (out,a,[],10)) v trivial [3] aln I
   have k4:=k3 I c2
   repeat(first|refine GC ?_|refine gV (aC (v:=str u) aL.ty I (aI (i:=1) I I)) ?_|refine gV (dW (b:=aF) I I (decide_eq_false J)) ?_|refine GB ?_)
   exact bW (i+1,a,u,out,v) ⟨by show i+1<=s.length;omega,by show u.length<=64;omega,by show a+u.length<=1099511627840+(i+1);omega,j4,k4⟩ (by show s.length-(i+1)<s.length-i;omega)
  | true=>
   rw[if_pos I]at j5
   by_cases c2:t=0
   ·rw[if_pos c2]at j5
    have j5:(out++[],a,u,(9:Int))=(fI++D.1,D.2):=j5;rw[dY]at j5;have k4:=(hstep out a u 9 j5).1 aln;clear hstep j5 Lt;subst k4 c2
    repeat(first|refine GC ?_|refine gV (cY (b:=aD) I I (decide_eq_true I)) ?_|refine gV (aC (v:=az aB (a:Int)) aL.ty I (aI (i:=1) I I)) ?_|refine gV (bB I (hbE _ _)) ?_|refine GB ?_)
    refine gG 2 (cs':=(io (a:Int) [] 9).toArray) ?_;refine zL ?_
    try refine GA ?_
    exact fD (i:=2) I I I I I I λw hm=>hm.meets (S:=IS (out,a,[],9)) v trivial [3] aln I
   rw[if_neg c2]at j5;have ht:=hto.resolve_left c2;have hct:=hcut a u r t;have UM:(u.drop t).length=u.length-t:=iT ..;clear Lt H3 hcut
   repeat(first|refine GC ?_|refine gV (cY (b:=aF) I I (decide_eq_false J)) ?_|refine GB ?_)
   refine a8 I λg15=>?_;refine zL ?_
   repeat(first|refine GA ?_|refine gV (aP (i:=1) aL.ty I I I) ?_)
   refine aU (qq aJ.en I I I I) (λw hm=>hct w J ht.2 J) I I I ?_;intro _ _;refine zL ?_
   try refine GA ?_
   refine gG 1 (cs':=(io ((a+t:Nat):Int) (u.drop t) 0).toArray) ?_;refine zL ?_
   try refine GA ?_
   refine gG 4 (cs':=(jg (r,a,a+t)).toArray) ?_;refine zL ?_
   repeat(first|refine GA ?_|refine gV (aP (i:=4) aL.ty I I I) ?_)
   refine jR (i:=3) I I I I I I I (λz h=>by cases h;rfl) J J I λz v2=>?_;refine zL ?_
   try refine GA ?_
   refine dv [0,1,2,3] ?_;exact bW (f,a+t,u.drop t,out++[(r,a,a+t)],v2) ⟨by show(u.drop t).length<f;omega,by show(u.drop t).length<=65;omega,by show a+t+(u.drop t).length<=1099511627840+i+1;omega,by show(out++[(r,a,a+t)]).length<=a+t;rw[bK];simp;omega,by rw[eY];exact j5⟩ (by show f<f+1;omega) (hl:=by dsimp only;rw[BU];rfl)
 ·rw[oD J]at i5
  have i5:(fI++[],a1,u1,0)=fin:=i5;rw[dY]at i5;subst i5
  repeat(first|refine GA ?_|refine gV (aP (i:=1) aL.ty I I I) ?_)
  refine gG 2 (cs':=(io (a1:Int) u1 0).toArray) ?_;refine zL ?_
  try refine GA ?_
  exact fD (i:=2) I I I I I I λw hm=>hm.meets (S:=IS (fI,a1,u1,0)) v1 trivial [3] aln I
end bZ
namespace ib
open Go.RowKit cL dQ bZ cz mX
theorem IT{o:Of}{N:List (List Int)}{tags:List Int}:∀(s:List UInt8) (a:Nat) (u:List UInt8),(dK o N tags u).2=aF->(dA o N tags s a u).2.2.2=0->
 a<=(dA o N tags s a u).2.1/\(dA o N tags s a u).2.1<=a+(u++s).length/\(dA o N tags s a u).2.2.1=(u++s).drop ((dA o N tags s a u).2.1-a)/\(dK o N tags (dA o N tags s a u).2.2.1).2=aF
 |[],a,u,h,_=>⟨bC _,Nat.le_add_right _ _,by show u=(u++[]).drop (a-a);simp,h⟩
 | b ::s,a,u,h,he=>by
  rw[iL]at he⊢;have hk:=qi (o:=o) (N:=N) (tags:=tags) (u.length+2) a (u++[b]) (by simp);generalize dF o N tags (u.length+2) a (u++[b])=D at*;obtain⟨d1,d2,d3,d4⟩:=D;dsimp only at hk he⊢;obtain⟨k1,k2,k3,k4⟩:=hk
  by_cases c1:d4≠0
  simp_all;rw[if_neg c1]at he⊢
  by_cases c2:64<d3.length
  simp_all;rw[if_neg c2]at he⊢;dsimp only at he⊢;have k5:=(k4.resolve_left J).2;obtain⟨m1,m2,m3,m4⟩:=IT s d2 d3 k5 he;have hl:(u++[b]).length=u.length+1:=by simp
  have GH:d3.length=u.length+1-(d2-a):=by simp_all
  have ZL:(u++b::s).length=u.length+1+s.length:=by grind
  have hl4:(d3++s).length=d3.length+s.length:=bK ..;rw[hl]at k2;refine⟨by omega,by omega,?_,m4⟩;rw[m3];have e1:u++b::s=(u++[b])++s:=by simp
  have e2:d3++s=((u++[b])++s).drop (d2-a):=by
   grind
  rw[e2,e1,nt]
  grind
end ib
namespace bZ
open Go.RowKit cL dQ cz ib
end bZ
namespace ib
open Go.RowKit cL dQ bZ cz
theorem look_nil(o:Of)(N:List (List Int))(tags:List Int):(dK o N tags []).2=false:=rfl
end ib
namespace f_
open aV dO eX ib bI cz bZ gX
open ia (Ev qM takeN)
def ajf(m:Md)(b:Bool)(s:fx)(out:List Ev)(D:List UInt8):Prop:=
  ∃ done,IJ m b done Uo 0 []=(ak,out++s.wait,s.p,s.seen)/\
    ((s.kP=aF/\∃F,D=F++s.jV/\dA m.o m.N m.tags F 0 []=(done++s.eb,s.dy,s.iU,s.bad))\/
     (s.kP=aD/\∃L1 a u L2,dA m.o m.N m.tags D 0 []=(L1,a,u,0)/\iw m.o m.N m.tags (u.length+1) a u=(L2,s.dy,s.bad)/\done++s.eb=L1++L2))
def Told(m:Md)(b:Bool)(D:List UInt8)(fin:Bool)(evs:List Ev)(e:Int)(pl:Nat):Prop:=
 ∀more,(fin=aD->more=[])->(e≠10\/D.length<=64->jh m b (D++more)=(evs,e,pl))/\∃E,(jh m b (D++more)).1=evs++E
structure abS(m:Md)(b:Bool)(s:fx)(out:List Ev)(D:List UInt8):Prop where
 dZ:s.dZ=D.length
 live:s.over=aF->ajf m b s out D
 told:s.over=aD->Told m b D s.ended (out++s.wait) s.fq s.pl
theorem IU{o:Of}{N:List (List Int)}{tags:List Int}:∀(s:List UInt8) (a:Nat) (u:List UInt8),(dA o N tags s a u).2.2.2=0\/(dA o N tags s a u).2.2.2=9\/(dA o N tags s a u).2.2.2=10
 |[],_,_=> .inl I
 | b::s,a,u=>by
  rw[iL];split;exact .inr (.inl I);split;exact .inr (.inr I);exact IU s _ _
theorem Oh{o:Of}{N:List (List Int)}{tags:List Int}:∀(s:List UInt8) (a:Nat) (u:List UInt8),u.length+s.length<=64->(dA o N tags s a u).2.2.2≠10
 |[],_,_,_=>(by decide:(0:Int)≠10)
 | b ::s,a,u,h=>by
  have h:u.length+(s.length+1)<=64:=h;have hd:=qi (o:=o) (N:=N) (tags:=tags) (u.length+2) a (u++[b]) (by simp);have hl:(dF o N tags (u.length+2) a (u++[b])).2.2.1.length<=u.length+1:=by
   simp_all
  rw[iL];split;exact(by decide:(9:Int)≠10);split;omega;exact Oh s _ _ J
section
variable{m:Md}{b:Bool}{T N:Nat}(hk:fS m b T N)
theorem IV{L:List Tok×Nat×Int}{n:Nat}{l z:List Tok}{p:PS}{a:Nat}{out:List Ev}(h:IJ m b l Uo 0 []=(ak,out,p,a))(hL:L.1=l++z):∃E,(kq m b L n).1=out++E:=by
 have ha:=Az (m:=m) (b:=b) z l Uo 0 [];rw[h,<-hL]at ha;dsimp only at ha;obtain⟨E,hE⟩:=KR (m:=m) (b:=b) z p a out;unfold kq;rw[ha];generalize IJ m b z p a out=R at*;obtain⟨q,o,p',a'⟩:=R;dsimp only at hE;subst hE
 cases q with
 |some x=>exact⟨E,rfl⟩
 |none=>
  dsimp only;split;exact⟨E,rfl⟩;exact⟨E++_,eY _ _ _⟩
theorem WL{L:List Tok×Nat×Int}{n:Nat}{l z:List Tok}{t:Tok}{p:PS}{a:Nat}{out:List Ev}(h:IJ m b l Uo 0 []=(ak,out,p,a))(hL:L.1=l++(t::z))(h1:¬ma m t<0)(h2:(fa m b p a (ma m t)).1≠0):kq m b L n=(out,(fa m b p a (ma m t)).1,t.2.1):=by
 simp_all[Az,qf,if_neg,kq]
include hk
theorem Ux{F z:List UInt8}{L:List Tok}{a:Nat}{u:List UInt8}{e:Int}(h:dA m.o m.N m.tags F 0 []=(L,a,u,e)):(e=9->oX m.o m.N m.tags (F++z)=(L,a,9))/\∃r,(oX m.o m.N m.tags (F++z)).1=L++r:=by
 obtain⟨h1,F',_,h2⟩:=F5 (pg hk.lI) (full:=F++z) (m:=z) F 0 [] ((F++z).length+1) rfl J;rw[h]at h1 h2;refine⟨h1,?_⟩
 by_cases c:e=9
 simp_all[oX]
 simp_all[oX]
theorem KV{D:List UInt8}{L1 L2:List Tok}{a a':Nat}{u:List UInt8}{e:Int}(h:dA m.o m.N m.tags D 0 []=(L1,a,u,0))(h2:iw m.o m.N m.tags (u.length+1) a u=(L2,a',e)):(e=9/\oX m.o m.N m.tags D=(L1++L2,a',9))\/(e=0/\oX m.o m.N m.tags D=(L1++L2,0,0)):=by
 have hg:=pg hk.lI;have hkp:=IT (o:=m.o) (N:=m.N) (tags:=m.tags) D 0 [] (look_nil _ _ _) (by rw[h]);obtain⟨_,F',hF,hl⟩:=F5 hg (full:=D) (m:=[]) D 0 [] (D.length+1) (by simp) J;rw[h]at hkp hF hl;dsimp only[e7]at hkp hF hl;obtain⟨-,k2,k3,-⟩:=hkp;have hu:u=D.drop a:=by omega
 have hlen:a+u.length=D.length:=by simp_all
 grind[Uq,oX]
theorem ag6{s:fx}(hs:ic m b s){out:List Ev}{D:List UInt8}(h:abS m b s out D)(hr:iy s=aD):abS m b (g_ m b s) out D:=by
 obtain⟨r1,r2,r3⟩:=sk hr;obtain⟨done,hgo,Oi⟩:=h.live r1;have CF:=h.dZ;have ue:s.kP=aD->s.ended=true:=λh=>(hs.kP h).2
 have oB:∀more,(s.ended=aD->more=[])->∃z,(oX m.o m.N m.tags (D++more)).1=(done++s.eb)++z/\(s.bad=9->oX m.o m.N m.tags (D++more)=(done++s.eb,s.dy,9)):=λmore hm=>by
  rcases Oi with⟨_,F,rfl,hF⟩|⟨c,L1,a,u,L2,h1,h2,h3⟩
  ·obtain⟨k1,r,k2⟩:=Ux hk (z:=s.jV++more) hF
   simp_all
  obtain rfl:=hm (ue c);rw[dY,h3];rcases KV hk h1 h2 with⟨k1,k2⟩|⟨k1,k2⟩
  simp_all;exact⟨[],by rw[k2,dY],λh=>by rw[k1]at h;cases h⟩
 unfold g_
 cases e1:s.eb with
 | cons t l=>
  rw[e1]at oB Oi;have hd:∀R,IJ m b [t] s.p s.seen (out++s.wait)=R->IJ m b (done++[t]) Uo 0 []=R:=λR h=>by
   simp_all[Az]
  have alj:done++t::l=(done++[t])++l:=by simp
  have abT:(s.kP=aF/\∃F,D=F++s.jV/\dA m.o m.N m.tags F 0 []=((done++[t])++l,s.dy,s.iU,s.bad))\/(s.kP=aD/\∃L1 a u L2,dA m.o m.N m.tags D 0 []=(L1,a,u,0)/\iw m.o m.N m.tags (u.length+1) a u=(L2,s.dy,s.bad)/\(done++[t])++l=L1++L2):=by grind
  dsimp only
  by_cases c1:ma m t<0
  ·rw[if_pos c1]
   exact⟨CF,λ_=>⟨done++[t],hd _ (by rw[qf,if_pos c1];rfl),abT⟩,λh=>by grind⟩
  rw[if_neg c1];unfold qP qA
  by_cases c2:(fa m b s.p s.seen (ma m t)).1≠0
  ·rw[if_pos c2]
   have ho:(fa m b s.p s.seen (ma m t)).2.2=[]:=(N_ hk (h.live r1|>λ_=>(hs.live r1).2.2) (by
    obtain⟨t0,t1⟩:=hs.tok t (by grind);unfold ma;rw[de,bM J,jD];have:=(hk.ofs _ (cH (show t.1.toNat<m.of.length by omega))).2;have:=hk.tT;omega)).2 c2
   unfold jW;rw[ho,dY];refine⟨CF,λh=>(by cases h),λ_ more hm=>?_⟩;obtain⟨z,hz,_⟩:=oB more hm;have hw:jh m b (D++more)=(out++s.wait,(fa m b s.p s.seen (ma m t)).1,t.2.1):=WL (z:=l++z) hgo (by grind) c1 c2;exact⟨λ_=>hw,⟨[],by grind⟩⟩
  rw[if_neg c2];have c3:(fa m b s.p s.seen (ma m t)).1=0:=by omega
  refine⟨CF,λ_=>⟨done++[t],hd _ ?_,abT⟩,λh=>by grind⟩;rw[qf,if_neg c1,if_neg c2,if_pos c3,eY];rfl
 | nil =>
  rw[e1,dY]at oB
  by_cases c1:s.bad≠0
  ·rw[if_pos c1]
   unfold jW;refine⟨CF,λh=>(by cases h),λ_ more hm=>?_⟩;obtain⟨z,hz,h9⟩:=oB more hm;refine⟨λNE=>?_,IV hgo hz⟩;have hb:s.bad=9:=by
    grind[IU,Oh,KV]
   show kq m b (oX m.o m.N m.tags (D++more)) _=_
   simp_all[kq]
  rw[if_neg c1];have c1:s.bad=0:=by omega
  cases e2:s.jV with
  | cons c r=>
   unfold IM AC;have hf:s.kP=false:=by
    cases h:s.kP with
    |false=>rfl
    |true=>have:=(hs.kP h).1;rw[e2]at this;cases this
   refine⟨CF,λ_=>⟨done,hgo,.inl ⟨hf,?_⟩⟩,λh=>by simp_all⟩;rcases Oi with⟨_,F,hD,hF⟩|⟨h,_⟩
   ·refine⟨F++[c],by simp_all,?_⟩
    simp_all[F6]
   simp_all
  | nil =>
   by_cases c2:s.kP=aF
   ·rw[if_pos c2]
    unfold BX wS;refine⟨CF,λ_=>⟨done,hgo,.inr ⟨rfl,?_⟩⟩,λh=>by simp_all⟩;rcases Oi with⟨_,F,hD,hF⟩|⟨h,_⟩
    ·rw[e2,dY]at hD
     subst hD;rw[e1,dY,c1]at hF;exact⟨done,s.dy,s.iU,_,hF,rfl,rfl⟩
    rw[c2]at h;cases h
   rw[if_neg c2];have c2:s.kP=true:=by simp_all
   unfold jW qj;refine⟨CF,λh=>(by cases h),λ_ more hm=>?_⟩;obtain rfl:=hm (ue c2);rcases Oi with⟨h,_⟩|⟨_,L1,a,u,L2,h1,h2,h3⟩
   simp_all;rw[e1,dY]at h3;rcases KV hk h1 h2 with⟨k1,_⟩|⟨_,k2⟩
   omega;have hw:jh m b (D++[])=(out++(s.wait++(m_ m b s.p s.seen).2),(m_ m b s.p s.seen).1,s.dZ):=by
    rw[dY];show kq m b (oX m.o m.N m.tags D) _=_
    rw[k2,<-h3];unfold kq;rw[hgo];dsimp only;rw[if_neg aln,CF,eY]
   exact⟨λ_=>hw,⟨[],by rw[hw,dY]⟩⟩
end
theorem ag7{m:Md}{b:Bool}{s:fx}{out:List Ev}{D:List UInt8}(h:abS m b s out D)(n:Int):abS m b (dS s n).1 (out++(dS s n).2) D:=by
 unfold dS;split;rw[dY];exact h;have e:(out++s.wait.take (takeN s.wait s.cr n))++s.wait.drop (takeN s.wait s.cr n)=out++s.wait:=by simp
 refine⟨h.dZ,λho=>?_,λho=>?_⟩
 ·obtain⟨done,h1,h2⟩:=h.live ho
  exact⟨done,by simp_all,h2⟩
 have:=h.told ho;rw[<-e]at this;exact this
structure AD(m:Md)(b:Bool)(s:fx)(out:List Ev)(X:List UInt8):Prop where
 ok:ic m b s
 ex:∃D more,X=D++more/\(s.over=aF->more=[])/\(s.ended=aD->more=[])/\abS m b s out D
 quo:s.jT+s.dZ=4096
theorem ag8{m:Md}{b:Bool}{s:fx}{out:List Ev}{X:List UInt8}(h:AD m b s out X)(he:s.ended=aF){x:List UInt8}(h1:x.length<=1024)(h2:X.length+x.length<=4096):AD m b (lK s x).1 out (X++x)/\(lK s x).1.ended=false:=by
 obtain⟨ok,⟨D,more,hX,q1,q2,hJ⟩,hq⟩:=h;have ok2:=aeq ok x;unfold lK at ok2⊢
 by_cases c1:s.over=aD
 ·rw[if_pos (.inl c1)]at ok2⊢
  exact⟨⟨ok2,⟨D,more++x,by simp_all,(λh=>by simp_all),(λh=>by simp_all),hJ⟩,hq⟩,he⟩
 have c1:s.over=false:=by simp_all
 obtain rfl:=q1 c1;rw[dY]at hX;subst hX;have hc:=hJ.dZ;rw[if_neg (by simp_all),if_neg J,if_neg J]at ok2⊢;refine⟨⟨ok2,⟨X++x,[],by simp,λ_=>rfl,λ_=>rfl,⟨by simp_all,λ_=>?_,λh=>by simp_all⟩⟩,by grind⟩,he⟩;obtain⟨done,g1,g2⟩:=hJ.live c1;refine⟨done,g1,?_⟩;rcases g2 with⟨g2,F,g3,g4⟩|⟨g2,_⟩
 simp_all;have:=(ok.kP g2).2;rw[he]at this;cases this
theorem aew{m:Md}{b:Bool}{s:fx}{out:List Ev}{X:List UInt8}(h:AD m b s out X):AD m b (jH s).1 out X:=by
 obtain⟨ok,⟨D,more,hX,q1,q2,hJ⟩,hq⟩:=h;have ok2:=abP ok;unfold jH at ok2⊢;split at ok2
 ·rename_i c;rw[if_pos c];exact⟨ok,⟨D,more,hX,q1,q2,hJ⟩,hq⟩
 rename_i c
 rw[if_neg c];have c1:s.over=false:=by
  simp_all
 exact⟨ok2,⟨D,more,hX,q1,λ_=>q1 c1,hJ.dZ,hJ.live,λh=>by simp_all⟩,hq⟩
theorem abU{m:Md}{b:Bool}(s:fx):(g_ m b s).jT+(g_ m b s).dZ=s.jT+s.dZ/\(g_ m b s).ended=s.ended:=by
 unfold g_;split
 ·split
  simp;unfold qP qA;dsimp only;split<;>exact⟨rfl,rfl⟩
 split;exact⟨rfl,rfl⟩;split;exact⟨rfl,rfl⟩;split<;>exact⟨rfl,rfl⟩
theorem abV{m:Md}{b:Bool}{T N:Nat}(hk:fS m b T N):∀(k:Nat) {s:fx} {out:List Ev} {X:List UInt8},AD m b s out X->AD m b (eE m b k s).1 out X/\(eE m b k s).1.ended=s.ended
 |0,s,out,X,h=>⟨h,rfl⟩
 | k +1,s,out,X,h=>by
  unfold eE
  by_cases c:iy s=aD
  ·rw[if_pos c]
   obtain⟨ok,⟨D,more,hX,q1,q2,hJ⟩,hq⟩:=h;obtain⟨u1,u2⟩:=abU (m:=m) (b:=b) s;have hm:=q1 (sk c).1;obtain⟨w1,w2⟩:=abV hk k (s:=g_ m b s) (out:=out) (X:=X) ⟨Ut hk ok c,⟨D,more,hX,λ_=>hm,λ_=>hm,ag6 hk ok hJ c⟩,by omega⟩;exact⟨w1,w2.trans u2⟩
  simp_all
theorem ag9{m:Md}{b:Bool}{s:fx}{out:List Ev}{X:List UInt8}(h:AD m b s out X)(n:Int):AD m b (dS s n).1 (out++(dS s n).2) X/\(dS s n).1.ended=s.ended:=by
 obtain⟨ok,⟨D,more,hX,q1,q2,hJ⟩,hq⟩:=h;have h2:=aer ok n;have h3:=ag7 hJ n;have hkp:(dS s n).1.over=s.over/\(dS s n).1.ended=s.ended/\(dS s n).1.jT=s.jT/\(dS s n).1.dZ=s.dZ:=by
  unfold dS;split<;>exact⟨rfl,rfl,rfl,rfl⟩
 obtain⟨k1,k2,k3,k4⟩:=hkp;exact⟨⟨h2,⟨D,more,hX,by simp_all,by simp_all,h3⟩,by omega⟩,k2⟩
theorem AD.fin{m:Md}{b:Bool}{s:fx}{out:List Ev}{X:List UInt8}(h:AD m b s out X)(ho:s.over=aD)(hw:s.wait=[]):(s.fq≠10\/X.length<=64->jh m b X=(out,s.fq,s.pl))/\∃E,(jh m b X).1=out++E:=by
 obtain⟨ok,⟨D,more,rfl,q1,q2,hJ⟩,hq⟩:=h;have:=hJ.told ho more q2;rw[hw,dY]at this;exact⟨λh=>this.1 (h.imp_right λh=>by rw[bK]at h;omega),this.2⟩
theorem AD.pre{m:Md}{b:Bool}{T N:Nat}(hk:fS m b T N){s:fx}{out:List Ev}{X:List UInt8}(h:AD m b s out X)(he:s.ended=aF)(z:List UInt8):(∃E,(jh m b (X++z)).1=out++E)/\(s.over=aD->s.wait=[]->s.fq≠10->jh m b (X++z)=(out,s.fq,s.pl)):=by
 obtain⟨ok,⟨D,more,rfl,q1,q2,hJ⟩,hq⟩:=h;rw[eY]
 by_cases c:s.over=aD
 ·obtain⟨h1,E,h2⟩:=hJ.told c (more++z) (λh=>by simp_all)
  simp_all
 have c:s.over=false:=by simp_all
 refine⟨?_,λh=>by simp_all⟩;obtain⟨done,g1,g2⟩:=hJ.live c;rcases g2 with⟨_,F,rfl,hF⟩|⟨g2,_⟩
 ·obtain⟨-,r,hr⟩:=Ux hk (z:=s.jV++(more++z)) hF
  rw[<-eY]at hr;obtain⟨E,hE⟩:=IV (m:=m) (b:=b) (L:=oX m.o m.N m.tags ((F++s.jV)++(more++z))) (n:=((F++s.jV)++(more++z)).length) g1 (z:=s.eb++r) (by simp_all);exact⟨s.wait++E,hE.trans (eY ..)⟩
 have:=(ok.kP g2).2;rw[he]at this;cases this
theorem ag_{m:Md}{b:Bool}{T N:Nat}(hk:fS m b T N):AD m b {wR 4096 1000 with cr:=1073741824} [] []:=by
 have h:=abQ (Ur hk (x:=4096) (y:=1000) aln aln aln aln) 1073741824;rw[Uv]at h;refine⟨h,⟨[],[],rfl,λ_=>rfl,λ_=>rfl,rfl,λ_=>⟨[],rfl,.inl ⟨rfl,[],rfl,rfl⟩⟩,λh=>(by cases h)⟩,rfl⟩
open ia (Ev qM takeN)
structure oK(m:Md)(b:Bool)(s:fx)(out:List Ev)(X:List UInt8):Prop where
 x:AD m b s out X
 cr:s.cr+s.gone=1073741824
 gone:s.gone=(out.length:Int)
section
variable{m:Md}{b:Bool}{T N:Nat}{s:fx}{out:List Ev}{X:List UInt8}
theorem oK.tY(h:oK m b s out X):out.length<=8200000:=by
 have h0:=h.x.ok;have h1:=h0.seen;have h2:=h0.jV;have h3:=h0.tY;have h4:=h0.jT;have h5:=h0.Xb;have h6:=h.gone;have hk:((s.seen:Int)+if s.over=aD then 1 else 0)<=4097:=by split<;>omega
 generalize ((s.seen:Int)+if s.over=aD then 1 else 0)=K at*;omega
theorem oK.data(h:oK m b s out X)(he:s.ended=aF){x:List UInt8}(h1:x.length<=1024)(h2:X.length+x.length<=4096):oK m b (lK s x).1 out (X++x)/\(lK s x).1.ended=false:=by
 obtain⟨k1,k2⟩:=ag8 h.x he h1 h2;obtain⟨c1,c2⟩:=aes s x;exact⟨⟨k1,by rw[c1,c2];exact h.cr,by rw[c2];exact h.gone⟩,k2⟩
theorem oK.ended(h:oK m b s out X)(he:s.ended=aF):oK m b (jH s).1 out X/\((jH s).1.ended=aD\/(jH s).1.over=aD):=by
 obtain⟨c1,c2⟩:=abR s;refine⟨⟨aew h.x,by rw[c1,c2];exact h.cr,by rw[c2];exact h.gone⟩,?_⟩;unfold jH;split
 ·rename_i c
  rcases c with c|c
  exact .inr c;rw[he]at c;cases c
 exact .inl I
theorem oK.send(h:oK m b s out X)(n:Int):oK m b (dS s n).1 (out++(dS s n).2) X/\(dS s n).1.ended=s.ended/\(dS s n).1.over=s.over:=by
 obtain⟨k1,k2⟩:=ag9 h.x n;obtain⟨c1,c2,_⟩:=aet h.x.ok n;refine⟨⟨k1,by rw[c2];exact h.cr,by rw[c1,h.gone,bK];omega⟩,k2,?_⟩;unfold dS;split<;>rfl
theorem ag'{k:Nat}(h:iy s=aF):eE m b k s=(s,0):=by
 cases k with
 |zero=>rfl
 |succ k=>simp_all[eE]
theorem ajg{k:Nat}(h:iy s=aD):eE m b (k+1) s=((eE m b k (g_ m b s)).1,(eE m b k (g_ m b s)).2+1):=by rw[eE,if_pos h]
theorem WM(k:Nat)(s:fx)(h:s.over=aD):eE m b k s=(s,0):=ag' (by simp_all[iy])
theorem oK.ajh(hk:fS m b T N)(h:oK m b s out X)(k:Nat):oK m b (eE m b k s).1 out X/\(eE m b k s).1.ended=s.ended:=by
 obtain⟨k1,k2⟩:=abV hk k h.x;have c:=IQ (m:=m) (b:=b) k s;exact⟨⟨k1,by rw[c.cr,c.gone];exact h.cr,by rw[c.gone];exact h.gone⟩,k2⟩
theorem Oj:∀(k:Nat) (s:fx),R6 (eE m b k s).1+(eE m b k s).2<=R6 s
 |0,_=>bC _
 | k +1,s=>by
  by_cases hr:iy s=aD
  ·rw[ajg hr]
   have h1:=Oj k (g_ m b s);have h2:=(Oe (m:=m) (b:=b) hr).1;dsimp only;omega
  simp_all[ag']
theorem WN{k:Nat}(h:(eE m b (k+1) s).2=0):iy s=aF/\(eE m b (k+1) s).1=s:=by
 by_cases hr:iy s=aD
 simp_all[ajg];have hr:iy s=false:=by simpa using hr
 rw[ag' hr];exact⟨hr,rfl⟩
def F8(s:fx):Nat:=R6 s*5000+s.wait.length
theorem aex{n:Int}:F8 (dS s n).1+(dS s n).2.length=F8 s:=by
 unfold dS;split;exact Nat.add_zero _;unfold F8 R6;dsimp only;rw[iT,jz];omega
theorem oK.round(hk:fS m b T N)(h:oK m b s out X)(he:s.ended=aD\/s.over=aD):
    oK m b (eE m b 37 s).1 out X/\oK m b (dS (eE m b 37 s).1 41).1 (out++(dS (eE m b 37 s).1 41).2) X/\((dS (eE m b 37 s).1 41).1.ended=aD\/(dS (eE m b 37 s).1 41).1.over=aD)/\
    (((eE m b 37 s).2=0/\(dS (eE m b 37 s).1 41).2.length=0->(dS (eE m b 37 s).1 41).1.over=aD/\(dS (eE m b 37 s).1 41).1.wait=[])/\
     (¬((eE m b 37 s).2=0/\(dS (eE m b 37 s).1 41).2.length=0)->F8 (dS (eE m b 37 s).1 41).1<F8 s)):=by
  obtain⟨w1,w2⟩:=h.ajh hk 37;obtain⟨g1,g2,g3⟩:=w1.send 41;have hm:=aex (s:=(eE m b 37 s).1) (n:=41);have hp:=Oj (m:=m) (b:=b) 37 s;have Ii:=w1.x.ok.wl;refine⟨w1,g1,?_,λc=>?_,λc=>?_⟩
  grind[WM]
  · obtain⟨c1,c2⟩:=c
    obtain⟨r1,r2⟩:=WN c1;rw[r2]at c2 g3⊢;have hf:=h.tY;have hc:=h.cr;have hg:=h.gone;have Ii:=h.x.ok.wl;have ht:s.wait=[]:=by
      refine mK ?_;unfold dS at c2;rw[if_neg aln]at c2;rw[jz]at c2;unfold takeN at c2;omega
    rw[g3]
    constructor
    grind[iy]
    simp_all[dS]
  grind[eE,F8]
theorem aky(hk:fS m b T N):oK m b {wR 4096 1000 with cr:=1073741824} [] []:=⟨ag_ hk,rfl,rfl⟩
inductive Ha(m:Md)(b:Bool):fx->List Ev->(List Ev×Int×Nat)->Prop
 |stop {s:fx} {out:List Ev} (h:(eE m b 37 s).2=0/\(dS (eE m b 37 s).1 41).2.length=0):Ha m b s out (out++(dS (eE m b 37 s).1 41).2,(dS (eE m b 37 s).1 41).1.fq,(dS (eE m b 37 s).1 41).1.pl)
 |step {s:fx} {out:List Ev} {r:List Ev×Int×Nat} (h:¬((eE m b 37 s).2=0/\(dS (eE m b 37 s).1 41).2.length=0)) (h2:Ha m b (dS (eE m b 37 s).1 41).1 (out++(dS (eE m b 37 s).1 41).2) r):Ha m b s out r
def aey(l:List (List UInt8)):fx:=(jH (l.foldl (λs x=>(lK s x).1) {wR 4096 1000 with cr:=1073741824})).1
structure abW(m:Md)(b:Bool)(X:List UInt8)(x:List Ev×Int×Nat):Prop where
 tY:x.1.length<=8200000
 all:x.2.1≠10\/X.length<=64->jh m b X=x
 pre:∃E,(jh m b X).1=x.1++E
theorem oK.fin(h:oK m b s out X)(ho:s.over=aD)(hw:s.wait=[]):abW m b X (out,s.fq,s.pl)/\CD s=(s.fq,s.pl,aD):=by
 obtain⟨h1,h2⟩:=h.x.fin ho hw;exact⟨⟨h.tY,h1,h2⟩,if_pos ⟨ho,hw⟩⟩
end
end f_
namespace bZ
open Go.RowKit cL dQ
def nr(g:Nat)(cs:List Value)(T:TypeId):b9:=
 ⟨aj g,λ_=>False,λw=>∃r:List Value,w.heap[g]?=aj (.cells (cs++r).toArray T (0,0)),λw ⟨r,h⟩ k hk=>by simp only[dL,or_false]at hk;subst hk;exact(Array.getElem?_eq_some_iff.1 h).1,
  λw w' ⟨r,h⟩ _ hb=>⟨r,by rw[hb g (.inl I)];exact h⟩⟩
section
variable{W:bP}{L:List b9}
theorem fj{i g off:Nat}{cs:List Value}{T:TypeId}{v:Value}(hi:L[i]?=aj (nr g cs T))(hv:cs.toArray[off]?=aj v):At W L ⟨g,off,ak⟩ v:=λw hm=>by
 obtain⟨r,h⟩:=hm.get hi;rw[cell_of_row w g off _ T (0,0) h,oE];rw[oE]at hv;rw[mg (dX.1 hv).1];exact hv
theorem cI{i g:Nat}{C:Array Value}{cs:List Value}{T:TypeId}(hi:L[i]?=aj (aR g C T))(hC:∃r,C=(cs++r).toArray):∀w,Mem W L w->Mem W [nr g cs T] w:=λw hm=>by
 have h1:Mem W [aR g C T] w:=hm.pick [i] (by simp) (by grind);obtain⟨r,rfl⟩:=hC;exact h1.SU (i:=0) (nr g cs T) I (λw h=>⟨r,h⟩) λk h=>h
end
theorem dB(vo:Value)(pk tl r:List Value):∃q,(gZ vo pk (tl++r)).toArray=(gZ vo pk tl++q).toArray:=⟨r,by simp[gZ]⟩
open aV dO eX fY gX bI
theorem e9{vo:Value}{pk tl cs:List Value}(k0:Nat)(hp:pk.length=258)(hc:(tl.drop k0).take cs.length=cs){j k:Nat}{v:Value}(h:cs[j]?=aj v)(hk:k=k0+259+j):(gZ vo pk tl).toArray[k]?=aj v:=by
 have hj:=(dX.1 h).1;rw[<-hc,List.getElem?_take_of_lt hj,List.getElem?_drop]at h;exact im (k0+j) hp h J
section
variable{P:Program}{n:Nat}{W:bP}{fr:Fr}{L:List b9}{Q:Exit->Act->World->Prop}{ops:Array Oper}{rest:List Oper}{ty:TypeId}{pos:String}{after:Array Edge}{t:TypeId}{p x:Operand}{i g k:Nat}{vo:Value}{pk tl:List Value}{T:TypeId}{agg:Bool}{v:Value}
theorem eO(k0:Nat){cs tl':List Value}{c:Nat}[hT:aL P t agg c](hi:L[i]?=aj (aR g (gZ vo pk tl).toArray T))(hp:ev fr p=aj (aK (aj ⟨g,k,ak⟩)))(hx:ev fr x=aj (aQ cs.toArray))(h1:cs.all ft=aD)(hc:cs.length=c)(hk:k=k0+259)(dE:pk.length=258)(hj:Nat.ble (k0+c) tl.length=aD)
 (htl:tl.take k0++cs++tl.drop (k0+c)=tl') (h:TL P n W ops Q rest fr (L.set i (aR g (gZ vo pk tl').toArray T))):TL P n W ops Q (⟨ak,.store t p x,ty,pos,after,ak⟩::rest) fr L:=by
 subst hk htl;have hj:=Nat.le_of_ble_eq_true hj;refine uL hT.ty hi hp hx (by simpa[tp]using hc) (by simpa[tp]using h1) (by rw[eM,gZ,dj,bK];omega) ?_ h;apply Array.ext';show vo::(pk++(tl.take k0++cs++tl.drop (k0+c)))=List.take (k0+259) (vo::(pk++tl))++cs++List.drop (k0+259+c) (vo::(pk++tl))
 rw[show k0+259=pk.length+k0+1 by omega,List.take_succ_cons,show pk.length+k0+1+c=pk.length+(k0+c)+1 by omega,List.drop_succ_cons,List.take_length_add_append,List.drop_length_add_append];simp
end
def kB:Bool->Value->PS->b9
 |true,v,p=>xr v p.1
 |false,v,p=>T7 v p.2
abbrev ng(g:Nat)(vo:Value)(pk tl:List Value)(v:Value)(a e:Int)(d:Bool)(T:TypeId):b9:=aR g (gZ vo pk (tl++[v,az aB a,az aB e,.bool d])).toArray T
theorem mc{v:Value}{a e:Int}{d:Bool}(h:v.oneCell'=aD):[v,az aB a,az aB e,.bool d].all ft=true:=by
 simp only[c_,db,h];rfl
def WO(b:Bool)(T:TypeId)(g:Nat)(vo:Value)(pk tl:List Value)(a:Nat)(R:Int×PS×List dw):Spec (Value×Value):=
 ⟨λ_=>True,λx=>if R.1=0 then .tuple #[x.2,az aB 0]else .tuple #[av ak 0 0,az aB R.1],λx=>if R.1=0 then [ng g vo pk tl x.1 ((a:Int)+1) 0 aF T,kB b x.1 R.2.1,jJ x.2 R.2.2]else [ng g vo pk tl (av ak 0 0) a R.1 aF T]⟩
theorem KW{b:Bool}{T:TypeId}{g:Nat}{vo:Value}{pk tl:List Value}{a:Nat}{p:PS}{o:List dw}:WO b T g vo pk tl a (0,p,o)=⟨λ_=>True,λx=> .tuple #[x.2,az aB 0],λx=>[ng g vo pk tl x.1 ((a:Int)+1) 0 aF T,kB b x.1 p,jJ x.2 o]⟩:=rfl
theorem KX{b:Bool}{T:TypeId}{g:Nat}{vo:Value}{pk tl:List Value}{a:Nat}{e:Int}(he:e≠0){R:PS×List dw}:WO b T g vo pk tl a (e,R)=⟨λ_=>True,λ_=> .tuple #[av ak 0 0,az aB e],λ_=>[ng g vo pk tl (av ak 0 0) a e aF T]⟩:=by unfold WO;simp[he]
def WQ(g:Nat)(vo:Value)(pk tl:List Value)(a:Nat)(R:Int×List dw)(T:TypeId):Spec Value:=
 ⟨λ_=>True,λx=>if R.1=0 then .tuple #[x,az aB 0]else .tuple #[av ak 0 0,az aB R.1],λx=>if R.1=0 then [ng g vo pk tl (av ak 0 0) a 0 aD T,jJ x R.2]else [ng g vo pk tl (av ak 0 0) a R.1 aF T]⟩
theorem KY{g:Nat}{vo:Value}{pk tl:List Value}{a:Nat}{T:TypeId}{o:List dw}:WQ g vo pk tl a (0,o) T=⟨λ_=>True,λx=> .tuple #[x,az aB 0],λx=>[ng g vo pk tl (av ak 0 0) a 0 aD T,jJ x o]⟩:=rfl
theorem KZ{g:Nat}{vo:Value}{pk tl:List Value}{a:Nat}{T:TypeId}{e:Int}(he:e≠0){o:List dw}:WQ g vo pk tl a (e,o) T=⟨λ_=>True,λ_=> .tuple #[av ak 0 0,az aB e],λ_=>[ng g vo pk tl (av ak 0 0) a e aF T]⟩:=by unfold WQ;simp[he]
attribute [local irreducible] Instr.build in
set_option maxRecDepth 100000 in
theorem K0(w0:World)(x:Value)(m:Md){vo vn vt vp vr va vg:Value}(T N:Nat)(hv:xS w0 x m vo vn vt vp vr va vg)(hk:fS m aD T N)(g:Nat)(v:Value)(p:PS)(hp:G_ m aD p)(a t:Nat)(ha:a<=1000000)(ht:t<T)(w:World)(B:bP)(ho:mI w0 B)
 (hm:Mem B [ng g vo (ey m.o vn vt) (eD m.g.aT m.g.bx vp m.mode vr va vg) v a 0 aF 174,kB aD v p] w):
 Calls aE 196 #[aK (aj ⟨g,0,ak⟩),az aB (t:Int)] w (cZ (WO aD 174 g vo (ey m.o vn vt) (eD m.g.aT m.g.bx vp m.mode vr va vg) a (fa m aD p a (t:Int))) B):=by
 have dE:(ey m.o vn vt).length=258:=fh _ _ _;obtain⟨p1,p2⟩:=hp;obtain⟨h1,h2⟩:=hk.ll rfl;have hG:=hv.xz;have hr:=hv.rows;have Xe:=hv.ox;have hc:=λw' (hm:Mem B [ng g vo (ey m.o vn vt) (eD m.g.aT m.g.bx vp m.mode vr va vg) v a 0 aF 174,kB aD v p] w')=>tR _ vr v m.g m.rows T N p.1 a t w' (hG.gr (ho.mem hm)) (hr.gr (ho.mem hm)) (Sl.dx (hm.get (i:=1) I)) h1 hk.xz h2 p1 p2 ha ht;have hR:fa m aD p a (t:Int)=((jq m.g.aH (ig m.rows t) p.1 a (t:Int)).1,((jq m.g.aH (ig m.rows t) p.1 a (t:Int)).2.1,p.2),(jq m.g.aH (ig m.rows t) p.1 a (t:Int)).2.2):=rfl;rw[hR];clear hR;generalize jq m.g.aH (ig m.rows t) p.1 a (t:Int)=R at*;obtain⟨e,st,o⟩:=R;generalize ey m.o vn vt=PK at*;generalize m.g.aT=gt at*;generalize m.g.bx=gn at*;generalize m.mode=md at*;clear hG hr Xe hv
 by_cases c:e=0
 ·subst c
  rw[NT]at hc;rw[KW];refine du hm (args:=[aK (aj ⟨g,0,ak⟩),az aB (t:Int)]) (n:=31) Tryz.func196 I I I ?_
  try refine GA ?_
  refine dH ([nr g (gZ vo PK (eD gt gn vp md vr va vg)) 174]) (.calm 0 (.calm 1 (.calm 2 (.calm 3 (.calm 4 (.calm 5 (.calm 6 (.calm 7 (.calm 8 (.calm 9 (.calm 10 (.calm 11 (.calm 12 (.calm 13 (.calm 15 (.one 14 (.one 16 (.calm 17 (.calm 18 (.calm 19 (.calm 20 (.calm 21 (.calm 22 (.one 23 (.calm 24 (.calm 25 (.done))))))))))))))))))))))))))) (cI (i:=0) I (dB _ _ _ _)) ?_
  repeat(first|refine GW ?_|(refine GN ?_;first|refine QW (aY (cs:=[az aB gt,az aB gn,vp]) aL.ty I I (λj v h=>fj (i:=0) I (e9 0 dE I h J))) ?_|refine QW (aC (v:=vr) aL.ty I (fj (i:=0) I (im 4 dE I I))) ?_))
  refine aM I (dm (aY (cs:=[v,az aB a,az aB 0,.bool aF]) aL.ty I I (λj v h=>aI (i:=0) I (e9 7 dE I h J))) I I I (aO (cI (i:=0) I (dB _ _ _ _)) ?_))
  try refine GW ?_
  refine aM I (aU (Ln aJ.en I I I I I) (λw hm=>hc w hm) I I I ?_);rintro⟨v1,v2⟩ _;refine zL ?_;refine aO (cI (i:=0) I (dB _ _ _ _)) ?_
  try refine GW ?_
  refine aM I (aX (i:=2) I λ_ ju=>eO (i:=0) 7 (tl':=eD gt gn vp md vr va vg++[v1,az aB ((a:Int)+1),az aB 0,.bool aF]) I I I (mc ju) I I dE I I ?_);refine zL ?_;refine aO (cI (i:=0) I (dB _ _ _ _)) ?_
  try refine GW ?_
  try refine GA ?_
  exact kZ I I I λw hm=>hm.b_ (S:=⟨λ_=>True,λx=> .tuple #[x.2,az aB 0],λx=>[ng g vo PK (eD gt gn vp md vr va vg) x.1 ((a:Int)+1) 0 aF 174,kB aD x.1 (st,p.2),jJ x.2 o]⟩) (v1,v2) trivial [0,2,3] aln I
 ·rw[ID _ c]at hc
  rw[KX c];refine du hm (args:=[aK (aj ⟨g,0,ak⟩),az aB (t:Int)]) (n:=31) Tryz.func196 I I I ?_
  try refine GA ?_
  refine dH ([nr g (gZ vo PK (eD gt gn vp md vr va vg)) 174]) (.calm 0 (.calm 1 (.calm 2 (.calm 3 (.calm 4 (.calm 5 (.calm 6 (.calm 7 (.calm 8 (.calm 9 (.calm 10 (.calm 11 (.calm 12 (.calm 13 (.calm 15 (.one 14 (.one 16 (.calm 17 (.calm 18 (.calm 19 (.calm 20 (.calm 21 (.calm 22 (.one 23 (.calm 24 (.calm 25 (.done))))))))))))))))))))))))))) (cI (i:=0) I (dB _ _ _ _)) ?_
  repeat(first|refine GW ?_|(refine GN ?_;first|refine QW (aY (cs:=[az aB gt,az aB gn,vp]) aL.ty I I (λj v h=>fj (i:=0) I (e9 0 dE I h J))) ?_|refine QW (aC (v:=vr) aL.ty I (fj (i:=0) I (im 4 dE I I))) ?_))
  refine aM I (dm (aY (cs:=[v,az aB a,az aB 0,.bool aF]) aL.ty I I (λj v h=>aI (i:=0) I (e9 7 dE I h J))) I I I (aO (cI (i:=0) I (dB _ _ _ _)) ?_))
  try refine GW ?_
  refine aM I (aU (Ln aJ.en I I I I I) (λw hm=>hc w hm) I I I ?_);rintro x1 _;refine zL ?_;refine aO (cI (i:=0) I (dB _ _ _ _)) ?_
  try refine GW ?_
  refine aM I (eO (i:=0) 7 (tl':=eD gt gn vp md vr va vg++[av ak 0 0,az aB (a:Int),az aB e,.bool aF]) I I I (mc I) I I dE I I ?_);refine zL ?_;refine aO (cI (i:=0) I (dB _ _ _ _)) ?_
  try refine GW ?_
  try refine GA ?_
  exact kZ I I I λw hm=>hm.b_ (S:=⟨λ(_:Value×Value)=>True,λ_=> .tuple #[av ak 0 0,az aB e],λ_=>[ng g vo PK (eD gt gn vp md vr va vg) (av ak 0 0) a e aF 174]⟩) (v,v) trivial [0] aln I
attribute [local irreducible] Instr.build in
set_option maxRecDepth 100000 in
theorem K1(w0:World)(x:Value)(m:Md){vo vn vt vp vr va vg:Value}(T N:Nat)(hv:xS w0 x m vo vn vt vp vr va vg)(hk:fS m aF T N)(g:Nat)(v:Value)(p:PS)(hp:G_ m aF p)(a t:Nat)(ha:a<=1000000)(ht:t<T)(w:World)(B:bP)(ho:mI w0 B)
 (hm:Mem B [ng g vo (ey m.o vn vt) (eD m.g.aT m.g.bx vp m.mode vr va vg) v a 0 aF 177,kB aF v p] w):
 Calls aE 198 #[aK (aj ⟨g,0,ak⟩),az aB (t:Int)] w (cZ (WO aF 177 g vo (ey m.o vn vt) (eD m.g.aT m.g.bx vp m.mode vr va vg) a (fa m aF p a (t:Int))) B):=by
 have dE:(ey m.o vn vt).length=258:=fh _ _ _;obtain⟨p1,p2,p3⟩:=hp;have h2:=hk.lr I;have hG:=hv.xz;have hr:=hv.rows;have Xe:=hv.ox;have hc:=λw' (hm:Mem B [ng g vo (ey m.o vn vt) (eD m.g.aT m.g.bx vp m.mode vr va vg) v a 0 aF 177,kB aF v p] w')=>Ap _ (aQ #[va,vg]) v m.g T N m.A m.G p.2 a t w' (hG.gr (ho.mem hm)) (Xe.gr (ho.mem hm)) (Sl.dx (hm.get (i:=1) I)) h2 p2 p1 p3 ht ha;have hR:fa m aF p a (t:Int)=((fJ m.g.aH (ii m.A) (eQ m.G) t a 2001 p.2 []).1,(p.1,(fJ m.g.aH (ii m.A) (eQ m.G) t a 2001 p.2 []).2.1),(fJ m.g.aH (ii m.A) (eQ m.G) t a 2001 p.2 []).2.2):=rfl;rw[hR];clear hR;generalize fJ m.g.aH (ii m.A) (eQ m.G) t a 2001 p.2 []=R at*;obtain⟨e,st,o⟩:=R;generalize ey m.o vn vt=PK at*;generalize m.g.aT=gt at*;generalize m.g.bx=gn at*;generalize m.mode=md at*;clear hG hr Xe hv
 by_cases c:e=0
 ·subst c
  rw[BN]at hc;rw[KW];refine du hm (args:=[aK (aj ⟨g,0,ak⟩),az aB (t:Int)]) (n:=31) Tryz.func198 I I I ?_
  try refine GA ?_
  refine dH ([nr g (gZ vo PK (eD gt gn vp md vr va vg)) 177]) (.calm 0 (.calm 1 (.calm 2 (.calm 3 (.calm 4 (.calm 5 (.calm 6 (.calm 7 (.calm 8 (.calm 9 (.calm 10 (.calm 11 (.calm 12 (.calm 13 (.calm 15 (.one 14 (.one 16 (.calm 17 (.calm 18 (.calm 19 (.calm 20 (.calm 21 (.calm 22 (.one 23 (.calm 24 (.calm 25 (.done))))))))))))))))))))))))))) (cI (i:=0) I (dB _ _ _ _)) ?_
  repeat(first|refine GW ?_|(refine GN ?_;first|refine QW (aY (cs:=[az aB gt,az aB gn,vp]) aL.ty I I (λj v h=>fj (i:=0) I (e9 0 dE I h J))) ?_|refine QW (aY (cs:=[va,vg]) aL.ty I I (λj v h=>fj (i:=0) I (e9 5 dE I h J))) ?_))
  refine aM I (dm (aY (cs:=[v,az aB a,az aB 0,.bool aF]) aL.ty I I (λj v h=>aI (i:=0) I (e9 7 dE I h J))) I I I (aO (cI (i:=0) I (dB _ _ _ _)) ?_))
  try refine GW ?_
  refine aM I (aU (Ln aJ.en I I I I I) (λw hm=>hc w hm) I I I ?_);rintro⟨v1,v2⟩ _;refine zL ?_;refine aO (cI (i:=0) I (dB _ _ _ _)) ?_
  try refine GW ?_
  refine aM I (aX (i:=2) I λ_ ju=>eO (i:=0) 7 (tl':=eD gt gn vp md vr va vg++[v1,az aB ((a:Int)+1),az aB 0,.bool aF]) I I I (mc ju) I I dE I I ?_);refine zL ?_;refine aO (cI (i:=0) I (dB _ _ _ _)) ?_
  try refine GW ?_
  try refine GA ?_
  exact kZ I I I λw hm=>hm.b_ (S:=⟨λ_=>True,λx=> .tuple #[x.2,az aB 0],λx=>[ng g vo PK (eD gt gn vp md vr va vg) x.1 ((a:Int)+1) 0 aF 177,kB aF x.1 (p.1,st),jJ x.2 o]⟩) (v1,v2) trivial [0,2,3] aln I
 ·rw[BO c]at hc
  rw[KX c];refine du hm (args:=[aK (aj ⟨g,0,ak⟩),az aB (t:Int)]) (n:=31) Tryz.func198 I I I ?_
  try refine GA ?_
  refine dH ([nr g (gZ vo PK (eD gt gn vp md vr va vg)) 177]) (.calm 0 (.calm 1 (.calm 2 (.calm 3 (.calm 4 (.calm 5 (.calm 6 (.calm 7 (.calm 8 (.calm 9 (.calm 10 (.calm 11 (.calm 12 (.calm 13 (.calm 15 (.one 14 (.one 16 (.calm 17 (.calm 18 (.calm 19 (.calm 20 (.calm 21 (.calm 22 (.one 23 (.calm 24 (.calm 25 (.done))))))))))))))))))))))))))) (cI (i:=0) I (dB _ _ _ _)) ?_
  repeat(first|refine GW ?_|(refine GN ?_;first|refine QW (aY (cs:=[az aB gt,az aB gn,vp]) aL.ty I I (λj v h=>fj (i:=0) I (e9 0 dE I h J))) ?_|refine QW (aY (cs:=[va,vg]) aL.ty I I (λj v h=>fj (i:=0) I (e9 5 dE I h J))) ?_))
  refine aM I (dm (aY (cs:=[v,az aB a,az aB 0,.bool aF]) aL.ty I I (λj v h=>aI (i:=0) I (e9 7 dE I h J))) I I I (aO (cI (i:=0) I (dB _ _ _ _)) ?_))
  try refine GW ?_
  refine aM I (aU (Ln aJ.en I I I I I) (λw hm=>hc w hm) I I I ?_);rintro x1 _;refine zL ?_;refine aO (cI (i:=0) I (dB _ _ _ _)) ?_
  try refine GW ?_
  refine aM I (eO (i:=0) 7 (tl':=eD gt gn vp md vr va vg++[av ak 0 0,az aB (a:Int),az aB e,.bool aF]) I I I (mc I) I I dE I I ?_);refine zL ?_;refine aO (cI (i:=0) I (dB _ _ _ _)) ?_
  try refine GW ?_
  try refine GA ?_
  exact kZ I I I λw hm=>hm.b_ (S:=⟨λ(_:Value×Value)=>True,λ_=> .tuple #[av ak 0 0,az aB e],λ_=>[ng g vo PK (eD gt gn vp md vr va vg) (av ak 0 0) a e aF 177]⟩) (v,v) trivial [0] aln I
attribute [local irreducible] Instr.build in
set_option maxRecDepth 100000 in
theorem Ol(w0:World)(x:Value)(m:Md){vo vn vt vp vr va vg:Value}(T N:Nat)(hv:xS w0 x m vo vn vt vp vr va vg)(hk:fS m aD T N)(g:Nat)(v:Value)(p:PS)(hp:G_ m aD p)(a:Nat)(ha:a<=1000000)(w:World)(B:bP)(ho:mI w0 B)
 (hm:Mem B [ng g vo (ey m.o vn vt) (eD m.g.aT m.g.bx vp m.mode vr va vg) v a 0 aF 174,kB aD v p] w):
 Calls aE 195 #[aK (aj ⟨g,0,ak⟩)] w (cZ (WQ g vo (ey m.o vn vt) (eD m.g.aT m.g.bx vp m.mode vr va vg) a (m_ m aD p a) 174) B):=by
 have dE:(ey m.o vn vt).length=258:=fh _ _ _;obtain⟨p1,p2⟩:=hp;obtain⟨h1,h2⟩:=hk.ll rfl;have hG:=hv.xz;have hr:=hv.rows;have Xe:=hv.ox;have hc:=λw' (hm:Mem B [ng g vo (ey m.o vn vt) (eD m.g.aT m.g.bx vp m.mode vr va vg) v a 0 aF 174,kB aD v p] w')=>wK _ vr v m.g m.rows T N p.1 a w' (hG.gr (ho.mem hm)) (hr.gr (ho.mem hm)) (Sl.dx (hm.get (i:=1) I)) h1 hk.xz h2 p1 p2 ha;have hT:=hk.tT;have hR:m_ m aD p a=iw m.g.aH (ig m.rows m.g.aT.toNat) p.1:=rfl;rw[hR,show m.g.aT.toNat=T by omega];clear hR hT;generalize iw m.g.aH (ig m.rows T) p.1=R at*;obtain⟨e,o⟩:=R;generalize ey m.o vn vt=PK at*;generalize m.g.aT=gt at*;generalize m.g.bx=gn at*;generalize m.mode=md at*;clear hG hr Xe hv
 by_cases c:e=0
 ·subst c
  rw[Ua]at hc;rw[KY];refine du hm (args:=[aK (aj ⟨g,0,ak⟩)]) (n:=28) Tryz.func195 I I I ?_
  try refine GA ?_
  refine dH ([nr g (gZ vo PK (eD gt gn vp md vr va vg)) 174]) (.calm 0 (.calm 1 (.calm 2 (.calm 3 (.calm 4 (.calm 5 (.calm 6 (.calm 7 (.calm 8 (.calm 9 (.calm 10 (.calm 11 (.calm 12 (.calm 13 (.one 14 (.one 15 (.calm 16 (.calm 17 (.calm 18 (.calm 19 (.calm 20 (.calm 21 (.one 22 (.calm 23 (.calm 24 (.done)))))))))))))))))))))))))) (cI (i:=0) I (dB _ _ _ _)) ?_
  repeat(first|refine GW ?_|(refine GN ?_;first|refine QW (aY (cs:=[az aB gt,az aB gn,vp]) aL.ty I I (λj v h=>fj (i:=0) I (e9 0 dE I h J))) ?_|refine QW (aC (v:=vr) aL.ty I (fj (i:=0) I (im 4 dE I I))) ?_))
  refine aM I (dm (aY (cs:=[v,az aB a,az aB 0,.bool aF]) aL.ty I I (λj v h=>aI (i:=0) I (e9 7 dE I h J))) I I I (aO (cI (i:=0) I (dB _ _ _ _)) ?_))
  try refine GW ?_
  refine aM I (aU (qq aJ.en I I I I) (λw hm=>hc w hm) I I I ?_);rintro x1 _;refine zL ?_;refine aO (cI (i:=0) I (dB _ _ _ _)) ?_
  try refine GW ?_
  refine aM I (eO (i:=0) 7 (tl':=eD gt gn vp md vr va vg++[av ak 0 0,az aB (a:Int),az aB 0,.bool aD]) I I I (mc I) I I dE I I ?_);refine zL ?_;refine aO (cI (i:=0) I (dB _ _ _ _)) ?_
  try refine GW ?_
  try refine GA ?_
  exact kZ I I I λw hm=>hm.b_ (S:=⟨λ_=>True,λx=> .tuple #[x,az aB 0],λx=>[ng g vo PK (eD gt gn vp md vr va vg) (av ak 0 0) a 0 aD 174,jJ x o]⟩) x1 trivial [0,2] aln I
 ·rw[NU _ c]at hc
  rw[KZ c];refine du hm (args:=[aK (aj ⟨g,0,ak⟩)]) (n:=28) Tryz.func195 I I I ?_
  try refine GA ?_
  refine dH ([nr g (gZ vo PK (eD gt gn vp md vr va vg)) 174]) (.calm 0 (.calm 1 (.calm 2 (.calm 3 (.calm 4 (.calm 5 (.calm 6 (.calm 7 (.calm 8 (.calm 9 (.calm 10 (.calm 11 (.calm 12 (.calm 13 (.one 14 (.one 15 (.calm 16 (.calm 17 (.calm 18 (.calm 19 (.calm 20 (.calm 21 (.one 22 (.calm 23 (.calm 24 (.done)))))))))))))))))))))))))) (cI (i:=0) I (dB _ _ _ _)) ?_
  repeat(first|refine GW ?_|(refine GN ?_;first|refine QW (aY (cs:=[az aB gt,az aB gn,vp]) aL.ty I I (λj v h=>fj (i:=0) I (e9 0 dE I h J))) ?_|refine QW (aC (v:=vr) aL.ty I (fj (i:=0) I (im 4 dE I I))) ?_))
  refine aM I (dm (aY (cs:=[v,az aB a,az aB 0,.bool aF]) aL.ty I I (λj v h=>aI (i:=0) I (e9 7 dE I h J))) I I I (aO (cI (i:=0) I (dB _ _ _ _)) ?_))
  try refine GW ?_
  refine aM I (aU (qq aJ.en I I I I) (λw hm=>hc w hm) I I I ?_);rintro x1 _;refine zL ?_;refine aO (cI (i:=0) I (dB _ _ _ _)) ?_
  try refine GW ?_
  refine aM I (eO (i:=0) 7 (tl':=eD gt gn vp md vr va vg++[av ak 0 0,az aB (a:Int),az aB e,.bool aF]) I I I (mc I) I I dE I I ?_);refine zL ?_;refine aO (cI (i:=0) I (dB _ _ _ _)) ?_
  try refine GW ?_
  try refine GA ?_
  exact kZ I I I λw hm=>hm.b_ (S:=⟨λ(_:Value)=>True,λ_=> .tuple #[av ak 0 0,az aB e],λ_=>[ng g vo PK (eD gt gn vp md vr va vg) (av ak 0 0) a e aF 174]⟩) v trivial [0] aln I
attribute [local irreducible] Instr.build in
set_option maxRecDepth 100000 in
theorem Om(w0:World)(x:Value)(m:Md){vo vn vt vp vr va vg:Value}(T N:Nat)(hv:xS w0 x m vo vn vt vp vr va vg)(hk:fS m aF T N)(g:Nat)(v:Value)(p:PS)(hp:G_ m aF p)(a:Nat)(ha:a<=1000000)(w:World)(B:bP)(ho:mI w0 B)
 (hm:Mem B [ng g vo (ey m.o vn vt) (eD m.g.aT m.g.bx vp m.mode vr va vg) v a 0 aF 177,kB aF v p] w):
 Calls aE 197 #[aK (aj ⟨g,0,ak⟩)] w (cZ (WQ g vo (ey m.o vn vt) (eD m.g.aT m.g.bx vp m.mode vr va vg) a (m_ m aF p a) 177) B):=by
 have dE:(ey m.o vn vt).length=258:=fh _ _ _;obtain⟨p1,p2,p3⟩:=hp;have h2:=hk.lr I;have hG:=hv.xz;have hr:=hv.rows;have Xe:=hv.ox;have hc:=λw' (hm:Mem B [ng g vo (ey m.o vn vt) (eD m.g.aT m.g.bx vp m.mode vr va vg) v a 0 aF 177,kB aF v p] w')=>CC _ (aQ #[va,vg]) v m.g T N m.A m.G p.2 a w' (hG.gr (ho.mem hm)) (Xe.gr (ho.mem hm)) (Sl.dx (hm.get (i:=1) I)) h2 p2 p1 p3 ha;have hT:=hk.tT;have hR:m_ m aF p a=((fJ m.g.aH (ii m.A) (eQ m.G) m.g.aT.toNat a 2001 p.2 []).1,(fJ m.g.aH (ii m.A) (eQ m.G) m.g.aT.toNat a 2001 p.2 []).2.2):=rfl;rw[hR,show m.g.aT.toNat=T by omega];clear hR hT;generalize fJ m.g.aH (ii m.A) (eQ m.G) T a 2001 p.2 []=R at*;obtain⟨e,st,o⟩:=R;generalize ey m.o vn vt=PK at*;generalize m.g.aT=gt at*;generalize m.g.bx=gn at*;generalize m.mode=md at*;clear hG hr Xe hv;dsimp only
 by_cases c:e=0
 ·subst c
  rw[FO]at hc;rw[KY];refine du hm (args:=[aK (aj ⟨g,0,ak⟩)]) (n:=28) Tryz.func197 I I I ?_
  try refine GA ?_
  refine dH ([nr g (gZ vo PK (eD gt gn vp md vr va vg)) 177]) (.calm 0 (.calm 1 (.calm 2 (.calm 3 (.calm 4 (.calm 5 (.calm 6 (.calm 7 (.calm 8 (.calm 9 (.calm 10 (.calm 11 (.calm 12 (.calm 13 (.one 14 (.one 15 (.calm 16 (.calm 17 (.calm 18 (.calm 19 (.calm 20 (.calm 21 (.one 22 (.calm 23 (.calm 24 (.done)))))))))))))))))))))))))) (cI (i:=0) I (dB _ _ _ _)) ?_
  repeat(first|refine GW ?_|(refine GN ?_;first|refine QW (aY (cs:=[az aB gt,az aB gn,vp]) aL.ty I I (λj v h=>fj (i:=0) I (e9 0 dE I h J))) ?_|refine QW (aY (cs:=[va,vg]) aL.ty I I (λj v h=>fj (i:=0) I (e9 5 dE I h J))) ?_))
  refine aM I (dm (aY (cs:=[v,az aB a,az aB 0,.bool aF]) aL.ty I I (λj v h=>aI (i:=0) I (e9 7 dE I h J))) I I I (aO (cI (i:=0) I (dB _ _ _ _)) ?_))
  try refine GW ?_
  refine aM I (aU (qq aJ.en I I I I) (λw hm=>hc w hm) I I I ?_);rintro x1 _;refine zL ?_;refine aO (cI (i:=0) I (dB _ _ _ _)) ?_
  try refine GW ?_
  refine aM I (eO (i:=0) 7 (tl':=eD gt gn vp md vr va vg++[av ak 0 0,az aB (a:Int),az aB 0,.bool aD]) I I I (mc I) I I dE I I ?_);refine zL ?_;refine aO (cI (i:=0) I (dB _ _ _ _)) ?_
  try refine GW ?_
  try refine GA ?_
  exact kZ I I I λw hm=>hm.b_ (S:=⟨λ_=>True,λx=> .tuple #[x,az aB 0],λx=>[ng g vo PK (eD gt gn vp md vr va vg) (av ak 0 0) a 0 aD 177,jJ x o]⟩) x1 trivial [0,2] aln I
 ·rw[FP c]at hc
  rw[KZ c];refine du hm (args:=[aK (aj ⟨g,0,ak⟩)]) (n:=28) Tryz.func197 I I I ?_
  try refine GA ?_
  refine dH ([nr g (gZ vo PK (eD gt gn vp md vr va vg)) 177]) (.calm 0 (.calm 1 (.calm 2 (.calm 3 (.calm 4 (.calm 5 (.calm 6 (.calm 7 (.calm 8 (.calm 9 (.calm 10 (.calm 11 (.calm 12 (.calm 13 (.one 14 (.one 15 (.calm 16 (.calm 17 (.calm 18 (.calm 19 (.calm 20 (.calm 21 (.one 22 (.calm 23 (.calm 24 (.done)))))))))))))))))))))))))) (cI (i:=0) I (dB _ _ _ _)) ?_
  repeat(first|refine GW ?_|(refine GN ?_;first|refine QW (aY (cs:=[az aB gt,az aB gn,vp]) aL.ty I I (λj v h=>fj (i:=0) I (e9 0 dE I h J))) ?_|refine QW (aY (cs:=[va,vg]) aL.ty I I (λj v h=>fj (i:=0) I (e9 5 dE I h J))) ?_))
  refine aM I (dm (aY (cs:=[v,az aB a,az aB 0,.bool aF]) aL.ty I I (λj v h=>aI (i:=0) I (e9 7 dE I h J))) I I I (aO (cI (i:=0) I (dB _ _ _ _)) ?_))
  try refine GW ?_
  refine aM I (aU (qq aJ.en I I I I) (λw hm=>hc w hm) I I I ?_);rintro x1 _;refine zL ?_;refine aO (cI (i:=0) I (dB _ _ _ _)) ?_
  try refine GW ?_
  refine aM I (eO (i:=0) 7 (tl':=eD gt gn vp md vr va vg++[av ak 0 0,az aB (a:Int),az aB e,.bool aF]) I I I (mc I) I I dE I I ?_);refine zL ?_;refine aO (cI (i:=0) I (dB _ _ _ _)) ?_
  try refine GW ?_
  try refine GA ?_
  exact kZ I I I λw hm=>hm.b_ (S:=⟨λ(_:Value)=>True,λ_=> .tuple #[av ak 0 0,az aB e],λ_=>[ng g vo PK (eD gt gn vp md vr va vg) (av ak 0 0) a e aF 177]⟩) v trivial [0] aln I
open ib f_
open ia (Ev qM takeN)
def jt(b:Bool)(s:fx)(vp vq:Value):List Value:=
 if b then [vp,az aB s.seen,az aB s.rz,.bool s.sj,vq,az aB 0,az aB 0,.bool aF]else [vq,az aB 0,az aB 0,.bool aF,vp,az aB s.seen,az aB s.rz,.bool s.sj]
theorem R8(b:Bool)(s:fx)(vp vq:Value):∃a c d e f h i j,jt b s vp vq=[a,c,d,e,f,h,i,j]:=by
 cases b<;>exact⟨_,_,_,_,_,_,_,_,rfl⟩
def rv(s:fx)(vt:Value)(pc:List Value)(vw:Value):List Value:=
 [az aB s.jT,az aB s.mz,az aB s.dZ,str s.jV,.bool s.ended,.bool s.kP,az aB s.dy,str s.iU,az aB s.lz,az aB s.bad,vt]++(pc++[vw,az aB s.cr,az aB s.gone,.bool s.over,az aB s.fq,az aB s.pl])
abbrev qQ(g:Nat)(vo:Value)(pk md:List Value)(s:fx)(vt:Value)(pc:List Value)(vw:Value):b9:=aR g (gZ vo pk (md++rv s vt pc vw)).toArray 119
theorem fB{vo:Value}{pk tl:List Value}{j k:Nat}{v:Value}(hp:pk.length=258)(hk:k=j+259)(h:tl[j]?=aj v):(gZ vo pk tl).toArray[k]?=aj v:=im j hp h hk
theorem ry{w:World}{L:List b9}{g k:Nat}{cs:Array Value}{T:TypeId}{v:Value}(h:(aR g cs T).holds w)(hv:cs[k]?=aj v):At w L ⟨g,k,ak⟩ v:=kH (by rw[cell_of_row w g k cs T (0,0) h];exact hv)
def n'(B:bP)(φ:World->Prop):Prop:=∀(L:List b9) (w:World),Mem B L w->φ w
theorem n'.on{B:bP}{φ:World->Prop}(h:n' B φ){Lx:List b9}{w:World}(hm:Mem B Lx w):n' (bP.on w Lx) φ:=λL' w' h'=>h ([]++L') w' (Mem.back (R:=[]) (by rw[dY];exact hm) h')
theorem AE{α:Type}{l:List α}(h:l.length=7):∃a b c d e f g,l=[a,b,c,d,e,f,g]:=by
 match l,h with
 |[a,b,c,d,e,f,g],_=>exact⟨a,b,c,d,e,f,g,rfl⟩
theorem AF{α:Type}{l:List α}(h:l.length=8):∃a b c d e f g i,l=[a,b,c,d,e,f,g,i]:=by
 match l,h with
 |[a,b,c,d,e,f,g,i],_=>exact⟨a,b,c,d,e,f,g,i,rfl⟩
section
variable{g:Nat}{vo:Value}{pk md:List Value}{vt vw:Value}{pc:List Value}(dE:pk.length=258)(oY:md.length=7)(xB:pc.length=8)
include dE oY xB
set_option maxRecDepth 100000 in
theorem oZ(s:fx)(e:Int)(pl:Nat)(w:World)(B:bP)(hm:Mem B [qQ g vo pk md s vt pc vw] w):
 Calls aE 65 #[aK (aj ⟨g,0,ak⟩),az aB e,az aB (pl:Int)] w (cZ ⟨λ(_:Unit)=>True,λ_=> .tuple #[],λ_=>[qQ g vo pk md (jW s e pl) vt pc vw]⟩ B):=by
 obtain⟨m0,m1,m2,m3,m4,m5,m6,rfl⟩:=AE oY;obtain⟨p0,p1,p2,p3,p4,p5,p6,p7,rfl⟩:=AF xB;refine du hm (args:=[aK (aj ⟨g,0,ak⟩),az aB e,az aB (pl:Int)]) (n:=17) Tryz.func65 I I I ?_
 try refine GA ?_
 refine ef (i:=0) 29 I I I I I I dE I ?_
 try refine GA ?_
 refine ef (i:=0) 30 I I I I I I dE I ?_
 try refine GA ?_
 refine ef (i:=0) 31 I I I I I I dE I ?_
 try refine GA ?_
 exact lR I λw hm=>hm.b_ (S:=⟨λ(_:Unit)=>True,λ_=> .tuple #[],λ_=>[qQ g vo pk [m0,m1,m2,m3,m4,m5,m6] (jW s e pl) vt [p0,p1,p2,p3,p4,p5,p6,p7] vw]⟩) () trivial [0] aln I
set_option maxRecDepth 100000 in
theorem F9(s:fx)(e:Int)(pl:Nat)(w:World)(B:bP)(hm:Mem B [qQ g vo pk md s vt pc vw] w):
 Calls aE 33 #[aK (aj ⟨g,0,ak⟩),az aB e,az aB (pl:Int)] w (cZ ⟨λ(_:Unit)=>True,λ_=> .tuple #[],λ_=>[qQ g vo pk md (xf s e pl) vt pc (av ak 0 0),jJ (av ak 0 0) []]⟩ B):=by
 have hst:=λw' B hm=>oZ (g:=g) (vo:=vo) (vt:=vt) (vw:=vw) dE oY xB s e pl w' B hm;obtain⟨m0,m1,m2,m3,m4,m5,m6,rfl⟩:=AE oY;obtain⟨p0,p1,p2,p3,p4,p5,p6,p7,rfl⟩:=AF xB;refine du hm (args:=[aK (aj ⟨g,0,ak⟩),az aB e,az aB (pl:Int)]) (n:=14) Tryz.func33 I I I ?_
 try refine GA ?_
 refine bz [0] [] aln I I (qq aJ.en I I I I) (λw hm hb=>hst w _ hb) I I I ?_;intro _ _;refine zL ?_
 try refine GA ?_
 refine ef (i:=0) 26 I I I I I I dE I ?_
 try refine GA ?_
 refine dJ 54 2 ?_;exact lR I λw hm=>hm.b_ (S:=⟨λ(_:Unit)=>True,λ_=> .tuple #[],λ_=>[qQ g vo pk [m0,m1,m2,m3,m4,m5,m6] (xf s e pl) vt [p0,p1,p2,p3,p4,p5,p6,p7] (av ak 0 0),jJ (av ak 0 0) []]⟩) () trivial [0,1] aln I
end
open ia (Ev qM takeN)
abbrev xC(g:Nat)(vo:Value)(pk md:List Value)(s:fx)(vt:Value)(pc:List Value)(vw:Value):List b9:=[qQ g vo pk md s vt pc vw,jJ vw s.wait]
def C5(g:Nat)(vo:Value)(pk md:List Value)(R:fx×Int)(vt:Value)(pc:List Value):Spec Value:=⟨λ_=>True,λ_=>az aB R.2,λvw=>xC g vo pk md R.1 vt pc vw⟩
section
variable{g:Nat}{vo:Value}{pk md:List Value}{vt vw:Value}{pc:List Value}(dE:pk.length=258)(oY:md.length=7)(xB:pc.length=8)
include dE oY xB
set_option maxRecDepth 100000 in
theorem K2(s:fx)(x:List UInt8)(hx:x.length<=9223372036854775807)(hb:0<=s.jT)(OP:s.jT+s.dZ<=4096)(hi:s.jV.length<=s.dZ)(w:World)(B:bP)(hm:Mem B (xC g vo pk md s vt pc vw) w):
 Calls aE 13 #[aK (aj ⟨g,0,ak⟩),str x] w (cZ (C5 g vo pk md (lK s x) vt pc) B):=by
 have hbr:=λ(s:fx) e pl w' B hm=>F9 (g:=g) (vo:=vo) (vt:=vt) (vw:=vw) dE oY xB s e pl w' B hm;obtain⟨m0,m1,m2,m3,m4,m5,m6,rfl⟩:=AE oY;obtain⟨p0,p1,p2,p3,p4,p5,p6,p7,rfl⟩:=AF xB;obtain⟨jT,mz,dZ,jV,ended,kP,dy,iU,lz,bad,eb,p,seen,rz,sj,wait,cr,gone,over,fq,pl⟩:=s
 try dsimp only at*
 dsimp only[xC,qQ,rv,kD,e7]at hm;unfold lK;dsimp only
 cases over with
 |true=>
  rw[if_pos (.inl I)];refine du hm (args:=[aK (aj ⟨g,0,ak⟩),str x]) (n:=60) Tryz.func13 I I I ?_
  repeat(first|refine GA ?_|refine gV (aC aL.ty I (aI (i:=0) I (fB dE I I))) ?_)
  exact cJ I I λw hm=>hm.b_ (S:=C5 g vo pk [m0,m1,m2,m3,m4,m5,m6] (⟨jT,mz,dZ,jV,ended,kP,dy,iU,lz,bad,eb,p,seen,rz,sj,wait,cr,gone,aD,fq,pl⟩,15) vt [p0,p1,p2,p3,p4,p5,p6,p7]) vw trivial [0,1] aln I
 |false=>
 cases ended with
 |true=>
  rw[if_pos (.inr I)];refine du hm (args:=[aK (aj ⟨g,0,ak⟩),str x]) (n:=60) Tryz.func13 I I I ?_
  repeat(first|refine GA ?_|refine gV (aC aL.ty I (aI (i:=0) I (fB dE I I))) ?_)
  exact cJ I I λw hm=>hm.b_ (S:=C5 g vo pk [m0,m1,m2,m3,m4,m5,m6] (⟨jT,mz,dZ,jV,aD,kP,dy,iU,lz,bad,eb,p,seen,rz,sj,wait,cr,gone,aF,fq,pl⟩,15) vt [p0,p1,p2,p3,p4,p5,p6,p7]) vw trivial [0,1] aln I
 |false=>
 rw[if_neg aln]
 by_cases c4:1024<x.length
 ·rw[if_pos c4]
  refine du hm (args:=[aK (aj ⟨g,0,ak⟩),str x]) (n:=60) Tryz.func13 I I I ?_
  repeat(first|refine GA ?_|refine gV (aC aL.ty I (aI (i:=0) I (fB dE I I))) ?_)
  exact cJ I I λw hm=>hm.b_ (S:=C5 g vo pk [m0,m1,m2,m3,m4,m5,m6] (⟨jT,mz,dZ,jV,aF,kP,dy,iU,lz,bad,eb,p,seen,rz,sj,wait,cr,gone,aF,fq,pl⟩,2) vt [p0,p1,p2,p3,p4,p5,p6,p7]) vw trivial [0,1] aln I
 rw[if_neg c4]
 by_cases c5:jT<x.length
 ·rw[if_pos c5]
  refine du hm (args:=[aK (aj ⟨g,0,ak⟩),str x]) (n:=60) Tryz.func13 I I I ?_
  repeat(first|refine GA ?_|refine gV (aC aL.ty I (aI (i:=0) I (fB dE I I))) ?_)
  refine bz [0] [1] aln I I (qq aJ.en I I I I) (λw hm hb=>hbr ⟨jT,mz,dZ,jV,aF,kP,dy,iU,lz,bad,eb,p,seen,rz,sj,wait,cr,gone,aF,fq,pl⟩ _ _ w _ hb) I I I ?_;intro _ _;refine zL ?_
  try refine GA ?_
  exact cJ I I λw hm=>hm.b_ (S:=C5 g vo pk [m0,m1,m2,m3,m4,m5,m6] (xf ⟨jT,mz,dZ,jV,aF,kP,dy,iU,lz,bad,eb,p,seen,rz,sj,wait,cr,gone,aF,fq,pl⟩ 16 dZ,16) vt [p0,p1,p2,p3,p4,p5,p6,p7]) (av ak 0 0) trivial [1,2] aln I
 rw[if_neg c5];refine du hm (args:=[aK (aj ⟨g,0,ak⟩),str x]) (n:=60) Tryz.func13 I I I ?_
 repeat(first|refine GA ?_|refine gV (aC aL.ty I (aI (i:=0) I (fB dE I I))) ?_)
 refine ef (i:=0) 7 I I I I I I dE I ?_;refine zL ?_
 repeat(first|refine GA ?_|refine gV (aC aL.ty I (aI (i:=0) I (fB dE I I))) ?_)
 refine ef (i:=0) 9 I I I I I I dE I ?_;refine zL ?_
 repeat(first|refine GA ?_|refine gV (aC aL.ty I (aI (i:=0) I (fB dE I I))) ?_|refine gV (Hs I I J) ?_)
 refine ef (i:=0) 10 I I I I I I dE I ?_
 try refine GA ?_
 exact cJ I I λw hm=>hm.b_ (S:=C5 g vo pk [m0,m1,m2,m3,m4,m5,m6] (⟨jT-x.length,mz,dZ+x.length,jV++x,aF,kP,dy,iU,lz,bad,eb,p,seen,rz,sj,wait,cr,gone,aF,fq,pl⟩,0) vt [p0,p1,p2,p3,p4,p5,p6,p7]) vw trivial [0,1] aln I
set_option maxRecDepth 100000 in
theorem On(s:fx)(w:World)(B:bP)(hm:Mem B (xC g vo pk md s vt pc vw) w):
 Calls aE 24 #[aK (aj ⟨g,0,ak⟩)] w (cZ (C5 g vo pk md (jH s) vt pc) B):=by
 obtain⟨m0,m1,m2,m3,m4,m5,m6,rfl⟩:=AE oY;obtain⟨p0,p1,p2,p3,p4,p5,p6,p7,rfl⟩:=AF xB;obtain⟨jT,mz,dZ,jV,ended,kP,dy,iU,lz,bad,eb,p,seen,rz,sj,wait,cr,gone,over,fq,pl⟩:=s
 try dsimp only at*
 dsimp only[xC,qQ,rv,kD,e7]at hm;unfold jH;dsimp only
 cases over with
 |true=>
  rw[if_pos (.inl I)];refine du hm (args:=[aK (aj ⟨g,0,ak⟩)]) (n:=16) Tryz.func24 I I I ?_
  repeat(first|refine GA ?_|refine gV (aC aL.ty I (aI (i:=0) I (fB dE I I))) ?_)
  exact cJ I I λw hm=>hm.b_ (S:=C5 g vo pk [m0,m1,m2,m3,m4,m5,m6] (⟨jT,mz,dZ,jV,ended,kP,dy,iU,lz,bad,eb,p,seen,rz,sj,wait,cr,gone,aD,fq,pl⟩,15) vt [p0,p1,p2,p3,p4,p5,p6,p7]) vw trivial [0,1] aln I
 |false=>
 cases ended with
 |true=>
  rw[if_pos (.inr I)];refine du hm (args:=[aK (aj ⟨g,0,ak⟩)]) (n:=16) Tryz.func24 I I I ?_
  repeat(first|refine GA ?_|refine gV (aC aL.ty I (aI (i:=0) I (fB dE I I))) ?_)
  exact cJ I I λw hm=>hm.b_ (S:=C5 g vo pk [m0,m1,m2,m3,m4,m5,m6] (⟨jT,mz,dZ,jV,aD,kP,dy,iU,lz,bad,eb,p,seen,rz,sj,wait,cr,gone,aF,fq,pl⟩,15) vt [p0,p1,p2,p3,p4,p5,p6,p7]) vw trivial [0,1] aln I
 |false=>
 rw[if_neg aln];refine du hm (args:=[aK (aj ⟨g,0,ak⟩)]) (n:=16) Tryz.func24 I I I ?_
 repeat(first|refine GA ?_|refine gV (aC aL.ty I (aI (i:=0) I (fB dE I I))) ?_)
 refine ef (i:=0) 11 I I I I I I dE I ?_
 try refine GA ?_
 exact cJ I I λw hm=>hm.b_ (S:=C5 g vo pk [m0,m1,m2,m3,m4,m5,m6] (⟨jT,mz,dZ,jV,aD,kP,dy,iU,lz,bad,eb,p,seen,rz,sj,wait,cr,gone,aF,fq,pl⟩,0) vt [p0,p1,p2,p3,p4,p5,p6,p7]) vw trivial [0,1] aln I
set_option maxRecDepth 100000 in
theorem Hb(s:fx)(hl:s.eb.length<=1000000)(hvt:∃a c,vt=av a s.eb.length c)(hvw:∃a c,vw=av a s.wait.length c)(hw:s.wait.length<=1000000)(w:World)(h:(qQ g vo pk md s vt pc vw).holds w):
    Calls aE 34 #[aK (aj ⟨g,0,ak⟩)] w (bX (ret (.bool (iy s))) w):=by
  obtain⟨m0,m1,m2,m3,m4,m5,m6,rfl⟩:=AE oY;obtain⟨p0,p1,p2,p3,p4,p5,p6,p7,rfl⟩:=AF xB;obtain⟨at',ct,rfl⟩:=hvt;obtain⟨aw,cw,rfl⟩:=hvw;obtain⟨jT,mz,dZ,jV,ended,kP,dy,iU,lz,bad,eb,p,seen,rz,sj,wait,cr,gone,over,fq,pl⟩:=s
  try dsimp only at*
  dsimp only[xC,qQ,rv,kD,e7]at h
  cases over with
  | true=>
    refine enter (args:=[aK (aj ⟨g,0,ak⟩)]) (n:=45) Tryz.func34 I I I ?_
    repeat(first|refine GA ?_|refine gV (aC aL.ty I (ry h (fB dE I I))) ?_)
    exact dG I I I
  |false=>
  by_cases c1:wait.length<200
  · by_cases c2:eb.length=0
    · obtain rfl:=mK c2
      by_cases c3:bad=0
      · subst c3
        cases jV with
        | nil=>
          refine enter (args:=[aK (aj ⟨g,0,ak⟩)]) (n:=45) Tryz.func34 I I I ?_
          repeat(first|refine GC ?_|refine gV (aC aL.ty I (ry h (fB dE I I))) ?_|refine gV (k9 (b:=aF) I I I) ?_|refine GB ?_)
          exact dG I I (by simp[iy,c1])
        | cons c r=>
          refine enter (args:=[aK (aj ⟨g,0,ak⟩)]) (n:=45) Tryz.func34 I I I ?_
          repeat(first|refine GC ?_|refine gV (aC aL.ty I (ry h (fB dE I I))) ?_|refine gV (k9 (b:=aD) I I I) ?_|refine GB ?_)
          exact dG I I (by simp[iy,c1])
      refine enter (args:=[aK (aj ⟨g,0,ak⟩)]) (n:=45) Tryz.func34 I I I ?_
      repeat(first|refine GA ?_|refine gV (aC aL.ty I (ry h (fB dE I I))) ?_)
      exact dG I I (by simp[iy,c1,c3])
    refine enter (args:=[aK (aj ⟨g,0,ak⟩)]) (n:=45) Tryz.func34 I I I ?_
    repeat(first|refine GA ?_|refine gV (aC aL.ty I (ry h (fB dE I I))) ?_)
    exact dG I I (by simp[iy,c1,show eb≠[]from λh=>c2 (by rw[h];rfl)])
  · refine enter (args:=[aK (aj ⟨g,0,ak⟩)]) (n:=45) Tryz.func34 I I I ?_
    repeat(first|refine GA ?_|refine gV (aC aL.ty I (ry h (fB dE I I))) ?_)
    exact dG I I (by simp[iy,c1])
set_option maxRecDepth 100000 in
theorem C6(s:fx)(hvw:∃a c,vw=av a s.wait.length c)(hw:s.wait.length<=1000000)(w:World)(h:(qQ g vo pk md s vt pc vw).holds w):
 Calls aE 16 #[aK (aj ⟨g,0,ak⟩)] w (bX (ret (.tuple #[az aB (CD s).1,az aB ((CD s).2.1:Int),.bool (CD s).2.2])) w):=by
 obtain⟨m0,m1,m2,m3,m4,m5,m6,rfl⟩:=AE oY;obtain⟨p0,p1,p2,p3,p4,p5,p6,p7,rfl⟩:=AF xB;obtain⟨aw,cw,rfl⟩:=hvw;obtain⟨jT,mz,dZ,jV,ended,kP,dy,iU,lz,bad,eb,p,seen,rz,sj,wait,cr,gone,over,fq,pl⟩:=s
 try dsimp only at*
 dsimp only[xC,qQ,rv,kD,e7]at h;unfold CD;dsimp only
 cases over with
 |false=>
  rw[if_neg (by simp)];refine enter (args:=[aK (aj ⟨g,0,ak⟩)]) (n:=27) Tryz.func16 I I I ?_
  repeat(first|refine GA ?_|refine gV (aC aL.ty I (ry h (fB dE I I))) ?_)
  exact Jh I I I I I
 |true=>
 by_cases c1:wait.length=0
 ·obtain rfl:=mK c1
  rw[if_pos ⟨rfl,rfl⟩];refine enter (args:=[aK (aj ⟨g,0,ak⟩)]) (n:=27) Tryz.func16 I I I ?_
  repeat(first|refine GA ?_|refine gV (aC aL.ty I (ry h (fB dE I I))) ?_)
  refine dH ([]) (.calm 0 (.calm 1 (.calm 2 (.calm 3 (.calm 4 (.calm 5 (.calm 6 (.calm 7 (.calm 8 (.calm 9 (.calm 10 (.done)))))))))))) (zm) ?_
  repeat(first|refine GW ?_|(refine GN ?_;first|refine QW (aC aL.ty I (ry h (fB dE I I))) ?_))
  try refine GA ?_
  exact Jh I I I I I
 ·rw[if_neg λh=>c1 (by rw[h.2];rfl)]
  refine enter (args:=[aK (aj ⟨g,0,ak⟩)]) (n:=27) Tryz.func16 I I I ?_
  repeat(first|refine GA ?_|refine gV (aC aL.ty I (ry h (fB dE I I))) ?_)
  exact Jh I I I I I
end
open dh gu
def AG(s:dw):Value:=aQ (eu s).toArray
theorem xg(w:World):(zeroValue 182).run aE w= .ok (AG (0,0)) w:=by kernel_rfl
theorem R9(s:dw)(w:World):(Instr.field 182 (AG s) 1).run aE w= .ok (az aB s.2) w:=by
 obtain⟨a,b⟩:=s
 kernel_rfl
theorem Oo{P:Program}{k:TypeId}{κ:Type}{K:zr P k κ}{W:bP}{fr:Fr}{L:List b9}{n:Nat}{dst:Option Tmp}{ty:TypeId}{pos:String}{after:Array Edge}{guard:Option (Nat×Bool)}{i g c:Nat}{t e:TypeId}{m:κ->Option Value}{x:κ}{z v:Value}{xm xk:Operand}(ht:P.underlying t=aj (.map k e))(hz:∀w,(zeroValue e).run P w= .ok z w)(hi:L[i]?=aj (fv K g m c))(hm:ev fr xm=aj (.map (aj g)))(hk:ev fr xk=aj (K.kv x))(hx:K.ok x)(hv:(m x).getD z=v):RR P n W ⟨dst,.lookup t xm xk aF,ty,pos,after,guard⟩ fr L v:=by
 subst hv;exact acR K ht hz hi hm hk hx
def CG(m:Bs->Option Value)(M:N2):Prop:=∀y,m y=(M y).map AG
theorem WR:CG (λ_=>ak) (λ_=>ak):=λ_=>rfl
theorem IW{m:Bs->Option Value}{M:N2}(h:CG m M){x:Bs}{s:dw}{v:Value}(hv:v=AG s):CG (λy=>if y=x then aj v else m y) (G9 M x s):=λy=>by
 unfold G9;dsimp only;subst hv
 by_cases e:y=x
 rw[if_pos e,if_pos e];rfl;rw[if_neg e,if_neg e];exact h y
theorem IX{m:Bs->Option Value}{M:N2}(h:CG m M)(x:Bs):(m x).getD (AG (0,0))=AG (qz M x):=by
 rw[h x];unfold qz
 cases M x<;>rfl
theorem R_{m:Bs->Option Value}{M:N2}(h:CG m M){x:Bs}(hx:M x=ak):m x=none:=by rw[h x,hx];rfl
theorem Sa{m:Bs->Option Value}{M:N2}(h:CG m M){x:Bs}{s:dw}(hx:M x=aj s):m x=aj (AG s):=by rw[h x,hx];rfl
def F_(gp:Nat)(e:Int)(len:Nat)(of:List Int)(g:ep):Spec (Value×Value×(Nat->Prop)):=
 ⟨λx=>x.1.oneCell'=aD/\x.2.1.oneCell'=aD,λ_=>az aB e,λx=>[aR gp (gZ x.1 Xp (eD g.aT g.bx x.2.1 0 (av ak 0 0) (av ak 0 0) (av ak 0 0))).toArray 38,a_ 3 1 x.1 len (of.map (az .i64)),oz x.2.2 x.2.1 g.aH]⟩
def K3(gp:Nat)(s:Sp):Spec (Value×Value×(Nat->Prop)):=F_ gp (wN s) s.words.length (KI s.words).1 (da s)
theorem Hc(vw vr:Value)(s:Sp)(gp:Nat)(w0:World)(hv:TO (qo w0) w0 (aQ #[vw,vr]) s)(hlw:s.words.length<=60)(LD:s.rules.length<=60)(H5:∀r∈s.rules,r.2.length<=8796093021952)(w:World)(B:bP)(ho:mI w0 B)(hm:Mem B [aR gp Gx.toArray 38] w):
 Calls aE 40 #[aQ #[vw,vr],aK (aj ⟨gp,0,ak⟩)] w (cZ (K3 gp s) B):=by
 obtain⟨K4,CV,hvv,hw,hr⟩:=hv;obtain⟨rfl,rfl⟩:vw=K4/\vr=CV:=by simpa using hvv
 clear hvv;obtain⟨words,rules⟩:=s;dsimp only at*;obtain⟨bw,cw,rfl,-,-,Sb⟩:=hw;obtain⟨br,cr,rfl,-,-,abX⟩:=hr;refine du hm (args:=[aQ #[av bw words.length cw,av br rules.length cr],aK (aj ⟨gp,0,ak⟩)]) (n:=153) Tryz.func40 I I I ?_;refine cB (bD (bL I I I λg2=>?_));refine zL ?_
 try refine GA ?_
 refine ym iD I λgm=>?_;refine zL ?_
 repeat(first|refine GA ?_|refine gV (aC (v:=av bw words.length cw) aL.ty I (aI (i:=1) I I)) ?_)
 refine iz 3 1 ?_;refine d_ (ι:=Nat×List Int×Int×N2×Value×(Bs->Option Value)×Nat)
  (λ(k,of,t,M,vo,m,n)=>k<=words.length/\n<=k/\(words.take k).foldl jI ws0=(of,t,M)/\CG m M/\vo.oneCell'=aD)
  (λ(k,_,_,_,_,_,_)=>[(1,aK (aj ⟨gp,0,ak⟩)),(2,aK (aj ⟨g2,0,ak⟩)),(5,.map (aj gm)),(19,av bw words.length cw),(20,az aB words.length),(21,az aB (k:Int))])
  (λ(k,of,t,_,vo,m,n)=>[aR gp (gZ vo Xp (eD t 0 (av ak 0 0) 0 (av ak 0 0) (av ak 0 0) (av ak 0 0))).toArray 38,aR g2 #[av bw words.length cw,av br rules.length cr] 25,fv iD gm m n,a_ 3 1 vo k (of.map (az .i64))])
  (λ(k,_,_,_,_,_,_)=>words.length-k) (0,[],0,λ_=>ak,av ak 0 0,λ_=>ak,0) ⟨bH _,bC _,rfl,WR,rfl⟩ ?_
 clear hm;rintro⟨k,of,t,M,vo,m,n⟩ ⟨i1,i2,i3,i4,i5⟩;dsimp only at i1 i2 i3 i4 i5⊢;have hws:=abz words k i1 J;rw[i3]at hws;obtain⟨s1,s2,s3,s4⟩:=hws;dsimp only at s1 s2 s3 s4
 by_cases c1:k<words.length
 ·obtain⟨b,off,rfl,_,hr⟩:=Sb J
  obtain⟨bk,ck,q1,q2,q3⟩:=TP hr c1;have hst:=step_take jI ws0 words c1;rw[i3]at hst;have dy:∀(L:List b9) (j:Nat) (u:Value),(ze words[k].1 words[k].2.kind words[k].2.uO (.slice bk words[k].2.kids.length ck))[j]?=aj u->At B L ⟨b,off+k*7+j,ak⟩ u:=λL j u hj=>iX ho (q1 j u hj);clear hr Sb abX q1 q2;generalize words[k]=wd at*;obtain⟨nm,r⟩:=wd;dsimp only at*;generalize r.kind=rk at*;generalize r.uO=rc at*;generalize r.kids.length=rn at*
  repeat(first|refine GA ?_|refine gV (aZ bQ.eq aL.ty I I c1) ?_|refine gV (aY (cs:=ze nm rk rc (av bk rn ck)) aL.ty I I (dy _)) ?_)
  clear dy;refine a8 I λg7=>?_;refine zL ?_;refine gG 4 (cs':=(ze nm rk rc (av bk rn ck)).toArray) ?_;refine zL ?_
  by_cases e0:nm=[]
  ·subst e0
   repeat(first|refine GC ?_|refine gV (aC (v:=str []) aL.ty I (aI (i:=4) I I)) ?_|refine gV (py (b:=aD) I I I) ?_|refine gV (aC (v:=vo) aL.ty I (aI (i:=0) I I)) ?_|refine GB ?_)
   refine iA (i:=3) I I I I I I (λz h=>by cases h;rfl) J J I λz' v'=>?_;refine zL ?_
   try refine GA ?_
   refine aX (i:=3) I λo9 mJ=>?_;refine y7 (i:=0) I I I o9 mJ I ?_;refine zL ?_
   try refine GA ?_
   refine dv [0,1,2,3] ?_;exact bW (k+1,of++[-1],t,M,v',m,n) ⟨by omega,by show n<=k+1;omega,hst,i4,mJ⟩ (by show words.length-(k+1)<words.length-k;omega) (hl:=by dsimp only;rw[eZ];rfl)
  rw[show jI (of,t,M) (nm,r)=(of++[t],t+1,G9 M nm (1,t))from if_neg e0]at hst
  repeat(first|refine GC ?_|refine gV (aC (v:=str nm) aL.ty I (aI (i:=4) I I)) ?_|refine gV (py (b:=aF) I I (decide_eq_false e0)) ?_|refine GB ?_)
  (repeat refine cB ?_)
  refine dH ([aR gp (gZ vo Xp (eD t 0 (av ak 0 0) 0 (av ak 0 0) (av ak 0 0) (av ak 0 0))).toArray 38,aR g7 (ze nm rk rc (av bk rn ck)).toArray 90]) (.calm 0 (.calm 1 (.calm 2 (.calm 3 (.calm 4 (.calm 5 (.calm 6 (.calm 7 (.calm 8 (.one 9 (.done))))))))))) (bV [0,4]) ?_
  repeat(first|refine GW ?_|(refine GN ?_;first|refine QW (aC (v:=str nm) aL.ty I (aI (i:=1) I I)) ?_|refine QW (aC (v:=az aB t) aL.ty I (aI (i:=0) I (im 0 jr I I))) ?_|refine QW (bB I (NC _ _)) ?_))
  refine aM I (mB (i:=2) (x:=nm) (v:=AG (1,t)) iD bQ.eq I I I I q3 J (aO (bV [0,4]) ?_));refine zL ?_
  try refine GW ?_
  try refine GA ?_
  (repeat refine cB ?_)
  refine dH ([]) (.calm 0 (.calm 1 (.calm 2 (.calm 3 (.calm 5 (.calm 6 (.calm 7 (.calm 8 (.two 4 (.one 9 (.one 10 (.one 11 (.calm 12 (.calm 13 (.one 14 (.done))))))) 9 (.two 4 (.one 10 (.one 11 (.calm 12 (.calm 13 (.one 14 (.done)))))) 10 (.one 4 (.one 11 (.calm 12 (.calm 13 (.one 14 (.done)))))))))))))))) (bV []) ?_
  try refine GW ?_
  refine eN I I ?a1 ?a2
  case' a2=>
   refine dm (aC (v:=az aB t) aL.ty I (aI (i:=0) I (im 0 jr I I))) I I I (aO (bV []) ?_);refine eN I I ?a3 ?a4
  case' a4=>
   refine fO (cs:=#[az aB t]) I I I I I λg56=>aO (bV []) ?_;refine aM I (dm (aC (v:=vo) aL.ty I (aI (i:=0) I I)) I I I (aO (bV []) ?_))
  case' a3=>
   refine dm (aC (v:=vo) aL.ty I (aI (i:=0) I I)) I I I (aO (bV []) ?_);refine aM I (fO (cs:=#[az aB t]) I I I I I λg56=>aO (bV []) ?_)
  case' a1=>
   refine dm (aC (v:=vo) aL.ty I (aI (i:=0) I I)) I I I (aO (bV []) ?_);refine aM I (dm (aC (v:=az aB t) aL.ty I (aI (i:=0) I (im 0 jr I I))) I I I (aO (bV []) ?_));refine aM I (fO (cs:=#[az aB t]) I I I I I λg56=>aO (bV []) ?_)
  all_goals
   refine zL ?_;refine aM I (lZ (i:=3) (q:=5) I I I I I I J J I λv'=>aO (bV []) ?_);refine zL ?_
   try refine GW ?_
   refine aM I (aX (i:=3) I λo9 mJ=>y7 (i:=0) I I I o9 mJ I (aO (bV []) ?_));refine zL ?_
   try refine GW ?_
   repeat(first|refine GA ?_|refine gV (aC (v:=az aB t) aL.ty I (aI (i:=0) I (im 0 jr I I))) ?_)
   refine ef 0 (i:=0) I I I I I I jr I ?_;refine zL ?_
   try refine GA ?_
   refine dv [0,1,2,3] ?_;exact iW (k+1,of++[t],t+1,G9 M nm (1,t),v',_,_) ⟨by omega,by show(if(m nm).isSome then n else n+1)<=k+1;split<;>omega,hst,IW i4 I,mJ⟩ (by show words.length-(k+1)<words.length-k;omega) (by repeat' (first|exact cV|refine cP I ?_)) (by dsimp only;rw[eZ];rfl)
 ·obtain rfl:k=words.length:=by omega
  rw[mW]at i3;have hW:KI words=(of,t,M):=i3;clear Sb
  repeat(first|refine GA ?_|refine gV (aC (v:=av br rules.length cr) aL.ty I (aI (i:=1) I I)) ?_)
  refine d_ (ι:=Nat×Int×N2×(Bs->Option Value)×Nat)
   (λ(j,N,M2,m2,n2)=>j<=rules.length/\n2<=60+j/\(rules.take j).foldl tS (0,M)=(N,M2)/\CG m2 M2)
   (λ(j,_,_,_,_)=>[(1,aK (aj ⟨gp,0,ak⟩)),(2,aK (aj ⟨g2,0,ak⟩)),(5,.map (aj gm)),(71,av br rules.length cr),(72,az aB rules.length),(73,az aB (j:Int))])
   (λ(_,N,_,m2,n2)=>[aR gp (gZ vo Xp (eD t N (av ak 0 0) 0 (av ak 0 0) (av ak 0 0) (av ak 0 0))).toArray 38,aR g2 #[av bw words.length cw,av br rules.length cr] 25,fv iD gm m2 n2,a_ 3 1 vo words.length (of.map (az .i64))])
   (λ(j,_,_,_,_)=>rules.length-j) (0,0,M,m,n) ⟨bH _,by omega,rfl,i4⟩ ?_
  clear i4;rintro⟨j,N,M2,m2,n2⟩ ⟨j1,j2,j3,j4⟩;dsimp only at j1 j2 j3 j4⊢;have hhs:=afm rules M s4 j j1 J;rw[j3]at hhs;obtain⟨u1,u2,u3⟩:=hhs;dsimp only at u1 u2 u3
  by_cases c2:j<rules.length
  ·obtain⟨b,off,rfl,_,eR⟩:=abX J
   obtain⟨bk,ck,q1,-,q3⟩:=Dq eR c2;have hst:=step_take tS (0,M) rules c2;rw[j3]at hst;have dy:∀(L:List b9) (j':Nat) (u:Value),([str rules[j].1,.slice bk rules[j].2.length ck]:List Value)[j']?=aj u->At B L ⟨b,off+j*2+j',ak⟩ u:=λL j' u hj=>iX ho (q1 j' u hj);clear eR q1 abX;generalize rules[j]=r at*;obtain⟨nm,bd⟩:=r;dsimp only at*;generalize bd.length=bn at*
   repeat(first|refine GA ?_|refine gV (aZ bQ.eq aL.ty I I c2) ?_|refine gV (aY (cs:=[str nm,av bk bn ck]) aL.ty I I (dy _)) ?_)
   clear dy;refine a8 I λg9=>?_;refine zL ?_;refine gG 4 (cs':=#[str nm,av bk bn ck]) ?_;refine zL ?_
   cases hM:M2 nm with
   | some x=>
    rw[show tS (N,M2) (nm,bd)=(N,M2)from if_pos (by show(M2 nm).isSome=aD;rw[hM];rfl)]at hst
    repeat(first|refine GA ?_|refine gV (aC (v:=str nm) aL.ty I (aI (i:=4) I I)) ?_|refine gV (j_ iD (x:=nm) bQ.eq xg (i:=2) I I I q3 (Sa j4 hM)) ?_)
    refine a8 I λg10=>?_;refine zL ?_;refine gG 5 (cs':=(eu x).toArray) ?_;refine zL ?_
    try refine GA ?_
    refine dv [0,1,2,3] ?_;exact bW (j+1,N,M2,m2,n2) ⟨by omega,by show n2<=60+(j+1);omega,hst,j4⟩ (by show rules.length-(j+1)<rules.length-j;omega)
   | none=>
    rw[show tS (N,M2) (nm,bd)=(N+1,G9 M2 nm (2,N))from if_neg (by show ¬(M2 nm).isSome=aD;rw[hM];decide)]at hst
    repeat(first|refine GA ?_|refine gV (aC (v:=str nm) aL.ty I (aI (i:=4) I I)) ?_|refine gV (ka iD (x:=nm) bQ.eq xg (i:=2) I I I q3 (R_ j4 hM)) ?_)
    refine a8 I λg10=>?_;refine zL ?_;refine gG 5 (cs':=(eu (0,0)).toArray) ?_;refine zL ?_
    try refine GA ?_
    (repeat refine cB ?_)
    refine dH ([aR gp (gZ vo Xp (eD t N (av ak 0 0) 0 (av ak 0 0) (av ak 0 0) (av ak 0 0))).toArray 38,aR g9 #[str nm,av bk bn ck] 92]) (.calm 0 (.calm 1 (.calm 2 (.calm 3 (.calm 4 (.calm 5 (.calm 6 (.calm 7 (.calm 8 (.one 9 (.done))))))))))) (bV [0,4]) ?_
    repeat(first|refine GW ?_|(refine GN ?_;first|refine QW (aC (v:=str nm) aL.ty I (aI (i:=1) I I)) ?_|refine QW (aC (v:=az aB N) aL.ty I (aI (i:=0) I (im 1 jr I I))) ?_|refine QW (bB I (NC _ _)) ?_))
    refine aM I (mB (i:=2) (x:=nm) (v:=AG (2,N)) iD bQ.eq I I I I q3 J (aO (bV [0,4]) ?_));refine zL ?_
    try refine GW ?_
    repeat(first|refine GA ?_|refine gV (aC (v:=az aB N) aL.ty I (aI (i:=0) I (im 1 jr I I))) ?_)
    refine ef 1 (i:=0) I I I I I I jr I ?_;refine zL ?_
    try refine GA ?_
    refine dv [0,1,2,3] ?_;exact iW (j+1,N+1,G9 M2 nm (2,N),_,_) ⟨by omega,by show(if(m2 nm).isSome then n2 else n2+1)<=60+(j+1);split<;>omega,hst,IW j4 I⟩ (by show rules.length-(j+1)<rules.length-j;omega) (by repeat' (first|exact cV|refine cP I ?_)) I
  obtain rfl:j=rules.length:=by omega
  rw[mW]at j3;have hH:hsN ⟨words,rules⟩=(N,M2):=by unfold hsN;rw[hW];exact j3
  repeat(first|refine GA ?_|refine gV (aC (v:=av br rules.length cr) aL.ty I (aI (i:=1) I I)) ?_)
  refine iz 149 2 (mP (eo oL (λ_=>False) [] []) (λk hk=>hk.elim (λh=>by cases h) id) (λw=>jM) ?_);refine tW [0,2,3,4,5] ?_;refine d_ (ι:=Nat×List aV.Prod×Value×List (List Value)×(Nat->Prop))
   (λ(j,ps,vp,gH,F)=>j<=rules.length/\ps=(rules.take j).map (Ar M2)/\vp.oneCell'=aD)
   (λ(j,_,_,_,_)=>[(1,aK (aj ⟨gp,0,ak⟩)),(5,.map (aj gm)),(106,av br rules.length cr),(107,az aB rules.length),(108,az aB (j:Int))])
   (λ(j,ps,vp,gH,F)=>[aR gp (gZ vo Xp (eD t N vp 0 (av ak 0 0) (av ak 0 0) (av ak 0 0))).toArray 38,fv iD gm m2 n2,a_ 3 1 vo words.length (of.map (az .i64)),a_ 149 2 vp ps.length gH.flatten,eo oL F gH ps])
   (λ(j,_,_,_,_)=>rules.length-j) (0,[],av ak 0 0,[],λ_=>False) ⟨bH _,rfl,rfl⟩ ?_
  rintro⟨j,ps,vp,gH,F⟩ ⟨k1,k2,k3⟩;dsimp only at k1 k2 k3⊢
  by_cases c3:j<rules.length
  ·obtain⟨b,off,rfl,_,eR⟩:=abX J
   obtain⟨bk,ck,q1,q2,q3⟩:=Dq eR c3;have hps:(rules.take (j+1)).map (Ar M2)=ps++[Ar M2 rules[j]]:=by rw[gv c3,eZ,<-k2];rfl
   have Af:ps.length=j:=by rw[k2,eI,jz];omega
   have dy:∀(L:List b9) (j':Nat) (u:Value),([str rules[j].1,.slice bk rules[j].2.length ck]:List Value)[j']?=aj u->At B L ⟨b,off+j*2+j',ak⟩ u:=λL j' u hj=>iX ho (q1 j' u hj);have rQ:=q2.flat aln;have kV:=q2.okp;have hb6:=H5 _ (cH c3);clear eR q1 q2 abX;generalize rules[j]=r at*;obtain⟨nm,bd⟩:=r;dsimp only at*;obtain⟨b2,M4,l_,zo,Yf,FK⟩:=rQ
   cases l_
   unfold maxLen at Yf;have hsm:=II u3 nm
   repeat(first|refine GA ?_|refine gV (aZ bQ.eq aL.ty I I c3) ?_|refine gV (aY (cs:=[str nm,av bk bd.length ck]) aL.ty I I (dy _)) ?_)
   clear dy;refine a8 I λg13=>?_;refine zL ?_;refine gG 5 (cs':=#[str nm,av bk bd.length ck]) ?_;refine zL ?_
   repeat(first|refine GA ?_|refine gV (aC (v:=str nm) aL.ty I (aI (i:=5) I I)) ?_|refine gV (Oo (K:=iD) (x:=nm) bQ.eq xg (i:=1) I I I q3 (IX j4 nm)) ?_|refine gV (TE I (R9 _)) ?_|refine gV (bB I (RL _)) ?_)
   refine a8 I λg14=>?_;refine zL ?_;refine gG 6 (cs':=#[az aB (qz M2 nm).2,av ak 0 0]) ?_;refine zL ?_
   repeat(first|refine GA ?_|refine gV (aC (v:=av bk bd.length ck) aL.ty I (aI (i:=5) I I)) ?_)
   refine iz 182 2 ?_;refine tW [0,1,2,3,4,6,7] ?_;refine d_ (ι:=Nat×Value) (λ(i,vb)=>i<=bd.length/\vb.oneCell'=aD)
    (λ(i,vb)=>[(1,aK (aj ⟨gp,0,ak⟩)),(5,.map (aj gm)),(14,aK (aj ⟨g14,0,ak⟩)),(106,av (aj ⟨b,off,ak⟩) rules.length cr),(107,az aB rules.length),(108,az aB (j:Int)),(119,av bk bd.length ck),(120,az aB bd.length),(121,az aB (i:Int))])
    (λ(i,vb)=>[aR gp (gZ vo Xp (eD t N vp 0 (av ak 0 0) (av ak 0 0) (av ak 0 0))).toArray 38,fv iD gm m2 n2,a_ 3 1 vo words.length (of.map (az .i64)),a_ 149 2 vp ps.length gH.flatten,eo oL F gH ps,aR g14 #[az aB (qz M2 nm).2,vb] 149,a_ 182 2 vb i (((bd.take i).map (qz M2)).flatMap eu)])
    (λ(i,_)=>bd.length-i) (0,av ak 0 0) ⟨bH _,rfl⟩ ?_
   rintro⟨i,vb⟩ ⟨l1,l2⟩;dsimp only at l1 l2⊢
   by_cases c4:i<bd.length
   ·obtain⟨b3,ad8,rfl,Ep⟩:=FK J
    have dy:=λL=>uR (W:=B) (L:=L) TK (λj u hj=>iX ho (Ep j u hj)) c4 0 _ I;have hlen:=kV bd[i] (cH c4);have oB:((bd.take (i+1)).map (qz M2)).flatMap eu=((bd.take i).map (qz M2)).flatMap eu++eu (qz M2 bd[i]):=by
     rw[gv c4,eZ,ir];simp
    clear Ep FK;generalize bd[i]=x at*
    repeat(first|refine GA ?_|refine gV (aZ bQ.eq aL.ty I I c4) ?_|refine gV (aC (v:=str x) aL.ty I (dy _)) ?_|refine gV (aC (v:=vb) aL.ty I (aI (i:=5) I I)) ?_|refine gV (Oo (K:=iD) (x:=x) bQ.eq xg (i:=1) I I I hlen (IX j4 x)) ?_)
    refine jR (i:=6) (cs:=(eu (qz M2 x)).toArray) I I I I I I I (λz h=>by cases h;rfl) J J I λz vb'=>?_;refine zL ?_
    try refine GA ?_
    refine aX (i:=6) I λo9 mJ=>?_;refine bJ (i:=5) I I I o9 mJ I ?_;refine zL ?_
    try refine GA ?_
    exact bW (i+1,vb') ⟨by omega,mJ⟩ (by show bd.length-(i+1)<bd.length-i;omega) (hl:=by dsimp only;rw[oB];rfl)
   obtain rfl:i=bd.length:=by omega
   rw[mW];clear FK;have PO:(bd.map (qz M2)).length=bd.length:=eI ..;rw[<-PO];have akz:Ar M2 (nm,bd)=((qz M2 nm).2,bd.map (qz M2)):=rfl;have Lu:∀x∈bd.map (qz M2),Zv x:=λx hx=>by
    obtain⟨y,-,rfl⟩:=fG.1 hx;have:=II u3 y;exact⟨gok ⟨this.1,by omega⟩,gok ⟨this.2.2.1,by omega⟩⟩
   generalize qz M2 nm=hd at*;generalize bd.map (qz M2)=body at*
   try refine GA ?_
   (repeat refine cB ?_)
   refine dH ([aR g14 #[az aB hd.2,vb] 149]) (.calm 0 (.calm 1 (.calm 2 (.calm 3 (.calm 4 (.calm 6 (.two 5 (.one 7 (.one 8 (.calm 9 (.calm 10 (.calm 11 (.one 12 (.done))))))) 7 (.one 5 (.one 8 (.calm 9 (.calm 10 (.calm 11 (.one 12 (.done)))))))))))))) (bV [5]) ?_
   repeat(first|refine GW ?_|(refine GN ?_;first|refine QW (aP (i:=0) aL.ty I I I) ?_))
   refine eN I I ?b1 ?b2
   case' b1=>
    refine dm (aC (v:=vp) aL.ty I (aI (i:=0) I (im 2 jr I I))) I I I (aO (bV [5]) ?_);refine aM I (fO (cs:=#[az aB hd.2,vb]) I I I I I λg15=>aO (bV [5]) ?_)
   case' b2=>
    refine fO (cs:=#[az aB hd.2,vb]) I I I I I λg15=>aO (bV [5]) ?_;refine aM I (dm (aC (v:=vp) aL.ty I (aI (i:=0) I (im 2 jr I I))) I I I (aO (bV [5]) ?_))
   all_goals
    refine zL ?_;refine aM I (mN (i:=3) (q:=7) I I I I I (by simp only[c_,db,l2];rfl) J J I λv'=>aO (bV [5]) ?_);refine zL ?_
    try refine GW ?_
    refine aM I (aX (i:=3) I λo9 mJ=>ef 2 (i:=0) I I I o9 mJ I jr I (aO (bV [5]) ?_));refine zL ?_
    try refine GW ?_
    refine wZ (eo oL (λk=>F k\/vb.ownBlock=aj k) (gH++[[az aB hd.2,vb]]) (ps++[(hd.2,body)])) 6 4 [0,1,2,3] aln I I I (λk hk=>hk.elim (λh=>by cases h) λh=>h.elim (λh=> .inr (.inr h)) λh=> .inl (.inl h)) (λw hr he=>?_) ?_
    ·exact mO he (Cg (gok ⟨hsm.2.2.1,by omega⟩) Lu hr) λk hk=>(a_ 182 2 vb body.length (body.flatMap eu)).lt w hr k (.inl hk)
    try refine GA ?_
    exact bW (j+1,ps++[(hd.2,body)],v',gH++[[az aB hd.2,vb]],λk=>F k\/vb.ownBlock=aj k) ⟨by omega,by rw[hps,akz],mJ⟩ (by show rules.length-(j+1)<rules.length-j;omega) (hl:=by rw[bK,qc];rfl)
  obtain rfl:j=rules.length:=by omega
  rw[mW]at k2;subst k2;have hG:da ⟨words,rules⟩=⟨t,N,rules.map (Ar M2)⟩:=by unfold da;rw[hW,hH]
  have hE:wN ⟨words,rules⟩=if cC ⟨t,N,rules.map (Ar M2)⟩≠0 then 2 else 0:=by unfold wN;rw[hG]
  have hS:∀e,wN ⟨words,rules⟩=e->K3 gp ⟨words,rules⟩=F_ gp e words.length of ⟨t,N,rules.map (Ar M2)⟩:=λe he=>by
   show F_ gp (wN _) words.length (KI words).1 (da _)=_
   rw[hW,hG,he]
  clear hG;generalize rules.map (Ar M2)=ps at*
  repeat(first|refine GA ?_|refine gV (aY (cs:=[az aB t,az aB N,vp]) aL.ty I I (λj v h=>aI (i:=0) I (tC jr h))) ?_)
  refine pB (oz (YM F vp) vp ps) 3 4 [0,2] aln I I I (λk hk=>hk.elim (λh=>by cases h) λh=>h.elim (λh=> .inr (.inr h)) λh=> .inl (.inl h)) (λw hr he=>⟨⟨vp,rfl,yj hr he aln⟩,yl hr he⟩) ?_;refine zL ?_;refine aU (ja aJ.en I I) (λw hm=>ke _ ⟨t,N,ps⟩ w (y0 (gok ⟨s2,by omega⟩) (gok ⟨u1,by omega⟩) (hm.get (i:=2) I))) I I I ?_;intro _ _;refine zL ?_;generalize cC ⟨t,N,ps⟩=e at*
  by_cases c:e≠0
  ·rw[if_pos c]at hE
   rw[hS _ hE]
   repeat(first|refine GC ?_|refine gV (dc (b:=aD) I I (decide_eq_true c)) ?_|refine GB ?_)
   exact cJ I I λw hm=>hm.b_ (S:=F_ gp 2 words.length of ⟨t,N,ps⟩) (vo,vp,YM F vp) ⟨i5,k3⟩ [0,1,2] aln I
  rw[if_neg c]at hE;rw[hS _ hE]
  repeat(first|refine GC ?_|refine gV (dc (b:=aF) I I (decide_eq_false c)) ?_|refine GB ?_)
  exact cJ I I λw hm=>hm.b_ (S:=F_ gp 0 words.length of ⟨t,N,ps⟩) (vo,vp,YM F vp) ⟨i5,k3⟩ [0,1,2] aln I
end bZ
namespace bZ
open Go.RowKit cL dQ dh gu fY aV eg mX cz
def qk(s:Sp):List Rx:=s.words.map (·.2)
def Uy(s:Sp)(r:Int×List Row×List Int):Prop:=
  (∃k:Int,k≠0/\Ia (qk s) (k,.zero)/\r=(k,[],[]))\/
  ∃ (es:List Re) (m:MS),qk s=es.map l5/\(∀e∈es,Fit e 1 0)/\0<es.length/\es.length<=20/\l6 0 .zero es=(0,m)/\Ia (qk s) (0,m)/\
    ((wN s≠0/\r=(wN s,[],[]))\/(wN s=0/\(tu m).2.2≠0/\r=((tu m).2.2,[],[]))\/
      (wN s=0/\(tu m).2.2=0/\lI (tu m).1 (tu m).2.1=0/\r=(0,yY (tu m).1 (tu m).2.1,yZ (tu m).1 (tu m).2.1)))
theorem aha(s:Sp):∃r,Uy s r:=by
  rcases VS (qk s)with⟨k,h1,h2⟩|⟨es,m,h1,h2,h3,h4,h5,h6⟩
  exact⟨_,.inl ⟨k,h1,h2,rfl⟩⟩
  by_cases c1:wN s=0
  · by_cases c2:(tu m).2.2=0
    · refine⟨_,.inr ⟨es,m,h1,h2,h3,h4,h5,h6,.inr (.inr ⟨c1,c2,?_,rfl⟩)⟩⟩
      cases hd:wx m with
      |none=>rw[Rr hd]at c2;cases c2
      | some y=>
        obtain⟨R,d⟩:=y;rw[yW hd];exact abu (Dp h3 h4 h5) (BP hd)
    exact⟨_,.inr ⟨es,m,h1,h2,h3,h4,h5,h6,.inr (.inl ⟨c1,c2,rfl⟩)⟩⟩
  exact⟨_,.inr ⟨es,m,h1,h2,h3,h4,h5,h6,.inl ⟨c1,rfl⟩⟩⟩
theorem abY{F:Nat->Prop}{w:World}{b off:Nat}{l:List Wd}(h:∀i (h:i<l.length),∃cs,Ah.is F w cs l[i]/\Rd w b (off+i*Ah.c) cs){k:Nat}(hk:k<l.length):
 ∃base cap,Rd w b (off+k*7) (ze l[k].1 l[k].2.kind l[k].2.uO (.slice base l[k].2.kids.length cap))/\kQ F w (mG l[k].2.kind l[k].2.uO (.slice base l[k].2.kids.length cap)) l[k].2:=by
 obtain⟨cs,⟨c1,c2,rfl,⟨rfl,h1⟩,h2⟩,h3⟩:=h k hk;have h2:kQ F w c2 l[k].2:=h2;have h4:=h2.r;obtain⟨vk,e,-,hs⟩:=h4;obtain⟨base,cap,rfl,-⟩:=hs;have e2:c2=mG l[k].2.kind l[k].2.uO (.slice base l[k].2.kids.length cap):=by
  unfold qY at e;simp only[lT]at e
  simpa using congrArg Array.toList e
 subst e2;exact⟨base,cap,h3,h2⟩
def DB(w0:World)(words:List Wd)(gH:List (List Value)):Prop:=∀i c,gH[i]?=aj c->∃h:i<words.length,yo.is (qo w0) w0 c words[i].2
theorem Sc{w0:World}{words:List Wd}{gH:List (List Value)}{c:List Value}(h:DB w0 words gH)(hk:gH.length<words.length)(hc:yo.is (qo w0) w0 c words[gH.length].2):DB w0 words (gH++[c]):=λi x hx=>by
 rcases Nat.lt_trichotomy i gH.length with h1|h1|h1
 rw[mg h1]at hx;exact h i x hx
 ·subst h1
  rw[List.getElem?_concat_length]at hx
  cases hx
  exact⟨hk,hc⟩
 rw[List.getElem?_eq_none (by rw[bK,kO];omega)]at hx;cases hx
theorem IY{w0 w:World}(hg:Gr w0 w){words:List Wd}{gH:List (List Value)}{v:Value}(hl:gH.length=words.length)(h:DB w0 words gH)(hr:(a_ 87 6 v words.length gH.flatten).holds w):kw yo (qo w) w v (words.map (·.2)):=by
 have he:(eo yo (qo w0) gH (words.map (·.2))).holds w:=⟨⟨by rw[hl,eI],λi h1 h2=>by
  obtain⟨h3,h4⟩:=h i _ (bM h2);rw[List.getElem_map];exact yo.stay h4 λk hk=>hg.block k hk⟩,λk hk=>Nat.lt_of_lt_of_le hk hg.size⟩
 have hr:(a_ 87 yo.c v (words.map (·.2)).length gH.flatten).holds w:=by rw[eI];exact hr
 exact(yj hr he aln).mono λk hk=>yl hr he k hk
def Oq(gp:Nat)(s:Sp)(R:List Row)(T:List Int):Spec (Value×Value×(Nat->Prop)×Nat×(Nat->Value)×Value):=
 ⟨λx=>x.1.oneCell'=aD/\x.2.1.oneCell'=aD/\x.2.2.2.2.2.oneCell'=aD,λ_=>az aB 0,λx=>[aR gp (gZ x.1 (ey (wM R 256) (av (aj ⟨x.2.2.2.1,0,ak⟩) R.length R.length) x.2.2.2.2.2) (eD (da s).aT (da s).bx x.2.1 0 (av ak 0 0) (av ak 0 0) (av ak 0 0))).toArray 38,a_ 3 1 x.1 s.words.length ((KI s.words).1.map (az .i64)),oz x.2.2.1 x.2.1 (da s).aH,
  fE 26 y9 x.2.2.2.1 R.length x.2.2.2.2.1,WB R.length (nM R 256) x.2.2.2.2.1,a_ 3 1 x.2.2.2.2.2 T.length (T.flatMap cL.eJ)]⟩
def IZ(gp:Nat)(s:Sp)(r:Int×List Row×List Int):Spec (Value×Value×(Nat->Prop)×Nat×(Nat->Value)×Value):=
 if r.1=0 then Oq gp s r.2.1 r.2.2 else⟨λ_=>True,λ_=>az aB r.1,λ_=>[]⟩
set_option maxRecDepth 100000 in
theorem Ot(vw vr:Value)(s:Sp)(r:Int×List Row×List Int)(hx:Uy s r)(gp:Nat)(w0:World)(hv:TO (qo w0) w0 (aQ #[vw,vr]) s)(hlw:s.words.length<=60)(LD:s.rules.length<=60)(H5:∀r∈s.rules,r.2.length<=8796093021952)(w:World)(B:bP)(ho:mI w0 B)(hm:Mem B [aR gp Gx.toArray 38] w):
 Calls aE 18 #[aQ #[vw,vr],aK (aj ⟨gp,0,ak⟩)] w (cZ (IZ gp s r) B):=by
 have aa2:=λw' B' LK qu=>Hc vw vr s gp w0 hv hlw LD H5 w' B' LK qu;obtain⟨K4,CV,hvv,hw,-⟩:=hv;obtain⟨rfl,rfl⟩:vw=K4/\vr=CV:=by simpa using hvv
 clear hvv H5;obtain⟨bw,cw,rfl,-,-,Sb⟩:=hw;have JU:qk s=s.words.map (·.2):=rfl
 refine du hm (args:=[aQ #[av bw s.words.length cw,vr],aK (aj ⟨gp,0,ak⟩)]) (n:=60) Tryz.func18 I I I ?_;refine cB (bD (bL I I I λg2=>?_));refine zL ?_
 repeat(first|refine GA ?_|refine gV (aC (v:=av bw s.words.length cw) aL.ty I (aI (i:=1) I I)) ?_)
 refine iz 87 6 ?_;refine d_ (ι:=Nat×List (List Value)×Value) (λ(k,gH,vl)=>k<=s.words.length/\gH.length=k/\DB w0 s.words gH)
  (λ(k,_,vl)=>[(1,aK (aj ⟨gp,0,ak⟩)),(2,aK (aj ⟨g2,0,ak⟩)),(5,vl),(13,av bw s.words.length cw),(14,az aB s.words.length),(15,az aB (k:Int))])
  (λ(k,gH,vl)=>[aR gp Gx.toArray 38,aR g2 #[av bw s.words.length cw,vr] 25,a_ 87 6 vl k gH.flatten])
  (λ(k,_,_)=>s.words.length-k) (0,[],av ak 0 0) ⟨bH _,rfl,λi c h=>by cases h⟩ ?_
 clear hm;rintro⟨k,gH,vl⟩ ⟨i1,i2,i3⟩;dsimp only at i1 i2 i3⊢
 by_cases c1:k<s.words.length
 ·obtain⟨b,off,rfl,_,hr⟩:=Sb J
  obtain⟨bk,ck,q1,q2⟩:=abY hr c1;have dy:∀(L:List b9) (j:Nat) (u:Value),(ze s.words[k].1 s.words[k].2.kind s.words[k].2.uO (.slice bk s.words[k].2.kids.length ck))[j]?=aj u->At B L ⟨b,off+k*7+j,ak⟩ u:=λL j u hj=>iX ho (q1 j u hj);clear hr Sb q1 hx aa2;subst i2;have hsn:=Sc i3 c1 q2;clear q2;generalize s.words[gH.length].1=nm at*;generalize s.words[gH.length].2.kind=rk at*;generalize s.words[gH.length].2.uO=rc at*;generalize s.words[gH.length].2.kids.length=rn at*
  repeat(first|refine GA ?_|refine gV (aZ bQ.eq aL.ty I I c1) ?_|refine gV (aY (cs:=ze nm rk rc (av bk rn ck)) aL.ty I I (dy _)) ?_)
  clear dy;refine a8 I λg7=>?_;refine zL ?_;refine gG 3 (cs':=(ze nm rk rc (av bk rn ck)).toArray) ?_;refine zL ?_
  repeat(first|refine GA ?_|refine gV (aY (cs:=mG rk rc (av bk rn ck)) aL.ty I I (λj v hj=>aI (i:=3) I (Q9 hj))) ?_)
  refine jR (i:=2) I I I I I I I (λz h=>by cases h;rfl) J J I λz Tr=>?_;refine zL ?_
  try refine GA ?_
  refine dv [0,1,2] ?_;exact bW (gH.length+1,gH++[mG rk rc (av bk rn ck)],Tr) ⟨by omega,by rw[bK];rfl,hsn⟩ (by show s.words.length-(gH.length+1)<s.words.length-gH.length;omega) (hl:=by dsimp only;rw[qc];simp)
 ·obtain rfl:k=s.words.length:=by omega
  clear Sb;rcases hx with⟨k,hk,hR,rfl⟩|⟨es,m,hes,Jl,h0,h20,hlp,hR,hx⟩
  ·have L4:=λw' (rQ:kw yo (qo w') w' vl (qk s))=>E5 vl (qk s) (k,.zero) w' rQ hR
   rw[show IZ gp s (k,[],[])=⟨λ_=>True,λ_=>az aB k,λ_=>[]⟩from if_neg hk]
   try refine GA ?_
   refine aU (ja aJ.en I I) (λw hm=>L4 _ (IY (ho.mem hm) i2 i3 (hm.get (i:=2) I))) I I I ?_;rintro⟨uf,uh,vf1,gY,ui,ve1,n9,F1⟩ kr
   conv=>arg 8;simp only[zJ,cD,ret,id_eq,rh,QQ,QR]
   conv=>arg 7;simp only[rh,QR]
   refine aX (i:=3) I λ_ a1=>aX (i:=4) I λ_ a2=>aX (i:=5) I λ_ a3=>aX (i:=6) I λ_ a4=>aX (i:=8) I λ_ a5=>aX (i:=9) I λ_ a6=>?_
   try refine GA ?_
   refine a8 I λg4=>?_;refine zL ?_;refine aW (i:=10) (cs':=#[uf,uh,vf1,gY,ui,ve1]) I I I I (by simp only[c_,db,a1,a2,a3,a4,a5,a6];rfl) I ?_;refine zL ?_
   repeat(first|refine GC ?_|refine gV (dc (b:=aD) I I (decide_eq_true hk)) ?_|refine GB ?_)
   exact cJ I I λw hm=>hm.b_ (S:=⟨λ_=>True,λ_=>az aB k,λ_=>[]⟩) (vl,vl,λ_=>False,0,λ_=>vl,vl) trivial [] aln I
  have L4:=λw' (rQ:kw yo (qo w') w' vl (qk s))=>E5 vl (qk s) (0,m) w' rQ hR;have kV:=Dp h0 h20 hlp;have hdm:=λv' w' h=>G3 v' m w' h kV;unfold TV at hdm
  try refine GA ?_
  refine aU (ja aJ.en I I) (λw hm=>L4 _ (IY (ho.mem hm) i2 i3 (hm.get (i:=2) I))) I I I ?_;rintro⟨uf,uh,vf1,gY,ui,ve1,n9,F1⟩ kr;have kr:n9.length=m.ps.follow.length:=kr
  conv=>arg 8;simp only[zJ,cD,ret,id_eq,rh,QQ,QR]
  conv=>arg 7;simp only[rh,QR]
  refine aX (i:=3) I λ_ a1=>aX (i:=4) I λ_ a2=>aX (i:=5) I λ_ a3=>aX (i:=6) I λ_ a4=>aX (i:=8) I λ_ a5=>aX (i:=9) I λ_ a6=>?_
  try refine GA ?_
  refine a8 I λg4=>?_;refine zL ?_;refine aW (i:=10) (cs':=#[uf,uh,vf1,gY,ui,ve1]) I I I I (by simp only[c_,db,a1,a2,a3,a4,a5,a6];rfl) I ?_;refine zL ?_;clear a1 a2 a3 a4 a5 a6
  repeat(first|refine GC ?_|refine gV (dc (b:=aF) I I (decide_eq_false (by simp))) ?_|refine gV (aP (i:=1) aL.ty I I I) ?_|refine GB ?_)
  refine bz [0] [3,4,5,6,7,8,9,10] aln I I (fC aJ.en I I I) (λw' qu hb=>aa2 w' _ (mI.on ho qu (λo ho=>by simp at ho;subst ho;simp)) hb) I I I ?_;rintro⟨vo,vp,F⟩ ⟨k1,k2⟩
  conv=>arg 8;simp only[zJ,cD,ret,id_eq,K3,F_]
  conv=>arg 7;simp only[K3,F_]
  have nW:∀e:Int,e≠0->IZ gp s (e,[],[])=⟨λ_=>True,λ_=>az aB e,λ_=>[]⟩:=λe he=>if_neg he;have vh:∀R T,IZ gp s (0,R,T)=Oq gp s R T:=λR T=>if_pos I
  by_cases d1:wN s≠0
  ·obtain rfl:r=(wN s,[],[]):=by
    rcases hx with⟨-,h⟩|⟨h,-⟩|⟨h,-⟩
    exact h;exact absurd h d1;exact absurd h d1
   rw[nW _ d1]
   repeat(first|refine GC ?_|refine gV (dc (b:=aD) I I (decide_eq_true d1)) ?_|refine GB ?_)
   exact cJ I I λw hm=>hm.b_ (S:=⟨λ_=>True,λ_=>az aB (wN s),λ_=>[]⟩) (vl,vl,λ_=>False,0,λ_=>vl,vl) trivial [] aln I
  have d1:wN s=0:=tD d1;rw[d1];have hx:=hx.resolve_left (λh=>h.1 d1);generalize tu m=D at*;obtain⟨R,T,e⟩:=D;dsimp only at hdm hx⊢
  repeat(first|refine GC ?_|refine gV (dc (b:=aF) I I (decide_eq_false (by simp))) ?_|refine gV (aP (i:=7) aL.ty I I I) ?_|refine GB ?_)
  refine aU (ja aJ.en I I) (λw hm=>hdm _ w (hm.aj9 (x:=⟨uf,uh,vf1,gY,ui,ve1,n9,F1⟩) 0 kr I (by simp))) I I I ?_;rintro⟨vrr,vtt⟩ _
  conv=>arg 8;simp only[zJ,cD,ret,id_eq,jc]
  conv=>arg 7;simp only[jc]
  refine aX (i:=11) I λ_ a1=>aX (i:=12) I λ_ a2=>?_
  try refine GA ?_
  refine a8 I λg6=>?_;refine zL ?_;refine aW (i:=13) (cs':=#[vrr,vtt]) I I I I (by simp only[c_,db,a1,a2];rfl) I ?_;refine zL ?_;clear a1 a2
  by_cases d2:e≠0
  ·obtain rfl:r=(e,[],[]):=by
    rcases hx with⟨-,-,h⟩|⟨-,h,-⟩
    exact h;exact absurd h d2
   rw[nW _ d2]
   repeat(first|refine GC ?_|refine gV (dc (b:=aD) I I (decide_eq_true d2)) ?_|refine GB ?_)
   exact cJ I I λw hm=>hm.b_ (S:=⟨λ_=>True,λ_=>az aB e,λ_=>[]⟩) (vl,vl,λ_=>False,0,λ_=>vl,vl) trivial [] aln I
  have d2:e=0:=tD d2;subst d2;obtain⟨o9,rfl⟩:lI R T=0/\r=(0,yY R T,yZ R T):=by
   rcases hx with⟨-,h,-⟩|⟨-,-,h,h2⟩
   exact absurd I h;exact⟨h,h2⟩
  rw[vh];have ahb:=λvr vt w' h=>G4 vr vt R T w' h;have PI:=Ds o9;unfold ad2 at ahb;rw[o9]at ahb;generalize yY R T=MR at*;generalize yZ R T=MT at*;have xB:=λvr vt w' h=>RV vr vt MR MT w' h PI;unfold abG at xB
  repeat(first|refine GC ?_|refine gV (dc (b:=aF) I I (decide_eq_false (by simp))) ?_|refine gV (aP (i:=13) aL.ty I I I) ?_|refine GB ?_)
  refine aU (ja aJ.en I I) (λw hm=>ahb _ _ w (hm.aiD (i:=11) (j:=12) I (by rw[rS];rfl) o9)) I I I ?_;rintro⟨mr,mt⟩ _;refine zL ?_;dsimp only;refine aX (i:=14) I λ_ d1=>aX (i:=15) I λ_ d2=>?_
  try refine GA ?_
  refine aW (i:=13) (cs':=(jc mr mt).cells) I I I I (by show([mr,mt].all ft)=aD;simp[d1,d2]) I ?_;refine zL ?_
  repeat(first|refine GA ?_|refine gV (aP (i:=13) aL.ty I I I) ?_)
  refine aU (ja aJ.en I I) (λw hm=>xB _ _ w (hm.aiD (i:=14) (j:=15) I I PI)) I I I ?_;rintro⟨gP,vsP,vTP⟩ _;refine zL ?_;dsimp only;refine aX (i:=18) I λ_ d3=>?_
  try refine GA ?_
  refine RN (i:=8) (pk':=ey (wM MR 256) (av (aj ⟨gP,0,ak⟩) MR.length MR.length) vTP) I I I (by have:=y6 (wM MR 256) (vn:=av (aj ⟨gP,0,ak⟩) MR.length MR.length) (vt:=vTP) I d3;simpa using this) I jr (fh _ _ _) ?_;refine zL ?_
  try refine GA ?_
  exact cJ I I λw hm=>hm.b_ (S:=Oq gp s MR MT) (vo,vp,F,gP,vsP,vTP) ⟨k1,k2,d3⟩ [8,9,10,16,17,18] aln I
theorem Sd(r:Rl)(l:List Rl)(of:List Bs):rl (r::l) of=if te r.1=aF then 1 else if r.1∈of then 11 else rl l of:=rfl
theorem WT(of hd:List Bs)(x:Bs)(l:List Bs):BG of hd (x::l)=((decide (x∈of)||decide (x∈hd))&&BG of hd l):=rfl
theorem Ou(of hd:List Bs)(r:Rl)(l:List Rl):rX of hd (r::l)=(BG of hd r.2&&rX of hd l):=rfl
theorem Hd(v:Value)(s:Sp)(w:World)(h:TO (qo w) w v s):Calls aE 17 #[v] w (bX (ret (az aB (pW s))) w):=by
 obtain⟨vw,vr,rfl,hw,hr⟩:=h;have hnm:=λs w=>Cr s w;have hwd:=λgm w' B ho hl hm=>Nf vw vr s.words gm w hw hl w' B ho hm;obtain⟨bw,cw,rfl,-⟩:=hw;obtain⟨br,cr,rfl,hcr,hmr,hrr⟩:=hr;unfold maxLen at hmr;have hC:pW s=if 60<s.words.length\/60<s.words.length+s.rules.length then 2 else if(lV s.words []).1≠0 then(lV s.words []).1 else if rl s.rules (lV s.words []).2≠0 then rl s.rules (lV s.words []).2 else if rX (lV s.words []).2 (s.rules.map (·.1)) s.rules=aD then 0 else 11:=rfl
 obtain⟨words,rules⟩:=s;dsimp only at*;refine enter (args:=[aQ #[av bw words.length cw,av br rules.length cr]]) (n:=99) Tryz.func17 I I I ?_;refine cB (bD (bL I I I λg1=>?_));refine zL ?_
 by_cases c0:60<words.length
 ·rw[if_pos (.inl c0)]at hC
  rw[hC]
  repeat(first|refine GA ?_|refine gV (aC (v:=av bw words.length cw) aL.ty I (aI (i:=0) I I)) ?_)
  exact dG I I I
 by_cases c1:60<words.length+rules.length
 ·rw[if_pos (.inr c1)]at hC
  rw[hC]
  repeat(first|refine GA ?_|refine gV (aC (v:=av bw words.length cw) aL.ty I (aI (i:=0) I I)) ?_|refine gV (aC (v:=av br rules.length cr) aL.ty I (aI (i:=0) I I)) ?_)
  exact dG I I I
 rw[if_neg J]at hC;rw[hC]
 repeat(first|refine GA ?_|refine gV (aC (v:=av bw words.length cw) aL.ty I (aI (i:=0) I I)) ?_|refine gV (aC (v:=av br rules.length cr) aL.ty I (aI (i:=0) I I)) ?_)
 refine ym iD I λg3=>?_;refine zL ?_;refine ym iD I λg4=>?_;refine zL ?_
 repeat(first|refine GA ?_|refine gV (aP (i:=0) aL.ty I I I) ?_)
 refine bz [1] [0,2] aln I I (fC aJ.en I I I) (λw' qu hb=>hwd g3 w' _ (mI.on (mI.self w) qu (λo ho=>by simp at ho;subst ho;simp)) J hb) I I I ?_;rintro⟨m,n⟩ ⟨k1,k2⟩
 conv=>arg 8;simp only[zJ,cD,ret,id_eq,tf]
 conv=>arg 7;simp only[tf]
 generalize lV words []=W at*;obtain⟨e,of⟩:=W;dsimp only at k1 k2⊢
 by_cases e0:e=0
 ·subst e0
  rw[if_neg (by simp)]
  repeat(first|refine GA ?_|refine gV (aC (v:=av br rules.length cr) aL.ty I (aI (i:=0) I I)) ?_)
  generalize jb:rl rules of=fin;refine d_ (ι:=Nat×(Bs->Option Value)×Nat) (λ(k,m2,n2)=>k<=rules.length/\n2<=k/\KeysOf m2 ((rules.take k).map (·.1))/\rl (rules.drop k) of=fin) (λ(k,_,_)=>[(1,aK (aj ⟨g1,0,ak⟩)),(3,.map (aj g3)),(4,.map (aj g4)),(41,av br rules.length cr),(42,az aB rules.length),(43,az aB (k:Int))])
   (λ(_,m2,n2)=>[aR g1 #[av bw words.length cw,av br rules.length cr] 25,fv iD g4 m2 n2,fv iD g3 m n]) (λ(k,_)=>rules.length-k) (0,λ_=>ak,0) ⟨bH _,bC _,λy=>rfl,jb⟩ ?_
  rintro⟨k,m2,n2⟩ ⟨i1,i2,i3,i4⟩;dsimp only at i1 i2 i3 i4⊢
  by_cases c2:k<rules.length
  ·obtain⟨b,off,rfl,_,eR⟩:=hrr J
   obtain⟨bk,ck,q1,-,q3⟩:=Dq eR c2;rw[eH c2,Sd]at i4;have oB:(rules.take (k+1)).map (·.1)=(rules.take k).map (·.1)++[rules[k].1]:=by rw[gv c2,eZ];rfl
   have dy:∀(L:List b9) (j:Nat) (u:Value),([str rules[k].1,.slice bk rules[k].2.length ck]:List Value)[j]?=aj u->At w L ⟨b,off+k*2+j,ak⟩ u:=λL j u hj=>kH (q1 j u hj);clear eR q1;generalize rules[k]=r at*;obtain⟨nm,bd⟩:=r;dsimp only at*;generalize bd.length=bn at*
   repeat(first|refine GA ?_|refine gV (aZ bQ.eq aL.ty I I c2) ?_|refine gV (aY (cs:=[str nm,av bk bn ck]) aL.ty I I (dy _)) ?_)
   clear dy;refine a8 I λg7=>?_;refine zL ?_
   try refine GA ?_
   refine gG 3 (cs':=#[str nm,av bk bn ck]) ?_;refine zL ?_
   repeat(first|refine GA ?_|refine gV (aC (v:=str nm) aL.ty I (aI (i:=3) I I)) ?_)
   refine aU (ja aJ.en I I) (λw hm=>hnm nm w) I I I ?_;intro _ _;refine zL ?_
   cases hb:te nm with
   | false=>
    rw[if_pos hb]at i4;subst i4;rw[if_pos aln]
    try refine GA ?_
    exact dG I I I
   | true=>
    rw[if_neg (by rw[hb];decide)]at i4
    cases Cm:m nm with
    | some u=>
     rw[if_pos (rY k1 Cm)]at i4;subst i4;rw[if_pos aln]
     repeat(first|refine GA ?_|refine gV (aC (v:=str nm) aL.ty I (aI (i:=3) I I)) ?_|refine gV (j_ iD (x:=nm) bQ.eq ik (i:=2) I I I q3 Cm) ?_)
     exact dG I I I
    | none=>
     rw[if_neg (rZ k1 Cm)]at i4
     repeat(first|refine GA ?_|refine gV (aC (v:=str nm) aL.ty I (aI (i:=3) I I)) ?_|refine gV (ka iD (x:=nm) bQ.eq ik (i:=2) I I I q3 Cm) ?_)
     refine mB (i:=1) (x:=nm) (v:=az aB (k:Int)) iD bQ.eq I I I I q3 J ?_;refine zL ?_
     try refine GA ?_
     refine dv [0,1,2] ?_;exact iW (k+1,_,_) ⟨by omega,by show(if(m2 nm).isSome then n2 else n2+1)<=k+1;split<;>omega,by show KeysOf _ ((rules.take (k+1)).map (·.1));rw[oB];exact Nd i3,i4⟩ (by show rules.length-(k+1)<rules.length-k;omega) (by repeat' (first|exact cV|refine cP I ?_)) I
  obtain rfl:k=rules.length:=by omega
  rw[yK]at i4;subst i4;rw[mW]at i3;rw[if_neg (by simp[rl])];generalize rules.map (·.1)=hd at*
  repeat(first|refine GA ?_|refine gV (aC (v:=av br rules.length cr) aL.ty I (aI (i:=0) I I)) ?_)
  refine tW [1,2] ?_;generalize jb:rX of hd rules=fin;refine d_ (ι:=Nat) (λk=>k<=rules.length/\rX of hd (rules.drop k)=fin) (λk=>[(3,.map (aj g3)),(4,.map (aj g4)),(66,av br rules.length cr),(67,az aB rules.length),(68,az aB (k:Int))])
   (λ_=>[fv iD g4 m2 n2,fv iD g3 m n]) (λk=>rules.length-k) 0 ⟨bH _,jb⟩ ?_
  rintro k ⟨i5,i6⟩
  by_cases c2:k<rules.length
  ·obtain⟨b,off,rfl,_,eR⟩:=hrr J
   obtain⟨bk,ck,q1,q2,q3⟩:=Dq eR c2;rw[eH c2,Ou]at i6;have dy:∀(L:List b9) (j:Nat) (u:Value),([str rules[k].1,.slice bk rules[k].2.length ck]:List Value)[j]?=aj u->At w L ⟨b,off+k*2+j,ak⟩ u:=λL j u hj=>kH (q1 j u hj);have rQ:=q2.flat aln;have kV:=q2.okp;clear eR q1 q2;generalize rules[k]=r at*;obtain⟨nm,bd⟩:=r;dsimp only at*;obtain⟨b2,M4,l_,zo,Yf,FK⟩:=rQ
   cases l_
   unfold maxLen at Yf
   repeat(first|refine GA ?_|refine gV (aZ bQ.eq aL.ty I I c2) ?_|refine gV (aY (cs:=[str nm,av bk bd.length ck]) aL.ty I I (dy _)) ?_)
   clear dy;refine a8 I λg11=>?_;refine zL ?_;refine gG 2 (cs':=#[str nm,av bk bd.length ck]) ?_;refine zL ?_
   repeat(first|refine GA ?_|refine gV (aC (v:=av bk bd.length ck) aL.ty I (aI (i:=2) I I)) ?_)
   refine tW [0,1] ?_;generalize aji:BG of hd bd=ajj at i6;refine d_ (ι:=Nat) (λi=>i<=bd.length/\BG of hd (bd.drop i)=ajj) (λi=>[(3,.map (aj g3)),(4,.map (aj g4)),(66,av (aj ⟨b,off,ak⟩) rules.length cr),(67,az aB rules.length),(68,az aB (k:Int)),(73,av bk bd.length ck),(74,az aB bd.length),(75,az aB (i:Int))])
    (λ_=>[fv iD g4 m2 n2,fv iD g3 m n]) (λi=>bd.length-i) 0 ⟨bH _,aji⟩ ?_
   rintro i ⟨i7,i8⟩
   by_cases c3:i<bd.length
   ·obtain⟨b3,ad8,rfl,Ep⟩:=FK J
    have dy:=gd (L:=([fv iD g4 m2 n2,fv iD g3 m n]:List b9)) TK Ep c3 0 _ I;rw[eH c3,WT]at i8;have hlen:=kV bd[i] (cH c3);clear Ep kV FK;generalize bd[i]=x at*
    repeat(first|refine GA ?_|refine gV (aZ bQ.eq aL.ty I I c3) ?_|refine gV (aC (v:=str x) aL.ty I dy) ?_)
    cases Cm:m x with
    | some u=>
     rw[decide_eq_true (rY k1 Cm),Bool.true_or,FT]at i8
     cases Se:m2 x with
     | some u2=>
      repeat(first|refine GA ?_|refine gV (j_ iD (x:=x) bQ.eq ik (i:=1) I I I hlen Cm) ?_|refine gV (j_ iD (x:=x) bQ.eq ik (i:=0) I I I hlen Se) ?_)
      exact bW (i+1) ⟨by omega,i8⟩ (by show bd.length-(i+1)<bd.length-i;omega)
     | none=>
      repeat(first|refine GA ?_|refine gV (j_ iD (x:=x) bQ.eq ik (i:=1) I I I hlen Cm) ?_|refine gV (ka iD (x:=x) bQ.eq ik (i:=0) I I I hlen Se) ?_)
      exact bW (i+1) ⟨by omega,i8⟩ (by show bd.length-(i+1)<bd.length-i;omega)
    | none=>
     cases Se:m2 x with
     | some u2=>
      rw[decide_eq_true (rY i3 Se),Bool.or_true,FT]at i8
      repeat(first|refine GA ?_|refine gV (ka iD (x:=x) bQ.eq ik (i:=1) I I I hlen Cm) ?_|refine gV (j_ iD (x:=x) bQ.eq ik (i:=0) I I I hlen Se) ?_)
      exact bW (i+1) ⟨by omega,i8⟩ (by show bd.length-(i+1)<bd.length-i;omega)
     | none=>
      rw[decide_eq_false (rZ k1 Cm),decide_eq_false (rZ i3 Se),Bool.or_false,RP]at i8;subst i8;rw[RP]at i6;rw[<-i6,if_neg aln]
      repeat(first|refine GA ?_|refine gV (ka iD (x:=x) bQ.eq ik (i:=1) I I I hlen Cm) ?_|refine gV (ka iD (x:=x) bQ.eq ik (i:=0) I I I hlen Se) ?_)
      exact dG I I I
   obtain rfl:i=bd.length:=by omega
   rw[yK]at i8;have i8:aD=ajj:=i8;rw[<-i8,FT]at i6
   try refine GA ?_
   exact bW (k+1) ⟨by omega,i6⟩ (by show rules.length-(k+1)<rules.length-k;omega)
  obtain rfl:k=rules.length:=by omega
  rw[yK]at i6;have i6:aD=fin:=i6;rw[<-i6,if_pos I]
  try refine GA ?_
  exact dG I I I
 rw[if_pos e0]
 repeat(first|refine GC ?_|refine gV (dc (b:=aD) I I (decide_eq_true e0)) ?_|refine GB ?_)
 exact dG I I I
theorem C7(v:Value)(l:List Bool)(x:Bool)(w:World)(hs:Sl w v l.length (l.map .bool)):
 Calls aE 47 #[v,.bool x] w (bX (ret (az aB (rF (· ==x) l))) w):=by
 obtain⟨base,cap,rfl,lf,jL,eR⟩:=hs;unfold maxLen at jL;refine enter (args:=[av base l.length cap,.bool x]) (n:=19) Tryz.func47 I I I ?_
 try refine GA ?_
 refine d_ (ι:=Nat) (λk=>k<=l.length/\∀j (hj:j<l.length),j<k->(l[j]==x)=aF) (λk=>[(0,av base l.length cap),(1,.bool x),(7,az aB l.length),(8,az aB (k:Int))]) (λ_=>[]) (λk=>l.length-k) 0 ⟨by omega,λj hj h=>by omega⟩ ?_;rintro k ⟨h1,h2⟩
 by_cases c2:k<l.length
 ·obtain⟨b,off,rfl,hr⟩:=eR J
  have dy:=D0 (L:=([]:List b9)) hr c2
  by_cases c3:(l[k]==x)=aD
  ·rw[rG c2 c3 h2]
   have e:x=l[k]:=by simpa using(beq_iff_eq.1 c3).symm
   clear h2 eR;subst e
   repeat(first|refine GC ?_|refine gV (bY bQ.eq aL.ty I I c2) ?_|refine gV (aC aL.ty I dy) ?_|refine gV (Hr (c:=aD) bQ.eq I I (by simp)) ?_|refine GB ?_)
   exact eB
  have OQ:(l[k]==x)=false:=by simpa using c3
  have e:(x==l[k])=false:=by rw[beq_eq_false_iff_ne]at OQ⊢;exact λh=>OQ h.symm
  clear eR c3
  repeat(first|refine GC ?_|refine gV (bY bQ.eq aL.ty I I c2) ?_|refine gV (aC aL.ty I dy) ?_|refine gV (Hr (c:=aF) bQ.eq I I e) ?_|refine GB ?_)
  exact bW (k+1) ⟨by omega,λj hj h=>if e:j<k then h2 j hj e else(by obtain rfl:j=k:=J;exact OQ)⟩ (by show l.length-(k+1)<l.length-k;omega)
 ·rw[rH λj hj=>h2 j hj J]
  clear h2 eR
  try refine GA ?_
  exact eB
theorem ql(v:Value)(l:List Bool)(x:Bool)(w:World)(hs:Sl w v l.length (l.map .bool)):
 Calls aE 20 #[v,.bool x] w (bX (ret (.bool (l.any (· ==x)))) w):=by
 refine enter (args:=[v,.bool x]) (n:=9) Tryz.func20 I I I ?_;have hh:=λw' (hg:Gr w w')=>C7 v l x w' (hs.gr hg);have hr:=pA (· ==x) l
 rw[<-uS (· ==x) l]
 generalize rF (· ==x) l=r at*
 try refine GA ?_
 refine aU (fC aJ.en I I I) (λw hm=>hh _ hm.below) I I I ?_;intro _ _
 repeat(first|refine GC ?_|refine gV (fu I I I) ?_|refine GB ?_)
 exact eB
open CR
def BZ(g:ep):List Bool:=(xo g.bx.toNat g.aH).R
def B1(g:ep):List Bool:=(xo g.bx.toNat g.aH).M
def zb(g:ep):List Cl:=mR g.aH (BK g.bx.toNat g.aH) g.aT.toNat g.bx.toNat
def DC(s:Sp)(e:Int):Int×Int:=
 if pW s≠0 then(pW s,0)else if s.words.length=0\/s.rules.length=0 then(1,0)else if e≠0 then(e,0)
 else if(BZ (da s)).any (· ==aF)=aD\/(B1 (da s)).any (· ==aF)=aD then(4,0)
 else if(zb (da s)).length=0 then(0,1)
 else if(jd (da s)).2.2.2≠0 then((jd (da s)).2.2.2,0)else if 0<(jd (da s)).2.2.1.length then(12,0)else(0,2)
structure He where
 vo:Value
 vp:Value
 F:Nat->Prop
 gP:Nat
 vsP:Nat->Value
 vT:Value
 gR:Nat
 vsR:Nat->Value
 tx:RD
def CH:He:=⟨av ak 0 0,av ak 0 0,λ_=>False,0,λ_=>av ak 0 0,av ak 0 0,0,λ_=>av ak 0 0,⟨av ak 0 0,[],λ_=>False,av ak 0 0,[],λ_=>False⟩⟩
def He.pk(x:He)(R:List Row):List Value:=ey (wM R 256) (av (aj ⟨x.gP,0,ak⟩) R.length R.length) x.vT
structure ajk(x:He):Prop where
 o:x.vo.oneCell'=aD
 p:x.vp.oneCell'=aD
 t:x.vT.oneCell'=aD
def He.lex(x:He)(s:Sp)(R:List Row)(T:List Int):List b9:=
 [a_ 3 1 x.vo s.words.length ((KI s.words).1.map (az .i64)),oz x.F x.vp (da s).aH,fE 26 y9 x.gP R.length x.vsP,WB R.length (nM R 256) x.vsP,a_ 3 1 x.vT T.length (T.flatMap cL.eJ)]
def wT(e:Int):Spec He:=⟨λ_=>True,λ_=> .tuple #[aQ Gx.toArray,az aB e],λ_=>[]⟩
def He.cLL(x:He)(g:ep)(R:List Row):Array Value:=(gZ x.vo (x.pk R) (eD g.aT g.bx x.vp 1 (av (aj ⟨x.gR,0,ak⟩) g.bx.toNat g.bx.toNat) (av ak 0 0) (av ak 0 0))).toArray
def He.cLR(x:He)(g:ep)(R:List Row):Array Value:=(gZ x.vo (x.pk R) (eD g.aT g.bx x.vp 2 (av ak 0 0) x.tx.vA x.tx.vG)).toArray
def He.rows(x:He)(g:ep):List b9:=[fE 26 wE x.gR g.bx.toNat x.vsR,jK (λj=>j<g.bx.toNat) (np g.aH (BK g.bx.toNat g.aH) g.aT.toNat x.vsR g.bx.toNat 0)]
def aez(s:Sp)(R:List Row)(T:List Int):Spec He:=
 ⟨ajk,λx=> .tuple #[.agg (x.cLL (da s) R),az aB 0],λx=>x.lex s R T++x.rows (da s)⟩
def aeA(s:Sp)(R:List Row)(T:List Int):Spec He:=
 ⟨λx=>ajk x/\x.tx.vA.oneCell'=aD/\x.tx.vG.oneCell'=aD,λx=> .tuple #[.agg (x.cLR (da s) R),az aB 0],λx=>x.lex s R T++Wk x.tx (jd (da s)).1 (jd (da s)).2.1⟩
def qm(s:Sp)(r:Int×List Row×List Int):Spec He:=
 if(DC s r.1).1≠0 then wT (DC s r.1).1 else if(DC s r.1).2=1 then aez s r.2.1 r.2.2 else aeA s r.2.1 r.2.2
theorem AH{s:Sp}{r:Int×List Row×List Int}(h:Uy s r)(h0:r.1=0):cC (da s)=0/\lI r.2.1 r.2.2=0:=by
 have hn:wN s=0->cC (da s)=0:=λh=>by
  unfold wN at h;generalize cC (da s)=e at*
  by_cases c:e≠0
  rw[if_pos c]at h;cases h;exact tD c
 rcases h with⟨k,hk,-,rfl⟩|⟨es,m,-,-,h3,h4,h5,-,⟨h,rfl⟩|⟨-,h,rfl⟩|⟨h,-,hc,rfl⟩⟩
 exact absurd h0 hk;exact absurd h0 h;exact absurd h0 h;refine⟨hn h,?_⟩;have:=Ds hc;dsimp only;exact this
set_option maxRecDepth 100000 in
theorem AI(v:Value)(s:Sp)(r:Int×List Row×List Int)(hx:Uy s r)(w:World)(hv:TO (qo w) w v s)(H5:∀r∈s.rules,r.2.length<=8796093021952):
 Calls aE 5 #[v] w (bX (qm s r) w):=by
 have iH:=λw' (hg:Gr w w')=>Hd v s w' (hv.gr hg);have hv0:=hv;obtain⟨vw,vr,rfl,hw,hr⟩:=hv;obtain⟨bw,cw,rfl,-⟩:=hw;obtain⟨br,cr,rfl,-⟩:=hr;have hM:DC s r.1=if pW s≠0 then(pW s,0)else if s.words.length=0\/s.rules.length=0 then(1,0)else if r.1≠0 then(r.1,0)
  else if(BZ (da s)).any (· ==aF)=aD\/(B1 (da s)).any (· ==aF)=aD then(4,0)
  else if(zb (da s)).length=0 then(0,1)
  else if(jd (da s)).2.2.2≠0 then((jd (da s)).2.2.2,0)else if 0<(jd (da s)).2.2.1.length then(12,0)else(0,2):=rfl
 have nW:∀e m,DC s r.1=(e,m)->e≠0->qm s r=wT e:=λe m h he=>by unfold qm;rw[h,if_pos he]
 have hLL:DC s r.1=(0,1)->qm s r=aez s r.2.1 r.2.2:=λh=>by unfold qm;rw[h];rfl
 have hLR:DC s r.1=(0,2)->qm s r=aeA s r.2.1 r.2.2:=λh=>by unfold qm;rw[h];rfl
 have A5:=Wz;have oJ:Gx.toArray.toList.all ft=true:=wO I Ui I;have hsz:Gx.toArray.size=266:=i_ jr I;refine enter (args:=[aQ #[av bw s.words.length cw,av br s.rules.length cr]]) (n:=86) Tryz.func5 I I I ?_;refine cB (bD (bL I I I λg1=>a8 I λg2=>?_));rw[tB];refine zL ?_
 repeat(first|refine GA ?_|refine gV (aP (i:=0) aL.ty I I I) ?_)
 refine aU (ja aJ.en I I) (λw hm=>iH _ hm.below) I I I ?_;intro _ _;refine zL ?_
 by_cases c0:pW s≠0
 ·rw[if_pos c0]at hM
  rw[nW _ _ hM c0]
  repeat(first|refine GC ?_|refine gV (dc (b:=aD) I I (decide_eq_true c0)) ?_|refine gV (bB I A5) ?_|refine GB ?_)
  refine aW (i:=1) (cs':=Gx.toArray) I I I hsz oJ hsz ?_;refine zL ?_
  try refine GA ?_
  exact dT (i:=1) I I I hsz I λw hm=>hm.meets (S:=wT (pW s)) CH trivial [] aln I
 rw[if_neg c0]at hM;have abZ:pW s=0:=tD c0;have xI:s.words.length<=60/\s.rules.length<=60:=by
  unfold pW at abZ
  by_cases c:60<s.words.length\/60<s.words.length+s.rules.length
  rw[if_pos c]at abZ;cases abZ;omega
 rw[abZ];clear iH abZ
 by_cases c1:s.words.length=0\/s.rules.length=0
 ·rw[if_pos c1]at hM
  rw[nW _ _ hM aln]
  by_cases c2:s.words.length=0
  ·repeat(first|refine GC ?_|refine gV (dc (b:=aF) I I (decide_eq_false (by simp))) ?_|refine gV (aC (v:=av bw s.words.length cw) aL.ty I (aI (i:=0) I I)) ?_|refine gV (cY (b:=aD) I I (decide_eq_true J)) ?_|refine gV (bB I A5) ?_|refine GB ?_)
   refine aW (i:=1) (cs':=Gx.toArray) I I I hsz oJ hsz ?_;refine zL ?_
   try refine GA ?_
   exact dT (i:=1) I I I hsz I λw hm=>hm.meets (S:=wT 1) CH trivial [] aln I
  repeat(first|refine GC ?_|refine gV (dc (b:=aF) I I (decide_eq_false (by simp))) ?_|refine gV (aC (v:=av bw s.words.length cw) aL.ty I (aI (i:=0) I I)) ?_|refine gV (aC (v:=av br s.rules.length cr) aL.ty I (aI (i:=0) I I)) ?_|refine gV (cY (b:=aF) I I (decide_eq_false J)) ?_|refine gV (cY (b:=aD) I I (decide_eq_true J)) ?_|refine gV (bB I A5) ?_|refine GB ?_)
  refine aW (i:=1) (cs':=Gx.toArray) I I I hsz oJ hsz ?_;refine zL ?_
  try refine GA ?_
  exact dT (i:=1) I I I hsz I λw hm=>hm.meets (S:=wT 1) CH trivial [] aln I
 rw[if_neg c1]at hM;have Pv:=λgp w' B ho hm=>Ot (av bw s.words.length cw) (av br s.rules.length cr) s r hx gp w hv0 xI.1 xI.2 H5 w' B ho hm
 repeat(first|refine GC ?_|refine gV (dc (b:=aF) I I (decide_eq_false (by simp))) ?_|refine gV (aC (v:=av bw s.words.length cw) aL.ty I (aI (i:=0) I I)) ?_|refine gV (aC (v:=av br s.rules.length cr) aL.ty I (aI (i:=0) I I)) ?_|refine gV (cY (b:=aF) I I (decide_eq_false J)) ?_|refine GB ?_)
 refine a8 I λg5=>?_;rw[tB];refine zL ?_
 repeat(first|refine GA ?_|refine gV (aP (i:=0) aL.ty I I I) ?_)
 by_cases c2:r.1≠0
 ·rw[if_pos c2]at hM
  rw[nW _ _ hM c2];have kr:∀gp,IZ gp s r=⟨λ_=>True,λ_=>az aB r.1,λ_=>[]⟩:=λgp=>if_neg c2;simp only[kr]at Pv;refine bz [2] [0,1] aln I I (fC aJ.en I I I) (λw' qu hb=>Pv g5 w' _ (mI.on (mI.self w) qu (λo ho=>by simp at ho;subst ho;simp)) hb) I I I ?_;intro _ _;refine zL ?_
  repeat(first|refine GC ?_|refine gV (dc (b:=aD) I I (decide_eq_true c2)) ?_|refine gV (bB I A5) ?_|refine GB ?_)
  refine aW (i:=1) (cs':=Gx.toArray) I I I hsz oJ hsz ?_;refine zL ?_
  try refine GA ?_
  exact dT (i:=1) I I I hsz I λw hm=>hm.meets (S:=wT r.1) CH trivial [] aln I
 rw[if_neg c2]at hM;have hr0:r.1=0:=tD c2;obtain⟨hG,aeB⟩:=AH hx hr0;have kr:∀gp,IZ gp s r=Oq gp s r.2.1 r.2.2:=λgp=>if_pos hr0;simp only[kr]at Pv;clear hx kr c2;obtain⟨e,R,T⟩:=r;dsimp only at*;subst hr0;generalize DC s 0=M at*;generalize NM:da s=g at*;refine bz [2] [0,1] aln I I (fC aJ.en I I I) (λw' qu hb=>Pv g5 w' _ (mI.on (mI.self w) qu (λo ho=>by simp at ho;subst ho;simp)) hb) I I I ?_;clear Pv;rintro⟨vo,vp,F,gP,vsP,vT⟩ ⟨k1,k2,k3⟩;dsimp only at k1 k2 k3;unfold Oq;rw[NM];refine zL ?_;have dE:(ey (wM R 256) (av (aj ⟨gP,0,ak⟩) R.length R.length) vT).length=258:=fh _ _ _;have GV:(ey (wM R 256) (av (aj ⟨gP,0,ak⟩) R.length R.length) vT).all ft=true:=by
  have:=y6 (wM R 256) (vn:=av (aj ⟨gP,0,ak⟩) R.length R.length) (vt:=vT) I k3
  simpa using this
 have hpx:∀x:He,x.gP=gP->x.vT=vT->ey (wM R 256) (av (aj ⟨gP,0,ak⟩) R.length R.length) vT=x.pk R:=λx h1 h2=>by unfold He.pk;rw[h1,h2]
 generalize hPK:ey (wM R 256) (av (aj ⟨gP,0,ak⟩) R.length R.length) vT=PK at*;obtain⟨a1,a2,a3,a4,a5,a6⟩:=cU hG;have ahc:∀w',(oz F vp g.aH).holds w'->kK (λk=>k<w'.heap.size) w' (dP g.aT g.bx vp) g:=λw' h=>y0 (gok ⟨a1,by omega⟩) (gok ⟨by omega,by omega⟩) h
 repeat(first|refine GC ?_|refine gV (dc (b:=aF) I I (decide_eq_false (by simp))) ?_|refine gV (aY (cs:=[az aB g.aT,az aB g.bx,vp]) aL.ty I I (λj v h=>aI (i:=2) I (tC dE h))) ?_|refine GB ?_)
 have hN:g.bx=(g.bx.toNat:Int):=by omega
 have hT:g.aT=(g.aT.toNat:Int):=by omega
 obtain⟨⟨-,hRl,hMl⟩,-⟩:=yD.aaq hG hN;have MA:=λw' h=>EL (dP g.aT g.bx vp) g w' h hG g.bx.toNat hN;have Pt:=λw' h=>Kw (dP g.aT g.bx vp) g w' h hG g.aT.toNat g.bx.toNat hT hN;have LD:=λw' h=>Kz (dP g.aT g.bx vp) g w' h;unfold RE Wk at LD;refine aU (ja aJ.en I I) (λw' hm=>(MA w' (ahc w' (hm.get (i:=4) I))).mono λe w2 h=>EM h) I I I ?_;intro x5 _
 conv=>arg 8;simp only[zJ,cD,ret,id_eq,EK.val]
 try refine GA ?_
 refine a8 I λg7=>?_;refine gG 13 ?_;refine zL ?_
 repeat(first|refine GA ?_|refine gV (aC aL.ty I (aI (i:=13) I I)) ?_)
 have ab0:BZ g=(xo g.bx.toNat g.aH).R:=rfl;have ab1:B1 g=(xo g.bx.toNat g.aH).M:=rfl;generalize (xo g.bx.toNat g.aH).R=Rc at*;generalize (xo g.bx.toNat g.aH).M=Mk at*;rw[ab0,ab1]at hM;clear ab0 ab1 MA;refine aU (fC aJ.en I I I) (λw' hm=>ql _ Rc aF w' (by have:=Sl.dx (hm.get (i:=11) I);rw[hRl];exact this)) I I I ?_;intro _ _;refine zL ?_
 cases FE:Rc.any (· ==aF)with
 |true=>
  rw[if_pos (.inl FE)]at hM;rw[nW _ _ hM aln]
  repeat(first|refine GA ?_|refine gV (bB I A5) ?_)
  refine aW (i:=1) (cs':=Gx.toArray) I I I hsz oJ hsz ?_;refine zL ?_
  try refine GA ?_
  exact dT (i:=1) I I I hsz I λw hm=>hm.meets (S:=wT 4) CH trivial [] aln I
 |false=>
 repeat(first|refine GA ?_|refine gV (aC aL.ty I (aI (i:=13) I I)) ?_)
 refine k7 (fC aJ.en I I I) (λw' hm=>ql _ Mk aF w' (by have:=Sl.dx (hm.get (i:=12) I);rw[hMl];exact this)) I I I I I ?_;intro _ _;refine zL ?_
 cases afq:Mk.any (· ==aF)with
 |true=>
  rw[if_pos (.inr afq)]at hM;rw[nW _ _ hM aln]
  repeat(first|refine GA ?_|refine gV (bB I A5) ?_)
  refine aW (i:=1) (cs':=Gx.toArray) I I I hsz oJ hsz ?_;refine zL ?_
  try refine GA ?_
  exact dT (i:=1) I I I hsz I λw hm=>hm.meets (S:=wT 4) CH trivial [] aln I
 |false=>
 rw[if_neg (by rw[FE,afq];decide)]at hM;have jU:zb g=mR g.aH (BK g.bx.toNat g.aH) g.aT.toNat g.bx.toNat:=rfl
 repeat(first|refine GA ?_|refine gV (aY (cs:=[az aB g.aT,az aB g.bx,vp]) aL.ty I I (λj v h=>aI (i:=2) I (tC dE h))) ?_)
 refine aU (ja aJ.en I I) (λw' hm=>Pt w' (ahc w' (hm.get (i:=4) I))) I I I ?_;rintro⟨gR,vsR,vcl⟩ _;unfold aa7;rw[<-jU];refine zL ?_
 by_cases c3:(zb g).length=0
 ·rw[if_pos c3]at hM
  rw[hLL hM]
  repeat(first|refine GC ?_|refine gV (e_ (i:=16) bQ.eq I I) ?_|refine gV (cY (b:=aD) I I (decide_eq_true J)) ?_|refine GB ?_)
  refine ef 3 (i:=2) I I I I I I dE I ?_;refine zL ?_
  try refine GA ?_
  refine ef 4 (i:=2) I I I I I I dE I ?_;refine zL ?_
  repeat(first|refine GA ?_|refine gV (aP (i:=2) aL.ty I I (i_ dE I)) ?_)
  refine aW (i:=1) (cs':=(gZ vo PK (eD g.aT g.bx vp 1 (av (aj ⟨gR,0,ak⟩) g.bx.toNat g.bx.toNat) (av ak 0 0) (av ak 0 0))).toArray) I I I (i_ dE I) (wO k1 GV (by simp only[eD,c_,db,k2];rfl)) hsz ?_;refine zL ?_
  try refine GA ?_
  subst hPK;subst NM;exact dT (i:=1) I I I (i_ dE I) I λw hm=>hm.meets (S:=aez s R T) ⟨vo,vp,F,gP,vsP,vT,gR,vsR,⟨av ak 0 0,[],λ_=>False,av ak 0 0,[],λ_=>False⟩⟩ ⟨k1,k2,k3⟩ [3,4,5,6,7,14,15] aln I
 rw[if_neg c3]at hM
 repeat(first|refine GC ?_|refine gV (e_ (i:=16) bQ.eq I I) ?_|refine gV (cY (b:=aF) I I (decide_eq_false J)) ?_|refine gV (aY (cs:=[az aB g.aT,az aB g.bx,vp]) aL.ty I I (λj v h=>aI (i:=2) I (tC dE h))) ?_|refine GB ?_)
 refine aU (ja aJ.en I I) (λw' hm=>LD w' (ahc w' (hm.get (i:=4) I))) I I I ?_;rintro⟨⟨vA,C0,FA,vG,C1,FG⟩,vfi⟩ _;have hO:jd g=jd g:=rfl;refine zL ?_;generalize hOT:jd g=O at*;obtain⟨A,G,fi,e⟩:=O;dsimp only at hM⊢;refine aX (i:=17) I λ_ b1=>aX (i:=19) I λ_ b2=>?_
 try refine GA ?_
 refine a8 I λg12=>?_;refine zL ?_;refine aW (i:=22) (cs':=#[vA,vG]) I I I I (by simp only[c_,db,b1,b2];rfl) I ?_;refine zL ?_
 by_cases c4:e≠0
 ·rw[if_pos c4]at hM
  rw[nW _ _ hM c4]
  repeat(first|refine GC ?_|refine gV (dc (b:=aD) I I (decide_eq_true c4)) ?_|refine gV (bB I A5) ?_|refine GB ?_)
  refine aW (i:=1) (cs':=Gx.toArray) I I I hsz oJ hsz ?_;refine zL ?_
  try refine GA ?_
  exact dT (i:=1) I I I hsz I λw hm=>hm.meets (S:=wT e) CH trivial [] aln I
 rw[if_neg c4]at hM
 repeat(first|refine GC ?_|refine gV (dc (b:=aF) I I (decide_eq_false c4)) ?_|refine GB ?_)
 by_cases c5:0<fi.length
 ·rw[if_pos c5]at hM
  rw[nW _ _ hM aln]
  repeat(first|refine GC ?_|refine gV (e_ (i:=21) bQ.eq I I) ?_|refine gV (dW (b:=aD) I I (decide_eq_true J)) ?_|refine gV (bB I A5) ?_|refine GB ?_)
  refine aW (i:=1) (cs':=Gx.toArray) I I I hsz oJ hsz ?_;refine zL ?_
  try refine GA ?_
  exact dT (i:=1) I I I hsz I λw hm=>hm.meets (S:=wT 12) CH trivial [] aln I
 rw[if_neg c5]at hM;rw[hLR hM]
 repeat(first|refine GC ?_|refine gV (e_ (i:=21) bQ.eq I I) ?_|refine gV (dW (b:=aF) I I (decide_eq_false J)) ?_|refine GB ?_)
 (repeat refine cB ?_)
 refine dH ([aR g12 #[vA,vG] 36]) (.calm 0 (.calm 1 (.one 2 (.calm 3 (.one 4 (.done)))))) (bV [22]) ?_
 repeat(first|refine GW ?_|(refine GN ?_;first|refine QW (aP (i:=0) aL.ty I I I) ?_))
 refine aM I (ef 3 (i:=2) I I I I I I dE I (aO (bV [22]) ?_));refine zL ?_
 try refine GW ?_
 refine aM I (RO (i:=2) I I I b1 b2 I dE (aO (bV [22]) ?_));refine zL ?_
 try refine GW ?_
 repeat(first|refine GA ?_|refine gV (aP (i:=2) aL.ty I I (i_ dE I)) ?_)
 refine aW (i:=1) (cs':=(gZ vo PK (eD g.aT g.bx vp 2 (av ak 0 0) vA vG)).toArray) I I I (i_ dE I) (wO k1 GV (by simp only[eD,c_,db,k2,b1,b2];rfl)) hsz ?_;refine zL ?_
 try refine GA ?_
 subst hPK;subst NM;refine dT (i:=1) I I I (i_ dE I) I λw hm=>hm.meets (S:=aeA s R T) ⟨vo,vp,F,gP,vsP,vT,gR,vsR,⟨vA,C0,FA,vG,C1,FG⟩⟩ ⟨⟨k1,k2,k3⟩,b1,b2⟩ [3,4,5,6,7,17,18,19,20] aln ?_;show _++Wk _ (jd (da s)).1 (jd (da s)).2.1=_
 rw[hOT];rfl
theorem Ov{s:Sp}{e m:Int}(h:DC s e=(0,m)):e=0/\(BZ (da s)).any (· ==aF)=aF/\(B1 (da s)).any (· ==aF)=aF/\(((zb (da s)).length=0/\m=1)\/((zb (da s)).length≠0/\(jd (da s)).2.2.2=0/\(jd (da s)).2.2.1.length=0/\m=2)):=by
 unfold DC at h
 by_cases c0:pW s≠0
 simp_all;rw[if_neg c0]at h
 by_cases c1:s.words.length=0\/s.rules.length=0
 simp_all;rw[if_neg c1]at h
 by_cases c2:e≠0
 simp_all;rw[if_neg c2]at h
 by_cases c3:(BZ (da s)).any (· ==aF)=aD\/(B1 (da s)).any (· ==aF)=aD
 simp_all;rw[if_neg c3]at h;refine⟨tD c2,?_,?_,?_⟩
 ·cases hb:(BZ (da s)).any (· ==aF)with
  |true=>exact absurd (.inl hb) c3
  |false=>rfl
 ·cases hb:(B1 (da s)).any (· ==aF)with
  |true=>exact absurd (.inr hb) c3
  |false=>rfl
 by_cases c4:(zb (da s)).length=0
 rw[if_pos c4]at h;exact .inl ⟨c4,(congrArg BQ h).symm⟩;rw[if_neg c4]at h
 by_cases c5:(jd (da s)).2.2.2≠0
 rw[if_pos c5]at h;exact absurd (congrArg RT h) c5;rw[if_neg c5]at h
 by_cases c6:0<(jd (da s)).2.2.1.length
 rw[if_pos c6]at h;cases h;rw[if_neg c6]at h;exact .inr ⟨c4,tD c5,by omega,(congrArg BQ h).symm⟩
theorem ab2{x:He}(h:x.vT.oneCell'=aD)(R:List Row):(x.pk R).all ft=true:=by
 have:=y6 (wM R 256) (vn:=sV x.gP R.length R.length) (vt:=x.vT) I h;rw[He.pk,<-this]
end bZ
namespace mX
open dh gu eg cz
open bZ (lI eL xy Kk)
variable{m:MS}{R:List Row}{d:DM}
theorem aeC(hm:J_ m)(hi:MkI m (gC m.empty 0) (d.S.length+1) R d)(k:Nat):d.tags.getD k 0<m.empty.length:=by
 have h:=hi.tags;unfold ru at h;rw[h];have h0:=hm.some
 cases k with
 | zero=>
  simp[IF]
 | succ k=>
  by_cases hk:k<d.S.length
  ·have e:(gC m.empty 0::d.S.map (mX.oW m.ps)).getD (k+1) 0=mX.oW m.ps d.S[k]:=by
    simp_all
   rw[e];unfold mX.oW;rcases KG hm.rules hm.ok.ps.rules d.S[k] m.ps.bm.length (bC _)with⟨h1,_⟩|⟨_,_,_,_,_,h1,h2,_⟩
   omega;omega
  simp_all
end mX
namespace bZ
open Go.RowKit cL dQ dh gu fY aV cz eg mX
theorem ab3{R:List Row}{tags:List Int}{n:Int}(h:∀k,tags.getD k 0<n):∀t∈yZ R tags,t<n:=λt ht=>by
 unfold yZ at ht;split at ht
 ·obtain⟨k,-,rfl⟩:=fG.1 ht
  exact h k
 grind
theorem ab4{s:Sp}{r:Int×List Row×List Int}(h:Uy s r)(h0:r.1=0):0<s.words.length/\s.words.length<=20/\∀t∈r.2.2,t<(s.words.length:Int):=by
 rcases h with⟨k,hk,-,rfl⟩|⟨es,m,h1,-,h3,h4,h5,-,⟨h,rfl⟩|⟨-,h,rfl⟩|⟨h,hd,hc,rfl⟩⟩
 omega;exact absurd h0 h;exact absurd h0 h;have hlen:s.words.length=es.length:=by
  have:=congrArg yU h1
  grind[qk]
 obtain⟨-,h7,-,-⟩:=J' es 0 .zero m J1 rfl (λr hr=>by cases hr) (bH _) h5;refine⟨by omega,by omega,?_⟩
 cases hm:wx m with
 |none=>simp_all[Rr]
 |some y=>
  obtain⟨R,d⟩:=y;rw[yW hm];refine ab3 λk=>?_;have:=aeC (Dp h3 h4 h5) (BP hm) k;show d.tags.getD k 0<_
  omega
end bZ
namespace fY
open dh gu
theorem afr(l:List Wd):∀k,k<=l.length->0<=((l.take k).foldl jI ws0).2.1/\∀x∈((l.take k).foldl jI ws0).1,-1<=x/\x<((l.take k).foldl jI ws0).2.1
 |0,_=>⟨lm _,λx hx=>by cases hx⟩
 | k + 1,h=>by
  obtain⟨a1,a2⟩:=afr l k J;rw[step_take _ _ _ (show k<l.length by omega)];have key:∀(s:WS) (w:Wd),0<=s.2.1->(∀x∈s.1,-1<=x/\x<s.2.1)->0<=(jI s w).2.1/\∀x∈(jI s w).1,-1<=x/\x<(jI s w).2.1:=λs w b1 b2=>by
   unfold jI;split
   ·refine⟨b1,λx hx=>?_⟩
    rcases gj.1 hx with hx|hx
    exact b2 x hx;rw[eV.1 hx];exact⟨lm _,by show(-1:Int)<s.2.1;omega⟩
   refine⟨by show 0<=s.2.1+1;omega,λx hx=>?_⟩;show-1<=x/\x<s.2.1+1
   rcases gj.1 hx with hx|hx
   have:=b2 x hx;omega;rw[eV.1 hx];omega
  grind
end fY
namespace bZ
open Go.RowKit cL dQ dh gu fY aV cz
def zc(s:Sp)(R:List Row)(T:List Int):Md:=⟨(KI s.words).1,wM R 256,RM R,T,da s,1,T_ (da s) (da s).aT.toNat (da s).bx.toNat,[],[]⟩
def ahd(s:Sp)(R:List Row)(T:List Int):Md:=⟨(KI s.words).1,wM R 256,RM R,T,da s,2,[],(jd (da s)).1,(jd (da s)).2.1⟩
theorem ab5{l:List Wd}(h:l.length<=60):(KI l).1.length=l.length:=by
 have:=(abz l l.length (bC _) h).1;rw[mW]at this;exact this
section
variable{w:World}{B:bP}{L:List b9}{x:He}{s:Sp}{R:List Row}{T:List Int}{i0 i1 i2 i3 i4 i5 i6 i7 i8:Nat}
theorem afs(hl:s.words.length<=60)(h:(a_ 3 1 x.vo s.words.length ((KI s.words).1.map (az .i64))).holds w):Sl w x.vo (KI s.words).1.length ((KI s.words).1.flatMap cL.eJ):=by
 rw[ab5 hl];have:=Sl.dx h
 simp_all[Mt]
theorem ab6(hg:cC (da s)=0)(h:(oz x.F x.vp (da s).aH).holds w):kK (λk=>k<w.heap.size) w (dP (da s).aT (da s).bx x.vp) (da s):=by
 obtain⟨a1,a2,a3,a4,a5,a6⟩:=cU hg;exact y0 (gok ⟨a1,by omega⟩) (gok ⟨by omega,by omega⟩) h
theorem ahe(hm:Mem B L w)(hl:s.words.length<=60)(hc:lI R T=0)(hg:cC (da s)=0)
 (h0:L[i0]?=aj (a_ 3 1 x.vo s.words.length ((KI s.words).1.map (az .i64)))) (h1:L[i1]?=aj (oz x.F x.vp (da s).aH)) (h2:L[i2]?=aj (fE 26 y9 x.gP R.length x.vsP)) (h3:L[i3]?=aj (WB R.length (nM R 256) x.vsP)) (h4:L[i4]?=aj (a_ 3 1 x.vT T.length (T.flatMap cL.eJ)))
 (h5:L[i5]?=aj (fE 26 wE x.gR (da s).bx.toNat x.vsR)) (h6:L[i6]?=aj (jK (λj=>j<(da s).bx.toNat) (np (da s).aH (BK (da s).bx.toNat (da s).aH) (da s).aT.toNat x.vsR (da s).bx.toNat 0))):
 xS w (.agg (x.cLL (da s) R)) (zc s R T) x.vo (av (aj ⟨x.gP,0,ak⟩) R.length R.length) x.vT x.vp (av (aj ⟨x.gR,0,ak⟩) (da s).bx.toNat (da s).bx.toNat) (av ak 0 0) (av ak 0 0) where
 val:=rfl
 of:=afs hl (hm.get h0)
 pk:=hm.pkI h2 h3 h4 hc
 xz:=ab6 hg (hm.get h1)
 rows:=by
  obtain⟨a1,a2,a3,a4,a5,a6⟩:=cU hg;exact aa_ a5 J (hm.get h5) (hm.get h6)
 ox:=⟨_,_,rfl,kw.nil,kw.nil⟩
theorem ahf(hm:Mem B L w)(hl:s.words.length<=60)(hc:lI R T=0)(hg:cC (da s)=0)
 (h0:L[i0]?=aj (a_ 3 1 x.vo s.words.length ((KI s.words).1.map (az .i64)))) (h1:L[i1]?=aj (oz x.F x.vp (da s).aH)) (h2:L[i2]?=aj (fE 26 y9 x.gP R.length x.vsP)) (h3:L[i3]?=aj (WB R.length (nM R 256) x.vsP)) (h4:L[i4]?=aj (a_ 3 1 x.vT T.length (T.flatMap cL.eJ)))
 (h5:L[i5]?=aj (a_ 160 1 x.tx.vA (jd (da s)).1.length x.tx.C0)) (h6:L[i6]?=aj (eo Am x.tx.FA (x.tx.C0.map λv=>[v]) (jd (da s)).1)) (h7:L[i7]?=aj (a_ 26 1 x.tx.vG (jd (da s)).2.1.length x.tx.C1)) (h8:L[i8]?=aj (eo (bR fP) x.tx.FG (x.tx.C1.map λv=>[v]) (jd (da s)).2.1)):
 xS w (.agg (x.cLR (da s) R)) (ahd s R T) x.vo (av (aj ⟨x.gP,0,ak⟩) R.length R.length) x.vT x.vp (av ak 0 0) x.tx.vA x.tx.vG where
 val:=rfl
 of:=afs hl (hm.get h0)
 pk:=hm.pkI h2 h3 h4 hc
 xz:=ab6 hg (hm.get h1)
 rows:=kw.nil
 ox:=ad4 (hm.get h5) (hm.get h6) (hm.get h7) (hm.get h8)
end
theorem K5{s:Sp}{r:Int×List Row×List Int}(h:Uy s r)(h0:r.1=0):s.words.length<=20/\cC (da s)=0/\lI r.2.1 r.2.2=0/\0<(KI s.words).1.length/\(KI s.words).1.length<=20/\(∀t∈(KI s.words).1,-1<=t/\t<(da s).aT)/\∀t∈r.2.2,t<((KI s.words).1.length:Int):=by
 obtain⟨a1,a2⟩:=AH h h0;obtain⟨b1,b2,b3⟩:=ab4 h h0;have e:=ab5 (l:=s.words) J;have c:=(afr s.words s.words.length (bC _)).2;rw[mW]at c;exact⟨b2,a1,a2,by omega,by omega,c,by simp_all⟩
theorem aeD{s:Sp}{r:Int×List Row×List Int}(h:Uy s r)(h0:r.1=0):MdGood (zc s r.2.1 r.2.2):=by
 obtain⟨a1,a2,a3,a4,a5,a6,a7⟩:=K5 h h0;obtain⟨b1,b2,b3,b4,b5,b6⟩:=cU a2;exact⟨Un _,RX (KQ a3),a2,a4,a5,a6,a7,.inl ⟨rfl,NS (g:=da s) (T:=(da s).aT.toNat) (N:=(da s).bx.toNat) a2 J J⟩⟩
theorem aeE{s:Sp}{r:Int×List Row×List Int}(h:Uy s r)(h0:r.1=0)(hT:(jd (da s)).2.2.2=0):MdGood (ahd s r.2.1 r.2.2):=by
 obtain⟨a1,a2,a3,a4,a5,a6,a7⟩:=K5 h h0;obtain⟨T,N,Nx,S,hM⟩:=Iz hT;refine⟨Un _,RX (KQ a3),a2,a4,a5,a6,a7,.inr ⟨rfl,T,N,?_⟩⟩;show sb (da s) T N (jd (da s)).1 (jd (da s)).2.1
 rw[hM.dN,hM.gos];exact hM.ox
end bZ
namespace bZ
open Go.RowKit cL dQ
def AJ(Ls:List b9):b9 where
 CM:=ak
 more:=λk=>∃o∈Ls,o.fy k
 holds:=λw=>eP (λ_=>True) w Ls
 lt:=λw h k hk=>by
  rcases hk with hk|⟨o,ho,hk⟩
  cases hk
  obtain⟨i,hi⟩:=uA ho;exact o.lt w (h.all i o hi).1 k hk
 stay:=λw w' h hs hk=>⟨λi o hi=>⟨o.stay w w' (h.all i o hi).1 hs λk hf=>hk k (.inr ⟨o,mL hi,hf⟩),λ_ _=>trivial⟩,h.apart⟩
theorem Ow{Ls:List b9}{k:Nat}(h:(AJ Ls).fy k):∃o∈Ls,o.fy k:=by
 rcases h with h|h
 cases h
 exact h
theorem K6{Ls:List b9}{w:World}(h:(AJ Ls).holds w):Mem (bP.on w Ls) Ls w:=
 ⟨⟨rfl,rfl,rfl,bC _,λ_ _ _=>rfl⟩,⟨λi o hi=>⟨(h.all i o hi).1,λk hk=> .inr ⟨o,mL hi,hk⟩⟩,h.apart⟩⟩
theorem eP.bun{p:Nat->Prop}{w:World}{Ls:List b9}(h:eP p w Ls):eP p w [AJ Ls]:=
 eP.one ⟨λi o hi=>⟨(h.all i o hi).1,λ_ _=>trivial⟩,h.apart⟩ λk hk=>by
  obtain⟨o,ho,hk⟩:=Ow hk;obtain⟨i,hi⟩:=uA ho;exact(h.all i o hi).2 k hk
theorem eP.Sf{p:Nat->Prop}{w:World}{Ls R:List b9}(h:eP p w (R++Ls)):eP p w (R++[AJ Ls]):=by
 have hR:eP p w R:=⟨λi o hi=>h.all i o (by grind),λi j o o' tL hi hj=>h.apart i j o o' tL (by grind) (by grind)⟩;have hL:∀(j:Nat) (o:b9),Ls[j]?=aj o->(R++Ls)[R.length+j]?=aj o:=λj o hj=>by grind
 have hS:eP p w Ls:=⟨λi o hi=>h.all _ o (hL i o hi),λi j o o' tL hi hj=>h.apart _ _ o o' J (hL i o hi) (hL j o' hj)⟩;refine hR.both hS.bun λi j o o' hi hj k hk o8=>?_
 match j,hj with
 |0,hj=>
  simp only[pj,dL]at hj;subst hj;obtain⟨q,hq,hqk⟩:=Ow o8;obtain⟨j,hj⟩:=uA hq;exact h.apart i (R.length+j) o q (by grind) (by grind) (hL j q hj) k hk hqk
 |j+1,hj=>grind
theorem Mem.Sf{W:bP}{L R Ls:List b9}{w:World}(h:Mem W L w)(is js:List Nat)(hn:(js++is).Nodup)(hl:Ls=is.filterMap λi=>L[i]?)(hr:R=js.filterMap λi=>L[i]?):Mem W (R++[AJ Ls]) w:=
 ⟨h.low,eP.Sf (h.owns.pick (js++is) hn (by simp_all))⟩
open dh gu fY aV cz gX
structure MkX where
 vo:Value
 vn:Value
 vt:Value
 vp:Value
 vr:Value
 va:Value
 vg:Value
 Ls:List b9
def MkX.cells(x:MkX)(m:Md):List Value:=gZ x.vo (ey m.o x.vn x.vt) (eD m.g.aT m.g.bx x.vp m.mode x.vr x.va x.vg)
structure ahg(m:Md)(x:MkX):Prop where
 mdr:∀w,(AJ x.Ls).holds w->xS w (aQ (x.cells m).toArray) m x.vo x.vn x.vt x.vp x.vr x.va x.vg
 one:(x.cells m).toArray.toList.all ft=aD
def Sg(m:Md):Spec MkX:=⟨ahg m,λx=> .tuple #[aQ (x.cells m).toArray,az aB 0],λx=>[AJ x.Ls]⟩
def ajl(e:Int):Spec Unit:=⟨λ_=>True,λ_=> .tuple #[aQ Gx.toArray,az aB e],λ_=>[]⟩
def qn(s:Sp)(r:Int×List Row×List Int):Md:=if(DC s r.1).2=1 then zc s r.2.1 r.2.2 else ahd s r.2.1 r.2.2
theorem sm(x:MkX)(m:Md):(x.cells m).toArray.size=266:=i_ (fh _ _ _) I
theorem bX.to{ι κ:Type}{S:Spec ι}(S':Spec κ){w:World}{e:Ending}{w':World}(hm:bX S w e w')(h:∀x,S.ok x->∃y,S'.ok y/\S.val x=S'.val y/\∀w',ny w.heap.size w' (S.own x)->ny w.heap.size w' (S'.own y)):bX S' w e w':=by
 obtain⟨x,h1,h2,h3,h4⟩:=hm;obtain⟨y,k1,k2,k3⟩:=h x h1;exact⟨y,k1,by rw[h2,k2],h3,k3 w' h4⟩
theorem WU{v:Value}{s:Sp}{r:Int×List Row×List Int}(hx:Uy s r){w:World}(hv:TO (qo w) w v s)(hb:∀r∈s.rules,r.2.length<=8796093021952)(h:(DC s r.1).1≠0):
  Calls aE 5 #[v] w (bX (ajl (DC s r.1).1) w):=
 (AI v s r hx w hv hb).mono λe w' hm=>by
  have hS:qm s r=wT (DC s r.1).1:=by unfold qm;rw[if_pos h]
  rw[hS]at hm;exact hm.to _ λx _=>⟨(),trivial,rfl,λw' h=>h⟩
theorem Ox{v:Value}{s:Sp}{r:Int×List Row×List Int}(hx:Uy s r){w:World}(hv:TO (qo w) w v s)(hb:∀r∈s.rules,r.2.length<=8796093021952)(h:(DC s r.1).1=0):
  Calls aE 5 #[v] w (bX (Sg (qn s r)) w):=
 (AI v s r hx w hv hb).mono λe w' hm=>by
  obtain⟨h1,-,-,h4⟩:=Ov (s:=s) (e:=r.1) (m:=(DC s r.1).2) (by rw[<-h]);obtain⟨hG,aeB⟩:=AH hx h1;obtain⟨alk,-⟩:=K5 hx h1;have hS:qm s r=if(DC s r.1).2=1 then aez s r.2.1 r.2.2 else aeA s r.2.1 r.2.2:=by unfold qm;rw[if_neg (by rw[h];simp)]
  unfold qn;rcases h4 with⟨_,oY⟩|⟨_,_,_,oY⟩
  ·rw[oY,if_pos I]at hS⊢
   rw[hS]at hm;refine hm.to (Sg _) λx kV=>⟨⟨x.vo,av (aj ⟨x.gP,0,ak⟩) r.2.1.length r.2.1.length,x.vT,x.vp,av (aj ⟨x.gR,0,ak⟩) (da s).bx.toNat (da s).bx.toNat,av ak 0 0,av ak 0 0,x.lex s r.2.1 r.2.2++x.rows (da s)⟩,⟨λw' hb=>ahe (x:=x) (i0:=0) (i1:=1) (i2:=2) (i3:=3) (i4:=4) (i5:=5) (i6:=6) (K6 hb) J aeB hG I I I I I I I,?_⟩,rfl,λw' h=>h.bun⟩;obtain⟨k1,k2,k3⟩:=kV;exact wO k1 (ab2 (x:=x) k3 r.2.1) (by simp only[eD,c_,db,k2];rfl)
  rw[oY,if_neg aln]at hS⊢;rw[hS]at hm;refine hm.to (Sg _) λx kV=>⟨⟨x.vo,av (aj ⟨x.gP,0,ak⟩) r.2.1.length r.2.1.length,x.vT,x.vp,av ak 0 0,x.tx.vA,x.tx.vG,x.lex s r.2.1 r.2.2++Wk x.tx (jd (da s)).1 (jd (da s)).2.1⟩,⟨λw' hb=>ahf (x:=x) (i0:=0) (i1:=1) (i2:=2) (i3:=3) (i4:=4) (i5:=5) (i6:=6) (i7:=7) (i8:=8) (K6 hb) J aeB hG I I I I I I I I I,?_⟩,rfl,λw' h=>h.bun⟩;obtain⟨⟨k1,k2,k3⟩,b1,b2⟩:=kV;exact wO k1 (ab2 (x:=x) k3 r.2.1) (by simp only[eD,c_,db,k2,b1,b2];rfl)
theorem Ga{s:Sp}{r:Int×List Row×List Int}(hx:Uy s r)(h:(DC s r.1).1=0):∃b T N,fS (qn s r) b T N:=by
 obtain⟨h1,-,-,h4⟩:=Ov (s:=s) (e:=r.1) (m:=(DC s r.1).2) (by rw[<-h]);obtain⟨hG,aeB⟩:=AH hx h1;obtain⟨b1,b2,b3,b4,b5,b6⟩:=cU hG;unfold qn;rcases h4 with⟨_,oY⟩|⟨_,h5,_,oY⟩
 ·rw[oY,if_pos I]
  exact⟨aD,(da s).aT.toNat,(da s).bx.toNat,aeD hx h1,rfl,by show(da s).aT=_;omega,by show(da s).bx=_;omega,λ_=>⟨NS (g:=da s) hG J J,agT (g:=da s) J J⟩,(λh=>by cases h)⟩
 rw[oY,if_neg aln];obtain⟨T,N,Nx,S,hM⟩:=Iz h5;have hL:sb (da s) T N (jd (da s)).1 (jd (da s)).2.1:=by rw[hM.dN,hM.gos];exact hM.ox
 exact⟨aF,T,N,aeE hx h1 h5,rfl,hL.aT,hL.bx,(λh=>by cases h),λ_=>hL⟩
open dO eX bI ib f_
open ia (Ev qM takeN G0 Kh oF yS Iq)
theorem ny.aeF{B:Nat}{w:World}(e e':TypeId)(c c':Nat)(h:ny B w []):ny B w [a_ e c (av ak 0 0) 0 [],a_ e' c' (av ak 0 0) 0 []]:=by
 refine⟨λi o hi=>?_,λi j o o' tL hi hj k hk=>?_⟩
 ·match i,hi with
  |0,hi=>cases hi;exact⟨⟨by simp,.inl ⟨rfl,rfl⟩⟩,λk hk=>hk.elim (λh=>by cases h) oc⟩
  |1,hi=>cases hi;exact⟨⟨by simp,.inl ⟨rfl,rfl⟩⟩,λk hk=>hk.elim (λh=>by cases h) oc⟩
  |i+2,hi=>cases hi
 match i,hi with
 |0,hi=>cases hi;exact absurd hk λhk=>hk.elim (λh=>by cases h) oc
 |1,hi=>cases hi;exact absurd hk λhk=>hk.elim (λh=>by cases h) oc
 |i+2,hi=>cases hi
theorem I0{l:List aV.Prod}{nx:Int->Int}{st:List TD}{seen:Nat}{t:Int}(h:(jq l nx st seen t).1≠0):(jq l nx st seen t).2=([],[]):=by
 rcases yP (l:=l) (nx:=nx) (st:=st) (seen:=seen) (t:=t) rfl with⟨h1,h2⟩|⟨x,r,o,a1,h1,h2,h3,h4,h5,h6⟩
 exact h2;exact absurd (congrArg RT h6) h
theorem ab7{l:List aV.Prod}{nx:Int->Int}{st:List TD}(h:(iw l nx st).1≠0):(iw l nx st).2=[]:=by
 rcases Ij (l:=l) (nx:=nx) (st:=st) rfl with⟨h1,h2⟩|⟨a1,h1,h2⟩
 exact h2;exact absurd h2 h
theorem xh{l:List aV.Prod}{act:Nat->Nat->bI.Act}{gt:Nat->Int->Int}{col a:Nat}:∀(f:Nat) (σ:List Nat) (o:List dw),(fJ l act gt col a f σ o).1≠0->(fJ l act gt col a f σ o).2=([],[])
 |0,σ,o,_=>by unfold fJ;rfl
 | f + 1,σ,o,h=>by
  unfold fJ at h⊢;split at h
  ·rename_i c;rw[if_pos c]
  rename_i c;rw[if_neg c]
  split at h;exact absurd I h
  rename_i c2;rw[if_neg c2]
  split at h
  ·rename_i c3;rw[if_pos c3]
   split at h
   ·rename_i c4;rw[if_pos c4]
   exact absurd I h
  rename_i c3;rw[if_neg c3]
  split at h
  ·rename_i c4;rw[if_pos c4]
   cases hr:C2 l gt σ (act (σ.headD 0) col).2 with
   |none=>rfl
   | some σ'=>
    rw[hr]at h;dsimp only at h⊢;split at h
    ·rename_i c5;rw[if_pos c5]
    rename_i c5;rw[if_neg c5];exact xh f _ _ h
  rename_i c4;rw[if_neg c4]
def tkA(b:Bool)(seen:Nat)(e:Int)(p:PS)(o:List dw):Spec (Value×Value):=
 ⟨λ_=>True,λx=> .tuple #[tQ x.1 ((if e=0 then seen+1 else seen:Nat):Int) e aF,x.2,az aB e],λx=>[kB b x.1 p,jJ x.2 o]⟩
def enA(seen:Int)(e:Int)(o:List dw):Spec Value:=
 ⟨λ_=>True,λx=> .tuple #[tQ (av ak 0 0) seen e (decide (e=0)),x,az aB e],λx=>[jJ x o]⟩
theorem Sh(v vr vt:Value)(g:ep)(ll:List (List Int))(T N:Nat)(p:PS)(seen t:Nat)(w:World)(h:kK (λk=>k<w.heap.size) w v g)(hr:Al w vr ll)(ht:TdR w vt p.1)(h0:Fy g ll=0)(hg:aV.cC g=0)(hT:FF g ll T N)(hs:∀d∈p.1,rj g d)(hl:p.1.length<=60)(h1:seen<=1000000)(h2:t<T):
 Calls aE 97 #[v,vr,tQ vt (seen:Int) 0 aF,az aB (t:Int)] w (bX (tkA aD seen (jq g.aH (ig ll t) p.1 seen (t:Int)).1 ((jq g.aH (ig ll t) p.1 seen (t:Int)).2.1,p.2) (jq g.aH (ig ll t) p.1 seen (t:Int)).2.2) w):=by
 have hc:=tR v vr vt g ll T N p.1 seen t w h hr ht h0 hg hT hs hl h1 h2;have hb:=I0 (l:=g.aH) (nx:=ig ll t) (st:=p.1) (seen:=seen) (t:=(t:Int));generalize jq g.aH (ig ll t) p.1 seen (t:Int)=R at*;obtain⟨e,st,o⟩:=R;dsimp only at hb⊢
 by_cases c:e=0
 ·subst c;rw[NT]at hc;exact hc
 ·rw[ID _ c]at hc
  have hb:=hb c;simp only[jX]at hb;obtain⟨rfl,rfl⟩:=hb;exact hc.mono λe' w' hm=>hm.to (tkA aD seen e ([],p.2) []) λx _=>⟨(av ak 0 0,av ak 0 0),trivial,by simp only[tkA,if_neg c],λw' ho=>ny.aeF _ _ _ _ ho⟩
theorem WV(v vr vt:Value)(g:ep)(ll:List (List Int))(T N:Nat)(st:List TD)(seen:Nat)(w:World)(h:kK (λk=>k<w.heap.size) w v g)(hr:Al w vr ll)(ht:TdR w vt st)(h0:Fy g ll=0)(hg:aV.cC g=0)(hT:FF g ll T N)(hs:∀d∈st,rj g d)(hl:st.length<=60)(h1:seen<=1000000):
 Calls aE 103 #[v,vr,tQ vt (seen:Int) 0 aF] w (bX (enA (seen:Int) (iw g.aH (ig ll T) st).1 (iw g.aH (ig ll T) st).2) w):=by
 have hc:=wK v vr vt g ll T N st seen w h hr ht h0 hg hT hs hl h1;have hb:=ab7 (l:=g.aH) (nx:=ig ll T) (st:=st);generalize iw g.aH (ig ll T) st=R at*;obtain⟨e,o⟩:=R;dsimp only at hb⊢
 by_cases c:e=0
 ·subst c;rw[Ua]at hc;exact hc
 ·rw[NU _ c]at hc
  obtain rfl:=hb c;exact hc.mono λe' w' hm=>hm.to (enA (seen:Int) e []) λx _=>⟨av ak 0 0,trivial,by simp only[enA,decide_eq_false c],λw' ho=>(ny.aeF 54 54 2 2 ho).pick [0] (by simp) I⟩
theorem aeG(v t vs:Value)(g:ep)(T N:Nat)(A:List (List bI.Act))(G:List (List Int))(p:PS)(seen col:Nat)(w:World)(hG:kK (λk=>k<w.heap.size) w v g)(ht:BM w t A G)(hs:skR w vs p.2)(hT:sb g T N A G)(hq:∀q∈p.2,q<A.length)(hne:p.2≠[])(hl:p.2.length<=60)(hc:col<T)(hsn:seen<=1000000):
 Calls aE 98 #[v,t,uj vs (seen:Int) 0 aF,az aB (col:Int)] w (bX (tkA aF seen (fJ g.aH (ii A) (eQ G) col seen 2001 p.2 []).1 (p.1,(fJ g.aH (ii A) (eQ G) col seen 2001 p.2 []).2.1) (fJ g.aH (ii A) (eQ G) col seen 2001 p.2 []).2.2) w):=by
 have hc:=Ap v t vs g T N A G p.2 seen col w hG ht hs hT hq hne hl hc hsn;have hb:=xh (l:=g.aH) (act:=ii A) (gt:=eQ G) (col:=col) (a:=seen) 2001 p.2 [];generalize fJ g.aH (ii A) (eQ G) col seen 2001 p.2 []=R at*;obtain⟨e,st,o⟩:=R;dsimp only at hb⊢
 by_cases c:e=0
 ·subst c;rw[BN]at hc;exact hc
 ·rw[BO c]at hc
  have hb:=hb c;simp only[jX]at hb;obtain⟨rfl,rfl⟩:=hb;exact hc.mono λe' w' hm=>hm.to (tkA aF seen e (p.1,[]) []) λx _=>⟨(av ak 0 0,av ak 0 0),trivial,by simp only[tkA,if_neg c];rfl,λw' ho=>ny.aeF _ _ _ _ ho⟩
theorem ahh(v t vs:Value)(g:ep)(T N:Nat)(A:List (List bI.Act))(G:List (List Int))(su:List Nat)(seen:Nat)(w:World)(hG:kK (λk=>k<w.heap.size) w v g)(ht:BM w t A G)(hs:skR w vs su)(hT:sb g T N A G)(hq:∀q∈su,q<A.length)(hne:su≠[])(hl:su.length<=60)(hsn:seen<=1000000):
 Calls aE 104 #[v,t,uj vs (seen:Int) 0 aF] w (bX (enA (seen:Int) (fJ g.aH (ii A) (eQ G) T seen 2001 su []).1 (fJ g.aH (ii A) (eQ G) T seen 2001 su []).2.2) w):=by
 have hc:=CC v t vs g T N A G su seen w hG ht hs hT hq hne hl hsn;have hb:=xh (l:=g.aH) (act:=ii A) (gt:=eQ G) (col:=T) (a:=seen) 2001 su [];generalize fJ g.aH (ii A) (eQ G) T seen 2001 su []=R at*;obtain⟨e,st,o⟩:=R;dsimp only at hb⊢
 by_cases c:e=0
 ·subst c;rw[FO]at hc;exact hc
 ·rw[FP c]at hc
  have hb:=hb c;simp only[jX]at hb;obtain⟨rfl,rfl⟩:=hb;exact hc.mono λe' w' hm=>hm.to (enA (seen:Int) e []) λx _=>⟨av ak 0 0,trivial,by simp only[enA,decide_eq_false c];rfl,λw' ho=>(ny.aeF 54 54 2 2 ho).pick [0] (by simp) I⟩
end bZ
end Go.Proofs.YthmakbpkkoeabaaGreat

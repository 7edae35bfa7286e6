/- Part 4 of what SessionCreditUpto needs: WrG, Opens, CfgL, SpecL, SpecS, SpecI, SpecJ, CfgP, SmX, SmY, SmPL, SpecN, CfgQ, CfgR, SpecP, SmA, SmPk, SpecQ, SpecC, CountC, CountD, LlM, LrA, LrK, BeginL, SpecU, LlC, LrC, SmUp, SmCk, SpecRt, SpecH, ClimbA, TdS, ClimbB. -/
import Derived.Test.YtaobbfedlnddcaaGreatMgC
import Derived.Lib.IndexMore
namespace Go.Proofs.YtaobbfedlnddcaaGreat
set_option linter.unusedVariables false
set_option linter.unusedSimpArgs false
open _root_.And renaming intro->cC
open _root_.Array renaming ext'->rF,toList->YB
open _root_.Bool renaming false->aE,true->aD,and_eq_true->eV,false_eq_true->nV,or_eq_true->lK,true_and->uP,false_and->Jj
open _root_.Decidable renaming of_not_not->sv
open _root_.False renaming elim->nK
open _root_.Go.Instr renaming build->df
open _root_.Go.IntKind renaming i64->az,wrap_u8->IS,u8->IT
open _root_.Go.Proofs.Tryz renaming prog->aB
open _root_.Go.Value renaming slice->ap,int->av,pointer->aJ,agg->aQ,oneCell'->eQ,cells->sw
open _root_.Go.Value.agg renaming injEq->lL
open _root_.Go.Value.slice renaming injEq->iT
open _root_.Go.World renaming block_lt_of_cell?->nL,ownsRow_nil->Pz
open _root_.Int renaming toNat_natCast->dB,eq_ofNat_of_zero_le->hY,le_refl->k8,toNat_of_nonneg->tV
open _root_.List renaming getElem?_eq_getElem->bD,getD_eq_getElem?_getD->cH,length_append->bK,getElem?_eq_some_iff->dl,getElem_mem->cD,length_cons->c_,replicate->cZ,all_cons->cY,drop_eq_getElem_cons->eI,all_nil->da,mem_singleton->dQ,size_toArray->dU,length_map->dI,take_succ_eq_append_getElem->iq,mem_cons->dx,getElem?_append_left->gJ,map_append->eO,append_nil->eG,getElem?_map->eX,take_of_length_le->gK,append_assoc->eY,nil_append->eJ,flatMap_append->gO,getElem?_toArray->jf,mem_append->fj,not_mem_nil->fl,range->dV,drop_of_length_le->jg,mem_map->fa,mem_iff_getElem->g_,length_drop->iX,map_cons->gd,getElem?_append_right->mP,getElem?_eq_none->ku,length_take->iU,length_singleton->lO,take_length->my,drop_zero->nh,ext_getElem?->mR,take_zero->nM,getElem?_concat_length->zR,length_range->um,drop_length->AI,take_succ_cons->wX,all_eq_true->qj,take_append_drop->zT,drop_succ_cons->Jk,map_set->oM,map_singleton->Jl,map_replicate->Jm,range_succ->xO,flatten_append->AJ,map_nil->qk,getElem?_cons_succ->CO,set_append->AK,flatMap_def->PA,length_tail->PB,flatten_cons->CP,map_eq_flatMap->YC,take->YD,drop->YE
open _root_.List.cons renaming injEq->fO
open _root_.Nat renaming le_refl->bm,zero_le->bH,zero_add->cV,blt->dj,lt_of_lt_of_le->jv,le_trans->fv,not_lt_zero->lT,lt_succ_self->mz,succ_mul->kU,mul_one->kw,sub_self->nT,mul_le_mul->Et,lt_irrefl->Eu,blt_eq->DT
open _root_.Option renaming some->aj,none->ak
open _root_.Option.some renaming injEq->dr
open _root_.Prod renaming fst->PC,snd->Ew
open _root_.True renaming intro->cI
open _root_.UInt8 renaming ofNat->fx
open _root_.Vector renaming replicate->eb,getElem_ofFn->ke,getElem_toList->nU,ext->kf,getElem_set->uo,toList_replicate->PD,ofFn->xQ,toList_set->YF
set_option maxHeartbeats 16000000
namespace bZ
open Go.RowKit cU dM
def WrI(p:Nat->Nat->Prop)(v:Value):Prop:=v=ap ak 0 0\/∃g n cap,v=ap (aj ⟨g,0,ak⟩) n cap/\n<=cap/\cap<=9223372036854775807/\p g cap
theorem WrI.imp{p q:Nat->Nat->Prop}{v:Value}(h:WrI p v)(hpq:∀g cap,p g cap->q g cap):WrI q v:=
 h.elim .inl λ⟨g,n,cap,h1,h2,h3,h4⟩=> .inr ⟨g,n,cap,h1,h2,h3,hpq _ _ h4⟩
section
variable(e:TypeId)(sz:Nat)
def wrP(F:Nat->Prop)(w:World)(g cap:Nat):Prop:=F g/\∃cs:Array Value,w.heap[g]?=aj (.cells cs e (0,0))/\cs.size=cap*sz
variable{e sz}in
theorem wrP.stay{F:Nat->Prop}{w w':World}{g cap:Nat}(h:wrP e sz F w g cap)(hk:w'.heap[g]?=w.heap[g]?):wrP e sz F w' g cap:=
 let ⟨h1,cs,h2,h3⟩:=h;⟨h1,cs,by rw[hk];exact h2,h3⟩
end
section
variable{e:TypeId}{sz:Nat}
theorem aek{v:Value}{n:Nat}{xs:List Value}{w:World}(hr:(a_ e sz v n xs).holds w):WrI (wrP e sz (λk=>v.ownBlock=aj k) w) v:=by
 have h1:w.ownsRow 0 e sz v n xs:=hr;rcases h1.2 with⟨hv,h0⟩|⟨g,cap,cs,hv,hb,hg,Nl,Ks,hcs,qD⟩
 exact .inl hv;exact .inr ⟨g,_,cap,hv,Nl,by unfold maxLen at Ks;omega,by rw[hv];rfl,cs,hg,hcs⟩
end
end bZ
namespace xE
open aT dL fG dG
def L7(o:dv->Nat->Nat->Nat)(x:dv)(od:Nat)(A:Nat->Bool):Nat->Nat->Bool
 |0,_=>aE
 |k+1,b=>L7 o x od A k b||(A (od+k)&&decide (od+k<=b)&&decide (0<o x (od+k) b))
def YG(p:Nat->Bool)(od:Nat):Nat->Bool
 |0=>aE
 |k+1=>YG p od k||p (od+k)
def abE(o:dv->Nat->Nat->Nat)(O:Nat->Nat->Bool)(n od:Nat):List dv->(Nat->Bool)->Bool
 |[],A=>A n
 |x::r,A=>if A n=aD then aD else if x.1=2/\YG (λa=>A a&&O x.2.toNat a) od (n+1-od)=aD then aD else abE o O n od r (L7 o x od A (n+1-od))
def Jn(o:dv->Nat->Nat->Nat)(O:Nat->Nat->Bool)(M:List Bool)(n od:Nat)(l:List dv):Bool:=if oW M l aD=aD then abE o O n od l (λb=>decide (b=od))else aE
section
variable{o:dv->Nat->Nat->Nat}{x:dv}{od:Nat}{A:Nat->Bool}
theorem Hi{b:Nat}:∀{k:Nat},L7 o x od A k b=aD↔∃i,i<k/\A (od+i)=aD/\od+i<=b/\0<o x (od+i) b
 |0=>by simp[L7]
 | k +1=>by
  rw[L7,lK,Hi,eV,eV,decide_eq_true_iff,decide_eq_true_iff]
  constructor
  ·rintro(⟨i,h1,h2⟩|⟨⟨h1,h2⟩,h3⟩)
   exact⟨i,by omega,h2⟩;exact⟨k,by omega,h1,h2,h3⟩
  rintro⟨i,h1,h2,h3,h4⟩
  by_cases e:i=k
  subst e;exact .inr ⟨⟨h2,h3⟩,h4⟩;exact .inl ⟨i,by omega,h2,h3,h4⟩
theorem L8{p:Nat->Bool}:∀{k:Nat},YG p od k=aD↔∃i,i<k/\p (od+i)=aD
 |0=>by simp[YG]
 | k +1=>by
  rw[YG,lK,L8]
  constructor
  ·rintro(⟨i,h1,h2⟩|h1)
   exact⟨i,by omega,h2⟩;exact⟨k,by omega,h1⟩
  rintro⟨i,h1,h2⟩
  by_cases e:i=k
  subst e;exact .inr h2;exact .inl ⟨i,by omega,h2⟩
end
section
variable{w:List Int}{l:List aT.Prod}{n:Nat}{c:uc}{O:Nat->Nat->Bool}
theorem Ex:∀(b:List dv),(∀x∈b,∃ws,Fy l x ws)->∃ws,qX l b ws
 |[],_=>⟨[],.nil⟩
 |x::r,h=>by
  obtain⟨u,h1⟩:=h x (by simp);obtain⟨s,h2⟩:=Ex r λy hy=>h y (by simp[hy]);exact⟨u++s,.cons h1 h2⟩
theorem YH{a b:Nat}(h:a<=b):cut w a b++w.drop b=w.drop a:=by
 unfold cut;have e3:w.drop b=(w.drop a).drop (b-a):=by rw[List.drop_drop,show a+(b-a)=b by omega]
 rw[e3,zT]
theorem Ey(hc:Lfp w l n c)(hs:oV n l)(hO:∀(k:Nat) a,O k a=aD->a<=w.length->∃v,Fy l (2,(k:Int)) (w.drop a++v)){od:Nat}(hf:od<=w.length):∀(body:List dv) (A:Nat->Bool) (pre:List dv),(∀x∈body,(x.1=1\/(x.1=2/\0<=x.2/\x.2<(n:Int)))/\∃ws,Fy l x ws)->(∀b,od<=b->b<=w.length->A b=aD->qX l pre (cut w od b))->abE (Dz c w) O w.length od body A=aD->∃v,qX l (pre++body) (w.drop od++v)
 | [],A,pre,_,hA,h=>by
  have:=hA w.length hf (bm _) h;rw[Q_ I]at this;exact⟨[],by rw[eG,eG];exact this⟩
 | x ::r,A,pre,hx,hA,h=>by
  rw[abE]at h;split at h
  ·rename_i h1
   have h2:=hA w.length hf (bm _) h1;rw[Q_ I]at h2;obtain⟨ws,h3⟩:=Ex (x::r) λy hy=>(hx y hy).2;exact⟨ws,h2.To h3⟩
  split at h
  ·rename_i h1
   obtain⟨h1,h2⟩:=h1;obtain⟨i,h3,h4⟩:=L8.1 h2;rw[eV]at h4;have hk:=((hx x (by simp)).1.resolve_left J).2;obtain⟨v,h5⟩:=hO _ _ h4.2 J;obtain⟨x1,x2⟩:=x;dsimp only at h1 hk h5;subst h1;rw[tV hk.1]at h5;obtain⟨ws,h6⟩:=Ex r λy hy=>(hx y (by simp[hy])).2;refine⟨v++ws,?_⟩;have h7:=(hA (od+i) J J h4.1).To (qX.cons h5 h6);rw[eY (w.drop (od+i)),<-eY (cut w od (od+i)),YH J]at h7;exact h7
  obtain⟨v,h1⟩:=Ey hc hs hO hf r _ (pre++[x]) (λy hy=>hx y (by simp[hy])) (λb FC Nn hb=>by
   obtain⟨i,h3,h4,h5,h6⟩:=Hi.1 hb;rw[<-yN (by omega:od<=od+i) h5];exact(hA _ J J h4).To (Xy (OA hc hs (hx x (by simp)).1 h5 Nn h6))) h
  exact⟨v,by rw[eY]at h1;exact h1⟩
theorem Jo{M:List Bool}(hM:∀i:Nat,M.getD i aE=aD->∃ws,Fy l (2,(i:Int)) ws)(hc:Lfp w l n c)(hs:oV n l)(hO:∀(k:Nat) a,O k a=aD->a<=w.length->∃v,Fy l (2,(k:Int)) (w.drop a++v)){od:Nat}(hf:od<=w.length){body:List dv}(hx:∀x∈body,x.1=1\/(x.1=2/\0<=x.2/\x.2<(n:Int)))(h:Jn (Dz c w) O M w.length od body=aD):∃v,qX l body (w.drop od++v):=by
 unfold Jn at h;split at h
 ·rename_i hm
  refine Ey hc hs hO hf body _ [] (λx hb=>⟨hx x hb,?_⟩) (λb _ _ hb=>?_) h
  ·unfold oW at hm
   have:=qj.1 hm x hb;rcases hx x hb with c1|⟨c1,c2,_⟩
   exact⟨_,.Dx c1⟩;rw[if_neg J,if_pos c1]at this;obtain⟨ws,hw⟩:=hM _ this;obtain⟨x1,x2⟩:=x;dsimp only at c1 c2 hw;subst c1;rw[tV c2]at hw;exact⟨ws,hw⟩
  have:b=od:=by simpa using hb
  subst this;rw[K_];exact .nil
 cases h
end
end xE
namespace aT
abbrev Tx:=List UInt8
def dec(n:Nat):Tx:=if n<10 then [fx (48+n)]else [fx (48+n/10),fx (48+n %10)]
def wu(c:UInt8):Tx->Tx×Tx×Bool
 |[]=>([],[],aE)
 |b::r=>if b=c then([],r,aD)else(b::(wu c r).1,(wu c r).2.1,(wu c r).2.2)
def YI(x:dv):Tx:=32::(if x.1=1 then 116 else 110)::dec x.2.toNat
theorem abF(n:Nat):0<(dec n).length/\(dec n).length<=2:=by unfold dec;split<;>simp
theorem yN{c:UInt8}:∀{a:Tx} (b:Tx),(∀x∈a,x≠c)->wu c (a++c::b)=(a,b,aD)
 |[],b,_=>by rw[eJ,wu,if_pos I]
 |x::a,b,h=>by
  rw[List.cons_append,wu,if_neg (h x (List.mem_cons_self ..)),yN b λy hy=>h y (List.mem_cons_of_mem _ hy)]
theorem YJ{c:UInt8}:∀{s:Tx},(wu c s).2.2=aD->s=(wu c s).1++c::(wu c s).2.1
 |[],h=>by cases h
 | b::r,h=>by
  rw[wu]at h⊢;split at h
  ·rename_i e;rw[if_pos e,e];rfl
  rename_i e
  rw[if_neg e];show b::r=b::((wu c r).1++c::(wu c r).2.1)
  rw[<-YJ (s:=r) h]
theorem Q'{c:UInt8}{s:Tx}(h:(wu c s).2.2=aD):(wu c s).1.length+(wu c s).2.1.length+1=s.length:=by
 have:=congrArg List.length (YJ h);rw[bK,c_]at this;omega
theorem abG(x:dv):0<(YI x).length/\(YI x).length<=4:=by have:=abF x.2.toNat;unfold YI;simp;omega
theorem yV:∀l:List dv,l.length<=(l.flatMap YI).length/\(l.flatMap YI).length<=4*l.length
 |[]=>⟨bm _,bm _⟩
 |x::l=>by
  have h1:=abG x;have h2:=yV l;rw[List.flatMap_cons,bK,c_];omega
end aT
namespace gu
open dg fZ
open aT (wu yN)
abbrev Bs:=List UInt8
abbrev Wd:=Bs×Rx
abbrev Rl:=Bs×List Bs
structure Sp where
 words:List Wd
 rules:List Rl
def wH(b:UInt8):Bool:=decide (97<=b.toNat)&&decide (b.toNat<=122)
def sx(s:Bs):Bool:=decide (s≠[])&&decide (s.length<=12)&&s.all wH
def k_:List Wd->List Bs->Int×List Bs
 |[],of=>(0,of)
 |w::r,of=>if w.1≠[]/\sx w.1=aE then(1,of)else if bZ.WC w.2≠0 then(bZ.WC w.2,of)else if w.1∈of then(11,of)else k_ r (if w.1=[]then of else of++[w.1])
def qH:List Rl->List Bs->Int
 |[],_=>0
 |r::l,of=>if sx r.1=aE then 1 else if r.1∈of then 11 else qH l of
def AL(of hd:List Bs)(l:List Bs):Bool:=l.all λx=>decide (x∈of)||decide (x∈hd)
def ri(of hd:List Bs)(l:List Rl):Bool:=l.all λr=>AL of hd r.2
def pu(s:Sp):Int:=
 if 60<s.words.length\/60<s.words.length+s.rules.length then 2
 else if(k_ s.words []).1≠0 then(k_ s.words []).1
 else if qH s.rules (k_ s.words []).2≠0 then qH s.rules (k_ s.words []).2
 else if ri (k_ s.words []).2 (s.rules.map (·.1)) s.rules=aD then 0 else 11
end gu
namespace bZ
open Go.RowKit cU dM dg fZ gu
def y_:vO Wd:=Ww S3 xo
def Hj:vO Rl:=Ww S3 (bM S3)
def bsC(s:Bs):List Value:=[str s]
theorem RJ(s:Bs):(bsC s).length=1:=rfl
def RL(F:Nat->Prop)(w:World)(v:Value)(s:Sp):Prop:=∃vw vr,v=aQ #[vw,vr]/\jQ y_ F w vw s.words/\jQ Hj F w vr s.rules
theorem YK{α:Type}{s:vO α}{w w':World}{v:Value}{l:List α}(h:jQ s (pD w) w v l)(hg:Gr w w'):jQ s (pD w') w' v l:=
 (h.stay λk hk=>hg.block k hk).mono λ_ hk=>jv hk hg.size
theorem RL.gr{w w':World}{v:Value}{s:Sp}(h:RL (pD w) w v s)(hg:Gr w w'):RL (pD w') w' v s:=by
 obtain⟨vw,vr,h1,h2,h3⟩:=h;exact⟨vw,vr,h1,YK h2 hg,YK h3 hg⟩
def yg(n:Bs)(k:Int)(c:C4)(v:Value):List Value:=str n::l8 k c v
theorem PE{n:Bs}{k:Int}{c:C4}{vk:Value}{j:Nat}{v:Value}(h:(l8 k c vk)[j]?=aj v):(yg n k c vk).toArray[0+1+j]?=aj v:=by
 rw[jf,cV,Nat.add_comm];exact h
theorem RM{F:Nat->Prop}{w:World}{b off:Nat}{l:List Wd}(h:∀i (h:i<l.length),∃cs,y_.is F w cs l[i]/\Rd w b (off+i*y_.c) cs){k:Nat}(hk:k<l.length):
 ∃base cap,Rd w b (off+k*7) (yg l[k].1 l[k].2.kind l[k].2.tK (.slice base l[k].2.kids.length cap))/\nQ F w (qm l[k].2.kind l[k].2.tK (.slice base l[k].2.kids.length cap)) l[k].2/\l[k].1.length<=9223372036854775807:=by
 obtain⟨cs,⟨c1,c2,rfl,⟨rfl,h1⟩,h2⟩,h3⟩:=h k hk;have h2:kh F w c2 l[k].2:=h2;have h4:=h2.r;obtain⟨vk,e,-,hs⟩:=h4;obtain⟨base,cap,rfl,-⟩:=hs;have e2:c2=l8 l[k].2.kind l[k].2.tK (.slice base l[k].2.kids.length cap):=by
  unfold qm at e;simp only[lL]at e
  simpa using congrArg YB e
 subst e2;exact⟨base,cap,h3,h2.r,h1⟩
theorem Cp{F:Nat->Prop}{w:World}{b off:Nat}{l:List Rl}(h:∀i (h:i<l.length),∃cs,Hj.is F w cs l[i]/\Rd w b (off+i*Hj.c) cs){k:Nat}(hk:k<l.length):
 ∃base cap,Rd w b (off+k*2) [str l[k].1,.slice base l[k].2.length cap]/\jQ S3 F w (.slice base l[k].2.length cap) l[k].2/\l[k].1.length<=9223372036854775807:=by
 obtain⟨cs,⟨c1,c2,rfl,⟨rfl,h1⟩,v,rfl,hs⟩,h3⟩:=h k hk;have UZ:=hs;obtain⟨base,cap,rfl,-⟩:=hs;exact⟨base,cap,h3,UZ,h1⟩
theorem Uh{b:UInt8}{r:Bs}:(b::r).all wH=(wH b&&r.all wH):=rfl
theorem Hk{b:UInt8}:wH b=aD↔¬((b.toNat:Int)<97)/\¬((b.toNat:Int)>122):=by
 unfold wH;simp only[eV,decide_eq_true_eq];omega
theorem Bo(s:Bs)(w:World):Calls aB 35 #[str s] w (cz (ret (.bool (sx s))) w):=by
 refine enter (args:=[str s]) (n:=27) Tryz.func35 I I I ?_
 try refine GA ?_
 by_cases c0:s=[]
 ·subst c0
  repeat(first|refine GC ?_|refine gV (oI (b:=aD) I I I) ?_|refine GB ?_)
  exact dC I I I
 by_cases c1:12<s.length
 ·repeat(first|refine GC ?_|refine gV (oI (b:=aE) I I (decide_eq_false c0)) ?_|refine GB ?_)
  exact dC I I (by unfold sx;rw[decide_eq_false (show ¬s.length<=12 by omega)];simp)
 have hB:sx s=s.all wH:=by unfold sx;rw[decide_eq_true c0,decide_eq_true (show s.length<=12 by omega)];rfl
 repeat(first|refine GC ?_|refine gV (oI (b:=aE) I I (decide_eq_false c0)) ?_|refine GB ?_)
 refine dY (ι:=Nat) (λk=>k<=s.length/\(s.drop k).all wH=s.all wH) (λk=>[(0,str s),(12,av az s.length),(13,av az (k:Int))]) (λ_=>[]) (λk=>s.length-k) 0 ⟨bH _,rfl⟩ ?_;rintro k ⟨i1,i2⟩
 by_cases c2:k<s.length
 ·rw[eI c2,Uh]at i2
  have hk:=bD c2;rw[hB];generalize s[k]=b at*
  cases hb:wH b with
  | true=>
   obtain⟨b1,b2⟩:=Hk.1 hb;rw[hb,uP]at i2
   repeat(first|refine GA ?_|refine gV (vB (b:=b) bL.eq I I J hk) ?_)
   exact bW (k+1) ⟨by omega,i2⟩ (by show s.length-(k+1)<s.length-k;omega)
  | false=>
   rw[hb,Jj]at i2;rw[<-i2]
   by_cases b1:(b.toNat:Int)<97
   ·repeat(first|refine GA ?_|refine gV (vB (b:=b) bL.eq I I J hk) ?_)
    exact dC I I I
   have b2:(b.toNat:Int)>122:=by
    by_cases b2:(b.toNat:Int)>122
    exact b2;rw[Hk.2 ⟨b1,b2⟩]at hb;cases hb
   repeat(first|refine GA ?_|refine gV (vB (b:=b) bL.eq I I J hk) ?_)
   exact dC I I I
 have e:k=s.length:=by omega
 subst e;rw[AI]at i2;rw[hB,<-i2]
 try refine GA ?_
 exact dC I I I
def KeysOf(m:Bs->Option Value)(of:List Bs):Prop:=∀y,(m y).isSome=decide (y∈of)
theorem rj{m:Bs->Option Value}{of:List Bs}{y:Bs}{v:Value}(h:KeysOf m of)(e:m y=aj v):y∈of:=by
 have:=h y;rw[e]at this;exact of_decide_eq_true this.symm
theorem rl{m:Bs->Option Value}{of:List Bs}{y:Bs}(h:KeysOf m of)(e:m y=ak):y∉of:=by
 have:=h y;rw[e]at this;exact of_decide_eq_false this.symm
theorem L9{m:Bs->Option Value}{of:List Bs}{x:Bs}{v:Value}(h:KeysOf m of):KeysOf (λy=>if y=x then aj v else m y) (of++[x]):=λy=>by
 by_cases e:y=x
 subst e;simp;dsimp only;rw[if_neg e,h y];simp[e]
theorem gH(w:World):(zeroValue 3).run aB w= .ok (av az 0) w:=by kernel_rfl
def sy(gm:Nat)(r:Int×List Bs):Spec ((Bs->Option Value)×Nat):=⟨λx=>KeysOf x.1 r.2/\x.2<=60,λ_=>av az r.1,λx=>[eZ hZ gm x.1 x.2]⟩
theorem L_(vw vr:Value)(l:List Wd)(gm:Nat)(w0:World)(hw:jQ y_ (pD w0) w0 vw l)(hl:l.length<=60)(w:World)(B:bR)(ho:pC w0 B)(hm:Mem B [eZ hZ gm (λ_=>ak) 0] w):
 Calls aB 34 #[aQ #[vw,vr],.map (aj gm)] w (dc (sy gm (k_ l [])) B):=by
 obtain⟨bw,cw,rfl,-,-,eL⟩:=hw;have hnm:=λs w=>Bo s w;refine dA hm (args:=[aQ #[ap bw l.length cw,vr],.map (aj gm)]) (n:=49) Tryz.func34 I I I ?_;refine b9 (bz (bQ I I I λg2=>?_));refine zL ?_
 repeat(first|refine GA ?_|refine gV (aC (v:=ap bw l.length cw) aK.ty I (aH (i:=1) I I)) ?_)
 refine tJ [0] ?_;generalize jp:k_ l []=fin;refine dY (ι:=Nat×List Bs×(Bs->Option Value)×Nat) (λ(k,of,m,n)=>k<=l.length/\n<=k/\KeysOf m of/\k_ (l.drop k) of=fin) (λ(k,_,_,_)=>[(1,.map (aj gm)),(11,ap bw l.length cw),(12,av az l.length),(13,av az (k:Int))]) (λ(_,_,m,n)=>[eZ hZ gm m n]) (λ(k,_)=>l.length-k) (0,[],λ_=>ak,0) ⟨bH _,bm _,λy=>rfl,jp⟩ ?_;clear hm jp;rintro⟨k,of,m,n⟩ ⟨i1,i2,i3,i4⟩;dsimp only at i1 i2 i3 i4⊢
 by_cases c1:k<l.length
 ·obtain⟨b,off,rfl,_,hr⟩:=eL J
  obtain⟨bk,ck,q1,q2,q3⟩:=RM hr c1;rw[eI c1,k_]at i4;have dz:∀(L:List b_) (j:Nat) (u:Value),(yg l[k].1 l[k].2.kind l[k].2.tK (.slice bk l[k].2.kids.length ck))[j]?=aj u->At B L ⟨b,off+k*7+j,ak⟩ u:=λL j u hj=>iw ho (q1 j u hj);have iS:=λw' (hg:Gr w0 w')=>tR _ _ w' (q2.gr hg);clear hr eL q1 q2;generalize l[k]=wd at*;obtain⟨nm,r⟩:=wd;dsimp only at*;generalize WC r=er at*;generalize r.kind=rk at*;generalize r.tK=rc at*;generalize r.kids.length=rn at*
  repeat(first|refine GA ?_|refine gV (aX bL.eq aK.ty I I c1) ?_|refine gV (a8 (cs:=yg nm rk rc (ap bk rn ck)) aK.ty I I (dz _)) ?_)
  clear dz;refine aY I λg6=>?_;refine zL ?_
  try refine GA ?_
  refine gh 1 (cs':=(yg nm rk rc (ap bk rn ck)).toArray) ?_;refine zL ?_
  repeat(first|refine GA ?_|refine gV (aC (v:=str nm) aK.ty I (aH (i:=1) I I)) ?_)
  by_cases e0:nm=[]
  ·subst e0
   rw[if_neg (λh=>h.1 I)]at i4
   repeat(first|refine GC ?_|refine gV (kA (b:=aE) I I I) ?_|refine gV (a8 (cs:=l8 rk rc (ap bk rn ck)) aK.ty I I (λj v hj=>aH (i:=1) I (PE hj))) ?_|refine GB ?_)
   refine aW (iM aI.en I I) (λw hm=>iS _ (ho.mem hm)) I I I ?_;intro _ _;refine zL ?_
   by_cases e1:er=0
   ·subst e1
    rw[if_neg (by simp)]at i4
    repeat(first|refine GA ?_|refine gV (aC (v:=str []) aK.ty I (aH (i:=1) I I)) ?_)
    cases Bi:m []with
    | some v=>
     have Fh:=rj i3 Bi;rw[if_pos Fh]at i4
     repeat(first|refine GA ?_|refine gV (aC (v:=str []) aK.ty I (aH (i:=1) I I)) ?_|refine gV (jB hZ (x:=([]:Bs)) bL.eq gH (i:=0) I I I q3 Bi) ?_)
     subst i4;exact cJ I I λw hm=>hm.cB (S:=sy gm _) (m,n) ⟨i3,by show n<=60;omega⟩ [0] aiz I
    | none=>
     have Fh:=rl i3 Bi;rw[if_neg Fh,if_pos I]at i4
     repeat(first|refine GC ?_|refine gV (aC (v:=str []) aK.ty I (aH (i:=1) I I)) ?_|refine gV (jC hZ (x:=([]:Bs)) bL.eq gH (i:=0) I I I q3 Bi) ?_|refine gV (kA (b:=aE) I I I) ?_|refine GB ?_)
     refine dh [0] ?_;exact bW (k+1,of,m,n) ⟨by omega,by show n<=k+1;omega,i3,i4⟩ (by show l.length-(k+1)<l.length-k;omega)
   rw[if_pos e1]at i4
   repeat(first|refine GC ?_|refine gV (dm (b:=aD) I I (decide_eq_true e1)) ?_|refine GB ?_)
   subst i4;exact cJ I I λw hm=>hm.cB (S:=sy gm _) (m,n) ⟨i3,by show n<=60;omega⟩ [0] aiz I
  repeat(first|refine GC ?_|refine gV (kA (b:=aD) I I (decide_eq_true e0)) ?_|refine gV (aC (v:=str nm) aK.ty I (aH (i:=1) I I)) ?_|refine GB ?_)
  refine mg (iM aI.en I I) (λw hm=>hnm nm w) I I I I I ?_;intro _ _;refine zL ?_
  cases hb:sx nm with
  | false=>
   rw[if_pos ⟨e0,hb⟩]at i4
   try refine GA ?_
   subst i4;exact cJ I I λw hm=>hm.cB (S:=sy gm _) (m,n) ⟨i3,by show n<=60;omega⟩ [0] aiz I
  | true=>
   rw[if_neg (λh=>by rw[hb]at h;cases h.2)]at i4
   repeat(first|refine GA ?_|refine gV (a8 (cs:=l8 rk rc (ap bk rn ck)) aK.ty I I (λj v hj=>aH (i:=1) I (PE hj))) ?_)
   refine aW (iM aI.en I I) (λw hm=>iS _ (ho.mem hm)) I I I ?_;intro _ _;refine zL ?_
   by_cases e1:er=0
   ·subst e1
    rw[if_neg (by simp)]at i4
    repeat(first|refine GA ?_|refine gV (aC (v:=str nm) aK.ty I (aH (i:=1) I I)) ?_)
    cases Bi:m nm with
    | some v=>
     have Fh:=rj i3 Bi;rw[if_pos Fh]at i4
     repeat(first|refine GA ?_|refine gV (aC (v:=str nm) aK.ty I (aH (i:=1) I I)) ?_|refine gV (jB hZ (x:=nm) bL.eq gH (i:=0) I I I q3 Bi) ?_)
     subst i4;exact cJ I I λw hm=>hm.cB (S:=sy gm _) (m,n) ⟨i3,by show n<=60;omega⟩ [0] aiz I
    | none=>
     have Fh:=rl i3 Bi;rw[if_neg Fh,if_neg e0]at i4
     repeat(first|refine GC ?_|refine gV (aC (v:=str nm) aK.ty I (aH (i:=1) I I)) ?_|refine gV (jC hZ (x:=nm) bL.eq gH (i:=0) I I I q3 Bi) ?_|refine gV (kA (b:=aD) I I (decide_eq_true e0)) ?_|refine GB ?_)
     refine lX (i:=0) (x:=nm) (v:=av az (k:Int)) hZ bL.eq I I I I q3 J ?_;refine zL ?_
     try refine GA ?_
     refine dh [0] ?_;exact jy (k+1,of++[nm],_,_) ⟨by omega,by rw[Bi];show n+1<=k+1;omega,L9 i3,i4⟩ (by show l.length-(k+1)<l.length-k;omega) (by repeat' (first|exact cI|refine cC I ?_)) I
   rw[if_pos e1]at i4
   repeat(first|refine GC ?_|refine gV (dm (b:=aD) I I (decide_eq_true e1)) ?_|refine GB ?_)
   subst i4;exact cJ I I λw hm=>hm.cB (S:=sy gm _) (m,n) ⟨i3,by show n<=60;omega⟩ [0] aiz I
 ·obtain rfl:k=l.length:=by omega
  rw[AI]at i4
  try refine GA ?_
  subst i4;exact cJ I I λw hm=>hm.cB (S:=sy gm _) (m,n) ⟨i3,by show n<=60;omega⟩ [0] aiz I
end bZ
namespace bZ
open Go.RowKit cU dM dg fZ gu Go.ChangeShapes Go.WideShapes Go.ChangeAt
set_option maxRecDepth 100000
theorem Ez{α:Type}{s:vO α}{is:List Value->α->Prop}{w:World}{v:Value}{l:List α}(h:SX w is s.c v l)(hi:∀cs a,is cs a->s.is (pD w) w cs a)(h0:0<s.c):jQ s (pD w) w v l:=by
 obtain⟨base,cap,h1,h2,h3,h4⟩:=h;refine⟨base,cap,h1,h2,h3,λhl=>?_⟩;obtain⟨b,off,h5,h6⟩:=h4 hl;refine⟨b,off,h5,?_,λi pB=>let ⟨cs,h7,h8⟩:=h6 i pB;⟨cs,hi _ _ h7,h8⟩⟩;obtain⟨cs,h7,h8⟩:=h6 0 hl;have hlen:=s.len (hi _ _ h7);have hc:=h8 0 (cs[0]' J) (bD J);exact nL w _ hc
theorem Ma{H:Type}{M:Msr aB H}{enc0:TypeId×Value->H}{W:World}:kB M enc0 W 83 (λcs x=>y_.is (pD W) W cs x):=λfuel cs x h hm=>by
 obtain⟨hl,Kb⟩:=z_ Tryz.underlying83 h hm;have hl7:cs.length=7:=hl;obtain⟨n,⟨e0,n1⟩,-⟩:=Kb 0 _ rfl (xh Tryz.underlying9);obtain⟨r,h1⟩:=Kb 1 _ rfl (λfuel=>Dp (M:=M) (enc0:=enc0) (W:=W) fuel fuel (bm _))
 replace e0:(cs.drop 0).take 1=[str n]:=e0
 replace h1:kh (pD W) W ((cs.drop 1).take 6) r:=h1
 refine⟨(n,r),[str n],(cs.drop 1).take 6,?_,⟨rfl,n1⟩,h1⟩;rw[<-e0];have e:(cs.drop 1).take 6=cs.drop 1:=gK (by rw[iX];omega);rw[e,nh,zT]
theorem Mb{H:Type}{M:Msr aB H}{enc0:TypeId×Value->H}{W:World}:kB M enc0 W 86 (λcs x=>Hj.is (pD W) W cs x/\M.lim 9 x.2.length):=λfuel cs x h hm=>by
 obtain⟨hl,Kb⟩:=z_ Tryz.underlying86 h hm;have J':cs.length=2:=hl;obtain⟨n,⟨e0,n1⟩,-⟩:=Kb 0 _ rfl (xh Tryz.underlying9);obtain⟨l,⟨v,e1,hs⟩,C_⟩:=Kb 1 _ rfl (r7 (c:=1) Tryz.underlying84 (by kernel_rfl) aiz (xh Tryz.underlying9) λcs a h=>by rw[h.1.1];rfl)
 replace e0:(cs.drop 0).take 1=[str n]:=e0
 replace e1:(cs.drop 1).take 1=[v]:=e1
 refine⟨(n,l),⟨[str n],[v],?_,⟨rfl,n1⟩,v,rfl,Ez (s:=S3) hs (λcs a h=>⟨h.1.1,h.1.2⟩) aiz⟩,C_⟩
 match cs,J' with
 |[x,y],_=>
  simp only[Jk,nh,wX,nM,fO,and_true]at e0 e1;subst e0 e1;rfl
theorem Mc{H:Type}{M:Msr aB H}{enc0:TypeId×Value->H}{W:World}:kB M enc0 W 25 (λcs s=>RL (pD W) W (aQ cs.toArray) s/\∀r∈s.rules,M.lim 9 r.2.length):=λfuel cs x h hm=>by
 obtain⟨hl,Kb⟩:=z_ Tryz.underlying25 h hm;have J':cs.length=2:=hl;obtain⟨ws,⟨vw,e0,h0⟩,-⟩:=Kb 0 _ rfl (r7 (c:=7) Tryz.underlying22 (by kernel_rfl) aiz Ma λcs a h=>y_.len h);obtain⟨rs,⟨vr,e1,h1⟩,-⟩:=Kb 1 _ rfl (r7 (c:=2) Tryz.underlying23 (by kernel_rfl) aiz Mb λcs a h=>Hj.len h.1)
 replace e0:(cs.drop 0).take 1=[vw]:=e0
 replace e1:(cs.drop 1).take 1=[vr]:=e1
 refine⟨⟨ws,rs⟩,⟨vw,vr,?_,Ez (s:=y_) h0 (λcs a h=>h) aiz,Ez (s:=Hj) h1 (λcs a h=>h.1) aiz⟩,λr hr=>?_⟩
 ·match cs,J' with
  |[x,y],_=>
   simp only[Jk,nh,wX,nM,fO,and_true]at e0 e1;subst e0 e1;rfl
 obtain⟨i,hi,rfl⟩:=g_.1 hr;have hi:i<rs.length:=hi;obtain⟨base,cap,_,_,_,h4⟩:=h1;obtain⟨b,off,_,h6⟩:=h4 J;obtain⟨cs,h7,_⟩:=h6 i hi;exact h7.2
end bZ
namespace bZ
open Go.RowKit cU dM dg fZ gu Go.ChangeShapes Go.WideShapes Go.ChangeAt
set_option maxRecDepth 100000
theorem PF{H:Type}{enc0:TypeId×Value->H}{W:World}{base:Nat}{v:Value}{d:DataW H}{ps:List MemPlace}(hv:Value.okWide aB W .any base 25 v)(h:DataW.Trod enc0 aB W 0 (λ_=>aD) aD 25 v d ps){ts:List TypeId}{ds:List (DataW H)}(hsz:(DataW.weightsEach aB ts ds).all (· <=reachBytes)=aD)(j:Nat)(hj:ts[j]?=aj 25)(hd:ds[j]?=aj d):
 ∃s:Sp,RL (pD W) W v s/\∀r∈s.rules,r.2.length*16<=140737488351232:=by
 obtain⟨cs,s,rfl,h1,h2⟩:=Ws (M:=QT aB H) Tryz.underlying25 hv h Mc (KE hsz j hj hd);rw[Array.toArray_toList]at h1;exact⟨s,h1,h2⟩
end bZ
namespace bZ
open Go.RowKit cU dM aT
theorem Me(k q:Int)(w:World):(df 156 #[(0,av az k),(1,av az q)]).run aB w= .ok (aQ #[av az k,av az q]) w:=by
 go_simp
end bZ
namespace bZ
open Go.RowKit cU dM yC cT
def y'(R:List Row)(tags:List Int):List Row:=if l7 R tags=0 then(pL (fe R tags) (dN (fe R tags))).2 else []
def za(R:List Row)(tags:List Int):List Int:=if l7 R tags=0 then(pL (fe R tags) (dN (fe R tags))).1.map (fe R tags).tag else []
theorem RN{R:List Row}{tags:List Int}(h:l7 R tags=0):(y' R tags).length=(za R tags).length/\(y' R tags).length=(Pg (fe R tags)).n:=by
 obtain⟨hA,_⟩:=uI h;have:=(Ph (bl:=dN (fe R tags)) hA).2.len;unfold y' za;rw[if_pos h,if_pos h,dI];exact⟨this,this⟩
theorem abH{R:List Row}{tags:List Int}(h:l7 R tags=0):fe (y' R tags) (za R tags)=Pg (fe R tags):=by
 have hl:=(RN h).2;have e1:y' R tags=(pL (fe R tags) (dN (fe R tags))).2:=if_pos h;have e2:za R tags=(pL (fe R tags) (dN (fe R tags))).1.map (fe R tags).tag:=if_pos h;show tY.mk (y' R tags).length _ _=_
 rw[hl];rw[e1,e2];rfl
theorem RO{R:List Row}{tags:List Int}(h:l7 R tags=0):l7 (y' R tags) (za R tags)=0:=by
 refine Jb ?_ (RN h).1.symm;rw[abH h];exact abi (uI h).1
def uQ(bl:Nat->Nat)(Q:List Nat)(b:Nat):Int:=if b∈Q.map bl then(idx (Q.map bl) b:Int)+1 else 0
theorem YL{bl:Nat->Nat}{Q:List Nat}{q:Nat}(hn:bl q∉Q.map bl)(b:Nat):uQ bl (Q++[q]) b=if b=bl q then(Q.length:Int)+1 else uQ bl Q b:=by
 unfold uQ;rw[eO,Jl]
 by_cases c:b=bl q
 ·subst c
  rw[if_pos (by simp),if_pos I];have:=qU (D:=Q.map bl) (k:=bl q);unfold more at this;rw[if_neg hn,if_neg hn]at this;rw[this,dI]
 rw[if_neg c]
 by_cases c2:b∈Q.map bl
 rw[if_pos c2,if_pos (List.mem_append_left _ c2),pU c2];rw[if_neg c2,if_neg];rw[fj,dQ];rintro(h|h);exact c2 h;exact c h
def AM(l:List Int):Row:=xQ λb:Fin 256=>if b<l.length then l.getD b 0 else-1
theorem YM:AM []=eb 256 (-1):=by
 refine kf λj hj=>?_;unfold AM;simp
theorem YN{l:List Int}(h:l.length=256):AM l=vec l:=by
 refine kf λj hj=>?_;unfold AM vec;simp[h,hj]
theorem EA(l:List Int)(x:Int)(h:l.length<256):(AM l).set l.length x=AM (l++[x]):=by
 refine kf λj hj=>?_;unfold AM;rw[uo,ke,ke];simp only[bK,lO];split
 ·rename_i e;subst e
  rw[if_pos J,mW (bm _),nT];rfl
 by_cases c:j<l.length
 rw[if_pos c,if_pos J,jl c];rw[if_neg c,if_neg J]
theorem Ui(l:List Int)(h:l.length<256):AM (l++[-1])=AM l:=by
 rw[<-EA l (-1) h];refine kf λj hj=>?_;rw[uo];split
 ·rename_i e;subst e;unfold AM;simp
 rfl
structure YO(R:List Row)(tags:List Int)(f n:Nat)(Q:List Nat)(out:List Row):Prop where
 eq:pL (fe R tags) (dN (fe R tags))=wF (fe R tags) (dN (fe R tags)) f n Q out
 ok:T5 (fe R tags) (dN (fe R tags)) Q
 outs:T6 (fe R tags) (dN (fe R tags)) n Q out
 fuel:(fe R tags).n+1<=f+n
theorem afS{R:List Row}{tags:List Int}(hA:(fe R tags).Ok):YO R tags (R.length+1) 0 [0] []:=⟨rfl,afG hA,⟨rfl,bH _,λk hk=>by omega⟩,bm _⟩
theorem Uj{R:List Row}{tags:List Int}(hA:(fe R tags).Ok){f n:Nat}{Q:List Nat}{out:List Row}(h:YO R tags f n Q out)(hn:n<Q.length):∃f',f=f'+1/\YO R tags f' (n+1) (kN (fe R tags) (dN (fe R tags)) (Q.getD n 0) Q 256).1 (out++[vec (kN (fe R tags) (dN (fe R tags)) (Q.getD n 0) Q 256).2]):=by
 have h1:=h.ok.len;have h2:=h.fuel;obtain⟨f',rfl⟩:∃f',f=f'+1:=⟨f-1,by omega⟩;have e:=h.eq;unfold wF at e;rw[if_pos hn]at e;exact⟨f',rfl,e,Cn hA h.ok (h.ok.lt _ (y6 hn)) 256 (bm _),G' hA h.outs hn,by omega⟩
theorem YP{R:List Row}{tags:List Int}{f n:Nat}{Q:List Nat}{out:List Row}(h:YO R tags f n Q out)(hn:¬n<Q.length):pL (fe R tags) (dN (fe R tags))=(Q,out)/\n=Q.length:=by
 have h1:=h.outs.le;refine⟨?_,by omega⟩;rw[h.eq]
 cases f with
 |zero=>rfl
 |succ f=>unfold wF;rw[if_neg hn]
def abI(R:List Row)(tags:List Int):Spec (Value×Value):=⟨λ_=>True,λx=> .tuple #[iA x.1 x.2,av az (l7 R tags)],λx=>[a_ 187 256 x.1 (y' R tags).length ((y' R tags).flatMap eH),a_ 3 1 x.2 (za R tags).length ((za R tags).flatMap cU.eo)]⟩
theorem PG(w:World):(df 120 #[]).run aB w= .ok (iA (ap ak 0 0) (ap ak 0 0)) w:=by kernel_rfl
set_option maxRecDepth 100000 in
theorem FQ(vr vt:Value)(R:List Row)(tags:List Int)(w:World)(h:FK w vr vt R tags):
 Calls aB 39 #[iA vr vt] w (cz (abI R tags) w):=by
 have iS:=λw' (hg:Gr w w')=>Eh vr vt R tags w' (h.gr hg);have Oh:=λw' (hg:Gr w w') hc=>Jd vr vt R tags w' (h.gr hg) hc;obtain⟨bt,ct,rfl,ht1,Xa,Kc⟩:=h.hT;obtain⟨br,cr,rfl,U2,vC,Dr⟩:=h.hR;have abJ:=h.rng;unfold maxLen at vC Xa;clear h
 by_cases hc:l7 R tags=0
 ·obtain⟨hA,hlt⟩:=uI hc
  have hbo:=Ti hA;have en:(fe R tags).n=R.length:=rfl;have AE:0<R.length:=hA.pos;have hle:R.length<=200:=hA.le;obtain⟨b,off,rfl,hr⟩:=Dr AE;obtain⟨bb,s9,rfl,hrt⟩:=Kc J;clear Dr Kc;unfold abI;have er:y' R tags=(pL (fe R tags) (dN (fe R tags))).2:=if_pos hc;have et:za R tags=(pL (fe R tags) (dN (fe R tags))).1.map (fe R tags).tag:=if_pos hc;rw[er,et];clear er et;have afT:=hbo.le 0 AE;rw[en]at afT;rw[hc]at iS⊢;refine enter (args:=[iA (ap (aj ⟨b,off,ak⟩) R.length cr) (ap (aj ⟨bb,s9,ak⟩) tags.length ct)]) (n:=113) Tryz.func39 I I I ?_;refine b9 (bz (bQ I I I λg1=>?_));refine aY I λg2=>?_;refine zL ?_
  repeat(first|refine GA ?_|refine gV (aC aK.ty I (aH (i:=0) I I)) ?_|refine gV (aO (i:=0) aK.ty I I I) ?_)
  refine aW (iM aI.en I I) (λw hm=>iS _ hm.below) I I I ?_;intro _ _
  repeat(first|refine GA ?_|refine gV (aO (i:=0) aK.ty I I I) ?_)
  refine aW (iM aI.en I I) (λw hm=>Oh _ hm.below hc) I I I ?_;intro g5 _;refine zL ?_
  repeat(first|refine GA ?_|refine gV (aC aK.ty I (aH (i:=0) I I)) ?_)
  refine oT (m:=R.length+1) k9 0 (by rfl) (by rfl) J J I λg6=>?_;refine zL ?_
  try refine GA ?_
  refine aY I λg7=>?_;refine zL ?_
  try refine GA ?_
  refine fy I I I I I λg8=>?_;refine zL ?_;refine yq (i:=5) (m:=1) 1 I I aiz ?_;refine zL ?_
  repeat(first|refine GA ?_|refine gV (bY (j:=0) bL.eq aK.ty I I AE) ?_|refine gV (aC aK.ty I (fU (i:=2) I AE)) ?_|refine gV (bY (j:=dN (fe R tags) 0) bL.eq aK.ty I I J) ?_)
  refine iJ (i:=3) (off:=dN (fe R tags) 0) (v:=1) (uQ (dN (fe R tags)) [0]) aK.ty I I I I I J (λj hj=>?_) ?_
  ·by_cases e:j=dN (fe R tags) 0
   subst e;simp[uQ,idx];rw[if_neg e];unfold uQ;rw[if_neg (by simpa using e)]
  refine zL ?_
  try refine GA ?_
  refine ja 187 256 ?_;refine ja 3 1 ?_
  conv=>arg 7;simp only[zA,zB,zC,zD,zE,zF,zG,zH,zI,cL,ret,id_eq]
  have xr:=afS (tags:=tags) hA;have jp:=λf n Q out=>@YP R tags f n Q out;have mK:=λf n Q out=>@Uj R tags hA f n Q out;have ahq:=hbo.le;clear afT hbo Oh iS;generalize ahr:dN (fe R tags)=mF at*;refine dY (ι:=Nat×Nat×List Nat×List Row×Value×Value×Value) (λ(f,n,Q,out,_)=>YO R tags f n Q out) (λ(_,n,_,_,vQ,_,_)=>[(1,aJ (aj ⟨g1,0,ak⟩)),(2,aJ (aj ⟨g2,0,ak⟩)),(5,ap (aj ⟨g5,0,ak⟩) R.length R.length),(6,ap (aj ⟨g6,0,ak⟩) (R.length+1) (R.length+1)),(7,aJ (aj ⟨g7,0,ak⟩)),(8,vQ),(9,av az (n:Int))])
   (λ(_,n,Q,out,vQ,vR,vT)=>[aP g1 (iA (ap (aj ⟨b,off,ak⟩) R.length cr) (ap (aj ⟨bb,s9,ak⟩) tags.length ct)).cells 120,aP g2 (iA (ap ak 0 0) (ap ak 0 0)).cells 120,fg 3 k9 g5 R.length λi=>(mF i:Int),fg 3 k9 g6 (R.length+1) (uQ mF Q),aP g7 (iA vR vT).cells 120,a_ 3 1 vQ Q.length (Q.map λq:Nat=>k9 q),a_ 187 256 vR out.length (out.flatMap eH),a_ 3 1 vT n (((Q.take n).map (fe R tags).tag).flatMap cU.eo)]) (λ(f,_)=>f) (R.length+1,0,[0],[],ap (aj ⟨g8,0,ak⟩) 1 1,ap ak 0 0,ap ak 0 0) xr ?_
  rintro⟨f,n,Q,out,vQ,vR,vT⟩ hw;dsimp only at hw⊢;have hQ:=hw.ok;have hQl:=hQ.len;have aik:=hw.outs.len;rw[ahr]at hQ;rw[en]at hQl
  by_cases c1:n<Q.length
  ·obtain⟨f',rfl,tc⟩:=mK _ _ _ _ hw c1
   have hq:=hQ.lt _ (y6 c1);have hqc:(Q.map λq:Nat=>k9 q)[0+n]?=aj (k9 (Q.getD n 0)):=by rw[cV,eX,cH,bD c1];rfl
   rw[en]at hq;have pF:=Bk (-1);have hrw:=λk hk=>Cn (bl:=mF) hA hQ (q:=Q.getD n 0) (by rw[en];exact hq) k hk;have ael:=Ja (A:=fe R tags) (bl:=mF) (Q.getD n 0) Q;have Fk:=I' (A:=fe R tags) (bl:=mF) (Q.getD n 0) Q;have hst:∀k,k<256->St (fe R tags) ((fe R tags).d (Q.getD n 0) k):=λk hk=>hA.step _ hq k hk;have hd:∀(k:Nat) (hk:k<256),(fe R tags).d (Q.getD n 0) k=(R[Q.getD n 0]'hq)[k]:=λk hk=>LP hq hk;have Jp:Q.getD n 0<tags.length:=by omega
   have htg:(fe R tags).tag (Q.getD n 0)=tags[Q.getD n 0]'Jp:=y8 Jp;have PH:=λ(L:List b_)=>gG (W:=w) (L:=L) dw hr hq;have Mf:=λ(L:List b_)=>gG (W:=w) (L:=L) (c:=1) (f:=cU.eo) (λ_=>rfl) hrt Jp 0 _ I;have hQn:Q.getD n 0=Q[n]:=by rw[cH,bD c1];rfl
   clear jp mK hw;generalize hqq:Q.getD n 0=q at*;generalize hrr:R[q]=r at*
   repeat(first|refine GC ?_|refine gV (eR (i:=5) bL.eq I I) ?_|refine GB ?_)
   refine aW (iM aI.en I I) (λw hm=>pF _) I I I ?_;intro _ _
   try refine GA ?_
   refine aY I λg10=>?_;refine zL ?_;refine aV (i:=8) (cs':=(eH (eb 256 (-1))).toArray) I I I (by rw[dU,dw]) (by simpa using rb (eb 256 (-1))) (by kernel_rfl) ?_;refine zL ?_
   try refine GA ?_
   refine xp (i:=5) I J λgQ cQ hv hcQ ail=>?_;subst hv
   (repeat refine b9 ?_)
   refine dK ([aP g1 (iA (ap (aj ⟨b,off,ak⟩) R.length cr) (ap (aj ⟨bb,s9,ak⟩) tags.length ct)).cells 120,a_ 3 1 (ap (aj ⟨gQ,0,ak⟩) Q.length cQ) Q.length (Q.map λq:Nat=>k9 q)]) (.calm 0 (.calm 1 (.calm 2 (.calm 3 (.calm 4 (.calm 5 (.calm 6 (.calm 7 (.calm 8 (.done)))))))))) (bV [0,5]) ?_
   repeat(first|refine GW ?_|(refine GN ?_;first|refine QW (aC aK.ty I (aH (i:=0) I I)) ?_|refine QW (bY (j:=n) bL.eq aK.ty I I c1) ?_|refine QW (aC aK.ty I (jY (i:=1) I hqc)) ?_|refine QW (aX (j:=q) bL.eq aK.ty I I hq) ?_|refine QW (a8 aK.ty I (dw r) (PH _)) ?_))
   try refine GA ?_
   rw[<-YM];refine tJ [0,1,2,3,4,6,7,8,5] ?_;refine dY (ι:=Nat×Value) (λ(k,_)=>k<=256) (λ(k,vK)=>[(1,aJ (aj ⟨g1,0,ak⟩)),(2,aJ (aj ⟨g2,0,ak⟩)),(5,ap (aj ⟨g5,0,ak⟩) R.length R.length),(6,ap (aj ⟨g6,0,ak⟩) (R.length+1) (R.length+1)),(7,aJ (aj ⟨g7,0,ak⟩)),(8,vK),(9,av az (n:Int)),(10,aJ (aj ⟨g10,0,ak⟩)),(46,BT r),(47,av az (k:Int))])
    (λ(k,vK)=>[aP g1 (iA (ap (aj ⟨b,off,ak⟩) R.length cr) (ap (aj ⟨bb,s9,ak⟩) tags.length ct)).cells 120,aP g2 (iA (ap ak 0 0) (ap ak 0 0)).cells 120,fg 3 k9 g5 R.length λi=>(mF i:Int),fg 3 k9 g6 (R.length+1) (uQ mF (kN (fe R tags) mF q Q k).1),aP g7 (iA vR vT).cells 120,a_ 187 256 vR out.length (out.flatMap eH),a_ 3 1 vT n (((Q.take n).map (fe R tags).tag).flatMap cU.eo),aP g10 (eH (AM (kN (fe R tags) mF q Q k).2)).toArray 187,a_ 3 1 vK (kN (fe R tags) mF q Q k).1.length ((kN (fe R tags) mF q Q k).1.map λq:Nat=>k9 q)]) (λ(k,_)=>256-k) (0,ap (aj ⟨gQ,0,ak⟩) Q.length cQ) (bH _) ?_
   rintro⟨k,vK⟩ hk;dsimp only at hk⊢
   by_cases c2:k<256
   ·have hcell:(eH r).toArray[k]?=aj (.int .i16 r[k]):=by rw[jf];exact pt r c2
    have hx:=hd k c2;have hsx:=hst k c2;have lf:=hrw k hk;have hlen:=Fk k;have FR:=(LN lf hsx).len;have mK:kN (fe R tags) mF q Q (k+1)=((pq mF (kN (fe R tags) mF q Q k).1 ((fe R tags).d q k)).1,(kN (fe R tags) mF q Q k).2++[(pq mF (kN (fe R tags) mF q Q k).1 ((fe R tags).d q k)).2]):=rfl;rw[hx]at mK hsx FR;clear hx hst hrw ael Fk hd PH Mf;generalize r[k]=x at*;generalize kN (fe R tags) mF q Q k=RQ at*;obtain⟨Qk,vk⟩:=RQ;dsimp only at lf hlen FR mK⊢;subst hlen;unfold St at hsx;rw[en]at hsx
    by_cases c3:val mF x=0
    ·have e:pq mF Qk x=(Qk,-1):=by unfold pq;rw[if_pos c3]
     rw[e]at mK;have YQ:∀(S:List b_),S=[aP g1 (iA (ap (aj ⟨b,off,ak⟩) R.length cr) (ap (aj ⟨bb,s9,ak⟩) tags.length ct)).cells 120,aP g2 (iA (ap ak 0 0) (ap ak 0 0)).cells 120,fg 3 k9 g5 R.length λi=>(mF i:Int),fg 3 k9 g6 (R.length+1) (uQ mF Qk),aP g7 (iA vR vT).cells 120,a_ 187 256 vR out.length (out.flatMap eH),a_ 3 1 vT n (((Q.take n).map (fe R tags).tag).flatMap cU.eo),aP g10 (eH (AM vk)).toArray 187,a_ 3 1 vK Qk.length (Qk.map λq:Nat=>k9 q)]->S=[aP g1 (iA (ap (aj ⟨b,off,ak⟩) R.length cr) (ap (aj ⟨bb,s9,ak⟩) tags.length ct)).cells 120,aP g2 (iA (ap ak 0 0) (ap ak 0 0)).cells 120,fg 3 k9 g5 R.length λi=>(mF i:Int),fg 3 k9 g6 (R.length+1) (uQ mF (kN (fe R tags) mF q Q (vk.length+1)).1),aP g7 (iA vR vT).cells 120,a_ 187 256 vR out.length (out.flatMap eH),a_ 3 1 vT n (((Q.take n).map (fe R tags).tag).flatMap cU.eo),aP g10 (eH (AM (kN (fe R tags) mF q Q (vk.length+1)).2)).toArray 187,a_ 3 1 vK (kN (fe R tags) mF q Q (vk.length+1)).1.length ((kN (fe R tags) mF q Q (vk.length+1)).1.map λq:Nat=>k9 q)]:=λS h=>by
      rw[mK];dsimp only;rw[Ui vk c2];exact h
     by_cases c4:x<0
     ·repeat(first|refine GA ?_|refine gV (jj bL.eq aK.ty I I c2 hcell) ?_)
      exact jy (vk.length+1,vK) (by show vk.length+1<=256;omega) (by show 256-(vk.length+1)<256-vk.length;omega) (by repeat' (first|exact cI|refine cC I ?_)) (YQ _ I)
     obtain⟨m,rfl⟩:∃m:Nat,x=m:=⟨x.toNat,by omega⟩;have hm:m<R.length:=by omega
     rw[y7]at c3
     repeat(first|refine GC ?_|refine gV (jj bL.eq aK.ty I I c2 hcell) ?_|refine gV (bY (j:=m) bL.eq aK.ty I I hm) ?_|refine gV (aC aK.ty I (fU (i:=2) I hm)) ?_|refine gV (de (b:=aD) I I (decide_eq_true J)) ?_|refine GB ?_)
     exact jy (vk.length+1,vK) (by show vk.length+1<=256;omega) (by show 256-(vk.length+1)<256-vk.length;omega) (by repeat' (first|exact cI|refine cC I ?_)) (YQ _ I)
    have c4:¬x<0:=λe=>c3 (by unfold val;rw[if_pos e]);obtain⟨m,rfl⟩:∃m:Nat,x=m:=⟨x.toNat,by omega⟩;have hm:m<R.length:=by omega
    rw[y7]at c3;have hbm:=ahq m hm;rw[en]at hbm;have e:pq mF Qk (m:Int)=(Ec mF Qk (m:Int),(idx ((Ec mF Qk (m:Int)).map mF) (mF m):Int)):=by unfold pq;rw[y7,if_neg c3,dB]
    rw[e]at mK FR;dsimp only at FR mK;rw[en]at FR;unfold Ec at mK FR;rw[dB]at mK FR
    by_cases c5:mF m∈Qk.map mF
    ·rw[if_pos c5]at mK FR
     have hid:=oO c5;rw[dI]at hid;have YR:uQ mF Qk (mF m)=(idx (Qk.map mF) (mF m):Int)+1:=by unfold uQ;rw[if_pos c5]
     generalize idx (Qk.map mF) (mF m)=z at*
     repeat(first|refine GC ?_|refine gV (jj bL.eq aK.ty I I c2 hcell) ?_|refine gV (bY (j:=m) bL.eq aK.ty I I hm) ?_|refine gV (aC aK.ty I (fU (i:=2) I hm)) ?_|refine gV (de (b:=aE) I I (decide_eq_false J)) ?_|refine gV (bY (j:=mF m) bL.eq aK.ty I I J) ?_|refine gV (aC aK.ty I (fU (i:=3) I (show mF m<R.length+1 by omega))) ?_|refine gV (eC (r:=(z:Int)) I I J J J) ?_|refine gV (iL bL.eq bL.eq I (Pn J J)) ?_|refine gV (gY bL.eq aK.ty I I c2) ?_|refine GB ?_)
     refine re (i:=7) I I I c2 ?_;rw[EA vk z c2];refine zL ?_
     try refine GA ?_
     exact bW (vk.length+1,vK) (by show vk.length+1<=256;omega) (by show 256-(vk.length+1)<256-vk.length;omega) (hl:=by dsimp only;rw[mK])
    rw[if_neg c5]at mK FR;have YR:uQ mF Qk (mF m)=0:=by unfold uQ;rw[if_neg c5]
    have FH:=YL (q:=m) c5;have afU:uQ mF (Qk++[m]) (mF m)=(Qk.length:Int)+1:=by rw[FH,if_pos I]
    have ad3:idx ((Qk++[m]).map mF) (mF m)=Qk.length:=by
     have h1:=afU;unfold uQ at h1;rw[if_pos (by simp)]at h1;omega
    rw[ad3]at mK;rw[bK,lO]at FR
    repeat(first|refine GC ?_|refine gV (jj bL.eq aK.ty I I c2 hcell) ?_|refine gV (bY (j:=m) bL.eq aK.ty I I hm) ?_|refine gV (aC aK.ty I (fU (i:=2) I hm)) ?_|refine gV (de (b:=aE) I I (decide_eq_false (show ¬(mF m:Int)=0 by omega))) ?_|refine gV (bY (j:=mF m) bL.eq aK.ty I I J) ?_|refine gV (aC aK.ty I (fU (i:=3) I (show mF m<R.length+1 by omega))) ?_|refine gV (de (b:=aD) I I (decide_eq_true YR)) ?_|refine gV (iL bL.eq bL.eq I (nk J J)) ?_|refine GB ?_)
    refine jN (i:=8) I I I I I I (λz h=>by cases h;rfl) J J I λz v2=>?_;refine zL ?_
    repeat(first|refine GC ?_|refine gV (bY (j:=m) bL.eq aK.ty I I hm) ?_|refine gV (aC aK.ty I (fU (i:=2) I hm)) ?_|refine gV (bY (j:=mF m) bL.eq aK.ty I I J) ?_|refine gV (eR (i:=8) bL.eq I I) ?_|refine GB ?_)
    refine iJ (i:=3) (off:=mF m) (v:=((Qk.length+1:Nat):Int)) (uQ mF (Qk++[m])) aK.ty I I I I I J (λj hj=>by rw[FH];rfl) ?_;refine zL ?_
    repeat(first|refine GC ?_|refine gV (bY (j:=m) bL.eq aK.ty I I hm) ?_|refine gV (aC aK.ty I (fU (i:=2) I hm)) ?_|refine gV (bY (j:=mF m) bL.eq aK.ty I I J) ?_|refine gV (aC aK.ty I (fU (i:=3) I (show mF m<R.length+1 by omega))) ?_|refine gV (eC (r:=(Qk.length:Int)) I I J J J) ?_|refine gV (iL bL.eq bL.eq I (Pn J J)) ?_|refine gV (gY bL.eq aK.ty I I c2) ?_|refine GB ?_)
    refine re (i:=7) I I I c2 ?_;rw[EA vk (Qk.length:Int) c2];refine zL ?_
    try refine GA ?_
    exact bW (vk.length+1,v2) (by show vk.length+1<=256;omega) (by show 256-(vk.length+1)<256-vk.length;omega) (hl:=by dsimp only;rw[mK];simp)
   obtain rfl:k=256:=by omega
   have lf:=(hrw 256 (bm _)).len;obtain⟨E,hE⟩:=ael 256;have hv:=Fk 256;clear hrw ael Fk hst hd PH;generalize kN (fe R tags) mF q Q 256=RQ at*;obtain⟨Qe,ve⟩:=RQ;dsimp only at lf hE hv tc⊢;subst hE;rw[YN hv];rw[en]at lf;have hqe:((Q++E).map λq:Nat=>k9 q)[0+n]?=aj (k9 q):=by
    rw[cV,eX,gJ c1,bD c1,<-hQn];rfl
   have qD:(((Q++E).take (n+1)).map (fe R tags).tag).flatMap cU.eo=((Q.take n).map (fe R tags).tag).flatMap cU.eo++[k9 tags[q]]:=by
    rw[List.take_append_of_le_length J,iq c1,<-hQn,eO,gO,Jl,List.flatMap_singleton,htg];rfl
   rw[bK]at lf;have afV:n<(Q++E).length:=by rw[bK];omega
   repeat(first|refine GA ?_|refine gV (aC aK.ty I (aH (i:=4) I I)) ?_|refine gV (aO (i:=7) aK.ty I I (by rw[dU,dw])) ?_)
   refine jk (i:=5) I I (by rw[dU,dw]) I (by simpa using rb (vec ve)) I I (λz h=>by cases h;rfl) J J I λz v2=>?_;refine zL ?_
   try refine GA ?_
   refine aU (i:=5) I λoo mi=>?_;refine bU (i:=4) I I I oo mi I ?_;refine zL ?_
   try refine GA ?_
   refine xp (i:=8) I J λgQ' cQ' KP aim ahT=>?_;subst KP
   (repeat refine b9 ?_)
   refine dK ([aP g1 (iA (ap (aj ⟨b,off,ak⟩) R.length cr) (ap (aj ⟨bb,s9,ak⟩) tags.length ct)).cells 120,a_ 3 1 (ap (aj ⟨gQ',0,ak⟩) (Q++E).length cQ') (Q++E).length ((Q++E).map λq:Nat=>k9 q)]) (.calm 0 (.calm 2 (.calm 3 (.calm 4 (.calm 5 (.calm 6 (.calm 7 (.calm 8 (.calm 9 (.two 1 (.one 10 (.one 11 (.calm 12 (.one 13 (.done))))) 10 (.one 1 (.one 11 (.calm 12 (.one 13 (.done))))))))))))))) (bV [0,8]) ?_
   repeat(first|refine GW ?_|(refine GN ?_;first|refine QW (aC aK.ty I (aH (i:=0) I I)) ?_|refine QW (bY (j:=n) bL.eq aK.ty I I afV) ?_|refine QW (aC aK.ty I (jY (i:=1) I hqe)) ?_|refine QW (aX (j:=q) bL.eq aK.ty I I Jp) ?_|refine QW (aC aK.ty I (Mf _)) ?_))
   refine ez I I ?_ ?_
   ·refine du (aC aK.ty I (aH (i:=4) I I)) I I I (aM (bV [0,8]) ?_)
    refine aL I (fy I I I I I λahs=>aM (bV [0,8]) ?_);refine aL I (lg (i:=6) (q:=9) I I I I I I J J I λv3=>aM (bV [0,8]) ?_)
    try refine GW ?_
    refine aL I (aU (i:=6) I λyv zZ=>bU (i:=4) I I I yv zZ I (aM (bV [0,8]) ?_))
    try refine GW ?_
    try refine GA ?_
    refine dh [0,1,2,3,4,8,5,6] ?_;exact bW (f',n+1,Q++E,out++[vec ve],ap (aj ⟨gQ',0,ak⟩) (Q++E).length cQ',v2,v3) tc (mz f') (hl:=by dsimp only;rw[qD];simp;rfl)
   refine fy I I I I I λahs=>aM (bV [0,8]) ?_;refine aL I (du (aC aK.ty I (aH (i:=4) I I)) I I I (aM (bV [0,8]) ?_));refine aL I (lg (i:=6) (q:=9) I I I I I I J J I λv3=>aM (bV [0,8]) ?_)
   try refine GW ?_
   refine aL I (aU (i:=6) I λyv zZ=>bU (i:=4) I I I yv zZ I (aM (bV [0,8]) ?_))
   try refine GW ?_
   try refine GA ?_
   refine dh [0,1,2,3,4,8,5,6] ?_;exact bW (f',n+1,Q++E,out++[vec ve],ap (aj ⟨gQ',0,ak⟩) (Q++E).length cQ',v2,v3) tc (mz f') (hl:=by dsimp only;rw[qD];simp;rfl)
  obtain⟨e,rfl⟩:=jp _ _ _ _ hw c1;rw[e]
  repeat(first|refine GC ?_|refine gV (eR (i:=5) bL.eq I I) ?_|refine gV (aO (i:=4) aK.ty I I I) ?_|refine GB ?_)
  refine aU (i:=6) I λoo mi=>?_;refine aU (i:=7) I λyv zZ=>?_;refine aV (i:=1) (cs':=(iA vR vT).cells) I I I I (by show([vR,vT].all eQ)=aD;simp[mi,zZ]) I ?_;refine zL ?_
  try refine GA ?_
  refine ey (i:=1) I I I I I λw hm=>?_;exact hm.meets (S:=⟨λ(_:Value×Value)=>True,λx=> .tuple #[iA x.1 x.2,av az 0],λx=>[a_ 187 256 x.1 out.length (out.flatMap eH),a_ 3 1 x.2 (Q.map (fe R tags).tag).length ((Q.map (fe R tags).tag).flatMap cU.eo)]⟩) (vR,vT) trivial [6,7] aiz (by simp)
 ·have er:y' R tags=[]:=if_neg hc
  have et:za R tags=[]:=if_neg hc;unfold abI;rw[er,et];generalize l7 R tags=e at*;refine enter (args:=[iA (ap br R.length cr) (ap bt tags.length ct)]) (n:=113) Tryz.func39 I I I ?_;refine b9 (bz (bQ I I I λg1=>?_));refine aY I λg2=>?_;refine zL ?_
  repeat(first|refine GA ?_|refine gV (aO (i:=0) aK.ty I I I) ?_)
  refine aW (iM aI.en I I) (λw hm=>iS _ hm.below) I I I ?_;intro _ _
  repeat(first|refine GC ?_|refine gV (bB I PG) ?_|refine gV (dm (b:=aD) I I (decide_eq_true hc)) ?_|refine GB ?_)
  refine gh 1 ?_;refine zL ?_
  try refine GA ?_
  refine dF 187 256 (dF 3 1 ?_);refine ey (i:=1) I I I I I λw hm=>?_;exact hm.meets (S:=⟨λ(_:Value×Value)=>True,λx=> .tuple #[iA x.1 x.2,av az e],λx=>[a_ 187 256 x.1 0 [],a_ 3 1 x.2 0 []]⟩) (ap ak 0 0,ap ak 0 0) trivial [2,3] aiz I
end bZ
namespace bZ
open Go.RowKit cU dM yC cT
theorem RP{R:List Row}{tags:List Int}(h:l7 R tags=0):(∀r∈R,∀x∈r.toList,-32768<=x/\x<=32767)/\∀x∈tags,cU.dX x:=by
 obtain⟨hA,hl⟩:=uI h;have hle:R.length<=200:=hA.le;refine⟨λr hr x hx=>?_,λx hx=>?_⟩
 ·obtain⟨i,hi,rfl⟩:=g_.1 hr
  obtain⟨b,hb,rfl⟩:=g_.1 hx;have Nj:b<256:=by simpa using hb
  have:=hA.step i hi b Nj;rw[LP hi Nj]at this;have e:(fe R tags).n=R.length:=rfl;rw[nU];omega
 obtain⟨i,hi,rfl⟩:=g_.1 hx;have:=hA.tags i (by show i<R.length;omega);rw[y8 hi]at this;exact⟨by omega,by omega⟩
theorem Mem.afW{B:bR}{w:World}{L:List b_}{i j:Nat}{vr vt:Value}{R:List Row}{tags:List Int}(hm:Mem B L w)(hi:L[i]?=aj (a_ 187 256 vr R.length (R.flatMap eH)))(hj:L[j]?=aj (a_ 3 1 vt tags.length (tags.flatMap cU.eo)))(hc:l7 R tags=0):FK w vr vt R tags:=
 ⟨lI hi _ hm,lI hj _ hm,(RP hc).1,(RP hc).2⟩
end bZ
namespace bZ
open Go.RowKit cU dM yC cT
def fL(R:List Row)(i b:Nat):Int:=(R.getD i wt).toList.getD b 0
theorem uR{R:List Row}{i b:Nat}(h:i<R.length)(hb:b<256):fL R i b=(R[i])[b]:=LP (tags:=[]) h hb
def FT(R:List Row)(b k:Nat):Ee:=xQ λi:Fin 200=>if i<k then fL R i b else 0
def qI(R:List Row)(b:Nat):Ee:=FT R b R.length
theorem aem(R:List Row)(b:Nat):FT R b 0=eb 200 0:=by
 refine kf λi hi=>?_;unfold FT;simp
theorem YS(R:List Row)(b k:Nat)(h:k<200):(FT R b k).set k (fL R k b)=FT R b (k+1):=by
 refine kf λi hi=>?_;unfold FT;rw[uo,ke,ke];split
 ·rename_i e;subst e;simp
 have:i<k↔i<k+1:=by omega
 simp only[this]
theorem abK(c:Ee){i:Nat}(h:i<200)(x:Int):(xU c).toArray.setIfInBounds i (.int .i16 x)=(xU (c.set i x)).toArray:=by
 unfold xU;rw[YF,oM];simp
theorem YT:(cZ 200 (av .i16 0)).toArray=(xU (eb 200 0)).toArray:=by
 unfold xU;rw[PD,Jm]
theorem Mg(R:List Row)(b i:Nat)(h:i<R.length)(h2:R.length<=200):(qI R b).toList.getD i 0=fL R i b:=by
 unfold qI FT;rw[cH,bD (by simp;omega),Option.getD_some,nU,ke];simp[h]
theorem abL{R:List Row}(hr:∀r∈R,∀x∈r.toList,-32768<=x/\x<=32767){b:Nat}(hb:b<256):Ym (qI R b):=by
 intro i hi;unfold qI FT;rw[ke];dsimp only;split
 ·rename_i h
  rw[uR h hb];exact hr R[i] (cD h) _ (by rw[<-nU (h:=by simpa using hb)];exact cD _)
 omega
def np(R:List Row)(k:Nat):List Ee:=dH [] ((dV k).map (qI R))
theorem zb(R:List Row)(k:Nat):np R (k+1)=more (np R k) (qI R k):=by
 unfold np;rw[xO,eO,Jl,kE]
theorem RT{R:List Row}{k:Nat}(h:qI R k∈np R k):np R (k+1)=np R k:=by
 rw[zb];exact if_pos h
theorem RU{R:List Row}{k:Nat}(h:qI R k∉np R k):np R (k+1)=np R k++[qI R k]:=by
 rw[zb];exact if_neg h
theorem Cq(R:List Row):∀k,(np R k).length<=k
 |0=>bm _
 |k+1=>by
  have:=Cq R k
  by_cases c:qI R k∈np R k
  rw[RT c];omega;rw[RU c,bK,lO];omega
theorem RV(R:List Row)(k:Nat):∀j,k<=j->∃E,np R j=np R k++E
 |0,h=>⟨[],by obtain rfl:k=0:=J;rw[eG]⟩
 | j+1,h=>by
  by_cases c:k=j+1
  subst c;exact⟨[],by rw[eG]⟩;obtain⟨E,hE⟩:=RV R k j J;obtain⟨E',hE'⟩:=Di (np R j) (qI R j);exact⟨E++E',by rw[zb,hE',hE,eY]⟩
theorem Jq(R:List Row){b k:Nat}(h:b<k):qI R b∈np R k:=kF.2 (.inr (fa.2 ⟨b,by simpa using h,rfl⟩))
def pkN(R:List Row)(b:Nat):Nat:=idx (np R 256) (qI R b)
theorem aen{R:List Row}{k:Nat}(h:k<256):pkN R k=if qI R k∈np R k then idx (np R k) (qI R k)else(np R k).length:=by
 obtain⟨E,hE⟩:=RV R (k+1) 256 J;unfold pkN;rw[hE,pU (Jq R (mz k)),zb,qU]
 by_cases c:qI R k∈np R k
 rw[if_pos c,if_pos c];rw[if_neg c,if_neg c]
theorem YU(R:List Row){b:Nat}(h:b<256):pkN R b<(np R 256).length:=oO (Jq R h)
theorem RW(R:List Row){b:Nat}(h:b<256):pkN R b<256:=jv (YU R h) (Cq R 256)
abbrev Of:=Vector Nat 256
def xW(R:List Row)(k:Nat):Of:=xQ λb:Fin 256=>if b<k then pkN R b else 0
theorem acX(R:List Row):xW R 0=eb 256 0:=by
 refine kf λi hi=>?_;unfold xW;simp
theorem abM(R:List Row)(k:Nat)(h:k<256):(xW R k).set k (pkN R k)=xW R (k+1):=by
 refine kf λi hi=>?_;unfold xW;rw[uo,ke,ke];split
 ·rename_i e;subst e;simp
 have:i<k↔i<k+1:=by omega
 simp only[this]
def Cr(D:List Ee)(i:Nat):List Int:=D.map λc=>c.toList.getD i 0
def Uk(R:List Row):List (List Int):=(dV R.length).map (Cr (np R 256))
def eP(o:Of)(vn vt:Value):List Value:=o.toList.map (λn:Nat=> .int .u8 (n:Int))++[vn,vt]
def Nu(o:Of)(vn vt:Value):Value:=aQ (eP o vn vt).toArray
theorem fH(o:Of)(vn vt:Value):(eP o vn vt).length=258:=by simp[eP]
theorem ko(o:Of)(vn vt:Value):(eP o vn vt).toArray.size=258:=by rw[dU,fH]
theorem afX(o:Of)(vn vt:Value){b:Nat}(h:b<256):(eP o vn vt).toArray[b]?=aj (.int .u8 (o[b]:Int)):=by
 rw[jf];unfold eP;rw[gJ (by simpa using h),eX,bD (by simpa using h),nU];rfl
theorem lB(o:Of)(vn vt:Value):(eP o vn vt).toArray[256]?=aj vn:=by
 rw[jf];unfold eP;rw[mP (by simp)];simp
theorem nr(o:Of)(vn vt:Value):(eP o vn vt).toArray[257]?=aj vt:=by
 rw[jf];unfold eP;rw[mP (by simp)];simp
theorem xX(o:Of){vn vt:Value}(h1:vn.oneCell'=aD)(h2:vt.oneCell'=aD):(eP o vn vt).toArray.toList.all eQ=true:=by
 refine qj.2 λu hu=>?_;unfold eP at hu;simp only[fj,fa,dx,fl,or_false]at hu;rcases hu with⟨n,_,rfl⟩|rfl|rfl
 rfl;exact h1;exact h2
theorem aeo(o:Of)(vn vt:Value){b:Nat}(h:b<256)(x:Nat):(eP o vn vt).toArray.setIfInBounds b (.int .u8 (x:Int))=(eP (o.set b x) vn vt).toArray:=by
 unfold eP;rw[YF,oM];simp[AK,h]
theorem Jr:(cZ 256 (av .u8 0)++([ap ak 0 0,ap ak 0 0]:List Value)).toArray=(eP (eb 256 0) (ap ak 0 0) (ap ak 0 0)).toArray:=by
 unfold eP;rw[PD,Jm];rfl
theorem Ul(w:World):(df 31 #[]).run aB w= .ok (Nu (eb 256 0) (ap ak 0 0) (ap ak 0 0)) w:=by kernel_rfl
theorem Mh(g h n m cap:Nat)(w:World):(df 31 #[(1,ap (aj ⟨g,0,ak⟩) n n),(2,ap (aj ⟨h,0,ak⟩) m cap)]).run aB w= .ok (Nu (eb 256 0) (ap (aj ⟨g,0,ak⟩) n n) (ap (aj ⟨h,0,ak⟩) m cap)) w:=by kernel_rfl
end bZ
namespace gu
open dg fZ
open aT (dv Prod d_)
abbrev Mi:=Bs->Option dv
def FU(m:Mi)(x:Bs)(s:dv):Mi:=λy=>if y=x then aj s else m y
abbrev WS:=List Int×Int×Mi
def jb(s:WS)(w:Wd):WS:=if w.1=[]then(s.1++[-1],s.2)else(s.1++[s.2.1],s.2.1+1,FU s.2.2 w.1 (1,s.2.1))
abbrev HS:=Int×Mi
def sS(s:HS)(r:Rl):HS:=if(s.2 r.1).isSome then s else(s.1+1,FU s.2 r.1 (2,s.1))
def pM(m:Mi)(x:Bs):dv:=(m x).getD (0,0)
def zc(m:Mi)(r:Rl):Prod:=((pM m r.1).2,r.2.map (pM m))
def ws0:WS:=([],0,λ_=>ak)
def Js(l:List Wd):WS:=l.foldl jb ws0
def hsN(s:Sp):HS:=s.rules.foldl sS (0,(Js s.words).2.2)
def cX(s:Sp):d_:=⟨(Js s.words).2.1,(hsN s).1,s.rules.map (zc (hsN s).2)⟩
def uS(s:Sp):Int:=if aT.bX (cX s)≠0 then 2 else 0
def Small(m:Mi):Prop:=∀y s,m y=aj s->0<=s.1/\s.1<=2/\0<=s.2/\s.2<=1000
theorem Um:Small λ_=>none:=λ_ _ h=>by cases h
theorem Hl{m:Mi}(h:Small m){x:Bs}{s:dv}(h1:0<=s.1/\s.1<=2/\0<=s.2/\s.2<=1000):Small (FU m x s):=λy z hz=>by
 unfold FU at hz;split at hz
 cases hz;exact h1
 exact h y z hz
theorem Hm{m:Mi}(h:Small m)(x:Bs):0<=(pM m x).1/\(pM m x).1<=2/\0<=(pM m x).2/\(pM m x).2<=1000:=by
 unfold pM
 cases hx:m x with
 |none=>exact⟨by decide,by decide,by decide,by decide⟩
 |some s=>exact h x s hx
theorem step_take{α σ:Type}(f:σ->α->σ)(s:σ)(l:List α){k:Nat}(h:k<l.length):(l.take (k+1)).foldl f s=f ((l.take k).foldl f s) l[k]:=by
 rw[iq h,List.foldl_append];rfl
theorem YV(s:WS)(w:Wd)(k:Nat)(h:k<60)(a1:s.1.length=k)(a2:0<=s.2.1)(a3:s.2.1<=k)(a4:Small s.2.2):
 (jb s w).1.length=k+1/\0<=(jb s w).2.1/\(jb s w).2.1<=((k+1:Nat):Int)/\Small (jb s w).2.2:=by
 unfold jb;split
 ·exact⟨by rw[bK,a1];rfl,a2,by show s.2.1<=_;omega,a4⟩
 ·exact⟨by rw[bK,a1];rfl,by show 0<=s.2.1+1;omega,by show s.2.1+1<=((k+1:Nat):Int);omega,Hl a4 ⟨(by decide:(0:Int)<=1),(by decide:(1:Int)<=2),a2,by show s.2.1<=1000;omega⟩⟩
theorem YW(l:List Wd):∀k,k<=l.length->k<=60->((l.take k).foldl jb ws0).1.length=k/\0<=((l.take k).foldl jb ws0).2.1/\((l.take k).foldl jb ws0).2.1<=k/\Small ((l.take k).foldl jb ws0).2.2
 |0,_,_=>⟨rfl,k8 _,k8 _,Um⟩
 |k+1,h,h60=>by
  obtain⟨a1,a2,a3,a4⟩:=YW l k J J;rw[step_take _ _ _ (show k<l.length by omega)];exact YV _ _ k J a1 a2 a3 a4
theorem YX(s:HS)(r:Rl)(k:Nat)(h:k<60)(a2:0<=s.1)(a3:s.1<=k)(a4:Small s.2):
 0<=(sS s r).1/\(sS s r).1<=((k+1:Nat):Int)/\Small (sS s r).2:=by
 unfold sS;split
 ·exact⟨a2,by show s.1<=_;omega,a4⟩
 ·exact⟨by show 0<=s.1+1;omega,by show s.1+1<=((k+1:Nat):Int);omega,Hl a4 ⟨(by decide:(0:Int)<=2),(by decide:(2:Int)<=2),a2,by show s.1<=1000;omega⟩⟩
theorem acY(l:List Rl)(m:Mi)(hm:Small m):∀k,k<=l.length->k<=60->0<=((l.take k).foldl sS (0,m)).1/\((l.take k).foldl sS (0,m)).1<=k/\Small ((l.take k).foldl sS (0,m)).2
 |0,_,_=>⟨k8 _,k8 _,hm⟩
 |k+1,h,h60=>by
  obtain⟨a2,a3,a4⟩:=acY l m hm k J J;rw[step_take _ _ _ (show k<l.length by omega)];exact YX _ _ k J a2 a3 a4
end gu
namespace bZ
open Go.RowKit cU dM gu
def iY(vo:Value)(pk tl:List Value):List Value:=vo::(pk++tl)
def fR(t n:Int)(vp:Value)(mode:Int)(rows dD gt:Value):List Value:=[av az t,av az n,vp,av az mode,rows,dD,gt]
def Va:List Value:=eP (eb 256 0) (ap ak 0 0) (ap ak 0 0)
theorem iQ:Va.length=258:=fH _ _ _
def Fo:List Value:=iY (ap ak 0 0) Va (fR 0 0 (ap ak 0 0) 0 (ap ak 0 0) (ap ak 0 0) (ap ak 0 0))
theorem sA:(([ap ak 0 0]:List Value)++cZ 256 (av .u8 0)++([ap ak 0 0,ap ak 0 0,av az 0,av az 0,ap ak 0 0,av az 0,ap ak 0 0,ap ak 0 0,ap ak 0 0]:List Value)).toArray=Fo.toArray:=by
 have e:∀z:List Value,(([ap ak 0 0]:List Value)++z++([ap ak 0 0,ap ak 0 0,av az 0,av az 0,ap ak 0 0,av az 0,ap ak 0 0,ap ak 0 0,ap ak 0 0]:List Value)).toArray=((ap ak 0 0:Value)::((z++[ap ak 0 0,ap ak 0 0])++fR 0 0 (ap ak 0 0) 0 (ap ak 0 0) (ap ak 0 0) (ap ak 0 0))).toArray:=λz=>by simp[fR]
 unfold Fo iY Va eP;rw[PD,Jm];exact e _
theorem Un(w:World):(df 39 #[]).run aB w= .ok (aQ Fo.toArray) w:=by
 rw[<-sA];kernel_rfl
theorem jc{vo:Value}{pk tl:List Value}(j:Nat)(hp:pk.length=258){k:Nat}{v:Value}(h:tl[j]?=aj v)(hk:k=j+259):(iY vo pk tl).toArray[k]?=aj v:=by
 subst hk;rw[jf,iY,CO,mP J,show j+258-pk.length=j by omega];exact h
theorem aep{vo:Value}{pk tl:List Value}(j:Nat)(hp:pk.length=258){k:Nat}(v:Value)(hk:k=j+259):(iY vo pk tl).toArray.setIfInBounds k v=(iY vo pk (tl.set j v)).toArray:=by
 subst hk;rw[List.setIfInBounds_toArray,iY,List.set_cons_succ,AK,if_neg J,show j+258-pk.length=j by omega];rfl
theorem kp{vo:Value}{pk tl:List Value}(hp:pk.length=258)(ht:tl.length=7):(iY vo pk tl).toArray.size=266:=by
 rw[dU,iY,c_,bK];omega
theorem uT{vo:Value}{pk tl:List Value}(h1:vo.oneCell'=aD)(h2:pk.all eQ=aD)(h3:tl.all eQ=aD):(iY vo pk tl).toArray.toList.all eQ=true:=by
 rw[iY,cY,List.all_append,h1,h2,h3];rfl
theorem RX:Va.all eQ=true:=by
 have:=xX (eb 256 0) (vn:=ap ak 0 0) (vt:=ap ak 0 0) I I
 simpa[Va]using this
theorem sB{vo:Value}{pk:List Value}(hp:pk.length=258){t n mode:Int}{vp rows dD gt v:Value}{j:Nat}(h:[av az t,av az n,vp][j]?=aj v):(iY vo pk (fR t n vp mode rows dD gt)).toArray[0+259+j]?=aj v:=by
 match j,h with
 |0,h=>exact jc 0 hp h I
 |1,h=>exact jc 1 hp h I
 |2,h=>exact jc 2 hp h I
 |n+3,h=>cases h
section
variable{P:Program}{n:Nat}{W:bR}{fr:Fr}{L:List b_}{Q:Exit->Act->World->Prop}{ops:Array Oper}{rest:List Oper}{ty:TypeId}{pos:String}{after:Array Edge}{t:TypeId}{p x:Operand}{i g k:Nat}{vo:Value}{pk tl:List Value}{T:TypeId}{agg:Bool}{v:Value}
theorem dW(j:Nat)[hT:aK P t agg 1](hi:L[i]?=aj (aP g (iY vo pk tl).toArray T))(hp:ev fr p=aj (aJ (aj ⟨g,k,ak⟩)))(hx:ev fr x=aj v)(hv:v.cells=#[v])(h1:v.oneCell'=aD)(hk:k=j+259)(dS:pk.length=258)(hj:dj j tl.length=aD)
 (h:TL P n W ops Q rest fr (L.set i (aP g (iY vo pk (tl.set j v)).toArray T))):TL P n W ops Q (⟨ak,.store t p x,ty,pos,after,ak⟩::rest) fr L:=by
 have hj:j<tl.length:=Nat.le_of_ble_eq_true hj;refine bU hi hp hx hv h1 ?_ ?_
 ·rw[dU,iY,c_,bK]
  exact Nat.ble_eq_true_of_le J
 ·rw[aep j dS v hk];exact h
theorem xY[hT:aK P t agg 1](hi:L[i]?=aj (aP g (iY vo pk tl).toArray T))(hp:ev fr p=aj (aJ (aj ⟨g,k,ak⟩)))(hx:ev fr x=aj v)(hv:v.cells=#[v])(h1:v.oneCell'=aD)(hk:k=0)
 (h:TL P n W ops Q rest fr (L.set i (aP g (iY v pk tl).toArray T))):TL P n W ops Q (⟨ak,.store t p x,ty,pos,after,ak⟩::rest) fr L:=by
 subst hk;refine bU hi hp hx hv h1 I ?_;exact h
theorem PI{pk':List Value}[hT:aK P t agg 258](hi:L[i]?=aj (aP g (iY vo pk tl).toArray T))(hp:ev fr p=aj (aJ (aj ⟨g,k,ak⟩)))(hx:ev fr x=aj (aQ pk'.toArray))(h1:pk'.all eQ=aD)(hk:k=1)(dS:pk.length=258)(aht:pk'.length=258)
 (h:TL P n W ops Q rest fr (L.set i (aP g (iY vo pk' tl).toArray T))):TL P n W ops Q (⟨ak,.store t p x,ty,pos,after,ak⟩::rest) fr L:=by
 subst hk;refine tH hT.ty hi hp hx (by simpa[sw]using aht) (by simpa[sw]using h1) (by rw[dU,iY,c_,bK];omega) ?_ h;apply rF;show vo::(pk'++tl)=YD 1 (vo::(pk++tl))++pk'++YE (1+258) (vo::(pk++tl))
 rw[wX,nM,show 1+258=258+1 from I,Jk,List.drop_append_of_le_length J,jg J];rfl
theorem PJ{a b c d e f f' u u':Value}[hT:aK P t agg 2](hi:L[i]?=aj (aP g (iY vo pk [a,b,c,d,e,f,f']).toArray T))(hp:ev fr p=aj (aJ (aj ⟨g,k,ak⟩)))(hx:ev fr x=aj (aQ #[u,u']))(h1:u.oneCell'=aD)(h2:u'.oneCell'=aD)(hk:k=264)(dS:pk.length=258)
 (h:TL P n W ops Q rest fr (L.set i (aP g (iY vo pk [a,b,c,d,e,u,u']).toArray T))):TL P n W ops Q (⟨ak,.store t p x,ty,pos,after,ak⟩::rest) fr L:=by
 subst hk;refine tH hT.ty hi hp hx I (by simp[sw,h1,h2]) (by rw[dU,iY,c_,bK];simp[dS]) ?_ h;apply rF;show vo::(pk++[a,b,c,d,e,u,u'])=YD (263+1) (vo::(pk++[a,b,c,d,e,f,f']))++[u,u']++YE (265+1) (vo::(pk++[a,b,c,d,e,f,f']))
 rw[wX,Jk,show 263=pk.length+5 by omega,List.take_append,gK J,show 265=pk.length+7 by omega,List.drop_append,jg J];simp
end
end bZ
namespace bZ
open Go.RowKit cU dM aT
theorem PL(h:Int)(w:World):(df 132 #[(0,av az h)]).run aB w= .ok (aQ #[av az h,ap ak 0 0]) w:=by
 go_simp
end bZ
namespace bZ
open Go.RowKit cU dM aT
theorem gok{x:Int}(h:0<=x/\x<1000000000):cU.dX x:=by unfold cU.dX;omega
theorem xZ{F:Nat->Prop}{vp:Value}{l:List aT.Prod}{w:World}{t n:Int}(ht:cU.dX t)(hn:cU.dX n)(h:(nR F vp l).holds w):jZ (λk=>k<w.heap.size) w (dE t n vp) ⟨t,n,l⟩:=by
 obtain⟨⟨v',hv,h1⟩,h2⟩:=h;simp only[fO,and_true]at hv;subst hv;exact⟨vp,rfl,h1.mono h2,ht,hn⟩
end bZ
namespace bZ
open Go.RowKit cU dM dg fZ gu aT
def ze(s:dv):Value:=aQ (ep s).toArray
theorem vZ(w:World):(zeroValue 156).run aB w= .ok (ze (0,0)) w:=by kernel_rfl
theorem PM(s:dv)(w:World):(Instr.field 156 (ze s) 1).run aB w= .ok (av az s.2) w:=by
 obtain⟨a,b⟩:=s
 kernel_rfl
theorem Mj{P:Program}{k:TypeId}{κ:Type}{K:yx P k κ}{W:bR}{fr:Fr}{L:List b_}{n:Nat}{dst:Option Tmp}{ty:TypeId}{pos:String}{after:Array Edge}{guard:Option (Nat×Bool)}{i g c:Nat}{t e:TypeId}{m:κ->Option Value}{x:κ}{z v:Value}{xm xk:Operand}(ht:P.underlying t=aj (.map k e))(hz:∀w,(zeroValue e).run P w= .ok z w)(hi:L[i]?=aj (eZ K g m c))(hm:ev fr xm=aj (.map (aj g)))(hk:ev fr xk=aj (K.kv x))(hx:K.ok x)(hv:(m x).getD z=v):RR P n W ⟨dst,.lookup t xm xk aE,ty,pos,after,guard⟩ fr L v:=by
 subst hv;exact aav K ht hz hi hm hk hx
def Bp(m:Bs->Option Value)(M:Mi):Prop:=∀y,m y=(M y).map ze
theorem Uo:Bp (λ_=>ak) (λ_=>ak):=λ_=>rfl
theorem Hn{m:Bs->Option Value}{M:Mi}(h:Bp m M){x:Bs}{s:dv}{v:Value}(hv:v=ze s):Bp (λy=>if y=x then aj v else m y) (FU M x s):=λy=>by
 unfold FU;dsimp only;subst hv
 by_cases e:y=x
 rw[if_pos e,if_pos e];rfl;rw[if_neg e,if_neg e];exact h y
theorem Ho{m:Bs->Option Value}{M:Mi}(h:Bp m M)(x:Bs):(m x).getD (ze (0,0))=ze (pM M x):=by
 rw[h x];unfold pM
 cases M x<;>rfl
theorem PN{m:Bs->Option Value}{M:Mi}(h:Bp m M){x:Bs}(hx:M x=ak):m x=none:=by rw[h x,hx];rfl
theorem PO{m:Bs->Option Value}{M:Mi}(h:Bp m M){x:Bs}{s:dv}(hx:M x=aj s):m x=aj (ze s):=by rw[h x,hx];rfl
def EB(gp:Nat)(e:Int)(len:Nat)(of:List Int)(g:d_):Spec (Value×Value×(Nat->Prop)):=
 ⟨λx=>x.1.oneCell'=aD/\x.2.1.oneCell'=aD,λ_=>av az e,λx=>[aP gp (iY x.1 Va (fR g.aR g.bC x.2.1 0 (ap ak 0 0) (ap ak 0 0) (ap ak 0 0))).toArray 39,a_ 3 1 x.1 len (of.map (av .i64)),nR x.2.2 x.2.1 g.aF]⟩
def Jt(gp:Nat)(s:Sp):Spec (Value×Value×(Nat->Prop)):=EB gp (uS s) s.words.length (Js s.words).1 (cX s)
theorem FV(vw vr:Value)(s:Sp)(gp:Nat)(w0:World)(hv:RL (pD w0) w0 (aQ #[vw,vr]) s)(hlw:s.words.length<=60)(NW:s.rules.length<=60)(G9:∀r∈s.rules,r.2.length<=8796093021952)(w:World)(B:bR)(ho:pC w0 B)(hm:Mem B [aP gp Fo.toArray 39] w):
 Calls aB 37 #[aQ #[vw,vr],aJ (aj ⟨gp,0,ak⟩)] w (dc (Jt gp s) B):=by
 obtain⟨Ju,BO,hvv,hw,hr⟩:=hv;obtain⟨rfl,rfl⟩:vw=Ju/\vr=BO:=by simpa using hvv
 clear hvv;obtain⟨words,rules⟩:=s;dsimp only at*;obtain⟨bw,cw,rfl,-,-,PP⟩:=hw;obtain⟨br,cr,rfl,-,-,YY⟩:=hr;refine dA hm (args:=[aQ #[ap bw words.length cw,ap br rules.length cr],aJ (aj ⟨gp,0,ak⟩)]) (n:=153) Tryz.func37 I I I ?_;refine b9 (bz (bQ I I I λg2=>?_));refine zL ?_
 try refine GA ?_
 refine xl hZ I λgm=>?_;refine zL ?_
 repeat(first|refine GA ?_|refine gV (aC (v:=ap bw words.length cw) aK.ty I (aH (i:=1) I I)) ?_)
 refine ja 3 1 ?_;refine dY (ι:=Nat×List Int×Int×Mi×Value×(Bs->Option Value)×Nat)
  (λ(k,of,t,M,vo,m,n)=>k<=words.length/\n<=k/\(words.take k).foldl jb ws0=(of,t,M)/\Bp m M/\vo.oneCell'=aD)
  (λ(k,_,_,_,_,_,_)=>[(1,aJ (aj ⟨gp,0,ak⟩)),(2,aJ (aj ⟨g2,0,ak⟩)),(5,.map (aj gm)),(19,ap bw words.length cw),(20,av az words.length),(21,av az (k:Int))])
  (λ(k,of,t,_,vo,m,n)=>[aP gp (iY vo Va (fR t 0 (ap ak 0 0) 0 (ap ak 0 0) (ap ak 0 0) (ap ak 0 0))).toArray 39,aP g2 #[ap bw words.length cw,ap br rules.length cr] 25,eZ hZ gm m n,a_ 3 1 vo k (of.map (av .i64))])
  (λ(k,_,_,_,_,_,_)=>words.length-k) (0,[],0,λ_=>ak,ap ak 0 0,λ_=>ak,0) ⟨bH _,bm _,rfl,Uo,rfl⟩ ?_
 clear hm;rintro⟨k,of,t,M,vo,m,n⟩ ⟨i1,i2,i3,i4,i5⟩;dsimp only at i1 i2 i3 i4 i5⊢;have hws:=YW words k i1 J;rw[i3]at hws;obtain⟨s1,s2,s3,s4⟩:=hws;dsimp only at s1 s2 s3 s4
 by_cases c1:k<words.length
 ·obtain⟨b,off,rfl,_,hr⟩:=PP J
  obtain⟨bk,ck,q1,q2,q3⟩:=RM hr c1;have hst:=step_take jb ws0 words c1;rw[i3]at hst;have dz:∀(L:List b_) (j:Nat) (u:Value),(yg words[k].1 words[k].2.kind words[k].2.tK (.slice bk words[k].2.kids.length ck))[j]?=aj u->At B L ⟨b,off+k*7+j,ak⟩ u:=λL j u hj=>iw ho (q1 j u hj);clear hr PP YY q1 q2;generalize words[k]=wd at*;obtain⟨nm,r⟩:=wd;dsimp only at*;generalize r.kind=rk at*;generalize r.tK=rc at*;generalize r.kids.length=rn at*
  repeat(first|refine GA ?_|refine gV (aX bL.eq aK.ty I I c1) ?_|refine gV (a8 (cs:=yg nm rk rc (ap bk rn ck)) aK.ty I I (dz _)) ?_)
  clear dz;refine aY I λg7=>?_;refine zL ?_;refine gh 4 (cs':=(yg nm rk rc (ap bk rn ck)).toArray) ?_;refine zL ?_
  by_cases e0:nm=[]
  ·subst e0
   repeat(first|refine GC ?_|refine gV (aC (v:=str []) aK.ty I (aH (i:=4) I I)) ?_|refine gV (oI (b:=aD) I I I) ?_|refine gV (aC (v:=vo) aK.ty I (aH (i:=0) I I)) ?_|refine GB ?_)
   refine jN (i:=3) I I I I I I (λz h=>by cases h;rfl) J J I λz' v'=>?_;refine zL ?_
   try refine GA ?_
   refine aU (i:=3) I λoo mi=>?_;refine xY (i:=0) I I I oo mi I ?_;refine zL ?_
   try refine GA ?_
   refine dh [0,1,2,3] ?_;exact bW (k+1,of++[-1],t,M,v',m,n) ⟨by omega,by show n<=k+1;omega,hst,i4,mi⟩ (by show words.length-(k+1)<words.length-k;omega) (hl:=by dsimp only;rw[eO];rfl)
  rw[show jb (of,t,M) (nm,r)=(of++[t],t+1,FU M nm (1,t))from if_neg e0]at hst
  repeat(first|refine GC ?_|refine gV (aC (v:=str nm) aK.ty I (aH (i:=4) I I)) ?_|refine gV (oI (b:=aE) I I (decide_eq_false e0)) ?_|refine GB ?_)
  (repeat refine b9 ?_)
  refine dK ([aP gp (iY vo Va (fR t 0 (ap ak 0 0) 0 (ap ak 0 0) (ap ak 0 0) (ap ak 0 0))).toArray 39,aP g7 (yg nm rk rc (ap bk rn ck)).toArray 83]) (.calm 0 (.calm 1 (.calm 2 (.calm 3 (.calm 4 (.calm 5 (.calm 6 (.calm 7 (.calm 8 (.one 9 (.done))))))))))) (bV [0,4]) ?_
  repeat(first|refine GW ?_|(refine GN ?_;first|refine QW (aC (v:=str nm) aK.ty I (aH (i:=1) I I)) ?_|refine QW (aC (v:=av az t) aK.ty I (aH (i:=0) I (jc 0 iQ I I))) ?_|refine QW (bB I (Me _ _)) ?_))
  refine aL I (lX (i:=2) (x:=nm) (v:=ze (1,t)) hZ bL.eq I I I I q3 J (aM (bV [0,4]) ?_));refine zL ?_
  try refine GW ?_
  try refine GA ?_
  (repeat refine b9 ?_)
  refine dK ([]) (.calm 0 (.calm 1 (.calm 2 (.calm 3 (.calm 5 (.calm 6 (.calm 7 (.calm 8 (.two 4 (.one 9 (.one 10 (.one 11 (.calm 12 (.calm 13 (.one 14 (.done))))))) 9 (.two 4 (.one 10 (.one 11 (.calm 12 (.calm 13 (.one 14 (.done)))))) 10 (.one 4 (.one 11 (.calm 12 (.calm 13 (.one 14 (.done)))))))))))))))) (bV []) ?_
  try refine GW ?_
  refine ez I I ?a1 ?a2
  case' a2=>
   refine du (aC (v:=av az t) aK.ty I (aH (i:=0) I (jc 0 iQ I I))) I I I (aM (bV []) ?_);refine ez I I ?a3 ?a4
  case' a4=>
   refine fy (cs:=#[av az t]) I I I I I λg56=>aM (bV []) ?_;refine aL I (du (aC (v:=vo) aK.ty I (aH (i:=0) I I)) I I I (aM (bV []) ?_))
  case' a3=>
   refine du (aC (v:=vo) aK.ty I (aH (i:=0) I I)) I I I (aM (bV []) ?_);refine aL I (fy (cs:=#[av az t]) I I I I I λg56=>aM (bV []) ?_)
  case' a1=>
   refine du (aC (v:=vo) aK.ty I (aH (i:=0) I I)) I I I (aM (bV []) ?_);refine aL I (du (aC (v:=av az t) aK.ty I (aH (i:=0) I (jc 0 iQ I I))) I I I (aM (bV []) ?_));refine aL I (fy (cs:=#[av az t]) I I I I I λg56=>aM (bV []) ?_)
  all_goals
   refine zL ?_;refine aL I (lg (i:=3) (q:=5) I I I I I I J J I λv'=>aM (bV []) ?_);refine zL ?_
   try refine GW ?_
   refine aL I (aU (i:=3) I λoo mi=>xY (i:=0) I I I oo mi I (aM (bV []) ?_));refine zL ?_
   try refine GW ?_
   repeat(first|refine GA ?_|refine gV (aC (v:=av az t) aK.ty I (aH (i:=0) I (jc 0 iQ I I))) ?_)
   refine dW 0 (i:=0) I I I I I I iQ I ?_;refine zL ?_
   try refine GA ?_
   refine dh [0,1,2,3] ?_;exact jy (k+1,of++[t],t+1,FU M nm (1,t),v',_,_) ⟨by omega,by show(if(m nm).isSome then n else n+1)<=k+1;split<;>omega,hst,Hn i4 I,mi⟩ (by show words.length-(k+1)<words.length-k;omega) (by repeat' (first|exact cI|refine cC I ?_)) (by dsimp only;rw[eO];rfl)
 ·obtain rfl:k=words.length:=by omega
  rw[my]at i3;have hW:Js words=(of,t,M):=i3;clear PP
  repeat(first|refine GA ?_|refine gV (aC (v:=ap br rules.length cr) aK.ty I (aH (i:=1) I I)) ?_)
  refine dY (ι:=Nat×Int×Mi×(Bs->Option Value)×Nat)
   (λ(j,N,M2,m2,n2)=>j<=rules.length/\n2<=60+j/\(rules.take j).foldl sS (0,M)=(N,M2)/\Bp m2 M2)
   (λ(j,_,_,_,_)=>[(1,aJ (aj ⟨gp,0,ak⟩)),(2,aJ (aj ⟨g2,0,ak⟩)),(5,.map (aj gm)),(71,ap br rules.length cr),(72,av az rules.length),(73,av az (j:Int))])
   (λ(_,N,_,m2,n2)=>[aP gp (iY vo Va (fR t N (ap ak 0 0) 0 (ap ak 0 0) (ap ak 0 0) (ap ak 0 0))).toArray 39,aP g2 #[ap bw words.length cw,ap br rules.length cr] 25,eZ hZ gm m2 n2,a_ 3 1 vo words.length (of.map (av .i64))])
   (λ(j,_,_,_,_)=>rules.length-j) (0,0,M,m,n) ⟨bH _,by omega,rfl,i4⟩ ?_
  clear i4;rintro⟨j,N,M2,m2,n2⟩ ⟨j1,j2,j3,j4⟩;dsimp only at j1 j2 j3 j4⊢;have hhs:=acY rules M s4 j j1 J;rw[j3]at hhs;obtain⟨u1,u2,u3⟩:=hhs;dsimp only at u1 u2 u3
  by_cases c2:j<rules.length
  ·obtain⟨b,off,rfl,_,eL⟩:=YY J
   obtain⟨bk,ck,q1,-,q3⟩:=Cp eL c2;have hst:=step_take sS (0,M) rules c2;rw[j3]at hst;have dz:∀(L:List b_) (j':Nat) (u:Value),([str rules[j].1,.slice bk rules[j].2.length ck]:List Value)[j']?=aj u->At B L ⟨b,off+j*2+j',ak⟩ u:=λL j' u hj=>iw ho (q1 j' u hj);clear eL q1 YY;generalize rules[j]=r at*;obtain⟨nm,bd⟩:=r;dsimp only at*;generalize bd.length=bn at*
   repeat(first|refine GA ?_|refine gV (aX bL.eq aK.ty I I c2) ?_|refine gV (a8 (cs:=[str nm,ap bk bn ck]) aK.ty I I (dz _)) ?_)
   clear dz;refine aY I λg9=>?_;refine zL ?_;refine gh 4 (cs':=#[str nm,ap bk bn ck]) ?_;refine zL ?_
   cases hM:M2 nm with
   | some x=>
    rw[show sS (N,M2) (nm,bd)=(N,M2)from if_pos (by show(M2 nm).isSome=aD;rw[hM];rfl)]at hst
    repeat(first|refine GA ?_|refine gV (aC (v:=str nm) aK.ty I (aH (i:=4) I I)) ?_|refine gV (jB hZ (x:=nm) bL.eq vZ (i:=2) I I I q3 (PO j4 hM)) ?_)
    refine aY I λg10=>?_;refine zL ?_;refine gh 5 (cs':=(ep x).toArray) ?_;refine zL ?_
    try refine GA ?_
    refine dh [0,1,2,3] ?_;exact bW (j+1,N,M2,m2,n2) ⟨by omega,by show n2<=60+(j+1);omega,hst,j4⟩ (by show rules.length-(j+1)<rules.length-j;omega)
   | none=>
    rw[show sS (N,M2) (nm,bd)=(N+1,FU M2 nm (2,N))from if_neg (by show ¬(M2 nm).isSome=aD;rw[hM];decide)]at hst
    repeat(first|refine GA ?_|refine gV (aC (v:=str nm) aK.ty I (aH (i:=4) I I)) ?_|refine gV (jC hZ (x:=nm) bL.eq vZ (i:=2) I I I q3 (PN j4 hM)) ?_)
    refine aY I λg10=>?_;refine zL ?_;refine gh 5 (cs':=(ep (0,0)).toArray) ?_;refine zL ?_
    try refine GA ?_
    (repeat refine b9 ?_)
    refine dK ([aP gp (iY vo Va (fR t N (ap ak 0 0) 0 (ap ak 0 0) (ap ak 0 0) (ap ak 0 0))).toArray 39,aP g9 #[str nm,ap bk bn ck] 86]) (.calm 0 (.calm 1 (.calm 2 (.calm 3 (.calm 4 (.calm 5 (.calm 6 (.calm 7 (.calm 8 (.one 9 (.done))))))))))) (bV [0,4]) ?_
    repeat(first|refine GW ?_|(refine GN ?_;first|refine QW (aC (v:=str nm) aK.ty I (aH (i:=1) I I)) ?_|refine QW (aC (v:=av az N) aK.ty I (aH (i:=0) I (jc 1 iQ I I))) ?_|refine QW (bB I (Me _ _)) ?_))
    refine aL I (lX (i:=2) (x:=nm) (v:=ze (2,N)) hZ bL.eq I I I I q3 J (aM (bV [0,4]) ?_));refine zL ?_
    try refine GW ?_
    repeat(first|refine GA ?_|refine gV (aC (v:=av az N) aK.ty I (aH (i:=0) I (jc 1 iQ I I))) ?_)
    refine dW 1 (i:=0) I I I I I I iQ I ?_;refine zL ?_
    try refine GA ?_
    refine dh [0,1,2,3] ?_;exact jy (j+1,N+1,FU M2 nm (2,N),_,_) ⟨by omega,by show(if(m2 nm).isSome then n2 else n2+1)<=60+(j+1);split<;>omega,hst,Hn j4 I⟩ (by show rules.length-(j+1)<rules.length-j;omega) (by repeat' (first|exact cI|refine cC I ?_)) I
  obtain rfl:j=rules.length:=by omega
  rw[my]at j3;have hH:hsN ⟨words,rules⟩=(N,M2):=by unfold hsN;rw[hW];exact j3
  repeat(first|refine GA ?_|refine gV (aC (v:=ap br rules.length cr) aK.ty I (aH (i:=1) I I)) ?_)
  refine ja 132 2 (ml (dZ nY (λ_=>False) [] []) (λk hk=>hk.elim (λh=>by cases h) id) (λw=>je) ?_);refine tJ [0,2,3,4,5] ?_;refine dY (ι:=Nat×List aT.Prod×Value×List (List Value)×(Nat->Prop))
   (λ(j,ps,vp,fT,F)=>j<=rules.length/\ps=(rules.take j).map (zc M2)/\vp.oneCell'=aD)
   (λ(j,_,_,_,_)=>[(1,aJ (aj ⟨gp,0,ak⟩)),(5,.map (aj gm)),(106,ap br rules.length cr),(107,av az rules.length),(108,av az (j:Int))])
   (λ(j,ps,vp,fT,F)=>[aP gp (iY vo Va (fR t N vp 0 (ap ak 0 0) (ap ak 0 0) (ap ak 0 0))).toArray 39,eZ hZ gm m2 n2,a_ 3 1 vo words.length (of.map (av .i64)),a_ 132 2 vp ps.length fT.flatten,dZ nY F fT ps])
   (λ(j,_,_,_,_)=>rules.length-j) (0,[],ap ak 0 0,[],λ_=>False) ⟨bH _,rfl,rfl⟩ ?_
  rintro⟨j,ps,vp,fT,F⟩ ⟨k1,k2,k3⟩;dsimp only at k1 k2 k3⊢
  by_cases c3:j<rules.length
  ·obtain⟨b,off,rfl,_,eL⟩:=YY J
   obtain⟨bk,ck,q1,q2,q3⟩:=Cp eL c3;have hps:(rules.take (j+1)).map (zc M2)=ps++[zc M2 rules[j]]:=by rw[iq c3,eO,<-k2];rfl
   have Bl:ps.length=j:=by rw[k2,dI,iU];omega
   have dz:∀(L:List b_) (j':Nat) (u:Value),([str rules[j].1,.slice bk rules[j].2.length ck]:List Value)[j']?=aj u->At B L ⟨b,off+j*2+j',ak⟩ u:=λL j' u hj=>iw ho (q1 j' u hj);have qZ:=q2.flat aiz;have lf:=q2.okp;have hb6:=G9 _ (cD c3);clear eL q1 q2 YY;generalize rules[j]=r at*;obtain⟨nm,bd⟩:=r;dsimp only at*;obtain⟨b2,U8,lz,yv,VZ,EC⟩:=qZ
   cases lz
   unfold maxLen at VZ;have hsm:=Hm u3 nm
   repeat(first|refine GA ?_|refine gV (aX bL.eq aK.ty I I c3) ?_|refine gV (a8 (cs:=[str nm,ap bk bd.length ck]) aK.ty I I (dz _)) ?_)
   clear dz;refine aY I λg13=>?_;refine zL ?_;refine gh 5 (cs':=#[str nm,ap bk bd.length ck]) ?_;refine zL ?_
   repeat(first|refine GA ?_|refine gV (aC (v:=str nm) aK.ty I (aH (i:=5) I I)) ?_|refine gV (Mj (K:=hZ) (x:=nm) bL.eq vZ (i:=1) I I I q3 (Ho j4 nm)) ?_|refine gV (Ra I (PM _)) ?_|refine gV (bB I (PL _)) ?_)
   refine aY I λg14=>?_;refine zL ?_;refine gh 6 (cs':=#[av az (pM M2 nm).2,ap ak 0 0]) ?_;refine zL ?_
   repeat(first|refine GA ?_|refine gV (aC (v:=ap bk bd.length ck) aK.ty I (aH (i:=5) I I)) ?_)
   refine ja 156 2 ?_;refine tJ [0,1,2,3,4,6,7] ?_;refine dY (ι:=Nat×Value) (λ(i,vb)=>i<=bd.length/\vb.oneCell'=aD)
    (λ(i,vb)=>[(1,aJ (aj ⟨gp,0,ak⟩)),(5,.map (aj gm)),(14,aJ (aj ⟨g14,0,ak⟩)),(106,ap (aj ⟨b,off,ak⟩) rules.length cr),(107,av az rules.length),(108,av az (j:Int)),(119,ap bk bd.length ck),(120,av az bd.length),(121,av az (i:Int))])
    (λ(i,vb)=>[aP gp (iY vo Va (fR t N vp 0 (ap ak 0 0) (ap ak 0 0) (ap ak 0 0))).toArray 39,eZ hZ gm m2 n2,a_ 3 1 vo words.length (of.map (av .i64)),a_ 132 2 vp ps.length fT.flatten,dZ nY F fT ps,aP g14 #[av az (pM M2 nm).2,vb] 132,a_ 156 2 vb i (((bd.take i).map (pM M2)).flatMap ep)])
    (λ(i,_)=>bd.length-i) (0,ap ak 0 0) ⟨bH _,rfl⟩ ?_
   rintro⟨i,vb⟩ ⟨l1,l2⟩;dsimp only at l1 l2⊢
   by_cases c4:i<bd.length
   ·obtain⟨b3,abN,rfl,Dr⟩:=EC J
    have dz:=λL=>tM (W:=B) (L:=L) RJ (λj u hj=>iw ho (Dr j u hj)) c4 0 _ I;have hlen:=lf bd[i] (cD c4);have qD:((bd.take (i+1)).map (pM M2)).flatMap ep=((bd.take i).map (pM M2)).flatMap ep++ep (pM M2 bd[i]):=by
     rw[iq c4,eO,gO];simp
    clear Dr EC;generalize bd[i]=x at*
    repeat(first|refine GA ?_|refine gV (aX bL.eq aK.ty I I c4) ?_|refine gV (aC (v:=str x) aK.ty I (dz _)) ?_|refine gV (aC (v:=vb) aK.ty I (aH (i:=5) I I)) ?_|refine gV (Mj (K:=hZ) (x:=x) bL.eq vZ (i:=1) I I I hlen (Ho j4 x)) ?_)
    refine jk (i:=6) (cs:=(ep (pM M2 x)).toArray) I I I I I I I (λz h=>by cases h;rfl) J J I λz vb'=>?_;refine zL ?_
    try refine GA ?_
    refine aU (i:=6) I λoo mi=>?_;refine bU (i:=5) I I I oo mi I ?_;refine zL ?_
    try refine GA ?_
    exact bW (i+1,vb') ⟨by omega,mi⟩ (by show bd.length-(i+1)<bd.length-i;omega) (hl:=by dsimp only;rw[qD];rfl)
   obtain rfl:i=bd.length:=by omega
   rw[my];clear EC;have Oh:(bd.map (pM M2)).length=bd.length:=dI ..;rw[<-Oh];have ahu:zc M2 (nm,bd)=((pM M2 nm).2,bd.map (pM M2)):=rfl;have Kk:∀x∈bd.map (pM M2),Xl x:=λx hx=>by
    obtain⟨y,-,rfl⟩:=fa.1 hx;have:=Hm u3 y;exact⟨gok ⟨this.1,by omega⟩,gok ⟨this.2.2.1,by omega⟩⟩
   generalize pM M2 nm=hd at*;generalize bd.map (pM M2)=body at*
   try refine GA ?_
   (repeat refine b9 ?_)
   refine dK ([aP g14 #[av az hd.2,vb] 132]) (.calm 0 (.calm 1 (.calm 2 (.calm 3 (.calm 4 (.calm 6 (.two 5 (.one 7 (.one 8 (.calm 9 (.calm 10 (.calm 11 (.one 12 (.done))))))) 7 (.one 5 (.one 8 (.calm 9 (.calm 10 (.calm 11 (.one 12 (.done)))))))))))))) (bV [5]) ?_
   repeat(first|refine GW ?_|(refine GN ?_;first|refine QW (aO (i:=0) aK.ty I I I) ?_))
   refine ez I I ?b1 ?b2
   case' b1=>
    refine du (aC (v:=vp) aK.ty I (aH (i:=0) I (jc 2 iQ I I))) I I I (aM (bV [5]) ?_);refine aL I (fy (cs:=#[av az hd.2,vb]) I I I I I λg15=>aM (bV [5]) ?_)
   case' b2=>
    refine fy (cs:=#[av az hd.2,vb]) I I I I I λg15=>aM (bV [5]) ?_;refine aL I (du (aC (v:=vp) aK.ty I (aH (i:=0) I (jc 2 iQ I I))) I I I (aM (bV [5]) ?_))
   all_goals
    refine zL ?_;refine aL I (mh (i:=3) (q:=7) I I I I I (by simp only[cY,da,l2];rfl) J J I λv'=>aM (bV [5]) ?_);refine zL ?_
    try refine GW ?_
    refine aL I (aU (i:=3) I λoo mi=>dW 2 (i:=0) I I I oo mi I iQ I (aM (bV [5]) ?_));refine zL ?_
    try refine GW ?_
    refine vP (dZ nY (λk=>F k\/vb.ownBlock=aj k) (fT++[[av az hd.2,vb]]) (ps++[(hd.2,body)])) 6 4 [0,1,2,3] aiz I I I (λk hk=>hk.elim (λh=>by cases h) λh=>h.elim (λh=> .inr (.inr h)) λh=> .inl (.inl h)) (λw hr he=>?_) ?_
    ·exact mj he (A9 (gok ⟨hsm.2.2.1,by omega⟩) Kk hr) λk hk=>(a_ 156 2 vb body.length (body.flatMap ep)).lt w hr k (.inl hk)
    try refine GA ?_
    exact bW (j+1,ps++[(hd.2,body)],v',fT++[[av az hd.2,vb]],λk=>F k\/vb.ownBlock=aj k) ⟨by omega,by rw[hps,ahu],mi⟩ (by show rules.length-(j+1)<rules.length-j;omega) (hl:=by rw[bK,AJ];rfl)
  obtain rfl:j=rules.length:=by omega
  rw[my]at k2;subst k2;have hG:cX ⟨words,rules⟩=⟨t,N,rules.map (zc M2)⟩:=by unfold cX;rw[hW,hH]
  have hE:uS ⟨words,rules⟩=if bX ⟨t,N,rules.map (zc M2)⟩≠0 then 2 else 0:=by unfold uS;rw[hG]
  have hS:∀e,uS ⟨words,rules⟩=e->Jt gp ⟨words,rules⟩=EB gp e words.length of ⟨t,N,rules.map (zc M2)⟩:=λe he=>by
   show EB gp (uS _) words.length (Js words).1 (cX _)=_
   rw[hW,hG,he]
  clear hG;generalize rules.map (zc M2)=ps at*
  repeat(first|refine GA ?_|refine gV (a8 (cs:=[av az t,av az N,vp]) aK.ty I I (λj v h=>aH (i:=0) I (sB iQ h))) ?_)
  refine oK (nR (Wy F vp) vp ps) 3 4 [0,2] aiz I I I (λk hk=>hk.elim (λh=>by cases h) λh=>h.elim (λh=> .inr (.inr h)) λh=> .inl (.inl h)) (λw hr he=>⟨⟨vp,rfl,xi hr he aiz⟩,xj hr he⟩) ?_;refine zL ?_;refine aW (iM aI.en I I) (λw hm=>jD _ ⟨t,N,ps⟩ w (xZ (gok ⟨s2,by omega⟩) (gok ⟨u1,by omega⟩) (hm.get (i:=2) I))) I I I ?_;intro _ _;refine zL ?_;generalize bX ⟨t,N,ps⟩=e at*
  by_cases c:e≠0
  ·rw[if_pos c]at hE
   rw[hS _ hE]
   repeat(first|refine GC ?_|refine gV (dm (b:=aD) I I (decide_eq_true c)) ?_|refine GB ?_)
   exact cJ I I λw hm=>hm.cB (S:=EB gp 2 words.length of ⟨t,N,ps⟩) (vo,vp,Wy F vp) ⟨i5,k3⟩ [0,1,2] aiz I
  rw[if_neg c]at hE;rw[hS _ hE]
  repeat(first|refine GC ?_|refine gV (dm (b:=aE) I I (decide_eq_false c)) ?_|refine GB ?_)
  exact cJ I I λw hm=>hm.cB (S:=EB gp 0 words.length of ⟨t,N,ps⟩) (vo,vp,Wy F vp) ⟨i5,k3⟩ [0,1,2] aiz I
end bZ
namespace bZ
open Go.RowKit cU dM yC cT
section
end
theorem YZ{k:Nat}(h:k<256):IT.wrap (k:Int)=(k:Int):=by
 rw[IS];omega
end bZ
namespace bZ
open Go.RowKit cU dM yC cT
def Uq:Nat->Nat×Nat
 |0=>(0,0)
 | n+1=>match Uq n with
  |(a,0)=>(0,a+1)
  |(a,b+1)=>(a+1,b)
theorem ED:∀(s a b:Nat),a+b=s->∃n,Uq n=(a,b)
 |0,a,b,h=>⟨0,by obtain rfl:a=0:=J;obtain rfl:b=0:=J;rfl⟩
 |s+1,0,b,h=>by
  obtain rfl:b=s+1:=by omega
  obtain⟨n,hn⟩:=ED s s 0 J;exact⟨n+1,by simp[Uq,hn]⟩
 |s+1,a+1,b,h=>by
  obtain⟨n,hn⟩:=ED (s+1) a (b+1) J;exact⟨n+1,by simp[Uq,hn]⟩
def pv(m x:Nat):Value:=ap (aj ⟨(Uq x).1,0,ak⟩) m (Uq x).2
section
variable{P:Program}{n:Nat}{W:bR}{fr:Fr}{ops:Array Oper}
theorem abO{i d:Nat}{α:Type}(val:α->Value)(z:α){t e ty:TypeId}{pos:String}{after:Array Edge}{x y:Operand}{bytes m:Nat}{k k':IntKind}[qN P t e 1 bytes][bT P e #[val z]](ho:ops[i]?=aj ⟨aj d,.makeSlice t x y,ty,pos,after,ak⟩)(hx:ev fr x=aj (.int k (m:Int)))(hy:ev fr y=aj (.int k' (m:Int)))(hb:bytes*m<=281474976710656)(qM:m<=9223372036854775807)(hn:dj d n=aD):
 Gt P n W ops fr ⟨i,d,λg=>ap (aj ⟨g,0,ak⟩) m m,λg=>fg e val g m λ_=>z⟩:=
 ⟨_,ho,λ_ _ _ hl h=>oT val z (yA hl hx) (yA hl hy) hb qM hn h⟩
theorem PQ{i d:Nat}{o:Oper}{f:FuncId}{args:Array Value}{e:TypeId}{size m:Nat}{xs:List Value}(ho:ops[i]?=aj o)(he:∀Fi,(∀q v,look fr q=aj v->look Fi q=aj v)->∀a w,nj n a Fi->(execOp a.eval o).run P w= .ok (.enter f args) w)
 (hc:∀(L:List b_) w,Mem W L w->Calls P f args w (cz (cL e size m xs id) w)) (hm:0<m) (hg:o.guard=ak) (hd:o.dst=aj d) (hn:dj d n=aD):
 Gt P n W ops fr ⟨i,d,pv m,λx=>a_ e size (pv m x) m xs⟩:=
 ⟨o, ho,λQ Fi L hl h=>aW (he Fi hl) (λw hw=>hc L w hw) hg hd hn λv _=> .mk λa w hr hw=>by
  have tc:(a_ e size v m xs).holds w:=hw.get (i:=L.length) (by simp[cL]);obtain⟨G,cap,hv,_,_,_⟩:=KM tc
  cases G with
  | none=>
   rcases tc.2 with⟨_,h0⟩|⟨g,Fp,jM,KP,_⟩
   omega;rw[KP]at hv;cases hv
  | some g=>
   obtain⟨x,hx⟩:=ED _ g cap rfl;have e:v=pv m x:=by rw[hv];unfold pv;rw[hx];rfl
   have:=h x;dsimp only at this;rw[<-e]at this;exact this.go a w hr hw⟩
end
theorem Ml{P:Program}{n:Nat}{W:bR}{fr:Fr}{L:List b_}{Q:Exit->Act->World->Prop}{ops:Array Oper}{rest:List Oper}{ty:TypeId}{pos:String}{after:Array Edge}{t:TypeId}{p x:Operand}{i g b:Nat}{c:Ee}{T:TypeId}{agg:Bool}{z:Int}[hT:aK P t agg 1](hi:L[i]?=aj (aP g (xU c).toArray T))(hp:ev fr p=aj (aJ (aj ⟨g,0+b,ak⟩)))(hx:ev fr x=aj (.int .i16 z))(hb:b<200)
 (h:TL P n W ops Q rest fr (L.set i (aP g (xU (c.set b z)).toArray T))):TL P n W ops Q (⟨ak,.store t p x,ty,pos,after,ak⟩::rest) fr L:=by
 rw[cV]at hp;refine bU hi hp hx I I ?_ ?_
 ·rw[dU,rf];exact DT▸hb
 ·rw[abK c hb];exact h
abbrev x6(v:Value):Value:=v
def Y0(n:Nat):Mk:=⟨3,24,λg=>ap (aj ⟨g,0,ak⟩) n n,λg=>fg 27 x6 g n λ_=>ap ak 0 0⟩
def Y1(tags:List Int):Mk:=⟨6,27,pv tags.length,λx=>a_ 3 1 (pv tags.length x) tags.length (tags.flatMap cU.eo)⟩
def abP:Mk:=⟨8,5,λg=>aJ (aj ⟨g,0,ak⟩),λg=>aP g (cZ 256 (av .u8 0)++([ap ak 0 0,ap ak 0 0]:List Value)).toArray 31⟩
def Ur(n:Nat)(D:List Ee)(vs:Nat->Value):b_:=jd (λi=>i<n) λi=>a_ 3 1 (vs i) D.length ((Cr D i).flatMap cU.eo)
def nxM(n:Nat)(D:List Ee)(col:Ee)(j:Nat)(vs:Nat->Value):b_:=jd (λi=>i<n) λi=>a_ 3 1 (vs i) (if i<j then D++[col]else D).length ((Cr (if i<j then D++[col]else D) i).flatMap cU.eo)
theorem afY(n:Nat)(D:List Ee)(col:Ee)(vs:Nat->Value):nxM n D col 0 vs=Ur n D vs:=by
 unfold nxM Ur;simp
theorem RY(n:Nat)(D:List Ee)(col:Ee)(vs:Nat->Value)(i:Nat)(h:i<n):(λi=>a_ 3 1 (vs i) (D++[col]).length ((Cr (D++[col]) i).flatMap cU.eo)) i=(λi=>a_ 3 1 (vs i) (if i<n then D++[col]else D).length ((Cr (if i<n then D++[col]else D) i).flatMap cU.eo)) i:=by
 dsimp only;rw[if_pos h]
theorem EE{P:Program}{n:Nat}{W:bR}{fr:Fr}{L:List b_}{Q:Exit->Act->World->Prop}{ops:Array Oper}{rest:List Oper}{ty:TypeId}{pos:String}{after:Array Edge}{t:TypeId}{p x:Operand}{i g b z:Nat}{o:Of}{vn vt:Value}{T:TypeId}{agg:Bool}[hT:aK P t agg 1](hi:L[i]?=aj (aP g (eP o vn vt).toArray T))(hp:ev fr p=aj (aJ (aj ⟨g,0+b,ak⟩)))(hx:ev fr x=aj (.int .u8 (z:Int)))(hb:b<256)
 (h:TL P n W ops Q rest fr (L.set i (aP g (eP (o.set b z) vn vt).toArray T))):TL P n W ops Q (⟨ak,.store t p x,ty,pos,after,ak⟩::rest) fr L:=by
 rw[cV]at hp;refine bU hi hp hx I I ?_ ?_
 ·rw[ko];exact DT▸J
 ·rw[aeo o vn vt hb];exact h
theorem Y2{j:Nat}{D:List Ee}{col:Ee}{vs:Nat->Value}{v2:Value}{x:Int}(h:Cr (D++[col]) j=Cr D j++[x])(q:Nat):
  (λi=>a_ 3 1 ((λi=>if i=j then v2 else vs i) i) (if i<j+1 then D++[col]else D).length ((Cr (if i<j+1 then D++[col]else D) i).flatMap cU.eo)) q
   =Tj (λi=>a_ 3 1 (vs i) (if i<j then D++[col]else D).length ((Cr (if i<j then D++[col]else D) i).flatMap cU.eo)) j (a_ 3 1 v2 (D.length+1) ((Cr D j).flatMap cU.eo++[av az x])) q:=by
 unfold Tj;dsimp only
 by_cases c:q=j
 ·subst c
  rw[if_pos I,if_pos I,if_pos (mz q),h,bK,gO];rfl
 ·rw[if_neg c,if_neg c]
  have e:q<j+1↔q<j:=by omega
  simp only[e]
def Y3(R:List Row)(tags:List Int):Spec (Nat×(Nat->Value)×Value):=⟨λ_=>True,λx=> .tuple #[Nu (xW R 256) (ap (aj ⟨x.1,0,ak⟩) R.length R.length) x.2.2,av az 0],
 λx=>[fg 27 x6 x.1 R.length x.2.1,Ur R.length (np R 256) x.2.1,a_ 3 1 x.2.2 tags.length (tags.flatMap cU.eo)]⟩
set_option maxRecDepth 100000 in
theorem PR(vr vt:Value)(R:List Row)(tags:List Int)(w:World)(h:FK w vr vt R tags)(hc:l7 R tags=0):
 Calls aB 40 #[iA vr vt] w (cz (Y3 R tags) w):=by
 have iS:=λw' (hg:Gr w w')=>Eh vr vt R tags w' (h.gr hg);rw[hc]at iS;have iz:=λw' (hg:Gr w w') hl=>BP vt tags w' (h.hT.gr hg) hl;obtain⟨bt,ct,rfl,ht1,Xa,Kc⟩:=h.hT;obtain⟨br,cr,rfl,U2,vC,Dr⟩:=h.hR;have abJ:=h.rng;unfold maxLen at vC Xa;clear h;obtain⟨hA,hlt⟩:=uI hc;have AE:0<R.length:=hA.pos;have hle:R.length<=200:=hA.le;clear hA hc;obtain⟨b,off,rfl,hr⟩:=Dr AE;obtain⟨bb,s9,rfl,hrt⟩:=Kc J;clear Dr Kc hrt;have iz:=λw' hg=>iz w' hg J;have B7:=Ul;refine enter (args:=[iA (ap (aj ⟨b,off,ak⟩) R.length cr) (ap (aj ⟨bb,s9,ak⟩) tags.length ct)]) (n:=91) Tryz.func40 I I I ?_;refine b9 (bz (bQ I I I λg1=>?_));refine aY I λg2=>?_;rw[Jr];refine zL ?_
 repeat(first|refine GA ?_|refine gV (aO (i:=0) aK.ty I I I) ?_)
 refine aW (iM aI.en I I) (λw hm=>iS _ hm.below) I I I ?_;intro _ _
 try refine GA ?_
 (repeat refine b9 ?_)
 refine kV (ι:=Nat×Nat×Nat) (λ_=>True) (λ(_,_,g5)=>[(1,aJ (aj ⟨g1,0,ak⟩)),(2,aJ (aj ⟨g2,0,ak⟩)),(5,aJ (aj ⟨g5,0,ak⟩))])
  (λ(gN,x,g5)=>[aP g1 (iA (ap (aj ⟨b,off,ak⟩) R.length cr) (ap (aj ⟨bb,s9,ak⟩) tags.length ct)).cells 120,aP g2 (eP (eb 256 0) (ap ak 0 0) (ap ak 0 0)).toArray 31,fg 27 x6 gN R.length (λ_=>ap ak 0 0),a_ 3 1 (pv tags.length x) tags.length (tags.flatMap cU.eo),aP g5 (eP (xW R 0) (ap (aj ⟨gN,0,ak⟩) R.length R.length) (pv tags.length x)).toArray 31]) ?_ ?_
 ·refine W6 [aP g1 (iA (ap (aj ⟨b,off,ak⟩) R.length cr) (ap (aj ⟨bb,s9,ak⟩) tags.length ct)).cells 120] (bV [0]) (by kernel_rfl) (by kernel_rfl) (by intro c a d v w h;cases d<;>exact h) ?_
  refine qw 0 (by kernel_rfl) I (ae_ bJ.fld I I) I I I ?_;refine qw 1 (by kernel_rfl) I (aC aK.ty I (aH (i:=0) I I)) I I I ?_;refine qw 2 (by kernel_rfl) I (Ku bL.eq I) I I I ?_;refine qw 4 (by kernel_rfl) I (ae_ bJ.fld I I) I I I ?_;refine qw 5 (by kernel_rfl) I (aC aK.ty I (aH (i:=0) I I)) I I I ?_;refine KS [Y0 R.length,Y1 tags,abP] (λm=>!Nat.beq m.i 8) 2 (by kernel_rfl) (by kernel_rfl) ?_ (λq=>?_) λq=>?_
  ·intro m hm
   simp only[dx,fl,or_false]at hm;rcases hm with rfl|rfl|rfl
   exact abO x6 _ I I I J J I;exact PQ I (λFi hl=>iM aI.en I (yA hl I)) (λL w hm=>iz w hm.below) J I I I;exact Gv I I
  ·simp only[Y0,Y1,abP,gd,qk]
   generalize q 3=gN;generalize q 6=x;generalize q 8=g5;clear q;rw[Jr];refine Cb (.calm 7 (.one 9 .done)) (by kernel_rfl) I ?_
   repeat(first|refine GW ?_|(refine GN ?_;first|refine QW (bB I (Mh _ _ _ _ _)) ?_))
   refine aL I ?_;refine aV (i:=4) (cs':=(eP (eb 256 0) (ap (aj ⟨gN,0,ak⟩) R.length R.length) (pv tags.length x)).toArray) I I I (ko _ _ _) (xX _ I I) (ko _ _ _) ?_;refine aM (bV [0]) ?_
   try refine GW ?_
   exact dJ (gN,x,g5) trivial (by repeat' (first|exact cI|refine cC I ?_)) (by rw[acX];rfl)
  rw[show List.filter (λm:Mk=>!Nat.beq m.i 8) [Y0 R.length,Y1 tags,abP]=[Y0 R.length,Y1 tags]from I];simp only[Y0,Y1,abP,gd,qk];generalize q 3=gN;generalize q 6=x;clear q;refine Cb (.calm 7 (.one 8 (.one 9 .done))) (by kernel_rfl) (by kernel_rfl) ?_
  repeat(first|refine GW ?_|(refine GN ?_;first|refine QW (bB I (Mh _ _ _ _ _)) ?_))
  refine aL I ?_;refine aY I λg5=>?_;refine aM (bV [0]) ?_;rw[Jr];refine aL I ?_;refine aV (i:=4) (cs':=(eP (eb 256 0) (ap (aj ⟨gN,0,ak⟩) R.length R.length) (pv tags.length x)).toArray) I I I (ko _ _ _) (xX _ I I) (ko _ _ _) ?_;refine aM (bV [0]) ?_
  try refine GW ?_
  exact dJ (gN,x,g5) trivial (by repeat' (first|exact cI|refine cC I ?_)) (by rw[acX];rfl)
 rintro⟨gN,xT,g5⟩ _;dsimp only;generalize hvT:pv tags.length xT=vT
 try refine GA ?_
 refine Aj (K:=LR) I λg6=>?_;refine zL ?_
 try refine GA ?_
 refine ml (Ur R.length [] λ_=>ap ak 0 0) (λk hk=>?_) (λw=>⟨λi _=>Pz _ _ _ _,λi j _ _ _ k hk=>?_⟩) ?_
 ·rcases hk with hk|⟨i,_,hk⟩
  cases hk
  rcases hk with hk|hk<;>cases hk
 ·rcases hk with hk|hk<;>cases hk
 conv=>arg 7;simp only[zA,zB,zC,zD,zE,zF,zG,zH,zI,cL,ret,id_eq]
 refine dY (ι:=Nat×(Nat->Value)) (λ(k,_)=>k<=256) (λ(k,_)=>[(1,aJ (aj ⟨g1,0,ak⟩)),(2,aJ (aj ⟨g2,0,ak⟩)),(5,aJ (aj ⟨g5,0,ak⟩)),(6,.map (aj g6)),(30,av az (k:Int))])
  (λ(k,vs)=>[aP g1 (iA (ap (aj ⟨b,off,ak⟩) R.length cr) (ap (aj ⟨bb,s9,ak⟩) tags.length ct)).cells 120,aP g2 (eP (eb 256 0) (ap ak 0 0) (ap ak 0 0)).toArray 31,fg 27 x6 gN R.length vs,a_ 3 1 vT tags.length (tags.flatMap cU.eo),aP g5 (eP (xW R k) (ap (aj ⟨gN,0,ak⟩) R.length R.length) vT).toArray 31,eZ LR g6 (ki (np R k)) (np R k).length,Ur R.length (np R k) vs]) (λ(k,_)=>256-k) (0,λ_=>ap ak 0 0) (bH _) ?_
 rintro⟨k,vs⟩ hk;dsimp only at hk⊢
 by_cases c1:k<256
 ·try refine GA ?_
  refine aY I λg8=>?_;refine zL ?_;rw[YT,<-aem R k]
  repeat(first|refine GA ?_|refine gV (aC aK.ty I (aH (i:=0) I I)) ?_)
  refine dY (ι:=Nat) (λj=>j<=R.length) (λj=>[(1,aJ (aj ⟨g1,0,ak⟩)),(2,aJ (aj ⟨g2,0,ak⟩)),(5,aJ (aj ⟨g5,0,ak⟩)),(6,.map (aj g6)),(7,av az (k:Int)),(8,aJ (aj ⟨g8,0,ak⟩)),(30,av az (k:Int)),(34,ap (aj ⟨b,off,ak⟩) R.length cr),(35,av az (R.length:Int)),(36,av az (j:Int))])
   (λj=>[aP g1 (iA (ap (aj ⟨b,off,ak⟩) R.length cr) (ap (aj ⟨bb,s9,ak⟩) tags.length ct)).cells 120,aP g2 (eP (eb 256 0) (ap ak 0 0) (ap ak 0 0)).toArray 31,fg 27 x6 gN R.length vs,a_ 3 1 vT tags.length (tags.flatMap cU.eo),aP g5 (eP (xW R k) (ap (aj ⟨gN,0,ak⟩) R.length R.length) vT).toArray 31,eZ LR g6 (ki (np R k)) (np R k).length,Ur R.length (np R k) vs,aP g8 (xU (FT R k j)).toArray 193]) (λj=>R.length-j) 0 (bH _) ?_
  intro j hj
  by_cases c2:j<R.length
  ·have PH:=λ(L:List b_)=>gG (W:=w) (L:=L) dw hr c2
   have hcell:(eH R[j]).toArray[0+k]?=aj (.int .i16 (fL R j k)):=by rw[cV,jf,pt _ c1,uR c2 c1]
   have sX:=YS R k j J;generalize R[j]=r at*;generalize fL R j k=x at*
   repeat(first|refine GA ?_|refine gV (aX bL.eq aK.ty I I c2) ?_|refine gV (a8 aK.ty I (dw r) (PH _)) ?_)
   refine aY I λg10=>?_;refine zL ?_
   try refine GA ?_
   refine aV (i:=8) (cs':=(eH r).toArray) I I I (by rw[dU,dw]) (by simpa using rb r) (by kernel_rfl) ?_;refine zL ?_
   repeat(first|refine GA ?_|refine gV (gY bL.eq aK.ty I I c1) ?_|refine gV (aC aK.ty I (aH (i:=8) I hcell)) ?_|refine gV (gY bL.eq aK.ty I I J) ?_)
   refine Ml (i:=7) (b:=j) I I I J ?_;rw[sX];refine zL ?_
   try refine GA ?_
   refine dh [0,1,2,3,4,5,6,7] ?_;exact bW (j+1) J (by show R.length-(j+1)<R.length-j;omega)
  obtain rfl:j=R.length:=by omega
  rw[show FT R k R.length=qI R k from I];have lf:=abL abJ c1;have hnk:=aen (R:=R) c1;have Y4:=RW R c1;have PT:=abM R k c1;have UY:=Cq R k;have hzero:∀w:World,(zeroValue 3).run aB w= .ok (av az 0) w:=Yn
  by_cases c2:qI R k∈np R k
  ·have hD:=RT c2
   rw[if_pos c2]at hnk;generalize qI R k=col at*
   repeat(first|refine GA ?_|refine gV (aO (i:=7) aK.ty I I (by rw[dU,rf])) ?_|refine gV (t_ (K:=LR) (x:=col) bL.eq hzero (i:=5) I I I lf c2) ?_)
   have hwr:=YZ (k:=idx (np R k) col) (by rw[<-hnk];exact Y4);rw[hnk]at PT;clear hnk Y4 abJ;generalize np R k=D at*
   repeat(first|refine GA ?_|refine gV (iL bL.eq bL.eq I hwr) ?_|refine gV (gY bL.eq aK.ty I I c1) ?_)
   refine EE (i:=4) (b:=k) I I I c1 ?_;rw[PT];refine zL ?_
   try refine GA ?_
   refine dh [0,1,2,3,4,5,6] ?_;exact bW (k+1,vs) (by show k+1<=256;omega) (by show 256-(k+1)<256-k;omega) (hl:=by dsimp only;rw[hD];rfl)
  have hD:=RU c2;rw[if_neg c2]at hnk;have hcg:=λi hi=>Mg R k i hi hle;have hwr:=YZ (k:=(np R k).length) J;rw[hnk]at PT;clear hnk Y4;generalize qI R k=col at*;generalize hDk:np R k=D at*
  repeat(first|refine GC ?_|refine gV (aO (i:=7) aK.ty I I (by rw[dU,rf])) ?_|refine gV (t' (K:=LR) (x:=col) bL.eq hzero (i:=5) I I I lf c2) ?_|refine gV (vU LR bL.eq (i:=5) I I) ?_|refine GB ?_)
  refine Ak (K:=LR) (i:=5) (x:=col) bL.eq I I I I lf c2 J ?_;refine zL ?_
  repeat(first|refine GA ?_|refine gV (aC aK.ty I (aH (i:=0) I I)) ?_)
  refine tJ [0,1,2,3,4,5,6] ?_;rw[<-afY R.length D col vs];refine dY (ι:=Nat×(Nat->Value)) (λ(j,_)=>j<=R.length) (λ(j,_)=>[(1,aJ (aj ⟨g1,0,ak⟩)),(2,aJ (aj ⟨g2,0,ak⟩)),(5,aJ (aj ⟨g5,0,ak⟩)),(6,.map (aj g6)),(7,av az (k:Int)),(11,av az (D.length:Int)),(30,av az (k:Int)),(61,ap (aj ⟨b,off,ak⟩) R.length cr),(62,av az (R.length:Int)),(63,av az (j:Int))])
   (λ(j,vs)=>[aP g1 (iA (ap (aj ⟨b,off,ak⟩) R.length cr) (ap (aj ⟨bb,s9,ak⟩) tags.length ct)).cells 120,aP g2 (eP (eb 256 0) (ap ak 0 0) (ap ak 0 0)).toArray 31,fg 27 x6 gN R.length vs,a_ 3 1 vT tags.length (tags.flatMap cU.eo),aP g5 (eP (xW R k) (ap (aj ⟨gN,0,ak⟩) R.length R.length) vT).toArray 31,eZ LR g6 (ki (D++[col])) (D++[col]).length,nxM R.length D col j vs]) (λ(j,_)=>R.length-j) (0,vs) (bH _) ?_
  rintro⟨j,vs⟩ hj;dsimp only at hj⊢
  by_cases c3:j<R.length
  ·have PH:=λ(L:List b_)=>gG (W:=w) (L:=L) dw hr c3
   have hcell:(eH R[j]).toArray[0+k]?=aj (.int .i16 (fL R j k)):=by rw[cV,jf,pt _ c1,uR c3 c1]
   have hx:=abJ R[j] (cD c3) (fL R j k) (by rw[uR c3 c1,<-nU (h:=by simpa using c1)];exact cD _);have hcj:=hcg j c3;clear hcg;generalize R[j]=r at*;generalize fL R j k=x at*
   repeat(first|refine GA ?_|refine gV (aX bL.eq aK.ty I I c3) ?_|refine gV (a8 aK.ty I (dw r) (PH _)) ?_)
   refine aY I λg14=>?_;refine zL ?_
   try refine GA ?_
   refine aV (i:=7) (cs':=(eH r).toArray) I I I (by rw[dU,dw]) (by simpa using rb r) (by kernel_rfl) ?_;refine zL ?_
   try refine GA ?_
   unfold nxM;refine On (q:=6) j I c3 ?_;rw[if_neg (Eu j)]
   conv=>arg 7;simp only[zA,zB,zC,zD,zE,zF,zG,zH,zI,cL,ret,id_eq]
   (repeat refine b9 ?_)
   refine dK ([aP g1 (iA (ap (aj ⟨b,off,ak⟩) R.length cr) (ap (aj ⟨bb,s9,ak⟩) tags.length ct)).cells 120,aP g5 (eP (xW R k) (ap (aj ⟨gN,0,ak⟩) R.length R.length) vT).toArray 31,aP g14 (eH r).toArray 187]) (.calm 0 (.calm 1 (.calm 2 (.calm 3 (.calm 4 (.calm 5 (.calm 6 (.calm 8 (.calm 9 (.calm 10 (.calm 11 (.two 7 (.one 12 (.one 13 (.calm 14 (.one 15 (.done))))) 12 (.one 7 (.one 13 (.calm 14 (.one 15 (.done))))))))))))))))) (bV [0,4,7]) ?_
   repeat(first|refine GW ?_|(refine GN ?_;first|refine QW (aC aK.ty I (aH (i:=1) I (lB _ _ _))) ?_|refine QW (bY (j:=j) bL.eq aK.ty I I c3) ?_|refine QW (gY bL.eq aK.ty I I c1) ?_|refine QW (aC aK.ty I (aH (i:=2) I hcell)) ?_|refine QW (iL bL.eq bL.eq I (nk J J)) ?_))
   have hnj:Cr (D++[col]) j=Cr D j++[x]:=by unfold Cr;rw[eO,Jl,hcj]
   have hst:∀v2:Value,∀i,i<R.length->(λi=>if i=j then v2 else vs i) i=if i=j then v2 else vs i:=λ_ _ _=>rfl
   refine ez I I ?_ ?_
   ·refine du (aC aK.ty I (fU (i:=2) I c3)) I I I (aM (bV [0,4,7]) ?_)
    refine aL I (fy I I I I I λg80=>aM (bV [0,4,7]) ?_);refine aL I (lg (i:=8) (q:=9) I I I I I I J J I λv2=>aM (bV [0,4,7]) ?_)
    repeat(first|refine GW ?_|(refine GN ?_;first|refine QW (bY (j:=j) bL.eq aK.ty I I c3) ?_))
    refine aL I (aU (i:=8) I λoo mi=>iJ (i:=2) (val:=x6) (off:=j) (v:=v2) (λi=>if i=j then v2 else vs i) aK.ty I I I oo mi c3 (hst v2) (aM (bV [0,4,7]) ?_))
    try refine GW ?_
    try refine GA ?_
    refine Q6 j 6 8 [0,1,2,3,4,5] aiz I I I (λh=>h.2 I) (D':=λi=>i<R.length) (f':=λi=>a_ 3 1 ((λi=>if i=j then v2 else vs i) i) (if i<j+1 then D++[col]else D).length ((Cr (if i<j+1 then D++[col]else D) i).flatMap cU.eo)) (λq hq=>(by by_cases e:q=j;exact .inr e;exact .inl ⟨hq,e⟩)) (λq hq=>?_) ?_;exact Y2 hnj q;exact bW (j+1,λi=>if i=j then v2 else vs i) (by show j+1<=R.length;omega) (by show R.length-(j+1)<R.length-j;omega)
   refine fy I I I I I λg80=>aM (bV [0,4,7]) ?_;refine aL I (du (aC aK.ty I (fU (i:=2) I c3)) I I I (aM (bV [0,4,7]) ?_));refine aL I (lg (i:=8) (q:=9) I I I I I I J J I λv2=>aM (bV [0,4,7]) ?_)
   repeat(first|refine GW ?_|(refine GN ?_;first|refine QW (bY (j:=j) bL.eq aK.ty I I c3) ?_))
   refine aL I (aU (i:=8) I λoo mi=>iJ (i:=2) (val:=x6) (off:=j) (v:=v2) (λi=>if i=j then v2 else vs i) aK.ty I I I oo mi c3 (hst v2) (aM (bV [0,4,7]) ?_))
   try refine GW ?_
   try refine GA ?_
   refine Q6 j 6 8 [0,1,2,3,4,5] aiz I I I (λh=>h.2 I) (D':=λi=>i<R.length) (f':=λi=>a_ 3 1 ((λi=>if i=j then v2 else vs i) i) (if i<j+1 then D++[col]else D).length ((Cr (if i<j+1 then D++[col]else D) i).flatMap cU.eo)) (λq hq=>(by by_cases e:q=j;exact .inr e;exact .inl ⟨hq,e⟩)) (λq hq=>?_) ?_;exact Y2 hnj q;exact bW (j+1,λi=>if i=j then v2 else vs i) (by show j+1<=R.length;omega) (by show R.length-(j+1)<R.length-j;omega)
  obtain rfl:j=R.length:=by omega
  refine QY (Ur R.length (D++[col]) vs) (i:=6) I (Al (λ_ h=>h) (RY _ _ _ _)) (Dv (λ_ h=>h) (RY _ _ _ _)) ?_
  conv=>arg 7;simp only[zA,zB,zC,zD,zE,zF,zG,zH,zI,cL,ret,id_eq]
  repeat(first|refine GA ?_|refine gV (iL bL.eq bL.eq I hwr) ?_|refine gV (gY bL.eq aK.ty I I c1) ?_)
  refine EE (i:=4) (b:=k) I I I c1 ?_;rw[PT];refine zL ?_
  try refine GA ?_
  exact bW (k+1,vs) (by show k+1<=256;omega) (by show 256-(k+1)<256-k;omega) (hl:=by dsimp only;rw[hD])
 ·obtain rfl:k=256:=by omega
  repeat(first|refine GA ?_|refine gV (aO (i:=4) aK.ty I I (ko _ _ _)) ?_)
  refine aU (i:=3) I λoo mi=>?_;refine aV (i:=1) (cs':=(eP (xW R 256) (ap (aj ⟨gN,0,ak⟩) R.length R.length) vT).toArray) I I I (ko _ _ _) (xX _ I mi) (ko _ _ _) ?_;refine zL ?_
  try refine GA ?_
  refine ey (i:=1) I I I (ko _ _ _) I λw hm=>?_;exact hm.meets (S:=Y3 R tags) (gN,vs,vT) trivial [2,6,3] aiz I
end bZ
namespace bZ
open Go.RowKit cU dM dg fZ gu aT ef nb cT
def pw(s:Sp):List Rx:=s.words.map (·.2)
def RZ(s:Sp)(r:Int×List Row×List Int):Prop:=
  (∃k:Int,k≠0/\G2 (pw s) (k,.zero)/\r=(k,[],[]))\/
  ∃ (es:List Re) (m:MS),pw s=es.map lh/\(∀e∈es,Fit e 1 0)/\0<es.length/\es.length<=20/\lp 0 .zero es=(0,m)/\G2 (pw s) (0,m)/\
    ((uS s≠0/\r=(uS s,[],[]))\/(uS s=0/\(su m).2.2≠0/\r=((su m).2.2,[],[]))\/
      (uS s=0/\(su m).2.2=0/\l7 (su m).1 (su m).2.1=0/\r=(0,y' (su m).1 (su m).2.1,za (su m).1 (su m).2.1)))
theorem aeq(s:Sp):∃r,RZ s r:=by
  rcases TF (pw s)with⟨k,h1,h2⟩|⟨es,m,h1,h2,h3,h4,h5,h6⟩
  exact⟨_,.inl ⟨k,h1,h2,rfl⟩⟩
  by_cases c1:uS s=0
  · by_cases c2:(su m).2.2=0
    · refine⟨_,.inr ⟨es,m,h1,h2,h3,h4,h5,h6,.inr (.inr ⟨c1,c2,?_,rfl⟩)⟩⟩
      cases hd:uj m with
      |none=>rw[Pq hd]at c2;cases c2
      | some y=>
        obtain⟨R,d⟩:=y;rw[Ei hd];exact Yu (Ch h3 h4 h5) (AG hd)
    exact⟨_,.inr ⟨es,m,h1,h2,h3,h4,h5,h6,.inr (.inl ⟨c1,c2,rfl⟩)⟩⟩
  exact⟨_,.inr ⟨es,m,h1,h2,h3,h4,h5,h6,.inl ⟨c1,rfl⟩⟩⟩
theorem Y5{F:Nat->Prop}{w:World}{b off:Nat}{l:List Wd}(h:∀i (h:i<l.length),∃cs,y_.is F w cs l[i]/\Rd w b (off+i*y_.c) cs){k:Nat}(hk:k<l.length):
 ∃base cap,Rd w b (off+k*7) (yg l[k].1 l[k].2.kind l[k].2.tK (.slice base l[k].2.kids.length cap))/\kh F w (l8 l[k].2.kind l[k].2.tK (.slice base l[k].2.kids.length cap)) l[k].2:=by
 obtain⟨cs,⟨c1,c2,rfl,⟨rfl,h1⟩,h2⟩,h3⟩:=h k hk;have h2:kh F w c2 l[k].2:=h2;have h4:=h2.r;obtain⟨vk,e,-,hs⟩:=h4;obtain⟨base,cap,rfl,-⟩:=hs;have e2:c2=l8 l[k].2.kind l[k].2.tK (.slice base l[k].2.kids.length cap):=by
  unfold qm at e;simp only[lL]at e
  simpa using congrArg YB e
 subst e2;exact⟨base,cap,h3,h2⟩
def Cs(w0:World)(words:List Wd)(fT:List (List Value)):Prop:=∀i c,fT[i]?=aj c->∃h:i<words.length,xo.is (pD w0) w0 c words[i].2
theorem PU{w0:World}{words:List Wd}{fT:List (List Value)}{c:List Value}(h:Cs w0 words fT)(hk:fT.length<words.length)(hc:xo.is (pD w0) w0 c words[fT.length].2):Cs w0 words (fT++[c]):=λi x hx=>by
 rcases Nat.lt_trichotomy i fT.length with h1|h1|h1
 rw[gJ h1]at hx;exact h i x hx
 ·subst h1
  rw[zR]at hx
  cases hx
  exact⟨hk,hc⟩
 rw[ku (by rw[bK,lO];omega)]at hx;cases hx
theorem Hp{w0 w:World}(hg:Gr w0 w){words:List Wd}{fT:List (List Value)}{v:Value}(hl:fT.length=words.length)(h:Cs w0 words fT)(hr:(a_ 80 6 v words.length fT.flatten).holds w):jQ xo (pD w) w v (words.map (·.2)):=by
 have he:(dZ xo (pD w0) fT (words.map (·.2))).holds w:=⟨⟨by rw[hl,dI],λi h1 h2=>by
  obtain⟨h3,h4⟩:=h i _ (bD h2);rw[List.getElem_map];exact xo.stay h4 λk hk=>hg.block k hk⟩,λk hk=>jv hk hg.size⟩
 have hr:(a_ 80 xo.c v (words.map (·.2)).length fT.flatten).holds w:=by rw[dI];exact hr
 exact(xi hr he aiz).mono λk hk=>xj hr he k hk
def Mm(gp:Nat)(s:Sp)(R:List Row)(T:List Int):Spec (Value×Value×(Nat->Prop)×Nat×(Nat->Value)×Value):=
 ⟨λx=>x.1.oneCell'=aD/\x.2.1.oneCell'=aD/\x.2.2.2.2.2.oneCell'=aD,λ_=>av az 0,λx=>[aP gp (iY x.1 (eP (xW R 256) (ap (aj ⟨x.2.2.2.1,0,ak⟩) R.length R.length) x.2.2.2.2.2) (fR (cX s).aR (cX s).bC x.2.1 0 (ap ak 0 0) (ap ak 0 0) (ap ak 0 0))).toArray 39,a_ 3 1 x.1 s.words.length ((Js s.words).1.map (av .i64)),nR x.2.2.1 x.2.1 (cX s).aF,
  fg 27 x6 x.2.2.2.1 R.length x.2.2.2.2.1,Ur R.length (np R 256) x.2.2.2.2.1,a_ 3 1 x.2.2.2.2.2 T.length (T.flatMap cU.eo)]⟩
def Hq(gp:Nat)(s:Sp)(r:Int×List Row×List Int):Spec (Value×Value×(Nat->Prop)×Nat×(Nat->Value)×Value):=
 if r.1=0 then Mm gp s r.2.1 r.2.2 else⟨λ_=>True,λ_=>av az r.1,λ_=>[]⟩
set_option maxRecDepth 100000 in
theorem Mn(vw vr:Value)(s:Sp)(r:Int×List Row×List Int)(hx:RZ s r)(gp:Nat)(w0:World)(hv:RL (pD w0) w0 (aQ #[vw,vr]) s)(hlw:s.words.length<=60)(NW:s.rules.length<=60)(G9:∀r∈s.rules,r.2.length<=8796093021952)(w:World)(B:bR)(ho:pC w0 B)(hm:Mem B [aP gp Fo.toArray 39] w):
 Calls aB 19 #[aQ #[vw,vr],aJ (aj ⟨gp,0,ak⟩)] w (dc (Hq gp s r) B):=by
 have YR:=λw' B' Kw qV=>FV vw vr s gp w0 hv hlw NW G9 w' B' Kw qV;obtain⟨Ju,BO,hvv,hw,-⟩:=hv;obtain⟨rfl,rfl⟩:vw=Ju/\vr=BO:=by simpa using hvv
 clear hvv G9;obtain⟨bw,cw,rfl,-,-,PP⟩:=hw;have Fk:pw s=s.words.map (·.2):=rfl
 refine dA hm (args:=[aQ #[ap bw s.words.length cw,vr],aJ (aj ⟨gp,0,ak⟩)]) (n:=60) Tryz.func19 I I I ?_;refine b9 (bz (bQ I I I λg2=>?_));refine zL ?_
 repeat(first|refine GA ?_|refine gV (aC (v:=ap bw s.words.length cw) aK.ty I (aH (i:=1) I I)) ?_)
 refine ja 80 6 ?_;refine dY (ι:=Nat×List (List Value)×Value) (λ(k,fT,vl)=>k<=s.words.length/\fT.length=k/\Cs w0 s.words fT)
  (λ(k,_,vl)=>[(1,aJ (aj ⟨gp,0,ak⟩)),(2,aJ (aj ⟨g2,0,ak⟩)),(5,vl),(13,ap bw s.words.length cw),(14,av az s.words.length),(15,av az (k:Int))])
  (λ(k,fT,vl)=>[aP gp Fo.toArray 39,aP g2 #[ap bw s.words.length cw,vr] 25,a_ 80 6 vl k fT.flatten])
  (λ(k,_,_)=>s.words.length-k) (0,[],ap ak 0 0) ⟨bH _,rfl,λi c h=>by cases h⟩ ?_
 clear hm;rintro⟨k,fT,vl⟩ ⟨i1,i2,i3⟩;dsimp only at i1 i2 i3⊢
 by_cases c1:k<s.words.length
 ·obtain⟨b,off,rfl,_,hr⟩:=PP J
  obtain⟨bk,ck,q1,q2⟩:=Y5 hr c1;have dz:∀(L:List b_) (j:Nat) (u:Value),(yg s.words[k].1 s.words[k].2.kind s.words[k].2.tK (.slice bk s.words[k].2.kids.length ck))[j]?=aj u->At B L ⟨b,off+k*7+j,ak⟩ u:=λL j u hj=>iw ho (q1 j u hj);clear hr PP q1 hx YR;subst i2;have hsn:=PU i3 c1 q2;clear q2;generalize s.words[fT.length].1=nm at*;generalize s.words[fT.length].2.kind=rk at*;generalize s.words[fT.length].2.tK=rc at*;generalize s.words[fT.length].2.kids.length=rn at*
  repeat(first|refine GA ?_|refine gV (aX bL.eq aK.ty I I c1) ?_|refine gV (a8 (cs:=yg nm rk rc (ap bk rn ck)) aK.ty I I (dz _)) ?_)
  clear dz;refine aY I λg7=>?_;refine zL ?_;refine gh 3 (cs':=(yg nm rk rc (ap bk rn ck)).toArray) ?_;refine zL ?_
  repeat(first|refine GA ?_|refine gV (a8 (cs:=l8 rk rc (ap bk rn ck)) aK.ty I I (λj v hj=>aH (i:=3) I (PE hj))) ?_)
  refine jk (i:=2) I I I I I I I (λz h=>by cases h;rfl) J J I λz Rm=>?_;refine zL ?_
  try refine GA ?_
  refine dh [0,1,2] ?_;exact bW (fT.length+1,fT++[l8 rk rc (ap bk rn ck)],Rm) ⟨by omega,by rw[bK];rfl,hsn⟩ (by show s.words.length-(fT.length+1)<s.words.length-fT.length;omega) (hl:=by dsimp only;rw[AJ];simp)
 ·obtain rfl:k=s.words.length:=by omega
  clear PP;rcases hx with⟨k,hk,hR,rfl⟩|⟨es,m,hes,Fs,h0,h20,hlp,hR,hx⟩
  ·have No:=λw' (qZ:jQ xo (pD w') w' vl (pw s))=>DP vl (pw s) (k,.zero) w' qZ hR
   rw[show Hq gp s (k,[],[])=⟨λ_=>True,λ_=>av az k,λ_=>[]⟩from if_neg hk]
   try refine GA ?_
   refine aW (iM aI.en I I) (λw hm=>No _ (Hp (ho.mem hm) i2 i3 (hm.get (i:=2) I))) I I I ?_;rintro⟨td,te,vf1,f_,tf,ve1,nG,F1⟩ j_
   conv=>arg 8;simp only[zJ,cL,ret,id_eq,qA,OK,OL]
   conv=>arg 7;simp only[qA,OL]
   refine aU (i:=3) I λ_ a1=>aU (i:=4) I λ_ a2=>aU (i:=5) I λ_ a3=>aU (i:=6) I λ_ a4=>aU (i:=8) I λ_ a5=>aU (i:=9) I λ_ a6=>?_
   try refine GA ?_
   refine aY I λg4=>?_;refine zL ?_;refine aV (i:=10) (cs':=#[td,te,vf1,f_,tf,ve1]) I I I I (by simp only[cY,da,a1,a2,a3,a4,a5,a6];rfl) I ?_;refine zL ?_
   repeat(first|refine GC ?_|refine gV (dm (b:=aD) I I (decide_eq_true hk)) ?_|refine GB ?_)
   exact cJ I I λw hm=>hm.cB (S:=⟨λ_=>True,λ_=>av az k,λ_=>[]⟩) (vl,vl,λ_=>False,0,λ_=>vl,vl) trivial [] aiz I
  have No:=λw' (qZ:jQ xo (pD w') w' vl (pw s))=>DP vl (pw s) (0,m) w' qZ hR;have lf:=Ch h0 h20 hlp;have hdm:=λv' w' h=>FL v' m w' h lf;unfold RE at hdm
  try refine GA ?_
  refine aW (iM aI.en I I) (λw hm=>No _ (Hp (ho.mem hm) i2 i3 (hm.get (i:=2) I))) I I I ?_;rintro⟨td,te,vf1,f_,tf,ve1,nG,F1⟩ j_;have j_:nG.length=m.ps.follow.length:=j_
  conv=>arg 8;simp only[zJ,cL,ret,id_eq,qA,OK,OL]
  conv=>arg 7;simp only[qA,OL]
  refine aU (i:=3) I λ_ a1=>aU (i:=4) I λ_ a2=>aU (i:=5) I λ_ a3=>aU (i:=6) I λ_ a4=>aU (i:=8) I λ_ a5=>aU (i:=9) I λ_ a6=>?_
  try refine GA ?_
  refine aY I λg4=>?_;refine zL ?_;refine aV (i:=10) (cs':=#[td,te,vf1,f_,tf,ve1]) I I I I (by simp only[cY,da,a1,a2,a3,a4,a5,a6];rfl) I ?_;refine zL ?_;clear a1 a2 a3 a4 a5 a6
  repeat(first|refine GC ?_|refine gV (dm (b:=aE) I I (decide_eq_false (by simp))) ?_|refine gV (aO (i:=1) aK.ty I I I) ?_|refine GB ?_)
  refine bx [0] [3,4,5,6,7,8,9,10] aiz I I (fI aI.en I I I) (λw' qV hb=>YR w' _ (pC.on ho qV (λo ho=>by simp at ho;subst ho;simp)) hb) I I I ?_;rintro⟨vo,vp,F⟩ ⟨k1,k2⟩
  conv=>arg 8;simp only[zJ,cL,ret,id_eq,Jt,EB]
  conv=>arg 7;simp only[Jt,EB]
  have nC:∀e:Int,e≠0->Hq gp s (e,[],[])=⟨λ_=>True,λ_=>av az e,λ_=>[]⟩:=λe he=>if_neg he;have yD:∀R T,Hq gp s (0,R,T)=Mm gp s R T:=λR T=>if_pos I
  by_cases d1:uS s≠0
  ·obtain rfl:r=(uS s,[],[]):=by
    rcases hx with⟨-,h⟩|⟨h,-⟩|⟨h,-⟩
    exact h;exact absurd h d1;exact absurd h d1
   rw[nC _ d1]
   repeat(first|refine GC ?_|refine gV (dm (b:=aD) I I (decide_eq_true d1)) ?_|refine GB ?_)
   exact cJ I I λw hm=>hm.cB (S:=⟨λ_=>True,λ_=>av az (uS s),λ_=>[]⟩) (vl,vl,λ_=>False,0,λ_=>vl,vl) trivial [] aiz I
  have d1:uS s=0:=sv d1;rw[d1];have hx:=hx.resolve_left (λh=>h.1 d1);generalize su m=D at*;obtain⟨R,T,e⟩:=D;dsimp only at hdm hx⊢
  repeat(first|refine GC ?_|refine gV (dm (b:=aE) I I (decide_eq_false (by simp))) ?_|refine gV (aO (i:=7) aK.ty I I I) ?_|refine GB ?_)
  refine aW (iM aI.en I I) (λw hm=>hdm _ w (hm.ag7 (x:=⟨td,te,vf1,f_,tf,ve1,nG,F1⟩) 0 j_ I (by simp))) I I I ?_;rintro⟨vrr,vtt⟩ _
  conv=>arg 8;simp only[zJ,cL,ret,id_eq,iA]
  conv=>arg 7;simp only[iA]
  refine aU (i:=11) I λ_ a1=>aU (i:=12) I λ_ a2=>?_
  try refine GA ?_
  refine aY I λg6=>?_;refine zL ?_;refine aV (i:=13) (cs':=#[vrr,vtt]) I I I I (by simp only[cY,da,a1,a2];rfl) I ?_;refine zL ?_;clear a1 a2
  by_cases d2:e≠0
  ·obtain rfl:r=(e,[],[]):=by
    rcases hx with⟨-,-,h⟩|⟨-,h,-⟩
    exact h;exact absurd h d2
   rw[nC _ d2]
   repeat(first|refine GC ?_|refine gV (dm (b:=aD) I I (decide_eq_true d2)) ?_|refine GB ?_)
   exact cJ I I λw hm=>hm.cB (S:=⟨λ_=>True,λ_=>av az e,λ_=>[]⟩) (vl,vl,λ_=>False,0,λ_=>vl,vl) trivial [] aiz I
  have d2:e=0:=sv d2;subst d2;obtain⟨oo,rfl⟩:l7 R T=0/\r=(0,y' R T,za R T):=by
   rcases hx with⟨-,h,-⟩|⟨-,-,h,h2⟩
   exact absurd I h;exact⟨h,h2⟩
  rw[yD];have aer:=λvr vt w' h=>FQ vr vt R T w' h;have Nl:=RO oo;unfold abI at aer;rw[oo]at aer;generalize y' R T=MR at*;generalize za R T=MT at*;have wI:=λvr vt w' h=>PR vr vt MR MT w' h Nl;unfold Y3 at wI
  repeat(first|refine GC ?_|refine gV (dm (b:=aE) I I (decide_eq_false (by simp))) ?_|refine gV (aO (i:=13) aK.ty I I I) ?_|refine GB ?_)
  refine aW (iM aI.en I I) (λw hm=>aer _ _ w (hm.afW (i:=11) (j:=12) I (by rw[q6];rfl) oo)) I I I ?_;rintro⟨mr,mt⟩ _;refine zL ?_;dsimp only;refine aU (i:=14) I λ_ d1=>aU (i:=15) I λ_ d2=>?_
  try refine GA ?_
  refine aV (i:=13) (cs':=(iA mr mt).cells) I I I I (by show([mr,mt].all eQ)=aD;simp[d1,d2]) I ?_;refine zL ?_
  repeat(first|refine GA ?_|refine gV (aO (i:=13) aK.ty I I I) ?_)
  refine aW (iM aI.en I I) (λw hm=>wI _ _ w (hm.afW (i:=14) (j:=15) I I Nl)) I I I ?_;rintro⟨gP,Y6,vTP⟩ _;refine zL ?_;dsimp only;refine aU (i:=18) I λ_ d3=>?_
  try refine GA ?_
  refine PI (i:=8) (pk':=eP (xW MR 256) (ap (aj ⟨gP,0,ak⟩) MR.length MR.length) vTP) I I I (by have:=xX (xW MR 256) (vn:=ap (aj ⟨gP,0,ak⟩) MR.length MR.length) (vt:=vTP) I d3;simpa using this) I iQ (fH _ _ _) ?_;refine zL ?_
  try refine GA ?_
  exact cJ I I λw hm=>hm.cB (S:=Mm gp s MR MT) (vo,vp,F,gP,Y6,vTP) ⟨k1,k2,d3⟩ [8,9,10,16,17,18] aiz I
end bZ
namespace bZ
open Go.RowKit cU dM dg fZ gu
theorem PV(r:Rl)(l:List Rl)(of:List Bs):qH (r::l) of=if sx r.1=aE then 1 else if r.1∈of then 11 else qH l of:=rfl
theorem Us(of hd:List Bs)(x:Bs)(l:List Bs):AL of hd (x::l)=((decide (x∈of)||decide (x∈hd))&&AL of hd l):=rfl
theorem Mo(of hd:List Bs)(r:Rl)(l:List Rl):ri of hd (r::l)=(AL of hd r.2&&ri of hd l):=rfl
theorem FW(v:Value)(s:Sp)(w:World)(h:RL (pD w) w v s):Calls aB 18 #[v] w (cz (ret (av az (pu s))) w):=by
 obtain⟨vw,vr,rfl,hw,hr⟩:=h;have hnm:=λs w=>Bo s w;have hwd:=λgm w' B ho hl hm=>L_ vw vr s.words gm w hw hl w' B ho hm;obtain⟨bw,cw,rfl,-⟩:=hw;obtain⟨br,cr,rfl,hcr,hmr,hrr⟩:=hr;unfold maxLen at hmr;have hC:pu s=if 60<s.words.length\/60<s.words.length+s.rules.length then 2 else if(k_ s.words []).1≠0 then(k_ s.words []).1 else if qH s.rules (k_ s.words []).2≠0 then qH s.rules (k_ s.words []).2 else if ri (k_ s.words []).2 (s.rules.map (·.1)) s.rules=aD then 0 else 11:=rfl
 obtain⟨words,rules⟩:=s;dsimp only at*;refine enter (args:=[aQ #[ap bw words.length cw,ap br rules.length cr]]) (n:=99) Tryz.func18 I I I ?_;refine b9 (bz (bQ I I I λg1=>?_));refine zL ?_
 by_cases c0:60<words.length
 ·rw[if_pos (.inl c0)]at hC
  rw[hC]
  repeat(first|refine GA ?_|refine gV (aC (v:=ap bw words.length cw) aK.ty I (aH (i:=0) I I)) ?_)
  exact dC I I I
 by_cases c1:60<words.length+rules.length
 ·rw[if_pos (.inr c1)]at hC
  rw[hC]
  repeat(first|refine GA ?_|refine gV (aC (v:=ap bw words.length cw) aK.ty I (aH (i:=0) I I)) ?_|refine gV (aC (v:=ap br rules.length cr) aK.ty I (aH (i:=0) I I)) ?_)
  exact dC I I I
 rw[if_neg J]at hC;rw[hC]
 repeat(first|refine GA ?_|refine gV (aC (v:=ap bw words.length cw) aK.ty I (aH (i:=0) I I)) ?_|refine gV (aC (v:=ap br rules.length cr) aK.ty I (aH (i:=0) I I)) ?_)
 refine xl hZ I λg3=>?_;refine zL ?_;refine xl hZ I λg4=>?_;refine zL ?_
 repeat(first|refine GA ?_|refine gV (aO (i:=0) aK.ty I I I) ?_)
 refine bx [1] [0,2] aiz I I (fI aI.en I I I) (λw' qV hb=>hwd g3 w' _ (pC.on (pC.self w) qV (λo ho=>by simp at ho;subst ho;simp)) J hb) I I I ?_;rintro⟨m,n⟩ ⟨k1,k2⟩
 conv=>arg 8;simp only[zJ,cL,ret,id_eq,sy]
 conv=>arg 7;simp only[sy]
 generalize k_ words []=W at*;obtain⟨e,of⟩:=W;dsimp only at k1 k2⊢
 by_cases e0:e=0
 ·subst e0
  rw[if_neg (by simp)]
  repeat(first|refine GA ?_|refine gV (aC (v:=ap br rules.length cr) aK.ty I (aH (i:=0) I I)) ?_)
  generalize jp:qH rules of=fin;refine dY (ι:=Nat×(Bs->Option Value)×Nat) (λ(k,m2,n2)=>k<=rules.length/\n2<=k/\KeysOf m2 ((rules.take k).map (·.1))/\qH (rules.drop k) of=fin) (λ(k,_,_)=>[(1,aJ (aj ⟨g1,0,ak⟩)),(3,.map (aj g3)),(4,.map (aj g4)),(41,ap br rules.length cr),(42,av az rules.length),(43,av az (k:Int))])
   (λ(_,m2,n2)=>[aP g1 #[ap bw words.length cw,ap br rules.length cr] 25,eZ hZ g4 m2 n2,eZ hZ g3 m n]) (λ(k,_)=>rules.length-k) (0,λ_=>ak,0) ⟨bH _,bm _,λy=>rfl,jp⟩ ?_
  rintro⟨k,m2,n2⟩ ⟨i1,i2,i3,i4⟩;dsimp only at i1 i2 i3 i4⊢
  by_cases c2:k<rules.length
  ·obtain⟨b,off,rfl,_,eL⟩:=hrr J
   obtain⟨bk,ck,q1,-,q3⟩:=Cp eL c2;rw[eI c2,PV]at i4;have qD:(rules.take (k+1)).map (·.1)=(rules.take k).map (·.1)++[rules[k].1]:=by rw[iq c2,eO];rfl
   have dz:∀(L:List b_) (j:Nat) (u:Value),([str rules[k].1,.slice bk rules[k].2.length ck]:List Value)[j]?=aj u->At w L ⟨b,off+k*2+j,ak⟩ u:=λL j u hj=>jX (q1 j u hj);clear eL q1;generalize rules[k]=r at*;obtain⟨nm,bd⟩:=r;dsimp only at*;generalize bd.length=bn at*
   repeat(first|refine GA ?_|refine gV (aX bL.eq aK.ty I I c2) ?_|refine gV (a8 (cs:=[str nm,ap bk bn ck]) aK.ty I I (dz _)) ?_)
   clear dz;refine aY I λg7=>?_;refine zL ?_
   try refine GA ?_
   refine gh 3 (cs':=#[str nm,ap bk bn ck]) ?_;refine zL ?_
   repeat(first|refine GA ?_|refine gV (aC (v:=str nm) aK.ty I (aH (i:=3) I I)) ?_)
   refine aW (iM aI.en I I) (λw hm=>hnm nm w) I I I ?_;intro _ _;refine zL ?_
   cases hb:sx nm with
   | false=>
    rw[if_pos hb]at i4;subst i4;rw[if_pos aiz]
    try refine GA ?_
    exact dC I I I
   | true=>
    rw[if_neg (by rw[hb];decide)]at i4
    cases Bi:m nm with
    | some u=>
     rw[if_pos (rj k1 Bi)]at i4;subst i4;rw[if_pos aiz]
     repeat(first|refine GA ?_|refine gV (aC (v:=str nm) aK.ty I (aH (i:=3) I I)) ?_|refine gV (jB hZ (x:=nm) bL.eq gH (i:=2) I I I q3 Bi) ?_)
     exact dC I I I
    | none=>
     rw[if_neg (rl k1 Bi)]at i4
     repeat(first|refine GA ?_|refine gV (aC (v:=str nm) aK.ty I (aH (i:=3) I I)) ?_|refine gV (jC hZ (x:=nm) bL.eq gH (i:=2) I I I q3 Bi) ?_)
     refine lX (i:=1) (x:=nm) (v:=av az (k:Int)) hZ bL.eq I I I I q3 J ?_;refine zL ?_
     try refine GA ?_
     refine dh [0,1,2] ?_;exact jy (k+1,_,_) ⟨by omega,by show(if(m2 nm).isSome then n2 else n2+1)<=k+1;split<;>omega,by show KeysOf _ ((rules.take (k+1)).map (·.1));rw[qD];exact L9 i3,i4⟩ (by show rules.length-(k+1)<rules.length-k;omega) (by repeat' (first|exact cI|refine cC I ?_)) I
  obtain rfl:k=rules.length:=by omega
  rw[AI]at i4;subst i4;rw[my]at i3;rw[if_neg (by simp[qH])];generalize rules.map (·.1)=hd at*
  repeat(first|refine GA ?_|refine gV (aC (v:=ap br rules.length cr) aK.ty I (aH (i:=0) I I)) ?_)
  refine tJ [1,2] ?_;generalize jp:ri of hd rules=fin;refine dY (ι:=Nat) (λk=>k<=rules.length/\ri of hd (rules.drop k)=fin) (λk=>[(3,.map (aj g3)),(4,.map (aj g4)),(66,ap br rules.length cr),(67,av az rules.length),(68,av az (k:Int))])
   (λ_=>[eZ hZ g4 m2 n2,eZ hZ g3 m n]) (λk=>rules.length-k) 0 ⟨bH _,jp⟩ ?_
  rintro k ⟨i5,i6⟩
  by_cases c2:k<rules.length
  ·obtain⟨b,off,rfl,_,eL⟩:=hrr J
   obtain⟨bk,ck,q1,q2,q3⟩:=Cp eL c2;rw[eI c2,Mo]at i6;have dz:∀(L:List b_) (j:Nat) (u:Value),([str rules[k].1,.slice bk rules[k].2.length ck]:List Value)[j]?=aj u->At w L ⟨b,off+k*2+j,ak⟩ u:=λL j u hj=>jX (q1 j u hj);have qZ:=q2.flat aiz;have lf:=q2.okp;clear eL q1 q2;generalize rules[k]=r at*;obtain⟨nm,bd⟩:=r;dsimp only at*;obtain⟨b2,U8,lz,yv,VZ,EC⟩:=qZ
   cases lz
   unfold maxLen at VZ
   repeat(first|refine GA ?_|refine gV (aX bL.eq aK.ty I I c2) ?_|refine gV (a8 (cs:=[str nm,ap bk bd.length ck]) aK.ty I I (dz _)) ?_)
   clear dz;refine aY I λg11=>?_;refine zL ?_;refine gh 2 (cs':=#[str nm,ap bk bd.length ck]) ?_;refine zL ?_
   repeat(first|refine GA ?_|refine gV (aC (v:=ap bk bd.length ck) aK.ty I (aH (i:=2) I I)) ?_)
   refine tJ [0,1] ?_;generalize afZ:AL of hd bd=af0 at i6;refine dY (ι:=Nat) (λi=>i<=bd.length/\AL of hd (bd.drop i)=af0) (λi=>[(3,.map (aj g3)),(4,.map (aj g4)),(66,ap (aj ⟨b,off,ak⟩) rules.length cr),(67,av az rules.length),(68,av az (k:Int)),(73,ap bk bd.length ck),(74,av az bd.length),(75,av az (i:Int))])
    (λ_=>[eZ hZ g4 m2 n2,eZ hZ g3 m n]) (λi=>bd.length-i) 0 ⟨bH _,afZ⟩ ?_
   rintro i ⟨i7,i8⟩
   by_cases c3:i<bd.length
   ·obtain⟨b3,abN,rfl,Dr⟩:=EC J
    have dz:=gG (L:=([eZ hZ g4 m2 n2,eZ hZ g3 m n]:List b_)) RJ Dr c3 0 _ I;rw[eI c3,Us]at i8;have hlen:=lf bd[i] (cD c3);clear Dr lf EC;generalize bd[i]=x at*
    repeat(first|refine GA ?_|refine gV (aX bL.eq aK.ty I I c3) ?_|refine gV (aC (v:=str x) aK.ty I dz) ?_)
    cases Bi:m x with
    | some u=>
     rw[decide_eq_true (rj k1 Bi),Bool.true_or,uP]at i8
     cases PW:m2 x with
     | some u2=>
      repeat(first|refine GA ?_|refine gV (jB hZ (x:=x) bL.eq gH (i:=1) I I I hlen Bi) ?_|refine gV (jB hZ (x:=x) bL.eq gH (i:=0) I I I hlen PW) ?_)
      exact bW (i+1) ⟨by omega,i8⟩ (by show bd.length-(i+1)<bd.length-i;omega)
     | none=>
      repeat(first|refine GA ?_|refine gV (jB hZ (x:=x) bL.eq gH (i:=1) I I I hlen Bi) ?_|refine gV (jC hZ (x:=x) bL.eq gH (i:=0) I I I hlen PW) ?_)
      exact bW (i+1) ⟨by omega,i8⟩ (by show bd.length-(i+1)<bd.length-i;omega)
    | none=>
     cases PW:m2 x with
     | some u2=>
      rw[decide_eq_true (rj i3 PW),Bool.or_true,uP]at i8
      repeat(first|refine GA ?_|refine gV (jC hZ (x:=x) bL.eq gH (i:=1) I I I hlen Bi) ?_|refine gV (jB hZ (x:=x) bL.eq gH (i:=0) I I I hlen PW) ?_)
      exact bW (i+1) ⟨by omega,i8⟩ (by show bd.length-(i+1)<bd.length-i;omega)
     | none=>
      rw[decide_eq_false (rl k1 Bi),decide_eq_false (rl i3 PW),Bool.or_false,Jj]at i8;subst i8;rw[Jj]at i6;rw[<-i6,if_neg aiz]
      repeat(first|refine GA ?_|refine gV (jC hZ (x:=x) bL.eq gH (i:=1) I I I hlen Bi) ?_|refine gV (jC hZ (x:=x) bL.eq gH (i:=0) I I I hlen PW) ?_)
      exact dC I I I
   obtain rfl:i=bd.length:=by omega
   rw[AI]at i8;have i8:aD=af0:=i8;rw[<-i8,uP]at i6
   try refine GA ?_
   exact bW (k+1) ⟨by omega,i6⟩ (by show rules.length-(k+1)<rules.length-k;omega)
  obtain rfl:k=rules.length:=by omega
  rw[AI]at i6;have i6:aD=fin:=i6;rw[<-i6,if_pos I]
  try refine GA ?_
  exact dC I I I
 rw[if_pos e0]
 repeat(first|refine GC ?_|refine gV (dm (b:=aD) I I (decide_eq_true e0)) ?_|refine GB ?_)
 exact dC I I I
end bZ
namespace bZ
open Go.RowKit cU dM aT fG
def af1(n:Nat)(l:List aT.Prod):Prop:=∀p∈l,0<=p.1/\p.1<(n:Int)/\∀x∈p.2,cU.dX x.2
end bZ
namespace bZ
open Go.RowKit cU dM aT fG
theorem Y7{g:d_}{n:Nat}(h:bX g=0)(hn:g.bC=n):af1 n g.aF/\Xq n g.aF:=by
 obtain⟨a1,a2,a3,a4,a5,a6⟩:=cP h;refine⟨λp hp=>?_,λp hp x hx h2=>?_⟩
 ·obtain⟨b1,b2,b3,b4⟩:=a6 p hp
  refine⟨b2,by omega,λx hx=>?_⟩;have:=b4 x hx;unfold right at this;split at this;simp at this;exact⟨by omega,by omega⟩;split at this;simp at this;exact⟨by omega,by omega⟩;simp at this
 have:=(a6 p hp).2.2.2 x hx;unfold right at this;rw[if_neg J,if_pos h2]at this;simp at this;omega
end bZ
namespace bZ
open Go.RowKit cU dM aT dL fG dG xE BM
attribute [local irreducible] Op.shift Go.bits in
theorem Ut(t:Nat)(n:Int)(vp:Value)(col:Nat)(w:World)(ht:t<=30)(hc:col<=t)(hv:∃b m c,vp=ap b m c):
 Calls aB 46 #[dE (t:Int) n vp,av az (col:Int)] w (cz (ret (gD (OB t col))) w):=by
 obtain⟨b,m,c,rfl⟩:=hv;have WE:=λw=>aa4 (P:=aB) col J w;unfold OB;refine enter (args:=[dE (t:Int) n (ap b m c),av az (col:Int)]) (n:=11) Tryz.func46 I I I ?_;refine b9 (bz (bQ I I I λg2=>?_))
 by_cases e:col=t
 ·rw[if_pos e]
  repeat(first|refine GA ?_|refine gV (aC aK.ty I (aH (i:=0) I I)) ?_)
  exact eE
 ·rw[if_neg e]
  repeat(first|refine GA ?_|refine gV (aC aK.ty I (aH (i:=0) I I)) ?_|refine gV (CW I I WE) ?_)
  exact eE
def clC(x:Cl):List Value:=[av az x.1,av az x.2.1,av az x.2.2.1,av az x.2.2.2]
theorem Y8(a b c d:Int)(w:World):(df 137 #[(0,av az a),(1,av az b),(2,av az c),(3,av az d)]).run aB w= .ok (aQ (clC (a,b,c,d)).toArray) w:=by
 unfold clC;go_simp
abbrev uU(v:Value):Value:=v
def aes(n:Int):Value:=av az n
def BV(T n c j:Nat):Nat:=if j<n then T+1 else if j=n then c else 0
def mL(l:List aT.Prod)(may:Nat->Nat)(T:Nat)(vs:Nat->Value)(n c:Nat)(j:Nat):b_:=a_ 3 1 (vs j) (BV T n c j) ((lP (BV T n c j) (BM.rowAt l may T j)).map aes)
def Y9(N T:Nat)(l:List aT.Prod)(may:Nat->Nat):Spec (Nat×(Nat->Value)×Value):=
 ⟨λ_=>True,λx=> .tuple #[ap (aj ⟨x.1,0,ak⟩) N N,x.2.2,av az 0],λx=>[fg 27 uU x.1 N x.2.1,jd (λj=>j<N) (mL l may T x.2.1 N 0),a_ 137 4 x.2.2 (mu l may T N).length ((mu l may T N).flatMap clC)]⟩
def AN(n:Nat)(l:List aT.Prod)(i:Nat):Nat:=fQ (wq n l).E (Nr n l) (db l (i:Int)).2 ((Ns n l).getD (db l (i:Int)).1.toNat 0)
section
variable{l:List aT.Prod}{may:Nat->Nat}{T:Nat}
theorem EF(n col:Nat):∀(k:Nat) (out:List Cl),(xG l may T n col k out).length<=out.length+k
 |0,out=>by rw[xG];omega
 | k +1,out=>by
  have:=EF n col k out;rw[xG];split
  ·split
   omega;rw[bK];simp;omega
  omega
theorem EG(n:Nat):∀(c:Nat) (out:List Cl),(BN l may T n c out).length<=out.length+c*l.length
 |0,out=>by rw[BN];omega
 |c+1,out=>by
  have h1:=EG n c out;have h2:=EF (l:=l) (may:=may) (T:=T) n c l.length (BN l may T n c out);rw[BN,kU];omega
theorem Mp:∀(N:Nat),(mu l may T N).length<=N*((T+1)*l.length)
 |0=>by rw[mu];simp
 |N+1=>by
  have h1:=Mp N;have h2:=EG (l:=l) (may:=may) (T:=T) N (T+1) (mu l may T N);rw[mu,kU];omega
end
theorem Y_{g:d_}{n:Nat}(iS:bX g=0)(hn:g.bC=n):zy n (Ns n g.aF):=by
 obtain⟨_,_,a3,_⟩:=cP iS;have hf:=yL iS hn;have hF:=(I1 iS hn).2;have wo:=Xv (E:=(wq n g.aF).E) hF hf;obtain⟨s',h1,h2,h3⟩:=yK wo _ ((cZ n 0).set 0 9223372036854775808) ⟨by simp,λx hx=>by
  rcases List.mem_or_eq_of_mem_set hx with h|h
  rw[List.eq_of_mem_replicate h];decide;rw[h];decide⟩ (bm _)
 obtain⟨_,h4,h5⟩:=Bb _ _ _ h2;have h6:Ns n g.aF=s':=by unfold Ns wC;rw[h3];exact h4
 rw[h6];exact h1
attribute [local irreducible] Op.shift Go.bits Instr.build in
set_option maxRecDepth 100000 in
theorem Jv(v:Value)(g:d_)(w:World)(h:jZ (λk=>k<w.heap.size) w v g)(hg:bX g=0)(T N:Nat)(hT:g.aR=T)(hN:g.bC=N):
    Calls aB 22 #[v] w (cz (Y9 N T g.aF (AN N g.aF)) w):=by
  obtain⟨a1,a2,a3,a4,a5,a6⟩:=cP hg;have TP:=λw' (yG:Gr w w')=>DY v g w' (h.gr yG) hg N hN;have hbe:∀body:List dv,body∈g.aF.map (·.2)->ux g body=0/\∀b,BS g body b=fQ (wq N g.aF).E (Nr N g.aF) body b:=λbody hb=>by
    obtain⟨p,hp,rfl⟩:=fa.1 hb;obtain⟨b1,b2,b3,b4⟩:=a6 p hp;have e:ux g p.2=0:=by
      unfold ux;rw[if_neg (by simpa using hg),if_neg J];exact I0 b4
    refine⟨e,λb=>?_⟩;unfold BS;rw[if_pos e,show g.bC.toNat=N by omega]
  have hBg:=λvb body b w' (hg:Gr w w') hs=>ra v vb g body b w' (h.gr hg) hs;obtain⟨_,hF⟩:=I1 hg hN;have hWW:=Y_ hg hN;have U3:=Y7 hg hN;have Lj:AN N g.aF=λi:Nat=>fQ (wq N g.aF).E (Nr N g.aF) (db g.aF (i:Int)).2 ((Ns N g.aF).getD (db g.aF (i:Int)).1.toNat 0):=rfl;have ahv:∀i,AN N g.aF i<18446744073709551616:=λi=>by
    refine ow hF (oe hWW _) λx hx h1=>?_
    by_cases c:i<g.aF.length
    · rw[xC c]at hx
      have:=(a6 _ (cD c)).2.2.2 x hx;unfold right at this;rw[if_pos h1]at this;simp at this;omega
    unfold db at hx;rw[dB,cH,ku J]at hx
    cases hx
  generalize sY:AN N g.aF=may at*;obtain⟨vp,rfl,h1,_⟩:=h;obtain⟨t,nn,aF⟩:=g;dsimp only at*;subst hT hN;have Mq:=h1;obtain⟨bp,cp,rfl,Ix,Fj,nZ⟩:=h1;unfold maxLen at Fj;refine enter (args:=[dE (T:Int) (N:Int) (ap bp aF.length cp)]) (n:=119) Tryz.func22 I I I ?_;refine b9 (bz (bQ I I I λg1=>?_));refine zL ?_
  repeat(first|refine GA ?_|refine gV (aO (i:=0) aK.ty I I I) ?_)
  refine aW (iM aI.en I I) (λw' hm=>(TP w' hm.below).mono λe w2 h=>D0 h) I I I ?_;intro x _
  conv=>arg 8;simp only[zJ,cL,ret,id_eq,DX.val]
  refine C3 [0,3] ?_
  try refine GA ?_
  refine aY I λg5=>?_;refine gh 2 ?_;refine zL ?_
  repeat(first|refine GA ?_|refine gV (aC aK.ty I (aH (i:=0) I I)) ?_)
  have hz:bT aB 75 #[gD 0]:=(inferInstance:bT aB 75 #[.int .u64 0]);refine oT gD 0 I I J J I λg7=>?_;refine zL ?_
  repeat(first|refine GA ?_|refine gV (aC aK.ty I (aH (i:=0) I I)) ?_)
  refine nO (ι:=Nat) (λk=>k<=aF.length) (λk=>[(1,aJ (aj ⟨g1,0,ak⟩)),(5,aJ (aj ⟨g5,0,ak⟩)),(7,ap (aj ⟨g7,0,ak⟩) aF.length aF.length),(30,ap bp aF.length cp),(31,av az aF.length),(32,av az (k:Int))])
    (λk=>[aP g1 (dE (T:Int) (N:Int) (ap bp aF.length cp)).cells 34,iu N x.gW x.cW (Ns N aF),aP g5 (l9 (dq N x.gE x.cE) (dq N x.gF x.cF) (dq N x.gW x.cW) (dq N x.gR x.cR) (dq N x.gM x.cM)).cells 65,fg 75 gD g7 aF.length (λj=>if j<k then may j else 0)]) (λk=>aF.length-k) 0 (bH _) (by repeat' (first|exact cI|refine cC I ?_)) (by rw[show(λj=>if j<0 then may j else 0)=λ_=>0 from funext λj=>if_neg J];rfl) ?_
  intro k k1
  by_cases c7:k<aF.length
  · obtain⟨b,off,rfl,_,hr⟩:=nZ J
    obtain⟨bb,cb,y1,y2,y3⟩:=lx hr c7;have dz:∀(L:List b_) (j:Nat) (v:Value),([av az aF[k].1,.slice bb aF[k].2.length cb]:List Value)[j]?=aj v->At w L ⟨b,off+k*2+j,ak⟩ v:=λL j v hj=>jX (y1 j v hj);have wo:=y3.flat aiz;obtain⟨b1,b2,b3,b4⟩:=a6 _ (cD c7);obtain⟨FC,Nn⟩:=hbe aF[k].2 (fa.2 ⟨_,cD c7,rfl⟩);have No:may k=fQ (wq N aF).E (Nr N aF) aF[k].2 ((Ns N aF).getD aF[k].1.toNat 0):=by rw[Lj];dsimp only;rw[xC c7]
    clear y1 y3 hr hbe nZ;generalize aF[k]=pd at*;obtain⟨hd,body⟩:=pd;dsimp only at*;obtain⟨hn,rfl⟩:∃hn:Nat,hd=hn:=⟨hd.toNat,by omega⟩;have hlt:hn<N:=by omega
    rw[dB]at No;have ahw:((Ns N aF).map gD)[0+hn]?=aj (gD ((Ns N aF).getD hn 0)):=by rw[cV];exact IX (by rw[hWW.1];exact hlt)
    have ahx:=oe hWW hn;have hBg:=λw' hg hs=>hBg (ap bb body.length cb) body ((Ns N aF).getD hn 0) w' hg hs ahx;rw[FC,Nn,<-No]at hBg;generalize (Ns N aF).getD hn 0=wv at*
    repeat(first|refine GA ?_|refine gV (aX bL.eq aK.ty I I c7) ?_|refine gV (a8 aK.ty I I (dz _)) ?_)
    refine aY I λg9=>?_
    try refine GA ?_
    refine gh 4 ?_;refine zL ?_
    try refine GA ?_
    refine dK ([aP g1 (dE (T:Int) (N:Int) (ap (aj ⟨b,off,ak⟩) aF.length cp)).cells 34,iu N x.gW x.cW (Ns N aF),aP g5 (l9 (dq N x.gE x.cE) (dq N x.gF x.cF) (dq N x.gW x.cW) (dq N x.gR x.cR) (dq N x.gM x.cM)).cells 65,aP g9 #[av az (hn:Int),ap bb body.length cb] 132]) (.calm 0 (.calm 1 (.calm 2 (.calm 3 (.calm 4 (.calm 5 (.calm 6 (.calm 7 (.calm 8 (.calm 9 (.calm 10 (.calm 11 (.calm 12 (.calm 13 (.calm 14 (.calm 15 (.one 16 (.done)))))))))))))))))) (bV [0,1,2,4]) ?_
    repeat(first|refine GW ?_|(refine GN ?_;first|refine QW (aO (i:=0) aK.ty I I I) ?_|refine QW (aC aK.ty I (aH (i:=3) I I)) ?_|refine QW (aC aK.ty I (aH (i:=2) I I)) ?_|refine QW (bY bL.eq aK.ty I I hlt) ?_|refine QW (aC aK.ty I (jY (i:=1) I ahw)) ?_))
    refine n_ I (sZ aI.en I I I I) (λw hm=>hBg _ hm.below (wo.gr hm.below)) I I I ?_
    repeat(first|refine GW ?_|(refine GN ?_;first|refine QW (bY bL.eq aK.ty I I c7) ?_))
    refine aL I ?_;refine iJ (i:=3) (v:=may k) (λj=>if j<k+1 then may j else 0) aK.ty I I I I I c7 (λj _=>by
      by_cases e:j=k
      subst e;simp
      by_cases e2:j<k
      simp[e,e2,show j<k+1 by omega];simp[e,e2,show ¬j<k+1 by omega]) ?_
    refine zL ?_;refine aM (bV [0,1,2,4]) ?_
    try refine GW ?_
    try refine GA ?_
    refine dh [0,1,2,3] ?_;exact bW (k+1) J J
  · obtain rfl:k=aF.length:=by omega
    rw[show fg 75 gD g7 aF.length (λj=>if j<aF.length then may j else 0)=fg 75 gD g7 aF.length may from oR λj hj=>if_pos hj];clear hBg hbe TP Lj
    repeat(first|refine GA ?_|refine gV (aC aK.ty I (aH (i:=0) I I)) ?_)
    refine oT uU (ap ak 0 0) I I J J I λg10=>?_;refine zL ?_
    try refine GA ?_
    refine tJ [0,3,4] ?_;refine ml (jd (λj=>j<N) (mL aF may T (λ_=>ap ak 0 0) 0 0)) (λk hk=>hk.elim (λh=>by cases h) λ⟨i,hi,h⟩=>h.elim (λh=>by cases h) id) (λw=>⟨λi hi=>?_,λi j _ _ _ k h=>h.elim (λh=>by cases h) nK⟩) ?_
    · unfold mL BV
      rw[if_neg J,ite_self];exact Pz _ _ _ _
    refine ja 137 4 ?_;refine dY (ι:=Nat×(Nat->Value)×Value) (λ(n,_,_)=>n<=N) (λ(n,_,vo)=>[(1,aJ (aj ⟨g1,0,ak⟩)),(7,ap (aj ⟨g7,0,ak⟩) aF.length aF.length),(10,ap (aj ⟨g10,0,ak⟩) N N),(11,vo),(58,av az (N:Int)),(59,av az (n:Int))])
      (λ(n,vs,vo)=>[aP g1 (dE (T:Int) (N:Int) (ap bp aF.length cp)).cells 34,fg 75 gD g7 aF.length may,fg 27 uU g10 N vs,jd (λj=>j<N) (mL aF may T vs n 0),a_ 137 4 vo (mu aF may T n).length ((mu aF may T n).flatMap clC)]) (λ(n,_,_)=>N-n) (0,λ_=>ap ak 0 0,ap ak 0 0) (bH _) ?_
    rintro⟨n,vs,vo⟩ n1;dsimp only at n1⊢
    by_cases c8:n<N
    · repeat(first|refine GC ?_|refine gV (aC aK.ty I (aH (i:=0) I I)) ?_|refine gV (eM (r:=((T+1:Nat):Int)) I I J J J) ?_|refine GB ?_)
      refine dY (ι:=Nat×(Nat->Value)×Value) (λ(c,_,_)=>c<=T+1) (λ(c,_,vo)=>[(1,aJ (aj ⟨g1,0,ak⟩)),(7,ap (aj ⟨g7,0,ak⟩) aF.length aF.length),(10,ap (aj ⟨g10,0,ak⟩) N N),(11,vo),(12,av az (n:Int)),(58,av az (N:Int)),(59,av az (n:Int)),(64,av az ((T+1:Nat):Int)),(65,av az (c:Int))])
        (λ(c,vs,vo)=>[aP g1 (dE (T:Int) (N:Int) (ap bp aF.length cp)).cells 34,fg 75 gD g7 aF.length may,fg 27 uU g10 N vs,jd (λj=>j<N) (mL aF may T vs n c),a_ 137 4 vo (BN aF may T n c (mu aF may T n)).length ((BN aF may T n c (mu aF may T n)).flatMap clC)]) (λ(c,_,_)=>T+1-c) (0,vs,vo) (bH _) ?_
      rintro⟨c,vs,vo⟩ cc;dsimp only at cc⊢
      by_cases c9:c<T+1
      · have ahU:=EG (l:=aF) (may:=may) (T:=T) n c (mu aF may T n)
        have ahV:=Mp (l:=aF) (may:=may) (T:=T) n;have hm1:c*aF.length<=31*40:=Et J a5;have VZ:(T+1)*aF.length<=31*40:=Et J a5;have hm3:n*((T+1)*aF.length)<=20*(31*40):=Et J VZ;have ahy:mu aF may T (n+1)=BN aF may T n (T+1) (mu aF may T n):=rfl;have af2:BN aF may T n (c+1) (mu aF may T n)=xG aF may T n c aF.length (BN aF may T n c (mu aF may T n)):=rfl;have hbc:OB T c<18446744073709551616:=by
          unfold OB;split
          decide
          exact Nat.lt_of_le_of_lt (Nat.pow_le_pow_right aiz (show c<=30 by omega)) aiz
        have aaP:=λw=>Ut T (N:Int) (ap bp aF.length cp) c w J J ⟨_,_,_,rfl⟩;generalize BN aF may T n c (mu aF may T n)=uV at*
        repeat(first|refine GA ?_|refine gV (aC aK.ty I (aH (i:=0) I I)) ?_)
        refine dY (ι:=Nat×Value) (λ(k,_)=>k<=aF.length) (λ(k,vo)=>[(1,aJ (aj ⟨g1,0,ak⟩)),(7,ap (aj ⟨g7,0,ak⟩) aF.length aF.length),(10,ap (aj ⟨g10,0,ak⟩) N N),(11,vo),(12,av az (n:Int)),(13,av az (c:Int)),(14,av az (h_ aF may T n c k)),(58,av az (N:Int)),(59,av az (n:Int)),(64,av az ((T+1:Nat):Int)),(65,av az (c:Int)),(69,ap bp aF.length cp),(70,av az aF.length),(71,av az (k:Int))])
          (λ(k,vo)=>[aP g1 (dE (T:Int) (N:Int) (ap bp aF.length cp)).cells 34,fg 75 gD g7 aF.length may,fg 27 uU g10 N vs,jd (λj=>j<N) (mL aF may T vs n c),a_ 137 4 vo (xG aF may T n c k uV).length ((xG aF may T n c k uV).flatMap clC)]) (λ(k,_)=>aF.length-k) (0,vo) (bH _) ?_
        rintro⟨k,vo⟩ kk;dsimp only at kk⊢
        by_cases ck:k<aF.length
        · obtain⟨b,off,rfl,_,hr⟩:=nZ J
          obtain⟨bb,cb,y1,y2,y3⟩:=lx hr ck;have dz:∀(L:List b_) (j:Nat) (v:Value),([av az aF[k].1,.slice bb aF[k].2.length cb]:List Value)[j]?=aj v->At w L ⟨b,off+k*2+j,ak⟩ v:=λL j v hj=>jX (y1 j v hj);have U1:=EF (l:=aF) (may:=may) (T:=T) n c k uV;have hf:h_ aF may T n c (k+1)=if h_ aF may T n c k<0 then(if DJ aF may T n c k=aD then(k:Int)else h_ aF may T n c k)else h_ aF may T n c k:=rfl
          have ho:xG aF may T n c (k+1) uV=if DJ aF may T n c k=aD then(if h_ aF may T n c k<0 then xG aF may T n c k uV else xG aF may T n c k uV++[((n:Int),(c:Int),h_ aF may T n c k,(k:Int))])else xG aF may T n c k uV:=rfl
          have hcd:DJ aF may T n c k=(decide (aF[k].1=(n:Int))&&!decide ((may k&&&OB T c)=0)):=by unfold DJ;rw[xC ck]
          have hand:=TM (ahv k) hbc;have hfk:=ue (l:=aF) (may:=may) (T:=T) n c k;clear y1 y3 hr nZ;generalize aF[k]=pd at*;obtain⟨hd,body⟩:=pd;dsimp only at*;generalize hzz:may k&&&OB T c=z at*;generalize h_ aF may T n c k=fk at*;generalize xG aF may T n c k uV=ok at*
          repeat(first|refine GA ?_|refine gV (aX bL.eq aK.ty I I ck) ?_|refine gV (a8 aK.ty I I (dz _)) ?_)
          refine aY I λg16=>?_
          try refine GA ?_
          refine gh 5 ?_;refine zL ?_
          try refine GA ?_
          refine dK ([aP g1 (dE (T:Int) (N:Int) (ap (aj ⟨b,off,ak⟩) aF.length cp)).cells 34,fg 75 gD g7 aF.length may,aP g16 #[av az hd,ap bb body.length cb] 132]) (.calm 0 (.calm 1 (.calm 2 (.calm 3 (.calm 4 (.calm 5 (.calm 6 (.calm 7 (.calm 8 (.calm 9 (.calm 10 (.calm 11 (.calm 12 (.calm 13 (.calm 14 (.calm 15 (.done))))))))))))))))) (bV [0,1,5]) ?_
          by_cases e1:hd=(n:Int)
          · by_cases e2:z=0
            · rw[decide_eq_true e1,decide_eq_true e2]at hcd
              rw[hcd]at hf ho;simp only[Bool.not_true,Bool.and_false,nV,if_false,ite_self]at hf ho
              repeat(first|refine GW ?_|(refine GN ?_;first|refine QW (aC aK.ty I (aH (i:=2) I I)) ?_|refine QW (bY bL.eq aK.ty I I ck) ?_|refine QW (aC aK.ty I (fU (i:=1) I ck)) ?_|refine QW (aO (i:=0) aK.ty I I I) ?_))
              refine Kx I (fI aI.en I I I) (λw hm=>aaP _) I I I I I ?_
              repeat(first|refine GW ?_|(refine GN ?_;first|refine QW (mV I I hand) ?_))
              try refine GA ?_
              refine dh [0,1,2,3,4] ?_;exact jy (k+1,vo) (by show k+1<=aF.length;omega) (by show aF.length-(k+1)<aF.length-k;omega) (by dsimp only;rw[hf];repeat' (first|exact cI|refine cC I ?_)) (by dsimp only;rw[ho];rfl)
            rw[decide_eq_true e1,decide_eq_false e2]at hcd;rw[hcd]at hf ho;simp only[Bool.not_false,Bool.and_true,if_true]at hf ho
            repeat(first|refine GW ?_|(refine GN ?_;first|refine QW (aC aK.ty I (aH (i:=2) I I)) ?_|refine QW (bY bL.eq aK.ty I I ck) ?_|refine QW (aC aK.ty I (fU (i:=1) I ck)) ?_|refine QW (aO (i:=0) aK.ty I I I) ?_))
            refine Kx I (fI aI.en I I I) (λw hm=>aaP _) I I I I I ?_
            repeat(first|refine GW ?_|(refine GN ?_;first|refine QW (mV I I hand) ?_))
            by_cases e3:fk<0
            · rw[if_pos e3]at hf ho
              try refine GA ?_
              refine dh [0,1,2,3,4] ?_;exact jy (k+1,vo) (by show k+1<=aF.length;omega) (by show aF.length-(k+1)<aF.length-k;omega) (by dsimp only;rw[hf];repeat' (first|exact cI|refine cC I ?_)) (by dsimp only;rw[ho];rfl)
            rw[if_neg e3]at hf ho
            repeat(first|refine GA ?_|refine gV (bB I (Y8 _ _ _ _)) ?_)
            refine jk (i:=4) I I I I I I I (λz h=>by cases h;rfl) J J I λz' v2=>?_;refine zL ?_
            try refine GA ?_
            refine dh [0,1,2,3,4] ?_;exact jy (k+1,v2) (by show k+1<=aF.length;omega) (by show aF.length-(k+1)<aF.length-k;omega) (by dsimp only;rw[hf];repeat' (first|exact cI|refine cC I ?_)) (by dsimp only;rw[ho,gO,bK];rfl)
          rw[decide_eq_false e1]at hcd;rw[hcd]at hf ho;simp only[Jj,nV,if_false,ite_self]at hf ho
          repeat(first|refine GW ?_|(refine GN ?_;first|refine QW (aC aK.ty I (aH (i:=2) I I)) ?_))
          try refine GA ?_
          refine dh [0,1,2,3,4] ?_;exact jy (k+1,vo) (by show k+1<=aF.length;omega) (by show aF.length-(k+1)<aF.length-k;omega) (by dsimp only;rw[hf];repeat' (first|exact cI|refine cC I ?_)) (by dsimp only;rw[ho];rfl)
        obtain rfl:k=aF.length:=by omega
        rw[<-af2];have hra:h_ aF may T n c aF.length=BM.rowAt aF may T n c:=rfl;rw[hra];clear af2 ahy hra;have hcn:mL aF may T vs n c n=a_ 3 1 (vs n) c ((lP c (BM.rowAt aF may T n)).map aes):=by
          unfold mL BV;rw[if_neg (Eu n),if_pos I]
        repeat(first|refine GA ?_|refine gV (bY bL.eq aK.ty I I c8) ?_|refine gV (aC aK.ty I (fU (i:=2) I c8)) ?_)
        refine Q5 (q:=3) n I c8 ?_;rw[hcn];refine zL ?_;refine QJ [av az (BM.rowAt aF may T n c)] I I I (by intro v hv;simp at hv;subst hv;rfl) I I λain=>?_;refine zL ?_;refine lg (i:=5) (q:=6) I I I I I I J J I λv3=>?_;refine zL ?_;refine aU (i:=5) I λkK lz=>?_
        repeat(first|refine GA ?_|refine gV (bY bL.eq aK.ty I I c8) ?_)
        refine iJ (i:=2) (v:=v3) (λj=>if j=n then v3 else vs j) aK.ty I I I kK lz c8 (λj _=>rfl) ?_;refine zL ?_;refine Xi (D':=λj=>j<N) (f':=mL aF may T (λj=>if j=n then v3 else vs j) n (c+1)) n 3 5 [0,1,2,4] aiz I I I (λh=>h.2 I) (λj hj=>by
          by_cases e:j=n
          exact .inr e;exact .inl ⟨hj,e⟩) (λj hj=>by
          by_cases e:j=n
          · subst e
            rw[An];unfold mL BV;rw[if_neg (Eu j),if_pos I];dsimp only;rw[if_pos I]
            congr 1
            unfold lP;rw[xO,eO,eO];rfl
          rw[Am e];have:BV T n (c+1) j=BV T n c j:=by unfold BV;rw[if_neg e,if_neg e]
          unfold mL;rw[this];dsimp only;rw[if_neg e]) ?_
        refine zL ?_;refine C3 [0,1,2,4,3] ?_
        try refine GA ?_
        exact bW (c+1,λj=>if j=n then v3 else vs j,vo) (by show c+1<=T+1;omega) (by show T+1-(c+1)<T+1-c;omega)
      obtain rfl:c=T+1:=by omega
      have ahz:mL aF may T vs n (T+1)=mL aF may T vs (n+1) 0:=funext λj=>by
        have:BV T n (T+1) j=BV T (n+1) 0 j:=by
          unfold BV
          by_cases e:j<n
          rw[if_pos e,if_pos J];rw[if_neg e]
          by_cases e2:j=n
          rw[if_pos e2,if_pos J];rw[if_neg e2,if_neg J,ite_self]
        unfold mL;rw[this]
      try refine GA ?_
      exact bW (n+1,vs,vo) (by show n+1<=N;omega) (by show N-(n+1)<N-n;omega) (hl:=by rw[ahz];rfl)
    obtain rfl:n=N:=by omega
    try refine GA ?_
    exact mU I I I I λw hm=>hm.meets (S:=Y9 n T aF may) (g10,vs,vo) trivial [2,3,4] aiz I
end bZ
namespace bZ
open Go.RowKit cU dM aT dL dG bI cT
def iZ(x:bI.Act):List Value:=[av az x.1,av az x.2]
theorem rm(x:bI.Act):(iZ x).length=2:=rfl
def fX(l:List aT.Prod)(T:Nat)(nx:List Int)(t:Nat)(s:List bI.Item)(c:Nat):List bI.Act:=(if c<t/\0<=nx.getD c 0 then [(1,nx.getD c 0)]else [])++s.filterMap (yW l c)
theorem Hr{l:List aT.Prod}{T:Nat}{nx:List Int}{s:List bI.Item}{c:Nat}:fX l T nx T s c=km l T s nx c:=rfl
def nW(vs:Nat->Value)(A:Nat->List bI.Act)(j:Nat):b_:=a_ 146 2 (vs j) (A j).length ((A j).flatMap iZ)
def Mr(T:Nat)(A:Nat->List bI.Act):Spec (Nat×(Nat->Value)):=⟨λ_=>True,λx=>ap (aj ⟨x.1,0,ak⟩) (T+1) (T+1),λx=>[fg 143 uU x.1 (T+1) x.2,jd (λj=>j<T+1) (nW x.2 A)]⟩
theorem PX(n:Int)(w:World):(df 146 #[(0,av az 1),(1,av az n)]).run aB w= .ok (aQ (iZ (1,n)).toArray) w:=by kernel_rfl
theorem PY(n:Int)(w:World):(df 146 #[(0,av az 2),(1,av az n)]).run aB w= .ok (aQ (iZ (2,n)).toArray) w:=by kernel_rfl
theorem PZ(w:World):(df 146 #[(0,av az 3)]).run aB w= .ok (aQ (iZ (3,0)).toArray) w:=by kernel_rfl
theorem AO{l:List aT.Prod}{T:Nat}{nx:List Int}{t:Nat}{s:List bI.Item}{c:Nat}:(fX l T nx t s c).length<=1+s.length:=by
 unfold fX;rw[bK];have:=List.length_filterMap_le (yW l c) s;split;rw[lO];omega;rw[List.length_nil];omega
theorem Jw(v:Value)(g:d_)(T:Nat)(Jh:g.aR=(T:Int))(hT:T<=30)(bS oS lS cS bN oN lN cN n:Nat)(nG vn1:Value)(s:List bI.Item)(nx:List Int)(w:World)(hG:jZ (λk=>k<w.heap.size) w v g)(Bl:g.aF.length<=40)(hnS:n<lS)(hcS:w.cell? ⟨bS,oS+n,ak⟩=aj nG)(A7:Sl w nG s.length (s.flatMap iK))(hnN:n<lN)(hcN:w.cell? ⟨bN,oN+n,ak⟩=aj vn1)(hn1:Sl w vn1 nx.length (nx.map (av .i64)))(hnl:T<=nx.length)(hr:∀it∈s,eh g.aF T it)(qZ:s.length<=20000)(_:n<=1000000):
 Calls aB 48 #[v,aQ #[ap (aj ⟨bS,oS,ak⟩) lS cS,ap (aj ⟨bN,oN,ak⟩) lN cN],av az (n:Int)] w (cz (Mr T (km g.aF T s nx)) w):=by
 obtain⟨vp,rfl,hp,-,-⟩:=hG;obtain⟨bp,cp,rfl,Ix,Fj,nZ⟩:=hp;obtain⟨bs,cs,rfl,-,hmS,hrS⟩:=A7;obtain⟨bn,cn,rfl,-,hmN,hrN⟩:=hn1;unfold maxLen at hmS hmN;rw[Jh];have FC:=PX;have Nn:=PY;have hb3:=PZ;refine enter (args:=[dE (T:Int) g.bC (ap bp g.aF.length cp),aQ #[ap (aj ⟨bS,oS,ak⟩) lS cS,ap (aj ⟨bN,oN,ak⟩) lN cN],av az (n:Int)]) (n:=113) Tryz.func48 I I I ?_;refine b9 (bz (bQ I I I λg3=>?_));refine zL ?_;refine bQ I I I λg4=>?_;refine zL ?_
 repeat(first|refine GC ?_|refine gV (aC (v:=av az (T:Int)) aK.ty I (aH (i:=0) I I)) ?_|refine gV (eM (r:=((T+1:Nat):Int)) I I J J J) ?_|refine GB ?_)
 refine oT (m:=T+1) uU (ap ak 0 0) I I J J I λg7=>?_;refine zL ?_
 repeat(first|refine GA ?_|refine gV (aC (v:=av az (T:Int)) aK.ty I (aH (i:=0) I I)) ?_)
 refine ml (jd (λj=>j<T+1) (nW (λ_=>ap ak 0 0) (fX g.aF T nx 0 []))) (λk hk=>hk.elim (λh=>by cases h) λ⟨i,hi,h⟩=>h.elim (λh=>by cases h) id) (λw=>⟨λi hi=>?_,λi j _ _ _ k h=>h.elim (λh=>by cases h) nK⟩) ?_
 ·unfold nW fX
  rw[if_neg J];exact Pz _ _ _ _
 conv=>arg 7;simp only[zA,zB,zC,zD,zE,zF,zG,zH,zI,cL,ret,id_eq]
 refine dY (ι:=Nat×(Nat->Value)) (λ(t,_)=>t<=T) (λ(t,_)=>[(2,av az (n:Int)),(3,aJ (aj ⟨g3,0,ak⟩)),(4,aJ (aj ⟨g4,0,ak⟩)),(7,ap (aj ⟨g7,0,ak⟩) (T+1) (T+1)),(17,av az (T:Int)),(18,av az (t:Int))])
  (λ(t,vs)=>[aP g3 (dE (T:Int) g.bC (ap bp g.aF.length cp)).cells 34,aP g4 (aQ #[ap (aj ⟨bS,oS,ak⟩) lS cS,ap (aj ⟨bN,oN,ak⟩) lN cN]).cells 140,fg 143 uU g7 (T+1) vs,jd (λj=>j<T+1) (nW vs (fX g.aF T nx t []))]) (λ(t,_)=>T-t) (0,λ_=>ap ak 0 0) (bH _) ?_
 rintro⟨t,vs⟩ i1;dsimp only at i1⊢
 by_cases c1:t<T
 ·obtain⟨b,off,rfl,eL⟩:=hrN J
  have hny:(nx.map (av .i64))[t]?=aj (av az (nx.getD t 0)):=by
   rw[eX,cH,bD J];rfl
  have dz:=λ(L:List b_)=>iD (W:=w) (L:=L) eL hny;have htl:t<nx.length:=by omega
  have P0:∀j,j≠t->fX g.aF T nx (t+1) [] j=fX g.aF T nx t [] j:=λj hj=>by
   unfold fX;have:(j<t+1/\0<=nx.getD j 0)↔(j<t/\0<=nx.getD j 0):=by constructor<;>(rintro⟨h1,h2⟩;exact⟨by omega,h2⟩)
   simp only[this]
  have Bq:fX g.aF T nx (t+1) [] t=if 0<=nx.getD t 0 then [(1,nx.getD t 0)]else []:=by
   unfold fX
   by_cases c:0<=nx.getD t 0
   rw[if_pos ⟨mz t,c⟩,if_pos c];rfl;rw[if_neg (λh=>c h.2),if_neg c];rfl
  have Y':fX g.aF T nx t [] t=[]:=by unfold fX;rw[if_neg (λh=>Eu t h.1)];rfl
  generalize nx.getD t 0=y at*
  repeat(first|refine GA ?_|refine gV (aC (v:=ap (aj ⟨bN,oN,ak⟩) lN cN) aK.ty I (aH (i:=1) I I)) ?_|refine gV (bY bL.eq aK.ty I I hnN) ?_|refine gV (aC (v:=ap (aj ⟨b,off,ak⟩) nx.length cn) aK.ty I (jX hcN)) ?_|refine gV (bY bL.eq aK.ty I I htl) ?_|refine gV (aC (v:=av az y) aK.ty I (dz _)) ?_)
  by_cases c2:0<=y
  ·rw[if_pos c2]at Bq
   repeat(first|refine GC ?_|refine gV (eN (b:=aD) I I (decide_eq_true c2)) ?_|refine gV (bY bL.eq aK.ty I I (show t<T+1 by omega)) ?_|refine gV (aC aK.ty I (fU (i:=2) I (show t<T+1 by omega))) ?_|refine gV (bB I (FC _)) ?_|refine GB ?_)
   refine Q5 (q:=3) t I (show t<T+1 by omega) ?_;have hFt:nW vs (fX g.aF T nx t []) t=a_ 146 2 (vs t) 0 []:=by unfold nW;rw[Y'];rfl
   rw[hFt];refine zL ?_;refine jk (i:=4) I I I I I I I (λz h=>by cases h;rfl) J J I λz v3=>?_;refine zL ?_
   repeat(first|refine GA ?_|refine gV (bY bL.eq aK.ty I I (show t<T+1 by omega)) ?_)
   refine aU (i:=4) I λkK lz=>?_;refine iJ (i:=2) (v:=v3) (λj=>if j=t then v3 else vs j) aK.ty I I I kK lz (show t<T+1 by omega) (λj _=>rfl) ?_;refine zL ?_;refine Xi (D':=λj=>j<T+1) (f':=nW (λj=>if j=t then v3 else vs j) (fX g.aF T nx (t+1) [])) t 3 4 [0,1,2] aiz I I I (λh=>h.2 I) (λj hj=>by
    by_cases e:j=t
    exact .inr e;exact .inl ⟨hj,e⟩) (λj hj=>by
    by_cases e:j=t
    ·subst e
     rw[An];unfold nW;dsimp only;rw[Bq,if_pos I];rfl
    rw[Am e];unfold nW;dsimp only;rw[P0 j e,if_neg e]) ?_
   refine zL ?_
   try refine GA ?_
   exact bW (t+1,λj=>if j=t then v3 else vs j) (by show t+1<=T;omega) (by show T-(t+1)<T-t;omega)
  rw[if_neg c2]at Bq;have tX:fX g.aF T nx (t+1) []=fX g.aF T nx t []:=funext λj=>by
   by_cases e:j=t
   subst e;rw[Bq,Y'];exact P0 j e
  repeat(first|refine GC ?_|refine gV (eN (b:=aE) I I (decide_eq_false c2)) ?_|refine GB ?_)
  exact bW (t+1,vs) (by show t+1<=T;omega) (by show T-(t+1)<T-t;omega) (hl:=by dsimp only;rw[tX])
 obtain rfl:t=T:=by omega
 repeat(first|refine GA ?_|refine gV (aC (v:=ap (aj ⟨bS,oS,ak⟩) lS cS) aK.ty I (aH (i:=1) I I)) ?_|refine gV (bY bL.eq aK.ty I I hnS) ?_|refine gV (aC (v:=ap bs s.length cs) aK.ty I (jX hcS)) ?_)
 refine dY (ι:=Nat×(Nat->Value)) (λ(k,_)=>k<=s.length) (λ(k,_)=>[(3,aJ (aj ⟨g3,0,ak⟩)),(7,ap (aj ⟨g7,0,ak⟩) (t+1) (t+1)),(47,ap bs s.length cs),(48,av az (s.length:Int)),(49,av az (k:Int))])
  (λ(k,vs)=>[aP g3 (dE (t:Int) g.bC (ap bp g.aF.length cp)).cells 34,aP g4 (aQ #[ap (aj ⟨bS,oS,ak⟩) lS cS,ap (aj ⟨bN,oN,ak⟩) lN cN]).cells 140,fg 143 uU g7 (t+1) vs,jd (λj=>j<t+1) (nW vs (fX g.aF t nx t (s.take k)))]) (λ(k,_)=>s.length-k) (0,vs) (bH _) ?_
 rintro⟨k,vs⟩ j1;dsimp only at j1⊢;clear FC
 by_cases c2:k<s.length
 ·obtain⟨b,off,rfl,eL⟩:=hrS J
  have dz:=λ(L:List b_)=>gG (L:=L) lA eL c2;have Eb:∀(L:List b_) (j:Nat) (u:Value),(iK s[k])[j]?=aj u->At (w:bR) L ⟨b,off+k*3+j,ak⟩ u:=dz;clear dz eL hrS;have hxr:=hr s[k] (cD c2);have qD:s.take (k+1)=s.take k++[s[k]]:=iq c2;have pF:∀c,fX g.aF t nx t (s.take (k+1)) c=fX g.aF t nx t (s.take k) c++(match yW g.aF c s[k]with|some x=>[x]|none=>[]):=λc=>by
   rw[qD];unfold fX;rw[List.filterMap_append,<-eY]
   congr 1
   rw[List.filterMap_cons]
   cases yW g.aF c s[k]<;>rfl
  have hlen:∀c,(fX g.aF t nx t (s.take k) c).length<=20001:=λc=>fv AO (by rw[iU];omega);generalize hit:s[k]=it at*;obtain⟨p,d,lo⟩:=it;obtain⟨r1,r2,r3,r4,r5,r6⟩:=hxr;dsimp only at r1 r2 r3 r4 r5 r6;obtain⟨pn,rfl⟩:=hY r1;obtain⟨dn,rfl⟩:=hY r3;obtain⟨ln,rfl⟩:=hY r5;have wE:ln<t+1:=by omega
  have P0:∀j,j≠ln->fX g.aF t nx t (s.take (k+1)) j=fX g.aF t nx t (s.take k) j:=λj hj=>by
   rw[pF j];have:yW g.aF j ((pn:Int),(dn:Int),(ln:Int))=none:=by
    unfold yW;rw[if_pos (by show(ln:Int)≠(j:Int);omega)]
   rw[this,eG]
  have ph:=pF ln;unfold yW at ph;rw[if_neg (by show ¬(ln:Int)≠(ln:Int);simp)]at ph;dsimp only at ph;clear pF qD
  repeat(first|refine GA ?_|refine gV (aX bL.eq aK.ty I I c2) ?_|refine gV (a8 (cs:=iK ((pn:Int),(dn:Int),(ln:Int))) aK.ty I I (Eb _)) ?_)
  refine aY I λg11=>?_;refine zL ?_;refine gh 4 (cs':=(iK ((pn:Int),(dn:Int),(ln:Int))).toArray) ?_;refine zL ?_;have hFt:nW vs (fX g.aF t nx t (s.take k)) ln=a_ 146 2 (vs ln) (fX g.aF t nx t (s.take k) ln).length ((fX g.aF t nx t (s.take k) ln).flatMap iZ):=rfl;have Ko:=hlen ln
  by_cases q1:pn=g.aF.length
  ·subst q1
   by_cases q2:dn=1
   ·subst q2
    have Bq:fX g.aF t nx t (s.take (k+1)) ln=fX g.aF t nx t (s.take k) ln++[(3,0)]:=by
     rw[if_pos ⟨rfl,rfl⟩]at ph;exact ph
    repeat(first|refine GA ?_|refine gV (aC (v:=av az (g.aF.length:Int)) aK.ty I (aH (i:=4) I I)) ?_|refine gV (aC (v:=ap bp g.aF.length cp) aK.ty I (aH (i:=0) I I)) ?_|refine gV (aC (v:=av az 1) aK.ty I (aH (i:=4) I I)) ?_)
    refine On (q:=3) ln I wE ?_;rw[hFt]
    conv=>arg 7;simp only[zA,zB,zC,zD,zE,zF,zG,zH,zI,cL,ret,id_eq]
    refine dK ([aP g11 (iK ((g.aF.length:Int),1,(ln:Int))).toArray 208]) (.calm 0 (.calm 1 (.calm 2 (.calm 3 (.calm 4 (.calm 5 (.calm 6 (.calm 8 (.two 7 (.one 9 (.one 10 (.calm 11 (.one 12 (.done))))) 9 (.one 7 (.one 10 (.calm 11 (.one 12 (.done)))))))))))))) (bV [4]) ?_
    repeat(first|refine GW ?_|(refine GN ?_;first|refine QW (aC (v:=av az (ln:Int)) aK.ty I (aH (i:=0) I I)) ?_|refine QW (bY bL.eq aK.ty I I wE) ?_|refine QW (bB I hb3) ?_))
    refine ez I I ?af3 ?af4
    case' af3=>
     refine du (aC aK.ty I (fU (i:=2) I wE)) I I I (aM (bV [4]) ?_);refine aL I (fy (cs:=(iZ (3,0)).toArray) I I I I I λg74=>aM (bV [4]) ?_)
    case' af4=>
     refine fy (cs:=(iZ (3,0)).toArray) I I I I I λg74=>aM (bV [4]) ?_;refine aL I (du (aC aK.ty I (fU (i:=2) I wE)) I I I (aM (bV [4]) ?_))
    all_goals
     refine aL I (mh (i:=5) (q:=6) I I I I I I J J I λv3=>aM (bV [4]) ?_)
     repeat(first|refine GW ?_|(refine GN ?_;first|refine QW (bY bL.eq aK.ty I I wE) ?_))
     refine aL I (aU (i:=5) I λkK lz=>iJ (i:=2) (v:=v3) (λj=>if j=ln then v3 else vs j) aK.ty I I I kK lz wE (λj _=>rfl) (aM (bV [4]) ?_))
     try refine GW ?_
     refine Q6 (D':=λj=>j<t+1) (f':=nW (λj=>if j=ln then v3 else vs j) (fX g.aF t nx t (s.take (k+1)))) ln 3 5 [0,1,2] aiz I I I (λh=>h.2 I) (λj hj=>by
      by_cases e:j=ln
      exact .inr e;exact .inl ⟨hj,e⟩) (λj hj=>by
      by_cases e:j=ln
      ·subst e
       rw[An];unfold nW;dsimp only;rw[Bq,if_pos I,bK,gO];rfl
      rw[Am e];unfold nW;dsimp only;rw[P0 j e,if_neg e]) ?_
     try refine GA ?_
     exact bW (k+1,λj=>if j=ln then v3 else vs j) (by show k+1<=s.length;omega) (by show s.length-(k+1)<s.length-k;omega)
   have tX:fX g.aF t nx t (s.take (k+1))=fX g.aF t nx t (s.take k):=funext λj=>by
    by_cases e:j=ln
    ·subst e
     rw[if_neg (λh=>q2 (by have:=h.2;omega)),if_neg (λh=>by have:=h.1;omega)]at ph;rw[ph];exact eG _
    exact P0 j e
   repeat(first|refine GA ?_|refine gV (aC (v:=av az (g.aF.length:Int)) aK.ty I (aH (i:=4) I I)) ?_|refine gV (aC (v:=ap bp g.aF.length cp) aK.ty I (aH (i:=0) I I)) ?_|refine gV (aC (v:=av az (dn:Int)) aK.ty I (aH (i:=4) I I)) ?_)
   refine dK ([aP g3 (dE (t:Int) g.bC (ap bp g.aF.length cp)).cells 34,aP g11 (iK ((g.aF.length:Int),(dn:Int),(ln:Int))).toArray 208]) (.calm 0 (.calm 1 (.calm 2 (.calm 3 (.calm 4 (.calm 5 (.calm 6 (.calm 7 (.calm 8 (.calm 9 (.calm 10 (.calm 11 (.calm 12 (.calm 13 (.calm 14 (.calm 15 (.calm 16 (.calm 17 (.calm 18 (.calm 19 (.done))))))))))))))))))))) (bV [0,4]) ?_
   repeat(first|refine GW ?_|(refine GN ?_;first|refine QW (aC (v:=av az (g.aF.length:Int)) aK.ty I (aH (i:=1) I I)) ?_|refine QW (aC (v:=ap bp g.aF.length cp) aK.ty I (aH (i:=0) I I)) ?_))
   try refine GA ?_
   refine dh [0,1,2,3] ?_;exact bW (k+1,vs) (by show k+1<=s.length;omega) (by show s.length-(k+1)<s.length-k;omega) (hl:=by dsimp only;rw[tX];rfl)
  have hpn:pn<g.aF.length:=by omega
  obtain⟨pb,po,rfl,hFb,hpr⟩:=nZ J;obtain⟨bb,cb,hq1,hq2,hq3⟩:=lx hpr hpn;have hpg:g.aF[pn]=db g.aF (pn:Int):=by
   unfold db;rw[dB,cH,bD hpn];rfl
  rw[hpg]at hq1 hq2 hq3;have af5:∀(L:List b_) (j:Nat) (v:Value),([av az (db g.aF (pn:Int)).1,ap bb (db g.aF (pn:Int)).2.length cb]:List Value)[j]?=aj v->At w L ⟨pb,po+pn*2+j,ak⟩ v:=λL j v hj=>iD hq1 hj;clear hpr nZ hq1 hq3
  by_cases q2:dn=(db g.aF (pn:Int)).2.length
  ·subst q2
   have Bq:fX g.aF t nx t (s.take (k+1)) ln=fX g.aF t nx t (s.take k) ln++[(2,(pn:Int))]:=by
    rw[if_neg (λh=>q1 (by have:=h.1;omega)),if_pos ⟨by omega,rfl⟩]at ph;exact ph
   repeat(first|refine GA ?_|refine gV (aC (v:=av az (pn:Int)) aK.ty I (aH (i:=4) I I)) ?_|refine gV (aC (v:=ap (aj ⟨pb,po,ak⟩) g.aF.length cp) aK.ty I (aH (i:=0) I I)) ?_)
   refine dK ([aP g3 (dE (t:Int) g.bC (ap (aj ⟨pb,po,ak⟩) g.aF.length cp)).cells 34,aP g11 (iK ((pn:Int),((db g.aF (pn:Int)).2.length:Int),(ln:Int))).toArray 208]) (.calm 0 (.calm 1 (.calm 2 (.calm 3 (.calm 4 (.calm 5 (.calm 6 (.calm 7 (.calm 8 (.calm 9 (.calm 10 (.calm 11 (.calm 12 (.calm 13 (.calm 14 (.calm 15 (.calm 16 (.calm 17 (.calm 18 (.calm 19 (.done))))))))))))))))))))) (bV [0,4]) ?_
   repeat(first|refine GW ?_|(refine GN ?_;first|refine QW (aC (v:=av az (pn:Int)) aK.ty I (aH (i:=1) I I)) ?_|refine QW (aC (v:=av az ((db g.aF (pn:Int)).2.length:Int)) aK.ty I (aH (i:=1) I I)) ?_|refine QW (aC (v:=ap (aj ⟨pb,po,ak⟩) g.aF.length cp) aK.ty I (aH (i:=0) I I)) ?_|refine QW (aX bL.eq aK.ty I I hpn) ?_|refine QW (aC (v:=ap bb (db g.aF (pn:Int)).2.length cb) aK.ty I (af5 _ 1 _ I)) ?_))
   try refine GA ?_
   refine On (q:=3) ln I wE ?_;rw[hFt]
   conv=>arg 7;simp only[zA,zB,zC,zD,zE,zF,zG,zH,zI,cL,ret,id_eq]
   refine dK ([aP g11 (iK ((pn:Int),((db g.aF (pn:Int)).2.length:Int),(ln:Int))).toArray 208]) (.calm 0 (.calm 1 (.calm 2 (.calm 3 (.calm 4 (.calm 5 (.calm 6 (.calm 8 (.calm 9 (.calm 10 (.two 7 (.one 11 (.one 12 (.calm 13 (.one 14 (.done))))) 11 (.one 7 (.one 12 (.calm 13 (.one 14 (.done)))))))))))))))) (bV [4]) ?_
   repeat(first|refine GW ?_|(refine GN ?_;first|refine QW (aC (v:=av az (ln:Int)) aK.ty I (aH (i:=0) I I)) ?_|refine QW (aC (v:=av az (pn:Int)) aK.ty I (aH (i:=0) I I)) ?_|refine QW (bY bL.eq aK.ty I I wE) ?_|refine QW (bB I (Nn _)) ?_))
   refine ez I I ?af6 ?af7
   case' af6=>
    refine du (aC aK.ty I (fU (i:=2) I wE)) I I I (aM (bV [4]) ?_);refine aL I (fy (cs:=(iZ (2,(pn:Int))).toArray) I I I I I λg74=>aM (bV [4]) ?_)
   case' af7=>
    refine fy (cs:=(iZ (2,(pn:Int))).toArray) I I I I I λg74=>aM (bV [4]) ?_;refine aL I (du (aC aK.ty I (fU (i:=2) I wE)) I I I (aM (bV [4]) ?_))
   all_goals
    refine aL I (mh (i:=5) (q:=6) I I I I I I J J I λv3=>aM (bV [4]) ?_)
    repeat(first|refine GW ?_|(refine GN ?_;first|refine QW (bY bL.eq aK.ty I I wE) ?_))
    refine aL I (aU (i:=5) I λkK lz=>iJ (i:=2) (v:=v3) (λj=>if j=ln then v3 else vs j) aK.ty I I I kK lz wE (λj _=>rfl) (aM (bV [4]) ?_))
    try refine GW ?_
    refine Q6 (D':=λj=>j<t+1) (f':=nW (λj=>if j=ln then v3 else vs j) (fX g.aF t nx t (s.take (k+1)))) ln 3 5 [0,1,2] aiz I I I (λh=>h.2 I) (λj hj=>by
     by_cases e:j=ln
     exact .inr e;exact .inl ⟨hj,e⟩) (λj hj=>by
     by_cases e:j=ln
     ·subst e
      rw[An];unfold nW;dsimp only;rw[Bq,if_pos I,bK,gO];rfl
     rw[Am e];unfold nW;dsimp only;rw[P0 j e,if_neg e]) ?_
    try refine GA ?_
    exact bW (k+1,λj=>if j=ln then v3 else vs j) (by show k+1<=s.length;omega) (by show s.length-(k+1)<s.length-k;omega)
  have tX:fX g.aF t nx t (s.take (k+1))=fX g.aF t nx t (s.take k):=funext λj=>by
   by_cases e:j=ln
   ·subst e
    rw[if_neg (λh=>q1 (by have:=h.1;omega)),if_neg (λh=>q2 (by have:=h.2;omega))]at ph;rw[ph];exact eG _
   exact P0 j e
  repeat(first|refine GA ?_|refine gV (aC (v:=av az (pn:Int)) aK.ty I (aH (i:=4) I I)) ?_|refine gV (aC (v:=ap (aj ⟨pb,po,ak⟩) g.aF.length cp) aK.ty I (aH (i:=0) I I)) ?_)
  refine dK ([aP g3 (dE (t:Int) g.bC (ap (aj ⟨pb,po,ak⟩) g.aF.length cp)).cells 34,aP g11 (iK ((pn:Int),(dn:Int),(ln:Int))).toArray 208]) (.calm 0 (.calm 1 (.calm 2 (.calm 3 (.calm 4 (.calm 5 (.calm 6 (.calm 7 (.calm 8 (.calm 9 (.calm 10 (.calm 11 (.calm 12 (.calm 13 (.calm 14 (.calm 15 (.calm 16 (.calm 17 (.calm 18 (.calm 19 (.done))))))))))))))))))))) (bV [0,4]) ?_
  repeat(first|refine GW ?_|(refine GN ?_;first|refine QW (aC (v:=av az (pn:Int)) aK.ty I (aH (i:=1) I I)) ?_|refine QW (aC (v:=av az (dn:Int)) aK.ty I (aH (i:=1) I I)) ?_|refine QW (aC (v:=ap (aj ⟨pb,po,ak⟩) g.aF.length cp) aK.ty I (aH (i:=0) I I)) ?_|refine QW (aX bL.eq aK.ty I I hpn) ?_|refine QW (aC (v:=ap bb (db g.aF (pn:Int)).2.length cb) aK.ty I (af5 _ 1 _ I)) ?_))
  try refine GA ?_
  refine dh [0,1,2,3] ?_;exact bW (k+1,vs) (by show k+1<=s.length;omega) (by show s.length-(k+1)<s.length-k;omega) (hl:=by dsimp only;rw[tX];rfl)
 ·obtain rfl:k=s.length:=by omega
  rw[my]
  try refine GA ?_
  exact cJ I I λw hm=>hm.meets (S:=Mr t (km g.aF t s nx)) (g7,vs) trivial [2,3] aiz I
end bZ
namespace bZ
open Go.RowKit cU dM aT dL dG bI cT
section
variable{P:Program}{n:Nat}{W:bR}{fr:Fr}{L:List b_}{Q:Exit->Act->World->Prop}{ops:Array Oper}{rest:List Oper}{d:Nat}{ty:TypeId}{pos:String}{after:Array Edge}
theorem Ms{α:Type}{f:α->List Value}{c:Nat}(hc:∀a,(f a).length=c)(h0:0<c)(z:α){t e:TypeId}{x y:Operand}{bytes m:Nat}{k k':IntKind}{zs:Array Value}[qN P t e c bytes][bT P e zs](hz:zs.toList=f z)(hx:ev fr x=aj (.int k (m:Int)))(hy:ev fr y=aj (.int k' (m:Int)))(hb:bytes*m<=281474976710656)(qM:m<=9223372036854775807)(hn:dj d n=aD)
 (h:∀g,TL P n W ops Q rest ((d,ap (aj ⟨g,0,ak⟩) m m)::fr) (L++[a_ e c (ap (aj ⟨g,0,ak⟩) m m) m ((cZ m z).flatMap f)])):TL P n W ops Q (⟨aj d,.makeSlice t x y,ty,pos,after,ak⟩::rest) fr L:=by
 refine tP hx hy (bm _) hb qM hn λg=>Gm (i:=L.length) c (zR ..) (by rw[size_madeCells]) (bm _) qM ?_;have hsz:zs.size=c:=by rw[<-Array.length_toList,hz,hc]
 have hl:(madeCells zs (m*c)).toList.take (m*c)=(cZ m z).flatMap f:=by
  rw[acK hsz h0,gK (by simp[hz,hc]),hz,PA,Jm]
 rw[hl];have:=h g
 rwa [List.set_append_right _ _ (bm _),nT,List.set_cons_zero]
end
abbrev Vb:=Int×Int×bI.Act×bI.Act
def Mt(x:Vb):List Value:=[av az x.1,av az x.2.1,av az x.2.2.1.1,av az x.2.2.1.2,av az x.2.2.2.1,av az x.2.2.2.2]
def uW:vO bI.Act:=yw iZ 2 (λ_=>rfl) (λ_=>True)
section
variable(l:List aT.Prod)(T:Nat)(Nx:List (List Int))(S:List (List bI.Item))
abbrev EH(q c:Nat):List bI.Act:=km l T (S.getD q []) (Nx.getD q []) c
def v7(q c:Nat):List Vb:=(EH l T Nx S q c).tail.map λx=>((q:Int),(c:Int),(EH l T Nx S q c).headD (0,0),x)
def ix(q:Nat):Nat->List Vb
 |0=>[]
 |c+1=>ix q c++v7 l T Nx S q c
def iy:Nat->List Vb
 |0=>[]
 |q+1=>iy q++ix l T Nx S q (T+1)
def gX(q c:Nat):List bI.Act:=(dV (T+1)).map λj=>if j<c then pj l T Nx S q j else(0,0)
def ib(n:Nat):List (List bI.Act):=(dV n).map λq=>gX l T Nx S q (T+1)
def fu(n:Nat):List (List Int):=(dV n).map λq=>(Nx.getD q []).drop T
end
def iB(g:d_):List (List bI.Act)×List (List Int)×List Vb×Int:=if(jn g).2.2≠0 then([],[],[],(jn g).2.2)else(ib g.aF g.aR.toNat (jn g).1 (jn g).2.1 (jn g).2.1.length,fu g.aR.toNat (jn g).1 (jn g).2.1.length,iy g.aF g.aR.toNat (jn g).1 (jn g).2.1 (jn g).2.1.length,0)
structure P1 where
 vA:Value
 BW:List Value
 FA:Nat->Prop
 vG:Value
 BX:List Value
 FG:Nat->Prop
def zf:vO (List bI.Act):=⟨1,λF w cs l=>(bM uW).is F w cs l/\∀v∈cs,WrI (wrP 146 2 F w) v,λh=>(bM uW).len h.1,λh hk=>⟨(bM uW).stay h.1 hk,λv hv=>(h.2 v hv).imp λg _ hp=>hp.stay (hk g hp.1)⟩,λh hk=>⟨(bM uW).mono h.1 hk,λv hv=>(h.2 v hv).imp λg _ hp=>⟨hk g hp.1,hp.2⟩⟩⟩
theorem Za{F:Nat->Prop}{fT:List (List Value)}{l:List (List bI.Act)}{w:World}(h:(dZ zf F fT l).holds w):(dZ (bM uW) F fT l).holds w:=
 ⟨⟨h.1.1,λi hi pB=>(h.1.2 i hi pB).1⟩,h.2⟩
def Uu(x:P1)(A:List (List bI.Act))(G:List (List Int)):List b_:=[a_ 143 1 x.vA A.length x.BW,dZ zf x.FA (x.BW.map λv=>[v]) A,a_ 27 1 x.vG G.length x.BX,dZ (bM fz) x.FG (x.BX.map λv=>[v]) G]
def P2(g:d_):Spec (P1×Value):=⟨λ_=>True,λx=> .tuple #[aQ #[x.1.vA,x.1.vG],x.2,av az (iB g).2.2.2],λx=>Uu x.1 (iB g).1 (iB g).2.1++[a_ 148 6 x.2 (iB g).2.2.1.length ((iB g).2.2.1.flatMap Mt)]⟩
theorem P3(w:World):(df 37 (#[]:Array (Nat×Value))).run aB w= .ok (aQ #[ap ak 0 0,ap ak 0 0]) w:=by kernel_rfl
theorem Uv(q c:Int)(a b:bI.Act)(w:World):(df 148 #[(0,av az q),(1,av az c),(2,aQ (iZ a).toArray),(3,aQ (iZ b).toArray)]).run aB w= .ok (aQ (Mt (q,c,a,b)).toArray) w:=by kernel_rfl
theorem EI{w:World}{v:Value}{l:List bI.Act}(h:(a_ 146 2 v l.length (l.flatMap iZ)).holds w):(bM uW).is (λk=>v.ownBlock=aj k) w [v] l:=
 ⟨v,rfl,jQ.of_flat (Sl.dy h) (λ_ _=>trivial) (λ_ h=>h) (λa n cp hv=>by rw[hv];rfl)⟩
theorem Zb{w:World}{v:Value}{l:List bI.Act}(h:(a_ 146 2 v l.length (l.flatMap iZ)).holds w):zf.is (λk=>v.ownBlock=aj k) w [v] l:=
 ⟨EI h,λu hu=>by obtain rfl:=dQ.1 hu;exact aek h⟩
theorem px{l:List aT.Prod}{T:Nat}{Nx:List (List Int)}{S:List (List bI.Item)}{q c:Nat}:(gX l T Nx S q c).length=T+1:=by unfold gX;rw[dI,um]
theorem Zc{l:List aT.Prod}{T:Nat}{Nx:List (List Int)}{S:List (List bI.Item)}{q:Nat}:gX l T Nx S q 0=cZ (T+1) (0,0):=by
 unfold gX;apply mR;intro j
 by_cases h:j<T+1
 simp[h];simp[h]
theorem P4{l:List aT.Prod}{T:Nat}{Nx:List (List Int)}{S:List (List bI.Item)}{q c:Nat}(hc:c<T+1):(gX l T Nx S q c).set c (pj l T Nx S q c)=gX l T Nx S q (c+1):=by
 unfold gX;apply mR;intro j;rw[List.getElem?_set]
 by_cases h:j<T+1
 ·by_cases e:c=j
  subst e;simp[h];rw[if_neg e];simp only[eX,List.getElem?_range h,Option.map_some]
  by_cases e2:j<c
  rw[if_pos e2,if_pos J];rw[if_neg e2,if_neg J]
 have h1:(dV (T+1))[j]?=none:=ku (by rw[um];omega);simp only[eX,h1,Option.map_none];split
 ·rename_i e;subst e;exact absurd hc h
 rfl
theorem Mu{l:List aT.Prod}{T:Nat}{Nx:List (List Int)}{S:List (List bI.Item)}{q c:Nat}(h:EH l T Nx S q c=[]):gX l T Nx S q (c+1)=gX l T Nx S q c:=by
 unfold gX;apply List.map_congr_left;intro j hj
 by_cases e:j=c
 ·subst e
  rw[if_pos (mz _),if_neg (Eu _)];unfold pj;rw[show km l T (S.getD q []) (Nx.getD q []) j=[]from h];rfl
 by_cases e2:j<c
 rw[if_pos e2,if_pos J];rw[if_neg e2,if_neg J]
theorem EJ{l:List aT.Prod}{T:Nat}{Nx:List (List Int)}{S:List (List bI.Item)}{q:Nat}{M:Nat}(h:(S.getD q []).length<=M):∀c,(ix l T Nx S q c).length<=c*(M+1)
 |0=>bH _
 | c +1=>by
  rw[ix,bK,kU];have h2:(v7 l T Nx S q c).length<=M+1:=by
   unfold v7;rw[dI,PB];have:(EH l T Nx S q c).length<=1+(S.getD q []).length:=by rw[EH,<-Hr];exact AO
   omega
  have:=EJ (l:=l) (T:=T) (Nx:=Nx) h c;omega
theorem Br{l:List aT.Prod}{T:Nat}{Nx:List (List Int)}{S:List (List bI.Item)}{M:Nat}(h:∀q,(S.getD q []).length<=M):∀q,(iy l T Nx S q).length<=q*((T+1)*(M+1))
 |0=>bH _
 |q+1=>by
  rw[iy,bK,kU];have:=Br (l:=l) (T:=T) (Nx:=Nx) h q;have:=EJ (l:=l) (T:=T) (Nx:=Nx) (h q) (T+1);omega
theorem zg{l:List aT.Prod}{T:Nat}{Nx:List (List Int)}{S:List (List bI.Item)}{q c:Nat}:∀{d:Nat},c<=d->(ix l T Nx S q c).length<=(ix l T Nx S q d).length
  | 0, h => by obtain rfl:c=0:=by omega
               exact bm _
  | d+1,h=>by
    by_cases e:c=d+1
    subst e;exact bm _;rw[ix,bK];have:=zg (l:=l) (T:=T) (Nx:=Nx) (S:=S) (q:=q) (c:=c) (d:=d) J;omega
theorem Mv{l:List aT.Prod}{T:Nat}{Nx:List (List Int)}{S:List (List bI.Item)}(n:Nat):ib l T Nx S (n+1)=ib l T Nx S n++[gX l T Nx S n (T+1)]:=by unfold ib;rw[xO,eO];rfl
theorem Jx{T:Nat}{Nx:List (List Int)}(n:Nat):fu T Nx (n+1)=fu T Nx n++[(Nx.getD n []).drop T]:=by unfold fu;rw[xO,eO];rfl
theorem i_{l:List aT.Prod}{T:Nat}{Nx:List (List Int)}{S:List (List bI.Item)}(n:Nat):(ib l T Nx S n).length=n:=by unfold ib;rw[dI,um]
theorem lZ{T:Nat}{Nx:List (List Int)}(n:Nat):(fu T Nx n).length=n:=by unfold fu;rw[dI,um]
theorem Jy(v:Value)(g:d_)(w:World)(hG:jZ (λk=>k<w.heap.size) w v g):
 Calls aB 23 #[v] w (cz (P2 g) w):=by
 have hG0:=hG;have hal:=λw' (hg:Gr w w')=>Ug v g w' (hG.gr hg);have hac:=λT Jh hT bS oS lS cS bN oN lN cN n nG vn1 s nx w' (hg:Gr w w')=>Jw v g T Jh hT bS oS lS cS bN oN lN cN n nG vn1 s nx w' (hG.gr hg);obtain⟨vp,rfl,-⟩:=hG;have B7:=P3;have hO:iB g=if(jn g).2.2≠0 then([],[],[],(jn g).2.2)else(ib g.aF g.aR.toNat (jn g).1 (jn g).2.1 (jn g).2.1.length,fu g.aR.toNat (jn g).1 (jn g).2.1.length,iy g.aF g.aR.toNat (jn g).1 (jn g).2.1 (jn g).2.1.length,0):=rfl
 unfold P2 Uu;refine enter (args:=[dE g.aR g.bC vp]) (n:=92) Tryz.func23 I I I ?_;refine b9 (bz (bQ I I I λg1=>?_));refine zL ?_
 try refine GA ?_
 refine aY I λg2=>?_;refine zL ?_
 repeat(first|refine GA ?_|refine gV (aO (i:=0) aK.ty I I I) ?_)
 refine aW (iM aI.en I I) (λw hm=>hal w hm.below) I I I ?_;rintro⟨vS,vN,vY,F,Bn,FN⟩ _
 conv=>arg 8;simp only[zJ,cL,ret,id_eq,abA]
 conv=>arg 7;simp only[abA]
 have lf:=RI (g:=g);have hno:=abD (g:=g);obtain⟨⟨Nx,S,e⟩,hOA⟩:∃R,jn g=R:=⟨_,rfl⟩;rw[hOA]at lf hno hO;rw[hOA];dsimp only at lf hno hO⊢;refine pS (i:=2) I fV λgC=>?_;obtain⟨aS,cS,rfl,-,haS⟩:=gC;refine pS (i:=4) I fV λgC=>?_;obtain⟨aN,cN,rfl,-,haN⟩:=gC;clear hOA hal
 try refine GA ?_
 refine aY I λg5=>?_;refine zL ?_;refine gh 6 (cs':=#[ap aS S.length cS,ap aN Nx.length cN]) ?_;refine zL ?_
 try refine GA ?_
 by_cases c0:e=0
 ·subst c0
  rw[if_neg (by simp)]at hO;obtain⟨hg,hA⟩:=lf rfl;obtain⟨hT1,hT2,hN1,WD,Bl,hgb⟩:=cP hg;have Kj:∀q∈g.aF,q.2.length<=8:=λq hq=>(hgb q hq).1;obtain⟨T,Jh⟩:∃T:Nat,g.aR=(T:Int):=⟨g.aR.toNat,by omega⟩;obtain⟨N,hNn⟩:∃N:Nat,g.bC=(N:Int):=⟨g.bC.toNat,by omega⟩;have hTn:g.aR.toNat=T:=by omega
  rw[hTn,show g.bC.toNat=N by omega]at hA;rw[hTn]at hO;have hT:T<=30:=by omega
  have hI:=LK Kj Bl hT hA;have Py:=abC Kj Bl hT hA;have hS0:0<S.length:=(dl.1 hI.start).1;have hS2:=hI.Cg;have hNl:=hI.len;have hac:=hac T Jh hT;obtain⟨gS,rfl⟩:=haS hS0;obtain⟨gN,rfl⟩:=haN J;clear lf hno haS haN;rw[Jh,hO];rw[Jh]at hac
  try refine GA ?_
  refine aY I λg7=>?_;refine zL ?_
  repeat(first|refine GA ?_|refine gV (aC (v:=ap (aj ⟨gS,0,ak⟩) S.length cS) aK.ty I (aH (i:=6) I I)) ?_)
  refine ja 143 1 (ml (dZ zf (λ_=>False) [] []) (λk hk=>hk.elim (λh=>by cases h) id) (λw=>je) (ja 27 1 (ml (dZ (bM fz) (λ_=>False) [] []) (λk hk=>hk.elim (λh=>by cases h) id) (λw=>je) (ja 148 6 ?_))))
  conv=>arg 7;simp only[zA,zB,zC,zD,zE,zF,zG,zH,zI,cL,ret,id_eq]
  refine dY (ι:=Nat×P1×Value) (λ(n,_,_)=>n<=S.length) (λ(n,_,vf)=>[(1,aJ (aj ⟨g1,0,ak⟩)),(2,aJ (aj ⟨g2,0,ak⟩)),(5,aJ (aj ⟨g5,0,ak⟩)),(7,aJ (aj ⟨g7,0,ak⟩)),(8,vf),(26,av az (S.length:Int)),(27,av az (n:Int))])
   (λ(n,x,vf)=>[aP g1 (dE (T:Int) g.bC vp).cells 34,aP g2 #[ap ak 0 0,ap ak 0 0] 37,a_ 203 1 (ap (aj ⟨gS,0,ak⟩) S.length cS) S.length vY,dZ (bM I9) F (vY.map λv=>[v]) S,a_ 27 1 (ap (aj ⟨gN,0,ak⟩) Nx.length cN) Nx.length Bn,dZ (bM fz) FN (Bn.map λv=>[v]) Nx,aP g5 #[ap (aj ⟨gS,0,ak⟩) S.length cS,ap (aj ⟨gN,0,ak⟩) Nx.length cN] 140,aP g7 #[x.vA,x.vG] 37,a_ 143 1 x.vA (ib g.aF T Nx S n).length x.BW,dZ zf x.FA (x.BW.map λv=>[v]) (ib g.aF T Nx S n),a_ 27 1 x.vG (fu T Nx n).length x.BX,dZ (bM fz) x.FG (x.BX.map λv=>[v]) (fu T Nx n),a_ 148 6 vf (iy g.aF T Nx S n).length ((iy g.aF T Nx S n).flatMap Mt)]) (λ(n,_,_)=>S.length-n) (0,⟨ap ak 0 0,[],λ_=>False,ap ak 0 0,[],λ_=>False⟩,ap ak 0 0) (bH _) ?_
  rintro⟨n,x,vf⟩ i1;dsimp only at i1⊢
  by_cases c1:n<S.length
  ·have hnN:n<Nx.length:=by omega
   have hSn:S.getD n []=S[n]:=by rw[cH,bD c1];rfl
   have aet:Nx.getD n []=Nx[n]:=by rw[cH,bD hnN];rfl
   have U_:=hI.ss.right S[n] (cD c1);have hwd:=hI.wide n c1;rw[aet]at hwd;have qZ:=Py S[n] (cD c1);refine io (i:=3) I (λw h=>Hg h) λhvl=>?_;refine io (i:=5) I (λw h=>Hg h) λhnl=>?_;have hvq:vY[0+n]?=aj (vY[n]' J):=by rw[cV];exact bD _
   have af8:vY[n]?=aj (vY[n]' J):=bD _;generalize vY[n]' J=vq at hvq af8;have hnq:Bn[0+n]?=aj (Bn[n]' J):=by rw[cV];exact bD _
   have Zd:Bn[n]?=aj (Bn[n]' J):=bD _;generalize Bn[n]' J=nq at hnq Zd;refine io (i:=5) I (λw h=>cC (Yv h hnN Zd) (jQ.okp (Pt h hnN Zd))) λaf9=>?_;obtain⟨⟨aq,cq,rfl,hcq,aio,-⟩,ahA⟩:=af9;have wo:(iy g.aF T Nx S n++ix g.aF T Nx S n (T+1)).length<=100000000:=by
    have h1:=Br (l:=g.aF) (T:=T) (Nx:=Nx) (S:=S) (M:=11439) (λq=>by
     by_cases hq:q<S.length
     rw[cH,bD hq];exact Py _ (cD hq);rw[cH,ku J];exact bH _) (n+1)
    rw[iy]at h1;exact fv h1 (fv (Et (show n+1<=200 by omega) (Et (show T+1<=31 by omega) (bm _))) aiz)
   have hS1:=λ(L:List b_) (i:Nat) (hL:L[i]?=aj (dZ (bM I9) F (vY.map λv=>[v]) S))=>Pu (W:=(w:bR)) (L:=L) (f:=iK) (c:=3) aiz hL c1 af8;have hN1:∀(L:List b_) (i:Nat) (hL:L[i]?=aj (dZ (bM fz) FN (Bn.map λv=>[v]) Nx)),SlL (w:bR) L (.slice aq Nx[n].length cq) Nx[n].length (Nx[n].map (av .i64)):=λL i hL w' qV=>by
    have:=Pu (W:=(w:bR)) (L:=L) (f:=λn=>[av .i64 n]) (c:=1) aiz hL hnN Zd w' qV
    rwa [<-YC]at this
   repeat(first|refine GC ?_|refine gV (aC (v:=av az (T:Int)) aK.ty I (aH (i:=0) I I)) ?_|refine gV (eM (r:=((T+1:Nat):Int)) I I J J J) ?_|refine GB ?_)
   refine Ms rm aiz (0,0) I I I J J I λg10=>?_;rw[<-Zc (l:=g.aF) (Nx:=Nx) (S:=S) (q:=n)];refine zL ?_
   repeat(first|refine GA ?_|refine gV (aO (i:=0) aK.ty I I I) ?_|refine gV (aO (i:=6) aK.ty I I I) ?_)
   refine aW (S:=Mr T (km g.aF T S[n] Nx[n])) (sZ aI.en I I I I) (λw hm=>hac gS 0 S.length cS gN 0 Nx.length cN n vq (.slice aq Nx[n].length cq) S[n] Nx[n] w hm.below Bl c1 (yF (hm.get (i:=2) I) hvq) (hS1 _ 3 I w hm) hnN (yF (hm.get (i:=4) I) hnq) (hN1 _ 5 I w hm) J U_ J J) I I I ?_;rintro⟨ga,vs⟩ _
   conv=>arg 8;simp only[zJ,cL,ret,id_eq,Mr]
   conv=>arg 7;simp only[Mr]
   rw[<-hSn,<-aet];clear hac
   try refine GA ?_
   refine nO (ι:=Nat×Value) (λ(c,_)=>c<=T+1) (λ(c,vf)=>[(1,aJ (aj ⟨g1,0,ak⟩)),(2,aJ (aj ⟨g2,0,ak⟩)),(5,aJ (aj ⟨g5,0,ak⟩)),(7,aJ (aj ⟨g7,0,ak⟩)),(8,vf),(26,av az (S.length:Int)),(27,av az (n:Int)),(9,av az (n:Int)),(10,ap (aj ⟨g10,0,ak⟩) (T+1) (T+1)),(37,ap (aj ⟨ga,0,ak⟩) (T+1) (T+1)),(38,av az ((T+1:Nat):Int)),(39,av az (c:Int))])
    (λ(c,vf)=>[aP g1 (dE (T:Int) g.bC vp).cells 34,aP g2 #[ap ak 0 0,ap ak 0 0] 37,a_ 203 1 (ap (aj ⟨gS,0,ak⟩) S.length cS) S.length vY,dZ (bM I9) F (vY.map λv=>[v]) S,a_ 27 1 (ap (aj ⟨gN,0,ak⟩) Nx.length cN) Nx.length Bn,dZ (bM fz) FN (Bn.map λv=>[v]) Nx,aP g5 #[ap (aj ⟨gS,0,ak⟩) S.length cS,ap (aj ⟨gN,0,ak⟩) Nx.length cN] 140,aP g7 #[x.vA,x.vG] 37,a_ 143 1 x.vA (ib g.aF T Nx S n).length x.BW,dZ zf x.FA (x.BW.map λv=>[v]) (ib g.aF T Nx S n),a_ 27 1 x.vG (fu T Nx n).length x.BX,dZ (bM fz) x.FG (x.BX.map λv=>[v]) (fu T Nx n),a_ 148 6 vf (iy g.aF T Nx S n++ix g.aF T Nx S n c).length ((iy g.aF T Nx S n++ix g.aF T Nx S n c).flatMap Mt),a_ 146 2 (ap (aj ⟨g10,0,ak⟩) (T+1) (T+1)) (T+1) ((gX g.aF T Nx S n c).flatMap iZ),fg 143 uU ga (T+1) vs,jd (λj=>j<T+1) (nW vs (km g.aF T (S.getD n []) (Nx.getD n [])))]) (λ(c,_)=>T+1-c) (0,vf) (bH _) (by repeat' (first|exact cI|refine cC I ?_)) (by dsimp only;rw[ix,eG]) ?_
   rintro⟨c,vf⟩ j1;dsimp only at j1⊢
   by_cases c2:c<T+1
   ·obtain⟨X,hX⟩:∃X,km g.aF T (S.getD n []) (Nx.getD n []) c=X:=⟨_,rfl⟩
    have hXl:X.length<=11440:=by
     rw[<-hX,<-Hr];have:=AO (l:=g.aF) (T:=T) (nx:=Nx.getD n []) (t:=T) (s:=S.getD n []) (c:=c);rw[hSn]at this⊢;omega
    have af_:=P4 (l:=g.aF) (Nx:=Nx) (S:=S) (q:=n) c2;have af':X=[]->gX g.aF T Nx S n (c+1)=gX g.aF T Nx S n c:=λh=>Mu (by unfold EH;rw[hX,h]);have hhd:pj g.aF T Nx S n c=X.headD (0,0):=by unfold pj;rw[hX]
    have Kb:ix g.aF T Nx S n (c+1)=ix g.aF T Nx S n c++X.tail.map λx=>(((n:Int),(c:Int),X.headD (0,0),x):Vb):=by
     rw[ix,v7];unfold EH;rw[hX]
    have aip:(iy g.aF T Nx S n++ix g.aF T Nx S n c).length<=100000000:=by
     rw[bK]at wo⊢;have:=zg (l:=g.aF) (T:=T) (Nx:=Nx) (S:=S) (q:=n) (show c<=T+1 by omega);omega
    generalize aga:iy g.aF T Nx S n++ix g.aF T Nx S n c=base at*;refine io (i:=15) I (λw h=>fV w (h.1 c c2)) λgC=>?_;obtain⟨ax,cx,hvc,-,hax⟩:=gC;rw[hX]at hvc hax;have Ze:∀(L:List b_) (i:Nat) (gx:Nat),ax=aj ⟨gx,0,ak⟩->L[i]?=aj (jd (λj=>j<T+1) (nW vs (km g.aF T (S.getD n []) (Nx.getD n []))))->∀k (hk:k<X.length) (j:Nat) (u:Value),(iZ X[k])[j]?=aj u->At (w:bR) L ⟨gx,0+k*2+j,ak⟩ u:=λL i gx hgx hL k hk j u hu=>aaF hL λw h=>by
     have h2:=h.1 c c2;unfold nW at h2;rw[hvc,hX,hgx]at h2;have hj2:j<2:=by rw[<-rm X[k]];exact(dl.1 hu).1
     exact yF h2 (by rw[cV,tL rm X k j hk hj2];exact hu)
    repeat(first|refine GA ?_|refine gV (bY bL.eq aK.ty I I c2) ?_|refine gV (aC (v:=ap ax X.length cx) aK.ty I (by have:=fU (W:=(w:bR)) (val:=uU) (i:=14) (f:=vs) (e:=143) (g:=ga) (len:=T+1) (L:=[aP g1 (dE (T:Int) g.bC vp).cells 34,aP g2 #[ap ak 0 0,ap ak 0 0] 37,a_ 203 1 (ap (aj ⟨gS,0,ak⟩) S.length cS) S.length vY,dZ (bM I9) F (vY.map λv=>[v]) S,a_ 27 1 (ap (aj ⟨gN,0,ak⟩) Nx.length cN) Nx.length Bn,dZ (bM fz) FN (Bn.map λv=>[v]) Nx,aP g5 #[ap (aj ⟨gS,0,ak⟩) S.length cS,ap (aj ⟨gN,0,ak⟩) Nx.length cN] 140,aP g7 #[x.vA,x.vG] 37,a_ 143 1 x.vA (ib g.aF T Nx S n).length x.BW,dZ zf x.FA (x.BW.map λv=>[v]) (ib g.aF T Nx S n),a_ 27 1 x.vG (fu T Nx n).length x.BX,dZ (bM fz) x.FG (x.BX.map λv=>[v]) (fu T Nx n),a_ 148 6 vf (base).length ((base).flatMap Mt),a_ 146 2 (ap (aj ⟨g10,0,ak⟩) (T+1) (T+1)) (T+1) ((gX g.aF T Nx S n c).flatMap iZ),fg 143 uU ga (T+1) vs,jd (λj=>j<T+1) (nW vs (km g.aF T (S.getD n []) (Nx.getD n [])))]) I c2;rw[hvc]at this;exact this)) ?_)
    refine nO (ι:=Nat×Value) (λ(i,_)=>i<=X.length) (λ(i,vf)=>[(1,aJ (aj ⟨g1,0,ak⟩)),(2,aJ (aj ⟨g2,0,ak⟩)),(5,aJ (aj ⟨g5,0,ak⟩)),(7,aJ (aj ⟨g7,0,ak⟩)),(8,vf),(26,av az (S.length:Int)),(27,av az (n:Int)),(9,av az (n:Int)),(10,ap (aj ⟨g10,0,ak⟩) (T+1) (T+1)),(37,ap (aj ⟨ga,0,ak⟩) (T+1) (T+1)),(38,av az ((T+1:Nat):Int)),(11,av az (c:Int)),(12,ap ax X.length cx),(39,av az (c:Int)),(44,ap ax X.length cx),(45,av az (X.length:Int)),(46,av az (i:Int))])
     (λ(i,vf)=>[aP g1 (dE (T:Int) g.bC vp).cells 34,aP g2 #[ap ak 0 0,ap ak 0 0] 37,a_ 203 1 (ap (aj ⟨gS,0,ak⟩) S.length cS) S.length vY,dZ (bM I9) F (vY.map λv=>[v]) S,a_ 27 1 (ap (aj ⟨gN,0,ak⟩) Nx.length cN) Nx.length Bn,dZ (bM fz) FN (Bn.map λv=>[v]) Nx,aP g5 #[ap (aj ⟨gS,0,ak⟩) S.length cS,ap (aj ⟨gN,0,ak⟩) Nx.length cN] 140,aP g7 #[x.vA,x.vG] 37,a_ 143 1 x.vA (ib g.aF T Nx S n).length x.BW,dZ zf x.FA (x.BW.map λv=>[v]) (ib g.aF T Nx S n),a_ 27 1 x.vG (fu T Nx n).length x.BX,dZ (bM fz) x.FG (x.BX.map λv=>[v]) (fu T Nx n),a_ 148 6 vf ((base++(X.tail.take (i-1)).map λx=>(((n:Int),(c:Int),X.headD (0,0),x):Vb))).length (((base++(X.tail.take (i-1)).map λx=>(((n:Int),(c:Int),X.headD (0,0),x):Vb))).flatMap Mt),a_ 146 2 (ap (aj ⟨g10,0,ak⟩) (T+1) (T+1)) (T+1) ((if i=0 then gX g.aF T Nx S n c else gX g.aF T Nx S n (c+1)).flatMap iZ),fg 143 uU ga (T+1) vs,jd (λj=>j<T+1) (nW vs (km g.aF T (S.getD n []) (Nx.getD n [])))]) (λ(i,_)=>X.length-i) (0,vf) (bH _) (by repeat' (first|exact cI|refine cC I ?_)) (by simp) ?_
    rintro⟨i,vf⟩ k1;dsimp only at k1⊢
    by_cases c3:i<X.length
    ·have ahB:=λ(L:List b_) (k:Nat) (gx:Nat) (hgx:ax=aj ⟨gx,0,ak⟩) (hL:L[k]?=aj (jd (λj=>j<T+1) (nW vs (km g.aF T (S.getD n []) (Nx.getD n [])))))=>Ze L k gx hgx hL i c3
     obtain⟨gx,rfl⟩:=hax J;have aeu:∀(L:List b_) (k:Nat),L[k]?=aj (jd (λj=>j<T+1) (nW vs (km g.aF T (S.getD n []) (Nx.getD n []))))->∀(j:Nat) (u:Value),(iZ (X.headD (0,0)))[j]?=aj u->At (w:bR) L ⟨gx,0+0*2+j,ak⟩ u:=λL k hL j u hu=>Ze L k gx I hL 0 J j u (by
      have:X.headD (0,0)=X[0]' J:=by
       cases X with
       |nil=>exact absurd c3 (Nat.not_lt_zero _)
       |cons y r=>rfl
      rwa [this]at hu)
     have hXi:i=0->X[i]=pj g.aF T Nx S n c:=λe=>by
      subst e;rw[hhd]
      cases X with
      |nil=>exact absurd c3 (lT _)
      |cons y r=>rfl
     have hXt:i≠0->X.tail.take (i+1-1)=X.tail.take (i-1)++[X[i]]:=λe=>by
      obtain⟨m,rfl⟩:∃m,i=m+1:=⟨i-1,by omega⟩
      cases X with
      |nil=>exact absurd c3 (lT _)
      | cons y r=>
       have hm:m<r.length:=by simpa using c3
       show r.take (m+1)=r.take m++[r[m]]
       exact iq hm
     have ahW:(base++(X.tail.take (i-1)).map λx=>(((n:Int),(c:Int),X.headD (0,0),x):Vb)).length<=100100000:=by
      rw[bK,dI,iU,PB];omega
     have hbf:=Uv (n:Int) (c:Int) (X.headD (0,0));generalize hXX:X[i]=xa at*;clear Ze hS1 hN1
     repeat(first|refine GA ?_|refine gV (aX bL.eq aK.ty I I c3) ?_|refine gV (a8 (cs:=iZ xa) aK.ty I I (ahB _ 15 gx I I)) ?_)
     refine aY I λg14=>?_;refine zL ?_
     try refine GA ?_
     refine gh 16 (cs':=(iZ xa).toArray) ?_;refine zL ?_
     by_cases q1:i=0
     ·subst q1
      rw[if_pos I];have hXi:=hXi I
      repeat(first|refine GA ?_|refine gV (aO (i:=16) aK.ty I I I) ?_|refine gV (aX bL.eq aK.ty I I c2) ?_)
      refine Aa rm (k:=c) (a:=xa) (i:=13) aK.ty I I J (by rw[px];exact c2) px.symm I I I ?_;rw[hXi,af_];refine zL ?_
      try refine GA ?_
      refine dh [0,1,2,3,4,5,6,7,8,9,10,11,12,13,14,15] ?_;exact bW (0+1,vf) (by show 0+1<=X.length;omega) (by show X.length-(0+1)<X.length-0;omega) (hl:=by dsimp only;rw[if_neg J];rfl)
     rw[if_neg q1];have mK:base++(X.tail.take (i+1-1)).map (λx=>(((n:Int),(c:Int),X.headD (0,0),x):Vb))=(base++(X.tail.take (i-1)).map λx=>(((n:Int),(c:Int),X.headD (0,0),x):Vb))++[((n:Int),(c:Int),X.headD (0,0),xa)]:=by rw[hXt q1,eO,<-eY];rfl
     clear hXt;generalize (base++(X.tail.take (i-1)).map λx=>(((n:Int),(c:Int),X.headD (0,0),x):Vb))=fb at*
     try refine GA ?_
     refine dK ([jd (λj=>j<T+1) (nW vs (km g.aF T (S.getD n []) (Nx.getD n []))),aP g14 (iZ xa).toArray 146]) (.calm 0 (.calm 1 (.calm 2 (.calm 3 (.calm 4 (.calm 5 (.calm 6 (.calm 7 (.one 8 (.one 9 (.calm 10 (.done)))))))))))) (bV [15,16]) ?_
     repeat(first|refine GW ?_|(refine GN ?_;first|refine QW (aX (j:=0) bL.eq aK.ty I I (show 0<X.length by omega)) ?_|refine QW (a8 (cs:=iZ (X.headD (0,0))) aK.ty I I (aeu _ 0 I)) ?_|refine QW (aO (i:=1) aK.ty I I I) ?_|refine QW (bB I (hbf _)) ?_))
     refine aL I (fy (cs:=(Mt ((n:Int),(c:Int),X.headD (0,0),xa)).toArray) I I I I I λg65=>aM (bV [15,16]) ?_);refine aL I (mh (i:=12) (q:=17) I I I I I I J J I λvf2=>aM (bV [15,16]) ?_)
     try refine GW ?_
     try refine GA ?_
     refine dh [0,1,2,3,4,5,6,7,8,9,10,11,12,13,14,15] ?_;exact bW (i+1,vf2) (by show i+1<=X.length;omega) (by show X.length-(i+1)<X.length-i;omega) (hl:=by dsimp only;rw[if_neg J,mK,bK,gO];rfl)
    obtain rfl:i=X.length:=by omega
    have agb:(if X.length=0 then gX g.aF T Nx S n c else gX g.aF T Nx S n (c+1))=gX g.aF T Nx S n (c+1):=by
     by_cases e:X.length=0
     rw[if_pos e];exact(af' (List.eq_nil_of_length_eq_zero e)).symm;rw[if_neg e]
    have htt:X.tail.take (X.length-1)=X.tail:=gK (by rw[PB];exact bm _);rw[agb,htt]
    try refine GA ?_
    exact bW (c+1,vf) (by show c+1<=T+1;omega) (by show T+1-(c+1)<T+1-c;omega) (hl:=by dsimp only;rw[Kb,<-eY,aga])
   obtain rfl:c=T+1:=by omega
   have hTN:T<=Nx[n].length:=by omega
   have UY:(Nx[n].drop T).length=Nx[n].length-T:=iX;have qD:(Nx[n].drop T).take (Nx[n].length-T)=Nx[n].drop T:=gK (by rw[UY];exact bm _);have hSub:∀(L:List b_) (i:Nat),L[i]?=aj (dZ (bM fz) FN (Bn.map λv=>[v]) Nx)->SlL (w:bR) L (s7 aq cq 1 T Nx[n].length) (Nx[n].length-T) ((Nx[n].drop T).map (av .i64)):=λL i hL w' qV=>by
    have h1:=Pu (W:=(w:bR)) (L:=L) (f:=λn=>[av .i64 n]) (c:=1) aiz hL hnN Zd w' qV;have h2:=C8 (i:=T) (j:=Nx[n].length) (f:=λn=>[av .i64 n]) (λ_=>rfl) h1 hTN (bm _);rw[qD,UY,<-YC]at h2;exact h2
   have acZ:((Nx[n].drop T).map (av .i64)).length=(Nx[n].length-T)*1:=by rw[dI,UY,kw]
   have ac0:∀u∈(Nx[n].drop T).map (av .i64),u.oneCell'=true:=λu hu=>by obtain⟨y,_,rfl⟩:=fa.1 hu;rfl
   have hgo:∀{v:Value} {w':World},(a_ 3 1 v (0+(Nx[n].length-T)) ([]++(Nx[n].drop T).map (av .i64))).holds w'->(bM fz).is (λk=>v.ownBlock=aj k) w' [v] ((Nx.getD n []).drop T):=λ{v w'} h=>by
    rw[aet];rw[cV,eJ,<-UY]at h;exact Bm (λy hy=>ahA y (List.mem_of_mem_drop hy)) h
   repeat(first|refine GA ?_|refine gV (aC (v:=x.vA) aK.ty I (aH (i:=7) I I)) ?_)
   have hAl:=i_ (l:=g.aF) (T:=T) (Nx:=Nx) (S:=S) n;have hGl:=lZ (T:=T) (Nx:=Nx) n;refine jN (i:=8) I I I I I I (λz h=>by cases h;rfl) J J I λz vA2=>?_;refine zL ?_;refine oK (dZ zf (λk=>x.FA k\/(ap (aj ⟨g10,0,ak⟩) (T+1) (T+1)).ownBlock=aj k) ((x.BW.map λv=>[v])++[[ap (aj ⟨g10,0,ak⟩) (T+1) (T+1)]]) (ib g.aF T Nx S n++[gX g.aF T Nx S n (T+1)])) 13 9 [0,1,2,3,4,5,6,7,8,10,11,12] aiz I I I (λk hk=>hk.elim (λh=>by cases h) λh=>h.elim (λh=> .inr (.inr h)) λh=> .inl (.inl h)) (λw hr he=>mj he (Zb (by rw[px];exact hr)) (y0 hr)) ?_;refine zL ?_
   try refine GA ?_
   refine aU (i:=8) I λkK lz=>bU (i:=7) I I I kK lz I ?_;refine zL ?_
   try refine GA ?_
   refine ja 3 1 ?_
   conv=>arg 7;simp only[zA,zB,zC,zD,zE,zF,zG,zH,zI,cL,ret,id_eq]
   refine dK ([aP g1 (dE (T:Int) g.bC vp).cells 34,a_ 27 1 (ap (aj ⟨gN,0,ak⟩) Nx.length cN) Nx.length Bn,dZ (bM fz) FN (Bn.map λv=>[v]) Nx,aP g5 #[ap (aj ⟨gS,0,ak⟩) S.length cS,ap (aj ⟨gN,0,ak⟩) Nx.length cN] 140]) (.calm 0 (.calm 2 (.calm 3 (.calm 4 (.calm 5 (.calm 6 (.calm 7 (.calm 8 (.calm 9 (.two 1 (.one 10 (.one 11 (.one 12 (.calm 13 (.one 14 (.done)))))) 10 (.two 1 (.one 11 (.one 12 (.calm 13 (.one 14 (.done))))) 11 (.one 1 (.one 12 (.calm 13 (.one 14 (.done)))))))))))))))) (bV [0,4,5,6]) ?_
   repeat(first|(refine GN ?_;first|refine QW QP ?_|refine QW (aC (v:=ap (aj ⟨gN,0,ak⟩) Nx.length cN) aK.ty I (aH (i:=3) I I)) ?_|refine QW (bY bL.eq aK.ty I I hnN) ?_|refine QW (aC (v:= .slice aq Nx[n].length cq) aK.ty I (jY (i:=1) I hnq)) ?_|refine QW (aC (v:=av az (T:Int)) aK.ty I (aH (i:=0) I I)) ?_|refine QW (qS (i:=T) bL.eq aK.ty I I hTN hcq) ?_|refine GX ?_)|refine GW ?_)
   refine ez I I ?agc ?agd
   case' agc=>
    refine du (aC (v:=x.vG) aK.ty I (aH (i:=7) I I)) I I I (aM (bV [0,4,5,6]) ?_);refine aL I (eD (i:=13) (k:=Nx[n].length-T) I (hSub _ 5 I) I I acZ ac0 J J I λvI=>aM (bV [0,4,5,6]) ?_);refine aL I (aU (i:=13) I λhw1 hw2=>fy (cs:=#[vI]) I hw1 I I I λg86=>aM (bV [0,4,5,6]) ?_)
   case' agd=>
    refine eD (i:=13) (k:=Nx[n].length-T) I (hSub _ 5 I) I I acZ ac0 J J I λvI=>aM (bV [0,4,5,6]) ?_;refine ez I I ?age ?agf
   case' age=>
    refine du (aC (v:=x.vG) aK.ty I (aH (i:=7) I I)) I I I (aM (bV [0,4,5,6]) ?_);refine aL I (aU (i:=13) I λhw1 hw2=>fy (cs:=#[vI]) I hw1 I I I λg86=>aM (bV [0,4,5,6]) ?_)
   case' agf=>
    refine aU (i:=13) I λhw1 hw2=>fy (cs:=#[vI]) I hw1 I I I λg86=>aM (bV [0,4,5,6]) ?_;refine aL I (du (aC (v:=x.vG) aK.ty I (aH (i:=7) I I)) I I I (aM (bV [0,4,5,6]) ?_))
   all_goals
    refine aL I (lg (i:=9) (q:=14) I I I I I hw2 J J I λvG2=>aM (bV [0,4,5,6]) ?_)
    try refine GW ?_
    refine aL I (aU (i:=9) I λkK lz=>bU (i:=7) I I I kK lz I (aM (bV [0,4,5,6]) ?_))
    try refine GW ?_
    refine vP (dZ (bM fz) (λk=>x.FG k\/vI.ownBlock=aj k) ((x.BX.map λv=>[v])++[[vI]]) (fu T Nx n++[(Nx.getD n []).drop T])) 13 10 [0,1,2,3,4,5,6,7,8,9,11,12] aiz I I I (λk hk=>hk.elim (λh=>by cases h) λh=>h.elim (λh=> .inr (.inr h)) λh=> .inl (.inl h)) (λw hr he=>mj he (hgo hr) (y0 hr)) ?_
    try refine GA ?_
    refine dh [0,1,2,3,4,5,6,7,8,11,9,12,10] ?_;exact bW (n+1,⟨vA2,x.BW++[ap (aj ⟨g10,0,ak⟩) (T+1) (T+1)],λk=>x.FA k\/(ap (aj ⟨g10,0,ak⟩) (T+1) (T+1)).ownBlock=aj k,vG2,x.BX++[vI],λk=>x.FG k\/vI.ownBlock=aj k⟩,vf) (by show n+1<=S.length;omega) (by show S.length-(n+1)<S.length-n;omega) (hl:=by dsimp only;rw[show(ib g.aF T Nx S (n+1)).length=(ib g.aF T Nx S n).length+1 by rw[i_,i_],show(fu T Nx (n+1)).length=(fu T Nx n).length+1 by rw[lZ,lZ],Mv,Jx,eO,eO];rfl)
  obtain rfl:n=S.length:=by omega
  refine io (i:=8) I (λw h=>fV w h) λgC=>?_;obtain⟨aA,cA,hvA,-⟩:=gC;refine io (i:=10) I (λw h=>fV w h) λgC=>?_;obtain⟨aG,cG,hvG,-⟩:=gC;obtain⟨vA,BW,FA,vG,BX,FG⟩:=x;dsimp only at hvA hvG⊢;subst hvA hvG
  repeat(first|refine GA ?_|refine gV (aO (i:=7) aK.ty I I I) ?_)
  refine gh 1 ?_;refine zL ?_
  try refine GA ?_
  exact ff (i:=1) I I I I I I λw hm=>hm.meets (S:=⟨λ(_:P1×Value)=>True,λx=> .tuple #[aQ #[x.1.vA,x.1.vG],x.2,av az 0],λx=>[a_ 143 1 x.1.vA (ib g.aF T Nx S S.length).length x.1.BW,dZ zf x.1.FA (x.1.BW.map λv=>[v]) (ib g.aF T Nx S S.length),a_ 27 1 x.1.vG (fu T Nx S.length).length x.1.BX,dZ (bM fz) x.1.FG (x.1.BX.map λv=>[v]) (fu T Nx S.length),a_ 148 6 x.2 (iy g.aF T Nx S S.length).length ((iy g.aF T Nx S S.length).flatMap Mt)]⟩) (⟨ap aA _ cA,BW,FA,ap aG _ cG,BX,FG⟩,vf) trivial [8,9,10,11,12] aiz I
 ·rw[if_pos c0]at hO
  rw[hO]
  repeat(first|refine GC ?_|refine gV (dm (b:=aD) I I (decide_eq_true c0)) ?_|refine gV (bB I B7) ?_|refine GB ?_)
  refine gh 1 ?_;refine zL ?_
  try refine GA ?_
  refine dF 143 1 (pR (dZ zf (λ_=>False) [] []) (λk hk=>hk.elim (λh=>by cases h) id) (λw=>je) (dF 27 1 (pR (dZ (bM fz) (λ_=>False) [] []) (λk hk=>hk.elim (λh=>by cases h) id) (λw=>je) (dF 148 6 ?_))));exact ff (i:=1) I I I I I I λw hm=>hm.meets (S:=⟨λ(_:P1×Value)=>True,λx=> .tuple #[aQ #[x.1.vA,x.1.vG],x.2,av az e],λx=>[a_ 143 1 x.1.vA 0 x.1.BW,dZ zf x.1.FA (x.1.BW.map λv=>[v]) [],a_ 27 1 x.1.vG 0 x.1.BX,dZ (bM fz) x.1.FG (x.1.BX.map λv=>[v]) [],a_ 148 6 x.2 0 []]⟩) (⟨ap ak 0 0,[],λ_=>False,ap ak 0 0,[],λ_=>False⟩,ap ak 0 0) trivial [7,8,9,10,11] aiz I
end bZ
namespace xE
open aT dL fG dG bZ
def P5(O:Nat->Nat->Bool)(h a:Nat):Nat->Nat->Bool:=λi j=>if i=h/\j=a then aD else O i j
def fal(N m:Nat)(O:Nat->Nat->Bool):Nat:=eK (λi=>eK (λj=>if O i j=aD then 0 else 1) m) N
def Zf(l:List aT.Prod)(w:List Int)(O:Nat->Nat->Bool):Prop:=∀(k:Nat) a,O k a=aD->a<=w.length->∃v,Fy l (2,(k:Int)) (w.drop a++v)
theorem Jz{f f':Nat->Nat}:∀{k i:Nat},i<k->(∀j,j<k->f j<=f' j)->f i<f' i->eK f k<eK f' k
 | k +1,i,hi,h,hl=>by
  rw[eK,eK]
  by_cases e:i=k
  ·subst e
   have:=Ar (f:=f) (f':=f') i λj hj=>h j J;omega
  have:=Jz (f:=f) (f':=f') (k:=k) (i:=i) J (λj hj=>h j J) hl;have:=h k J;omega
theorem abQ{N m h a:Nat}{O:Nat->Nat->Bool}(hh:h<N)(ha:a<m)(ho:O h a=aE):fal N m (P5 O h a)<fal N m O:=by
 have hle:∀i j,(if P5 O h a i j=aD then 0 else 1)<=(if O i j=aD then 0 else 1):=λi j=>by
  unfold P5
  by_cases e:i=h/\j=a
  rw[if_pos e,if_pos I];exact bH _;rw[if_neg e];exact bm _
 unfold fal;refine Jz hh (λi _=>Ar m λj _=>hle i j) (Jz ha (λj _=>hle h j) ?_);have e1:P5 O h a h a=true:=by unfold P5;rw[if_pos ⟨rfl,rfl⟩]
 rw[e1,ho];decide
structure Mw(l:List aT.Prod)(w:List Int)(o:dv->Nat->Nat->Nat)(M:List Bool)(N:Nat)(O O':Nat->Nat->Bool)(more:Bool)(i a:Nat):Prop where
 sound:Zf l w O'
 less:more=aD->fal N (w.length+1) O'<fal N (w.length+1) O
 still:more=aE->O'=O/\∀q a',(q<i\/(q=i/\a'<a))->∀h:q<l.length,a'<=w.length->Jn o O M w.length a' l[q].2=aD->O l[q].1.toNat a'=aD
section
variable{l:List aT.Prod}{w:List Int}{n:Nat}{c:uc}{M:List Bool}{O O':Nat->Nat->Bool}{more:Bool}{i a:Nat}
theorem Mw.start(h:Zf l w O)(o:dv->Nat->Nat->Nat)(N:Nat):Mw l w o M N O O aE 0 0:=⟨h,λh=>by(cases h),λ_=>⟨rfl,λq a' h=>by omega⟩⟩
theorem Mw.set(hM:∀i:Nat,M.getD i aE=aD->∃ws,Fy l (2,(i:Int)) ws)(hc:Lfp w l n c)(hs:oV n l){N:Nat}(h:Mw l w (Dz c w) M N O O' more i a)(hi:i<l.length)(ha:a<=w.length)(hN:l[i].1.toNat<N)(h0:O' l[i].1.toNat a=aE)(h1:Jn (Dz c w) O' M w.length a l[i].2=aD):Mw l w (Dz c w) M N O (P5 O' l[i].1.toNat a) aD i (a+1):=by
 obtain⟨s1,s2,s3⟩:=hs _ (cD hi);refine⟨λk b hk hb=>?_,λ_=>?_,λe=>by cases e⟩
 ·unfold P5 at hk
  by_cases e:k=l[i].1.toNat/\b=a
  ·obtain⟨rfl,rfl⟩:=e
   obtain⟨v,hv⟩:=Jo hM hc hs h.sound ha (λx hx=>(s3 x hx)) h1;exact⟨v,.non (by show(2:Int)≠1;decide) (cD hi) (by show l[i].1=((l[i].1.toNat:Nat):Int);omega) hv⟩
  rw[if_neg e]at hk;exact h.sound k b hk hb
 have:=abQ (N:=N) (m:=w.length+1) hN (by omega:a<w.length+1) h0
 cases hm:more
 ·obtain⟨rfl,_⟩:=h.still hm
  exact this
 have:=h.less hm;omega
end
theorem Zg{n:Nat}{l:List aT.Prod}(hf:DE n l)(hs:oV n l):DD (K8 l) (λs=>Xw n s/\xF l s) (Ba n):=
 ⟨λs xe=>⟨(DG hf).keep s xe.1,yO hs l (λ_ h=>h) _ xe.2⟩,λs xe=>(DG hf).dec s xe.1⟩
theorem Zh{g:d_}{n:Nat}(iS:bX g=0)(hn:g.bC=n):Xw n (wq n g.aF)/\xF g.aF (wq n g.aF):=by
 have hf:=yL iS hn;have hs:=Tm iS hn;have hz:∀i:Nat,(cZ n aE).getD i aE=false:=λi=>by
  rw[cH,List.getElem?_replicate];split<;>rfl
 have h0:xF g.aF ⟨cZ n aE,(cZ n aE).set 0 aD,cZ n aE,aE⟩:=
  ⟨λi h=>(by have h:(cZ n aE).getD i aE=true:=h;rw[hz i]at h;cases h),λi h=>(by have h:(cZ n aE).getD i aE=true:=h;rw[hz i]at h;cases h)⟩
 obtain⟨s',h1,h2,h3⟩:=yK (Zg hf hs) _ ⟨cZ n aE,(cZ n aE).set 0 aD,cZ n aE,aE⟩ ⟨⟨by simp,by simp,by simp⟩,h0⟩ (bm _);have e:wq n g.aF=gi g.aF ⟨s'.E,s'.R,s'.M,aE⟩:=h3;rw[e];exact(Zg hf hs).keep s' h1
end xE
namespace bZ
open Go.RowKit cU dM dg fZ gu aT cT BM
def AP(g:d_):List Bool:=(wq g.bC.toNat g.aF).R
def AQ(g:d_):List Bool:=(wq g.bC.toNat g.aF).M
def x7(g:d_):List Cl:=mu g.aF (AN g.bC.toNat g.aF) g.aR.toNat g.bC.toNat
def BY(s:Sp)(e:Int):Int×Int:=
 if pu s≠0 then(pu s,0)else if s.words.length=0\/s.rules.length=0 then(1,0)else if e≠0 then(e,0)
 else if(AP (cX s)).any (· ==aE)=aD\/(AQ (cX s)).any (· ==aE)=aD then(4,0)
 else if(x7 (cX s)).length=0 then(0,1)
 else if(iB (cX s)).2.2.2≠0 then((iB (cX s)).2.2.2,0)else if 0<(iB (cX s)).2.2.1.length then(12,0)else(0,2)
structure FX where
 vo:Value
 vp:Value
 F:Nat->Prop
 gP:Nat
 Y6:Nat->Value
 vT:Value
 gR:Nat
 vsR:Nat->Value
 tx:P1
def Bt:FX:=⟨ap ak 0 0,ap ak 0 0,λ_=>False,0,λ_=>ap ak 0 0,ap ak 0 0,0,λ_=>ap ak 0 0,⟨ap ak 0 0,[],λ_=>False,ap ak 0 0,[],λ_=>False⟩⟩
def FX.pk(x:FX)(R:List Row):List Value:=eP (xW R 256) (ap (aj ⟨x.gP,0,ak⟩) R.length R.length) x.vT
structure agh(x:FX):Prop where
 o:x.vo.oneCell'=aD
 p:x.vp.oneCell'=aD
 t:x.vT.oneCell'=aD
def FX.lex(x:FX)(s:Sp)(R:List Row)(T:List Int):List b_:=
 [a_ 3 1 x.vo s.words.length ((Js s.words).1.map (av .i64)),nR x.F x.vp (cX s).aF,fg 27 x6 x.gP R.length x.Y6,Ur R.length (np R 256) x.Y6,a_ 3 1 x.vT T.length (T.flatMap cU.eo)]
def uX(e:Int):Spec FX:=⟨λ_=>True,λ_=> .tuple #[aQ Fo.toArray,av az e],λ_=>[]⟩
def FX.cLL(x:FX)(g:d_)(R:List Row):Array Value:=(iY x.vo (x.pk R) (fR g.aR g.bC x.vp 1 (ap (aj ⟨x.gR,0,ak⟩) g.bC.toNat g.bC.toNat) (ap ak 0 0) (ap ak 0 0))).toArray
def FX.cLR(x:FX)(g:d_)(R:List Row):Array Value:=(iY x.vo (x.pk R) (fR g.aR g.bC x.vp 2 (ap ak 0 0) x.tx.vA x.tx.vG)).toArray
def FX.rows(x:FX)(g:d_):List b_:=[fg 27 uU x.gR g.bC.toNat x.vsR,jd (λj=>j<g.bC.toNat) (mL g.aF (AN g.bC.toNat g.aF) g.aR.toNat x.vsR g.bC.toNat 0)]
def abR(s:Sp)(R:List Row)(T:List Int):Spec FX:=
 ⟨agh,λx=> .tuple #[.agg (x.cLL (cX s) R),av az 0],λx=>x.lex s R T++x.rows (cX s)⟩
def abS(s:Sp)(R:List Row)(T:List Int):Spec FX:=
 ⟨λx=>agh x/\x.tx.vA.oneCell'=aD/\x.tx.vG.oneCell'=aD,λx=> .tuple #[.agg (x.cLR (cX s) R),av az 0],λx=>x.lex s R T++Uu x.tx (iB (cX s)).1 (iB (cX s)).2.1⟩
def py(s:Sp)(r:Int×List Row×List Int):Spec FX:=
 if(BY s r.1).1≠0 then uX (BY s r.1).1 else if(BY s r.1).2=1 then abR s r.2.1 r.2.2 else abS s r.2.1 r.2.2
theorem zh{s:Sp}{r:Int×List Row×List Int}(h:RZ s r)(h0:r.1=0):bX (cX s)=0/\l7 r.2.1 r.2.2=0:=by
 have hn:uS s=0->bX (cX s)=0:=λh=>by
  unfold uS at h;generalize bX (cX s)=e at*
  by_cases c:e≠0
  rw[if_pos c]at h;cases h;exact sv c
 rcases h with⟨k,hk,-,rfl⟩|⟨es,m,-,-,h3,h4,h5,-,⟨h,rfl⟩|⟨-,h,rfl⟩|⟨h,-,hc,rfl⟩⟩
 exact absurd h0 hk;exact absurd h0 h;exact absurd h0 h;refine⟨hn h,?_⟩;have:=RO hc;dsimp only;exact this
set_option maxRecDepth 100000 in
theorem zi(v:Value)(s:Sp)(r:Int×List Row×List Int)(hx:RZ s r)(w:World)(hv:RL (pD w) w v s)(G9:∀r∈s.rules,r.2.length<=8796093021952):
 Calls aB 5 #[v] w (cz (py s r) w):=by
 have iS:=λw' (hg:Gr w w')=>FW v s w' (hv.gr hg);have hv0:=hv;obtain⟨vw,vr,rfl,hw,hr⟩:=hv;obtain⟨bw,cw,rfl,-⟩:=hw;obtain⟨br,cr,rfl,-⟩:=hr;have hM:BY s r.1=if pu s≠0 then(pu s,0)else if s.words.length=0\/s.rules.length=0 then(1,0)else if r.1≠0 then(r.1,0)
  else if(AP (cX s)).any (· ==aE)=aD\/(AQ (cX s)).any (· ==aE)=aD then(4,0)
  else if(x7 (cX s)).length=0 then(0,1)
  else if(iB (cX s)).2.2.2≠0 then((iB (cX s)).2.2.2,0)else if 0<(iB (cX s)).2.2.1.length then(12,0)else(0,2):=rfl
 have nC:∀e m,BY s r.1=(e,m)->e≠0->py s r=uX e:=λe m h he=>by unfold py;rw[h,if_pos he]
 have hLL:BY s r.1=(0,1)->py s r=abR s r.2.1 r.2.2:=λh=>by unfold py;rw[h];rfl
 have hLR:BY s r.1=(0,2)->py s r=abS s r.2.1 r.2.2:=λh=>by unfold py;rw[h];rfl
 have B7:=Un;have BZ:Fo.toArray.toList.all eQ=true:=uT I RX I;have hsz:Fo.toArray.size=266:=kp iQ I;refine enter (args:=[aQ #[ap bw s.words.length cw,ap br s.rules.length cr]]) (n:=86) Tryz.func5 I I I ?_;refine b9 (bz (bQ I I I λg1=>aY I λg2=>?_));rw[sA];refine zL ?_
 repeat(first|refine GA ?_|refine gV (aO (i:=0) aK.ty I I I) ?_)
 refine aW (iM aI.en I I) (λw hm=>iS _ hm.below) I I I ?_;intro _ _;refine zL ?_
 by_cases c0:pu s≠0
 ·rw[if_pos c0]at hM
  rw[nC _ _ hM c0]
  repeat(first|refine GC ?_|refine gV (dm (b:=aD) I I (decide_eq_true c0)) ?_|refine gV (bB I B7) ?_|refine GB ?_)
  refine aV (i:=1) (cs':=Fo.toArray) I I I hsz BZ hsz ?_;refine zL ?_
  try refine GA ?_
  exact ey (i:=1) I I I hsz I λw hm=>hm.meets (S:=uX (pu s)) Bt trivial [] aiz I
 rw[if_neg c0]at hM;have Zi:pu s=0:=sv c0;have wE:s.words.length<=60/\s.rules.length<=60:=by
  unfold pu at Zi
  by_cases c:60<s.words.length\/60<s.words.length+s.rules.length
  rw[if_pos c]at Zi;cases Zi;omega
 rw[Zi];clear iS Zi
 by_cases c1:s.words.length=0\/s.rules.length=0
 ·rw[if_pos c1]at hM
  rw[nC _ _ hM aiz]
  by_cases c2:s.words.length=0
  ·repeat(first|refine GC ?_|refine gV (dm (b:=aE) I I (decide_eq_false (by simp))) ?_|refine gV (aC (v:=ap bw s.words.length cw) aK.ty I (aH (i:=0) I I)) ?_|refine gV (de (b:=aD) I I (decide_eq_true J)) ?_|refine gV (bB I B7) ?_|refine GB ?_)
   refine aV (i:=1) (cs':=Fo.toArray) I I I hsz BZ hsz ?_;refine zL ?_
   try refine GA ?_
   exact ey (i:=1) I I I hsz I λw hm=>hm.meets (S:=uX 1) Bt trivial [] aiz I
  repeat(first|refine GC ?_|refine gV (dm (b:=aE) I I (decide_eq_false (by simp))) ?_|refine gV (aC (v:=ap bw s.words.length cw) aK.ty I (aH (i:=0) I I)) ?_|refine gV (aC (v:=ap br s.rules.length cr) aK.ty I (aH (i:=0) I I)) ?_|refine gV (de (b:=aE) I I (decide_eq_false J)) ?_|refine gV (de (b:=aD) I I (decide_eq_true J)) ?_|refine gV (bB I B7) ?_|refine GB ?_)
  refine aV (i:=1) (cs':=Fo.toArray) I I I hsz BZ hsz ?_;refine zL ?_
  try refine GA ?_
  exact ey (i:=1) I I I hsz I λw hm=>hm.meets (S:=uX 1) Bt trivial [] aiz I
 rw[if_neg c1]at hM;have NT:=λgp w' B ho hm=>Mn (ap bw s.words.length cw) (ap br s.rules.length cr) s r hx gp w hv0 wE.1 wE.2 G9 w' B ho hm
 repeat(first|refine GC ?_|refine gV (dm (b:=aE) I I (decide_eq_false (by simp))) ?_|refine gV (aC (v:=ap bw s.words.length cw) aK.ty I (aH (i:=0) I I)) ?_|refine gV (aC (v:=ap br s.rules.length cr) aK.ty I (aH (i:=0) I I)) ?_|refine gV (de (b:=aE) I I (decide_eq_false J)) ?_|refine GB ?_)
 refine aY I λg5=>?_;rw[sA];refine zL ?_
 repeat(first|refine GA ?_|refine gV (aO (i:=0) aK.ty I I I) ?_)
 by_cases c2:r.1≠0
 ·rw[if_pos c2]at hM
  rw[nC _ _ hM c2];have j_:∀gp,Hq gp s r=⟨λ_=>True,λ_=>av az r.1,λ_=>[]⟩:=λgp=>if_neg c2;simp only[j_]at NT;refine bx [2] [0,1] aiz I I (fI aI.en I I I) (λw' qV hb=>NT g5 w' _ (pC.on (pC.self w) qV (λo ho=>by simp at ho;subst ho;simp)) hb) I I I ?_;intro _ _;refine zL ?_
  repeat(first|refine GC ?_|refine gV (dm (b:=aD) I I (decide_eq_true c2)) ?_|refine gV (bB I B7) ?_|refine GB ?_)
  refine aV (i:=1) (cs':=Fo.toArray) I I I hsz BZ hsz ?_;refine zL ?_
  try refine GA ?_
  exact ey (i:=1) I I I hsz I λw hm=>hm.meets (S:=uX r.1) Bt trivial [] aiz I
 rw[if_neg c2]at hM;have hr0:r.1=0:=sv c2;obtain⟨hG,abT⟩:=zh hx hr0;have j_:∀gp,Hq gp s r=Mm gp s r.2.1 r.2.2:=λgp=>if_pos hr0;simp only[j_]at NT;clear hx j_ c2;obtain⟨e,R,T⟩:=r;dsimp only at*;subst hr0;generalize BY s 0=M at*;generalize P6:cX s=g at*;refine bx [2] [0,1] aiz I I (fI aI.en I I I) (λw' qV hb=>NT g5 w' _ (pC.on (pC.self w) qV (λo ho=>by simp at ho;subst ho;simp)) hb) I I I ?_;clear NT;rintro⟨vo,vp,F,gP,Y6,vT⟩ ⟨k1,k2,k3⟩;dsimp only at k1 k2 k3;unfold Mm;rw[P6];refine zL ?_;have dS:(eP (xW R 256) (ap (aj ⟨gP,0,ak⟩) R.length R.length) vT).length=258:=fH _ _ _;have FO:(eP (xW R 256) (ap (aj ⟨gP,0,ak⟩) R.length R.length) vT).all eQ=true:=by
  have:=xX (xW R 256) (vn:=ap (aj ⟨gP,0,ak⟩) R.length R.length) (vt:=vT) I k3
  simpa using this
 have hpx:∀x:FX,x.gP=gP->x.vT=vT->eP (xW R 256) (ap (aj ⟨gP,0,ak⟩) R.length R.length) vT=x.pk R:=λx h1 h2=>by unfold FX.pk;rw[h1,h2]
 generalize hPK:eP (xW R 256) (ap (aj ⟨gP,0,ak⟩) R.length R.length) vT=PK at*;obtain⟨a1,a2,a3,a4,a5,a6⟩:=cP hG;have aev:∀w',(nR F vp g.aF).holds w'->jZ (λk=>k<w'.heap.size) w' (dE g.aR g.bC vp) g:=λw' h=>xZ (gok ⟨a1,by omega⟩) (gok ⟨by omega,by omega⟩) h
 repeat(first|refine GC ?_|refine gV (dm (b:=aE) I I (decide_eq_false (by simp))) ?_|refine gV (a8 (cs:=[av az g.aR,av az g.bC,vp]) aK.ty I I (λj v h=>aH (i:=2) I (sB dS h))) ?_|refine GB ?_)
 have hN:g.bC=(g.bC.toNat:Int):=by omega
 have hT:g.aR=(g.aR.toNat:Int):=by omega
 obtain⟨⟨-,hRl,hMl⟩,-⟩:=xE.Zh hG hN;have TP:=λw' h=>DY (dE g.aR g.bC vp) g w' h hG g.bC.toNat hN;have Ko:=λw' h=>Jv (dE g.aR g.bC vp) g w' h hG g.aR.toNat g.bC.toNat hT hN;have NW:=λw' h=>Jy (dE g.aR g.bC vp) g w' h;unfold P2 Uu at NW;refine aW (iM aI.en I I) (λw' hm=>(TP w' (aev w' (hm.get (i:=4) I))).mono λe w2 h=>D0 h) I I I ?_;intro x5 _
 conv=>arg 8;simp only[zJ,cL,ret,id_eq,DX.val]
 try refine GA ?_
 refine aY I λg7=>?_;refine gh 13 ?_;refine zL ?_
 repeat(first|refine GA ?_|refine gV (aC aK.ty I (aH (i:=13) I I)) ?_)
 have Zj:AP g=(wq g.bC.toNat g.aF).R:=rfl;have Zk:AQ g=(wq g.bC.toNat g.aF).M:=rfl;generalize (wq g.bC.toNat g.aF).R=Rc at*;generalize (wq g.bC.toNat g.aF).M=Mk at*;rw[Zj,Zk]at hM;clear Zj Zk TP;refine aW (fI aI.en I I I) (λw' hm=>pf _ Rc aE w' (by have:=Sl.dy (hm.get (i:=11) I);rw[hRl];exact this)) I I I ?_;intro _ _;refine zL ?_
 cases EK:Rc.any (· ==aE)with
 |true=>
  rw[if_pos (.inl EK)]at hM;rw[nC _ _ hM aiz]
  repeat(first|refine GA ?_|refine gV (bB I B7) ?_)
  refine aV (i:=1) (cs':=Fo.toArray) I I I hsz BZ hsz ?_;refine zL ?_
  try refine GA ?_
  exact ey (i:=1) I I I hsz I λw hm=>hm.meets (S:=uX 4) Bt trivial [] aiz I
 |false=>
 repeat(first|refine GA ?_|refine gV (aC aK.ty I (aH (i:=13) I I)) ?_)
 refine mg (fI aI.en I I I) (λw' hm=>pf _ Mk aE w' (by have:=Sl.dy (hm.get (i:=12) I);rw[hMl];exact this)) I I I I I ?_;intro _ _;refine zL ?_
 cases ac1:Mk.any (· ==aE)with
 |true=>
  rw[if_pos (.inr ac1)]at hM;rw[nC _ _ hM aiz]
  repeat(first|refine GA ?_|refine gV (bB I B7) ?_)
  refine aV (i:=1) (cs':=Fo.toArray) I I I hsz BZ hsz ?_;refine zL ?_
  try refine GA ?_
  exact ey (i:=1) I I I hsz I λw hm=>hm.meets (S:=uX 4) Bt trivial [] aiz I
 |false=>
 rw[if_neg (by rw[EK,ac1];decide)]at hM;have iz:x7 g=mu g.aF (AN g.bC.toNat g.aF) g.aR.toNat g.bC.toNat:=rfl
 repeat(first|refine GA ?_|refine gV (a8 (cs:=[av az g.aR,av az g.bC,vp]) aK.ty I I (λj v h=>aH (i:=2) I (sB dS h))) ?_)
 refine aW (iM aI.en I I) (λw' hm=>Ko w' (aev w' (hm.get (i:=4) I))) I I I ?_;rintro⟨gR,vsR,vcl⟩ _;unfold Y9;rw[<-iz];refine zL ?_
 by_cases c3:(x7 g).length=0
 ·rw[if_pos c3]at hM
  rw[hLL hM]
  repeat(first|refine GC ?_|refine gV (eR (i:=16) bL.eq I I) ?_|refine gV (de (b:=aD) I I (decide_eq_true J)) ?_|refine GB ?_)
  refine dW 3 (i:=2) I I I I I I dS I ?_;refine zL ?_
  try refine GA ?_
  refine dW 4 (i:=2) I I I I I I dS I ?_;refine zL ?_
  repeat(first|refine GA ?_|refine gV (aO (i:=2) aK.ty I I (kp dS I)) ?_)
  refine aV (i:=1) (cs':=(iY vo PK (fR g.aR g.bC vp 1 (ap (aj ⟨gR,0,ak⟩) g.bC.toNat g.bC.toNat) (ap ak 0 0) (ap ak 0 0))).toArray) I I I (kp dS I) (uT k1 FO (by simp only[fR,cY,da,k2];rfl)) hsz ?_;refine zL ?_
  try refine GA ?_
  subst hPK;subst P6;exact ey (i:=1) I I I (kp dS I) I λw hm=>hm.meets (S:=abR s R T) ⟨vo,vp,F,gP,Y6,vT,gR,vsR,⟨ap ak 0 0,[],λ_=>False,ap ak 0 0,[],λ_=>False⟩⟩ ⟨k1,k2,k3⟩ [3,4,5,6,7,14,15] aiz I
 rw[if_neg c3]at hM
 repeat(first|refine GC ?_|refine gV (eR (i:=16) bL.eq I I) ?_|refine gV (de (b:=aE) I I (decide_eq_false J)) ?_|refine gV (a8 (cs:=[av az g.aR,av az g.bC,vp]) aK.ty I I (λj v h=>aH (i:=2) I (sB dS h))) ?_|refine GB ?_)
 refine aW (iM aI.en I I) (λw' hm=>NW w' (aev w' (hm.get (i:=4) I))) I I I ?_;rintro⟨⟨vA,BW,FA,vG,BX,FG⟩,vfi⟩ _;have hO:iB g=iB g:=rfl;refine zL ?_;generalize hOT:iB g=O at*;obtain⟨A,G,fi,e⟩:=O;dsimp only at hM⊢;refine aU (i:=17) I λ_ b1=>aU (i:=19) I λ_ b2=>?_
 try refine GA ?_
 refine aY I λg12=>?_;refine zL ?_;refine aV (i:=22) (cs':=#[vA,vG]) I I I I (by simp only[cY,da,b1,b2];rfl) I ?_;refine zL ?_
 by_cases c4:e≠0
 ·rw[if_pos c4]at hM
  rw[nC _ _ hM c4]
  repeat(first|refine GC ?_|refine gV (dm (b:=aD) I I (decide_eq_true c4)) ?_|refine gV (bB I B7) ?_|refine GB ?_)
  refine aV (i:=1) (cs':=Fo.toArray) I I I hsz BZ hsz ?_;refine zL ?_
  try refine GA ?_
  exact ey (i:=1) I I I hsz I λw hm=>hm.meets (S:=uX e) Bt trivial [] aiz I
 rw[if_neg c4]at hM
 repeat(first|refine GC ?_|refine gV (dm (b:=aE) I I (decide_eq_false c4)) ?_|refine GB ?_)
 by_cases c5:0<fi.length
 ·rw[if_pos c5]at hM
  rw[nC _ _ hM aiz]
  repeat(first|refine GC ?_|refine gV (eR (i:=21) bL.eq I I) ?_|refine gV (dP (b:=aD) I I (decide_eq_true J)) ?_|refine gV (bB I B7) ?_|refine GB ?_)
  refine aV (i:=1) (cs':=Fo.toArray) I I I hsz BZ hsz ?_;refine zL ?_
  try refine GA ?_
  exact ey (i:=1) I I I hsz I λw hm=>hm.meets (S:=uX 12) Bt trivial [] aiz I
 rw[if_neg c5]at hM;rw[hLR hM]
 repeat(first|refine GC ?_|refine gV (eR (i:=21) bL.eq I I) ?_|refine gV (dP (b:=aE) I I (decide_eq_false J)) ?_|refine GB ?_)
 (repeat refine b9 ?_)
 refine dK ([aP g12 #[vA,vG] 37]) (.calm 0 (.calm 1 (.one 2 (.calm 3 (.one 4 (.done)))))) (bV [22]) ?_
 repeat(first|refine GW ?_|(refine GN ?_;first|refine QW (aO (i:=0) aK.ty I I I) ?_))
 refine aL I (dW 3 (i:=2) I I I I I I dS I (aM (bV [22]) ?_));refine zL ?_
 try refine GW ?_
 refine aL I (PJ (i:=2) I I I b1 b2 I dS (aM (bV [22]) ?_));refine zL ?_
 try refine GW ?_
 repeat(first|refine GA ?_|refine gV (aO (i:=2) aK.ty I I (kp dS I)) ?_)
 refine aV (i:=1) (cs':=(iY vo PK (fR g.aR g.bC vp 2 (ap ak 0 0) vA vG)).toArray) I I I (kp dS I) (uT k1 FO (by simp only[fR,cY,da,k2,b1,b2];rfl)) hsz ?_;refine zL ?_
 try refine GA ?_
 subst hPK;subst P6;refine ey (i:=1) I I I (kp dS I) I λw hm=>hm.meets (S:=abS s R T) ⟨vo,vp,F,gP,Y6,vT,gR,vsR,⟨vA,BW,FA,vG,BX,FG⟩⟩ ⟨⟨k1,k2,k3⟩,b1,b2⟩ [3,4,5,6,7,17,18,19,20] aiz ?_;show _++Uu _ (iB (cX s)).1 (iB (cX s)).2.1=_
 rw[hOT];rfl
end bZ
namespace bZ
open Go.RowKit cU dM aT BM
def sC(l:List aT.Prod)(n:Nat):List Int->Int
 |[]=>0
 |p::r=>if p< -1 then 1 else if(l.length:Int)<=p then 1 else if 0<=p/\(l.getD p.toNat (0,[])).1≠(n:Int)then 1 else sC l n r
def p9(l:List aT.Prod)(t:Int):Nat->List (List Int)->Int
 |_,[]=>0
 |n,r::rs=>if(r.length:Int)≠t+1 then 1 else if sC l n r≠0 then 1 else p9 l t (n+1) rs
def EL(g:d_)(ll:List (List Int)):Int:=if bX g≠0 then bX g else if(ll.length:Int)≠g.bC then 1 else p9 g.aF g.aR 0 ll
abbrev zj(w:World)(v:Value)(ll:List (List Int)):Prop:=jQ (bM fz) (λk=>k<w.heap.size) w v ll
theorem R0{F:Nat->Prop}{w:World}{b off:Nat}{ll:List (List Int)}(h:∀i (h:i<ll.length),∃cs,(bM fz).is F w cs ll[i]/\Rd w b (off+i*(bM fz).c) cs){k:Nat}(hk:k<ll.length):
 ∃vi,w.cell? ⟨b,off+k,ak⟩=aj vi/\Sl w vi ll[k].length (ll[k].map (.int .i64)):=by
 obtain⟨cs,⟨vi,rfl,h1⟩,hr⟩:=h k hk;refine⟨vi,?_,?_⟩
 ·have:=hr 0 vi I
  rwa [show(bM fz).c=1 from I,kw,Nat.add_zero]at this
 ·have:=h1.flat aiz
  rw[show(ll[k].flatMap λn=>[av .i64 n])=ll[k].map (.int .i64)from by rw[PA];induction ll[k]with
   |nil=>rfl
   |cons x r ih=>simp only[gd,CP,ih];rfl]at this
  exact this
set_option maxRecDepth 100000 in
theorem wJ(v vr:Value)(g:d_)(ll:List (List Int))(w:World)(h:jZ (λk=>k<w.heap.size) w v g)(hr:zj w vr ll):
 Calls aB 51 #[v,vr] w (cz (ret (av az (EL g ll))) w):=by
 have iS:=λw' (hg:Gr w w')=>jD v g w' (h.gr hg);obtain⟨vp,rfl,h1,_⟩:=h;obtain⟨br,cr,rfl,U2,vC,Dr⟩:=hr;unfold maxLen at vC;unfold EL
 by_cases c0:bX g=0
 ·rw[if_neg (by simpa using c0)]
  obtain⟨a1,a2,a3,a4,a5,_⟩:=cP c0;rw[c0]at iS;obtain⟨t,nn,aF⟩:=g;dsimp only at*;obtain⟨bp,cp,rfl,Ix,Fj,nZ⟩:=h1;unfold maxLen at Fj;refine enter (args:=[dE t nn (ap bp aF.length cp),ap br ll.length cr]) (n:=64) Tryz.func51 I I I ?_;refine b9 (bz (bQ I I I λg2=>?_));refine zL ?_
  repeat(first|refine GA ?_|refine gV (aO (i:=0) aK.ty I I I) ?_)
  refine aW (iM aI.en I I) (λw hm=>iS _ hm.below) I I I ?_;intro _ _;refine zL ?_
  by_cases c1:(ll.length:Int)=nn
  ·rw[if_neg (by simpa using c1)]
   repeat(first|refine GA ?_|refine gV (aC aK.ty I (aH (i:=0) I I)) ?_)
   generalize ns:p9 aF t 0 ll=res;refine dY (ι:=Nat) (λn=>n<=ll.length/\res=p9 aF t n (ll.drop n)) (λn=>[(2,aJ (aj ⟨g2,0,ak⟩)),(20,ap br ll.length cr),(21,av az ll.length),(22,av az (n:Int))]) (λ_=>[aP g2 (dE t nn (ap bp aF.length cp)).cells 34]) (λn=>ll.length-n) 0 ⟨bH _,by rw[nh];exact ns.symm⟩ ?_;clear ns;rintro n ⟨i1,i2⟩
   by_cases c2:n<ll.length
   ·obtain⟨b,off,rfl,_,eL⟩:=Dr J
    obtain⟨vi,y1,y2⟩:=R0 eL c2;have dz:∀L,At w L ⟨b,off+n,ak⟩ vi:=λL=>jX y1;rw[eI c2,p9]at i2;clear eL y1;generalize ll[n]=r at*;obtain⟨bi,ci,rfl,z1,z2,z3⟩:=y2;unfold maxLen at z2
    by_cases c3:(r.length:Int)=t+1
    ·rw[if_neg (by simpa using c3)]at i2
     repeat(first|refine GA ?_|refine gV (bY bL.eq aK.ty I I c2) ?_|refine gV (aC aK.ty I (dz _)) ?_|refine gV (aC aK.ty I (aH (i:=0) I I)) ?_)
     refine dY (ι:=Nat) (λj=>j<=r.length/\sC aF n r=sC aF n (r.drop j)) (λj=>[(2,aJ (aj ⟨g2,0,ak⟩)),(6,av az (n:Int)),(20,ap (aj ⟨b,off,ak⟩) ll.length cr),(21,av az ll.length),(22,av az (n:Int)),(33,ap bi r.length ci),(34,av az r.length),(35,av az (j:Int))]) (λ_=>[aP g2 (dE t nn (ap bp aF.length cp)).cells 34]) (λj=>r.length-j) 0 ⟨bH _,rfl⟩ ?_;rintro j ⟨j1,j2⟩
     by_cases c4:j<r.length
     ·obtain⟨b',Ah,rfl,H4⟩:=z3 J
      have Zl:=λL=>ad4 (L:=L) H4 c4;rw[eI c4,sC]at j2;clear H4 z3;generalize r[j]=p at*
      by_cases e1:p< -1
      ·rw[if_pos e1]at j2
       rw[j2,if_pos aiz]at i2;subst i2
       repeat(first|refine GA ?_|refine gV (bY bL.eq aK.ty I I c4) ?_|refine gV (aC aK.ty I (Zl _)) ?_|refine gV (aC aK.ty I (aH (i:=0) I I)) ?_)
       exact eE
      by_cases e2:(aF.length:Int)<=p
      ·rw[if_neg e1,if_pos e2]at j2
       rw[j2,if_pos aiz]at i2;subst i2
       repeat(first|refine GA ?_|refine gV (bY bL.eq aK.ty I I c4) ?_|refine gV (aC aK.ty I (Zl _)) ?_|refine gV (aC aK.ty I (aH (i:=0) I I)) ?_)
       exact eE
      rw[if_neg e1,if_neg e2]at j2
      by_cases e3:0<=p
      ·obtain⟨m,rfl⟩:∃m:Nat,p=m:=⟨p.toNat,by omega⟩
       have hm:m<aF.length:=by omega
       obtain⟨bq,ahC,rfl,_,hrq⟩:=nZ J;obtain⟨bb,cb,q1,_,_⟩:=lx hrq hm;have agi:∀(L:List b_),At w L ⟨bq,ahC+m*2+0,ak⟩ (av az aF[m].1):=λL=>jX (q1 0 _ I);rw[dB,cH,bD hm]at j2;dsimp only[Option.getD]at j2;clear q1 hrq;generalize aF[m]=pd at*;obtain⟨hd,_⟩:=pd;dsimp only at*
       by_cases e4:hd=(n:Int)
       ·rw[if_neg (λh=>h.2 e4)]at j2
        repeat(first|refine GA ?_|refine gV (bY bL.eq aK.ty I I c4) ?_|refine gV (aC aK.ty I (Zl _)) ?_|refine gV (aC aK.ty I (aH (i:=0) I I)) ?_|refine gV (aX bL.eq aK.ty I I hm) ?_|refine gV (aC aK.ty I (agi _)) ?_)
        exact bW (j+1) ⟨by omega,j2⟩ J
       rw[if_pos ⟨e3,e4⟩]at j2;rw[j2,if_pos aiz]at i2;subst i2
       repeat(first|refine GA ?_|refine gV (bY bL.eq aK.ty I I c4) ?_|refine gV (aC aK.ty I (Zl _)) ?_|refine gV (aC aK.ty I (aH (i:=0) I I)) ?_|refine gV (aX bL.eq aK.ty I I hm) ?_|refine gV (aC aK.ty I (agi _)) ?_)
       exact eE
      rw[if_neg (λh=>e3 h.1)]at j2
      repeat(first|refine GA ?_|refine gV (bY bL.eq aK.ty I I c4) ?_|refine gV (aC aK.ty I (Zl _)) ?_|refine gV (aC aK.ty I (aH (i:=0) I I)) ?_)
      exact bW (j+1) ⟨by omega,j2⟩ J
     rw[jg J,sC]at j2;rw[j2,if_neg aiz]at i2
     try refine GA ?_
     exact bW (n+1) ⟨by omega,i2⟩ J
    rw[if_pos (by simpa using c3)]at i2;subst i2
    repeat(first|refine GA ?_|refine gV (bY bL.eq aK.ty I I c2) ?_|refine gV (aC aK.ty I (dz _)) ?_|refine gV (aC aK.ty I (aH (i:=0) I I)) ?_)
    exact eE
   rw[jg J,p9]at i2;subst i2
   try refine GA ?_
   exact eE
  rw[if_pos (by simpa using c1)]
  repeat(first|refine GA ?_|refine gV (aC aK.ty I (aH (i:=0) I I)) ?_)
  exact eE
 ·rw[if_pos (by simpa using c0)]
  generalize bX g=e at*;refine enter (args:=[dE g.aR g.bC vp,ap br ll.length cr]) (n:=64) Tryz.func51 I I I ?_;refine b9 (bz (bQ I I I λg2=>?_));refine zL ?_
  repeat(first|refine GA ?_|refine gV (aO (i:=0) aK.ty I I I) ?_)
  refine aW (iM aI.en I I) (λw hm=>iS _ hm.below) I I I ?_;intro _ _;refine zL ?_
  try refine GA ?_
  exact eE
theorem Zm{l:List aT.Prod}{may:Nat->Nat}{T N g:Nat}{vs:Nat->Value}{w:World}(hl:l.length<=40)(hN:N<=20)(h1:(fg 27 uU g N vs).holds w)(h2:(jd (λj=>j<N) (mL l may T vs N 0)).holds w):
 zj w (ap (aj ⟨g,0,ak⟩) N N) (lP N λn=>lP (T+1) (BM.rowAt l may T n)):=by
 refine⟨aj ⟨g,0,ak⟩,N,by rw[ir],by rw[ir];exact bm _,by unfold maxLen;omega,λh0=>⟨g,0,rfl,(fg 27 uU g N vs).lt w h1 g (.inl I),λi hi=>?_⟩⟩;rw[ir]at hi;have hf:=h2.1 i hi;unfold mL BV at hf;rw[if_pos hi]at hf;have xN:(lP N λn=>lP (T+1) (BM.rowAt l may T n))[i]'(by rw[ir];exact hi)=lP (T+1) (BM.rowAt l may T i):=by simp[lP]
 rw[xN];refine⟨[vs i],⟨vs i,rfl,?_⟩,λj u hj=>?_⟩
 ·have hs:=Sl.dy hf
  refine jQ.of_flat (p:=cU.dX) (by rw[ir];rw[show((lP (T+1) (BM.rowAt l may T i)).flatMap λn=>[av .i64 n])=(lP (T+1) (BM.rowAt l may T i)).map aes from by
   rw[PA]
   induction lP (T+1) (BM.rowAt l may T i)with
   |nil=>rfl
   |cons x r ih=>simp only[gd,CP,ih];rfl];exact hs) (λa ha=>?_) (λb hb=>(a_ 3 1 (vs i) (T+1) _).lt w hf b (.inl hb)) (λa n cp he=>?_)
  ·unfold lP at ha
   obtain⟨c,_,rfl⟩:=fa.1 ha;have:=ue (l:=l) (may:=may) (T:=T) i c l.length;unfold BM.rowAt;exact⟨by omega,by omega⟩
  have hr:w.ownsRow 0 3 1 (vs i) (T+1) _:=hf;rcases hr.2 with⟨hv,h⟩|⟨gg,cap,jM,hv,_⟩
  omega;rw[hv]at he;simp only[iT,dr]at he;rw[<-he.1];exact(a_ 3 1 (vs i) (T+1) _).lt w hf gg (.inl (by rw[hv];rfl))
 ·have hj0:j=0:=by
   have:=(dl.1 hj).1;simp at this;omega
  subst hj0;simp only[List.getElem?_cons_zero,dr]at hj;subst hj;have:=Ao h1 hi;rw[show 0+i*(bM fz).c+0=0+i by rw[show(bM fz).c=1 from I];omega];exact this
end bZ
namespace bZ
open Go.RowKit cU dM aT dL dG bI cT
def AR(w:World)(t:Value)(A:List (List bI.Act))(G:List (List Int)):Prop:=∃vA vG,t=aQ #[vA,vG]/\jQ (bM uW) (λk=>k<w.heap.size) w vA A/\jQ (bM fz) (λk=>k<w.heap.size) w vG G
theorem AR.gr{w w':World}{t:Value}{A:List (List bI.Act)}{G:List (List Int)}(h:AR w t A G)(hg:Gr w w'):AR w' t A G:=let ⟨a,b,h1,h2,h3⟩:=h;⟨a,b,h1,h2.gr hg,h3.gr hg⟩
theorem abU{w:World}{x:P1}{A:List (List bI.Act)}{G:List (List Int)}(h1:(a_ 143 1 x.vA A.length x.BW).holds w)(h2:(dZ zf x.FA (x.BW.map λv=>[v]) A).holds w)(h3:(a_ 27 1 x.vG G.length x.BX).holds w)(h4:(dZ (bM fz) x.FG (x.BX.map λv=>[v]) G).holds w):AR w (aQ #[x.vA,x.vG]) A G:=by
 have h1':(a_ 143 (bM uW).c x.vA A.length (x.BW.map λv=>[v]).flatten).holds w:=by rw[Ep];exact h1
 have h3':(a_ 27 (bM fz).c x.vG G.length (x.BX.map λv=>[v]).flatten).holds w:=by rw[Ep];exact h3
 exact⟨x.vA,x.vG,rfl,(xi h1' (Za h2) aiz).mono λk hk=>xj h1' h2 k hk,(xi h3' h4 aiz).mono λk hk=>xj h3' h4 k hk⟩
theorem JA{α:Type}{s:vO α}{F:Nat->Prop}{w:World}{base:Option Addr}{n cap:Nat}{l:List (List α)}(h:jQ (bM s) F w (ap base n cap) l){i:Nat}(hi:i<l.length):∃b off vi,base=aj ⟨b,off,ak⟩/\w.cell? ⟨b,off+i,ak⟩=aj vi/\jQ s F w vi l[i]:=by
 obtain⟨acW,Fp,e,_,_,h3⟩:=h
 cases e
 obtain⟨b,off,rfl,_,h4⟩:=h3 J;obtain⟨cs,⟨vi,rfl,h5⟩,h6⟩:=h4 i hi;refine⟨b,off,vi,rfl,?_,h5⟩;have:=h6 0 vi I
 rwa [show off+i*(bM s).c+0=off+i by show off+i*1+0=_;omega]at this
theorem mD{α:Type}{s:vO α}{F:Nat->Prop}{w:World}{v:Value}{l:List α}(h:jQ s F w v l):∃base cap,v=ap base l.length cap/\l.length<=cap/\cap<=9223372036854775807:=let ⟨b,c,h1,h2,h3,_⟩:=h;⟨b,c,h1,h2,by unfold maxLen at h3;omega⟩
def uY(T P n:Nat)(x:bI.Act)(c:Nat):Prop:=(x.1=0/\x.2=0)\/(x.1=1/\c<T/\0<=x.2/\x.2<(n:Int))\/(x.1=2/\0<=x.2/\x.2<(P:Int))\/(x.1=3/\x.2=0/\c=T)
theorem JB(T P n:Nat)(nn:Int)(bp:Option Addr)(cp:Nat)(aA:Option Addr)(cA:Nat)(vG:Value)(x:bI.Act)(c:Nat)(h:uY T P n x c)(w:World):
 Calls aB 87 #[dE (T:Int) nn (ap bp P cp),aQ #[ap aA n cA,vG],aQ (iZ x).toArray,av az (c:Int)] w (cz (ret (.bool aD)) w):=by
 obtain⟨k,m⟩:=x;unfold uY at h;dsimp only at h;refine enter (args:=[dE (T:Int) nn (ap bp P cp),aQ #[ap aA n cA,vG],aQ (iZ (k,m)).toArray,av az (c:Int)]) (n:=59) Tryz.func87 I I I ?_;refine b9 (bz (bQ I I I λg4=>?_));refine zL ?_;refine bQ I I I λg5=>?_;refine zL ?_;refine bQ I I I λg6=>?_;refine zL ?_;rcases h with⟨rfl,rfl⟩|⟨rfl,h1,h2,h3⟩|⟨rfl,h1,h2⟩|⟨rfl,rfl,rfl⟩
 ·repeat(first|refine GA ?_|refine gV (aC (v:=av az 0) aK.ty I (aH (i:=2) I I)) ?_)
  exact eE
 ·repeat(first|refine GA ?_|refine gV (aC (v:=av az 1) aK.ty I (aH (i:=2) I I)) ?_|refine gV (aC (v:=av az m) aK.ty I (aH (i:=2) I I)) ?_|refine gV (aC (v:=av az (T:Int)) aK.ty I (aH (i:=0) I I)) ?_|refine gV (aC (v:=ap aA n cA) aK.ty I (aH (i:=1) I I)) ?_)
  exact eE
 ·repeat(first|refine GA ?_|refine gV (aC (v:=av az 2) aK.ty I (aH (i:=2) I I)) ?_|refine gV (aC (v:=av az m) aK.ty I (aH (i:=2) I I)) ?_|refine gV (aC (v:=ap bp P cp) aK.ty I (aH (i:=0) I I)) ?_)
  exact eE
 ·repeat(first|refine GA ?_|refine gV (aC (v:=av az 3) aK.ty I (aH (i:=2) I I)) ?_|refine gV (aC (v:=av az 0) aK.ty I (aH (i:=2) I I)) ?_|refine gV (aC (v:=av az (c:Int)) aK.ty I (aH (i:=0) I I)) ?_)
  exact eE
structure rp(g:d_)(T N:Nat)(A:List (List bI.Act))(G:List (List Int)):Prop where
 JC:bX g=0
 aR:g.aR=(T:Int)
 bC:g.bC=(N:Int)
 pos:0<A.length
 Cg:A.length<=200
 same:G.length=A.length
 wA:∀i (h:i<A.length),A[i].length=T+1
 dD:∀i (h:i<A.length),∀c (hc:c<A[i].length),uY T g.aF.length A.length A[i][c] c
 wG:∀i (h:i<G.length),G[i].length=N
 gos:∀i (h:i<G.length),∀y∈G[i],-1<=y/\y<(A.length:Int)
theorem wK(v t:Value)(g:d_)(T N:Nat)(A:List (List bI.Act))(G:List (List Int))(h:rp g T N A G)(w:World)(hG:jZ (λk=>k<w.heap.size) w v g)(ht:AR w t A G):
 Calls aB 52 #[v,t] w (cz (ret (av az 0)) w):=by
 have iS:=λw' (hg:Gr w w')=>jD v g w' (hG.gr hg);obtain⟨vp,rfl,hp,-,-⟩:=hG;obtain⟨bp,cp,rfl,-⟩:=hp;obtain⟨vA,vG,rfl,hA,hGo⟩:=ht;obtain⟨aA,cA,rfl,-,-⟩:=mD hA;obtain⟨aG,cG,rfl,-,-⟩:=mD hGo;obtain⟨hg,Jh,hNn,AE,Py,tX,hwA,abV,hwG,Zn⟩:=h;obtain⟨hT1,hT2,-,WD,Bl,-⟩:=cP hg;rw[hg]at iS;rw[Jh,hNn]at iS⊢;refine enter (args:=[dE (T:Int) (N:Int) (ap bp g.aF.length cp),aQ #[ap aA A.length cA,ap aG G.length cG]]) (n:=93) Tryz.func52 I I I ?_;refine b9 (bz (bQ I I I λg2=>?_));refine zL ?_;refine bQ I I I λg3=>?_;refine zL ?_
 repeat(first|refine GA ?_|refine gV (aO (i:=0) aK.ty I I I) ?_)
 refine aW (iM aI.en I I) (λw hm=>iS w hm.below) I I I ?_;intro _ _;refine zL ?_
 repeat(first|refine GA ?_|refine gV (aC (v:=ap aA A.length cA) aK.ty I (aH (i:=1) I I)) ?_|refine gV (aC (v:=ap aG G.length cG) aK.ty I (aH (i:=1) I I)) ?_)
 clear iS;refine dY (ι:=Nat) (λi=>i<=A.length) (λi=>[(2,aJ (aj ⟨g2,0,ak⟩)),(3,aJ (aj ⟨g3,0,ak⟩)),(6,av az (A.length:Int)),(31,av az (A.length:Int)),(32,av az (i:Int))])
  (λ_=>[aP g2 (dE (T:Int) (N:Int) (ap bp g.aF.length cp)).cells 34,aP g3 (aQ #[ap aA A.length cA,ap aG G.length cG]).cells 37]) (λi=>A.length-i) 0 (bH _) ?_
 intro i i1
 by_cases c1:i<A.length
 ·have c1G:i<G.length:=by omega
  obtain⟨bA,oA,vi,rfl,hcA,hsA⟩:=JA hA c1;obtain⟨bG,oG,wi,rfl,hcG,hsG⟩:=JA hGo c1G;obtain⟨ai,ci,rfl,hci,aiq⟩:=mD hsA;obtain⟨ei,di,rfl,hdi,agj⟩:=mD hsG;have hfA:=hsA.flat (f:=iZ) aiz;have hfG:=hsG.flat (f:=λn=>[av .i64 n]) aiz;have air:=hwA i c1;have ais:=hwG i c1G;have agk:=abV i c1;have agl:=Zn i c1G;obtain⟨_,_,e1,-,-,hrA⟩:=hfA
  cases e1
  obtain⟨_,_,e2,-,-,hrG⟩:=hfG
  cases e2
  clear hsA hsG abV Zn hwA hwG;have abW:∀L,At (w:bR) L ⟨bA,oA+i,ak⟩ (.slice ai A[i].length ci):=λL=>jX hcA;have abX:∀L,At (w:bR) L ⟨bG,oG+i,ak⟩ (.slice ei G[i].length di):=λL=>jX hcG;generalize A[i]=X at*;generalize G[i]=Y at*
  try refine GA ?_
  refine dK ([aP g2 (dE (T:Int) (N:Int) (ap bp g.aF.length cp)).cells 34,aP g3 (aQ #[ap (aj ⟨bA,oA,ak⟩) A.length cA,ap (aj ⟨bG,oG,ak⟩) G.length cG]).cells 37]) (.calm 0 (.calm 1 (.calm 2 (.calm 3 (.calm 4 (.calm 5 (.calm 6 (.calm 7 (.calm 8 (.calm 9 (.calm 10 (.calm 11 (.calm 12 (.calm 13 (.calm 14 (.calm 15 (.calm 16 (.calm 17 (.calm 18 (.calm 19 (.calm 20 (.done)))))))))))))))))))))) (λ_ h=>h) ?_
  repeat(first|refine GW ?_|(refine GN ?_;first|refine QW (aC (v:=ap (aj ⟨bA,oA,ak⟩) A.length cA) aK.ty I (aH (i:=1) I I)) ?_|refine QW (bY bL.eq aK.ty I I c1) ?_|refine QW (aC (v:=ap ai X.length ci) aK.ty I (abW _)) ?_|refine QW (aC (v:=av az (T:Int)) aK.ty I (aH (i:=0) I I)) ?_|refine QW (aC (v:=ap (aj ⟨bG,oG,ak⟩) G.length cG) aK.ty I (aH (i:=1) I I)) ?_|refine QW (bY bL.eq aK.ty I I c1G) ?_|refine QW (aC (v:=ap ei Y.length di) aK.ty I (abX _)) ?_|refine QW (aC (v:=av az (N:Int)) aK.ty I (aH (i:=0) I I)) ?_))
  repeat(first|refine GA ?_|refine gV (aC (v:=ap (aj ⟨bA,oA,ak⟩) A.length cA) aK.ty I (aH (i:=1) I I)) ?_|refine gV (bY bL.eq aK.ty I I c1) ?_|refine gV (aC (v:=ap ai X.length ci) aK.ty I (abW _)) ?_)
  refine dY (ι:=Nat) (λc=>c<=X.length) (λc=>[(2,aJ (aj ⟨g2,0,ak⟩)),(3,aJ (aj ⟨g3,0,ak⟩)),(6,av az (A.length:Int)),(7,av az (i:Int)),(31,av az (A.length:Int)),(32,av az (i:Int)),(60,ap ai X.length ci),(61,av az (X.length:Int)),(62,av az (c:Int))])
   (λ_=>[aP g2 (dE (T:Int) (N:Int) (ap bp g.aF.length cp)).cells 34,aP g3 (aQ #[ap (aj ⟨bA,oA,ak⟩) A.length cA,ap (aj ⟨bG,oG,ak⟩) G.length cG]).cells 37]) (λc=>X.length-c) 0 (bH _) ?_
  intro c j1
  by_cases c2:c<X.length
  ·obtain⟨b,off,rfl,eL⟩:=hrA J
   have dz:=λL=>gG (L:=L) rm eL c2;have Eb:∀(L:List b_) (j:Nat) (u:Value),(iZ X[c])[j]?=aj u->At (w:bR) L ⟨b,off+c*2+j,ak⟩ u:=dz;have XK:=agk c c2;clear dz;generalize X[c]=x at*;have hrc:=JB T g.aF.length A.length (N:Int) bp cp (aj ⟨bA,oA,ak⟩) cA (ap (aj ⟨bG,oG,ak⟩) G.length cG) x c XK
   repeat(first|refine GA ?_|refine gV (aX bL.eq aK.ty I I c2) ?_|refine gV (a8 (cs:=iZ x) aK.ty I I (Eb _)) ?_)
   refine aY I λg9=>?_;refine zL ?_
   try refine GA ?_
   refine gh 2 (cs':=(iZ x).toArray) ?_;refine zL ?_
   repeat(first|refine GA ?_|refine gV (aO (i:=0) aK.ty I I I) ?_|refine gV (aO (i:=1) aK.ty I I I) ?_|refine gV (aO (i:=2) aK.ty I I I) ?_)
   refine aW (SO aI.en I I I I I) (λw hm=>hrc w) I I I ?_;intro _ _;refine zL ?_
   try refine GA ?_
   refine dh [0,1] ?_;exact bW (c+1) J (by show X.length-(c+1)<X.length-c;omega)
  obtain rfl:c=X.length:=by omega
  repeat(first|refine GA ?_|refine gV (aC (v:=ap (aj ⟨bG,oG,ak⟩) G.length cG) aK.ty I (aH (i:=1) I I)) ?_|refine gV (bY bL.eq aK.ty I I c1G) ?_|refine gV (aC (v:=ap ei Y.length di) aK.ty I (abX _)) ?_)
  refine dY (ι:=Nat) (λc=>c<=Y.length) (λc=>[(2,aJ (aj ⟨g2,0,ak⟩)),(3,aJ (aj ⟨g3,0,ak⟩)),(6,av az (A.length:Int)),(31,av az (A.length:Int)),(32,av az (i:Int)),(78,ap ei Y.length di),(79,av az (Y.length:Int)),(80,av az (c:Int))])
   (λ_=>[aP g2 (dE (T:Int) (N:Int) (ap bp g.aF.length cp)).cells 34,aP g3 (aQ #[ap (aj ⟨bA,oA,ak⟩) A.length cA,ap (aj ⟨bG,oG,ak⟩) G.length cG]).cells 37]) (λc=>Y.length-c) 0 (bH _) ?_
  intro c k1
  by_cases c3:c<Y.length
  ·obtain⟨b,off,rfl,eL⟩:=hrG J
   have dz:=λL=>gG (L:=L) (f:=λn=>[av .i64 n]) (c:=1) (λ_=>rfl) eL c3 0 _ I;have Eb:∀(L:List b_),At (w:bR) L ⟨b,off+c*1+0,ak⟩ (av az Y[c]):=dz;have hgo:=agl Y[c] (cD c3);clear dz;generalize Y[c]=y at*
   repeat(first|refine GA ?_|refine gV (aX bL.eq aK.ty I I c3) ?_|refine gV (aC (v:=av az y) aK.ty I (Eb _)) ?_)
   exact bW (c+1) J (by show Y.length-(c+1)<Y.length-c;omega)
  obtain rfl:c=Y.length:=by omega
  try refine GA ?_
  exact bW (i+1) J (by show A.length-(i+1)<A.length-i;omega)
 ·obtain rfl:i=A.length:=by omega
  try refine GA ?_
  exact eE
def ac2(g:d_):Bool:=decide ((iB g).2.2.2=0)&&decide ((iB g).2.2.1.length=0)
end bZ
namespace bZ
open Go.RowKit cU dM yC cT
structure PkM(w:World)(vn vt:Value)(N:List (List Int))(tags:List Int):Prop where
 ex:∃(b off cap:Nat) (vs:Nat->Value),vn=ap (aj ⟨b,off,ak⟩) N.length cap/\∀i (h:i<N.length),w.cell? ⟨b,off+i,ak⟩=aj (vs i)/\Sl w (vs i) N[i].length (N[i].flatMap cU.eo)
 hT:Sl w vt tags.length (tags.flatMap cU.eo)
structure Zo(o:Of)(N:List (List Int))(tags:List Int)(wide:Nat):Prop where
 pos:0<N.length
 le:N.length<=200
 len:tags.length=N.length
 w0:0<wide
 w1:wide<=256
 row:∀i (h:i<N.length),N[i].length=wide
 tag:∀i (h:i<tags.length),-1<=tags[i]/\tags[i]<20
 rng:∀i (h:i<N.length),∀j (h':j<N[i].length),-1<=N[i][j]/\N[i][j]<N.length
 of:∀b (h:b<256),o[b]<wide
theorem PkM.gr{w w':World}{vn vt:Value}{N:List (List Int)}{tags:List Int}(h:PkM w vn vt N tags)(hg:Gr w w'):PkM w' vn vt N tags:=by
 obtain⟨b,off,cap,vs,h1,h2⟩:=h.ex;refine⟨⟨b,off,cap,vs,h1,λi hi=>⟨?_,(h2 i hi).2.gr hg⟩⟩,h.hT.gr hg⟩;rw[hg.cell (nL w _ (h2 i hi).1)];exact(h2 i hi).1
def ofC(o:Of):List Value:=o.toList.map λn:Nat=> .int .u8 (n:Int)
theorem abY(o:Of):(ofC o).length=256:=by simp[ofC]
theorem abZ(o:Of){b:Nat}(h:b<256):(ofC o).toArray[b]?=aj (.int .u8 (o[b]:Int)):=by
 rw[jf];unfold ofC;rw[eX,bD (by simpa using h),nU];rfl
theorem aew(o:Of)(vn vt:Value){j:Nat}{v:Value}(h:(ofC o)[j]?=aj v):(eP o vn vt).toArray[0+j]?=aj v:=by
 have hj:j<(ofC o).length:=(dl.1 h).1;rw[cV,jf];show(ofC o++[vn,vt])[j]?=_
 rw[gJ hj];exact h
end bZ
namespace bZ
open Go.RowKit cU dM cT
structure Vc(w:World)(vn vt:Value)(N:List (List Int))(tags:List Int):Prop where
 hN:jQ (bM fz) (pD w) w vn N
 hT:Sl w vt tags.length (tags.flatMap cU.eo)
theorem Vc.gr{w w':World}{vn vt:Value}{N:List (List Int)}{tags:List Int}(h:Vc w vn vt N tags)(hg:Gr w w'):Vc w' vn vt N tags:=⟨sm h.hN hg,h.hT.gr hg⟩
abbrev qJ(o:Of)(N:List (List Int))(tags:List Int):Prop:=Zo o N tags (N.headD []).length
open Classical in
noncomputable def zk(o:Of)(N:List (List Int))(tags:List Int):Int:=if 200<N.length then 2 else if qJ o N tags then 0 else 1
def Mx(N:List (List Int))(tags:List Int)(wide i:Nat):Prop:=(N.getD i []).length=wide/\ -1<=tags.getD i 0/\tags.getD i 0<20/\∀x∈N.getD i [],-1<=x/\x<N.length
theorem ab0{o:Of}{N:List (List Int)}{tags:List Int}{wide:Nat}(h:Zo o N tags wide){i:Nat}(hi:i<N.length):Mx N tags wide i:=by
 have hit:i<tags.length:=by rw[h.len];exact hi
 unfold Mx;rw[cH,bD hi,cH,bD hit];refine⟨h.row i hi,(h.tag i hit).1,(h.tag i hit).2,λx hx=>?_⟩;obtain⟨j,hj,rfl⟩:=g_.1 hx;exact h.rng i hi j hj
theorem ab1{o:Of}{N:List (List Int)}{tags:List Int}{wide:Nat}(h0:0<N.length)(h1:N.length<=200)(h2:tags.length=N.length)(h3:0<wide)(h4:wide<=256)(h5:∀i,i<N.length->Mx N tags wide i)(h6:∀b (h:b<256),o[b]<wide):Zo o N tags wide:=by
 have g:∀i (hi:i<N.length),N.getD i []=N[i]:=λi hi=>by rw[cH,bD hi];rfl
 have gt:∀i (hi:i<tags.length),tags.getD i 0=tags[i]:=λi hi=>by rw[cH,bD hi];rfl
 refine⟨h0,h1,h2,h3,h4,λi hi=>?_,λi hi=>?_,λi hi j hj=>?_,h6⟩;have:=(h5 i hi).1;rwa [g i hi]at this;have:=h5 i J;unfold Mx at this;rw[gt i hi]at this;exact⟨this.2.1,this.2.2.1⟩;have:=(h5 i hi).2.2.2;rw[g i hi]at this;exact this _ (cD hj)
theorem aex{o:Of}{N:List (List Int)}{tags:List Int}(h:200<N.length):zk o N tags=2:=if_pos h
theorem aey{o:Of}{N:List (List Int)}{tags:List Int}(h:¬200<N.length)(hg:¬qJ o N tags):zk o N tags=1:=by unfold zk;rw[if_neg h,if_neg hg]
theorem P7{o:Of}{N:List (List Int)}{tags:List Int}(hg:qJ o N tags):zk o N tags=0:=by unfold zk;rw[if_neg (by have:=hg.le;omega),if_pos hg]
theorem AS{o:Of}{N:List (List Int)}{tags:List Int}(h:zk o N tags=0):qJ o N tags:=by
 unfold zk at h;split at h
 cases h
 split at h
 assumption
 cases h
theorem Bu(o:Of)(vn vt:Value)(N:List (List Int))(tags:List Int)(w:World)(h:Vc w vn vt N tags)(ho:∀b (h:b<256),o[b]<256):
 Calls aB 50 #[Nu o vn vt] w (cz (ret (av az (zk o N tags))) w):=by
 obtain⟨⟨an,cn,rfl,hn1,hn2,hn3⟩,at',ct,rfl,ht1,Xa,Kc⟩:=h;unfold maxLen at hn2 Xa;have hE1:=λh hg=>aey (o:=o) (N:=N) (tags:=tags) h hg;have hE2:=λh=>aex (o:=o) (N:=N) (tags:=tags) h;have hE0:=λh=>P7 (o:=o) (N:=N) (tags:=tags) h;generalize zk o N tags=e at*;refine enter (args:=[Nu o (ap an N.length cn) (ap at' tags.length ct)]) (n:=92) Tryz.func50 I I I ?_;refine b9 (bz (bQ I I I λg1=>?_))
 by_cases c1:200<N.length
 ·rw[hE2 c1]
  repeat(first|refine GC ?_|refine gV (aC aK.ty I (aH (i:=0) I (lB _ _ _))) ?_|refine gV (dP (b:=aD) I I (decide_eq_true J)) ?_|refine GB ?_)
  exact dC I I I
 by_cases c2:N.length=0
 ·rw[hE1 c1 (λh=>by have:=h.pos;omega)]
  repeat(first|refine GC ?_|refine gV (aC aK.ty I (aH (i:=0) I (lB _ _ _))) ?_|refine gV (dP (b:=aE) I I (decide_eq_false J)) ?_|refine gV (de (b:=aD) I I (decide_eq_true J)) ?_|refine GB ?_)
  exact dC I I I
 by_cases c3:tags.length=N.length
 case neg=>
  rw[hE1 c1 (λh=>c3 h.len)]
  repeat(first|refine GC ?_|refine gV (aC aK.ty I (aH (i:=0) I (lB _ _ _))) ?_|refine gV (aC aK.ty I (aH (i:=0) I (nr _ _ _))) ?_|refine gV (dP (b:=aE) I I (decide_eq_false J)) ?_|refine gV (de (b:=aE) I I (decide_eq_false J)) ?_|refine gV (dm (b:=aD) I I (decide_eq_true J)) ?_|refine GB ?_)
  exact dC I I I
 obtain⟨bn,My,rfl,_,Kn⟩:=hn3 J;obtain⟨bt,JD,rfl,htd⟩:=Kc J;clear hn3 Kc;obtain⟨u0,⟨a0,c0,rfl,-⟩,hd0⟩:=Az Kn (show 0<N.length by omega);have aeu:=λ(L:List b_)=>iD (L:=L) hd0 (j:=0) (v:=ap a0 (N[0]' J).length c0) I;have hw:(N.headD []).length=(N[0]' J).length:=by cases N with
  |nil=>simp at c2
  |cons x r=>rfl
 have yD:qJ o N tags↔Zo o N tags (N[0]' J).length:=by unfold qJ;rw[hw]
 clear hd0 hw;generalize (N[0]' J).length=wide at*
 repeat(first|refine GC ?_|refine gV (aC aK.ty I (aH (i:=0) I (lB _ _ _))) ?_|refine gV (aC aK.ty I (aH (i:=0) I (nr _ _ _))) ?_|refine gV (dP (b:=aE) I I (decide_eq_false J)) ?_|refine gV (de (b:=aE) I I (decide_eq_false J)) ?_|refine gV (dm (b:=aE) I I (decide_eq_false J)) ?_|refine gV (aX (j:=0) bL.eq aK.ty I I J) ?_|refine gV (aC (v:=ap a0 wide c0) aK.ty I (aeu _)) ?_|refine GB ?_)
 by_cases c4:wide=0
 ·rw[hE1 c1 (λh=>by have:=(yD.1 h).w0;omega)]
  repeat(first|refine GC ?_|refine gV (de (b:=aD) I I (decide_eq_true J)) ?_|refine GB ?_)
  exact dC I I I
 by_cases c5:256<wide
 ·rw[hE1 c1 (λh=>by have:=(yD.1 h).w1;omega)]
  repeat(first|refine GC ?_|refine gV (de (b:=aE) I I (decide_eq_false J)) ?_|refine gV (dP (b:=aD) I I (decide_eq_true J)) ?_|refine GB ?_)
  exact dC I I I
 repeat(first|refine GC ?_|refine gV (de (b:=aE) I I (decide_eq_false J)) ?_|refine gV (dP (b:=aE) I I (decide_eq_false J)) ?_|refine GB ?_)
 refine dY (ι:=Nat) (λi=>i<=N.length/\∀j,j<i->Mx N tags wide j) (λi=>[(1,aJ (aj ⟨g1,0,ak⟩)),(3,av az (N.length:Int)),(4,av az (wide:Int)),(35,av az (N.length:Int)),(36,av az (i:Int))])
  (λ_=>[aP g1 (eP o (ap (aj ⟨bn,My,ak⟩) N.length cn) (ap (aj ⟨bt,JD,ak⟩) tags.length ct)).toArray 31]) (λi=>N.length-i) 0 ⟨bH _,λj h=>by omega⟩ ?_
 rintro i ⟨hi,hgi⟩
 by_cases q1:i<N.length
 ·have hit:i<tags.length:=by omega
  obtain⟨u,⟨au,cu,rfl,hcu,hmu,Nq⟩,hdu⟩:=Az Kn q1;unfold maxLen at hmu;have JE:=λ(L:List b_)=>iD (L:=L) hdu (j:=0) (v:= .slice au N[i].length cu) I;have Mf:=λ(L:List b_)=>gG (L:=L) jU htd hit 0 _ I;have hG:Mx N tags wide i↔(N[i].length=wide/\ -1<=tags[i]/\tags[i]<20/\∀x∈N[i],-1<=x/\x<N.length):=by
   unfold Mx;rw[cH,bD q1,cH,bD hit];rfl
  have nC:¬Mx N tags wide i->e=1:=λhg=>hE1 c1 λh=>hg (ab0 (yD.1 h) q1);clear hdu hE1 hE2;generalize tags[i]=tg at*;generalize N[i]=l at*
  by_cases r1:l.length=wide
  case neg=>
   rw[nC (λh=>r1 (hG.1 h).1)]
   repeat(first|refine GC ?_|refine gV (aC aK.ty I (aH (i:=0) I (lB _ _ _))) ?_|refine gV (aC aK.ty I (aH (i:=0) I (nr _ _ _))) ?_|refine gV (aX (j:=i) bL.eq aK.ty I I q1) ?_|refine gV (aC (v:=ap au l.length cu) aK.ty I (JE _)) ?_|refine gV (dm (b:=aD) I I (decide_eq_true J)) ?_|refine GB ?_)
   exact dC I I I
  by_cases r2:tg< -1
  ·rw[nC (λh=>by have:=(hG.1 h).2.1;omega)]
   repeat(first|refine GC ?_|refine gV (aC aK.ty I (aH (i:=0) I (lB _ _ _))) ?_|refine gV (aC aK.ty I (aH (i:=0) I (nr _ _ _))) ?_|refine gV (aX (j:=i) bL.eq aK.ty I I q1) ?_|refine gV (aC (v:=ap au l.length cu) aK.ty I (JE _)) ?_|refine gV (dm (b:=aE) I I (decide_eq_false J)) ?_|refine gV (aX (j:=i) bL.eq aK.ty I I hit) ?_|refine gV (aC (v:=av az tg) aK.ty I (Mf _)) ?_|refine gV (dO (b:=aD) I I (decide_eq_true r2)) ?_|refine GB ?_)
   exact dC I I I
  by_cases r3:20<=tg
  ·rw[nC (λh=>by have:=(hG.1 h).2.2.1;omega)]
   repeat(first|refine GC ?_|refine gV (aC aK.ty I (aH (i:=0) I (lB _ _ _))) ?_|refine gV (aC aK.ty I (aH (i:=0) I (nr _ _ _))) ?_|refine gV (aX (j:=i) bL.eq aK.ty I I q1) ?_|refine gV (aC (v:=ap au l.length cu) aK.ty I (JE _)) ?_|refine gV (dm (b:=aE) I I (decide_eq_false J)) ?_|refine gV (aX (j:=i) bL.eq aK.ty I I hit) ?_|refine gV (aC (v:=av az tg) aK.ty I (Mf _)) ?_|refine gV (dO (b:=aE) I I (decide_eq_false r2)) ?_|refine gV (eN (b:=aD) I I (decide_eq_true r3)) ?_|refine GB ?_)
   exact dC I I I
  repeat(first|refine GC ?_|refine gV (aC aK.ty I (aH (i:=0) I (lB _ _ _))) ?_|refine gV (aC aK.ty I (aH (i:=0) I (nr _ _ _))) ?_|refine gV (aX (j:=i) bL.eq aK.ty I I q1) ?_|refine gV (aC (v:=ap au l.length cu) aK.ty I (JE _)) ?_|refine gV (dm (b:=aE) I I (decide_eq_false J)) ?_|refine gV (aX (j:=i) bL.eq aK.ty I I hit) ?_|refine gV (aC (v:=av az tg) aK.ty I (Mf _)) ?_|refine gV (dO (b:=aE) I I (decide_eq_false r2)) ?_|refine gV (eN (b:=aE) I I (decide_eq_false r3)) ?_|refine GB ?_)
  refine dY (ι:=Nat) (λj=>j<=l.length/\∀x∈l.take j,-1<=x/\x<N.length) (λj=>[(1,aJ (aj ⟨g1,0,ak⟩)),(3,av az (N.length:Int)),(4,av az (wide:Int)),(35,av az (N.length:Int)),(36,av az (i:Int)),(67,ap au l.length cu),(68,av az (l.length:Int)),(69,av az (j:Int))])
   (λ_=>[aP g1 (eP o (ap (aj ⟨bn,My,ak⟩) N.length cn) (ap (aj ⟨bt,JD,ak⟩) tags.length ct)).toArray 31]) (λj=>l.length-j) 0 ⟨bH _,λx h=>by simp at h⟩ ?_
  rintro j ⟨hj,hgj⟩
  by_cases s1:j<l.length
  ·obtain⟨bu,ab2,rfl,eL⟩:=Nq J
   have FY:=λ(L:List b_)=>gG (L:=L) jU eL s1 0 _ I;have hxm:=cD s1;have qD:=iq s1;clear eL;generalize l[j]=x at*
   by_cases t1:x< -1
   ·rw[nC (λh=>by have:=((hG.1 h).2.2.2 x hxm).1;omega)]
    repeat(first|refine GC ?_|refine gV (aX (j:=j) bL.eq aK.ty I I s1) ?_|refine gV (aC (v:=av az x) aK.ty I (FY _)) ?_|refine gV (dO (b:=aD) I I (decide_eq_true t1)) ?_|refine GB ?_)
    exact dC I I I
   by_cases t2:(N.length:Int)<=x
   ·rw[nC (λh=>by have:=((hG.1 h).2.2.2 x hxm).2;omega)]
    repeat(first|refine GC ?_|refine gV (aX (j:=j) bL.eq aK.ty I I s1) ?_|refine gV (aC (v:=av az x) aK.ty I (FY _)) ?_|refine gV (dO (b:=aE) I I (decide_eq_false t1)) ?_|refine gV (eN (b:=aD) I I (decide_eq_true t2)) ?_|refine GB ?_)
    exact dC I I I
   repeat(first|refine GC ?_|refine gV (aX (j:=j) bL.eq aK.ty I I s1) ?_|refine gV (aC (v:=av az x) aK.ty I (FY _)) ?_|refine gV (dO (b:=aE) I I (decide_eq_false t1)) ?_|refine gV (eN (b:=aE) I I (decide_eq_false t2)) ?_|refine GB ?_)
   exact jy (j+1) ⟨by omega,λy hy=>by
    rw[qD,fj,dQ]at hy;rcases hy with hy|rfl
    exact hgj y hy;omega⟩ (by show l.length-(j+1)<l.length-j;omega) (by repeat' (first|exact cI|refine cC I ?_)) I
  rw[gK J]at hgj
  try refine GA ?_
  exact jy (i+1) ⟨by omega,λj hj2=>by
   by_cases e:j=i
   subst e;exact hG.2 ⟨r1,by omega,by omega,hgj⟩;exact hgi j J⟩ (by show N.length-(i+1)<N.length-i;omega) (by repeat' (first|exact cI|refine cC I ?_)) I
 ·repeat(first|refine GA ?_|refine gV (a8 (cs:=ofC o) aK.ty I (abY o) (λj v hj=>aH (i:=0) I (aew _ _ _ hj))) ?_)
  refine dY (ι:=Nat) (λj=>j<=256/\∀b (h:b<256),b<j->o[b]<wide) (λj=>[(4,av az (wide:Int)),(83,aQ (ofC o).toArray),(84,av az (j:Int))]) (λ_=>[aP g1 (eP o (ap (aj ⟨bn,My,ak⟩) N.length cn) (ap (aj ⟨bt,JD,ak⟩) tags.length ct)).toArray 31]) (λj=>256-j) 0 ⟨bH _,λb _ h=>by omega⟩ ?_;rintro j ⟨hj,QD⟩
  by_cases s1:j<256
  ·have hcell:=abZ o s1
   have hz:=ho j s1;have nC:¬o[j]<wide->e=1:=λhg=>hE1 c1 λh=>hg ((yD.1 h).of j s1);have uH:o[j]<wide->∀b (h:b<256),b<j+1->o[b]<wide:=λhw b h hb=>by
    by_cases e:b=j
    subst e;exact hw;exact QD b h J
   clear hE1 hE2;generalize o[j]=z at*
   by_cases t1:z<wide
   ·repeat(first|refine GC ?_|refine gV (jj bL.eq aK.ty I I s1 hcell) ?_|refine gV (iL bL.eq bL.eq I (nk J J)) ?_|refine gV (eN (b:=aE) I I (decide_eq_false J)) ?_|refine GB ?_)
    exact bW (j+1) ⟨by omega,uH t1⟩ (by show 256-(j+1)<256-j;omega)
   rw[nC t1]
   repeat(first|refine GC ?_|refine gV (jj bL.eq aK.ty I I s1 hcell) ?_|refine gV (iL bL.eq bL.eq I (nk J J)) ?_|refine gV (eN (b:=aD) I I (decide_eq_true J)) ?_|refine GB ?_)
   exact dC I I I
  rw[hE0 (yD.2 (ab1 J J c3 J J (λi h=>hgi i J) λb h=>QD b h J))]
  try refine GA ?_
  exact dC I I I
end bZ
namespace bZ
open Go.RowKit cU dM dg fZ gu aT cT
structure Md where
 of:List Int
 o:Of
 N:List (List Int)
 tags:List Int
 g:d_
 mode:Int
 rows:List (List Int)
 A:List (List bI.Act)
 G:List (List Int)
structure Ct(w:World)(v:Value)(m:Md)(vo vn vt vp vr va vg:Value):Prop where
 val:v=aQ (iY vo (eP m.o vn vt) (fR m.g.aR m.g.bC vp m.mode vr va vg)).toArray
 of:Sl w vo m.of.length (m.of.flatMap cU.eo)
 pk:Vc w vn vt m.N m.tags
 AT:jZ (λk=>k<w.heap.size) w (dE m.g.aR m.g.bC vp) m.g
 rows:zj w vr m.rows
 oQ:AR w (aQ #[va,vg]) m.A m.G
structure MdGood(m:Md):Prop where
 byte:∀b (h:b<256),m.o[b]<256
 l7:zk m.o m.N m.tags=0
 AT:bX m.g=0
 some:0<m.of.length
 qz:m.of.length<=20
 ofs:∀t∈m.of,-1<=t/\t<m.g.aR
 tag:∀t∈m.tags,t<(m.of.length:Int)
 mode:(m.mode=1/\EL m.g m.rows=0)\/(m.mode=2/\∃T N,rp m.g T N m.A m.G)
theorem Hs{vo:Value}{pk tl:List Value}(hp:pk.length=258){j:Nat}{v:Value}(h:pk[j]?=aj v):(iY vo pk tl).toArray[0+1+j]?=aj v:=by
 rw[jf,iY,show 0+1+j=j+1 by omega,CO,gJ (dl.1 h).1];exact h
theorem aez{vo:Value}{pk:List Value}(hp:pk.length=258){a b c d e f f' v:Value}{j:Nat}(h:[f,f'][j]?=aj v):(iY vo pk [a,b,c,d,e,f,f']).toArray[0+264+j]?=aj v:=by
 match j,h with
 |0,h=>exact jc 5 hp h I
 |1,h=>exact jc 6 hp h I
 |n+2,h=>cases h
theorem P8(x:Int):(cU.eo x).length=1:=rfl
set_option maxRecDepth 100000 in
theorem JF(v:Value)(m:Md)(w:World){vo vn vt vp vr va vg:Value}(h:Ct w v m vo vn vt vp vr va vg)(hg:MdGood m):
 Calls aB 25 #[v] w (cz (ret (av az 0)) w):=by
 have iS:=λw' (hw:Gr w w')=>Bu m.o vn vt m.N m.tags w' (h.pk.gr hw) hg.byte;rw[hg.l7]at iS;have hcg:=λw' (hw:Gr w w')=>jD (dE m.g.aR m.g.bC vp) m.g w' (h.AT.gr hw);rw[hg.AT]at hcg;have Ko:=λw' (hw:Gr w w')=>wJ (dE m.g.aR m.g.bC vp) vr m.g m.rows w' (h.AT.gr hw) (sm h.rows hw);have NW:=λT N hT w' (hw:Gr w w')=>wK (dE m.g.aR m.g.bC vp) (aQ #[va,vg]) m.g T N m.A m.G hT w' (h.AT.gr hw) (h.oQ.gr hw);have TP:=h.of;have htg:=h.pk.hT;have hv:=h.val;obtain⟨b1,b2,b3,b4,b5,b6,b7,b8⟩:=hg;clear h b1 b2 b3;have dS:(eP m.o vn vt).length=258:=fH _ _ _;have hpt:(eP m.o vn vt)[257]?=aj vt:=by have:=nr m.o vn vt;simpa using this
 obtain⟨of,o,N,tags,g,mode,rows,A,G⟩:=m;dsimp only at*;rw[show Nu o vn vt=aQ (eP o vn vt).toArray from I]at iS;generalize eP o vn vt=PK at*;obtain⟨a1,c1,rfl,Fl,hm1,U2⟩:=TP;obtain⟨a2,c2,rfl,U5,VZ,vC⟩:=htg;unfold maxLen at hm1 VZ;subst hv;refine enter (args:=[aQ (iY (ap a1 of.length c1) PK (fR g.aR g.bC vp mode vr va vg)).toArray]) (n:=77) Tryz.func25 I I I ?_;refine b9 (bz (bQ I I I λg1=>?_));refine zL ?_
 repeat(first|refine GA ?_|refine gV (a8 (cs:=PK) aK.ty I dS (λj v h=>aH (i:=0) I (Hs dS h))) ?_)
 refine aW (iM aI.en I I) (λw hm=>iS _ hm.below) I I I ?_;intro _ _;refine zL ?_
 repeat(first|refine GC ?_|refine gV (dm (b:=aE) I I (decide_eq_false (by simp))) ?_|refine gV (a8 (cs:=[av az g.aR,av az g.bC,vp]) aK.ty I I (λj v h=>aH (i:=0) I (sB dS h))) ?_|refine GB ?_)
 refine aW (iM aI.en I I) (λw hm=>hcg _ hm.below) I I I ?_;intro _ _;refine zL ?_
 repeat(first|refine GC ?_|refine gV (dm (b:=aE) I I (decide_eq_false (by simp))) ?_|refine gV (aC (v:=ap a1 of.length c1) aK.ty I (aH (i:=0) I I)) ?_|refine GB ?_)
 have hz:(1:Nat)<=of.length:=b4;refine dY (ι:=Nat) (λk=>k<=of.length) (λk=>[(1,aJ (aj ⟨g1,0,ak⟩)),(31,ap a1 of.length c1),(32,av az of.length),(33,av az (k:Int))])
  (λ_=>[aP g1 (iY (ap a1 of.length c1) PK (fR g.aR g.bC vp mode vr va vg)).toArray 39]) (λk=>of.length-k) 0 (bH _) ?_
 intro k k1
 by_cases d1:k<of.length
 ·obtain⟨b,off,rfl,hr⟩:=U2 J
  have dz:=λ(L:List b_)=>gG (L:=L) P8 hr d1 0 _ I;obtain⟨y1,y2⟩:=b6 of[k] (cD d1);generalize of[k]=x at*
  repeat(first|refine GA ?_|refine gV (aX bL.eq aK.ty I I d1) ?_|refine gV (aC (v:=av az x) aK.ty I (dz _)) ?_|refine gV (aC (v:=av az g.aR) aK.ty I (aH (i:=0) I (jc 0 dS I I))) ?_)
  exact bW (k+1) J (by show of.length-(k+1)<of.length-k;omega)
 obtain rfl:k=of.length:=by omega
 repeat(first|refine GA ?_|refine gV (aC (v:=ap a2 tags.length c2) aK.ty I (aH (i:=0) I (Hs dS hpt))) ?_)
 refine dY (ι:=Nat) (λk=>k<=tags.length) (λk=>[(1,aJ (aj ⟨g1,0,ak⟩)),(49,ap a2 tags.length c2),(50,av az tags.length),(51,av az (k:Int))])
  (λ_=>[aP g1 (iY (ap a1 of.length c1) PK (fR g.aR g.bC vp mode vr va vg)).toArray 39]) (λk=>tags.length-k) 0 (bH _) ?_
 intro k k2
 by_cases d2:k<tags.length
 ·obtain⟨b,off,rfl,hr⟩:=vC J
  have dz:=λ(L:List b_)=>gG (L:=L) P8 hr d2 0 _ I;have y1:=b7 tags[k] (cD d2);generalize tags[k]=x at*
  repeat(first|refine GA ?_|refine gV (aX bL.eq aK.ty I I d2) ?_|refine gV (aC (v:=av az x) aK.ty I (dz _)) ?_|refine gV (aC (v:=ap a1 of.length c1) aK.ty I (aH (i:=0) I I)) ?_)
  exact bW (k+1) J (by show tags.length-(k+1)<tags.length-k;omega)
 obtain rfl:k=tags.length:=by omega
 rcases b8 with⟨rfl,hc⟩|⟨rfl,T,N',hc⟩
 ·rw[hc]at Ko
  repeat(first|refine GA ?_|refine gV (aC (v:=av az 1) aK.ty I (aH (i:=0) I (jc 3 dS I I))) ?_|refine gV (a8 (cs:=[av az g.aR,av az g.bC,vp]) aK.ty I I (λj v h=>aH (i:=0) I (sB dS h))) ?_|refine gV (aC (v:=vr) aK.ty I (aH (i:=0) I (jc 4 dS I I))) ?_)
  refine aW (fI aI.en I I I) (λw hm=>Ko _ hm.below) I I I ?_;intro _ _;refine zL ?_
  try refine GA ?_
  exact eE
 ·have NW:=λw' hw=>NW T N' hc w' hw
  repeat(first|refine GA ?_|refine gV (aC (v:=av az 2) aK.ty I (aH (i:=0) I (jc 3 dS I I))) ?_|refine gV (a8 (cs:=[av az g.aR,av az g.bC,vp]) aK.ty I I (λj v h=>aH (i:=0) I (sB dS h))) ?_|refine gV (a8 (cs:=[va,vg]) aK.ty I I (λj v h=>aH (i:=0) I (aez dS h))) ?_)
  refine aW (fI aI.en I I I) (λw hm=>NW _ hm.below) I I I ?_;intro _ _;refine zL ?_
  try refine GA ?_
  exact eE
end bZ
namespace bZ
open Go.RowKit cU dM dg fZ gu aT cT
theorem Mz{s:Sp}{e m:Int}(h:BY s e=(0,m)):e=0/\(AP (cX s)).any (· ==aE)=aE/\(AQ (cX s)).any (· ==aE)=aE/\(((x7 (cX s)).length=0/\m=1)\/((x7 (cX s)).length≠0/\(iB (cX s)).2.2.2=0/\(iB (cX s)).2.2.1.length=0/\m=2)):=by
 unfold BY at h
 by_cases c0:pu s≠0
 rw[if_pos c0]at h;exact absurd (congrArg PC h) c0;rw[if_neg c0]at h
 by_cases c1:s.words.length=0\/s.rules.length=0
 rw[if_pos c1]at h;cases h;rw[if_neg c1]at h
 by_cases c2:e≠0
 rw[if_pos c2]at h;exact absurd (congrArg PC h) c2;rw[if_neg c2]at h
 by_cases c3:(AP (cX s)).any (· ==aE)=aD\/(AQ (cX s)).any (· ==aE)=aD
 rw[if_pos c3]at h;cases h;rw[if_neg c3]at h;refine⟨sv c2,?_,?_,?_⟩
 ·cases hb:(AP (cX s)).any (· ==aE)with
  |true=>exact absurd (.inl hb) c3
  |false=>rfl
 ·cases hb:(AQ (cX s)).any (· ==aE)with
  |true=>exact absurd (.inr hb) c3
  |false=>rfl
 by_cases c4:(x7 (cX s)).length=0
 rw[if_pos c4]at h;exact .inl ⟨c4,(congrArg Ew h).symm⟩;rw[if_neg c4]at h
 by_cases c5:(iB (cX s)).2.2.2≠0
 rw[if_pos c5]at h;exact absurd (congrArg PC h) c5;rw[if_neg c5]at h
 by_cases c6:0<(iB (cX s)).2.2.1.length
 rw[if_pos c6]at h;cases h;rw[if_neg c6]at h;exact .inr ⟨c4,sv c5,by omega,(congrArg Ew h).symm⟩
theorem Zp{x:FX}(h:x.vT.oneCell'=aD)(R:List Row):(x.pk R).all eQ=true:=by
 have:=xX (xW R 256) (vn:=ap (aj ⟨x.gP,0,ak⟩) R.length R.length) (vt:=x.vT) I h;rw[FX.pk,<-this]
end bZ
namespace bZ
open Go.RowKit cU dM aT dL e8
attribute [local irreducible] Instr.build in
theorem AU(gw:Nat)(t n:Int)(vp vt vo:Value)(out:List dv)(dD:Nat)(kd m:Int)(w:World)(B:bR)(h1:out.length<=100000)(h2:dD<=100000)(hm:Mem B [xL gw t n vp vt vo dD,kM vo out] w):
 Calls aB 121 #[aJ (aj ⟨gw,0,ak⟩),av az kd,av az m] w (dc ⟨λ(_:Value)=>True,λ_=> .bool (decide (((dD+1:Nat):Int)<=2000)),λEM=>[xL gw t n vp vt EM (dD+1),kM EM (out++[(kd,m)])]⟩ B):=by
 refine dA hm (args:=[aJ (aj ⟨gw,0,ak⟩),av az kd,av az m]) (n:=31) Tryz.func121 I I I ?_;refine acJ (i:=1) I λkK lz=>?_
 repeat(first|refine GC ?_|refine gV (aC aK.ty I (aH (i:=0) I I)) ?_|refine gV (eM (r:=((dD+1:Nat):Int)) I I J J J) ?_|refine GB ?_)
 refine bU (i:=0) I I I I I I ?_;rw[show(Lb t n vp vt vo dD).setIfInBounds (0+5) (av az ((dD+1:Nat):Int))=Lb t n vp vt vo (dD+1)from I];refine zL ?_
 repeat(first|refine GA ?_|refine gV (aC aK.ty I (aH (i:=0) I I)) ?_|refine gV (bB I (Au _ _)) ?_)
 refine jk (i:=1) I I I I I I I (λz h=>by cases h;rfl) J J I λz' v'=>?_;refine zL ?_;refine aU (i:=1) I λkK lz=>?_
 try refine GA ?_
 refine bU (i:=0) I I I kK lz I ?_;rw[show(Lb t n vp vt vo (dD+1)).setIfInBounds (0+4) v'=Lb t n vp vt v' (dD+1)from I];refine zL ?_
 repeat(first|refine GC ?_|refine gV (aC (v:=av az ((dD+1:Nat):Int)) aK.ty I (aH (i:=0) I I)) ?_|refine gV (zY I I I) ?_|refine GB ?_)
 exact cJ I I λw hm=>hm.cB (S:=⟨λ(_:Value)=>True,λ_=> .bool (decide (((dD+1:Nat):Int)<=2000)),λEM=>[xL gw t n vp vt EM (dD+1),kM EM (out++[(kd,m)])]⟩) v' trivial [0,1] aiz (by simp[xL,kM])
theorem Bv{B:bR}{L:List b_}{i g cap:Nat}{d:TD}{r:List TD}(hi:L[i]?=aj (wk (ap (aj ⟨g,0,ak⟩) (r.length+1) cap) (d::r)))(j:Nat)(u:Value)(hu:(wy d)[j]?=aj u):At B L ⟨g,0+r.length*4+j,ak⟩ u:=
 qO IC hi (k:=r.length) (by simp) j u (by simpa using hu)
theorem R4{d:TD}{r:List TD}{g cap:Nat}{w:World}(h:(wk (ap (aj ⟨g,0,ak⟩) (r.length+1) cap) (d::r)).holds w):(wk (ap (aj ⟨g,0,ak⟩) r.length cap) r).holds w:=by
 obtain⟨h1,h2⟩:=h;refine⟨by rw[kW IC];simp,?_⟩;rcases h2 with⟨h2,_⟩|⟨g',Fp,jM,e,h3,h4,h5,h6,h7,h8⟩
 cases h2
 cases e
 refine .inr ⟨g,cap,jM,rfl,h3,h4,by simp at h5;omega,h6,h7,?_⟩;have:(jM.toList.take ((d::r).length*4)).take (r.length*4)=((d::r).reverse.flatMap wy).take (r.length*4):=by rw[h8]
 rw[List.take_take,Nat.min_eq_left (by simp;omega),List.reverse_cons,gO,List.take_left' (by rw[kW IC];simp)]at this;exact this
attribute [local irreducible] Instr.build in
theorem AV(gw:Nat)(t n:Int)(vp vt vo:Value)(d:TD)(r:List TD)(dD:Nat)(w:World)(B:bR)(h1:r.length<=100000)(hm:Mem B [xL gw t n vp vt vo dD,wk vt (d::r)] w):
 Calls aB 120 #[aJ (aj ⟨gw,0,ak⟩)] w (dc ⟨λ(_:Value)=>True,λ_=>Ke d,λog=>[xL gw t n vp og vo dD,wk og r]⟩ B):=by
 refine dA hm (args:=[aJ (aj ⟨gw,0,ak⟩)]) (n:=31) Tryz.func120 I I I ?_;refine xp (i:=1) I (by simp) λg cap hv q1 q2=>?_;subst hv;simp only[c_]at*;refine b9 (bz (aY I λg2=>?_));refine zL ?_
 try refine GA ?_
 refine dK ([xL gw t n vp (ap (aj ⟨g,0,ak⟩) (r.length+1) cap) vo dD,wk (ap (aj ⟨g,0,ak⟩) (r.length+1) cap) (d::r)]) (.calm 0 (.calm 1 (.calm 2 (.calm 3 (.calm 4 (.calm 5 (.calm 6 (.calm 7 (.calm 8 (.calm 9 (.calm 10 (.calm 11 (.one 12 (.one 13 (.done))))))))))))))) (bV [0,1]) ?_
 repeat(first|(refine GN ?_;first|refine QW QP ?_|refine QW (aC (v:=ap (aj ⟨g,0,ak⟩) (r.length+1) cap) aK.ty I (aH (i:=0) I I)) ?_|refine QW (eC (r:=(r.length:Int)) I I J J J) ?_|refine QW (aX (j:=r.length) bL.eq aK.ty I I J) ?_|refine QW (a8 aK.ty I I (Bv (i:=1) I)) ?_|refine GX ?_)|refine GW ?_)
 refine aL I (aY I λg3=>?_);refine aM (bV [0,1]) ?_;refine aL I (aV (i:=3) (cs':=(wy d).toArray) I I I I I I (aM (bV [0,1]) ?_))
 try refine GW ?_
 try refine GA ?_
 refine dK ([]) (.calm 0 (.calm 1 (.calm 2 (.calm 3 (.calm 5 (.calm 6 (.calm 7 (.two 4 (.one 8 (.calm 9 (.calm 10 (.calm 11 (.calm 12 (.calm 13 (.one 14 (.done)))))))) 8 (.calm 9 (.calm 10 (.one 4 (.calm 11 (.calm 12 (.calm 13 (.one 14 (.done)))))))))))))))) (bV []) ?_
 try refine GW ?_
 refine ez I I ?_ ?_
 ·refine du (aC (v:=ap (aj ⟨g,0,ak⟩) (r.length+1) cap) aK.ty I (aH (i:=0) I I)) I I I (aM (bV []) ?_)
  refine aL I (du (aC (v:=ap (aj ⟨g,0,ak⟩) (r.length+1) cap) aK.ty I (aH (i:=0) I I)) I I I (aM (bV []) ?_))
  repeat(first|(refine GN ?_;first|refine QW QP ?_|refine QW (eC (r:=(r.length:Int)) I I J J J) ?_|refine QW (KF (j:=r.length) bL.eq aK.ty I I J) ?_|refine GX ?_)|refine GW ?_)
  refine aL I (bU (i:=0) I I I I I I (aM (bV []) ?_));rw[show(Lb t n vp (ap (aj ⟨g,0,ak⟩) (r.length+1) cap) vo dD).setIfInBounds (0+3) (ap (aj ⟨g,0,ak⟩) r.length cap)=Lb t n vp (ap (aj ⟨g,0,ak⟩) r.length cap) vo dD from I]
  try refine GW ?_
  repeat(first|refine GA ?_|refine gV (aO (i:=3) aK.ty I I I) ?_)
  refine gh 2 (cs':=(wy d).toArray) ?_;refine zL ?_
  try refine GA ?_
  refine oc (i:=1) (wk (ap (aj ⟨g,0,ak⟩) r.length cap) r) I (λw h=>R4 h) (λk hk=>hk) ?_;exact fF (i:=2) I I I I λw hm=>hm.cB (S:=⟨λ(_:Value)=>True,λ_=>Ke d,λog=>[xL gw t n vp og vo dD,wk og r]⟩) (ap (aj ⟨g,0,ak⟩) r.length cap) trivial [0,1] aiz I
 ·refine du (aC (v:=ap (aj ⟨g,0,ak⟩) (r.length+1) cap) aK.ty I (aH (i:=0) I I)) I I I (aM (bV []) ?_)
  repeat(first|(refine GN ?_;first|refine QW QP ?_|refine QW (eC (r:=(r.length:Int)) I I J J J) ?_|refine GX ?_)|refine GW ?_)
  refine aL I (du (aC (v:=ap (aj ⟨g,0,ak⟩) (r.length+1) cap) aK.ty I (aH (i:=0) I I)) I I I (aM (bV []) ?_))
  repeat(first|(refine GN ?_;first|refine QW QP ?_|refine QW (KF (j:=r.length) bL.eq aK.ty I I J) ?_|refine GX ?_)|refine GW ?_)
  refine aL I (bU (i:=0) I I I I I I (aM (bV []) ?_));rw[show(Lb t n vp (ap (aj ⟨g,0,ak⟩) (r.length+1) cap) vo dD).setIfInBounds (0+3) (ap (aj ⟨g,0,ak⟩) r.length cap)=Lb t n vp (ap (aj ⟨g,0,ak⟩) r.length cap) vo dD from I]
  try refine GW ?_
  repeat(first|refine GA ?_|refine gV (aO (i:=3) aK.ty I I I) ?_)
  refine gh 2 (cs':=(wy d).toArray) ?_;refine zL ?_
  try refine GA ?_
  refine oc (i:=1) (wk (ap (aj ⟨g,0,ak⟩) r.length cap) r) I (λw h=>R4 h) (λk hk=>hk) ?_;exact fF (i:=2) I I I I λw hm=>hm.cB (S:=⟨λ(_:Value)=>True,λ_=>Ke d,λog=>[xL gw t n vp og vo dD,wk og r]⟩) (ap (aj ⟨g,0,ak⟩) r.length cap) trivial [0,1] aiz I
theorem P9(out:List dv)(a:Nat):bP [] out a=([],out,a,aD):=rfl
theorem P_(x:dv)(r:List TD)(out:List dv)(a:Nat):bP (.sym x::r) out a=(.sym x::r,out,a,aD):=rfl
theorem P'(p:Int)(r:List TD)(out:List dv){a:Nat}(h:a+1<=2000):bP (.close p::r) out a=bP r (out++[(3,p)]) (a+1):=by rw[bP,if_pos h]
theorem Uw(p:Int)(r:List TD)(out:List dv){a:Nat}(h:¬a+1<=2000):bP (.close p::r) out a=(r,out++[(3,p)],a+1,aE):=by rw[bP,if_neg h]
def clS(gw:Nat)(t n:Int)(vp:Value)(c:List TD×List dv×Nat×Bool):Spec (Value×Value):=⟨λ_=>True,λ_=> .bool c.2.2.2,λx=>[xL gw t n vp x.1 x.2 c.2.2.1,wk x.1 c.1,kM x.2 c.2.1]⟩
theorem rq(gw:Nat)(t n:Int)(vp Zq Zr:Value)(Vd:List TD)(uV:List dv)(Ht:Nat)(w:World)(B:bR)(h1:Vd.length<=100000)(h2:Ht<=2000)(h3:uV.length=Ht)(hm:Mem B [xL gw t n vp Zq Zr Ht,wk Zq Vd,kM Zr uV] w):
 Calls aB 122 #[aJ (aj ⟨gw,0,ak⟩)] w (dc (clS gw t n vp (bP Vd uV Ht)) B):=by
 refine dA hm (args:=[aJ (aj ⟨gw,0,ak⟩)]) (n:=30) Tryz.func122 I I I ?_;clear hm
 try refine GA ?_
 generalize hC:bP Vd uV Ht=C;refine dY (ι:=List TD×List dv×Nat×Value×Value) (λ(st,out,dD,_,_)=>bP st out dD=C/\st.length<=100000/\dD<=2000/\out.length=dD) (λ_=>[(0,aJ (aj ⟨gw,0,ak⟩))]) (λ(st,out,dD,vt,vo)=>[xL gw t n vp vt vo dD,wk vt st,kM vo out]) (λ(st,_,_,_,_)=>st.length) (Vd,uV,Ht,Zq,Zr) ⟨hC,h1,h2,h3⟩ ?_;clear h1 h2 h3 hC;rintro⟨st,out,dD,vt,vo⟩ ⟨hC,h1,h2,h3⟩;dsimp only at hC h1 h2 h3⊢
 cases st with
 | nil=>
  rw[P9]at hC;subst hC
  (repeat refine b9 ?_)
  refine dK ([xL gw t n vp vt vo dD,wk vt []]) (.calm 0 (.calm 1 (.calm 2 (.calm 3 (.calm 4 (.calm 5 (.calm 6 (.calm 7 (.calm 8 (.calm 9 (.calm 10 (.calm 11 (.calm 12 (.calm 13 (.calm 14 (.calm 15 (.calm 16 (.calm 17 (.calm 18 (.calm 19 (.calm 20 (.done)))))))))))))))))))))) (bV [0,1]) ?_
  repeat(first|(refine GN ?_;first|refine QW QP ?_|refine QW (aC (v:=vt) aK.ty I (aH (i:=0) I I)) ?_|refine QW (eR (i:=1) bL.eq I I) ?_|refine QW (dP (b:=aE) I I I) ?_|refine GX ?_)|refine GW ?_)
  try refine GA ?_
  exact cJ I I λw hm=>hm.cB (S:=clS gw t n vp ([],out,dD,aD)) (vt,vo) trivial [0,1,2] aiz I
 | cons d r=>
  simp only[c_]at h1;refine xp (i:=1) I (by simp) λg cap hv q1 q2=>?_;subst hv;simp only[c_]at*
  cases d with
  | sym x=>
   rw[P_]at hC;subst hC
   (repeat refine b9 ?_)
   refine dK ([xL gw t n vp (ap (aj ⟨g,0,ak⟩) (r.length+1) cap) vo dD,wk (ap (aj ⟨g,0,ak⟩) (r.length+1) cap) (.sym x::r)]) (.calm 0 (.calm 1 (.calm 2 (.calm 3 (.calm 4 (.calm 5 (.calm 6 (.calm 7 (.calm 8 (.calm 9 (.calm 10 (.calm 11 (.calm 12 (.calm 13 (.calm 14 (.calm 15 (.calm 16 (.calm 17 (.calm 18 (.calm 19 (.calm 20 (.done)))))))))))))))))))))) (bV [0,1]) ?_
   repeat(first|(refine GN ?_;first|refine QW QP ?_|refine QW (aC (v:=ap (aj ⟨g,0,ak⟩) (r.length+1) cap) aK.ty I (aH (i:=0) I I)) ?_|refine QW (aC (v:= .bool aE) aK.ty I (Bv (i:=1) I 0 _ I)) ?_|refine QW (eC (r:=(r.length:Int)) I I J J J) ?_|refine QW (aX (j:=r.length) bL.eq aK.ty I I J) ?_|refine GX ?_)|refine GW ?_)
   try refine GA ?_
   exact cJ I I λw hm=>hm.cB (S:=clS gw t n vp (.sym x::r,out,dD,aD)) (_,vo) trivial [0,1,2] aiz I
  | close p=>
   (repeat refine b9 ?_)
   refine dK ([xL gw t n vp (ap (aj ⟨g,0,ak⟩) (r.length+1) cap) vo dD,wk (ap (aj ⟨g,0,ak⟩) (r.length+1) cap) (.close p::r)]) (.calm 0 (.calm 1 (.calm 2 (.calm 3 (.calm 4 (.calm 5 (.calm 6 (.calm 7 (.calm 8 (.calm 9 (.calm 10 (.calm 11 (.calm 12 (.calm 13 (.calm 14 (.calm 15 (.calm 16 (.calm 17 (.calm 18 (.calm 19 (.calm 20 (.done)))))))))))))))))))))) (bV [0,1]) ?_
   repeat(first|(refine GN ?_;first|refine QW QP ?_|refine QW (aC (v:=ap (aj ⟨g,0,ak⟩) (r.length+1) cap) aK.ty I (aH (i:=0) I I)) ?_|refine QW (aC (v:= .bool aD) aK.ty I (Bv (i:=1) I 0 _ I)) ?_|refine QW (eC (r:=(r.length:Int)) I I J J J) ?_|refine QW (aX (j:=r.length) bL.eq aK.ty I I J) ?_|refine GX ?_)|refine GW ?_)
   try refine GA ?_
   refine bx [0,1] [2] aiz I I (iM aI.en I I) (λw hm hb=>AV gw t n vp _ vo (.close p) r dD w _ J hb) I I I ?_;intro og _;refine zL ?_;dsimp only
   repeat(first|refine GA ?_|refine gV (Ra I (Tq (.close p))) ?_)
   refine bx [1,0] [2] aiz I I (sZ aI.en I I I I) (λw hm hb=>AU gw t n vp og vo out dD 3 p w _ J J hb) I I I ?_;intro EM _;refine zL ?_;dsimp only
   by_cases c:dD+1<=2000
   ·rw[P' p r out c]at hC
    rw[decide_eq_true (show((dD+1:Nat):Int)<=2000 by omega)]
    try refine GA ?_
    refine dh [1,0,2] ?_;exact bW (r,out++[(3,p)],dD+1,og,EM) ⟨hC,(by show r.length<=100000;omega),c,by simp[h3]⟩ (by show r.length<r.length+1;omega)
   rw[Uw p r out c]at hC;subst hC;rw[decide_eq_false (show ¬((dD+1:Nat):Int)<=2000 by omega)]
   try refine GA ?_
   exact cJ I I λw hm=>hm.cB (S:=clS gw t n vp (r,out++[(3,p)],dD+1,aE)) (og,EM) trivial [1,0,2] aiz I
theorem JG(r:List TD)(d:TD):(r.reverse.flatMap wy)++wy d=(d::r).reverse.flatMap wy:=by simp
def stO(p:Nat)(r:List TD)(body:List dv)(j:Nat):List TD:=(body.drop (body.length-j)).map .sym++ .close (p:Int)::r
theorem agm(p:Nat)(r:List TD)(body:List dv):stO p r body 0= .close (p:Int)::r:=by unfold stO;rw[Nat.sub_zero,AI];rfl
theorem ab3(p:Nat)(r:List TD)(body:List dv):stO p r body body.length=body.map .sym++ .close (p:Int)::r:=by unfold stO;rw[nT,nh]
theorem Zs(p:Nat)(r:List TD){body:List dv}{k:Nat}(hk:k<body.length):stO p r body (body.length-k)= .sym body[k]::stO p r body (body.length-k-1):=by
 unfold stO;rw[show body.length-(body.length-k)=k by omega,show body.length-(body.length-k-1)=k+1 by omega,eI hk];rfl
def opS(gw:Nat)(t n:Int)(vp:Value)(st:List TD)(out:List dv)(dD:Nat):Spec (Value×Value):=⟨λ_=>True,λ_=> .bool (decide (dD<=2000/\st.length<=60)),λx=>[xL gw t n vp x.1 x.2 dD,wk x.1 st,kM x.2 out]⟩
attribute [local irreducible] Instr.build in
theorem Qa(w0:World)(gw:Nat)(t n:Int)(vp:Value)(aF:List aT.Prod)(hG:jQ nY (λk=>k<w0.heap.size) w0 vp aF)(hlen:aF.length<=100000)(p:Nat)(hp:p<aF.length)(h8:aF[p].2.length<=8)(vt vo:Value)(d:TD)(r:List TD)(out:List dv)(dD:Nat)(w:World)(B:bR)(h1:r.length<=100)(h2:dD<=2000)(h3:out.length=dD)(ho:pC w0 B)(hm:Mem B [xL gw t n vp vt vo dD,wk vt (d::r),kM vo out] w):
 Calls aB 137 #[aJ (aj ⟨gw,0,ak⟩),av az (p:Int)] w (dc (opS gw t n vp (opened aF p r) (out++[(1,(p:Int))]) (dD+1)) B):=by
 obtain⟨bp,cp,rfl,Ix,Fj,nZ⟩:=hG;unfold maxLen at Fj;obtain⟨b,off,rfl,_,hr⟩:=nZ J;obtain⟨bb,cb,y1,y2,y3⟩:=lx hr hp;have R5:opened aF (p:Int) r=aF[p].2.map .sym++ .close (p:Int)::r:=by unfold opened db;rw[dB,cH,bD hp];rfl
 rw[R5];clear R5 nZ hr;have IP:∀(L:List b_),At B L ⟨b,off+p*2+1,ak⟩ (.slice bb aF[p].2.length cb):=λL=>iw ho (y1 1 _ I);have wo:=y3.flat aiz;generalize aF[p].2=body at*;clear y1 y2 y3;obtain⟨b2,cb2,he,hb4,hb5,hb6⟩:=wo;simp only[iT,true_and]at he;obtain⟨rfl,rfl⟩:=he;refine dA hm (args:=[aJ (aj ⟨gw,0,ak⟩),av az (p:Int)]) (n:=61) Tryz.func137 I I I ?_;clear hm
 try refine GA ?_
 refine bx [0,1] [2] aiz I I (iM aI.en I I) (λw hm hb=>AV gw t n _ vt vo d r dD w _ J hb) I I I ?_;intro Zt _;refine zL ?_;dsimp only;refine aU (i:=2) I λkK lz=>?_
 repeat(first|refine GA ?_|refine gV (aC aK.ty I (aH (i:=1) I I)) ?_|refine gV (bB I (Tp _)) ?_)
 refine jk (i:=2) I I I I I I I (λz h=>by cases h;rfl) J J I λz' R6=>?_;refine zL ?_;refine aU (i:=2) I λkK lz=>?_
 try refine GA ?_
 refine bU (i:=1) I I I kK lz I ?_;rw[show(Lb t n (ap (aj ⟨b,off,ak⟩) aF.length cp) Zt vo dD).setIfInBounds (0+3) R6=Lb t n (ap (aj ⟨b,off,ak⟩) aF.length cp) R6 vo dD from I];refine zL ?_
 repeat(first|refine GC ?_|refine gV (aC (v:=ap (aj ⟨b,off,ak⟩) aF.length cp) aK.ty I (aH (i:=1) I I)) ?_|refine gV (aX bL.eq aK.ty I I hp) ?_|refine gV (aC aK.ty I (IP _)) ?_|refine gV (eC (r:=(body.length:Int)-1) I I J J I) ?_|refine GB ?_)
 rw[JG r (.close (p:Int))];refine nO (ι:=Nat×Value) (λ(j,_)=>j<=body.length) (λ(j,_)=>[(0,aJ (aj ⟨gw,0,ak⟩)),(1,av az (p:Int)),(5,ap bb body.length cb),(6,av az (((body.length-j:Nat):Int)-1))])
  (λ(j,vt)=>[kM vo out,xL gw t n (ap (aj ⟨b,off,ak⟩) aF.length cp) vt vo dD,a_ 159 4 vt (r.length+1+j) ((stO p r body j).reverse.flatMap wy)]) (λ(j,_)=>body.length-j) (0,R6) (bH _) (by repeat' (first|exact cI|refine cC I ?_)) (by dsimp only;rw[agm]) ?_
 rintro⟨j,R7⟩ hj;dsimp only at hj⊢
 by_cases c:j<body.length
 ·obtain⟨b4,ait,rfl,hr4⟩:=hb6 J
  have hk:body.length-1-j<body.length:=by omega
  have TK:=λL=>tM (W:=B) (L:=L) (f:=ep) (c:=2) (λ_=>rfl) (λq x hq=>iw ho (hr4 q x hq)) hk;have hst:=Zs p r hk;rw[show body.length-(body.length-1-j)=j+1 by omega,Nat.add_sub_cancel]at hst;rw[show(((body.length-j:Nat):Int)-1)=((body.length-1-j:Nat):Int)by omega];generalize body[body.length-1-j]=x at*;obtain⟨xq,xm⟩:=x;refine acJ (i:=2) I λkK lz=>?_
  repeat(first|refine GC ?_|refine gV (eN (b:=aD) I I (decide_eq_true J)) ?_|refine GB ?_)
  refine dK ([]) (.calm 0 (.calm 1 (.calm 2 (.calm 3 (.calm 5 (.calm 6 (.calm 7 (.calm 8 (.calm 9 (.two 4 (.one 10 (.one 11 (.calm 12 (.calm 13 (.one 14 (.done)))))) 10 (.one 4 (.one 11 (.calm 12 (.calm 13 (.one 14 (.done)))))))))))))))) (bV []) ?_
  repeat(first|refine GW ?_|(refine GN ?_;first|refine QW (aX (j:=body.length-1-j) bL.eq aK.ty I I hk) ?_|refine QW (a8 aK.ty I I (TK _)) ?_|refine QW (bB I (GU (xq,xm))) ?_))
  refine ez I I ?_ ?_
  ·refine du (aC (v:=R7) aK.ty I (aH (i:=1) I I)) I I I (aM (bV []) ?_)
   refine aL I (fm (cs:=(wy (.sym (xq,xm))).toArray) [Ke (.sym (xq,xm))] I I I (by intro v hv;simp at hv;subst hv;rfl) I I I λg46=>(aM (bV []) ?_));refine aL I (eD (i:=2) (k:=1) (ys:=wy (.sym (xq,xm))) I (kX (i:=3) I (λj u h=>by simpa using h) (bm 1) aiz) I I I (λu hu=>ID [.sym (xq,xm)] u (by simpa using hu)) J J I λv'=>(aM (bV []) ?_))
   try refine GW ?_
   refine aL I (aU (i:=2) I λkK lz=>bU (i:=1) I I I kK lz I (aM (bV []) ?_));rw[show(Lb t n (ap (aj ⟨b,off,ak⟩) aF.length cp) R7 vo dD).setIfInBounds (0+3) v'=Lb t n (ap (aj ⟨b,off,ak⟩) aF.length cp) v' vo dD from I]
   try refine GW ?_
   repeat(first|refine GC ?_|refine gV (eC (r:=((body.length-(j+1):Nat):Int)-1) I I J J J) ?_|refine GB ?_)
   refine dh [0,1,2] ?_;exact bW (j+1,v') (by show j+1<=body.length;omega) (by show body.length-(j+1)<body.length-j;omega) (hl:=by dsimp only;rw[hst,<-JG];rfl)
  refine fm (cs:=(wy (.sym (xq,xm))).toArray) [Ke (.sym (xq,xm))] I I I (by intro v hv;simp at hv;subst hv;rfl) I I I λg46=>(aM (bV []) ?_);refine aL I (du (aC (v:=R7) aK.ty I (aH (i:=1) I I)) I I I (aM (bV []) ?_));refine aL I (eD (i:=2) (k:=1) (ys:=wy (.sym (xq,xm))) I (kX (i:=3) I (λj u h=>by simpa using h) (bm 1) aiz) I I I (λu hu=>ID [.sym (xq,xm)] u (by simpa using hu)) J J I λv'=>(aM (bV []) ?_))
  try refine GW ?_
  refine aL I (aU (i:=2) I λkK lz=>bU (i:=1) I I I kK lz I (aM (bV []) ?_));rw[show(Lb t n (ap (aj ⟨b,off,ak⟩) aF.length cp) R7 vo dD).setIfInBounds (0+3) v'=Lb t n (ap (aj ⟨b,off,ak⟩) aF.length cp) v' vo dD from I]
  try refine GW ?_
  repeat(first|refine GC ?_|refine gV (eC (r:=((body.length-(j+1):Nat):Int)-1) I I J J J) ?_|refine GB ?_)
  refine dh [0,1,2] ?_;exact bW (j+1,v') (by show j+1<=body.length;omega) (by show body.length-(j+1)<body.length-j;omega) (hl:=by dsimp only;rw[hst,<-JG];rfl)
 ·obtain rfl:j=body.length:=by omega
  rw[ab3];have Er:(body.map TD.sym++ .close (p:Int)::r).length=r.length+1+body.length:=by simp;omega
  repeat(first|refine GC ?_|refine gV (eN (b:=aE) I I (decide_eq_false J)) ?_|refine GB ?_)
  refine bx [1,0] [2] aiz I I (sZ aI.en I I I I) (λw hm hb=>AU gw t n _ R7 vo out dD 1 (p:Int) w _ J J hb) I I I ?_;intro EM _;refine zL ?_;dsimp only;have fin:∀(x:Bool),x=decide (dD+1<=2000/\(body.map TD.sym++ .close (p:Int)::r).length<=60)->(Value.bool x)=(opS gw t n (ap (aj ⟨b,off,ak⟩) aF.length cp) (body.map .sym++ .close (p:Int)::r) (out++[(1,(p:Int))]) (dD+1)).val (R7,EM):=λx h=>by rw[h];rfl
  rw[Er]at fin
  by_cases c2:dD+1<=2000
  ·rw[decide_eq_true (show((dD+1:Nat):Int)<=2000 by omega)]
   by_cases c3:r.length+1+body.length<=60
   ·repeat(first|refine GC ?_|refine gV (aC (v:=R7) aK.ty I (aH (i:=1) I I)) ?_|refine gV (eR (i:=0) bL.eq I I) ?_|refine gV (zY (b:=aD) I I (decide_eq_true J)) ?_|refine GB ?_)
    refine cJ I I λw hm=>?_;rw[fin aD (by simp[c2,c3])];exact hm.cB (S:=opS gw t n (ap (aj ⟨b,off,ak⟩) aF.length cp) (body.map .sym++ .close (p:Int)::r) (out++[(1,(p:Int))]) (dD+1)) (R7,EM) trivial [1,0,2] aiz (by rw[<-Er];rfl)
   repeat(first|refine GC ?_|refine gV (aC (v:=R7) aK.ty I (aH (i:=1) I I)) ?_|refine gV (eR (i:=0) bL.eq I I) ?_|refine gV (zY (b:=aE) I I (decide_eq_false J)) ?_|refine GB ?_)
   refine cJ I I λw hm=>?_;rw[fin aE (by simp[c3])];exact hm.cB (S:=opS gw t n (ap (aj ⟨b,off,ak⟩) aF.length cp) (body.map .sym++ .close (p:Int)::r) (out++[(1,(p:Int))]) (dD+1)) (R7,EM) trivial [1,0,2] aiz (by rw[<-Er];rfl)
  rw[decide_eq_false (show ¬((dD+1:Nat):Int)<=2000 by omega)]
  try refine GA ?_
  refine cJ I I λw hm=>?_;rw[fin aE (by simp[c2])];exact hm.cB (S:=opS gw t n (ap (aj ⟨b,off,ak⟩) aF.length cp) (body.map .sym++ .close (p:Int)::r) (out++[(1,(p:Int))]) (dD+1)) (R7,EM) trivial [1,0,2] aiz (by rw[<-Er];rfl)
end bZ
namespace bZ
open Go.RowKit cU dM e8
theorem R8(a:e8.TD):(wy a).length=4:=rfl
theorem x8(v:Value)(l:List e8.TD)(w:World)(hs:Sl w v l.length (l.flatMap wy))(oU:FuncId)(first cp:Array Value)(p:e8.TD->Bool)(Fv:Enters aB oU)
 (hp:∀a∈l,∀w',Gr w w'->Calls aB oU (first++#[(aQ (wy a).toArray)]++cp) w' (cz (ret (.bool (p a))) w')):
 Calls aB 161 #[v,.func (.func oU) first cp] w (cz (ret (av az (qP p l))) w):=by
 obtain⟨base,cap,rfl,lm,j0,eL⟩:=hs;unfold maxLen at j0;refine enter (args:=[ap base l.length cap,.func (.func oU) first cp]) (n:=19) Tryz.func161 I I I ?_
 refine GA ?_
 refine dY (ι:=Nat) (λk=>k<=l.length/\∀j (hj:j<l.length),j<k->p l[j]=aE) (λk=>[(0,ap base l.length cap),(1,.func (.func oU) first cp),(7,av az l.length),(8,av az (k:Int))]) (λ_=>[]) (λk=>l.length-k) 0 ⟨by omega,λj hj h=>by omega⟩ ?_;rintro k ⟨h1,h2⟩
 by_cases c2:k<l.length
 ·obtain⟨b,off,rfl,hr⟩:=eL J
  have dz:=gG (L:=([]:List b_)) R8 hr c2;have iz:=hp l[k] (cD c2)
  by_cases c3:p l[k]=aD
  ·rw[qQ c2 c3 h2]
   rw[c3]at iz
   repeat(first|refine GA ?_|refine gV (aX bL.eq aK.ty I I c2) ?_|refine gV (a8 aK.ty I I dz) ?_)
   refine aW (BK Fv I I) (λw hm=>iz w hm.below) I I I ?_;intro _ _
   refine GA ?_
   exact eE
  have Np:p l[k]=false:=by simp_all
  rw[Np]at iz
  repeat(first|refine GA ?_|refine gV (aX bL.eq aK.ty I I c2) ?_|refine gV (a8 aK.ty I I dz) ?_)
  refine aW (BK Fv I I) (λw hm=>iz w hm.below) I I I ?_;intro _ _
  refine GA ?_
  exact bW (k+1) ⟨by omega,λj hj h=>if e:j<k then h2 j hj e else(by grind)⟩ J
 ·rw[qR λj hj=>h2 j hj J]
  refine GA ?_
  exact eE
theorem s_(v:Value)(l:List e8.TD)(w:World)(hs:Sl w v l.length (l.flatMap wy))(oU:FuncId)(first cp:Array Value)(p:e8.TD->Bool)(Fv:Enters aB oU)
 (hp:∀a∈l,∀w',Gr w w'->Calls aB oU (first++#[(aQ (wy a).toArray)]++cp) w' (cz (ret (.bool (p a))) w')):
 Calls aB 133 #[v,.func (.func oU) first cp] w (cz (ret (.bool (l.any p))) w):=by
 refine enter (args:=[v,.func (.func oU) first cp]) (n:=9) Tryz.func133 I I I ?_;have hh:=λw' (hg:Gr w w')=>x8 v l w' (hs.gr hg) oU first cp p Fv λa ha Fg yG=>hp a ha Fg (hg.trans yG);have hr:=oJ p l;rw[<-tN p l];generalize qP p l=r at*
 refine GA ?_
 refine aW (fI aI.en I I I) (λw hm=>hh _ hm.below) I I I ?_;intro _ _
 repeat(first|refine GC ?_|refine gV (eN I I I) ?_|refine GB ?_)
 exact eE
theorem EN(v:Value)(l:List e8.TD)(w:World)(hs:Sl w v l.length (l.flatMap wy))(hl:l.length*40<=140737488355328):
 Calls aB 136 #[v] w (cz (cL 159 4 l.length (l.flatMap wy) id) w):=by
 obtain⟨base,cap,rfl,lm,j0,eL⟩:=hs;unfold maxLen at j0;refine enter (args:=[ap base l.length cap]) (n:=8) Tryz.func136 I I I ?_;have qZ:∀w',Gr w w'->Sl w' (ap base l.length cap) l.length (l.flatMap wy):=λw' hg=>Sl.gr ⟨base,cap,rfl,lm,j0,eL⟩ hg
 cases base with
 | none=>
  repeat(first|refine GC ?_|refine gV (jP bL.eq I I I) ?_|refine GB ?_)
  have h0:l=[]:=by
   simp_all
  subst h0;exact dF 159 4<|cJ I I λw hm=>hm.meets (S:=cL 159 4 0 [] id) _ trivial [0] aiz I
 |some p=>
  repeat(first|refine GC ?_|refine gV (jP bL.eq I I I) ?_|refine GB ?_)
  refine vH I λg=>?_
  refine GA ?_
  refine eD (i:=0) I (λw' hm=>qZ w' hm.below) I I (kW R8 l) (ID l) J J I λv'=>?_;rw[eJ]
  refine GA ?_
  refine cJ I I λw hm=>?_;exact hm.meets (S:=cL 159 4 l.length (l.flatMap wy) id) v' trivial [0] aiz (by simp[cL])
end bZ
namespace bZ
open Go.RowKit cU dM aT dL e8
theorem Qb(w:World):(df 156 (#[]:Array (Nat×Value))).run aB w= .ok (aQ (ep (0,0)).toArray) w:=by
 unfold ep;go_simp
set_option maxRecDepth 100000 in
theorem FZ(g:d_)(b:Option Addr)(cp:Nat)(d:TD)(w:World)(hd:qx g d):Calls aB 135 #[dE g.aR g.bC (ap b g.aF.length cp),Ke d] w (cz (ret (.bool aD)) w):=by
 cases d with
 | close p=>
  obtain⟨h1,h2⟩:=hd;refine enter (args:=[dE g.aR g.bC (ap b g.aF.length cp),Ke (.close p)]) (n:=65) Tryz.func135 I I I<|b9 (bz (bQ I I I λg0=>bQ I I I λg1=>?_))
  repeat(first|refine GC ?_|refine gV (aC (v:= .bool aD) aK.ty I (aH (i:=1) I I)) ?_|refine gV (aC (v:=av az p) aK.ty I (aH (i:=1) I I)) ?_|refine gV (aC aK.ty I (aH (i:=0) I I)) ?_|refine gV (a8 (cs:=ep (0,0)) aK.ty I I (λj v hj=>aH (i:=1) I (by match j,hj with|0,h=>exact h|1,h=>exact h))) ?_|refine gV (bB I (Qb)) ?_|refine gV (C0 (b:=aD) I I (by kernel_rfl) (λw=>by rw[Xm];rfl)) ?_|refine GB ?_)
  exact eE
 | sym x=>
  obtain⟨k,m⟩:=x;have hd:right g.aR g.bC (k,m)=true:=hd;unfold right at hd
  by_cases c1:k=1
  ·subst c1
   rw[if_pos I]at hd;simp only[eV,decide_eq_true_eq]at hd;refine enter (args:=[dE g.aR g.bC (ap b g.aF.length cp),Ke (.sym (1,m))]) (n:=65) Tryz.func135 I I I<|b9 (bz (bQ I I I λg0=>bQ I I I λg1=>?_))
   repeat(first|refine GA ?_|refine gV (aC (v:= .bool aE) aK.ty I (aH (i:=1) I I)) ?_|refine gV (aC (v:=av az 1) aK.ty I (aH (i:=1) I I)) ?_|refine gV (aC (v:=av az 0) aK.ty I (aH (i:=1) I I)) ?_|refine gV (aC (v:=av az m) aK.ty I (aH (i:=1) I I)) ?_|refine gV (aC aK.ty I (aH (i:=0) I I)) ?_)
   exact eE
  rw[if_neg c1]at hd
  by_cases c2:k=2
  ·subst c2
   rw[if_pos I]at hd;simp only[eV,decide_eq_true_eq]at hd;refine enter (args:=[dE g.aR g.bC (ap b g.aF.length cp),Ke (.sym (2,m))]) (n:=65) Tryz.func135 I I I<|b9 (bz (bQ I I I λg0=>bQ I I I λg1=>?_))
   repeat(first|refine GA ?_|refine gV (aC (v:= .bool aE) aK.ty I (aH (i:=1) I I)) ?_|refine gV (aC (v:=av az 2) aK.ty I (aH (i:=1) I I)) ?_|refine gV (aC (v:=av az 0) aK.ty I (aH (i:=1) I I)) ?_|refine gV (aC (v:=av az m) aK.ty I (aH (i:=1) I I)) ?_|refine gV (aC aK.ty I (aH (i:=0) I I)) ?_)
   exact eE
  simp_all
theorem EO(g:d_)(b:Option Addr)(cp:Nat)(d:TD)(gg:Nat)(w:World)(hd:qx g d)(hg:w.heap[gg]?=aj (.cells (dE g.aR g.bC (ap b g.aF.length cp)).cells 34 (0,0))):
 Calls aB 134 #[Ke d,aJ (aj ⟨gg,0,ak⟩)] w (cz (ret (.bool aE)) w):=by
 have hcell:∀(L:List b_) (j:Nat) (v:Value),([av az g.aR,av az g.bC,ap b g.aF.length cp]:List Value)[j]?=aj v->At w L ⟨gg,0+j,ak⟩ v:=λL j v hj=>jX (by
  rw[cell_of_row w gg (0+j) _ _ _ hg,cV];show(#[av az g.aR,av az g.bC,ap b g.aF.length cp]:Array Value)[j]?=aj v
  simp_all)
 have hr:=FZ g b cp d;refine enter (args:=[Ke d,aJ (aj ⟨gg,0,ak⟩)]) (n:=8) Tryz.func134 I I I<|b9 (bz (bQ I I I λg0=>?_))
 repeat(first|refine GL ?_|refine gV (a8 aK.ty I I (hcell _)) ?_)
 refine aW (fI aI.en I I I) (λw hm=>hr w hd) I I I ?_;intro _ _
 refine GA ?_
 exact eE
abbrev TdR(w:World)(vt:Value)(st:List TD):Prop:=Sl w vt st.length (st.reverse.flatMap wy)
theorem rr(v vr vt:Value)(g:d_)(ll:List (List Int))(st:List TD)(seen col:Int)(w:World)(h:jZ (λk=>k<w.heap.size) w v g)(hr:zj w vr ll)(ht:TdR w vt st)(h0:EL g ll=0)(hs:∀d∈st,qx g d)(hl:st.length<=60)(h1:0<=seen)(h2:seen<=1099511627776)(h3:0<=col)(h4:col<=g.aR):
 Calls aB 116 #[v,vr,sO vt seen 0 aE,av az col] w (cz (ret (av az 0)) w):=by
 have iS:=λw' (hg:Gr w w')=>wJ v vr g ll w' (h.gr hg) (hr.gr hg);rw[h0]at iS;obtain⟨vp,rfl,hp,_⟩:=h;obtain⟨bp,cp,rfl,_⟩:=hp;have Kd:=λw' (hg:Gr w w') gg (hb:w'.heap[gg]?=aj (.cells (dE g.aR g.bC (ap bp g.aF.length cp)).cells 34 (0,0)))=>s_ vt st.reverse w' (by rw[List.length_reverse];exact ht.gr hg) 134 #[] #[aJ (aj ⟨gg,0,ak⟩)] (λ_=>aE) aI.en (λa ha Fg yG=>EO g bp cp a gg Fg (hs a (List.mem_reverse.1 ha)) (by rw[yG.block gg (Array.getElem?_eq_some_iff.1 hb).1];exact hb));have EK:st.reverse.any (λ_=>aE)=false:=by simp
 rw[EK]at Kd;obtain⟨bt,ct,rfl,_⟩:=ht;refine enter (args:=[dE g.aR g.bC (ap bp g.aF.length cp),vr,sO (ap bt st.length ct) seen 0 aE,av az col]) (n:=54) Tryz.func116 I I I<|b9 (bz (bQ I I I λg0=>bQ I I I λg1=>?_))
 refine GM ?_
 refine aW (fI aI.en I I I) (λw hm=>iS _ hm.below) I I I ?_;intro _ _;refine zL ?_
 repeat(first|refine GL ?_|refine gV (vJ I I) ?_)
 refine aW (fI aI.en I I I) (λw hm=>Kd _ hm.below _ (hm.get (i:=0) I)) I I I ?_;intro _ _;refine zL ?_
 refine GM ?_
 exact eE
end bZ
end Go.Proofs.YtaobbfedlnddcaaGreat

/- Part 7 of what WholeFront needs: LexB, SmBk, LexN, LrM, LrN, LrP, LrT, SpecG, SpecV, SpecLst, AbcL, SpecOneL, LexV, LexW, LxRl, WhE, Bun, IntS, BuA, BuB, WhL, Mk2, WhO, BuC, Half, WhC, WhM, Fill, WhR, WhF, TkE, GateL, Ev, EvS, WholeFrontW. -/
import Derived.Test.YtdmgcnggnejnnaaGreatMgF
namespace Go.Proofs.YtdmgcnggnejnnaaGreat
set_option linter.unusedVariables false
set_option linter.unusedSimpArgs false
set_option maxHeartbeats 16000000
namespace bK
open Go.RowKit bO dc bT k7
noncomputable def Gb(o:Of)(N:List (List Int))(tags:List Int)(s:List UInt8):List Tok×Nat×Int:=if nG o N tags≠0 then([],0,nG o N tags)else if 2000<s.length then([],0,2)else nJ o N tags s
theorem Dm{o:Of}{N:List (List Int)}{tags:List Int}{s:List UInt8}(h:nG o N tags=0)(hs:s.length<=2000):Gb o N tags s=nJ o N tags s:=by
 unfold Gb;rw[if_neg (by simpa using h),if_neg (by omega)]
abbrev BI(v:Value)(l:List Tok):bI:=aM 53 3 v l.length (l.flatMap iI)
def uN(R:List Tok×Nat×Int):Spec Value:=⟨fun _=>True,fun v=> .tuple #[v,.int .i64 (R.2.1:Int),.int .i64 R.2.2],fun v=>[BI v R.1]⟩
theorem MQ(v:Value)(l:List Tok)(x:Tok):BI v (l++[x])=aM 53 3 v (l.length+1) (l.flatMap iI++iI x):=by
 unfold BI;rw[List.length_append,List.flatMap_append];simp
theorem Uc(t:Tok):∀u∈iI t,u.oneCell'=true:=by
 intro u h;simp only[iI,List.mem_cons,List.not_mem_nil,or_false]at h;rcases h with rfl|rfl|rfl<;>rfl
theorem BJ(o:Of)(vn vt:Value)(N:List (List Int))(tags:List Int)(s:List UInt8)(w:World)(h:T4 w vn vt N tags)(ho:∀b (h:b<256),o[b]<256)(hs:s.length<=9223372036854775807):
 Calls Tryz.prog 15 #[GR o vn vt,str s] w (bM (uN (Gb o N tags s)) w):=by
 have gd:=fun w' (hg:Gr w w')=>zm o vn vt N tags s w' (h.gr hg) ho hs;have mb:=fun hg hs (fr:Nat) hf w' (s7:Gr w w')=>Dl o vn vt N tags s fr w' (h.gr s7) hg hs hf;have hA0:=fun h=>Dm (o:=o) (N:=N) (tags:=tags) (s:=s) h;obtain⟨⟨an,cn,rfl,-⟩,at',ct,rfl,-⟩:=h
 by_cases c1:nG o N tags=0
 case neg=>
  have hA:Gb o N tags s=([],0,nG o N tags):=if_pos c1;rw[if_pos c1]at gd;rw[hA];clear hA0 hA mb;generalize nG o N tags=e at*;refine enter (args:=[GR o (.slice an N.length cn) (.slice at' tags.length ct),str s]) (n:=40) Tryz.func15 rfl rfl rfl ?_;refine a8 (aL (a_ rfl rfl rfl fun g2=>?_));refine zL ?_
  repeat(first|refine GA ?_|refine gV (az (i:=0) ak.ty rfl rfl (gU _ _ _)) ?_)
  refine aI (eK aj.en rfl rfl rfl) (fun w hm=>gd _ hm.below) rfl rfl rfl ?_;intro _ _;refine zL ?_
  repeat(first|refine GC ?_|refine gV (bm (b:=true) rfl rfl (decide_eq_true c1)) ?_|refine GB ?_)
  refine dq 53 3 ?_;exact j0 rfl rfl rfl rfl fun w hm=>hm.meets (S:=uN ([],0,e)) (.slice none 0 0) trivial [1] (by decide) rfl
 by_cases c2:2000<s.length
 ·have hA:Gb o N tags s=([],0,2):=by unfold Gb;rw[if_neg (by simpa using c1),if_pos c2]
  rw[if_neg (by simpa using c1),if_pos c2]at gd;rw[hA];clear hA0 hA mb;refine enter (args:=[GR o (.slice an N.length cn) (.slice at' tags.length ct),str s]) (n:=40) Tryz.func15 rfl rfl rfl ?_;refine a8 (aL (a_ rfl rfl rfl fun g2=>?_));refine zL ?_
  repeat(first|refine GA ?_|refine gV (az (i:=0) ak.ty rfl rfl (gU _ _ _)) ?_)
  refine aI (eK aj.en rfl rfl rfl) (fun w hm=>gd _ hm.below) rfl rfl rfl ?_;intro _ _;refine zL ?_
  repeat(first|refine GC ?_|refine gV (bm (b:=true) rfl rfl (decide_eq_true (by decide))) ?_|refine GB ?_)
  refine dq 53 3 ?_;exact j0 rfl rfl rfl rfl fun w hm=>hm.meets (S:=uN ([],0,2)) (.slice none 0 0) trivial [1] (by decide) rfl
 rw[if_neg (by simpa using c1),if_neg c2]at gd;have mb:=mb (MH c1) (by omega);rw[hA0 c1 (by omega)];unfold nJ;clear hA0 c1;refine enter (args:=[GR o (.slice an N.length cn) (.slice at' tags.length ct),str s]) (n:=40) Tryz.func15 rfl rfl rfl ?_;refine a8 (aL (a_ rfl rfl rfl fun g2=>?_));refine zL ?_
 repeat(first|refine GA ?_|refine gV (az (i:=0) ak.ty rfl rfl (gU _ _ _)) ?_)
 refine aI (eK aj.en rfl rfl rfl) (fun w hm=>gd _ hm.below) rfl rfl rfl ?_;intro _ _;refine zL ?_;clear gd
 repeat(first|refine GC ?_|refine gV (bm (b:=false) rfl rfl (decide_eq_false (by simp))) ?_|refine GB ?_)
 refine g_ 53 3 ?_;generalize iO:jv o N tags s (s.length+1) 0=fin;refine dv (ι:=Nat×List Tok×Value×Nat) (fun(a,l,_,f)=>a<=s.length/\l.length<=a/\s.length<a+f/\fin=(l++(jv o N tags s f a).1,(jv o N tags s f a).2)) (fun(a,_,v,_)=>[(1,str s),(2,.pointer (some ⟨g2,0,none⟩)),(8,v),(9,.int .i64 (a:Int))])
  (fun(_,l,v,_)=>[aw g2 (fE o (.slice an N.length cn) (.slice at' tags.length ct)).toArray 30,BI v l]) (fun(a,_,_,_)=>s.length-a) (0,[],.slice none 0 0,s.length+1) ⟨Nat.zero_le _,Nat.zero_le _,by omega,by rw[iO];rfl⟩ ?_
 clear iO;rintro⟨a,l,v,f⟩ ⟨i1,i2,i3,i4⟩;dsimp only at i1 i2 i3 i4⊢
 by_cases c1:a<s.length
 ·obtain⟨f,rfl⟩:∃f',f=f'+1:=⟨f-1,by omega⟩
  rw[me,if_pos c1]at i4;have ht:=Kw (o:=o) (N:=N) (tags:=tags) (s:=s) (fr:=a) (by omega);have mb:=mb a (by omega);generalize jg o N tags s a=x at*;obtain⟨r,t⟩:=x;dsimp only at i4 ht;unfold Ub at mb
  by_cases q1:t=0
  ·subst q1
   rw[if_pos rfl]at i4 mb;subst i4
   repeat(first|refine GA ?_|refine gV (az (i:=0) ak.ty rfl rfl (gU _ _ _)) ?_)
   refine aI (sB aj.en rfl rfl rfl rfl) (fun w hm=>mb _ hm.below) rfl rfl rfl ?_;intro _ _;refine zL ?_
   try refine GA ?_
   refine aK rfl fun g10=>?_;refine zL ?_;refine fa 2 (cs':=(iI (0,0,0)).toArray) ?_;refine zL ?_
   try refine GA ?_
   exact j0 rfl rfl rfl rfl fun w hm=>hm.meets (S:=uN (l++[],a,9)) v trivial [1] (by decide) (by unfold uN;simp)
  ·rw[if_neg q1]at i4 mb
   dsimp only at mb;have ht:=ht.resolve_left q1
   repeat(first|refine GA ?_|refine gV (az (i:=0) ak.ty rfl rfl (gU _ _ _)) ?_)
   refine aI (sB aj.en rfl rfl rfl rfl) (fun w hm=>mb _ hm.below) rfl rfl rfl ?_;intro _ _;refine zL ?_
   try refine GA ?_
   refine aK rfl fun g10=>?_;refine zL ?_;refine fa 2 (cs':=(iI (r,a,t)).toArray) ?_;refine zL ?_
   try refine GA ?_
   refine cU ([aw g10 (iI (r,a,t)).toArray 53]) (.calm 0 (.calm 1 (.calm 4 (.calm 5 (.one 2 (.one 3 (.calm 6 (.calm 7 (.done))))))))) (bz [2]) ?_
   repeat(first|refine GW ?_|(refine GN ?_;first|refine QW (az (i:=0) ak.ty rfl rfl rfl) ?_|refine QW (J (v:= .int .i64 (t:Int)) ak.ty rfl (ah (i:=0) rfl rfl)) ?_))
   refine ap rfl (dT (cs:=(iI (r,a,t)).toArray) [.agg (iI (r,a,t)).toArray] rfl rfl rfl (by intro v hv;simp at hv;subst hv;rfl) rfl rfl rfl fun g35=>(av (bz [2]) ?_));refine ap rfl (dw (i:=1) (e:=53) (size:=3) (bytes:=24) (m:=l.length) (xs:=l.flatMap iI) (k:=1) (ys:=iI (r,a,t)) rfl (iA (i:=3) rfl (fun j u h=>by simpa using h) (Nat.le_refl 1) (by decide)) rfl rfl rfl (fun u hu=>Uc _ u hu) (by omega) (by omega) rfl fun v'=>(av (bz [2]) ?_))
   try refine GW ?_
   try refine GA ?_
   refine cD [0,1] ?_;exact bB (t,l++[(r,a,t)],v',f) ⟨ht.2,by show(l++[_]).length<=t;rw[List.length_append,List.length_singleton];omega,by show s.length<t+f;omega,by rw[i4];simp⟩ (by show s.length-t<s.length-a;omega) (hl:=by dsimp only;rw[MQ];rfl)
 ·have e:jv o N tags s f a=([],0,0):=by
   cases f with
   |zero=>rfl
   |succ f=>rw[me,if_neg c1]
  rw[e]at i4;subst i4
  try refine GA ?_
  exact j0 rfl rfl rfl rfl fun w hm=>hm.meets (S:=uN (l++[],0,0)) v trivial [1] (by decide) (by unfold uN;simp)
end bK
namespace bK
open Go.RowKit bO dc sW bT
theorem gZ(R:List Row):(Ip R).length=R.length:=by unfold Ip;simp
theorem xg(R:List Row){i:Nat}(h:i<R.length):(Ip R)[i]'(by rw[gZ];exact h)=tW (jS R 256) i:=by unfold Ip;simp
theorem Ud(D:List wY)(i:Nat){j:Nat}(h:j<D.length):(tW D i).getD j 0=(D[j]).toList.getD i 0:=by
 unfold tW;rw[List.getD_eq_getElem?_getD,List.getElem?_map,List.getElem?_eq_getElem h];rfl
theorem Ue(R:List Row)(hle:R.length<=200){i b:Nat}(hi:i<R.length)(hb:b<256):(tW (jS R 256) i).getD (P0 R b) 0=ep R i b:=by
 have hm:=xc R hb;unfold P0;generalize jS R 256=D at*;rw[Ud _ _ (iX hm),qK (iX hm),yZ R b i hi hle]
theorem Uf(o:Of)(N:List (List Int)){i:Nat}(h:i<N.length):(T3 o N)[i]'(by rw[Km];exact h)=Vector.ofFn fun b:Fin 256=>N[i].getD o[b] 0:=by
 unfold T3;rw[List.getElem_map]
theorem aao(R:List Row)(hle:R.length<=200):T3 (ph R 256) (Ip R)=R:=by
 refine List.ext_getElem (by rw[Km,gZ]) fun i h1 h2=>?_;have hi:i<R.length:=h2;rw[Uf _ _ (by rw[gZ];exact hi),xg R hi];refine Vector.ext fun b hb=>?_;rw[Vector.getElem_ofFn];have e:(ph R 256)[b]'hb=P0 R b:=by
  unfold ph;rw[Vector.getElem_ofFn];simp[hb]
 show(tW (jS R 256) i).getD ((ph R 256)[b]'hb) 0=_
 rw[e,Ue R hle hi hb,nE hi hb]
theorem Ug{R:List Row}{c:wY}(h:c∈jS R 256):∃b,b<256/\c=mW R b:=by
 unfold jS at h;rcases iD.1 h with h|h
 ·cases h
 ·obtain⟨b,hb,rfl⟩:=List.mem_map.1 h
  exact⟨b,by simpa using hb,rfl⟩
theorem Xy{R:List Row}{tags:List Int}(h:iL R tags=0){i:Nat}(hi:i<R.length){x:Int}(hx:x∈tW (jS R 256) i): -1<=x/\x<R.length:=by
 obtain⟨hA,_⟩:=kO h;unfold tW at hx;obtain⟨c,hc,rfl⟩:=List.mem_map.1 hx;obtain⟨b,hb,rfl⟩:=Ug hc;rw[yZ R b i hi hA.le,nE hi hb];have:=hA.step i hi b hb;rw[Fi hi hb]at this;exact this
theorem Vt{R:List Row}{tags:List Int}(h:iL R tags=0):Qv (ph R 256) (Ip R) tags (jS R 256).length:=by
 obtain⟨hA,hl⟩:=kO h;have hle:R.length<=200:=hA.le;refine⟨by rw[gZ];exact hA.pos,by rw[gZ];exact hle,by rw[gZ];exact hl,List.length_pos_of_mem (xc R (show 0<256 by decide)),w_ R 256,fun i hi=>?_,fun i hi=>?_,fun i hi j hj=>?_,fun b hb=>?_⟩
 ·rw[gZ]at hi
  rw[xg R hi];unfold tW;rw[List.length_map]
 ·have:=hA.tags i (show i<R.length by omega)
  rw[tC hi]at this;exact this
 ·have lg:i<R.length:=by rw[gZ]at hi;exact hi
  have e:=xg R lg;have hx:(Ip R)[i][j]∈tW (jS R 256) i:=e▸List.getElem_mem hj;rw[gZ];exact Xy h lg hx
 ·have e:(ph R 256)[b]'hb=P0 R b:=by
   unfold ph;rw[Vector.getElem_ofFn];simp[hb]
  rw[e];exact P1 R hb
end bK
namespace k7
open Go.RowKit bO dc bK bT
def Nl(nx:Int->UInt8->Int)(tags:List Int):List UInt8->Nat->Int->Int->Nat->Int×Nat
  |[],_,_,r,t=>(r,t)
  | b::s,i,now,r,t=>
    if nx now b<0 then(r,t)
    else if 0<=tags.getD (nx now b).toNat 0 then Nl nx tags s (i+1) (nx now b) (tags.getD (nx now b).toNat 0) (i+1)
    else Nl nx tags s (i+1) (nx now b) r t
theorem uO{nx J0:Int->UInt8->Int}{tags:List Int}{n:Nat}(h:∀(q:Nat),q<n->∀b,nx q b=J0 q b/\ -1<=nx q b/\nx q b<n):∀(s:List UInt8) (i q:Nat) (r:Int) (t:Nat),q<n->Nl nx tags s i q r t=Nl J0 tags s i q r t
  |[],_,_,_,_,_=>rfl
  | b ::s,i,q,r,t,hq=>by
    obtain⟨h1,h2,h3⟩:=h q hq b;unfold Nl;rw[<-h1]
    by_cases c:nx q b<0
    · rw[if_pos c,if_pos c]
    · rw[if_neg c,if_neg c]
      obtain⟨z,hz⟩:=Int.eq_ofNat_of_zero_le (show 0<=nx q b by omega);rw[hz]at h3⊢;rw[uO h s (i+1) z _ _ (by omega),uO h s (i+1) z _ _ (by omega)]
theorem Dn(o:Of)(N:List (List Int))(tags:List Int):∀(s:List UInt8) (i:Nat) (now r:Int) (t:Nat),mc o N tags s i now r t=Nl (wB o N) tags s i now r t
 |[],_,_,_,_=>rfl
 |b::s,i,now,r,t=>by
  rw[oD,Nl,Dn o N tags s,Dn o N tags s]
def Xz(R:List Row)(now:Int)(b:UInt8):Int:=(R.getD now.toNat qi).toList.getD b.toNat 0
theorem XA{o:Of}{N:List (List Int)}{tags:List Int}(h:jL o N tags){q:Nat}(hq:q<N.length)(b:UInt8):wB o N (q:Int) b=Xz (T3 o N) q b:=by
 obtain⟨_,hw,e,_⟩:=IV h hq b;rw[e];unfold Xz T3;rw[Int.toNat_natCast,List.getD_eq_getElem?_getD (l:=List.map _ _),List.getElem?_map,List.getElem?_eq_getElem hq,Option.map_some,Option.getD_some,List.getD_eq_getElem?_getD,List.getElem?_eq_getElem (by simpa using b.toNat_lt),Option.getD_some,Vector.getElem_toList,Vector.getElem_ofFn];show _=N[q].getD (o[b.toNat]'b.toNat_lt) 0
 rw[List.getD_eq_getElem?_getD,List.getElem?_eq_getElem hw];rfl
def o_(R:List Row)(tags:List Int)(s:List UInt8)(fr:Nat):Int×Nat:=Nl (Xz R) tags (s.drop fr) fr 0 0 0
theorem QN{o:Of}{N:List (List Int)}{tags:List Int}(h:jL o N tags)(s:List UInt8)(fr:Nat):jg o N tags s fr=o_ (T3 o N) tags s fr:=by
 unfold jg o_;rw[Dn];exact uO (n:=N.length) (fun q hq b=>⟨XA h hq b,(IV h hq b).2.2.2⟩) _ fr 0 0 0 h.pos
def ra(R:List Row)(tags:List Int)(s:List UInt8):Nat->Nat->List Tok×Nat×Int
 |0,_=>([],0,0)
 |f+1,at'=>if at'<s.length then(if(o_ R tags s at').2=0 then([],at',9)else((((o_ R tags s at').1,at',(o_ R tags s at').2)::(ra R tags s f (o_ R tags s at').2).1),(ra R tags s f (o_ R tags s at').2).2))else([],0,0)
theorem Gc{o:Of}{N:List (List Int)}{tags:List Int}(h:jL o N tags)(s:List UInt8):∀f at',jv o N tags s f at'=ra (T3 o N) tags s f at'
 |0,_=>rfl
 |f+1,at'=>by rw[me,ra,QN h,Gc h s f]
theorem MU{o:Of}{N:List (List Int)}{tags:List Int}(h:jL o N tags)(s:List UInt8):nJ o N tags s=ra (T3 o N) tags s (s.length+1) 0:=Gc h s _ _
end k7
namespace bK
open Go.RowKit bO dc bT
theorem Mem.pkI{B:bC}{w:World}{L:List bI}{i j k g:Nat}{R:List Row}{tags:List Int}{vs:Nat->Value}{vt:Value}(hm:Mem B L w)(hi:L[i]?=some (dU 26 so g R.length vs))(hj:L[j]?=some (Mz R.length (jS R 256) vs))(hk:L[k]?=some (aM 3 1 vt tags.length (tags.flatMap bO.dB)))(hc:iL R tags=0):
 T4 w (.slice (some ⟨g,0,none⟩) R.length R.length) vt (Ip R) tags:=by
 have h1:(dU 26 so g R.length vs).holds w:=hm.get hi;have h2:(Mz R.length (jS R 256) vs).holds w:=hm.get hj;have ok:=Vt hc;refine⟨⟨some ⟨g,0,none⟩,R.length,by rw[gZ],by rw[gZ];exact Nat.le_refl _,by have:=ok.le;rw[gZ]at this;unfold maxLen;omega,fun h0=>⟨g,0,rfl,?_,fun i hi=>⟨[vs i],⟨vs i,rfl,?_⟩,fun j u hj=>?_⟩⟩⟩,fW hk _ hm⟩
 ·rw[gZ]at h0
  exact World.block_lt_of_cell? w _ (uk h1 h0)
 ·have K9:i<R.length:=by rw[gZ]at hi;exact hi
  have h3:(aM 3 1 (vs i) (jS R 256).length ((tW (jS R 256) i).flatMap bO.dB)).holds w:=h2.1 i K9;have h4:Sl w (vs i) (jS R 256).length ((tW (jS R 256) i).flatMap bO.dB):=Sl.cI h3;have e:(Ip R)[i]=tW (jS R 256) i:=xg R K9;have hl:(tW (jS R 256) i).length=(jS R 256).length:=List.length_map ..;refine iB.of_flat (by rw[e,hl];exact h4) (fun x hx=>?_) (fun b hb=>?_) fun a n cp hv=>?_
  ·obtain⟨q,hq,rfl⟩:=List.mem_iff_getElem.1 hx
   have:=ok.Va i hi q hq;have:=ok.le;exact⟨by omega,by omega⟩
  ·exact bI.lt _ w h3 b (.inl hb)
  ·exact bI.lt _ w h3 a.block (.inl (by rw[hv];rfl))
 ·have K9:i<R.length:=by rw[gZ]at hi;exact hi
  have Wt:j=0:=by have:=(List.getElem?_eq_some_iff.1 hj).1;simp at this;exact this
  subst Wt;simp only[List.getElem?_cons_zero,Option.some.injEq]at hj;subst hj;have:=uk h1 K9;show w.cell? ⟨g,0+i*1+0,none⟩=some (vs i)
  rw[Nat.mul_one,Nat.add_zero];exact this
theorem Kx(R:List Row):∀b (h:b<256),(ph R 256)[b]<256:=fun b hb=>by
 have e:(ph R 256)[b]'hb=P0 R b:=by
  unfold ph;rw[Vector.getElem_ofFn];simp[hb]
 rw[e];exact Ki R hb
theorem Dp{R:List Row}{tags:List Int}(h:iL R tags=0):jL (ph R 256) (Ip R) tags:=by
 have ok:=Vt h;have:((Ip R).headD []).length=(jS R 256).length:=by
  have h0:=ok.pos;have:=ok.row 0 h0
  cases hR:Ip R with
  |nil=>rw[hR]at h0;simp at h0
  |cons x r=>simp only[hR]at this;exact this
 unfold jL;rw[this];exact ok
end bK
namespace aY
open aB dy eo cL bT
open wk (yh)
section
variable{l:List aB.Prod}{T N:Nat}{lk:Int->Int->Nat}{Nx:List (List Int)}{S:List (List Item)}{w:List Int}
variable{E R M:List Bool}{F W:List Nat}
theorem Ge(hI:L6 l T N lk S.length Nx S){q:Nat}(hq:q<S.length):∀it∈S.getD q [],dl l T it:=by
 have sd:S.getD q []=S[q]:=by rw[List.getD_eq_getElem?_getD,List.getElem?_eq_getElem hq];rfl
 rw[sd];exact hI.ss.right _ (List.getElem_mem hq)
end
end aY
namespace aY
open aB dy eo cL bT rX
open wk (yh)
section
variable{l:List aB.Prod}{T N:Nat}{lk:Int->Int->Nat}{Nx:List (List Int)}{S:List (List Item)}
inductive Stk(l:List aB.Prod)(T N:Nat)(lk:Int->Int->Nat)(S:List (List Item)):List Nat->List (cg×Tree)->Nat->Prop
 |start:Stk l T N lk S [0] [] 0
 |push {q s:Nat} {σ:List Nat} {ts:List (cg×Tree)} {a:Nat} {x:cg} {t:Tree} (h:Stk l T N lk S (q::σ) ts a) (hs:s<S.length) (hx:S.getD s []=fL l T lk (S.getD q []) x) (hne:fL l T lk (S.getD q []) x≠[]) (ht:AT l t x a):Stk l T N lk S (s::q::σ) ((x,t)::ts) (a+leaves t)
theorem Stk.len{σ:List Nat}{ts:List (cg×Tree)}{a:Nat}(h:Stk l T N lk S σ ts a):σ.length=ts.length+1:=by
 induction h with
 |start=>rfl
 |push _ _ _ _ _ ih=>rw[List.length_cons,ih,List.length_cons]
section
end
end
end aY
namespace aY
open aB dy eo cL bT rX
open wk (yh)
section
variable(l:List aB.Prod)(act:Nat->Nat->Act)(gt:Nat->Int->Int)
def zo(σ:List Nat)(p:Int):Option (List Nat):=match σ.drop (bU l p).2.length with
 |r::ρ=>if 0<=gt r (bU l p).1 then some ((gt r (bU l p).1).toNat::r::ρ)else none
 |[]=>none
def fC(col a:Nat):Nat->List Nat->List cg->Int×List Nat×List cg
  |0,_,_=>(14,[],[])
  | f +1,σ,o=>
    if f=0/\(act (σ.headD 0) col).1≠0 then(14,[],[])
    else if(act (σ.headD 0) col).1=3 then(0,σ,o)
    else if(act (σ.headD 0) col).1=1 then(if 60<σ.length+1 then(14,[],[])else(0,(act (σ.headD 0) col).2.toNat::σ,o++[(2,(a:Int))]))
    else if(act (σ.headD 0) col).1=2 then(match zo l gt σ (act (σ.headD 0) col).2 with
      |none=>(13,[],[])
      |some σ'=>if 60<σ'.length then(14,[],[])else fC col a f σ' (o++[(4,(act (σ.headD 0) col).2)]))
    else(13,[],[])
end
section
variable{l:List aB.Prod}{act:Nat->Nat->Act}{gt:Nat->Int->Int}{T N:Nat}{lk:Int->Int->Nat}{Nx:List (List Int)}{S:List (List Item)}
structure abz(l:List aB.Prod)(act:Nat->Nat->Act)(gt:Nat->Int->Int)(T N:Nat)(Nx:List (List Int))(S:List (List Item)):Prop where
 act:∀q c,q<S.length->c<=T->act q c=lY l T Nx S q c
 gt:∀q n,q<S.length->0<=n->n<(N:Int)->gt q n=Zf T Nx q n
theorem XB{q c:Nat}{x:Act}(h:lY l T Nx S q c=x)(h0:x.1≠0):x∈ij l T (S.getD q []) (Nx.getD q []) c:=by
 unfold lY at h
 cases e:ij l T (S.getD q []) (Nx.getD q []) c with
 |nil=>rw[e]at h;subst h;exact absurd rfl h0
 |cons y r=>rw[e]at h;subst h;exact List.mem_cons_self ..
theorem BK{q c:Nat}{x:Act}(h:x∈ij l T (S.getD q []) (Nx.getD q []) c):
    (x.1=1/\c<T/\0<=(Nx.getD q []).getD c 0/\x.2=(Nx.getD q []).getD c 0)\/(x=(3,0)/\(((l.length:Int),1,(c:Int)):Item)∈S.getD q [])\/(x.1=2/\x.2<(l.length:Int)/\((x.2,((bU l x.2).2.length:Int),(c:Int)):Item)∈S.getD q []):=by
  unfold ij at h;rcases List.mem_append.1 h with h|h
  · split at h
    · rename_i c1
      rw[List.mem_singleton]at h;subst h;exact .inl ⟨rfl,c1.1,c1.2,rfl⟩
    · cases h
  · obtain⟨it,hit,e⟩:=List.mem_filterMap.1 h
    obtain⟨p,d,k⟩:=it;unfold tr at e;dsimp only at e
    by_cases c1:k≠(c:Int)
    · rw[if_pos c1]at e;cases e
    · rw[if_neg c1]at e
      have c1:k=(c:Int):=Classical.not_not.1 c1;subst c1
      by_cases c2:p=(l.length:Int)/\d=1
      · rw[if_pos c2]at e
        obtain⟨rfl,rfl⟩:=c2;exact .inr (.inl ⟨(Option.some.inj e).symm,hit⟩)
      · rw[if_neg c2]at e
        by_cases c3:p<(l.length:Int)/\d=((bU l p).2.length:Int)
        · rw[if_pos c3]at e
          obtain⟨c3,rfl⟩:=c3;obtain rfl:=Option.some.inj e;exact .inr (.inr ⟨rfl,c3,hit⟩)
        · rw[if_neg c3]at e;cases e
section
variable(hB:abz l act gt T N Nx S)(hI:L6 l T N lk S.length Nx S)(hw:∀q∈l,q.2.length<=8)(hl:l.length<=40)(hT:T<=30)(hh:∀q∈l,0<=q.1/\q.1<(N:Int))
include hB hI hw hl hT hh
omit hB hw hl hT hh in
theorem MV{q k s:Nat}{x:cg}(hq:q<S.length)(hk:(jJ T N)[k]?=some x)(hs:(Nx.getD q []).getD k 0=(s:Int)):s<S.length/\S.getD s []=fL l T lk (S.getD q []) x/\fL l T lk (S.getD q []) x≠[]:=by
 rcases hI.cell q hq k x hk with⟨_,h2⟩|⟨h1,h2,h3⟩
 ·rw[hs]at h2;omega
 ·rw[hs]at h3
  obtain rfl:s=idx S (fL l T lk (S.getD q []) x):=by omega
  refine⟨iX h2,?_,h1⟩;rw[List.getD_eq_getElem?_getD,List.getElem?_eq_getElem (iX h2)];exact qK (iX h2)
end
end
end aY
namespace bK
open aB dy eo cL aY bT rX
open wk (yh)
structure kJ(g:dr)(T N:Nat)(Nx:List (List Int))(S:List (List aY.Item)):Prop where
 Dg:cz g=0
 aF:g.aF=(T:Int)
 aU:g.aU=(N:Int)
 all:allI g.ag T N (h_ g)=some (Nx,S)
 cK:(fB g).1=fh g.ag T Nx S S.length
 gos:(fB g).2.1=d_ T Nx S.length
 XC:(fB g).2.2.1=fz g.ag T Nx S S.length
theorem BL{g:dr}(h:(fB g).2.2.2=0):∃T N Nx S,kJ g T N Nx S:=by
 unfold fB at h
 by_cases c:(fY g).2.2≠0
 ·rw[if_pos c]at h;exact absurd h c
 ·have c2:(fY g).2.2=0:=Classical.not_not.1 c
  obtain⟨hg,hA⟩:=J' c2;obtain⟨hT1,hT2,Rq,V9,-⟩:=bV hg;exact⟨g.aF.toNat,g.aU.toNat,(fY g).1,(fY g).2.1,hg,by omega,by omega,hA,by unfold fB;rw[if_neg c],by unfold fB;rw[if_neg c],by unfold fB;rw[if_neg c]⟩
section
variable{g:dr}{T N:Nat}{Nx:List (List Int)}{S:List (List aY.Item)}
theorem kJ.wide(h:kJ g T N Nx S):∀q∈g.ag,q.2.length<=8:=fun q hq=>((bV h.Dg).2.2.2.2.2 q hq).1
theorem kJ.Hx(h:kJ g T N Nx S):g.ag.length<=40:=(bV h.Dg).2.2.2.2.1
theorem kJ.t30(h:kJ g T N Nx S):T<=30:=by have:=(bV h.Dg).2.1;have:=h.aF;omega
theorem kJ.law(h:kJ g T N Nx S):L6 g.ag T N (h_ g) S.length Nx S:=Fb h.wide h.Hx h.t30 h.all
theorem zq{l:List aB.Prod}{i n:Nat}(h:i<n):(fh l T Nx S n)[i]?=some (e9 l T Nx S i (T+1)):=by unfold fh;simp[h]
theorem v7{i n:Nat}(h:i<n):(d_ T Nx n)[i]?=some ((Nx.getD i []).drop T):=by unfold d_;simp[h]
theorem IY{l:List aB.Prod}{q c:Nat}(h:c<T+1):(e9 l T Nx S q (T+1))[c]?=some (lY l T Nx S q c):=by
 unfold e9;rw[List.getElem?_map,List.getElem?_range h];simp[h]
theorem kJ.right(h:kJ g T N Nx S){q c:Nat}(hq:q<S.length)(_:c<T+1):qx T g.ag.length S.length (lY g.ag T Nx S q c) c:=by
 have hI:=h.law
 by_cases h0:(lY g.ag T Nx S q c).1=0
 ·left
  refine⟨h0,?_⟩;unfold lY at h0⊢
  cases e:ij g.ag T (S.getD q []) (Nx.getD q []) c with
  |nil=>rfl
  |cons y r=>
   rw[e]at h0;have hm:y∈ij g.ag T (S.getD q []) (Nx.getD q []) c:=by rw[e];exact List.mem_cons_self ..
   rcases BK hm with h'|h'|h'
   ·have:=h'.1;have h0:y.1=0:=h0;omega
   ·have h0:y.1=0:=h0;rw[h'.1]at h0;cases h0
   ·have:=h'.1;have h0:y.1=0:=h0;omega
 ·rcases BK (XB rfl h0)with h'|h'|h'
  ·obtain⟨h1,h2,h3,h4⟩:=h'
   obtain⟨s,hs⟩:=Int.eq_ofNat_of_zero_le h3;obtain⟨k1,-,-⟩:=MV hI hq (L5 h2) hs;exact .inr (.inl ⟨h1,h2,by omega,by rw[h4,hs];omega⟩)
  ·obtain⟨h1,h2⟩:=h'
   have ht:=Ts h.wide h.Hx h.t30 h.all q hq _ h2 rfl;have ht:(c:Int)=(T:Int):=ht;exact .inr (.inr (.inr ⟨by rw[h1],by rw[h1],by omega⟩))
  ·obtain⟨h1,h2,h3⟩:=h'
   exact .inr (.inr (.inl ⟨h1,(Ge hI hq _ h3).1,h2⟩))
theorem kJ.lA(h:kJ g T N Nx S):o8 g T N (fh g.ag T Nx S S.length) (d_ T Nx S.length) where
 Dg:=h.Dg
 aF:=h.aF
 aU:=h.aU
 pos:=by rw[fQ];exact(List.getElem?_eq_some_iff.1 h.law.start).1
 Hx:=by rw[fQ];exact h.law.Hx
 same:=by rw[fQ,ju]
 wA:=fun i hi=>by
  obtain⟨h1,h2⟩:=List.getElem?_eq_some_iff.1 (zq (T:=T) (Nx:=Nx) (S:=S) (l:=g.ag) (show i<S.length by rw[fQ]at hi;exact hi));rw[h2];exact l_
 cK:=fun i hi c hc=>by
  have lg:i<S.length:=by rw[fQ]at hi;exact hi
  obtain⟨h1,h2⟩:=List.getElem?_eq_some_iff.1 (zq (T:=T) (Nx:=Nx) (S:=S) (l:=g.ag) lg);simp only[h2]at hc⊢;rw[l_]at hc;obtain⟨h3,h4⟩:=List.getElem?_eq_some_iff.1 (IY (l:=g.ag) (T:=T) (Nx:=Nx) (S:=S) (q:=i) hc);rw[h4,fQ];exact h.right lg hc
 wG:=fun i hi=>by
  have lg:i<S.length:=by rw[ju]at hi;exact hi
  obtain⟨h1,h2⟩:=List.getElem?_eq_some_iff.1 (v7 (T:=T) (Nx:=Nx) lg);rw[h2,List.length_drop,h.law.wide i lg];omega
 gos:=fun i hi y hy=>by
  have lg:i<S.length:=by rw[ju]at hi;exact hi
  obtain⟨h1,h2⟩:=List.getElem?_eq_some_iff.1 (v7 (T:=T) (Nx:=Nx) lg);rw[h2]at hy;obtain⟨k,hk,rfl⟩:=List.getElem_of_mem hy;rw[fQ];rw[List.length_drop,h.law.wide i lg]at hk;rw[List.getElem_drop];have hw:=h.law.wide i lg;have hg:(Nx.getD i [])[T+k]'(by rw[hw];omega)=(Nx.getD i []).getD (T+k) 0:=by rw[List.getD_eq_getElem?_getD (l:=Nx.getD i []),List.getElem?_eq_getElem (by rw[hw];omega)];rfl
  rw[hg];rcases h.law.cell i lg (T+k) _ (Pj (by omega))with⟨_,e⟩|⟨_,e1,e2⟩
  ·rw[e];omega
  ·rw[e2];have:=iX e1;omega
def ib(A:List (List aY.Act))(q c:Nat):aY.Act:=(A.getD q []).getD c (0,0)
def eJ(G:List (List Int))(q:Nat)(n:Int):Int:=(G.getD q []).getD n.toNat 0
theorem v8{l:List aB.Prod}:∀n,(fz l T Nx S n).length=0->∀q,q<n->∀c,c<=T->(ij l T (S.getD q []) (Nx.getD q []) c).length<=1
  |0,_,q,hq,_,_=>absurd hq (Nat.not_lt_zero _)
  | n + 1,h,q,hq,c,hc=>by
    rw[fz,List.length_append]at h
    by_cases e:q=n
    · subst e
      have row:∀d,(fy l T Nx S q d).length=0->∀c,c<d->(qU l T Nx S q c).length=0:=fun d=>by
        induction d with
        |zero=>exact fun _ c hc=>absurd hc (Nat.not_lt_zero _)
        | succ d ih=>
          intro h c hc;rw[fy,List.length_append]at h
          by_cases e2:c=d
          · subst e2;omega
          · exact ih (by omega) c (by omega)
      have:=row (T+1) (by omega) c (by omega);unfold qU at this;rw[List.length_map,List.length_tail]at this;have h2:(ij l T (S.getD q []) (Nx.getD q []) c).length-1=0:=this;omega
    · exact v8 n (by omega) q (by omega) c hc
theorem kJ.calm(h:kJ g T N Nx S)(hc:Vp g=true):Zg g.ag T Nx S:=by
 unfold Vp at hc;rw[Bool.and_eq_true,decide_eq_true_eq,decide_eq_true_eq,h.XC]at hc;exact fun q hq c hcT=>v8 S.length hc.2 q hq c hcT
theorem IZ(hg:cz g=0){p:Int}:∀x∈ee g.ag p,right g.aF g.aU x=true:=fun x hx=>by
 unfold ee at hx;split at hx
 ·rw[List.mem_singleton.1 hx]
  have:=(bV hg).2.2.1;unfold right;rw[if_neg (by decide),if_pos rfl];simp only[Int.le_refl,decide_true,Bool.true_and,decide_eq_true_eq];omega
 ·by_cases h2:p.toNat<g.ag.length
  ·have:bU g.ag p∈g.ag:=by unfold bU;rw[List.getD_eq_getElem?_getD,List.getElem?_eq_getElem h2];exact List.getElem_mem h2
   exact((bV hg).2.2.2.2.2 _ this).2.2.2 x hx
  ·unfold bU at hx
   rw[List.getD_eq_getElem?_getD,List.getElem?_eq_none (by omega)]at hx
   cases hx
theorem kJ.looks(h:kJ g T N Nx S)(p d:Int):h_ g p d=eA (q9 N g.ag).E (GO N g.ag) ((ee g.ag p).drop (d.toNat+1)) (2^62):=by
 unfold h_ wq;have X1:=jH (l:=g.ag) (p:=p) h.wide;have hE:p5 g ((ee g.ag p).drop (d.toNat+1))=0:=by
  unfold p5;rw[if_neg (by rw[h.Dg];simp),if_neg (by rw[List.length_drop];omega)];exact CI fun x hx=>IZ h.Dg x (List.mem_of_mem_drop hx)
 rw[if_pos hE,show g.aU.toNat=N by rw[h.aU];rfl]
end
end bK
namespace jQ
open bW eG de bT
open bK (iL du qi CV)
variable{m:MS}{R:List Row}{d:DM}
theorem Uh(hm:Cv m)(hi:X5 m (dQ m.empty 0) (d.S.length+1) R d)(k:Nat):d.tags.getD k 0<m.empty.length:=by
  have h:=hi.tags;unfold mU at h;rw[h];have h0:=hm.some
  cases k with
  | zero=>
    have:=Bq (l:=m.empty);have e:(dQ m.empty 0::d.S.map (jQ.jo m.ps)).getD 0 0=dQ m.empty 0:=rfl;rw[e];omega
  | succ k=>
    by_cases hk:k<d.S.length
    · have e:(dQ m.empty 0::d.S.map (jQ.jo m.ps)).getD (k+1) 0=jQ.jo m.ps d.S[k]:=by
        rw[List.getD_cons_succ,List.getD_eq_getElem?_getD,List.getElem?_map,List.getElem?_eq_getElem hk];rfl
      rw[e];unfold jQ.jo;rcases C0 hm.rules hm.ok.ps.rules d.S[k] m.ps.aJ.length (Nat.le_refl _)with⟨h1,_⟩|⟨_,_,_,_,_,h1,h2,_⟩
      · rw[h1];omega
      · omega
    · rw[List.getD_cons_succ,List.getD_eq_getElem?_getD,List.getElem?_eq_none (by rw[List.length_map];omega)]
      show(0:Int)<_
      omega
end jQ
namespace bK
open Go.RowKit bO dc bW eG gh aB bT de jQ
theorem QO{R:List Row}{tags:List Int}{n:Int}(h:∀k,tags.getD k 0<n):∀t∈sk R tags,t<n:=fun t ht=>by
 unfold sk at ht;split at ht
 ·obtain⟨k,-,rfl⟩:=List.mem_map.1 ht
  exact h k
 ·cases ht
theorem QQ{s:Sp}{r:Int×List Row×List Int}(h:MB s r)(h0:r.1=0):0<s.words.length/\s.words.length<=20/\∀t∈r.2.2,t<(s.words.length:Int):=by
 rcases h with⟨k,hk,-,rfl⟩|⟨es,m,h1,-,h3,h4,h5,-,⟨h,rfl⟩|⟨-,h,rfl⟩|⟨h,hd,hc,rfl⟩⟩
 ·exact absurd h0 hk
 ·exact absurd h0 h
 ·exact absurd h0 h
 ·have hlen:s.words.length=es.length:=by
   have:=congrArg List.length h1
   rwa [l9,List.length_map,List.length_map]at this
  obtain⟨-,h7,-,-⟩:=Cw es 0 .zero m Cu rfl (fun r hr=>by cases hr) (Nat.zero_le _) h5;refine⟨by omega,by omega,?_⟩;dsimp only
  cases hm:pV m with
  |none=>rw[Ib hm]at hd;cases hd
  |some y=>
   obtain⟨R,d⟩:=y;rw[sh hm];refine QO fun k=>?_;have:=Uh (wP h3 h4 h5) (uB hm) k;show d.tags.getD k 0<_
   omega
end bK
namespace gh
open bW eG
theorem Vu(l:List Wd):∀k,k<=l.length->0<=((l.take k).foldl fR RB).2.1/\∀x∈((l.take k).foldl fR RB).1,-1<=x/\x<((l.take k).foldl fR RB).2.1
  |0,_=>⟨Int.le_refl _,fun x hx=>by cases hx⟩
  | k + 1,h=>by
    obtain⟨a1,a2⟩:=Vu l k (by omega);rw[step_take _ _ _ (show k<l.length by omega)];have key:∀(s:WS) (w:Wd),0<=s.2.1->(∀x∈s.1,-1<=x/\x<s.2.1)->0<=(fR s w).2.1/\∀x∈(fR s w).1,-1<=x/\x<(fR s w).2.1:=fun s w b1 b2=>by
      unfold fR;split
      · refine⟨b1,fun x hx=>?_⟩
        rcases List.mem_append.1 hx with hx|hx
        · exact b2 x hx
        · rw[List.mem_singleton.1 hx];exact⟨Int.le_refl _,by show(-1:Int)<s.2.1;omega⟩
      · refine⟨by show 0<=s.2.1+1;omega,fun x hx=>?_⟩
        show-1<=x/\x<s.2.1+1
        rcases List.mem_append.1 hx with hx|hx
        · have:=b2 x hx;omega
        · rw[List.mem_singleton.1 hx];omega
    exact key _ _ a1 a2
end gh
namespace bK
open Go.RowKit bO dc bW eG gh aB bT
def sv(s:Sp)(R:List Row)(T:List Int):Md:=⟨(C8 s.words).1,ph R 256,Ip R,T,bR s,1,Ku (bR s) (bR s).aF.toNat (bR s).aU.toNat,[],[]⟩
def XD(s:Sp)(R:List Row)(T:List Int):Md:=⟨(C8 s.words).1,ph R 256,Ip R,T,bR s,2,[],(fB (bR s)).1,(fB (bR s)).2.1⟩
theorem QR{l:List Wd}(h:l.length<=60):(C8 l).1.length=l.length:=by
 have:=(P3 l l.length (Nat.le_refl _) h).1;rw[List.take_length]at this;exact this
section
variable{w:World}{B:bC}{L:List bI}{x:Ap}{s:Sp}{R:List Row}{T:List Int}{i0 i1 i2 i3 i4 i5 i6 i7 i8:Nat}
theorem Vv(hl:s.words.length<=60)(h:(aM 3 1 x.vo s.words.length ((C8 s.words).1.map (Value.int .i64))).holds w):Sl w x.vo (C8 s.words).1.length ((C8 s.words).1.flatMap bO.dB):=by
 rw[QR hl];have:=Sl.cI h
 rwa [<-EP]at this
theorem QT(hg:cz (bR s)=0)(h:(n0 x.F x.vp (bR s).ag).holds w):iZ (fun k=>k<w.heap.size) w (cO (bR s).aF (bR s).aU x.vp) (bR s):=by
 obtain⟨a1,a2,a3,a4,a5,a6⟩:=bV hg;exact sn (TG ⟨a1,by omega⟩) (TG ⟨by omega,by omega⟩) h
theorem XE(hm:Mem B L w)(hl:s.words.length<=60)(hc:iL R T=0)(hg:cz (bR s)=0)
 (h0:L[i0]?=some (aM 3 1 x.vo s.words.length ((C8 s.words).1.map (Value.int .i64)))) (h1:L[i1]?=some (n0 x.F x.vp (bR s).ag)) (h2:L[i2]?=some (dU 26 so x.gP R.length x.Qb)) (h3:L[i3]?=some (Mz R.length (jS R 256) x.Qb)) (h4:L[i4]?=some (aM 3 1 x.vT T.length (T.flatMap bO.dB)))
 (h5:L[i5]?=some (dU 26 qu x.gR (bR s).aU.toNat x.Xk)) (h6:L[i6]?=some (fS (fun j=>j<(bR s).aU.toNat) (jY (bR s).ag (uG (bR s).aU.toNat (bR s).ag) (bR s).aF.toNat x.Xk (bR s).aU.toNat 0))):
 GS w (.agg (x.cLL (bR s) R)) (sv s R T) x.vo (.slice (some ⟨x.gP,0,none⟩) R.length R.length) x.vT x.vp (.slice (some ⟨x.gR,0,none⟩) (bR s).aU.toNat (bR s).aU.toNat) (.slice none 0 0) (.slice none 0 0) where
 val:=rfl
 of:=Vv hl (hm.get h0)
 pk:=hm.pkI h2 h3 h4 hc
 GU:=QT hg (hm.get h1)
 rows:=by
  obtain⟨a1,a2,a3,a4,a5,a6⟩:=bV hg;exact Qt a5 (by omega) (hm.get h5) (hm.get h6)
 lA:=⟨_,_,rfl,iB.nil,iB.nil⟩
theorem XF(hm:Mem B L w)(hl:s.words.length<=60)(hc:iL R T=0)(hg:cz (bR s)=0)
 (h0:L[i0]?=some (aM 3 1 x.vo s.words.length ((C8 s.words).1.map (Value.int .i64)))) (h1:L[i1]?=some (n0 x.F x.vp (bR s).ag)) (h2:L[i2]?=some (dU 26 so x.gP R.length x.Qb)) (h3:L[i3]?=some (Mz R.length (jS R 256) x.Qb)) (h4:L[i4]?=some (aM 3 1 x.vT T.length (T.flatMap bO.dB)))
 (h5:L[i5]?=some (aM 92 1 x.tx.vA (fB (bR s)).1.length x.tx.wx)) (h6:L[i6]?=some (dz (bD sq) x.tx.FA (x.tx.wx.map fun v=>[v]) (fB (bR s)).1)) (h7:L[i7]?=some (aM 26 1 x.tx.vG (fB (bR s)).2.1.length x.tx.wy)) (h8:L[i8]?=some (dz (bD fq) x.tx.FG (x.tx.wy.map fun v=>[v]) (fB (bR s)).2.1)):
 GS w (.agg (x.cLR (bR s) R)) (XD s R T) x.vo (.slice (some ⟨x.gP,0,none⟩) R.length R.length) x.vT x.vp (.slice none 0 0) x.tx.vA x.tx.vG where
 val:=rfl
 of:=Vv hl (hm.get h0)
 pk:=hm.pkI h2 h3 h4 hc
 GU:=QT hg (hm.get h1)
 rows:=iB.nil
 lA:=TS (hm.get h5) (hm.get h6) (hm.get h7) (hm.get h8)
end
theorem Dq{s:Sp}{r:Int×List Row×List Int}(h:MB s r)(h0:r.1=0):s.words.length<=20/\cz (bR s)=0/\iL r.2.1 r.2.2=0/\0<(C8 s.words).1.length/\(C8 s.words).1.length<=20/\(∀t∈(C8 s.words).1,-1<=t/\t<(bR s).aF)/\∀t∈r.2.2,t<((C8 s.words).1.length:Int):=by
 obtain⟨a1,a2⟩:=tK h h0;obtain⟨b1,b2,b3⟩:=QQ h h0;have e:=QR (l:=s.words) (by omega);have c:=(Vu s.words s.words.length (Nat.le_refl _)).2;rw[List.take_length]at c;exact⟨b2,a1,a2,by omega,by omega,c,by rw[e];exact b3⟩
theorem Ui{s:Sp}{r:Int×List Row×List Int}(h:MB s r)(h0:r.1=0):zf (sv s r.2.1 r.2.2):=by
 obtain⟨a1,a2,a3,a4,a5,a6,a7⟩:=Dq h h0;obtain⟨b1,b2,b3,b4,b5,b6⟩:=bV a2;exact⟨Kx _,IN (Dp a3),a2,a4,a5,a6,a7,.inl ⟨rfl,F_ (g:=bR s) (T:=(bR s).aF.toNat) (N:=(bR s).aU.toNat) a2 (by omega) (by omega)⟩⟩
theorem Uj{s:Sp}{r:Int×List Row×List Int}(h:MB s r)(h0:r.1=0)(hT:(fB (bR s)).2.2.2=0):zf (XD s r.2.1 r.2.2):=by
 obtain⟨a1,a2,a3,a4,a5,a6,a7⟩:=Dq h h0;obtain⟨T,N,Nx,S,hM⟩:=BL hT;refine⟨Kx _,IN (Dp a3),a2,a4,a5,a6,a7,.inr ⟨rfl,T,N,?_⟩⟩;show o8 (bR s) T N (fB (bR s)).1 (fB (bR s)).2.1
 rw[hM.cK,hM.gos];exact hM.lA
end bK
namespace tO
open Go.RowKit bO dc bW eG gh bK
def XG(a s:C4):List Wd:=[([97],.mk 3 a []),([],.mk 3 s [])]
def QU:List Rl:=[([108],[[97],[109]]),([109],[]),([109],[[97],[109]])]
theorem I0(n:Bs)(k:Int)(c:C4)(b:Option Addr)(m cp:Nat)(w:World):(Instr.build 122 #[(0,str n),(1,.agg (jx k c (.slice b m cp)).toArray)]).run Tryz.prog w= .ok (.agg (sE n k c (.slice b m cp)).toArray) w:=by kernel_rfl
theorem Gf(n:Bs)(w:World):(Instr.build 124 #[(0,str n)]).run Tryz.prog w= .ok (.agg #[str n,.slice none 0 0]) w:=by kernel_rfl
theorem Gg(k:Int)(c:C4)(w:World):(Instr.build 122 #[(1,.agg (jx k c (.slice none 0 0)).toArray)]).run Tryz.prog w= .ok (.agg (sE [] k c (.slice none 0 0)).toArray) w:=by kernel_rfl
theorem v_(n:Bs)(g:Nat)(w:World):(Instr.build 124 #[(0,str n),(1,.slice (some ⟨g,0,none⟩) 2 2)]).run Tryz.prog w= .ok (.agg #[str n,.slice (some ⟨g,0,none⟩) 2 2]) w:=by kernel_rfl
theorem Gh(a b:Option Addr)(m c n d:Nat)(w:World):(Instr.build 25 #[(0,.slice a m c),(1,.slice b n d)]).run Tryz.prog w= .ok (.agg #[.slice a m c,.slice b n d]) w:=by kernel_rfl
structure aap where
 g1:Nat
 g2:Nat
 g3:Nat
 g4:Nat
def rlC(n:Bs)(v:Value):List Value:=[str n,v]
def Uk(a s:C4):bK.Spec aap:=⟨fun _=>True,fun x=> .agg #[.slice (some ⟨x.g1,0,none⟩) 2 2,.slice (some ⟨x.g4,0,none⟩) 3 3],fun x=>[aw x.g1 (sE [97] 3 a (.slice none 0 0)++sE [] 3 s (.slice none 0 0)).toArray 122,aw x.g2 #[str [97],str [109]] 9,aw x.g3 #[str [97],str [109]] 9,
 aw x.g4 #[str [108],.slice (some ⟨x.g2,0,none⟩) 2 2,str [109],.slice none 0 0,str [109],.slice (some ⟨x.g3,0,none⟩) 2 2] 124]⟩
set_option maxRecDepth 100000 in
theorem I1(w:World):Calls Tryz.prog 13 #[] w (bM (Uk (dP 97 97) (dP 32 32)) w):=by
 have hl:=fun w=>sT 97 w ⟨by decide,by decide⟩;have Ca:=fun w=>sT 32 w ⟨by decide,by decide⟩;generalize dP 97 97=ca at*;generalize dP 32 32=cs at*;refine enter (args:=[]) (n:=13) Tryz.func13 rfl rfl rfl ?_;refine a8 (aL (aK rfl fun g0=>?_));refine zL ?_
 try refine GA ?_
 refine aI (jc aj.en rfl rfl) (fun w hm=>hl w) rfl rfl rfl ?_;intro _ _;refine zL ?_
 repeat(first|refine QZ ?_|refine QV (aP rfl (I0 _ _ _ _ _ _)) ?_)
 refine aI (jc aj.en rfl rfl) (fun w hm=>Ca w) rfl rfl rfl ?_;intro _ _;refine zL ?_
 repeat(first|refine QZ ?_|refine QV (aP rfl (Gg _ _)) ?_)
 refine dT (cs:=(sE [97] 3 ca (.slice none 0 0)++sE [] 3 cs (.slice none 0 0)).toArray) [.agg (sE [97] 3 ca (.slice none 0 0)).toArray,.agg (sE [] 3 cs (.slice none 0 0)).toArray] rfl rfl rfl (by intro v hv;simp only[List.mem_cons,List.not_mem_nil,or_false]at hv;rcases hv with rfl|rfl<;>rfl) rfl rfl rfl fun g5=>?_;refine zL ?_;refine dT (cs:=#[str [97],str [109]]) [str [97],str [109]] rfl rfl rfl (by intro v hv;simp only[List.mem_cons,List.not_mem_nil,or_false]at hv;rcases hv with rfl|rfl<;>rfl) rfl rfl rfl fun g6=>?_;refine zL ?_
 repeat(first|refine QZ ?_|refine QV (aP rfl (v_ _ _)) ?_|refine QV (aP rfl (Gf _)) ?_)
 refine dT (cs:=#[str [97],str [109]]) [str [97],str [109]] rfl rfl rfl (by intro v hv;simp only[List.mem_cons,List.not_mem_nil,or_false]at hv;rcases hv with rfl|rfl<;>rfl) rfl rfl rfl fun g9=>?_;refine zL ?_
 repeat(first|refine QZ ?_|refine QV (aP rfl (v_ _ _)) ?_)
 refine dT (cs:=#[str [108],.slice (some ⟨g6,0,none⟩) 2 2,str [109],.slice none 0 0,str [109],.slice (some ⟨g9,0,none⟩) 2 2]) [.agg #[str [108],.slice (some ⟨g6,0,none⟩) 2 2],.agg #[str [109],.slice none 0 0],.agg #[str [109],.slice (some ⟨g9,0,none⟩) 2 2]] rfl rfl rfl (by intro v hv;simp only[List.mem_cons,List.not_mem_nil,or_false]at hv;rcases hv with rfl|rfl|rfl<;>rfl) rfl rfl rfl fun g11=>?_;refine zL ?_
 repeat(first|refine QZ ?_|refine QV (aP rfl (Gh _ _ _ _ _ _)) ?_)
 refine fa 0 (cs':=#[.slice (some ⟨g5,0,none⟩) 2 2,.slice (some ⟨g11,0,none⟩) 3 3]) ?_;refine zL ?_
 try refine GA ?_
 exact eR (i:=0) rfl rfl rfl rfl fun w hm=>hm.meets (S:=Uk ca cs) ⟨g5,g6,g9,g11⟩ trivial [1,2,3,4] (by decide) rfl
theorem nle{n:Nat}(h:n<=10:=by exact Nat.le_of_ble_eq_true rfl):n<=9223372036854775807:=by omega
theorem Ky{w:World}{g:Nat}(h:(aw g #[str [97],str [109]] 9).holds w):iB K' (ng w) w (.slice (some ⟨g,0,none⟩) 2 2) [[97],[109]]:=by
 have hb:w.heap[g]?=some (.cells #[str [97],str [109]] 9 (0,0)):=h;refine⟨_,2,rfl,Nat.le_refl _,by decide,fun _=>⟨g,0,rfl,(Array.getElem?_eq_some_iff.1 hb).1,fun i hi=>⟨[str ([[97],[109]]:List Bs)[i]],⟨rfl,?_⟩,fun j u hj=>?_⟩⟩⟩
 ·match i,hi with
  |0,_=>exact(by decide:(1:Nat)<=9223372036854775807)
  |1,_=>exact(by decide:(1:Nat)<=9223372036854775807)
 ·rw[cell_of_row w g _ _ _ _ hb]
  match i,hi,j,hj with
  |0,_,0,hj=>exact hj
  |1,_,0,hj=>exact hj
theorem Ul{w:World}{a s:C4}{x:aap}(h1:(aw x.g1 (sE [97] 3 a (.slice none 0 0)++sE [] 3 s (.slice none 0 0)).toArray 122).holds w)(h2:(aw x.g2 #[str [97],str [109]] 9).holds w)(h3:(aw x.g3 #[str [97],str [109]] 9).holds w)
 (h4:(aw x.g4 #[str [108],.slice (some ⟨x.g2,0,none⟩) 2 2,str [109],.slice none 0 0,str [109],.slice (some ⟨x.g3,0,none⟩) 2 2] 124).holds w):Mq (ng w) w (.agg #[.slice (some ⟨x.g1,0,none⟩) 2 2,.slice (some ⟨x.g4,0,none⟩) 3 3]) ⟨XG a s,QU⟩:=by
 have z8:w.heap[x.g1]?=some (.cells (sE [97] 3 a (.slice none 0 0)++sE [] 3 s (.slice none 0 0)).toArray 122 (0,0)):=h1;have hb4:w.heap[x.g4]?=some (.cells #[str [108],.slice (some ⟨x.g2,0,none⟩) 2 2,str [109],.slice none 0 0,str [109],.slice (some ⟨x.g3,0,none⟩) 2 2] 124 (0,0)):=h4;have hx:∀c,ic (ng w) w (jx 3 c (.slice none 0 0)) (.mk 3 c []):=fun c=>sS.2 ⟨_,rfl,⟨by decide,by decide⟩,iB.nil⟩;refine⟨_,_,rfl,⟨_,2,rfl,Nat.le_refl _,by decide,fun _=>⟨x.g1,0,rfl,(Array.getElem?_eq_some_iff.1 z8).1,fun i hi=>?_⟩⟩,⟨_,3,rfl,Nat.le_refl _,by decide,fun _=>⟨x.g4,0,rfl,(Array.getElem?_eq_some_iff.1 hb4).1,fun i hi=>?_⟩⟩⟩
 ·match i,hi with
  |0,_=>
   refine⟨sE [97] 3 a (.slice none 0 0),⟨[str [97]],_,rfl,⟨rfl,nle⟩,hx a⟩,fun j u hj=>?_⟩;rw[cell_of_row w x.g1 _ _ _ _ z8,List.getElem?_toArray,Nat.zero_mul,Nat.zero_add,List.getElem?_append_left (List.getElem?_eq_some_iff.1 hj).1];exact hj
  |1,_=>
   refine⟨sE [] 3 s (.slice none 0 0),⟨[str []],_,rfl,⟨rfl,nle⟩,hx s⟩,fun j u hj=>?_⟩;rw[cell_of_row w x.g1 _ _ _ _ z8,List.getElem?_toArray];show(sE [97] 3 a (.slice none 0 0)++sE [] 3 s (.slice none 0 0))[0+1*7+j]?=some u
   rw[List.getElem?_append_right (by show 7<=_;omega),show 0+1*7+j-(sE [97] 3 a (.slice none 0 0)).length=j from by show 0+1*7+j-7=j;omega];exact hj
 ·match i,hi with
  |0,_=>
   refine⟨rlC [108] (.slice (some ⟨x.g2,0,none⟩) 2 2),⟨[str [108]],[_],rfl,⟨rfl,nle⟩,_,rfl,Ky h2⟩,fun j u hj=>?_⟩;rw[cell_of_row w x.g4 _ _ _ _ hb4]
   match j,hj with
   |0,hj=>exact hj
   |1,hj=>exact hj
  |1,_=>
   refine⟨rlC [109] (.slice none 0 0),⟨[str [109]],[_],rfl,⟨rfl,nle⟩,_,rfl,iB.nil⟩,fun j u hj=>?_⟩;rw[cell_of_row w x.g4 _ _ _ _ hb4]
   match j,hj with
   |0,hj=>exact hj
   |1,hj=>exact hj
  |2,_=>
   refine⟨rlC [109] (.slice (some ⟨x.g3,0,none⟩) 2 2),⟨[str [109]],[_],rfl,⟨rfl,nle⟩,_,rfl,Ky h3⟩,fun j u hj=>?_⟩;rw[cell_of_row w x.g4 _ _ _ _ hb4]
   match j,hj with
   |0,hj=>exact hj
   |1,hj=>exact hj
end tO
namespace jQ
open bW eG de bT
theorem QX{a b c:List Int}(h1:c.Pairwise (· < ·))(h2:∀x,(x∈a\/x∈b)↔x∈c):mP a b=c:=
 yi (wO _ _).1 h1 fun x=>by rw[(wO _ _).2,h2]
end jQ
namespace qV
open Go.RowKit bO dc bK bW eG gh aB bT de jQ tO
def lS:Sp:=⟨XG (dP 97 97) (dP 32 32),QU⟩
def lE:List Re:=[.byte (dP 97 97),.byte (dP 32 32)]
set_option maxRecDepth 1000000 in
theorem QY:xe lS 0=(0,1):=by kernel_rfl
theorem Um:qt lS=0:=by kernel_rfl
def lM(a b:C4):MS:=⟨⟨[a,b],[0,1],[[],[]],[true,true]⟩,[0,1],[false,false]⟩
theorem XH(a b:C4):jh 0 .zero [.byte a,.byte b]=(0,lM a b):=by
 have u0:mP [] [0]=[0]:=QX (by simp) (by simp);have u1:mP [0] [1]=[0,1]:=QX (by simp) (by simp);have s0:rj 0 .zero (.byte a)=⟨⟨[a],[0],[[]],[true]⟩,[0],[false]⟩:=by simp[rj,bH,MS.zero,eu,u0]
 have s1:rj 1 ⟨⟨[a],[0],[[]],[true]⟩,[0],[false]⟩ (.byte b)=lM a b:=by
  simp[rj,bH,eu,u1,lM]
 rw[jh,s0,if_neg (by simp),jh,s1,if_neg (by simp[lM]),jh]
theorem MW:gK (l9 lS)=0:=by kernel_rfl
end qV
namespace k7
open Go.RowKit bO dc bK bT
def uP:List Tok->Nat->Nat
 |[],e=>e
 |t::l,_=>uP l t.2.2
def I2:List Tok->Nat->Prop
 |[],_=>True
 |t::l,e=>t.2.1=e/\e<t.2.2/\I2 l t.2.2
theorem oE{o:Of}{N:List (List Int)}{tags:List Int}{s:List UInt8}:∀(f a:Nat),a<=s.length->s.length<a+f->I2 (jv o N tags s f a).1 a/\
    (((jv o N tags s f a).2=(0,0)/\uP (jv o N tags s f a).1 a=s.length)\/((jv o N tags s f a).2.2=9/\uP (jv o N tags s f a).1 a=(jv o N tags s f a).2.1/\(jv o N tags s f a).2.1<s.length))
  |0,a,h1,h2=>by omega
  | f + 1,a,h1,h2=>by
    rw[me]
    by_cases c:a<s.length
    · rw[if_pos c]
      by_cases c2:(jg o N tags s a).2=0
      · rw[if_pos c2]
        exact⟨trivial,.inr ⟨rfl,rfl,c⟩⟩
      · rw[if_neg c2]
        have ht:=(Kw (o:=o) (N:=N) (tags:=tags) h1).resolve_left c2;obtain⟨q1,q2⟩:=oE (o:=o) (N:=N) (tags:=tags) (s:=s) f (jg o N tags s a).2 ht.2 (by omega);exact⟨⟨rfl,ht.1,q1⟩,q2⟩
    · rw[if_neg c]
      exact⟨trivial,.inl ⟨rfl,by show a=s.length;omega⟩⟩
end k7
namespace k7
open Go.RowKit bO dc bK bT
theorem tP{R:List Row}{tags:List Int}(hA:(du R tags).Ok):∀(s:List UInt8) (i:Nat) (q r:Int) (t:Nat),St (du R tags) q->0<=q->
    (Nl (Xz R) tags s i q r t=(r,t)/\∀k,0<k->k<=s.length->tg (du R tags) (go (du R tags) q (s.take k))<0)\/
    (∃k,0<k/\k<=s.length/\Nl (Xz R) tags s i q r t=(tg (du R tags) (go (du R tags) q (s.take k)),i+k)/\0<=tg (du R tags) (go (du R tags) q (s.take k))/\∀j,k<j->j<=s.length->tg (du R tags) (go (du R tags) q (s.take j))<0)
  |[],_,_,_,_,_,_=> .inl ⟨rfl,fun k h1 h2=>by simp at h2;omega⟩
  | b :: s, i,q,r,t,hq,h0=>by
    have e:Xz R q b=dt (du R tags) q b.toNat:=by unfold dt;rw[if_neg (by omega)];rfl
    have hst:=rh hA hq b.toNat_lt;have hgo:∀k,go (du R tags) q ((b::s).take (k+1))=go (du R tags) (dt (du R tags) q b.toNat) (s.take k):=fun k=>rfl;unfold Nl;rw[e];have hk:∀k,0<k->∃k',k=k'+1:=fun k h=>⟨k-1,by omega⟩;generalize dt (du R tags) q b.toNat=x at*;have WQ:tags.getD x.toNat 0=(du R tags).tag x.toNat:=rfl
    by_cases c:x<0
    · rw[if_pos c]
      refine .inl ⟨rfl,fun k h1 h2=>?_⟩;obtain⟨k,rfl⟩:=hk k h1;rw[hgo];have:=On (A:=du R tags) (s.take k) c;unfold tg;rw[if_pos this];decide
    · rw[if_neg c,WQ]
      have RA:tg (du R tags) x=(du R tags).tag x.toNat:=by unfold tg;rw[if_neg c]
      by_cases c2:0<=(du R tags).tag x.toNat
      · rw[if_pos c2]
        right
        rcases tP hA s (i+1) x ((du R tags).tag x.toNat) (i+1) hst (by omega)with⟨h1,h2⟩|⟨k,h1,h2,h3,h4,h5⟩
        · refine⟨1,by omega,by rw[List.length_cons];omega,?_,?_,fun j h3 h4=>?_⟩
          · rw[h1,hgo 0];show _=(tg (du R tags) x,_);rw[RA]
          · rw[hgo 0];show 0<=tg (du R tags) x;rw[RA];exact c2
          · obtain⟨j,rfl⟩:=hk j (by omega)
            rw[hgo];exact h2 j (by omega) (by rw[List.length_cons]at h4;omega)
        · refine⟨k+1,by omega,by rw[List.length_cons];omega,?_,by rw[hgo];exact h4,fun j h6 h7=>?_⟩
          · rw[h3,hgo];exact Prod.ext rfl (by show i+1+k=i+(k+1);omega)
          · obtain⟨j,rfl⟩:=hk j (by omega)
            rw[hgo];exact h5 j (by omega) (by rw[List.length_cons]at h7;omega)
      · rw[if_neg c2]
        rcases tP hA s (i+1) x r t hst (by omega)with⟨h1,h2⟩|⟨k,h1,h2,h3,h4,h5⟩
        · refine .inl ⟨h1,fun k h3 h4=>?_⟩
          obtain⟨k,rfl⟩:=hk k h3;rw[hgo]
          by_cases c3:k=0
          · subst c3
            show tg (du R tags) x<0
            rw[RA];omega
          · exact h2 k (by omega) (by rw[List.length_cons]at h4;omega)
        · refine .inr ⟨k+1,by omega,by rw[List.length_cons];omega,?_,by rw[hgo];exact h4,fun j h6 h7=>?_⟩
          · rw[h3,hgo];exact Prod.ext rfl (by show i+1+k=i+(k+1);omega)
          · obtain⟨j,rfl⟩:=hk j (by omega)
            rw[hgo];exact h5 j (by omega) (by rw[List.length_cons]at h7;omega)
def aaq(R:List Row)(tags:List Int)(s:List UInt8)(x:Tok):Prop:=
 x.2.1<x.2.2/\x.2.2<=s.length/\jo R tags ((s.drop x.2.1).take (x.2.2-x.2.1))=(x.1,0)/\∀e,x.2.2<e->e<=s.length->(jo R tags ((s.drop x.2.1).take (e-x.2.1))).1<0
theorem MX{R:List Row}{tags:List Int}(hc:iL R tags=0){s:List UInt8}{a:Nat}(ha:a<=s.length)(h:(o_ R tags s a).2≠0):aaq R tags s ((o_ R tags s a).1,a,(o_ R tags s a).2):=by
 have hA:=(kO hc).1;unfold o_ at*;rcases tP hA (s.drop a) a 0 0 0 (J4 hA) (by decide)with⟨h1,_⟩|⟨k,h1,h2,h3,h4,h5⟩
 ·rw[h1]at h;exact absurd rfl h
 ·rw[List.length_drop]at h2 h5
  rw[h3];refine⟨by show a<a+k;omega,by show a+k<=s.length;omega,?_,fun e jc eK=>?_⟩
  ·show jo R tags ((s.drop a).take (a+k-a))=_
   rw[w9 hc,Nat.add_sub_cancel_left]
  ·have jc:a+k<e:=jc
   show(jo R tags ((s.drop a).take (e-a))).1<0
   rw[w9 hc];exact h5 _ (by omega) (by omega)
end k7
namespace bK
open Go.RowKit bO dc bT k7
end bK
namespace k7
open Go.RowKit bO dc bK bT
theorem Q0{R:List Row}{tags:List Int}(hc:iL R tags=0){s:List UInt8}{a:Nat}:
 ((o_ R tags s a).2=0->∀e,a<e->e<=s.length->(jo R tags ((s.drop a).take (e-a))).1<0)/\((o_ R tags s a).2≠0->0<=(o_ R tags s a).1):=by
 have hA:=(kO hc).1;have h:=tP (R:=R) (tags:=tags) hA (s.drop a) a 0 0 0 (J4 hA) (Int.le_refl _);have e:o_ R tags s a=Nl (Xz R) tags (s.drop a) a 0 0 0:=rfl;rw[e];rcases h with⟨h1,h2⟩|⟨k,h1,h2,h3,h4,h5⟩
 ·rw[h1]
  refine⟨fun _ e he hl=>?_,fun h=>absurd rfl h⟩;rw[w9 hc];exact h2 (e-a) (by omega) (by rw[List.length_drop];omega)
 ·rw[h3]
  exact⟨fun h=>by have h:a+k=0:=h;omega,fun _=>h4⟩
end k7
namespace qV
open Go.RowKit bO dc bK bW eG gh aB bT de jQ tO k7
def Q1(R:List Row)(T:List Int):List Int:=[[97],[32],[97,32],[97,32,97],[32,97],[97,97]].map fun s=>tg (du R T) (go (du R T) 0 s)
set_option maxRecDepth 1000000 in
theorem Q2:((pV (lM (dP 97 97) (dP 32 32))).map fun x=>Q1 x.1 x.2.tags)=some [0,1,-1,-1,-1,-1]:=by kernel_rfl
theorem Q3:∃R T,MB lS (0,R,T)/\iL R T=0/\[[97],[32],[97,32],[97,32,97],[32,97],[97,97]].map (fun s=>(jo R T s).1)=[0,1,-1,-1,-1,-1]:=by
 have hl:jh 0 .zero lE=(0,lM (dP 97 97) (dP 32 32)):=XH _ _;have hd:=Q2;generalize lM (dP 97 97) (dP 32 32)=m at*
 cases hm:pV m with
 |none=>rw[hm]at hd;cases hd
 | some y=>
  obtain⟨R,d⟩:=y;rw[hm,Option.map_some,Option.some.injEq]at hd;have hc:iL R d.tags=0:=PB (wP (by decide) (by decide) hl) (uB hm);refine⟨_,_,.inr ⟨lE,m,rfl,?_,by decide,by decide,hl,.inr (.inr ⟨by decide,MW,lE,rfl,?_,hl.symm⟩),.inr (.inr ⟨Um,?_,?_,rfl⟩)⟩,?_,?_⟩
  ·intro e he
   simp only[lE,List.mem_cons,List.not_mem_nil,or_false]at he;rcases he with rfl|rfl<;>exact⟨by unfold Re.nz;decide,by decide,by decide⟩
  ·intro e he
   simp only[lE,List.mem_cons,List.not_mem_nil,or_false]at he;rcases he with rfl|rfl<;>decide
  ·rw[sh hm]
  ·rw[sh hm];exact hc
  ·rw[sh hm];exact w8 hc
  ·rw[sh hm]
   dsimp only;rw[<-hd];unfold Q1;simp only[List.map_cons,List.map_nil,PX hc]
theorem oF{R:List Row}{T:List Int}(hc:iL R T=0){s:List UInt8}{a n:Nat}{r:Int}(ha:a+n<=s.length)(hn:0<n)(h1:(jo R T ((s.drop a).take n)).1=r)(h0:0<=r)(h2:∀e,a<e->e<=s.length->e≠a+n->(jo R T ((s.drop a).take (e-a))).1<0):k7.o_ R T s a=(r,a+n):=by
 obtain⟨h3,h4⟩:=Q0 hc (s:=s) (a:=a);have h5:=MX hc (s:=s) (a:=a) (by omega);generalize k7.o_ R T s a=x at*;obtain⟨x,t⟩:=x
 by_cases c:t=0
 ·have:=h3 c (a+n) (by omega) ha
  rw[show a+n-a=n by omega,h1]at this;omega
 ·obtain⟨h6,h7,h8,_⟩:=h5 c
  have h9:=h4 c;dsimp only at h6 h7 h8 h9
  by_cases d:t=a+n
  ·subst d
   rw[show a+n-a=n by omega]at h8;rw[h8]at h1;rw[<-h1]
  ·have:=h2 t h6 h7 d
   rw[h8]at this;exact absurd h9 (by dsimp only at this;omega)
theorem mf{R:List Row}{T:List Int}{s:List UInt8}{f a:Nat}(r:Int)(t:Nat)(h:k7.o_ R T s a=(r,t))(ha:a<s.length)(ht:t≠0):ra R T s (f+1) a=((r,a,t)::(ra R T s f t).1,(ra R T s f t).2):=by
 rw[ra,if_pos ha,h,if_neg ht]
theorem xh{R:List Row}{T:List Int}{s:List UInt8}{f a:Nat}(ha:¬a<s.length):ra R T s (f+1) a=([],0,0):=by rw[ra,if_neg ha]
theorem Un{R:List Row}{T:List Int}(hc:iL R T=0)(h:[[97],[32],[97,32],[97,32,97],[32,97],[97,97]].map (fun s=>(jo R T s).1)=[0,1,-1,-1,-1,-1]):
 ra R T [97] 2 0=([(0,0,1)],0,0)/\ra R T [32] 2 0=([(1,0,1)],0,0)/\ra R T [97,32,97] 4 0=([(0,0,1),(1,1,2),(0,2,3)],0,0)/\ra R T [97,97] 3 0=([(0,0,1),(0,1,2)],0,0):=by
 simp only[List.map_cons,List.map_nil,List.cons.injEq,and_true]at h;obtain⟨h1,h2,h3,h4,h5,h6⟩:=h;refine⟨?_,?_,?_,?_⟩
 ·have e0:=oF hc (s:=[97]) (a:=0) (n:=1) (by decide) (by decide) h1 (by decide) fun e x1 x2 x3=>by simp at x2;omega
  rw[mf 0 1 e0 (by decide) (by decide),xh (by decide)]
 ·have e0:=oF hc (s:=[32]) (a:=0) (n:=1) (by decide) (by decide) h2 (by decide) fun e x1 x2 x3=>by simp at x2;omega
  rw[mf 1 1 e0 (by decide) (by decide),xh (by decide)]
 ·have e0:=oF hc (s:=[97,32,97]) (a:=0) (n:=1) (by decide) (by decide) h1 (by decide) fun e x1 x2 x3=>by
   match e,x2 with
   |0,_=>omega
   |1,_=>omega
   |2,_=>show(jo R T [97,32]).1<0;omega
   |3,_=>show(jo R T [97,32,97]).1<0;omega
  have e1:=oF hc (s:=[97,32,97]) (a:=1) (n:=1) (by decide) (by decide) h2 (by decide) fun e x1 x2 x3=>by
   match e,x2 with
   |0,_=>omega
   |1,_=>omega
   |2,_=>omega
   |3,_=>show(jo R T [32,97]).1<0;omega
  have e2:=oF hc (s:=[97,32,97]) (a:=2) (n:=1) (by decide) (by decide) h1 (by decide) fun e x1 x2 x3=>by simp at x2;omega
  rw[mf 0 1 e0 (by decide) (by decide),mf 1 2 e1 (by decide) (by decide),mf 0 3 e2 (by decide) (by decide),xh (by decide)]
 ·have e0:=oF hc (s:=[97,97]) (a:=0) (n:=1) (by decide) (by decide) h1 (by decide) fun e x1 x2 x3=>by
   match e,x2 with
   |0,_=>omega
   |1,_=>omega
   |2,_=>show(jo R T [97,97]).1<0;omega
  have e1:=oF hc (s:=[97,97]) (a:=1) (n:=1) (by decide) (by decide) h1 (by decide) fun e x1 x2 x3=>by simp at x2;omega
  rw[mf 0 1 e0 (by decide) (by decide),mf 0 2 e1 (by decide) (by decide),xh (by decide)]
end qV
namespace bK
open Go.RowKit bO dc
def Q4(Ls:List bI):bI where
  zR:=none
  more:=fun k=>∃o∈Ls,o.dS k
  holds:=fun w=>dH (fun _=>True) w Ls
  lt:=fun w h k hk=>by
    rcases hk with hk|⟨o,ho,hk⟩
    · cases hk
    · obtain⟨i,hi⟩:=List.getElem?_of_mem ho
      exact o.lt w (h.all i o hi).1 k hk
  stay:=fun w w' h hs hk=>⟨fun i o hi=>⟨o.stay w w' (h.all i o hi).1 hs fun k hf=>hk k (.inr ⟨o,List.mem_of_getElem? hi,hf⟩),fun _ _=>trivial⟩,h.apart⟩
theorem Q5{Ls:List bI}{k:Nat}(h:(Q4 Ls).dS k):∃o∈Ls,o.dS k:=by
 rcases h with h|h
 ·cases h
 ·exact h
theorem Kz{Ls:List bI}{w:World}(h:(Q4 Ls).holds w):Mem (bC.on w Ls) Ls w:=
 ⟨⟨rfl,rfl,rfl,Nat.le_refl _,fun _ _ _=>rfl⟩,⟨fun i o hi=>⟨(h.all i o hi).1,fun k hk=> .inr ⟨o,List.mem_of_getElem? hi,hk⟩⟩,h.apart⟩⟩
theorem dH.bun{p:Nat->Prop}{w:World}{Ls:List bI}(h:dH p w Ls):dH p w [Q4 Ls]:=
 dH.one ⟨fun i o hi=>⟨(h.all i o hi).1,fun _ _=>trivial⟩,h.apart⟩ fun k hk=>by
  obtain⟨o,ho,hk⟩:=Q5 hk;obtain⟨i,hi⟩:=List.getElem?_of_mem ho;exact(h.all i o hi).2 k hk
end bK
namespace bK
open Go.RowKit bO dc
theorem Q6(a:Int):(bO.dB a).length=1:=rfl
theorem rb(v:Value)(l:List Int)(w:World)(hs:Sl w v l.length (l.flatMap bO.dB))(pO:FuncId)(first cp:Array Value)(p:Int->Bool)(Ck:Enters Tryz.prog pO)
 (hp:∀a∈l,∀w',Gr w w'->Calls Tryz.prog pO (first++#[((bO.dB a).headD undef)]++cp) w' (bM (ret (.bool (p a))) w')):
 Calls Tryz.prog 209 #[v,.func (.func pO) first cp] w (bM (ret (.int .i64 (oY p l))) w):=by
 obtain⟨base,cap,rfl,nc,mj,ef⟩:=hs;unfold maxLen at mj;refine enter (args:=[.slice base l.length cap,.func (.func pO) first cp]) (n:=19) Tryz.func209 rfl rfl rfl ?_
 repeat(first|refine qv rfl (qp rfl) rfl rfl ?_|refine eL ?_|refine a8 ?_|refine aL ?_|refine GJ rfl ?_|refine GK rfl ?_|refine fN ?_|refine fO ?_|refine iv ?_|refine eB ?_|refine eZ ?_|refine eP ?_|refine eg ?_|refine dM ?_|refine dN ?_|refine dI ?_|refine dJ rfl ?_|refine qv rfl (py aT.eq rfl) rfl rfl ?_|refine qv rfl (bQ rfl rfl (qT (by omega))) rfl rfl ?_|refine qv rfl (bQ rfl rfl (qF (by omega))) rfl rfl ?_|refine qv rfl (cB rfl rfl (by omega) (by omega) rfl) rfl rfl ?_)
 refine dv (ι:=Nat) (fun k=>k<=l.length/\∀j (hj:j<l.length),j<k->p l[j]=false) (fun k=>[(0,.slice base l.length cap),(1,.func (.func pO) first cp),(7,.int .i64 l.length),(8,.int .i64 (k:Int))]) (fun _=>[]) (fun k=>l.length-k) 0 ⟨by omega,fun j hj h=>by omega⟩ ?_;rintro k ⟨h1,h2⟩
 by_cases c2:k<l.length
 ·obtain⟨b,off,rfl,hr⟩:=ef (by omega)
  have dF:=eN (L:=([]:List bI)) Q6 hr c2;have ir:=hp l[k] (List.getElem_mem c2)
  by_cases c3:p l[k]=true
  ·rw[qG c2 c3 h2]
   rw[c3]at ir;clear hp h2 ef
   repeat(first|refine qv rfl (qp rfl) rfl rfl ?_|refine eL ?_|refine a8 ?_|refine aL ?_|refine GJ rfl ?_|refine GK rfl ?_|refine fN ?_|refine fO ?_|refine iv ?_|refine eB ?_|refine eZ ?_|refine eP ?_|refine eg ?_|refine dM ?_|refine dN ?_|refine dI ?_|refine dJ rfl ?_|refine qv rfl (aC aT.eq ak.ty rfl rfl c2) rfl rfl ?_|refine qv rfl (J ak.ty rfl (dF 0 _ rfl)) rfl rfl ?_|refine qv rfl (py aT.eq rfl) rfl rfl ?_|refine qv rfl (bQ rfl rfl (qT (by omega))) rfl rfl ?_|refine qv rfl (bQ rfl rfl (qF (by omega))) rfl rfl ?_|refine qv rfl (cB rfl rfl (by omega) (by omega) rfl) rfl rfl ?_)
   refine aI (zU Ck rfl rfl) (fun w hm=>ir w hm.below) rfl rfl rfl ?_;intro _ _
   repeat(first|refine qv rfl (qp rfl) rfl rfl ?_|refine eL ?_|refine a8 ?_|refine aL ?_|refine GJ rfl ?_|refine GK rfl ?_|refine fN ?_|refine fO ?_|refine iv ?_|refine eB ?_|refine eZ ?_|refine eP ?_|refine eg ?_|refine dM ?_|refine dN ?_|refine dI ?_|refine dJ rfl ?_|refine qv rfl (py aT.eq rfl) rfl rfl ?_|refine qv rfl (bQ rfl rfl (qT (by omega))) rfl rfl ?_|refine qv rfl (bQ rfl rfl (qF (by omega))) rfl rfl ?_|refine qv rfl (cB rfl rfl (by omega) (by omega) rfl) rfl rfl ?_)
   exact db
  ·have Jp:p l[k]=false:=by simpa using c3
   rw[Jp]at ir;clear hp ef c3
   repeat(first|refine qv rfl (qp rfl) rfl rfl ?_|refine eL ?_|refine a8 ?_|refine aL ?_|refine GJ rfl ?_|refine GK rfl ?_|refine fN ?_|refine fO ?_|refine iv ?_|refine eB ?_|refine eZ ?_|refine eP ?_|refine eg ?_|refine dM ?_|refine dN ?_|refine dI ?_|refine dJ rfl ?_|refine qv rfl (aC aT.eq ak.ty rfl rfl c2) rfl rfl ?_|refine qv rfl (J ak.ty rfl (dF 0 _ rfl)) rfl rfl ?_|refine qv rfl (py aT.eq rfl) rfl rfl ?_|refine qv rfl (bQ rfl rfl (qT (by omega))) rfl rfl ?_|refine qv rfl (bQ rfl rfl (qF (by omega))) rfl rfl ?_|refine qv rfl (cB rfl rfl (by omega) (by omega) rfl) rfl rfl ?_)
   refine aI (zU Ck rfl rfl) (fun w hm=>ir w hm.below) rfl rfl rfl ?_;intro _ _
   repeat(first|refine qv rfl (qp rfl) rfl rfl ?_|refine eL ?_|refine a8 ?_|refine aL ?_|refine GJ rfl ?_|refine GK rfl ?_|refine fN ?_|refine fO ?_|refine iv ?_|refine eB ?_|refine eZ ?_|refine eP ?_|refine eg ?_|refine dM ?_|refine dN ?_|refine dI ?_|refine dJ rfl ?_|refine qv rfl (py aT.eq rfl) rfl rfl ?_|refine qv rfl (bQ rfl rfl (qT (by omega))) rfl rfl ?_|refine qv rfl (bQ rfl rfl (qF (by omega))) rfl rfl ?_|refine qv rfl (cB rfl rfl (by omega) (by omega) rfl) rfl rfl ?_)
   exact bB (k+1) ⟨by omega,fun j hj h=>if e:j<k then h2 j hj e else(by obtain rfl:j=k:=(by omega);exact Jp)⟩ (by show l.length-(k+1)<l.length-k;omega)
 ·rw[qH fun j hj=>h2 j hj (by omega)]
  clear hp h2 ef
  repeat(first|refine qv rfl (qp rfl) rfl rfl ?_|refine eL ?_|refine a8 ?_|refine aL ?_|refine GJ rfl ?_|refine GK rfl ?_|refine fN ?_|refine fO ?_|refine iv ?_|refine eB ?_|refine eZ ?_|refine eP ?_|refine eg ?_|refine dM ?_|refine dN ?_|refine dI ?_|refine dJ rfl ?_|refine qv rfl (py aT.eq rfl) rfl rfl ?_|refine qv rfl (bQ rfl rfl (qT (by omega))) rfl rfl ?_|refine qv rfl (bQ rfl rfl (qF (by omega))) rfl rfl ?_|refine qv rfl (cB rfl rfl (by omega) (by omega) rfl) rfl rfl ?_)
  exact db
theorem oH(v:Value)(l:List Int)(w:World)(hs:Sl w v l.length (l.flatMap bO.dB))(pO:FuncId)(first cp:Array Value)(p:Int->Bool)(Ck:Enters Tryz.prog pO)
 (hp:∀a∈l,∀w',Gr w w'->Calls Tryz.prog pO (first++#[((bO.dB a).headD undef)]++cp) w' (bM (ret (.bool (p a))) w')):
 Calls Tryz.prog 185 #[v,.func (.func pO) first cp] w (bM (ret (.bool (l.any p))) w):=by
 refine enter (args:=[v,.func (.func pO) first cp]) (n:=9) Tryz.func185 rfl rfl rfl ?_;have hh:=fun w' (hg:Gr w w')=>rb v l w' (hs.gr hg) pO first cp p Ck fun a ha DF s7=>hp a ha DF (hg.trans s7);have hr:=nS p l;rw[<-sP p l];generalize oY p l=r at*
 repeat(first|refine qv rfl (qp rfl) rfl rfl ?_|refine eL ?_|refine a8 ?_|refine aL ?_|refine iv ?_|refine eZ ?_|refine eg ?_|refine qv rfl (dO rfl rfl (qT (by omega))) rfl rfl ?_|refine qv rfl (dO rfl rfl (qF (by omega))) rfl rfl ?_)
 refine aI (eK aj.en rfl rfl rfl) (fun w hm=>hh _ hm.below) rfl rfl rfl ?_;intro _ _
 repeat(first|refine qv rfl (qp rfl) rfl rfl ?_|refine eL ?_|refine a8 ?_|refine aL ?_|refine iv ?_|refine eZ ?_|refine eg ?_|refine qv rfl (dO rfl rfl rfl) rfl rfl ?_|refine qv rfl (dO rfl rfl (qT (by omega))) rfl rfl ?_|refine qv rfl (dO rfl rfl (qF (by omega))) rfl rfl ?_)
 exact db
end bK
namespace bK
open Go.RowKit bO dc aB dy cL aY bT
def sI(σ:List Nat):List Int:=σ.reverse.map fun q:Nat=>(q:Int)
theorem qy(σ:List Nat):(sI σ).length=σ.length:=by unfold sI;simp
theorem tQ(q:Nat)(σ:List Nat):sI (q::σ)=sI σ++[(q:Int)]:=by unfold sI;simp
theorem KA(b:Nat)(σ:List Nat):sI (σ.drop b)=(sI σ).take (σ.length-b):=by
 unfold sI;rw[<-List.map_take,List.take_reverse]
 by_cases h:b<=σ.length
 ·rw[show σ.length-(σ.length-b)=b by omega]
 ·rw[List.drop_eq_nil_of_le (by omega),List.drop_eq_nil_of_le (by omega)]
theorem Q7{b:Nat}{σ ρ:List Nat}{r n:Nat}(h:σ.drop b=r::ρ)(hn:σ.length=n+1+b):(sI σ)[n]?=some (r:Int):=by
 have h1:=KA b σ;rw[h,tQ,show σ.length-b=n+1 by omega]at h1;have h2:ρ.length=n:=by
  have:=congrArg List.length h;rw[List.length_drop,List.length_cons]at this;omega
 have h3:((sI σ).take (n+1))[n]?=some (r:Int):=by
  rw[<-h1,List.getElem?_append_right (by rw[qy];omega),qy,h2,Nat.sub_self];rfl
 rwa [List.getElem?_take_of_lt (Nat.lt_succ_self n)]at h3
abbrev skR(w:World)(vs:Value)(σ:List Nat):Prop:=Sl w vs σ.length ((sI σ).flatMap bO.dB)
abbrev KB(vs:Value)(σ:List Nat):bI:=aM 3 1 vs σ.length ((sI σ).flatMap bO.dB)
def ry(vs:Value)(seen over:Int)(done:Bool):Value:= .agg #[vs,.int .i64 seen,.int .i64 over,.bool done]
theorem zr(aA:Option Addr)(nA cA:Nat)(vG:Value)(q:Int)(g5:Nat)(w:World)(h0:0<=q)(h1:q<(nA:Int))(hg:w.heap[g5]?=some (.cells (Value.agg #[.slice aA nA cA,vG]).cells 36 (0,0))):
 Calls Tryz.prog 186 #[.int .i64 q,.pointer (some ⟨g5,0,none⟩)] w (bM (ret (.bool false)) w):=by
 have hcell:∀(L:List bI),At w L ⟨g5,0,none⟩ (.slice aA nA cA):=fun L=>iw (by
  rw[cell_of_row w g5 0 _ _ _ hg];rfl)
 clear hg;refine enter (args:=[.int .i64 q,.pointer (some ⟨g5,0,none⟩)]) (n:=13) Tryz.func186 rfl rfl rfl ?_
 repeat(first|refine GC ?_|refine gV (bQ (b:=false) rfl rfl (decide_eq_false (by omega))) ?_|refine gV (J (v:= .slice aA nA cA) ak.ty rfl (hcell _)) ?_|refine gV (dO (b:=false) rfl rfl (decide_eq_false (by omega))) ?_|refine GB ?_)
 exact db
theorem rz(v t vs:Value)(g:dr)(T N:Nat)(A:List (List aY.Act))(G:List (List Int))(σ:List Nat)(seen col:Int)(w:World)(hG:iZ (fun k=>k<w.heap.size) w v g)(ht:ze w t A G)(hs:skR w vs σ)(hT:o8 g T N A G)(hq:∀q∈σ,q<A.length)(h0:0<σ.length)(hl:σ.length<=60)(h1:0<=seen)(h2:seen<=1099511627776)(h3:0<=col)(h4:col<=g.aF):
 Calls Tryz.prog 170 #[v,t,ry vs seen 0 false,.int .i64 col] w (bM (ret (.int .i64 0)) w):=by
 have gd:=fun w' (hg:Gr w w')=>rv v t g T N A G hT w' (hG.gr hg) (ht.gr hg);obtain⟨vp,rfl,hp,-,-⟩:=hG;obtain⟨bp,cp,rfl,-⟩:=hp;obtain⟨vA,vG,rfl,hA,Vo⟩:=ht;obtain⟨aA,cA,rfl,-,-⟩:=jK hA;clear hA Vo;have Rs:=fun w' (hg:Gr w w') g5 (hb:w'.heap[g5]?=some (.cells (Value.agg #[.slice aA A.length cA,vG]).cells 36 (0,0)))=>oH vs (sI σ) w' (by rw[qy];exact hs.gr hg) 186 #[] #[.pointer (some ⟨g5,0,none⟩)] (fun _=>false) aj.en (fun a ha DF s7=>by
  unfold sI at ha;obtain⟨q,ZZ,rfl⟩:=List.mem_map.1 ha;have:=hq q (List.mem_reverse.1 ZZ);exact zr aA A.length cA vG (q:Int) g5 DF (by omega) (by omega) (by rw[s7.block g5 (Array.getElem?_eq_some_iff.1 hb).1];exact hb))
 have MG:(sI σ).any (fun _=>false)=false:=by rw[List.any_eq_false];intro _ _ h;cases h
 rw[MG]at Rs;obtain⟨bs,cs,rfl,-⟩:=hs;refine enter (args:=[cO g.aF g.aU (.slice bp g.ag.length cp),.agg #[.slice aA A.length cA,vG],ry (.slice bs σ.length cs) seen 0 false,.int .i64 col]) (n:=66) Tryz.func170 rfl rfl rfl ?_;refine a8 (aL (a_ rfl rfl rfl fun g4=>?_));refine zL ?_;refine a_ rfl rfl rfl fun g5=>?_;refine zL ?_;refine a_ rfl rfl rfl fun g6=>?_;refine zL ?_
 repeat(first|refine GA ?_|refine gV (az (i:=0) ak.ty rfl rfl rfl) ?_|refine gV (az (i:=1) ak.ty rfl rfl rfl) ?_)
 refine aI (eK aj.en rfl rfl rfl) (fun w hm=>gd w hm.below) rfl rfl rfl ?_;intro _ _;refine zL ?_
 repeat(first|refine GA ?_|refine gV (J (v:= .slice bs σ.length cs) ak.ty rfl (ah (i:=2) rfl rfl)) ?_|refine gV (J (v:= .int .i64 seen) ak.ty rfl (ah (i:=2) rfl rfl)) ?_|refine gV (J (v:= .int .i64 0) ak.ty rfl (ah (i:=2) rfl rfl)) ?_|refine gV (J (v:= .bool false) ak.ty rfl (ah (i:=2) rfl rfl)) ?_|refine gV (J (v:= .int .i64 g.aF) ak.ty rfl (ah (i:=0) rfl rfl)) ?_|refine gV (nT rfl rfl) ?_)
 refine aI (eK aj.en rfl rfl rfl) (fun w hm=>Rs _ hm.below _ (hm.get (i:=1) rfl)) rfl rfl rfl ?_;intro _ _;refine zL ?_
 repeat(first|refine GA ?_|refine gV (J (v:= .int .i64 0) ak.ty rfl (ah (i:=2) rfl rfl)) ?_|refine gV (J (v:= .bool false) ak.ty rfl (ah (i:=2) rfl rfl)) ?_)
 exact db
theorem MY(g:Nat)(w:World):(Instr.build 161 #[(0,.slice (some ⟨g,0,none⟩) 1 1)]).run Tryz.prog w= .ok (ry (.slice (some ⟨g,0,none⟩) 1 1) 0 0 false) w:=by
 unfold ry;go_simp
theorem BM(seen e:Int)(w:World):(Instr.build 161 #[(1,.int .i64 seen),(2,.int .i64 e)]).run Tryz.prog w= .ok (ry (.slice none 0 0) seen e false) w:=by
 unfold ry;go_simp
theorem MZ(b:Option Addr)(m c:Nat)(seen:Int)(w:World):(Instr.build 161 #[(0,.slice b m c),(1,.int .i64 seen)]).run Tryz.prog w= .ok (ry (.slice b m c) seen 0 false) w:=by
 unfold ry;go_simp
theorem M0(seen:Int)(w:World):(Instr.build 161 #[(1,.int .i64 seen),(3,.bool true)]).run Tryz.prog w= .ok (ry (.slice none 0 0) seen 0 true) w:=by
 unfold ry;go_simp
def xi:Spec Value:=⟨fun _=>True,fun vt=>ry vt 0 0 false,fun vt=>[KB vt [0]]⟩
theorem Ar(w:World):Calls Tryz.prog 66 #[] w (bM xi w):=by
 refine enter (args:=[]) (n:=3) Tryz.func66 rfl rfl rfl ?_;refine a8 (aL (aK rfl fun g2=>?_));refine zL ?_
 try refine GA ?_
 refine dT (cs:=#[.int .i64 0]) [.int .i64 0] rfl rfl rfl (by intro v hv;simp at hv;subst hv;rfl) rfl rfl rfl fun g3=>?_;refine zL ?_
 repeat(first|refine QZ ?_|refine QV (aP rfl (MY _)) ?_)
 refine fa 0 (cs':=#[.slice (some ⟨g3,0,none⟩) 1 1,.int .i64 0,.int .i64 0,.bool false]) ?_;refine zL ?_;refine sL (i:=1) 1 rfl rfl (by omega) ?_;refine zL ?_
 try refine GA ?_
 exact eR (i:=0) rfl rfl rfl rfl fun w hm=>hm.meets (S:=xi) (.slice (some ⟨g3,0,none⟩) 1 1) trivial [1] (by decide) rfl
def Gi(R:Option (List Nat)):Spec Value:=⟨fun _=>True,fun v=> .tuple #[v,.bool R.isSome],fun v=>match R with|some σ'=>[KB v σ']|none=>[]⟩
theorem zt(v t vs:Value)(g:dr)(T N:Nat)(A:List (List aY.Act))(G:List (List Int))(σ:List Nat)(p:Nat)(w:World)(hG:iZ (fun k=>k<w.heap.size) w v g)(ht:ze w t A G)(hs:skR w vs σ)(hT:o8 g T N A G)(hq:∀q∈σ,q<A.length)(hl:σ.length<=60)(hp:p<g.ag.length):
    Calls Tryz.prog 187 #[v,t,vs,.int .i64 (p:Int)] w (bM (Gi (zo g.ag (eJ G) σ (p:Int))) w):=by
  obtain⟨hg,C1,ZA,uz,Ij,oM,Xm,TT,hwG,Qu⟩:=hT;obtain⟨hT1,hT2,-,V9,w6,W7⟩:=bV hg;have hpe:bU g.ag (p:Int)=g.ag[p]:=by unfold bU;rw[Int.toNat_natCast,List.getD_eq_getElem?_getD,List.getElem?_eq_getElem hp];rfl
  have hpp:=W7 _ (List.getElem_mem hp);obtain⟨vp,rfl,hpg,-,-⟩:=hG;obtain⟨bp,cp,rfl,-,-,lF⟩:=hpg;obtain⟨b1,o1,rfl,-,lF⟩:=lF (by omega);obtain⟨base,cap,ef,-,-⟩:=jC lF hp;clear lF;unfold zo;rw[hpe];have abA:∀L,At (w:bC) L ⟨b1,o1+p*2+0,none⟩ (.int .i64 g.ag[p].1):=fun L=>f_ ef rfl;have aar:∀L,At (w:bC) L ⟨b1,o1+p*2+1,none⟩ (.slice base g.ag[p].2.length cap):=fun L=>f_ ef rfl;clear ef hpe W7;generalize g.ag[p]=pr at*;obtain⟨hd,bd⟩:=pr;dsimp only at*;obtain⟨vA,vG,rfl,-,Vo⟩:=ht;obtain⟨aG,cG,rfl,-,-⟩:=jK Vo;obtain⟨bs,cs,rfl,hcs,Wq,ZW⟩:=hs;unfold maxLen at Wq;refine enter (args:=[cO g.aF g.aU (.slice (some ⟨b1,o1,none⟩) g.ag.length cp),.agg #[vA,.slice aG G.length cG],.slice bs σ.length cs,.int .i64 (p:Int)]) (n:=50) Tryz.func187 rfl rfl rfl ?_;refine a8 (aL (a_ rfl rfl rfl fun g4=>?_));refine zL ?_;refine a_ rfl rfl rfl fun g5=>?_;refine zL ?_
  by_cases c:σ.length<=bd.length
  · rw[List.drop_eq_nil_of_le c]
    repeat(first|refine GC ?_|refine gV (J (v:= .slice (some ⟨b1,o1,none⟩) g.ag.length cp) ak.ty rfl (ah (i:=0) rfl rfl)) ?_|refine gV (aC aT.eq ak.ty rfl rfl hp) ?_|refine gV (J (v:= .slice base bd.length cap) ak.ty rfl (aar _)) ?_|refine gV (df (r:=(σ.length:Int)-(bd.length:Int)) rfl rfl rfl (by omega) (by omega)) ?_|refine gV (bQ (b:=true) rfl rfl (decide_eq_true (by omega))) ?_|refine GB ?_)
    exact jk rfl rfl rfl fun w hm=>hm.meets (S:=Gi none) (.slice none 0 0) trivial [] (by decide) rfl
  obtain⟨n,hn⟩:∃n,σ.length=n+1+bd.length:=⟨σ.length-bd.length-1,by omega⟩;obtain⟨r,ρ,SD⟩:∃r ρ,σ.drop bd.length=r::ρ:=List.exists_cons_of_ne_nil fun e=>by
    have:=congrArg List.length e;rw[List.length_drop,List.length_nil]at this;omega
  have hgr:=Q7 SD hn;have hdI:=KA bd.length σ;rw[SD,tQ,show σ.length-bd.length=n+1 by omega]at hdI;have hrA:r<A.length:=hq r (List.mem_of_mem_drop (i:=bd.length) (by rw[SD];exact List.mem_cons_self ..));rw[SD];dsimp only;have Xp:r<G.length:=by omega
  obtain⟨b2,o2,rfl,y7⟩:=ZW (by omega);rw[EP]at y7;have o7:∀L,At (w:bC) L ⟨b2,o2+n,none⟩ (.int .i64 (r:Int)):=fun L=>f_ y7 (by rw[List.getElem?_map,hgr];rfl);have aas:∀L j u,(((sI σ).take (n+1)).flatMap bO.dB)[j]?=some u->At (w:bC) L ⟨b2,o2+j,none⟩ u:=fun L j u hj=>f_ y7 (by
    rw[EP,List.map_take,List.getElem?_take]at hj
    by_cases cc:j<n+1
    · rwa [if_pos cc]at hj
    · rw[if_neg cc]at hj;cases hj)
  clear y7 ZW;obtain⟨bG,oG,wi,rfl,hcG,Xo⟩:=De Vo Xp;have TV:∀L,At (w:bC) L ⟨bG,oG+r,none⟩ wi:=fun L=>iw hcG;clear hcG;obtain⟨ei,di,rfl,hdi,aae⟩:=jK Xo;have hfG:=Xo.flat (f:=fun n=>[Value.int .i64 n]) (by decide);obtain⟨_,_,e2,-,-,hrY⟩:=hfG
  cases e2
  have aci:=hwG r Xp;have hgo:=Qu r Xp;have K1:eJ G r hd=G[r].getD hd.toNat 0:=by unfold eJ;rw[List.getD_eq_getElem?_getD (l:=G),List.getElem?_eq_getElem Xp];rfl
  rw[K1];clear Xo K1 Qu hwG Xm TT Vo;generalize G[r]=Y at*;obtain⟨h,rfl⟩:=Int.eq_ofNat_of_zero_le hpp.2.1;have hhY:h<Y.length:=by omega
  obtain⟨b3,o3,rfl,F7⟩:=hrY (by omega);have hYh:Y[h]?=some (Y.getD h 0):=by rw[List.getD_eq_getElem?_getD,List.getElem?_eq_getElem hhY];rfl
  have Ws:∀L,At (w:bC) L ⟨b3,o3+h,none⟩ (.int .i64 (Y.getD h 0)):=fun L=>f_ F7 (by
    rw[show(Y.flatMap fun n=>[Value.int .i64 n])=Y.map (.int .i64)from EP Y,List.getElem?_map,hYh];rfl)
  have hto:=hgo _ (List.mem_of_getElem? hYh);clear F7 hrY hYh hgo;rw[show Y.getD ((h:Int)).toNat 0=Y.getD h 0 from rfl];generalize Y.getD h 0=Uo at*
  repeat(first|refine GC ?_|refine gV (J (v:= .slice (some ⟨b1,o1,none⟩) g.ag.length cp) ak.ty rfl (ah (i:=0) rfl rfl)) ?_|refine gV (aC aT.eq ak.ty rfl rfl hp) ?_|refine gV (J (v:= .slice base bd.length cap) ak.ty rfl (aar _)) ?_|refine gV (df (r:=((n+1:Nat):Int)) rfl rfl (by omega) (by omega) (by omega)) ?_|refine gV (bQ (b:=false) rfl rfl (decide_eq_false (by omega))) ?_|refine GB ?_)
  refine cU ([aw g4 (cO g.aF g.aU (.slice (some ⟨b1,o1,none⟩) g.ag.length cp)).cells 33,aw g5 (Value.agg #[vA,.slice (some ⟨bG,oG,none⟩) G.length cG]).cells 36]) (.calm 0 (.calm 1 (.calm 2 (.calm 3 (.calm 4 (.calm 5 (.calm 6 (.calm 7 (.calm 8 (.calm 9 (.calm 10 (.calm 11 (.calm 12 (.calm 13 (.calm 14 (.calm 15 (.calm 16 (.calm 17 (.done))))))))))))))))))) (fun _ h=>h) ?_
  repeat(first|(refine GN ?_;first|refine QW QP ?_|refine QW (J (v:= .slice (some ⟨bG,oG,none⟩) G.length cG) ak.ty rfl (ah (i:=1) rfl rfl)) ?_|refine QW (df (r:=(n:Int)) rfl rfl (by omega) (by omega) (by omega)) ?_|refine QW (bx (j:=n) aT.eq ak.ty rfl rfl (by omega)) ?_|refine QW (J (v:= .int .i64 (r:Int)) ak.ty rfl (o7 _)) ?_|refine QW (bx (j:=r) aT.eq ak.ty rfl rfl Xp) ?_|refine QW (J (v:= .slice (some ⟨b3,o3,none⟩) Y.length di) ak.ty rfl (TV _)) ?_|refine QW (J (v:= .slice (some ⟨b1,o1,none⟩) g.ag.length cp) ak.ty rfl (ah (i:=0) rfl rfl)) ?_|refine QW (aC aT.eq ak.ty rfl rfl hp) ?_|refine QW (J (v:= .int .i64 (h:Int)) ak.ty rfl (abA _)) ?_|refine QW (bx (j:=h) aT.eq ak.ty rfl rfl hhY) ?_|refine QW (J (v:= .int .i64 Uo) ak.ty rfl (Ws _)) ?_|refine GX ?_)|refine GW ?_)
  repeat(first|refine GC ?_|refine gV (V6 (j:=n+1) aT.eq ak.ty rfl rfl rfl (by omega)) ?_|refine GB ?_)
  refine eM (cs:=#[.int .i64 Uo]) rfl rfl rfl rfl rfl fun g46=>?_;refine zL ?_;refine Hc (q:=2) (m:=n+1) (olds:=((sI σ).take (n+1)).flatMap bO.dB) rfl (aas _) (by rw[EP,List.length_map,List.length_take,qy];show _=(n+1)*1;omega) rfl rfl rfl (by omega) (by omega) rfl fun v'=>?_;refine zL ?_
  by_cases c2:0<=Uo
  · rw[if_pos c2]
    have e:aM 3 1 v' (n+1+1) (((sI σ).take (n+1)).flatMap bO.dB++[.int .i64 Uo])=KB v' (Uo.toNat::r::ρ):=by
      have B7:(Uo.toNat::r::ρ).length=n+1+1:=by
        have:=congrArg List.length SD;rw[List.length_drop]at this;simp only[List.length_cons]at this⊢;omega
      show _=aM 3 1 v' (Uo.toNat::r::ρ).length ((sI (Uo.toNat::r::ρ)).flatMap bO.dB)
      rw[B7,tQ,tQ,hdI,List.flatMap_append,Int.toNat_of_nonneg c2];rfl
    repeat(first|refine GC ?_|refine gV (dO (b:=true) rfl rfl (decide_eq_true c2)) ?_|refine GB ?_)
    exact jk rfl rfl rfl fun w hm=>hm.meets (S:=Gi (some (Uo.toNat::r::ρ))) v' trivial [3] (by decide) (by show[_]=[_];rw[<-e];rfl)
  · rw[if_neg c2]
    repeat(first|refine GC ?_|refine gV (dO (b:=false) rfl rfl (decide_eq_false c2)) ?_|refine GB ?_)
    exact jk rfl rfl rfl fun w hm=>hm.meets (S:=Gi none) v' trivial [] (by decide) rfl
end bK
namespace bK
open Go.RowKit bO dc aB dy cL aY bT
theorem o8.right{g:dr}{T N:Nat}{A:List (List aY.Act)}{G:List (List Int)}(h:o8 g T N A G){q c:Nat}(hq:q<A.length)(hc:c<=T):qx T g.ag.length A.length (ib A q c) c:=by
 have h1:c<A[q].length:=by rw[h.wA q hq];omega
 have:=h.cK q hq c h1;unfold ib;rw[List.getD_eq_getElem?_getD (l:=A),List.getElem?_eq_getElem hq,Option.getD_some,List.getD_eq_getElem?_getD,List.getElem?_eq_getElem h1];exact this
theorem o8.go{g:dr}{T N:Nat}{A:List (List aY.Act)}{G:List (List Int)}(h:o8 g T N A G){q:Nat}{n:Int}(hq:q<A.length)(h0:0<=n)(h1:n<(N:Int)):eJ G q n<(A.length:Int):=by
 have hqG:q<G.length:=by rw[h.same];exact hq
 have h2:n.toNat<G[q].length:=by rw[h.wG q hqG];omega
 have:=(h.gos q hqG _ (List.getElem_mem h2)).2;unfold eJ;rw[List.getD_eq_getElem?_getD (l:=G),List.getElem?_eq_getElem hqG,Option.getD_some,List.getD_eq_getElem?_getD,List.getElem?_eq_getElem h2];exact this
theorem Dr{g:dr}{T N:Nat}{A:List (List aY.Act)}{G:List (List Int)}(h:o8 g T N A G){σ σ':List Nat}{p:Int}(h0:0<=p)(h1:p<(g.ag.length:Int))(hq:∀q∈σ,q<A.length)(hr:zo g.ag (eJ G) σ p=some σ'):σ'≠[]/\σ'.length<=σ.length+1/\∀q∈σ',q<A.length:=by
 unfold zo at hr
 cases e:σ.drop (bU g.ag p).2.length with
 |nil=>rw[e]at hr;cases hr
 | cons r ρ=>
  rw[e]at hr;dsimp only at hr;have iu:∀q∈r::ρ,q<A.length:=fun q xr=>hq q (List.mem_of_mem_drop (i:=(bU g.ag p).2.length) (by rw[e];exact xr));have hlen:(r::ρ).length<=σ.length:=by rw[<-e,List.length_drop];omega
  split at hr
  ·rename_i c
   obtain rfl:=Option.some.inj hr;have hh:=(bV h.Dg).2.2.2.2.2 _ (eo.rT h0 h1);have:=h.go (iu r (List.mem_cons_self ..)) hh.2.1 (by have:=h.aU;omega);refine⟨by simp,by simp only[List.length_cons]at hlen⊢;omega,fun q xr=>?_⟩;rcases List.mem_cons.1 xr with rfl|xr
   ·omega
   ·exact iu q xr
  ·cases hr
section
variable{l:List aB.Prod}{act:Nat->Nat->aY.Act}{gt:Nat->Int->Int}{col a f q:Nat}{σ:List Nat}{o:List cg}
theorem aat{m:Int}(h:act q col=(0,m)):fC l act gt col a (f+1) (q::σ) o=(13,[],[]):=by
 rw[fC,show(q::σ).headD 0=q from rfl,h,if_neg (by simp),if_neg (by simp),if_neg (by simp),if_neg (by simp)]
theorem Q8{x:aY.Act}(h:act q col=x)(h0:x.1≠0):fC l act gt col a 1 (q::σ) o=(14,[],[]):=by
 rw[fC,show(q::σ).headD 0=q from rfl,h,if_pos ⟨rfl,h0⟩]
theorem aau{m:Int}(h:act q col=(3,m)):fC l act gt col a (f+1+1) (q::σ) o=(0,q::σ,o):=by
 rw[fC,show(q::σ).headD 0=q from rfl,h,if_neg (fun h=>Nat.succ_ne_zero _ h.1),if_pos rfl]
theorem aav{m:Int}(h:act q col=(1,m)):fC l act gt col a (f+1+1) (q::σ) o=if 60<(q::σ).length+1 then(14,[],[])else(0,m.toNat::q::σ,o++[(2,(a:Int))]):=by
 rw[fC,show(q::σ).headD 0=q from rfl,h,if_neg (fun h=>Nat.succ_ne_zero _ h.1),if_neg (by simp),if_pos rfl]
theorem Vw{m:Int}(h:act q col=(2,m))(hr:zo l gt (q::σ) m=none):fC l act gt col a (f+1+1) (q::σ) o=(13,[],[]):=by
 rw[fC,show(q::σ).headD 0=q from rfl,h,if_neg (fun h=>Nat.succ_ne_zero _ h.1),if_neg (by simp),if_neg (by simp),if_pos rfl];dsimp only;rw[hr]
theorem aaw{m:Int}{σ':List Nat}(h:act q col=(2,m))(hr:zo l gt (q::σ) m=some σ'):fC l act gt col a (f+1+1) (q::σ) o=if 60<σ'.length then(14,[],[])else fC l act gt col a (f+1) σ' (o++[(4,m)]):=by
 rw[fC,show(q::σ).headD 0=q from rfl,h,if_neg (fun h=>Nat.succ_ne_zero _ h.1),if_neg (by simp),if_neg (by simp),if_pos rfl];dsimp only;rw[hr]
end
theorem xj{g:dr}{T N:Nat}{A:List (List aY.Act)}{G:List (List Int)}(h:o8 g T N A G){col a:Nat}(hc:col<=T):∀(f:Nat) {σ:List Nat} {o:List cg},σ≠[]->(∀q∈σ,q<A.length)->σ.length<=60->(fC g.ag (ib A) (eJ G) col a f σ o).1=0->
    (fC g.ag (ib A) (eJ G) col a f σ o).2.1≠[]/\(∀q∈(fC g.ag (ib A) (eJ G) col a f σ o).2.1,q<A.length)/\(fC g.ag (ib A) (eJ G) col a f σ o).2.1.length<=60/\(fC g.ag (ib A) (eJ G) col a f σ o).2.2.length<=o.length+f
  |0,_,_,_,_,_,h0=>by cases h0
  | f + 1,σ,o,hne,hq,hl,h0=>by
    obtain⟨q,σ,rfl⟩:=List.exists_cons_of_ne_nil hne;have O0:=h.right (hq q (List.mem_cons_self ..)) hc;generalize hx:ib A q col=x at O0;obtain⟨k,m⟩:=x
    by_cases ck:k=0
    · subst ck;rw[aat hx]at h0;cases h0
    cases f with
    |zero=>rw[Q8 hx ck]at h0;cases h0
    | succ f=>
      rcases O0 with⟨e,_⟩|⟨e,h1,h2,h3⟩|⟨e,h1,h2⟩|⟨e,_⟩<;>dsimp only at e<;>subst e
      · exact absurd rfl ck
      · rw[aav hx]at h0⊢
        by_cases c:60<(q::σ).length+1
        · rw[if_pos c]at h0;cases h0
        rw[if_neg c];refine⟨by simp,fun y hy=>?_,by simp only[List.length_cons]at c⊢;omega,by simp⟩;rcases List.mem_cons.1 hy with rfl|hy
        · dsimp only at h2 h3;omega
        · exact hq y hy
      · dsimp only at h1 h2
        cases hr:zo g.ag (eJ G) (q::σ) m with
        |none=>rw[Vw hx hr]at h0;cases h0
        | some σ'=>
          rw[aaw hx hr]at h0⊢
          by_cases c:60<σ'.length
          · rw[if_pos c]at h0;cases h0
          rw[if_neg c]at h0⊢;obtain⟨r1,r2,r3⟩:=Dr h h1 h2 hq hr;have:=xj h hc (f+1) (o:=o++[(4,m)]) r1 r3 (by omega) h0;refine⟨this.1,this.2.1,this.2.2.1,Nat.le_trans this.2.2.2 ?_⟩;rw[List.length_append,List.length_singleton];omega
      · rw[aau hx]
        exact⟨hne,hq,hl,by show o.length<=_;omega⟩
theorem aax{B:bC}{L:List bI}{i g cap:Nat}{q:Nat}{σ:List Nat}(hi:L[i]?=some (KB (.slice (some ⟨g,0,none⟩) (σ.length+1) cap) (q::σ))):At B L ⟨g,0+σ.length*1,none⟩ (.int .i64 (q:Int)):=
 kA (f:=bO.dB) EQ hi (k:=σ.length) (by rw[qy];simp) 0 _ (by
  have:(sI (q::σ))[σ.length]?=some (q:Int):=Q7 (b:=0) (ρ:=σ) rfl rfl;rw[List.getElem?_eq_some_iff]at this;obtain⟨_,h⟩:=this;rw[h];rfl)
theorem Uq{v:Value}{m:Int}{q:Nat}{σ:List Nat}(h:0<=m):aM 3 1 v (σ.length+1+1) ((sI (q::σ)).flatMap bO.dB++[.int .i64 m])=KB v (m.toNat::q::σ):=by
 show _=aM 3 1 v (m.toNat::q::σ).length ((sI (m.toNat::q::σ)).flatMap bO.dB)
 rw[tQ m.toNat,List.flatMap_append,Int.toNat_of_nonneg h];rfl
theorem KC{v:Value}{x:cg}{o:List cg}:aM 55 2 v (o.length+1) (o.flatMap dg++dg x)=kt v (o++[x]):=by
 show _=aM 55 2 v (o++[x]).length ((o++[x]).flatMap dg)
 rw[List.length_append,List.flatMap_append];simp
def nK(R:Int×List Nat×List cg):Spec (Value×Value):=⟨fun _=>True,fun x=>if R.1=0 then .tuple #[x.1,x.2,.int .i64 0]else .tuple #[.slice none 0 0,.slice none 0 0,.int .i64 R.1],fun x=>if R.1=0 then [KB x.1 R.2.1,kt x.2 R.2.2]else []⟩
theorem Gj{σ:List Nat}{o:List cg}:nK (0,σ,o)=⟨fun _=>True,fun x=> .tuple #[x.1,x.2,.int .i64 0],fun x=>[KB x.1 σ,kt x.2 o]⟩:=by unfold nK;simp
theorem Gk{e:Int}(he:e≠0){x:List Nat×List cg}:nK (e,x)=⟨fun _=>True,fun _=> .tuple #[.slice none 0 0,.slice none 0 0,.int .i64 e],fun _=>[]⟩:=by unfold nK;simp[he]
attribute [local irreducible] Instr.build in
theorem wa(v t vs:Value)(g:dr)(T N:Nat)(A:List (List aY.Act))(G:List (List Int))(sF:List Nat)(seen col:Nat)(w:World)(hG:iZ (fun k=>k<w.heap.size) w v g)(ht:ze w t A G)(hs:skR w vs sF)(hT:o8 g T N A G)(hq:∀q∈sF,q<A.length)(hne:sF≠[])(hl:sF.length<=60)(hc:col<=T):
    Calls Tryz.prog 172 #[v,t,ry vs (seen:Int) 0 false,.int .i64 (col:Int)] w (bM (nK (fC g.ag (ib A) (eJ G) col seen 2001 sF [])) w):=by
  have ir:=fun w' (hg:Gr w w')=>oQ vs (sI sF) w' (by rw[qy];exact hs.gr hg) (by rw[qy];omega);rw[qy]at ir;have ef:=fun lL σ p w' (hg:Gr w w') px xr V3 hp=>zt v t lL g T N A G σ p w' (hG.gr hg) (ht.gr hg) px hT xr V3 hp;have aay:=fun σ σ' p h0 h1 hq hr=>Dr (σ:=σ) (σ':=σ') (p:=p) hT h0 h1 hq hr;have O0:=fun q (hq:q<A.length)=>hT.right hq hc;have Xm:=hT.wA;clear hT;obtain⟨vp,rfl,-⟩:=hG;obtain⟨vA,vG,rfl,hA,-⟩:=ht;obtain⟨aA,cA,rfl,-,-⟩:=jK hA;refine enter (args:=[cO g.aF g.aU vp,.agg #[.slice aA A.length cA,vG],ry vs (seen:Int) 0 false,.int .i64 (col:Int)]) (n:=87) Tryz.func172 rfl rfl rfl ?_;refine a8 (aL (a_ rfl rfl rfl fun g4=>?_));refine zL ?_;refine a_ rfl rfl rfl fun g5=>?_;refine zL ?_;refine a_ rfl rfl rfl fun g6=>?_;refine zL ?_
  repeat(first|refine GA ?_|refine gV (J (v:=vs) ak.ty rfl (ah (i:=2) rfl rfl)) ?_)
  refine aI (jc aj.en rfl rfl) (fun w hm=>ir w hm.below) rfl rfl rfl ?_;intro kH _;refine zL ?_
  try refine GA ?_
  refine g_ 55 2 ?_;generalize hR:fC g.ag (ib A) (eJ G) col seen 2001 sF []=R;clear ir hs;refine dv (ι:=Nat×List Nat×List cg×Value×Value) (fun(f,σ,o,_,_)=>fC g.ag (ib A) (eJ G) col seen f σ o=R/\f<=2001/\1<=f/\o.length+f<=2001/\σ≠[]/\σ.length<=60/\∀q∈σ,q<A.length)
    (fun(f,_,_,vs,vo)=>[(3,.int .i64 (col:Int)),(4,.pointer (some ⟨g4,0,none⟩)),(5,.pointer (some ⟨g5,0,none⟩)),(6,.pointer (some ⟨g6,0,none⟩)),(11,vs),(12,vo),(13,.int .i64 ((2001-f:Nat):Int))])
    (fun(_,σ,o,lL,vo)=>[aw g4 (cO g.aF g.aU vp).cells 33,aw g5 (Value.agg #[.slice aA A.length cA,vG]).cells 36,aw g6 (ry vs (seen:Int) 0 false).cells 161,KB lL σ,kt vo o]) (fun(f,_,_,_,_)=>f) (2001,sF,[],kH,.slice none 0 0) ⟨hR,by omega,by omega,by simp,hne,hl,hq⟩ ?_
  clear hR hne hl hq;rintro⟨f,σ,o,lL,vo⟩ ⟨i1,i2,i3,i4,i5,i6,i7⟩;dsimp only at i1 i2 i3 i4 i5 i6 i7⊢;obtain⟨q,σ,rfl⟩:=List.exists_cons_of_ne_nil i5;obtain⟨f,rfl⟩:∃f',f=f'+1:=⟨f-1,by omega⟩;have hqA:=i7 q (List.mem_cons_self ..);have abB:=O0 q hqA;obtain⟨bA,oA,wi,rfl,hcA,Xn⟩:=De hA hqA;have TU:∀L,At (w:bC) L ⟨bA,oA+q,none⟩ wi:=fun L=>iw hcA;obtain⟨ei,di,rfl,hdi,aae⟩:=jK Xn;have hfA:=Xn.flat (f:=iR) (by decide);obtain⟨_,_,e2,-,-,hrX⟩:=hfA
  cases e2
  have acj:=Xm q hqA;have hxe:ib A q col=A[q].getD col (0,0):=by unfold ib;rw[List.getD_eq_getElem?_getD (l:=A),List.getElem?_eq_getElem hqA];rfl
  have hcX:col<A[q].length:=by omega
  obtain⟨b3,o3,rfl,F7⟩:=hrX (by omega);have dF:=fun L=>eN (L:=L) nF F7 hcX;have aaz:A[q][col]=ib A q col:=by rw[hxe,List.getD_eq_getElem?_getD,List.getElem?_eq_getElem hcX];rfl
  rw[aaz]at dF;have yG:∀(L:List bI) (j:Nat) (u:Value),(iR (ib A q col))[j]?=some u->At (w:bC) L ⟨b3,o3+col*2+j,none⟩ u:=dF;clear dF F7 hrX hxe aaz Xn hcA Xm hA O0;generalize A[q]=X at*;generalize hx:ib A q col=x at*;refine rM (i:=3) rfl (by simp) fun gs cs hv q1 q2=>?_;subst hv;simp only[List.length_cons]at i4 i6 q1⊢
  try refine GA ?_
  refine cU ([aw g5 (Value.agg #[.slice (some ⟨bA,oA,none⟩) A.length cA,vG]).cells 36,KB (.slice (some ⟨gs,0,none⟩) (σ.length+1) cs) (q::σ)]) (.calm 0 (.calm 1 (.calm 2 (.calm 3 (.calm 4 (.calm 5 (.calm 6 (.calm 7 (.calm 8 (.calm 9 (.calm 10 (.calm 11 (.calm 12 (.one 13 (.one 14 (.done)))))))))))))))) (bz [1,3]) ?_
  repeat(first|(refine GN ?_;first|refine QW QP ?_|refine QW (J (v:= .slice (some ⟨bA,oA,none⟩) A.length cA) ak.ty rfl (ah (i:=0) rfl rfl)) ?_|refine QW (df (r:=(σ.length:Int)) rfl rfl (by omega) (by omega) (by omega)) ?_|refine QW (aC (j:=σ.length) aT.eq ak.ty rfl rfl (by omega)) ?_|refine QW (J (v:= .int .i64 (q:Int)) ak.ty rfl (aax (i:=1) rfl)) ?_|refine QW (bx (j:=q) aT.eq ak.ty rfl rfl hqA) ?_|refine QW (J (v:= .slice (some ⟨b3,o3,none⟩) X.length di) ak.ty rfl (TU _)) ?_|refine QW (aC (j:=col) aT.eq ak.ty rfl rfl hcX) ?_|refine QW (aH (cs:=iR x) ak.ty rfl rfl (yG _)) ?_|refine GX ?_)|refine GW ?_)
  refine ap rfl (aK rfl fun g14=>?_);refine zL ?_;refine av (bz [1,3]) ?_;refine ap rfl (aE (i:=5) (cs':=(iR x).toArray) rfl rfl rfl rfl rfl rfl ?_);refine zL ?_;refine av (bz [1,3]) ?_
  try refine GW ?_
  obtain⟨k,m⟩:=x;have Ds:((2001-(f+1):Nat):Int)=2000↔f=0:=by omega
  by_cases ck:k=0
  · subst ck
    rw[aat hx]at i1;subst i1
    by_cases c0:f=0
    · repeat(first|refine GC ?_|refine gV (bL (b:=true) rfl rfl (decide_eq_true (Ds.2 c0))) ?_|refine gV (J (v:= .int .i64 0) ak.ty rfl (ah (i:=5) rfl rfl)) ?_|refine GB ?_)
      exact j0 rfl rfl rfl rfl fun w hm=>hm.meets (S:=nK (13,[],[])) (.slice none 0 0,.slice none 0 0) trivial [] (by decide) rfl
    · repeat(first|refine GC ?_|refine gV (bL (b:=false) rfl rfl (decide_eq_false fun h=>c0 (Ds.1 h))) ?_|refine gV (J (v:= .int .i64 0) ak.ty rfl (ah (i:=5) rfl rfl)) ?_|refine GB ?_)
      exact j0 rfl rfl rfl rfl fun w hm=>hm.meets (S:=nK (13,[],[])) (.slice none 0 0,.slice none 0 0) trivial [] (by decide) rfl
  by_cases c0:f=0
  · subst c0
    rw[Q8 hx ck]at i1;subst i1
    repeat(first|refine GC ?_|refine gV (bL (b:=true) rfl rfl (decide_eq_true (Ds.2 rfl))) ?_|refine gV (J (v:= .int .i64 k) ak.ty rfl (ah (i:=5) rfl rfl)) ?_|refine gV (bm (b:=true) rfl rfl (decide_eq_true ck)) ?_|refine GB ?_)
    exact j0 rfl rfl rfl rfl fun w hm=>hm.meets (S:=nK (14,[],[])) (.slice none 0 0,.slice none 0 0) trivial [] (by decide) rfl
  have Ds:¬((2001-(f+1):Nat):Int)=2000:=fun h=>c0 (Ds.1 h);obtain⟨f,rfl⟩:∃f',f=f'+1:=⟨f-1,by omega⟩;rcases abB with⟨e,_⟩|⟨e,h1,h2,h3⟩|⟨e,h1,h2⟩|⟨e,_⟩<;>dsimp only at e<;>subst e
  · exact absurd rfl ck
  · dsimp only at h1 h2 h3
    rw[aav hx]at i1
    repeat(first|refine GC ?_|refine gV (bL (b:=false) rfl rfl (decide_eq_false Ds)) ?_|refine gV (J (v:= .int .i64 1) ak.ty rfl (ah (i:=5) rfl rfl)) ?_|refine GB ?_)
    refine cU ([aw g6 (ry vs (seen:Int) 0 false).cells 161,aw g14 (iR (1,m)).toArray 94]) (.calm 0 (.calm 1 (.calm 2 (.calm 5 (.calm 6 (.calm 7 (.calm 8 (.two 3 (.two 4 (.one 9 (.one 10 (.calm 11 (.calm 12 (.done))))) 9 (.one 4 (.one 10 (.calm 11 (.calm 12 (.done)))))) 9 (.one 3 (.one 4 (.one 10 (.calm 11 (.calm 12 (.done)))))))))))))) (bz [2,5]) ?_
    repeat(first|refine GW ?_|(refine GN ?_;first|refine QW (J (v:= .int .i64 m) ak.ty rfl (ah (i:=1) rfl rfl)) ?_|refine QW (J (v:= .int .i64 (seen:Int)) ak.ty rfl (ah (i:=0) rfl rfl)) ?_|refine QW (aP rfl (uq _ _)) ?_))
    refine dE rfl rfl ?bw1 ?bw2
    case' bw1=>
      refine eM (cs:=#[.int .i64 m]) rfl rfl rfl rfl rfl fun g52=>av (bz [2,5]) ?_;refine dE rfl rfl ?bw3 ?bw4
    case' bw3=>
      refine jd (i:=3) (q:=6) rfl rfl rfl rfl rfl rfl (by simp only[List.length_cons];omega) (by simp only[List.length_cons];omega) rfl fun v3=>av (bz [2,5]) ?_;refine ap rfl (eM (cs:=(dg (2,(seen:Int))).toArray) rfl rfl rfl rfl rfl fun g58=>av (bz [2,5]) ?_);refine ap rfl (kr (i:=4) (q:=7) rfl rfl rfl rfl rfl rfl (by omega) (by omega) rfl fun v4=>av (bz [2,5]) ?_)
    case' bw4=>
      refine eM (cs:=(dg (2,(seen:Int))).toArray) rfl rfl rfl rfl rfl fun g58=>av (bz [2,5]) ?_;refine ap rfl (jd (i:=3) (q:=6) rfl rfl rfl rfl rfl rfl (by simp only[List.length_cons];omega) (by simp only[List.length_cons];omega) rfl fun v3=>av (bz [2,5]) ?_);refine ap rfl (kr (i:=4) (q:=7) rfl rfl rfl rfl rfl rfl (by omega) (by omega) rfl fun v4=>av (bz [2,5]) ?_)
    case' bw2=>
      refine eM (cs:=(dg (2,(seen:Int))).toArray) rfl rfl rfl rfl rfl fun g58=>av (bz [2,5]) ?_;refine ap rfl (eM (cs:=#[.int .i64 m]) rfl rfl rfl rfl rfl fun g52=>av (bz [2,5]) ?_);refine ap rfl (jd (i:=3) (q:=7) rfl rfl rfl rfl rfl rfl (by simp only[List.length_cons];omega) (by simp only[List.length_cons];omega) rfl fun v3=>av (bz [2,5]) ?_);refine ap rfl (kr (i:=4) (q:=6) rfl rfl rfl rfl rfl rfl (by omega) (by omega) rfl fun v4=>av (bz [2,5]) ?_)
    all_goals
      try refine GW ?_
      by_cases c6:60<(q::σ).length+1
      · rw[if_pos c6]at i1
        subst i1
        repeat(first|refine GC ?_|refine gV (cJ (i:=3) aT.eq rfl rfl) ?_|refine gV (dj (b:=true) rfl rfl (decide_eq_true (by omega))) ?_|refine GB ?_)
        exact j0 rfl rfl rfl rfl fun w hm=>hm.meets (S:=nK (14,[],[])) (.slice none 0 0,.slice none 0 0) trivial [] (by decide) rfl
      · rw[if_neg c6]at i1
        subst i1
        repeat(first|refine GC ?_|refine gV (cJ (i:=3) aT.eq rfl rfl) ?_|refine gV (dj (b:=false) rfl rfl (decide_eq_false (by omega))) ?_|refine gV (J (v:= .int .i64 1) ak.ty rfl (ah (i:=5) rfl rfl)) ?_|refine GB ?_)
        exact j0 rfl rfl rfl rfl fun w hm=>hm.meets (S:=nK (0,m.toNat::q::σ,o++[(2,(seen:Int))])) (v3,v4) trivial [3,4] (by decide) (by
          show[KB v3 (m.toNat::q::σ),kt v4 (o++[(2,(seen:Int))])]=_
          rw[<-Uq h2,<-KC];rfl)
  · dsimp only at h1 h2
    obtain⟨pn,rfl⟩:=Int.eq_ofNat_of_zero_le h1;have aaA:=fun w' s7 px=>ef (.slice (some ⟨gs,0,none⟩) (σ.length+1) cs) (q::σ) pn w' s7 px i7 (by simp only[List.length_cons];omega) (by omega);have Ld:=fun σ'=>aay (q::σ) σ' (pn:Int) h1 h2 i7;have abC:=fun hr=>@Vw g.ag (ib A) (eJ G) col seen f q σ o (pn:Int) hx hr;have K_:=fun σ' hr=>@aaw g.ag (ib A) (eJ G) col seen f q σ o (pn:Int) σ' hx hr;generalize zo g.ag (eJ G) (q::σ) (pn:Int)=R2 at*;clear ef aay
    cases R2 with
    | none=>
      rw[abC rfl]at i1;subst i1
      repeat(first|refine GC ?_|refine gV (bL (b:=false) rfl rfl (decide_eq_false Ds)) ?_|refine gV (J (v:= .int .i64 2) ak.ty rfl (ah (i:=5) rfl rfl)) ?_|refine gV (az (i:=0) ak.ty rfl rfl rfl) ?_|refine gV (az (i:=1) ak.ty rfl rfl rfl) ?_|refine gV (J (v:= .int .i64 (pn:Int)) ak.ty rfl (ah (i:=5) rfl rfl)) ?_|refine GB ?_)
      refine aI (G7 aj.en rfl rfl rfl rfl rfl) (fun w' hm=>aaA w' hm.below (Sl.cI (hm.get (i:=3) rfl))) rfl rfl rfl ?_;intro v2 _
      conv=>arg 8;simp only[zJ,bZ,ret,id_eq,Gi]
      conv=>arg 7;simp only[Gi]
      try refine GA ?_
      exact j0 rfl rfl rfl rfl fun w hm=>hm.meets (S:=nK (13,[],[])) (.slice none 0 0,.slice none 0 0) trivial [] (by decide) rfl
    | some σ'=>
      rw[K_ σ' rfl]at i1;obtain⟨k1,k2,k3⟩:=Ld σ' rfl;simp only[List.length_cons]at k2
      repeat(first|refine GC ?_|refine gV (bL (b:=false) rfl rfl (decide_eq_false Ds)) ?_|refine gV (J (v:= .int .i64 2) ak.ty rfl (ah (i:=5) rfl rfl)) ?_|refine gV (az (i:=0) ak.ty rfl rfl rfl) ?_|refine gV (az (i:=1) ak.ty rfl rfl rfl) ?_|refine gV (J (v:= .int .i64 (pn:Int)) ak.ty rfl (ah (i:=5) rfl rfl)) ?_|refine GB ?_)
      refine aI (G7 aj.en rfl rfl rfl rfl rfl) (fun w' hm=>aaA w' hm.below (Sl.cI (hm.get (i:=3) rfl))) rfl rfl rfl ?_;intro v2 _
      conv=>arg 8;simp only[zJ,bZ,ret,id_eq,Gi]
      conv=>arg 7;simp only[Gi]
      repeat(first|refine GA ?_|refine gV (J (v:= .int .i64 (pn:Int)) ak.ty rfl (ah (i:=5) rfl rfl)) ?_|refine gV (aP rfl (uq _ _)) ?_)
      refine iy (i:=4) rfl rfl rfl rfl rfl rfl rfl (fun z h=>by cases h;rfl) (by omega) (by omega) rfl fun z4 v4=>?_;refine zL ?_
      by_cases c6:60<σ'.length
      · rw[if_pos c6]at i1
        subst i1
        repeat(first|refine GC ?_|refine gV (cJ (i:=6) aT.eq rfl rfl) ?_|refine gV (dj (b:=true) rfl rfl (decide_eq_true (by omega))) ?_|refine GB ?_)
        exact j0 rfl rfl rfl rfl fun w hm=>hm.meets (S:=nK (14,[],[])) (.slice none 0 0,.slice none 0 0) trivial [] (by decide) rfl
      · rw[if_neg c6]at i1
        repeat(first|refine GC ?_|refine gV (cJ (i:=6) aT.eq rfl rfl) ?_|refine gV (dj (b:=false) rfl rfl (decide_eq_false (by omega))) ?_|refine gV (J (v:= .int .i64 2) ak.ty rfl (ah (i:=5) rfl rfl)) ?_|refine gV (cB (r:=((2001-(f+1):Nat):Int)) rfl rfl (by omega) (by omega) (by omega)) ?_|refine GB ?_)
        refine cD [0,1,2,6,4] ?_;exact bB (f+1,σ',o++[(4,(pn:Int))],v2,v4) ⟨i1,by omega,by omega,by show(o++[(4,(pn:Int))]).length+(f+1)<=2001;rw[List.length_append,List.length_singleton];omega,k1,by show σ'.length<=60;omega,k3⟩ (by show f+1<f+1+1;omega) (hl:=by rw[<-KC];rfl)
  · rw[aau hx]at i1
    subst i1
    repeat(first|refine GC ?_|refine gV (bL (b:=false) rfl rfl (decide_eq_false Ds)) ?_|refine gV (J (v:= .int .i64 3) ak.ty rfl (ah (i:=5) rfl rfl)) ?_|refine GB ?_)
    exact j0 rfl rfl rfl rfl fun w hm=>hm.meets (S:=nK (0,q::σ,o)) (.slice (some ⟨gs,0,none⟩) (σ.length+1) cs,vo) trivial [3,4] (by decide) rfl
end bK
namespace oI
open aB dy gI k7 aY bT bK
abbrev PS:=List TD×List Nat
def KD:PS:=([.sym (2,0)],[0])
def iJ(m:Md)(b:Bool)(p:PS)(a:Nat)(t:Int):Int×PS×List cg:=
 if b then((kF m.g.ag (iS m.rows t.toNat) p.1 a t).1,((kF m.g.ag (iS m.rows t.toNat) p.1 a t).2.1,p.2),(kF m.g.ag (iS m.rows t.toNat) p.1 a t).2.2)
 else((fC m.g.ag (ib m.A) (eJ m.G) t.toNat a 2001 p.2 []).1,(p.1,(fC m.g.ag (ib m.A) (eJ m.G) t.toNat a 2001 p.2 []).2.1),(fC m.g.ag (ib m.A) (eJ m.G) t.toNat a 2001 p.2 []).2.2)
def my(m:Md)(b:Bool)(p:PS)(a:Nat):Int×List cg:=
 if b then r8 m.g.ag (iS m.rows m.g.aF.toNat) p.1
 else((fC m.g.ag (ib m.A) (eJ m.G) m.g.aF.toNat a 2001 p.2 []).1,(fC m.g.ag (ib m.A) (eJ m.G) m.g.aF.toNat a 2001 p.2 []).2.2)
def KE(m:Md)(b:Bool)(p:PS):Prop:=if b then(∀d∈p.1,pR m.g d)/\p.1.length<=60 else p.2≠[]/\(∀q∈p.2,q<m.A.length)/\p.2.length<=60
structure mg(m:Md)(b:Bool)(T N:Nat):Prop extends zf m where
 md:m.mode=if b then 1 else 2
 tT:m.g.aF=T
 nN:m.g.aU=N
 ll:b=true->Dd m.g m.rows=0/\F6 m.g m.rows T N
 lr:b=false->o8 m.g T N m.A m.G
def lc(m:Md)(t:Tok):Int:=m.of.getD t.1.toNat 0
def zP(m:Md)(b:Bool):List Tok->PS->Nat->List cg->Option (Int×Nat)×List cg×PS×Nat
  |[],p,a,out=>(none,out,p,a)
  | t::r,p,a,out=>
    if lc m t<0 then zP m b r p a out
    else if(iJ m b p a (lc m t)).1≠0 then(some ((iJ m b p a (lc m t)).1,t.2.1),out,p,a)
    else zP m b r (iJ m b p a (lc m t)).2.1 (a+1) (out++(iJ m b p a (lc m t)).2.2)
theorem qz(m:Md)(b:Bool)(t:Tok)(r:List Tok)(p:PS)(a:Nat)(out:List cg):zP m b (t::r) p a out=
 if lc m t<0 then zP m b r p a out
 else if(iJ m b p a (lc m t)).1≠0 then(some ((iJ m b p a (lc m t)).1,t.2.1),out,p,a)
 else zP m b r (iJ m b p a (lc m t)).2.1 (a+1) (out++(iJ m b p a (lc m t)).2.2):=rfl
def dW(m:Md)(b:Bool)(L:List Tok×Nat×Int)(n:Nat):List cg×Int×Nat:=
 match zP m b L.1 KD 0 []with
 |(some x,out,_,_)=>(out,x)
 |(none,out,p,a)=>if L.2.2≠0 then(out,L.2.2,L.2.1)else(out++(my m b p a).2,(my m b p a).1,n)
def dX(m:Md)(b:Bool)(s:List UInt8):List cg×Int×Nat:=dW m b (nJ m.o m.N m.tags s) s.length
theorem sw{o:Of}{N:List (List Int)}{tags:List Int}{n:Int}(hn:0<n)(ht:∀t∈tags,t<n):∀(s:List UInt8) (i:Nat) (now r:Int) (t:Nat),0<=r->r<n->0<=(mc o N tags s i now r t).1/\(mc o N tags s i now r t).1<n
  |[],_,_,_,_,h0,h1=>⟨h0,h1⟩
  | b ::s,i,now,r,t,h0,h1=>by
    rw[oD]
    by_cases c:wB o N now b<0
    · rw[if_pos c];exact⟨h0,h1⟩
    · rw[if_neg c]
      by_cases c2:0<=tags.getD (wB o N now b).toNat 0
      · rw[if_pos c2]
        refine sw hn ht s _ _ _ _ c2 ?_;rw[List.getD_eq_getElem?_getD]
        cases e:tags[(wB o N now b).toNat]? with
        |none=>exact hn
        |some z=>exact ht z (List.mem_of_getElem? e)
      · rw[if_neg c2];exact sw hn ht s _ _ _ _ h0 h1
theorem sx{o:Of}{N:List (List Int)}{tags:List Int}{n:Int}(hn:0<n)(ht:∀t∈tags,t<n)(s:List UInt8):∀(f a:Nat),∀t∈(jv o N tags s f a).1,0<=t.1/\t.1<n
  |0,_,_,h=>by cases h
  | f + 1,a,t,h=>by
    rw[me]at h;split at h
    · split at h
      · cases h
      · rcases List.mem_cons.1 h with rfl|h
        · exact sw hn ht _ _ _ _ _ (Int.le_refl 0) hn
        · exact sx hn ht s f _ t h
    · cases h
theorem zu:∀{l:List Tok} {e:Nat},I2 l e->l.length+e<=uP l e
 |[],_,_=>by simp[uP]
 |t::l,e,⟨h1,h2,h3⟩=>by
  have:=zu h3;simp only[List.length_cons,uP];omega
theorem Q9{o:Of}{N:List (List Int)}{tags:List Int}(s:List UInt8):(nJ o N tags s).1.length<=s.length/\(nJ o N tags s).2.1<=s.length:=by
 obtain⟨h1,h2⟩:=oE (o:=o) (N:=N) (tags:=tags) (s:=s) (s.length+1) 0 (Nat.zero_le _) (by omega);have h3:=zu h1;unfold nJ;rcases h2 with⟨h4,h5⟩|⟨h4,h5,h6⟩
 ·rw[h4];exact⟨by omega,Nat.zero_le _⟩
 ·exact⟨by omega,by omega⟩
theorem Q_{o:Of}{N:List (List Int)}{tags:List Int}(s:List UInt8):(nJ o N tags s).2.2=0\/(nJ o N tags s).2.2=9:=by
 obtain⟨_,h2⟩:=oE (o:=o) (N:=N) (tags:=tags) (s:=s) (s.length+1) 0 (Nat.zero_le _) (by omega);rcases h2 with⟨h4,_⟩|⟨h4,_⟩
 ·exact .inl (congrArg Prod.snd h4)
 ·exact .inr h4
theorem Vx{m:Md}{b:Bool}{T N:Nat}(h:mg m b T N):KE m b KD:=by
 have hg:=bV h.GU
 cases b with
 |true=>
  refine⟨fun d hd=>?_,by decide⟩;simp only[KD,List.mem_singleton]at hd;subst hd;unfold pR right;simp;omega
 |false=>
  refine⟨by decide,fun q hq=>?_,by decide⟩;simp only[KD,List.mem_singleton]at hq;subst hq;exact(h.lr rfl).pos
theorem BN{m:Md}{b:Bool}{T N:Nat}(h:mg m b T N){p:PS}(hp:KE m b p){a:Nat}{t:Int}(ht:t<T)(h0:(iJ m b p a t).1=0):KE m b (iJ m b p a t).2.1/\(iJ m b p a t).2.2.length<=2001:=by
 cases b with
 |true=>
  obtain⟨h1,h2⟩:=hp;obtain⟨h3,h4,h5⟩:=Ss h.GU ((h.ll rfl).2.nx t.toNat) rfl h0 h1 h2;exact⟨⟨h3,h4⟩,by show _<=2001;exact Nat.le_succ_of_le h5⟩
 |false=>
  obtain⟨h1,h2,h3⟩:=hp;obtain⟨h4,h5,h6,h7⟩:=xj (h.lr rfl) (col:=t.toNat) (a:=a) (by omega) 2001 h1 h2 h3 h0;simp only[List.length_nil,Nat.zero_add]at h7;exact⟨⟨h4,h5,h6⟩,h7⟩
theorem Gm{l:List aB.Prod}{act:Nat->Nat->aY.Act}{gt:Nat->Int->Int}{col a:Nat}:∀(f:Nat) (σ:List Nat) (o:List cg),(fC l act gt col a f σ o).1≠0->(fC l act gt col a f σ o).2.2=[]
  |0,σ,o,_=>by unfold fC;rfl
  | f + 1, σ, o,h=>by
    unfold fC at h⊢;split at h
    · rename_i c;rw[if_pos c]
    · rename_i c;rw[if_neg c]
      split at h
      · exact absurd rfl h
      · rename_i c2;rw[if_neg c2]
        split at h
        · rename_i c3;rw[if_pos c3]
          split at h
          · rename_i c4;rw[if_pos c4]
          · exact absurd rfl h
        · rename_i c3;rw[if_neg c3]
          split at h
          · rename_i c4;rw[if_pos c4]
            cases hr:zo l gt σ (act (σ.headD 0) col).2 with
            |none=>rfl
            | some σ'=>
              rw[hr]at h;dsimp only at h⊢;split at h
              · rename_i c5;rw[if_pos c5]
              · rename_i c5;rw[if_neg c5];exact Gm f _ _ h
          · rename_i c4;rw[if_neg c4]
theorem Gn{m:Md}{b:Bool}{T N:Nat}(h:mg m b T N){p:PS}(hp:KE m b p){a:Nat}:((my m b p a).1=0->(my m b p a).2.length<=2001)/\((my m b p a).1≠0->(my m b p a).2=[]):=by
 cases b with
 | true=>
  rcases Lz (l:=m.g.ag) (nx:=iS m.rows m.g.aF.toNat) (st:=p.1) rfl with⟨h1,h2⟩|⟨a1,h1,h2⟩
  ·exact⟨fun h0=>by have:(my m true p a).1=_:=rfl;rcases h1 with h1|h1<;>exact absurd (h1.symm.trans h0) (by decide),fun _=>h2⟩
  ·obtain⟨_,h3,h4,_⟩:=tf h1 rfl hp.2 (Nat.zero_le _)
   refine⟨fun _=>?_,fun h0=>absurd h2 h0⟩;show(r8 m.g.ag (iS m.rows m.g.aF.toNat) p.1).2.length<=2001
   dsimp only at h3 h4;simp only[List.length_nil]at h4;omega
 |false=>
  obtain⟨h1,h2,h3⟩:=hp;refine⟨fun h0=>?_,fun h0=>Gm _ _ _ h0⟩;obtain⟨h4,h5,h6,h7⟩:=xj (h.lr rfl) (col:=m.g.aF.toNat) (a:=a) (by have:=h.tT;omega) 2001 h1 h2 h3 h0;simp only[List.length_nil,Nat.zero_add]at h7;exact h7
end oI
namespace bK
open Go.RowKit bO dc bW eG gh aB bT oI
structure Ye where
 vo:Value
 vn:Value
 vt:Value
 vp:Value
 vr:Value
 va:Value
 vg:Value
 Ls:List bI
def Ye.cells(x:Ye)(m:Md):List Value:=ik x.vo (fE m.o x.vn x.vt) (gX m.g.aF m.g.aU x.vp m.mode x.vr x.va x.vg)
structure abD(m:Md)(x:Ye):Prop where
 Nn:∀w,(Q4 x.Ls).holds w->GS w (.agg (x.cells m).toArray) m x.vo x.vn x.vt x.vp x.vr x.va x.vg
 one:(x.cells m).toArray.toList.all Value.oneCell'=true
def I3(m:Md):Spec Ye:=⟨abD m,fun x=> .tuple #[.agg (x.cells m).toArray,.int .i64 0],fun x=>[Q4 x.Ls]⟩
def aaB(e:Int):Spec Unit:=⟨fun _=>True,fun _=> .tuple #[.agg Am.toArray,.int .i64 e],fun _=>[]⟩
def sy(s:Sp)(r:Int×List Row×List Int):Md:=if(xe s r.1).2=1 then sv s r.2.1 r.2.2 else XD s r.2.1 r.2.2
theorem nL(x:Ye)(m:Md):(x.cells m).toArray.size=266:=im (iQ _ _ _) rfl
theorem bM.to{ι κ:Type}{S:Spec ι}(S':Spec κ){w:World}{e:Ending}{w':World}(hm:bM S w e w')(h:∀x,S.ok x->∃y,S'.ok y/\S.val x=S'.val y/\∀w',mZ w.heap.size w' (S.own x)->mZ w.heap.size w' (S'.own y)):bM S' w e w':=by
 obtain⟨x,h1,h2,h3,h4⟩:=hm;obtain⟨y,k1,k2,k3⟩:=h x h1;exact⟨y,k1,by rw[h2,k2],h3,k3 w' h4⟩
theorem M3{v:Value}{s:Sp}{r:Int×List Row×List Int}(hx:MB s r){w:World}(hv:Mq (ng w) w v s)(hb:∀r∈s.rules,r.2.length<=8796093021952)(h:(xe s r.1).1≠0):
  Calls Tryz.prog 12 #[v] w (bM (aaB (xe s r.1).1) w):=
 (tL v s r hx w hv hb).mono fun e w' hm=>by
  have hS:ma s r=qw (xe s r.1).1:=by unfold ma;rw[if_pos h]
  rw[hS]at hm;exact hm.to _ fun x _=>⟨(),trivial,rfl,fun w' h=>h⟩
theorem Gp{v:Value}{s:Sp}{r:Int×List Row×List Int}(hx:MB s r){w:World}(hv:Mq (ng w) w v s)(hb:∀r∈s.rules,r.2.length<=8796093021952)(h:(xe s r.1).1=0):
  Calls Tryz.prog 12 #[v] w (bM (I3 (sy s r)) w):=
 (tL v s r hx w hv hb).mono fun e w' hm=>by
  obtain⟨h1,-,-,h4⟩:=F5 (s:=s) (e:=r.1) (m:=(xe s r.1).2) (by rw[<-h]);obtain⟨hG,TR⟩:=tK hx h1;obtain⟨ack,-⟩:=Dq hx h1;have hS:ma s r=if(xe s r.1).2=1 then TP s r.2.1 r.2.2 else TQ s r.2.1 r.2.2:=by unfold ma;rw[if_neg (by rw[h];simp)]
  unfold sy;rcases h4 with⟨_,RD⟩|⟨_,_,_,RD⟩
  ·rw[RD,if_pos rfl]at hS⊢
   rw[hS]at hm;refine hm.to (I3 _) fun x jZ=>⟨⟨x.vo,.slice (some ⟨x.gP,0,none⟩) r.2.1.length r.2.1.length,x.vT,x.vp,.slice (some ⟨x.gR,0,none⟩) (bR s).aU.toNat (bR s).aU.toNat,.slice none 0 0,.slice none 0 0,x.lex s r.2.1 r.2.2++x.rows (bR s)⟩,⟨fun w' hb=>XE (x:=x) (i0:=0) (i1:=1) (i2:=2) (i3:=3) (i4:=4) (i5:=5) (i6:=6) (Kz hb) (by omega) TR hG rfl rfl rfl rfl rfl rfl rfl,?_⟩,rfl,fun w' h=>h.bun⟩;obtain⟨k1,k2,k3⟩:=jZ;exact uF k1 (Qw (x:=x) k3 r.2.1) (by simp only[gX,List.all_cons,List.all_nil,k2];rfl)
  ·rw[RD,if_neg (by decide)]at hS⊢
   rw[hS]at hm;refine hm.to (I3 _) fun x jZ=>⟨⟨x.vo,.slice (some ⟨x.gP,0,none⟩) r.2.1.length r.2.1.length,x.vT,x.vp,.slice none 0 0,x.tx.vA,x.tx.vG,x.lex s r.2.1 r.2.2++ME x.tx (fB (bR s)).1 (fB (bR s)).2.1⟩,⟨fun w' hb=>XF (x:=x) (i0:=0) (i1:=1) (i2:=2) (i3:=3) (i4:=4) (i5:=5) (i6:=6) (i7:=7) (i8:=8) (Kz hb) (by omega) TR hG rfl rfl rfl rfl rfl rfl rfl rfl rfl,?_⟩,rfl,fun w' h=>h.bun⟩;obtain⟨⟨k1,k2,k3⟩,b1,b2⟩:=jZ;exact uF k1 (Qw (x:=x) k3 r.2.1) (by simp only[gX,List.all_cons,List.all_nil,k2,b1,b2];rfl)
theorem Gq{s:Sp}{r:Int×List Row×List Int}(hx:MB s r)(h:(xe s r.1).1=0):∃b T N,mg (sy s r) b T N:=by
 obtain⟨h1,-,-,h4⟩:=F5 (s:=s) (e:=r.1) (m:=(xe s r.1).2) (by rw[<-h]);obtain⟨hG,TR⟩:=tK hx h1;obtain⟨b1,b2,b3,b4,b5,b6⟩:=bV hG;unfold sy;rcases h4 with⟨_,RD⟩|⟨_,h5,_,RD⟩
 ·rw[RD,if_pos rfl]
  exact⟨true,(bR s).aF.toNat,(bR s).aU.toNat,Ui hx h1,rfl,by show(bR s).aF=_;omega,by show(bR s).aU=_;omega,fun _=>⟨F_ (g:=bR s) hG (by omega) (by omega),Xw (g:=bR s) (by omega) (by omega)⟩,(fun h=>by cases h)⟩
 ·rw[RD,if_neg (by decide)]
  obtain⟨T,N,Nx,S,hM⟩:=BL h5;have hL:o8 (bR s) T N (fB (bR s)).1 (fB (bR s)).2.1:=by rw[hM.cK,hM.gos];exact hM.lA
  exact⟨false,T,N,Uj hx h1 h5,rfl,hL.aF,hL.aU,(fun h=>by cases h),fun _=>hL⟩
end bK
namespace qV
open Go.RowKit bO dc bK bW eG gh aB bT de jQ tO k7 oI
theorem XI(R:List Row)(T:List Int):dW (sv lS R T) true ([(0,0,1)],0,0) 1=([(1,0),(2,0),(1,1),(3,1),(3,0)],0,1):=by kernel_rfl
theorem XJ(R:List Row)(T:List Int):dW (sv lS R T) true ([(1,0,1)],0,0) 1=([],13,1):=by kernel_rfl
theorem XK(R:List Row)(T:List Int):dW (sv lS R T) true ([(0,0,1),(1,1,2),(0,2,3)],0,0) 3=([(1,0),(2,0),(1,2),(2,1),(1,1),(3,1),(3,2),(3,0)],0,3):=by kernel_rfl
theorem XL(R:List Row)(T:List Int):dW (sv lS R T) true ([(0,0,1),(0,1,2)],0,0) 2=([(1,0),(2,0),(1,2),(2,1),(1,1),(3,1),(3,2),(3,0)],0,2):=by kernel_rfl
structure abE(r:Int×List Row×List Int)(T N:Nat):Prop where
 lx:MB lS r
 ok:(xe lS r.1).1=0
 fit:mg (sy lS r) true T N
 w1:dX (sy lS r) true [97]=([(1,0),(2,0),(1,1),(3,1),(3,0)],0,1)
 w2:dX (sy lS r) true [32]=([],13,1)
 w3:dX (sy lS r) true [97,32,97]=([(1,0),(2,0),(1,2),(2,1),(1,1),(3,1),(3,2),(3,0)],0,3)
 w4:dX (sy lS r) true [97,97]=([(1,0),(2,0),(1,2),(2,1),(1,1),(3,1),(3,2),(3,0)],0,2)
theorem Ra:∃r T N,abE r T N:=by
 obtain⟨R,T,hx,hc,ht⟩:=Q3;have e0:(xe lS 0).1=0:=by rw[QY]
 obtain⟨b,T1,N1,hf⟩:=Gq hx e0;have hm:sy lS (0,R,T)=sv lS R T:=by unfold sy;rw[if_pos (by rw[QY])]
 obtain rfl:b=true:=by
  have:=hf.md;rw[hm]at this
  cases b with
  |true=>rfl
  |false=>exact absurd this (by show(1:Int)≠2;decide)
 obtain⟨l1,l2,l3,l4⟩:=Un hc ht;have hl:∀s:List UInt8,nJ (sv lS R T).o (sv lS R T).N (sv lS R T).tags s=ra R T s (s.length+1) 0:=fun s=>by
  show nJ (ph R 256) (Ip R) T s=_
  rw[MU (Dp hc),aao R (kO hc).1.le]
 refine⟨_,T1,N1,hx,e0,hf,?_,?_,?_,?_⟩
 ·rw[hm,dX,hl];exact(congrArg (fun x=>dW (sv lS R T) true x 1) l1).trans (XI R T)
 ·rw[hm,dX,hl];exact(congrArg (fun x=>dW (sv lS R T) true x 1) l2).trans (XJ R T)
 ·rw[hm,dX,hl];exact(congrArg (fun x=>dW (sv lS R T) true x 3) l3).trans (XK R T)
 ·rw[hm,dX,hl];exact(congrArg (fun x=>dW (sv lS R T) true x 2) l4).trans (XL R T)
end qV
namespace bK
open Go.RowKit bO dc aB dy cL aY bT
def zv(seen:Int)(R:Int×List Nat×List cg):Spec (Value×Value):=
 ⟨fun _=>True,fun x=>if R.1=0 then .tuple #[ry x.1 (seen+1) 0 false,x.2,.int .i64 0]else .tuple #[ry (.slice none 0 0) seen R.1 false,.slice none 0 0,.int .i64 R.1],fun x=>if R.1=0 then [KB x.1 R.2.1,kt x.2 R.2.2]else []⟩
theorem BO{seen:Int}{σ:List Nat}{o:List cg}:zv seen (0,σ,o)=⟨fun _=>True,fun x=> .tuple #[ry x.1 (seen+1) 0 false,x.2,.int .i64 0],fun x=>[KB x.1 σ,kt x.2 o]⟩:=by unfold zv;simp
theorem BP{seen e:Int}(he:e≠0){x:List Nat×List cg}:zv seen (e,x)=⟨fun _=>True,fun _=> .tuple #[ry (.slice none 0 0) seen e false,.slice none 0 0,.int .i64 e],fun _=>[]⟩:=by unfold zv;simp[he]
attribute [local irreducible] Instr.build in
theorem Dt(v t vs:Value)(g:dr)(T N:Nat)(A:List (List aY.Act))(G:List (List Int))(sF:List Nat)(seen col:Nat)(w:World)(hG:iZ (fun k=>k<w.heap.size) w v g)(ht:ze w t A G)(hs:skR w vs sF)(hT:o8 g T N A G)(hq:∀q∈sF,q<A.length)(hne:sF≠[])(hl:sF.length<=60)(hc:col<T)(ZE:seen<=1000000):
 Calls Tryz.prog 139 #[v,t,ry vs (seen:Int) 0 false,.int .i64 (col:Int)] w (bM (zv (seen:Int) (fC g.ag (ib A) (eJ G) col seen 2001 sF [])) w):=by
 have h0:0<sF.length:=by rcases sF with _|⟨a,b⟩;exact absurd rfl hne;simp
 have BG:=hT.aF;have gd:=fun w' (hg:Gr w w')=>rz v t vs g T N A G sF (seen:Int) (col:Int) w' (hG.gr hg) (ht.gr hg) (hs.gr hg) hT hq h0 hl (by omega) (by omega) (by omega) (by omega);have Ur:=fun w' (hg:Gr w w')=>wa v t vs g T N A G sF seen col w' (hG.gr hg) (ht.gr hg) (hs.gr hg) hT hq hne hl (by omega);have hlen:=fun h=>(xj (a:=seen) hT (show col<=T by omega) 2001 (o:=[]) hne hq hl h).2.2.1;generalize fC g.ag (ib A) (eJ G) col seen 2001 sF []=R at*;obtain⟨e,σ,o⟩:=R;dsimp only at hlen;obtain⟨vp,rfl,-⟩:=hG;obtain⟨vA,vG,rfl,-⟩:=ht;clear hs hT;refine enter (args:=[cO g.aF g.aU vp,.agg #[vA,vG],ry vs (seen:Int) 0 false,.int .i64 (col:Int)]) (n:=51) Tryz.func139 rfl rfl rfl ?_;refine a8 (aL (a_ rfl rfl rfl fun g4=>?_));refine zL ?_;refine a_ rfl rfl rfl fun g5=>?_;refine zL ?_;refine a_ rfl rfl rfl fun g6=>?_;refine zL ?_;refine aK rfl fun g8=>?_;refine zL ?_
 repeat(first|refine GC ?_|refine gV (J (v:= .int .i64 g.aF) ak.ty rfl (ah (i:=0) rfl rfl)) ?_|refine gV (bL (b:=false) rfl rfl (decide_eq_false (by omega))) ?_|refine gV (az (i:=0) ak.ty rfl rfl rfl) ?_|refine gV (az (i:=1) ak.ty rfl rfl rfl) ?_|refine gV (az (i:=2) ak.ty rfl rfl rfl) ?_|refine GB ?_)
 refine aI (G7 aj.en rfl rfl rfl rfl rfl) (fun w hm=>gd w hm.below) rfl rfl rfl ?_;intro _ _;refine zL ?_
 repeat(first|refine GA ?_|refine gV (az (i:=0) ak.ty rfl rfl rfl) ?_|refine gV (az (i:=1) ak.ty rfl rfl rfl) ?_|refine gV (az (i:=2) ak.ty rfl rfl rfl) ?_)
 by_cases c:e=0
 ·subst c
  rw[Gj]at Ur;rw[BO];have hlen:=hlen rfl;refine aI (G7 aj.en rfl rfl rfl rfl rfl) (fun w hm=>Ur w hm.below) rfl rfl rfl ?_;rintro⟨v1,v2⟩ _;refine zL ?_
  try refine GA ?_
  refine jB (i:=4) rfl fun bt ct hv q1 q2=>?_;subst hv
  repeat(first|refine GC ?_|refine gV (J (v:= .int .i64 (seen:Int)) ak.ty rfl (ah (i:=2) rfl rfl)) ?_|refine gV (cB (r:=(seen:Int)+1) rfl rfl (by omega) (by omega) (by omega)) ?_|refine gV (aP rfl (MZ _ _ _ _)) ?_|refine GB ?_)
  refine fa 3 (cs':=#[.slice bt σ.length ct,.int .i64 ((seen:Int)+1),.int .i64 0,.bool false]) ?_;refine zL ?_
  try refine GA ?_
  exact fJ (i:=3) rfl rfl rfl rfl rfl rfl fun w hm=>hm.meets (S:=⟨fun _=>True,fun x=> .tuple #[ry x.1 ((seen:Int)+1) 0 false,x.2,.int .i64 0],fun x=>[KB x.1 σ,kt x.2 o]⟩) (.slice bt σ.length ct,v2) trivial [4,5] (by decide) rfl
 ·rw[Gk c]at Ur
  rw[BP c];refine aI (G7 aj.en rfl rfl rfl rfl rfl) (fun w hm=>Ur w hm.below) rfl rfl rfl ?_;rintro _ _;refine zL ?_
  repeat(first|refine GC ?_|refine gV (bm (b:=true) rfl rfl (decide_eq_true c)) ?_|refine gV (J (v:= .int .i64 (seen:Int)) ak.ty rfl (ah (i:=2) rfl rfl)) ?_|refine gV (aP rfl (BM _ _)) ?_|refine GB ?_)
  refine fa 3 (cs':=#[.slice none 0 0,.int .i64 (seen:Int),.int .i64 e,.bool false]) ?_;refine zL ?_
  try refine GA ?_
  exact fJ (i:=3) rfl rfl rfl rfl rfl rfl fun w hm=>hm.meets (S:=⟨fun(_:Value×Value)=>True,fun _=> .tuple #[ry (.slice none 0 0) (seen:Int) e false,.slice none 0 0,.int .i64 e],fun _=>[]⟩) (.slice none 0 0,.slice none 0 0) trivial [] (by decide) rfl
def Gs(seen:Int)(R:Int×List Nat×List cg):Spec Value:=
 ⟨fun _=>True,fun x=>if R.1=0 then .tuple #[ry (.slice none 0 0) seen 0 true,x,.int .i64 0]else .tuple #[ry (.slice none 0 0) seen R.1 false,.slice none 0 0,.int .i64 R.1],fun x=>if R.1=0 then [kt x R.2.2]else []⟩
theorem Gt{seen:Int}{σ:List Nat}{o:List cg}:Gs seen (0,σ,o)=⟨fun _=>True,fun x=> .tuple #[ry (.slice none 0 0) seen 0 true,x,.int .i64 0],fun x=>[kt x o]⟩:=by unfold Gs;simp
theorem Gu{seen e:Int}(he:e≠0){x:List Nat×List cg}:Gs seen (e,x)=⟨fun _=>True,fun _=> .tuple #[ry (.slice none 0 0) seen e false,.slice none 0 0,.int .i64 e],fun _=>[]⟩:=by unfold Gs;simp[he]
attribute [local irreducible] Instr.build in
theorem Gv(v t vs:Value)(g:dr)(T N:Nat)(A:List (List aY.Act))(G:List (List Int))(sF:List Nat)(seen:Nat)(w:World)(hG:iZ (fun k=>k<w.heap.size) w v g)(ht:ze w t A G)(hs:skR w vs sF)(hT:o8 g T N A G)(hq:∀q∈sF,q<A.length)(hne:sF≠[])(hl:sF.length<=60)(ZE:seen<=1000000):
 Calls Tryz.prog 145 #[v,t,ry vs (seen:Int) 0 false] w (bM (Gs (seen:Int) (fC g.ag (ib A) (eJ G) T seen 2001 sF [])) w):=by
 have h0:0<sF.length:=by rcases sF with _|⟨a,b⟩;exact absurd rfl hne;simp
 have BG:=hT.aF;have gd:=fun w' (hg:Gr w w')=>rz v t vs g T N A G sF (seen:Int) (T:Int) w' (hG.gr hg) (ht.gr hg) (hs.gr hg) hT hq h0 hl (by omega) (by omega) (by omega) (by omega);have Ur:=fun w' (hg:Gr w w')=>wa v t vs g T N A G sF seen T w' (hG.gr hg) (ht.gr hg) (hs.gr hg) hT hq hne hl (Nat.le_refl _);generalize fC g.ag (ib A) (eJ G) T seen 2001 sF []=R at*;obtain⟨e,σ,o⟩:=R;obtain⟨vp,rfl,-⟩:=hG;obtain⟨vA,vG,rfl,-⟩:=ht;clear hs hT;refine enter (args:=[cO g.aF g.aU vp,.agg #[vA,vG],ry vs (seen:Int) 0 false]) (n:=45) Tryz.func145 rfl rfl rfl ?_;refine a8 (aL (a_ rfl rfl rfl fun g4=>?_));refine zL ?_;refine a_ rfl rfl rfl fun g5=>?_;refine zL ?_;refine a_ rfl rfl rfl fun g6=>?_;refine zL ?_;refine aK rfl fun g8=>?_;refine zL ?_
 repeat(first|refine GA ?_|refine gV (J (v:= .int .i64 (T:Int)) ak.ty rfl (ah (i:=0) rfl (by show some (Value.int .i64 g.aF)=_;rw[BG]))) ?_|refine gV (az (i:=0) ak.ty rfl rfl rfl) ?_|refine gV (az (i:=1) ak.ty rfl rfl rfl) ?_|refine gV (az (i:=2) ak.ty rfl rfl rfl) ?_)
 refine aI (G7 aj.en rfl rfl rfl rfl rfl) (fun w hm=>gd w hm.below) rfl rfl rfl ?_;intro _ _;refine zL ?_
 repeat(first|refine GA ?_|refine gV (J (v:= .int .i64 (T:Int)) ak.ty rfl (ah (i:=0) rfl (by show some (Value.int .i64 g.aF)=_;rw[BG]))) ?_|refine gV (az (i:=0) ak.ty rfl rfl rfl) ?_|refine gV (az (i:=1) ak.ty rfl rfl rfl) ?_|refine gV (az (i:=2) ak.ty rfl rfl rfl) ?_)
 by_cases c:e=0
 ·subst c
  rw[Gj]at Ur;rw[Gt];refine aI (G7 aj.en rfl rfl rfl rfl rfl) (fun w hm=>Ur w hm.below) rfl rfl rfl ?_;rintro⟨v1,v2⟩ _;refine zL ?_
  repeat(first|refine GA ?_|refine gV (J (v:= .int .i64 (seen:Int)) ak.ty rfl (ah (i:=2) rfl rfl)) ?_|refine gV (aP rfl (M0 _)) ?_)
  refine fa 3 (cs':=#[.slice none 0 0,.int .i64 (seen:Int),.int .i64 0,.bool true]) ?_;refine zL ?_
  try refine GA ?_
  exact fJ (i:=3) rfl rfl rfl rfl rfl rfl fun w hm=>hm.meets (S:=⟨fun _=>True,fun x=> .tuple #[ry (.slice none 0 0) (seen:Int) 0 true,x,.int .i64 0],fun x=>[kt x o]⟩) v2 trivial [5] (by decide) rfl
 ·rw[Gk c]at Ur
  rw[Gu c];refine aI (G7 aj.en rfl rfl rfl rfl rfl) (fun w hm=>Ur w hm.below) rfl rfl rfl ?_;rintro _ _;refine zL ?_
  repeat(first|refine GC ?_|refine gV (bm (b:=true) rfl rfl (decide_eq_true c)) ?_|refine gV (J (v:= .int .i64 (seen:Int)) ak.ty rfl (ah (i:=2) rfl rfl)) ?_|refine gV (aP rfl (BM _ _)) ?_|refine GB ?_)
  refine fa 3 (cs':=#[.slice none 0 0,.int .i64 (seen:Int),.int .i64 e,.bool false]) ?_;refine zL ?_
  try refine GA ?_
  exact fJ (i:=3) rfl rfl rfl rfl rfl rfl fun w hm=>hm.meets (S:=⟨fun(_:Value)=>True,fun _=> .tuple #[ry (.slice none 0 0) (seen:Int) e false,.slice none 0 0,.int .i64 e],fun _=>[]⟩) (.slice none 0 0) trivial [] (by decide) rfl
end bK
namespace bK
open Go.RowKit bO dc
def qA(g:Nat)(cs:List Value)(T:TypeId):bI:=
  ⟨some g,fun _=>False,fun w=>∃r:List Value,w.heap[g]?=some (.cells (cs++r).toArray T (0,0)),fun w ⟨r,h⟩ k hk=>by simp only[Option.some.injEq,or_false]at hk;subst hk;exact(Array.getElem?_eq_some_iff.1 h).1,
    fun w w' ⟨r,h⟩ _ hb=>⟨r,by rw[hb g (.inl rfl)];exact h⟩⟩
section
variable{W:bC}{L:List bI}
theorem fT{i g off:Nat}{cs:List Value}{T:TypeId}{v:Value}(hi:L[i]?=some (qA g cs T))(hv:cs.toArray[off]?=some v):At W L ⟨g,off,none⟩ v:=fun w hm=>by
 obtain⟨r,h⟩:=hm.get hi;rw[cell_of_row w g off _ T (0,0) h,List.getElem?_toArray];rw[List.getElem?_toArray]at hv;rw[List.getElem?_append_left (List.getElem?_eq_some_iff.1 hv).1];exact hv
theorem cT{i g:Nat}{C:Array Value}{cs:List Value}{T:TypeId}(hi:L[i]?=some (aw g C T))(hC:∃r,C=(cs++r).toArray):∀w,Mem W L w->Mem W [qA g cs T] w:=fun w hm=>by
 have h1:Mem W [aw g C T] w:=hm.pick [i] (by simp) (by simp[hi]);obtain⟨r,rfl⟩:=hC;exact h1.Jl (i:=0) (qA g cs T) rfl (fun w h=>⟨r,h⟩) fun k h=>h
end
theorem dR(vo:Value)(pk tl r:List Value):∃q,(ik vo pk (tl++r)).toArray=(ik vo pk tl++q).toArray:=⟨r,by simp[ik]⟩
end bK
namespace bK
open Go.RowKit bO dc aB dy gI gh oI aY
theorem fZ{vo:Value}{pk tl cs:List Value}(k0:Nat)(hp:pk.length=258)(hc:(tl.drop k0).take cs.length=cs){j k:Nat}{v:Value}(h:cs[j]?=some v)(hk:k=k0+259+j):(ik vo pk tl).toArray[k]?=some v:=by
 have hj:=(List.getElem?_eq_some_iff.1 h).1;rw[<-hc,List.getElem?_take_of_lt hj,List.getElem?_drop]at h;exact il (k0+j) hp h (by omega)
section
variable{P:Program}{n:Nat}{W:bC}{fr:Fr}{L:List bI}{Q:Exit->Act->World->Prop}{ops:Array Oper}{rest:List Oper}{ty:TypeId}{pos:String}{after:Array Edge}{t:TypeId}{p x:Operand}{i g k:Nat}{vo:Value}{pk tl:List Value}{T:TypeId}{agg:Bool}{v:Value}
theorem iK(k0:Nat){cs tl':List Value}{c:Nat}[hT:ak P t agg c](hi:L[i]?=some (aw g (ik vo pk tl).toArray T))(hp:ev fr p=some (.pointer (some ⟨g,k,none⟩)))(hx:ev fr x=some (.agg cs.toArray))(h1:cs.all Value.oneCell'=true)(hc:cs.length=c)(hk:k=k0+259)(ft:pk.length=258)(hj:Nat.ble (k0+c) tl.length=true)
 (UF:tl.take k0++cs++tl.drop (k0+c)=tl') (h:TL P n W ops Q rest fr (L.set i (aw g (ik vo pk tl').toArray T))):TL P n W ops Q (⟨none,.store t p x,ty,pos,after,none⟩::rest) fr L:=by
 subst hk UF;have hj:=Nat.le_of_ble_eq_true hj;refine pw hT.ty hi hp hx (by simpa[Value.cells]using hc) (by simpa[Value.cells]using h1) (by rw[List.size_toArray,ik,List.length_cons,List.length_append];omega) ?_ h;apply Array.ext';show vo::(pk++(tl.take k0++cs++tl.drop (k0+c)))=List.take (k0+259) (vo::(pk++tl))++cs++List.drop (k0+259+c) (vo::(pk++tl))
 rw[show k0+259=pk.length+k0+1 by omega,List.take_succ_cons,show pk.length+k0+1+c=pk.length+(k0+c)+1 by omega,List.drop_succ_cons,List.take_length_add_append,List.drop_length_add_append];simp
end
def re:Bool->Value->PS->bI
 |true,v,p=>q8 v p.1
 |false,v,p=>KB v p.2
abbrev jT(g:Nat)(vo:Value)(pk tl:List Value)(v:Value)(a e:Int)(d:Bool)(T:TypeId):bI:=aw g (ik vo pk (tl++[v,.int .i64 a,.int .i64 e,.bool d])).toArray T
theorem mK{v:Value}{a e:Int}{d:Bool}(h:v.oneCell'=true):[v,.int .i64 a,.int .i64 e,.bool d].all Value.oneCell'=true:=by
 simp only[List.all_cons,List.all_nil,h];rfl
def M4(b:Bool)(T:TypeId)(g:Nat)(vo:Value)(pk tl:List Value)(a:Nat)(R:Int×PS×List cg):Spec (Value×Value):=
 ⟨fun _=>True,fun x=>if R.1=0 then .tuple #[x.2,.int .i64 0]else .tuple #[.slice none 0 0,.int .i64 R.1],fun x=>if R.1=0 then [jT g vo pk tl x.1 ((a:Int)+1) 0 false T,re b x.1 R.2.1,kt x.2 R.2.2]else [jT g vo pk tl (.slice none 0 0) a R.1 false T]⟩
theorem Du{b:Bool}{T:TypeId}{g:Nat}{vo:Value}{pk tl:List Value}{a:Nat}{p:PS}{o:List cg}:M4 b T g vo pk tl a (0,p,o)=⟨fun _=>True,fun x=> .tuple #[x.2,.int .i64 0],fun x=>[jT g vo pk tl x.1 ((a:Int)+1) 0 false T,re b x.1 p,kt x.2 o]⟩:=rfl
theorem Dv{b:Bool}{T:TypeId}{g:Nat}{vo:Value}{pk tl:List Value}{a:Nat}{e:Int}(he:e≠0){R:PS×List cg}:M4 b T g vo pk tl a (e,R)=⟨fun _=>True,fun _=> .tuple #[.slice none 0 0,.int .i64 e],fun _=>[jT g vo pk tl (.slice none 0 0) a e false T]⟩:=by unfold M4;simp[he]
def M5(g:Nat)(vo:Value)(pk tl:List Value)(a:Nat)(R:Int×List cg)(T:TypeId):Spec Value:=
 ⟨fun _=>True,fun x=>if R.1=0 then .tuple #[x,.int .i64 0]else .tuple #[.slice none 0 0,.int .i64 R.1],fun x=>if R.1=0 then [jT g vo pk tl (.slice none 0 0) a 0 true T,kt x R.2]else [jT g vo pk tl (.slice none 0 0) a R.1 false T]⟩
theorem Dw{g:Nat}{vo:Value}{pk tl:List Value}{a:Nat}{T:TypeId}{o:List cg}:M5 g vo pk tl a (0,o) T=⟨fun _=>True,fun x=> .tuple #[x,.int .i64 0],fun x=>[jT g vo pk tl (.slice none 0 0) a 0 true T,kt x o]⟩:=rfl
theorem Dx{g:Nat}{vo:Value}{pk tl:List Value}{a:Nat}{T:TypeId}{e:Int}(he:e≠0){o:List cg}:M5 g vo pk tl a (e,o) T=⟨fun _=>True,fun _=> .tuple #[.slice none 0 0,.int .i64 e],fun _=>[jT g vo pk tl (.slice none 0 0) a e false T]⟩:=by unfold M5;simp[he]
attribute [local irreducible] Instr.build in
set_option maxRecDepth 100000 in
theorem Dy(w0:World)(x:Value)(m:Md){vo vn vt vp vr va vg:Value}(T N:Nat)(hv:GS w0 x m vo vn vt vp vr va vg)(hk:mg m true T N)(g:Nat)(v:Value)(p:PS)(hp:KE m true p)(a t:Nat)(ha:a<=1000000)(ht:t<T)(w:World)(B:bC)(ho:jz w0 B)
 (hm:Mem B [jT g vo (fE m.o vn vt) (gX m.g.aF m.g.aU vp m.mode vr va vg) v a 0 false 215,re true v p] w):
 Calls Tryz.prog 236 #[.pointer (some ⟨g,0,none⟩),.int .i64 (t:Int)] w (c_ (M4 true 215 g vo (fE m.o vn vt) (gX m.g.aF m.g.aU vp m.mode vr va vg) a (iJ m true p a (t:Int))) B):=by
 have ft:(fE m.o vn vt).length=258:=iQ _ _ _;obtain⟨p1,p2⟩:=hp;obtain⟨h1,h2⟩:=hk.ll rfl;have hG:=hv.GU;have hr:=hv.rows;have Nb:=hv.lA;have hc:=fun w' (hm:Mem B [jT g vo (fE m.o vn vt) (gX m.g.aF m.g.aU vp m.mode vr va vg) v a 0 false 215,re true v p] w')=>wz _ vr v m.g m.rows T N p.1 a t w' (hG.gr (ho.mem hm)) (hr.gr (ho.mem hm)) (Sl.cI (hm.get (i:=1) rfl)) h1 hk.GU h2 p1 p2 ha ht;have hR:iJ m true p a (t:Int)=((kF m.g.ag (iS m.rows t) p.1 a (t:Int)).1,((kF m.g.ag (iS m.rows t) p.1 a (t:Int)).2.1,p.2),(kF m.g.ag (iS m.rows t) p.1 a (t:Int)).2.2):=rfl;rw[hR];clear hR;generalize kF m.g.ag (iS m.rows t) p.1 a (t:Int)=R at*;obtain⟨e,st,o⟩:=R;generalize fE m.o vn vt=PK at*;generalize m.g.aF=gt at*;generalize m.g.aU=gn at*;generalize m.mode=md at*;clear hG hr Nb hv
 by_cases c:e=0
 ·subst c
  rw[QI]at hc;rw[Du];refine dC hm (args:=[.pointer (some ⟨g,0,none⟩),.int .i64 (t:Int)]) (n:=31) Tryz.func236 rfl rfl rfl ?_
  try refine GA ?_
  refine cU ([qA g (ik vo PK (gX gt gn vp md vr va vg)) 215]) (.calm 0 (.calm 1 (.calm 2 (.calm 3 (.calm 4 (.calm 5 (.calm 6 (.calm 7 (.calm 8 (.calm 9 (.calm 10 (.calm 11 (.calm 12 (.calm 13 (.calm 15 (.one 14 (.one 16 (.calm 17 (.calm 18 (.calm 19 (.calm 20 (.calm 21 (.calm 22 (.one 23 (.calm 24 (.calm 25 (.done))))))))))))))))))))))))))) (cT (i:=0) rfl (dR _ _ _ _)) ?_
  repeat(first|refine GW ?_|(refine GN ?_;first|refine QW (aH (cs:=[.int .i64 gt,.int .i64 gn,vp]) ak.ty rfl rfl (fun j v h=>fT (i:=0) rfl (fZ 0 ft rfl h (by omega)))) ?_|refine QW (J (v:=vr) ak.ty rfl (fT (i:=0) rfl (il 4 ft rfl rfl))) ?_))
  refine ap rfl (aV (aH (cs:=[v,.int .i64 a,.int .i64 0,.bool false]) ak.ty rfl rfl (fun j v h=>ah (i:=0) rfl (fZ 7 ft rfl h (by omega)))) rfl rfl rfl (av (cT (i:=0) rfl (dR _ _ _ _)) ?_))
  try refine GW ?_
  refine ap rfl (aI (G7 aj.en rfl rfl rfl rfl rfl) (fun w hm=>hc w hm) rfl rfl rfl ?_);rintro⟨v1,v2⟩ _;refine zL ?_;refine av (cT (i:=0) rfl (dR _ _ _ _)) ?_
  try refine GW ?_
  refine ap rfl (aD (i:=2) rfl fun _ gB=>iK (i:=0) 7 (tl':=gX gt gn vp md vr va vg++[v1,.int .i64 ((a:Int)+1),.int .i64 0,.bool false]) rfl rfl rfl (mK gB) rfl rfl ft rfl rfl ?_);refine zL ?_;refine av (cT (i:=0) rfl (dR _ _ _ _)) ?_
  try refine GW ?_
  try refine GA ?_
  exact jk rfl rfl rfl fun w hm=>hm.bP (S:=⟨fun _=>True,fun x=> .tuple #[x.2,.int .i64 0],fun x=>[jT g vo PK (gX gt gn vp md vr va vg) x.1 ((a:Int)+1) 0 false 215,re true x.1 (st,p.2),kt x.2 o]⟩) (v1,v2) trivial [0,2,3] (by decide) rfl
 ·rw[MP _ c]at hc
  rw[Dv c];refine dC hm (args:=[.pointer (some ⟨g,0,none⟩),.int .i64 (t:Int)]) (n:=31) Tryz.func236 rfl rfl rfl ?_
  try refine GA ?_
  refine cU ([qA g (ik vo PK (gX gt gn vp md vr va vg)) 215]) (.calm 0 (.calm 1 (.calm 2 (.calm 3 (.calm 4 (.calm 5 (.calm 6 (.calm 7 (.calm 8 (.calm 9 (.calm 10 (.calm 11 (.calm 12 (.calm 13 (.calm 15 (.one 14 (.one 16 (.calm 17 (.calm 18 (.calm 19 (.calm 20 (.calm 21 (.calm 22 (.one 23 (.calm 24 (.calm 25 (.done))))))))))))))))))))))))))) (cT (i:=0) rfl (dR _ _ _ _)) ?_
  repeat(first|refine GW ?_|(refine GN ?_;first|refine QW (aH (cs:=[.int .i64 gt,.int .i64 gn,vp]) ak.ty rfl rfl (fun j v h=>fT (i:=0) rfl (fZ 0 ft rfl h (by omega)))) ?_|refine QW (J (v:=vr) ak.ty rfl (fT (i:=0) rfl (il 4 ft rfl rfl))) ?_))
  refine ap rfl (aV (aH (cs:=[v,.int .i64 a,.int .i64 0,.bool false]) ak.ty rfl rfl (fun j v h=>ah (i:=0) rfl (fZ 7 ft rfl h (by omega)))) rfl rfl rfl (av (cT (i:=0) rfl (dR _ _ _ _)) ?_))
  try refine GW ?_
  refine ap rfl (aI (G7 aj.en rfl rfl rfl rfl rfl) (fun w hm=>hc w hm) rfl rfl rfl ?_);rintro x1 _;refine zL ?_;refine av (cT (i:=0) rfl (dR _ _ _ _)) ?_
  try refine GW ?_
  refine ap rfl (iK (i:=0) 7 (tl':=gX gt gn vp md vr va vg++[.slice none 0 0,.int .i64 (a:Int),.int .i64 e,.bool false]) rfl rfl rfl (mK rfl) rfl rfl ft rfl rfl ?_);refine zL ?_;refine av (cT (i:=0) rfl (dR _ _ _ _)) ?_
  try refine GW ?_
  try refine GA ?_
  exact jk rfl rfl rfl fun w hm=>hm.bP (S:=⟨fun(_:Value×Value)=>True,fun _=> .tuple #[.slice none 0 0,.int .i64 e],fun _=>[jT g vo PK (gX gt gn vp md vr va vg) (.slice none 0 0) a e false 215]⟩) (v,v) trivial [0] (by decide) rfl
attribute [local irreducible] Instr.build in
set_option maxRecDepth 100000 in
theorem Dz(w0:World)(x:Value)(m:Md){vo vn vt vp vr va vg:Value}(T N:Nat)(hv:GS w0 x m vo vn vt vp vr va vg)(hk:mg m false T N)(g:Nat)(v:Value)(p:PS)(hp:KE m false p)(a t:Nat)(ha:a<=1000000)(ht:t<T)(w:World)(B:bC)(ho:jz w0 B)
 (hm:Mem B [jT g vo (fE m.o vn vt) (gX m.g.aF m.g.aU vp m.mode vr va vg) v a 0 false 218,re false v p] w):
 Calls Tryz.prog 238 #[.pointer (some ⟨g,0,none⟩),.int .i64 (t:Int)] w (c_ (M4 false 218 g vo (fE m.o vn vt) (gX m.g.aF m.g.aU vp m.mode vr va vg) a (iJ m false p a (t:Int))) B):=by
 have ft:(fE m.o vn vt).length=258:=iQ _ _ _;obtain⟨p1,p2,p3⟩:=hp;have h2:=hk.lr rfl;have hG:=hv.GU;have hr:=hv.rows;have Nb:=hv.lA;have hc:=fun w' (hm:Mem B [jT g vo (fE m.o vn vt) (gX m.g.aF m.g.aU vp m.mode vr va vg) v a 0 false 218,re false v p] w')=>Dt _ (.agg #[va,vg]) v m.g T N m.A m.G p.2 a t w' (hG.gr (ho.mem hm)) (Nb.gr (ho.mem hm)) (Sl.cI (hm.get (i:=1) rfl)) h2 p2 p1 p3 ht ha;have hR:iJ m false p a (t:Int)=((fC m.g.ag (ib m.A) (eJ m.G) t a 2001 p.2 []).1,(p.1,(fC m.g.ag (ib m.A) (eJ m.G) t a 2001 p.2 []).2.1),(fC m.g.ag (ib m.A) (eJ m.G) t a 2001 p.2 []).2.2):=rfl;rw[hR];clear hR;generalize fC m.g.ag (ib m.A) (eJ m.G) t a 2001 p.2 []=R at*;obtain⟨e,st,o⟩:=R;generalize fE m.o vn vt=PK at*;generalize m.g.aF=gt at*;generalize m.g.aU=gn at*;generalize m.mode=md at*;clear hG hr Nb hv
 by_cases c:e=0
 ·subst c
  rw[BO]at hc;rw[Du];refine dC hm (args:=[.pointer (some ⟨g,0,none⟩),.int .i64 (t:Int)]) (n:=31) Tryz.func238 rfl rfl rfl ?_
  try refine GA ?_
  refine cU ([qA g (ik vo PK (gX gt gn vp md vr va vg)) 218]) (.calm 0 (.calm 1 (.calm 2 (.calm 3 (.calm 4 (.calm 5 (.calm 6 (.calm 7 (.calm 8 (.calm 9 (.calm 10 (.calm 11 (.calm 12 (.calm 13 (.calm 15 (.one 14 (.one 16 (.calm 17 (.calm 18 (.calm 19 (.calm 20 (.calm 21 (.calm 22 (.one 23 (.calm 24 (.calm 25 (.done))))))))))))))))))))))))))) (cT (i:=0) rfl (dR _ _ _ _)) ?_
  repeat(first|refine GW ?_|(refine GN ?_;first|refine QW (aH (cs:=[.int .i64 gt,.int .i64 gn,vp]) ak.ty rfl rfl (fun j v h=>fT (i:=0) rfl (fZ 0 ft rfl h (by omega)))) ?_|refine QW (aH (cs:=[va,vg]) ak.ty rfl rfl (fun j v h=>fT (i:=0) rfl (fZ 5 ft rfl h (by omega)))) ?_))
  refine ap rfl (aV (aH (cs:=[v,.int .i64 a,.int .i64 0,.bool false]) ak.ty rfl rfl (fun j v h=>ah (i:=0) rfl (fZ 7 ft rfl h (by omega)))) rfl rfl rfl (av (cT (i:=0) rfl (dR _ _ _ _)) ?_))
  try refine GW ?_
  refine ap rfl (aI (G7 aj.en rfl rfl rfl rfl rfl) (fun w hm=>hc w hm) rfl rfl rfl ?_);rintro⟨v1,v2⟩ _;refine zL ?_;refine av (cT (i:=0) rfl (dR _ _ _ _)) ?_
  try refine GW ?_
  refine ap rfl (aD (i:=2) rfl fun _ gB=>iK (i:=0) 7 (tl':=gX gt gn vp md vr va vg++[v1,.int .i64 ((a:Int)+1),.int .i64 0,.bool false]) rfl rfl rfl (mK gB) rfl rfl ft rfl rfl ?_);refine zL ?_;refine av (cT (i:=0) rfl (dR _ _ _ _)) ?_
  try refine GW ?_
  try refine GA ?_
  exact jk rfl rfl rfl fun w hm=>hm.bP (S:=⟨fun _=>True,fun x=> .tuple #[x.2,.int .i64 0],fun x=>[jT g vo PK (gX gt gn vp md vr va vg) x.1 ((a:Int)+1) 0 false 218,re false x.1 (p.1,st),kt x.2 o]⟩) (v1,v2) trivial [0,2,3] (by decide) rfl
 ·rw[BP c]at hc
  rw[Dv c];refine dC hm (args:=[.pointer (some ⟨g,0,none⟩),.int .i64 (t:Int)]) (n:=31) Tryz.func238 rfl rfl rfl ?_
  try refine GA ?_
  refine cU ([qA g (ik vo PK (gX gt gn vp md vr va vg)) 218]) (.calm 0 (.calm 1 (.calm 2 (.calm 3 (.calm 4 (.calm 5 (.calm 6 (.calm 7 (.calm 8 (.calm 9 (.calm 10 (.calm 11 (.calm 12 (.calm 13 (.calm 15 (.one 14 (.one 16 (.calm 17 (.calm 18 (.calm 19 (.calm 20 (.calm 21 (.calm 22 (.one 23 (.calm 24 (.calm 25 (.done))))))))))))))))))))))))))) (cT (i:=0) rfl (dR _ _ _ _)) ?_
  repeat(first|refine GW ?_|(refine GN ?_;first|refine QW (aH (cs:=[.int .i64 gt,.int .i64 gn,vp]) ak.ty rfl rfl (fun j v h=>fT (i:=0) rfl (fZ 0 ft rfl h (by omega)))) ?_|refine QW (aH (cs:=[va,vg]) ak.ty rfl rfl (fun j v h=>fT (i:=0) rfl (fZ 5 ft rfl h (by omega)))) ?_))
  refine ap rfl (aV (aH (cs:=[v,.int .i64 a,.int .i64 0,.bool false]) ak.ty rfl rfl (fun j v h=>ah (i:=0) rfl (fZ 7 ft rfl h (by omega)))) rfl rfl rfl (av (cT (i:=0) rfl (dR _ _ _ _)) ?_))
  try refine GW ?_
  refine ap rfl (aI (G7 aj.en rfl rfl rfl rfl rfl) (fun w hm=>hc w hm) rfl rfl rfl ?_);rintro x1 _;refine zL ?_;refine av (cT (i:=0) rfl (dR _ _ _ _)) ?_
  try refine GW ?_
  refine ap rfl (iK (i:=0) 7 (tl':=gX gt gn vp md vr va vg++[.slice none 0 0,.int .i64 (a:Int),.int .i64 e,.bool false]) rfl rfl rfl (mK rfl) rfl rfl ft rfl rfl ?_);refine zL ?_;refine av (cT (i:=0) rfl (dR _ _ _ _)) ?_
  try refine GW ?_
  try refine GA ?_
  exact jk rfl rfl rfl fun w hm=>hm.bP (S:=⟨fun(_:Value×Value)=>True,fun _=> .tuple #[.slice none 0 0,.int .i64 e],fun _=>[jT g vo PK (gX gt gn vp md vr va vg) (.slice none 0 0) a e false 218]⟩) (v,v) trivial [0] (by decide) rfl
attribute [local irreducible] Instr.build in
set_option maxRecDepth 100000 in
theorem Gw(w0:World)(x:Value)(m:Md){vo vn vt vp vr va vg:Value}(T N:Nat)(hv:GS w0 x m vo vn vt vp vr va vg)(hk:mg m true T N)(g:Nat)(v:Value)(p:PS)(hp:KE m true p)(a:Nat)(ha:a<=1000000)(w:World)(B:bC)(ho:jz w0 B)
 (hm:Mem B [jT g vo (fE m.o vn vt) (gX m.g.aF m.g.aU vp m.mode vr va vg) v a 0 false 215,re true v p] w):
 Calls Tryz.prog 235 #[.pointer (some ⟨g,0,none⟩)] w (c_ (M5 g vo (fE m.o vn vt) (gX m.g.aF m.g.aU vp m.mode vr va vg) a (my m true p a) 215) B):=by
 have ft:(fE m.o vn vt).length=258:=iQ _ _ _;obtain⟨p1,p2⟩:=hp;obtain⟨h1,h2⟩:=hk.ll rfl;have hG:=hv.GU;have hr:=hv.rows;have Nb:=hv.lA;have hc:=fun w' (hm:Mem B [jT g vo (fE m.o vn vt) (gX m.g.aF m.g.aU vp m.mode vr va vg) v a 0 false 215,re true v p] w')=>zj _ vr v m.g m.rows T N p.1 a w' (hG.gr (ho.mem hm)) (hr.gr (ho.mem hm)) (Sl.cI (hm.get (i:=1) rfl)) h1 hk.GU h2 p1 p2 ha;have hT:=hk.tT;have hR:my m true p a=r8 m.g.ag (iS m.rows m.g.aF.toNat) p.1:=rfl;rw[hR,show m.g.aF.toNat=T by omega];clear hR hT;generalize r8 m.g.ag (iS m.rows T) p.1=R at*;obtain⟨e,o⟩:=R;generalize fE m.o vn vt=PK at*;generalize m.g.aF=gt at*;generalize m.g.aU=gn at*;generalize m.mode=md at*;clear hG hr Nb hv
 by_cases c:e=0
 ·subst c
  rw[Ua]at hc;rw[Dw];refine dC hm (args:=[.pointer (some ⟨g,0,none⟩)]) (n:=28) Tryz.func235 rfl rfl rfl ?_
  try refine GA ?_
  refine cU ([qA g (ik vo PK (gX gt gn vp md vr va vg)) 215]) (.calm 0 (.calm 1 (.calm 2 (.calm 3 (.calm 4 (.calm 5 (.calm 6 (.calm 7 (.calm 8 (.calm 9 (.calm 10 (.calm 11 (.calm 12 (.calm 13 (.one 14 (.one 15 (.calm 16 (.calm 17 (.calm 18 (.calm 19 (.calm 20 (.calm 21 (.one 22 (.calm 23 (.calm 24 (.done)))))))))))))))))))))))))) (cT (i:=0) rfl (dR _ _ _ _)) ?_
  repeat(first|refine GW ?_|(refine GN ?_;first|refine QW (aH (cs:=[.int .i64 gt,.int .i64 gn,vp]) ak.ty rfl rfl (fun j v h=>fT (i:=0) rfl (fZ 0 ft rfl h (by omega)))) ?_|refine QW (J (v:=vr) ak.ty rfl (fT (i:=0) rfl (il 4 ft rfl rfl))) ?_))
  refine ap rfl (aV (aH (cs:=[v,.int .i64 a,.int .i64 0,.bool false]) ak.ty rfl rfl (fun j v h=>ah (i:=0) rfl (fZ 7 ft rfl h (by omega)))) rfl rfl rfl (av (cT (i:=0) rfl (dR _ _ _ _)) ?_))
  try refine GW ?_
  refine ap rfl (aI (sB aj.en rfl rfl rfl rfl) (fun w hm=>hc w hm) rfl rfl rfl ?_);rintro x1 _;refine zL ?_;refine av (cT (i:=0) rfl (dR _ _ _ _)) ?_
  try refine GW ?_
  refine ap rfl (iK (i:=0) 7 (tl':=gX gt gn vp md vr va vg++[.slice none 0 0,.int .i64 (a:Int),.int .i64 0,.bool true]) rfl rfl rfl (mK rfl) rfl rfl ft rfl rfl ?_);refine zL ?_;refine av (cT (i:=0) rfl (dR _ _ _ _)) ?_
  try refine GW ?_
  try refine GA ?_
  exact jk rfl rfl rfl fun w hm=>hm.bP (S:=⟨fun _=>True,fun x=> .tuple #[x,.int .i64 0],fun x=>[jT g vo PK (gX gt gn vp md vr va vg) (.slice none 0 0) a 0 true 215,kt x o]⟩) x1 trivial [0,2] (by decide) rfl
 ·rw[QJ _ c]at hc
  rw[Dx c];refine dC hm (args:=[.pointer (some ⟨g,0,none⟩)]) (n:=28) Tryz.func235 rfl rfl rfl ?_
  try refine GA ?_
  refine cU ([qA g (ik vo PK (gX gt gn vp md vr va vg)) 215]) (.calm 0 (.calm 1 (.calm 2 (.calm 3 (.calm 4 (.calm 5 (.calm 6 (.calm 7 (.calm 8 (.calm 9 (.calm 10 (.calm 11 (.calm 12 (.calm 13 (.one 14 (.one 15 (.calm 16 (.calm 17 (.calm 18 (.calm 19 (.calm 20 (.calm 21 (.one 22 (.calm 23 (.calm 24 (.done)))))))))))))))))))))))))) (cT (i:=0) rfl (dR _ _ _ _)) ?_
  repeat(first|refine GW ?_|(refine GN ?_;first|refine QW (aH (cs:=[.int .i64 gt,.int .i64 gn,vp]) ak.ty rfl rfl (fun j v h=>fT (i:=0) rfl (fZ 0 ft rfl h (by omega)))) ?_|refine QW (J (v:=vr) ak.ty rfl (fT (i:=0) rfl (il 4 ft rfl rfl))) ?_))
  refine ap rfl (aV (aH (cs:=[v,.int .i64 a,.int .i64 0,.bool false]) ak.ty rfl rfl (fun j v h=>ah (i:=0) rfl (fZ 7 ft rfl h (by omega)))) rfl rfl rfl (av (cT (i:=0) rfl (dR _ _ _ _)) ?_))
  try refine GW ?_
  refine ap rfl (aI (sB aj.en rfl rfl rfl rfl) (fun w hm=>hc w hm) rfl rfl rfl ?_);rintro x1 _;refine zL ?_;refine av (cT (i:=0) rfl (dR _ _ _ _)) ?_
  try refine GW ?_
  refine ap rfl (iK (i:=0) 7 (tl':=gX gt gn vp md vr va vg++[.slice none 0 0,.int .i64 (a:Int),.int .i64 e,.bool false]) rfl rfl rfl (mK rfl) rfl rfl ft rfl rfl ?_);refine zL ?_;refine av (cT (i:=0) rfl (dR _ _ _ _)) ?_
  try refine GW ?_
  try refine GA ?_
  exact jk rfl rfl rfl fun w hm=>hm.bP (S:=⟨fun(_:Value)=>True,fun _=> .tuple #[.slice none 0 0,.int .i64 e],fun _=>[jT g vo PK (gX gt gn vp md vr va vg) (.slice none 0 0) a e false 215]⟩) v trivial [0] (by decide) rfl
attribute [local irreducible] Instr.build in
set_option maxRecDepth 100000 in
theorem Gx(w0:World)(x:Value)(m:Md){vo vn vt vp vr va vg:Value}(T N:Nat)(hv:GS w0 x m vo vn vt vp vr va vg)(hk:mg m false T N)(g:Nat)(v:Value)(p:PS)(hp:KE m false p)(a:Nat)(ha:a<=1000000)(w:World)(B:bC)(ho:jz w0 B)
 (hm:Mem B [jT g vo (fE m.o vn vt) (gX m.g.aF m.g.aU vp m.mode vr va vg) v a 0 false 218,re false v p] w):
 Calls Tryz.prog 237 #[.pointer (some ⟨g,0,none⟩)] w (c_ (M5 g vo (fE m.o vn vt) (gX m.g.aF m.g.aU vp m.mode vr va vg) a (my m false p a) 218) B):=by
 have ft:(fE m.o vn vt).length=258:=iQ _ _ _;obtain⟨p1,p2,p3⟩:=hp;have h2:=hk.lr rfl;have hG:=hv.GU;have hr:=hv.rows;have Nb:=hv.lA;have hc:=fun w' (hm:Mem B [jT g vo (fE m.o vn vt) (gX m.g.aF m.g.aU vp m.mode vr va vg) v a 0 false 218,re false v p] w')=>Gv _ (.agg #[va,vg]) v m.g T N m.A m.G p.2 a w' (hG.gr (ho.mem hm)) (Nb.gr (ho.mem hm)) (Sl.cI (hm.get (i:=1) rfl)) h2 p2 p1 p3 ha;have hT:=hk.tT;have hR:my m false p a=((fC m.g.ag (ib m.A) (eJ m.G) m.g.aF.toNat a 2001 p.2 []).1,(fC m.g.ag (ib m.A) (eJ m.G) m.g.aF.toNat a 2001 p.2 []).2.2):=rfl;rw[hR,show m.g.aF.toNat=T by omega];clear hR hT;generalize fC m.g.ag (ib m.A) (eJ m.G) T a 2001 p.2 []=R at*;obtain⟨e,st,o⟩:=R;generalize fE m.o vn vt=PK at*;generalize m.g.aF=gt at*;generalize m.g.aU=gn at*;generalize m.mode=md at*;clear hG hr Nb hv;dsimp only
 by_cases c:e=0
 ·subst c
  rw[Gt]at hc;rw[Dw];refine dC hm (args:=[.pointer (some ⟨g,0,none⟩)]) (n:=28) Tryz.func237 rfl rfl rfl ?_
  try refine GA ?_
  refine cU ([qA g (ik vo PK (gX gt gn vp md vr va vg)) 218]) (.calm 0 (.calm 1 (.calm 2 (.calm 3 (.calm 4 (.calm 5 (.calm 6 (.calm 7 (.calm 8 (.calm 9 (.calm 10 (.calm 11 (.calm 12 (.calm 13 (.one 14 (.one 15 (.calm 16 (.calm 17 (.calm 18 (.calm 19 (.calm 20 (.calm 21 (.one 22 (.calm 23 (.calm 24 (.done)))))))))))))))))))))))))) (cT (i:=0) rfl (dR _ _ _ _)) ?_
  repeat(first|refine GW ?_|(refine GN ?_;first|refine QW (aH (cs:=[.int .i64 gt,.int .i64 gn,vp]) ak.ty rfl rfl (fun j v h=>fT (i:=0) rfl (fZ 0 ft rfl h (by omega)))) ?_|refine QW (aH (cs:=[va,vg]) ak.ty rfl rfl (fun j v h=>fT (i:=0) rfl (fZ 5 ft rfl h (by omega)))) ?_))
  refine ap rfl (aV (aH (cs:=[v,.int .i64 a,.int .i64 0,.bool false]) ak.ty rfl rfl (fun j v h=>ah (i:=0) rfl (fZ 7 ft rfl h (by omega)))) rfl rfl rfl (av (cT (i:=0) rfl (dR _ _ _ _)) ?_))
  try refine GW ?_
  refine ap rfl (aI (sB aj.en rfl rfl rfl rfl) (fun w hm=>hc w hm) rfl rfl rfl ?_);rintro x1 _;refine zL ?_;refine av (cT (i:=0) rfl (dR _ _ _ _)) ?_
  try refine GW ?_
  refine ap rfl (iK (i:=0) 7 (tl':=gX gt gn vp md vr va vg++[.slice none 0 0,.int .i64 (a:Int),.int .i64 0,.bool true]) rfl rfl rfl (mK rfl) rfl rfl ft rfl rfl ?_);refine zL ?_;refine av (cT (i:=0) rfl (dR _ _ _ _)) ?_
  try refine GW ?_
  try refine GA ?_
  exact jk rfl rfl rfl fun w hm=>hm.bP (S:=⟨fun _=>True,fun x=> .tuple #[x,.int .i64 0],fun x=>[jT g vo PK (gX gt gn vp md vr va vg) (.slice none 0 0) a 0 true 218,kt x o]⟩) x1 trivial [0,2] (by decide) rfl
 ·rw[Gu c]at hc
  rw[Dx c];refine dC hm (args:=[.pointer (some ⟨g,0,none⟩)]) (n:=28) Tryz.func237 rfl rfl rfl ?_
  try refine GA ?_
  refine cU ([qA g (ik vo PK (gX gt gn vp md vr va vg)) 218]) (.calm 0 (.calm 1 (.calm 2 (.calm 3 (.calm 4 (.calm 5 (.calm 6 (.calm 7 (.calm 8 (.calm 9 (.calm 10 (.calm 11 (.calm 12 (.calm 13 (.one 14 (.one 15 (.calm 16 (.calm 17 (.calm 18 (.calm 19 (.calm 20 (.calm 21 (.one 22 (.calm 23 (.calm 24 (.done)))))))))))))))))))))))))) (cT (i:=0) rfl (dR _ _ _ _)) ?_
  repeat(first|refine GW ?_|(refine GN ?_;first|refine QW (aH (cs:=[.int .i64 gt,.int .i64 gn,vp]) ak.ty rfl rfl (fun j v h=>fT (i:=0) rfl (fZ 0 ft rfl h (by omega)))) ?_|refine QW (aH (cs:=[va,vg]) ak.ty rfl rfl (fun j v h=>fT (i:=0) rfl (fZ 5 ft rfl h (by omega)))) ?_))
  refine ap rfl (aV (aH (cs:=[v,.int .i64 a,.int .i64 0,.bool false]) ak.ty rfl rfl (fun j v h=>ah (i:=0) rfl (fZ 7 ft rfl h (by omega)))) rfl rfl rfl (av (cT (i:=0) rfl (dR _ _ _ _)) ?_))
  try refine GW ?_
  refine ap rfl (aI (sB aj.en rfl rfl rfl rfl) (fun w hm=>hc w hm) rfl rfl rfl ?_);rintro x1 _;refine zL ?_;refine av (cT (i:=0) rfl (dR _ _ _ _)) ?_
  try refine GW ?_
  refine ap rfl (iK (i:=0) 7 (tl':=gX gt gn vp md vr va vg++[.slice none 0 0,.int .i64 (a:Int),.int .i64 e,.bool false]) rfl rfl rfl (mK rfl) rfl rfl ft rfl rfl ?_);refine zL ?_;refine av (cT (i:=0) rfl (dR _ _ _ _)) ?_
  try refine GW ?_
  try refine GA ?_
  exact jk rfl rfl rfl fun w hm=>hm.bP (S:=⟨fun(_:Value)=>True,fun _=> .tuple #[.slice none 0 0,.int .i64 e],fun _=>[jT g vo PK (gX gt gn vp md vr va vg) (.slice none 0 0) a e false 218]⟩) v trivial [0] (by decide) rfl
end bK
namespace bK
open Go.RowKit bO dc aB dy gI gh oI aY
section
variable{P:Program}{n:Nat}{W:bC}{fr:Fr}{L:List bI}{dst:Option Tmp}{ty:TypeId}{pos:String}{after:Array Edge}{guard:Option (Nat×Bool)}
def KF(P:Program)(t:TypeId)(v:Value)(name:String)(f:FuncId):Prop:=∀w,(method (P.types.size+Made.depth) t v name).run P w= .ok (f,v) w
def aaC(P:Program)(t:TypeId)(v:Value)(name:String):Prop:=∀w,(nilAhead (P.types.size+Made.depth) t v name).run P w= .ok (some false) w
theorem Us{x:Operand}{name:String}{t:TypeId}{v:Value}{cap:Array Value}(hx:ev fr x=some (.func (.method name) #[.iface t v] cap))(hn:aaC P t v name):RR P n W ⟨dst,.nilCheck x,ty,pos,after,guard⟩ fr L (.func (.method name) #[.iface t v] cap):= .mk fun a w hr _=>by
 have UE:=hn w;simp only[execOp,hr.ev hx];simp[UE]
theorem KG{t:TypeId}{x:Operand}{v u:Value}(hx:ev fr x=some v)(h:∀w,(Instr.makeInterface t v).run P w= .ok u w):RR P n W ⟨dst,.makeInterface t x,ty,pos,after,guard⟩ fr L u:= .mk fun a w hr _=>by
 have h':=h w;simp[execOp,hr.ev hx,h']
theorem aaD{name:String}{t:TypeId}{v:Value}{f:FuncId}{x:Operand}{ts:Array TypeId}(hf:Enters P f)(hx:ev fr x=some (.iface t v))(hm:KF P t v name f):∀a w,jP n a fr->(execOp a.eval ⟨dst,.call {callee:= .invoke x name,args:=#[],argTypes:=ts},ty,pos,after,guard⟩).run P w= .ok (.enter f #[v]) w:=fun a w hr=>by
 have uS:∀args w,(callFunc f args).run P w= .ok (.enter f args) w:=hf;have mN:=hm w;simp[execOp,resolve,hr.ev hx,invoke,callMethod,mN,uS]
theorem aaE{name:String}{t:TypeId}{v v1:Value}{f:FuncId}{x x1:Operand}{ts:Array TypeId}(hf:Enters P f)(hx:ev fr x=some (.iface t v))(h1:ev fr x1=some v1)(hm:KF P t v name f):∀a w,jP n a fr->(execOp a.eval ⟨dst,.call {callee:= .invoke x name,args:=#[x1],argTypes:=ts},ty,pos,after,guard⟩).run P w= .ok (.enter f #[v,v1]) w:=fun a w hr=>by
 have uS:∀args w,(callFunc f args).run P w= .ok (.enter f args) w:=hf;have mN:=hm w;simp[execOp,resolve,hr.ev hx,hr.ev h1,invoke,callMethod,mN,uS]
end
abbrev XM(b:Bool):TypeId:=if b then 213 else 216
abbrev Ut(b:Bool):TypeId:=if b then 215 else 218
abbrev I4(b:Bool):FuncId:=if b then 236 else 238
abbrev Rb(b:Bool):FuncId:=if b then 235 else 237
theorem M6(b:Bool)(a:Addr):aaC Tryz.prog (XM b) (.pointer (some a)) "pushmill/whole.push" :=fun w=>by cases b<;>kernel_rfl
theorem zw(b:Bool)(a:Addr):KF Tryz.prog (XM b) (.pointer (some a)) "pushmill/whole.push" (I4 b):=fun w=>by cases b<;>kernel_rfl
theorem BQ(b:Bool)(a:Addr):KF Tryz.prog (XM b) (.pointer (some a)) "pushmill/whole.end" (Rb b):=fun w=>by cases b<;>kernel_rfl
theorem KH(b:Bool)(a:Addr)(w:World):(Instr.makeInterface (XM b) (.pointer (some a))).run Tryz.prog w= .ok (.iface (XM b) (.pointer (some a))) w:=by cases b<;>kernel_rfl
theorem wb(b:Bool):Enters Tryz.prog (I4 b):=by cases b<;>exact Enters.of (by kernel_rfl)
theorem zx(b:Bool):Enters Tryz.prog (Rb b):=by cases b<;>exact Enters.of (by kernel_rfl)
end bK
namespace bK
open Go.RowKit bO
theorem I5{P:Program}{t:TypeId}{fields:Array Field}{z:Value}{pl:Array (Nat×Nat)}{parts:Array (Nat×Value)}{c:Array Value}{w:World}(hz:(zeroValue t).run P w= .ok z w)(hu:(underlying t).run P w= .ok (.struct fields) w)
 (hp:(fields.mapM fun f=>do pure (f.offset,<-sizeOf f.type):Sem (Array (Nat×Nat))).run P w= .ok pl w) (hf:Instr.fill (pl[·]?) z.cells parts.toList=some c):(Instr.build t parts).run P w= .ok (.agg c) w:=by
 simp at hp;simp[Instr.build,hz,hu,hp,hf]
theorem Gy(off:Nat):∀(vs:List Value) (k:Nat) (cs:List Value),off+k+vs.length<=cs.length->(vs.zipIdx k).foldl (fun cs (c,j)=>cs.setIfInBounds (off+j) c) cs.toArray=(cs.take (off+k)++vs++cs.drop (off+k+vs.length)).toArray
 |[],k,cs,_=>by simp
 |v::vs,k,cs,h=>by
  simp only[List.length_cons]at h;rw[List.zipIdx_cons,List.foldl_cons];dsimp only;rw[List.setIfInBounds_toArray,Gy off vs (k+1) _ (by rw[List.length_set];omega)]
  congr 1
  rw[show off+(k+1)=off+k+1 by omega,List.take_set,List.drop_set_of_lt (by omega),List.length_cons,show off+k+(vs.length+1)=off+k+1+vs.length by omega];rw[List.take_add_one,List.set_append_right _ _ (by simp;omega)];have:(off+k)<cs.length:=by omega
  simp[List.getElem?_eq_getElem this,List.length_take,Nat.min_eq_left (Nat.le_of_lt this)]
theorem BR{place:Nat->Option (Nat×Nat)}{i off m:Nat}{cells a:List Value}{rest:List (Nat×Value)}(h0:place i=some (off,m))(ha:a.length=m)(hc:off+m<=cells.length):Instr.fill place cells.toArray ((i,.agg a.toArray)::rest)=Instr.fill place (cells.take off++a++cells.drop (off+m)).toArray rest:=by
 subst ha;have:=Gy off a 0 cells (by omega);rw[Nat.add_zero]at this;rw[Instr.fill,h0];show(if _ then none else _)=_
 rw[if_neg (by simp[Value.cells];omega)]
 congr 1
 rw[<-this,<-Array.foldl_toList];simp[Value.cells]
end bK
namespace bK
open Go.RowKit bO dc aB dy gI gh oI aY k7 bT
def paZ(b:Value):List Value:=([.slice none 0 0]:List Value)++List.replicate 256 (Value.int .u8 0)++([.slice none 0 0,.slice none 0 0,.int .i64 0,.int .i64 0,.slice none 0 0,.int .i64 0,.slice none 0 0,.slice none 0 0,.slice none 0 0,.slice none 0 0,.int .i64 0,.int .i64 0,b]:List Value)
theorem Uu(b:Value):(paZ b).length=270:=by
 unfold paZ;rw[List.length_append,List.length_append,List.length_replicate];rfl
set_option maxRecDepth 100000 in
theorem Rf(b:Bool){vo v:Value}{pk tl:List Value}(ft:pk.length=258)(UF:tl.length=7)(w:World):(Instr.build (Ut b) #[(0,.agg (ik vo pk tl).toArray),(1,ry v 0 0 false)]).run Tryz.prog w= .ok (.agg (ik vo pk (tl++[v,.int .i64 0,.int .i64 0,.bool false])).toArray) w:=by
 have hz:(zeroValue (Ut b)).run Tryz.prog w= .ok (.agg (paZ (.bool false)).toArray) w:=by cases b<;>kernel_rfl
 have hu:∃fields,(underlying (Ut b)).run Tryz.prog w= .ok (.struct fields) w/\(fields.mapM fun f=>do pure (f.offset,<-sizeOf f.type):Sem (Array (Nat×Nat))).run Tryz.prog w= .ok #[(0,266),(266,4)] w:=by cases b<;>exact⟨_,rfl,by kernel_rfl⟩
 obtain⟨fields,hu,hp⟩:=hu;have hl:(ik vo pk tl).length=266:=by rw[ik,List.length_cons,List.length_append];omega
 refine I5 hz hu hp ?_;show Instr.fill _ (paZ (.bool false)).toArray [(0,.agg (ik vo pk tl).toArray),(1,.agg [v,.int .i64 0,.int .i64 0,.bool false].toArray)]=_
 have hz:=Uu (.bool false);generalize paZ (.bool false)=Z at*;rw[BR (m:=266) rfl hl (by omega),BR (m:=4) rfl rfl (by rw[List.length_append,List.length_append,List.length_take,List.length_drop];omega)];rw[Instr.fill,List.take_zero,List.nil_append,Nat.zero_add,List.take_append_of_le_length (by omega),List.take_of_length_le (by omega),List.drop_append,List.drop_of_length_le (by omega),List.drop_of_length_le (by rw[List.length_drop];omega)];simp[ik]
def bgS(b:Bool)(vo:Value)(pk tl:List Value):Spec (Nat×Value):=⟨fun _=>True,fun x=> .iface (XM b) (.pointer (some ⟨x.1,0,none⟩)),fun x=>[jT x.1 vo pk tl x.2 0 0 false (Ut b),re b x.2 KD]⟩
set_option maxRecDepth 100000 in
theorem DA(b:Bool){vo:Value}{pk:List Value}{t n md:Int}{vp vr va vg:Value}(ft:pk.length=258)(RD:md=if b then 1 else 2)(w:World):
 Calls Tryz.prog 48 #[.agg (ik vo pk (gX t n vp md vr va vg)).toArray] w (bM (bgS b vo pk (gX t n vp md vr va vg)) w):=by
 have hb:=fun v=>Rf b (vo:=vo) (v:=v) ft (show(gX t n vp md vr va vg).length=7 from rfl)
 cases b with
 |true=>
  subst RD;refine enter (args:=[.agg (ik vo pk (gX t n vp (if true=true then 1 else 2) vr va vg)).toArray]) (n:=16) Tryz.func48 rfl rfl rfl ?_;refine a8 (aL (a_ rfl rfl rfl fun g1=>?_));refine zL ?_
  repeat(first|refine GA ?_|refine gV (J (v:= .int .i64 1) ak.ty rfl (ah (i:=0) rfl (il 3 ft rfl rfl))) ?_)
  refine cU ([aw g1 (ik vo pk (gX t n vp 1 vr va vg)).toArray 38]) (.calm 0 (.one 1 (.calm 2 (.one 3 (.calm 4 (.calm 5 (.done))))))) (bz [0]) ?_
  repeat(first|refine GW ?_|(refine GN ?_;first|refine QW (az (i:=0) ak.ty rfl rfl (im ft rfl)) ?_))
  refine ap rfl ?_;refine aI (he0 aj.en rfl) (fun w hm=>uM w) rfl rfl rfl ?_;intro vt _
  conv=>arg 8;simp only[zJ,bZ,ret,id_eq,xf]
  conv=>arg 7;simp only[xf]
  refine av (bz [0]) ?_
  repeat(first|refine GW ?_|(refine GN ?_;first|refine QW (aP rfl (hb vt)) ?_))
  refine ap rfl (a_ rfl rfl rfl fun g2=>?_);refine zL ?_;refine av (bz [0]) ?_
  repeat(first|refine GW ?_|(refine GN ?_;first|refine QW (KG rfl (KH true _)) ?_))
  try refine GA ?_
  exact b9 rfl rfl fun w hm=>hm.meets (S:=bgS true vo pk (gX t n vp 1 vr va vg)) (g2,vt) trivial [2,1] (by decide) rfl
 |false=>
  subst RD;refine enter (args:=[.agg (ik vo pk (gX t n vp (if false=true then 1 else 2) vr va vg)).toArray]) (n:=16) Tryz.func48 rfl rfl rfl ?_;refine a8 (aL (a_ rfl rfl rfl fun g1=>?_));refine zL ?_
  repeat(first|refine GA ?_|refine gV (J (v:= .int .i64 2) ak.ty rfl (ah (i:=0) rfl (il 3 ft rfl rfl))) ?_)
  refine cU ([aw g1 (ik vo pk (gX t n vp 2 vr va vg)).toArray 38]) (.calm 0 (.one 1 (.calm 2 (.one 3 (.calm 4 (.calm 5 (.done))))))) (bz [0]) ?_
  repeat(first|refine GW ?_|(refine GN ?_;first|refine QW (az (i:=0) ak.ty rfl rfl (im ft rfl)) ?_))
  refine ap rfl ?_;refine aI (he0 aj.en rfl) (fun w hm=>Ar w) rfl rfl rfl ?_;intro vt _
  conv=>arg 8;simp only[zJ,bZ,ret,id_eq,xi]
  conv=>arg 7;simp only[xi]
  refine av (bz [0]) ?_
  repeat(first|refine GW ?_|(refine GN ?_;first|refine QW (aP rfl (hb vt)) ?_))
  refine ap rfl (a_ rfl rfl rfl fun g2=>?_);refine zL ?_;refine av (bz [0]) ?_
  repeat(first|refine GW ?_|(refine GN ?_;first|refine QW (KG rfl (KH false _)) ?_))
  try refine GA ?_
  exact b9 rfl rfl fun w hm=>hm.meets (S:=bgS false vo pk (gX t n vp 2 vr va vg)) (g2,vt) trivial [2,1] (by decide) rfl
theorem GS.gr{w w':World}{v:Value}{m:Md}{vo vn vt vp vr va vg:Value}(h:GS w v m vo vn vt vp vr va vg)(hg:Gr w w'):GS w' v m vo vn vt vp vr va vg:=
 ⟨h.val,h.of.gr hg,h.pk.gr hg,h.GU.gr hg,wS h.rows hg,h.lA.gr hg⟩
theorem DB(w0:World)(x:Value)(m:Md)(T N:Nat)(b:Bool){vo vn vt vp vr va vg:Value}(hv:GS w0 x m vo vn vt vp vr va vg)(hk:mg m b T N)(g:Nat)(v:Value)(p:PS)(hp:KE m b p)(a t:Nat)(ha:a<=1000000)(ht:t<T)(w:World)(B:bC)(ho:jz w0 B)
 (hm:Mem B [jT g vo (fE m.o vn vt) (gX m.g.aF m.g.aU vp m.mode vr va vg) v a 0 false (Ut b),re b v p] w):
 Calls Tryz.prog (I4 b) #[.pointer (some ⟨g,0,none⟩),.int .i64 (t:Int)] w (c_ (M4 b (Ut b) g vo (fE m.o vn vt) (gX m.g.aF m.g.aU vp m.mode vr va vg) a (iJ m b p a (t:Int))) B):=by
 cases b
 ·exact Dz w0 x m T N hv hk g v p hp a t ha ht w B ho hm
 ·exact Dy w0 x m T N hv hk g v p hp a t ha ht w B ho hm
theorem Gz(w0:World)(x:Value)(m:Md)(T N:Nat)(b:Bool){vo vn vt vp vr va vg:Value}(hv:GS w0 x m vo vn vt vp vr va vg)(hk:mg m b T N)(g:Nat)(v:Value)(p:PS)(hp:KE m b p)(a:Nat)(ha:a<=1000000)(w:World)(B:bC)(ho:jz w0 B)
 (hm:Mem B [jT g vo (fE m.o vn vt) (gX m.g.aF m.g.aU vp m.mode vr va vg) v a 0 false (Ut b),re b v p] w):
 Calls Tryz.prog (Rb b) #[.pointer (some ⟨g,0,none⟩)] w (c_ (M5 g vo (fE m.o vn vt) (gX m.g.aF m.g.aU vp m.mode vr va vg) a (my m b p a) (Ut b)) B):=by
 cases b
 ·exact Gx w0 x m T N hv hk g v p hp a ha w B ho hm
 ·exact Gw w0 x m T N hv hk g v p hp a ha w B ho hm
def zy(vo:Value)(R:List cg×Int×Nat):Array Value:=#[vo,.int .i64 R.2.1,.int .i64 (R.2.2:Int)]
def qB(R:List cg×Int×Nat):Spec Value:=⟨fun _=>True,fun vo=> .tuple #[.agg (zy vo R),.int .i64 0],fun vo=>[kt vo R.1]⟩
theorem mh{v:Value}{a b:Int}(h:v.oneCell'=true):(#[v,.int .i64 a,.int .i64 b]:Array Value).toList.all Value.oneCell'=true:=by
 simp only[List.all_cons,List.all_nil,h];rfl
theorem Uv(m:Md)(b:Bool)(p:PS)(a:Nat)(out:List cg):zP m b [] p a out=(none,out,p,a):=rfl
attribute [local irreducible] Instr.build in
set_option maxRecDepth 100000 in
theorem we(x:Value)(m:Md)(b:Bool)(T N:Nat){vo vn vt vp vr va vg:Value}(s:List UInt8)(w:World)(h:GS w x m vo vn vt vp vr va vg)(hk:mg m b T N)(hs:s.length<=2000):
    Calls Tryz.prog 14 #[x,str s] w (bM (qB (dX m b s)) w):=by
  have ft:(fE m.o vn vt).length=258:=iQ _ _ _;have hrt:=fun w' (hw:Gr w w')=>tN x m w' (h.gr hw) hk.tozf;have VG:=fun w' (hw:Gr w w')=>BJ m.o vn vt m.N m.tags s w' (h.pk.gr hw) hk.byte (by omega);rw[Dm hk.iL hs,show GR m.o vn vt= .agg (fE m.o vn vt).toArray from rfl]at VG;have tY:=fun w'=>DA b (vo:=vo) (pk:=fE m.o vn vt) (t:=m.g.aF) (n:=m.g.aU) (vp:=vp) (vr:=vr) (va:=va) (vg:=vg) ft hk.md w';have aaF:=fun g v p hp a t ha ht w' B (ho:jz w B) hm=>DB w x m T N b h hk g v p hp a t ha ht w' B ho hm;have WR:=fun g v p hp a ha w' B (ho:jz w B) hm=>Gz w x m T N b h hk g v p hp a ha w' B ho hm;have pJ:=fun(p:PS) hp a t ht h0=>BN (b:=b) hk (p:=p) hp (a:=a) (t:=t) ht h0;have BS:=sx (o:=m.o) (N:=m.N) (tags:=m.tags) (n:=(m.of.length:Int)) (by have:=hk.some;omega) hk.tag s (s.length+1) 0;have Ij:=Q9 (o:=m.o) (N:=m.N) (tags:=m.tags) s;have YH:=h.of;have abF:=Vx hk;have XN:=fun(p:PS) hp a=>Gn (b:=b) hk (p:=p) hp (a:=a);have MA:=hk.ofs;have htT:=hk.tT;obtain⟨ao,co,rfl,tR,AA,XS⟩:=YH;unfold dX;rw[show jv m.o m.N m.tags s (s.length+1) 0=nJ m.o m.N m.tags s from rfl]at BS;generalize nJ m.o m.N m.tags s=R at*;obtain⟨l,at',e⟩:=R;obtain rfl:=h.val;clear h hk;generalize fE m.o vn vt=PK at*;generalize hG:dW m b (l,at',e) s.length=G;refine enter (args:=[.agg (ik (.slice ao m.of.length co) PK (gX m.g.aF m.g.aU vp m.mode vr va vg)).toArray,str s]) (n:=102) Tryz.func14 rfl rfl rfl ?_;refine a8 (aL (a_ rfl rfl rfl fun g2=>aK rfl fun g4=>?_));refine zL ?_
  repeat(first|refine GA ?_|refine gV (az (i:=0) ak.ty rfl rfl (im ft rfl)) ?_)
  refine aI (jc aj.en rfl rfl) (fun w hm=>hrt _ hm.below) rfl rfl rfl ?_;intro _ _;refine zL ?_
  repeat(first|refine GA ?_|refine gV (aH (cs:=PK) ak.ty rfl ft (fun j v h=>ah (i:=0) rfl (tM ft h))) ?_)
  refine aI (eK aj.en rfl rfl rfl) (fun w hm=>VG _ hm.below) rfl rfl rfl ?_;intro vl _
  conv=>arg 8;simp only[zJ,bZ,ret,id_eq,uN]
  conv=>arg 7;simp only[uN]
  repeat(first|refine GA ?_|refine gV (az (i:=0) ak.ty rfl rfl (im ft rfl)) ?_)
  refine aI (jc aj.en rfl rfl) (fun w hm=>tY _) rfl rfl rfl ?_;rintro⟨g5,vq⟩ _
  conv=>arg 8;simp only[zJ,bZ,ret,id_eq,bgS]
  conv=>arg 7;simp only[bgS]
  try refine GA ?_
  refine aK rfl fun g11=>?_;refine zL ?_
  repeat(first|refine GC ?_|refine gV (cJ (i:=2) aT.eq rfl rfl) ?_|refine GB ?_)
  refine Hd (i:=2) rfl fun Gl cl hv q1 q2 q3=>?_;subst hv;refine g_ 55 2 ?_;obtain⟨f1,f2⟩:=Ij;dsimp only at f1 f2;have Vh:∀R,zP m b l KD 0 []=R->dW m b (l,at',e) s.length=match R with|(some x,out,_,_)=>(out,x)|(none,out,p,a)=>if e≠0 then(out,e,at')else(out++(my m b p a).2,(my m b p a).1,s.length):=fun R h=>by subst h;rfl
  generalize hR0:zP m b l KD 0 []=R0 at Vh;refine oX [0,1,2,3,4,5,6] ?_;refine dv (ι:=Nat×Nat×PS×List cg×Value×Value) (fun(k,a,p,out,_,_)=>k<=l.length/\zP m b (l.drop k) p a out=R0/\KE m b p/\a<=k/\out.length<=k*2001)
    (fun(k,_,_,_,_,_)=>[(1,str s),(2,.pointer (some ⟨g2,0,none⟩)),(4,.pointer (some ⟨g4,0,none⟩)),(8,.int .i64 (at':Int)),(9,.int .i64 e),(10,.iface (XM b) (.pointer (some ⟨g5,0,none⟩))),(11,.pointer (some ⟨g11,0,none⟩)),(38,.slice (gA Gl) l.length cl),(39,.int .i64 l.length),(40,.int .i64 (k:Int))])
    (fun(_,a,p,out,vq,vo)=>[aw g2 (ik (.slice ao m.of.length co) PK (gX m.g.aF m.g.aU vp m.mode vr va vg)).toArray 38,aw g4 #[.slice none 0 0,.int .i64 0,.int .i64 0] 45,BI (.slice (gA Gl) l.length cl) l,jT g5 (.slice ao m.of.length co) PK (gX m.g.aF m.g.aU vp m.mode vr va vg) vq a 0 false (Ut b),re b vq p,aw g11 #[vo,.int .i64 0,.int .i64 0] 45,kt vo out]) (fun(k,_,_,_,_,_)=>l.length-k) (0,0,KD,[],vq,.slice none 0 0)
    ⟨Nat.zero_le _,hR0,abF,Nat.le_refl _,by simp⟩ ?_
  clear hR0;rintro⟨k,a,p,out,vq,vo⟩ ⟨i1,i2,i3,i4,i5⟩;dsimp only at i1 i2 i3 i4 i5⊢
  by_cases c:k<l.length
  · obtain⟨gl,rfl⟩:∃gl,Gl=some gl:=by
      cases Gl with
      |none=>have:=q3 rfl;omega
      |some gl=>exact⟨gl,rfl⟩
    obtain⟨r1,r2⟩:=BS _ (List.getElem_mem c);rw[List.drop_eq_getElem_cons c,qz]at i2;have dF:=fun(W:bC) (L:List bI) (i:Nat) (hi:L[i]?=some (BI (.slice (some ⟨gl,0,none⟩) l.length cl) l))=>fun(j:Nat) (u:Value) (h:(iI l[k])[j]?=some u)=>kA (W:=W) zn hi c j u h;generalize l[k]=t at*;obtain⟨r0,fr,tt⟩:=t;dsimp only at r1 r2 dF;obtain⟨r,rfl⟩:∃r:Nat,r0=r:=⟨r0.toNat,by omega⟩;obtain⟨b1,o1,rfl,hro⟩:=XS (by omega);have hr:r<m.of.length:=by omega
    have HU:=fun(L:List bI)=>eN (L:=L) IP hro hr 0 _ rfl;have hx:=MA _ (List.getElem_mem hr);have hox:lc m ((r:Int),fr,tt)=m.of[r]:=by unfold lc;rw[List.getD_eq_getElem?_getD,show((r:Int),fr,tt).1.toNat=r from rfl,List.getElem?_eq_getElem hr,Option.getD_some]
    rw[hox]at i2;generalize m.of[r]=x at*;clear hox hro XS BS
    repeat(first|refine GA ?_|refine gV (aC aT.eq ak.ty rfl rfl c) ?_|refine gV (aH ak.ty rfl rfl (dF _ _ 2 rfl)) ?_)
    refine aK rfl fun g13=>?_;refine zL ?_
    try refine GA ?_
    refine fa 7 (cs':=(iI ((r:Int),fr,tt)).toArray) ?_;refine zL ?_
    by_cases c1:x<0
    · rw[if_pos c1]at i2
      repeat(first|refine GA ?_|refine gV (J (v:= .slice (some ⟨b1,o1,none⟩) m.of.length co) ak.ty rfl (ah (i:=0) rfl rfl)) ?_|refine gV (J (v:= .int .i64 (r:Int)) ak.ty rfl (ah (i:=7) rfl rfl)) ?_|refine gV (aC aT.eq ak.ty rfl rfl hr) ?_|refine gV (J (v:= .int .i64 x) ak.ty rfl (HU _)) ?_)
      refine cD [0,1,2,3,4,5,6] ?_;exact bB (k+1,a,p,out,vq,vo) ⟨by omega,i2,i3,by show a<=k+1;omega,by show out.length<=(k+1)*2001;omega⟩ (by show l.length-(k+1)<l.length-k;omega)
    rw[if_neg c1]at i2;obtain⟨tn,rfl⟩:∃tn:Nat,x=tn:=⟨x.toNat,by omega⟩;have hpu:=fun w' B (ho:jz w B) hm=>aaF g5 vq p i3 a tn (by omega) (by omega) w' B ho hm;have hgo:=pJ p i3 a (tn:Int) (by omega);generalize iJ m b p a (tn:Int)=R at*;obtain⟨e1,p1,ed⟩:=R;dsimp only at i2 hgo
    repeat(first|refine GA ?_|refine gV (J (v:= .slice (some ⟨b1,o1,none⟩) m.of.length co) ak.ty rfl (ah (i:=0) rfl rfl)) ?_|refine gV (J (v:= .int .i64 (r:Int)) ak.ty rfl (ah (i:=7) rfl rfl)) ?_|refine gV (aC aT.eq ak.ty rfl rfl hr) ?_|refine gV (J (v:= .int .i64 (tn:Int)) ak.ty rfl (HU _)) ?_)
    refine cU ([aw g2 (ik (.slice (some ⟨b1,o1,none⟩) m.of.length co) PK (gX m.g.aF m.g.aU vp m.mode vr va vg)).toArray 38,aw g13 (iI ((r:Int),fr,tt)).toArray 53]) (.calm 0 (.calm 1 (.calm 2 (.calm 3 (.calm 4 (.calm 5 (.calm 6 (.calm 7 (.calm 8 (.calm 9 (.one 10 (.calm 11 (.calm 12 (.calm 13 (.calm 14 (.calm 15 (.done))))))))))))))))) (bz [0,7]) ?_
    repeat(first|(refine GN ?_;first|refine QW QP ?_|refine QW (J (v:= .slice (some ⟨b1,o1,none⟩) m.of.length co) ak.ty rfl (ah (i:=0) rfl rfl)) ?_|refine QW (J (v:= .int .i64 (r:Int)) ak.ty rfl (ah (i:=1) rfl rfl)) ?_|refine QW (aC aT.eq ak.ty rfl rfl hr) ?_|refine QW (J (v:= .int .i64 (tn:Int)) ak.ty rfl (HU _)) ?_|refine QW (nT rfl rfl) ?_|refine QW (Us rfl (M6 b _)) ?_|refine GX ?_)|refine GW ?_)
    by_cases c2:e1=0
    · subst c2
      obtain⟨j1,j2⟩:=hgo rfl;rw[if_neg (by simp)]at i2;rw[Du]at hpu;refine ap rfl (aR [3,4] [0,1,2,5,6,7] (by decide) rfl rfl (aaE (wb b) rfl rfl (zw b _)) (fun w' hm hb=>hpu w' _ ((jz.self w).on hm fun o h=>lX h) hb) rfl rfl rfl ?_);rintro⟨v1,v2⟩ _;refine zL ?_;refine av (bz [0,5]) ?_
      try refine GW ?_
      repeat(first|refine GA ?_|refine gV (J (v:=vo) ak.ty rfl (ah (i:=3) rfl rfl)) ?_)
      refine dw (i:=4) (k:=ed.length) (ys:=ed.flatMap dg) rfl (fW (i:=8) rfl) rfl rfl (QM ed) (Jw ed) (by omega) (by omega) rfl fun zg=>?_;refine zL ?_
      try refine GA ?_
      refine aD (i:=4) rfl fun Vm gB=>aW (i:=3) rfl rfl rfl Vm gB rfl ?_;refine zL ?_
      try refine GA ?_
      refine cD [0,1,2,6,7,3,4] ?_;exact bB (k+1,a+1,p1,out++ed,v1,zg) ⟨by omega,i2,j1,by show a+1<=k+1;omega,(by show(out++ed).length<=(k+1)*2001;rw[List.length_append];omega)⟩ (by show l.length-(k+1)<l.length-k;omega) (hl:=by rw[Kv];push_cast;rfl)
    · rw[if_pos c2]at i2
      rw[Dv c2]at hpu;subst i2;have No:=Vh _ rfl;rw[hG]at No;subst No;refine ap rfl (aR [3,4] [0,1,2,5,6,7] (by decide) rfl rfl (aaE (wb b) rfl rfl (zw b _)) (fun w' hm hb=>hpu w' _ ((jz.self w).on hm fun o h=>lX h) hb) rfl rfl rfl ?_);rintro _ _;refine zL ?_;refine av (bz [0,5]) ?_
      try refine GW ?_
      repeat(first|refine GC ?_|refine gV (bm (b:=true) rfl rfl (decide_eq_true c2)) ?_|refine GB ?_)
      refine Jh (i:=4) rfl fun _ gB=>?_;refine cU ([aw g13 (iI ((r:Int),fr,tt)).toArray 53]) (.calm 0 (.calm 1 (.calm 2 (.calm 3 (.one 4 (.calm 5 (.one 6 (.done)))))))) (bz [5]) ?_
      repeat(first|refine GW ?_|(refine GN ?_;first|refine QW (J (v:= .int .i64 (fr:Int)) ak.ty rfl (ah (i:=0) rfl rfl)) ?_))
      refine ap rfl (aW (i:=3) rfl rfl rfl rfl rfl rfl (av (bz [5]) ?_))
      try refine GW ?_
      refine ap rfl (aW (i:=3) rfl rfl rfl rfl rfl rfl (av (bz [5]) ?_))
      try refine GW ?_
      repeat(first|refine GA ?_|refine gV (az (i:=3) ak.ty rfl rfl rfl) ?_)
      refine aE (i:=1) (cs':=#[vo,.int .i64 e1,.int .i64 (fr:Int)]) rfl rfl rfl rfl (mh gB) rfl ?_;refine zL ?_
      try refine GA ?_
      exact da (i:=1) rfl rfl rfl rfl rfl fun w hm=>hm.meets (S:=qB (out,e1,fr)) vo trivial [4] (by decide) rfl
  · obtain rfl:k=l.length:=by omega
    rw[List.drop_of_length_le (Nat.le_refl _),Uv]at i2;subst i2;refine Jh (i:=6) rfl fun Vm gB=>?_
    by_cases c3:e=0
    · subst c3
      have No:=Vh (none,out,p,a) rfl;rw[hG]at No;dsimp only at No;rw[if_neg (by simp)]at No;subst No;have Ck:=fun w' B (ho:jz w B) hm=>WR g5 vq p i3 a (by omega) w' B ho hm;obtain⟨B7,Ca⟩:=XN p i3 a;generalize my m b p a=R at*;obtain⟨e1,ed⟩:=R
      try refine GA ?_
      by_cases c4:e1=0
      · subst c4
        have B7:=B7 rfl;dsimp only at B7;rw[Dw]at Ck;refine aR [3,4] [0,1,2,5,6] (by decide) rfl rfl (aaD (zx b) rfl (BQ b _)) (fun w' hm hb=>Ck w' _ ((jz.self w).on hm fun o h=>lX h) hb) rfl rfl rfl ?_;intro v2 _;refine zL ?_
        repeat(first|refine GA ?_|refine gV (J (v:=vo) ak.ty rfl (ah (i:=3) rfl rfl)) ?_)
        refine dw (i:=4) (k:=ed.length) (ys:=ed.flatMap dg) rfl (fW (i:=6) rfl) rfl rfl (QM ed) (Jw ed) (by omega) (by omega) rfl fun zg=>?_;refine zL ?_
        try refine GA ?_
        refine aD (i:=4) rfl fun Vm gB=>aW (i:=3) rfl rfl rfl Vm gB rfl ?_;refine zL ?_
        try refine GA ?_
        refine aW (i:=3) rfl rfl rfl rfl rfl rfl ?_;refine zL ?_
        try refine GA ?_
        refine aW (i:=3) rfl rfl rfl rfl rfl rfl ?_;refine zL ?_
        repeat(first|refine GA ?_|refine gV (az (i:=3) ak.ty rfl rfl rfl) ?_)
        refine aE (i:=1) (cs':=#[zg,.int .i64 0,.int .i64 (s.length:Int)]) rfl rfl rfl rfl (mh gB) rfl ?_;refine zL ?_
        try refine GA ?_
        exact da (i:=1) rfl rfl rfl rfl rfl fun w hm=>hm.meets (S:=qB ((out++ed),0,s.length)) zg trivial [4] (by decide) (by show[kt zg (out++ed)]=_;rw[<-Kv];rfl)
      · obtain rfl:ed=[]:=Ca c4
        rw[Dx c4]at Ck;refine aR [3,4] [0,1,2,5,6] (by decide) rfl rfl (aaD (zx b) rfl (BQ b _)) (fun w' hm hb=>Ck w' _ ((jz.self w).on hm fun o h=>lX h) hb) rfl rfl rfl ?_;intro v2 _;refine zL ?_
        repeat(first|refine GA ?_|refine gV (J (v:=vo) ak.ty rfl (ah (i:=3) rfl rfl)) ?_)
        refine na 55 2 ?_;refine AB [0,1,2,3,4,5,6] ?_;refine dw (i:=4) (k:=0) (ys:=[]) rfl (fW (i:=6) rfl) rfl rfl rfl (by simp) (by omega) (by omega) rfl fun zg=>?_;refine zL ?_
        try refine GA ?_
        refine aD (i:=4) rfl fun Vm gB=>aW (i:=3) rfl rfl rfl Vm gB rfl ?_;refine zL ?_
        try refine GA ?_
        refine aW (i:=3) rfl rfl rfl rfl rfl rfl ?_;refine zL ?_
        try refine GA ?_
        refine aW (i:=3) rfl rfl rfl rfl rfl rfl ?_;refine zL ?_
        repeat(first|refine GA ?_|refine gV (az (i:=3) ak.ty rfl rfl rfl) ?_)
        refine aE (i:=1) (cs':=#[zg,.int .i64 e1,.int .i64 (s.length:Int)]) rfl rfl rfl rfl (mh gB) rfl ?_;refine zL ?_
        try refine GA ?_
        exact da (i:=1) rfl rfl rfl rfl rfl fun w hm=>hm.meets (S:=qB ((out++[]),e1,s.length)) zg trivial [4] (by decide) (by show[kt zg (out++[])]=_;rw[List.append_nil];rfl)
    · repeat(first|refine GC ?_|refine gV (bm (b:=true) rfl rfl (decide_eq_true c3)) ?_|refine GB ?_)
      refine aW (i:=5) rfl rfl rfl rfl rfl rfl ?_;refine zL ?_
      try refine GA ?_
      refine aW (i:=5) rfl rfl rfl rfl rfl rfl ?_;refine zL ?_
      repeat(first|refine GA ?_|refine gV (az (i:=5) ak.ty rfl rfl rfl) ?_)
      refine aE (i:=1) (cs':=#[vo,.int .i64 e,.int .i64 (at':Int)]) rfl rfl rfl rfl (mh gB) rfl ?_;refine zL ?_
      try refine GA ?_
      have No:=Vh (none,out,p,a) rfl;rw[hG]at No;dsimp only at No;rw[if_pos c3]at No;subst No;exact da (i:=1) rfl rfl rfl rfl rfl fun w hm=>hm.meets (S:=qB (out,e,at')) vo trivial [6] (by decide) rfl
theorem Uw{o:Of}{N:List (List Int)}{tags:List Int}{s:List UInt8}(h:nG o N tags=0)(hs:2000<s.length):Gb o N tags s=([],0,2):=by
 unfold Gb;rw[if_neg (by rw[h];simp),if_pos hs]
theorem GD(w:World):(Instr.build 45 (#[]:Array (Nat×Value))).run Tryz.prog w= .ok (.agg #[.slice none 0 0,.int .i64 0,.int .i64 0]) w:=by kernel_rfl
attribute [local irreducible] Instr.build in
set_option maxRecDepth 100000 in
theorem DC(x:Value)(m:Md){vo vn vt vp vr va vg:Value}(s:List UInt8)(w:World)(h:GS w x m vo vn vt vp vr va vg)(hk:zf m)(hs:2000<s.length)(Sa:s.length<=9223372036854775807):
 Calls Tryz.prog 14 #[x,str s] w (bM (ret (.tuple #[.agg #[.slice none 0 0,.int .i64 0,.int .i64 0],.int .i64 2])) w):=by
 have ft:(fE m.o vn vt).length=258:=iQ _ _ _;have hrt:=fun w' (hw:Gr w w')=>tN x m w' (h.gr hw) hk;obtain rfl:=h.val;clear h hk;generalize fE m.o vn vt=PK at*;refine enter (args:=[.agg (ik vo PK (gX m.g.aF m.g.aU vp m.mode vr va vg)).toArray,str s]) (n:=102) Tryz.func14 rfl rfl rfl ?_;refine a8 (aL (a_ rfl rfl rfl fun g2=>aK rfl fun g4=>?_));refine zL ?_
 repeat(first|refine GA ?_|refine gV (az (i:=0) ak.ty rfl rfl (im ft rfl)) ?_)
 refine aI (jc aj.en rfl rfl) (fun w hm=>hrt _ hm.below) rfl rfl rfl ?_;intro _ _;refine zL ?_;have sG:=GD
 try refine GA ?_
 refine aV (aP rfl (fun w=>sG w)) rfl rfl rfl ?_
 try refine GA ?_
 refine fa 1 (cs':=#[.slice none 0 0,.int .i64 0,.int .i64 0]) ?_;refine zL ?_
 try refine GA ?_
 exact da (i:=1) rfl rfl rfl rfl rfl fun w hm=>hm.ret
end bK
namespace oI
open aB dy gI k7 aY bT bK
theorem DD{m:Md}{b:Bool}(z:List Tok):∀(x:List Tok) (p:PS) (a:Nat) (out:List cg),zP m b (x++z) p a out=match zP m b x p a out with|(some e,r)=>(some e,r)|(none,WZ,p',a')=>zP m b z p' a' WZ
  |[],p,a,out=>rfl
  | t ::x,p,a,out=>by
    rw[List.cons_append,qz,qz]
    by_cases c:lc m t<0
    · rw[if_pos c,if_pos c];exact DD z x p a out
    · rw[if_neg c,if_neg c]
      by_cases d:(iJ m b p a (lc m t)).1≠0
      · rw[if_pos d,if_pos d]
      · rw[if_neg d,if_neg d];exact DD z x _ _ _
theorem DE{m:Md}{b:Bool}:∀(x:List Tok) (p:PS) (a:Nat) (out:List cg),∃E,(zP m b x p a out).2.1=out++E
  |[],p,a,out=>⟨[],(List.append_nil _).symm⟩
  | t ::x,p,a,out=>by
    rw[qz]
    by_cases c:lc m t<0
    · rw[if_pos c];exact DE x p a out
    · rw[if_neg c]
      by_cases d:(iJ m b p a (lc m t)).1≠0
      · rw[if_pos d];exact⟨[],(List.append_nil _).symm⟩
      · rw[if_neg d]
        obtain⟨E,h⟩:=DE x (iJ m b p a (lc m t)).2.1 (a+1) (out++(iJ m b p a (lc m t)).2.2);exact⟨_,by rw[h,List.append_assoc]⟩
theorem I6{m:Md}{b:Bool}{T N:Nat}(h:mg m b T N):∀(x:List Tok) (p:PS) (a:Nat) (out:List cg),(∀t∈x,0<=t.1/\t.1<m.of.length)->KE m b p->KE m b (zP m b x p a out).2.2.1/\(zP m b x p a out).2.2.2<=a+x.length
  |[],p,a,out,_,hp=>⟨hp,Nat.le_refl _⟩
  | t ::x,p,a,out,ht,hp=>by
    rw[qz];have US:=fun u hu=>ht u (List.mem_cons_of_mem _ hu);simp only[List.length_cons]
    by_cases c:lc m t<0
    · rw[if_pos c]
      obtain⟨h1,h2⟩:=I6 h x p a out US hp;exact⟨h1,by omega⟩
    · rw[if_neg c]
      by_cases d:(iJ m b p a (lc m t)).1≠0
      · rw[if_pos d];exact⟨hp,by dsimp only;omega⟩
      · rw[if_neg d]
        obtain⟨h0,h1⟩:=ht t (List.mem_cons_self ..);have hl:lc m t<T:=by
          unfold lc;rw[List.getD_eq_getElem?_getD,List.getElem?_eq_getElem (by omega),Option.getD_some];have:=(h.ofs _ (List.getElem_mem (show t.1.toNat<m.of.length by omega))).2;have:=h.tT;omega
        obtain⟨h3,h4⟩:=I6 h x _ (a+1) (out++(iJ m b p a (lc m t)).2.2) US (BN h hp hl (by simpa using d)).1;exact⟨h3,by omega⟩
theorem zz:∀{st:List TD} {out:List cg} {a:Nat},(∀x∈out,x.1≠2)->∀x∈(aZ st out a).2.1,x.1≠2
 |[],out,a,h=>h
 | .sym x::r,out,a,h=>h
 | .close p::r,out,a,h=>by
  have h2:∀x∈out++[((3:Int),p)],x.1≠2:=fun x hx=>by
   rcases List.mem_append.1 hx with hx|hx
   ·exact h x hx
   ·rw[List.mem_singleton.1 hx];show(3:Int)≠2;decide
  unfold aZ;split
  ·exact zz h2
  ·exact h2
theorem GF{l:List aB.Prod}{nx:Int->Int}:∀{f:Nat} {st:List TD} {out:List cg} {a:Nat},(∀x∈out,x.1≠2)->∀x∈(ey l nx f st out a).2.1,x.1≠2
  |0,st,out,a,h=>h
  | f + 1,st,out,a,h=>by
    have h1:=zz (st:=st) (a:=a) h;have h2:∀p:Int,∀x∈(aZ st out a).2.1++[((1:Int),p)],x.1≠2:=fun p x hx=>by
      rcases List.mem_append.1 hx with hx|hx
      · exact h1 x hx
      · rw[List.mem_singleton.1 hx];show(1:Int)≠2;decide
    unfold ey;split
    · exact h1
    · split
      · split
        · exact h1
        · split
          · exact h1
          · split
            · exact GF (h2 _)
            · exact h2 _
      · exact h1
theorem GG{g:dr}{T N:Nat}{A:List (List aY.Act)}{G:List (List Int)}(h:o8 g T N A G){a:Nat}:∀(f:Nat) {σ:List Nat} {o:List cg},σ≠[]->(∀q∈σ,q<A.length)->(∀x∈o,x.1≠2)->∀x∈(fC g.ag (ib A) (eJ G) T a f σ o).2.2,x.1≠2
  |0,σ,o,_,_,_=>by unfold fC;simp
  | f + 1,σ,o,hne,hq,ho=>by
    have hd:σ.headD 0<A.length:=by
      cases σ with
      |nil=>exact absurd rfl hne
      |cons q σ=>exact hq q (List.mem_cons_self ..)
    have hr:=h.right hd (Nat.le_refl T);unfold fC;generalize ib A (σ.headD 0) T=x at*
    by_cases c1:f=0/\x.1≠0
    · rw[if_pos c1];simp
    rw[if_neg c1]
    by_cases c2:x.1=3
    · rw[if_pos c2];exact ho
    rw[if_neg c2]
    by_cases c3:x.1=1
    · rcases hr with⟨h1,_⟩|⟨_,h1,_⟩|⟨h1,_⟩|⟨h1,_⟩<;>omega
    rw[if_neg c3]
    by_cases c4:x.1=2
    · rw[if_pos c4]
      have hx:0<=x.2/\x.2<(g.ag.length:Int):=by rcases hr with⟨h1,_⟩|⟨h1,_⟩|⟨_,h1,h2⟩|⟨h1,_⟩<;>omega
      cases e:zo g.ag (eJ G) σ x.2 with
      |none=>simp
      | some σ'=>
        obtain⟨r1,r2,r3⟩:=Dr h hx.1 hx.2 hq e;dsimp only
        by_cases c5:60<σ'.length
        · rw[if_pos c5];simp
        · rw[if_neg c5]
          refine GG h f r1 r3 fun y hy=>?_;rcases List.mem_append.1 hy with hy|hy
          · exact ho y hy
          · rw[List.mem_singleton.1 hy];show(4:Int)≠2;decide
    · rw[if_neg c4];simp
theorem Ux{m:Md}{b:Bool}{T N:Nat}(h:mg m b T N){p:PS}(hp:KE m b p){a:Nat}:∀x∈(my m b p a).2,x.1≠2:=by
 cases b with
 | true=>
  intro x hx;have h1:=GF (l:=m.g.ag) (nx:=iS m.rows m.g.aF.toNat) (f:=2001) (st:=p.1) (out:=[]) (a:=0) (by simp);have hx:x∈(r8 m.g.ag (iS m.rows m.g.aF.toNat) p.1).2:=hx;unfold r8 at hx;generalize ey m.g.ag (iS m.rows m.g.aF.toNat) 2001 p.1 [] 0=D at*;obtain⟨st1,o1,a1,e⟩:=D;dsimp only at hx h1;split at hx
  ·cases hx
  ·split at hx
   ·exact h1 x hx
   ·cases hx
 |false=>
  have hT:m.g.aF.toNat=T:=by have:=h.tT;omega
  show ∀x∈(fC m.g.ag (ib m.A) (eJ m.G) m.g.aF.toNat a 2001 p.2 []).2.2,x.1≠2
  rw[hT];exact GG (h.lr rfl) 2001 hp.1 hp.2.1 (by simp)
def sA(e:Int):List cg->Nat->Nat
 |_,0=>0
 |l,n+1=>if e=0/\(l.getD n (0,0)).1≠2 then sA e l n else n+1
theorem qW(e:Int)(l:List cg):∀n,sA e l n<=n
 |0=>Nat.le_refl _
 |n+1=>by
  unfold sA;split
  ·exact Nat.le_succ_of_le (qW e l n)
  ·exact Nat.le_refl _
theorem GH{l E:List cg}(h:∀x∈E,x.1≠2):∀k,k<=E.length->sA 0 (l++E) (l.length+k)<=l.length
  |0,_=>qW _ _ _
  | k +1,hk=>by
    rw[<-Nat.add_assoc,sA,if_pos]
    · exact GH h k (by omega)
    · refine⟨rfl,?_⟩
      rw[List.getD_eq_getElem?_getD,List.getElem?_append_right (by omega),show l.length+k-l.length=k by omega,List.getElem?_eq_getElem (by omega),Option.getD_some];exact h _ (List.getElem_mem _)
theorem M7{m:Md}{b:Bool}{T N:Nat}(h:mg m b T N){L L':List Tok×Nat×Int}{z:List Tok}{n n':Nat}(hL:L'.1=L.1++z)(hr:∀t∈L.1,0<=t.1/\t.1<m.of.length)(h9:L.2.2=0\/L.2.2=9):
    sA (dW m b L n).2.1 (dW m b L n).1 (dW m b L n).1.length<=(dW m b L' n').1.length/\
    (dW m b L n).1.take (sA (dW m b L n).2.1 (dW m b L n).1 (dW m b L n).1.length)=(dW m b L' n').1.take (sA (dW m b L n).2.1 (dW m b L n).1 (dW m b L n).1.length)/\
    ((dW m b L n).2.1≠13\/(dW m b L n).2.2=n\/((dW m b L' n').2.1=13/\(dW m b L' n').2.2=(dW m b L n).2.2)):=by
  have hk:=(I6 h L.1 KD 0 [] hr (Vx h)).1;have ha:=DD (m:=m) (b:=b) z L.1 KD 0 [];have ho:=DE (m:=m) (b:=b) z;rw[<-hL]at ha;have hW:∀R,zP m b L.1 KD 0 []=R->dW m b L n=match R with|(some x,out,_,_)=>(out,x)|(none,out,p,a)=>if L.2.2≠0 then(out,L.2.2,L.2.1)else(out++(my m b p a).2,(my m b p a).1,n):=fun R h=>by subst h;rfl
  have KN:∀R,zP m b L'.1 KD 0 []=R->dW m b L' n'=match R with|(some x,out,_,_)=>(out,x)|(none,out,p,a)=>if L'.2.2≠0 then(out,L'.2.2,L'.2.1)else(out++(my m b p a).2,(my m b p a).1,n'):=fun R h=>by subst h;rfl
  generalize zP m b L.1 KD 0 []=R at*;obtain⟨q,out,p,a⟩:=R;have hW:=hW _ rfl;dsimp only at hk
  cases q with
  | some x=>
    have KN:=KN _ ha;dsimp only at hW KN;rw[hW,KN];refine⟨qW _ _ _,rfl,?_⟩
    by_cases c:x.1=13
    · exact .inr (.inr ⟨c,rfl⟩)
    · exact .inl c
  | none=>
    obtain⟨E,hE⟩:=ho p a out
    replace ha:zP m b L'.1 KD 0 []=zP m b z p a out:=ha
    have KN:=KN _ ha;obtain⟨E',hE'⟩:∃E',(dW m b L' n').1=out++E':=by
      rw[KN];generalize zP m b z p a out=R' at*;obtain⟨q',WZ,p',a'⟩:=R';dsimp only at hE;subst hE
      cases q' with
      |some x=>exact⟨E,rfl⟩
      | none=>
        dsimp only;split
        · exact⟨E,rfl⟩
        · exact⟨E++(my m b p' a').2,List.append_assoc _ _ _⟩
    clear KN ha;rw[hE'];have key:∀k,k<=out.length->∀F:List cg,k<=(out++E').length/\(out++F).take k=(out++E').take k:=fun k hk F=>by
      refine⟨by rw[List.length_append];omega,?_⟩;rw[List.take_append_of_le_length hk,List.take_append_of_le_length hk]
    dsimp only at hW
    by_cases c:L.2.2≠0
    · rw[if_pos c]at hW
      rw[hW];obtain⟨k1,k2⟩:=key _ (qW L.2.2 out out.length) [];rw[List.append_nil]at k2;exact⟨k1,k2,.inl (by rcases h9 with h9|h9<;>rw[h9]at c⊢;exact absurd rfl c;show(9:Int)≠13;decide)⟩
    · rw[if_neg c]at hW
      have hg:=Gn h hk (a:=a);have RM:=Ux h hk (a:=a);generalize my m b p a=Z at*;obtain⟨e,F⟩:=Z;dsimp only at hg RM hW;rw[hW]
      by_cases c2:e=0
      · subst c2
        obtain⟨k1,k2⟩:=key _ (GH (l:=out) RM F.length (Nat.le_refl _)) F;rw[<-List.length_append]at k1 k2;exact⟨k1,k2,.inl (by show(0:Int)≠13;decide)⟩
      · obtain rfl:=hg.2 c2
        obtain⟨k1,k2⟩:=key (sA e (out++[]) (out++[]).length) (by have:=qW e (out++[]) (out++[]).length;rw[List.append_nil]at this⊢;exact this) [];exact⟨k1,k2,.inr (.inl rfl)⟩
end oI
namespace bK
open Go.RowKit bO dc k7
theorem KI(a:k7.Tok):(iI a).length=3:=rfl
theorem XO(a b:Tok)(w:World):(Op.equalIn 10000 53 (.agg (iI a).toArray) (.agg (iI b).toArray)).run Tryz.prog w= .ok (decide (a=b)) w:=by
 obtain⟨a1,a2,a3⟩:=a;obtain⟨b1,b2,b3⟩:=b;unfold iI
 go_simp
 have i2:((a2:Int)=(b2:Int))↔a2=b2:=by omega
 have i3:((a3:Int)=(b3:Int))↔a3=b3:=by omega
 by_cases e1:a1=b1<;>by_cases e2:a2=b2<;>by_cases e3:a3=b3<;>simp[e1,i2,i3,e2,e3]
theorem zK(v v':Value)(l l':List k7.Tok)(w:World)(hs:Sl w v l.length (l.flatMap iI))(px:Sl w v' l'.length (l'.flatMap iI)):
    Calls Tryz.prog 16 #[v,v'] w (bM (ret (.bool (decide (l=l')))) w):=by
  obtain⟨base,cap,rfl,nc,mj,ef⟩:=hs;obtain⟨vC,tZ,rfl,aaG,Rh,NV⟩:=px;unfold maxLen at mj Rh;refine enter (args:=[.slice base l.length cap,.slice vC l'.length tZ]) (n:=26) Tryz.func16 rfl rfl rfl ?_
  by_cases c1:l.length=l'.length
  · repeat(first|refine qv rfl (qp rfl) rfl rfl ?_|refine eL ?_|refine a8 ?_|refine aL ?_|refine GJ rfl ?_|refine GK rfl ?_|refine fN ?_|refine fO ?_|refine iv ?_|refine eB ?_|refine eZ ?_|refine eP ?_|refine eg ?_|refine dM ?_|refine dN ?_|refine dI ?_|refine dJ rfl ?_|refine qv rfl (py aT.eq rfl) rfl rfl ?_|refine qv rfl (bQ rfl rfl (qT (by omega))) rfl rfl ?_|refine qv rfl (bQ rfl rfl (qF (by omega))) rfl rfl ?_|refine qv rfl (bm rfl rfl (qT (by omega))) rfl rfl ?_|refine qv rfl (bm rfl rfl (qF (by omega))) rfl rfl ?_|refine qv rfl (cB rfl rfl (by omega) (by omega) rfl) rfl rfl ?_)
    refine jA (ι:=Nat) (fun k=>k<=l.length/\l.take k=l'.take k) (fun k=>[(0,.slice base l.length cap),(1,.slice vC l'.length tZ),(12,.int .i64 l.length),(13,.int .i64 (k:Int))]) (fun _=>[]) (fun k=>l.length-k) 0 ⟨by omega,rfl⟩ ⟨rfl,rfl,rfl,rfl,trivial⟩ rfl ?_;rintro k ⟨h1,h2⟩
    by_cases c2:k<l.length
    · obtain⟨b,off,rfl,hr⟩:=ef (by omega)
      obtain⟨b',sX,rfl,wE⟩:=NV (by omega);have Bu:k<l'.length:=by omega
      have dF:=eN (L:=([]:List bI)) KI hr c2;have Ri:=eN (L:=([]:List bI)) KI wE Bu;have uR:=XO l[k] l'[k]
      by_cases c3:l[k]=l'[k]
      · rw[decide_eq_true c3]at uR
        repeat(first|refine qv rfl (qp rfl) rfl rfl ?_|refine eL ?_|refine a8 ?_|refine aL ?_|refine GJ rfl ?_|refine GK rfl ?_|refine fN ?_|refine fO ?_|refine iv ?_|refine eB ?_|refine eZ ?_|refine eP ?_|refine eg ?_|refine dM ?_|refine dN ?_|refine dI ?_|refine dJ rfl ?_|refine qv rfl (py aT.eq rfl) rfl rfl ?_|refine qv rfl (bQ rfl rfl (qT (by omega))) rfl rfl ?_|refine qv rfl (bQ rfl rfl (qF (by omega))) rfl rfl ?_|refine qv rfl (bm rfl rfl (qT (by omega))) rfl rfl ?_|refine qv rfl (bm rfl rfl (qF (by omega))) rfl rfl ?_|refine qv rfl (cB rfl rfl (by omega) (by omega) rfl) rfl rfl ?_)
        refine BW 8 (List.replicate 8 true) rfl (by kernel_rfl) (by kernel_rfl) (by intro c a d v w h;cases d<;>exact h) ?_
        repeat(first|refine eC rfl (qp rfl) rfl rfl ?_|refine eC rfl (aC aT.eq ak.ty rfl rfl c2) rfl rfl ?_|refine eC rfl (aC aT.eq ak.ty rfl rfl Bu) rfl rfl ?_|refine eC rfl (aH ak.ty rfl rfl dF) rfl rfl ?_|refine eC rfl (aH ak.ty rfl rfl Ri) rfl rfl ?_|refine eC rfl (py aT.eq rfl) rfl rfl ?_|refine eC rfl (bQ rfl rfl (qT (by omega))) rfl rfl ?_|refine eC rfl (bQ rfl rfl (qF (by omega))) rfl rfl ?_|refine eC rfl (bm rfl rfl (qT (by omega))) rfl rfl ?_|refine eC rfl (bm rfl rfl (qF (by omega))) rfl rfl ?_|refine eC rfl (cB rfl rfl (by omega) (by omega) rfl) rfl rfl ?_|refine BX ?_)
        repeat(first|refine qv rfl (qp rfl) rfl rfl ?_|refine eL ?_|refine a8 ?_|refine aL ?_|refine GJ rfl ?_|refine GK rfl ?_|refine fN ?_|refine fO ?_|refine iv ?_|refine eB ?_|refine eZ ?_|refine eP ?_|refine eg ?_|refine dM ?_|refine dN ?_|refine dI ?_|refine dJ rfl ?_|refine qv rfl (lq rfl rfl (by kernel_rfl) uR rfl) rfl rfl ?_|refine qv rfl (py aT.eq rfl) rfl rfl ?_|refine qv rfl (bQ rfl rfl (qT (by omega))) rfl rfl ?_|refine qv rfl (bQ rfl rfl (qF (by omega))) rfl rfl ?_|refine qv rfl (bm rfl rfl (qT (by omega))) rfl rfl ?_|refine qv rfl (bm rfl rfl (qF (by omega))) rfl rfl ?_|refine qv rfl (cB rfl rfl (by omega) (by omega) rfl) rfl rfl ?_)
        exact fH (k+1) ⟨by omega,by rw[List.take_succ_eq_append_getElem c2,List.take_succ_eq_append_getElem Bu,h2,c3]⟩ (by show l.length-(k+1)<l.length-k;omega) ⟨rfl,rfl,rfl,rfl,trivial⟩ rfl
      · rw[decide_eq_false c3]at uR
        rw[decide_eq_false (fun h=>c3 (by subst h;rfl))]
        repeat(first|refine qv rfl (qp rfl) rfl rfl ?_|refine eL ?_|refine a8 ?_|refine aL ?_|refine GJ rfl ?_|refine GK rfl ?_|refine fN ?_|refine fO ?_|refine iv ?_|refine eB ?_|refine eZ ?_|refine eP ?_|refine eg ?_|refine dM ?_|refine dN ?_|refine dI ?_|refine dJ rfl ?_|refine qv rfl (py aT.eq rfl) rfl rfl ?_|refine qv rfl (bQ rfl rfl (qT (by omega))) rfl rfl ?_|refine qv rfl (bQ rfl rfl (qF (by omega))) rfl rfl ?_|refine qv rfl (bm rfl rfl (qT (by omega))) rfl rfl ?_|refine qv rfl (bm rfl rfl (qF (by omega))) rfl rfl ?_|refine qv rfl (cB rfl rfl (by omega) (by omega) rfl) rfl rfl ?_)
        refine BW 8 (List.replicate 8 true) rfl (by kernel_rfl) (by kernel_rfl) (by intro c a d v w h;cases d<;>exact h) ?_
        repeat(first|refine eC rfl (qp rfl) rfl rfl ?_|refine eC rfl (aC aT.eq ak.ty rfl rfl c2) rfl rfl ?_|refine eC rfl (aC aT.eq ak.ty rfl rfl Bu) rfl rfl ?_|refine eC rfl (aH ak.ty rfl rfl dF) rfl rfl ?_|refine eC rfl (aH ak.ty rfl rfl Ri) rfl rfl ?_|refine eC rfl (py aT.eq rfl) rfl rfl ?_|refine eC rfl (bQ rfl rfl (qT (by omega))) rfl rfl ?_|refine eC rfl (bQ rfl rfl (qF (by omega))) rfl rfl ?_|refine eC rfl (bm rfl rfl (qT (by omega))) rfl rfl ?_|refine eC rfl (bm rfl rfl (qF (by omega))) rfl rfl ?_|refine eC rfl (cB rfl rfl (by omega) (by omega) rfl) rfl rfl ?_|refine BX ?_)
        repeat(first|refine qv rfl (qp rfl) rfl rfl ?_|refine eL ?_|refine a8 ?_|refine aL ?_|refine GJ rfl ?_|refine GK rfl ?_|refine fN ?_|refine fO ?_|refine iv ?_|refine eB ?_|refine eZ ?_|refine eP ?_|refine eg ?_|refine dM ?_|refine dN ?_|refine dI ?_|refine dJ rfl ?_|refine qv rfl (lq rfl rfl (by kernel_rfl) uR rfl) rfl rfl ?_|refine qv rfl (py aT.eq rfl) rfl rfl ?_|refine qv rfl (bQ rfl rfl (qT (by omega))) rfl rfl ?_|refine qv rfl (bQ rfl rfl (qF (by omega))) rfl rfl ?_|refine qv rfl (bm rfl rfl (qT (by omega))) rfl rfl ?_|refine qv rfl (bm rfl rfl (qF (by omega))) rfl rfl ?_|refine qv rfl (cB rfl rfl (by omega) (by omega) rfl) rfl rfl ?_)
        exact db
    · have e:l=l':=by
        rw[List.take_of_length_le (by omega),List.take_of_length_le (by omega)]at h2;exact h2
      rw[decide_eq_true e]
      repeat(first|refine qv rfl (qp rfl) rfl rfl ?_|refine eL ?_|refine a8 ?_|refine aL ?_|refine GJ rfl ?_|refine GK rfl ?_|refine fN ?_|refine fO ?_|refine iv ?_|refine eB ?_|refine eZ ?_|refine eP ?_|refine eg ?_|refine dM ?_|refine dN ?_|refine dI ?_|refine dJ rfl ?_|refine qv rfl (py aT.eq rfl) rfl rfl ?_|refine qv rfl (bQ rfl rfl (qT (by omega))) rfl rfl ?_|refine qv rfl (bQ rfl rfl (qF (by omega))) rfl rfl ?_|refine qv rfl (bm rfl rfl (qT (by omega))) rfl rfl ?_|refine qv rfl (bm rfl rfl (qF (by omega))) rfl rfl ?_|refine qv rfl (cB rfl rfl (by omega) (by omega) rfl) rfl rfl ?_)
      exact db
  · rw[decide_eq_false (fun h=>c1 (by rw[h]))]
    repeat(first|refine qv rfl (qp rfl) rfl rfl ?_|refine eL ?_|refine a8 ?_|refine aL ?_|refine GJ rfl ?_|refine GK rfl ?_|refine fN ?_|refine fO ?_|refine iv ?_|refine eB ?_|refine eZ ?_|refine eP ?_|refine eg ?_|refine dM ?_|refine dN ?_|refine dI ?_|refine dJ rfl ?_|refine qv rfl (py aT.eq rfl) rfl rfl ?_|refine qv rfl (bQ rfl rfl (qT (by omega))) rfl rfl ?_|refine qv rfl (bQ rfl rfl (qF (by omega))) rfl rfl ?_|refine qv rfl (bm rfl rfl (qT (by omega))) rfl rfl ?_|refine qv rfl (bm rfl rfl (qF (by omega))) rfl rfl ?_|refine qv rfl (cB rfl rfl (by omega) (by omega) rfl) rfl rfl ?_)
    exact db
end bK
namespace Rj
abbrev Ev:=Int×Int
end Rj
namespace bK
open Go.RowKit bO dc Rj
def Vy(e:Ev):List Value:=[.int .i64 e.1,.int .i64 e.2]
theorem aaH(f f':Ev)(w:World):(Op.equalIn 10000 55 (.agg (Vy f).toArray) (.agg (Vy f').toArray)).run Tryz.prog w= .ok (decide (f=f')) w:=by
 obtain⟨k,q⟩:=f;obtain⟨k',q'⟩:=f';unfold Vy
 go_simp
 by_cases e1:k=k'<;>by_cases e2:q=q'<;>simp[e1,e2]
end bK
namespace bK
open Go.RowKit bO dc Rj
theorem KJ(a:Ev):(Vy a).length=2:=rfl
theorem zM(v v':Value)(l l':List Ev)(w:World)(hs:Sl w v l.length (l.flatMap Vy))(px:Sl w v' l'.length (l'.flatMap Vy)):
    Calls Tryz.prog 17 #[v,v'] w (bM (ret (.bool (decide (l=l')))) w):=by
  obtain⟨base,cap,rfl,nc,mj,ef⟩:=hs;obtain⟨vC,tZ,rfl,aaG,Rh,NV⟩:=px;unfold maxLen at mj Rh;refine enter (args:=[.slice base l.length cap,.slice vC l'.length tZ]) (n:=26) Tryz.func17 rfl rfl rfl ?_
  by_cases c1:l.length=l'.length
  · repeat(first|refine aV (gj rfl) rfl rfl rfl ?_|refine aV (hZ rfl) rfl rfl rfl ?_|refine eL ?_|refine a8 ?_|refine aL ?_|refine kS rfl ?_|refine kT rfl ?_|refine fN ?_|refine fO ?_|refine iv ?_|refine eB ?_|refine eZ ?_|refine eP ?_|refine eg ?_|refine dM ?_|refine dN ?_|refine dI ?_|refine dJ rfl ?_|refine aV (kL aT.eq rfl) rfl rfl rfl ?_|refine aV (bQ rfl rfl (decide_eq_true (by omega))) rfl rfl rfl ?_|refine aV (bQ rfl rfl (decide_eq_false (by omega))) rfl rfl rfl ?_|refine aV (bm rfl rfl (decide_eq_true (by omega))) rfl rfl rfl ?_|refine aV (bm rfl rfl (decide_eq_false (by omega))) rfl rfl rfl ?_|refine aV (cB rfl rfl (by omega) (by omega) rfl) rfl rfl rfl ?_)
    refine jA (ι:=Nat) (fun k=>k<=l.length/\l.take k=l'.take k) (fun k=>[(0,.slice base l.length cap),(1,.slice vC l'.length tZ),(12,.int .i64 l.length),(13,.int .i64 (k:Int))]) (fun _=>[]) (fun k=>l.length-k) 0 ⟨by omega,rfl⟩ ⟨rfl,rfl,rfl,rfl,trivial⟩ rfl ?_;rintro k ⟨h1,h2⟩
    by_cases c2:k<l.length
    · obtain⟨b,off,rfl,hr⟩:=ef (by omega)
      obtain⟨b',sX,rfl,wE⟩:=NV (by omega);have Bu:k<l'.length:=by omega
      have dF:=eN (L:=([]:List bI)) KJ hr c2;have Ri:=eN (L:=([]:List bI)) KJ wE Bu;have uR:=aaH l[k] l'[k]
      by_cases c3:l[k]=l'[k]
      · rw[decide_eq_true c3]at uR
        repeat(first|refine aV (gj rfl) rfl rfl rfl ?_|refine aV (hZ rfl) rfl rfl rfl ?_|refine eL ?_|refine a8 ?_|refine aL ?_|refine kS rfl ?_|refine kT rfl ?_|refine fN ?_|refine fO ?_|refine iv ?_|refine eB ?_|refine eZ ?_|refine eP ?_|refine eg ?_|refine dM ?_|refine dN ?_|refine dI ?_|refine dJ rfl ?_|refine aV (kL aT.eq rfl) rfl rfl rfl ?_|refine aV (bQ rfl rfl (decide_eq_true (by omega))) rfl rfl rfl ?_|refine aV (bQ rfl rfl (decide_eq_false (by omega))) rfl rfl rfl ?_|refine aV (bm rfl rfl (decide_eq_true (by omega))) rfl rfl rfl ?_|refine aV (bm rfl rfl (decide_eq_false (by omega))) rfl rfl rfl ?_|refine aV (cB rfl rfl (by omega) (by omega) rfl) rfl rfl rfl ?_)
        refine BW 8 (List.replicate 8 true) rfl (by kernel_rfl) (by kernel_rfl) (by intro c a d v w h;cases d<;>exact h) ?_
        repeat(first|refine e7 (gj rfl) rfl rfl rfl ?_|refine e7 (hZ rfl) rfl rfl rfl ?_|refine e7 (aC aT.eq ak.ty rfl rfl c2) rfl rfl rfl ?_|refine e7 (aC aT.eq ak.ty rfl rfl Bu) rfl rfl rfl ?_|refine e7 (aH ak.ty rfl rfl dF) rfl rfl rfl ?_|refine e7 (aH ak.ty rfl rfl Ri) rfl rfl rfl ?_|refine e7 (kL aT.eq rfl) rfl rfl rfl ?_|refine e7 (bQ rfl rfl (decide_eq_true (by omega))) rfl rfl rfl ?_|refine e7 (bQ rfl rfl (decide_eq_false (by omega))) rfl rfl rfl ?_|refine e7 (bm rfl rfl (decide_eq_true (by omega))) rfl rfl rfl ?_|refine e7 (bm rfl rfl (decide_eq_false (by omega))) rfl rfl rfl ?_|refine e7 (cB rfl rfl (by omega) (by omega) rfl) rfl rfl rfl ?_|refine BX ?_)
        repeat(first|refine aV (gj rfl) rfl rfl rfl ?_|refine aV (hZ rfl) rfl rfl rfl ?_|refine eL ?_|refine a8 ?_|refine aL ?_|refine kS rfl ?_|refine kT rfl ?_|refine fN ?_|refine fO ?_|refine iv ?_|refine eB ?_|refine eZ ?_|refine eP ?_|refine eg ?_|refine dM ?_|refine dN ?_|refine dI ?_|refine dJ rfl ?_|refine aV (lq rfl rfl (by kernel_rfl) uR rfl) rfl rfl rfl ?_|refine aV (kL aT.eq rfl) rfl rfl rfl ?_|refine aV (bQ rfl rfl (decide_eq_true (by omega))) rfl rfl rfl ?_|refine aV (bQ rfl rfl (decide_eq_false (by omega))) rfl rfl rfl ?_|refine aV (bm rfl rfl (decide_eq_true (by omega))) rfl rfl rfl ?_|refine aV (bm rfl rfl (decide_eq_false (by omega))) rfl rfl rfl ?_|refine aV (cB rfl rfl (by omega) (by omega) rfl) rfl rfl rfl ?_)
        exact fH (k+1) ⟨by omega,by rw[List.take_succ_eq_append_getElem c2,List.take_succ_eq_append_getElem Bu,h2,c3]⟩ (by show l.length-(k+1)<l.length-k;omega) ⟨rfl,rfl,rfl,rfl,trivial⟩ rfl
      · rw[decide_eq_false c3]at uR
        rw[decide_eq_false (fun h=>c3 (by subst h;rfl))]
        repeat(first|refine aV (gj rfl) rfl rfl rfl ?_|refine aV (hZ rfl) rfl rfl rfl ?_|refine eL ?_|refine a8 ?_|refine aL ?_|refine kS rfl ?_|refine kT rfl ?_|refine fN ?_|refine fO ?_|refine iv ?_|refine eB ?_|refine eZ ?_|refine eP ?_|refine eg ?_|refine dM ?_|refine dN ?_|refine dI ?_|refine dJ rfl ?_|refine aV (kL aT.eq rfl) rfl rfl rfl ?_|refine aV (bQ rfl rfl (decide_eq_true (by omega))) rfl rfl rfl ?_|refine aV (bQ rfl rfl (decide_eq_false (by omega))) rfl rfl rfl ?_|refine aV (bm rfl rfl (decide_eq_true (by omega))) rfl rfl rfl ?_|refine aV (bm rfl rfl (decide_eq_false (by omega))) rfl rfl rfl ?_|refine aV (cB rfl rfl (by omega) (by omega) rfl) rfl rfl rfl ?_)
        refine BW 8 (List.replicate 8 true) rfl (by kernel_rfl) (by kernel_rfl) (by intro c a d v w h;cases d<;>exact h) ?_
        repeat(first|refine e7 (gj rfl) rfl rfl rfl ?_|refine e7 (hZ rfl) rfl rfl rfl ?_|refine e7 (aC aT.eq ak.ty rfl rfl c2) rfl rfl rfl ?_|refine e7 (aC aT.eq ak.ty rfl rfl Bu) rfl rfl rfl ?_|refine e7 (aH ak.ty rfl rfl dF) rfl rfl rfl ?_|refine e7 (aH ak.ty rfl rfl Ri) rfl rfl rfl ?_|refine e7 (kL aT.eq rfl) rfl rfl rfl ?_|refine e7 (bQ rfl rfl (decide_eq_true (by omega))) rfl rfl rfl ?_|refine e7 (bQ rfl rfl (decide_eq_false (by omega))) rfl rfl rfl ?_|refine e7 (bm rfl rfl (decide_eq_true (by omega))) rfl rfl rfl ?_|refine e7 (bm rfl rfl (decide_eq_false (by omega))) rfl rfl rfl ?_|refine e7 (cB rfl rfl (by omega) (by omega) rfl) rfl rfl rfl ?_|refine BX ?_)
        repeat(first|refine aV (gj rfl) rfl rfl rfl ?_|refine aV (hZ rfl) rfl rfl rfl ?_|refine eL ?_|refine a8 ?_|refine aL ?_|refine kS rfl ?_|refine kT rfl ?_|refine fN ?_|refine fO ?_|refine iv ?_|refine eB ?_|refine eZ ?_|refine eP ?_|refine eg ?_|refine dM ?_|refine dN ?_|refine dI ?_|refine dJ rfl ?_|refine aV (lq rfl rfl (by kernel_rfl) uR rfl) rfl rfl rfl ?_|refine aV (kL aT.eq rfl) rfl rfl rfl ?_|refine aV (bQ rfl rfl (decide_eq_true (by omega))) rfl rfl rfl ?_|refine aV (bQ rfl rfl (decide_eq_false (by omega))) rfl rfl rfl ?_|refine aV (bm rfl rfl (decide_eq_true (by omega))) rfl rfl rfl ?_|refine aV (bm rfl rfl (decide_eq_false (by omega))) rfl rfl rfl ?_|refine aV (cB rfl rfl (by omega) (by omega) rfl) rfl rfl rfl ?_)
        exact db
    · have e:l=l':=by
        rw[List.take_of_length_le (by omega),List.take_of_length_le (by omega)]at h2;exact h2
      rw[decide_eq_true e]
      repeat(first|refine aV (gj rfl) rfl rfl rfl ?_|refine aV (hZ rfl) rfl rfl rfl ?_|refine eL ?_|refine a8 ?_|refine aL ?_|refine kS rfl ?_|refine kT rfl ?_|refine fN ?_|refine fO ?_|refine iv ?_|refine eB ?_|refine eZ ?_|refine eP ?_|refine eg ?_|refine dM ?_|refine dN ?_|refine dI ?_|refine dJ rfl ?_|refine aV (kL aT.eq rfl) rfl rfl rfl ?_|refine aV (bQ rfl rfl (decide_eq_true (by omega))) rfl rfl rfl ?_|refine aV (bQ rfl rfl (decide_eq_false (by omega))) rfl rfl rfl ?_|refine aV (bm rfl rfl (decide_eq_true (by omega))) rfl rfl rfl ?_|refine aV (bm rfl rfl (decide_eq_false (by omega))) rfl rfl rfl ?_|refine aV (cB rfl rfl (by omega) (by omega) rfl) rfl rfl rfl ?_)
      exact db
  · rw[decide_eq_false (fun h=>c1 (by rw[h]))]
    repeat(first|refine aV (gj rfl) rfl rfl rfl ?_|refine aV (hZ rfl) rfl rfl rfl ?_|refine eL ?_|refine a8 ?_|refine aL ?_|refine kS rfl ?_|refine kT rfl ?_|refine fN ?_|refine fO ?_|refine iv ?_|refine eB ?_|refine eZ ?_|refine eP ?_|refine eg ?_|refine dM ?_|refine dN ?_|refine dI ?_|refine dJ rfl ?_|refine aV (kL aT.eq rfl) rfl rfl rfl ?_|refine aV (bQ rfl rfl (decide_eq_true (by omega))) rfl rfl rfl ?_|refine aV (bQ rfl rfl (decide_eq_false (by omega))) rfl rfl rfl ?_|refine aV (bm rfl rfl (decide_eq_true (by omega))) rfl rfl rfl ?_|refine aV (bm rfl rfl (decide_eq_false (by omega))) rfl rfl rfl ?_|refine aV (cB rfl rfl (by omega) (by omega) rfl) rfl rfl rfl ?_)
    exact db
end bK
namespace wholeFront
open Go.RowKit bO dc bK bW eG gh aB bT k7 oI tO qV
theorem Uy:∀r∈lS.rules,r.2.length<=8796093021952:=by
 intro r hr;have:r∈QU:=hr;simp only[QU,List.mem_cons,List.not_mem_nil,or_false]at this;rcases this with rfl|rfl|rfl<;>exact Nat.le_trans (Nat.le_of_ble_eq_true rfl:_<=10) (by omega)
set_option maxRecDepth 100000 in
theorem walk(w:World)(v:Value)(s:Sp)(hv:Mq (ng w) w v s)(hb:∀r∈s.rules,r.2.length*16<=140737488351232)(tx:List UInt8)(htx:tx.length<=140737488351232)(mo:List UInt8)(Ym:mo.length<=140737488351232):
    Calls Tryz.prog 3 #[v,str tx,str mo] w (bM (ret (.bool true)) w):=by
  obtain⟨r,hx⟩:=Xf s;obtain⟨r0,T0,N0,h1⟩:=Ra;have aaI:=fun v' w' h=>Gp h1.lx (v:=v') (w:=w') h Uy h1.ok;have aaJ:=fun c w' (hg:Gr w w')=>M3 hx (hv.gr hg) (fun r h=>by have:=hb r h;omega) c;have aaK:=fun c w' (hg:Gr w w')=>Gp hx (hv.gr hg) (fun r h=>by have:=hb r h;omega) c;have BZ:=Gq hx;have Rk:=fun(y:Ye) w' h=>we (.agg (y.cells (sy lS r0)).toArray) (sy lS r0) true T0 N0 (vo:=y.vo) (vn:=y.vn) (vt:=y.vt) (vp:=y.vp) (vr:=y.vr) (va:=y.va) (vg:=y.vg) [97] w' h h1.fit (by decide);rw[h1.w1]at Rk;have hls:=fun w'=>I1 w';have XP:=fun w' x h1 h2 h3 h4=>Ul (w:=w') (a:=dP 97 97) (s:=dP 32 32) (x:=x) h1 h2 h3 h4;have W9:lS=⟨XG (dP 97 97) (dP 32 32),QU⟩:=rfl;rw[<-W9]at XP;clear W9 h1;generalize dP 97 97=ca at*;generalize dP 32 32=cs at*;generalize sy lS r0=m0 at*;generalize lS=l0 at*;obtain⟨vw0,vr0,rfl,hw,hr⟩:=hv;obtain⟨bw,cw,rfl,-⟩:=hw;obtain⟨br,cr,rfl,-⟩:=hr;clear hb;have hsz:Am.toArray.size=266:=im gY rfl;have mb:Am.toArray.toList.all Value.oneCell'=true:=uF rfl Kj rfl;refine enter (args:=[.agg #[.slice bw s.words.length cw,.slice br s.rules.length cr],str tx,str mo]) (n:=176) Tryz.func3 rfl rfl rfl ?_;refine a8 (aL (a_ rfl rfl rfl fun g2=>?_));refine zL ?_
  try refine GA ?_
  refine aI (he0 aj.en rfl) (fun w hm=>hls w) rfl rfl rfl ?_;rintro⟨q1,q2,q3,q4⟩ _
  conv=>arg 8;simp only[zJ,bZ,ret,id_eq,Uk]
  conv=>arg 7;simp only[Uk]
  refine aI (jc aj.en rfl rfl) (fun w' hm=>aaI _ w' (XP w' ⟨q1,q2,q3,q4⟩ (hm.get (i:=1) rfl) (hm.get (i:=2) rfl) (hm.get (i:=3) rfl) (hm.get (i:=4) rfl))) rfl rfl rfl ?_;intro y hy
  conv=>arg 8;simp only[zJ,bZ,ret,id_eq,I3]
  conv=>arg 7;simp only[I3]
  refine AB [0,5] ?_
  try refine GA ?_
  refine aK rfl fun g7=>?_;rw[qR];refine zL ?_;refine aE (i:=2) (cs':=(y.cells m0).toArray) rfl rfl rfl (nL y m0) hy.one hsz ?_;refine zL ?_
  repeat(first|refine GA ?_|refine gV (az (i:=2) ak.ty rfl rfl (nL y m0)) ?_)
  refine aI (eK aj.en rfl rfl rfl) (fun w' hm=>Rk y w' (hy.Nn w' (hm.get (i:=1) rfl))) rfl rfl rfl ?_;intro vo _
  conv=>arg 8;simp only[zJ,bZ,ret,id_eq,qB]
  conv=>arg 7;simp only[qB,zy]
  try refine GA ?_
  refine aD (i:=3) rfl fun _ gB=>?_;refine aK rfl fun g9=>?_;refine aE (i:=4) (cs':=#[vo,.int .i64 0,.int .i64 1]) rfl rfl rfl rfl (mh gB) rfl ?_;refine zL ?_
  repeat(first|refine GC ?_|refine gV (J (v:= .int .i64 0) ak.ty rfl (ah (i:=4) rfl rfl)) ?_|refine gV (J (v:=vo) ak.ty rfl (ah (i:=4) rfl rfl)) ?_|refine gV (cJ (i:=3) aT.eq rfl rfl) ?_|refine gV (bm (b:=false) rfl rfl (decide_eq_false (by simp))) ?_|refine gV (az (i:=0) ak.ty rfl rfl rfl) ?_|refine GB ?_)
  refine AB [0] ?_;clear Rk aaI hls XP hy gB
  by_cases c0:(xe s r.1).1≠0
  · have GL:=aaJ c0
    refine aI (jc aj.en rfl rfl) (fun w hm=>GL _ hm.below) rfl rfl rfl ?_;intro _ _;unfold aaB;refine zL ?_
    try refine GA ?_
    refine aK rfl fun g11=>?_;rw[qR];refine zL ?_;refine aE (i:=1) (cs':=Am.toArray) rfl rfl rfl hsz mb hsz ?_;refine zL ?_
    repeat(first|refine GC ?_|refine gV (bm (b:=true) rfl rfl (decide_eq_true c0)) ?_|refine GB ?_)
    exact db
  have c1:(xe s r.1).1=0:=Decidable.of_not_not c0;have GL:=aaK c1;obtain⟨b,T,N,hk⟩:=BZ c1;clear aaK aaJ BZ c0 c1 hx;generalize sy s r=m at*;refine aI (jc aj.en rfl rfl) (fun w hm=>GL _ hm.below) rfl rfl rfl ?_;intro y hy
  conv=>arg 8;simp only[zJ,bZ,ret,id_eq,I3]
  conv=>arg 7;simp only[I3]
  try refine GA ?_
  refine aK rfl fun g11=>?_;rw[qR];refine zL ?_;refine aE (i:=2) (cs':=(y.cells m).toArray) rfl rfl rfl (nL y m) hy.one hsz ?_;refine zL ?_;have hrun:=fun(q:List UInt8) w' h hq=>we (.agg (y.cells m).toArray) m b T N (vo:=y.vo) (vn:=y.vn) (vt:=y.vt) (vp:=y.vp) (vr:=y.vr) (va:=y.va) (vg:=y.vg) q w' h hk hq;have KM:=fun(q:List UInt8) w' h hq=>DC (.agg (y.cells m).toArray) m (vo:=y.vo) (vn:=y.vn) (vt:=y.vt) (vp:=y.vp) (vr:=y.vr) (va:=y.va) (vg:=y.vg) q w' h hk.tozf hq;have qY:=fun(q:List UInt8) w' (h:GS w' (.agg (y.cells m).toArray) m y.vo y.vn y.vt y.vp y.vr y.va y.vg) hq=>BJ m.o y.vn y.vt m.N m.tags q w' h.pk hk.byte hq;unfold GR at qY;have hA:=fun(q:List UInt8) (h:q.length<=2000)=>Dm (s:=q) hk.iL h;have hB:=fun(q:List UInt8) (h:2000<q.length)=>Uw (s:=q) hk.iL h;have ft:(fE m.o y.vn y.vt).length=258:=iQ _ _ _
  repeat(first|refine GA ?_|refine gV (az (i:=2) ak.ty rfl rfl (nL y m)) ?_)
  by_cases c2:2000<tx.length
  · refine aI (eK aj.en rfl rfl rfl) (fun w' hm=>KM tx w' (hy.Nn w' (hm.get (i:=1) rfl)) c2 (by omega)) rfl rfl rfl ?_
    intro _ _;refine zL ?_
    try refine GA ?_
    refine aK rfl fun g13=>aE (i:=3) (cs':=#[.slice none 0 0,.int .i64 0,.int .i64 0]) rfl rfl rfl rfl rfl rfl ?_;refine zL ?_
    repeat(first|refine GA ?_|refine gV (az (i:=2) ak.ty rfl rfl (nL y m)) ?_|refine gV (m_ rfl rfl (by omega)) ?_)
    refine aI (eK aj.en rfl rfl rfl) (fun w' hm=>KM (tx++mo) w' (hy.Nn w' (hm.get (i:=1) rfl)) (by rw[List.length_append];omega) (by rw[List.length_append];omega)) rfl rfl rfl ?_;intro _ _;refine zL ?_
    try refine GA ?_
    refine aK rfl fun g14=>aE (i:=4) (cs':=#[.slice none 0 0,.int .i64 0,.int .i64 0]) rfl rfl rfl rfl rfl rfl ?_;refine zL ?_
    repeat(first|refine GA ?_|refine gV (aH (cs:=fE m.o y.vn y.vt) ak.ty rfl ft (fun j v h=>ah (i:=2) rfl (tM ft h))) ?_)
    refine aI (eK aj.en rfl rfl rfl) (fun w' hm=>qY tx w' (hy.Nn w' (hm.get (i:=1) rfl)) (by omega)) rfl rfl rfl ?_;intro v1 _;refine zL ?_
    repeat(first|refine GA ?_|refine gV (aH (cs:=fE m.o y.vn y.vt) ak.ty rfl ft (fun j v h=>ah (i:=2) rfl (tM ft h))) ?_|refine gV (m_ rfl rfl (by omega)) ?_)
    refine aI (eK aj.en rfl rfl rfl) (fun w' hm=>qY (tx++mo) w' (hy.Nn w' (hm.get (i:=1) rfl)) (by rw[List.length_append];omega)) rfl rfl rfl ?_;intro v2 _;refine zL ?_
    try refine GA ?_
    exact db
  refine aI (eK aj.en rfl rfl rfl) (fun w' hm=>hrun tx w' (hy.Nn w' (hm.get (i:=1) rfl)) (by omega)) rfl rfl rfl ?_;intro va _
  conv=>arg 8;simp only[zJ,bZ,ret,id_eq,qB]
  conv=>arg 7;simp only[qB,zy]
  try refine GA ?_
  refine aD (i:=3) rfl fun _ gB=>?_;refine aK rfl fun g13=>?_;refine aE (i:=4) (cs':=zy va (dX m b tx)) rfl rfl rfl rfl (mh gB) rfl ?_;refine zL ?_
  repeat(first|refine GA ?_|refine gV (az (i:=2) ak.ty rfl rfl (nL y m)) ?_|refine gV (m_ rfl rfl (by omega)) ?_)
  by_cases c3:2000<(tx++mo).length
  · refine aI (eK aj.en rfl rfl rfl) (fun w' hm=>KM (tx++mo) w' (hy.Nn w' (hm.get (i:=1) rfl)) c3 (by rw[List.length_append];omega)) rfl rfl rfl ?_
    intro _ _;refine zL ?_
    try refine GA ?_
    refine aK rfl fun g14=>aE (i:=5) (cs':=#[.slice none 0 0,.int .i64 0,.int .i64 0]) rfl rfl rfl rfl rfl rfl ?_;refine zL ?_
    repeat(first|refine GA ?_|refine gV (aH (cs:=fE m.o y.vn y.vt) ak.ty rfl ft (fun j v h=>ah (i:=2) rfl (tM ft h))) ?_)
    refine aI (eK aj.en rfl rfl rfl) (fun w' hm=>qY tx w' (hy.Nn w' (hm.get (i:=1) rfl)) (by omega)) rfl rfl rfl ?_;intro v1 _;refine zL ?_
    repeat(first|refine GA ?_|refine gV (aH (cs:=fE m.o y.vn y.vt) ak.ty rfl ft (fun j v h=>ah (i:=2) rfl (tM ft h))) ?_|refine gV (m_ rfl rfl (by omega)) ?_)
    refine aI (eK aj.en rfl rfl rfl) (fun w' hm=>qY (tx++mo) w' (hy.Nn w' (hm.get (i:=1) rfl)) (by rw[List.length_append];omega)) rfl rfl rfl ?_;intro v2 _;refine zL ?_
    try refine GA ?_
    exact db
  refine aI (eK aj.en rfl rfl rfl) (fun w' hm=>hrun (tx++mo) w' (hy.Nn w' (hm.get (i:=1) rfl)) (by omega)) rfl rfl rfl ?_;intro vb _
  conv=>arg 8;simp only[zJ,bZ,ret,id_eq,qB]
  conv=>arg 7;simp only[qB,zy]
  try refine GA ?_
  refine aD (i:=5) rfl fun _ jM=>?_;refine aK rfl fun g14=>?_;refine aE (i:=6) (cs':=zy vb (dX m b (tx++mo))) rfl rfl rfl rfl (mh jM) rfl ?_;refine zL ?_
  repeat(first|refine GA ?_|refine gV (aH (cs:=fE m.o y.vn y.vt) ak.ty rfl ft (fun j v h=>ah (i:=2) rfl (tM ft h))) ?_)
  refine aI (eK aj.en rfl rfl rfl) (fun w' hm=>qY tx w' (hy.Nn w' (hm.get (i:=1) rfl)) (by omega)) rfl rfl rfl ?_;rw[hA tx (by omega)];intro v1 _
  conv=>arg 8;simp only[zJ,bZ,ret,id_eq,uN]
  conv=>arg 7;simp only[uN]
  repeat(first|refine GA ?_|refine gV (aH (cs:=fE m.o y.vn y.vt) ak.ty rfl ft (fun j v h=>ah (i:=2) rfl (tM ft h))) ?_|refine gV (m_ rfl rfl (by omega)) ?_)
  refine aI (eK aj.en rfl rfl rfl) (fun w' hm=>qY (tx++mo) w' (hy.Nn w' (hm.get (i:=1) rfl)) (by rw[List.length_append];omega)) rfl rfl rfl ?_;rw[hA (tx++mo) (by omega)];intro v2 _
  conv=>arg 8;simp only[zJ,bZ,ret,id_eq,uN]
  conv=>arg 7;simp only[uN]
  try refine GA ?_
  have BS:=sx (o:=m.o) (N:=m.N) (tags:=m.tags) (n:=(m.of.length:Int)) (by have:=hk.some;omega) hk.tag tx (tx.length+1) 0;have h9:=Q_ (o:=m.o) (N:=m.N) (tags:=m.tags) tx;have Zb:∀z,(nJ m.o m.N m.tags (tx++mo)).1=(nJ m.o m.N m.tags tx).1++z->sA (dX m b tx).2.1 (dX m b tx).1 (dX m b tx).1.length<=(dX m b (tx++mo)).1.length/\
    (dX m b tx).1.take (sA (dX m b tx).2.1 (dX m b tx).1 (dX m b tx).1.length)=(dX m b (tx++mo)).1.take (sA (dX m b tx).2.1 (dX m b tx).1 (dX m b tx).1.length)/\
    ((dX m b tx).2.1≠13\/(dX m b tx).2.2=tx.length\/((dX m b (tx++mo)).2.1=13/\(dX m b (tx++mo)).2.2=(dX m b tx).2.2)):=fun z hz=>M7 hk (L:=nJ m.o m.N m.tags tx) (L':=nJ m.o m.N m.tags (tx++mo)) (z:=z) (n:=tx.length) (n':=(tx++mo).length) hz BS h9
  clear BS h9 hA hB hrun KM qY hk;generalize nJ m.o m.N m.tags tx=X at*;generalize nJ m.o m.N m.tags (tx++mo)=Y at*;generalize dX m b tx=A at*;generalize dX m b (tx++mo)=B at*;obtain⟨X,x1,x2⟩:=X;obtain⟨Y,y1,y2⟩:=Y;obtain⟨ea,oa,pa⟩:=A;obtain⟨eb,ob,pb⟩:=B;dsimp only at Zb⊢;refine jB (i:=7) rfl fun bX cX hvX k1 k2=>?_;subst hvX;refine jB (i:=8) rfl fun bY cY hvY k3 k4=>?_;subst hvY
  by_cases c4:Y.length<X.length
  · repeat(first|refine GC ?_|refine gV (cJ (i:=7) aT.eq rfl rfl) ?_|refine gV (cJ (i:=8) aT.eq rfl rfl) ?_|refine gV (dj (b:=true) rfl rfl (decide_eq_true (by omega))) ?_|refine GB ?_)
    exact db
  have hEq:=fun w' h1 h2=>zK (.slice bX X.length cX) (wj bY cY 3 0 X.length) X ((Y.drop 0).take (X.length-0)) w' h1 h2
  by_cases c5:X=(Y.drop 0).take (X.length-0)
  · rw[decide_eq_true c5]at hEq
    obtain⟨f1,f2,f3⟩:=Zb (Y.drop X.length) (by
      conv=>lhs;rw[<-List.take_append_drop X.length Y]
      congr 1;rw[List.drop_zero,Nat.sub_zero]at c5;exact c5.symm)
    repeat(first|refine GC ?_|refine gV (cJ (i:=7) aT.eq rfl rfl) ?_|refine gV (cJ (i:=8) aT.eq rfl rfl) ?_|refine gV (dj (b:=false) rfl rfl (decide_eq_false (by omega))) ?_|refine gV (qI aT.eq ak.ty rfl rfl (by omega)) ?_|refine GB ?_)
    refine ky (eK aj.en rfl rfl rfl) (fun w hm=>hEq w (fW (i:=7) rfl _ hm) (rH zn (fW (i:=8) rfl _ hm) (Nat.zero_le _) (by omega))) rfl rfl rfl rfl rfl ?_;intro _ _;refine zL ?_;unfold zy
    try refine GA ?_
    repeat(first|refine QV QP ?_|refine eL ?_|refine eZ ?_|refine qs rfl rfl rfl rfl rfl rfl ?_|((try refine qg rfl rfl rfl ?_);first|refine QV QP ?_|refine QV (J (v:=va) ak.ty rfl (ah (i:=4) rfl rfl)) ?_|refine QV (cJ (i:=3) aT.eq rfl rfl) ?_|refine QV QL ?_|refine QV QA ?_|refine QV QmT ?_|refine QV QmF ?_|refine QV Yr ?_|refine QV Ys ?_|refine QV QnT ?_|refine QV QnF ?_|refine QV QaS ?_|refine QV QS ?_|refine QV (xw rfl rfl) ?_|refine QV QgT ?_|refine QV QgF ?_))
    have hCl:=qW oa ea ea.length;generalize hC:sA oa ea ea.length=C at*;refine Hd (i:=3) rfl fun Ga ca Wl e1 e2 e3=>?_;subst Wl;refine NW (i:=5) rfl fun Bb cb tS e4 e5=>?_;subst tS;refine oX [3,4,5,6] ?_
    (repeat refine a8 ?_)
    refine iW (ι:=Unit) (fun _=>True) (fun _=>[(1,str tx),(13,.pointer (some ⟨g13,0,none⟩)),(14,.pointer (some ⟨g14,0,none⟩)),(22,.int .i64 (C:Int))]) (fun _=>[kt (.slice (gA Ga) ea.length ca) ea,aw g13 #[.slice (gA Ga) ea.length ca,.int .i64 oa,.int .i64 (pa:Int)] 45,kt (.slice Bb eb.length cb) eb,aw g14 #[.slice Bb eb.length cb,.int .i64 ob,.int .i64 (pb:Int)] 45]) ?_ ?_
    · (repeat refine a8 ?_)
      refine eB ?_;refine dv (ι:=Nat) (fun n=>n<=ea.length/\sA oa ea n=C) (fun n=>[(1,str tx),(13,.pointer (some ⟨g13,0,none⟩)),(14,.pointer (some ⟨g14,0,none⟩)),(22,.int .i64 (n:Int))]) (fun _=>[kt (.slice (gA Ga) ea.length ca) ea,aw g13 #[.slice (gA Ga) ea.length ca,.int .i64 oa,.int .i64 (pa:Int)] 45,kt (.slice Bb eb.length cb) eb,aw g14 #[.slice Bb eb.length cb,.int .i64 ob,.int .i64 (pb:Int)] 45]) (fun n=>n) ea.length ⟨Nat.le_refl _,hC⟩ ?_;rintro n ⟨i1,i2⟩
      cases n with
      | zero=>
        obtain rfl:C=0:=by rw[<-i2];rfl
        by_cases d:oa=0
        · repeat(first|refine GC ?_|refine gV (J (v:= .int .i64 oa) ak.ty rfl (ah (i:=1) rfl rfl)) ?_|refine gV (bL (b:=true) rfl rfl (decide_eq_true d)) ?_|refine gV (dj (b:=false) rfl rfl (decide_eq_false (by omega))) ?_|refine GB ?_)
          exact dm () trivial (by repeat' (first|exact True.intro|refine And.intro rfl ?_)) rfl
        · repeat(first|refine GC ?_|refine gV (J (v:= .int .i64 oa) ak.ty rfl (ah (i:=1) rfl rfl)) ?_|refine gV (bL (b:=false) rfl rfl (decide_eq_false d)) ?_|refine GB ?_)
          exact dm () trivial (by repeat' (first|exact True.intro|refine And.intro rfl ?_)) rfl
      | succ n=>
        rw[sA]at i2
        by_cases d:oa=0
        · have hn:n<ea.length:=by omega
          obtain⟨ga,rfl⟩:∃ga,Ga=some ga:=by
            cases Ga with
            |none=>have:=e3 rfl;omega
            |some ga=>exact⟨ga,rfl⟩
          have dF:=fun(j:Nat) (u:Value) (h:(dg ea[n])[j]?=some u)=>kA (f:=dg) (c:=2) (W:=(w:bC)) (L:=[kt (.slice (gA (some ga)) ea.length ca) ea,aw g13 #[.slice (gA (some ga)) ea.length ca,.int .i64 oa,.int .i64 (pa:Int)] 45,kt (.slice Bb eb.length cb) eb,aw g14 #[.slice Bb eb.length cb,.int .i64 ob,.int .i64 (pb:Int)] 45]) (i:=0) (g:=ga) (fun _=>rfl) rfl hn j u h;rw[List.getD_eq_getElem?_getD,List.getElem?_eq_getElem hn,Option.getD_some]at i2;generalize ea[n]=x at*
          by_cases d2:x.1=2
          · rw[if_neg (fun h=>h.2 d2)]at i2
            subst i2
            repeat(first|refine GC ?_|refine gV (J (v:= .int .i64 oa) ak.ty rfl (ah (i:=1) rfl rfl)) ?_|refine gV (bL (b:=true) rfl rfl (decide_eq_true d)) ?_|refine gV (J (v:= .slice (gA (some ga)) ea.length ca) ak.ty rfl (ah (i:=1) rfl rfl)) ?_|refine gV (df (r:=(n:Int)) rfl rfl (by omega) (by omega) (by omega)) ?_|refine gV (J (v:= .int .i64 x.1) ak.ty rfl (dF 0 _ rfl)) ?_|refine gV (bm (b:=false) rfl rfl (decide_eq_false (by simp[d2]))) ?_|refine gV (dj (b:=true) rfl rfl (decide_eq_true (by omega))) ?_|refine gV (aC aT.eq ak.ty rfl rfl hn) ?_|refine GB ?_)
            exact dm () trivial (by repeat' (first|exact True.intro|refine And.intro rfl ?_)) rfl
          · rw[if_pos ⟨d,d2⟩]at i2
            repeat(first|refine GC ?_|refine gV (J (v:= .int .i64 oa) ak.ty rfl (ah (i:=1) rfl rfl)) ?_|refine gV (bL (b:=true) rfl rfl (decide_eq_true d)) ?_|refine gV (J (v:= .slice (gA (some ga)) ea.length ca) ak.ty rfl (ah (i:=1) rfl rfl)) ?_|refine gV (df (r:=(n:Int)) rfl rfl (by omega) (by omega) (by omega)) ?_|refine gV (J (v:= .int .i64 x.1) ak.ty rfl (dF 0 _ rfl)) ?_|refine gV (bm (b:=true) rfl rfl (decide_eq_true d2)) ?_|refine gV (dj (b:=true) rfl rfl (decide_eq_true (by omega))) ?_|refine gV (aC aT.eq ak.ty rfl rfl hn) ?_|refine GB ?_)
            exact bB n ⟨by omega,i2⟩ (Nat.lt_succ_self n)
        · rw[if_neg (fun h=>d h.1)]at i2
          subst i2
          repeat(first|refine GC ?_|refine gV (J (v:= .int .i64 oa) ak.ty rfl (ah (i:=1) rfl rfl)) ?_|refine gV (bL (b:=false) rfl rfl (decide_eq_false d)) ?_|refine GB ?_)
          exact dm () trivial (by repeat' (first|exact True.intro|refine And.intro rfl ?_)) rfl
    · intro _ _
      have hq:=fun w' h1 h2=>zM (wj (gA Ga) ca 2 0 C) (wj Bb cb 2 0 C) ((ea.drop 0).take (C-0)) ((eb.drop 0).take (C-0)) w' h1 h2;rw[List.drop_zero,List.drop_zero,Nat.sub_zero,decide_eq_true f2]at hq;have hsa:=fun w' (hm:Mem (w:bC) [kt (.slice (gA Ga) ea.length ca) ea,aw g13 #[.slice (gA Ga) ea.length ca,.int .i64 oa,.int .i64 (pa:Int)] 45,kt (.slice Bb eb.length cb) eb,aw g14 #[.slice Bb eb.length cb,.int .i64 ob,.int .i64 (pb:Int)] 45] w')=>rH (f:=Vy) (c:=2) (i:=0) (j:=C) (fun _=>rfl) (Sl.cI (hm.get (i:=0) rfl)) (Nat.zero_le _) hCl;have Rz:=fun w' (hm:Mem (w:bC) [kt (.slice (gA Ga) ea.length ca) ea,aw g13 #[.slice (gA Ga) ea.length ca,.int .i64 oa,.int .i64 (pa:Int)] 45,kt (.slice Bb eb.length cb) eb,aw g14 #[.slice Bb eb.length cb,.int .i64 ob,.int .i64 (pb:Int)] 45] w')=>rH (f:=Vy) (c:=2) (i:=0) (j:=C) (fun _=>rfl) (Sl.cI (hm.get (i:=2) rfl)) (Nat.zero_le _) f1
      (repeat refine a8 ?_)
      refine cU ([kt (.slice (gA Ga) ea.length ca) ea,aw g13 #[.slice (gA Ga) ea.length ca,.int .i64 oa,.int .i64 (pa:Int)] 45,kt (.slice Bb eb.length cb) eb,aw g14 #[.slice Bb eb.length cb,.int .i64 ob,.int .i64 (pb:Int)] 45]) (.calm 0 (.calm 1 (.calm 2 (.calm 3 (.calm 4 (.calm 5 (.calm 6 (.calm 7 (.calm 8 (.calm 9 (.calm 10 (.calm 11 (.calm 12 (.calm 13 (.calm 14 (.calm 15 (.calm 16 (.calm 17 (.calm 18 (.calm 19 (.calm 20 (.calm 21 (.calm 22 (.calm 23 (.calm 24 (.calm 25 (.calm 26 (.calm 27 (.calm 28 (.calm 29 (.calm 30 (.calm 31 (.calm 32 (.calm 33 (.calm 34 (.calm 35 (.calm 36 (.calm 37 (.calm 38 (.calm 39 (.calm 40 (.done)))))))))))))))))))))))))))))))))))))))))) (fun _ h=>h) ?_
      repeat(first|(refine GN ?_;first|refine QW QP ?_|refine QW (J (v:= .slice Bb eb.length cb) ak.ty rfl (ah (i:=3) rfl rfl)) ?_|refine QW (cJ (i:=2) aT.eq rfl rfl) ?_|refine QW (rC (b:=true) rfl rfl (decide_eq_true (by omega))) ?_|refine QW (J (v:= .slice (gA Ga) ea.length ca) ak.ty rfl (ah (i:=1) rfl rfl)) ?_|refine QW (qI aT.eq ak.ty rfl rfl (by omega)) ?_|refine GX ?_)|refine GW ?_)
      refine xA rfl (eK aj.en rfl rfl rfl) (fun w hm=>hq w (hsa w hm) (Rz w hm)) rfl rfl rfl rfl rfl ?_
      by_cases d1:oa=13
      · by_cases d2:pa=tx.length
        · repeat(first|(refine GN ?_;first|refine QW QP ?_|refine QW (J (v:= .int .i64 oa) ak.ty rfl (ah (i:=1) rfl rfl)) ?_|refine QW (bm (b:=false) rfl rfl (decide_eq_false (by simp[d1]))) ?_|refine QW (J (v:= .int .i64 (pa:Int)) ak.ty rfl (ah (i:=1) rfl rfl)) ?_|refine QW (bL (b:=true) rfl rfl (decide_eq_true (by omega))) ?_|refine GX ?_)|refine GW ?_)
          try refine GA ?_
          exact db
        · obtain⟨f4,f5⟩:=(f3.resolve_left (fun h=>h d1)).resolve_left d2
          repeat(first|(refine GN ?_;first|refine QW QP ?_|refine QW (J (v:= .int .i64 oa) ak.ty rfl (ah (i:=1) rfl rfl)) ?_|refine QW (bm (b:=false) rfl rfl (decide_eq_false (by simp[d1]))) ?_|refine QW (J (v:= .int .i64 (pa:Int)) ak.ty rfl (ah (i:=1) rfl rfl)) ?_|refine QW (bL (b:=false) rfl rfl (decide_eq_false (by omega))) ?_|refine QW (J (v:= .int .i64 ob) ak.ty rfl (ah (i:=3) rfl rfl)) ?_|refine QW (bL (b:=true) rfl rfl (decide_eq_true f4)) ?_|refine QW (J (v:= .int .i64 (pb:Int)) ak.ty rfl (ah (i:=3) rfl rfl)) ?_|refine QW (bL (b:=true) rfl rfl (decide_eq_true (by omega))) ?_|refine GX ?_)|refine GW ?_)
          try refine GA ?_
          exact db
      · repeat(first|(refine GN ?_;first|refine QW QP ?_|refine QW (J (v:= .int .i64 oa) ak.ty rfl (ah (i:=1) rfl rfl)) ?_|refine QW (bm (b:=true) rfl rfl (decide_eq_true d1)) ?_|refine GX ?_)|refine GW ?_)
        try refine GA ?_
        exact db
  · rw[decide_eq_false c5]at hEq
    repeat(first|refine GC ?_|refine gV (cJ (i:=7) aT.eq rfl rfl) ?_|refine gV (cJ (i:=8) aT.eq rfl rfl) ?_|refine gV (dj (b:=false) rfl rfl (decide_eq_false (by omega))) ?_|refine gV (qI aT.eq ak.ty rfl rfl (by omega)) ?_|refine GB ?_)
    refine ky (eK aj.en rfl rfl rfl) (fun w hm=>hEq w (fW (i:=7) rfl _ hm) (rH zn (fW (i:=8) rfl _ hm) (Nat.zero_le _) (by omega))) rfl rfl rfl rfl rfl ?_;intro _ _;refine zL ?_
    try refine GA ?_
    exact db
end wholeFront
end Go.Proofs.YtdmgcnggnejnnaaGreat

/- Part 5 of what WholeFront needs: ItE, ItF, ItG, ItA, ItP, OutA, Opens, CfgL, SpecL, SpecS, SpecI, SpecJ, CfgP, SmX, SmY, SmPL, SpecN, CfgQ, CfgR, SpecP, SmA, SmPk, SpecQ, SpecC, CountC, CountD. -/
import Derived.Test.YtdmgcnggnejnnaaGreatMgD
import Derived.Lib.IndexMore
namespace Go.Proofs.YtdmgcnggnejnnaaGreat
set_option linter.unusedVariables false
set_option linter.unusedSimpArgs false
set_option maxHeartbeats 16000000
namespace bK
open Go.RowKit bO dc aY Go.Sort
theorem Ih(w:World)(n g:Nat)(d:Array Value)(os:Array Obj){k:Nat}(hk:k<w.heap.size)(hg:k≠g):(grow (putRow id (Go.Sort.ahead w n) g 0 d) os).heap[k]?=w.heap[k]?:=by
 rw[heap_grow_old _ _ (by rw[size_putRow];exact hk)];show(w.heap.modify g _)[k]?=w.heap[k]?
 rw[Array.getElem?_modify,if_neg (fun h=>hg h.symm)]
theorem PE{B:bC}{w:World}{e:TypeId}{g cap m size:Nat}{xs:List Value}(hm:Mem B [aM e size (.slice (some ⟨g,0,none⟩) m cap) m xs] w)(d:Array Value)(hd:d.size=m*size)(n:Nat)(os:Array Obj):
 Mem B [aM e size (.slice (some ⟨g,0,none⟩) m cap) m d.toList] (grow (putRow id (Go.Sort.ahead w n) g 0 d) os):=by
 have ho:w.ownsRow 0 e size (.slice (some ⟨g,0,none⟩) m cap) m xs:=hm.get (i:=0) rfl;obtain⟨hl,hr⟩:=ho;rcases hr with⟨h,_⟩|⟨g2,Wh,kK,hv,_,hg,hc,hx,hs,ht⟩
 ·cases h
 cases hv
 have EN:B.may g:=(hm.owns.all 0 _ rfl).2 g (.inl rfl);have hgw:g<w.heap.size:=(Array.getElem?_eq_some_iff.1 hg).1;have OS:(grow (putRow id (Go.Sort.ahead w n) g 0 d) os).heap[g]?=some (.cells (putCells id 0 d kK) e (0,0)):=by
  rw[heap_grow_old _ _ (by rw[size_putRow];exact hgw)];show(w.heap.modify g (onCells (putCells id 0 d)))[g]?=_
  rw[Array.getElem?_modify,if_pos rfl,hg];rfl
 have hle:m*size<=cap*size:=Nat.mul_le_mul_right _ hc;refine⟨⟨hm.low.os,hm.low.tape,hm.low.output,?_,fun k hk hx=>?_⟩,dH.one ⟨?_,.inr ⟨g,cap,_,rfl,Nat.zero_le _,OS,hc,hx,?_,?_⟩⟩ fun k hk=>?_⟩
 ·rw[size_grow,size_putRow];exact Nat.le_trans hm.low.size (Nat.le_add_right _ _)
 ·have hkg:k≠g:=fun e=>by
   subst e;rcases EN with h|h
   ·omega
   ·exact hx h
  rw[Ih w n g d os (Nat.lt_of_lt_of_le hk hm.low.size) hkg];exact hm.low.block k hk hx
 ·rw[Array.length_toList,hd]
 ·unfold putCells;rw[Array.size_mapIdx];exact hs
 ·apply List.ext_getElem?
  intro j;rw[List.getElem?_take]
  by_cases hj:j<m*size
  ·have R5:j<kK.size:=by omega
   rw[if_pos hj,Array.getElem?_toList,Array.getElem?_toList];unfold putCells;rw[Array.getElem?_mapIdx,Array.getElem?_eq_getElem R5,Option.map_some,if_pos ⟨Nat.zero_le _,by omega⟩,Nat.sub_zero,getElem!_pos d j (by omega),Array.getElem?_eq_getElem (by omega:j<d.size)];rfl
  ·rw[if_neg hj,Array.getElem?_toList,Array.getElem?_eq_none (by omega)]
 ·rcases hk with h|h
  ·simp only[aM,Value.ownBlock,Option.some.injEq]at h;subst h;exact EN
  ·exact h.elim
theorem WX:SWO (ltOf E6):=⟨JY,fun _ _ _ h1 h2=>WG h1 h2,fun x y z h1 h2=>by
 have h1:HV x y=false:=h1;have h2:HV y z=false:=h2;show HV x z=false
 rw[HW]at*;omega⟩
theorem J9(l:List aY.Item):(flatK fG 3 l.toArray).toList=l.flatMap fG:=by
 have hL:(l.flatMap fG).length=l.length*3:=ka jj l;apply List.ext_getElem?;intro t
 by_cases ht:t<l.length*3
 ·have hd:t/3<l.length:=by omega
  have h1:=get_flatK fG 3 l.toArray t (by simpa using ht);rw[getElem!_pos (flatK fG 3 l.toArray) t (by simpa using ht),getElem!_pos l.toArray (t/3) (by simpa using hd)]at h1;have h2:=pF (c:=3) (l.map fG) (fun x hx=>by obtain⟨y,_,rfl⟩:=List.mem_map.1 hx;exact jj y) (t/3) (t %3) (by simpa using hd) (Nat.mod_lt _ (by decide));rw[show t/3*3+t %3=t by omega,List.getElem_map]at h2;rw[Array.getElem?_toList,Array.getElem?_eq_getElem (by simpa using ht),h1];show _=(l.map fG).flatten[t]?
  rw[h2];have h3:t %3<(fG l[t/3]).length:=by rw[jj];exact Nat.mod_lt _ (by decide)
  rw[List.getElem?_eq_getElem h3];simp only[List.getElem_toArray];rw[getElem!_pos (fG l[t/3]) (t %3) h3]
 ·rw[List.getElem?_eq_none (by rw[Array.length_toList,size_flatK];simp;omega),List.getElem?_eq_none (by omega)]
theorem Ii{w:World}{e:TypeId}{g cap m size:Nat}{xs:List Value}(ho:w.ownsRow 0 e size (.slice (some ⟨g,0,none⟩) m cap) m xs)(d:Array Value)(hd:d.toList=xs):Holds id w g 0 d/\g<w.heap.size:=by
 obtain⟨hl,hr⟩:=ho;rcases hr with⟨h,_⟩|⟨g2,Wh,kK,hv,_,hg,hc,hx,hs,ht⟩
 ·cases h
 cases hv
 refine⟨fun j hj=>?_,(Array.getElem?_eq_some_iff.1 hg).1⟩;have hle:m*size<=cap*size:=Nat.mul_le_mul_right _ hc;have V':j<xs.length:=by rw[<-hd];simpa using hj
 have YO:kK[j]?=some d[j]:=by
  have:=congrArg (fun l=>l[j]?) ht;rw[List.getElem?_take,if_pos (by omega),Array.getElem?_toList,<-hd,Array.getElem?_toList,Array.getElem?_eq_getElem hj]at this;exact this
 refine⟨?_,?_⟩
 ·rw[cell_of_row w g (0+j) _ _ _ hg,Nat.zero_add,YO,getElem!_pos d j hj];rfl
 ·unfold World.frozen?
  rw[hg];simp
def Tm:Prop:=∀(x y:aY.Item) (w:World),Calls Tryz.prog 161 #[.agg (fG x).toArray,.agg (fG y).toArray] w fun e w'=>e= .returned (.int .i64 (E6 x y))/\∃q os',w'=grow (w.drewN q) os'
theorem Tn(abd:Tm)(v:Value)(l:List aY.Item)(w:World)(B:bC)(hm:Mem B [aM 278 3 v l.length (l.flatMap fG)] w)(hl:l.length<4611686018427387904):
 Calls Tryz.prog 160 #[v,.func (.func 161) #[] #[]] w (c_ ⟨fun(_:Unit)=>True,fun _=> .tuple #[],fun _=>[aM 278 3 v l.length ((p8 l).flatMap fG)]⟩ B):=by
 have ho:w.ownsRow 0 278 3 v l.length (l.flatMap fG):=hm.get (i:=0) rfl;have AA:=ho;rcases ho.2 with⟨rfl,h0⟩|⟨g,cap,kK,rfl,_,hg,hc,hx,hs,ht⟩
 ·obtain rfl:l=[]:=List.length_eq_zero_iff.1 h0
  refine(AnyF.slices_SortFunc_none PD none 0 _ w).mono fun e w' ⟨he,hw⟩=>⟨(),trivial,he,?_⟩;rw[hw];exact(by simpa[p8]using hm)
 ·obtain⟨h1,h2⟩:=Ii AA (flatK fG 3 l.toArray) (J9 l)
  have abe:CmpLays Tryz.prog 161 #[] fG 3 E6 g 0 l.toArray.size w:=fun m os dk _ x y=>by
   have h:=abd x y (sortWorldK fG 3 w g 0 m dk os)
   simpa using h
  have h:=AnyQ.slices_SortFunc_total PD 3 Tryz.isAgg278 Tryz.sizeOf278 fG jj (fun x v hv=>by simp only[fG,List.mem_cons,List.not_mem_nil,or_false]at hv;rcases hv with rfl|rfl|rfl<;>rfl) E6 WX 161 #[] g 0 cap l.toArray w aj.en abe h1 h2 (by simpa using hl) L1;have hz:l.toArray.size=l.length:=by simp
  rw[hz]at h;refine h.mono fun e w' ⟨he,n,os,hw⟩=>⟨(),trivial,he,?_⟩;have hlen:(p8 l).length=l.length:=E8 l;have hq:=PE hm (flatK fG 3 (p8 l).toArray) (by rw[size_flatK];simp[hlen]) n os;rw[J9]at hq;rw[hw];exact hq
end bK
namespace bK
open Go.RowKit bO dc aB dy cL aY bT
def PF(B:bC)(v:Value)(n:Nat)(xs:List Value):Prop:=
 ∃base cap,v= .slice base n cap/\n<=cap/\cap<=maxLen/\(0<n->∃b off,base=some ⟨b,off,none⟩/\ur B b/\Rd B.w b off xs)
theorem J_{l:List aB.Prod}{w0:World}{W:bC}{vb:Nat->Value}{k dn:Nat}{x:Option Nat}{bb:Option Addr}{cc m:Nat}(ho:jz w0 W)(hv:L7 (fun q=>q<w0.heap.size) w0 vb l)(hk:k<=l.length)(hx:x.isSome=decide (k=l.length))(hb:SX vb k x= .slice bb m cc)(hd:dn<(ee l (k:Int)).length):
  ∃b off,bb=some ⟨b,off,none⟩/\∀(L:List bI) (i:Nat),L[i]?=some (uy x)->∀j u,(dg (ee l (k:Int))[dn])[j]?=some u->At W L ⟨b,off+dn*2+j,none⟩ u:=by
 cases x with
 |some g=>
  have hk:k=l.length:=by simpa using hx
  subst hk;have e:ee l (l.length:Int)=[(2,0)]:=by unfold ee;rw[if_pos rfl]
  have hb:Value.slice (some ⟨g,0,none⟩) 1 1= .slice bb m cc:=hb
  cases hb
  refine⟨g,0,rfl,fun L i hi j u hj=>?_⟩;have hd0:dn=0:=by rw[e]at hd;simpa using hd
  subst hd0;simp only[e,List.getElem_cons_zero]at hj;rw[show 0+0*2+j=j by omega];exact ah hi (by simpa[dg]using hj)
 | none=>
  have kp:k<l.length:=by
   have:¬k=l.length:=by simpa using hx
   omega
  have e:ee l (k:Int)=(bU l (k:Int)).2:=by unfold ee;rw[if_neg (by omega)]
  have hs:=(hv k kp).flat (f:=dg) (by decide);have hb:vb k= .slice bb m cc:=hb;rw[hb]at hs;obtain⟨base,cap,h1,_,_,h3⟩:=hs
  cases h1
  have Yl:dn<(bU l (k:Int)).2.length:=by rw[<-e];exact hd
  obtain⟨b,off,rfl,hr⟩:=h3 (by omega);refine⟨b,off,rfl,fun L i _ j u hj=>?_⟩;simp only[e]at hj;exact pC (W:=W) (L:=L) yE (off:=off) (fun q y hq=>fx ho (hr q y hq)) Yl j u hj
theorem Ml(g:dr){it:aY.Item}(h:it.2.2.toNat<64):p9 (h_ g) it<18446744073709551616:=by
 have h1:h_ g it.1 it.2.1<18446744073709551616:=J2 (by decide);unfold p9;split
 ·exact Nat.or_lt_two_pow (n:=64) (Nat.xor_lt_two_pow (n:=64) h1 (by decide)) (Nat.pow_lt_pow_right (by decide) h)
 ·exact h1
theorem si{i bits:Nat}{out:List aY.Item}:∀k,(dY i bits out k).length<=out.length+k
 |0=>Nat.le_refl _
 |k+1=>by
  rw[dY];have:=si (i:=i) (bits:=bits) (out:=out) k;have h2:(more (dY i bits out k) ((i:Int),0,(k:Int))).length<=(dY i bits out k).length+1:=by unfold more;split<;>simp
  split<;>omega
theorem yQ{l:List aB.Prod}{T:Nat}{N:Int}{bits:Nat}{out:List aY.Item}:∀i,(dZ l T N bits out i).length<=out.length+i*(T+1)
 |0=>by rw[Nat.zero_mul];exact Nat.le_refl _
 |i+1=>by
  rw[dZ,Nat.succ_mul];have:=yQ (l:=l) (T:=T) (N:=N) (bits:=bits) (out:=out) i;have h2:=si (i:=i) (bits:=bits) (out:=dZ l T N bits out i) (T+1);split<;>omega
theorem wZ{L:List bI}{is:List Nat}{o:bI}(h:o∈is.filterMap fun i=>L[i]?):o∈L:=by
 obtain⟨i,_,hi⟩:=List.mem_filterMap.1 h;exact List.mem_of_getElem? hi
def To(g:dr)(bp:Option Addr)(cp go gm:Nat)(f:RK->Option Value)(c:Nat):List bI:=[aw go (vj g.aF g.aU (.slice bp g.ag.length cp) gm).toArray 314,dL fM gm f c]
theorem yR{κ:Type}[DecidableEq κ]:∀(l D:List κ),(cP D l).length<=D.length+l.length
 |[],D=>by simp[cP]
 |k::r,D=>by
  rw[cP];have:=yR r (if k∈D then D else D++[k]);have h2:(if k∈D then D else D++[k]).length<=D.length+1:=by split<;>simp
  rw[List.length_cons];omega
theorem PG{l:List aB.Prod}{T:Nat}{x:aY.Item}(h:dl l T x)(hl:l.length<=40)(hw:∀q∈l,q.2.length<=8)(hT:T<=30):CN.ok x:=by
 obtain⟨a1,a2,a3,a4,a5,a6⟩:=h;have:=jH (l:=l) (p:=x.1) hw;exact⟨⟨by omega,by omega⟩,⟨by omega,by omega⟩,by omega,by omega⟩
def qm(g:dr)(T:Nat)(l0:List aY.Item)(bp:Option Addr)(cp go gm c:Nat):Spec ((RK->Option Value)×Nat×Value):=
 ⟨fun x=>gT (h_ g) x.1/\x.2.1<=c+12000,fun x=>x.2.2,fun x=>To g bp cp go gm x.1 x.2.1++[aM 278 3 x.2.2 (gO g.ag T (h_ g) l0).length ((gO g.ag T (h_ g) l0).flatMap fG)]⟩
theorem Zw{i j:Nat}(hi:i<=1000)(hj:j<=1000):CN.ok ((i:Int),0,(j:Int)):=by
 show(-9223372036854775808<=(i:Int)/\(i:Int)<=9223372036854775807)/\(-9223372036854775808<=(0:Int)/\(0:Int)<=9223372036854775807)/\(-9223372036854775808<=(j:Int)/\(j:Int)<=9223372036854775807)
 omega
theorem Bt(a c:Int)(w:World):(Instr.build 278 #[(0,.int .i64 a),(2,.int .i64 c)]).run Tryz.prog w= .ok (.agg #[.int .i64 a,.int .i64 0,.int .i64 c]) w:=by kernel_rfl
attribute [local irreducible] Op.shift Go.bits in
theorem qn(g:dr)(hg:cz g=0)(bp:Option Addr)(cp:Nat)(vb:Nat->Value)(w0:World)(hG:iZ (fun q=>q<w0.heap.size) w0 (cO g.aF g.aU (.slice bp g.ag.length cp)) g)(tS:L7 (fun q=>q<w0.heap.size) w0 vb g.ag)(lF:0<g.ag.length->∃b off,bp=some ⟨b,off,none⟩/\∀i,i<g.ag.length->Rd w0 b (off+i*2) [.int .i64 (bU g.ag (i:Int)).1,vb i])
    (go gm c:Nat) (f:RK->Option Value) (T:Nat) (C1:g.aF=(T:Int)) (hT:T<=30) (l0:List aY.Item) (vl:Value) (h0:∀x∈l0,dl g.ag T x) (Zx:l0.length<=20000) (hc:gT (h_ g) f) (hcc:c<=900000000000000) (w:World) (B:bC) (ho:jz w0 B) (Rv:PF B vl l0.length (l0.flatMap fG))
    (hm:Mem B (To g bp cp go gm f c) w):
    Calls Tryz.prog 129 #[.pointer (some ⟨go,0,none⟩),vl] w (c_ (qm g T l0 bp cp go gm c) B):=by
  obtain⟨-,-,-,-,w6,Zy⟩:=bV hg;have DN:∀q∈g.ag,q.2.length<=8:=fun q hq=>(Zy q hq).1;have PH:=fun g5 Mm g6 b v cn out it hit hp hb hn w' B' mN=>Fu g5 Mm g6 b v cn out it hit hp hb hn w' B' mN;unfold To at hm;obtain⟨bl,cl,rfl,oL,wh,CA⟩:=Rv;unfold maxLen at wh;refine dC hm (args:=[.pointer (some ⟨go,0,none⟩),.slice bl l0.length cl]) (n:=117) Tryz.func129 rfl rfl rfl ?_
  try refine GA ?_
  refine R8 CN (z:= .int .i64 0) rfl fun Mm=>?_;refine zL ?_
  try refine GA ?_
  refine aK rfl fun g5=>?_;refine zL ?_;refine aW (i:=3) rfl rfl rfl rfl rfl rfl ?_;refine zL ?_
  try refine GA ?_
  refine aK rfl fun g6=>?_;refine zL ?_
  repeat(first|refine GA ?_|refine gV (nT rfl rfl) ?_)
  conv=>arg 7;simp only[zA,zB,zC,zD,zE,zF,zG,zH,zI,bZ,ret,id_eq]
  refine mz (aM 278 3 (.slice none 0 0) 0 []) (fun k hk=>hk.elim (fun h=>by cases h) id) (fun w=>⟨by decide,.inl ⟨rfl,rfl⟩⟩) ?_;refine oX [0,1,3,2,4,5] ?_
  conv=>arg 7;simp only[zA,zB,zC,zD,zE,zF,zG,zH,zI,bZ,ret,id_eq]
  refine dv (ι:=Nat×Value×(aY.Item->Nat)) (fun(j,_,cn)=>j<=l0.length/\ny cn (cP [] (l0.take j)) (2*j)) (fun(j,_,_)=>[(0,.pointer (some ⟨go,0,none⟩)),(6,.pointer (some ⟨g6,0,none⟩)),(7,.func (.func 157) #[] #[.pointer (some ⟨g5,0,none⟩),.pointer (some ⟨g6,0,none⟩)]),(18,.slice bl l0.length cl),(19,.int .i64 (l0.length:Int)),(20,.int .i64 (j:Int))])
    (fun(j,v,cn)=>[aw go (vj g.aF g.aU (.slice bp g.ag.length cp) gm).toArray 314,dL fM gm f c]++Ag g5 Mm g6 (2*j) v cn (cP [] (l0.take j))) (fun(j,_,_)=>l0.length-j) (0,.slice none 0 0,fun _=>0) ⟨Nat.zero_le _,⟨fun x=>by simp[cP],fun x=>Nat.zero_le _⟩⟩ ?_
  rintro⟨j,v,cn⟩ ⟨j1,j2⟩;dsimp only at j1 j2⊢
  by_cases c1:j<l0.length
  · obtain⟨b,off,rfl,z8,K_⟩:=CA (by omega)
    have dF:=fun L=>pC (W:=B) (L:=L) jj (off:=off) (fun q u hq=>om z8 K_ q u hq) c1;have hx0:=h0 l0[j] (List.getElem_mem c1);have hxo:=PG hx0 w6 DN hT;have GV:(cP [] (l0.take j)).length<=j:=Nat.le_trans (yR _ _) (by rw[List.length_nil,List.length_take];omega);have qO:more (cP [] (l0.take j)) l0[j]=cP [] (l0.take (j+1)):=by rw[List.take_succ_eq_append_getElem c1,iC]
    have WY:=j2.put l0[j];rw[qO]at WY;have PH:=fun w' B' mN=>PH g5 Mm g6 (2*j) v cn (cP [] (l0.take j)) l0[j] hxo j2 (by omega) (by omega) w' B' mN;rw[qO]at PH;generalize cP [] (l0.take j)=out at*;generalize XW:cP [] (l0.take (j+1))=WZ at*;generalize l0[j]=x at*
    repeat(first|refine GA ?_|refine gV (aC aT.eq ak.ty rfl rfl c1) ?_|refine gV (aH ak.ty rfl (jj x) (dF _)) ?_)
    refine aK rfl fun g9=>?_;refine zL ?_;refine fa 6 (cs':=(fG x).toArray) ?_;refine zL ?_
    repeat(first|refine GA ?_|refine gV (az (i:=6) ak.ty rfl rfl rfl) ?_)
    refine aR [2,3,4,5] [0,1,6] (by decide) rfl rfl (zU aj.en rfl rfl) (fun w hm hb=>PH w _ hb) rfl rfl rfl ?_;intro v' _;refine zL ?_
    try refine GA ?_
    refine cD [0,1,3,4,5,6] ?_;exact bB (j+1,v',uC cn x) ⟨by show j+1<=l0.length;omega,by show ny _ (cP [] (l0.take (j+1))) _;rw[XW];exact WY⟩ (by show l0.length-(j+1)<l0.length-j;omega) (hl:=by dsimp only;rw[XW];rfl)
  · obtain rfl:j=l0.length:=by omega
    rw[List.take_length]at j2;have zZ:(cP [] l0).length<=20000:=Nat.le_trans (yR _ _) (by rw[List.length_nil];omega);clear CA
    try refine GA ?_
    conv=>arg 7;simp only[zA,zB,zC,zD,zE,zF,zG,zH,zI,bZ,ret,id_eq,List.take_length,Ag,List.cons_append,List.nil_append]
    refine dv (ι:=Nat×List aY.Item×(RK->Option Value)×Nat×Value×(aY.Item->Nat)×Nat) (fun(n,out,f',c',_,Ve,b)=>X2 g.ag T (h_ g) l0 n out/\oT g.ag T (h_ g) (12000-n) n out=oT g.ag T (h_ g) 12000 0 (cP [] l0)/\gT (h_ g) f'/\c'<=c+n/\ny Ve out b/\b<=40000+2480*n)
      (fun(n,_,_,_,_,_,_)=>[(0,.pointer (some ⟨go,0,none⟩)),(6,.pointer (some ⟨g6,0,none⟩)),(7,.func (.func 157) #[] #[.pointer (some ⟨g5,0,none⟩),.pointer (some ⟨g6,0,none⟩)]),(10,.int .i64 (n:Int))])
      (fun(_,out,f',c',v',Ve,b)=>[aw go (vj g.aF g.aU (.slice bp g.ag.length cp) gm).toArray 314,dL fM gm f' c',aw g5 #[.map (some Mm)] 316,lu CN Mm (.int .i64 0) (yP Ve) b,aw g6 #[v'] 273,aM 278 3 v' out.length (out.flatMap fG)]) (fun(n,_)=>12000-n) (0,cP [] l0,f,c,v,cn,2*l0.length) ⟨yA l0,rfl,hc,Nat.le_refl _,j2,by omega⟩ ?_
    rintro⟨n,out,f',c',v',Ve,b⟩ ⟨i1,i2,i3,i4,i5,i6⟩;dsimp only at i1 i2 i3 i4 i5 i6⊢;have Ij:=ux DN w6 hT i1.nd fun x hx=>tk h0 (i1.cl x hx);refine fv (i:=5) rfl eE fun fc=>?_;obtain⟨bv,cv,rfl,-,x9⟩:=fc
    by_cases c2:n<out.length
    · obtain ⟨gz, rfl⟩:=x9 (by omega)
      have ir:=i1.cl out[n] (List.getElem_mem c2);have X6:=tk h0 ir;have dF:=fun(L:List bI) (i:Nat) (hL:L[i]?=some (aM 278 3 (.slice (some ⟨gz,0,none⟩) out.length cv) out.length (out.flatMap fG)))=>kA (W:=B) jj hL c2;have X7:oT g.ag T (h_ g) (12000-(n+1)) (n+1) (p_ g.ag T (h_ g) out[n] out)=oT g.ag T (h_ g) 12000 0 (cP [] l0):=by
        rw[<-i2,show 12000-n=(12000-(n+1))+1 by omega,oT,if_pos c2,List.getD_eq_getElem?_getD,List.getElem?_eq_getElem c2];rfl
      have X8:=JZ i1 c2;clear i2 ir;generalize hxx:out[n]=x at*;obtain⟨p,d,lo⟩:=x;have W1:=X6;obtain⟨r1,r2,r3,r4,r5,r6⟩:=W1;dsimp only at r1 r2 r3 r4 r5 r6;obtain⟨k,rfl⟩:=Int.eq_ofNat_of_zero_le r1;obtain⟨dn,rfl⟩:=Int.eq_ofNat_of_zero_le r3;obtain⟨ln,rfl⟩:=Int.eq_ofNat_of_zero_le r5;have hk:k<=g.ag.length:=by omega
      have Bf:=fun w' (mN:Mem B [] w')=>ow g.aF g.aU bp cp g.ag vb w0 w' B k hk ho mN (fun i hi=>let ⟨b,c,h,_⟩:=tS i hi;⟨b,_,c,h⟩) lF
      repeat(first|refine GC ?_|refine gV (J (v:= .slice (some ⟨gz,0,none⟩) out.length cv) ak.ty rfl (ah (i:=4) rfl rfl)) ?_|refine gV (cJ (i:=5) aT.eq rfl rfl) ?_|refine GB ?_)
      refine cU ([aw go (vj g.aF g.aU (.slice bp g.ag.length cp) gm).toArray 314,aw g6 #[.slice (some ⟨gz,0,none⟩) out.length cv] 273,aM 278 3 (.slice (some ⟨gz,0,none⟩) out.length cv) out.length (out.flatMap fG)]) (.calm 0 (.calm 1 (.calm 2 (.calm 3 (.calm 4 (.calm 5 (.calm 6 (.calm 7 (.calm 8 (.one 9 (.calm 10 (.done)))))))))))) (bz [0,4,5]) ?_
      repeat(first|refine GW ?_|(refine GN ?_;first|refine QW (aH ak.ty rfl (cs:=[.int .i64 g.aF,.int .i64 g.aU,.slice bp g.ag.length cp]) rfl (fun j v h=>ah (i:=0) rfl (CO h))) ?_|refine QW (J (v:= .slice (some ⟨gz,0,none⟩) out.length cv) ak.ty rfl (ah (i:=1) rfl rfl)) ?_|refine QW (aC aT.eq ak.ty rfl rfl c2) ?_|refine QW (J (v:= .int .i64 (k:Int)) ak.ty rfl (dF _ 2 rfl 0 _ rfl)) ?_))
      refine ap rfl ?_;refine aI (eK aj.en rfl rfl rfl) (fun w hm=>Bf _ (hm.pick [] (by decide) rfl)) rfl rfl rfl ?_;rintro xb X9
      conv=>arg 8;simp only[zJ,bZ,ret,id_eq,tu]
      conv=>arg 7;simp only[tu]
      obtain⟨bb,cc,Zz,V1,-⟩:=tw (W:=B) (i:=6) (L:=[aw go (vj g.aF g.aU (.slice bp g.ag.length cp) gm).toArray 314,dL fM gm f' c',aw g5 #[.map (some Mm)] 316,lu CN Mm (.int .i64 0) (yP Ve) b,aw g6 #[.slice (some ⟨gz,0,none⟩) out.length cv] 273,aM 278 3 (.slice (some ⟨gz,0,none⟩) out.length cv) out.length (out.flatMap fG),uy xb]) ho tS hk X9 rfl;have sb:=fun(L:List bI) (i:Nat) (hi:L[i]?=some (uy xb))=>(tw (W:=B) (L:=L) ho tS hk X9 hi);rw[Zz]at sb⊢;have X1:=jH (l:=g.ag) (p:=(k:Int)) DN;refine av (bz [0,4,5]) ?_
      try refine GW ?_
      clear Bf
      by_cases c3:dn=(ee g.ag (k:Int)).length
      · repeat(first|refine GC ?_|refine gV (J (v:= .slice (some ⟨gz,0,none⟩) out.length cv) ak.ty rfl (ah (i:=4) rfl rfl)) ?_|refine gV (aC aT.eq ak.ty rfl rfl c2) ?_|refine gV (J (v:= .int .i64 (dn:Int)) ak.ty rfl (dF _ 5 rfl 1 _ rfl)) ?_|refine gV (bL (b:=true) rfl rfl (decide_eq_true (by omega))) ?_|refine GB ?_)
        have Fv:p_ g.ag T (h_ g) ((k:Int),(dn:Int),(ln:Int)) out=out:=by
          unfold p_ mG;dsimp only;rw[Int.toNat_natCast,List.getElem?_eq_none (by omega)]
        rw[Fv]at X8 X7;refine cD [0,1,2,3,4,5] ?_;exact bB (n+1,out,f',c',.slice (some ⟨gz,0,none⟩) out.length cv,Ve,b) ⟨X8,X7,i3,by show c'<=c+(n+1);omega,i5,by show b<=40000+2480*(n+1);omega⟩ (by show 12000-(n+1)<12000-n;omega)
      · have hlt:dn<(ee g.ag (k:Int)).length:=by omega
        obtain⟨b2,o2,rfl,W4⟩:=J_ ho tS hk X9 Zz hlt;have qO:mG g.ag ((k:Int),(dn:Int),(ln:Int))=some (ee g.ag (k:Int))[dn]:=by
          unfold mG;dsimp only;rw[Int.toNat_natCast,List.getElem?_eq_getElem hlt]
        generalize hyy:(ee g.ag (k:Int))[dn]=y at*;obtain⟨yk,yn⟩:=y
        by_cases c4:yk=2
        · subst c4
          have Fv:p_ g.ag T (h_ g) ((k:Int),(dn:Int),(ln:Int)) out=dZ g.ag T yn (p9 (h_ g) ((k:Int),(dn:Int),(ln:Int))) out g.ag.length:=by
            unfold p_;rw[qO];dsimp only;rw[if_pos rfl]
          rw[Fv]at X8 X7
          repeat(first|refine GC ?_|refine gV (J (v:= .slice (some ⟨gz,0,none⟩) out.length cv) ak.ty rfl (ah (i:=4) rfl rfl)) ?_|refine gV (aC aT.eq ak.ty rfl rfl c2) ?_|refine gV (aC aT.eq ak.ty rfl rfl hlt) ?_|refine gV (J (v:= .int .i64 (dn:Int)) ak.ty rfl (dF _ 5 rfl 1 _ rfl)) ?_|refine gV (bL (b:=false) rfl rfl (decide_eq_false (by omega))) ?_|refine gV (J (v:= .int .i64 2) ak.ty rfl (W4 _ 6 rfl 0 _ rfl)) ?_|refine gV (bm (b:=false) rfl rfl (decide_eq_false (fun h=>h rfl))) ?_|refine gV (aH (cs:=fG ((k:Int),(dn:Int),(ln:Int))) ak.ty rfl rfl (dF _ 5 rfl)) ?_|refine GB ?_)
          refine aR [0,1] [2,3,4,5,6] (by decide) rfl rfl (eK aj.en rfl rfl rfl) (fun w hm hb=>Fe g hg bp cp vb w0 hG tS lF go gm c' f' ((k:Int),(dn:Int),(ln:Int)) T hT X6 (by dsimp only;rw[Int.toNat_natCast];exact hlt) i3 (by omega) w _ (ho.on hm fun o h=>wZ h) hb) rfl rfl rfl ?_;rintro⟨f2,Bu⟩ ⟨Ng,W5⟩;dsimp only at Ng W5;refine zL ?_;have ab3:=Ml g (it:=((k:Int),(dn:Int),(ln:Int))) (by show((ln:Int)).toNat<64;omega);generalize p9 (h_ g) ((k:Int),(dn:Int),(ln:Int))=bits at*
          repeat(first|refine GA ?_|refine gV (J (v:= .slice bp g.ag.length cp) ak.ty rfl (ah (i:=5) rfl rfl)) ?_)
          refine oX [5,6,0,1,2,3,4] ?_
          conv=>arg 7;simp only[zA,zB,zC,zD,zE,zF,zG,zH,zI,bZ,ret,id_eq]
          refine dv (ι:=Nat×Value×(aY.Item->Nat)×Nat) (fun(i,_,Vf,b3)=>i<=g.ag.length/\ny Vf (dZ g.ag T yn bits out i) b3/\b3<=b+62*i)
            (fun(i,_,_,_)=>[(0,.pointer (some ⟨go,0,none⟩)),(6,.pointer (some ⟨g6,0,none⟩)),(7,.func (.func 157) #[] #[.pointer (some ⟨g5,0,none⟩),.pointer (some ⟨g6,0,none⟩)]),(10,.int .i64 (n:Int)),(11,.slice (some ⟨b2,o2,none⟩) (ee g.ag (k:Int)).length cc),(12,eV bits),(74,.slice bp g.ag.length cp),(75,.int .i64 (g.ag.length:Int)),(76,.int .i64 (i:Int))])
            (fun(i,v2,Vf,b3)=>[aw go (vj g.aF g.aU (.slice bp g.ag.length cp) gm).toArray 314,dL fM gm f2 Bu,aw g5 #[.map (some Mm)] 316,lu CN Mm (.int .i64 0) (yP Vf) b3,aw g6 #[v2] 273,aM 278 3 v2 (dZ g.ag T yn bits out i).length ((dZ g.ag T yn bits out i).flatMap fG),uy xb]) (fun(i,_)=>g.ag.length-i) (0,.slice (some ⟨gz,0,none⟩) out.length cv,Ve,b) ⟨Nat.zero_le _,i5,by omega⟩ ?_
          rintro⟨i,v2,Vf,b3⟩ ⟨p1,p2,p3⟩;dsimp only at p1 p2 p3⊢
          by_cases c5:i<g.ag.length
          · obtain⟨E,hE⟩:=qe (l:=g.ag) (T:=T) yn bits out i
            have GV:=yQ (l:=g.ag) (T:=T) (N:=yn) (bits:=bits) (out:=out) i;have Ah:dZ g.ag T yn bits out (i+1)=if(bU g.ag (i:Int)).1=yn then dY i bits (dZ g.ag T yn bits out i) (T+1)else dZ g.ag T yn bits out i:=rfl
            have ab4:i*(T+1)<=40*31:=Nat.mul_le_mul (by omega) (by omega);generalize hou:dZ g.ag T yn bits out i=ou at*;have hno:n<ou.length:=by rw[hE,List.length_append];omega
            have hox:ou[n]=((k:Int),(dn:Int),(ln:Int)):=by
              subst hE;rw[List.getElem_append_left c2];exact hxx
            refine fv (i:=5) rfl eE fun fc=>?_;obtain⟨bv2,Vg,rfl,-,abf⟩:=fc;obtain⟨W6,rfl⟩:=abf (by omega);have o7:=fun(L:List bI) (i:Nat) (hL:L[i]?=some (aM 278 3 (.slice (some ⟨W6,0,none⟩) ou.length Vg) ou.length (ou.flatMap fG)))=>kA (W:=B) jj hL hno;rw[hox]at o7;obtain⟨pb,po,rfl,W7⟩:=lF (by omega);have hpi:=W7 i c5;have hvo:(vb i).oneCell'=true:=SS (tS i c5);generalize hhd:(bU g.ag (i:Int)).1=hd at*;generalize vb i=vbi at hpi hvo
            repeat(first|refine GA ?_|refine gV (aC aT.eq ak.ty rfl rfl c5) ?_|refine gV (aH ak.ty rfl (cs:=[.int .i64 hd,vbi]) rfl (fun j v h=>fx ho (hpi j v h))) ?_)
            refine aK rfl fun g14=>?_;refine zL ?_
            try refine GA ?_
            refine aE (i:=7) (cs':=#[.int .i64 hd,vbi]) rfl rfl rfl rfl (by simp only[List.all_cons,List.all_nil,hvo];rfl) rfl ?_;refine zL ?_
            try refine GA ?_
            refine cU ([aw g14 #[.int .i64 hd,vbi] 140,aw g6 #[.slice (some ⟨W6,0,none⟩) ou.length Vg] 273,aM 278 3 (.slice (some ⟨W6,0,none⟩) ou.length Vg) ou.length (ou.flatMap fG),uy xb]) (.calm 0 (.calm 1 (.calm 2 (.calm 3 (.calm 4 (.calm 5 (.calm 6 (.calm 7 (.calm 8 (.calm 9 (.calm 10 (.calm 11 (.done))))))))))))) (bz [7,4,5,6]) ?_
            by_cases c6:hd=yn
            · rw[if_pos c6]at Ah
              repeat(first|(refine GN ?_;first|refine QW QP ?_|refine QW (J (v:= .int .i64 hd) ak.ty rfl (ah (i:=0) rfl rfl)) ?_|refine QW (J (v:= .slice (some ⟨W6,0,none⟩) ou.length Vg) ak.ty rfl (ah (i:=1) rfl rfl)) ?_|refine QW (aC aT.eq ak.ty rfl rfl hno) ?_|refine QW (J (v:= .int .i64 (dn:Int)) ak.ty rfl (o7 _ 2 rfl 1 _ rfl)) ?_|refine QW (aC aT.eq ak.ty rfl rfl hlt) ?_|refine QW (J (v:= .int .i64 yn) ak.ty rfl (W4 _ 3 rfl 1 _ rfl)) ?_|refine QW (bm (b:=false) rfl rfl (decide_eq_false (fun h=>h c6))) ?_|refine GX ?_)|refine GW ?_)
              repeat(first|refine GC ?_|refine gV (J (v:= .int .i64 g.aF) ak.ty rfl (ah (i:=0) rfl rfl)) ?_|refine gV (cB (r:=((T+1:Nat):Int)) rfl rfl (by omega) (by omega) (by omega)) ?_|refine GB ?_)
              refine oX [0,1,2,3,4,5,6] ?_
              conv=>arg 7;simp only[zA,zB,zC,zD,zE,zF,zG,zH,zI,bZ,ret,id_eq]
              refine dv (ι:=Nat×Value×(aY.Item->Nat)×Nat) (fun(j,_,Tp,b4)=>j<=T+1/\ny Tp (dY i bits ou j) b4/\b4<=b3+2*j)
                (fun(j,_,_,_)=>[(0,.pointer (some ⟨go,0,none⟩)),(6,.pointer (some ⟨g6,0,none⟩)),(7,.func (.func 157) #[] #[.pointer (some ⟨g5,0,none⟩),.pointer (some ⟨g6,0,none⟩)]),(10,.int .i64 (n:Int)),(11,.slice (some ⟨b2,o2,none⟩) (ee g.ag (k:Int)).length cc),(12,eV bits),(13,.int .i64 (i:Int)),(74,.slice (some ⟨pb,po,none⟩) g.ag.length cp),(75,.int .i64 (g.ag.length:Int)),(76,.int .i64 (i:Int)),(98,.int .i64 ((T+1:Nat):Int)),(99,.int .i64 (j:Int))])
                (fun(j,v3,Tp,b4)=>[aw go (vj g.aF g.aU (.slice (some ⟨pb,po,none⟩) g.ag.length cp) gm).toArray 314,dL fM gm f2 Bu,aw g5 #[.map (some Mm)] 316,lu CN Mm (.int .i64 0) (yP Tp) b4,aw g6 #[v3] 273,aM 278 3 v3 (dY i bits ou j).length ((dY i bits ou j).flatMap fG),uy xb]) (fun(j,_)=>T+1-j) (0,.slice (some ⟨W6,0,none⟩) ou.length Vg,Vf,b3) ⟨Nat.zero_le _,p2,by omega⟩ ?_
              rintro⟨j,v3,Tp,b4⟩ ⟨s1,s2,s3⟩;dsimp only at s1 s2 s3⊢
              by_cases c7:j<T+1
              · have ab5:=si (i:=i) (bits:=bits) (out:=ou) j
                have Mn:dY i bits ou (j+1)=if bits.testBit j=true then more (dY i bits ou j) ((i:Int),0,(j:Int))else dY i bits ou j:=rfl
                have WY:=s2.put ((i:Int),0,(j:Int));have hdv:bits/2^j<=bits:=Nat.div_le_self _ _;have U8:=WK (y:=bits/2^j) (by omega);have wI:∀w,(Op.shift .shr .u64 (bits:Int) .i64 (j:Int)).run Tryz.prog w= .ok (.int .u64 ((bits/2^j:Nat):Int)) w:=fun w=>Pl bits j 64 .u64 .i64 rfl (by omega) w;have Bf:=tv bits j;generalize V7:dY i bits ou j=ol at*;generalize bits/2^j=D1 at*
                by_cases c8:bits.testBit j=true
                · rw[if_pos c8]at Mn
                  have z8:D1 %2=1:=by rw[c8]at Bf;simpa using Bf
                  repeat(first|refine GC ?_|refine gV (lm rfl rfl wI) ?_|refine gV (j_ rfl rfl U8) ?_|refine gV (bL (b:=true) rfl rfl (decide_eq_true (by omega))) ?_|refine gV (aP rfl (Bt _ _)) ?_|refine GB ?_)
                  refine aR [2,3,4,5] [0,1,6] (by decide) rfl rfl (zU aj.en rfl rfl) (fun w hm hb=>PH g5 Mm g6 b4 v3 Tp ol ((i:Int),0,(j:Int)) (Zw (by omega) (by omega)) s2 (by omega) (by omega) w _ hb) rfl rfl rfl ?_;intro v4 _
                  conv=>arg 8;simp only[zJ,bZ,ret,id_eq,Ag]
                  try refine GA ?_
                  refine cD [0,1,3,4,5,6,2] ?_;exact bB (j+1,v4,uC Tp ((i:Int),0,(j:Int)),b4+2) ⟨by show j+1<=T+1;omega,by show ny _ (dY i bits ou (j+1)) _;rw[Mn];exact WY,by show b4+2<=b3+2*(j+1);omega⟩ (by show T+1-(j+1)<T+1-j;omega) (hl:=by dsimp only;rw[Mn];rfl)
                · rw[if_neg c8]at Mn
                  have z8:¬D1 %2=1:=by rw[Bool.eq_false_iff.2 c8]at Bf;simpa using Bf
                  repeat(first|refine GC ?_|refine gV (lm rfl rfl wI) ?_|refine gV (j_ rfl rfl U8) ?_|refine gV (bL (b:=false) rfl rfl (decide_eq_false (by omega))) ?_|refine GB ?_)
                  exact bB (j+1,v3,Tp,b4) ⟨by show j+1<=T+1;omega,by show ny _ (dY i bits ou (j+1)) _;rw[Mn];exact s2,by show b4<=b3+2*(j+1);omega⟩ (by show T+1-(j+1)<T+1-j;omega) (hl:=by dsimp only;rw[Mn])
              · obtain rfl:j=T+1:=by omega
                try refine GA ?_
                exact bB (i+1,v3,Tp,b4) ⟨by show i+1<=g.ag.length;omega,by show ny Tp (dZ g.ag T yn bits out (i+1)) b4;rw[Ah];exact s2,by show b4<=b+62*(i+1);omega⟩ (by show g.ag.length-(i+1)<g.ag.length-i;omega) (hl:=by dsimp only;rw[Ah])
            · rw[if_neg c6]at Ah
              repeat(first|(refine GN ?_;first|refine QW QP ?_|refine QW (J (v:= .int .i64 hd) ak.ty rfl (ah (i:=0) rfl rfl)) ?_|refine QW (J (v:= .slice (some ⟨W6,0,none⟩) ou.length Vg) ak.ty rfl (ah (i:=1) rfl rfl)) ?_|refine QW (aC aT.eq ak.ty rfl rfl hno) ?_|refine QW (J (v:= .int .i64 (dn:Int)) ak.ty rfl (o7 _ 2 rfl 1 _ rfl)) ?_|refine QW (aC aT.eq ak.ty rfl rfl hlt) ?_|refine QW (J (v:= .int .i64 yn) ak.ty rfl (W4 _ 3 rfl 1 _ rfl)) ?_|refine QW (bm (b:=true) rfl rfl (decide_eq_true c6)) ?_|refine GX ?_)|refine GW ?_)
              try refine GA ?_
              refine cD [0,1,2,3,4,5,6] ?_;exact bB (i+1,.slice (some ⟨W6,0,none⟩) ou.length Vg,Vf,b3) ⟨by show i+1<=g.ag.length;omega,by show ny Vf (dZ g.ag T yn bits out (i+1)) b3;rw[Ah];exact p2,by show b3<=b+62*(i+1);omega⟩ (by show g.ag.length-(i+1)<g.ag.length-i;omega) (hl:=by dsimp only;rw[Ah];rfl)
          · obtain rfl:i=g.ag.length:=by omega
            try refine GA ?_
            refine cD [0,1,2,3,4,5] ?_;exact bB (n+1,dZ g.ag T yn bits out g.ag.length,f2,Bu,v2,Vf,b3) ⟨X8,X7,Ng,by show Bu<=c+(n+1);omega,p2,by show b3<=40000+2480*(n+1);omega⟩ (by show 12000-(n+1)<12000-n;omega)
        · repeat(first|refine GC ?_|refine gV (J (v:= .slice (some ⟨gz,0,none⟩) out.length cv) ak.ty rfl (ah (i:=4) rfl rfl)) ?_|refine gV (aC aT.eq ak.ty rfl rfl c2) ?_|refine gV (aC aT.eq ak.ty rfl rfl hlt) ?_|refine gV (J (v:= .int .i64 (dn:Int)) ak.ty rfl (dF _ 5 rfl 1 _ rfl)) ?_|refine gV (bL (b:=false) rfl rfl (decide_eq_false (by omega))) ?_|refine gV (J (v:= .int .i64 yk) ak.ty rfl (W4 _ 6 rfl 0 _ rfl)) ?_|refine gV (bm (b:=true) rfl rfl (decide_eq_true c4)) ?_|refine GB ?_)
          have Fv:p_ g.ag T (h_ g) ((k:Int),(dn:Int),(ln:Int)) out=out:=by
            unfold p_;rw[qO];dsimp only;rw[if_neg c4]
          rw[Fv]at X8 X7;refine cD [0,1,2,3,4,5] ?_;exact bB (n+1,out,f',c',.slice (some ⟨gz,0,none⟩) out.length cv,Ve,b) ⟨X8,X7,i3,by show c'<=c+(n+1);omega,i5,by show b<=40000+2480*(n+1);omega⟩ (by show 12000-(n+1)<12000-n;omega)
    · have hn:n=out.length:=by have:=i1.le;omega
      have hR:oT g.ag T (h_ g) 12000 0 (cP [] l0)=out:=by
        rw[<-i2,show 12000-n=(11999-n)+1 by omega,oT,if_neg c2]
      have hcI:gO g.ag T (h_ g) l0=p8 out:=by unfold gO;rw[hR]
      repeat(first|refine GA ?_|refine gV (J (v:= .slice bv out.length cv) ak.ty rfl (ah (i:=4) rfl rfl)) ?_)
      refine aR [5] [0,1,2,3,4] (by decide) rfl rfl (eK aj.en rfl rfl rfl) (fun w hm hb=>Tn SZ (.slice bv out.length cv) out w _ hb (by omega)) rfl rfl rfl ?_;intro _ _;refine zL ?_
      repeat(first|refine GA ?_|refine gV (J (v:= .slice bv out.length cv) ak.ty rfl (ah (i:=4) rfl rfl)) ?_)
      exact b9 rfl rfl fun w hm=>hm.bP (S:=qm g T l0 bp cp go gm c) (f',c',.slice bv out.length cv) ⟨i3,by show c'<=c+12000;omega⟩ [0,1,5] (by decide) (by unfold qm To;dsimp only;rw[hcI,E8];rfl)
end bK
namespace bK
open Go.RowKit bO dc aB dy cL aY bT
theorem PF.row{W:bC}{L Lx:List bI}{w:World}(hm:Mem W L w){i n size:Nat}{e:TypeId}{v:Value}{xs:List Value}(hi:L[i]?=some (aM e size v n xs))(is:List Nat)(hL:Lx=is.filterMap fun i=>L[i]?)(hni:i∉is):PF (bC.on w Lx) v n xs:=by
 have hh:(aM e size v n xs).holds w:=hm.get hi;obtain⟨base,cap,rfl,h1,h2,h3⟩:=Sl.cI hh;refine⟨base,cap,rfl,h1,h2,fun hn=>?_⟩;obtain⟨b,off,rfl,hr⟩:=h3 hn;have hf:(aM e size (.slice (some ⟨b,off,none⟩) n cap) n xs).dS b:=by
  rcases(show w.ownsRow 0 e size _ n xs from hh).2 with⟨hv,_⟩|⟨g,cp,kK,hv,_⟩
  ·cases hv
  ·cases hv;exact .inl rfl
 refine⟨b,off,rfl,⟨(aM e size _ n xs).lt w hh b hf,?_⟩,hr⟩;rintro⟨o,ho,hfo⟩;subst hL;obtain⟨j,hj,I7⟩:=List.mem_filterMap.1 ho;exact hm.owns.apart i j _ _ (fun h=>hni (h▸hj)) hi I7 b hf hfo
theorem PF.at{B:bC}{L:List bI}{α:Type}{f:α->List Value}{c:Nat}(hc:∀a,(f a).length=c){base:Option Addr}{cap n:Nat}{l:List α}(h:PF B (.slice base n cap) n (l.flatMap f))(hn:0<n):∃b off,base=some ⟨b,off,none⟩/\∀(k:Nat) (hk:k<l.length) (j:Nat) (u:Value),(f l[k])[j]?=some u->At B L ⟨b,off+k*c+j,none⟩ u:=by
 obtain⟨vC,tZ,h0,h1,h2,h3⟩:=h
 cases h0
 obtain⟨b,off,rfl,ho,hr⟩:=h3 hn;exact⟨b,off,rfl,fun k hk j u hj=>pC (W:=B) (L:=L) hc (off:=off) (fun q y hq=>om ho hr q y hq) hk j u hj⟩
theorem Mo{l:List aB.Prod}{s:List aY.Item}{x:cg}{k:Nat}(h:k<s.length):jI l (s.take (k+1)) x=if mG l s[k]=some x then jI l (s.take k) x++[SV s[k]]else jI l (s.take k) x:=by
 unfold jI;rw[List.take_succ_eq_append_getElem h,List.filter_append,List.map_append]
 by_cases c:mG l s[k]=some x
 ·rw[if_pos c,List.filter_cons_of_pos (by simpa using c)];rfl
 ·rw[if_neg c,List.filter_cons_of_neg (by simpa using c)];simp
theorem Fw{l:List aB.Prod}{s:List aY.Item}{x:cg}:(jI l s x).length<=s.length:=by
 unfold jI;rw[List.length_map];exact List.length_filter_le _ _
theorem C2(g:dr)(hg:cz g=0)(bp:Option Addr)(cp:Nat)(vb:Nat->Value)(w0:World)(hG:iZ (fun q=>q<w0.heap.size) w0 (cO g.aF g.aU (.slice bp g.ag.length cp)) g)(tS:L7 (fun q=>q<w0.heap.size) w0 vb g.ag)(lF:0<g.ag.length->∃b off,bp=some ⟨b,off,none⟩/\∀i,i<g.ag.length->Rd w0 b (off+i*2) [.int .i64 (bU g.ag (i:Int)).1,vb i])
    (go gm c:Nat) (f:RK->Option Value) (T:Nat) (C1:g.aF=(T:Int)) (hT:T<=30) (s:List aY.Item) (x:cg) (vl:Value) (h0:∀it∈s,dl g.ag T it) (Zx:s.length<=20000) (hc:gT (h_ g) f) (hcc:c<=900000000000000) (w:World) (B:bC) (ho:jz w0 B) (Rv:PF B vl s.length (s.flatMap fG))
    (hm:Mem B (To g bp cp go gm f c) w):
    Calls Tryz.prog 131 #[.pointer (some ⟨go,0,none⟩),vl,.agg (dg x).toArray] w (c_ (qm g T (jI g.ag s x) bp cp go gm c) B):=by
  have ir:=fun v h2 h3 w' B' D0 px mN=>qn g hg bp cp vb w0 hG tS lF go gm c f T C1 hT (jI g.ag s x) v h2 h3 hc hcc w' B' D0 px mN;have V7:=Fw (l:=g.ag) (s:=s) (x:=x);have DJ:=iH (l:=g.ag) (T:=T) (x:=x) h0;obtain⟨bl,cl,rfl,oL,wh,CA⟩:=id Rv;clear CA;unfold maxLen at wh;unfold To at hm;refine dC hm (args:=[.pointer (some ⟨go,0,none⟩),.slice bl s.length cl,.agg (dg x).toArray]) (n:=50) Tryz.func131 rfl rfl rfl ?_;refine a8 (aL (a_ rfl rfl rfl fun g5=>?_));refine zL ?_
  try refine GA ?_
  refine g_ 278 3 ?_
  conv=>arg 7;simp only[zA,zB,zC,zD,zE,zF,zG,zH,zI,bZ,ret,id_eq]
  refine dv (ι:=Nat×Value) (fun(k,_)=>k<=s.length) (fun(k,v)=>[(0,.pointer (some ⟨go,0,none⟩)),(5,.pointer (some ⟨g5,0,none⟩)),(7,v),(11,.slice bl s.length cl),(12,.int .i64 s.length),(13,.int .i64 (k:Int))])
    (fun(k,v)=>[aw go (vj g.aF g.aU (.slice bp g.ag.length cp) gm).toArray 314,dL fM gm f c,aw g5 (dg x).toArray 148,aM 278 3 v (jI g.ag (s.take k) x).length ((jI g.ag (s.take k) x).flatMap fG)]) (fun(k,_)=>s.length-k) (0,.slice none 0 0) (Nat.zero_le _) ?_
  rintro⟨k,v⟩ i1;dsimp only at i1⊢
  by_cases c1:k<s.length
  · obtain⟨b,off,rfl,dF⟩:=Rv.at (L:=[]) jj (by omega)
    have yG:∀(L:List bI) (j:Nat) (u:Value),(fG s[k])[j]?=some u->At B L ⟨b,off+k*3+j,none⟩ u:=fun L=>by
      obtain⟨b',sX,he,h⟩:=Rv.at (L:=L) jj (by omega)
      cases he
      exact h k c1
    clear dF;have X6:=h0 s[k] (List.getElem_mem c1);have qO:=Mo (l:=g.ag) (x:=x) c1;have Bh:(jI g.ag (s.take k) x).length<=20000:=Nat.le_trans Fw (by rw[List.length_take];omega);generalize jI g.ag (s.take k) x=ov at*;generalize Ah:jI g.ag (s.take (k+1)) x=ov' at*;clear ir DJ V7;generalize s[k]=it at*;obtain⟨p,d,lo⟩:=it;have W1:=X6;obtain⟨r1,r2,r3,r4,r5,r6⟩:=W1;dsimp only at r1 r2 r3 r4 r5 r6;obtain⟨kn,rfl⟩:=Int.eq_ofNat_of_zero_le r1;obtain⟨dn,rfl⟩:=Int.eq_ofNat_of_zero_le r3;obtain⟨ln,rfl⟩:=Int.eq_ofNat_of_zero_le r5;have hk:kn<=g.ag.length:=by omega
    have Bf:=fun w' (mN:Mem B [] w')=>ow g.aF g.aU bp cp g.ag vb w0 w' B kn hk ho mN (fun i hi=>let ⟨b,c,h,_⟩:=tS i hi;⟨b,_,c,h⟩) lF;have DN:∀q∈g.ag,q.2.length<=8:=fun q hq=>((bV hg).2.2.2.2.2 q hq).1;have X1:=jH (l:=g.ag) (p:=(kn:Int)) DN
    repeat(first|refine GA ?_|refine gV (aC aT.eq ak.ty rfl rfl c1) ?_|refine gV (aH (cs:=fG ((kn:Int),(dn:Int),(ln:Int))) ak.ty rfl rfl (yG _)) ?_)
    refine aK rfl fun g9=>?_;refine zL ?_;refine fa 4 (cs':=(fG ((kn:Int),(dn:Int),(ln:Int))).toArray) ?_;refine zL ?_
    try refine GA ?_
    refine cU ([aw go (vj g.aF g.aU (.slice bp g.ag.length cp) gm).toArray 314,aw g9 (fG ((kn:Int),(dn:Int),(ln:Int))).toArray 278]) (.calm 0 (.calm 1 (.calm 2 (.calm 3 (.calm 4 (.calm 5 (.one 6 (.calm 7 (.done))))))))) (bz [0,4]) ?_
    repeat(first|refine GW ?_|(refine GN ?_;first|refine QW (aH ak.ty rfl (cs:=[.int .i64 g.aF,.int .i64 g.aU,.slice bp g.ag.length cp]) rfl (fun j v h=>ah (i:=0) rfl (CO h))) ?_|refine QW (J (v:= .int .i64 (kn:Int)) ak.ty rfl (ah (i:=1) rfl rfl)) ?_))
    refine ap rfl ?_;refine aI (eK aj.en rfl rfl rfl) (fun w hm=>Bf _ (hm.pick [] (by decide) rfl)) rfl rfl rfl ?_;rintro xb X9
    conv=>arg 8;simp only[zJ,bZ,ret,id_eq,tu]
    conv=>arg 7;simp only[tu]
    obtain⟨bb,cc,Zz,V1,-⟩:=tw (W:=B) (i:=5) (L:=[aw go (vj g.aF g.aU (.slice bp g.ag.length cp) gm).toArray 314,dL fM gm f c,aw g5 (dg x).toArray 148,aM 278 3 v ov.length (ov.flatMap fG),aw g9 (fG ((kn:Int),(dn:Int),(ln:Int))).toArray 278,uy xb]) ho tS hk X9 rfl;rw[Zz];refine av (bz [0,4]) ?_
    try refine GW ?_
    clear Bf
    by_cases c2:dn<(ee g.ag (kn:Int)).length
    · obtain⟨b2,o2,rfl,W4⟩:=J_ ho tS hk X9 Zz c2
      have hns:mG g.ag ((kn:Int),(dn:Int),(ln:Int))=some (ee g.ag (kn:Int))[dn]:=by
        unfold mG;dsimp only;rw[Int.toNat_natCast,List.getElem?_eq_getElem c2]
      have uR:=fun w=>OC (ee g.ag (kn:Int))[dn] x w;generalize (ee g.ag (kn:Int))[dn]=y at*;rw[hns]at qO
      try refine GA ?_
      refine cU ([aw g5 (dg x).toArray 148,aw g9 (fG ((kn:Int),(dn:Int),(ln:Int))).toArray 278,uy xb]) (.calm 0 (.calm 1 (.calm 2 (.calm 3 (.calm 4 (.calm 5 (.calm 6 (.calm 7 (.calm 8 (.calm 9 (.calm 10 (.calm 11 (.calm 12 (.calm 13 (.done))))))))))))))) (bz [2,4,5]) ?_
      by_cases c3:y=x
      · subst c3
        rw[if_pos rfl]at qO;rw[decide_eq_true rfl]at uR
        repeat(first|(refine GN ?_;first|refine QW QP ?_|refine QW (J (v:= .int .i64 (dn:Int)) ak.ty rfl (ah (i:=1) rfl rfl)) ?_|refine QW (aC aT.eq ak.ty rfl rfl c2) ?_|refine QW (aH (cs:=dg y) ak.ty rfl rfl (W4 _ 2 rfl)) ?_|refine QW (az (i:=0) ak.ty rfl rfl rfl) ?_|refine QW (xz rfl rfl (by kernel_rfl) uR) ?_|refine GX ?_)|refine GW ?_)
        repeat(first|refine GA ?_|refine gV (J (v:= .int .i64 (dn:Int)) ak.ty rfl (ah (i:=4) rfl rfl)) ?_)
        refine aW (i:=4) rfl rfl rfl rfl rfl rfl ?_;refine zL ?_
        repeat(first|refine GA ?_|refine gV (az (i:=4) ak.ty rfl rfl rfl) ?_)
        refine iy (i:=3) rfl rfl rfl rfl rfl rfl rfl (fun z h=>by cases h;rfl) (by omega) (by omega) rfl fun z v'=>?_;refine zL ?_
        try refine GA ?_
        refine cD [0,1,2,3] ?_;exact bB (k+1,v') (by show k+1<=s.length;omega) (by show s.length-(k+1)<s.length-k;omega) (hl:=by dsimp only;rw[Ah,qO,List.length_append,List.flatMap_append];rfl)
      · rw[if_neg (fun h=>c3 (Option.some.inj h))]at qO
        rw[decide_eq_false c3]at uR
        repeat(first|(refine GN ?_;first|refine QW QP ?_|refine QW (J (v:= .int .i64 (dn:Int)) ak.ty rfl (ah (i:=1) rfl rfl)) ?_|refine QW (aC aT.eq ak.ty rfl rfl c2) ?_|refine QW (aH (cs:=dg y) ak.ty rfl rfl (W4 _ 2 rfl)) ?_|refine QW (az (i:=0) ak.ty rfl rfl rfl) ?_|refine QW (xz rfl rfl (by kernel_rfl) uR) ?_|refine GX ?_)|refine GW ?_)
        try refine GA ?_
        refine cD [0,1,2,3] ?_;exact bB (k+1,v) (by show k+1<=s.length;omega) (by show s.length-(k+1)<s.length-k;omega) (hl:=by dsimp only;rw[Ah,qO];rfl)
    · have hns:mG g.ag ((kn:Int),(dn:Int),(ln:Int))=none:=by
        unfold mG;dsimp only;rw[Int.toNat_natCast,List.getElem?_eq_none (by omega)]
      rw[hns,if_neg (fun h=>by cases h)]at qO
      try refine GA ?_
      refine cU ([aw g5 (dg x).toArray 148,aw g9 (fG ((kn:Int),(dn:Int),(ln:Int))).toArray 278,uy xb]) (.calm 0 (.calm 1 (.calm 2 (.calm 3 (.calm 4 (.calm 5 (.calm 6 (.calm 7 (.calm 8 (.calm 9 (.calm 10 (.calm 11 (.calm 12 (.calm 13 (.done))))))))))))))) (bz [2,4,5]) ?_
      repeat(first|refine GW ?_|(refine GN ?_;first|refine QW (J (v:= .int .i64 (dn:Int)) ak.ty rfl (ah (i:=1) rfl rfl)) ?_))
      try refine GA ?_
      refine cD [0,1,2,3] ?_;exact bB (k+1,v) (by show k+1<=s.length;omega) (by show s.length-(k+1)<s.length-k;omega) (hl:=by dsimp only;rw[Ah,qO];rfl)
  · obtain rfl:k=s.length:=by omega
    rw[List.take_length]
    try refine GA ?_
    refine aR [0,1] [2,3] (by decide) rfl rfl (eK aj.en rfl rfl rfl) (fun w hm hb=>ir v DJ (by omega) w _ (ho.on hm fun o h=>wZ h) (PF.row hm (i:=3) rfl [0,1] rfl (by decide)) hb) rfl rfl rfl ?_;rintro⟨f2,c2,v2⟩ ⟨Ng,W5⟩
    conv=>arg 8;simp only[zJ,bZ,ret,id_eq,qm,To]
    conv=>arg 7;simp only[qm]
    try refine GA ?_
    exact b9 rfl rfl fun w hm=>hm.bP (S:=qm g T (jI g.ag s x) bp cp go gm c) (f2,c2,v2) ⟨Ng,W5⟩ [2,3,4] (by decide) rfl
end bK
namespace bK
open Go.RowKit bO dc aB dy cL aY bT
def fY(g:dr):List (List Int)×List (List aY.Item)×Int:=if cz g≠0 then([],[],cz g)else match allI g.ag g.aF.toNat g.aU.toNat (h_ g)with
 |some (Nx,S)=>(Nx,S,0)
 |none=>([],[],8)
def Tq(g:dr):Spec (Value×Value×List Value×(Nat->Prop)×List Value×(Nat->Prop)):=⟨fun _=>True,fun x=> .tuple #[.agg #[x.1,x.2.1],.int .i64 (fY g).2.2],fun x=>[aM 273 1 x.1 (fY g).2.1.length x.2.2.1,dz (bD CR) x.2.2.2.1 (x.2.2.1.map fun v=>[v]) (fY g).2.1,aM 26 1 x.2.1 (fY g).1.length x.2.2.2.2.1,dz (bD fq) x.2.2.2.2.2 (x.2.2.2.2.1.map fun v=>[v]) (fY g).1]⟩
theorem Fy(w:World):(Instr.build 203 (#[]:Array (Nat×Value))).run Tryz.prog w= .ok (.agg #[.slice none 0 0,.slice none 0 0]) w:=by kernel_rfl
theorem qo{l:List aB.Prod}{T:Nat}{s:List aY.Item}(hw:∀q∈l,q.2.length<=8)(hl:l.length<=40)(hT:T<=30)(h:∀it∈s,dl l T it):qP s:=fun it hit=>by
 obtain⟨a1,a2,a3,a4,a5,a6⟩:=h it hit;have:=jH (l:=l) (p:=it.1) hw;omega
theorem PF.els{W:bC}{L Lx:List bI}{w:World}(hm:Mem W L w){i n:Nat}{F:Nat->Prop}{qQ:List Value}{S:List (List aY.Item)}(hi:L[i]?=some (dz (bD CR) F (qQ.map fun v=>[v]) S))(is:List Nat)(hL:Lx=is.filterMap fun i=>L[i]?)(hni:i∉is){s:List aY.Item}(hs:S[n]?=some s){v:Value}(hv:qQ[n]?=some v):PF (bC.on w Lx) v s.length (s.flatMap fG):=by
 obtain⟨hn,rfl⟩:=List.getElem?_eq_some_iff.1 hs;obtain⟨⟨h1,h2⟩,h3⟩:=hm.get hi;have hnv:n<qQ.length:=(List.getElem?_eq_some_iff.1 hv).1;obtain⟨v',e,hs⟩:=h2 n hn (by rw[List.length_map];exact hnv);rw[List.getElem_map]at e;obtain rfl:v=v':=by
  have:=(List.getElem?_eq_some_iff.1 hv).2;rw[this]at e;exact(List.cons.inj e).1
 obtain⟨base,cap,rfl,a1,a2,a3⟩:=hs;refine⟨base,cap,rfl,a1,a2,fun h0=>?_⟩;obtain⟨b,off,rfl,hF,_⟩:=a3 h0;have zZ:=iB.flat (f:=fG) (c:=3) (hc:=fun _=>rfl) (p:=fun _=>True) (F:=F) (by decide) (⟨some ⟨b,off,none⟩,cap,rfl,a1,a2,a3⟩:iB CR F w _ S[n]);obtain⟨vC,tZ,e',_,_,q⟩:=zZ;obtain⟨b',sX,e2,hr⟩:=q h0
 cases e'
 cases e2
 refine⟨b,off,rfl,⟨h3 b hF,?_⟩,hr⟩;rintro⟨o,ho,hfo⟩;subst hL;obtain⟨j,hj,I7⟩:=List.mem_filterMap.1 ho;exact hm.owns.apart i j _ _ (fun h=>hni (h▸hj)) hi I7 b (.inr hF) hfo
theorem PI{a b c k:Nat}(h1:a<=b+12000)(h2:b<=c+12000*k):a<=c+12000*(k+1):=by rw[Nat.mul_succ,<-Nat.add_assoc];exact Nat.le_trans h1 (Nat.add_le_add_right h2 _)
theorem yS:∀(l:List Value),(l.map fun v=>[v]).flatten=l
 |[]=>rfl
 |v::l=>by rw[List.map_cons,List.flatten_cons,yS l];rfl
theorem vD{w:World}{v:Value}{l:List Int}(hp:∀x∈l,bO.cV x)(h:(aM 3 1 v l.length (l.map (Value.int .i64))).holds w):(bD fq).is (fun k=>v.ownBlock=some k) w [v] l:=
 ⟨v,rfl,iB.of_flat (by have:=Sl.cI h;rwa [show l.map (Value.int .i64)=l.flatMap (fun n=>[Value.int .i64 n])by rw[List.map_eq_flatMap]]at this) hp (fun _ h=>h) (fun a n cp hv=>by rw[hv];rfl)⟩
theorem Mp(v:Value)(g:dr)(w:World)(hG:iZ (fun k=>k<w.heap.size) w v g):
    Calls Tryz.prog 86 #[v] w (bM (Tq g) w):=by
  have Vh:=hG;have gd:=fun w' (hg:Gr w w')=>gG v g w' (hG.gr hg);obtain⟨vp,rfl,hp,ht,hn⟩:=hG;obtain⟨vb,bp,cp,rfl,-,-,tS,lF⟩:=Pk hp;have tY:=CP g.aF g.aU (.slice bp g.ag.length cp);have sG:=Fy;have hO:fY g=if cz g≠0 then([],[],cz g)else match allI g.ag g.aF.toNat g.aU.toNat (h_ g)with
    |some (Nx,S)=>(Nx,S,0)
    |none=>([],[],8):=rfl
  unfold Tq;refine enter (args:=[cO g.aF g.aU (.slice bp g.ag.length cp)]) (n:=81) Tryz.func86 rfl rfl rfl ?_;refine a8 (aL (a_ rfl rfl rfl fun g1=>?_));refine zL ?_
  try refine GA ?_
  refine aK rfl fun g2=>?_;refine zL ?_
  repeat(first|refine GA ?_|refine gV (az (i:=0) ak.ty rfl rfl rfl) ?_)
  refine aI (jc aj.en rfl rfl) (fun w hm=>gd w hm.below) rfl rfl rfl ?_;intro _ _;refine zL ?_
  by_cases c0:cz g=0
  · rw[if_neg (by rw[c0];simp)]at hO
    rw[c0];obtain⟨hT1,hT2,Rq,V9,w6,Zy⟩:=bV c0;have DN:∀q∈g.ag,q.2.length<=8:=fun q hq=>(Zy q hq).1;obtain⟨T,C1⟩:∃T:Nat,g.aF=(T:Int):=⟨g.aF.toNat,by omega⟩;obtain⟨N,ZA⟩:∃N:Nat,g.aU=(N:Int):=⟨g.aU.toNat,by omega⟩;rw[show g.aF.toNat=T by omega,show g.aU.toNat=N by omega]at hO;have hT:T<=30:=by omega
    have ZB:0<g.ag.length->∃b off,bp=some ⟨b,off,none⟩/\∀i,i<g.ag.length->Rd w b (off+i*2) [.int .i64 (bU g.ag (i:Int)).1,vb i]:=fun h=>let ⟨b,off,h1,_,h3⟩:=lF h;⟨b,off,h1,fun i hi=>(h3 i hi).1⟩
    have ir:=fun go gm l0 vl h1 h2 w' B' D0 px mN=>qn g c0 bp cp vb w Vh tS ZB go gm 0 (fun _=>none) T C1 hT l0 vl h1 h2 (fun x v h=>by cases h) (by omega) w' B' D0 px mN;have hst:=fun go gm c f s x vl h1 h2 h3 h4 w' B' D0 px mN=>C2 g c0 bp cp vb w Vh tS ZB go gm c f T C1 hT s x vl h1 h2 h3 h4 w' B' D0 px mN;have DO:=Ad T N (by omega) (by omega) (.slice bp g.ag.length cp)
    repeat(first|refine GA ?_|refine gV (az (i:=0) ak.ty rfl rfl rfl) ?_)
    refine aI (jc aj.en rfl rfl) (fun w hm=>tY w) rfl rfl rfl ?_;rintro⟨go,gm⟩ _
    conv=>arg 8;simp only[zJ,bZ,ret,id_eq,S3]
    conv=>arg 7;simp only[S3]
    try refine GA ?_
    refine uf (K:=fe) rfl fun gq=>?_;refine zL ?_
    try refine GA ?_
    refine aK rfl fun g6=>?_;refine zL ?_;refine aW (i:=5) rfl rfl rfl rfl rfl rfl ?_;refine zL ?_
    try refine GA ?_
    refine aK rfl fun g7=>?_;refine zL ?_
    repeat(first|refine GA ?_|refine gV (nT rfl rfl) ?_|refine gV (J (v:= .slice bp g.ag.length cp) ak.ty rfl (ah (i:=0) rfl rfl)) ?_|refine gV (J (v:= .int .i64 g.aF) ak.ty rfl (ah (i:=0) rfl rfl)) ?_|refine gV (aP rfl (Bt _ _)) ?_)
    refine eM (cs:=(fG ((g.ag.length:Int),0,g.aF)).toArray) rfl rfl rfl rfl rfl fun g33=>?_;refine zL ?_;refine sL (i:=7) (m:=1) 3 rfl rfl (by decide) ?_;refine zL ?_;have Tr:∀x∈[(((g.ag.length:Int),0,g.aF):aY.Item)],dl g.ag T x:=by rw[C1];exact fl w6 hT
    try refine GA ?_
    refine aR [3,2] [0,1,4,5,6] (by decide) rfl rfl (eK aj.en rfl rfl rfl) (fun w' hm hb=>ir go gm [((g.ag.length:Int),0,g.aF)] _ Tr (by simp) w' _ ((jz.self w).on hm fun o h=>wZ h) (PF.row hm (i:=7) rfl [3,2] rfl (by decide)) hb) rfl rfl rfl ?_;rintro⟨f2,c2,v2⟩ ⟨Ng,wh⟩
    conv=>arg 8;simp only[zJ,bZ,ret,id_eq,qm,To]
    conv=>arg 7;simp only[qm]
    have rN:gO g.ag T (h_ g) [((g.ag.length:Int),0,g.aF)]=km g.ag T (h_ g):=by rw[C1];rfl
    rw[rN];have W8:∀it∈km g.ag T (h_ g),dl g.ag T it:=fK DN w6 hT (fl w6 hT);have ZC:=qf (lk:=h_ g) DN w6 hT (l0:=[((g.ag.length:Int),0,(T:Int))]) (fl w6 hT);have ZD:(km g.ag T (h_ g)).length<=11439:=ot DN w6 hT (fl w6 hT);dsimp only at Ng wh;refine na 273 1 ?_;refine Ea (dz (bD CR) (fun _=>False) [] []) (fun k hk=>hk.elim (fun h=>by cases h) id) (fun w=>iM) ?_;refine zL ?_;have hsm:=qo DN w6 hT W8;have wI:fP [] (km g.ag T (h_ g))=(0,[km g.ag T (h_ g)]):=if_neg (by simp)
    try refine GA ?_
    refine aR [3,2,4,8,9,7] [0,1,5,6] (by decide) rfl rfl (zU aj.en rfl rfl) (fun w' hm hb=>vm g6 gq g7 (.slice none 0 0) (.slice none 0 0) [] (fun _=>False) [] v2 (km g.ag T (h_ g)) (fun t h=>by cases h) hsm (by simp) (by omega) w' _ hb) rfl rfl rfl ?_;rintro⟨vS,qQ,F⟩ _
    conv=>arg 8;simp only[zJ,bZ,ret,id_eq,U']
    rw[wI];dsimp only;refine na 26 1 ?_;refine Ea (dz (bD fq) (fun _=>False) [] []) (fun k hk=>hk.elim (fun h=>by cases h) id) (fun w=>iM) ?_;refine zL ?_
    try refine GA ?_
    refine dv (ι:=Nat×List (List aY.Item)×List (List Int)×(RK->Option Value)×Nat×Value×Value×List Value×(Nat->Prop)×List Value×(Nat->Prop))
      (fun(n,S,Nx,f,c,_,_,_,_,_,_)=>n<=S.length/\Nx.length=n/\CL g.ag T (h_ g) S/\S.length<=200/\rp g.ag T N (h_ g) (202-n) n Nx S=allI g.ag T N (h_ g)/\gT (h_ g) f/\c<=12000+1200000*n/\∀t∈S,t.length<=11439)
      (fun(n,_,_,_,_,_,_,_,_,_,_)=>[(1,.pointer (some ⟨g1,0,none⟩)),(2,.pointer (some ⟨g2,0,none⟩)),(5,.pointer (some ⟨go,0,none⟩)),(7,.pointer (some ⟨g7,0,none⟩)),(8,.func (.func 127) #[] #[.pointer (some ⟨g6,0,none⟩),.pointer (some ⟨g7,0,none⟩)]),(9,.int .i64 (n:Int))])
      (fun(_,S,Nx,f,c,vS,vN,qQ,F,vH,G)=>[aw g1 (cO g.aF g.aU (.slice bp g.ag.length cp)).cells 33,aw g2 #[.slice none 0 0,.slice none 0 0] 203,aw go (vj g.aF g.aU (.slice bp g.ag.length cp) gm).toArray 314,dL fM gm f c,aw g6 #[.map (some gq)] 175,dL fe gq (ie (S.map fm)) S.length,aw g7 #[vS,vN] 203,aM 273 1 vS S.length qQ,dz (bD CR) F (qQ.map fun v=>[v]) S,aM 26 1 vN Nx.length vH,dz (bD fq) G (vH.map fun v=>[v]) Nx]) (fun(n,_,_,_,_,_,_,_,_,_,_)=>202-n)
      (0,[km g.ag T (h_ g)],[],f2,c2,vS,.slice none 0 0,qQ,F,[],fun _=>False) ⟨Nat.zero_le _,rfl,⟨by simp,fun s hs=>by rw[List.mem_singleton.1 hs];exact W8,fun s hs=>by rw[List.mem_singleton.1 hs];exact ZC⟩,by simp,rfl,Ng,by omega,fun t ht=>by rw[List.mem_singleton.1 ht];exact ZD⟩ ?_
    clear ir W8 ZC ZD hsm wI Ng wh Tr rN tY gd;rintro⟨n,S,Nx,f,c,vS,vN,qQ,F,vH,G⟩ ⟨i1,i2,i3,i4,i5,i6,i7,i8⟩;dsimp only at i1 i2 i3 i4 i5 i6 i7 i8⊢;refine fv (i:=7) rfl eE fun fc=>?_;obtain⟨aS,cS,rfl,-,haS⟩:=fc
    by_cases c1:n<S.length
    · rw[show 202-n=(201-n)+1 by omega,rp,if_pos c1]at i5
      have Rw:S.getD n []=S[n]:=by rw[List.getD_eq_getElem?_getD,List.getElem?_eq_getElem c1];rfl
      rw[Rw]at i5;have Tr:=i3.right S[n] (List.getElem_mem c1);have ZE:S[n]?=some S[n]:=List.getElem?_eq_getElem c1;generalize Na:S[n]=s0 at*;have hyl:(jJ T N).length=T+N:=tp T N;rw[<-C1,<-ZA]at DO;generalize jJ T N=ys at*
      repeat(first|refine GA ?_|refine gV (J (v:= .slice aS S.length cS) ak.ty rfl (ah (i:=6) rfl rfl)) ?_|refine gV (az (i:=0) ak.ty rfl rfl rfl) ?_)
      refine aI (jc aj.en rfl rfl) (fun w hm=>DO w) rfl rfl rfl ?_;intro vy _
      conv=>arg 8;simp only[zJ,bZ,ret,id_eq,bZ]
      conv=>arg 7;simp only[bZ]
      refine mA (i:=11) rfl eE fun fc=>?_;obtain⟨ay,cy,rfl,-,hay⟩:=fc
      try refine GA ?_
      refine g_ 3 1 ?_
      conv=>arg 7;simp only[zA,zB,zC,zD,zE,zF,zG,zH,zI,bZ,ret,id_eq]
      refine dv (ι:=Nat×List Int×List (List aY.Item)×(RK->Option Value)×Nat×Value×List Value×(Nat->Prop)×Value)
        (fun(k,nx,S',f',c',_,_,_,_)=>k<=ys.length/\(∃E,S'=S++E)/\CL g.ag T (h_ g) S'/\S'.length<=200/\tm g.ag T (h_ g) s0 (ys.drop k) nx S'=tm g.ag T (h_ g) s0 ys [] S/\gT (h_ g) f'/\c'<=c+12000*k/\nx.length=k/\(∀y∈nx,bO.cV y)/\∀t∈S',t.length<=11439)
        (fun(k,_,_,_,_,_,_,_,vx)=>[(1,.pointer (some ⟨g1,0,none⟩)),(2,.pointer (some ⟨g2,0,none⟩)),(5,.pointer (some ⟨go,0,none⟩)),(7,.pointer (some ⟨g7,0,none⟩)),(8,.func (.func 127) #[] #[.pointer (some ⟨g6,0,none⟩),.pointer (some ⟨g7,0,none⟩)]),(9,.int .i64 (n:Int)),(10,vx),(44,.slice ay ys.length cy),(45,.int .i64 (ys.length:Int)),(46,.int .i64 (k:Int))])
        (fun(_,nx,S',f',c',X3,wu,F',vx)=>[aw g1 (cO g.aF g.aU (.slice bp g.ag.length cp)).cells 33,aw g2 #[.slice none 0 0,.slice none 0 0] 203,aw go (vj g.aF g.aU (.slice bp g.ag.length cp) gm).toArray 314,dL fM gm f' c',aw g6 #[.map (some gq)] 175,dL fe gq (ie (S'.map fm)) S'.length,aw g7 #[X3,vN] 203,aM 273 1 X3 S'.length wu,dz (bD CR) F' (wu.map fun v=>[v]) S',aM 26 1 vN Nx.length vH,dz (bD fq) G (vH.map fun v=>[v]) Nx,aM 148 2 (.slice ay ys.length cy) ys.length (ys.flatMap dg),aM 3 1 vx nx.length (nx.map (Value.int .i64))]) (fun(k,_,_,_,_,_,_,_,_)=>ys.length-k)
        (0,[],S,f,c,.slice aS S.length cS,qQ,F,.slice none 0 0) ⟨Nat.zero_le _,⟨[],(List.append_nil _).symm⟩,i3,i4,rfl,i6,by omega,rfl,(fun y hy=>by cases hy),i8⟩ ?_
      clear DO;rintro⟨k,nx,S',f',c',X3,wu,F',vx⟩ ⟨j1,⟨E,hE⟩,j3,j4,j5,j6,j7,j8,j9,X_⟩;dsimp only at j1 hE j3 j4 j5 j6 j7 j8 j9 X_⊢
      by_cases c2:k<ys.length
      · have UE:n<S'.length:=by rw[hE,List.length_append];omega
        have ZF:S'[n]?=some s0:=by rw[hE,List.getElem?_append_left c1];exact ZE
        refine fv (i:=7) rfl eE fun fc=>?_;obtain⟨aS',X',rfl,-,abg⟩:=fc;obtain⟨Ya,rfl⟩:=abg (by omega);refine fv (i:=8) rfl (fun w h=>h.1.1) fun Rv=>?_;rw[List.length_map]at Rv;have hvn:wu[0+n]?=some (wu[n]'(by omega)):=by rw[Nat.zero_add];exact List.getElem?_eq_getElem _
        have ZG:wu[n]?=some (wu[n]'(by omega)):=List.getElem?_eq_getElem _;generalize wu[n]'(by omega)=vn at hvn ZG;obtain⟨gy,rfl⟩:=hay (by omega);have dF:=fun(L:List bI) (i:Nat) (hL:L[i]?=some (aM 148 2 (.slice (some ⟨gy,0,none⟩) ys.length cy) ys.length (ys.flatMap dg)))=>kA (W:=(w:bC)) yE hL c2;rw[List.drop_eq_getElem_cons c2,tm]at j5;generalize ys[k]=x at*;have sb:s0.length<=11439:=X_ s0 (List.mem_of_getElem? ZF)
        repeat(first|refine GA ?_|refine gV (aC aT.eq ak.ty rfl rfl c2) ?_|refine gV (aH (cs:=dg x) ak.ty rfl rfl (dF _ 11 rfl)) ?_)
        refine aK rfl fun g12=>?_;refine zL ?_;refine fa 13 (cs':=(dg x).toArray) ?_;refine zL ?_
        try refine GA ?_
        refine cU ([aw g7 #[.slice (some ⟨Ya,0,none⟩) S'.length X',vN] 203,aM 273 1 (.slice (some ⟨Ya,0,none⟩) S'.length X') S'.length wu,aw g12 (dg x).toArray 148]) (.calm 0 (.calm 1 (.calm 2 (.calm 3 (.calm 4 (.calm 5 (.calm 6 (.one 7 (.calm 8 (.done)))))))))) (bz [6,7,13]) ?_
        repeat(first|refine GW ?_|(refine GN ?_;first|refine QW (J (v:= .slice (some ⟨Ya,0,none⟩) S'.length X') ak.ty rfl (ah (i:=0) rfl rfl)) ?_|refine QW (bx aT.eq ak.ty rfl rfl UE) ?_|refine QW (J (v:=vn) ak.ty rfl (ix (i:=1) rfl hvn)) ?_|refine QW (az (i:=2) ak.ty rfl rfl rfl) ?_))
        refine ap rfl ?_;refine aR [2,3] [0,1,4,5,6,7,8,9,10,11,12,13] (by decide) rfl rfl (sB aj.en rfl rfl rfl rfl) (fun w' hm hb=>hst go gm c' f' s0 x vn Tr (by omega) j6 (by omega) w' _ ((jz.self w).on hm fun o h=>wZ h) (PF.els hm (i:=8) rfl [2,3] rfl (by decide) ZF ZG) hb) rfl rfl rfl ?_;rintro⟨f2,Bu,v2⟩ ⟨Ng,wh⟩;dsimp only at Ng wh
        conv=>arg 8;simp only[zJ,bZ,ret,id_eq,qm,To]
        conv=>arg 7;simp only[qm]
        rw[show gO g.ag T (h_ g) (jI g.ag s0 x)=fL g.ag T (h_ g) s0 x from rfl];refine av (bz [4,5,11]) ?_
        try refine GW ?_
        try refine GA ?_
        refine mA (i:=14) rfl eE fun fc=>?_;obtain⟨a2,Vg,rfl,-,ha2⟩:=fc;obtain⟨hlE,hlC,W9⟩:=Be (lk:=h_ g) DN w6 hT j3 Tr x;have hcc:Bu<=c+12000*(k+1):=PI wh j7;have abh:∀it∈fL g.ag T (h_ g) s0 x,dl g.ag T it:=fK DN w6 hT (iH Tr);have abi:(fL g.ag T (h_ g) s0 x).length<=11439:=ot DN w6 hT (iH Tr)
        by_cases c3:fL g.ag T (h_ g) s0 x=[]
        · have hcell:mH g.ag T (h_ g) s0 x S'=(-1,S'):=if_pos c3
          rw[hcell,if_neg (by show ¬200<S'.length;omega)]at j5;dsimp only at j5;have Zx:(fL g.ag T (h_ g) s0 x).length=0:=by rw[c3];rfl
          repeat(first|refine GA ?_|refine gV (J (v:= .slice (some ⟨Ya,0,none⟩) S'.length X') ak.ty rfl (ah (i:=4) rfl rfl)) ?_)
          refine je (i:=10) rfl rfl rfl rfl rfl rfl (fun z h=>by cases h;rfl) (by omega) (by omega) rfl fun z vx'=>?_;refine zL ?_
          try refine GA ?_
          refine cD [0,1,12,13,2,3,4,5,6,7,8,9,10] ?_;exact bB (k+1,nx++[-1],S',f2,Bu,.slice (some ⟨Ya,0,none⟩) S'.length X',wu,F',vx') ⟨by show k+1<=ys.length;omega,⟨E,hE⟩,j3,j4,j5,Ng,hcc,by show(nx++[-1]).length=k+1;rw[List.length_append,j8];rfl,fun y hy=>(List.mem_append.1 hy).elim (j9 y) fun h=>by rw[List.mem_singleton.1 h];exact⟨by omega,by omega⟩,X_⟩ (by show ys.length-(k+1)<ys.length-k;omega) (hl:=by dsimp only;rw[List.length_append,List.map_append];rfl)
        · have hcell:mH g.ag T (h_ g) s0 x S'=(((fP S' (fL g.ag T (h_ g) s0 x)).1:Int),(fP S' (fL g.ag T (h_ g) s0 x)).2):=if_neg c3
          have hsm:=qo DN w6 hT abh;have hSm:∀t∈S',qP t:=fun t ht=>qo DN w6 hT (j3.right t ht);have uz:0<(fL g.ag T (h_ g) s0 x).length:=List.length_pos_iff.2 c3;have hq:(fP S' (fL g.ag T (h_ g) s0 x)).1<=S'.length:=by
            unfold fP;split
            · rename_i hm;exact Nat.le_of_lt (iX hm)
            · exact Nat.le_refl _
          rw[hcell]at j5 hlE hlC W9;dsimp only at j5 hlE hlC W9
          try refine GA ?_
          refine aR [2,3,4,5,6,14] [0,1,7,8,9,10,11,12,13] (by decide) rfl rfl (zU aj.en rfl rfl) (fun w' hm hb=>vm g6 gq g7 (.slice (some ⟨Ya,0,none⟩) S'.length X') vN wu F' S' _ (fL g.ag T (h_ g) s0 x) hSm hsm (by omega) (by omega) w' _ hb) rfl rfl rfl ?_;rintro⟨vS2,abj,F2⟩ _
          conv=>arg 8;simp only[zJ,bZ,ret,id_eq,U']
          have yT:∀t∈(fP S' (fL g.ag T (h_ g) s0 x)).2,t.length<=11439:=by
            unfold fP;split
            · exact X_
            · intro t ht
              rcases List.mem_append.1 ht with h|h
              · exact X_ t h
              · rw[List.mem_singleton.1 h];exact abi
          generalize fP S' (fL g.ag T (h_ g) s0 x)=R at*;obtain⟨q,S2⟩:=R;dsimp only at j5 hlE hlC W9 hq yT⊢;refine mA (i:=12) rfl eE fun fc=>?_;obtain⟨aS2,cS2,rfl,-,ab6⟩:=fc;obtain⟨E2,ZH⟩:=hlE
          by_cases c4:200<S2.length
          · rw[if_pos c4]at j5
            rw[<-j5]at i5
            repeat(first|refine GC ?_|refine gV (J (v:= .slice aS2 S2.length cS2) ak.ty rfl (ah (i:=11) rfl rfl)) ?_|refine gV (dj (b:=true) rfl rfl (decide_eq_true (by omega))) ?_|refine gV (aP rfl sG) ?_|refine GB ?_)
            have hOn:fY g=([],[],8):=by rw[hO,<-i5]
            rw[hOn];refine fa 1 ?_;refine zL ?_
            try refine GA ?_
            refine dq 273 1 (nW (dz (bD CR) (fun _=>False) [] []) (fun k hk=>hk.elim (fun h=>by cases h) id) (fun w=>iM) (dq 26 1 (nW (dz (bD fq) (fun _=>False) [] []) (fun k hk=>hk.elim (fun h=>by cases h) id) (fun w=>iM) ?_)));exact da (i:=1) rfl rfl rfl rfl rfl fun w hm=>hm.meets (S:=⟨fun(_:Value×Value×List Value×(Nat->Prop)×List Value×(Nat->Prop))=>True,fun x=> .tuple #[.agg #[x.1,x.2.1],.int .i64 8],fun x=>[aM 273 1 x.1 0 x.2.2.1,dz (bD CR) x.2.2.2.1 (x.2.2.1.map fun v=>[v]) [],aM 26 1 x.2.1 0 x.2.2.2.2.1,dz (bD fq) x.2.2.2.2.2 (x.2.2.2.2.1.map fun v=>[v]) []]⟩) (.slice none 0 0,.slice none 0 0,[],fun _=>False,[],fun _=>False) trivial [14,15,16,17] (by decide) rfl
          · rw[if_neg c4]at j5
            repeat(first|refine GC ?_|refine gV (J (v:= .slice aS2 S2.length cS2) ak.ty rfl (ah (i:=11) rfl rfl)) ?_|refine gV (dj (b:=false) rfl rfl (decide_eq_false (by omega))) ?_|refine GB ?_)
            refine je (i:=5) rfl rfl rfl rfl rfl rfl (fun z h=>by cases h;rfl) (by omega) (by omega) rfl fun z vx'=>?_;refine zL ?_
            try refine GA ?_
            refine cD [0,1,7,8,9,10,11,12,13,2,3,4,5] ?_;exact bB (k+1,nx++[(q:Int)],S2,f2,Bu,.slice aS2 S2.length cS2,abj,F2,vx') ⟨by show k+1<=ys.length;omega,⟨E++E2,by rw[ZH,hE,List.append_assoc]⟩,W9,by show S2.length<=200;omega,j5,Ng,hcc,by show(nx++[(q:Int)]).length=k+1;rw[List.length_append,j8];rfl,fun y hy=>(List.mem_append.1 hy).elim (j9 y) fun h=>by rw[List.mem_singleton.1 h];exact⟨by omega,by omega⟩,fun t ht=>yT t ht⟩ (by show ys.length-(k+1)<ys.length-k;omega) (hl:=by dsimp only;rw[List.length_append,List.map_append];rfl)
      · obtain rfl:k=ys.length:=by omega
        rw[List.drop_eq_nil_of_le (Nat.le_refl _),tm]at j5;rw[<-j5]at i5;dsimp only at i5
        repeat(first|refine GA ?_|refine gV (J (v:=vN) ak.ty rfl (ah (i:=6) rfl rfl)) ?_)
        refine aD (i:=12) rfl fun B7 Ca=>?_;refine je (i:=9) rfl rfl B7 Ca rfl rfl (fun z h=>by cases h;rfl) (by omega) (by omega) rfl fun z vN'=>?_;refine zL ?_;refine sR (dz (bD fq) (fun k=>G k\/vx.ownBlock=some k) ((vH.map fun v=>[v])++[[vx]]) (Nx++[nx])) 12 10 [0,1,2,3,4,5,6,7,8,9] (by decide) rfl rfl rfl (fun k hk=>hk.elim (fun h=>by cases h) fun h=>h.elim (fun h=> .inr (.inr h)) fun h=> .inl (.inl h)) (fun w hr he=>nf he (vD j9 hr) (tA hr)) ?_;refine zL ?_
        try refine GA ?_
        refine aD (i:=9) rfl fun gB jM=>aW (i:=6) rfl rfl rfl gB jM rfl ?_;refine zL ?_
        try refine GA ?_
        exact bB (n+1,S',Nx++[nx],f',c',X3,vN',wu,F',vH++[vx],fun k=>G k\/vx.ownBlock=some k) ⟨by show n+1<=S'.length;rw[hE,List.length_append];omega,by show(Nx++[nx]).length=n+1;rw[List.length_append,i2];rfl,j3,j4,by show rp g.ag T N (h_ g) (202-(n+1)) (n+1) (Nx++[nx]) S'=_;rw[show 202-(n+1)=201-n by omega];exact i5,j6,by dsimp only;omega,X_⟩ (by show 202-(n+1)<202-n;omega) (hl:=by dsimp only;rw[List.length_append,List.map_append];rfl)
    · have hA:allI g.ag T N (h_ g)=some (Nx,S):=by rw[<-i5,show 202-n=(201-n)+1 by omega,rp,if_neg c1]
      rw[hA]at hO;have hO:fY g=(Nx,S,0):=hO;rw[hO];refine fv (i:=9) rfl eE fun fc=>?_;obtain⟨aN,cN,rfl,-⟩:=fc
      repeat(first|refine GA ?_|refine gV (J (v:= .slice aS S.length cS) ak.ty rfl (ah (i:=6) rfl rfl)) ?_|refine gV (az (i:=6) ak.ty rfl rfl rfl) ?_)
      refine fa 1 (cs':=#[.slice aS S.length cS,.slice aN Nx.length cN]) ?_;refine zL ?_
      try refine GA ?_
      exact da (i:=1) rfl rfl rfl rfl rfl fun w hm=>hm.meets (S:=⟨fun(_:Value×Value×List Value×(Nat->Prop)×List Value×(Nat->Prop))=>True,fun x=> .tuple #[.agg #[x.1,x.2.1],.int .i64 0],fun x=>[aM 273 1 x.1 S.length x.2.2.1,dz (bD CR) x.2.2.2.1 (x.2.2.1.map fun v=>[v]) S,aM 26 1 x.2.1 Nx.length x.2.2.2.2.1,dz (bD fq) x.2.2.2.2.2 (x.2.2.2.2.1.map fun v=>[v]) Nx]⟩) (.slice aS S.length cS,.slice aN Nx.length cN,qQ,F,vH,G) trivial [7,8,9,10] (by decide) rfl
  · rw[if_pos c0]at hO
    rw[hO]
    repeat(first|refine GC ?_|refine gV (bm (b:=true) rfl rfl (decide_eq_true c0)) ?_|refine gV (aP rfl sG) ?_|refine GB ?_)
    refine fa 1 ?_;refine zL ?_
    try refine GA ?_
    refine dq 273 1 (nW (dz (bD CR) (fun _=>False) [] []) (fun k hk=>hk.elim (fun h=>by cases h) id) (fun w=>iM) (dq 26 1 (nW (dz (bD fq) (fun _=>False) [] []) (fun k hk=>hk.elim (fun h=>by cases h) id) (fun w=>iM) ?_)));exact da (i:=1) rfl rfl rfl rfl rfl fun w hm=>hm.meets (S:=⟨fun(_:Value×Value×List Value×(Nat->Prop)×List Value×(Nat->Prop))=>True,fun x=> .tuple #[.agg #[x.1,x.2.1],.int .i64 (cz g)],fun x=>[aM 273 1 x.1 0 x.2.2.1,dz (bD CR) x.2.2.2.1 (x.2.2.1.map fun v=>[v]) [],aM 26 1 x.2.1 0 x.2.2.2.2.1,dz (bD fq) x.2.2.2.2.2 (x.2.2.2.2.1.map fun v=>[v]) []]⟩) (.slice none 0 0,.slice none 0 0,[],fun _=>False,[],fun _=>False) trivial [2,3,4,5] (by decide) rfl
end bK
namespace aY
open aB dy bT
section
variable{l:List aB.Prod}{T N:Nat}{lk:Int->Int->Nat}{Nx:List (List Int)}{S:List (List Item)}
theorem Fz{P:List Item->Prop}(hP:∀s x,(∀it∈s,dl l T it)->P s->P (fL l T lk s x)){s:List Item}(hs:∀it∈s,dl l T it)(h0:P s):∀(xs:List cg) (nx:List Int) (S:List (List Item)) (J0:List Int) (S':List (List Item)),(∀s∈S,P s)->tm l T lk s xs nx S=some (J0,S')->∀s∈S',P s
  | [],nx,S,J0,S',hS,h=>by
    simp only[tm,Option.some.injEq,Prod.mk.injEq]at h;obtain⟨_,rfl⟩:=h;exact hS
  | x ::xs,nx,S,J0,S',hS,h=>by
    rw[tm]at h
    by_cases c:200<(mH l T lk s x S).2.length
    · rw[if_pos c]at h;cases h
    · rw[if_neg c]at h
      refine Fz hP hs h0 xs _ _ J0 S' ?_ h;intro s' px;unfold mH at px;split at px
      · exact hS s' px
      · unfold fP at px
        dsimp only at px;split at px
        · exact hS s' px
        · rcases List.mem_append.1 px with h'|h'
          · exact hS s' h'
          · rw[List.mem_singleton.1 h'];exact hP s x hs h0
theorem yU{P:List Item->Prop}(hw:∀q∈l,q.2.length<=8)(hl:l.length<=40)(hT:T<=30)(hP:∀s x,(∀it∈s,dl l T it)->P s->P (fL l T lk s x)):∀(f n:Nat) (Nx:List (List Int)) (S:List (List Item)) (U7:List (List Int)) (S':List (List Item)),(∀s∈S,P s/\∀it∈s,dl l T it)->rp l T N lk f n Nx S=some (U7,S')->∀s∈S',P s
  |0,_,_,_,_,_,_,h=>by cases h
  | f + 1,n,Nx,S,U7,S',hS,h=>by
    rw[rp]at h
    by_cases c:n<S.length
    · rw[if_pos c]at h
      have sd:S.getD n []=S[n]:=by rw[List.getD_eq_getElem?_getD,List.getElem?_eq_getElem c];rfl
      have hn:=hS _ (List.getElem_mem c);rw[<-sd]at hn
      cases e:tm l T lk (S.getD n []) (jJ T N) [] S with
      |none=>rw[e]at h;cases h
      | some r=>
        obtain⟨nx,S1⟩:=r;rw[e]at h;dsimp only at h;have hQ:∀s x,(∀it∈s,dl l T it)->(P s/\∀it∈s,dl l T it)->P (fL l T lk s x)/\∀it∈fL l T lk s x,dl l T it:=fun s x h1 h2=>⟨hP s x h1 h2.1,fK hw hl hT (iH h1)⟩;exact yU hw hl hT hP f (n+1) _ S1 U7 S' (Fz hQ hn.2 hn (jJ T N) [] S nx S1 hS e) h
    · rw[if_neg c]at h
      simp only[Option.some.injEq,Prod.mk.injEq]at h;obtain⟨_,rfl⟩:=h;exact fun s hs=>(hS s hs).1
theorem Ts(hw:∀q∈l,q.2.length<=8)(hl:l.length<=40)(hT:T<=30)(h:allI l T N lk=some (Nx,S)):∀q,q<S.length->∀it∈S.getD q [],it.1=(l.length:Int)->it.2.2=(T:Int):=by
 have Na:∀it∈km l T lk,dl l T it:=fK hw hl hT (fl hl hT);have Fv:∀{it2 it:Item},CK l T lk it2 it->it.1<(l.length:Int):=fun {it2 it} h=>by
  obtain⟨_,i,k,_,h2,_,_,_,rfl⟩:=h;show(i:Int)<_
  omega
 have:=yU (P:=fun s=>∀it∈s,it.1=(l.length:Int)->it.2.2=(T:Int)) (N:=N) hw hl hT (fun s x hs hP it hit h1=>by
  have hm:=(eY (lk:=lk) hw hl hT (iH (x:=x) hs) (x:=it)).1 hit
  cases hm with
  |base hb=>
   obtain⟨it',h2,h3,rfl⟩:=E9.1 hb;exact hP it' h2 h1
  |step _ h2=>have:=Fv h2;omega) 202 0 [] [km l T lk] Nx S (fun s hs=>by
   rw[List.mem_singleton.1 hs];refine⟨fun it hit h1=>?_,Na⟩;have hm:=(eY (lk:=lk) hw hl hT (fl hl hT) (x:=it)).1 hit
   cases hm with
   |base hb=>rw[List.mem_singleton.1 hb]
   |step _ h2=>have:=Fv h2;omega) h
 intro q hq it hit h1;have sd:S.getD q []=S[q]:=by rw[List.getD_eq_getElem?_getD,List.getElem?_eq_getElem hq];rfl
 rw[sd]at hit;exact this _ (List.getElem_mem hq) it hit h1
theorem Tt(hw:∀q∈l,q.2.length<=8)(hl:l.length<=40)(hT:T<=30)(h:allI l T N lk=some (Nx,S)):∀s∈S,s.length<=11439:=
 yU (P:=fun s=>s.length<=11439) (N:=N) hw hl hT (fun s x hs _=>ot hw hl hT (iH hs)) 202 0 [] [km l T lk] Nx S (fun s hs=>by
  rw[List.mem_singleton.1 hs];exact⟨ot hw hl hT (fl hl hT),fK hw hl hT (fl hl hT)⟩) h
end
end aY
namespace bK
open Go.RowKit bO dc aB dy cL aY bT
theorem J'{g:dr}(h:(fY g).2.2=0):cz g=0/\allI g.ag g.aF.toNat g.aU.toNat (h_ g)=some ((fY g).1,(fY g).2.1):=by
 unfold fY at h⊢
 by_cases c:cz g=0
 ·rw[if_neg (by rw[c];simp)]at h⊢
  refine⟨c,?_⟩
  cases e:allI g.ag g.aF.toNat g.aU.toNat (h_ g)with
  |none=>rw[e]at h;cases h
  |some r=>rfl
 ·rw[if_pos c]at h;exact absurd h c
theorem Tu{g:dr}(h:(fY g).2.2≠0):(fY g).2.1=[]/\(fY g).1=[]:=by
 unfold fY at h⊢
 by_cases c:cz g=0
 ·rw[if_neg (by rw[c];simp)]at h⊢
  cases e:allI g.ag g.aF.toNat g.aU.toNat (h_ g)with
  |none=>exact⟨rfl,rfl⟩
  |some r=>rw[e]at h;exact absurd rfl h
 ·rw[if_pos c];exact⟨rfl,rfl⟩
end bK
namespace rX
open aB dy eo cL
def FB(o:cg->Nat->Nat->Nat)(x:cg)(kX:Nat)(A:Nat->Bool):Nat->Nat->Bool
 |0,_=>false
 |k+1,b=>FB o x kX A k b||(A (kX+k)&&decide (kX+k<=b)&&decide (0<o x (kX+k) b))
def PJ(p:Nat->Bool)(kX:Nat):Nat->Bool
 |0=>false
 |k+1=>PJ p kX k||p (kX+k)
def Tv(o:cg->Nat->Nat->Nat)(O:Nat->Nat->Bool)(n kX:Nat):List cg->(Nat->Bool)->Bool
 |[],A=>A n
 |x::r,A=>if A n=true then true else if x.1=2/\PJ (fun a=>A a&&O x.2.toNat a) kX (n+1-kX)=true then true else Tv o O n kX r (FB o x kX A (n+1-kX))
def C3(o:cg->Nat->Nat->Nat)(O:Nat->Nat->Bool)(M:List Bool)(n kX:Nat)(l:List cg):Bool:=if lH M l true=true then Tv o O n kX l (fun b=>decide (b=kX))else false
section
variable{o:cg->Nat->Nat->Nat}{x:cg}{kX:Nat}{A:Nat->Bool}
theorem Bv{b:Nat}:∀{k:Nat},FB o x kX A k b=true↔∃i,i<k/\A (kX+i)=true/\kX+i<=b/\0<o x (kX+i) b
  |0=>by simp[FB]
  | k +1=>by
    rw[FB,Bool.or_eq_true,Bv,Bool.and_eq_true,Bool.and_eq_true,decide_eq_true_iff,decide_eq_true_iff]
    constructor
    · rintro(⟨i,h1,h2⟩|⟨⟨h1,h2⟩,h3⟩)
      · exact⟨i,by omega,h2⟩
      · exact⟨k,by omega,h1,h2,h3⟩
    · rintro⟨i,h1,h2,h3,h4⟩
      by_cases e:i=k
      · subst e;exact .inr ⟨⟨h2,h3⟩,h4⟩
      · exact .inl ⟨i,by omega,h2,h3,h4⟩
theorem FC{p:Nat->Bool}:∀{k:Nat},PJ p kX k=true↔∃i,i<k/\p (kX+i)=true
  |0=>by simp[PJ]
  | k +1=>by
    rw[PJ,Bool.or_eq_true,FC]
    constructor
    · rintro(⟨i,h1,h2⟩|h1)
      · exact⟨i,by omega,h2⟩
      · exact⟨k,by omega,h1⟩
    · rintro⟨i,h1,h2⟩
      by_cases e:i=k
      · subst e;exact .inr h2
      · exact .inl ⟨i,by omega,h2⟩
end
section
variable{w:List Int}{l:List aB.Prod}{n:Nat}{c:mE}{O:Nat->Nat->Bool}
theorem yV:∀(b:List cg),(∀x∈b,∃ws,zW l x ws)->∃ws,nj l b ws
 |[],_=>⟨[],.nil⟩
 |x::r,h=>by
  obtain⟨u,h1⟩:=h x (by simp);obtain⟨s,h2⟩:=yV r fun y hy=>h y (by simp[hy]);exact⟨u++s,.cons h1 h2⟩
theorem PL{a b:Nat}(h:a<=b):cut w a b++w.drop b=w.drop a:=by
 unfold cut;have e3:w.drop b=(w.drop a).drop (b-a):=by rw[List.drop_drop,show a+(b-a)=b by omega]
 rw[e3,List.take_append_drop]
theorem yW(hc:Wc w l n c)(hs:lG n l)(hO:∀(k:Nat) a,O k a=true->a<=w.length->∃v,zW l (2,(k:Int)) (w.drop a++v)){kX:Nat}(hf:kX<=w.length):∀(body:List cg) (A:Nat->Bool) (pre:List cg),(∀x∈body,(x.1=1\/(x.1=2/\0<=x.2/\x.2<(n:Int)))/\∃ws,zW l x ws)->(∀b,kX<=b->b<=w.length->A b=true->nj l pre (cut w kX b))->Tv (jg c w) O w.length kX body A=true->∃v,nj l (pre++body) (w.drop kX++v)
  | [],A,pre,_,hA,h=>by
    have:=hA w.length hf (Nat.le_refl _) h;rw[JB rfl]at this;exact⟨[],by rw[List.append_nil,List.append_nil];exact this⟩
  | x ::r,A,pre,hx,hA,h=>by
    rw[Tv]at h;split at h
    · rename_i h1
      have h2:=hA w.length hf (Nat.le_refl _) h1;rw[JB rfl]at h2;obtain⟨ws,h3⟩:=yV (x::r) fun y hy=>(hx y hy).2;exact⟨ws,h2.Ly h3⟩
    · split at h
      · rename_i h1
        obtain⟨h1,h2⟩:=h1;obtain⟨i,h3,h4⟩:=FC.1 h2;rw[Bool.and_eq_true]at h4;have hk:=((hx x (by simp)).1.resolve_left (by omega)).2;obtain⟨v,h5⟩:=hO _ _ h4.2 (by omega);obtain⟨x1,x2⟩:=x;dsimp only at h1 hk h5;subst h1;rw[Int.toNat_of_nonneg hk.1]at h5;obtain⟨ws,h6⟩:=yV r fun y hy=>(hx y (by simp[hy])).2;refine⟨v++ws,?_⟩;have h7:=(hA (kX+i) (by omega) (by omega) h4.1).Ly (nj.cons h5 h6);rw[List.append_assoc (w.drop (kX+i)),<-List.append_assoc (cut w kX (kX+i)),PL (by omega)]at h7;exact h7
      · obtain⟨v,h1⟩:=yW hc hs hO hf r _ (pre++[x]) (fun y hy=>hx y (by simp[hy])) (fun b z8 K_ hb=>by
          obtain⟨i,h3,h4,h5,h6⟩:=Bv.1 hb;rw[<-td (by omega:kX<=kX+i) h5];exact(hA _ (by omega) (by omega) h4).Ly (OO (Hs hc hs (hx x (by simp)).1 h5 K_ h6))) h
        exact⟨v,by rw[List.append_assoc]at h1;exact h1⟩
theorem C5{M:List Bool}(hM:∀i:Nat,M.getD i false=true->∃ws,zW l (2,(i:Int)) ws)(hc:Wc w l n c)(hs:lG n l)(hO:∀(k:Nat) a,O k a=true->a<=w.length->∃v,zW l (2,(k:Int)) (w.drop a++v)){kX:Nat}(hf:kX<=w.length){body:List cg}(hx:∀x∈body,x.1=1\/(x.1=2/\0<=x.2/\x.2<(n:Int)))(h:C3 (jg c w) O M w.length kX body=true):∃v,nj l body (w.drop kX++v):=by
  unfold C3 at h;split at h
  · rename_i hm
    refine yW hc hs hO hf body _ [] (fun x hb=>⟨hx x hb,?_⟩) (fun b _ _ hb=>?_) h
    · unfold lH at hm
      have:=List.all_eq_true.1 hm x hb;rcases hx x hb with c1|⟨c1,c2,_⟩
      · exact⟨_,.xZ c1⟩
      · rw[if_neg (by omega),if_pos c1]at this
        obtain⟨ws,hw⟩:=hM _ this;obtain⟨x1,x2⟩:=x;dsimp only at c1 c2 hw;subst c1;rw[Int.toNat_of_nonneg c2]at hw;exact⟨ws,hw⟩
    · have:b=kX:=by simpa using hb
      subst this;rw[EC];exact .nil
  · cases h
end
end rX
namespace aB
abbrev Tx:=List UInt8
def dec(n:Nat):Tx:=if n<10 then [UInt8.ofNat (48+n)]else [UInt8.ofNat (48+n/10),UInt8.ofNat (48+n %10)]
def q_(c:UInt8):Tx->Tx×Tx×Bool
 |[]=>([],[],false)
 |b::r=>if b=c then([],r,true)else(b::(q_ c r).1,(q_ c r).2.1,(q_ c r).2.2)
def PM(x:cg):Tx:=32::(if x.1=1 then 116 else 110)::dec x.2.toNat
theorem Tw(n:Nat):0<(dec n).length/\(dec n).length<=2:=by unfold dec;split<;>simp
theorem td{c:UInt8}:∀{a:Tx} (b:Tx),(∀x∈a,x≠c)->q_ c (a++c::b)=(a,b,true)
 |[],b,_=>by rw[List.nil_append,q_,if_pos rfl]
 |x::a,b,h=>by
  rw[List.cons_append,q_,if_neg (h x (List.mem_cons_self ..)),td b fun y hy=>h y (List.mem_cons_of_mem _ hy)]
theorem PN{c:UInt8}:∀{s:Tx},(q_ c s).2.2=true->s=(q_ c s).1++c::(q_ c s).2.1
  |[],h=>by cases h
  | b ::r,h=>by
    rw[q_]at h⊢;split at h
    · rename_i e;rw[if_pos e,e];rfl
    · rename_i e
      rw[if_neg e];show b::r=b::((q_ c r).1++c::(q_ c r).2.1)
      rw[<-PN (s:=r) h]
theorem JC{c:UInt8}{s:Tx}(h:(q_ c s).2.2=true):(q_ c s).1.length+(q_ c s).2.1.length+1=s.length:=by
 have:=congrArg List.length (PN h);rw[List.length_append,List.length_cons]at this;omega
theorem Tz(x:cg):0<(PM x).length/\(PM x).length<=4:=by have:=Tw x.2.toNat;unfold PM;simp;omega
theorem tp:∀l:List cg,l.length<=(l.flatMap PM).length/\(l.flatMap PM).length<=4*l.length
 |[]=>⟨Nat.le_refl _,Nat.le_refl _⟩
 |x::l=>by
  have h1:=Tz x;have h2:=tp l;rw[List.flatMap_cons,List.length_append,List.length_cons];omega
end aB
namespace gh
open bW eG
open aB (q_ td)
abbrev Bs:=List UInt8
abbrev Wd:=Bs×Rx
abbrev Rl:=Bs×List Bs
structure Sp where
 words:List Wd
 rules:List Rl
def rr(b:UInt8):Bool:=decide (97<=b.toNat)&&decide (b.toNat<=122)
def oy(s:Bs):Bool:=decide (s≠[])&&decide (s.length<=12)&&s.all rr
def jb:List Wd->List Bs->Int×List Bs
 |[],of=>(0,of)
 |w::r,of=>if w.1≠[]/\oy w.1=false then(1,of)else if bK.N8 w.2≠0 then(bK.N8 w.2,of)else if w.1∈of then(11,of)else jb r (if w.1=[]then of else of++[w.1])
def mV:List Rl->List Bs->Int
 |[],_=>0
 |r::l,of=>if oy r.1=false then 1 else if r.1∈of then 11 else mV l of
def uD(of hd:List Bs)(l:List Bs):Bool:=l.all fun x=>decide (x∈of)||decide (x∈hd)
def nB(of hd:List Bs)(l:List Rl):Bool:=l.all fun r=>uD of hd r.2
def l7(s:Sp):Int:=
 if 60<s.words.length\/60<s.words.length+s.rules.length then 2
 else if(jb s.words []).1≠0 then(jb s.words []).1
 else if mV s.rules (jb s.words []).2≠0 then mV s.rules (jb s.words []).2
 else if nB (jb s.words []).2 (s.rules.map (·.1)) s.rules=true then 0 else 11
end gh
namespace bK
open Go.RowKit bO dc bW eG gh
def tE:sC Wd:=N4 K' rL
def Bw:sC Rl:=N4 K' (bD K')
def bsC(s:Bs):List Value:=[str s]
theorem Ka(s:Bs):(bsC s).length=1:=rfl
def Mq(F:Nat->Prop)(w:World)(v:Value)(s:Sp):Prop:=∃vw vr,v= .agg #[vw,vr]/\iB tE F w vw s.words/\iB Bw F w vr s.rules
theorem PO{α:Type}{s:sC α}{w w':World}{v:Value}{l:List α}(h:iB s (ng w) w v l)(hg:Gr w w'):iB s (ng w') w' v l:=
 (h.stay fun k hk=>hg.block k hk).mono fun _ hk=>Nat.lt_of_lt_of_le hk hg.size
theorem Mq.gr{w w':World}{v:Value}{s:Sp}(h:Mq (ng w) w v s)(hg:Gr w w'):Mq (ng w') w' v s:=by
 obtain⟨vw,vr,h1,h2,h3⟩:=h;exact⟨vw,vr,h1,PO h2 hg,PO h3 hg⟩
def sE(n:Bs)(k:Int)(c:C4)(v:Value):List Value:=str n::jx k c v
theorem Ik{n:Bs}{k:Int}{c:C4}{vk:Value}{j:Nat}{v:Value}(h:(jx k c vk)[j]?=some v):(sE n k c vk).toArray[0+1+j]?=some v:=by
 rw[List.getElem?_toArray,Nat.zero_add,Nat.add_comm];exact h
theorem Kb{F:Nat->Prop}{w:World}{b off:Nat}{l:List Wd}(h:∀i (h:i<l.length),∃cs,tE.is F w cs l[i]/\Rd w b (off+i*tE.c) cs){k:Nat}(hk:k<l.length):
 ∃base cap,Rd w b (off+k*7) (sE l[k].1 l[k].2.kind l[k].2.pA (.slice base l[k].2.kids.length cap))/\kM F w (mM l[k].2.kind l[k].2.pA (.slice base l[k].2.kids.length cap)) l[k].2/\l[k].1.length<=9223372036854775807:=by
 obtain⟨cs,⟨c1,c2,rfl,⟨rfl,h1⟩,h2⟩,h3⟩:=h k hk;have h2:ic F w c2 l[k].2:=h2;have h4:=h2.r;obtain⟨vk,e,-,hs⟩:=h4;obtain⟨base,cap,rfl,-⟩:=hs;have e2:c2=jx l[k].2.kind l[k].2.pA (.slice base l[k].2.kids.length cap):=by
  unfold mM at e;simp only[Value.agg.injEq]at e
  simpa using congrArg Array.toList e
 subst e2;exact⟨base,cap,h3,h2.r,h1⟩
theorem w7{F:Nat->Prop}{w:World}{b off:Nat}{l:List Rl}(h:∀i (h:i<l.length),∃cs,Bw.is F w cs l[i]/\Rd w b (off+i*Bw.c) cs){k:Nat}(hk:k<l.length):
 ∃base cap,Rd w b (off+k*2) [str l[k].1,.slice base l[k].2.length cap]/\iB K' F w (.slice base l[k].2.length cap) l[k].2/\l[k].1.length<=9223372036854775807:=by
 obtain⟨cs,⟨c1,c2,rfl,⟨rfl,h1⟩,v,rfl,hs⟩,h3⟩:=h k hk;have Na:=hs;obtain⟨base,cap,rfl,-⟩:=hs;exact⟨base,cap,h3,Na,h1⟩
theorem Mr{b:UInt8}{r:Bs}:(b::r).all rr=(rr b&&r.all rr):=rfl
theorem Bx{b:UInt8}:rr b=true↔¬((b.toNat:Int)<97)/\¬((b.toNat:Int)>122):=by
 unfold rr;simp only[Bool.and_eq_true,decide_eq_true_eq];omega
theorem vJ(s:Bs)(w:World):Calls Tryz.prog 74 #[str s] w (bM (ret (.bool (oy s))) w):=by
  refine enter (args:=[str s]) (n:=27) Tryz.func74 rfl rfl rfl ?_
  try refine GA ?_
  by_cases c0:s=[]
  · subst c0
    repeat(first|refine GC ?_|refine gV (pu (b:=true) rfl rfl rfl) ?_|refine GB ?_)
    exact dx rfl rfl rfl
  by_cases c1:12<s.length
  · repeat(first|refine GC ?_|refine gV (pu (b:=false) rfl rfl (decide_eq_false c0)) ?_|refine GB ?_)
    exact dx rfl rfl (by unfold oy;rw[decide_eq_false (show ¬s.length<=12 by omega)];simp)
  have hB:oy s=s.all rr:=by unfold oy;rw[decide_eq_true c0,decide_eq_true (show s.length<=12 by omega)];rfl
  repeat(first|refine GC ?_|refine gV (pu (b:=false) rfl rfl (decide_eq_false c0)) ?_|refine GB ?_)
  refine dv (ι:=Nat) (fun k=>k<=s.length/\(s.drop k).all rr=s.all rr) (fun k=>[(0,str s),(12,.int .i64 s.length),(13,.int .i64 (k:Int))]) (fun _=>[]) (fun k=>s.length-k) 0 ⟨Nat.zero_le _,rfl⟩ ?_;rintro k ⟨i1,i2⟩
  by_cases c2:k<s.length
  · rw[List.drop_eq_getElem_cons c2,Mr]at i2
    have hk:=List.getElem?_eq_getElem c2;rw[hB];generalize s[k]=b at*
    cases hb:rr b with
    | true=>
      obtain⟨b1,b2⟩:=Bx.1 hb;rw[hb,Bool.true_and]at i2
      repeat(first|refine GA ?_|refine gV (qC (b:=b) aT.eq rfl rfl (by omega) hk) ?_)
      exact bB (k+1) ⟨by omega,i2⟩ (by show s.length-(k+1)<s.length-k;omega)
    | false=>
      rw[hb,Bool.false_and]at i2;rw[<-i2]
      by_cases b1:(b.toNat:Int)<97
      · repeat(first|refine GA ?_|refine gV (qC (b:=b) aT.eq rfl rfl (by omega) hk) ?_)
        exact dx rfl rfl rfl
      · have b2:(b.toNat:Int)>122:=by
          by_cases b2:(b.toNat:Int)>122
          · exact b2
          · rw[Bx.2 ⟨b1,b2⟩]at hb;cases hb
        repeat(first|refine GA ?_|refine gV (qC (b:=b) aT.eq rfl rfl (by omega) hk) ?_)
        exact dx rfl rfl rfl
  · have e:k=s.length:=by omega
    subst e;rw[List.drop_length]at i2;rw[hB,<-i2]
    try refine GA ?_
    exact dx rfl rfl rfl
def KeysOf(m:Bs->Option Value)(of:List Bs):Prop:=∀y,(m y).isSome=decide (y∈of)
theorem nC{m:Bs->Option Value}{of:List Bs}{y:Bs}{v:Value}(h:KeysOf m of)(e:m y=some v):y∈of:=by
 have:=h y;rw[e]at this;exact of_decide_eq_true this.symm
theorem nD{m:Bs->Option Value}{of:List Bs}{y:Bs}(h:KeysOf m of)(e:m y=none):y∉of:=by
 have:=h y;rw[e]at this;exact of_decide_eq_false this.symm
theorem FD{m:Bs->Option Value}{of:List Bs}{x:Bs}{v:Value}(h:KeysOf m of):KeysOf (fun y=>if y=x then some v else m y) (of++[x]):=fun y=>by
 by_cases e:y=x
 ·subst e;simp
 ·dsimp only
  rw[if_neg e,h y];simp[e]
theorem eX(w:World):(zeroValue 3).run Tryz.prog w= .ok (.int .i64 0) w:=by kernel_rfl
def oz(gm:Nat)(r:Int×List Bs):Spec ((Bs->Option Value)×Nat):=⟨fun x=>KeysOf x.1 r.2/\x.2<=60,fun _=> .int .i64 r.1,fun x=>[dL fe gm x.1 x.2]⟩
theorem FE(vw vr:Value)(l:List Wd)(gm:Nat)(w0:World)(hw:iB tE (ng w0) w0 vw l)(hl:l.length<=60)(w:World)(B:bC)(ho:jz w0 B)(hm:Mem B [dL fe gm (fun _=>none) 0] w):
    Calls Tryz.prog 73 #[.agg #[vw,vr],.map (some gm)] w (c_ (oz gm (jb l [])) B):=by
  obtain⟨bw,cw,rfl,-,-,ef⟩:=hw;have hnm:=fun s w=>vJ s w;refine dC hm (args:=[.agg #[.slice bw l.length cw,vr],.map (some gm)]) (n:=49) Tryz.func73 rfl rfl rfl ?_;refine a8 (aL (a_ rfl rfl rfl fun g2=>?_));refine zL ?_
  repeat(first|refine GA ?_|refine gV (J (v:= .slice bw l.length cw) ak.ty rfl (ah (i:=1) rfl rfl)) ?_)
  refine oX [0] ?_;generalize iO:jb l []=fin;refine dv (ι:=Nat×List Bs×(Bs->Option Value)×Nat) (fun(k,of,m,n)=>k<=l.length/\n<=k/\KeysOf m of/\jb (l.drop k) of=fin) (fun(k,_,_,_)=>[(1,.map (some gm)),(11,.slice bw l.length cw),(12,.int .i64 l.length),(13,.int .i64 (k:Int))]) (fun(_,_,m,n)=>[dL fe gm m n]) (fun(k,_)=>l.length-k) (0,[],fun _=>none,0) ⟨Nat.zero_le _,Nat.le_refl _,fun y=>rfl,iO⟩ ?_;clear hm iO;rintro⟨k,of,m,n⟩ ⟨i1,i2,i3,i4⟩;dsimp only at i1 i2 i3 i4⊢
  by_cases c1:k<l.length
  · obtain⟨b,off,rfl,_,hr⟩:=ef (by omega)
    obtain⟨bk,ck,q1,q2,q3⟩:=Kb hr c1;rw[List.drop_eq_getElem_cons c1,jb]at i4;have dF:∀(L:List bI) (j:Nat) (u:Value),(sE l[k].1 l[k].2.kind l[k].2.pA (.slice bk l[k].2.kids.length ck))[j]?=some u->At B L ⟨b,off+k*7+j,none⟩ u:=fun L j u hj=>fx ho (q1 j u hj);have gd:=fun w' (hg:Gr w0 w')=>pG _ _ w' (q2.gr hg);clear hr ef q1 q2;generalize l[k]=wd at*;obtain⟨nm,r⟩:=wd;dsimp only at*;generalize N8 r=er at*;generalize r.kind=rk at*;generalize r.pA=rc at*;generalize r.kids.length=rn at*
    repeat(first|refine GA ?_|refine gV (aC aT.eq ak.ty rfl rfl c1) ?_|refine gV (aH (cs:=sE nm rk rc (.slice bk rn ck)) ak.ty rfl rfl (dF _)) ?_)
    clear dF;refine aK rfl fun g6=>?_;refine zL ?_
    try refine GA ?_
    refine fa 1 (cs':=(sE nm rk rc (.slice bk rn ck)).toArray) ?_;refine zL ?_
    repeat(first|refine GA ?_|refine gV (J (v:=str nm) ak.ty rfl (ah (i:=1) rfl rfl)) ?_)
    by_cases e0:nm=[]
    · subst e0
      rw[if_neg (fun h=>h.1 rfl)]at i4
      repeat(first|refine GC ?_|refine gV (sK (b:=false) rfl rfl rfl) ?_|refine gV (aH (cs:=jx rk rc (.slice bk rn ck)) ak.ty rfl rfl (fun j v hj=>ah (i:=1) rfl (Ik hj))) ?_|refine GB ?_)
      refine aI (jc aj.en rfl rfl) (fun w hm=>gd _ (ho.mem hm)) rfl rfl rfl ?_;intro _ _;refine zL ?_
      by_cases e1:er=0
      · subst e1
        rw[if_neg (by simp)]at i4
        repeat(first|refine GA ?_|refine gV (J (v:=str []) ak.ty rfl (ah (i:=1) rfl rfl)) ?_)
        cases vv:m []with
        | some v=>
          have M8:=nC i3 vv;rw[if_pos M8]at i4
          repeat(first|refine GA ?_|refine gV (J (v:=str []) ak.ty rfl (ah (i:=1) rfl rfl)) ?_|refine gV (gC fe (x:=([]:Bs)) aT.eq eX (i:=0) rfl rfl rfl q3 vv) ?_)
          subst i4;exact b9 rfl rfl fun w hm=>hm.bP (S:=oz gm _) (m,n) ⟨i3,by show n<=60;omega⟩ [0] (by decide) rfl
        | none=>
          have M8:=nD i3 vv;rw[if_neg M8,if_pos rfl]at i4
          repeat(first|refine GC ?_|refine gV (J (v:=str []) ak.ty rfl (ah (i:=1) rfl rfl)) ?_|refine gV (gD fe (x:=([]:Bs)) aT.eq eX (i:=0) rfl rfl rfl q3 vv) ?_|refine gV (sK (b:=false) rfl rfl rfl) ?_|refine GB ?_)
          refine cD [0] ?_;exact bB (k+1,of,m,n) ⟨by omega,by show n<=k+1;omega,i3,i4⟩ (by show l.length-(k+1)<l.length-k;omega)
      · rw[if_pos e1]at i4
        repeat(first|refine GC ?_|refine gV (bm (b:=true) rfl rfl (decide_eq_true e1)) ?_|refine GB ?_)
        subst i4;exact b9 rfl rfl fun w hm=>hm.bP (S:=oz gm _) (m,n) ⟨i3,by show n<=60;omega⟩ [0] (by decide) rfl
    · repeat(first|refine GC ?_|refine gV (sK (b:=true) rfl rfl (decide_eq_true e0)) ?_|refine gV (J (v:=str nm) ak.ty rfl (ah (i:=1) rfl rfl)) ?_|refine GB ?_)
      refine ky (jc aj.en rfl rfl) (fun w hm=>hnm nm w) rfl rfl rfl rfl rfl ?_;intro _ _;refine zL ?_
      cases hb:oy nm with
      | false=>
        rw[if_pos ⟨e0,hb⟩]at i4
        try refine GA ?_
        subst i4;exact b9 rfl rfl fun w hm=>hm.bP (S:=oz gm _) (m,n) ⟨i3,by show n<=60;omega⟩ [0] (by decide) rfl
      | true=>
        rw[if_neg (fun h=>by rw[hb]at h;cases h.2)]at i4
        repeat(first|refine GA ?_|refine gV (aH (cs:=jx rk rc (.slice bk rn ck)) ak.ty rfl rfl (fun j v hj=>ah (i:=1) rfl (Ik hj))) ?_)
        refine aI (jc aj.en rfl rfl) (fun w hm=>gd _ (ho.mem hm)) rfl rfl rfl ?_;intro _ _;refine zL ?_
        by_cases e1:er=0
        · subst e1
          rw[if_neg (by simp)]at i4
          repeat(first|refine GA ?_|refine gV (J (v:=str nm) ak.ty rfl (ah (i:=1) rfl rfl)) ?_)
          cases vv:m nm with
          | some v=>
            have M8:=nC i3 vv;rw[if_pos M8]at i4
            repeat(first|refine GA ?_|refine gV (J (v:=str nm) ak.ty rfl (ah (i:=1) rfl rfl)) ?_|refine gV (gC fe (x:=nm) aT.eq eX (i:=0) rfl rfl rfl q3 vv) ?_)
            subst i4;exact b9 rfl rfl fun w hm=>hm.bP (S:=oz gm _) (m,n) ⟨i3,by show n<=60;omega⟩ [0] (by decide) rfl
          | none=>
            have M8:=nD i3 vv;rw[if_neg M8,if_neg e0]at i4
            repeat(first|refine GC ?_|refine gV (J (v:=str nm) ak.ty rfl (ah (i:=1) rfl rfl)) ?_|refine gV (gD fe (x:=nm) aT.eq eX (i:=0) rfl rfl rfl q3 vv) ?_|refine gV (sK (b:=true) rfl rfl (decide_eq_true e0)) ?_|refine GB ?_)
            refine jr (i:=0) (x:=nm) (v:= .int .i64 (k:Int)) fe aT.eq rfl rfl rfl rfl q3 (by omega) ?_;refine zL ?_
            try refine GA ?_
            refine cD [0] ?_;exact fH (k+1,of++[nm],_,_) ⟨by omega,by rw[vv];show n+1<=k+1;omega,FD i3,i4⟩ (by show l.length-(k+1)<l.length-k;omega) (by repeat' (first|exact True.intro|refine And.intro rfl ?_)) rfl
        · rw[if_pos e1]at i4
          repeat(first|refine GC ?_|refine gV (bm (b:=true) rfl rfl (decide_eq_true e1)) ?_|refine GB ?_)
          subst i4;exact b9 rfl rfl fun w hm=>hm.bP (S:=oz gm _) (m,n) ⟨i3,by show n<=60;omega⟩ [0] (by decide) rfl
  · obtain rfl:k=l.length:=by omega
    rw[List.drop_length]at i4
    try refine GA ?_
    subst i4;exact b9 rfl rfl fun w hm=>hm.bP (S:=oz gm _) (m,n) ⟨i3,by show n<=60;omega⟩ [0] (by decide) rfl
end bK
namespace bK
open Go.RowKit bO dc bW eG gh Go.ChangeShapes Go.WideShapes Go.ChangeAt
set_option maxRecDepth 100000
theorem yX{α:Type}{s:sC α}{is:List Value->α->Prop}{w:World}{v:Value}{l:List α}(h:Rp w is s.c v l)(hi:∀cs a,is cs a->s.is (ng w) w cs a)(h0:0<s.c):iB s (ng w) w v l:=by
 obtain⟨base,cap,h1,h2,h3,h4⟩:=h;refine⟨base,cap,h1,h2,h3,fun hl=>?_⟩;obtain⟨b,off,h5,h6⟩:=h4 hl;refine⟨b,off,h5,?_,fun i lg=>let ⟨cs,h7,h8⟩:=h6 i lg;⟨cs,hi _ _ h7,h8⟩⟩;obtain⟨cs,h7,h8⟩:=h6 0 hl;have hlen:=s.len (hi _ _ h7);have hc:=h8 0 (cs[0]'(by omega)) (List.getElem?_eq_getElem (by omega));exact World.block_lt_of_cell? w _ hc
theorem FF{H:Type}{M:R4 Tryz.prog H}{enc0:TypeId×Value->H}{W:World}:iz M enc0 W 122 (fun cs x=>tE.is (ng W) W cs x):=fun fuel cs x h hm=>by
 obtain⟨hl,Jr⟩:=t' Tryz.underlying122 h hm;have hl7:cs.length=7:=hl;obtain⟨n,⟨e0,n1⟩,-⟩:=Jr 0 _ rfl (rI Tryz.underlying9);obtain⟨r,h1⟩:=Jr 1 _ rfl (fun fuel=>xQ (M:=M) (enc0:=enc0) (W:=W) fuel fuel (Nat.le_refl _))
 replace e0:(cs.drop 0).take 1=[str n]:=e0
 replace h1:ic (ng W) W ((cs.drop 1).take 6) r:=h1
 refine⟨(n,r),[str n],(cs.drop 1).take 6,?_,⟨rfl,n1⟩,h1⟩;rw[<-e0];have e:(cs.drop 1).take 6=cs.drop 1:=List.take_of_length_le (by rw[List.length_drop];omega);rw[e,List.drop_zero,List.take_append_drop]
theorem FH{H:Type}{M:R4 Tryz.prog H}{enc0:TypeId×Value->H}{W:World}:iz M enc0 W 124 (fun cs x=>Bw.is (ng W) W cs x/\M.lim 9 x.2.length):=fun fuel cs x h hm=>by
 obtain⟨hl,Jr⟩:=t' Tryz.underlying124 h hm;have Ca:cs.length=2:=hl;obtain⟨n,⟨e0,n1⟩,-⟩:=Jr 0 _ rfl (rI Tryz.underlying9);obtain⟨l,⟨v,e1,hs⟩,xF⟩:=Jr 1 _ rfl (nV (c:=1) Tryz.underlying90 (by kernel_rfl) (by decide) (rI Tryz.underlying9) fun cs a h=>by rw[h.1.1];rfl)
 replace e0:(cs.drop 0).take 1=[str n]:=e0
 replace e1:(cs.drop 1).take 1=[v]:=e1
 refine⟨(n,l),⟨[str n],[v],?_,⟨rfl,n1⟩,v,rfl,yX (s:=K') hs (fun cs a h=>⟨h.1.1,h.1.2⟩) (by decide)⟩,xF⟩
 match cs,Ca with
 |[x,y],_=>
  simp only[List.drop_succ_cons,List.drop_zero,List.take_succ_cons,List.take_zero,List.cons.injEq,and_true]at e0 e1;subst e0 e1;rfl
theorem FI{H:Type}{M:R4 Tryz.prog H}{enc0:TypeId×Value->H}{W:World}:iz M enc0 W 25 (fun cs s=>Mq (ng W) W (.agg cs.toArray) s/\∀r∈s.rules,M.lim 9 r.2.length):=fun fuel cs x h hm=>by
 obtain⟨hl,Jr⟩:=t' Tryz.underlying25 h hm;have Ca:cs.length=2:=hl;obtain⟨ws,⟨vw,e0,h0⟩,-⟩:=Jr 0 _ rfl (nV (c:=7) Tryz.underlying22 (by kernel_rfl) (by decide) FF fun cs a h=>tE.len h);obtain⟨rs,⟨vr,e1,h1⟩,-⟩:=Jr 1 _ rfl (nV (c:=2) Tryz.underlying23 (by kernel_rfl) (by decide) FH fun cs a h=>Bw.len h.1)
 replace e0:(cs.drop 0).take 1=[vw]:=e0
 replace e1:(cs.drop 1).take 1=[vr]:=e1
 refine⟨⟨ws,rs⟩,⟨vw,vr,?_,yX (s:=tE) h0 (fun cs a h=>h) (by decide),yX (s:=Bw) h1 (fun cs a h=>h.1) (by decide)⟩,fun r hr=>?_⟩
 ·match cs,Ca with
  |[x,y],_=>
   simp only[List.drop_succ_cons,List.drop_zero,List.take_succ_cons,List.take_zero,List.cons.injEq,and_true]at e0 e1;subst e0 e1;rfl
 ·obtain⟨i,hi,rfl⟩:=List.mem_iff_getElem.1 hr
  have hi:i<rs.length:=hi;obtain⟨base,cap,_,_,_,h4⟩:=h1;obtain⟨b,off,_,h6⟩:=h4 (by omega);obtain⟨cs,h7,_⟩:=h6 i hi;exact h7.2
end bK
namespace bK
open Go.RowKit bO dc bW eG gh Go.ChangeShapes Go.WideShapes Go.ChangeAt
set_option maxRecDepth 100000
theorem Il{H:Type}{enc0:TypeId×Value->H}{W:World}{base:Nat}{v:Value}{d:DataW H}{ps:List MemPlace}(hv:Value.okWide Tryz.prog W .any base 25 v)(h:DataW.Trod enc0 Tryz.prog W 0 (fun _=>true) true 25 v d ps){ts:List TypeId}{ds:List (DataW H)}(hsz:(DataW.weightsEach Tryz.prog ts ds).all (· <=reachBytes)=true)(j:Nat)(hj:ts[j]?=some 25)(hd:ds[j]?=some d):
 ∃s:Sp,Mq (ng W) W v s/\∀r∈s.rules,r.2.length*16<=140737488351232:=by
 obtain⟨cs,s,rfl,h1,h2⟩:=NY (M:=Ji Tryz.prog H) Tryz.underlying25 hv h FI (D9 hsz j hj hd);rw[Array.toArray_toList]at h1;exact⟨s,h1,h2⟩
end bK
namespace bK
open Go.RowKit bO dc aB
theorem FJ(k q:Int)(w:World):(Instr.build 148 #[(0,.int .i64 k),(1,.int .i64 q)]).run Tryz.prog w= .ok (.agg #[.int .i64 k,.int .i64 q]) w:=by
 go_simp
end bK
namespace bK
open Go.RowKit bO dc sW bT
def sj(R:List Row)(tags:List Int):List Row:=if iL R tags=0 then(jR (du R tags) (b_ (du R tags))).2 else []
def sk(R:List Row)(tags:List Int):List Int:=if iL R tags=0 then(jR (du R tags) (b_ (du R tags))).1.map (du R tags).tag else []
theorem Kc{R:List Row}{tags:List Int}(h:iL R tags=0):(sj R tags).length=(sk R tags).length/\(sj R tags).length=(l5 (du R tags)).n:=by
 obtain⟨hA,_⟩:=kO h;have:=(yI (bl:=b_ (du R tags)) hA).2.len;unfold sj sk;rw[if_pos h,if_pos h,List.length_map];exact⟨this,this⟩
theorem Kd{R:List Row}{tags:List Int}(h:iL R tags=0):du (sj R tags) (sk R tags)=l5 (du R tags):=by
 have hl:=(Kc h).2;have e1:sj R tags=(jR (du R tags) (b_ (du R tags))).2:=if_pos h;have e2:sk R tags=(jR (du R tags) (b_ (du R tags))).1.map (du R tags).tag:=if_pos h;show oZ.mk (sj R tags).length _ _=_
 rw[hl];rw[e1,e2];rfl
theorem w8{R:List Row}{tags:List Int}(h:iL R tags=0):iL (sj R tags) (sk R tags)=0:=by
 refine CV ?_ (Kc h).1.symm;rw[Kd h];exact wX (kO h).1
def qq(bl:Nat->Nat)(Q:List Nat)(b:Nat):Int:=if b∈Q.map bl then(idx (Q.map bl) b:Int)+1 else 0
theorem PP{bl:Nat->Nat}{Q:List Nat}{q:Nat}(hn:bl q∉Q.map bl)(b:Nat):qq bl (Q++[q]) b=if b=bl q then(Q.length:Int)+1 else qq bl Q b:=by
 unfold qq;rw[List.map_append,List.map_singleton]
 by_cases c:b=bl q
 ·subst c
  rw[if_pos (by simp),if_pos rfl];have:=nh (D:=Q.map bl) (k:=bl q);unfold more at this;rw[if_neg hn,if_neg hn]at this;rw[this,List.length_map]
 ·rw[if_neg c]
  by_cases c2:b∈Q.map bl
  ·rw[if_pos c2,if_pos (List.mem_append_left _ c2),mC c2]
  ·rw[if_neg c2,if_neg]
   rw[List.mem_append,List.mem_singleton];rintro(h|h)
   ·exact c2 h
   ·exact c h
def uE(l:List Int):Row:=Vector.ofFn fun b:Fin 256=>if b<l.length then l.getD b 0 else-1
theorem PQ:uE []=Vector.replicate 256 (-1):=by
 refine Vector.ext fun j hj=>?_;unfold uE;simp
theorem PR{l:List Int}(h:l.length=256):uE l=vec l:=by
 refine Vector.ext fun j hj=>?_;unfold uE vec;simp[h,hj]
theorem yY(l:List Int)(x:Int)(h:l.length<256):(uE l).set l.length x=uE (l++[x]):=by
 refine Vector.ext fun j hj=>?_;unfold uE;rw[Vector.getElem_set,Vector.getElem_ofFn,Vector.getElem_ofFn];simp only[List.length_append,List.length_singleton];split
 ·rename_i e;subst e
  rw[if_pos (by omega),jm (Nat.le_refl _),Nat.sub_self];rfl
 ·by_cases c:j<l.length
  ·rw[if_pos c,if_pos (by omega),fX c]
  ·rw[if_neg c,if_neg (by omega)]
theorem Ms(l:List Int)(h:l.length<256):uE (l++[-1])=uE l:=by
 rw[<-yY l (-1) h];refine Vector.ext fun j hj=>?_;rw[Vector.getElem_set];split
 ·rename_i e;subst e;unfold uE;simp
 ·rfl
structure PT(R:List Row)(tags:List Int)(f n:Nat)(Q:List Nat)(out:List Row):Prop where
 eq:jR (du R tags) (b_ (du R tags))=rq (du R tags) (b_ (du R tags)) f n Q out
 ok:Ma (du R tags) (b_ (du R tags)) Q
 outs:Mb (du R tags) (b_ (du R tags)) n Q out
 fuel:(du R tags).n+1<=f+n
theorem ZI{R:List Row}{tags:List Int}(hA:(du R tags).Ok):PT R tags (R.length+1) 0 [0] []:=⟨rfl,Zn hA,⟨rfl,Nat.zero_le _,fun k hk=>by omega⟩,Nat.le_refl _⟩
theorem Mt{R:List Row}{tags:List Int}(hA:(du R tags).Ok){f n:Nat}{Q:List Nat}{out:List Row}(h:PT R tags f n Q out)(hn:n<Q.length):∃f',f=f'+1/\PT R tags f' (n+1) (iP (du R tags) (b_ (du R tags)) (Q.getD n 0) Q 256).1 (out++[vec (iP (du R tags) (b_ (du R tags)) (Q.getD n 0) Q 256).2]):=by
 have h1:=h.ok.len;have h2:=h.fuel;obtain⟨f',rfl⟩:∃f',f=f'+1:=⟨f-1,by omega⟩;have e:=h.eq;unfold rq at e;rw[if_pos hn]at e;exact⟨f',rfl,e,wW hA h.ok (h.ok.lt _ (qh hn)) 256 (Nat.le_refl _),Bi hA h.outs hn,by omega⟩
theorem PU{R:List Row}{tags:List Int}{f n:Nat}{Q:List Nat}{out:List Row}(h:PT R tags f n Q out)(hn:¬n<Q.length):jR (du R tags) (b_ (du R tags))=(Q,out)/\n=Q.length:=by
 have h1:=h.outs.le;refine⟨?_,by omega⟩;rw[h.eq]
 cases f with
 |zero=>rfl
 |succ f=>unfold rq;rw[if_neg hn]
def TA(R:List Row)(tags:List Int):Spec (Value×Value):=⟨fun _=>True,fun x=> .tuple #[fA x.1 x.2,.int .i64 (iL R tags)],fun x=>[aM 257 256 x.1 (sj R tags).length ((sj R tags).flatMap dA),aM 3 1 x.2 (sk R tags).length ((sk R tags).flatMap bO.dB)]⟩
theorem Im(w:World):(Instr.build 186 #[]).run Tryz.prog w= .ok (fA (.slice none 0 0) (.slice none 0 0)) w:=by kernel_rfl
set_option maxRecDepth 100000 in
theorem Ai(vr vt:Value)(R:List Row)(tags:List Int)(w:World)(h:Ae w vr vt R tags):
    Calls Tryz.prog 78 #[fA vr vt] w (bM (TA R tags) w):=by
  have gd:=fun w' (hg:Gr w w')=>yM vr vt R tags w' (h.gr hg);have Li:=fun w' (hg:Gr w w') hc=>CX vr vt R tags w' (h.gr hg) hc;obtain⟨bt,ct,rfl,US,Om,DH⟩:=h.hT;obtain⟨br,cr,rfl,Rr,qE,xS⟩:=h.hR;have TB:=h.Va;unfold maxLen at qE Om;clear h
  by_cases hc:iL R tags=0
  · obtain⟨hA,hlt⟩:=kO hc
    have hbo:=AR hA;have en:(du R tags).n=R.length:=rfl;have uz:0<R.length:=hA.pos;have hle:R.length<=200:=hA.le;obtain⟨b,off,rfl,hr⟩:=xS uz;obtain⟨bb,lc,rfl,hrt⟩:=DH (by omega);clear xS DH;unfold TA;have er:sj R tags=(jR (du R tags) (b_ (du R tags))).2:=if_pos hc;have et:sk R tags=(jR (du R tags) (b_ (du R tags))).1.map (du R tags).tag:=if_pos hc;rw[er,et];clear er et;have ZJ:=hbo.le 0 uz;rw[en]at ZJ;rw[hc]at gd⊢;refine enter (args:=[fA (.slice (some ⟨b,off,none⟩) R.length cr) (.slice (some ⟨bb,lc,none⟩) tags.length ct)]) (n:=113) Tryz.func78 rfl rfl rfl ?_;refine a8 (aL (a_ rfl rfl rfl fun g1=>?_));refine aK rfl fun g2=>?_;refine zL ?_
    repeat(first|refine GA ?_|refine gV (J ak.ty rfl (ah (i:=0) rfl rfl)) ?_|refine gV (az (i:=0) ak.ty rfl rfl rfl) ?_)
    refine aI (jc aj.en rfl rfl) (fun w hm=>gd _ hm.below) rfl rfl rfl ?_;intro _ _
    repeat(first|refine GA ?_|refine gV (az (i:=0) ak.ty rfl rfl rfl) ?_)
    refine aI (jc aj.en rfl rfl) (fun w hm=>Li _ hm.below hc) rfl rfl rfl ?_;intro g5 _;refine zL ?_
    repeat(first|refine GA ?_|refine gV (J ak.ty rfl (ah (i:=0) rfl rfl)) ?_)
    refine lC (m:=R.length+1) ja 0 (by rfl) (by rfl) (by omega) (by omega) rfl fun g6=>?_;refine zL ?_
    try refine GA ?_
    refine aK rfl fun g7=>?_;refine zL ?_
    try refine GA ?_
    refine eM rfl rfl rfl rfl rfl fun g8=>?_;refine zL ?_;refine sL (i:=5) (m:=1) 1 rfl rfl (by decide) ?_;refine zL ?_
    repeat(first|refine GA ?_|refine gV (bx (j:=0) aT.eq ak.ty rfl rfl uz) ?_|refine gV (J ak.ty rfl (eD (i:=2) rfl uz)) ?_|refine gV (bx (j:=b_ (du R tags) 0) aT.eq ak.ty rfl rfl (by omega)) ?_)
    refine fF (i:=3) (off:=b_ (du R tags) 0) (v:=1) (qq (b_ (du R tags)) [0]) ak.ty rfl rfl rfl rfl rfl (by omega) (fun j hj=>?_) ?_
    · by_cases e:j=b_ (du R tags) 0
      · subst e;simp[qq,idx]
      · rw[if_neg e];unfold qq;rw[if_neg (by simpa using e)]
    refine zL ?_
    try refine GA ?_
    refine g_ 257 256 ?_;refine g_ 3 1 ?_
    conv=>arg 7;simp only[zA,zB,zC,zD,zE,zF,zG,zH,zI,bZ,ret,id_eq]
    have rN:=ZI (tags:=tags) hA;have iO:=fun f n Q out=>@PU R tags f n Q out;have jX:=fun f n Q out=>@Mt R tags hA f n Q out;have abk:=hbo.le;clear ZJ hbo Li gd;generalize abl:b_ (du R tags)=jN at*;refine dv (ι:=Nat×Nat×List Nat×List Row×Value×Value×Value) (fun(f,n,Q,out,_)=>PT R tags f n Q out) (fun(_,n,_,_,vQ,_,_)=>[(1,.pointer (some ⟨g1,0,none⟩)),(2,.pointer (some ⟨g2,0,none⟩)),(5,.slice (some ⟨g5,0,none⟩) R.length R.length),(6,.slice (some ⟨g6,0,none⟩) (R.length+1) (R.length+1)),(7,.pointer (some ⟨g7,0,none⟩)),(8,vQ),(9,.int .i64 (n:Int))])
      (fun(_,n,Q,out,vQ,vR,vT)=>[aw g1 (fA (.slice (some ⟨b,off,none⟩) R.length cr) (.slice (some ⟨bb,lc,none⟩) tags.length ct)).cells 186,aw g2 (fA (.slice none 0 0) (.slice none 0 0)).cells 186,dU 3 ja g5 R.length fun i=>(jN i:Int),dU 3 ja g6 (R.length+1) (qq jN Q),aw g7 (fA vR vT).cells 186,aM 3 1 vQ Q.length (Q.map fun q:Nat=>ja q),aM 257 256 vR out.length (out.flatMap dA),aM 3 1 vT n (((Q.take n).map (du R tags).tag).flatMap bO.dB)]) (fun(f,_)=>f) (R.length+1,0,[0],[],.slice (some ⟨g8,0,none⟩) 1 1,.slice none 0 0,.slice none 0 0) rN ?_
    rintro⟨f,n,Q,out,vQ,vR,vT⟩ hw;dsimp only at hw⊢;have hQ:=hw.ok;have hQl:=hQ.len;have ab7:=hw.outs.len;rw[abl]at hQ;rw[en]at hQl
    by_cases c1:n<Q.length
    · obtain⟨f',rfl,pc⟩:=jX _ _ _ _ hw c1
      have hq:=hQ.lt _ (qh c1);have hqc:(Q.map fun q:Nat=>ja q)[0+n]?=some (ja (Q.getD n 0)):=by rw[Nat.zero_add,List.getElem?_map,List.getD_eq_getElem?_getD,List.getElem?_eq_getElem c1];rfl
      rw[en]at hq;have mY:=vB (-1);have X4:=fun k hk=>wW (bl:=jN) hA hQ (q:=Q.getD n 0) (by rw[en];exact hq) k hk;have W_:=CU (A:=du R tags) (bl:=jN) (Q.getD n 0) Q;have CA:=CT (A:=du R tags) (bl:=jN) (Q.getD n 0) Q;have hst:∀k,k<256->St (du R tags) ((du R tags).d (Q.getD n 0) k):=fun k hk=>hA.step _ hq k hk;have hd:∀(k:Nat) (hk:k<256),(du R tags).d (Q.getD n 0) k=(R[Q.getD n 0]'hq)[k]:=fun k hk=>Fi hq hk;have C6:Q.getD n 0<tags.length:=by omega
      have RA:(du R tags).tag (Q.getD n 0)=tags[Q.getD n 0]'C6:=tC C6;have Io:=fun(L:List bI)=>eN (W:=w) (L:=L) cH hr hq;have FK:=fun(L:List bI)=>eN (W:=w) (L:=L) (c:=1) (f:=bO.dB) (fun _=>rfl) hrt C6 0 _ rfl;have hQn:Q.getD n 0=Q[n]:=by rw[List.getD_eq_getElem?_getD,List.getElem?_eq_getElem c1];rfl
      clear iO jX hw;generalize hqq:Q.getD n 0=q at*;generalize SH:R[q]=r at*
      repeat(first|refine GC ?_|refine gV (cJ (i:=5) aT.eq rfl rfl) ?_|refine GB ?_)
      refine aI (jc aj.en rfl rfl) (fun w hm=>mY _) rfl rfl rfl ?_;intro _ _
      try refine GA ?_
      refine aK rfl fun g10=>?_;refine zL ?_;refine aE (i:=8) (cs':=(dA (Vector.replicate 256 (-1))).toArray) rfl rfl rfl (by rw[List.size_toArray,cH]) (by simpa using nu (Vector.replicate 256 (-1))) (by kernel_rfl) ?_;refine zL ?_
      try refine GA ?_
      refine rM (i:=5) rfl (by omega) fun gQ cQ hv hcQ ab8=>?_;subst hv
      (repeat refine a8 ?_)
      refine cU ([aw g1 (fA (.slice (some ⟨b,off,none⟩) R.length cr) (.slice (some ⟨bb,lc,none⟩) tags.length ct)).cells 186,aM 3 1 (.slice (some ⟨gQ,0,none⟩) Q.length cQ) Q.length (Q.map fun q:Nat=>ja q)]) (.calm 0 (.calm 1 (.calm 2 (.calm 3 (.calm 4 (.calm 5 (.calm 6 (.calm 7 (.calm 8 (.done)))))))))) (bz [0,5]) ?_
      repeat(first|refine GW ?_|(refine GN ?_;first|refine QW (J ak.ty rfl (ah (i:=0) rfl rfl)) ?_|refine QW (bx (j:=n) aT.eq ak.ty rfl rfl c1) ?_|refine QW (J ak.ty rfl (ix (i:=1) rfl hqc)) ?_|refine QW (aC (j:=q) aT.eq ak.ty rfl rfl hq) ?_|refine QW (aH ak.ty rfl (cH r) (Io _)) ?_))
      try refine GA ?_
      rw[<-PQ];refine oX [0,1,2,3,4,6,7,8,5] ?_;refine dv (ι:=Nat×Value) (fun(k,_)=>k<=256) (fun(k,vK)=>[(1,.pointer (some ⟨g1,0,none⟩)),(2,.pointer (some ⟨g2,0,none⟩)),(5,.slice (some ⟨g5,0,none⟩) R.length R.length),(6,.slice (some ⟨g6,0,none⟩) (R.length+1) (R.length+1)),(7,.pointer (some ⟨g7,0,none⟩)),(8,vK),(9,.int .i64 (n:Int)),(10,.pointer (some ⟨g10,0,none⟩)),(46,wt r),(47,.int .i64 (k:Int))])
        (fun(k,vK)=>[aw g1 (fA (.slice (some ⟨b,off,none⟩) R.length cr) (.slice (some ⟨bb,lc,none⟩) tags.length ct)).cells 186,aw g2 (fA (.slice none 0 0) (.slice none 0 0)).cells 186,dU 3 ja g5 R.length fun i=>(jN i:Int),dU 3 ja g6 (R.length+1) (qq jN (iP (du R tags) jN q Q k).1),aw g7 (fA vR vT).cells 186,aM 257 256 vR out.length (out.flatMap dA),aM 3 1 vT n (((Q.take n).map (du R tags).tag).flatMap bO.dB),aw g10 (dA (uE (iP (du R tags) jN q Q k).2)).toArray 257,aM 3 1 vK (iP (du R tags) jN q Q k).1.length ((iP (du R tags) jN q Q k).1.map fun q:Nat=>ja q)]) (fun(k,_)=>256-k) (0,.slice (some ⟨gQ,0,none⟩) Q.length cQ) (Nat.zero_le _) ?_
      rintro⟨k,vK⟩ hk;dsimp only at hk⊢
      by_cases c2:k<256
      · have hcell:(dA r).toArray[k]?=some (.int .i16 r[k]):=by rw[List.getElem?_toArray];exact l6 r c2
        have hx:=hd k c2;have hsx:=hst k c2;have jZ:=X4 k hk;have hlen:=CA k;have Aj:=(Ff jZ hsx).len;have jX:iP (du R tags) jN q Q (k+1)=((lZ jN (iP (du R tags) jN q Q k).1 ((du R tags).d q k)).1,(iP (du R tags) jN q Q k).2++[(lZ jN (iP (du R tags) jN q Q k).1 ((du R tags).d q k)).2]):=rfl;rw[hx]at jX hsx Aj;clear hx hst X4 W_ CA hd Io FK;generalize r[k]=x at*;generalize iP (du R tags) jN q Q k=RQ at*;obtain⟨Qk,vk⟩:=RQ;dsimp only at jZ hlen Aj jX⊢;subst hlen;unfold St at hsx;rw[en]at hsx
        by_cases c3:val jN x=0
        · have e:lZ jN Qk x=(Qk,-1):=by unfold lZ;rw[if_pos c3]
          rw[e]at jX;have PV:∀(S:List bI),S=[aw g1 (fA (.slice (some ⟨b,off,none⟩) R.length cr) (.slice (some ⟨bb,lc,none⟩) tags.length ct)).cells 186,aw g2 (fA (.slice none 0 0) (.slice none 0 0)).cells 186,dU 3 ja g5 R.length fun i=>(jN i:Int),dU 3 ja g6 (R.length+1) (qq jN Qk),aw g7 (fA vR vT).cells 186,aM 257 256 vR out.length (out.flatMap dA),aM 3 1 vT n (((Q.take n).map (du R tags).tag).flatMap bO.dB),aw g10 (dA (uE vk)).toArray 257,aM 3 1 vK Qk.length (Qk.map fun q:Nat=>ja q)]->S=[aw g1 (fA (.slice (some ⟨b,off,none⟩) R.length cr) (.slice (some ⟨bb,lc,none⟩) tags.length ct)).cells 186,aw g2 (fA (.slice none 0 0) (.slice none 0 0)).cells 186,dU 3 ja g5 R.length fun i=>(jN i:Int),dU 3 ja g6 (R.length+1) (qq jN (iP (du R tags) jN q Q (vk.length+1)).1),aw g7 (fA vR vT).cells 186,aM 257 256 vR out.length (out.flatMap dA),aM 3 1 vT n (((Q.take n).map (du R tags).tag).flatMap bO.dB),aw g10 (dA (uE (iP (du R tags) jN q Q (vk.length+1)).2)).toArray 257,aM 3 1 vK (iP (du R tags) jN q Q (vk.length+1)).1.length ((iP (du R tags) jN q Q (vk.length+1)).1.map fun q:Nat=>ja q)]:=fun S h=>by
            rw[jX];dsimp only;rw[Ms vk c2];exact h
          by_cases c4:x<0
          · repeat(first|refine GA ?_|refine gV (fV aT.eq ak.ty rfl rfl c2 hcell) ?_)
            exact fH (vk.length+1,vK) (by show vk.length+1<=256;omega) (by show 256-(vk.length+1)<256-vk.length;omega) (by repeat' (first|exact True.intro|refine And.intro rfl ?_)) (PV _ rfl)
          · obtain⟨m,rfl⟩:∃m:Nat,x=m:=⟨x.toNat,by omega⟩
            have hm:m<R.length:=by omega
            rw[tB]at c3
            repeat(first|refine GC ?_|refine gV (fV aT.eq ak.ty rfl rfl c2 hcell) ?_|refine gV (bx (j:=m) aT.eq ak.ty rfl rfl hm) ?_|refine gV (J ak.ty rfl (eD (i:=2) rfl hm)) ?_|refine gV (bL (b:=true) rfl rfl (decide_eq_true (by omega))) ?_|refine GB ?_)
            exact fH (vk.length+1,vK) (by show vk.length+1<=256;omega) (by show 256-(vk.length+1)<256-vk.length;omega) (by repeat' (first|exact True.intro|refine And.intro rfl ?_)) (PV _ rfl)
        · have c4:¬x<0:=fun e=>c3 (by unfold val;rw[if_pos e])
          obtain⟨m,rfl⟩:∃m:Nat,x=m:=⟨x.toNat,by omega⟩;have hm:m<R.length:=by omega
          rw[tB]at c3;have hbm:=abk m hm;rw[en]at hbm;have e:lZ jN Qk (m:Int)=(yH jN Qk (m:Int),(idx ((yH jN Qk (m:Int)).map jN) (jN m):Int)):=by unfold lZ;rw[tB,if_neg c3,Int.toNat_natCast]
          rw[e]at jX Aj;dsimp only at Aj jX;rw[en]at Aj;unfold yH at jX Aj;rw[Int.toNat_natCast]at jX Aj
          by_cases c5:jN m∈Qk.map jN
          · rw[if_pos c5]at jX Aj
            have hid:=iX c5;rw[List.length_map]at hid;have PW:qq jN Qk (jN m)=(idx (Qk.map jN) (jN m):Int)+1:=by unfold qq;rw[if_pos c5]
            generalize idx (Qk.map jN) (jN m)=z at*
            repeat(first|refine GC ?_|refine gV (fV aT.eq ak.ty rfl rfl c2 hcell) ?_|refine gV (bx (j:=m) aT.eq ak.ty rfl rfl hm) ?_|refine gV (J ak.ty rfl (eD (i:=2) rfl hm)) ?_|refine gV (bL (b:=false) rfl rfl (decide_eq_false (by omega))) ?_|refine gV (bx (j:=jN m) aT.eq ak.ty rfl rfl (by omega)) ?_|refine gV (J ak.ty rfl (eD (i:=3) rfl (show jN m<R.length+1 by omega))) ?_|refine gV (df (r:=(z:Int)) rfl rfl (by omega) (by omega) (by omega)) ?_|refine gV (fI aT.eq aT.eq rfl (H_ (by omega) (by omega))) ?_|refine gV (e_ aT.eq ak.ty rfl rfl c2) ?_|refine GB ?_)
            refine nv (i:=7) rfl rfl rfl c2 ?_;rw[yY vk z c2];refine zL ?_
            try refine GA ?_
            exact bB (vk.length+1,vK) (by show vk.length+1<=256;omega) (by show 256-(vk.length+1)<256-vk.length;omega) (hl:=by dsimp only;rw[jX])
          · rw[if_neg c5]at jX Aj
            have PW:qq jN Qk (jN m)=0:=by unfold qq;rw[if_neg c5]
            have Ab:=PP (q:=m) c5;have ZK:qq jN (Qk++[m]) (jN m)=(Qk.length:Int)+1:=by rw[Ab,if_pos rfl]
            have WC:idx ((Qk++[m]).map jN) (jN m)=Qk.length:=by
              have h1:=ZK;unfold qq at h1;rw[if_pos (by simp)]at h1;omega
            rw[WC]at jX;rw[List.length_append,List.length_singleton]at Aj
            repeat(first|refine GC ?_|refine gV (fV aT.eq ak.ty rfl rfl c2 hcell) ?_|refine gV (bx (j:=m) aT.eq ak.ty rfl rfl hm) ?_|refine gV (J ak.ty rfl (eD (i:=2) rfl hm)) ?_|refine gV (bL (b:=false) rfl rfl (decide_eq_false (show ¬(jN m:Int)=0 by omega))) ?_|refine gV (bx (j:=jN m) aT.eq ak.ty rfl rfl (by omega)) ?_|refine gV (J ak.ty rfl (eD (i:=3) rfl (show jN m<R.length+1 by omega))) ?_|refine gV (bL (b:=true) rfl rfl (decide_eq_true PW)) ?_|refine gV (fI aT.eq aT.eq rfl (kq (by omega) (by omega))) ?_|refine GB ?_)
            refine je (i:=8) rfl rfl rfl rfl rfl rfl (fun z h=>by cases h;rfl) (by omega) (by omega) rfl fun z v2=>?_;refine zL ?_
            repeat(first|refine GC ?_|refine gV (bx (j:=m) aT.eq ak.ty rfl rfl hm) ?_|refine gV (J ak.ty rfl (eD (i:=2) rfl hm)) ?_|refine gV (bx (j:=jN m) aT.eq ak.ty rfl rfl (by omega)) ?_|refine gV (cJ (i:=8) aT.eq rfl rfl) ?_|refine GB ?_)
            refine fF (i:=3) (off:=jN m) (v:=((Qk.length+1:Nat):Int)) (qq jN (Qk++[m])) ak.ty rfl rfl rfl rfl rfl (by omega) (fun j hj=>by rw[Ab];rfl) ?_;refine zL ?_
            repeat(first|refine GC ?_|refine gV (bx (j:=m) aT.eq ak.ty rfl rfl hm) ?_|refine gV (J ak.ty rfl (eD (i:=2) rfl hm)) ?_|refine gV (bx (j:=jN m) aT.eq ak.ty rfl rfl (by omega)) ?_|refine gV (J ak.ty rfl (eD (i:=3) rfl (show jN m<R.length+1 by omega))) ?_|refine gV (df (r:=(Qk.length:Int)) rfl rfl (by omega) (by omega) (by omega)) ?_|refine gV (fI aT.eq aT.eq rfl (H_ (by omega) (by omega))) ?_|refine gV (e_ aT.eq ak.ty rfl rfl c2) ?_|refine GB ?_)
            refine nv (i:=7) rfl rfl rfl c2 ?_;rw[yY vk (Qk.length:Int) c2];refine zL ?_
            try refine GA ?_
            exact bB (vk.length+1,v2) (by show vk.length+1<=256;omega) (by show 256-(vk.length+1)<256-vk.length;omega) (hl:=by dsimp only;rw[jX];simp)
      · obtain rfl:k=256:=by omega
        have jZ:=(X4 256 (Nat.le_refl _)).len;obtain⟨E,hE⟩:=W_ 256;have hv:=CA 256;clear X4 W_ CA hst hd Io;generalize iP (du R tags) jN q Q 256=RQ at*;obtain⟨Qe,ve⟩:=RQ;dsimp only at jZ hE hv pc⊢;subst hE;rw[PR hv];rw[en]at jZ;have hqe:((Q++E).map fun q:Nat=>ja q)[0+n]?=some (ja q):=by
          rw[Nat.zero_add,List.getElem?_map,List.getElem?_append_left c1,List.getElem?_eq_getElem c1,<-hQn];rfl
        have H3:(((Q++E).take (n+1)).map (du R tags).tag).flatMap bO.dB=((Q.take n).map (du R tags).tag).flatMap bO.dB++[ja tags[q]]:=by
          rw[List.take_append_of_le_length (by omega),List.take_succ_eq_append_getElem c1,<-hQn,List.map_append,List.flatMap_append,List.map_singleton,List.flatMap_singleton,RA];rfl
        rw[List.length_append]at jZ;have ZL:n<(Q++E).length:=by rw[List.length_append];omega
        repeat(first|refine GA ?_|refine gV (J ak.ty rfl (ah (i:=4) rfl rfl)) ?_|refine gV (az (i:=7) ak.ty rfl rfl (by rw[List.size_toArray,cH])) ?_)
        refine iy (i:=5) rfl rfl (by rw[List.size_toArray,cH]) rfl (by simpa using nu (vec ve)) rfl rfl (fun z h=>by cases h;rfl) (by omega) (by omega) rfl fun z v2=>?_;refine zL ?_
        try refine GA ?_
        refine aD (i:=5) rfl fun oL tR=>?_;refine aW (i:=4) rfl rfl rfl oL tR rfl ?_;refine zL ?_
        try refine GA ?_
        refine rM (i:=8) rfl (by omega) fun gQ' cQ' Ob ab9 abK=>?_;subst Ob
        (repeat refine a8 ?_)
        refine cU ([aw g1 (fA (.slice (some ⟨b,off,none⟩) R.length cr) (.slice (some ⟨bb,lc,none⟩) tags.length ct)).cells 186,aM 3 1 (.slice (some ⟨gQ',0,none⟩) (Q++E).length cQ') (Q++E).length ((Q++E).map fun q:Nat=>ja q)]) (.calm 0 (.calm 2 (.calm 3 (.calm 4 (.calm 5 (.calm 6 (.calm 7 (.calm 8 (.calm 9 (.two 1 (.one 10 (.one 11 (.calm 12 (.one 13 (.done))))) 10 (.one 1 (.one 11 (.calm 12 (.one 13 (.done))))))))))))))) (bz [0,8]) ?_
        repeat(first|refine GW ?_|(refine GN ?_;first|refine QW (J ak.ty rfl (ah (i:=0) rfl rfl)) ?_|refine QW (bx (j:=n) aT.eq ak.ty rfl rfl ZL) ?_|refine QW (J ak.ty rfl (ix (i:=1) rfl hqe)) ?_|refine QW (aC (j:=q) aT.eq ak.ty rfl rfl C6) ?_|refine QW (J ak.ty rfl (FK _)) ?_))
        refine dE rfl rfl ?_ ?_
        · refine aV (J ak.ty rfl (ah (i:=4) rfl rfl)) rfl rfl rfl (av (bz [0,8]) ?_)
          refine ap rfl (eM rfl rfl rfl rfl rfl fun abm=>av (bz [0,8]) ?_);refine ap rfl (jd (i:=6) (q:=9) rfl rfl rfl rfl rfl rfl (by omega) (by omega) rfl fun v3=>av (bz [0,8]) ?_)
          try refine GW ?_
          refine ap rfl (aD (i:=6) rfl fun wh AA=>aW (i:=4) rfl rfl rfl wh AA rfl (av (bz [0,8]) ?_))
          try refine GW ?_
          try refine GA ?_
          refine cD [0,1,2,3,4,8,5,6] ?_;exact bB (f',n+1,Q++E,out++[vec ve],.slice (some ⟨gQ',0,none⟩) (Q++E).length cQ',v2,v3) pc (Nat.lt_succ_self f') (hl:=by dsimp only;rw[H3];simp;rfl)
        · refine eM rfl rfl rfl rfl rfl fun abm=>av (bz [0,8]) ?_
          refine ap rfl (aV (J ak.ty rfl (ah (i:=4) rfl rfl)) rfl rfl rfl (av (bz [0,8]) ?_));refine ap rfl (jd (i:=6) (q:=9) rfl rfl rfl rfl rfl rfl (by omega) (by omega) rfl fun v3=>av (bz [0,8]) ?_)
          try refine GW ?_
          refine ap rfl (aD (i:=6) rfl fun wh AA=>aW (i:=4) rfl rfl rfl wh AA rfl (av (bz [0,8]) ?_))
          try refine GW ?_
          try refine GA ?_
          refine cD [0,1,2,3,4,8,5,6] ?_;exact bB (f',n+1,Q++E,out++[vec ve],.slice (some ⟨gQ',0,none⟩) (Q++E).length cQ',v2,v3) pc (Nat.lt_succ_self f') (hl:=by dsimp only;rw[H3];simp;rfl)
    · obtain⟨e,rfl⟩:=iO _ _ _ _ hw c1
      rw[e]
      repeat(first|refine GC ?_|refine gV (cJ (i:=5) aT.eq rfl rfl) ?_|refine gV (az (i:=4) ak.ty rfl rfl rfl) ?_|refine GB ?_)
      refine aD (i:=6) rfl fun oL tR=>?_;refine aD (i:=7) rfl fun wh AA=>?_;refine aE (i:=1) (cs':=(fA vR vT).cells) rfl rfl rfl rfl (by show([vR,vT].all Value.oneCell')=true;simp[tR,AA]) rfl ?_;refine zL ?_
      try refine GA ?_
      refine da (i:=1) rfl rfl rfl rfl rfl fun w hm=>?_;exact hm.meets (S:=⟨fun(_:Value×Value)=>True,fun x=> .tuple #[fA x.1 x.2,.int .i64 0],fun x=>[aM 257 256 x.1 out.length (out.flatMap dA),aM 3 1 x.2 (Q.map (du R tags).tag).length ((Q.map (du R tags).tag).flatMap bO.dB)]⟩) (vR,vT) trivial [6,7] (by decide) (by simp)
  · have er:sj R tags=[]:=if_neg hc
    have et:sk R tags=[]:=if_neg hc;unfold TA;rw[er,et];generalize iL R tags=e at*;refine enter (args:=[fA (.slice br R.length cr) (.slice bt tags.length ct)]) (n:=113) Tryz.func78 rfl rfl rfl ?_;refine a8 (aL (a_ rfl rfl rfl fun g1=>?_));refine aK rfl fun g2=>?_;refine zL ?_
    repeat(first|refine GA ?_|refine gV (az (i:=0) ak.ty rfl rfl rfl) ?_)
    refine aI (jc aj.en rfl rfl) (fun w hm=>gd _ hm.below) rfl rfl rfl ?_;intro _ _
    repeat(first|refine GC ?_|refine gV (aP rfl Im) ?_|refine gV (bm (b:=true) rfl rfl (decide_eq_true hc)) ?_|refine GB ?_)
    refine fa 1 ?_;refine zL ?_
    try refine GA ?_
    refine dq 257 256 (dq 3 1 ?_);refine da (i:=1) rfl rfl rfl rfl rfl fun w hm=>?_;exact hm.meets (S:=⟨fun(_:Value×Value)=>True,fun x=> .tuple #[fA x.1 x.2,.int .i64 e],fun x=>[aM 257 256 x.1 0 [],aM 3 1 x.2 0 []]⟩) (.slice none 0 0,.slice none 0 0) trivial [2,3] (by decide) rfl
end bK
namespace bK
open Go.RowKit bO dc sW bT
theorem Ke{R:List Row}{tags:List Int}(h:iL R tags=0):(∀r∈R,∀x∈r.toList,-32768<=x/\x<=32767)/\∀x∈tags,bO.cV x:=by
 obtain⟨hA,hl⟩:=kO h;have hle:R.length<=200:=hA.le;refine⟨fun r hr x hx=>?_,fun x hx=>?_⟩
 ·obtain⟨i,hi,rfl⟩:=List.mem_iff_getElem.1 hr
  obtain⟨b,hb,rfl⟩:=List.mem_iff_getElem.1 hx;have GI:b<256:=by simpa using hb
  have:=hA.step i hi b GI;rw[Fi hi GI]at this;have e:(du R tags).n=R.length:=rfl;rw[Vector.getElem_toList];omega
 ·obtain⟨i,hi,rfl⟩:=List.mem_iff_getElem.1 hx
  have:=hA.tags i (by show i<R.length;omega);rw[tC hi]at this;exact⟨by omega,by omega⟩
theorem Mem.ZM{B:bC}{w:World}{L:List bI}{i j:Nat}{vr vt:Value}{R:List Row}{tags:List Int}(hm:Mem B L w)(hi:L[i]?=some (aM 257 256 vr R.length (R.flatMap dA)))(hj:L[j]?=some (aM 3 1 vt tags.length (tags.flatMap bO.dB)))(hc:iL R tags=0):Ae w vr vt R tags:=
 ⟨fW hi _ hm,fW hj _ hm,(Ke hc).1,(Ke hc).2⟩
theorem w9{R:List Row}{tags:List Int}{s:List UInt8}(h:iL R tags=0):jo R tags s=(tg (du R tags) (go (du R tags) 0 s),0):=if_pos h
theorem PX{R:List Row}{tags:List Int}{s:List UInt8}(h:iL R tags=0):jo (sj R tags) (sk R tags) s=(tg (du R tags) (go (du R tags) 0 s),0):=by
 rw[w9 (w8 h),Kd h,Mc (kO h).1]
end bK
namespace bK
open Go.RowKit bO dc sW bT
def ep(R:List Row)(i b:Nat):Int:=(R.getD i qi).toList.getD b 0
theorem nE{R:List Row}{i b:Nat}(h:i<R.length)(hb:b<256):ep R i b=(R[i])[b]:=Fi (tags:=[]) h hb
def Ak(R:List Row)(b k:Nat):wY:=Vector.ofFn fun i:Fin 200=>if i<k then ep R i b else 0
def mW(R:List Row)(b:Nat):wY:=Ak R b R.length
theorem Xa(R:List Row)(b:Nat):Ak R b 0=Vector.replicate 200 0:=by
 refine Vector.ext fun i hi=>?_;unfold Ak;simp
theorem PY(R:List Row)(b k:Nat)(h:k<200):(Ak R b k).set k (ep R k b)=Ak R b (k+1):=by
 refine Vector.ext fun i hi=>?_;unfold Ak;rw[Vector.getElem_set,Vector.getElem_ofFn,Vector.getElem_ofFn];split
 ·rename_i e;subst e;simp
 ·have:i<k↔i<k+1:=by omega
  simp only[this]
theorem TC(c:wY){i:Nat}(h:i<200)(x:Int):(sg c).toArray.setIfInBounds i (.int .i16 x)=(sg (c.set i x)).toArray:=by
 unfold sg;rw[Vector.toList_set,List.map_set];simp
theorem PZ:(List.replicate 200 (Value.int .i16 0)).toArray=(sg (Vector.replicate 200 0)).toArray:=by
 unfold sg;rw[Vector.toList_replicate,List.map_replicate]
theorem yZ(R:List Row)(b i:Nat)(h:i<R.length)(h2:R.length<=200):(mW R b).toList.getD i 0=ep R i b:=by
 unfold mW Ak;rw[List.getD_eq_getElem?_getD,List.getElem?_eq_getElem (by simp;omega),Option.getD_some,Vector.getElem_toList,Vector.getElem_ofFn];simp[h]
theorem TE{R:List Row}(hr:∀r∈R,∀x∈r.toList,-32768<=x/\x<=32767){b:Nat}(hb:b<256):Pt (mW R b):=by
 intro i hi;unfold mW Ak;rw[Vector.getElem_ofFn];dsimp only;split
 ·rename_i h
  rw[nE h hb];exact hr R[i] (List.getElem_mem h) _ (by rw[<-Vector.getElem_toList (h:=by simpa using hb)];exact List.getElem_mem _)
 ·omega
def jS(R:List Row)(k:Nat):List wY:=cP [] ((List.range k).map (mW R))
theorem tF(R:List Row)(k:Nat):jS R (k+1)=more (jS R k) (mW R k):=by
 unfold jS;rw[List.range_succ,List.map_append,List.map_singleton,iC]
theorem Kf{R:List Row}{k:Nat}(h:mW R k∈jS R k):jS R (k+1)=jS R k:=by
 rw[tF];exact if_pos h
theorem Kg{R:List Row}{k:Nat}(h:mW R k∉jS R k):jS R (k+1)=jS R k++[mW R k]:=by
 rw[tF];exact if_neg h
theorem w_(R:List Row):∀k,(jS R k).length<=k
 |0=>Nat.le_refl _
 |k+1=>by
  have:=w_ R k
  by_cases c:mW R k∈jS R k
  ·rw[Kf c];omega
  ·rw[Kg c,List.length_append,List.length_singleton];omega
theorem Kh(R:List Row)(k:Nat):∀j,k<=j->∃E,jS R j=jS R k++E
  |0,h=>⟨[],by obtain rfl:k=0:=(by omega);rw[List.append_nil]⟩
  | j +1,h=>by
    by_cases c:k=j+1
    · subst c;exact⟨[],by rw[List.append_nil]⟩
    · obtain⟨E,hE⟩:=Kh R k j (by omega)
      obtain⟨E',hE'⟩:=xK (jS R j) (mW R j);exact⟨E++E',by rw[tF,hE',hE,List.append_assoc]⟩
theorem xc(R:List Row){b k:Nat}(h:b<k):mW R b∈jS R k:=iD.2 (.inr (List.mem_map.2 ⟨b,by simpa using h,rfl⟩))
def P0(R:List Row)(b:Nat):Nat:=idx (jS R 256) (mW R b)
theorem Xb{R:List Row}{k:Nat}(h:k<256):P0 R k=if mW R k∈jS R k then idx (jS R k) (mW R k)else(jS R k).length:=by
 obtain⟨E,hE⟩:=Kh R (k+1) 256 (by omega);unfold P0;rw[hE,mC (xc R (Nat.lt_succ_self k)),tF,nh]
 by_cases c:mW R k∈jS R k
 ·rw[if_pos c,if_pos c]
 ·rw[if_neg c,if_neg c]
theorem P1(R:List Row){b:Nat}(h:b<256):P0 R b<(jS R 256).length:=iX (xc R h)
theorem Ki(R:List Row){b:Nat}(h:b<256):P0 R b<256:=Nat.lt_of_lt_of_le (P1 R h) (w_ R 256)
abbrev Of:=Vector Nat 256
def ph(R:List Row)(k:Nat):Of:=Vector.ofFn fun b:Fin 256=>if b<k then P0 R b else 0
theorem Vi(R:List Row):ph R 0=Vector.replicate 256 0:=by
 refine Vector.ext fun i hi=>?_;unfold ph;simp
theorem TF(R:List Row)(k:Nat)(h:k<256):(ph R k).set k (P0 R k)=ph R (k+1):=by
 refine Vector.ext fun i hi=>?_;unfold ph;rw[Vector.getElem_set,Vector.getElem_ofFn,Vector.getElem_ofFn];split
 ·rename_i e;subst e;simp
 ·have:i<k↔i<k+1:=by omega
  simp only[this]
def tW(D:List wY)(i:Nat):List Int:=D.map fun c=>c.toList.getD i 0
def Ip(R:List Row):List (List Int):=(List.range R.length).map (tW (jS R 256))
def fE(o:Of)(vn vt:Value):List Value:=o.toList.map (fun n:Nat=> .int .u8 (n:Int))++[vn,vt]
def GR(o:Of)(vn vt:Value):Value:= .agg (fE o vn vt).toArray
theorem iQ(o:Of)(vn vt:Value):(fE o vn vt).length=258:=by simp[fE]
theorem gU(o:Of)(vn vt:Value):(fE o vn vt).toArray.size=258:=by rw[List.size_toArray,iQ]
theorem ZN(o:Of)(vn vt:Value){b:Nat}(h:b<256):(fE o vn vt).toArray[b]?=some (.int .u8 (o[b]:Int)):=by
 rw[List.getElem?_toArray];unfold fE;rw[List.getElem?_append_left (by simpa using h),List.getElem?_map,List.getElem?_eq_getElem (by simpa using h),Vector.getElem_toList];rfl
theorem kw(o:Of)(vn vt:Value):(fE o vn vt).toArray[256]?=some vn:=by
 rw[List.getElem?_toArray];unfold fE;rw[List.getElem?_append_right (by simp)];simp
theorem kZ(o:Of)(vn vt:Value):(fE o vn vt).toArray[257]?=some vt:=by
 rw[List.getElem?_toArray];unfold fE;rw[List.getElem?_append_right (by simp)];simp
theorem sm(o:Of){vn vt:Value}(h1:vn.oneCell'=true)(h2:vt.oneCell'=true):(fE o vn vt).toArray.toList.all Value.oneCell'=true:=by
 refine List.all_eq_true.2 fun u hu=>?_;unfold fE at hu;simp only[List.mem_append,List.mem_map,List.mem_cons,List.not_mem_nil,or_false]at hu;rcases hu with⟨n,_,rfl⟩|rfl|rfl
 ·rfl
 ·exact h1
 ·exact h2
theorem Xc(o:Of)(vn vt:Value){b:Nat}(h:b<256)(x:Nat):(fE o vn vt).toArray.setIfInBounds b (.int .u8 (x:Int))=(fE (o.set b x) vn vt).toArray:=by
 unfold fE;rw[Vector.toList_set,List.map_set];simp[List.set_append,h]
theorem C7:(List.replicate 256 (Value.int .u8 0)++([.slice none 0 0,.slice none 0 0]:List Value)).toArray=(fE (Vector.replicate 256 0) (.slice none 0 0) (.slice none 0 0)).toArray:=by
 unfold fE;rw[Vector.toList_replicate,List.map_replicate];rfl
theorem Mu(w:World):(Instr.build 30 #[]).run Tryz.prog w= .ok (GR (Vector.replicate 256 0) (.slice none 0 0) (.slice none 0 0)) w:=by kernel_rfl
theorem FL(g h n m cap:Nat)(w:World):(Instr.build 30 #[(1,.slice (some ⟨g,0,none⟩) n n),(2,.slice (some ⟨h,0,none⟩) m cap)]).run Tryz.prog w= .ok (GR (Vector.replicate 256 0) (.slice (some ⟨g,0,none⟩) n n) (.slice (some ⟨h,0,none⟩) m cap)) w:=by kernel_rfl
end bK
namespace gh
open bW eG
open aB (cg Prod dr)
abbrev FM:=Bs->Option cg
def Al(m:FM)(x:Bs)(s:cg):FM:=fun y=>if y=x then some s else m y
abbrev WS:=List Int×Int×FM
def fR(s:WS)(w:Wd):WS:=if w.1=[]then(s.1++[-1],s.2)else(s.1++[s.2.1],s.2.1+1,Al s.2.2 w.1 (1,s.2.1))
abbrev HS:=Int×FM
def oU(s:HS)(r:Rl):HS:=if(s.2 r.1).isSome then s else(s.1+1,Al s.2 r.1 (2,s.1))
def mw(m:FM)(x:Bs):cg:=(m x).getD (0,0)
def tG(m:FM)(r:Rl):Prod:=((mw m r.1).2,r.2.map (mw m))
def RB:WS:=([],0,fun _=>none)
def C8(l:List Wd):WS:=l.foldl fR RB
def hsN(s:Sp):HS:=s.rules.foldl oU (0,(C8 s.words).2.2)
def bR(s:Sp):dr:=⟨(C8 s.words).2.1,(hsN s).1,s.rules.map (tG (hsN s).2)⟩
def qt(s:Sp):Int:=if aB.cz (bR s)≠0 then 2 else 0
def Small(m:FM):Prop:=∀y s,m y=some s->0<=s.1/\s.1<=2/\0<=s.2/\s.2<=1000
theorem Mv:Small fun _=>none:=fun _ _ h=>by cases h
theorem By{m:FM}(h:Small m){x:Bs}{s:cg}(h1:0<=s.1/\s.1<=2/\0<=s.2/\s.2<=1000):Small (Al m x s):=fun y z hz=>by
 unfold Al at hz;split at hz
 ·cases hz;exact h1
 ·exact h y z hz
theorem Bz{m:FM}(h:Small m)(x:Bs):0<=(mw m x).1/\(mw m x).1<=2/\0<=(mw m x).2/\(mw m x).2<=1000:=by
 unfold mw
 cases hx:m x with
 |none=>exact⟨by decide,by decide,by decide,by decide⟩
 |some s=>exact h x s hx
theorem step_take{α σ:Type}(f:σ->α->σ)(s:σ)(l:List α){k:Nat}(h:k<l.length):(l.take (k+1)).foldl f s=f ((l.take k).foldl f s) l[k]:=by
 rw[List.take_succ_eq_append_getElem h,List.foldl_append];rfl
theorem P2(s:WS)(w:Wd)(k:Nat)(h:k<60)(a1:s.1.length=k)(a2:0<=s.2.1)(a3:s.2.1<=k)(a4:Small s.2.2):
 (fR s w).1.length=k+1/\0<=(fR s w).2.1/\(fR s w).2.1<=((k+1:Nat):Int)/\Small (fR s w).2.2:=by
 unfold fR;split
 ·exact⟨by rw[List.length_append,a1];rfl,a2,by show s.2.1<=_;omega,a4⟩
 ·exact⟨by rw[List.length_append,a1];rfl,by show 0<=s.2.1+1;omega,by show s.2.1+1<=((k+1:Nat):Int);omega,By a4 ⟨(by decide:(0:Int)<=1),(by decide:(1:Int)<=2),a2,by show s.2.1<=1000;omega⟩⟩
theorem P3(l:List Wd):∀k,k<=l.length->k<=60->((l.take k).foldl fR RB).1.length=k/\0<=((l.take k).foldl fR RB).2.1/\((l.take k).foldl fR RB).2.1<=k/\Small ((l.take k).foldl fR RB).2.2
 |0,_,_=>⟨rfl,Int.le_refl _,Int.le_refl _,Mv⟩
 |k+1,h,h60=>by
  obtain⟨a1,a2,a3,a4⟩:=P3 l k (by omega) (by omega);rw[step_take _ _ _ (show k<l.length by omega)];exact P2 _ _ k (by omega) a1 a2 a3 a4
theorem P4(s:HS)(r:Rl)(k:Nat)(h:k<60)(a2:0<=s.1)(a3:s.1<=k)(a4:Small s.2):
 0<=(oU s r).1/\(oU s r).1<=((k+1:Nat):Int)/\Small (oU s r).2:=by
 unfold oU;split
 ·exact⟨a2,by show s.1<=_;omega,a4⟩
 ·exact⟨by show 0<=s.1+1;omega,by show s.1+1<=((k+1:Nat):Int);omega,By a4 ⟨(by decide:(0:Int)<=2),(by decide:(2:Int)<=2),a2,by show s.1<=1000;omega⟩⟩
theorem Vj(l:List Rl)(m:FM)(hm:Small m):∀k,k<=l.length->k<=60->0<=((l.take k).foldl oU (0,m)).1/\((l.take k).foldl oU (0,m)).1<=k/\Small ((l.take k).foldl oU (0,m)).2
 |0,_,_=>⟨Int.le_refl _,Int.le_refl _,hm⟩
 |k+1,h,h60=>by
  obtain⟨a2,a3,a4⟩:=Vj l m hm k (by omega) (by omega);rw[step_take _ _ _ (show k<l.length by omega)];exact P4 _ _ k (by omega) a2 a3 a4
end gh
namespace bK
open Go.RowKit bO dc gh
def ik(vo:Value)(pk tl:List Value):List Value:=vo::(pk++tl)
def gX(t n:Int)(vp:Value)(mode:Int)(rows cK gt:Value):List Value:=[.int .i64 t,.int .i64 n,vp,.int .i64 mode,rows,cK,gt]
def Nh:List Value:=fE (Vector.replicate 256 0) (.slice none 0 0) (.slice none 0 0)
theorem gY:Nh.length=258:=iQ _ _ _
def Am:List Value:=ik (.slice none 0 0) Nh (gX 0 0 (.slice none 0 0) 0 (.slice none 0 0) (.slice none 0 0) (.slice none 0 0))
theorem qR:(([.slice none 0 0]:List Value)++List.replicate 256 (Value.int .u8 0)++([.slice none 0 0,.slice none 0 0,.int .i64 0,.int .i64 0,.slice none 0 0,.int .i64 0,.slice none 0 0,.slice none 0 0,.slice none 0 0]:List Value)).toArray=Am.toArray:=by
 have e:∀z:List Value,(([.slice none 0 0]:List Value)++z++([.slice none 0 0,.slice none 0 0,.int .i64 0,.int .i64 0,.slice none 0 0,.int .i64 0,.slice none 0 0,.slice none 0 0,.slice none 0 0]:List Value)).toArray=((.slice none 0 0:Value)::((z++[.slice none 0 0,.slice none 0 0])++gX 0 0 (.slice none 0 0) 0 (.slice none 0 0) (.slice none 0 0) (.slice none 0 0))).toArray:=fun z=>by simp[gX]
 unfold Am ik Nh fE;rw[Vector.toList_replicate,List.map_replicate];exact e _
theorem Mw(w:World):(Instr.build 38 #[]).run Tryz.prog w= .ok (.agg Am.toArray) w:=by
 rw[<-qR];kernel_rfl
theorem il{vo:Value}{pk tl:List Value}(j:Nat)(hp:pk.length=258){k:Nat}{v:Value}(h:tl[j]?=some v)(hk:k=j+259):(ik vo pk tl).toArray[k]?=some v:=by
 subst hk;rw[List.getElem?_toArray,ik,List.getElem?_cons_succ,List.getElem?_append_right (by omega),show j+258-pk.length=j by omega];exact h
theorem Xd{vo:Value}{pk tl:List Value}(j:Nat)(hp:pk.length=258){k:Nat}(v:Value)(hk:k=j+259):(ik vo pk tl).toArray.setIfInBounds k v=(ik vo pk (tl.set j v)).toArray:=by
 subst hk;rw[List.setIfInBounds_toArray,ik,List.set_cons_succ,List.set_append,if_neg (by omega),show j+258-pk.length=j by omega];rfl
theorem im{vo:Value}{pk tl:List Value}(hp:pk.length=258)(ht:tl.length=7):(ik vo pk tl).toArray.size=266:=by
 rw[List.size_toArray,ik,List.length_cons,List.length_append];omega
theorem uF{vo:Value}{pk tl:List Value}(h1:vo.oneCell'=true)(h2:pk.all Value.oneCell'=true)(h3:tl.all Value.oneCell'=true):(ik vo pk tl).toArray.toList.all Value.oneCell'=true:=by
 rw[ik,List.all_cons,List.all_append,h1,h2,h3];rfl
theorem Kj:Nh.all Value.oneCell'=true:=by
 have:=sm (Vector.replicate 256 0) (vn:= .slice none 0 0) (vt:= .slice none 0 0) rfl rfl
 simpa[Nh]using this
theorem oB{vo:Value}{pk:List Value}(hp:pk.length=258){t n mode:Int}{vp rows cK gt v:Value}{j:Nat}(h:[.int .i64 t,.int .i64 n,vp][j]?=some v):(ik vo pk (gX t n vp mode rows cK gt)).toArray[0+259+j]?=some v:=by
 match j,h with
 |0,h=>exact il 0 hp h rfl
 |1,h=>exact il 1 hp h rfl
 |2,h=>exact il 2 hp h rfl
 |n+3,h=>cases h
section
variable{P:Program}{n:Nat}{W:bC}{fr:Fr}{L:List bI}{Q:Exit->Act->World->Prop}{ops:Array Oper}{rest:List Oper}{ty:TypeId}{pos:String}{after:Array Edge}{t:TypeId}{p x:Operand}{i g k:Nat}{vo:Value}{pk tl:List Value}{T:TypeId}{agg:Bool}{v:Value}
theorem ko(j:Nat)[hT:ak P t agg 1](hi:L[i]?=some (aw g (ik vo pk tl).toArray T))(hp:ev fr p=some (.pointer (some ⟨g,k,none⟩)))(hx:ev fr x=some v)(hv:v.cells=#[v])(h1:v.oneCell'=true)(hk:k=j+259)(ft:pk.length=258)(hj:Nat.blt j tl.length=true)
 (h:TL P n W ops Q rest fr (L.set i (aw g (ik vo pk (tl.set j v)).toArray T))):TL P n W ops Q (⟨none,.store t p x,ty,pos,after,none⟩::rest) fr L:=by
 have hj:j<tl.length:=Nat.le_of_ble_eq_true hj;refine aW hi hp hx hv h1 ?_ ?_
 ·rw[List.size_toArray,ik,List.length_cons,List.length_append]
  exact Nat.ble_eq_true_of_le (by omega)
 ·rw[Xd j ft v hk];exact h
theorem y0[hT:ak P t agg 1](hi:L[i]?=some (aw g (ik vo pk tl).toArray T))(hp:ev fr p=some (.pointer (some ⟨g,k,none⟩)))(hx:ev fr x=some v)(hv:v.cells=#[v])(h1:v.oneCell'=true)(hk:k=0)
 (h:TL P n W ops Q rest fr (L.set i (aw g (ik v pk tl).toArray T))):TL P n W ops Q (⟨none,.store t p x,ty,pos,after,none⟩::rest) fr L:=by
 subst hk;refine aW hi hp hx hv h1 rfl ?_;exact h
theorem Iq{pk':List Value}[hT:ak P t agg 258](hi:L[i]?=some (aw g (ik vo pk tl).toArray T))(hp:ev fr p=some (.pointer (some ⟨g,k,none⟩)))(hx:ev fr x=some (.agg pk'.toArray))(h1:pk'.all Value.oneCell'=true)(hk:k=1)(ft:pk.length=258)(abn:pk'.length=258)
 (h:TL P n W ops Q rest fr (L.set i (aw g (ik vo pk' tl).toArray T))):TL P n W ops Q (⟨none,.store t p x,ty,pos,after,none⟩::rest) fr L:=by
 subst hk;refine pw hT.ty hi hp hx (by simpa[Value.cells]using abn) (by simpa[Value.cells]using h1) (by rw[List.size_toArray,ik,List.length_cons,List.length_append];omega) ?_ h;apply Array.ext';show vo::(pk'++tl)=List.take 1 (vo::(pk++tl))++pk'++List.drop (1+258) (vo::(pk++tl))
 rw[List.take_succ_cons,List.take_zero,show 1+258=258+1 from rfl,List.drop_succ_cons,List.drop_append_of_le_length (by omega),List.drop_of_length_le (by omega)];rfl
theorem Ir{a b c d e f f' u u':Value}[hT:ak P t agg 2](hi:L[i]?=some (aw g (ik vo pk [a,b,c,d,e,f,f']).toArray T))(hp:ev fr p=some (.pointer (some ⟨g,k,none⟩)))(hx:ev fr x=some (.agg #[u,u']))(h1:u.oneCell'=true)(h2:u'.oneCell'=true)(hk:k=264)(ft:pk.length=258)
 (h:TL P n W ops Q rest fr (L.set i (aw g (ik vo pk [a,b,c,d,e,u,u']).toArray T))):TL P n W ops Q (⟨none,.store t p x,ty,pos,after,none⟩::rest) fr L:=by
 subst hk;refine pw hT.ty hi hp hx rfl (by simp[Value.cells,h1,h2]) (by rw[List.size_toArray,ik,List.length_cons,List.length_append];simp[ft]) ?_ h;apply Array.ext';show vo::(pk++[a,b,c,d,e,u,u'])=List.take (263+1) (vo::(pk++[a,b,c,d,e,f,f']))++[u,u']++List.drop (265+1) (vo::(pk++[a,b,c,d,e,f,f']))
 rw[List.take_succ_cons,List.drop_succ_cons,show 263=pk.length+5 by omega,List.take_append,List.take_of_length_le (by omega),show 265=pk.length+7 by omega,List.drop_append,List.drop_of_length_le (by omega)];simp
end
end bK
namespace bK
open Go.RowKit bO dc aB
theorem Is(h:Int)(w:World):(Instr.build 140 #[(0,.int .i64 h)]).run Tryz.prog w= .ok (.agg #[.int .i64 h,.slice none 0 0]) w:=by
 go_simp
end bK
namespace bK
open Go.RowKit bO dc aB
theorem TG{x:Int}(h:0<=x/\x<1000000000):bO.cV x:=by unfold bO.cV;omega
theorem sn{F:Nat->Prop}{vp:Value}{l:List aB.Prod}{w:World}{t n:Int}(ht:bO.cV t)(hn:bO.cV n)(h:(n0 F vp l).holds w):iZ (fun k=>k<w.heap.size) w (cO t n vp) ⟨t,n,l⟩:=by
 obtain⟨⟨v',hv,h1⟩,h2⟩:=h;simp only[List.cons.injEq,and_true]at hv;subst hv;exact⟨vp,rfl,h1.mono h2,ht,hn⟩
end bK
namespace bK
open Go.RowKit bO dc bW eG gh aB
def tH(s:cg):Value:= .agg (dg s).toArray
theorem qS(w:World):(zeroValue 148).run Tryz.prog w= .ok (tH (0,0)) w:=by kernel_rfl
theorem It(s:cg)(w:World):(Instr.field 148 (tH s) 1).run Tryz.prog w= .ok (.int .i64 s.2) w:=by
 obtain⟨a,b⟩:=s
 kernel_rfl
theorem FO{P:Program}{k:TypeId}{κ:Type}{K:rJ P k κ}{W:bC}{fr:Fr}{L:List bI}{n:Nat}{dst:Option Tmp}{ty:TypeId}{pos:String}{after:Array Edge}{guard:Option (Nat×Bool)}{i g c:Nat}{t e:TypeId}{m:κ->Option Value}{x:κ}{z v:Value}{xm xk:Operand}(ht:P.underlying t=some (.map k e))(hz:∀w,(zeroValue e).run P w= .ok z w)(hi:L[i]?=some (dL K g m c))(hm:ev fr xm=some (.map (some g)))(hk:ev fr xk=some (K.kv x))(hx:K.ok x)(hv:(m x).getD z=v):RR P n W ⟨dst,.lookup t xm xk false,ty,pos,after,guard⟩ fr L v:=by
 subst hv;exact R7 K ht hz hi hm hk hx
def vO(m:Bs->Option Value)(M:FM):Prop:=∀y,m y=(M y).map tH
theorem Mx:vO (fun _=>none) (fun _=>none):=fun _=>rfl
theorem BA{m:Bs->Option Value}{M:FM}(h:vO m M){x:Bs}{s:cg}{v:Value}(hv:v=tH s):vO (fun y=>if y=x then some v else m y) (Al M x s):=fun y=>by
 unfold Al;dsimp only;subst hv
 by_cases e:y=x
 ·rw[if_pos e,if_pos e];rfl
 ·rw[if_neg e,if_neg e];exact h y
theorem BB{m:Bs->Option Value}{M:FM}(h:vO m M)(x:Bs):(m x).getD (tH (0,0))=tH (mw M x):=by
 rw[h x];unfold mw
 cases M x<;>rfl
theorem Iu{m:Bs->Option Value}{M:FM}(h:vO m M){x:Bs}(hx:M x=none):m x=none:=by rw[h x,hx];rfl
theorem Iv{m:Bs->Option Value}{M:FM}(h:vO m M){x:Bs}{s:cg}(hx:M x=some s):m x=some (tH s):=by rw[h x,hx];rfl
def y6(gp:Nat)(e:Int)(len:Nat)(of:List Int)(g:dr):Spec (Value×Value×(Nat->Prop)):=
 ⟨fun x=>x.1.oneCell'=true/\x.2.1.oneCell'=true,fun _=> .int .i64 e,fun x=>[aw gp (ik x.1 Nh (gX g.aF g.aU x.2.1 0 (.slice none 0 0) (.slice none 0 0) (.slice none 0 0))).toArray 38,aM 3 1 x.1 len (of.map (Value.int .i64)),n0 x.2.2 x.2.1 g.ag]⟩
def C9(gp:Nat)(s:Sp):Spec (Value×Value×(Nat->Prop)):=y6 gp (qt s) s.words.length (C8 s.words).1 (bR s)
theorem An(vw vr:Value)(s:Sp)(gp:Nat)(w0:World)(hv:Mq (ng w0) w0 (.agg #[vw,vr]) s)(hlw:s.words.length<=60)(I':s.rules.length<=60)(Bf:∀r∈s.rules,r.2.length<=8796093021952)(w:World)(B:bC)(ho:jz w0 B)(hm:Mem B [aw gp Am.toArray 38] w):
    Calls Tryz.prog 76 #[.agg #[vw,vr],.pointer (some ⟨gp,0,none⟩)] w (c_ (C9 gp s) B):=by
  obtain⟨vw',wQ,ZO,hw,hr⟩:=hv;obtain⟨rfl,rfl⟩:vw=vw'/\vr=wQ:=by simpa using ZO
  clear ZO;obtain⟨words,rules⟩:=s;dsimp only at*;obtain⟨bw,cw,rfl,-,-,Iw⟩:=hw;obtain⟨br,cr,rfl,-,-,P5⟩:=hr;refine dC hm (args:=[.agg #[.slice bw words.length cw,.slice br rules.length cr],.pointer (some ⟨gp,0,none⟩)]) (n:=153) Tryz.func76 rfl rfl rfl ?_;refine a8 (aL (a_ rfl rfl rfl fun g2=>?_));refine zL ?_
  try refine GA ?_
  refine rK fe rfl fun gm=>?_;refine zL ?_
  repeat(first|refine GA ?_|refine gV (J (v:= .slice bw words.length cw) ak.ty rfl (ah (i:=1) rfl rfl)) ?_)
  refine g_ 3 1 ?_;refine dv (ι:=Nat×List Int×Int×FM×Value×(Bs->Option Value)×Nat)
    (fun(k,of,t,M,vo,m,n)=>k<=words.length/\n<=k/\(words.take k).foldl fR RB=(of,t,M)/\vO m M/\vo.oneCell'=true)
    (fun(k,_,_,_,_,_,_)=>[(1,.pointer (some ⟨gp,0,none⟩)),(2,.pointer (some ⟨g2,0,none⟩)),(5,.map (some gm)),(19,.slice bw words.length cw),(20,.int .i64 words.length),(21,.int .i64 (k:Int))])
    (fun(k,of,t,_,vo,m,n)=>[aw gp (ik vo Nh (gX t 0 (.slice none 0 0) 0 (.slice none 0 0) (.slice none 0 0) (.slice none 0 0))).toArray 38,aw g2 #[.slice bw words.length cw,.slice br rules.length cr] 25,dL fe gm m n,aM 3 1 vo k (of.map (Value.int .i64))])
    (fun(k,_,_,_,_,_,_)=>words.length-k) (0,[],0,fun _=>none,.slice none 0 0,fun _=>none,0) ⟨Nat.zero_le _,Nat.le_refl _,rfl,Mx,rfl⟩ ?_
  clear hm;rintro⟨k,of,t,M,vo,m,n⟩ ⟨i1,i2,i3,i4,i5⟩;dsimp only at i1 i2 i3 i4 i5⊢;have hws:=P3 words k i1 (by omega);rw[i3]at hws;obtain⟨s1,s2,s3,s4⟩:=hws;dsimp only at s1 s2 s3 s4
  by_cases c1:k<words.length
  · obtain⟨b,off,rfl,_,hr⟩:=Iw (by omega)
    obtain⟨bk,ck,q1,q2,q3⟩:=Kb hr c1;have hst:=step_take fR RB words c1;rw[i3]at hst;have dF:∀(L:List bI) (j:Nat) (u:Value),(sE words[k].1 words[k].2.kind words[k].2.pA (.slice bk words[k].2.kids.length ck))[j]?=some u->At B L ⟨b,off+k*7+j,none⟩ u:=fun L j u hj=>fx ho (q1 j u hj);clear hr Iw P5 q1 q2;generalize words[k]=wd at*;obtain⟨nm,r⟩:=wd;dsimp only at*;generalize r.kind=rk at*;generalize r.pA=rc at*;generalize r.kids.length=rn at*
    repeat(first|refine GA ?_|refine gV (aC aT.eq ak.ty rfl rfl c1) ?_|refine gV (aH (cs:=sE nm rk rc (.slice bk rn ck)) ak.ty rfl rfl (dF _)) ?_)
    clear dF;refine aK rfl fun g7=>?_;refine zL ?_;refine fa 4 (cs':=(sE nm rk rc (.slice bk rn ck)).toArray) ?_;refine zL ?_
    by_cases e0:nm=[]
    · subst e0
      repeat(first|refine GC ?_|refine gV (J (v:=str []) ak.ty rfl (ah (i:=4) rfl rfl)) ?_|refine gV (pu (b:=true) rfl rfl rfl) ?_|refine gV (J (v:=vo) ak.ty rfl (ah (i:=0) rfl rfl)) ?_|refine GB ?_)
      refine je (i:=3) rfl rfl rfl rfl rfl rfl (fun z h=>by cases h;rfl) (by omega) (by omega) rfl fun z' v'=>?_;refine zL ?_
      try refine GA ?_
      refine aD (i:=3) rfl fun oL tR=>?_;refine y0 (i:=0) rfl rfl rfl oL tR rfl ?_;refine zL ?_
      try refine GA ?_
      refine cD [0,1,2,3] ?_;exact bB (k+1,of++[-1],t,M,v',m,n) ⟨by omega,by show n<=k+1;omega,hst,i4,tR⟩ (by show words.length-(k+1)<words.length-k;omega) (hl:=by dsimp only;rw[List.map_append];rfl)
    · rw[show fR (of,t,M) (nm,r)=(of++[t],t+1,Al M nm (1,t))from if_neg e0]at hst
      repeat(first|refine GC ?_|refine gV (J (v:=str nm) ak.ty rfl (ah (i:=4) rfl rfl)) ?_|refine gV (pu (b:=false) rfl rfl (decide_eq_false e0)) ?_|refine GB ?_)
      (repeat refine a8 ?_)
      refine cU ([aw gp (ik vo Nh (gX t 0 (.slice none 0 0) 0 (.slice none 0 0) (.slice none 0 0) (.slice none 0 0))).toArray 38,aw g7 (sE nm rk rc (.slice bk rn ck)).toArray 122]) (.calm 0 (.calm 1 (.calm 2 (.calm 3 (.calm 4 (.calm 5 (.calm 6 (.calm 7 (.calm 8 (.one 9 (.done))))))))))) (bz [0,4]) ?_
      repeat(first|refine GW ?_|(refine GN ?_;first|refine QW (J (v:=str nm) ak.ty rfl (ah (i:=1) rfl rfl)) ?_|refine QW (J (v:= .int .i64 t) ak.ty rfl (ah (i:=0) rfl (il 0 gY rfl rfl))) ?_|refine QW (aP rfl (FJ _ _)) ?_))
      refine ap rfl (jr (i:=2) (x:=nm) (v:=tH (1,t)) fe aT.eq rfl rfl rfl rfl q3 (by omega) (av (bz [0,4]) ?_));refine zL ?_
      try refine GW ?_
      try refine GA ?_
      (repeat refine a8 ?_)
      refine cU ([]) (.calm 0 (.calm 1 (.calm 2 (.calm 3 (.calm 5 (.calm 6 (.calm 7 (.calm 8 (.two 4 (.one 9 (.one 10 (.one 11 (.calm 12 (.calm 13 (.one 14 (.done))))))) 9 (.two 4 (.one 10 (.one 11 (.calm 12 (.calm 13 (.one 14 (.done)))))) 10 (.one 4 (.one 11 (.calm 12 (.calm 13 (.one 14 (.done)))))))))))))))) (bz []) ?_
      try refine GW ?_
      refine dE rfl rfl ?a1 ?a2
      case' a2=>
        refine aV (J (v:= .int .i64 t) ak.ty rfl (ah (i:=0) rfl (il 0 gY rfl rfl))) rfl rfl rfl (av (bz []) ?_);refine dE rfl rfl ?a3 ?a4
      case' a4=>
        refine eM (cs:=#[.int .i64 t]) rfl rfl rfl rfl rfl fun g56=>av (bz []) ?_;refine ap rfl (aV (J (v:=vo) ak.ty rfl (ah (i:=0) rfl rfl)) rfl rfl rfl (av (bz []) ?_))
      case' a3=>
        refine aV (J (v:=vo) ak.ty rfl (ah (i:=0) rfl rfl)) rfl rfl rfl (av (bz []) ?_);refine ap rfl (eM (cs:=#[.int .i64 t]) rfl rfl rfl rfl rfl fun g56=>av (bz []) ?_)
      case' a1=>
        refine aV (J (v:=vo) ak.ty rfl (ah (i:=0) rfl rfl)) rfl rfl rfl (av (bz []) ?_);refine ap rfl (aV (J (v:= .int .i64 t) ak.ty rfl (ah (i:=0) rfl (il 0 gY rfl rfl))) rfl rfl rfl (av (bz []) ?_));refine ap rfl (eM (cs:=#[.int .i64 t]) rfl rfl rfl rfl rfl fun g56=>av (bz []) ?_)
      all_goals
        refine zL ?_;refine ap rfl (jd (i:=3) (q:=5) rfl rfl rfl rfl rfl rfl (by omega) (by omega) rfl fun v'=>av (bz []) ?_);refine zL ?_
        try refine GW ?_
        refine ap rfl (aD (i:=3) rfl fun oL tR=>y0 (i:=0) rfl rfl rfl oL tR rfl (av (bz []) ?_));refine zL ?_
        try refine GW ?_
        repeat(first|refine GA ?_|refine gV (J (v:= .int .i64 t) ak.ty rfl (ah (i:=0) rfl (il 0 gY rfl rfl))) ?_)
        refine ko 0 (i:=0) rfl rfl rfl rfl rfl rfl gY rfl ?_;refine zL ?_
        try refine GA ?_
        refine cD [0,1,2,3] ?_;exact fH (k+1,of++[t],t+1,Al M nm (1,t),v',_,_) ⟨by omega,by show(if(m nm).isSome then n else n+1)<=k+1;split<;>omega,hst,BA i4 rfl,tR⟩ (by show words.length-(k+1)<words.length-k;omega) (by repeat' (first|exact True.intro|refine And.intro rfl ?_)) (by dsimp only;rw[List.map_append];rfl)
  · obtain rfl:k=words.length:=by omega
    rw[List.take_length]at i3;have hW:C8 words=(of,t,M):=i3;clear Iw
    repeat(first|refine GA ?_|refine gV (J (v:= .slice br rules.length cr) ak.ty rfl (ah (i:=1) rfl rfl)) ?_)
    refine dv (ι:=Nat×Int×FM×(Bs->Option Value)×Nat)
      (fun(j,N,M2,m2,n2)=>j<=rules.length/\n2<=60+j/\(rules.take j).foldl oU (0,M)=(N,M2)/\vO m2 M2)
      (fun(j,_,_,_,_)=>[(1,.pointer (some ⟨gp,0,none⟩)),(2,.pointer (some ⟨g2,0,none⟩)),(5,.map (some gm)),(71,.slice br rules.length cr),(72,.int .i64 rules.length),(73,.int .i64 (j:Int))])
      (fun(_,N,_,m2,n2)=>[aw gp (ik vo Nh (gX t N (.slice none 0 0) 0 (.slice none 0 0) (.slice none 0 0) (.slice none 0 0))).toArray 38,aw g2 #[.slice bw words.length cw,.slice br rules.length cr] 25,dL fe gm m2 n2,aM 3 1 vo words.length (of.map (Value.int .i64))])
      (fun(j,_,_,_,_)=>rules.length-j) (0,0,M,m,n) ⟨Nat.zero_le _,by omega,rfl,i4⟩ ?_
    clear i4;rintro⟨j,N,M2,m2,n2⟩ ⟨j1,j2,j3,j4⟩;dsimp only at j1 j2 j3 j4⊢;have hhs:=Vj rules M s4 j j1 (by omega);rw[j3]at hhs;obtain⟨u1,u2,u3⟩:=hhs;dsimp only at u1 u2 u3
    by_cases c2:j<rules.length
    · obtain⟨b,off,rfl,_,ef⟩:=P5 (by omega)
      obtain⟨bk,ck,q1,-,q3⟩:=w7 ef c2;have hst:=step_take oU (0,M) rules c2;rw[j3]at hst;have dF:∀(L:List bI) (j':Nat) (u:Value),([str rules[j].1,.slice bk rules[j].2.length ck]:List Value)[j']?=some u->At B L ⟨b,off+j*2+j',none⟩ u:=fun L j' u hj=>fx ho (q1 j' u hj);clear ef q1 P5;generalize rules[j]=r at*;obtain⟨nm,bd⟩:=r;dsimp only at*;generalize bd.length=bn at*
      repeat(first|refine GA ?_|refine gV (aC aT.eq ak.ty rfl rfl c2) ?_|refine gV (aH (cs:=[str nm,.slice bk bn ck]) ak.ty rfl rfl (dF _)) ?_)
      clear dF;refine aK rfl fun g9=>?_;refine zL ?_;refine fa 4 (cs':=#[str nm,.slice bk bn ck]) ?_;refine zL ?_
      cases hM:M2 nm with
      | some x=>
        rw[show oU (N,M2) (nm,bd)=(N,M2)from if_pos (by show(M2 nm).isSome=true;rw[hM];rfl)]at hst
        repeat(first|refine GA ?_|refine gV (J (v:=str nm) ak.ty rfl (ah (i:=4) rfl rfl)) ?_|refine gV (gC fe (x:=nm) aT.eq qS (i:=2) rfl rfl rfl q3 (Iv j4 hM)) ?_)
        refine aK rfl fun g10=>?_;refine zL ?_;refine fa 5 (cs':=(dg x).toArray) ?_;refine zL ?_
        try refine GA ?_
        refine cD [0,1,2,3] ?_;exact bB (j+1,N,M2,m2,n2) ⟨by omega,by show n2<=60+(j+1);omega,hst,j4⟩ (by show rules.length-(j+1)<rules.length-j;omega)
      | none=>
        rw[show oU (N,M2) (nm,bd)=(N+1,Al M2 nm (2,N))from if_neg (by show ¬(M2 nm).isSome=true;rw[hM];decide)]at hst
        repeat(first|refine GA ?_|refine gV (J (v:=str nm) ak.ty rfl (ah (i:=4) rfl rfl)) ?_|refine gV (gD fe (x:=nm) aT.eq qS (i:=2) rfl rfl rfl q3 (Iu j4 hM)) ?_)
        refine aK rfl fun g10=>?_;refine zL ?_;refine fa 5 (cs':=(dg (0,0)).toArray) ?_;refine zL ?_
        try refine GA ?_
        (repeat refine a8 ?_)
        refine cU ([aw gp (ik vo Nh (gX t N (.slice none 0 0) 0 (.slice none 0 0) (.slice none 0 0) (.slice none 0 0))).toArray 38,aw g9 #[str nm,.slice bk bn ck] 124]) (.calm 0 (.calm 1 (.calm 2 (.calm 3 (.calm 4 (.calm 5 (.calm 6 (.calm 7 (.calm 8 (.one 9 (.done))))))))))) (bz [0,4]) ?_
        repeat(first|refine GW ?_|(refine GN ?_;first|refine QW (J (v:=str nm) ak.ty rfl (ah (i:=1) rfl rfl)) ?_|refine QW (J (v:= .int .i64 N) ak.ty rfl (ah (i:=0) rfl (il 1 gY rfl rfl))) ?_|refine QW (aP rfl (FJ _ _)) ?_))
        refine ap rfl (jr (i:=2) (x:=nm) (v:=tH (2,N)) fe aT.eq rfl rfl rfl rfl q3 (by omega) (av (bz [0,4]) ?_));refine zL ?_
        try refine GW ?_
        repeat(first|refine GA ?_|refine gV (J (v:= .int .i64 N) ak.ty rfl (ah (i:=0) rfl (il 1 gY rfl rfl))) ?_)
        refine ko 1 (i:=0) rfl rfl rfl rfl rfl rfl gY rfl ?_;refine zL ?_
        try refine GA ?_
        refine cD [0,1,2,3] ?_;exact fH (j+1,N+1,Al M2 nm (2,N),_,_) ⟨by omega,by show(if(m2 nm).isSome then n2 else n2+1)<=60+(j+1);split<;>omega,hst,BA j4 rfl⟩ (by show rules.length-(j+1)<rules.length-j;omega) (by repeat' (first|exact True.intro|refine And.intro rfl ?_)) rfl
    · obtain rfl:j=rules.length:=by omega
      rw[List.take_length]at j3;have hH:hsN ⟨words,rules⟩=(N,M2):=by unfold hsN;rw[hW];exact j3
      repeat(first|refine GA ?_|refine gV (J (v:= .slice br rules.length cr) ak.ty rfl (ah (i:=1) rfl rfl)) ?_)
      refine g_ 140 2 (mz (dz oO (fun _=>False) [] []) (fun k hk=>hk.elim (fun h=>by cases h) id) (fun w=>iM) ?_);refine oX [0,2,3,4,5] ?_;refine dv (ι:=Nat×List aB.Prod×Value×List (List Value)×(Nat->Prop))
        (fun(j,ps,vp,fu,F)=>j<=rules.length/\ps=(rules.take j).map (tG M2)/\vp.oneCell'=true)
        (fun(j,_,_,_,_)=>[(1,.pointer (some ⟨gp,0,none⟩)),(5,.map (some gm)),(106,.slice br rules.length cr),(107,.int .i64 rules.length),(108,.int .i64 (j:Int))])
        (fun(j,ps,vp,fu,F)=>[aw gp (ik vo Nh (gX t N vp 0 (.slice none 0 0) (.slice none 0 0) (.slice none 0 0))).toArray 38,dL fe gm m2 n2,aM 3 1 vo words.length (of.map (Value.int .i64)),aM 140 2 vp ps.length fu.flatten,dz oO F fu ps])
        (fun(j,_,_,_,_)=>rules.length-j) (0,[],.slice none 0 0,[],fun _=>False) ⟨Nat.zero_le _,rfl,rfl⟩ ?_
      rintro⟨j,ps,vp,fu,F⟩ ⟨k1,k2,k3⟩;dsimp only at k1 k2 k3⊢
      by_cases c3:j<rules.length
      · obtain⟨b,off,rfl,_,ef⟩:=P5 (by omega)
        obtain⟨bk,ck,q1,q2,q3⟩:=w7 ef c3;have hps:(rules.take (j+1)).map (tG M2)=ps++[tG M2 rules[j]]:=by rw[List.take_succ_eq_append_getElem c3,List.map_append,<-k2];rfl
        have w6:ps.length=j:=by rw[k2,List.length_map,List.length_take];omega
        have dF:∀(L:List bI) (j':Nat) (u:Value),([str rules[j].1,.slice bk rules[j].2.length ck]:List Value)[j']?=some u->At B L ⟨b,off+j*2+j',none⟩ u:=fun L j' u hj=>fx ho (q1 j' u hj);have sb:=q2.flat (by decide);have jZ:=q2.okp;have hb6:=Bf _ (List.getElem_mem c3);clear ef q1 q2 P5;generalize rules[j]=r at*;obtain⟨nm,bd⟩:=r;dsimp only at*;obtain⟨b2,Bu,jM,wh,RN,y7⟩:=sb
        cases jM
        unfold maxLen at RN;have hsm:=Bz u3 nm
        repeat(first|refine GA ?_|refine gV (aC aT.eq ak.ty rfl rfl c3) ?_|refine gV (aH (cs:=[str nm,.slice bk bd.length ck]) ak.ty rfl rfl (dF _)) ?_)
        clear dF;refine aK rfl fun g13=>?_;refine zL ?_;refine fa 5 (cs':=#[str nm,.slice bk bd.length ck]) ?_;refine zL ?_
        repeat(first|refine GA ?_|refine gV (J (v:=str nm) ak.ty rfl (ah (i:=5) rfl rfl)) ?_|refine gV (FO (K:=fe) (x:=nm) aT.eq qS (i:=1) rfl rfl rfl q3 (BB j4 nm)) ?_|refine gV (JE rfl (It _)) ?_|refine gV (aP rfl (Is _)) ?_)
        refine aK rfl fun g14=>?_;refine zL ?_;refine fa 6 (cs':=#[.int .i64 (mw M2 nm).2,.slice none 0 0]) ?_;refine zL ?_
        repeat(first|refine GA ?_|refine gV (J (v:= .slice bk bd.length ck) ak.ty rfl (ah (i:=5) rfl rfl)) ?_)
        refine g_ 148 2 ?_;refine oX [0,1,2,3,4,6,7] ?_;refine dv (ι:=Nat×Value) (fun(i,vb)=>i<=bd.length/\vb.oneCell'=true)
          (fun(i,vb)=>[(1,.pointer (some ⟨gp,0,none⟩)),(5,.map (some gm)),(14,.pointer (some ⟨g14,0,none⟩)),(106,.slice (some ⟨b,off,none⟩) rules.length cr),(107,.int .i64 rules.length),(108,.int .i64 (j:Int)),(119,.slice bk bd.length ck),(120,.int .i64 bd.length),(121,.int .i64 (i:Int))])
          (fun(i,vb)=>[aw gp (ik vo Nh (gX t N vp 0 (.slice none 0 0) (.slice none 0 0) (.slice none 0 0))).toArray 38,dL fe gm m2 n2,aM 3 1 vo words.length (of.map (Value.int .i64)),aM 140 2 vp ps.length fu.flatten,dz oO F fu ps,aw g14 #[.int .i64 (mw M2 nm).2,vb] 140,aM 148 2 vb i (((bd.take i).map (mw M2)).flatMap dg)])
          (fun(i,_)=>bd.length-i) (0,.slice none 0 0) ⟨Nat.zero_le _,rfl⟩ ?_
        rintro⟨i,vb⟩ ⟨l1,l2⟩;dsimp only at l1 l2⊢
        by_cases c4:i<bd.length
        · obtain⟨b3,TH,rfl,xS⟩:=y7 (by omega)
          have dF:=fun L=>pC (W:=B) (L:=L) Ka (fun j u hj=>fx ho (xS j u hj)) c4 0 _ rfl;have hlen:=jZ bd[i] (List.getElem_mem c4);have H3:((bd.take (i+1)).map (mw M2)).flatMap dg=((bd.take i).map (mw M2)).flatMap dg++dg (mw M2 bd[i]):=by
            rw[List.take_succ_eq_append_getElem c4,List.map_append,List.flatMap_append];simp
          clear xS y7;generalize bd[i]=x at*
          repeat(first|refine GA ?_|refine gV (aC aT.eq ak.ty rfl rfl c4) ?_|refine gV (J (v:=str x) ak.ty rfl (dF _)) ?_|refine gV (J (v:=vb) ak.ty rfl (ah (i:=5) rfl rfl)) ?_|refine gV (FO (K:=fe) (x:=x) aT.eq qS (i:=1) rfl rfl rfl hlen (BB j4 x)) ?_)
          refine iy (i:=6) (cs:=(dg (mw M2 x)).toArray) rfl rfl rfl rfl rfl rfl rfl (fun z h=>by cases h;rfl) (by omega) (by omega) rfl fun z vb'=>?_;refine zL ?_
          try refine GA ?_
          refine aD (i:=6) rfl fun oL tR=>?_;refine aW (i:=5) rfl rfl rfl oL tR rfl ?_;refine zL ?_
          try refine GA ?_
          exact bB (i+1,vb') ⟨by omega,tR⟩ (by show bd.length-(i+1)<bd.length-i;omega) (hl:=by dsimp only;rw[H3];rfl)
        · obtain rfl:i=bd.length:=by omega
          rw[List.take_length];clear y7;have Li:(bd.map (mw M2)).length=bd.length:=List.length_map ..;rw[<-Li];have abo:tG M2 (nm,bd)=((mw M2 nm).2,bd.map (mw M2)):=rfl;have DO:∀x∈bd.map (mw M2),OB x:=fun x hx=>by
            obtain⟨y,-,rfl⟩:=List.mem_map.1 hx;have:=Bz u3 y;exact⟨TG ⟨this.1,by omega⟩,TG ⟨this.2.2.1,by omega⟩⟩
          generalize mw M2 nm=hd at*;generalize bd.map (mw M2)=body at*
          try refine GA ?_
          (repeat refine a8 ?_)
          refine cU ([aw g14 #[.int .i64 hd.2,vb] 140]) (.calm 0 (.calm 1 (.calm 2 (.calm 3 (.calm 4 (.calm 6 (.two 5 (.one 7 (.one 8 (.calm 9 (.calm 10 (.calm 11 (.one 12 (.done))))))) 7 (.one 5 (.one 8 (.calm 9 (.calm 10 (.calm 11 (.one 12 (.done)))))))))))))) (bz [5]) ?_
          repeat(first|refine GW ?_|(refine GN ?_;first|refine QW (az (i:=0) ak.ty rfl rfl rfl) ?_))
          refine dE rfl rfl ?b1 ?b2
          case' b1=>
            refine aV (J (v:=vp) ak.ty rfl (ah (i:=0) rfl (il 2 gY rfl rfl))) rfl rfl rfl (av (bz [5]) ?_);refine ap rfl (eM (cs:=#[.int .i64 hd.2,vb]) rfl rfl rfl rfl rfl fun g15=>av (bz [5]) ?_)
          case' b2=>
            refine eM (cs:=#[.int .i64 hd.2,vb]) rfl rfl rfl rfl rfl fun g15=>av (bz [5]) ?_;refine ap rfl (aV (J (v:=vp) ak.ty rfl (ah (i:=0) rfl (il 2 gY rfl rfl))) rfl rfl rfl (av (bz [5]) ?_))
          all_goals
            refine zL ?_;refine ap rfl (kr (i:=3) (q:=7) rfl rfl rfl rfl rfl (by simp only[List.all_cons,List.all_nil,l2];rfl) (by omega) (by omega) rfl fun v'=>av (bz [5]) ?_);refine zL ?_
            try refine GW ?_
            refine ap rfl (aD (i:=3) rfl fun oL tR=>ko 2 (i:=0) rfl rfl rfl oL tR rfl gY rfl (av (bz [5]) ?_));refine zL ?_
            try refine GW ?_
            refine B_ (dz oO (fun k=>F k\/vb.ownBlock=some k) (fu++[[.int .i64 hd.2,vb]]) (ps++[(hd.2,body)])) 6 4 [0,1,2,3] (by decide) rfl rfl rfl (fun k hk=>hk.elim (fun h=>by cases h) fun h=>h.elim (fun h=> .inr (.inr h)) fun h=> .inl (.inl h)) (fun w hr he=>?_) ?_
            · exact nf he (Ep (TG ⟨hsm.2.2.1,by omega⟩) DO hr) fun k hk=>(aM 148 2 vb body.length (body.flatMap dg)).lt w hr k (.inl hk)
            try refine GA ?_
            exact bB (j+1,ps++[(hd.2,body)],v',fu++[[.int .i64 hd.2,vb]],fun k=>F k\/vb.ownBlock=some k) ⟨by omega,by rw[hps,abo],tR⟩ (by show rules.length-(j+1)<rules.length-j;omega) (hl:=by rw[List.length_append,List.flatten_append];rfl)
      · obtain rfl:j=rules.length:=by omega
        rw[List.take_length]at k2;subst k2;have hG:bR ⟨words,rules⟩=⟨t,N,rules.map (tG M2)⟩:=by unfold bR;rw[hW,hH]
        have hE:qt ⟨words,rules⟩=if cz ⟨t,N,rules.map (tG M2)⟩≠0 then 2 else 0:=by unfold qt;rw[hG]
        have hS:∀e,qt ⟨words,rules⟩=e->C9 gp ⟨words,rules⟩=y6 gp e words.length of ⟨t,N,rules.map (tG M2)⟩:=fun e he=>by
          show y6 gp (qt _) words.length (C8 words).1 (bR _)=_
          rw[hW,hG,he]
        clear hG;generalize rules.map (tG M2)=ps at*
        repeat(first|refine GA ?_|refine gV (aH (cs:=[.int .i64 t,.int .i64 N,vp]) ak.ty rfl rfl (fun j v h=>ah (i:=0) rfl (oB gY h))) ?_)
        refine sR (n0 (YE F vp) vp ps) 3 4 [0,2] (by decide) rfl rfl rfl (fun k hk=>hk.elim (fun h=>by cases h) fun h=>h.elim (fun h=> .inr (.inr h)) fun h=> .inl (.inl h)) (fun w hr he=>⟨⟨vp,rfl,B8 hr he (by decide)⟩,B9 hr he⟩) ?_;refine zL ?_;refine aI (jc aj.en rfl rfl) (fun w hm=>gG _ ⟨t,N,ps⟩ w (sn (TG ⟨s2,by omega⟩) (TG ⟨u1,by omega⟩) (hm.get (i:=2) rfl))) rfl rfl rfl ?_;intro _ _;refine zL ?_;generalize cz ⟨t,N,ps⟩=e at*
        by_cases c:e≠0
        · rw[if_pos c]at hE
          rw[hS _ hE]
          repeat(first|refine GC ?_|refine gV (bm (b:=true) rfl rfl (decide_eq_true c)) ?_|refine GB ?_)
          exact b9 rfl rfl fun w hm=>hm.bP (S:=y6 gp 2 words.length of ⟨t,N,ps⟩) (vo,vp,YE F vp) ⟨i5,k3⟩ [0,1,2] (by decide) rfl
        · rw[if_neg c]at hE
          rw[hS _ hE]
          repeat(first|refine GC ?_|refine gV (bm (b:=false) rfl rfl (decide_eq_false c)) ?_|refine GB ?_)
          exact b9 rfl rfl fun w hm=>hm.bP (S:=y6 gp 0 words.length of ⟨t,N,ps⟩) (vo,vp,YE F vp) ⟨i5,k3⟩ [0,1,2] (by decide) rfl
end bK
namespace bK
open Go.RowKit bO dc sW bT
section
end
theorem P6{k:Nat}(h:k<256):IntKind.u8.wrap (k:Int)=(k:Int):=by
 rw[IntKind.wrap_u8];omega
end bK
namespace bK
open Go.RowKit bO dc sW bT
def My:Nat->Nat×Nat
  |0=>(0,0)
  | n+1=>match My n with
    |(a,0)=>(0,a+1)
    |(a,b+1)=>(a+1,b)
theorem y8:∀(s a b:Nat),a+b=s->∃n,My n=(a,b)
 |0,a,b,h=>⟨0,by obtain rfl:a=0:=(by omega);obtain rfl:b=0:=(by omega);rfl⟩
 |s+1,0,b,h=>by
  obtain rfl:b=s+1:=by omega
  obtain⟨n,hn⟩:=y8 s s 0 (by omega);exact⟨n+1,by simp[My,hn]⟩
 |s+1,a+1,b,h=>by
  obtain⟨n,hn⟩:=y8 (s+1) a (b+1) (by omega);exact⟨n+1,by simp[My,hn]⟩
def l8(m x:Nat):Value:= .slice (some ⟨(My x).1,0,none⟩) m (My x).2
section
variable{P:Program}{n:Nat}{W:bC}{fr:Fr}{ops:Array Oper}
theorem TI{i d:Nat}{α:Type}(val:α->Value)(z:α){t e ty:TypeId}{pos:String}{after:Array Edge}{x y:Operand}{bytes m:Nat}{k k':IntKind}[mX P t e 1 bytes][aQ P e #[val z]](ho:ops[i]?=some ⟨some d,.makeSlice t x y,ty,pos,after,none⟩)(hx:ev fr x=some (.int k (m:Int)))(hy:ev fr y=some (.int k' (m:Int)))(hb:bytes*m<=281474976710656)(qD:m<=9223372036854775807)(hn:Nat.blt d n=true):
 AL P n W ops fr ⟨i,d,fun g=> .slice (some ⟨g,0,none⟩) m m,fun g=>dU e val g m fun _=>z⟩:=
 ⟨_,ho,fun _ _ _ hl h=>lC val z (sU hl hx) (sU hl hy) hb qD hn h⟩
theorem Ix{i d:Nat}{o:Oper}{f:FuncId}{args:Array Value}{e:TypeId}{size m:Nat}{xs:List Value}(ho:ops[i]?=some o)(he:∀zN,(∀q v,look fr q=some v->look zN q=some v)->∀a w,jP n a zN->(execOp a.eval o).run P w= .ok (.enter f args) w)
    (hc:∀(L:List bI) w,Mem W L w->Calls P f args w (bM (bZ e size m xs id) w)) (hm:0<m) (hg:o.guard=none) (hd:o.dst=some d) (hn:Nat.blt d n=true):
    AL P n W ops fr ⟨i,d,l8 m,fun x=>aM e size (l8 m x) m xs⟩:=
  ⟨o, ho,fun Q zN L hl h=>aI (he zN hl) (fun w hw=>hc L w hw) hg hd hn fun v _=> .mk fun a w hr hw=>by
    have pc:(aM e size v m xs).holds w:=hw.get (i:=L.length) (by simp[bZ]);obtain⟨G,cap,hv,_,_,_⟩:=Ee pc
    cases G with
    | none=>
      rcases pc.2 with⟨_,h0⟩|⟨g,tZ,kK,Ob,_⟩
      · omega
      · rw[Ob]at hv;cases hv
    | some g=>
      obtain⟨x,hx⟩:=y8 _ g cap rfl;have e:v=l8 m x:=by rw[hv];unfold l8;rw[hx];rfl
      have:=h x;dsimp only at this;rw[<-e]at this;exact this.go a w hr hw⟩
end
theorem FP{P:Program}{n:Nat}{W:bC}{fr:Fr}{L:List bI}{Q:Exit->Act->World->Prop}{ops:Array Oper}{rest:List Oper}{ty:TypeId}{pos:String}{after:Array Edge}{t:TypeId}{p x:Operand}{i g b:Nat}{c:wY}{T:TypeId}{agg:Bool}{z:Int}[hT:ak P t agg 1](hi:L[i]?=some (aw g (sg c).toArray T))(hp:ev fr p=some (.pointer (some ⟨g,0+b,none⟩)))(hx:ev fr x=some (.int .i16 z))(hb:b<200)
 (h:TL P n W ops Q rest fr (L.set i (aw g (sg (c.set b z)).toArray T))):TL P n W ops Q (⟨none,.store t p x,ty,pos,after,none⟩::rest) fr L:=by
 rw[Nat.zero_add]at hp;refine aW hi hp hx rfl rfl ?_ ?_
 ·rw[List.size_toArray,nw];exact Nat.blt_eq▸hb
 ·rw[TC c hb];exact h
abbrev so(v:Value):Value:=v
def P7(n:Nat):Mk:=⟨3,24,fun g=> .slice (some ⟨g,0,none⟩) n n,fun g=>dU 26 so g n fun _=> .slice none 0 0⟩
def P8(tags:List Int):Mk:=⟨6,27,l8 tags.length,fun x=>aM 3 1 (l8 tags.length x) tags.length (tags.flatMap bO.dB)⟩
def TJ:Mk:=⟨8,5,fun g=> .pointer (some ⟨g,0,none⟩),fun g=>aw g (List.replicate 256 (Value.int .u8 0)++([.slice none 0 0,.slice none 0 0]:List Value)).toArray 30⟩
def Mz(n:Nat)(D:List wY)(vs:Nat->Value):bI:=fS (fun i=>i<n) fun i=>aM 3 1 (vs i) D.length ((tW D i).flatMap bO.dB)
def nxM(n:Nat)(D:List wY)(col:wY)(j:Nat)(vs:Nat->Value):bI:=fS (fun i=>i<n) fun i=>aM 3 1 (vs i) (if i<j then D++[col]else D).length ((tW (if i<j then D++[col]else D) i).flatMap bO.dB)
theorem ZP(n:Nat)(D:List wY)(col:wY)(vs:Nat->Value):nxM n D col 0 vs=Mz n D vs:=by
 unfold nxM Mz;simp
theorem Kk(n:Nat)(D:List wY)(col:wY)(vs:Nat->Value)(i:Nat)(h:i<n):(fun i=>aM 3 1 (vs i) (D++[col]).length ((tW (D++[col]) i).flatMap bO.dB)) i=(fun i=>aM 3 1 (vs i) (if i<n then D++[col]else D).length ((tW (if i<n then D++[col]else D) i).flatMap bO.dB)) i:=by
 dsimp only;rw[if_pos h]
theorem y9{P:Program}{n:Nat}{W:bC}{fr:Fr}{L:List bI}{Q:Exit->Act->World->Prop}{ops:Array Oper}{rest:List Oper}{ty:TypeId}{pos:String}{after:Array Edge}{t:TypeId}{p x:Operand}{i g b z:Nat}{o:Of}{vn vt:Value}{T:TypeId}{agg:Bool}[hT:ak P t agg 1](hi:L[i]?=some (aw g (fE o vn vt).toArray T))(hp:ev fr p=some (.pointer (some ⟨g,0+b,none⟩)))(hx:ev fr x=some (.int .u8 (z:Int)))(hb:b<256)
 (h:TL P n W ops Q rest fr (L.set i (aw g (fE (o.set b z) vn vt).toArray T))):TL P n W ops Q (⟨none,.store t p x,ty,pos,after,none⟩::rest) fr L:=by
 rw[Nat.zero_add]at hp;refine aW hi hp hx rfl rfl ?_ ?_
 ·rw[gU];exact Nat.blt_eq▸(by omega)
 ·rw[Xc o vn vt hb];exact h
theorem P9{j:Nat}{D:List wY}{col:wY}{vs:Nat->Value}{v2:Value}{x:Int}(h:tW (D++[col]) j=tW D j++[x])(q:Nat):
  (fun i=>aM 3 1 ((fun i=>if i=j then v2 else vs i) i) (if i<j+1 then D++[col]else D).length ((tW (if i<j+1 then D++[col]else D) i).flatMap bO.dB)) q
   =Lr (fun i=>aM 3 1 (vs i) (if i<j then D++[col]else D).length ((tW (if i<j then D++[col]else D) i).flatMap bO.dB)) j (aM 3 1 v2 (D.length+1) ((tW D j).flatMap bO.dB++[.int .i64 x])) q:=by
 unfold Lr;dsimp only
 by_cases c:q=j
 ·subst c
  rw[if_pos rfl,if_pos rfl,if_pos (Nat.lt_succ_self q),h,List.length_append,List.flatMap_append];rfl
 ·rw[if_neg c,if_neg c]
  have e:q<j+1↔q<j:=by omega
  simp only[e]
def P_(R:List Row)(tags:List Int):Spec (Nat×(Nat->Value)×Value):=⟨fun _=>True,fun x=> .tuple #[GR (ph R 256) (.slice (some ⟨x.1,0,none⟩) R.length R.length) x.2.2,.int .i64 0],
 fun x=>[dU 26 so x.1 R.length x.2.1,Mz R.length (jS R 256) x.2.1,aM 3 1 x.2.2 tags.length (tags.flatMap bO.dB)]⟩
set_option maxRecDepth 100000 in
theorem Iy(vr vt:Value)(R:List Row)(tags:List Int)(w:World)(h:Ae w vr vt R tags)(hc:iL R tags=0):
    Calls Tryz.prog 79 #[fA vr vt] w (bM (P_ R tags) w):=by
  have gd:=fun w' (hg:Gr w w')=>yM vr vt R tags w' (h.gr hg);rw[hc]at gd;have ir:=fun w' (hg:Gr w w') hl=>wm vt tags w' (h.hT.gr hg) hl;obtain⟨bt,ct,rfl,US,Om,DH⟩:=h.hT;obtain⟨br,cr,rfl,Rr,qE,xS⟩:=h.hR;have TB:=h.Va;unfold maxLen at qE Om;clear h;obtain⟨hA,hlt⟩:=kO hc;have uz:0<R.length:=hA.pos;have hle:R.length<=200:=hA.le;clear hA hc;obtain⟨b,off,rfl,hr⟩:=xS uz;obtain⟨bb,lc,rfl,hrt⟩:=DH (by omega);clear xS DH hrt;have ir:=fun w' hg=>ir w' hg (by omega);have sG:=Mu;refine enter (args:=[fA (.slice (some ⟨b,off,none⟩) R.length cr) (.slice (some ⟨bb,lc,none⟩) tags.length ct)]) (n:=91) Tryz.func79 rfl rfl rfl ?_;refine a8 (aL (a_ rfl rfl rfl fun g1=>?_));refine aK rfl fun g2=>?_;rw[C7];refine zL ?_
  repeat(first|refine GA ?_|refine gV (az (i:=0) ak.ty rfl rfl rfl) ?_)
  refine aI (jc aj.en rfl rfl) (fun w hm=>gd _ hm.below) rfl rfl rfl ?_;intro _ _
  try refine GA ?_
  (repeat refine a8 ?_)
  refine iW (ι:=Nat×Nat×Nat) (fun _=>True) (fun(_,_,g5)=>[(1,.pointer (some ⟨g1,0,none⟩)),(2,.pointer (some ⟨g2,0,none⟩)),(5,.pointer (some ⟨g5,0,none⟩))])
    (fun(gN,x,g5)=>[aw g1 (fA (.slice (some ⟨b,off,none⟩) R.length cr) (.slice (some ⟨bb,lc,none⟩) tags.length ct)).cells 186,aw g2 (fE (Vector.replicate 256 0) (.slice none 0 0) (.slice none 0 0)).toArray 30,dU 26 so gN R.length (fun _=> .slice none 0 0),aM 3 1 (l8 tags.length x) tags.length (tags.flatMap bO.dB),aw g5 (fE (ph R 0) (.slice (some ⟨gN,0,none⟩) R.length R.length) (l8 tags.length x)).toArray 30]) ?_ ?_
  · refine Og [aw g1 (fA (.slice (some ⟨b,off,none⟩) R.length cr) (.slice (some ⟨bb,lc,none⟩) tags.length ct)).cells 186] (bz [0]) (by kernel_rfl) (by kernel_rfl) (by intro c a d v w h;cases d<;>exact h) ?_
    refine mO 0 (by kernel_rfl) rfl (Yq aO.fld rfl rfl) rfl rfl rfl ?_;refine mO 1 (by kernel_rfl) rfl (J ak.ty rfl (ah (i:=0) rfl rfl)) rfl rfl rfl ?_;refine mO 2 (by kernel_rfl) rfl (py aT.eq rfl) rfl rfl rfl ?_;refine mO 4 (by kernel_rfl) rfl (Yq aO.fld rfl rfl) rfl rfl rfl ?_;refine mO 5 (by kernel_rfl) rfl (J ak.ty rfl (ah (i:=0) rfl rfl)) rfl rfl rfl ?_;refine Ei [P7 R.length,P8 tags,TJ] (fun m=>!Nat.beq m.i 8) 2 (by kernel_rfl) (by kernel_rfl) ?_ (fun q=>?_) fun q=>?_
    · intro m hm
      simp only[List.mem_cons,List.not_mem_nil,or_false]at hm;rcases hm with rfl|rfl|rfl
      · exact TI so _ rfl rfl rfl (by omega) (by omega) rfl
      · exact Ix rfl (fun zN hl=>jc aj.en rfl (sU hl rfl)) (fun L w hm=>ir w hm.below) (by omega) rfl rfl rfl
      · exact AN rfl rfl
    · simp only[P7,P8,TJ,List.map_cons,List.map_nil]
      generalize q 3=gN;generalize q 6=x;generalize q 8=g5;clear q;rw[C7];refine wL (.calm 7 (.one 9 .done)) (by kernel_rfl) rfl ?_
      repeat(first|refine GW ?_|(refine GN ?_;first|refine QW (aP rfl (FL _ _ _ _ _)) ?_))
      refine ap rfl ?_;refine aE (i:=4) (cs':=(fE (Vector.replicate 256 0) (.slice (some ⟨gN,0,none⟩) R.length R.length) (l8 tags.length x)).toArray) rfl rfl rfl (gU _ _ _) (sm _ rfl rfl) (gU _ _ _) ?_;refine av (bz [0]) ?_
      try refine GW ?_
      exact dm (gN,x,g5) trivial (by repeat' (first|exact True.intro|refine And.intro rfl ?_)) (by rw[Vi];rfl)
    · rw[show List.filter (fun m:Mk=>!Nat.beq m.i 8) [P7 R.length,P8 tags,TJ]=[P7 R.length,P8 tags]from rfl]
      simp only[P7,P8,TJ,List.map_cons,List.map_nil];generalize q 3=gN;generalize q 6=x;clear q;refine wL (.calm 7 (.one 8 (.one 9 .done))) (by kernel_rfl) (by kernel_rfl) ?_
      repeat(first|refine GW ?_|(refine GN ?_;first|refine QW (aP rfl (FL _ _ _ _ _)) ?_))
      refine ap rfl ?_;refine aK rfl fun g5=>?_;refine av (bz [0]) ?_;rw[C7];refine ap rfl ?_;refine aE (i:=4) (cs':=(fE (Vector.replicate 256 0) (.slice (some ⟨gN,0,none⟩) R.length R.length) (l8 tags.length x)).toArray) rfl rfl rfl (gU _ _ _) (sm _ rfl rfl) (gU _ _ _) ?_;refine av (bz [0]) ?_
      try refine GW ?_
      exact dm (gN,x,g5) trivial (by repeat' (first|exact True.intro|refine And.intro rfl ?_)) (by rw[Vi];rfl)
  rintro⟨gN,xT,g5⟩ _;dsimp only;generalize hvT:l8 tags.length xT=vT
  try refine GA ?_
  refine uf (K:=Fk) rfl fun g6=>?_;refine zL ?_
  try refine GA ?_
  refine mz (Mz R.length [] fun _=> .slice none 0 0) (fun k hk=>?_) (fun w=>⟨fun i _=>World.ownsRow_nil _ _ _ _,fun i j _ _ _ k hk=>?_⟩) ?_
  · rcases hk with hk|⟨i,_,hk⟩
    · cases hk
    · rcases hk with hk|hk<;>cases hk
  · rcases hk with hk|hk<;>cases hk
  conv=>arg 7;simp only[zA,zB,zC,zD,zE,zF,zG,zH,zI,bZ,ret,id_eq]
  refine dv (ι:=Nat×(Nat->Value)) (fun(k,_)=>k<=256) (fun(k,_)=>[(1,.pointer (some ⟨g1,0,none⟩)),(2,.pointer (some ⟨g2,0,none⟩)),(5,.pointer (some ⟨g5,0,none⟩)),(6,.map (some g6)),(30,.int .i64 (k:Int))])
    (fun(k,vs)=>[aw g1 (fA (.slice (some ⟨b,off,none⟩) R.length cr) (.slice (some ⟨bb,lc,none⟩) tags.length ct)).cells 186,aw g2 (fE (Vector.replicate 256 0) (.slice none 0 0) (.slice none 0 0)).toArray 30,dU 26 so gN R.length vs,aM 3 1 vT tags.length (tags.flatMap bO.dB),aw g5 (fE (ph R k) (.slice (some ⟨gN,0,none⟩) R.length R.length) vT).toArray 30,dL Fk g6 (ie (jS R k)) (jS R k).length,Mz R.length (jS R k) vs]) (fun(k,_)=>256-k) (0,fun _=> .slice none 0 0) (Nat.zero_le _) ?_
  rintro⟨k,vs⟩ hk;dsimp only at hk⊢
  by_cases c1:k<256
  · try refine GA ?_
    refine aK rfl fun g8=>?_;refine zL ?_;rw[PZ,<-Xa R k]
    repeat(first|refine GA ?_|refine gV (J ak.ty rfl (ah (i:=0) rfl rfl)) ?_)
    refine dv (ι:=Nat) (fun j=>j<=R.length) (fun j=>[(1,.pointer (some ⟨g1,0,none⟩)),(2,.pointer (some ⟨g2,0,none⟩)),(5,.pointer (some ⟨g5,0,none⟩)),(6,.map (some g6)),(7,.int .i64 (k:Int)),(8,.pointer (some ⟨g8,0,none⟩)),(30,.int .i64 (k:Int)),(34,.slice (some ⟨b,off,none⟩) R.length cr),(35,.int .i64 (R.length:Int)),(36,.int .i64 (j:Int))])
      (fun j=>[aw g1 (fA (.slice (some ⟨b,off,none⟩) R.length cr) (.slice (some ⟨bb,lc,none⟩) tags.length ct)).cells 186,aw g2 (fE (Vector.replicate 256 0) (.slice none 0 0) (.slice none 0 0)).toArray 30,dU 26 so gN R.length vs,aM 3 1 vT tags.length (tags.flatMap bO.dB),aw g5 (fE (ph R k) (.slice (some ⟨gN,0,none⟩) R.length R.length) vT).toArray 30,dL Fk g6 (ie (jS R k)) (jS R k).length,Mz R.length (jS R k) vs,aw g8 (sg (Ak R k j)).toArray 263]) (fun j=>R.length-j) 0 (Nat.zero_le _) ?_
    intro j hj
    by_cases c2:j<R.length
    · have Io:=fun(L:List bI)=>eN (W:=w) (L:=L) cH hr c2
      have hcell:(dA R[j]).toArray[0+k]?=some (.int .i16 (ep R j k)):=by rw[Nat.zero_add,List.getElem?_toArray,l6 _ c1,nE c2 c1]
      have q6:=PY R k j (by omega);generalize R[j]=r at*;generalize ep R j k=x at*
      repeat(first|refine GA ?_|refine gV (aC aT.eq ak.ty rfl rfl c2) ?_|refine gV (aH ak.ty rfl (cH r) (Io _)) ?_)
      refine aK rfl fun g10=>?_;refine zL ?_
      try refine GA ?_
      refine aE (i:=8) (cs':=(dA r).toArray) rfl rfl rfl (by rw[List.size_toArray,cH]) (by simpa using nu r) (by kernel_rfl) ?_;refine zL ?_
      repeat(first|refine GA ?_|refine gV (e_ aT.eq ak.ty rfl rfl c1) ?_|refine gV (J ak.ty rfl (ah (i:=8) rfl hcell)) ?_|refine gV (e_ aT.eq ak.ty rfl rfl (by omega)) ?_)
      refine FP (i:=7) (b:=j) rfl rfl rfl (by omega) ?_;rw[q6];refine zL ?_
      try refine GA ?_
      refine cD [0,1,2,3,4,5,6,7] ?_;exact bB (j+1) (by omega) (by show R.length-(j+1)<R.length-j;omega)
    · obtain rfl:j=R.length:=by omega
      rw[show Ak R k R.length=mW R k from rfl];have jZ:=TE TB c1;have Xe:=Xb (R:=R) c1;have P':=Ki R c1;have MA:=TF R k c1;have M_:=w_ R k;have hzero:∀w:World,(zeroValue 3).run Tryz.prog w= .ok (.int .i64 0) w:=Pu
      by_cases c2:mW R k∈jS R k
      · have hD:=Kf c2
        rw[if_pos c2]at Xe;generalize mW R k=col at*
        repeat(first|refine GA ?_|refine gV (az (i:=7) ak.ty rfl rfl (by rw[List.size_toArray,nw])) ?_|refine gV (pL (K:=Fk) (x:=col) aT.eq hzero (i:=5) rfl rfl rfl jZ c2) ?_)
        have hwr:=P6 (k:=idx (jS R k) col) (by rw[<-Xe];exact P');rw[Xe]at MA;clear Xe P' TB;generalize jS R k=D at*
        repeat(first|refine GA ?_|refine gV (fI aT.eq aT.eq rfl hwr) ?_|refine gV (e_ aT.eq ak.ty rfl rfl c1) ?_)
        refine y9 (i:=4) (b:=k) rfl rfl rfl c1 ?_;rw[MA];refine zL ?_
        try refine GA ?_
        refine cD [0,1,2,3,4,5,6] ?_;exact bB (k+1,vs) (by show k+1<=256;omega) (by show 256-(k+1)<256-k;omega) (hl:=by dsimp only;rw[hD];rfl)
      · have hD:=Kg c2
        rw[if_neg c2]at Xe;have ZQ:=fun i hi=>yZ R k i hi hle;have hwr:=P6 (k:=(jS R k).length) (by omega);rw[Xe]at MA;clear Xe P';generalize mW R k=col at*;generalize hDk:jS R k=D at*
        repeat(first|refine GC ?_|refine gV (az (i:=7) ak.ty rfl rfl (by rw[List.size_toArray,nw])) ?_|refine gV (pM (K:=Fk) (x:=col) aT.eq hzero (i:=5) rfl rfl rfl jZ c2) ?_|refine gV (qJ Fk aT.eq (i:=5) rfl rfl) ?_|refine GB ?_)
        refine ug (K:=Fk) (i:=5) (x:=col) aT.eq rfl rfl rfl rfl jZ c2 (by omega) ?_;refine zL ?_
        repeat(first|refine GA ?_|refine gV (J ak.ty rfl (ah (i:=0) rfl rfl)) ?_)
        refine oX [0,1,2,3,4,5,6] ?_;rw[<-ZP R.length D col vs];refine dv (ι:=Nat×(Nat->Value)) (fun(j,_)=>j<=R.length) (fun(j,_)=>[(1,.pointer (some ⟨g1,0,none⟩)),(2,.pointer (some ⟨g2,0,none⟩)),(5,.pointer (some ⟨g5,0,none⟩)),(6,.map (some g6)),(7,.int .i64 (k:Int)),(11,.int .i64 (D.length:Int)),(30,.int .i64 (k:Int)),(61,.slice (some ⟨b,off,none⟩) R.length cr),(62,.int .i64 (R.length:Int)),(63,.int .i64 (j:Int))])
          (fun(j,vs)=>[aw g1 (fA (.slice (some ⟨b,off,none⟩) R.length cr) (.slice (some ⟨bb,lc,none⟩) tags.length ct)).cells 186,aw g2 (fE (Vector.replicate 256 0) (.slice none 0 0) (.slice none 0 0)).toArray 30,dU 26 so gN R.length vs,aM 3 1 vT tags.length (tags.flatMap bO.dB),aw g5 (fE (ph R k) (.slice (some ⟨gN,0,none⟩) R.length R.length) vT).toArray 30,dL Fk g6 (ie (D++[col])) (D++[col]).length,nxM R.length D col j vs]) (fun(j,_)=>R.length-j) (0,vs) (Nat.zero_le _) ?_
        rintro⟨j,vs⟩ hj;dsimp only at hj⊢
        by_cases c3:j<R.length
        · have Io:=fun(L:List bI)=>eN (W:=w) (L:=L) cH hr c3
          have hcell:(dA R[j]).toArray[0+k]?=some (.int .i16 (ep R j k)):=by rw[Nat.zero_add,List.getElem?_toArray,l6 _ c1,nE c3 c1]
          have hx:=TB R[j] (List.getElem_mem c3) (ep R j k) (by rw[nE c3 c1,<-Vector.getElem_toList (h:=by simpa using c1)];exact List.getElem_mem _);have YO:=ZQ j c3;clear ZQ;generalize R[j]=r at*;generalize ep R j k=x at*
          repeat(first|refine GA ?_|refine gV (aC aT.eq ak.ty rfl rfl c3) ?_|refine gV (aH ak.ty rfl (cH r) (Io _)) ?_)
          refine aK rfl fun g14=>?_;refine zL ?_
          try refine GA ?_
          refine aE (i:=7) (cs':=(dA r).toArray) rfl rfl rfl (by rw[List.size_toArray,cH]) (by simpa using nu r) (by kernel_rfl) ?_;refine zL ?_
          try refine GA ?_
          unfold nxM;refine Hj (q:=6) j rfl c3 ?_;rw[if_neg (Nat.lt_irrefl j)]
          conv=>arg 7;simp only[zA,zB,zC,zD,zE,zF,zG,zH,zI,bZ,ret,id_eq]
          (repeat refine a8 ?_)
          refine cU ([aw g1 (fA (.slice (some ⟨b,off,none⟩) R.length cr) (.slice (some ⟨bb,lc,none⟩) tags.length ct)).cells 186,aw g5 (fE (ph R k) (.slice (some ⟨gN,0,none⟩) R.length R.length) vT).toArray 30,aw g14 (dA r).toArray 257]) (.calm 0 (.calm 1 (.calm 2 (.calm 3 (.calm 4 (.calm 5 (.calm 6 (.calm 8 (.calm 9 (.calm 10 (.calm 11 (.two 7 (.one 12 (.one 13 (.calm 14 (.one 15 (.done))))) 12 (.one 7 (.one 13 (.calm 14 (.one 15 (.done))))))))))))))))) (bz [0,4,7]) ?_
          repeat(first|refine GW ?_|(refine GN ?_;first|refine QW (J ak.ty rfl (ah (i:=1) rfl (kw _ _ _))) ?_|refine QW (bx (j:=j) aT.eq ak.ty rfl rfl c3) ?_|refine QW (e_ aT.eq ak.ty rfl rfl c1) ?_|refine QW (J ak.ty rfl (ah (i:=2) rfl hcell)) ?_|refine QW (fI aT.eq aT.eq rfl (kq (by omega) (by omega))) ?_))
          have hnj:tW (D++[col]) j=tW D j++[x]:=by unfold tW;rw[List.map_append,List.map_singleton,YO]
          have hst:∀v2:Value,∀i,i<R.length->(fun i=>if i=j then v2 else vs i) i=if i=j then v2 else vs i:=fun _ _ _=>rfl
          refine dE rfl rfl ?_ ?_
          · refine aV (J ak.ty rfl (eD (i:=2) rfl c3)) rfl rfl rfl (av (bz [0,4,7]) ?_)
            refine ap rfl (eM rfl rfl rfl rfl rfl fun g80=>av (bz [0,4,7]) ?_);refine ap rfl (jd (i:=8) (q:=9) rfl rfl rfl rfl rfl rfl (by omega) (by omega) rfl fun v2=>av (bz [0,4,7]) ?_)
            repeat(first|refine GW ?_|(refine GN ?_;first|refine QW (bx (j:=j) aT.eq ak.ty rfl rfl c3) ?_))
            refine ap rfl (aD (i:=8) rfl fun oL tR=>fF (i:=2) (val:=so) (off:=j) (v:=v2) (fun i=>if i=j then v2 else vs i) ak.ty rfl rfl rfl oL tR c3 (hst v2) (av (bz [0,4,7]) ?_))
            try refine GW ?_
            try refine GA ?_
            refine Jv j 6 8 [0,1,2,3,4,5] (by decide) rfl rfl rfl (fun h=>h.2 rfl) (D':=fun i=>i<R.length) (f':=fun i=>aM 3 1 ((fun i=>if i=j then v2 else vs i) i) (if i<j+1 then D++[col]else D).length ((tW (if i<j+1 then D++[col]else D) i).flatMap bO.dB)) (fun q hq=>(by by_cases e:q=j;exact .inr e;exact .inl ⟨hq,e⟩)) (fun q hq=>?_) ?_
            · exact P9 hnj q
            exact bB (j+1,fun i=>if i=j then v2 else vs i) (by show j+1<=R.length;omega) (by show R.length-(j+1)<R.length-j;omega)
          · refine eM rfl rfl rfl rfl rfl fun g80=>av (bz [0,4,7]) ?_
            refine ap rfl (aV (J ak.ty rfl (eD (i:=2) rfl c3)) rfl rfl rfl (av (bz [0,4,7]) ?_));refine ap rfl (jd (i:=8) (q:=9) rfl rfl rfl rfl rfl rfl (by omega) (by omega) rfl fun v2=>av (bz [0,4,7]) ?_)
            repeat(first|refine GW ?_|(refine GN ?_;first|refine QW (bx (j:=j) aT.eq ak.ty rfl rfl c3) ?_))
            refine ap rfl (aD (i:=8) rfl fun oL tR=>fF (i:=2) (val:=so) (off:=j) (v:=v2) (fun i=>if i=j then v2 else vs i) ak.ty rfl rfl rfl oL tR c3 (hst v2) (av (bz [0,4,7]) ?_))
            try refine GW ?_
            try refine GA ?_
            refine Jv j 6 8 [0,1,2,3,4,5] (by decide) rfl rfl rfl (fun h=>h.2 rfl) (D':=fun i=>i<R.length) (f':=fun i=>aM 3 1 ((fun i=>if i=j then v2 else vs i) i) (if i<j+1 then D++[col]else D).length ((tW (if i<j+1 then D++[col]else D) i).flatMap bO.dB)) (fun q hq=>(by by_cases e:q=j;exact .inr e;exact .inl ⟨hq,e⟩)) (fun q hq=>?_) ?_
            · exact P9 hnj q
            exact bB (j+1,fun i=>if i=j then v2 else vs i) (by show j+1<=R.length;omega) (by show R.length-(j+1)<R.length-j;omega)
        · obtain rfl:j=R.length:=by omega
          refine Jm (Mz R.length (D++[col]) vs) (i:=6) rfl (uh (fun _ h=>h) (Kk _ _ _ _)) (xX (fun _ h=>h) (Kk _ _ _ _)) ?_
          conv=>arg 7;simp only[zA,zB,zC,zD,zE,zF,zG,zH,zI,bZ,ret,id_eq]
          repeat(first|refine GA ?_|refine gV (fI aT.eq aT.eq rfl hwr) ?_|refine gV (e_ aT.eq ak.ty rfl rfl c1) ?_)
          refine y9 (i:=4) (b:=k) rfl rfl rfl c1 ?_;rw[MA];refine zL ?_
          try refine GA ?_
          exact bB (k+1,vs) (by show k+1<=256;omega) (by show 256-(k+1)<256-k;omega) (hl:=by dsimp only;rw[hD])
  · obtain rfl:k=256:=by omega
    repeat(first|refine GA ?_|refine gV (az (i:=4) ak.ty rfl rfl (gU _ _ _)) ?_)
    refine aD (i:=3) rfl fun oL tR=>?_;refine aE (i:=1) (cs':=(fE (ph R 256) (.slice (some ⟨gN,0,none⟩) R.length R.length) vT).toArray) rfl rfl rfl (gU _ _ _) (sm _ rfl tR) (gU _ _ _) ?_;refine zL ?_
    try refine GA ?_
    refine da (i:=1) rfl rfl rfl (gU _ _ _) rfl fun w hm=>?_;exact hm.meets (S:=P_ R tags) (gN,vs,vT) trivial [2,6,3] (by decide) rfl
end bK
namespace bK
open Go.RowKit bO dc bW eG gh aB de jQ bT
def l9(s:Sp):List Rx:=s.words.map (·.2)
def MB(s:Sp)(r:Int×List Row×List Int):Prop:=
  (∃k:Int,k≠0/\A8 (l9 s) (k,.zero)/\r=(k,[],[]))\/
  ∃ (es:List Re) (m:MS),l9 s=es.map jf/\(∀e∈es,Fit e 1 0)/\0<es.length/\es.length<=20/\jh 0 .zero es=(0,m)/\A8 (l9 s) (0,m)/\
    ((qt s≠0/\r=(qt s,[],[]))\/(qt s=0/\(ox m).2.2≠0/\r=((ox m).2.2,[],[]))\/
      (qt s=0/\(ox m).2.2=0/\iL (ox m).1 (ox m).2.1=0/\r=(0,sj (ox m).1 (ox m).2.1,sk (ox m).1 (ox m).2.1)))
theorem Xf(s:Sp):∃r,MB s r:=by
  rcases LO (l9 s)with⟨k,h1,h2⟩|⟨es,m,h1,h2,h3,h4,h5,h6⟩
  · exact⟨_,.inl ⟨k,h1,h2,rfl⟩⟩
  · by_cases c1:qt s=0
    · by_cases c2:(ox m).2.2=0
      · refine⟨_,.inr ⟨es,m,h1,h2,h3,h4,h5,h6,.inr (.inr ⟨c1,c2,?_,rfl⟩)⟩⟩
        cases hd:pV m with
        |none=>rw[Ib hd]at c2;cases c2
        | some y=>
          obtain⟨R,d⟩:=y;rw[sh hd];exact PB (wP h3 h4 h5) (uB hd)
      · exact⟨_,.inr ⟨es,m,h1,h2,h3,h4,h5,h6,.inr (.inl ⟨c1,c2,rfl⟩)⟩⟩
    · exact⟨_,.inr ⟨es,m,h1,h2,h3,h4,h5,h6,.inl ⟨c1,rfl⟩⟩⟩
theorem Qa{F:Nat->Prop}{w:World}{b off:Nat}{l:List Wd}(h:∀i (h:i<l.length),∃cs,tE.is F w cs l[i]/\Rd w b (off+i*tE.c) cs){k:Nat}(hk:k<l.length):
 ∃base cap,Rd w b (off+k*7) (sE l[k].1 l[k].2.kind l[k].2.pA (.slice base l[k].2.kids.length cap))/\ic F w (jx l[k].2.kind l[k].2.pA (.slice base l[k].2.kids.length cap)) l[k].2:=by
 obtain⟨cs,⟨c1,c2,rfl,⟨rfl,h1⟩,h2⟩,h3⟩:=h k hk;have h2:ic F w c2 l[k].2:=h2;have h4:=h2.r;obtain⟨vk,e,-,hs⟩:=h4;obtain⟨base,cap,rfl,-⟩:=hs;have e2:c2=jx l[k].2.kind l[k].2.pA (.slice base l[k].2.kids.length cap):=by
  unfold mM at e;simp only[Value.agg.injEq]at e
  simpa using congrArg Array.toList e
 subst e2;exact⟨base,cap,h3,h2⟩
def xd(w0:World)(words:List Wd)(fu:List (List Value)):Prop:=∀i c,fu[i]?=some c->∃h:i<words.length,rL.is (ng w0) w0 c words[i].2
theorem Iz{w0:World}{words:List Wd}{fu:List (List Value)}{c:List Value}(h:xd w0 words fu)(hk:fu.length<words.length)(hc:rL.is (ng w0) w0 c words[fu.length].2):xd w0 words (fu++[c]):=fun i x hx=>by
 rcases Nat.lt_trichotomy i fu.length with h1|h1|h1
 ·rw[List.getElem?_append_left h1]at hx;exact h i x hx
 ·subst h1
  rw[List.getElem?_concat_length]at hx
  cases hx
  exact⟨hk,hc⟩
 ·rw[List.getElem?_eq_none (by rw[List.length_append,List.length_singleton];omega)]at hx;cases hx
theorem BC{w0 w:World}(hg:Gr w0 w){words:List Wd}{fu:List (List Value)}{v:Value}(hl:fu.length=words.length)(h:xd w0 words fu)(hr:(aM 119 6 v words.length fu.flatten).holds w):iB rL (ng w) w v (words.map (·.2)):=by
 have he:(dz rL (ng w0) fu (words.map (·.2))).holds w:=⟨⟨by rw[hl,List.length_map],fun i h1 h2=>by
  obtain⟨h3,h4⟩:=h i _ (List.getElem?_eq_getElem h2);rw[List.getElem_map];exact rL.stay h4 fun k hk=>hg.block k hk⟩,fun k hk=>Nat.lt_of_lt_of_le hk hg.size⟩
 have hr:(aM 119 rL.c v (words.map (·.2)).length fu.flatten).holds w:=by rw[List.length_map];exact hr
 exact(B8 hr he (by decide)).mono fun k hk=>B9 hr he k hk
def FQ(gp:Nat)(s:Sp)(R:List Row)(T:List Int):Spec (Value×Value×(Nat->Prop)×Nat×(Nat->Value)×Value):=
  ⟨fun x=>x.1.oneCell'=true/\x.2.1.oneCell'=true/\x.2.2.2.2.2.oneCell'=true,fun _=> .int .i64 0,fun x=>[aw gp (ik x.1 (fE (ph R 256) (.slice (some ⟨x.2.2.2.1,0,none⟩) R.length R.length) x.2.2.2.2.2) (gX (bR s).aF (bR s).aU x.2.1 0 (.slice none 0 0) (.slice none 0 0) (.slice none 0 0))).toArray 38,aM 3 1 x.1 s.words.length ((C8 s.words).1.map (Value.int .i64)),n0 x.2.2.1 x.2.1 (bR s).ag,
    dU 26 so x.2.2.2.1 R.length x.2.2.2.2.1,Mz R.length (jS R 256) x.2.2.2.2.1,aM 3 1 x.2.2.2.2.2 T.length (T.flatMap bO.dB)]⟩
def BD(gp:Nat)(s:Sp)(r:Int×List Row×List Int):Spec (Value×Value×(Nat->Prop)×Nat×(Nat->Value)×Value):=
 if r.1=0 then FQ gp s r.2.1 r.2.2 else⟨fun _=>True,fun _=> .int .i64 r.1,fun _=>[]⟩
set_option maxRecDepth 100000 in
theorem FR(vw vr:Value)(s:Sp)(r:Int×List Row×List Int)(hx:MB s r)(gp:Nat)(w0:World)(hv:Mq (ng w0) w0 (.agg #[vw,vr]) s)(hlw:s.words.length<=60)(I':s.rules.length<=60)(Bf:∀r∈s.rules,r.2.length<=8796093021952)(w:World)(B:bC)(ho:jz w0 B)(hm:Mem B [aw gp Am.toArray 38] w):
    Calls Tryz.prog 41 #[.agg #[vw,vr],.pointer (some ⟨gp,0,none⟩)] w (c_ (BD gp s r) B):=by
  have PW:=fun w' B' D0 mN=>An vw vr s gp w0 hv hlw I' Bf w' B' D0 mN;obtain⟨vw',wQ,ZO,hw,-⟩:=hv;obtain⟨rfl,rfl⟩:vw=vw'/\vr=wQ:=by simpa using ZO
  clear ZO Bf;obtain⟨bw,cw,rfl,-,-,Iw⟩:=hw;have CA:l9 s=s.words.map (·.2):=rfl
  refine dC hm (args:=[.agg #[.slice bw s.words.length cw,vr],.pointer (some ⟨gp,0,none⟩)]) (n:=60) Tryz.func41 rfl rfl rfl ?_;refine a8 (aL (a_ rfl rfl rfl fun g2=>?_));refine zL ?_
  repeat(first|refine GA ?_|refine gV (J (v:= .slice bw s.words.length cw) ak.ty rfl (ah (i:=1) rfl rfl)) ?_)
  refine g_ 119 6 ?_;refine dv (ι:=Nat×List (List Value)×Value) (fun(k,fu,vl)=>k<=s.words.length/\fu.length=k/\xd w0 s.words fu)
    (fun(k,_,vl)=>[(1,.pointer (some ⟨gp,0,none⟩)),(2,.pointer (some ⟨g2,0,none⟩)),(5,vl),(13,.slice bw s.words.length cw),(14,.int .i64 s.words.length),(15,.int .i64 (k:Int))])
    (fun(k,fu,vl)=>[aw gp Am.toArray 38,aw g2 #[.slice bw s.words.length cw,vr] 25,aM 119 6 vl k fu.flatten])
    (fun(k,_,_)=>s.words.length-k) (0,[],.slice none 0 0) ⟨Nat.zero_le _,rfl,fun i c h=>by cases h⟩ ?_
  clear hm;rintro⟨k,fu,vl⟩ ⟨i1,i2,i3⟩;dsimp only at i1 i2 i3⊢
  by_cases c1:k<s.words.length
  · obtain⟨b,off,rfl,_,hr⟩:=Iw (by omega)
    obtain⟨bk,ck,q1,q2⟩:=Qa hr c1;have dF:∀(L:List bI) (j:Nat) (u:Value),(sE s.words[k].1 s.words[k].2.kind s.words[k].2.pA (.slice bk s.words[k].2.kids.length ck))[j]?=some u->At B L ⟨b,off+k*7+j,none⟩ u:=fun L j u hj=>fx ho (q1 j u hj);clear hr Iw q1 hx PW;subst i2;have ZE:=Iz i3 c1 q2;clear q2;generalize s.words[fu.length].1=nm at*;generalize s.words[fu.length].2.kind=rk at*;generalize s.words[fu.length].2.pA=rc at*;generalize s.words[fu.length].2.kids.length=rn at*
    repeat(first|refine GA ?_|refine gV (aC aT.eq ak.ty rfl rfl c1) ?_|refine gV (aH (cs:=sE nm rk rc (.slice bk rn ck)) ak.ty rfl rfl (dF _)) ?_)
    clear dF;refine aK rfl fun g7=>?_;refine zL ?_;refine fa 3 (cs':=(sE nm rk rc (.slice bk rn ck)).toArray) ?_;refine zL ?_
    repeat(first|refine GA ?_|refine gV (aH (cs:=jx rk rc (.slice bk rn ck)) ak.ty rfl rfl (fun j v hj=>ah (i:=3) rfl (Ik hj))) ?_)
    refine iy (i:=2) rfl rfl rfl rfl rfl rfl rfl (fun z h=>by cases h;rfl) (by omega) (by omega) rfl fun z JM=>?_;refine zL ?_
    try refine GA ?_
    refine cD [0,1,2] ?_;exact bB (fu.length+1,fu++[jx rk rc (.slice bk rn ck)],JM) ⟨by omega,by rw[List.length_append];rfl,ZE⟩ (by show s.words.length-(fu.length+1)<s.words.length-fu.length;omega) (hl:=by dsimp only;rw[List.flatten_append];simp)
  · obtain rfl:k=s.words.length:=by omega
    clear Iw;rcases hx with⟨k,hk,hR,rfl⟩|⟨es,m,hes,BZ,h0,h20,hlp,hR,hx⟩
    · have GL:=fun w' (sb:iB rL (ng w') w' vl (l9 s))=>ym vl (l9 s) (k,.zero) w' sb hR
      rw[show BD gp s (k,[],[])=⟨fun _=>True,fun _=> .int .i64 k,fun _=>[]⟩from if_neg hk]
      try refine GA ?_
      refine aI (jc aj.en rfl rfl) (fun w hm=>GL _ (BC (ho.mem hm) i2 i3 (hm.get (i:=2) rfl))) rfl rfl rfl ?_;rintro⟨pe,pf,vf1,eO,pg,ve1,kH,F1⟩ io
      conv=>arg 8;simp only[zJ,bZ,ret,id_eq,mQ,HD,HE]
      conv=>arg 7;simp only[mQ,HE]
      refine aD (i:=3) rfl fun _ a1=>aD (i:=4) rfl fun _ a2=>aD (i:=5) rfl fun _ a3=>aD (i:=6) rfl fun _ a4=>aD (i:=8) rfl fun _ a5=>aD (i:=9) rfl fun _ a6=>?_
      try refine GA ?_
      refine aK rfl fun g4=>?_;refine zL ?_;refine aE (i:=10) (cs':=#[pe,pf,vf1,eO,pg,ve1]) rfl rfl rfl rfl (by simp only[List.all_cons,List.all_nil,a1,a2,a3,a4,a5,a6];rfl) rfl ?_;refine zL ?_
      repeat(first|refine GC ?_|refine gV (bm (b:=true) rfl rfl (decide_eq_true hk)) ?_|refine GB ?_)
      exact b9 rfl rfl fun w hm=>hm.bP (S:=⟨fun _=>True,fun _=> .int .i64 k,fun _=>[]⟩) (vl,vl,fun _=>False,0,fun _=>vl,vl) trivial [] (by decide) rfl
    · have GL:=fun w' (sb:iB rL (ng w') w' vl (l9 s))=>ym vl (l9 s) (0,m) w' sb hR
      have jZ:=wP h0 h20 hlp;have XU:=fun v' w' h=>Af v' m w' h jZ;unfold J7 at XU
      try refine GA ?_
      refine aI (jc aj.en rfl rfl) (fun w hm=>GL _ (BC (ho.mem hm) i2 i3 (hm.get (i:=2) rfl))) rfl rfl rfl ?_;rintro⟨pe,pf,vf1,eO,pg,ve1,kH,F1⟩ io;have io:kH.length=m.ps.follow.length:=io
      conv=>arg 8;simp only[zJ,bZ,ret,id_eq,mQ,HD,HE]
      conv=>arg 7;simp only[mQ,HE]
      refine aD (i:=3) rfl fun _ a1=>aD (i:=4) rfl fun _ a2=>aD (i:=5) rfl fun _ a3=>aD (i:=6) rfl fun _ a4=>aD (i:=8) rfl fun _ a5=>aD (i:=9) rfl fun _ a6=>?_
      try refine GA ?_
      refine aK rfl fun g4=>?_;refine zL ?_;refine aE (i:=10) (cs':=#[pe,pf,vf1,eO,pg,ve1]) rfl rfl rfl rfl (by simp only[List.all_cons,List.all_nil,a1,a2,a3,a4,a5,a6];rfl) rfl ?_;refine zL ?_;clear a1 a2 a3 a4 a5 a6
      repeat(first|refine GC ?_|refine gV (bm (b:=false) rfl rfl (decide_eq_false (by simp))) ?_|refine gV (az (i:=1) ak.ty rfl rfl rfl) ?_|refine GB ?_)
      refine aR [0] [3,4,5,6,7,8,9,10] (by decide) rfl rfl (eK aj.en rfl rfl rfl) (fun w' mN hb=>PW w' _ (jz.on ho mN (fun o ho=>by simp at ho;subst ho;simp)) hb) rfl rfl rfl ?_;rintro⟨vo,vp,F⟩ ⟨k1,k2⟩
      conv=>arg 8;simp only[zJ,bZ,ret,id_eq,C9,y6]
      conv=>arg 7;simp only[C9,y6]
      have kD:∀e:Int,e≠0->BD gp s (e,[],[])=⟨fun _=>True,fun _=> .int .i64 e,fun _=>[]⟩:=fun e he=>if_neg he;have pJ:∀R T,BD gp s (0,R,T)=FQ gp s R T:=fun R T=>if_pos rfl
      by_cases d1:qt s≠0
      · obtain rfl:r=(qt s,[],[]):=by
          rcases hx with⟨-,h⟩|⟨h,-⟩|⟨h,-⟩
          · exact h
          · exact absurd h d1
          · exact absurd h d1
        rw[kD _ d1]
        repeat(first|refine GC ?_|refine gV (bm (b:=true) rfl rfl (decide_eq_true d1)) ?_|refine GB ?_)
        exact b9 rfl rfl fun w hm=>hm.bP (S:=⟨fun _=>True,fun _=> .int .i64 (qt s),fun _=>[]⟩) (vl,vl,fun _=>False,0,fun _=>vl,vl) trivial [] (by decide) rfl
      have d1:qt s=0:=Decidable.of_not_not d1;rw[d1];have hx:=hx.resolve_left (fun h=>h.1 d1);generalize ox m=D at*;obtain⟨R,T,e⟩:=D;dsimp only at XU hx⊢
      repeat(first|refine GC ?_|refine gV (bm (b:=false) rfl rfl (decide_eq_false (by simp))) ?_|refine gV (az (i:=7) ak.ty rfl rfl rfl) ?_|refine GB ?_)
      refine aI (jc aj.en rfl rfl) (fun w hm=>XU _ w (hm.aa2 (x:=⟨pe,pf,vf1,eO,pg,ve1,kH,F1⟩) 0 io rfl (by simp))) rfl rfl rfl ?_;rintro⟨vrr,vtt⟩ _
      conv=>arg 8;simp only[zJ,bZ,ret,id_eq,fA]
      conv=>arg 7;simp only[fA]
      refine aD (i:=11) rfl fun _ a1=>aD (i:=12) rfl fun _ a2=>?_
      try refine GA ?_
      refine aK rfl fun g6=>?_;refine zL ?_;refine aE (i:=13) (cs':=#[vrr,vtt]) rfl rfl rfl rfl (by simp only[List.all_cons,List.all_nil,a1,a2];rfl) rfl ?_;refine zL ?_;clear a1 a2
      by_cases d2:e≠0
      · obtain rfl:r=(e,[],[]):=by
          rcases hx with⟨-,-,h⟩|⟨-,h,-⟩
          · exact h
          · exact absurd h d2
        rw[kD _ d2]
        repeat(first|refine GC ?_|refine gV (bm (b:=true) rfl rfl (decide_eq_true d2)) ?_|refine GB ?_)
        exact b9 rfl rfl fun w hm=>hm.bP (S:=⟨fun _=>True,fun _=> .int .i64 e,fun _=>[]⟩) (vl,vl,fun _=>False,0,fun _=>vl,vl) trivial [] (by decide) rfl
      have d2:e=0:=Decidable.of_not_not d2;subst d2;obtain⟨oL,rfl⟩:iL R T=0/\r=(0,sj R T,sk R T):=by
        rcases hx with⟨-,h,-⟩|⟨-,-,h,h2⟩
        · exact absurd rfl h
        · exact⟨h,h2⟩
      rw[pJ];have Xg:=fun vr vt w' h=>Ai vr vt R T w' h;have Jj:=w8 oL;unfold TA at Xg;rw[oL]at Xg;generalize sj R T=MR at*;generalize sk R T=MT at*;have hpc:=fun vr vt w' h=>Iy vr vt MR MT w' h Jj;unfold P_ at hpc
      repeat(first|refine GC ?_|refine gV (bm (b:=false) rfl rfl (decide_eq_false (by simp))) ?_|refine gV (az (i:=13) ak.ty rfl rfl rfl) ?_|refine GB ?_)
      refine aI (jc aj.en rfl rfl) (fun w hm=>Xg _ _ w (hm.ZM (i:=11) (j:=12) rfl (by rw[nk];rfl) oL)) rfl rfl rfl ?_;rintro⟨mr,mt⟩ _;refine zL ?_;dsimp only;refine aD (i:=14) rfl fun _ d1=>aD (i:=15) rfl fun _ d2=>?_
      try refine GA ?_
      refine aE (i:=13) (cs':=(fA mr mt).cells) rfl rfl rfl rfl (by show([mr,mt].all Value.oneCell')=true;simp[d1,d2]) rfl ?_;refine zL ?_
      repeat(first|refine GA ?_|refine gV (az (i:=13) ak.ty rfl rfl rfl) ?_)
      refine aI (jc aj.en rfl rfl) (fun w hm=>hpc _ _ w (hm.ZM (i:=14) (j:=15) rfl rfl Jj)) rfl rfl rfl ?_;rintro⟨gP,Qb,vTP⟩ _;refine zL ?_;dsimp only;refine aD (i:=18) rfl fun _ d3=>?_
      try refine GA ?_
      refine Iq (i:=8) (pk':=fE (ph MR 256) (.slice (some ⟨gP,0,none⟩) MR.length MR.length) vTP) rfl rfl rfl (by have:=sm (ph MR 256) (vn:= .slice (some ⟨gP,0,none⟩) MR.length MR.length) (vt:=vTP) rfl d3;simpa using this) rfl gY (iQ _ _ _) ?_;refine zL ?_
      try refine GA ?_
      exact b9 rfl rfl fun w hm=>hm.bP (S:=FQ gp s MR MT) (vo,vp,F,gP,Qb,vTP) ⟨k1,k2,d3⟩ [8,9,10,16,17,18] (by decide) rfl
end bK
namespace bK
open Go.RowKit bO dc bW eG gh
theorem IA(r:Rl)(l:List Rl)(of:List Bs):mV (r::l) of=if oy r.1=false then 1 else if r.1∈of then 11 else mV l of:=rfl
theorem MC(of hd:List Bs)(x:Bs)(l:List Bs):uD of hd (x::l)=((decide (x∈of)||decide (x∈hd))&&uD of hd l):=rfl
theorem FT(of hd:List Bs)(r:Rl)(l:List Rl):nB of hd (r::l)=(uD of hd r.2&&nB of hd l):=rfl
theorem Ao(v:Value)(s:Sp)(w:World)(h:Mq (ng w) w v s):Calls Tryz.prog 40 #[v] w (bM (ret (.int .i64 (l7 s))) w):=by
  obtain⟨vw,vr,rfl,hw,hr⟩:=h;have hnm:=fun s w=>vJ s w;have hwd:=fun gm w' B ho hl hm=>FE vw vr s.words gm w hw hl w' B ho hm;obtain⟨bw,cw,rfl,-⟩:=hw;obtain⟨br,cr,rfl,hcr,YZ,SH⟩:=hr;unfold maxLen at YZ;have hC:l7 s=if 60<s.words.length\/60<s.words.length+s.rules.length then 2 else if(jb s.words []).1≠0 then(jb s.words []).1 else if mV s.rules (jb s.words []).2≠0 then mV s.rules (jb s.words []).2 else if nB (jb s.words []).2 (s.rules.map (·.1)) s.rules=true then 0 else 11:=rfl
  obtain⟨words,rules⟩:=s;dsimp only at*;refine enter (args:=[.agg #[.slice bw words.length cw,.slice br rules.length cr]]) (n:=99) Tryz.func40 rfl rfl rfl ?_;refine a8 (aL (a_ rfl rfl rfl fun g1=>?_));refine zL ?_
  by_cases c0:60<words.length
  · rw[if_pos (.inl c0)]at hC
    rw[hC]
    repeat(first|refine GA ?_|refine gV (J (v:= .slice bw words.length cw) ak.ty rfl (ah (i:=0) rfl rfl)) ?_)
    exact dx rfl rfl rfl
  by_cases c1:60<words.length+rules.length
  · rw[if_pos (.inr c1)]at hC
    rw[hC]
    repeat(first|refine GA ?_|refine gV (J (v:= .slice bw words.length cw) ak.ty rfl (ah (i:=0) rfl rfl)) ?_|refine gV (J (v:= .slice br rules.length cr) ak.ty rfl (ah (i:=0) rfl rfl)) ?_)
    exact dx rfl rfl rfl
  rw[if_neg (by omega)]at hC;rw[hC]
  repeat(first|refine GA ?_|refine gV (J (v:= .slice bw words.length cw) ak.ty rfl (ah (i:=0) rfl rfl)) ?_|refine gV (J (v:= .slice br rules.length cr) ak.ty rfl (ah (i:=0) rfl rfl)) ?_)
  refine rK fe rfl fun g3=>?_;refine zL ?_;refine rK fe rfl fun g4=>?_;refine zL ?_
  repeat(first|refine GA ?_|refine gV (az (i:=0) ak.ty rfl rfl rfl) ?_)
  refine aR [1] [0,2] (by decide) rfl rfl (eK aj.en rfl rfl rfl) (fun w' mN hb=>hwd g3 w' _ (jz.on (jz.self w) mN (fun o ho=>by simp at ho;subst ho;simp)) (by omega) hb) rfl rfl rfl ?_;rintro⟨m,n⟩ ⟨k1,k2⟩
  conv=>arg 8;simp only[zJ,bZ,ret,id_eq,oz]
  conv=>arg 7;simp only[oz]
  generalize jb words []=W at*;obtain⟨e,of⟩:=W;dsimp only at k1 k2⊢
  by_cases e0:e=0
  · subst e0
    rw[if_neg (by simp)]
    repeat(first|refine GA ?_|refine gV (J (v:= .slice br rules.length cr) ak.ty rfl (ah (i:=0) rfl rfl)) ?_)
    generalize iO:mV rules of=fin;refine dv (ι:=Nat×(Bs->Option Value)×Nat) (fun(k,m2,n2)=>k<=rules.length/\n2<=k/\KeysOf m2 ((rules.take k).map (·.1))/\mV (rules.drop k) of=fin) (fun(k,_,_)=>[(1,.pointer (some ⟨g1,0,none⟩)),(3,.map (some g3)),(4,.map (some g4)),(41,.slice br rules.length cr),(42,.int .i64 rules.length),(43,.int .i64 (k:Int))])
      (fun(_,m2,n2)=>[aw g1 #[.slice bw words.length cw,.slice br rules.length cr] 25,dL fe g4 m2 n2,dL fe g3 m n]) (fun(k,_)=>rules.length-k) (0,fun _=>none,0) ⟨Nat.zero_le _,Nat.le_refl _,fun y=>rfl,iO⟩ ?_
    rintro⟨k,m2,n2⟩ ⟨i1,i2,i3,i4⟩;dsimp only at i1 i2 i3 i4⊢
    by_cases c2:k<rules.length
    · obtain⟨b,off,rfl,_,ef⟩:=SH (by omega)
      obtain⟨bk,ck,q1,-,q3⟩:=w7 ef c2;rw[List.drop_eq_getElem_cons c2,IA]at i4;have H3:(rules.take (k+1)).map (·.1)=(rules.take k).map (·.1)++[rules[k].1]:=by rw[List.take_succ_eq_append_getElem c2,List.map_append];rfl
      have dF:∀(L:List bI) (j:Nat) (u:Value),([str rules[k].1,.slice bk rules[k].2.length ck]:List Value)[j]?=some u->At w L ⟨b,off+k*2+j,none⟩ u:=fun L j u hj=>iw (q1 j u hj);clear ef q1;generalize rules[k]=r at*;obtain⟨nm,bd⟩:=r;dsimp only at*;generalize bd.length=bn at*
      repeat(first|refine GA ?_|refine gV (aC aT.eq ak.ty rfl rfl c2) ?_|refine gV (aH (cs:=[str nm,.slice bk bn ck]) ak.ty rfl rfl (dF _)) ?_)
      clear dF;refine aK rfl fun g7=>?_;refine zL ?_
      try refine GA ?_
      refine fa 3 (cs':=#[str nm,.slice bk bn ck]) ?_;refine zL ?_
      repeat(first|refine GA ?_|refine gV (J (v:=str nm) ak.ty rfl (ah (i:=3) rfl rfl)) ?_)
      refine aI (jc aj.en rfl rfl) (fun w hm=>hnm nm w) rfl rfl rfl ?_;intro _ _;refine zL ?_
      cases hb:oy nm with
      | false=>
        rw[if_pos hb]at i4;subst i4;rw[if_pos (by decide)]
        try refine GA ?_
        exact dx rfl rfl rfl
      | true=>
        rw[if_neg (by rw[hb];decide)]at i4
        cases vv:m nm with
        | some u=>
          rw[if_pos (nC k1 vv)]at i4;subst i4;rw[if_pos (by decide)]
          repeat(first|refine GA ?_|refine gV (J (v:=str nm) ak.ty rfl (ah (i:=3) rfl rfl)) ?_|refine gV (gC fe (x:=nm) aT.eq eX (i:=2) rfl rfl rfl q3 vv) ?_)
          exact dx rfl rfl rfl
        | none=>
          rw[if_neg (nD k1 vv)]at i4
          repeat(first|refine GA ?_|refine gV (J (v:=str nm) ak.ty rfl (ah (i:=3) rfl rfl)) ?_|refine gV (gD fe (x:=nm) aT.eq eX (i:=2) rfl rfl rfl q3 vv) ?_)
          refine jr (i:=1) (x:=nm) (v:= .int .i64 (k:Int)) fe aT.eq rfl rfl rfl rfl q3 (by omega) ?_;refine zL ?_
          try refine GA ?_
          refine cD [0,1,2] ?_;exact fH (k+1,_,_) ⟨by omega,by show(if(m2 nm).isSome then n2 else n2+1)<=k+1;split<;>omega,by show KeysOf _ ((rules.take (k+1)).map (·.1));rw[H3];exact FD i3,i4⟩ (by show rules.length-(k+1)<rules.length-k;omega) (by repeat' (first|exact True.intro|refine And.intro rfl ?_)) rfl
    · obtain rfl:k=rules.length:=by omega
      rw[List.drop_length]at i4;subst i4;rw[List.take_length]at i3;rw[if_neg (by simp[mV])];generalize rules.map (·.1)=hd at*
      repeat(first|refine GA ?_|refine gV (J (v:= .slice br rules.length cr) ak.ty rfl (ah (i:=0) rfl rfl)) ?_)
      refine oX [1,2] ?_;generalize iO:nB of hd rules=fin;refine dv (ι:=Nat) (fun k=>k<=rules.length/\nB of hd (rules.drop k)=fin) (fun k=>[(3,.map (some g3)),(4,.map (some g4)),(66,.slice br rules.length cr),(67,.int .i64 rules.length),(68,.int .i64 (k:Int))])
        (fun _=>[dL fe g4 m2 n2,dL fe g3 m n]) (fun k=>rules.length-k) 0 ⟨Nat.zero_le _,iO⟩ ?_
      rintro k ⟨i5,i6⟩
      by_cases c2:k<rules.length
      · obtain⟨b,off,rfl,_,ef⟩:=SH (by omega)
        obtain⟨bk,ck,q1,q2,q3⟩:=w7 ef c2;rw[List.drop_eq_getElem_cons c2,FT]at i6;have dF:∀(L:List bI) (j:Nat) (u:Value),([str rules[k].1,.slice bk rules[k].2.length ck]:List Value)[j]?=some u->At w L ⟨b,off+k*2+j,none⟩ u:=fun L j u hj=>iw (q1 j u hj);have sb:=q2.flat (by decide);have jZ:=q2.okp;clear ef q1 q2;generalize rules[k]=r at*;obtain⟨nm,bd⟩:=r;dsimp only at*;obtain⟨b2,Bu,jM,wh,RN,y7⟩:=sb
        cases jM
        unfold maxLen at RN
        repeat(first|refine GA ?_|refine gV (aC aT.eq ak.ty rfl rfl c2) ?_|refine gV (aH (cs:=[str nm,.slice bk bd.length ck]) ak.ty rfl rfl (dF _)) ?_)
        clear dF;refine aK rfl fun g11=>?_;refine zL ?_;refine fa 2 (cs':=#[str nm,.slice bk bd.length ck]) ?_;refine zL ?_
        repeat(first|refine GA ?_|refine gV (J (v:= .slice bk bd.length ck) ak.ty rfl (ah (i:=2) rfl rfl)) ?_)
        refine oX [0,1] ?_;generalize ZR:uD of hd bd=ZS at i6;refine dv (ι:=Nat) (fun i=>i<=bd.length/\uD of hd (bd.drop i)=ZS) (fun i=>[(3,.map (some g3)),(4,.map (some g4)),(66,.slice (some ⟨b,off,none⟩) rules.length cr),(67,.int .i64 rules.length),(68,.int .i64 (k:Int)),(73,.slice bk bd.length ck),(74,.int .i64 bd.length),(75,.int .i64 (i:Int))])
          (fun _=>[dL fe g4 m2 n2,dL fe g3 m n]) (fun i=>bd.length-i) 0 ⟨Nat.zero_le _,ZR⟩ ?_
        rintro i ⟨i7,i8⟩
        by_cases c3:i<bd.length
        · obtain⟨b3,TH,rfl,xS⟩:=y7 (by omega)
          have dF:=eN (L:=([dL fe g4 m2 n2,dL fe g3 m n]:List bI)) Ka xS c3 0 _ rfl;rw[List.drop_eq_getElem_cons c3,MC]at i8;have hlen:=jZ bd[i] (List.getElem_mem c3);clear xS jZ y7;generalize bd[i]=x at*
          repeat(first|refine GA ?_|refine gV (aC aT.eq ak.ty rfl rfl c3) ?_|refine gV (J (v:=str x) ak.ty rfl dF) ?_)
          cases vv:m x with
          | some u=>
            rw[decide_eq_true (nC k1 vv),Bool.true_or,Bool.true_and]at i8
            cases IB:m2 x with
            | some u2=>
              repeat(first|refine GA ?_|refine gV (gC fe (x:=x) aT.eq eX (i:=1) rfl rfl rfl hlen vv) ?_|refine gV (gC fe (x:=x) aT.eq eX (i:=0) rfl rfl rfl hlen IB) ?_)
              exact bB (i+1) ⟨by omega,i8⟩ (by show bd.length-(i+1)<bd.length-i;omega)
            | none=>
              repeat(first|refine GA ?_|refine gV (gC fe (x:=x) aT.eq eX (i:=1) rfl rfl rfl hlen vv) ?_|refine gV (gD fe (x:=x) aT.eq eX (i:=0) rfl rfl rfl hlen IB) ?_)
              exact bB (i+1) ⟨by omega,i8⟩ (by show bd.length-(i+1)<bd.length-i;omega)
          | none=>
            cases IB:m2 x with
            | some u2=>
              rw[decide_eq_true (nC i3 IB),Bool.or_true,Bool.true_and]at i8
              repeat(first|refine GA ?_|refine gV (gD fe (x:=x) aT.eq eX (i:=1) rfl rfl rfl hlen vv) ?_|refine gV (gC fe (x:=x) aT.eq eX (i:=0) rfl rfl rfl hlen IB) ?_)
              exact bB (i+1) ⟨by omega,i8⟩ (by show bd.length-(i+1)<bd.length-i;omega)
            | none=>
              rw[decide_eq_false (nD k1 vv),decide_eq_false (nD i3 IB),Bool.or_false,Bool.false_and]at i8;subst i8;rw[Bool.false_and]at i6;rw[<-i6,if_neg (by decide)]
              repeat(first|refine GA ?_|refine gV (gD fe (x:=x) aT.eq eX (i:=1) rfl rfl rfl hlen vv) ?_|refine gV (gD fe (x:=x) aT.eq eX (i:=0) rfl rfl rfl hlen IB) ?_)
              exact dx rfl rfl rfl
        · obtain rfl:i=bd.length:=by omega
          rw[List.drop_length]at i8;have i8:true=ZS:=i8;rw[<-i8,Bool.true_and]at i6
          try refine GA ?_
          exact bB (k+1) ⟨by omega,i6⟩ (by show rules.length-(k+1)<rules.length-k;omega)
      · obtain rfl:k=rules.length:=by omega
        rw[List.drop_length]at i6;have i6:true=fin:=i6;rw[<-i6,if_pos rfl]
        try refine GA ?_
        exact dx rfl rfl rfl
  · rw[if_pos e0]
    repeat(first|refine GC ?_|refine gV (bm (b:=true) rfl rfl (decide_eq_true e0)) ?_|refine GB ?_)
    exact dx rfl rfl rfl
end bK
namespace bK
open Go.RowKit bO dc aB eo
def ZT(n:Nat)(l:List aB.Prod):Prop:=∀p∈l,0<=p.1/\p.1<(n:Int)/\∀x∈p.2,bO.cV x.2
end bK
namespace bK
open Go.RowKit bO dc aB eo
theorem Qc{g:dr}{n:Nat}(h:cz g=0)(hn:g.aU=n):ZT n g.ag/\OG n g.ag:=by
 obtain⟨a1,a2,a3,a4,a5,a6⟩:=bV h;refine⟨fun p hp=>?_,fun p hp x hx h2=>?_⟩
 ·obtain⟨b1,b2,b3,b4⟩:=a6 p hp
  refine⟨b2,by omega,fun x hx=>?_⟩;have:=b4 x hx;unfold right at this;split at this
  ·simp at this;exact⟨by omega,by omega⟩
  ·split at this
   ·simp at this;exact⟨by omega,by omega⟩
   ·simp at this
 ·have:=(a6 p hp).2.2.2 x hx
  unfold right at this;rw[if_neg (by omega),if_pos h2]at this;simp at this;omega
end bK
end Go.Proofs.YtdmgcnggnejnnaaGreat

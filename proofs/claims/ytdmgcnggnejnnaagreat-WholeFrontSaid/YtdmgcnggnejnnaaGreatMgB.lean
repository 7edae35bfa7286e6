/- Part 2 of what WholeFront needs: Read, Seq, ReadM, Room, Shp, Map, RexS, ClsEq, App, RexC, ClassB, ClsRg, KeyG, SmL, ClsHas, RexM, LookOk, RexE, RexPl, RexPr, MixX, RexSz, GramL, StrK, ClassO1, RexI, DfaL, DfaO, Dfa, SmB, MapN, Fam, Sym, SymS, Gram, GramN, TreeL, TreeM, CountL, CountN, CountT, CountR, TreeW, CountX, FactsL, FactsM, FactsN, FactsP, FactsQ, Der, CountU, LlL, ClimbL. -/
import Derived.Test.YtdmgcnggnejnnaaGreatMgA
import Derived.Laws.MakeOwn
import Derived.Laws.AppendOwn
import Derived.Maps.OwnSet
import Derived.DeepKeys4
import Derived.WideKeyEntry
import Derived.ChangeKeysEq
import Derived.Laws.Bits64b
import Derived.Lib.Strings
import Derived.Lib.Slices
import Derived.Lib.Walk
import Derived.Lib.Bytealg
import Derived.StringKeys
namespace Go.Proofs.YtdmgcnggnejnnaaGreat
set_option linter.unusedVariables false
set_option linter.unusedSimpArgs false
set_option maxHeartbeats 16000000
namespace bK
open Go.RowKit bO dc Go.ChangeShapes Go.WideShapes Go.ChangeAt
section
variable{H:Type}{enc0:TypeId×Value->H}{P:Program}{W:World}
def Rp{α:Type}(W:World)(is:List Value->α->Prop)(c:Nat)(v:Value)(l:List α):Prop:=
 ∃base cap,v= .slice base l.length cap/\l.length<=cap/\cap<=maxLen/\(0<l.length->∃b off,base=some ⟨b,off,none⟩/\∀i (h:i<l.length),∃cs,is cs l[i]/\Rd W b (off+i*c) cs)
def pB(enc0:TypeId×Value->H)(P:Program)(W:World)(t:TypeId){α:Type}(is:List Value->α->Prop):Prop:=
 ∀fuel cs x,DataW.trod enc0 P W 0 (fun _=>true) true fuel t cs=some x->∃a,is cs a
theorem pB.mono{t:TypeId}{α:Type}{is YB:List Value->α->Prop}(h:pB enc0 P W t is)(hi:∀cs a,is cs a->YB cs a):pB enc0 P W t YB:=fun f cs x hx=>let ⟨a,ha⟩:=h f cs x hx;⟨a,hi _ _ ha⟩
def isInt(k:IntKind)(lo hi:Int)(cs:List Value)(n:Int):Prop:=cs=[.int k n]/\lo<=n/\n<=hi
def YC(cs:List Value)(s:List UInt8):Prop:=cs=[str s]/\s.length<=9223372036854775807
theorem AD{t:TypeId}{k:IntKind}(ht:P.underlying t=some (.int k)):pB enc0 P W t (isInt k k.min k.max):=fun f cs x h=>by
 obtain⟨n,h1,_,h3⟩:=DataW.trod_int ht h;simp only[Lit.wf,Bool.and_eq_true,decide_eq_true_eq]at h3;exact⟨n,h1,h3.1,h3.2⟩
theorem K6{t:TypeId}(ht:P.underlying t=some (.int .i64)):pB enc0 P W t (isInt .i64 (-9223372036854775808) 9223372036854775807):=(AD ht).mono fun cs n h=>⟨h.1,by simpa[IntKind.min,IntKind.signed,IntKind.bits]using h.2.1,by simpa[IntKind.max,IntKind.signed,IntKind.bits]using h.2.2⟩
theorem K7{t:TypeId}(ht:P.underlying t=some (.int .u64)):pB enc0 P W t (isInt .u64 0 18446744073709551615):=(AD ht).mono fun cs n h=>⟨h.1,by simpa[IntKind.min,IntKind.signed,IntKind.bits]using h.2.1,by simpa[IntKind.max,IntKind.signed,IntKind.bits]using h.2.2⟩
def YD{α:Type}(W:World)(is:List Value->α->Prop)(c:Nat)(cs:List Value)(l:List α):Prop:=∃v,cs=[v]/\Rp W is c v l
def UJ{α:Type}(is:List Value->α->Prop)(m c:Nat)(cs:List Value)(l:List α):Prop:=l.length=m/\∀i (h:i<l.length),is ((cs.drop (i*c)).take c) l[i]
theorem D6{t e:TypeId}{m c:Nat}(ht:P.underlying t=some (.array m e))(hc:P.cellsOf e=c){α:Type}{is:List Value->α->Prop}(hd:pB enc0 P W e is):pB enc0 P W t (fun cs l=>cs.length=P.cellsOf t/\UJ is m c cs l):=fun fuel cs x h=>by
 obtain⟨xs,n,_,_,hl,hlen,hf⟩:=DataW.trod_array ht h;have each:∀i,i<m->∃y:α,is ((cs.drop (i*c)).take c) y:=fun i hi=>by
  have h1:=hf i hi;rw[hc,List.getElem?_eq_getElem (by omega)]at h1;exact hd n _ _ h1
 obtain⟨l,K8,hp⟩:=wC m each;exact⟨l,hl,K8,fun i hi=>hp i _ (List.getElem?_eq_getElem hi)⟩
def NU(k:IntKind)(lo hi:Int)(m:Nat)(cs:List Value)(l:List Int):Prop:=l.length=m/\cs=l.map (.int k)/\∀x∈l,lo<=x/\x<=hi
theorem D7{k:IntKind}{lo hi:Int}{m:Nat}{cs:List Value}{l:List Int}(hl:cs.length=m)(h:UJ (isInt k lo hi) m 1 cs l):NU k lo hi m cs l:=by
 obtain⟨h1,h2⟩:=h;refine⟨h1,?_,fun x hx=>?_⟩
 ·apply List.ext_getElem?
  intro i
  by_cases hi:i<l.length
  ·have h3:=(h2 i hi).1
   rw[Nat.mul_one]at h3;have hic:i<cs.length:=by omega
   rw[List.drop_eq_getElem_cons hic,List.take_succ_cons,List.take_zero]at h3;injection h3 with h3 _
   rw[List.getElem?_eq_getElem hic,List.getElem?_map,List.getElem?_eq_getElem hi,h3];rfl
  ·rw[List.getElem?_eq_none (by omega),List.getElem?_eq_none (by simp;omega)]
 ·obtain⟨i,hi,rfl⟩:=List.mem_iff_getElem.1 hx
  exact(h2 i hi).2
theorem RZ{t:TypeId}{fs:Array Field}(ht:P.underlying t=some (.struct fs)){base:Nat}{v:Value}{d:DataW H}{ps:List MemPlace}(hv:Value.okWide P W .any base t v)(h:DataW.Trod enc0 P W 0 (fun _=>true) true t v d ps):∃cs fuel,v= .agg cs/\DataW.trod enc0 P W 0 (fun _=>true) true fuel t cs.toList=some (d,ps):=by
 simp only[Value.okWide,ht]at hv;obtain⟨cs,rfl,_,_⟩:=hv;obtain⟨fuel,hf⟩:=h;exact⟨cs,fuel,rfl,hf⟩
end
theorem Rp.sl{α:Type}{W:World}{is:List Value->α->Prop}{f:α->Value}{v:Value}{l:List α}(h:Rp W is 1 v l)(hf:∀cs a,is cs a->cs=[f a]):Sl W v l.length (l.map f):=by
 obtain⟨base,cap,h1,h2,h3,h4⟩:=h;refine⟨base,cap,h1,h2,h3,fun h0=>?_⟩;obtain⟨b,off,h5,h6⟩:=h4 h0;refine⟨b,off,h5,fun j u hj=>?_⟩;have Nu:j<l.length:=by simpa using(List.getElem?_eq_some_iff.1 hj).1
 obtain⟨cs,h7,h8⟩:=h6 j Nu;have:=h8 0 (f l[j]) (by rw[hf _ _ h7];rfl);simp only[Nat.mul_one,Nat.add_zero]at this;rw[this,<-hj];simp[Nu]
end bK
namespace bK
open Go.RowKit bO dc
section
variable{α:Type}{f:α->List Value}{c:Nat}
theorem rG(hc:∀a,(f a).length=c):∀(l:List α) (k j:Nat) (h:k<l.length),j<c->(l.flatMap f)[k*c+j]?=(f l[k])[j]?
 |a::r,0,j,h,hj=>by
  rw[List.flatMap_cons,List.getElem?_append_left (by rw[hc];omega)];simp
 |a::r,k+1,j,h,hj=>by
  have ih:=rG hc r k j (by simpa using h) hj;rw[List.flatMap_cons,List.getElem?_append_right (by rw[hc,Nat.succ_mul];omega),hc];simp only[List.getElem_cons_succ];rw[<-ih,Nat.succ_mul]
  congr 1
  omega
theorem ka(hc:∀a,(f a).length=c):∀(l:List α),(l.flatMap f).length=l.length*c
 |[]=>by simp
 |a::r=>by rw[List.flatMap_cons,List.length_append,hc,ka hc r,List.length_cons,Nat.succ_mul,Nat.add_comm]
theorem eN(hc:∀a,(f a).length=c){W:World}{L:List bI}{b off:Nat}{l:List α}(h:Rd W b off (l.flatMap f)){k:Nat}(hk:k<l.length)(j:Nat)(u:Value)(hu:(f l[k])[j]?=some u):At W L ⟨b,off+k*c+j,none⟩ u:=by
 have hj:j<c:=by rw[<-hc l[k]];exact(List.getElem?_eq_some_iff.1 hu).1
 rw[Nat.add_assoc];exact f_ h (by rw[rG hc l k j hk hj];exact hu)
theorem pC(hc:∀a,(f a).length=c){W:bC}{L:List bI}{b off:Nat}{l:List α}(h:∀j u,(l.flatMap f)[j]?=some u->At W L ⟨b,off+j,none⟩ u){k:Nat}(hk:k<l.length)(j:Nat)(u:Value)(hu:(f l[k])[j]?=some u):At W L ⟨b,off+k*c+j,none⟩ u:=by
 have hj:j<c:=by rw[<-hc l[k]];exact(List.getElem?_eq_some_iff.1 hu).1
 rw[Nat.add_assoc];exact h _ _ (by rw[rG hc l k j hk hj];exact hu)
theorem kA(hc:∀a,(f a).length=c){W:bC}{L:List bI}{i g m cap n size:Nat}{e:TypeId}{l:List α}(hi:L[i]?=some (aM e size (.slice (some ⟨g,0,none⟩) m cap) n (l.flatMap f))){k:Nat}(hk:k<l.length)(j:Nat)(u:Value)(hu:(f l[k])[j]?=some u):At W L ⟨g,0+k*c+j,none⟩ u:=
 pC hc (off:=0) (fun q x hq=>by rw[Nat.zero_add];exact ix hi hq) hk j u hu
end
def oY{α:Type}(p:α->Bool)(l:List α):Int:=match l.findIdx? p with|some i=>i|none=> -1
theorem qG{α:Type}{p:α->Bool}{l:List α}{i:Nat}(hi:i<l.length)(h:p l[i]=true)(hb:∀j (hj:j<l.length),j<i->p l[j]=false):oY p l=i:=by
 have:l.findIdx? p=some i:=List.findIdx?_eq_some_iff_getElem.2 ⟨hi,h,fun j BU=>by simpa using hb j (by omega) BU⟩;simp[oY,this]
theorem qH{α:Type}{p:α->Bool}{l:List α}(hb:∀j (hj:j<l.length),p l[j]=false):oY p l= -1:=by
 have:l.findIdx? p=none:=List.findIdx?_eq_none_iff.2 fun x hx=>by
  obtain⟨j,hj,rfl⟩:=List.mem_iff_getElem.1 hx;exact hb j hj
 simp[oY,this]
theorem sP{α:Type}(p:α->Bool)(l:List α):decide (0<=oY p l)=l.any p:=by
 unfold oY
 cases e:l.findIdx? p with
 | none=>
  have:=List.findIdx?_eq_none_iff.1 e;have h2:l.any p=false:=by
   rw[List.any_eq_false];intro x hx;simp[this x hx]
  rw[h2];rfl
 |some i=>
  obtain⟨h1,h2,_⟩:=List.findIdx?_eq_some_iff_getElem.1 e;have h3:l.any p=true:=List.any_eq_true.2 ⟨l[i],List.getElem_mem h1,h2⟩;rw[h3];simp
theorem nS{α:Type}(p:α->Bool)(l:List α): -1<=oY p l/\oY p l<l.length\/oY p l= -1:=by
 unfold oY
 cases e:l.findIdx? p with
 |none=>right;rfl
 |some i=>
  obtain⟨h1,h2,_⟩:=List.findIdx?_eq_some_iff_getElem.1 e
  left;simp only;omega
section
variable{P:Program}{n:Nat}{W:bC}{fr:Fr}{L:List bI}{Q:Exit->Act->World->Prop}{ops:Array Oper}{rest:List Oper}{d:Nat}{dst:Option Tmp}{ty:TypeId}{pos:String}{after:Array Edge}{guard:Option (Nat×Bool)}
theorem nb{t e u:TypeId}{x y:Operand}{a:Option Addr}{m c:Nat}{b:Bool}(ht:P.underlying t=some (.slice e))(hx:ev fr x=some (.slice a m c))(hy:ev fr y=some (.slice none 0 0))(hb:a.isNone=b):RR P n W ⟨dst,.binOp .eql t x y u,ty,pos,after,guard⟩ fr L (.bool b):= .mk fun ac w hr _=>by
 subst hb;have e1:(eqGuard .eql t x y (.slice a m c) (.slice none 0 0)).run P w= .ok () w:=rfl;simp[execOp,hr.ev hx,hr.ev hy,e1,Go.Lib.run_eql_slice_nil w t e a m c 0 0 ht]
theorem B6{t e:TypeId}{c bytes:Nat}[qZ:mX P t e c bytes](hn:Nat.blt d n=true)
 (h:∀g,TL P n W ops Q rest ((d,.slice (some ⟨g,0,none⟩) 0 0)::fr) (L++[aM e c (.slice (some ⟨g,0,none⟩) 0 0) 0 []])):TL P n W ops Q (⟨some d,.buildSlice t 0 #[],ty,pos,after,none⟩::rest) fr L:=iV rfl fun a w hr hm K hK=>by
 obtain⟨i,z,ht,hi,hz,hc,_,XQ,h0⟩:=qZ.el.ex;have e':(execOp a.eval ⟨some d,.buildSlice t 0 #[],ty,pos,after,none⟩).run P w= .ok (.value (.slice (some ⟨w.heap.size,0,none⟩) 0 0)) (w.alloc (.cells #[] e)):=by
  have hne:¬(0*c>2^24):=by omega
  simp[execOp,Instr.buildSlice,run_underlying ht,sizeOf,typeInfo,hi,Instr.fill,newRow];have e0:Array.range 0=#[]:=by simp
  rw[e0,Array.map_empty]
 unfold Oper.wp;rw[e'];exact hK _ _ ((h w.heap.size).go _ _ (hr.put hn _) (hm.append (kz w _) (mZ.one (World.ownsRow_made w #[] 0 (Nat.zero_le _) (by decide) (by simp)) fun k hk=>by
  have:w.heap.size=k:=Option.some.inj hk;omega)))
theorem dw{t e:TypeId}{s x:Operand}{i size bytes m k:Nat}{v v2:Value}{xs ys:List Value}[qZ:mX P t e size bytes](hi:L[i]?=some (aM e size v m xs))(eh:RP W L v2 k ys)(hs:ev fr s=some v)(hx:ev fr x=some v2)(hk:ys.length=k*size)
    (h1:∀u∈ys,u.oneCell'=true) (qD:m+k<=140737488355328) (hb:(m+k)*bytes<=140737488355328) (hn:Nat.blt d n=true)
    (h:∀v',TL P n W ops Q rest ((d,v')::fr) (L.set i (aM e size v' (m+k) (xs++ys)))):
    TL P n W ops Q (⟨some d,.call {callee:= .builtin .append,args:=#[s,x],argTypes:=#[t,t]},ty,pos,after,none⟩::rest) fr L:=⟨fun a w hr hm=>by
  obtain⟨base,cap,rfl,oL,wh,ef⟩:=eh w hm;have q6:ys=[]->L.set i (aM e size v (m+0) (xs++[]))=L:=fun _=>by
    rw[List.append_nil,Nat.add_zero];apply List.ext_getElem?;intro q
    by_cases hq:i=q
    · subst hq
      rw[List.getElem?_set_self (List.getElem?_eq_some_iff.1 hi).1,hi]
    · rw[List.getElem?_set_ne hq]
  cases base with
  | none=>
    have hk0:k=0:=by
      rcases Nat.eq_zero_or_pos k with h|h
      · exact h
      · obtain⟨b,off,h,_⟩:=ef h;cases h
    subst hk0;have hy:ys=[]:=List.eq_nil_of_length_eq_zero (by rw[hk];simp);subst hy;have h2:=h v;rw[q6 rfl]at h2;exact(G6 qZ.el hi hs hx hn h2).go a w hr hm
  | some p=>
    have NV:∀j u,ys[j]?=some u->w.cell? (p.add j)=some u:=fun j u hj=>by
      obtain⟨b,off,hb,hr⟩:=ef (by
        rcases Nat.eq_zero_or_pos k with h|h
        · subst h
          have:=(List.getElem?_eq_some_iff.1 hj).1;rw[hk]at this;simp at this
        · exact h)
      simp only[Option.some.injEq]at hb;subst hb;rw[eS];exact hr j u hj
    exact B1 (c:=cap) qZ.el hi hs hx NV hk h1 qD hb hn h hr hm⟩
theorem aD{i size m:Nat}{e:TypeId}{v:Value}{xs:List Value}(hi:L[i]?=some (aM e size v m xs))(h:v.cells=#[v]->v.oneCell'=true->TL P n W ops Q rest fr L):TL P n W ops Q rest fr L:=⟨fun a w hr hm=>by
 have h1:w.ownsRow 0 e size v m xs:=hm.get hi;rcases h1.2 with⟨hv,_⟩|⟨g,cap,kK,hv,_⟩
 ·exact(h (by rw[hv];rfl) (by rw[hv];rfl)).go a w hr hm
 ·exact(h (by rw[hv];rfl) (by rw[hv];rfl)).go a w hr hm⟩
def wj(base:Option Addr)(cap c i j:Nat):Value:= .slice (if cap=i then base else base.map (fun(q:Addr)=>q.add (i*c))) (j-i) (cap-i)
theorem D8{t e:TypeId}{x:Operand}{lo hi:Option Operand}{agg:Bool}{c i j len cap:Nat}{base:Option Addr}(ht:P.underlying t=some (.slice e))(he:Ty P e agg c)(hx:ev fr x=some (.slice base len cap))
 (VZ:match lo with|none=>i=0|some z=>∃k,ev fr z=some (.int k (i:Int))) (XT:match hi with|none=>j=len|some z=>∃k,ev fr z=some (.int k (j:Int))) (h1:i<=j) (h2:j<=cap):
 RR P n W ⟨dst,.slice t x lo hi none,ty,pos,after,guard⟩ fr L (wj base cap c i j):= .mk fun a w hr _=>by
 have e0:(0:Int)<=(i:Int):=by omega
 have hb:∀(k:IntKind) (p q:Nat) (cd:BoundsCode),p<=q->(Instr.sliceBound (.int k (p:Int)) q cd).run P w= .ok p w:=fun k p q cd h=>by
  have:(0:Int)<=(p:Int)/\(p:Int)<=(q:Int):=by omega
  simp[Instr.sliceBound,asIntOf,this]
 unfold wj
 cases lo<;>cases hi
 ·simp only at VZ XT
  subst VZ XT;simp[execOp,hr.ev hx,Instr.sliceAt,Instr.slice,run_underlying ht,Instr.sliceBounds,he.size]
 ·obtain⟨k,hk⟩:=XT
  simp only at VZ;subst VZ;simp[execOp,hr.ev hx,hr.ev hk,Instr.sliceAt,Instr.slice,run_underlying ht,Instr.sliceBounds,he.size,hb k j cap _ h2]
 ·obtain⟨k,hk⟩:=VZ
  simp only at XT;subst XT;simp[execOp,hr.ev hx,hr.ev hk,Instr.sliceAt,Instr.slice,run_underlying ht,Instr.sliceBounds,he.size,hb k i j _ h1]
 ·obtain⟨k,hk⟩:=VZ
  obtain⟨k',kp⟩:=XT;simp[execOp,hr.ev hx,hr.ev hk,hr.ev kp,Instr.sliceAt,Instr.slice,run_underlying ht,Instr.sliceBounds,he.size,hb k i j _ h1,hb k' j cap _ h2]
theorem t_{t e:TypeId}{x z:Operand}{agg:Bool}{c i len cap:Nat}{base:Option Addr}{k:IntKind}(ht:P.underlying t=some (.slice e))(he:Ty P e agg c)(hx:ev fr x=some (.slice base len cap))(hz:ev fr z=some (.int k (i:Int)))(h1:i<=len)(h2:len<=cap):
 RR P n W ⟨dst,.slice t x (some z) none none,ty,pos,after,guard⟩ fr L (wj base cap c i len):=D8 (lo:=some z) (hi:=none) ht he hx ⟨k,hz⟩ rfl h1 h2
theorem qI{t e:TypeId}{x z:Operand}{agg:Bool}{c j len cap:Nat}{base:Option Addr}{k:IntKind}(ht:P.underlying t=some (.slice e))(he:Ty P e agg c)(hx:ev fr x=some (.slice base len cap))(hz:ev fr z=some (.int k (j:Int)))(h2:j<=cap):
 RR P n W ⟨dst,.slice t x none (some z) none,ty,pos,after,guard⟩ fr L (wj base cap c 0 j):=D8 (lo:=none) (hi:=some z) ht he hx rfl ⟨k,hz⟩ (Nat.zero_le _) h2
theorem rH{α:Type}{f:α->List Value}{c:Nat}(hc:∀a,(f a).length=c){w:World}{base:Option Addr}{cap:Nat}{l:List α}(h:Sl w (.slice base l.length cap) l.length (l.flatMap f)){i j:Nat}(h1:i<=j)(h2:j<=l.length):
 Sl w (wj base cap c i j) ((l.drop i).take (j-i)).length (((l.drop i).take (j-i)).flatMap f):=by
 obtain⟨b,cp,he,k1,k2,k3⟩:=h;simp only[Value.slice.injEq,true_and]at he;obtain⟨rfl,rfl⟩:=he;have hlen:((l.drop i).take (j-i)).length=j-i:=by simp;omega
 refine⟨_,cap-i,by rw[hlen];rfl,by rw[hlen];omega,by omega,fun h0=>?_⟩;rw[hlen]at h0;obtain⟨b,off,rfl,hr⟩:=k3 (by omega);refine⟨b,off+i*c,by rw[if_neg (by omega),Option.map_some,eS],fun q u hq=>?_⟩;have e:l.flatMap f=(l.take i).flatMap f++((l.drop i).take (j-i)).flatMap f++((l.drop i).drop (j-i)).flatMap f:=by
  rw[<-List.flatMap_append,<-List.flatMap_append,List.append_assoc,List.take_append_drop,List.take_append_drop]
 have B7:((l.take i).flatMap f).length=i*c:=by rw[ka hc,List.length_take,Nat.min_eq_left (by omega)]
 have:=hr (i*c+q) u (by
  rw[e,List.append_assoc,List.getElem?_append_right (by omega),B7,Nat.add_sub_cancel_left,List.getElem?_append_left (List.getElem?_eq_some_iff.1 hq).1];exact hq)
 rw[Nat.add_assoc];exact this
theorem jB{i size m:Nat}{e:TypeId}{v:Value}{xs:List Value}(hi:L[i]?=some (aM e size v m xs))(h:∀base cap,v= .slice base m cap->m<=cap->cap<=9223372036854775807->TL P n W ops Q rest fr L):TL P n W ops Q rest fr L:=⟨fun a w hr hm=>by
 have h1:w.ownsRow 0 e size v m xs:=hm.get hi;obtain⟨base,cap,hv,oL,wh,_⟩:=Sl.cI h1;exact(h base cap hv oL (by unfold maxLen at wh;omega)).go a w hr hm⟩
theorem NW{c:Code}{i size m:Nat}{e:TypeId}{v:Value}{xs:List Value}(hi:L[i]?=some (aM e size v m xs))(h:∀base cap,v= .slice base m cap->m<=cap->cap<=9223372036854775807->T P n W c Q fr L):T P n W c Q fr L:=⟨fun a w hr hm=>by
 have h1:w.ownsRow 0 e size v m xs:=hm.get hi;obtain⟨base,cap,hv,oL,wh,_⟩:=Sl.cI h1;exact(h base cap hv oL (by unfold maxLen at wh;omega)).go a w hr hm⟩
theorem Jh{c:Code}{i size m:Nat}{e:TypeId}{v:Value}{xs:List Value}(hi:L[i]?=some (aM e size v m xs))(h:v.cells=#[v]->v.oneCell'=true->T P n W c Q fr L):T P n W c Q fr L:=⟨fun a w hr hm=>by
 have h1:w.ownsRow 0 e size v m xs:=hm.get hi;obtain⟨base,cap,hv,_⟩:=Sl.cI h1;exact(h (by rw[hv];rfl) (by rw[hv];rfl)).go a w hr hm⟩
def AE(fr:Fr):List Operand->Option (List Value)
 |[]=>some []
 |x::r=>match ev fr x,AE fr r with|some v,some l=>some (v::l)|_,_=>none
theorem xE{a:Act}(hr:jP n a fr):∀(l:List Operand) (vs:List Value),AE fr l=some vs->l.map a.eval=vs
  |[],vs,h=>by simp only[AE,Option.some.injEq]at h;subst h;rfl
  | x ::r,vs,h=>by
    simp only[AE]at h;split at h
    · rename_i v l h1 h2
      simp only[Option.some.injEq]at h;subst h;simp[hr.ev h1,xE hr r l h2]
    · cases h
theorem nT{fn:Fn}{first cap:Array Operand}{vs us:List Value}(h1:AE fr first.toList=some vs)(h2:AE fr cap.toList=some us):RR P n W ⟨dst,.makeFunc fn first cap,ty,pos,after,guard⟩ fr L (.func fn vs.toArray us.toArray):= .mk fun a w hr _=>by
 have e1:first.map a.eval=vs.toArray:=by rw[<-xE hr _ _ h1,<-Array.toList_map,Array.toArray_toList]
 have e2:cap.map a.eval=us.toArray:=by rw[<-xE hr _ _ h2,<-Array.toList_map,Array.toArray_toList]
 simp only[execOp,e1,e2];rfl
end
end bK
namespace bK
open Go.RowKit bO dc Go.ChangeShapes Go.WideShapes Go.ChangeAt
structure R4(P:Program)(H:Type) where
 ok:TypeId->DataW H->Prop
 lim:TypeId->Nat->Prop
 V0:Nat->Prop
 zero:∀e,lim e 0
 slice:∀{t e:TypeId} {elems spare:List (DataW H)},P.underlying t=some (.slice e)->ok t (.slice elems spare)->lim e elems.length/\∀d∈elems,ok e d
 NX:∀{t:TypeId} {fs:Array Field} {parts:List (DataW H)},P.underlying t=some (.struct fs)->ok t (.agg parts)->∀(i:Nat) (f:Field) (d:DataW H),fs[i]?=some f->parts[i]?=some d->ok f.type d
 arr:∀{t e:TypeId} {m:Nat} {parts:List (DataW H)},P.underlying t=some (.array m e)->ok t (.agg parts)->∀d∈parts,ok e d
 str:∀{t:TypeId} {b:List UInt8},ok t (.lit (.string b))->V0 b.length
section
variable{H:Type}{P:Program}
theorem pD{e:TypeId}:∀(l:List (DataW H)) (d:DataW H),d∈l->∀n∈d.weights P e,n∈DataW.weightsAll P e l
 |[],_,h,_,_=>by cases h
 |x::r,d,h,n,hn=>by
  rw[DataW.weightsAll,List.mem_append];rcases List.mem_cons.1 h with rfl|h
  ·exact .inl hn
  ·exact .inr (pD r d h n hn)
theorem nU:∀(ts:List TypeId) (l:List (DataW H)) (i:Nat) (t:TypeId) (d:DataW H),ts[i]?=some t->l[i]?=some d->∀n∈d.weights P t,n∈DataW.weightsEach P ts l
 |[],_,_,_,_,h,_,_,_=>by simp at h
 |_::_,[],_,_,_,_,h,_,_=>by simp at h
 |t0::ts,d0::l,0,t,d,ht,hd,n,hn=>by
  simp only[List.getElem?_cons_zero,Option.some.injEq]at ht hd;subst ht hd;rw[DataW.weightsEach,List.mem_append];exact .inl hn
 |t0::ts,d0::l,i+1,t,d,ht,hd,n,hn=>by
  rw[DataW.weightsEach,List.mem_append];exact .inr (nU ts l i t d (by simpa using ht) (by simpa using hd) n hn)
def Ji(P:Program)(H:Type):R4 P H where
  ok t d:=∀n∈d.weights P t,n<=reachBytes
  lim e n:=n*P.bytesOf e<=reachBytes
  V0 n:=n<=reachBytes
  zero e:=by simp
  slice:=fun {t e elems spare} ht h=>by
    have hw:DataW.weights P t (.slice elems spare)=(elems.length+spare.length)*P.bytesOf e::(DataW.weightsAll P e elems++DataW.weightsAll P e spare):=by rw[DataW.weights,ht]
    rw[hw]at h;refine⟨?_,fun d hd n hn=>h n ?_⟩
    · have h1:=h _ (List.mem_cons_self)
      exact Nat.le_trans (Nat.mul_le_mul_right _ (by omega)) h1
    · exact List.mem_cons_of_mem _ (List.mem_append_left _ (pD elems d hd n hn))
  NX:=fun {t fs parts} ht h i f d hf hd n hn=>by
    have hw:DataW.weights P t (.agg parts)=DataW.weightsEach P (fs.toList.map (·.type)) parts:=by rw[DataW.weights,ht]
    rw[hw]at h;exact h n (nU _ _ i f.type d (by rw[List.getElem?_map,Array.getElem?_toList,hf];rfl) hd n hn)
  arr:=fun {t e m parts} ht h d hd n hn=>by
    have hw:DataW.weights P t (.agg parts)=DataW.weightsAll P e parts:=by rw[DataW.weights,ht]
    rw[hw]at h;exact h n (pD parts d hd n hn)
  str:=fun {t b} h=>h _ (by rw[DataW.weights];exact List.mem_cons_self)
theorem D9{ts:List TypeId}{ds:List (DataW H)}(hsz:(DataW.weightsEach P ts ds).all (· <=reachBytes)=true)(j:Nat){t:TypeId}{d:DataW H}(ht:ts[j]?=some t)(hd:ds[j]?=some d):(Ji P H).ok t d:=fun n hn=>by
 have:=List.all_eq_true.1 hsz n (nU ts ds j t d ht hd n hn)
 simpa using this
end
section
variable{H:Type}{enc0:TypeId×Value->H}{P:Program}{W:World}{M:R4 P H}
def iz(M:R4 P H)(enc0:TypeId×Value->H)(W:World)(t:TypeId){α:Type}(is:List Value->α->Prop):Prop:=
 ∀fuel cs x,DataW.trod enc0 P W 0 (fun _=>true) true fuel t cs=some x->M.ok t x.1->∃a,is cs a
theorem iz.mono{t:TypeId}{α β:Type}{is:List Value->α->Prop}{YB:List Value->β->Prop}(h:iz M enc0 W t is)(hi:∀cs a,is cs a->∃b,YB cs b):iz M enc0 W t YB:=fun f cs x hx hm=>let ⟨_,ha⟩:=h f cs x hx hm;hi _ _ ha
theorem AF{t:TypeId}{α:Type}{is:List Value->α->Prop}(h:pB enc0 P W t is):iz M enc0 W t is:=fun f cs x hx _=>h f cs x hx
theorem Ha{t:TypeId}(ht:P.underlying t=some (.int .i64)):iz M enc0 W t (isInt .i64 (-9223372036854775808) 9223372036854775807):=AF (K6 ht)
theorem rI{t:TypeId}(ht:P.underlying t=some .string):iz M enc0 W t (fun cs s=>YC cs s/\M.V0 s.length):=fun f cs x h hm=>by
 obtain⟨s,h1,h2,h3⟩:=DataW.trod_string ht h;refine⟨s.data.toList,⟨by rw[h1,G1],?_⟩,?_⟩
 ·have e:s.data.toList.length=s.size:=Array.length_toList
  unfold maxLen at h3;omega
 ·rw[h2]at hm
  exact M.str hm
theorem nV{t e:TypeId}{c:Nat}(ht:P.underlying t=some (.slice e))(hc:P.cellsOf e=c)(DG:0<c){α:Type}{is:List Value->α->Prop}(hd:iz M enc0 W e is)(_:∀cs a,is cs a->cs.length=c):iz M enc0 W t (fun cs l=>YD W is c cs l/\M.lim e l.length):=fun fuel cs x h hm=>by
  rcases DataW.trod_slice ht h with⟨rfl,_⟩|⟨a,len,cap,elems,rest,n,_,rfl,hx,_,V1,hmx,qZ,xl,_⟩
  · exact⟨[],⟨_,rfl,none,0,rfl,Nat.le_refl _,by decide,fun h=>by simp at h⟩,M.zero e⟩
  · rw[hx]at hm
    obtain⟨xF,mY⟩:=M.slice ht hm;have each:∀i,i<len->∃y:α,∃cs,W.cells? 0 (a.add (i*c)) c=some cs/\is cs y:=fun i hi=>by
      have h1:=xl i hi;rw[hc,List.getElem?_eq_getElem (by omega)]at h1
      cases hcell:W.cells? 0 (a.add (i*c)) c with
      |none=>rw[hcell]at h1;simp at h1
      | some cs=>
        rw[hcell]at h1;obtain⟨y,hy⟩:=hd n cs _ h1 (mY _ (List.mem_map.2 ⟨_,List.getElem_mem (by omega),rfl⟩));exact⟨y,cs,rfl,hy⟩
    obtain⟨l,K8,hp⟩:=wC len each;subst K8;refine⟨l,⟨_,rfl,some a,cap,rfl,V1,hmx,fun h0=>?_⟩,by rw[List.length_map,qZ]at xF;exact xF⟩;obtain⟨cs0,h1,h2⟩:=hp 0 l[0] (List.getElem?_eq_getElem h0);have h3:=(iq h1).2 0 DG;have hlen:=(iq h1).1;rw[List.getElem?_eq_getElem (by omega)]at h3;have hsp:=As h3;have e0:a.spot=none:=by
      rw[Nat.zero_mul]at hsp;unfold Addr.add at hsp
      simpa using hsp
    obtain⟨b,off,spot⟩:=a;simp only at e0;subst e0;refine⟨b,off,rfl,fun i hi=>?_⟩;obtain⟨cs,h4,h5⟩:=hp i l[i] (List.getElem?_eq_getElem hi);refine⟨cs,h5,fun j u hj=>?_⟩;have Nu:j<c:=by have:=(List.getElem?_eq_some_iff.1 hj).1;rw[(iq h4).1]at this;exact this
    have h6:=(iq h4).2 j Nu;rw[eS,eS]at h6;rw[h6];exact hj
theorem t'{t:TypeId}{fs:Array Field}(ht:P.underlying t=some (.struct fs)){fuel:Nat}{cs:List Value}{x:DataW H×List MemPlace}(h:DataW.trod enc0 P W 0 (fun _=>true) true fuel t cs=some x)(hm:M.ok t x.1):
 cs.length=P.cellsOf t/\∀(i:Nat) (f:Field),fs[i]?=some f->∀{α:Type} {is:List Value->α->Prop},iz M enc0 W f.type is->∃a,is ((cs.drop f.offset).take (P.cellsOf f.type)) a:=by
 obtain⟨xs,n,_,hx,hl,hlen,hf⟩:=DataW.trod_struct ht h;refine⟨hl,fun i f hi α is ho=>?_⟩;have h1:=hf i f hi;have hlt:i<xs.length:=by rw[hlen];exact(Array.getElem?_eq_some_iff.1 hi).1
 rw[List.getElem?_eq_getElem hlt]at h1;rw[hx]at hm;exact ho n _ _ h1 (M.NX ht hm i f _ hi (by rw[List.getElem?_map,List.getElem?_eq_getElem hlt];rfl))
theorem NY{t:TypeId}{fs:Array Field}(ht:P.underlying t=some (.struct fs)){base:Nat}{v:Value}{d:DataW H}{ps:List MemPlace}(hv:Value.okWide P W .any base t v)(h:DataW.Trod enc0 P W 0 (fun _=>true) true t v d ps){α:Type}{is:List Value->α->Prop}(ho:iz M enc0 W t is)(hm:M.ok t d):∃cs a,v= .agg cs/\is cs.toList a:=by
 obtain⟨cs,fuel,rfl,hf⟩:=RZ ht hv h;obtain⟨a,ha⟩:=ho fuel cs.toList _ hf hm;exact⟨cs,a,rfl,ha⟩
end
theorem Rp.flat{α:Type}{W:World}{is:List Value->α->Prop}{f:α->List Value}{c:Nat}{v:Value}{l:List α}(h:Rp W is c v l)(hc:∀a,(f a).length=c)(DG:0<c)(hf:∀cs a,is cs a->cs=f a):Sl W v l.length (l.flatMap f):=by
 obtain⟨base,cap,h1,h2,h3,h4⟩:=h;refine⟨base,cap,h1,h2,h3,fun h0=>?_⟩;obtain⟨b,off,h5,h6⟩:=h4 h0;refine⟨b,off,h5,fun j u hj=>?_⟩;have Nu:=(List.getElem?_eq_some_iff.1 hj).1;rw[DR hc]at Nu;have hi:j/c<l.length:=(Nat.div_lt_iff_lt_mul DG).2 Nu;have V2:=Nat.mod_lt j DG;have XU:j/c*c+j %c=j:=by rw[Nat.mul_comm];exact Nat.div_add_mod j c
 obtain⟨cs,h7,h8⟩:=h6 (j/c) hi;rw[hf _ _ h7]at h8;have h9:=uQ hc l (j/c) (j %c) l[j/c] (List.getElem?_eq_getElem hi) V2;rw[XU]at h9;rw[h9]at hj;have:=h8 (j %c) u hj;rw[Nat.add_assoc,XU]at this;exact this
end bK
namespace bK
open Go.RowKit bO dc
section
variable{P:Program}{n:Nat}{W:bC}{fr:Fr}{L:List bI}{Q:Exit->Act->World->Prop}{ops:Array Oper}{rest:List Oper}{d:Nat}{dst:Option Tmp}{ty:TypeId}{pos:String}{after:Array Edge}{guard:Option (Nat×Bool)}
theorem pE{t e:TypeId}{x y:Operand}{c bytes m cap:Nat}{k k':IntKind}{zs:Array Value}[qZ:mX P t e c bytes][hz0:aQ P e zs](hx:ev fr x=some (.int k (m:Int)))(hy:ev fr y=some (.int k' (cap:Int)))(Jj:m<=cap)(hb:bytes*cap<=281474976710656)(qD:cap<=9223372036854775807)(hn:Nat.blt d n=true)
 (h:∀g,TL P n W ops Q rest ((d,.slice (some ⟨g,0,none⟩) m cap)::fr) (L++[aw g (madeCells zs (cap*c)) e])):TL P n W ops Q (⟨some d,.makeSlice t x y,ty,pos,after,none⟩::rest) fr L:=iV rfl fun a w hr hm K hK=>by
 obtain⟨i,z,ht,hi,hz,hc,KW,XQ,h0⟩:=qZ.el.ex;obtain⟨i2,z2,K9,hz2,hz3⟩:=aQ.ex (P:=P) (t:=e);rw[hi]at K9;obtain rfl:i=i2:=Option.some.inj K9;rw[hz]at hz2;obtain rfl:z=z2:=Option.some.inj hz2;have K_:(i.bytes:Int)*(cap:Int)<=281474976710656:=by
  rw[KW,<-Int.natCast_mul];omega
 have hrun:=run_make (P:=P) w t e i z ht hi hz k k' (m:Int) (cap:Int) (by omega) (by omega) K_ (by omega);rw[Int.toNat_natCast,Int.toNat_natCast,hc,hz3]at hrun;have e':(execOp a.eval ⟨some d,.makeSlice t x y,ty,pos,after,none⟩).run P w= .ok (.value (.slice (some ⟨w.heap.size,0,none⟩) m cap)) (w.alloc (.cells (madeCells zs (cap*c)) e)):=by
  simp only[execOp,hr.ev hx,hr.ev hy,Sem.run_bind,hrun,Result.andThen_ok,Sem.run_pure]
 unfold Oper.wp;rw[e'];exact hK _ _ ((h w.heap.size).go _ _ (hr.put hn _) (hm.append (kz w _) (mZ.one (heap_alloc_new w _) fun k hk=>by simp only[aw,Option.some.injEq]at hk;omega)))
theorem Mem.NZ{w:World}{i g m cap size:Nat}{cs:Array Value}{e:TypeId}(h:Mem W L w)(hi:L[i]?=some (aw g cs e))(hc:cs.size=cap*size)(Jj:m<=cap)(nc:cap<=9223372036854775807):Mem W (L.set i (aM e size (.slice (some ⟨g,0,none⟩) m cap) m (cs.toList.take (m*size)))) w:=
 h.zS hi ⟨rfl,rfl,rfl,Nat.le_refl _,fun _ _ _=>rfl⟩ ⟨by rw[List.length_take,Array.length_toList,hc,Nat.min_eq_left (Nat.mul_le_mul_right _ Jj)],.inr ⟨g,cap,cs,rfl,Nat.zero_le _,h.get hi,Jj,by unfold maxLen;omega,hc,rfl⟩⟩ fun k hk=> .inl hk
theorem AG{i g m cap:Nat}{cs:Array Value}{e:TypeId}(size:Nat)(hi:L[i]?=some (aw g cs e))(hc:cs.size=cap*size)(Jj:m<=cap)(nc:cap<=9223372036854775807)(h:TL P n W ops Q rest fr (L.set i (aM e size (.slice (some ⟨g,0,none⟩) m cap) m (cs.toList.take (m*size))))):TL P n W ops Q rest fr L:=
 ⟨fun a w hr pt=>h.go a w hr (pt.NZ hi hc Jj nc)⟩
theorem N2{c:Code}{i g m cap:Nat}{cs:Array Value}{e:TypeId}(size:Nat)(hi:L[i]?=some (aw g cs e))(hc:cs.size=cap*size)(Jj:m<=cap)(nc:cap<=9223372036854775807)(h:T P n W c Q fr (L.set i (aM e size (.slice (some ⟨g,0,none⟩) m cap) m (cs.toList.take (m*size))))):T P n W c Q fr L:=
 ⟨fun a w hr pt=>h.go a w hr (pt.NZ hi hc Jj nc)⟩
theorem iA{i g m cap:Nat}{cs:Array Value}{T:TypeId}{xs:List Value}(hi:L[i]?=some (aw g cs T))(hx:∀(j:Nat) (u:Value),xs[j]?=some u->cs[j]?=some u)(Jj:m<=cap)(nc:cap<=9223372036854775807):RP W L (.slice (some ⟨g,0,none⟩) m cap) m xs:=fun w hm=>
 ⟨_,cap,rfl,Jj,by unfold maxLen;omega,fun _=>⟨g,0,rfl,fun j u hj=>by
  rw[Nat.zero_add];exact ah hi (hx j u hj) w hm⟩⟩
end
theorem UK{z:Array Value}{k m:Nat}(h:z.size=k)(h0:0<k):madeCells z (m*k)=((List.replicate m z.toList).flatten).toArray:=by
  subst h;apply Array.ext_getElem?;intro j;unfold madeCells
  by_cases hj:j<m*z.size
  · have h2:j/z.size<m:=(Nat.div_lt_iff_lt_mul h0).2 hj
    have h3:=Nat.mod_lt j h0;have key:∀(m j:Nat),j<m*z.size->((List.replicate m z.toList).flatten)[j]?=z.toList[j %z.size]?:=by
      intro m
      induction m with
      |zero=>intro j hj;simp at hj
      | succ m ih=>
        intro j hj;rw[List.replicate_succ,List.flatten_cons]
        by_cases hc:j<z.size
        · rw[List.getElem?_append_left (by simpa using hc),Nat.mod_eq_of_lt hc]
        · rw[List.getElem?_append_right (by simp;omega)]
          simp only[Array.length_toList];rw[ih (j-z.size) (by rw[Nat.succ_mul]at hj;omega)]
          congr 1
          exact(Nat.mod_eq_sub_mod (by omega)).symm
    simp only[List.getElem?_toArray,key m j hj];simp[hj,h3]
  · have:((List.replicate m z.toList).flatten).length=m*z.size:=by simp
    rw[Array.getElem?_eq_none (by simp;omega),List.getElem?_toArray,List.getElem?_eq_none (by omega)]
theorem AH:∀(xs:List Value) (acc:Array Value) (off k:Nat),off+k+xs.length<=acc.size->(xs.toArray.zipIdx k).foldl (fun cs (x:Value×Nat)=>cs.setIfInBounds (off+x.2) x.1) acc=(acc.toList.take (off+k)++xs++acc.toList.drop (off+k+xs.length)).toArray
  | [],acc,off,k,_=>by
    have e0:(([]:List Value).toArray.zipIdx k)=#[]:=by apply Array.ext';simp
    rw[e0];simp
  | x ::xs,acc,off,k,h=>by
    simp only[List.length_cons]at h;have e:(x::xs).toArray.zipIdx k=#[(x,k)]++xs.toArray.zipIdx (k+1):=by
      apply Array.ext';simp[List.zipIdx_cons]
    rw[e,Array.foldl_append];have e2:(#[(x,k)]:Array (Value×Nat)).foldl (fun cs (x:Value×Nat)=>cs.setIfInBounds (off+x.2) x.1) acc=acc.setIfInBounds (off+k) x:=by simp
    rw[e2,AH xs _ off (k+1) (by simp;omega)]
    congr 1
    have hA:(acc.toList.take (off+k)).length=off+k:=by simp;omega
    have UH:(acc.toList.take (off+k)++[x]).length=off+k+1:=by rw[List.length_append,hA];rfl
    have e3:acc.toList.set (off+k) x=(acc.toList.take (off+k)++[x])++acc.toList.drop (off+k+1):=by
      rw[List.set_eq_take_append_cons_drop,if_pos (by simp;omega)];simp
    simp only[Array.toList_setIfInBounds,List.length_cons];rw[e3,show off+(k+1)=off+k+1 by omega,List.take_left' UH,<-List.drop_drop,List.drop_left' UH,List.drop_drop];simp only[List.append_assoc,List.cons_append,List.nil_append];rw[show off+k+1+xs.length=off+k+(xs.length+1)by omega]
theorem UL{c:Nat}(c0:Nat->Option (Nat×Nat))(DG:∀i,c0 i=some (i*c,c)):∀(vs:List Value) (k:Nat) (acc:Array Value),(k+vs.length)*c<=acc.size->(∀v∈vs,v.cells.size=c)->
    Instr.fill c0 acc ((vs.zipIdx k).map fun(v,i)=>(i,v))=some (acc.toList.take (k*c)++vs.flatMap (fun v=>v.cells.toList)++acc.toList.drop ((k+vs.length)*c)).toArray
  |[],k,acc,h,_=>by simp[Instr.fill]
  | v ::vs,k,acc,h,h1=>by
    simp only[List.length_cons]at h;have hv:=h1 v (by simp);have hsz:k*c+c<=acc.size:=by
      have:(k+1)*c<=(k+(vs.length+1))*c:=Nat.mul_le_mul_right _ (by omega);rw[Nat.add_mul,Nat.one_mul]at this;omega
    rw[List.zipIdx_cons,List.map_cons];simp only[Instr.fill,DG];rw[if_neg (by simp[hv];omega)];have UM:=AH v.cells.toList acc (k*c) 0 (by simp[hv];exact hsz);simp only[Array.toArray_toList,Nat.add_zero,Array.length_toList,hv]at UM;rw[UM,UL c0 DG vs (k+1) _ (by simp[hv];rw[Nat.add_mul,Nat.add_mul]at*;omega) (fun u hu=>h1 u (by simp[hu]))]
    congr 2
    have hA:(acc.toList.take (k*c)).length=k*c:=by simp;omega
    have UH:(acc.toList.take (k*c)++v.cells.toList).length=(k+1)*c:=by rw[List.length_append,hA,Array.length_toList,hv,Nat.add_mul,Nat.one_mul]
    simp only[List.flatMap_cons,List.length_cons];rw[List.take_left' UH];have e5:(k+1+vs.length)*c=(k+1)*c+vs.length*c:=Nat.add_mul _ _ _;rw[e5,<-List.drop_drop,List.drop_left' UH,List.drop_drop];simp only[List.append_assoc];rw[show k*c+c+vs.length*c=(k+(vs.length+1))*c by rw[Nat.add_mul,Nat.add_mul,Nat.one_mul];omega]
theorem N3{P:Program}{t e:TypeId}{c bytes:Nat}(qZ:El P t e c bytes)(vs:List Value)(h1:∀v∈vs,v.cells.size=c)(h0:0<vs.length)(hm:vs.length*c<=16777216)(w:World):
 (Instr.buildSlice t vs.length (vs.zipIdx.map fun(v,i)=>(i,v)).toArray).run P w= .ok (.slice (some ⟨w.heap.size,0,none⟩) vs.length vs.length) (w.alloc (.cells (vs.flatMap fun v=>v.cells.toList).toArray e)):=by
 obtain⟨i,z,ht,hi,hz,hc,_,XQ,hp⟩:=qZ.ex;have pv:=UL (c:=c) (fun i=>some (i*c,c)) (by simp) vs 0 ((Array.range (vs.length*c)).map (z.cells[· %z.cells.size]!)) (by simp) h1
 simp only[Nat.zero_mul,List.take_zero,List.nil_append,Nat.zero_add]at pv;rw[List.drop_of_length_le (by simp)]at pv;simp only[List.append_nil]at pv;have hne:¬(vs.length*c>2^24):=by omega
 have NF:¬(vs.length*c=0):=by
  have:=Nat.mul_pos h0 hp;omega
 simp only[Instr.buildSlice,Sem.run_bind,run_underlying ht,Result.andThen_ok,sizeOf,typeInfo,run_program,hi,Sem.run_pure,hc,zeroValue,hz,if_neg hne,if_neg NF];simp only[pv,newRow];simp
section
variable{P:Program}{n:Nat}{W:bC}{fr:Fr}{L:List bI}{Q:Exit->Act->World->Prop}{ops:Array Oper}{rest:List Oper}{d:Nat}{dst:Option Tmp}{ty:TypeId}{pos:String}{after:Array Edge}{guard:Option (Nat×Bool)}
theorem dT{t e:TypeId}{c bytes m:Nat}{parts:Array (Nat×Operand)}{cs:Array Value}(vs:List Value)[qZ:mX P t e c bytes](hp:nO fr parts.toList=some (vs.zipIdx.map fun(v,i)=>(i,v)))(hm:vs.length=m)(h0:Nat.blt 0 m=true)(h1:∀v∈vs,v.cells.size=c)(hs:Nat.ble (m*c) 16777216=true)(hcs:cs=(vs.flatMap fun v=>v.cells.toList).toArray)(hn:Nat.blt d n=true)
 (h:∀g,TL P n W ops Q rest ((d,.slice (some ⟨g,0,none⟩) m m)::fr) (L++[aw g cs e])):TL P n W ops Q (⟨some d,.buildSlice t m parts,ty,pos,after,none⟩::rest) fr L:=by
 subst hm hcs;refine G4 (fun a w hr=>?_) hn h;have e:(parts.map fun(i,x)=>(i,a.eval x))=(vs.zipIdx.map fun(v,i)=>(i,v)).toArray:=by
  rw[<-nP hr _ _ hp,<-Array.toList_map,Array.toArray_toList]
 rw[e];exact N3 qZ.el vs h1 (Nat.le_of_ble_eq_true h0) (Nat.le_of_ble_eq_true hs) w
theorem D_{t e:TypeId}{x z:Operand}{agg:Bool}{c j len cap:Nat}{base:Option Addr}{k:IntKind}(ht:P.underlying t=some (.slice e))(he:Ty P e agg c)(hx:ev fr x=some (.slice base len cap))(hz:ev fr z=some (.int k (j:Int)))(h:j<=cap):RR P n W ⟨dst,.slice t x none (some z) none,ty,pos,after,guard⟩ fr L (.slice base j cap):= .mk fun a w hr hm=>by
 have h1:=(qI (P:=P) (n:=n) (W:=W) (L:=L) (dst:=dst) (ty:=ty) (pos:=pos) (after:=after) (guard:=guard) ht he hx hz h).go a w hr hm;have e1:wj base cap c 0 j= .slice base j cap:=by
  unfold wj
  cases base with
  |none=>simp
  |some q=>simp[Addr.add]
 rw[e1]at h1;exact h1
theorem xG{fn:Func}{R:Ending->World->Prop}(kR:fn.results=#[])(h:∀w,Mem W L w->R (.returned (.tuple #[])) w):E n W .normal (bodyPost P fn R) fr L:=
 ⟨fun a w hr hm=>⟨hr.defers,.tuple #[],by simp[results,kR],h w hm⟩⟩
end
end bK
namespace bK
open Go.RowKit bO dc
structure sC(α:Type) where
 c:Nat
 is:(Nat->Prop)->World->List Value->α->Prop
 len:∀{F w cs a},is F w cs a->cs.length=c
 stay:∀{F w w' cs a},is F w cs a->(∀k,F k->w'.heap[k]?=w.heap[k]?)->is F w' cs a
 mono:∀{F F' w cs a},is F w cs a->(∀k,F k->F' k)->is F' w cs a
def All:Nat->Prop:=fun _=>True
theorem rd_stay{w w':World}{b off:Nat}{cs:List Value}(h:Rd w b off cs)(hk:w'.heap[b]?=w.heap[b]?):Rd w' b off cs:=fun j u hj=>by
 rw[World.cell?_of_block (w:=w) (a:=⟨b,off+j,none⟩) hk];exact h j u hj
def iB{α:Type}(s:sC α)(F:Nat->Prop)(w:World)(v:Value)(l:List α):Prop:=
 ∃base cap,v= .slice base l.length cap/\l.length<=cap/\cap<=maxLen/\(0<l.length->∃b off,base=some ⟨b,off,none⟩/\F b/\∀i (h:i<l.length),∃cs,s.is F w cs l[i]/\Rd w b (off+i*s.c) cs)
section
variable{α β:Type}{s:sC α}{F F':Nat->Prop}{w w':World}{v:Value}{l:List α}
theorem iB.stay(h:iB s F w v l)(hk:∀k,F k->w'.heap[k]?=w.heap[k]?):iB s F w' v l:=
 let ⟨base,cap,h1,h2,h3,h4⟩:=h
 ⟨base,cap,h1,h2,h3,fun h0=>let ⟨b,off,h5,h6,h7⟩:=h4 h0;⟨b,off,h5,h6,fun i hi=>let ⟨cs,h8,h9⟩:=h7 i hi;⟨cs,s.stay h8 hk,rd_stay h9 (hk b h6)⟩⟩⟩
theorem iB.mono(h:iB s F w v l)(hk:∀k,F k->F' k):iB s F' w v l:=
 let ⟨base,cap,h1,h2,h3,h4⟩:=h
 ⟨base,cap,h1,h2,h3,fun h0=>let ⟨b,off,h5,h6,h7⟩:=h4 h0;⟨b,off,h5,hk b h6,fun i hi=>let ⟨cs,h8,h9⟩:=h7 i hi;⟨cs,s.mono h8 hk,h9⟩⟩⟩
theorem iB.nil:iB s F w (.slice none 0 0) []:=⟨none,0,rfl,Nat.le_refl _,by decide,fun h=>by simp at h⟩
def sQ(f:α->List Value)(c:Nat)(hc:∀a,(f a).length=c)(p:α->Prop):sC α:=
 ⟨c,fun _ _ cs a=>cs=f a/\p a,fun h=>by rw[h.1,hc],fun h _=>h,fun h _=>h⟩
def fq:sC Int:=sQ (fun n=>[.int .i64 n]) 1 (fun _=>rfl) bO.cV
def K':sC (List UInt8):=sQ (fun s=>[str s]) 1 (fun _=>rfl) (fun s=>s.length<=9223372036854775807)
def bD(s:sC α):sC (List α):=
 ⟨1,fun F w cs l=>∃v,cs=[v]/\iB s F w v l,fun⟨_,h,_⟩=>by rw[h];rfl,fun⟨v,h1,h2⟩ hk=>⟨v,h1,h2.stay hk⟩,fun⟨v,h1,h2⟩ hk=>⟨v,h1,h2.mono hk⟩⟩
def N4(s:sC α)(t:sC β):sC (α×β):=
  ⟨s.c+t.c,fun F w cs x=>∃c1 c2,cs=c1++c2/\s.is F w c1 x.1/\t.is F w c2 x.2,fun⟨_,_,h,h1,h2⟩=>by rw[h,List.length_append,s.len h1,t.len h2],
    fun⟨c1,c2,h,h1,h2⟩ hk=>⟨c1,c2,h,s.stay h1 hk,t.stay h2 hk⟩,fun⟨c1,c2,h,h1,h2⟩ hk=>⟨c1,c2,h,s.mono h1 hk,t.mono h2 hk⟩⟩
theorem iB.flat{f:α->List Value}{c:Nat}{hc:∀a,(f a).length=c}{p:α->Prop}(DG:0<c)(h:iB (sQ f c hc p) F w v l):Sl w v l.length (l.flatMap f):=by
 obtain⟨base,cap,h1,h2,h3,h4⟩:=h;have hx:Rp w (fun cs a=>cs=f a) c v l:=⟨base,cap,h1,h2,h3,fun h0=>let ⟨b,off,h5,_,h7⟩:=h4 h0;⟨b,off,h5,fun i hi=>let ⟨cs,h8,h9⟩:=h7 i hi;⟨cs,h8.1,h9⟩⟩⟩;exact hx.flat hc DG fun cs a h=>h
theorem iB.okp{f:α->List Value}{c:Nat}{hc:∀a,(f a).length=c}{p:α->Prop}(h:iB (sQ f c hc p) F w v l):∀a∈l,p a:=fun a ha=>by
 obtain⟨i,hi,rfl⟩:=List.mem_iff_getElem.1 ha;obtain⟨base,cap,h1,h2,h3,h4⟩:=h;obtain⟨b,off,_,_,h7⟩:=h4 (by omega);obtain⟨cs,h8,_⟩:=h7 i hi;exact h8.2
theorem iB.of_flat{f:α->List Value}{c:Nat}{hc:∀a,(f a).length=c}{p:α->Prop}(h:Sl w v l.length (l.flatMap f))(hp:∀a∈l,p a)(_:∀b,v.ownBlock=some b->F b)(hF2:∀a n cp,v= .slice (some a) n cp->F a.block):iB (sQ f c hc p) F w v l:=by
 obtain⟨base,cap,h1,h2,h3,h4⟩:=h;refine⟨base,cap,h1,h2,h3,fun h0=>?_⟩;obtain⟨b,off,h5,h6⟩:=h4 h0;refine⟨b,off,h5,hF2 ⟨b,off,none⟩ l.length cap (by rw[h1,h5]),fun i hi=>⟨f l[i],⟨rfl,hp _ (List.getElem_mem hi)⟩,fun j u hj=>?_⟩⟩;have R5:j<c:=by rw[<-hc l[i]];exact(List.getElem?_eq_some_iff.1 hj).1
 have:=h6 (i*c+j) u (by rw[rG hc l i j hi R5];exact hj);rw[Nat.add_assoc];exact this
def aaQ(s:sC α)(F:Nat->Prop)(cs:List Value)(a:α):bI:=
 ⟨none,F,fun w=>s.is F w cs a/\∀k,F k->k<w.heap.size,fun w h k hk=>h.2 k (hk.elim (fun h=>by cases h) id),fun w w' h hs hb=>⟨s.stay h.1 fun k hk=>hb k (.inr hk),fun k hk=>Nat.lt_of_lt_of_le (h.2 k hk) hs⟩⟩
def dz(s:sC α)(F:Nat->Prop)(fu:List (List Value))(l:List α):bI:=
  ⟨none,F,fun w=>(fu.length=l.length/\∀i (h:i<l.length) (h':i<fu.length),s.is F w fu[i] l[i])/\∀k,F k->k<w.heap.size,fun w h k hk=>h.2 k (hk.elim (fun h=>by cases h) id),
    fun w w' h hs hb=>⟨⟨h.1.1,fun i hi lg=>s.stay (h.1.2 i hi lg) fun k hk=>hb k (.inr hk)⟩,fun k hk=>Nat.lt_of_lt_of_le (h.2 k hk) hs⟩⟩
end
def YE(F:Nat->Prop)(v:Value):Nat->Prop:=fun k=>F k\/v.ownBlock=some k
theorem pF{c:Nat}:∀(fu:List (List Value)) (_:∀x∈fu,x.length=c) (i j:Nat) (h:i<fu.length),j<c->fu.flatten[i*c+j]?=fu[i][j]?
 |x::r,hc,0,j,h,hj=>by
  rw[List.flatten_cons,List.getElem?_append_left (by rw[hc x (by simp)];omega)];simp
 |x::r,hc,i+1,j,h,hj=>by
  have hx:=hc x (by simp);have ih:=pF r (fun y hy=>hc y (by simp[hy])) i j (by simpa using h) hj;rw[List.flatten_cons,List.getElem?_append_right (by rw[hx,Nat.succ_mul];omega),hx];simp only[List.getElem_cons_succ];rw[<-ih,Nat.succ_mul]
  congr 1;omega
section
variable{α:Type}{s:sC α}{F:Nat->Prop}{w:World}{v:Value}{l:List α}
theorem B8{e:TypeId}{fu:List (List Value)}(hr:(aM e s.c v l.length fu.flatten).holds w)(he:(dz s F fu l).holds w)(_:0<s.c):iB s (YE F v) w v l:=by
 have hr:w.ownsRow 0 e s.c v l.length fu.flatten:=hr;obtain⟨⟨h1,h2⟩,h3⟩:=he;have hlen:∀x∈fu,x.length=s.c:=fun x hx=>by
  obtain⟨i,hi,rfl⟩:=List.mem_iff_getElem.1 hx;exact s.len (h2 i (by omega) hi)
 obtain⟨base,cap,h4,h5,h6,h7⟩:=Sl.cI hr;refine⟨base,cap,h4,h5,h6,fun h0=>?_⟩;have hb:∃g,v= .slice (some ⟨g,0,none⟩) l.length cap/\v.ownBlock=some g:=by
  rcases hr.2 with⟨hv,h0'⟩|⟨g,tZ,kK,hv,_⟩
  ·omega
  ·rw[h4]at hv
   simp only[Value.slice.injEq,true_and]at hv;obtain⟨rfl,rfl⟩:=hv;exact⟨g,h4,by rw[h4];rfl⟩
 obtain⟨g,hv,hg⟩:=hb;rw[h4]at hv;simp only[Value.slice.injEq,and_true]at hv;subst hv;obtain⟨b,off,h8,h9⟩:=h7 h0;simp only[Option.some.injEq,Addr.mk.injEq,and_true]at h8;obtain⟨rfl,rfl⟩:=h8;refine⟨g,0,rfl,.inr hg,fun i hi=>⟨fu[i]'(by omega),s.mono (h2 i hi (by omega)) fun k hk=> .inl hk,fun j u hj=>?_⟩⟩;have R5:j<s.c:=by rw[<-hlen (fu[i]'(by omega)) (List.getElem_mem _)];exact(List.getElem?_eq_some_iff.1 hj).1
 have:=h9 (i*s.c+j) u (by rw[pF fu hlen i j (by omega) R5];exact hj);rw[Nat.add_assoc];exact this
theorem B9{e:TypeId}{fu:List (List Value)}{n c:Nat}(hr:(aM e c v n fu.flatten).holds w)(he:(dz s F fu l).holds w):∀k,YE F v k->k<w.heap.size:=fun k hk=>hk.elim (he.2 k) fun h=>((aM e c v n fu.flatten).lt w hr k (.inl h))
theorem nf{F2:Nat->Prop}{fu:List (List Value)}{cs:List Value}{a:α}(he:(dz s F fu l).holds w)(hs:s.is F2 w cs a)(h2:∀k,F2 k->k<w.heap.size):(dz s (fun k=>F k\/F2 k) (fu++[cs]) (l++[a])).holds w:=by
 obtain⟨⟨h1,h3⟩,h4⟩:=he;refine⟨⟨by simp[h1],fun i hi lg=>?_⟩,fun k hk=>hk.elim (h4 k) (h2 k)⟩
 by_cases c:i<l.length
 ·rw[List.getElem_append_left (by omega),List.getElem_append_left c]
  exact s.mono (h3 i c (by omega)) fun k hk=> .inl hk
 ·have K9:i=l.length:=by simp at hi;omega
  subst K9;rw[List.getElem_append_right (by omega),List.getElem_append_right (Nat.le_refl _)];simp only[h1,Nat.sub_self,List.getElem_cons_zero];exact s.mono hs fun k hk=> .inr hk
theorem iM:(dz s (fun _=>False) [] []).holds w:=⟨⟨rfl,fun i h=>by simp at h⟩,fun k h=>h.elim⟩
end
section
variable{P:Program}{n:Nat}{W:bC}{fr:Fr}{L:List bI}{Q:Exit->Act->World->Prop}{ops:Array Oper}{rest:List Oper}{d:Nat}
theorem Mem.N5{w:World}(o:bI)(i j:Nat)(js:List Nat){o1 o2:bI}{R:List bI}(h:Mem W L w)(hn:([i,j]++js).Nodup)(h1:L[i]?=some o1)(h2:L[j]?=some o2)(hR:R=js.filterMap fun i=>L[i]?)(hf:∀k,o.dS k->o1.dS k\/o2.dS k)(hh:∀w,o1.holds w->o2.holds w->o.holds w):Mem W (R++[o]) w:=by
 refine Mem.merge o (h.pick ([i,j]++js) hn ?_) hf (hh w);rw[List.filterMap_append,<-hR]
 congr 1
 rw[List.filterMap_cons_some (by exact h1),List.filterMap_cons_some (by exact h2)];rfl
theorem sR(o:bI)(i j:Nat)(js:List Nat){o1 o2:bI}{R:List bI}(hn:([i,j]++js).Nodup)(h1:L[i]?=some o1)(h2:L[j]?=some o2)(hR:R=js.filterMap fun i=>L[i]?)(hf:∀k,o.dS k->o1.dS k\/o2.dS k)(hh:∀w,o1.holds w->o2.holds w->o.holds w)(h:TL P n W ops Q rest fr (R++[o])):TL P n W ops Q rest fr L:=⟨fun a w hr hm=>h.go a w hr (hm.N5 o i j js hn h1 h2 hR hf hh)⟩
theorem B_{e:Exit}(o:bI)(i j:Nat)(js:List Nat){o1 o2:bI}{R:List bI}(hn:([i,j]++js).Nodup)(h1:L[i]?=some o1)(h2:L[j]?=some o2)(hR:R=js.filterMap fun i=>L[i]?)(hf:∀k,o.dS k->o1.dS k\/o2.dS k)(hh:∀w,o1.holds w->o2.holds w->o.holds w)(h:E n W e Q fr (R++[o])):E n W e Q fr L:=⟨fun a w hr hm=>h.go a w hr (hm.N5 o i j js hn h1 h2 hR hf hh)⟩
theorem Mem.N6{w:World}(o:bI)(h:Mem W L w)(hf:∀k,¬o.dS k)(hh:o.holds w):Mem W (L++[o]) w:=
 h.append (Gr.refl w) (dH.one hh fun k hk=>absurd hk (hf k))
theorem mz{c:Code}(o:bI)(hf:∀k,¬o.dS k)(hh:∀w,o.holds w)(h:T P n W c Q fr (L++[o])):T P n W c Q fr L:=⟨fun a w hr hm=>h.go a w hr (hm.N6 o hf (hh w))⟩
theorem Ea(o:bI)(hf:∀k,¬o.dS k)(hh:∀w,o.holds w)(h:TL P n W ops Q rest fr (L++[o])):TL P n W ops Q rest fr L:=⟨fun a w hr hm=>h.go a w hr (hm.N6 o hf (hh w))⟩
theorem nW{e:Exit}(o:bI)(hf:∀k,¬o.dS k)(hh:∀w,o.holds w)(h:E n W e Q fr (L++[o])):E n W e Q fr L:=⟨fun a w hr hm=>h.go a w hr (hm.N6 o hf (hh w))⟩
theorem ua{α:Type}{f:α->List Value}{c:Nat}(hc:∀a,(f a).length=c){t e:TypeId}{p x:Operand}{i g off cap k m:Nat}{agg:Bool}{l:List α}{a:α}{v:Value}(hT:Ty P t agg c)(hi:L[i]?=some (aM e c (.slice (some ⟨g,0,none⟩) m cap) m (l.flatMap f)))(hp:ev fr p=some (.pointer (some ⟨g,off,none⟩)))(VP:off=k*c)(hk:k<l.length)(hm0:m=l.length)(hx:ev fr x=some v)(hv:v.cells=(f a).toArray)(h1:(f a).all Value.oneCell'=true)
 {ty:TypeId} {pos:String} {after:Array Edge}
 (h:TL P n W ops Q rest fr (L.set i (aM e c (.slice (some ⟨g,0,none⟩) m cap) m ((l.set k a).flatMap f)))):
 TL P n W ops Q (⟨none,.store t p x,ty,pos,after,none⟩::rest) fr L:=iV rfl fun act w hr hm K hK=>by
 subst VP hm0;have qX:w.ownsRow 0 e c (.slice (some ⟨g,0,none⟩) l.length cap) l.length (l.flatMap f):=hm.get hi;have Yp:=qX;rcases qX.2 with⟨h0,_⟩|⟨g',tZ,kK,he,tY,hg,VN,VO,hcs,DW⟩
 ·cases h0
 simp only[Value.slice.injEq,Option.some.injEq,Addr.mk.injEq,and_true,true_and]at he;obtain⟨rfl,rfl⟩:=he;have BZ:k*c+c<=kK.size:=by
  have:(k+1)*c<=cap*c:=Nat.mul_le_mul_right _ (by omega);rw[hcs];rw[Nat.add_mul,Nat.one_mul]at this;omega
 have hst:=run_storeCells_at P g (k*c) e (f a) 0 kK w hg (by simp[hc];exact BZ) (List.all_eq_true.1 h1);simp only[Nat.add_zero,hc]at hst;have e':(execOp act.eval ⟨none,.store t p x,ty,pos,after,none⟩).run P w= .ok .skip (w.setRow g (kK.toList.take (k*c)++f a++kK.toList.drop (k*c+c)).toArray):=by
  simp[execOp,hr.ev hp,hr.ev hx,Instr.storeAt,Instr.sureAddr,storeVar,hT.size,hv,hst,hc]
 unfold Oper.wp;rw[e'];refine hK _ _ (h.go _ _ (hr.pq undef) (hm.zS hi ⟨rfl,rfl,rfl,by simp,fun k _ hk=>setRow_other w g k _ (fun e=>hk (by subst e;rfl))⟩ ?_ fun k hk=> .inl hk));have hlen:=ka hc l;refine⟨by rw[ka hc];simp,.inr ⟨g,cap,_,rfl,tY,setRow_heap w g kK _ e _ hg,VN,VO,by simp[hc];omega,?_⟩⟩;have e1:(l.set k a).flatMap f=(l.flatMap f).take (k*c)++f a++(l.flatMap f).drop (k*c+c):=by
  have B7:((l.take k).flatMap f).length=k*c:=by rw[ka hc,List.length_take,Nat.min_eq_left (by omega)]
  have Ca:((l.take (k+1)).flatMap f).length=k*c+c:=by rw[ka hc,List.length_take,Nat.min_eq_left (by omega),Nat.add_mul,Nat.one_mul]
  have t1:(l.flatMap f).take (k*c)=(l.take k).flatMap f:=by
   rw[<-B7]
   conv=>lhs;rw[<-List.take_append_drop k l,List.flatMap_append]
   simp
  have t2:(l.flatMap f).drop (k*c+c)=(l.drop (k+1)).flatMap f:=by
   rw[<-Ca]
   conv=>lhs;rw[<-List.take_append_drop (k+1) l,List.flatMap_append]
   simp
  rw[t1,t2,List.set_eq_take_append_cons_drop,if_pos hk];simp
 rw[e1,<-DW];have R6:k*c+c<=l.length*c:=by
  have:(k+1)*c<=l.length*c:=Nat.mul_le_mul_right _ (by omega);rw[Nat.add_mul,Nat.one_mul]at this;exact this
 simp only[List.take_take,List.take_append,List.length_append,hc,List.length_take,Array.length_toList];rw[Nat.min_eq_left (by omega:k*c<=kK.size),Nat.min_eq_right (by omega:k*c<=l.length*c),Nat.min_eq_left (by omega:k*c<=l.length*c)];rw[List.take_of_length_le (by rw[hc];omega:(f a).length<=l.length*c-k*c)]
 congr 1
 rw[List.drop_take]
theorem mA{i:Nat}{o:bI}{φ:Prop}(hi:L[i]?=some o)(hφ:∀w,o.holds w->φ)(h:φ->TL P n W ops Q rest fr L):TL P n W ops Q rest fr L:=⟨fun a w hr hm=>(h (hφ w (hm.get hi))).go a w hr hm⟩
theorem fv{c:Code}{i:Nat}{o:bI}{φ:Prop}(hi:L[i]?=some o)(hφ:∀w,o.holds w->φ)(h:φ->T P n W c Q fr L):T P n W c Q fr L:=⟨fun a w hr hm=>(h (hφ w (hm.get hi))).go a w hr hm⟩
end
end bK
namespace bK
open Go.RowKit bO dc
open Go.WideMaps (KeyLaw)
def xH(v:Value):Option (DataW Value×List MemPlace):=some (.held v,[])
structure rJ(P:Program)(k:TypeId)(κ:Type) where
 kv:κ->Value
 ok:κ->Prop
 law:KeyLaw P k
 key:∀x,ok x->∃l,keyOf P k (kv x)=some l
 inj:∀x y,kv x=kv y->x=y
section
variable{P:Program}{k:TypeId}{κ:Type}
theorem rJ.keyed(K:rJ P k κ):Maps.Keyed P k:=Maps.Keyed.of_law K.law
variable(K:rJ P k κ)
def Eb(D:DataW Value)(m:κ->Option Value)(n:Nat):Prop:=
 Maps.size D=n/\∀x l,K.ok x->keyOf P k (K.kv x)=some l->match m x with|some v=>Maps.has D l=true/\(∀z,D.atKey l z= .held v)|none=>Maps.has D l=false
def dL(g:Nat)(m:κ->Option Value)(n:Nat):bI:=
  ⟨some g,fun _=>False,fun w=>∃D,w.ownsMap P k xH g n D/\Eb K D m n,fun w ⟨D,h,_⟩ q hq=>by simp only[Option.some.injEq,or_false]at hq;subst hq;exact h.lt,
    fun w w' ⟨D,⟨es,clock,hb,h⟩,h2⟩ _ hk=>⟨D,⟨es,clock,(hk g (.inl rfl)).trans hb,h⟩,h2⟩⟩
theorem La{w:World}{R:Value->Option (DataW Value×List MemPlace)}{b n:Nat}{D:DataW Value}(h:w.ownsMap P k R b n D):w.ownsMap P k R b (Maps.size D) D:=by
 obtain⟨es,clock,hb,F,hs,rfl⟩:=h;exact⟨es,clock,hb,F,by simp[Maps.size,length_sorted],rfl⟩
theorem AI:Eb K (.map []) (fun _=>none) 0:=⟨rfl,fun _ _ _ _=>rfl⟩
theorem Lb[DecidableEq κ]{w:World}{g n:Nat}{D:DataW Value}{m:κ->Option Value}(ho:w.ownsMap P k xH g n D)(h:Eb K D m n){x:κ}{l:Lit}(hx:K.ok x)(hl:keyOf P k (K.kv x)=some l)(v:Value):
 Eb K (D.put l (.held v)) (fun y=>if y=x then some v else m y) (if(m x).isSome then n else n+1):=by
 have hk:=K.keyed.key hl;have ht:=ho.tidy K.keyed;refine⟨?_,fun y l' hy V3=>?_⟩
 ·have h2:=h.2 x l hx hl
  rw[Maps.size_put ht]
  cases e:m x with
  |none=>rw[e]at h2;rw[h2];simp[h.1]
  |some u=>rw[e]at h2;rw[h2.1];simp[h.1]
 ·by_cases e:y=x
  ·subst e
   rw[hl]at V3;simp only[Option.some.injEq]at V3;subst V3;simp only[if_true];exact⟨Maps.has_put_same ht.isMap hk _,fun z=>Maps.atKey_put_same ht.isMap hk _ _⟩
  ·have hne:l'≠l:=fun e'=>e (K.inj _ _ (K.keyed.inj (by rw[<-e'];exact V3) hl))
   simp only[if_neg e];have h2:=h.2 y l' hy V3;rw[Maps.has_put_other hne]
   cases e2:m y with
   |none=>rw[e2]at h2;exact h2
   |some u=>rw[e2]at h2;exact⟨h2.1,fun z=>by rw[Maps.atKey_put_other hne];exact h2.2 z⟩
theorem Cb{D:DataW Value}{m:κ->Option Value}{n:Nat}(h:Eb K D m n){x:κ}{l:Lit}(hx:K.ok x)(hl:keyOf P k (K.kv x)=some l)(z:Value):D.atKey l (.held z)= .held ((m x).getD z)/\Maps.has D l=(m x).isSome:=by
 have h2:=h.2 x l hx hl
 cases e:m x with
 |none=>rw[e]at h2;exact⟨Maps.atKey_of_not_has h2 _,h2⟩
 |some u=>rw[e]at h2;exact⟨h2.2 _,h2.1⟩
section
variable{W:bC}{fr:Fr}{L:List bI}{Q:Exit->Act->World->Prop}{ops:Array Oper}{rest:List Oper}{n d:Nat}{dst:Option Tmp}{ty:TypeId}{pos:String}{after:Array Edge}{guard:Option (Nat×Bool)}{i g c:Nat}{t e:TypeId}{m:κ->Option Value}{x:κ}{z:Value}{xm xk xv:Operand}
theorem R7(ht:P.underlying t=some (.map k e))(hz:∀w,(zeroValue e).run P w= .ok z w)(hi:L[i]?=some (dL K g m c))(hm:ev fr xm=some (.map (some g)))(hk:ev fr xk=some (K.kv x))(hx:K.ok x):RR P n W ⟨dst,.lookup t xm xk false,ty,pos,after,guard⟩ fr L ((m x).getD z):= .mk fun a w hr hw=>by
 obtain⟨D,ho,h⟩:=hw.get hi;obtain⟨l,hl⟩:=K.key x hx;obtain⟨v,ps,hrun,hv⟩:=ho.lookup K.keyed ht (hz w) (zd:= .held z) (zp:=[]) rfl hl;have h2:=(Cb K h hx hl z).1;simp only[xH,Option.some.injEq,Prod.mk.injEq]at hv;rw[h2]at hv;have gB:v=(m x).getD z:=by simpa using hv.1
 subst gB;simp[execOp,hr.ev hm,hr.ev hk,hrun,Result.andThen]
theorem k8(ht:P.underlying t=some (.map k e))(hz:∀w,(zeroValue e).run P w= .ok z w)(hi:L[i]?=some (dL K g m c))(hm:ev fr xm=some (.map (some g)))(hk:ev fr xk=some (K.kv x))(hx:K.ok x):RR P n W ⟨dst,.lookup t xm xk true,ty,pos,after,guard⟩ fr L (.tuple #[(m x).getD z,.bool (m x).isSome]):= .mk fun a w hr hw=>by
 obtain⟨D,ho,h⟩:=hw.get hi;obtain⟨l,hl⟩:=K.key x hx;obtain⟨v,ps,hrun,hv⟩:=ho.look_ok K.keyed ht (hz w) (zd:= .held z) (zp:=[]) rfl hl;have h2:=Cb K h hx hl z;simp only[xH,Option.some.injEq,Prod.mk.injEq]at hv;rw[h2.1]at hv;rw[h2.2]at hrun;have gB:v=(m x).getD z:=by simpa using hv.1
 subst gB;simp[execOp,hr.ev hm,hr.ev hk,hrun,Result.andThen]
theorem qJ(ht:P.underlying t=some (.map k e))(hi:L[i]?=some (dL K g m c))(hm:ev fr xm=some (.map (some g))):RR P n W ⟨dst,.call {callee:= .builtin .len,args:=#[xm],argTypes:=#[t]},ty,pos,after,guard⟩ fr L (.int .i64 c):= .mk fun a w hr hw=>by
 obtain⟨D,ho,h⟩:=hw.get hi;have hrun:=ho.len ht ty;rw[h.1]at hrun;simp[BigFrame.execOp_builtin,BigFrame.builtin_len,hr.ev hm,hrun]
theorem rK(hn:Nat.blt d n=true)(h:∀g,TL P n W ops Q rest ((d,.map (some g))::fr) (L++[dL K g (fun _=>none) 0])):
 TL P n W ops Q (⟨some d,.makeMap t none,ty,pos,after,none⟩::rest) fr L:=iV rfl fun a w hr hm KK hK=>by
 have e1:(execOp a.eval ⟨some d,.makeMap t none,ty,pos,after,none⟩).run P w= .ok (.value (.map (some w.heap.size))) (w.alloc (.map #[] 0)):=by
  simp[execOp,run_makeMap,Result.andThen]
 unfold Oper.wp;rw[e1];exact hK _ _ ((h w.heap.size).go _ _ (hr.put hn _) (hm.append (kz w _) (mZ.one ⟨.map [],World.ownsMap_made w P k xH,AI K⟩ fun q hq=>by simp only[dL,Option.some.injEq]at hq;omega)))
theorem Jk[DecidableEq κ]{w:World}(ht:P.underlying t=some (.map k e))(h:(dL K g m c).holds w)(hx:K.ok x)(hc:c<=1152921504606846976)(v:Value):
 ∃w',(Instr.mapUpdate t (.map (some g)) (K.kv x) v).run P w= .ok () w'/\(dL K g (fun y=>if y=x then some v else m y) (if(m x).isSome then c else c+1)).holds w'/\w.grownBy w' (some g):=by
 obtain⟨D,ho,h⟩:=h;obtain⟨l,hl⟩:=K.key x hx;obtain⟨w',hrun,D0,hg⟩:=ho.update K.keyed ht (by unfold maxLen;omega) (val:=v) (d:= .held v) (ps:=[]) hl rfl;have hp:=Lb K ho h hx hl v;exact⟨w',hrun,⟨_,by have:=La D0;rwa [hp.1]at this,hp⟩,hg⟩
theorem jr[DecidableEq κ]{v:Value}(ht:P.underlying t=some (.map k e))(hi:L[i]?=some (dL K g m c))(hm:ev fr xm=some (.map (some g)))(hk:ev fr xk=some (K.kv x))(hv:ev fr xv=some v)(hx:K.ok x)(hc:c<=1152921504606846976)
 (h:TL P n W ops Q rest fr (L.set i (dL K g (fun y=>if y=x then some v else m y) (if(m x).isSome then c else c+1)))):
 TL P n W ops Q (⟨none,.mapUpdate t xm xk xv,ty,pos,after,none⟩::rest) fr L:=iV rfl fun a w hr hw KK hK=>by
 obtain⟨w',hrun,D0,hg⟩:=Jk K ht (hw.get hi) hx hc v;have e1:(execOp a.eval ⟨none,.mapUpdate t xm xk xv,ty,pos,after,none⟩).run P w= .ok .skip w':=by
  simp[execOp,hr.ev hm,hr.ev hk,hr.ev hv,hrun,Result.andThen]
 unfold Oper.wp;rw[e1];exact hK _ _ (h.go _ _ (hr.pq undef) (hw.zS hi hg D0 fun q hq=> .inl hq))
end
def lu(g:Nat)(z:Value)(f:κ->Value)(b:Nat):bI:=
  ⟨some g,fun _=>False,fun w=>∃m n,n<=b/\(dL K g m n).holds w/\∀x,K.ok x->(m x).getD z=f x,fun w ⟨m,n,_,h,_⟩ q hq=>(dL K g m n).lt w h q hq,
    fun w w' ⟨m,n,h1,h,h2⟩ hs hk=>⟨m,n,h1,(dL K g m n).stay w w' h hs hk,h2⟩⟩
section
variable{W:bC}{fr:Fr}{L:List bI}{Q:Exit->Act->World->Prop}{ops:Array Oper}{rest:List Oper}{n d:Nat}{dst:Option Tmp}{ty:TypeId}{pos:String}{after:Array Edge}{guard:Option (Nat×Bool)}{i g b:Nat}{t e:TypeId}{f f':κ->Value}{x:κ}{z v:Value}{xm xk xv:Operand}
theorem AJ{w:World}(ht:P.underlying t=some (.map k e))(hz:∀w,(zeroValue e).run P w= .ok z w)(h:(lu K g z f b).holds w)(hx:K.ok x):(Instr.lookup t (.map (some g)) (K.kv x) false).run P w= .ok (f x) w:=by
 obtain⟨m,n,_,⟨D,ho,hi⟩,hf⟩:=h;obtain⟨l,hl⟩:=K.key x hx;obtain⟨v,ps,hrun,hv⟩:=ho.lookup K.keyed ht (hz w) (zd:= .held z) (zp:=[]) rfl hl;have h2:=(Cb K hi hx hl z).1;simp only[xH,Option.some.injEq,Prod.mk.injEq]at hv;rw[h2,hf x hx]at hv;have gB:v=f x:=by simpa using hv.1
 rw[<-gB];exact hrun
theorem Ec(ht:P.underlying t=some (.map k e))(hz:∀w,(zeroValue e).run P w= .ok z w)(hh:∀w,Mem W L w->(lu K g z f b).holds w)(hm:ev fr xm=some (.map (some g)))(hk:ev fr xk=some (K.kv x))(hx:K.ok x)(hv:f x=v):RR P n W ⟨dst,.lookup t xm xk false,ty,pos,after,guard⟩ fr L v:= .mk fun a w hr hw=>by
 subst hv;have hrun:=AJ K ht hz (hh w hw) hx;simp[execOp,hr.ev hm,hr.ev hk,hrun,Result.andThen]
theorem xI(ht:P.underlying t=some (.map k e))(hz:∀w,(zeroValue e).run P w= .ok z w)(hi:L[i]?=some (lu K g z f b))(hm:ev fr xm=some (.map (some g)))(hk:ev fr xk=some (K.kv x))(hx:K.ok x)(hv:f x=v):RR P n W ⟨dst,.lookup t xm xk false,ty,pos,after,guard⟩ fr L v:=
 Ec K ht hz (fun _ hw=>hw.get hi) hm hk hx hv
theorem R8(hn:Nat.blt d n=true)(h:∀g,TL P n W ops Q rest ((d,.map (some g))::fr) (L++[lu K g z (fun _=>z) 0])):
 TL P n W ops Q (⟨some d,.makeMap t none,ty,pos,after,none⟩::rest) fr L:=iV rfl fun a w hr hm KK hK=>by
 have e1:(execOp a.eval ⟨some d,.makeMap t none,ty,pos,after,none⟩).run P w= .ok (.value (.map (some w.heap.size))) (w.alloc (.map #[] 0)):=by
  simp[execOp,run_makeMap,Result.andThen]
 unfold Oper.wp;rw[e1];exact hK _ _ ((h w.heap.size).go _ _ (hr.put hn _) (hm.append (kz w _) (mZ.one ⟨fun _=>none,0,Nat.le_refl _,⟨.map [],World.ownsMap_made w P k xH,AI K⟩,fun _ _=>rfl⟩ fun q hq=>by simp only[lu,Option.some.injEq]at hq;omega)))
theorem Ed[DecidableEq κ]{w:World}(ht:P.underlying t=some (.map k e))(h:(lu K g z f b).holds w)(hx:K.ok x)(hc:b<=1152921504606846976)(hf:∀y,K.ok y->f' y=if y=x then v else f y):
 ∃w',(Instr.mapUpdate t (.map (some g)) (K.kv x) v).run P w= .ok () w'/\(lu K g z f' (b+1)).holds w'/\w.grownBy w' (some g):=by
 obtain⟨m,n,h1,h2,h3⟩:=h;obtain⟨w',hrun,ho,hg⟩:=Jk K ht h2 hx (by omega) v;refine⟨w',hrun,⟨_,_,?_,ho,fun y hy=>?_⟩,hg⟩
 ·split<;>omega
 ·rw[hf y hy]
  by_cases e:y=x
  ·simp[e]
  ·simp only[if_neg e];exact h3 y hy
end
end
end bK
namespace bK
open Go.RowKit bO dc
theorem aaL{P:Program}{n:Nat}{W:bC}{fr:Fr}{L:List bI}{dst:Option Tmp}{ty:TypeId}{pos:String}{after:Array Edge}{guard:Option (Nat×Bool)}{x:Operand}{a:Addr}(hx:ev fr x=some (.pointer (some a))):RR P n W ⟨dst,.nilCheck x,ty,pos,after,guard⟩ fr L (.pointer (some a)):= .mk fun act w hr _=>by
 simp[execOp,hr.ev hx]
end bK
namespace bK
open Go.RowKit bO dc
section
variable{P:Program}{n:Nat}{W:bC}{fr:Fr}{L:List bI}{Q:Exit->Act->World->Prop}{ops:Array Oper}{rest:List Oper}{d:Nat}{ty:TypeId}{pos:String}{after:Array Edge}
theorem Hb{t e:TypeId}{x y:Operand}{bytes m:Nat}{k k':IntKind}{z:Value}[mX P t e 1 bytes][aQ P e #[z]](hx:ev fr x=some (.int k (m:Int)))(hy:ev fr y=some (.int k' (m:Int)))(hb:bytes*m<=281474976710656)(qD:m<=9223372036854775807)(hn:Nat.blt d n=true)
 (h:∀g,TL P n W ops Q rest ((d,.slice (some ⟨g,0,none⟩) m m)::fr) (L++[aM e 1 (.slice (some ⟨g,0,none⟩) m m) m (List.replicate m z)])):TL P n W ops Q (⟨some d,.makeSlice t x y,ty,pos,after,none⟩::rest) fr L:=
 pE hx hy (Nat.le_refl _) hb qD hn fun g=>AG (i:=L.length) 1 (List.getElem?_concat_length ..) (by rw[size_madeCells]) (Nat.le_refl _) qD (by
  have e1:(madeCells #[z] (m*1)).toList.take (m*1)=List.replicate m z:=by
   rw[Uz,Nat.mul_one,List.take_of_length_le (by simp)]
  rw[e1,List.set_append_right _ _ (Nat.le_refl _),Nat.sub_self];exact h g)
end
end bK
namespace bK
open Go.RowKit bO dc
section
end
theorem Lc{P:Program}{k:TypeId}{κ:Type}{K:rJ P k κ}{g b b':Nat}{z:Value}{f f':κ->Value}(hb:b<=b')(hf:∀x,K.ok x->f' x=f x)(w:World)(h:(lu K g z f b).holds w):(lu K g z f' b').holds w:=by
 obtain⟨m,n,h1,h2,h3⟩:=h;exact⟨m,n,by omega,h2,fun x hx=>by rw[hf x hx];exact h3 x hx⟩
end bK
namespace bK
open Go.RowKit bO dc
section
variable{P:Program}{n:Nat}{W:bC}{fr:Fr}{L:List bI}{Q:Exit->Act->World->Prop}{ops:Array Oper}{rest:List Oper}
theorem Mem.Jl{w:World}{i:Nat}{o:bI}(o':bI)(h:Mem W L w)(hi:L[i]?=some o)(hh:∀w,o.holds w->o'.holds w)(hf:∀k,o'.dS k->o.dS k):Mem W (L.set i o') w:=by
  have hlen:i<L.length:=(List.getElem?_eq_some_iff.1 hi).1;have hoi:=h.owns.all i o hi;refine⟨h.low,fun j q hj=>?_,fun j j' q q' oW hj mi k hk kp=>?_⟩
  · by_cases e:i=j
    · subst e
      rw[List.getElem?_set_self hlen]at hj;simp only[Option.some.injEq]at hj;subst hj;exact⟨hh w hoi.1,fun k hk=>hoi.2 k (hf k hk)⟩
    · rw[List.getElem?_set_ne e]at hj
      exact h.owns.all j q hj
  · by_cases e:i=j
    · subst e
      rw[List.getElem?_set_self hlen]at hj;rw[List.getElem?_set_ne oW]at mi;simp only[Option.some.injEq]at hj;subst hj;exact h.owns.apart i j' o q' oW hi mi k (hf k hk) kp
    · rw[List.getElem?_set_ne e]at hj
      by_cases e':i=j'
      · subst e'
        rw[List.getElem?_set_self hlen]at mi;simp only[Option.some.injEq]at mi;subst mi;exact h.owns.apart j i q o oW hj hi k hk (hf k kp)
      · rw[List.getElem?_set_ne e']at mi
        exact h.owns.apart j j' q q' oW hj mi k hk kp
theorem Jm{c:Code}{i:Nat}{o:bI}(o':bI)(hi:L[i]?=some o)(hh:∀w,o.holds w->o'.holds w)(hf:∀k,o'.dS k->o.dS k)(h:T P n W c Q fr (L.set i o')):T P n W c Q fr L:= .mk fun a w hr hm=>h.go a w hr (hm.Jl o' hi hh hf)
theorem kW{e:Exit}{i:Nat}{o:bI}(o':bI)(hi:L[i]?=some o)(hh:∀w,o.holds w->o'.holds w)(hf:∀k,o'.dS k->o.dS k)(h:E n W e Q fr (L.set i o')):E n W e Q fr L:= .mk fun a w hr hm=>h.go a w hr (hm.Jl o' hi hh hf)
end
end bK
namespace bK
open Go.RowKit bO dc bW eG
inductive ic(F:Nat->Prop)(w:World):List Value->Rx->Prop
 |mk {k:Int} {c:C4} {kids:List Rx} {base:Option Addr} {cap:Nat} (fu:List (List Value)):bO.cV k->kids.length<=cap->cap<=maxLen->fu.length=kids.length->
  (∀i (h:i<kids.length) (h':i<fu.length),ic F w fu[i] kids[i])->(0<kids.length->∃b off,base=some ⟨b,off,none⟩/\F b/\∀i (_:i<kids.length) (h':i<fu.length),Rd w b (off+i*6) fu[i])->
  ic F w (.int .i64 k::(cZ c++[.slice base kids.length cap])) (.mk k c kids)
theorem ic.V4{F:Nat->Prop}{w:World}{cs:List Value}{t:Rx}(h:ic F w cs t):cs.length=6:=by
 cases h;rfl
theorem ic.Cc{F:Nat->Prop}{w w':World}{cs:List Value}{t:Rx}(h:ic F w cs t)(hk:∀k,F k->w'.heap[k]?=w.heap[k]?):ic F w' cs t:=by
 induction h with
 |mk fu h2 h3 h4 h5 h6 h7 ih=>
  refine .mk fu h2 h3 h4 h5 ih fun hl=>?_;obtain⟨b,off,e,hF,hr⟩:=h7 hl;exact⟨b,off,e,hF,fun i hi lg=>rd_stay (hr i hi lg) (hk b hF)⟩
theorem ic.mono{F F':Nat->Prop}{w:World}{cs:List Value}{t:Rx}(h:ic F w cs t)(hk:∀k,F k->F' k):ic F' w cs t:=by
 induction h with
 |mk fu h2 h3 h4 h5 h6 h7 ih=>
  refine .mk fu h2 h3 h4 h5 ih fun hl=>?_;obtain⟨b,off,e,hF,hr⟩:=h7 hl;exact⟨b,off,e,hk b hF,hr⟩
def rL:sC Rx:=⟨6,ic,fun h=>h.V4,fun h hk=>h.Cc hk,fun h hk=>h.mono hk⟩
def jx(k:Int)(c:C4)(v:Value):List Value:= .int .i64 k::(cZ c++[v])
def mM(k:Int)(c:C4)(v:Value):Value:= .agg (jx k c v).toArray
theorem sS{F:Nat->Prop}{w:World}{cs:List Value}{k:Int}{c:C4}{kids:List Rx}:ic F w cs (.mk k c kids)↔∃v,cs=jx k c v/\bO.cV k/\iB rL F w v kids:=by
 constructor
 ·intro h
  cases h with
  |mk fu h2 h3 h4 h5 h6 h7=>
   refine⟨_,rfl,h2,_,_,rfl,h3,h4,fun hl=>?_⟩;obtain⟨b,off,e,hF,hr⟩:=h7 hl;exact⟨b,off,e,hF,fun i hi=>⟨fu[i]'(by omega),h6 i hi (by omega),hr i hi (by omega)⟩⟩
 ·rintro⟨v,rfl,h2,base,cap,rfl,h3,h4,h5⟩
  by_cases hl:0<kids.length
  ·obtain⟨b,off,e,hF,hr⟩:=h5 hl
   have hlen:(List.ofFn fun i:Fin kids.length=>Classical.choose (hr i i.2)).length=kids.length:=by simp
   refine .mk (List.ofFn fun i:Fin kids.length=>Classical.choose (hr i i.2)) h2 h3 h4 hlen (fun i hi lg=>?_) fun _=>⟨b,off,e,hF,fun i hi lg=>?_⟩
   ·rw[List.getElem_ofFn];exact(Classical.choose_spec (hr i hi)).1
   ·rw[List.getElem_ofFn];exact(Classical.choose_spec (hr i hi)).2
  ·have:kids=[]:=List.eq_nil_of_length_eq_zero (by omega)
   subst this;exact .mk [] h2 h3 h4 rfl (fun i hi=>absurd hi (by simp)) fun h=>absurd h (by simp)
def kM(F:Nat->Prop)(w:World)(v:Value)(r:Rx):Prop:=∃vk,v=mM r.kind r.pA vk/\bO.cV r.kind/\iB rL F w vk r.kids
theorem kM.stay{F:Nat->Prop}{w w':World}{v:Value}{r:Rx}(h:kM F w v r)(hk:∀k,F k->w'.heap[k]?=w.heap[k]?):kM F w' v r:=
 let ⟨vk,h1,h2,h3⟩:=h;⟨vk,h1,h2,h3.stay hk⟩
theorem kM.mono{F F':Nat->Prop}{w:World}{v:Value}{r:Rx}(h:kM F w v r)(hk:∀k,F k->F' k):kM F' w v r:=
 let ⟨vk,h1,h2,h3⟩:=h;⟨vk,h1,h2,h3.mono hk⟩
def ng(w:World):Nat->Prop:=fun k=>k<w.heap.size
theorem kM.gr{w w':World}{v:Value}{r:Rx}(h:kM (ng w) w v r)(hg:Gr w w'):kM (ng w') w' v r:=
 (h.stay fun k hk=>hg.block k hk).mono fun _ hk=>Nat.lt_of_lt_of_le hk hg.size
theorem kM.is{F:Nat->Prop}{w:World}{v:Value}{r:Rx}(h:kM F w v r):∃cs,v= .agg cs.toArray/\ic F w cs r:=by
 obtain⟨k,c,kids⟩:=r;obtain⟨vk,rfl,h1,h2⟩:=h;exact⟨_,rfl,sS.2 ⟨vk,rfl,h1,h2⟩⟩
theorem ic.r{F:Nat->Prop}{w:World}{cs:List Value}{r:Rx}(h:ic F w cs r):kM F w (.agg cs.toArray) r:=by
 obtain⟨k,c,kids⟩:=r;obtain⟨vk,rfl,h1,h2⟩:=sS.1 h;exact⟨vk,rfl,h1,h2⟩
theorem mB{F:Nat->Prop}{w:World}{b off:Nat}{l:List Rx}(h:∀i (h:i<l.length),∃cs,rL.is F w cs l[i]/\Rd w b (off+i*rL.c) cs){k:Nat}(hk:k<l.length):
 ∃base cap,Rd w b (off+k*6) (jx l[k].kind l[k].pA (.slice base l[k].kids.length cap))/\kM F w (mM l[k].kind l[k].pA (.slice base l[k].kids.length cap)) l[k]:=by
 obtain⟨cs,h1,hr⟩:=h k hk;have h1:ic F w cs l[k]:=h1;generalize l[k]=r at*;obtain⟨kd,c,kids⟩:=r;obtain⟨vk,rfl,a1,a2⟩:=sS.1 h1;have a2':=a2;obtain⟨base,cap,rfl,_⟩:=a2';exact⟨base,cap,hr,_,rfl,a1,a2⟩
def xJ(r:Re)(k:Nat):List (Re×Nat):=match r with
 | .B2 a b=>[(a,k+1),(b,k+1+a.size)]
 | .B3 a b=>[(a,k+1),(b,k+1+a.size)]
 | .star a=>[(a,k+1)]
 |_=>[]
inductive uT(F:Nat->Prop)(w:World):List Value->Re×Nat->Prop
 |mk {r:Re} {k:Nat} {vk:Value} {base:Option Addr} {cap:Nat} (fu:List (List Value)):vk.oneCell'=true->(xJ r k).length<=cap->cap<=maxLen->fu.length=(xJ r k).length->
  (∀i (h:i<(xJ r k).length) (h':i<fu.length),uT F w fu[i] (xJ r k)[i])->(0<(xJ r k).length->∃b off,base=some ⟨b,off,none⟩/\F b/\∀i (_:i<(xJ r k).length) (h':i<fu.length),Rd w b (off+i*8) fu[i])->
  uT F w (.int .i64 r.kind::(cZ r.pA++[vk,.int .i64 (k:Int),.slice base (xJ r k).length cap])) (r,k)
theorem uT.Cc{F:Nat->Prop}{w w':World}{cs:List Value}{t:Re×Nat}(h:uT F w cs t)(hk:∀k,F k->w'.heap[k]?=w.heap[k]?):uT F w' cs t:=by
 induction h with
 |mk fu h2 h3 h4 h5 h6 h7 ih=>
  refine .mk fu h2 h3 h4 h5 ih fun hl=>?_;obtain⟨b,off,e,hF,hr⟩:=h7 hl;exact⟨b,off,e,hF,fun i hi lg=>rd_stay (hr i hi lg) (hk b hF)⟩
theorem uT.mono{F F':Nat->Prop}{w:World}{cs:List Value}{t:Re×Nat}(h:uT F w cs t)(hk:∀k,F k->F' k):uT F' w cs t:=by
 induction h with
 |mk fu h2 h3 h4 h5 h6 h7 ih=>
  refine .mk fu h2 h3 h4 h5 ih fun hl=>?_;obtain⟨b,off,e,hF,hr⟩:=h7 hl;exact⟨b,off,e,hk b hF,hr⟩
section
variable{P:Program}{n:Nat}{W:bC}{fr:Fr}{L:List bI}{Q:Exit->Act->World->Prop}{ops:Array Oper}{rest:List Oper}
theorem Mem.R9{w:World}{i:Nat}{o:bI}(o':bI)(h:Mem W L w)(hi:L[i]?=some o)(hh:o'.holds w)(hf:∀k,o'.dS k->o.dS k):Mem W (L.set i o') w:=by
  have hlen:i<L.length:=(List.getElem?_eq_some_iff.1 hi).1;have hoi:=h.owns.all i o hi;refine⟨h.low,fun j q hj=>?_,fun j j' q q' oW hj mi k hk kp=>?_⟩
  · by_cases e:i=j
    · subst e
      rw[List.getElem?_set_self hlen]at hj;simp only[Option.some.injEq]at hj;subst hj;exact⟨hh,fun k hk=>hoi.2 k (hf k hk)⟩
    · rw[List.getElem?_set_ne e]at hj
      exact h.owns.all j q hj
  · by_cases e:i=j
    · subst e
      rw[List.getElem?_set_self hlen]at hj;rw[List.getElem?_set_ne oW]at mi;simp only[Option.some.injEq]at hj;subst hj;exact h.owns.apart i j' o q' oW hi mi k (hf k hk) kp
    · rw[List.getElem?_set_ne e]at hj
      by_cases e':i=j'
      · subst e'
        rw[List.getElem?_set_self hlen]at mi;simp only[Option.some.injEq]at mi;subst mi;exact h.owns.apart j i q o oW hj hi k hk (hf k kp)
      · rw[List.getElem?_set_ne e']at mi
        exact h.owns.apart j j' q q' oW hj mi k hk kp
end
end bK
namespace iN
open Go.RowKit bO dc bW bK
set_option maxRecDepth 100000 in
theorem V5(x y:C4)(w:World):(Op.equalIn 10000 116 (.agg #[v64 x.a,v64 x.b,v64 x.c,v64 x.d]) (.agg #[v64 y.a,v64 y.b,v64 y.c,v64 y.d])).run Tryz.prog w= .ok (decide (x=y)) w:=by
  have e:(Op.equalIn 10000 116 (.agg #[v64 x.a,v64 x.b,v64 x.c,v64 x.d]) (.agg #[v64 y.a,v64 y.b,v64 y.c,v64 y.d])).run Tryz.prog w= .ok ((ez x.a==ez y.a)&&((ez x.b==ez y.b)&&((ez x.c==ez y.c)&&(ez x.d==ez y.d)))) w:=by
    unfold v64;rw[run_equalIn_array (P:=Tryz.prog) w 9999 (n:=4) (e:=114) _ _ rfl rfl];have h1:Tryz.prog.cellsOf 114=1:=rfl;simp[Op.eqItems,go_sem,List.range_succ_eq_map,h1]
    by_cases e1:ez x.a=ez y.a<;>by_cases e2:ez x.b=ez y.b<;>by_cases e3:ez x.c=ez y.c<;>by_cases e4:ez x.d=ez y.d<;>simp[e1,e2,e3,e4]
  rw[e]
  congr 1
  by_cases h:x=y
  · subst h;simp
  · rw[decide_eq_false h]
    simp only[VU,Bool.and_eq_false_iff]
    by_cases h1:x.a=y.a
    · by_cases h2:x.b=y.b
      · by_cases h3:x.c=y.c
        · by_cases h4:x.d=y.d
          · exact absurd (C4.ext' h1 h2 h3 h4) h
          · simp[h4]
        · simp[h3]
      · simp[h2]
    · simp[h1]
end iN
namespace bK
open Go.RowKit bO dc
section
variable{P:Program}{n:Nat}{W:bC}{fr:Fr}{L:List bI}{Q:Exit->Act->World->Prop}{ops:Array Oper}{rest:List Oper}{d:Nat}{dst:Option Tmp}{ty:TypeId}{pos:String}{after:Array Edge}{guard:Option (Nat×Bool)}
theorem V6{t e:TypeId}{x z z':Operand}{agg:Bool}{c j len cap b off:Nat}{k k':IntKind}(ht:P.underlying t=some (.slice e))(he:Ty P e agg c)(hx:ev fr x=some (.slice (some ⟨b,off,none⟩) len cap))(hz:ev fr z=some (.int k (j:Int)))(hz':ev fr z'=some (.int k' (j:Int)))(h2:j<=cap):
 RR P n W ⟨dst,.slice t x none (some z) (some z'),ty,pos,after,guard⟩ fr L (.slice (some ⟨b,off,none⟩) j j):= .mk fun a w hr _=>by
 have hb:∀(k:IntKind) (p q:Nat) (cd:BoundsCode),p<=q->(Instr.sliceBound (.int k (p:Int)) q cd).run P w= .ok p w:=fun k p q cd h=>by
  have:(0:Int)<=(p:Int)/\(p:Int)<=(q:Int):=by omega
  simp[Instr.sliceBound,asIntOf,this]
 have e1:((⟨b,off,none⟩:Addr).add 0)=⟨b,off,none⟩:=by rw[eS];rfl
 simp[execOp,hr.ev hx,hr.ev hz,hr.ev hz',Instr.sliceAt,Instr.slice,run_underlying ht,Instr.sliceBounds,he.size,hb k' j cap _ h2,hb k j j _ (Nat.le_refl _),e1]
theorem Hc{t e:TypeId}{s x:Operand}{q g b off size bytes m:Nat}{olds:List Value}{cs:Array Value}{T:TypeId}[qZ:mX P t e size bytes](hs:ev fr s=some (.slice (some ⟨b,off,none⟩) m m))(hold:∀j v,olds[j]?=some v->At W L ⟨b,off+j,none⟩ v)(V7:olds.length=m*size)(hq:L[q]?=some (aw g cs T))(hx:ev fr x=some (.slice (some ⟨g,0,none⟩) 1 1))
 (hl:cs.size=size) (qD:m+1<=140737488355328) (hb:(m+1)*bytes<=140737488355328) (hn:Nat.blt d n=true)
 (h:∀v',TL P n W ops Q rest ((d,v')::fr) (L++[aM e size v' (m+1) (olds++cs.toList)])):
 TL P n W ops Q (⟨some d,.call {callee:= .builtin .append,args:=#[s,x],argTypes:=#[t,t]},ty,pos,after,none⟩::rest) fr L:=iV rfl fun act w hr hm K hK=>by
 obtain⟨inf,z,ht,zT,hz,lp,KW,Rm,hsz⟩:=qZ.el.ex;subst lp KW;have hrun:=run_append_grow (P:=P) w t ty e inf z ht zT hz ⟨b,off,none⟩ m m olds V7 (fun j v hj=>by rw[eS];exact hold j v hj w hm) ⟨g,0,none⟩ 1 1 cs.toList (by simpa using hl) (fun j v hj=>by rw[eS,Nat.zero_add];exact ah hq (by simpa using hj) w hm) (by omega) (by omega) (growslice_fits (by omega) hb);have e':(execOp act.eval ⟨some d,.call {callee:= .builtin .append,args:=#[s,x],argTypes:=#[t,t]},ty,pos,after,none⟩).run P w= .ok (.value (.slice (some ⟨w.heap.size,0,none⟩) (m+1) (grownCap w (m+1) m e))) (w.drew.alloc (.cells (olds.toArray++cs.toList.toArray++Builtin.zeroCells z.cells (grownCap w (m+1) m e-(m+1))) e)):=by
  simp only[BigFrame.execOp_builtin,BigFrame.builtin_append,List.map_toArray,List.map_cons,List.map_nil,hr.ev hs,hr.ev hx,Sem.run_bind,hrun,Result.andThen_ok,Sem.run_pure]
 unfold Oper.wp;rw[e'];have hge:=grownCap_ge w (m+1) m e;have VO:grownCap w (m+1) m e<=maxLen:=grownCap_le_maxLen w (m+1) m e (by unfold maxLen;omega);have hlen:(olds++cs.toList).length=(m+1)*inf.size:=by rw[List.length_append,V7,Array.length_toList,hl,Nat.succ_mul]
 refine hK _ _ ((h _).go _ _ (hr.put hn _) (hm.append ((Below.refl _ _).drew.alloc (Nat.le_refl _) _) (mZ.one ?_ ?_)))
 ·refine(⟨hlen,.inr ⟨w.heap.size,_,_,rfl,Nat.zero_le _,heap_alloc_new w.drew _,hge,VO,?_,?_⟩⟩:World.ownsRow _ 0 e inf.size _ (m+1) (olds++cs.toList))
  ·simp only[Array.size_append,List.size_toArray,size_zeroCells,Rm,V7,hl]
   have:grownCap w (m+1) m e=m+1+(grownCap w (m+1) m e-(m+1)):=by omega
   conv=>rhs;rw[this,Nat.add_mul,Nat.add_mul,Nat.one_mul]
  ·simp only[Array.toList_append]
   rw[<-hlen];exact List.take_left
 ·intro k hk
  have hk:Value.ownBlock (.slice (some ⟨w.heap.size,0,none⟩) (m+1) (grownCap w (m+1) m e))=some k:=hk;simp only[Value.ownBlock,Option.some.injEq]at hk;omega
def gA(G:Option Nat):Option Addr:=G.map fun g=>⟨g,0,none⟩
theorem Ee{w:World}{e:TypeId}{size m:Nat}{v:Value}{xs:List Value}(h:(aM e size v m xs).holds w):∃G cap,v= .slice (gA G) m cap/\m<=cap/\cap<=maxLen/\(G=none->cap=0):=by
 have h:w.ownsRow 0 e size v m xs:=h;rcases h.2 with⟨hv,h0⟩|⟨g,cap,kK,hv,_,_,h1,h2,_⟩
 ·exact⟨none,0,by rw[hv,h0];rfl,by omega,by decide,fun _=>rfl⟩
 ·exact⟨some g,cap,hv,h1,h2,fun h=>by cases h⟩
theorem Hd{c:Code}{i size m:Nat}{e:TypeId}{v:Value}{xs:List Value}(hi:L[i]?=some (aM e size v m xs))(h:∀G cap,v= .slice (gA G) m cap->m<=cap->cap<=9223372036854775807->(G=none->cap=0)->T P n W c Q fr L):T P n W c Q fr L:= .mk fun a w hr hm=>by
 obtain⟨G,cap,h1,h2,h3,h4⟩:=Ee (hm.get hi);exact(h G cap h1 h2 h3 h4).go a w hr hm
theorem rM{c:Code}{i size m:Nat}{e:TypeId}{v:Value}{xs:List Value}(hi:L[i]?=some (aM e size v m xs))(h0:0<m)(h:∀g cap,v= .slice (some ⟨g,0,none⟩) m cap->m<=cap->cap<=9223372036854775807->T P n W c Q fr L):T P n W c Q fr L:=by
 refine Hd hi fun G cap hv h1 h2 h3=>?_
 cases G with
 |none=>have:=h3 rfl;omega
 |some g=>exact h g cap hv h1 h2
end
end bK
namespace bK
open Go.RowKit bO dc bW eG
theorem Ef(k:Int)(w:World):Calls Tryz.prog 174 #[.int .i64 k] w (bM (ret (.int .i64 (xB k))) w):=by
 unfold xB;refine enter (args:=[.int .i64 k]) (n:=13) Tryz.func174 rfl rfl rfl ?_
 by_cases k1:k=1
 ·rw[if_pos k1]
  try refine GA ?_
  exact db
 rw[if_neg k1]
 by_cases k2:k=2
 ·rw[if_pos k2]
  try refine GA ?_
  exact db
 rw[if_neg k2]
 by_cases k3:k=3
 ·rw[if_pos k3]
  try refine GA ?_
  exact db
 rw[if_neg k3]
 by_cases k6:k=6
 ·rw[if_pos k6]
  try refine GA ?_
  exact db
 rw[if_neg k6]
 by_cases k4:k=4
 ·rw[if_pos k4]
  try refine GA ?_
  exact db
 rw[if_neg k4]
 by_cases k5:k=5
 ·rw[if_pos k5]
  try refine GA ?_
  exact db
 rw[if_neg k5]
 try refine GA ?_
 exact db
theorem V8{r:Rx}{deep n:Nat}(h:(iL r deep n).1=0):(iL r deep n).2<=100:=by
 obtain⟨e,_,h1,h2⟩:=B4 _ r deep n (iL r deep n).2 (Nat.le_refl _) (Prod.ext h rfl);have:=h1.sz;omega
theorem N7(w:World):(Instr.build 116 (#[]:Array (Nat×Value))).run Tryz.prog w= .ok (kV C4.zero) w:=by kernel_rfl
theorem YF(x y:C4)(w:World):(Op.equalIn 10000 116 (kV x) (kV y)).run Tryz.prog w= .ok (decide (x=y)) w:=iN.V5 x y w
theorem Jn{W0:World}{W:bC}{L:List bI}{b off:Nat}{cs:List Value}(ho:jz W0 W)(h:Rd W0 b off cs)(j:Nat)(v:Value)(hj:cs[j]?=some v):At W L ⟨b,off+j,none⟩ v:=fx ho (h j v hj)
theorem R_{k:Int}{c:C4}{vk:Value}{j:Nat}{v:Value}(h:(cZ c)[j]?=some v):(jx k c vk).toArray[0+1+j]?=some v:=by
 have hj:j<(cZ c).length:=(List.getElem?_eq_some_iff.1 h).1;rw[List.getElem?_toArray,show 0+1+j=j+1 by omega];show(cZ c++[vk])[j]?=_
 rw[List.getElem?_append_left hj];exact h
set_option maxRecDepth 100000 in
theorem uU(w0:World)(gn:Nat):∀(N:Nat) (r:Rx),oK r<=N->∀(v:Value) (deep n:Nat) (w:World) (B:bC),kM (ng w0) w0 v r->n<=100->deep<=31->jz w0 B->Mem B [aw gn #[.int .i64 (n:Int)] 3] w->
    Calls Tryz.prog 146 #[v,.int .i64 (deep:Int),.pointer (some ⟨gn,0,none⟩)] w (c_ ⟨fun(_:Unit)=>True,fun _=> .int .i64 (iL r deep n).1,fun _=>[aw gn #[.int .i64 ((iL r deep n).2:Int)] 3]⟩ B)
  |0,r,h,_,_,_,_,_,_,_,_,_,_=>by have:=AC r;omega
  | N + 1,.mk k c kids,hN,v,deep,n,w,B,hv,hn,hd,ho,hm=>by
    have IH:=uU w0 gn N;obtain⟨vk,rfl,aaR,Jo⟩:=hv;dsimp only[Rx.kind,Rx.pA,Rx.kids]at aaR Jo⊢;obtain⟨bk,ck,rfl,gd,GL,Ld⟩:=Jo;unfold maxLen at GL;rw[iL];rw[oK]at hN;have hkc:=fun w=>Ef k w;have uR:=YF c C4.zero;have hcz:=N7;refine dC hm (args:=[mM k c (.slice bk kids.length ck),.int .i64 (deep:Int),.pointer (some ⟨gn,0,none⟩)]) (n:=55) Tryz.func146 rfl rfl rfl ?_;clear hm;refine a8 (aL (a_ rfl rfl rfl fun g3=>?_));refine zL ?_
    repeat(first|refine GC ?_|refine gV (J ak.ty rfl (ah (i:=0) rfl rfl)) ?_|refine gV (cB (r:=((n+1:Nat):Int)) rfl rfl (by omega) (by omega) (by omega)) ?_|refine GB ?_)
    refine aW (i:=0) rfl rfl rfl rfl rfl rfl ?_;rw[show(#[.int .i64 (n:Int)]:Array Value).setIfInBounds 0 (.int .i64 ((n+1:Nat):Int))=#[.int .i64 ((n+1:Nat):Int)]from rfl];refine zL ?_
    by_cases c1:100<n+1
    · rw[if_pos c1]
      repeat(first|refine GA ?_|refine gV (J ak.ty rfl (ah (i:=0) rfl rfl)) ?_)
      exact b9 rfl rfl fun w hm=>hm.bP (S:=⟨fun(_:Unit)=>True,fun _=> .int .i64 2,fun _=>[aw gn #[.int .i64 ((n+1:Nat):Int)] 3]⟩) () trivial [0] (by decide) rfl
    rw[if_neg c1]
    by_cases c2:30<deep
    · rw[if_pos c2]
      repeat(first|refine GA ?_|refine gV (J ak.ty rfl (ah (i:=0) rfl rfl)) ?_)
      exact b9 rfl rfl fun w hm=>hm.bP (S:=⟨fun(_:Unit)=>True,fun _=> .int .i64 7,fun _=>[aw gn #[.int .i64 ((n+1:Nat):Int)] 3]⟩) () trivial [0] (by decide) rfl
    rw[if_neg c2]
    repeat(first|refine GA ?_|refine gV (J ak.ty rfl (ah (i:=0) rfl rfl)) ?_)
    by_cases c3:xB k≠(kids.length:Int)
    · rw[if_pos c3]
      (repeat refine a8 ?_)
      refine cU ([aw g3 (jx k c (.slice bk kids.length ck)).toArray 119]) (.calm 0 (.calm 1 (.calm 2 (.calm 3 (.calm 4 (.calm 5 (.calm 6 (.calm 7 (.done))))))))) (bz [1]) ?_
      repeat(first|refine GW ?_|(refine GN ?_;first|refine QW (J ak.ty rfl (ah (i:=0) rfl rfl)) ?_))
      refine sN rfl (jc aj.en rfl rfl) (fun w hm=>hkc _) rfl rfl rfl ?_
      repeat(first|(refine GN ?_;first|refine QW QP ?_|refine QW (J ak.ty rfl (ah (i:=0) rfl rfl)) ?_|refine QW (bm (b:=true) rfl rfl (decide_eq_true c3)) ?_|refine GX ?_)|refine GW ?_)
      try refine GA ?_
      exact b9 rfl rfl fun w hm=>hm.bP (S:=⟨fun(_:Unit)=>True,fun _=> .int .i64 1,fun _=>[aw gn #[.int .i64 ((n+1:Nat):Int)] 3]⟩) () trivial [0] (by decide) rfl
    rw[if_neg c3];have Jp:xB k=(kids.length:Int):=by simpa using c3
    rw[Jp]at hkc
    (repeat refine a8 ?_)
    refine cU ([aw g3 (jx k c (.slice bk kids.length ck)).toArray 119]) (.calm 0 (.calm 1 (.calm 2 (.calm 3 (.calm 4 (.calm 5 (.calm 6 (.calm 7 (.done))))))))) (bz [1]) ?_
    repeat(first|refine GW ?_|(refine GN ?_;first|refine QW (J ak.ty rfl (ah (i:=0) rfl rfl)) ?_))
    refine sN rfl (jc aj.en rfl rfl) (fun w hm=>hkc _) rfl rfl rfl ?_
    repeat(first|(refine GN ?_;first|refine QW QP ?_|refine QW (J ak.ty rfl (ah (i:=0) rfl rfl)) ?_|refine QW (bm (b:=false) rfl rfl (decide_eq_false (fun h=>h rfl))) ?_|refine GX ?_)|refine GW ?_)
    try refine GA ?_
    generalize hD:(decide (k=3) !=decide (c≠C4.zero))=D;have hD':(!(decide (k=3)==!decide (c=C4.zero)))=D:=by
      rw[<-hD,decide_not]
      cases decide (k=3)<;>cases decide (c=C4.zero)<;>rfl
    (repeat refine a8 ?_)
    refine cU ([aw g3 (jx k c (.slice bk kids.length ck)).toArray 119]) (.calm 0 (.calm 1 (.calm 2 (.calm 3 (.calm 4 (.calm 5 (.calm 6 (.calm 7 (.calm 8 (.done)))))))))) (bz [1]) ?_
    repeat(first|(refine GN ?_;first|refine QW QP ?_|refine QW (J ak.ty rfl (ah (i:=0) rfl rfl)) ?_|refine QW (bL (b:=decide (k=3)) rfl rfl rfl) ?_|refine QW (aH (cs:=cZ c) ak.ty rfl rfl (fun j v hj=>ah (i:=0) rfl (R_ hj))) ?_|refine QW (aP rfl hcz) ?_|refine QW (lq rfl rfl (by kernel_rfl) uR rfl) ?_|refine QW (KT (c:=D) aT.eq rfl rfl hD') ?_|refine GX ?_)|refine GW ?_)
    clear hD hD' uR hcz hkc
    cases D with
    | true=>
      rw[if_pos rfl]
      try refine GA ?_
      exact b9 rfl rfl fun w hm=>hm.bP (S:=⟨fun(_:Unit)=>True,fun _=> .int .i64 1,fun _=>[aw gn #[.int .i64 ((n+1:Nat):Int)] 3]⟩) () trivial [0] (by decide) rfl
    | false=>
      rw[if_neg (by decide)]
      repeat(first|refine GA ?_|refine gV (J ak.ty rfl (ah (i:=1) rfl rfl)) ?_)
      refine oX [0] ?_;refine dv (ι:=Nat×Nat) (fun(j,q)=>j<=kids.length/\q<=100/\wg kids (deep+1) (n+1)=wg (kids.drop j) (deep+1) q) (fun(j,_)=>[(1,.int .i64 (deep:Int)),(2,.pointer (some ⟨gn,0,none⟩)),(40,.slice bk kids.length ck),(41,.int .i64 (kids.length:Int)),(42,.int .i64 (j:Int))])
        (fun(_,q)=>[aw gn #[.int .i64 (q:Int)] 3]) (fun(j,_)=>kids.length-j) (0,n+1) ⟨Nat.zero_le _,by omega,rfl⟩ ?_
      rintro⟨j,q⟩ ⟨hj,hq,hk⟩;dsimp only at hj hq hk⊢;rw[hk]
      by_cases c4:j<kids.length
      · obtain⟨b,off,rfl,_,hr⟩:=Ld (by omega)
        obtain⟨bj,cj,ef,UN⟩:=mB hr c4;have Yl:kids.drop j=kids[j]::kids.drop (j+1):=List.drop_eq_getElem_cons c4;rw[Yl,wg]at hk⊢;have hsz:=xC (List.getElem_mem c4);have hle:=fun h=>V8 (r:=kids[j]'c4) (deep:=deep+1) (n:=q) h;have dF:=fun(L:List bI) j v hj=>Jn (L:=L) ho ef j v hj;generalize kids[j]=r at*;generalize r.kids.length=m at*
        repeat(first|refine GA ?_|refine gV (aC (j:=j) aT.eq ak.ty rfl rfl c4) ?_|refine gV (aH ak.ty rfl rfl (dF _)) ?_)
        refine aK rfl fun g8=>?_;refine zL ?_;refine fa 1 (cs':=(jx r.kind r.pA (.slice bj m cj)).toArray) ?_;refine zL ?_
        repeat(first|refine GC ?_|refine gV (az (i:=1) ak.ty rfl rfl rfl) ?_|refine gV (cB (r:=((deep+1:Nat):Int)) rfl rfl (by omega) (by omega) (by omega)) ?_|refine GB ?_)
        refine aR [0] [1] (by decide) rfl rfl (sB aj.en rfl rfl rfl rfl) (fun w hm hb=>IH r (by omega) _ (deep+1) q w _ UN hq (by omega) (ho.on hm (by intro o ho;simp at ho⊢;simp[ho])) hb) rfl rfl rfl ?_;intro _ _;dsimp only;refine zL ?_
        by_cases e1:(iL r (deep+1) q).1=0
        · rw[if_neg (by simpa using e1)]
          rw[if_neg (by simpa using e1)]at hk;have xr:=hle e1;rw[e1];generalize (iL r (deep+1) q).2=q' at*
          try refine GA ?_
          refine cD [1] ?_;exact bB (j+1,q') ⟨by show j+1<=kids.length;omega,xr,rfl⟩ (by show kids.length-(j+1)<kids.length-j;omega)
        · rw[if_pos e1]
          generalize iL r (deep+1) q=z at*
          repeat(first|refine GC ?_|refine gV (bm (b:=true) rfl rfl (decide_eq_true e1)) ?_|refine GB ?_)
          exact b9 rfl rfl fun w hm=>hm.bP (S:=⟨fun(_:Unit)=>True,fun _=> .int .i64 z.1,fun _=>[aw gn #[.int .i64 (z.2:Int)] 3]⟩) () trivial [1] (by decide) rfl
      · obtain rfl:j=kids.length:=by omega
        rw[List.drop_length,wg]at hk⊢
        try refine GA ?_
        exact b9 rfl rfl fun w hm=>hm.bP (S:=⟨fun(_:Unit)=>True,fun _=> .int .i64 0,fun _=>[aw gn #[.int .i64 (q:Int)] 3]⟩) () trivial [0] (by decide) rfl
def N8(r:Rx):Int:=(iL r 1 0).1
theorem pG(v:Value)(r:Rx)(w:World)(hv:kM (ng w) w v r):Calls Tryz.prog 111 #[v] w (bM (ret (.int .i64 (N8 r))) w):=by
 have hc:=fun gn w' B ho hm=>uU w gn _ r (Nat.le_refl _) v 1 0 w' B hv (by omega) (by omega) ho hm;obtain⟨vk,rfl,_,hs⟩:=hv;obtain⟨bk,ck,rfl,-⟩:=hs;generalize r.kids.length=m at*;refine enter (args:=[mM r.kind r.pA (.slice bk m ck)]) (n:=6) Tryz.func111 rfl rfl rfl ?_;refine a8 (aL (a_ rfl rfl rfl fun g1=>?_))
 try refine GA ?_
 refine aK rfl fun g3=>?_;refine zL ?_;refine aW (i:=1) rfl rfl rfl rfl rfl rfl ?_;refine zL ?_
 repeat(first|refine GA ?_|refine gV (az (i:=0) ak.ty rfl rfl rfl) ?_)
 refine aR [1] [0] (by decide) rfl rfl (sB aj.en rfl rfl rfl rfl) (fun w hm hb=>hc g3 w _ ((jz.self _).on hm (by intro o ho;simp at ho⊢;simp[ho])) hb) rfl rfl rfl ?_;intro _ _;dsimp only;unfold N8
 try refine GA ?_
 exact db
end bK
section
open Go.RowKit bO dc bW
attribute [local go_sem] Yw aaO UI Yx
theorem Le{w:World}{g:Nat}{x:C4}(h:Wr w g 0 (cZ x)):w.cell? ⟨g,0,none⟩=some (v64 x.a)/\w.cell? ⟨g,1,none⟩=some (v64 x.b)/\w.cell? ⟨g,2,none⟩=some (v64 x.c)/\w.cell? ⟨g,3,none⟩=some (v64 x.d):=
 ⟨(h 0 _ rfl).1,(h 1 _ rfl).1,(h 2 _ rfl).1,(h 3 _ rfl).1⟩
theorem Lf{w:World}{g:Nat}{x:C4}{T:TypeId}(h:w.heap[g]?=some (.cells #[.int .u64 (ez x.a),.int .u64 (ez x.b),.int .u64 (ez x.c),.int .u64 (ez x.d)] T (0,0))):Wr w g 0 (cZ x):=fun j u hj=>by
 rw[Nat.zero_add,cell_of_row w g j _ T (0,0) h];exact⟨by simpa[cZ]using hj,frozen_of_row w g j _ T h⟩
theorem Jq{w:World}{B:Nat}(hB:w.heap.size=B)(x:C4)(T:TypeId):Wr (w.alloc (.cells #[.int .u64 (ez x.a),.int .u64 (ez x.b),.int .u64 (ez x.c),.int .u64 (ez x.d)] T)) B 0 (cZ x):=
 Lf (RE w _ B hB)
theorem kz(w:World)(o:Obj):Below w.heap.size w (w.alloc o):=(Below.refl _ _).alloc (Nat.le_refl _) _
theorem ub{w:World}{g:Nat}{x:C4}(h:Wr w g 0 (cZ x))(i:Nat)(hi:i<4):w.cell? ⟨g,i,none⟩=some (.int .u64 (ez (x.get i)))/\w.frozen? ⟨g,i,none⟩=false:=by
 have:=h i _ (NN x i hi);rw[Nat.zero_add]at this;exact this
theorem Lg{w:World}{g:Nat}{x:C4}(h:Wr w g 0 (cZ x))(i:Nat)(hi:i<4)(v:BitVec 64):Wr (w.setCell ⟨g,i,none⟩ (.int .u64 (ez v))) g 0 (cZ (x.set i v)):=by
 have:=h.set i (by simp[cZ];omega) (v64 v);rw[Nat.zero_add,NO x i hi v]at this;exact this
theorem Eg(lo hi:Int)(w:World)(h1:cV lo)(h2:cV hi):
    Calls Tryz.prog 88 #[.int .i64 lo,.int .i64 hi] w fun e w'=>e= .returned (kV (dP lo hi))/\Below w.heap.size w w':=by
  obtain⟨l1,l2⟩:=h1;obtain⟨m1,m2⟩:=h2;unfold kV;have rN:Below w.heap.size w ((w.alloc (.cells #[.int .u64 0,.int .u64 0,.int .u64 0,.int .u64 0] 116)).alloc (.cells #[.int .u64 0,.int .u64 0,.int .u64 0,.int .u64 0] 116))/\Wr ((w.alloc (.cells #[.int .u64 0,.int .u64 0,.int .u64 0,.int .u64 0] 116)).alloc (.cells #[.int .u64 0,.int .u64 0,.int .u64 0,.int .u64 0] 116)) w.heap.size 0 (cZ C4.zero)/\Wr ((w.alloc (.cells #[.int .u64 0,.int .u64 0,.int .u64 0,.int .u64 0] 116)).alloc (.cells #[.int .u64 0,.int .u64 0,.int .u64 0,.int .u64 0] 116)) (w.heap.size+1) 0 (cZ C4.zero):=
    ⟨(((Below.refl _ _).alloc (Nat.le_refl _) _).alloc (by simp) _),((Jq rfl C4.zero _).gr (kz _ _)),(Jq (by simp) C4.zero _)⟩
  obtain⟨B,hB⟩:∃B,B=w.heap.size:=⟨_,rfl⟩;rw[<-hB]at rN
  go_enter Tryz.func88,Tryz.ntmps88
  go_upto_region 2 with(fail)
  rw[<-hB];have aaS:w.heap.size<=B:=by omega
  have abQ:B<=w.heap.size:=by omega
  clear hB
  go_cut [6] (fun s6 w'=>w'=((w.alloc (.cells #[.int .u64 0,.int .u64 0,.int .u64 0,.int .u64 0] 116)).alloc (.cells #[.int .u64 0,.int .u64 0,.int .u64 0,.int .u64 0] 116))/\s6= .int .i64 (max lo 0))
  case first=>
    go_wp2
    all_goals
      go_meet
      case rel=>exact⟨rfl,by congr 1<;>omega⟩
  case rest =>
    obtain⟨rfl,rfl⟩:=hcut;obtain⟨b0,sG⟩:∃b0:Nat,(b0:Int)=max lo 0:=⟨(max lo 0).toNat,by omega⟩;have hF:dP lo hi=C4.hJ C4.zero b0 (min hi 255+1-b0).toNat:=by unfold dP;rw[<-sG];rfl
    have HF:=Lib.hid hF;rw[<-sG];clear hF sG;obtain⟨wI,Sa,XR⟩:=rN;obtain⟨N,hN⟩:∃N,N=(min hi 255+1-b0).toNat:=⟨_,rfl⟩;have HN:=Lib.hid hN;have Rq:0<N->(b0:Int)+N=min hi 255+1:=fun h=>by omega
    have hN0:N=0->min hi 255<(b0:Int):=fun h=>by omega
    have V9:N=0\/b0+N<=256:=by omega
    clear hN;rcases(show 255<hi\/hi<=255 by omega)with hh|hh
    all_goals
      go_wp2_with fail
      go_loopg [6] N (fun g c wr=>∃i:Nat,i+g=N/\c= .int .i64 ((b0+i:Nat):Int)/\Below B w wr/\Wr wr B 0 (cZ C4.zero)/\Wr wr (B+1) 0 (cZ (C4.hJ C4.zero b0 i)))
      case atStart=>exact⟨0,by omega,rfl,wI,Sa,XR⟩
      case round=>
        obtain⟨i,lg,rfl,hb,hr,hx⟩:=hrel;clear wI Sa XR
        by_cases hlt:i<N
        · have hbb:((b0+i:Nat):Int)<=hi:=by have:=Rq (by omega);omega
          have YG:b0+i<=255:=by omega
          have hstep:=NP C4.zero b0 i;generalize hbn:b0+i=b at hbb YG hstep⊢;have h4:b/64<4:=by omega
          have cx:∀w',Up wr.drew w'->w'.cell? ⟨B+1,b/64,none⟩=some (.int .u64 (ez ((C4.hJ C4.zero b0 i).get (b/64)))):=fun w' hw=>(ub ((hx.gr (Gr.drew _)).gr hw) (b/64) h4).1;have hand:=KZ b (by omega);have Sb:=RX (b %64) (Nat.mod_lt _ (by decide));have HS0:=Lib.hid hstep;have HI:=Lib.hid lg;clear Rq hN0 V9 hstep lg
          go_wp2_with fail
          refine dc 9 (List.replicate 9 true) rfl (by kernel_rfl) (by kernel_rfl) (by intro c a d v w h;cases d<;>exact h) (Up wr.drew) (KO _) (Gr.refl _) ?_;simp only[List.take_succ_cons,List.take_zero,List.drop_succ_cons,List.drop_zero,List.replicate]
          repeat(first|(refine I8 (by rfl) (fun w hSw=>by go_simp;(try (simp only[↓IntWalk.iteOmega];try go_simp));(try go_bits);first|done|with_reducible rfl) ?_;simp only[Act.put,List.setIfInBounds_toArray,List.set_cons_zero,List.set_cons_succ])|(refine Ns (by rfl) ?_;simp only[Act.put,List.setIfInBounds_toArray,List.set_cons_zero,List.set_cons_succ]))
          refine I9 fun w5 hw5=>?_;have hx5:=(hx.gr (Gr.drew _)).gr hw5;have hr5:=(hr.gr (Gr.drew _)).gr hw5;have YH:Below B w w5:=Np hb.drew (by have:=hb.size;simp;omega) hw5;obtain⟨c1,c2⟩:=ub hx5 (b/64) h4;have hs:=Lg hx5 (b/64) h4 ((C4.hJ C4.zero b0 i).get (b/64)|||BitVec.ofNat 64 (2^(b %64)));have hf1:=hr5.far (a:=⟨B+1,b/64,none⟩) (by simp) (.int .u64 (ez ((C4.hJ C4.zero b0 i).get (b/64)|||BitVec.ofNat 64 (2^(b %64)))));have hbs:=YH.setCell (p:=⟨B+1,b/64,none⟩) (by simp) (.int .u64 (ez ((C4.hJ C4.zero b0 i).get (b/64)|||BitVec.ofNat 64 (2^(b %64)))));rw[HS0.out]at hs;have HS:=Lib.hid (And.intro hs (And.intro hf1 hbs));clear hs hf1 hbs hx5 hr5 YH cx hx hr hb hw5 hand Sb
          go_wp2_with fail
          have lg:=HI.out
          go_roundg (gk-1)
          case measure=>omega
          case rel=>exact⟨i+1,by omega,by go_num,HS.out.2.2,HS.out.2.1,HS.out.1⟩
        · obtain rfl:i=N:=by omega
          have abR:min hi 255<((b0+i:Nat):Int):=by
            by_cases h0:i=0
            · have:=hN0 h0;omega
            · have:=Rq (by omega);omega
          have hE:C4.hJ C4.zero b0 i=dP lo hi:=by rw[HF.out,<-HN.out]
          rw[hE]at hx;obtain⟨c0,c1,c2,c3⟩:=Le hx;obtain⟨⟨r0,f0⟩,⟨r1,f1⟩,⟨r2,f2⟩,⟨r3,f3⟩⟩:_/\_/\_/\_:=⟨ub hr 0 (by decide),ub hr 1 (by decide),ub hr 2 (by decide),ub hr 3 (by decide)⟩;clear Rq hN0 V9 hE;generalize b0+i=b at*;have abH:¬(b:Int)<=min hi 255:=by omega
          go_wp2_with fail
          refine bodyPost_ret (v:= .agg #[.int .u64 (ez (dP lo hi).a),.int .u64 (ez (dP lo hi).b),.int .u64 (ez (dP lo hi).c),.int .u64 (ez (dP lo hi).d)]) (by simp[results,Tryz.results88,go_sem,r0,r1,r2,r3]) rfl ⟨rfl,?_⟩;exact((((hb.setCell (by simp) _).setCell (by simp) _).setCell (by simp) _).setCell (by simp) _).mono aaS
end
namespace iN
open Go.RowKit bO dc bW bK
theorem V_(lo hi:Int)(h1:cV lo)(h2:cV hi)(w:World):Calls Tryz.prog 88 #[.int .i64 lo,.int .i64 hi] w (bM (ret (kV (dP lo hi))) w):=(Eg lo hi w h1 h2).mono fun _ _ ⟨he,hb⟩=>KR he hb
end iN
namespace bK
open Go.RowKit bO dc
theorem mapM_some{α β:Type}{f:α->Option β}:∀{l:List α},(∀x∈l,∃y,f x=some y)->∃ys,l.mapM f=some ys
 |[],_=>⟨[],by simp⟩
 |a::l,h=>by
  obtain⟨y,hy⟩:=h a (by simp);obtain⟨ys,hys⟩:=mapM_some (l:=l) fun x hx=>h x (by simp[hx]);exact⟨y::ys,by simp[List.mapM_cons,hy,hys]⟩
section
variable{P:Program}
def KL(P:Program)(d:Nat)(t:TypeId)(cs:List Value):Prop:=∃ls,P.keyLits d t cs=some ls
theorem pH{d:Nat}{t:TypeId}{q:IntKind}{n:Int}(ht:P.underlying t=some (.int q))(h0:q.min<=n)(h1:n<=q.max):KL P (d+1) t [.int q n]:=by
 refine⟨[.int q n],?_⟩;have hw:(Lit.int q n).wf=true:=by simp[Lit.wf,h0,h1]
 simp[Program.keyLits,ht,hw]
theorem N9{d n:Nat}{t e:TypeId}{cs:List Value}(ht:P.underlying t=some (.array n e))(hl:cs.length=P.cellsOf t)(h:∀i,i<n->KL P d e ((cs.drop (i*P.cellsOf e)).take (P.cellsOf e))):KL P (d+1) t cs:=by
 obtain⟨ys,hy⟩:=mapM_some (f:=fun i=>P.keyLits d e ((cs.drop (i*P.cellsOf e)).take (P.cellsOf e))) (l:=List.range n) fun i hi=>h i (List.mem_range.1 hi);refine⟨ys.flatten,?_⟩;unfold Program.keyLits;simp only[ht];rw[if_pos hl,hy];rfl
theorem uc{d:Nat}{t:TypeId}{fs:Array Field}{cs:List Value}(ht:P.underlying t=some (.struct fs))(hl:cs.length=P.cellsOf t)(hn:fs.all (·.name != "_")=true)(h:∀f∈fs.toList,KL P d f.type ((cs.drop f.offset).take (P.cellsOf f.type))):KL P (d+1) t cs:=by
 obtain⟨ys,hy⟩:=mapM_some (f:=fun f:Field=>P.keyLits d f.type ((cs.drop f.offset).take (P.cellsOf f.type))) (l:=fs.toList) h;refine⟨ys.flatten,?_⟩;unfold Program.keyLits;simp only[ht];rw[if_pos ⟨hl,hn⟩,hy];rfl
theorem Ce{t:TypeId}{cs:List Value}{m:Nat}(hw:(match P.underlying t with|some (.array _ _)|some (.struct _)=>true|_=>false)=true)(hk:P.keyType t=true)(hl:cs.length=P.cellsOf t)(hm:∃d,P.types.size+1=d+m)(h:∀d,KL P (d+m) t cs):∃l,keyOf P t (.agg cs.toArray)=some l:=by
 obtain⟨d,e⟩:=hm;obtain⟨ls,hls⟩:=h d;refine⟨.string (keyBytes ls),?_⟩;have hf:(Value.agg cs.toArray).formed P t=true:=by
  unfold Value.formed;split at hw<;>simp_all
 have hc:(Value.agg cs.toArray).cells.toList=cs:=rfl;have key:(if(P.keyType t&&(Value.agg cs.toArray).formed P t)=true then(P.keyLits (P.types.size+1) t (Value.agg cs.toArray).cells.toList).map (fun ls=>Lit.string (keyBytes ls))else none)=some (.string (keyBytes ls)):=by
  rw[hk,hf,hc,e,hls];rfl
 unfold keyOf;split at hw
 ·rename_i h1;rw[h1];exact key
 ·rename_i h1;rw[h1];exact key
 ·cases hw
end
theorem wJ:laidOutB Tryz.prog=true:=by kernel_rfl
theorem wK(m:Nat)(h:Nat.ble m (Tryz.prog.types.size+1)=true):∃d,Tryz.prog.types.size+1=d+m:=⟨Tryz.prog.types.size+1-m,by have:=Nat.le_of_ble_eq_true h;omega⟩
end bK
namespace bT
section
variable{κ:Type}[DecidableEq κ]
def cP:List κ->List κ->List κ
 |D,[]=>D
 |D,k::r=>cP (if k∈D then D else D++[k]) r
def more(D:List κ)(k:κ):List κ:=if k∈D then D else D++[k]
theorem iC:∀(l D:List κ) (k:κ),cP D (l++[k])=more (cP D l) k
 |[],_,_=>rfl
 |_::l,_,k=>iC l _ k
theorem xK(D:List κ)(k:κ):∃E,more D k=D++E:=by
 unfold more;split
 ·exact⟨[],by simp⟩
 ·exact⟨[k],rfl⟩
theorem pI{D:List κ}{k x:κ}:x∈more D k↔x∈D\/x=k:=by
 unfold more;split
 ·rename_i h
  exact⟨.inl,fun e=>e.elim id fun e=>e▸h⟩
 ·simp
theorem nX:∀(l D:List κ),∃E,cP D l=D++E
 |[],D=>⟨[],by simp[cP]⟩
 |k::l,D=>by
  obtain⟨E,h⟩:=xK D k;obtain⟨E',h'⟩:=nX l (more D k);exact⟨E++E',by show cP (more D k) l=_;rw[h',h,List.append_assoc]⟩
theorem iD{x:κ}:∀{l D:List κ},x∈cP D l↔x∈D\/x∈l
 |[],D=>by simp[cP]
 |k::l,D=>by
  show x∈cP (more D k) l↔_
  rw[iD,pI,List.mem_cons,or_assoc]
theorem xL{D:List κ}{k:κ}(h:D.Nodup):(more D k).Nodup:=by
 unfold more;split
 ·exact h
 ·rename_i hk
  exact List.nodup_append.2 ⟨h,by simp,fun a ha b hb e=>by simp at hb;subst hb e;exact hk ha⟩
theorem nY:∀(l D:List κ),D.Nodup->(cP D l).Nodup
 |[],_,h=>h
 |_::l,_,h=>nY l _ (xL h)
def idx(D:List κ)(k:κ):Nat:=D.idxOf k
theorem iX{D:List κ}{k:κ}(h:k∈D):idx D k<D.length:=List.idxOf_lt_length_of_mem h
theorem qK{D:List κ}{k:κ}(h:idx D k<D.length):D[idx D k]=k:=List.getElem_idxOf h
theorem xM{D:List κ}(hn:D.Nodup){v:Nat}(h:v<D.length):idx D D[v]=v:=by
 have h1:=iX (List.getElem_mem h);exact(List.getElem_inj hn).1 (qK h1)
theorem N_(k:κ)(E:List κ):idx (k::E) k=0:=by simp[idx]
theorem mC{D E:List κ}{k:κ}(h:k∈D):idx (D++E) k=idx D k:=by unfold idx;rw[List.idxOf_append,if_pos h]
theorem nh{D:List κ}{k:κ}:idx (more D k) k=if k∈D then idx D k else D.length:=by
 unfold more;split
 ·rfl
 ·rename_i h
  unfold idx;rw[List.idxOf_append,if_neg h];simp
theorem Oa{l D:List κ}{i:Nat}(hi:i<l.length):idx (cP D l) l[i]=if l[i]∈cP D (l.take i)then idx (cP D (l.take i)) l[i]else(cP D (l.take i)).length:=by
 have e:l=l.take (i+1)++l.drop (i+1):=(List.take_append_drop _ _).symm;have h1:l.take (i+1)=l.take i++[l[i]]:=List.take_succ_eq_append_getElem hi;have h2:∃E,cP D l=cP D (l.take (i+1))++E:=by
  obtain⟨E,h⟩:=nX (l.drop (i+1)) (cP D (l.take (i+1)));refine⟨E,?_⟩;rw[<-h];have Yg:∀(a b D:List κ),cP D (a++b)=cP (cP D a) b:=by
   intro a
   induction a with
   |nil=>intro b D;rfl
   |cons x a ih=>intro b D;exact ih b _
  rw[<-Yg,<-e]
 obtain⟨E,h2⟩:=h2;rw[h2,mC,h1,iC,nh];rw[h1,iC,pI];exact .inr rfl
theorem Sc{D:List κ}{x y:κ}(hx:x∈D)(h:idx D x=idx D y):x=y:=by
 have h1:=iX hx;have h2:idx D y<D.length:=h▸h1;rw[<-qK h1,<-qK h2]
 congr 1
end
theorem fX{α:Type}{l m:List α}{k:Nat}{d:α}(h:k<l.length):(l++m).getD k d=l.getD k d:=by
 rw[List.getD_eq_getElem?_getD,List.getElem?_append_left h,List.getD_eq_getElem?_getD]
theorem jm{α:Type}{l m:List α}{k:Nat}{d:α}(h:l.length<=k):(l++m).getD k d=m.getD (k-l.length) d:=by
 rw[List.getD_eq_getElem?_getD,List.getElem?_append_right h,List.getD_eq_getElem?_getD]
theorem kB{l:List Nat}{m:Nat}(h:l.Nodup)(hb:∀x∈l,x<m):l.length<=m:=by
 have hs:∀(l l':List Nat),l.Nodup->(∀x∈l,x∈l')->l.length<=l'.length:=by
  intro l
  induction l with
  |nil=>intro l' _ _;simp
  |cons x l ih=>
   intro l' hn hs;rw[List.nodup_cons]at hn;have hx:x∈l':=hs x (by simp);have:=ih (l'.erase x) hn.2 (fun y hy=>(List.mem_erase_of_ne (by rintro rfl;exact hn.1 hy)).2 (hs y (by simp[hy])));rw[List.length_erase_of_mem hx]at this;have:0<l'.length:=List.length_pos_of_mem hx;simp;omega
 have:=hs l (List.range m) h fun x hx=>List.mem_range.2 (hb x hx)
 simpa using this
theorem He{N:Nat}{f g:Nat->Nat}{n c:Nat}(hf:∀v,v<n->∃x,x<N/\f x=v)(hg:∀x,x<N->g x<c)(hr:∀x y,x<N->y<N->g x=g y->f x=f y):
    n<=c/\(c=n->(∀x,x<N->f x<n)->∀x y,x<N->y<N->f x=f y->g x=g y):=by
  have hc:∃p:Nat->Nat,∀v,v<n->p v<N/\f (p v)=v:=by
    refine⟨fun v=>if h:v<n then(hf v h).choose else 0,fun v h=>?_⟩;simp only[dif_pos h];exact(hf v h).choose_spec
  obtain⟨p,hp⟩:=hc;have GV:∀l:List Nat,l.Nodup->(∀v∈l,v<n)->(l.map fun v=>g (p v)).Nodup:=by
    intro l hl hb;refine List.pairwise_map.2 (List.Pairwise.imp_of_mem (fun {a b} ha GI hne e=>hne ?_) hl);have h1:=hp a (hb a ha);have h2:=hp b (hb b GI);have:=hr _ _ h1.1 h2.1 e;rw[h1.2,h2.2]at this;exact this
  refine⟨?_,fun hcn hfb x y hx hy YI=>?_⟩
  · have h1:=kB (m:=c) (GV (List.range n) List.nodup_range fun v hv=>List.mem_range.1 hv) (fun z hz=>by
      obtain⟨v,hv,rfl⟩:=List.mem_map.1 hz;exact hg _ (hp v (List.mem_range.1 hv)).1)
    simpa using h1
  · apply Classical.byContradiction
    intro hne;have hv:f x<n:=hfb x hx;have hl:((List.range n).erase (f x)).Nodup:=List.nodup_range.erase _;have hb:∀v∈(List.range n).erase (f x),v<n/\v≠f x:=fun v hv=>by
      have:=(List.nodup_range.mem_erase_iff).1 hv;exact⟨List.mem_range.1 this.2,this.1⟩
    have h1:=GV _ hl fun v hv=>(hb v hv).1;have KP:∀z,z<N->f z=f x->g z∉((List.range n).erase (f x)).map fun v=>g (p v):=by
      intro z hz he M8;obtain⟨v,Ob,e⟩:=List.mem_map.1 M8;have h2:=hp v (hb v Ob).1;have:=hr _ _ h2.1 hz e;rw[h2.2,he]at this;exact(hb v Ob).2 this
    have h2:(g x::g y::((List.range n).erase (f x)).map fun v=>g (p v)).Nodup:=by
      rw[List.nodup_cons,List.nodup_cons];refine⟨?_,KP y hy YI.symm,h1⟩;rw[List.mem_cons,not_or];exact⟨hne,KP x hx rfl⟩
    have h3:=kB (m:=c) h2 (fun z hz=>by
      simp only[List.mem_cons]at hz;rcases hz with rfl|rfl|hz
      · exact hg _ hx
      · exact hg _ hy
      · obtain⟨v,hv,rfl⟩:=List.mem_map.1 hz
        exact hg _ (hp v (hb v hv).1).1)
    have h4:((List.range n).erase (f x)).length=n-1:=by
      rw[List.length_erase_of_mem (List.mem_range.2 hv)];simp
    simp[h4]at h3;omega
end bT
namespace bK
open Go.RowKit bO dc bW
theorem Oc{P:Program}(x j b:Nat)(k k':IntKind)(hb:k.bits=b)(hj:j<=b)(w:World):(Op.shift .shr k (x:Int) k' (j:Int)).run P w= .ok (.int k ((x/2^j:Nat):Int)) w:=by
 have e:min j b=j:=by omega
 have h0:¬((j:Int)<0):=by omega
 have e2:(x:Int).fdiv (2^j)=((x/2^j:Nat):Int):=by
  rw[Int.fdiv_eq_ediv_of_nonneg _ (by have:(0:Int)<2^j:=Int.pow_pos (by decide);omega)];simp
 simp only[Op.shift,if_neg h0,hb,Int.toNat_natCast,e,e2,Sem.run_pure]
theorem xN(c:C4)(i:Nat)(h:i<4):(#[v64 c.a,v64 c.b,v64 c.c,v64 c.d]:Array Value)[i]?=some (.int .u64 ((c.get i).toNat:Int)):=by
 match i,h with
 |0,_=>rfl
 |1,_=>rfl
 |2,_=>rfl
 |3,_=>rfl
theorem Sd:∀b:Nat,b<256->bits .and .u8 (b:Int) 63=((b %64:Nat):Int):=by decide+kernel
theorem Lh(c:C4)(b:Nat)(hb:b<256)(w:World):Calls Tryz.prog 153 #[kV c,.int .u8 (b:Int)] w (bM (ret (.bool (c.mem b))) w):=by
 refine enter (args:=[.agg #[v64 c.a,v64 c.b,v64 c.c,v64 c.d],.int .u8 (b:Int)]) (n:=14) Tryz.func153 rfl rfl rfl ?_;refine a8 (aL (a_ rfl rfl rfl fun g=>?_));have h1:b/64<4:=by omega
 have hc:(#[v64 c.a,v64 c.b,v64 c.c,v64 c.d]:Array Value)[0+b/64]?=some (.int .u64 ((c.get (b/64)).toNat:Int)):=by rw[Nat.zero_add];exact xN c _ h1
 have hx:=(c.get (b/64)).isLt;have wI:∀w,(Op.shift .shr .u8 (b:Int) .u64 6).run Tryz.prog w= .ok (.int .u8 ((b/64:Nat):Int)) w:=fun w=>Oc b 6 8 .u8 .u64 rfl (by decide) w;have Sa:∀w,(Op.shift .shr .u64 ((c.get (b/64)).toNat:Int) .u8 ((b %64:Nat):Int)).run Tryz.prog w= .ok (.int .u64 (((c.get (b/64)).toNat/2^(b %64):Nat):Int)) w:=fun w=>Oc _ (b %64) 64 .u64 .u8 rfl (by omega) w;have hm:c.mem b=decide ((c.get (b/64)).toNat/2^(b %64) %2=1):=by unfold C4.mem;rw[Nat.testBit_eq_decide_div_mod_eq]
 rw[hm];have hd:(c.get (b/64)).toNat/2^(b %64)<=(c.get (b/64)).toNat:=Nat.div_le_self _ _;have qD:=Sd b hb;generalize (c.get (b/64)).toNat=x at*;generalize b %64=k at*;generalize b/64=i at*;generalize x/2^k=y at*;have ha:bits .and .u64 (y:Int) 1=((y %2:Nat):Int):=by
  have:=bits_and_u64_nat y 1 (by omega) (by decide);rw[Nat.and_one_is_mod]at this;exact this
 repeat(first|refine GC ?_|refine gV (lm rfl rfl wI) ?_|refine gV (e_ aT.eq ak.ty rfl rfl h1) ?_|refine gV (J ak.ty rfl (ah (i:=0) rfl hc)) ?_|refine gV (j_ rfl rfl qD) ?_|refine gV (lm rfl rfl Sa) ?_|refine gV (j_ rfl rfl ha) ?_|refine gV (bL rfl rfl rfl) ?_|refine GB ?_)
 exact dx rfl rfl (by congr 1;rw[decide_eq_decide];omega)
end bK
namespace bK
open Go.RowKit bO dc bW eG iN
abbrev At2:=Int×Int
structure YJ(s:List UInt8)(N:Nat->Re)(m:At2->Option Value)(n:Nat):Prop where
 val:∀(k f:Nat) v,k<100->f<=s.length->m ((k:Int),(f:Int))=some v->∃c,v=kV c/\Yy s (N k) f c
 Rn:∃D:List Nat,D.Nodup/\D.length=n/\(∀x∈D,x<25600)/\∀(k f:Nat),k<100->f<256->((m ((k:Int),(f:Int))).isSome=true↔k*256+f∈D)
theorem YJ.le{s:List UInt8}{N:Nat->Re}{m:At2->Option Value}{n:Nat}(h:YJ s N m n):n<=25600:=by
 obtain⟨D,h1,h2,h3,_⟩:=h.Rn;rw[<-h2];exact bT.kB h1 h3
theorem YJ.set{s:List UInt8}{N:Nat->Re}{m:At2->Option Value}{n:Nat}(h:YJ s N m n)(hs:s.length<=200){k f:Nat}(hk:k<100)(hf:f<=s.length){c:C4}(hc:Yy s (N k) f c):
    YJ s N (fun y=>if y=((k:Int),(f:Int))then some (kV c)else m y) (if(m ((k:Int),(f:Int))).isSome then n else n+1):=by
  refine⟨fun k' f' v kp uS hv=>?_,?_⟩
  · by_cases e:((k':Int),(f':Int))=((k:Int),(f:Int))
    · rw[if_pos e]at hv
      simp only[Prod.mk.injEq]at e;obtain rfl:k'=k:=by omega
      obtain rfl:f'=f:=by omega
      simp only[Option.some.injEq]at hv;exact⟨c,hv.symm,hc⟩
    · rw[if_neg e]at hv
      exact h.val k' f' v kp uS hv
  · obtain⟨D,h1,h2,h3,h4⟩:=h.Rn
    by_cases e:(m ((k:Int),(f:Int))).isSome=true
    · rw[if_pos e]
      refine⟨D,h1,h2,h3,fun k' f' kp uS=>?_⟩
      by_cases e2:((k':Int),(f':Int))=((k:Int),(f:Int))
      · rw[if_pos e2]
        simp only[Prod.mk.injEq]at e2;obtain rfl:k'=k:=by omega
        obtain rfl:f'=f:=by omega
        simpa using(h4 k' f' kp uS).1 e
      · rw[if_neg e2]
        exact h4 k' f' kp uS
    · rw[if_neg e]
      have hn:k*256+f∉D:=fun hd=>e ((h4 k f hk (by omega)).2 hd);refine⟨(k*256+f)::D,List.nodup_cons.2 ⟨hn,h1⟩,by rw[List.length_cons,h2],fun x hx=>?_,fun k' f' kp uS=>?_⟩
      · rcases List.mem_cons.1 hx with rfl|hx
        · omega
        · exact h3 x hx
      · by_cases e2:((k':Int),(f':Int))=((k:Int),(f:Int))
        · rw[if_pos e2]
          simp only[Prod.mk.injEq]at e2;obtain rfl:k'=k:=by omega
          obtain rfl:f'=f:=by omega
          simp
        · rw[if_neg e2,h4 k' f' kp uS,List.mem_cons]
          have:¬k'*256+f'=k*256+f:=fun h=>e2 (by
            have a:k'=k:=by omega
            have b:f'=f:=by omega
            rw[a,b])
          simp[this]
end bK
namespace bK
open Go.RowKit bO dc
section
variable{P:Program}{k:TypeId}{κ:Type}(K:rJ P k κ)
variable{n:Nat}{W:bC}{fr:Fr}{L:List bI}{dst:Option Tmp}{ty:TypeId}{pos:String}{after:Array Edge}{guard:Option (Nat×Bool)}{i g c:Nat}{t e:TypeId}{m:κ->Option Value}{x:κ}{z v:Value}{xm xk:Operand}
theorem gC(ht:P.underlying t=some (.map k e))(hz:∀w,(zeroValue e).run P w= .ok z w)(hi:L[i]?=some (dL K g m c))(hm:ev fr xm=some (.map (some g)))(hk:ev fr xk=some (K.kv x))(hx:K.ok x)(hv:m x=some v):RR P n W ⟨dst,.lookup t xm xk true,ty,pos,after,guard⟩ fr L (.tuple #[v,.bool true]):=by
 have:=k8 K (n:=n) (W:=W) (dst:=dst) (ty:=ty) (pos:=pos) (after:=after) (guard:=guard) ht hz hi hm hk hx;rw[hv]at this;exact this
theorem gD(ht:P.underlying t=some (.map k e))(hz:∀w,(zeroValue e).run P w= .ok z w)(hi:L[i]?=some (dL K g m c))(hm:ev fr xm=some (.map (some g)))(hk:ev fr xk=some (K.kv x))(hx:K.ok x)(hv:m x=none):RR P n W ⟨dst,.lookup t xm xk true,ty,pos,after,guard⟩ fr L (.tuple #[z,.bool false]):=by
 have:=k8 K (n:=n) (W:=W) (dst:=dst) (ty:=ty) (pos:=pos) (after:=after) (guard:=guard) ht hz hi hm hk hx;rw[hv]at this;exact this
end
end bK
namespace bK
open Go.RowKit bO dc bW eG iN
structure StI(s:List UInt8)(a:Re)(f:Nat)(out now:C4):Prop where
 sound:∀j,j<256->out.mem j=true->Ro (K3 a s) f j
 sub:∀j,j<256->now.mem j=true->out.mem j=true
 cl:∀i,i<256->out.mem i=true->now.mem i=false->∀j,K3 a s i j->out.mem j=true
 st:out.mem f=true
theorem StI.le{s:List UInt8}{a:Re}{f:Nat}{out now:C4}(h:StI s a f out now)(hf:f<=s.length)(j:Nat)(hj:j<256)(hn:now.mem j=true):j<=s.length:=
 ((NR hf).2 (h.sound j hj (h.sub j hj hn))).2.1
end bK
namespace bK
open Go.RowKit bO dc bW eG iN
theorem Hf(c:C4)(w:World):(Instr.build 119 #[(0,.int .i64 3),(1,kV c)]).run Tryz.prog w= .ok (mM 3 c (.slice none 0 0)) w:=by kernel_rfl
theorem sT(b:Int)(w:World)(hb:bO.cV b):Calls Tryz.prog 46 #[.int .i64 b] w (bM (ret (mM 3 (dP b b) (.slice none 0 0))) w):=by
 have hr:=fun w=>V_ b b hb hb w;have Li:=Hf (dP b b);generalize dP b b=c at*;refine enter (args:=[.int .i64 b]) (n:=7) Tryz.func46 rfl rfl rfl ?_;refine a8 (aL (aK rfl fun g2=>?_));refine zL ?_
 try refine GA ?_
 refine aI (eK aj.en rfl rfl rfl) (fun w hm=>hr _) rfl rfl rfl ?_;intro _ _;refine zL ?_
 repeat(first|refine GA ?_|refine gV (aP rfl Li) ?_)
 refine fa 0 (cs':=(jx 3 c (.slice none 0 0)).toArray) ?_;refine zL ?_
 try refine GA ?_
 exact eR (i:=0) rfl rfl rfl rfl fun w hm=>hm.ret
end bK
namespace bK
open Go.RowKit bO dc bW eG iN
section
end
def b8(l:List Nat):K4:=l.map UInt8.ofNat
end bK
namespace bK
open Go.RowKit bO dc
theorem dH.perm{p:Nat->Prop}{w:World}{L L':List bI}(h:dH p w L)(hp:L.Perm L'):dH p w L':=by
 have hpw:L.Pairwise (fun o o'=>∀k,o.dS k->¬o'.dS k):=List.pairwise_iff_getElem.2 fun i j hi hj oW=>h.apart i j _ _ (by omega) (List.getElem?_eq_getElem hi) (List.getElem?_eq_getElem hj);have YK:=List.pairwise_iff_getElem.1 ((hp.pairwise_iff (fun YI k h1 h2=>YI k h2 h1)).1 hpw);refine⟨fun i o hi=>?_,fun i j o o' oW hi hj k h1 h2=>?_⟩
 ·obtain⟨j,hj⟩:=List.getElem?_of_mem (hp.symm.subset (List.mem_of_getElem? hi))
  exact h.all j o hj
 ·obtain⟨lg,rfl⟩:=List.getElem?_eq_some_iff.1 hi
  obtain⟨mi,rfl⟩:=List.getElem?_eq_some_iff.1 hj;rcases Nat.lt_or_gt_of_ne oW with h3|h3
  ·exact YK i j lg mi h3 k h1 h2
  ·exact YK j i mi lg h3 k h2 h1
theorem Mem.perm{W:bC}{w:World}{L L':List bI}(h:Mem W L w)(hp:L.Perm L'):Mem W L' w:=⟨h.low,h.owns.perm hp⟩
theorem Lj{l l':Fr}(hp:l.Perm l'):(l.map (·.1)).Nodup->∀(fr:Fr) (i:Nat),look (l++fr) i=look (l'++fr) i:=by
  induction hp with
  |nil=>intro _ _ _;rfl
  | cons x _ ih=>
    intro hn fr i;rw[List.map_cons,List.nodup_cons]at hn;obtain⟨k,v⟩:=x;show(bif Nat.beq k i then some v else _)=(bif Nat.beq k i then some v else _)
    have e:=ih hn.2 fr i;exact congrArg (fun z=>bif Nat.beq k i then some v else z) e
  | swap x y l=>
    intro hn fr i;obtain⟨k,v⟩:=x;obtain⟨k2,v2⟩:=y;simp only[List.map_cons,List.nodup_cons,List.mem_cons,not_or]at hn;show(bif Nat.beq k2 i then some v2 else bif Nat.beq k i then some v else _)=(bif Nat.beq k i then some v else bif Nat.beq k2 i then some v2 else _)
    cases e:Nat.beq k2 i
    · rfl
    · cases e2:Nat.beq k i
      · rfl
      · have a:=Nat.eq_of_beq_eq_true e
        have b:=Nat.eq_of_beq_eq_true e2;exact absurd (a.trans b.symm) hn.1.1
  | trans h1 _ ih1 ih2=>
    intro hn fr i;rw[ih1 hn,ih2 ((h1.map _).nodup_iff.1 hn)]
theorem Lk{α β:Type}(f:α->β){l l':List β}(h:l.Perm l'):∀dn:List α,dn.map f=l->∃dn':List α,dn'.Perm dn/\dn'.map f=l':=by
 induction h with
 |nil=>exact fun dn h=>⟨dn,.refl _,h⟩
 | cons x _ ih=>
  intro dn h
  match dn,h with
  |y::dn,h=>
   simp only[List.map_cons,List.cons.injEq]at h;obtain⟨d',h1,h2⟩:=ih dn h.2;exact⟨y::d',h1.cons y,by simp[h.1,h2]⟩
 | swap x y l=>
  intro dn h
  match dn,h with
  |a::b::dn,h=>
   simp only[List.map_cons,List.cons.injEq]at h;exact⟨b::a::dn,List.Perm.swap _ _ _,by simp[h.1,h.2.1,h.2.2]⟩
 |trans _ _ ih1 ih2=>
  intro dn h;obtain⟨d1,h1,h2⟩:=ih1 dn h;obtain⟨d2,h3,h4⟩:=ih2 d1 h2;exact⟨d2,h3.trans h1,h4⟩
def Ll:List Nat->List (List Nat)
 |[]=>[[]]
 |a::r=>Ll r++(Ll r).map (a:: ·)
theorem uV(p:Nat->Bool):∀l,l.filter p∈Ll l
 |[]=>by simp[Ll]
 |a::r=>by
  have ih:=uV p r;unfold Ll;rw[List.filter_cons];split
  ·exact List.mem_append_right _ (List.mem_map_of_mem ih)
  ·exact List.mem_append_left _ ih
structure Mk where
 i:Nat
 d:Nat
 v:Nat->Value
 own:Nat->bI
def kX(dn:List (Mk×Nat)):Fr:=dn.map fun x=>(x.1.d,x.1.v x.2)
def UO(dn:List (Mk×Nat)):List bI:=dn.map fun x=>x.1.own x.2
def jU(listed:Array Bool)(D:List Nat):Array Bool:=D.foldl (fun l i=>l.setIfInBounds i true) listed
theorem AK(D:List Nat):∀(listed:Array Bool) (j:Nat),(jU listed D)[j]?=(listed[j]?).map fun b=>b||D.contains j:=by
 induction D with
 |nil=>intro listed j;simp[jU]
 | cons a r ih=>
  intro listed j;show(jU (listed.setIfInBounds a true) r)[j]?=_
  rw[ih,Array.getElem?_setIfInBounds]
  by_cases c:a=j
  ·subst c
   simp;split<;>simp_all
  ·rw[if_neg c]
   have:¬j=a:=fun h=>c h.symm;simp[this]
theorem rO{listed:Array Bool}{D D':List Nat}(h:∀j,D.contains j=D'.contains j):jU listed D=jU listed D':=by
 apply Array.ext_getElem?;intro j;rw[AK,AK,h j]
def UP(ops:Array Oper)(is:List Nat)(ends:List (List Nat))(listed:Array Bool):Bool:=(Ll is).all fun D=>ends.contains D||decide (Region.ready .any ops (jU listed D)=is.filter fun i=>!D.contains i)
theorem xO:∀(l l':List Nat),l.Nodup->(∀x∈l,x∈l')->l.length<=l'.length
 |[],_,_,_=>Nat.zero_le _
 |a::r,l',hn,hs=>by
  rw[List.nodup_cons]at hn;have ha:=hs a (by simp);have:=xO r (l'.erase a) hn.2 fun x hx=>(List.mem_erase_of_ne (fun(e:x=a)=>hn.1 (by rw[<-e];exact hx))).2 (hs x (by simp[hx]));rw[List.length_erase_of_mem ha]at this;have:=List.length_pos_of_mem ha;simp;omega
theorem rP:∀(l l':List Nat),l.Nodup->(∀x∈l,x∈l')->l'.length<=l.length->l.Perm l'
 |[],l',_,_,h=>by
  have:l'=[]:=List.length_eq_zero_iff.1 (by simpa using h);subst this;exact .refl _
 |a::r,l',hn,hs,h=>by
  rw[List.nodup_cons]at hn;have ha:=hs a (by simp);have hl:=List.length_erase_of_mem ha;have h2:=List.length_pos_of_mem ha;have:=rP r (l'.erase a) hn.2 (fun x hx=>(List.mem_erase_of_ne (fun(e:x=a)=>hn.1 (by rw[<-e];exact hx))).2 (hs x (by simp[hx]))) (by simp at h;omega);exact(this.cons a).trans (List.perm_cons_erase ha).symm
theorem UQ:∀(ms:List Mk),(ms.map (·.i)).Nodup->∀m∈ms,∀m'∈ms,m.i=m'.i->m=m'
 |[],_,_,hm,_,_,_=>by cases hm
 |y::ms,h,m,hm,m',mN,e=>by
  rw[List.map_cons,List.nodup_cons]at h;rcases List.mem_cons.1 hm with a1|a1<;>rcases List.mem_cons.1 mN with a2|a2
  ·rw[a1,a2]
  ·exact absurd (by rw[<-a1,e];exact List.mem_map_of_mem a2) h.1
  ·exact absurd (by rw[<-a2,<-e];exact List.mem_map_of_mem a1) h.1
  ·exact UQ ms h.2 m a1 m' a2 e
theorem Eh:∀(dn:List (Mk×Nat)) (ms all:List Mk),(∀m∈all,∀m'∈all,m.i=m'.i->m=m')->(∀x∈dn,x.1∈all)->(∀x∈ms,x∈all)->dn.map (·.1.i)=ms.map (·.i)->dn.map (·.1)=ms
 |[],ms,_,_,_,_,h=>by
  simp only[List.map_nil]at h;exact(List.map_eq_nil_iff.1 h.symm).symm
 |y::dn,[],_,_,_,_,h=>by simp at h
 |y::dn,m::ms,all,hi,h1,h2,h=>by
  simp only[List.map_cons,List.cons.injEq]at h;rw[List.map_cons,Eh dn ms all hi (fun x hx=>h1 x (by simp[hx])) (fun x hx=>h2 x (by simp[hx])) h.2,hi y.1 (h1 y (by simp)) m (h2 m (by simp)) h.1]
section
variable{P:Program}{n:Nat}{W:bC}{Q:Exit->Act->World->Prop}{fr:Fr}{L L0:List bI}{ops:Array Oper}
def AL(P:Program)(n:Nat)(W:bC)(ops:Array Oper)(fr:Fr)(m:Mk):Prop:=
 ∃o,ops[m.i]?=some o/\∀(Q:Exit->Act->World->Prop) (zN:Fr) (L:List bI),(∀q v,look fr q=some v->look zN q=some v)->(∀g,TL P n W ops Q [] ((m.d,m.v g)::zN) (L++[m.own g]))->TL P n W ops Q [o] zN L
theorem AM:∀(l:Fr) {q:Nat} {v:Value},(∀x∈l,look fr x.1=none)->look fr q=some v->look (l++fr) q=some v
 |[],_,_,_,h=>h
 | (k,u)::l,q,v,hl,h=>by
  show(bif Nat.beq k q then some u else look (l++fr) q)=some v
  cases e:Nat.beq k q
  ·exact AM l (fun x hx=>hl x (by simp[hx])) h
  ·have:=Nat.eq_of_beq_eq_true e
   subst this;have:=hl (k,u) (by simp);rw[this]at h
   cases h
theorem jP.perm{a:Act}{l l':Fr}(h:jP n a (l++fr))(hp:l.Perm l')(hn:(l.map (·.1)).Nodup):jP n a (l'++fr):=
 ⟨h.size,h.defers,fun i v hl=>h.get i v (by rw[Lj hp hn fr i];exact hl)⟩
theorem Od:∀(dn:List (Mk×Nat)),(dn.map (·.1.i)).Nodup->∃g:Nat->Nat,∀x∈dn,g x.1.i=x.2
  |[],_=>⟨fun _=>0,fun x hx=>by cases hx⟩
  | y ::dn,h=>by
    rw[List.map_cons,List.nodup_cons]at h;obtain⟨g,hg⟩:=Od dn h.2;refine⟨fun i=>if i=y.1.i then y.2 else g i,fun x hx=>?_⟩;rcases List.mem_cons.1 hx with rfl|hx
    · simp
    · have:¬x.1.i=y.1.i:=fun e=>h.1 (by rw[<-e];exact List.mem_map_of_mem hx)
      simp only[if_neg this];exact hg x hx
theorem Hg(ms E:List Mk)(hn:(ms.map (·.i)).Nodup)(hEn:(E.map (·.i)).Nodup)(hEd:(E.map (·.d)).Nodup)(hE:∀m∈E,m∈ms)(dn:List (Mk×Nat))(h1:∀x∈dn,x.1∈ms)(hp:(dn.map (·.1.i)).Perm (E.map (·.i)))(a:Act)(hr:jP n a (kX dn++fr)):
 ∃g:Nat->Nat,jP n a (E.map (fun m=>(m.d,m.v (g m.i)))++fr)/\Mem W (L++UO dn)=Mem W (L++E.map fun m=>m.own (g m.i)):=by
 obtain⟨d',p1,p2⟩:=Lk (fun x:Mk×Nat=>x.1.i) hp dn rfl;have e1:=Eh d' E ms (UQ ms hn) (fun x hx=>h1 x (p1.subset hx)) hE p2;obtain⟨g,hg⟩:=Od d' (by rw[p2];exact hEn);have e2:d'=E.map fun m=>(m,g m.i):=by
  rw[<-e1,List.map_map]
  conv=>lhs;rw[<-List.map_id d']
  exact List.map_congr_left fun x hx=>by
   obtain⟨m,q⟩:=x;have:=hg _ hx;dsimp only at this;simp[this]
 have hpd:((kX dn).map (·.1)).Nodup:=by
  have:((kX dn).map (·.1)).Perm (E.map (·.d)):=by
   have h5:=(p1.map fun x:Mk×Nat=>x.1.d).symm;have e:d'.map (fun x:Mk×Nat=>x.1.d)=E.map (·.d):=by rw[<-e1,List.map_map];rfl
   rw[e]at h5;unfold kX;rw[List.map_map];exact h5
  exact this.nodup_iff.2 hEd
 have wE:=hr.perm (p1.map _).symm hpd;refine⟨g,?_,?_⟩
 ·have:d'.map (fun x=>(x.1.d,x.1.v x.2))=E.map (fun m=>(m.d,m.v (g m.i))):=by rw[e2,List.map_map];rfl
  rw[<-this];exact wE
 ·have e:E.map (fun m=>m.own (g m.i))=UO d':=by rw[e2,UO,List.map_map];rfl
  rw[e];exact funext fun w=>propext ⟨fun h=>h.perm (((p1.map _).symm).append_left L),fun h=>h.perm ((p1.map _).append_left L)⟩
theorem Se(ms:List Mk)(ends:List (List Mk))(listed:Array Bool)(U:World->Prop)(S0:Nat)(hUL:∀l,∀w,Mem W (L++l) w->U w)
    (hn:(ms.map (·.i)).Nodup) (hd:(ms.map (·.d)).Nodup) (hB:UP ops (ms.map (·.i)) (ends.map fun E=>E.map (·.i)) listed=true) (hm:∀m∈ms,AL P n W ops fr m) (hf:∀m∈ms,look fr m.d=none)
    (aaT:∀E∈ms::ends,(∀m∈E,m∈ms)/\(E.map (·.i)).Nodup/\(E.map (·.d)).Nodup/\∀(k:Nat) (g:Nat->Nat) (a:Act),E.length+k=ms.length->jP n a (E.map (fun m=>(m.d,m.v (g m.i)))++fr)->nQ P .any ops Q U (k+S0) (jU listed (E.map (·.i))) a (Mem W (L++E.map fun m=>m.own (g m.i)))):
    ∀(k:Nat) (dn:List (Mk×Nat)),(∀x∈dn,x.1∈ms)->(dn.map (·.1.i)).Nodup->dn.length+k=ms.length->∀a,jP n a (kX dn++fr)->nQ P .any ops Q U (k+S0) (jU listed (dn.map (·.1.i))) a (Mem W (L++UO dn)):=by
  have stop:∀E∈ms::ends,∀(k:Nat) (dn:List (Mk×Nat)),(∀x∈dn,x.1∈ms)->(dn.map (·.1.i)).Nodup->dn.length+k=ms.length->(dn.map (·.1.i)).Perm (E.map (·.i))->∀a,jP n a (kX dn++fr)->nQ P .any ops Q U (k+S0) (jU listed (dn.map (·.1.i))) a (Mem W (L++UO dn)):=by
    intro E hE k dn h1 h2 h3 hp a hr;obtain⟨q1,q2,q3,q4⟩:=aaT E hE;obtain⟨g,r1,r2⟩:=Hg (W:=W) (L:=L) ms E hn q2 q3 q1 dn h1 hp a hr;have hlen:=hp.length_eq;simp only[List.length_map]at hlen;rw[r2,rO (D':=E.map (·.i)) fun j=>?_]
    · exact q4 k g a (by omega) r1
    · exact Bool.eq_iff_iff.2 (by simpa using hp.mem_iff)
  intro k
  induction k with
  | zero=>
    intro dn h1 h2 h3 a hr;exact stop ms (by simp) 0 dn h1 h2 h3 (rP (dn.map (·.1.i)) (ms.map (·.i)) h2 (fun x hx=>by
      obtain⟨y,hy,rfl⟩:=List.mem_map.1 hx;exact List.mem_map_of_mem (f:=(·.i)) (h1 y hy)) (by simp;omega)) a hr
  | succ k ih =>
    intro dn h1 h2 h3 a hr;have ly:=fun E hE hp=>stop E hE (k+1) dn h1 h2 h3 hp a hr;have iu:∀x∈dn.map (·.1.i),x∈ms.map (·.i):=fun x hx=>by
      obtain⟨y,hy,rfl⟩:=List.mem_map.1 hx;exact List.mem_map_of_mem (f:=(·.i)) (h1 y hy)
    generalize hD:dn.map (·.1.i)=D at*
    have abI:D.length=dn.length:=by rw[<-hD];simp
    have oM:∀j,D.contains j=((ms.map (·.i)).filter fun i=>D.contains i).contains j:=fun j=>by
      apply Bool.eq_iff_iff.2;simp only[List.contains_iff_mem,List.mem_filter];exact⟨fun h=>⟨iu j h,h⟩,fun h=>h.2⟩
    have hq:=List.all_eq_true.1 hB _ (uV (fun i=>D.contains i) (ms.map (·.i)))
    rw[Bool.or_eq_true]at hq;rcases hq with hq|hq
    · rw[List.contains_iff_mem]at hq
      obtain⟨E,hE,e⟩:=List.mem_map.1 hq;refine ly E (by simp[hE]) ?_;rw[e];refine rP _ _ h2 (fun x hx=>List.mem_filter.2 ⟨iu x hx,by simpa using hx⟩) ?_;exact xO _ _ (hn.filter _) fun x hx=>by simpa using(List.mem_filter.1 hx).2
    have Oe:Region.ready .any ops (jU listed D)=(ms.map (·.i)).filter fun i=>!D.contains i:=by
      have hq:=of_decide_eq_true hq;rw[rO oM,hq];exact List.filter_congr fun i _=>by rw[<-oM i]
    rw[show k+1+S0=(k+S0)+1 by omega];refine⟨fun h0=>?_,fun i hi w hw=>?_⟩
    · exfalso
      have:(ms.map (·.i)).length<=D.length:=xO _ _ hn fun x hx=>by
        rw[Oe]at h0;have:=List.filter_eq_nil_iff.1 h0 x hx
        simpa using this
      simp at this;omega
    · rw[Oe,List.mem_filter]at hi
      obtain⟨hi1,K9⟩:=hi;obtain⟨m,Sf,rfl⟩:=List.mem_map.1 hi1;have hi3:m.i∉D:=by simpa using K9
      obtain⟨o,ho,GL⟩:=hm m Sf;refine gu ho ((GL _ (kX dn++fr) (L++UO dn) (fun q v hq=>AM (kX dn) (fun x hx=>?_) hq) fun g=>?_).go a w hr hw)
      · obtain⟨y,hy,rfl⟩:=List.mem_map.1 hx
        exact hf y.1 (h1 y hy)
      · refine eL ⟨fun a' w' wE mN=>⟨Mem W (L++UO ((m,g)::dn)),eY _ _,hUL _,mN.perm ?_,?_⟩⟩
        · rw[List.append_assoc]
          exact(List.perm_append_comm).append_left L
        · have:=ih ((m,g)::dn) (fun x hx=>by
            rcases List.mem_cons.1 hx with rfl|hx
            · exact Sf
            · exact h1 x hx) (by rw[List.map_cons,hD,List.nodup_cons];exact⟨hi3,h2⟩) (by simp;omega) a' wE
          rw[List.map_cons,hD]at this;have e:(jU listed D).setIfInBounds m.i true=jU listed (m.i::D):=by
            have e0:(jU listed D).setIfInBounds m.i true=jU listed (D++[m.i]):=by
              unfold jU;rw[List.foldl_append];rfl
            rw[e0];exact rO fun j=>by
              apply Bool.eq_iff_iff.2;simp[or_comm]
          rw[e];exact this
structure TX(P:Program)(n:Nat)(W:bC)(ops:Array Oper)(Q:Exit->Act->World->Prop)(L0:List bI)(listed:Array Bool)(f:Nat)(fr:Fr)(L:List bI):Prop where
 go:(∀w,Mem W L w->Mem W L0 w)->(∀c a d v w,Q (.panic c) (Act.put a d v) w->Q (.panic c) a w)->Region.noSelect ops=true->∀a,jP n a fr->nQ P .any ops Q (Mem W L0) f listed a (Mem W L)
theorem mem_left{L l:List bI}{w:World}(h:Mem W (L++l) w):Mem W L w:=by
 have hl:∀(i:Nat) (o:bI),L[i]?=some o->(L++l)[i]?=some o:=fun i o h=>by
  rw[List.getElem?_append_left (List.getElem?_eq_some_iff.1 h).1];exact h
 exact⟨h.low,⟨fun i o hi=>h.owns.all i o (hl i o hi),fun i j o o' oW hi hj=>h.owns.apart i j o o' oW (hl i o hi) (hl j o' hj)⟩⟩
theorem Og{id:Nat}{l:List Oper}(L0:List bI)(iu:∀w,Mem W L w->Mem W L0 w)(hm:P.follows .mixedOrders=true)(jw:Region.noSelect l.toArray=true)
 (hQ:∀c a d v w,Q (.panic c) (Act.put a d v) w->Q (.panic c) a w)
 (h:TX P n W l.toArray Q L0 (Array.replicate l.toArray.size false) l.toArray.size fr L):T P n W (.region id l.toArray true) Q fr L:=⟨fun a w hr pt=>by
 refine wp_region_any hm ?_;exact rD (U:=Mem W L0) l.toArray.size (Array.replicate l.toArray.size false) a (Mem W L) w.drew pt.drew (h.go iu hQ jw a hr)⟩
theorem wL{listed:Array Bool}{f:Nat}(t:Ord)(ho:jl .any ops t listed=true)(hf:f=t.size)(h:TW P n W ops Q L0 t fr L):TX P n W ops Q L0 listed f fr L:=
 ⟨fun iu hQ jw a hr=>by subst hf;exact gv jw hQ t listed a (Mem W L) (eY W L) iu ho (h.go a hr)⟩
theorem mO{listed:Array Bool}{f d:Nat}{o:Oper}{v:Value}(i:Nat)(hi:((Region.ready .any ops listed).contains i&&Region.free .any ops listed i)=true)(ho:ops[i]?=some o)(hr:RR P n W o fr L0 v)(hg:o.guard=none)(hd:o.dst=some d)(hn:Nat.blt d n=true)
 (h:TX P n W ops Q L0 (listed.setIfInBounds i true) f ((d,v)::fr) L):TX P n W ops Q L0 listed (f+1) fr L:=⟨fun iu hQ jw a eQ=>by
 rw[Bool.and_eq_true]at hi;have hc:gi P ops (Mem W L0) o v a:= .inl ⟨kx hg,fun w hw=>by unfold lf;rw[hr.go a w eQ hw];exact⟨rfl,Gr.refl _⟩⟩;exact sM ho (Region.noSelect_spec jw) (fun c a w=>hQ c a o.dst v w) f listed a (Mem W L) (eY W L) iu (Region.free_spec ho hi.2) (by simpa using hi.1) hc
  (by rw[hd];exact h.go iu hQ jw _ (eQ.put hn v))⟩
def Oh(ops:Array Oper)(ms:List Mk)(ends:List (List Nat))(listed:Array Bool)(fr:Fr):Bool:=
 decide (ms.map (·.i)).Nodup&&decide (ms.map (·.d)).Nodup&&UP ops (ms.map (·.i)) ends listed&&ms.all fun m=>(look fr m.d).isNone
theorem Ei{listed:Array Bool}{f:Nat}(ms:List Mk)(p:Mk->Bool)(S0:Nat)(hf:f=ms.length+S0)(hB:Oh ops ms [ms.map (·.i),(ms.filter p).map (·.i)] listed fr=true)(hm:∀m∈ms,AL P n W ops fr m)
    (h:∀g:Nat->Nat,TX P n W ops Q L0 (jU listed (ms.map (·.i))) S0 (ms.map (fun m=>(m.d,m.v (g m.i)))++fr) (L++ms.map fun m=>m.own (g m.i)))
    (h':∀g:Nat->Nat,TX P n W ops Q L0 (jU listed ((ms.filter p).map (·.i))) (ms.length-(ms.filter p).length+S0) ((ms.filter p).map (fun m=>(m.d,m.v (g m.i)))++fr) (L++(ms.filter p).map fun m=>m.own (g m.i))):TX P n W ops Q L0 listed f fr L:=⟨fun iu hQ jw a hr=>by
  subst hf;simp only[Oh,Bool.and_eq_true,decide_eq_true_eq]at hB;obtain⟨⟨⟨b1,b2⟩,b3⟩,b4⟩:=hB;have:=Se (Q:=Q) (L:=L) ms [ms,ms.filter p] listed (Mem W L0) S0 (fun l w hw=>iu w (mem_left hw)) b1 b2 b3 hm (fun m hm=>by simpa using List.all_eq_true.1 b4 m hm)
    (fun E hE=>by
      have hE:E=ms\/E=ms.filter p:=by
        simp only[List.mem_cons,List.not_mem_nil,or_false]at hE;rcases hE with h|h|h
        · exact .inl h
        · exact .inl h
        · exact .inr h
      rcases hE with rfl|rfl
      · exact⟨fun _ h=>h,b1,b2,fun k g a hk hr=>by
          obtain rfl:k=0:=by omega
          rw[Nat.zero_add];exact(h g).go (fun w hw=>iu w (mem_left hw)) hQ jw a hr⟩
      · exact⟨fun _ h=>(List.mem_filter.1 h).1,b1.sublist (List.filter_sublist.map _),b2.sublist (List.filter_sublist.map _),fun k g a hk hr=>by
          obtain rfl:k=ms.length-(ms.filter p).length:=by omega
          exact(h' g).go (fun w hw=>iu w (mem_left hw)) hQ jw a hr⟩) ms.length [] (fun x hx=>by cases hx) (by simp) (by simp) a hr
  simpa[jU,UO]using this⟩
theorem sU{fr zN:Fr}(h:∀q v,look fr q=some v->look zN q=some v){x:Operand}{v:Value}(hx:ev fr x=some v):ev zN x=some v:=by
 cases x with
 |tmp t=>exact h _ _ hx
 |_=>exact hx
theorem kC{i d:Nat}{t e ty:TypeId}{pos:String}{after:Array Edge}{x y:Operand}{c bytes m cap:Nat}{k k':IntKind}{zs:Array Value}[mX P t e c bytes][aQ P e zs](ho:ops[i]?=some ⟨some d,.makeSlice t x y,ty,pos,after,none⟩)(hx:ev fr x=some (.int k (m:Int)))(hy:ev fr y=some (.int k' (cap:Int)))(Jj:m<=cap)(hb:bytes*cap<=281474976710656)(qD:cap<=9223372036854775807)(hn:Nat.blt d n=true):
 AL P n W ops fr ⟨i,d,fun g=> .slice (some ⟨g,0,none⟩) m cap,fun g=>aw g (madeCells zs (cap*c)) e⟩:=
 ⟨_,ho,fun _ _ _ hl h=>pE (sU hl hx) (sU hl hy) Jj hb qD hn h⟩
theorem AN{i d:Nat}{t ty:TypeId}{pos:String}{after:Array Edge}{cs:Array Value}[aQ P t cs](ho:ops[i]?=some ⟨some d,.alloc t,ty,pos,after,none⟩)(hn:Nat.blt d n=true):
 AL P n W ops fr ⟨i,d,fun g=> .pointer (some ⟨g,0,none⟩),fun g=>aw g cs t⟩:=
 ⟨_,ho,fun _ _ _ _ h=>aK hn h⟩
end
end bK
namespace eG
open bW
def SzR(p0:Nat)(x:Rx)(st:RS):Prop:=p0<=st.p/\(st.e=0->oK x+1<=200*(st.p-p0))/\(st.e≠0->oK x<=200*(st.p-p0)+1)
section
variable{s:K4}
theorem SzR.le{p0:Nat}{x:Rx}{st:RS}(h:SzR p0 x st):oK x<=200*(st.p-p0)+1:=by
 by_cases e:st.e=0
 ·have:=h.2.1 e;omega
 ·exact h.2.2 e
end
end eG
namespace aB
abbrev cg:=Int×Int
abbrev Prod:=Int×List cg
structure dr where
 aF:Int
 aU:Int
 ag:List Prod
def right(aF aU:Int)(x:cg):Bool:=if x.1=1 then decide (0<=x.2)&&decide (x.2<aF)else if x.1=2 then decide (0<=x.2)&&decide (x.2<aU)else false
def sV(aF aU:Int)(p:Prod):Int:=if 8<p.2.length then 2 else if p.1<0 then 1 else if aU<=p.1 then 1 else if p.2.any (fun x=>!right aF aU x)=true then 1 else 0
def lz(aF aU:Int):List Prod->Int
 |[]=>0
 |p::r=>if sV aF aU p≠0 then sV aF aU p else lz aF aU r
def cz(g:dr):Int:=if g.aF<0 then 1 else if 30<g.aF then 1 else if g.aU<1 then 1 else if 20<g.aU then 1 else if 40<g.ag.length then 2 else lz g.aF g.aU g.ag
theorem Oi{t n:Int}{p:Prod}(h:sV t n p=0):p.2.length<=8/\0<=p.1/\p.1<n/\∀x∈p.2,right t n x=true:=by
 unfold sV at h;split at h;· simp at h
 split at h;· simp at h
 split at h;· simp at h
 split at h;· simp at h
 rename_i a b c d
 refine⟨by omega,by omega,by omega,fun x hx=>?_⟩;simp only[List.any_eq_true,not_exists,not_and,Bool.not_eq_true',Bool.not_eq_false]at d
 simpa using d x hx
theorem AO{t n:Int}:∀{l:List Prod},lz t n l=0->∀p∈l,sV t n p=0
  |[],_,_,h=>by cases h
  | q ::r,h,p,hp=>by
    unfold lz at h;split at h
    · contradiction
    · rename_i c
      rcases List.mem_cons.1 hp with rfl|hp
      · simpa using c
      · exact AO h p hp
theorem bV{g:dr}(h:cz g=0):0<=g.aF/\g.aF<=30/\1<=g.aU/\g.aU<=20/\g.ag.length<=40/\∀p∈g.ag,p.2.length<=8/\0<=p.1/\p.1<g.aU/\∀x∈p.2,right g.aF g.aU x=true:=by
 unfold cz at h;split at h;· simp at h
 split at h;· simp at h
 split at h;· simp at h
 split at h;· simp at h
 split at h;· simp at h
 exact⟨by omega,by omega,by omega,by omega,by omega,fun p hp=>Oi (AO h p hp)⟩
end aB
namespace bK
open Go.RowKit bO dc
theorem str_inj{x y:List UInt8}(h:str x=str y):x=y:=by
 unfold str at h
 simpa using h
def fe:rJ Tryz.prog 9 (List UInt8) where
 kv:=str
 ok l:=l.length<=9223372036854775807
 law:=Go.WideMaps.string_law Tryz.underlying9
 key l h:=⟨_,Go.WideMaps.keyOf_string_mk Tryz.underlying9 (by unfold maxLen;simpa[ByteArray.size]using h)⟩
 inj x y h:=str_inj h
end bK
namespace bK
open Go.RowKit bO dc bW
theorem wM{n:Int}(h0:0<=n)(h1:n<=18446744073709551615):v64 (BitVec.ofNat 64 n.toNat)= .int .u64 n:=by
 simp only[v64,ez,BitVec.toNat_ofNat]
 congr 1
 omega
set_option maxRecDepth 100000 in
theorem Lm{H:Type}{enc0:TypeId×Value->H}{W:World}:pB enc0 Tryz.prog W 116 (fun cs x=>cs=cZ x/\True):=fun fuel cs x hf=>by
 have ho:pB enc0 Tryz.prog W 116 (NU .u64 0 18446744073709551615 4):=(D6 (is:=isInt .u64 0 18446744073709551615) (c:=1) Tryz.underlying116 (by kernel_rfl) (K7 Tryz.underlying114)).mono fun cs l h=>by
  have e:Tryz.prog.cellsOf 116=4:=by kernel_rfl
  exact D7 (by rw[h.1,e]) h.2
 obtain⟨l,h1,h2,h3⟩:=ho fuel cs _ hf
 match l,h1 with
 |[p,q,r,s],_=>
  have b0:=h3 p (by simp);have b1:=h3 q (by simp);have b2:=h3 r (by simp);have b3:=h3 s (by simp);refine⟨⟨BitVec.ofNat 64 p.toNat,BitVec.ofNat 64 q.toNat,BitVec.ofNat 64 r.toNat,BitVec.ofNat 64 s.toNat⟩,?_,trivial⟩;show cs=[v64 (BitVec.ofNat 64 p.toNat),v64 (BitVec.ofNat 64 q.toNat),v64 (BitVec.ofNat 64 r.toNat),v64 (BitVec.ofNat 64 s.toNat)]
  rw[wM b0.1 b0.2,wM b1.1 b1.2,wM b2.1 b2.2,wM b3.1 b3.2,h2];rfl
end bK
namespace bK
open Go.RowKit bO dc bW eG Go.ChangeShapes Go.WideShapes Go.ChangeAt
set_option maxRecDepth 100000
section
variable{H:Type}{enc0:TypeId×Value->H}{P:Program}{W:World}{M:R4 P H}
def xP(M:R4 P H)(enc0:TypeId×Value->H)(W:World)(fuel:Nat)(t:TypeId){α:Type}(is:List Value->α->Prop):Prop:=
 ∀cs x,DataW.trod enc0 P W 0 (fun _=>true) true fuel t cs=some x->M.ok t x.1->∃a,is cs a
theorem iz.at{fuel:Nat}{t:TypeId}{α:Type}{is:List Value->α->Prop}(h:iz M enc0 W t is):xP M enc0 W fuel t is:=fun cs x=>h fuel cs x
theorem Cf{fuel:Nat}{t e:TypeId}{c:Nat}(ht:P.underlying t=some (.slice e))(hc:P.cellsOf e=c)(DG:0<c){α:Type}{is:List Value->α->Prop}(hd:∀n,fuel=n+1->xP M enc0 W n e is)(_:∀cs a,is cs a->cs.length=c):xP M enc0 W fuel t (fun cs l=>YD W is c cs l/\M.lim e l.length):=fun cs x h hm=>by
  rcases DataW.trod_slice ht h with⟨rfl,_⟩|⟨a,len,cap,elems,rest,n,hf,rfl,hx,_,V1,hmx,qZ,xl,_⟩
  · exact⟨[],⟨_,rfl,none,0,rfl,Nat.le_refl _,by decide,fun h=>by simp at h⟩,M.zero e⟩
  · rw[hx]at hm
    obtain⟨xF,mY⟩:=M.slice ht hm;have each:∀i,i<len->∃y:α,∃cs,W.cells? 0 (a.add (i*c)) c=some cs/\is cs y:=fun i hi=>by
      have h1:=xl i hi;rw[hc,List.getElem?_eq_getElem (by omega)]at h1
      cases hcell:W.cells? 0 (a.add (i*c)) c with
      |none=>rw[hcell]at h1;simp at h1
      | some cs=>
        rw[hcell]at h1;obtain⟨y,hy⟩:=hd n hf cs _ h1 (mY _ (List.mem_map.2 ⟨_,List.getElem_mem (by omega),rfl⟩));exact⟨y,cs,rfl,hy⟩
    obtain⟨l,K8,hp⟩:=wC len each;subst K8;refine⟨l,⟨_,rfl,some a,cap,rfl,V1,hmx,fun h0=>?_⟩,by rw[List.length_map,qZ]at xF;exact xF⟩;obtain⟨cs0,h1,h2⟩:=hp 0 l[0] (List.getElem?_eq_getElem h0);have h3:=(iq h1).2 0 DG;have hlen:=(iq h1).1;rw[List.getElem?_eq_getElem (by omega)]at h3;have hsp:=As h3;have e0:a.spot=none:=by
      rw[Nat.zero_mul]at hsp;unfold Addr.add at hsp
      simpa using hsp
    obtain⟨b,off,spot⟩:=a;obtain rfl:spot=none:=e0;refine⟨b,off,rfl,fun i hi=>?_⟩;obtain⟨cs,h4,h5⟩:=hp i l[i] (List.getElem?_eq_getElem hi);refine⟨cs,h5,fun j u hj=>?_⟩;have V':j<c:=by
      have:=(List.getElem?_eq_some_iff.1 hj).1;rw[(iq h4).1]at this;exact this
    have h6:=(iq h4).2 j V';rw[hj]at h6;have e1:∀(o k:Nat),(⟨b,o,none⟩:Addr).add k=⟨b,o+k,none⟩:=fun o k=>by unfold Addr.add;simp
    rw[e1,e1]at h6;rw[<-h6]
theorem AP{t:TypeId}{fs:Array Field}(ht:P.underlying t=some (.struct fs)){fuel:Nat}{cs:List Value}{x:DataW H×List MemPlace}(h:DataW.trod enc0 P W 0 (fun _=>true) true fuel t cs=some x)(hm:M.ok t x.1):
 cs.length=P.cellsOf t/\∃n,fuel=n+1/\∀(i:Nat) (f:Field),fs[i]?=some f->∀{α:Type} {is:List Value->α->Prop},xP M enc0 W n f.type is->∃a,is ((cs.drop f.offset).take (P.cellsOf f.type)) a:=by
 obtain⟨xs,n,hn,hx,hl,hlen,hf⟩:=DataW.trod_struct ht h;refine⟨hl,n,hn,fun i f hi α is ho=>?_⟩;have h1:=hf i f hi;have hlt:i<xs.length:=by rw[hlen];exact(Array.getElem?_eq_some_iff.1 hi).1
 rw[List.getElem?_eq_getElem hlt]at h1;rw[hx]at hm;exact ho _ _ h1 (M.NX ht hm i f _ hi (by rw[List.getElem?_map,List.getElem?_eq_getElem hlt];rfl))
end
theorem Oj{W:World}{v:Value}{l:List Rx}(h:Rp W (fun cs t=>ic (ng W) W cs t) 6 v l):iB rL (ng W) W v l:=by
 obtain⟨base,cap,h1,h2,h3,h4⟩:=h;refine⟨base,cap,h1,h2,h3,fun h0=>?_⟩;obtain⟨b,off,h5,h6⟩:=h4 h0;refine⟨b,off,h5,?_,fun i hi=>?_⟩
 ·obtain⟨cs,h7,h8⟩:=h6 0 h0
  have h7':cs.length=6:=ic.V4 h7;have:=h8 0 _ (List.getElem?_eq_getElem (by omega));exact World.block_lt_of_cell? W _ this
 ·obtain⟨cs,h7,h8⟩:=h6 i hi
  exact⟨cs,h7,h8⟩
theorem xQ{H:Type}{M:R4 Tryz.prog H}{enc0:TypeId×Value->H}{W:World}:∀(F fuel:Nat),fuel<=F->xP M enc0 W fuel 119 (fun cs t=>ic (ng W) W cs t)
  | 0,fuel,hF,cs,x,h,hm=>by
    obtain⟨_,n,hn,_⟩:=AP Tryz.underlying119 h hm;omega
  | F +1,fuel,hF,cs,x,h,hm=>by
    obtain⟨hl,n,hn,Jr⟩:=AP Tryz.underlying119 h hm;have hl6:cs.length=6:=hl;obtain⟨p,e0,k1⟩:=Jr 0 _ rfl (iz.at (Ha Tryz.underlying3));obtain⟨c,e1⟩:=Jr 1 _ rfl (iz.at (AF Lm));obtain⟨l,⟨v,e2,hs⟩,_⟩:=Jr 2 _ rfl (Cf (c:=6) Tryz.underlying117 (by kernel_rfl) (by decide) (fun m hm=>xQ F m (by omega)) fun cs a h=>h.V4)
    replace e0:(cs.drop 0).take 1=[.int .i64 p]:=e0
    replace e1:(cs.drop 1).take 4=cZ c:=e1.1
    replace e2:(cs.drop 5).take 1=[v]:=e2
    refine⟨.mk p c l,sS.2 ⟨v,?_,k1,Oj hs⟩⟩;unfold jx;rw[<-e1]
    match cs,hl6 with
    | [x0,x1,x2,x3,x4,x5],_=>
      simp only[List.drop_succ_cons,List.drop_zero,List.take_succ_cons,List.take_zero,List.cons.injEq,and_true]at e0 e2;subst e0 e2;rfl
end bK
namespace sW
def ke(n:Nat)(tag:Int)(row:List Int):Bool:=decide (tag< -1)||decide (20<=tag)||row.any fun t=>decide (t< -1)||decide ((n:Int)<=t)
def ud(rows:List (List Int))(tags:List Int):Int:=
 if 200<rows.length then 2 else if rows.length=0\/tags.length≠rows.length then 1 else if(List.range rows.length).any (fun i=>ke rows.length (tags.getD i 0) (rows.getD i []))then 1 else 0
theorem Ol{rows:List (List Int)}{tags:List Int}(h:ud rows tags=0):rows.length<=200/\0<rows.length/\tags.length=rows.length/\∀i,i<rows.length-> -1<=tags.getD i 0/\tags.getD i 0<20/\∀t∈rows.getD i [],-1<=t/\t<rows.length:=by
  unfold ud at h;split at h
  · simp at h
  · split at h
    · simp at h
    · split at h
      · simp at h
      · rename_i c1 c2 c3
        refine⟨by omega,by omega,by omega,fun i hi=>?_⟩;simp only[List.any_eq_true,List.mem_range,not_exists,not_and]at c3;have:=c3 i hi;simp only[ke,Bool.or_eq_true,decide_eq_true_eq,List.any_eq_true,not_or,not_exists,not_and]at this;obtain⟨⟨a,b⟩,c⟩:=this;refine⟨by omega,by omega,fun t ht=>?_⟩;have:=c t ht;omega
end sW
namespace bK
open Go.RowKit bO dc sW
set_option maxRecDepth 100000
def isRow(cs:List Value)(r:List Int):Prop:=r.length=256/\cs=r.map (.int .i16)/\∀x∈r,-32768<=x/\x<=32767
def UR(W:World)(v:Value)(rows:List (List Int))(tags:List Int):Prop:=∃vr vt,v= .agg #[vr,vt]/\Rp W isRow 256 vr rows/\Rp W (isInt .i64 (-9223372036854775808) 9223372036854775807) 1 vt tags/\∀r∈rows,r.length=256
end bK
namespace bK
open Go.RowKit bO dc sW
theorem Wa{rows:List (List Int)}{i:Nat}(hi:i<rows.length):rows.getD i []=rows[i]:=by rw[List.getD_eq_getElem?_getD,List.getElem?_eq_getElem hi];rfl
theorem Hh{l:List Int}{i:Nat}(hi:i<l.length):l.getD i 0=l[i]:=by rw[List.getD_eq_getElem?_getD,List.getElem?_eq_getElem hi];rfl
theorem Ln{n i:Nat}{p:Nat->Bool}(hi:i<n)(h:p i=true):(List.range n).any p=true:=List.any_eq_true.2 ⟨i,List.mem_range.2 hi,h⟩
theorem xR(v:Value)(rows:List (List Int))(tags:List Int)(w:World)(h:UR w v rows tags):
    Calls Tryz.prog 116 #[v] w (bM (ret (.int .i64 (ud rows tags))) w):=by
  obtain⟨vr,vt,rfl,hr,ht,abS⟩:=h;obtain⟨br,cr,rfl,Rr,qE,xS⟩:=hr;have ht':=ht.sl (f:= .int .i64) fun cs a h=>h.1;obtain⟨bt,ct,rfl,US,Om,DH⟩:=ht';have htr:∀i (hi:i<tags.length),-9223372036854775808<=tags[i]/\tags[i]<=9223372036854775807:=fun i hi=>by
    obtain⟨_,_,_,_,_,h5⟩:=ht;obtain⟨_,_,_,h6⟩:=h5 (by omega);obtain⟨_,h7,_⟩:=h6 i hi;exact h7.2
  clear ht;unfold maxLen at qE Om;refine enter (args:=[.agg #[.slice br rows.length cr,.slice bt tags.length ct]]) (n:=57) Tryz.func116 rfl rfl rfl ?_;refine a8 (aL (a_ rfl rfl rfl fun g=>?_))
  repeat(first|refine GA ?_|refine gV (J ak.ty rfl (ah (i:=0) rfl rfl)) ?_)
  unfold ud
  by_cases c1:200<rows.length
  · rw[if_pos c1]
    try refine GA ?_
    exact db
  · rw[if_neg c1]
    by_cases c2:rows.length=0
    · rw[if_pos (.inl c2)]
      repeat(first|refine GA ?_|refine gV (J ak.ty rfl (ah (i:=0) rfl rfl)) ?_)
      exact db
    · by_cases c3 : tags.length=rows.length
      · rw[if_neg (by omega)]
        repeat(first|refine GA ?_|refine gV (J ak.ty rfl (ah (i:=0) rfl rfl)) ?_)
        refine jA (ι:=Nat) (fun i=>i<=rows.length/\∀j,j<i->ke rows.length (tags.getD j 0) (rows.getD j [])=false) (fun i=>[(1,.pointer (some ⟨g,0,none⟩)),(3,.int .i64 rows.length),(21,.int .i64 rows.length),(22,.int .i64 (i:Int))]) (fun _=>[aw g #[.slice br rows.length cr,.slice bt tags.length ct] 186]) (fun i=>rows.length-i) 0 ⟨by omega,fun j hj=>by omega⟩ ⟨rfl,rfl,rfl,rfl,trivial⟩ rfl ?_;rintro i ⟨h1,h2⟩
        by_cases c4:i<rows.length
        · obtain⟨b,off,rfl,hb⟩:=xS (by omega)
          obtain⟨b',sX,rfl,GI⟩:=DH (by omega);have XV:i<tags.length:=by omega
          have dF:=NB (L:=[aw g #[.slice (some ⟨b,off,none⟩) rows.length cr,.slice (some ⟨b',sX,none⟩) tags.length ct] 186]) GI XV;obtain⟨cs,hcs,fc⟩:=hb i c4;obtain⟨q1,q2,q3⟩:=hcs;have hti:=htr i XV;have Nb:=Hh XV;have YL:=Wa c4;have kD:∀(P:Prop),ke rows.length (tags.getD i 0) (rows.getD i [])=true->(if(List.range rows.length).any (fun i=>ke rows.length (tags.getD i 0) (rows.getD i []))=true then(1:Int)else 0)=1:=fun _ h=>if_pos (Ln c4 h);rw[Nb,YL]at kD
          by_cases c5:tags[i]< -1
          · rw[kD True (by simp[ke,c5])]
            repeat(first|refine GA ?_|refine gV (J ak.ty rfl (ah (i:=0) rfl rfl)) ?_|refine gV (bx aT.eq ak.ty rfl rfl XV) ?_|refine gV (J ak.ty rfl dF) ?_)
            exact db
          · by_cases c6:20<=tags[i]
            · rw[kD True (by simp[ke,c6])]
              repeat(first|refine GA ?_|refine gV (J ak.ty rfl (ah (i:=0) rfl rfl)) ?_|refine gV (bx aT.eq ak.ty rfl rfl XV) ?_|refine gV (J ak.ty rfl dF) ?_)
              exact db
            · repeat(first|refine GA ?_|refine gV (J ak.ty rfl (ah (i:=0) rfl rfl)) ?_|refine gV (bx aT.eq ak.ty rfl rfl XV) ?_|refine gV (J ak.ty rfl dF) ?_|refine gV (aC aT.eq ak.ty rfl rfl c4) ?_|refine gV (aH ak.ty rfl (by rw[q2,List.length_map,q1]) (fun j v hj=>f_ fc hj)) ?_)
              refine jA (ι:=Nat) (fun b=>b<=256/\∀q,q<b-> -1<=rows[i].getD q 0/\rows[i].getD q 0<rows.length) (fun b=>[(1,.pointer (some ⟨g,0,none⟩)),(3,.int .i64 rows.length),(21,.int .i64 rows.length),(22,.int .i64 (i:Int)),(43,.agg cs.toArray),(44,.int .i64 (b:Int))]) (fun _=>[aw g #[.slice (some ⟨b,off,none⟩) rows.length cr,.slice (some ⟨b',sX,none⟩) tags.length ct] 186]) (fun b=>256-b) 0 ⟨by omega,fun q hq=>by omega⟩ ⟨rfl,rfl,rfl,rfl,rfl,rfl,trivial⟩ rfl ?_;rintro q ⟨k1,k2⟩
              by_cases c7:q<256
              · have hql:q<rows[i].length:=by omega
                have hqv:=Hh hql;have hcell:cs.toArray[q]?=some (.int .i16 rows[i][q]):=by rw[q2];simp[hql]
                have hq3:=q3 _ (List.getElem_mem hql);have YM:rows[i][q]∈rows[i]:=List.getElem_mem hql;generalize rows[i][q]=z at*
                by_cases c8:z< -1
                · rw[kD True (by simp only[ke,Bool.or_eq_true,List.any_eq_true];exact .inr ⟨z,YM,by simp[c8]⟩)]
                  clear k2 h2 xS DH
                  repeat(first|refine GA ?_|refine gV (fV aT.eq ak.ty rfl rfl c7 hcell) ?_|refine gV (fI aT.eq aT.eq rfl (kq (by omega) (by omega))) ?_)
                  exact db
                · by_cases c9:(rows.length:Int)<=z
                  · rw[kD True (by simp only[ke,Bool.or_eq_true,List.any_eq_true];exact .inr ⟨z,YM,by simp[c9]⟩)]
                    clear k2 h2 xS DH
                    repeat(first|refine GA ?_|refine gV (fV aT.eq ak.ty rfl rfl c7 hcell) ?_|refine gV (fI aT.eq aT.eq rfl (kq (by omega) (by omega))) ?_)
                    exact db
                  · repeat(first|refine GA ?_|refine gV (fV aT.eq ak.ty rfl rfl c7 hcell) ?_|refine gV (fI aT.eq aT.eq rfl (kq (by omega) (by omega))) ?_)
                    exact fH (q+1) ⟨by omega,fun q' xr=>if e:q'<q then k2 q' e else(by obtain rfl:q'=q:=(by omega);rw[hqv];omega)⟩ (by show 256-(q+1)<256-q;omega) ⟨rfl,rfl,rfl,rfl,rfl,rfl,trivial⟩ rfl
              · have pJ:ke rows.length (tags.getD i 0) (rows.getD i [])=false:=by
                  rw[Nb,YL];simp only[ke,Bool.or_eq_false_iff,decide_eq_false_iff_not,List.any_eq_false,Bool.not_eq_true];refine⟨⟨c5,c6⟩,fun z hz=>?_⟩;obtain⟨q',xr,rfl⟩:=List.mem_iff_getElem.1 hz;have:=k2 q' (by omega);rw[Hh xr]at this;simp;omega
                try refine GA ?_
                exact fH (i+1) ⟨by omega,fun j hj=>if e:j<i then h2 j e else(by obtain rfl:j=i:=(by omega);exact pJ)⟩ (by show rows.length-(i+1)<rows.length-i;omega) ⟨rfl,rfl,rfl,rfl,trivial⟩ rfl
        · have hno:¬(List.range rows.length).any (fun i=>ke rows.length (tags.getD i 0) (rows.getD i []))=true:=by
            simp only[List.any_eq_true,List.mem_range,not_exists,not_and];intro j hj;rw[h2 j (by omega)];simp
          rw[if_neg hno]
          try refine GA ?_
          exact db
      · rw[if_pos (.inr c3)]
        repeat(first|refine GA ?_|refine gV (J ak.ty rfl (ah (i:=0) rfl rfl)) ?_)
        exact db
end bK
namespace bT
structure oZ where
 n:Nat
 d:Nat->Nat->Int
 tag:Nat->Int
structure oZ.Ok(A:oZ):Prop where
 pos:0<A.n
 le:A.n<=200
 step:∀i,i<A.n->∀b,b<256-> -1<=A.d i b/\A.d i b<A.n
 tags:∀i,i<A.n-> -1<=A.tag i/\A.tag i<20
abbrev Row:=Vector Int 256
abbrev Kind:=Int×Row
section
variable(A:oZ)
def val(now:Nat->Nat)(q:Int):Nat:=if q<0 then 0 else now q.toNat
def kind(now:Nat->Nat)(i:Nat):Kind:=((now i:Int),Vector.ofFn fun b:Fin 256=>(val now (A.d i b):Int))
def dead:Kind:=(0,Vector.replicate 256 0)
def kinds(now:Nat->Nat):List Kind:=(List.range A.n).map (kind A now)
def lA(now:Nat->Nat):List Kind:=cP [dead] (kinds A now)
def next(now:Nat->Nat)(i:Nat):Nat:=idx (lA A now) (kind A now i)
def AQ:Nat->Nat->(Nat->Nat)->Nat->Nat
 |0,_,now=>now
 |f+1,n,now=>if(lA A now).length=n then next A now else AQ f (lA A now).length (next A now)
def sY(i:Nat):Nat:=(A.tag i+1).toNat
def b_:Nat->Nat:=AQ A (A.n+2) 0 (sY A)
def tg(q:Int):Int:=if q<0 then-1 else A.tag q.toNat
def dt(q:Int)(b:Nat):Int:=if q<0 then-1 else A.d q.toNat b
def go:Int->List UInt8->Int
 |q,[]=>q
 |q,b::s=>go (dt A q b.toNat) s
def St(q:Int):Prop:= -1<=q/\q<A.n
def same(q r:Int):Prop:=∀s,tg A (go A q s)=tg A (go A r s)
def kd(now:Nat->Nat)(q:Int):Kind:=if q<0 then dead else kind A now q.toNat
end
section
variable{A:oZ}
theorem rh(hA:A.Ok){q:Int}(hq:St A q){b:Nat}(hb:b<256):St A (dt A q b):=by
 unfold St dt at*;have:=hA.pos;split
 ·omega
 ·exact hA.step q.toNat (by omega) b hb
theorem On:∀(s:List UInt8) {q:Int},q<0->go A q s<0
 |[],_,h=>h
 |b::s,q,h=>On s (by unfold dt;rw[if_pos h];decide)
theorem Lo{q r:Int}(h:same A q r)(b:Nat)(hb:b<256):same A (dt A q b) (dt A r b):=fun s=>by
 have:=h (UInt8.ofNat b::s);have e:(UInt8.ofNat b).toNat=b:=by simp;omega
 simp only[go,e]at this;exact this
theorem Cg(now:Nat->Nat)(q:Int):(kd A now q).1=(val now q:Int):=by
 unfold kd val dead kind;split<;>rfl
theorem Ch(now:Nat->Nat)(q:Int)(b:Nat)(hb:b<256):(kd A now q).2[b]=(val now (dt A q b):Int):=by
 unfold kd dt dead kind;split
 ·simp[val]
 ·simp
theorem Oo{now:Nat->Nat}{q r:Int}:kd A now q=kd A now r↔val now q=val now r/\∀b,b<256->val now (dt A q b)=val now (dt A r b):=by
 constructor
 ·intro h
  refine⟨?_,fun b hb=>?_⟩
  ·have e:(kd A now q).1=(kd A now r).1:=by rw[h]
   rw[Cg,Cg]at e;exact Int.ofNat.inj e
  ·have e:(kd A now q).2[b]=(kd A now r).2[b]:=by rw[h]
   rw[Ch _ _ _ hb,Ch _ _ _ hb]at e;exact Int.ofNat.inj e
 ·rintro⟨h1,h2⟩
  refine Prod.ext ?_ (Vector.ext fun b hb=>?_)
  ·rw[Cg,Cg,h1]
  ·rw[Ch _ _ _ hb,Ch _ _ _ hb,h2 b hb]
theorem Ej(now:Nat->Nat):dead∈lA A now:=iD.2 (.inl (by simp))
theorem Oq{now:Nat->Nat}{i:Nat}(h:i<A.n):kind A now i∈lA A now:=iD.2 (.inr (List.mem_map.2 ⟨i,List.mem_range.2 h,rfl⟩))
theorem Ot{now:Nat->Nat}{q:Int}(h:q<A.n):kd A now q∈lA A now:=by
 unfold kd;split
 ·exact Ej now
 ·exact Oq (by omega)
theorem Lp(now:Nat->Nat):(lA A now).Nodup:=nY _ _ (by simp)
theorem ue(now:Nat->Nat):(lA A now).length<=A.n+1:=by
 have h:∀(l D:List Kind),(cP D l).length<=D.length+l.length:=by
  intro l
  induction l with
  |nil=>intro D;simp[cP]
  |cons k l ih=>
   intro D;have:=ih (more D k);have h2:(more D k).length<=D.length+1:=by unfold more;split<;>simp
   show(cP (more D k) l).length<=_
   simp;omega
 have:=h (kinds A now) [dead];unfold lA;simp[kinds]at this⊢;omega
theorem Js(now:Nat->Nat):0<(lA A now).length:=List.length_pos_of_mem (Ej now)
theorem pK(now:Nat->Nat){q:Int}:val (next A now) q=idx (lA A now) (kd A now q):=by
 unfold val kd;split
 ·obtain⟨E,h⟩:=nX (kinds A now) [dead]
  rw[lA,h];exact(N_ dead E).symm
 ·rfl
theorem mD{now:Nat->Nat}{q:Int}(h:q<A.n):val (next A now) q<(lA A now).length:=by
 rw[pK];exact iX (Ot h)
theorem Ci{now:Nat->Nat}{q r:Int}(hq:q<A.n):val (next A now) q=val (next A now) r↔kd A now q=kd A now r:=by
 rw[pK,pK];exact⟨fun h=>Sc (Ot hq) h,fun h=>by rw[h]⟩
theorem xU{now:Nat->Nat}{q r:Int}(hq:q<A.n)(h:val (next A now) q=val (next A now) r):val now q=val now r:=(Oo.1 ((Ci hq).1 h)).1
theorem Ou{now:Nat->Nat}{v:Nat}(h:v<(lA A now).length):∃q:Int,St A q/\val (next A now) q=v:=by
 have hm:(lA A now)[v]∈lA A now:=List.getElem_mem h;have hi:idx (lA A now) (lA A now)[v]=v:=xM (Lp now) h;rcases iD.1 hm with hd|hk
 ·refine⟨-1,⟨by omega,by omega⟩,?_⟩
  rw[pK,show kd A now (-1)=dead from rfl,<-List.mem_singleton.1 hd];exact hi
 ·obtain⟨i,h1,h2⟩:=List.mem_map.1 hk
  rw[List.mem_range]at h1;refine⟨i,⟨by omega,by omega⟩,?_⟩;have e:kd A now (i:Int)=kind A now i:=by unfold kd;rw[if_neg (by omega),Int.toNat_natCast]
  rw[pK,e,h2];exact hi
def Jt(A:oZ)(n:Nat)(now:Nat->Nat):Prop:=∃UT,now=next A UT/\n=(lA A UT).length
def Ek(A:oZ)(x:Nat):Int:=if x<A.n then(x:Int)else-1
theorem Ov{q:Int}(h:St A q):∃x,x<A.n+1/\Ek A x=q:=by
 unfold St at h
 by_cases c:q<0
 ·exact⟨A.n,by omega,by unfold Ek;rw[if_neg (by omega)];omega⟩
 ·exact⟨q.toNat,by omega,by unfold Ek;rw[if_pos (by omega)];omega⟩
theorem Cj(x:Nat):Ek A x<A.n:=by unfold Ek;split<;>omega
theorem rQ{n:Nat}{now:Nat->Nat}(h:Jt A n now):n<=(lA A now).length/\((lA A now).length=n->∀q r,St A q->St A r->val now q=val now r->val (next A now) q=val (next A now) r):=by
 obtain⟨UT,rfl,rfl⟩:=h;have h:=He (N:=A.n+1) (f:=fun x=>val (next A UT) (Ek A x)) (g:=fun x=>val (next A (next A UT)) (Ek A x)) (n:=(lA A UT).length) (c:=(lA A (next A UT)).length)
  (fun v hv=>by
   obtain⟨q,hq,e⟩:=Ou hv;obtain⟨x,hx,e2⟩:=Ov hq;exact⟨x,hx,by show val (next A UT) (Ek A x)=v;rw[e2];exact e⟩)
  (fun x _=>mD (Cj x)) (fun x y _ _ e=>xU (Cj x) e)
 refine⟨h.1,fun hc q r hq hr e=>?_⟩;obtain⟨x,hx,rfl⟩:=Ov hq;obtain⟨y,hy,rfl⟩:=Ov hr;exact h.2 hc (fun x _=>mD (Cj x)) x y hx hy e
structure Way(A:oZ)(now:Nat->Nat):Prop where
 tags:∀q r,St A q->St A r->val now q=val now r->tg A q=tg A r
 coarse:∀q r,St A q->St A r->same A q r->val now q=val now r
theorem aaU(hA:A.Ok):Way A (sY A) where
 tags q r hq hr h:=by
  unfold St at hq hr;unfold val sY at h;unfold tg;have h1:=fun c=>hA.tags q.toNat (c:q.toNat<A.n);have h2:=fun c=>hA.tags r.toNat (c:r.toNat<A.n)
  by_cases c1:q<0<;>by_cases c2:r<0<;>simp only[c1,c2,if_true,if_false]at h⊢
  ·have:=h2 (by omega);omega
  ·have:=h1 (by omega);omega
  ·have:=h1 (by omega);have:=h2 (by omega);omega
 coarse q r hq hr h:=by
  have:=h [];simp only[go]at this;unfold tg at this;unfold val sY
  by_cases c1:q<0<;>by_cases c2:r<0<;>simp only[c1,c2,if_true,if_false]at this⊢ <;>omega
theorem xV(hA:A.Ok){now:Nat->Nat}(h:Way A now):Way A (next A now) where
 tags q r hq hr e:=h.tags q r hq hr (xU hq.2 e)
 coarse q r hq hr e:=(Ci hq.2).2 (Oo.2 ⟨h.coarse q r hq hr e,fun b hb=>h.coarse _ _ (rh hA hq hb) (rh hA hr hb) (Lo e b hb)⟩)
structure xW(A:oZ)(bl:Nat->Nat):Prop where
 le:∀i,i<A.n->bl i<=A.n
 tags:∀q r,St A q->St A r->val bl q=val bl r->tg A q=tg A r
 step:∀q r,St A q->St A r->val bl q=val bl r->∀b,b<256->val bl (dt A q b)=val bl (dt A r b)
 coarse:∀q r,St A q->St A r->same A q r->val bl q=val bl r
theorem Hi(hA:A.Ok){n:Nat}{now:Nat->Nat}(hr:Jt A n now)(hw:Way A now)(hc:(lA A now).length=n):xW A (next A now) where
 le i hi:=by
  have:=mD (A:=A) (now:=now) (q:=(i:Int)) (by omega);have h2:=ue (A:=A) now;unfold val at this;rw[if_neg (by omega),Int.toNat_natCast]at this;omega
 tags:=(xV hA hw).tags
 coarse:=(xV hA hw).coarse
 step q r hq wE e b hb:=(rQ hr).2 hc _ _ (rh hA hq hb) (rh hA wE hb) ((Oo.1 ((Ci hq.2).1 e)).2 b hb)
theorem Ow(hA:A.Ok):∀(f n:Nat) (now:Nat->Nat),(n=0\/Jt A n now)->n<=A.n+1->A.n+2<=f+n->Way A now->xW A (AQ A f n now)
  |0,n,now,_,h1,h2,_=>by omega
  | f +1,n,now,hr,h1,h2,hw=>by
    unfold AQ;have hp:=Js (A:=A) now;split
    · rename_i hc
      rcases hr with rfl|hr
      · omega
      · exact Hi hA hr hw hc
    · rename_i hc
      refine Ow hA f _ _ (.inr ⟨now,rfl,rfl⟩) (ue now) ?_ (xV hA hw);rcases hr with rfl|hr
      · omega
      · have:=(rQ hr).1;omega
theorem AR(hA:A.Ok):xW A (b_ A):=Ow hA _ _ _ (.inl rfl) (Nat.zero_le _) (by omega) (aaU hA)
theorem xW.same(hA:A.Ok){bl:Nat->Nat}(h:xW A bl){q r:Int}(hq:St A q)(hr:St A r):val bl q=val bl r↔same A q r:=by
 refine⟨fun e s=>?_,h.coarse q r hq hr⟩
 induction s generalizing q r with
 |nil=>exact h.tags q r hq hr e
 |cons b s ih=>exact ih (rh hA hq b.toNat_lt) (rh hA hr b.toNat_lt) (h.step q r hq hr e _ b.toNat_lt)
end
end bT
namespace bK
open Go.RowKit bO dc bT
def ie{κ:Type}[DecidableEq κ](D:List κ)(x:κ):Option Value:=if x∈D then some (.int .i64 (idx D x:Int))else none
theorem AS{κ:Type}[DecidableEq κ]{D:List κ}{x:κ}(hn:x∉D):(fun y=>if y=x then some (.int .i64 (D.length:Int))else ie D y)=ie (D++[x]):=by
 funext y
 unfold ie
 by_cases c:y=x
 ·subst c
  rw[if_pos rfl,if_pos (by simp)];have:=nh (D:=D) (k:=y);unfold more at this;rw[if_neg hn,if_neg hn]at this;rw[this]
 ·rw[if_neg c]
  by_cases c2:y∈D
  ·rw[if_pos c2,if_pos (List.mem_append_left _ c2),mC c2]
  ·rw[if_neg c2,if_neg (by simp[c,c2])]
section
variable{P:Program}{k:TypeId}{κ:Type}{K:rJ P k κ}
variable{W:bC}{fr:Fr}{L:List bI}{Q:Exit->Act->World->Prop}{ops:Array Oper}{rest:List Oper}{n d:Nat}{dst:Option Tmp}{ty:TypeId}{pos:String}{after:Array Edge}{guard:Option (Nat×Bool)}{i g c:Nat}{t e:TypeId}{D:List κ}{x:κ}{z:Value}{xm xk xv:Operand}[DecidableEq κ]
theorem pL(ht:P.underlying t=some (.map k e))(hz:∀w,(zeroValue e).run P w= .ok z w)(hi:L[i]?=some (dL K g (ie D) c))(hm:ev fr xm=some (.map (some g)))(hk:ev fr xk=some (K.kv x))(hx:K.ok x)(hn:x∈D):RR P n W ⟨dst,.lookup t xm xk true,ty,pos,after,guard⟩ fr L (.tuple #[.int .i64 (idx D x:Int),.bool true]):=by
 have:=k8 (n:=n) (W:=W) (dst:=dst) (ty:=ty) (pos:=pos) (after:=after) (guard:=guard) K ht hz hi hm hk hx;rw[show ie D x=some (.int .i64 (idx D x:Int))from if_pos hn]at this;exact this
theorem pM(ht:P.underlying t=some (.map k e))(hz:∀w,(zeroValue e).run P w= .ok z w)(hi:L[i]?=some (dL K g (ie D) c))(hm:ev fr xm=some (.map (some g)))(hk:ev fr xk=some (K.kv x))(hx:K.ok x)(hn:x∉D):RR P n W ⟨dst,.lookup t xm xk true,ty,pos,after,guard⟩ fr L (.tuple #[z,.bool false]):=by
 have:=k8 (n:=n) (W:=W) (dst:=dst) (ty:=ty) (pos:=pos) (after:=after) (guard:=guard) K ht hz hi hm hk hx;rw[show ie D x=none from if_neg hn]at this;exact this
theorem uf(hn:Nat.blt d n=true)(h:∀g,TL P n W ops Q rest ((d,.map (some g))::fr) (L++[dL K g (ie []) 0])):
 TL P n W ops Q (⟨some d,.makeMap t none,ty,pos,after,none⟩::rest) fr L:=by
 refine rK K hn fun g=>?_;have e:(fun(_:κ)=>(none:Option Value))=ie []:=by funext y;unfold ie;rw[if_neg (by simp)]
 rw[e];exact h g
theorem ug(ht:P.underlying t=some (.map k e))(hi:L[i]?=some (dL K g (ie D) D.length))(hm:ev fr xm=some (.map (some g)))(hk:ev fr xk=some (K.kv x))(hv:ev fr xv=some (.int .i64 (D.length:Int)))(hx:K.ok x)(hn:x∉D)(hc:D.length<=1152921504606846976)
 (h:TL P n W ops Q rest fr (L.set i (dL K g (ie (D++[x])) (D++[x]).length))):
 TL P n W ops Q (⟨none,.mapUpdate t xm xk xv,ty,pos,after,none⟩::rest) fr L:=by
 refine jr K ht hi hm hk hv hx hc ?_;rw[AS hn];rw[show ie D x=none from if_neg hn];rw[show(D++[x]).length=D.length+1 by simp]at h;exact h
end
end bK
namespace bK
open Go.RowKit bO dc
def fS(D:Nat->Prop)(f:Nat->bI):bI where
  zR:=none
  more:=fun k=>∃i,D i/\(f i).dS k
  holds:=fun w=>(∀i,D i->(f i).holds w)/\∀i j,D i->D j->i≠j->∀k,(f i).dS k->¬(f j).dS k
  lt:=fun w h k hk=>by
    rcases hk with hk|⟨i,hi,hk⟩
    · cases hk
    · exact(f i).lt w (h.1 i hi) k hk
  stay:=fun w w' h hs hb=>⟨fun i hi=>(f i).stay w w' (h.1 i hi) hs fun k hk=>hb k (.inr ⟨i,hi,hk⟩),h.2⟩
theorem uh{D D':Nat->Prop}{f f':Nat->bI}(h1:∀k,D' k->D k)(h2:∀k,D' k->f' k=f k)(w:World)(h:(fS D f).holds w):(fS D' f').holds w:=
 ⟨fun i hi=>by rw[h2 i hi];exact h.1 i (h1 i hi),fun i j hi hj oW=>by rw[h2 i hi,h2 j hj];exact h.2 i j (h1 i hi) (h1 j hj) oW⟩
theorem xX{D D':Nat->Prop}{f f':Nat->bI}(h1:∀k,D' k->D k)(h2:∀k,D' k->f' k=f k)(k:Nat)(h:(fS D' f').dS k):(fS D f).dS k:=by
 rcases h with h|⟨i,hi,hk⟩
 ·cases h
 ·exact .inr ⟨i,h1 i hi,by rw[<-h2 i hi];exact hk⟩
def Lr(f:Nat->bI)(i:Nat)(o:bI):Nat->bI:=fun k=>if k=i then o else f k
theorem ui{f:Nat->bI}{i j:Nat}{o:bI}(h:j≠i):Lr f i o j=f j:=by unfold Lr;rw[if_neg h]
theorem uj{f:Nat->bI}{i:Nat}{o:bI}:Lr f i o i=o:=by unfold Lr;rw[if_pos rfl]
theorem Sg{D:Nat->Prop}{f:Nat->bI}{i:Nat}{o:bI}{w:World}(hi:¬D i)(h:(fS D f).holds w)(ho:o.holds w)(ha:∀k,(fS D f).dS k->¬o.dS k):(fS (fun k=>D k\/k=i) (Lr f i o)).holds w:=by
 have hf:∀j,D j->Lr f i o j=f j:=fun j hj=>ui fun e=>hi (by subst e;exact hj);have hg:Lr f i o i=o:=uj;refine⟨fun j hj=>?_,fun j k hj hk UD q hq xr=>?_⟩
 ·rcases hj with hj|rfl
  ·rw[hf j hj];exact h.1 j hj
  ·rw[hg];exact ho
 ·rcases hj with hj|rfl<;>rcases hk with hk|rfl
  ·rw[hf j hj]at hq;rw[hf k hk]at xr;exact h.2 j k hj hk UD q hq xr
  ·rw[hf j hj]at hq;rw[hg]at xr;exact ha q (.inr ⟨j,hj,hq⟩) xr
  ·rw[hg]at hq;rw[hf k hk]at xr;exact ha q (.inr ⟨k,hk,xr⟩) hq
  ·exact UD rfl
theorem Ox{D:Nat->Prop}{f:Nat->bI}{i:Nat}{o:bI}(hi:¬D i)(k:Nat)(h:(fS (fun k=>D k\/k=i) (Lr f i o)).dS k):(fS D f).dS k\/o.dS k:=by
 rcases h with h|⟨j,hj,hk⟩
 ·cases h
 ·rcases hj with hj|rfl
  ·exact .inl (.inr ⟨j,hj,by rw[ui fun e=>hi (by subst e;exact hj)]at hk;exact hk⟩)
  ·exact .inr (by rw[uj]at hk;exact hk)
section
variable{P:Program}{n:Nat}{W:bC}{fr:Fr}{L:List bI}{Q:Exit->Act->World->Prop}{ops:Array Oper}{rest:List Oper}{d:Nat}
theorem Mem.split{w:World}{q:Nat}{o:bI}(o1 o2:bI)(h:Mem W L w)(hq:L[q]?=some o)(h1:∀w,o.holds w->o1.holds w)(h2:∀w,o.holds w->o2.holds w)(f1:∀k,o1.dS k->o.dS k)(f2:∀k,o2.dS k->o.dS k)(ha:∀w,o.holds w->∀k,o1.dS k->¬o2.dS k):Mem W (L.set q o1++[o2]) w:=by
 have hr:=h.Jl o1 hq h1 f1;have XW:=h.owns.all q o hq;have hlen:q<L.length:=(List.getElem?_eq_some_iff.1 hq).1;refine⟨h.low,dH.both hr.owns (dH.one (h2 w XW.1) fun k hk=>XW.2 k (f2 k hk)) fun i j a b hi hj k hk kp=>?_⟩
 match j,hj with
 | 0,hj=>
  simp only[List.getElem?_cons_zero,Option.some.injEq]at hj;subst hj
  by_cases e:q=i
  ·subst e
   rw[List.getElem?_set_self hlen]at hi;simp only[Option.some.injEq]at hi;subst hi;exact ha w XW.1 k hk kp
  ·rw[List.getElem?_set_ne e]at hi
   exact h.owns.apart i q a o (Ne.symm e) hi hq k hk (f2 k kp)
 |j+1,hj=>simp at hj
theorem Mem.Sh{w:World}(o:bI)(i j:Nat)(js:List Nat){o1 o2:bI}{R:List bI}(h:Mem W L w)(hn:([i,j]++js).Nodup)(h1:L[i]?=some o1)(h2:L[j]?=some o2)(hR:R=js.filterMap fun i=>L[i]?)(hf:∀k,o.dS k->o1.dS k\/o2.dS k)(hh:∀w,o1.holds w->o2.holds w->(∀k,o1.dS k->¬o2.dS k)->o.holds w):Mem W (R++[o]) w:=by
 have oW:i≠j:=fun e=>by subst e;simp at hn
 have ha:=h.owns.apart i j o1 o2 oW h1 h2;refine Mem.merge o (h.pick ([i,j]++js) hn ?_) hf (fun a b=>hh w a b ha);rw[List.filterMap_append,<-hR]
 congr 1
 rw[List.filterMap_cons_some (by exact h1),List.filterMap_cons_some (by exact h2)];rfl
theorem Mem.take{w:World}{q:Nat}{D:Nat->Prop}{f:Nat->bI}(i:Nat)(h:Mem W L w)(hq:L[q]?=some (fS D f))(hi:D i):Mem W (L.set q (fS (fun k=>D k/\k≠i) f)++[f i]) w:=
 h.split _ _ hq (fun w h=>uh (fun k h=>h.1) (fun _ _=>rfl) w h) (fun w h=>h.1 i hi) (fun k h=>xX (fun k h=>h.1) (fun _ _=>rfl) k h) (fun k h=> .inr ⟨i,hi,h⟩) fun w h k hk kp=>by
  rcases hk with hk|⟨j,⟨hj,hne⟩,hk⟩
  ·cases hk
  ·exact h.2 j i hj hi hne k hk kp
theorem Hj{c:Code}{q:Nat}{D:Nat->Prop}{f:Nat->bI}(i:Nat)(hq:L[q]?=some (fS D f))(hi:D i)(h:T P n W c Q fr (L.set q (fS (fun k=>D k/\k≠i) f)++[f i])):T P n W c Q fr L:=⟨fun a w hr hm=>h.go a w hr (hm.take i hq hi)⟩
theorem Ju{q:Nat}{D:Nat->Prop}{f:Nat->bI}(i:Nat)(hq:L[q]?=some (fS D f))(hi:D i)(h:TL P n W ops Q rest fr (L.set q (fS (fun k=>D k/\k≠i) f)++[f i])):TL P n W ops Q rest fr L:=⟨fun a w hr hm=>h.go a w hr (hm.take i hq hi)⟩
theorem Mem.put{w:World}{D D':Nat->Prop}{f f':Nat->bI}{o:bI}{R:List bI}(x q j:Nat)(js:List Nat)(h:Mem W L w)(hn:([q,j]++js).Nodup)(hq:L[q]?=some (fS D f))(hj:L[j]?=some o)(hR:R=js.filterMap fun i=>L[i]?)(hx:¬D x)(hD:∀k,D' k->D k\/k=x)(hf:∀k,D' k->f' k=Lr f x o k):Mem W (R++[fS D' f']) w:=
 h.Sh _ q j js hn hq hj hR (fun k hk=>Ox hx k (xX hD hf k hk)) fun w h1 h2 h3=>uh hD hf w (Sg hx h1 h2 h3)
theorem Oy{D D':Nat->Prop}{f f':Nat->bI}{o:bI}{R:List bI}(x q j:Nat)(js:List Nat)(hn:([q,j]++js).Nodup)(hq:L[q]?=some (fS D f))(hj:L[j]?=some o)(hR:R=js.filterMap fun i=>L[i]?)(hx:¬D x)(hD:∀k,D' k->D k\/k=x)(hf:∀k,D' k->f' k=Lr f x o k)(h:TL P n W ops Q rest fr (R++[fS D' f'])):TL P n W ops Q rest fr L:=⟨fun a w hr hm=>h.go a w hr (hm.put x q j js hn hq hj hR hx hD hf)⟩
theorem Jv{e:Exit}{D D':Nat->Prop}{f f':Nat->bI}{o:bI}{R:List bI}(x q j:Nat)(js:List Nat)(hn:([q,j]++js).Nodup)(hq:L[q]?=some (fS D f))(hj:L[j]?=some o)(hR:R=js.filterMap fun i=>L[i]?)(hx:¬D x)(hD:∀k,D' k->D k\/k=x)(hf:∀k,D' k->f' k=Lr f x o k)(h:E n W e Q fr (R++[fS D' f'])):E n W e Q fr L:=⟨fun a w hr hm=>h.go a w hr (hm.put x q j js hn hq hj hR hx hD hf)⟩
theorem Si{q:Nat}{o:bI}{p:Addr}{v:Value}(hq:L[q]?=some o)(h:∀w,o.holds w->w.cell? p=some v):At W L p v:=fun w hm=>h w (hm.get hq)
theorem sZ{g off size cap m k:Nat}{e:TypeId}{xs:List Value}{v:Value}{w:World}(h:(aM e size (.slice (some ⟨g,0,none⟩) m cap) k xs).holds w)(hv:xs[off]?=some v):w.cell? ⟨g,off,none⟩=some v:=by
 have h:w.ownsRow 0 e size (.slice (some ⟨g,0,none⟩) m cap) k xs:=h;have:=h.cells (g:=g) rfl off v hv
 rwa [eS,Nat.zero_add]at this
def iY{α:Type}(len:Nat)(f:Nat->α):List α:=(List.range len).map f
section
variable{α:Type}
theorem eT(len:Nat)(f:Nat->α):(iY len f).length=len:=by simp[iY]
theorem pN{len:Nat}(f:Nat->α){k:Nat}(h:k<len):(iY len f)[k]?=some (f k):=by simp[iY,h]
theorem Oz{len:Nat}(f g:Nat->α)(k:Nat)(v:α)(h:∀i,i<len->g i=if i=k then v else f i):(iY len f).set k v=iY len g:=by
 apply List.ext_getElem?;intro i;rw[List.getElem?_set]
 by_cases hi:i<len
 ·rw[pN g hi,h i hi]
  by_cases e:k=i
  ·subst e;simp[eT,hi]
  ·rw[if_neg e,if_neg (fun e'=>e e'.symm),pN f hi]
 ·have h1:(iY len g)[i]?=none:=List.getElem?_eq_none (by rw[eT];omega)
  have h2:(iY len f)[i]?=none:=List.getElem?_eq_none (by rw[eT];omega);rw[h1,h2]
  by_cases e:k=i
  ·subst e;simp[eT,hi]
  ·rw[if_neg e]
theorem Hk{len:Nat}{f g:Nat->α}(h:∀i,i<len->f i=g i):iY len f=iY len g:=by
 unfold iY;apply List.map_congr_left;intro i hi;exact h i (by simpa using hi)
theorem Hl(val:α->Value)(a:α)(len:Nat):(iY len fun _=>a).map val=List.replicate len (val a):=by
 unfold iY;rw[List.map_map];apply List.ext_getElem?;intro i
 by_cases h:i<len<;>simp[h]
def dU(e:TypeId)(val:α->Value)(g len:Nat)(f:Nat->α):bI:=aM e 1 (.slice (some ⟨g,0,none⟩) len len) len ((iY len f).map val)
theorem lB{e:TypeId}{val:α->Value}{g len:Nat}{f f':Nat->α}(h:∀i,i<len->f i=f' i):dU e val g len f=dU e val g len f':=by unfold dU;rw[Hk h]
theorem eD{e:TypeId}{val:α->Value}{i g len k:Nat}{f:Nat->α}(hi:L[i]?=some (dU e val g len f))(hk:k<len):At W L ⟨g,0+k,none⟩ (val (f k)):=ix hi (by rw[Nat.zero_add,List.getElem?_map,pN f hk];rfl)
theorem uk{e:TypeId}{val:α->Value}{g len k:Nat}{f:Nat->α}{w:World}(h:(dU e val g len f).holds w)(hk:k<len):w.cell? ⟨g,0+k,none⟩=some (val (f k)):=sZ h (by rw[Nat.zero_add,List.getElem?_map,pN f hk];rfl)
theorem OA{e:TypeId}{val:α->Value}{g len k:Nat}{v:α}{f f':Nat->α}(h:∀i,i<len->f' i=if i=k then v else f i):aM e 1 (.slice (some ⟨g,0,none⟩) len len) len (((iY len f).map val).set k (val v))=dU e val g len f':=by
 unfold dU;rw[<-List.map_set,Oz f f' k v h]
theorem fF{e:TypeId}{val:α->Value}{ty:TypeId}{pos:String}{after:Array Edge}{t:TypeId}{p x:Operand}{i g off len:Nat}{v:α}{f:Nat->α}(f':Nat->α)(hT:Ty P t false 1)(hi:L[i]?=some (dU e val g len f))(hp:ev fr p=some (.pointer (some ⟨g,0+off,none⟩)))(hx:ev fr x=some (val v))(h1:(val v).cells=#[val v])(h2:(val v).oneCell'=true)(hk:off<len)(hf:∀i,i<len->f' i=if i=off then v else f i)
 (h:TL P n W ops Q rest fr (L.set i (dU e val g len f'))):TL P n W ops Q (⟨none,.store t p x,ty,pos,after,none⟩::rest) fr L:=
 jq hT hi hp hx h1 rfl h2 (by rw[List.length_map,eT,Nat.zero_add];exact hk) (by rw[Nat.zero_add,OA hf];exact h)
theorem lC{t e:TypeId}{x y:Operand}{bytes m:Nat}{k k':IntKind}{ty:TypeId}{pos:String}{after:Array Edge}(val:α->Value)(z:α)[mX P t e 1 bytes][aQ P e #[val z]](hx:ev fr x=some (.int k (m:Int)))(hy:ev fr y=some (.int k' (m:Int)))(hb:bytes*m<=281474976710656)(qD:m<=9223372036854775807)(hn:Nat.blt d n=true)
 (h:∀g,TL P n W ops Q rest ((d,.slice (some ⟨g,0,none⟩) m m)::fr) (L++[dU e val g m fun _=>z])):TL P n W ops Q (⟨some d,.makeSlice t x y,ty,pos,after,none⟩::rest) fr L:=
 Hb hx hy hb qD hn fun g=>by
  have:=h g;unfold dU at this;rw[Hl]at this;exact this
end
end
end bK
namespace bK
open Go.RowKit bO dc aB
def dg(x:cg):List Value:=[.int .i64 x.1,.int .i64 x.2]
def OB(x:cg):Prop:=bO.cV x.1/\bO.cV x.2
theorem Jw(l:List cg):∀u∈l.flatMap dg,u.oneCell'=true:=by
 intro u hu;obtain⟨f,_,h⟩:=List.mem_flatMap.1 hu;simp only[dg,List.mem_cons,List.not_mem_nil,or_false]at h;rcases h with rfl|rfl<;>rfl
theorem OC(f f':cg)(w:World):(Op.equalIn 10000 148 (.agg (dg f).toArray) (.agg (dg f').toArray)).run Tryz.prog w= .ok (decide (f=f')) w:=by
 obtain⟨k,q⟩:=f;obtain⟨k',q'⟩:=f';unfold dg
 go_simp
 by_cases e1:k=k'<;>by_cases e2:q=q'<;>simp[e1,e2]
def Sj:sC cg:=sQ dg 2 (fun _=>rfl) OB
def oO:sC aB.Prod:=N4 fq (bD Sj)
def cO(t n:Int)(vp:Value):Value:= .agg #[.int .i64 t,.int .i64 n,vp]
def iZ(F:Nat->Prop)(w:World)(v:Value)(g:dr):Prop:=∃vp,v=cO g.aF g.aU vp/\iB oO F w vp g.ag/\bO.cV g.aF/\bO.cV g.aU
theorem iZ.stay{F:Nat->Prop}{w w':World}{v:Value}{g:dr}(h:iZ F w v g)(hk:∀k,F k->w'.heap[k]?=w.heap[k]?):iZ F w' v g:=
 let ⟨vp,h1,h2,h3⟩:=h;⟨vp,h1,h2.stay hk,h3⟩
theorem iB.gr{α:Type}{s:sC α}{w w':World}{v:Value}{l:List α}(h:iB s (fun k=>k<w.heap.size) w v l)(hg:Gr w w'):iB s (fun k=>k<w'.heap.size) w' v l:=
 (h.stay fun k hk=>hg.block k hk).mono fun _ hk=>Nat.lt_of_lt_of_le hk hg.size
theorem iZ.gr{w w':World}{v:Value}{g:dr}(h:iZ (fun k=>k<w.heap.size) w v g)(hg:Gr w w'):iZ (fun k=>k<w'.heap.size) w' v g:=
 let ⟨vp,h1,h2,h3⟩:=h;⟨vp,h1,h2.gr hg,h3⟩
theorem jC{F:Nat->Prop}{w:World}{b off:Nat}{l:List aB.Prod}(h:∀i (h:i<l.length),∃cs,oO.is F w cs l[i]/\Rd w b (off+i*oO.c) cs){k:Nat}(hk:k<l.length):
 ∃base cap,Rd w b (off+k*2) [.int .i64 l[k].1,.slice base l[k].2.length cap]/\bO.cV l[k].1/\iB Sj F w (.slice base l[k].2.length cap) l[k].2:=by
 obtain⟨cs,⟨c1,c2,rfl,⟨rfl,jZ⟩,⟨vb,rfl,tS⟩⟩,hr⟩:=h k hk;have aaV:=tS;obtain⟨base,cap,rfl,_⟩:=aaV;exact⟨base,cap,hr,jZ,tS⟩
end bK
namespace bK
open Go.RowKit bO dc aB
theorem lD(a:cg):(dg a).length=2:=rfl
theorem q7(v:Value)(l:List cg)(w:World)(hs:Sl w v l.length (l.flatMap dg))(pO:FuncId)(first cp:Array Value)(p:cg->Bool)(Ck:Enters Tryz.prog pO)
 (hp:∀a∈l,∀w',Gr w w'->Calls Tryz.prog pO (first++#[(.agg (dg a).toArray)]++cp) w' (bM (ret (.bool (p a))) w')):
 Calls Tryz.prog 156 #[v,.func (.func pO) first cp] w (bM (ret (.int .i64 (oY p l))) w):=by
 obtain⟨base,cap,rfl,nc,mj,ef⟩:=hs;unfold maxLen at mj;refine enter (args:=[.slice base l.length cap,.func (.func pO) first cp]) (n:=19) Tryz.func156 rfl rfl rfl ?_
 try refine GA ?_
 refine dv (ι:=Nat) (fun k=>k<=l.length/\∀j (hj:j<l.length),j<k->p l[j]=false) (fun k=>[(0,.slice base l.length cap),(1,.func (.func pO) first cp),(7,.int .i64 l.length),(8,.int .i64 (k:Int))]) (fun _=>[]) (fun k=>l.length-k) 0 ⟨by omega,fun j hj h=>by omega⟩ ?_;rintro k ⟨h1,h2⟩
 by_cases c2:k<l.length
 ·obtain⟨b,off,rfl,hr⟩:=ef (by omega)
  have dF:=eN (L:=([]:List bI)) lD hr c2;have ir:=hp l[k] (List.getElem_mem c2)
  by_cases c3:p l[k]=true
  ·rw[qG c2 c3 h2]
   rw[c3]at ir;clear hp h2 ef
   repeat(first|refine GA ?_|refine gV (aC aT.eq ak.ty rfl rfl c2) ?_|refine gV (aH ak.ty rfl rfl dF) ?_)
   refine aI (zU Ck rfl rfl) (fun w hm=>ir w hm.below) rfl rfl rfl ?_;intro _ _
   try refine GA ?_
   exact db
  ·have Jp:p l[k]=false:=by simpa using c3
   rw[Jp]at ir;clear hp ef c3
   repeat(first|refine GA ?_|refine gV (aC aT.eq ak.ty rfl rfl c2) ?_|refine gV (aH ak.ty rfl rfl dF) ?_)
   refine aI (zU Ck rfl rfl) (fun w hm=>ir w hm.below) rfl rfl rfl ?_;intro _ _
   try refine GA ?_
   exact bB (k+1) ⟨by omega,fun j hj h=>if e:j<k then h2 j hj e else(by obtain rfl:j=k:=(by omega);exact Jp)⟩ (by show l.length-(k+1)<l.length-k;omega)
 ·rw[qH fun j hj=>h2 j hj (by omega)]
  clear hp h2 ef
  try refine GA ?_
  exact db
theorem nZ(v:Value)(l:List cg)(w:World)(hs:Sl w v l.length (l.flatMap dg))(pO:FuncId)(first cp:Array Value)(p:cg->Bool)(Ck:Enters Tryz.prog pO)
 (hp:∀a∈l,∀w',Gr w w'->Calls Tryz.prog pO (first++#[(.agg (dg a).toArray)]++cp) w' (bM (ret (.bool (p a))) w')):
 Calls Tryz.prog 119 #[v,.func (.func pO) first cp] w (bM (ret (.bool (l.any p))) w):=by
 refine enter (args:=[v,.func (.func pO) first cp]) (n:=9) Tryz.func119 rfl rfl rfl ?_;have hh:=fun w' (hg:Gr w w')=>q7 v l w' (hs.gr hg) pO first cp p Ck fun a ha DF s7=>hp a ha DF (hg.trans s7);have hr:=nS p l;rw[<-sP p l];generalize oY p l=r at*
 try refine GA ?_
 refine aI (eK aj.en rfl rfl rfl) (fun w hm=>hh _ hm.below) rfl rfl rfl ?_;intro _ _
 repeat(first|refine GC ?_|refine gV (dO rfl rfl rfl) ?_|refine GB ?_)
 exact db
end bK
namespace bK
open Go.RowKit bO dc aB
theorem Em(t n:Int)(vp:Value)(x:cg)(w:World):Calls Tryz.prog 121 #[cO t n vp,.agg (dg x).toArray] w (bM (ret (.bool (right t n x))) w):=by
 obtain⟨k,q⟩:=x;refine enter (args:=[cO t n vp,.agg (dg (k,q)).toArray]) (n:=31) Tryz.func121 rfl rfl rfl ?_;refine a8 (aL (a_ rfl rfl rfl fun g0=>a_ rfl rfl rfl fun g1=>?_))
 repeat' (first
  |refine QV QP ?_
  |refine QZ ?_
  |refine GJ rfl ?_
  |refine GK rfl ?_
  |refine qs rfl rfl rfl rfl rfl rfl ?_
  |(((try refine qg rfl rfl rfl ?_);first|refine QV QP ?_|refine QV (J ak.ty rfl (ah (i:=0) rfl rfl)) ?_|refine QV (J ak.ty rfl (ah (i:=1) rfl rfl)) ?_|refine QV QA ?_|refine QV QhT ?_|refine QV QhF ?_|refine QV Yr ?_|refine QV Ys ?_|refine QV QlT ?_|refine QV QlF ?_))
  |refine GZ (bQ rfl rfl rfl) rfl rfl rfl rfl rfl (fun h=>?_) (fun h=>?_)
  |refine DT (dO rfl rfl rfl) rfl rfl rfl (fun h=>?_) (fun h=>?_)
  |refine DT (bL rfl rfl rfl) rfl rfl rfl (fun h=>?_) (fun h=>?_)
  |((fail_if_success (refine kS rfl ?_));(fail_if_success (refine kT rfl ?_));refine RL rfl (fun h=>?_) (fun h=>?_))
  |((fail_if_success (refine VE rfl rfl rfl ?_));(fail_if_success (refine VF rfl rfl rfl ?_));refine KS rfl rfl rfl (fun h=>?_) (fun h=>?_)))
 all_goals (refine dx rfl rfl ?_;congr 1;unfold right;dsimp only at*;repeat (first|rw[if_pos (by omega)]|rw[if_neg (by omega)]|rw[decide_eq_true (by assumption)]|rw[decide_eq_false (by assumption)]);try rfl)
theorem Cm(t n:Int)(vp:Value)(x:cg)(g:Nat)(w:World)(hg:w.heap[g]?=some (.cells (cO t n vp).cells 33 (0,0))):
 Calls Tryz.prog 120 #[.agg (dg x).toArray,.pointer (some ⟨g,0,none⟩)] w (bM (ret (.bool (!right t n x))) w):=by
 have hcell:∀(L:List bI) (j:Nat) (v:Value),([.int .i64 t,.int .i64 n,vp]:List Value)[j]?=some v->At w L ⟨g,0+j,none⟩ v:=fun L j v hj=>iw (by
  rw[cell_of_row w g (0+j) _ _ _ hg,Nat.zero_add];show(#[.int .i64 t,.int .i64 n,vp]:Array Value)[j]?=some v
  simpa using hj)
 have hr:=Em t n vp x;refine enter (args:=[.agg (dg x).toArray,.pointer (some ⟨g,0,none⟩)]) (n:=8) Tryz.func120 rfl rfl rfl ?_;refine a8 (aL (a_ rfl rfl rfl fun g0=>?_))
 repeat(first|refine GA ?_|refine gV (aH ak.ty rfl rfl (hcell _)) ?_|refine gV (az (i:=0) ak.ty rfl rfl rfl) ?_)
 refine aI (eK aj.en rfl rfl rfl) (fun w hm=>hr w) rfl rfl rfl ?_;intro _ _
 try refine GA ?_
 exact db
theorem En{t n:Int}{l:List aB.Prod}{k:Nat}(h:k<l.length)(h0:sV t n l[k]=0):lz t n (l.drop k)=lz t n (l.drop (k+1)):=by
 rw[List.drop_eq_getElem_cons h,lz,if_neg (by simp[h0])]
theorem Eo{t n:Int}{l:List aB.Prod}{k:Nat}(h:k<l.length)(h0:sV t n l[k]≠0):lz t n (l.drop k)=sV t n l[k]:=by
 rw[List.drop_eq_getElem_cons h,lz,if_pos h0]
theorem gG(v:Value)(g:dr)(w:World)(h:iZ (fun k=>k<w.heap.size) w v g):
 Calls Tryz.prog 80 #[v] w (bM (ret (.int .i64 (cz g))) w):=by
 obtain⟨vp,rfl,h1,_⟩:=h;obtain⟨bp,cp,rfl,Jx,GM,lF⟩:=h1;unfold maxLen at GM;obtain⟨t,n,ag⟩:=g;dsimp only at*;refine enter (args:=[cO t n (.slice bp ag.length cp)]) (n:=57) Tryz.func80 rfl rfl rfl ?_;refine a8 (aL (a_ rfl rfl rfl fun g0=>?_));unfold cz;dsimp only
 by_cases c1:t<0
 ·rw[if_pos c1]
  repeat(first|refine GA ?_|refine gV (J ak.ty rfl (ah (i:=0) rfl rfl)) ?_)
  exact db
 rw[if_neg c1]
 by_cases c2:30<t
 ·rw[if_pos c2]
  repeat(first|refine GA ?_|refine gV (J ak.ty rfl (ah (i:=0) rfl rfl)) ?_)
  exact db
 rw[if_neg c2]
 by_cases c3:n<1
 ·rw[if_pos c3]
  repeat(first|refine GA ?_|refine gV (J ak.ty rfl (ah (i:=0) rfl rfl)) ?_)
  exact db
 rw[if_neg c3]
 by_cases c4:20<n
 ·rw[if_pos c4]
  repeat(first|refine GA ?_|refine gV (J ak.ty rfl (ah (i:=0) rfl rfl)) ?_)
  exact db
 rw[if_neg c4]
 by_cases c5:40<ag.length
 ·rw[if_pos c5]
  repeat(first|refine GA ?_|refine gV (J ak.ty rfl (ah (i:=0) rfl rfl)) ?_)
  exact db
 rw[if_neg c5]
 repeat(first|refine GA ?_|refine gV (J ak.ty rfl (ah (i:=0) rfl rfl)) ?_)
 refine dv (ι:=Nat) (fun k=>k<=ag.length/\lz t n ag=lz t n (ag.drop k)) (fun k=>[(1,.pointer (some ⟨g0,0,none⟩)),(30,.slice bp ag.length cp),(31,.int .i64 ag.length),(32,.int .i64 (k:Int))]) (fun _=>[aw g0 (cO t n (.slice bp ag.length cp)).cells 33]) (fun k=>ag.length-k) 0 ⟨Nat.zero_le _,rfl⟩ ?_;rintro k ⟨i1,i2⟩;rw[i2];clear i2
 by_cases c6:k<ag.length
 ·obtain⟨b,off,rfl,_,hr⟩:=lF (by omega)
  obtain⟨bb,cb,q1,q2,q3⟩:=jC hr c6;have ly:=Eo (t:=t) (n:=n) c6;have xY:=En (t:=t) (n:=n) c6;have dF:∀(L:List bI) (j:Nat) (v:Value),([.int .i64 ag[k].1,.slice bb ag[k].2.length cb]:List Value)[j]?=some v->At w L ⟨b,off+k*2+j,none⟩ v:=fun L j v hj=>f_ q1 hj;clear hr lF q1;generalize ag[k]=p at*;obtain⟨hd,body⟩:=p;have Rs:=fun w' (hg:Gr w w') (hb:w'.heap[g0]?=some (.cells (cO t n (.slice (some ⟨b,off,none⟩) ag.length cp)).cells 33 (0,0)))=>nZ (.slice bb body.length cb) body w' ((q3.flat (by decide)).gr hg) 120 #[] #[.pointer (some ⟨g0,0,none⟩)] (fun x=>!right t n x) aj.en (fun a _ DF s7=>Cm t n _ a g0 DF (by rw[s7.block g0 (Array.getElem?_eq_some_iff.1 hb).1];exact hb));dsimp only at*
  repeat(first|refine GA ?_|refine gV (aC aT.eq ak.ty rfl rfl c6) ?_|refine gV (aH ak.ty rfl rfl (dF _)) ?_)
  clear dF;refine aK rfl fun g4=>?_;refine fa 1 ?_;refine zL ?_;unfold sV at ly xY;dsimp only at ly xY
  by_cases c7:8<body.length
  ·rw[if_pos c7]at ly
   rw[ly (by decide)]
   repeat(first|refine GA ?_|refine gV (J ak.ty rfl (ah (i:=1) rfl rfl)) ?_)
   exact db
  rw[if_neg c7]at ly xY
  by_cases c8:hd<0
  ·rw[if_pos c8]at ly
   rw[ly (by decide)]
   repeat(first|refine GA ?_|refine gV (J ak.ty rfl (ah (i:=1) rfl rfl)) ?_)
   exact db
  rw[if_neg c8]at ly xY
  by_cases c9:n<=hd
  ·rw[if_pos c9]at ly
   rw[ly (by decide)]
   repeat(first|refine GA ?_|refine gV (J ak.ty rfl (ah (i:=1) rfl rfl)) ?_|refine gV (J ak.ty rfl (ah (i:=0) rfl rfl)) ?_)
   exact db
  rw[if_neg c9]at ly xY
  by_cases c10:body.any (fun x=>!right t n x)=true
  ·rw[if_pos c10]at ly
   rw[ly (by decide)];rw[c10]at Rs
   repeat(first|refine GA ?_|refine gV (J ak.ty rfl (ah (i:=1) rfl rfl)) ?_|refine gV (J ak.ty rfl (ah (i:=0) rfl rfl)) ?_|refine gV (nT rfl rfl) ?_)
   refine ky (eK aj.en rfl rfl rfl) (fun w hm=>Rs _ hm.below (hm.get (i:=0) rfl)) rfl rfl rfl rfl rfl ?_;intro _ _
   try refine GA ?_
   exact db
  ·have aaW:body.any (fun x=>!right t n x)=false:=by simpa using c10
   rw[if_neg c10]at xY;rw[aaW]at Rs
   repeat(first|refine GA ?_|refine gV (J ak.ty rfl (ah (i:=1) rfl rfl)) ?_|refine gV (J ak.ty rfl (ah (i:=0) rfl rfl)) ?_|refine gV (nT rfl rfl) ?_)
   refine ky (eK aj.en rfl rfl rfl) (fun w hm=>Rs _ hm.below (hm.get (i:=0) rfl)) rfl rfl rfl rfl rfl ?_;intro _ _
   try refine GA ?_
   refine cD [0] ?_;exact bB (k+1) ⟨by omega,xY rfl⟩ (by show ag.length-(k+1)<ag.length-k;omega)
 ·rw[List.drop_of_length_le (by omega)]
  try refine GA ?_
  exact db
end bK
namespace bK
open Go.RowKit bO dc aB
def n0(F:Nat->Prop)(vp:Value)(l:List aB.Prod):bI:=aaQ (bD oO) F [vp] l
theorem Ep{w:World}{hd:Int}{vb:Value}{body:List cg}(jZ:bO.cV hd)(hp:∀x∈body,OB x)(h:(aM 148 2 vb body.length (body.flatMap dg)).holds w):oO.is (fun k=>vb.ownBlock=some k) w [.int .i64 hd,vb] (hd,body):=
 ⟨[.int .i64 hd],[vb],rfl,⟨rfl,jZ⟩,vb,rfl,iB.of_flat (Sl.cI h) hp (fun _ h=>h) (fun a n cp hv=>by rw[hv];rfl)⟩
end bK
namespace dy
open aB
inductive Tree where
 |mk (prod tok:Int) (kids:List Tree)
def Tree.prod:Tree->Int| .mk p _ _=>p
def Tree.tok:Tree->Int| .mk _ t _=>t
def Tree.kids:Tree->List Tree| .mk _ _ k=>k
def bU(l:List aB.Prod)(p:Int):aB.Prod:=l.getD p.toNat (0,[])
mutual
def size:Tree->Nat
 | .mk _ _ kids=>UU kids+1
def UU:List Tree->Nat
 |[]=>0
 |k::r=>size k+UU r
end
mutual
def leaves:Tree->Nat
 | .mk p _ kids=>if p<0 then 1 else s8 kids
def s8:List Tree->Nat
 |[]=>0
 |k::r=>leaves k+s8 r
end
mutual
def AT(l:List aB.Prod):Tree->cg->Nat->Prop
  | .mk p k kids,x,v=>
    (x.1=1/\p= -1/\k=(v:Int)/\kids=[])\/(x.1≠1/\0<=p/\p<(l.length:Int)/\(bU l p).1=x.2/\k=0/\ul l kids (bU l p).2 v)
def ul(l:List aB.Prod):List Tree->List cg->Nat->Prop
 |[],[],_=>True
 |[],_::_,_=>False
 |_::_,[],_=>False
 |k::r,y::b,v=>AT l k y v/\ul l r b (v+leaves k)
end
inductive Wb where
 |ahead (p:Int)
 |behind (p:Int)
 |leaf (xZ tok:Int)
mutual
def cK(l:List aB.Prod):Tree->List Wb
 | .mk p _ kids=> .ahead p::(Er l kids (bU l p).2++[.behind p])
def Er(l:List aB.Prod):List Tree->List cg->List Wb
 |[],_=>[]
 |_::_,[]=>[]
 | .mk p k ks::r,y::b=>(if p<0 then [.leaf y.2 k]else cK l (.mk p k ks))++Er l r b
end
end dy
namespace dy
open aB
def Hm:Wb->Option Int
 | .leaf t _=>some t
 |_=>none
def um(l:List aB.Prod)(t:Tree):List Int:=(cK l t).filterMap Hm
def rR(l:List aB.Prod)(ks:List Tree)(b:List cg):List Int:=(Er l ks b).filterMap Hm
theorem Lt(l:List aB.Prod)(p k:Int)(kids:List Tree):um l (.mk p k kids)=rR l kids (bU l p).2:=by
 unfold um rR;rw[cK,List.filterMap_cons_none rfl,List.filterMap_append];simp[Hm]
theorem Es(l:List aB.Prod)(p k:Int)(ks r:List Tree)(y:cg)(b:List cg):rR l (.mk p k ks::r) (y::b)=(if p<0 then [y.2]else um l (.mk p k ks))++rR l r b:=by
 unfold rR um;rw[Er,List.filterMap_append]
 congr 1
 split<;>rfl
mutual
theorem AU{l:List aB.Prod}:∀{t:Tree} {x:cg} {u:Nat},AT l t x u->0<=t.prod->(um l t).length=leaves t
 | .mk p k kids,x,u,h,hp=>by
  rw[AT]at h;have hp:0<=p:=hp;rw[Lt,leaves,if_neg (by omega)];rcases h with⟨_,h,_⟩|⟨_,_,_,_,_,h⟩
  ·omega
  ·exact x6 h
theorem x6{l:List aB.Prod}:∀{ks:List Tree} {b:List cg} {u:Nat},ul l ks b u->(rR l ks b).length=s8 ks
 |[],[],_,_=>by rw[s8];simp[rR,Er]
 | .mk p k kk::r,y::b,u,h=>by
  rw[ul]at h;rw[Es,List.length_append,x6 h.2,s8]
  congr 1
  split
  ·rw[leaves,if_pos (by assumption)];rfl
  ·exact AU h.1 (by show(0:Int)<=p;omega)
 |[],_::_,_,h=>by simp[ul]at h
 |_::_,[],_,h=>by simp[ul]at h
end
end dy
namespace eo
open aB
abbrev Span:=Int×Int×Int
abbrev mE:=Span->Nat
def jg(c:mE)(w:List Int)(x:cg)(a b:Nat):Nat:=if x.1=2 then c (x.2,(a:Int),(b:Int))else if b=a+1/\w[a]?=some x.2 then 1 else 0
def dD(f:Nat->Nat):Nat->Nat
 |0=>0
 |k+1=>dD f k+f k
def jV(o:Nat->Nat->Nat)(f:Nat->Nat)(b:Nat):Nat:=min 2 (dD (fun j=>f j*o j b) (b+1))
def Et(o:cg->Nat->Nat->Nat)(a:Nat):List cg->(Nat->Nat)->Nat->Nat
 |[],f=>f
 |x::r,f=>Et o a r (jV (fun i j=>o x (a+i) (a+j)) f)
def x7(b:Nat):Nat:=if b=0 then 1 else 0
def Cn(o:cg->Nat->Nat->Nat)(l:List cg)(a b:Nat):Nat:=Et o a l x7 (b-a)
def Lu(o:cg->Nat->Nat->Nat)(a b:Nat)(n:Nat):List aB.Prod->Nat
 |[]=>0
 |p::r=>(if p.1=(n:Int)then Cn o p.2 a b else 0)+Lu o a b n r
def OD(o:cg->Nat->Nat->Nat)(l:List aB.Prod)(a b n:Nat):Nat:=min 2 (Lu o a b n l)
def lA(len:Nat)(f:Nat->Nat):List Nat:=(List.range len).map f
theorem k9(f:Nat->Nat):∀k,(∀j,j<k->f j=0)->dD f k=0
 |0,_=>rfl
 |k+1,h=>by rw[dD,k9 f k fun j hj=>h j (by omega),h k (by omega)]
theorem OE(o:Nat->Nat->Nat)(f:Nat->Nat)(b:Nat):jV o f b<=2:=Nat.min_le_left ..
theorem OF(b:Nat):x7 b<=2:=by unfold x7;split<;>omega
theorem Sk(o:cg->Nat->Nat->Nat)(l:List aB.Prod)(a b n:Nat):OD o l a b n<=2:=Nat.min_le_left ..
end eo
namespace eo
open aB
theorem uo{f f':Nat->Nat}:∀k,(∀j,j<k->f j<=f' j)->dD f k<=dD f' k
 |0,_=>Nat.le_refl _
 |k+1,h=>by
  rw[dD,dD];exact Nat.add_le_add (uo k fun j hj=>h j (by omega)) (h k (by omega))
def OG(n:Nat)(l:List aB.Prod):Prop:=∀p∈l,∀x∈p.2,x.1=2->0<=x.2/\x.2<(n:Int)
def OH(w:List Int)(l:List aB.Prod)(n:Nat)(S:mE):Prop:=∀k a b,k<n->a<=b->b<=w.length->OD (jg S w) l a b k<=S ((k:Int),(a:Int),(b:Int))
def Sm(w:List Int)(l:List aB.Prod)(n:Nat)(c:mE)(a b:Nat):Prop:=∀k,k<n->c ((k:Int),(a:Int),(b:Int))=OD (jg c w) l a b k
structure Wc(w:List Int)(l:List aB.Prod)(n:Nat)(c:mE):Prop where
 le2:∀x,c x<=2
 fixed:∀a b,a<=b->b<=w.length->Sm w l n c a b
 least:∀S,OH w l n S->∀k a b,k<n->a<=b->b<=w.length->c ((k:Int),(a:Int),(b:Int))<=S ((k:Int),(a:Int),(b:Int))
structure Sn(w:List Int)(l:List aB.Prod)(n:Nat)(D:Nat->Nat->Prop)(c:mE):Prop where
 le2:∀x,c x<=2
 fixed:∀a b,a<=b->b<=w.length->D a b->Sm w l n c a b
 least:∀S,OH w l n S->∀k a b,k<n->a<=b->b<=w.length->c ((k:Int),(a:Int),(b:Int))<=S ((k:Int),(a:Int),(b:Int))
 zero:∀k a b,k<n->a<=b->b<=w.length->¬D a b->c ((k:Int),(a:Int),(b:Int))=0
structure YN(w:List Int)(l:List aB.Prod)(n:Nat)(D:Nat->Nat->Prop)(a b:Nat)(c:mE):Prop where
 le2:∀x,c x<=2
 fixed:∀i j,i<=j->j<=w.length->D i j->Sm w l n c i j
 least:∀S,OH w l n S->∀k i j,k<n->i<=j->j<=w.length->c ((k:Int),(i:Int),(j:Int))<=S ((k:Int),(i:Int),(j:Int))
 zero:∀k i j,k<n->i<=j->j<=w.length->¬D i j->¬(i=a/\j=b)->c ((k:Int),(i:Int),(j:Int))=0
 grow:∀k,k<n->c ((k:Int),(a:Int),(b:Int))<=OD (jg c w) l a b k
section
variable{w:List Int}{l:List aB.Prod}{n:Nat}{D D':Nat->Nat->Prop}{a b:Nat}{c:mE}
theorem YN.done(h:YN w l n D a b c)(hf:Sm w l n c a b)(hD:∀i j,i<=j->j<=w.length->(D' i j↔D i j\/(i=a/\j=b))):Sn w l n D' c:=
 ⟨h.le2,fun i j h1 h2 h3=>((hD i j h1 h2).1 h3).elim (h.fixed i j h1 h2) fun⟨e1,e2⟩=>by subst e1 e2;exact hf,h.least,fun k i j hk h1 h2 h3=>by
  have:¬(D i j\/(i=a/\j=b)):=fun h=>h3 ((hD i j h1 h2).2 h);exact h.zero k i j hk h1 h2 (fun h=>this (.inl h)) fun h=>this (.inr h)⟩
theorem Sn.same(h:Sn w l n D c)(hD:∀i j,i<=j->j<=w.length->(D' i j↔D i j)):Sn w l n D' c:=
 ⟨h.le2,fun i j h1 h2 h3=>h.fixed i j h1 h2 ((hD i j h1 h2).1 h3),h.least,fun k i j hk h1 h2 h3=>h.zero k i j hk h1 h2 fun h=>h3 ((hD i j h1 h2).2 h)⟩
end
end eo
namespace eo
open aB
theorem Wc.pre{w:List Int}{l:List aB.Prod}{n:Nat}{c:mE}(h:Wc w l n c):OH w l n c:=fun k a b hk h1 h2=>by rw[<-h.fixed a b h1 h2 k hk];exact Nat.le_refl _
end eo
namespace eo
open aB
theorem jn{f g:Nat->Nat}:∀k,(∀j,j<k->f j=g j)->dD f k=dD g k
 |0,_=>rfl
 |k+1,h=>by rw[dD,dD,jn k fun j hj=>h j (by omega),h k (by omega)]
theorem Eu(f g:Nat->Nat):∀k,dD (fun j=>f j+g j) k=dD f k+dD g k
 |0=>rfl
 |k+1=>by rw[dD,dD,dD,Eu f g k];omega
theorem Ew(v:Nat)(f:Nat->Nat):∀k,dD (fun j=>v*f j) k=v*dD f k
 |0=>rfl
 |k+1=>by rw[dD,dD,Ew v f k,Nat.mul_add]
theorem AV(v:Nat)(f:Nat->Nat):∀k,dD (fun j=>f j*v) k=dD f k*v
 |0=>by simp[dD]
 |k+1=>by rw[dD,dD,AV v f k,Nat.add_mul]
theorem AW(f:Nat->Nat->Nat)(m:Nat):∀k,dD (fun i=>dD (fun j=>f i j) m) k=dD (fun j=>dD (fun i=>f i j) k) m
 |0=>by rw[dD];exact(k9 _ m fun _ _=>rfl).symm
 |k+1=>by rw[dD,AW f m k,<-Eu];rfl
theorem x8(f:Nat->Nat):∀k,dD f (k+1)=f 0+dD (fun j=>f (j+1)) k
 |0=>by simp[dD]
 |k+1=>by rw[dD,x8 f k,dD];omega
theorem rS(f:Nat->Nat)(a:Nat):∀k,dD f (a+k)=dD f a+dD (fun j=>f (a+j)) k
 |0=>by simp[dD]
 |k+1=>by rw[<-Nat.add_assoc,dD,rS f a k,dD];omega
theorem OI(f:Nat->Nat){i k:Nat}(hi:i<k)(h:∀j,j<k->j≠i->f j=0):dD f k=f i:=by
 induction k with
 |zero=>omega
 | succ k ih=>
  rw[dD]
  by_cases e:i=k
  ·subst e
   rw[k9 f i fun j hj=>h j (by omega) (by omega),Nat.zero_add]
  ·rw[ih (by omega) fun j hj=>h j (by omega),h k (by omega) (fun e'=>e e'.symm),Nat.add_zero]
theorem OJ(f:Nat->Nat->Nat)(d:Nat):dD (fun j=>dD (fun i=>f i j) (j+1)) (d+1)=dD (fun i=>dD (fun k=>f i (i+k)) (d-i+1)) (d+1):=by
 have h1:dD (fun j=>dD (fun i=>f i j) (j+1)) (d+1)=dD (fun j=>dD (fun i=>if i<=j then f i j else 0) (d+1)) (d+1):=by
  refine jn _ fun j hj=>?_;rw[show d+1=(j+1)+(d-j)by omega,rS (fun i=>if i<=j then f i j else 0)];rw[k9 (fun q=>if j+1+q<=j then f (j+1+q) j else 0) _ fun q _=>if_neg (by omega),Nat.add_zero];exact jn _ fun i hi=>(if_pos (by omega)).symm
 rw[h1,AW];refine jn _ fun i hi=>?_;rw[show d+1=i+(d-i+1)by omega,rS,k9 _ i fun j hj=>if_neg (by omega),Nat.zero_add];exact jn _ fun k _=>if_pos (by omega)
def s9(o:cg->Nat->Nat->Nat):List cg->Nat->Nat->Nat
 |[],a,b=>if a=b then 1 else 0
 |x::r,a,b=>dD (fun i=>o x a (a+i)*s9 o r (a+i) b) (b-a+1)
theorem Jy(f g:Nat->Nat):∀k,(∀j,j<k->min 2 (f j)=min 2 (g j))->min 2 (dD f k)=min 2 (dD g k)
 |0,_=>rfl
 |k+1,h=>by
  have h1:=Jy f g k fun j hj=>h j (by omega);have h2:=h k (by omega);rw[dD,dD];omega
theorem Sq(u v:Nat):min 2 (min 2 u*v)=min 2 (u*v):=by
 by_cases h:u<=2
 ·have e:min 2 u=u:=by omega
  rw[e]
 ·have e:min 2 u=2:=by omega
  rw[e]
  by_cases hv:v=0
  ·subst hv;simp
  ·have:2<=2*v:=by omega
   have h2:2*v<=u*v:=Nat.mul_le_mul_right v (by omega);omega
theorem Jz(o:cg->Nat->Nat->Nat)(a:Nat):∀(l:List cg) (f:Nat->Nat) (d:Nat),(∀j,f j<=2)->Et o a l f d=min 2 (dD (fun i=>f i*s9 o l (a+i) (a+d)) (d+1))
  | [],f,d,h=>by
    rw[Et,OI _ (show d<d+1 by omega) fun j _ hj=>by rw[s9,if_neg (by omega),Nat.mul_zero],s9,if_pos rfl,Nat.mul_one];have:=h d;omega
  | x ::r,f,d,h=>by
    rw[Et,Jz o a r _ d (OE _ _)];have h1:min 2 (dD (fun i=>jV (fun i j=>o x (a+i) (a+j)) f i*s9 o r (a+i) (a+d)) (d+1))=min 2 (dD (fun j=>dD (fun i=>f i*o x (a+i) (a+j)*s9 o r (a+j) (a+d)) (j+1)) (d+1)):=Jy _ _ _ fun j _=>by
      rw[AV];exact Sq _ _
    rw[h1,OJ (fun i j=>f i*o x (a+i) (a+j)*s9 o r (a+j) (a+d))]
    congr 1
    refine jn _ fun i hi=>?_;rw[s9,<-Ew,show a+d-(a+i)=d-i by omega];refine jn _ fun k _=>?_;rw[Nat.mul_assoc,Nat.add_assoc]
theorem Hn(o:cg->Nat->Nat->Nat)(l:List cg){a b:Nat}(h:a<=b):Cn o l a b=min 2 (s9 o l a b):=by
 unfold Cn;rw[Jz o a l x7 _ OF,x8];rw[k9 (fun j=>x7 (j+1)*s9 o l (a+(j+1)) (a+(b-a))) _ fun j _=>by simp[x7]];rw[show a+(b-a)=b by omega];simp[x7]
end eo
namespace eo
open aB dy
def lG(n:Nat)(l:List aB.Prod):Prop:=∀p∈l,0<=p.1/\p.1<(n:Int)/\∀x∈p.2,x.1=1\/(x.1=2/\0<=x.2/\x.2<(n:Int))
theorem Lv{g:dr}{n:Nat}(h:cz g=0)(hn:g.aU=n):lG n g.ag:=fun p hp=>by
 obtain⟨_,_,_,_,_,a6⟩:=bV h;obtain⟨b1,b2,b3,b4⟩:=a6 p hp;refine⟨b2,by omega,fun x hx=>?_⟩;have:=b4 x hx;unfold right at this;split at this
 ·exact .inl (by assumption)
 ·split at this
  ·simp at this;exact .inr ⟨by assumption,by omega,by omega⟩
  ·simp at this
theorem lG.aU{n:Nat}{l:List aB.Prod}(h:lG n l):OG n l:=fun p hp x hx h2=>by
 rcases(h p hp).2.2 x hx with h|h
 ·omega
 ·exact h.2
theorem rT{l:List aB.Prod}{p:Int}(h0:0<=p)(h:p<(l.length:Int)):bU l p∈l:=by
 unfold bU;rw[List.getD_eq_getElem?_getD,List.getElem?_eq_getElem (by omega)];exact List.getElem_mem _
def Ho(l:List aB.Prod)(t:Tree)(x:cg):List Int:=if t.prod<0 then [x.2]else um l t
theorem Hp{l:List aB.Prod}{t:Tree}{x:cg}{u:Nat}(h:AT l t x u):(Ho l t x).length=leaves t:=by
 unfold Ho;split
 ·obtain⟨p,k,ks⟩:=t
  rw[leaves,if_pos (by assumption)];rfl
 ·exact AU h (by omega)
section
end
end eo
namespace eo
open aB dy
def We(o:cg->Nat->Nat->Nat)(y:cg)(r:List cg)(a b m:Nat):Bool:=decide (0<o y a m)&&decide (0<Cn o r m b)
section
variable{o:cg->Nat->Nat->Nat}{l:List aB.Prod}{x:cg}{a b:Nat}
theorem Ex{f:Nat->Nat}:∀{k:Nat},0<dD f k->∃i,i<k/\0<f i
  |0,h=>by simp[dD]at h
  | k +1,h=>by
    rw[dD]at h
    by_cases c:0<f k
    · exact⟨k,by omega,c⟩
    · obtain⟨i,h1,h2⟩:=Ex (f:=f) (k:=k) (by omega)
      exact⟨i,by omega,h2⟩
theorem Sr{y:cg}{r:List cg}(x9:a<=b)(h:0<Cn o (y::r) a b):∃m,a<=m/\m<=b/\We o y r a b m=true:=by
 rw[Hn _ _ x9,s9]at h;obtain⟨i,h1,h2⟩:=Ex (f:=fun i=>o y a (a+i)*s9 o r (a+i) b) (k:=b-a+1) (by omega);have h2:0<o y a (a+i)*s9 o r (a+i) b:=h2;refine⟨a+i,by omega,by omega,?_⟩;unfold We;rw[Hn _ _ (by omega:a+i<=b)];rw[Bool.and_eq_true,decide_eq_true_iff,decide_eq_true_iff];exact⟨Nat.pos_of_mul_pos_right h2,by have:=Nat.pos_of_mul_pos_left h2;omega⟩
theorem Ey{n:Nat}:∀{l:List aB.Prod},0<Lu o a b n l->∃k,k<l.length/\(bU l (k:Int)).1=(n:Int)/\0<Cn o (bU l (k:Int)).2 a b
  |[],h=>by simp[Lu]at h
  | p ::r,h=>by
    rw[Lu]at h
    by_cases c:p.1=(n:Int)/\0<Cn o p.2 a b
    · exact⟨0,by simp,c.1,c.2⟩
    · have:0<Lu o a b n r:=by
        by_cases c1:p.1=(n:Int)
        · rw[if_pos c1]at h
          have:¬0<Cn o p.2 a b:=fun h=>c ⟨c1,h⟩;omega
        · rw[if_neg c1]at h;omega
      obtain⟨k,h1,h2,h3⟩:=Ey this;exact⟨k+1,by simpa using h1,h2,h3⟩
theorem rU{k:Nat}(h:k<l.length):bU l (k:Int)=l[k]:=by
 unfold bU;rw[Int.toNat_natCast,List.getD_eq_getElem?_getD,List.getElem?_eq_getElem h];rfl
end
section
end
end eo
namespace cL
open aB
def eu(l:List Bool)(i:Nat)(b:Bool):List Bool×Bool:=if b=true/\l.getD i false=false then(l.set i true,true)else(l,false)
def lH(l:List Bool)(body:List cg)(aF:Bool):Bool:=body.all fun x=>if x.1=1 then aF else if x.1=2 then l.getD x.2.toNat false else true
def kN(l:List Nat)(i:Nat)(b:Nat):List Nat×Bool:=(l.set i (l.getD i 0|||b),!decide ((l.getD i 0|||b)=l.getD i 0))
def jD(E:List Bool)(F:List Nat)(behind:Nat):List cg->Nat->Nat
 |[],out=>out|||behind
 |x::r,out=>if x.1=1 then out|||2^x.2.toNat else if E.getD x.2.toNat false=true then jD E F behind r (out|||F.getD x.2.toNat 0)else out|||F.getD x.2.toNat 0
def eA(E:List Bool)(F:List Nat)(body:List cg)(behind:Nat):Nat:=jD E F behind body 0
theorem kf(l:List Bool)(i:Nat)(b:Bool):(eu l i b).1.length=l.length:=by
 unfold eu;split<;>simp
theorem OK(l:List Nat)(i:Nat)(b:Nat):(kN l i b).1.length=l.length:=by
 simp[kN]
structure FS where
 E:List Bool
 R:List Bool
 M:List Bool
 more:Bool
def uW(h:Nat)(x:cg)(R:List Bool)(more:Bool):List Bool×Bool:=if x.1=2 then((eu R x.2.toNat (R.getD h false)).1,(eu R x.2.toNat (R.getD h false)).2||more)else(R,more)
def kg(h:Nat):List cg->List Bool->Bool->List Bool×Bool
 |[],R,more=>(R,more)
 |x::r,R,more=>kg h r (uW h x R more).1 (uW h x R more).2
def lI(p:aB.Prod)(s:FS):FS:=
 let h:=p.1.toNat
 let a:=eu s.E h (lH s.E p.2 false)
 let b:=eu s.M h (lH s.M p.2 true)
 let c:=kg h p.2 s.R (b.2||(a.2||s.more))
 ⟨a.1,c.1,b.1,c.2⟩
def eU:List aB.Prod->FS->FS
 |[],s=>s
 |p::r,s=>eU r (lI p s)
theorem Lw(h:Nat)(x:cg)(R:List Bool)(more:Bool):(uW h x R more).1.length=R.length:=by
 unfold uW;split
 ·exact kf _ _ _
 ·rfl
theorem x_(h:Nat):∀(body:List cg) (R:List Bool) (more:Bool),(kg h body R more).1.length=R.length
 |[],_,_=>rfl
 |x::r,R,more=>by rw[kg,x_ h r,Lw]
def lJ(l:List Bool):Nat:=l.countP id
theorem Ez{l:List Bool}{i:Nat}{b:Bool}(hi:i<l.length):lJ (eu l i b).1=lJ l+(if(eu l i b).2=true then 1 else 0):=by
 unfold eu;split
 ·rename_i c
  have h0:l[i]=false:=by
   have:=c.2;rw[List.getD_eq_getElem?_getD,List.getElem?_eq_getElem hi]at this
   simpa using this
  unfold lJ;rw[List.countP_set hi];simp[h0]
 ·simp
end cL
namespace cL
open aB
def Hq{σ:Type}(step:σ->σ×Bool):Nat->σ->σ
 |0,s=>s
 |f+1,s=>if(step s).2=true then Hq step f (step s).1 else(step s).1
structure ya{σ:Type}(step:σ->σ×Bool)(ok:σ->Prop)(μ:σ->Nat):Prop where
 keep:∀s,ok s->ok (step s).1
 dec:∀s,ok s->(step s).2=true->μ (step s).1<μ s
def fix{σ:Type}(step:σ->σ×Bool)(μ:σ->Nat)(s:σ):σ:=Hq step (μ s+1) s
section
variable{σ:Type}{step:σ->σ×Bool}{ok:σ->Prop}{μ:σ->Nat}
theorem AX(h:ya step ok μ):∀(f g:Nat) (s:σ),ok s->μ s<f->μ s<g->Hq step f s=Hq step g s
  |0,_,_,_,h1,_=>by omega
  |_,0,_,_,_,h2=>by omega
  | f +1,g+1,s,hs,h1,h2=>by
    unfold Hq
    by_cases c:(step s).2=true
    · rw[if_pos c,if_pos c]
      have:=h.dec s hs c;exact AX h f g _ (h.keep s hs) (by omega) (by omega)
    · rw[if_neg c,if_neg c]
theorem Co(h:ya step ok μ){s:σ}(hs:ok s)(c:(step s).2=true):fix step μ s=fix step μ (step s).1:=by
 have:=h.dec s hs c;unfold fix;rw[Hq,if_pos c];exact AX h _ _ _ (h.keep s hs) (by omega) (by omega)
theorem s_{s:σ}(c:(step s).2=false):fix step μ s=(step s).1:=by
 unfold fix;rw[Hq,if_neg (by rw[c];decide)]
theorem ta(h:ya step ok μ):∀(k:Nat) (s:σ),ok s->μ s<=k->∃s',ok s'/\(step s').2=false/\fix step μ s=(step s').1
  | k,s,hs,hk=>by
    by_cases c:(step s).2=true
    · have hd:=h.dec s hs c
      match k with
      |0=>omega
      | k+1=>
        obtain⟨s',h1,h2,h3⟩:=ta h k (step s).1 (h.keep s hs) (by omega);exact⟨s',h1,h2,by rw[Co h hs c,h3]⟩
    · have c':(step s).2=false:=by simpa using c
      exact⟨s,hs,c',s_ c'⟩
end
def AY(E:List Bool)(M:List Bool)(p:aB.Prod)(F:List Nat)(more:Bool):List Nat×Bool:=
 if lH M p.2 true=true then((kN F p.1.toNat (eA E F p.2 0)).1,(kN F p.1.toNat (eA E F p.2 0)).2||more)else(F,more)
def ni(E M:List Bool):List aB.Prod->List Nat->Bool->List Nat×Bool
 |[],F,more=>(F,more)
 |p::r,F,more=>ni E M r (AY E M p F more).1 (AY E M p F more).2
def fR(E:List Bool)(F:List Nat)(h:Nat)(x:cg)(r:List cg)(W:List Nat)(more:Bool):List Nat×Bool:=
 if x.1=2 then((kN W x.2.toNat (eA E F r (W.getD h 0))).1,(kN W x.2.toNat (eA E F r (W.getD h 0))).2||more)else(W,more)
def gH(E:List Bool)(F:List Nat)(h:Nat):List cg->List Nat->Bool->List Nat×Bool
 |[],W,more=>(W,more)
 |x::r,W,more=>gH E F h r (fR E F h x r W more).1 (fR E F h x r W more).2
def kE(E:List Bool)(F:List Nat):List aB.Prod->List Nat->Bool->List Nat×Bool
 |[],W,more=>(W,more)
 |p::r,W,more=>kE E F r (gH E F p.1.toNat p.2 W more).1 (gH E F p.1.toNat p.2 W more).2
def kh(l:List Nat):Nat:=(l.map fun x=>18446744073709551616-x).sum
def tU(n:Nat)(l:List Nat):Prop:=l.length=n/\∀x∈l,x<18446744073709551616
theorem kY{n:Nat}{l:List Nat}(h:tU n l)(i:Nat):l.getD i 0<18446744073709551616:=by
 rw[List.getD_eq_getElem?_getD]
 cases e:l[i]? with
 |none=>decide
 |some y=>exact h.2 y (List.mem_of_getElem? e)
theorem qL{x y:Nat}(hx:x<18446744073709551616)(hy:y<18446744073709551616):x|||y<18446744073709551616:=Nat.or_lt_two_pow (n:=64) hx hy
theorem wN{n:Nat}{l:List Nat}{i b:Nat}(h:tU n l)(hb:b<18446744073709551616):tU n (kN l i b).1:=by
 refine⟨by rw[OK];exact h.1,fun x hx=>?_⟩;rcases List.mem_or_eq_of_mem_set hx with h1|rfl
 ·exact h.2 x h1
 ·exact qL (kY h i) hb
theorem JA:∀(l:List Nat) (i:Nat) (y:Nat) (h:i<l.length),((l.set i y).map fun x=>18446744073709551616-x).sum+(18446744073709551616-l[i])=(l.map fun x=>18446744073709551616-x).sum+(18446744073709551616-y)
 |a::r,0,y,h=>by simp;omega
 |a::r,i+1,y,h=>by
  have:=JA r i y (by simpa using h);simp at this⊢;omega
theorem AZ{n:Nat}{l:List Nat}{i b:Nat}(h:tU n l)(hi:i<n)(hb:b<18446744073709551616):kh (kN l i b).1<=kh l/\((kN l i b).2=true->kh (kN l i b).1<kh l):=by
 have RV:i<l.length:=by rw[h.1];exact hi
 have hs:=JA l i (l.getD i 0|||b) RV;have e:l.getD i 0=l[i]:=by rw[List.getD_eq_getElem?_getD,List.getElem?_eq_getElem RV];rfl
 have h1:l[i]<=l.getD i 0|||b:=by rw[e];exact Nat.left_le_or
 have h2:=qL (kY h i) hb;have h3:=h.2 _ (List.getElem_mem RV);unfold kh kN;dsimp only;refine⟨by omega,fun hc=>?_⟩;simp only[Bool.not_eq_true',decide_eq_false_iff_not]at hc;omega
theorem k_{E:List Bool}{F:List Nat}{n:Nat}{body:List cg}{behind:Nat}(hF:tU n F)(hb:behind<18446744073709551616)(hx:∀x∈body,x.1=1->x.2.toNat<64):eA E F body behind<18446744073709551616:=by
  have key:∀(body:List cg) (out:Nat),out<18446744073709551616->(∀x∈body,x.1=1->x.2.toNat<64)->jD E F behind body out<18446744073709551616:=by
    intro body
    induction body with
    |nil=>intro out h _;exact qL h hb
    | cons x r ih=>
      intro out h hx;unfold jD;split
      · rename_i c
        have hp:(2:Nat)^x.2.toNat<2^64:=Nat.pow_lt_pow_right (by decide) (hx x (by simp) c);exact qL h (by simpa using hp)
      · split
        · exact ih _ (qL h (kY hF _)) fun y hy=>hx y (by simp[hy])
        · exact qL h (kY hF _)
  exact key body 0 (by decide) hx
structure yb(n:Nat)(l:List aB.Prod):Prop where
 head:∀p∈l,0<=p.1/\p.1.toNat<n
 xZ:∀p∈l,∀x∈p.2,x.1=1->0<=x.2/\x.2.toNat<64
 Rt:∀p∈l,∀x∈p.2,x.1≠1->x.1=2/\0<=x.2/\x.2.toNat<n
theorem tb{g:dr}{n:Nat}(h:cz g=0)(hn:g.aU=n):yb n g.ag:=by
 obtain⟨a,b,c,d,e,f⟩:=bV h;refine⟨fun p hp=>?_,fun p hp x hx io=>?_,fun p hp x hx io=>?_⟩
 ·have:=f p hp;omega
 ·have:=(f p hp).2.2.2 x hx
  unfold right at this;rw[if_pos io]at this;simp at this;omega
 ·have:=(f p hp).2.2.2 x hx
  unfold right at this;rw[if_neg io]at this;split at this
  ·rename_i h2
   simp at this;exact⟨h2,by omega,by omega⟩
  ·simp at this
theorem yb.tail{n:Nat}{p:aB.Prod}{l:List aB.Prod}(h:yb n (p::l)):yb n l:=
 ⟨fun q hq=>h.head q (by simp[hq]),fun q hq=>h.xZ q (by simp[hq]),fun q hq=>h.Rt q (by simp[hq])⟩
theorem pP{E M:List Bool}{n:Nat}:∀(l:List aB.Prod) (F:List Nat) (more:Bool),yb n l->tU n F->tU n (ni E M l F more).1/\kh (ni E M l F more).1<=kh F/\((ni E M l F more).2=true->more=true\/kh (ni E M l F more).1<kh F)
  |[],F,more,_,h=>⟨h,Nat.le_refl _,fun c=> .inl c⟩
  | p ::r,F,more,hf,h=>by
    have hb:eA E F p.2 0<18446744073709551616:=k_ h (by decide) fun x hx io=>(hf.xZ p (by simp) x hx io).2;have hh:=hf.head p (by simp);rw[ni];unfold AY;split
    · have h1:=wN (i:=p.1.toNat) h hb
      have h2:=AZ h hh.2 hb;obtain⟨k1,k2,k3⟩:=pP r (kN F p.1.toNat (eA E F p.2 0)).1 ((kN F p.1.toNat (eA E F p.2 0)).2||more) hf.tail h1;refine⟨k1,Nat.le_trans k2 h2.1,fun c=>?_⟩;rcases k3 c with c2|c2
      · rw[Bool.or_eq_true]at c2
        rcases c2 with c2|c2
        · exact .inr (Nat.lt_of_le_of_lt k2 (h2.2 c2))
        · exact .inl c2
      · exact .inr (Nat.lt_of_lt_of_le c2 h2.1)
    · exact pP r F more hf.tail h
theorem A0{E:List Bool}{F:List Nat}{n h:Nat}(hF:tU n F)(hh:h<n):∀(body:List cg) (W:List Nat) (more:Bool),(∀x∈body,x.1=1->x.2.toNat<64)->(∀x∈body,x.1=2->x.2.toNat<n)->tU n W->tU n (gH E F h body W more).1/\kh (gH E F h body W more).1<=kh W/\((gH E F h body W more).2=true->more=true\/kh (gH E F h body W more).1<kh W)
  |[],W,more,_,_,hW=>⟨hW,Nat.le_refl _,fun c=> .inl c⟩
  | x ::r,W,more,ht,hx,hW=>by
    have hb:eA E F r (W.getD h 0)<18446744073709551616:=k_ hF (kY hW h) fun y hy=>ht y (by simp[hy]);have tl:=fun W more=>A0 (E:=E) hF hh r W more (fun y hy=>ht y (by simp[hy])) (fun y hy=>hx y (by simp[hy]));rw[gH];unfold fR;split
    · rename_i c0
      have h1:=wN (i:=x.2.toNat) hW hb;have h2:=AZ hW (hx x (by simp) c0) hb;obtain⟨k1,k2,k3⟩:=tl (kN W x.2.toNat (eA E F r (W.getD h 0))).1 ((kN W x.2.toNat (eA E F r (W.getD h 0))).2||more) h1;refine⟨k1,Nat.le_trans k2 h2.1,fun c=>?_⟩;rcases k3 c with c2|c2
      · rw[Bool.or_eq_true]at c2
        rcases c2 with c2|c2
        · exact .inr (Nat.lt_of_le_of_lt k2 (h2.2 c2))
        · exact .inl c2
      · exact .inr (Nat.lt_of_lt_of_le c2 h2.1)
    · exact tl W more hW
theorem tc{E:List Bool}{F:List Nat}{n:Nat}(hF:tU n F):∀(l:List aB.Prod) (W:List Nat) (more:Bool),yb n l->tU n W->tU n (kE E F l W more).1/\kh (kE E F l W more).1<=kh W/\((kE E F l W more).2=true->more=true\/kh (kE E F l W more).1<kh W)
  |[],W,more,_,h=>⟨h,Nat.le_refl _,fun c=> .inl c⟩
  | p ::r,W,more,hf,h=>by
    rw[kE];obtain⟨a1,a2,a3⟩:=A0 (E:=E) hF (hf.head p (by simp)).2 p.2 W more (fun x hx h1=>(hf.xZ p (by simp) x hx h1).2) (fun x hx h2=>(hf.Rt p (by simp) x hx (by omega)).2.2) h;obtain⟨k1,k2,k3⟩:=tc hF r (gH E F p.1.toNat p.2 W more).1 (gH E F p.1.toNat p.2 W more).2 hf.tail a1;refine⟨k1,Nat.le_trans k2 a2,fun c=>?_⟩;rcases k3 c with c2|c2
    · rcases a3 c2 with c3|c3
      · exact .inl c3
      · exact .inr (Nat.lt_of_le_of_lt k2 c3)
    · exact .inr (Nat.lt_of_lt_of_le c2 a2)
theorem Hr{E M:List Bool}{n:Nat}{l:List aB.Prod}(hf:yb n l):ya (fun F=>ni E M l F false) (tU n) kh:=
 ⟨fun s hs=>(pP l s false hf hs).1,fun s hs c=>by
  rcases(pP (E:=E) (M:=M) l s false hf hs).2.2 c with h|h
  ·cases h
  ·exact h⟩
theorem OL{E:List Bool}{F:List Nat}{n:Nat}{l:List aB.Prod}(hF:tU n F)(hf:yb n l):ya (fun W=>kE E F l W false) (tU n) kh:=
 ⟨fun s hs=>(tc hF l s false hf hs).1,fun s hs c=>by
  rcases(tc (E:=E) hF l s false hf hs).2.2 c with h|h
  ·cases h
  ·exact h⟩
end cL
namespace cL
open aB
def OM(n:Nat)(s:FS):Prop:=s.E.length=n/\s.R.length=n/\s.M.length=n
def had(s:FS):Nat:=lJ s.E+lJ s.R+lJ s.M
def EA(l:List aB.Prod)(s:FS):FS×Bool:=(eU l ⟨s.E,s.R,s.M,false⟩,(eU l ⟨s.E,s.R,s.M,false⟩).more)
theorem yc(l:List Bool):lJ l<=l.length:=List.countP_le_length
theorem rW{l:List Bool}{i:Nat}{b:Bool}(hi:i<l.length):lJ l<=lJ (eu l i b).1/\((eu l i b).2=true->lJ l<lJ (eu l i b).1):=by
 have:=Ez (b:=b) hi;refine⟨by split at this<;>omega,fun h=>?_⟩;rw[if_pos h]at this;omega
theorem uX{h n:Nat}:∀(body:List cg) (R:List Bool) (more:Bool),(∀x∈body,x.1=2->x.2.toNat<n)->R.length=n->lJ R<=lJ (kg h body R more).1/\((kg h body R more).2=true->more=true\/lJ R<lJ (kg h body R more).1)
  |[],R,more,_,_=>⟨Nat.le_refl _,fun c=> .inl c⟩
  | x ::r,R,more,hx,hR=>by
    rw[kg];have ih:=fun R more=>uX (h:=h) r R more fun y hy=>hx y (by simp[hy]);unfold uW;split
    · rename_i c0
      have hg:=rW (b:=R.getD h false) (show x.2.toNat<R.length by rw[hR];exact hx x (by simp) c0);have hl:=kf R x.2.toNat (R.getD h false);generalize eu R x.2.toNat (R.getD h false)=a at*;obtain⟨R2,m2⟩:=a;dsimp only at*;obtain⟨k1,k2⟩:=ih R2 (m2||more) (by omega);refine⟨by omega,fun c=>?_⟩;rcases k2 c with c2|c2
      · rw[Bool.or_eq_true]at c2
        rcases c2 with c2|c2
        · have:=hg.2 c2
          exact .inr (by omega)
        · exact .inl c2
      · exact .inr (by omega)
    · exact ih R more hR
theorem EB{n:Nat}{p:aB.Prod}{s:FS}(hp:p.1.toNat<n)(hx:∀x∈p.2,x.1=2->x.2.toNat<n)(h:OM n s):OM n (lI p s)/\had s<=had (lI p s)/\((lI p s).more=true->s.more=true\/had s<had (lI p s)):=by
 obtain⟨E,R,M,more⟩:=s;obtain⟨h1,h2,h3⟩:=h;unfold lI OM had;dsimp only at*;have e1:=rW (b:=lH E p.2 false) (show p.1.toNat<E.length by omega);have e2:=kf E p.1.toNat (lH E p.2 false);have m1:=rW (b:=lH M p.2 true) (show p.1.toNat<M.length by omega);have m2:=kf M p.1.toNat (lH M p.2 true);generalize eu E p.1.toNat (lH E p.2 false)=a at*;generalize eu M p.1.toNat (lH M p.2 true)=b at*;obtain⟨E2,ce⟩:=a;obtain⟨M2,cm⟩:=b;dsimp only at*;have r1:=uX (h:=p.1.toNat) p.2 R (cm||(ce||more)) hx h2;have r2:=x_ p.1.toNat p.2 R (cm||(ce||more));generalize kg p.1.toNat p.2 R (cm||(ce||more))=c at*;obtain⟨R2,cr⟩:=c;dsimp only at*;refine⟨⟨by omega,by omega,by omega⟩,by omega,fun hc=>?_⟩;rcases r1.2 hc with h4|h4
 ·rw[Bool.or_eq_true,Bool.or_eq_true]at h4
  rcases h4 with h4|h4|h4
  ·have:=m1.2 h4
   exact .inr (by omega)
  ·have:=e1.2 h4
   exact .inr (by omega)
  ·exact .inl h4
 ·exact .inr (by omega)
theorem mF{n:Nat}:∀(l:List aB.Prod) (s:FS),yb n l->OM n s->OM n (eU l s)/\had s<=had (eU l s)/\((eU l s).more=true->s.more=true\/had s<had (eU l s))
  |[],s,_,h=>⟨h,Nat.le_refl _,fun c=> .inl c⟩
  | p ::r,s,hf,h=>by
    rw[eU];obtain⟨a1,a2,a3⟩:=EB (s:=s) (hf.head p (by simp)).2 (fun x hx h2=>(hf.Rt p (by simp) x hx (by omega)).2.2) h;obtain⟨k1,k2,k3⟩:=mF r (lI p s) hf.tail a1;refine⟨k1,by omega,fun c=>?_⟩;rcases k3 c with c2|c2
    · rcases a3 c2 with c3|c3
      · exact .inl c3
      · exact .inr (by omega)
    · exact .inr (by omega)
theorem Wf{n:Nat}{s:FS}(h:OM n s):had s<=3*n:=by
 have a:=yc s.E;have b:=yc s.R;have c:=yc s.M;obtain⟨h1,h2,h3⟩:=h;unfold had;omega
def uY(n:Nat)(s:FS):Nat:=3*n-had s
theorem yd{n:Nat}{l:List aB.Prod}(hf:yb n l):ya (EA l) (OM n) (uY n):=
 ⟨fun s hs=>(mF l ⟨s.E,s.R,s.M,false⟩ hf hs).1,fun s hs c=>by
  have h:=mF l ⟨s.E,s.R,s.M,false⟩ hf hs;have h2:=Wf h.1;rcases h.2.2 c with h3|h3
  ·cases h3
  ·have e:had ⟨s.E,s.R,s.M,false⟩=had s:=rfl
   show 3*n-had (eU l ⟨s.E,s.R,s.M,false⟩)<3*n-had s
   omega⟩
end cL
namespace cL
open aB
theorem ON(l:List Nat)(i:Nat):l.set i (l.getD i 0)=l:=by
 by_cases h:i<l.length
 ·have e:l.getD i 0=l[i]:=by rw[List.getD_eq_getElem?_getD,List.getElem?_eq_getElem h];rfl
  rw[e,List.set_getElem_self]
 ·rw[List.set_eq_of_length_le (by omega)]
end cL
namespace cL
open aB dy
theorem n9{E:List Bool}{F:List Nat}{h:Nat}:∀(body:List cg) (W:List Nat) (more:Bool),(gH E F h body W more).2=false->more=false/\(gH E F h body W more).1=W/\∀pre x post,body=pre++x::post->x.1=2->W.getD x.2.toNat 0|||eA E F post (W.getD h 0)=W.getD x.2.toNat 0
  |[],W,more,hm=>⟨hm,rfl,fun pre x post e=>by simp at e⟩
  | y ::r,W,more,hm=>by
    rw[gH]at hm⊢;unfold fR at hm⊢
    by_cases c:y.1=2
    · rw[if_pos c]at hm⊢
      obtain⟨h1,h2,h3⟩:=n9 r _ _ hm;rw[Bool.or_eq_false_iff]at h1;have h4:W.getD y.2.toNat 0|||eA E F r (W.getD h 0)=W.getD y.2.toNat 0:=by
        have:=h1.1;unfold kN at this
        simpa using this
      have h5:(kN W y.2.toNat (eA E F r (W.getD h 0))).1=W:=by
        unfold kN;dsimp only;rw[h4,ON]
      rw[h2];dsimp only at h3⊢;rw[h5]at h3⊢;refine⟨h1.2,rfl,fun pre x post e hx=>?_⟩
      match pre,e with
      | [],e=>
        simp only[List.nil_append,List.cons.injEq]at e;obtain⟨rfl,rfl⟩:=e;exact h4
      | z::pre,e=>
        simp only[List.cons_append,List.cons.injEq]at e;exact h3 pre x post e.2 hx
    · rw[if_neg c]at hm⊢
      obtain⟨h1,h2,h3⟩:=n9 r _ _ hm;refine⟨h1,h2,fun pre x post e hx=>?_⟩
      match pre,e with
      | [],e=>
        simp only[List.nil_append,List.cons.injEq]at e;obtain⟨rfl,rfl⟩:=e;exact absurd hx c
      | z::pre,e=>
        simp only[List.cons_append,List.cons.injEq]at e;exact h3 pre x post e.2 hx
theorem uZ{E:List Bool}{F:List Nat}:∀(l:List aB.Prod) (W:List Nat) (more:Bool),(kE E F l W more).2=false->more=false/\(kE E F l W more).1=W/\∀p∈l,∀pre x post,p.2=pre++x::post->x.1=2->W.getD x.2.toNat 0|||eA E F post (W.getD p.1.toNat 0)=W.getD x.2.toNat 0
 |[],W,more,hm=>⟨hm,rfl,fun p hp=>by cases hp⟩
 |p::r,W,more,hm=>by
  rw[kE]at hm⊢;obtain⟨h1,h2,h3⟩:=uZ r _ _ hm;obtain⟨k1,k2,k3⟩:=n9 p.2 W more h1;rw[k2]at h2 h3⊢;refine⟨k1,h2,fun q hq=>?_⟩;rcases List.mem_cons.1 hq with rfl|hq
  ·exact k3
  ·exact h3 q hq
end cL
namespace rX
open aB dy eo cL
mutual
inductive zW(l:List aB.Prod):cg->List Int->Prop
 |xZ {x:cg} (h:x.1=1):zW l x [x.2]
 |Rt {x:cg} {p:aB.Prod} {ws:List Int} (h:x.1≠1) (hp:p∈l) (hx:p.1=x.2) (hd:nj l p.2 ws):zW l x ws
inductive nj(l:List aB.Prod):List cg->List Int->Prop
 |nil:nj l [] []
 |cons {y:cg} {r:List cg} {a b:List Int} (h1:zW l y a) (h2:nj l r b):nj l (y::r) (a++b)
end
theorem nj.Ly{l:List aB.Prod}:∀{r r':List cg} {a b:List Int},nj l r a->nj l r' b->nj l (r++r') (a++b)
 |[],_,_,_,.nil,h=>h
 |_::_,_,_,_,.cons h1 h2,h=>by rw[List.append_assoc];exact .cons h1 (nj.Ly h2 h)
theorem OO{l:List aB.Prod}{x:cg}{a:List Int}(h:zW l x a):nj l [x] a:=by
 have:=nj.cons h nj.nil
 rwa [List.append_nil]at this
def cut(w:List Int)(a b:Nat):List Int:=(w.drop a).take (b-a)
theorem td{w:List Int}{a m b:Nat}(h1:a<=m)(h2:m<=b):cut w a m++cut w m b=cut w a b:=by
 unfold cut;have e3:w.drop m=(w.drop a).drop (m-a):=by rw[List.drop_drop,show a+(m-a)=m by omega]
 rw[e3,show b-a=(m-a)+(b-m)by omega,List.take_add]
theorem EC(w:List Int)(a:Nat):cut w a a=[]:=by unfold cut;simp
theorem JB{w:List Int}{a n:Nat}(h:n=w.length):cut w a n=w.drop a:=by
 unfold cut;rw[List.take_of_length_le (by simp;omega)]
theorem JC{w:List Int}{a b:Nat}(h1:a<=b)(h2:b<=w.length):(cut w a b).length=b-a:=by
 unfold cut;rw[List.length_take,List.length_drop];omega
theorem ED{l:List aB.Prod}{w:List Int}{o:cg->Nat->Nat->Nat}:∀(body:List cg) (a b:Nat),a<=b->(∀y∈body,∀i j,a<=i->i<=j->j<=b->0<o y i j->zW l y (cut w i j))->0<Cn o body a b->nj l body (cut w a b)
 | [],a,b,x9,_,h=>by
  rw[Hn _ _ x9,s9]at h;have hE:a=b:=by
   by_cases c:a=b
   ·exact c
   ·rw[if_neg c]at h;omega
  subst hE;rw[EC];exact .nil
 |y::r,a,b,x9,ho,h=>by
  obtain⟨m,m1,m2,m3⟩:=Sr x9 h;unfold We at m3;rw[Bool.and_eq_true,decide_eq_true_iff,decide_eq_true_iff]at m3;rw[<-td m1 m2];exact .cons (ho y (by simp) a m (Nat.le_refl _) m1 m2 m3.1) (ED r m b m2 (fun z hz i j h1 h2 h3=>ho z (by simp[hz]) i j (by omega) h2 h3) m3.2)
section
variable{w:List Int}{l:List aB.Prod}{n:Nat}{c:mE}
open Classical in
theorem Cp(hc:Wc w l n c)(hs:lG n l){k a b:Nat}(hk:k<n)(x9:a<=b)(hb:b<=w.length)(h:0<c ((k:Int),(a:Int),(b:Int))):zW l (2,(k:Int)) (cut w a b):=by
  have hp : OH w l n (fun x=>if zW l (2,x.1) (cut w x.2.1.toNat x.2.2.toNat)then 2 else 0):=fun q i j hq oW hj=>by
    dsimp only;rw[Int.toNat_natCast,Int.toNat_natCast]
    by_cases cd:zW l (2,(q:Int)) (cut w i j)
    · rw[if_pos cd];exact Sk _ _ _ _ _
    · rw[if_neg cd]
      apply Nat.le_of_not_lt;intro h0;unfold OD at h0;obtain⟨r,r1,r2,r3⟩:=Ey (Nat.lt_min.1 h0).2;have hm:=rT (l:=l) (p:=(r:Int)) (by omega) (by omega);refine cd (.Rt (by show(2:Int)≠1;decide) hm r2 (ED _ i j oW (fun y hy i' j' h1 h2 h3 h4=>?_) r3));unfold jg at h4
      by_cases e:y.1=2
      · rw[if_pos e]at h4
        dsimp only at h4;rw[Int.toNat_natCast,Int.toNat_natCast]at h4;split at h4
        · rename_i hd
          obtain⟨y1,y2⟩:=y;dsimp only at e hd;subst e;exact hd
        · omega
      · rw[if_neg e]at h4
        split at h4
        · rename_i h5
          obtain⟨h6,h7⟩:=h5;have e1:y.1=1:=((hs _ hm).2.2 y hy).resolve_right fun h=>e h.1;obtain⟨h8,h9⟩:=List.getElem?_eq_some_iff.1 h7;have:cut w i' j'=[y.2]:=by
            unfold cut;rw[h6,show i'+1-i'=1 by omega,List.drop_eq_getElem_cons h8,h9];rfl
          rw[this];exact .xZ e1
        · omega
  have:=hc.least _ hp k a b hk x9 hb;dsimp only at this;rw[Int.toNat_natCast,Int.toNat_natCast]at this
  by_cases cd:zW l (2,(k:Int)) (cut w a b)
  · exact cd
  · rw[if_neg cd]at this;omega
theorem Hs(hc:Wc w l n c)(hs:lG n l){x:cg}{a b:Nat}(hx:x.1=1\/(x.1=2/\0<=x.2/\x.2<(n:Int)))(x9:a<=b)(hb:b<=w.length)(h:0<jg c w x a b):zW l x (cut w a b):=by
  unfold jg at h;rcases hx with hx|⟨h2,h3,h4⟩
  · rw[if_neg (by omega)]at h
    split at h
    · rename_i h5
      obtain⟨h6,h7⟩:=h5;obtain⟨h8,h9⟩:=List.getElem?_eq_some_iff.1 h7;have:cut w a b=[x.2]:=by
        unfold cut;rw[h6,show a+1-a=1 by omega,List.drop_eq_getElem_cons h8,h9];rfl
      rw[this];exact .xZ hx
    · omega
  · rw[if_pos h2]at h
    obtain⟨x1,x2⟩:=x;dsimp only at*;subst h2;have e:x2=((x2.toNat:Nat):Int):=by omega
    rw[e]at h⊢;exact Cp hc hs (by omega) x9 hb h
end
section
end
def rY(l:List aB.Prod)(s:FS):Prop:=(∀i:Nat,s.E.getD i false=true->zW l (2,(i:Int)) [])/\∀i:Nat,s.M.getD i false=true->∃ws,zW l (2,(i:Int)) ws
theorem ye{l:List aB.Prod}{E:List Bool}(h:∀i:Nat,E.getD i false=true->zW l (2,(i:Int)) []):∀(b:List cg),(∀x∈b,x.1=1\/(x.1=2/\0<=x.2))->lH E b false=true->nj l b []
  |[],_,_=> .nil
  | y ::r,hx,ha=>by
    unfold lH at ha;rw[List.all_cons,Bool.and_eq_true]at ha;have ih:=ye h r (fun z hz=>hx z (by simp[hz])) ha.2;rcases hx y (by simp)with c|⟨c1,c2⟩
    · rw[if_pos c]at ha;simp at ha
    · rw[if_neg (by omega),if_pos c1]at ha
      have hd:=h _ ha.1;obtain⟨y1,y2⟩:=y;dsimp only at*;subst c1;rw[Int.toNat_of_nonneg c2]at hd;exact .cons hd ih
theorem yf{l:List aB.Prod}{M:List Bool}(h:∀i:Nat,M.getD i false=true->∃ws,zW l (2,(i:Int)) ws):∀(b:List cg),(∀x∈b,x.1=1\/(x.1=2/\0<=x.2))->lH M b true=true->∃ws,nj l b ws
  |[],_,_=>⟨[],.nil⟩
  | y ::r,hx,ha=>by
    unfold lH at ha;rw[List.all_cons,Bool.and_eq_true]at ha;obtain⟨ws,ih⟩:=yf h r (fun z hz=>hx z (by simp[hz])) ha.2;rcases hx y (by simp)with c|⟨c1,c2⟩
    · exact⟨_,.cons (.xZ c) ih⟩
    · rw[if_neg (by omega),if_pos c1]at ha
      obtain⟨us,hd⟩:=h _ ha.1;obtain⟨y1,y2⟩:=y;dsimp only at*;subst c1;rw[Int.toNat_of_nonneg c2]at hd;exact⟨_,.cons hd ih⟩
theorem EE{l:List Bool}{i k:Nat}{b:Bool}(h:(eu l i b).1.getD k false=true):l.getD k false=true\/(k=i/\b=true):=by
 unfold eu at h;split at h
 ·rename_i c
  dsimp only at h;rw[List.getD_eq_getElem?_getD,List.getElem?_set]at h
  by_cases e:i=k
  ·exact .inr ⟨e.symm,c.1⟩
  ·rw[if_neg e,<-List.getD_eq_getElem?_getD]at h
   exact .inl h
 ·exact .inl h
theorem Cq{n:Nat}{l:List aB.Prod}(hs:lG n l){p:aB.Prod}(hp:p∈l){s:FS}(h:rY l s):rY l (lI p s):=by
 obtain⟨s1,s2,s3⟩:=hs p hp;have hx:∀x∈p.2,x.1=1\/(x.1=2/\0<=x.2):=fun x hx=>(s3 x hx).imp id fun h=>⟨h.1,h.2.1⟩;unfold lI;refine⟨fun i hi=>?_,fun i hi=>?_⟩
 ·rcases EE hi with h1|⟨h1,h2⟩
  ·exact h.1 i h1
  ·subst h1
   exact .Rt (by show(2:Int)≠1;decide) hp (by omega) (ye h.1 _ hx h2)
 ·rcases EE hi with h1|⟨h1,h2⟩
  ·exact h.2 i h1
  ·subst h1
   obtain⟨ws,hw⟩:=yf h.2 _ hx h2;exact⟨ws,.Rt (by show(2:Int)≠1;decide) hp (by omega) hw⟩
theorem te{n:Nat}{l:List aB.Prod}(hs:lG n l):∀(r:List aB.Prod),(∀p∈r,p∈l)->∀(s:FS),rY l s->rY l (eU r s)
 |[],_,s,h=>h
 |p::r,hr,s,h=>by
  rw[eU];exact te hs r (fun q hq=>hr q (by simp[hq])) _ (Cq hs (hr p (by simp)) h)
end rX
namespace rX
open aB dy eo
def UW(l:List aB.Prod)(w:List Int)(x:cg)(a b:Nat)(t:Tree):Prop:=AT l t x a/\Ho l t x=cut w a b
theorem UW.leaves{l:List aB.Prod}{w:List Int}{x:cg}{a b:Nat}{t:Tree}(h:UW l w x a b t)(x9:a<=b)(hb:b<=w.length):leaves t=b-a:=by
 rw[<-Hp h.1,h.2,JC x9 hb]
section
end
section
end
end rX
namespace wk
open aB dy eo cL rX
abbrev Cl:=Int×Int×Int×Int
def Ht(T col:Nat):Nat:=if col=T then 9223372036854775808 else 2^col
section
variable(l:List aB.Prod)(may:Nat->Nat)(T:Nat)
def yg(n col i:Nat):Bool:=decide ((bU l (i:Int)).1=(n:Int))&&!decide ((may i&&&Ht T col)=0)
def ff(n col:Nat):Nat->Int
 |0=> -1
 |k+1=>if ff n col k<0 then(if yg l may T n col k=true then(k:Int)else ff n col k)else ff n col k
def rZ(n col:Nat):Nat->List Cl->List Cl
 |0,out=>out
 |k+1,out=>if yg l may T n col k=true then(if ff l may T n col k<0 then rZ n col k out else rZ n col k out++[((n:Int),(col:Int),ff l may T n col k,(k:Int))])else rZ n col k out
def wl(n:Nat):Nat->List Cl->List Cl
 |0,out=>out
 |c+1,out=>rZ l may T n c l.length (wl n c out)
def jE:Nat->List Cl
 |0=>[]
 |n+1=>wl l may T n (T+1) (jE n)
def rowAt(n col:Nat):Int:=ff l may T n col l.length
end
section
variable{l:List aB.Prod}{may:Nat->Nat}{T:Nat}
theorem pQ(n col:Nat):∀k,-1<=ff l may T n col k/\ff l may T n col k<(k:Int)
 |0=>⟨by rw[ff];omega,by rw[ff];omega⟩
 |k+1=>by
  have:=pQ n col k;rw[ff];split
  ·split<;>omega
  ·omega
theorem r7(n col:Nat):∀k,k<=l.length->0<=ff l may T n col k->(bU l (ff l may T n col k)).1=(n:Int)
  |0,_,h=>by rw[ff]at h;omega
  | k + 1,hk,h=>by
    have ih:=r7 n col k (by omega);rw[ff]at h⊢;split at h
    · split at h
      · rename_i c1 c2
        rw[if_pos c1,if_pos c2];unfold yg at c2;rw[Bool.and_eq_true,decide_eq_true_iff]at c2;exact c2.1
      · omega
    · rename_i c1
      rw[if_neg c1];exact ih h
end
def yh(T:Nat)(w:List Int)(a:Nat):Nat:=if a<w.length then(w.getD a 0).toNat else T
section
end
section
end
section
end
end wk
namespace gI
open aB dy eo cL rX wk
inductive TD where
 |sym (x:cg)
 |close (p:Int)
def aZ:List TD->List cg->Nat->List TD×List cg×Nat×Bool
 |[],out,a=>([],out,a,true)
 | .sym x::r,out,a=>(.sym x::r,out,a,true)
 | .close p::r,out,a=>if a+1<=2000 then aZ r (out++[(3,p)]) (a+1)else(r,out++[(3,p)],a+1,false)
def opened(l:List aB.Prod)(p:Int)(r:List TD):List TD:=(bU l p).2.map .sym++ .close p::r
def ey(l:List aB.Prod)(nx:Int->Int):Nat->List TD->List cg->Nat->List TD×List cg×Nat×Int
  |0,st,out,a=>(st,out,a,14)
  | f +1,st,out,a=>
    if(aZ st out a).2.2.2=false then((aZ st out a).1,(aZ st out a).2.1,(aZ st out a).2.2.1,14)else
    match(aZ st out a).1 with
    | .sym x::r=>
      if x.1=1 then((aZ st out a).1,(aZ st out a).2.1,(aZ st out a).2.2.1,0)
      else if nx x.2<0 then((aZ st out a).1,(aZ st out a).2.1,(aZ st out a).2.2.1,13)
      else if(aZ st out a).2.2.1+1<=2000/\(opened l (nx x.2) r).length<=60 then ey l nx f (opened l (nx x.2) r) ((aZ st out a).2.1++[(1,nx x.2)]) ((aZ st out a).2.2.1+1)
      else(opened l (nx x.2) r,(aZ st out a).2.1++[(1,nx x.2)],(aZ st out a).2.2.1+1,14)
    |_=>((aZ st out a).1,(aZ st out a).2.1,(aZ st out a).2.2.1,0)
def kF(l:List aB.Prod)(nx:Int->Int)(st:List TD)(seen:Nat)(t:Int):Int×List TD×List cg:=
  match ey l nx 2001 st [] 0 with
  | (st1,ed,a1,e)=>
    if e≠0 then(e,[],[])else
    match st1 with
    | .sym x::r=>if x.2≠t then(13,[],[])else if a1+1<=2000/\(aZ r (ed++[(2,(seen:Int))]) (a1+1)).2.2.2=true then(0,(aZ r (ed++[(2,(seen:Int))]) (a1+1)).1,(aZ r (ed++[(2,(seen:Int))]) (a1+1)).2.1)else(14,[],[])
    |_=>(13,[],[])
def r8(l:List aB.Prod)(nx:Int->Int)(st:List TD):Int×List cg:=
 match ey l nx 2001 st [] 0 with
 |(st1,ed,_,e)=>if e≠0 then(e,[])else match st1 with|[]=>(0,ed)|_=>(13,[])
section
variable{l:List aB.Prod}{C:Int->Nat->Int->Prop}
theorem r9:∀{st:List TD} {out:List cg} {a:Nat},(aZ st out a).2.2.2=true->(aZ st out a).1=[]\/∃x r,(aZ st out a).1= .sym x::r
 |[],out,a,_=> .inl rfl
 | .sym x::r,out,a,_=> .inr ⟨x,r,rfl⟩
 | .close p::r,out,a,h=>by
  unfold aZ at h⊢;split
  ·rename_i c;rw[if_pos c]at h;exact r9 h
  ·rename_i c;rw[if_neg c]at h;cases h
theorem n_:∀{st:List TD} {out:List cg} {a:Nat},(aZ st out a).1.length<=st.length/\a<=(aZ st out a).2.2.1/\((aZ st out a).2.2.2=true->a<=2000->(aZ st out a).2.2.1<=2000)/\(aZ st out a).2.1.length+a=out.length+(aZ st out a).2.2.1
 |[],out,a=>⟨Nat.le_refl _,Nat.le_refl _,fun _ h=>h,rfl⟩
 | .sym x::r,out,a=>⟨Nat.le_refl _,Nat.le_refl _,fun _ h=>h,rfl⟩
 | .close p::r,out,a=>by
  unfold aZ;split
  ·obtain⟨h1,h2,h3,h4⟩:=@n_ r (out++[(3,p)]) (a+1)
   refine⟨by simp;omega,by omega,fun h _=>h3 h (by omega),?_⟩;simp only[List.length_append,List.length_cons,List.length_nil]at h4;omega
  ·refine⟨by simp,by simp,(fun h=>nomatch h),by simp;omega⟩
def pR(g:dr):TD->Prop
 | .sym x=>right g.aF g.aU x=true
 | .close p=>0<=p/\p<(g.ag.length:Int)
theorem qM{g:dr}:∀{st:List TD} {out:List cg} {a:Nat},(∀d∈st,pR g d)->∀d∈(aZ st out a).1,pR g d
 |[],out,a,h=>h
 | .sym x::r,out,a,h=>h
 | .close p::r,out,a,h=>by
  unfold aZ;split
  ·exact qM fun d hd=>h d (List.mem_cons_of_mem _ hd)
  ·exact fun d hd=>h d (List.mem_cons_of_mem _ hd)
theorem A1{g:dr}(hg:cz g=0){p:Int}(h0:0<=p)(h1:p<(g.ag.length:Int)){r:List TD}(h:∀d∈r,pR g d):∀d∈opened g.ag p r,pR g d:=by
 intro d hd;unfold opened at hd;rw[List.mem_append]at hd;rcases hd with hd|hd
 ·obtain⟨x,hx,rfl⟩:=List.mem_map.1 hd
  exact((bV hg).2.2.2.2.2 _ (rT h0 h1)).2.2.2 x hx
 ·rcases List.mem_cons.1 hd with rfl|hd
  ·exact⟨h0,h1⟩
  ·exact h d hd
def Wg(l:List aB.Prod)(nx:Int->Int):Prop:=∀n,0<=nx n->nx n<(l.length:Int)/\((0<=n)->(bU l (nx n)).1=n)
theorem pS{nx:Int->Int}:∀{f:Nat} {st:List TD} {out:List cg} {a:Nat},(ey l nx f st out a).2.2.2=0\/(ey l nx f st out a).2.2.2=13\/(ey l nx f st out a).2.2.2=14
  |0,st,out,a=> .inr (.inr rfl)
  | f + 1,st,out,a=>by
    unfold ey;split
    · exact .inr (.inr rfl)
    · split
      · split
        · exact .inl rfl
        · split
          · exact .inr (.inl rfl)
          · split
            · exact pS
            · exact .inr (.inr rfl)
      · exact .inl rfl
theorem r_{nx:Int->Int}{f:Nat}{st:List TD}{out:List cg}{a:Nat}{R:List TD×List cg×Nat×Int}(h:ey l nx (f+1) st out a=R):
    ((aZ st out a).2.2.2=false/\R.2.2.2=14)\/((aZ st out a).2.2.2=true/\
      (((aZ st out a).1=[]/\R=([],(aZ st out a).2.1,(aZ st out a).2.2.1,0))\/
       ∃ x r,(aZ st out a).1= .sym x::r/\((x.1=1/\R=(.sym x::r,(aZ st out a).2.1,(aZ st out a).2.2.1,0))\/(x.1≠1/\nx x.2<0/\R.2.2.2=13)\/
         (x.1≠1/\0<=nx x.2/\((((aZ st out a).2.2.1+1<=2000/\(opened l (nx x.2) r).length<=60)/\ey l nx f (opened l (nx x.2) r) ((aZ st out a).2.1++[(1,nx x.2)]) ((aZ st out a).2.2.1+1)=R)\/R.2.2.2=14))))):=by
  unfold ey at h
  cases hc:(aZ st out a).2.2.2 with
  |false=>rw[hc,if_pos rfl]at h;subst h;exact .inl ⟨rfl,rfl⟩
  | true=>
    rw[hc,if_neg (by simp)]at h;refine .inr ⟨rfl,?_⟩;rcases r9 hc with he|⟨x,r,he⟩
    · rw[he]at h⊢
      exact .inl ⟨rfl,h.symm⟩
    · rw[he]at h⊢
      dsimp only at h;refine .inr ⟨x,r,rfl,?_⟩
      by_cases c1:x.1=1
      · rw[if_pos c1]at h;exact .inl ⟨c1,h.symm⟩
      · rw[if_neg c1]at h
        by_cases c2:nx x.2<0
        · rw[if_pos c2]at h;subst h;exact .inr (.inl ⟨c1,c2,rfl⟩)
        · rw[if_neg c2]at h
          refine .inr (.inr ⟨c1,by omega,?_⟩);split at h
          · rename_i c3;exact .inl ⟨c3,h⟩
          · subst h;exact .inr rfl
theorem pT{nx:Int->Int}:∀{f:Nat} {st:List TD} {out:List cg} {a:Nat} {R:List TD×List cg×Nat×Int},ey l nx f st out a=R->R.2.2.2=0->R.1=[]\/∃x r,R.1= .sym x::r/\x.1=1
 |0,st,out,a,R,h,h0=>by subst h;cases h0
 |f+1,st,out,a,R,h,h0=>by
  rcases r_ h with⟨_,e⟩|⟨_,⟨_,rfl⟩|⟨x,r,_,⟨c,rfl⟩|⟨_,_,e⟩|⟨_,_,⟨_,e⟩|e⟩⟩⟩
  ·omega
  ·exact .inl rfl
  ·exact .inr ⟨x,r,rfl,c⟩
  ·omega
  ·exact pT e h0
  ·omega
theorem JD{g:dr}(hg:cz g=0){nx:Int->Int}(hn:Wg g.ag nx):∀{f:Nat} {st:List TD} {out:List cg} {a:Nat} {R:List TD×List cg×Nat×Int},ey g.ag nx f st out a=R->R.2.2.2=0->(∀d∈st,pR g d)->∀d∈R.1,pR g d
  |0,st,out,a,R,h,h0,_=>by subst h;cases h0
  | f +1,st,out,a,R,h,h0,hs=>by
    have hc:=qM (out:=out) (a:=a) hs;rcases r_ h with⟨_,e⟩|⟨_,⟨_,rfl⟩|⟨x,r,e1,⟨c,rfl⟩|⟨_,_,e⟩|⟨_,c,⟨_,e⟩|e⟩⟩⟩
    · omega
    · exact fun d hd=>nomatch hd
    · rw[e1]at hc;exact hc
    · omega
    · rw[e1]at hc
      exact JD hg hn e h0 (A1 hg c (hn _ c).1 fun d hd=>hc d (List.mem_cons_of_mem _ hd))
    · omega
theorem tf{nx:Int->Int}:∀{f:Nat} {st:List TD} {out:List cg} {a:Nat} {R:List TD×List cg×Nat×Int},ey l nx f st out a=R->R.2.2.2=0->st.length<=60->a<=2000->R.1.length<=60/\R.2.2.1<=2000/\R.2.1.length+a=out.length+R.2.2.1/\a<=R.2.2.1
  |0,st,out,a,R,h,h0,_,_=>by subst h;cases h0
  | f +1,st,out,a,R,h,h0,h1,h2=>by
    obtain⟨z1,z2,z3,z4⟩:=@n_ st out a;rcases r_ h with⟨_,e⟩|⟨ec,⟨_,rfl⟩|⟨x,r,e1,⟨c,rfl⟩|⟨_,_,e⟩|⟨_,c,⟨cc,e⟩|e⟩⟩⟩
    · omega
    · have:=z3 ec h2
      exact⟨by simp,this,by omega,z2⟩
    · rw[e1]at z1
      have:=z3 ec h2;exact⟨Nat.le_trans z1 h1,this,by omega,z2⟩
    · omega
    · obtain⟨y1,y2,y3,y4⟩:=tf e h0 cc.2 cc.1
      rw[List.length_append,List.length_singleton]at y3;exact⟨y1,y2,by omega,by omega⟩
    · omega
theorem Hu{nx:Int->Int}{st:List TD}{seen:Nat}{t:Int}{R:Int×List TD×List cg}(h:kF l nx st seen t=R):
    (R.1=13\/R.1=14)/\R.2=([],[])\/∃x r ed a1,ey l nx 2001 st [] 0=(.sym x::r,ed,a1,0)/\x.1=1/\x.2=t/\a1+1<=2000/\(aZ r (ed++[(2,(seen:Int))]) (a1+1)).2.2.2=true/\
      R=(0,(aZ r (ed++[(2,(seen:Int))]) (a1+1)).1,(aZ r (ed++[(2,(seen:Int))]) (a1+1)).2.1):=by
  unfold kF at h
  cases hd:ey l nx 2001 st [] 0 with
  |mk st1 R1=>
  obtain⟨ed,a1,e⟩:=R1;rw[hd]at h;dsimp only at h;have he:=@pS l nx 2001 st [] 0;rw[hd]at he;dsimp only at he
  by_cases c0:e=0
  · subst c0
    rw[if_neg (by simp)]at h;rcases pT hd rfl with e1|⟨x,r,e1,e2⟩
    · dsimp only at e1;subst e1;subst h;exact .inl ⟨.inl rfl,rfl⟩
    · dsimp only at e1;subst e1
      dsimp only at h
      by_cases c1:x.2≠t
      · rw[if_pos c1]at h;subst h;exact .inl ⟨.inl rfl,rfl⟩
      · rw[if_neg c1]at h
        split at h
        · rename_i c2
          subst h;exact .inr ⟨x,r,ed,a1,rfl,e2,by simpa using c1,c2.1,c2.2,rfl⟩
        · subst h;exact .inl ⟨.inr rfl,rfl⟩
  · rw[if_pos c0]at h
    subst h;exact .inl ⟨by rcases he with h|h|h;exact absurd h c0;exact .inl h;exact .inr h,rfl⟩
theorem Ss{g:dr}(hg:cz g=0){nx:Int->Int}(hn:Wg g.ag nx){st:List TD}{seen:Nat}{t:Int}{R:Int×List TD×List cg}(h:kF g.ag nx st seen t=R)(h0:R.1=0)(hs:∀d∈st,pR g d)(hl:st.length<=60):(∀d∈R.2.1,pR g d)/\R.2.1.length<=60/\R.2.2.length<=2000:=by
 rcases Hu h with⟨e|e,_⟩|⟨x,r,ed,a1,hd,_,_,h4,h5,rfl⟩
 ·omega
 ·omega
 ·have y1:=JD hg hn hd rfl hs
  obtain⟨y2,y3,y4,y5⟩:=tf hd rfl hl (by omega);obtain⟨z1,z2,z3,z4⟩:=@n_ r (ed++[(2,(seen:Int))]) (a1+1);dsimp only at y1 y2 y3 y4 y5⊢;simp only[List.length_append,List.length_cons,List.length_nil]at z4 y2 y4;have:=z3 h5 (by omega);exact⟨qM fun d hd=>y1 d (List.mem_cons_of_mem _ hd),by omega,by omega⟩
theorem Lz{nx:Int->Int}{st:List TD}{R:Int×List cg}(h:r8 l nx st=R):((R.1=13\/R.1=14)/\R.2=[])\/∃a1,ey l nx 2001 st [] 0=([],R.2,a1,0)/\R.1=0:=by
 unfold r8 at h
 cases hd:ey l nx 2001 st [] 0 with
 |mk st1 R1=>
 obtain⟨ed,a1,e⟩:=R1;rw[hd]at h;dsimp only at h;have he:=@pS l nx 2001 st [] 0;rw[hd]at he;dsimp only at he
 by_cases c0:e=0
 ·subst c0
  rw[if_neg (by simp)]at h;rcases pT hd rfl with e1|⟨x,r,e1,e2⟩
  ·dsimp only at e1;subst e1;subst h;exact .inr ⟨a1,rfl,rfl⟩
  ·dsimp only at e1;subst e1;subst h;exact .inl ⟨.inl rfl,rfl⟩
 ·rw[if_pos c0]at h
  subst h;exact .inl ⟨by rcases he with h|h|h;exact absurd h c0;exact .inl h;exact .inr h,rfl⟩
end
end gI
end Go.Proofs.YtdmgcnggnejnnaaGreat

/- Part 2 of what SpecOne needs: ReadM, Room, Shp, Map, RexS, ClsEq, App, RexC, ClassB, ClsRg, KeyG, SmL, ClsHas, RexM, LookOk, RexE, RexPl, RexPr, MixX, RexSz, GramL, StrK, DfaL, DfaO, Dfa, SmB, MapN, Fam, Sym, SymS, Gram, GramN, TreeL, TreeM, CountL, CountN, CountT, CountR, TreeW, CountX, FactsL, FactsM, FactsN, FactsP, FactsQ, FactsR, Der. -/
import Derived.Test.YtldiodhdefnlaaaGreatMgA
import Derived.Laws.MakeOwn
import Derived.Laws.AppendOwn
import Derived.Maps.OwnSet
import Derived.DeepKeys4
import Derived.WideKeyEntry
import Derived.ChangeKeysEq
import Derived.Laws.Bits64b
import Derived.Lib.Strings
import Derived.Lib.Slices
import Derived.Lib.Walk
import Derived.Lib.Bytealg
import Derived.StringKeys
namespace Go.Proofs.YtldiodhdefnlaaaGreat
set_option linter.unusedVariables false
set_option linter.unusedSimpArgs false
set_option maxHeartbeats 16000000
namespace bH
open Go.RowKit bL db Go.ChangeShapes Go.WideShapes Go.ChangeAt
structure OI(P:Program)(H:Type) where
 ok:TypeId->DataW H->Prop
 lim:TypeId->Nat->Prop
 SD:Nat->Prop
 zero:∀e,lim e 0
 slice:∀{t e:TypeId} {elems spare:List (DataW H)},P.underlying t=some (.slice e)->ok t (.slice elems spare)->lim e elems.length/\∀d∈elems,ok e d
 K_:∀{t:TypeId} {fs:Array Field} {parts:List (DataW H)},P.underlying t=some (.struct fs)->ok t (.agg parts)->∀(i:Nat) (f:Field) (d:DataW H),fs[i]?=some f->parts[i]?=some d->ok f.type d
 arr:∀{t e:TypeId} {m:Nat} {parts:List (DataW H)},P.underlying t=some (.array m e)->ok t (.agg parts)->∀d∈parts,ok e d
 str:∀{t:TypeId} {b:List UInt8},ok t (.lit (.string b))->SD b.length
section
variable{H:Type}{P:Program}
theorem nW{e:TypeId}:∀(l:List (DataW H)) (d:DataW H),d∈l->∀n∈d.weights P e,n∈DataW.weightsAll P e l
 |[],_,h,_,_=>by cases h
 |x::r,d,h,n,hn=>by
  rw[DataW.weightsAll,List.mem_append];rcases List.mem_cons.1 h with rfl|h
  ·exact .inl hn
  ·exact .inr (nW r d h n hn)
theorem mP:∀(ts:List TypeId) (l:List (DataW H)) (i:Nat) (t:TypeId) (d:DataW H),ts[i]?=some t->l[i]?=some d->∀n∈d.weights P t,n∈DataW.weightsEach P ts l
 |[],_,_,_,_,h,_,_,_=>by simp at h
 |_::_,[],_,_,_,_,h,_,_=>by simp at h
 |t0::ts,d0::l,0,t,d,ht,hd,n,hn=>by
  simp only[List.getElem?_cons_zero,Option.some.injEq]at ht hd;subst ht hd;rw[DataW.weightsEach,List.mem_append];exact .inl hn
 |t0::ts,d0::l,i+1,t,d,ht,hd,n,hn=>by
  rw[DataW.weightsEach,List.mem_append];exact .inr (mP ts l i t d (by simpa using ht) (by simpa using hd) n hn)
def Ha(P:Program)(H:Type):OI P H where
  ok t d:=∀n∈d.weights P t,n<=reachBytes
  lim e n:=n*P.bytesOf e<=reachBytes
  SD n:=n<=reachBytes
  zero e:=by simp
  slice:=fun {t e elems spare} ht h=>by
    have hw:DataW.weights P t (.slice elems spare)=(elems.length+spare.length)*P.bytesOf e::(DataW.weightsAll P e elems++DataW.weightsAll P e spare):=by rw[DataW.weights,ht]
    rw[hw]at h;refine⟨?_,fun d hd n hn=>h n ?_⟩
    · have h1:=h _ (List.mem_cons_self)
      exact Nat.le_trans (Nat.mul_le_mul_right _ (by omega)) h1
    · exact List.mem_cons_of_mem _ (List.mem_append_left _ (nW elems d hd n hn))
  K_:=fun {t fs parts} ht h i f d hf hd n hn=>by
    have hw:DataW.weights P t (.agg parts)=DataW.weightsEach P (fs.toList.map (·.type)) parts:=by rw[DataW.weights,ht]
    rw[hw]at h;exact h n (mP _ _ i f.type d (by rw[List.getElem?_map,Array.getElem?_toList,hf];rfl) hd n hn)
  arr:=fun {t e m parts} ht h d hd n hn=>by
    have hw:DataW.weights P t (.agg parts)=DataW.weightsAll P e parts:=by rw[DataW.weights,ht]
    rw[hw]at h;exact h n (nW parts d hd n hn)
  str:=fun {t b} h=>h _ (by rw[DataW.weights];exact List.mem_cons_self)
theorem Cq{ts:List TypeId}{ds:List (DataW H)}(hsz:(DataW.weightsEach P ts ds).all (· <=reachBytes)=true)(j:Nat){t:TypeId}{d:DataW H}(ht:ts[j]?=some t)(hd:ds[j]?=some d):(Ha P H).ok t d:=fun n hn=>by
 have:=List.all_eq_true.1 hsz n (mP ts ds j t d ht hd n hn)
 simpa using this
end
section
variable{H:Type}{enc0:TypeId×Value->H}{P:Program}{W:World}{M:OI P H}
def gH(M:OI P H)(enc0:TypeId×Value->H)(W:World)(t:TypeId){α:Type}(is:List Value->α->Prop):Prop:=
 ∀fuel cs x,DataW.trod enc0 P W 0 (fun _=>true) true fuel t cs=some x->M.ok t x.1->∃a,is cs a
theorem gH.mono{t:TypeId}{α β:Type}{is:List Value->α->Prop}{Vc:List Value->β->Prop}(h:gH M enc0 W t is)(hi:∀cs a,is cs a->∃b,Vc cs b):gH M enc0 W t Vc:=fun f cs x hx hm=>let ⟨_,ha⟩:=h f cs x hx hm;hi _ _ ha
theorem yN{t:TypeId}{α:Type}{is:List Value->α->Prop}(h:nV enc0 P W t is):gH M enc0 W t is:=fun f cs x hx _=>h f cs x hx
theorem EP{t:TypeId}(ht:P.underlying t=some (.int .i64)):gH M enc0 W t (isInt .i64 (-9223372036854775808) 9223372036854775807):=yN (IJ ht)
theorem qh{t:TypeId}(ht:P.underlying t=some .string):gH M enc0 W t (fun cs s=>Vd cs s/\M.SD s.length):=fun f cs x h hm=>by
 obtain⟨s,h1,h2,h3⟩:=DataW.trod_string ht h;refine⟨s.data.toList,⟨by rw[h1,Sh],?_⟩,?_⟩
 ·have e:s.data.toList.length=s.size:=Array.length_toList
  unfold maxLen at h3;omega
 ·rw[h2]at hm
  exact M.str hm
theorem mQ{t e:TypeId}{c:Nat}(ht:P.underlying t=some (.slice e))(hc:P.cellsOf e=c)(uV:0<c){α:Type}{is:List Value->α->Prop}(hd:gH M enc0 W e is)(_:∀cs a,is cs a->cs.length=c):gH M enc0 W t (fun cs l=>Ve W is c cs l/\M.lim e l.length):=fun fuel cs x h hm=>by
  rcases DataW.trod_slice ht h with⟨rfl,_⟩|⟨a,len,cap,elems,rest,n,_,rfl,hx,_,SE,hmx,pE,qT,_⟩
  · exact⟨[],⟨_,rfl,none,0,rfl,Nat.le_refl _,by decide,fun h=>by simp at h⟩,M.zero e⟩
  · rw[hx]at hm
    obtain⟨vC,mb⟩:=M.slice ht hm;have each:∀i,i<len->∃y:α,∃cs,W.cells? 0 (a.add (i*c)) c=some cs/\is cs y:=fun i hi=>by
      have h1:=qT i hi;rw[hc,List.getElem?_eq_getElem (by omega)]at h1
      cases hcell:W.cells? 0 (a.add (i*c)) c with
      |none=>rw[hcell]at h1;simp at h1
      | some cs=>
        rw[hcell]at h1;obtain⟨y,hy⟩:=hd n cs _ h1 (mb _ (List.mem_map.2 ⟨_,List.getElem_mem (by omega),rfl⟩));exact⟨y,cs,rfl,hy⟩
    obtain⟨l,Er,hp⟩:=qU len each;subst Er;refine⟨l,⟨_,rfl,some a,cap,rfl,SE,hmx,fun h0=>?_⟩,by rw[List.length_map,pE]at vC;exact vC⟩;obtain⟨cs0,h1,h2⟩:=hp 0 l[0] (List.getElem?_eq_getElem h0);have h3:=(fg h1).2 0 uV;have hlen:=(fg h1).1;rw[List.getElem?_eq_getElem (by omega)]at h3;have hsp:=sr h3;have e0:a.spot=none:=by
      rw[Nat.zero_mul]at hsp;unfold Addr.add at hsp
      simpa using hsp
    obtain⟨b,off,spot⟩:=a;simp only at e0;subst e0;refine⟨b,off,rfl,fun i hi=>?_⟩;obtain⟨cs,h4,h5⟩:=hp i l[i] (List.getElem?_eq_getElem hi);refine⟨cs,h5,fun j u hj=>?_⟩;have GV:j<c:=by have:=(List.getElem?_eq_some_iff.1 hj).1;rw[(fg h4).1]at this;exact this
    have h6:=(fg h4).2 j GV;rw[ez,ez]at h6;rw[h6];exact hj
theorem sB{t:TypeId}{fs:Array Field}(ht:P.underlying t=some (.struct fs)){fuel:Nat}{cs:List Value}{x:DataW H×List MemPlace}(h:DataW.trod enc0 P W 0 (fun _=>true) true fuel t cs=some x)(hm:M.ok t x.1):
 cs.length=P.cellsOf t/\∀(i:Nat) (f:Field),fs[i]?=some f->∀{α:Type} {is:List Value->α->Prop},gH M enc0 W f.type is->∃a,is ((cs.drop f.offset).take (P.cellsOf f.type)) a:=by
 obtain⟨xs,n,_,hx,hl,hlen,hf⟩:=DataW.trod_struct ht h;refine⟨hl,fun i f hi α is ho=>?_⟩;have h1:=hf i f hi;have hlt:i<xs.length:=by rw[hlen];exact(Array.getElem?_eq_some_iff.1 hi).1
 rw[List.getElem?_eq_getElem hlt]at h1;rw[hx]at hm;exact ho n _ _ h1 (M.K_ ht hm i f _ hi (by rw[List.getElem?_map,List.getElem?_eq_getElem hlt];rfl))
theorem K'{t:TypeId}{fs:Array Field}(ht:P.underlying t=some (.struct fs)){base:Nat}{v:Value}{d:DataW H}{ps:List MemPlace}(hv:Value.okWide P W .any base t v)(h:DataW.Trod enc0 P W 0 (fun _=>true) true t v d ps){α:Type}{is:List Value->α->Prop}(ho:gH M enc0 W t is)(hm:M.ok t d):∃cs a,v= .agg cs/\is cs.toList a:=by
 obtain⟨cs,fuel,rfl,hf⟩:=OH ht hv h;obtain⟨a,ha⟩:=ho fuel cs.toList _ hf hm;exact⟨cs,a,rfl,ha⟩
end
theorem N9.flat{α:Type}{W:World}{is:List Value->α->Prop}{f:α->List Value}{c:Nat}{v:Value}{l:List α}(h:N9 W is c v l)(hc:∀a,(f a).length=c)(uV:0<c)(hf:∀cs a,is cs a->cs=f a):Sl W v l.length (l.flatMap f):=by
 obtain⟨base,cap,h1,h2,h3,h4⟩:=h;refine⟨base,cap,h1,h2,h3,fun h0=>?_⟩;obtain⟨b,off,h5,h6⟩:=h4 h0;refine⟨b,off,h5,fun j u hj=>?_⟩;have GV:=(List.getElem?_eq_some_iff.1 hj).1;rw[tk hc]at GV;have hi:j/c<l.length:=(Nat.div_lt_iff_lt_mul uV).2 GV;have Io:=Nat.mod_lt j uV;have Oj:j/c*c+j %c=j:=by rw[Nat.mul_comm];exact Nat.div_add_mod j c
 obtain⟨cs,h7,h8⟩:=h6 (j/c) hi;rw[hf _ _ h7]at h8;have h9:=nP hc l (j/c) (j %c) l[j/c] (List.getElem?_eq_getElem hi) Io;rw[Oj]at h9;rw[h9]at hj;have:=h8 (j %c) u hj;rw[Nat.add_assoc,Oj]at this;exact this
end bH
namespace bH
open Go.RowKit bL db
section
variable{P:Program}{n:Nat}{W:bB}{fr:Fr}{L:List bz}{Q:Exit->Act->World->Prop}{ops:Array Oper}{rest:List Oper}{d:Nat}{dst:Option Tmp}{ty:TypeId}{pos:String}{after:Array Edge}{guard:Option (Nat×Bool)}
theorem nX{t e:TypeId}{x y:Operand}{c bytes m cap:Nat}{k k':IntKind}{zs:Array Value}[pE:nS P t e c bytes][hz0:aW P e zs](hx:ev fr x=some (.int k (m:Int)))(hy:ev fr y=some (.int k' (cap:Int)))(Hb:m<=cap)(hb:bytes*cap<=281474976710656)(pF:cap<=9223372036854775807)(hn:Nat.blt d n=true)
 (h:∀g,TL P n W ops Q rest ((d,.slice (some ⟨g,0,none⟩) m cap)::fr) (L++[ap g (madeCells zs (cap*c)) e])):TL P n W ops Q (⟨some d,.makeSlice t x y,ty,pos,after,none⟩::rest) fr L:=ia rfl fun a w hr hm K hK=>by
 obtain⟨i,z,ht,hi,hz,hc,KT,Ul,h0⟩:=pE.el.ex;obtain⟨i2,z2,IN,hz2,hz3⟩:=aW.ex (P:=P) (t:=e);rw[hi]at IN;obtain rfl:i=i2:=Option.some.inj IN;rw[hz]at hz2;obtain rfl:z=z2:=Option.some.inj hz2;have La:(i.bytes:Int)*(cap:Int)<=281474976710656:=by
  rw[KT,<-Int.natCast_mul];omega
 have hrun:=run_make (P:=P) w t e i z ht hi hz k k' (m:Int) (cap:Int) (by omega) (by omega) La (by omega);rw[Int.toNat_natCast,Int.toNat_natCast,hc,hz3]at hrun;have e':(execOp a.eval ⟨some d,.makeSlice t x y,ty,pos,after,none⟩).run P w= .ok (.value (.slice (some ⟨w.heap.size,0,none⟩) m cap)) (w.alloc (.cells (madeCells zs (cap*c)) e)):=by
  simp only[execOp,hr.ev hx,hr.ev hy,Sem.run_bind,hrun,Result.andThen_ok,Sem.run_pure]
 unfold Oper.wp;rw[e'];exact hK _ _ ((h w.heap.size).go _ _ (hr.put hn _) (hm.append (jJ w _) (nQ.one (heap_alloc_new w _) fun k hk=>by simp only[ap,Option.some.injEq]at hk;omega)))
theorem Mem.Lb{w:World}{i g m cap size:Nat}{cs:Array Value}{e:TypeId}(h:Mem W L w)(hi:L[i]?=some (ap g cs e))(hc:cs.size=cap*size)(Hb:m<=cap)(q_:cap<=9223372036854775807):Mem W (L.set i (aI e size (.slice (some ⟨g,0,none⟩) m cap) m (cs.toList.take (m*size)))) w:=
 h.ua hi ⟨rfl,rfl,rfl,Nat.le_refl _,fun _ _ _=>rfl⟩ ⟨by rw[List.length_take,Array.length_toList,hc,Nat.min_eq_left (Nat.mul_le_mul_right _ Hb)],.inr ⟨g,cap,cs,rfl,Nat.zero_le _,h.get hi,Hb,by unfold maxLen;omega,hc,rfl⟩⟩ fun k hk=> .inl hk
theorem yO{i g m cap:Nat}{cs:Array Value}{e:TypeId}(size:Nat)(hi:L[i]?=some (ap g cs e))(hc:cs.size=cap*size)(Hb:m<=cap)(q_:cap<=9223372036854775807)(h:TL P n W ops Q rest fr (L.set i (aI e size (.slice (some ⟨g,0,none⟩) m cap) m (cs.toList.take (m*size))))):TL P n W ops Q rest fr L:=
 ⟨fun a w hr pH=>h.go a w hr (pH.Lb hi hc Hb q_)⟩
theorem Lc{c:Code}{i g m cap:Nat}{cs:Array Value}{e:TypeId}(size:Nat)(hi:L[i]?=some (ap g cs e))(hc:cs.size=cap*size)(Hb:m<=cap)(q_:cap<=9223372036854775807)(h:T P n W c Q fr (L.set i (aI e size (.slice (some ⟨g,0,none⟩) m cap) m (cs.toList.take (m*size))))):T P n W c Q fr L:=
 ⟨fun a w hr pH=>h.go a w hr (pH.Lb hi hc Hb q_)⟩
theorem iU{i g m cap:Nat}{cs:Array Value}{T:TypeId}{xs:List Value}(hi:L[i]?=some (ap g cs T))(hx:∀(j:Nat) (u:Value),xs[j]?=some u->cs[j]?=some u)(Hb:m<=cap)(q_:cap<=9223372036854775807):Oz W L (.slice (some ⟨g,0,none⟩) m cap) m xs:=fun w hm=>
 ⟨_,cap,rfl,Hb,by unfold maxLen;omega,fun _=>⟨g,0,rfl,fun j u hj=>by
  rw[Nat.zero_add];exact ah hi (hx j u hj) w hm⟩⟩
end
theorem Q6{z:Array Value}{k m:Nat}(h:z.size=k)(h0:0<k):madeCells z (m*k)=((List.replicate m z.toList).flatten).toArray:=by
  subst h;apply Array.ext_getElem?;intro j;unfold madeCells
  by_cases hj:j<m*z.size
  · have h2:j/z.size<m:=(Nat.div_lt_iff_lt_mul h0).2 hj
    have h3:=Nat.mod_lt j h0;have key:∀(m j:Nat),j<m*z.size->((List.replicate m z.toList).flatten)[j]?=z.toList[j %z.size]?:=by
      intro m
      induction m with
      |zero=>intro j hj;simp at hj
      | succ m ih=>
        intro j hj;rw[List.replicate_succ,List.flatten_cons]
        by_cases hc:j<z.size
        · rw[List.getElem?_append_left (by simpa using hc),Nat.mod_eq_of_lt hc]
        · rw[List.getElem?_append_right (by simp;omega)]
          simp only[Array.length_toList];rw[ih (j-z.size) (by rw[Nat.succ_mul]at hj;omega)]
          congr 1
          exact(Nat.mod_eq_sub_mod (by omega)).symm
    simp only[List.getElem?_toArray,key m j hj];simp[hj,h3]
  · have:((List.replicate m z.toList).flatten).length=m*z.size:=by simp
    rw[Array.getElem?_eq_none (by simp;omega),List.getElem?_toArray,List.getElem?_eq_none (by omega)]
theorem yP:∀(xs:List Value) (acc:Array Value) (off k:Nat),off+k+xs.length<=acc.size->(xs.toArray.zipIdx k).foldl (fun cs (x:Value×Nat)=>cs.setIfInBounds (off+x.2) x.1) acc=(acc.toList.take (off+k)++xs++acc.toList.drop (off+k+xs.length)).toArray
  | [],acc,off,k,_=>by
    have e0:(([]:List Value).toArray.zipIdx k)=#[]:=by apply Array.ext';simp
    rw[e0];simp
  | x ::xs,acc,off,k,h=>by
    simp only[List.length_cons]at h;have e:(x::xs).toArray.zipIdx k=#[(x,k)]++xs.toArray.zipIdx (k+1):=by
      apply Array.ext';simp[List.zipIdx_cons]
    rw[e,Array.foldl_append];have e2:(#[(x,k)]:Array (Value×Nat)).foldl (fun cs (x:Value×Nat)=>cs.setIfInBounds (off+x.2) x.1) acc=acc.setIfInBounds (off+k) x:=by simp
    rw[e2,yP xs _ off (k+1) (by simp;omega)]
    congr 1
    have hA:(acc.toList.take (off+k)).length=off+k:=by simp;omega
    have Q3:(acc.toList.take (off+k)++[x]).length=off+k+1:=by rw[List.length_append,hA];rfl
    have e3:acc.toList.set (off+k) x=(acc.toList.take (off+k)++[x])++acc.toList.drop (off+k+1):=by
      rw[List.set_eq_take_append_cons_drop,if_pos (by simp;omega)];simp
    simp only[Array.toList_setIfInBounds,List.length_cons];rw[e3,show off+(k+1)=off+k+1 by omega,List.take_left' Q3,<-List.drop_drop,List.drop_left' Q3,List.drop_drop];simp only[List.append_assoc,List.cons_append,List.nil_append];rw[show off+k+1+xs.length=off+k+(xs.length+1)by omega]
theorem Q7{c:Nat}(c0:Nat->Option (Nat×Nat))(uV:∀i,c0 i=some (i*c,c)):∀(vs:List Value) (k:Nat) (acc:Array Value),(k+vs.length)*c<=acc.size->(∀v∈vs,v.cells.size=c)->
    Instr.fill c0 acc ((vs.zipIdx k).map fun(v,i)=>(i,v))=some (acc.toList.take (k*c)++vs.flatMap (fun v=>v.cells.toList)++acc.toList.drop ((k+vs.length)*c)).toArray
  |[],k,acc,h,_=>by simp[Instr.fill]
  | v ::vs,k,acc,h,h1=>by
    simp only[List.length_cons]at h;have hv:=h1 v (by simp);have hsz:k*c+c<=acc.size:=by
      have:(k+1)*c<=(k+(vs.length+1))*c:=Nat.mul_le_mul_right _ (by omega);rw[Nat.add_mul,Nat.one_mul]at this;omega
    rw[List.zipIdx_cons,List.map_cons];simp only[Instr.fill,uV];rw[if_neg (by simp[hv];omega)];have Q8:=yP v.cells.toList acc (k*c) 0 (by simp[hv];exact hsz);simp only[Array.toArray_toList,Nat.add_zero,Array.length_toList,hv]at Q8;rw[Q8,Q7 c0 uV vs (k+1) _ (by simp[hv];rw[Nat.add_mul,Nat.add_mul]at*;omega) (fun u hu=>h1 u (by simp[hu]))]
    congr 2
    have hA:(acc.toList.take (k*c)).length=k*c:=by simp;omega
    have Q3:(acc.toList.take (k*c)++v.cells.toList).length=(k+1)*c:=by rw[List.length_append,hA,Array.length_toList,hv,Nat.add_mul,Nat.one_mul]
    simp only[List.flatMap_cons,List.length_cons];rw[List.take_left' Q3];have e5:(k+1+vs.length)*c=(k+1)*c+vs.length*c:=Nat.add_mul _ _ _;rw[e5,<-List.drop_drop,List.drop_left' Q3,List.drop_drop];simp only[List.append_assoc];rw[show k*c+c+vs.length*c=(k+(vs.length+1))*c by rw[Nat.add_mul,Nat.add_mul,Nat.one_mul];omega]
theorem Ld{P:Program}{t e:TypeId}{c bytes:Nat}(pE:El P t e c bytes)(vs:List Value)(h1:∀v∈vs,v.cells.size=c)(h0:0<vs.length)(hm:vs.length*c<=16777216)(w:World):
 (Instr.buildSlice t vs.length (vs.zipIdx.map fun(v,i)=>(i,v)).toArray).run P w= .ok (.slice (some ⟨w.heap.size,0,none⟩) vs.length vs.length) (w.alloc (.cells (vs.flatMap fun v=>v.cells.toList).toArray e)):=by
 obtain⟨i,z,ht,hi,hz,hc,_,Ul,hp⟩:=pE.ex;have mf:=Q7 (c:=c) (fun i=>some (i*c,c)) (by simp) vs 0 ((Array.range (vs.length*c)).map (z.cells[· %z.cells.size]!)) (by simp) h1
 simp only[Nat.zero_mul,List.take_zero,List.nil_append,Nat.zero_add]at mf;rw[List.drop_of_length_le (by simp)]at mf;simp only[List.append_nil]at mf;have hne:¬(vs.length*c>2^24):=by omega
 have KS:¬(vs.length*c=0):=by
  have:=Nat.mul_pos h0 hp;omega
 simp only[Instr.buildSlice,Sem.run_bind,run_underlying ht,Result.andThen_ok,sizeOf,typeInfo,run_program,hi,Sem.run_pure,hc,zeroValue,hz,if_neg hne,if_neg KS];simp only[mf,newRow];simp
section
variable{P:Program}{n:Nat}{W:bB}{fr:Fr}{L:List bz}{Q:Exit->Act->World->Prop}{ops:Array Oper}{rest:List Oper}{d:Nat}{dst:Option Tmp}{ty:TypeId}{pos:String}{after:Array Edge}{guard:Option (Nat×Bool)}
theorem ee{t e:TypeId}{c bytes m:Nat}{parts:Array (Nat×Operand)}{cs:Array Value}(vs:List Value)[pE:nS P t e c bytes](hp:mJ fr parts.toList=some (vs.zipIdx.map fun(v,i)=>(i,v)))(hm:vs.length=m)(h0:Nat.blt 0 m=true)(h1:∀v∈vs,v.cells.size=c)(hs:Nat.ble (m*c) 16777216=true)(hcs:cs=(vs.flatMap fun v=>v.cells.toList).toArray)(hn:Nat.blt d n=true)
 (h:∀g,TL P n W ops Q rest ((d,.slice (some ⟨g,0,none⟩) m m)::fr) (L++[ap g cs e])):TL P n W ops Q (⟨some d,.buildSlice t m parts,ty,pos,after,none⟩::rest) fr L:=by
 subst hm hcs;refine EH (fun a w hr=>?_) hn h;have e:(parts.map fun(i,x)=>(i,a.eval x))=(vs.zipIdx.map fun(v,i)=>(i,v)).toArray:=by
  rw[<-mK hr _ _ hp,<-Array.toList_map,Array.toArray_toList]
 rw[e];exact Ld pE.el vs h1 (Nat.le_of_ble_eq_true h0) (Nat.le_of_ble_eq_true hs) w
theorem sC{fn:Func}{R:Ending->World->Prop}(ke:fn.results=#[])(h:∀w,Mem W L w->R (.returned (.tuple #[])) w):E n W .normal (bodyPost P fn R) fr L:=
 ⟨fun a w hr hm=>⟨hr.defers,.tuple #[],by simp[results,ke],h w hm⟩⟩
end
end bH
namespace bH
open Go.RowKit bL db
structure qQ(α:Type) where
 c:Nat
 is:(Nat->Prop)->World->List Value->α->Prop
 len:∀{F w cs a},is F w cs a->cs.length=c
 stay:∀{F w w' cs a},is F w cs a->(∀k,F k->w'.heap[k]?=w.heap[k]?)->is F w' cs a
 mono:∀{F F' w cs a},is F w cs a->(∀k,F k->F' k)->is F' w cs a
def All:Nat->Prop:=fun _=>True
theorem rd_stay{w w':World}{b off:Nat}{cs:List Value}(h:Rd w b off cs)(hk:w'.heap[b]?=w.heap[b]?):Rd w' b off cs:=fun j u hj=>by
 rw[World.cell?_of_block (w:=w) (a:=⟨b,off+j,none⟩) hk];exact h j u hj
def gI{α:Type}(s:qQ α)(F:Nat->Prop)(w:World)(v:Value)(l:List α):Prop:=
 ∃base cap,v= .slice base l.length cap/\l.length<=cap/\cap<=maxLen/\(0<l.length->∃b off,base=some ⟨b,off,none⟩/\F b/\∀i (h:i<l.length),∃cs,s.is F w cs l[i]/\Rd w b (off+i*s.c) cs)
section
variable{α β:Type}{s:qQ α}{F F':Nat->Prop}{w w':World}{v:Value}{l:List α}
theorem gI.stay(h:gI s F w v l)(hk:∀k,F k->w'.heap[k]?=w.heap[k]?):gI s F w' v l:=
 let ⟨base,cap,h1,h2,h3,h4⟩:=h
 ⟨base,cap,h1,h2,h3,fun h0=>let ⟨b,off,h5,h6,h7⟩:=h4 h0;⟨b,off,h5,h6,fun i hi=>let ⟨cs,h8,h9⟩:=h7 i hi;⟨cs,s.stay h8 hk,rd_stay h9 (hk b h6)⟩⟩⟩
theorem gI.mono(h:gI s F w v l)(hk:∀k,F k->F' k):gI s F' w v l:=
 let ⟨base,cap,h1,h2,h3,h4⟩:=h
 ⟨base,cap,h1,h2,h3,fun h0=>let ⟨b,off,h5,h6,h7⟩:=h4 h0;⟨b,off,h5,hk b h6,fun i hi=>let ⟨cs,h8,h9⟩:=h7 i hi;⟨cs,s.mono h8 hk,h9⟩⟩⟩
theorem gI.nil:gI s F w (.slice none 0 0) []:=⟨none,0,rfl,Nat.le_refl _,by decide,fun h=>by simp at h⟩
def ra(f:α->List Value)(c:Nat)(hc:∀a,(f a).length=c)(p:α->Prop):qQ α:=
 ⟨c,fun _ _ cs a=>cs=f a/\p a,fun h=>by rw[h.1,hc],fun h _=>h,fun h _=>h⟩
def eI:qQ Int:=ra (fun n=>[.int .i64 n]) 1 (fun _=>rfl) bL.bX
def IP:qQ (List UInt8):=ra (fun s=>[str s]) 1 (fun _=>rfl) (fun s=>s.length<=9223372036854775807)
def a8(s:qQ α):qQ (List α):=
 ⟨1,fun F w cs l=>∃v,cs=[v]/\gI s F w v l,fun⟨_,h,_⟩=>by rw[h];rfl,fun⟨v,h1,h2⟩ hk=>⟨v,h1,h2.stay hk⟩,fun⟨v,h1,h2⟩ hk=>⟨v,h1,h2.mono hk⟩⟩
def Le(s:qQ α)(t:qQ β):qQ (α×β):=
  ⟨s.c+t.c,fun F w cs x=>∃c1 c2,cs=c1++c2/\s.is F w c1 x.1/\t.is F w c2 x.2,fun⟨_,_,h,h1,h2⟩=>by rw[h,List.length_append,s.len h1,t.len h2],
    fun⟨c1,c2,h,h1,h2⟩ hk=>⟨c1,c2,h,s.stay h1 hk,t.stay h2 hk⟩,fun⟨c1,c2,h,h1,h2⟩ hk=>⟨c1,c2,h,s.mono h1 hk,t.mono h2 hk⟩⟩
theorem gI.flat{f:α->List Value}{c:Nat}{hc:∀a,(f a).length=c}{p:α->Prop}(uV:0<c)(h:gI (ra f c hc p) F w v l):Sl w v l.length (l.flatMap f):=by
 obtain⟨base,cap,h1,h2,h3,h4⟩:=h;have hx:N9 w (fun cs a=>cs=f a) c v l:=⟨base,cap,h1,h2,h3,fun h0=>let ⟨b,off,h5,_,h7⟩:=h4 h0;⟨b,off,h5,fun i hi=>let ⟨cs,h8,h9⟩:=h7 i hi;⟨cs,h8.1,h9⟩⟩⟩;exact hx.flat hc uV fun cs a h=>h
theorem gI.Yk{f:α->List Value}{c:Nat}{hc:∀a,(f a).length=c}{p:α->Prop}(h:gI (ra f c hc p) F w v l):∀a∈l,p a:=fun a ha=>by
 obtain⟨i,hi,rfl⟩:=List.mem_iff_getElem.1 ha;obtain⟨base,cap,h1,h2,h3,h4⟩:=h;obtain⟨b,off,_,_,h7⟩:=h4 (by omega);obtain⟨cs,h8,_⟩:=h7 i hi;exact h8.2
theorem gI.of_flat{f:α->List Value}{c:Nat}{hc:∀a,(f a).length=c}{p:α->Prop}(h:Sl w v l.length (l.flatMap f))(hp:∀a∈l,p a)(_:∀b,v.ownBlock=some b->F b)(hF2:∀a n cp,v= .slice (some a) n cp->F a.block):gI (ra f c hc p) F w v l:=by
 obtain⟨base,cap,h1,h2,h3,h4⟩:=h;refine⟨base,cap,h1,h2,h3,fun h0=>?_⟩;obtain⟨b,off,h5,h6⟩:=h4 h0;refine⟨b,off,h5,hF2 ⟨b,off,none⟩ l.length cap (by rw[h1,h5]),fun i hi=>⟨f l[i],⟨rfl,hp _ (List.getElem_mem hi)⟩,fun j u hj=>?_⟩⟩;have OJ:j<c:=by rw[<-hc l[i]];exact(List.getElem?_eq_some_iff.1 hj).1
 have:=h6 (i*c+j) u (by rw[qe hc l i j hi OJ];exact hj);rw[Nat.add_assoc];exact this
def Yl(s:qQ α)(F:Nat->Prop)(cs:List Value)(a:α):bz:=
 ⟨none,F,fun w=>s.is F w cs a/\∀k,F k->k<w.heap.size,fun w h k hk=>h.2 k (hk.elim (fun h=>by cases h) id),fun w w' h hs hb=>⟨s.stay h.1 fun k hk=>hb k (.inr hk),fun k hk=>Nat.lt_of_lt_of_le (h.2 k hk) hs⟩⟩
def cY(s:qQ α)(F:Nat->Prop)(eM:List (List Value))(l:List α):bz:=
  ⟨none,F,fun w=>(eM.length=l.length/\∀i (h:i<l.length) (h':i<eM.length),s.is F w eM[i] l[i])/\∀k,F k->k<w.heap.size,fun w h k hk=>h.2 k (hk.elim (fun h=>by cases h) id),
    fun w w' h hs hb=>⟨⟨h.1.1,fun i hi kz=>s.stay (h.1.2 i hi kz) fun k hk=>hb k (.inr hk)⟩,fun k hk=>Nat.lt_of_lt_of_le (h.2 k hk) hs⟩⟩
end
def Vf(F:Nat->Prop)(v:Value):Nat->Prop:=fun k=>F k\/v.ownBlock=some k
theorem nY{c:Nat}:∀(eM:List (List Value)) (_:∀x∈eM,x.length=c) (i j:Nat) (h:i<eM.length),j<c->eM.flatten[i*c+j]?=eM[i][j]?
 |x::r,hc,0,j,h,hj=>by
  rw[List.flatten_cons,List.getElem?_append_left (by rw[hc x (by simp)];omega)];simp
 |x::r,hc,i+1,j,h,hj=>by
  have hx:=hc x (by simp);have ih:=nY r (fun y hy=>hc y (by simp[hy])) i j (by simpa using h) hj;rw[List.flatten_cons,List.getElem?_append_right (by rw[hx,Nat.succ_mul];omega),hx];simp only[List.getElem_cons_succ];rw[<-ih,Nat.succ_mul]
  congr 1;omega
section
variable{α:Type}{s:qQ α}{F:Nat->Prop}{w:World}{v:Value}{l:List α}
theorem AC{e:TypeId}{eM:List (List Value)}(hr:(aI e s.c v l.length eM.flatten).holds w)(he:(cY s F eM l).holds w)(_:0<s.c):gI s (Vf F v) w v l:=by
 have hr:w.ownsRow 0 e s.c v l.length eM.flatten:=hr;obtain⟨⟨h1,h2⟩,h3⟩:=he;have hlen:∀x∈eM,x.length=s.c:=fun x hx=>by
  obtain⟨i,hi,rfl⟩:=List.mem_iff_getElem.1 hx;exact s.len (h2 i (by omega) hi)
 obtain⟨base,cap,h4,h5,h6,h7⟩:=Sl.cD hr;refine⟨base,cap,h4,h5,h6,fun h0=>?_⟩;have hb:∃g,v= .slice (some ⟨g,0,none⟩) l.length cap/\v.ownBlock=some g:=by
  rcases hr.2 with⟨hv,h0'⟩|⟨g,Ew,kp,hv,_⟩
  ·omega
  ·rw[h4]at hv
   simp only[Value.slice.injEq,true_and]at hv;obtain⟨rfl,rfl⟩:=hv;exact⟨g,h4,by rw[h4];rfl⟩
 obtain⟨g,hv,hg⟩:=hb;rw[h4]at hv;simp only[Value.slice.injEq,and_true]at hv;subst hv;obtain⟨b,off,h8,h9⟩:=h7 h0;simp only[Option.some.injEq,Addr.mk.injEq,and_true]at h8;obtain⟨rfl,rfl⟩:=h8;refine⟨g,0,rfl,.inr hg,fun i hi=>⟨eM[i]'(by omega),s.mono (h2 i hi (by omega)) fun k hk=> .inl hk,fun j u hj=>?_⟩⟩;have OJ:j<s.c:=by rw[<-hlen (eM[i]'(by omega)) (List.getElem_mem _)];exact(List.getElem?_eq_some_iff.1 hj).1
 have:=h9 (i*s.c+j) u (by rw[nY eM hlen i j (by omega) OJ];exact hj);rw[Nat.add_assoc];exact this
theorem AD{e:TypeId}{eM:List (List Value)}{n c:Nat}(hr:(aI e c v n eM.flatten).holds w)(he:(cY s F eM l).holds w):∀k,Vf F v k->k<w.heap.size:=fun k hk=>hk.elim (he.2 k) fun h=>((aI e c v n eM.flatten).lt w hr k (.inl h))
theorem mh{F2:Nat->Prop}{eM:List (List Value)}{cs:List Value}{a:α}(he:(cY s F eM l).holds w)(hs:s.is F2 w cs a)(h2:∀k,F2 k->k<w.heap.size):(cY s (fun k=>F k\/F2 k) (eM++[cs]) (l++[a])).holds w:=by
 obtain⟨⟨h1,h3⟩,h4⟩:=he;refine⟨⟨by simp[h1],fun i hi kz=>?_⟩,fun k hk=>hk.elim (h4 k) (h2 k)⟩
 by_cases c:i<l.length
 ·rw[List.getElem_append_left (by omega),List.getElem_append_left c]
  exact s.mono (h3 i c (by omega)) fun k hk=> .inl hk
 ·have IN:i=l.length:=by simp at hi;omega
  subst IN;rw[List.getElem_append_right (by omega),List.getElem_append_right (Nat.le_refl _)];simp only[h1,Nat.sub_self,List.getElem_cons_zero];exact s.mono hs fun k hk=> .inr hk
theorem gZ:(cY s (fun _=>False) [] []).holds w:=⟨⟨rfl,fun i h=>by simp at h⟩,fun k h=>h.elim⟩
end
section
variable{P:Program}{n:Nat}{W:bB}{fr:Fr}{L:List bz}{Q:Exit->Act->World->Prop}{ops:Array Oper}{rest:List Oper}{d:Nat}
theorem Mem.Lf{w:World}(o:bz)(i j:Nat)(js:List Nat){o1 o2:bz}{R:List bz}(h:Mem W L w)(hn:([i,j]++js).Nodup)(h1:L[i]?=some o1)(h2:L[j]?=some o2)(hR:R=js.filterMap fun i=>L[i]?)(hf:∀k,o.dF k->o1.dF k\/o2.dF k)(hh:∀w,o1.holds w->o2.holds w->o.holds w):Mem W (R++[o]) w:=by
 refine Mem.merge o (h.pick ([i,j]++js) hn ?_) hf (hh w);rw[List.filterMap_append,<-hR]
 congr 1
 rw[List.filterMap_cons_some (by exact h1),List.filterMap_cons_some (by exact h2)];rfl
theorem rb(o:bz)(i j:Nat)(js:List Nat){o1 o2:bz}{R:List bz}(hn:([i,j]++js).Nodup)(h1:L[i]?=some o1)(h2:L[j]?=some o2)(hR:R=js.filterMap fun i=>L[i]?)(hf:∀k,o.dF k->o1.dF k\/o2.dF k)(hh:∀w,o1.holds w->o2.holds w->o.holds w)(h:TL P n W ops Q rest fr (R++[o])):TL P n W ops Q rest fr L:=⟨fun a w hr hm=>h.go a w hr (hm.Lf o i j js hn h1 h2 hR hf hh)⟩
theorem AE{e:Exit}(o:bz)(i j:Nat)(js:List Nat){o1 o2:bz}{R:List bz}(hn:([i,j]++js).Nodup)(h1:L[i]?=some o1)(h2:L[j]?=some o2)(hR:R=js.filterMap fun i=>L[i]?)(hf:∀k,o.dF k->o1.dF k\/o2.dF k)(hh:∀w,o1.holds w->o2.holds w->o.holds w)(h:E n W e Q fr (R++[o])):E n W e Q fr L:=⟨fun a w hr hm=>h.go a w hr (hm.Lf o i j js hn h1 h2 hR hf hh)⟩
theorem Mem.Lg{w:World}(o:bz)(h:Mem W L w)(hf:∀k,¬o.dF k)(hh:o.holds w):Mem W (L++[o]) w:=
 h.append (Gr.refl w) (dL.one hh fun k hk=>absurd hk (hf k))
theorem ly{c:Code}(o:bz)(hf:∀k,¬o.dF k)(hh:∀w,o.holds w)(h:T P n W c Q fr (L++[o])):T P n W c Q fr L:=⟨fun a w hr hm=>h.go a w hr (hm.Lg o hf (hh w))⟩
theorem Cr(o:bz)(hf:∀k,¬o.dF k)(hh:∀w,o.holds w)(h:TL P n W ops Q rest fr (L++[o])):TL P n W ops Q rest fr L:=⟨fun a w hr hm=>h.go a w hr (hm.Lg o hf (hh w))⟩
theorem mR{e:Exit}(o:bz)(hf:∀k,¬o.dF k)(hh:∀w,o.holds w)(h:E n W e Q fr (L++[o])):E n W e Q fr L:=⟨fun a w hr hm=>h.go a w hr (hm.Lg o hf (hh w))⟩
theorem sD{α:Type}{f:α->List Value}{c:Nat}(hc:∀a,(f a).length=c){t e:TypeId}{p x:Operand}{i g off cap k m:Nat}{agg:Bool}{l:List α}{a:α}{v:Value}(hT:Ty P t agg c)(hi:L[i]?=some (aI e c (.slice (some ⟨g,0,none⟩) m cap) m (l.flatMap f)))(hp:ev fr p=some (.pointer (some ⟨g,off,none⟩)))(Ss:off=k*c)(hk:k<l.length)(hm0:m=l.length)(hx:ev fr x=some v)(hv:v.cells=(f a).toArray)(h1:(f a).all Value.oneCell'=true)
 {ty:TypeId} {pos:String} {after:Array Edge}
 (h:TL P n W ops Q rest fr (L.set i (aI e c (.slice (some ⟨g,0,none⟩) m cap) m ((l.set k a).flatMap f)))):
 TL P n W ops Q (⟨none,.store t p x,ty,pos,after,none⟩::rest) fr L:=ia rfl fun act w hr hm K hK=>by
 subst Ss hm0;have pD:w.ownsRow 0 e c (.slice (some ⟨g,0,none⟩) l.length cap) l.length (l.flatMap f):=hm.get hi;have U3:=pD;rcases pD.2 with⟨h0,_⟩|⟨g',Ew,kp,he,xX,hg,Sr,U2,hcs,Ca⟩
 ·cases h0
 simp only[Value.slice.injEq,Option.some.injEq,Addr.mk.injEq,and_true,true_and]at he;obtain⟨rfl,rfl⟩:=he;have Iy:k*c+c<=kp.size:=by
  have:(k+1)*c<=cap*c:=Nat.mul_le_mul_right _ (by omega);rw[hcs];rw[Nat.add_mul,Nat.one_mul]at this;omega
 have hst:=run_storeCells_at P g (k*c) e (f a) 0 kp w hg (by simp[hc];exact Iy) (List.all_eq_true.1 h1);simp only[Nat.add_zero,hc]at hst;have e':(execOp act.eval ⟨none,.store t p x,ty,pos,after,none⟩).run P w= .ok .skip (w.setRow g (kp.toList.take (k*c)++f a++kp.toList.drop (k*c+c)).toArray):=by
  simp[execOp,hr.ev hp,hr.ev hx,Instr.storeAt,Instr.sureAddr,storeVar,hT.size,hv,hst,hc]
 unfold Oper.wp;rw[e'];refine hK _ _ (h.go _ _ (hr.mc undef) (hm.ua hi ⟨rfl,rfl,rfl,by simp,fun k _ hk=>setRow_other w g k _ (fun e=>hk (by subst e;rfl))⟩ ?_ fun k hk=> .inl hk));have hlen:=mN hc l;refine⟨by rw[mN hc];simp,.inr ⟨g,cap,_,rfl,xX,setRow_heap w g kp _ e _ hg,Sr,U2,by simp[hc];omega,?_⟩⟩;have e1:(l.set k a).flatMap f=(l.flatMap f).take (k*c)++f a++(l.flatMap f).drop (k*c+c):=by
  have IM:((l.take k).flatMap f).length=k*c:=by rw[mN hc,List.length_take,Nat.min_eq_left (by omega)]
  have Cs:((l.take (k+1)).flatMap f).length=k*c+c:=by rw[mN hc,List.length_take,Nat.min_eq_left (by omega),Nat.add_mul,Nat.one_mul]
  have t1:(l.flatMap f).take (k*c)=(l.take k).flatMap f:=by
   rw[<-IM]
   conv=>lhs;rw[<-List.take_append_drop k l,List.flatMap_append]
   simp
  have t2:(l.flatMap f).drop (k*c+c)=(l.drop (k+1)).flatMap f:=by
   rw[<-Cs]
   conv=>lhs;rw[<-List.take_append_drop (k+1) l,List.flatMap_append]
   simp
  rw[t1,t2,List.set_eq_take_append_cons_drop,if_pos hk];simp
 rw[e1,<-Ca];have SF:k*c+c<=l.length*c:=by
  have:(k+1)*c<=l.length*c:=Nat.mul_le_mul_right _ (by omega);rw[Nat.add_mul,Nat.one_mul]at this;exact this
 simp only[List.take_take,List.take_append,List.length_append,hc,List.length_take,Array.length_toList];rw[Nat.min_eq_left (by omega:k*c<=kp.size),Nat.min_eq_right (by omega:k*c<=l.length*c),Nat.min_eq_left (by omega:k*c<=l.length*c)];rw[List.take_of_length_le (by rw[hc];omega:(f a).length<=l.length*c-k*c)]
 congr 1
 rw[List.drop_take]
theorem lz{i:Nat}{o:bz}{φ:Prop}(hi:L[i]?=some o)(Ym:∀w,o.holds w->φ)(h:φ->TL P n W ops Q rest fr L):TL P n W ops Q rest fr L:=⟨fun a w hr hm=>(h (Ym w (hm.get hi))).go a w hr hm⟩
theorem eN{c:Code}{i:Nat}{o:bz}{φ:Prop}(hi:L[i]?=some o)(Ym:∀w,o.holds w->φ)(h:φ->T P n W c Q fr L):T P n W c Q fr L:=⟨fun a w hr hm=>(h (Ym w (hm.get hi))).go a w hr hm⟩
end
end bH
namespace bH
open Go.RowKit bL db
open Go.WideMaps (KeyLaw)
def vD(v:Value):Option (DataW Value×List MemPlace):=some (.held v,[])
structure qi(P:Program)(k:TypeId)(κ:Type) where
 kv:κ->Value
 ok:κ->Prop
 law:KeyLaw P k
 key:∀x,ok x->∃l,keyOf P k (kv x)=some l
 inj:∀x y,kv x=kv y->x=y
section
variable{P:Program}{k:TypeId}{κ:Type}
theorem qi.keyed(K:qi P k κ):Maps.Keyed P k:=Maps.Keyed.of_law K.law
variable(K:qi P k κ)
def Ct(D:DataW Value)(m:κ->Option Value)(n:Nat):Prop:=
 Maps.size D=n/\∀x l,K.ok x->keyOf P k (K.kv x)=some l->match m x with|some v=>Maps.has D l=true/\(∀z,D.atKey l z= .held v)|none=>Maps.has D l=false
def dr(g:Nat)(m:κ->Option Value)(n:Nat):bz:=
  ⟨some g,fun _=>False,fun w=>∃D,w.ownsMap P k vD g n D/\Ct K D m n,fun w ⟨D,h,_⟩ q hq=>by simp only[Option.some.injEq,or_false]at hq;subst hq;exact h.lt,
    fun w w' ⟨D,⟨es,clock,hb,h⟩,h2⟩ _ hk=>⟨D,⟨es,clock,(hk g (.inl rfl)).trans hb,h⟩,h2⟩⟩
theorem IQ{w:World}{R:Value->Option (DataW Value×List MemPlace)}{b n:Nat}{D:DataW Value}(h:w.ownsMap P k R b n D):w.ownsMap P k R b (Maps.size D) D:=by
 obtain⟨es,clock,hb,F,hs,rfl⟩:=h;exact⟨es,clock,hb,F,by simp[Maps.size,length_sorted],rfl⟩
theorem yQ:Ct K (.map []) (fun _=>none) 0:=⟨rfl,fun _ _ _ _=>rfl⟩
theorem IR[DecidableEq κ]{w:World}{g n:Nat}{D:DataW Value}{m:κ->Option Value}(ho:w.ownsMap P k vD g n D)(h:Ct K D m n){x:κ}{l:Lit}(hx:K.ok x)(hl:keyOf P k (K.kv x)=some l)(v:Value):
 Ct K (D.put l (.held v)) (fun y=>if y=x then some v else m y) (if(m x).isSome then n else n+1):=by
 have hk:=K.keyed.key hl;have ht:=ho.tidy K.keyed;refine⟨?_,fun y l' hy Vg=>?_⟩
 ·have h2:=h.2 x l hx hl
  rw[Maps.size_put ht]
  cases e:m x with
  |none=>rw[e]at h2;rw[h2];simp[h.1]
  |some u=>rw[e]at h2;rw[h2.1];simp[h.1]
 ·by_cases e:y=x
  ·subst e
   rw[hl]at Vg;simp only[Option.some.injEq]at Vg;subst Vg;simp only[if_true];exact⟨Maps.has_put_same ht.isMap hk _,fun z=>Maps.atKey_put_same ht.isMap hk _ _⟩
  ·have hne:l'≠l:=fun e'=>e (K.inj _ _ (K.keyed.inj (by rw[<-e'];exact Vg) hl))
   simp only[if_neg e];have h2:=h.2 y l' hy Vg;rw[Maps.has_put_other hne]
   cases e2:m y with
   |none=>rw[e2]at h2;exact h2
   |some u=>rw[e2]at h2;exact⟨h2.1,fun z=>by rw[Maps.atKey_put_other hne];exact h2.2 z⟩
theorem AF{D:DataW Value}{m:κ->Option Value}{n:Nat}(h:Ct K D m n){x:κ}{l:Lit}(hx:K.ok x)(hl:keyOf P k (K.kv x)=some l)(z:Value):D.atKey l (.held z)= .held ((m x).getD z)/\Maps.has D l=(m x).isSome:=by
 have h2:=h.2 x l hx hl
 cases e:m x with
 |none=>rw[e]at h2;exact⟨Maps.atKey_of_not_has h2 _,h2⟩
 |some u=>rw[e]at h2;exact⟨h2.2 _,h2.1⟩
section
variable{W:bB}{fr:Fr}{L:List bz}{Q:Exit->Act->World->Prop}{ops:Array Oper}{rest:List Oper}{n d:Nat}{dst:Option Tmp}{ty:TypeId}{pos:String}{after:Array Edge}{guard:Option (Nat×Bool)}{i g c:Nat}{t e:TypeId}{m:κ->Option Value}{x:κ}{z:Value}{xm xk xv:Operand}
theorem OK(ht:P.underlying t=some (.map k e))(hz:∀w,(zeroValue e).run P w= .ok z w)(hi:L[i]?=some (dr K g m c))(hm:ev fr xm=some (.map (some g)))(hk:ev fr xk=some (K.kv x))(hx:K.ok x):RR P n W ⟨dst,.lookup t xm xk false,ty,pos,after,guard⟩ fr L ((m x).getD z):= .mk fun a w hr hw=>by
 obtain⟨D,ho,h⟩:=hw.get hi;obtain⟨l,hl⟩:=K.key x hx;obtain⟨v,ps,hrun,hv⟩:=ho.lookup K.keyed ht (hz w) (zd:= .held z) (zp:=[]) rfl hl;have h2:=(AF K h hx hl z).1;simp only[vD,Option.some.injEq,Prod.mk.injEq]at hv;rw[h2]at hv;have kD:v=(m x).getD z:=by simpa using hv.1
 subst kD;simp[execOp,hr.ev hm,hr.ev hk,hrun,Result.andThen]
theorem kq(ht:P.underlying t=some (.map k e))(hz:∀w,(zeroValue e).run P w= .ok z w)(hi:L[i]?=some (dr K g m c))(hm:ev fr xm=some (.map (some g)))(hk:ev fr xk=some (K.kv x))(hx:K.ok x):RR P n W ⟨dst,.lookup t xm xk true,ty,pos,after,guard⟩ fr L (.tuple #[(m x).getD z,.bool (m x).isSome]):= .mk fun a w hr hw=>by
 obtain⟨D,ho,h⟩:=hw.get hi;obtain⟨l,hl⟩:=K.key x hx;obtain⟨v,ps,hrun,hv⟩:=ho.look_ok K.keyed ht (hz w) (zd:= .held z) (zp:=[]) rfl hl;have h2:=AF K h hx hl z;simp only[vD,Option.some.injEq,Prod.mk.injEq]at hv;rw[h2.1]at hv;rw[h2.2]at hrun;have kD:v=(m x).getD z:=by simpa using hv.1
 subst kD;simp[execOp,hr.ev hm,hr.ev hk,hrun,Result.andThen]
theorem pf(ht:P.underlying t=some (.map k e))(hi:L[i]?=some (dr K g m c))(hm:ev fr xm=some (.map (some g))):RR P n W ⟨dst,.call {callee:= .builtin .len,args:=#[xm],argTypes:=#[t]},ty,pos,after,guard⟩ fr L (.int .i64 c):= .mk fun a w hr hw=>by
 obtain⟨D,ho,h⟩:=hw.get hi;have hrun:=ho.len ht ty;rw[h.1]at hrun;simp[BigFrame.execOp_builtin,BigFrame.builtin_len,hr.ev hm,hrun]
theorem qj(hn:Nat.blt d n=true)(h:∀g,TL P n W ops Q rest ((d,.map (some g))::fr) (L++[dr K g (fun _=>none) 0])):
 TL P n W ops Q (⟨some d,.makeMap t none,ty,pos,after,none⟩::rest) fr L:=ia rfl fun a w hr hm KK hK=>by
 have e1:(execOp a.eval ⟨some d,.makeMap t none,ty,pos,after,none⟩).run P w= .ok (.value (.map (some w.heap.size))) (w.alloc (.map #[] 0)):=by
  simp[execOp,run_makeMap,Result.andThen]
 unfold Oper.wp;rw[e1];exact hK _ _ ((h w.heap.size).go _ _ (hr.put hn _) (hm.append (jJ w _) (nQ.one ⟨.map [],World.ownsMap_made w P k vD,yQ K⟩ fun q hq=>by simp only[dr,Option.some.injEq]at hq;omega)))
theorem Hc[DecidableEq κ]{w:World}(ht:P.underlying t=some (.map k e))(h:(dr K g m c).holds w)(hx:K.ok x)(hc:c<=1152921504606846976)(v:Value):
 ∃w',(Instr.mapUpdate t (.map (some g)) (K.kv x) v).run P w= .ok () w'/\(dr K g (fun y=>if y=x then some v else m y) (if(m x).isSome then c else c+1)).holds w'/\w.grownBy w' (some g):=by
 obtain⟨D,ho,h⟩:=h;obtain⟨l,hl⟩:=K.key x hx;obtain⟨w',hrun,Ax,hg⟩:=ho.update K.keyed ht (by unfold maxLen;omega) (val:=v) (d:= .held v) (ps:=[]) hl rfl;have hp:=IR K ho h hx hl v;exact⟨w',hrun,⟨_,by have:=IQ Ax;rwa [hp.1]at this,hp⟩,hg⟩
theorem iF[DecidableEq κ]{v:Value}(ht:P.underlying t=some (.map k e))(hi:L[i]?=some (dr K g m c))(hm:ev fr xm=some (.map (some g)))(hk:ev fr xk=some (K.kv x))(hv:ev fr xv=some v)(hx:K.ok x)(hc:c<=1152921504606846976)
 (h:TL P n W ops Q rest fr (L.set i (dr K g (fun y=>if y=x then some v else m y) (if(m x).isSome then c else c+1)))):
 TL P n W ops Q (⟨none,.mapUpdate t xm xk xv,ty,pos,after,none⟩::rest) fr L:=ia rfl fun a w hr hw KK hK=>by
 obtain⟨w',hrun,Ax,hg⟩:=Hc K ht (hw.get hi) hx hc v;have e1:(execOp a.eval ⟨none,.mapUpdate t xm xk xv,ty,pos,after,none⟩).run P w= .ok .skip w':=by
  simp[execOp,hr.ev hm,hr.ev hk,hr.ev hv,hrun,Result.andThen]
 unfold Oper.wp;rw[e1];exact hK _ _ (h.go _ _ (hr.mc undef) (hw.ua hi hg Ax fun q hq=> .inl hq))
end
def jV(g:Nat)(z:Value)(f:κ->Value)(b:Nat):bz:=
  ⟨some g,fun _=>False,fun w=>∃m n,n<=b/\(dr K g m n).holds w/\∀x,K.ok x->(m x).getD z=f x,fun w ⟨m,n,_,h,_⟩ q hq=>(dr K g m n).lt w h q hq,
    fun w w' ⟨m,n,h1,h,h2⟩ hs hk=>⟨m,n,h1,(dr K g m n).stay w w' h hs hk,h2⟩⟩
section
variable{W:bB}{fr:Fr}{L:List bz}{Q:Exit->Act->World->Prop}{ops:Array Oper}{rest:List Oper}{n d:Nat}{dst:Option Tmp}{ty:TypeId}{pos:String}{after:Array Edge}{guard:Option (Nat×Bool)}{i g b:Nat}{t e:TypeId}{f f':κ->Value}{x:κ}{z v:Value}{xm xk xv:Operand}
theorem yR{w:World}(ht:P.underlying t=some (.map k e))(hz:∀w,(zeroValue e).run P w= .ok z w)(h:(jV K g z f b).holds w)(hx:K.ok x):(Instr.lookup t (.map (some g)) (K.kv x) false).run P w= .ok (f x) w:=by
 obtain⟨m,n,_,⟨D,ho,hi⟩,hf⟩:=h;obtain⟨l,hl⟩:=K.key x hx;obtain⟨v,ps,hrun,hv⟩:=ho.lookup K.keyed ht (hz w) (zd:= .held z) (zp:=[]) rfl hl;have h2:=(AF K hi hx hl z).1;simp only[vD,Option.some.injEq,Prod.mk.injEq]at hv;rw[h2,hf x hx]at hv;have kD:v=f x:=by simpa using hv.1
 rw[<-kD];exact hrun
theorem vH(ht:P.underlying t=some (.map k e))(hz:∀w,(zeroValue e).run P w= .ok z w)(hh:∀w,Mem W L w->(jV K g z f b).holds w)(hm:ev fr xm=some (.map (some g)))(hk:ev fr xk=some (K.kv x))(hx:K.ok x)(hv:f x=v):RR P n W ⟨dst,.lookup t xm xk false,ty,pos,after,guard⟩ fr L v:= .mk fun a w hr hw=>by
 subst hv;have hrun:=yR K ht hz (hh w hw) hx;simp[execOp,hr.ev hm,hr.ev hk,hrun,Result.andThen]
theorem mi(ht:P.underlying t=some (.map k e))(hz:∀w,(zeroValue e).run P w= .ok z w)(hi:L[i]?=some (jV K g z f b))(hm:ev fr xm=some (.map (some g)))(hk:ev fr xk=some (K.kv x))(hx:K.ok x)(hv:f x=v):RR P n W ⟨dst,.lookup t xm xk false,ty,pos,after,guard⟩ fr L v:=
 vH K ht hz (fun _ hw=>hw.get hi) hm hk hx hv
theorem Hd(hn:Nat.blt d n=true)(h:∀g,TL P n W ops Q rest ((d,.map (some g))::fr) (L++[jV K g z (fun _=>z) 0])):
 TL P n W ops Q (⟨some d,.makeMap t none,ty,pos,after,none⟩::rest) fr L:=ia rfl fun a w hr hm KK hK=>by
 have e1:(execOp a.eval ⟨some d,.makeMap t none,ty,pos,after,none⟩).run P w= .ok (.value (.map (some w.heap.size))) (w.alloc (.map #[] 0)):=by
  simp[execOp,run_makeMap,Result.andThen]
 unfold Oper.wp;rw[e1];exact hK _ _ ((h w.heap.size).go _ _ (hr.put hn _) (hm.append (jJ w _) (nQ.one ⟨fun _=>none,0,Nat.le_refl _,⟨.map [],World.ownsMap_made w P k vD,yQ K⟩,fun _ _=>rfl⟩ fun q hq=>by simp only[jV,Option.some.injEq]at hq;omega)))
theorem vJ[DecidableEq κ]{w:World}(ht:P.underlying t=some (.map k e))(h:(jV K g z f b).holds w)(hx:K.ok x)(hc:b<=1152921504606846976)(hf:∀y,K.ok y->f' y=if y=x then v else f y):
 ∃w',(Instr.mapUpdate t (.map (some g)) (K.kv x) v).run P w= .ok () w'/\(jV K g z f' (b+1)).holds w'/\w.grownBy w' (some g):=by
 obtain⟨m,n,h1,h2,h3⟩:=h;obtain⟨w',hrun,ho,hg⟩:=Hc K ht h2 hx (by omega) v;refine⟨w',hrun,⟨_,_,?_,ho,fun y hy=>?_⟩,hg⟩
 ·split<;>omega
 ·rw[hf y hy]
  by_cases e:y=x
  ·simp[e]
  ·simp only[if_neg e];exact h3 y hy
theorem EQ[DecidableEq κ](f':κ->Value)(ht:P.underlying t=some (.map k e))(hi:L[i]?=some (jV K g z f b))(hm:ev fr xm=some (.map (some g)))(hk:ev fr xk=some (K.kv x))(hv:ev fr xv=some v)(hx:K.ok x)(hc:b<=1152921504606846976)(hf:∀y,K.ok y->f' y=if y=x then v else f y)
 (h:TL P n W ops Q rest fr (L.set i (jV K g z f' (b+1)))):
 TL P n W ops Q (⟨none,.mapUpdate t xm xk xv,ty,pos,after,none⟩::rest) fr L:=ia rfl fun a w hr hw KK hK=>by
 obtain⟨w',hrun,Ax,hg⟩:=vJ K ht (hw.get hi) hx hc hf;have e1:(execOp a.eval ⟨none,.mapUpdate t xm xk xv,ty,pos,after,none⟩).run P w= .ok .skip w':=by
  simp[execOp,hr.ev hm,hr.ev hk,hr.ev hv,hrun,Result.andThen]
 unfold Oper.wp;rw[e1];exact hK _ _ (h.go _ _ (hr.mc undef) (hw.ua hi hg Ax fun q hq=> .inl hq))
end
end
end bH
namespace bH
open Go.RowKit bL db
theorem Xm{P:Program}{n:Nat}{W:bB}{fr:Fr}{L:List bz}{dst:Option Tmp}{ty:TypeId}{pos:String}{after:Array Edge}{guard:Option (Nat×Bool)}{x:Operand}{a:Addr}(hx:ev fr x=some (.pointer (some a))):RR P n W ⟨dst,.nilCheck x,ty,pos,after,guard⟩ fr L (.pointer (some a)):= .mk fun act w hr _=>by
 simp[execOp,hr.ev hx]
end bH
namespace bH
open Go.RowKit bL db
section
variable{P:Program}{n:Nat}{W:bB}{fr:Fr}{L:List bz}{Q:Exit->Act->World->Prop}{ops:Array Oper}{rest:List Oper}{d:Nat}{ty:TypeId}{pos:String}{after:Array Edge}
theorem mS{t e:TypeId}{x y:Operand}{bytes m:Nat}{k k':IntKind}{z:Value}[nS P t e 1 bytes][aW P e #[z]](hx:ev fr x=some (.int k (m:Int)))(hy:ev fr y=some (.int k' (m:Int)))(hb:bytes*m<=281474976710656)(pF:m<=9223372036854775807)(hn:Nat.blt d n=true)
 (h:∀g,TL P n W ops Q rest ((d,.slice (some ⟨g,0,none⟩) m m)::fr) (L++[aI e 1 (.slice (some ⟨g,0,none⟩) m m) m (List.replicate m z)])):TL P n W ops Q (⟨some d,.makeSlice t x y,ty,pos,after,none⟩::rest) fr L:=
 nX hx hy (Nat.le_refl _) hb pF hn fun g=>yO (i:=L.length) 1 (List.getElem?_concat_length ..) (by rw[size_madeCells]) (Nat.le_refl _) pF (by
  have e1:(madeCells #[z] (m*1)).toList.take (m*1)=List.replicate m z:=by
   rw[QR,Nat.mul_one,List.take_of_length_le (by simp)]
  rw[e1,List.set_append_right _ _ (Nat.le_refl _),Nat.sub_self];exact h g)
end
end bH
namespace bH
open Go.RowKit bL db
section
variable{P:Program}{n:Nat}{W:bB}{fr:Fr}{L:List bz}{Q:Exit->Act->World->Prop}{ops:Array Oper}{rest:List Oper}
theorem Mem.Yn{w:World}{i:Nat}{o:bz}(o':bz)(h:Mem W L w)(hi:L[i]?=some o)(hh:∀w,o.holds w->o'.holds w)(hb:∀k,o'.uu=some k->o.uu=some k)(Q0:∀k,o'.more k->o.dF k:=by intro k hk;exact False.elim hk):Mem W (L.set i o') w:=
 h.ua hi ⟨rfl,rfl,rfl,Nat.le_refl _,fun _ _ _=>rfl⟩ (hh w (h.get hi)) (fun k hk=> .inl (hb k hk)) Q0
theorem SG{e:Exit}{i:Nat}{o:bz}(o':bz)(hi:L[i]?=some o)(hh:∀w,o.holds w->o'.holds w)(hb:∀k,o'.uu=some k->o.uu=some k)(Q0:∀k,o'.more k->o.dF k)(h:E n W e Q fr (L.set i o')):E n W e Q fr L:= .mk fun a w hr hm=>h.go a w hr (hm.Yn o' hi hh hb Q0)
end
theorem yS{P:Program}{k:TypeId}{κ:Type}{K:qi P k κ}{g b b':Nat}{z:Value}{f f':κ->Value}(hb:b<=b')(hf:∀x,K.ok x->f' x=f x)(w:World)(h:(jV K g z f b).holds w):(jV K g z f' b').holds w:=by
 obtain⟨m,n,h1,h2,h3⟩:=h;exact⟨m,n,by omega,h2,fun x hx=>by rw[hf x hx];exact h3 x hx⟩
end bH
namespace bH
open Go.RowKit bL db
section
variable{P:Program}{n:Nat}{W:bB}{fr:Fr}{L:List bz}{Q:Exit->Act->World->Prop}{ops:Array Oper}{rest:List Oper}
theorem Mem.Lh{w:World}{i:Nat}{o:bz}(o':bz)(h:Mem W L w)(hi:L[i]?=some o)(hh:∀w,o.holds w->o'.holds w)(hf:∀k,o'.dF k->o.dF k):Mem W (L.set i o') w:=by
  have hlen:i<L.length:=(List.getElem?_eq_some_iff.1 hi).1;have Xn:=h.owns.all i o hi;refine⟨h.low,fun j q hj=>?_,fun j j' q q' k_ hj k9 k hk jD=>?_⟩
  · by_cases e:i=j
    · subst e
      rw[List.getElem?_set_self hlen]at hj;simp only[Option.some.injEq]at hj;subst hj;exact⟨hh w Xn.1,fun k hk=>Xn.2 k (hf k hk)⟩
    · rw[List.getElem?_set_ne e]at hj
      exact h.owns.all j q hj
  · by_cases e:i=j
    · subst e
      rw[List.getElem?_set_self hlen]at hj;rw[List.getElem?_set_ne k_]at k9;simp only[Option.some.injEq]at hj;subst hj;exact h.owns.apart i j' o q' k_ hi k9 k (hf k hk) jD
    · rw[List.getElem?_set_ne e]at hj
      by_cases e':i=j'
      · subst e'
        rw[List.getElem?_set_self hlen]at k9;simp only[Option.some.injEq]at k9;subst k9;exact h.owns.apart j i q o k_ hj hi k hk (hf k jD)
      · rw[List.getElem?_set_ne e']at k9
        exact h.owns.apart j j' q q' k_ hj k9 k hk jD
theorem He{c:Code}{i:Nat}{o:bz}(o':bz)(hi:L[i]?=some o)(hh:∀w,o.holds w->o'.holds w)(hf:∀k,o'.dF k->o.dF k)(h:T P n W c Q fr (L.set i o')):T P n W c Q fr L:= .mk fun a w hr hm=>h.go a w hr (hm.Lh o' hi hh hf)
theorem mT{e:Exit}{i:Nat}{o:bz}(o':bz)(hi:L[i]?=some o)(hh:∀w,o.holds w->o'.holds w)(hf:∀k,o'.dF k->o.dF k)(h:E n W e Q fr (L.set i o')):E n W e Q fr L:= .mk fun a w hr hm=>h.go a w hr (hm.Lh o' hi hh hf)
end
end bH
namespace bH
open Go.RowKit bL db bO d_
inductive gj(F:Nat->Prop)(w:World):List Value->Rx->Prop
 |mk {k:Int} {c:C4} {kids:List Rx} {base:Option Addr} {cap:Nat} (eM:List (List Value)):bL.bX k->kids.length<=cap->cap<=maxLen->eM.length=kids.length->
  (∀i (h:i<kids.length) (h':i<eM.length),gj F w eM[i] kids[i])->(0<kids.length->∃b off,base=some ⟨b,off,none⟩/\F b/\∀i (_:i<kids.length) (h':i<eM.length),Rd w b (off+i*6) eM[i])->
  gj F w (.int .i64 k::(cC c++[.slice base kids.length cap])) (.mk k c kids)
theorem gj.SH{F:Nat->Prop}{w:World}{cs:List Value}{t:Rx}(h:gj F w cs t):cs.length=6:=by
 cases h;rfl
theorem gj.AG{F:Nat->Prop}{w w':World}{cs:List Value}{t:Rx}(h:gj F w cs t)(hk:∀k,F k->w'.heap[k]?=w.heap[k]?):gj F w' cs t:=by
 induction h with
 |mk eM h2 h3 h4 h5 h6 h7 ih=>
  refine .mk eM h2 h3 h4 h5 ih fun hl=>?_;obtain⟨b,off,e,hF,hr⟩:=h7 hl;exact⟨b,off,e,hF,fun i hi kz=>rd_stay (hr i hi kz) (hk b hF)⟩
theorem gj.mono{F F':Nat->Prop}{w:World}{cs:List Value}{t:Rx}(h:gj F w cs t)(hk:∀k,F k->F' k):gj F' w cs t:=by
 induction h with
 |mk eM h2 h3 h4 h5 h6 h7 ih=>
  refine .mk eM h2 h3 h4 h5 ih fun hl=>?_;obtain⟨b,off,e,hF,hr⟩:=h7 hl;exact⟨b,off,e,hk b hF,hr⟩
def qk:qQ Rx:=⟨6,gj,fun h=>h.SH,fun h hk=>h.AG hk,fun h hk=>h.mono hk⟩
def iP(k:Int)(c:C4)(v:Value):List Value:= .int .i64 k::(cC c++[v])
def lR(k:Int)(c:C4)(v:Value):Value:= .agg (iP k c v).toArray
theorem re{F:Nat->Prop}{w:World}{cs:List Value}{k:Int}{c:C4}{kids:List Rx}:gj F w cs (.mk k c kids)↔∃v,cs=iP k c v/\bL.bX k/\gI qk F w v kids:=by
 constructor
 ·intro h
  cases h with
  |mk eM h2 h3 h4 h5 h6 h7=>
   refine⟨_,rfl,h2,_,_,rfl,h3,h4,fun hl=>?_⟩;obtain⟨b,off,e,hF,hr⟩:=h7 hl;exact⟨b,off,e,hF,fun i hi=>⟨eM[i]'(by omega),h6 i hi (by omega),hr i hi (by omega)⟩⟩
 ·rintro⟨v,rfl,h2,base,cap,rfl,h3,h4,h5⟩
  by_cases hl:0<kids.length
  ·obtain⟨b,off,e,hF,hr⟩:=h5 hl
   have hlen:(List.ofFn fun i:Fin kids.length=>Classical.choose (hr i i.2)).length=kids.length:=by simp
   refine .mk (List.ofFn fun i:Fin kids.length=>Classical.choose (hr i i.2)) h2 h3 h4 hlen (fun i hi kz=>?_) fun _=>⟨b,off,e,hF,fun i hi kz=>?_⟩
   ·rw[List.getElem_ofFn];exact(Classical.choose_spec (hr i hi)).1
   ·rw[List.getElem_ofFn];exact(Classical.choose_spec (hr i hi)).2
  ·have:kids=[]:=List.eq_nil_of_length_eq_zero (by omega)
   subst this;exact .mk [] h2 h3 h4 rfl (fun i hi=>absurd hi (by simp)) fun h=>absurd h (by simp)
def jW(F:Nat->Prop)(w:World)(v:Value)(r:Rx):Prop:=∃vk,v=lR r.kind r.nU vk/\bL.bX r.kind/\gI qk F w vk r.kids
theorem jW.stay{F:Nat->Prop}{w w':World}{v:Value}{r:Rx}(h:jW F w v r)(hk:∀k,F k->w'.heap[k]?=w.heap[k]?):jW F w' v r:=
 let ⟨vk,h1,h2,h3⟩:=h;⟨vk,h1,h2,h3.stay hk⟩
theorem jW.mono{F F':Nat->Prop}{w:World}{v:Value}{r:Rx}(h:jW F w v r)(hk:∀k,F k->F' k):jW F' w v r:=
 let ⟨vk,h1,h2,h3⟩:=h;⟨vk,h1,h2,h3.mono hk⟩
def mU(w:World):Nat->Prop:=fun k=>k<w.heap.size
theorem jW.gr{w w':World}{v:Value}{r:Rx}(h:jW (mU w) w v r)(hg:Gr w w'):jW (mU w') w' v r:=
 (h.stay fun k hk=>hg.block k hk).mono fun _ hk=>Nat.lt_of_lt_of_le hk hg.size
theorem jW.is{F:Nat->Prop}{w:World}{v:Value}{r:Rx}(h:jW F w v r):∃cs,v= .agg cs.toArray/\gj F w cs r:=by
 obtain⟨k,c,kids⟩:=r;obtain⟨vk,rfl,h1,h2⟩:=h;exact⟨_,rfl,re.2 ⟨vk,rfl,h1,h2⟩⟩
theorem gj.r{F:Nat->Prop}{w:World}{cs:List Value}{r:Rx}(h:gj F w cs r):jW F w (.agg cs.toArray) r:=by
 obtain⟨k,c,kids⟩:=r;obtain⟨vk,rfl,h1,h2⟩:=re.1 h;exact⟨vk,rfl,h1,h2⟩
theorem lA{F:Nat->Prop}{w:World}{b off:Nat}{l:List Rx}(h:∀i (h:i<l.length),∃cs,qk.is F w cs l[i]/\Rd w b (off+i*qk.c) cs){k:Nat}(hk:k<l.length):
 ∃base cap,Rd w b (off+k*6) (iP l[k].kind l[k].nU (.slice base l[k].kids.length cap))/\jW F w (lR l[k].kind l[k].nU (.slice base l[k].kids.length cap)) l[k]:=by
 obtain⟨cs,h1,hr⟩:=h k hk;have h1:gj F w cs l[k]:=h1;generalize l[k]=r at*;obtain⟨kd,c,kids⟩:=r;obtain⟨vk,rfl,a1,a2⟩:=re.1 h1;have a2':=a2;obtain⟨base,cap,rfl,_⟩:=a2';exact⟨base,cap,hr,_,rfl,a1,a2⟩
def vO(r:Re)(k:Nat):List (Re×Nat):=match r with
 | .Ay a b=>[(a,k+1),(b,k+1+a.size)]
 | .Az a b=>[(a,k+1),(b,k+1+a.size)]
 | .star a=>[(a,k+1)]
 |_=>[]
inductive tm(F:Nat->Prop)(w:World):List Value->Re×Nat->Prop
 |mk {r:Re} {k:Nat} {vk:Value} {base:Option Addr} {cap:Nat} (eM:List (List Value)):vk.oneCell'=true->(vO r k).length<=cap->cap<=maxLen->eM.length=(vO r k).length->
  (∀i (h:i<(vO r k).length) (h':i<eM.length),tm F w eM[i] (vO r k)[i])->(0<(vO r k).length->∃b off,base=some ⟨b,off,none⟩/\F b/\∀i (_:i<(vO r k).length) (h':i<eM.length),Rd w b (off+i*8) eM[i])->
  tm F w (.int .i64 r.kind::(cC r.nU++[vk,.int .i64 (k:Int),.slice base (vO r k).length cap])) (r,k)
theorem tm.AG{F:Nat->Prop}{w w':World}{cs:List Value}{t:Re×Nat}(h:tm F w cs t)(hk:∀k,F k->w'.heap[k]?=w.heap[k]?):tm F w' cs t:=by
 induction h with
 |mk eM h2 h3 h4 h5 h6 h7 ih=>
  refine .mk eM h2 h3 h4 h5 ih fun hl=>?_;obtain⟨b,off,e,hF,hr⟩:=h7 hl;exact⟨b,off,e,hF,fun i hi kz=>rd_stay (hr i hi kz) (hk b hF)⟩
theorem tm.mono{F F':Nat->Prop}{w:World}{cs:List Value}{t:Re×Nat}(h:tm F w cs t)(hk:∀k,F k->F' k):tm F' w cs t:=by
 induction h with
 |mk eM h2 h3 h4 h5 h6 h7 ih=>
  refine .mk eM h2 h3 h4 h5 ih fun hl=>?_;obtain⟨b,off,e,hF,hr⟩:=h7 hl;exact⟨b,off,e,hk b hF,hr⟩
section
variable{P:Program}{n:Nat}{W:bB}{fr:Fr}{L:List bz}{Q:Exit->Act->World->Prop}{ops:Array Oper}{rest:List Oper}
theorem Mem.OL{w:World}{i:Nat}{o:bz}(o':bz)(h:Mem W L w)(hi:L[i]?=some o)(hh:o'.holds w)(hf:∀k,o'.dF k->o.dF k):Mem W (L.set i o') w:=by
  have hlen:i<L.length:=(List.getElem?_eq_some_iff.1 hi).1;have Xn:=h.owns.all i o hi;refine⟨h.low,fun j q hj=>?_,fun j j' q q' k_ hj k9 k hk jD=>?_⟩
  · by_cases e:i=j
    · subst e
      rw[List.getElem?_set_self hlen]at hj;simp only[Option.some.injEq]at hj;subst hj;exact⟨hh,fun k hk=>Xn.2 k (hf k hk)⟩
    · rw[List.getElem?_set_ne e]at hj
      exact h.owns.all j q hj
  · by_cases e:i=j
    · subst e
      rw[List.getElem?_set_self hlen]at hj;rw[List.getElem?_set_ne k_]at k9;simp only[Option.some.injEq]at hj;subst hj;exact h.owns.apart i j' o q' k_ hi k9 k (hf k hk) jD
    · rw[List.getElem?_set_ne e]at hj
      by_cases e':i=j'
      · subst e'
        rw[List.getElem?_set_self hlen]at k9;simp only[Option.some.injEq]at k9;subst k9;exact h.owns.apart j i q o k_ hj hi k hk (hf k jD)
      · rw[List.getElem?_set_ne e']at k9
        exact h.owns.apart j j' q q' k_ hj k9 k hk jD
end
end bH
namespace g_
open Go.RowKit bL db bO bH
set_option maxRecDepth 100000 in
theorem SI(x y:C4)(w:World):(Op.equalIn 10000 65 (.agg #[v64 x.a,v64 x.b,v64 x.c,v64 x.d]) (.agg #[v64 y.a,v64 y.b,v64 y.c,v64 y.d])).run Tryz.prog w= .ok (decide (x=y)) w:=by
  have e:(Op.equalIn 10000 65 (.agg #[v64 x.a,v64 x.b,v64 x.c,v64 x.d]) (.agg #[v64 y.a,v64 y.b,v64 y.c,v64 y.d])).run Tryz.prog w= .ok ((dO x.a==dO y.a)&&((dO x.b==dO y.b)&&((dO x.c==dO y.c)&&(dO x.d==dO y.d)))) w:=by
    unfold v64;rw[run_equalIn_array (P:=Tryz.prog) w 9999 (n:=4) (e:=63) _ _ rfl rfl];have h1:Tryz.prog.cellsOf 63=1:=rfl;simp[Op.eqItems,go_sem,List.range_succ_eq_map,h1]
    by_cases e1:dO x.a=dO y.a<;>by_cases e2:dO x.b=dO y.b<;>by_cases e3:dO x.c=dO y.c<;>by_cases e4:dO x.d=dO y.d<;>simp[e1,e2,e3,e4]
  rw[e]
  congr 1
  by_cases h:x=y
  · subst h;simp
  · rw[decide_eq_false h]
    simp only[Sy,Bool.and_eq_false_iff]
    by_cases h1:x.a=y.a
    · by_cases h2:x.b=y.b
      · by_cases h3:x.c=y.c
        · by_cases h4:x.d=y.d
          · exact absurd (C4.ext' h1 h2 h3 h4) h
          · simp[h4]
        · simp[h3]
      · simp[h2]
    · simp[h1]
end g_
namespace bH
open Go.RowKit bL db
section
variable{P:Program}{n:Nat}{W:bB}{fr:Fr}{L:List bz}{Q:Exit->Act->World->Prop}{ops:Array Oper}{rest:List Oper}{d:Nat}{dst:Option Tmp}{ty:TypeId}{pos:String}{after:Array Edge}{guard:Option (Nat×Bool)}
def gA(G:Option Nat):Option Addr:=G.map fun g=>⟨g,0,none⟩
theorem Cu{w:World}{e:TypeId}{size m:Nat}{v:Value}{xs:List Value}(h:(aI e size v m xs).holds w):∃G cap,v= .slice (gA G) m cap/\m<=cap/\cap<=maxLen/\(G=none->cap=0):=by
 have h:w.ownsRow 0 e size v m xs:=h;rcases h.2 with⟨hv,h0⟩|⟨g,cap,kp,hv,_,_,h1,h2,_⟩
 ·exact⟨none,0,by rw[hv,h0];rfl,by omega,by decide,fun _=>rfl⟩
 ·exact⟨some g,cap,hv,h1,h2,fun h=>by cases h⟩
theorem SJ{c:Code}{i size m:Nat}{e:TypeId}{v:Value}{xs:List Value}(hi:L[i]?=some (aI e size v m xs))(h:∀G cap,v= .slice (gA G) m cap->m<=cap->cap<=9223372036854775807->(G=none->cap=0)->T P n W c Q fr L):T P n W c Q fr L:= .mk fun a w hr hm=>by
 obtain⟨G,cap,h1,h2,h3,h4⟩:=Cu (hm.get hi);exact(h G cap h1 h2 h3 h4).go a w hr hm
theorem Li{c:Code}{i size m:Nat}{e:TypeId}{v:Value}{xs:List Value}(hi:L[i]?=some (aI e size v m xs))(h0:0<m)(h:∀g cap,v= .slice (some ⟨g,0,none⟩) m cap->m<=cap->cap<=9223372036854775807->T P n W c Q fr L):T P n W c Q fr L:=by
 refine SJ hi fun G cap hv h1 h2 h3=>?_
 cases G with
 |none=>have:=h3 rfl;omega
 |some g=>exact h g cap hv h1 h2
end
end bH
namespace bH
open Go.RowKit bL db bO d_
theorem Cv(k:Int)(w:World):Calls Tryz.prog 79 #[.int .i64 k] w (bU (ret (.int .i64 (vh k))) w):=by
 unfold vh;refine enter (args:=[.int .i64 k]) (n:=13) Tryz.func79 rfl rfl rfl ?_
 by_cases k1:k=1
 ·rw[if_pos k1]
  try refine GA ?_
  exact da
 rw[if_neg k1]
 by_cases k2:k=2
 ·rw[if_pos k2]
  try refine GA ?_
  exact da
 rw[if_neg k2]
 by_cases k3:k=3
 ·rw[if_pos k3]
  try refine GA ?_
  exact da
 rw[if_neg k3]
 by_cases k6:k=6
 ·rw[if_pos k6]
  try refine GA ?_
  exact da
 rw[if_neg k6]
 by_cases k4:k=4
 ·rw[if_pos k4]
  try refine GA ?_
  exact da
 rw[if_neg k4]
 by_cases k5:k=5
 ·rw[if_pos k5]
  try refine GA ?_
  exact da
 rw[if_neg k5]
 try refine GA ?_
 exact da
theorem SK{r:Rx}{deep n:Nat}(h:(jc r deep n).1=0):(jc r deep n).2<=100:=by
 obtain⟨e,_,h1,h2⟩:=AA _ r deep n (jc r deep n).2 (Nat.le_refl _) (Prod.ext h rfl);have:=h1.sz;omega
theorem Lj(w:World):(Instr.build 65 (#[]:Array (Nat×Value))).run Tryz.prog w= .ok (kh C4.zero) w:=by kernel_rfl
theorem Vh(x y:C4)(w:World):(Op.equalIn 10000 65 (kh x) (kh y)).run Tryz.prog w= .ok (decide (x=y)) w:=g_.SI x y w
theorem Hf{W0:World}{W:bB}{L:List bz}{b off:Nat}{cs:List Value}(ho:lc W0 W)(h:Rd W0 b off cs)(j:Nat)(v:Value)(hj:cs[j]?=some v):At W L ⟨b,off+j,none⟩ v:=fI ho (h j v hj)
theorem OM{k:Int}{c:C4}{vk:Value}{j:Nat}{v:Value}(h:(cC c)[j]?=some v):(iP k c vk).toArray[0+1+j]?=some v:=by
 have hj:j<(cC c).length:=(List.getElem?_eq_some_iff.1 h).1;rw[List.getElem?_toArray,show 0+1+j=j+1 by omega];show(cC c++[vk])[j]?=_
 rw[List.getElem?_append_left hj];exact h
set_option maxRecDepth 100000 in
theorem tp(w0:World)(gn:Nat):∀(N:Nat) (r:Rx),nC r<=N->∀(v:Value) (deep n:Nat) (w:World) (B:bB),jW (mU w0) w0 v r->n<=100->deep<=31->lc w0 B->Mem B [ap gn #[.int .i64 (n:Int)] 3] w->
    Calls Tryz.prog 62 #[v,.int .i64 (deep:Int),.pointer (some ⟨gn,0,none⟩)] w (dc ⟨fun(_:Unit)=>True,fun _=> .int .i64 (jc r deep n).1,fun _=>[ap gn #[.int .i64 ((jc r deep n).2:Int)] 3]⟩ B)
  |0,r,h,_,_,_,_,_,_,_,_,_,_=>by have:=yI r;omega
  | N + 1,.mk k c kids,hN,v,deep,n,w,B,hv,hn,hd,ho,hm=>by
    have IH:=tp w0 gn N;obtain⟨vk,rfl,Yo,Hg⟩:=hv;dsimp only[Rx.kind,Rx.nU,Rx.kids]at Yo Hg⊢;obtain⟨bk,ck,rfl,gD,xZ,Lk⟩:=Hg;unfold maxLen at xZ;rw[jc];rw[nC]at hN;have Xo:=fun w=>Cv k w;have Es:=Vh c C4.zero;have hcz:=Lj;refine eg hm (args:=[lR k c (.slice bk kids.length ck),.int .i64 (deep:Int),.pointer (some ⟨gn,0,none⟩)]) (n:=55) Tryz.func62 rfl rfl rfl ?_;clear hm;refine bJ (aV (bK rfl rfl rfl fun g3=>?_));refine zL ?_
    repeat(first|refine GC ?_|refine gV (J ak.ty rfl (ah (i:=0) rfl rfl)) ?_|refine gV (eK (r:=((n+1:Nat):Int)) rfl rfl (by omega) (by omega) (by omega)) ?_|refine GB ?_)
    refine bD (i:=0) rfl rfl rfl rfl rfl rfl ?_;rw[show(#[.int .i64 (n:Int)]:Array Value).setIfInBounds 0 (.int .i64 ((n+1:Nat):Int))=#[.int .i64 ((n+1:Nat):Int)]from rfl];refine zL ?_
    by_cases c1:100<n+1
    · rw[if_pos c1]
      repeat(first|refine GA ?_|refine gV (J ak.ty rfl (ah (i:=0) rfl rfl)) ?_)
      exact b_ rfl rfl fun w hm=>hm.bV (S:=⟨fun(_:Unit)=>True,fun _=> .int .i64 2,fun _=>[ap gn #[.int .i64 ((n+1:Nat):Int)] 3]⟩) () trivial [0] (by decide) rfl
    rw[if_neg c1]
    by_cases c2:30<deep
    · rw[if_pos c2]
      repeat(first|refine GA ?_|refine gV (J ak.ty rfl (ah (i:=0) rfl rfl)) ?_)
      exact b_ rfl rfl fun w hm=>hm.bV (S:=⟨fun(_:Unit)=>True,fun _=> .int .i64 7,fun _=>[ap gn #[.int .i64 ((n+1:Nat):Int)] 3]⟩) () trivial [0] (by decide) rfl
    rw[if_neg c2]
    repeat(first|refine GA ?_|refine gV (J ak.ty rfl (ah (i:=0) rfl rfl)) ?_)
    by_cases c3:vh k≠(kids.length:Int)
    · rw[if_pos c3]
      (repeat refine bJ ?_)
      refine dw ([ap g3 (iP k c (.slice bk kids.length ck)).toArray 68]) (.calm 0 (.calm 1 (.calm 2 (.calm 3 (.calm 4 (.calm 5 (.calm 6 (.calm 7 (.done))))))))) (bC [1]) ?_
      repeat(first|refine GW ?_|(refine GN ?_;first|refine QW (J ak.ty rfl (ah (i:=0) rfl rfl)) ?_))
      refine kf rfl (iT aj.en rfl rfl) (fun w hm=>Xo _) rfl rfl rfl ?_
      repeat(first|(refine GN ?_;first|refine QW QP ?_|refine QW (J ak.ty rfl (ah (i:=0) rfl rfl)) ?_|refine QW (cB (b:=true) rfl rfl (decide_eq_true c3)) ?_|refine GX ?_)|refine GW ?_)
      try refine GA ?_
      exact b_ rfl rfl fun w hm=>hm.bV (S:=⟨fun(_:Unit)=>True,fun _=> .int .i64 1,fun _=>[ap gn #[.int .i64 ((n+1:Nat):Int)] 3]⟩) () trivial [0] (by decide) rfl
    rw[if_neg c3];have Q9:vh k=(kids.length:Int):=by simpa using c3
    rw[Q9]at Xo
    (repeat refine bJ ?_)
    refine dw ([ap g3 (iP k c (.slice bk kids.length ck)).toArray 68]) (.calm 0 (.calm 1 (.calm 2 (.calm 3 (.calm 4 (.calm 5 (.calm 6 (.calm 7 (.done))))))))) (bC [1]) ?_
    repeat(first|refine GW ?_|(refine GN ?_;first|refine QW (J ak.ty rfl (ah (i:=0) rfl rfl)) ?_))
    refine kf rfl (iT aj.en rfl rfl) (fun w hm=>Xo _) rfl rfl rfl ?_
    repeat(first|(refine GN ?_;first|refine QW QP ?_|refine QW (J ak.ty rfl (ah (i:=0) rfl rfl)) ?_|refine QW (cB (b:=false) rfl rfl (decide_eq_false (fun h=>h rfl))) ?_|refine GX ?_)|refine GW ?_)
    try refine GA ?_
    generalize hD:(decide (k=3) !=decide (c≠C4.zero))=D;have hD':(!(decide (k=3)==!decide (c=C4.zero)))=D:=by
      rw[<-hD,decide_not]
      cases decide (k=3)<;>cases decide (c=C4.zero)<;>rfl
    (repeat refine bJ ?_)
    refine dw ([ap g3 (iP k c (.slice bk kids.length ck)).toArray 68]) (.calm 0 (.calm 1 (.calm 2 (.calm 3 (.calm 4 (.calm 5 (.calm 6 (.calm 7 (.calm 8 (.done)))))))))) (bC [1]) ?_
    repeat(first|(refine GN ?_;first|refine QW QP ?_|refine QW (J ak.ty rfl (ah (i:=0) rfl rfl)) ?_|refine QW (cJ (b:=decide (k=3)) rfl rfl rfl) ?_|refine QW (aK (cs:=cC c) ak.ty rfl rfl (fun j v hj=>ah (i:=0) rfl (OM hj))) ?_|refine QW (aU rfl hcz) ?_|refine QW (vd rfl rfl (by kernel_rfl) Es rfl) ?_|refine QW (Iv (c:=D) aT.eq rfl rfl hD') ?_|refine GX ?_)|refine GW ?_)
    clear hD hD' Es hcz Xo
    cases D with
    | true=>
      rw[if_pos rfl]
      try refine GA ?_
      exact b_ rfl rfl fun w hm=>hm.bV (S:=⟨fun(_:Unit)=>True,fun _=> .int .i64 1,fun _=>[ap gn #[.int .i64 ((n+1:Nat):Int)] 3]⟩) () trivial [0] (by decide) rfl
    | false=>
      rw[if_neg (by decide)]
      repeat(first|refine GA ?_|refine gV (J ak.ty rfl (ah (i:=1) rfl rfl)) ?_)
      refine pI [0] ?_;refine cX (ι:=Nat×Nat) (fun(j,q)=>j<=kids.length/\q<=100/\ub kids (deep+1) (n+1)=ub (kids.drop j) (deep+1) q) (fun(j,_)=>[(1,.int .i64 (deep:Int)),(2,.pointer (some ⟨gn,0,none⟩)),(40,.slice bk kids.length ck),(41,.int .i64 (kids.length:Int)),(42,.int .i64 (j:Int))])
        (fun(_,q)=>[ap gn #[.int .i64 (q:Int)] 3]) (fun(j,_)=>kids.length-j) (0,n+1) ⟨Nat.zero_le _,by omega,rfl⟩ ?_
      rintro⟨j,q⟩ ⟨hj,hq,hk⟩;dsimp only at hj hq hk⊢;rw[hk]
      by_cases c4:j<kids.length
      · obtain⟨b,off,rfl,_,hr⟩:=Lk (by omega)
        obtain⟨bj,cj,eV,Q_⟩:=lA hr c4;have yC:kids.drop j=kids[j]::kids.drop (j+1):=List.drop_eq_getElem_cons c4;rw[yC,ub]at hk⊢;have hsz:=vj (List.getElem_mem c4);have hle:=fun h=>SK (r:=kids[j]'c4) (deep:=deep+1) (n:=q) h;have du:=fun(L:List bz) j v hj=>Hf (L:=L) ho eV j v hj;generalize kids[j]=r at*;generalize r.kids.length=m at*
        repeat(first|refine GA ?_|refine gV (aH (j:=j) aT.eq ak.ty rfl rfl c4) ?_|refine gV (aK ak.ty rfl rfl (du _)) ?_)
        refine aF rfl fun g8=>?_;refine zL ?_;refine fU 1 (cs':=(iP r.kind r.nU (.slice bj m cj)).toArray) ?_;refine zL ?_
        repeat(first|refine GC ?_|refine gV (aE (i:=1) ak.ty rfl rfl rfl) ?_|refine gV (eK (r:=((deep+1:Nat):Int)) rfl rfl (by omega) (by omega) (by omega)) ?_|refine GB ?_)
        refine aP [0] [1] (by decide) rfl rfl (yG aj.en rfl rfl rfl rfl) (fun w hm hb=>IH r (by omega) _ (deep+1) q w _ Q_ hq (by omega) (ho.on hm (by intro o ho;simp at ho⊢;simp[ho])) hb) rfl rfl rfl ?_;intro _ _;dsimp only;refine zL ?_
        by_cases e1:(jc r (deep+1) q).1=0
        · rw[if_neg (by simpa using e1)]
          rw[if_neg (by simpa using e1)]at hk;have B4:=hle e1;rw[e1];generalize (jc r (deep+1) q).2=q' at*
          try refine GA ?_
          refine bR [1] ?_;exact aY (j+1,q') ⟨by show j+1<=kids.length;omega,B4,rfl⟩ (by show kids.length-(j+1)<kids.length-j;omega)
        · rw[if_pos e1]
          generalize jc r (deep+1) q=z at*
          repeat(first|refine GC ?_|refine gV (cB (b:=true) rfl rfl (decide_eq_true e1)) ?_|refine GB ?_)
          exact b_ rfl rfl fun w hm=>hm.bV (S:=⟨fun(_:Unit)=>True,fun _=> .int .i64 z.1,fun _=>[ap gn #[.int .i64 (z.2:Int)] 3]⟩) () trivial [1] (by decide) rfl
      · obtain rfl:j=kids.length:=by omega
        rw[List.drop_length,ub]at hk⊢
        try refine GA ?_
        exact b_ rfl rfl fun w hm=>hm.bV (S:=⟨fun(_:Unit)=>True,fun _=> .int .i64 0,fun _=>[ap gn #[.int .i64 (q:Int)] 3]⟩) () trivial [0] (by decide) rfl
def Ll(r:Rx):Int:=(jc r 1 0).1
theorem nZ(v:Value)(r:Rx)(w:World)(hv:jW (mU w) w v r):Calls Tryz.prog 41 #[v] w (bU (ret (.int .i64 (Ll r))) w):=by
 have hc:=fun gn w' B ho hm=>tp w gn _ r (Nat.le_refl _) v 1 0 w' B hv (by omega) (by omega) ho hm;obtain⟨vk,rfl,_,hs⟩:=hv;obtain⟨bk,ck,rfl,-⟩:=hs;generalize r.kids.length=m at*;refine enter (args:=[lR r.kind r.nU (.slice bk m ck)]) (n:=6) Tryz.func41 rfl rfl rfl ?_;refine bJ (aV (bK rfl rfl rfl fun g1=>?_))
 try refine GA ?_
 refine aF rfl fun g3=>?_;refine zL ?_;refine bD (i:=1) rfl rfl rfl rfl rfl rfl ?_;refine zL ?_
 repeat(first|refine GA ?_|refine gV (aE (i:=0) ak.ty rfl rfl rfl) ?_)
 refine aP [1] [0] (by decide) rfl rfl (yG aj.en rfl rfl rfl rfl) (fun w hm hb=>hc g3 w _ ((lc.self _).on hm (by intro o ho;simp at ho⊢;simp[ho])) hb) rfl rfl rfl ?_;intro _ _;dsimp only;unfold Ll
 try refine GA ?_
 exact da
end bH
section
open Go.RowKit bL db bO
attribute [local go_sem] U9 Yg Q4 U_
theorem IS{w:World}{g:Nat}{x:C4}(h:Wr w g 0 (cC x)):w.cell? ⟨g,0,none⟩=some (v64 x.a)/\w.cell? ⟨g,1,none⟩=some (v64 x.b)/\w.cell? ⟨g,2,none⟩=some (v64 x.c)/\w.cell? ⟨g,3,none⟩=some (v64 x.d):=
 ⟨(h 0 _ rfl).1,(h 1 _ rfl).1,(h 2 _ rfl).1,(h 3 _ rfl).1⟩
theorem IT{w:World}{g:Nat}{x:C4}{T:TypeId}(h:w.heap[g]?=some (.cells #[.int .u64 (dO x.a),.int .u64 (dO x.b),.int .u64 (dO x.c),.int .u64 (dO x.d)] T (0,0))):Wr w g 0 (cC x):=fun j u hj=>by
 rw[Nat.zero_add,cell_of_row w g j _ T (0,0) h];exact⟨by simpa[cC]using hj,frozen_of_row w g j _ T h⟩
theorem Hh{w:World}{B:Nat}(hB:w.heap.size=B)(x:C4)(T:TypeId):Wr (w.alloc (.cells #[.int .u64 (dO x.a),.int .u64 (dO x.b),.int .u64 (dO x.c),.int .u64 (dO x.d)] T)) B 0 (cC x):=
 IT (Oh w _ B hB)
theorem jJ(w:World)(o:Obj):Below w.heap.size w (w.alloc o):=(Below.refl _ _).alloc (Nat.le_refl _) _
theorem sE{w:World}{g:Nat}{x:C4}(h:Wr w g 0 (cC x))(i:Nat)(hi:i<4):w.cell? ⟨g,i,none⟩=some (.int .u64 (dO (x.get i)))/\w.frozen? ⟨g,i,none⟩=false:=by
 have:=h i _ (K1 x i hi);rw[Nat.zero_add]at this;exact this
theorem IU{w:World}{g:Nat}{x:C4}(h:Wr w g 0 (cC x))(i:Nat)(hi:i<4)(v:BitVec 64):Wr (w.setCell ⟨g,i,none⟩ (.int .u64 (dO v))) g 0 (cC (x.set i v)):=by
 have:=h.set i (by simp[cC];omega) (v64 v);rw[Nat.zero_add,K2 x i hi v]at this;exact this
theorem Cw(lo hi:Int)(w:World)(h1:bX lo)(h2:bX hi):
    Calls Tryz.prog 35 #[.int .i64 lo,.int .i64 hi] w fun e w'=>e= .returned (kh (dx lo hi))/\Below w.heap.size w w':=by
  obtain⟨l1,l2⟩:=h1;obtain⟨m1,m2⟩:=h2;unfold kh;have ql:Below w.heap.size w ((w.alloc (.cells #[.int .u64 0,.int .u64 0,.int .u64 0,.int .u64 0] 65)).alloc (.cells #[.int .u64 0,.int .u64 0,.int .u64 0,.int .u64 0] 65))/\Wr ((w.alloc (.cells #[.int .u64 0,.int .u64 0,.int .u64 0,.int .u64 0] 65)).alloc (.cells #[.int .u64 0,.int .u64 0,.int .u64 0,.int .u64 0] 65)) w.heap.size 0 (cC C4.zero)/\Wr ((w.alloc (.cells #[.int .u64 0,.int .u64 0,.int .u64 0,.int .u64 0] 65)).alloc (.cells #[.int .u64 0,.int .u64 0,.int .u64 0,.int .u64 0] 65)) (w.heap.size+1) 0 (cC C4.zero):=
    ⟨(((Below.refl _ _).alloc (Nat.le_refl _) _).alloc (by simp) _),((Hh rfl C4.zero _).gr (jJ _ _)),(Hh (by simp) C4.zero _)⟩
  obtain⟨B,hB⟩:∃B,B=w.heap.size:=⟨_,rfl⟩;rw[<-hB]at ql
  go_enter Tryz.func35,Tryz.ntmps35
  go_upto_region 2 with(fail)
  rw[<-hB];have Yp:w.heap.size<=B:=by omega
  have aao:B<=w.heap.size:=by omega
  clear hB
  go_cut [6] (fun s6 w'=>w'=((w.alloc (.cells #[.int .u64 0,.int .u64 0,.int .u64 0,.int .u64 0] 65)).alloc (.cells #[.int .u64 0,.int .u64 0,.int .u64 0,.int .u64 0] 65))/\s6= .int .i64 (max lo 0))
  case first=>
    go_wp2
    all_goals
      go_meet
      case rel=>exact⟨rfl,by congr 1<;>omega⟩
  case rest =>
    obtain⟨rfl,rfl⟩:=hcut;obtain⟨b0,uv⟩:∃b0:Nat,(b0:Int)=max lo 0:=⟨(max lo 0).toNat,by omega⟩;have hF:dx lo hi=C4.fV C4.zero b0 (min hi 255+1-b0).toNat:=by unfold dx;rw[<-uv];rfl
    have HF:=Lib.hid hF;rw[<-uv];clear hF uv;obtain⟨uz,Ra,Um⟩:=ql;obtain⟨N,hN⟩:∃N,N=(min hi 255+1-b0).toNat:=⟨_,rfl⟩;have HN:=Lib.hid hN;have N_:0<N->(b0:Int)+N=min hi 255+1:=fun h=>by omega
    have Yq:N=0->min hi 255<(b0:Int):=fun h=>by omega
    have Uq:N=0\/b0+N<=256:=by omega
    clear hN;rcases(show 255<hi\/hi<=255 by omega)with hh|hh
    all_goals
      go_wp2_with fail
      go_loopg [6] N (fun g c wr=>∃i:Nat,i+g=N/\c= .int .i64 ((b0+i:Nat):Int)/\Below B w wr/\Wr wr B 0 (cC C4.zero)/\Wr wr (B+1) 0 (cC (C4.fV C4.zero b0 i)))
      case atStart=>exact⟨0,by omega,rfl,uz,Ra,Um⟩
      case round=>
        obtain⟨i,kz,rfl,hb,hr,hx⟩:=hrel;clear uz Ra Um
        by_cases hlt:i<N
        · have hbb:((b0+i:Nat):Int)<=hi:=by have:=N_ (by omega);omega
          have Vi:b0+i<=255:=by omega
          have hstep:=K3 C4.zero b0 i;generalize hbn:b0+i=b at hbb Vi hstep⊢;have h4:b/64<4:=by omega
          have cx:∀w',Up wr.drew w'->w'.cell? ⟨B+1,b/64,none⟩=some (.int .u64 (dO ((C4.fV C4.zero b0 i).get (b/64)))):=fun w' hw=>(sE ((hx.gr (Gr.drew _)).gr hw) (b/64) h4).1;have hand:=IC b (by omega);have ON:=OF (b %64) (Nat.mod_lt _ (by decide));have HS0:=Lib.hid hstep;have HI:=Lib.hid kz;clear N_ Yq Uq hstep kz
          go_wp2_with fail
          refine db 9 (List.replicate 9 true) rfl (by kernel_rfl) (by kernel_rfl) (by intro c a d v w h;cases d<;>exact h) (Up wr.drew) (Iq _) (Gr.refl _) ?_;simp only[List.take_succ_cons,List.take_zero,List.drop_succ_cons,List.drop_zero,List.replicate]
          repeat(first|(refine Ol (by rfl) (fun w hSw=>by go_simp;(try (simp only[↓IntWalk.iteOmega];try go_simp));(try go_bits);first|done|with_reducible rfl) ?_;simp only[Act.put,List.setIfInBounds_toArray,List.set_cons_zero,List.set_cons_succ])|(refine KE (by rfl) ?_;simp only[Act.put,List.setIfInBounds_toArray,List.set_cons_zero,List.set_cons_succ]))
          refine Om fun w5 Xp=>?_;have Yr:=(hx.gr (Gr.drew _)).gr Xp;have hr5:=(hr.gr (Gr.drew _)).gr Xp;have hb5:Below B w w5:=Kz hb.drew (by have:=hb.size;simp;omega) Xp;obtain⟨c1,c2⟩:=sE Yr (b/64) h4;have hs:=IU Yr (b/64) h4 ((C4.fV C4.zero b0 i).get (b/64)|||BitVec.ofNat 64 (2^(b %64)));have hf1:=hr5.far (a:=⟨B+1,b/64,none⟩) (by simp) (.int .u64 (dO ((C4.fV C4.zero b0 i).get (b/64)|||BitVec.ofNat 64 (2^(b %64)))));have Ur:=hb5.setCell (p:=⟨B+1,b/64,none⟩) (by simp) (.int .u64 (dO ((C4.fV C4.zero b0 i).get (b/64)|||BitVec.ofNat 64 (2^(b %64)))));rw[HS0.out]at hs;have HS:=Lib.hid (And.intro hs (And.intro hf1 Ur));clear hs hf1 Ur Yr hr5 hb5 cx hx hr hb Xp hand ON
          go_wp2_with fail
          have kz:=HI.out
          go_roundg (gk-1)
          case measure=>omega
          case rel=>exact⟨i+1,by omega,by go_num,HS.out.2.2,HS.out.2.1,HS.out.1⟩
        · obtain rfl:i=N:=by omega
          have aap:min hi 255<((b0+i:Nat):Int):=by
            by_cases h0:i=0
            · have:=Yq h0;omega
            · have:=N_ (by omega);omega
          have hE:C4.fV C4.zero b0 i=dx lo hi:=by rw[HF.out,<-HN.out]
          rw[hE]at hx;obtain⟨c0,c1,c2,c3⟩:=IS hx;obtain⟨⟨r0,f0⟩,⟨r1,f1⟩,⟨r2,f2⟩,⟨r3,f3⟩⟩:_/\_/\_/\_:=⟨sE hr 0 (by decide),sE hr 1 (by decide),sE hr 2 (by decide),sE hr 3 (by decide)⟩;clear N_ Yq Uq hE;generalize b0+i=b at*;have aad:¬(b:Int)<=min hi 255:=by omega
          go_wp2_with fail
          refine bodyPost_ret (v:= .agg #[.int .u64 (dO (dx lo hi).a),.int .u64 (dO (dx lo hi).b),.int .u64 (dO (dx lo hi).c),.int .u64 (dO (dx lo hi).d)]) (by simp[results,Tryz.results35,go_sem,r0,r1,r2,r3]) rfl ⟨rfl,?_⟩;exact((((hb.setCell (by simp) _).setCell (by simp) _).setCell (by simp) _).setCell (by simp) _).mono Yp
end
namespace g_
open Go.RowKit bL db bO bH
theorem SL(lo hi:Int)(h1:bX lo)(h2:bX hi)(w:World):Calls Tryz.prog 35 #[.int .i64 lo,.int .i64 hi] w (bU (ret (kh (dx lo hi))) w):=(Cw lo hi w h1 h2).mono fun _ _ ⟨he,hb⟩=>Is he hb
end g_
namespace bH
open Go.RowKit bL db
theorem mapM_some{α β:Type}{f:α->Option β}:∀{l:List α},(∀x∈l,∃y,f x=some y)->∃ys,l.mapM f=some ys
 |[],_=>⟨[],by simp⟩
 |a::l,h=>by
  obtain⟨y,hy⟩:=h a (by simp);obtain⟨ys,hys⟩:=mapM_some (l:=l) fun x hx=>h x (by simp[hx]);exact⟨y::ys,by simp[List.mapM_cons,hy,hys]⟩
section
variable{P:Program}
def KL(P:Program)(d:Nat)(t:TypeId)(cs:List Value):Prop:=∃ls,P.keyLits d t cs=some ls
theorem n0{d:Nat}{t:TypeId}{q:IntKind}{n:Int}(ht:P.underlying t=some (.int q))(h0:q.min<=n)(h1:n<=q.max):KL P (d+1) t [.int q n]:=by
 refine⟨[.int q n],?_⟩;have hw:(Lit.int q n).wf=true:=by simp[Lit.wf,h0,h1]
 simp[Program.keyLits,ht,hw]
theorem Lm{d n:Nat}{t e:TypeId}{cs:List Value}(ht:P.underlying t=some (.array n e))(hl:cs.length=P.cellsOf t)(h:∀i,i<n->KL P d e ((cs.drop (i*P.cellsOf e)).take (P.cellsOf e))):KL P (d+1) t cs:=by
 obtain⟨ys,hy⟩:=mapM_some (f:=fun i=>P.keyLits d e ((cs.drop (i*P.cellsOf e)).take (P.cellsOf e))) (l:=List.range n) fun i hi=>h i (List.mem_range.1 hi);refine⟨ys.flatten,?_⟩;unfold Program.keyLits;simp only[ht];rw[if_pos hl,hy];rfl
theorem sF{d:Nat}{t:TypeId}{fs:Array Field}{cs:List Value}(ht:P.underlying t=some (.struct fs))(hl:cs.length=P.cellsOf t)(hn:fs.all (·.name != "_")=true)(h:∀f∈fs.toList,KL P d f.type ((cs.drop f.offset).take (P.cellsOf f.type))):KL P (d+1) t cs:=by
 obtain⟨ys,hy⟩:=mapM_some (f:=fun f:Field=>P.keyLits d f.type ((cs.drop f.offset).take (P.cellsOf f.type))) (l:=fs.toList) h;refine⟨ys.flatten,?_⟩;unfold Program.keyLits;simp only[ht];rw[if_pos ⟨hl,hn⟩,hy];rfl
theorem AH{t:TypeId}{cs:List Value}{m:Nat}(hw:(match P.underlying t with|some (.array _ _)|some (.struct _)=>true|_=>false)=true)(hk:P.keyType t=true)(hl:cs.length=P.cellsOf t)(hm:∃d,P.types.size+1=d+m)(h:∀d,KL P (d+m) t cs):∃l,keyOf P t (.agg cs.toArray)=some l:=by
 obtain⟨d,e⟩:=hm;obtain⟨ls,Xq⟩:=h d;refine⟨.string (keyBytes ls),?_⟩;have hf:(Value.agg cs.toArray).formed P t=true:=by
  unfold Value.formed;split at hw<;>simp_all
 have hc:(Value.agg cs.toArray).cells.toList=cs:=rfl;have key:(if(P.keyType t&&(Value.agg cs.toArray).formed P t)=true then(P.keyLits (P.types.size+1) t (Value.agg cs.toArray).cells.toList).map (fun ls=>Lit.string (keyBytes ls))else none)=some (.string (keyBytes ls)):=by
  rw[hk,hf,hc,e,Xq];rfl
 unfold keyOf;split at hw
 ·rename_i h1;rw[h1];exact key
 ·rename_i h1;rw[h1];exact key
 ·cases hw
end
theorem uA:laidOutB Tryz.prog=true:=by kernel_rfl
theorem uB(m:Nat)(h:Nat.ble m (Tryz.prog.types.size+1)=true):∃d,Tryz.prog.types.size+1=d+m:=⟨Tryz.prog.types.size+1-m,by have:=Nat.le_of_ble_eq_true h;omega⟩
end bH
namespace bT
section
variable{κ:Type}[DecidableEq κ]
def cg:List κ->List κ->List κ
 |D,[]=>D
 |D,k::r=>cg (if k∈D then D else D++[k]) r
def more(D:List κ)(k:κ):List κ:=if k∈D then D else D++[k]
theorem gJ:∀(l D:List κ) (k:κ),cg D (l++[k])=more (cg D l) k
 |[],_,_=>rfl
 |_::l,_,k=>gJ l _ k
theorem vP(D:List κ)(k:κ):∃E,more D k=D++E:=by
 unfold more;split
 ·exact⟨[],by simp⟩
 ·exact⟨[k],rfl⟩
theorem n9{D:List κ}{k x:κ}:x∈more D k↔x∈D\/x=k:=by
 unfold more;split
 ·rename_i h
  exact⟨.inl,fun e=>e.elim id fun e=>e▸h⟩
 ·simp
theorem mV:∀(l D:List κ),∃E,cg D l=D++E
 |[],D=>⟨[],by simp[cg]⟩
 |k::l,D=>by
  obtain⟨E,h⟩:=vP D k;obtain⟨E',h'⟩:=mV l (more D k);exact⟨E++E',by show cg (more D k) l=_;rw[h',h,List.append_assoc]⟩
theorem gK{x:κ}:∀{l D:List κ},x∈cg D l↔x∈D\/x∈l
 |[],D=>by simp[cg]
 |k::l,D=>by
  show x∈cg (more D k) l↔_
  rw[gK,n9,List.mem_cons,or_assoc]
theorem vU{D:List κ}{k:κ}(h:D.Nodup):(more D k).Nodup:=by
 unfold more;split
 ·exact h
 ·rename_i hk
  exact List.nodup_append.2 ⟨h,by simp,fun a ha b hb e=>by simp at hb;subst hb e;exact hk ha⟩
theorem mW:∀(l D:List κ),D.Nodup->(cg D l).Nodup
 |[],_,h=>h
 |_::l,_,h=>mW l _ (vU h)
def idx(D:List κ)(k:κ):Nat:=D.idxOf k
theorem iV{D:List κ}{k:κ}(h:k∈D):idx D k<D.length:=List.idxOf_lt_length_of_mem h
theorem rf{D:List κ}{k:κ}(h:idx D k<D.length):D[idx D k]=k:=List.getElem_idxOf h
theorem vV{D:List κ}(hn:D.Nodup){v:Nat}(h:v<D.length):idx D D[v]=v:=by
 have h1:=iV (List.getElem_mem h);exact(List.getElem_inj hn).1 (rf h1)
theorem Ln(k:κ)(E:List κ):idx (k::E) k=0:=by simp[idx]
theorem lB{D E:List κ}{k:κ}(h:k∈D):idx (D++E) k=idx D k:=by unfold idx;rw[List.idxOf_append,if_pos h]
theorem mj{D:List κ}{k:κ}:idx (more D k) k=if k∈D then idx D k else D.length:=by
 unfold more;split
 ·rfl
 ·rename_i h
  unfold idx;rw[List.idxOf_append,if_neg h];simp
theorem Lo{l D:List κ}{i:Nat}(hi:i<l.length):idx (cg D l) l[i]=if l[i]∈cg D (l.take i)then idx (cg D (l.take i)) l[i]else(cg D (l.take i)).length:=by
 have e:l=l.take (i+1)++l.drop (i+1):=(List.take_append_drop _ _).symm;have h1:l.take (i+1)=l.take i++[l[i]]:=List.take_succ_eq_append_getElem hi;have h2:∃E,cg D l=cg D (l.take (i+1))++E:=by
  obtain⟨E,h⟩:=mV (l.drop (i+1)) (cg D (l.take (i+1)));refine⟨E,?_⟩;rw[<-h];have UR:∀(a b D:List κ),cg D (a++b)=cg (cg D a) b:=by
   intro a
   induction a with
   |nil=>intro b D;rfl
   |cons x a ih=>intro b D;exact ih b _
  rw[<-UR,<-e]
 obtain⟨E,h2⟩:=h2;rw[h2,lB,h1,gJ,mj];rw[h1,gJ,n9];exact .inr rfl
theorem OO{D:List κ}{x y:κ}(hx:x∈D)(h:idx D x=idx D y):x=y:=by
 have h1:=iV hx;have h2:idx D y<D.length:=h▸h1;rw[<-rf h1,<-rf h2]
 congr 1
end
theorem fy{α:Type}{l m:List α}{k:Nat}{d:α}(h:k<l.length):(l++m).getD k d=l.getD k d:=by
 rw[List.getD_eq_getElem?_getD,List.getElem?_append_left h,List.getD_eq_getElem?_getD]
theorem iy{α:Type}{l m:List α}{k:Nat}{d:α}(h:l.length<=k):(l++m).getD k d=m.getD (k-l.length) d:=by
 rw[List.getD_eq_getElem?_getD,List.getElem?_append_right h,List.getD_eq_getElem?_getD]
theorem jL{l:List Nat}{m:Nat}(h:l.Nodup)(hb:∀x∈l,x<m):l.length<=m:=by
 have hs:∀(l l':List Nat),l.Nodup->(∀x∈l,x∈l')->l.length<=l'.length:=by
  intro l
  induction l with
  |nil=>intro l' _ _;simp
  |cons x l ih=>
   intro l' hn hs;rw[List.nodup_cons]at hn;have hx:x∈l':=hs x (by simp);have:=ih (l'.erase x) hn.2 (fun y hy=>(List.mem_erase_of_ne (by rintro rfl;exact hn.1 hy)).2 (hs y (by simp[hy])));rw[List.length_erase_of_mem hx]at this;have:0<l'.length:=List.length_pos_of_mem hx;simp;omega
 have:=hs l (List.range m) h fun x hx=>List.mem_range.2 (hb x hx)
 simpa using this
theorem ER{N:Nat}{f g:Nat->Nat}{n c:Nat}(hf:∀v,v<n->∃x,x<N/\f x=v)(hg:∀x,x<N->g x<c)(hr:∀x y,x<N->y<N->g x=g y->f x=f y):
    n<=c/\(c=n->(∀x,x<N->f x<n)->∀x y,x<N->y<N->f x=f y->g x=g y):=by
  have hc:∃p:Nat->Nat,∀v,v<n->p v<N/\f (p v)=v:=by
    refine⟨fun v=>if h:v<n then(hf v h).choose else 0,fun v h=>?_⟩;simp only[dif_pos h];exact(hf v h).choose_spec
  obtain⟨p,hp⟩:=hc;have Kp:∀l:List Nat,l.Nodup->(∀v∈l,v<n)->(l.map fun v=>g (p v)).Nodup:=by
    intro l hl hb;refine List.pairwise_map.2 (List.Pairwise.imp_of_mem (fun {a b} ha Aq hne e=>hne ?_) hl);have h1:=hp a (hb a ha);have h2:=hp b (hb b Aq);have:=hr _ _ h1.1 h2.1 e;rw[h1.2,h2.2]at this;exact this
  refine⟨?_,fun hcn hfb x y hx hy Vj=>?_⟩
  · have h1:=jL (m:=c) (Kp (List.range n) List.nodup_range fun v hv=>List.mem_range.1 hv) (fun z hz=>by
      obtain⟨v,hv,rfl⟩:=List.mem_map.1 hz;exact hg _ (hp v (List.mem_range.1 hv)).1)
    simpa using h1
  · apply Classical.byContradiction
    intro hne;have hv:f x<n:=hfb x hx;have hl:((List.range n).erase (f x)).Nodup:=List.nodup_range.erase _;have hb:∀v∈(List.range n).erase (f x),v<n/\v≠f x:=fun v hv=>by
      have:=(List.nodup_range.mem_erase_iff).1 hv;exact⟨List.mem_range.1 this.2,this.1⟩
    have h1:=Kp _ hl fun v hv=>(hb v hv).1;have Ir:∀z,z<N->f z=f x->g z∉((List.range n).erase (f x)).map fun v=>g (p v):=by
      intro z hz he Ex;obtain⟨v,Lp,e⟩:=List.mem_map.1 Ex;have h2:=hp v (hb v Lp).1;have:=hr _ _ h2.1 hz e;rw[h2.2,he]at this;exact(hb v Lp).2 this
    have h2:(g x::g y::((List.range n).erase (f x)).map fun v=>g (p v)).Nodup:=by
      rw[List.nodup_cons,List.nodup_cons];refine⟨?_,Ir y hy Vj.symm,h1⟩;rw[List.mem_cons,not_or];exact⟨hne,Ir x hx rfl⟩
    have h3:=jL (m:=c) h2 (fun z hz=>by
      simp only[List.mem_cons]at hz;rcases hz with rfl|rfl|hz
      · exact hg _ hx
      · exact hg _ hy
      · obtain⟨v,hv,rfl⟩:=List.mem_map.1 hz
        exact hg _ (hp v (hb v hv).1).1)
    have h4:((List.range n).erase (f x)).length=n-1:=by
      rw[List.length_erase_of_mem (List.mem_range.2 hv)];simp
    simp[h4]at h3;omega
end bT
namespace bH
open Go.RowKit bL db bO
theorem Lr{P:Program}(x j b:Nat)(k k':IntKind)(hb:k.bits=b)(hj:j<=b)(w:World):(Op.shift .shr k (x:Int) k' (j:Int)).run P w= .ok (.int k ((x/2^j:Nat):Int)) w:=by
 have e:min j b=j:=by omega
 have h0:¬((j:Int)<0):=by omega
 have e2:(x:Int).fdiv (2^j)=((x/2^j:Nat):Int):=by
  rw[Int.fdiv_eq_ediv_of_nonneg _ (by have:(0:Int)<2^j:=Int.pow_pos (by decide);omega)];simp
 simp only[Op.shift,if_neg h0,hb,Int.toNat_natCast,e,e2,Sem.run_pure]
theorem vW(c:C4)(i:Nat)(h:i<4):(#[v64 c.a,v64 c.b,v64 c.c,v64 c.d]:Array Value)[i]?=some (.int .u64 ((c.get i).toNat:Int)):=by
 match i,h with
 |0,_=>rfl
 |1,_=>rfl
 |2,_=>rfl
 |3,_=>rfl
theorem OP:∀b:Nat,b<256->bits .and .u8 (b:Int) 63=((b %64:Nat):Int):=by decide+kernel
theorem IV(c:C4)(b:Nat)(hb:b<256)(w:World):Calls Tryz.prog 69 #[kh c,.int .u8 (b:Int)] w (bU (ret (.bool (c.mem b))) w):=by
 refine enter (args:=[.agg #[v64 c.a,v64 c.b,v64 c.c,v64 c.d],.int .u8 (b:Int)]) (n:=14) Tryz.func69 rfl rfl rfl ?_;refine bJ (aV (bK rfl rfl rfl fun g=>?_));have h1:b/64<4:=by omega
 have hc:(#[v64 c.a,v64 c.b,v64 c.c,v64 c.d]:Array Value)[0+b/64]?=some (.int .u64 ((c.get (b/64)).toNat:Int)):=by rw[Nat.zero_add];exact vW c _ h1
 have hx:=(c.get (b/64)).isLt;have uz:∀w,(Op.shift .shr .u8 (b:Int) .u64 6).run Tryz.prog w= .ok (.int .u8 ((b/64:Nat):Int)) w:=fun w=>Lr b 6 8 .u8 .u64 rfl (by decide) w;have Ra:∀w,(Op.shift .shr .u64 ((c.get (b/64)).toNat:Int) .u8 ((b %64:Nat):Int)).run Tryz.prog w= .ok (.int .u64 (((c.get (b/64)).toNat/2^(b %64):Nat):Int)) w:=fun w=>Lr _ (b %64) 64 .u64 .u8 rfl (by omega) w;have hm:c.mem b=decide ((c.get (b/64)).toNat/2^(b %64) %2=1):=by unfold C4.mem;rw[Nat.testBit_eq_decide_div_mod_eq]
 rw[hm];have hd:(c.get (b/64)).toNat/2^(b %64)<=(c.get (b/64)).toNat:=Nat.div_le_self _ _;have pF:=OP b hb;generalize (c.get (b/64)).toNat=x at*;generalize b %64=k at*;generalize b/64=i at*;generalize x/2^k=y at*;have ha:bits .and .u64 (y:Int) 1=((y %2:Nat):Int):=by
  have:=bits_and_u64_nat y 1 (by omega) (by decide);rw[Nat.and_one_is_mod]at this;exact this
 repeat(first|refine GC ?_|refine gV (kB rfl rfl uz) ?_|refine gV (eL aT.eq ak.ty rfl rfl h1) ?_|refine gV (J ak.ty rfl (ah (i:=0) rfl hc)) ?_|refine gV (jn rfl rfl pF) ?_|refine gV (kB rfl rfl Ra) ?_|refine gV (jn rfl rfl ha) ?_|refine gV (cJ rfl rfl rfl) ?_|refine GB ?_)
 exact dh rfl rfl (by congr 1;rw[decide_eq_decide];omega)
end bH
namespace bH
open Go.RowKit bL db bO d_ g_
abbrev Ys:=Int×Int
structure Vk(s:List UInt8)(N:Nat->Re)(m:Ys->Option Value)(n:Nat):Prop where
 val:∀(k f:Nat) v,k<100->f<=s.length->m ((k:Int),(f:Int))=some v->∃c,v=kh c/\U' s (N k) f c
 N6:∃D:List Nat,D.Nodup/\D.length=n/\(∀x∈D,x<25600)/\∀(k f:Nat),k<100->f<256->((m ((k:Int),(f:Int))).isSome=true↔k*256+f∈D)
theorem Vk.le{s:List UInt8}{N:Nat->Re}{m:Ys->Option Value}{n:Nat}(h:Vk s N m n):n<=25600:=by
 obtain⟨D,h1,h2,h3,_⟩:=h.N6;rw[<-h2];exact bT.jL h1 h3
theorem Vk.set{s:List UInt8}{N:Nat->Re}{m:Ys->Option Value}{n:Nat}(h:Vk s N m n)(hs:s.length<=200){k f:Nat}(hk:k<100)(hf:f<=s.length){c:C4}(hc:U' s (N k) f c):
    Vk s N (fun y=>if y=((k:Int),(f:Int))then some (kh c)else m y) (if(m ((k:Int),(f:Int))).isSome then n else n+1):=by
  refine⟨fun k' f' v jD uo hv=>?_,?_⟩
  · by_cases e:((k':Int),(f':Int))=((k:Int),(f:Int))
    · rw[if_pos e]at hv
      simp only[Prod.mk.injEq]at e;obtain rfl:k'=k:=by omega
      obtain rfl:f'=f:=by omega
      simp only[Option.some.injEq]at hv;exact⟨c,hv.symm,hc⟩
    · rw[if_neg e]at hv
      exact h.val k' f' v jD uo hv
  · obtain⟨D,h1,h2,h3,h4⟩:=h.N6
    by_cases e:(m ((k:Int),(f:Int))).isSome=true
    · rw[if_pos e]
      refine⟨D,h1,h2,h3,fun k' f' jD uo=>?_⟩
      by_cases e2:((k':Int),(f':Int))=((k:Int),(f:Int))
      · rw[if_pos e2]
        simp only[Prod.mk.injEq]at e2;obtain rfl:k'=k:=by omega
        obtain rfl:f'=f:=by omega
        simpa using(h4 k' f' jD uo).1 e
      · rw[if_neg e2]
        exact h4 k' f' jD uo
    · rw[if_neg e]
      have hn:k*256+f∉D:=fun hd=>e ((h4 k f hk (by omega)).2 hd);refine⟨(k*256+f)::D,List.nodup_cons.2 ⟨hn,h1⟩,by rw[List.length_cons,h2],fun x hx=>?_,fun k' f' jD uo=>?_⟩
      · rcases List.mem_cons.1 hx with rfl|hx
        · omega
        · exact h3 x hx
      · by_cases e2:((k':Int),(f':Int))=((k:Int),(f:Int))
        · rw[if_pos e2]
          simp only[Prod.mk.injEq]at e2;obtain rfl:k'=k:=by omega
          obtain rfl:f'=f:=by omega
          simp
        · rw[if_neg e2,h4 k' f' jD uo,List.mem_cons]
          have:¬k'*256+f'=k*256+f:=fun h=>e2 (by
            have a:k'=k:=by omega
            have b:f'=f:=by omega
            rw[a,b])
          simp[this]
end bH
namespace bH
open Go.RowKit bL db
section
variable{P:Program}{k:TypeId}{κ:Type}(K:qi P k κ)
variable{n:Nat}{W:bB}{fr:Fr}{L:List bz}{dst:Option Tmp}{ty:TypeId}{pos:String}{after:Array Edge}{guard:Option (Nat×Bool)}{i g c:Nat}{t e:TypeId}{m:κ->Option Value}{x:κ}{z v:Value}{xm xk:Operand}
theorem fL(ht:P.underlying t=some (.map k e))(hz:∀w,(zeroValue e).run P w= .ok z w)(hi:L[i]?=some (dr K g m c))(hm:ev fr xm=some (.map (some g)))(hk:ev fr xk=some (K.kv x))(hx:K.ok x)(hv:m x=some v):RR P n W ⟨dst,.lookup t xm xk true,ty,pos,after,guard⟩ fr L (.tuple #[v,.bool true]):=by
 have:=kq K (n:=n) (W:=W) (dst:=dst) (ty:=ty) (pos:=pos) (after:=after) (guard:=guard) ht hz hi hm hk hx;rw[hv]at this;exact this
theorem fM(ht:P.underlying t=some (.map k e))(hz:∀w,(zeroValue e).run P w= .ok z w)(hi:L[i]?=some (dr K g m c))(hm:ev fr xm=some (.map (some g)))(hk:ev fr xk=some (K.kv x))(hx:K.ok x)(hv:m x=none):RR P n W ⟨dst,.lookup t xm xk true,ty,pos,after,guard⟩ fr L (.tuple #[z,.bool false]):=by
 have:=kq K (n:=n) (W:=W) (dst:=dst) (ty:=ty) (pos:=pos) (after:=after) (guard:=guard) ht hz hi hm hk hx;rw[hv]at this;exact this
end
end bH
namespace bH
open Go.RowKit bL db bO d_ g_
structure StI(s:List UInt8)(a:Re)(f:Nat)(out now:C4):Prop where
 sound:∀j,j<256->out.mem j=true->N8 (IF a s) f j
 sub:∀j,j<256->now.mem j=true->out.mem j=true
 cl:∀i,i<256->out.mem i=true->now.mem i=false->∀j,IF a s i j->out.mem j=true
 st:out.mem f=true
theorem StI.le{s:List UInt8}{a:Re}{f:Nat}{out now:C4}(h:StI s a f out now)(hf:f<=s.length)(j:Nat)(hj:j<256)(hn:now.mem j=true):j<=s.length:=
 ((K5 hf).2 (h.sound j hj (h.sub j hj hn))).2.1
end bH
namespace bH
open Go.RowKit bL db bO d_ g_
theorem ES(c:C4)(w:World):(Instr.build 68 #[(0,.int .i64 3),(1,kh c)]).run Tryz.prog w= .ok (lR 3 c (.slice none 0 0)) w:=by kernel_rfl
theorem rh(b:Int)(w:World)(hb:bL.bX b):Calls Tryz.prog 14 #[.int .i64 b] w (bU (ret (lR 3 (dx b b) (.slice none 0 0))) w):=by
 have hr:=fun w=>SL b b hb hb w;have IW:=ES (dx b b);generalize dx b b=c at*;refine enter (args:=[.int .i64 b]) (n:=7) Tryz.func14 rfl rfl rfl ?_;refine bJ (aV (aF rfl fun g2=>?_));refine zL ?_
 try refine GA ?_
 refine aM (fh aj.en rfl rfl rfl) (fun w hm=>hr _) rfl rfl rfl ?_;intro _ _;refine zL ?_
 repeat(first|refine GA ?_|refine gV (aU rfl IW) ?_)
 refine fU 0 (cs':=(iP 3 c (.slice none 0 0)).toArray) ?_;refine zL ?_
 try refine GA ?_
 exact e8 (i:=0) rfl rfl rfl rfl fun w hm=>hm.ret
end bH
namespace bH
open Go.RowKit bL db bO d_ g_
section
end
def b8(l:List Nat):IG:=l.map UInt8.ofNat
end bH
namespace bH
open Go.RowKit bL db
theorem dL.perm{p:Nat->Prop}{w:World}{L L':List bz}(h:dL p w L)(hp:L.Perm L'):dL p w L':=by
 have hpw:L.Pairwise (fun o o'=>∀k,o.dF k->¬o'.dF k):=List.pairwise_iff_getElem.2 fun i j hi hj k_=>h.apart i j _ _ (by omega) (List.getElem?_eq_getElem hi) (List.getElem?_eq_getElem hj);have Vl:=List.pairwise_iff_getElem.1 ((hp.pairwise_iff (fun Vj k h1 h2=>Vj k h2 h1)).1 hpw);refine⟨fun i o hi=>?_,fun i j o o' k_ hi hj k h1 h2=>?_⟩
 ·obtain⟨j,hj⟩:=List.getElem?_of_mem (hp.symm.subset (List.mem_of_getElem? hi))
  exact h.all j o hj
 ·obtain⟨kz,rfl⟩:=List.getElem?_eq_some_iff.1 hi
  obtain⟨k9,rfl⟩:=List.getElem?_eq_some_iff.1 hj;rcases Nat.lt_or_gt_of_ne k_ with h3|h3
  ·exact Vl i j kz k9 h3 k h1 h2
  ·exact Vl j i k9 kz h3 k h2 h1
theorem Mem.perm{W:bB}{w:World}{L L':List bz}(h:Mem W L w)(hp:L.Perm L'):Mem W L' w:=⟨h.low,h.owns.perm hp⟩
theorem IX{l l':Fr}(hp:l.Perm l'):(l.map (·.1)).Nodup->∀(fr:Fr) (i:Nat),look (l++fr) i=look (l'++fr) i:=by
  induction hp with
  |nil=>intro _ _ _;rfl
  | cons x _ ih=>
    intro hn fr i;rw[List.map_cons,List.nodup_cons]at hn;obtain⟨k,v⟩:=x;show(bif Nat.beq k i then some v else _)=(bif Nat.beq k i then some v else _)
    have e:=ih hn.2 fr i;exact congrArg (fun z=>bif Nat.beq k i then some v else z) e
  | swap x y l=>
    intro hn fr i;obtain⟨k,v⟩:=x;obtain⟨k2,v2⟩:=y;simp only[List.map_cons,List.nodup_cons,List.mem_cons,not_or]at hn;show(bif Nat.beq k2 i then some v2 else bif Nat.beq k i then some v else _)=(bif Nat.beq k i then some v else bif Nat.beq k2 i then some v2 else _)
    cases e:Nat.beq k2 i
    · rfl
    · cases e2:Nat.beq k i
      · rfl
      · have a:=Nat.eq_of_beq_eq_true e
        have b:=Nat.eq_of_beq_eq_true e2;exact absurd (a.trans b.symm) hn.1.1
  | trans h1 _ Vm Us=>
    intro hn fr i;rw[Vm hn,Us ((h1.map _).nodup_iff.1 hn)]
theorem IY{α β:Type}(f:α->β){l l':List β}(h:l.Perm l'):∀dn:List α,dn.map f=l->∃dn':List α,dn'.Perm dn/\dn'.map f=l':=by
 induction h with
 |nil=>exact fun dn h=>⟨dn,.refl _,h⟩
 | cons x _ ih=>
  intro dn h
  match dn,h with
  |y::dn,h=>
   simp only[List.map_cons,List.cons.injEq]at h;obtain⟨d',h1,h2⟩:=ih dn h.2;exact⟨y::d',h1.cons y,by simp[h.1,h2]⟩
 | swap x y l=>
  intro dn h
  match dn,h with
  |a::b::dn,h=>
   simp only[List.map_cons,List.cons.injEq]at h;exact⟨b::a::dn,List.Perm.swap _ _ _,by simp[h.1,h.2.1,h.2.2]⟩
 |trans _ _ Vm Us=>
  intro dn h;obtain⟨d1,h1,h2⟩:=Vm dn h;obtain⟨d2,h3,h4⟩:=Us d1 h2;exact⟨d2,h3.trans h1,h4⟩
def IZ:List Nat->List (List Nat)
 |[]=>[[]]
 |a::r=>IZ r++(IZ r).map (a:: ·)
theorem tr(p:Nat->Bool):∀l,l.filter p∈IZ l
 |[]=>by simp[IZ]
 |a::r=>by
  have ih:=tr p r;unfold IZ;rw[List.filter_cons];split
  ·exact List.mem_append_right _ (List.mem_map_of_mem ih)
  ·exact List.mem_append_left _ ih
structure Mk where
 i:Nat
 d:Nat
 v:Nat->Value
 own:Nat->bz
def ki(dn:List (Mk×Nat)):Fr:=dn.map fun x=>(x.1.d,x.1.v x.2)
def Rb(dn:List (Mk×Nat)):List bz:=dn.map fun x=>x.1.own x.2
def ji(listed:Array Bool)(D:List Nat):Array Bool:=D.foldl (fun l i=>l.setIfInBounds i true) listed
theorem yT(D:List Nat):∀(listed:Array Bool) (j:Nat),(ji listed D)[j]?=(listed[j]?).map fun b=>b||D.contains j:=by
 induction D with
 |nil=>intro listed j;simp[ji]
 | cons a r ih=>
  intro listed j;show(ji (listed.setIfInBounds a true) r)[j]?=_
  rw[ih,Array.getElem?_setIfInBounds]
  by_cases c:a=j
  ·subst c
   simp;split<;>simp_all
  ·rw[if_neg c]
   have:¬j=a:=fun h=>c h.symm;simp[this]
theorem qm{listed:Array Bool}{D D':List Nat}(h:∀j,D.contains j=D'.contains j):ji listed D=ji listed D':=by
 apply Array.ext_getElem?;intro j;rw[yT,yT,h j]
def Rf(ops:Array Oper)(is:List Nat)(ends:List (List Nat))(listed:Array Bool):Bool:=(IZ is).all fun D=>ends.contains D||decide (Region.ready .any ops (ji listed D)=is.filter fun i=>!D.contains i)
theorem vX:∀(l l':List Nat),l.Nodup->(∀x∈l,x∈l')->l.length<=l'.length
 |[],_,_,_=>Nat.zero_le _
 |a::r,l',hn,hs=>by
  rw[List.nodup_cons]at hn;have ha:=hs a (by simp);have:=vX r (l'.erase a) hn.2 fun x hx=>(List.mem_erase_of_ne (fun(e:x=a)=>hn.1 (by rw[<-e];exact hx))).2 (hs x (by simp[hx]));rw[List.length_erase_of_mem ha]at this;have:=List.length_pos_of_mem ha;simp;omega
theorem qn:∀(l l':List Nat),l.Nodup->(∀x∈l,x∈l')->l'.length<=l.length->l.Perm l'
 |[],l',_,_,h=>by
  have:l'=[]:=List.length_eq_zero_iff.1 (by simpa using h);subst this;exact .refl _
 |a::r,l',hn,hs,h=>by
  rw[List.nodup_cons]at hn;have ha:=hs a (by simp);have hl:=List.length_erase_of_mem ha;have h2:=List.length_pos_of_mem ha;have:=qn r (l'.erase a) hn.2 (fun x hx=>(List.mem_erase_of_ne (fun(e:x=a)=>hn.1 (by rw[<-e];exact hx))).2 (hs x (by simp[hx]))) (by simp at h;omega);exact(this.cons a).trans (List.perm_cons_erase ha).symm
theorem Rg:∀(ms:List Mk),(ms.map (·.i)).Nodup->∀m∈ms,∀m'∈ms,m.i=m'.i->m=m'
 |[],_,_,hm,_,_,_=>by cases hm
 |y::ms,h,m,hm,m',ml,e=>by
  rw[List.map_cons,List.nodup_cons]at h;rcases List.mem_cons.1 hm with a1|a1<;>rcases List.mem_cons.1 ml with a2|a2
  ·rw[a1,a2]
  ·exact absurd (by rw[<-a1,e];exact List.mem_map_of_mem a2) h.1
  ·exact absurd (by rw[<-a2,<-e];exact List.mem_map_of_mem a1) h.1
  ·exact Rg ms h.2 m a1 m' a2 e
theorem Cx:∀(dn:List (Mk×Nat)) (ms all:List Mk),(∀m∈all,∀m'∈all,m.i=m'.i->m=m')->(∀x∈dn,x.1∈all)->(∀x∈ms,x∈all)->dn.map (·.1.i)=ms.map (·.i)->dn.map (·.1)=ms
 |[],ms,_,_,_,_,h=>by
  simp only[List.map_nil]at h;exact(List.map_eq_nil_iff.1 h.symm).symm
 |y::dn,[],_,_,_,_,h=>by simp at h
 |y::dn,m::ms,all,hi,h1,h2,h=>by
  simp only[List.map_cons,List.cons.injEq]at h;rw[List.map_cons,Cx dn ms all hi (fun x hx=>h1 x (by simp[hx])) (fun x hx=>h2 x (by simp[hx])) h.2,hi y.1 (h1 y (by simp)) m (h2 m (by simp)) h.1]
section
variable{P:Program}{n:Nat}{W:bB}{Q:Exit->Act->World->Prop}{fr:Fr}{L L0:List bz}{ops:Array Oper}
def yU(P:Program)(n:Nat)(W:bB)(ops:Array Oper)(fr:Fr)(m:Mk):Prop:=
 ∃o,ops[m.i]?=some o/\∀(Q:Exit->Act->World->Prop) (xS:Fr) (L:List bz),(∀q v,look fr q=some v->look xS q=some v)->(∀g,TL P n W ops Q [] ((m.d,m.v g)::xS) (L++[m.own g]))->TL P n W ops Q [o] xS L
theorem yV:∀(l:Fr) {q:Nat} {v:Value},(∀x∈l,look fr x.1=none)->look fr q=some v->look (l++fr) q=some v
 |[],_,_,_,h=>h
 | (k,u)::l,q,v,hl,h=>by
  show(bif Nat.beq k q then some u else look (l++fr) q)=some v
  cases e:Nat.beq k q
  ·exact yV l (fun x hx=>hl x (by simp[hx])) h
  ·have:=Nat.eq_of_beq_eq_true e
   subst this;have:=hl (k,u) (by simp);rw[this]at h
   cases h
theorem jC.perm{a:Act}{l l':Fr}(h:jC n a (l++fr))(hp:l.Perm l')(hn:(l.map (·.1)).Nodup):jC n a (l'++fr):=
 ⟨h.size,h.defers,fun i v hl=>h.get i v (by rw[IX hp hn fr i];exact hl)⟩
theorem Ls:∀(dn:List (Mk×Nat)),(dn.map (·.1.i)).Nodup->∃g:Nat->Nat,∀x∈dn,g x.1.i=x.2
  |[],_=>⟨fun _=>0,fun x hx=>by cases hx⟩
  | y ::dn,h=>by
    rw[List.map_cons,List.nodup_cons]at h;obtain⟨g,hg⟩:=Ls dn h.2;refine⟨fun i=>if i=y.1.i then y.2 else g i,fun x hx=>?_⟩;rcases List.mem_cons.1 hx with rfl|hx
    · simp
    · have:¬x.1.i=y.1.i:=fun e=>h.1 (by rw[<-e];exact List.mem_map_of_mem hx)
      simp only[if_neg this];exact hg x hx
theorem ET(ms E:List Mk)(hn:(ms.map (·.i)).Nodup)(hEn:(E.map (·.i)).Nodup)(hEd:(E.map (·.d)).Nodup)(hE:∀m∈E,m∈ms)(dn:List (Mk×Nat))(h1:∀x∈dn,x.1∈ms)(hp:(dn.map (·.1.i)).Perm (E.map (·.i)))(a:Act)(hr:jC n a (ki dn++fr)):
 ∃g:Nat->Nat,jC n a (E.map (fun m=>(m.d,m.v (g m.i)))++fr)/\Mem W (L++Rb dn)=Mem W (L++E.map fun m=>m.own (g m.i)):=by
 obtain⟨d',p1,p2⟩:=IY (fun x:Mk×Nat=>x.1.i) hp dn rfl;have e1:=Cx d' E ms (Rg ms hn) (fun x hx=>h1 x (p1.subset hx)) hE p2;obtain⟨g,hg⟩:=Ls d' (by rw[p2];exact hEn);have e2:d'=E.map fun m=>(m,g m.i):=by
  rw[<-e1,List.map_map]
  conv=>lhs;rw[<-List.map_id d']
  exact List.map_congr_left fun x hx=>by
   obtain⟨m,q⟩:=x;have:=hg _ hx;dsimp only at this;simp[this]
 have hpd:((ki dn).map (·.1)).Nodup:=by
  have:((ki dn).map (·.1)).Perm (E.map (·.d)):=by
   have h5:=(p1.map fun x:Mk×Nat=>x.1.d).symm;have e:d'.map (fun x:Mk×Nat=>x.1.d)=E.map (·.d):=by rw[<-e1,List.map_map];rfl
   rw[e]at h5;unfold ki;rw[List.map_map];exact h5
  exact this.nodup_iff.2 hEd
 have ur:=hr.perm (p1.map _).symm hpd;refine⟨g,?_,?_⟩
 ·have:d'.map (fun x=>(x.1.d,x.1.v x.2))=E.map (fun m=>(m.d,m.v (g m.i))):=by rw[e2,List.map_map];rfl
  rw[<-this];exact ur
 ·have e:E.map (fun m=>m.own (g m.i))=Rb d':=by rw[e2,Rb,List.map_map];rfl
  rw[e];exact funext fun w=>propext ⟨fun h=>h.perm (((p1.map _).symm).append_left L),fun h=>h.perm ((p1.map _).append_left L)⟩
theorem OQ(ms:List Mk)(ends:List (List Mk))(listed:Array Bool)(U:World->Prop)(S0:Nat)(hUL:∀l,∀w,Mem W (L++l) w->U w)
    (hn:(ms.map (·.i)).Nodup) (hd:(ms.map (·.d)).Nodup) (hB:Rf ops (ms.map (·.i)) (ends.map fun E=>E.map (·.i)) listed=true) (hm:∀m∈ms,yU P n W ops fr m) (hf:∀m∈ms,look fr m.d=none)
    (Yt:∀E∈ms::ends,(∀m∈E,m∈ms)/\(E.map (·.i)).Nodup/\(E.map (·.d)).Nodup/\∀(k:Nat) (g:Nat->Nat) (a:Act),E.length+k=ms.length->jC n a (E.map (fun m=>(m.d,m.v (g m.i)))++fr)->mL P .any ops Q U (k+S0) (ji listed (E.map (·.i))) a (Mem W (L++E.map fun m=>m.own (g m.i)))):
    ∀(k:Nat) (dn:List (Mk×Nat)),(∀x∈dn,x.1∈ms)->(dn.map (·.1.i)).Nodup->dn.length+k=ms.length->∀a,jC n a (ki dn++fr)->mL P .any ops Q U (k+S0) (ji listed (dn.map (·.1.i))) a (Mem W (L++Rb dn)):=by
  have stop:∀E∈ms::ends,∀(k:Nat) (dn:List (Mk×Nat)),(∀x∈dn,x.1∈ms)->(dn.map (·.1.i)).Nodup->dn.length+k=ms.length->(dn.map (·.1.i)).Perm (E.map (·.i))->∀a,jC n a (ki dn++fr)->mL P .any ops Q U (k+S0) (ji listed (dn.map (·.1.i))) a (Mem W (L++Rb dn)):=by
    intro E hE k dn h1 h2 h3 hp a hr;obtain⟨q1,q2,q3,q4⟩:=Yt E hE;obtain⟨g,r1,r2⟩:=ET (W:=W) (L:=L) ms E hn q2 q3 q1 dn h1 hp a hr;have hlen:=hp.length_eq;simp only[List.length_map]at hlen;rw[r2,qm (D':=E.map (·.i)) fun j=>?_]
    · exact q4 k g a (by omega) r1
    · exact Bool.eq_iff_iff.2 (by simpa using hp.mem_iff)
  intro k
  induction k with
  | zero=>
    intro dn h1 h2 h3 a hr;exact stop ms (by simp) 0 dn h1 h2 h3 (qn (dn.map (·.1.i)) (ms.map (·.i)) h2 (fun x hx=>by
      obtain⟨y,hy,rfl⟩:=List.mem_map.1 hx;exact List.mem_map_of_mem (f:=(·.i)) (h1 y hy)) (by simp;omega)) a hr
  | succ k ih =>
    intro dn h1 h2 h3 a hr;have kE:=fun E hE hp=>stop E hE (k+1) dn h1 h2 h3 hp a hr;have ii:∀x∈dn.map (·.1.i),x∈ms.map (·.i):=fun x hx=>by
      obtain⟨y,hy,rfl⟩:=List.mem_map.1 hx;exact List.mem_map_of_mem (f:=(·.i)) (h1 y hy)
    generalize hD:dn.map (·.1.i)=D at*
    have aae:D.length=dn.length:=by rw[<-hD];simp
    have n_:∀j,D.contains j=((ms.map (·.i)).filter fun i=>D.contains i).contains j:=fun j=>by
      apply Bool.eq_iff_iff.2;simp only[List.contains_iff_mem,List.mem_filter];exact⟨fun h=>⟨ii j h,h⟩,fun h=>h.2⟩
    have hq:=List.all_eq_true.1 hB _ (tr (fun i=>D.contains i) (ms.map (·.i)))
    rw[Bool.or_eq_true]at hq;rcases hq with hq|hq
    · rw[List.contains_iff_mem]at hq
      obtain⟨E,hE,e⟩:=List.mem_map.1 hq;refine kE E (by simp[hE]) ?_;rw[e];refine qn _ _ h2 (fun x hx=>List.mem_filter.2 ⟨ii x hx,by simpa using hx⟩) ?_;exact vX _ _ (hn.filter _) fun x hx=>by simpa using(List.mem_filter.1 hx).2
    have Lt:Region.ready .any ops (ji listed D)=(ms.map (·.i)).filter fun i=>!D.contains i:=by
      have hq:=of_decide_eq_true hq;rw[qm n_,hq];exact List.filter_congr fun i _=>by rw[<-n_ i]
    rw[show k+1+S0=(k+S0)+1 by omega];refine⟨fun h0=>?_,fun i hi w hw=>?_⟩
    · exfalso
      have:(ms.map (·.i)).length<=D.length:=vX _ _ hn fun x hx=>by
        rw[Lt]at h0;have:=List.filter_eq_nil_iff.1 h0 x hx
        simpa using this
      simp at this;omega
    · rw[Lt,List.mem_filter]at hi
      obtain⟨hi1,IN⟩:=hi;obtain⟨m,OR,rfl⟩:=List.mem_map.1 hi1;have hi3:m.i∉D:=by simpa using IN
      obtain⟨o,ho,xZ⟩:=hm m OR;refine fJ ho ((xZ _ (ki dn++fr) (L++Rb dn) (fun q v hq=>yV (ki dn) (fun x hx=>?_) hq) fun g=>?_).go a w hr hw)
      · obtain⟨y,hy,rfl⟩:=List.mem_map.1 hx
        exact hf y.1 (h1 y hy)
      · refine Ar ⟨fun a' w' ur ml=>⟨Mem W (L++Rb ((m,g)::dn)),dV _ _,hUL _,ml.perm ?_,?_⟩⟩
        · rw[List.append_assoc]
          exact(List.perm_append_comm).append_left L
        · have:=ih ((m,g)::dn) (fun x hx=>by
            rcases List.mem_cons.1 hx with rfl|hx
            · exact OR
            · exact h1 x hx) (by rw[List.map_cons,hD,List.nodup_cons];exact⟨hi3,h2⟩) (by simp;omega) a' ur
          rw[List.map_cons,hD]at this;have e:(ji listed D).setIfInBounds m.i true=ji listed (m.i::D):=by
            have e0:(ji listed D).setIfInBounds m.i true=ji listed (D++[m.i]):=by
              unfold ji;rw[List.foldl_append];rfl
            rw[e0];exact qm fun j=>by
              apply Bool.eq_iff_iff.2;simp[or_comm]
          rw[e];exact this
structure TX(P:Program)(n:Nat)(W:bB)(ops:Array Oper)(Q:Exit->Act->World->Prop)(L0:List bz)(listed:Array Bool)(f:Nat)(fr:Fr)(L:List bz):Prop where
 go:(∀w,Mem W L w->Mem W L0 w)->(∀c a d v w,Q (.panic c) (Act.put a d v) w->Q (.panic c) a w)->Region.noSelect ops=true->∀a,jC n a fr->mL P .any ops Q (Mem W L0) f listed a (Mem W L)
theorem mem_left{L l:List bz}{w:World}(h:Mem W (L++l) w):Mem W L w:=by
 have hl:∀(i:Nat) (o:bz),L[i]?=some o->(L++l)[i]?=some o:=fun i o h=>by
  rw[List.getElem?_append_left (List.getElem?_eq_some_iff.1 h).1];exact h
 exact⟨h.low,⟨fun i o hi=>h.owns.all i o (hl i o hi),fun i j o o' k_ hi hj=>h.owns.apart i j o o' k_ (hl i o hi) (hl j o' hj)⟩⟩
theorem Lu{id:Nat}{l:List Oper}(L0:List bz)(ii:∀w,Mem W L w->Mem W L0 w)(hm:P.follows .mixedOrders=true)(iO:Region.noSelect l.toArray=true)
 (hQ:∀c a d v w,Q (.panic c) (Act.put a d v) w->Q (.panic c) a w)
 (h:TX P n W l.toArray Q L0 (Array.replicate l.toArray.size false) l.toArray.size fr L):T P n W (.region id l.toArray true) Q fr L:=⟨fun a w hr pH=>by
 refine wp_region_any hm ?_;exact qc (U:=Mem W L0) l.toArray.size (Array.replicate l.toArray.size false) a (Mem W L) w.drew pH.drew (h.go ii hQ iO a hr)⟩
theorem uC{listed:Array Bool}{f:Nat}(t:Ord)(ho:iw .any ops t listed=true)(hf:f=t.size)(h:TW P n W ops Q L0 t fr L):TX P n W ops Q L0 listed f fr L:=
 ⟨fun ii hQ iO a hr=>by subst hf;exact fK iO hQ t listed a (Mem W L) (dV W L) ii ho (h.go a hr)⟩
theorem lT{listed:Array Bool}{f d:Nat}{o:Oper}{v:Value}(i:Nat)(hi:((Region.ready .any ops listed).contains i&&Region.free .any ops listed i)=true)(ho:ops[i]?=some o)(hr:RR P n W o fr L0 v)(hg:o.guard=none)(hd:o.dst=some d)(hn:Nat.blt d n=true)
 (h:TX P n W ops Q L0 (listed.setIfInBounds i true) f ((d,v)::fr) L):TX P n W ops Q L0 listed (f+1) fr L:=⟨fun ii hQ iO a eh=>by
 rw[Bool.and_eq_true]at hi;have hc:fF P ops (Mem W L0) o v a:= .inl ⟨lx hg,fun w hw=>by unfold ky;rw[hr.go a w eh hw];exact⟨rfl,Gr.refl _⟩⟩;exact qZ ho (Region.noSelect_spec iO) (fun c a w=>hQ c a o.dst v w) f listed a (Mem W L) (dV W L) ii (Region.free_spec ho hi.2) (by simpa using hi.1) hc
  (by rw[hd];exact h.go ii hQ iO _ (eh.put hn v))⟩
def Lv(ops:Array Oper)(ms:List Mk)(ends:List (List Nat))(listed:Array Bool)(fr:Fr):Bool:=
 decide (ms.map (·.i)).Nodup&&decide (ms.map (·.d)).Nodup&&Rf ops (ms.map (·.i)) ends listed&&ms.all fun m=>(look fr m.d).isNone
theorem Cy{listed:Array Bool}{f:Nat}(ms:List Mk)(p:Mk->Bool)(S0:Nat)(hf:f=ms.length+S0)(hB:Lv ops ms [ms.map (·.i),(ms.filter p).map (·.i)] listed fr=true)(hm:∀m∈ms,yU P n W ops fr m)
    (h:∀g:Nat->Nat,TX P n W ops Q L0 (ji listed (ms.map (·.i))) S0 (ms.map (fun m=>(m.d,m.v (g m.i)))++fr) (L++ms.map fun m=>m.own (g m.i)))
    (h':∀g:Nat->Nat,TX P n W ops Q L0 (ji listed ((ms.filter p).map (·.i))) (ms.length-(ms.filter p).length+S0) ((ms.filter p).map (fun m=>(m.d,m.v (g m.i)))++fr) (L++(ms.filter p).map fun m=>m.own (g m.i))):TX P n W ops Q L0 listed f fr L:=⟨fun ii hQ iO a hr=>by
  subst hf;simp only[Lv,Bool.and_eq_true,decide_eq_true_eq]at hB;obtain⟨⟨⟨b1,b2⟩,b3⟩,b4⟩:=hB;have:=OQ (Q:=Q) (L:=L) ms [ms,ms.filter p] listed (Mem W L0) S0 (fun l w hw=>ii w (mem_left hw)) b1 b2 b3 hm (fun m hm=>by simpa using List.all_eq_true.1 b4 m hm)
    (fun E hE=>by
      have hE:E=ms\/E=ms.filter p:=by
        simp only[List.mem_cons,List.not_mem_nil,or_false]at hE;rcases hE with h|h|h
        · exact .inl h
        · exact .inl h
        · exact .inr h
      rcases hE with rfl|rfl
      · exact⟨fun _ h=>h,b1,b2,fun k g a hk hr=>by
          obtain rfl:k=0:=by omega
          rw[Nat.zero_add];exact(h g).go (fun w hw=>ii w (mem_left hw)) hQ iO a hr⟩
      · exact⟨fun _ h=>(List.mem_filter.1 h).1,b1.sublist (List.filter_sublist.map _),b2.sublist (List.filter_sublist.map _),fun k g a hk hr=>by
          obtain rfl:k=ms.length-(ms.filter p).length:=by omega
          exact(h' g).go (fun w hw=>ii w (mem_left hw)) hQ iO a hr⟩) ms.length [] (fun x hx=>by cases hx) (by simp) (by simp) a hr
  simpa[ji,Rb]using this⟩
theorem ri{fr xS:Fr}(h:∀q v,look fr q=some v->look xS q=some v){x:Operand}{v:Value}(hx:ev fr x=some v):ev xS x=some v:=by
 cases x with
 |tmp t=>exact h _ _ hx
 |_=>exact hx
theorem jM{i d:Nat}{t e ty:TypeId}{pos:String}{after:Array Edge}{x y:Operand}{c bytes m cap:Nat}{k k':IntKind}{zs:Array Value}[nS P t e c bytes][aW P e zs](ho:ops[i]?=some ⟨some d,.makeSlice t x y,ty,pos,after,none⟩)(hx:ev fr x=some (.int k (m:Int)))(hy:ev fr y=some (.int k' (cap:Int)))(Hb:m<=cap)(hb:bytes*cap<=281474976710656)(pF:cap<=9223372036854775807)(hn:Nat.blt d n=true):
 yU P n W ops fr ⟨i,d,fun g=> .slice (some ⟨g,0,none⟩) m cap,fun g=>ap g (madeCells zs (cap*c)) e⟩:=
 ⟨_,ho,fun _ _ _ hl h=>nX (ri hl hx) (ri hl hy) Hb hb pF hn h⟩
theorem yW{i d:Nat}{t ty:TypeId}{pos:String}{after:Array Edge}{cs:Array Value}[aW P t cs](ho:ops[i]?=some ⟨some d,.alloc t,ty,pos,after,none⟩)(hn:Nat.blt d n=true):
 yU P n W ops fr ⟨i,d,fun g=> .pointer (some ⟨g,0,none⟩),fun g=>ap g cs t⟩:=
 ⟨_,ho,fun _ _ _ _ h=>aF hn h⟩
end
end bH
namespace d_
open bO
def SzR(p0:Nat)(x:Rx)(st:RS):Prop:=p0<=st.p/\(st.e=0->nC x+1<=200*(st.p-p0))/\(st.e≠0->nC x<=200*(st.p-p0)+1)
section
variable{s:IG}
theorem SzR.le{p0:Nat}{x:Rx}{st:RS}(h:SzR p0 x st):nC x<=200*(st.p-p0)+1:=by
 by_cases e:st.e=0
 ·have:=h.2.1 e;omega
 ·exact h.2.2 e
end
end d_
namespace av
abbrev bY:=Int×Int
abbrev Prod:=Int×List bY
structure df where
 aJ:Int
 aR:Int
 ag:List Prod
def right(aJ aR:Int)(x:bY):Bool:=if x.1=1 then decide (0<=x.2)&&decide (x.2<aJ)else if x.1=2 then decide (0<=x.2)&&decide (x.2<aR)else false
def rj(aJ aR:Int)(p:Prod):Int:=if 8<p.2.length then 2 else if p.1<0 then 1 else if aR<=p.1 then 1 else if p.2.any (fun x=>!right aJ aR x)=true then 1 else 0
def kF(aJ aR:Int):List Prod->Int
 |[]=>0
 |p::r=>if rj aJ aR p≠0 then rj aJ aR p else kF aJ aR r
def bM(g:df):Int:=if g.aJ<0 then 1 else if 30<g.aJ then 1 else if g.aR<1 then 1 else if 20<g.aR then 1 else if 40<g.ag.length then 2 else kF g.aJ g.aR g.ag
theorem Lw{t n:Int}{p:Prod}(h:rj t n p=0):p.2.length<=8/\0<=p.1/\p.1<n/\∀x∈p.2,right t n x=true:=by
 unfold rj at h;split at h;· simp at h
 split at h;· simp at h
 split at h;· simp at h
 split at h;· simp at h
 rename_i a b c d
 refine⟨by omega,by omega,by omega,fun x hx=>?_⟩;simp only[List.any_eq_true,not_exists,not_and,Bool.not_eq_true',Bool.not_eq_false]at d
 simpa using d x hx
theorem yX{t n:Int}:∀{l:List Prod},kF t n l=0->∀p∈l,rj t n p=0
  |[],_,_,h=>by cases h
  | q ::r,h,p,hp=>by
    unfold kF at h;split at h
    · contradiction
    · rename_i c
      rcases List.mem_cons.1 hp with rfl|hp
      · simpa using c
      · exact yX h p hp
theorem bI{g:df}(h:bM g=0):0<=g.aJ/\g.aJ<=30/\1<=g.aR/\g.aR<=20/\g.ag.length<=40/\∀p∈g.ag,p.2.length<=8/\0<=p.1/\p.1<g.aR/\∀x∈p.2,right g.aJ g.aR x=true:=by
 unfold bM at h;split at h;· simp at h
 split at h;· simp at h
 split at h;· simp at h
 split at h;· simp at h
 split at h;· simp at h
 exact⟨by omega,by omega,by omega,by omega,by omega,fun p hp=>Lw (yX h p hp)⟩
end av
namespace bH
open Go.RowKit bL db
theorem str_inj{x y:List UInt8}(h:str x=str y):x=y:=by
 unfold str at h
 simpa using h
def eB:qi Tryz.prog 9 (List UInt8) where
 kv:=str
 ok l:=l.length<=9223372036854775807
 law:=Go.WideMaps.string_law Tryz.underlying9
 key l h:=⟨_,Go.WideMaps.keyOf_string_mk Tryz.underlying9 (by unfold maxLen;simpa[ByteArray.size]using h)⟩
 inj x y h:=str_inj h
end bH
namespace rl
def jp(n:Nat)(tag:Int)(row:List Int):Bool:=decide (tag< -1)||decide (20<=tag)||row.any fun t=>decide (t< -1)||decide ((n:Int)<=t)
def sG(rows:List (List Int))(tags:List Int):Int:=
 if 200<rows.length then 2 else if rows.length=0\/tags.length≠rows.length then 1 else if(List.range rows.length).any (fun i=>jp rows.length (tags.getD i 0) (rows.getD i []))then 1 else 0
theorem Ly{rows:List (List Int)}{tags:List Int}(h:sG rows tags=0):rows.length<=200/\0<rows.length/\tags.length=rows.length/\∀i,i<rows.length-> -1<=tags.getD i 0/\tags.getD i 0<20/\∀t∈rows.getD i [],-1<=t/\t<rows.length:=by
  unfold sG at h;split at h
  · simp at h
  · split at h
    · simp at h
    · split at h
      · simp at h
      · rename_i c1 c2 c3
        refine⟨by omega,by omega,by omega,fun i hi=>?_⟩;simp only[List.any_eq_true,List.mem_range,not_exists,not_and]at c3;have:=c3 i hi;simp only[jp,Bool.or_eq_true,decide_eq_true_eq,List.any_eq_true,not_or,not_exists,not_and]at this;obtain⟨⟨a,b⟩,c⟩:=this;refine⟨by omega,by omega,fun t ht=>?_⟩;have:=c t ht;omega
end rl
namespace bH
open Go.RowKit bL db rl
set_option maxRecDepth 100000
def isRow(cs:List Value)(r:List Int):Prop:=r.length=256/\cs=r.map (.int .i16)/\∀x∈r,-32768<=x/\x<=32767
def Rh(W:World)(v:Value)(rows:List (List Int))(tags:List Int):Prop:=∃vr vt,v= .agg #[vr,vt]/\N9 W isRow 256 vr rows/\N9 W (isInt .i64 (-9223372036854775808) 9223372036854775807) 1 vt tags/\∀r∈rows,r.length=256
end bH
namespace bH
open Go.RowKit bL db rl
theorem SM{rows:List (List Int)}{i:Nat}(hi:i<rows.length):rows.getD i []=rows[i]:=by rw[List.getD_eq_getElem?_getD,List.getElem?_eq_getElem hi];rfl
theorem EU{l:List Int}{i:Nat}(hi:i<l.length):l.getD i 0=l[i]:=by rw[List.getD_eq_getElem?_getD,List.getElem?_eq_getElem hi];rfl
theorem I0{n i:Nat}{p:Nat->Bool}(hi:i<n)(h:p i=true):(List.range n).any p=true:=List.any_eq_true.2 ⟨i,List.mem_range.2 hi,h⟩
theorem vY(v:Value)(rows:List (List Int))(tags:List Int)(w:World)(h:Rh w v rows tags):
    Calls Tryz.prog 46 #[v] w (bU (ret (.int .i64 (sG rows tags))) w):=by
  obtain⟨vr,vt,rfl,hr,ht,aaq⟩:=h;obtain⟨br,cr,rfl,EV,l_,yY⟩:=hr;have OS:=ht.sl (f:= .int .i64) fun cs a h=>h.1;obtain⟨bt,ct,rfl,Xr,OT,EW⟩:=OS;have htr:∀i (hi:i<tags.length),-9223372036854775808<=tags[i]/\tags[i]<=9223372036854775807:=fun i hi=>by
    obtain⟨_,_,_,_,_,h5⟩:=ht;obtain⟨_,_,_,h6⟩:=h5 (by omega);obtain⟨_,h7,_⟩:=h6 i hi;exact h7.2
  clear ht;unfold maxLen at l_ OT;refine enter (args:=[.agg #[.slice br rows.length cr,.slice bt tags.length ct]]) (n:=57) Tryz.func46 rfl rfl rfl ?_;refine bJ (aV (bK rfl rfl rfl fun g=>?_))
  repeat(first|refine GA ?_|refine gV (J ak.ty rfl (ah (i:=0) rfl rfl)) ?_)
  unfold sG
  by_cases c1:200<rows.length
  · rw[if_pos c1]
    try refine GA ?_
    exact da
  · rw[if_neg c1]
    by_cases c2:rows.length=0
    · rw[if_pos (.inl c2)]
      repeat(first|refine GA ?_|refine gV (J ak.ty rfl (ah (i:=0) rfl rfl)) ?_)
      exact da
    · by_cases c3 : tags.length=rows.length
      · rw[if_neg (by omega)]
        repeat(first|refine GA ?_|refine gV (J ak.ty rfl (ah (i:=0) rfl rfl)) ?_)
        refine iu (ι:=Nat) (fun i=>i<=rows.length/\∀j,j<i->jp rows.length (tags.getD j 0) (rows.getD j [])=false) (fun i=>[(1,.pointer (some ⟨g,0,none⟩)),(3,.int .i64 rows.length),(21,.int .i64 rows.length),(22,.int .i64 (i:Int))]) (fun _=>[ap g #[.slice br rows.length cr,.slice bt tags.length ct] 98]) (fun i=>rows.length-i) 0 ⟨by omega,fun j hj=>by omega⟩ ⟨rfl,rfl,rfl,rfl,trivial⟩ rfl ?_;rintro i ⟨h1,h2⟩
        by_cases c4:i<rows.length
        · obtain⟨b,off,rfl,hb⟩:=yY (by omega)
          obtain⟨b',uc,rfl,Aq⟩:=EW (by omega);have Ut:i<tags.length:=by omega
          have du:=KO (L:=[ap g #[.slice (some ⟨b,off,none⟩) rows.length cr,.slice (some ⟨b',uc,none⟩) tags.length ct] 98]) Aq Ut;obtain⟨cs,hcs,dW⟩:=hb i c4;obtain⟨q1,q2,q3⟩:=hcs;have hti:=htr i Ut;have hta:=EU Ut;have Vn:=SM c4;have jN:∀(P:Prop),jp rows.length (tags.getD i 0) (rows.getD i [])=true->(if(List.range rows.length).any (fun i=>jp rows.length (tags.getD i 0) (rows.getD i []))=true then(1:Int)else 0)=1:=fun _ h=>if_pos (I0 c4 h);rw[hta,Vn]at jN
          by_cases c5:tags[i]< -1
          · rw[jN True (by simp[jp,c5])]
            repeat(first|refine GA ?_|refine gV (J ak.ty rfl (ah (i:=0) rfl rfl)) ?_|refine gV (aO aT.eq ak.ty rfl rfl Ut) ?_|refine gV (J ak.ty rfl du) ?_)
            exact da
          · by_cases c6:20<=tags[i]
            · rw[jN True (by simp[jp,c6])]
              repeat(first|refine GA ?_|refine gV (J ak.ty rfl (ah (i:=0) rfl rfl)) ?_|refine gV (aO aT.eq ak.ty rfl rfl Ut) ?_|refine gV (J ak.ty rfl du) ?_)
              exact da
            · repeat(first|refine GA ?_|refine gV (J ak.ty rfl (ah (i:=0) rfl rfl)) ?_|refine gV (aO aT.eq ak.ty rfl rfl Ut) ?_|refine gV (J ak.ty rfl du) ?_|refine gV (aH aT.eq ak.ty rfl rfl c4) ?_|refine gV (aK ak.ty rfl (by rw[q2,List.length_map,q1]) (fun j v hj=>iD dW hj)) ?_)
              refine iu (ι:=Nat) (fun b=>b<=256/\∀q,q<b-> -1<=rows[i].getD q 0/\rows[i].getD q 0<rows.length) (fun b=>[(1,.pointer (some ⟨g,0,none⟩)),(3,.int .i64 rows.length),(21,.int .i64 rows.length),(22,.int .i64 (i:Int)),(43,.agg cs.toArray),(44,.int .i64 (b:Int))]) (fun _=>[ap g #[.slice (some ⟨b,off,none⟩) rows.length cr,.slice (some ⟨b',uc,none⟩) tags.length ct] 98]) (fun b=>256-b) 0 ⟨by omega,fun q hq=>by omega⟩ ⟨rfl,rfl,rfl,rfl,rfl,rfl,trivial⟩ rfl ?_;rintro q ⟨k1,k2⟩
              by_cases c7:q<256
              · have Xs:q<rows[i].length:=by omega
                have hqv:=EU Xs;have hcell:cs.toArray[q]?=some (.int .i16 rows[i][q]):=by rw[q2];simp[Xs]
                have Yu:=q3 _ (List.getElem_mem Xs);have OU:rows[i][q]∈rows[i]:=List.getElem_mem Xs;generalize rows[i][q]=z at*
                by_cases c8:z< -1
                · rw[jN True (by simp only[jp,Bool.or_eq_true,List.any_eq_true];exact .inr ⟨z,OU,by simp[c8]⟩)]
                  clear k2 h2 yY EW
                  repeat(first|refine GA ?_|refine gV (fw aT.eq ak.ty rfl rfl c7 hcell) ?_|refine gV (e7 aT.eq aT.eq rfl (jE (by omega) (by omega))) ?_)
                  exact da
                · by_cases c9:(rows.length:Int)<=z
                  · rw[jN True (by simp only[jp,Bool.or_eq_true,List.any_eq_true];exact .inr ⟨z,OU,by simp[c9]⟩)]
                    clear k2 h2 yY EW
                    repeat(first|refine GA ?_|refine gV (fw aT.eq ak.ty rfl rfl c7 hcell) ?_|refine gV (e7 aT.eq aT.eq rfl (jE (by omega) (by omega))) ?_)
                    exact da
                  · repeat(first|refine GA ?_|refine gV (fw aT.eq ak.ty rfl rfl c7 hcell) ?_|refine gV (e7 aT.eq aT.eq rfl (jE (by omega) (by omega))) ?_)
                    exact eZ (q+1) ⟨by omega,fun q' B4=>if e:q'<q then k2 q' e else(by obtain rfl:q'=q:=(by omega);rw[hqv];omega)⟩ (by show 256-(q+1)<256-q;omega) ⟨rfl,rfl,rfl,rfl,rfl,rfl,trivial⟩ rfl
              · have rm:jp rows.length (tags.getD i 0) (rows.getD i [])=false:=by
                  rw[hta,Vn];simp only[jp,Bool.or_eq_false_iff,decide_eq_false_iff_not,List.any_eq_false,Bool.not_eq_true];refine⟨⟨c5,c6⟩,fun z hz=>?_⟩;obtain⟨q',B4,rfl⟩:=List.mem_iff_getElem.1 hz;have:=k2 q' (by omega);rw[EU B4]at this;simp;omega
                try refine GA ?_
                exact eZ (i+1) ⟨by omega,fun j hj=>if e:j<i then h2 j e else(by obtain rfl:j=i:=(by omega);exact rm)⟩ (by show rows.length-(i+1)<rows.length-i;omega) ⟨rfl,rfl,rfl,rfl,trivial⟩ rfl
        · have hno:¬(List.range rows.length).any (fun i=>jp rows.length (tags.getD i 0) (rows.getD i []))=true:=by
            simp only[List.any_eq_true,List.mem_range,not_exists,not_and];intro j hj;rw[h2 j (by omega)];simp
          rw[if_neg hno]
          try refine GA ?_
          exact da
      · rw[if_pos (.inr c3)]
        repeat(first|refine GA ?_|refine gV (J ak.ty rfl (ah (i:=0) rfl rfl)) ?_)
        exact da
end bH
namespace bT
structure n' where
 n:Nat
 d:Nat->Nat->Int
 tag:Nat->Int
structure n'.Ok(A:n'):Prop where
 pos:0<A.n
 le:A.n<=200
 step:∀i,i<A.n->∀b,b<256-> -1<=A.d i b/\A.d i b<A.n
 tags:∀i,i<A.n-> -1<=A.tag i/\A.tag i<20
abbrev Row:=Vector Int 256
abbrev Kind:=Int×Row
section
variable(A:n')
def val(now:Nat->Nat)(q:Int):Nat:=if q<0 then 0 else now q.toNat
def kind(now:Nat->Nat)(i:Nat):Kind:=((now i:Int),Vector.ofFn fun b:Fin 256=>(val now (A.d i b):Int))
def dead:Kind:=(0,Vector.replicate 256 0)
def kinds(now:Nat->Nat):List Kind:=(List.range A.n).map (kind A now)
def iS(now:Nat->Nat):List Kind:=cg [dead] (kinds A now)
def next(now:Nat->Nat)(i:Nat):Nat:=idx (iS A now) (kind A now i)
def yZ:Nat->Nat->(Nat->Nat)->Nat->Nat
 |0,_,now=>now
 |f+1,n,now=>if(iS A now).length=n then next A now else yZ f (iS A now).length (next A now)
def rp(i:Nat):Nat:=(A.tag i+1).toNat
def cz:Nat->Nat:=yZ A (A.n+2) 0 (rp A)
def tg(q:Int):Int:=if q<0 then-1 else A.tag q.toNat
def dt(q:Int)(b:Nat):Int:=if q<0 then-1 else A.d q.toNat b
def go:Int->List UInt8->Int
 |q,[]=>q
 |q,b::s=>go (dt A q b.toNat) s
def St(q:Int):Prop:= -1<=q/\q<A.n
def same(q r:Int):Prop:=∀s,tg A (go A q s)=tg A (go A r s)
def kd(now:Nat->Nat)(q:Int):Kind:=if q<0 then dead else kind A now q.toNat
end
section
variable{A:n'}
theorem y0(hA:A.Ok){q:Int}(hq:St A q){b:Nat}(hb:b<256):St A (dt A q b):=by
 unfold St dt at*;have:=hA.pos;split
 ·omega
 ·exact hA.step q.toNat (by omega) b hb
theorem I1{q r:Int}(h:same A q r)(b:Nat)(hb:b<256):same A (dt A q b) (dt A r b):=fun s=>by
 have:=h (UInt8.ofNat b::s);have e:(UInt8.ofNat b).toNat=b:=by simp;omega
 simp only[go,e]at this;exact this
theorem AI(now:Nat->Nat)(q:Int):(kd A now q).1=(val now q:Int):=by
 unfold kd val dead kind;split<;>rfl
theorem AJ(now:Nat->Nat)(q:Int)(b:Nat)(hb:b<256):(kd A now q).2[b]=(val now (dt A q b):Int):=by
 unfold kd dt dead kind;split
 ·simp[val]
 ·simp
theorem Lz{now:Nat->Nat}{q r:Int}:kd A now q=kd A now r↔val now q=val now r/\∀b,b<256->val now (dt A q b)=val now (dt A r b):=by
 constructor
 ·intro h
  refine⟨?_,fun b hb=>?_⟩
  ·have e:(kd A now q).1=(kd A now r).1:=by rw[h]
   rw[AI,AI]at e;exact Int.ofNat.inj e
  ·have e:(kd A now q).2[b]=(kd A now r).2[b]:=by rw[h]
   rw[AJ _ _ _ hb,AJ _ _ _ hb]at e;exact Int.ofNat.inj e
 ·rintro⟨h1,h2⟩
  refine Prod.ext ?_ (Vector.ext fun b hb=>?_)
  ·rw[AI,AI,h1]
  ·rw[AJ _ _ _ hb,AJ _ _ _ hb,h2 b hb]
theorem Cz(now:Nat->Nat):dead∈iS A now:=gK.2 (.inl (by simp))
theorem LA{now:Nat->Nat}{i:Nat}(h:i<A.n):kind A now i∈iS A now:=gK.2 (.inr (List.mem_map.2 ⟨i,List.mem_range.2 h,rfl⟩))
theorem LB{now:Nat->Nat}{q:Int}(h:q<A.n):kd A now q∈iS A now:=by
 unfold kd;split
 ·exact Cz now
 ·exact LA (by omega)
theorem I2(now:Nat->Nat):(iS A now).Nodup:=mW _ _ (by simp)
theorem sH(now:Nat->Nat):(iS A now).length<=A.n+1:=by
 have h:∀(l D:List Kind),(cg D l).length<=D.length+l.length:=by
  intro l
  induction l with
  |nil=>intro D;simp[cg]
  |cons k l ih=>
   intro D;have:=ih (more D k);have h2:(more D k).length<=D.length+1:=by unfold more;split<;>simp
   show(cg (more D k) l).length<=_
   simp;omega
 have:=h (kinds A now) [dead];unfold iS;simp[kinds]at this⊢;omega
theorem Hi(now:Nat->Nat):0<(iS A now).length:=List.length_pos_of_mem (Cz now)
theorem oa(now:Nat->Nat){q:Int}:val (next A now) q=idx (iS A now) (kd A now q):=by
 unfold val kd;split
 ·obtain⟨E,h⟩:=mV (kinds A now) [dead]
  rw[iS,h];exact(Ln dead E).symm
 ·rfl
theorem lC{now:Nat->Nat}{q:Int}(h:q<A.n):val (next A now) q<(iS A now).length:=by
 rw[oa];exact iV (LB h)
theorem AK{now:Nat->Nat}{q r:Int}(hq:q<A.n):val (next A now) q=val (next A now) r↔kd A now q=kd A now r:=by
 rw[oa,oa];exact⟨fun h=>OO (LB hq) h,fun h=>by rw[h]⟩
theorem vZ{now:Nat->Nat}{q r:Int}(hq:q<A.n)(h:val (next A now) q=val (next A now) r):val now q=val now r:=(Lz.1 ((AK hq).1 h)).1
theorem LC{now:Nat->Nat}{v:Nat}(h:v<(iS A now).length):∃q:Int,St A q/\val (next A now) q=v:=by
 have hm:(iS A now)[v]∈iS A now:=List.getElem_mem h;have hi:idx (iS A now) (iS A now)[v]=v:=vV (I2 now) h;rcases gK.1 hm with hd|hk
 ·refine⟨-1,⟨by omega,by omega⟩,?_⟩
  rw[oa,show kd A now (-1)=dead from rfl,<-List.mem_singleton.1 hd];exact hi
 ·obtain⟨i,h1,h2⟩:=List.mem_map.1 hk
  rw[List.mem_range]at h1;refine⟨i,⟨by omega,by omega⟩,?_⟩;have e:kd A now (i:Int)=kind A now i:=by unfold kd;rw[if_neg (by omega),Int.toNat_natCast]
  rw[oa,e,h2];exact hi
def Hj(A:n')(n:Nat)(now:Nat->Nat):Prop:=∃Ri,now=next A Ri/\n=(iS A Ri).length
def CA(A:n')(x:Nat):Int:=if x<A.n then(x:Int)else-1
theorem LD{q:Int}(h:St A q):∃x,x<A.n+1/\CA A x=q:=by
 unfold St at h
 by_cases c:q<0
 ·exact⟨A.n,by omega,by unfold CA;rw[if_neg (by omega)];omega⟩
 ·exact⟨q.toNat,by omega,by unfold CA;rw[if_pos (by omega)];omega⟩
theorem AL(x:Nat):CA A x<A.n:=by unfold CA;split<;>omega
theorem qo{n:Nat}{now:Nat->Nat}(h:Hj A n now):n<=(iS A now).length/\((iS A now).length=n->∀q r,St A q->St A r->val now q=val now r->val (next A now) q=val (next A now) r):=by
 obtain⟨Ri,rfl,rfl⟩:=h;have h:=ER (N:=A.n+1) (f:=fun x=>val (next A Ri) (CA A x)) (g:=fun x=>val (next A (next A Ri)) (CA A x)) (n:=(iS A Ri).length) (c:=(iS A (next A Ri)).length)
  (fun v hv=>by
   obtain⟨q,hq,e⟩:=LC hv;obtain⟨x,hx,e2⟩:=LD hq;exact⟨x,hx,by show val (next A Ri) (CA A x)=v;rw[e2];exact e⟩)
  (fun x _=>lC (AL x)) (fun x y _ _ e=>vZ (AL x) e)
 refine⟨h.1,fun hc q r hq hr e=>?_⟩;obtain⟨x,hx,rfl⟩:=LD hq;obtain⟨y,hy,rfl⟩:=LD hr;exact h.2 hc (fun x _=>lC (AL x)) x y hx hy e
structure Way(A:n')(now:Nat->Nat):Prop where
 tags:∀q r,St A q->St A r->val now q=val now r->tg A q=tg A r
 coarse:∀q r,St A q->St A r->same A q r->val now q=val now r
theorem Yv(hA:A.Ok):Way A (rp A) where
 tags q r hq hr h:=by
  unfold St at hq hr;unfold val rp at h;unfold tg;have h1:=fun c=>hA.tags q.toNat (c:q.toNat<A.n);have h2:=fun c=>hA.tags r.toNat (c:r.toNat<A.n)
  by_cases c1:q<0<;>by_cases c2:r<0<;>simp only[c1,c2,if_true,if_false]at h⊢
  ·have:=h2 (by omega);omega
  ·have:=h1 (by omega);omega
  ·have:=h1 (by omega);have:=h2 (by omega);omega
 coarse q r hq hr h:=by
  have:=h [];simp only[go]at this;unfold tg at this;unfold val rp
  by_cases c1:q<0<;>by_cases c2:r<0<;>simp only[c1,c2,if_true,if_false]at this⊢ <;>omega
theorem v7(hA:A.Ok){now:Nat->Nat}(h:Way A now):Way A (next A now) where
 tags q r hq hr e:=h.tags q r hq hr (vZ hq.2 e)
 coarse q r hq hr e:=(AK hq.2).2 (Lz.2 ⟨h.coarse q r hq hr e,fun b hb=>h.coarse _ _ (y0 hA hq hb) (y0 hA hr hb) (I1 e b hb)⟩)
structure v8(A:n')(bl:Nat->Nat):Prop where
 le:∀i,i<A.n->bl i<=A.n
 tags:∀q r,St A q->St A r->val bl q=val bl r->tg A q=tg A r
 step:∀q r,St A q->St A r->val bl q=val bl r->∀b,b<256->val bl (dt A q b)=val bl (dt A r b)
 coarse:∀q r,St A q->St A r->same A q r->val bl q=val bl r
theorem EX(hA:A.Ok){n:Nat}{now:Nat->Nat}(hr:Hj A n now)(hw:Way A now)(hc:(iS A now).length=n):v8 A (next A now) where
 le i hi:=by
  have:=lC (A:=A) (now:=now) (q:=(i:Int)) (by omega);have h2:=sH (A:=A) now;unfold val at this;rw[if_neg (by omega),Int.toNat_natCast]at this;omega
 tags:=(v7 hA hw).tags
 coarse:=(v7 hA hw).coarse
 step q r hq ur e b hb:=(qo hr).2 hc _ _ (y0 hA hq hb) (y0 hA ur hb) ((Lz.1 ((AK hq.2).1 e)).2 b hb)
theorem LF(hA:A.Ok):∀(f n:Nat) (now:Nat->Nat),(n=0\/Hj A n now)->n<=A.n+1->A.n+2<=f+n->Way A now->v8 A (yZ A f n now)
  |0,n,now,_,h1,h2,_=>by omega
  | f +1,n,now,hr,h1,h2,hw=>by
    unfold yZ;have hp:=Hi (A:=A) now;split
    · rename_i hc
      rcases hr with rfl|hr
      · omega
      · exact EX hA hr hw hc
    · rename_i hc
      refine LF hA f _ _ (.inr ⟨now,rfl,rfl⟩) (sH now) ?_ (v7 hA hw);rcases hr with rfl|hr
      · omega
      · have:=(qo hr).1;omega
theorem I3(hA:A.Ok):v8 A (cz A):=LF hA _ _ _ (.inl rfl) (Nat.zero_le _) (by omega) (Yv hA)
theorem v8.same(hA:A.Ok){bl:Nat->Nat}(h:v8 A bl){q r:Int}(hq:St A q)(hr:St A r):val bl q=val bl r↔same A q r:=by
 refine⟨fun e s=>?_,h.coarse q r hq hr⟩
 induction s generalizing q r with
 |nil=>exact h.tags q r hq hr e
 |cons b s ih=>exact ih (y0 hA hq b.toNat_lt) (y0 hA hr b.toNat_lt) (h.step q r hq hr e _ b.toNat_lt)
end
end bT
namespace bH
open Go.RowKit bL db bT
def gu{κ:Type}[DecidableEq κ](D:List κ)(x:κ):Option Value:=if x∈D then some (.int .i64 (idx D x:Int))else none
theorem y5{κ:Type}[DecidableEq κ]{D:List κ}{x:κ}(hn:x∉D):(fun y=>if y=x then some (.int .i64 (D.length:Int))else gu D y)=gu (D++[x]):=by
 funext y
 unfold gu
 by_cases c:y=x
 ·subst c
  rw[if_pos rfl,if_pos (by simp)];have:=mj (D:=D) (k:=y);unfold more at this;rw[if_neg hn,if_neg hn]at this;rw[this]
 ·rw[if_neg c]
  by_cases c2:y∈D
  ·rw[if_pos c2,if_pos (List.mem_append_left _ c2),lB c2]
  ·rw[if_neg c2,if_neg (by simp[c,c2])]
section
variable{P:Program}{k:TypeId}{κ:Type}{K:qi P k κ}
variable{W:bB}{fr:Fr}{L:List bz}{Q:Exit->Act->World->Prop}{ops:Array Oper}{rest:List Oper}{n d:Nat}{dst:Option Tmp}{ty:TypeId}{pos:String}{after:Array Edge}{guard:Option (Nat×Bool)}{i g c:Nat}{t e:TypeId}{D:List κ}{x:κ}{z:Value}{xm xk xv:Operand}[DecidableEq κ]
theorem ob(ht:P.underlying t=some (.map k e))(hz:∀w,(zeroValue e).run P w= .ok z w)(hi:L[i]?=some (dr K g (gu D) c))(hm:ev fr xm=some (.map (some g)))(hk:ev fr xk=some (K.kv x))(hx:K.ok x)(hn:x∈D):RR P n W ⟨dst,.lookup t xm xk true,ty,pos,after,guard⟩ fr L (.tuple #[.int .i64 (idx D x:Int),.bool true]):=by
 have:=kq (n:=n) (W:=W) (dst:=dst) (ty:=ty) (pos:=pos) (after:=after) (guard:=guard) K ht hz hi hm hk hx;rw[show gu D x=some (.int .i64 (idx D x:Int))from if_pos hn]at this;exact this
theorem oc(ht:P.underlying t=some (.map k e))(hz:∀w,(zeroValue e).run P w= .ok z w)(hi:L[i]?=some (dr K g (gu D) c))(hm:ev fr xm=some (.map (some g)))(hk:ev fr xk=some (K.kv x))(hx:K.ok x)(hn:x∉D):RR P n W ⟨dst,.lookup t xm xk true,ty,pos,after,guard⟩ fr L (.tuple #[z,.bool false]):=by
 have:=kq (n:=n) (W:=W) (dst:=dst) (ty:=ty) (pos:=pos) (after:=after) (guard:=guard) K ht hz hi hm hk hx;rw[show gu D x=none from if_neg hn]at this;exact this
theorem sI(hn:Nat.blt d n=true)(h:∀g,TL P n W ops Q rest ((d,.map (some g))::fr) (L++[dr K g (gu []) 0])):
 TL P n W ops Q (⟨some d,.makeMap t none,ty,pos,after,none⟩::rest) fr L:=by
 refine qj K hn fun g=>?_;have e:(fun(_:κ)=>(none:Option Value))=gu []:=by funext y;unfold gu;rw[if_neg (by simp)]
 rw[e];exact h g
theorem sJ(ht:P.underlying t=some (.map k e))(hi:L[i]?=some (dr K g (gu D) D.length))(hm:ev fr xm=some (.map (some g)))(hk:ev fr xk=some (K.kv x))(hv:ev fr xv=some (.int .i64 (D.length:Int)))(hx:K.ok x)(hn:x∉D)(hc:D.length<=1152921504606846976)
 (h:TL P n W ops Q rest fr (L.set i (dr K g (gu (D++[x])) (D++[x]).length))):
 TL P n W ops Q (⟨none,.mapUpdate t xm xk xv,ty,pos,after,none⟩::rest) fr L:=by
 refine iF K ht hi hm hk hv hx hc ?_;rw[y5 hn];rw[show gu D x=none from if_neg hn];rw[show(D++[x]).length=D.length+1 by simp]at h;exact h
end
end bH
namespace bH
open Go.RowKit bL db
def ft(D:Nat->Prop)(f:Nat->bz):bz where
  uu:=none
  more:=fun k=>∃i,D i/\(f i).dF k
  holds:=fun w=>(∀i,D i->(f i).holds w)/\∀i j,D i->D j->i≠j->∀k,(f i).dF k->¬(f j).dF k
  lt:=fun w h k hk=>by
    rcases hk with hk|⟨i,hi,hk⟩
    · cases hk
    · exact(f i).lt w (h.1 i hi) k hk
  stay:=fun w w' h hs hb=>⟨fun i hi=>(f i).stay w w' (h.1 i hi) hs fun k hk=>hb k (.inr ⟨i,hi,hk⟩),h.2⟩
theorem sK{D D':Nat->Prop}{f f':Nat->bz}(h1:∀k,D' k->D k)(h2:∀k,D' k->f' k=f k)(w:World)(h:(ft D f).holds w):(ft D' f').holds w:=
 ⟨fun i hi=>by rw[h2 i hi];exact h.1 i (h1 i hi),fun i j hi hj k_=>by rw[h2 i hi,h2 j hj];exact h.2 i j (h1 i hi) (h1 j hj) k_⟩
theorem v_{D D':Nat->Prop}{f f':Nat->bz}(h1:∀k,D' k->D k)(h2:∀k,D' k->f' k=f k)(k:Nat)(h:(ft D' f').dF k):(ft D f).dF k:=by
 rcases h with h|⟨i,hi,hk⟩
 ·cases h
 ·exact .inr ⟨i,h1 i hi,by rw[<-h2 i hi];exact hk⟩
def I4(f:Nat->bz)(i:Nat)(o:bz):Nat->bz:=fun k=>if k=i then o else f k
theorem sL{f:Nat->bz}{i j:Nat}{o:bz}(h:j≠i):I4 f i o j=f j:=by unfold I4;rw[if_neg h]
theorem sM{f:Nat->bz}{i:Nat}{o:bz}:I4 f i o i=o:=by unfold I4;rw[if_pos rfl]
theorem OV{D:Nat->Prop}{f:Nat->bz}{i:Nat}{o:bz}{w:World}(hi:¬D i)(h:(ft D f).holds w)(ho:o.holds w)(ha:∀k,(ft D f).dF k->¬o.dF k):(ft (fun k=>D k\/k=i) (I4 f i o)).holds w:=by
 have hf:∀j,D j->I4 f i o j=f j:=fun j hj=>sL fun e=>hi (by subst e;exact hj);have hg:I4 f i o i=o:=sM;refine⟨fun j hj=>?_,fun j k hj hk QX q hq B4=>?_⟩
 ·rcases hj with hj|rfl
  ·rw[hf j hj];exact h.1 j hj
  ·rw[hg];exact ho
 ·rcases hj with hj|rfl<;>rcases hk with hk|rfl
  ·rw[hf j hj]at hq;rw[hf k hk]at B4;exact h.2 j k hj hk QX q hq B4
  ·rw[hf j hj]at hq;rw[hg]at B4;exact ha q (.inr ⟨j,hj,hq⟩) B4
  ·rw[hg]at hq;rw[hf k hk]at B4;exact ha q (.inr ⟨k,hk,B4⟩) hq
  ·exact QX rfl
theorem LG{D:Nat->Prop}{f:Nat->bz}{i:Nat}{o:bz}(hi:¬D i)(k:Nat)(h:(ft (fun k=>D k\/k=i) (I4 f i o)).dF k):(ft D f).dF k\/o.dF k:=by
 rcases h with h|⟨j,hj,hk⟩
 ·cases h
 ·rcases hj with hj|rfl
  ·exact .inl (.inr ⟨j,hj,by rw[sL fun e=>hi (by subst e;exact hj)]at hk;exact hk⟩)
  ·exact .inr (by rw[sM]at hk;exact hk)
section
variable{P:Program}{n:Nat}{W:bB}{fr:Fr}{L:List bz}{Q:Exit->Act->World->Prop}{ops:Array Oper}{rest:List Oper}{d:Nat}
theorem Mem.split{w:World}{q:Nat}{o:bz}(o1 o2:bz)(h:Mem W L w)(hq:L[q]?=some o)(h1:∀w,o.holds w->o1.holds w)(h2:∀w,o.holds w->o2.holds w)(f1:∀k,o1.dF k->o.dF k)(f2:∀k,o2.dF k->o.dF k)(ha:∀w,o.holds w->∀k,o1.dF k->¬o2.dF k):Mem W (L.set q o1++[o2]) w:=by
 have hr:=h.Lh o1 hq h1 f1;have Uu:=h.owns.all q o hq;have hlen:q<L.length:=(List.getElem?_eq_some_iff.1 hq).1;refine⟨h.low,dL.both hr.owns (dL.one (h2 w Uu.1) fun k hk=>Uu.2 k (f2 k hk)) fun i j a b hi hj k hk jD=>?_⟩
 match j,hj with
 | 0,hj=>
  simp only[List.getElem?_cons_zero,Option.some.injEq]at hj;subst hj
  by_cases e:q=i
  ·subst e
   rw[List.getElem?_set_self hlen]at hi;simp only[Option.some.injEq]at hi;subst hi;exact ha w Uu.1 k hk jD
  ·rw[List.getElem?_set_ne e]at hi
   exact h.owns.apart i q a o (Ne.symm e) hi hq k hk (f2 k jD)
 |j+1,hj=>simp at hj
theorem Mem.OW{w:World}(o:bz)(i j:Nat)(js:List Nat){o1 o2:bz}{R:List bz}(h:Mem W L w)(hn:([i,j]++js).Nodup)(h1:L[i]?=some o1)(h2:L[j]?=some o2)(hR:R=js.filterMap fun i=>L[i]?)(hf:∀k,o.dF k->o1.dF k\/o2.dF k)(hh:∀w,o1.holds w->o2.holds w->(∀k,o1.dF k->¬o2.dF k)->o.holds w):Mem W (R++[o]) w:=by
 have k_:i≠j:=fun e=>by subst e;simp at hn
 have ha:=h.owns.apart i j o1 o2 k_ h1 h2;refine Mem.merge o (h.pick ([i,j]++js) hn ?_) hf (fun a b=>hh w a b ha);rw[List.filterMap_append,<-hR]
 congr 1
 rw[List.filterMap_cons_some (by exact h1),List.filterMap_cons_some (by exact h2)];rfl
theorem Mem.take{w:World}{q:Nat}{D:Nat->Prop}{f:Nat->bz}(i:Nat)(h:Mem W L w)(hq:L[q]?=some (ft D f))(hi:D i):Mem W (L.set q (ft (fun k=>D k/\k≠i) f)++[f i]) w:=
 h.split _ _ hq (fun w h=>sK (fun k h=>h.1) (fun _ _=>rfl) w h) (fun w h=>h.1 i hi) (fun k h=>v_ (fun k h=>h.1) (fun _ _=>rfl) k h) (fun k h=> .inr ⟨i,hi,h⟩) fun w h k hk jD=>by
  rcases hk with hk|⟨j,⟨hj,hne⟩,hk⟩
  ·cases hk
  ·exact h.2 j i hj hi hne k hk jD
theorem EY{c:Code}{q:Nat}{D:Nat->Prop}{f:Nat->bz}(i:Nat)(hq:L[q]?=some (ft D f))(hi:D i)(h:T P n W c Q fr (L.set q (ft (fun k=>D k/\k≠i) f)++[f i])):T P n W c Q fr L:=⟨fun a w hr hm=>h.go a w hr (hm.take i hq hi)⟩
theorem Hk{q:Nat}{D:Nat->Prop}{f:Nat->bz}(i:Nat)(hq:L[q]?=some (ft D f))(hi:D i)(h:TL P n W ops Q rest fr (L.set q (ft (fun k=>D k/\k≠i) f)++[f i])):TL P n W ops Q rest fr L:=⟨fun a w hr hm=>h.go a w hr (hm.take i hq hi)⟩
theorem Mem.put{w:World}{D D':Nat->Prop}{f f':Nat->bz}{o:bz}{R:List bz}(x q j:Nat)(js:List Nat)(h:Mem W L w)(hn:([q,j]++js).Nodup)(hq:L[q]?=some (ft D f))(hj:L[j]?=some o)(hR:R=js.filterMap fun i=>L[i]?)(hx:¬D x)(hD:∀k,D' k->D k\/k=x)(hf:∀k,D' k->f' k=I4 f x o k):Mem W (R++[ft D' f']) w:=
 h.OW _ q j js hn hq hj hR (fun k hk=>LG hx k (v_ hD hf k hk)) fun w h1 h2 h3=>sK hD hf w (OV hx h1 h2 h3)
theorem LH{D D':Nat->Prop}{f f':Nat->bz}{o:bz}{R:List bz}(x q j:Nat)(js:List Nat)(hn:([q,j]++js).Nodup)(hq:L[q]?=some (ft D f))(hj:L[j]?=some o)(hR:R=js.filterMap fun i=>L[i]?)(hx:¬D x)(hD:∀k,D' k->D k\/k=x)(hf:∀k,D' k->f' k=I4 f x o k)(h:TL P n W ops Q rest fr (R++[ft D' f'])):TL P n W ops Q rest fr L:=⟨fun a w hr hm=>h.go a w hr (hm.put x q j js hn hq hj hR hx hD hf)⟩
theorem Hl{e:Exit}{D D':Nat->Prop}{f f':Nat->bz}{o:bz}{R:List bz}(x q j:Nat)(js:List Nat)(hn:([q,j]++js).Nodup)(hq:L[q]?=some (ft D f))(hj:L[j]?=some o)(hR:R=js.filterMap fun i=>L[i]?)(hx:¬D x)(hD:∀k,D' k->D k\/k=x)(hf:∀k,D' k->f' k=I4 f x o k)(h:E n W e Q fr (R++[ft D' f'])):E n W e Q fr L:=⟨fun a w hr hm=>h.go a w hr (hm.put x q j js hn hq hj hR hx hD hf)⟩
theorem OX{q:Nat}{o:bz}{p:Addr}{v:Value}(hq:L[q]?=some o)(h:∀w,o.holds w->w.cell? p=some v):At W L p v:=fun w hm=>h w (hm.get hq)
theorem rq{g off size cap m k:Nat}{e:TypeId}{xs:List Value}{v:Value}{w:World}(h:(aI e size (.slice (some ⟨g,0,none⟩) m cap) k xs).holds w)(hv:xs[off]?=some v):w.cell? ⟨g,off,none⟩=some v:=by
 have h:w.ownsRow 0 e size (.slice (some ⟨g,0,none⟩) m cap) k xs:=h;have:=h.cells (g:=g) rfl off v hv
 rwa [ez,Nat.zero_add]at this
def im{α:Type}(len:Nat)(f:Nat->α):List α:=(List.range len).map f
section
variable{α:Type}
theorem e9(len:Nat)(f:Nat->α):(im len f).length=len:=by simp[im]
theorem ru{len:Nat}(f:Nat->α){k:Nat}(h:k<len):(im len f)[k]?=some (f k):=by simp[im,h]
theorem LI{len:Nat}(f g:Nat->α)(k:Nat)(v:α)(h:∀i,i<len->g i=if i=k then v else f i):(im len f).set k v=im len g:=by
 apply List.ext_getElem?;intro i;rw[List.getElem?_set]
 by_cases hi:i<len
 ·rw[ru g hi,h i hi]
  by_cases e:k=i
  ·subst e;simp[e9,hi]
  ·rw[if_neg e,if_neg (fun e'=>e e'.symm),ru f hi]
 ·have h1:(im len g)[i]?=none:=List.getElem?_eq_none (by rw[e9];omega)
  have h2:(im len f)[i]?=none:=List.getElem?_eq_none (by rw[e9];omega);rw[h1,h2]
  by_cases e:k=i
  ·subst e;simp[e9,hi]
  ·rw[if_neg e]
theorem EZ{len:Nat}{f g:Nat->α}(h:∀i,i<len->f i=g i):im len f=im len g:=by
 unfold im;apply List.map_congr_left;intro i hi;exact h i (by simpa using hi)
theorem E0(val:α->Value)(a:α)(len:Nat):(im len fun _=>a).map val=List.replicate len (val a):=by
 unfold im;rw[List.map_map];apply List.ext_getElem?;intro i
 by_cases h:i<len<;>simp[h]
def dC(e:TypeId)(val:α->Value)(g len:Nat)(f:Nat->α):bz:=aI e 1 (.slice (some ⟨g,0,none⟩) len len) len ((im len f).map val)
theorem kG{e:TypeId}{val:α->Value}{g len:Nat}{f f':Nat->α}(h:∀i,i<len->f i=f' i):dC e val g len f=dC e val g len f':=by unfold dC;rw[EZ h]
theorem dQ{e:TypeId}{val:α->Value}{i g len k:Nat}{f:Nat->α}(hi:L[i]?=some (dC e val g len f))(hk:k<len):At W L ⟨g,0+k,none⟩ (val (f k)):=f_ hi (by rw[Nat.zero_add,List.getElem?_map,ru f hk];rfl)
theorem sN{e:TypeId}{val:α->Value}{g len k:Nat}{f:Nat->α}{w:World}(h:(dC e val g len f).holds w)(hk:k<len):w.cell? ⟨g,0+k,none⟩=some (val (f k)):=rq h (by rw[Nat.zero_add,List.getElem?_map,ru f hk];rfl)
theorem LJ{e:TypeId}{val:α->Value}{g len k:Nat}{v:α}{f f':Nat->α}(h:∀i,i<len->f' i=if i=k then v else f i):aI e 1 (.slice (some ⟨g,0,none⟩) len len) len (((im len f).map val).set k (val v))=dC e val g len f':=by
 unfold dC;rw[<-List.map_set,LI f f' k v h]
theorem eX{e:TypeId}{val:α->Value}{ty:TypeId}{pos:String}{after:Array Edge}{t:TypeId}{p x:Operand}{i g off len:Nat}{v:α}{f:Nat->α}(f':Nat->α)(hT:Ty P t false 1)(hi:L[i]?=some (dC e val g len f))(hp:ev fr p=some (.pointer (some ⟨g,0+off,none⟩)))(hx:ev fr x=some (val v))(h1:(val v).cells=#[val v])(h2:(val v).oneCell'=true)(hk:off<len)(hf:∀i,i<len->f' i=if i=off then v else f i)
 (h:TL P n W ops Q rest fr (L.set i (dC e val g len f'))):TL P n W ops Q (⟨none,.store t p x,ty,pos,after,none⟩::rest) fr L:=
 gG hT hi hp hx h1 rfl h2 (by rw[List.length_map,e9,Nat.zero_add];exact hk) (by rw[Nat.zero_add,LJ hf];exact h)
theorem kH{t e:TypeId}{x y:Operand}{bytes m:Nat}{k k':IntKind}{ty:TypeId}{pos:String}{after:Array Edge}(val:α->Value)(z:α)[nS P t e 1 bytes][aW P e #[val z]](hx:ev fr x=some (.int k (m:Int)))(hy:ev fr y=some (.int k' (m:Int)))(hb:bytes*m<=281474976710656)(pF:m<=9223372036854775807)(hn:Nat.blt d n=true)
 (h:∀g,TL P n W ops Q rest ((d,.slice (some ⟨g,0,none⟩) m m)::fr) (L++[dC e val g m fun _=>z])):TL P n W ops Q (⟨some d,.makeSlice t x y,ty,pos,after,none⟩::rest) fr L:=
 mS hx hy hb pF hn fun g=>by
  have:=h g;unfold dC at this;rw[E0]at this;exact this
end
end
end bH
namespace bH
open Go.RowKit bL db av
def dv(x:bY):List Value:=[.int .i64 x.1,.int .i64 x.2]
def LK(x:bY):Prop:=bL.bX x.1/\bL.bX x.2
theorem SN(f f':bY)(w:World):(Op.equalIn 10000 128 (.agg (dv f).toArray) (.agg (dv f').toArray)).run Tryz.prog w= .ok (decide (f=f')) w:=by
 obtain⟨k,q⟩:=f;obtain⟨k',q'⟩:=f';unfold dv
 go_simp
 by_cases e1:k=k'<;>by_cases e2:q=q'<;>simp[e1,e2]
def OY:qQ bY:=ra dv 2 (fun _=>rfl) LK
def nD:qQ av.Prod:=Le eI (a8 OY)
def cH(t n:Int)(vp:Value):Value:= .agg #[.int .i64 t,.int .i64 n,vp]
def jf(F:Nat->Prop)(w:World)(v:Value)(g:df):Prop:=∃vp,v=cH g.aJ g.aR vp/\gI nD F w vp g.ag/\bL.bX g.aJ/\bL.bX g.aR
theorem jf.stay{F:Nat->Prop}{w w':World}{v:Value}{g:df}(h:jf F w v g)(hk:∀k,F k->w'.heap[k]?=w.heap[k]?):jf F w' v g:=
 let ⟨vp,h1,h2,h3⟩:=h;⟨vp,h1,h2.stay hk,h3⟩
theorem gI.gr{α:Type}{s:qQ α}{w w':World}{v:Value}{l:List α}(h:gI s (fun k=>k<w.heap.size) w v l)(hg:Gr w w'):gI s (fun k=>k<w'.heap.size) w' v l:=
 (h.stay fun k hk=>hg.block k hk).mono fun _ hk=>Nat.lt_of_lt_of_le hk hg.size
theorem jf.gr{w w':World}{v:Value}{g:df}(h:jf (fun k=>k<w.heap.size) w v g)(hg:Gr w w'):jf (fun k=>k<w'.heap.size) w' v g:=
 let ⟨vp,h1,h2,h3⟩:=h;⟨vp,h1,h2.gr hg,h3⟩
theorem jF{F:Nat->Prop}{w:World}{b off:Nat}{l:List av.Prod}(h:∀i (h:i<l.length),∃cs,nD.is F w cs l[i]/\Rd w b (off+i*nD.c) cs){k:Nat}(hk:k<l.length):
 ∃base cap,Rd w b (off+k*2) [.int .i64 l[k].1,.slice base l[k].2.length cap]/\bL.bX l[k].1/\gI OY F w (.slice base l[k].2.length cap) l[k].2:=by
 obtain⟨cs,⟨c1,c2,rfl,⟨rfl,jU⟩,⟨vb,rfl,tt⟩⟩,hr⟩:=h k hk;have Yw:=tt;obtain⟨base,cap,rfl,_⟩:=Yw;exact⟨base,cap,hr,jU,tt⟩
end bH
namespace bH
open Go.RowKit bL db av
theorem jO(a:bY):(dv a).length=2:=rfl
theorem pJ(v:Value)(l:List bY)(w:World)(hs:Sl w v l.length (l.flatMap dv))(LL:FuncId)(first cp:Array Value)(p:bY->Bool)(Xt:Enters Tryz.prog LL)
 (hp:∀a∈l,∀w',Gr w w'->Calls Tryz.prog LL (first++#[(.agg (dv a).toArray)]++cp) w' (bU (ret (.bool (p a))) w')):
 Calls Tryz.prog 61 #[v,.func (.func LL) first cp] w (bU (ret (.int .i64 (q8 p l))) w):=by
 obtain⟨base,cap,rfl,q_,wa,eV⟩:=hs;unfold maxLen at wa;refine enter (args:=[.slice base l.length cap,.func (.func LL) first cp]) (n:=19) Tryz.func61 rfl rfl rfl ?_
 try refine GA ?_
 refine cX (ι:=Nat) (fun k=>k<=l.length/\∀j (hj:j<l.length),j<k->p l[j]=false) (fun k=>[(0,.slice base l.length cap),(1,.func (.func LL) first cp),(7,.int .i64 l.length),(8,.int .i64 (k:Int))]) (fun _=>[]) (fun k=>l.length-k) 0 ⟨by omega,fun j hj h=>by omega⟩ ?_;rintro k ⟨h1,h2⟩
 by_cases c2:k<l.length
 ·obtain⟨b,off,rfl,hr⟩:=eV (by omega)
  have du:=fx (L:=([]:List bz)) jO hr c2;have jB:=hp l[k] (List.getElem_mem c2)
  by_cases c3:p l[k]=true
  ·rw[yK c2 c3 h2]
   rw[c3]at jB;clear hp h2 eV
   repeat(first|refine GA ?_|refine gV (aH aT.eq ak.ty rfl rfl c2) ?_|refine gV (aK ak.ty rfl rfl du) ?_)
   refine aM (IB Xt rfl rfl) (fun w hm=>jB w hm.below) rfl rfl rfl ?_;intro _ _
   try refine GA ?_
   exact da
  ·have Q9:p l[k]=false:=by simpa using c3
   rw[Q9]at jB;clear hp eV c3
   repeat(first|refine GA ?_|refine gV (aH aT.eq ak.ty rfl rfl c2) ?_|refine gV (aK ak.ty rfl rfl du) ?_)
   refine aM (IB Xt rfl rfl) (fun w hm=>jB w hm.below) rfl rfl rfl ?_;intro _ _
   try refine GA ?_
   exact aY (k+1) ⟨by omega,fun j hj h=>if e:j<k then h2 j hj e else(by obtain rfl:j=k:=(by omega);exact Q9)⟩ (by show l.length-(k+1)<l.length-k;omega)
 ·rw[yL fun j hj=>h2 j hj (by omega)]
  clear hp h2 eV
  try refine GA ?_
  exact da
theorem mX(v:Value)(l:List bY)(w:World)(hs:Sl w v l.length (l.flatMap dv))(LL:FuncId)(first cp:Array Value)(p:bY->Bool)(Xt:Enters Tryz.prog LL)
 (hp:∀a∈l,∀w',Gr w w'->Calls Tryz.prog LL (first++#[(.agg (dv a).toArray)]++cp) w' (bU (ret (.bool (p a))) w')):
 Calls Tryz.prog 37 #[v,.func (.func LL) first cp] w (bU (ret (.bool (l.any p))) w):=by
 refine enter (args:=[v,.func (.func LL) first cp]) (n:=9) Tryz.func37 rfl rfl rfl ?_;have hh:=fun w' (hg:Gr w w')=>pJ v l w' (hs.gr hg) LL first cp p Xt fun a ha N5 Oa=>hp a ha N5 (hg.trans Oa);have hr:=vv p l;rw[<-Cp p l];generalize q8 p l=r at*
 try refine GA ?_
 refine aM (fh aj.en rfl rfl rfl) (fun w hm=>hh _ hm.below) rfl rfl rfl ?_;intro _ _
 repeat(first|refine GC ?_|refine gV (fH rfl rfl rfl) ?_|refine GB ?_)
 exact da
end bH
namespace bH
open Go.RowKit bL db av
theorem CB(t n:Int)(vp:Value)(x:bY)(w:World):Calls Tryz.prog 39 #[cH t n vp,.agg (dv x).toArray] w (bU (ret (.bool (right t n x))) w):=by
 obtain⟨k,q⟩:=x;refine enter (args:=[cH t n vp,.agg (dv (k,q)).toArray]) (n:=31) Tryz.func39 rfl rfl rfl ?_;refine bJ (aV (bK rfl rfl rfl fun g0=>bK rfl rfl rfl fun g1=>?_))
 repeat' (first
  |refine QV QP ?_
  |refine QZ ?_
  |refine X' rfl ?_
  |refine Ya rfl ?_
  |refine qs rfl rfl rfl rfl rfl rfl ?_
  |(((try refine qg rfl rfl rfl ?_);first|refine QV QP ?_|refine QV (J ak.ty rfl (ah (i:=0) rfl rfl)) ?_|refine QV (J ak.ty rfl (ah (i:=1) rfl rfl)) ?_|refine QV QA ?_|refine QV Yb ?_|refine QV Yc ?_|refine QV Xk ?_|refine QV Xl ?_|refine QV Xi ?_|refine QV Xj ?_))
  |refine EA (fG rfl rfl rfl) rfl rfl rfl rfl rfl (fun h=>?_) (fun h=>?_)
  |refine B7 (fH rfl rfl rfl) rfl rfl rfl (fun h=>?_) (fun h=>?_)
  |refine B7 (cJ rfl rfl rfl) rfl rfl rfl (fun h=>?_) (fun h=>?_)
  |((fail_if_success (refine GZ rfl ?_));(fail_if_success (refine G0 rfl ?_));refine Ow rfl (fun h=>?_) (fun h=>?_))
  |((fail_if_success (refine Sf rfl rfl rfl ?_));(fail_if_success (refine Sg rfl rfl rfl ?_));refine It rfl rfl rfl (fun h=>?_) (fun h=>?_)))
 all_goals (refine dh rfl rfl ?_;congr 1;unfold right;dsimp only at*;repeat (first|rw[if_pos (by omega)]|rw[if_neg (by omega)]|rw[decide_eq_true (by assumption)]|rw[decide_eq_false (by assumption)]);try rfl)
theorem AM(t n:Int)(vp:Value)(x:bY)(g:Nat)(w:World)(hg:w.heap[g]?=some (.cells (cH t n vp).cells 33 (0,0))):
 Calls Tryz.prog 38 #[.agg (dv x).toArray,.pointer (some ⟨g,0,none⟩)] w (bU (ret (.bool (!right t n x))) w):=by
 have hcell:∀(L:List bz) (j:Nat) (v:Value),([.int .i64 t,.int .i64 n,vp]:List Value)[j]?=some v->At w L ⟨g,0+j,none⟩ v:=fun L j v hj=>iv (by
  rw[cell_of_row w g (0+j) _ _ _ hg,Nat.zero_add];show(#[.int .i64 t,.int .i64 n,vp]:Array Value)[j]?=some v
  simpa using hj)
 have hr:=CB t n vp x;refine enter (args:=[.agg (dv x).toArray,.pointer (some ⟨g,0,none⟩)]) (n:=8) Tryz.func38 rfl rfl rfl ?_;refine bJ (aV (bK rfl rfl rfl fun g0=>?_))
 repeat(first|refine GA ?_|refine gV (aK ak.ty rfl rfl (hcell _)) ?_|refine gV (aE (i:=0) ak.ty rfl rfl rfl) ?_)
 refine aM (fh aj.en rfl rfl rfl) (fun w hm=>hr w) rfl rfl rfl ?_;intro _ _
 try refine GA ?_
 exact da
theorem CC{t n:Int}{l:List av.Prod}{k:Nat}(h:k<l.length)(h0:rj t n l[k]=0):kF t n (l.drop k)=kF t n (l.drop (k+1)):=by
 rw[List.drop_eq_getElem_cons h,kF,if_neg (by simp[h0])]
theorem CD{t n:Int}{l:List av.Prod}{k:Nat}(h:k<l.length)(h0:rj t n l[k]≠0):kF t n (l.drop k)=rj t n l[k]:=by
 rw[List.drop_eq_getElem_cons h,kF,if_pos h0]
theorem e_(v:Value)(g:df)(w:World)(h:jf (fun k=>k<w.heap.size) w v g):
 Calls Tryz.prog 18 #[v] w (bU (ret (.int .i64 (bM g))) w):=by
 obtain⟨vp,rfl,h1,_⟩:=h;obtain⟨bp,cp,rfl,Hm,BU,lU⟩:=h1;unfold maxLen at BU;obtain⟨t,n,ag⟩:=g;dsimp only at*;refine enter (args:=[cH t n (.slice bp ag.length cp)]) (n:=57) Tryz.func18 rfl rfl rfl ?_;refine bJ (aV (bK rfl rfl rfl fun g0=>?_));unfold bM;dsimp only
 by_cases c1:t<0
 ·rw[if_pos c1]
  repeat(first|refine GA ?_|refine gV (J ak.ty rfl (ah (i:=0) rfl rfl)) ?_)
  exact da
 rw[if_neg c1]
 by_cases c2:30<t
 ·rw[if_pos c2]
  repeat(first|refine GA ?_|refine gV (J ak.ty rfl (ah (i:=0) rfl rfl)) ?_)
  exact da
 rw[if_neg c2]
 by_cases c3:n<1
 ·rw[if_pos c3]
  repeat(first|refine GA ?_|refine gV (J ak.ty rfl (ah (i:=0) rfl rfl)) ?_)
  exact da
 rw[if_neg c3]
 by_cases c4:20<n
 ·rw[if_pos c4]
  repeat(first|refine GA ?_|refine gV (J ak.ty rfl (ah (i:=0) rfl rfl)) ?_)
  exact da
 rw[if_neg c4]
 by_cases c5:40<ag.length
 ·rw[if_pos c5]
  repeat(first|refine GA ?_|refine gV (J ak.ty rfl (ah (i:=0) rfl rfl)) ?_)
  exact da
 rw[if_neg c5]
 repeat(first|refine GA ?_|refine gV (J ak.ty rfl (ah (i:=0) rfl rfl)) ?_)
 refine cX (ι:=Nat) (fun k=>k<=ag.length/\kF t n ag=kF t n (ag.drop k)) (fun k=>[(1,.pointer (some ⟨g0,0,none⟩)),(30,.slice bp ag.length cp),(31,.int .i64 ag.length),(32,.int .i64 (k:Int))]) (fun _=>[ap g0 (cH t n (.slice bp ag.length cp)).cells 33]) (fun k=>ag.length-k) 0 ⟨Nat.zero_le _,rfl⟩ ?_;rintro k ⟨i1,i2⟩;rw[i2];clear i2
 by_cases c6:k<ag.length
 ·obtain⟨b,off,rfl,_,hr⟩:=lU (by omega)
  obtain⟨bb,cb,q1,q2,q3⟩:=jF hr c6;have kE:=CD (t:=t) (n:=n) c6;have pS:=CC (t:=t) (n:=n) c6;have du:∀(L:List bz) (j:Nat) (v:Value),([.int .i64 ag[k].1,.slice bb ag[k].2.length cb]:List Value)[j]?=some v->At w L ⟨b,off+k*2+j,none⟩ v:=fun L j v hj=>iD q1 hj;clear hr lU q1;generalize ag[k]=p at*;obtain⟨hd,body⟩:=p;have Xu:=fun w' (hg:Gr w w') (hb:w'.heap[g0]?=some (.cells (cH t n (.slice (some ⟨b,off,none⟩) ag.length cp)).cells 33 (0,0)))=>mX (.slice bb body.length cb) body w' ((q3.flat (by decide)).gr hg) 38 #[] #[.pointer (some ⟨g0,0,none⟩)] (fun x=>!right t n x) aj.en (fun a _ N5 Oa=>AM t n _ a g0 N5 (by rw[Oa.block g0 (Array.getElem?_eq_some_iff.1 hb).1];exact hb));dsimp only at*
  repeat(first|refine GA ?_|refine gV (aH aT.eq ak.ty rfl rfl c6) ?_|refine gV (aK ak.ty rfl rfl (du _)) ?_)
  clear du;refine aF rfl fun g4=>?_;refine fU 1 ?_;refine zL ?_;unfold rj at kE pS;dsimp only at kE pS
  by_cases c7:8<body.length
  ·rw[if_pos c7]at kE
   rw[kE (by decide)]
   repeat(first|refine GA ?_|refine gV (J ak.ty rfl (ah (i:=1) rfl rfl)) ?_)
   exact da
  rw[if_neg c7]at kE pS
  by_cases c8:hd<0
  ·rw[if_pos c8]at kE
   rw[kE (by decide)]
   repeat(first|refine GA ?_|refine gV (J ak.ty rfl (ah (i:=1) rfl rfl)) ?_)
   exact da
  rw[if_neg c8]at kE pS
  by_cases c9:n<=hd
  ·rw[if_pos c9]at kE
   rw[kE (by decide)]
   repeat(first|refine GA ?_|refine gV (J ak.ty rfl (ah (i:=1) rfl rfl)) ?_|refine gV (J ak.ty rfl (ah (i:=0) rfl rfl)) ?_)
   exact da
  rw[if_neg c9]at kE pS
  by_cases Xv:body.any (fun x=>!right t n x)=true
  ·rw[if_pos Xv]at kE
   rw[kE (by decide)];rw[Xv]at Xu
   repeat(first|refine GA ?_|refine gV (J ak.ty rfl (ah (i:=1) rfl rfl)) ?_|refine gV (J ak.ty rfl (ah (i:=0) rfl rfl)) ?_|refine gV (uy rfl rfl) ?_)
   refine me (fh aj.en rfl rfl rfl) (fun w hm=>Xu _ hm.below (hm.get (i:=0) rfl)) rfl rfl rfl rfl rfl ?_;intro _ _
   try refine GA ?_
   exact da
  ·have Yx:body.any (fun x=>!right t n x)=false:=by simpa using Xv
   rw[if_neg Xv]at pS;rw[Yx]at Xu
   repeat(first|refine GA ?_|refine gV (J ak.ty rfl (ah (i:=1) rfl rfl)) ?_|refine gV (J ak.ty rfl (ah (i:=0) rfl rfl)) ?_|refine gV (uy rfl rfl) ?_)
   refine me (fh aj.en rfl rfl rfl) (fun w hm=>Xu _ hm.below (hm.get (i:=0) rfl)) rfl rfl rfl rfl rfl ?_;intro _ _
   try refine GA ?_
   refine bR [0] ?_;exact aY (k+1) ⟨by omega,pS rfl⟩ (by show ag.length-(k+1)<ag.length-k;omega)
 ·rw[List.drop_of_length_le (by omega)]
  try refine GA ?_
  exact da
end bH
namespace bH
open Go.RowKit bL db av
def mY(F:Nat->Prop)(vp:Value)(l:List av.Prod):bz:=Yl (a8 nD) F [vp] l
theorem CE{w:World}{hd:Int}{vb:Value}{body:List bY}(jU:bL.bX hd)(hp:∀x∈body,LK x)(h:(aI 128 2 vb body.length (body.flatMap dv)).holds w):nD.is (fun k=>vb.ownBlock=some k) w [.int .i64 hd,vb] (hd,body):=
 ⟨[.int .i64 hd],[vb],rfl,⟨rfl,jU⟩,vb,rfl,gI.of_flat (Sl.cD h) hp (fun _ h=>h) (fun a n cp hv=>by rw[hv];rfl)⟩
end bH
namespace dg
open av
inductive Tree where
 |mk (prod tok:Int) (kids:List Tree)
def Tree.prod:Tree->Int| .mk p _ _=>p
def Tree.tok:Tree->Int| .mk _ t _=>t
def Tree.kids:Tree->List Tree| .mk _ _ k=>k
def aQ(l:List av.Prod)(p:Int):av.Prod:=l.getD p.toNat (0,[])
mutual
def size:Tree->Nat
 | .mk _ _ kids=>Rj kids+1
def Rj:List Tree->Nat
 |[]=>0
 |k::r=>size k+Rj r
end
mutual
def leaves:Tree->Nat
 | .mk p _ kids=>if p<0 then 1 else cK kids
def cK:List Tree->Nat
 |[]=>0
 |k::r=>leaves k+cK r
end
mutual
def eA(l:List av.Prod):Tree->bY->Nat->Prop
  | .mk p k kids,x,v=>
    (x.1=1/\p= -1/\k=(v:Int)/\kids=[])\/(x.1≠1/\0<=p/\p<(l.length:Int)/\(aQ l p).1=x.2/\k=0/\bZ l kids (aQ l p).2 v)
def bZ(l:List av.Prod):List Tree->List bY->Nat->Prop
 |[],[],_=>True
 |[],_::_,_=>False
 |_::_,[],_=>False
 |k::r,y::b,v=>eA l k y v/\bZ l r b (v+leaves k)
end
theorem qq{l:List av.Prod}:∀{ks:List Tree} {b:List bY} {v:Nat},bZ l ks b v->ks.length=b.length
 |[],[],_,_=>rfl
 |[],_::_,_,h=>by simp[bZ]at h
 |_::_,[],_,h=>by simp[bZ]at h
 |_::r,_::b,_,h=>by
  rw[bZ]at h;rw[List.length_cons,List.length_cons,qq h.2]
inductive OZ where
 |ahead (p:Int)
 |behind (p:Int)
 |leaf (sO tok:Int)
mutual
def rv(l:List av.Prod):Tree->List OZ
 | .mk p _ kids=> .ahead p::(pT l kids (aQ l p).2++[.behind p])
def pT(l:List av.Prod):List Tree->List bY->List OZ
 |[],_=>[]
 |_::_,[]=>[]
 | .mk p k ks::r,y::b=>(if p<0 then [.leaf y.2 k]else rv l (.mk p k ks))++pT l r b
end
end dg
namespace dg
open av
def E3:OZ->Option Int
 | .leaf t _=>some t
 |_=>none
def eO(l:List av.Prod)(t:Tree):List Int:=(rv l t).filterMap E3
def fz(l:List av.Prod)(ks:List Tree)(b:List bY):List Int:=(pT l ks b).filterMap E3
theorem kr(l:List av.Prod)(p k:Int)(kids:List Tree):eO l (.mk p k kids)=fz l kids (aQ l p).2:=by
 unfold eO fz;rw[rv,List.filterMap_cons_none rfl,List.filterMap_append];simp[E3]
theorem tu(l:List av.Prod)(p k:Int)(ks r:List Tree)(y:bY)(b:List bY):fz l (.mk p k ks::r) (y::b)=(if p<0 then [y.2]else eO l (.mk p k ks))++fz l r b:=by
 unfold fz eO;rw[pT,List.filterMap_append]
 congr 1
 split<;>rfl
mutual
theorem pg{l:List av.Prod}:∀{t:Tree} {x:bY} {u:Nat},eA l t x u->0<=t.prod->(eO l t).length=leaves t
 | .mk p k kids,x,u,h,hp=>by
  rw[eA]at h;have hp:0<=p:=hp;rw[kr,leaves,if_neg (by omega)];rcases h with⟨_,h,_⟩|⟨_,_,_,_,_,h⟩
  ·omega
  ·exact wb h
theorem wb{l:List av.Prod}:∀{ks:List Tree} {b:List bY} {u:Nat},bZ l ks b u->(fz l ks b).length=cK ks
 |[],[],_,_=>by rw[cK];simp[fz,pT]
 | .mk p k kk::r,y::b,u,h=>by
  rw[bZ]at h;rw[tu,List.length_append,wb h.2,cK]
  congr 1
  split
  ·rw[leaves,if_pos (by assumption)];rfl
  ·exact pg h.1 (by show(0:Int)<=p;omega)
 |[],_::_,_,h=>by simp[bZ]at h
 |_::_,[],_,h=>by simp[bZ]at h
end
end dg
namespace dj
open av
abbrev Span:=Int×Int×Int
abbrev dE:=Span->Nat
def dX(c:dE)(w:List Int)(x:bY)(a b:Nat):Nat:=if x.1=2 then c (x.2,(a:Int),(b:Int))else if b=a+1/\w[a]?=some x.2 then 1 else 0
def cO(f:Nat->Nat):Nat->Nat
 |0=>0
 |k+1=>cO f k+f k
def fW(o:Nat->Nat->Nat)(f:Nat->Nat)(b:Nat):Nat:=min 2 (cO (fun j=>f j*o j b) (b+1))
def gv(o:Nat->Nat->Nat)(f:Nat->Nat)(i b:Nat):Nat:=min 2 (cO (fun j=>f j*o j b) (min i (b+1)))
def lD(o:bY->Nat->Nat->Nat)(a:Nat):List bY->(Nat->Nat)->Nat->Nat
 |[],f=>f
 |x::r,f=>lD o a r (fW (fun i j=>o x (a+i) (a+j)) f)
def pU(b:Nat):Nat:=if b=0 then 1 else 0
def jP(o:bY->Nat->Nat->Nat)(l:List bY)(a b:Nat):Nat:=lD o a l pU (b-a)
def lV(o:bY->Nat->Nat->Nat)(a b:Nat)(n:Nat):List av.Prod->Nat
 |[]=>0
 |p::r=>(if p.1=(n:Int)then jP o p.2 a b else 0)+lV o a b n r
def fD(o:bY->Nat->Nat->Nat)(l:List av.Prod)(a b n:Nat):Nat:=min 2 (lV o a b n l)
def iS(len:Nat)(f:Nat->Nat):List Nat:=(List.range len).map f
theorem ry(len:Nat)(f:Nat->Nat):(iS len f).length=len:=by simp[iS]
theorem AN{len:Nat}(f:Nat->Nat){k:Nat}(h:k<len):(iS len f)[k]?=some (f k):=by simp[iS,h]
theorem O0{len:Nat}(f g:Nat->Nat)(k v:Nat)(h:∀i,i<len->g i=if i=k then v else f i):(iS len f).set k v=iS len g:=by
 apply List.ext_getElem?;intro i;rw[List.getElem?_set]
 by_cases hi:i<len
 ·rw[AN g hi,h i hi]
  by_cases e:k=i
  ·subst e;simp[ry,hi]
  ·rw[if_neg e,if_neg (fun e'=>e e'.symm),AN f hi]
 ·have h1:(iS len g)[i]?=none:=List.getElem?_eq_none (by rw[ry];omega)
  have h2:(iS len f)[i]?=none:=List.getElem?_eq_none (by rw[ry];omega);rw[h1,h2]
  by_cases e:k=i
  ·subst e;simp[ry,hi]
  ·rw[if_neg e]
theorem y6{len:Nat}{f g:Nat->Nat}(h:∀i,i<len->f i=g i):iS len f=iS len g:=by
 unfold iS;apply List.map_congr_left;intro i hi;exact h i (by simpa using hi)
theorem kt(f:Nat->Nat):∀k,(∀j,j<k->f j=0)->cO f k=0
 |0,_=>rfl
 |k+1,h=>by rw[cO,kt f k fun j hj=>h j (by omega),h k (by omega)]
theorem we(o:Nat->Nat->Nat)(f:Nat->Nat)(b:Nat):fW o f b<=2:=Nat.min_le_left ..
theorem CF(o:Nat->Nat->Nat)(f:Nat->Nat)(i b:Nat):gv o f i b<=2:=Nat.min_le_left ..
theorem O1(o:Nat->Nat->Nat)(f:Nat->Nat)(b:Nat):gv o f 0 b=0:=by simp[gv,cO]
theorem sP(o:Nat->Nat->Nat)(f:Nat->Nat){i b:Nat}(h:b<i):gv o f i b=fW o f b:=by
 unfold gv fW;have e:min i (b+1)=b+1:=by omega
 rw[e]
theorem wg(o:Nat->Nat->Nat)(f:Nat->Nat){i b:Nat}(h:i<=b):gv o f (i+1) b=min (gv o f i b+f i*o i b) 2:=by
 unfold gv;have e1:min (i+1) (b+1)=i+1:=by omega
 have e2:min i (b+1)=i:=by omega
 rw[e1,e2,cO];omega
theorem wh(o:Nat->Nat->Nat)(f:Nat->Nat){i b:Nat}(h:b<i):gv o f (i+1) b=gv o f i b:=by
 rw[sP o f h,sP o f (by omega)]
theorem E4(o:Nat->Nat->Nat)(f:Nat->Nat){i:Nat}(h:f i=0)(b:Nat):gv o f (i+1) b=gv o f i b:=by
 by_cases c:i<=b
 ·rw[wg o f c,h,Nat.zero_mul]
  have:=CF o f i b;omega
 ·exact wh o f (by omega)
def rz(o:Nat->Nat->Nat)(f:Nat->Nat)(i b:Nat):Nat->Nat:=fun j=>if j<b then gv o f (i+1) j else gv o f i j
theorem SO(o:Nat->Nat->Nat)(f:Nat->Nat)(i:Nat):rz o f i i=gv o f i:=by
 funext j
 unfold rz;split
 ·exact wh o f (by assumption)
 ·rfl
theorem I5(o:Nat->Nat->Nat)(f:Nat->Nat){i:Nat}(h:f i=0)(b:Nat):rz o f i b=gv o f (i+1):=by
 funext j
 unfold rz;rw[E4 o f h,ite_self]
theorem O2(o:Nat->Nat->Nat)(f:Nat->Nat)(i b:Nat):rz o f i b b=gv o f i b:=by simp[rz]
theorem I6(o:Nat->Nat->Nat)(f:Nat->Nat)(i b j:Nat):rz o f i (b+1) j=if j=b then gv o f (i+1) b else rz o f i b j:=by
 unfold rz
 by_cases c:j=b
 ·subst c;rw[if_pos (by omega),if_pos rfl]
 ·rw[if_neg c]
  by_cases c2:j<b
  ·rw[if_pos (by omega),if_pos c2]
  ·rw[if_neg (by omega),if_neg c2]
theorem LM(o:Nat->Nat->Nat)(f:Nat->Nat){i b len:Nat}(h:len<=b):iS len (rz o f i b)=iS len (gv o f (i+1)):=y6 fun j hj=>by
 unfold rz;rw[if_pos (by omega)]
theorem O3{c:dE}(hc:∀x,c x<=2)(w:List Int)(x:bY)(a b:Nat):dX c w x a b<=2:=by
 unfold dX;split
 ·exact hc _
 ·split<;>omega
theorem wj(b:Nat):pU b<=2:=by unfold pU;split<;>omega
theorem CG{o:bY->Nat->Nat->Nat}{a:Nat}:∀(l:List bY) (f:Nat->Nat),(∀b,f b<=2)->∀b,lD o a l f b<=2
 |[],_,h,b=>h b
 |_::r,_,_,b=>CG r _ (fun b=>we _ _ b) b
theorem O4(o:bY->Nat->Nat->Nat)(l:List bY)(a b:Nat):jP o l a b<=2:=CG l _ wj _
theorem ph(o:bY->Nat->Nat->Nat)(l:List av.Prod)(a b n:Nat):fD o l a b n<=2:=Nat.min_le_left ..
theorem y7(o:bY->Nat->Nat->Nat)(a b n:Nat)(p:av.Prod):∀l,lV o a b n (l++[p])=lV o a b n l+(if p.1=(n:Int)then jP o p.2 a b else 0)
 |[]=>by simp[lV]
 |q::r=>by rw[List.cons_append,lV,lV,y7 o a b n p r];omega
theorem I7(o:bY->Nat->Nat->Nat)(a b:Nat)(p:av.Prod)(l:List av.Prod){h:Nat}(hp:p.1=(h:Int))(n:Nat):fD o (l++[p]) a b n=if n=h then min (fD o l a b h+jP o p.2 a b) 2 else fD o l a b n:=by
 unfold fD;rw[y7]
 by_cases c:n=h
 ·subst c
  rw[if_pos hp,if_pos rfl];omega
 ·rw[if_neg (by omega),if_neg c,Nat.add_zero]
def dY(c:dE)(w:List Int)(l:List av.Prod)(aR a b:Nat)(k:Nat):dE:=fun x=>if x.2.1=(a:Int)/\x.2.2=(b:Int)/\0<=x.1/\x.1<(k:Int)/\x.1<(aR:Int)then fD (dX c w) l a b x.1.toNat else c x
def od(c:dE)(w:List Int)(l:List av.Prod)(a b:Nat):Nat->Bool
 |0=>false
 |k+1=>od c w l a b k||!decide (c ((k:Int),(a:Int),(b:Int))=fD (dX c w) l a b k)
theorem LN(c:dE)(w:List Int)(l:List av.Prod)(n a b:Nat):dY c w l n a b 0=c:=by
 funext x
 unfold dY;rw[if_neg (by omega)]
theorem I8(c:dE)(w:List Int)(l:List av.Prod)(n a b k:Nat):dY c w l n a b k ((k:Int),(a:Int),(b:Int))=c ((k:Int),(a:Int),(b:Int)):=by
 unfold dY;rw[if_neg (by dsimp only;omega)]
theorem CH(c:dE)(w:List Int)(l:List av.Prod){n a b k:Nat}(hk:k<n)(y:Span):dY c w l n a b (k+1) y=if y=((k:Int),(a:Int),(b:Int))then fD (dX c w) l a b k else dY c w l n a b k y:=by
 obtain⟨q,y1,y2⟩:=y;unfold dY;dsimp only
 by_cases e:(q,y1,y2)=((k:Int),(a:Int),(b:Int))
 ·rw[if_pos e]
  simp only[Prod.mk.injEq]at e;obtain⟨rfl,rfl,rfl⟩:=e;rw[if_pos (by omega),Int.toNat_natCast]
 ·rw[if_neg e]
  by_cases c1:y1=(a:Int)/\y2=(b:Int)/\0<=q/\q<(k:Int)/\q<(n:Int)
  ·rw[if_pos c1,if_pos (by omega)]
  ·rw[if_neg c1,if_neg (fun h=>?_)]
   have:q=(k:Int):=by omega
   exact e (by rw[this,h.1,h.2.1])
def mZ(t:Int):List Int->Int
 |[]=>0
 |x::r=>if x<0 then 1 else if t<=x then 1 else mZ t r
def gd(g:df)(w:List Int):Int:=if bM g≠0 then bM g else if 20<w.length then 2 else mZ g.aJ w
theorem y8{t:Int}:∀{w:List Int},mZ t w=0->∀x∈w,0<=x/\x<t
 |[],_,_,h=>by cases h
 |y::r,h,x,hx=>by
  unfold mZ at h;split at h;· cases h
  split at h;· cases h
  rcases List.mem_cons.1 hx with rfl|hx
  ·omega
  ·exact y8 h x hx
theorem ku{g:df}{w:List Int}(h:gd g w=0):bM g=0/\w.length<=20/\∀x∈w,0<=x/\x<g.aJ:=by
 unfold gd at h;split at h;· contradiction
 split at h;· cases h
 rename_i a b
 exact⟨by simpa using a,by omega,y8 h⟩
end dj
namespace dj
open av
theorem pj{f f':Nat->Nat}:∀k,(∀j,j<k->f j<=f' j)->cO f k<=cO f' k
 |0,_=>Nat.le_refl _
 |k+1,h=>by
  rw[cO,cO];exact Nat.add_le_add (pj k fun j hj=>h j (by omega)) (h k (by omega))
theorem E5{o o':Nat->Nat->Nat}{f f':Nat->Nat}{b:Nat}(ho:∀j,j<=b->o j b<=o' j b)(hf:∀j,j<=b->f j<=f' j):fW o f b<=fW o' f' b:=by
 have:=pj (f:=fun j=>f j*o j b) (f':=fun j=>f' j*o' j b) (b+1) fun j hj=>Nat.mul_le_mul (hf j (by omega)) (ho j (by omega));unfold fW;omega
theorem wk{o o':bY->Nat->Nat->Nat}{a d:Nat}:∀(l:List bY) (f f':Nat->Nat),(∀x∈l,∀i j,i<=j->j<=d->o x (a+i) (a+j)<=o' x (a+i) (a+j))->(∀j,j<=d->f j<=f' j)->∀j,j<=d->lD o a l f j<=lD o' a l f' j
 |[],_,_,_,hf,j,hj=>hf j hj
 |x::r,f,f',ho,hf,j,hj=>by
  rw[lD,lD];exact wk r _ _ (fun y hy=>ho y (by simp[hy])) (fun j hj=>E5 (o:=fun i j=>o x (a+i) (a+j)) (o':=fun i j=>o' x (a+i) (a+j)) (fun i hi=>ho x (by simp) i j hi hj) fun i hi=>hf i (by omega)) j hj
theorem I9{o o':bY->Nat->Nat->Nat}{l:List bY}{a b:Nat}(lF:a<=b)(ho:∀x∈l,∀i j,a<=i->i<=j->j<=b->o x i j<=o' x i j):jP o l a b<=jP o' l a b:=
 wk (d:=b-a) l _ _ (fun x hx i j hi hj=>ho x hx (a+i) (a+j) (by omega) (by omega) (by omega)) (fun _ _=>Nat.le_refl _) _ (Nat.le_refl _)
theorem y9{o o':bY->Nat->Nat->Nat}{a b n:Nat}:∀(l:List av.Prod),(∀p∈l,p.1=(n:Int)->jP o p.2 a b<=jP o' p.2 a b)->lV o a b n l<=lV o' a b n l
 |[],_=>Nat.le_refl _
 |p::r,h=>by
  rw[lV,lV];refine Nat.add_le_add ?_ (y9 r fun q hq=>h q (by simp[hq]));split
  ·exact h p (by simp) (by assumption)
  ·exact Nat.le_refl _
theorem I_{o o':bY->Nat->Nat->Nat}{l:List av.Prod}{a b n:Nat}(lF:a<=b)(ho:∀p∈l,∀x∈p.2,∀i j,a<=i->i<=j->j<=b->o x i j<=o' x i j):fD o l a b n<=fD o' l a b n:=by
 have:=y9 (n:=n) l fun p hp _=>I9 (l:=p.2) lF (ho p hp);unfold fD;omega
def lW(n:Nat)(l:List av.Prod):Prop:=∀p∈l,∀x∈p.2,x.1=2->0<=x.2/\x.2<(n:Int)
theorem I'{c c':dE}{w:List Int}{n:Nat}{x:bY}{a b:Nat}(hx:x.1=2->0<=x.2/\x.2<(n:Int))(h:∀k,k<n->c ((k:Int),(a:Int),(b:Int))<=c' ((k:Int),(a:Int),(b:Int))):dX c w x a b<=dX c' w x a b:=by
 unfold dX;split
 ·rename_i e
  obtain⟨h1,h2⟩:=hx e;have e2:x.2=((x.2.toNat:Nat):Int):=by omega
  rw[e2];exact h _ (by omega)
 ·exact Nat.le_refl _
theorem jQ{c c':dE}{w:List Int}{n:Nat}{l:List av.Prod}(hl:lW n l){a b:Nat}(lF:a<=b)(h:∀k i j,k<n->a<=i->i<=j->j<=b->c ((k:Int),(i:Int),(j:Int))<=c' ((k:Int),(i:Int),(j:Int)))(m:Nat):fD (dX c w) l a b m<=fD (dX c' w) l a b m:=
 I_ lF fun p hp x hx i j h1 h2 h3=>I' (hl p hp x hx) fun k hk=>h k i j hk h1 h2 h3
def sQ(w:List Int)(l:List av.Prod)(n:Nat)(S:dE):Prop:=∀k a b,k<n->a<=b->b<=w.length->fD (dX S w) l a b k<=S ((k:Int),(a:Int),(b:Int))
def Ja(w:List Int)(l:List av.Prod)(n:Nat)(c:dE)(a b:Nat):Prop:=∀k,k<n->c ((k:Int),(a:Int),(b:Int))=fD (dX c w) l a b k
structure CI(w:List Int)(l:List av.Prod)(n:Nat)(c:dE):Prop where
 Rk:∀x,c x<=2
 fixed:∀a b,a<=b->b<=w.length->Ja w l n c a b
 least:∀S,sQ w l n S->∀k a b,k<n->a<=b->b<=w.length->c ((k:Int),(a:Int),(b:Int))<=S ((k:Int),(a:Int),(b:Int))
structure wl(w:List Int)(l:List av.Prod)(n:Nat)(D:Nat->Nat->Prop)(c:dE):Prop where
 Rk:∀x,c x<=2
 fixed:∀a b,a<=b->b<=w.length->D a b->Ja w l n c a b
 least:∀S,sQ w l n S->∀k a b,k<n->a<=b->b<=w.length->c ((k:Int),(a:Int),(b:Int))<=S ((k:Int),(a:Int),(b:Int))
 zero:∀k a b,k<n->a<=b->b<=w.length->¬D a b->c ((k:Int),(a:Int),(b:Int))=0
structure AO(w:List Int)(l:List av.Prod)(n:Nat)(D:Nat->Nat->Prop)(a b:Nat)(c:dE):Prop where
 Rk:∀x,c x<=2
 fixed:∀i j,i<=j->j<=w.length->D i j->Ja w l n c i j
 least:∀S,sQ w l n S->∀k i j,k<n->i<=j->j<=w.length->c ((k:Int),(i:Int),(j:Int))<=S ((k:Int),(i:Int),(j:Int))
 zero:∀k i j,k<n->i<=j->j<=w.length->¬D i j->¬(i=a/\j=b)->c ((k:Int),(i:Int),(j:Int))=0
 grow:∀k,k<n->c ((k:Int),(a:Int),(b:Int))<=fD (dX c w) l a b k
section
variable{w:List Int}{l:List av.Prod}{n:Nat}{D D':Nat->Nat->Prop}{a b:Nat}{c:dE}
theorem wl.begin(h:wl w l n D c)(lF:a<=b)(hb:b<=w.length)(hD:¬D a b):AO w l n D a b c:=
 ⟨h.Rk,h.fixed,h.least,fun k i j hk h1 h2 h3 _=>h.zero k i j hk h1 h2 h3,fun k hk=>by rw[h.zero k a b hk lF hb hD];exact Nat.zero_le _⟩
theorem AO.done(h:AO w l n D a b c)(hf:Ja w l n c a b)(hD:∀i j,i<=j->j<=w.length->(D' i j↔D i j\/(i=a/\j=b))):wl w l n D' c:=
 ⟨h.Rk,fun i j h1 h2 h3=>((hD i j h1 h2).1 h3).elim (h.fixed i j h1 h2) fun⟨e1,e2⟩=>by subst e1 e2;exact hf,h.least,fun k i j hk h1 h2 h3=>by
  have:¬(D i j\/(i=a/\j=b)):=fun h=>h3 ((hD i j h1 h2).2 h);exact h.zero k i j hk h1 h2 (fun h=>this (.inl h)) fun h=>this (.inr h)⟩
theorem wl.same(h:wl w l n D c)(hD:∀i j,i<=j->j<=w.length->(D' i j↔D i j)):wl w l n D' c:=
 ⟨h.Rk,fun i j h1 h2 h3=>h.fixed i j h1 h2 ((hD i j h1 h2).1 h3),h.least,fun k i j hk h1 h2 h3=>h.zero k i j hk h1 h2 fun h=>h3 ((hD i j h1 h2).2 h)⟩
theorem wl.lfp(h:wl w l n D c)(hD:∀i j,i<=j->j<=w.length->D i j):CI w l n c:=
 ⟨h.Rk,fun i j h1 h2=>h.fixed i j h1 h2 (hD i j h1 h2),h.least⟩
theorem R9:wl w l n (fun i j=>j-i<0) (fun _=>0):=
 ⟨fun _=>by omega,fun _ _ _ _ h=>by omega,fun _ _ _ _ _ _ _ _=>Nat.zero_le _,fun _ _ _ _ _ _ _=>rfl⟩
theorem kw{k:Nat}(hk:k<n):dY c w l n a b n ((k:Int),(a:Int),(b:Int))=fD (dX c w) l a b k:=by
 unfold dY;rw[if_pos (by dsimp only;omega),Int.toNat_natCast]
theorem jq{k i j:Nat}(h:¬(i=a/\j=b)):dY c w l n a b n ((k:Int),(i:Int),(j:Int))=c ((k:Int),(i:Int),(j:Int)):=by
 unfold dY;rw[if_neg (by dsimp only;omega)]
theorem Jb(h:∀x,c x<=2)(x:Span):dY c w l n a b n x<=2:=by
 unfold dY;split
 ·exact ph _ _ _ _ _
 ·exact h x
theorem wm(h:AO w l n D a b c){k i j:Nat}(hk:k<n):c ((k:Int),(i:Int),(j:Int))<=dY c w l n a b n ((k:Int),(i:Int),(j:Int)):=by
 by_cases e:i=a/\j=b
 ·obtain⟨rfl,rfl⟩:=e
  rw[kw hk];exact h.grow k hk
 ·rw[jq e];exact Nat.le_refl _
theorem Jc(hl:lW n l)(h:AO w l n D a b c)(lF:a<=b)(hb:b<=w.length)(hD:∀i j,D i j->¬(i<=a/\b<=j)):AO w l n D a b (dY c w l n a b n):=by
 refine⟨Jb h.Rk,fun i j h1 h2 h3=>?_,fun S hS k i j hk h1 h2=>?_,fun k i j hk h1 h2 h3 h4=>?_,fun k hk=>?_⟩
 ·intro k hk
  have hne:¬(i=a/\j=b):=fun⟨e1,e2⟩=>hD i j h3 ⟨by omega,by omega⟩;rw[jq hne,h.fixed i j h1 h2 h3 k hk];apply Nat.le_antisymm
  ·exact jQ hl h1 (fun q x y hq _ _ _=>wm h hq) k
  ·refine jQ hl h1 (fun q x y hq h4 h5 h6=>?_) k
   rw[jq fun⟨e1,e2⟩=>hD i j h3 ⟨by omega,by omega⟩];exact Nat.le_refl _
 ·by_cases e:i=a/\j=b
  ·obtain⟨rfl,rfl⟩:=e
   rw[kw hk];exact Nat.le_trans (jQ hl h1 (fun q x y hq h4 h5 h6=>h.least S hS q x y hq h5 (by omega)) k) (hS k i j hk h1 h2)
  ·rw[jq e]
   exact h.least S hS k i j hk h1 h2
 ·rw[jq h4]
  exact h.zero k i j hk h1 h2 h3 h4
 ·rw[kw hk]
  exact jQ hl lF (fun q x y hq _ _ _=>wm h hq) k
theorem wo:∀k,od c w l a b k=false->∀i,i<k->c ((i:Int),(a:Int),(b:Int))=fD (dX c w) l a b i
 |0,_,_,h=>by omega
 |k+1,h,i,hi=>by
  rw[od,Bool.or_eq_false_iff]at h
  by_cases e:i=k
  ·subst e;simpa using h.2
  ·exact wo k h.1 i (by omega)
theorem Jd(hl:lW n l)(h:AO w l n D a b c)(lF:a<=b)(x6:od c w l a b n=false):Ja w l n (dY c w l n a b n) a b:=by
 have hf:=wo n x6;intro k hk;rw[kw hk];apply Nat.le_antisymm
 ·exact jQ hl lF (fun q x y hq _ _ _=>wm h hq) k
 ·refine jQ hl lF (fun q x y hq h4 h5 h6=>?_) k
  by_cases e:x=a/\y=b
  ·obtain⟨rfl,rfl⟩:=e
   rw[kw hq,hf q hq];exact Nat.le_refl _
  ·rw[jq e];exact Nat.le_refl _
def rA(n:Nat)(c:dE)(a b:Nat):Nat:=cO (fun k=>2-c ((k:Int),(a:Int),(b:Int))) n
theorem LO(n:Nat)(c:dE)(a b:Nat):rA n c a b<=2*n:=by
 unfold rA
 induction n with
 |zero=>exact Nat.le_refl _
 |succ k ih=>rw[cO];omega
theorem wq(h:AO w l n D a b c):∀k,k<=n->rA k (dY c w l n a b n) a b<=rA k c a b/\(od c w l a b k=true->rA k (dY c w l n a b n) a b<rA k c a b)
  |0,_=>⟨Nat.le_refl _,fun h=>by cases h⟩
  | k +1,hk=>by
    obtain⟨Vm,Us⟩:=wq h k (by omega);have hu:=h.grow k (by omega);have h2:=ph (dX c w) l a b k;unfold rA at Vm Us⊢;rw[cO,cO,kw (by omega),od];refine⟨by omega,fun hc=>?_⟩;rw[Bool.or_eq_true]at hc;rcases hc with hc|hc
    · have:=Us hc;omega
    · simp only[Bool.not_eq_true',decide_eq_false_iff_not]at hc
      omega
end
end dj
namespace dj
open av
theorem CI.pre{w:List Int}{l:List av.Prod}{n:Nat}{c:dE}(h:CI w l n c):sQ w l n c:=fun k a b hk h1 h2=>by rw[<-h.fixed a b h1 h2 k hk];exact Nat.le_refl _
theorem CI.unique{w:List Int}{l:List av.Prod}{n:Nat}{c c':dE}(h:CI w l n c)(h':CI w l n c'){k a b:Nat}(hk:k<n)(h1:a<=b)(h2:b<=w.length):c ((k:Int),(a:Int),(b:Int))=c' ((k:Int),(a:Int),(b:Int)):=
 Nat.le_antisymm (h.least c' h'.pre k a b hk h1 h2) (h'.least c h.pre k a b hk h1 h2)
open Classical in
noncomputable def jG(w:List Int)(l:List av.Prod)(n:Nat):dE:=fun x=>if ∃S,sQ w l n S/\S x=0 then 0 else if ∃S,sQ w l n S/\S x=1 then 1 else 2
theorem Vo{w:List Int}{l:List av.Prod}{n:Nat}:sQ w l n (fun _=>2):=fun _ _ _ _ _ _=>ph _ _ _ _ _
theorem m_{w:List Int}{l:List av.Prod}{n:Nat}{S:dE}(hS:sQ w l n S)(x:Span):jG w l n x<=S x:=by
 unfold jG;split
 ·omega
 ·rename_i h0
  split
  ·have:S x≠0:=fun e=>h0 ⟨S,hS,e⟩
   omega
  ·rename_i h1
   have a:S x≠0:=fun e=>h0 ⟨S,hS,e⟩;have b:S x≠1:=fun e=>h1 ⟨S,hS,e⟩;omega
theorem CJ{w:List Int}{l:List av.Prod}{n:Nat}{x:Span}{v:Nat}(h:∀S,sQ w l n S->v<=S x):v<=jG w l n x:=by
 unfold jG;split
 ·rename_i h0
  obtain⟨S,hS,e⟩:=h0;have:=h S hS;omega
 ·split
  ·rename_i h1
   obtain⟨S,hS,e⟩:=h1;have:=h S hS;omega
  ·exact h _ Vo
theorem CK{w:List Int}{l:List av.Prod}{n:Nat}(hl:lW n l):sQ w l n (jG w l n):=fun k a b hk h1 h2=>
 CJ fun _ hS=>Nat.le_trans (jQ hl h1 (fun _ _ _ _ _ _ _=>m_ hS _) k) (hS k a b hk h1 h2)
theorem tv{w:List Int}{l:List av.Prod}{n:Nat}(hl:lW n l):CI w l n (jG w l n):=by
 have hp:=CK (w:=w) hl;refine⟨fun x=>m_ Vo x,fun a b h1 h2 k hk=>Nat.le_antisymm ?_ (hp k a b hk h1 h2),fun S hS k a b _ _ _=>m_ hS _⟩;have hS:sQ w l n (fun x=>if 0<=x.1/\x.1<(n:Int)/\0<=x.2.1/\x.2.1<=x.2.2/\x.2.2<=(w.length:Int)then fD (dX (jG w l n) w) l x.2.1.toNat x.2.2.toNat x.1.toNat else 2):=fun q i j hq h3 h4=>by
  dsimp only;rw[if_pos (by omega),Int.toNat_natCast,Int.toNat_natCast,Int.toNat_natCast];refine jQ hl h3 (fun q' i' j' B4 h5 h6 h7=>?_) q;dsimp only;rw[if_pos (by omega),Int.toNat_natCast,Int.toNat_natCast,Int.toNat_natCast];exact hp q' i' j' B4 h6 (by omega)
 have:=m_ hS ((k:Int),(a:Int),(b:Int));dsimp only at this;rw[if_pos (by omega),Int.toNat_natCast,Int.toNat_natCast,Int.toNat_natCast]at this;exact this
theorem E6{w:List Int}{l:List av.Prod}{n:Nat}{c:dE}(hl:lW n l)(h:CI w l n c){k a b:Nat}(hk:k<n)(h1:a<=b)(h2:b<=w.length):c ((k:Int),(a:Int),(b:Int))=jG w l n ((k:Int),(a:Int),(b:Int)):=h.unique (tv hl) hk h1 h2
theorem Je{g:df}{n:Nat}(h:bM g=0)(hn:g.aR=n):lW n g.ag:=by
 obtain⟨a1,a2,a3,a4,a5,a6⟩:=bI h;intro p hp x hx h2;have:=(a6 p hp).2.2.2 x hx;unfold right at this;rw[if_neg (by omega),if_pos h2]at this;simp at this;omega
noncomputable def jX(g:df)(w:List Int):Nat:=if gd g w=0 then jG w g.ag g.aR.toNat (0,0,(w.length:Int))else 0
theorem Jf{g:df}{w:List Int}{c:dE}(hc:gd g w=0)(h:CI w g.ag g.aR.toNat c):c (0,0,(w.length:Int))=jX g w:=by
 obtain⟨h1,h2,h3⟩:=ku hc;obtain⟨_,_,a3,_⟩:=bI h1;unfold jX;rw[if_pos hc];exact E6 (Je h1 (by omega)) h (k:=0) (a:=0) (by omega) (Nat.zero_le _) (Nat.le_refl _)
end dj
namespace dj
open av
theorem iz{f g:Nat->Nat}:∀k,(∀j,j<k->f j=g j)->cO f k=cO g k
 |0,_=>rfl
 |k+1,h=>by rw[cO,cO,iz k fun j hj=>h j (by omega),h k (by omega)]
theorem CL(f g:Nat->Nat):∀k,cO (fun j=>f j+g j) k=cO f k+cO g k
 |0=>rfl
 |k+1=>by rw[cO,cO,cO,CL f g k];omega
theorem CM(v:Nat)(f:Nat->Nat):∀k,cO (fun j=>v*f j) k=v*cO f k
 |0=>rfl
 |k+1=>by rw[cO,cO,CM v f k,Nat.mul_add]
theorem y_(v:Nat)(f:Nat->Nat):∀k,cO (fun j=>f j*v) k=cO f k*v
 |0=>by simp[cO]
 |k+1=>by rw[cO,cO,y_ v f k,Nat.add_mul]
theorem y'(f:Nat->Nat->Nat)(m:Nat):∀k,cO (fun i=>cO (fun j=>f i j) m) k=cO (fun j=>cO (fun i=>f i j) k) m
 |0=>by rw[cO];exact(kt _ m fun _ _=>rfl).symm
 |k+1=>by rw[cO,y' f m k,<-CL];rfl
theorem wt(f:Nat->Nat):∀k,cO f (k+1)=f 0+cO (fun j=>f (j+1)) k
 |0=>by simp[cO]
 |k+1=>by rw[cO,wt f k,cO];omega
theorem qt(f:Nat->Nat)(a:Nat):∀k,cO f (a+k)=cO f a+cO (fun j=>f (a+j)) k
 |0=>by simp[cO]
 |k+1=>by rw[<-Nat.add_assoc,cO,qt f a k,cO];omega
theorem LP(f:Nat->Nat){i k:Nat}(hi:i<k)(h:∀j,j<k->j≠i->f j=0):cO f k=f i:=by
 induction k with
 |zero=>omega
 | succ k ih=>
  rw[cO]
  by_cases e:i=k
  ·subst e
   rw[kt f i fun j hj=>h j (by omega) (by omega),Nat.zero_add]
  ·rw[ih (by omega) fun j hj=>h j (by omega),h k (by omega) (fun e'=>e e'.symm),Nat.add_zero]
theorem LQ(f:Nat->Nat->Nat)(d:Nat):cO (fun j=>cO (fun i=>f i j) (j+1)) (d+1)=cO (fun i=>cO (fun k=>f i (i+k)) (d-i+1)) (d+1):=by
 have h1:cO (fun j=>cO (fun i=>f i j) (j+1)) (d+1)=cO (fun j=>cO (fun i=>if i<=j then f i j else 0) (d+1)) (d+1):=by
  refine iz _ fun j hj=>?_;rw[show d+1=(j+1)+(d-j)by omega,qt (fun i=>if i<=j then f i j else 0)];rw[kt (fun q=>if j+1+q<=j then f (j+1+q) j else 0) _ fun q _=>if_neg (by omega),Nat.add_zero];exact iz _ fun i hi=>(if_pos (by omega)).symm
 rw[h1,y'];refine iz _ fun i hi=>?_;rw[show d+1=i+(d-i+1)by omega,qt,kt _ i fun j hj=>if_neg (by omega),Nat.zero_add];exact iz _ fun k _=>if_pos (by omega)
def jr(o:bY->Nat->Nat->Nat):List bY->Nat->Nat->Nat
 |[],a,b=>if a=b then 1 else 0
 |x::r,a,b=>cO (fun i=>o x a (a+i)*jr o r (a+i) b) (b-a+1)
theorem Hn(f g:Nat->Nat):∀k,(∀j,j<k->min 2 (f j)=min 2 (g j))->min 2 (cO f k)=min 2 (cO g k)
 |0,_=>rfl
 |k+1,h=>by
  have h1:=Hn f g k fun j hj=>h j (by omega);have h2:=h k (by omega);rw[cO,cO];omega
theorem O5(u v:Nat):min 2 (min 2 u*v)=min 2 (u*v):=by
 by_cases h:u<=2
 ·have e:min 2 u=u:=by omega
  rw[e]
 ·have e:min 2 u=2:=by omega
  rw[e]
  by_cases hv:v=0
  ·subst hv;simp
  ·have:2<=2*v:=by omega
   have h2:2*v<=u*v:=Nat.mul_le_mul_right v (by omega);omega
theorem Ho(o:bY->Nat->Nat->Nat)(a:Nat):∀(l:List bY) (f:Nat->Nat) (d:Nat),(∀j,f j<=2)->lD o a l f d=min 2 (cO (fun i=>f i*jr o l (a+i) (a+d)) (d+1))
  | [],f,d,h=>by
    rw[lD,LP _ (show d<d+1 by omega) fun j _ hj=>by rw[jr,if_neg (by omega),Nat.mul_zero],jr,if_pos rfl,Nat.mul_one];have:=h d;omega
  | x ::r,f,d,h=>by
    rw[lD,Ho o a r _ d (we _ _)];have h1:min 2 (cO (fun i=>fW (fun i j=>o x (a+i) (a+j)) f i*jr o r (a+i) (a+d)) (d+1))=min 2 (cO (fun j=>cO (fun i=>f i*o x (a+i) (a+j)*jr o r (a+j) (a+d)) (j+1)) (d+1)):=Hn _ _ _ fun j _=>by
      rw[y_];exact O5 _ _
    rw[h1,LQ (fun i j=>f i*o x (a+i) (a+j)*jr o r (a+j) (a+d))]
    congr 1
    refine iz _ fun i hi=>?_;rw[jr,<-CM,show a+d-(a+i)=d-i by omega];refine iz _ fun k _=>?_;rw[Nat.mul_assoc,Nat.add_assoc]
theorem sR(o:bY->Nat->Nat->Nat)(l:List bY){a b:Nat}(h:a<=b):jP o l a b=min 2 (jr o l a b):=by
 unfold jP;rw[Ho o a l pU _ wj,wt];rw[kt (fun j=>pU (j+1)*jr o l (a+(j+1)) (a+(b-a))) _ fun j _=>by simp[pU]];rw[show a+(b-a)=b by omega];simp[pU]
end dj
namespace dj
open av dg
def fN(n:Nat)(l:List av.Prod):Prop:=∀p∈l,0<=p.1/\p.1<(n:Int)/\∀x∈p.2,x.1=1\/(x.1=2/\0<=x.2/\x.2<(n:Int))
theorem pq{g:df}{n:Nat}(h:bM g=0)(hn:g.aR=n):fN n g.ag:=fun p hp=>by
 obtain⟨_,_,_,_,_,a6⟩:=bI h;obtain⟨b1,b2,b3,b4⟩:=a6 p hp;refine⟨b2,by omega,fun x hx=>?_⟩;have:=b4 x hx;unfold right at this;split at this
 ·exact .inl (by assumption)
 ·split at this
  ·simp at this;exact .inr ⟨by assumption,by omega,by omega⟩
  ·simp at this
theorem fN.aR{n:Nat}{l:List av.Prod}(h:fN n l):lW n l:=fun p hp x hx h2=>by
 rcases(h p hp).2.2 x hx with h|h
 ·omega
 ·exact h.2
theorem ep{l:List av.Prod}{p:Int}(h0:0<=p)(h:p<(l.length:Int)):aQ l p∈l:=by
 unfold aQ;rw[List.getD_eq_getElem?_getD,List.getElem?_eq_getElem (by omega)];exact List.getElem_mem _
def fA(l:List av.Prod)(t:Tree)(x:bY):List Int:=if t.prod<0 then [x.2]else eO l t
theorem oe(l:List av.Prod)(t:Tree)(r:List Tree)(y:bY)(b:List bY):fz l (t::r) (y::b)=fA l t y++fz l r b:=by
 obtain⟨p,k,ks⟩:=t;exact tu l p k ks r y b
theorem kI{l:List av.Prod}{t:Tree}{x:bY}{u:Nat}(h:eA l t x u):(fA l t x).length=leaves t:=by
 unfold fA;split
 ·obtain⟨p,k,ks⟩:=t
  rw[leaves,if_pos (by assumption)];rfl
 ·exact pg h (by omega)
section
end
end dj
namespace dj
open av dg
def SP(o:bY->Nat->Nat->Nat)(y:bY)(r:List bY)(a b m:Nat):Bool:=decide (0<o y a m)&&decide (0<jP o r m b)
section
variable{o:bY->Nat->Nat->Nat}{l:List av.Prod}{x:bY}{a b:Nat}
theorem rB{f:Nat->Nat}:∀{k:Nat},0<cO f k->∃i,i<k/\0<f i
  |0,h=>by simp[cO]at h
  | k +1,h=>by
    rw[cO]at h
    by_cases c:0<f k
    · exact⟨k,by omega,c⟩
    · obtain⟨i,h1,h2⟩:=rB (f:=f) (k:=k) (by omega)
      exact⟨i,by omega,h2⟩
theorem O6{y:bY}{r:List bY}(lF:a<=b)(h:0<jP o (y::r) a b):∃m,a<=m/\m<=b/\SP o y r a b m=true:=by
 rw[sR _ _ lF,jr]at h;obtain⟨i,h1,h2⟩:=rB (f:=fun i=>o y a (a+i)*jr o r (a+i) b) (k:=b-a+1) (by omega);have h2:0<o y a (a+i)*jr o r (a+i) b:=h2;refine⟨a+i,by omega,by omega,?_⟩;unfold SP;rw[sR _ _ (by omega:a+i<=b)];rw[Bool.and_eq_true,decide_eq_true_iff,decide_eq_true_iff];exact⟨Nat.pos_of_mul_pos_right h2,by have:=Nat.pos_of_mul_pos_left h2;omega⟩
theorem rC{n:Nat}:∀{l:List av.Prod},0<lV o a b n l->∃k,k<l.length/\(aQ l (k:Int)).1=(n:Int)/\0<jP o (aQ l (k:Int)).2 a b
  |[],h=>by simp[lV]at h
  | p ::r,h=>by
    rw[lV]at h
    by_cases c:p.1=(n:Int)/\0<jP o p.2 a b
    · exact⟨0,by simp,c.1,c.2⟩
    · have:0<lV o a b n r:=by
        by_cases c1:p.1=(n:Int)
        · rw[if_pos c1]at h
          have:¬0<jP o p.2 a b:=fun h=>c ⟨c1,h⟩;omega
        · rw[if_neg c1]at h;omega
      obtain⟨k,h1,h2,h3⟩:=rC this;exact⟨k+1,by simpa using h1,h2,h3⟩
theorem qu{k:Nat}(h:k<l.length):aQ l (k:Int)=l[k]:=by
 unfold aQ;rw[Int.toNat_natCast,List.getD_eq_getElem?_getD,List.getElem?_eq_getElem h];rfl
end
section
end
end dj
namespace b9
open av
def dy(l:List Bool)(i:Nat)(b:Bool):List Bool×Bool:=if b=true/\l.getD i false=false then(l.set i true,true)else(l,false)
def gL(l:List Bool)(body:List bY)(aJ:Bool):Bool:=body.all fun x=>if x.1=1 then aJ else if x.1=2 then l.getD x.2.toNat false else true
def iQ(l:List Nat)(i:Nat)(b:Nat):List Nat×Bool:=(l.set i (l.getD i 0|||b),!decide ((l.getD i 0|||b)=l.getD i 0))
def eC(E:List Bool)(F:List Nat)(behind:Nat):List bY->Nat->Nat
 |[],out=>out|||behind
 |x::r,out=>if x.1=1 then out|||2^x.2.toNat else if E.getD x.2.toNat false=true then eC E F behind r (out|||F.getD x.2.toNat 0)else out|||F.getD x.2.toNat 0
def cP(E:List Bool)(F:List Nat)(body:List bY)(behind:Nat):Nat:=eC E F behind body 0
theorem jt(l:List Bool)(i:Nat)(b:Bool):(dy l i b).1.length=l.length:=by
 unfold dy;split<;>simp
theorem LR(l:List Nat)(i:Nat)(b:Nat):(iQ l i b).1.length=l.length:=by
 simp[iQ]
structure FS where
 E:List Bool
 R:List Bool
 M:List Bool
 more:Bool
def pV(h:Nat)(x:bY)(R:List Bool)(more:Bool):List Bool×Bool:=if x.1=2 then((dy R x.2.toNat (R.getD h false)).1,(dy R x.2.toNat (R.getD h false)).2||more)else(R,more)
def gh(h:Nat):List bY->List Bool->Bool->List Bool×Bool
 |[],R,more=>(R,more)
 |x::r,R,more=>gh h r (pV h x R more).1 (pV h x R more).2
def gO(p:av.Prod)(s:FS):FS:=
 let h:=p.1.toNat
 let a:=dy s.E h (gL s.E p.2 false)
 let b:=dy s.M h (gL s.M p.2 true)
 let c:=gh h p.2 s.R (b.2||(a.2||s.more))
 ⟨a.1,c.1,b.1,c.2⟩
def dl:List av.Prod->FS->FS
 |[],s=>s
 |p::r,s=>dl r (gO p s)
theorem Jg(h:Nat)(x:bY)(R:List Bool)(more:Bool):(pV h x R more).1.length=R.length:=by
 unfold pV;split
 ·exact jt _ _ _
 ·rfl
theorem wu(h:Nat):∀(body:List bY) (R:List Bool) (more:Bool),(gh h body R more).1.length=R.length
 |[],_,_=>rfl
 |x::r,R,more=>by rw[gh,wu h r,Jg]
def kJ(l:List Bool):Nat:=l.countP id
theorem CN{l:List Bool}{i:Nat}{b:Bool}(hi:i<l.length):kJ (dy l i b).1=kJ l+(if(dy l i b).2=true then 1 else 0):=by
 unfold dy;split
 ·rename_i c
  have h0:l[i]=false:=by
   have:=c.2;rw[List.getD_eq_getElem?_getD,List.getElem?_eq_getElem hi]at this
   simpa using this
  unfold kJ;rw[List.countP_set hi];simp[h0]
 ·simp
end b9
namespace b9
open av
def E7{σ:Type}(step:σ->σ×Bool):Nat->σ->σ
 |0,s=>s
 |f+1,s=>if(step s).2=true then E7 step f (step s).1 else(step s).1
structure rD{σ:Type}(step:σ->σ×Bool)(ok:σ->Prop)(μ:σ->Nat):Prop where
 keep:∀s,ok s->ok (step s).1
 dec:∀s,ok s->(step s).2=true->μ (step s).1<μ s
def fix{σ:Type}(step:σ->σ×Bool)(μ:σ->Nat)(s:σ):σ:=E7 step (μ s+1) s
section
variable{σ:Type}{step:σ->σ×Bool}{ok:σ->Prop}{μ:σ->Nat}
theorem za(h:rD step ok μ):∀(f g:Nat) (s:σ),ok s->μ s<f->μ s<g->E7 step f s=E7 step g s
  |0,_,_,_,h1,_=>by omega
  |_,0,_,_,_,h2=>by omega
  | f +1,g+1,s,hs,h1,h2=>by
    unfold E7
    by_cases c:(step s).2=true
    · rw[if_pos c,if_pos c]
      have:=h.dec s hs c;exact za h f g _ (h.keep s hs) (by omega) (by omega)
    · rw[if_neg c,if_neg c]
theorem AP(h:rD step ok μ){s:σ}(hs:ok s)(c:(step s).2=true):fix step μ s=fix step μ (step s).1:=by
 have:=h.dec s hs c;unfold fix;rw[E7,if_pos c];exact za h _ _ _ (h.keep s hs) (by omega) (by omega)
theorem rF{s:σ}(c:(step s).2=false):fix step μ s=(step s).1:=by
 unfold fix;rw[E7,if_neg (by rw[c];decide)]
theorem lG(h:rD step ok μ):∀(k:Nat) (s:σ),ok s->μ s<=k->∃s',ok s'/\(step s').2=false/\fix step μ s=(step s').1
  | k,s,hs,hk=>by
    by_cases c:(step s).2=true
    · have hd:=h.dec s hs c
      match k with
      |0=>omega
      | k+1=>
        obtain⟨s',h1,h2,h3⟩:=lG h k (step s).1 (h.keep s hs) (by omega);exact⟨s',h1,h2,by rw[AP h hs c,h3]⟩
    · have c':(step s).2=false:=by simpa using c
      exact⟨s,hs,c',rF c'⟩
end
def ww(E:List Bool)(M:List Bool)(p:av.Prod)(F:List Nat)(more:Bool):List Nat×Bool:=
 if gL M p.2 true=true then((iQ F p.1.toNat (cP E F p.2 0)).1,(iQ F p.1.toNat (cP E F p.2 0)).2||more)else(F,more)
def j_(E M:List Bool):List av.Prod->List Nat->Bool->List Nat×Bool
 |[],F,more=>(F,more)
 |p::r,F,more=>j_ E M r (ww E M p F more).1 (ww E M p F more).2
def fa(E:List Bool)(F:List Nat)(h:Nat)(x:bY)(r:List bY)(W:List Nat)(more:Bool):List Nat×Bool:=
 if x.1=2 then((iQ W x.2.toNat (cP E F r (W.getD h 0))).1,(iQ W x.2.toNat (cP E F r (W.getD h 0))).2||more)else(W,more)
def fl(E:List Bool)(F:List Nat)(h:Nat):List bY->List Nat->Bool->List Nat×Bool
 |[],W,more=>(W,more)
 |x::r,W,more=>fl E F h r (fa E F h x r W more).1 (fa E F h x r W more).2
def iG(E:List Bool)(F:List Nat):List av.Prod->List Nat->Bool->List Nat×Bool
 |[],W,more=>(W,more)
 |p::r,W,more=>iG E F r (fl E F p.1.toNat p.2 W more).1 (fl E F p.1.toNat p.2 W more).2
def jg(l:List Nat):Nat:=(l.map fun x=>18446744073709551616-x).sum
def qv(n:Nat)(l:List Nat):Prop:=l.length=n/\∀x∈l,x<18446744073709551616
theorem kj{n:Nat}{l:List Nat}(h:qv n l)(i:Nat):l.getD i 0<18446744073709551616:=by
 rw[List.getD_eq_getElem?_getD]
 cases e:l[i]? with
 |none=>decide
 |some y=>exact h.2 y (List.mem_of_getElem? e)
theorem pt{x y:Nat}(hx:x<18446744073709551616)(hy:y<18446744073709551616):x|||y<18446744073709551616:=Nat.or_lt_two_pow (n:=64) hx hy
theorem uD{n:Nat}{l:List Nat}{i b:Nat}(h:qv n l)(hb:b<18446744073709551616):qv n (iQ l i b).1:=by
 refine⟨by rw[LR];exact h.1,fun x hx=>?_⟩;rcases List.mem_or_eq_of_mem_set hx with h1|rfl
 ·exact h.2 x h1
 ·exact pt (kj h i) hb
theorem Hp:∀(l:List Nat) (i:Nat) (y:Nat) (h:i<l.length),((l.set i y).map fun x=>18446744073709551616-x).sum+(18446744073709551616-l[i])=(l.map fun x=>18446744073709551616-x).sum+(18446744073709551616-y)
 |a::r,0,y,h=>by simp;omega
 |a::r,i+1,y,h=>by
  have:=Hp r i y (by simpa using h);simp at this⊢;omega
theorem zb{n:Nat}{l:List Nat}{i b:Nat}(h:qv n l)(hi:i<n)(hb:b<18446744073709551616):jg (iQ l i b).1<=jg l/\((iQ l i b).2=true->jg (iQ l i b).1<jg l):=by
 have OC:i<l.length:=by rw[h.1];exact hi
 have hs:=Hp l i (l.getD i 0|||b) OC;have e:l.getD i 0=l[i]:=by rw[List.getD_eq_getElem?_getD,List.getElem?_eq_getElem OC];rfl
 have h1:l[i]<=l.getD i 0|||b:=by rw[e];exact Nat.left_le_or
 have h2:=pt (kj h i) hb;have h3:=h.2 _ (List.getElem_mem OC);unfold jg iQ;dsimp only;refine⟨by omega,fun hc=>?_⟩;simp only[Bool.not_eq_true',decide_eq_false_iff_not]at hc;omega
theorem kx{E:List Bool}{F:List Nat}{n:Nat}{body:List bY}{behind:Nat}(hF:qv n F)(hb:behind<18446744073709551616)(hx:∀x∈body,x.1=1->x.2.toNat<64):cP E F body behind<18446744073709551616:=by
  have key:∀(body:List bY) (out:Nat),out<18446744073709551616->(∀x∈body,x.1=1->x.2.toNat<64)->eC E F behind body out<18446744073709551616:=by
    intro body
    induction body with
    |nil=>intro out h _;exact pt h hb
    | cons x r ih=>
      intro out h hx;unfold eC;split
      · rename_i c
        have hp:(2:Nat)^x.2.toNat<2^64:=Nat.pow_lt_pow_right (by decide) (hx x (by simp) c);exact pt h (by simpa using hp)
      · split
        · exact ih _ (pt h (kj hF _)) fun y hy=>hx y (by simp[hy])
        · exact pt h (kj hF _)
  exact key body 0 (by decide) hx
structure ud(n:Nat)(l:List av.Prod):Prop where
 head:∀p∈l,0<=p.1/\p.1.toNat<n
 sO:∀p∈l,∀x∈p.2,x.1=1->0<=x.2/\x.2.toNat<64
 Ob:∀p∈l,∀x∈p.2,x.1≠1->x.1=2/\0<=x.2/\x.2.toNat<n
theorem pu{g:df}{n:Nat}(h:bM g=0)(hn:g.aR=n):ud n g.ag:=by
 obtain⟨a,b,c,d,e,f⟩:=bI h;refine⟨fun p hp=>?_,fun p hp x hx gT=>?_,fun p hp x hx gT=>?_⟩
 ·have:=f p hp;omega
 ·have:=(f p hp).2.2.2 x hx
  unfold right at this;rw[if_pos gT]at this;simp at this;omega
 ·have:=(f p hp).2.2.2 x hx
  unfold right at this;rw[if_neg gT]at this;split at this
  ·rename_i h2
   simp at this;exact⟨h2,by omega,by omega⟩
  ·simp at this
theorem ud.tail{n:Nat}{p:av.Prod}{l:List av.Prod}(h:ud n (p::l)):ud n l:=
 ⟨fun q hq=>h.head q (by simp[hq]),fun q hq=>h.sO q (by simp[hq]),fun q hq=>h.Ob q (by simp[hq])⟩
theorem og{E M:List Bool}{n:Nat}:∀(l:List av.Prod) (F:List Nat) (more:Bool),ud n l->qv n F->qv n (j_ E M l F more).1/\jg (j_ E M l F more).1<=jg F/\((j_ E M l F more).2=true->more=true\/jg (j_ E M l F more).1<jg F)
  |[],F,more,_,h=>⟨h,Nat.le_refl _,fun c=> .inl c⟩
  | p ::r,F,more,hf,h=>by
    have hb:cP E F p.2 0<18446744073709551616:=kx h (by decide) fun x hx gT=>(hf.sO p (by simp) x hx gT).2;have hh:=hf.head p (by simp);rw[j_];unfold ww;split
    · have h1:=uD (i:=p.1.toNat) h hb
      have h2:=zb h hh.2 hb;obtain⟨k1,k2,k3⟩:=og r (iQ F p.1.toNat (cP E F p.2 0)).1 ((iQ F p.1.toNat (cP E F p.2 0)).2||more) hf.tail h1;refine⟨k1,Nat.le_trans k2 h2.1,fun c=>?_⟩;rcases k3 c with c2|c2
      · rw[Bool.or_eq_true]at c2
        rcases c2 with c2|c2
        · exact .inr (Nat.lt_of_le_of_lt k2 (h2.2 c2))
        · exact .inl c2
      · exact .inr (Nat.lt_of_lt_of_le c2 h2.1)
    · exact og r F more hf.tail h
theorem zc{E:List Bool}{F:List Nat}{n h:Nat}(hF:qv n F)(hh:h<n):∀(body:List bY) (W:List Nat) (more:Bool),(∀x∈body,x.1=1->x.2.toNat<64)->(∀x∈body,x.1=2->x.2.toNat<n)->qv n W->qv n (fl E F h body W more).1/\jg (fl E F h body W more).1<=jg W/\((fl E F h body W more).2=true->more=true\/jg (fl E F h body W more).1<jg W)
  |[],W,more,_,_,hW=>⟨hW,Nat.le_refl _,fun c=> .inl c⟩
  | x ::r,W,more,ht,hx,hW=>by
    have hb:cP E F r (W.getD h 0)<18446744073709551616:=kx hF (kj hW h) fun y hy=>ht y (by simp[hy]);have tl:=fun W more=>zc (E:=E) hF hh r W more (fun y hy=>ht y (by simp[hy])) (fun y hy=>hx y (by simp[hy]));rw[fl];unfold fa;split
    · rename_i c0
      have h1:=uD (i:=x.2.toNat) hW hb;have h2:=zb hW (hx x (by simp) c0) hb;obtain⟨k1,k2,k3⟩:=tl (iQ W x.2.toNat (cP E F r (W.getD h 0))).1 ((iQ W x.2.toNat (cP E F r (W.getD h 0))).2||more) h1;refine⟨k1,Nat.le_trans k2 h2.1,fun c=>?_⟩;rcases k3 c with c2|c2
      · rw[Bool.or_eq_true]at c2
        rcases c2 with c2|c2
        · exact .inr (Nat.lt_of_le_of_lt k2 (h2.2 c2))
        · exact .inl c2
      · exact .inr (Nat.lt_of_lt_of_le c2 h2.1)
    · exact tl W more hW
theorem rG{E:List Bool}{F:List Nat}{n:Nat}(hF:qv n F):∀(l:List av.Prod) (W:List Nat) (more:Bool),ud n l->qv n W->qv n (iG E F l W more).1/\jg (iG E F l W more).1<=jg W/\((iG E F l W more).2=true->more=true\/jg (iG E F l W more).1<jg W)
  |[],W,more,_,h=>⟨h,Nat.le_refl _,fun c=> .inl c⟩
  | p ::r,W,more,hf,h=>by
    rw[iG];obtain⟨a1,a2,a3⟩:=zc (E:=E) hF (hf.head p (by simp)).2 p.2 W more (fun x hx h1=>(hf.sO p (by simp) x hx h1).2) (fun x hx h2=>(hf.Ob p (by simp) x hx (by omega)).2.2) h;obtain⟨k1,k2,k3⟩:=rG hF r (fl E F p.1.toNat p.2 W more).1 (fl E F p.1.toNat p.2 W more).2 hf.tail a1;refine⟨k1,Nat.le_trans k2 a2,fun c=>?_⟩;rcases k3 c with c2|c2
    · rcases a3 c2 with c3|c3
      · exact .inl c3
      · exact .inr (Nat.lt_of_le_of_lt k2 c3)
    · exact .inr (Nat.lt_of_lt_of_le c2 a2)
theorem AQ{E M:List Bool}{n:Nat}{l:List av.Prod}(hf:ud n l):rD (fun F=>j_ E M l F false) (qv n) jg:=
 ⟨fun s hs=>(og l s false hf hs).1,fun s hs c=>by
  rcases(og (E:=E) (M:=M) l s false hf hs).2.2 c with h|h
  ·cases h
  ·exact h⟩
theorem E8{E:List Bool}{F:List Nat}{n:Nat}{l:List av.Prod}(hF:qv n F)(hf:ud n l):rD (fun W=>iG E F l W false) (qv n) jg:=
 ⟨fun s hs=>(rG hF l s false hf hs).1,fun s hs c=>by
  rcases(rG (E:=E) hF l s false hf hs).2.2 c with h|h
  ·cases h
  ·exact h⟩
end b9
namespace b9
open av
def Jh(n:Nat)(s:FS):Prop:=s.E.length=n/\s.R.length=n/\s.M.length=n
def had(s:FS):Nat:=kJ s.E+kJ s.R+kJ s.M
def ze(l:List av.Prod)(s:FS):FS×Bool:=(dl l ⟨s.E,s.R,s.M,false⟩,(dl l ⟨s.E,s.R,s.M,false⟩).more)
theorem wx(l:List Bool):kJ l<=l.length:=List.countP_le_length
theorem qw{l:List Bool}{i:Nat}{b:Bool}(hi:i<l.length):kJ l<=kJ (dy l i b).1/\((dy l i b).2=true->kJ l<kJ (dy l i b).1):=by
 have:=CN (b:=b) hi;refine⟨by split at this<;>omega,fun h=>?_⟩;rw[if_pos h]at this;omega
theorem tw{h n:Nat}:∀(body:List bY) (R:List Bool) (more:Bool),(∀x∈body,x.1=2->x.2.toNat<n)->R.length=n->kJ R<=kJ (gh h body R more).1/\((gh h body R more).2=true->more=true\/kJ R<kJ (gh h body R more).1)
  |[],R,more,_,_=>⟨Nat.le_refl _,fun c=> .inl c⟩
  | x ::r,R,more,hx,hR=>by
    rw[gh];have ih:=fun R more=>tw (h:=h) r R more fun y hy=>hx y (by simp[hy]);unfold pV;split
    · rename_i c0
      have hg:=qw (b:=R.getD h false) (show x.2.toNat<R.length by rw[hR];exact hx x (by simp) c0);have hl:=jt R x.2.toNat (R.getD h false);generalize dy R x.2.toNat (R.getD h false)=a at*;obtain⟨R2,m2⟩:=a;dsimp only at*;obtain⟨k1,k2⟩:=ih R2 (m2||more) (by omega);refine⟨by omega,fun c=>?_⟩;rcases k2 c with c2|c2
      · rw[Bool.or_eq_true]at c2
        rcases c2 with c2|c2
        · have:=hg.2 c2
          exact .inr (by omega)
        · exact .inl c2
      · exact .inr (by omega)
    · exact ih R more hR
theorem CO{n:Nat}{p:av.Prod}{s:FS}(hp:p.1.toNat<n)(hx:∀x∈p.2,x.1=2->x.2.toNat<n)(h:Jh n s):Jh n (gO p s)/\had s<=had (gO p s)/\((gO p s).more=true->s.more=true\/had s<had (gO p s)):=by
 obtain⟨E,R,M,more⟩:=s;obtain⟨h1,h2,h3⟩:=h;unfold gO Jh had;dsimp only at*;have e1:=qw (b:=gL E p.2 false) (show p.1.toNat<E.length by omega);have e2:=jt E p.1.toNat (gL E p.2 false);have m1:=qw (b:=gL M p.2 true) (show p.1.toNat<M.length by omega);have m2:=jt M p.1.toNat (gL M p.2 true);generalize dy E p.1.toNat (gL E p.2 false)=a at*;generalize dy M p.1.toNat (gL M p.2 true)=b at*;obtain⟨E2,ce⟩:=a;obtain⟨M2,cm⟩:=b;dsimp only at*;have r1:=tw (h:=p.1.toNat) p.2 R (cm||(ce||more)) hx h2;have r2:=wu p.1.toNat p.2 R (cm||(ce||more));generalize gh p.1.toNat p.2 R (cm||(ce||more))=c at*;obtain⟨R2,cr⟩:=c;dsimp only at*;refine⟨⟨by omega,by omega,by omega⟩,by omega,fun hc=>?_⟩;rcases r1.2 hc with h4|h4
 ·rw[Bool.or_eq_true,Bool.or_eq_true]at h4
  rcases h4 with h4|h4|h4
  ·have:=m1.2 h4
   exact .inr (by omega)
  ·have:=e1.2 h4
   exact .inr (by omega)
  ·exact .inl h4
 ·exact .inr (by omega)
theorem lH{n:Nat}:∀(l:List av.Prod) (s:FS),ud n l->Jh n s->Jh n (dl l s)/\had s<=had (dl l s)/\((dl l s).more=true->s.more=true\/had s<had (dl l s))
  |[],s,_,h=>⟨h,Nat.le_refl _,fun c=> .inl c⟩
  | p ::r,s,hf,h=>by
    rw[dl];obtain⟨a1,a2,a3⟩:=CO (s:=s) (hf.head p (by simp)).2 (fun x hx h2=>(hf.Ob p (by simp) x hx (by omega)).2.2) h;obtain⟨k1,k2,k3⟩:=lH r (gO p s) hf.tail a1;refine⟨k1,by omega,fun c=>?_⟩;rcases k3 c with c2|c2
    · rcases a3 c2 with c3|c3
      · exact .inl c3
      · exact .inr (by omega)
    · exact .inr (by omega)
theorem SQ{n:Nat}{s:FS}(h:Jh n s):had s<=3*n:=by
 have a:=wx s.E;have b:=wx s.R;have c:=wx s.M;obtain⟨h1,h2,h3⟩:=h;unfold had;omega
def rH(n:Nat)(s:FS):Nat:=3*n-had s
theorem qx{n:Nat}{l:List av.Prod}(hf:ud n l):rD (ze l) (Jh n) (rH n):=
 ⟨fun s hs=>(lH l ⟨s.E,s.R,s.M,false⟩ hf hs).1,fun s hs c=>by
  have h:=lH l ⟨s.E,s.R,s.M,false⟩ hf hs;have h2:=SQ h.1;rcases h.2.2 c with h3|h3
  ·cases h3
  ·have e:had ⟨s.E,s.R,s.M,false⟩=had s:=rfl
   show 3*n-had (dl l ⟨s.E,s.R,s.M,false⟩)<3*n-had s
   omega⟩
end b9
namespace b9
open av
theorem CP(l:List Nat)(i:Nat):l.set i (l.getD i 0)=l:=by
 by_cases h:i<l.length
 ·have e:l.getD i 0=l[i]:=by rw[List.getD_eq_getElem?_getD,List.getElem?_eq_getElem h];rfl
  rw[e,List.set_getElem_self]
 ·rw[List.set_eq_of_length_le (by omega)]
theorem oh{E M:List Bool}:∀(l:List av.Prod) (F:List Nat) (more:Bool),(j_ E M l F more).2=false->more=false/\(j_ E M l F more).1=F/\∀p∈l,gL M p.2 true=true->F.getD p.1.toNat 0|||cP E F p.2 0=F.getD p.1.toNat 0
  |[],F,more,h=>⟨h,rfl,fun p hp=>by cases hp⟩
  | p ::r,F,more,h=>by
    rw[j_]at h⊢;unfold ww at h⊢
    by_cases c:gL M p.2 true=true
    · rw[if_pos c]at h⊢
      obtain⟨h1,h2,h3⟩:=oh r _ _ h;rw[Bool.or_eq_false_iff]at h1;have h4:F.getD p.1.toNat 0|||cP E F p.2 0=F.getD p.1.toNat 0:=by
        have:=h1.1;unfold iQ at this
        simpa using this
      have h5:(iQ F p.1.toNat (cP E F p.2 0)).1=F:=by
        unfold iQ;dsimp only;rw[h4,CP]
      rw[h2];rw[h5]at h3⊢;refine⟨h1.2,rfl,fun q hq hc=>?_⟩;rcases List.mem_cons.1 hq with rfl|hq
      · exact h4
      · exact h3 q hq hc
    · rw[if_neg c]at h⊢
      obtain⟨h1,h2,h3⟩:=oh r _ _ h;refine⟨h1,h2,fun q hq hc=>?_⟩;rcases List.mem_cons.1 hq with rfl|hq
      · exact absurd hc c
      · exact h3 q hq hc
end b9
namespace b9
open av dg
theorem om{l:List Bool}{i:Nat}{b:Bool}(h:(dy l i b).2=false):(dy l i b).1=l/\(b=true->l.getD i false=true):=by
 unfold dy at h⊢;split at h
 ·cases h
 ·rename_i c
  rw[if_neg c];refine⟨rfl,fun hb=>?_⟩
  cases e:l.getD i false
  ·exact absurd ⟨hb,e⟩ c
  ·rfl
theorem na{h:Nat}:∀(body:List bY) (R:List Bool) (more:Bool),(gh h body R more).2=false->more=false/\(gh h body R more).1=R/\∀x∈body,x.1=2->R.getD h false=true->R.getD x.2.toNat false=true
  |[],R,more,hm=>⟨hm,rfl,fun x hx=>by cases hx⟩
  | x ::r,R,more,hm=>by
    rw[gh]at hm⊢;unfold pV at hm⊢
    by_cases c:x.1=2
    · rw[if_pos c]at hm⊢
      obtain⟨h1,h2,h3⟩:=na r _ _ hm;rw[Bool.or_eq_false_iff]at h1;obtain⟨k1,k2⟩:=om h1.1;rw[h2];dsimp only at h3⊢;rw[k1]at h3⊢;refine⟨h1.2,rfl,fun y hy=>?_⟩;rcases List.mem_cons.1 hy with rfl|hy
      · exact fun _=>k2
      · exact h3 y hy
    · rw[if_neg c]at hm⊢
      obtain⟨h1,h2,h3⟩:=na r _ _ hm;refine⟨h1,h2,fun y hy=>?_⟩;rcases List.mem_cons.1 hy with rfl|hy
      · exact fun h=>absurd h c
      · exact h3 y hy
structure uE(l:List av.Prod)(E R M:List Bool):Prop where
 empty:∀p∈l,gL E p.2 false=true->E.getD p.1.toNat false=true
 makes:∀p∈l,gL M p.2 true=true->M.getD p.1.toNat false=true
 reach:∀p∈l,∀x∈p.2,x.1=2->R.getD p.1.toNat false=true->R.getD x.2.toNat false=true
theorem AR{p:av.Prod}{s:FS}(h:(gO p s).more=false):s.more=false/\(gO p s).E=s.E/\(gO p s).R=s.R/\(gO p s).M=s.M/\uE [p] s.E s.R s.M:=by
 unfold gO at h⊢;dsimp only at h⊢;obtain⟨h1,h2,h3⟩:=na p.2 s.R _ h;rw[Bool.or_eq_false_iff,Bool.or_eq_false_iff]at h1;obtain⟨m1,m2⟩:=om h1.1;obtain⟨e1,e2⟩:=om h1.2.1;refine⟨h1.2.2,e1,h2,m1,⟨fun q hq=>?_,fun q hq=>?_,fun q hq=>?_⟩⟩
 ·simp only[List.mem_cons,List.not_mem_nil,or_false]at hq;subst hq;exact e2
 ·simp only[List.mem_cons,List.not_mem_nil,or_false]at hq;subst hq;exact m2
 ·simp only[List.mem_cons,List.not_mem_nil,or_false]at hq;subst hq;exact h3
theorem rI:∀(l:List av.Prod) (s:FS),(dl l s).more=false->s.more=false/\(dl l s).E=s.E/\(dl l s).R=s.R/\(dl l s).M=s.M/\uE l s.E s.R s.M
  |[],s,h=>⟨h,rfl,rfl,rfl,⟨fun p hp=>(by cases hp),fun p hp=>(by cases hp),fun p hp=>(by cases hp)⟩⟩
  | p ::r,s,h=>by
    rw[dl]at h⊢;obtain⟨h1,h2,h3,h4,h5⟩:=rI r _ h;obtain⟨k1,k2,k3,k4,k5⟩:=AR h1;rw[k2]at h2;rw[k3]at h3;rw[k4]at h4;rw[k2,k3,k4]at h5;refine⟨k1,h2,h3,h4,⟨fun q hq=>?_,fun q hq=>?_,fun q hq=>?_⟩⟩
    · rcases List.mem_cons.1 hq with rfl|hq
      · exact k5.empty q (by simp)
      · exact h5.empty q hq
    · rcases List.mem_cons.1 hq with rfl|hq
      · exact k5.makes q (by simp)
      · exact h5.makes q hq
    · rcases List.mem_cons.1 hq with rfl|hq
      · exact k5.reach q (by simp)
      · exact h5.reach q hq
theorem E9{l:List Bool}{i k:Nat}{b:Bool}(h:l.getD k false=true):(dy l i b).1.getD k false=true:=by
  unfold dy;split
  · rw[List.getD_eq_getElem?_getD]at h⊢
    rw[List.getElem?_set];split
    · split
      · rfl
      · rename_i e1 e2
        rw[List.getElem?_eq_none (by omega)]at h;cases h
    · exact h
  · exact h
theorem tA{h k:Nat}:∀(body:List bY) (R:List Bool) (more:Bool),R.getD k false=true->(gh h body R more).1.getD k false=true
 |[],R,more,hk=>hk
 |x::r,R,more,hk=>by
  rw[gh];refine tA r _ _ ?_;unfold pV;split
  ·exact E9 hk
  ·exact hk
theorem tB{k:Nat}:∀(l:List av.Prod) (s:FS),s.R.getD k false=true->(dl l s).R.getD k false=true
 |[],s,h=>h
 |p::r,s,h=>by
  rw[dl];refine tB r _ ?_;unfold gO;exact tA _ _ _ h
theorem nb{E:List Bool}{F:List Nat}{h:Nat}:∀(body:List bY) (W:List Nat) (more:Bool),(fl E F h body W more).2=false->more=false/\(fl E F h body W more).1=W/\∀pre x post,body=pre++x::post->x.1=2->W.getD x.2.toNat 0|||cP E F post (W.getD h 0)=W.getD x.2.toNat 0
  |[],W,more,hm=>⟨hm,rfl,fun pre x post e=>by simp at e⟩
  | y ::r,W,more,hm=>by
    rw[fl]at hm⊢;unfold fa at hm⊢
    by_cases c:y.1=2
    · rw[if_pos c]at hm⊢
      obtain⟨h1,h2,h3⟩:=nb r _ _ hm;rw[Bool.or_eq_false_iff]at h1;have h4:W.getD y.2.toNat 0|||cP E F r (W.getD h 0)=W.getD y.2.toNat 0:=by
        have:=h1.1;unfold iQ at this
        simpa using this
      have h5:(iQ W y.2.toNat (cP E F r (W.getD h 0))).1=W:=by
        unfold iQ;dsimp only;rw[h4,CP]
      rw[h2];dsimp only at h3⊢;rw[h5]at h3⊢;refine⟨h1.2,rfl,fun pre x post e hx=>?_⟩
      match pre,e with
      | [],e=>
        simp only[List.nil_append,List.cons.injEq]at e;obtain⟨rfl,rfl⟩:=e;exact h4
      | z::pre,e=>
        simp only[List.cons_append,List.cons.injEq]at e;exact h3 pre x post e.2 hx
    · rw[if_neg c]at hm⊢
      obtain⟨h1,h2,h3⟩:=nb r _ _ hm;refine⟨h1,h2,fun pre x post e hx=>?_⟩
      match pre,e with
      | [],e=>
        simp only[List.nil_append,List.cons.injEq]at e;obtain⟨rfl,rfl⟩:=e;exact absurd hx c
      | z::pre,e=>
        simp only[List.cons_append,List.cons.injEq]at e;exact h3 pre x post e.2 hx
theorem oq{E:List Bool}{F:List Nat}:∀(l:List av.Prod) (W:List Nat) (more:Bool),(iG E F l W more).2=false->more=false/\(iG E F l W more).1=W/\∀p∈l,∀pre x post,p.2=pre++x::post->x.1=2->W.getD x.2.toNat 0|||cP E F post (W.getD p.1.toNat 0)=W.getD x.2.toNat 0
 |[],W,more,hm=>⟨hm,rfl,fun p hp=>by cases hp⟩
 |p::r,W,more,hm=>by
  rw[iG]at hm⊢;obtain⟨h1,h2,h3⟩:=oq r _ _ hm;obtain⟨k1,k2,k3⟩:=nb p.2 W more h1;rw[k2]at h2 h3⊢;refine⟨k1,h2,fun q hq=>?_⟩;rcases List.mem_cons.1 hq with rfl|hq
  ·exact k3
  ·exact h3 q hq
theorem Ji{l:List Nat}{i b k z:Nat}(h:(l.getD k 0).testBit z=true):((iQ l i b).1.getD k 0).testBit z=true:=by
 unfold iQ;dsimp only;rw[List.getD_eq_getElem?_getD,List.getElem?_set];split
 ·rename_i e
  subst e;split
  ·rw[Option.getD_some,Nat.testBit_or,h,Bool.true_or]
  ·rename_i e2
   rw[List.getD_eq_getElem?_getD,List.getElem?_eq_none (by omega)]at h;simp at h
 ·rw[<-List.getD_eq_getElem?_getD];exact h
theorem tC{E:List Bool}{F:List Nat}{h k z:Nat}:∀(body:List bY) (W:List Nat) (more:Bool),(W.getD k 0).testBit z=true->((fl E F h body W more).1.getD k 0).testBit z=true
 |[],W,more,hk=>hk
 |x::r,W,more,hk=>by
  rw[fl];refine tC r _ _ ?_;unfold fa;split
  ·exact Ji hk
  ·exact hk
theorem wy{E:List Bool}{F:List Nat}{k z:Nat}:∀(l:List av.Prod) (W:List Nat) (more:Bool),(W.getD k 0).testBit z=true->((iG E F l W more).1.getD k 0).testBit z=true
 |[],W,more,hk=>hk
 |p::r,W,more,hk=>by
  rw[iG];exact wy r _ _ (tC _ _ _ hk)
structure hJ(l:List av.Prod)(E:List Bool)(F W:List Nat)(R M:List Bool):Prop extends uE l E R M where
 first:∀p∈l,gL M p.2 true=true->F.getD p.1.toNat 0|||cP E F p.2 0=F.getD p.1.toNat 0
 follow:∀p∈l,∀pre x post,p.2=pre++x::post->x.1=2->W.getD x.2.toNat 0|||cP E F post (W.getD p.1.toNat 0)=W.getD x.2.toNat 0
 top:R.getD 0 false=true
 last:(W.getD 0 0).testBit 63=true
theorem LS{x y z:Nat}(h:x|||y=x)(hy:y.testBit z=true):x.testBit z=true:=by
 rw[<-h,Nat.testBit_or,hy,Bool.or_true]
end b9
namespace b9
open av dg dj
def kK(w:List Int)(a:Nat):Nat:=if a<w.length then(w.getD a 0).toNat else 63
theorem tD{E:List Bool}{F:List Nat}{behind z:Nat}:∀(b:List bY) (out:Nat),out.testBit z=true->(eC E F behind b out).testBit z=true
  |[],out,h=>by unfold eC;rw[Nat.testBit_or,h,Bool.true_or]
  | x ::r,out,h=>by
    unfold eC;split
    · rw[Nat.testBit_or,h,Bool.true_or]
    · split
      · exact tD r _ (by rw[Nat.testBit_or,h,Bool.true_or])
      · rw[Nat.testBit_or,h,Bool.true_or]
theorem pv{l:List av.Prod}{p k:Int}{kids:List Tree}{x:bY}{u:Nat}(h:eA l (.mk p k kids) x u)(hp:0<=p):x.1≠1/\p<(l.length:Int)/\(aQ l p).1=x.2/\k=0/\bZ l kids (aQ l p).2 u:=by
 rw[eA]at h;rcases h with⟨_,e,_⟩|⟨a1,_,a3,a4,a5,a6⟩
 ·omega
 ·exact⟨a1,a3,a4,a5,a6⟩
theorem iA{l:List av.Prod}{p k:Int}{kids:List Tree}{x:bY}{u:Nat}(h:eA l (.mk p k kids) x u):(x.1=1/\p= -1/\kids=[])\/(x.1≠1/\0<=p):=by
 rw[eA]at h;rcases h with⟨a,b,_,c⟩|⟨a,b,_⟩
 ·exact .inl ⟨a,b,c⟩
 ·exact .inr ⟨a,b⟩
section
variable{l:List av.Prod}{n:Nat}{E R M:List Bool}{F W:List Nat}{w:List Int}
mutual
theorem wz(hC:hJ l E F W R M):∀{t:Tree} {x:bY} {u:Nat},eA l t x u->0<=t.prod->leaves t=0->E.getD x.2.toNat false=true
 | .mk p k kids,x,u,h,hp,h0=>by
  have hp:0<=p:=hp;obtain⟨a1,a2,a3,a4,a5⟩:=pv h hp;rw[leaves,if_neg (by omega)]at h0;rw[<-a3];exact hC.empty _ (ep hp a2) (qy hC a5 h0)
theorem qy(hC:hJ l E F W R M):∀{ks:List Tree} {b:List bY} {u:Nat},bZ l ks b u->cK ks=0->gL E b false=true
 |[],[],_,_,_=>rfl
 | .mk p k kk::r,y::b,u,h,h0=>by
  rw[bZ]at h;rw[cK]at h0;have ih:=qy hC h.2 (by omega);unfold gL at ih⊢;rw[List.all_cons,ih,Bool.and_true];rcases iA h.1 with⟨e1,e2,_⟩|⟨e1,e2⟩
  ·rw[leaves,if_pos (by omega)]at h0;omega
  ·rw[if_neg e1]
   split
   ·exact wz hC h.1 e2 (by omega)
   ·rfl
 |[],_::_,_,h,_=>by simp[bZ]at h
 |_::_,[],_,h,_=>by simp[bZ]at h
end
mutual
theorem CQ(hC:hJ l E F W R M):∀{t:Tree} {x:bY} {u:Nat},eA l t x u->0<=t.prod->M.getD x.2.toNat false=true
 | .mk p k kids,x,u,h,hp=>by
  have hp:0<=p:=hp;obtain⟨a1,a2,a3,a4,a5⟩:=pv h hp;rw[<-a3];exact hC.makes _ (ep hp a2) (sS hC a5)
theorem sS(hC:hJ l E F W R M):∀{ks:List Tree} {b:List bY} {u:Nat},bZ l ks b u->gL M b true=true
 |[],[],_,_=>rfl
 | .mk p k kk::r,y::b,u,h=>by
  rw[bZ]at h;have ih:=sS hC h.2;unfold gL at ih⊢;rw[List.all_cons,ih,Bool.and_true];rcases iA h.1 with⟨e1,e2,_⟩|⟨e1,e2⟩
  ·rw[if_pos e1]
  ·rw[if_neg e1]
   split
   ·exact CQ hC h.1 e2
   ·rfl
 |[],_::_,_,h=>by simp[bZ]at h
 |_::_,[],_,h=>by simp[bZ]at h
end
theorem Jj{a:Nat}{v:Int}{r:List Int}(h:w.drop a=v::r):kK w a=v.toNat:=by
 have h1:(w.drop a)[0]?=some v:=by rw[h];rfl
 rw[List.getElem?_drop]at h1;have h2:=(List.getElem?_eq_some_iff.1 h1).1;unfold kK;rw[if_pos (by simpa using h2),List.getD_eq_getElem?_getD];rw[Nat.add_zero]at h1;rw[h1];rfl
mutual
theorem CR(hC:hJ l E F W R M):∀{t:Tree} {x:bY} {u a:Nat},eA l t x u->0<=t.prod->0<leaves t->(∃r,w.drop a=eO l t++r)->(F.getD x.2.toNat 0).testBit (kK w a)=true
 | .mk p k kids,x,u,a,h,hp,h0,⟨r,hr⟩=>by
  have hp:0<=p:=hp;obtain⟨a1,a2,a3,a4,a5⟩:=pv h hp;rw[leaves,if_neg (by omega)]at h0;rw[<-a3];refine LS (hC.first _ (ep hp a2) (sS hC a5)) ?_;rw[kr]at hr;exact mq hC a5 ⟨r,hr⟩ 0 0 fun h=>by omega
theorem mq(hC:hJ l E F W R M):∀{ks:List Tree} {b:List bY} {u a:Nat},bZ l ks b u->(∃r,w.drop a=fz l ks b++r)->∀(behind out:Nat),(cK ks=0->behind.testBit (kK w a)=true)->(eC E F behind b out).testBit (kK w a)=true
  | [],[],u,a,_,_,behind,out,hb=>by
    unfold eC;rw[Nat.testBit_or,hb (by rw[cK]),Bool.or_true]
  | .mk p k kk::ks,y::b,u,a,h,⟨r,hr⟩,behind,out,hb=>by
    rw[bZ]at h;rw[oe,List.append_assoc]at hr;unfold eC;rcases iA h.1 with⟨e1,e2,e3⟩|⟨e1,e2⟩
    · rw[if_pos e1]
      have hx:fA l (.mk p k kk) y=[y.2]:=by unfold fA;rw[if_pos (by show p<0;omega)]
      rw[hx]at hr;rw[Jj hr,Nat.testBit_or,Nat.testBit_two_pow_self,Bool.or_true]
    · rw[if_neg e1]
      have hx:fA l (.mk p k kk) y=eO l (.mk p k kk):=by unfold fA;rw[if_neg (by show ¬p<0;omega)]
      rw[hx]at hr;have hlen:=pg h.1 e2
      by_cases h0:leaves (.mk p k kk)=0
      · rw[if_pos (wz hC h.1 e2 h0)]
        have hy:eO l (.mk p k kk)=[]:=List.eq_nil_of_length_eq_zero (by omega);rw[hy,List.nil_append]at hr;exact mq hC h.2 ⟨r,hr⟩ behind _ fun h1=>hb (by rw[cK];omega)
      · have hf:=CR hC h.1 e2 (by omega) ⟨_,hr⟩
        split
        · exact tD _ _ (by rw[Nat.testBit_or,hf,Bool.or_true])
        · rw[Nat.testBit_or,hf,Bool.or_true]
  |[],_::_,_,_,h,_,_,_,_=>by simp[bZ]at h
  |_::_,[],_,_,h,_,_,_,_=>by simp[bZ]at h
end
end
section
variable(l:List av.Prod)(E:List Bool)(F W:List Nat)(R M:List Bool)(w:List Int)
mutual
def zf:Tree->Nat->Prop
 | .mk p _ kids,a=>wB kids a/\M.getD (aQ l p).1.toNat false=true/\R.getD (aQ l p).1.toNat false=true/\(W.getD (aQ l p).1.toNat 0).testBit (kK w (a+cK kids))=true/\(if cK kids=0 then E.getD (aQ l p).1.toNat false=true else(F.getD (aQ l p).1.toNat 0).testBit (kK w a)=true)
def wB:List Tree->Nat->Prop
 |[],_=>True
 | .mk p k kk::r,a=>(p<0\/zf (.mk p k kk) a)/\wB r (a+leaves (.mk p k kk))
end
end
section
variable{l:List av.Prod}{n:Nat}{E R M:List Bool}{F W:List Nat}{w:List Int}
mutual
theorem tE(hC:hJ l E F W R M)(hs:fN n l):∀{t:Tree} {x:bY} {u a:Nat},eA l t x u->0<=t.prod->R.getD x.2.toNat false=true->(W.getD x.2.toNat 0).testBit (kK w (a+leaves t))=true->(∃r,w.drop a=eO l t++r)->zf l E F W R M w t a
 | .mk p k kids,x,u,a,h,hp,hR,hW,hr=>by
  have hm:=CQ hC h hp;have he:=fun h0=>wz hC h hp h0;have hf:=fun h0=>CR hC h hp h0 hr;have hp:0<=p:=hp;obtain⟨a1,a2,a3,a4,a5⟩:=pv h hp;rw[leaves,if_neg (by omega)]at hW he hf;rw[kr]at hr;rw[<-a3]at hm hR hW he hf;rw[zf];refine⟨zg hC hs (ep hp a2) [] (by simp) a5 hR hW hr,hm,hR,hW,?_⟩;split
  ·rename_i h0;exact he h0
  ·rename_i h0;exact hf (by omega)
theorem zg(hC:hJ l E F W R M)(hs:fN n l){q:av.Prod}(hq:q∈l):∀{ks:List Tree} {b:List bY} {u a:Nat} (pre:List bY),q.2=pre++b->bZ l ks b u->R.getD q.1.toNat false=true->(W.getD q.1.toNat 0).testBit (kK w (a+cK ks))=true->(∃r,w.drop a=fz l ks b++r)->wB l E F W R M w ks a
  |[],[],_,_,_,_,_,_,_,_=>by rw[wB];trivial
  | .mk p k kk::ks,y::b,u,a,pre,hb,h,hR,hW,⟨r,hr⟩=>by
    rw[bZ]at h;rw[oe,List.append_assoc]at hr;rw[cK]at hW;have hlen:=kI h.1;have l_:w.drop (a+leaves (.mk p k kk))=fz l ks b++r:=by rw[<-List.drop_drop,hr,<-hlen,List.drop_left]
    rw[wB];refine⟨?_,zg hC hs hq (pre++[y]) (by rw[hb];simp) h.2 hR (by rw[Nat.add_assoc];exact hW) ⟨r,l_⟩⟩;rcases iA h.1 with⟨e1,e2,e3⟩|⟨e1,e2⟩
    · exact .inl (by omega)
    · right
      have Xw:y.1=2:=by
        rcases(hs q hq).2.2 y (by rw[hb];simp)with h|h
        · exact absurd h e1
        · exact h.1
      have hx:fA l (.mk p k kk) y=eO l (.mk p k kk):=by unfold fA;rw[if_neg (by show ¬p<0;omega)]
      rw[hx]at hr;refine tE hC hs h.1 e2 (hC.reach q hq y (by rw[hb];simp) Xw hR) (LS (hC.follow q hq pre y b hb Xw) ?_) ⟨_,hr⟩;exact mq hC h.2 ⟨r,l_⟩ _ 0 fun h0=>by rw[h0,Nat.add_zero]at hW;exact hW
  |[],_::_,_,_,_,_,h,_,_,_=>by simp[bZ]at h
  |_::_,[],_,_,_,_,h,_,_,_=>by simp[bZ]at h
end
end
end b9
namespace qz
open av dg dj b9
mutual
inductive x7(l:List av.Prod):bY->List Int->Prop
 |sO {x:bY} (h:x.1=1):x7 l x [x.2]
 |Ob {x:bY} {p:av.Prod} {ws:List Int} (h:x.1≠1) (hp:p∈l) (hx:p.1=x.2) (hd:mu l p.2 ws):x7 l x ws
inductive mu(l:List av.Prod):List bY->List Int->Prop
 |nil:mu l [] []
 |cons {y:bY} {r:List bY} {a b:List Int} (h1:x7 l y a) (h2:mu l r b):mu l (y::r) (a++b)
end
theorem mu.E_{l:List av.Prod}:∀{r r':List bY} {a b:List Int},mu l r a->mu l r' b->mu l (r++r') (a++b)
 |[],_,_,_,.nil,h=>h
 |_::_,_,_,_,.cons h1 h2,h=>by rw[List.append_assoc];exact .cons h1 (mu.E_ h2 h)
theorem LU{l:List av.Prod}{x:bY}{a:List Int}(h:x7 l x a):mu l [x] a:=by
 have:=mu.cons h mu.nil
 rwa [List.append_nil]at this
def cut(w:List Int)(a b:Nat):List Int:=(w.drop a).take (b-a)
theorem pw{w:List Int}{a m b:Nat}(h1:a<=m)(h2:m<=b):cut w a m++cut w m b=cut w a b:=by
 unfold cut;have e3:w.drop m=(w.drop a).drop (m-a):=by rw[List.drop_drop,show a+(m-a)=m by omega]
 rw[e3,show b-a=(m-a)+(b-m)by omega,List.take_add]
theorem wC(w:List Int)(a:Nat):cut w a a=[]:=by unfold cut;simp
theorem AS{w:List Int}{a n:Nat}(h:n=w.length):cut w a n=w.drop a:=by
 unfold cut;rw[List.take_of_length_le (by simp;omega)]
theorem Hq{w:List Int}{a b:Nat}(h1:a<=b)(h2:b<=w.length):(cut w a b).length=b-a:=by
 unfold cut;rw[List.length_take,List.length_drop];omega
theorem CS{l:List av.Prod}{w:List Int}{o:bY->Nat->Nat->Nat}:∀(body:List bY) (a b:Nat),a<=b->(∀y∈body,∀i j,a<=i->i<=j->j<=b->0<o y i j->x7 l y (cut w i j))->0<jP o body a b->mu l body (cut w a b)
 | [],a,b,lF,_,h=>by
  rw[sR _ _ lF,jr]at h;have hE:a=b:=by
   by_cases c:a=b
   ·exact c
   ·rw[if_neg c]at h;omega
  subst hE;rw[wC];exact .nil
 |y::r,a,b,lF,ho,h=>by
  obtain⟨m,m1,m2,m3⟩:=O6 lF h;unfold SP at m3;rw[Bool.and_eq_true,decide_eq_true_iff,decide_eq_true_iff]at m3;rw[<-pw m1 m2];exact .cons (ho y (by simp) a m (Nat.le_refl _) m1 m2 m3.1) (CS r m b m2 (fun z hz i j h1 h2 h3=>ho z (by simp[hz]) i j (by omega) h2 h3) m3.2)
section
variable{w:List Int}{l:List av.Prod}{n:Nat}{c:dE}
open Classical in
theorem AT(hc:CI w l n c)(hs:fN n l){k a b:Nat}(hk:k<n)(lF:a<=b)(hb:b<=w.length)(h:0<c ((k:Int),(a:Int),(b:Int))):x7 l (2,(k:Int)) (cut w a b):=by
  have hp : sQ w l n (fun x=>if x7 l (2,x.1) (cut w x.2.1.toNat x.2.2.toNat)then 2 else 0):=fun q i j hq k_ hj=>by
    dsimp only;rw[Int.toNat_natCast,Int.toNat_natCast]
    by_cases cd:x7 l (2,(q:Int)) (cut w i j)
    · rw[if_pos cd];exact ph _ _ _ _ _
    · rw[if_neg cd]
      apply Nat.le_of_not_lt;intro h0;unfold fD at h0;obtain⟨r,r1,r2,r3⟩:=rC (Nat.lt_min.1 h0).2;have hm:=ep (l:=l) (p:=(r:Int)) (by omega) (by omega);refine cd (.Ob (by show(2:Int)≠1;decide) hm r2 (CS _ i j k_ (fun y hy i' j' h1 h2 h3 h4=>?_) r3));unfold dX at h4
      by_cases e:y.1=2
      · rw[if_pos e]at h4
        dsimp only at h4;rw[Int.toNat_natCast,Int.toNat_natCast]at h4;split at h4
        · rename_i hd
          obtain⟨y1,y2⟩:=y;dsimp only at e hd;subst e;exact hd
        · omega
      · rw[if_neg e]at h4
        split at h4
        · rename_i h5
          obtain⟨h6,h7⟩:=h5;have e1:y.1=1:=((hs _ hm).2.2 y hy).resolve_right fun h=>e h.1;obtain⟨h8,h9⟩:=List.getElem?_eq_some_iff.1 h7;have:cut w i' j'=[y.2]:=by
            unfold cut;rw[h6,show i'+1-i'=1 by omega,List.drop_eq_getElem_cons h8,h9];rfl
          rw[this];exact .sO e1
        · omega
  have:=hc.least _ hp k a b hk lF hb;dsimp only at this;rw[Int.toNat_natCast,Int.toNat_natCast]at this
  by_cases cd:x7 l (2,(k:Int)) (cut w a b)
  · exact cd
  · rw[if_neg cd]at this;omega
theorem Fa(hc:CI w l n c)(hs:fN n l){x:bY}{a b:Nat}(hx:x.1=1\/(x.1=2/\0<=x.2/\x.2<(n:Int)))(lF:a<=b)(hb:b<=w.length)(h:0<dX c w x a b):x7 l x (cut w a b):=by
  unfold dX at h;rcases hx with hx|⟨h2,h3,h4⟩
  · rw[if_neg (by omega)]at h
    split at h
    · rename_i h5
      obtain⟨h6,h7⟩:=h5;obtain⟨h8,h9⟩:=List.getElem?_eq_some_iff.1 h7;have:cut w a b=[x.2]:=by
        unfold cut;rw[h6,show a+1-a=1 by omega,List.drop_eq_getElem_cons h8,h9];rfl
      rw[this];exact .sO hx
    · omega
  · rw[if_pos h2]at h
    obtain⟨x1,x2⟩:=x;dsimp only at*;subst h2;have e:x2=((x2.toNat:Nat):Int):=by omega
    rw[e]at h⊢;exact AT hc hs (by omega) lF hb h
end
section
end
def qA(l:List av.Prod)(s:FS):Prop:=(∀i:Nat,s.E.getD i false=true->x7 l (2,(i:Int)) [])/\∀i:Nat,s.M.getD i false=true->∃ws,x7 l (2,(i:Int)) ws
theorem wD{l:List av.Prod}{E:List Bool}(h:∀i:Nat,E.getD i false=true->x7 l (2,(i:Int)) []):∀(b:List bY),(∀x∈b,x.1=1\/(x.1=2/\0<=x.2))->gL E b false=true->mu l b []
  |[],_,_=> .nil
  | y ::r,hx,ha=>by
    unfold gL at ha;rw[List.all_cons,Bool.and_eq_true]at ha;have ih:=wD h r (fun z hz=>hx z (by simp[hz])) ha.2;rcases hx y (by simp)with c|⟨c1,c2⟩
    · rw[if_pos c]at ha;simp at ha
    · rw[if_neg (by omega),if_pos c1]at ha
      have hd:=h _ ha.1;obtain⟨y1,y2⟩:=y;dsimp only at*;subst c1;rw[Int.toNat_of_nonneg c2]at hd;exact .cons hd ih
theorem wE{l:List av.Prod}{M:List Bool}(h:∀i:Nat,M.getD i false=true->∃ws,x7 l (2,(i:Int)) ws):∀(b:List bY),(∀x∈b,x.1=1\/(x.1=2/\0<=x.2))->gL M b true=true->∃ws,mu l b ws
  |[],_,_=>⟨[],.nil⟩
  | y ::r,hx,ha=>by
    unfold gL at ha;rw[List.all_cons,Bool.and_eq_true]at ha;obtain⟨ws,ih⟩:=wE h r (fun z hz=>hx z (by simp[hz])) ha.2;rcases hx y (by simp)with c|⟨c1,c2⟩
    · exact⟨_,.cons (.sO c) ih⟩
    · rw[if_neg (by omega),if_pos c1]at ha
      obtain⟨us,hd⟩:=h _ ha.1;obtain⟨y1,y2⟩:=y;dsimp only at*;subst c1;rw[Int.toNat_of_nonneg c2]at hd;exact⟨_,.cons hd ih⟩
theorem CT{l:List Bool}{i k:Nat}{b:Bool}(h:(dy l i b).1.getD k false=true):l.getD k false=true\/(k=i/\b=true):=by
 unfold dy at h;split at h
 ·rename_i c
  dsimp only at h;rw[List.getD_eq_getElem?_getD,List.getElem?_set]at h
  by_cases e:i=k
  ·exact .inr ⟨e.symm,c.1⟩
  ·rw[if_neg e,<-List.getD_eq_getElem?_getD]at h
   exact .inl h
 ·exact .inl h
theorem AU{n:Nat}{l:List av.Prod}(hs:fN n l){p:av.Prod}(hp:p∈l){s:FS}(h:qA l s):qA l (gO p s):=by
 obtain⟨s1,s2,s3⟩:=hs p hp;have hx:∀x∈p.2,x.1=1\/(x.1=2/\0<=x.2):=fun x hx=>(s3 x hx).imp id fun h=>⟨h.1,h.2.1⟩;unfold gO;refine⟨fun i hi=>?_,fun i hi=>?_⟩
 ·rcases CT hi with h1|⟨h1,h2⟩
  ·exact h.1 i h1
  ·subst h1
   exact .Ob (by show(2:Int)≠1;decide) hp (by omega) (wD h.1 _ hx h2)
 ·rcases CT hi with h1|⟨h1,h2⟩
  ·exact h.2 i h1
  ·subst h1
   obtain⟨ws,hw⟩:=wE h.2 _ hx h2;exact⟨ws,.Ob (by show(2:Int)≠1;decide) hp (by omega) hw⟩
theorem rJ{n:Nat}{l:List av.Prod}(hs:fN n l):∀(r:List av.Prod),(∀p∈r,p∈l)->∀(s:FS),qA l s->qA l (dl r s)
 |[],_,s,h=>h
 |p::r,hr,s,h=>by
  rw[dl];exact rJ hs r (fun q hq=>hr q (by simp[hq])) _ (AU hs (hr p (by simp)) h)
end qz
end Go.Proofs.YtldiodhdefnlaaaGreat

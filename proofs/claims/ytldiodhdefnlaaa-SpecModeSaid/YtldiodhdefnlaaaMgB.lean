/- Part 2 of what SpecMode needs: Room, Shp, Map, RexS, ClsEq, App, RexC, ClassB, KeyG, SmL, ClsHas, LookOk, MixX, RexSz, GramL, StrK, DfaL, DfaO, Dfa, SmB, MapN, Fam, Sym, SymS, Gram, GramN, TreeL, CountL, CountN, CountT, CountR, TreeW, CountX, FactsL, FactsM, FactsN, FactsP, FactsQ, Der, LlL, ClimbO, DfS, PlacesL, PlacesM, PlacesS, DfaP, SortC, SortI, IntO, IntK, PlU, PlB. -/
import Derived.Test.YtldiodhdefnlaaaMgA
import Derived.WalkKit
import Derived.WalkSpells
import Derived.WalkLawsBesides
import Derived.Deep.RegionLaw
import Derived.Deep.AppendLies
import Derived.Deep.QuietTactic
import Derived.BigQuiet
import Derived.Deep.DeepCutAuto
import Derived.Lib.Hide
import Derived.Test.YtldiodhdefnlaaaRows
import Derived.ProofKit
import Derived.OpenShut
import Derived.ShutString
import Derived.SizedLaws
import Derived.JoinedCond
import Derived.Deep.CondSized
import Derived.Deep.Quiet
import Derived.StillTail
import Derived.Deep.LoopGhost
import Derived.Laws.BitsLemmas
import Derived.Laws.BytesString
import Derived.Test.YtldiodhdefnlaaaProg
import Derived.Laws.Entries
import Derived.Laws.BitsAllLaws
import Derived.Lib.TrailingZeros
import Derived.Laws.StructEq
import Derived.Laws.MakeOwn
import Derived.Laws.AppendOwn
import Derived.Maps.OwnSet
import Derived.DeepKeys4
import Derived.WideKeyEntry
import Derived.ChangeKeysEq
import Derived.Laws.Bits64b
import Derived.StringKeys
import Derived.Lib.SlicesCompact
import Derived.Shelf.Sort.Plain
import Derived.Ground.Names2Prog
import Derived.Shelf.Slices.CompactI
import Derived.Shelf.Slices.In.SortNone
import Derived.Lib.RowBridge
/- Room -/
namespace Go.Proofs.Ytldiodhdefnlaaa.eng
open Go.RowKit kit mix
section
variable {P:Program} {n:Nat} {W:Base} {fr:Fr} {L:List Own} {Q:Exit→Act→World→Prop} {ops:Array Oper} {rest:List Oper} {d:Nat} {dst:Option Tmp} {ty:TypeId} {pos:String} {after:Array Edge} {guard:Option (Nat×Bool)}
theorem TL_makeB {t e:TypeId} {x y:Operand} {c bytes m cap:Nat} {k k':IntKind} {zs:Array Value} [hel:ElC P t e c bytes] [hz0:ZeroC P e zs] (hx:ev fr x=some (.int k (m:Int))) (hy:ev fr y=some (.int k' (cap:Int))) (hmc:m≤cap) (hb:bytes*cap≤281474976710656) (h63:cap≤9223372036854775807) (hn:Nat.blt d n=true)
    (h:∀ g,TL P n W ops Q rest ((d,.slice (some ⟨g,0,none⟩) m cap)::fr) (L++[blkO g (madeCells zs (cap*c)) e])):TL P n W ops Q (⟨some d,.makeSlice t x y,ty,pos,after,none⟩::rest) fr L:=TL_any rfl fun a w hr hm K hK=>by
  obtain⟨i,z,ht,hi,hz,hc,hby,hzc,h0⟩:=hel.el.ex
  obtain⟨i2,z2,hi2,hz2,hz3⟩:=ZeroC.ex (P:=P) (t:=e)
  rw[hi] at hi2
  obtain rfl:i=i2:=Option.some.inj hi2
  rw[hz] at hz2
  obtain rfl:z=z2:=Option.some.inj hz2
  have hb2:(i.bytes:Int)*(cap:Int)≤281474976710656:=by
    rw[hby,←Int.natCast_mul];omega
  have hrun:=run_make (P:=P) w t e i z ht hi hz k k' (m:Int) (cap:Int) (by omega) (by omega) hb2 (by omega)
  rw[Int.toNat_natCast,Int.toNat_natCast,hc,hz3] at hrun
  have e':(execOp a.eval ⟨some d,.makeSlice t x y,ty,pos,after,none⟩).run P w = .ok (.value (.slice (some ⟨w.heap.size,0,none⟩) m cap)) (w.alloc (.cells (madeCells zs (cap*c)) e)):=by
    simp only[execOp,hr.ev hx,hr.ev hy,Sem.run_bind,hrun,Result.andThen_ok,Sem.run_pure]
  unfold Oper.wp;rw[e']
  exact hK _ _ ((h w.heap.size).go _ _ (hr.put hn _) (hm.append (gr_alloc w _) (Owns.one (heap_alloc_new w _) fun k hk=>by simp only[blkO,Option.some.injEq] at hk;omega)))
theorem Mem.toRowN {w:World} {i g m cap size:Nat} {cs:Array Value} {e:TypeId} (h:Mem W L w) (hi:L[i]?=some (blkO g cs e)) (hc:cs.size=cap*size) (hmc:m≤cap) (hcap:cap≤9223372036854775807):Mem W (L.set i (rowO e size (.slice (some ⟨g,0,none⟩) m cap) m (cs.toList.take (m*size)))) w:=
  h.turn hi ⟨rfl,rfl,rfl,Nat.le_refl _,fun _ _ _=>rfl⟩ ⟨by rw[List.length_take,Array.length_toList,hc,Nat.min_eq_left (Nat.mul_le_mul_right _ hmc)],.inr ⟨g,cap,cs,rfl,Nat.zero_le _,h.get hi,hmc,by unfold maxLen;omega,hc,rfl⟩⟩ fun k hk=> .inl hk
theorem TL_toRowN {i g m cap:Nat} {cs:Array Value} {e:TypeId} (size:Nat) (hi:L[i]?=some (blkO g cs e)) (hc:cs.size=cap*size) (hmc:m≤cap) (hcap:cap≤9223372036854775807) (h:TL P n W ops Q rest fr (L.set i (rowO e size (.slice (some ⟨g,0,none⟩) m cap) m (cs.toList.take (m*size))))):TL P n W ops Q rest fr L:=
  ⟨fun a w hr hmm=>h.go a w hr (hmm.toRowN hi hc hmc hcap)⟩
theorem T_toRowN {c:Code} {i g m cap:Nat} {cs:Array Value} {e:TypeId} (size:Nat) (hi:L[i]?=some (blkO g cs e)) (hc:cs.size=cap*size) (hmc:m≤cap) (hcap:cap≤9223372036854775807) (h:T P n W c Q fr (L.set i (rowO e size (.slice (some ⟨g,0,none⟩) m cap) m (cs.toList.take (m*size))))):T P n W c Q fr L:=
  ⟨fun a w hr hmm=>h.go a w hr (hmm.toRowN hi hc hmc hcap)⟩
theorem sl_blk {i g m cap:Nat} {cs:Array Value} {T:TypeId} {xs:List Value} (hi:L[i]?=some (blkO g cs T)) (hx:∀ (j:Nat) (u:Value),xs[j]?=some u→cs[j]?=some u) (hmc:m≤cap) (hcap:cap≤9223372036854775807):SlL W L (.slice (some ⟨g,0,none⟩) m cap) m xs:=fun w hm=>
  ⟨_,cap,rfl,hmc,by unfold maxLen;omega,fun _=>⟨g,0,rfl,fun j u hj=>by
    rw[Nat.zero_add];exact at_blk hi (hx j u hj) w hm⟩⟩
end
theorem madeC {z:Array Value} {k m:Nat} (h:z.size=k) (h0:0<k):madeCells z (m*k)=((List.replicate m z.toList).flatten).toArray:=by
  subst h
  apply Array.ext_getElem?
  intro j
  unfold madeCells
  by_cases hj:j<m*z.size
  · have h2:j / z.size<m:=(Nat.div_lt_iff_lt_mul h0).2 hj
    have h3:=Nat.mod_lt j h0
    have key:∀ (m j:Nat),j<m*z.size→((List.replicate m z.toList).flatten)[j]?=z.toList[j % z.size]?:=by
      intro m
      induction m with
      | zero=>intro j hj;simp at hj
      | succ m ih=>
        intro j hj
        rw[List.replicate_succ,List.flatten_cons]
        by_cases hc:j<z.size
        · rw[List.getElem?_append_left (by simpa using hc),Nat.mod_eq_of_lt hc]
        · rw[List.getElem?_append_right (by simp;omega)]
          simp only[Array.length_toList]
          rw[ih (j - z.size) (by rw[Nat.succ_mul] at hj;omega)]
          congr 1
          exact (Nat.mod_eq_sub_mod (by omega)).symm
    simp only[List.getElem?_toArray,key m j hj]
    simp[hj,h3]
  · have:((List.replicate m z.toList).flatten).length=m*z.size:=by simp
    rw[Array.getElem?_eq_none (by simp;omega),List.getElem?_toArray,List.getElem?_eq_none (by omega)]
theorem foldl_set:∀ (xs:List Value) (acc:Array Value) (off k:Nat),off+k+xs.length≤acc.size→(xs.toArray.zipIdx k).foldl (fun cs (x:Value×Nat)=>cs.setIfInBounds (off+x.2) x.1) acc=(acc.toList.take (off+k)++xs++acc.toList.drop (off+k+xs.length)).toArray
  | [],acc,off,k,_=>by
    have e0:(([]:List Value).toArray.zipIdx k)=#[]:=by apply Array.ext';simp
    rw[e0];simp
  | x :: xs,acc,off,k,h=>by
    simp only[List.length_cons] at h
    have e:(x::xs).toArray.zipIdx k=#[(x,k)]++xs.toArray.zipIdx (k+1):=by
      apply Array.ext'
      simp[List.zipIdx_cons]
    rw[e,Array.foldl_append]
    have e2:(#[(x,k)]:Array (Value×Nat)).foldl (fun cs (x:Value×Nat)=>cs.setIfInBounds (off+x.2) x.1) acc=acc.setIfInBounds (off+k) x:=by simp
    rw[e2,foldl_set xs _ off (k+1) (by simp;omega)]
    congr 1
    have hA:(acc.toList.take (off+k)).length=off+k:=by simp;omega
    have hA1:(acc.toList.take (off+k)++[x]).length=off+k+1:=by rw[List.length_append,hA];rfl
    have e3:acc.toList.set (off+k) x=(acc.toList.take (off+k)++[x])++acc.toList.drop (off+k+1):=by
      rw[List.set_eq_take_append_cons_drop,if_pos (by simp;omega)];simp
    simp only[Array.toList_setIfInBounds,List.length_cons]
    rw[e3,show off+(k+1)=off+k+1 by omega,List.take_left' hA1,←List.drop_drop,List.drop_left' hA1,List.drop_drop]
    simp only[List.append_assoc,List.cons_append,List.nil_append]
    rw[show off+k+1+xs.length=off+k+(xs.length+1) by omega]
theorem fillN {c:Nat} (c0:Nat→Option (Nat×Nat)) (hc0:∀ i,c0 i=some (i*c,c)):∀ (vs:List Value) (k:Nat) (acc:Array Value),(k+vs.length)*c≤acc.size→(∀ v∈vs,v.cells.size=c)→
    Instr.fill c0 acc ((vs.zipIdx k).map fun (v,i)=>(i,v))=some (acc.toList.take (k*c)++vs.flatMap (fun v=>v.cells.toList)++acc.toList.drop ((k+vs.length)*c)).toArray
  | [],k,acc,h,_=>by simp[Instr.fill]
  | v :: vs,k,acc,h,h1=>by
    simp only[List.length_cons] at h
    have hv:=h1 v (by simp)
    have hsz:k*c+c≤acc.size:=by
      have:(k+1)*c≤(k+(vs.length+1))*c:=Nat.mul_le_mul_right _ (by omega)
      rw[Nat.add_mul,Nat.one_mul] at this;omega
    rw[List.zipIdx_cons,List.map_cons]
    simp only[Instr.fill,hc0]
    rw[if_neg (by simp[hv];omega)]
    have hfold:=foldl_set v.cells.toList acc (k*c) 0 (by simp[hv];exact hsz)
    simp only[Array.toArray_toList,Nat.add_zero,Array.length_toList,hv] at hfold
    rw[hfold,fillN c0 hc0 vs (k+1) _ (by simp[hv];rw[Nat.add_mul,Nat.add_mul] at *;omega) (fun u hu=>h1 u (by simp[hu]))]
    congr 2
    have hA:(acc.toList.take (k*c)).length=k*c:=by simp;omega
    have hA1:(acc.toList.take (k*c)++v.cells.toList).length=(k+1)*c:=by rw[List.length_append,hA,Array.length_toList,hv,Nat.add_mul,Nat.one_mul]
    simp only[List.flatMap_cons,List.length_cons]
    rw[List.take_left' hA1]
    have e5:(k+1+vs.length)*c=(k+1)*c+vs.length*c:=Nat.add_mul _ _ _
    rw[e5,←List.drop_drop,List.drop_left' hA1,List.drop_drop]
    simp only[List.append_assoc]
    rw[show k*c+c+vs.length*c=(k+(vs.length+1))*c by rw[Nat.add_mul,Nat.add_mul,Nat.one_mul];omega]
theorem run_litN {P:Program} {t e:TypeId} {c bytes:Nat} (hel:El P t e c bytes) (vs:List Value) (h1:∀ v∈vs,v.cells.size=c) (h0:0<vs.length) (hm:vs.length*c≤16777216) (w:World) :
    (Instr.buildSlice t vs.length (vs.zipIdx.map fun (v,i)=>(i,v)).toArray).run P w = .ok (.slice (some ⟨w.heap.size,0,none⟩) vs.length vs.length) (w.alloc (.cells (vs.flatMap fun v=>v.cells.toList).toArray e)):=by
  obtain⟨i,z,ht,hi,hz,hc,_,hzc,hp⟩:=hel.ex
  have hfill:=fillN (c:=c) (fun i=>some (i*c,c)) (by simp) vs 0 ((Array.range (vs.length*c)).map (z.cells[· % z.cells.size]!)) (by simp) h1
  simp only[Nat.zero_mul,List.take_zero,List.nil_append,Nat.zero_add] at hfill
  rw[List.drop_of_length_le (by simp)] at hfill
  simp only[List.append_nil] at hfill
  have hne:¬ (vs.length*c > 2 ^ 24):=by omega
  have hne2:¬ (vs.length*c=0):=by
    have:=Nat.mul_pos h0 hp;omega
  simp only[Instr.buildSlice,Sem.run_bind,run_underlying ht,Result.andThen_ok,sizeOf,typeInfo,run_program,hi,Sem.run_pure,hc,zeroValue,hz,if_neg hne,if_neg hne2]
  simp only[hfill,newRow]
  simp
section
variable {P:Program} {n:Nat} {W:Base} {fr:Fr} {L:List Own} {Q:Exit→Act→World→Prop} {ops:Array Oper} {rest:List Oper} {d:Nat} {dst:Option Tmp} {ty:TypeId} {pos:String} {after:Array Edge} {guard:Option (Nat×Bool)}
theorem TL_litN {t e:TypeId} {c bytes m:Nat} {parts:Array (Nat×Operand)} {cs:Array Value} (vs:List Value) [hel:ElC P t e c bytes] (hp:partsEv fr parts.toList=some (vs.zipIdx.map fun (v,i)=>(i,v))) (hm:vs.length=m) (h0:Nat.blt 0 m=true) (h1:∀ v∈vs,v.cells.size=c) (hs:Nat.ble (m*c) 16777216=true) (hcs:cs=(vs.flatMap fun v=>v.cells.toList).toArray) (hn:Nat.blt d n=true)
    (h:∀ g,TL P n W ops Q rest ((d,.slice (some ⟨g,0,none⟩) m m)::fr) (L++[blkO g cs e])):TL P n W ops Q (⟨some d,.buildSlice t m parts,ty,pos,after,none⟩::rest) fr L:=by
  subst hm hcs
  refine TL_lit (fun a w hr => ?_) hn h
  have e:(parts.map fun (i,x)=>(i,a.eval x))=(vs.zipIdx.map fun (v,i)=>(i,v)).toArray:=by
    rw[←partsEv_of hr _ _ hp,←Array.toList_map,Array.toArray_toList]
  rw[e]
  exact run_litN hel.el vs h1 (Nat.le_of_ble_eq_true h0) (Nat.le_of_ble_eq_true hs) w
theorem E_end0 {fn:Func} {R:Ending→World→Prop} (hres:fn.results=#[]) (h:∀ w,Mem W L w→R (.returned (.tuple #[])) w):E n W .normal (bodyPost P fn R) fr L:=
  ⟨fun a w hr hm=>⟨hr.defers,.tuple #[],by simp[results,hres],h w hm⟩⟩
end
end Go.Proofs.Ytldiodhdefnlaaa.eng

/- Shp -/
namespace Go.Proofs.Ytldiodhdefnlaaa.eng
open Go.RowKit kit mix
structure Shp (α:Type) where
  c:Nat
  is:(Nat→Prop)→World→List Value→α→Prop
  len:∀ {F w cs a},is F w cs a→cs.length=c
  stay:∀ {F w w' cs a},is F w cs a→(∀ k,F k→w'.heap[k]?=w.heap[k]?)→is F w' cs a
  mono:∀ {F F' w cs a},is F w cs a→(∀ k,F k→F' k)→is F' w cs a
def All:Nat→Prop:=fun _=>True
theorem rd_stay {w w':World} {b off:Nat} {cs:List Value} (h:Rd w b off cs) (hk:w'.heap[b]?=w.heap[b]?):Rd w' b off cs:=fun j u hj=>by
  rw[World.cell?_of_block (w:=w) (a:=⟨b,off+j,none⟩) hk];exact h j u hj
def SlF {α:Type} (s:Shp α) (F:Nat→Prop) (w:World) (v:Value) (l:List α):Prop:=
  ∃ base cap,v = .slice base l.length cap∧l.length≤cap∧cap≤maxLen∧(0<l.length→∃ b off,base=some ⟨b,off,none⟩∧F b∧∀ i (h:i<l.length),∃ cs,s.is F w cs l[i]∧Rd w b (off+i*s.c) cs)
section
variable {α β:Type} {s:Shp α} {F F':Nat→Prop} {w w':World} {v:Value} {l:List α}
theorem SlF.stay (h:SlF s F w v l) (hk:∀ k,F k→w'.heap[k]?=w.heap[k]?):SlF s F w' v l:=
  let ⟨base,cap,h1,h2,h3,h4⟩:=h
  ⟨base,cap,h1,h2,h3,fun h0=>let ⟨b,off,h5,h6,h7⟩:=h4 h0;⟨b,off,h5,h6,fun i hi=>let ⟨cs,h8,h9⟩:=h7 i hi;⟨cs,s.stay h8 hk,rd_stay h9 (hk b h6)⟩⟩⟩
theorem SlF.mono (h:SlF s F w v l) (hk:∀ k,F k→F' k):SlF s F' w v l:=
  let ⟨base,cap,h1,h2,h3,h4⟩:=h
  ⟨base,cap,h1,h2,h3,fun h0=>let ⟨b,off,h5,h6,h7⟩:=h4 h0;⟨b,off,h5,hk b h6,fun i hi=>let ⟨cs,h8,h9⟩:=h7 i hi;⟨cs,s.mono h8 hk,h9⟩⟩⟩
theorem SlF.nil:SlF s F w (.slice none 0 0) []:=⟨none,0,rfl,Nat.le_refl _,by decide,fun h=>by simp at h⟩
def flatS (f:α→List Value) (c:Nat) (hc:∀ a,(f a).length=c) (p:α→Prop):Shp α:=
  ⟨c,fun _ _ cs a=>cs=f a∧p a,fun h=>by rw[h.1,hc],fun h _=>h,fun h _=>h⟩
def intS:Shp Int:=flatS (fun n=>[.int .i64 n]) 1 (fun _=>rfl) kit.okI64
def strS:Shp (List UInt8):=flatS (fun s=>[str s]) 1 (fun _=>rfl) (fun s=>s.length≤9223372036854775807)
def sliceS (s:Shp α):Shp (List α):=
  ⟨1,fun F w cs l=>∃ v,cs=[v]∧SlF s F w v l,fun ⟨_,h,_⟩=>by rw[h];rfl,fun ⟨v,h1,h2⟩ hk=>⟨v,h1,h2.stay hk⟩,fun ⟨v,h1,h2⟩ hk=>⟨v,h1,h2.mono hk⟩⟩
def pairS (s:Shp α) (t:Shp β):Shp (α×β):=
  ⟨s.c+t.c,fun F w cs x=>∃ c1 c2,cs=c1++c2∧s.is F w c1 x.1∧t.is F w c2 x.2,fun ⟨_,_,h,h1,h2⟩=>by rw[h,List.length_append,s.len h1,t.len h2],
    fun ⟨c1,c2,h,h1,h2⟩ hk=>⟨c1,c2,h,s.stay h1 hk,t.stay h2 hk⟩,fun ⟨c1,c2,h,h1,h2⟩ hk=>⟨c1,c2,h,s.mono h1 hk,t.mono h2 hk⟩⟩
theorem SlF.flat {f:α→List Value} {c:Nat} {hc:∀ a,(f a).length=c} {p:α→Prop} (hc0:0<c) (h:SlF (flatS f c hc p) F w v l):Sl w v l.length (l.flatMap f):=by
  obtain⟨base,cap,h1,h2,h3,h4⟩:=h
  have hx:SlX w (fun cs a=>cs=f a) c v l:=⟨base,cap,h1,h2,h3,fun h0=>let ⟨b,off,h5,_,h7⟩:=h4 h0;⟨b,off,h5,fun i hi=>let ⟨cs,h8,h9⟩:=h7 i hi;⟨cs,h8.1,h9⟩⟩⟩
  exact hx.flat hc hc0 fun cs a h=>h
theorem SlF.okp {f:α→List Value} {c:Nat} {hc:∀ a,(f a).length=c} {p:α→Prop} (h:SlF (flatS f c hc p) F w v l):∀ a∈l,p a:=fun a ha=>by
  obtain⟨i,hi,rfl⟩:=List.mem_iff_getElem.1 ha
  obtain⟨base,cap,h1,h2,h3,h4⟩:=h
  obtain⟨b,off,_,_,h7⟩:=h4 (by omega)
  obtain⟨cs,h8,_⟩:=h7 i hi
  exact h8.2
theorem SlF.of_flat {f:α→List Value} {c:Nat} {hc:∀ a,(f a).length=c} {p:α→Prop} (h:Sl w v l.length (l.flatMap f)) (hp:∀ a∈l,p a) (hF:∀ b,v.ownBlock=some b→F b) (hF2:∀ a n cp,v = .slice (some a) n cp→F a.block):SlF (flatS f c hc p) F w v l:=by
  obtain⟨base,cap,h1,h2,h3,h4⟩:=h
  refine⟨base,cap,h1,h2,h3,fun h0 => ?_⟩
  obtain⟨b,off,h5,h6⟩:=h4 h0
  refine⟨b,off,h5,hF2 ⟨b,off,none⟩ l.length cap (by rw[h1,h5]),fun i hi=>⟨f l[i],⟨rfl,hp _ (List.getElem_mem hi)⟩,fun j u hj => ?_⟩⟩
  have hjc:j<c:=by rw[←hc l[i]];exact (List.getElem?_eq_some_iff.1 hj).1
  have:=h6 (i*c+j) u (by rw[get_el hc l i j hi hjc];exact hj)
  rw[Nat.add_assoc]
  exact this
def shpO (s:Shp α) (F:Nat→Prop) (cs:List Value) (a:α):Own:=
  ⟨none,F,fun w=>s.is F w cs a∧∀ k,F k→k<w.heap.size,fun w h k hk=>h.2 k (hk.elim (fun h=>by cases h) id),fun w w' h hs hb=>⟨s.stay h.1 fun k hk=>hb k (.inr hk),fun k hk=>Nat.lt_of_lt_of_le (h.2 k hk) hs⟩⟩
def elsO (s:Shp α) (F:Nat→Prop) (css:List (List Value)) (l:List α):Own:=
  ⟨none,F,fun w=>(css.length=l.length∧∀ i (h:i<l.length) (h':i<css.length),s.is F w css[i] l[i])∧∀ k,F k→k<w.heap.size,fun w h k hk=>h.2 k (hk.elim (fun h=>by cases h) id),
    fun w w' h hs hb=>⟨⟨h.1.1,fun i hi hi'=>s.stay (h.1.2 i hi hi') fun k hk=>hb k (.inr hk)⟩,fun k hk=>Nat.lt_of_lt_of_le (h.2 k hk) hs⟩⟩
end
def Or1 (F:Nat→Prop) (v:Value):Nat→Prop:=fun k=>F k∨v.ownBlock=some k
theorem flatten_get {c:Nat}:∀ (css:List (List Value)) (hc:∀ x∈css,x.length=c) (i j:Nat) (h:i<css.length),j<c→css.flatten[i*c+j]?=css[i][j]?
  | x::r,hc,0,j,h,hj=>by
    rw[List.flatten_cons,List.getElem?_append_left (by rw[hc x (by simp)];omega)];simp
  | x::r,hc,i+1,j,h,hj=>by
    have hx:=hc x (by simp)
    have ih:=flatten_get r (fun y hy=>hc y (by simp[hy])) i j (by simpa using h) hj
    rw[List.flatten_cons,List.getElem?_append_right (by rw[hx,Nat.succ_mul];omega),hx]
    simp only[List.getElem_cons_succ]
    rw[←ih,Nat.succ_mul]
    congr 1;omega
section
variable {α:Type} {s:Shp α} {F:Nat→Prop} {w:World} {v:Value} {l:List α}
theorem slf_of {e:TypeId} {css:List (List Value)} (hr:(rowO e s.c v l.length css.flatten).holds w) (he:(elsO s F css l).holds w) (hc0:0<s.c):SlF s (Or1 F v) w v l:=by
  have hr:w.ownsRow 0 e s.c v l.length css.flatten:=hr
  obtain⟨⟨h1,h2⟩,h3⟩:=he
  have hlen:∀ x∈css,x.length=s.c:=fun x hx=>by
    obtain⟨i,hi,rfl⟩:=List.mem_iff_getElem.1 hx
    exact s.len (h2 i (by omega) hi)
  obtain⟨base,cap,h4,h5,h6,h7⟩:=Sl.of_own hr
  refine⟨base,cap,h4,h5,h6,fun h0 => ?_⟩
  have hb:∃ g,v = .slice (some ⟨g,0,none⟩) l.length cap∧v.ownBlock=some g:=by
    rcases hr.2 with ⟨hv,h0'⟩ | ⟨g,cap',cur,hv,_⟩
    · omega
    · rw[h4] at hv
      simp only[Value.slice.injEq,true_and] at hv
      obtain⟨rfl,rfl⟩:=hv
      exact⟨g,h4,by rw[h4];rfl⟩
  obtain⟨g,hv,hg⟩:=hb
  rw[h4] at hv
  simp only[Value.slice.injEq,and_true] at hv
  subst hv
  obtain⟨b,off,h8,h9⟩:=h7 h0
  simp only[Option.some.injEq,Addr.mk.injEq,and_true] at h8
  obtain⟨rfl,rfl⟩:=h8
  refine⟨g,0,rfl,.inr hg,fun i hi=>⟨css[i]'(by omega),s.mono (h2 i hi (by omega)) fun k hk=> .inl hk,fun j u hj => ?_⟩⟩
  have hjc:j<s.c:=by rw[←hlen (css[i]'(by omega)) (List.getElem_mem _)];exact (List.getElem?_eq_some_iff.1 hj).1
  have:=h9 (i*s.c+j) u (by rw[flatten_get css hlen i j (by omega) hjc];exact hj)
  rw[Nat.add_assoc]
  exact this
theorem slO_lt {e:TypeId} {css:List (List Value)} {n c:Nat} (hr:(rowO e c v n css.flatten).holds w) (he:(elsO s F css l).holds w):∀ k,Or1 F v k→k<w.heap.size:=fun k hk=>hk.elim (he.2 k) fun h=>((rowO e c v n css.flatten).lt w hr k (.inl h))
theorem els_snoc {F2:Nat→Prop} {css:List (List Value)} {cs:List Value} {a:α} (he:(elsO s F css l).holds w) (hs:s.is F2 w cs a) (h2:∀ k,F2 k→k<w.heap.size):(elsO s (fun k=>F k∨F2 k) (css++[cs]) (l++[a])).holds w:=by
  obtain⟨⟨h1,h3⟩,h4⟩:=he
  refine⟨⟨by simp[h1],fun i hi hi' => ?_⟩,fun k hk=>hk.elim (h4 k) (h2 k)⟩
  by_cases c:i<l.length
  · rw[List.getElem_append_left (by omega),List.getElem_append_left c]
    exact s.mono (h3 i c (by omega)) fun k hk=> .inl hk
  · have hi2:i=l.length:=by simp at hi;omega
    subst hi2
    rw[List.getElem_append_right (by omega),List.getElem_append_right (Nat.le_refl _)]
    simp only[h1,Nat.sub_self,List.getElem_cons_zero]
    exact s.mono hs fun k hk=> .inr hk
theorem els_nil:(elsO s (fun _=>False) [] []).holds w:=⟨⟨rfl,fun i h=>by simp at h⟩,fun k h=>h.elim⟩
end
section
variable {P:Program} {n:Nat} {W:Base} {fr:Fr} {L:List Own} {Q:Exit→Act→World→Prop} {ops:Array Oper} {rest:List Oper} {d:Nat}
theorem Mem.merge2 {w:World} (o:Own) (i j:Nat) (js:List Nat) {o1 o2:Own} {R:List Own} (h:Mem W L w) (hn:([i,j]++js).Nodup) (h1:L[i]?=some o1) (h2:L[j]?=some o2) (hR:R=js.filterMap fun i=>L[i]?) (hf:∀ k,o.foot k→o1.foot k∨o2.foot k) (hh:∀ w,o1.holds w→o2.holds w→o.holds w):Mem W (R++[o]) w:=by
  refine Mem.merge o (h.pick ([i,j]++js) hn ?_) hf (hh w)
  rw[List.filterMap_append,←hR]
  congr 1
  rw[List.filterMap_cons_some (by exact h1),List.filterMap_cons_some (by exact h2)];rfl
theorem TL_merge (o:Own) (i j:Nat) (js:List Nat) {o1 o2:Own} {R:List Own} (hn:([i,j]++js).Nodup) (h1:L[i]?=some o1) (h2:L[j]?=some o2) (hR:R=js.filterMap fun i=>L[i]?) (hf:∀ k,o.foot k→o1.foot k∨o2.foot k) (hh:∀ w,o1.holds w→o2.holds w→o.holds w) (h:TL P n W ops Q rest fr (R++[o])):TL P n W ops Q rest fr L:=⟨fun a w hr hm=>h.go a w hr (hm.merge2 o i j js hn h1 h2 hR hf hh)⟩
theorem E_merge {e:Exit} (o:Own) (i j:Nat) (js:List Nat) {o1 o2:Own} {R:List Own} (hn:([i,j]++js).Nodup) (h1:L[i]?=some o1) (h2:L[j]?=some o2) (hR:R=js.filterMap fun i=>L[i]?) (hf:∀ k,o.foot k→o1.foot k∨o2.foot k) (hh:∀ w,o1.holds w→o2.holds w→o.holds w) (h:E n W e Q fr (R++[o])):E n W e Q fr L:=⟨fun a w hr hm=>h.go a w hr (hm.merge2 o i j js hn h1 h2 hR hf hh)⟩
theorem Mem.extra {w:World} (o:Own) (h:Mem W L w) (hf:∀ k,¬ o.foot k) (hh:o.holds w):Mem W (L++[o]) w:=
  h.append (Gr.refl w) (OwnsP.one hh fun k hk=>absurd hk (hf k))
theorem T_extra {c:Code} (o:Own) (hf:∀ k,¬ o.foot k) (hh:∀ w,o.holds w) (h:T P n W c Q fr (L++[o])):T P n W c Q fr L:=⟨fun a w hr hm=>h.go a w hr (hm.extra o hf (hh w))⟩
theorem TL_extra (o:Own) (hf:∀ k,¬ o.foot k) (hh:∀ w,o.holds w) (h:TL P n W ops Q rest fr (L++[o])):TL P n W ops Q rest fr L:=⟨fun a w hr hm=>h.go a w hr (hm.extra o hf (hh w))⟩
theorem E_extra {e:Exit} (o:Own) (hf:∀ k,¬ o.foot k) (hh:∀ w,o.holds w) (h:E n W e Q fr (L++[o])):E n W e Q fr L:=⟨fun a w hr hm=>h.go a w hr (hm.extra o hf (hh w))⟩
theorem TL_setRow {α:Type} {f:α→List Value} {c:Nat} (hc:∀ a,(f a).length=c) {t e:TypeId} {p x:Operand} {i g off cap k m:Nat} {agg:Bool} {l:List α} {a:α} {v:Value} (hT:Ty P t agg c) (hi:L[i]?=some (rowO e c (.slice (some ⟨g,0,none⟩) m cap) m (l.flatMap f))) (hp:ev fr p=some (.pointer (some ⟨g,off,none⟩))) (hoff:off=k*c) (hk:k<l.length) (hm0:m=l.length) (hx:ev fr x=some v) (hv:v.cells=(f a).toArray) (h1:(f a).all Value.oneCell'=true)
    {ty:TypeId} {pos:String} {after:Array Edge}
    (h:TL P n W ops Q rest fr (L.set i (rowO e c (.slice (some ⟨g,0,none⟩) m cap) m ((l.set k a).flatMap f)))) :
    TL P n W ops Q (⟨none,.store t p x,ty,pos,after,none⟩::rest) fr L:=TL_any rfl fun act w hr hm K hK=>by
  subst hoff hm0
  have hown:w.ownsRow 0 e c (.slice (some ⟨g,0,none⟩) l.length cap) l.length (l.flatMap f):=hm.get hi
  have hown':=hown
  rcases hown.2 with ⟨h0,_⟩ | ⟨g',cap',cur,he,hbg,hg,hnc,hcm,hcs,htake⟩
  · cases h0
  simp only[Value.slice.injEq,Option.some.injEq,Addr.mk.injEq,and_true,true_and] at he
  obtain⟨rfl,rfl⟩:=he
  have hfit:k*c+c≤cur.size:=by
    have:(k+1)*c≤cap*c:=Nat.mul_le_mul_right _ (by omega)
    rw[hcs];rw[Nat.add_mul,Nat.one_mul] at this;omega
  have hst:=run_storeCells_at P g (k*c) e (f a) 0 cur w hg (by simp[hc];exact hfit) (List.all_eq_true.1 h1)
  simp only[Nat.add_zero,hc] at hst
  have e':(execOp act.eval ⟨none,.store t p x,ty,pos,after,none⟩).run P w = .ok .skip (w.setRow g (cur.toList.take (k*c)++f a++cur.toList.drop (k*c+c)).toArray):=by
    simp[execOp,hr.ev hp,hr.ev hx,Instr.storeAt,Instr.sureAddr,storeVar,hT.size,hv,hst,hc]
  unfold Oper.wp;rw[e']
  refine hK _ _ (h.go _ _ (hr.put_none undef) (hm.turn hi ⟨rfl,rfl,rfl,by simp,fun k _ hk=>setRow_other w g k _ (fun e=>hk (by subst e;rfl))⟩ ?_ fun k hk=> .inl hk))
  have hlen:=len_el hc l
  refine⟨by rw[len_el hc];simp,.inr ⟨g,cap,_,rfl,hbg,setRow_heap w g cur _ e _ hg,hnc,hcm,by simp[hc];omega,?_⟩⟩
  have e1:(l.set k a).flatMap f=(l.flatMap f).take (k*c)++f a++(l.flatMap f).drop (k*c+c):=by
    have hl1:((l.take k).flatMap f).length=k*c:=by rw[len_el hc,List.length_take,Nat.min_eq_left (by omega)]
    have hl2:((l.take (k+1)).flatMap f).length=k*c+c:=by rw[len_el hc,List.length_take,Nat.min_eq_left (by omega),Nat.add_mul,Nat.one_mul]
    have t1:(l.flatMap f).take (k*c)=(l.take k).flatMap f:=by
      rw[←hl1]
      conv=>lhs;rw[←List.take_append_drop k l,List.flatMap_append]
      simp
    have t2:(l.flatMap f).drop (k*c+c)=(l.drop (k+1)).flatMap f:=by
      rw[←hl2]
      conv=>lhs;rw[←List.take_append_drop (k+1) l,List.flatMap_append]
      simp
    rw[t1,t2,List.set_eq_take_append_cons_drop,if_pos hk]
    simp
  rw[e1,←htake]
  have hkl:k*c+c≤l.length*c:=by
    have:(k+1)*c≤l.length*c:=Nat.mul_le_mul_right _ (by omega)
    rw[Nat.add_mul,Nat.one_mul] at this;exact this
  simp only[List.take_take,List.take_append,List.length_append,hc,List.length_take,Array.length_toList]
  rw[Nat.min_eq_left (by omega:k*c≤cur.size),Nat.min_eq_right (by omega:k*c≤l.length*c),Nat.min_eq_left (by omega:k*c≤l.length*c)]
  rw[List.take_of_length_le (by rw[hc];omega:(f a).length≤l.length*c - k*c)]
  congr 1
  rw[List.drop_take]
theorem TL_know {i:Nat} {o:Own} {φ:Prop} (hi:L[i]?=some o) (hφ:∀ w,o.holds w→φ) (h:φ→TL P n W ops Q rest fr L):TL P n W ops Q rest fr L:=⟨fun a w hr hm=>(h (hφ w (hm.get hi))).go a w hr hm⟩
theorem T_know {c:Code} {i:Nat} {o:Own} {φ:Prop} (hi:L[i]?=some o) (hφ:∀ w,o.holds w→φ) (h:φ→T P n W c Q fr L):T P n W c Q fr L:=⟨fun a w hr hm=>(h (hφ w (hm.get hi))).go a w hr hm⟩
end
end Go.Proofs.Ytldiodhdefnlaaa.eng

/- Map -/
namespace Go.Proofs.Ytldiodhdefnlaaa.eng
open Go.RowKit kit mix
open Go.WideMaps (KeyLaw)
def heldR (v:Value):Option (DataW Value×List MemPlace):=some (.held v,[])
structure KeyT (P:Program) (k:TypeId) (κ:Type) where
  kv:κ→Value
  ok:κ→Prop
  law:KeyLaw P k
  key:∀ x,ok x→∃ l,keyOf P k (kv x)=some l
  inj:∀ x y,kv x=kv y→x=y
section
variable {P:Program} {k:TypeId} {κ:Type}
theorem KeyT.keyed (K:KeyT P k κ):Maps.Keyed P k:=Maps.Keyed.of_law K.law
variable (K:KeyT P k κ)
def MapIs (D:DataW Value) (m:κ→Option Value) (n:Nat):Prop:=
  Maps.size D=n∧∀ x l,K.ok x→keyOf P k (K.kv x)=some l→match m x with | some v=>Maps.has D l=true∧(∀ z,D.atKey l z = .held v) | none=>Maps.has D l=false
def mapO (g:Nat) (m:κ→Option Value) (n:Nat):Own:=
  ⟨some g,fun _=>False,fun w=>∃ D,w.ownsMap P k heldR g n D∧MapIs K D m n,fun w ⟨D,h,_⟩ q hq=>by simp only[Option.some.injEq,or_false] at hq;subst hq;exact h.lt,
    fun w w' ⟨D,⟨es,clock,hb,h⟩,h2⟩ _ hk=>⟨D,⟨es,clock,(hk g (.inl rfl)).trans hb,h⟩,h2⟩⟩
theorem map_tight {w:World} {R:Value→Option (DataW Value×List MemPlace)} {b n:Nat} {D:DataW Value} (h:w.ownsMap P k R b n D):w.ownsMap P k R b (Maps.size D) D:=by
  obtain⟨es,clock,hb,F,hs,rfl⟩:=h
  exact⟨es,clock,hb,F,by simp[Maps.size,length_sorted],rfl⟩
theorem mapIs_nil:MapIs K (.map []) (fun _=>none) 0:=⟨rfl,fun _ _ _ _=>rfl⟩
theorem mapIs_put [DecidableEq κ] {w:World} {g n:Nat} {D:DataW Value} {m:κ→Option Value} (ho:w.ownsMap P k heldR g n D) (h:MapIs K D m n) {x:κ} {l:Lit} (hx:K.ok x) (hl:keyOf P k (K.kv x)=some l) (v:Value) :
    MapIs K (D.put l (.held v)) (fun y=>if y=x then some v else m y) (if (m x).isSome then n else n+1):=by
  have hk:=K.keyed.key hl
  have ht:=ho.tidy K.keyed
  refine⟨?_,fun y l' hy hl' => ?_⟩
  · have h2:=h.2 x l hx hl
    rw[Maps.size_put ht]
    cases e:m x with
    | none=>rw[e] at h2;rw[h2];simp[h.1]
    | some u=>rw[e] at h2;rw[h2.1];simp[h.1]
  · by_cases e:y=x
    · subst e
      rw[hl] at hl'
      simp only[Option.some.injEq] at hl';subst hl'
      simp only[if_true]
      exact⟨Maps.has_put_same ht.isMap hk _,fun z=>Maps.atKey_put_same ht.isMap hk _ _⟩
    · have hne:l'≠l:=fun e'=>e (K.inj _ _ (K.keyed.inj (by rw[←e'];exact hl') hl))
      simp only[if_neg e]
      have h2:=h.2 y l' hy hl'
      rw[Maps.has_put_other hne]
      cases e2:m y with
      | none=>rw[e2] at h2;exact h2
      | some u=>rw[e2] at h2;exact⟨h2.1,fun z=>by rw[Maps.atKey_put_other hne];exact h2.2 z⟩
theorem look_of {D:DataW Value} {m:κ→Option Value} {n:Nat} (h:MapIs K D m n) {x:κ} {l:Lit} (hx:K.ok x) (hl:keyOf P k (K.kv x)=some l) (z:Value):D.atKey l (.held z) = .held ((m x).getD z)∧Maps.has D l=(m x).isSome:=by
  have h2:=h.2 x l hx hl
  cases e:m x with
  | none=>rw[e] at h2;exact⟨Maps.atKey_of_not_has h2 _,h2⟩
  | some u=>rw[e] at h2;exact⟨h2.2 _,h2.1⟩
section
variable {W:Base} {fr:Fr} {L:List Own} {Q:Exit→Act→World→Prop} {ops:Array Oper} {rest:List Oper} {n d:Nat} {dst:Option Tmp} {ty:TypeId} {pos:String} {after:Array Edge} {guard:Option (Nat×Bool)} {i g c:Nat} {t e:TypeId} {m:κ→Option Value} {x:κ} {z:Value} {xm xk xv:Operand}
theorem rr_look (ht:P.underlying t=some (.map k e)) (hz:∀ w,(zeroValue e).run P w = .ok z w) (hi:L[i]?=some (mapO K g m c)) (hm:ev fr xm=some (.map (some g))) (hk:ev fr xk=some (K.kv x)) (hx:K.ok x):RR P n W ⟨dst,.lookup t xm xk false,ty,pos,after,guard⟩ fr L ((m x).getD z):= .mk fun a w hr hw=>by
  obtain⟨D,ho,h⟩:=hw.get hi
  obtain⟨l,hl⟩:=K.key x hx
  obtain⟨v,ps,hrun,hv⟩:=ho.lookup K.keyed ht (hz w) (zd:= .held z) (zp:=[]) rfl hl
  have h2:=(look_of K h hx hl z).1
  simp only[heldR,Option.some.injEq,Prod.mk.injEq] at hv
  rw[h2] at hv
  have hv1:v=(m x).getD z:=by simpa using hv.1
  subst hv1
  simp[execOp,hr.ev hm,hr.ev hk,hrun,Result.andThen]
theorem rr_lookOk (ht:P.underlying t=some (.map k e)) (hz:∀ w,(zeroValue e).run P w = .ok z w) (hi:L[i]?=some (mapO K g m c)) (hm:ev fr xm=some (.map (some g))) (hk:ev fr xk=some (K.kv x)) (hx:K.ok x):RR P n W ⟨dst,.lookup t xm xk true,ty,pos,after,guard⟩ fr L (.tuple #[(m x).getD z,.bool (m x).isSome]):= .mk fun a w hr hw=>by
  obtain⟨D,ho,h⟩:=hw.get hi
  obtain⟨l,hl⟩:=K.key x hx
  obtain⟨v,ps,hrun,hv⟩:=ho.look_ok K.keyed ht (hz w) (zd:= .held z) (zp:=[]) rfl hl
  have h2:=look_of K h hx hl z
  simp only[heldR,Option.some.injEq,Prod.mk.injEq] at hv
  rw[h2.1] at hv
  rw[h2.2] at hrun
  have hv1:v=(m x).getD z:=by simpa using hv.1
  subst hv1
  simp[execOp,hr.ev hm,hr.ev hk,hrun,Result.andThen]
theorem rr_maplen (ht:P.underlying t=some (.map k e)) (hi:L[i]?=some (mapO K g m c)) (hm:ev fr xm=some (.map (some g))):RR P n W ⟨dst,.call { callee:= .builtin .len,args:=#[xm],argTypes:=#[t] },ty,pos,after,guard⟩ fr L (.int .i64 c):= .mk fun a w hr hw=>by
  obtain⟨D,ho,h⟩:=hw.get hi
  have hrun:=ho.len ht ty
  rw[h.1] at hrun
  simp[BigFrame.execOp_builtin,BigFrame.builtin_len,hr.ev hm,hrun]
theorem TL_map (hn:Nat.blt d n=true) (h:∀ g,TL P n W ops Q rest ((d,.map (some g))::fr) (L++[mapO K g (fun _=>none) 0])) :
    TL P n W ops Q (⟨some d,.makeMap t none,ty,pos,after,none⟩::rest) fr L:=TL_any rfl fun a w hr hm KK hK=>by
  have e1:(execOp a.eval ⟨some d,.makeMap t none,ty,pos,after,none⟩).run P w = .ok (.value (.map (some w.heap.size))) (w.alloc (.map #[] 0)):=by
    simp[execOp,run_makeMap,Result.andThen]
  unfold Oper.wp;rw[e1]
  exact hK _ _ ((h w.heap.size).go _ _ (hr.put hn _) (hm.append (gr_alloc w _) (Owns.one ⟨.map [],World.ownsMap_made w P k heldR,mapIs_nil K⟩ fun q hq=>by simp only[mapO,Option.some.injEq] at hq;omega)))
theorem map_put [DecidableEq κ] {w:World} (ht:P.underlying t=some (.map k e)) (h:(mapO K g m c).holds w) (hx:K.ok x) (hc:c≤1152921504606846976) (v:Value) :
    ∃ w',(Instr.mapUpdate t (.map (some g)) (K.kv x) v).run P w = .ok () w'∧(mapO K g (fun y=>if y=x then some v else m y) (if (m x).isSome then c else c+1)).holds w'∧w.grownBy w' (some g):=by
  obtain⟨D,ho,h⟩:=h
  obtain⟨l,hl⟩:=K.key x hx
  obtain⟨w',hrun,ho',hg⟩:=ho.update K.keyed ht (by unfold maxLen;omega) (val:=v) (d:= .held v) (ps:=[]) hl rfl
  have hp:=mapIs_put K ho h hx hl v
  exact⟨w',hrun,⟨_,by have:=map_tight ho';rwa [hp.1] at this,hp⟩,hg⟩
theorem TL_mapSet [DecidableEq κ] {v:Value} (ht:P.underlying t=some (.map k e)) (hi:L[i]?=some (mapO K g m c)) (hm:ev fr xm=some (.map (some g))) (hk:ev fr xk=some (K.kv x)) (hv:ev fr xv=some v) (hx:K.ok x) (hc:c≤1152921504606846976)
    (h:TL P n W ops Q rest fr (L.set i (mapO K g (fun y=>if y=x then some v else m y) (if (m x).isSome then c else c+1)))) :
    TL P n W ops Q (⟨none,.mapUpdate t xm xk xv,ty,pos,after,none⟩::rest) fr L:=TL_any rfl fun a w hr hw KK hK=>by
  obtain⟨w',hrun,ho',hg⟩:=map_put K ht (hw.get hi) hx hc v
  have e1:(execOp a.eval ⟨none,.mapUpdate t xm xk xv,ty,pos,after,none⟩).run P w = .ok .skip w':=by
    simp[execOp,hr.ev hm,hr.ev hk,hr.ev hv,hrun,Result.andThen]
  unfold Oper.wp;rw[e1]
  exact hK _ _ (h.go _ _ (hr.put_none undef) (hw.turn hi hg ho' fun q hq=> .inl hq))
end
def mapT (g:Nat) (z:Value) (f:κ→Value) (b:Nat):Own:=
  ⟨some g,fun _=>False,fun w=>∃ m n,n≤b∧(mapO K g m n).holds w∧∀ x,K.ok x→(m x).getD z=f x,fun w ⟨m,n,_,h,_⟩ q hq=>(mapO K g m n).lt w h q hq,
    fun w w' ⟨m,n,h1,h,h2⟩ hs hk=>⟨m,n,h1,(mapO K g m n).stay w w' h hs hk,h2⟩⟩
section
variable {W:Base} {fr:Fr} {L:List Own} {Q:Exit→Act→World→Prop} {ops:Array Oper} {rest:List Oper} {n d:Nat} {dst:Option Tmp} {ty:TypeId} {pos:String} {after:Array Edge} {guard:Option (Nat×Bool)} {i g b:Nat} {t e:TypeId} {f f':κ→Value} {x:κ} {z v:Value} {xm xk xv:Operand}
theorem run_lookT {w:World} (ht:P.underlying t=some (.map k e)) (hz:∀ w,(zeroValue e).run P w = .ok z w) (h:(mapT K g z f b).holds w) (hx:K.ok x):(Instr.lookup t (.map (some g)) (K.kv x) false).run P w = .ok (f x) w:=by
  obtain⟨m,n,_,⟨D,ho,hi⟩,hf⟩:=h
  obtain⟨l,hl⟩:=K.key x hx
  obtain⟨v,ps,hrun,hv⟩:=ho.lookup K.keyed ht (hz w) (zd:= .held z) (zp:=[]) rfl hl
  have h2:=(look_of K hi hx hl z).1
  simp only[heldR,Option.some.injEq,Prod.mk.injEq] at hv
  rw[h2,hf x hx] at hv
  have hv1:v=f x:=by simpa using hv.1
  rw[←hv1];exact hrun
theorem rr_lookM (ht:P.underlying t=some (.map k e)) (hz:∀ w,(zeroValue e).run P w = .ok z w) (hh:∀ w,Mem W L w→(mapT K g z f b).holds w) (hm:ev fr xm=some (.map (some g))) (hk:ev fr xk=some (K.kv x)) (hx:K.ok x) (hv:f x=v):RR P n W ⟨dst,.lookup t xm xk false,ty,pos,after,guard⟩ fr L v:= .mk fun a w hr hw=>by
  subst hv
  have hrun:=run_lookT K ht hz (hh w hw) hx
  simp[execOp,hr.ev hm,hr.ev hk,hrun,Result.andThen]
theorem rr_lookT (ht:P.underlying t=some (.map k e)) (hz:∀ w,(zeroValue e).run P w = .ok z w) (hi:L[i]?=some (mapT K g z f b)) (hm:ev fr xm=some (.map (some g))) (hk:ev fr xk=some (K.kv x)) (hx:K.ok x) (hv:f x=v):RR P n W ⟨dst,.lookup t xm xk false,ty,pos,after,guard⟩ fr L v:=
  rr_lookM K ht hz (fun _ hw=>hw.get hi) hm hk hx hv
theorem TL_mapT (hn:Nat.blt d n=true) (h:∀ g,TL P n W ops Q rest ((d,.map (some g))::fr) (L++[mapT K g z (fun _=>z) 0])) :
    TL P n W ops Q (⟨some d,.makeMap t none,ty,pos,after,none⟩::rest) fr L:=TL_any rfl fun a w hr hm KK hK=>by
  have e1:(execOp a.eval ⟨some d,.makeMap t none,ty,pos,after,none⟩).run P w = .ok (.value (.map (some w.heap.size))) (w.alloc (.map #[] 0)):=by
    simp[execOp,run_makeMap,Result.andThen]
  unfold Oper.wp;rw[e1]
  exact hK _ _ ((h w.heap.size).go _ _ (hr.put hn _) (hm.append (gr_alloc w _) (Owns.one ⟨fun _=>none,0,Nat.le_refl _,⟨.map [],World.ownsMap_made w P k heldR,mapIs_nil K⟩,fun _ _=>rfl⟩ fun q hq=>by simp only[mapT,Option.some.injEq] at hq;omega)))
theorem mapT_put [DecidableEq κ] {w:World} (ht:P.underlying t=some (.map k e)) (h:(mapT K g z f b).holds w) (hx:K.ok x) (hc:b≤1152921504606846976) (hf:∀ y,K.ok y→f' y=if y=x then v else f y) :
    ∃ w',(Instr.mapUpdate t (.map (some g)) (K.kv x) v).run P w = .ok () w'∧(mapT K g z f' (b+1)).holds w'∧w.grownBy w' (some g):=by
  obtain⟨m,n,h1,h2,h3⟩:=h
  obtain⟨w',hrun,ho,hg⟩:=map_put K ht h2 hx (by omega) v
  refine⟨w',hrun,⟨_,_,?_,ho,fun y hy => ?_⟩,hg⟩
  · split <;> omega
  · rw[hf y hy]
    by_cases e:y=x
    · simp[e]
    · simp only[if_neg e];exact h3 y hy
end
end
end Go.Proofs.Ytldiodhdefnlaaa.eng
namespace Go.Proofs.Ytldiodhdefnlaaa.eng
open Go.RowKit kit mix
theorem rr_nilc {P:Program} {n:Nat} {W:Base} {fr:Fr} {L:List Own} {dst:Option Tmp} {ty:TypeId} {pos:String} {after:Array Edge} {guard:Option (Nat×Bool)} {x:Operand} {a:Addr} (hx:ev fr x=some (.pointer (some a))):RR P n W ⟨dst,.nilCheck x,ty,pos,after,guard⟩ fr L (.pointer (some a)):= .mk fun act w hr _=>by
  simp[execOp,hr.ev hx]
end Go.Proofs.Ytldiodhdefnlaaa.eng
namespace Go.Proofs.Ytldiodhdefnlaaa.eng
open Go.RowKit kit mix
section
variable {P:Program} {n:Nat} {W:Base} {fr:Fr} {L:List Own} {Q:Exit→Act→World→Prop} {ops:Array Oper} {rest:List Oper} {d:Nat} {ty:TypeId} {pos:String} {after:Array Edge}
theorem TL_makeRow {t e:TypeId} {x y:Operand} {bytes m:Nat} {k k':IntKind} {z:Value} [ElC P t e 1 bytes] [ZeroC P e #[z]] (hx:ev fr x=some (.int k (m:Int))) (hy:ev fr y=some (.int k' (m:Int))) (hb:bytes*m≤281474976710656) (h63:m≤9223372036854775807) (hn:Nat.blt d n=true)
    (h:∀ g,TL P n W ops Q rest ((d,.slice (some ⟨g,0,none⟩) m m)::fr) (L++[rowO e 1 (.slice (some ⟨g,0,none⟩) m m) m (List.replicate m z)])):TL P n W ops Q (⟨some d,.makeSlice t x y,ty,pos,after,none⟩::rest) fr L:=
  TL_makeB hx hy (Nat.le_refl _) hb h63 hn fun g=>TL_toRowN (i:=L.length) 1 (List.getElem?_concat_length ..) (by rw[size_madeCells]) (Nat.le_refl _) h63 (by
    have e1:(madeCells #[z] (m*1)).toList.take (m*1)=List.replicate m z:=by
      rw[made1,Nat.mul_one,List.take_of_length_le (by simp)]
    rw[e1,List.set_append_right _ _ (Nat.le_refl _),Nat.sub_self]
    exact h g)
end
end Go.Proofs.Ytldiodhdefnlaaa.eng
namespace Go.Proofs.Ytldiodhdefnlaaa.eng
open Go.RowKit kit mix
section
end
theorem mapT_weak {P:Program} {k:TypeId} {κ:Type} {K:KeyT P k κ} {g b b':Nat} {z:Value} {f f':κ→Value} (hb:b≤b') (hf:∀ x,K.ok x→f' x=f x) (w:World) (h:(mapT K g z f b).holds w):(mapT K g z f' b').holds w:=by
  obtain⟨m,n,h1,h2,h3⟩:=h
  exact⟨m,n,by omega,h2,fun x hx=>by rw[hf x hx];exact h3 x hx⟩
end Go.Proofs.Ytldiodhdefnlaaa.eng
namespace Go.Proofs.Ytldiodhdefnlaaa.eng
open Go.RowKit kit mix
section
variable {P:Program} {n:Nat} {W:Base} {fr:Fr} {L:List Own} {Q:Exit→Act→World→Prop} {ops:Array Oper} {rest:List Oper}
theorem Mem.reown {w:World} {i:Nat} {o:Own} (o':Own) (h:Mem W L w) (hi:L[i]?=some o) (hh:∀ w,o.holds w→o'.holds w) (hf:∀ k,o'.foot k→o.foot k):Mem W (L.set i o') w:=by
  have hlen:i<L.length:=(List.getElem?_eq_some_iff.1 hi).1
  have hoi:=h.owns.all i o hi
  refine⟨h.low,fun j q hj => ?_,fun j j' q q' hij hj hj' k hk hk' => ?_⟩
  · by_cases e:i=j
    · subst e
      rw[List.getElem?_set_self hlen] at hj
      simp only[Option.some.injEq] at hj;subst hj
      exact⟨hh w hoi.1,fun k hk=>hoi.2 k (hf k hk)⟩
    · rw[List.getElem?_set_ne e] at hj
      exact h.owns.all j q hj
  · by_cases e:i=j
    · subst e
      rw[List.getElem?_set_self hlen] at hj
      rw[List.getElem?_set_ne hij] at hj'
      simp only[Option.some.injEq] at hj;subst hj
      exact h.owns.apart i j' o q' hij hi hj' k (hf k hk) hk'
    · rw[List.getElem?_set_ne e] at hj
      by_cases e':i=j'
      · subst e'
        rw[List.getElem?_set_self hlen] at hj'
        simp only[Option.some.injEq] at hj';subst hj'
        exact h.owns.apart j i q o hij hj hi k hk (hf k hk')
      · rw[List.getElem?_set_ne e'] at hj'
        exact h.owns.apart j j' q q' hij hj hj' k hk hk'
theorem T_reown {c:Code} {i:Nat} {o:Own} (o':Own) (hi:L[i]?=some o) (hh:∀ w,o.holds w→o'.holds w) (hf:∀ k,o'.foot k→o.foot k) (h:T P n W c Q fr (L.set i o')):T P n W c Q fr L:= .mk fun a w hr hm=>h.go a w hr (hm.reown o' hi hh hf)
theorem E_reown {e:Exit} {i:Nat} {o:Own} (o':Own) (hi:L[i]?=some o) (hh:∀ w,o.holds w→o'.holds w) (hf:∀ k,o'.foot k→o.foot k) (h:E n W e Q fr (L.set i o')):E n W e Q fr L:= .mk fun a w hr hm=>h.go a w hr (hm.reown o' hi hh hf)
end
end Go.Proofs.Ytldiodhdefnlaaa.eng

/- RexS -/
namespace Go.Proofs.Ytldiodhdefnlaaa.eng
open Go.RowKit kit mix classL rexL
inductive RexIs (F:Nat→Prop) (w:World):List Value→Rx→Prop
  | mk {k:Int} {c:C4} {kids:List Rx} {base:Option Addr} {cap:Nat} (css:List (List Value)):kit.okI64 k→kids.length≤cap→cap≤maxLen→css.length=kids.length→
    (∀ i (h:i<kids.length) (h':i<css.length),RexIs F w css[i] kids[i])→(0<kids.length→∃ b off,base=some ⟨b,off,none⟩∧F b∧∀ i (_:i<kids.length) (h':i<css.length),Rd w b (off+i*6) css[i])→
    RexIs F w (.int .i64 k::(clsL c++[.slice base kids.length cap])) (.mk k c kids)
theorem RexIs.len6 {F:Nat→Prop} {w:World} {cs:List Value} {t:Rx} (h:RexIs F w cs t):cs.length=6:=by
  cases h;rfl
theorem RexIs.stayed {F:Nat→Prop} {w w':World} {cs:List Value} {t:Rx} (h:RexIs F w cs t) (hk:∀ k,F k→w'.heap[k]?=w.heap[k]?):RexIs F w' cs t:=by
  induction h with
  | mk css h2 h3 h4 h5 h6 h7 ih=>
    refine .mk css h2 h3 h4 h5 ih fun hl => ?_
    obtain⟨b,off,e,hF,hr⟩:=h7 hl
    exact⟨b,off,e,hF,fun i hi hi'=>rd_stay (hr i hi hi') (hk b hF)⟩
theorem RexIs.mono {F F':Nat→Prop} {w:World} {cs:List Value} {t:Rx} (h:RexIs F w cs t) (hk:∀ k,F k→F' k):RexIs F' w cs t:=by
  induction h with
  | mk css h2 h3 h4 h5 h6 h7 ih=>
    refine .mk css h2 h3 h4 h5 ih fun hl => ?_
    obtain⟨b,off,e,hF,hr⟩:=h7 hl
    exact⟨b,off,e,hk b hF,hr⟩
def rexS:Shp Rx:=⟨6,RexIs,fun h=>h.len6,fun h hk=>h.stayed hk,fun h hk=>h.mono hk⟩
def rexC (k:Int) (c:C4) (v:Value):List Value:= .int .i64 k::(clsL c++[v])
def rexV (k:Int) (c:C4) (v:Value):Value:= .agg (rexC k c v).toArray
theorem rex_iff {F:Nat→Prop} {w:World} {cs:List Value} {k:Int} {c:C4} {kids:List Rx}:RexIs F w cs (.mk k c kids)↔∃ v,cs=rexC k c v∧kit.okI64 k∧SlF rexS F w v kids:=by
  constructor
  · intro h
    cases h with
    | mk css h2 h3 h4 h5 h6 h7=>
      refine⟨_,rfl,h2,_,_,rfl,h3,h4,fun hl => ?_⟩
      obtain⟨b,off,e,hF,hr⟩:=h7 hl
      exact⟨b,off,e,hF,fun i hi=>⟨css[i]'(by omega),h6 i hi (by omega),hr i hi (by omega)⟩⟩
  · rintro⟨v,rfl,h2,base,cap,rfl,h3,h4,h5⟩
    by_cases hl:0<kids.length
    · obtain⟨b,off,e,hF,hr⟩:=h5 hl
      have hlen:(List.ofFn fun i:Fin kids.length=>Classical.choose (hr i i.2)).length=kids.length:=by simp
      refine .mk (List.ofFn fun i:Fin kids.length=>Classical.choose (hr i i.2)) h2 h3 h4 hlen (fun i hi hi' => ?_) fun _=>⟨b,off,e,hF,fun i hi hi' => ?_⟩
      · rw[List.getElem_ofFn];exact (Classical.choose_spec (hr i hi)).1
      · rw[List.getElem_ofFn];exact (Classical.choose_spec (hr i hi)).2
    · have:kids=[]:=List.eq_nil_of_length_eq_zero (by omega)
      subst this
      exact .mk [] h2 h3 h4 rfl (fun i hi=>absurd hi (by simp)) fun h=>absurd h (by simp)
def RexR (F:Nat→Prop) (w:World) (v:Value) (r:Rx):Prop:=∃ vk,v=rexV r.kind r.cls vk∧kit.okI64 r.kind∧SlF rexS F w vk r.kids
theorem RexR.stay {F:Nat→Prop} {w w':World} {v:Value} {r:Rx} (h:RexR F w v r) (hk:∀ k,F k→w'.heap[k]?=w.heap[k]?):RexR F w' v r:=
  let ⟨vk,h1,h2,h3⟩:=h;⟨vk,h1,h2,h3.stay hk⟩
theorem RexR.mono {F F':Nat→Prop} {w:World} {v:Value} {r:Rx} (h:RexR F w v r) (hk:∀ k,F k→F' k):RexR F' w v r:=
  let ⟨vk,h1,h2,h3⟩:=h;⟨vk,h1,h2,h3.mono hk⟩
def Low (w:World):Nat→Prop:=fun k=>k<w.heap.size
theorem RexR.gr {w w':World} {v:Value} {r:Rx} (h:RexR (Low w) w v r) (hg:Gr w w'):RexR (Low w') w' v r:=
  (h.stay fun k hk=>hg.block k hk).mono fun k hk=>Nat.lt_of_lt_of_le hk hg.size
theorem RexR.is {F:Nat→Prop} {w:World} {v:Value} {r:Rx} (h:RexR F w v r):∃ cs,v = .agg cs.toArray∧RexIs F w cs r:=by
  obtain⟨k,c,kids⟩:=r
  obtain⟨vk,rfl,h1,h2⟩:=h
  exact⟨_,rfl,rex_iff.2 ⟨vk,rfl,h1,h2⟩⟩
theorem RexIs.r {F:Nat→Prop} {w:World} {cs:List Value} {r:Rx} (h:RexIs F w cs r):RexR F w (.agg cs.toArray) r:=by
  obtain⟨k,c,kids⟩:=r
  obtain⟨vk,rfl,h1,h2⟩:=rex_iff.1 h
  exact⟨vk,rfl,h1,h2⟩
theorem rkid_at {F:Nat→Prop} {w:World} {b off:Nat} {l:List Rx} (h:∀ i (h:i<l.length),∃ cs,rexS.is F w cs l[i]∧Rd w b (off+i*rexS.c) cs) {k:Nat} (hk:k<l.length) :
    ∃ base cap,Rd w b (off+k*6) (rexC l[k].kind l[k].cls (.slice base l[k].kids.length cap))∧RexR F w (rexV l[k].kind l[k].cls (.slice base l[k].kids.length cap)) l[k]:=by
  obtain⟨cs,h1,hr⟩:=h k hk
  have h1:RexIs F w cs l[k]:=h1
  generalize l[k]=r at *
  obtain⟨kd,c,kids⟩:=r
  obtain⟨vk,rfl,a1,a2⟩:=rex_iff.1 h1
  have a2':=a2
  obtain⟨base,cap,rfl,_⟩:=a2'
  exact⟨base,cap,hr,_,rfl,a1,a2⟩
def kidsK (r:Re) (k:Nat):List (Re×Nat):=match r with
  | .cat a b=>[(a,k+1),(b,k+1+a.size)]
  | .alt a b=>[(a,k+1),(b,k+1+a.size)]
  | .star a=>[(a,k+1)]
  | _=>[]
inductive NumIs (F:Nat→Prop) (w:World):List Value→Re×Nat→Prop
  | mk {r:Re} {k:Nat} {vk:Value} {base:Option Addr} {cap:Nat} (css:List (List Value)):vk.oneCell'=true→(kidsK r k).length≤cap→cap≤maxLen→css.length=(kidsK r k).length→
    (∀ i (h:i<(kidsK r k).length) (h':i<css.length),NumIs F w css[i] (kidsK r k)[i])→(0<(kidsK r k).length→∃ b off,base=some ⟨b,off,none⟩∧F b∧∀ i (_:i<(kidsK r k).length) (h':i<css.length),Rd w b (off+i*8) css[i])→
    NumIs F w (.int .i64 r.kind::(clsL r.cls++[vk,.int .i64 (k:Int),.slice base (kidsK r k).length cap])) (r,k)
theorem NumIs.stayed {F:Nat→Prop} {w w':World} {cs:List Value} {t:Re×Nat} (h:NumIs F w cs t) (hk:∀ k,F k→w'.heap[k]?=w.heap[k]?):NumIs F w' cs t:=by
  induction h with
  | mk css h2 h3 h4 h5 h6 h7 ih=>
    refine .mk css h2 h3 h4 h5 ih fun hl => ?_
    obtain⟨b,off,e,hF,hr⟩:=h7 hl
    exact⟨b,off,e,hF,fun i hi hi'=>rd_stay (hr i hi hi') (hk b hF)⟩
theorem NumIs.mono {F F':Nat→Prop} {w:World} {cs:List Value} {t:Re×Nat} (h:NumIs F w cs t) (hk:∀ k,F k→F' k):NumIs F' w cs t:=by
  induction h with
  | mk css h2 h3 h4 h5 h6 h7 ih=>
    refine .mk css h2 h3 h4 h5 ih fun hl => ?_
    obtain⟨b,off,e,hF,hr⟩:=h7 hl
    exact⟨b,off,e,hk b hF,hr⟩
section
variable {P:Program} {n:Nat} {W:Base} {fr:Fr} {L:List Own} {Q:Exit→Act→World→Prop} {ops:Array Oper} {rest:List Oper}
theorem Mem.reownAt {w:World} {i:Nat} {o:Own} (o':Own) (h:Mem W L w) (hi:L[i]?=some o) (hh:o'.holds w) (hf:∀ k,o'.foot k→o.foot k):Mem W (L.set i o') w:=by
  have hlen:i<L.length:=(List.getElem?_eq_some_iff.1 hi).1
  have hoi:=h.owns.all i o hi
  refine⟨h.low,fun j q hj => ?_,fun j j' q q' hij hj hj' k hk hk' => ?_⟩
  · by_cases e:i=j
    · subst e
      rw[List.getElem?_set_self hlen] at hj
      simp only[Option.some.injEq] at hj;subst hj
      exact⟨hh,fun k hk=>hoi.2 k (hf k hk)⟩
    · rw[List.getElem?_set_ne e] at hj
      exact h.owns.all j q hj
  · by_cases e:i=j
    · subst e
      rw[List.getElem?_set_self hlen] at hj
      rw[List.getElem?_set_ne hij] at hj'
      simp only[Option.some.injEq] at hj;subst hj
      exact h.owns.apart i j' o q' hij hi hj' k (hf k hk) hk'
    · rw[List.getElem?_set_ne e] at hj
      by_cases e':i=j'
      · subst e'
        rw[List.getElem?_set_self hlen] at hj'
        simp only[Option.some.injEq] at hj';subst hj'
        exact h.owns.apart j i q o hij hj hi k hk (hf k hk')
      · rw[List.getElem?_set_ne e'] at hj'
        exact h.owns.apart j j' q q' hij hj hj' k hk hk'
end
end Go.Proofs.Ytldiodhdefnlaaa.eng

/- ClsEq -/
namespace Go.Proofs.Ytldiodhdefnlaaa.classSets
open Go.RowKit kit mix classL eng
set_option maxRecDepth 100000 in
theorem eq_cls (x y:C4) (w:World):(Op.equalIn 10000 83 (.agg #[v64 x.a,v64 x.b,v64 x.c,v64 x.d]) (.agg #[v64 y.a,v64 y.b,v64 y.c,v64 y.d])).run Try.prog w = .ok (decide (x=y)) w:=by
  have e:(Op.equalIn 10000 83 (.agg #[v64 x.a,v64 x.b,v64 x.c,v64 x.d]) (.agg #[v64 y.a,v64 y.b,v64 y.c,v64 y.d])).run Try.prog w = .ok ((n64 x.a == n64 y.a) && ((n64 x.b == n64 y.b) && ((n64 x.c == n64 y.c) && (n64 x.d == n64 y.d)))) w:=by
    unfold v64
    rw[run_equalIn_array (P:=Try.prog) w 9999 (n:=4) (e:= 64) _ _ rfl rfl]
    have h1:Try.prog.cellsOf 64 = 1:=rfl
    simp[Op.eqItems,go_sem,List.range_succ_eq_map,h1]
    by_cases e1:n64 x.a=n64 y.a <;> by_cases e2:n64 x.b=n64 y.b <;> by_cases e3:n64 x.c=n64 y.c <;> by_cases e4:n64 x.d=n64 y.d <;> simp[e1,e2,e3,e4]
  rw[e]
  congr 1
  by_cases h:x=y
  · subst h;simp
  · rw[decide_eq_false h]
    simp only[n64_eq,Bool.and_eq_false_iff]
    by_cases h1:x.a=y.a
    · by_cases h2:x.b=y.b
      · by_cases h3:x.c=y.c
        · by_cases h4:x.d=y.d
          · exact absurd (C4.ext' h1 h2 h3 h4) h
          · simp[h4]
        · simp[h3]
      · simp[h2]
    · simp[h1]
end Go.Proofs.Ytldiodhdefnlaaa.classSets

/- App -/
namespace Go.Proofs.Ytldiodhdefnlaaa.eng
open Go.RowKit kit mix
section
variable {P:Program} {n:Nat} {W:Base} {fr:Fr} {L:List Own} {Q:Exit→Act→World→Prop} {ops:Array Oper} {rest:List Oper} {d:Nat} {dst:Option Tmp} {ty:TypeId} {pos:String} {after:Array Edge} {guard:Option (Nat×Bool)}
def gA (G:Option Nat):Option Addr:=G.map fun g=>⟨g,0,none⟩
theorem row_form {w:World} {e:TypeId} {size m:Nat} {v:Value} {xs:List Value} (h:(rowO e size v m xs).holds w):∃ G cap,v = .slice (gA G) m cap∧m≤cap∧cap≤maxLen∧(G=none→cap=0):=by
  have h:w.ownsRow 0 e size v m xs:=h
  rcases h.2 with ⟨hv,h0⟩ | ⟨g,cap,cur,hv,_,_,h1,h2,_⟩
  · exact⟨none,0,by rw[hv,h0];rfl,by omega,by decide,fun _=>rfl⟩
  · exact⟨some g,cap,hv,h1,h2,fun h=>by cases h⟩
theorem T_rowG {c:Code} {i size m:Nat} {e:TypeId} {v:Value} {xs:List Value} (hi:L[i]?=some (rowO e size v m xs)) (h:∀ G cap,v = .slice (gA G) m cap→m≤cap→cap≤9223372036854775807→(G=none→cap=0)→T P n W c Q fr L):T P n W c Q fr L:= .mk fun a w hr hm=>by
  obtain⟨G,cap,h1,h2,h3,h4⟩:=row_form (hm.get hi)
  exact (h G cap h1 h2 h3 h4).go a w hr hm
theorem T_rowN {c:Code} {i size m:Nat} {e:TypeId} {v:Value} {xs:List Value} (hi:L[i]?=some (rowO e size v m xs)) (h0:0<m) (h:∀ g cap,v = .slice (some ⟨g,0,none⟩) m cap→m≤cap→cap≤9223372036854775807→T P n W c Q fr L):T P n W c Q fr L:=by
  refine T_rowG hi fun G cap hv h1 h2 h3 => ?_
  cases G with
  | none=>have:=h3 rfl;omega
  | some g=>exact h g cap hv h1 h2
end
end Go.Proofs.Ytldiodhdefnlaaa.eng

/- RexC -/
namespace Go.Proofs.Ytldiodhdefnlaaa.eng
open Go.RowKit kit mix classL rexL
theorem rkids_calls (k:Int) (w:World):Calls Try.prog 66 #[.int .i64 k] w (Meets (ret (.int .i64 (kidsN k))) w):=by
  unfold kidsN
  refine enter (args:=[.int .i64 k]) (n:=13) Try.func66 rfl rfl rfl ?_
  by_cases k1:k=1
  · rw[if_pos k1]
    try refine GA ?_
    exact E_ret1 rfl rfl fun w hm=>hm.ret
  rw[if_neg k1]
  by_cases k2:k=2
  · rw[if_pos k2]
    try refine GA ?_
    exact E_ret1 rfl rfl fun w hm=>hm.ret
  rw[if_neg k2]
  by_cases k3:k=3
  · rw[if_pos k3]
    try refine GA ?_
    exact E_ret1 rfl rfl fun w hm=>hm.ret
  rw[if_neg k3]
  by_cases k6:k=6
  · rw[if_pos k6]
    try refine GA ?_
    exact E_ret1 rfl rfl fun w hm=>hm.ret
  rw[if_neg k6]
  by_cases k4:k=4
  · rw[if_pos k4]
    try refine GA ?_
    exact E_ret1 rfl rfl fun w hm=>hm.ret
  rw[if_neg k4]
  by_cases k5:k=5
  · rw[if_pos k5]
    try refine GA ?_
    exact E_ret1 rfl rfl fun w hm=>hm.ret
  rw[if_neg k5]
  try refine GA ?_
  exact E_ret1 rfl rfl fun w hm=>hm.ret
theorem chk_le {r:Rx} {deep n:Nat} (h:(chk r deep n).1=0):(chk r deep n).2≤100:=by
  obtain⟨e,_,h1,h2⟩:=chk_fit _ r deep n (chk r deep n).2 (Nat.le_refl _) (Prod.ext h rfl)
  have:=h1.sz
  omega
theorem build_cz (w:World):(Instr.build 83 (#[]:Array (Nat×Value))).run Try.prog w = .ok (clsV C4.zero) w:=by kernel_rfl
theorem eqCls (x y:C4) (w:World):(Op.equalIn 10000 83 (clsV x) (clsV y)).run Try.prog w = .ok (decide (x=y)) w:=classSets.eq_cls x y w
theorem at_oldR {W0:World} {W:Base} {L:List Own} {b off:Nat} {cs:List Value} (ho:Old W0 W) (h:Rd W0 b off cs) (j:Nat) (v:Value) (hj:cs[j]?=some v):At W L ⟨b,off+j,none⟩ v:=at_old0 ho (h j v hj)
theorem rex_cls {k:Int} {c:C4} {vk:Value} {j:Nat} {v:Value} (h:(clsL c)[j]?=some v):(rexC k c vk).toArray[0+1+j]?=some v:=by
  have hj:j<(clsL c).length:=(List.getElem?_eq_some_iff.1 h).1
  rw[List.getElem?_toArray,show 0+1+j=j+1 by omega]
  show (clsL c++[vk])[j]?=_
  rw[List.getElem?_append_left hj];exact h
set_option maxRecDepth 100000 in
set_option maxHeartbeats 16000000 in
theorem check_calls (w0:World) (gn:Nat):∀ (N:Nat) (r:Rx),sizeX r≤N→∀ (v:Value) (deep n:Nat) (w:World) (B:Base),RexR (Low w0) w0 v r→n≤100→deep≤31→Old w0 B→Mem B [blkO gn #[.int .i64 (n:Int)] 3] w→
    Calls Try.prog 51 #[v,.int .i64 (deep:Int),.pointer (some ⟨gn,0,none⟩)] w (MeetsB ⟨fun (_:Unit)=>True,fun _=> .int .i64 (chk r deep n).1,fun _=>[blkO gn #[.int .i64 ((chk r deep n).2:Int)] 3]⟩ B)
  | 0,r,h,_,_,_,_,_,_,_,_,_,_=>by have:=sizeX_pos r;omega
  | N + 1,.mk k c kids,hN,v,deep,n,w,B,hv,hn,hd,ho,hm=>by
    have IH:=check_calls w0 gn N
    obtain⟨vk,rfl,hk64,hks⟩:=hv
    dsimp only[Rx.kind,Rx.cls,Rx.kids] at hk64 hks ⊢
    obtain⟨bk,ck,rfl,hck,hmk,hrk⟩:=hks
    unfold maxLen at hmk
    rw[chk]
    rw[sizeX] at hN
    have hkc:=fun w=>rkids_calls k w
    have heq:=eqCls c C4.zero
    have hcz:=build_cz
    refine enterB hm (args:=[rexV k c (.slice bk kids.length ck),.int .i64 (deep:Int),.pointer (some ⟨gn,0,none⟩)]) (n:=55) Try.func51 rfl rfl rfl ?_
    clear hm
    refine T_seq (T_region (TL_box rfl rfl rfl fun g3 => ?_))
    conv=>arg 8;simp only[zA,zB,zC,zD,zE,zF,zG,zH,zI,rowS,ret,id_eq]
    repeat(first|refine GC ?_|refine gV (rr_load1 TyC.ty rfl (at_blk (i:=0) rfl rfl)) ?_|refine gV (rr_add64 (r:=((n+1:Nat):Int)) rfl rfl (by omega) (by omega) (by omega)) ?_|refine GB ?_)
    refine TL_store1 (i:=0) rfl rfl rfl rfl rfl rfl ?_
    rw[show (#[.int .i64 (n:Int)]:Array Value).setIfInBounds 0 (.int .i64 ((n+1:Nat):Int))=#[.int .i64 ((n+1:Nat):Int)] from rfl]
    conv=>arg 8;simp only[zA,zB,zC,zD,zE,zF,zG,zH,zI,rowS,ret,id_eq]
    by_cases c1:100<n+1
    · rw[if_pos c1]
      repeat(first|refine GA ?_|refine gV (rr_load1 TyC.ty rfl (at_blk (i:=0) rfl rfl)) ?_)
      exact E_ret1 rfl rfl fun w hm=>hm.meetsB (S:=⟨fun (_:Unit)=>True,fun _=> .int .i64 2,fun _=>[blkO gn #[.int .i64 ((n+1:Nat):Int)] 3]⟩) () trivial [0] (by decide) rfl
    rw[if_neg c1]
    by_cases c2:30<deep
    · rw[if_pos c2]
      repeat(first|refine GA ?_|refine gV (rr_load1 TyC.ty rfl (at_blk (i:=0) rfl rfl)) ?_)
      exact E_ret1 rfl rfl fun w hm=>hm.meetsB (S:=⟨fun (_:Unit)=>True,fun _=> .int .i64 7,fun _=>[blkO gn #[.int .i64 ((n+1:Nat):Int)] 3]⟩) () trivial [0] (by decide) rfl
    rw[if_neg c2]
    repeat(first|refine GA ?_|refine gV (rr_load1 TyC.ty rfl (at_blk (i:=0) rfl rfl)) ?_)
    by_cases c3:kidsN k≠(kids.length:Int)
    · rw[if_pos c3]
      (repeat refine T_seq ?_)
      refine T_ord ([blkO g3 (rexC k c (.slice bk kids.length ck)).toArray 85]) (.calm 0 (.calm 1 (.calm 2 (.calm 3 (.calm 4 (.calm 5 (.calm 6 (.calm 7 (.done))))))))) (sub_pick [1] (by decide) rfl) (by kernel_rfl) (by kernel_rfl) (by intro c a d v w h;cases d <;> exact h) ?_
      repeat(first|refine GW ?_|(refine GN ?_;first|refine QW (rr_load1 TyC.ty rfl (at_blk (i:=0) rfl rfl)) ?_))
      refine TW_call rfl (he1 EntersC.en rfl rfl) (fun w hm=>hkc _) rfl rfl rfl ?_
      repeat(first|(refine GN ?_;first|refine QW QP ?_|refine QW (rr_load1 TyC.ty rfl (at_blk (i:=0) rfl rfl)) ?_|refine QW (rr_neq (b:=true) rfl rfl (decide_eq_true c3)) ?_|refine GX ?_)|refine GW ?_)
      try refine GA ?_
      exact E_ret1 rfl rfl fun w hm=>hm.meetsB (S:=⟨fun (_:Unit)=>True,fun _=> .int .i64 1,fun _=>[blkO gn #[.int .i64 ((n+1:Nat):Int)] 3]⟩) () trivial [0] (by decide) rfl
    rw[if_neg c3]
    have c3':kidsN k=(kids.length:Int):=by simpa using c3
    rw[c3'] at hkc
    (repeat refine T_seq ?_)
    refine T_ord ([blkO g3 (rexC k c (.slice bk kids.length ck)).toArray 85]) (.calm 0 (.calm 1 (.calm 2 (.calm 3 (.calm 4 (.calm 5 (.calm 6 (.calm 7 (.done))))))))) (sub_pick [1] (by decide) rfl) (by kernel_rfl) (by kernel_rfl) (by intro c a d v w h;cases d <;> exact h) ?_
    repeat(first|refine GW ?_|(refine GN ?_;first|refine QW (rr_load1 TyC.ty rfl (at_blk (i:=0) rfl rfl)) ?_))
    refine TW_call rfl (he1 EntersC.en rfl rfl) (fun w hm=>hkc _) rfl rfl rfl ?_
    repeat(first|(refine GN ?_;first|refine QW QP ?_|refine QW (rr_load1 TyC.ty rfl (at_blk (i:=0) rfl rfl)) ?_|refine QW (rr_neq (b:=false) rfl rfl (decide_eq_false (fun h=>h rfl))) ?_|refine GX ?_)|refine GW ?_)
    try refine GA ?_
    generalize hD:(decide (k=3) != decide (c≠C4.zero))=D
    have hD':(!(decide (k=3) == !decide (c=C4.zero)))=D:=by
      rw[←hD,decide_not]
      cases decide (k=3) <;> cases decide (c=C4.zero) <;> rfl
    (repeat refine T_seq ?_)
    refine T_ord ([blkO g3 (rexC k c (.slice bk kids.length ck)).toArray 85]) (.calm 0 (.calm 1 (.calm 2 (.calm 3 (.calm 4 (.calm 5 (.calm 6 (.calm 7 (.calm 8 (.done)))))))))) (sub_pick [1] (by decide) rfl) (by kernel_rfl) (by kernel_rfl) (by intro c a d v w h;cases d <;> exact h) ?_
    repeat(first|(refine GN ?_;first|refine QW QP ?_|refine QW (rr_load1 TyC.ty rfl (at_blk (i:=0) rfl rfl)) ?_|refine QW (rr_eql (b:=decide (k=3)) rfl rfl rfl) ?_|refine QW (rr_loadN (cs:=clsL c) TyC.ty rfl rfl (fun j v hj=>at_blk (i:=0) rfl (rex_cls hj))) ?_|refine QW (rr_build rfl hcz) ?_|refine QW (rr_aggne rfl rfl (by kernel_rfl) heq rfl) ?_|refine QW (rr_boolne (c:=D) Und.eq rfl rfl hD') ?_|refine GX ?_)|refine GW ?_)
    clear hD hD' heq hcz hkc
    cases D with
    | true=>
      rw[if_pos rfl]
      try refine GA ?_
      exact E_ret1 rfl rfl fun w hm=>hm.meetsB (S:=⟨fun (_:Unit)=>True,fun _=> .int .i64 1,fun _=>[blkO gn #[.int .i64 ((n+1:Nat):Int)] 3]⟩) () trivial [0] (by decide) rfl
    | false=>
      rw[if_neg (by decide)]
      repeat(first|refine GA ?_|refine gV (rr_load1 TyC.ty rfl (at_blk (i:=1) rfl rfl)) ?_)
      refine T_pick [0] (by decide) rfl ?_
      refine T_loop (ι:=Nat×Nat) (fun (j,q)=>j≤kids.length∧q≤100∧chks kids (deep+1) (n+1)=chks (kids.drop j) (deep+1) q) (fun (j,_)=>[(1,.int .i64 (deep:Int)),(2,.pointer (some ⟨gn,0,none⟩)),(40,.slice bk kids.length ck),(41,.int .i64 (kids.length:Int)),(42,.int .i64 (j:Int))])
        (fun (_,q)=>[blkO gn #[.int .i64 (q:Int)] 3]) (fun (j,_)=>kids.length - j) (0,n+1) ⟨Nat.zero_le _,by omega,rfl⟩ (by repeat' (first | exact True.intro | refine And.intro rfl ?_)) rfl ?_
      rintro⟨j,q⟩ ⟨hj,hq,hk⟩
      dsimp only at hj hq hk ⊢
      rw[hk]
      by_cases c4:j<kids.length
      · obtain⟨b,off,rfl,_,hr⟩:=hrk (by omega)
        obtain⟨bj,cj,hrd,hkr⟩:=rkid_at hr c4
        have hd':kids.drop j=kids[j]::kids.drop (j+1):=List.drop_eq_getElem_cons c4
        rw[hd',chks] at hk ⊢
        have hsz:=sizesX_mem (List.getElem_mem c4)
        have hle:=fun h=>chk_le (r:=kids[j]'c4) (deep:=deep+1) (n:=q) h
        have hat:=fun (L:List Own) j v hj=>at_oldR (L:=L) ho hrd j v hj
        generalize kids[j]=r at *
        generalize r.kids.length=m at *
        repeat(first|refine GA ?_|refine gV (rr_idxc (j:=j) Und.eq TyC.ty rfl rfl c4) ?_|refine gV (rr_loadN TyC.ty rfl rfl (hat _)) ?_)
        refine TL_new rfl fun g8 => ?_
        conv=>arg 8;simp only[zA,zB,zC,zD,zE,zF,zG,zH,zI,rowS,ret,id_eq]
        refine TL_storeB (i:=1) (cs':=(rexC r.kind r.cls (.slice bj m cj)).toArray) rfl rfl rfl rfl rfl rfl ?_
        conv=>arg 8;simp only[zA,zB,zC,zD,zE,zF,zG,zH,zI,rowS,ret,id_eq]
        repeat(first|refine GC ?_|refine gV (rr_loadB (i:=1) TyC.ty rfl rfl rfl) ?_|refine gV (rr_add64 (r:=((deep+1:Nat):Int)) rfl rfl (by omega) (by omega) (by omega)) ?_|refine GB ?_)
        refine TL_callB [0] [1] (by decide) rfl rfl (he3 EntersC.en rfl rfl rfl rfl) (fun w hm hb=>IH r (by omega) _ (deep+1) q w _ hkr hq (by omega) (ho.on hm (by intro o ho;simp at ho ⊢;simp[ho])) hb) rfl rfl rfl ?_
        intro _ _
        dsimp only
        conv=>arg 8;simp only[zA,zB,zC,zD,zE,zF,zG,zH,zI,rowS,ret,id_eq]
        by_cases e1:(chk r (deep+1) q).1=0
        · rw[if_neg (by simpa using e1)]
          rw[if_neg (by simpa using e1)] at hk
          have hq':=hle e1
          rw[e1]
          generalize (chk r (deep+1) q).2=q' at *
          try refine GA ?_
          refine E_pick [1] (by decide) rfl ?_
          exact E_round (j+1,q') ⟨by show j+1≤kids.length;omega,hq',rfl⟩ (by show kids.length - (j+1)<kids.length - j;omega) (by repeat' (first | exact True.intro | refine And.intro rfl ?_)) rfl
        · rw[if_pos e1]
          generalize chk r (deep+1) q=z at *
          repeat(first|refine GC ?_|refine gV (rr_neq (b:=true) rfl rfl (decide_eq_true e1)) ?_|refine GB ?_)
          exact E_ret1 rfl rfl fun w hm=>hm.meetsB (S:=⟨fun (_:Unit)=>True,fun _=> .int .i64 z.1,fun _=>[blkO gn #[.int .i64 (z.2:Int)] 3]⟩) () trivial [1] (by decide) rfl
      · obtain rfl:j=kids.length:=by omega
        rw[List.drop_length,chks] at hk ⊢
        try refine GA ?_
        exact E_ret1 rfl rfl fun w hm=>hm.meetsB (S:=⟨fun (_:Unit)=>True,fun _=> .int .i64 0,fun _=>[blkO gn #[.int .i64 (q:Int)] 3]⟩) () trivial [0] (by decide) rfl
def chkX (r:Rx):Int:=(chk r 1 0).1
set_option maxHeartbeats 4000000 in
theorem rexCheck_calls (v:Value) (r:Rx) (w:World) (hv:RexR (Low w) w v r):Calls Try.prog 35 #[v] w (Meets (ret (.int .i64 (chkX r))) w):=by
  have hc:=fun gn w' B ho hm=>check_calls w gn _ r (Nat.le_refl _) v 1 0 w' B hv (by omega) (by omega) ho hm
  obtain⟨vk,rfl,_,hs⟩:=hv
  obtain⟨bk,ck,rfl,-⟩:=hs
  generalize r.kids.length=m at *
  refine enter (args:=[rexV r.kind r.cls (.slice bk m ck)]) (n:=6) Try.func35 rfl rfl rfl ?_
  refine T_seq (T_region (TL_box rfl rfl rfl fun g1 => ?_))
  try refine GA ?_
  refine TL_new rfl fun g3 => ?_
  conv=>arg 8;simp only[zA,zB,zC,zD,zE,zF,zG,zH,zI,rowS,ret,id_eq]
  refine TL_store1 (i:=1) rfl rfl rfl rfl rfl rfl ?_
  conv=>arg 8;simp only[zA,zB,zC,zD,zE,zF,zG,zH,zI,rowS,ret,id_eq]
  repeat(first|refine GA ?_|refine gV (rr_loadB (i:=0) TyC.ty rfl rfl rfl) ?_)
  refine TL_callB [1] [0] (by decide) rfl rfl (he3 EntersC.en rfl rfl rfl rfl) (fun w hm hb=>hc g3 w _ ((Old.self _).on hm (by intro o ho;simp at ho ⊢;simp[ho])) hb) rfl rfl rfl ?_
  intro _ _
  dsimp only
  unfold chkX
  try refine GA ?_
  exact E_ret1 rfl rfl fun w hm=>hm.ret
end Go.Proofs.Ytldiodhdefnlaaa.eng

/- ClassB -/
namespace Go.Proofs.Ytldiodhdefnlaaa
open Go.RowKit kit mix classL
attribute [local go_sem] and64 or64 xor64 not64
theorem gr_alloc (w:World) (o:Obj):Below w.heap.size w (w.alloc o):=(Below.refl _ _).alloc (Nat.le_refl _) _
end Go.Proofs.Ytldiodhdefnlaaa

/- KeyG -/
namespace Go.Proofs.Ytldiodhdefnlaaa.eng
open Go.RowKit kit mix
theorem mapM_some {α β:Type} {f:α→Option β}:∀ {l:List α},(∀ x∈l,∃ y,f x=some y)→∃ ys,l.mapM f=some ys
  | [],_=>⟨[],by simp⟩
  | a::l,h=>by
    obtain⟨y,hy⟩:=h a (by simp)
    obtain⟨ys,hys⟩:=mapM_some (l:=l) fun x hx=>h x (by simp[hx])
    exact⟨y::ys,by simp[List.mapM_cons,hy,hys]⟩
section
variable {P:Program}
def KL (P:Program) (d:Nat) (t:TypeId) (cs:List Value):Prop:=∃ ls,P.keyLits d t cs=some ls
theorem kl_int {d:Nat} {t:TypeId} {q:IntKind} {n:Int} (ht:P.underlying t=some (.int q)) (h0:q.min≤n) (h1:n≤q.max):KL P (d+1) t [.int q n]:=by
  refine⟨[.int q n],?_⟩
  have hw:(Lit.int q n).wf=true:=by simp[Lit.wf,h0,h1]
  simp[Program.keyLits,ht,hw]
theorem kl_arr {d n:Nat} {t e:TypeId} {cs:List Value} (ht:P.underlying t=some (.array n e)) (hl:cs.length=P.cellsOf t) (h:∀ i,i<n→KL P d e ((cs.drop (i*P.cellsOf e)).take (P.cellsOf e))):KL P (d+1) t cs:=by
  obtain⟨ys,hy⟩:=mapM_some (f:=fun i=>P.keyLits d e ((cs.drop (i*P.cellsOf e)).take (P.cellsOf e))) (l:=List.range n) fun i hi=>h i (List.mem_range.1 hi)
  refine⟨ys.flatten,?_⟩
  unfold Program.keyLits
  simp only[ht]
  rw[if_pos hl,hy];rfl
theorem kl_struct {d:Nat} {t:TypeId} {fs:Array Field} {cs:List Value} (ht:P.underlying t=some (.struct fs)) (hl:cs.length=P.cellsOf t) (hn:fs.all (·.name != "_")=true) (h:∀ f∈fs.toList,KL P d f.type ((cs.drop f.offset).take (P.cellsOf f.type))):KL P (d+1) t cs:=by
  obtain⟨ys,hy⟩:=mapM_some (f:=fun f:Field=>P.keyLits d f.type ((cs.drop f.offset).take (P.cellsOf f.type))) (l:=fs.toList) h
  refine⟨ys.flatten,?_⟩
  unfold Program.keyLits
  simp only[ht]
  rw[if_pos ⟨hl,hn⟩,hy];rfl
theorem key_ex {t:TypeId} {cs:List Value} {m:Nat} (hw:(match P.underlying t with | some (.array _ _) | some (.struct _)=>true | _=>false)=true) (hk:P.keyType t=true) (hl:cs.length=P.cellsOf t) (hm:∃ d,P.types.size+1=d+m) (h:∀ d,KL P (d+m) t cs):∃ l,keyOf P t (.agg cs.toArray)=some l:=by
  obtain⟨d,e⟩:=hm
  obtain⟨ls,hls⟩:=h d
  refine⟨.string (keyBytes ls),?_⟩
  have hf:(Value.agg cs.toArray).formed P t=true:=by
    unfold Value.formed
    split at hw <;> simp_all
  have hc:(Value.agg cs.toArray).cells.toList=cs:=rfl
  have key:(if (P.keyType t && (Value.agg cs.toArray).formed P t)=true then (P.keyLits (P.types.size+1) t (Value.agg cs.toArray).cells.toList).map (fun ls=>Lit.string (keyBytes ls)) else none)=some (.string (keyBytes ls)):=by
    rw[hk,hf,hc,e,hls];rfl
  unfold keyOf
  split at hw
  · rename_i h1;rw[h1];exact key
  · rename_i h1;rw[h1];exact key
  · cases hw
end
theorem tryLaid:laidOutB Try.prog=true:=by kernel_rfl
theorem trySize (m:Nat) (h:Nat.ble m (Try.prog.types.size+1)=true):∃ d,Try.prog.types.size+1=d+m:=⟨Try.prog.types.size+1 - m,by have:=Nat.le_of_ble_eq_true h;omega⟩
end Go.Proofs.Ytldiodhdefnlaaa.eng

/- SmL -/
namespace Go.Proofs.Ytldiodhdefnlaaa.smallL
section
variable {κ:Type} [DecidableEq κ]
def firsts:List κ→List κ→List κ
  | D,[]=>D
  | D,k::r=>firsts (if k∈D then D else D++[k]) r
def more (D:List κ) (k:κ):List κ:=if k∈D then D else D++[k]
theorem firsts_snoc:∀ (l D:List κ) (k:κ),firsts D (l++[k])=more (firsts D l) k
  | [],_,_=>rfl
  | _::l,_,k=>firsts_snoc l _ k
theorem more_pre (D:List κ) (k:κ):∃ E,more D k=D++E:=by
  unfold more;split
  · exact⟨[],by simp⟩
  · exact⟨[k],rfl⟩
theorem mem_more {D:List κ} {k x:κ}:x∈more D k↔x∈D∨x=k:=by
  unfold more;split
  · rename_i h
    exact⟨.inl,fun e=>e.elim id fun e=>e ▸ h⟩
  · simp
theorem firsts_pre:∀ (l D:List κ),∃ E,firsts D l=D++E
  | [],D=>⟨[],by simp[firsts]⟩
  | k::l,D=>by
    obtain⟨E,h⟩:=more_pre D k
    obtain⟨E',h'⟩:=firsts_pre l (more D k)
    exact⟨E++E',by show firsts (more D k) l=_;rw[h',h,List.append_assoc]⟩
theorem mem_firsts {x:κ}:∀ {l D:List κ},x∈firsts D l↔x∈D∨x∈l
  | [],D=>by simp[firsts]
  | k::l,D=>by
    show x∈firsts (more D k) l↔_
    rw[mem_firsts,mem_more,List.mem_cons,or_assoc]
theorem more_nodup {D:List κ} {k:κ} (h:D.Nodup):(more D k).Nodup:=by
  unfold more;split
  · exact h
  · rename_i hk
    exact List.nodup_append.2 ⟨h,by simp,fun a ha b hb e=>by simp at hb;subst hb e;exact hk ha⟩
theorem firsts_nodup:∀ (l D:List κ),D.Nodup→(firsts D l).Nodup
  | [],_,h=>h
  | _::l,_,h=>firsts_nodup l _ (more_nodup h)
def idx (D:List κ) (k:κ):Nat:=D.idxOf k
theorem idx_lt {D:List κ} {k:κ} (h:k∈D):idx D k<D.length:=List.idxOf_lt_length_of_mem h
theorem idx_get {D:List κ} {k:κ} (h:idx D k<D.length):D[idx D k]=k:=List.getElem_idxOf h
theorem idx_of_get {D:List κ} (hn:D.Nodup) {v:Nat} (h:v<D.length):idx D D[v]=v:=by
  have h1:=idx_lt (List.getElem_mem h)
  exact (List.getElem_inj hn).1 (idx_get h1)
theorem idx_head (k:κ) (E:List κ):idx (k::E) k=0:=by simp[idx]
theorem idx_pre {D E:List κ} {k:κ} (h:k∈D):idx (D++E) k=idx D k:=by unfold idx;rw[List.idxOf_append,if_pos h]
theorem idx_more {D:List κ} {k:κ}:idx (more D k) k=if k∈D then idx D k else D.length:=by
  unfold more;split
  · rfl
  · rename_i h
    unfold idx;rw[List.idxOf_append,if_neg h];simp
theorem idx_at {l D:List κ} {i:Nat} (hi:i<l.length):idx (firsts D l) l[i]=if l[i]∈firsts D (l.take i) then idx (firsts D (l.take i)) l[i] else (firsts D (l.take i)).length:=by
  have e:l=l.take (i+1)++l.drop (i+1):=(List.take_append_drop _ _).symm
  have h1:l.take (i+1)=l.take i++[l[i]]:=List.take_succ_eq_append_getElem hi
  have h2:∃ E,firsts D l=firsts D (l.take (i+1))++E:=by
    obtain⟨E,h⟩:=firsts_pre (l.drop (i+1)) (firsts D (l.take (i+1)))
    refine⟨E,?_⟩
    rw[←h]
    have hap:∀ (a b D:List κ),firsts D (a++b)=firsts (firsts D a) b:=by
      intro a
      induction a with
      | nil=>intro b D;rfl
      | cons x a ih=>intro b D;exact ih b _
    rw[←hap,←e]
  obtain⟨E,h2⟩:=h2
  rw[h2,idx_pre,h1,firsts_snoc,idx_more]
  rw[h1,firsts_snoc,mem_more];exact .inr rfl
theorem idx_inj {D:List κ} {x y:κ} (hx:x∈D) (h:idx D x=idx D y):x=y:=by
  have h1:=idx_lt hx
  have h2:idx D y<D.length:=h ▸ h1
  rw[←idx_get h1,←idx_get h2]
  congr 1
end
theorem getD_left {α:Type} {l m:List α} {k:Nat} {d:α} (h:k<l.length):(l++m).getD k d=l.getD k d:=by
  rw[List.getD_eq_getElem?_getD,List.getElem?_append_left h,List.getD_eq_getElem?_getD]
theorem getD_right {α:Type} {l m:List α} {k:Nat} {d:α} (h:l.length≤k):(l++m).getD k d=m.getD (k - l.length) d:=by
  rw[List.getD_eq_getElem?_getD,List.getElem?_append_right h,List.getD_eq_getElem?_getD]
theorem nodup_bound {l:List Nat} {m:Nat} (h:l.Nodup) (hb:∀ x∈l,x<m):l.length≤m:=by
  have hs:∀ (l l':List Nat),l.Nodup→(∀ x∈l,x∈l')→l.length≤l'.length:=by
    intro l
    induction l with
    | nil=>intro l' _ _;simp
    | cons x l ih=>
      intro l' hn hs
      rw[List.nodup_cons] at hn
      have hx:x∈l':=hs x (by simp)
      have:=ih (l'.erase x) hn.2 (fun y hy=>(List.mem_erase_of_ne (by rintro rfl;exact hn.1 hy)).2 (hs y (by simp[hy])))
      rw[List.length_erase_of_mem hx] at this
      have:0<l'.length:=List.length_pos_of_mem hx
      simp;omega
  have:=hs l (List.range m) h fun x hx=>List.mem_range.2 (hb x hx)
  simpa using this
theorem finer_same {N:Nat} {f g:Nat→Nat} {n c:Nat} (hf:∀ v,v<n→∃ x,x<N∧f x=v) (hg:∀ x,x<N→g x<c) (hr:∀ x y,x<N→y<N→g x=g y→f x=f y) :
    n≤c∧(c=n→(∀ x,x<N→f x<n)→∀ x y,x<N→y<N→f x=f y→g x=g y):=by
  have hc:∃ p:Nat→Nat,∀ v,v<n→p v<N∧f (p v)=v:=by
    refine⟨fun v=>if h:v<n then (hf v h).choose else 0,fun v h => ?_⟩
    simp only[dif_pos h]
    exact (hf v h).choose_spec
  obtain⟨p,hp⟩:=hc
  have hnd:∀ l:List Nat,l.Nodup→(∀ v∈l,v<n)→(l.map fun v=>g (p v)).Nodup:=by
    intro l hl hb
    refine List.pairwise_map.2 (List.Pairwise.imp_of_mem (fun {a b} ha hb' hne e=>hne ?_) hl)
    have h1:=hp a (hb a ha)
    have h2:=hp b (hb b hb')
    have:=hr _ _ h1.1 h2.1 e
    rw[h1.2,h2.2] at this
    exact this
  refine⟨?_,fun hcn hfb x y hx hy hxy => ?_⟩
  · have h1:=nodup_bound (m:=c) (hnd (List.range n) List.nodup_range fun v hv=>List.mem_range.1 hv) (fun z hz=>by
      obtain⟨v,hv,rfl⟩:=List.mem_map.1 hz
      exact hg _ (hp v (List.mem_range.1 hv)).1)
    simpa using h1
  · apply Classical.byContradiction
    intro hne
    have hv:f x<n:=hfb x hx
    have hl:((List.range n).erase (f x)).Nodup:=List.nodup_range.erase _
    have hb:∀ v∈(List.range n).erase (f x),v<n∧v≠f x:=fun v hv=>by
      have:=(List.nodup_range.mem_erase_iff).1 hv
      exact⟨List.mem_range.1 this.2,this.1⟩
    have h1:=hnd _ hl fun v hv=>(hb v hv).1
    have hnot:∀ z,z<N→f z=f x→g z∉((List.range n).erase (f x)).map fun v=>g (p v):=by
      intro z hz he hin
      obtain⟨v,hv',e⟩:=List.mem_map.1 hin
      have h2:=hp v (hb v hv').1
      have:=hr _ _ h2.1 hz e
      rw[h2.2,he] at this
      exact (hb v hv').2 this
    have h2:(g x::g y::((List.range n).erase (f x)).map fun v=>g (p v)).Nodup:=by
      rw[List.nodup_cons,List.nodup_cons]
      refine⟨?_,hnot y hy hxy.symm,h1⟩
      rw[List.mem_cons,not_or]
      exact⟨hne,hnot x hx rfl⟩
    have h3:=nodup_bound (m:=c) h2 (fun z hz=>by
      simp only[List.mem_cons] at hz
      rcases hz with rfl | rfl | hz
      · exact hg _ hx
      · exact hg _ hy
      · obtain⟨v,hv,rfl⟩:=List.mem_map.1 hz
        exact hg _ (hp v (hb v hv).1).1)
    have h4:((List.range n).erase (f x)).length=n - 1:=by
      rw[List.length_erase_of_mem (List.mem_range.2 hv)];simp
    simp[h4] at h3
    omega
end Go.Proofs.Ytldiodhdefnlaaa.smallL

/- ClsHas -/
namespace Go.Proofs.Ytldiodhdefnlaaa.eng
open Go.RowKit kit mix classL
theorem shrU {P:Program} (x j b:Nat) (k k':IntKind) (hb:k.bits=b) (hj:j≤b) (w:World):(Op.shift .shr k (x:Int) k' (j:Int)).run P w = .ok (.int k ((x / 2 ^ j:Nat):Int)) w:=by
  have e:min j b=j:=by omega
  have h0:¬ ((j:Int)<0):=by omega
  have e2:(x:Int).fdiv (2 ^ j)=((x / 2 ^ j:Nat):Int):=by
    rw[Int.fdiv_eq_ediv_of_nonneg _ (by have:(0:Int)<2 ^ j:=Int.pow_pos (by decide);omega)]
    simp
  simp only[Op.shift,if_neg h0,hb,Int.toNat_natCast,e,e2,Sem.run_pure]
theorem cls_cell (c:C4) (i:Nat) (h:i<4):(#[v64 c.a,v64 c.b,v64 c.c,v64 c.d]:Array Value)[i]?=some (.int .u64 ((c.get i).toNat:Int)):=by
  match i,h with
  | 0,_=>rfl
  | 1,_=>rfl
  | 2,_=>rfl
  | 3,_=>rfl
theorem u8and63:∀ b:Nat,b<256→bits .and .u8 (b:Int) 63=((b % 64:Nat):Int):=by decide +kernel
theorem has_calls (c:C4) (b:Nat) (hb:b<256) (w:World):Calls Try.prog 58 #[clsV c,.int .u8 (b:Int)] w (Meets (ret (.bool (c.mem b))) w):=by
  refine enter (args:=[.agg #[v64 c.a,v64 c.b,v64 c.c,v64 c.d],.int .u8 (b:Int)]) (n:=14) Try.func58 rfl rfl rfl ?_
  refine T_seq (T_region (TL_box rfl rfl rfl fun g => ?_))
  have h1:b / 64<4:=by omega
  have hc:(#[v64 c.a,v64 c.b,v64 c.c,v64 c.d]:Array Value)[0+b / 64]?=some (.int .u64 ((c.get (b / 64)).toNat:Int)):=by rw[Nat.zero_add];exact cls_cell c _ h1
  have hx:=(c.get (b / 64)).isLt
  have hs1:∀ w,(Op.shift .shr .u8 (b:Int) .u64 6).run Try.prog w = .ok (.int .u8 ((b / 64:Nat):Int)) w:=fun w=>shrU b 6 8 .u8 .u64 rfl (by decide) w
  have hs2:∀ w,(Op.shift .shr .u64 ((c.get (b / 64)).toNat:Int) .u8 ((b % 64:Nat):Int)).run Try.prog w = .ok (.int .u64 (((c.get (b / 64)).toNat / 2 ^ (b % 64):Nat):Int)) w:=fun w=>shrU _ (b % 64) 64 .u64 .u8 rfl (by omega) w
  have hm:c.mem b=decide ((c.get (b / 64)).toNat / 2 ^ (b % 64) % 2=1):=by unfold C4.mem;rw[Nat.testBit_eq_decide_div_mod_eq]
  rw[hm]
  have hd:(c.get (b / 64)).toNat / 2 ^ (b % 64)≤(c.get (b / 64)).toNat:=Nat.div_le_self _ _
  have h63:=u8and63 b hb
  generalize (c.get (b / 64)).toNat=x at *
  generalize b % 64=k at *
  generalize b / 64=i at *
  generalize x / 2 ^ k=y at *
  have ha:bits .and .u64 (y:Int) 1=((y % 2:Nat):Int):=by
    have:=bits_and_u64_nat y 1 (by omega) (by decide)
    rw[Nat.and_one_is_mod] at this
    exact this
  repeat(first|refine GC ?_|refine gV (rr_shr rfl rfl hs1) ?_|refine gV (rr_aidx1 Und.eq TyC.ty rfl rfl h1) ?_|refine gV (rr_load1 TyC.ty rfl (at_blk (i:=0) rfl hc)) ?_|refine gV (rr_and rfl rfl h63) ?_|refine gV (rr_shr rfl rfl hs2) ?_|refine gV (rr_and rfl rfl ha) ?_|refine gV (rr_eql rfl rfl rfl) ?_|refine GB ?_)
  exact E_ret1e rfl rfl (by congr 1;rw[decide_eq_decide];omega)
end Go.Proofs.Ytldiodhdefnlaaa.eng

/- LookOk -/
namespace Go.Proofs.Ytldiodhdefnlaaa.eng
open Go.RowKit kit mix
section
variable {P:Program} {k:TypeId} {κ:Type} (K:KeyT P k κ)
variable {n:Nat} {W:Base} {fr:Fr} {L:List Own} {dst:Option Tmp} {ty:TypeId} {pos:String} {after:Array Edge} {guard:Option (Nat×Bool)} {i g c:Nat} {t e:TypeId} {m:κ→Option Value} {x:κ} {z v:Value} {xm xk:Operand}
theorem rr_lookOkS (ht:P.underlying t=some (.map k e)) (hz:∀ w,(zeroValue e).run P w = .ok z w) (hi:L[i]?=some (mapO K g m c)) (hm:ev fr xm=some (.map (some g))) (hk:ev fr xk=some (K.kv x)) (hx:K.ok x) (hv:m x=some v):RR P n W ⟨dst,.lookup t xm xk true,ty,pos,after,guard⟩ fr L (.tuple #[v,.bool true]):=by
  have:=rr_lookOk K (n:=n) (W:=W) (dst:=dst) (ty:=ty) (pos:=pos) (after:=after) (guard:=guard) ht hz hi hm hk hx
  rw[hv] at this;exact this
theorem rr_lookOkN (ht:P.underlying t=some (.map k e)) (hz:∀ w,(zeroValue e).run P w = .ok z w) (hi:L[i]?=some (mapO K g m c)) (hm:ev fr xm=some (.map (some g))) (hk:ev fr xk=some (K.kv x)) (hx:K.ok x) (hv:m x=none):RR P n W ⟨dst,.lookup t xm xk true,ty,pos,after,guard⟩ fr L (.tuple #[z,.bool false]):=by
  have:=rr_lookOk K (n:=n) (W:=W) (dst:=dst) (ty:=ty) (pos:=pos) (after:=after) (guard:=guard) ht hz hi hm hk hx
  rw[hv] at this;exact this
end
end Go.Proofs.Ytldiodhdefnlaaa.eng

/- MixX -/
namespace Go.Proofs.Ytldiodhdefnlaaa.eng
open Go.RowKit kit mix
theorem OwnsP.perm {p:Nat→Prop} {w:World} {L L':List Own} (h:OwnsP p w L) (hp:L.Perm L'):OwnsP p w L':=by
  have hpw:L.Pairwise (fun o o'=>∀ k,o.foot k→¬ o'.foot k):=List.pairwise_iff_getElem.2 fun i j hi hj hij=>h.apart i j _ _ (by omega) (List.getElem?_eq_getElem hi) (List.getElem?_eq_getElem hj)
  have hpw':=List.pairwise_iff_getElem.1 ((hp.pairwise_iff (fun hxy k h1 h2=>hxy k h2 h1)).1 hpw)
  refine⟨fun i o hi => ?_,fun i j o o' hij hi hj k h1 h2 => ?_⟩
  · obtain⟨j,hj⟩:=List.getElem?_of_mem (hp.symm.subset (List.mem_of_getElem? hi))
    exact h.all j o hj
  · obtain⟨hi',rfl⟩:=List.getElem?_eq_some_iff.1 hi
    obtain⟨hj',rfl⟩:=List.getElem?_eq_some_iff.1 hj
    rcases Nat.lt_or_gt_of_ne hij with h3 | h3
    · exact hpw' i j hi' hj' h3 k h1 h2
    · exact hpw' j i hj' hi' h3 k h2 h1
theorem Mem.perm {W:Base} {w:World} {L L':List Own} (h:Mem W L w) (hp:L.Perm L'):Mem W L' w:=⟨h.low,h.owns.perm hp⟩
theorem look_perm {l l':Fr} (hp:l.Perm l'):(l.map (·.1)).Nodup→∀ (fr:Fr) (i:Nat),look (l++fr) i=look (l'++fr) i:=by
  induction hp with
  | nil=>intro _ _ _;rfl
  | cons x _ ih=>
    intro hn fr i
    rw[List.map_cons,List.nodup_cons] at hn
    obtain⟨k,v⟩:=x
    show (bif Nat.beq k i then some v else _)=(bif Nat.beq k i then some v else _)
    have e:=ih hn.2 fr i
    exact congrArg (fun z=>bif Nat.beq k i then some v else z) e
  | swap x y l=>
    intro hn fr i
    obtain⟨k,v⟩:=x
    obtain⟨k2,v2⟩:=y
    simp only[List.map_cons,List.nodup_cons,List.mem_cons,not_or] at hn
    show (bif Nat.beq k2 i then some v2 else bif Nat.beq k i then some v else _)=(bif Nat.beq k i then some v else bif Nat.beq k2 i then some v2 else _)
    cases e:Nat.beq k2 i
    · rfl
    · cases e2:Nat.beq k i
      · rfl
      · have a:=Nat.eq_of_beq_eq_true e
        have b:=Nat.eq_of_beq_eq_true e2
        exact absurd (a.trans b.symm) hn.1.1
  | trans h1 _ ih1 ih2=>
    intro hn fr i
    rw[ih1 hn,ih2 ((h1.map _).nodup_iff.1 hn)]
theorem perm_lift {α β:Type} (f:α→β) {l l':List β} (h:l.Perm l'):∀ dn:List α,dn.map f=l→∃ dn':List α,dn'.Perm dn∧dn'.map f=l':=by
  induction h with
  | nil=>exact fun dn h=>⟨dn,.refl _,h⟩
  | cons x _ ih=>
    intro dn h
    match dn,h with
    | y::dn,h=>
      simp only[List.map_cons,List.cons.injEq] at h
      obtain⟨d',h1,h2⟩:=ih dn h.2
      exact⟨y::d',h1.cons y,by simp[h.1,h2]⟩
  | swap x y l=>
    intro dn h
    match dn,h with
    | a::b::dn,h=>
      simp only[List.map_cons,List.cons.injEq] at h
      exact⟨b::a::dn,List.Perm.swap _ _ _,by simp[h.1,h.2.1,h.2.2]⟩
  | trans _ _ ih1 ih2=>
    intro dn h
    obtain⟨d1,h1,h2⟩:=ih1 dn h
    obtain⟨d2,h3,h4⟩:=ih2 d1 h2
    exact⟨d2,h3.trans h1,h4⟩
def subs:List Nat→List (List Nat)
  | []=>[[]]
  | a::r=>subs r++(subs r).map (a :: ·)
theorem filter_subs (p:Nat→Bool):∀ l,l.filter p∈subs l
  | []=>by simp[subs]
  | a::r=>by
    have ih:=filter_subs p r
    unfold subs
    rw[List.filter_cons]
    split
    · exact List.mem_append_right _ (List.mem_map_of_mem ih)
    · exact List.mem_append_left _ ih
structure Mk where
  i:Nat
  d:Nat
  v:Nat→Value
  own:Nat→Own
def frm (dn:List (Mk×Nat)):Fr:=dn.map fun x=>(x.1.d,x.1.v x.2)
def owm (dn:List (Mk×Nat)):List Own:=dn.map fun x=>x.1.own x.2
def markL (listed:Array Bool) (D:List Nat):Array Bool:=D.foldl (fun l i=>l.setIfInBounds i true) listed
theorem markL_get (D:List Nat):∀ (listed:Array Bool) (j:Nat),(markL listed D)[j]?=(listed[j]?).map fun b=>b || D.contains j:=by
  induction D with
  | nil=>intro listed j;simp[markL]
  | cons a r ih=>
    intro listed j
    show (markL (listed.setIfInBounds a true) r)[j]?=_
    rw[ih,Array.getElem?_setIfInBounds]
    by_cases c:a=j
    · subst c
      simp
      split <;> simp_all
    · rw[if_neg c]
      have:¬ j=a:=fun h=>c h.symm
      simp[this]
theorem markL_same {listed:Array Bool} {D D':List Nat} (h:∀ j,D.contains j=D'.contains j):markL listed D=markL listed D':=by
  apply Array.ext_getElem?
  intro j
  rw[markL_get,markL_get,h j]
def manyB (ops:Array Oper) (is:List Nat) (ends:List (List Nat)) (listed:Array Bool):Bool:=(subs is).all fun D=>ends.contains D || decide (Region.ready .any ops (markL listed D)=is.filter fun i=>!D.contains i)
theorem nodup_le:∀ (l l':List Nat),l.Nodup→(∀ x∈l,x∈l')→l.length≤l'.length
  | [],_,_,_=>Nat.zero_le _
  | a::r,l',hn,hs=>by
    rw[List.nodup_cons] at hn
    have ha:=hs a (by simp)
    have:=nodup_le r (l'.erase a) hn.2 fun x hx=>(List.mem_erase_of_ne (fun (e:x=a)=>hn.1 (by rw[←e];exact hx))).2 (hs x (by simp[hx]))
    rw[List.length_erase_of_mem ha] at this
    have:=List.length_pos_of_mem ha
    simp;omega
theorem nodup_perm:∀ (l l':List Nat),l.Nodup→(∀ x∈l,x∈l')→l'.length≤l.length→l.Perm l'
  | [],l',_,_,h=>by
    have:l'=[]:=List.length_eq_zero_iff.1 (by simpa using h)
    subst this;exact .refl _
  | a::r,l',hn,hs,h=>by
    rw[List.nodup_cons] at hn
    have ha:=hs a (by simp)
    have hl:=List.length_erase_of_mem ha
    have h2:=List.length_pos_of_mem ha
    have:=nodup_perm r (l'.erase a) hn.2 (fun x hx=>(List.mem_erase_of_ne (fun (e:x=a)=>hn.1 (by rw[←e];exact hx))).2 (hs x (by simp[hx]))) (by simp at h;omega)
    exact (this.cons a).trans (List.perm_cons_erase ha).symm
theorem inj_i:∀ (ms:List Mk),(ms.map (·.i)).Nodup→∀ m∈ms,∀ m'∈ms,m.i=m'.i→m=m'
  | [],_,_,hm,_,_,_=>by cases hm
  | y::ms,h,m,hm,m',hm',e=>by
    rw[List.map_cons,List.nodup_cons] at h
    rcases List.mem_cons.1 hm with a1 | a1 <;> rcases List.mem_cons.1 hm' with a2 | a2
    · rw[a1,a2]
    · exact absurd (by rw[←a1,e];exact List.mem_map_of_mem a2) h.1
    · exact absurd (by rw[←a2,←e];exact List.mem_map_of_mem a1) h.1
    · exact inj_i ms h.2 m a1 m' a2 e
theorem fst_of_i:∀ (dn:List (Mk×Nat)) (ms all:List Mk),(∀ m∈all,∀ m'∈all,m.i=m'.i→m=m')→(∀ x∈dn,x.1∈all)→(∀ x∈ms,x∈all)→dn.map (·.1.i)=ms.map (·.i)→dn.map (·.1)=ms
  | [],ms,_,_,_,_,h=>by
    simp only[List.map_nil] at h
    exact (List.map_eq_nil_iff.1 h.symm).symm
  | y::dn,[],_,_,_,_,h=>by simp at h
  | y::dn,m::ms,all,hi,h1,h2,h=>by
    simp only[List.map_cons,List.cons.injEq] at h
    rw[List.map_cons,fst_of_i dn ms all hi (fun x hx=>h1 x (by simp[hx])) (fun x hx=>h2 x (by simp[hx])) h.2,hi y.1 (h1 y (by simp)) m (h2 m (by simp)) h.1]
section
variable {P:Program} {n:Nat} {W:Base} {Q:Exit→Act→World→Prop} {fr:Fr} {L L0:List Own} {ops:Array Oper}
def Makes (P:Program) (n:Nat) (W:Base) (ops:Array Oper) (fr:Fr) (m:Mk):Prop:=
  ∃ o,ops[m.i]?=some o∧∀ (Q:Exit→Act→World→Prop) (fr':Fr) (L:List Own),(∀ q v,look fr q=some v→look fr' q=some v)→(∀ g,TL P n W ops Q [] ((m.d,m.v g)::fr') (L++[m.own g]))→TL P n W ops Q [o] fr' L
theorem look_none:∀ (l:Fr) {q:Nat} {v:Value},(∀ x∈l,look fr x.1=none)→look fr q=some v→look (l++fr) q=some v
  | [],_,_,_,h=>h
  | (k,u)::l,q,v,hl,h=>by
    show (bif Nat.beq k q then some u else look (l++fr) q)=some v
    cases e:Nat.beq k q
    · exact look_none l (fun x hx=>hl x (by simp[hx])) h
    · have:=Nat.eq_of_beq_eq_true e
      subst this
      have:=hl (k,u) (by simp)
      rw[this] at h
      cases h
theorem Rep.perm {a:Act} {l l':Fr} (h:Rep n a (l++fr)) (hp:l.Perm l') (hn:(l.map (·.1)).Nodup):Rep n a (l'++fr):=
  ⟨h.size,h.defers,fun i v hl=>h.get i v (by rw[look_perm hp hn fr i];exact hl)⟩
theorem pick_g:∀ (dn:List (Mk×Nat)),(dn.map (·.1.i)).Nodup→∃ g:Nat→Nat,∀ x∈dn,g x.1.i=x.2
  | [],_=>⟨fun _=>0,fun x hx=>by cases hx⟩
  | y :: dn,h=>by
    rw[List.map_cons,List.nodup_cons] at h
    obtain⟨g,hg⟩:=pick_g dn h.2
    refine⟨fun i=>if i=y.1.i then y.2 else g i,fun x hx => ?_⟩
    rcases List.mem_cons.1 hx with rfl | hx
    · simp
    · have:¬ x.1.i=y.1.i:=fun e=>h.1 (by rw[←e];exact List.mem_map_of_mem hx)
      simp only[if_neg this]
      exact hg x hx
theorem many_canon (ms E:List Mk) (hn:(ms.map (·.i)).Nodup) (hEn:(E.map (·.i)).Nodup) (hEd:(E.map (·.d)).Nodup) (hE:∀ m∈E,m∈ms) (dn:List (Mk×Nat)) (h1:∀ x∈dn,x.1∈ms) (hp:(dn.map (·.1.i)).Perm (E.map (·.i))) (a:Act) (hr:Rep n a (frm dn++fr)) :
    ∃ g:Nat→Nat,Rep n a (E.map (fun m=>(m.d,m.v (g m.i)))++fr)∧Mem W (L++owm dn)=Mem W (L++E.map fun m=>m.own (g m.i)):=by
  obtain⟨d',p1,p2⟩:=perm_lift (fun x:Mk×Nat=>x.1.i) hp dn rfl
  have e1:=fst_of_i d' E ms (inj_i ms hn) (fun x hx=>h1 x (p1.subset hx)) hE p2
  obtain⟨g,hg⟩:=pick_g d' (by rw[p2];exact hEn)
  have e2:d'=E.map fun m=>(m,g m.i):=by
    rw[←e1,List.map_map]
    conv=>lhs;rw[←List.map_id d']
    exact List.map_congr_left fun x hx=>by
      obtain⟨m,q⟩:=x
      have:=hg _ hx
      dsimp only at this
      simp[this]
  have hpd:((frm dn).map (·.1)).Nodup:=by
    have:((frm dn).map (·.1)).Perm (E.map (·.d)):=by
      have h5:=(p1.map fun x:Mk×Nat=>x.1.d).symm
      have e:d'.map (fun x:Mk×Nat=>x.1.d)=E.map (·.d):=by rw[←e1,List.map_map];rfl
      rw[e] at h5
      unfold frm
      rw[List.map_map]
      exact h5
    exact this.nodup_iff.2 hEd
  have hr':=hr.perm (p1.map _).symm hpd
  refine⟨g,?_,?_⟩
  · have:d'.map (fun x=>(x.1.d,x.1.v x.2))=E.map (fun m=>(m.d,m.v (g m.i))):=by rw[e2,List.map_map];rfl
    rw[←this];exact hr'
  · have e:E.map (fun m=>m.own (g m.i))=owm d':=by rw[e2,owm,List.map_map];rfl
    rw[e]
    exact funext fun w=>propext ⟨fun h=>h.perm (((p1.map _).symm).append_left L),fun h=>h.perm ((p1.map _).append_left L)⟩
theorem many_go (ms:List Mk) (ends:List (List Mk)) (listed:Array Bool) (U:World→Prop) (S0:Nat) (hUL:∀ l,∀ w,Mem W (L++l) w→U w)
    (hn:(ms.map (·.i)).Nodup) (hd:(ms.map (·.d)).Nodup) (hB:manyB ops (ms.map (·.i)) (ends.map fun E=>E.map (·.i)) listed=true) (hm:∀ m∈ms,Makes P n W ops fr m) (hf:∀ m∈ms,look fr m.d=none)
    (hEnd:∀ E∈ms::ends,(∀ m∈E,m∈ms)∧(E.map (·.i)).Nodup∧(E.map (·.d)).Nodup∧∀ (k:Nat) (g:Nat→Nat) (a:Act),E.length+k=ms.length→Rep n a (E.map (fun m=>(m.d,m.v (g m.i)))++fr)→wpAnyV P .any ops Q U (k+S0) (markL listed (E.map (·.i))) a (Mem W (L++E.map fun m=>m.own (g m.i)))) :
    ∀ (k:Nat) (dn:List (Mk×Nat)),(∀ x∈dn,x.1∈ms)→(dn.map (·.1.i)).Nodup→dn.length+k=ms.length→∀ a,Rep n a (frm dn++fr)→wpAnyV P .any ops Q U (k+S0) (markL listed (dn.map (·.1.i))) a (Mem W (L++owm dn)):=by
  have stop:∀ E∈ms::ends,∀ (k:Nat) (dn:List (Mk×Nat)),(∀ x∈dn,x.1∈ms)→(dn.map (·.1.i)).Nodup→dn.length+k=ms.length→(dn.map (·.1.i)).Perm (E.map (·.i))→∀ a,Rep n a (frm dn++fr)→wpAnyV P .any ops Q U (k+S0) (markL listed (dn.map (·.1.i))) a (Mem W (L++owm dn)):=by
    intro E hE k dn h1 h2 h3 hp a hr
    obtain⟨q1,q2,q3,q4⟩:=hEnd E hE
    obtain⟨g,r1,r2⟩:=many_canon (W:=W) (L:=L) ms E hn q2 q3 q1 dn h1 hp a hr
    have hlen:=hp.length_eq
    simp only[List.length_map] at hlen
    rw[r2,markL_same (D':=E.map (·.i)) fun j => ?_]
    · exact q4 k g a (by omega) r1
    · exact Bool.eq_iff_iff.2 (by simpa using hp.mem_iff)
  intro k
  induction k with
  | zero=>
    intro dn h1 h2 h3 a hr
    exact stop ms (by simp) 0 dn h1 h2 h3 (nodup_perm (dn.map (·.1.i)) (ms.map (·.i)) h2 (fun x hx=>by
      obtain⟨y,hy,rfl⟩:=List.mem_map.1 hx
      exact List.mem_map_of_mem (f:=(·.i)) (h1 y hy)) (by simp;omega)) a hr
  | succ k ih =>
    intro dn h1 h2 h3 a hr
    have hstop:=fun E hE hp=>stop E hE (k+1) dn h1 h2 h3 hp a hr
    have hsub:∀ x∈dn.map (·.1.i),x∈ms.map (·.i):=fun x hx=>by
      obtain⟨y,hy,rfl⟩:=List.mem_map.1 hx
      exact List.mem_map_of_mem (f:=(·.i)) (h1 y hy)
    generalize hD:dn.map (·.1.i)=D at *
    have hlenD:D.length=dn.length:=by rw[←hD];simp
    have hsame:∀ j,D.contains j=((ms.map (·.i)).filter fun i=>D.contains i).contains j:=fun j=>by
      apply Bool.eq_iff_iff.2
      simp only[List.contains_iff_mem,List.mem_filter]
      exact⟨fun h=>⟨hsub j h,h⟩,fun h=>h.2⟩
    have hq:=List.all_eq_true.1 hB _ (filter_subs (fun i=>D.contains i) (ms.map (·.i)))
    rw[Bool.or_eq_true] at hq
    rcases hq with hq | hq
    · rw[List.contains_iff_mem] at hq
      obtain⟨E,hE,e⟩:=List.mem_map.1 hq
      refine hstop E (by simp[hE]) ?_
      rw[e]
      refine nodup_perm _ _ h2 (fun x hx=>List.mem_filter.2 ⟨hsub x hx,by simpa using hx⟩) ?_
      exact nodup_le _ _ (hn.filter _) fun x hx=>by simpa using (List.mem_filter.1 hx).2
    have hready:Region.ready .any ops (markL listed D)=(ms.map (·.i)).filter fun i=>!D.contains i:=by
      have hq:=of_decide_eq_true hq
      rw[markL_same hsame,hq]
      exact List.filter_congr fun i _=>by rw[←hsame i]
    rw[show k+1+S0=(k+S0)+1 by omega]
    refine⟨fun h0 => ?_,fun i hi w hw => ?_⟩
    · exfalso
      have:(ms.map (·.i)).length≤D.length:=nodup_le _ _ hn fun x hx=>by
        rw[hready] at h0
        have:=List.filter_eq_nil_iff.1 h0 x hx
        simpa using this
      simp at this
      omega
    · rw[hready,List.mem_filter] at hi
      obtain⟨hi1,hi2⟩:=hi
      obtain⟨m,hm1,rfl⟩:=List.mem_map.1 hi1
      have hi3:m.i∉D:=by simpa using hi2
      obtain⟨o,ho,hmk⟩:=hm m hm1
      refine wpOp_of_list ho ((hmk _ (frm dn++fr) (L++owm dn) (fun q v hq=>look_none (frm dn) (fun x hx => ?_) hq) fun g => ?_).go a w hr hw)
      · obtain⟨y,hy,rfl⟩:=List.mem_map.1 hx
        exact hf y.1 (h1 y hy)
      · refine TL_nil ⟨fun a' w' hr' hm'=>⟨Mem W (L++owm ((m,g)::dn)),closed_mem _ _,hUL _,hm'.perm ?_,?_⟩⟩
        · rw[List.append_assoc]
          exact (List.perm_append_comm).append_left L
        · have:=ih ((m,g)::dn) (fun x hx=>by
            rcases List.mem_cons.1 hx with rfl | hx
            · exact hm1
            · exact h1 x hx) (by rw[List.map_cons,hD,List.nodup_cons];exact⟨hi3,h2⟩) (by simp;omega) a' hr'
          rw[List.map_cons,hD] at this
          have e:(markL listed D).setIfInBounds m.i true=markL listed (m.i::D):=by
            have e0:(markL listed D).setIfInBounds m.i true=markL listed (D++[m.i]):=by
              unfold markL;rw[List.foldl_append];rfl
            rw[e0]
            exact markL_same fun j=>by
              apply Bool.eq_iff_iff.2
              simp[or_comm]
          rw[e]
          exact this
structure TX (P:Program) (n:Nat) (W:Base) (ops:Array Oper) (Q:Exit→Act→World→Prop) (L0:List Own) (listed:Array Bool) (f:Nat) (fr:Fr) (L:List Own):Prop where
  go:(∀ w,Mem W L w→Mem W L0 w)→(∀ c a d v w,Q (.panic c) (Act.put a d v) w→Q (.panic c) a w)→Region.noSelect ops=true→∀ a,Rep n a fr→wpAnyV P .any ops Q (Mem W L0) f listed a (Mem W L)
theorem mem_left {L l:List Own} {w:World} (h:Mem W (L++l) w):Mem W L w:=by
  have hl:∀ (i:Nat) (o:Own),L[i]?=some o→(L++l)[i]?=some o:=fun i o h=>by
    rw[List.getElem?_append_left (List.getElem?_eq_some_iff.1 h).1];exact h
  exact⟨h.low,⟨fun i o hi=>h.owns.all i o (hl i o hi),fun i j o o' hij hi hj=>h.owns.apart i j o o' hij (hl i o hi) (hl j o' hj)⟩⟩
theorem T_ordX {id:Nat} {l:List Oper} (L0:List Own) (hsub:∀ w,Mem W L w→Mem W L0 w) (hm:P.follows .mixedOrders=true) (hsel:Region.noSelect l.toArray=true)
    (hQ:∀ c a d v w,Q (.panic c) (Act.put a d v) w→Q (.panic c) a w)
    (h:TX P n W l.toArray Q L0 (Array.replicate l.toArray.size false) l.toArray.size fr L):T P n W (.region id l.toArray true) Q fr L:=⟨fun a w hr hmm=>by
  refine wp_region_any hm ?_
  exact wpAny_of_V (U:=Mem W L0) l.toArray.size (Array.replicate l.toArray.size false) a (Mem W L) w.drew hmm.drew (h.go hsub hQ hsel a hr)⟩
theorem TX_tree {listed:Array Bool} {f:Nat} (t:Ord) (ho:orderO .any ops t listed=true) (hf:f=t.size) (h:TW P n W ops Q L0 t fr L):TX P n W ops Q L0 listed f fr L:=
  ⟨fun hsub hQ hsel a hr=>by subst hf;exact wpAnyV_ord hsel hQ t listed a (Mem W L) (closed_mem W L) hsub ho (h.go a hr)⟩
theorem TX_val {listed:Array Bool} {f d:Nat} {o:Oper} {v:Value} (i:Nat) (hi:((Region.ready .any ops listed).contains i && Region.free .any ops listed i)=true) (ho:ops[i]?=some o) (hr:RR P n W o fr L0 v) (hg:o.guard=none) (hd:o.dst=some d) (hn:Nat.blt d n=true)
    (h:TX P n W ops Q L0 (listed.setIfInBounds i true) f ((d,v)::fr) L):TX P n W ops Q L0 listed (f+1) fr L:=⟨fun hsub hQ hsel a hrep=>by
  rw[Bool.and_eq_true] at hi
  have hc:CalmIn P ops (Mem W L0) o v a:= .inl ⟨wanted_none hg,fun w hw=>by unfold calmAt;rw[hr.go a w hrep hw];exact⟨rfl,Gr.refl _⟩⟩
  exact wpAnyV_first ho (Region.noSelect_spec hsel) (fun c a w=>hQ c a o.dst v w) f listed a (Mem W L) (closed_mem W L) hsub (Region.free_spec ho hi.2) (by simpa using hi.1) hc
    (by rw[hd];exact h.go hsub hQ hsel _ (hrep.put hn v))⟩
def manyOk (ops:Array Oper) (ms:List Mk) (ends:List (List Nat)) (listed:Array Bool) (fr:Fr):Bool:=
  decide (ms.map (·.i)).Nodup && decide (ms.map (·.d)).Nodup && manyB ops (ms.map (·.i)) ends listed && ms.all fun m=>(look fr m.d).isNone
theorem TX_many2 {listed:Array Bool} {f:Nat} (ms:List Mk) (p:Mk→Bool) (S0:Nat) (hf:f=ms.length+S0) (hB:manyOk ops ms [ms.map (·.i),(ms.filter p).map (·.i)] listed fr=true) (hm:∀ m∈ms,Makes P n W ops fr m)
    (h:∀ g:Nat→Nat,TX P n W ops Q L0 (markL listed (ms.map (·.i))) S0 (ms.map (fun m=>(m.d,m.v (g m.i)))++fr) (L++ms.map fun m=>m.own (g m.i)))
    (h':∀ g:Nat→Nat,TX P n W ops Q L0 (markL listed ((ms.filter p).map (·.i))) (ms.length - (ms.filter p).length+S0) ((ms.filter p).map (fun m=>(m.d,m.v (g m.i)))++fr) (L++(ms.filter p).map fun m=>m.own (g m.i))):TX P n W ops Q L0 listed f fr L:=⟨fun hsub hQ hsel a hr=>by
  subst hf
  simp only[manyOk,Bool.and_eq_true,decide_eq_true_eq] at hB
  obtain⟨⟨⟨b1,b2⟩,b3⟩,b4⟩:=hB
  have := many_go (Q:=Q) (L:=L) ms [ms,ms.filter p] listed (Mem W L0) S0 (fun l w hw=>hsub w (mem_left hw)) b1 b2 b3 hm (fun m hm=>by simpa using List.all_eq_true.1 b4 m hm)
    (fun E hE=>by
      have hE:E=ms∨E=ms.filter p:=by
        simp only[List.mem_cons,List.not_mem_nil,or_false] at hE
        rcases hE with h | h | h
        · exact .inl h
        · exact .inl h
        · exact .inr h
      rcases hE with rfl | rfl
      · exact⟨fun _ h=>h,b1,b2,fun k g a hk hr=>by
          obtain rfl:k=0:=by omega
          rw[Nat.zero_add]
          exact (h g).go (fun w hw=>hsub w (mem_left hw)) hQ hsel a hr⟩
      · exact⟨fun _ h=>(List.mem_filter.1 h).1,b1.sublist (List.filter_sublist.map _),b2.sublist (List.filter_sublist.map _),fun k g a hk hr=>by
          obtain rfl:k=ms.length - (ms.filter p).length:=by omega
          exact (h' g).go (fun w hw=>hsub w (mem_left hw)) hQ hsel a hr⟩) ms.length [] (fun x hx=>by cases hx) (by simp) (by simp) a hr
  simpa[markL,owm] using this⟩
theorem ev_mono {fr fr':Fr} (h:∀ q v,look fr q=some v→look fr' q=some v) {x:Operand} {v:Value} (hx:ev fr x=some v):ev fr' x=some v:=by
  cases x with
  | tmp t=>exact h _ _ hx
  | _=>exact hx
theorem makes_slice {i d:Nat} {t e ty:TypeId} {pos:String} {after:Array Edge} {x y:Operand} {c bytes m cap:Nat} {k k':IntKind} {zs:Array Value} [ElC P t e c bytes] [ZeroC P e zs] (ho:ops[i]?=some ⟨some d,.makeSlice t x y,ty,pos,after,none⟩) (hx:ev fr x=some (.int k (m:Int))) (hy:ev fr y=some (.int k' (cap:Int))) (hmc:m≤cap) (hb:bytes*cap≤281474976710656) (h63:cap≤9223372036854775807) (hn:Nat.blt d n=true) :
    Makes P n W ops fr ⟨i,d,fun g=> .slice (some ⟨g,0,none⟩) m cap,fun g=>blkO g (madeCells zs (cap*c)) e⟩:=
  ⟨_,ho,fun _ _ _ hl h=>TL_makeB (ev_mono hl hx) (ev_mono hl hy) hmc hb h63 hn h⟩
theorem makes_new {i d:Nat} {t ty:TypeId} {pos:String} {after:Array Edge} {cs:Array Value} [ZeroC P t cs] (ho:ops[i]?=some ⟨some d,.alloc t,ty,pos,after,none⟩) (hn:Nat.blt d n=true) :
    Makes P n W ops fr ⟨i,d,fun g=> .pointer (some ⟨g,0,none⟩),fun g=>blkO g cs t⟩:=
  ⟨_,ho,fun _ _ _ _ h=>TL_new hn h⟩
end
end Go.Proofs.Ytldiodhdefnlaaa.eng

/- RexSz -/
namespace Go.Proofs.Ytldiodhdefnlaaa.rexL
open classL
def SzR (p0:Nat) (x:Rx) (st:RS):Prop:=p0≤st.p∧(st.e=0→sizeX x+1≤200*(st.p - p0))∧(st.e≠0→sizeX x≤200*(st.p - p0)+1)
section
variable {s:Txt}
theorem SzR.le {p0:Nat} {x:Rx} {st:RS} (h:SzR p0 x st):sizeX x≤200*(st.p - p0)+1:=by
  by_cases e:st.e=0
  · have:=h.2.1 e;omega
  · exact h.2.2 e
end
end Go.Proofs.Ytldiodhdefnlaaa.rexL

/- GramL -/
namespace Go.Proofs.Ytldiodhdefnlaaa.gramL
abbrev Sym:=Int×Int
abbrev Prod:=Int×List Sym
structure Gram where
  terms:Int
  nons:Int
  prods:List Prod
def right (terms nons:Int) (x:Sym):Bool:=if x.1=1 then decide (0≤x.2) && decide (x.2<terms) else if x.1=2 then decide (0≤x.2) && decide (x.2<nons) else false
def prodE (terms nons:Int) (p:Prod):Int:=if 8<p.2.length then 2 else if p.1<0 then 1 else if nons≤p.1 then 1 else if p.2.any (fun x=>!right terms nons x)=true then 1 else 0
def prodsE (terms nons:Int):List Prod→Int
  | []=>0
  | p::r=>if prodE terms nons p≠0 then prodE terms nons p else prodsE terms nons r
def checkG (g:Gram):Int:=if g.terms<0 then 1 else if 30<g.terms then 1 else if g.nons<1 then 1 else if 20<g.nons then 1 else if 40<g.prods.length then 2 else prodsE g.terms g.nons g.prods
theorem prodE_ok {t n:Int} {p:Prod} (h:prodE t n p=0):p.2.length≤8∧0≤p.1∧p.1<n∧∀ x∈p.2,right t n x=true:=by
  unfold prodE at h
  split at h;· simp at h
  split at h;· simp at h
  split at h;· simp at h
  split at h;· simp at h
  rename_i a b c d
  refine⟨by omega,by omega,by omega,fun x hx => ?_⟩
  simp only[List.any_eq_true,not_exists,not_and,Bool.not_eq_true',Bool.not_eq_false] at d
  simpa using d x hx
theorem prodsE_ok {t n:Int}:∀ {l:List Prod},prodsE t n l=0→∀ p∈l,prodE t n p=0
  | [],_,_,h=>by cases h
  | q :: r,h,p,hp=>by
    unfold prodsE at h
    split at h
    · contradiction
    · rename_i c
      rcases List.mem_cons.1 hp with rfl | hp
      · simpa using c
      · exact prodsE_ok h p hp
theorem checkG_ok {g:Gram} (h:checkG g=0):0≤g.terms∧g.terms≤30∧1≤g.nons∧g.nons≤20∧g.prods.length≤40∧∀ p∈g.prods,p.2.length≤8∧0≤p.1∧p.1<g.nons∧∀ x∈p.2,right g.terms g.nons x=true:=by
  unfold checkG at h
  split at h;· simp at h
  split at h;· simp at h
  split at h;· simp at h
  split at h;· simp at h
  split at h;· simp at h
  exact⟨by omega,by omega,by omega,by omega,by omega,fun p hp=>prodE_ok (prodsE_ok h p hp)⟩
end Go.Proofs.Ytldiodhdefnlaaa.gramL

/- StrK -/
namespace Go.Proofs.Ytldiodhdefnlaaa.eng
open Go.RowKit kit mix
theorem str_inj {x y:List UInt8} (h:str x=str y):x=y:=by
  unfold str at h
  simpa using h
def strK:KeyT Try.prog 9 (List UInt8) where
  kv:=str
  ok l:=l.length≤9223372036854775807
  law:=Go.WideMaps.string_law Try.underlying9
  key l h:=⟨_,Go.WideMaps.keyOf_string_mk Try.underlying9 (by unfold maxLen;simpa[ByteArray.size] using h)⟩
  inj x y h:=str_inj h
end Go.Proofs.Ytldiodhdefnlaaa.eng

/- DfaL -/
namespace Go.Proofs.Ytldiodhdefnlaaa.dfaL
def rowBad (n:Nat) (tag:Int) (row:List Int):Bool:=decide (tag < -1) || decide (20≤tag) || row.any fun t=>decide (t < -1) || decide ((n:Int)≤t)
def checkF (rows:List (List Int)) (tags:List Int):Int:=
  if 200<rows.length then 2 else if rows.length=0∨tags.length≠rows.length then 1 else if (List.range rows.length).any (fun i=>rowBad rows.length (tags.getD i 0) (rows.getD i [])) then 1 else 0
theorem check_ok {rows:List (List Int)} {tags:List Int} (h:checkF rows tags=0):rows.length≤200∧0<rows.length∧tags.length=rows.length∧∀ i,i<rows.length→ -1≤tags.getD i 0∧tags.getD i 0<20∧∀ t∈rows.getD i [],-1≤t∧t<rows.length:=by
  unfold checkF at h
  split at h
  · simp at h
  · split at h
    · simp at h
    · split at h
      · simp at h
      · rename_i c1 c2 c3
        refine⟨by omega,by omega,by omega,fun i hi => ?_⟩
        simp only[List.any_eq_true,List.mem_range,not_exists,not_and] at c3
        have:=c3 i hi
        simp only[rowBad,Bool.or_eq_true,decide_eq_true_eq,List.any_eq_true,not_or,not_exists,not_and] at this
        obtain⟨⟨a,b⟩,c⟩:=this
        refine⟨by omega,by omega,fun t ht => ?_⟩
        have:=c t ht
        omega
end Go.Proofs.Ytldiodhdefnlaaa.dfaL

/- DfaO -/
namespace Go.Proofs.Ytldiodhdefnlaaa.eng
open Go.RowKit kit mix dfaL
set_option maxRecDepth 100000
def isRow (cs:List Value) (r:List Int):Prop:=r.length=256∧cs=r.map (.int .i16)∧∀ x∈r,-32768≤x∧x≤32767
def IsDfa (W:World) (v:Value) (rows:List (List Int)) (tags:List Int):Prop:=∃ vr vt,v = .agg #[vr,vt]∧SlX W isRow 256 vr rows∧SlX W (isInt .i64 (-9223372036854775808) 9223372036854775807) 1 vt tags∧∀ r∈rows,r.length=256
end Go.Proofs.Ytldiodhdefnlaaa.eng

/- Dfa -/
namespace Go.Proofs.Ytldiodhdefnlaaa.eng
open Go.RowKit kit mix dfaL
theorem row_at {rows:List (List Int)} {i:Nat} (hi:i<rows.length):rows.getD i []=rows[i]:=by rw[List.getD_eq_getElem?_getD,List.getElem?_eq_getElem hi];rfl
theorem int_at {l:List Int} {i:Nat} (hi:i<l.length):l.getD i 0=l[i]:=by rw[List.getD_eq_getElem?_getD,List.getElem?_eq_getElem hi];rfl
theorem any_range {n i:Nat} {p:Nat→Bool} (hi:i<n) (h:p i=true):(List.range n).any p=true:=List.any_eq_true.2 ⟨i,List.mem_range.2 hi,h⟩
set_option maxHeartbeats 4000000 in
theorem dfaCheck_calls (v:Value) (rows:List (List Int)) (tags:List Int) (w:World) (h:IsDfa w v rows tags) :
    Calls Try.prog 40 #[v] w (Meets (ret (.int .i64 (checkF rows tags))) w):=by
  obtain⟨vr,vt,rfl,hr,ht,h256⟩:=h
  obtain⟨br,cr,rfl,hr1,hr2,hr3⟩:=hr
  have ht':=ht.sl (f:= .int .i64) fun cs a h=>h.1
  obtain⟨bt,ct,rfl,ht1,ht2,ht3⟩:=ht'
  have htr:∀ i (hi:i<tags.length),-9223372036854775808≤tags[i]∧tags[i]≤9223372036854775807:=fun i hi=>by
    obtain⟨_,_,_,_,_,h5⟩:=ht
    obtain⟨_,_,_,h6⟩:=h5 (by omega)
    obtain⟨_,h7,_⟩:=h6 i hi
    exact h7.2
  clear ht
  unfold maxLen at hr2 ht2
  refine enter (args:=[.agg #[.slice br rows.length cr,.slice bt tags.length ct]]) (n:=57) Try.func40 rfl rfl rfl ?_
  refine T_seq (T_region (TL_box rfl rfl rfl fun g => ?_))
  repeat(first|refine GA ?_|refine gV (rr_load1 TyC.ty rfl (at_blk (i:=0) rfl rfl)) ?_)
  unfold checkF
  by_cases c1:200<rows.length
  · rw[if_pos c1]
    try refine GA ?_
    exact E_ret1 rfl rfl fun w hm=>hm.ret
  · rw[if_neg c1]
    by_cases c2:rows.length=0
    · rw[if_pos (.inl c2)]
      repeat(first|refine GA ?_|refine gV (rr_load1 TyC.ty rfl (at_blk (i:=0) rfl rfl)) ?_)
      exact E_ret1 rfl rfl fun w hm=>hm.ret
    · by_cases c3 : tags.length=rows.length
      · rw[if_neg (by omega)]
        repeat(first|refine GA ?_|refine gV (rr_load1 TyC.ty rfl (at_blk (i:=0) rfl rfl)) ?_)
        refine T_loop (ι:=Nat) (fun i=>i≤rows.length∧∀ j,j<i→rowBad rows.length (tags.getD j 0) (rows.getD j [])=false) (fun i=>[(1,.pointer (some ⟨g,0,none⟩)),(3,.int .i64 rows.length),(21,.int .i64 rows.length),(22,.int .i64 (i:Int))]) (fun _=>[blkO g #[.slice br rows.length cr,.slice bt tags.length ct] 95]) (fun i=>rows.length - i) 0 ⟨by omega,fun j hj=>by omega⟩ ⟨rfl,rfl,rfl,rfl,trivial⟩ rfl ?_
        rintro i ⟨h1,h2⟩
        by_cases c4:i<rows.length
        · obtain⟨b,off,rfl,hb⟩:=hr3 (by omega)
          obtain⟨b',off',rfl,hb'⟩:=ht3 (by omega)
          have c4':i<tags.length:=by omega
          have hat:=at_rdm (L:=[blkO g #[.slice (some ⟨b,off,none⟩) rows.length cr,.slice (some ⟨b',off',none⟩) tags.length ct] 95]) hb' c4'
          obtain⟨cs,hcs,hrow⟩:=hb i c4
          obtain⟨q1,q2,q3⟩:=hcs
          have hti:=htr i c4'
          have hta:=int_at c4'
          have hra:=row_at c4
          have hbad:∀ (P:Prop),rowBad rows.length (tags.getD i 0) (rows.getD i [])=true→(if (List.range rows.length).any (fun i=>rowBad rows.length (tags.getD i 0) (rows.getD i []))=true then (1:Int) else 0)=1:=fun _ h=>if_pos (any_range c4 h)
          rw[hta,hra] at hbad
          by_cases c5:tags[i] < -1
          · rw[hbad True (by simp[rowBad,c5])]
            repeat(first|refine GA ?_|refine gV (rr_load1 TyC.ty rfl (at_blk (i:=0) rfl rfl)) ?_|refine gV (rr_idx1 Und.eq TyC.ty rfl rfl c4') ?_|refine gV (rr_load1 TyC.ty rfl hat) ?_)
            exact E_ret1 rfl rfl fun w hm=>hm.ret
          · by_cases c6:20≤tags[i]
            · rw[hbad True (by simp[rowBad,c6])]
              repeat(first|refine GA ?_|refine gV (rr_load1 TyC.ty rfl (at_blk (i:=0) rfl rfl)) ?_|refine gV (rr_idx1 Und.eq TyC.ty rfl rfl c4') ?_|refine gV (rr_load1 TyC.ty rfl hat) ?_)
              exact E_ret1 rfl rfl fun w hm=>hm.ret
            · repeat(first|refine GA ?_|refine gV (rr_load1 TyC.ty rfl (at_blk (i:=0) rfl rfl)) ?_|refine gV (rr_idx1 Und.eq TyC.ty rfl rfl c4') ?_|refine gV (rr_load1 TyC.ty rfl hat) ?_|refine gV (rr_idxc Und.eq TyC.ty rfl rfl c4) ?_|refine gV (rr_loadN TyC.ty rfl (by rw[q2,List.length_map,q1]) (fun j v hj=>at_rd hrow hj)) ?_)
              refine T_loop (ι:=Nat) (fun b=>b≤256∧∀ q,q<b→ -1≤rows[i].getD q 0∧rows[i].getD q 0<rows.length) (fun b=>[(1,.pointer (some ⟨g,0,none⟩)),(3,.int .i64 rows.length),(21,.int .i64 rows.length),(22,.int .i64 (i:Int)),(43,.agg cs.toArray),(44,.int .i64 (b:Int))]) (fun _=>[blkO g #[.slice (some ⟨b,off,none⟩) rows.length cr,.slice (some ⟨b',off',none⟩) tags.length ct] 95]) (fun b=>256 - b) 0 ⟨by omega,fun q hq=>by omega⟩ ⟨rfl,rfl,rfl,rfl,rfl,rfl,trivial⟩ rfl ?_
              rintro q ⟨k1,k2⟩
              by_cases c7:q<256
              · have hql:q<rows[i].length:=by omega
                have hqv:=int_at hql
                have hcell:cs.toArray[q]?=some (.int .i16 rows[i][q]):=by rw[q2];simp[hql]
                have hq3:=q3 _ (List.getElem_mem hql)
                have hmem:rows[i][q]∈rows[i]:=List.getElem_mem hql
                generalize rows[i][q]=z at *
                by_cases c8:z < -1
                · rw[hbad True (by simp only[rowBad,Bool.or_eq_true,List.any_eq_true];exact .inr ⟨z,hmem,by simp[c8]⟩)]
                  clear k2 h2 hr3 ht3
                  repeat(first|refine GA ?_|refine gV (rr_arridx Und.eq TyC.ty rfl rfl c7 hcell) ?_|refine gV (rr_conv Und.eq Und.eq rfl (wrap_in (by omega) (by omega))) ?_)
                  exact E_ret1 rfl rfl fun w hm=>hm.ret
                · by_cases c9:(rows.length:Int)≤z
                  · rw[hbad True (by simp only[rowBad,Bool.or_eq_true,List.any_eq_true];exact .inr ⟨z,hmem,by simp[c9]⟩)]
                    clear k2 h2 hr3 ht3
                    repeat(first|refine GA ?_|refine gV (rr_arridx Und.eq TyC.ty rfl rfl c7 hcell) ?_|refine gV (rr_conv Und.eq Und.eq rfl (wrap_in (by omega) (by omega))) ?_)
                    exact E_ret1 rfl rfl fun w hm=>hm.ret
                  · repeat(first|refine GA ?_|refine gV (rr_arridx Und.eq TyC.ty rfl rfl c7 hcell) ?_|refine gV (rr_conv Und.eq Und.eq rfl (wrap_in (by omega) (by omega))) ?_)
                    exact E_round (q+1) ⟨by omega,fun q' hq'=>if e:q'<q then k2 q' e else (by obtain rfl:q'=q:=(by omega);rw[hqv];omega)⟩ (by show 256 - (q+1)<256 - q;omega) ⟨rfl,rfl,rfl,rfl,rfl,rfl,trivial⟩ rfl
              · have hgood:rowBad rows.length (tags.getD i 0) (rows.getD i [])=false:=by
                  rw[hta,hra]
                  simp only[rowBad,Bool.or_eq_false_iff,decide_eq_false_iff_not,List.any_eq_false,Bool.not_eq_true]
                  refine⟨⟨c5,c6⟩,fun z hz => ?_⟩
                  obtain⟨q',hq',rfl⟩:=List.mem_iff_getElem.1 hz
                  have:=k2 q' (by omega)
                  rw[int_at hq'] at this
                  simp;omega
                try refine GA ?_
                exact E_round (i+1) ⟨by omega,fun j hj=>if e:j<i then h2 j e else (by obtain rfl:j=i:=(by omega);exact hgood)⟩ (by show rows.length - (i+1)<rows.length - i;omega) ⟨rfl,rfl,rfl,rfl,trivial⟩ rfl
        · have hno:¬ (List.range rows.length).any (fun i=>rowBad rows.length (tags.getD i 0) (rows.getD i []))=true:=by
            simp only[List.any_eq_true,List.mem_range,not_exists,not_and]
            intro j hj;rw[h2 j (by omega)];simp
          rw[if_neg hno]
          try refine GA ?_
          exact E_ret1 rfl rfl fun w hm=>hm.ret
      · rw[if_pos (.inr c3)]
        repeat(first|refine GA ?_|refine gV (rr_load1 TyC.ty rfl (at_blk (i:=0) rfl rfl)) ?_)
        exact E_ret1 rfl rfl fun w hm=>hm.ret
end Go.Proofs.Ytldiodhdefnlaaa.eng

/- SmB -/
namespace Go.Proofs.Ytldiodhdefnlaaa.smallL
structure Aut where
  n:Nat
  d:Nat→Nat→Int
  tag:Nat→Int
structure Aut.Ok (A:Aut):Prop where
  pos:0<A.n
  le:A.n≤200
  step:∀ i,i<A.n→∀ b,b<256→ -1≤A.d i b∧A.d i b<A.n
  tags:∀ i,i<A.n→ -1≤A.tag i∧A.tag i<20
abbrev Row:=Vector Int 256
abbrev Kind:=Int×Row
section
variable (A:Aut)
def val (now:Nat→Nat) (q:Int):Nat:=if q<0 then 0 else now q.toNat
def kind (now:Nat→Nat) (i:Nat):Kind:=((now i:Int),Vector.ofFn fun b:Fin 256=>(val now (A.d i b):Int))
def dead:Kind:=(0,Vector.replicate 256 0)
def kinds (now:Nat→Nat):List Kind:=(List.range A.n).map (kind A now)
def tab (now:Nat→Nat):List Kind:=firsts [dead] (kinds A now)
def next (now:Nat→Nat) (i:Nat):Nat:=idx (tab A now) (kind A now i)
def blkGo:Nat→Nat→(Nat→Nat)→Nat→Nat
  | 0,_,now=>now
  | f+1,n,now=>if (tab A now).length=n then next A now else blkGo f (tab A now).length (next A now)
def now0 (i:Nat):Nat:=(A.tag i+1).toNat
def blocksF:Nat→Nat:=blkGo A (A.n+2) 0 (now0 A)
def tg (q:Int):Int:=if q<0 then -1 else A.tag q.toNat
def dt (q:Int) (b:Nat):Int:=if q<0 then -1 else A.d q.toNat b
def go:Int→List UInt8→Int
  | q,[]=>q
  | q,b::s=>go (dt A q b.toNat) s
def St (q:Int):Prop:= -1≤q∧q<A.n
def same (q r:Int):Prop:=∀ s,tg A (go A q s)=tg A (go A r s)
def kd (now:Nat→Nat) (q:Int):Kind:=if q<0 then dead else kind A now q.toNat
end
section
variable {A:Aut}
theorem st_dt (hA:A.Ok) {q:Int} (hq:St A q) {b:Nat} (hb:b<256):St A (dt A q b):=by
  unfold St dt at *
  have:=hA.pos
  split
  · omega
  · exact hA.step q.toNat (by omega) b hb
theorem same_step {q r:Int} (h:same A q r) (b:Nat) (hb:b<256):same A (dt A q b) (dt A r b):=fun s=>by
  have:=h (UInt8.ofNat b::s)
  have e:(UInt8.ofNat b).toNat=b:=by simp;omega
  simp only[go,e] at this
  exact this
theorem val_kd (now:Nat→Nat) (q:Int):(kd A now q).1=(val now q:Int):=by
  unfold kd val dead kind;split <;> rfl
theorem kd_row (now:Nat→Nat) (q:Int) (b:Nat) (hb:b<256):(kd A now q).2[b]=(val now (dt A q b):Int):=by
  unfold kd dt dead kind
  split
  · simp[val]
  · simp
theorem kd_eq {now:Nat→Nat} {q r:Int}:kd A now q=kd A now r↔val now q=val now r∧∀ b,b<256→val now (dt A q b)=val now (dt A r b):=by
  constructor
  · intro h
    refine⟨?_,fun b hb => ?_⟩
    · have e:(kd A now q).1=(kd A now r).1:=by rw[h]
      rw[val_kd,val_kd] at e;exact Int.ofNat.inj e
    · have e:(kd A now q).2[b]=(kd A now r).2[b]:=by rw[h]
      rw[kd_row _ _ _ hb,kd_row _ _ _ hb] at e;exact Int.ofNat.inj e
  · rintro⟨h1,h2⟩
    refine Prod.ext ?_ (Vector.ext fun b hb => ?_)
    · rw[val_kd,val_kd,h1]
    · rw[kd_row _ _ _ hb,kd_row _ _ _ hb,h2 b hb]
theorem dead_tab (now:Nat→Nat):dead∈tab A now:=mem_firsts.2 (.inl (by simp))
theorem kind_tab {now:Nat→Nat} {i:Nat} (h:i<A.n):kind A now i∈tab A now:=mem_firsts.2 (.inr (List.mem_map.2 ⟨i,List.mem_range.2 h,rfl⟩))
theorem kd_tab {now:Nat→Nat} {q:Int} (h:q<A.n):kd A now q∈tab A now:=by
  unfold kd;split
  · exact dead_tab now
  · exact kind_tab (by omega)
theorem tab_nodup (now:Nat→Nat):(tab A now).Nodup:=firsts_nodup _ _ (by simp)
theorem tab_le (now:Nat→Nat):(tab A now).length≤A.n+1:=by
  have h:∀ (l D:List Kind),(firsts D l).length≤D.length+l.length:=by
    intro l
    induction l with
    | nil=>intro D;simp[firsts]
    | cons k l ih=>
      intro D
      have:=ih (more D k)
      have h2:(more D k).length≤D.length+1:=by unfold more;split <;> simp
      show (firsts (more D k) l).length≤_
      simp;omega
  have:=h (kinds A now) [dead]
  unfold tab
  simp[kinds] at this ⊢
  omega
theorem tab_pos (now:Nat→Nat):0<(tab A now).length:=List.length_pos_of_mem (dead_tab now)
theorem val_next (now:Nat→Nat) {q:Int}:val (next A now) q=idx (tab A now) (kd A now q):=by
  unfold val kd
  split
  · obtain⟨E,h⟩:=firsts_pre (kinds A now) [dead]
    rw[tab,h]
    exact (idx_head dead E).symm
  · rfl
theorem val_next_lt {now:Nat→Nat} {q:Int} (h:q<A.n):val (next A now) q<(tab A now).length:=by
  rw[val_next];exact idx_lt (kd_tab h)
theorem next_eq {now:Nat→Nat} {q r:Int} (hq:q<A.n):val (next A now) q=val (next A now) r↔kd A now q=kd A now r:=by
  rw[val_next,val_next]
  exact⟨fun h=>idx_inj (kd_tab hq) h,fun h=>by rw[h]⟩
theorem next_finer {now:Nat→Nat} {q r:Int} (hq:q<A.n) (h:val (next A now) q=val (next A now) r):val now q=val now r:=(kd_eq.1 ((next_eq hq).1 h)).1
theorem next_all {now:Nat→Nat} {v:Nat} (h:v<(tab A now).length):∃ q:Int,St A q∧val (next A now) q=v:=by
  have hm:(tab A now)[v]∈tab A now:=List.getElem_mem h
  have hi:idx (tab A now) (tab A now)[v]=v:=idx_of_get (tab_nodup now) h
  rcases mem_firsts.1 hm with hd | hk
  · refine⟨-1,⟨by omega,by omega⟩,?_⟩
    rw[val_next,show kd A now (-1)=dead from rfl,←List.mem_singleton.1 hd];exact hi
  · obtain⟨i,h1,h2⟩:=List.mem_map.1 hk
    rw[List.mem_range] at h1
    refine⟨i,⟨by omega,by omega⟩,?_⟩
    have e:kd A now (i:Int)=kind A now i:=by unfold kd;rw[if_neg (by omega),Int.toNat_natCast]
    rw[val_next,e,h2];exact hi
def Round (A:Aut) (n:Nat) (now:Nat→Nat):Prop:=∃ was,now=next A was∧n=(tab A was).length
def stOf (A:Aut) (x:Nat):Int:=if x<A.n then (x:Int) else -1
theorem of_st {q:Int} (h:St A q):∃ x,x<A.n+1∧stOf A x=q:=by
  unfold St at h
  by_cases c:q<0
  · exact⟨A.n,by omega,by unfold stOf;rw[if_neg (by omega)];omega⟩
  · exact⟨q.toNat,by omega,by unfold stOf;rw[if_pos (by omega)];omega⟩
theorem stOf_lt (x:Nat):stOf A x<A.n:=by unfold stOf;split <;> omega
theorem round_mono {n:Nat} {now:Nat→Nat} (h:Round A n now):n≤(tab A now).length∧((tab A now).length=n→∀ q r,St A q→St A r→val now q=val now r→val (next A now) q=val (next A now) r):=by
  obtain⟨was,rfl,rfl⟩:=h
  have h:=finer_same (N:=A.n+1) (f:=fun x=>val (next A was) (stOf A x)) (g:=fun x=>val (next A (next A was)) (stOf A x)) (n:=(tab A was).length) (c:=(tab A (next A was)).length)
    (fun v hv=>by
      obtain⟨q,hq,e⟩:=next_all hv
      obtain⟨x,hx,e2⟩:=of_st hq
      exact⟨x,hx,by show val (next A was) (stOf A x)=v;rw[e2];exact e⟩)
    (fun x _=>val_next_lt (stOf_lt x)) (fun x y _ _ e=>next_finer (stOf_lt x) e)
  refine⟨h.1,fun hc q r hq hr e => ?_⟩
  obtain⟨x,hx,rfl⟩:=of_st hq
  obtain⟨y,hy,rfl⟩:=of_st hr
  exact h.2 hc (fun x _=>val_next_lt (stOf_lt x)) x y hx hy e
structure Way (A:Aut) (now:Nat→Nat):Prop where
  tags:∀ q r,St A q→St A r→val now q=val now r→tg A q=tg A r
  coarse:∀ q r,St A q→St A r→same A q r→val now q=val now r
theorem way0 (hA:A.Ok):Way A (now0 A) where
  tags q r hq hr h:=by
    unfold St at hq hr
    unfold val now0 at h
    unfold tg
    have h1:=fun c=>hA.tags q.toNat (c:q.toNat<A.n)
    have h2:=fun c=>hA.tags r.toNat (c:r.toNat<A.n)
    by_cases c1:q<0 <;> by_cases c2:r<0 <;> simp only[c1,c2,if_true,if_false] at h ⊢
    · have:=h2 (by omega);omega
    · have:=h1 (by omega);omega
    · have:=h1 (by omega);have:=h2 (by omega);omega
  coarse q r hq hr h:=by
    have:=h []
    simp only[go] at this
    unfold tg at this
    unfold val now0
    by_cases c1:q<0 <;> by_cases c2:r<0 <;> simp only[c1,c2,if_true,if_false] at this ⊢ <;> omega
theorem way_next (hA:A.Ok) {now:Nat→Nat} (h:Way A now):Way A (next A now) where
  tags q r hq hr e:=h.tags q r hq hr (next_finer hq.2 e)
  coarse q r hq hr e:=(next_eq hq.2).2 (kd_eq.2 ⟨h.coarse q r hq hr e,fun b hb=>h.coarse _ _ (st_dt hA hq hb) (st_dt hA hr hb) (same_step e b hb)⟩)
structure Blocks (A:Aut) (bl:Nat→Nat):Prop where
  le:∀ i,i<A.n→bl i≤A.n
  tags:∀ q r,St A q→St A r→val bl q=val bl r→tg A q=tg A r
  step:∀ q r,St A q→St A r→val bl q=val bl r→∀ b,b<256→val bl (dt A q b)=val bl (dt A r b)
  coarse:∀ q r,St A q→St A r→same A q r→val bl q=val bl r
theorem blocks_end (hA:A.Ok) {n:Nat} {now:Nat→Nat} (hr:Round A n now) (hw:Way A now) (hc:(tab A now).length=n):Blocks A (next A now) where
  le i hi:=by
    have:=val_next_lt (A:=A) (now:=now) (q:=(i:Int)) (by omega)
    have h2:=tab_le (A:=A) now
    unfold val at this
    rw[if_neg (by omega),Int.toNat_natCast] at this
    omega
  tags:=(way_next hA hw).tags
  coarse:=(way_next hA hw).coarse
  step q r hq hr' e b hb:=(round_mono hr).2 hc _ _ (st_dt hA hq hb) (st_dt hA hr' hb) ((kd_eq.1 ((next_eq hq.2).1 e)).2 b hb)
theorem blk_go (hA:A.Ok):∀ (f n:Nat) (now:Nat→Nat),(n=0∨Round A n now)→n≤A.n+1→A.n+2≤f+n→Way A now→Blocks A (blkGo A f n now)
  | 0,n,now,_,h1,h2,_=>by omega
  | f + 1,n,now,hr,h1,h2,hw=>by
    unfold blkGo
    have hp:=tab_pos (A:=A) now
    split
    · rename_i hc
      rcases hr with rfl | hr
      · omega
      · exact blocks_end hA hr hw hc
    · rename_i hc
      refine blk_go hA f _ _ (.inr ⟨now,rfl,rfl⟩) (tab_le now) ?_ (way_next hA hw)
      rcases hr with rfl | hr
      · omega
      · have:=(round_mono hr).1;omega
theorem blocks_of (hA:A.Ok):Blocks A (blocksF A):=blk_go hA _ _ _ (.inl rfl) (Nat.zero_le _) (by omega) (way0 hA)
theorem Blocks.same (hA:A.Ok) {bl:Nat→Nat} (h:Blocks A bl) {q r:Int} (hq:St A q) (hr:St A r):val bl q=val bl r↔same A q r:=by
  refine⟨fun e s => ?_,h.coarse q r hq hr⟩
  induction s generalizing q r with
  | nil=>exact h.tags q r hq hr e
  | cons b s ih=>exact ih (st_dt hA hq b.toNat_lt) (st_dt hA hr b.toNat_lt) (h.step q r hq hr e _ b.toNat_lt)
end
end Go.Proofs.Ytldiodhdefnlaaa.smallL

/- MapN -/
namespace Go.Proofs.Ytldiodhdefnlaaa.eng
open Go.RowKit kit mix smallL
def mapAt {κ:Type} [DecidableEq κ] (D:List κ) (x:κ):Option Value:=if x∈D then some (.int .i64 (idx D x:Int)) else none
theorem mapAt_add {κ:Type} [DecidableEq κ] {D:List κ} {x:κ} (hn:x∉D):(fun y=>if y=x then some (.int .i64 (D.length:Int)) else mapAt D y)=mapAt (D++[x]):=by
  funext y
  unfold mapAt
  by_cases c:y=x
  · subst c
    rw[if_pos rfl,if_pos (by simp)]
    have:=idx_more (D:=D) (k:=y)
    unfold more at this
    rw[if_neg hn,if_neg hn] at this
    rw[this]
  · rw[if_neg c]
    by_cases c2:y∈D
    · rw[if_pos c2,if_pos (List.mem_append_left _ c2),idx_pre c2]
    · rw[if_neg c2,if_neg (by simp[c,c2])]
section
variable {P:Program} {k:TypeId} {κ:Type} {K:KeyT P k κ}
variable {W:Base} {fr:Fr} {L:List Own} {Q:Exit→Act→World→Prop} {ops:Array Oper} {rest:List Oper} {n d:Nat} {dst:Option Tmp} {ty:TypeId} {pos:String} {after:Array Edge} {guard:Option (Nat×Bool)} {i g c:Nat} {t e:TypeId} {D:List κ} {x:κ} {z:Value} {xm xk xv:Operand} [DecidableEq κ]
theorem rr_lookNumS (ht:P.underlying t=some (.map k e)) (hz:∀ w,(zeroValue e).run P w = .ok z w) (hi:L[i]?=some (mapO K g (mapAt D) c)) (hm:ev fr xm=some (.map (some g))) (hk:ev fr xk=some (K.kv x)) (hx:K.ok x) (hn:x∈D):RR P n W ⟨dst,.lookup t xm xk true,ty,pos,after,guard⟩ fr L (.tuple #[.int .i64 (idx D x:Int),.bool true]):=by
  have:=rr_lookOk (n:=n) (W:=W) (dst:=dst) (ty:=ty) (pos:=pos) (after:=after) (guard:=guard) K ht hz hi hm hk hx
  rw[show mapAt D x=some (.int .i64 (idx D x:Int)) from if_pos hn] at this
  exact this
theorem rr_lookNumN (ht:P.underlying t=some (.map k e)) (hz:∀ w,(zeroValue e).run P w = .ok z w) (hi:L[i]?=some (mapO K g (mapAt D) c)) (hm:ev fr xm=some (.map (some g))) (hk:ev fr xk=some (K.kv x)) (hx:K.ok x) (hn:x∉D):RR P n W ⟨dst,.lookup t xm xk true,ty,pos,after,guard⟩ fr L (.tuple #[z,.bool false]):=by
  have:=rr_lookOk (n:=n) (W:=W) (dst:=dst) (ty:=ty) (pos:=pos) (after:=after) (guard:=guard) K ht hz hi hm hk hx
  rw[show mapAt D x=none from if_neg hn] at this
  exact this
theorem TL_mapNew (hn:Nat.blt d n=true) (h:∀ g,TL P n W ops Q rest ((d,.map (some g))::fr) (L++[mapO K g (mapAt []) 0])) :
    TL P n W ops Q (⟨some d,.makeMap t none,ty,pos,after,none⟩::rest) fr L:=by
  refine TL_map K hn fun g => ?_
  have e:(fun (_:κ)=>(none:Option Value))=mapAt []:=by funext y;unfold mapAt;rw[if_neg (by simp)]
  rw[e];exact h g
theorem TL_mapNum (ht:P.underlying t=some (.map k e)) (hi:L[i]?=some (mapO K g (mapAt D) D.length)) (hm:ev fr xm=some (.map (some g))) (hk:ev fr xk=some (K.kv x)) (hv:ev fr xv=some (.int .i64 (D.length:Int))) (hx:K.ok x) (hn:x∉D) (hc:D.length≤1152921504606846976)
    (h:TL P n W ops Q rest fr (L.set i (mapO K g (mapAt (D++[x])) (D++[x]).length))) :
    TL P n W ops Q (⟨none,.mapUpdate t xm xk xv,ty,pos,after,none⟩::rest) fr L:=by
  refine TL_mapSet K ht hi hm hk hv hx hc ?_
  rw[mapAt_add hn]
  rw[show mapAt D x=none from if_neg hn]
  rw[show (D++[x]).length=D.length+1 by simp] at h
  exact h
end
end Go.Proofs.Ytldiodhdefnlaaa.eng

/- Fam -/
namespace Go.Proofs.Ytldiodhdefnlaaa.eng
open Go.RowKit kit mix
def famP (D:Nat→Prop) (f:Nat→Own):Own where
  blk:=none
  more:=fun k=>∃ i,D i∧(f i).foot k
  holds:=fun w=>(∀ i,D i→(f i).holds w)∧∀ i j,D i→D j→i≠j→∀ k,(f i).foot k→¬ (f j).foot k
  lt:=fun w h k hk=>by
    rcases hk with hk | ⟨i,hi,hk⟩
    · cases hk
    · exact (f i).lt w (h.1 i hi) k hk
  stay:=fun w w' h hs hb=>⟨fun i hi=>(f i).stay w w' (h.1 i hi) hs fun k hk=>hb k (.inr ⟨i,hi,hk⟩),h.2⟩
theorem fam_congr {D D':Nat→Prop} {f f':Nat→Own} (h1:∀ k,D' k→D k) (h2:∀ k,D' k→f' k=f k) (w:World) (h:(famP D f).holds w):(famP D' f').holds w:=
  ⟨fun i hi=>by rw[h2 i hi];exact h.1 i (h1 i hi),fun i j hi hj hij=>by rw[h2 i hi,h2 j hj];exact h.2 i j (h1 i hi) (h1 j hj) hij⟩
theorem fam_foot {D D':Nat→Prop} {f f':Nat→Own} (h1:∀ k,D' k→D k) (h2:∀ k,D' k→f' k=f k) (k:Nat) (h:(famP D' f').foot k):(famP D f).foot k:=by
  rcases h with h | ⟨i,hi,hk⟩
  · cases h
  · exact .inr ⟨i,h1 i hi,by rw[←h2 i hi];exact hk⟩
def upd (f:Nat→Own) (i:Nat) (o:Own):Nat→Own:=fun k=>if k=i then o else f k
theorem upd_ne {f:Nat→Own} {i j:Nat} {o:Own} (h:j≠i):upd f i o j=f j:=by unfold upd;rw[if_neg h]
theorem upd_eq {f:Nat→Own} {i:Nat} {o:Own}:upd f i o i=o:=by unfold upd;rw[if_pos rfl]
theorem fam_put {D:Nat→Prop} {f:Nat→Own} {i:Nat} {o:Own} {w:World} (hi:¬ D i) (h:(famP D f).holds w) (ho:o.holds w) (ha:∀ k,(famP D f).foot k→¬ o.foot k):(famP (fun k=>D k∨k=i) (upd f i o)).holds w:=by
  have hf:∀ j,D j→upd f i o j=f j:=fun j hj=>upd_ne fun e=>hi (by subst e;exact hj)
  have hg:upd f i o i=o:=upd_eq
  refine⟨fun j hj => ?_,fun j k hj hk hjk q hq hq' => ?_⟩
  · rcases hj with hj | rfl
    · rw[hf j hj];exact h.1 j hj
    · rw[hg];exact ho
  · rcases hj with hj | rfl <;> rcases hk with hk | rfl
    · rw[hf j hj] at hq;rw[hf k hk] at hq';exact h.2 j k hj hk hjk q hq hq'
    · rw[hf j hj] at hq;rw[hg] at hq';exact ha q (.inr ⟨j,hj,hq⟩) hq'
    · rw[hg] at hq;rw[hf k hk] at hq';exact ha q (.inr ⟨k,hk,hq'⟩) hq
    · exact hjk rfl
theorem fam_putF {D:Nat→Prop} {f:Nat→Own} {i:Nat} {o:Own} (hi:¬ D i) (k:Nat) (h:(famP (fun k=>D k∨k=i) (upd f i o)).foot k):(famP D f).foot k∨o.foot k:=by
  rcases h with h | ⟨j,hj,hk⟩
  · cases h
  · rcases hj with hj | rfl
    · exact .inl (.inr ⟨j,hj,by rw[upd_ne fun e=>hi (by subst e;exact hj)] at hk;exact hk⟩)
    · exact .inr (by rw[upd_eq] at hk;exact hk)
section
variable {P:Program} {n:Nat} {W:Base} {fr:Fr} {L:List Own} {Q:Exit→Act→World→Prop} {ops:Array Oper} {rest:List Oper} {d:Nat}
theorem Mem.split {w:World} {q:Nat} {o:Own} (o1 o2:Own) (h:Mem W L w) (hq:L[q]?=some o) (h1:∀ w,o.holds w→o1.holds w) (h2:∀ w,o.holds w→o2.holds w) (f1:∀ k,o1.foot k→o.foot k) (f2:∀ k,o2.foot k→o.foot k) (ha:∀ w,o.holds w→∀ k,o1.foot k→¬ o2.foot k):Mem W (L.set q o1++[o2]) w:=by
  have hr:=h.reown o1 hq h1 f1
  have hoq:=h.owns.all q o hq
  have hlen:q<L.length:=(List.getElem?_eq_some_iff.1 hq).1
  refine⟨h.low,OwnsP.both hr.owns (OwnsP.one (h2 w hoq.1) fun k hk=>hoq.2 k (f2 k hk)) fun i j a b hi hj k hk hk' => ?_⟩
  match j,hj with
  | 0,hj=>
    simp only[List.getElem?_cons_zero,Option.some.injEq] at hj;subst hj
    by_cases e:q=i
    · subst e
      rw[List.getElem?_set_self hlen] at hi
      simp only[Option.some.injEq] at hi;subst hi
      exact ha w hoq.1 k hk hk'
    · rw[List.getElem?_set_ne e] at hi
      exact h.owns.apart i q a o (Ne.symm e) hi hq k hk (f2 k hk')
  | j+1,hj=>simp at hj
theorem Mem.merge2A {w:World} (o:Own) (i j:Nat) (js:List Nat) {o1 o2:Own} {R:List Own} (h:Mem W L w) (hn:([i,j]++js).Nodup) (h1:L[i]?=some o1) (h2:L[j]?=some o2) (hR:R=js.filterMap fun i=>L[i]?) (hf:∀ k,o.foot k→o1.foot k∨o2.foot k) (hh:∀ w,o1.holds w→o2.holds w→(∀ k,o1.foot k→¬ o2.foot k)→o.holds w):Mem W (R++[o]) w:=by
  have hij:i≠j:=fun e=>by subst e;simp at hn
  have ha:=h.owns.apart i j o1 o2 hij h1 h2
  refine Mem.merge o (h.pick ([i,j]++js) hn ?_) hf (fun a b=>hh w a b ha)
  rw[List.filterMap_append,←hR]
  congr 1
  rw[List.filterMap_cons_some (by exact h1),List.filterMap_cons_some (by exact h2)];rfl
theorem Mem.take {w:World} {q:Nat} {D:Nat→Prop} {f:Nat→Own} (i:Nat) (h:Mem W L w) (hq:L[q]?=some (famP D f)) (hi:D i):Mem W (L.set q (famP (fun k=>D k∧k≠i) f)++[f i]) w:=
  h.split _ _ hq (fun w h=>fam_congr (fun k h=>h.1) (fun _ _=>rfl) w h) (fun w h=>h.1 i hi) (fun k h=>fam_foot (fun k h=>h.1) (fun _ _=>rfl) k h) (fun k h=> .inr ⟨i,hi,h⟩) fun w h k hk hk'=>by
    rcases hk with hk | ⟨j,⟨hj,hne⟩,hk⟩
    · cases hk
    · exact h.2 j i hj hi hne k hk hk'
theorem T_take {c:Code} {q:Nat} {D:Nat→Prop} {f:Nat→Own} (i:Nat) (hq:L[q]?=some (famP D f)) (hi:D i) (h:T P n W c Q fr (L.set q (famP (fun k=>D k∧k≠i) f)++[f i])):T P n W c Q fr L:=⟨fun a w hr hm=>h.go a w hr (hm.take i hq hi)⟩
theorem TL_take {q:Nat} {D:Nat→Prop} {f:Nat→Own} (i:Nat) (hq:L[q]?=some (famP D f)) (hi:D i) (h:TL P n W ops Q rest fr (L.set q (famP (fun k=>D k∧k≠i) f)++[f i])):TL P n W ops Q rest fr L:=⟨fun a w hr hm=>h.go a w hr (hm.take i hq hi)⟩
theorem Mem.put {w:World} {D D':Nat→Prop} {f f':Nat→Own} {o:Own} {R:List Own} (x q j:Nat) (js:List Nat) (h:Mem W L w) (hn:([q,j]++js).Nodup) (hq:L[q]?=some (famP D f)) (hj:L[j]?=some o) (hR:R=js.filterMap fun i=>L[i]?) (hx:¬ D x) (hD:∀ k,D' k→D k∨k=x) (hf:∀ k,D' k→f' k=upd f x o k):Mem W (R++[famP D' f']) w:=
  h.merge2A _ q j js hn hq hj hR (fun k hk=>fam_putF hx k (fam_foot hD hf k hk)) fun w h1 h2 h3=>fam_congr hD hf w (fam_put hx h1 h2 h3)
theorem TL_put {D D':Nat→Prop} {f f':Nat→Own} {o:Own} {R:List Own} (x q j:Nat) (js:List Nat) (hn:([q,j]++js).Nodup) (hq:L[q]?=some (famP D f)) (hj:L[j]?=some o) (hR:R=js.filterMap fun i=>L[i]?) (hx:¬ D x) (hD:∀ k,D' k→D k∨k=x) (hf:∀ k,D' k→f' k=upd f x o k) (h:TL P n W ops Q rest fr (R++[famP D' f'])):TL P n W ops Q rest fr L:=⟨fun a w hr hm=>h.go a w hr (hm.put x q j js hn hq hj hR hx hD hf)⟩
theorem E_put {e:Exit} {D D':Nat→Prop} {f f':Nat→Own} {o:Own} {R:List Own} (x q j:Nat) (js:List Nat) (hn:([q,j]++js).Nodup) (hq:L[q]?=some (famP D f)) (hj:L[j]?=some o) (hR:R=js.filterMap fun i=>L[i]?) (hx:¬ D x) (hD:∀ k,D' k→D k∨k=x) (hf:∀ k,D' k→f' k=upd f x o k) (h:E n W e Q fr (R++[famP D' f'])):E n W e Q fr L:=⟨fun a w hr hm=>h.go a w hr (hm.put x q j js hn hq hj hR hx hD hf)⟩
theorem at_hold {q:Nat} {o:Own} {p:Addr} {v:Value} (hq:L[q]?=some o) (h:∀ w,o.holds w→w.cell? p=some v):At W L p v:=fun w hm=>h w (hm.get hq)
theorem row_cell {g off size cap m k:Nat} {e:TypeId} {xs:List Value} {v:Value} {w:World} (h:(rowO e size (.slice (some ⟨g,0,none⟩) m cap) k xs).holds w) (hv:xs[off]?=some v):w.cell? ⟨g,off,none⟩=some v:=by
  have h:w.ownsRow 0 e size (.slice (some ⟨g,0,none⟩) m cap) k xs:=h
  have:=h.cells (g:=g) rfl off v hv
  rwa [addr_add,Nat.zero_add] at this
def tabA {α:Type} (len:Nat) (f:Nat→α):List α:=(List.range len).map f
section
variable {α:Type}
theorem tabA_len (len:Nat) (f:Nat→α):(tabA len f).length=len:=by simp[tabA]
theorem tabA_get {len:Nat} (f:Nat→α) {k:Nat} (h:k<len):(tabA len f)[k]?=some (f k):=by simp[tabA,h]
theorem tabA_set {len:Nat} (f g:Nat→α) (k:Nat) (v:α) (h:∀ i,i<len→g i=if i=k then v else f i):(tabA len f).set k v=tabA len g:=by
  apply List.ext_getElem?
  intro i
  rw[List.getElem?_set]
  by_cases hi:i<len
  · rw[tabA_get g hi,h i hi]
    by_cases e:k=i
    · subst e;simp[tabA_len,hi]
    · rw[if_neg e,if_neg (fun e'=>e e'.symm),tabA_get f hi]
  · have h1:(tabA len g)[i]?=none:=List.getElem?_eq_none (by rw[tabA_len];omega)
    have h2:(tabA len f)[i]?=none:=List.getElem?_eq_none (by rw[tabA_len];omega)
    rw[h1,h2]
    by_cases e:k=i
    · subst e;simp[tabA_len,hi]
    · rw[if_neg e]
theorem tabA_congr {len:Nat} {f g:Nat→α} (h:∀ i,i<len→f i=g i):tabA len f=tabA len g:=by
  unfold tabA
  apply List.map_congr_left
  intro i hi
  exact h i (by simpa using hi)
theorem tabA_const (val:α→Value) (a:α) (len:Nat):(tabA len fun _=>a).map val=List.replicate len (val a):=by
  unfold tabA
  rw[List.map_map]
  apply List.ext_getElem?
  intro i
  by_cases h:i<len <;> simp[h]
def rowA (e:TypeId) (val:α→Value) (g len:Nat) (f:Nat→α):Own:=rowO e 1 (.slice (some ⟨g,0,none⟩) len len) len ((tabA len f).map val)
theorem rowA_congr {e:TypeId} {val:α→Value} {g len:Nat} {f f':Nat→α} (h:∀ i,i<len→f i=f' i):rowA e val g len f=rowA e val g len f':=by unfold rowA;rw[tabA_congr h]
theorem at_rowA {e:TypeId} {val:α→Value} {i g len k:Nat} {f:Nat→α} (hi:L[i]?=some (rowA e val g len f)) (hk:k<len):At W L ⟨g,0+k,none⟩ (val (f k)):=at_row hi (by rw[Nat.zero_add,List.getElem?_map,tabA_get f hk];rfl)
theorem rowA_cell {e:TypeId} {val:α→Value} {g len k:Nat} {f:Nat→α} {w:World} (h:(rowA e val g len f).holds w) (hk:k<len):w.cell? ⟨g,0+k,none⟩=some (val (f k)):=row_cell h (by rw[Nat.zero_add,List.getElem?_map,tabA_get f hk];rfl)
theorem rowA_set {e:TypeId} {val:α→Value} {g len k:Nat} {v:α} {f f':Nat→α} (h:∀ i,i<len→f' i=if i=k then v else f i):rowO e 1 (.slice (some ⟨g,0,none⟩) len len) len (((tabA len f).map val).set k (val v))=rowA e val g len f':=by
  unfold rowA
  rw[←List.map_set,tabA_set f f' k v h]
theorem TL_storeA {e:TypeId} {val:α→Value} {ty:TypeId} {pos:String} {after:Array Edge} {t:TypeId} {p x:Operand} {i g off len:Nat} {v:α} {f:Nat→α} (f':Nat→α) (hT:Ty P t false 1) (hi:L[i]?=some (rowA e val g len f)) (hp:ev fr p=some (.pointer (some ⟨g,0+off,none⟩))) (hx:ev fr x=some (val v)) (h1:(val v).cells=#[val v]) (h2:(val v).oneCell'=true) (hk:off<len) (hf:∀ i,i<len→f' i=if i=off then v else f i)
    (h:TL P n W ops Q rest fr (L.set i (rowA e val g len f'))):TL P n W ops Q (⟨none,.store t p x,ty,pos,after,none⟩::rest) fr L:=
  TL_storeRow hT hi hp hx h1 rfl h2 (by rw[List.length_map,tabA_len,Nat.zero_add];exact hk) (by rw[Nat.zero_add,rowA_set hf];exact h)
theorem TL_makeA {t e:TypeId} {x y:Operand} {bytes m:Nat} {k k':IntKind} {ty:TypeId} {pos:String} {after:Array Edge} (val:α→Value) (z:α) [ElC P t e 1 bytes] [ZeroC P e #[val z]] (hx:ev fr x=some (.int k (m:Int))) (hy:ev fr y=some (.int k' (m:Int))) (hb:bytes*m≤281474976710656) (h63:m≤9223372036854775807) (hn:Nat.blt d n=true)
    (h:∀ g,TL P n W ops Q rest ((d,.slice (some ⟨g,0,none⟩) m m)::fr) (L++[rowA e val g m fun _=>z])):TL P n W ops Q (⟨some d,.makeSlice t x y,ty,pos,after,none⟩::rest) fr L:=
  TL_makeRow hx hy hb h63 hn fun g=>by
    have:=h g
    unfold rowA at this
    rw[tabA_const] at this
    exact this
end
end
end Go.Proofs.Ytldiodhdefnlaaa.eng

/- Sym -/
namespace Go.Proofs.Ytldiodhdefnlaaa.eng
open Go.RowKit kit mix gramL
def symC (x:Sym):List Value:=[.int .i64 x.1,.int .i64 x.2]
def okSym (x:Sym):Prop:=kit.okI64 x.1∧kit.okI64 x.2
theorem eq_sym (f f':Sym) (w:World):(Op.equalIn 10000 112 (.agg (symC f).toArray) (.agg (symC f').toArray)).run Try.prog w = .ok (decide (f=f')) w:=by
  obtain⟨k,q⟩:=f
  obtain⟨k',q'⟩:=f'
  unfold symC
  go_simp
  by_cases e1:k=k' <;> by_cases e2:q=q' <;> simp[e1,e2]
def symS:Shp Sym:=flatS symC 2 (fun _=>rfl) okSym
def prodS:Shp gramL.Prod:=pairS intS (sliceS symS)
def graV (t n:Int) (vp:Value):Value:= .agg #[.int .i64 t,.int .i64 n,vp]
def GraR (F:Nat→Prop) (w:World) (v:Value) (g:Gram):Prop:=∃ vp,v=graV g.terms g.nons vp∧SlF prodS F w vp g.prods∧kit.okI64 g.terms∧kit.okI64 g.nons
theorem GraR.stay {F:Nat→Prop} {w w':World} {v:Value} {g:Gram} (h:GraR F w v g) (hk:∀ k,F k→w'.heap[k]?=w.heap[k]?):GraR F w' v g:=
  let ⟨vp,h1,h2,h3⟩:=h;⟨vp,h1,h2.stay hk,h3⟩
theorem SlF.gr {α:Type} {s:Shp α} {w w':World} {v:Value} {l:List α} (h:SlF s (fun k=>k<w.heap.size) w v l) (hg:Gr w w'):SlF s (fun k=>k<w'.heap.size) w' v l:=
  (h.stay fun k hk=>hg.block k hk).mono fun k hk=>Nat.lt_of_lt_of_le hk hg.size
theorem GraR.gr {w w':World} {v:Value} {g:Gram} (h:GraR (fun k=>k<w.heap.size) w v g) (hg:Gr w w'):GraR (fun k=>k<w'.heap.size) w' v g:=
  let ⟨vp,h1,h2,h3⟩:=h;⟨vp,h1,h2.gr hg,h3⟩
theorem prod_at {F:Nat→Prop} {w:World} {b off:Nat} {l:List gramL.Prod} (h:∀ i (h:i<l.length),∃ cs,prodS.is F w cs l[i]∧Rd w b (off+i*prodS.c) cs) {k:Nat} (hk:k<l.length) :
    ∃ base cap,Rd w b (off+k*2) [.int .i64 l[k].1,.slice base l[k].2.length cap]∧kit.okI64 l[k].1∧SlF symS F w (.slice base l[k].2.length cap) l[k].2:=by
  obtain⟨cs,⟨c1,c2,rfl,⟨rfl,hok⟩,⟨vb,rfl,hvb⟩⟩,hr⟩:=h k hk
  have hvb':=hvb
  obtain⟨base,cap,rfl,_⟩:=hvb'
  exact⟨base,cap,hr,hok,hvb⟩
end Go.Proofs.Ytldiodhdefnlaaa.eng

/- SymS -/
namespace Go.Proofs.Ytldiodhdefnlaaa.eng
open Go.RowKit kit mix gramL
theorem SymS_len (a:Sym):(symC a).length=2:=rfl
set_option maxHeartbeats 2000000 in
theorem indexFuncSymS_calls (v:Value) (l:List Sym) (w:World) (hs:Sl w v l.length (l.flatMap symC)) (fid:FuncId) (first cp:Array Value) (p:Sym→Bool) (hen:Enters Try.prog fid)
    (hp:∀ a∈l,∀ w',Gr w w'→Calls Try.prog fid (first++#[(.agg (symC a).toArray)]++cp) w' (Meets (ret (.bool (p a))) w')) :
    Calls Try.prog 50 #[v,.func (.func fid) first cp] w (Meets (ret (.int .i64 (idxF p l))) w):=by
  obtain⟨base,cap,rfl,hcap,hmax,hrd⟩:=hs
  unfold maxLen at hmax
  refine enter (args:=[.slice base l.length cap,.func (.func fid) first cp]) (n:=19) Try.func50 rfl rfl rfl ?_
  try refine GA ?_
  refine T_loop (ι:=Nat) (fun k=>k≤l.length∧∀ j (hj:j<l.length),j<k→p l[j]=false) (fun k=>[(0,.slice base l.length cap),(1,.func (.func fid) first cp),(7,.int .i64 l.length),(8,.int .i64 (k:Int))]) (fun _=>[]) (fun k=>l.length - k) 0 ⟨by omega,fun j hj h=>by omega⟩ (by repeat' (first | exact True.intro | refine And.intro rfl ?_)) rfl ?_
  rintro k ⟨h1,h2⟩
  by_cases c2:k<l.length
  · obtain⟨b,off,rfl,hr⟩:=hrd (by omega)
    have hat:=at_el (L:=([]:List Own)) SymS_len hr c2
    have hcl:=hp l[k] (List.getElem_mem c2)
    by_cases c3:p l[k]=true
    · rw[idxF_some c2 c3 h2]
      rw[c3] at hcl
      clear hp h2 hrd
      repeat(first|refine GA ?_|refine gV (rr_idxc Und.eq TyC.ty rfl rfl c2) ?_|refine gV (rr_loadN TyC.ty rfl rfl hat) ?_)
      refine TL_call (he1c hen rfl rfl) (fun w hm=>hcl w hm.below) rfl rfl rfl ?_
      intro _ _
      try refine GA ?_
      exact E_ret1 rfl rfl fun w hm=>hm.ret
    · have c3':p l[k]=false:=by simpa using c3
      rw[c3'] at hcl
      clear hp hrd c3
      repeat(first|refine GA ?_|refine gV (rr_idxc Und.eq TyC.ty rfl rfl c2) ?_|refine gV (rr_loadN TyC.ty rfl rfl hat) ?_)
      refine TL_call (he1c hen rfl rfl) (fun w hm=>hcl w hm.below) rfl rfl rfl ?_
      intro _ _
      try refine GA ?_
      exact E_round (k+1) ⟨by omega,fun j hj h=>if e:j<k then h2 j hj e else (by obtain rfl:j=k:=(by omega);exact c3')⟩ (by show l.length - (k+1)<l.length - k;omega) (by repeat' (first | exact True.intro | refine And.intro rfl ?_)) rfl
  · rw[idxF_none fun j hj=>h2 j hj (by omega)]
    clear hp h2 hrd
    try refine GA ?_
    exact E_ret1 rfl rfl fun w hm=>hm.ret
theorem containsFuncSymS_calls (v:Value) (l:List Sym) (w:World) (hs:Sl w v l.length (l.flatMap symC)) (fid:FuncId) (first cp:Array Value) (p:Sym→Bool) (hen:Enters Try.prog fid)
    (hp:∀ a∈l,∀ w',Gr w w'→Calls Try.prog fid (first++#[(.agg (symC a).toArray)]++cp) w' (Meets (ret (.bool (p a))) w')) :
    Calls Try.prog 29 #[v,.func (.func fid) first cp] w (Meets (ret (.bool (l.any p))) w):=by
  refine enter (args:=[v,.func (.func fid) first cp]) (n:=9) Try.func29 rfl rfl rfl ?_
  have hh:=fun w' (hg:Gr w w')=>indexFuncSymS_calls v l w' (hs.gr hg) fid first cp p hen fun a ha w'' hg'=>hp a ha w'' (hg.trans hg')
  have hr:=idxF_range p l
  rw[←idxF_any p l]
  generalize idxF p l=r at *
  try refine GA ?_
  refine TL_call (he2 EntersC.en rfl rfl rfl) (fun w hm=>hh _ hm.below) rfl rfl rfl ?_
  intro _ _
  repeat(first|refine GC ?_|refine gV (rr_geq rfl rfl rfl) ?_|refine GB ?_)
  exact E_ret1 rfl rfl fun w hm=>hm.ret
end Go.Proofs.Ytldiodhdefnlaaa.eng

/- Gram -/
namespace Go.Proofs.Ytldiodhdefnlaaa.eng
open Go.RowKit kit mix gramL
theorem right_calls (t n:Int) (vp:Value) (x:Sym) (w:World):Calls Try.prog 31 #[graV t n vp,.agg (symC x).toArray] w (Meets (ret (.bool (right t n x))) w):=by
  obtain⟨k,q⟩:=x
  refine enter (args:=[graV t n vp,.agg (symC (k,q)).toArray]) (n:=31) Try.func31 rfl rfl rfl ?_
  refine T_seq (T_region (TL_box rfl rfl rfl fun g0=>TL_box rfl rfl rfl fun g1 => ?_))
  repeat' (first
    | refine QV QP ?_
    | refine QZ ?_
    | refine qcT rfl ?_
    | refine qcF rfl ?_
    | refine qs rfl rfl rfl rfl rfl rfl ?_
    | (((try refine qg rfl rfl rfl ?_);first | refine QV QP ?_ | refine QV (rr_load1 TyC.ty rfl (at_blk (i:=0) rfl rfl)) ?_ | refine QV (rr_load1 TyC.ty rfl (at_blk (i:=1) rfl rfl)) ?_ | refine QV QA ?_ | refine QV QhT ?_ | refine QV QhF ?_ | refine QV QeT ?_ | refine QV QeF ?_ | refine QV QlT ?_ | refine QV QlF ?_))
    | refine TL_gsplitv (rr_lss rfl rfl rfl) rfl rfl rfl rfl rfl (fun h => ?_) (fun h => ?_)
    | refine TL_split (rr_geq rfl rfl rfl) rfl rfl rfl (fun h => ?_) (fun h => ?_)
    | refine TL_split (rr_eql rfl rfl rfl) rfl rfl rfl (fun h => ?_) (fun h => ?_)
    | ((fail_if_success (refine T_condT rfl ?_));(fail_if_success (refine T_condF rfl ?_));refine T_condS rfl (fun h => ?_) (fun h => ?_))
    | ((fail_if_success (refine TL_isT rfl rfl rfl ?_));(fail_if_success (refine TL_isF rfl rfl rfl ?_));refine TL_gsplit rfl rfl rfl (fun h => ?_) (fun h => ?_)))
  all_goals (refine E_ret1e rfl rfl ?_;congr 1;unfold right;dsimp only at *;repeat (first | rw[if_pos (by omega)] | rw[if_neg (by omega)] | rw[decide_eq_true (by assumption)] | rw[decide_eq_false (by assumption)]);try rfl)
theorem check1_calls (t n:Int) (vp:Value) (x:Sym) (g:Nat) (w:World) (hg:w.heap[g]?=some (.cells (graV t n vp).cells 33 (0,0))) :
    Calls Try.prog 30 #[.agg (symC x).toArray,.pointer (some ⟨g,0,none⟩)] w (Meets (ret (.bool (!right t n x))) w):=by
  have hcell:∀ (L:List Own) (j:Nat) (v:Value),([.int .i64 t,.int .i64 n,vp]:List Value)[j]?=some v→At w L ⟨g,0+j,none⟩ v:=fun L j v hj=>at_old (by
    rw[cell_of_row w g (0+j) _ _ _ hg,Nat.zero_add]
    show (#[.int .i64 t,.int .i64 n,vp]:Array Value)[j]?=some v
    simpa using hj)
  have hr:=right_calls t n vp x
  refine enter (args:=[.agg (symC x).toArray,.pointer (some ⟨g,0,none⟩)]) (n:=8) Try.func30 rfl rfl rfl ?_
  refine T_seq (T_region (TL_box rfl rfl rfl fun g0 => ?_))
  repeat(first|refine GA ?_|refine gV (rr_loadN TyC.ty rfl rfl (hcell _)) ?_|refine gV (rr_loadB (i:=0) TyC.ty rfl rfl rfl) ?_)
  refine TL_call (he2 EntersC.en rfl rfl rfl) (fun w hm=>hr w) rfl rfl rfl ?_
  intro _ _
  try refine GA ?_
  exact E_ret1 rfl rfl fun w hm=>hm.ret
theorem prodsE_drop {t n:Int} {l:List gramL.Prod} {k:Nat} (h:k<l.length) (h0:prodE t n l[k]=0):prodsE t n (l.drop k)=prodsE t n (l.drop (k+1)):=by
  rw[List.drop_eq_getElem_cons h,prodsE,if_neg (by simp[h0])]
theorem prodsE_stop {t n:Int} {l:List gramL.Prod} {k:Nat} (h:k<l.length) (h0:prodE t n l[k]≠0):prodsE t n (l.drop k)=prodE t n l[k]:=by
  rw[List.drop_eq_getElem_cons h,prodsE,if_pos h0]
set_option maxHeartbeats 2000000 in
theorem checkG_calls (v:Value) (g:Gram) (w:World) (h:GraR (fun k=>k<w.heap.size) w v g) :
    Calls Try.prog 15 #[v] w (Meets (ret (.int .i64 (checkG g))) w):=by
  obtain⟨vp,rfl,h1,_⟩:=h
  obtain⟨bp,cp,rfl,hcp,hmp,hrp⟩:=h1
  unfold maxLen at hmp
  obtain⟨t,n,prods⟩:=g
  dsimp only at *
  refine enter (args:=[graV t n (.slice bp prods.length cp)]) (n:=57) Try.func15 rfl rfl rfl ?_
  refine T_seq (T_region (TL_box rfl rfl rfl fun g0 => ?_))
  unfold checkG
  dsimp only
  by_cases c1:t<0
  · rw[if_pos c1]
    repeat(first|refine GA ?_|refine gV (rr_load1 TyC.ty rfl (at_blk (i:=0) rfl rfl)) ?_)
    exact E_ret1 rfl rfl fun w hm=>hm.ret
  rw[if_neg c1]
  by_cases c2:30<t
  · rw[if_pos c2]
    repeat(first|refine GA ?_|refine gV (rr_load1 TyC.ty rfl (at_blk (i:=0) rfl rfl)) ?_)
    exact E_ret1 rfl rfl fun w hm=>hm.ret
  rw[if_neg c2]
  by_cases c3:n<1
  · rw[if_pos c3]
    repeat(first|refine GA ?_|refine gV (rr_load1 TyC.ty rfl (at_blk (i:=0) rfl rfl)) ?_)
    exact E_ret1 rfl rfl fun w hm=>hm.ret
  rw[if_neg c3]
  by_cases c4:20<n
  · rw[if_pos c4]
    repeat(first|refine GA ?_|refine gV (rr_load1 TyC.ty rfl (at_blk (i:=0) rfl rfl)) ?_)
    exact E_ret1 rfl rfl fun w hm=>hm.ret
  rw[if_neg c4]
  by_cases c5:40<prods.length
  · rw[if_pos c5]
    repeat(first|refine GA ?_|refine gV (rr_load1 TyC.ty rfl (at_blk (i:=0) rfl rfl)) ?_)
    exact E_ret1 rfl rfl fun w hm=>hm.ret
  rw[if_neg c5]
  repeat(first|refine GA ?_|refine gV (rr_load1 TyC.ty rfl (at_blk (i:=0) rfl rfl)) ?_)
  refine T_loop (ι:=Nat) (fun k=>k≤prods.length∧prodsE t n prods=prodsE t n (prods.drop k)) (fun k=>[(1,.pointer (some ⟨g0,0,none⟩)),(30,.slice bp prods.length cp),(31,.int .i64 prods.length),(32,.int .i64 (k:Int))]) (fun _=>[blkO g0 (graV t n (.slice bp prods.length cp)).cells 33]) (fun k=>prods.length - k) 0 ⟨Nat.zero_le _,rfl⟩ (by repeat' (first | exact True.intro | refine And.intro rfl ?_)) rfl ?_
  rintro k ⟨i1,i2⟩
  rw[i2]
  clear i2
  by_cases c6:k<prods.length
  · obtain⟨b,off,rfl,_,hr⟩:=hrp (by omega)
    obtain⟨bb,cb,q1,q2,q3⟩:=prod_at hr c6
    have hstop:=prodsE_stop (t:=t) (n:=n) c6
    have hdrop:=prodsE_drop (t:=t) (n:=n) c6
    have hat:∀ (L:List Own) (j:Nat) (v:Value),([.int .i64 prods[k].1,.slice bb prods[k].2.length cb]:List Value)[j]?=some v→At w L ⟨b,off+k*2+j,none⟩ v:=fun L j v hj=>at_rd q1 hj
    clear hr hrp q1
    generalize prods[k]=p at *
    obtain⟨hd,body⟩:=p
    have hco:=fun w' (hg:Gr w w') (hb:w'.heap[g0]?=some (.cells (graV t n (.slice (some ⟨b,off,none⟩) prods.length cp)).cells 33 (0,0)))=>containsFuncSymS_calls (.slice bb body.length cb) body w' ((q3.flat (by decide)).gr hg) 30 #[] #[.pointer (some ⟨g0,0,none⟩)] (fun x=>!right t n x) EntersC.en (fun a _ w'' hg'=>check1_calls t n _ a g0 w'' (by rw[hg'.block g0 (Array.getElem?_eq_some_iff.1 hb).1];exact hb))
    dsimp only at *
    repeat(first|refine GA ?_|refine gV (rr_idxc Und.eq TyC.ty rfl rfl c6) ?_|refine gV (rr_loadN TyC.ty rfl rfl (hat _)) ?_)
    clear hat
    refine TL_new rfl fun g4 => ?_
    refine TL_storeB (i:=1) rfl rfl rfl rfl rfl rfl ?_
    conv=>arg 8;simp only[zA,zB,zC,zD,zE,zF,zG,zH,zI,rowS,ret,id_eq]
    unfold prodE at hstop hdrop
    dsimp only at hstop hdrop
    by_cases c7:8<body.length
    · rw[if_pos c7] at hstop
      rw[hstop (by decide)]
      repeat(first|refine GA ?_|refine gV (rr_load1 TyC.ty rfl (at_blk (i:=1) rfl rfl)) ?_)
      exact E_ret1 rfl rfl fun w hm=>hm.ret
    rw[if_neg c7] at hstop hdrop
    by_cases c8:hd<0
    · rw[if_pos c8] at hstop
      rw[hstop (by decide)]
      repeat(first|refine GA ?_|refine gV (rr_load1 TyC.ty rfl (at_blk (i:=1) rfl rfl)) ?_)
      exact E_ret1 rfl rfl fun w hm=>hm.ret
    rw[if_neg c8] at hstop hdrop
    by_cases c9:n≤hd
    · rw[if_pos c9] at hstop
      rw[hstop (by decide)]
      repeat(first|refine GA ?_|refine gV (rr_load1 TyC.ty rfl (at_blk (i:=1) rfl rfl)) ?_|refine gV (rr_load1 TyC.ty rfl (at_blk (i:=0) rfl rfl)) ?_)
      exact E_ret1 rfl rfl fun w hm=>hm.ret
    rw[if_neg c9] at hstop hdrop
    by_cases c10:body.any (fun x=>!right t n x)=true
    · rw[if_pos c10] at hstop
      rw[hstop (by decide)]
      rw[c10] at hco
      repeat(first|refine GA ?_|refine gV (rr_load1 TyC.ty rfl (at_blk (i:=1) rfl rfl)) ?_|refine gV (rr_load1 TyC.ty rfl (at_blk (i:=0) rfl rfl)) ?_|refine gV (rr_func rfl rfl) ?_)
      refine TL_gcall (he2 EntersC.en rfl rfl rfl) (fun w hm=>hco _ hm.below (hm.get (i:=0) rfl)) rfl rfl rfl rfl rfl ?_
      intro _ _
      try refine GA ?_
      exact E_ret1 rfl rfl fun w hm=>hm.ret
    · have c10':body.any (fun x=>!right t n x)=false:=by simpa using c10
      rw[if_neg c10] at hdrop
      rw[c10'] at hco
      repeat(first|refine GA ?_|refine gV (rr_load1 TyC.ty rfl (at_blk (i:=1) rfl rfl)) ?_|refine gV (rr_load1 TyC.ty rfl (at_blk (i:=0) rfl rfl)) ?_|refine gV (rr_func rfl rfl) ?_)
      refine TL_gcall (he2 EntersC.en rfl rfl rfl) (fun w hm=>hco _ hm.below (hm.get (i:=0) rfl)) rfl rfl rfl rfl rfl ?_
      intro _ _
      try refine GA ?_
      refine E_pick [0] (by decide) rfl ?_
      exact E_round (k+1) ⟨by omega,hdrop rfl⟩ (by show prods.length - (k+1)<prods.length - k;omega) (by repeat' (first | exact True.intro | refine And.intro rfl ?_)) rfl
  · rw[List.drop_of_length_le (by omega)]
    try refine GA ?_
    exact E_ret1 rfl rfl fun w hm=>hm.ret
end Go.Proofs.Ytldiodhdefnlaaa.eng

/- GramN -/
namespace Go.Proofs.Ytldiodhdefnlaaa.eng
open Go.RowKit kit mix gramL
def prodsO (F:Nat→Prop) (vp:Value) (l:List gramL.Prod):Own:=shpO (sliceS prodS) F [vp] l
theorem prod_of_row {w:World} {hd:Int} {vb:Value} {body:List Sym} (hok:kit.okI64 hd) (hp:∀ x∈body,okSym x) (h:(rowO 112 2 vb body.length (body.flatMap symC)).holds w):prodS.is (fun k=>vb.ownBlock=some k) w [.int .i64 hd,vb] (hd,body):=
  ⟨[.int .i64 hd],[vb],rfl,⟨rfl,hok⟩,vb,rfl,SlF.of_flat (Sl.of_own h) hp (fun _ h=>h) (fun a n cp hv=>by rw[hv];rfl)⟩
end Go.Proofs.Ytldiodhdefnlaaa.eng

/- TreeL -/
namespace Go.Proofs.Ytldiodhdefnlaaa.treeL
open gramL
inductive Tree where
  | mk (prod tok:Int) (kids:List Tree)
def Tree.prod:Tree→Int | .mk p _ _=>p
def Tree.tok:Tree→Int | .mk _ t _=>t
def Tree.kids:Tree→List Tree | .mk _ _ k=>k
def prodAt (l:List gramL.Prod) (p:Int):gramL.Prod:=l.getD p.toNat (0,[])
mutual
def size:Tree→Nat
  | .mk _ _ kids=>sizes kids+1
def sizes:List Tree→Nat
  | []=>0
  | k::r=>size k+sizes r
end
inductive Deed where
  | ahead (p:Int)
  | behind (p:Int)
  | leaf (term tok:Int)
mutual
def acts (l:List gramL.Prod):Tree→List Deed
  | .mk p _ kids=> .ahead p::(actss l kids (prodAt l p).2++[.behind p])
def actss (l:List gramL.Prod):List Tree→List Sym→List Deed
  | [],_=>[]
  | _::_,[]=>[]
  | .mk p k ks::r,y::b=>(if p<0 then [.leaf y.2 k] else acts l (.mk p k ks))++actss l r b
end
end Go.Proofs.Ytldiodhdefnlaaa.treeL

/- CountL -/
namespace Go.Proofs.Ytldiodhdefnlaaa.countL
open gramL
abbrev Span:=Int×Int×Int
abbrev Chart:=Span→Nat
def oneF (c:Chart) (w:List Int) (x:Sym) (a b:Nat):Nat:=if x.1=2 then c (x.2,(a:Int),(b:Int)) else if b=a+1∧w[a]?=some x.2 then 1 else 0
def sumN (f:Nat→Nat):Nat→Nat
  | 0=>0
  | k+1=>sumN f k+f k
def nextF (o:Nat→Nat→Nat) (f:Nat→Nat) (b:Nat):Nat:=min 2 (sumN (fun j=>f j*o j b) (b+1))
def waysF (o:Sym→Nat→Nat→Nat) (a:Nat):List Sym→(Nat→Nat)→Nat→Nat
  | [],f=>f
  | x::r,f=>waysF o a r (nextF (fun i j=>o x (a+i) (a+j)) f)
def ways0 (b:Nat):Nat:=if b=0 then 1 else 0
def rowF (o:Sym→Nat→Nat→Nat) (l:List Sym) (a b:Nat):Nat:=waysF o a l ways0 (b - a)
def sumP (o:Sym→Nat→Nat→Nat) (a b:Nat) (n:Nat):List gramL.Prod→Nat
  | []=>0
  | p::r=>(if p.1=(n:Int) then rowF o p.2 a b else 0)+sumP o a b n r
def nowF (o:Sym→Nat→Nat→Nat) (l:List gramL.Prod) (a b n:Nat):Nat:=min 2 (sumP o a b n l)
theorem sumN_zero (f:Nat→Nat):∀ k,(∀ j,j<k→f j=0)→sumN f k=0
  | 0,_=>rfl
  | k+1,h=>by rw[sumN,sumN_zero f k fun j hj=>h j (by omega),h k (by omega)]
theorem nextF_le (o:Nat→Nat→Nat) (f:Nat→Nat) (b:Nat):nextF o f b≤2:=Nat.min_le_left ..
theorem ways0_le (b:Nat):ways0 b≤2:=by unfold ways0;split <;> omega
theorem nowF_le (o:Sym→Nat→Nat→Nat) (l:List gramL.Prod) (a b n:Nat):nowF o l a b n≤2:=Nat.min_le_left ..
end Go.Proofs.Ytldiodhdefnlaaa.countL

/- CountN -/
namespace Go.Proofs.Ytldiodhdefnlaaa.countL
open gramL
theorem sumN_mono {f f':Nat→Nat}:∀ k,(∀ j,j<k→f j≤f' j)→sumN f k≤sumN f' k
  | 0,_=>Nat.le_refl _
  | k+1,h=>by
    rw[sumN,sumN]
    exact Nat.add_le_add (sumN_mono k fun j hj=>h j (by omega)) (h k (by omega))
def NonsIn (n:Nat) (l:List gramL.Prod):Prop:=∀ p∈l,∀ x∈p.2,x.1=2→0≤x.2∧x.2<(n:Int)
def PreC (w:List Int) (l:List gramL.Prod) (n:Nat) (S:Chart):Prop:=∀ k a b,k<n→a≤b→b≤w.length→nowF (oneF S w) l a b k≤S ((k:Int),(a:Int),(b:Int))
def Fix1 (w:List Int) (l:List gramL.Prod) (n:Nat) (c:Chart) (a b:Nat):Prop:=∀ k,k<n→c ((k:Int),(a:Int),(b:Int))=nowF (oneF c w) l a b k
structure Lfp (w:List Int) (l:List gramL.Prod) (n:Nat) (c:Chart):Prop where
  le2:∀ x,c x≤2
  fixed:∀ a b,a≤b→b≤w.length→Fix1 w l n c a b
  least:∀ S,PreC w l n S→∀ k a b,k<n→a≤b→b≤w.length→c ((k:Int),(a:Int),(b:Int))≤S ((k:Int),(a:Int),(b:Int))
structure InvC (w:List Int) (l:List gramL.Prod) (n:Nat) (D:Nat→Nat→Prop) (c:Chart):Prop where
  le2:∀ x,c x≤2
  fixed:∀ a b,a≤b→b≤w.length→D a b→Fix1 w l n c a b
  least:∀ S,PreC w l n S→∀ k a b,k<n→a≤b→b≤w.length→c ((k:Int),(a:Int),(b:Int))≤S ((k:Int),(a:Int),(b:Int))
  zero:∀ k a b,k<n→a≤b→b≤w.length→¬ D a b→c ((k:Int),(a:Int),(b:Int))=0
structure InvI (w:List Int) (l:List gramL.Prod) (n:Nat) (D:Nat→Nat→Prop) (a b:Nat) (c:Chart):Prop where
  le2:∀ x,c x≤2
  fixed:∀ i j,i≤j→j≤w.length→D i j→Fix1 w l n c i j
  least:∀ S,PreC w l n S→∀ k i j,k<n→i≤j→j≤w.length→c ((k:Int),(i:Int),(j:Int))≤S ((k:Int),(i:Int),(j:Int))
  zero:∀ k i j,k<n→i≤j→j≤w.length→¬ D i j→¬ (i=a∧j=b)→c ((k:Int),(i:Int),(j:Int))=0
  grow:∀ k,k<n→c ((k:Int),(a:Int),(b:Int))≤nowF (oneF c w) l a b k
section
variable {w:List Int} {l:List gramL.Prod} {n:Nat} {D D':Nat→Nat→Prop} {a b:Nat} {c:Chart}
theorem InvI.done (h:InvI w l n D a b c) (hf:Fix1 w l n c a b) (hD:∀ i j,i≤j→j≤w.length→(D' i j↔D i j∨(i=a∧j=b))):InvC w l n D' c:=
  ⟨h.le2,fun i j h1 h2 h3=>((hD i j h1 h2).1 h3).elim (h.fixed i j h1 h2) fun ⟨e1,e2⟩=>by subst e1 e2;exact hf,h.least,fun k i j hk h1 h2 h3=>by
    have:¬ (D i j∨(i=a∧j=b)):=fun h=>h3 ((hD i j h1 h2).2 h)
    exact h.zero k i j hk h1 h2 (fun h=>this (.inl h)) fun h=>this (.inr h)⟩
end
end Go.Proofs.Ytldiodhdefnlaaa.countL

/- CountT -/
namespace Go.Proofs.Ytldiodhdefnlaaa.countL
open gramL
theorem Lfp.pre {w:List Int} {l:List gramL.Prod} {n:Nat} {c:Chart} (h:Lfp w l n c):PreC w l n c:=fun k a b hk h1 h2=>by rw[←h.fixed a b h1 h2 k hk];exact Nat.le_refl _
end Go.Proofs.Ytldiodhdefnlaaa.countL

/- CountR -/
namespace Go.Proofs.Ytldiodhdefnlaaa.countL
open gramL
theorem sumN_congr {f g:Nat→Nat}:∀ k,(∀ j,j<k→f j=g j)→sumN f k=sumN g k
  | 0,_=>rfl
  | k+1,h=>by rw[sumN,sumN,sumN_congr k fun j hj=>h j (by omega),h k (by omega)]
theorem sumN_add (f g:Nat→Nat):∀ k,sumN (fun j=>f j+g j) k=sumN f k+sumN g k
  | 0=>rfl
  | k+1=>by rw[sumN,sumN,sumN,sumN_add f g k];omega
theorem sumN_mul (v:Nat) (f:Nat→Nat):∀ k,sumN (fun j=>v*f j) k=v*sumN f k
  | 0=>rfl
  | k+1=>by rw[sumN,sumN,sumN_mul v f k,Nat.mul_add]
theorem sumN_mulr (v:Nat) (f:Nat→Nat):∀ k,sumN (fun j=>f j*v) k=sumN f k*v
  | 0=>by simp[sumN]
  | k+1=>by rw[sumN,sumN,sumN_mulr v f k,Nat.add_mul]
theorem sumN_swap (f:Nat→Nat→Nat) (m:Nat):∀ k,sumN (fun i=>sumN (fun j=>f i j) m) k=sumN (fun j=>sumN (fun i=>f i j) k) m
  | 0=>by rw[sumN];exact (sumN_zero _ m fun _ _=>rfl).symm
  | k+1=>by rw[sumN,sumN_swap f m k,←sumN_add];rfl
theorem sumN_front (f:Nat→Nat):∀ k,sumN f (k+1)=f 0+sumN (fun j=>f (j+1)) k
  | 0=>by simp[sumN]
  | k+1=>by rw[sumN,sumN_front f k,sumN];omega
theorem sumN_split (f:Nat→Nat) (a:Nat):∀ k,sumN f (a+k)=sumN f a+sumN (fun j=>f (a+j)) k
  | 0=>by simp[sumN]
  | k+1=>by rw[←Nat.add_assoc,sumN,sumN_split f a k,sumN];omega
theorem sumN_one (f:Nat→Nat) {i k:Nat} (hi:i<k) (h:∀ j,j<k→j≠i→f j=0):sumN f k=f i:=by
  induction k with
  | zero=>omega
  | succ k ih=>
    rw[sumN]
    by_cases e:i=k
    · subst e
      rw[sumN_zero f i fun j hj=>h j (by omega) (by omega),Nat.zero_add]
    · rw[ih (by omega) fun j hj=>h j (by omega),h k (by omega) (fun e'=>e e'.symm),Nat.add_zero]
theorem sumN_tri (f:Nat→Nat→Nat) (d:Nat):sumN (fun j=>sumN (fun i=>f i j) (j+1)) (d+1)=sumN (fun i=>sumN (fun k=>f i (i+k)) (d - i+1)) (d+1):=by
  have h1:sumN (fun j=>sumN (fun i=>f i j) (j+1)) (d+1)=sumN (fun j=>sumN (fun i=>if i≤j then f i j else 0) (d+1)) (d+1):=by
    refine sumN_congr _ fun j hj => ?_
    rw[show d+1=(j+1)+(d - j) by omega,sumN_split (fun i=>if i≤j then f i j else 0)]
    rw[sumN_zero (fun q=>if j+1+q≤j then f (j+1+q) j else 0) _ fun q _=>if_neg (by omega),Nat.add_zero]
    exact sumN_congr _ fun i hi=>(if_pos (by omega)).symm
  rw[h1,sumN_swap]
  refine sumN_congr _ fun i hi => ?_
  rw[show d+1=i+(d - i+1) by omega,sumN_split,sumN_zero _ i fun j hj=>if_neg (by omega),Nat.zero_add]
  exact sumN_congr _ fun k _=>if_pos (by omega)
def rowE (o:Sym→Nat→Nat→Nat):List Sym→Nat→Nat→Nat
  | [],a,b=>if a=b then 1 else 0
  | x::r,a,b=>sumN (fun i=>o x a (a+i)*rowE o r (a+i) b) (b - a+1)
theorem cap_sum (f g:Nat→Nat):∀ k,(∀ j,j<k→min 2 (f j)=min 2 (g j))→min 2 (sumN f k)=min 2 (sumN g k)
  | 0,_=>rfl
  | k+1,h=>by
    have h1:=cap_sum f g k fun j hj=>h j (by omega)
    have h2:=h k (by omega)
    rw[sumN,sumN]
    omega
theorem cap_mul (u v:Nat):min 2 (min 2 u*v)=min 2 (u*v):=by
  by_cases h:u≤2
  · have e:min 2 u=u:=by omega
    rw[e]
  · have e:min 2 u=2:=by omega
    rw[e]
    by_cases hv:v=0
    · subst hv;simp
    · have:2≤2*v:=by omega
      have h2:2*v≤u*v:=Nat.mul_le_mul_right v (by omega)
      omega
theorem waysF_E (o:Sym→Nat→Nat→Nat) (a:Nat):∀ (l:List Sym) (f:Nat→Nat) (d:Nat),(∀ j,f j≤2)→waysF o a l f d=min 2 (sumN (fun i=>f i*rowE o l (a+i) (a+d)) (d+1))
  | [],f,d,h=>by
    rw[waysF,sumN_one _ (show d<d+1 by omega) fun j _ hj=>by rw[rowE,if_neg (by omega),Nat.mul_zero],rowE,if_pos rfl,Nat.mul_one]
    have:=h d;omega
  | x :: r,f,d,h=>by
    rw[waysF,waysF_E o a r _ d (nextF_le _ _)]
    have h1:min 2 (sumN (fun i=>nextF (fun i j=>o x (a+i) (a+j)) f i*rowE o r (a+i) (a+d)) (d+1))=min 2 (sumN (fun j=>sumN (fun i=>f i*o x (a+i) (a+j)*rowE o r (a+j) (a+d)) (j+1)) (d+1)):=cap_sum _ _ _ fun j _=>by
      rw[sumN_mulr]
      exact cap_mul _ _
    rw[h1,sumN_tri (fun i j=>f i*o x (a+i) (a+j)*rowE o r (a+j) (a+d))]
    congr 1
    refine sumN_congr _ fun i hi => ?_
    rw[rowE,←sumN_mul,show a+d - (a+i)=d - i by omega]
    refine sumN_congr _ fun k _ => ?_
    rw[Nat.mul_assoc,Nat.add_assoc]
theorem rowF_E (o:Sym→Nat→Nat→Nat) (l:List Sym) {a b:Nat} (h:a≤b):rowF o l a b=min 2 (rowE o l a b):=by
  unfold rowF
  rw[waysF_E o a l ways0 _ ways0_le,sumN_front]
  rw[sumN_zero (fun j=>ways0 (j+1)*rowE o l (a+(j+1)) (a+(b - a))) _ fun j _=>by simp[ways0]]
  rw[show a+(b - a)=b by omega]
  simp[ways0]
end Go.Proofs.Ytldiodhdefnlaaa.countL

/- TreeW -/
namespace Go.Proofs.Ytldiodhdefnlaaa.countL
open gramL treeL
def SymsOk (n:Nat) (l:List gramL.Prod):Prop:=∀ p∈l,0≤p.1∧p.1<(n:Int)∧∀ x∈p.2,x.1=1∨(x.1=2∧0≤x.2∧x.2<(n:Int))
theorem symsOk_of {g:Gram} {n:Nat} (h:checkG g=0) (hn:g.nons=n):SymsOk n g.prods:=fun p hp=>by
  obtain⟨_,_,_,_,_,a6⟩:=checkG_ok h
  obtain⟨b1,b2,b3,b4⟩:=a6 p hp
  refine⟨b2,by omega,fun x hx => ?_⟩
  have:=b4 x hx
  unfold right at this
  split at this
  · exact .inl (by assumption)
  · split at this
    · simp at this;exact .inr ⟨by assumption,by omega,by omega⟩
    · simp at this
theorem SymsOk.nons {n:Nat} {l:List gramL.Prod} (h:SymsOk n l):NonsIn n l:=fun p hp x hx h2=>by
  rcases (h p hp).2.2 x hx with h | h
  · omega
  · exact h.2
theorem prodAt_mem {l:List gramL.Prod} {p:Int} (h0:0≤p) (h:p<(l.length:Int)):prodAt l p∈l:=by
  unfold prodAt
  rw[List.getD_eq_getElem?_getD,List.getElem?_eq_getElem (by omega)]
  exact List.getElem_mem _
section
end
end Go.Proofs.Ytldiodhdefnlaaa.countL

/- CountX -/
namespace Go.Proofs.Ytldiodhdefnlaaa.countL
open gramL treeL
def cutB (o:Sym→Nat→Nat→Nat) (y:Sym) (r:List Sym) (a b m:Nat):Bool:=decide (0<o y a m) && decide (0<rowF o r m b)
section
variable {o:Sym→Nat→Nat→Nat} {l:List gramL.Prod} {x:Sym} {a b:Nat}
theorem sumN_pos {f:Nat→Nat}:∀ {k:Nat},0<sumN f k→∃ i,i<k∧0<f i
  | 0,h=>by simp[sumN] at h
  | k + 1,h=>by
    rw[sumN] at h
    by_cases c:0<f k
    · exact⟨k,by omega,c⟩
    · obtain⟨i,h1,h2⟩:=sumN_pos (f:=f) (k:=k) (by omega)
      exact⟨i,by omega,h2⟩
theorem row_cut {y:Sym} {r:List Sym} (hab:a≤b) (h:0<rowF o (y::r) a b):∃ m,a≤m∧m≤b∧cutB o y r a b m=true:=by
  rw[rowF_E _ _ hab,rowE] at h
  obtain⟨i,h1,h2⟩:=sumN_pos (f:=fun i=>o y a (a+i)*rowE o r (a+i) b) (k:=b - a+1) (by omega)
  have h2:0<o y a (a+i)*rowE o r (a+i) b:=h2
  refine⟨a+i,by omega,by omega,?_⟩
  unfold cutB
  rw[rowF_E _ _ (by omega:a+i≤b)]
  rw[Bool.and_eq_true,decide_eq_true_iff,decide_eq_true_iff]
  exact⟨Nat.pos_of_mul_pos_right h2,by have:=Nat.pos_of_mul_pos_left h2;omega⟩
theorem sumP_pos {n:Nat}:∀ {l:List gramL.Prod},0<sumP o a b n l→∃ k,k<l.length∧(prodAt l (k:Int)).1=(n:Int)∧0<rowF o (prodAt l (k:Int)).2 a b
  | [],h=>by simp[sumP] at h
  | p :: r,h=>by
    rw[sumP] at h
    by_cases c:p.1=(n:Int)∧0<rowF o p.2 a b
    · exact⟨0,by simp,c.1,c.2⟩
    · have:0<sumP o a b n r:=by
        by_cases c1:p.1=(n:Int)
        · rw[if_pos c1] at h
          have:¬ 0<rowF o p.2 a b:=fun h=>c ⟨c1,h⟩
          omega
        · rw[if_neg c1] at h;omega
      obtain⟨k,h1,h2,h3⟩:=sumP_pos this
      exact⟨k+1,by simpa using h1,h2,h3⟩
theorem prodAt_get {k:Nat} (h:k<l.length):prodAt l (k:Int)=l[k]:=by
  unfold prodAt
  rw[Int.toNat_natCast,List.getD_eq_getElem?_getD,List.getElem?_eq_getElem h];rfl
end
section
end
end Go.Proofs.Ytldiodhdefnlaaa.countL

/- FactsL -/
namespace Go.Proofs.Ytldiodhdefnlaaa.factsL
open gramL
def markF (l:List Bool) (i:Nat) (b:Bool):List Bool×Bool:=if b=true∧l.getD i false=false then (l.set i true,true) else (l,false)
def allF (l:List Bool) (body:List Sym) (terms:Bool):Bool:=body.all fun x=>if x.1=1 then terms else if x.1=2 then l.getD x.2.toNat false else true
def addF (l:List Nat) (i:Nat) (b:Nat):List Nat×Bool:=(l.set i (l.getD i 0 ||| b),!decide ((l.getD i 0 ||| b)=l.getD i 0))
def beginGo (E:List Bool) (F:List Nat) (behind:Nat):List Sym→Nat→Nat
  | [],out=>out ||| behind
  | x::r,out=>if x.1=1 then out ||| 2 ^ x.2.toNat else if E.getD x.2.toNat false=true then beginGo E F behind r (out ||| F.getD x.2.toNat 0) else out ||| F.getD x.2.toNat 0
def beginF (E:List Bool) (F:List Nat) (body:List Sym) (behind:Nat):Nat:=beginGo E F behind body 0
theorem markF_len (l:List Bool) (i:Nat) (b:Bool):(markF l i b).1.length=l.length:=by
  unfold markF;split <;> simp
theorem addF_len (l:List Nat) (i:Nat) (b:Nat):(addF l i b).1.length=l.length:=by
  simp[addF]
structure FS where
  E:List Bool
  R:List Bool
  M:List Bool
  more:Bool
def stepR (h:Nat) (x:Sym) (R:List Bool) (more:Bool):List Bool×Bool:=if x.1=2 then ((markF R x.2.toNat (R.getD h false)).1,(markF R x.2.toNat (R.getD h false)).2 || more) else (R,more)
def roundR (h:Nat):List Sym→List Bool→Bool→List Bool×Bool
  | [],R,more=>(R,more)
  | x::r,R,more=>roundR h r (stepR h x R more).1 (stepR h x R more).2
def roundP (p:gramL.Prod) (s:FS):FS:=
  let h:=p.1.toNat
  let a:=markF s.E h (allF s.E p.2 false)
  let b:=markF s.M h (allF s.M p.2 true)
  let c:=roundR h p.2 s.R (b.2 || (a.2 || s.more))
  ⟨a.1,c.1,b.1,c.2⟩
def roundL:List gramL.Prod→FS→FS
  | [],s=>s
  | p::r,s=>roundL r (roundP p s)
theorem stepR_len (h:Nat) (x:Sym) (R:List Bool) (more:Bool):(stepR h x R more).1.length=R.length:=by
  unfold stepR;split
  · exact markF_len _ _ _
  · rfl
theorem roundR_len (h:Nat):∀ (body:List Sym) (R:List Bool) (more:Bool),(roundR h body R more).1.length=R.length
  | [],_,_=>rfl
  | x::r,R,more=>by rw[roundR,roundR_len h r,stepR_len]
def trues (l:List Bool):Nat:=l.countP id
theorem markF_trues {l:List Bool} {i:Nat} {b:Bool} (hi:i<l.length):trues (markF l i b).1=trues l+(if (markF l i b).2=true then 1 else 0):=by
  unfold markF
  split
  · rename_i c
    have h0:l[i]=false:=by
      have:=c.2
      rw[List.getD_eq_getElem?_getD,List.getElem?_eq_getElem hi] at this
      simpa using this
    unfold trues
    rw[List.countP_set hi]
    simp[h0]
  · simp
end Go.Proofs.Ytldiodhdefnlaaa.factsL

/- FactsM -/
namespace Go.Proofs.Ytldiodhdefnlaaa.factsL
open gramL
def fixN {σ:Type} (step:σ→σ×Bool):Nat→σ→σ
  | 0,s=>s
  | f+1,s=>if (step s).2=true then fixN step f (step s).1 else (step s).1
structure Falls {σ:Type} (step:σ→σ×Bool) (ok:σ→Prop) (μ:σ→Nat):Prop where
  keep:∀ s,ok s→ok (step s).1
  dec:∀ s,ok s→(step s).2=true→μ (step s).1<μ s
def fix {σ:Type} (step:σ→σ×Bool) (μ:σ→Nat) (s:σ):σ:=fixN step (μ s+1) s
section
variable {σ:Type} {step:σ→σ×Bool} {ok:σ→Prop} {μ:σ→Nat}
theorem fixN_fuel (h:Falls step ok μ):∀ (f g:Nat) (s:σ),ok s→μ s<f→μ s<g→fixN step f s=fixN step g s
  | 0,_,_,_,h1,_=>by omega
  | _,0,_,_,_,h2=>by omega
  | f + 1,g+1,s,hs,h1,h2=>by
    unfold fixN
    by_cases c:(step s).2=true
    · rw[if_pos c,if_pos c]
      have:=h.dec s hs c
      exact fixN_fuel h f g _ (h.keep s hs) (by omega) (by omega)
    · rw[if_neg c,if_neg c]
theorem fix_go (h:Falls step ok μ) {s:σ} (hs:ok s) (c:(step s).2=true):fix step μ s=fix step μ (step s).1:=by
  have:=h.dec s hs c
  unfold fix
  rw[fixN,if_pos c]
  exact fixN_fuel h _ _ _ (h.keep s hs) (by omega) (by omega)
theorem fix_stop {s:σ} (c:(step s).2=false):fix step μ s=(step s).1:=by
  unfold fix
  rw[fixN,if_neg (by rw[c];decide)]
theorem fix_end (h:Falls step ok μ):∀ (k:Nat) (s:σ),ok s→μ s≤k→∃ s',ok s'∧(step s').2=false∧fix step μ s=(step s').1
  | k,s,hs,hk=>by
    by_cases c:(step s).2=true
    · have hd:=h.dec s hs c
      match k with
      | 0=>omega
      | k+1=>
        obtain⟨s',h1,h2,h3⟩:=fix_end h k (step s).1 (h.keep s hs) (by omega)
        exact⟨s',h1,h2,by rw[fix_go h hs c,h3]⟩
    · have c':(step s).2=false:=by simpa using c
      exact⟨s,hs,c',fix_stop c'⟩
end
def stepF (E:List Bool) (M:List Bool) (p:gramL.Prod) (F:List Nat) (more:Bool):List Nat×Bool:=
  if allF M p.2 true=true then ((addF F p.1.toNat (beginF E F p.2 0)).1,(addF F p.1.toNat (beginF E F p.2 0)).2 || more) else (F,more)
def passF (E M:List Bool):List gramL.Prod→List Nat→Bool→List Nat×Bool
  | [],F,more=>(F,more)
  | p::r,F,more=>passF E M r (stepF E M p F more).1 (stepF E M p F more).2
def stepW (E:List Bool) (F:List Nat) (h:Nat) (x:Sym) (r:List Sym) (W:List Nat) (more:Bool):List Nat×Bool:=
  if x.1=2 then ((addF W x.2.toNat (beginF E F r (W.getD h 0))).1,(addF W x.2.toNat (beginF E F r (W.getD h 0))).2 || more) else (W,more)
def passWb (E:List Bool) (F:List Nat) (h:Nat):List Sym→List Nat→Bool→List Nat×Bool
  | [],W,more=>(W,more)
  | x::r,W,more=>passWb E F h r (stepW E F h x r W more).1 (stepW E F h x r W more).2
def passW (E:List Bool) (F:List Nat):List gramL.Prod→List Nat→Bool→List Nat×Bool
  | [],W,more=>(W,more)
  | p::r,W,more=>passW E F r (passWb E F p.1.toNat p.2 W more).1 (passWb E F p.1.toNat p.2 W more).2
def lack (l:List Nat):Nat:=(l.map fun x=>18446744073709551616 - x).sum
def okW (n:Nat) (l:List Nat):Prop:=l.length=n∧∀ x∈l,x<18446744073709551616
theorem getD_lt {n:Nat} {l:List Nat} (h:okW n l) (i:Nat):l.getD i 0<18446744073709551616:=by
  rw[List.getD_eq_getElem?_getD]
  cases e:l[i]? with
  | none=>decide
  | some y=>exact h.2 y (List.mem_of_getElem? e)
theorem or_lt64 {x y:Nat} (hx:x<18446744073709551616) (hy:y<18446744073709551616):x ||| y<18446744073709551616:=Nat.or_lt_two_pow (n:=64) hx hy
theorem addF_ok {n:Nat} {l:List Nat} {i b:Nat} (h:okW n l) (hb:b<18446744073709551616):okW n (addF l i b).1:=by
  refine⟨by rw[addF_len];exact h.1,fun x hx => ?_⟩
  rcases List.mem_or_eq_of_mem_set hx with h1 | rfl
  · exact h.2 x h1
  · exact or_lt64 (getD_lt h i) hb
theorem sum_set:∀ (l:List Nat) (i:Nat) (y:Nat) (h:i<l.length),((l.set i y).map fun x=>18446744073709551616 - x).sum+(18446744073709551616 - l[i])=(l.map fun x=>18446744073709551616 - x).sum+(18446744073709551616 - y)
  | a::r,0,y,h=>by simp;omega
  | a::r,i+1,y,h=>by
    have:=sum_set r i y (by simpa using h)
    simp at this ⊢;omega
theorem addF_lack {n:Nat} {l:List Nat} {i b:Nat} (h:okW n l) (hi:i<n) (hb:b<18446744073709551616):lack (addF l i b).1≤lack l∧((addF l i b).2=true→lack (addF l i b).1<lack l):=by
  have hil:i<l.length:=by rw[h.1];exact hi
  have hs:=sum_set l i (l.getD i 0 ||| b) hil
  have e:l.getD i 0=l[i]:=by rw[List.getD_eq_getElem?_getD,List.getElem?_eq_getElem hil];rfl
  have h1:l[i]≤l.getD i 0 ||| b:=by rw[e];exact Nat.left_le_or
  have h2:=or_lt64 (getD_lt h i) hb
  have h3:=h.2 _ (List.getElem_mem hil)
  unfold lack addF
  dsimp only
  refine⟨by omega,fun hc => ?_⟩
  simp only[Bool.not_eq_true',decide_eq_false_iff_not] at hc
  omega
theorem beginF_lt {E:List Bool} {F:List Nat} {n:Nat} {body:List Sym} {behind:Nat} (hF:okW n F) (hb:behind<18446744073709551616) (hx:∀ x∈body,x.1=1→x.2.toNat<64):beginF E F body behind<18446744073709551616:=by
  have key:∀ (body:List Sym) (out:Nat),out<18446744073709551616→(∀ x∈body,x.1=1→x.2.toNat<64)→beginGo E F behind body out<18446744073709551616:=by
    intro body
    induction body with
    | nil=>intro out h _;exact or_lt64 h hb
    | cons x r ih=>
      intro out h hx
      unfold beginGo
      split
      · rename_i c
        have hp:(2:Nat) ^ x.2.toNat<2 ^ 64:=Nat.pow_lt_pow_right (by decide) (hx x (by simp) c)
        exact or_lt64 h (by simpa using hp)
      · split
        · exact ih _ (or_lt64 h (getD_lt hF _)) fun y hy=>hx y (by simp[hy])
        · exact or_lt64 h (getD_lt hF _)
  exact key body 0 (by decide) hx
structure Fine (n:Nat) (l:List gramL.Prod):Prop where
  head:∀ p∈l,0≤p.1∧p.1.toNat<n
  term:∀ p∈l,∀ x∈p.2,x.1=1→0≤x.2∧x.2.toNat<64
  non:∀ p∈l,∀ x∈p.2,x.1≠1→x.1=2∧0≤x.2∧x.2.toNat<n
theorem fine_of {g:Gram} {n:Nat} (h:checkG g=0) (hn:g.nons=n):Fine n g.prods:=by
  obtain⟨a,b,c,d,e,f⟩:=checkG_ok h
  refine⟨fun p hp => ?_,fun p hp x hx hx1 => ?_,fun p hp x hx hx1 => ?_⟩
  · have:=f p hp;omega
  · have:=(f p hp).2.2.2 x hx
    unfold right at this
    rw[if_pos hx1] at this
    simp at this;omega
  · have:=(f p hp).2.2.2 x hx
    unfold right at this
    rw[if_neg hx1] at this
    split at this
    · rename_i h2
      simp at this
      exact⟨h2,by omega,by omega⟩
    · simp at this
theorem Fine.tail {n:Nat} {p:gramL.Prod} {l:List gramL.Prod} (h:Fine n (p::l)):Fine n l:=
  ⟨fun q hq=>h.head q (by simp[hq]),fun q hq=>h.term q (by simp[hq]),fun q hq=>h.non q (by simp[hq])⟩
theorem passF_ok {E M:List Bool} {n:Nat}:∀ (l:List gramL.Prod) (F:List Nat) (more:Bool),Fine n l→okW n F→okW n (passF E M l F more).1∧lack (passF E M l F more).1≤lack F∧((passF E M l F more).2=true→more=true∨lack (passF E M l F more).1<lack F)
  | [],F,more,_,h=>⟨h,Nat.le_refl _,fun c=> .inl c⟩
  | p :: r,F,more,hf,h=>by
    have hb:beginF E F p.2 0<18446744073709551616:=beginF_lt h (by decide) fun x hx hx1=>(hf.term p (by simp) x hx hx1).2
    have hh:=hf.head p (by simp)
    rw[passF]
    unfold stepF
    split
    · have h1:=addF_ok (i:=p.1.toNat) h hb
      have h2:=addF_lack h hh.2 hb
      obtain⟨k1,k2,k3⟩:=passF_ok r (addF F p.1.toNat (beginF E F p.2 0)).1 ((addF F p.1.toNat (beginF E F p.2 0)).2 || more) hf.tail h1
      refine⟨k1,Nat.le_trans k2 h2.1,fun c => ?_⟩
      rcases k3 c with c2 | c2
      · rw[Bool.or_eq_true] at c2
        rcases c2 with c2 | c2
        · exact .inr (Nat.lt_of_le_of_lt k2 (h2.2 c2))
        · exact .inl c2
      · exact .inr (Nat.lt_of_lt_of_le c2 h2.1)
    · exact passF_ok r F more hf.tail h
theorem passWb_ok {E:List Bool} {F:List Nat} {n h:Nat} (hF:okW n F) (hh:h<n):∀ (body:List Sym) (W:List Nat) (more:Bool),(∀ x∈body,x.1=1→x.2.toNat<64)→(∀ x∈body,x.1=2→x.2.toNat<n)→okW n W→okW n (passWb E F h body W more).1∧lack (passWb E F h body W more).1≤lack W∧((passWb E F h body W more).2=true→more=true∨lack (passWb E F h body W more).1<lack W)
  | [],W,more,_,_,hW=>⟨hW,Nat.le_refl _,fun c=> .inl c⟩
  | x :: r,W,more,ht,hx,hW=>by
    have hb:beginF E F r (W.getD h 0)<18446744073709551616:=beginF_lt hF (getD_lt hW h) fun y hy=>ht y (by simp[hy])
    have tl:=fun W more=>passWb_ok (E:=E) hF hh r W more (fun y hy=>ht y (by simp[hy])) (fun y hy=>hx y (by simp[hy]))
    rw[passWb]
    unfold stepW
    split
    · rename_i c0
      have h1:=addF_ok (i:=x.2.toNat) hW hb
      have h2:=addF_lack hW (hx x (by simp) c0) hb
      obtain⟨k1,k2,k3⟩:=tl (addF W x.2.toNat (beginF E F r (W.getD h 0))).1 ((addF W x.2.toNat (beginF E F r (W.getD h 0))).2 || more) h1
      refine⟨k1,Nat.le_trans k2 h2.1,fun c => ?_⟩
      rcases k3 c with c2 | c2
      · rw[Bool.or_eq_true] at c2
        rcases c2 with c2 | c2
        · exact .inr (Nat.lt_of_le_of_lt k2 (h2.2 c2))
        · exact .inl c2
      · exact .inr (Nat.lt_of_lt_of_le c2 h2.1)
    · exact tl W more hW
theorem passW_ok {E:List Bool} {F:List Nat} {n:Nat} (hF:okW n F):∀ (l:List gramL.Prod) (W:List Nat) (more:Bool),Fine n l→okW n W→okW n (passW E F l W more).1∧lack (passW E F l W more).1≤lack W∧((passW E F l W more).2=true→more=true∨lack (passW E F l W more).1<lack W)
  | [],W,more,_,h=>⟨h,Nat.le_refl _,fun c=> .inl c⟩
  | p :: r,W,more,hf,h=>by
    rw[passW]
    obtain⟨a1,a2,a3⟩:=passWb_ok (E:=E) hF (hf.head p (by simp)).2 p.2 W more (fun x hx h1=>(hf.term p (by simp) x hx h1).2) (fun x hx h2=>(hf.non p (by simp) x hx (by omega)).2.2) h
    obtain⟨k1,k2,k3⟩:=passW_ok hF r (passWb E F p.1.toNat p.2 W more).1 (passWb E F p.1.toNat p.2 W more).2 hf.tail a1
    refine⟨k1,Nat.le_trans k2 a2,fun c => ?_⟩
    rcases k3 c with c2 | c2
    · rcases a3 c2 with c3 | c3
      · exact .inl c3
      · exact .inr (Nat.lt_of_le_of_lt k2 c3)
    · exact .inr (Nat.lt_of_lt_of_le c2 a2)
theorem fallsF {E M:List Bool} {n:Nat} {l:List gramL.Prod} (hf:Fine n l):Falls (fun F=>passF E M l F false) (okW n) lack:=
  ⟨fun s hs=>(passF_ok l s false hf hs).1,fun s hs c=>by
    rcases (passF_ok (E:=E) (M:=M) l s false hf hs).2.2 c with h | h
    · cases h
    · exact h⟩
theorem fallsW {E:List Bool} {F:List Nat} {n:Nat} {l:List gramL.Prod} (hF:okW n F) (hf:Fine n l):Falls (fun W=>passW E F l W false) (okW n) lack:=
  ⟨fun s hs=>(passW_ok hF l s false hf hs).1,fun s hs c=>by
    rcases (passW_ok (E:=E) hF l s false hf hs).2.2 c with h | h
    · cases h
    · exact h⟩
end Go.Proofs.Ytldiodhdefnlaaa.factsL

/- FactsN -/
namespace Go.Proofs.Ytldiodhdefnlaaa.factsL
open gramL
def okR (n:Nat) (s:FS):Prop:=s.E.length=n∧s.R.length=n∧s.M.length=n
def had (s:FS):Nat:=trues s.E+trues s.R+trues s.M
def stepS (l:List gramL.Prod) (s:FS):FS×Bool:=(roundL l ⟨s.E,s.R,s.M,false⟩,(roundL l ⟨s.E,s.R,s.M,false⟩).more)
theorem trues_le (l:List Bool):trues l≤l.length:=List.countP_le_length
theorem markF_grow {l:List Bool} {i:Nat} {b:Bool} (hi:i<l.length):trues l≤trues (markF l i b).1∧((markF l i b).2=true→trues l<trues (markF l i b).1):=by
  have:=markF_trues (b:=b) hi
  refine⟨by split at this <;> omega,fun h => ?_⟩
  rw[if_pos h] at this
  omega
theorem roundR_grow {h n:Nat}:∀ (body:List Sym) (R:List Bool) (more:Bool),(∀ x∈body,x.1=2→x.2.toNat<n)→R.length=n→trues R≤trues (roundR h body R more).1∧((roundR h body R more).2=true→more=true∨trues R<trues (roundR h body R more).1)
  | [],R,more,_,_=>⟨Nat.le_refl _,fun c=> .inl c⟩
  | x :: r,R,more,hx,hR=>by
    rw[roundR]
    have ih:=fun R more=>roundR_grow (h:=h) r R more fun y hy=>hx y (by simp[hy])
    unfold stepR
    split
    · rename_i c0
      have hg:=markF_grow (b:=R.getD h false) (show x.2.toNat<R.length by rw[hR];exact hx x (by simp) c0)
      have hl:=markF_len R x.2.toNat (R.getD h false)
      generalize markF R x.2.toNat (R.getD h false)=a at *
      obtain⟨R2,m2⟩:=a
      dsimp only at *
      obtain⟨k1,k2⟩:=ih R2 (m2 || more) (by omega)
      refine⟨by omega,fun c => ?_⟩
      rcases k2 c with c2 | c2
      · rw[Bool.or_eq_true] at c2
        rcases c2 with c2 | c2
        · have:=hg.2 c2
          exact .inr (by omega)
        · exact .inl c2
      · exact .inr (by omega)
    · exact ih R more hR
theorem roundP_grow {n:Nat} {p:gramL.Prod} {s:FS} (hp:p.1.toNat<n) (hx:∀ x∈p.2,x.1=2→x.2.toNat<n) (h:okR n s):okR n (roundP p s)∧had s≤had (roundP p s)∧((roundP p s).more=true→s.more=true∨had s<had (roundP p s)):=by
  obtain⟨E,R,M,more⟩:=s
  obtain⟨h1,h2,h3⟩:=h
  unfold roundP okR had
  dsimp only at *
  have e1:=markF_grow (b:=allF E p.2 false) (show p.1.toNat<E.length by omega)
  have e2:=markF_len E p.1.toNat (allF E p.2 false)
  have m1:=markF_grow (b:=allF M p.2 true) (show p.1.toNat<M.length by omega)
  have m2:=markF_len M p.1.toNat (allF M p.2 true)
  generalize markF E p.1.toNat (allF E p.2 false)=a at *
  generalize markF M p.1.toNat (allF M p.2 true)=b at *
  obtain⟨E2,ce⟩:=a
  obtain⟨M2,cm⟩:=b
  dsimp only at *
  have r1:=roundR_grow (h:=p.1.toNat) p.2 R (cm || (ce || more)) hx h2
  have r2:=roundR_len p.1.toNat p.2 R (cm || (ce || more))
  generalize roundR p.1.toNat p.2 R (cm || (ce || more))=c at *
  obtain⟨R2,cr⟩:=c
  dsimp only at *
  refine⟨⟨by omega,by omega,by omega⟩,by omega,fun hc => ?_⟩
  rcases r1.2 hc with h4 | h4
  · rw[Bool.or_eq_true,Bool.or_eq_true] at h4
    rcases h4 with h4 | h4 | h4
    · have:=m1.2 h4
      exact .inr (by omega)
    · have:=e1.2 h4
      exact .inr (by omega)
    · exact .inl h4
  · exact .inr (by omega)
theorem roundL_grow {n:Nat}:∀ (l:List gramL.Prod) (s:FS),Fine n l→okR n s→okR n (roundL l s)∧had s≤had (roundL l s)∧((roundL l s).more=true→s.more=true∨had s<had (roundL l s))
  | [],s,_,h=>⟨h,Nat.le_refl _,fun c=> .inl c⟩
  | p :: r,s,hf,h=>by
    rw[roundL]
    obtain⟨a1,a2,a3⟩:=roundP_grow (s:=s) (hf.head p (by simp)).2 (fun x hx h2=>(hf.non p (by simp) x hx (by omega)).2.2) h
    obtain⟨k1,k2,k3⟩:=roundL_grow r (roundP p s) hf.tail a1
    refine⟨k1,by omega,fun c => ?_⟩
    rcases k3 c with c2 | c2
    · rcases a3 c2 with c3 | c3
      · exact .inl c3
      · exact .inr (by omega)
    · exact .inr (by omega)
theorem had_le {n:Nat} {s:FS} (h:okR n s):had s≤3*n:=by
  have a:=trues_le s.E
  have b:=trues_le s.R
  have c:=trues_le s.M
  obtain⟨h1,h2,h3⟩:=h
  unfold had;omega
def lackS (n:Nat) (s:FS):Nat:=3*n - had s
theorem fallsS {n:Nat} {l:List gramL.Prod} (hf:Fine n l):Falls (stepS l) (okR n) (lackS n):=
  ⟨fun s hs=>(roundL_grow l ⟨s.E,s.R,s.M,false⟩ hf hs).1,fun s hs c=>by
    have h:=roundL_grow l ⟨s.E,s.R,s.M,false⟩ hf hs
    have h2:=had_le h.1
    rcases h.2.2 c with h3 | h3
    · cases h3
    · have e:had ⟨s.E,s.R,s.M,false⟩=had s:=rfl
      show 3*n - had (roundL l ⟨s.E,s.R,s.M,false⟩)<3*n - had s
      omega⟩
end Go.Proofs.Ytldiodhdefnlaaa.factsL

/- FactsP -/
namespace Go.Proofs.Ytldiodhdefnlaaa.factsL
open gramL
theorem set_getD (l:List Nat) (i:Nat):l.set i (l.getD i 0)=l:=by
  by_cases h:i<l.length
  · have e:l.getD i 0=l[i]:=by rw[List.getD_eq_getElem?_getD,List.getElem?_eq_getElem h];rfl
    rw[e,List.set_getElem_self]
  · rw[List.set_eq_of_length_le (by omega)]
end Go.Proofs.Ytldiodhdefnlaaa.factsL

/- FactsQ -/
namespace Go.Proofs.Ytldiodhdefnlaaa.factsL
open gramL treeL
theorem passWb_still {E:List Bool} {F:List Nat} {h:Nat}:∀ (body:List Sym) (W:List Nat) (more:Bool),(passWb E F h body W more).2=false→more=false∧(passWb E F h body W more).1=W∧∀ pre x post,body=pre++x::post→x.1=2→W.getD x.2.toNat 0 ||| beginF E F post (W.getD h 0)=W.getD x.2.toNat 0
  | [],W,more,hm=>⟨hm,rfl,fun pre x post e=>by simp at e⟩
  | y :: r,W,more,hm=>by
    rw[passWb] at hm ⊢
    unfold stepW at hm ⊢
    by_cases c:y.1=2
    · rw[if_pos c] at hm ⊢
      obtain⟨h1,h2,h3⟩:=passWb_still r _ _ hm
      rw[Bool.or_eq_false_iff] at h1
      have h4:W.getD y.2.toNat 0 ||| beginF E F r (W.getD h 0)=W.getD y.2.toNat 0:=by
        have:=h1.1
        unfold addF at this
        simpa using this
      have h5:(addF W y.2.toNat (beginF E F r (W.getD h 0))).1=W:=by
        unfold addF
        dsimp only
        rw[h4,set_getD]
      rw[h2]
      dsimp only at h3 ⊢
      rw[h5] at h3 ⊢
      refine⟨h1.2,rfl,fun pre x post e hx => ?_⟩
      match pre,e with
      | [],e=>
        simp only[List.nil_append,List.cons.injEq] at e
        obtain⟨rfl,rfl⟩:=e
        exact h4
      | z::pre,e=>
        simp only[List.cons_append,List.cons.injEq] at e
        exact h3 pre x post e.2 hx
    · rw[if_neg c] at hm ⊢
      obtain⟨h1,h2,h3⟩:=passWb_still r _ _ hm
      refine⟨h1,h2,fun pre x post e hx => ?_⟩
      match pre,e with
      | [],e=>
        simp only[List.nil_append,List.cons.injEq] at e
        obtain⟨rfl,rfl⟩:=e
        exact absurd hx c
      | z::pre,e=>
        simp only[List.cons_append,List.cons.injEq] at e
        exact h3 pre x post e.2 hx
theorem passW_still {E:List Bool} {F:List Nat}:∀ (l:List gramL.Prod) (W:List Nat) (more:Bool),(passW E F l W more).2=false→more=false∧(passW E F l W more).1=W∧∀ p∈l,∀ pre x post,p.2=pre++x::post→x.1=2→W.getD x.2.toNat 0 ||| beginF E F post (W.getD p.1.toNat 0)=W.getD x.2.toNat 0
  | [],W,more,hm=>⟨hm,rfl,fun p hp=>by cases hp⟩
  | p::r,W,more,hm=>by
    rw[passW] at hm ⊢
    obtain⟨h1,h2,h3⟩:=passW_still r _ _ hm
    obtain⟨k1,k2,k3⟩:=passWb_still p.2 W more h1
    rw[k2] at h2 h3 ⊢
    refine⟨k1,h2,fun q hq => ?_⟩
    rcases List.mem_cons.1 hq with rfl | hq
    · exact k3
    · exact h3 q hq
end Go.Proofs.Ytldiodhdefnlaaa.factsL

/- Der -/
namespace Go.Proofs.Ytldiodhdefnlaaa.derL
open gramL treeL countL factsL
mutual
inductive Der (l:List gramL.Prod):Sym→List Int→Prop
  | term {x:Sym} (h:x.1=1):Der l x [x.2]
  | non {x:Sym} {p:gramL.Prod} {ws:List Int} (h:x.1≠1) (hp:p∈l) (hx:p.1=x.2) (hd:Ders l p.2 ws):Der l x ws
inductive Ders (l:List gramL.Prod):List Sym→List Int→Prop
  | nil:Ders l [] []
  | cons {y:Sym} {r:List Sym} {a b:List Int} (h1:Der l y a) (h2:Ders l r b):Ders l (y::r) (a++b)
end
theorem Ders.app {l:List gramL.Prod}:∀ {r r':List Sym} {a b:List Int},Ders l r a→Ders l r' b→Ders l (r++r') (a++b)
  | [],_,_,_,.nil,h=>h
  | _::_,_,_,_,.cons h1 h2,h=>by rw[List.append_assoc];exact .cons h1 (Ders.app h2 h)
theorem ders_one {l:List gramL.Prod} {x:Sym} {a:List Int} (h:Der l x a):Ders l [x] a:=by
  have:=Ders.cons h Ders.nil
  rwa [List.append_nil] at this
def cut (w:List Int) (a b:Nat):List Int:=(w.drop a).take (b - a)
theorem cut_app {w:List Int} {a m b:Nat} (h1:a≤m) (h2:m≤b):cut w a m++cut w m b=cut w a b:=by
  unfold cut
  have e3:w.drop m=(w.drop a).drop (m - a):=by rw[List.drop_drop,show a+(m - a)=m by omega]
  rw[e3,show b - a=(m - a)+(b - m) by omega,List.take_add]
theorem cut_self (w:List Int) (a:Nat):cut w a a=[]:=by unfold cut;simp
theorem cut_end {w:List Int} {a n:Nat} (h:n=w.length):cut w a n=w.drop a:=by
  unfold cut;rw[List.take_of_length_le (by simp;omega)]
theorem row_ders {l:List gramL.Prod} {w:List Int} {o:Sym→Nat→Nat→Nat}:∀ (body:List Sym) (a b:Nat),a≤b→(∀ y∈body,∀ i j,a≤i→i≤j→j≤b→0<o y i j→Der l y (cut w i j))→0<rowF o body a b→Ders l body (cut w a b)
  | [],a,b,hab,_,h=>by
    rw[rowF_E _ _ hab,rowE] at h
    have hE:a=b:=by
      by_cases c:a=b
      · exact c
      · rw[if_neg c] at h;omega
    subst hE
    rw[cut_self];exact .nil
  | y::r,a,b,hab,ho,h=>by
    obtain⟨m,m1,m2,m3⟩:=row_cut hab h
    unfold cutB at m3
    rw[Bool.and_eq_true,decide_eq_true_iff,decide_eq_true_iff] at m3
    rw[←cut_app m1 m2]
    exact .cons (ho y (by simp) a m (Nat.le_refl _) m1 m2 m3.1) (row_ders r m b m2 (fun z hz i j h1 h2 h3=>ho z (by simp[hz]) i j (by omega) h2 h3) m3.2)
section
variable {w:List Int} {l:List gramL.Prod} {n:Nat} {c:Chart}
open Classical in
theorem der_of_chart (hc:Lfp w l n c) (hs:SymsOk n l) {k a b:Nat} (hk:k<n) (hab:a≤b) (hb:b≤w.length) (h:0<c ((k:Int),(a:Int),(b:Int))):Der l (2,(k:Int)) (cut w a b):=by
  have hp : PreC w l n (fun x=>if Der l (2,x.1) (cut w x.2.1.toNat x.2.2.toNat) then 2 else 0):=fun q i j hq hij hj=>by
    dsimp only
    rw[Int.toNat_natCast,Int.toNat_natCast]
    by_cases cd:Der l (2,(q:Int)) (cut w i j)
    · rw[if_pos cd];exact nowF_le _ _ _ _ _
    · rw[if_neg cd]
      apply Nat.le_of_not_lt
      intro h0
      unfold nowF at h0
      obtain⟨r,r1,r2,r3⟩:=sumP_pos (Nat.lt_min.1 h0).2
      have hm:=prodAt_mem (l:=l) (p:=(r:Int)) (by omega) (by omega)
      refine cd (.non (by show (2:Int)≠1;decide) hm r2 (row_ders _ i j hij (fun y hy i' j' h1 h2 h3 h4 => ?_) r3))
      unfold oneF at h4
      by_cases e:y.1=2
      · rw[if_pos e] at h4
        dsimp only at h4
        rw[Int.toNat_natCast,Int.toNat_natCast] at h4
        split at h4
        · rename_i hd
          obtain⟨y1,y2⟩:=y
          dsimp only at e hd
          subst e
          exact hd
        · omega
      · rw[if_neg e] at h4
        split at h4
        · rename_i h5
          obtain⟨h6,h7⟩:=h5
          have e1:y.1=1:=((hs _ hm).2.2 y hy).resolve_right fun h=>e h.1
          obtain⟨h8,h9⟩:=List.getElem?_eq_some_iff.1 h7
          have:cut w i' j'=[y.2]:=by
            unfold cut
            rw[h6,show i'+1 - i'=1 by omega,List.drop_eq_getElem_cons h8,h9];rfl
          rw[this]
          exact .term e1
        · omega
  have:=hc.least _ hp k a b hk hab hb
  dsimp only at this
  rw[Int.toNat_natCast,Int.toNat_natCast] at this
  by_cases cd:Der l (2,(k:Int)) (cut w a b)
  · exact cd
  · rw[if_neg cd] at this;omega
theorem der_of_one (hc:Lfp w l n c) (hs:SymsOk n l) {x:Sym} {a b:Nat} (hx:x.1=1∨(x.1=2∧0≤x.2∧x.2<(n:Int))) (hab:a≤b) (hb:b≤w.length) (h:0<oneF c w x a b):Der l x (cut w a b):=by
  unfold oneF at h
  rcases hx with hx | ⟨h2,h3,h4⟩
  · rw[if_neg (by omega)] at h
    split at h
    · rename_i h5
      obtain⟨h6,h7⟩:=h5
      obtain⟨h8,h9⟩:=List.getElem?_eq_some_iff.1 h7
      have:cut w a b=[x.2]:=by
        unfold cut
        rw[h6,show a+1 - a=1 by omega,List.drop_eq_getElem_cons h8,h9];rfl
      rw[this]
      exact .term hx
    · omega
  · rw[if_pos h2] at h
    obtain⟨x1,x2⟩:=x
    dsimp only at *
    subst h2
    have e:x2=((x2.toNat:Nat):Int):=by omega
    rw[e] at h ⊢
    exact der_of_chart hc hs (by omega) hab hb h
end
section
end
def SoundS (l:List gramL.Prod) (s:FS):Prop:=(∀ i:Nat,s.E.getD i false=true→Der l (2,(i:Int)) [])∧∀ i:Nat,s.M.getD i false=true→∃ ws,Der l (2,(i:Int)) ws
theorem allE_sound {l:List gramL.Prod} {E:List Bool} (h:∀ i:Nat,E.getD i false=true→Der l (2,(i:Int)) []):∀ (b:List Sym),(∀ x∈b,x.1=1∨(x.1=2∧0≤x.2))→allF E b false=true→Ders l b []
  | [],_,_=> .nil
  | y :: r,hx,ha=>by
    unfold allF at ha
    rw[List.all_cons,Bool.and_eq_true] at ha
    have ih:=allE_sound h r (fun z hz=>hx z (by simp[hz])) ha.2
    rcases hx y (by simp) with c | ⟨c1,c2⟩
    · rw[if_pos c] at ha;simp at ha
    · rw[if_neg (by omega),if_pos c1] at ha
      have hd:=h _ ha.1
      obtain⟨y1,y2⟩:=y
      dsimp only at *
      subst c1
      rw[Int.toNat_of_nonneg c2] at hd
      exact .cons hd ih
theorem allM_sound {l:List gramL.Prod} {M:List Bool} (h:∀ i:Nat,M.getD i false=true→∃ ws,Der l (2,(i:Int)) ws):∀ (b:List Sym),(∀ x∈b,x.1=1∨(x.1=2∧0≤x.2))→allF M b true=true→∃ ws,Ders l b ws
  | [],_,_=>⟨[],.nil⟩
  | y :: r,hx,ha=>by
    unfold allF at ha
    rw[List.all_cons,Bool.and_eq_true] at ha
    obtain⟨ws,ih⟩:=allM_sound h r (fun z hz=>hx z (by simp[hz])) ha.2
    rcases hx y (by simp) with c | ⟨c1,c2⟩
    · exact⟨_,.cons (.term c) ih⟩
    · rw[if_neg (by omega),if_pos c1] at ha
      obtain⟨us,hd⟩:=h _ ha.1
      obtain⟨y1,y2⟩:=y
      dsimp only at *
      subst c1
      rw[Int.toNat_of_nonneg c2] at hd
      exact⟨_,.cons hd ih⟩
theorem markF_in {l:List Bool} {i k:Nat} {b:Bool} (h:(markF l i b).1.getD k false=true):l.getD k false=true∨(k=i∧b=true):=by
  unfold markF at h
  split at h
  · rename_i c
    dsimp only at h
    rw[List.getD_eq_getElem?_getD,List.getElem?_set] at h
    by_cases e:i=k
    · exact .inr ⟨e.symm,c.1⟩
    · rw[if_neg e,←List.getD_eq_getElem?_getD] at h
      exact .inl h
  · exact .inl h
theorem roundP_sound {n:Nat} {l:List gramL.Prod} (hs:SymsOk n l) {p:gramL.Prod} (hp:p∈l) {s:FS} (h:SoundS l s):SoundS l (roundP p s):=by
  obtain⟨s1,s2,s3⟩:=hs p hp
  have hx:∀ x∈p.2,x.1=1∨(x.1=2∧0≤x.2):=fun x hx=>(s3 x hx).imp id fun h=>⟨h.1,h.2.1⟩
  unfold roundP
  refine⟨fun i hi => ?_,fun i hi => ?_⟩
  · rcases markF_in hi with h1 | ⟨h1,h2⟩
    · exact h.1 i h1
    · subst h1
      exact .non (by show (2:Int)≠1;decide) hp (by omega) (allE_sound h.1 _ hx h2)
  · rcases markF_in hi with h1 | ⟨h1,h2⟩
    · exact h.2 i h1
    · subst h1
      obtain⟨ws,hw⟩:=allM_sound h.2 _ hx h2
      exact⟨ws,.non (by show (2:Int)≠1;decide) hp (by omega) hw⟩
theorem roundL_sound {n:Nat} {l:List gramL.Prod} (hs:SymsOk n l):∀ (r:List gramL.Prod),(∀ p∈r,p∈l)→∀ (s:FS),SoundS l s→SoundS l (roundL r s)
  | [],_,s,h=>h
  | p::r,hr,s,h=>by
    rw[roundL]
    exact roundL_sound hs r (fun q hq=>hr q (by simp[hq])) _ (roundP_sound hs (hr p (by simp)) h)
end Go.Proofs.Ytldiodhdefnlaaa.derL

/- LlL -/
namespace Go.Proofs.Ytldiodhdefnlaaa.llL
open gramL treeL countL factsL derL
abbrev Cl:=Int×Int×Int×Int
def bitC (T col:Nat):Nat:=if col=T then 9223372036854775808 else 2 ^ col
section
variable (l:List gramL.Prod) (may:Nat→Nat) (T:Nat)
def candL (n col i:Nat):Bool:=decide ((prodAt l (i:Int)).1=(n:Int)) && !decide ((may i &&& bitC T col)=0)
def firstL (n col:Nat):Nat→Int
  | 0=> -1
  | k+1=>if firstL n col k<0 then (if candL l may T n col k=true then (k:Int) else firstL n col k) else firstL n col k
def outL (n col:Nat):Nat→List Cl→List Cl
  | 0,out=>out
  | k+1,out=>if candL l may T n col k=true then (if firstL l may T n col k<0 then outL n col k out else outL n col k out++[((n:Int),(col:Int),firstL l may T n col k,(k:Int))]) else outL n col k out
def colO (n:Nat):Nat→List Cl→List Cl
  | 0,out=>out
  | c+1,out=>outL l may T n c l.length (colO n c out)
def rowO':Nat→List Cl
  | 0=>[]
  | n+1=>colO l may T n (T+1) (rowO' n)
def rowAt (n col:Nat):Int:=firstL l may T n col l.length
end
section
variable {l:List gramL.Prod} {may:Nat→Nat} {T:Nat}
theorem first_ge (n col:Nat):∀ k,-1≤firstL l may T n col k∧firstL l may T n col k<(k:Int)
  | 0=>⟨by rw[firstL];omega,by rw[firstL];omega⟩
  | k+1=>by
    have:=first_ge n col k
    rw[firstL]
    split
    · split <;> omega
    · omega
end
def colAt (T:Nat) (w:List Int) (a:Nat):Nat:=if a<w.length then (w.getD a 0).toNat else T
section
end
section
end
section
end
end Go.Proofs.Ytldiodhdefnlaaa.llL

/- ClimbO -/
namespace Go.Proofs.Ytldiodhdefnlaaa.eng
open Go.RowKit kit mix gramL treeL
theorem rr_vfld {P:Program} {n:Nat} {W:Base} {fr:Fr} {L:List Own} {dst:Option Tmp} {t ty:TypeId} {pos:String} {after:Array Edge} {guard:Option (Nat×Bool)} {x:Operand} {f:Nat} {v u:Value} (hx:ev fr x=some v) (h:∀ w,(Instr.field t v f).run P w = .ok u w):RR P n W ⟨dst,.field t x f,ty,pos,after,guard⟩ fr L u:= .mk fun a w hr _=>by
  simp[execOp,hr.ev hx,h]
end Go.Proofs.Ytldiodhdefnlaaa.eng

/- DfS -/
namespace Go.Proofs.Ytldiodhdefnlaaa.eng
open Go.RowKit kit mix classL
theorem pow_64 {j:Nat} (hj:j<64):2 ^ j<18446744073709551616:=by
  have:=Nat.pow_lt_pow_right (a:=2) (by decide) hj
  rwa [show (2:Nat) ^ 64=18446744073709551616 from rfl] at this
theorem shlD {P:Program} (j:Nat) (hj:j<64) (w:World):(Op.shift .shl .u64 1 .i64 (j:Int)).run P w = .ok (.int .u64 ((2 ^ j:Nat):Int)) w:=by
  have e:min j 64=j:=by omega
  have e2:(2:Int) ^ j=((2 ^ j:Nat):Int):=by rw[Int.natCast_pow];rfl
  have e3:IntKind.u64.wrap ((1:Int)*2 ^ j)=((2 ^ j:Nat):Int):=by
    have:=pow_64 hj
    rw[e2,IntKind.wrap_u64,Int.one_mul]
    generalize 2 ^ j=y at *
    omega
  have h0:¬ ((j:Int)<0):=by omega
  simp only[Op.shift,if_neg h0,IntKind.bits,Int.toNat_natCast,e,e3,Sem.run_pure]
theorem i64and63:∀ b:Nat,b<256→bits .and .i64 (b:Int) 63=((b % 64:Nat):Int):=by decide +kernel
theorem clsA_get (c:C4) (i:Nat) (h:i<4):(clsL c).toArray[i]?=some (.int .u64 ((c.get i).toNat:Int)):=cls_cell c i h
theorem clsA_set (c:C4) (i:Nat) (h:i<4) (v:BitVec 64):(clsL c).toArray.setIfInBounds i (.int .u64 (v.toNat:Int))=(clsL (c.set i v)).toArray:=by
  match i,h with
  | 0,_=>rfl
  | 1,_=>rfl
  | 2,_=>rfl
  | 3,_=>rfl
attribute [local irreducible] Op.shift Go.bits in
theorem setHas_calls (c:C4) (b:Nat) (hb:b<256) (w:World):Calls Try.prog 57 #[clsV c,.int .i64 (b:Int)] w (Meets (ret (.bool (c.mem b))) w):=by
  refine enter (args:=[.agg #[v64 c.a,v64 c.b,v64 c.c,v64 c.d],.int .i64 (b:Int)]) (n:=14) Try.func57 rfl rfl rfl ?_
  refine T_seq (T_region (TL_box rfl rfl rfl fun g => ?_))
  have h1:b / 64<4:=by omega
  have hc:(#[v64 c.a,v64 c.b,v64 c.c,v64 c.d]:Array Value)[0+b / 64]?=some (.int .u64 ((c.get (b / 64)).toNat:Int)):=by rw[Nat.zero_add];exact cls_cell c _ h1
  have hx:=(c.get (b / 64)).isLt
  have hs1:∀ w,(Op.shift .shr .i64 (b:Int) .u64 6).run Try.prog w = .ok (.int .i64 ((b / 64:Nat):Int)) w:=fun w=>shrU b 6 64 .i64 .u64 rfl (by decide) w
  have hs2:∀ w,(Op.shift .shr .u64 ((c.get (b / 64)).toNat:Int) .i64 ((b % 64:Nat):Int)).run Try.prog w = .ok (.int .u64 (((c.get (b / 64)).toNat / 2 ^ (b % 64):Nat):Int)) w:=fun w=>shrU _ (b % 64) 64 .u64 .i64 rfl (by omega) w
  have hm:c.mem b=decide ((c.get (b / 64)).toNat / 2 ^ (b % 64) % 2=1):=by unfold C4.mem;rw[Nat.testBit_eq_decide_div_mod_eq]
  rw[hm]
  have hd:(c.get (b / 64)).toNat / 2 ^ (b % 64)≤(c.get (b / 64)).toNat:=Nat.div_le_self _ _
  have h63:=i64and63 b hb
  generalize (c.get (b / 64)).toNat=x at *
  generalize b % 64=k at *
  generalize b / 64=i at *
  generalize x / 2 ^ k=y at *
  have ha:bits .and .u64 (y:Int) 1=((y % 2:Nat):Int):=by
    have:=bits_and_u64_nat y 1 (by omega) (by decide)
    rw[Nat.and_one_is_mod] at this
    exact this
  repeat(first|refine GC ?_|refine gV (rr_shr rfl rfl hs1) ?_|refine gV (rr_aidx1 Und.eq TyC.ty rfl rfl h1) ?_|refine gV (rr_load1 TyC.ty rfl (at_blk (i:=0) rfl hc)) ?_|refine gV (rr_and rfl rfl h63) ?_|refine gV (rr_shr rfl rfl hs2) ?_|refine gV (rr_and rfl rfl ha) ?_|refine gV (rr_eql rfl rfl rfl) ?_|refine GB ?_)
  exact E_ret1e rfl rfl (by congr 1;rw[decide_eq_decide];omega)
attribute [local irreducible] Op.shift Go.bits in
theorem setPut_calls (c:C4) (b:Nat) (hb:b<256) (g:Nat) (w:World) (B:Base) (hm:Mem B [blkO g (clsL c).toArray 162] w) :
    Calls Try.prog 59 #[.pointer (some ⟨g,0,none⟩),.int .i64 (b:Int)] w (MeetsB ⟨fun (_:Unit)=>True,fun _=> .tuple #[],fun _=>[blkO g (clsL (c.bit b)).toArray 162]⟩ B):=by
  refine enterB hm (args:=[.pointer (some ⟨g,0,none⟩),.int .i64 (b:Int)]) (n:=16) Try.func59 rfl rfl rfl ?_
  clear hm
  have h1:b / 64<4:=by omega
  have hc:(clsL c).toArray[0+b / 64]?=some (.int .u64 ((c.get (b / 64)).toNat:Int)):=by rw[Nat.zero_add];exact clsA_get c _ h1
  have hs1:∀ w,(Op.shift .shr .i64 (b:Int) .u64 6).run Try.prog w = .ok (.int .i64 ((b / 64:Nat):Int)) w:=fun w=>shrU b 6 64 .i64 .u64 rfl (by decide) w
  have h63:=i64and63 b hb
  have hsh:=shlD (P:=Try.prog) (b % 64) (by omega)
  have hset:=clsA_set c (b / 64) h1 (c.get (b / 64) ||| BitVec.ofNat 64 (2 ^ (b % 64)))
  have hbit:c.bit b=c.set (b / 64) (c.get (b / 64) ||| BitVec.ofNat 64 (2 ^ (b % 64))):=rfl
  rw[←hbit] at hset
  have hor:bits .or .u64 ((c.get (b / 64)).toNat:Int) ((2 ^ (b % 64):Nat):Int)=(((c.get (b / 64)) ||| BitVec.ofNat 64 (2 ^ (b % 64))).toNat:Int):=by
    have hp:=pow_64 (j:=b % 64) (by omega)
    rw[bits_or_u64_nat _ _ (c.get (b / 64)).isLt hp,BitVec.toNat_or,BitVec.toNat_ofNat,Nat.mod_eq_of_lt hp]
  have hm0:b % 64<64:=by omega
  generalize c.get (b / 64) ||| BitVec.ofNat 64 (2 ^ (b % 64))=z at *
  generalize (c.get (b / 64)).toNat=x at *
  generalize 2 ^ (b % 64)=y at *
  generalize b % 64=k at *
  generalize b / 64=i at *
  generalize c.bit b=c' at *
  have hsz:Nat.blt (0+i) (clsL c).toArray.size=true:=by rw[Nat.blt_eq];show 0+i<4;omega
  rw[←Nat.zero_add i] at hset
  refine T_ord ([]) (.calm 0 (.calm 1 (.calm 2 (.calm 3 (.calm 4 (.calm 6 (.calm 7 (.calm 8 (.calm 10 (.one 5 (.calm 9 (.calm 11 (.one 12 (.done)))))))))))))) (sub_pick [] (by decide) rfl) (by kernel_rfl) (by kernel_rfl) (by intro c a d v w h;cases d <;> exact h) ?_
  repeat(first|refine GW ?_|(refine GN ?_;first|refine QW (rr_shr rfl rfl hs1) ?_|refine QW (rr_aidx1 Und.eq TyC.ty rfl rfl h1) ?_|refine QW (rr_and rfl rfl h63) ?_|refine QW (rr_shl rfl rfl hsh) ?_))
  refine TW_one rfl (TL_val (rr_load1 TyC.ty rfl (at_blk (i:=0) rfl hc)) rfl rfl rfl (TW_on (sub_pick [] (by decide) rfl) ?_))
  repeat(first|refine GW ?_|(refine GN ?_;first|refine QW (rr_or rfl rfl hor) ?_|refine QW (rr_aidx1 Und.eq TyC.ty rfl rfl h1) ?_))
  refine TW_one rfl (TL_store1 (i:=0) rfl rfl rfl rfl rfl hsz (TW_on (sub_pick [] (by decide) rfl) ?_))
  try refine GW ?_
  try refine GA ?_
  exact E_end0 rfl fun w hm=>hm.meetsB (S:=⟨fun (_:Unit)=>True,fun _=> .tuple #[],fun _=>[blkO g (clsL c').toArray 162]⟩) () trivial [0] (by decide) (by rw[←hset];rfl)
end Go.Proofs.Ytldiodhdefnlaaa.eng

/- PlacesL -/
namespace Go.Proofs.Ytldiodhdefnlaaa.placesL
open classL rexL Go.Lib
def sortL (l:List Int):List Int:=l.mergeSort fun x y=>decide (x≤y)
def uni (a b:List Int):List Int:=compact (sortL (a++b))
theorem sortL_sorted (l:List Int):(sortL l).Pairwise (· ≤ ·):=by
  have:=List.pairwise_mergeSort (le:=fun x y:Int=>decide (x≤y)) (fun a b c=>by simp;omega) (fun a b=>by simp;omega) l
  exact this.imp (by simp)
theorem compactUpTo_law {d:Array Int} (hs:∀ i j,i≤j→j<d.size→d[i]! ≤ d[j]!):∀ m,m≤d.size→(compactUpTo d m).Pairwise (· < ·)∧(∀ x,x∈compactUpTo d m↔∃ j,j<m∧d[j]! = x)
  | 0,_=>⟨by unfold compactUpTo;simp,fun x=>by unfold compactUpTo;simp⟩
  | m + 1,hm=>by
    obtain⟨h1,h2⟩:=compactUpTo_law hs m (by omega)
    rw[compactUpTo_succ]
    by_cases hk:keeps d m=true
    · rw[if_pos hk]
      have hk':m=0∨d[m]! ≠ d[m - 1]! := by unfold keeps at hk;simpa using hk
      refine⟨List.pairwise_append.2 ⟨h1,List.pairwise_singleton _ _,fun x hx y hy => ?_⟩,fun x => ?_⟩
      · rw[List.mem_singleton.1 hy]
        obtain⟨j,hj,rfl⟩:=(h2 x).1 hx
        have a1:=hs j (m - 1) (by omega) (by omega)
        have a2:=hs (m - 1) m (by omega) (by omega)
        rcases hk' with h0 | h0
        · omega
        · omega
      · rw[List.mem_append,List.mem_singleton,h2]
        constructor
        · rintro (⟨j,hj,rfl⟩ | rfl)
          · exact⟨j,by omega,rfl⟩
          · exact⟨m,by omega,rfl⟩
        · rintro⟨j,hj,rfl⟩
          by_cases c:j=m
          · subst c;exact .inr rfl
          · exact .inl ⟨j,by omega,rfl⟩
    · rw[if_neg hk,List.append_nil]
      refine⟨h1,fun x => ?_⟩
      rw[h2]
      constructor
      · rintro⟨j,hj,rfl⟩;exact⟨j,by omega,rfl⟩
      · rintro⟨j,hj,rfl⟩
        by_cases c:j=m
        · subst c
          have hk':¬ (j=0∨d[j]! ≠ d[j - 1]!):=by unfold keeps at hk;simpa using hk
          have e:d[j]! = d[j - 1]! := by
            rcases Classical.em (d[j]! = d[j - 1]!) with h | h
            · exact h
            · exact absurd (.inr h) hk'
          have:j≠0:=fun h=>hk' (.inl h)
          exact⟨j - 1,by omega,e.symm⟩
        · exact⟨j,by omega,rfl⟩
theorem sorted_get {l:List Int} (h:l.Pairwise (· ≤ ·)):∀ i j,i≤j→j<l.toArray.size→l.toArray[i]! ≤ l.toArray[j]! := by
  intro i j hij hj
  have hj':j<l.length:=by simpa using hj
  rw[getElem!_pos l.toArray i (by simp;omega),getElem!_pos l.toArray j hj]
  by_cases c:i=j
  · subst c;exact Int.le_refl _
  · exact List.pairwise_iff_getElem.1 h i j (by omega) hj' (by omega)
theorem uni_law (a b:List Int):(uni a b).Pairwise (· < ·)∧∀ x,x∈uni a b↔x∈a∨x∈b:=by
  have hs:=sorted_get (sortL_sorted (a++b))
  obtain⟨h1,h2⟩:=compactUpTo_law hs (sortL (a++b)).length (by simp)
  refine⟨h1,fun x => ?_⟩
  unfold uni compact
  rw[h2,←List.mem_append,←List.mem_mergeSort (l:=a++b) (le:=fun x y:Int=>decide (x≤y))]
  show _↔x∈sortL (a++b)
  rw[List.mem_iff_getElem]
  constructor
  · rintro⟨j,hj,rfl⟩;exact⟨j,hj,by rw[getElem!_pos _ j (by simpa using hj)];rfl⟩
  · rintro⟨j,hj,rfl⟩;exact⟨j,hj,by rw[getElem!_pos _ j (by simpa using hj)];rfl⟩
def Ris (n:Nat) (l:List Int):Prop:=l.Pairwise (· < ·)∧∀ x∈l,0≤x∧x<n
theorem ris_len {n:Nat} {l:List Int} (h:Ris n l):l.length≤n:=by
  have key:∀ (l:List Int) (lo:Int),l.Pairwise (· < ·)→(∀ x∈l,lo≤x∧x<n)→lo≤n→(l.length:Int)≤n - lo:=by
    intro l
    induction l with
    | nil=>intro lo _ _ h;show (0:Int)≤_;omega
    | cons x r ih=>
      intro lo hp hx _
      rw[List.pairwise_cons] at hp
      have h1:=hx x (List.mem_cons_self ..)
      have:=ih (x+1) hp.2 (fun y hy=>⟨by have:=hp.1 y hy;omega,(hx y (List.mem_cons_of_mem _ hy)).2⟩) (by omega)
      rw[List.length_cons];omega
  have:=key l 0 h.1 h.2 (by omega)
  omega
theorem ris_nil (n:Nat):Ris n []:=⟨List.Pairwise.nil,fun x h=>by cases h⟩
theorem ris_mono {n m:Nat} {l:List Int} (h:Ris n l) (hm:n≤m):Ris m l:=⟨h.1,fun x hx=>by have:=h.2 x hx;omega⟩
theorem ris_uni {n:Nat} {a b:List Int} (ha:∀ x∈a,0≤x∧x<n) (hb:∀ x∈b,0≤x∧x<n):Ris n (uni a b):=
  ⟨(uni_law a b).1,fun x hx=>((uni_law a b).2 x |>.1 hx).elim (ha x) (hb x)⟩
structure PS where
  classes:List C4
  rules:List Int
  follow:List (List Int)
  last:List Bool
structure Shape where
  empty:Bool
  first:List Int
  last:List Int
def behindF (fol:List (List Int)) (last first:List Int):List (List Int):=last.foldl (fun f x=>f.set x.toNat (uni (f.getD x.toNat []) first)) fol
def nodeF (rule:Int):Re→PS→Shape×PS
  | .empty,p=>(⟨true,[],[]⟩,p)
  | .none,p=>(⟨false,[],[]⟩,p)
  | .byte c,p=>(⟨false,[(p.classes.length:Int)],[(p.classes.length:Int)]⟩,⟨p.classes++[c],p.rules++[rule],p.follow++[[]],p.last++[false]⟩)
  | .star a,p=>(⟨true,(nodeF rule a p).1.first,(nodeF rule a p).1.last⟩,{ (nodeF rule a p).2 with follow:=behindF (nodeF rule a p).2.follow (nodeF rule a p).1.last (nodeF rule a p).1.first })
  | .alt a b,p=>(⟨(nodeF rule a p).1.empty || (nodeF rule b (nodeF rule a p).2).1.empty,uni (nodeF rule a p).1.first (nodeF rule b (nodeF rule a p).2).1.first,uni (nodeF rule a p).1.last (nodeF rule b (nodeF rule a p).2).1.last⟩,(nodeF rule b (nodeF rule a p).2).2)
  | .cat a b,p=>
    (⟨(nodeF rule a p).1.empty && (nodeF rule b (nodeF rule a p).2).1.empty,
      if (nodeF rule a p).1.empty then uni (nodeF rule a p).1.first (nodeF rule b (nodeF rule a p).2).1.first else (nodeF rule a p).1.first,
      if (nodeF rule b (nodeF rule a p).2).1.empty then uni (nodeF rule a p).1.last (nodeF rule b (nodeF rule a p).2).1.last else (nodeF rule b (nodeF rule a p).2).1.last⟩,
     { (nodeF rule b (nodeF rule a p).2).2 with follow:=behindF (nodeF rule b (nodeF rule a p).2).2.follow (nodeF rule a p).1.last (nodeF rule b (nodeF rule a p).2).1.first })
structure PSOk (p:PS):Prop where
  rules:p.rules.length=p.classes.length
  follow:p.follow.length=p.classes.length
  last:p.last.length=p.classes.length
  ris:∀ l∈p.follow,Ris p.classes.length l
theorem behind_len (fol:List (List Int)) (last first:List Int):(behindF fol last first).length=fol.length:=by
  unfold behindF
  induction last generalizing fol with
  | nil=>rfl
  | cons x r ih=>rw[List.foldl_cons,ih,List.length_set]
theorem behind_ris {n:Nat} {first:List Int} (hf:∀ x∈first,0≤x∧x<n):∀ (last:List Int) (fol:List (List Int)),(∀ l∈fol,Ris n l)→∀ l∈behindF fol last first,Ris n l
  | [],fol,h=>h
  | x :: r,fol,h=>by
    show ∀ l∈behindF (fol.set x.toNat (uni (fol.getD x.toNat []) first)) r first,Ris n l
    refine behind_ris hf r _ fun l hl => ?_
    rcases List.mem_or_eq_of_mem_set hl with hl | rfl
    · exact h l hl
    · refine ris_uni (fun y hy => ?_) hf
      by_cases c:x.toNat<fol.length
      · rw[List.getD_eq_getElem?_getD,List.getElem?_eq_getElem c] at hy
        exact (h _ (List.getElem_mem c)).2 y hy
      · rw[List.getD_eq_getElem?_getD,List.getElem?_eq_none (by omega)] at hy
        cases hy
theorem node_ok (rule:Int):∀ (e:Re) (p:PS),PSOk p→PSOk (nodeF rule e p).2∧p.classes.length≤(nodeF rule e p).2.classes.length∧(nodeF rule e p).2.classes.length≤p.classes.length+e.size∧Ris (nodeF rule e p).2.classes.length (nodeF rule e p).1.first∧Ris (nodeF rule e p).2.classes.length (nodeF rule e p).1.last
  | .empty,p,h=>⟨h,Nat.le_refl _,Nat.le_add_right _ _,ris_nil _,ris_nil _⟩
  | .none,p,h=>⟨h,Nat.le_refl _,Nat.le_add_right _ _,ris_nil _,ris_nil _⟩
  | .byte c,p,h=>by
    have h1:Ris (p.classes++[c]).length [(p.classes.length:Int)]:=⟨List.pairwise_singleton _ _,fun x hx=>by rw[List.mem_singleton.1 hx,List.length_append,List.length_singleton];omega⟩
    refine⟨⟨?_,?_,?_,fun l hl => ?_⟩,?_,?_,h1,h1⟩
    · show (p.rules++[rule]).length=(p.classes++[c]).length;rw[List.length_append,List.length_append,h.rules];rfl
    · show (p.follow++[[]]).length=(p.classes++[c]).length;rw[List.length_append,List.length_append,h.follow];rfl
    · show (p.last++[false]).length=(p.classes++[c]).length;rw[List.length_append,List.length_append,h.last];rfl
    · have hl:l∈p.follow++[[]]:=hl
      show Ris (p.classes++[c]).length l
      rcases List.mem_append.1 hl with hl | hl
      · exact ris_mono (h.ris l hl) (by simp)
      · rw[List.mem_singleton.1 hl];exact ris_nil _
    · show p.classes.length≤(p.classes++[c]).length;simp
    · show (p.classes++[c]).length≤_;simp[Re.size]
  | .star a,p,h=>by
    obtain⟨h1,h2,h3,h4,h5⟩:=node_ok rule a p h
    exact⟨⟨h1.rules,(behind_len _ _ _).trans h1.follow,h1.last,behind_ris h4.2 _ _ h1.ris⟩,h2,by show _≤p.classes.length+(a.size+1);exact Nat.le_trans h3 (by omega),h4,h5⟩
  | .alt a b,p,h=>by
    obtain⟨h1,h2,h3,h4,h5⟩:=node_ok rule a p h
    obtain⟨k1,k2,k3,k4,k5⟩:=node_ok rule b _ h1
    exact⟨k1,Nat.le_trans h2 k2,by show _≤p.classes.length+(a.size+b.size+1);exact Nat.le_trans k3 (by omega),ris_uni (ris_mono h4 k2).2 k4.2,ris_uni (ris_mono h5 k2).2 k5.2⟩
  | .cat a b,p,h=>by
    obtain⟨h1,h2,h3,h4,h5⟩:=node_ok rule a p h
    obtain⟨k1,k2,k3,k4,k5⟩:=node_ok rule b _ h1
    refine⟨⟨k1.rules,(behind_len _ _ _).trans k1.follow,k1.last,behind_ris k4.2 _ _ k1.ris⟩,Nat.le_trans h2 k2,by show _≤p.classes.length+(a.size+b.size+1);exact Nat.le_trans k3 (by omega),?_,?_⟩
    · show Ris _ (if _ then _ else _)
      split
      · exact ris_uni (ris_mono h4 k2).2 k4.2
      · exact ris_mono h4 k2
    · show Ris _ (if _ then _ else _)
      split
      · exact ris_uni (ris_mono h5 k2).2 k5.2
      · exact k5
end Go.Proofs.Ytldiodhdefnlaaa.placesL

/- PlacesM -/
namespace Go.Proofs.Ytldiodhdefnlaaa.placesL
open classL rexL
structure MS where
  ps:PS
  first:List Int
  empty:List Bool
def MS.zero:MS:=⟨⟨[],[],[],[]⟩,[],[]⟩
def markF (last:List Bool) (l:List Int):List Bool:=l.foldl (fun b x=>b.set x.toNat true) last
def stepM (i:Nat) (m:MS) (e:Re):MS:=
  ⟨{ (nodeF i e m.ps).2 with last:=markF (nodeF i e m.ps).2.last (nodeF i e m.ps).1.last },uni m.first (nodeF i e m.ps).1.first,m.empty++[(nodeF i e m.ps).1.empty]⟩
def loopM:Nat→MS→List Re→Int×MS
  | _,m,[]=>(0,m)
  | i,m,e::r=>if 200<(stepM i m e).ps.classes.length then (2,.zero) else loopM (i+1) (stepM i m e) r
abbrev chkR (r:Rx):Int:=(chk r 1 0).1
def checkM:List Rx→Int
  | []=>0
  | r::l=>if chkR r≠0 then chkR r else checkM l
structure MSOk (m:MS):Prop where
  ps:PSOk m.ps
  first:Ris m.ps.classes.length m.first
theorem mark_len (last:List Bool) (l:List Int):(markF last l).length=last.length:=by
  unfold markF
  induction l generalizing last with
  | nil=>rfl
  | cons x r ih=>rw[List.foldl_cons,ih,List.length_set]
theorem mark_step (last:List Bool) (l:List Int) {k:Nat} (hk:k<l.length):markF last (l.take (k+1))=(markF last (l.take k)).set l[k].toNat true:=by
  unfold markF
  rw[List.take_succ_eq_append_getElem hk,List.foldl_append];rfl
theorem zero_ok:MSOk .zero:=⟨⟨rfl,rfl,rfl,fun l h=>by cases h⟩,ris_nil _⟩
theorem step_ok (i:Nat) {m:MS} (h:MSOk m) (e:Re):MSOk (stepM i m e)∧(stepM i m e).ps.classes.length≤m.ps.classes.length+e.size:=by
  obtain⟨h1,h2,h3,h4,h5⟩:=node_ok i e m.ps h.ps
  exact⟨⟨⟨h1.rules,h1.follow,(mark_len _ _).trans h1.last,h1.ris⟩,ris_uni (ris_mono h.first h2).2 h4.2⟩,h3⟩
theorem check_all:∀ {l:List Rx},checkM l=0→∀ r∈l,chkR r=0
  | [],_,r,hr=>by cases hr
  | q :: l,h,r,hr=>by
    rw[checkM] at h
    split at h
    · contradiction
    · rename_i c
      rcases List.mem_cons.1 hr with rfl | hr
      · simpa using c
      · exact check_all h r hr
end Go.Proofs.Ytldiodhdefnlaaa.placesL

/- PlacesS -/
namespace Go.Proofs.Ytldiodhdefnlaaa.placesL
open classL rexL
structure MOkP (m:MS):Prop where
  ok:MSOk m
  rules:∀ r∈m.ps.rules,0≤r∧r<m.empty.length
  few:m.ps.classes.length≤200
  some:0<m.empty.length
  most:m.empty.length≤20
theorem node_rules (rule:Int):∀ (e:Re) (p:PS),(∀ r∈p.rules,0≤r∧r≤rule)→0≤rule→∀ r∈(nodeF rule e p).2.rules,0≤r∧r≤rule
  | .empty,p,h,_=>h
  | .none,p,h,_=>h
  | .byte c,p,h,h0=>fun r hr=>by
    have hr:r∈p.rules++[rule]:=hr
    rcases List.mem_append.1 hr with hr | hr
    · exact h r hr
    · rw[List.mem_singleton.1 hr];omega
  | .star a,p,h,h0=>node_rules rule a p h h0
  | .alt a b,p,h,h0=>node_rules rule b _ (node_rules rule a p h h0) h0
  | .cat a b,p,h,h0=>node_rules rule b _ (node_rules rule a p h h0) h0
theorem loop_ok:∀ (es:List Re) (i:Nat) (m m':MS),MSOk m→m.empty.length=i→(∀ r∈m.ps.rules,0≤r∧r<i)→m.ps.classes.length≤200→loopM i m es=(0,m')→MSOk m'∧m'.empty.length=i+es.length∧(∀ r∈m'.ps.rules,0≤r∧r<(i+es.length:Nat))∧m'.ps.classes.length≤200
  | [],i,m,m',h1,h2,h3,h4,h=>by
    cases h
    exact⟨h1,h2,fun r hr=>by have:=h3 r hr;simpa using this,h4⟩
  | e :: r,i,m,m',h1,h2,h3,h4,h=>by
    rw[loopM] at h
    split at h
    · cases h
    · rename_i c
      have:=loop_ok r (i+1) (stepM i m e) m' (step_ok i h1 e).1 (by show (m.empty++[_]).length=_;simp[h2]) (fun x hx=>by
        have:=node_rules i e m.ps (fun r hr=>by have:=h3 r hr;omega) (by omega) x hx;omega) (by omega) h
      rw[List.length_cons]
      rw[show i+(r.length+1)=i+1+r.length by omega]
      exact this
theorem make_ok {es:List Re} {m:MS} (h0:0<es.length) (h20:es.length≤20) (h:loopM 0 .zero es=(0,m)):MOkP m:=by
  obtain⟨h1,h2,h3,h4⟩:=loop_ok es 0 .zero m zero_ok rfl (fun r hr=>by cases hr) (Nat.zero_le _) h
  rw[Nat.zero_add] at h2 h3
  exact⟨h1,fun r hr=>by have:=h3 r hr;omega,h4,by omega,by omega⟩
end Go.Proofs.Ytldiodhdefnlaaa.placesL

/- DfaP -/
namespace Go.Proofs.Ytldiodhdefnlaaa.dfaP
open classL rexL placesL smallL
def putAll (c:C4) (l:List Int):C4:=l.foldl (fun c x=>c.bit x.toNat) c
def nextTo (p:PS) (s:C4):Nat→C4
  | 0=>C4.zero
  | i+1=>if s.mem i=true then putAll (nextTo p s i) (p.follow.getD i []) else nextTo p s i
def nextF (m:MS) (S:List C4):Nat→C4
  | 0=>putAll C4.zero m.first
  | n+1=>nextTo m.ps (S.getD n C4.zero) m.ps.follow.length
def toTo (p:PS) (all:C4) (b:Nat):Nat→C4
  | 0=>C4.zero
  | i+1=>if all.mem i=true∧(p.classes.getD i C4.zero).mem b=true then (toTo p all b i).bit i else toTo p all b i
def toF (p:PS) (all:C4) (b:Nat):C4:=toTo p all b p.classes.length
def tagTo (p:PS) (s:C4):Nat→Int
  | 0=> -1
  | i+1=>if s.mem i=true∧p.last.getD i false=true∧(tagTo p s i<0∨p.rules.getD i 0<tagTo p s i) then p.rules.getD i 0 else tagTo p s i
def tagF (p:PS) (s:C4):Int:=tagTo p s p.classes.length
structure DM where
  S:List C4
  tags:List Int
def stateF (p:PS) (m:DM) (s:C4):Nat×DM:=if s∈m.S then (idx m.S s+1,m) else (m.S.length+1,⟨m.S++[s],m.tags++[tagF p s]⟩)
def cellF (p:PS) (all:C4) (b:Nat) (r:Row) (m:DM):Row×DM:=
  if toF p all b=C4.zero then (if h:b<256 then r.set b (-1) else r,m) else (if h:b<256 then (r.set b (-1)).set b ((stateF p m (toF p all b)).1:Int) else r,(stateF p m (toF p all b)).2)
def rowTo (p:PS) (all:C4):Nat→Nat→Row→DM→Row×DM
  | 0,_,r,m=>(r,m)
  | f+1,b,r,m=>if 200<(cellF p all b r m).2.S.length+1 then cellF p all b r m else rowTo p all f (b+1) (cellF p all b r m).1 (cellF p all b r m).2
def rowP (m:MS) (n:Nat) (d:DM):Row×DM:=rowTo m.ps (nextF m d.S n) 256 0 (Vector.replicate 256 0) d
def makeTo (m:MS):Nat→Nat→List Row→DM→Option (List Row×DM)
  | 0,_,_,_=>none
  | f+1,n,R,d=>if n<d.S.length+1 then (if 200<(rowP m n d).2.S.length+1 then none else makeTo m f (n+1) (R++[(rowP m n d).1]) (rowP m n d).2) else some (R,d)
def firstT:List Bool→Int→Int
  | [],_=> -1
  | b::l,k=>if b=true then k else firstT l (k+1)
def makeD (m:MS):Option (List Row×DM):=makeTo m 201 0 [] ⟨[],[firstT m.empty 0]⟩
structure DOk (p:PS) (d:DM):Prop where
  nd:d.S.Nodup
  tags:d.tags.length=d.S.length+1
theorem state_ok {p:PS} {d:DM} (h:DOk p d) (s:C4):DOk p (stateF p d s).2∧d.S.length≤(stateF p d s).2.S.length∧(stateF p d s).2.S.length≤d.S.length+1∧0<(stateF p d s).1∧(stateF p d s).1<(stateF p d s).2.S.length+1:=by
  unfold stateF
  by_cases c:s∈d.S
  · rw[if_pos c]
    have:=idx_lt c
    exact⟨h,Nat.le_refl _,Nat.le_succ _,Nat.succ_pos _,by show idx d.S s+1<d.S.length+1;omega⟩
  · rw[if_neg c]
    refine⟨⟨?_,?_⟩,?_,?_,Nat.succ_pos _,?_⟩
    · show (d.S++[s]).Nodup
      rw[List.nodup_append]
      exact⟨h.nd,by simp,fun a ha b hb=>by rw[List.mem_singleton.1 hb];exact fun e=>c (e ▸ ha)⟩
    · show (d.tags++[_]).length=(d.S++[s]).length+1
      rw[List.length_append,List.length_append,h.tags];rfl
    · show _≤(d.S++[s]).length;simp
    · show (d.S++[s]).length≤_;simp
    · show d.S.length+1<(d.S++[s]).length+1;simp
theorem cell_ok {p:PS} {d:DM} (h:DOk p d) (all:C4) (b:Nat) (r:Row):DOk p (cellF p all b r d).2∧d.S.length≤(cellF p all b r d).2.S.length∧(cellF p all b r d).2.S.length≤d.S.length+1:=by
  unfold cellF
  split
  · exact⟨h,Nat.le_refl _,Nat.le_succ _⟩
  · obtain⟨h1,h2,h3,_⟩:=state_ok h (toF p all b)
    exact⟨h1,h2,h3⟩
theorem rowTo_ok {p:PS} (all:C4):∀ (f b:Nat) (r:Row) (d:DM),DOk p d→d.S.length+1≤200→DOk p (rowTo p all f b r d).2∧(rowTo p all f b r d).2.S.length+1≤201∧d.S.length≤(rowTo p all f b r d).2.S.length
  | 0,_,_,d,h,hl=>⟨h,(by show d.S.length+1≤201;omega),Nat.le_refl _⟩
  | f + 1,b,r,d,h,hl=>by
    obtain⟨h1,h2,h3⟩:=cell_ok h all b r
    rw[rowTo]
    split
    · exact⟨h1,by omega,h2⟩
    · obtain⟨q1,q2,q3⟩:=rowTo_ok all f (b+1) (cellF p all b r d).1 _ h1 (by omega)
      exact⟨q1,q2,by omega⟩
theorem put_step (c:C4) (l:List Int) {k:Nat} (hk:k<l.length):putAll c (l.take (k+1))=(putAll c (l.take k)).bit l[k].toNat:=by
  unfold putAll
  rw[List.take_succ_eq_append_getElem hk,List.foldl_append];rfl
end Go.Proofs.Ytldiodhdefnlaaa.dfaP

/- SortC -/
namespace Go.Proofs.Ytldiodhdefnlaaa.eng
open Go.Shelf
def lays189_ren:Go.Shelf.Ren:=⟨fun | 189=> 53 | 125=> 68 | 257=> 67 | 128=> 81 | 129=> 82 | 294=> 72 | 295=> 73 | 296=> 74 | 297=> 75 | 298=> 76 | 299=> 77 | 216=> 78 | 300=> 79 | 301=> 80 | 328=> 92 | 329=> 93 | 330=> 94 | 331=> 95 | 332=> 96 | 215=> 91 | 343=> 100 | n=>n,fun | 28=> 26 | 3=> 3 | 46=> 184 | 0=> 0 | 51=> 201 | 53=> 64 | 4=> 4 | 183=> 194 | 182=> 193 | 131=> 80 | 5=> 5 | 9=> 9 | 218=> 208 | 222=> 158 | 228=> 215 | 229=> 216 | n=>n,fun | n=>n⟩
theorem lays189:Go.Proofs.Lays.n189 Try.prog lays189_ren:={
  mixed:=by kernel_rfl
  f125:=Try.func68.trans (congrArg some (by kernel_rfl))
  f128:=Try.func81.trans (congrArg some (by kernel_rfl))
  f129:=Try.func82.trans (congrArg some (by kernel_rfl))
  f189:=Try.func53.trans (congrArg some (by kernel_rfl))
  f215:=Try.func91.trans (congrArg some (by kernel_rfl))
  f216:=Try.func78.trans (congrArg some (by kernel_rfl))
  f257:=Try.func67.trans (congrArg some (by kernel_rfl))
  f294:=Try.func72.trans (congrArg some (by kernel_rfl))
  f295:=Try.func73.trans (congrArg some (by kernel_rfl))
  f296:=Try.func74.trans (congrArg some (by kernel_rfl))
  f297:=Try.func75.trans (congrArg some (by kernel_rfl))
  f298:=Try.func76.trans (congrArg some (by kernel_rfl))
  f299:=Try.func77.trans (congrArg some (by kernel_rfl))
  f300:=Try.func79.trans (congrArg some (by kernel_rfl))
  f301:=Try.func80.trans (congrArg some (by kernel_rfl))
  f328:=Try.func92.trans (congrArg some (by kernel_rfl))
  f329:=Try.func93.trans (congrArg some (by kernel_rfl))
  f330:=Try.func94.trans (congrArg some (by kernel_rfl))
  f331:=Try.func95.trans (congrArg some (by kernel_rfl))
  f332:=Try.func96.trans (congrArg some (by kernel_rfl))
  f343:=Try.func100.trans (congrArg some (by kernel_rfl))
  t0:=Try.underlying0
  a0:=Try.isAgg0
  z0:=Try.sizeOf0
  v0:=Try.zeroValue0
  t3:=Try.underlying3
  a3:=Try.isAgg3
  z3:=Try.sizeOf3
  v3:=Try.zeroValue3
  t4:=Try.underlying4
  a4:=Try.isAgg4
  z4:=Try.sizeOf4
  v4:=Try.zeroValue4
  t5:=Try.underlying5
  a5:=Try.isAgg5
  z5:=Try.sizeOf5
  v5:=Try.zeroValue5
  t9:=Try.underlying9
  a9:=Try.isAgg9
  z9:=Try.sizeOf9
  v9:=Try.zeroValue9
  t28:=Try.underlying26
  a28:=Try.isAgg26
  z28:=Try.sizeOf26
  v28:=Try.zeroValue26
  t46:=Try.underlying184
  a46:=Try.isAgg184
  z46:=Try.sizeOf184
  v46:=Try.zeroValue184
  t51:=Try.underlying201
  a51:=Try.isAgg201
  z51:=Try.sizeOf201
  v51:=Try.zeroValue201
  t53:=Try.underlying64
  a53:=Try.isAgg64
  z53:=Try.sizeOf64
  v53:=Try.zeroValue64
  t131:=Try.underlying80
  a131:=Try.isAgg80
  z131:=Try.sizeOf80
  v131:=Try.zeroValue80
  t182:=Try.underlying193
  a182:=Try.isAgg193
  z182:=Try.sizeOf193
  v182:=Try.zeroValue193
  t183:=Try.underlying194
  a183:=Try.isAgg194
  z183:=Try.sizeOf194
  v183:=Try.zeroValue194
  t218:=Try.underlying208
  a218:=Try.isAgg208
  z218:=Try.sizeOf208
  v218:=Try.zeroValue208
  t222:=Try.underlying158
  a222:=Try.isAgg158
  z222:=Try.sizeOf158
  v222:=Try.zeroValue158
  t228:=Try.underlying215
  a228:=Try.isAgg215
  z228:=Try.sizeOf215
  v228:=Try.zeroValue215
  t229:=Try.underlying216
  a229:=Try.isAgg216
  z229:=Try.sizeOf216
  v229:=Try.zeroValue216 }
open Go.Sort Go.RowKit in
theorem slices_Sort_int (blk off cap:Nat) (zs:List Int) (w:World) (hH:Holds (Value.int .i64) w blk off zs.toArray) (hblk:blk<w.heap.size) (hsz:zs.length<4611686018427387904) :
    Calls Try.prog 53 #[.slice (some ⟨blk,off,none⟩) zs.length cap] w fun e w'=>
      e = .returned (.tuple #[])∧∃ n os,w'=grow (putRow (Value.int .i64) (Sort.ahead w n) blk off (zs.mergeSort fun x y=>decide (x≤y)).toArray) os:=Any.slices_Sort_int lays189 blk off cap zs w hH hblk hsz
def laysNm220_ren:Go.Shelf.Ren:=⟨fun | 20=> 54 | n=>n,fun | 22=> 26 | 3=> 3 | 4=> 4 | 0=> 0 | n=>n,fun | n=>n⟩
theorem laysNm220:Go.Proofs.Lays2.n20 Try.prog laysNm220_ren:={
  mixed:=by kernel_rfl
  f20:=Try.func54.trans (congrArg some (by kernel_rfl))
  t0:=Try.underlying0
  a0:=Try.isAgg0
  z0:=Try.sizeOf0
  v0:=Try.zeroValue0
  t3:=Try.underlying3
  a3:=Try.isAgg3
  z3:=Try.sizeOf3
  v3:=Try.zeroValue3
  t4:=Try.underlying4
  a4:=Try.isAgg4
  z4:=Try.sizeOf4
  v4:=Try.zeroValue4
  t22:=Try.underlying26
  a22:=Try.isAgg26
  z22:=Try.sizeOf26
  v22:=Try.zeroValue26
  i3:=by kernel_rfl }
open Go.RowKit Go.Lib Go.Sort in
theorem slices_Compact_int (blk off cap:Nat) (zs:List Int) (w:World) (hH:Holds (Value.int .i64) w blk off zs.toArray) (hsz:zs.length≤9223372036854775807) (hcap:zs.length≤cap) :
    Calls Try.prog 54 #[.slice (some ⟨blk,off,none⟩) zs.length cap] w fun e w'=>e = .returned (.slice (some ⟨blk,off,none⟩) (Lib.compact zs).length cap)∧∃ q,w'=putRow (Value.int .i64) (Sort.ahead w q) blk off (Lib.compact zs++List.replicate (zs.length - (Lib.compact zs).length) 0).toArray:=Any.slices_Compact_int laysNm220 blk off cap zs w hH hsz hcap
open Go.RowKit Go.Lib Go.Sort in
theorem slices_Compact_int_empty (a:Option Addr) (cap:Nat) (w:World) :
    Calls Try.prog 54 #[.slice a 0 cap] w fun e w'=>e = .returned (.slice a 0 cap)∧w'=w:=Any.slices_Compact_int_empty laysNm220 a cap w
open Go.RowKit Go.Sort in
theorem slices_Sort_int_none (p:Option Addr) (cap:Nat) (w:World) :
    Calls Try.prog 53 #[.slice p 0 cap] w fun e w'=>e = .returned (.tuple #[])∧w'=w:=Any.slices_Sort_int_none lays189 p cap w
end Go.Proofs.Ytldiodhdefnlaaa.eng

/- SortI -/
namespace Go.Proofs.Ytldiodhdefnlaaa.eng
open Go.RowKit kit mix Go.Sort
theorem put_block (w:World) (n g:Nat) (d:Array Int) (os:Array Obj) {k:Nat} (hk:k<w.heap.size) (hg:k≠g):(grow (putRow (Value.int .i64) (Go.Sort.ahead w n) g 0 d) os).heap[k]?=w.heap[k]?:=by
  rw[heap_grow_old _ _ (by rw[size_putRow];exact hk)]
  show (w.heap.modify g _)[k]?=w.heap[k]?
  rw[Array.getElem?_modify,if_neg (fun h=>hg h.symm)]
theorem put_mem {B:Base} {w:World} {e:TypeId} {g cap m:Nat} {zs:List Int} (hm:Mem B [rowO e 1 (.slice (some ⟨g,0,none⟩) m cap) m (zs.map (Value.int .i64))] w) (d:Array Int) (hd:d.size=m) (m':Nat) (h':m'≤m) (n:Nat) (os:Array Obj) :
    Mem B [rowO e 1 (.slice (some ⟨g,0,none⟩) m' cap) m' ((d.toList.take m').map (Value.int .i64))] (grow (putRow (Value.int .i64) (Go.Sort.ahead w n) g 0 d) os):=by
  have ho:w.ownsRow 0 e 1 (.slice (some ⟨g,0,none⟩) m cap) m (zs.map (Value.int .i64)):=hm.get (i:=0) rfl
  obtain⟨hl,hr⟩:=ho
  rcases hr with ⟨h,_⟩ | ⟨g2,cap2,cur,hv,_,hg,hc,hx,hs,ht⟩
  · cases h
  cases hv
  have hmay:B.may g:=(hm.owns.all 0 _ rfl).2 g (.inl rfl)
  have hgw:g<w.heap.size:=(Array.getElem?_eq_some_iff.1 hg).1
  have hheap:(grow (putRow (Value.int .i64) (Go.Sort.ahead w n) g 0 d) os).heap[g]?=some (.cells (putCells (Value.int .i64) 0 d cur) e (0,0)):=by
    rw[heap_grow_old _ _ (by rw[size_putRow];exact hgw)]
    show (w.heap.modify g (onCells (putCells (Value.int .i64) 0 d)))[g]?=_
    rw[Array.getElem?_modify,if_pos rfl,hg];rfl
  refine⟨⟨hm.low.os,hm.low.tape,hm.low.output,?_,fun k hk hx => ?_⟩,OwnsP.one ⟨?_,.inr ⟨g,cap,_,rfl,Nat.zero_le _,hheap,by omega,hx,?_,?_⟩⟩ fun k hk => ?_⟩
  · rw[size_grow,size_putRow];exact Nat.le_trans hm.low.size (Nat.le_add_right _ _)
  · have hkg:k≠g:=fun e=>by
      subst e
      rcases hmay with h | h
      · omega
      · exact hx h
    rw[put_block w n g d os (Nat.lt_of_lt_of_le hk hm.low.size) hkg]
    exact hm.low.block k hk hx
  · rw[List.length_map,List.length_take,Array.length_toList,hd];omega
  · unfold putCells;rw[Array.size_mapIdx];exact hs
  · apply List.ext_getElem?
    intro j
    rw[Nat.mul_one,List.getElem?_take]
    by_cases hj:j<m'
    · have hjc:j<cur.size:=by omega
      rw[if_pos hj,List.getElem?_map,List.getElem?_take,if_pos hj,Array.getElem?_toList,Array.getElem?_toList]
      unfold putCells
      rw[Array.getElem?_mapIdx,Array.getElem?_eq_getElem hjc,Option.map_some,if_pos ⟨Nat.zero_le _,by omega⟩,Nat.sub_zero,getElem!_pos d j (by omega),Array.getElem?_eq_getElem (by omega:j<d.size)]
      rfl
    · rw[if_neg hj,List.getElem?_map,List.getElem?_take,if_neg hj];rfl
  · rcases hk with h | h
    · simp only[rowO,Value.ownBlock,Option.some.injEq] at h;subst h;exact hmay
    · exact h.elim
theorem row_holds {w:World} {e:TypeId} {g cap m:Nat} {zs:List Int} (ho:w.ownsRow 0 e 1 (.slice (some ⟨g,0,none⟩) m cap) m (zs.map (Value.int .i64))):Holds (Value.int .i64) w g 0 zs.toArray∧g<w.heap.size∧m=zs.length∧m≤cap:=by
  obtain⟨hl,hr⟩:=ho
  rcases hr with ⟨h,_⟩ | ⟨g2,cap2,cur,hv,_,hg,hc,hx,hs,ht⟩
  · cases h
  cases hv
  rw[List.length_map] at hl
  refine⟨fun j hj => ?_,(Array.getElem?_eq_some_iff.1 hg).1,by omega,hc⟩
  have hj':j<zs.length:=by simpa using hj
  have hcj:cur[j]?=some (.int .i64 zs[j]):=by
    have:=congrArg (fun l=>l[j]?) ht
    rw[Nat.mul_one,List.getElem?_take,if_pos (by omega),Array.getElem?_toList,List.getElem?_map,List.getElem?_eq_getElem hj'] at this
    exact this
  refine⟨?_,?_⟩
  · rw[cell_of_row w g (0+j) _ _ _ hg,Nat.zero_add,hcj,getElem!_pos zs.toArray j hj];rfl
  · unfold World.frozen?
    rw[hg]
    simp
def sortL (l:List Int):List Int:=l.mergeSort fun x y=>decide (x≤y)
theorem sortI_calls (v:Value) (l:List Int) (w:World) (B:Base) (hm:Mem B [rowO 3 1 v l.length (l.map (Value.int .i64))] w) (hl:l.length<4611686018427387904) :
    Calls Try.prog 53 #[v] w (MeetsB ⟨fun (_:Unit)=>True,fun _=> .tuple #[],fun _=>[rowO 3 1 v l.length ((sortL l).map (Value.int .i64))]⟩ B):=by
  have ho:w.ownsRow 0 3 1 v l.length (l.map (Value.int .i64)):=hm.get (i:=0) rfl
  have ho2:=ho
  rcases ho.2 with ⟨rfl,h0⟩ | ⟨g,cap,cur,rfl,_,hg,hc,hx,hs,ht⟩
  · refine (slices_Sort_int_none none 0 w).mono fun e w' ⟨he,hw⟩=>⟨(),trivial,he,?_⟩
    obtain rfl:l=[]:=List.length_eq_zero_iff.1 h0
    rw[hw];exact (by simpa[sortL] using hm)
  · obtain⟨h1,h2,h3,h4⟩:=row_holds ho2
    refine (slices_Sort_int g 0 cap l w h1 h2 hl).mono fun e w' ⟨he,n,os,hw⟩=>⟨(),trivial,he,?_⟩
    have hlen:(sortL l).length=l.length:=List.length_mergeSort _
    have:=put_mem hm (sortL l).toArray (by simp[hlen]) l.length (Nat.le_refl _) n os
    rw[List.take_of_length_le (by simp[hlen])] at this
    rw[hw];exact this
theorem compactI_calls (v:Value) (l:List Int) (w:World) (B:Base) (hm:Mem B [rowO 3 1 v l.length (l.map (Value.int .i64))] w) :
    Calls Try.prog 54 #[v] w (MeetsB ⟨fun (_:Value)=>True,fun v'=>v',fun v'=>[rowO 3 1 v' (Lib.compact l).length ((Lib.compact l).map (Value.int .i64))]⟩ B):=by
  have ho:w.ownsRow 0 3 1 v l.length (l.map (Value.int .i64)):=hm.get (i:=0) rfl
  have ho2:=ho
  rcases ho.2 with ⟨rfl,h0⟩ | ⟨g,cap,cur,rfl,_,hg,hc,hx,hs,ht⟩
  · refine (slices_Compact_int_empty none 0 w).mono fun e w' ⟨he,hw⟩=>⟨.slice none 0 0,trivial,he,?_⟩
    obtain rfl:l=[]:=List.length_eq_zero_iff.1 h0
    rw[hw];exact hm
  · obtain⟨h1,h2,h3,h4⟩:=row_holds ho2
    refine (slices_Compact_int g 0 cap l w h1 (by unfold maxLen at hx;omega) (by omega)).mono fun e w' ⟨he,n,hw⟩=>⟨.slice (some ⟨g,0,none⟩) (Lib.compact l).length cap,trivial,he,?_⟩
    have hle:(Lib.compact l).length≤l.length:=Lib.compact_length_le l
    have:=put_mem hm (Lib.compact l++List.replicate (l.length - (Lib.compact l).length) 0).toArray (by simp;omega) (Lib.compact l).length hle n #[]
    rw[grow_empty] at this
    simp only[List.toList_toArray,List.take_left] at this
    rw[hw];exact this
end Go.Proofs.Ytldiodhdefnlaaa.eng

/- IntO -/
namespace Go.Proofs.Ytldiodhdefnlaaa.eng
open Go.RowKit kit mix
theorem one_int (l:List Int):∀ u∈l.flatMap kit.intC,u.oneCell'=true:=by
  intro u hu
  obtain⟨f,_,h⟩:=List.mem_flatMap.1 hu
  simp only[kit.intC,List.mem_cons,List.not_mem_nil,or_false] at h
  subst h;rfl
end Go.Proofs.Ytldiodhdefnlaaa.eng

/- IntK -/
namespace Go.Proofs.Ytldiodhdefnlaaa.eng
open Go.RowKit kit mix
theorem IntC_len (a:Int):(kit.intC a).length=1:=rfl
set_option maxHeartbeats 2000000 in
theorem cloneIntC_calls (v:Value) (l:List Int) (w:World) (hs:Sl w v l.length (l.flatMap kit.intC)) (hl:l.length*8≤140737488355328) :
    Calls Try.prog 43 #[v] w (Meets (rowS 3 1 l.length (l.flatMap kit.intC) id) w):=by
  obtain⟨base,cap,rfl,hcap,hmax,hrd⟩:=hs
  unfold maxLen at hmax
  refine enter (args:=[.slice base l.length cap]) (n:=8) Try.func43 rfl rfl rfl ?_
  have hsl:∀ w',Gr w w'→Sl w' (.slice base l.length cap) l.length (l.flatMap kit.intC):=fun w' hg=>Sl.gr ⟨base,cap,rfl,hcap,hmax,hrd⟩ hg
  clear hrd
  cases base with
  | none=>
    repeat(first|refine GC ?_|refine gV (rr_slnil Und.eq rfl rfl rfl) ?_|refine GB ?_)
    have h0:l=[]:=by
      cases l with
      | nil=>rfl
      | cons x l=>obtain⟨_,_,h,_,_,h2⟩:=hsl w (Gr.refl w);simp only[Value.slice.injEq] at h;obtain⟨rfl,_⟩:=h;obtain⟨b,off,h,_⟩:=h2 (by simp);cases h
    subst h0
    refine E_nilrow 3 1 ?_
    exact E_ret1 rfl rfl fun w hm=>hm.meets (S:=rowS 3 1 0 [] id) _ trivial [0] (by decide) rfl
  | some p=>
    repeat(first|refine GC ?_|refine gV (rr_slnil Und.eq rfl rfl rfl) ?_|refine GB ?_)
    refine TL_lit0 rfl fun g => ?_
    try refine GA ?_
    refine TL_appSl (i:=0) rfl (fun w' hm=>hsl w' hm.below) rfl rfl (len_el IntC_len l) (one_int l) (by omega) (by omega) rfl fun v' => ?_
    rw[List.nil_append]
    try refine GA ?_
    refine E_ret1 rfl rfl fun w hm => ?_
    exact hm.meets (S:=rowS 3 1 l.length (l.flatMap kit.intC) id) v' trivial [0] (by decide) (by simp[rowS])
end Go.Proofs.Ytldiodhdefnlaaa.eng

/- PlU -/
namespace Go.Proofs.Ytldiodhdefnlaaa.eng
open Go.RowKit kit mix placesL
theorem int_flat (l:List Int):l.flatMap kit.intC=l.map (Value.int .i64):=by
  induction l with
  | nil=>rfl
  | cons x r ih=>rw[List.flatMap_cons,ih];rfl
abbrev intR (v:Value) (l:List Int):Own:=rowO 3 1 v l.length (l.map (Value.int .i64))
def intRS (l:List Int):Spec Value:=⟨fun _=>True,fun v=>v,fun v=>[intR v l]⟩
set_option maxHeartbeats 2000000 in
theorem union_calls (va vb:Value) (a b:List Int) (w:World) (ha:Sl w va a.length (a.map (Value.int .i64))) (hb:Sl w vb b.length (b.map (Value.int .i64))) (hla:a.length≤1000000) (hlb:b.length≤1000000) :
    Calls Try.prog 37 #[va,vb] w (Meets (intRS (uni a b)) w):=by
  have hcl:=fun w' (hg:Gr w w')=>cloneIntC_calls va a w' (by rw[int_flat];exact ha.gr hg) (by omega)
  refine enter (args:=[va,vb]) (n:=14) Try.func37 rfl rfl rfl ?_
  try refine GA ?_
  refine TL_call (he1 EntersC.en rfl rfl) (fun w hm=>hcl _ hm.below) rfl rfl rfl ?_
  intro v1 _
  conv=>arg 8;simp only[zA,zB,zC,zD,zE,zF,zG,zH,zI,rowS,ret,id_eq]
  rw[int_flat]
  try refine GA ?_
  refine TL_appSl (i:=0) (bytes:=8) (m:=a.length) (xs:=a.map (Value.int .i64)) (k:=b.length) (ys:=b.map (Value.int .i64)) rfl (sl_old hb) rfl rfl (by rw[List.length_map,Nat.mul_one]) (fun u hu=>by obtain⟨x,_,rfl⟩:=List.mem_map.1 hu;rfl) (by omega) (by omega) rfl fun v2 => ?_
  rw[←List.map_append,←List.length_append]
  conv=>arg 8;simp only[zA,zB,zC,zD,zE,zF,zG,zH,zI,rowS,ret,id_eq]
  try refine GA ?_
  refine TL_callB [0] [] (by decide) rfl rfl (he1 EntersC.en rfl rfl) (fun w hm hb=>sortI_calls v2 (a++b) w _ hb (by rw[List.length_append];omega)) rfl rfl rfl ?_
  intro _ _
  conv=>arg 8;simp only[zA,zB,zC,zD,zE,zF,zG,zH,zI,rowS,ret,id_eq]
  try refine GA ?_
  rw[show (a++b).length=(eng.sortL (a++b)).length from (List.length_mergeSort _).symm]
  refine TL_callB [0] [] (by decide) rfl rfl (he1 EntersC.en rfl rfl) (fun w hm hb=>compactI_calls v2 (eng.sortL (a++b)) w _ hb) rfl rfl rfl ?_
  intro v3 _
  conv=>arg 8;simp only[zA,zB,zC,zD,zE,zF,zG,zH,zI,rowS,ret,id_eq]
  try refine GA ?_
  exact E_ret1 rfl rfl fun w hm=>hm.meets (S:=intRS (uni a b)) v3 trivial [0] (by decide) rfl
end Go.Proofs.Ytldiodhdefnlaaa.eng

/- PlB -/
namespace Go.Proofs.Ytldiodhdefnlaaa.eng
open Go.RowKit kit mix placesL
def one1 (v:Value):List Value:=[v]
theorem one1_len (v:Value):(one1 v).length=1:=rfl
theorem one1_flat (l:List Value):l.flatMap one1=l:=by
  induction l with
  | nil=>rfl
  | cons x r ih=>rw[List.flatMap_cons,ih];rfl
theorem ownsRow_stay {w w':World} {e:TypeId} {size n:Nat} {v:Value} {xs:List Value} (h:w.ownsRow 0 e size v n xs) (hk:∀ k,v.ownBlock=some k→w'.heap[k]?=w.heap[k]?):w'.ownsRow 0 e size v n xs:=by
  refine⟨h.1,?_⟩
  rcases h.2 with hn | ⟨g,cap,cur,rfl,hb0,hg,rest⟩
  · exact .inl hn
  · exact .inr ⟨g,cap,cur,rfl,hb0,by rw[hk g rfl];exact hg,rest⟩
def folS:Shp (List Int):=
  ⟨1,fun F w cs l=>∃ v,cs=[v]∧(∀ x∈l,kit.okI64 x)∧w.ownsRow 0 3 1 v l.length (l.map (Value.int .i64))∧∀ k,v.ownBlock=some k→F k,fun ⟨_,h,_⟩=>by rw[h];rfl,
    fun ⟨v,h1,h2,h3,h4⟩ hk=>⟨v,h1,h2,ownsRow_stay h3 fun k h=>hk k (h4 k h),h4⟩,fun ⟨v,h1,h2,h3,h4⟩ hk=>⟨v,h1,h2,h3,fun k h=>hk k (h4 k h)⟩⟩
abbrev folR (v:Value) (vs:List Value):Own:=rowO 26 1 v vs.length (vs.flatMap one1)
abbrev folE (F:Nat→Prop) (vs:List Value) (fol:List (List Int)):Own:=elsO folS F (vs.map one1) fol
def mkC (vc vr vf vfol vl ve:Value) (rule:Int):Array Value:=#[vc,vr,vf,vfol,vl,ve,.int .i64 rule]
theorem els_set {α:Type} {s:Shp α} {F F2:Nat→Prop} {css:List (List Value)} {cs:List Value} {l:List α} {a:α} {w:World} {k:Nat} (he:(elsO s F css l).holds w) (hs:s.is F2 w cs a) (h2:∀ k,F2 k→k<w.heap.size) :
    (elsO s (fun k=>F k∨F2 k) (css.set k cs) (l.set k a)).holds w:=by
  obtain⟨⟨h1,h3⟩,h4⟩:=he
  refine⟨⟨by simp[h1],fun i hi hi' => ?_⟩,fun k hk=>hk.elim (h4 k) (h2 k)⟩
  rw[List.getElem_set,List.getElem_set]
  by_cases c:k=i
  · subst c
    rw[if_pos rfl,if_pos rfl]
    exact s.mono hs fun q hq=> .inr hq
  · rw[if_neg c,if_neg c]
    exact s.mono (h3 i (by simpa using hi) (by simpa using hi')) fun q hq=> .inl hq
theorem fol_sl {F:Nat→Prop} {vs:List Value} {fol:List (List Int)} {w:World} (he:(folE F vs fol).holds w) {k:Nat} (hk:k<fol.length) (hk':k<vs.length):Sl w vs[k] fol[k].length (fol[k].map (Value.int .i64)):=by
  obtain⟨⟨h1,h3⟩,_⟩:=he
  obtain⟨v,hv,_,hs,_⟩:=h3 k hk (by simpa using hk')
  rw[List.getElem_map] at hv
  unfold one1 at hv
  simp only[List.cons.injEq,and_true] at hv
  rw[hv]
  exact Sl.of_own hs
theorem fol_is {w:World} {v:Value} {l:List Int} (hp:∀ x∈l,kit.okI64 x) (h:(intR v l).holds w):folS.is (fun k=>v.ownBlock=some k) w [v] l:=
  ⟨v,rfl,hp,h,fun _ h=>h⟩
def behSp (g:Nat) (vc vr vf vfol vl ve:Value) (rule:Int) (va vb:Value) (fol:List (List Int)) (last first:List Int):Spec (List Value×(Nat→Prop)):=
  ⟨fun x=>x.1.length=fol.length,fun _=> .tuple #[],fun x=>[blkO g (mkC vc vr vf vfol vl ve rule) 123,folR vfol x.1,folE x.2 x.1 (behindF fol last first),intR va last,intR vb first]⟩
theorem behind_step (fol:List (List Int)) (last first:List Int) {k:Nat} (hk:k<last.length):behindF fol (last.take (k+1)) first=(behindF fol (last.take k) first).set last[k].toNat (uni ((behindF fol (last.take k) first).getD last[k].toNat []) first):=by
  unfold behindF
  rw[List.take_succ_eq_append_getElem hk,List.foldl_append];rfl
set_option maxHeartbeats 8000000 in
theorem behind_calls (g:Nat) (vc vr vf vfol vl ve:Value) (rule:Int) (va vb:Value) (vs:List Value) (F:Nat→Prop) (fol:List (List Int)) (last first:List Int) (w:World) (B:Base)
    (hvs:vs.length=fol.length) (hn:fol.length≤100000) (hfol:∀ l∈fol,Ris fol.length l) (hla:Ris fol.length last) (hfi:Ris fol.length first)
    (hm:Mem B [blkO g (mkC vc vr vf vfol vl ve rule) 123,folR vfol vs,folE F vs fol,intR va last,intR vb first] w) :
    Calls Try.prog 52 #[.pointer (some ⟨g,0,none⟩),va,vb] w (MeetsB (behSp g vc vr vf vfol vl ve rule va vb fol last first) B):=by
  have hlast:=ris_len hla
  have hfirst:=ris_len hfi
  have hva:∃ a c,va = .slice a last.length c:=by
    obtain⟨base,cap,h,_⟩:=Sl.of_own (show w.ownsRow 0 3 1 va last.length (last.map (Value.int .i64)) from hm.get (i:=3) rfl)
    exact⟨base,cap,h⟩
  obtain⟨aa,ca,rfl⟩:=hva
  refine enterB hm (args:=[.pointer (some ⟨g,0,none⟩),.slice aa last.length ca,vb]) (n:=32) Try.func52 rfl rfl rfl ?_
  clear hm
  try refine GA ?_
  refine T_loop (ι:=Nat×List Value×(Nat→Prop)) (fun (k,vs,F)=>k≤last.length∧vs.length=fol.length) (fun (k,_,_)=>[(0,.pointer (some ⟨g,0,none⟩)),(2,vb),(8,.slice aa last.length ca),(9,.int .i64 last.length),(10,.int .i64 (k:Int))])
    (fun (k,vs,F)=>[blkO g (mkC vc vr vf vfol vl ve rule) 123,folR vfol vs,folE F vs (behindF fol (last.take k) first),intR (.slice aa last.length ca) last,intR vb first]) (fun (k,_,_)=>last.length - k) (0,vs,F) ⟨Nat.zero_le _,hvs⟩ (by repeat' (first | exact True.intro | refine And.intro rfl ?_)) rfl ?_
  clear hvs vs F
  rintro⟨k,vs,F⟩ ⟨i1,i2⟩
  dsimp only at i1 i2 ⊢
  by_cases c6:k<last.length
  · have hstep:=behind_step fol last first c6
    have hris:=behind_ris (n:=fol.length) hfi.2 (last.take k) fol hfol
    have hlen:=behind_len fol (last.take k) first
    have hx:=hla.2 last[k] (List.getElem_mem c6)
    have hgx:last[k]?=some last[k]:=List.getElem?_eq_getElem c6
    generalize behindF fol (last.take k) first=fo at *
    generalize last[k]=x at *
    obtain⟨xn,rfl⟩:=Int.eq_ofNat_of_zero_le hx.1
    rw[Int.toNat_natCast] at hstep
    have hxn:xn<fo.length:=by omega
    have hget:fo.getD xn []=fo[xn]:=by rw[List.getD_eq_getElem?_getD,List.getElem?_eq_getElem hxn];rfl
    rw[hget] at hstep
    have hrx:=hris fo[xn] (List.getElem_mem hxn)
    have hrl:=ris_len hrx
    have hru:=ris_uni hrx.2 hfi.2
    have hul:=ris_len hru
    refine T_know (i:=1) (φ:=∃ gf cap,vfol = .slice (some ⟨gf,0,none⟩) vs.length cap∧vs.length≤cap) rfl (fun w h=>by
      obtain⟨h1,h2⟩:=(show w.ownsRow 0 26 1 vfol vs.length (vs.flatMap one1) from h)
      rcases h2 with ⟨_,h0⟩ | ⟨gf,cap,cur,hv,_,_,hc,_⟩
      · omega
      · exact⟨gf,cap,hv,hc⟩) fun hvf => ?_
    obtain⟨gf,capf,rfl,hcf⟩:=hvf
    refine T_know (i:=3) (φ:=∃ ga,aa=some ⟨ga,0,none⟩) rfl (fun w h=>by
      obtain⟨h1,h2⟩:=(show w.ownsRow 0 3 1 (.slice aa last.length ca) last.length (last.map (Value.int .i64)) from h)
      rcases h2 with ⟨_,h0⟩ | ⟨gf,cap,cur,hv,_,_,hc,_⟩
      · omega
      · cases hv;exact⟨gf,rfl⟩) fun hva => ?_
    obtain⟨ga,rfl⟩:=hva
    have hxv:xn<vs.length:=by omega
    have hrow:∀ (L:List Own) (hi:L[1]?=some (folR (.slice (some ⟨gf,0,none⟩) vs.length capf) vs)),At B L ⟨gf,0+xn*1+0,none⟩ vs[xn]:=fun L hi=>at_rowel one1_len hi hxv 0 _ rfl
    have hla3:∀ (L:List Own) (hi:L[3]?=some (intR (.slice (some ⟨ga,0,none⟩) last.length ca) last)),At B L ⟨ga,0+k*1,none⟩ (.int .i64 (xn:Int)):=fun L hi=>at_row hi (by rw[List.getElem?_map,Nat.zero_add,Nat.mul_one,hgx];rfl)
    repeat(first|refine GA ?_|refine gV (rr_idxc Und.eq TyC.ty rfl rfl c6) ?_|refine gV (rr_load1 (v:= .int .i64 (xn:Int)) TyC.ty rfl (hla3 _ rfl)) ?_)
    (repeat refine T_seq ?_)
    refine T_ord ([blkO g (mkC vc vr vf (.slice (some ⟨gf,0,none⟩) vs.length capf) vl ve rule) 123]) (.calm 0 (.calm 1 (.calm 2 (.calm 3 (.calm 4 (.calm 5 (.calm 6 (.calm 7 (.calm 8 (.calm 9 (.calm 10 (.calm 11 (.calm 12 (.calm 14 (.one 13 (.one 15 (.calm 16 (.one 17 (.done))))))))))))))))))) (sub_pick [0] (by decide) rfl) (by kernel_rfl) (by kernel_rfl) (by intro c a d v w h;cases d <;> exact h) ?_
    repeat(first|refine GW ?_|(refine GN ?_;first|refine QW (rr_load1 (v:= .slice (some ⟨gf,0,none⟩) vs.length capf) TyC.ty rfl (at_blk (i:=0) rfl rfl)) ?_|refine QW (rr_idxc Und.eq TyC.ty rfl rfl hxv) ?_))
    refine TW_one rfl (TL_val (rr_load1 (v:=vs[xn]) TyC.ty rfl (hrow _ rfl)) rfl rfl rfl (TW_on (sub_pick [0] (by decide) rfl) ?_))
    try refine GW ?_
    refine TW_one rfl (TL_call (he2 EntersC.en rfl rfl rfl) (fun w' hm=>union_calls vs[xn] vb fo[xn] first w' (fol_sl (hm.get (i:=2) rfl) hxn hxv) (Sl.of_own (hm.get (i:=4) rfl)) (by omega) (by omega)) rfl rfl rfl ?_)
    intro v _
    conv=>arg 8;simp only[zA,zB,zC,zD,zE,zF,zG,zH,zI,rowS,ret,id_eq,intRS]
    refine TL_slv (i:=5) rfl fun hc1 ho1 => ?_
    refine TW_on (sub_pick [0] (by decide) rfl) ?_
    repeat(first|refine GW ?_|(refine GN ?_;first|refine QW (rr_idxc Und.eq TyC.ty rfl rfl hxv) ?_))
    refine TW_one rfl (TL_setRow one1_len (i:=1) (k:=xn) (l:=vs) (a:=v) TyC.ty rfl rfl (by omega) hxv rfl rfl hc1 (by simp only[one1,List.all_cons,List.all_nil,ho1];rfl) (TW_on (sub_pick [0] (by decide) rfl) ?_))
    try refine GW ?_
    try refine GA ?_
    refine E_merge (folE (fun k=>F k∨v.ownBlock=some k) (vs.set xn v) (fo.set xn (uni fo[xn] first))) 5 2 [0,1,3,4] (by decide) rfl rfl rfl (fun k hk=>hk.elim (fun h=>by cases h) fun h=>h.elim (fun h=> .inr (.inr h)) fun h=> .inl (.inl h)) (fun w hr he => ?_) ?_
    · have:=els_set (k:=xn) he (fol_is (fun x hx=>⟨by have:=hru.2 x hx;omega,by have:=hru.2 x hx;omega⟩) hr) fun k hk=>(intR v (uni fo[xn] first)).lt w hr k (.inl hk)
      rw[show ([v]:List Value)=one1 v from rfl,←List.map_set] at this
      exact this
    refine E_pick [0,1,4,2,3] (by decide) rfl ?_
    exact E_round (k+1,vs.set xn v,fun k=>F k∨v.ownBlock=some k) ⟨by omega,by rw[List.length_set];exact i2⟩ (by show last.length - (k+1)<last.length - k;omega) (by repeat' (first | exact True.intro | refine And.intro rfl ?_)) (by dsimp only;rw[hstep];show _=[_,rowO _ _ _ (vs.set xn v).length _,_,_,_];rw[List.length_set];rfl)
  · obtain rfl:k=last.length:=by omega
    rw[List.take_of_length_le (Nat.le_refl _)]
    try refine GA ?_
    exact E_end0 rfl fun w hm=>hm.meetsB (S:=behSp g vc vr vf vfol vl ve rule (.slice aa last.length ca) vb fol last first) (vs,F) i2 [0,1,2,3,4] (by decide) rfl
end Go.Proofs.Ytldiodhdefnlaaa.eng


/- Part 1 of what SpecMode needs: Kit, Law, Open, Mix, Eng, Step, Ops, Opm, Cls, MixV, MixW, Go3, Ty, OpenE, ClassL, ClassQ, ClassR, RexL, RexF, RexG, Read, Opx, Seq, ReadM. -/
import Derived.WalkKit
import Derived.WalkSpells
import Derived.WalkLawsBesides
import Derived.Deep.RegionLaw
import Derived.Deep.AppendLies
import Derived.Deep.QuietTactic
import Derived.BigQuiet
import Derived.Deep.DeepCutAuto
import Derived.Lib.Hide
import Derived.Test.YtldiodhdefnlaaaRows
import Derived.ProofKit
import Derived.OpenShut
import Derived.ShutString
import Derived.SizedLaws
import Derived.JoinedCond
import Derived.Deep.CondSized
import Derived.Deep.Quiet
import Derived.StillTail
import Derived.Deep.LoopGhost
import Derived.Laws.BitsLemmas
import Derived.Laws.BytesString
import Derived.Test.YtldiodhdefnlaaaProg
import Derived.Laws.Entries
import Derived.Laws.BitsAllLaws
import Derived.Lib.TrailingZeros
import Derived.Laws.StructEq
/- Kit -/
namespace Go.Proofs.Ytldiodhdefnlaaa.kit
open Go.RowKit
section
end
def u8v (b:UInt8):Value:= .int .u8 b.toNat
def Rd (w:World) (g off:Nat) (xs:List Value):Prop:=∀ j u,xs[j]?=some u→w.cell? ⟨g,off+j,none⟩=some u
def Wr (w:World) (g off:Nat) (xs:List Value):Prop:=∀ j u,xs[j]?=some u→w.cell? ⟨g,off+j,none⟩=some u∧w.frozen? ⟨g,off+j,none⟩=false
theorem Wr.rd {w:World} {g off:Nat} {xs:List Value} (h:Wr w g off xs):Rd w g off xs:=fun j u hj=>(h j u hj).1
theorem Rd.gr {w w':World} {g off:Nat} {xs:List Value} (h:Rd w g off xs) (hg:Below w.heap.size w w'):Rd w' g off xs:=fun j u hj=>by
  have h1:=h j u hj
  rw[hg.cell (World.block_lt_of_cell? w _ h1)];exact h1
theorem Wr.gr {w w':World} {g off:Nat} {xs:List Value} (h:Wr w g off xs) (hg:Below w.heap.size w w'):Wr w' g off xs:=fun j u hj=>by
  have h1:=h j u hj
  rw[hg.cell (World.block_lt_of_cell? w _ h1.1),hg.frozen (World.block_lt_of_cell? w _ h1.1)];exact h1
theorem Rd.at {w:World} {g off:Nat} {xs:List Value} (h:Rd w g off xs) (j:Nat) (hj:j<xs.length):w.cell? ⟨g,off+j,none⟩=some xs[j]:=h j _ (List.getElem?_eq_getElem hj)
theorem Wr.at {w:World} {g off:Nat} {xs:List Value} (h:Wr w g off xs) (j:Nat) (hj:j<xs.length):w.cell? ⟨g,off+j,none⟩=some xs[j]∧w.frozen? ⟨g,off+j,none⟩=false:=h j _ (List.getElem?_eq_getElem hj)
theorem Wr.set {w:World} {g off:Nat} {xs:List Value} (h:Wr w g off xs) (j:Nat) (hj:j<xs.length) (u:Value):Wr (w.setCell ⟨g,off+j,none⟩ u) g off (xs.set j u):=fun i v hi=>by
  have hlen:i<xs.length:=by simpa using (List.getElem?_eq_some_iff.1 hi).1
  refine⟨?_,by rw[World.frozen?_setCell];exact (h.at i hlen).2⟩
  by_cases e:i=j
  · subst e
    rw[List.getElem?_set_self hj] at hi
    rw[World.cell?_setCell_same _ _ _ (h.at i hj).1];exact hi
  · rw[List.getElem?_set_ne (Ne.symm e)] at hi
    have hne:(⟨g,off+j,none⟩:Addr)≠⟨g,off+i,none⟩:=fun he=>e (by have:=congrArg Addr.off he;simp at this;omega)
    rw[World.cell?_setCell_other _ _ _ _ hne]
    exact (h i v hi).1
theorem Wr.grown {w w':World} {g off:Nat} {xs:List Value} {row:Option Nat} (h:Wr w g off xs) (hg:w.grownBy w' row) (hne:row≠some g):Wr w' g off xs:=fun j u hj=>by
  have h1:=h j u hj
  have hb:=World.block_lt_of_cell? w _ h1.1
  have e:=hg.block g hb (fun h=>hne h.symm)
  rw[World.cell?_of_block (w:=w) (a:=⟨g,off+j,none⟩) e,World.frozen?_of_block (w:=w) (a:=⟨g,off+j,none⟩) e]
  exact h1
theorem made1 (z:Value) (n:Nat):(madeCells #[z] n).toList=List.replicate n z:=by
  apply List.ext_getElem?
  intro i
  by_cases h:i<n
  · simp[madeCells,h,Nat.mod_one]
  · simp[madeCells,h]
theorem Wr.append {w w':World} {g off:Nat} {xs:List Value} (h:Wr w g off xs) {base:Nat} {e:TypeId} {size:Nat} {v:Value} {n:Nat} {ys:List Value} (hown:w.ownsRow base e size v n ys) (hg:w.grownBy w' v.ownBlock) (hb:g<base):Wr w' g off xs:=
  h.grown hg fun e=>by have:=(hown.lt g e).1;omega
theorem Wr.nil (w:World) (g off:Nat):Wr w g off []:=fun j u h=>by simp at h
theorem rd_own {w:World} {base:Nat} {e:TypeId} {size:Nat} {g n cap:Nat} {xs:List Value} (h:w.ownsRow base e size (.slice (some ⟨g,0,none⟩) n cap) n xs):Wr w g 0 xs:=fun j u hj=>by
  have hl:j<n*size:=by rw[←h.1];exact (List.getElem?_eq_some_iff.1 hj).1
  rw[Nat.zero_add]
  exact⟨(h.cellAt j hl).trans hj,h.frozenAt j⟩
theorem conv_string {P:Program} {src dst e:TypeId} (hs:P.underlying src=some (.slice e)) (he:P.underlying e=some (.int .u8)) (hd:P.underlying dst=some .string) {w:World} {g off n cap:Nat} {l:List UInt8}
    (hn:n=l.length) (h:Rd w g off (l.map u8v)):(convert src dst (.slice (some ⟨g,off,none⟩) n cap)).run P w = .ok (.string ⟨l.toArray⟩) w:=by
  subst hn
  refine run_convert_bytes_back w src dst e ⟨g,off,none⟩ cap l hs he hd fun j hj => ?_
  have:=h.at j (by simpa using hj)
  rw[show (⟨g,off,none⟩:Addr).add j=⟨g,off+j,none⟩ by unfold Addr.add;split <;> simp_all]
  rw[this];simp[u8v]
end Go.Proofs.Ytldiodhdefnlaaa.kit

/- Law -/
namespace Go.Proofs.Ytldiodhdefnlaaa.law
open Go.ChangeShapes Go.WideShapes Go.ChangeAt Go.RowKit
theorem own:ownKnob Try.prog.godebug=none:=by kernel_rfl
theorem laidOut:laidOutB Try.prog=true:=by kernel_rfl
structure Given {H:Type} (enc:TypeId×Value→H) (fn:Func) (W:World) (base:Nat) (args:Array Value) (ds:List (DataW H)) (p:List MemPlace):Prop where
  val:∀ (j:Nat) t v,fn.params[j]?=some t→args[j]?=some v→Value.okWide Try.prog W .any base t v
  trod:DataW.TrodAll enc Try.prog W 0 (fun _=>true) true fn.params.toList args.toList ds p
  sized:(DataW.weightsEach Try.prog fn.params.toList ds).all (· ≤ reachBytes)=true
  free:W.noneFrozen p
noncomputable def readB (fn:Func):Bool:=fn.params.toList.all fun t=>Try.prog.readableRec t && decide (t<Try.prog.types.size)
section
variable {H:Type} {enc:TypeId×Value→H}
theorem trodAll_stays {P:Program} (hl:laidOutB P=true) {W W':World} {sp':Nat→Bool}:∀ {ts:List TypeId} {vs:List Value} {ds:List (DataW H)} {ps:List MemPlace},(ts.all fun t=>P.readableRec t && decide (t<P.types.size))=true→
    DataW.TrodAll enc P W 0 (fun _=>true) true ts vs ds ps→(∀ p∈ps,W.sameAt W' p)→(∀ p∈ps,sp' p.block=true)→DataW.TrodAll enc P W' 0 sp' true ts vs ds ps
  | [],[],[],_,_,h,_,_=>h
  | t :: ts,v::vs,d::ds,_,hb,⟨p,q,h1,h2,e⟩,h3,h4=>by
    simp only[List.all_cons,Bool.and_eq_true,decide_eq_true_eq] at hb
    subst e
    exact⟨p,q,WideElems.Trod_stays hl hb.1.1 hb.1.2 h1 (fun x hx=>h3 x (by simp[hx])) (fun x hx=>h4 x (by simp[hx])),
      trodAll_stays hl hb.2 h2 (fun x hx=>h3 x (by simp[hx])) (fun x hx=>h4 x (by simp[hx])),rfl⟩
  | [],_::_,_,_,_,h,_,_=>h.elim
  | [],[],_::_,_,_,h,_,_=>h.elim
  | _::_,[],_,_,_,h,_,_=>h.elim
  | _::_,_::_,[],_,_,h,_,_=>h.elim
theorem trodAll_length {P:Program} {W:World} {sp:Nat→Bool}:∀ {ts:List TypeId} {vs:List Value} {ds:List (DataW H)} {ps:List MemPlace},DataW.TrodAll enc P W 0 sp true ts vs ds ps→ds.length=ts.length
  | [],[],[],_,_=>rfl
  | _::ts,_::vs,_::ds,_,⟨_,_,_,h2,_⟩=>by simp[trodAll_length h2]
  | [],_::_,_,_,h=>h.elim
  | [],[],_::_,_,h=>h.elim
  | _::_,[],_,_,h=>h.elim
  | _::_,_::_,[],_,h=>h.elim
def SaysTrue (fn:Func) (s:ChangeSpec):Prop:=s.vars=[]∧∀ (H:Type) (ds:List (DataW H)),ds.length=fn.params.size→s.fn H ds={ results:=[.lit (.bool true)],args:=ds }
theorem post_of {fn:Func} {s:ChangeSpec} {W W':World} {args:Array Value} {ds gs:List (DataW H)} {before:List MemPlace} (hs:SaysTrue fn s) (hread:readB fn=true) (hres:fn.resultTypes=#[4])
    (hW:DataW.Whole enc Try.prog fn.params.toList s.vars false W args.toList ds gs before) (hb:Below W.heap.size W W') :
    s.post enc Try.prog fn false true false false W args (.bool true) W':=by
  obtain⟨hv,hfn⟩:=hs
  have hW':=hW
  obtain⟨p,q,hA,hV,rfl,hfz,hnd⟩:=hW
  rw[hv] at hV
  obtain⟨rfl,rfl⟩:=trodVars_none hV
  have hlen:ds.length=fn.params.size:=by rw[trodAll_length hA];simp
  have hlt:∀ x∈p,x.block<W.heap.size:=fun x hx=>hW'.lt x (by simp[hx])
  have he:s.fn H (ds++[])={ results:=[.lit (.bool true)],args:=ds }:=by rw[List.append_nil];exact hfn H ds hlen
  refine⟨ds,[],p++[],[],p,[],hW',?_,?_,?_,hb.frame _,fun h=>by cases h⟩
  · rw[he,hres]
    exact trodAll_mk1 (shut_bool Try.underlying4 true)
  · rw[he]
    exact trodAll_stays laidOut hread hA (fun x hx=>hb.same (hlt x hx)) (fun x hx=>by simpa using hlt x hx)
  · rw[he,hv]
    rfl
end
set_option maxRecDepth 100000 in
theorem said {os:Os} {f:FuncId} {fn:Func} {s:ChangeSpec} (started:os.Started) (noInit:Try.prog.inits.idxOf? f=none) (hf:Try.prog.funcs[f]?=some fn) (hs:SaysTrue fn s) (hread:readB fn=true) (hres:fn.resultTypes=#[4])
    {H:Type} {enc:TypeId×Value→H}
    (witness:∃ (w:World) (tape:Tape) (i:Input),w.os=os∧(w.forCall tape i).Shaped Try.checked.prog∧i.vars=[]∧Input.okWide Try.checked.prog (w.forCall tape i) .any w.heap.size f i∧
      s.pre6 enc Try.checked.prog fn [] false (w.forCall tape i).memory i.args∧({}:Assume).holds Try.checked.prog (lone (Frame.enter Try.checked.prog f i.args .normal) [] (w.forCall tape i)))
    (walk:∀ (W:World) (base:Nat) (args:Array Value) (ds:List (DataW H)) (p:List MemPlace),Given enc fn W base args ds p→Calls Try.prog f args W fun e W'=>e = .returned (.bool true)∧Below W.heap.size W W') :
    ReturnsInHanded {} Try.checked os f .any (s.pre6 enc Try.prog fn [] false) (s.post enc Try.prog fn false true false false):=by
  refine returnsInHanded_of_change_sized (C:=Try.checked) own started noInit hf witness ?_
  intro W base args ds gs before hval hW _ hsz _
  have hW':=hW
  obtain⟨p,q,hA,hV,rfl,hfz,hnd⟩:=hW
  rw[hs.1] at hV
  obtain⟨rfl,rfl⟩:=trodVars_none hV
  have hsz':(DataW.weightsEach Try.prog fn.params.toList ds).all (· ≤ reachBytes)=true:=by
    have e:s.plain.varTypes Try.prog=[]:=by simp[ChangeSpec.plain,DataSpec.varTypes,hs.1]
    have:=hsz
    rw[show s.plain.varTypes Try.checked.prog=[] from e] at this
    rw[List.append_nil,List.append_nil] at this
    exact this
  refine (walk W base args ds p ⟨hval,hA,hsz',fun b off h=>hfz b off (by simp[h])⟩).mono fun e W' ⟨he,hb⟩ => ?_
  exact⟨_,he,post_of hs hread hres hW' hb⟩
end Go.Proofs.Ytldiodhdefnlaaa.law

/- Open -/
namespace Go.Proofs.Ytldiodhdefnlaaa.kit
open Go.ChangeShapes Go.WideShapes Go.ChangeAt Go.RowKit
def Sl (w:World) (v:Value) (n:Nat) (xs:List Value):Prop:=
  ∃ base cap,v = .slice base n cap∧n≤cap∧cap≤maxLen∧(0<n→∃ b off,base=some ⟨b,off,none⟩∧Rd w b off xs)
theorem Sl.gr {w w':World} {v:Value} {n:Nat} {xs:List Value} (h:Sl w v n xs) (hg:Below w.heap.size w w'):Sl w' v n xs:=
  let ⟨base,cap,h1,h2,h3,h4⟩:=h
  ⟨base,cap,h1,h2,h3,fun hn=>let ⟨b,off,h5,h6⟩:=h4 hn;⟨b,off,h5,h6.gr hg⟩⟩
theorem Sl.of_own {w:World} {base:Nat} {e:TypeId} {size:Nat} {v:Value} {n:Nat} {xs:List Value} (h:w.ownsRow base e size v n xs):Sl w v n xs:=by
  rcases h.2 with ⟨rfl,rfl⟩ | ⟨g,cap,cur,rfl,hb,hg,hn,hm,r⟩
  · exact⟨none,0,rfl,Nat.le_refl _,by decide,fun h=>by omega⟩
  · exact⟨_,cap,rfl,hn,hm,fun _=>⟨g,0,rfl,(rd_own h).rd⟩⟩
theorem mapM_some {α β:Type} {f:α→Option β}:∀ {l:List α} {r:List β},l.mapM f=some r→r.length=l.length∧∀ (i:Nat) (a:α),l[i]?=some a→∃ b,f a=some b∧r[i]?=some b
  | [],r,h=>by
    simp at h;subst h;exact⟨rfl,fun i a h=>by simp at h⟩
  | x :: l,r,h=>by
    rw[List.mapM_cons] at h
    cases hx:f x with
    | none=>rw[hx] at h;simp at h
    | some y=>
      rw[hx] at h
      cases hr:l.mapM f with
      | none=>rw[hr] at h;simp at h
      | some r'=>
        rw[hr] at h
        simp at h
        subst h
        obtain⟨h1,h2⟩:=mapM_some hr
        refine⟨by simp[h1],fun i a hi => ?_⟩
        cases i with
        | zero=>simp at hi;subst hi;exact⟨y,hx,rfl⟩
        | succ i=>simp at hi;simpa using h2 i a hi
theorem cells_some {w:World} {a:Addr} {n:Nat} {cs:List Value} (h:w.cells? 0 a n=some cs):cs.length=n∧∀ j,j<n→w.cell? (a.add j)=cs[j]?:=by
  unfold World.cells? at h
  rw[if_pos (Nat.zero_le _)] at h
  obtain⟨h1,h2⟩:=mapM_some h
  rw[List.length_range] at h1
  refine⟨h1,fun j hj => ?_⟩
  obtain⟨b,hb,hc⟩:=h2 j j (by simp[hj])
  rw[hb,hc]
theorem addr_add (b off j:Nat):(⟨b,off,none⟩:Addr).add j=⟨b,off+j,none⟩:=by unfold Addr.add;split <;> simp_all
theorem spot_none {w:World} {a:Addr} {v:Value} (h:w.cell? a=some v):a.spot=none:=by
  unfold World.cell? at h
  split at h
  · cases hs:a.spot with
    | none=>rfl
    | some n=>rw[hs] at h;simp at h
  · cases h
theorem flatMap_get {α:Type} {enc:α→List Value} {c:Nat} (hlen:∀ a,(enc a).length=c):∀ (l:List α) (i j:Nat) (a:α),l[i]?=some a→j<c→(l.flatMap enc)[i*c+j]?=(enc a)[j]?
  | [],i,j,a,h,_=>by simp at h
  | x::l,0,j,a,h,hj=>by
    simp at h;subst h
    rw[List.flatMap_cons,List.getElem?_append_left (by rw[hlen];omega)]
    simp
  | x::l,i+1,j,a,h,hj=>by
    have ih:=flatMap_get hlen l i j a (by simpa using h) hj
    rw[List.flatMap_cons,List.getElem?_append_right (by rw[hlen,Nat.add_mul];omega),hlen,show (i+1)*c+j - c=i*c+j by rw[Nat.add_mul];omega]
    exact ih
theorem flatMap_len {α:Type} {enc:α→List Value} {c:Nat} (hlen:∀ a,(enc a).length=c) (l:List α):(l.flatMap enc).length=l.length*c:=by
  induction l with
  | nil=>simp
  | cons x l ih=>rw[List.flatMap_cons,List.length_append,hlen,ih,List.length_cons,Nat.add_mul];omega
section
variable {H:Type} {enc0:TypeId×Value→H} {P:Program} {W:World}
theorem list_of {α:Type} {p:Nat→α→Prop}:∀ (n:Nat),(∀ i,i<n→∃ a,p i a)→∃ l:List α,l.length=n∧∀ (i:Nat) (a:α),l[i]?=some a→p i a
  | 0,_=>⟨[],rfl,fun i a h=>by simp at h⟩
  | n + 1,h=>by
    obtain⟨l,hl,hp⟩:=list_of n fun i hi=>h i (by omega)
    obtain⟨a,ha⟩:=h n (by omega)
    refine⟨l++[a],by simp[hl],fun i b hb => ?_⟩
    by_cases hi:i<n
    · rw[List.getElem?_append_left (by omega)] at hb;exact hp i b hb
    · have hlt:=(List.getElem?_eq_some_iff.1 hb).1
      simp at hlt
      obtain rfl:i=n:=by omega
      rw[List.getElem?_append_right (by omega)] at hb
      rw[hl] at hb;simp at hb;subst hb;exact ha
end
def boolC (b:Bool):List Value:=[.bool b]
def intC (n:Int):List Value:=[.int .i64 n]
theorem flat1 {α:Type} {f:α→Value} (l:List α):l.flatMap (fun a=>[f a])=l.map f:=by
  induction l with
  | nil=>rfl
  | cons x l ih=>simp[List.flatMap_cons,ih]
def okI64 (n:Int):Prop:= -9223372036854775808≤n∧n≤9223372036854775807
end Go.Proofs.Ytldiodhdefnlaaa.kit

/- Mix -/
namespace Go.Proofs.Ytldiodhdefnlaaa.mix
open Go.RowKit
abbrev Gr (w w':World):Prop:=Below w.heap.size w w'
theorem Gr.refl (w:World):Gr w w:=Below.refl _ _
theorem Gr.trans {a b c:World} (h:Gr a b) (k:Gr b c):Gr a c:=Below.trans h (k.mono h.size)
theorem Gr.drew (w:World):Gr w w.drew:=(Below.refl _ _).drew
def Closed (S:World→Prop):Prop:=∀ w w',S w→Gr w w'→S w'
section
variable {P:Program} {ops:Array Oper} {md:Region.Mode} {Q:Exit→Act→World→Prop}
def calmUpon (P:Program) (w:World) (v:Value):Result Next→Prop
  | .ok (.value u) w'=>u=v∧Gr w w'
  | .ok .skip w'=>v=undef∧Gr w w'
  | .ok (.enter f args) w'=>Gr w w'∧Calls P f args w' (fun e w''=>e = .returned v∧Gr w' w'')
  | _=>False
def calmAt (P:Program) (o:Oper) (a:Act) (w:World) (v:Value):Prop:=calmUpon P w v ((execOp a.eval o).run P w)
def CalmIn (P:Program) (ops:Array Oper) (S:World→Prop) (o:Oper) (v:Value) (a:Act):Prop:=
  (Region.wanted o (yielded ops a.tmps)=true∧∀ w,S w→calmAt P o a w v)∨(Region.wanted o (yielded ops a.tmps)=false∧v=undef)
theorem CalmIn.mono {S S':World→Prop} {o:Oper} {v:Value} {a:Act} (hs:∀ w,S' w→S w) (h:CalmIn P ops S o v a):CalmIn P ops S' o v a:=
  h.imp (fun ⟨h1,h2⟩=>⟨h1,fun w hw=>h2 w (hs w hw)⟩) id
theorem CalmIn.of_same {S:World→Prop} {o:Oper} {v:Value} {a a':Act} (hy:CalmIn P ops S o v a) (he:execOp a'.eval o=execOp a.eval o)
    (hw:Region.wanted o (yielded ops a'.tmps)=Region.wanted o (yielded ops a.tmps)):CalmIn P ops S o v a':=by
  unfold CalmIn calmAt at *
  rw[he,hw]
  exact hy
theorem CalmIn.wpOp {S:World→Prop} {i:Nat} {o:Oper} {v:Value} {a:Act} (hi:ops[i]?=some o) (hy:CalmIn P ops S o v a) (hcl:Closed S)
    {K:Act→World→Prop} {w:World} (hS:S w) (h:∀ w',S w'→K (a.put o.dst v) w'):wpOp P ops Q i K a w:=by
  unfold Go.wpOp
  simp only[hi]
  rcases hy with ⟨hw,hv⟩ | ⟨hw,rfl⟩
  · simp only[hw,if_true]
    refine .inl ?_
    have h1:=hv w hS
    unfold calmAt at h1
    unfold Oper.wp
    generalize (execOp a.eval o).run P w=r at *
    cases r with
    | ok n w'=>
      cases n <;> simp only[calmUpon] at h1 <;> simp only[Oper.upon]
      case value u=>rw[h1.1];exact h _ (hcl _ _ hS h1.2)
      case skip=>rw[←h1.1];exact h _ (hcl _ _ hS h1.2)
      case enter f args=>
        refine h1.2.mono fun e w'' ⟨he,hg⟩ => ?_
        subst he
        exact h _ (hcl _ _ (hcl _ _ hS h1.1) hg)
    | halt x w'=>simp only[calmUpon] at h1
  · simp only[hw,Bool.false_eq_true,if_false];exact h _ hS
theorem wpOp_calm {S:World→Prop} {j:Nat} {oi oj:Oper} {v:Value} (hj:ops[j]?=some oj) (hap:oi.apart ops oj=true)
    (hsi:∀ cs b,oi.op≠ .select cs b) (hsj:∀ cs b,oj.op≠ .select cs b)
    (hQ:∀ c a w,Q (.panic c) (a.put oi.dst v) w→Q (.panic c) a w) {K:Act→World→Prop} {a:Act} {w:World}
    (hy:CalmIn P ops S oi v a) (h:wpOp P ops Q j K (a.put oi.dst v) w) :
    wpOp P ops Q j (fun a' w'=>CalmIn P ops S oi v a'∧K (a'.put oi.dst v) w') a w:=by
  obtain⟨h1,h2,h3⟩:=Oper.apart_spec hap
  have keep:∀ (a:Act),CalmIn P ops S oi v a→∀ u,CalmIn P ops S oi v (a.put oj.dst u):=fun a hy u=>
    hy.of_same (execOp_put oi hsi a oj.dst u h3) (wanted_put oi a oj.dst u h3)
  have keepD:∀ d,CalmIn P ops S oi v { a with defers:=d::a.defers }:=fun d=>hy.of_same rfl rfl
  unfold wpOp at *
  simp only[hj] at *
  rw[wanted_put oj a oi.dst v h1] at h
  split
  · rename_i hw
    simp only[hw,if_true] at h
    rcases h with h | ⟨hasks,hlets⟩
    case inr=>exact .inr ⟨by unfold Oper.asks at *;rw[execOp_put oj hsj a oi.dst v h1] at hasks;exact hasks,hlets⟩
    refine .inl ?_
    unfold Oper.wp at *
    rw[execOp_put oj hsj a oi.dst v h1] at h
    generalize (execOp a.eval oj).run P w=r at *
    cases r with
    | ok n w'=>
      cases n <;> simp only[Oper.upon] at h ⊢
      case value u=>exact⟨keep a hy u,by rw[←Act.put_comm a v u h2];exact h⟩
      case skip=>exact⟨keep a hy _,by rw[←Act.put_comm a v undef h2];exact h⟩
      case defer d=>
        refine⟨keep _ (keepD d) _,?_⟩
        rw[←Act.put_comm _ v undef h2,←Act.put_defers]
        exact h
      case enter f args=>
        refine Calls.mono h fun e w'' he => ?_
        cases e with
        | returned u=>exact⟨keep a hy u,by rw[←Act.put_comm a v u h2];exact he⟩
        | panicked c=>exact hQ _ _ _ he
        | outgrown=>exact he
      case row row args=>exact Rows.mono h fun u w'' he=>⟨keep a hy u,by rw[←Act.put_comm a v u h2];exact he⟩
    | halt x w'=>
      cases x <;> simp only[Oper.upon] at h ⊢
      case panic u=>exact hQ _ _ _ h
  · rename_i hw
    simp only[hw] at h
    exact⟨keep a hy _,by rw[←Act.put_comm a v undef h2];exact h⟩
def wpAnyG (P:Program) (md:Region.Mode) (ops:Array Oper) (Q:Exit→Act→World→Prop) (n:Nat) (L:Array Bool→Act→World→Prop):Nat→Array Bool→Act→(World→Prop)→Prop
  | 0,listed,a,S=>∀ w,S w→L listed a w
  | f+1,listed,a,S=>Region.ready md ops listed≠[]∧
    ∀ i∈Region.ready md ops listed,i<n∧∀ w,S w→wpOp P ops Q i (fun a' w'=>∃ S',Closed S'∧(∀ x,S' x→S x)∧S' w'∧wpAnyG P md ops Q n L f (listed.setIfInBounds i true) a' S') a w
theorem wpAny_of_G {n g:Nat} {L:Array Bool→Act→World→Prop} (hL:∀ listed a w,L listed a w→wpAny P md ops Q g listed a w) :
    ∀ (f:Nat) (listed:Array Bool) (a:Act) (S:World→Prop) (w:World),S w→wpAnyG P md ops Q n L f listed a S→wpAny P md ops Q (f+g) listed a w
  | 0,listed,a,S,w,hw,h=>by rw[Nat.zero_add];exact hL _ _ _ (h w hw)
  | f+1,listed,a,S,w,hw,h=>by
    rw[show f+1+g=(f+g)+1 by omega]
    exact⟨fun h0=>absurd h0 h.1,fun i hi=>wpOp_mono (fun a' w' ⟨S',_,_,hw',h'⟩=>wpAny_of_G hL f _ a' S' w' hw' h') ((h.2 i hi).2 w hw)⟩
theorem wpAnyG_first {n i:Nat} {oi:Oper} {v:Value} {L:Array Bool→Act→World→Prop} (hi:ops[i]?=some oi) (hsel:∀ (j:Nat) (o:Oper) cs b,ops[j]?=some o→o.op≠ .select cs b)
    (hs:Region.sinkB md ops n=true) (hc:Region.chainB md ops n=true) (hn:n<ops.size) (hin:i<n)
    (hQ:∀ c a w,Q (.panic c) (a.put oi.dst v) w→Q (.panic c) a w)
    (hdone:∀ listed a w,L listed a w→∀ j∈Region.ready md ops listed,n≤j) :
    ∀ (f:Nat) (listed:Array Bool) (a:Act) (S:World→Prop),Closed S→HeadInv md ops n listed→
      (∀ j oj,ops[j]?=some oj→j≠i→listed.getD j true=false→(∀ e∈oj.after,Region.binds md e=true→e.on≠i)→oi.apart ops oj=true)→
      i∈Region.ready md ops listed→CalmIn P ops S oi v a→
      wpAnyG P md ops Q n L f (listed.setIfInBounds i true) (a.put oi.dst v) S→wpAnyG P md ops Q n L (f+1) listed a S:=by
  intro f
  induction f with
  | zero=>
    intro listed a S hcl inv _ hr hy H
    have hun:=(mem_ready.1 hr).1
    refine⟨fun h=>(by rw[h] at hr;cases hr),fun j hj => ?_⟩
    have hjn:j<n:=by
      rcases Nat.lt_or_ge j n with h | h
      · exact h
      · exact absurd hj (tail_waits hs hc hn inv _ i rfl hin hun j h)
    refine⟨hjn,fun w hw => ?_⟩
    by_cases hji:j=i
    · subst hji;exact hy.wpOp hi hcl hw fun w' hw'=>⟨S,hcl,fun _ h=>h,hw',H⟩
    · have:=hdone _ _ _ (H w hw) j (ready_mono hj hji)
      omega
  | succ f ih=>
    intro listed a S hcl inv hfree hr hy H
    have hun:=(mem_ready.1 hr).1
    refine⟨fun h=>(by rw[h] at hr;cases hr),fun j hj => ?_⟩
    have hjn:j<n:=by
      rcases Nat.lt_or_ge j n with h | h
      · exact h
      · exact absurd hj (tail_waits hs hc hn inv _ i rfl hin hun j h)
    refine⟨hjn,fun w hw => ?_⟩
    by_cases hji:j=i
    · subst hji;exact hy.wpOp hi hcl hw fun w' hw'=>⟨S,hcl,fun _ h=>h,hw',H⟩
    · have h1:=(H.2 j (ready_mono hj hji)).2 w hw
      obtain⟨hjun,oj,hoj,hall⟩:=mem_ready.1 hj
      have hnot:∀ e∈oj.after,Region.binds md e=true→e.on≠i:=fun e he hb heq=>by
        have h1:=hall e he hb
        rw[heq,getD_both hun] at h1
        cases h1
      have h2:=wpOp_calm hoj (hfree j oj hoj hji hjun hnot) (fun cs b=>hsel i oi cs b hi) (fun cs b=>hsel j oj cs b hoj) hQ hy h1
      have hfree':∀ k ok,ops[k]?=some ok→k≠i→(listed.setIfInBounds j true).getD k true=false→
          (∀ e∈ok.after,Region.binds md e=true→e.on≠i)→oi.apart ops ok=true:=fun k ok hk hki hun hno=>by
        refine hfree k ok hk hki ?_ hno
        by_cases hjk:j=k
        · subst hjk;exact hjun
        · rw[getD_set_ne true hjk] at hun;exact hun
      refine wpOp_mono (fun a' w' h3 => ?_) h2
      obtain⟨h3,S',hcl',hsub,hw',h4⟩:=h3
      refine⟨S',hcl',hsub,hw',ih (listed.setIfInBounds j true) a' S' hcl' (inv.set hj hjn) hfree' (ready_mono hr (Ne.symm hji)) (h3.mono hsub) ?_⟩
      rw[Array.setIfInBounds_comm _ _ hji]
      exact h4
def wpM (P:Program) (ops:Array Oper) (Q:Exit→Act→World→Prop) (L:Act→World→Prop):List Bool→List Oper→Act→(World→Prop)→Prop
  | true::ks,o::rest,a,S=>∃ v,(if Region.wanted o (yielded ops a.tmps) then ∀ w,S w→calmAt P o a w v else v=undef)∧wpM P ops Q L ks rest (a.put o.dst v) S
  | false::ks,o::rest,a,S=>∀ w,S w→if Region.wanted o (yielded ops a.tmps) then
      o.wp P a w (fun a' w'=>∃ S',Closed S'∧(∀ x,S' x→S x)∧S' w'∧wpM P ops Q L ks rest a' S') Q
    else wpM P ops Q L ks rest (a.put o.dst undef) S
  | _,_,a,S=>∀ w,S w→L a w
def orderM (md:Region.Mode) (ops:Array Oper) (g:Nat):List Bool→Nat→Array Bool→Bool
  | true::ks,k,listed=>(Region.ready md ops listed).contains k && Region.free md ops listed k && orderM md ops g ks (k+1) (listed.setIfInBounds k true)
  | false::ks,k,listed=>decide (Region.ready md ops listed=[k]) && orderM md ops g ks (k+1) (listed.setIfInBounds k true)
  | [],k,listed=>Region.seqB md ops g k listed
def lexM (md:Region.Mode) (ops:Array Oper) (ks:List Bool):Bool:=
  Region.noSelect ops && decide (ks.length<ops.size) && Region.sinkB md ops ks.length && Region.chainB md ops ks.length && orderM md ops (ops.size - ks.length) ks 0 (Array.replicate ops.size false)
theorem wpAnyG_lex {n g:Nat} {Lq:Act→World→Prop} (hsel:Region.noSelect ops=true) (hs:Region.sinkB md ops n=true) (hc:Region.chainB md ops n=true) (hn:n<ops.size)
    (hQ:∀ c a d v w,Q (.panic c) (a.put d v) w→Q (.panic c) a w) :
    ∀ (ks:List Bool) (l:List Oper) (k:Nat) (listed:Array Bool) (a:Act) (S:World→Prop),Closed S→l.length=ks.length→(∀ j,j<l.length→l[j]?=ops[k+j]?)→k+l.length=n→HeadInv md ops n listed→
    orderM md ops g ks k listed=true→wpM P ops Q Lq ks l a S→
    wpAnyG P md ops Q n (fun listed' a' w'=>Region.seqB md ops g n listed'=true∧Lq a' w') ks.length listed a S
  | [],[],k,listed,a,S,_,_,_,hk,_,hB,h=>by
    have:k=n:=by simpa using hk
    subst this
    exact fun w hw=>⟨by simpa[orderM] using hB,h w hw⟩
  | [],_::_,_,_,_,_,_,hlen,_,_,_,_,_=>by simp at hlen
  | _::_,[],_,_,_,_,_,hlen,_,_,_,_,_=>by simp at hlen
  | true::ks,o::l,k,listed,a,S,hcl,hlen,hl,hk,inv,hB,h=>by
    have h0:ops[k]?=some o:=by simpa using (hl 0 (by simp)).symm
    simp only[orderM,Bool.and_eq_true] at hB
    obtain⟨⟨hr,hf⟩,hB'⟩:=hB
    have hkn:k<n:=by simp only[List.length_cons] at hk;omega
    have hr':k∈Region.ready md ops listed:=by simpa using hr
    obtain⟨v,hy,hK⟩:=h
    have hy':CalmIn P ops S o v a:=by
      by_cases hw:Region.wanted o (yielded ops a.tmps)=true
      · rw[if_pos hw] at hy;exact .inl ⟨hw,hy⟩
      · rw[if_neg hw] at hy;exact .inr ⟨by simpa using hw,hy⟩
    exact wpAnyG_first h0 (Region.noSelect_spec hsel) hs hc hn hkn (fun c a w=>hQ c a o.dst v w) (fun listed' a' w' hL=>seqB_ready hL.1) ks.length listed a S hcl inv (Region.free_spec h0 hf) hr' hy'
      (wpAnyG_lex hsel hs hc hn hQ ks l (k+1) _ _ S hcl (by simpa using hlen) (fun j hj=>by have:=hl (j+1) (by simp;omega);simpa[Nat.add_assoc,Nat.add_comm 1 j] using this) (by simp only[List.length_cons] at hk;omega) (inv.set hr' hkn) hB' hK)
  | false::ks,o::l,k,listed,a,S,hcl,hlen,hl,hk,inv,hB,h=>by
    have h0:ops[k]?=some o:=by simpa using (hl 0 (by simp)).symm
    simp only[orderM,Bool.and_eq_true,decide_eq_true_eq] at hB
    obtain⟨hr,hB'⟩:=hB
    have hkn:k<n:=by simp only[List.length_cons] at hk;omega
    have hr':k∈Region.ready md ops listed:=by simp[hr]
    have next:∀ a' S',Closed S'→wpM P ops Q Lq ks l a' S'→wpAnyG P md ops Q n (fun listed' a' w'=>Region.seqB md ops g n listed'=true∧Lq a' w') ks.length (listed.setIfInBounds k true) a' S':=fun a' S' hcl' hK=>
      wpAnyG_lex hsel hs hc hn hQ ks l (k+1) _ _ S' hcl' (by simpa using hlen) (fun j hj=>by have:=hl (j+1) (by simp;omega);simpa[Nat.add_assoc,Nat.add_comm 1 j] using this) (by simp only[List.length_cons] at hk;omega) (inv.set hr' hkn) hB' hK
    refine⟨by rw[hr];simp,fun i hi => ?_⟩
    obtain rfl:i=k:=by rw[hr] at hi;simpa using hi
    refine⟨hkn,fun w hw => ?_⟩
    have h1:=h w hw
    unfold wpOp
    simp only[h0]
    split
    · rename_i hwt
      rw[if_pos hwt] at h1
      exact .inl (Oper.wp_mono (fun a' w' ⟨S',hcl',hsub,hw',hK⟩=>⟨S',hcl',hsub,hw',next _ _ hcl' hK⟩) h1)
    · rename_i hwt
      rw[if_neg hwt] at h1
      exact⟨S,hcl,fun _ h=>h,hw,next _ _ hcl h1⟩
theorem wp_region_mix {id:Nat} {a:Act} {w:World} {l:List Oper} (ks:List Bool) (hm:P.follows .mixedOrders=true) (hB:lexM .any l.toArray ks=true)
    (hQ:∀ c a d v w,Q (.panic c) (a.put d v) w→Q (.panic c) a w) (S:World→Prop) (hcl:Closed S) (hS:S w.drew)
    (h:wpM P l.toArray Q (fun a' w'=>wpList P l.toArray Q (l.drop ks.length) a' w') ks (l.take ks.length) a S):(Code.region id l.toArray true).wp P Q a w:=by
  simp only[lexM,Bool.and_eq_true,decide_eq_true_eq] at hB
  obtain⟨⟨⟨⟨hsel,hn⟩,hs⟩,hc⟩,hlex⟩:=hB
  have hn':ks.length<l.length:=by simpa using hn
  have htl:(l.take ks.length).length=ks.length:=by simp;omega
  have hdl:(l.drop ks.length).length=l.toArray.size - ks.length:=by simp
  have inv0:HeadInv .any l.toArray ks.length (Array.replicate l.toArray.size false):=
    ⟨by simp,fun j oj _ hl=>(by rw[getD_replicate_false] at hl;cases hl),fun t _ ht=>getD_in (by simpa using ht) (getD_replicate_false _ _)⟩
  have H:=wpAnyG_lex (md:= .any) (g:=l.toArray.size - ks.length) hsel hs hc hn hQ ks (l.take ks.length) 0 _ a S hcl htl (fun j hj=>by
    have hj':j<ks.length:=by rw[htl] at hj;exact hj
    simp[hj']) (by simpa using htl) inv0 hlex h
  refine wp_region_any hm ?_
  have:=wpAny_of_G (Q:=Q) (g:=l.toArray.size - ks.length) (fun listed a' w' hL=>by
    have:=wpAny_of_seq (md:= .any) (Q':=Q) (l.drop ks.length) ks.length listed a' w' (fun j=>by simp[List.getElem?_drop]) (by rw[hdl];exact hL.1) hL.2
    rwa [hdl] at this) _ _ _ S w.drew hS H
  rw[show ks.length+(l.toArray.size - ks.length)=l.toArray.size by omega] at this
  exact this
theorem mix {id:Nat} {a:Act} {w:World} {l:List Oper} (n:Nat) (ks:List Bool) (hn:ks.length=n) (hm:P.follows .mixedOrders=true) (hB:lexM .any l.toArray ks=true)
    (hQ:∀ c a d v w,Q (.panic c) (a.put d v) w→Q (.panic c) a w) (S:World→Prop) (hcl:Closed S) (hS:S w.drew)
    (h:wpM P l.toArray Q (fun a' w'=>wpList P l.toArray Q (l.drop n) a' w') ks (l.take n) a S):(Code.region id l.toArray true).wp P Q a w:=by
  subst hn;exact wp_region_mix ks hm hB hQ S hcl hS h
section
variable {L:Act→World→Prop} {ks:List Bool} {o:Oper} {rest:List Oper} {a:Act} {S:World→Prop}
theorem wpM_val {u:Value} (hw:Region.wanted o (yielded ops a.tmps)=true) (h:∀ w,S w→(execOp a.eval o).run P w = .ok (.value u) w) (hk:wpM P ops Q L ks rest (a.put o.dst u) S) :
    wpM P ops Q L (true::ks) (o::rest) a S:=
  ⟨u,by rw[if_pos hw];intro w hS;unfold calmAt;rw[h w hS];exact⟨rfl,Gr.refl _⟩,hk⟩
theorem wpM_end {l:List Oper} (h:∀ w,S w→L a w):wpM P ops Q L [] l a S:=h
end
end
end Go.Proofs.Ytldiodhdefnlaaa.mix

/- Eng -/
namespace Go.Proofs.Ytldiodhdefnlaaa.eng
open Go.RowKit kit mix
abbrev Fr:=List (Nat×Value)
def look:Fr→Nat→Option Value
  | [],_=>none
  | (k,v)::r,i=>bif Nat.beq k i then some v else look r i
structure Rep (n:Nat) (a:Act) (fr:Fr):Prop where
  size:a.tmps.size=n
  defers:a.defers=[]
  get:∀ i v,look fr i=some v→a.tmps[i]?=some v
theorem Rep.put {n:Nat} {a:Act} {fr:Fr} (h:Rep n a fr) {d:Nat} (hd:Nat.blt d n=true) (v:Value):Rep n (a.put (some d) v) ((d,v)::fr):=by
  have hd':d<n:=Nat.le_of_ble_eq_true hd
  refine⟨by simp[Act.put,h.size],h.defers,fun i u hi => ?_⟩
  unfold look at hi
  simp only[Act.put]
  cases e:Nat.beq d i
  · rw[e] at hi
    rw[Array.getElem?_setIfInBounds_ne (Nat.ne_of_beq_eq_false e)]
    exact h.get i u hi
  · rw[e] at hi
    obtain rfl:d=i:=Nat.eq_of_beq_eq_true e
    simp only[cond_true,Option.some.injEq] at hi
    subst hi
    rw[Array.getElem?_setIfInBounds_self_of_lt (by rw[h.size];exact hd')]
theorem Rep.put_none {n:Nat} {a:Act} {fr:Fr} (h:Rep n a fr) (v:Value):Rep n (a.put none v) fr:=h
def Subs:Fr→Fr→Prop
  | [],_=>True
  | (i,v)::r,fr=>look fr i=some v∧Subs r fr
theorem subs_get {fr' fr:Fr} (h:Subs fr' fr) {i:Nat} {v:Value} (hl:look fr' i=some v):look fr i=some v:=by
  induction fr' with
  | nil=>cases hl
  | cons x r ih=>
    obtain⟨k,u⟩:=x
    unfold look at hl
    cases e:Nat.beq k i
    · rw[e] at hl;exact ih h.2 hl
    · rw[e] at hl
      obtain rfl:k=i:=Nat.eq_of_beq_eq_true e
      simp only[cond_true,Option.some.injEq] at hl
      subst hl;exact h.1
theorem Rep.sub {n:Nat} {a:Act} {fr fr':Fr} (h:Rep n a fr) (hs:Subs fr' fr):Rep n a fr':=⟨h.size,h.defers,fun i v hl=>h.get i v (subs_get hs hl)⟩
def ev (fr:Fr):Operand→Option Value
  | .tmp t=>look fr t
  | .const v=>some v
  | .global g=>some (.pointer (some ⟨g,0,none⟩))
  | .func f=>some (.func (.func f) #[] #[])
theorem Rep.ev {n:Nat} {a:Act} {fr:Fr} (h:Rep n a fr) {x:Operand} {v:Value} (hx:ev fr x=some v):a.eval x=v:=by
  cases x with
  | tmp t=>simp[Act.eval,Array.getD_eq_getD_getElem?,h.get t v hx]
  | const u=>simpa[eng.ev,Act.eval] using hx
  | global g=>simpa[eng.ev,Act.eval] using hx
  | func f=>simpa[eng.ev,Act.eval] using hx
theorem Rep.yield {n:Nat} {a:Act} {fr:Fr} (h:Rep n a fr) {ops:Array Oper} {j d:Nat} {v:Value} (hj:(ops[j]?).bind (·.dst)=some d) (hl:look fr d=some v) :
    yielded ops a.tmps j=match v with | .bool b=>some b | _=>none:=by
  unfold yielded
  rw[hj]
  simp only[Option.bind_some,h.get d v hl]
  cases v <;> rfl
structure Own where
  blk:Option Nat
  more:Nat→Prop
  holds:World→Prop
  lt:∀ w,holds w→∀ k,(blk=some k∨more k)→k<w.heap.size
  stay:∀ w w',holds w→w.heap.size≤w'.heap.size→(∀ k,(blk=some k∨more k)→w'.heap[k]?=w.heap[k]?)→holds w'
def Own.foot (o:Own) (k:Nat):Prop:=o.blk=some k∨o.more k
def blkO (g:Nat) (cs:Array Value) (T:TypeId):Own:=
  ⟨some g,fun _=>False,fun w=>w.heap[g]?=some (.cells cs T (0,0)),fun w h k hk=>by simp only[Option.some.injEq,or_false] at hk;subst hk;exact (Array.getElem?_eq_some_iff.1 h).1,
    fun w w' h _ hb=>by rw[hb g (.inl rfl)];exact h⟩
def rowO (e:TypeId) (size:Nat) (v:Value) (n:Nat) (xs:List Value):Own:=
  ⟨v.ownBlock,fun _=>False,fun w=>w.ownsRow 0 e size v n xs,fun w h k hk=>(h.lt k (hk.elim id False.elim)).2,fun w w' h _ hb=>by
    refine⟨h.1,?_⟩
    rcases h.2 with hn | ⟨g,cap,cur,rfl,hb0,hg,rest⟩
    · exact .inl hn
    · exact .inr ⟨g,cap,cur,rfl,hb0,by rw[hb g (.inl rfl)];exact hg,rest⟩⟩
structure OwnsP (p:Nat→Prop) (w:World) (L:List Own):Prop where
  all:∀ (i:Nat) (o:Own),L[i]?=some o→o.holds w∧∀ k,o.foot k→p k
  apart:∀ (i j:Nat) (o o':Own),i≠j→L[i]?=some o→L[j]?=some o'→∀ k,o.foot k→¬ o'.foot k
abbrev Owns (B:Nat) (w:World) (L:List Own):Prop:=OwnsP (fun k=>B≤k) w L
section
variable {p p':Nat→Prop}
theorem Owns.nil (B:Nat) (w:World):Owns B w []:=⟨fun i o h=>by simp at h,fun i j o o' _ h=>by simp at h⟩
theorem OwnsP.nil (w:World):OwnsP p w []:=⟨fun i o h=>by simp at h,fun i j o o' _ h=>by simp at h⟩
theorem OwnsP.gr {w w':World} {L:List Own} (h:OwnsP p w L) (hg:Gr w w'):OwnsP p w' L:=
  ⟨fun i o hi=>⟨o.stay w w' (h.all i o hi).1 hg.size fun k hk=>hg.block k (o.lt w (h.all i o hi).1 k hk),(h.all i o hi).2⟩,h.apart⟩
theorem OwnsP.mono {w:World} {L:List Own} (h:OwnsP p w L) (hb:∀ k,p k→p' k):OwnsP p' w L:=
  ⟨fun i o hi=>⟨(h.all i o hi).1,fun k hk=>hb k ((h.all i o hi).2 k hk)⟩,h.apart⟩
theorem OwnsP.one {w:World} {o:Own} (h:o.holds w) (hb:∀ k,o.foot k→p k):OwnsP p w [o]:=
  ⟨fun i o' hi=>by
    match i,hi with
    | 0,hi=>simp only[List.getElem?_cons_zero,Option.some.injEq] at hi;subst hi;exact⟨h,hb⟩
    | i+1,hi=>simp at hi,
   fun i j a b hij hi hj=>by
    match i,j,hi,hj with
    | 0,0,_,_=>exact absurd rfl hij
    | i+1,_,hi,_=>simp at hi
    | 0,j+1,_,hj=>simp at hj⟩
theorem Owns.one {B:Nat} {w:World} {o:Own} (h:o.holds w) (hb:∀ k,o.blk=some k→B≤k) (hmo:∀ k,o.more k→B≤k:=by intro k hk;exact False.elim hk):Owns B w [o]:=OwnsP.one h fun k hk=>hk.elim (hb k) (hmo k)
theorem OwnsP.both {w:World} {L L':List Own} (h:OwnsP p w L) (h':OwnsP p w L') (ha:∀ (i j:Nat) (o o':Own),L[i]?=some o→L'[j]?=some o'→∀ k,o.foot k→¬ o'.foot k):OwnsP p w (L++L'):=by
  refine⟨fun i o hi => ?_,fun i j o o' hij hi hj => ?_⟩
  · rw[List.getElem?_append] at hi
    split at hi
    · exact h.all i o hi
    · exact h'.all _ o hi
  · intro k hk hk'
    rw[List.getElem?_append] at hi hj
    split at hi <;> split at hj
    · exact h.apart i j o o' hij hi hj k hk hk'
    · exact ha _ _ o o' hi hj k hk hk'
    · exact ha _ _ o' o hj hi k hk' hk
    · exact h'.apart (i - L.length) (j - L.length) o o' (by omega) hi hj k hk hk'
theorem OwnsP.pick {w:World} {L L':List Own} (h:OwnsP p w L) (is:List Nat) (hn:is.Nodup) (hl:L'=is.filterMap fun i=>L[i]?):OwnsP p w L':=by
  subst hl
  induction is with
  | nil=>exact OwnsP.nil _
  | cons i is ih=>
    rw[List.nodup_cons] at hn
    have ih:=ih hn.2
    have mem:∀ j o,(is.filterMap fun i=>L[i]?)[j]?=some o→∃ q∈is,L[q]?=some o:=fun j o hj=>by
      have:=List.mem_of_getElem? hj
      rw[List.mem_filterMap] at this
      exact this
    cases e:L[i]? with
    | none=>rw[List.filterMap_cons_none e];exact ih
    | some o0=>
      rw[List.filterMap_cons_some e]
      refine⟨fun j o hj => ?_,fun j j' o o' hij hj hj' => ?_⟩
      · match j,hj with
        | 0,hj=>simp only[List.getElem?_cons_zero,Option.some.injEq] at hj;subst hj;exact h.all i _ e
        | j+1,hj=>exact ih.all j o (by simpa using hj)
      · match j,j',hj,hj' with
        | 0,0,_,_=>exact absurd rfl hij
        | 0,j'+1,hj,hj'=>
          simp only[List.getElem?_cons_zero,Option.some.injEq] at hj;subst hj
          obtain⟨q,hq,hq'⟩:=mem j' o' (by simpa using hj')
          exact h.apart i q _ o' (fun e=>hn.1 (e ▸ hq)) e hq'
        | j+1,0,hj,hj'=>
          simp only[List.getElem?_cons_zero,Option.some.injEq] at hj';subst hj'
          obtain⟨q,hq,hq'⟩:=mem j o (by simpa using hj)
          exact h.apart q i o _ (fun e=>hn.1 (e ▸ hq)) hq' e
        | j+1,j'+1,hj,hj'=>exact ih.apart j j' o o' (by omega) (by simpa using hj) (by simpa using hj')
end
structure Base where
  w:World
  X:Nat→Prop
instance:Coe World Base:=⟨fun w=>⟨w,fun _=>False⟩⟩
def Base.on (w:World) (L:List Own):Base:=⟨w,fun k=>∃ o∈L,o.foot k⟩
def Base.may (W:Base) (k:Nat):Prop:=W.w.heap.size≤k∨W.X k
structure BelowB (W:Base) (w:World):Prop where
  os:w.os=W.w.os
  tape:w.tape=W.w.tape
  output:w.output=W.w.output
  size:W.w.heap.size≤w.heap.size
  block:∀ k,k<W.w.heap.size→¬ W.X k→w.heap[k]?=W.w.heap[k]?
structure Mem (W:Base) (L:List Own) (w:World):Prop where
  low:BelowB W w
  owns:OwnsP W.may w L
theorem Mem.start (W:World):Mem W [] W:=⟨⟨rfl,rfl,rfl,Nat.le_refl _,fun _ _ _=>rfl⟩,OwnsP.nil _⟩
theorem BelowB.gr {W:Base} {w w':World} (h:BelowB W w) (hg:Gr w w'):BelowB W w':=
  ⟨hg.os.trans h.os,hg.tape.trans h.tape,hg.output.trans h.output,Nat.le_trans h.size hg.size,fun k hk hx=>(hg.block k (Nat.lt_of_lt_of_le hk h.size)).trans (h.block k hk hx)⟩
theorem Mem.below {W w:World} {L:List Own} (h:Mem W L w):Below W.heap.size W w:=⟨h.low.os,h.low.tape,h.low.output,h.low.size,fun k hk=>h.low.block k hk id⟩
theorem Mem.newer {W w:World} {L:List Own} (h:Mem W L w):Owns W.heap.size w L:=h.owns.mono fun k hk=>hk.elim id False.elim
section
variable {W:Base}
theorem Mem.gr {w w':World} {L:List Own} (h:Mem W L w) (hg:Gr w w'):Mem W L w':=⟨h.low.gr hg,h.owns.gr hg⟩
theorem Mem.drew {w:World} {L:List Own} (h:Mem W L w):Mem W L w.drew:=h.gr (Gr.drew w)
theorem closed_mem (W:Base) (L:List Own):Closed (Mem W L):=fun _ _ h k=>h.gr k
theorem Mem.pick {w:World} {L L':List Own} (h:Mem W L w) (is:List Nat) (hn:is.Nodup) (hl:L'=is.filterMap fun i=>L[i]?):Mem W L' w:=⟨h.low,h.owns.pick is hn hl⟩
theorem Mem.append {w w':World} {L L':List Own} (h:Mem W L w) (hg:Gr w w') (h':Owns w.heap.size w' L'):Mem W (L++L') w':=by
  have hsz:W.w.heap.size≤w.heap.size:=h.low.size
  refine⟨h.low.gr hg,OwnsP.both (h.owns.gr hg) (h'.mono fun k hk=> .inl (Nat.le_trans hsz hk)) fun i j o o' hi hj k hk hk' => ?_⟩
  have a1:=o.lt w (h.owns.all i o hi).1 k hk
  have a2:w.heap.size≤k:=(h'.all _ o' hj).2 k hk'
  omega
theorem Mem.turn {w w':World} {L:List Own} (h:Mem W L w) {i:Nat} {o o':Own} (hi:L[i]?=some o) (hg:w.grownBy w' o.blk) (ho:o'.holds w') (hb:∀ k,o'.blk=some k→o.blk=some k∨w.heap.size≤k) (hmo:∀ k,o'.more k→o.foot k:=by intro k hk;exact False.elim hk):Mem W (L.set i o') w':=by
  have hle:W.w.heap.size≤w.heap.size:=h.low.size
  have hoB:=(h.owns.all i o hi).2
  have hlen:i<L.length:=(List.getElem?_eq_some_iff.1 hi).1
  have hb':∀ k,o'.foot k→o.foot k∨w.heap.size≤k:=fun k hk=>hk.elim (fun h=>(hb k h).imp .inl id) (fun h=> .inl (hmo k h))
  refine⟨⟨hg.os.trans h.low.os,hg.tape.trans h.low.tape,hg.output.trans h.low.output,Nat.le_trans hle hg.size,fun k hk hx => ?_⟩,?_,?_⟩
  · rw[hg.block k (Nat.lt_of_lt_of_le hk hle) fun e=>(hoB k (.inl e.symm)).elim (fun h=>by omega) hx]
    exact h.low.block k hk hx
  · intro j q hj
    by_cases e:i=j
    · subst e
      rw[List.getElem?_set_self hlen] at hj
      simp only[Option.some.injEq] at hj;subst hj
      exact⟨ho,fun k hk=>(hb' k hk).elim (hoB k) (fun h=> .inl (Nat.le_trans hle h))⟩
    · rw[List.getElem?_set_ne e] at hj
      have h1:=h.owns.all j q hj
      refine⟨q.stay w w' h1.1 hg.size fun k hk=>hg.block k (q.lt w h1.1 k hk) fun e' => ?_,h1.2⟩
      exact h.owns.apart i j o q e hi hj k (.inl e'.symm) hk
  · intro j j' q q' hij hj hj' k hk hk'
    by_cases e:i=j
    · subst e
      rw[List.getElem?_set_self hlen] at hj
      rw[List.getElem?_set_ne hij] at hj'
      simp only[Option.some.injEq] at hj;subst hj
      have h2:=(h.owns.all j' q' hj').1
      rcases hb' k hk with h1 | h1
      · exact h.owns.apart i j' o q' hij hi hj' k h1 hk'
      · have:=q'.lt w h2 k hk';omega
    · rw[List.getElem?_set_ne e] at hj
      have h2:=(h.owns.all j q hj).1
      by_cases e':i=j'
      · subst e'
        rw[List.getElem?_set_self hlen] at hj'
        simp only[Option.some.injEq] at hj';subst hj'
        rcases hb' k hk' with h1 | h1
        · exact h.owns.apart i j o q e hi hj k h1 hk
        · have:=q.lt w h2 k hk;omega
      · rw[List.getElem?_set_ne e'] at hj'
        exact h.owns.apart j j' q q' hij hj hj' k hk hk'
theorem Mem.merge {w:World} {R:List Own} {o1 o2:Own} (o:Own) (h:Mem W ([o1,o2]++R) w) (hf:∀ k,o.foot k→o1.foot k∨o2.foot k) (hh:o1.holds w→o2.holds w→o.holds w):Mem W (R++[o]) w:=by
  have h1:=h.owns.all 0 o1 rfl
  have h2:=h.owns.all 1 o2 rfl
  refine⟨h.low,OwnsP.both ⟨fun i q hi=>h.owns.all (i+2) q (by simpa using hi),fun i j q q' hij hi hj=>h.owns.apart (i+2) (j+2) q q' (by omega) (by simpa using hi) (by simpa using hj)⟩ (OwnsP.one (hh h1.1 h2.1) fun k hk=>(hf k hk).elim (h1.2 k) (h2.2 k)) ?_⟩
  · intro i j q q' hi hj k hk hk'
    match j,hj with
    | 0,hj=>
      simp only[List.getElem?_cons_zero,Option.some.injEq] at hj;subst hj
      have hi':([o1,o2]++R)[i+2]?=some q:=by simpa using hi
      rcases hf k hk' with h3 | h3
      · exact h.owns.apart 0 (i+2) o1 q (by omega) rfl hi' k h3 hk
      · exact h.owns.apart 1 (i+2) o2 q (by omega) rfl hi' k h3 hk
    | j+1,hj=>simp at hj
theorem Mem.get {w:World} {L:List Own} (h:Mem W L w) {i:Nat} {o:Own} (hi:L[i]?=some o):o.holds w:=(h.owns.all i o hi).1
theorem Mem.over {w:World} {L:List Own} (h:Mem W L w):Mem (Base.on w L) L w:=
  ⟨⟨rfl,rfl,rfl,Nat.le_refl _,fun _ _ _=>rfl⟩,fun i o hi=>⟨(h.owns.all i o hi).1,fun k hk=> .inr ⟨o,List.mem_of_getElem? hi,hk⟩⟩,h.owns.apart⟩
theorem Mem.back {w w':World} {L R O:List Own} (h:Mem W (L++R) w) (h':Mem (Base.on w L) O w'):Mem W (R++O) w':=by
  have hle:W.w.heap.size≤w.heap.size:=h.low.size
  have hL:∀ o∈L,∀ k,o.foot k→W.may k:=fun o ho k hk=>by
    obtain⟨i,hi⟩:=List.getElem?_of_mem ho
    exact (h.owns.all i o (by rw[List.getElem?_append_left (List.getElem?_eq_some_iff.1 hi).1];exact hi)).2 k hk
  have hR:∀ (i:Nat) (o:Own),R[i]?=some o→o.holds w∧(∀ k,o.foot k→W.may k)∧∀ k,o.foot k→k<w.heap.size∧¬ (Base.on w L).X k:=fun i o hi=>by
    have hi':(L++R)[L.length+i]?=some o:=by rw[List.getElem?_append_right (by omega)];simpa using hi
    have h1:=h.owns.all _ o hi'
    refine⟨h1.1,h1.2,fun k hk=>⟨o.lt w h1.1 k hk,?_⟩⟩
    rintro⟨q,hq,hqk⟩
    obtain⟨j,hj⟩:=List.getElem?_of_mem hq
    have hjl:=(List.getElem?_eq_some_iff.1 hj).1
    exact h.owns.apart j (L.length+i) q o (by omega) (by rw[List.getElem?_append_left hjl];exact hj) hi' k hqk hk
  refine⟨⟨h'.low.os.trans h.low.os,h'.low.tape.trans h.low.tape,h'.low.output.trans h.low.output,Nat.le_trans hle h'.low.size,fun k hk hx => ?_⟩,OwnsP.both ⟨fun i o hi => ?_,?_⟩ ?_ ?_⟩
  · rw[h'.low.block k (Nat.lt_of_lt_of_le hk hle) ?_]
    · exact h.low.block k hk hx
    · rintro⟨o,ho,hok⟩
      exact (hL o ho k hok).elim (fun h=>by omega) hx
  · obtain⟨h1,h2,h3⟩:=hR i o hi
    exact⟨o.stay w w' h1 h'.low.size fun k hk=>h'.low.block k (h3 k hk).1 (h3 k hk).2,h2⟩
  · intro i j o o' hij hi hj
    exact h.owns.apart (L.length+i) (L.length+j) o o' (by omega) (by rw[List.getElem?_append_right (by omega)];simpa using hi) (by rw[List.getElem?_append_right (by omega)];simpa using hj)
  · exact h'.owns.mono fun k hk=>hk.elim (fun h1=> .inl (Nat.le_trans hle h1)) fun ⟨o,ho,hok⟩=>hL o ho k hok
  · intro i j o o' hi hj k hk hk'
    obtain⟨h1,h2,h3⟩:=hR i o hi
    rcases (h'.owns.all j o' hj).2 k hk' with h4 | h4
    · have h4:w.heap.size≤k:=h4
      have:=(h3 k hk).1;omega
    · exact (h3 k hk).2 h4
end
theorem Mem.cell {W w:World} {L:List Own} (h:Mem W L w) {p:Addr} {v:Value} (hp:W.cell? p=some v):w.cell? p=some v:=by
  rw[h.below.cell (World.block_lt_of_cell? W p hp)];exact hp
structure Old (W0:World) (W:Base):Prop where
  below:Below W0.heap.size W0 W.w
  free:∀ k,k<W0.heap.size→¬ W.X k
theorem Old.self (W:World):Old W W:=⟨Below.refl _ _,fun _ _=>id⟩
theorem Old.mem {W0:World} {W:Base} (ho:Old W0 W) {L:List Own} {w:World} (h:Mem W L w):Below W0.heap.size W0 w:=
  ⟨h.low.os.trans ho.below.os,h.low.tape.trans ho.below.tape,h.low.output.trans ho.below.output,Nat.le_trans ho.below.size h.low.size,fun k hk=>(h.low.block k (Nat.lt_of_lt_of_le hk ho.below.size) (ho.free k hk)).trans (ho.below.block k hk)⟩
theorem Old.cell {W0:World} {W:Base} (ho:Old W0 W) {L:List Own} {w:World} (h:Mem W L w) {p:Addr} {v:Value} (hp:W0.cell? p=some v):w.cell? p=some v:=by
  rw[(ho.mem h).cell (World.block_lt_of_cell? W0 p hp)];exact hp
theorem Old.on {W0:World} {W:Base} (ho:Old W0 W) {L L':List Own} {w:World} (h:Mem W L w) (hs:∀ o∈L',o∈L):Old W0 (Base.on w L'):=
  ⟨ho.mem h,fun k hk ⟨o,hm,hb⟩=>by
    obtain⟨i,hi⟩:=List.getElem?_of_mem (hs o hm)
    rcases (h.owns.all i o hi).2 k hb with h1 | h1
    · have:=ho.below.size
      have h1:W.w.heap.size≤k:=h1
      omega
    · exact ho.free k hk h1⟩
end Go.Proofs.Ytldiodhdefnlaaa.eng

/- Step -/
namespace Go.Proofs.Ytldiodhdefnlaaa.eng
open Go.RowKit kit mix
structure T (P:Program) (n:Nat) (W:Base) (c:Code) (Q:Exit→Act→World→Prop) (fr:Fr) (L:List Own):Prop where
  go:∀ a w,Rep n a fr→Mem W L w→c.wp P Q a w
structure E (n:Nat) (W:Base) (e:Exit) (Q:Exit→Act→World→Prop) (fr:Fr) (L:List Own):Prop where
  go:∀ a w,Rep n a fr→Mem W L w→Q e a w
structure TL (P:Program) (n:Nat) (W:Base) (ops:Array Oper) (Q:Exit→Act→World→Prop) (l:List Oper) (fr:Fr) (L:List Own):Prop where
  go:∀ a w,Rep n a fr→Mem W L w→wpList P ops Q l a w
structure TM (P:Program) (n:Nat) (W:Base) (ops:Array Oper) (Q:Exit→Act→World→Prop) (K:Act→World→Prop) (ks:List Bool) (l:List Oper) (fr:Fr) (L:List Own):Prop where
  go:∀ a,Rep n a fr→wpM P ops Q K ks l a (Mem W L)
structure RR (P:Program) (n:Nat) (W:Base) (o:Oper) (fr:Fr) (L:List Own) (v:Value):Prop where
  go:∀ a w,Rep n a fr→Mem W L w→(execOp a.eval o).run P w = .ok (.value v) w
structure Spec (ι:Type) where
  ok:ι→Prop
  val:ι→Value
  own:ι→List Own
def Meets {ι:Type} (S:Spec ι) (w:World) (e:Ending) (w':World):Prop:=∃ x,S.ok x∧e = .returned (S.val x)∧Gr w w'∧Owns w.heap.size w' (S.own x)
def ret (v:Value):Spec Unit:=⟨fun _=>True,fun _=>v,fun _=>[]⟩
theorem of_meets {v:Value} {w w':World} {e:Ending} (h:Meets (ret v) w e w'):e = .returned v∧Gr w w':=let ⟨_,_,h1,h2,_⟩:=h;⟨h1,h2⟩
section
variable {P:Program} {n:Nat} {W:Base} {Q:Exit→Act→World→Prop} {fr:Fr} {L:List Own}
theorem T_seq {x y:Code} (h:T P n W x (Exit.then (y.wp P Q) Q) fr L):T P n W (x.seq y) Q fr L:= .mk fun a w hr hm=>wp_seq (h.go a w hr hm)
theorem T_skip (h:E n W .normal Q fr L):T P n W .skip Q fr L:= .mk fun a w hr hm=>wp_skip (h.go a w hr hm)
theorem T_exit {id:Nat} (h:E n W (.exit id) Q fr L):T P n W (.exit id) Q fr L:= .mk fun a w hr hm=>wp_exit (h.go a w hr hm)
theorem T_ret (h:E n W .ret Q fr L):T P n W .ret Q fr L:= .mk fun a w hr hm=>wp_ret (h.go a w hr hm)
theorem T_block {id:Nat} {c:Code} (h:T P n W c (Exit.inBlock id Q) fr L):T P n W (.block id c) Q fr L:= .mk fun a w hr hm=>wp_block (h.go a w hr hm)
theorem T_condT {c:Operand} {x y:Code} (hc:ev fr c=some (.bool true)) (h:T P n W x Q fr L):T P n W (.cond c x y) Q fr L:= .mk fun a w hr hm=>wp_cond_true (hr.ev hc) (h.go a w hr hm)
theorem T_condF {c:Operand} {x y:Code} (hc:ev fr c=some (.bool false)) (h:T P n W y Q fr L):T P n W (.cond c x y) Q fr L:= .mk fun a w hr hm=>wp_cond_false (hr.ev hc) (h.go a w hr hm)
theorem T_pick {c:Code} {L':List Own} (is:List Nat) (hn:is.Nodup) (hl:L'=is.filterMap fun i=>L[i]?) (h:T P n W c Q fr L'):T P n W c Q fr L:= .mk fun a w hr hm=>h.go a w hr (hm.pick is hn hl)
theorem E_pick {e:Exit} {L':List Own} (is:List Nat) (hn:is.Nodup) (hl:L'=is.filterMap fun i=>L[i]?) (h:E n W e Q fr L'):E n W e Q fr L:= .mk fun a w hr hm=>h.go a w hr (hm.pick is hn hl)
theorem E_then {y:Code} (h:T P n W y Q fr L):E n W .normal (Exit.then (y.wp P Q) Q) fr L:=⟨h.go⟩
theorem E_thenX {id:Nat} {K:Act→World→Prop} (h:E n W (.exit id) Q fr L):E n W (.exit id) (Exit.then K Q) fr L:=⟨h.go⟩
theorem E_thenR {K:Act→World→Prop} (h:E n W .ret Q fr L):E n W .ret (Exit.then K Q) fr L:=⟨h.go⟩
theorem E_blockN {id:Nat} (h:E n W .normal Q fr L):E n W .normal (Exit.inBlock id Q) fr L:=⟨h.go⟩
theorem E_blockR {id:Nat} (h:E n W .ret Q fr L):E n W .ret (Exit.inBlock id Q) fr L:=⟨h.go⟩
theorem E_blockX {id:Nat} (h:E n W .normal Q fr L):E n W (.exit id) (Exit.inBlock id Q) fr L:= .mk fun a w hr hm=>by
  show (if id=id then Q .normal a w else Q (.exit id) a w)
  rw[if_pos rfl];exact h.go a w hr hm
theorem E_blockO {id id':Nat} (hne:Nat.beq id' id=false) (h:E n W (.exit id') Q fr L):E n W (.exit id') (Exit.inBlock id Q) fr L:= .mk fun a w hr hm=>by
  show (if id'=id then Q .normal a w else Q (.exit id') a w)
  rw[if_neg (Nat.ne_of_beq_eq_false hne)];exact h.go a w hr hm
def Rnd {ι:Type} (n:Nat) (W:Base) (I:ι→Prop) (F:ι→Fr) (M:ι→List Own) (μ:ι→Nat) (x:ι) (a:Act) (w:World):Prop:=∃ x',I x'∧μ x'<μ x∧Rep n a (F x')∧Mem W (M x') w
def Mid {ι:Type} (n:Nat) (W:Base) (I:ι→Prop) (F:ι→Fr) (M:ι→List Own) (a:Act) (w:World):Prop:=∃ i,I i∧Rep n a (F i)∧Mem W (M i) w
theorem E_mid {ι:Type} {I:ι→Prop} {F:ι→Fr} {M:ι→List Own} (i:ι) (hi:I i) (hf:Subs (F i) fr) (hl:L=M i):E n W .normal (Exit.then (Mid n W I F M) Q) fr L:=
  ⟨fun _ _ hr hm=>⟨i,hi,hr.sub hf,hl ▸ hm⟩⟩
theorem T_loop {c:Code} {ι:Type} (I:ι→Prop) (F:ι→Fr) (M:ι→List Own) (μ:ι→Nat) (x0:ι) (h0:I x0) (hf:Subs (F x0) fr) (hl:L=M x0)
    (round:∀ x,I x→T P n W c (Exit.then (Rnd n W I F M μ x) Q) (F x) (M x)):T P n W (.loop c) Q fr L:=by
  refine⟨fun a w hr hm => ?_⟩
  refine wp_loop_ghost (fun k a w=>∃ x,μ x=k∧I x∧Rep n a (F x)∧Mem W (M x) w) (μ x0) ⟨x0,rfl,h0,hr.sub hf,hl ▸ hm⟩ ?_
  rintro k a w ⟨x,rfl,hi,hr,hm⟩
  refine wp_mono ((round x hi).go a w hr hm) fun e a w h => ?_
  cases e with
  | normal=>obtain⟨x',h1,h2,h3,h4⟩:=h;exact⟨μ x',h2,x',rfl,h1,h3,h4⟩
  | _=>exact h
theorem E_round {ι:Type} {I:ι→Prop} {F:ι→Fr} {M:ι→List Own} {μ:ι→Nat} {x:ι} (x':ι) (hi:I x') (hμ:μ x'<μ x) (hf:Subs (F x') fr) (hl:L=M x') :
    E n W .normal (Exit.then (Rnd n W I F M μ x) Q) fr L:=
  ⟨fun _ _ hr hm=>⟨x',hi,hμ,hr.sub hf,hl ▸ hm⟩⟩
theorem E_ret {fn:Func} {R:Ending→World→Prop} (h:∀ a w,Rep n a fr→Mem W L w→∃ v,(results fn a.tmps).run P w = .ok v w∧R (.returned v) w):E n W .ret (bodyPost P fn R) fr L:=
  ⟨fun a w hr hm=>⟨hr.defers,h a w hr hm⟩⟩
theorem E_ret1 {fn:Func} {R:Ending→World→Prop} {t:Tmp} {v:Value} (hres:fn.results=#[.tmp t]) (hv:look fr t=some v) (h:∀ w,Mem W L w→R (.returned v) w):E n W .ret (bodyPost P fn R) fr L:=
  E_ret fun a w hr hm=>⟨v,by simp[results,hres,Array.getD_eq_getD_getElem?,hr.get t v hv],h w hm⟩
theorem E_ret2 {fn:Func} {R:Ending→World→Prop} {t u:Tmp} {v z:Value} (hres:fn.results=#[.tmp t,.tmp u]) (hv:look fr t=some v) (hz:look fr u=some z) (h:∀ w,Mem W L w→R (.returned (.tuple #[v,z])) w):E n W .ret (bodyPost P fn R) fr L:=
  E_ret fun a w hr hm=>⟨_,by simp[results,hres,Array.getD_eq_getD_getElem?,hr.get t v hv,hr.get u z hz],h w hm⟩
theorem E_ret3 {fn:Func} {R:Ending→World→Prop} {t u s:Tmp} {v z y:Value} (hres:fn.results=#[.tmp t,.tmp u,.tmp s]) (hv:look fr t=some v) (hz:look fr u=some z) (hy:look fr s=some y) (h:∀ w,Mem W L w→R (.returned (.tuple #[v,z,y])) w):E n W .ret (bodyPost P fn R) fr L:=
  E_ret fun a w hr hm=>⟨_,by simp[results,hres,Array.getD_eq_getD_getElem?,hr.get t v hv,hr.get u z hz,hr.get s y hy],h w hm⟩
theorem Mem.meets {ι:Type} {S:Spec ι} {W w:World} (x:ι) (hm:Mem W L w) (hx:S.ok x) (is:List Nat) (hn:is.Nodup) (hl:S.own x=is.filterMap fun i=>L[i]?):Meets S W (.returned (S.val x)) w:=
  ⟨x,hx,rfl,hm.below,hm.newer.pick is hn hl⟩
theorem Mem.ret {v:Value} {W w:World} (hm:Mem W L w):Meets (ret v) W (.returned v) w:=⟨(),trivial,rfl,hm.below,Owns.nil _ _⟩
theorem E_ret1e {fn:Func} {W:World} {t:Tmp} {v v0:Value} (hres:fn.results=#[.tmp t]) (hv:look fr t=some v) (h:v=v0):E n W .ret (bodyPost P fn (Meets (ret v0) W)) fr L:=by
  subst h;exact E_ret1 hres hv fun w hm=>hm.ret
def frameOf:Nat→List Value→Fr
  | _,[]=>[]
  | k,v::r=>(k,v)::frameOf (k+1) r
theorem look_frameOf:∀ (vs:List Value) (k i:Nat) (v:Value),look (frameOf k vs) i=some v→k≤i∧vs[i - k]?=some v
  | [],_,_,_,h=>by cases h
  | u :: r,k,i,v,h=>by
    unfold frameOf look at h
    cases e:Nat.beq k i
    · rw[e] at h
      have hne:=Nat.ne_of_beq_eq_false e
      obtain⟨h1,h2⟩:=look_frameOf r (k+1) i v h
      refine⟨by omega,?_⟩
      rw[show i - k=(i - (k+1))+1 by omega,List.getElem?_cons_succ];exact h2
    · rw[e] at h
      obtain rfl:k=i:=Nat.eq_of_beq_eq_true e
      simp only[cond_true,Option.some.injEq] at h
      subst h;simp
theorem enter {w:World} {f:FuncId} {fn:Func} {c:Code} {args:List Value} {R:Ending→World→Prop} (hf:P.funcs[f]?=some fn) (hb:fn.body=some c) (hn:fn.ntmps=n) (hle:Nat.ble args.length n=true)
    (h:T P n w c (bodyPost P fn R) (frameOf 0 args) []):Calls P f args.toArray w R:=by
  have hle':args.length≤n:=Nat.le_of_ble_eq_true hle
  refine calls_of_wp hf hb (h.go _ w ⟨?_,rfl,fun i v hi => ?_⟩ (Mem.start w))
  · simp[hn];omega
  · obtain⟨_,h2⟩:=look_frameOf args 0 i v hi
    have hlt:=(List.getElem?_eq_some_iff.1 h2).1
    rw[Array.getElem?_append_left (by simpa using hlt)]
    simpa using h2
theorem enterB {B:Base} {w:World} {f:FuncId} {fn:Func} {c:Code} {args:List Value} {R:Ending→World→Prop} (hm:Mem B L w) (hf:P.funcs[f]?=some fn) (hb:fn.body=some c) (hn:fn.ntmps=n) (hle:Nat.ble args.length n=true)
    (h:T P n B c (bodyPost P fn R) (frameOf 0 args) L):Calls P f args.toArray w R:=by
  have hle':args.length≤n:=Nat.le_of_ble_eq_true hle
  refine calls_of_wp hf hb (h.go _ w ⟨?_,rfl,fun i v hi => ?_⟩ hm)
  · simp[hn];omega
  · obtain⟨_,h2⟩:=look_frameOf args 0 i v hi
    have hlt:=(List.getElem?_eq_some_iff.1 h2).1
    rw[Array.getElem?_append_left (by simpa using hlt)]
    simpa using h2
section
variable {ops:Array Oper} {K:Act→World→Prop} {ks:List Bool} {o:Oper} {rest:List Oper} {v:Value} {d:Nat}
theorem T_region {id:Nat} {l:List Oper} (h:TL P n W l.toArray Q l fr L):T P n W (.region id l.toArray false) Q fr L:= .mk fun a w hr hm=>wp_region_lit (h.go a w hr hm)
theorem TL_nil (h:E n W .normal Q fr L):TL P n W ops Q [] fr L:= .mk fun a w hr hm=>wpList_nil (h.go a w hr hm)
theorem wanted_none {a:Act} (hg:o.guard=none):Region.wanted o (yielded ops a.tmps)=true:=by simp[Region.wanted,hg]
theorem wanted_yes {a:Act} {j e:Nat} {b:Bool} (hr:Rep n a fr) (hg:o.guard=some (j,b)) (hj:(ops[j]?).bind (·.dst)=some e) (hl:look fr e=some (.bool b)):Region.wanted o (yielded ops a.tmps)=true:=by
  simp[Region.wanted,hg,hr.yield hj hl]
def notB (b:Bool):Value→Bool
  | .bool c=>c != b
  | _=>true
theorem wanted_no {a:Act} {j e:Nat} {b:Bool} {u:Value} (hr:Rep n a fr) (hg:o.guard=some (j,b)) (hj:(ops[j]?).bind (·.dst)=some e) (hl:look fr e=some u) (hu:notB b u=true):Region.wanted o (yielded ops a.tmps)=false:=by
  simp only[Region.wanted,hg,hr.yield hj hl]
  cases u <;> first | rfl | (rename_i c;cases c <;> cases b <;> first | rfl | cases hu)
theorem TL_val (hr:RR P n W o fr L v) (hg:o.guard=none) (hd:o.dst=some d) (hn:Nat.blt d n=true) (h:TL P n W ops Q rest ((d,v)::fr) L):TL P n W ops Q (o::rest) fr L:= .mk fun a w hrep hm=>
  wpList_plain hg fun K hK=>by
    unfold Oper.wp;rw[hr.go a w hrep hm];rw[Oper.upon_value,hd]
    exact hK _ _ (h.go _ w (hrep.put hn v) hm)
theorem TL_gval {j e:Nat} {b:Bool} (hr:RR P n W o fr L v) (hg:o.guard=some (j,b)) (hj:(ops[j]?).bind (·.dst)=some e) (hl:look fr e=some (.bool b)) (hd:o.dst=some d) (hn:Nat.blt d n=true) (h:TL P n W ops Q rest ((d,v)::fr) L):TL P n W ops Q (o::rest) fr L:= .mk fun a w hrep hm=>
  BigFrame.wpList_want (wanted_yes hrep hg hj hl) fun K hK=>by
    unfold Oper.wp;rw[hr.go a w hrep hm];rw[Oper.upon_value,hd]
    exact hK _ _ (h.go _ w (hrep.put hn v) hm)
theorem TL_skip {j e:Nat} {b:Bool} {u:Value} (hg:o.guard=some (j,b)) (hj:(ops[j]?).bind (·.dst)=some e) (hl:look fr e=some u) (hu:notB b u=true) (hd:o.dst=some d) (hn:Nat.blt d n=true) (h:TL P n W ops Q rest ((d,undef)::fr) L):TL P n W ops Q (o::rest) fr L:= .mk fun a w hrep hm=>
  wpList_skip (wanted_no hrep hg hj hl hu) (by rw[hd];exact h.go _ w (hrep.put hn undef) hm)
theorem TL_split {p:Prop} {inst:Decidable p} (hr:RR P n W o fr L (.bool (decide p))) (hg:o.guard=none) (hd:o.dst=some d) (hn:Nat.blt d n=true) (ht:p→TL P n W ops Q rest ((d,.bool true)::fr) L) (hf:¬ p→TL P n W ops Q rest ((d,.bool false)::fr) L):TL P n W ops Q (o::rest) fr L:=by
  by_cases h:p
  · exact TL_val (by rwa [decide_eq_true h] at hr) hg hd hn (ht h)
  · exact TL_val (by rwa [decide_eq_false h] at hr) hg hd hn (hf h)
theorem TL_gsplitv {p:Prop} {inst:Decidable p} {j e:Nat} {b:Bool} (hr:RR P n W o fr L (.bool (decide p))) (hg:o.guard=some (j,b)) (hj:(ops[j]?).bind (·.dst)=some e) (hl:look fr e=some (.bool b)) (hd:o.dst=some d) (hn:Nat.blt d n=true) (ht:p→TL P n W ops Q rest ((d,.bool true)::fr) L) (hf:¬ p→TL P n W ops Q rest ((d,.bool false)::fr) L):TL P n W ops Q (o::rest) fr L:=by
  by_cases h:p
  · exact TL_gval (by rwa [decide_eq_true h] at hr) hg hj hl hd hn (ht h)
  · exact TL_gval (by rwa [decide_eq_false h] at hr) hg hj hl hd hn (hf h)
theorem Rep.also {a:Act} {e:Nat} {v:Value} (h:Rep n a fr) (hl:look fr e=some v):Rep n a ((e,v)::fr):=⟨h.size,h.defers,fun i u hi=>by
    unfold look at hi
    cases c:Nat.beq e i
    · rw[c] at hi;exact h.get i u hi
    · rw[c] at hi
      obtain rfl:e=i:=Nat.eq_of_beq_eq_true c
      simp only[cond_true,Option.some.injEq] at hi
      subst hi;exact h.get e v hl⟩
theorem TL_gsplit {j e:Nat} {b0 b:Bool} (hg:o.guard=some (j,b0)) (hj:(ops[j]?).bind (·.dst)=some e) (hl:look fr e=some (.bool b)) (ht:b=true→TL P n W ops Q (o::rest) ((e,.bool true)::fr) L) (hf:b=false→TL P n W ops Q (o::rest) ((e,.bool false)::fr) L):TL P n W ops Q (o::rest) fr L:= .mk fun a w hr hm=>by
  cases b
  · exact (hf rfl).go a w (hr.also hl) hm
  · exact (ht rfl).go a w (hr.also hl) hm
theorem TL_isT {j e:Nat} {b0:Bool} (hg:o.guard=some (j,b0)) (hj:(ops[j]?).bind (·.dst)=some e) (hl:look fr e=some (.bool true)) (h:TL P n W ops Q (o::rest) fr L):TL P n W ops Q (o::rest) fr L:=h
theorem TL_isF {j e:Nat} {b0:Bool} (hg:o.guard=some (j,b0)) (hj:(ops[j]?).bind (·.dst)=some e) (hl:look fr e=some (.bool false)) (h:TL P n W ops Q (o::rest) fr L):TL P n W ops Q (o::rest) fr L:=h
theorem T_condS {c:Tmp} {x y:Code} {b:Bool} (hl:look fr c=some (.bool b)) (ht:b=true→T P n W x Q ((c,.bool true)::fr) L) (hf:b=false→T P n W y Q ((c,.bool false)::fr) L):T P n W (.cond (.tmp c) x y) Q fr L:= .mk fun a w hr hm=>by
  cases b
  · exact wp_cond_false (hr.ev (x:= .tmp c) hl) ((hf rfl).go a w (hr.also hl) hm)
  · exact wp_cond_true (hr.ev (x:= .tmp c) hl) ((ht rfl).go a w (hr.also hl) hm)
theorem TL_call {f:FuncId} {args:Array Value} {ι:Type} {S:Spec ι} (he:∀ a w,Rep n a fr→(execOp a.eval o).run P w = .ok (.enter f args) w) (hc:∀ w,Mem W L w→Calls P f args w (Meets S w)) (hg:o.guard=none) (hd:o.dst=some d) (hn:Nat.blt d n=true)
    (h:∀ x,S.ok x→TL P n W ops Q rest ((d,S.val x)::fr) (L++S.own x)):TL P n W ops Q (o::rest) fr L:= .mk fun a w hrep hm=>
  wpList_plain hg fun K hK=>by
    unfold Oper.wp;rw[he a w hrep,Oper.upon_enter]
    refine (hc w hm).mono fun e w' ⟨x,h1,h2,h3,h4⟩ => ?_
    subst h2
    simp only[hd]
    exact hK _ _ ((h x h1).go _ w' (hrep.put hn _) (hm.append h3 h4))
theorem TL_gcall {f:FuncId} {args:Array Value} {ι:Type} {S:Spec ι} {j e:Nat} {b:Bool} (he:∀ a w,Rep n a fr→(execOp a.eval o).run P w = .ok (.enter f args) w) (hc:∀ w,Mem W L w→Calls P f args w (Meets S w)) (hg:o.guard=some (j,b)) (hj:(ops[j]?).bind (·.dst)=some e) (hl:look fr e=some (.bool b)) (hd:o.dst=some d) (hn:Nat.blt d n=true)
    (h:∀ x,S.ok x→TL P n W ops Q rest ((d,S.val x)::fr) (L++S.own x)):TL P n W ops Q (o::rest) fr L:= .mk fun a w hrep hm=>
  BigFrame.wpList_want (wanted_yes hrep hg hj hl) fun K hK=>by
    unfold Oper.wp;rw[he a w hrep,Oper.upon_enter]
    refine (hc w hm).mono fun e w' ⟨x,h1,h2,h3,h4⟩ => ?_
    subst h2
    simp only[hd]
    exact hK _ _ ((h x h1).go _ w' (hrep.put hn _) (hm.append h3 h4))
def MeetsB {ι:Type} (S:Spec ι) (B:Base) (e:Ending) (w':World):Prop:=∃ x,S.ok x∧e = .returned (S.val x)∧Mem B (S.own x) w'
theorem Mem.meetsB {ι:Type} {S:Spec ι} {w:World} (x:ι) (hm:Mem W L w) (hx:S.ok x) (is:List Nat) (hn:is.Nodup) (hl:S.own x=is.filterMap fun i=>L[i]?):MeetsB S W (.returned (S.val x)) w:=
  ⟨x,hx,rfl,hm.pick is hn hl⟩
theorem split_pick {is js:List Nat} {Lx R:List Own} (hlx:Lx=is.filterMap fun i=>L[i]?) (hlr:R=js.filterMap fun i=>L[i]?):Lx++R=(is++js).filterMap fun i=>L[i]?:=by
  rw[List.filterMap_append,←hlx,←hlr]
theorem TL_callB {f:FuncId} {args:Array Value} {ι:Type} {S:Spec ι} (is js:List Nat) {Lx R:List Own} (hn2:(is++js).Nodup) (hlx:Lx=is.filterMap fun i=>L[i]?) (hlr:R=js.filterMap fun i=>L[i]?)
    (he:∀ a w,Rep n a fr→(execOp a.eval o).run P w = .ok (.enter f args) w) (hc:∀ w,Mem W L w→Mem (Base.on w Lx) Lx w→Calls P f args w (MeetsB S (Base.on w Lx))) (hg:o.guard=none) (hd:o.dst=some d) (hn:Nat.blt d n=true)
    (h:∀ x,S.ok x→TL P n W ops Q rest ((d,S.val x)::fr) (R++S.own x)):TL P n W ops Q (o::rest) fr L:= .mk fun a w hrep hm=>
  wpList_plain hg fun K hK=>by
    have hm2:Mem W (Lx++R) w:=hm.pick (is++js) hn2 (split_pick hlx hlr)
    have hm3:Mem W Lx w:=hm.pick is (List.nodup_append.1 hn2).1 hlx
    unfold Oper.wp;rw[he a w hrep,Oper.upon_enter]
    refine (hc w hm hm3.over).mono fun e w' ⟨x,h1,h2,h3⟩ => ?_
    subst h2
    simp only[hd]
    exact hK _ _ ((h x h1).go _ w' (hrep.put hn _) (hm2.back h3))
theorem TL_any (hg:o.guard=none) (h:∀ a w,Rep n a fr→Mem W L w→∀ K:Act→World→Prop,(∀ a w,wpList P ops Q rest a w→K a w)→o.wp P a w K Q):TL P n W ops Q (o::rest) fr L:= .mk fun a w hrep hm=>
  wpList_plain hg fun K hK=>h a w hrep hm K hK
theorem T_draw {id:Nat} {l:List Oper} (k:Nat) (ks:List Bool) (hk:ks.length=k) (hm:P.follows .mixedOrders=true) (hB:lexM .any l.toArray ks=true)
    (hQ:∀ c a d v w,Q (.panic c) (Act.put a d v) w→Q (.panic c) a w)
    (h:TM P n W l.toArray Q (fun a' w'=>wpList P l.toArray Q (l.drop k) a' w') ks (l.take k) fr L):T P n W (.region id l.toArray true) Q fr L:= .mk fun a w hr hmm=>
  mix.mix k ks hk hm hB (fun c a d v w=>hQ c a d v w) (Mem W L) (closed_mem W L) hmm.drew (h.go a hr)
theorem TM_end {l:List Oper} (h:TL P n W ops Q l fr L):TM P n W ops Q (fun a' w'=>wpList P ops Q l a' w') [] [] fr L:= .mk fun a hr=>wpM_end fun w hw=>h.go a w hr hw
theorem TM_val (hr:RR P n W o fr L v) (hg:o.guard=none) (hd:o.dst=some d) (hn:Nat.blt d n=true) (h:TM P n W ops Q K ks rest ((d,v)::fr) L):TM P n W ops Q K (true::ks) (o::rest) fr L:= .mk fun a hrep=>
  wpM_val (wanted_none hg) (fun w hS=>hr.go a w hrep hS) (by rw[hd];exact h.go _ (hrep.put hn v))
theorem TL_metg {q e:Nat} {b:Bool} (hg:o.guard=some (q,b)) (hj:(ops[q]?).bind (·.dst)=some e) (hl:look fr e=some (.bool b)) (h:TL P n W ops Q ({ o with guard:=none }::rest) fr L):TL P n W ops Q (o::rest) fr L:= .mk fun a w hr hm=>by
  have h1:=h.go a w hr hm
  unfold wpList at h1 ⊢
  rw[if_pos (wanted_none rfl)] at h1
  rw[if_pos (wanted_yes hr hg hj hl)]
  exact h1
theorem TM_valg (hg:o.guard=none) (hr:RR P n W o fr L v) (hd:o.dst=some d) (hn:Nat.blt d n=true) (h:TM P n W ops Q K ks rest ((d,v)::fr) L):TM P n W ops Q K (true::ks) (o::rest) fr L:=TM_val hr hg hd hn h
end
end
end Go.Proofs.Ytldiodhdefnlaaa.eng

/- Ops -/
namespace Go.Proofs.Ytldiodhdefnlaaa.eng
open Go.RowKit kit mix
def str (l:List UInt8):Value:= .string ⟨l.toArray⟩
theorem str_of (s:ByteArray):Value.string s=str s.data.toList:=by unfold str;congr
structure Ty (P:Program) (t:TypeId) (agg:Bool) (c:Nat):Prop where
  agg:∀ w,(isAgg t).run P w = .ok agg w
  size:∀ w,(sizeOf t).run P w = .ok c w
def tyB (P:Program) (t:TypeId) (agg:Bool) (c:Nat):Bool:=
  (match P.underlying t with | some (.struct _)=>agg | some (.array _ _)=>agg | some _=>!agg | none=>false) && (match P.info? t with | some i=>Nat.beq i.size c | none=>false)
theorem Ty.of {P:Program} {t:TypeId} {agg:Bool} {c:Nat} (h:tyB P t agg c=true):Ty P t agg c:=by
  unfold tyB at h
  rw[Bool.and_eq_true] at h
  obtain⟨h1,h2⟩:=h
  refine⟨fun w => ?_,fun w => ?_⟩
  · cases e:P.underlying t with
    | none=>rw[e] at h1;cases h1
    | some d=>
      rw[e] at h1
      cases agg <;> cases d <;> first | (cases h1;done) | simp[isAgg,run_underlying e]
  · cases e:P.info? t with
    | none=>rw[e] at h2;cases h2
    | some i=>
      rw[e] at h2
      obtain rfl:i.size=c:=Nat.eq_of_beq_eq_true h2
      simp[sizeOf,typeInfo,e]
section
variable {P:Program} {n:Nat} {W:Base} {fr:Fr} {L:List Own} {dst:Option Tmp} {ty:TypeId} {pos:String} {after:Array Edge} {guard:Option (Nat×Bool)}
theorem rr_move {x:Operand} {v:Value} (hx:ev fr x=some v):RR P n W ⟨dst,.move x,ty,pos,after,guard⟩ fr L v:= .mk fun a w hr _=>by
  show Result.ok (Next.value (a.eval x)) w=_;rw[hr.ev hx]
theorem rr_assign {x:Operand} {v:Value} (hx:ev fr x=some v):RR P n W ⟨dst,.assign x,ty,pos,after,guard⟩ fr L v:= .mk fun a w hr _=>by
  show Result.ok (Next.value (a.eval x)) w=_;rw[hr.ev hx]
theorem rr_pickT {c x y:Operand} {v:Value} (hc:ev fr c=some (.bool true)) (hx:ev fr x=some v):RR P n W ⟨dst,.pick c x y,ty,pos,after,guard⟩ fr L v:= .mk fun a w hr _=>by
  simp[execOp,hr.ev hc,hr.ev hx,asBool]
theorem rr_pickF {c x y:Operand} {v:Value} (hc:ev fr c=some (.bool false)) (hy:ev fr y=some v):RR P n W ⟨dst,.pick c x y,ty,pos,after,guard⟩ fr L v:= .mk fun a w hr _=>by
  simp[execOp,hr.ev hc,hr.ev hy,asBool]
theorem rr_extract {t:Operand} {i:Nat} {vs:Array Value} {v:Value} (ht:ev fr t=some (.tuple vs)) (hv:vs[i]?=some v):RR P n W ⟨dst,.extract t i,ty,pos,after,guard⟩ fr L v:= .mk fun a w hr _=>by
  simp[execOp,hr.ev ht,Instr.extract,hv]
section
variable {t u:TypeId} {x y:Operand} {k:IntKind} {m m':Int}
theorem rr_int {op:BinOp} {v:Value} (hx:ev fr x=some (.int k m)) (hy:ev fr y=some (.int k m')) (h:∀ w,(binOp op t (.int k m) (.int k m')).run P w = .ok v w):RR P n W ⟨dst,.binOp op t x y u,ty,pos,after,guard⟩ fr L v:= .mk fun a w hr _=>by
  have e:(eqGuard op t x y (.int k m) (.int k m')).run P w = .ok () w:=by
    unfold eqGuard;cases op <;> rfl
  simp[execOp,hr.ev hx,hr.ev hy,e,h]
theorem rr_add (hx:ev fr x=some (.int k m)) (hy:ev fr y=some (.int k m')):RR P n W ⟨dst,.binOp .add t x y u,ty,pos,after,guard⟩ fr L (.int k (k.wrap (m+m'))):=rr_int hx hy fun w=>by simp[binOp,Op.intArith]
theorem rr_sub (hx:ev fr x=some (.int k m)) (hy:ev fr y=some (.int k m')):RR P n W ⟨dst,.binOp .sub t x y u,ty,pos,after,guard⟩ fr L (.int k (k.wrap (m - m'))):=rr_int hx hy fun w=>by simp[binOp,Op.intArith]
theorem rr_mul (hx:ev fr x=some (.int k m)) (hy:ev fr y=some (.int k m')):RR P n W ⟨dst,.binOp .mul t x y u,ty,pos,after,guard⟩ fr L (.int k (k.wrap (m*m'))):=rr_int hx hy fun w=>by simp[binOp,Op.intArith]
theorem wrap_in {r:Int} (h0 : -9223372036854775808≤r) (h1:r≤9223372036854775807):IntKind.i64.wrap r=r:=IntWalk.i64_in _ (by omega)
theorem rr_add64 {r:Int} (hx:ev fr x=some (.int .i64 m)) (hy:ev fr y=some (.int .i64 m')) (h0 : -9223372036854775808≤m+m') (h1:m+m'≤9223372036854775807) (hr:m+m'=r):RR P n W ⟨dst,.binOp .add t x y u,ty,pos,after,guard⟩ fr L (.int .i64 r):=by
  have:=rr_add (P:=P) (n:=n) (W:=W) (L:=L) (dst:=dst) (ty:=ty) (pos:=pos) (after:=after) (guard:=guard) (t:=t) (u:=u) hx hy;rwa [wrap_in h0 h1,hr] at this
theorem rr_sub64 {r:Int} (hx:ev fr x=some (.int .i64 m)) (hy:ev fr y=some (.int .i64 m')) (h0 : -9223372036854775808≤m - m') (h1:m - m'≤9223372036854775807) (hr:m - m'=r):RR P n W ⟨dst,.binOp .sub t x y u,ty,pos,after,guard⟩ fr L (.int .i64 r):=by
  have:=rr_sub (P:=P) (n:=n) (W:=W) (L:=L) (dst:=dst) (ty:=ty) (pos:=pos) (after:=after) (guard:=guard) (t:=t) (u:=u) hx hy;rwa [wrap_in h0 h1,hr] at this
theorem rr_mul64 {r:Int} (hx:ev fr x=some (.int .i64 m)) (hy:ev fr y=some (.int .i64 m')) (h0 : -9223372036854775808≤m*m') (h1:m*m'≤9223372036854775807) (hr:m*m'=r):RR P n W ⟨dst,.binOp .mul t x y u,ty,pos,after,guard⟩ fr L (.int .i64 r):=by
  have:=rr_mul (P:=P) (n:=n) (W:=W) (L:=L) (dst:=dst) (ty:=ty) (pos:=pos) (after:=after) (guard:=guard) (t:=t) (u:=u) hx hy;rwa [wrap_in h0 h1,hr] at this
theorem rr_lss {b:Bool} (hx:ev fr x=some (.int k m)) (hy:ev fr y=some (.int k m')) (h:decide (m<m')=b):RR P n W ⟨dst,.binOp .lss t x y u,ty,pos,after,guard⟩ fr L (.bool b):=rr_int hx hy fun w=>by simp[binOp,Op.intCmp,←h]
theorem rr_leq {b:Bool} (hx:ev fr x=some (.int k m)) (hy:ev fr y=some (.int k m')) (h:decide (m≤m')=b):RR P n W ⟨dst,.binOp .leq t x y u,ty,pos,after,guard⟩ fr L (.bool b):=rr_int hx hy fun w=>by simp[binOp,Op.intCmp,←h]
theorem rr_gtr {b:Bool} (hx:ev fr x=some (.int k m)) (hy:ev fr y=some (.int k m')) (h:decide (m'<m)=b):RR P n W ⟨dst,.binOp .gtr t x y u,ty,pos,after,guard⟩ fr L (.bool b):=rr_int hx hy fun w=>by simp[binOp,Op.intCmp,←h]
theorem rr_geq {b:Bool} (hx:ev fr x=some (.int k m)) (hy:ev fr y=some (.int k m')) (h:decide (m'≤m)=b):RR P n W ⟨dst,.binOp .geq t x y u,ty,pos,after,guard⟩ fr L (.bool b):=rr_int hx hy fun w=>by simp[binOp,Op.intCmp,←h]
theorem rr_eql {b:Bool} (hx:ev fr x=some (.int k m)) (hy:ev fr y=some (.int k m')) (h:decide (m=m')=b):RR P n W ⟨dst,.binOp .eql t x y u,ty,pos,after,guard⟩ fr L (.bool b):=rr_int hx hy fun w=>by
  have:(m == m')=b:=by rw[←h];exact Bool.beq_eq_decide_eq m m'
  simp[binOp,Op.intCmp,this]
theorem rr_neq {b:Bool} (hx:ev fr x=some (.int k m)) (hy:ev fr y=some (.int k m')) (h:decide (m≠m')=b):RR P n W ⟨dst,.binOp .neq t x y u,ty,pos,after,guard⟩ fr L (.bool b):=rr_int hx hy fun w=>by
  have:(m != m')=b:=by rw[←h,bne,Bool.beq_eq_decide_eq];simp
  simp[binOp,Op.intCmp,this]
theorem rr_bits {op:BinOp} {r:Int} (hop:op = .and∨op = .or∨op = .xor∨op = .andNot) (hx:ev fr x=some (.int k m)) (hy:ev fr y=some (.int k m')) (h:bits op k m m'=r):RR P n W ⟨dst,.binOp op t x y u,ty,pos,after,guard⟩ fr L (.int k r):=rr_int hx hy fun w=>by
  subst h;rcases hop with rfl | rfl | rfl | rfl <;> simp[binOp,Op.intBits,bits]
theorem rr_shift {op:BinOp} {k':IntKind} {v:Value} (hop:op = .shl∨op = .shr) (hx:ev fr x=some (.int k m)) (hy:ev fr y=some (.int k' m')) (h:∀ w,(Op.shift op k m k' m').run P w = .ok v w):RR P n W ⟨dst,.binOp op t x y u,ty,pos,after,guard⟩ fr L v:= .mk fun a w hr _=>by
  have e:(eqGuard op t x y (.int k m) (.int k' m')).run P w = .ok () w:=by unfold eqGuard;rcases hop with rfl | rfl <;> rfl
  rcases hop with rfl | rfl <;> simp[execOp,hr.ev hx,hr.ev hy,e,binOp,h]
theorem rr_and {r:Int} (hx:ev fr x=some (.int k m)) (hy:ev fr y=some (.int k m')) (h:bits .and k m m'=r):RR P n W ⟨dst,.binOp .and t x y u,ty,pos,after,guard⟩ fr L (.int k r):=rr_bits (.inl rfl) hx hy h
theorem rr_or {r:Int} (hx:ev fr x=some (.int k m)) (hy:ev fr y=some (.int k m')) (h:bits .or k m m'=r):RR P n W ⟨dst,.binOp .or t x y u,ty,pos,after,guard⟩ fr L (.int k r):=rr_bits (.inr (.inl rfl)) hx hy h
theorem rr_shl {k':IntKind} {v:Value} (hx:ev fr x=some (.int k m)) (hy:ev fr y=some (.int k' m')) (h:∀ w,(Op.shift .shl k m k' m').run P w = .ok v w):RR P n W ⟨dst,.binOp .shl t x y u,ty,pos,after,guard⟩ fr L v:=rr_shift (.inl rfl) hx hy h
theorem rr_shr {k':IntKind} {v:Value} (hx:ev fr x=some (.int k m)) (hy:ev fr y=some (.int k' m')) (h:∀ w,(Op.shift .shr k m k' m').run P w = .ok v w):RR P n W ⟨dst,.binOp .shr t x y u,ty,pos,after,guard⟩ fr L v:=rr_shift (.inr rfl) hx hy h
theorem rr_conv {k':IntKind} {r:Int} (hs:P.underlying t=some (.int k')) (hd:P.underlying u=some (.int k)) (hx:ev fr x=some (.int k' m)) (h:k.wrap m=r):RR P n W ⟨dst,.convert t u x,ty,pos,after,guard⟩ fr L (.int k r):= .mk fun a w hr _=>by
  simp[execOp,hr.ev hx,convert,run_underlying hs,run_underlying hd,Conv.intToInt,h]
end
theorem rr_not {t:TypeId} {x:Operand} {b c:Bool} (hx:ev fr x=some (.bool b)) (h:(!b)=c):RR P n W ⟨dst,.unOp .not t x,ty,pos,after,guard⟩ fr L (.bool c):= .mk fun a w hr _=>by
  subst h;simp[execOp,hr.ev hx,Op.unary]
theorem rr_min {t u:TypeId} {x y:Operand} {m m' r:Int} (hx:ev fr x=some (.int .i64 m)) (hy:ev fr y=some (.int .i64 m')) (h:min m m'=r):RR P n W ⟨dst,.call { callee:= .builtin .min,args:=#[x,y],argTypes:=#[t,u] },ty,pos,after,guard⟩ fr L (.int .i64 r):= .mk fun a w hr _=>by
  subst h
  have h1:=hr.ev hx
  have h2:=hr.ev hy
  have e:(if m'<m then m' else m)=min m m':=by split <;> omega
  simp[BigFrame.execOp_builtin,BigFrame.builtin_min,h1,h2,Builtin.min_,Builtin.min2,e]
theorem rr_max {t u:TypeId} {x y:Operand} {m m' r:Int} (hx:ev fr x=some (.int .i64 m)) (hy:ev fr y=some (.int .i64 m')) (h:max m m'=r):RR P n W ⟨dst,.call { callee:= .builtin .max,args:=#[x,y],argTypes:=#[t,u] },ty,pos,after,guard⟩ fr L (.int .i64 r):= .mk fun a w hr _=>by
  subst h
  have h1:=hr.ev hx
  have h2:=hr.ev hy
  have e:(if m' > m then m' else m)=max m m':=by split <;> omega
  have e2:(if m<m' then m' else m)=max m m':=e
  simp[BigFrame.execOp_builtin,BigFrame.builtin_max,h1,h2,Builtin.max_,Builtin.max2,e2]
theorem run_eqBool {t:TypeId} {a b:Bool} (ht:P.underlying t=some .bool) (d:Nat) (w:World):(Op.equalIn (d+1) t (.bool a) (.bool b)).run P w = .ok (a == b) w:=by simp[Op.equalIn,run_underlying ht]
theorem rr_booleq {t u:TypeId} {x y:Operand} {a b c:Bool} (ht:P.underlying t=some .bool) (hx:ev fr x=some (.bool a)) (hy:ev fr y=some (.bool b)) (h:(a == b)=c):RR P n W ⟨dst,.binOp .eql t x y u,ty,pos,after,guard⟩ fr L (.bool c):= .mk fun ac w hr _=>by
  have e:(eqGuard .eql t x y (.bool a) (.bool b)).run P w = .ok () w:=rfl
  have e2:(binOp .eql t (.bool a) (.bool b)).run P w = .ok (.bool c) w:=by
    show ((Op.equal t (.bool a) (.bool b)) >>= fun r=>pure (Value.bool r)).run P w=_
    have:(Op.equal t (.bool a) (.bool b)).run P w = .ok (a == b) w:=run_eqBool ht 9999 w
    rw[Sem.run_bind,this,h];rfl
  simp[execOp,hr.ev hx,hr.ev hy,e,e2]
theorem rr_boolne {t u:TypeId} {x y:Operand} {a b c:Bool} (ht:P.underlying t=some .bool) (hx:ev fr x=some (.bool a)) (hy:ev fr y=some (.bool b)) (h:(!(a == b))=c):RR P n W ⟨dst,.binOp .neq t x y u,ty,pos,after,guard⟩ fr L (.bool c):= .mk fun ac w hr _=>by
  have e:(eqGuard .neq t x y (.bool a) (.bool b)).run P w = .ok () w:=rfl
  have e2:(binOp .neq t (.bool a) (.bool b)).run P w = .ok (.bool c) w:=by
    show ((Op.equal t (.bool a) (.bool b)) >>= fun r=>pure (Value.bool (!r))).run P w=_
    have:(Op.equal t (.bool a) (.bool b)).run P w = .ok (a == b) w:=run_eqBool ht 9999 w
    rw[Sem.run_bind,this]
    show Result.ok (Value.bool (!(a == b))) w=_
    rw[h]
  simp[execOp,hr.ev hx,hr.ev hy,e,e2]
section
variable {t u:TypeId} {x y:Operand} {l l':List UInt8}
theorem rr_strlen (ht:P.underlying t=some .string) (hx:ev fr x=some (str l)):RR P n W ⟨dst,.call { callee:= .builtin .len,args:=#[x],argTypes:=#[t] },ty,pos,after,guard⟩ fr L (.int .i64 l.length):= .mk fun a w hr _=>by
  have hx':=hr.ev hx
  unfold str at hx'
  have hsz:(ByteArray.mk l.toArray).size=l.length:=List.size_toArray
  simp[BigFrame.execOp_builtin,BigFrame.builtin_len,Builtin.len_,hx',run_underlying ht,goInt,hsz]
theorem str_toList (l:List UInt8):(ByteArray.mk l.toArray).toList=l:=by
  have h:∀ (m:List UInt8) (i:Nat) (r:List UInt8),i+m.length=l.length→l.drop i=m→ByteArray.toList.loop ⟨l.toArray⟩ i r=r.reverse++m:=by
    intro m
    induction m with
    | nil=>
      intro i r hi _
      unfold ByteArray.toList.loop
      rw[if_neg (by simp[ByteArray.size] at *;omega)];simp
    | cons b m ih=>
      intro i r hi hd
      unfold ByteArray.toList.loop
      have hlt:i<l.length:=by simp at hi;omega
      rw[if_pos (by simpa[ByteArray.size] using hlt)]
      rw[List.drop_eq_getElem_cons hlt] at hd
      injection hd with h1 h2
      rw[ih (i+1) _ (by simp at hi;omega) h2]
      have:(ByteArray.mk l.toArray).get! i=b:=by simp[ByteArray.get!,hlt,h1]
      rw[this];simp
  unfold ByteArray.toList
  rw[h l 0 [] (by simp) rfl];simp
theorem rr_streq {b:Bool} (hx:ev fr x=some (str l)) (hy:ev fr y=some (str l')) (h:decide (l=l')=b):RR P n W ⟨dst,.binOp .eql t x y u,ty,pos,after,guard⟩ fr L (.bool b):= .mk fun a w hr _=>by
  have e:(eqGuard .eql t x y (str l) (str l')).run P w = .ok () w:=rfl
  have e2:(l == l')=b:=by rw[←h];exact Bool.beq_eq_decide_eq l l'
  unfold str at *
  simp[execOp,hr.ev hx,hr.ev hy,e,binOp,Op.stringOp,str_toList,e2]
theorem rr_strne {b:Bool} (hx:ev fr x=some (str l)) (hy:ev fr y=some (str l')) (h:decide (l≠l')=b):RR P n W ⟨dst,.binOp .neq t x y u,ty,pos,after,guard⟩ fr L (.bool b):= .mk fun a w hr _=>by
  have e:(eqGuard .neq t x y (str l) (str l')).run P w = .ok () w:=rfl
  have e2:(!(l == l'))=b:=by rw[←h,Bool.beq_eq_decide_eq];simp
  unfold str at *
  simp[execOp,hr.ev hx,hr.ev hy,e,binOp,Op.stringOp,str_toList,e2]
theorem rr_stridx {i:Int} {b:UInt8} {k:IntKind} (ht:P.underlying t=some .string) (hx:ev fr x=some (str l)) (hy:ev fr y=some (.int k i)) (h0:0≤i) (h:l[i.toNat]?=some b):RR P n W ⟨dst,.index t x y,ty,pos,after,guard⟩ fr L (.int .u8 b.toNat):= .mk fun a w hr _=>by
  have hlt:=(List.getElem?_eq_some_iff.1 h).1
  have e:(if 0≤i then (ByteArray.mk l.toArray)[i.toNat]? else none)=some b:=by
    rw[if_pos h0]
    have hs:i.toNat<(ByteArray.mk l.toArray).size:=by simpa[ByteArray.size] using hlt
    rw[getElem?_pos (ByteArray.mk l.toArray) i.toNat hs]
    have:=(List.getElem?_eq_some_iff.1 h).2
    exact congrArg some (by rw[←this];rfl)
  unfold str at *
  simp only[execOp,hr.ev hx,hr.ev hy,Instr.index,asIntOf,Sem.run_bind,Sem.run_pure,Result.andThen_ok,run_underlying ht,e]
end
end
end Go.Proofs.Ytldiodhdefnlaaa.eng

/- Opm -/
namespace Go.Proofs.Ytldiodhdefnlaaa.eng
open Go.RowKit kit mix
section
variable {P:Program} {n:Nat} {W:Base} {fr:Fr} {L:List Own} {dst:Option Tmp} {ty:TypeId} {pos:String} {after:Array Edge} {guard:Option (Nat×Bool)}
def At (W:Base) (L:List Own) (p:Addr) (v:Value):Prop:=∀ w,Mem W L w→w.cell? p=some v
theorem at_old {W:World} {p:Addr} {v:Value} (h:W.cell? p=some v):At W L p v:=fun _ hm=>hm.cell h
theorem at_old0 {W0:World} {p:Addr} {v:Value} (ho:Old W0 W) (h:W0.cell? p=some v):At W L p v:=fun _ hm=>ho.cell hm h
theorem at_blk {i g off:Nat} {cs:Array Value} {T:TypeId} {v:Value} (hi:L[i]?=some (blkO g cs T)) (hv:cs[off]?=some v):At W L ⟨g,off,none⟩ v:=fun w hm=>by
  rw[cell_of_row w g off cs T (0,0) (hm.get hi)];exact hv
theorem at_row {i g off size cap m k:Nat} {e:TypeId} {xs:List Value} {v:Value} (hi:L[i]?=some (rowO e size (.slice (some ⟨g,0,none⟩) m cap) k xs)) (hv:xs[off]?=some v):At W L ⟨g,off,none⟩ v:=fun w hm=>by
  have h:w.ownsRow 0 e size (.slice (some ⟨g,0,none⟩) m cap) k xs:=hm.get hi
  have:=h.cells (g:=g) rfl off v hv
  rwa [addr_add,Nat.zero_add] at this
theorem at_rd {W:World} {b off j:Nat} {xs:List Value} {v:Value} (h:Rd W b off xs) (hv:xs[j]?=some v):At W L ⟨b,off+j,none⟩ v:=at_old (h j v hv)
theorem rr_load1 {t:TypeId} {x:Operand} {p:Addr} {c:Nat} {v:Value} (hT:Ty P t false c) (hx:ev fr x=some (.pointer (some p))) (h:At W L p v):RR P n W ⟨dst,.load t x,ty,pos,after,guard⟩ fr L v:= .mk fun a w hr hm=>by
  simp[execOp,hr.ev hx,Instr.loadAt,Instr.sureAddr,loadVar,hT.agg,h w hm]
theorem rr_loadN {t:TypeId} {x:Operand} {b off c:Nat} {cs:List Value} (hT:Ty P t true c) (hx:ev fr x=some (.pointer (some ⟨b,off,none⟩))) (hl:cs.length=c) (h:∀ j v,cs[j]?=some v→At W L ⟨b,off+j,none⟩ v):RR P n W ⟨dst,.load t x,ty,pos,after,guard⟩ fr L (.agg cs.toArray):= .mk fun a w hr hm=>by
  subst hl
  have:=run_loadCells_list (P:=P) w ⟨b,off,none⟩ cs fun j v hj=>by rw[addr_add];exact h j v hj w hm
  simp[execOp,hr.ev hx,Instr.loadAt,Instr.sureAddr,loadVar,hT.agg,hT.size,this]
theorem rr_loadB {t:TypeId} {x:Operand} {i g c:Nat} {cs:Array Value} {T:TypeId} (hT:Ty P t true c) (hx:ev fr x=some (.pointer (some ⟨g,0,none⟩))) (hi:L[i]?=some (blkO g cs T)) (hl:cs.size=c):RR P n W ⟨dst,.load t x,ty,pos,after,guard⟩ fr L (.agg cs):=by
  have:=rr_loadN (P:=P) (n:=n) (W:=W) (L:=L) (dst:=dst) (ty:=ty) (pos:=pos) (after:=after) (guard:=guard) (cs:=cs.toList) hT hx (by simpa using hl) fun j v hj=>by rw[Nat.zero_add];exact at_blk hi (by simpa using hj)
  simpa using this
theorem at_rdm {W:World} {α:Type} {f:α→Value} {b off j:Nat} {l:List α} (h:Rd W b off (l.map f)) (hj:j<l.length):At W L ⟨b,off+j,none⟩ (f l[j]):=at_rd h (by simp[hj])
structure Fld (P:Program) (s:TypeId) (f o:Nat):Prop where
  run:∀ (a:Addr) w,(Instr.fieldAt s (.pointer (some a)) f).run P w = .ok (.pointer (some (a.add o))) w
def fldB (P:Program) (s:TypeId) (f o:Nat):Bool:=
  match P.underlying s with
  | some (.struct fs)=>(match fs[f]? with | some d=>Nat.beq d.offset o && (match P.info? d.type with | some i=>!(Nat.beq i.size 0) | none=>false) | none=>false)
  | _=>false
theorem Fld.of {P:Program} {s:TypeId} {f o:Nat} (h:fldB P s f o=true):Fld P s f o:=by
  unfold fldB at h
  cases e:P.underlying s with
  | none=>rw[e] at h;cases h
  | some d=>
    rw[e] at h
    cases d <;> try (cases h;done)
    rename_i fs
    simp only at h
    cases e2:fs[f]? with
    | none=>rw[e2] at h;cases h
    | some d=>
      rw[e2] at h
      simp only[Bool.and_eq_true] at h
      obtain⟨h1,h2⟩:=h
      obtain rfl:=Nat.eq_of_beq_eq_true h1
      cases e3:P.info? d.type with
      | none=>rw[e3] at h2;cases h2
      | some i=>
        rw[e3] at h2
        simp only[Bool.not_eq_true'] at h2
        have:=Nat.ne_of_beq_eq_false h2
        exact⟨fun a w=>by simp[Instr.fieldAt,run_underlying e,e2,Instr.sureAddr,fieldPlace,sizeOf,typeInfo,e3,this]⟩
theorem rr_field {s:TypeId} {x:Operand} {f o b off r:Nat} (hf:Fld P s f o) (hx:ev fr x=some (.pointer (some ⟨b,off,none⟩))) (hr:off+o=r):RR P n W ⟨dst,.fieldAddr s x f,ty,pos,after,guard⟩ fr L (.pointer (some ⟨b,r,none⟩)):= .mk fun a w h _=>by
  subst hr
  simp[execOp,h.ev hx,hf.run,addr_add]
theorem rr_idx {t e:TypeId} {x y:Operand} {agg:Bool} {c b off len cap r:Nat} {k:IntKind} {i:Int} (ht:P.underlying t=some (.slice e)) (he:Ty P e agg c) (hx:ev fr x=some (.slice (some ⟨b,off,none⟩) len cap)) (hy:ev fr y=some (.int k i)) (h0:0≤i) (h1:i<len) (hr:off+i.toNat*c=r) :
    RR P n W ⟨dst,.indexAddr t x y,ty,pos,after,guard⟩ fr L (.pointer (some ⟨b,r,none⟩)):= .mk fun a w h _=>by
  subst hr
  simp[execOp,h.ev hx,h.ev hy,Instr.indexAt,asIntOf,run_underlying ht,he.size,h0,h1,addr_add]
theorem rr_idx1 {t e:TypeId} {x y:Operand} {agg:Bool} {b off len cap j:Nat} {k:IntKind} (ht:P.underlying t=some (.slice e)) (he:Ty P e agg 1) (hx:ev fr x=some (.slice (some ⟨b,off,none⟩) len cap)) (hy:ev fr y=some (.int k (j:Int))) (h1:j<len) :
    RR P n W ⟨dst,.indexAddr t x y,ty,pos,after,guard⟩ fr L (.pointer (some ⟨b,off+j,none⟩)):=rr_idx ht he hx hy (by omega) (by omega) (by simp)
theorem rr_idxc {t e:TypeId} {x y:Operand} {agg:Bool} {c b off len cap j:Nat} {k:IntKind} (ht:P.underlying t=some (.slice e)) (he:Ty P e agg c) (hx:ev fr x=some (.slice (some ⟨b,off,none⟩) len cap)) (hy:ev fr y=some (.int k (j:Int))) (h1:j<len) :
    RR P n W ⟨dst,.indexAddr t x y,ty,pos,after,guard⟩ fr L (.pointer (some ⟨b,off+j*c,none⟩)):=rr_idx ht he hx hy (by omega) (by omega) (by simp)
theorem rr_aidx {t e:TypeId} {x y:Operand} {agg:Bool} {c b off len r:Nat} {k:IntKind} {i:Int} (ht:P.underlying t=some (.array len e)) (he:Ty P e agg c) (hx:ev fr x=some (.pointer (some ⟨b,off,none⟩))) (hy:ev fr y=some (.int k i)) (h0:0≤i) (h1:i<len) (hr:off+i.toNat*c=r) :
    RR P n W ⟨dst,.indexAddr t x y,ty,pos,after,guard⟩ fr L (.pointer (some ⟨b,r,none⟩)):= .mk fun a w h _=>by
  subst hr
  simp[execOp,h.ev hx,h.ev hy,Instr.indexAt,asIntOf,run_underlying ht,he.size,h0,h1,addr_add,Instr.sureAddr]
theorem rr_aidx1 {t e:TypeId} {x y:Operand} {agg:Bool} {b off len j:Nat} {k:IntKind} (ht:P.underlying t=some (.array len e)) (he:Ty P e agg 1) (hx:ev fr x=some (.pointer (some ⟨b,off,none⟩))) (hy:ev fr y=some (.int k (j:Int))) (h1:j<len) :
    RR P n W ⟨dst,.indexAddr t x y,ty,pos,after,guard⟩ fr L (.pointer (some ⟨b,off+j,none⟩)):=rr_aidx ht he hx hy (by omega) (by omega) (by simp)
theorem rr_arridx {t e:TypeId} {x y:Operand} {len j:Nat} {k:IntKind} {cs:Array Value} {v:Value} (ht:P.underlying t=some (.array len e)) (he:Ty P e false 1) (hx:ev fr x=some (.agg cs)) (hy:ev fr y=some (.int k (j:Int))) (h1:j<len) (hv:cs[j]?=some v) :
    RR P n W ⟨dst,.index t x y,ty,pos,after,guard⟩ fr L v:= .mk fun a w h _=>by
  have h0:(0:Int)≤(j:Int)∧(j:Int)<(len:Int):=by omega
  simp[execOp,h.ev hx,h.ev hy,Instr.index,asIntOf,run_underlying ht,he.size,h1,part,he.agg,hv]
theorem rr_len {t e:TypeId} {x:Operand} {p:Option Addr} {m cap:Nat} (ht:P.underlying t=some (.slice e)) (hx:ev fr x=some (.slice p m cap)):RR P n W ⟨dst,.call { callee:= .builtin .len,args:=#[x],argTypes:=#[t] },ty,pos,after,guard⟩ fr L (.int .i64 m):= .mk fun a w hr _=>by
  have hx':=hr.ev hx
  simp[BigFrame.execOp_builtin,BigFrame.builtin_len,Builtin.len_,hx',run_underlying ht,goInt]
theorem rr_rowlen {t e e':TypeId} {x:Operand} {i size m:Nat} {v:Value} {xs:List Value} (ht:P.underlying t=some (.slice e)) (hi:L[i]?=some (rowO e' size v m xs)) (hx:ev fr x=some v):RR P n W ⟨dst,.call { callee:= .builtin .len,args:=#[x],argTypes:=#[t] },ty,pos,after,guard⟩ fr L (.int .i64 m):= .mk fun a w hr hm=>by
  have h:w.ownsRow 0 e' size v m xs:=hm.get hi
  rcases h.2 with ⟨rfl,rfl⟩ | ⟨g,cap,cur,rfl,_⟩
  · exact (rr_len (P:=P) (W:=W) (L:=L) ht hx).go a w hr hm
  · exact (rr_len (P:=P) (W:=W) (L:=L) ht hx).go a w hr hm
def SlL (W:Base) (L:List Own) (v:Value) (m:Nat) (xs:List Value):Prop:=∀ w,Mem W L w→Sl w v m xs
theorem sl_old {W:World} {v:Value} {m:Nat} {xs:List Value} (h:Sl W v m xs):SlL W L v m xs:=fun w hm=>by
  obtain⟨base,cap,h1,h2,h3,h4⟩:=h
  exact⟨base,cap,h1,h2,h3,fun hn=>let ⟨b,off,h5,h6⟩:=h4 hn;⟨b,off,h5,fun j u hj=>hm.cell (h6 j u hj)⟩⟩
theorem sl_row {i size m:Nat} {e:TypeId} {v:Value} {xs:List Value} (hi:L[i]?=some (rowO e size v m xs)):SlL W L v m xs:=fun _ hm=>Sl.of_own (hm.get hi)
section
variable {Q:Exit→Act→World→Prop} {ops:Array Oper} {rest:List Oper} {d:Nat}
theorem TL_box {t:TypeId} {x:Operand} {v:Value} {cs:Array Value} (hx:ev fr x=some v) (hv:v.cells=cs) (hn:Nat.blt d n=true) (h:∀ g,TL P n W ops Q rest ((d,.pointer (some ⟨g,0,none⟩))::fr) (L++[blkO g cs t])) :
    TL P n W ops Q (⟨some d,.box t x,ty,pos,after,none⟩::rest) fr L:=TL_any rfl fun a w hr hm K hK=>by
  subst hv
  have e:(execOp a.eval ⟨some d,.box t x,ty,pos,after,none⟩).run P w = .ok (.value (.pointer (some ⟨w.heap.size,0,none⟩))) (w.alloc (.cells v.cells t)):=by
    simp[execOp,hr.ev hx,Instr.box,newVar,newRow]
  unfold Oper.wp;rw[e]
  exact hK _ _ ((h w.heap.size).go _ _ (hr.put hn _) (hm.append (gr_alloc' w _) (Owns.one (heap_alloc_new w _) fun k hk=>by simp only[blkO,Option.some.injEq] at hk;omega)))
where
  gr_alloc' (w:World) (o:Obj):Gr w (w.alloc o):=(Below.refl _ _).alloc (Nat.le_refl _) _
theorem gr_alloc (w:World) (o:Obj):Gr w (w.alloc o):=(Below.refl _ _).alloc (Nat.le_refl _) _
theorem TL_alloc {t:TypeId} {i:TypeInfo} {z:Value} {cs:Array Value} (hi:P.info? t=some i) (hz:i.zero=some z) (hv:z.cells=cs) (hn:Nat.blt d n=true) (h:∀ g,TL P n W ops Q rest ((d,.pointer (some ⟨g,0,none⟩))::fr) (L++[blkO g cs t])) :
    TL P n W ops Q (⟨some d,.alloc t,ty,pos,after,none⟩::rest) fr L:=TL_any rfl fun a w hr hm K hK=>by
  subst hv
  have e:(execOp a.eval ⟨some d,.alloc t,ty,pos,after,none⟩).run P w = .ok (.value (.pointer (some ⟨w.heap.size,0,none⟩))) (w.alloc (.cells z.cells t)):=by
    simp[execOp,Instr.alloc,zeroValue,typeInfo,hi,hz,newVar,newRow]
  unfold Oper.wp;rw[e]
  exact hK _ _ ((h w.heap.size).go _ _ (hr.put hn _) (hm.append (gr_alloc w _) (Owns.one (heap_alloc_new w _) fun k hk=>by simp only[blkO,Option.some.injEq] at hk;omega)))
theorem TL_lit {t e:TypeId} {m:Nat} {parts:Array (Nat×Operand)} {cs:Array Value} (hrun:∀ a w,Rep n a fr→(Instr.buildSlice t m (parts.map fun (i,x)=>(i,a.eval x))).run P w = .ok (.slice (some ⟨w.heap.size,0,none⟩) m m) (w.alloc (.cells cs e))) (hn:Nat.blt d n=true)
    (h:∀ g,TL P n W ops Q rest ((d,.slice (some ⟨g,0,none⟩) m m)::fr) (L++[blkO g cs e])) :
    TL P n W ops Q (⟨some d,.buildSlice t m parts,ty,pos,after,none⟩::rest) fr L:=TL_any rfl fun a w hr hm K hK=>by
  have e':(execOp a.eval ⟨some d,.buildSlice t m parts,ty,pos,after,none⟩).run P w = .ok (.value (.slice (some ⟨w.heap.size,0,none⟩) m m)) (w.alloc (.cells cs e)):=by
    simp only[execOp,Sem.run_bind,hrun a w hr,Result.andThen_ok,Sem.run_pure]
  unfold Oper.wp;rw[e']
  exact hK _ _ ((h w.heap.size).go _ _ (hr.put hn _) (hm.append (gr_alloc w _) (Owns.one (heap_alloc_new w _) fun k hk=>by simp only[blkO,Option.some.injEq] at hk;omega)))
theorem run_lit1 {t e:TypeId} {i:TypeInfo} {z v:Value} {c:Nat} (ht:P.underlying t=some (.slice e)) (hi:P.info? e=some i) (hz:i.zero=some z) (hc:i.size=c) (hzc:z.cells.size=c) (hv:v.cells.size=c) (h0:0<c) (hs:c≤16777216) (w:World) :
    (Instr.buildSlice t 1 #[(0,v)]).run P w = .ok (.slice (some ⟨w.heap.size,0,none⟩) 1 1) (w.alloc (.cells v.cells e)):=by
  have hfill:Instr.fill (fun i=>some (i*c,c)) ((Array.range (1*c)).map (z.cells[· % z.cells.size]!)) [(0,v)]=some v.cells:=by
    simp only[Instr.fill,hv,Nat.zero_mul,Nat.zero_add,Array.size_map,Array.size_range,Nat.one_mul]
    rw[if_neg (by simp)]
    congr 1
    have key:∀ (l:List Value) (k:Nat) (acc:Array Value),k+l.length=acc.size→(l.zipIdx k).foldl (fun cs (x:Value×Nat)=>cs.setIfInBounds (0+x.2) x.1) acc=(acc.toList.take k++l).toArray:=by
      intro l
      induction l with
      | nil=>
        intro k acc h
        simp at h
        simp only[List.zipIdx_nil,List.foldl_nil,List.append_nil]
        rw[List.take_of_length_le (by simp;omega)]
      | cons x l ih=>
        intro k acc h
        simp only[List.length_cons] at h
        rw[List.zipIdx_cons,List.foldl_cons,ih (k+1) _ (by simp;omega)]
        simp only[Nat.zero_add,Array.toList_setIfInBounds]
        congr 1
        rw[List.take_succ_eq_append_getElem (by simp;omega)]
        simp[List.take_set]
        rw[List.set_eq_of_length_le (by simp;omega)]
    have:=key v.cells.toList 0 ((Array.range c).map (z.cells[· % z.cells.size]!)) (by simp[hv])
    simp only[List.take_zero,List.nil_append,Array.toArray_toList] at this
    rw[←Array.foldl_toList]
    simpa[Array.toList_zipIdx] using this
  have hne:¬ (1*c > 2 ^ 24):=by omega
  have hne2:¬ (1*c=0):=by omega
  simp only[Instr.buildSlice,Sem.run_bind,run_underlying ht,Result.andThen_ok,sizeOf,typeInfo,run_program,hi,Sem.run_pure,hc,zeroValue,hz,if_neg hne,if_neg hne2,hfill,newRow]
  simp[newRow,hfill]
theorem TL_lit1 {t e:TypeId} {x:Operand} {i:TypeInfo} {z v:Value} {c:Nat} {cs:Array Value} (ht:P.underlying t=some (.slice e)) (hi:P.info? e=some i) (hz:i.zero=some z) (hc:i.size=c) (hzc:z.cells.size=c) (hx:ev fr x=some v) (hcs:v.cells=cs) (hv:cs.size=c) (h0:0<c) (hs:c≤16777216) (hn:Nat.blt d n=true)
    (h:∀ g,TL P n W ops Q rest ((d,.slice (some ⟨g,0,none⟩) 1 1)::fr) (L++[blkO g cs e])):TL P n W ops Q (⟨some d,.buildSlice t 1 #[(0,x)],ty,pos,after,none⟩::rest) fr L:=by
  subst hcs
  exact TL_lit (fun a w hr=>by simpa[hr.ev hx] using run_lit1 ht hi hz hc hzc hv h0 hs w) hn h
theorem run_append_turn {t ty e:TypeId} {i:TypeInfo} {z:Value} {size bytes:Nat} (ht:P.underlying t=some (.slice e)) (hi:P.info? e=some i) (hz:i.zero=some z) (hsize:i.size=size) (hby:i.bytes=bytes) (hzs:z.cells.size=size) (hsz:0<size) (w:World)
    {v:Value} {m:Nat} {xs:List Value} (hown:w.ownsRow 0 e size v m xs) {a:Addr} {k c:Nat} {news:List Value} (hl:news.length=k*size) (hnews:∀ j u,news[j]?=some u→w.cell? (a.add j)=some u) (h1:∀ u∈news,u.oneCell'=true)
    (h63:m+k≤maxLen) (hbytes:(m+k)*bytes≤140737488355328) :
    ∃ v' w',(Builtin.append_ #[t,t] ty #[v,.slice (some a) k c]).run P w = .ok v' w'∧w'.ownsRow 0 e size v' (m+k) (xs++news)∧w.grownBy w' v.ownBlock∧(∀ q,v'.ownBlock=some q→v.ownBlock=some q∨w.heap.size≤q):=by
  obtain⟨v',w',hr,h2,h3,h4⟩:=run_append_own (P:=P) w 0 t ty e i z size bytes ht hi hz hsize hby hzs hsz v m xs hown a k c news hl hnews h1 h63 hbytes (Nat.zero_le _)
  refine⟨v',w',hr,h2,h3,fun q hq => ?_⟩
  have h63':((m+k:Nat):Int)≤9223372036854775807:=by simp only[maxLen] at h63;omega
  rcases hown.2 with ⟨rfl,rfl⟩ | ⟨g,cap,cur,rfl,hbg,hg,hnc,hcm,hcs,htake⟩
  · by_cases hk:k=0
    · rw[h4.2 ⟨rfl,hk⟩] at hq;cases hq
    · have hr2:=run_append_nil (P:=P) w t ty e i z ht hi hz a k c news (by rw[hsize];exact hl) hnews (by omega) (by omega) (by rw[hby];have hb:=hbytes;simp only[Nat.zero_add] at hb;omega)
      rw[hr] at hr2
      injection hr2 with e1 _
      subst e1
      simp only[Value.ownBlock,Option.some.injEq] at hq
      exact .inr (by omega)
  · by_cases hroom:m+k≤cap
    · have hfit:m*i.size+news.length≤cur.size:=by rw[hl,hcs,hsize,←Nat.add_mul];exact Nat.mul_le_mul_right _ hroom
      have hr2:=run_append_room (P:=P) w t ty e i ht hi g m cap cur hg a k c news (by rw[hsize];exact hl) hnews h1 hroom hfit
      rw[hr] at hr2
      injection hr2 with e1 _
      subst e1
      exact .inl hq
    · have holds:∀ j u,xs[j]?=some u→w.cell? ((⟨g,0,none⟩:Addr).add j)=some u:=hown.cells (g:=g) rfl
      have hr2:=run_append_grow (P:=P) w t ty e i z ht hi hz ⟨g,0,none⟩ m cap xs (by rw[hsize];exact hown.1) holds a k c news (by rw[hsize];exact hl) hnews (by omega) (by omega) (growslice_fits (by omega) (by rw[hby];exact hbytes))
      rw[hr] at hr2
      injection hr2 with e1 _
      subst e1
      simp only[Value.ownBlock,Option.some.injEq] at hq
      exact .inr (by omega)
structure El (P:Program) (t e:TypeId) (size bytes:Nat):Prop where
  ex:∃ i z,P.underlying t=some (.slice e)∧P.info? e=some i∧i.zero=some z∧i.size=size∧i.bytes=bytes∧z.cells.size=size∧0<size
def elB (P:Program) (t e:TypeId) (size bytes:Nat):Bool:=
  (match P.underlying t with | some (.slice e')=>Nat.beq e' e | _=>false) && (match P.info? e with | some i=>Nat.beq i.size size && Nat.beq i.bytes bytes && (match i.zero with | some z=>Nat.beq z.cells.size size | none=>false) | none=>false) && Nat.blt 0 size
theorem El.of {t e:TypeId} {size bytes:Nat} (h:elB P t e size bytes=true):El P t e size bytes:=by
  unfold elB at h
  simp only[Bool.and_eq_true] at h
  obtain⟨⟨h1,h2⟩,h3⟩:=h
  cases e1:P.underlying t with
  | none=>rw[e1] at h1;cases h1
  | some d=>
    rw[e1] at h1
    cases d <;> try (cases h1;done)
    rename_i e'
    obtain rfl:=Nat.eq_of_beq_eq_true h1
    cases e2:P.info? e' with
    | none=>rw[e2] at h2;cases h2
    | some i=>
      rw[e2] at h2
      simp only[Bool.and_eq_true] at h2
      obtain⟨⟨h4,h5⟩,h6⟩:=h2
      cases e3:i.zero with
      | none=>rw[e3] at h6;cases h6
      | some z=>
        rw[e3] at h6
        exact⟨i,z,e1,e2,e3,Nat.eq_of_beq_eq_true h4,Nat.eq_of_beq_eq_true h5,Nat.eq_of_beq_eq_true h6,Nat.le_of_ble_eq_true h3⟩
theorem TL_append {t e:TypeId} {s x:Operand} {i size bytes m k c:Nat} {v:Value} {xs ys:List Value} {a:Addr} (hel:El P t e size bytes) (hi:L[i]?=some (rowO e size v m xs)) (hs:ev fr s=some v) (hx:ev fr x=some (.slice (some a) k c))
    (hy:∀ j u,ys[j]?=some u→At W L (a.add j) u) (hl:ys.length=k*size) (h1:∀ u∈ys,u.oneCell'=true) (h63:m+k≤140737488355328) (hb:(m+k)*bytes≤140737488355328) (hn:Nat.blt d n=true)
    (h:∀ v',TL P n W ops Q rest ((d,v')::fr) (L.set i (rowO e size v' (m+k) (xs++ys)))) :
    TL P n W ops Q (⟨some d,.call { callee:= .builtin .append,args:=#[s,x],argTypes:=#[t,t] },ty,pos,after,none⟩::rest) fr L:=TL_any rfl fun act w hr hm K hK=>by
  obtain⟨inf,z,ht,hinf,hz,hsize,hby,hzs,hsz⟩:=hel.ex
  obtain⟨v',w',hrun,h2,h3,h4⟩:=run_append_turn (ty:=ty) (c:=c) ht hinf hz hsize hby hzs hsz w (hm.get hi:w.ownsRow 0 e size v m xs) hl (fun j u hj=>hy j u hj w hm) h1 (by unfold maxLen;omega) hb
  have e':(execOp act.eval ⟨some d,.call { callee:= .builtin .append,args:=#[s,x],argTypes:=#[t,t] },ty,pos,after,none⟩).run P w = .ok (.value v') w':=by
    simp only[BigFrame.execOp_builtin,BigFrame.builtin_append,List.map_toArray,List.map_cons,List.map_nil,hr.ev hs,hr.ev hx,Sem.run_bind,hrun,Result.andThen_ok,Sem.run_pure]
  unfold Oper.wp;rw[e']
  exact hK _ _ ((h v').go _ _ (hr.put hn _) (hm.turn hi h3 h2 h4))
theorem TL_append_at {t e:TypeId} {s x:Operand} {i size bytes m k c:Nat} {v:Value} {xs ys:List Value} {p:Addr} {act:Act} {w:World} (hel:El P t e size bytes) (hi:L[i]?=some (rowO e size v m xs)) (hs:ev fr s=some v) (hx:ev fr x=some (.slice (some p) k c))
    (hy:∀ j u,ys[j]?=some u→w.cell? (p.add j)=some u) (hl:ys.length=k*size) (h1:∀ u∈ys,u.oneCell'=true) (h63:m+k≤140737488355328) (hb:(m+k)*bytes≤140737488355328) (hn:Nat.blt d n=true)
    (h:∀ v',TL P n W ops Q rest ((d,v')::fr) (L.set i (rowO e size v' (m+k) (xs++ys)))) (hr:Rep n act fr) (hm:Mem W L w) :
    wpList P ops Q (⟨some d,.call { callee:= .builtin .append,args:=#[s,x],argTypes:=#[t,t] },ty,pos,after,none⟩::rest) act w:=by
  refine wpList_plain rfl fun K hK => ?_
  obtain⟨inf,z,ht,hinf,hz,hsize,hby,hzs,hsz⟩:=hel.ex
  obtain⟨v',w',hrun,h2,h3,h4⟩:=run_append_turn (ty:=ty) (c:=c) ht hinf hz hsize hby hzs hsz w (hm.get hi:w.ownsRow 0 e size v m xs) hl hy h1 (by unfold maxLen;omega) hb
  have e':(execOp act.eval ⟨some d,.call { callee:= .builtin .append,args:=#[s,x],argTypes:=#[t,t] },ty,pos,after,none⟩).run P w = .ok (.value v') w':=by
    simp only[BigFrame.execOp_builtin,BigFrame.builtin_append,List.map_toArray,List.map_cons,List.map_nil,hr.ev hs,hr.ev hx,Sem.run_bind,hrun,Result.andThen_ok,Sem.run_pure]
  unfold Oper.wp;rw[e']
  exact hK _ _ ((h v').go _ _ (hr.put hn _) (hm.turn hi h3 h2 h4))
theorem TL_append0 {t e:TypeId} {s x:Operand} {i size bytes m c:Nat} {v:Value} {xs:List Value} (hel:El P t e size bytes) (hi:L[i]?=some (rowO e size v m xs)) (hs:ev fr s=some v) (hx:ev fr x=some (.slice none 0 c)) (hn:Nat.blt d n=true)
    (h:TL P n W ops Q rest ((d,v)::fr) L) :
    TL P n W ops Q (⟨some d,.call { callee:= .builtin .append,args:=#[s,x],argTypes:=#[t,t] },ty,pos,after,none⟩::rest) fr L:=TL_any rfl fun act w hr hm K hK=>by
  obtain⟨inf,z,ht,hinf,hz,hsize,hby,hzs,hsz⟩:=hel.ex
  have hown:w.ownsRow 0 e size v m xs:=hm.get hi
  have e':(execOp act.eval ⟨some d,.call { callee:= .builtin .append,args:=#[s,x],argTypes:=#[t,t] },ty,pos,after,none⟩).run P w = .ok (.value v) w:=by
    rcases hown.2 with ⟨rfl,rfl⟩ | ⟨g,cap,cur,rfl,hbg,hg,hnc,hcm,hcs,htake⟩
    · simp[BigFrame.execOp_builtin,BigFrame.builtin_append,hr.ev hs,hr.ev hx,Builtin.append_,run_underlying ht,sizeOf,typeInfo,hinf,Builtin.lenOf,Builtin.firstCells,loadCells,loadCellsFrom]
    · simp[BigFrame.execOp_builtin,BigFrame.builtin_append,hr.ev hs,hr.ev hx,Builtin.append_,run_underlying ht,sizeOf,typeInfo,hinf,Builtin.lenOf,Builtin.firstCells,loadCells,loadCellsFrom,hnc,storeCells]
  unfold Oper.wp;rw[e']
  exact hK _ _ (h.go _ _ (hr.put hn _) hm)
theorem TL_store {t:TypeId} {p x:Operand} {i g off c:Nat} {cs cs':Array Value} {T:TypeId} {agg:Bool} {v:Value} (hT:Ty P t agg c) (hi:L[i]?=some (blkO g cs T)) (hp:ev fr p=some (.pointer (some ⟨g,off,none⟩))) (hx:ev fr x=some v) (hv:v.cells.size=c) (h1:v.cells.toList.all Value.oneCell'=true)
    (hfit:off+c≤cs.size) (hcs:cs'=(cs.toList.take off++v.cells.toList++cs.toList.drop (off+c)).toArray) (h:TL P n W ops Q rest fr (L.set i (blkO g cs' T))) :
    TL P n W ops Q (⟨none,.store t p x,ty,pos,after,none⟩::rest) fr L:=TL_any rfl fun act w hr hm K hK=>by
  have hg:w.heap[g]?=some (.cells cs T (0,0)):=hm.get hi
  have hst:=run_storeCells_at P g off T v.cells.toList 0 cs w hg (by simp[hv];omega) (List.all_eq_true.1 h1)
  simp only[Nat.add_zero,Array.length_toList,hv] at hst
  rw[←hcs] at hst
  have e':(execOp act.eval ⟨none,.store t p x,ty,pos,after,none⟩).run P w = .ok .skip (w.setRow g cs'):=by
    simp[execOp,hr.ev hp,hr.ev hx,Instr.storeAt,Instr.sureAddr,storeVar,hT.size,hv,hst]
  unfold Oper.wp;rw[e']
  exact hK _ _ (h.go _ _ (hr.put_none undef) (hm.turn hi ⟨rfl,rfl,rfl,by simp,fun k _ hk=>setRow_other w g k _ (fun e=>hk (by subst e;rfl))⟩ (setRow_heap w g cs _ T _ hg) fun k hk=> .inl hk))
theorem TL_storeRow {t:TypeId} {p x:Operand} {i g off c size cap m k:Nat} {xs:List Value} {e:TypeId} {v:Value} (hT:Ty P t false c) (hi:L[i]?=some (rowO e size (.slice (some ⟨g,0,none⟩) m cap) k xs)) (hp:ev fr p=some (.pointer (some ⟨g,off,none⟩))) (hx:ev fr x=some v) (hv:v.cells=#[v]) (hc:c=1) (h1:v.oneCell'=true)
    (hfit:off<xs.length) (h:TL P n W ops Q rest fr (L.set i (rowO e size (.slice (some ⟨g,0,none⟩) m cap) k (xs.set off v)))) :
    TL P n W ops Q (⟨none,.store t p x,ty,pos,after,none⟩::rest) fr L:=TL_any rfl fun act w hr hm K hK=>by
  subst hc
  have hown:w.ownsRow 0 e size (.slice (some ⟨g,0,none⟩) m cap) k xs:=hm.get hi
  have hown':=hown
  rcases hown.2 with ⟨h0,_⟩ | ⟨g',cap',cur,he,hbg,hg,hnc,hcm,hcs,htake⟩
  · cases h0
  simp only[Value.slice.injEq,Option.some.injEq,Addr.mk.injEq,and_true] at he
  obtain⟨rfl,rfl,rfl⟩:=he
  have hlen:xs.length=m*size:=hown.1
  have hoff:off<cur.size:=by rw[hcs];exact Nat.lt_of_lt_of_le (by omega) (Nat.mul_le_mul_right size hnc)
  have hst:=run_storeCells_at P g off e [v] 0 cur w hg (by simp;omega) (by simpa using h1)
  simp only[Nat.add_zero,List.length_singleton] at hst
  have hset:cur.toList.take off++[v]++cur.toList.drop (off+1)=cur.toList.set off v:=by
    rw[List.set_eq_take_append_cons_drop,if_pos (by simpa using hoff)];simp
  rw[hset] at hst
  have e':(execOp act.eval ⟨none,.store t p x,ty,pos,after,none⟩).run P w = .ok .skip (w.setRow g (cur.toList.set off v).toArray):=by
    simp[execOp,hr.ev hp,hr.ev hx,Instr.storeAt,Instr.sureAddr,storeVar,hT.size,hv,hst]
  unfold Oper.wp;rw[e']
  refine hK _ _ (h.go _ _ (hr.put_none undef) (hm.turn hi ⟨rfl,rfl,rfl,by simp,fun k _ hk=>setRow_other w g k _ (fun e=>hk (by subst e;rfl))⟩ ?_ fun k hk=> .inl hk))
  refine⟨by rw[List.length_set];exact hown.1,.inr ⟨g,cap,_,rfl,hbg,setRow_heap w g cur _ e _ hg,hnc,hcm,by simp[hcs],?_⟩⟩
  simp only[List.take_set]
  rw[htake]
theorem rr_string {t u e:TypeId} {x:Operand} {m:Nat} {v:Value} {l:List UInt8} (ht:P.underlying t=some (.slice e)) (he:P.underlying e=some (.int .u8)) (hu:P.underlying u=some .string) (hx:ev fr x=some v) (hm:m=l.length) (h:SlL W L v m (l.map u8v)):RR P n W ⟨dst,.convert t u x,ty,pos,after,guard⟩ fr L (str l):= .mk fun a w hr hmm=>by
  subst hm
  have hx':=hr.ev hx
  obtain⟨base,cap,rfl,_,_,hrd⟩:=h w hmm
  have e':(convert t u (.slice base l.length cap)).run P w = .ok (str l) w:=by
    cases l with
    | nil=>
      cases base with
      | none=>simp[convert,run_underlying ht,run_underlying hu,run_underlying he,Conv.bytesToString,str];rfl
      | some p=>simp[convert,run_underlying ht,run_underlying hu,run_underlying he,Conv.bytesToString,str,loadCells,loadCellsFrom];rfl
    | cons b l=>
      obtain⟨g,off,rfl,hh⟩:=hrd (by simp)
      exact conv_string ht he hu rfl hh
  simp only[execOp,hx',Sem.run_bind,e',Result.andThen_ok,Sem.run_pure]
end
def Enters (P:Program) (f:FuncId):Prop:=∀ args w,(callFunc f args).run P w = .ok (.enter f args) w
def entersB (P:Program) (f:FuncId):Bool:=match P.funcs[f]? with | some fn=>fn.body.isSome && !(fn.name == "runtime.NumGoroutine") | none=>false
theorem Enters.of {f:FuncId} (h:entersB P f=true):Enters P f:=by
  unfold entersB at h
  cases e:P.funcs[f]? with
  | none=>rw[e] at h;cases h
  | some fn=>
    rw[e] at h
    simp only[Bool.and_eq_true,Bool.not_eq_true'] at h
    intro args w
    have h1:¬ fn.body=none:=fun hb=>by rw[hb] at h;simp at h
    have h2:¬ fn.name = "runtime.NumGoroutine" := by simpa using h.2
    simp[callFunc,e,h2,h1]
section
variable {f:FuncId} {ts:Array TypeId} {cl x1 x2 x3 x4 x5:Operand} {v1 v2 v3 v4 v5:Value} {first cap:Array Value}
theorem he1 (hf:Enters P f) (hc:ev fr cl=some (.func (.func f) #[] #[])) (h1:ev fr x1=some v1):∀ a w,Rep n a fr→(execOp a.eval ⟨dst,.call { callee:= .value cl,args:=#[x1],argTypes:=ts },ty,pos,after,guard⟩).run P w = .ok (.enter f #[v1]) w:=fun a w hr=>by
  have hf':∀ args w,(callFunc f args).run P w = .ok (.enter f args) w:=hf
  simp[execOp,resolve,hr.ev hc,hr.ev h1,Deferred.ofValue,invoke,hf']
theorem he2 (hf:Enters P f) (hc:ev fr cl=some (.func (.func f) #[] #[])) (h1:ev fr x1=some v1) (h2:ev fr x2=some v2):∀ a w,Rep n a fr→(execOp a.eval ⟨dst,.call { callee:= .value cl,args:=#[x1,x2],argTypes:=ts },ty,pos,after,guard⟩).run P w = .ok (.enter f #[v1,v2]) w:=fun a w hr=>by
  have hf':∀ args w,(callFunc f args).run P w = .ok (.enter f args) w:=hf
  simp[execOp,resolve,hr.ev hc,hr.ev h1,hr.ev h2,Deferred.ofValue,invoke,hf']
theorem he3 (hf:Enters P f) (hc:ev fr cl=some (.func (.func f) #[] #[])) (h1:ev fr x1=some v1) (h2:ev fr x2=some v2) (h3:ev fr x3=some v3):∀ a w,Rep n a fr→(execOp a.eval ⟨dst,.call { callee:= .value cl,args:=#[x1,x2,x3],argTypes:=ts },ty,pos,after,guard⟩).run P w = .ok (.enter f #[v1,v2,v3]) w:=fun a w hr=>by
  have hf':∀ args w,(callFunc f args).run P w = .ok (.enter f args) w:=hf
  simp[execOp,resolve,hr.ev hc,hr.ev h1,hr.ev h2,hr.ev h3,Deferred.ofValue,invoke,hf']
theorem he1c (hf:Enters P f) (hc:ev fr cl=some (.func (.func f) first cap)) (h1:ev fr x1=some v1):∀ a w,Rep n a fr→(execOp a.eval ⟨dst,.call { callee:= .value cl,args:=#[x1],argTypes:=ts },ty,pos,after,guard⟩).run P w = .ok (.enter f (first++#[v1]++cap)) w:=fun a w hr=>by
  have hf':∀ args w,(callFunc f args).run P w = .ok (.enter f args) w:=hf
  simp[execOp,resolve,hr.ev hc,hr.ev h1,Deferred.ofValue,invoke,hf']
end
end
end Go.Proofs.Ytldiodhdefnlaaa.eng

/- Cls -/
namespace Go.Proofs.Ytldiodhdefnlaaa.eng
open Go.RowKit kit mix
class Und (P:Program) (t:TypeId) (d:outParam TypeDesc):Prop where
  eq:P.underlying t=some d
class TyC (P:Program) (t:TypeId) (agg:outParam Bool) (c:outParam Nat):Prop where
  ty:Ty P t agg c
class FldC (P:Program) (t:TypeId) (f:Nat) (o:outParam Nat):Prop where
  fld:Fld P t f o
class ElC (P:Program) (t:TypeId) (e:outParam TypeId) (size bytes:outParam Nat):Prop where
  el:El P t e size bytes
class EntersC (P:Program) (f:FuncId):Prop where
  en:Enters P f
class ZeroC (P:Program) (t:TypeId) (cs:outParam (Array Value)):Prop where
  zero:(P.info? t).map (fun i=>i.zero.map Value.cells)=some (some cs)
section
variable {P:Program} {n:Nat} {W:Base} {fr:Fr} {L:List Own} {Q:Exit→Act→World→Prop} {ops:Array Oper} {rest:List Oper} {d:Nat} {ty:TypeId} {pos:String} {after:Array Edge}
theorem ZeroC.ex {t:TypeId} {cs:Array Value} [h:ZeroC P t cs]:∃ i z,P.info? t=some i∧i.zero=some z∧z.cells=cs:=by
  have h1:=h.zero
  cases e:P.info? t with
  | none=>rw[e] at h1;simp at h1
  | some i=>
    rw[e] at h1
    cases e2:i.zero with
    | none=>simp[e2] at h1
    | some z=>simp[e2] at h1;exact⟨i,z,rfl,e2,h1⟩
theorem TL_new {t:TypeId} {cs:Array Value} [ZeroC P t cs] (hn:Nat.blt d n=true) (h:∀ g,TL P n W ops Q rest ((d,.pointer (some ⟨g,0,none⟩))::fr) (L++[blkO g cs t])) :
    TL P n W ops Q (⟨some d,.alloc t,ty,pos,after,none⟩::rest) fr L:=by
  obtain⟨i,z,h1,h2,h3⟩:=ZeroC.ex (P:=P) (t:=t)
  exact TL_alloc h1 h2 h3 hn h
theorem TL_one {t e:TypeId} {x:Operand} {v:Value} {c bytes:Nat} {cs:Array Value} [hel:ElC P t e c bytes] (hx:ev fr x=some v) (hcs:v.cells=cs) (hv:cs.size=c) (hs:Nat.ble c 16777216=true) (hn:Nat.blt d n=true)
    (h:∀ g,TL P n W ops Q rest ((d,.slice (some ⟨g,0,none⟩) 1 1)::fr) (L++[blkO g cs e])):TL P n W ops Q (⟨some d,.buildSlice t 1 #[(0,x)],ty,pos,after,none⟩::rest) fr L:=by
  obtain⟨inf,z,ht,hinf,hz,hsize,hby,hzs,hsz⟩:=hel.el.ex
  exact TL_lit1 ht hinf hz hsize hzs hx hcs hv hsz (Nat.le_of_ble_eq_true hs) hn h
theorem Mem.nilrow {w:World} (e:TypeId) (size:Nat) (h:Mem W L w):Mem W (L++[rowO e size (.slice none 0 0) 0 []]) w:=
  h.append (Gr.refl w) (Owns.one (World.ownsRow_nil _ _ _ _) fun k hk=>by cases hk)
theorem T_nil {c:Code} (e:TypeId) (size:Nat) (h:T P n W c Q fr (L++[rowO e size (.slice none 0 0) 0 []])):T P n W c Q fr L:=⟨fun a w hr hm=>h.go a w hr (hm.nilrow e size)⟩
theorem TL_nilrow (e:TypeId) (size:Nat) (h:TL P n W ops Q rest fr (L++[rowO e size (.slice none 0 0) 0 []])):TL P n W ops Q rest fr L:=⟨fun a w hr hm=>h.go a w hr (hm.nilrow e size)⟩
theorem TL_pick {L':List Own} (is:List Nat) (hn:is.Nodup) (hl:L'=is.filterMap fun i=>L[i]?) (h:TL P n W ops Q rest fr L'):TL P n W ops Q rest fr L:=⟨fun a w hr hm=>h.go a w hr (hm.pick is hn hl)⟩
theorem TL_app1 {t e:TypeId} {s x:Operand} {i q g size bytes m:Nat} {v:Value} {xs:List Value} {cs:Array Value} {T:TypeId} [hel:ElC P t e size bytes] (hi:L[i]?=some (rowO e size v m xs)) (hq:L[q]?=some (blkO g cs T)) (hs:ev fr s=some v) (hx:ev fr x=some (.slice (some ⟨g,0,none⟩) 1 1))
    (hl:cs.size=size) (h1:cs.toList.all Value.oneCell'=true) (h63:m+1≤140737488355328) (hb:(m+1)*bytes≤140737488355328) (hn:Nat.blt d n=true)
    (h:∀ v',TL P n W ops Q rest ((d,v')::fr) (L.set i (rowO e size v' (m+1) (xs++cs.toList)))) :
    TL P n W ops Q (⟨some d,.call { callee:= .builtin .append,args:=#[s,x],argTypes:=#[t,t] },ty,pos,after,none⟩::rest) fr L:=
  TL_append hel.el hi hs hx (fun j u hj=>by rw[kit.addr_add,Nat.zero_add];exact at_blk hq (by simpa using hj)) (by simpa using hl) (List.all_eq_true.1 h1) h63 hb hn h
theorem TL_app11 {t e:TypeId} {s x:Operand} {i q g bytes m:Nat} {v u:Value} {xs:List Value} {cs:Array Value} {T:TypeId} [hel:ElC P t e 1 bytes] (hi:L[i]?=some (rowO e 1 v m xs)) (hq:L[q]?=some (blkO g cs T)) (hs:ev fr s=some v) (hx:ev fr x=some (.slice (some ⟨g,0,none⟩) 1 1))
    (hu:cs=#[u]) (h1:u.oneCell'=true) (h63:m+1≤140737488355328) (hb:(m+1)*bytes≤140737488355328) (hn:Nat.blt d n=true)
    (h:∀ v',TL P n W ops Q rest ((d,v')::fr) (L.set i (rowO e 1 v' (m+1) (xs++[u])))) :
    TL P n W ops Q (⟨some d,.call { callee:= .builtin .append,args:=#[s,x],argTypes:=#[t,t] },ty,pos,after,none⟩::rest) fr L:=by
  subst hu
  exact TL_app1 hi hq hs hx rfl (by simp[h1]) h63 hb hn h
theorem OwnsP.front {p:Nat→Prop} {w:World} {L L':List Own} (h:OwnsP p w (L++L')):OwnsP p w L:=
  ⟨fun i o hi=>h.all i o (by rw[List.getElem?_append_left (List.getElem?_eq_some_iff.1 hi).1];exact hi),
   fun i j o o' hij hi hj=>h.apart i j o o' hij (by rw[List.getElem?_append_left (List.getElem?_eq_some_iff.1 hi).1];exact hi) (by rw[List.getElem?_append_left (List.getElem?_eq_some_iff.1 hj).1];exact hj)⟩
theorem Mem.front {w:World} {L L':List Own} (h:Mem W (L++L') w):Mem W L w:=⟨h.low,h.owns.front⟩
theorem TL_front {L':List Own} (h:TL P n W ops Q rest fr L):TL P n W ops Q rest fr (L++L'):=⟨fun a w hr hm=>h.go a w hr hm.front⟩
theorem TL_push1 {t e:TypeId} {s x:Operand} {i bytes m d':Nat} {v u:Value} {xs:List Value} {ty':TypeId} {pos':String} {after':Array Edge} [hel:ElC P t e 1 bytes] (hi:L[i]?=some (rowO e 1 v m xs)) (hx:ev fr x=some u) (hu:u.cells=#[u]) (h1:u.oneCell'=true) (hn':Nat.blt d' n=true)
    (hs:ev ((d',undef)::fr) s=some v) (hne:∀ z,s = .tmp z→Nat.beq d' z=false) (h63:m+1≤140737488355328) (hb:(m+1)*bytes≤140737488355328) (hn:Nat.blt d n=true)
    (h:∀ z v',TL P n W ops Q rest ((d,v')::(d',z)::fr) (L.set i (rowO e 1 v' (m+1) (xs++[u])))) :
    TL P n W ops Q (⟨some d',.buildSlice t 1 #[(0,x)],ty',pos',after',none⟩::⟨some d,.call { callee:= .builtin .append,args:=#[s,.tmp d'],argTypes:=#[t,t] },ty,pos,after,none⟩::rest) fr L:=by
  have hil:i<L.length:=(List.getElem?_eq_some_iff.1 hi).1
  have hs':∀ z,ev ((d',z)::fr) s=some v:=fun z=>by
    cases s with
    | tmp q=>have e:=hne q rfl;simp only[ev,look,e,cond_false] at hs ⊢;exact hs
    | const q=>exact hs
    | global q=>exact hs
    | func q=>exact hs
  refine TL_one hx hu rfl rfl hn' fun g => ?_
  refine TL_app1 (i:=i) (q:=L.length) (by rw[List.getElem?_append_left hil];exact hi) (List.getElem?_concat_length) (hs' _) (by simp[ev,look]) rfl (by simp[h1]) h63 hb hn fun v' => ?_
  rw[List.set_append_left _ _ hil]
  exact TL_front (h _ v')
theorem TL_pushN {t e:TypeId} {s x:Operand} {i c bytes m d':Nat} {v:Value} {cs:Array Value} {xs:List Value} {ty':TypeId} {pos':String} {after':Array Edge} [hel:ElC P t e c bytes] (hi:L[i]?=some (rowO e c v m xs)) (hx:ev fr x=some (.agg cs)) (hc:cs.size=c) (hs0:Nat.ble c 16777216=true) (h1:cs.toList.all Value.oneCell'=true) (hn':Nat.blt d' n=true)
    (hs:ev ((d',undef)::fr) s=some v) (hne:∀ z,s = .tmp z→Nat.beq d' z=false) (h63:m+1≤140737488355328) (hb:(m+1)*bytes≤140737488355328) (hn:Nat.blt d n=true)
    (h:∀ z v',TL P n W ops Q rest ((d,v')::(d',z)::fr) (L.set i (rowO e c v' (m+1) (xs++cs.toList)))) :
    TL P n W ops Q (⟨some d',.buildSlice t 1 #[(0,x)],ty',pos',after',none⟩::⟨some d,.call { callee:= .builtin .append,args:=#[s,.tmp d'],argTypes:=#[t,t] },ty,pos,after,none⟩::rest) fr L:=by
  have hil:i<L.length:=(List.getElem?_eq_some_iff.1 hi).1
  have hs':∀ z,ev ((d',z)::fr) s=some v:=fun z=>by
    cases s with
    | tmp q=>have e:=hne q rfl;simp only[ev,look,e,cond_false] at hs ⊢;exact hs
    | const q=>exact hs
    | global q=>exact hs
    | func q=>exact hs
  refine TL_one hx rfl hc hs0 hn' fun g => ?_
  refine TL_app1 (i:=i) (q:=L.length) (by rw[List.getElem?_append_left hil];exact hi) (List.getElem?_concat_length) (hs' _) (by simp[ev,look]) hc h1 h63 hb hn fun v' => ?_
  rw[List.set_append_left _ _ hil]
  exact TL_front (h _ v')
theorem E_nilrow {e':Exit} (e:TypeId) (size:Nat) (h:E n W e' Q fr (L++[rowO e size (.slice none 0 0) 0 []])):E n W e' Q fr L:=⟨fun a w hr hm=>h.go a w hr (hm.nilrow e size)⟩
def rowS (e:TypeId) (size m:Nat) (xs:List Value) (f:Value→Value):Spec Value:=⟨fun _=>True,f,fun v=>[rowO e size v m xs]⟩
end
def pureV (fr:Fr):Op→Option Value
  | .move x=>ev fr x
  | .assign x=>ev fr x
  | .extract t i=>match ev fr t with
    | some (.tuple vs)=>vs[i]?
    | _=>none
  | .pick c x y=>match ev fr c with
    | some (.bool true)=>ev fr x
    | some (.bool false)=>ev fr y
    | _=>none
  | .unOp .not _ x=>match ev fr x with
    | some (.bool true)=>some (.bool false)
    | some (.bool false)=>some (.bool true)
    | _=>none
  | _=>none
section
variable {P:Program} {n:Nat} {W:Base} {fr:Fr} {L:List Own} {dst:Option Tmp} {ty:TypeId} {pos:String} {after:Array Edge} {guard:Option (Nat×Bool)}
theorem qp {op:Op} {v:Value} (h:pureV fr op=some v):RR P n W ⟨dst,op,ty,pos,after,guard⟩ fr L v:=by
  unfold pureV at h
  split at h
  · exact rr_move h
  · exact rr_assign h
  · split at h
    · rename_i e;exact rr_extract e h
    · cases h
  · split at h
    · rename_i e;exact rr_pickT e h
    · rename_i e;exact rr_pickF e h
    · cases h
  · split at h
    · rename_i e
      simp only[Option.some.injEq] at h
      subst h;exact rr_not e rfl
    · rename_i e
      simp only[Option.some.injEq] at h
      subst h;exact rr_not e rfl
    · cases h
  · cases h
end
section
variable {P:Program} {n:Nat} {W:Base} {fr:Fr} {L:List Own} {Q:Exit→Act→World→Prop} {ops:Array Oper} {rest:List Oper} {d:Nat} {o:Oper} {v:Value}
theorem qg {q e:Nat} {b:Bool} (hg:o.guard=some (q,b)) (hj:(ops[q]?).bind (·.dst)=some e) (hl:look fr e=some (.bool b)) (h:TL P n W ops Q ({ o with guard:=none }::rest) fr L):TL P n W ops Q (o::rest) fr L:=TL_metg hg hj hl h
theorem qs {j e:Nat} {b:Bool} {u:Value} (hg:o.guard=some (j,b)) (hj:(ops[j]?).bind (·.dst)=some e) (hl:look fr e=some u) (hu:notB b u=true) (hd:o.dst=some d) (hn:Nat.blt d n=true) (h:TL P n W ops Q rest ((d,undef)::fr) L):TL P n W ops Q (o::rest) fr L:=TL_skip hg hj hl hu hd hn h
theorem qcT {c:Operand} {x y:Code} (hc:ev fr c=some (.bool true)) (h:T P n W x Q fr L):T P n W (.cond c x y) Q fr L:=T_condT hc h
theorem qcF {c:Operand} {x y:Code} (hc:ev fr c=some (.bool false)) (h:T P n W y Q fr L):T P n W (.cond c x y) Q fr L:=T_condF hc h
theorem qT {p:Prop} [inst:Decidable p] (h:p):decide p=true:=decide_eq_true h
theorem qF {p:Prop} [inst:Decidable p] (h:¬ p):decide p=false:=decide_eq_false h
variable {dst:Option Tmp} {ty:TypeId} {pos:String} {after:Array Edge} {guard:Option (Nat×Bool)}
theorem qlen {t e:TypeId} {x:Operand} {p:Option Addr} {m cap:Nat} (ht:P.underlying t=some (.slice e)) (hx:ev fr x=some (.slice p m cap)):RR P n W ⟨dst,.call { callee:= .builtin .len,args:=#[x],argTypes:=#[t] },ty,pos,after,guard⟩ fr L (.int .i64 m):=rr_len ht hx
theorem qfld {s:TypeId} {x:Operand} {f o b off r:Nat} (hf:Fld P s f o) (hx:ev fr x=some (.pointer (some ⟨b,off,none⟩))) (hr:off+o=r):RR P n W ⟨dst,.fieldAddr s x f,ty,pos,after,guard⟩ fr L (.pointer (some ⟨b,r,none⟩)):=rr_field hf hx hr
end
section
variable {P:Program} {n:Nat} {W:Base} {fr:Fr} {L:List Own} {Q:Exit→Act→World→Prop} {ops:Array Oper} {rest:List Oper} {d:Nat} {o:Oper} {v:Value} {dst:Option Tmp} {ty:TypeId} {pos:String} {after:Array Edge} {guard:Option (Nat×Bool)} {t u:TypeId} {x y:Operand} {k:IntKind} {m m':Int}
theorem QV (hr:RR P n W o fr L v) (h:TL P n W ops Q rest ((d,v)::fr) L) (hg:o.guard=none:=by exact rfl) (hd:o.dst=some d:=by exact rfl) (hn:Nat.blt d n=true:=by exact rfl):TL P n W ops Q (o::rest) fr L:=TL_val hr hg hd hn h
theorem QP {op:Op} (h:pureV fr op=some v:=by exact rfl):RR P n W ⟨dst,op,ty,pos,after,guard⟩ fr L v:=qp h
theorem QS {l:List UInt8} (hx:ev fr x=some (str l):=by exact rfl) (ht:P.underlying t=some .string:=by exact Und.eq):RR P n W ⟨dst,.call { callee:= .builtin .len,args:=#[x],argTypes:=#[t] },ty,pos,after,guard⟩ fr L (.int .i64 l.length):=rr_strlen ht hx
theorem QL {e:TypeId} {p:Option Addr} {m cap:Nat} (hx:ev fr x=some (.slice p m cap):=by exact rfl) (ht:P.underlying t=some (.slice e):=by exact Und.eq):RR P n W ⟨dst,.call { callee:= .builtin .len,args:=#[x],argTypes:=#[t] },ty,pos,after,guard⟩ fr L (.int .i64 m):=qlen ht hx
theorem QA {s:TypeId} {f o b off r:Nat} (hx:ev fr x=some (.pointer (some ⟨b,off,none⟩)):=by exact rfl) (hf:Fld P s f o:=by exact FldC.fld) (hr:off+o=r:=by exact rfl):RR P n W ⟨dst,.fieldAddr s x f,ty,pos,after,guard⟩ fr L (.pointer (some ⟨b,r,none⟩)):=rr_field hf hx hr
theorem QlT (hx:ev fr x=some (.int k m):=by exact rfl) (hy:ev fr y=some (.int k m'):=by exact rfl) (h:m<m':=by omega):RR P n W ⟨dst,.binOp .lss t x y u,ty,pos,after,guard⟩ fr L (.bool true):=rr_lss hx hy (decide_eq_true h)
theorem QlF (hx:ev fr x=some (.int k m):=by exact rfl) (hy:ev fr y=some (.int k m'):=by exact rfl) (h:¬ (m<m'):=by omega):RR P n W ⟨dst,.binOp .lss t x y u,ty,pos,after,guard⟩ fr L (.bool false):=rr_lss hx hy (decide_eq_false h)
theorem QmT (hx:ev fr x=some (.int k m):=by exact rfl) (hy:ev fr y=some (.int k m'):=by exact rfl) (h:m≤m':=by omega):RR P n W ⟨dst,.binOp .leq t x y u,ty,pos,after,guard⟩ fr L (.bool true):=rr_leq hx hy (decide_eq_true h)
theorem QmF (hx:ev fr x=some (.int k m):=by exact rfl) (hy:ev fr y=some (.int k m'):=by exact rfl) (h:¬ (m≤m'):=by omega):RR P n W ⟨dst,.binOp .leq t x y u,ty,pos,after,guard⟩ fr L (.bool false):=rr_leq hx hy (decide_eq_false h)
theorem QgT (hx:ev fr x=some (.int k m):=by exact rfl) (hy:ev fr y=some (.int k m'):=by exact rfl) (h:m'<m:=by omega):RR P n W ⟨dst,.binOp .gtr t x y u,ty,pos,after,guard⟩ fr L (.bool true):=rr_gtr hx hy (decide_eq_true h)
theorem QgF (hx:ev fr x=some (.int k m):=by exact rfl) (hy:ev fr y=some (.int k m'):=by exact rfl) (h:¬ (m'<m):=by omega):RR P n W ⟨dst,.binOp .gtr t x y u,ty,pos,after,guard⟩ fr L (.bool false):=rr_gtr hx hy (decide_eq_false h)
theorem QhT (hx:ev fr x=some (.int k m):=by exact rfl) (hy:ev fr y=some (.int k m'):=by exact rfl) (h:m'≤m:=by omega):RR P n W ⟨dst,.binOp .geq t x y u,ty,pos,after,guard⟩ fr L (.bool true):=rr_geq hx hy (decide_eq_true h)
theorem QhF (hx:ev fr x=some (.int k m):=by exact rfl) (hy:ev fr y=some (.int k m'):=by exact rfl) (h:¬ (m'≤m):=by omega):RR P n W ⟨dst,.binOp .geq t x y u,ty,pos,after,guard⟩ fr L (.bool false):=rr_geq hx hy (decide_eq_false h)
theorem QeT (hx:ev fr x=some (.int k m):=by exact rfl) (hy:ev fr y=some (.int k m'):=by exact rfl) (h:m=m':=by omega):RR P n W ⟨dst,.binOp .eql t x y u,ty,pos,after,guard⟩ fr L (.bool true):=rr_eql hx hy (decide_eq_true h)
theorem QeF (hx:ev fr x=some (.int k m):=by exact rfl) (hy:ev fr y=some (.int k m'):=by exact rfl) (h:¬ (m=m'):=by omega):RR P n W ⟨dst,.binOp .eql t x y u,ty,pos,after,guard⟩ fr L (.bool false):=rr_eql hx hy (decide_eq_false h)
theorem QnT (hx:ev fr x=some (.int k m):=by exact rfl) (hy:ev fr y=some (.int k m'):=by exact rfl) (h:m≠m':=by omega):RR P n W ⟨dst,.binOp .neq t x y u,ty,pos,after,guard⟩ fr L (.bool true):=rr_neq hx hy (decide_eq_true h)
theorem QnF (hx:ev fr x=some (.int k m):=by exact rfl) (hy:ev fr y=some (.int k m'):=by exact rfl) (h:¬ (m≠m'):=by omega):RR P n W ⟨dst,.binOp .neq t x y u,ty,pos,after,guard⟩ fr L (.bool false):=rr_neq hx hy (decide_eq_false h)
theorem QaA {r:Int} (hx:ev fr x=some (.int .i64 m):=by exact rfl) (hy:ev fr y=some (.int .i64 m'):=by exact rfl) (h0 : -9223372036854775808≤m+m':=by omega) (h1:m+m'≤9223372036854775807:=by omega) (hr:m+m'=r:=by exact rfl):RR P n W ⟨dst,.binOp .add t x y u,ty,pos,after,guard⟩ fr L (.int .i64 r):=rr_add64 hx hy h0 h1 hr
theorem QaS {r:Int} (hx:ev fr x=some (.int .i64 m):=by exact rfl) (hy:ev fr y=some (.int .i64 m'):=by exact rfl) (h0 : -9223372036854775808≤m - m':=by omega) (h1:m - m'≤9223372036854775807:=by omega) (hr:m - m'=r:=by exact rfl):RR P n W ⟨dst,.binOp .sub t x y u,ty,pos,after,guard⟩ fr L (.int .i64 r):=rr_sub64 hx hy h0 h1 hr
theorem QaM {r:Int} (hx:ev fr x=some (.int .i64 m):=by exact rfl) (hy:ev fr y=some (.int .i64 m'):=by exact rfl) (h0 : -9223372036854775808≤m*m':=by omega) (h1:m*m'≤9223372036854775807:=by omega) (hr:m*m'=r:=by exact rfl):RR P n W ⟨dst,.binOp .mul t x y u,ty,pos,after,guard⟩ fr L (.int .i64 r):=rr_mul64 hx hy h0 h1 hr
end
class Cd (p:Prop) (q:outParam Prop):Prop where
  go:q→p
theorem QZ {p q:Prop} [h:Cd p q] (x:q):p:=h.go x
section
variable {P:Program} {n:Nat} {W:Base} {fr:Fr} {L:List Own} {Q:Exit→Act→World→Prop} {ops:Array Oper} {x y:Code} {id:Nat} {l:List Oper} {K:Act→World→Prop}
instance:Cd (TL P n W ops Q [] fr L) (E n W .normal Q fr L):=⟨TL_nil⟩
instance:Cd (T P n W (x.seq y) Q fr L) (T P n W x (Exit.then (y.wp P Q) Q) fr L):=⟨T_seq⟩
instance:Cd (T P n W (.region id l.toArray false) Q fr L) (TL P n W l.toArray Q l fr L):=⟨T_region⟩
instance:Cd (T P n W .skip Q fr L) (E n W .normal Q fr L):=⟨T_skip⟩
instance:Cd (T P n W (.exit id) Q fr L) (E n W (.exit id) Q fr L):=⟨T_exit⟩
instance:Cd (T P n W .ret Q fr L) (E n W .ret Q fr L):=⟨T_ret⟩
instance:Cd (T P n W (.block id x) Q fr L) (T P n W x (Exit.inBlock id Q) fr L):=⟨T_block⟩
instance:Cd (E n W .normal (Exit.then (y.wp P Q) Q) fr L) (T P n W y Q fr L):=⟨E_then⟩
instance:Cd (E n W (.exit id) (Exit.then K Q) fr L) (E n W (.exit id) Q fr L):=⟨E_thenX⟩
instance:Cd (E n W .ret (Exit.then K Q) fr L) (E n W .ret Q fr L):=⟨E_thenR⟩
instance:Cd (E n W .normal (Exit.inBlock id Q) fr L) (E n W .normal Q fr L):=⟨E_blockN⟩
instance:Cd (E n W .ret (Exit.inBlock id Q) fr L) (E n W .ret Q fr L):=⟨E_blockR⟩
end
section
variable {α β:Type}
theorem zA {a:α} {l m:List α}:a::l++m=a::(l++m):=rfl
theorem zB {l:List α}:[]++l=l:=rfl
theorem zC {l:List α}:l++[]=l:=List.append_nil l
theorem zD {f:α→Option β} {a:α} {l:List α}:List.filterMap f (a::l)=match f a with
    | none=>List.filterMap f l
    | some b=>b::List.filterMap f l:=List.filterMap_cons
theorem zE {f:α→Option β}:List.filterMap f []=[]:=rfl
theorem zF {a:α} {l:List α} {i:Nat}:(a::l)[i+1]?=l[i]?:=List.getElem?_cons_succ
theorem zG {a:α} {l:List α}:(a::l)[0]?=some a:=rfl
theorem zH {a b:α} {l:List α}:(a::l).set 0 b=b::l:=rfl
theorem zI {a b:α} {l:List α} {i:Nat}:(a::l).set (i+1) b=a::l.set i b:=rfl
end
end Go.Proofs.Ytldiodhdefnlaaa.eng

/- MixV -/
namespace Go.Proofs.Ytldiodhdefnlaaa.eng
open Go.RowKit kit mix
section
variable {P:Program} {ops:Array Oper} {md:Region.Mode} {Q:Exit→Act→World→Prop} {U:World→Prop}
theorem wpOp_of_list {K:Act→World→Prop} {i:Nat} {o:Oper} {a:Act} {w:World} (hi:ops[i]?=some o) (h:wpList P ops (Exit.then K Q) [o] a w):wpOp P ops Q i K a w:=by
  have key:∀ r,o.upon P a (wpList P ops (Exit.then K Q) []) (Exit.then K Q) r→o.upon P a K Q r:=fun r hr=>by
    cases r with
    | ok x w'=>
      cases x <;> first
        | exact hr
        | (refine Calls.mono hr fun e w'' he => ?_;cases e <;> exact he)
        | exact Rows.mono hr fun v w'' he=>he
    | halt x w'=>cases x <;> exact hr
  unfold wpList at h
  unfold wpOp
  rw[hi]
  simp only
  split
  · rename_i hw
    rw[if_pos hw] at h
    rcases h with h | h
    · exact .inl (key _ h)
    · exact .inr h
  · rename_i hw
    rw[if_neg hw] at h
    exact h
def wpAnyV (P:Program) (md:Region.Mode) (ops:Array Oper) (Q:Exit→Act→World→Prop) (U:World→Prop):Nat→Array Bool→Act→(World→Prop)→Prop
  | 0,listed,a,S=>Region.ready md ops listed=[]∧∀ w,S w→Q .normal a w
  | f+1,listed,a,S=>(Region.ready md ops listed=[]→∀ w,S w→Q .normal a w)∧
    ∀ i∈Region.ready md ops listed,∀ w,S w→wpOp P ops Q i (fun a' w'=>∃ S',Closed S'∧(∀ x,S' x→U x)∧S' w'∧wpAnyV P md ops Q U f (listed.setIfInBounds i true) a' S') a w
theorem wpAny_of_V:∀ (f:Nat) (listed:Array Bool) (a:Act) (S:World→Prop) (w:World),S w→wpAnyV P md ops Q U f listed a S→wpAny P md ops Q f listed a w
  | 0,_,_,_,w,hw,h=>⟨h.1,h.2 w hw⟩
  | f+1,_,_,_,w,hw,h=>⟨fun h0=>h.1 h0 w hw,fun i hi=>wpOp_mono (fun a' w' ⟨S',_,_,hw',h'⟩=>wpAny_of_V f _ a' S' w' hw' h') (h.2 i hi w hw)⟩
theorem wpAnyV_first {i:Nat} {oi:Oper} {v:Value} (hi:ops[i]?=some oi) (hsel:∀ (j:Nat) (o:Oper) cs b,ops[j]?=some o→o.op≠ .select cs b)
    (hQ:∀ c a w,Q (.panic c) (a.put oi.dst v) w→Q (.panic c) a w) :
    ∀ (f:Nat) (listed:Array Bool) (a:Act) (S:World→Prop),Closed S→(∀ x,S x→U x)→
      (∀ j oj,ops[j]?=some oj→j≠i→listed.getD j true=false→(∀ e∈oj.after,Region.binds md e=true→e.on≠i)→oi.apart ops oj=true)→
      i∈Region.ready md ops listed→CalmIn P ops U oi v a→
      wpAnyV P md ops Q U f (listed.setIfInBounds i true) (a.put oi.dst v) S→wpAnyV P md ops Q U (f+1) listed a S:=by
  intro f
  induction f with
  | zero=>
    intro listed a S hcl hsu _ hr hy H
    refine⟨fun h=>(by rw[h] at hr;cases hr),fun j hj w hw => ?_⟩
    by_cases hji:j=i
    · subst hji;exact (hy.mono hsu).wpOp hi hcl hw fun w' hw'=>⟨S,hcl,hsu,hw',H⟩
    · have:=ready_mono (md:=md) hj hji
      rw[H.1] at this;cases this
  | succ f ih=>
    intro listed a S hcl hsu hfree hr hy H
    have hun:=(mem_ready.1 hr).1
    refine⟨fun h=>(by rw[h] at hr;cases hr),fun j hj w hw => ?_⟩
    by_cases hji:j=i
    · subst hji;exact (hy.mono hsu).wpOp hi hcl hw fun w' hw'=>⟨S,hcl,hsu,hw',H⟩
    · have h1:=H.2 j (ready_mono hj hji) w hw
      obtain⟨hjun,oj,hoj,hall⟩:=mem_ready.1 hj
      have hnot:∀ e∈oj.after,Region.binds md e=true→e.on≠i:=fun e he hb heq=>by
        have h1:=hall e he hb
        rw[heq,getD_both hun] at h1
        cases h1
      have h2:=wpOp_calm hoj (hfree j oj hoj hji hjun hnot) (fun cs b=>hsel i oi cs b hi) (fun cs b=>hsel j oj cs b hoj) hQ hy h1
      have hfree':∀ k ok,ops[k]?=some ok→k≠i→(listed.setIfInBounds j true).getD k true=false→
          (∀ e∈ok.after,Region.binds md e=true→e.on≠i)→oi.apart ops ok=true:=fun k ok hk hki hun hno=>by
        refine hfree k ok hk hki ?_ hno
        by_cases hjk:j=k
        · subst hjk;exact hjun
        · rw[getD_set_ne true hjk] at hun;exact hun
      refine wpOp_mono (fun a' w' h3 => ?_) h2
      obtain⟨h3,S',hcl',hsub,hw',h4⟩:=h3
      refine⟨S',hcl',hsub,hw',ih (listed.setIfInBounds j true) a' S' hcl' hsub hfree' (ready_mono hr (Ne.symm hji)) h3 ?_⟩
      rw[Array.setIfInBounds_comm _ _ hji]
      exact h4
end
section
variable {P:Program} {n:Nat} {W:Base} {Q:Exit→Act→World→Prop} {fr:Fr} {L L0:List Own} {ops:Array Oper} {ks:List Bool} {o:Oper} {rest:List Oper} {v:Value} {d:Nat}
theorem sub_pick {L':List Own} (is:List Nat) (hn:is.Nodup) (hl:L'=is.filterMap fun i=>L[i]?):∀ w,Mem W L w→Mem W L' w:=fun w h=>h.pick is hn hl
theorem sub_nil:∀ w,Mem W L w→Mem W [] w:=fun w h=>⟨h.low,OwnsP.nil _⟩
end
end Go.Proofs.Ytldiodhdefnlaaa.eng

/- MixW -/
namespace Go.Proofs.Ytldiodhdefnlaaa.eng
open Go.RowKit kit mix
inductive Ord where
  | done
  | calm (i:Nat) (t:Ord)
  | one (i:Nat) (t:Ord)
  | two (i:Nat) (t:Ord) (j:Nat) (u:Ord)
  | three (i:Nat) (t:Ord) (j:Nat) (u:Ord) (k:Nat) (v:Ord)
def Ord.size:Ord→Nat
  | .done=>0
  | .calm _ t=>t.size+1
  | .one _ t=>t.size+1
  | .two _ t _ _=>t.size+1
  | .three _ t _ _ _ _=>t.size+1
section
variable {P:Program} {ops:Array Oper} {md:Region.Mode} {Q:Exit→Act→World→Prop} {U:World→Prop}
def wpO (P:Program) (ops:Array Oper) (Q:Exit→Act→World→Prop) (U:World→Prop):Ord→Act→(World→Prop)→Prop
  | .calm i t,a,S=>∃ o v,ops[i]?=some o∧(if Region.wanted o (yielded ops a.tmps) then ∀ w,U w→calmAt P o a w v else v=undef)∧wpO P ops Q U t (a.put o.dst v) S
  | .one i t,a,S=>∃ o,ops[i]?=some o∧∀ w,S w→wpList P ops (Exit.then (fun a' w'=>∃ S',Closed S'∧(∀ x,S' x→U x)∧S' w'∧wpO P ops Q U t a' S') Q) [o] a w
  | .two i t j u,a,S=>(∃ o,ops[i]?=some o∧∀ w,S w→wpList P ops (Exit.then (fun a' w'=>∃ S',Closed S'∧(∀ x,S' x→U x)∧S' w'∧wpO P ops Q U t a' S') Q) [o] a w)∧
      (∃ o,ops[j]?=some o∧∀ w,S w→wpList P ops (Exit.then (fun a' w'=>∃ S',Closed S'∧(∀ x,S' x→U x)∧S' w'∧wpO P ops Q U u a' S') Q) [o] a w)
  | .three i t j u k v,a,S=>(∃ o,ops[i]?=some o∧∀ w,S w→wpList P ops (Exit.then (fun a' w'=>∃ S',Closed S'∧(∀ x,S' x→U x)∧S' w'∧wpO P ops Q U t a' S') Q) [o] a w)∧
      (∃ o,ops[j]?=some o∧∀ w,S w→wpList P ops (Exit.then (fun a' w'=>∃ S',Closed S'∧(∀ x,S' x→U x)∧S' w'∧wpO P ops Q U u a' S') Q) [o] a w)∧
      (∃ o,ops[k]?=some o∧∀ w,S w→wpList P ops (Exit.then (fun a' w'=>∃ S',Closed S'∧(∀ x,S' x→U x)∧S' w'∧wpO P ops Q U v a' S') Q) [o] a w)
  | .done,a,S=>∀ w,S w→Q .normal a w
def orderO (md:Region.Mode) (ops:Array Oper):Ord→Array Bool→Bool
  | .calm i t,listed=>(Region.ready md ops listed).contains i && Region.free md ops listed i && orderO md ops t (listed.setIfInBounds i true)
  | .one i t,listed=>decide (Region.ready md ops listed=[i]) && orderO md ops t (listed.setIfInBounds i true)
  | .two i t j u,listed=>decide (Region.ready md ops listed=[i,j]) && Nat.beq t.size u.size && orderO md ops t (listed.setIfInBounds i true) && orderO md ops u (listed.setIfInBounds j true)
  | .three i t j u k v,listed=>decide (Region.ready md ops listed=[i,j,k]) && Nat.beq t.size u.size && Nat.beq t.size v.size && orderO md ops t (listed.setIfInBounds i true) && orderO md ops u (listed.setIfInBounds j true) && orderO md ops v (listed.setIfInBounds k true)
  | .done,listed=>decide (Region.ready md ops listed=[])
theorem wpAnyV_ord (hsel:Region.noSelect ops=true) (hQ:∀ c a d v w,Q (.panic c) (Act.put a d v) w→Q (.panic c) a w) :
    ∀ (t:Ord) (listed:Array Bool) (a:Act) (S:World→Prop),Closed S→(∀ x,S x→U x)→orderO md ops t listed=true→
    wpO P ops Q U t a S→wpAnyV P md ops Q U t.size listed a S
  | .done,listed,a,S,_,_,ho,h=>⟨by simpa[orderO] using ho,h⟩
  | .calm i t,listed,a,S,hcl,hsu,ho,h=>by
    simp only[orderO,Bool.and_eq_true] at ho
    obtain⟨⟨hr,hf⟩,ho'⟩:=ho
    have hr':i∈Region.ready md ops listed:=by simpa using hr
    obtain⟨o,v,h0,hy,hK⟩:=h
    have hy':CalmIn P ops U o v a:=by
      by_cases hw:Region.wanted o (yielded ops a.tmps)=true
      · rw[if_pos hw] at hy;exact .inl ⟨hw,hy⟩
      · rw[if_neg hw] at hy;exact .inr ⟨by simpa using hw,hy⟩
    exact wpAnyV_first h0 (Region.noSelect_spec hsel) (fun c a w=>hQ c a o.dst v w) t.size listed a S hcl hsu (Region.free_spec h0 hf) hr' hy'
      (wpAnyV_ord hsel hQ t _ _ S hcl hsu ho' hK)
  | .one i t,listed,a,S,hcl,hsu,ho,h=>by
    simp only[orderO,Bool.and_eq_true,decide_eq_true_eq] at ho
    obtain⟨hr,ho'⟩:=ho
    obtain⟨o,h0,h⟩:=h
    refine⟨fun h'=>(by rw[hr] at h';cases h'),fun j hj w hw => ?_⟩
    obtain rfl:j=i:=by rw[hr] at hj;simpa using hj
    refine wpOp_mono (fun a' w' ⟨S',hcl',hsu',hw',hK⟩=>⟨S',hcl',hsu',hw',?_⟩) (wpOp_of_list h0 (h w hw))
    exact wpAnyV_ord hsel hQ t _ _ S' hcl' hsu' ho' hK
  | .two i t j u,listed,a,S,hcl,hsu,ho,h=>by
    simp only[orderO,Bool.and_eq_true,decide_eq_true_eq] at ho
    obtain⟨⟨⟨hr,hs⟩,ho1⟩,ho2⟩:=ho
    obtain⟨⟨o,h0,h⟩,⟨o2,h02,h2⟩⟩:=h
    have hs:=Nat.eq_of_beq_eq_true hs
    refine⟨fun h'=>(by rw[hr] at h';cases h'),fun q hq w hw => ?_⟩
    rw[hr] at hq
    simp only[List.mem_cons,List.not_mem_nil,or_false] at hq
    rcases hq with rfl | rfl
    · refine wpOp_mono (fun a' w' ⟨S',hcl',hsu',hw',hK⟩=>⟨S',hcl',hsu',hw',?_⟩) (wpOp_of_list h0 (h w hw))
      exact wpAnyV_ord hsel hQ t _ _ S' hcl' hsu' ho1 hK
    · refine wpOp_mono (fun a' w' ⟨S',hcl',hsu',hw',hK⟩=>⟨S',hcl',hsu',hw',?_⟩) (wpOp_of_list h02 (h2 w hw))
      rw[hs]
      exact wpAnyV_ord hsel hQ u _ _ S' hcl' hsu' ho2 hK
  | .three i t j u k v,listed,a,S,hcl,hsu,ho,h=>by
    simp only[orderO,Bool.and_eq_true,decide_eq_true_eq] at ho
    obtain⟨⟨⟨⟨⟨hr,hs⟩,hs3⟩,ho1⟩,ho2⟩,ho3⟩:=ho
    obtain⟨⟨o,h0,h⟩,⟨o2,h02,h2⟩,⟨o3,h03,h3⟩⟩:=h
    have hs:=Nat.eq_of_beq_eq_true hs
    have hs3:=Nat.eq_of_beq_eq_true hs3
    refine⟨fun h'=>(by rw[hr] at h';cases h'),fun q hq w hw => ?_⟩
    rw[hr] at hq
    simp only[List.mem_cons,List.not_mem_nil,or_false] at hq
    rcases hq with rfl | rfl | rfl
    · refine wpOp_mono (fun a' w' ⟨S',hcl',hsu',hw',hK⟩=>⟨S',hcl',hsu',hw',?_⟩) (wpOp_of_list h0 (h w hw))
      exact wpAnyV_ord hsel hQ t _ _ S' hcl' hsu' ho1 hK
    · refine wpOp_mono (fun a' w' ⟨S',hcl',hsu',hw',hK⟩=>⟨S',hcl',hsu',hw',?_⟩) (wpOp_of_list h02 (h2 w hw))
      rw[hs]
      exact wpAnyV_ord hsel hQ u _ _ S' hcl' hsu' ho2 hK
    · refine wpOp_mono (fun a' w' ⟨S',hcl',hsu',hw',hK⟩=>⟨S',hcl',hsu',hw',?_⟩) (wpOp_of_list h03 (h3 w hw))
      rw[hs3]
      exact wpAnyV_ord hsel hQ v _ _ S' hcl' hsu' ho3 hK
end
structure TW (P:Program) (n:Nat) (W:Base) (ops:Array Oper) (Q:Exit→Act→World→Prop) (L0:List Own) (t:Ord) (fr:Fr) (L:List Own):Prop where
  go:∀ a,Rep n a fr→wpO P ops Q (Mem W L0) t a (Mem W L)
section
variable {P:Program} {n:Nat} {W:Base} {Q:Exit→Act→World→Prop} {fr:Fr} {L L0:List Own} {ops:Array Oper} {o:Oper} {t u:Ord} {i j:Nat} {v:Value} {d:Nat}
def ordB (l:List Oper) (t:Ord):Bool:=Nat.beq t.size l.length && Region.noSelect l.toArray && orderO .any l.toArray t (Array.replicate l.toArray.size false)
theorem T_ord {id:Nat} {l:List Oper} (L0:List Own) (t:Ord) (hsub:∀ w,Mem W L w→Mem W L0 w) (hm:P.follows .mixedOrders=true) (hB:ordB l t=true)
    (hQ:∀ c a d v w,Q (.panic c) (Act.put a d v) w→Q (.panic c) a w)
    (h:TW P n W l.toArray Q L0 t fr L):T P n W (.region id l.toArray true) Q fr L:=⟨fun a w hr hmm=>by
  simp only[ordB,Bool.and_eq_true] at hB
  obtain⟨⟨h1,h2⟩,h3⟩:=hB
  have hlen:=Nat.eq_of_beq_eq_true h1
  refine wp_region_any hm ?_
  have hsz:l.toArray.size=t.size:=by rw[hlen];simp
  have:=wpAny_of_V (U:=Mem W L0) t.size (Array.replicate l.toArray.size false) a (Mem W L) w.drew hmm.drew
    (wpAnyV_ord h2 hQ t _ a (Mem W L) (closed_mem W L) hsub h3 (h.go a hr))
  rw[←hsz] at this
  exact this⟩
theorem TW_skip {q e:Nat} {b:Bool} {x:Value} (ho:ops[i]?=some o) (hg:o.guard=some (q,b)) (hj:(ops[q]?).bind (·.dst)=some e) (hl:look fr e=some x) (hu:notB b x=true) (hd:o.dst=some d) (hn:Nat.blt d n=true) (h:TW P n W ops Q L0 t ((d,undef)::fr) L):TW P n W ops Q L0 (.calm i t) fr L:=⟨fun a hrep=>
  ⟨o,undef,ho,by rw[wanted_no hrep hg hj hl hu];rfl,by rw[hd];exact h.go _ (hrep.put hn undef)⟩⟩
theorem TW_call {f:FuncId} {args:Array Value} (ho:ops[i]?=some o) (he:∀ a w,Rep n a fr→(execOp a.eval o).run P w = .ok (.enter f args) w) (hc:∀ w,Mem W L0 w→Calls P f args w (Meets (ret v) w)) (hg:o.guard=none) (hd:o.dst=some d) (hn:Nat.blt d n=true)
    (h:TW P n W ops Q L0 t ((d,v)::fr) L):TW P n W ops Q L0 (.calm i t) fr L:=⟨fun a hrep=>
  ⟨o,v,ho,by rw[if_pos (wanted_none hg)];intro w hw;unfold calmAt;rw[he a w hrep];exact⟨Gr.refl _,(hc w hw).mono fun _ _ h=>of_meets h⟩,by rw[hd];exact h.go _ (hrep.put hn v)⟩⟩
theorem TW_gcall {f:FuncId} {args:Array Value} {q e:Nat} {b:Bool} (ho:ops[i]?=some o) (he:∀ a w,Rep n a fr→(execOp a.eval o).run P w = .ok (.enter f args) w) (hc:∀ w,Mem W L0 w→Calls P f args w (Meets (ret v) w)) (hg:o.guard=some (q,b)) (hj:(ops[q]?).bind (·.dst)=some e) (hl:look fr e=some (.bool b)) (hd:o.dst=some d) (hn:Nat.blt d n=true)
    (h:TW P n W ops Q L0 t ((d,v)::fr) L):TW P n W ops Q L0 (.calm i t) fr L:=⟨fun a hrep=>
  ⟨o,v,ho,by rw[if_pos (wanted_yes hrep hg hj hl)];intro w hw;unfold calmAt;rw[he a w hrep];exact⟨Gr.refl _,(hc w hw).mono fun _ _ h=>of_meets h⟩,by rw[hd];exact h.go _ (hrep.put hn v)⟩⟩
abbrev after (P:Program) (W:Base) (ops:Array Oper) (Q:Exit→Act→World→Prop) (L0:List Own) (t:Ord):Exit→Act→World→Prop:=Exit.then (fun a' w'=>∃ S',Closed S'∧(∀ x,S' x→Mem W L0 x)∧S' w'∧wpO P ops Q (Mem W L0) t a' S') Q
theorem TW_one (ho:ops[i]?=some o) (h:TL P n W ops (after P W ops Q L0 t) [o] fr L):TW P n W ops Q L0 (.one i t) fr L:=⟨fun a hrep=>⟨o,ho,fun w hw=>h.go a w hrep hw⟩⟩
theorem TW_two {o2:Oper} (ho:ops[i]?=some o) (ho2:ops[j]?=some o2) (h:TL P n W ops (after P W ops Q L0 t) [o] fr L) (h2:TL P n W ops (after P W ops Q L0 u) [o2] fr L):TW P n W ops Q L0 (.two i t j u) fr L:=
  ⟨fun a hrep=>⟨⟨o,ho,fun w hw=>h.go a w hrep hw⟩,⟨o2,ho2,fun w hw=>h2.go a w hrep hw⟩⟩⟩
theorem TW_three {o2 o3:Oper} {k:Nat} {u2:Ord} (ho:ops[i]?=some o) (ho2:ops[j]?=some o2) (ho3:ops[k]?=some o3) (h:TL P n W ops (after P W ops Q L0 t) [o] fr L) (h2:TL P n W ops (after P W ops Q L0 u) [o2] fr L) (h3:TL P n W ops (after P W ops Q L0 u2) [o3] fr L):TW P n W ops Q L0 (.three i t j u k u2) fr L:=
  ⟨fun a hrep=>⟨⟨o,ho,fun w hw=>h.go a w hrep hw⟩,⟨o2,ho2,fun w hw=>h2.go a w hrep hw⟩,⟨o3,ho3,fun w hw=>h3.go a w hrep hw⟩⟩⟩
theorem TW_on {L':List Own} {fr':Fr} (hsub:∀ w,Mem W L' w→Mem W L0 w) (h:TW P n W ops Q L0 t fr' L'):TL P n W ops (after P W ops Q L0 t) [] fr' L':=
  TL_nil ⟨fun a w hr hm=>⟨Mem W L',closed_mem _ _,hsub,hm,h.go a hr⟩⟩
theorem TW_done (h:E n W .normal Q fr L):TW P n W ops Q L0 .done fr L:=⟨fun a hr w hw=>h.go a w hr hw⟩
theorem T_midq {x y:Code} {ι:Type} (I:ι→Prop) (F:ι→Fr) (M:ι→List Own)
    (hx:T P n W x (Exit.then (Mid n W I F M) Q) fr L) (hy:∀ i,I i→T P n W y Q (F i) (M i)):T P n W x (Exit.then (y.wp P Q) Q) fr L:= .mk fun a w hr hm=>
  wp_mono (hx.go a w hr hm) fun e a w h=>by
    cases e with
    | normal=>obtain⟨i,h1,h2,h3⟩:=h;exact (hy i h1).go a w h2 h3
    | _=>exact h
structure TN (P:Program) (n:Nat) (W:Base) (ops:Array Oper) (Q:Exit→Act→World→Prop) (L0:List Own) (o:Oper) (t:Ord) (fr:Fr) (L:List Own):Prop where
  go:∀ a,Rep n a fr→∃ v,(∀ w,Mem W L0 w→calmAt P o a w v)∧wpO P ops Q (Mem W L0) t (a.put o.dst v) (Mem W L)
theorem TW_plain (ho:ops[i]?=some o) (hg:o.guard=none) (h:TN P n W ops Q L0 o t fr L):TW P n W ops Q L0 (.calm i t) fr L:=⟨fun a hrep=>by
  obtain⟨v,h1,h2⟩:=h.go a hrep
  exact⟨o,v,ho,by rw[if_pos (wanted_none hg)];exact h1,h2⟩⟩
theorem TW_gmet {q e:Nat} {b:Bool} (ho:ops[i]?=some o) (hg:o.guard=some (q,b)) (hj:(ops[q]?).bind (·.dst)=some e) (hl:look fr e=some (.bool b)) (h:TN P n W ops Q L0 o t fr L):TW P n W ops Q L0 (.calm i t) fr L:=⟨fun a hrep=>by
  obtain⟨v,h1,h2⟩:=h.go a hrep
  exact⟨o,v,ho,by rw[if_pos (wanted_yes hrep hg hj hl)];exact h1,h2⟩⟩
theorem TN_val (hr:RR P n W o fr L0 v) (hd:o.dst=some d) (hn:Nat.blt d n=true) (h:TW P n W ops Q L0 t ((d,v)::fr) L):TN P n W ops Q L0 o t fr L:=⟨fun a hrep=>
  ⟨v,fun w hw=>by unfold calmAt;rw[hr.go a w hrep hw];exact⟨rfl,Gr.refl _⟩,by rw[hd];exact h.go _ (hrep.put hn v)⟩⟩
theorem QW (hr:RR P n W o fr L0 v) (h:TW P n W ops Q L0 t ((d,v)::fr) L) (hd:o.dst=some d:=by exact rfl) (hn:Nat.blt d n=true:=by exact rfl):TN P n W ops Q L0 o t fr L:=TN_val hr hd hn h
end
end Go.Proofs.Ytldiodhdefnlaaa.eng

/- Go3 -/
namespace Go.Proofs.Ytldiodhdefnlaaa.eng
open Go.RowKit kit mix
section
variable {P:Program} {n:Nat} {W:Base} {fr:Fr} {L L0:List Own} {Q:Exit→Act→World→Prop} {ops:Array Oper} {rest:List Oper} {d i:Nat} {o:Oper} {v:Value} {t:Ord}
inductive Gd (ops:Array Oper) (fr:Fr) (o:Oper):Prop
  | no (h:o.guard=none)
  | yes (q e:Nat) (b:Bool) (hg:o.guard=some (q,b)) (hj:(ops[q]?).bind (·.dst)=some e) (hl:look fr e=some (.bool b))
theorem RR.bare (h:RR P n W o fr L v):RR P n W { o with guard:=none } fr L v:=⟨fun a w hr hm=>h.go a w hr hm⟩
theorem TL_gd (hr:RR P n W o fr L v) (hg:Gd ops fr o) (hd:o.dst=some d) (hn:Nat.blt d n=true) (h:TL P n W ops Q rest ((d,v)::fr) L):TL P n W ops Q (o::rest) fr L:=by
  rcases hg with hg | ⟨q,e,b,hg,hj,hl⟩
  · exact TL_val hr hg hd hn h
  · exact TL_metg hg hj hl (TL_val hr.bare rfl hd hn h)
theorem gV (hr:RR P n W o fr L v) (h:TL P n W ops Q rest ((d,v)::fr) L) (hg:Gd ops fr o:=by first | exact Gd.no rfl | exact Gd.yes _ _ _ rfl rfl rfl) (hd:o.dst=some d:=by exact rfl) (hn:Nat.blt d n=true:=by exact rfl):TL P n W ops Q (o::rest) fr L:=TL_gd hr hg hd hn h
theorem QK {dst:Option Tmp} {ty:TypeId} {pos:String} {after:Array Edge} {guard:Option (Nat×Bool)} {x:Operand} {a:Addr} (hx:ev fr x=some (.pointer (some a)):=by exact rfl):RR P n W ⟨dst,.nilCheck x,ty,pos,after,guard⟩ fr L (.pointer (some a)):= .mk fun act w hr _=>by
  simp[execOp,hr.ev hx]
end
structure Hid (B:Prop):Prop where
  go:B
theorem GC {A B:Prop} (h:B) (t:Hid B→A:=by
  intro h0
  first | refine gV QP ?_ | refine QZ ?_ | refine qcT rfl ?_ | refine qcF rfl ?_ | refine E_blockX ?_ | refine E_blockO rfl ?_ | refine qs rfl rfl rfl rfl rfl rfl ?_
  repeat (first | refine gV QP ?_ | refine QZ ?_ | refine qcT rfl ?_ | refine qcF rfl ?_ | refine E_blockX ?_ | refine E_blockO rfl ?_ | refine qs rfl rfl rfl rfl rfl rfl ?_)
  exact h0.go):A:=t ⟨h⟩
theorem GB {A B:Prop} (h:B) (t:Hid B→A:=by
  intro h0
  refine gV (by first | exact QA | exact QK | exact QL | exact QS | exact rr_not rfl rfl | exact QlT | exact QlF | exact QeT | exact QeF | exact QnT | exact QnF | exact QaA | exact QgT | exact QgF | exact QhT | exact QhF | exact QmT | exact QmF | exact QaS | exact QaM | exact rr_min rfl rfl (by omega) | exact rr_max rfl rfl (by omega)) ?_
  exact h0.go):A:=t ⟨h⟩
theorem GA {A B:Prop} (h:B) (t:Hid B→A:=by
  intro h0
  first | refine GC ?_ | refine GB ?_
  repeat (first | refine GC ?_ | refine GB ?_)
  exact h0.go):A:=t ⟨h⟩
theorem GN {A B:Prop} (h:B) (t:Hid B→A:=by
  intro h0
  first | refine TW_plain rfl rfl ?_ | refine TW_gmet rfl rfl rfl rfl ?_
  exact h0.go):A:=t ⟨h⟩
theorem GX {A B:Prop} (h:B) (t:Hid B→A:=by
  intro h0
  first | refine QW QP ?_ | refine QW (by first | exact QA | exact QK | exact QL | exact QS | exact rr_not rfl rfl | exact QlT | exact QlF | exact QeT | exact QeF | exact QnT | exact QnF | exact QaA | exact QgT | exact QgF | exact QhT | exact QhF | exact QmT | exact QmF | exact QaS | exact QaM | exact rr_min rfl rfl (by omega) | exact rr_max rfl rfl (by omega)) ?_
  exact h0.go):A:=t ⟨h⟩
theorem GW {A B:Prop} (h:B) (t:Hid B→A:=by
  intro h0
  first | (refine GN ?_;refine GX ?_) | refine TW_skip rfl rfl rfl rfl rfl rfl rfl ?_ | refine TW_done ?_
  repeat (first | (refine GN ?_;refine GX ?_) | refine TW_skip rfl rfl rfl rfl rfl rfl rfl ?_ | refine TW_done ?_)
  exact h0.go):A:=t ⟨h⟩
end Go.Proofs.Ytldiodhdefnlaaa.eng

/- Ty -/
namespace Go.Proofs.Ytldiodhdefnlaaa.eng
instance:Und Try.prog 2 (.int .i64):=⟨Try.underlying2⟩
instance:TyC Try.prog 2 false 1:=⟨Ty.of (by kernel_rfl)⟩
instance:ZeroC Try.prog 2 #[.int .i64 0]:=⟨by kernel_rfl⟩
instance:Und Try.prog 3 (.int .i64):=⟨Try.underlying3⟩
instance:TyC Try.prog 3 false 1:=⟨Ty.of (by kernel_rfl)⟩
instance:ZeroC Try.prog 3 #[.int .i64 0]:=⟨by kernel_rfl⟩
instance:Und Try.prog 4 (.bool):=⟨Try.underlying4⟩
instance:TyC Try.prog 4 false 1:=⟨Ty.of (by kernel_rfl)⟩
instance:ZeroC Try.prog 4 #[.bool false]:=⟨by kernel_rfl⟩
instance:Und Try.prog 5 (.int .u8):=⟨Try.underlying5⟩
instance:TyC Try.prog 5 false 1:=⟨Ty.of (by kernel_rfl)⟩
instance:ZeroC Try.prog 5 #[.int .u8 0]:=⟨by kernel_rfl⟩
instance:FldC Try.prog 7 0 0:=⟨Fld.of (by kernel_rfl)⟩
instance:FldC Try.prog 7 1 1:=⟨Fld.of (by kernel_rfl)⟩
instance:FldC Try.prog 7 2 2:=⟨Fld.of (by kernel_rfl)⟩
instance:FldC Try.prog 7 3 3:=⟨Fld.of (by kernel_rfl)⟩
instance:TyC Try.prog 7 true 4:=⟨Ty.of (by kernel_rfl)⟩
instance:ZeroC Try.prog 7 #[.int .i64 0,.int .i64 0,.bool false,.int .u8 0]:=⟨by kernel_rfl⟩
instance:Und Try.prog 9 (.string):=⟨Try.underlying9⟩
instance:TyC Try.prog 9 false 1:=⟨Ty.of (by kernel_rfl)⟩
instance:ZeroC Try.prog 9 #[.string ⟨#[]⟩]:=⟨by kernel_rfl⟩
instance:Und Try.prog 12 (.int .u64):=⟨Try.underlying12⟩
instance:TyC Try.prog 12 false 1:=⟨Ty.of (by kernel_rfl)⟩
instance:ZeroC Try.prog 12 #[.int .u64 0]:=⟨by kernel_rfl⟩
instance:FldC Try.prog 13 0 0:=⟨Fld.of (by kernel_rfl)⟩
instance:FldC Try.prog 13 1 1:=⟨Fld.of (by kernel_rfl)⟩
instance:TyC Try.prog 13 true 2:=⟨Ty.of (by kernel_rfl)⟩
instance:ZeroC Try.prog 13 #[.string ⟨#[]⟩,.int .u64 0]:=⟨by kernel_rfl⟩
instance:Und Try.prog 21 (.int .i32):=⟨Try.underlying21⟩
instance:TyC Try.prog 21 false 1:=⟨Ty.of (by kernel_rfl)⟩
instance:ZeroC Try.prog 21 #[.int .i32 0]:=⟨by kernel_rfl⟩
instance:Und Try.prog 22 (.slice 87):=⟨Try.underlying22⟩
instance:TyC Try.prog 22 false 1:=⟨Ty.of (by kernel_rfl)⟩
instance:ElC Try.prog 22 87 7 80:=⟨El.of (by kernel_rfl)⟩
instance:ZeroC Try.prog 22 #[.slice none 0 0]:=⟨by kernel_rfl⟩
instance:Und Try.prog 23 (.slice 78):=⟨Try.underlying23⟩
instance:TyC Try.prog 23 false 1:=⟨Ty.of (by kernel_rfl)⟩
instance:ElC Try.prog 23 78 2 40:=⟨El.of (by kernel_rfl)⟩
instance:ZeroC Try.prog 23 #[.slice none 0 0]:=⟨by kernel_rfl⟩
instance:FldC Try.prog 24 0 0:=⟨Fld.of (by kernel_rfl)⟩
instance:FldC Try.prog 24 1 1:=⟨Fld.of (by kernel_rfl)⟩
instance:TyC Try.prog 24 true 2:=⟨Ty.of (by kernel_rfl)⟩
instance:ZeroC Try.prog 24 #[.slice none 0 0,.slice none 0 0]:=⟨by kernel_rfl⟩
instance:FldC Try.prog 25 0 0:=⟨Fld.of (by kernel_rfl)⟩
instance:FldC Try.prog 25 1 1:=⟨Fld.of (by kernel_rfl)⟩
instance:TyC Try.prog 25 true 2:=⟨Ty.of (by kernel_rfl)⟩
instance:ZeroC Try.prog 25 #[.slice none 0 0,.slice none 0 0]:=⟨by kernel_rfl⟩
instance:Und Try.prog 26 (.slice 3):=⟨Try.underlying26⟩
instance:TyC Try.prog 26 false 1:=⟨Ty.of (by kernel_rfl)⟩
instance:ElC Try.prog 26 3 1 8:=⟨El.of (by kernel_rfl)⟩
instance:ZeroC Try.prog 26 #[.slice none 0 0]:=⟨by kernel_rfl⟩
instance:Und Try.prog 27 (.array 256 5):=⟨Try.underlying27⟩
instance:TyC Try.prog 27 true 256:=⟨Ty.of (by kernel_rfl)⟩
instance:ZeroC Try.prog 27 (List.replicate 256 (.int .u8 0:Value)).toArray:=⟨by kernel_rfl⟩
instance:Und Try.prog 28 (.slice 26):=⟨Try.underlying28⟩
instance:TyC Try.prog 28 false 1:=⟨Ty.of (by kernel_rfl)⟩
instance:ElC Try.prog 28 26 1 24:=⟨El.of (by kernel_rfl)⟩
instance:ZeroC Try.prog 28 #[.slice none 0 0]:=⟨by kernel_rfl⟩
instance:FldC Try.prog 29 0 0:=⟨Fld.of (by kernel_rfl)⟩
instance:FldC Try.prog 29 1 256:=⟨Fld.of (by kernel_rfl)⟩
instance:FldC Try.prog 29 2 257:=⟨Fld.of (by kernel_rfl)⟩
instance:TyC Try.prog 29 true 258:=⟨Ty.of (by kernel_rfl)⟩
instance:ZeroC Try.prog 29 (List.replicate 256 (.int .u8 0:Value)++([.slice none 0 0,.slice none 0 0]:List Value)).toArray:=⟨by kernel_rfl⟩
instance:FldC Try.prog 30 0 0:=⟨Fld.of (by kernel_rfl)⟩
instance:FldC Try.prog 30 1 256:=⟨Fld.of (by kernel_rfl)⟩
instance:FldC Try.prog 30 2 257:=⟨Fld.of (by kernel_rfl)⟩
instance:TyC Try.prog 30 true 258:=⟨Ty.of (by kernel_rfl)⟩
instance:ZeroC Try.prog 30 (List.replicate 256 (.int .u8 0:Value)++([.slice none 0 0,.slice none 0 0]:List Value)).toArray:=⟨by kernel_rfl⟩
instance:Und Try.prog 31 (.slice 63):=⟨Try.underlying31⟩
instance:TyC Try.prog 31 false 1:=⟨Ty.of (by kernel_rfl)⟩
instance:ElC Try.prog 31 63 2 32:=⟨El.of (by kernel_rfl)⟩
instance:ZeroC Try.prog 31 #[.slice none 0 0]:=⟨by kernel_rfl⟩
instance:FldC Try.prog 32 0 0:=⟨Fld.of (by kernel_rfl)⟩
instance:FldC Try.prog 32 1 1:=⟨Fld.of (by kernel_rfl)⟩
instance:FldC Try.prog 32 2 2:=⟨Fld.of (by kernel_rfl)⟩
instance:TyC Try.prog 32 true 3:=⟨Ty.of (by kernel_rfl)⟩
instance:ZeroC Try.prog 32 #[.int .i64 0,.int .i64 0,.slice none 0 0]:=⟨by kernel_rfl⟩
instance:FldC Try.prog 33 0 0:=⟨Fld.of (by kernel_rfl)⟩
instance:FldC Try.prog 33 1 1:=⟨Fld.of (by kernel_rfl)⟩
instance:FldC Try.prog 33 2 2:=⟨Fld.of (by kernel_rfl)⟩
instance:TyC Try.prog 33 true 3:=⟨Ty.of (by kernel_rfl)⟩
instance:ZeroC Try.prog 33 #[.int .i64 0,.int .i64 0,.slice none 0 0]:=⟨by kernel_rfl⟩
instance:Und Try.prog 34 (.slice 106):=⟨Try.underlying34⟩
instance:TyC Try.prog 34 false 1:=⟨Ty.of (by kernel_rfl)⟩
instance:ElC Try.prog 34 106 1 24:=⟨El.of (by kernel_rfl)⟩
instance:ZeroC Try.prog 34 #[.slice none 0 0]:=⟨by kernel_rfl⟩
instance:FldC Try.prog 35 0 0:=⟨Fld.of (by kernel_rfl)⟩
instance:FldC Try.prog 35 1 1:=⟨Fld.of (by kernel_rfl)⟩
instance:TyC Try.prog 35 true 2:=⟨Ty.of (by kernel_rfl)⟩
instance:ZeroC Try.prog 35 #[.slice none 0 0,.slice none 0 0]:=⟨by kernel_rfl⟩
instance:FldC Try.prog 36 0 0:=⟨Fld.of (by kernel_rfl)⟩
instance:FldC Try.prog 36 1 1:=⟨Fld.of (by kernel_rfl)⟩
instance:TyC Try.prog 36 true 2:=⟨Ty.of (by kernel_rfl)⟩
instance:ZeroC Try.prog 36 #[.slice none 0 0,.slice none 0 0]:=⟨by kernel_rfl⟩
instance:FldC Try.prog 37 0 0:=⟨Fld.of (by kernel_rfl)⟩
instance:FldC Try.prog 37 1 1:=⟨Fld.of (by kernel_rfl)⟩
instance:FldC Try.prog 37 2 259:=⟨Fld.of (by kernel_rfl)⟩
instance:FldC Try.prog 37 3 262:=⟨Fld.of (by kernel_rfl)⟩
instance:FldC Try.prog 37 4 263:=⟨Fld.of (by kernel_rfl)⟩
instance:FldC Try.prog 37 5 264:=⟨Fld.of (by kernel_rfl)⟩
instance:TyC Try.prog 37 true 266:=⟨Ty.of (by kernel_rfl)⟩
instance:ZeroC Try.prog 37 (([.slice none 0 0]:List Value)++List.replicate 256 (.int .u8 0:Value)++([.slice none 0 0,.slice none 0 0,.int .i64 0,.int .i64 0,.slice none 0 0,.int .i64 0,.slice none 0 0,.slice none 0 0,.slice none 0 0]:List Value)).toArray:=⟨by kernel_rfl⟩
instance:FldC Try.prog 38 0 0:=⟨Fld.of (by kernel_rfl)⟩
instance:FldC Try.prog 38 1 1:=⟨Fld.of (by kernel_rfl)⟩
instance:FldC Try.prog 38 2 259:=⟨Fld.of (by kernel_rfl)⟩
instance:FldC Try.prog 38 3 262:=⟨Fld.of (by kernel_rfl)⟩
instance:FldC Try.prog 38 4 263:=⟨Fld.of (by kernel_rfl)⟩
instance:FldC Try.prog 38 5 264:=⟨Fld.of (by kernel_rfl)⟩
instance:TyC Try.prog 38 true 266:=⟨Ty.of (by kernel_rfl)⟩
instance:ZeroC Try.prog 38 (([.slice none 0 0]:List Value)++List.replicate 256 (.int .u8 0:Value)++([.slice none 0 0,.slice none 0 0,.int .i64 0,.int .i64 0,.slice none 0 0,.int .i64 0,.slice none 0 0,.slice none 0 0,.slice none 0 0]:List Value)).toArray:=⟨by kernel_rfl⟩
instance:Und Try.prog 39 (.int .i64):=⟨Try.underlying39⟩
instance:TyC Try.prog 39 false 1:=⟨Ty.of (by kernel_rfl)⟩
instance:ZeroC Try.prog 39 #[.int .i64 0]:=⟨by kernel_rfl⟩
instance:Und Try.prog 42 (.slice 69):=⟨Try.underlying42⟩
instance:TyC Try.prog 42 false 1:=⟨Ty.of (by kernel_rfl)⟩
instance:ElC Try.prog 42 69 4 32:=⟨El.of (by kernel_rfl)⟩
instance:ZeroC Try.prog 42 #[.slice none 0 0]:=⟨by kernel_rfl⟩
instance:Und Try.prog 45 (.slice 4):=⟨Try.underlying45⟩
instance:TyC Try.prog 45 false 1:=⟨Ty.of (by kernel_rfl)⟩
instance:ElC Try.prog 45 4 1 1:=⟨El.of (by kernel_rfl)⟩
instance:ZeroC Try.prog 45 #[.slice none 0 0]:=⟨by kernel_rfl⟩
instance:Und Try.prog 46 (.slice 64):=⟨Try.underlying46⟩
instance:TyC Try.prog 46 false 1:=⟨Ty.of (by kernel_rfl)⟩
instance:ElC Try.prog 46 64 1 8:=⟨El.of (by kernel_rfl)⟩
instance:ZeroC Try.prog 46 #[.slice none 0 0]:=⟨by kernel_rfl⟩
instance:FldC Try.prog 47 0 0:=⟨Fld.of (by kernel_rfl)⟩
instance:FldC Try.prog 47 1 1:=⟨Fld.of (by kernel_rfl)⟩
instance:FldC Try.prog 47 2 2:=⟨Fld.of (by kernel_rfl)⟩
instance:FldC Try.prog 47 3 3:=⟨Fld.of (by kernel_rfl)⟩
instance:FldC Try.prog 47 4 4:=⟨Fld.of (by kernel_rfl)⟩
instance:TyC Try.prog 47 true 5:=⟨Ty.of (by kernel_rfl)⟩
instance:ZeroC Try.prog 47 #[.slice none 0 0,.slice none 0 0,.slice none 0 0,.slice none 0 0,.slice none 0 0]:=⟨by kernel_rfl⟩
instance:FldC Try.prog 48 0 0:=⟨Fld.of (by kernel_rfl)⟩
instance:FldC Try.prog 48 1 1:=⟨Fld.of (by kernel_rfl)⟩
instance:FldC Try.prog 48 2 2:=⟨Fld.of (by kernel_rfl)⟩
instance:FldC Try.prog 48 3 3:=⟨Fld.of (by kernel_rfl)⟩
instance:FldC Try.prog 48 4 4:=⟨Fld.of (by kernel_rfl)⟩
instance:TyC Try.prog 48 true 5:=⟨Ty.of (by kernel_rfl)⟩
instance:ZeroC Try.prog 48 #[.slice none 0 0,.slice none 0 0,.slice none 0 0,.slice none 0 0,.slice none 0 0]:=⟨by kernel_rfl⟩
instance:Und Try.prog 57 (.pointer 38):=⟨Try.underlying57⟩
instance:TyC Try.prog 57 false 1:=⟨Ty.of (by kernel_rfl)⟩
instance:ZeroC Try.prog 57 #[.pointer none]:=⟨by kernel_rfl⟩
instance:Und Try.prog 58 (.slice 111):=⟨Try.underlying58⟩
instance:TyC Try.prog 58 false 1:=⟨Ty.of (by kernel_rfl)⟩
instance:ElC Try.prog 58 111 6 48:=⟨El.of (by kernel_rfl)⟩
instance:ZeroC Try.prog 58 #[.slice none 0 0]:=⟨by kernel_rfl⟩
instance:Und Try.prog 61 (.slice 112):=⟨Try.underlying61⟩
instance:TyC Try.prog 61 false 1:=⟨Ty.of (by kernel_rfl)⟩
instance:ElC Try.prog 61 112 2 16:=⟨El.of (by kernel_rfl)⟩
instance:ZeroC Try.prog 61 #[.slice none 0 0]:=⟨by kernel_rfl⟩
instance:FldC Try.prog 62 0 0:=⟨Fld.of (by kernel_rfl)⟩
instance:FldC Try.prog 62 1 1:=⟨Fld.of (by kernel_rfl)⟩
instance:TyC Try.prog 62 true 2:=⟨Ty.of (by kernel_rfl)⟩
instance:ZeroC Try.prog 62 #[.int .i64 0,.slice none 0 0]:=⟨by kernel_rfl⟩
instance:FldC Try.prog 63 0 0:=⟨Fld.of (by kernel_rfl)⟩
instance:FldC Try.prog 63 1 1:=⟨Fld.of (by kernel_rfl)⟩
instance:TyC Try.prog 63 true 2:=⟨Ty.of (by kernel_rfl)⟩
instance:ZeroC Try.prog 63 #[.int .i64 0,.slice none 0 0]:=⟨by kernel_rfl⟩
instance:Und Try.prog 64 (.int .u64):=⟨Try.underlying64⟩
instance:TyC Try.prog 64 false 1:=⟨Ty.of (by kernel_rfl)⟩
instance:ZeroC Try.prog 64 #[.int .u64 0]:=⟨by kernel_rfl⟩
instance:FldC Try.prog 68 0 0:=⟨Fld.of (by kernel_rfl)⟩
instance:FldC Try.prog 68 1 1:=⟨Fld.of (by kernel_rfl)⟩
instance:FldC Try.prog 68 2 2:=⟨Fld.of (by kernel_rfl)⟩
instance:FldC Try.prog 68 3 3:=⟨Fld.of (by kernel_rfl)⟩
instance:TyC Try.prog 68 true 4:=⟨Ty.of (by kernel_rfl)⟩
instance:ZeroC Try.prog 68 #[.int .i64 0,.int .i64 0,.int .i64 0,.int .i64 0]:=⟨by kernel_rfl⟩
instance:FldC Try.prog 69 0 0:=⟨Fld.of (by kernel_rfl)⟩
instance:FldC Try.prog 69 1 1:=⟨Fld.of (by kernel_rfl)⟩
instance:FldC Try.prog 69 2 2:=⟨Fld.of (by kernel_rfl)⟩
instance:FldC Try.prog 69 3 3:=⟨Fld.of (by kernel_rfl)⟩
instance:TyC Try.prog 69 true 4:=⟨Ty.of (by kernel_rfl)⟩
instance:ZeroC Try.prog 69 #[.int .i64 0,.int .i64 0,.int .i64 0,.int .i64 0]:=⟨by kernel_rfl⟩
instance:Und Try.prog 74 (.map 9 3):=⟨Try.underlying74⟩
instance:TyC Try.prog 74 false 1:=⟨Ty.of (by kernel_rfl)⟩
instance:ZeroC Try.prog 74 #[.map none]:=⟨by kernel_rfl⟩
instance:Und Try.prog 76 (.slice 9):=⟨Try.underlying76⟩
instance:TyC Try.prog 76 false 1:=⟨Ty.of (by kernel_rfl)⟩
instance:ElC Try.prog 76 9 1 16:=⟨El.of (by kernel_rfl)⟩
instance:ZeroC Try.prog 76 #[.slice none 0 0]:=⟨by kernel_rfl⟩
instance:FldC Try.prog 77 0 0:=⟨Fld.of (by kernel_rfl)⟩
instance:FldC Try.prog 77 1 1:=⟨Fld.of (by kernel_rfl)⟩
instance:TyC Try.prog 77 true 2:=⟨Ty.of (by kernel_rfl)⟩
instance:ZeroC Try.prog 77 #[.string ⟨#[]⟩,.slice none 0 0]:=⟨by kernel_rfl⟩
instance:FldC Try.prog 78 0 0:=⟨Fld.of (by kernel_rfl)⟩
instance:FldC Try.prog 78 1 1:=⟨Fld.of (by kernel_rfl)⟩
instance:TyC Try.prog 78 true 2:=⟨Ty.of (by kernel_rfl)⟩
instance:ZeroC Try.prog 78 #[.string ⟨#[]⟩,.slice none 0 0]:=⟨by kernel_rfl⟩
instance:Und Try.prog 81 (.slice 85):=⟨Try.underlying81⟩
instance:TyC Try.prog 81 false 1:=⟨Ty.of (by kernel_rfl)⟩
instance:ElC Try.prog 81 85 6 64:=⟨El.of (by kernel_rfl)⟩
instance:ZeroC Try.prog 81 #[.slice none 0 0]:=⟨by kernel_rfl⟩
instance:Und Try.prog 82 (.array 4 64):=⟨Try.underlying82⟩
instance:TyC Try.prog 82 true 4:=⟨Ty.of (by kernel_rfl)⟩
instance:ZeroC Try.prog 82 #[.int .u64 0,.int .u64 0,.int .u64 0,.int .u64 0]:=⟨by kernel_rfl⟩
instance:Und Try.prog 83 (.array 4 64):=⟨Try.underlying83⟩
instance:TyC Try.prog 83 true 4:=⟨Ty.of (by kernel_rfl)⟩
instance:ZeroC Try.prog 83 #[.int .u64 0,.int .u64 0,.int .u64 0,.int .u64 0]:=⟨by kernel_rfl⟩
instance:FldC Try.prog 84 0 0:=⟨Fld.of (by kernel_rfl)⟩
instance:FldC Try.prog 84 1 1:=⟨Fld.of (by kernel_rfl)⟩
instance:FldC Try.prog 84 2 5:=⟨Fld.of (by kernel_rfl)⟩
instance:TyC Try.prog 84 true 6:=⟨Ty.of (by kernel_rfl)⟩
instance:ZeroC Try.prog 84 #[.int .i64 0,.int .u64 0,.int .u64 0,.int .u64 0,.int .u64 0,.slice none 0 0]:=⟨by kernel_rfl⟩
instance:FldC Try.prog 85 0 0:=⟨Fld.of (by kernel_rfl)⟩
instance:FldC Try.prog 85 1 1:=⟨Fld.of (by kernel_rfl)⟩
instance:FldC Try.prog 85 2 5:=⟨Fld.of (by kernel_rfl)⟩
instance:TyC Try.prog 85 true 6:=⟨Ty.of (by kernel_rfl)⟩
instance:ZeroC Try.prog 85 #[.int .i64 0,.int .u64 0,.int .u64 0,.int .u64 0,.int .u64 0,.slice none 0 0]:=⟨by kernel_rfl⟩
instance:FldC Try.prog 86 0 0:=⟨Fld.of (by kernel_rfl)⟩
instance:FldC Try.prog 86 1 1:=⟨Fld.of (by kernel_rfl)⟩
instance:TyC Try.prog 86 true 7:=⟨Ty.of (by kernel_rfl)⟩
instance:ZeroC Try.prog 86 #[.string ⟨#[]⟩,.int .i64 0,.int .u64 0,.int .u64 0,.int .u64 0,.int .u64 0,.slice none 0 0]:=⟨by kernel_rfl⟩
instance:FldC Try.prog 87 0 0:=⟨Fld.of (by kernel_rfl)⟩
instance:FldC Try.prog 87 1 1:=⟨Fld.of (by kernel_rfl)⟩
instance:TyC Try.prog 87 true 7:=⟨Ty.of (by kernel_rfl)⟩
instance:ZeroC Try.prog 87 #[.string ⟨#[]⟩,.int .i64 0,.int .u64 0,.int .u64 0,.int .u64 0,.int .u64 0,.slice none 0 0]:=⟨by kernel_rfl⟩
instance:Und Try.prog 88 (.slice 83):=⟨Try.underlying88⟩
instance:TyC Try.prog 88 false 1:=⟨Ty.of (by kernel_rfl)⟩
instance:ElC Try.prog 88 83 4 32:=⟨El.of (by kernel_rfl)⟩
instance:ZeroC Try.prog 88 #[.slice none 0 0]:=⟨by kernel_rfl⟩
instance:FldC Try.prog 89 0 0:=⟨Fld.of (by kernel_rfl)⟩
instance:FldC Try.prog 89 1 1:=⟨Fld.of (by kernel_rfl)⟩
instance:FldC Try.prog 89 2 2:=⟨Fld.of (by kernel_rfl)⟩
instance:FldC Try.prog 89 3 3:=⟨Fld.of (by kernel_rfl)⟩
instance:FldC Try.prog 89 4 4:=⟨Fld.of (by kernel_rfl)⟩
instance:FldC Try.prog 89 5 5:=⟨Fld.of (by kernel_rfl)⟩
instance:TyC Try.prog 89 true 6:=⟨Ty.of (by kernel_rfl)⟩
instance:ZeroC Try.prog 89 #[.slice none 0 0,.slice none 0 0,.slice none 0 0,.slice none 0 0,.slice none 0 0,.slice none 0 0]:=⟨by kernel_rfl⟩
instance:FldC Try.prog 90 0 0:=⟨Fld.of (by kernel_rfl)⟩
instance:FldC Try.prog 90 1 1:=⟨Fld.of (by kernel_rfl)⟩
instance:FldC Try.prog 90 2 2:=⟨Fld.of (by kernel_rfl)⟩
instance:FldC Try.prog 90 3 3:=⟨Fld.of (by kernel_rfl)⟩
instance:FldC Try.prog 90 4 4:=⟨Fld.of (by kernel_rfl)⟩
instance:FldC Try.prog 90 5 5:=⟨Fld.of (by kernel_rfl)⟩
instance:TyC Try.prog 90 true 6:=⟨Ty.of (by kernel_rfl)⟩
instance:ZeroC Try.prog 90 #[.slice none 0 0,.slice none 0 0,.slice none 0 0,.slice none 0 0,.slice none 0 0,.slice none 0 0]:=⟨by kernel_rfl⟩
instance:Und Try.prog 93 (.slice 138):=⟨Try.underlying93⟩
instance:TyC Try.prog 93 false 1:=⟨Ty.of (by kernel_rfl)⟩
instance:ElC Try.prog 93 138 256 512:=⟨El.of (by kernel_rfl)⟩
instance:ZeroC Try.prog 93 #[.slice none 0 0]:=⟨by kernel_rfl⟩
instance:FldC Try.prog 94 0 0:=⟨Fld.of (by kernel_rfl)⟩
instance:FldC Try.prog 94 1 1:=⟨Fld.of (by kernel_rfl)⟩
instance:TyC Try.prog 94 true 2:=⟨Ty.of (by kernel_rfl)⟩
instance:ZeroC Try.prog 94 #[.slice none 0 0,.slice none 0 0]:=⟨by kernel_rfl⟩
instance:FldC Try.prog 95 0 0:=⟨Fld.of (by kernel_rfl)⟩
instance:FldC Try.prog 95 1 1:=⟨Fld.of (by kernel_rfl)⟩
instance:TyC Try.prog 95 true 2:=⟨Ty.of (by kernel_rfl)⟩
instance:ZeroC Try.prog 95 #[.slice none 0 0,.slice none 0 0]:=⟨by kernel_rfl⟩
instance:Und Try.prog 101 (.slice 148):=⟨Try.underlying101⟩
instance:TyC Try.prog 101 false 1:=⟨Ty.of (by kernel_rfl)⟩
instance:ElC Try.prog 101 148 1 24:=⟨El.of (by kernel_rfl)⟩
instance:ZeroC Try.prog 101 #[.slice none 0 0]:=⟨by kernel_rfl⟩
instance:FldC Try.prog 102 0 0:=⟨Fld.of (by kernel_rfl)⟩
instance:FldC Try.prog 102 1 1:=⟨Fld.of (by kernel_rfl)⟩
instance:TyC Try.prog 102 true 2:=⟨Ty.of (by kernel_rfl)⟩
instance:ZeroC Try.prog 102 #[.slice none 0 0,.slice none 0 0]:=⟨by kernel_rfl⟩
instance:FldC Try.prog 103 0 0:=⟨Fld.of (by kernel_rfl)⟩
instance:FldC Try.prog 103 1 1:=⟨Fld.of (by kernel_rfl)⟩
instance:TyC Try.prog 103 true 2:=⟨Ty.of (by kernel_rfl)⟩
instance:ZeroC Try.prog 103 #[.slice none 0 0,.slice none 0 0]:=⟨by kernel_rfl⟩
instance:Und Try.prog 106 (.slice 109):=⟨Try.underlying106⟩
instance:TyC Try.prog 106 false 1:=⟨Ty.of (by kernel_rfl)⟩
instance:ElC Try.prog 106 109 2 16:=⟨El.of (by kernel_rfl)⟩
instance:ZeroC Try.prog 106 #[.slice none 0 0]:=⟨by kernel_rfl⟩
instance:FldC Try.prog 108 0 0:=⟨Fld.of (by kernel_rfl)⟩
instance:FldC Try.prog 108 1 1:=⟨Fld.of (by kernel_rfl)⟩
instance:TyC Try.prog 108 true 2:=⟨Ty.of (by kernel_rfl)⟩
instance:ZeroC Try.prog 108 #[.int .i64 0,.int .i64 0]:=⟨by kernel_rfl⟩
instance:FldC Try.prog 109 0 0:=⟨Fld.of (by kernel_rfl)⟩
instance:FldC Try.prog 109 1 1:=⟨Fld.of (by kernel_rfl)⟩
instance:TyC Try.prog 109 true 2:=⟨Ty.of (by kernel_rfl)⟩
instance:ZeroC Try.prog 109 #[.int .i64 0,.int .i64 0]:=⟨by kernel_rfl⟩
instance:FldC Try.prog 110 0 0:=⟨Fld.of (by kernel_rfl)⟩
instance:FldC Try.prog 110 1 1:=⟨Fld.of (by kernel_rfl)⟩
instance:FldC Try.prog 110 2 2:=⟨Fld.of (by kernel_rfl)⟩
instance:FldC Try.prog 110 3 4:=⟨Fld.of (by kernel_rfl)⟩
instance:TyC Try.prog 110 true 6:=⟨Ty.of (by kernel_rfl)⟩
instance:ZeroC Try.prog 110 #[.int .i64 0,.int .i64 0,.int .i64 0,.int .i64 0,.int .i64 0,.int .i64 0]:=⟨by kernel_rfl⟩
instance:FldC Try.prog 111 0 0:=⟨Fld.of (by kernel_rfl)⟩
instance:FldC Try.prog 111 1 1:=⟨Fld.of (by kernel_rfl)⟩
instance:FldC Try.prog 111 2 2:=⟨Fld.of (by kernel_rfl)⟩
instance:FldC Try.prog 111 3 4:=⟨Fld.of (by kernel_rfl)⟩
instance:TyC Try.prog 111 true 6:=⟨Ty.of (by kernel_rfl)⟩
instance:ZeroC Try.prog 111 #[.int .i64 0,.int .i64 0,.int .i64 0,.int .i64 0,.int .i64 0,.int .i64 0]:=⟨by kernel_rfl⟩
instance:FldC Try.prog 112 0 0:=⟨Fld.of (by kernel_rfl)⟩
instance:FldC Try.prog 112 1 1:=⟨Fld.of (by kernel_rfl)⟩
instance:TyC Try.prog 112 true 2:=⟨Ty.of (by kernel_rfl)⟩
instance:ZeroC Try.prog 112 #[.int .i64 0,.int .i64 0]:=⟨by kernel_rfl⟩
instance:Und Try.prog 121 (.pointer 123):=⟨Try.underlying121⟩
instance:TyC Try.prog 121 false 1:=⟨Ty.of (by kernel_rfl)⟩
instance:ZeroC Try.prog 121 #[.pointer none]:=⟨by kernel_rfl⟩
instance:FldC Try.prog 122 0 0:=⟨Fld.of (by kernel_rfl)⟩
instance:FldC Try.prog 122 1 6:=⟨Fld.of (by kernel_rfl)⟩
instance:TyC Try.prog 122 true 7:=⟨Ty.of (by kernel_rfl)⟩
instance:ZeroC Try.prog 122 #[.slice none 0 0,.slice none 0 0,.slice none 0 0,.slice none 0 0,.slice none 0 0,.slice none 0 0,.int .i64 0]:=⟨by kernel_rfl⟩
instance:FldC Try.prog 123 0 0:=⟨Fld.of (by kernel_rfl)⟩
instance:FldC Try.prog 123 1 6:=⟨Fld.of (by kernel_rfl)⟩
instance:TyC Try.prog 123 true 7:=⟨Ty.of (by kernel_rfl)⟩
instance:ZeroC Try.prog 123 #[.slice none 0 0,.slice none 0 0,.slice none 0 0,.slice none 0 0,.slice none 0 0,.slice none 0 0,.int .i64 0]:=⟨by kernel_rfl⟩
instance:FldC Try.prog 124 0 0:=⟨Fld.of (by kernel_rfl)⟩
instance:FldC Try.prog 124 1 1:=⟨Fld.of (by kernel_rfl)⟩
instance:FldC Try.prog 124 2 2:=⟨Fld.of (by kernel_rfl)⟩
instance:TyC Try.prog 124 true 3:=⟨Ty.of (by kernel_rfl)⟩
instance:ZeroC Try.prog 124 #[.bool false,.slice none 0 0,.slice none 0 0]:=⟨by kernel_rfl⟩
instance:FldC Try.prog 125 0 0:=⟨Fld.of (by kernel_rfl)⟩
instance:FldC Try.prog 125 1 1:=⟨Fld.of (by kernel_rfl)⟩
instance:FldC Try.prog 125 2 2:=⟨Fld.of (by kernel_rfl)⟩
instance:TyC Try.prog 125 true 3:=⟨Ty.of (by kernel_rfl)⟩
instance:ZeroC Try.prog 125 #[.bool false,.slice none 0 0,.slice none 0 0]:=⟨by kernel_rfl⟩
instance:Und Try.prog 128 (.map 9 112):=⟨Try.underlying128⟩
instance:TyC Try.prog 128 false 1:=⟨Ty.of (by kernel_rfl)⟩
instance:ZeroC Try.prog 128 #[.map none]:=⟨by kernel_rfl⟩
instance:Und Try.prog 131 (.pointer 135):=⟨Try.underlying131⟩
instance:TyC Try.prog 131 false 1:=⟨Ty.of (by kernel_rfl)⟩
instance:ZeroC Try.prog 131 #[.pointer none]:=⟨by kernel_rfl⟩
instance:Und Try.prog 132 (.slice 162):=⟨Try.underlying132⟩
instance:TyC Try.prog 132 false 1:=⟨Ty.of (by kernel_rfl)⟩
instance:ElC Try.prog 132 162 4 32:=⟨El.of (by kernel_rfl)⟩
instance:ZeroC Try.prog 132 #[.slice none 0 0]:=⟨by kernel_rfl⟩
instance:Und Try.prog 133 (.map 162 3):=⟨Try.underlying133⟩
instance:TyC Try.prog 133 false 1:=⟨Ty.of (by kernel_rfl)⟩
instance:ZeroC Try.prog 133 #[.map none]:=⟨by kernel_rfl⟩
instance:FldC Try.prog 134 0 0:=⟨Fld.of (by kernel_rfl)⟩
instance:FldC Try.prog 134 1 6:=⟨Fld.of (by kernel_rfl)⟩
instance:FldC Try.prog 134 2 7:=⟨Fld.of (by kernel_rfl)⟩
instance:FldC Try.prog 134 3 8:=⟨Fld.of (by kernel_rfl)⟩
instance:TyC Try.prog 134 true 10:=⟨Ty.of (by kernel_rfl)⟩
instance:ZeroC Try.prog 134 #[.slice none 0 0,.slice none 0 0,.slice none 0 0,.slice none 0 0,.slice none 0 0,.slice none 0 0,.slice none 0 0,.map none,.slice none 0 0,.slice none 0 0]:=⟨by kernel_rfl⟩
instance:FldC Try.prog 135 0 0:=⟨Fld.of (by kernel_rfl)⟩
instance:FldC Try.prog 135 1 6:=⟨Fld.of (by kernel_rfl)⟩
instance:FldC Try.prog 135 2 7:=⟨Fld.of (by kernel_rfl)⟩
instance:FldC Try.prog 135 3 8:=⟨Fld.of (by kernel_rfl)⟩
instance:TyC Try.prog 135 true 10:=⟨Ty.of (by kernel_rfl)⟩
instance:ZeroC Try.prog 135 #[.slice none 0 0,.slice none 0 0,.slice none 0 0,.slice none 0 0,.slice none 0 0,.slice none 0 0,.slice none 0 0,.map none,.slice none 0 0,.slice none 0 0]:=⟨by kernel_rfl⟩
instance:Und Try.prog 136 (.int .i16):=⟨Try.underlying136⟩
instance:TyC Try.prog 136 false 1:=⟨Ty.of (by kernel_rfl)⟩
instance:ZeroC Try.prog 136 #[.int .i16 0]:=⟨by kernel_rfl⟩
instance:Und Try.prog 137 (.array 256 136):=⟨Try.underlying137⟩
instance:TyC Try.prog 137 true 256:=⟨Ty.of (by kernel_rfl)⟩
instance:ZeroC Try.prog 137 (List.replicate 256 (.int .i16 0:Value)).toArray:=⟨by kernel_rfl⟩
instance:Und Try.prog 138 (.array 256 136):=⟨Try.underlying138⟩
instance:TyC Try.prog 138 true 256:=⟨Ty.of (by kernel_rfl)⟩
instance:ZeroC Try.prog 138 (List.replicate 256 (.int .i16 0:Value)).toArray:=⟨by kernel_rfl⟩
instance:Und Try.prog 144 (.map 145 3):=⟨Try.underlying144⟩
instance:TyC Try.prog 144 false 1:=⟨Ty.of (by kernel_rfl)⟩
instance:ZeroC Try.prog 144 #[.map none]:=⟨by kernel_rfl⟩
instance:Und Try.prog 145 (.array 200 136):=⟨Try.underlying145⟩
instance:TyC Try.prog 145 true 200:=⟨Ty.of (by kernel_rfl)⟩
instance:ZeroC Try.prog 145 (List.replicate 200 (.int .i16 0:Value)).toArray:=⟨by kernel_rfl⟩
instance:Und Try.prog 146 (.pointer 173):=⟨Try.underlying146⟩
instance:TyC Try.prog 146 false 1:=⟨Ty.of (by kernel_rfl)⟩
instance:ZeroC Try.prog 146 #[.pointer none]:=⟨by kernel_rfl⟩
instance:Und Try.prog 148 (.slice 153):=⟨Try.underlying148⟩
instance:TyC Try.prog 148 false 1:=⟨Ty.of (by kernel_rfl)⟩
instance:ElC Try.prog 148 153 3 24:=⟨El.of (by kernel_rfl)⟩
instance:ZeroC Try.prog 148 #[.slice none 0 0]:=⟨by kernel_rfl⟩
instance:FldC Try.prog 152 0 0:=⟨Fld.of (by kernel_rfl)⟩
instance:FldC Try.prog 152 1 1:=⟨Fld.of (by kernel_rfl)⟩
instance:FldC Try.prog 152 2 2:=⟨Fld.of (by kernel_rfl)⟩
instance:TyC Try.prog 152 true 3:=⟨Ty.of (by kernel_rfl)⟩
instance:ZeroC Try.prog 152 #[.int .i64 0,.int .i64 0,.int .i64 0]:=⟨by kernel_rfl⟩
instance:FldC Try.prog 153 0 0:=⟨Fld.of (by kernel_rfl)⟩
instance:FldC Try.prog 153 1 1:=⟨Fld.of (by kernel_rfl)⟩
instance:FldC Try.prog 153 2 2:=⟨Fld.of (by kernel_rfl)⟩
instance:TyC Try.prog 153 true 3:=⟨Ty.of (by kernel_rfl)⟩
instance:ZeroC Try.prog 153 #[.int .i64 0,.int .i64 0,.int .i64 0]:=⟨by kernel_rfl⟩
instance:Und Try.prog 158 (.pointer 3):=⟨Try.underlying158⟩
instance:TyC Try.prog 158 false 1:=⟨Ty.of (by kernel_rfl)⟩
instance:ZeroC Try.prog 158 #[.pointer none]:=⟨by kernel_rfl⟩
instance:Und Try.prog 162 (.array 4 64):=⟨Try.underlying162⟩
instance:TyC Try.prog 162 true 4:=⟨Ty.of (by kernel_rfl)⟩
instance:ZeroC Try.prog 162 #[.int .u64 0,.int .u64 0,.int .u64 0,.int .u64 0]:=⟨by kernel_rfl⟩
instance:Und Try.prog 168 (.map 170 3):=⟨Try.underlying168⟩
instance:TyC Try.prog 168 false 1:=⟨Ty.of (by kernel_rfl)⟩
instance:ZeroC Try.prog 168 #[.map none]:=⟨by kernel_rfl⟩
instance:FldC Try.prog 169 0 0:=⟨Fld.of (by kernel_rfl)⟩
instance:FldC Try.prog 169 1 1:=⟨Fld.of (by kernel_rfl)⟩
instance:TyC Try.prog 169 true 257:=⟨Ty.of (by kernel_rfl)⟩
instance:ZeroC Try.prog 169 (([.int .i64 0]:List Value)++List.replicate 256 (.int .i16 0:Value)).toArray:=⟨by kernel_rfl⟩
instance:FldC Try.prog 170 0 0:=⟨Fld.of (by kernel_rfl)⟩
instance:FldC Try.prog 170 1 1:=⟨Fld.of (by kernel_rfl)⟩
instance:TyC Try.prog 170 true 257:=⟨Ty.of (by kernel_rfl)⟩
instance:ZeroC Try.prog 170 (([.int .i64 0]:List Value)++List.replicate 256 (.int .i16 0:Value)).toArray:=⟨by kernel_rfl⟩
instance:Und Try.prog 171 (.map 187 64):=⟨Try.underlying171⟩
instance:TyC Try.prog 171 false 1:=⟨Ty.of (by kernel_rfl)⟩
instance:ZeroC Try.prog 171 #[.map none]:=⟨by kernel_rfl⟩
instance:FldC Try.prog 172 0 0:=⟨Fld.of (by kernel_rfl)⟩
instance:FldC Try.prog 172 1 3:=⟨Fld.of (by kernel_rfl)⟩
instance:TyC Try.prog 172 true 4:=⟨Ty.of (by kernel_rfl)⟩
instance:ZeroC Try.prog 172 #[.int .i64 0,.int .i64 0,.slice none 0 0,.map none]:=⟨by kernel_rfl⟩
instance:FldC Try.prog 173 0 0:=⟨Fld.of (by kernel_rfl)⟩
instance:FldC Try.prog 173 1 3:=⟨Fld.of (by kernel_rfl)⟩
instance:TyC Try.prog 173 true 4:=⟨Ty.of (by kernel_rfl)⟩
instance:ZeroC Try.prog 173 #[.int .i64 0,.int .i64 0,.slice none 0 0,.map none]:=⟨by kernel_rfl⟩
instance:Und Try.prog 174 (.slice 5):=⟨Try.underlying174⟩
instance:TyC Try.prog 174 false 1:=⟨Ty.of (by kernel_rfl)⟩
instance:ElC Try.prog 174 5 1 1:=⟨El.of (by kernel_rfl)⟩
instance:ZeroC Try.prog 174 #[.slice none 0 0]:=⟨by kernel_rfl⟩
instance:Und Try.prog 175 (.map 153 3):=⟨Try.underlying175⟩
instance:TyC Try.prog 175 false 1:=⟨Ty.of (by kernel_rfl)⟩
instance:ZeroC Try.prog 175 #[.map none]:=⟨by kernel_rfl⟩
instance:Und Try.prog 184 (.int .u64):=⟨Try.underlying184⟩
instance:TyC Try.prog 184 false 1:=⟨Ty.of (by kernel_rfl)⟩
instance:ZeroC Try.prog 184 #[.int .u64 0]:=⟨by kernel_rfl⟩
instance:Und Try.prog 185 (.pointer 162):=⟨Try.underlying185⟩
instance:TyC Try.prog 185 false 1:=⟨Ty.of (by kernel_rfl)⟩
instance:ZeroC Try.prog 185 #[.pointer none]:=⟨by kernel_rfl⟩
instance:FldC Try.prog 186 0 0:=⟨Fld.of (by kernel_rfl)⟩
instance:FldC Try.prog 186 1 1:=⟨Fld.of (by kernel_rfl)⟩
instance:TyC Try.prog 186 true 2:=⟨Ty.of (by kernel_rfl)⟩
instance:ZeroC Try.prog 186 #[.int .i64 0,.int .i64 0]:=⟨by kernel_rfl⟩
instance:FldC Try.prog 187 0 0:=⟨Fld.of (by kernel_rfl)⟩
instance:FldC Try.prog 187 1 1:=⟨Fld.of (by kernel_rfl)⟩
instance:TyC Try.prog 187 true 2:=⟨Ty.of (by kernel_rfl)⟩
instance:ZeroC Try.prog 187 #[.int .i64 0,.int .i64 0]:=⟨by kernel_rfl⟩
instance:Und Try.prog 193 (.int .i64):=⟨Try.underlying193⟩
instance:TyC Try.prog 193 false 1:=⟨Ty.of (by kernel_rfl)⟩
instance:ZeroC Try.prog 193 #[.int .i64 0]:=⟨by kernel_rfl⟩
instance:Und Try.prog 201 (.int .u32):=⟨Try.underlying201⟩
instance:TyC Try.prog 201 false 1:=⟨Ty.of (by kernel_rfl)⟩
instance:ZeroC Try.prog 201 #[.int .u32 0]:=⟨by kernel_rfl⟩
instance:Und Try.prog 208 (.int .u64):=⟨Try.underlying208⟩
instance:TyC Try.prog 208 false 1:=⟨Ty.of (by kernel_rfl)⟩
instance:ZeroC Try.prog 208 #[.int .u64 0]:=⟨by kernel_rfl⟩
instance:Und Try.prog 215 (.pointer 208):=⟨Try.underlying215⟩
instance:TyC Try.prog 215 false 1:=⟨Ty.of (by kernel_rfl)⟩
instance:ZeroC Try.prog 215 #[.pointer none]:=⟨by kernel_rfl⟩
instance:Und Try.prog 229 (.pointer 5):=⟨Try.underlying229⟩
instance:TyC Try.prog 229 false 1:=⟨Ty.of (by kernel_rfl)⟩
instance:ZeroC Try.prog 229 #[.pointer none]:=⟨by kernel_rfl⟩
instance:FldC Try.prog 232 0 0:=⟨Fld.of (by kernel_rfl)⟩
instance:FldC Try.prog 232 1 1:=⟨Fld.of (by kernel_rfl)⟩
instance:FldC Try.prog 232 2 2:=⟨Fld.of (by kernel_rfl)⟩
instance:FldC Try.prog 232 3 3:=⟨Fld.of (by kernel_rfl)⟩
instance:FldC Try.prog 232 4 4:=⟨Fld.of (by kernel_rfl)⟩
instance:FldC Try.prog 232 5 5:=⟨Fld.of (by kernel_rfl)⟩
instance:FldC Try.prog 232 6 6:=⟨Fld.of (by kernel_rfl)⟩
instance:FldC Try.prog 232 7 7:=⟨Fld.of (by kernel_rfl)⟩
instance:FldC Try.prog 232 8 8:=⟨Fld.of (by kernel_rfl)⟩
instance:FldC Try.prog 232 9 9:=⟨Fld.of (by kernel_rfl)⟩
instance:FldC Try.prog 232 10 10:=⟨Fld.of (by kernel_rfl)⟩
instance:TyC Try.prog 232 true 11:=⟨Ty.of (by kernel_rfl)⟩
instance:ZeroC Try.prog 232 #[.int .u64 0,.int .u64 0,.int .u32 0,.int .u8 0,.int .u8 0,.int .u8 0,.int .u8 0,.nilFunc,.pointer none,.int .i32 0,.int .i32 0]:=⟨by kernel_rfl⟩
instance:EntersC Try.prog 3:=⟨Enters.of (by kernel_rfl)⟩
instance:EntersC Try.prog 4:=⟨Enters.of (by kernel_rfl)⟩
instance:EntersC Try.prog 5:=⟨Enters.of (by kernel_rfl)⟩
instance:EntersC Try.prog 6:=⟨Enters.of (by kernel_rfl)⟩
instance:EntersC Try.prog 7:=⟨Enters.of (by kernel_rfl)⟩
instance:EntersC Try.prog 8:=⟨Enters.of (by kernel_rfl)⟩
instance:EntersC Try.prog 9:=⟨Enters.of (by kernel_rfl)⟩
instance:EntersC Try.prog 10:=⟨Enters.of (by kernel_rfl)⟩
instance:EntersC Try.prog 11:=⟨Enters.of (by kernel_rfl)⟩
instance:EntersC Try.prog 12:=⟨Enters.of (by kernel_rfl)⟩
instance:EntersC Try.prog 13:=⟨Enters.of (by kernel_rfl)⟩
instance:EntersC Try.prog 14:=⟨Enters.of (by kernel_rfl)⟩
instance:EntersC Try.prog 15:=⟨Enters.of (by kernel_rfl)⟩
instance:EntersC Try.prog 16:=⟨Enters.of (by kernel_rfl)⟩
instance:EntersC Try.prog 17:=⟨Enters.of (by kernel_rfl)⟩
instance:EntersC Try.prog 18:=⟨Enters.of (by kernel_rfl)⟩
instance:EntersC Try.prog 19:=⟨Enters.of (by kernel_rfl)⟩
instance:EntersC Try.prog 20:=⟨Enters.of (by kernel_rfl)⟩
instance:EntersC Try.prog 21:=⟨Enters.of (by kernel_rfl)⟩
instance:EntersC Try.prog 22:=⟨Enters.of (by kernel_rfl)⟩
instance:EntersC Try.prog 23:=⟨Enters.of (by kernel_rfl)⟩
instance:EntersC Try.prog 24:=⟨Enters.of (by kernel_rfl)⟩
instance:EntersC Try.prog 25:=⟨Enters.of (by kernel_rfl)⟩
instance:EntersC Try.prog 26:=⟨Enters.of (by kernel_rfl)⟩
instance:EntersC Try.prog 27:=⟨Enters.of (by kernel_rfl)⟩
instance:EntersC Try.prog 28:=⟨Enters.of (by kernel_rfl)⟩
instance:EntersC Try.prog 29:=⟨Enters.of (by kernel_rfl)⟩
instance:EntersC Try.prog 30:=⟨Enters.of (by kernel_rfl)⟩
instance:EntersC Try.prog 31:=⟨Enters.of (by kernel_rfl)⟩
instance:EntersC Try.prog 32:=⟨Enters.of (by kernel_rfl)⟩
instance:EntersC Try.prog 33:=⟨Enters.of (by kernel_rfl)⟩
instance:EntersC Try.prog 34:=⟨Enters.of (by kernel_rfl)⟩
instance:EntersC Try.prog 35:=⟨Enters.of (by kernel_rfl)⟩
instance:EntersC Try.prog 36:=⟨Enters.of (by kernel_rfl)⟩
instance:EntersC Try.prog 37:=⟨Enters.of (by kernel_rfl)⟩
instance:EntersC Try.prog 38:=⟨Enters.of (by kernel_rfl)⟩
instance:EntersC Try.prog 39:=⟨Enters.of (by kernel_rfl)⟩
instance:EntersC Try.prog 40:=⟨Enters.of (by kernel_rfl)⟩
instance:EntersC Try.prog 41:=⟨Enters.of (by kernel_rfl)⟩
instance:EntersC Try.prog 42:=⟨Enters.of (by kernel_rfl)⟩
instance:EntersC Try.prog 43:=⟨Enters.of (by kernel_rfl)⟩
instance:EntersC Try.prog 44:=⟨Enters.of (by kernel_rfl)⟩
instance:EntersC Try.prog 45:=⟨Enters.of (by kernel_rfl)⟩
instance:EntersC Try.prog 46:=⟨Enters.of (by kernel_rfl)⟩
instance:EntersC Try.prog 47:=⟨Enters.of (by kernel_rfl)⟩
instance:EntersC Try.prog 48:=⟨Enters.of (by kernel_rfl)⟩
instance:EntersC Try.prog 49:=⟨Enters.of (by kernel_rfl)⟩
instance:EntersC Try.prog 50:=⟨Enters.of (by kernel_rfl)⟩
instance:EntersC Try.prog 51:=⟨Enters.of (by kernel_rfl)⟩
instance:EntersC Try.prog 52:=⟨Enters.of (by kernel_rfl)⟩
instance:EntersC Try.prog 53:=⟨Enters.of (by kernel_rfl)⟩
instance:EntersC Try.prog 54:=⟨Enters.of (by kernel_rfl)⟩
instance:EntersC Try.prog 55:=⟨Enters.of (by kernel_rfl)⟩
instance:EntersC Try.prog 56:=⟨Enters.of (by kernel_rfl)⟩
instance:EntersC Try.prog 57:=⟨Enters.of (by kernel_rfl)⟩
instance:EntersC Try.prog 58:=⟨Enters.of (by kernel_rfl)⟩
instance:EntersC Try.prog 59:=⟨Enters.of (by kernel_rfl)⟩
instance:EntersC Try.prog 60:=⟨Enters.of (by kernel_rfl)⟩
instance:EntersC Try.prog 61:=⟨Enters.of (by kernel_rfl)⟩
instance:EntersC Try.prog 62:=⟨Enters.of (by kernel_rfl)⟩
instance:EntersC Try.prog 63:=⟨Enters.of (by kernel_rfl)⟩
instance:EntersC Try.prog 64:=⟨Enters.of (by kernel_rfl)⟩
instance:EntersC Try.prog 65:=⟨Enters.of (by kernel_rfl)⟩
instance:EntersC Try.prog 66:=⟨Enters.of (by kernel_rfl)⟩
instance:EntersC Try.prog 67:=⟨Enters.of (by kernel_rfl)⟩
instance:EntersC Try.prog 68:=⟨Enters.of (by kernel_rfl)⟩
instance:EntersC Try.prog 69:=⟨Enters.of (by kernel_rfl)⟩
instance:EntersC Try.prog 70:=⟨Enters.of (by kernel_rfl)⟩
instance:EntersC Try.prog 71:=⟨Enters.of (by kernel_rfl)⟩
instance:EntersC Try.prog 72:=⟨Enters.of (by kernel_rfl)⟩
instance:EntersC Try.prog 73:=⟨Enters.of (by kernel_rfl)⟩
instance:EntersC Try.prog 74:=⟨Enters.of (by kernel_rfl)⟩
instance:EntersC Try.prog 75:=⟨Enters.of (by kernel_rfl)⟩
instance:EntersC Try.prog 76:=⟨Enters.of (by kernel_rfl)⟩
instance:EntersC Try.prog 77:=⟨Enters.of (by kernel_rfl)⟩
instance:EntersC Try.prog 78:=⟨Enters.of (by kernel_rfl)⟩
instance:EntersC Try.prog 79:=⟨Enters.of (by kernel_rfl)⟩
instance:EntersC Try.prog 80:=⟨Enters.of (by kernel_rfl)⟩
instance:EntersC Try.prog 81:=⟨Enters.of (by kernel_rfl)⟩
instance:EntersC Try.prog 82:=⟨Enters.of (by kernel_rfl)⟩
instance:EntersC Try.prog 83:=⟨Enters.of (by kernel_rfl)⟩
instance:EntersC Try.prog 84:=⟨Enters.of (by kernel_rfl)⟩
instance:EntersC Try.prog 85:=⟨Enters.of (by kernel_rfl)⟩
instance:EntersC Try.prog 86:=⟨Enters.of (by kernel_rfl)⟩
instance:EntersC Try.prog 87:=⟨Enters.of (by kernel_rfl)⟩
instance:EntersC Try.prog 88:=⟨Enters.of (by kernel_rfl)⟩
instance:EntersC Try.prog 89:=⟨Enters.of (by kernel_rfl)⟩
instance:EntersC Try.prog 90:=⟨Enters.of (by kernel_rfl)⟩
instance:EntersC Try.prog 91:=⟨Enters.of (by kernel_rfl)⟩
instance:EntersC Try.prog 92:=⟨Enters.of (by kernel_rfl)⟩
instance:EntersC Try.prog 93:=⟨Enters.of (by kernel_rfl)⟩
instance:EntersC Try.prog 94:=⟨Enters.of (by kernel_rfl)⟩
instance:EntersC Try.prog 95:=⟨Enters.of (by kernel_rfl)⟩
instance:EntersC Try.prog 96:=⟨Enters.of (by kernel_rfl)⟩
instance:EntersC Try.prog 97:=⟨Enters.of (by kernel_rfl)⟩
instance:EntersC Try.prog 98:=⟨Enters.of (by kernel_rfl)⟩
instance:EntersC Try.prog 99:=⟨Enters.of (by kernel_rfl)⟩
instance:EntersC Try.prog 100:=⟨Enters.of (by kernel_rfl)⟩
instance:EntersC Try.prog 101:=⟨Enters.of (by kernel_rfl)⟩
end Go.Proofs.Ytldiodhdefnlaaa.eng

/- OpenE -/
namespace Go.Proofs.Ytldiodhdefnlaaa.eng
open Go.RowKit kit mix
theorem fin {P:Program} {f:FuncId} {args:Array Value} {w:World} (h:Calls P f args w (Meets (ret (.bool true)) w)):Calls P f args w fun e w'=>e = .returned (.bool true)∧Below w.heap.size w w':=h.mono fun _ _ h=>of_meets h
end Go.Proofs.Ytldiodhdefnlaaa.eng

/- ClassL -/
namespace Go.Proofs.Ytldiodhdefnlaaa.classL
def n64 (x:BitVec 64):Int:=x.toNat
abbrev v64 (x:BitVec 64):Value:= .int .u64 (n64 x)
theorem n64_lo (x:BitVec 64):0≤n64 x:=by unfold n64;omega
theorem n64_hi (x:BitVec 64):n64 x≤18446744073709551615:=by have:=x.isLt;unfold n64;omega
theorem n64_inj {x y:BitVec 64} (h:n64 x=n64 y):x=y:=by
  apply BitVec.eq_of_toNat_eq;unfold n64 at h;omega
theorem n64_eq (x y:BitVec 64):(n64 x == n64 y)=(x == y):=by
  by_cases h:x=y
  · subst h;simp
  · have:n64 x≠n64 y:=fun e=>h (n64_inj e)
    rw[beq_eq_false_iff_ne.2 this,beq_eq_false_iff_ne.2 h]
theorem wrap64 (x:BitVec 64):IntKind.u64.wrap (n64 x)=n64 x:=by
  have:=x.isLt
  unfold n64
  rw[IntKind.wrap_u64];omega
theorem ofInt64 (x:BitVec 64):BitVec.ofInt 64 (n64 x)=x:=by
  apply BitVec.eq_of_toNat_eq;simp[n64]
theorem and64 (x y:BitVec 64):bits .and .u64 (n64 x) (n64 y)=n64 (x &&& y):=by
  unfold bits;simp only[IntKind.bits,ofInt64];exact wrap64 _
theorem or64 (x y:BitVec 64):bits .or .u64 (n64 x) (n64 y)=n64 (x ||| y):=by
  unfold bits;simp only[IntKind.bits,ofInt64];exact wrap64 _
theorem xor64 (x y:BitVec 64):bits .xor .u64 (n64 x) (n64 y)=n64 (x ^^^ y):=by
  unfold bits;simp only[IntKind.bits,ofInt64];exact wrap64 _
theorem not64 (x:BitVec 64):bits .xor .u64 IntKind.u64.max (n64 x)=n64 (~~~ x):=by
  have h:=xor64 (BitVec.allOnes 64) x
  rw[BitVec.allOnes_xor] at h
  rw[←h];rfl
structure C4 where
  a:BitVec 64
  b:BitVec 64
  c:BitVec 64
  d:BitVec 64
  deriving DecidableEq
def C4.get (x:C4) (i:Nat):BitVec 64:=if i=0 then x.a else if i=1 then x.b else if i=2 then x.c else x.d
def C4.set (x:C4) (i:Nat) (v:BitVec 64):C4:=if i=0 then { x with a:=v } else if i=1 then { x with b:=v } else if i=2 then { x with c:=v } else { x with d:=v }
def C4.zero:C4:=⟨0,0,0,0⟩
def C4.meet (x y:C4):C4:=⟨x.a &&& y.a,x.b &&& y.b,x.c &&& y.c,x.d &&& y.d⟩
def C4.not (x:C4):C4:=⟨~~~x.a,~~~x.b,~~~x.c,~~~x.d⟩
def clsL (x:C4):List Value:=[.int .u64 (n64 x.a),.int .u64 (n64 x.b),.int .u64 (n64 x.c),.int .u64 (n64 x.d)]
def clsV (x:C4):Value:= .agg #[.int .u64 (n64 x.a),.int .u64 (n64 x.b),.int .u64 (n64 x.c),.int .u64 (n64 x.d)]
def C4.bit (x:C4) (n:Nat):C4:=x.set (n / 64) (x.get (n / 64) ||| BitVec.ofNat 64 (2 ^ (n % 64)))
theorem C4.ext' {x y:C4} (h1:x.a=y.a) (h2:x.b=y.b) (h3:x.c=y.c) (h4:x.d=y.d):x=y:=by
  cases x;cases y;simp_all
end Go.Proofs.Ytldiodhdefnlaaa.classL

/- ClassQ -/
namespace Go.Proofs.Ytldiodhdefnlaaa.classL
def c8 (b:Nat):Nat:=(b / 16+b) &&& 15
theorem k1:∀ t<2,∀ c<128,(c+128*t) &&& 85=c &&& 85:=by decide +kernel
theorem k2:∀ t<4,∀ c<64,(c+64*t) &&& 51=c &&& 51:=by decide +kernel
theorem k3:∀ t<5,∀ p<5,∀ q<5,(p+(q+16*p)+16*t) &&& 15=c8 (q+16*p):=by decide +kernel
def s1 (x:Nat):Nat:=((x / 2) &&& 6148914691236517205)+(x &&& 6148914691236517205)
def s2 (x:Nat):Nat:=((x / 4) &&& 3689348814741910323)+(x &&& 3689348814741910323)
def s3 (x:Nat):Nat:=(x / 16+x) &&& 1085102592571150095
def s4 (x:Nat):Nat:=x+x / 256
def s5 (x:Nat):Nat:=x+x / 65536
end Go.Proofs.Ytldiodhdefnlaaa.classL

/- ClassR -/
namespace Go.Proofs.Ytldiodhdefnlaaa.classL
def C4.mem (x:C4) (n:Nat):Bool:=(x.get (n / 64)).toNat.testBit (n % 64)
def bytesL (x:C4):List Nat:=(List.range 256).filter x.mem
def cnt (x:C4):Nat:=(bytesL x).length
theorem cnt_le (x:C4):cnt x≤256:=by
  have:=List.length_filter_le x.mem (List.range 256)
  simpa[cnt,bytesL] using this
theorem get_mem (x:C4) (n:Nat):x.mem n=(x.get (n / 64)).getLsbD (n % 64):=by
  unfold C4.mem;rw[BitVec.getLsbD]
theorem zero_mem (n:Nat):C4.zero.mem n=false:=by
  rw[get_mem]
  have:C4.zero.get (n / 64)=0:=by unfold C4.get C4.zero;split;rfl;split;rfl;split <;> rfl
  rw[this];simp
theorem ext_mem {x y:C4} (h:∀ n,n<256→x.mem n=y.mem n):x=y:=by
  have w:∀ i,i<4→x.get i=y.get i:=fun i hi=>by
    apply BitVec.eq_of_getLsbD_eq
    intro j hj
    have:=h (64*i+j) (by omega)
    rw[get_mem,get_mem,show (64*i+j) / 64=i by omega,show (64*i+j) % 64=j by omega] at this
    exact this
  exact C4.ext' (w 0 (by decide)) (w 1 (by decide)) (w 2 (by decide)) (w 3 (by decide))
theorem mem_bytes {x:C4} {n:Nat}:n∈bytesL x↔n<256∧x.mem n=true:=by
  unfold bytesL;rw[List.mem_filter,List.mem_range]
end Go.Proofs.Ytldiodhdefnlaaa.classL

/- RexL -/
namespace Go.Proofs.Ytldiodhdefnlaaa.rexL
open classL
inductive Rx where
  | mk (kind:Int) (c:C4) (kids:List Rx)
def Rx.kind:Rx→Int | .mk k _ _=>k
def Rx.cls:Rx→C4 | .mk _ c _=>c
def Rx.kids:Rx→List Rx | .mk _ _ l=>l
def kidsN (k:Int):Int:=if k=1 then 0 else if k=2 then 0 else if k=3 then 0 else if k=6 then 1 else if k=4 then 2 else if k=5 then 2 else -1
mutual
def chk:Rx→Nat→Nat→Int×Nat
  | .mk k c l,deep,n=>if 100<n+1 then (2,n+1) else if 30<deep then (7,n+1) else if kidsN k≠(l.length:Int) then (1,n+1) else if (decide (k=3) != decide (c≠C4.zero))=true then (1,n+1) else chks l (deep+1) (n+1)
def chks:List Rx→Nat→Nat→Int×Nat
  | [],_,n=>(0,n)
  | r::l,deep,n=>if (chk r deep n).1≠0 then chk r deep n else chks l deep (chk r deep n).2
end
mutual
def sizeX:Rx→Nat
  | .mk _ _ l=>sizesX l+1
def sizesX:List Rx→Nat
  | []=>0
  | r::l=>sizeX r+sizesX l
end
theorem sizeX_pos (r:Rx):0<sizeX r:=by obtain⟨k,c,l⟩:=r;rw[sizeX];omega
theorem sizesX_mem:∀ {l:List Rx} {r:Rx},r∈l→sizeX r≤sizesX l
  | x::l,r,h=>by
    rw[sizesX]
    rcases List.mem_cons.1 h with rfl | h
    · omega
    · have:=sizesX_mem h;omega
inductive Re where
  | none
  | empty
  | byte (c:C4)
  | cat (a b:Re)
  | alt (a b:Re)
  | star (a:Re)
def Re.size:Re→Nat
  | .cat a b=>a.size+b.size+1
  | .alt a b=>a.size+b.size+1
  | .star a=>a.size+1
  | _=>1
def Re.hgt:Re→Nat
  | .cat a b=>max a.hgt b.hgt+1
  | .alt a b=>max a.hgt b.hgt+1
  | .star a=>a.hgt+1
  | _=>1
def Re.nz:Re→Prop
  | .byte c=>c≠C4.zero
  | .cat a b=>a.nz∧b.nz
  | .alt a b=>a.nz∧b.nz
  | .star a=>a.nz
  | _=>True
def Re.kind:Re→Int
  | .none=>1
  | .empty=>2
  | .byte _=>3
  | .cat _ _=>4
  | .alt _ _=>5
  | .star _=>6
def Re.cls:Re→C4
  | .byte c=>c
  | _=>C4.zero
def Re.kids:Re→List Re
  | .cat a b=>[a,b]
  | .alt a b=>[a,b]
  | .star a=>[a]
  | _=>[]
def emb:Re→Rx
  | .none=> .mk 1 C4.zero []
  | .empty=> .mk 2 C4.zero []
  | .byte c=> .mk 3 c []
  | .cat a b=> .mk 4 C4.zero [emb a,emb b]
  | .alt a b=> .mk 5 C4.zero [emb a,emb b]
  | .star a=> .mk 6 C4.zero [emb a]
theorem emb_eq (r:Re):emb r = .mk r.kind r.cls (r.kids.map emb):=by cases r <;> rfl
theorem Re.size_pos (r:Re):0<r.size:=by cases r <;> simp[Re.size]
theorem len_two {α:Type} {l:List α} (h:l.length=2):∃ a b,l=[a,b]:=
  match l,h with
  | [a,b],_=>⟨a,b,rfl⟩
structure Fit (r:Re) (deep n:Nat):Prop where
  nz:r.nz
  sz:n+r.size≤100
  dp:deep+r.hgt≤31
theorem chk_pair {p:Int×Nat} {q:Nat} (h:p=(0,q)):p.1=0∧p.2=q:=by subst h;exact⟨rfl,rfl⟩
theorem chk_fit:∀ (N:Nat) (r:Rx) (deep n q:Nat),sizeX r≤N→chk r deep n=(0,q)→∃ e:Re,r=emb e∧Fit e deep n∧q=n+e.size
  | 0,r,_,_,_,h,_=>by have:=sizeX_pos r;omega
  | N + 1,.mk k c l,deep,n,q,hN,h=>by
    have IH:=chk_fit N
    rw[sizeX] at hN
    rw[chk] at h
    split at h
    · simp at h
    split at h
    · simp at h
    split at h
    · simp at h
    split at h
    · simp at h
    rename_i h1 h2 h3 h4
    have h3:kidsN k=(l.length:Int):=by simpa using h3
    have h4:decide (k=3)=decide (c≠C4.zero):=by
      generalize decide (k=3)=x at *
      generalize decide (c≠C4.zero)=y at *
      cases x <;> cases y <;> simp_all
    have leaf:∀ e:Re,k=e.kind→c=e.cls→l=[]→e.kids=[]→e.size=1→e.hgt=1→e.nz→∃ e:Re,Rx.mk k c l=emb e∧Fit e deep n∧q=n+e.size:=fun e a1 a2 a3 a4 a5 a6 a7=>by
      subst a1 a2 a3
      rw[chks] at h
      refine⟨e,by rw[emb_eq,a4];rfl,⟨a7,by omega,by omega⟩,?_⟩
      simp at h;omega
    unfold kidsN at h3
    have hz:k≠3→c=C4.zero:=fun hk=>by
      rw[decide_eq_false hk] at h4
      exact Classical.byContradiction fun hc=>by rw[decide_eq_true hc] at h4;cases h4
    by_cases k1:k=1
    · rw[if_pos k1] at h3
      exact leaf .none k1 (hz (by omega)) (List.eq_nil_of_length_eq_zero (by omega)) rfl rfl rfl trivial
    rw[if_neg k1] at h3
    by_cases k2:k=2
    · rw[if_pos k2] at h3
      exact leaf .empty k2 (hz (by omega)) (List.eq_nil_of_length_eq_zero (by omega)) rfl rfl rfl trivial
    rw[if_neg k2] at h3
    by_cases k3:k=3
    · rw[if_pos k3] at h3
      rw[decide_eq_true k3] at h4
      exact leaf (.byte c) k3 rfl (List.eq_nil_of_length_eq_zero (by omega)) rfl rfl rfl (by show c≠C4.zero;exact of_decide_eq_true h4.symm)
    rw[if_neg k3] at h3
    have hc:=hz k3
    subst hc
    have two:∀ (a b:Rx),l=[a,b]→∃ x y:Re,a=emb x∧b=emb y∧Fit x (deep+1) (n+1)∧Fit y (deep+1) (n+1+x.size)∧q=n+1+x.size+y.size:=fun a b hl=>by
      subst hl
      rw[sizesX,sizesX,sizesX] at hN
      rw[chks,chks,chks] at h
      by_cases e1:(chk a (deep+1) (n+1)).1=0
      · rw[if_neg (by simpa using e1)] at h
        obtain⟨x,rfl,f1,g1⟩:=IH a (deep+1) (n+1) (chk a (deep+1) (n+1)).2 (by omega) (Prod.ext e1 rfl)
        rw[g1] at h
        by_cases e2:(chk b (deep+1) (n+1+x.size)).1=0
        · rw[if_neg (by simpa using e2)] at h
          obtain⟨y,rfl,f2,g2⟩:=IH b (deep+1) (n+1+x.size) (chk b (deep+1) (n+1+x.size)).2 (by omega) (Prod.ext e2 rfl)
          exact⟨x,y,rfl,rfl,f1,f2,by rw[g2] at h;simp at h;omega⟩
        · rw[if_pos e2] at h
          exact absurd (chk_pair h).1 e2
      · rw[if_pos e1] at h
        exact absurd (chk_pair h).1 e1
    by_cases k6:k=6
    · rw[if_pos k6] at h3
      obtain⟨a,rfl⟩:∃ a,l=[a]:=List.length_eq_one_iff.1 (by omega)
      rw[sizesX,sizesX] at hN
      rw[chks,chks] at h
      by_cases e1:(chk a (deep+1) (n+1)).1=0
      · rw[if_neg (by simpa using e1)] at h
        obtain⟨x,rfl,f1,g1⟩:=IH a (deep+1) (n+1) (chk a (deep+1) (n+1)).2 (by omega) (Prod.ext e1 rfl)
        have:=f1.sz
        have:=f1.dp
        exact⟨.star x,by rw[k6];rfl,⟨f1.nz,by simp only[Re.size];omega,by simp only[Re.hgt];omega⟩,by rw[g1] at h;simp at h;simp only[Re.size];omega⟩
      · rw[if_pos e1] at h
        exact absurd (chk_pair h).1 e1
    rw[if_neg k6] at h3
    by_cases k4:k=4
    · rw[if_pos k4] at h3
      obtain⟨a,b,rfl⟩:∃ a b,l=[a,b]:=len_two (by omega)
      obtain⟨x,y,rfl,rfl,f1,f2,g⟩:=two a b rfl
      have:=f1.dp
      have:=f2.dp
      have:=f2.sz
      exact⟨.cat x y,by rw[k4];rfl,⟨⟨f1.nz,f2.nz⟩,by simp only[Re.size];omega,by simp only[Re.hgt];omega⟩,by simp only[Re.size];omega⟩
    rw[if_neg k4] at h3
    by_cases k5:k=5
    · rw[if_pos k5] at h3
      obtain⟨a,b,rfl⟩:∃ a b,l=[a,b]:=len_two (by omega)
      obtain⟨x,y,rfl,rfl,f1,f2,g⟩:=two a b rfl
      have:=f1.dp
      have:=f2.dp
      have:=f2.sz
      exact⟨.alt x y,by rw[k5];rfl,⟨⟨f1.nz,f2.nz⟩,by simp only[Re.size];omega,by simp only[Re.hgt];omega⟩,by simp only[Re.size];omega⟩
    rw[if_neg k5] at h3
    omega
inductive Star (P:List UInt8→Prop):List UInt8→Prop
  | nil:Star P []
  | cons {u v:List UInt8}:P u→Star P v→Star P (u++v)
def Lang:Re→List UInt8→Prop
  | .none,_=>False
  | .empty,s=>s=[]
  | .byte c,s=>∃ b:UInt8,s=[b]∧c.mem b.toNat=true
  | .cat a b,s=>∃ u v,s=u++v∧Lang a u∧Lang b v
  | .alt a b,s=>Lang a s∨Lang b s
  | .star a,s=>Star (Lang a) s
theorem star_snoc {P:List UInt8→Prop} {u v:List UInt8} (h:Star P u) (hv:P v):Star P (u++v):=by
  induction h with
  | nil=>have:=Star.cons hv .nil;simpa using this
  | cons h1 _ ih=>rw[List.append_assoc];exact .cons h1 ih
def seg (s:List UInt8) (f j:Nat):List UInt8:=(s.drop f).take (j - f)
theorem seg_len {s:List UInt8} {f j:Nat} (h:j≤s.length):(seg s f j).length=j - f:=by unfold seg;rw[List.length_take,List.length_drop];omega
theorem seg_self (s:List UInt8) (f:Nat):seg s f f=[]:=by unfold seg;simp
theorem seg_app {s:List UInt8} {f i j:Nat} (h1:f≤i) (h2:i≤j):seg s f j=seg s f i++seg s i j:=by
  unfold seg
  rw[show j - f=(i - f)+(j - i) by omega,List.take_add,List.drop_drop,show f+(i - f)=i by omega]
theorem seg_cut {s u v:List UInt8} {f j:Nat} (hf:f≤j) (hj:j≤s.length) (h:seg s f j=u++v):f+u.length≤j∧u=seg s f (f+u.length)∧v=seg s (f+u.length) j:=by
  have hl:=seg_len (s:=s) (f:=f) hj
  rw[h,List.length_append] at hl
  have h1:f+u.length≤j:=by omega
  have e:=seg_app (s:=s) (f:=f) (i:=f+u.length) (j:=j) (by omega) h1
  rw[h] at e
  have hlu:u.length=(seg s f (f+u.length)).length:=by rw[seg_len (by omega)];omega
  have:=List.append_inj e hlu
  exact⟨h1,this.1,this.2⟩
def EndP (r:Re) (s:List UInt8) (f j:Nat):Prop:=f≤j∧j≤s.length∧Lang r (seg s f j)
inductive Rch (R:Nat→Nat→Prop) (f:Nat):Nat→Prop
  | refl:Rch R f f
  | step {i j:Nat}:Rch R f i→R i j→Rch R f j
theorem Rch.cons {R:Nat→Nat→Prop} {f i j:Nat} (h:R f i) (h':Rch R i j):Rch R f j:=by
  induction h' with
  | refl=>exact .step .refl h
  | step _ h2 ih=>exact .step ih h2
theorem end_star {a:Re} {s:List UInt8} {f j:Nat} (hf:f≤s.length):EndP (.star a) s f j↔Rch (EndP a s) f j:=by
  constructor
  · rintro⟨h1,h2,h⟩
    have h:Star (Lang a) (seg s f j):=h
    have aux:∀ w,Star (Lang a) w→∀ f,f≤j→seg s f j=w→Rch (EndP a s) f j:=by
      intro w hw
      induction hw with
      | nil=>
        intro f hf' e
        have:=seg_len (s:=s) (f:=f) h2
        rw[e] at this
        have:f=j:=by simp at this;omega
        subst this;exact .refl
      | cons hu _ ih=>
        intro f hf' e
        obtain⟨a1,a2,a3⟩:=seg_cut hf' h2 e
        exact Rch.cons ⟨Nat.le_add_right _ _,by omega,by rw[←a2];exact hu⟩ (ih _ a1 a3.symm)
    exact aux _ h f h1 rfl
  · intro h
    induction h with
    | refl=>exact⟨Nat.le_refl _,hf,by rw[seg_self];exact Star.nil⟩
    | step _ h2 ih=>
      obtain⟨a1,a2,a3⟩:=ih
      obtain⟨b1,b2,b3⟩:=h2
      exact⟨by omega,b2,by rw[seg_app a1 b1];exact star_snoc a3 b3⟩
def EndC (s:List UInt8) (r:Re) (f:Nat) (c:C4):Prop:=∀ j,j<256→(c.mem j=true↔EndP r s f j)
end Go.Proofs.Ytldiodhdefnlaaa.rexL

/- RexF -/
namespace Go.Proofs.Ytldiodhdefnlaaa.rexL
open classL
abbrev Txt:=List UInt8
structure RS where
  p:Nat
  o:Nat
  e:Int
def hexL:Txt:=[48,49,50,51,52,53,54,55,56,57,97,98,99,100,101,102]
def signsL:Txt:=[40,41,91,93,124,42,43,63,46,94,45,92]
section
variable {s:Txt}
structure Goes (s:Txt) (st st':RS):Prop where
  o:st'.o=st.o
  ge:st.p≤st'.p
  le:st'.p≤s.length
theorem Goes.trans {a b c:RS} (h:Goes s a b) (h':Goes s b c):Goes s a c:=⟨by rw[h'.o,h.o],Nat.le_trans h.ge h'.ge,h'.le⟩
theorem Goes.refl {st:RS} (h:st.p≤s.length):Goes s st st:=⟨rfl,Nat.le_refl _,h⟩
end
end Go.Proofs.Ytldiodhdefnlaaa.rexL

/- RexG -/
namespace Go.Proofs.Ytldiodhdefnlaaa.rexL
open classL
def hexD (n:Nat):UInt8:=hexL.getD n 0
def charT (b:UInt8):Txt:=
  if b=10 then [92,110] else if b=9 then [92,116] else if b=32 then [92,115]
  else if b<33∨126<b then [92,120,hexD (b.toNat / 16),hexD (b.toNat % 16)]
  else if b∈signsL then [92,b] else [b]
def runL:Nat→List Nat→Nat
  | _,[]=>0
  | b,x::r=>if x=b+1 then runL (b+1) r+1 else 0
def itemT (b k:Nat):Txt:=charT (UInt8.ofNat b)++((if 1<k then [45] else [])++(if 0<k then charT (UInt8.ofNat (b+k)) else []))
def itemsT:Nat→List Nat→Txt
  | 0,_=>[]
  | _+1,[]=>[]
  | f+1,b::r=>itemT b (runL b r)++itemsT f (r.drop (runL b r))
def classT (c:C4):Txt:=
  if cnt c=1 then charT (UInt8.ofNat ((bytesL c).getD 0 0))
  else if cnt c=255∧c.mem 10=false then [46]
  else if 128<cnt c then [91,94]++(itemsT 256 (bytesL c.not)++[93])
  else [91]++(itemsT 256 (bytesL c)++[93])
def inBr (lv:Nat) (e:Re):Bool:=decide (1≤lv∧e.kind=5∨2≤lv∧e.kind=4∨3≤lv∧e.kind=6)
def wrap (b:Bool) (t:Txt):Txt:=if b then [40]++(t++[41]) else t
def body:Re→Txt
  | .empty=>[40,41]
  | .none=>[91,93]
  | .byte c=>classT c
  | .star a=>wrap (inBr 3 a) (body a)++[42]
  | .cat a b=>wrap (inBr 1 a) (body a)++wrap (inBr 2 b) (body b)
  | .alt a b=>wrap (inBr 0 a) (body a)++([124]++wrap (inBr 1 b) (body b))
section
end
end Go.Proofs.Ytldiodhdefnlaaa.rexL

/- Read -/
namespace Go.Proofs.Ytldiodhdefnlaaa.eng
open Go.RowKit kit mix Go.ChangeShapes Go.WideShapes Go.ChangeAt
section
variable {H:Type} {enc0:TypeId×Value→H} {P:Program} {W:World}
def SlX {α:Type} (W:World) (is:List Value→α→Prop) (c:Nat) (v:Value) (l:List α):Prop:=
  ∃ base cap,v = .slice base l.length cap∧l.length≤cap∧cap≤maxLen∧(0<l.length→∃ b off,base=some ⟨b,off,none⟩∧∀ i (h:i<l.length),∃ cs,is cs l[i]∧Rd W b (off+i*c) cs)
def Opens (enc0:TypeId×Value→H) (P:Program) (W:World) (t:TypeId) {α:Type} (is:List Value→α→Prop):Prop:=
  ∀ fuel cs x,DataW.trod enc0 P W 0 (fun _=>true) true fuel t cs=some x→∃ a,is cs a
theorem Opens.mono {t:TypeId} {α:Type} {is is':List Value→α→Prop} (h:Opens enc0 P W t is) (hi:∀ cs a,is cs a→is' cs a):Opens enc0 P W t is':=fun f cs x hx=>let ⟨a,ha⟩:=h f cs x hx;⟨a,hi _ _ ha⟩
def isInt (k:IntKind) (lo hi:Int) (cs:List Value) (n:Int):Prop:=cs=[.int k n]∧lo≤n∧n≤hi
def isStr (cs:List Value) (s:List UInt8):Prop:=cs=[str s]∧s.length≤9223372036854775807
theorem opens_int {t:TypeId} {k:IntKind} (ht:P.underlying t=some (.int k)):Opens enc0 P W t (isInt k k.min k.max):=fun f cs x h=>by
  obtain⟨n,h1,_,h3⟩:=DataW.trod_int ht h
  simp only[Lit.wf,Bool.and_eq_true,decide_eq_true_eq] at h3
  exact⟨n,h1,h3.1,h3.2⟩
theorem opens_i64 {t:TypeId} (ht:P.underlying t=some (.int .i64)):Opens enc0 P W t (isInt .i64 (-9223372036854775808) 9223372036854775807):=(opens_int ht).mono fun cs n h=>⟨h.1,by simpa[IntKind.min,IntKind.signed,IntKind.bits] using h.2.1,by simpa[IntKind.max,IntKind.signed,IntKind.bits] using h.2.2⟩
theorem opens_u64 {t:TypeId} (ht:P.underlying t=some (.int .u64)):Opens enc0 P W t (isInt .u64 0 18446744073709551615):=(opens_int ht).mono fun cs n h=>⟨h.1,by simpa[IntKind.min,IntKind.signed,IntKind.bits] using h.2.1,by simpa[IntKind.max,IntKind.signed,IntKind.bits] using h.2.2⟩
def isSl {α:Type} (W:World) (is:List Value→α→Prop) (c:Nat) (cs:List Value) (l:List α):Prop:=∃ v,cs=[v]∧SlX W is c v l
def isArr {α:Type} (is:List Value→α→Prop) (m c:Nat) (cs:List Value) (l:List α):Prop:=l.length=m∧∀ i (h:i<l.length),is ((cs.drop (i*c)).take c) l[i]
theorem opens_array {t e:TypeId} {m c:Nat} (ht:P.underlying t=some (.array m e)) (hc:P.cellsOf e=c) {α:Type} {is:List Value→α→Prop} (hd:Opens enc0 P W e is):Opens enc0 P W t (fun cs l=>cs.length=P.cellsOf t∧isArr is m c cs l):=fun fuel cs x h=>by
  obtain⟨xs,n,_,_,hl,hlen,hf⟩:=DataW.trod_array ht h
  have each:∀ i,i<m→∃ y:α,is ((cs.drop (i*c)).take c) y:=fun i hi=>by
    have h1:=hf i hi
    rw[hc,List.getElem?_eq_getElem (by omega)] at h1
    exact hd n _ _ h1
  obtain⟨l,hll,hp⟩:=list_of m each
  exact⟨l,hl,hll,fun i hi=>hp i _ (List.getElem?_eq_getElem hi)⟩
def isInts (k:IntKind) (lo hi:Int) (m:Nat) (cs:List Value) (l:List Int):Prop:=l.length=m∧cs=l.map (.int k)∧∀ x∈l,lo≤x∧x≤hi
theorem ints_of_arr {k:IntKind} {lo hi:Int} {m:Nat} {cs:List Value} {l:List Int} (hl:cs.length=m) (h:isArr (isInt k lo hi) m 1 cs l):isInts k lo hi m cs l:=by
  obtain⟨h1,h2⟩:=h
  refine⟨h1,?_,fun x hx => ?_⟩
  · apply List.ext_getElem?
    intro i
    by_cases hi:i<l.length
    · have h3:=(h2 i hi).1
      rw[Nat.mul_one] at h3
      have hic:i<cs.length:=by omega
      rw[List.drop_eq_getElem_cons hic,List.take_succ_cons,List.take_zero] at h3
      injection h3 with h3 _
      rw[List.getElem?_eq_getElem hic,List.getElem?_map,List.getElem?_eq_getElem hi,h3];rfl
    · rw[List.getElem?_eq_none (by omega),List.getElem?_eq_none (by simp;omega)]
  · obtain⟨i,hi,rfl⟩:=List.mem_iff_getElem.1 hx
    exact (h2 i hi).2
theorem top_agg {t:TypeId} {fs:Array Field} (ht:P.underlying t=some (.struct fs)) {base:Nat} {v:Value} {d:DataW H} {ps:List MemPlace} (hv:Value.okWide P W .any base t v) (h:DataW.Trod enc0 P W 0 (fun _=>true) true t v d ps):∃ cs fuel,v = .agg cs∧DataW.trod enc0 P W 0 (fun _=>true) true fuel t cs.toList=some (d,ps):=by
  simp only[Value.okWide,ht] at hv
  obtain⟨cs,rfl,_,_⟩:=hv
  obtain⟨fuel,hf⟩:=h
  exact⟨cs,fuel,rfl,hf⟩
end
theorem SlX.sl {α:Type} {W:World} {is:List Value→α→Prop} {f:α→Value} {v:Value} {l:List α} (h:SlX W is 1 v l) (hf:∀ cs a,is cs a→cs=[f a]):Sl W v l.length (l.map f):=by
  obtain⟨base,cap,h1,h2,h3,h4⟩:=h
  refine⟨base,cap,h1,h2,h3,fun h0 => ?_⟩
  obtain⟨b,off,h5,h6⟩:=h4 h0
  refine⟨b,off,h5,fun j u hj => ?_⟩
  have hjl:j<l.length:=by simpa using (List.getElem?_eq_some_iff.1 hj).1
  obtain⟨cs,h7,h8⟩:=h6 j hjl
  have:=h8 0 (f l[j]) (by rw[hf _ _ h7];rfl)
  simp only[Nat.mul_one,Nat.add_zero] at this
  rw[this,←hj];simp[hjl]
end Go.Proofs.Ytldiodhdefnlaaa.eng

/- Opx -/
namespace Go.Proofs.Ytldiodhdefnlaaa.eng
open Go.RowKit kit mix
section
variable {P:Program} {n:Nat} {W:Base} {fr:Fr} {L:List Own} {Q:Exit→Act→World→Prop} {ops:Array Oper} {rest:List Oper} {d:Nat} {dst:Option Tmp} {ty:TypeId} {pos:String} {after:Array Edge} {guard:Option (Nat×Bool)}
def partsEv (fr:Fr):List (Nat×Operand)→Option (List (Nat×Value))
  | []=>some []
  | (i,x)::r=>match ev fr x,partsEv fr r with | some v,some l=>some ((i,v)::l) | _,_=>none
theorem partsEv_of {a:Act} (hr:Rep n a fr):∀ (l:List (Nat×Operand)) (vs:List (Nat×Value)),partsEv fr l=some vs→l.map (fun (i,x)=>(i,a.eval x))=vs
  | [],vs,h=>by simp only[partsEv,Option.some.injEq] at h;subst h;rfl
  | (i,x)::r,vs,h=>by
    simp only[partsEv] at h
    split at h
    · rename_i v l h1 h2
      simp only[Option.some.injEq] at h;subst h
      simp[hr.ev h1,partsEv_of hr r l h2]
    · cases h
theorem rr_build {t:TypeId} {parts:Array (Nat×Operand)} {ps:List (Nat×Value)} {cs:Array Value} (hp:partsEv fr parts.toList=some ps) (hrun:∀ w,(Instr.build t ps.toArray).run P w = .ok (.agg cs) w):RR P n W ⟨dst,.build t parts,ty,pos,after,guard⟩ fr L (.agg cs):= .mk fun a w hr _=>by
  have e:(parts.map fun (i,x)=>(i,a.eval x))=ps.toArray:=by
    rw[←partsEv_of hr _ _ hp,←Array.toList_map,Array.toArray_toList]
  simp only[execOp,Sem.run_bind]
  rw[e,hrun w];rfl
theorem fill_seq (c0:Nat→Option (Nat×Nat)) (hc0:∀ i,c0 i=some (i,1)):∀ (vs:List Value) (k:Nat) (acc:Array Value),k+vs.length≤acc.size→(∀ v∈vs,v.cells=#[v])→Instr.fill c0 acc ((vs.zipIdx k).map fun (v,i)=>(i,v))=some (acc.toList.take k++vs++acc.toList.drop (k+vs.length)).toArray
  | [],k,acc,h,_=>by simp[Instr.fill]
  | v :: vs,k,acc,h,h1=>by
    simp only[List.length_cons] at h
    have hv:=h1 v (by simp)
    rw[List.zipIdx_cons,List.map_cons]
    simp only[Instr.fill,hc0,hv]
    rw[if_neg (by simp;omega)]
    have e:((#[v]:Array Value).zipIdx.foldl (fun cs (x:Value×Nat)=>cs.setIfInBounds (k+x.2) x.1) acc)=acc.setIfInBounds k v:=by simp
    rw[e,fill_seq c0 hc0 vs (k+1) _ (by simp;omega) (fun u hu=>h1 u (by simp[hu]))]
    congr 2
    have hA:(acc.toList.take k).length=k:=by simp;omega
    have hA1:(acc.toList.take k++[v]).length=k+1:=by rw[List.length_append,hA];rfl
    have e2:acc.toList.set k v=(acc.toList.take k++[v])++acc.toList.drop (k+1):=by
      rw[List.set_eq_take_append_cons_drop,if_pos (by simp;omega)];simp
    simp only[Array.toList_setIfInBounds,List.length_cons]
    rw[e2,List.take_left' hA1,←List.drop_drop,List.drop_left' hA1,List.drop_drop]
    simp only[List.append_assoc,List.singleton_append,List.cons_append,List.nil_append]
    rw[show k+1+vs.length=k+(vs.length+1) by omega]
theorem run_litV {t e:TypeId} {bytes:Nat} (hel:El P t e 1 bytes) (vs:List Value) (h1:∀ v∈vs,v.cells=#[v]) (h0:0<vs.length) (hm:vs.length≤16777216) (w:World) :
    (Instr.buildSlice t vs.length (vs.zipIdx.map fun (v,i)=>(i,v)).toArray).run P w = .ok (.slice (some ⟨w.heap.size,0,none⟩) vs.length vs.length) (w.alloc (.cells vs.toArray e)):=by
  obtain⟨i,z,ht,hi,hz,hc,_,hzc,_⟩:=hel.ex
  have hfill:=fill_seq (fun i=>some (i*1,1)) (by simp) vs 0 ((Array.range (vs.length*1)).map (z.cells[· % z.cells.size]!)) (by simp) h1
  simp only[List.take_zero,List.nil_append,Nat.zero_add] at hfill
  rw[List.drop_of_length_le (by simp)] at hfill
  simp only[List.append_nil] at hfill
  have hne:¬ (vs.length*1 > 2 ^ 24):=by omega
  have hne2:¬ (vs.length*1=0):=by omega
  simp only[Instr.buildSlice,Sem.run_bind,run_underlying ht,Result.andThen_ok,sizeOf,typeInfo,run_program,hi,Sem.run_pure,hc,zeroValue,hz,if_neg hne,if_neg hne2]
  simp only[hfill,newRow]
  simp
theorem TL_litV {t e:TypeId} {bytes m:Nat} {parts:Array (Nat×Operand)} (vs:List Value) [hel:ElC P t e 1 bytes] (hp:partsEv fr parts.toList=some (vs.zipIdx.map fun (v,i)=>(i,v))) (hm:vs.length=m) (h0:Nat.blt 0 m=true) (h1:∀ v∈vs,v.cells=#[v]) (hs:Nat.ble m 16777216=true) (hn:Nat.blt d n=true)
    (h:∀ g,TL P n W ops Q rest ((d,.slice (some ⟨g,0,none⟩) m m)::fr) (L++[blkO g vs.toArray e])):TL P n W ops Q (⟨some d,.buildSlice t m parts,ty,pos,after,none⟩::rest) fr L:=by
  subst hm
  refine TL_lit (fun a w hr => ?_) hn h
  have e:(parts.map fun (i,x)=>(i,a.eval x))=(vs.zipIdx.map fun (v,i)=>(i,v)).toArray:=by
    rw[←partsEv_of hr _ _ hp,←Array.toList_map,Array.toArray_toList]
  rw[e]
  exact run_litV hel.el vs h1 (Nat.le_of_ble_eq_true h0) (Nat.le_of_ble_eq_true hs) w
theorem Mem.toRow {w:World} {i g m size:Nat} {cs:Array Value} {e:TypeId} (h:Mem W L w) (hi:L[i]?=some (blkO g cs e)) (hc:cs.size=m*size) (hm:m≤140737488355328):Mem W (L.set i (rowO e size (.slice (some ⟨g,0,none⟩) m m) m cs.toList)) w:=
  h.turn hi ⟨rfl,rfl,rfl,Nat.le_refl _,fun _ _ _=>rfl⟩ ⟨by simp[hc],.inr ⟨g,m,cs,rfl,Nat.zero_le _,h.get hi,Nat.le_refl _,by unfold maxLen;omega,hc,by rw[List.take_of_length_le (by simp[hc])]⟩⟩ fun k hk=> .inl hk
theorem TL_toRow {i g m:Nat} {cs:Array Value} {e:TypeId} (size:Nat) (hi:L[i]?=some (blkO g cs e)) (hc:cs.size=m*size) (hm:m≤140737488355328) (h:TL P n W ops Q rest fr (L.set i (rowO e size (.slice (some ⟨g,0,none⟩) m m) m cs.toList))):TL P n W ops Q rest fr L:=
  ⟨fun a w hr hmm=>h.go a w hr (hmm.toRow hi hc hm)⟩
theorem TL_storeB {t:TypeId} {p x:Operand} {i g c:Nat} {cs cs':Array Value} {T:TypeId} {agg:Bool} [hT:TyC P t agg c] (hi:L[i]?=some (blkO g cs T)) (hp:ev fr p=some (.pointer (some ⟨g,0,none⟩))) (hx:ev fr x=some (.agg cs')) (hv:cs'.size=c) (h1:cs'.toList.all Value.oneCell'=true)
    (hc:cs.size=c) (h:TL P n W ops Q rest fr (L.set i (blkO g cs' T))) :
    TL P n W ops Q (⟨none,.store t p x,ty,pos,after,none⟩::rest) fr L:=
  TL_store hT.ty hi hp hx hv h1 (by omega) (by
    show cs'=(cs.toList.take 0++cs'.toList++cs.toList.drop (0+c)).toArray
    rw[List.drop_of_length_le (by simp[hc])];simp) h
theorem TL_store1 {t:TypeId} {p x:Operand} {i g off:Nat} {cs:Array Value} {T:TypeId} {agg:Bool} {v:Value} [hT:TyC P t agg 1] (hi:L[i]?=some (blkO g cs T)) (hp:ev fr p=some (.pointer (some ⟨g,off,none⟩))) (hx:ev fr x=some v) (hv:v.cells=#[v]) (h1:v.oneCell'=true)
    (hc:Nat.blt off cs.size=true) (h:TL P n W ops Q rest fr (L.set i (blkO g (cs.setIfInBounds off v) T))) :
    TL P n W ops Q (⟨none,.store t p x,ty,pos,after,none⟩::rest) fr L:=by
  have hlt:off<cs.size:=Nat.le_of_ble_eq_true hc
  refine TL_store hT.ty hi hp hx (by rw[hv];rfl) (by rw[hv];simp[h1]) (by omega) ?_ h
  rw[hv]
  apply Array.ext'
  simp only[Array.toList_setIfInBounds]
  rw[List.set_eq_take_append_cons_drop,if_pos (by simpa using hlt)];simp
theorem rr_aggeq {t u:TypeId} {x y:Operand} {xs ys:Array Value} {b:Bool} (hx:ev fr x=some (.agg xs)) (hy:ev fr y=some (.agg ys)) (hg:P.eqGuardType P.depth t=false) (h:∀ w,(Op.equalIn 10000 t (.agg xs) (.agg ys)).run P w = .ok b w):RR P n W ⟨dst,.binOp .eql t x y u,ty,pos,after,guard⟩ fr L (.bool b):= .mk fun a w hr _=>by
  simp only[execOp,hr.ev hx,hr.ev hy,Sem.run_bind,run_eqGuard_agg w .eql t x y xs ys hg,Result.andThen_ok,run_eql_struct,h w];rfl
theorem rr_aggne {t u:TypeId} {x y:Operand} {xs ys:Array Value} {b c:Bool} (hx:ev fr x=some (.agg xs)) (hy:ev fr y=some (.agg ys)) (hg:P.eqGuardType P.depth t=false) (h:∀ w,(Op.equalIn 10000 t (.agg xs) (.agg ys)).run P w = .ok b w) (hc:(!b)=c):RR P n W ⟨dst,.binOp .neq t x y u,ty,pos,after,guard⟩ fr L (.bool c):= .mk fun a w hr _=>by
  subst hc
  simp only[execOp,hr.ev hx,hr.ev hy,Sem.run_bind,run_eqGuard_agg w .neq t x y xs ys hg,Result.andThen_ok,run_neq_struct,h w];rfl
theorem E_retc2 {fn:Func} {R:Ending→World→Prop} {t u:Tmp} {T:TypeId} {i g c:Nat} {cs:Array Value} {T':TypeId} {z:Value} [hT:TyC P T true c] (hres:fn.results=#[.cell t T,.tmp u]) (hp:look fr t=some (.pointer (some ⟨g,0,none⟩))) (hi:L[i]?=some (blkO g cs T')) (hc:cs.size=c) (hz:look fr u=some z)
    (h:∀ w,Mem W L w→R (.returned (.tuple #[.agg cs,z])) w):E n W .ret (bodyPost P fn R) fr L:=
  E_ret fun a w hr hmm=>⟨_,by
    have hload:=run_loadCells_list (P:=P) w ⟨g,0,none⟩ cs.toList fun j v hj=>by rw[addr_add,Nat.zero_add];exact at_blk hi (by simpa using hj) w hmm
    have hl:(loadCells ⟨g,0,none⟩ c).run P w = .ok cs w:=by rw[←hc];simpa using hload
    have hv:(loadVar T ⟨g,0,none⟩).run P w = .ok (.agg cs) w:=by simp[loadVar,hT.ty.agg,hT.ty.size,hl]
    simp[results,hres,Array.getD_eq_getD_getElem?,hr.get t _ hp,hr.get u z hz,asAddr,hv],h w hmm⟩
theorem E_retc3 {fn:Func} {R:Ending→World→Prop} {t u s:Tmp} {T:TypeId} {i g c:Nat} {cs:Array Value} {T':TypeId} {z y:Value} [hT:TyC P T true c] (hres:fn.results=#[.cell t T,.tmp u,.tmp s]) (hp:look fr t=some (.pointer (some ⟨g,0,none⟩))) (hi:L[i]?=some (blkO g cs T')) (hc:cs.size=c) (hz:look fr u=some z) (hy:look fr s=some y)
    (h:∀ w,Mem W L w→R (.returned (.tuple #[.agg cs,z,y])) w):E n W .ret (bodyPost P fn R) fr L:=
  E_ret fun a w hr hmm=>⟨_,by
    have hload:=run_loadCells_list (P:=P) w ⟨g,0,none⟩ cs.toList fun j v hj=>by rw[addr_add,Nat.zero_add];exact at_blk hi (by simpa using hj) w hmm
    have hl:(loadCells ⟨g,0,none⟩ c).run P w = .ok cs w:=by rw[←hc];simpa using hload
    have hv:(loadVar T ⟨g,0,none⟩).run P w = .ok (.agg cs) w:=by simp[loadVar,hT.ty.agg,hT.ty.size,hl]
    simp[results,hres,Array.getD_eq_getD_getElem?,hr.get t _ hp,hr.get u z hz,hr.get s y hy,asAddr,hv],h w hmm⟩
theorem E_retc1 {fn:Func} {R:Ending→World→Prop} {t:Tmp} {T:TypeId} {i g c:Nat} {cs:Array Value} {T':TypeId} [hT:TyC P T true c] (hres:fn.results=#[.cell t T]) (hp:look fr t=some (.pointer (some ⟨g,0,none⟩))) (hi:L[i]?=some (blkO g cs T')) (hc:cs.size=c)
    (h:∀ w,Mem W L w→R (.returned (.agg cs)) w):E n W .ret (bodyPost P fn R) fr L:=
  E_ret fun a w hr hmm=>⟨_,by
    have hload:=run_loadCells_list (P:=P) w ⟨g,0,none⟩ cs.toList fun j v hj=>by rw[addr_add,Nat.zero_add];exact at_blk hi (by simpa using hj) w hmm
    have hl:(loadCells ⟨g,0,none⟩ c).run P w = .ok cs w:=by rw[←hc];simpa using hload
    have hv:(loadVar T ⟨g,0,none⟩).run P w = .ok (.agg cs) w:=by simp[loadVar,hT.ty.agg,hT.ty.size,hl]
    simp[results,hres,Array.getD_eq_getD_getElem?,hr.get t _ hp,asAddr,hv],h w hmm⟩
end
end Go.Proofs.Ytldiodhdefnlaaa.eng

/- Seq -/
namespace Go.Proofs.Ytldiodhdefnlaaa.eng
open Go.RowKit kit mix
section
variable {α:Type} {f:α→List Value} {c:Nat}
theorem get_el (hc:∀ a,(f a).length=c):∀ (l:List α) (k j:Nat) (h:k<l.length),j<c→(l.flatMap f)[k*c+j]?=(f l[k])[j]?
  | a::r,0,j,h,hj=>by
    rw[List.flatMap_cons,List.getElem?_append_left (by rw[hc];omega)]
    simp
  | a::r,k+1,j,h,hj=>by
    have ih:=get_el hc r k j (by simpa using h) hj
    rw[List.flatMap_cons,List.getElem?_append_right (by rw[hc,Nat.succ_mul];omega),hc]
    simp only[List.getElem_cons_succ]
    rw[←ih,Nat.succ_mul]
    congr 1
    omega
theorem len_el (hc:∀ a,(f a).length=c):∀ (l:List α),(l.flatMap f).length=l.length*c
  | []=>by simp
  | a::r=>by rw[List.flatMap_cons,List.length_append,hc,len_el hc r,List.length_cons,Nat.succ_mul,Nat.add_comm]
theorem at_el (hc:∀ a,(f a).length=c) {W:World} {L:List Own} {b off:Nat} {l:List α} (h:Rd W b off (l.flatMap f)) {k:Nat} (hk:k<l.length) (j:Nat) (u:Value) (hu:(f l[k])[j]?=some u):At W L ⟨b,off+k*c+j,none⟩ u:=by
  have hj:j<c:=by rw[←hc l[k]];exact (List.getElem?_eq_some_iff.1 hu).1
  rw[Nat.add_assoc]
  exact at_rd h (by rw[get_el hc l k j hk hj];exact hu)
theorem at_elL (hc:∀ a,(f a).length=c) {W:Base} {L:List Own} {b off:Nat} {l:List α} (h:∀ j u,(l.flatMap f)[j]?=some u→At W L ⟨b,off+j,none⟩ u) {k:Nat} (hk:k<l.length) (j:Nat) (u:Value) (hu:(f l[k])[j]?=some u):At W L ⟨b,off+k*c+j,none⟩ u:=by
  have hj:j<c:=by rw[←hc l[k]];exact (List.getElem?_eq_some_iff.1 hu).1
  rw[Nat.add_assoc]
  exact h _ _ (by rw[get_el hc l k j hk hj];exact hu)
theorem at_rowel (hc:∀ a,(f a).length=c) {W:Base} {L:List Own} {i g m cap n size:Nat} {e:TypeId} {l:List α} (hi:L[i]?=some (rowO e size (.slice (some ⟨g,0,none⟩) m cap) n (l.flatMap f))) {k:Nat} (hk:k<l.length) (j:Nat) (u:Value) (hu:(f l[k])[j]?=some u):At W L ⟨g,0+k*c+j,none⟩ u:=
  at_elL hc (off:=0) (fun q x hq=>by rw[Nat.zero_add];exact at_row hi hq) hk j u hu
end
def idxF {α:Type} (p:α→Bool) (l:List α):Int:=match l.findIdx? p with | some i=>i | none=> -1
theorem idxF_some {α:Type} {p:α→Bool} {l:List α} {i:Nat} (hi:i<l.length) (h:p l[i]=true) (hb:∀ j (hj:j<l.length),j<i→p l[j]=false):idxF p l=i:=by
  have:l.findIdx? p=some i:=List.findIdx?_eq_some_iff_getElem.2 ⟨hi,h,fun j hji=>by simpa using hb j (by omega) hji⟩
  simp[idxF,this]
theorem idxF_none {α:Type} {p:α→Bool} {l:List α} (hb:∀ j (hj:j<l.length),p l[j]=false):idxF p l = -1:=by
  have:l.findIdx? p=none:=List.findIdx?_eq_none_iff.2 fun x hx=>by
    obtain⟨j,hj,rfl⟩:=List.mem_iff_getElem.1 hx
    exact hb j hj
  simp[idxF,this]
theorem idxF_any {α:Type} (p:α→Bool) (l:List α):decide (0≤idxF p l)=l.any p:=by
  unfold idxF
  cases e:l.findIdx? p with
  | none=>
    have:=List.findIdx?_eq_none_iff.1 e
    have h2:l.any p=false:=by
      rw[List.any_eq_false];intro x hx;simp[this x hx]
    rw[h2];rfl
  | some i=>
    obtain⟨h1,h2,_⟩:=List.findIdx?_eq_some_iff_getElem.1 e
    have h3:l.any p=true:=List.any_eq_true.2 ⟨l[i],List.getElem_mem h1,h2⟩
    rw[h3]
    simp
theorem idxF_range {α:Type} (p:α→Bool) (l:List α) : -1≤idxF p l∧idxF p l<l.length∨idxF p l = -1:=by
  unfold idxF
  cases e:l.findIdx? p with
  | none=>right;rfl
  | some i=>
    obtain⟨h1,h2,_⟩:=List.findIdx?_eq_some_iff_getElem.1 e
    left;simp only;omega
section
variable {P:Program} {n:Nat} {W:Base} {fr:Fr} {L:List Own} {Q:Exit→Act→World→Prop} {ops:Array Oper} {rest:List Oper} {d:Nat} {dst:Option Tmp} {ty:TypeId} {pos:String} {after:Array Edge} {guard:Option (Nat×Bool)}
theorem rr_slnil {t e u:TypeId} {x y:Operand} {a:Option Addr} {m c:Nat} {b:Bool} (ht:P.underlying t=some (.slice e)) (hx:ev fr x=some (.slice a m c)) (hy:ev fr y=some (.slice none 0 0)) (hb:a.isNone=b):RR P n W ⟨dst,.binOp .eql t x y u,ty,pos,after,guard⟩ fr L (.bool b):= .mk fun ac w hr _=>by
  subst hb
  have e1:(eqGuard .eql t x y (.slice a m c) (.slice none 0 0)).run P w = .ok () w:=rfl
  simp[execOp,hr.ev hx,hr.ev hy,e1,Go.Lib.run_eql_slice_nil w t e a m c 0 0 ht]
theorem TL_lit0 {t e:TypeId} {c bytes:Nat} [hel:ElC P t e c bytes] (hn:Nat.blt d n=true)
    (h:∀ g,TL P n W ops Q rest ((d,.slice (some ⟨g,0,none⟩) 0 0)::fr) (L++[rowO e c (.slice (some ⟨g,0,none⟩) 0 0) 0 []])):TL P n W ops Q (⟨some d,.buildSlice t 0 #[],ty,pos,after,none⟩::rest) fr L:=TL_any rfl fun a w hr hm K hK=>by
  obtain⟨i,z,ht,hi,hz,hc,_,hzc,h0⟩:=hel.el.ex
  have e':(execOp a.eval ⟨some d,.buildSlice t 0 #[],ty,pos,after,none⟩).run P w = .ok (.value (.slice (some ⟨w.heap.size,0,none⟩) 0 0)) (w.alloc (.cells #[] e)):=by
    have hne:¬ (0*c > 2 ^ 24):=by omega
    simp[execOp,Instr.buildSlice,run_underlying ht,sizeOf,typeInfo,hi,hc,zeroValue,hz,Instr.fill,newRow]
    have e0:Array.range 0=#[]:=by simp
    rw[e0,Array.map_empty]
  unfold Oper.wp;rw[e']
  exact hK _ _ ((h w.heap.size).go _ _ (hr.put hn _) (hm.append (gr_alloc w _) (Owns.one (World.ownsRow_made w #[] 0 (Nat.zero_le _) (by decide) (by simp)) fun k hk=>by
    have:w.heap.size=k:=Option.some.inj hk
    omega)))
theorem TL_appSl {t e:TypeId} {s x:Operand} {i size bytes m k:Nat} {v v2:Value} {xs ys:List Value} [hel:ElC P t e size bytes] (hi:L[i]?=some (rowO e size v m xs)) (hx2:SlL W L v2 k ys) (hs:ev fr s=some v) (hx:ev fr x=some v2) (hk:ys.length=k*size)
    (h1:∀ u∈ys,u.oneCell'=true) (h63:m+k≤140737488355328) (hb:(m+k)*bytes≤140737488355328) (hn:Nat.blt d n=true)
    (h:∀ v',TL P n W ops Q rest ((d,v')::fr) (L.set i (rowO e size v' (m+k) (xs++ys)))) :
    TL P n W ops Q (⟨some d,.call { callee:= .builtin .append,args:=#[s,x],argTypes:=#[t,t] },ty,pos,after,none⟩::rest) fr L:=⟨fun a w hr hm=>by
  obtain⟨base,cap,rfl,hc1,hc2,hrd⟩:=hx2 w hm
  have hset:ys=[]→L.set i (rowO e size v (m+0) (xs++[]))=L:=fun _=>by
    rw[List.append_nil,Nat.add_zero]
    apply List.ext_getElem?
    intro q
    by_cases hq:i=q
    · subst hq
      rw[List.getElem?_set_self (List.getElem?_eq_some_iff.1 hi).1,hi]
    · rw[List.getElem?_set_ne hq]
  cases base with
  | none=>
    have hk0:k=0:=by
      rcases Nat.eq_zero_or_pos k with h | h
      · exact h
      · obtain⟨b,off,h,_⟩:=hrd h;cases h
    subst hk0
    have hy:ys=[]:=List.eq_nil_of_length_eq_zero (by rw[hk];simp)
    subst hy
    have h2:=h v
    rw[hset rfl] at h2
    exact (TL_append0 hel.el hi hs hx hn h2).go a w hr hm
  | some p=>
    have hrd':∀ j u,ys[j]?=some u→w.cell? (p.add j)=some u:=fun j u hj=>by
      obtain⟨b,off,hb,hr⟩:=hrd (by
        rcases Nat.eq_zero_or_pos k with h | h
        · subst h
          have:=(List.getElem?_eq_some_iff.1 hj).1
          rw[hk] at this;simp at this
        · exact h)
      simp only[Option.some.injEq] at hb
      subst hb
      rw[addr_add];exact hr j u hj
    exact TL_append_at (c:=cap) hel.el hi hs hx hrd' hk h1 h63 hb hn h hr hm⟩
theorem TL_slv {i size m:Nat} {e:TypeId} {v:Value} {xs:List Value} (hi:L[i]?=some (rowO e size v m xs)) (h:v.cells=#[v]→v.oneCell'=true→TL P n W ops Q rest fr L):TL P n W ops Q rest fr L:=⟨fun a w hr hm=>by
  have h1:w.ownsRow 0 e size v m xs:=hm.get hi
  rcases h1.2 with ⟨hv,_⟩ | ⟨g,cap,cur,hv,_⟩
  · exact (h (by rw[hv];rfl) (by rw[hv];rfl)).go a w hr hm
  · exact (h (by rw[hv];rfl) (by rw[hv];rfl)).go a w hr hm⟩
def subV (base:Option Addr) (cap c i j:Nat):Value:= .slice (if cap=i then base else base.map (fun (q:Addr)=>q.add (i*c))) (j - i) (cap - i)
theorem rr_slgen {t e:TypeId} {x:Operand} {lo hi:Option Operand} {agg:Bool} {c i j len cap:Nat} {base:Option Addr} (ht:P.underlying t=some (.slice e)) (he:Ty P e agg c) (hx:ev fr x=some (.slice base len cap))
    (hlo:match lo with | none=>i=0 | some z=>∃ k,ev fr z=some (.int k (i:Int))) (hhi:match hi with | none=>j=len | some z=>∃ k,ev fr z=some (.int k (j:Int))) (h1:i≤j) (h2:j≤cap) :
    RR P n W ⟨dst,.slice t x lo hi none,ty,pos,after,guard⟩ fr L (subV base cap c i j):= .mk fun a w hr _=>by
  have e0:(0:Int)≤(i:Int):=by omega
  have hb:∀ (k:IntKind) (p q:Nat) (cd:BoundsCode),p≤q→(Instr.sliceBound (.int k (p:Int)) q cd).run P w = .ok p w:=fun k p q cd h=>by
    have:(0:Int)≤(p:Int)∧(p:Int)≤(q:Int):=by omega
    simp[Instr.sliceBound,asIntOf,this]
  unfold subV
  cases lo <;> cases hi
  · simp only at hlo hhi
    subst hlo hhi
    simp[execOp,hr.ev hx,Instr.sliceAt,Instr.slice,run_underlying ht,Instr.sliceBounds,he.size]
  · obtain⟨k,hk⟩:=hhi
    simp only at hlo
    subst hlo
    simp[execOp,hr.ev hx,hr.ev hk,Instr.sliceAt,Instr.slice,run_underlying ht,Instr.sliceBounds,he.size,hb k j cap _ h2]
  · obtain⟨k,hk⟩:=hlo
    simp only at hhi
    subst hhi
    simp[execOp,hr.ev hx,hr.ev hk,Instr.sliceAt,Instr.slice,run_underlying ht,Instr.sliceBounds,he.size,hb k i j _ h1]
  · obtain⟨k,hk⟩:=hlo
    obtain⟨k',hk'⟩:=hhi
    simp[execOp,hr.ev hx,hr.ev hk,hr.ev hk',Instr.sliceAt,Instr.slice,run_underlying ht,Instr.sliceBounds,he.size,hb k i j _ h1,hb k' j cap _ h2]
theorem rr_slfrom {t e:TypeId} {x z:Operand} {agg:Bool} {c i len cap:Nat} {base:Option Addr} {k:IntKind} (ht:P.underlying t=some (.slice e)) (he:Ty P e agg c) (hx:ev fr x=some (.slice base len cap)) (hz:ev fr z=some (.int k (i:Int))) (h1:i≤len) (h2:len≤cap) :
    RR P n W ⟨dst,.slice t x (some z) none none,ty,pos,after,guard⟩ fr L (subV base cap c i len):=rr_slgen (lo:=some z) (hi:=none) ht he hx ⟨k,hz⟩ rfl h1 h2
theorem sl_sub {α:Type} {f:α→List Value} {c:Nat} (hc:∀ a,(f a).length=c) {w:World} {base:Option Addr} {cap:Nat} {l:List α} (h:Sl w (.slice base l.length cap) l.length (l.flatMap f)) {i j:Nat} (h1:i≤j) (h2:j≤l.length) :
    Sl w (subV base cap c i j) ((l.drop i).take (j - i)).length (((l.drop i).take (j - i)).flatMap f):=by
  obtain⟨b,cp,he,k1,k2,k3⟩:=h
  simp only[Value.slice.injEq,true_and] at he
  obtain⟨rfl,rfl⟩:=he
  have hlen:((l.drop i).take (j - i)).length=j - i:=by simp;omega
  refine⟨_,cap - i,by rw[hlen];rfl,by rw[hlen];omega,by omega,fun h0 => ?_⟩
  rw[hlen] at h0
  obtain⟨b,off,rfl,hr⟩:=k3 (by omega)
  refine⟨b,off+i*c,by rw[if_neg (by omega),Option.map_some,addr_add],fun q u hq => ?_⟩
  have e:l.flatMap f=(l.take i).flatMap f++((l.drop i).take (j - i)).flatMap f++((l.drop i).drop (j - i)).flatMap f:=by
    rw[←List.flatMap_append,←List.flatMap_append,List.append_assoc,List.take_append_drop,List.take_append_drop]
  have hl1:((l.take i).flatMap f).length=i*c:=by rw[len_el hc,List.length_take,Nat.min_eq_left (by omega)]
  have:=hr (i*c+q) u (by
    rw[e,List.append_assoc,List.getElem?_append_right (by omega),hl1,Nat.add_sub_cancel_left,List.getElem?_append_left (List.getElem?_eq_some_iff.1 hq).1]
    exact hq)
  rw[Nat.add_assoc];exact this
theorem TL_rowv {i size m:Nat} {e:TypeId} {v:Value} {xs:List Value} (hi:L[i]?=some (rowO e size v m xs)) (h:∀ base cap,v = .slice base m cap→m≤cap→cap≤9223372036854775807→TL P n W ops Q rest fr L):TL P n W ops Q rest fr L:=⟨fun a w hr hm=>by
  have h1:w.ownsRow 0 e size v m xs:=hm.get hi
  obtain⟨base,cap,hv,hc1,hc2,_⟩:=Sl.of_own h1
  exact (h base cap hv hc1 (by unfold maxLen at hc2;omega)).go a w hr hm⟩
def opsEv (fr:Fr):List Operand→Option (List Value)
  | []=>some []
  | x::r=>match ev fr x,opsEv fr r with | some v,some l=>some (v::l) | _,_=>none
theorem opsEv_of {a:Act} (hr:Rep n a fr):∀ (l:List Operand) (vs:List Value),opsEv fr l=some vs→l.map a.eval=vs
  | [],vs,h=>by simp only[opsEv,Option.some.injEq] at h;subst h;rfl
  | x :: r,vs,h=>by
    simp only[opsEv] at h
    split at h
    · rename_i v l h1 h2
      simp only[Option.some.injEq] at h;subst h
      simp[hr.ev h1,opsEv_of hr r l h2]
    · cases h
theorem rr_func {fn:Fn} {first cap:Array Operand} {vs us:List Value} (h1:opsEv fr first.toList=some vs) (h2:opsEv fr cap.toList=some us):RR P n W ⟨dst,.makeFunc fn first cap,ty,pos,after,guard⟩ fr L (.func fn vs.toArray us.toArray):= .mk fun a w hr _=>by
  have e1:first.map a.eval=vs.toArray:=by rw[←opsEv_of hr _ _ h1,←Array.toList_map,Array.toArray_toList]
  have e2:cap.map a.eval=us.toArray:=by rw[←opsEv_of hr _ _ h2,←Array.toList_map,Array.toArray_toList]
  simp only[execOp,e1,e2]
  rfl
end
end Go.Proofs.Ytldiodhdefnlaaa.eng

/- ReadM -/
namespace Go.Proofs.Ytldiodhdefnlaaa.eng
open Go.RowKit kit mix Go.ChangeShapes Go.WideShapes Go.ChangeAt
structure Msr (P:Program) (H:Type) where
  ok:TypeId→DataW H→Prop
  lim:TypeId→Nat→Prop
  slim:Nat→Prop
  zero:∀ e,lim e 0
  slice:∀ {t e:TypeId} {elems spare:List (DataW H)},P.underlying t=some (.slice e)→ok t (.slice elems spare)→lim e elems.length∧∀ d∈elems,ok e d
  strct:∀ {t:TypeId} {fs:Array Field} {parts:List (DataW H)},P.underlying t=some (.struct fs)→ok t (.agg parts)→∀ (i:Nat) (f:Field) (d:DataW H),fs[i]?=some f→parts[i]?=some d→ok f.type d
  arr:∀ {t e:TypeId} {m:Nat} {parts:List (DataW H)},P.underlying t=some (.array m e)→ok t (.agg parts)→∀ d∈parts,ok e d
  str:∀ {t:TypeId} {b:List UInt8},ok t (.lit (.string b))→slim b.length
section
variable {H:Type} {P:Program}
theorem weights_all {e:TypeId}:∀ (l:List (DataW H)) (d:DataW H),d∈l→∀ n∈d.weights P e,n∈DataW.weightsAll P e l
  | [],_,h,_,_=>by cases h
  | x::r,d,h,n,hn=>by
    rw[DataW.weightsAll,List.mem_append]
    rcases List.mem_cons.1 h with rfl | h
    · exact .inl hn
    · exact .inr (weights_all r d h n hn)
theorem weights_each:∀ (ts:List TypeId) (l:List (DataW H)) (i:Nat) (t:TypeId) (d:DataW H),ts[i]?=some t→l[i]?=some d→∀ n∈d.weights P t,n∈DataW.weightsEach P ts l
  | [],_,_,_,_,h,_,_,_=>by simp at h
  | _::_,[],_,_,_,_,h,_,_=>by simp at h
  | t0::ts,d0::l,0,t,d,ht,hd,n,hn=>by
    simp only[List.getElem?_cons_zero,Option.some.injEq] at ht hd
    subst ht hd
    rw[DataW.weightsEach,List.mem_append];exact .inl hn
  | t0::ts,d0::l,i+1,t,d,ht,hd,n,hn=>by
    rw[DataW.weightsEach,List.mem_append]
    exact .inr (weights_each ts l i t d (by simpa using ht) (by simpa using hd) n hn)
def weightM (P:Program) (H:Type):Msr P H where
  ok t d:=∀ n∈d.weights P t,n≤reachBytes
  lim e n:=n*P.bytesOf e≤reachBytes
  slim n:=n≤reachBytes
  zero e:=by simp
  slice:=fun {t e elems spare} ht h=>by
    have hw:DataW.weights P t (.slice elems spare)=(elems.length+spare.length)*P.bytesOf e::(DataW.weightsAll P e elems++DataW.weightsAll P e spare):=by rw[DataW.weights,ht]
    rw[hw] at h
    refine⟨?_,fun d hd n hn=>h n ?_⟩
    · have h1:=h _ (List.mem_cons_self)
      exact Nat.le_trans (Nat.mul_le_mul_right _ (by omega)) h1
    · exact List.mem_cons_of_mem _ (List.mem_append_left _ (weights_all elems d hd n hn))
  strct:=fun {t fs parts} ht h i f d hf hd n hn=>by
    have hw:DataW.weights P t (.agg parts)=DataW.weightsEach P (fs.toList.map (·.type)) parts:=by rw[DataW.weights,ht]
    rw[hw] at h
    exact h n (weights_each _ _ i f.type d (by rw[List.getElem?_map,Array.getElem?_toList,hf];rfl) hd n hn)
  arr:=fun {t e m parts} ht h d hd n hn=>by
    have hw:DataW.weights P t (.agg parts)=DataW.weightsAll P e parts:=by rw[DataW.weights,ht]
    rw[hw] at h
    exact h n (weights_all parts d hd n hn)
  str:=fun {t b} h=>h _ (by rw[DataW.weights];exact List.mem_cons_self)
theorem weightM_top {ts:List TypeId} {ds:List (DataW H)} (hsz:(DataW.weightsEach P ts ds).all (· ≤ reachBytes)=true) (j:Nat) {t:TypeId} {d:DataW H} (ht:ts[j]?=some t) (hd:ds[j]?=some d):(weightM P H).ok t d:=fun n hn=>by
  have:=List.all_eq_true.1 hsz n (weights_each ts ds j t d ht hd n hn)
  simpa using this
end
section
variable {H:Type} {enc0:TypeId×Value→H} {P:Program} {W:World} {M:Msr P H}
def OpensM (M:Msr P H) (enc0:TypeId×Value→H) (W:World) (t:TypeId) {α:Type} (is:List Value→α→Prop):Prop:=
  ∀ fuel cs x,DataW.trod enc0 P W 0 (fun _=>true) true fuel t cs=some x→M.ok t x.1→∃ a,is cs a
theorem OpensM.mono {t:TypeId} {α β:Type} {is:List Value→α→Prop} {is':List Value→β→Prop} (h:OpensM M enc0 W t is) (hi:∀ cs a,is cs a→∃ b,is' cs b):OpensM M enc0 W t is':=fun f cs x hx hm=>let ⟨a,ha⟩:=h f cs x hx hm;hi _ _ ha
theorem opensM_of {t:TypeId} {α:Type} {is:List Value→α→Prop} (h:Opens enc0 P W t is):OpensM M enc0 W t is:=fun f cs x hx _=>h f cs x hx
theorem opensM_i64 {t:TypeId} (ht:P.underlying t=some (.int .i64)):OpensM M enc0 W t (isInt .i64 (-9223372036854775808) 9223372036854775807):=opensM_of (opens_i64 ht)
theorem opensM_str {t:TypeId} (ht:P.underlying t=some .string):OpensM M enc0 W t (fun cs s=>isStr cs s∧M.slim s.length):=fun f cs x h hm=>by
  obtain⟨s,h1,h2,h3⟩:=DataW.trod_string ht h
  refine⟨s.data.toList,⟨by rw[h1,str_of],?_⟩,?_⟩
  · have e:s.data.toList.length=s.size:=Array.length_toList
    unfold maxLen at h3;omega
  · rw[h2] at hm
    exact M.str hm
theorem opensM_slice {t e:TypeId} {c:Nat} (ht:P.underlying t=some (.slice e)) (hc:P.cellsOf e=c) (hc0:0<c) {α:Type} {is:List Value→α→Prop} (hd:OpensM M enc0 W e is) (hl:∀ cs a,is cs a→cs.length=c):OpensM M enc0 W t (fun cs l=>isSl W is c cs l∧M.lim e l.length):=fun fuel cs x h hm=>by
  rcases DataW.trod_slice ht h with ⟨rfl,_⟩ | ⟨a,len,cap,elems,rest,n,_,rfl,hx,_,hlc,hmx,hel,hread,_⟩
  · exact⟨[],⟨_,rfl,none,0,rfl,Nat.le_refl _,by decide,fun h=>by simp at h⟩,M.zero e⟩
  · rw[hx] at hm
    obtain⟨hlim,hall⟩:=M.slice ht hm
    have each:∀ i,i<len→∃ y:α,∃ cs,W.cells? 0 (a.add (i*c)) c=some cs∧is cs y:=fun i hi=>by
      have h1:=hread i hi
      rw[hc,List.getElem?_eq_getElem (by omega)] at h1
      cases hcell:W.cells? 0 (a.add (i*c)) c with
      | none=>rw[hcell] at h1;simp at h1
      | some cs=>
        rw[hcell] at h1
        obtain⟨y,hy⟩:=hd n cs _ h1 (hall _ (List.mem_map.2 ⟨_,List.getElem_mem (by omega),rfl⟩))
        exact⟨y,cs,rfl,hy⟩
    obtain⟨l,hll,hp⟩:=list_of len each
    subst hll
    refine⟨l,⟨_,rfl,some a,cap,rfl,hlc,hmx,fun h0 => ?_⟩,by rw[List.length_map,hel] at hlim;exact hlim⟩
    obtain⟨cs0,h1,h2⟩:=hp 0 l[0] (List.getElem?_eq_getElem h0)
    have h3:=(cells_some h1).2 0 hc0
    have hlen:=(cells_some h1).1
    rw[List.getElem?_eq_getElem (by omega)] at h3
    have hsp:=spot_none h3
    have e0:a.spot=none:=by
      rw[Nat.zero_mul] at hsp
      unfold Addr.add at hsp
      simpa using hsp
    obtain⟨b,off,spot⟩:=a
    simp only at e0
    subst e0
    refine⟨b,off,rfl,fun i hi => ?_⟩
    obtain⟨cs,h4,h5⟩:=hp i l[i] (List.getElem?_eq_getElem hi)
    refine⟨cs,h5,fun j u hj => ?_⟩
    have hjl:j<c:=by have:=(List.getElem?_eq_some_iff.1 hj).1;rw[(cells_some h4).1] at this;exact this
    have h6:=(cells_some h4).2 j hjl
    rw[addr_add,addr_add] at h6
    rw[h6];exact hj
theorem fieldM_of {t:TypeId} {fs:Array Field} (ht:P.underlying t=some (.struct fs)) {fuel:Nat} {cs:List Value} {x:DataW H×List MemPlace} (h:DataW.trod enc0 P W 0 (fun _=>true) true fuel t cs=some x) (hm:M.ok t x.1) :
    cs.length=P.cellsOf t∧∀ (i:Nat) (f:Field),fs[i]?=some f→∀ {α:Type} {is:List Value→α→Prop},OpensM M enc0 W f.type is→∃ a,is ((cs.drop f.offset).take (P.cellsOf f.type)) a:=by
  obtain⟨xs,n,_,hx,hl,hlen,hf⟩:=DataW.trod_struct ht h
  refine⟨hl,fun i f hi α is ho => ?_⟩
  have h1:=hf i f hi
  have hlt:i<xs.length:=by rw[hlen];exact (Array.getElem?_eq_some_iff.1 hi).1
  rw[List.getElem?_eq_getElem hlt] at h1
  rw[hx] at hm
  exact ho n _ _ h1 (M.strct ht hm i f _ hi (by rw[List.getElem?_map,List.getElem?_eq_getElem hlt];rfl))
theorem topM_agg {t:TypeId} {fs:Array Field} (ht:P.underlying t=some (.struct fs)) {base:Nat} {v:Value} {d:DataW H} {ps:List MemPlace} (hv:Value.okWide P W .any base t v) (h:DataW.Trod enc0 P W 0 (fun _=>true) true t v d ps) {α:Type} {is:List Value→α→Prop} (ho:OpensM M enc0 W t is) (hm:M.ok t d):∃ cs a,v = .agg cs∧is cs.toList a:=by
  obtain⟨cs,fuel,rfl,hf⟩:=top_agg ht hv h
  obtain⟨a,ha⟩:=ho fuel cs.toList _ hf hm
  exact⟨cs,a,rfl,ha⟩
end
theorem SlX.flat {α:Type} {W:World} {is:List Value→α→Prop} {f:α→List Value} {c:Nat} {v:Value} {l:List α} (h:SlX W is c v l) (hc:∀ a,(f a).length=c) (hc0:0<c) (hf:∀ cs a,is cs a→cs=f a):Sl W v l.length (l.flatMap f):=by
  obtain⟨base,cap,h1,h2,h3,h4⟩:=h
  refine⟨base,cap,h1,h2,h3,fun h0 => ?_⟩
  obtain⟨b,off,h5,h6⟩:=h4 h0
  refine⟨b,off,h5,fun j u hj => ?_⟩
  have hjl:=(List.getElem?_eq_some_iff.1 hj).1
  rw[flatMap_len hc] at hjl
  have hi:j / c<l.length:=(Nat.div_lt_iff_lt_mul hc0).2 hjl
  have hmod:=Nat.mod_lt j hc0
  have hdm:j / c*c+j % c=j:=by rw[Nat.mul_comm];exact Nat.div_add_mod j c
  obtain⟨cs,h7,h8⟩:=h6 (j / c) hi
  rw[hf _ _ h7] at h8
  have h9:=flatMap_get hc l (j / c) (j % c) l[j / c] (List.getElem?_eq_getElem hi) hmod
  rw[hdm] at h9
  rw[h9] at hj
  have:=h8 (j % c) u hj
  rw[Nat.add_assoc,hdm] at this
  exact this
end Go.Proofs.Ytldiodhdefnlaaa.eng


/- Part 1 of what SpecOne needs: Kit, Law, Open, Mix, Eng, Step, Ops, Opm, Cls, Opx, MixV, MixW, Go3, Ty, OpenE, ClassL, ClassQ, ClassR, RexL, RexF, RexG, Read, Seq. -/
import Derived.WalkKit
import Derived.WalkSpells
import Derived.WalkLawsBesides
import Derived.Deep.RegionLaw
import Derived.Deep.AppendLies
import Derived.Deep.QuietTactic
import Derived.BigQuiet
import Derived.Deep.DeepCutAuto
import Derived.Lib.Hide
import Derived.Test.YtldiodhdefnlaaaGreatRows
import Derived.ProofKit
import Derived.OpenShut
import Derived.ShutString
import Derived.SizedLaws
import Derived.JoinedCond
import Derived.Deep.CondSized
import Derived.Deep.Quiet
import Derived.StillTail
import Derived.Deep.LoopGhost
import Derived.Laws.BitsLemmas
import Derived.Laws.BytesString
import Derived.Laws.StructEq
import Derived.Test.YtldiodhdefnlaaaGreatProg
import Derived.Laws.Entries
import Derived.Laws.BitsAllLaws
import Derived.Lib.TrailingZeros
namespace Go.Proofs.YtldiodhdefnlaaaGreat
set_option linter.unusedVariables false
set_option linter.unusedSimpArgs false
namespace bL
open Go.RowKit
section
end
theorem Kz{B:Nat}{w0 w w':World}(h:Below B w0 w)(hB:B<=w.heap.size)(hg:Below w.heap.size w w'):Below B w0 w':=h.trans (hg.mono hB)
def KA(b:UInt8):Value:= .int .u8 b.toNat
def Rd(w:World)(g off:Nat)(xs:List Value):Prop:=∀j u,xs[j]?=some u->w.cell? ⟨g,off+j,none⟩=some u
def Wr(w:World)(g off:Nat)(xs:List Value):Prop:=∀j u,xs[j]?=some u->w.cell? ⟨g,off+j,none⟩=some u/\w.frozen? ⟨g,off+j,none⟩=false
theorem Wr.rd{w:World}{g off:Nat}{xs:List Value}(h:Wr w g off xs):Rd w g off xs:=fun j u hj=>(h j u hj).1
theorem Rd.gr{w w':World}{g off:Nat}{xs:List Value}(h:Rd w g off xs)(hg:Below w.heap.size w w'):Rd w' g off xs:=fun j u hj=>by
 have h1:=h j u hj;rw[hg.cell (World.block_lt_of_cell? w _ h1)];exact h1
theorem Wr.gr{w w':World}{g off:Nat}{xs:List Value}(h:Wr w g off xs)(hg:Below w.heap.size w w'):Wr w' g off xs:=fun j u hj=>by
 have h1:=h j u hj;rw[hg.cell (World.block_lt_of_cell? w _ h1.1),hg.frozen (World.block_lt_of_cell? w _ h1.1)];exact h1
theorem Rd.at{w:World}{g off:Nat}{xs:List Value}(h:Rd w g off xs)(j:Nat)(hj:j<xs.length):w.cell? ⟨g,off+j,none⟩=some xs[j]:=h j _ (List.getElem?_eq_getElem hj)
theorem Wr.at{w:World}{g off:Nat}{xs:List Value}(h:Wr w g off xs)(j:Nat)(hj:j<xs.length):w.cell? ⟨g,off+j,none⟩=some xs[j]/\w.frozen? ⟨g,off+j,none⟩=false:=h j _ (List.getElem?_eq_getElem hj)
theorem Wr.set{w:World}{g off:Nat}{xs:List Value}(h:Wr w g off xs)(j:Nat)(hj:j<xs.length)(u:Value):Wr (w.setCell ⟨g,off+j,none⟩ u) g off (xs.set j u):=fun i v hi=>by
 have hlen:i<xs.length:=by simpa using(List.getElem?_eq_some_iff.1 hi).1
 refine⟨?_,by rw[World.frozen?_setCell];exact(h.at i hlen).2⟩
 by_cases e:i=j
 ·subst e
  rw[List.getElem?_set_self hj]at hi;rw[World.cell?_setCell_same _ _ _ (h.at i hj).1];exact hi
 ·rw[List.getElem?_set_ne (Ne.symm e)]at hi
  have hne:(⟨g,off+j,none⟩:Addr)≠⟨g,off+i,none⟩:=fun he=>e (by have:=congrArg Addr.off he;simp at this;omega);rw[World.cell?_setCell_other _ _ _ _ hne];exact(h i v hi).1
theorem Wr.grown{w w':World}{g off:Nat}{xs:List Value}{row:Option Nat}(h:Wr w g off xs)(hg:w.grownBy w' row)(hne:row≠some g):Wr w' g off xs:=fun j u hj=>by
 have h1:=h j u hj;have hb:=World.block_lt_of_cell? w _ h1.1;have e:=hg.block g hb (fun h=>hne h.symm);rw[World.cell?_of_block (w:=w) (a:=⟨g,off+j,none⟩) e,World.frozen?_of_block (w:=w) (a:=⟨g,off+j,none⟩) e];exact h1
theorem Wr.far{w:World}{g off:Nat}{xs:List Value}(h:Wr w g off xs){a:Addr}(ha:a.block≠g)(u:Value):Wr (w.setCell a u) g off xs:=fun j v hj=>by
 have h1:=h j v hj;rw[World.frozen?_setCell,World.cell?_setCell_other _ _ _ _ (fun e=>ha (by rw[e]))];exact h1
theorem QR(z:Value)(n:Nat):(madeCells #[z] n).toList=List.replicate n z:=by
 apply List.ext_getElem?;intro i
 by_cases h:i<n
 ·simp[madeCells,h,Nat.mod_one]
 ·simp[madeCells,h]
theorem Oh(W:World)(o:Obj)(n:Nat)(h:W.heap.size=n):(W.alloc o).heap[n]?=some o:=h▸heap_alloc_new W o
theorem Wr.append{w w':World}{g off:Nat}{xs:List Value}(h:Wr w g off xs){base:Nat}{e:TypeId}{size:Nat}{v:Value}{n:Nat}{ys:List Value}(pD:w.ownsRow base e size v n ys)(hg:w.grownBy w' v.ownBlock)(hb:g<base):Wr w' g off xs:=
 h.grown hg fun e=>by have:=(pD.lt g e).1;omega
theorem Wr.nil(w:World)(g off:Nat):Wr w g off []:=fun j u h=>by simp at h
theorem R6{w:World}{base:Nat}{e:TypeId}{size:Nat}{g n cap:Nat}{xs:List Value}(h:w.ownsRow base e size (.slice (some ⟨g,0,none⟩) n cap) n xs):Wr w g 0 xs:=fun j u hj=>by
 have hl:j<n*size:=by rw[<-h.1];exact(List.getElem?_eq_some_iff.1 hj).1
 rw[Nat.zero_add];exact⟨(h.cellAt j hl).trans hj,h.frozenAt j⟩
theorem B1{P:Program}{src dst e:TypeId}(hs:P.underlying src=some (.slice e))(he:P.underlying e=some (.int .u8))(hd:P.underlying dst=some .string){w:World}{g off n cap:Nat}{l:List UInt8}
 (hn:n=l.length) (h:Rd w g off (l.map KA)):(convert src dst (.slice (some ⟨g,off,none⟩) n cap)).run P w= .ok (.string ⟨l.toArray⟩) w:=by
 subst hn;refine run_convert_bytes_back w src dst e ⟨g,off,none⟩ cap l hs he hd fun j hj=>?_;have:=h.at j (by simpa using hj);rw[show(⟨g,off,none⟩:Addr).add j=⟨g,off+j,none⟩by unfold Addr.add;split<;>simp_all];rw[this];simp[KA]
end bL
namespace law
open Go.ChangeShapes Go.WideShapes Go.ChangeAt Go.RowKit
theorem own:ownKnob Tryz.prog.godebug=none:=by kernel_rfl
theorem laidOut:laidOutB Tryz.prog=true:=by kernel_rfl
structure UQ{H:Type}(enc:TypeId×Value->H)(fn:Func)(W:World)(base:Nat)(args:Array Value)(ds:List (DataW H))(p:List MemPlace):Prop where
 val:∀(j:Nat) t v,fn.params[j]?=some t->args[j]?=some v->Value.okWide Tryz.prog W .any base t v
 trod:DataW.TrodAll enc Tryz.prog W 0 (fun _=>true) true fn.params.toList args.toList ds p
 sized:(DataW.weightsEach Tryz.prog fn.params.toList ds).all (· <=reachBytes)=true
 free:W.noneFrozen p
noncomputable def QT(fn:Func):Bool:=fn.params.toList.all fun t=>Tryz.prog.readableRec t&&decide (t<Tryz.prog.types.size)
section
variable{H:Type}{enc:TypeId×Value->H}
theorem pR{P:Program}(hl:laidOutB P=true){W W':World}{sp':Nat->Bool}:∀{ts:List TypeId} {vs:List Value} {ds:List (DataW H)} {ps:List MemPlace},(ts.all fun t=>P.readableRec t&&decide (t<P.types.size))=true->
    DataW.TrodAll enc P W 0 (fun _=>true) true ts vs ds ps->(∀p∈ps,W.sameAt W' p)->(∀p∈ps,sp' p.block=true)->DataW.TrodAll enc P W' 0 sp' true ts vs ds ps
  |[],[],[],_,_,h,_,_=>h
  | t ::ts,v::vs,d::ds,_,hb,⟨p,q,h1,h2,e⟩,h3,h4=>by
    simp only[List.all_cons,Bool.and_eq_true,decide_eq_true_eq]at hb;subst e;exact⟨p,q,WideElems.Trod_stays hl hb.1.1 hb.1.2 h1 (fun x hx=>h3 x (by simp[hx])) (fun x hx=>h4 x (by simp[hx])),
      pR hl hb.2 h2 (fun x hx=>h3 x (by simp[hx])) (fun x hx=>h4 x (by simp[hx])),rfl⟩
  |[],_::_,_,_,_,h,_,_=>h.elim
  |[],[],_::_,_,_,h,_,_=>h.elim
  |_::_,[],_,_,_,h,_,_=>h.elim
  |_::_,_::_,[],_,_,h,_,_=>h.elim
theorem nO{P:Program}{W:World}{sp:Nat->Bool}:∀{ts:List TypeId} {vs:List Value} {ds:List (DataW H)} {ps:List MemPlace},DataW.TrodAll enc P W 0 sp true ts vs ds ps->ds.length=ts.length
 |[],[],[],_,_=>rfl
 |_::ts,_::vs,_::ds,_,⟨_,_,_,h2,_⟩=>by simp[nO h2]
 |[],_::_,_,_,h=>h.elim
 |[],[],_::_,_,h=>h.elim
 |_::_,[],_,_,h=>h.elim
 |_::_,_::_,[],_,h=>h.elim
def B2(fn:Func)(s:ChangeSpec):Prop:=s.vars=[]/\∀(H:Type) (ds:List (DataW H)),ds.length=fn.params.size->s.fn H ds={results:=[.lit (.bool true)],args:=ds}
theorem Oi{fn:Func}{s:ChangeSpec}{W W':World}{args:Array Value}{ds gs:List (DataW H)}{before:List MemPlace}(hs:B2 fn s)(qT:QT fn=true)(ke:fn.resultTypes=#[4])
 (hW:DataW.Whole enc Tryz.prog fn.params.toList s.vars false W args.toList ds gs before) (hb:Below W.heap.size W W'):
 s.post enc Tryz.prog fn false true false false W args (.bool true) W':=by
 obtain⟨hv,hfn⟩:=hs;have Xe:=hW;obtain⟨p,q,hA,hV,rfl,hfz,Kp⟩:=hW;rw[hv]at hV;obtain⟨rfl,rfl⟩:=trodVars_none hV;have hlen:ds.length=fn.params.size:=by rw[nO hA];simp
 have hlt:∀x∈p,x.block<W.heap.size:=fun x hx=>Xe.lt x (by simp[hx]);have he:s.fn H (ds++[])={results:=[.lit (.bool true)],args:=ds}:=by rw[List.append_nil];exact hfn H ds hlen
 refine⟨ds,[],p++[],[],p,[],Xe,?_,?_,?_,hb.frame _,fun h=>by cases h⟩
 ·rw[he,ke]
  exact trodAll_mk1 (shut_bool Tryz.underlying4 true)
 ·rw[he]
  exact pR laidOut qT hA (fun x hx=>hb.same (hlt x hx)) (fun x hx=>by simpa using hlt x hx)
 ·rw[he,hv]
  rfl
end
set_option maxRecDepth 100000 in
theorem said{os:Os}{f:FuncId}{fn:Func}{s:ChangeSpec}(started:os.Started)(R7:Tryz.prog.inits.idxOf? f=none)(hf:Tryz.prog.funcs[f]?=some fn)(hs:B2 fn s)(qT:QT fn=true)(ke:fn.resultTypes=#[4])
  {H:Type} {enc:TypeId×Value->H}
  (witness:∃(w:World) (tape:Tape) (i:Input),w.os=os/\(w.forCall tape i).Shaped Tryz.checked.prog/\i.vars=[]/\Input.okWide Tryz.checked.prog (w.forCall tape i) .any w.heap.size f i/\
   s.pre6 enc Tryz.checked.prog fn [] false (w.forCall tape i).memory i.args/\({}:Assume).holds Tryz.checked.prog (lone (Frame.enter Tryz.checked.prog f i.args .normal) [] (w.forCall tape i)))
  (walk:∀(W:World) (base:Nat) (args:Array Value) (ds:List (DataW H)) (p:List MemPlace),UQ enc fn W base args ds p->Calls Tryz.prog f args W fun e W'=>e= .returned (.bool true)/\Below W.heap.size W W'):
  ReturnsInHanded {} Tryz.checked os f .any (s.pre6 enc Tryz.prog fn [] false) (s.post enc Tryz.prog fn false true false false):=by
 refine returnsInHanded_of_change_sized (C:=Tryz.checked) own started R7 hf witness ?_;intro W base args ds gs before hval hW _ hsz _;have Xe:=hW;obtain⟨p,q,hA,hV,rfl,hfz,Kp⟩:=hW;rw[hs.1]at hV;obtain⟨rfl,rfl⟩:=trodVars_none hV;have X3:(DataW.weightsEach Tryz.prog fn.params.toList ds).all (· <=reachBytes)=true:=by
  have e:s.plain.varTypes Tryz.prog=[]:=by simp[ChangeSpec.plain,DataSpec.varTypes,hs.1]
  have:=hsz;rw[show s.plain.varTypes Tryz.checked.prog=[]from e]at this;rw[List.append_nil,List.append_nil]at this;exact this
 refine(walk W base args ds p ⟨hval,hA,X3,fun b off h=>hfz b off (by simp[h])⟩).mono fun e W' ⟨he,hb⟩=>?_;exact⟨_,he,Oi hs qT ke Xe hb⟩
end law
namespace bL
open Go.ChangeShapes Go.WideShapes Go.ChangeAt Go.RowKit
def Sl(w:World)(v:Value)(n:Nat)(xs:List Value):Prop:=
 ∃base cap,v= .slice base n cap/\n<=cap/\cap<=maxLen/\(0<n->∃b off,base=some ⟨b,off,none⟩/\Rd w b off xs)
theorem Sl.gr{w w':World}{v:Value}{n:Nat}{xs:List Value}(h:Sl w v n xs)(hg:Below w.heap.size w w'):Sl w' v n xs:=
 let ⟨base,cap,h1,h2,h3,h4⟩:=h
 ⟨base,cap,h1,h2,h3,fun hn=>let ⟨b,off,h5,h6⟩:=h4 hn;⟨b,off,h5,h6.gr hg⟩⟩
theorem Sl.cD{w:World}{base:Nat}{e:TypeId}{size:Nat}{v:Value}{n:Nat}{xs:List Value}(h:w.ownsRow base e size v n xs):Sl w v n xs:=by
 rcases h.2 with⟨rfl,rfl⟩|⟨g,cap,kp,rfl,hb,hg,hn,hm,r⟩
 ·exact⟨none,0,rfl,Nat.le_refl _,by decide,fun h=>by omega⟩
 ·exact⟨_,cap,rfl,hn,hm,fun _=>⟨g,0,rfl,(R6 h).rd⟩⟩
theorem mapM_some{α β:Type}{f:α->Option β}:∀{l:List α} {r:List β},l.mapM f=some r->r.length=l.length/\∀(i:Nat) (a:α),l[i]?=some a->∃b,f a=some b/\r[i]?=some b
  | [],r,h=>by
    simp at h;subst h;exact⟨rfl,fun i a h=>by simp at h⟩
  | x ::l,r,h=>by
    rw[List.mapM_cons]at h
    cases hx:f x with
    |none=>rw[hx]at h;simp at h
    | some y=>
      rw[hx]at h
      cases hr:l.mapM f with
      |none=>rw[hr]at h;simp at h
      | some r'=>
        rw[hr]at h;simp at h;subst h;obtain⟨h1,h2⟩:=mapM_some hr;refine⟨by simp[h1],fun i a hi=>?_⟩
        cases i with
        |zero=>simp at hi;subst hi;exact⟨y,hx,rfl⟩
        |succ i=>simp at hi;simpa using h2 i a hi
theorem fg{w:World}{a:Addr}{n:Nat}{cs:List Value}(h:w.cells? 0 a n=some cs):cs.length=n/\∀j,j<n->w.cell? (a.add j)=cs[j]?:=by
 unfold World.cells? at h;rw[if_pos (Nat.zero_le _)]at h;obtain⟨h1,h2⟩:=mapM_some h;rw[List.length_range]at h1;refine⟨h1,fun j hj=>?_⟩;obtain⟨b,hb,hc⟩:=h2 j j (by simp[hj]);rw[hb,hc]
theorem ez(b off j:Nat):(⟨b,off,none⟩:Addr).add j=⟨b,off+j,none⟩:=by unfold Addr.add;split<;>simp_all
theorem sr{w:World}{a:Addr}{v:Value}(h:w.cell? a=some v):a.spot=none:=by
 unfold World.cell? at h;split at h
 ·cases hs:a.spot with
  |none=>rfl
  |some n=>rw[hs]at h;simp at h
 ·cases h
theorem nP{α:Type}{enc:α->List Value}{c:Nat}(hlen:∀a,(enc a).length=c):∀(l:List α) (i j:Nat) (a:α),l[i]?=some a->j<c->(l.flatMap enc)[i*c+j]?=(enc a)[j]?
 |[],i,j,a,h,_=>by simp at h
 |x::l,0,j,a,h,hj=>by
  simp at h;subst h;rw[List.flatMap_cons,List.getElem?_append_left (by rw[hlen];omega)];simp
 |x::l,i+1,j,a,h,hj=>by
  have ih:=nP hlen l i j a (by simpa using h) hj;rw[List.flatMap_cons,List.getElem?_append_right (by rw[hlen,Nat.add_mul];omega),hlen,show(i+1)*c+j-c=i*c+j by rw[Nat.add_mul];omega];exact ih
theorem tk{α:Type}{enc:α->List Value}{c:Nat}(hlen:∀a,(enc a).length=c)(l:List α):(l.flatMap enc).length=l.length*c:=by
 induction l with
 |nil=>simp
 |cons x l ih=>rw[List.flatMap_cons,List.length_append,hlen,ih,List.length_cons,Nat.add_mul];omega
section
variable{H:Type}{enc0:TypeId×Value->H}{P:Program}{W:World}
theorem qU{α:Type}{p:Nat->α->Prop}:∀(n:Nat),(∀i,i<n->∃a,p i a)->∃l:List α,l.length=n/\∀(i:Nat) (a:α),l[i]?=some a->p i a
  |0,_=>⟨[],rfl,fun i a h=>by simp at h⟩
  | n +1,h=>by
    obtain⟨l,hl,hp⟩:=qU n fun i hi=>h i (by omega);obtain⟨a,ha⟩:=h n (by omega);refine⟨l++[a],by simp[hl],fun i b hb=>?_⟩
    by_cases hi:i<n
    · rw[List.getElem?_append_left (by omega)]at hb;exact hp i b hb
    · have hlt:=(List.getElem?_eq_some_iff.1 hb).1
      simp at hlt;obtain rfl:i=n:=by omega
      rw[List.getElem?_append_right (by omega)]at hb;rw[hl]at hb;simp at hb;subst hb;exact ha
theorem Im{t e:TypeId}(ht:P.underlying t=some (.slice e)){c:Nat}(hc:P.cellsOf e=c)(uV:0<c){α:Type}(enc:α->List Value)(hlen:∀a,(enc a).length=c)(ok:α->Prop)
    (dec:∀(fuel:Nat) (cs:List Value) x,DataW.trod enc0 P W 0 (fun _=>true) true fuel e cs=some x->∃a,cs=enc a/\ok a)
    {base:Nat} {v:Value} {d:DataW H} {ps:List MemPlace} (hv:Value.okWide P W .any base t v) (h:DataW.Trod enc0 P W 0 (fun _=>true) true t v d ps):
    ∃l:List α,Sl W v l.length (l.flatMap enc)/\(∀a∈l,ok a)/\((d= .nil/\l=[])\/∃elems spare,d= .slice elems spare/\elems.length=l.length):=by
  obtain⟨a0,len,cap,rfl⟩:=okWide_slice ht hv;obtain⟨fuel,hf⟩:=h;have uo:DataW.trod enc0 P W 0 (fun _=>true) true fuel t [.slice a0 len cap]=some (d,ps):=hf;rcases DataW.trod_slice ht uo with⟨hcs,hx⟩|⟨a,aam,Ew,elems,rest,n,_,hcs,hx,_,hl,hm,pE,qT,_⟩
  · simp only[List.cons.injEq,Value.slice.injEq,and_true]at hcs
    obtain⟨rfl,rfl,rfl⟩:=hcs;simp only[Prod.mk.injEq]at hx;exact⟨[],⟨none,0,rfl,Nat.le_refl _,by decide,fun h=>by simp at h⟩,by simp,.inl ⟨hx.1,rfl⟩⟩
  · simp only[List.cons.injEq,Value.slice.injEq,and_true]at hcs
    obtain⟨rfl,rfl,rfl⟩:=hcs;simp only[Prod.mk.injEq]at hx;have each:∀i,i<len->∃b:α,(W.cells? 0 (a.add (i*c)) c=some (enc b))/\ok b:=fun i hi=>by
      have h1:=qT i hi;rw[hc]at h1;rw[List.getElem?_eq_getElem (by omega)]at h1
      cases hcell:W.cells? 0 (a.add (i*c)) c with
      |none=>rw[hcell]at h1;simp at h1
      | some cs=>
        rw[hcell]at h1;obtain⟨b,rfl,jU⟩:=dec n cs _ h1;exact⟨b,rfl,jU⟩
    obtain⟨l,Er,hp⟩:=qU len each;refine⟨l,⟨some a,cap,by rw[Er],by omega,hm,fun h0=>?_⟩,fun b hb=>?_,.inr ⟨_,_,hx.1,by simp[pE,Er]⟩⟩
    · have h1:=hp 0 l[0] (List.getElem?_eq_getElem h0)
      have h2:=(fg h1.1).2 0 uV;rw[List.getElem?_eq_getElem (by rw[hlen];exact uV)]at h2;have hsp:=sr h2;have e0:a.spot=none:=by
        rw[Nat.zero_mul]at hsp;unfold Addr.add at hsp
        simpa using hsp
      obtain⟨b,off,spot⟩:=a;simp only at e0;subst e0;refine⟨b,off,rfl,fun j u hj=>?_⟩;have GV:=(List.getElem?_eq_some_iff.1 hj).1;rw[tk hlen]at GV;have hi:j/c<l.length:=(Nat.div_lt_iff_lt_mul uV).2 GV;have Io:=Nat.mod_lt j uV;have Oj:j/c*c+j %c=j:=by rw[Nat.mul_comm];exact Nat.div_add_mod j c
      have h3:=hp (j/c) l[j/c] (List.getElem?_eq_getElem hi);have h4:=(fg h3.1).2 (j %c) Io;rw[ez,ez,Nat.add_assoc,Oj]at h4;rw[h4,<-nP hlen l (j/c) (j %c) l[j/c] (List.getElem?_eq_getElem hi) Io,Oj];exact hj
    · obtain⟨i,hi,rfl⟩:=List.mem_iff_getElem.1 hb
      exact(hp i _ (List.getElem?_eq_getElem hi)).2
theorem Ip{ts:List TypeId}{ds:List (DataW H)}{j:Nat}{t e:TypeId}{d:DataW H}{n:Nat}(hsz:(DataW.weightsEach P ts ds).all (· <=reachBytes)=true)(hj:ts[j]?=some t)(hd:ds[j]?=some d)
 (hu:P.underlying t=some (.slice e)) {B:Nat} (hB:P.bytesOf e=B) (h:(d= .nil/\n=0)\/∃elems spare,d= .slice elems spare/\elems.length=n):n*B<=140737488351232:=by
 rcases h with⟨_,rfl⟩|⟨elems,spare,rfl,rfl⟩
 ·omega
 ·have h1:=sized_slice hsz hj hd hu
  rw[hB]at h1;have:elems.length*B<=(elems.length+spare.length)*B:=Nat.mul_le_mul_right _ (by omega);have e:reachBytes=140737488351232:=rfl;omega
end
def yz(b:Bool):List Value:=[.bool b]
def dK(n:Int):List Value:=[.int .i64 n]
theorem KB{α:Type}{f:α->Value}(l:List α):l.flatMap (fun a=>[f a])=l.map f:=by
 induction l with
 |nil=>rfl
 |cons x l ih=>simp[List.flatMap_cons,ih]
def bX(n:Int):Prop:= -9223372036854775808<=n/\n<=9223372036854775807
theorem KC{n:Int}(h:(Lit.int .i64 n).wf=true):bX n:=by simpa[bX,Lit.wf,IntKind.min,IntKind.max,IntKind.signed,IntKind.bits]using h
theorem open_ints{H:Type}{enc0:TypeId×Value->H}{P:Program}{W:World}{t e:TypeId}(ht:P.underlying t=some (.slice e))(he:P.underlying e=some (.int .i64))(hc:P.cellsOf e=1)(hB:P.bytesOf e=8)
 {base:Nat} {v:Value} {d:DataW H} {ps:List MemPlace} (hv:Value.okWide P W .any base t v) (h:DataW.Trod enc0 P W 0 (fun _=>true) true t v d ps) {ts:List TypeId} {ds:List (DataW H)} (hsz:(DataW.weightsEach P ts ds).all (· <=reachBytes)=true) (j:Nat) (hj:ts[j]?=some t) (hd:ds[j]?=some d):
 ∃l:List Int,Sl W v l.length (l.map (.int .i64))/\(∀n∈l,bX n)/\l.length*8<=140737488351232:=by
 obtain⟨l,h1,h2,h3⟩:=Im ht hc (by decide) dK (fun _=>rfl) bX (fun n cs x hx=>let ⟨b,h,_,hw⟩:=DataW.trod_int he hx;⟨b,h,KC hw⟩) hv h;have h4:=Ip (n:=l.length) hsz hj hd ht hB (by rcases h3 with⟨h,rfl⟩|h;exact .inl ⟨h,rfl⟩;exact .inr h);exact⟨l,by rw[<-KB];exact h1,h2,h4⟩
end bL
namespace db
open Go.RowKit
abbrev Gr(w w':World):Prop:=Below w.heap.size w w'
theorem Gr.refl(w:World):Gr w w:=Below.refl _ _
theorem Gr.trans{a b c:World}(h:Gr a b)(k:Gr b c):Gr a c:=Below.trans h (k.mono h.size)
theorem Gr.drew(w:World):Gr w w.drew:=(Below.refl _ _).drew
def Up(w w':World):Prop:=Gr w w'
def fv(S:World->Prop):Prop:=∀w w',S w->Gr w w'->S w'
theorem Iq(w:World):fv (Up w):=fun _ _ h k=>Gr.trans h k
section
variable{P:Program}{ops:Array Oper}{md:Region.Mode}{Q:Exit->Act->World->Prop}
def uW(P:Program)(w:World)(v:Value):Result Next->Prop
 | .ok (.value u) w'=>u=v/\Gr w w'
 | .ok .skip w'=>v=undef/\Gr w w'
 | .ok (.enter f args) w'=>Gr w w'/\Calls P f args w' (fun e N5=>e= .returned v/\Gr w' N5)
 |_=>False
def ky(P:Program)(o:Oper)(a:Act)(w:World)(v:Value):Prop:=uW P w v ((execOp a.eval o).run P w)
def fF(P:Program)(ops:Array Oper)(S:World->Prop)(o:Oper)(v:Value)(a:Act):Prop:=
 (Region.wanted o (yielded ops a.tmps)=true/\∀w,S w->ky P o a w v)\/(Region.wanted o (yielded ops a.tmps)=false/\v=undef)
theorem fF.mono{S S':World->Prop}{o:Oper}{v:Value}{a:Act}(hs:∀w,S' w->S w)(h:fF P ops S o v a):fF P ops S' o v a:=
 h.imp (fun⟨h1,h2⟩=>⟨h1,fun w hw=>h2 w (hs w hw)⟩) id
theorem fF.of_same{S:World->Prop}{o:Oper}{v:Value}{a a':Act}(hy:fF P ops S o v a)(he:execOp a'.eval o=execOp a.eval o)
 (hw:Region.wanted o (yielded ops a'.tmps)=Region.wanted o (yielded ops a.tmps)):fF P ops S o v a':=by
 unfold fF ky at*;rw[he,hw];exact hy
theorem fF.wpOp{S:World->Prop}{i:Nat}{o:Oper}{v:Value}{a:Act}(hi:ops[i]?=some o)(hy:fF P ops S o v a)(jB:fv S)
    {K:Act->World->Prop} {w:World} (hS:S w) (h:∀w',S w'->K (a.put o.dst v) w'):wpOp P ops Q i K a w:=by
  unfold Go.wpOp;simp only[hi];rcases hy with⟨hw,hv⟩|⟨hw,rfl⟩
  · simp only[hw,if_true]
    refine .inl ?_;have h1:=hv w hS;unfold ky at h1;unfold Oper.wp;generalize (execOp a.eval o).run P w=r at*
    cases r with
    | ok n w'=>
      cases n<;>simp only[uW]at h1<;>simp only[Oper.upon]
      case value u=>rw[h1.1];exact h _ (jB _ _ hS h1.2)
      case skip=>rw[<-h1.1];exact h _ (jB _ _ hS h1.2)
      case enter f args=>
        refine h1.2.mono fun e N5 ⟨he,hg⟩=>?_;subst he;exact h _ (jB _ _ (jB _ _ hS h1.1) hg)
    |halt x w'=>simp only[uW]at h1
  · simp only[hw,Bool.false_eq_true,if_false];exact h _ hS
theorem yA{S:World->Prop}{j:Nat}{oi oj:Oper}{v:Value}(hj:ops[j]?=some oj)(UR:oi.apart ops oj=true)
    (hsi:∀cs b,oi.op≠ .select cs b) (hsj:∀cs b,oj.op≠ .select cs b)
    (hQ:∀c a w,Q (.panic c) (a.put oi.dst v) w->Q (.panic c) a w) {K:Act->World->Prop} {a:Act} {w:World}
    (hy:fF P ops S oi v a) (h:wpOp P ops Q j K (a.put oi.dst v) w):
    wpOp P ops Q j (fun a' w'=>fF P ops S oi v a'/\K (a'.put oi.dst v) w') a w:=by
  obtain⟨h1,h2,h3⟩:=Oper.apart_spec UR;have keep:∀(a:Act),fF P ops S oi v a->∀u,fF P ops S oi v (a.put oj.dst u):=fun a hy u=>
    hy.of_same (execOp_put oi hsi a oj.dst u h3) (wanted_put oi a oj.dst u h3)
  have US:∀d,fF P ops S oi v {a with defers:=d::a.defers}:=fun d=>hy.of_same rfl rfl;unfold wpOp at*;simp only[hj]at*;rw[wanted_put oj a oi.dst v h1]at h;split
  · rename_i hw
    simp only[hw,if_true]at h;rcases h with h|⟨QU,UT⟩
    case inr=>exact .inr ⟨by unfold Oper.asks at*;rw[execOp_put oj hsj a oi.dst v h1]at QU;exact QU,UT⟩
    refine .inl ?_;unfold Oper.wp at*;rw[execOp_put oj hsj a oi.dst v h1]at h;generalize (execOp a.eval oj).run P w=r at*
    cases r with
    | ok n w'=>
      cases n<;>simp only[Oper.upon]at h⊢
      case value u=>exact⟨keep a hy u,by rw[<-Act.put_comm a v u h2];exact h⟩
      case skip=>exact⟨keep a hy _,by rw[<-Act.put_comm a v undef h2];exact h⟩
      case defer d=>
        refine⟨keep _ (US d) _,?_⟩;rw[<-Act.put_comm _ v undef h2,<-Act.put_defers];exact h
      case enter f args=>
        refine Calls.mono h fun e N5 he=>?_
        cases e with
        |returned u=>exact⟨keep a hy u,by rw[<-Act.put_comm a v u h2];exact he⟩
        |panicked c=>exact hQ _ _ _ he
        |outgrown=>exact he
      case row row args=>exact Rows.mono h fun u N5 he=>⟨keep a hy u,by rw[<-Act.put_comm a v u h2];exact he⟩
    | halt x w'=>
      cases x<;>simp only[Oper.upon]at h⊢
      case panic u=>exact hQ _ _ _ h
  · rename_i hw
    simp only[hw]at h;exact⟨keep a hy _,by rw[<-Act.put_comm a v undef h2];exact h⟩
def su(P:Program)(md:Region.Mode)(ops:Array Oper)(Q:Exit->Act->World->Prop)(n:Nat)(L:Array Bool->Act->World->Prop):Nat->Array Bool->Act->(World->Prop)->Prop
  |0,listed,a,S=>∀w,S w->L listed a w
  | f+1,listed,a,S=>Region.ready md ops listed≠[]/\
    ∀i∈Region.ready md ops listed,i<n/\∀w,S w->wpOp P ops Q i (fun a' w'=>∃S',fv S'/\(∀x,S' x->S x)/\S' w'/\su P md ops Q n L f (listed.setIfInBounds i true) a' S') a w
theorem uX{n g:Nat}{L:Array Bool->Act->World->Prop}(hL:∀listed a w,L listed a w->wpAny P md ops Q g listed a w):
 ∀(f:Nat) (listed:Array Bool) (a:Act) (S:World->Prop) (w:World),S w->su P md ops Q n L f listed a S->wpAny P md ops Q (f+g) listed a w
 |0,listed,a,S,w,hw,h=>by rw[Nat.zero_add];exact hL _ _ _ (h w hw)
 |f+1,listed,a,S,w,hw,h=>by
  rw[show f+1+g=(f+g)+1 by omega];exact⟨fun h0=>absurd h0 h.1,fun i hi=>wpOp_mono (fun a' w' ⟨S',_,_,nJ,h'⟩=>uX hL f _ a' S' w' nJ h') ((h.2 i hi).2 w hw)⟩
theorem An{n i:Nat}{oi:Oper}{v:Value}{L:Array Bool->Act->World->Prop}(hi:ops[i]?=some oi)(iO:∀(j:Nat) (o:Oper) cs b,ops[j]?=some o->o.op≠ .select cs b)
    (hs:Region.sinkB md ops n=true) (hc:Region.chainB md ops n=true) (hn:n<ops.size) (Ex:i<n)
    (hQ:∀c a w,Q (.panic c) (a.put oi.dst v) w->Q (.panic c) a w)
    (hdone:∀listed a w,L listed a w->∀j∈Region.ready md ops listed,n<=j):
    ∀ (f:Nat) (listed:Array Bool) (a:Act) (S:World->Prop),fv S->HeadInv md ops n listed->
      (∀j oj,ops[j]?=some oj->j≠i->listed.getD j true=false->(∀e∈oj.after,Region.binds md e=true->e.on≠i)->oi.apart ops oj=true)->
      i∈Region.ready md ops listed->fF P ops S oi v a->
      su P md ops Q n L f (listed.setIfInBounds i true) (a.put oi.dst v) S->su P md ops Q n L (f+1) listed a S:=by
  intro f
  induction f with
  | zero=>
    intro listed a S jB inv _ hr hy H;have Kq:=(mem_ready.1 hr).1;refine⟨fun h=>(by rw[h]at hr;cases hr),fun j hj=>?_⟩;have UU:j<n:=by
      rcases Nat.lt_or_ge j n with h|h
      · exact h
      · exact absurd hj (tail_waits hs hc hn inv _ i rfl Ex Kq j h)
    refine⟨UU,fun w hw=>?_⟩
    by_cases Ao:j=i
    · subst Ao;exact hy.wpOp hi jB hw fun w' nJ=>⟨S,jB,fun _ h=>h,nJ,H⟩
    · have:=hdone _ _ _ (H w hw) j (ready_mono hj Ao)
      omega
  | succ f ih=>
    intro listed a S jB inv yB hr hy H;have Kq:=(mem_ready.1 hr).1;refine⟨fun h=>(by rw[h]at hr;cases hr),fun j hj=>?_⟩;have UU:j<n:=by
      rcases Nat.lt_or_ge j n with h|h
      · exact h
      · exact absurd hj (tail_waits hs hc hn inv _ i rfl Ex Kq j h)
    refine⟨UU,fun w hw=>?_⟩
    by_cases Ao:j=i
    · subst Ao;exact hy.wpOp hi jB hw fun w' nJ=>⟨S,jB,fun _ h=>h,nJ,H⟩
    · have h1:=(H.2 j (ready_mono hj Ao)).2 w hw
      obtain⟨KD,oj,GY,mb⟩:=mem_ready.1 hj;have Ir:∀e∈oj.after,Region.binds md e=true->e.on≠i:=fun e he hb Es=>by
        have h1:=mb e he hb;rw[Es,getD_both Kq]at h1
        cases h1
      have h2:=yA GY (yB j oj GY Ao KD Ir) (fun cs b=>iO i oi cs b hi) (fun cs b=>iO j oj cs b GY) hQ hy h1;have Ey:∀k ok,ops[k]?=some ok->k≠i->(listed.setIfInBounds j true).getD k true=false->
          (∀e∈ok.after,Region.binds md e=true->e.on≠i)->oi.apart ops ok=true:=fun k ok hk X4 Kq hno=>by
        refine yB k ok hk X4 ?_ hno
        by_cases QX:j=k
        · subst QX;exact KD
        · rw[getD_set_ne true QX]at Kq;exact Kq
      refine wpOp_mono (fun a' w' h3=>?_) h2;obtain⟨h3,S',je,ii,nJ,h4⟩:=h3;refine⟨S',je,ii,nJ,ih (listed.setIfInBounds j true) a' S' je (inv.set hj UU) Ey (ready_mono hr (Ne.symm Ao)) (h3.mono ii) ?_⟩;rw[Array.setIfInBounds_comm _ _ Ao];exact h4
def Kr(P:Program)(ops:Array Oper)(Q:Exit->Act->World->Prop)(L:Act->World->Prop):List Bool->List Oper->Act->(World->Prop)->Prop
  |true::ks,o::rest,a,S=>∃v,(if Region.wanted o (yielded ops a.tmps)then ∀w,S w->ky P o a w v else v=undef)/\Kr P ops Q L ks rest (a.put o.dst v) S
  | false::ks,o::rest,a,S=>∀w,S w->if Region.wanted o (yielded ops a.tmps)then
      o.wp P a w (fun a' w'=>∃S',fv S'/\(∀x,S' x->S x)/\S' w'/\Kr P ops Q L ks rest a' S') Q
    else Kr P ops Q L ks rest (a.put o.dst undef) S
  |_,_,a,S=>∀w,S w->L a w
def p9(md:Region.Mode)(ops:Array Oper)(g:Nat):List Bool->Nat->Array Bool->Bool
 |true::ks,k,listed=>(Region.ready md ops listed).contains k&&Region.free md ops listed k&&p9 md ops g ks (k+1) (listed.setIfInBounds k true)
 |false::ks,k,listed=>decide (Region.ready md ops listed=[k])&&p9 md ops g ks (k+1) (listed.setIfInBounds k true)
 |[],k,listed=>Region.seqB md ops g k listed
def R8(md:Region.Mode)(ops:Array Oper)(ks:List Bool):Bool:=
 Region.noSelect ops&&decide (ks.length<ops.size)&&Region.sinkB md ops ks.length&&Region.chainB md ops ks.length&&p9 md ops (ops.size-ks.length) ks 0 (Array.replicate ops.size false)
theorem p_{n g:Nat}{Lq:Act->World->Prop}(iO:Region.noSelect ops=true)(hs:Region.sinkB md ops n=true)(hc:Region.chainB md ops n=true)(hn:n<ops.size)
  (hQ:∀c a d v w,Q (.panic c) (a.put d v) w->Q (.panic c) a w):
  ∀(ks:List Bool) (l:List Oper) (k:Nat) (listed:Array Bool) (a:Act) (S:World->Prop),fv S->l.length=ks.length->(∀j,j<l.length->l[j]?=ops[k+j]?)->k+l.length=n->HeadInv md ops n listed->
  p9 md ops g ks k listed=true->Kr P ops Q Lq ks l a S->
  su P md ops Q n (fun uq a' w'=>Region.seqB md ops g n uq=true/\Lq a' w') ks.length listed a S
 |[],[],k,listed,a,S,_,_,_,hk,_,hB,h=>by
  have:k=n:=by simpa using hk
  subst this;exact fun w hw=>⟨by simpa[p9]using hB,h w hw⟩
 |[],_::_,_,_,_,_,_,hlen,_,_,_,_,_=>by simp at hlen
 |_::_,[],_,_,_,_,_,hlen,_,_,_,_,_=>by simp at hlen
 | true::ks,o::l,k,listed,a,S,jB,hlen,hl,hk,inv,hB,h=>by
  have h0:ops[k]?=some o:=by simpa using(hl 0 (by simp)).symm
  simp only[p9,Bool.and_eq_true]at hB;obtain⟨⟨hr,hf⟩,X5⟩:=hB;have UW:k<n:=by simp only[List.length_cons]at hk;omega
  have ur:k∈Region.ready md ops listed:=by simpa using hr
  obtain⟨v,hy,hK⟩:=h;have UX:fF P ops S o v a:=by
   by_cases hw:Region.wanted o (yielded ops a.tmps)=true
   ·rw[if_pos hw]at hy;exact .inl ⟨hw,hy⟩
   ·rw[if_neg hw]at hy;exact .inr ⟨by simpa using hw,hy⟩
  exact An h0 (Region.noSelect_spec iO) hs hc hn UW (fun c a w=>hQ c a o.dst v w) (fun uq a' w' hL=>seqB_ready hL.1) ks.length listed a S jB inv (Region.free_spec h0 hf) ur UX
   (p_ iO hs hc hn hQ ks l (k+1) _ _ S jB (by simpa using hlen) (fun j hj=>by have:=hl (j+1) (by simp;omega);simpa[Nat.add_assoc,Nat.add_comm 1 j]using this) (by simp only[List.length_cons]at hk;omega) (inv.set ur UW) X5 hK)
 | false::ks,o::l,k,listed,a,S,jB,hlen,hl,hk,inv,hB,h=>by
  have h0:ops[k]?=some o:=by simpa using(hl 0 (by simp)).symm
  simp only[p9,Bool.and_eq_true,decide_eq_true_eq]at hB;obtain⟨hr,X5⟩:=hB;have UW:k<n:=by simp only[List.length_cons]at hk;omega
  have ur:k∈Region.ready md ops listed:=by simp[hr]
  have next:∀a' S',fv S'->Kr P ops Q Lq ks l a' S'->su P md ops Q n (fun uq a' w'=>Region.seqB md ops g n uq=true/\Lq a' w') ks.length (listed.setIfInBounds k true) a' S':=fun a' S' je hK=>
   p_ iO hs hc hn hQ ks l (k+1) _ _ S' je (by simpa using hlen) (fun j hj=>by have:=hl (j+1) (by simp;omega);simpa[Nat.add_assoc,Nat.add_comm 1 j]using this) (by simp only[List.length_cons]at hk;omega) (inv.set ur UW) X5 hK
  refine⟨by rw[hr];simp,fun i hi=>?_⟩;obtain rfl:i=k:=by rw[hr]at hi;simpa using hi
  refine⟨UW,fun w hw=>?_⟩;have h1:=h w hw;unfold wpOp;simp only[h0];split
  ·rename_i X6
   rw[if_pos X6]at h1;exact .inl (Oper.wp_mono (fun a' w' ⟨S',je,ii,nJ,hK⟩=>⟨S',je,ii,nJ,next _ _ je hK⟩) h1)
  ·rename_i X6
   rw[if_neg X6]at h1;exact⟨S,jB,fun _ h=>h,hw,next _ _ jB h1⟩
theorem xW{id:Nat}{a:Act}{w:World}{l:List Oper}(ks:List Bool)(hm:P.follows .mixedOrders=true)(hB:R8 .any l.toArray ks=true)
 (hQ:∀c a d v w,Q (.panic c) (a.put d v) w->Q (.panic c) a w) (S:World->Prop) (jB:fv S) (hS:S w.drew)
 (h:Kr P l.toArray Q (fun a' w'=>wpList P l.toArray Q (l.drop ks.length) a' w') ks (l.take ks.length) a S):(Code.region id l.toArray true).wp P Q a w:=by
 simp only[R8,Bool.and_eq_true,decide_eq_true_eq]at hB;obtain⟨⟨⟨⟨iO,hn⟩,hs⟩,hc⟩,Ez⟩:=hB;have Uk:ks.length<l.length:=by simpa using hn
 have UY:(l.take ks.length).length=ks.length:=by simp;omega
 have QY:(l.drop ks.length).length=l.toArray.size-ks.length:=by simp
 have R9:HeadInv .any l.toArray ks.length (Array.replicate l.toArray.size false):=
  ⟨by simp,fun j oj _ hl=>(by rw[getD_replicate_false]at hl;cases hl),fun t _ ht=>getD_in (by simpa using ht) (getD_replicate_false _ _)⟩
 have H:=p_ (md:= .any) (g:=l.toArray.size-ks.length) iO hs hc hn hQ ks (l.take ks.length) 0 _ a S jB UY (fun j hj=>by
  have k9:j<ks.length:=by rw[UY]at hj;exact hj
  simp[k9]) (by simpa using UY) R9 Ez h
 refine wp_region_any hm ?_;have:=uX (Q:=Q) (g:=l.toArray.size-ks.length) (fun listed a' w' hL=>by
  have:=wpAny_of_seq (md:= .any) (Q':=Q) (l.drop ks.length) ks.length listed a' w' (fun j=>by simp[List.getElem?_drop]) (by rw[QY];exact hL.1) hL.2
  rwa [QY]at this) _ _ _ S w.drew hS H
 rw[show ks.length+(l.toArray.size-ks.length)=l.toArray.size by omega]at this;exact this
theorem db{id:Nat}{a:Act}{w:World}{l:List Oper}(n:Nat)(ks:List Bool)(hn:ks.length=n)(hm:P.follows .mixedOrders=true)(hB:R8 .any l.toArray ks=true)
 (hQ:∀c a d v w,Q (.panic c) (a.put d v) w->Q (.panic c) a w) (S:World->Prop) (jB:fv S) (hS:S w.drew)
 (h:Kr P l.toArray Q (fun a' w'=>wpList P l.toArray Q (l.drop n) a' w') ks (l.take n) a S):(Code.region id l.toArray true).wp P Q a w:=by
 subst hn;exact xW ks hm hB hQ S jB hS h
section
variable{L:Act->World->Prop}{ks:List Bool}{o:Oper}{rest:List Oper}{a:Act}{S:World->Prop}
theorem Ol{u:Value}(hw:Region.wanted o (yielded ops a.tmps)=true)(h:∀w,S w->(execOp a.eval o).run P w= .ok (.value u) w)(hk:Kr P ops Q L ks rest (a.put o.dst u) S):
 Kr P ops Q L (true::ks) (o::rest) a S:=
 ⟨u,by rw[if_pos hw];intro w hS;unfold ky;rw[h w hS];exact⟨rfl,Gr.refl _⟩,hk⟩
theorem KE(hw:Region.wanted o (yielded ops a.tmps)=false)(hk:Kr P ops Q L ks rest (a.put o.dst undef) S):
 Kr P ops Q L (true::ks) (o::rest) a S:=
 ⟨undef,by rw[if_neg (by rw[hw];exact Bool.false_ne_true)],hk⟩
theorem Om{l:List Oper}(h:∀w,S w->L a w):Kr P ops Q L [] l a S:=h
end
end
end db
namespace bH
open Go.RowKit bL db
abbrev Fr:=List (Nat×Value)
def look:Fr->Nat->Option Value
 |[],_=>none
 |(k,v)::r,i=>bif Nat.beq k i then some v else look r i
structure jC(n:Nat)(a:Act)(fr:Fr):Prop where
 size:a.tmps.size=n
 defers:a.defers=[]
 get:∀i v,look fr i=some v->a.tmps[i]?=some v
theorem jC.put{n:Nat}{a:Act}{fr:Fr}(h:jC n a fr){d:Nat}(hd:Nat.blt d n=true)(v:Value):jC n (a.put (some d) v) ((d,v)::fr):=by
 have yC:d<n:=Nat.le_of_ble_eq_true hd;refine⟨by simp[Act.put,h.size],h.defers,fun i u hi=>?_⟩;unfold look at hi;simp only[Act.put]
 cases e:Nat.beq d i
 ·rw[e]at hi
  rw[Array.getElem?_setIfInBounds_ne (Nat.ne_of_beq_eq_false e)];exact h.get i u hi
 ·rw[e]at hi
  obtain rfl:d=i:=Nat.eq_of_beq_eq_true e;simp only[cond_true,Option.some.injEq]at hi;subst hi;rw[Array.getElem?_setIfInBounds_self_of_lt (by rw[h.size];exact yC)]
theorem jC.mc{n:Nat}{a:Act}{fr:Fr}(h:jC n a fr)(v:Value):jC n (a.put none v) fr:=h
def B3:Fr->Fr->Prop
 |[],_=>True
 |(i,v)::r,fr=>look fr i=some v/\B3 r fr
theorem KF{xS fr:Fr}(h:B3 xS fr){i:Nat}{v:Value}(hl:look xS i=some v):look fr i=some v:=by
 induction xS with
 |nil=>cases hl
 | cons x r ih=>
  obtain⟨k,u⟩:=x;unfold look at hl
  cases e:Nat.beq k i
  ·rw[e]at hl;exact ih h.2 hl
  ·rw[e]at hl
   obtain rfl:k=i:=Nat.eq_of_beq_eq_true e;simp only[cond_true,Option.some.injEq]at hl;subst hl;exact h.1
theorem jC.sub{n:Nat}{a:Act}{fr xS:Fr}(h:jC n a fr)(hs:B3 xS fr):jC n a xS:=⟨h.size,h.defers,fun i v hl=>h.get i v (KF hs hl)⟩
def ev(fr:Fr):Operand->Option Value
 | .tmp t=>look fr t
 | .const v=>some v
 | .global g=>some (.pointer (some ⟨g,0,none⟩))
 | .func f=>some (.func (.func f) #[] #[])
theorem jC.ev{n:Nat}{a:Act}{fr:Fr}(h:jC n a fr){x:Operand}{v:Value}(hx:ev fr x=some v):a.eval x=v:=by
 cases x with
 |tmp t=>simp[Act.eval,Array.getD_eq_getD_getElem?,h.get t v hx]
 |const u=>simpa[bH.ev,Act.eval]using hx
 |global g=>simpa[bH.ev,Act.eval]using hx
 |func f=>simpa[bH.ev,Act.eval]using hx
theorem jC.yield{n:Nat}{a:Act}{fr:Fr}(h:jC n a fr){ops:Array Oper}{j d:Nat}{v:Value}(hj:(ops[j]?).bind (·.dst)=some d)(hl:look fr d=some v):
 yielded ops a.tmps j=match v with| .bool b=>some b|_=>none:=by
 unfold yielded;rw[hj];simp only[Option.bind_some,h.get d v hl]
 cases v<;>rfl
structure bz where
 uu:Option Nat
 more:Nat->Prop
 holds:World->Prop
 lt:∀w,holds w->∀k,(uu=some k\/more k)->k<w.heap.size
 stay:∀w w',holds w->w.heap.size<=w'.heap.size->(∀k,(uu=some k\/more k)->w'.heap[k]?=w.heap[k]?)->holds w'
def bz.dF(o:bz)(k:Nat):Prop:=o.uu=some k\/o.more k
def ap(g:Nat)(cs:Array Value)(T:TypeId):bz:=
  ⟨some g,fun _=>False,fun w=>w.heap[g]?=some (.cells cs T (0,0)),fun w h k hk=>by simp only[Option.some.injEq,or_false]at hk;subst hk;exact(Array.getElem?_eq_some_iff.1 h).1,
    fun w w' h _ hb=>by rw[hb g (.inl rfl)];exact h⟩
def aI(e:TypeId)(size:Nat)(v:Value)(n:Nat)(xs:List Value):bz:=
  ⟨v.ownBlock,fun _=>False,fun w=>w.ownsRow 0 e size v n xs,fun w h k hk=>(h.lt k (hk.elim id False.elim)).2,fun w w' h _ hb=>by
    refine⟨h.1,?_⟩;rcases h.2 with hn|⟨g,cap,kp,rfl,uv,hg,rest⟩
    · exact .inl hn
    · exact .inr ⟨g,cap,kp,rfl,uv,by rw[hb g (.inl rfl)];exact hg,rest⟩⟩
structure dL(p:Nat->Prop)(w:World)(L:List bz):Prop where
 all:∀(i:Nat) (o:bz),L[i]?=some o->o.holds w/\∀k,o.dF k->p k
 apart:∀(i j:Nat) (o o':bz),i≠j->L[i]?=some o->L[j]?=some o'->∀k,o.dF k->¬o'.dF k
abbrev nQ(B:Nat)(w:World)(L:List bz):Prop:=dL (fun k=>B<=k) w L
section
variable{p p':Nat->Prop}
theorem nQ.nil(B:Nat)(w:World):nQ B w []:=⟨fun i o h=>by simp at h,fun i j o o' _ h=>by simp at h⟩
theorem dL.nil(w:World):dL p w []:=⟨fun i o h=>by simp at h,fun i j o o' _ h=>by simp at h⟩
theorem dL.gr{w w':World}{L:List bz}(h:dL p w L)(hg:Gr w w'):dL p w' L:=
 ⟨fun i o hi=>⟨o.stay w w' (h.all i o hi).1 hg.size fun k hk=>hg.block k (o.lt w (h.all i o hi).1 k hk),(h.all i o hi).2⟩,h.apart⟩
theorem dL.mono{w:World}{L:List bz}(h:dL p w L)(hb:∀k,p k->p' k):dL p' w L:=
 ⟨fun i o hi=>⟨(h.all i o hi).1,fun k hk=>hb k ((h.all i o hi).2 k hk)⟩,h.apart⟩
theorem dL.one{w:World}{o:bz}(h:o.holds w)(hb:∀k,o.dF k->p k):dL p w [o]:=
  ⟨fun i o' hi=>by
    match i,hi with
    |0,hi=>simp only[List.getElem?_cons_zero,Option.some.injEq]at hi;subst hi;exact⟨h,hb⟩
    |i+1,hi=>simp at hi,
   fun i j a b k_ hi hj=>by
    match i,j,hi,hj with
    |0,0,_,_=>exact absurd rfl k_
    |i+1,_,hi,_=>simp at hi
    |0,j+1,_,hj=>simp at hj⟩
theorem nQ.one{B:Nat}{w:World}{o:bz}(h:o.holds w)(hb:∀k,o.uu=some k->B<=k)(Q0:∀k,o.more k->B<=k:=by intro k hk;exact False.elim hk):nQ B w [o]:=dL.one h fun k hk=>hk.elim (hb k) (Q0 k)
theorem dL.both{w:World}{L L':List bz}(h:dL p w L)(h':dL p w L')(ha:∀(i j:Nat) (o o':bz),L[i]?=some o->L'[j]?=some o'->∀k,o.dF k->¬o'.dF k):dL p w (L++L'):=by
 refine⟨fun i o hi=>?_,fun i j o o' k_ hi hj=>?_⟩
 ·rw[List.getElem?_append]at hi
  split at hi
  ·exact h.all i o hi
  ·exact h'.all _ o hi
 ·intro k hk jD
  rw[List.getElem?_append]at hi hj;split at hi<;>split at hj
  ·exact h.apart i j o o' k_ hi hj k hk jD
  ·exact ha _ _ o o' hi hj k hk jD
  ·exact ha _ _ o' o hj hi k jD hk
  ·exact h'.apart (i-L.length) (j-L.length) o o' (by omega) hi hj k hk jD
theorem dL.pick{w:World}{L L':List bz}(h:dL p w L)(is:List Nat)(hn:is.Nodup)(hl:L'=is.filterMap fun i=>L[i]?):dL p w L':=by
  subst hl
  induction is with
  |nil=>exact dL.nil _
  | cons i is ih=>
    rw[List.nodup_cons]at hn;have ih:=ih hn.2;have mem:∀j o,(is.filterMap fun i=>L[i]?)[j]?=some o->∃q∈is,L[q]?=some o:=fun j o hj=>by
      have:=List.mem_of_getElem? hj;rw[List.mem_filterMap]at this;exact this
    cases e:L[i]? with
    |none=>rw[List.filterMap_cons_none e];exact ih
    | some o0=>
      rw[List.filterMap_cons_some e];refine⟨fun j o hj=>?_,fun j j' o o' k_ hj k9=>?_⟩
      · match j,hj with
        |0,hj=>simp only[List.getElem?_cons_zero,Option.some.injEq]at hj;subst hj;exact h.all i _ e
        |j+1,hj=>exact ih.all j o (by simpa using hj)
      · match j,j',hj,k9 with
        |0,0,_,_=>exact absurd rfl k_
        | 0,j'+1,hj,k9=>
          simp only[List.getElem?_cons_zero,Option.some.injEq]at hj;subst hj;obtain⟨q,hq,B4⟩:=mem j' o' (by simpa using k9);exact h.apart i q _ o' (fun e=>hn.1 (e▸hq)) e B4
        | j+1,0,hj,k9=>
          simp only[List.getElem?_cons_zero,Option.some.injEq]at k9;subst k9;obtain⟨q,hq,B4⟩:=mem j o (by simpa using hj);exact h.apart q i o _ (fun e=>hn.1 (e▸hq)) B4 e
        |j+1,j'+1,hj,k9=>exact ih.apart j j' o o' (by omega) (by simpa using hj) (by simpa using k9)
end
structure bB where
 w:World
 X:Nat->Prop
instance:Coe World bB:=⟨fun w=>⟨w,fun _=>False⟩⟩
def bB.on(w:World)(L:List bz):bB:=⟨w,fun k=>∃o∈L,o.dF k⟩
def bB.may(W:bB)(k:Nat):Prop:=W.w.heap.size<=k\/W.X k
structure Ap(W:bB)(w:World):Prop where
 os:w.os=W.w.os
 tape:w.tape=W.w.tape
 output:w.output=W.w.output
 size:W.w.heap.size<=w.heap.size
 block:∀k,k<W.w.heap.size->¬W.X k->w.heap[k]?=W.w.heap[k]?
structure Mem(W:bB)(L:List bz)(w:World):Prop where
 low:Ap W w
 owns:dL W.may w L
theorem Mem.start(W:World):Mem W [] W:=⟨⟨rfl,rfl,rfl,Nat.le_refl _,fun _ _ _=>rfl⟩,dL.nil _⟩
theorem Ap.gr{W:bB}{w w':World}(h:Ap W w)(hg:Gr w w'):Ap W w':=
 ⟨hg.os.trans h.os,hg.tape.trans h.tape,hg.output.trans h.output,Nat.le_trans h.size hg.size,fun k hk hx=>(hg.block k (Nat.lt_of_lt_of_le hk h.size)).trans (h.block k hk hx)⟩
theorem Mem.below{W w:World}{L:List bz}(h:Mem W L w):Below W.heap.size W w:=⟨h.low.os,h.low.tape,h.low.output,h.low.size,fun k hk=>h.low.block k hk id⟩
theorem Mem.Q1{W w:World}{L:List bz}(h:Mem W L w):nQ W.heap.size w L:=h.owns.mono fun _ hk=>hk.elim id False.elim
section
variable{W:bB}
theorem Mem.gr{w w':World}{L:List bz}(h:Mem W L w)(hg:Gr w w'):Mem W L w':=⟨h.low.gr hg,h.owns.gr hg⟩
theorem Mem.drew{w:World}{L:List bz}(h:Mem W L w):Mem W L w.drew:=h.gr (Gr.drew w)
theorem dV(W:bB)(L:List bz):fv (Mem W L):=fun _ _ h k=>h.gr k
theorem Mem.pick{w:World}{L L':List bz}(h:Mem W L w)(is:List Nat)(hn:is.Nodup)(hl:L'=is.filterMap fun i=>L[i]?):Mem W L' w:=⟨h.low,h.owns.pick is hn hl⟩
theorem Mem.append{w w':World}{L L':List bz}(h:Mem W L w)(hg:Gr w w')(h':nQ w.heap.size w' L'):Mem W (L++L') w':=by
 have hsz:W.w.heap.size<=w.heap.size:=h.low.size;refine⟨h.low.gr hg,dL.both (h.owns.gr hg) (h'.mono fun k hk=> .inl (Nat.le_trans hsz hk)) fun i j o o' hi hj k hk jD=>?_⟩;have a1:=o.lt w (h.owns.all i o hi).1 k hk;have a2:w.heap.size<=k:=(h'.all _ o' hj).2 k jD;omega
theorem Mem.ua{w w':World}{L:List bz}(h:Mem W L w){i:Nat}{o o':bz}(hi:L[i]?=some o)(hg:w.grownBy w' o.uu)(ho:o'.holds w')(hb:∀k,o'.uu=some k->o.uu=some k\/w.heap.size<=k)(Q0:∀k,o'.more k->o.dF k:=by intro k hk;exact False.elim hk):Mem W (L.set i o') w':=by
  have hle:W.w.heap.size<=w.heap.size:=h.low.size;have hoB:=(h.owns.all i o hi).2;have hlen:i<L.length:=(List.getElem?_eq_some_iff.1 hi).1;have Aq:∀k,o'.dF k->o.dF k\/w.heap.size<=k:=fun k hk=>hk.elim (fun h=>(hb k h).imp .inl id) (fun h=> .inl (Q0 k h));refine⟨⟨hg.os.trans h.low.os,hg.tape.trans h.low.tape,hg.output.trans h.low.output,Nat.le_trans hle hg.size,fun k hk hx=>?_⟩,?_,?_⟩
  · rw[hg.block k (Nat.lt_of_lt_of_le hk hle) fun e=>(hoB k (.inl e.symm)).elim (fun h=>by omega) hx]
    exact h.low.block k hk hx
  · intro j q hj
    by_cases e:i=j
    · subst e
      rw[List.getElem?_set_self hlen]at hj;simp only[Option.some.injEq]at hj;subst hj;exact⟨ho,fun k hk=>(Aq k hk).elim (hoB k) (fun h=> .inl (Nat.le_trans hle h))⟩
    · rw[List.getElem?_set_ne e]at hj
      have h1:=h.owns.all j q hj;refine⟨q.stay w w' h1.1 hg.size fun k hk=>hg.block k (q.lt w h1.1 k hk) fun e'=>?_,h1.2⟩;exact h.owns.apart i j o q e hi hj k (.inl e'.symm) hk
  · intro j j' q q' k_ hj k9 k hk jD
    by_cases e:i=j
    · subst e
      rw[List.getElem?_set_self hlen]at hj;rw[List.getElem?_set_ne k_]at k9;simp only[Option.some.injEq]at hj;subst hj;have h2:=(h.owns.all j' q' k9).1;rcases Aq k hk with h1|h1
      · exact h.owns.apart i j' o q' k_ hi k9 k h1 jD
      · have:=q'.lt w h2 k jD;omega
    · rw[List.getElem?_set_ne e]at hj
      have h2:=(h.owns.all j q hj).1
      by_cases e':i=j'
      · subst e'
        rw[List.getElem?_set_self hlen]at k9;simp only[Option.some.injEq]at k9;subst k9;rcases Aq k jD with h1|h1
        · exact h.owns.apart i j o q e hi hj k h1 hk
        · have:=q.lt w h2 k hk;omega
      · rw[List.getElem?_set_ne e']at k9
        exact h.owns.apart j j' q q' k_ hj k9 k hk jD
theorem Mem.merge{w:World}{R:List bz}{o1 o2:bz}(o:bz)(h:Mem W ([o1,o2]++R) w)(hf:∀k,o.dF k->o1.dF k\/o2.dF k)(hh:o1.holds w->o2.holds w->o.holds w):Mem W (R++[o]) w:=by
 have h1:=h.owns.all 0 o1 rfl;have h2:=h.owns.all 1 o2 rfl;refine⟨h.low,dL.both ⟨fun i q hi=>h.owns.all (i+2) q (by simpa using hi),fun i j q q' k_ hi hj=>h.owns.apart (i+2) (j+2) q q' (by omega) (by simpa using hi) (by simpa using hj)⟩ (dL.one (hh h1.1 h2.1) fun k hk=>(hf k hk).elim (h1.2 k) (h2.2 k)) ?_⟩
 ·intro i j q q' hi hj k hk jD
  match j,hj with
  |0,hj=>
   simp only[List.getElem?_cons_zero,Option.some.injEq]at hj;subst hj;have kz:([o1,o2]++R)[i+2]?=some q:=by simpa using hi
   rcases hf k jD with h3|h3
   ·exact h.owns.apart 0 (i+2) o1 q (by omega) rfl kz k h3 hk
   ·exact h.owns.apart 1 (i+2) o2 q (by omega) rfl kz k h3 hk
  |j+1,hj=>simp at hj
theorem Mem.get{w:World}{L:List bz}(h:Mem W L w){i:Nat}{o:bz}(hi:L[i]?=some o):o.holds w:=(h.owns.all i o hi).1
theorem Mem.over{w:World}{L:List bz}(h:Mem W L w):Mem (bB.on w L) L w:=
 ⟨⟨rfl,rfl,rfl,Nat.le_refl _,fun _ _ _=>rfl⟩,fun i o hi=>⟨(h.owns.all i o hi).1,fun _ hk=> .inr ⟨o,List.mem_of_getElem? hi,hk⟩⟩,h.owns.apart⟩
theorem Mem.back{w w':World}{L R O:List bz}(h:Mem W (L++R) w)(h':Mem (bB.on w L) O w'):Mem W (R++O) w':=by
 have hle:W.w.heap.size<=w.heap.size:=h.low.size;have hL:∀o∈L,∀k,o.dF k->W.may k:=fun o ho k hk=>by
  obtain⟨i,hi⟩:=List.getElem?_of_mem ho;exact(h.owns.all i o (by rw[List.getElem?_append_left (List.getElem?_eq_some_iff.1 hi).1];exact hi)).2 k hk
 have hR:∀(i:Nat) (o:bz),R[i]?=some o->o.holds w/\(∀k,o.dF k->W.may k)/\∀k,o.dF k->k<w.heap.size/\¬(bB.on w L).X k:=fun i o hi=>by
  have kz:(L++R)[L.length+i]?=some o:=by rw[List.getElem?_append_right (by omega)];simpa using hi
  have h1:=h.owns.all _ o kz;refine⟨h1.1,h1.2,fun k hk=>⟨o.lt w h1.1 k hk,?_⟩⟩;rintro⟨q,hq,hqk⟩;obtain⟨j,hj⟩:=List.getElem?_of_mem hq;have GV:=(List.getElem?_eq_some_iff.1 hj).1;exact h.owns.apart j (L.length+i) q o (by omega) (by rw[List.getElem?_append_left GV];exact hj) kz k hqk hk
 refine⟨⟨h'.low.os.trans h.low.os,h'.low.tape.trans h.low.tape,h'.low.output.trans h.low.output,Nat.le_trans hle h'.low.size,fun k hk hx=>?_⟩,dL.both ⟨fun i o hi=>?_,?_⟩ ?_ ?_⟩
 ·rw[h'.low.block k (Nat.lt_of_lt_of_le hk hle) ?_]
  ·exact h.low.block k hk hx
  ·rintro⟨o,ho,jU⟩
   exact(hL o ho k jU).elim (fun h=>by omega) hx
 ·obtain⟨h1,h2,h3⟩:=hR i o hi
  exact⟨o.stay w w' h1 h'.low.size fun k hk=>h'.low.block k (h3 k hk).1 (h3 k hk).2,h2⟩
 ·intro i j o o' k_ hi hj
  exact h.owns.apart (L.length+i) (L.length+j) o o' (by omega) (by rw[List.getElem?_append_right (by omega)];simpa using hi) (by rw[List.getElem?_append_right (by omega)];simpa using hj)
 ·exact h'.owns.mono fun k hk=>hk.elim (fun h1=> .inl (Nat.le_trans hle h1)) fun⟨o,ho,jU⟩=>hL o ho k jU
 ·intro i j o o' hi hj k hk jD
  obtain⟨h1,h2,h3⟩:=hR i o hi;rcases(h'.owns.all j o' hj).2 k jD with h4|h4
  ·have h4:w.heap.size<=k:=h4
   have:=(h3 k hk).1;omega
  ·exact(h3 k hk).2 h4
end
theorem Mem.cell{W w:World}{L:List bz}(h:Mem W L w){p:Addr}{v:Value}(hp:W.cell? p=some v):w.cell? p=some v:=by
 rw[h.below.cell (World.block_lt_of_cell? W p hp)];exact hp
structure lc(W0:World)(W:bB):Prop where
 below:Below W0.heap.size W0 W.w
 free:∀k,k<W0.heap.size->¬W.X k
theorem lc.self(W:World):lc W W:=⟨Below.refl _ _,fun _ _=>id⟩
theorem lc.mem{W0:World}{W:bB}(ho:lc W0 W){L:List bz}{w:World}(h:Mem W L w):Below W0.heap.size W0 w:=
 ⟨h.low.os.trans ho.below.os,h.low.tape.trans ho.below.tape,h.low.output.trans ho.below.output,Nat.le_trans ho.below.size h.low.size,fun k hk=>(h.low.block k (Nat.lt_of_lt_of_le hk ho.below.size) (ho.free k hk)).trans (ho.below.block k hk)⟩
theorem lc.cell{W0:World}{W:bB}(ho:lc W0 W){L:List bz}{w:World}(h:Mem W L w){p:Addr}{v:Value}(hp:W0.cell? p=some v):w.cell? p=some v:=by
 rw[(ho.mem h).cell (World.block_lt_of_cell? W0 p hp)];exact hp
theorem lc.on{W0:World}{W:bB}(ho:lc W0 W){L L':List bz}{w:World}(h:Mem W L w)(hs:∀o∈L',o∈L):lc W0 (bB.on w L'):=
 ⟨ho.mem h,fun k hk ⟨o,hm,hb⟩=>by
  obtain⟨i,hi⟩:=List.getElem?_of_mem (hs o hm);rcases(h.owns.all i o hi).2 k hb with h1|h1
  ·have:=ho.below.size
   have h1:W.w.heap.size<=k:=h1;omega
  ·exact ho.free k hk h1⟩
end bH
namespace bH
open Go.RowKit bL db
structure T(P:Program)(n:Nat)(W:bB)(c:Code)(Q:Exit->Act->World->Prop)(fr:Fr)(L:List bz):Prop where
 go:∀a w,jC n a fr->Mem W L w->c.wp P Q a w
structure E(n:Nat)(W:bB)(e:Exit)(Q:Exit->Act->World->Prop)(fr:Fr)(L:List bz):Prop where
 go:∀a w,jC n a fr->Mem W L w->Q e a w
structure TL(P:Program)(n:Nat)(W:bB)(ops:Array Oper)(Q:Exit->Act->World->Prop)(l:List Oper)(fr:Fr)(L:List bz):Prop where
 go:∀a w,jC n a fr->Mem W L w->wpList P ops Q l a w
structure RR(P:Program)(n:Nat)(W:bB)(o:Oper)(fr:Fr)(L:List bz)(v:Value):Prop where
 go:∀a w,jC n a fr->Mem W L w->(execOp a.eval o).run P w= .ok (.value v) w
structure Spec(ι:Type) where
 ok:ι->Prop
 val:ι->Value
 own:ι->List bz
def bU{ι:Type}(S:Spec ι)(w:World)(e:Ending)(w':World):Prop:=∃x,S.ok x/\e= .returned (S.val x)/\Gr w w'/\nQ w.heap.size w' (S.own x)
def ret(v:Value):Spec Unit:=⟨fun _=>True,fun _=>v,fun _=>[]⟩
theorem Is{v:Value}{w w':World}{e:Ending}(h:e= .returned v)(hg:Gr w w'):bU (ret v) w e w':=⟨(),trivial,h,hg,nQ.nil _ _⟩
theorem uY{v:Value}{w w':World}{e:Ending}(h:bU (ret v) w e w'):e= .returned v/\Gr w w':=let ⟨_,_,h1,h2,_⟩:=h;⟨h1,h2⟩
section
variable{P:Program}{n:Nat}{W:bB}{Q:Exit->Act->World->Prop}{fr:Fr}{L:List bz}
theorem bJ{x y:Code}(h:T P n W x (Exit.then (y.wp P Q) Q) fr L):T P n W (x.seq y) Q fr L:= .mk fun a w hr hm=>wp_seq (h.go a w hr hm)
theorem R_(h:E n W .normal Q fr L):T P n W .skip Q fr L:= .mk fun a w hr hm=>wp_skip (h.go a w hr hm)
theorem Sa{id:Nat}(h:E n W (.exit id) Q fr L):T P n W (.exit id) Q fr L:= .mk fun a w hr hm=>wp_exit (h.go a w hr hm)
theorem UZ(h:E n W .ret Q fr L):T P n W .ret Q fr L:= .mk fun a w hr hm=>wp_ret (h.go a w hr hm)
theorem On{id:Nat}{c:Code}(h:T P n W c (Exit.inBlock id Q) fr L):T P n W (.block id c) Q fr L:= .mk fun a w hr hm=>wp_block (h.go a w hr hm)
theorem GZ{c:Operand}{x y:Code}(hc:ev fr c=some (.bool true))(h:T P n W x Q fr L):T P n W (.cond c x y) Q fr L:= .mk fun a w hr hm=>wp_cond_true (hr.ev hc) (h.go a w hr hm)
theorem G0{c:Operand}{x y:Code}(hc:ev fr c=some (.bool false))(h:T P n W y Q fr L):T P n W (.cond c x y) Q fr L:= .mk fun a w hr hm=>wp_cond_false (hr.ev hc) (h.go a w hr hm)
theorem Sb{c:Code}{L':List bz}(is:List Nat)(hn:is.Nodup)(hl:L'=is.filterMap fun i=>L[i]?)(h:T P n W c Q fr L'):T P n W c Q fr L:= .mk fun a w hr hm=>h.go a w hr (hm.pick is hn hl)
theorem Sc{e:Exit}{L':List bz}(is:List Nat)(hn:is.Nodup)(hl:L'=is.filterMap fun i=>L[i]?)(h:E n W e Q fr L'):E n W e Q fr L:= .mk fun a w hr hm=>h.go a w hr (hm.pick is hn hl)
theorem KG{y:Code}(h:T P n W y Q fr L):E n W .normal (Exit.then (y.wp P Q) Q) fr L:=⟨h.go⟩
theorem Oo{id:Nat}{K:Act->World->Prop}(h:E n W (.exit id) Q fr L):E n W (.exit id) (Exit.then K Q) fr L:=⟨h.go⟩
theorem Oq{K:Act->World->Prop}(h:E n W .ret Q fr L):E n W .ret (Exit.then K Q) fr L:=⟨h.go⟩
theorem KH{id:Nat}(h:E n W .normal Q fr L):E n W .normal (Exit.inBlock id Q) fr L:=⟨h.go⟩
theorem KI{id:Nat}(h:E n W .ret Q fr L):E n W .ret (Exit.inBlock id Q) fr L:=⟨h.go⟩
theorem B5{id:Nat}(h:E n W .normal Q fr L):E n W (.exit id) (Exit.inBlock id Q) fr L:= .mk fun a w hr hm=>by
 show(if id=id then Q .normal a w else Q (.exit id) a w)
 rw[if_pos rfl];exact h.go a w hr hm
theorem B6{id U0:Nat}(hne:Nat.beq U0 id=false)(h:E n W (.exit U0) Q fr L):E n W (.exit U0) (Exit.inBlock id Q) fr L:= .mk fun a w hr hm=>by
 show(if U0=id then Q .normal a w else Q (.exit U0) a w)
 rw[if_neg (Nat.ne_of_beq_eq_false hne)];exact h.go a w hr hm
def Xf{ι:Type}(n:Nat)(W:bB)(I:ι->Prop)(F:ι->Fr)(M:ι->List bz)(μ:ι->Nat)(x:ι)(a:Act)(w:World):Prop:=∃x',I x'/\μ x'<μ x/\jC n a (F x')/\Mem W (M x') w
def Mid{ι:Type}(n:Nat)(W:bB)(I:ι->Prop)(F:ι->Fr)(M:ι->List bz)(a:Act)(w:World):Prop:=∃i,I i/\jC n a (F i)/\Mem W (M i) w
theorem c_{ι:Type}{I:ι->Prop}{F:ι->Fr}{M:ι->List bz}(i:ι)(hi:I i)(hf:B3 (F i) fr)(hl:L=M i):E n W .normal (Exit.then (Mid n W I F M) Q) fr L:=
 ⟨fun _ _ hr hm=>⟨i,hi,hr.sub hf,hl▸hm⟩⟩
theorem iu{c:Code}{ι:Type}(I:ι->Prop)(F:ι->Fr)(M:ι->List bz)(μ:ι->Nat)(x0:ι)(h0:I x0)(hf:B3 (F x0) fr)(hl:L=M x0)
 (round:∀x,I x->T P n W c (Exit.then (Xf n W I F M μ x) Q) (F x) (M x)):T P n W (.loop c) Q fr L:=by
 refine⟨fun a w hr hm=>?_⟩;refine wp_loop_ghost (fun k a w=>∃x,μ x=k/\I x/\jC n a (F x)/\Mem W (M x) w) (μ x0) ⟨x0,rfl,h0,hr.sub hf,hl▸hm⟩ ?_;rintro k a w ⟨x,rfl,hi,hr,hm⟩;refine wp_mono ((round x hi).go a w hr hm) fun e a w h=>?_
 cases e with
 |normal=>obtain⟨x',h1,h2,h3,h4⟩:=h;exact⟨μ x',h2,x',rfl,h1,h3,h4⟩
 |_=>exact h
theorem eZ{ι:Type}{I:ι->Prop}{F:ι->Fr}{M:ι->List bz}{μ:ι->Nat}{x:ι}(x':ι)(hi:I x')(X7:μ x'<μ x)(hf:B3 (F x') fr)(hl:L=M x'):
 E n W .normal (Exit.then (Xf n W I F M μ x) Q) fr L:=
 ⟨fun _ _ hr hm=>⟨x',hi,X7,hr.sub hf,hl▸hm⟩⟩
theorem yD{fn:Func}{R:Ending->World->Prop}(h:∀a w,jC n a fr->Mem W L w->∃v,(results fn a.tmps).run P w= .ok v w/\R (.returned v) w):E n W .ret (bodyPost P fn R) fr L:=
 ⟨fun a w hr hm=>⟨hr.defers,h a w hr hm⟩⟩
theorem b_{fn:Func}{R:Ending->World->Prop}{t:Tmp}{v:Value}(ke:fn.results=#[.tmp t])(hv:look fr t=some v)(h:∀w,Mem W L w->R (.returned v) w):E n W .ret (bodyPost P fn R) fr L:=
 yD fun a w hr hm=>⟨v,by simp[results,ke,Array.getD_eq_getD_getElem?,hr.get t v hv],h w hm⟩
theorem sv{fn:Func}{R:Ending->World->Prop}{t u:Tmp}{v z:Value}(ke:fn.results=#[.tmp t,.tmp u])(hv:look fr t=some v)(hz:look fr u=some z)(h:∀w,Mem W L w->R (.returned (.tuple #[v,z])) w):E n W .ret (bodyPost P fn R) fr L:=
 yD fun a w hr hm=>⟨_,by simp[results,ke,Array.getD_eq_getD_getElem?,hr.get t v hv,hr.get u z hz],h w hm⟩
theorem Sd{fn:Func}{R:Ending->World->Prop}{t u s:Tmp}{v z y:Value}(ke:fn.results=#[.tmp t,.tmp u,.tmp s])(hv:look fr t=some v)(hz:look fr u=some z)(hy:look fr s=some y)(h:∀w,Mem W L w->R (.returned (.tuple #[v,z,y])) w):E n W .ret (bodyPost P fn R) fr L:=
 yD fun a w hr hm=>⟨_,by simp[results,ke,Array.getD_eq_getD_getElem?,hr.get t v hv,hr.get u z hz,hr.get s y hy],h w hm⟩
theorem Mem.meets{ι:Type}{S:Spec ι}{W w:World}(x:ι)(hm:Mem W L w)(hx:S.ok x)(is:List Nat)(hn:is.Nodup)(hl:S.own x=is.filterMap fun i=>L[i]?):bU S W (.returned (S.val x)) w:=
 ⟨x,hx,rfl,hm.below,hm.Q1.pick is hn hl⟩
theorem Mem.ret{v:Value}{W w:World}(hm:Mem W L w):bU (ret v) W (.returned v) w:=⟨(),trivial,rfl,hm.below,nQ.nil _ _⟩
theorem dh{fn:Func}{W:World}{t:Tmp}{v v0:Value}(ke:fn.results=#[.tmp t])(hv:look fr t=some v)(h:v=v0):E n W .ret (bodyPost P fn (bU (ret v0) W)) fr L:=by
 subst h;exact b_ ke hv fun w hm=>hm.ret
def qV:Nat->List Value->Fr
 |_,[]=>[]
 |k,v::r=>(k,v)::qV (k+1) r
theorem mH:∀(vs:List Value) (k i:Nat) (v:Value),look (qV k vs) i=some v->k<=i/\vs[i-k]?=some v
  |[],_,_,_,h=>by cases h
  | u ::r,k,i,v,h=>by
    unfold qV look at h
    cases e:Nat.beq k i
    · rw[e]at h
      have hne:=Nat.ne_of_beq_eq_false e;obtain⟨h1,h2⟩:=mH r (k+1) i v h;refine⟨by omega,?_⟩;rw[show i-k=(i-(k+1))+1 by omega,List.getElem?_cons_succ];exact h2
    · rw[e]at h
      obtain rfl:k=i:=Nat.eq_of_beq_eq_true e;simp only[cond_true,Option.some.injEq]at h;subst h;simp
theorem enter{w:World}{f:FuncId}{fn:Func}{c:Code}{args:List Value}{R:Ending->World->Prop}(hf:P.funcs[f]?=some fn)(hb:fn.body=some c)(hn:fn.ntmps=n)(hle:Nat.ble args.length n=true)
 (h:T P n w c (bodyPost P fn R) (qV 0 args) []):Calls P f args.toArray w R:=by
 have Se:args.length<=n:=Nat.le_of_ble_eq_true hle;refine calls_of_wp hf hb (h.go _ w ⟨?_,rfl,fun i v hi=>?_⟩ (Mem.start w))
 ·simp[hn];omega
 ·obtain⟨_,h2⟩:=mH args 0 i v hi
  have hlt:=(List.getElem?_eq_some_iff.1 h2).1;rw[Array.getElem?_append_left (by simpa using hlt)]
  simpa using h2
theorem eg{B:bB}{w:World}{f:FuncId}{fn:Func}{c:Code}{args:List Value}{R:Ending->World->Prop}(hm:Mem B L w)(hf:P.funcs[f]?=some fn)(hb:fn.body=some c)(hn:fn.ntmps=n)(hle:Nat.ble args.length n=true)
 (h:T P n B c (bodyPost P fn R) (qV 0 args) L):Calls P f args.toArray w R:=by
 have Se:args.length<=n:=Nat.le_of_ble_eq_true hle;refine calls_of_wp hf hb (h.go _ w ⟨?_,rfl,fun i v hi=>?_⟩ hm)
 ·simp[hn];omega
 ·obtain⟨_,h2⟩:=mH args 0 i v hi
  have hlt:=(List.getElem?_eq_some_iff.1 h2).1;rw[Array.getElem?_append_left (by simpa using hlt)]
  simpa using h2
section
variable{ops:Array Oper}{K:Act->World->Prop}{ks:List Bool}{o:Oper}{rest:List Oper}{v:Value}{d:Nat}
theorem aV{id:Nat}{l:List Oper}(h:TL P n W l.toArray Q l fr L):T P n W (.region id l.toArray false) Q fr L:= .mk fun a w hr hm=>wp_region_lit (h.go a w hr hm)
theorem Ar(h:E n W .normal Q fr L):TL P n W ops Q [] fr L:= .mk fun a w hr hm=>wpList_nil (h.go a w hr hm)
theorem lx{a:Act}(hg:o.guard=none):Region.wanted o (yielded ops a.tmps)=true:=by simp[Region.wanted,hg]
theorem kA{a:Act}{j e:Nat}{b:Bool}(hr:jC n a fr)(hg:o.guard=some (j,b))(hj:(ops[j]?).bind (·.dst)=some e)(hl:look fr e=some (.bool b)):Region.wanted o (yielded ops a.tmps)=true:=by
 simp[Region.wanted,hg,hr.yield hj hl]
def Ot(b:Bool):Value->Bool
 | .bool c=>c !=b
 |_=>true
theorem yE{a:Act}{j e:Nat}{b:Bool}{u:Value}(hr:jC n a fr)(hg:o.guard=some (j,b))(hj:(ops[j]?).bind (·.dst)=some e)(hl:look fr e=some u)(hu:Ot b u=true):Region.wanted o (yielded ops a.tmps)=false:=by
 simp only[Region.wanted,hg,hr.yield hj hl]
 cases u<;>first|rfl|(rename_i c;cases c<;>cases b<;>first|rfl|cases hu)
theorem cI(hr:RR P n W o fr L v)(hg:o.guard=none)(hd:o.dst=some d)(hn:Nat.blt d n=true)(h:TL P n W ops Q rest ((d,v)::fr) L):TL P n W ops Q (o::rest) fr L:= .mk fun a w eh hm=>
 wpList_plain hg fun K hK=>by
  unfold Oper.wp;rw[hr.go a w eh hm];rw[Oper.upon_value,hd];exact hK _ _ (h.go _ w (eh.put hn v) hm)
theorem G1{j e:Nat}{b:Bool}(hr:RR P n W o fr L v)(hg:o.guard=some (j,b))(hj:(ops[j]?).bind (·.dst)=some e)(hl:look fr e=some (.bool b))(hd:o.dst=some d)(hn:Nat.blt d n=true)(h:TL P n W ops Q rest ((d,v)::fr) L):TL P n W ops Q (o::rest) fr L:= .mk fun a w eh hm=>
 BigFrame.wpList_want (kA eh hg hj hl) fun K hK=>by
  unfold Oper.wp;rw[hr.go a w eh hm];rw[Oper.upon_value,hd];exact hK _ _ (h.go _ w (eh.put hn v) hm)
theorem Ou{j e:Nat}{b:Bool}{u:Value}(hg:o.guard=some (j,b))(hj:(ops[j]?).bind (·.dst)=some e)(hl:look fr e=some u)(hu:Ot b u=true)(hd:o.dst=some d)(hn:Nat.blt d n=true)(h:TL P n W ops Q rest ((d,undef)::fr) L):TL P n W ops Q (o::rest) fr L:= .mk fun a w eh hm=>
 wpList_skip (yE eh hg hj hl hu) (by rw[hd];exact h.go _ w (eh.put hn undef) hm)
theorem B7{p:Prop}{inst:Decidable p}(hr:RR P n W o fr L (.bool (decide p)))(hg:o.guard=none)(hd:o.dst=some d)(hn:Nat.blt d n=true)(ht:p->TL P n W ops Q rest ((d,.bool true)::fr) L)(hf:¬p->TL P n W ops Q rest ((d,.bool false)::fr) L):TL P n W ops Q (o::rest) fr L:=by
 by_cases h:p
 ·exact cI (by rwa [decide_eq_true h]at hr) hg hd hn (ht h)
 ·exact cI (by rwa [decide_eq_false h]at hr) hg hd hn (hf h)
theorem EA{p:Prop}{inst:Decidable p}{j e:Nat}{b:Bool}(hr:RR P n W o fr L (.bool (decide p)))(hg:o.guard=some (j,b))(hj:(ops[j]?).bind (·.dst)=some e)(hl:look fr e=some (.bool b))(hd:o.dst=some d)(hn:Nat.blt d n=true)(ht:p->TL P n W ops Q rest ((d,.bool true)::fr) L)(hf:¬p->TL P n W ops Q rest ((d,.bool false)::fr) L):TL P n W ops Q (o::rest) fr L:=by
 by_cases h:p
 ·exact G1 (by rwa [decide_eq_true h]at hr) hg hj hl hd hn (ht h)
 ·exact G1 (by rwa [decide_eq_false h]at hr) hg hj hl hd hn (hf h)
theorem jC.Ov{a:Act}{e:Nat}{v:Value}(h:jC n a fr)(hl:look fr e=some v):jC n a ((e,v)::fr):=⟨h.size,h.defers,fun i u hi=>by
 unfold look at hi
 cases c:Nat.beq e i
 ·rw[c]at hi;exact h.get i u hi
 ·rw[c]at hi
  obtain rfl:e=i:=Nat.eq_of_beq_eq_true c;simp only[cond_true,Option.some.injEq]at hi;subst hi;exact h.get e v hl⟩
theorem It{j e:Nat}{b0 b:Bool}(_:o.guard=some (j,b0))(_:(ops[j]?).bind (·.dst)=some e)(hl:look fr e=some (.bool b))(ht:b=true->TL P n W ops Q (o::rest) ((e,.bool true)::fr) L)(hf:b=false->TL P n W ops Q (o::rest) ((e,.bool false)::fr) L):TL P n W ops Q (o::rest) fr L:= .mk fun a w hr hm=>by
 cases b
 ·exact(hf rfl).go a w (hr.Ov hl) hm
 ·exact(ht rfl).go a w (hr.Ov hl) hm
theorem Sf{j e:Nat}{b0:Bool}(_:o.guard=some (j,b0))(_:(ops[j]?).bind (·.dst)=some e)(_:look fr e=some (.bool true))(h:TL P n W ops Q (o::rest) fr L):TL P n W ops Q (o::rest) fr L:=h
theorem Sg{j e:Nat}{b0:Bool}(_:o.guard=some (j,b0))(_:(ops[j]?).bind (·.dst)=some e)(_:look fr e=some (.bool false))(h:TL P n W ops Q (o::rest) fr L):TL P n W ops Q (o::rest) fr L:=h
theorem Ow{c:Tmp}{x y:Code}{b:Bool}(hl:look fr c=some (.bool b))(ht:b=true->T P n W x Q ((c,.bool true)::fr) L)(hf:b=false->T P n W y Q ((c,.bool false)::fr) L):T P n W (.cond (.tmp c) x y) Q fr L:= .mk fun a w hr hm=>by
 cases b
 ·exact wp_cond_false (hr.ev (x:= .tmp c) hl) ((hf rfl).go a w (hr.Ov hl) hm)
 ·exact wp_cond_true (hr.ev (x:= .tmp c) hl) ((ht rfl).go a w (hr.Ov hl) hm)
theorem aM{f:FuncId}{args:Array Value}{ι:Type}{S:Spec ι}(he:∀a w,jC n a fr->(execOp a.eval o).run P w= .ok (.enter f args) w)(hc:∀w,Mem W L w->Calls P f args w (bU S w))(hg:o.guard=none)(hd:o.dst=some d)(hn:Nat.blt d n=true)
 (h:∀x,S.ok x->TL P n W ops Q rest ((d,S.val x)::fr) (L++S.own x)):TL P n W ops Q (o::rest) fr L:= .mk fun a w eh hm=>
 wpList_plain hg fun K hK=>by
  unfold Oper.wp;rw[he a w eh,Oper.upon_enter];refine(hc w hm).mono fun e w' ⟨x,h1,h2,h3,h4⟩=>?_;subst h2;simp only[hd];exact hK _ _ ((h x h1).go _ w' (eh.put hn _) (hm.append h3 h4))
theorem me{f:FuncId}{args:Array Value}{ι:Type}{S:Spec ι}{j e:Nat}{b:Bool}(he:∀a w,jC n a fr->(execOp a.eval o).run P w= .ok (.enter f args) w)(hc:∀w,Mem W L w->Calls P f args w (bU S w))(hg:o.guard=some (j,b))(hj:(ops[j]?).bind (·.dst)=some e)(hl:look fr e=some (.bool b))(hd:o.dst=some d)(hn:Nat.blt d n=true)
 (h:∀x,S.ok x->TL P n W ops Q rest ((d,S.val x)::fr) (L++S.own x)):TL P n W ops Q (o::rest) fr L:= .mk fun a w eh hm=>
 BigFrame.wpList_want (kA eh hg hj hl) fun K hK=>by
  unfold Oper.wp;rw[he a w eh,Oper.upon_enter];refine(hc w hm).mono fun e w' ⟨x,h1,h2,h3,h4⟩=>?_;subst h2;simp only[hd];exact hK _ _ ((h x h1).go _ w' (eh.put hn _) (hm.append h3 h4))
def dc{ι:Type}(S:Spec ι)(B:bB)(e:Ending)(w':World):Prop:=∃x,S.ok x/\e= .returned (S.val x)/\Mem B (S.own x) w'
theorem Mem.bV{ι:Type}{S:Spec ι}{w:World}(x:ι)(hm:Mem W L w)(hx:S.ok x)(is:List Nat)(hn:is.Nodup)(hl:S.own x=is.filterMap fun i=>L[i]?):dc S W (.returned (S.val x)) w:=
 ⟨x,hx,rfl,hm.pick is hn hl⟩
theorem EB{is js:List Nat}{Lx R:List bz}(Xg:Lx=is.filterMap fun i=>L[i]?)(G2:R=js.filterMap fun i=>L[i]?):Lx++R=(is++js).filterMap fun i=>L[i]?:=by
 rw[List.filterMap_append,<-Xg,<-G2]
theorem aP{f:FuncId}{args:Array Value}{ι:Type}{S:Spec ι}(is js:List Nat){Lx R:List bz}(Xh:(is++js).Nodup)(Xg:Lx=is.filterMap fun i=>L[i]?)(G2:R=js.filterMap fun i=>L[i]?)
 (he:∀a w,jC n a fr->(execOp a.eval o).run P w= .ok (.enter f args) w) (hc:∀w,Mem W L w->Mem (bB.on w Lx) Lx w->Calls P f args w (dc S (bB.on w Lx))) (hg:o.guard=none) (hd:o.dst=some d) (hn:Nat.blt d n=true)
 (h:∀x,S.ok x->TL P n W ops Q rest ((d,S.val x)::fr) (R++S.own x)):TL P n W ops Q (o::rest) fr L:= .mk fun a w eh hm=>
 wpList_plain hg fun K hK=>by
  have Ox:Mem W (Lx++R) w:=hm.pick (is++js) Xh (EB Xg G2);have hm3:Mem W Lx w:=hm.pick is (List.nodup_append.1 Xh).1 Xg;unfold Oper.wp;rw[he a w eh,Oper.upon_enter];refine(hc w hm hm3.over).mono fun e w' ⟨x,h1,h2,h3⟩=>?_;subst h2;simp only[hd];exact hK _ _ ((h x h1).go _ w' (eh.put hn _) (Ox.back h3))
theorem ia(hg:o.guard=none)(h:∀a w,jC n a fr->Mem W L w->∀K:Act->World->Prop,(∀a w,wpList P ops Q rest a w->K a w)->o.wp P a w K Q):TL P n W ops Q (o::rest) fr L:= .mk fun a w eh hm=>
 wpList_plain hg fun K hK=>h a w eh hm K hK
theorem As{q e:Nat}{b:Bool}(hg:o.guard=some (q,b))(hj:(ops[q]?).bind (·.dst)=some e)(hl:look fr e=some (.bool b))(h:TL P n W ops Q ({o with guard:=none}::rest) fr L):TL P n W ops Q (o::rest) fr L:= .mk fun a w hr hm=>by
 have h1:=h.go a w hr hm;unfold wpList at h1⊢;rw[if_pos (lx rfl)]at h1;rw[if_pos (kA hr hg hj hl)];exact h1
end
end
end bH
namespace bH
open Go.RowKit bL db
def str(l:List UInt8):Value:= .string ⟨l.toArray⟩
theorem Sh(s:ByteArray):Value.string s=str s.data.toList:=by unfold str;congr
structure Ty(P:Program)(t:TypeId)(agg:Bool)(c:Nat):Prop where
 agg:∀w,(isAgg t).run P w= .ok agg w
 size:∀w,(sizeOf t).run P w= .ok c w
def tyB(P:Program)(t:TypeId)(agg:Bool)(c:Nat):Bool:=
 (match P.underlying t with|some (.struct _)=>agg|some (.array _ _)=>agg|some _=>!agg|none=>false)&&(match P.info? t with|some i=>Nat.beq i.size c|none=>false)
theorem Ty.of{P:Program}{t:TypeId}{agg:Bool}{c:Nat}(h:tyB P t agg c=true):Ty P t agg c:=by
 unfold tyB at h;rw[Bool.and_eq_true]at h;obtain⟨h1,h2⟩:=h;refine⟨fun w=>?_,fun w=>?_⟩
 ·cases e:P.underlying t with
  |none=>rw[e]at h1;cases h1
  |some d=>
   rw[e]at h1
   cases agg<;>cases d<;>first|(cases h1;done)|simp[isAgg,run_underlying e]
 ·cases e:P.info? t with
  |none=>rw[e]at h2;cases h2
  |some i=>
   rw[e]at h2;obtain rfl:i.size=c:=Nat.eq_of_beq_eq_true h2;simp[sizeOf,typeInfo,e]
section
variable{P:Program}{n:Nat}{W:bB}{fr:Fr}{L:List bz}{dst:Option Tmp}{ty:TypeId}{pos:String}{after:Array Edge}{guard:Option (Nat×Bool)}
theorem pe{x:Operand}{v:Value}(hx:ev fr x=some v):RR P n W ⟨dst,.move x,ty,pos,after,guard⟩ fr L v:= .mk fun a w hr _=>by
 show Result.ok (Next.value (a.eval x)) w=_;rw[hr.ev hx]
theorem Iu{x:Operand}{v:Value}(hx:ev fr x=some v):RR P n W ⟨dst,.assign x,ty,pos,after,guard⟩ fr L v:= .mk fun a w hr _=>by
 show Result.ok (Next.value (a.eval x)) w=_;rw[hr.ev hx]
theorem KJ{c x y:Operand}{v:Value}(hc:ev fr c=some (.bool true))(hx:ev fr x=some v):RR P n W ⟨dst,.pick c x y,ty,pos,after,guard⟩ fr L v:= .mk fun a w hr _=>by
 simp[execOp,hr.ev hc,hr.ev hx,asBool]
theorem KM{c x y:Operand}{v:Value}(hc:ev fr c=some (.bool false))(hy:ev fr y=some v):RR P n W ⟨dst,.pick c x y,ty,pos,after,guard⟩ fr L v:= .mk fun a w hr _=>by
 simp[execOp,hr.ev hc,hr.ev hy,asBool]
theorem EC{t:Operand}{i:Nat}{vs:Array Value}{v:Value}(ht:ev fr t=some (.tuple vs))(hv:vs[i]?=some v):RR P n W ⟨dst,.extract t i,ty,pos,after,guard⟩ fr L v:= .mk fun a w hr _=>by
 simp[execOp,hr.ev ht,Instr.extract,hv]
section
variable{t u:TypeId}{x y:Operand}{k:IntKind}{m m':Int}
theorem lQ{op:BinOp}{v:Value}(hx:ev fr x=some (.int k m))(hy:ev fr y=some (.int k m'))(h:∀w,(binOp op t (.int k m) (.int k m')).run P w= .ok v w):RR P n W ⟨dst,.binOp op t x y u,ty,pos,after,guard⟩ fr L v:= .mk fun a w hr _=>by
 have e:(eqGuard op t x y (.int k m) (.int k m')).run P w= .ok () w:=by
  unfold eqGuard;cases op<;>rfl
 simp[execOp,hr.ev hx,hr.ev hy,e,h]
theorem Si(hx:ev fr x=some (.int k m))(hy:ev fr y=some (.int k m')):RR P n W ⟨dst,.binOp .add t x y u,ty,pos,after,guard⟩ fr L (.int k (k.wrap (m+m'))):=lQ hx hy fun w=>by simp[binOp,Op.intArith]
theorem Sj(hx:ev fr x=some (.int k m))(hy:ev fr y=some (.int k m')):RR P n W ⟨dst,.binOp .sub t x y u,ty,pos,after,guard⟩ fr L (.int k (k.wrap (m-m'))):=lQ hx hy fun w=>by simp[binOp,Op.intArith]
theorem Sk(hx:ev fr x=some (.int k m))(hy:ev fr y=some (.int k m')):RR P n W ⟨dst,.binOp .mul t x y u,ty,pos,after,guard⟩ fr L (.int k (k.wrap (m*m'))):=lQ hx hy fun w=>by simp[binOp,Op.intArith]
theorem jE{r:Int}(h0: -9223372036854775808<=r)(h1:r<=9223372036854775807):IntKind.i64.wrap r=r:=IntWalk.i64_in _ (by omega)
theorem eK{r:Int}(hx:ev fr x=some (.int .i64 m))(hy:ev fr y=some (.int .i64 m'))(h0: -9223372036854775808<=m+m')(h1:m+m'<=9223372036854775807)(hr:m+m'=r):RR P n W ⟨dst,.binOp .add t x y u,ty,pos,after,guard⟩ fr L (.int .i64 r):=by
 have:=Si (P:=P) (n:=n) (W:=W) (L:=L) (dst:=dst) (ty:=ty) (pos:=pos) (after:=after) (guard:=guard) (t:=t) (u:=u) hx hy;rwa [jE h0 h1,hr]at this
theorem ij{r:Int}(hx:ev fr x=some (.int .i64 m))(hy:ev fr y=some (.int .i64 m'))(h0: -9223372036854775808<=m-m')(h1:m-m'<=9223372036854775807)(hr:m-m'=r):RR P n W ⟨dst,.binOp .sub t x y u,ty,pos,after,guard⟩ fr L (.int .i64 r):=by
 have:=Sj (P:=P) (n:=n) (W:=W) (L:=L) (dst:=dst) (ty:=ty) (pos:=pos) (after:=after) (guard:=guard) (t:=t) (u:=u) hx hy;rwa [jE h0 h1,hr]at this
theorem B8{r:Int}(hx:ev fr x=some (.int .i64 m))(hy:ev fr y=some (.int .i64 m'))(h0: -9223372036854775808<=m*m')(h1:m*m'<=9223372036854775807)(hr:m*m'=r):RR P n W ⟨dst,.binOp .mul t x y u,ty,pos,after,guard⟩ fr L (.int .i64 r):=by
 have:=Sk (P:=P) (n:=n) (W:=W) (L:=L) (dst:=dst) (ty:=ty) (pos:=pos) (after:=after) (guard:=guard) (t:=t) (u:=u) hx hy;rwa [jE h0 h1,hr]at this
theorem fG{b:Bool}(hx:ev fr x=some (.int k m))(hy:ev fr y=some (.int k m'))(h:decide (m<m')=b):RR P n W ⟨dst,.binOp .lss t x y u,ty,pos,after,guard⟩ fr L (.bool b):=lQ hx hy fun w=>by simp[binOp,Op.intCmp,<-h]
theorem ED{b:Bool}(hx:ev fr x=some (.int k m))(hy:ev fr y=some (.int k m'))(h:decide (m<=m')=b):RR P n W ⟨dst,.binOp .leq t x y u,ty,pos,after,guard⟩ fr L (.bool b):=lQ hx hy fun w=>by simp[binOp,Op.intCmp,<-h]
theorem eo{b:Bool}(hx:ev fr x=some (.int k m))(hy:ev fr y=some (.int k m'))(h:decide (m'<m)=b):RR P n W ⟨dst,.binOp .gtr t x y u,ty,pos,after,guard⟩ fr L (.bool b):=lQ hx hy fun w=>by simp[binOp,Op.intCmp,<-h]
theorem fH{b:Bool}(hx:ev fr x=some (.int k m))(hy:ev fr y=some (.int k m'))(h:decide (m'<=m)=b):RR P n W ⟨dst,.binOp .geq t x y u,ty,pos,after,guard⟩ fr L (.bool b):=lQ hx hy fun w=>by simp[binOp,Op.intCmp,<-h]
theorem cJ{b:Bool}(hx:ev fr x=some (.int k m))(hy:ev fr y=some (.int k m'))(h:decide (m=m')=b):RR P n W ⟨dst,.binOp .eql t x y u,ty,pos,after,guard⟩ fr L (.bool b):=lQ hx hy fun w=>by
 have:(m==m')=b:=by rw[<-h];exact Bool.beq_eq_decide_eq m m'
 simp[binOp,Op.intCmp,this]
theorem cB{b:Bool}(hx:ev fr x=some (.int k m))(hy:ev fr y=some (.int k m'))(h:decide (m≠m')=b):RR P n W ⟨dst,.binOp .neq t x y u,ty,pos,after,guard⟩ fr L (.bool b):=lQ hx hy fun w=>by
 have:(m !=m')=b:=by rw[<-h,bne,Bool.beq_eq_decide_eq];simp
 simp[binOp,Op.intCmp,this]
theorem Au{op:BinOp}{r:Int}(hop:op= .and\/op= .or\/op= .xor\/op= .andNot)(hx:ev fr x=some (.int k m))(hy:ev fr y=some (.int k m'))(h:bits op k m m'=r):RR P n W ⟨dst,.binOp op t x y u,ty,pos,after,guard⟩ fr L (.int k r):=lQ hx hy fun w=>by
 subst h;rcases hop with rfl|rfl|rfl|rfl<;>simp[binOp,Op.intBits,bits]
theorem B9{op:BinOp}{k':IntKind}{v:Value}(hop:op= .shl\/op= .shr)(hx:ev fr x=some (.int k m))(hy:ev fr y=some (.int k' m'))(h:∀w,(Op.shift op k m k' m').run P w= .ok v w):RR P n W ⟨dst,.binOp op t x y u,ty,pos,after,guard⟩ fr L v:= .mk fun a w hr _=>by
 have e:(eqGuard op t x y (.int k m) (.int k' m')).run P w= .ok () w:=by unfold eqGuard;rcases hop with rfl|rfl<;>rfl
 rcases hop with rfl|rfl<;>simp[execOp,hr.ev hx,hr.ev hy,e,binOp,h]
theorem jn{r:Int}(hx:ev fr x=some (.int k m))(hy:ev fr y=some (.int k m'))(h:bits .and k m m'=r):RR P n W ⟨dst,.binOp .and t x y u,ty,pos,after,guard⟩ fr L (.int k r):=Au (.inl rfl) hx hy h
theorem qW{r:Int}(hx:ev fr x=some (.int k m))(hy:ev fr y=some (.int k m'))(h:bits .or k m m'=r):RR P n W ⟨dst,.binOp .or t x y u,ty,pos,after,guard⟩ fr L (.int k r):=Au (.inr (.inl rfl)) hx hy h
theorem uZ{k':IntKind}{v:Value}(hx:ev fr x=some (.int k m))(hy:ev fr y=some (.int k' m'))(h:∀w,(Op.shift .shl k m k' m').run P w= .ok v w):RR P n W ⟨dst,.binOp .shl t x y u,ty,pos,after,guard⟩ fr L v:=B9 (.inl rfl) hx hy h
theorem kB{k':IntKind}{v:Value}(hx:ev fr x=some (.int k m))(hy:ev fr y=some (.int k' m'))(h:∀w,(Op.shift .shr k m k' m').run P w= .ok v w):RR P n W ⟨dst,.binOp .shr t x y u,ty,pos,after,guard⟩ fr L v:=B9 (.inr rfl) hx hy h
theorem e7{k':IntKind}{r:Int}(hs:P.underlying t=some (.int k'))(hd:P.underlying u=some (.int k))(hx:ev fr x=some (.int k' m))(h:k.wrap m=r):RR P n W ⟨dst,.convert t u x,ty,pos,after,guard⟩ fr L (.int k r):= .mk fun a w hr _=>by
 simp[execOp,hr.ev hx,convert,run_underlying hs,run_underlying hd,Conv.intToInt,h]
end
theorem Av{t:TypeId}{x:Operand}{b c:Bool}(hx:ev fr x=some (.bool b))(h:(!b)=c):RR P n W ⟨dst,.unOp .not t x,ty,pos,after,guard⟩ fr L (.bool c):= .mk fun a w hr _=>by
 subst h;simp[execOp,hr.ev hx,Op.unary]
theorem EE{t u:TypeId}{x y:Operand}{m m' r:Int}(hx:ev fr x=some (.int .i64 m))(hy:ev fr y=some (.int .i64 m'))(h:min m m'=r):RR P n W ⟨dst,.call {callee:= .builtin .min,args:=#[x,y],argTypes:=#[t,u]},ty,pos,after,guard⟩ fr L (.int .i64 r):= .mk fun a w hr _=>by
 subst h;have h1:=hr.ev hx;have h2:=hr.ev hy;have e:(if m'<m then m' else m)=min m m':=by split<;>omega
 simp[BigFrame.execOp_builtin,BigFrame.builtin_min,h1,h2,Builtin.min_,Builtin.min2,e]
theorem KN{t u:TypeId}{x y:Operand}{m m' r:Int}(hx:ev fr x=some (.int .i64 m))(hy:ev fr y=some (.int .i64 m'))(h:max m m'=r):RR P n W ⟨dst,.call {callee:= .builtin .max,args:=#[x,y],argTypes:=#[t,u]},ty,pos,after,guard⟩ fr L (.int .i64 r):= .mk fun a w hr _=>by
 subst h;have h1:=hr.ev hx;have h2:=hr.ev hy;have e:(if m'>m then m' else m)=max m m':=by split<;>omega
 have e2:(if m<m' then m' else m)=max m m':=e;simp[BigFrame.execOp_builtin,BigFrame.builtin_max,h1,h2,Builtin.max_,Builtin.max2,e2]
theorem u_{t:TypeId}{a b:Bool}(ht:P.underlying t=some .bool)(d:Nat)(w:World):(Op.equalIn (d+1) t (.bool a) (.bool b)).run P w= .ok (a==b) w:=by simp[Op.equalIn,run_underlying ht]
theorem yF{t u:TypeId}{x y:Operand}{a b c:Bool}(ht:P.underlying t=some .bool)(hx:ev fr x=some (.bool a))(hy:ev fr y=some (.bool b))(h:(a==b)=c):RR P n W ⟨dst,.binOp .eql t x y u,ty,pos,after,guard⟩ fr L (.bool c):= .mk fun ac w hr _=>by
 have e:(eqGuard .eql t x y (.bool a) (.bool b)).run P w= .ok () w:=rfl;have e2:(binOp .eql t (.bool a) (.bool b)).run P w= .ok (.bool c) w:=by
  show((Op.equal t (.bool a) (.bool b))>>=fun r=>pure (Value.bool r)).run P w=_
  have:(Op.equal t (.bool a) (.bool b)).run P w= .ok (a==b) w:=u_ ht 9999 w;rw[Sem.run_bind,this,h];rfl
 simp[execOp,hr.ev hx,hr.ev hy,e,e2]
theorem Iv{t u:TypeId}{x y:Operand}{a b c:Bool}(ht:P.underlying t=some .bool)(hx:ev fr x=some (.bool a))(hy:ev fr y=some (.bool b))(h:(!(a==b))=c):RR P n W ⟨dst,.binOp .neq t x y u,ty,pos,after,guard⟩ fr L (.bool c):= .mk fun ac w hr _=>by
 have e:(eqGuard .neq t x y (.bool a) (.bool b)).run P w= .ok () w:=rfl;have e2:(binOp .neq t (.bool a) (.bool b)).run P w= .ok (.bool c) w:=by
  show((Op.equal t (.bool a) (.bool b))>>=fun r=>pure (Value.bool (!r))).run P w=_
  have:(Op.equal t (.bool a) (.bool b)).run P w= .ok (a==b) w:=u_ ht 9999 w;rw[Sem.run_bind,this];show Result.ok (Value.bool (!(a==b))) w=_
  rw[h]
 simp[execOp,hr.ev hx,hr.ev hy,e,e2]
section
variable{t u:TypeId}{x y:Operand}{l l':List UInt8}
theorem Iw(ht:P.underlying t=some .string)(hx:ev fr x=some (str l)):RR P n W ⟨dst,.call {callee:= .builtin .len,args:=#[x],argTypes:=#[t]},ty,pos,after,guard⟩ fr L (.int .i64 l.length):= .mk fun a w hr _=>by
 have EF:=hr.ev hx;unfold str at EF;have hsz:(ByteArray.mk l.toArray).size=l.length:=List.size_toArray;simp[BigFrame.execOp_builtin,BigFrame.builtin_len,Builtin.len_,EF,run_underlying ht,goInt,hsz]
theorem Sm(l:List UInt8):(ByteArray.mk l.toArray).toList=l:=by
 have h:∀(m:List UInt8) (i:Nat) (r:List UInt8),i+m.length=l.length->l.drop i=m->ByteArray.toList.loop ⟨l.toArray⟩ i r=r.reverse++m:=by
  intro m
  induction m with
  |nil=>
   intro i r hi _;unfold ByteArray.toList.loop;rw[if_neg (by simp[ByteArray.size]at*;omega)];simp
  |cons b m ih=>
   intro i r hi hd;unfold ByteArray.toList.loop;have hlt:i<l.length:=by simp at hi;omega
   rw[if_pos (by simpa[ByteArray.size]using hlt)];rw[List.drop_eq_getElem_cons hlt]at hd;injection hd with h1 h2
   rw[ih (i+1) _ (by simp at hi;omega) h2];have:(ByteArray.mk l.toArray).get! i=b:=by simp[ByteArray.get!,hlt,h1]
   rw[this];simp
 unfold ByteArray.toList;rw[h l 0 [] (by simp) rfl];simp
theorem nR{b:Bool}(hx:ev fr x=some (str l))(hy:ev fr y=some (str l'))(h:decide (l=l')=b):RR P n W ⟨dst,.binOp .eql t x y u,ty,pos,after,guard⟩ fr L (.bool b):= .mk fun a w hr _=>by
 have e:(eqGuard .eql t x y (str l) (str l')).run P w= .ok () w:=rfl;have e2:(l==l')=b:=by rw[<-h];exact Bool.beq_eq_decide_eq l l'
 unfold str at*;simp[execOp,hr.ev hx,hr.ev hy,e,binOp,Op.stringOp,e2]
theorem qX{b:Bool}(hx:ev fr x=some (str l))(hy:ev fr y=some (str l'))(h:decide (l≠l')=b):RR P n W ⟨dst,.binOp .neq t x y u,ty,pos,after,guard⟩ fr L (.bool b):= .mk fun a w hr _=>by
 have e:(eqGuard .neq t x y (str l) (str l')).run P w= .ok () w:=rfl;have e2:(!(l==l'))=b:=by rw[<-h,Bool.beq_eq_decide_eq];simp
 unfold str at*;simp[execOp,hr.ev hx,hr.ev hy,e,binOp,Op.stringOp,e2]
theorem sw{i:Int}{b:UInt8}{k:IntKind}(ht:P.underlying t=some .string)(hx:ev fr x=some (str l))(hy:ev fr y=some (.int k i))(h0:0<=i)(h:l[i.toNat]?=some b):RR P n W ⟨dst,.index t x y,ty,pos,after,guard⟩ fr L (.int .u8 b.toNat):= .mk fun a w hr _=>by
 have hlt:=(List.getElem?_eq_some_iff.1 h).1;have e:(if 0<=i then(ByteArray.mk l.toArray)[i.toNat]? else none)=some b:=by
  rw[if_pos h0];have hs:i.toNat<(ByteArray.mk l.toArray).size:=by simpa[ByteArray.size]using hlt
  rw[getElem?_pos (ByteArray.mk l.toArray) i.toNat hs];have:=(List.getElem?_eq_some_iff.1 h).2;exact congrArg some (by rw[<-this];rfl)
 unfold str at*;simp only[execOp,hr.ev hx,hr.ev hy,Instr.index,asIntOf,Sem.run_bind,Sem.run_pure,Result.andThen_ok,run_underlying ht,e]
end
end
end bH
namespace bH
open Go.RowKit bL db
section
variable{P:Program}{n:Nat}{W:bB}{fr:Fr}{L:List bz}{dst:Option Tmp}{ty:TypeId}{pos:String}{after:Array Edge}{guard:Option (Nat×Bool)}
def At(W:bB)(L:List bz)(p:Addr)(v:Value):Prop:=∀w,Mem W L w->w.cell? p=some v
theorem iv{W:World}{p:Addr}{v:Value}(h:W.cell? p=some v):At W L p v:=fun _ hm=>hm.cell h
theorem fI{W0:World}{p:Addr}{v:Value}(ho:lc W0 W)(h:W0.cell? p=some v):At W L p v:=fun _ hm=>ho.cell hm h
theorem ah{i g off:Nat}{cs:Array Value}{T:TypeId}{v:Value}(hi:L[i]?=some (ap g cs T))(hv:cs[off]?=some v):At W L ⟨g,off,none⟩ v:=fun w hm=>by
 rw[cell_of_row w g off cs T (0,0) (hm.get hi)];exact hv
theorem f_{i g off size cap m k:Nat}{e:TypeId}{xs:List Value}{v:Value}(hi:L[i]?=some (aI e size (.slice (some ⟨g,0,none⟩) m cap) k xs))(hv:xs[off]?=some v):At W L ⟨g,off,none⟩ v:=fun w hm=>by
 have h:w.ownsRow 0 e size (.slice (some ⟨g,0,none⟩) m cap) k xs:=hm.get hi;have:=h.cells (g:=g) rfl off v hv
 rwa [ez,Nat.zero_add]at this
theorem iD{W:World}{b off j:Nat}{xs:List Value}{v:Value}(h:Rd W b off xs)(hv:xs[j]?=some v):At W L ⟨b,off+j,none⟩ v:=iv (h j v hv)
theorem J{t:TypeId}{x:Operand}{p:Addr}{c:Nat}{v:Value}(hT:Ty P t false c)(hx:ev fr x=some (.pointer (some p)))(h:At W L p v):RR P n W ⟨dst,.load t x,ty,pos,after,guard⟩ fr L v:= .mk fun a w hr hm=>by
 simp[execOp,hr.ev hx,Instr.loadAt,Instr.sureAddr,loadVar,hT.agg,h w hm]
theorem aK{t:TypeId}{x:Operand}{b off c:Nat}{cs:List Value}(hT:Ty P t true c)(hx:ev fr x=some (.pointer (some ⟨b,off,none⟩)))(hl:cs.length=c)(h:∀j v,cs[j]?=some v->At W L ⟨b,off+j,none⟩ v):RR P n W ⟨dst,.load t x,ty,pos,after,guard⟩ fr L (.agg cs.toArray):= .mk fun a w hr hm=>by
 subst hl;have:=run_loadCells_list (P:=P) w ⟨b,off,none⟩ cs fun j v hj=>by rw[ez];exact h j v hj w hm
 simp[execOp,hr.ev hx,Instr.loadAt,Instr.sureAddr,loadVar,hT.agg,hT.size,this]
theorem aE{t:TypeId}{x:Operand}{i g c:Nat}{cs:Array Value}{T:TypeId}(hT:Ty P t true c)(hx:ev fr x=some (.pointer (some ⟨g,0,none⟩)))(hi:L[i]?=some (ap g cs T))(hl:cs.size=c):RR P n W ⟨dst,.load t x,ty,pos,after,guard⟩ fr L (.agg cs):=by
 have:=aK (P:=P) (n:=n) (W:=W) (L:=L) (dst:=dst) (ty:=ty) (pos:=pos) (after:=after) (guard:=guard) (cs:=cs.toList) hT hx (by simpa using hl) fun j v hj=>by rw[Nat.zero_add];exact ah hi (by simpa using hj)
 simpa using this
theorem KO{W:World}{α:Type}{f:α->Value}{b off j:Nat}{l:List α}(h:Rd W b off (l.map f))(hj:j<l.length):At W L ⟨b,off+j,none⟩ (f l[j]):=iD h (by simp[hj])
structure Sn(P:Program)(s:TypeId)(f o:Nat):Prop where
 run:∀(a:Addr) w,(Instr.fieldAt s (.pointer (some a)) f).run P w= .ok (.pointer (some (a.add o))) w
def U1(P:Program)(s:TypeId)(f o:Nat):Bool:=
 match P.underlying s with
 |some (.struct fs)=>(match fs[f]? with|some d=>Nat.beq d.offset o&&(match P.info? d.type with|some i=>!(Nat.beq i.size 0)|none=>false)|none=>false)
 |_=>false
theorem Sn.of{P:Program}{s:TypeId}{f o:Nat}(h:U1 P s f o=true):Sn P s f o:=by
  unfold U1 at h
  cases e:P.underlying s with
  |none=>rw[e]at h;cases h
  | some d=>
    rw[e]at h
    cases d<;>try (cases h;done)
    rename_i fs
    simp only at h
    cases e2:fs[f]? with
    |none=>rw[e2]at h;cases h
    | some d=>
      rw[e2]at h;simp only[Bool.and_eq_true]at h;obtain⟨h1,h2⟩:=h;obtain rfl:=Nat.eq_of_beq_eq_true h1
      cases e3:P.info? d.type with
      |none=>rw[e3]at h2;cases h2
      | some i=>
        rw[e3]at h2;simp only[Bool.not_eq_true']at h2;have:=Nat.ne_of_beq_eq_false h2;exact⟨fun a w=>by simp[Instr.fieldAt,run_underlying e,e2,Instr.sureAddr,fieldPlace,sizeOf,typeInfo,e3,this]⟩
theorem B_{s:TypeId}{x:Operand}{f o b off r:Nat}(hf:Sn P s f o)(hx:ev fr x=some (.pointer (some ⟨b,off,none⟩)))(hr:off+o=r):RR P n W ⟨dst,.fieldAddr s x f,ty,pos,after,guard⟩ fr L (.pointer (some ⟨b,r,none⟩)):= .mk fun a w h _=>by
 subst hr;simp[execOp,h.ev hx,hf.run,ez]
theorem KP{t e:TypeId}{x y:Operand}{agg:Bool}{c b off len cap r:Nat}{k:IntKind}{i:Int}(ht:P.underlying t=some (.slice e))(he:Ty P e agg c)(hx:ev fr x=some (.slice (some ⟨b,off,none⟩) len cap))(hy:ev fr y=some (.int k i))(h0:0<=i)(h1:i<len)(hr:off+i.toNat*c=r):
 RR P n W ⟨dst,.indexAddr t x y,ty,pos,after,guard⟩ fr L (.pointer (some ⟨b,r,none⟩)):= .mk fun a w h _=>by
 subst hr;simp[execOp,h.ev hx,h.ev hy,Instr.indexAt,asIntOf,run_underlying ht,he.size,h0,h1,ez]
theorem aO{t e:TypeId}{x y:Operand}{agg:Bool}{b off len cap j:Nat}{k:IntKind}(ht:P.underlying t=some (.slice e))(he:Ty P e agg 1)(hx:ev fr x=some (.slice (some ⟨b,off,none⟩) len cap))(hy:ev fr y=some (.int k (j:Int)))(h1:j<len):
 RR P n W ⟨dst,.indexAddr t x y,ty,pos,after,guard⟩ fr L (.pointer (some ⟨b,off+j,none⟩)):=KP ht he hx hy (by omega) (by omega) (by simp)
theorem aH{t e:TypeId}{x y:Operand}{agg:Bool}{c b off len cap j:Nat}{k:IntKind}(ht:P.underlying t=some (.slice e))(he:Ty P e agg c)(hx:ev fr x=some (.slice (some ⟨b,off,none⟩) len cap))(hy:ev fr y=some (.int k (j:Int)))(h1:j<len):
 RR P n W ⟨dst,.indexAddr t x y,ty,pos,after,guard⟩ fr L (.pointer (some ⟨b,off+j*c,none⟩)):=KP ht he hx hy (by omega) (by omega) (by simp)
theorem Oy{t e:TypeId}{x y:Operand}{agg:Bool}{c b off len r:Nat}{k:IntKind}{i:Int}(ht:P.underlying t=some (.array len e))(he:Ty P e agg c)(hx:ev fr x=some (.pointer (some ⟨b,off,none⟩)))(hy:ev fr y=some (.int k i))(h0:0<=i)(h1:i<len)(hr:off+i.toNat*c=r):
 RR P n W ⟨dst,.indexAddr t x y,ty,pos,after,guard⟩ fr L (.pointer (some ⟨b,r,none⟩)):= .mk fun a w h _=>by
 subst hr;simp[execOp,h.ev hx,h.ev hy,Instr.indexAt,asIntOf,run_underlying ht,he.size,h0,h1,ez,Instr.sureAddr]
theorem eL{t e:TypeId}{x y:Operand}{agg:Bool}{b off len j:Nat}{k:IntKind}(ht:P.underlying t=some (.array len e))(he:Ty P e agg 1)(hx:ev fr x=some (.pointer (some ⟨b,off,none⟩)))(hy:ev fr y=some (.int k (j:Int)))(h1:j<len):
 RR P n W ⟨dst,.indexAddr t x y,ty,pos,after,guard⟩ fr L (.pointer (some ⟨b,off+j,none⟩)):=Oy ht he hx hy (by omega) (by omega) (by simp)
theorem fw{t e:TypeId}{x y:Operand}{len j:Nat}{k:IntKind}{cs:Array Value}{v:Value}(ht:P.underlying t=some (.array len e))(he:Ty P e false 1)(hx:ev fr x=some (.agg cs))(hy:ev fr y=some (.int k (j:Int)))(h1:j<len)(hv:cs[j]?=some v):
 RR P n W ⟨dst,.index t x y,ty,pos,after,guard⟩ fr L v:= .mk fun a w h _=>by
 have h0:(0:Int)<=(j:Int)/\(j:Int)<(len:Int):=by omega
 simp[execOp,h.ev hx,h.ev hy,Instr.index,asIntOf,run_underlying ht,he.size,h1,part,he.agg,hv]
theorem EG{t e:TypeId}{x:Operand}{p:Option Addr}{m cap:Nat}(ht:P.underlying t=some (.slice e))(hx:ev fr x=some (.slice p m cap)):RR P n W ⟨dst,.call {callee:= .builtin .len,args:=#[x],argTypes:=#[t]},ty,pos,after,guard⟩ fr L (.int .i64 m):= .mk fun a w hr _=>by
 have EF:=hr.ev hx;simp[BigFrame.execOp_builtin,BigFrame.builtin_len,Builtin.len_,EF,run_underlying ht,goInt]
theorem iE{t e e':TypeId}{x:Operand}{i size m:Nat}{v:Value}{xs:List Value}(ht:P.underlying t=some (.slice e))(hi:L[i]?=some (aI e' size v m xs))(hx:ev fr x=some v):RR P n W ⟨dst,.call {callee:= .builtin .len,args:=#[x],argTypes:=#[t]},ty,pos,after,guard⟩ fr L (.int .i64 m):= .mk fun a w hr hm=>by
 have h:w.ownsRow 0 e' size v m xs:=hm.get hi;rcases h.2 with⟨rfl,rfl⟩|⟨g,cap,kp,rfl,_⟩
 ·exact(EG (P:=P) (W:=W) (L:=L) ht hx).go a w hr hm
 ·exact(EG (P:=P) (W:=W) (L:=L) ht hx).go a w hr hm
def Oz(W:bB)(L:List bz)(v:Value)(m:Nat)(xs:List Value):Prop:=∀w,Mem W L w->Sl w v m xs
theorem Sq{W:World}{v:Value}{m:Nat}{xs:List Value}(h:Sl W v m xs):Oz W L v m xs:=fun w hm=>by
 obtain⟨base,cap,h1,h2,h3,h4⟩:=h;exact⟨base,cap,h1,h2,h3,fun hn=>let ⟨b,off,h5,h6⟩:=h4 hn;⟨b,off,h5,fun j u hj=>hm.cell (h6 j u hj)⟩⟩
theorem jo{i size m:Nat}{e:TypeId}{v:Value}{xs:List Value}(hi:L[i]?=some (aI e size v m xs)):Oz W L v m xs:=fun _ hm=>Sl.cD (hm.get hi)
section
variable{Q:Exit->Act->World->Prop}{ops:Array Oper}{rest:List Oper}{d:Nat}
theorem bK{t:TypeId}{x:Operand}{v:Value}{cs:Array Value}(hx:ev fr x=some v)(hv:v.cells=cs)(hn:Nat.blt d n=true)(h:∀g,TL P n W ops Q rest ((d,.pointer (some ⟨g,0,none⟩))::fr) (L++[ap g cs t])):
 TL P n W ops Q (⟨some d,.box t x,ty,pos,after,none⟩::rest) fr L:=ia rfl fun a w hr hm K hK=>by
 subst hv;have e:(execOp a.eval ⟨some d,.box t x,ty,pos,after,none⟩).run P w= .ok (.value (.pointer (some ⟨w.heap.size,0,none⟩))) (w.alloc (.cells v.cells t)):=by
  simp[execOp,hr.ev hx,Instr.box,newVar,newRow]
 unfold Oper.wp;rw[e];exact hK _ _ ((h w.heap.size).go _ _ (hr.put hn _) (hm.append (Ix w _) (nQ.one (heap_alloc_new w _) fun k hk=>by simp only[ap,Option.some.injEq]at hk;omega)))
where
 Ix (w:World) (o:Obj):Gr w (w.alloc o):=(Below.refl _ _).alloc (Nat.le_refl _) _
theorem jJ(w:World)(o:Obj):Gr w (w.alloc o):=(Below.refl _ _).alloc (Nat.le_refl _) _
theorem KQ{t:TypeId}{i:TypeInfo}{z:Value}{cs:Array Value}(hi:P.info? t=some i)(hz:i.zero=some z)(hv:z.cells=cs)(hn:Nat.blt d n=true)(h:∀g,TL P n W ops Q rest ((d,.pointer (some ⟨g,0,none⟩))::fr) (L++[ap g cs t])):
 TL P n W ops Q (⟨some d,.alloc t,ty,pos,after,none⟩::rest) fr L:=ia rfl fun a w hr hm K hK=>by
 subst hv;have e:(execOp a.eval ⟨some d,.alloc t,ty,pos,after,none⟩).run P w= .ok (.value (.pointer (some ⟨w.heap.size,0,none⟩))) (w.alloc (.cells z.cells t)):=by
  simp[execOp,Instr.alloc,zeroValue,typeInfo,hi,hz,newVar,newRow]
 unfold Oper.wp;rw[e];exact hK _ _ ((h w.heap.size).go _ _ (hr.put hn _) (hm.append (jJ w _) (nQ.one (heap_alloc_new w _) fun k hk=>by simp only[ap,Option.some.injEq]at hk;omega)))
theorem EH{t e:TypeId}{m:Nat}{parts:Array (Nat×Operand)}{cs:Array Value}(hrun:∀a w,jC n a fr->(Instr.buildSlice t m (parts.map fun(i,x)=>(i,a.eval x))).run P w= .ok (.slice (some ⟨w.heap.size,0,none⟩) m m) (w.alloc (.cells cs e)))(hn:Nat.blt d n=true)
 (h:∀g,TL P n W ops Q rest ((d,.slice (some ⟨g,0,none⟩) m m)::fr) (L++[ap g cs e])):
 TL P n W ops Q (⟨some d,.buildSlice t m parts,ty,pos,after,none⟩::rest) fr L:=ia rfl fun a w hr hm K hK=>by
 have e':(execOp a.eval ⟨some d,.buildSlice t m parts,ty,pos,after,none⟩).run P w= .ok (.value (.slice (some ⟨w.heap.size,0,none⟩) m m)) (w.alloc (.cells cs e)):=by
  simp only[execOp,Sem.run_bind,hrun a w hr,Result.andThen_ok,Sem.run_pure]
 unfold Oper.wp;rw[e'];exact hK _ _ ((h w.heap.size).go _ _ (hr.put hn _) (hm.append (jJ w _) (nQ.one (heap_alloc_new w _) fun k hk=>by simp only[ap,Option.some.injEq]at hk;omega)))
theorem KR{t e:TypeId}{i:TypeInfo}{z v:Value}{c:Nat}(ht:P.underlying t=some (.slice e))(hi:P.info? e=some i)(hz:i.zero=some z)(hc:i.size=c)(Ul:z.cells.size=c)(hv:v.cells.size=c)(h0:0<c)(hs:c<=16777216)(w:World):
    (Instr.buildSlice t 1 #[(0,v)]).run P w= .ok (.slice (some ⟨w.heap.size,0,none⟩) 1 1) (w.alloc (.cells v.cells e)):=by
  have mf:Instr.fill (fun i=>some (i*c,c)) ((Array.range (1*c)).map (z.cells[· %z.cells.size]!)) [(0,v)]=some v.cells:=by
    simp only[Instr.fill,hv,Nat.zero_mul,Nat.zero_add,Array.size_map,Array.size_range,Nat.one_mul];rw[if_neg (by simp)]
    congr 1
    have key:∀(l:List Value) (k:Nat) (acc:Array Value),k+l.length=acc.size->(l.zipIdx k).foldl (fun cs (x:Value×Nat)=>cs.setIfInBounds (0+x.2) x.1) acc=(acc.toList.take k++l).toArray:=by
      intro l
      induction l with
      | nil=>
        intro k acc h;simp at h;simp only[List.zipIdx_nil,List.foldl_nil,List.append_nil];rw[List.take_of_length_le (by simp;omega)]
      | cons x l ih=>
        intro k acc h;simp only[List.length_cons]at h;rw[List.zipIdx_cons,List.foldl_cons,ih (k+1) _ (by simp;omega)];simp only[Nat.zero_add,Array.toList_setIfInBounds]
        congr 1
        rw[List.take_succ_eq_append_getElem (by simp;omega)];simp[List.take_set];rw[List.set_eq_of_length_le (by simp;omega)]
    have:=key v.cells.toList 0 ((Array.range c).map (z.cells[· %z.cells.size]!)) (by simp[hv])
    simp only[List.take_zero,List.nil_append,Array.toArray_toList]at this;rw[<-Array.foldl_toList]
    simpa[Array.toList_zipIdx]using this
  have hne:¬(1*c>2^24):=by omega
  have KS:¬(1*c=0):=by omega
  simp only[Instr.buildSlice,Sem.run_bind,run_underlying ht,Result.andThen_ok,sizeOf,typeInfo,run_program,hi,Sem.run_pure,hc,zeroValue,hz,if_neg hne,if_neg KS,mf,newRow];simp[newRow]
theorem OA{t e:TypeId}{x:Operand}{i:TypeInfo}{z v:Value}{c:Nat}{cs:Array Value}(ht:P.underlying t=some (.slice e))(hi:P.info? e=some i)(hz:i.zero=some z)(hc:i.size=c)(Ul:z.cells.size=c)(hx:ev fr x=some v)(hcs:v.cells=cs)(hv:cs.size=c)(h0:0<c)(hs:c<=16777216)(hn:Nat.blt d n=true)
 (h:∀g,TL P n W ops Q rest ((d,.slice (some ⟨g,0,none⟩) 1 1)::fr) (L++[ap g cs e])):TL P n W ops Q (⟨some d,.buildSlice t 1 #[(0,x)],ty,pos,after,none⟩::rest) fr L:=by
 subst hcs;exact EH (fun a w hr=>by simpa[hr.ev hx]using KR ht hi hz hc Ul hv h0 hs w) hn h
theorem nB{t ty e:TypeId}{i:TypeInfo}{z:Value}{size bytes:Nat}(ht:P.underlying t=some (.slice e))(hi:P.info? e=some i)(hz:i.zero=some z)(mg:i.size=size)(KT:i.bytes=bytes)(Q2:z.cells.size=size)(hsz:0<size)(w:World)
 {v:Value} {m:Nat} {xs:List Value} (pD:w.ownsRow 0 e size v m xs) {a:Addr} {k c:Nat} {news:List Value} (hl:news.length=k*size) (G3:∀j u,news[j]?=some u->w.cell? (a.add j)=some u) (h1:∀u∈news,u.oneCell'=true)
 (pF:m+k<=maxLen) (EI:(m+k)*bytes<=140737488355328):
 ∃v' w',(Builtin.append_ #[t,t] ty #[v,.slice (some a) k c]).run P w= .ok v' w'/\w'.ownsRow 0 e size v' (m+k) (xs++news)/\w.grownBy w' v.ownBlock/\(∀q,v'.ownBlock=some q->v.ownBlock=some q\/w.heap.size<=q):=by
 obtain⟨v',w',hr,h2,h3,h4⟩:=run_append_own (P:=P) w 0 t ty e i z size bytes ht hi hz mg KT Q2 hsz v m xs pD a k c news hl G3 h1 pF EI (Nat.zero_le _);refine⟨v',w',hr,h2,h3,fun q hq=>?_⟩;have aan:((m+k:Nat):Int)<=9223372036854775807:=by simp only[maxLen]at pF;omega
 rcases pD.2 with⟨rfl,rfl⟩|⟨g,cap,kp,rfl,xX,hg,Sr,U2,hcs,Ca⟩
 ·by_cases hk:k=0
  ·rw[h4.2 ⟨rfl,hk⟩]at hq;cases hq
  ·have l_:=run_append_nil (P:=P) w t ty e i z ht hi hz a k c news (by rw[mg];exact hl) G3 (by omega) (by omega) (by rw[KT];have hb:=EI;simp only[Nat.zero_add]at hb;omega)
   rw[hr]at l_;injection l_ with e1 _
   subst e1;simp only[Value.ownBlock,Option.some.injEq]at hq;exact .inr (by omega)
 ·by_cases hroom:m+k<=cap
  ·have Iy:m*i.size+news.length<=kp.size:=by rw[hl,hcs,mg,<-Nat.add_mul];exact Nat.mul_le_mul_right _ hroom
   have l_:=run_append_room (P:=P) w t ty e i ht hi g m cap kp hg a k c news (by rw[mg];exact hl) G3 h1 hroom Iy;rw[hr]at l_;injection l_ with e1 _
   subst e1;exact .inl hq
  ·have holds:∀j u,xs[j]?=some u->w.cell? ((⟨g,0,none⟩:Addr).add j)=some u:=pD.cells (g:=g) rfl
   have l_:=run_append_grow (P:=P) w t ty e i z ht hi hz ⟨g,0,none⟩ m cap xs (by rw[mg];exact pD.1) holds a k c news (by rw[mg];exact hl) G3 (by omega) (by omega) (growslice_fits (by omega) (by rw[KT];exact EI));rw[hr]at l_;injection l_ with e1 _
   subst e1;simp only[Value.ownBlock,Option.some.injEq]at hq;exact .inr (by omega)
structure El(P:Program)(t e:TypeId)(size bytes:Nat):Prop where
 ex:∃i z,P.underlying t=some (.slice e)/\P.info? e=some i/\i.zero=some z/\i.size=size/\i.bytes=bytes/\z.cells.size=size/\0<size
def elB(P:Program)(t e:TypeId)(size bytes:Nat):Bool:=
 (match P.underlying t with|some (.slice e')=>Nat.beq e' e|_=>false)&&(match P.info? e with|some i=>Nat.beq i.size size&&Nat.beq i.bytes bytes&&(match i.zero with|some z=>Nat.beq z.cells.size size|none=>false)|none=>false)&&Nat.blt 0 size
theorem El.of{t e:TypeId}{size bytes:Nat}(h:elB P t e size bytes=true):El P t e size bytes:=by
  unfold elB at h;simp only[Bool.and_eq_true]at h;obtain⟨⟨h1,h2⟩,h3⟩:=h
  cases e1:P.underlying t with
  |none=>rw[e1]at h1;cases h1
  | some d=>
    rw[e1]at h1
    cases d<;>try (cases h1;done)
    rename_i e'
    obtain rfl:=Nat.eq_of_beq_eq_true h1
    cases e2:P.info? e' with
    |none=>rw[e2]at h2;cases h2
    | some i=>
      rw[e2]at h2;simp only[Bool.and_eq_true]at h2;obtain⟨⟨h4,h5⟩,h6⟩:=h2
      cases e3:i.zero with
      |none=>rw[e3]at h6;cases h6
      | some z=>
        rw[e3]at h6;exact⟨i,z,e1,e2,e3,Nat.eq_of_beq_eq_true h4,Nat.eq_of_beq_eq_true h5,Nat.eq_of_beq_eq_true h6,Nat.le_of_ble_eq_true h3⟩
theorem Iz{t e:TypeId}{s x:Operand}{i size bytes m k c:Nat}{v:Value}{xs ys:List Value}{a:Addr}(pE:El P t e size bytes)(hi:L[i]?=some (aI e size v m xs))(hs:ev fr s=some v)(hx:ev fr x=some (.slice (some a) k c))
 (hy:∀j u,ys[j]?=some u->At W L (a.add j) u) (hl:ys.length=k*size) (h1:∀u∈ys,u.oneCell'=true) (pF:m+k<=140737488355328) (hb:(m+k)*bytes<=140737488355328) (hn:Nat.blt d n=true)
 (h:∀v',TL P n W ops Q rest ((d,v')::fr) (L.set i (aI e size v' (m+k) (xs++ys)))):
 TL P n W ops Q (⟨some d,.call {callee:= .builtin .append,args:=#[s,x],argTypes:=#[t,t]},ty,pos,after,none⟩::rest) fr L:=ia rfl fun act w hr hm K hK=>by
 obtain⟨inf,z,ht,Cb,hz,mg,KT,Q2,hsz⟩:=pE.ex;obtain⟨v',w',hrun,h2,h3,h4⟩:=nB (ty:=ty) (c:=c) ht Cb hz mg KT Q2 hsz w (hm.get hi:w.ownsRow 0 e size v m xs) hl (fun j u hj=>hy j u hj w hm) h1 (by unfold maxLen;omega) hb;have e':(execOp act.eval ⟨some d,.call {callee:= .builtin .append,args:=#[s,x],argTypes:=#[t,t]},ty,pos,after,none⟩).run P w= .ok (.value v') w':=by
  simp only[BigFrame.execOp_builtin,BigFrame.builtin_append,List.map_toArray,List.map_cons,List.map_nil,hr.ev hs,hr.ev hx,Sem.run_bind,hrun,Result.andThen_ok,Sem.run_pure]
 unfold Oper.wp;rw[e'];exact hK _ _ ((h v').go _ _ (hr.put hn _) (hm.ua hi h3 h2 h4))
theorem Aw{t e:TypeId}{s x:Operand}{i size bytes m k c:Nat}{v:Value}{xs ys:List Value}{p:Addr}{act:Act}{w:World}(pE:El P t e size bytes)(hi:L[i]?=some (aI e size v m xs))(hs:ev fr s=some v)(hx:ev fr x=some (.slice (some p) k c))
 (hy:∀j u,ys[j]?=some u->w.cell? (p.add j)=some u) (hl:ys.length=k*size) (h1:∀u∈ys,u.oneCell'=true) (pF:m+k<=140737488355328) (hb:(m+k)*bytes<=140737488355328) (hn:Nat.blt d n=true)
 (h:∀v',TL P n W ops Q rest ((d,v')::fr) (L.set i (aI e size v' (m+k) (xs++ys)))) (hr:jC n act fr) (hm:Mem W L w):
 wpList P ops Q (⟨some d,.call {callee:= .builtin .append,args:=#[s,x],argTypes:=#[t,t]},ty,pos,after,none⟩::rest) act w:=by
 refine wpList_plain rfl fun K hK=>?_;obtain⟨inf,z,ht,Cb,hz,mg,KT,Q2,hsz⟩:=pE.ex;obtain⟨v',w',hrun,h2,h3,h4⟩:=nB (ty:=ty) (c:=c) ht Cb hz mg KT Q2 hsz w (hm.get hi:w.ownsRow 0 e size v m xs) hl hy h1 (by unfold maxLen;omega) hb;have e':(execOp act.eval ⟨some d,.call {callee:= .builtin .append,args:=#[s,x],argTypes:=#[t,t]},ty,pos,after,none⟩).run P w= .ok (.value v') w':=by
  simp only[BigFrame.execOp_builtin,BigFrame.builtin_append,List.map_toArray,List.map_cons,List.map_nil,hr.ev hs,hr.ev hx,Sem.run_bind,hrun,Result.andThen_ok,Sem.run_pure]
 unfold Oper.wp;rw[e'];exact hK _ _ ((h v').go _ _ (hr.put hn _) (hm.ua hi h3 h2 h4))
theorem EJ{t e:TypeId}{s x:Operand}{i size bytes m c:Nat}{v:Value}{xs:List Value}(pE:El P t e size bytes)(hi:L[i]?=some (aI e size v m xs))(hs:ev fr s=some v)(hx:ev fr x=some (.slice none 0 c))(hn:Nat.blt d n=true)
 (h:TL P n W ops Q rest ((d,v)::fr) L):
 TL P n W ops Q (⟨some d,.call {callee:= .builtin .append,args:=#[s,x],argTypes:=#[t,t]},ty,pos,after,none⟩::rest) fr L:=ia rfl fun act w hr hm K hK=>by
 obtain⟨inf,z,ht,Cb,hz,mg,KT,Q2,hsz⟩:=pE.ex;have pD:w.ownsRow 0 e size v m xs:=hm.get hi;have e':(execOp act.eval ⟨some d,.call {callee:= .builtin .append,args:=#[s,x],argTypes:=#[t,t]},ty,pos,after,none⟩).run P w= .ok (.value v) w:=by
  rcases pD.2 with⟨rfl,rfl⟩|⟨g,cap,kp,rfl,xX,hg,Sr,U2,hcs,Ca⟩
  ·simp[BigFrame.execOp_builtin,BigFrame.builtin_append,hr.ev hs,hr.ev hx,Builtin.append_,run_underlying ht,sizeOf,typeInfo,Cb,Builtin.lenOf,Builtin.firstCells]
  ·simp[BigFrame.execOp_builtin,BigFrame.builtin_append,hr.ev hs,hr.ev hx,Builtin.append_,run_underlying ht,sizeOf,typeInfo,Cb,Builtin.lenOf,Builtin.firstCells,loadCells,Sr,storeCells]
 unfold Oper.wp;rw[e'];exact hK _ _ (h.go _ _ (hr.put hn _) hm)
theorem qY{t:TypeId}{p x:Operand}{i g off c:Nat}{cs cs':Array Value}{T:TypeId}{agg:Bool}{v:Value}(hT:Ty P t agg c)(hi:L[i]?=some (ap g cs T))(hp:ev fr p=some (.pointer (some ⟨g,off,none⟩)))(hx:ev fr x=some v)(hv:v.cells.size=c)(h1:v.cells.toList.all Value.oneCell'=true)
 (Iy:off+c<=cs.size) (hcs:cs'=(cs.toList.take off++v.cells.toList++cs.toList.drop (off+c)).toArray) (h:TL P n W ops Q rest fr (L.set i (ap g cs' T))):
 TL P n W ops Q (⟨none,.store t p x,ty,pos,after,none⟩::rest) fr L:=ia rfl fun act w hr hm K hK=>by
 have hg:w.heap[g]?=some (.cells cs T (0,0)):=hm.get hi;have hst:=run_storeCells_at P g off T v.cells.toList 0 cs w hg (by simp[hv];omega) (List.all_eq_true.1 h1);simp only[Nat.add_zero,Array.length_toList,hv]at hst;rw[<-hcs]at hst;have e':(execOp act.eval ⟨none,.store t p x,ty,pos,after,none⟩).run P w= .ok .skip (w.setRow g cs'):=by
  simp[execOp,hr.ev hp,hr.ev hx,Instr.storeAt,Instr.sureAddr,storeVar,hT.size,hv,hst]
 unfold Oper.wp;rw[e'];exact hK _ _ (h.go _ _ (hr.mc undef) (hm.ua hi ⟨rfl,rfl,rfl,by simp,fun k _ hk=>setRow_other w g k _ (fun e=>hk (by subst e;rfl))⟩ (setRow_heap w g cs _ T _ hg) fun k hk=> .inl hk))
theorem gG{t:TypeId}{p x:Operand}{i g off c size cap m k:Nat}{xs:List Value}{e:TypeId}{v:Value}(hT:Ty P t false c)(hi:L[i]?=some (aI e size (.slice (some ⟨g,0,none⟩) m cap) k xs))(hp:ev fr p=some (.pointer (some ⟨g,off,none⟩)))(hx:ev fr x=some v)(hv:v.cells=#[v])(hc:c=1)(h1:v.oneCell'=true)
 (Iy:off<xs.length) (h:TL P n W ops Q rest fr (L.set i (aI e size (.slice (some ⟨g,0,none⟩) m cap) k (xs.set off v)))):
 TL P n W ops Q (⟨none,.store t p x,ty,pos,after,none⟩::rest) fr L:=ia rfl fun act w hr hm K hK=>by
 subst hc;have pD:w.ownsRow 0 e size (.slice (some ⟨g,0,none⟩) m cap) k xs:=hm.get hi;have U3:=pD;rcases pD.2 with⟨h0,_⟩|⟨g',Ew,kp,he,xX,hg,Sr,U2,hcs,Ca⟩
 ·cases h0
 simp only[Value.slice.injEq,Option.some.injEq,Addr.mk.injEq,and_true]at he;obtain⟨rfl,rfl,rfl⟩:=he;have hlen:xs.length=m*size:=pD.1;have Ss:off<kp.size:=by rw[hcs];exact Nat.lt_of_lt_of_le (by omega) (Nat.mul_le_mul_right size Sr)
 have hst:=run_storeCells_at P g off e [v] 0 kp w hg (by simp;omega) (by simpa using h1);simp only[Nat.add_zero,List.length_singleton]at hst;have pG:kp.toList.take off++[v]++kp.toList.drop (off+1)=kp.toList.set off v:=by
  rw[List.set_eq_take_append_cons_drop,if_pos (by simpa using Ss)];simp
 rw[pG]at hst;have e':(execOp act.eval ⟨none,.store t p x,ty,pos,after,none⟩).run P w= .ok .skip (w.setRow g (kp.toList.set off v).toArray):=by
  simp[execOp,hr.ev hp,hr.ev hx,Instr.storeAt,Instr.sureAddr,storeVar,hT.size,hv,hst]
 unfold Oper.wp;rw[e'];refine hK _ _ (h.go _ _ (hr.mc undef) (hm.ua hi ⟨rfl,rfl,rfl,by simp,fun k _ hk=>setRow_other w g k _ (fun e=>hk (by subst e;rfl))⟩ ?_ fun k hk=> .inl hk));refine⟨by rw[List.length_set];exact pD.1,.inr ⟨g,cap,_,rfl,xX,setRow_heap w g kp _ e _ hg,Sr,U2,by simp[hcs],?_⟩⟩;simp only[List.take_set];rw[Ca]
theorem IA{t u e:TypeId}{x:Operand}{m:Nat}{v:Value}{l:List UInt8}(ht:P.underlying t=some (.slice e))(he:P.underlying e=some (.int .u8))(hu:P.underlying u=some .string)(hx:ev fr x=some v)(hm:m=l.length)(h:Oz W L v m (l.map KA)):RR P n W ⟨dst,.convert t u x,ty,pos,after,guard⟩ fr L (str l):= .mk fun a w hr pH=>by
 subst hm;have EF:=hr.ev hx;obtain⟨base,cap,rfl,_,_,eV⟩:=h w pH;have e':(convert t u (.slice base l.length cap)).run P w= .ok (str l) w:=by
  cases l with
  |nil=>
   cases base with
   |none=>simp[convert,run_underlying ht,run_underlying hu,run_underlying he,Conv.bytesToString,str];rfl
   |some p=>simp[convert,run_underlying ht,run_underlying hu,run_underlying he,Conv.bytesToString,str,loadCells,loadCellsFrom];rfl
  |cons b l=>
   obtain⟨g,off,rfl,hh⟩:=eV (by simp);exact B1 ht he hu rfl hh
 simp only[execOp,EF,Sem.run_bind,e',Result.andThen_ok,Sem.run_pure]
end
def Enters(P:Program)(f:FuncId):Prop:=∀args w,(callFunc f args).run P w= .ok (.enter f args) w
def G4(P:Program)(f:FuncId):Bool:=match P.funcs[f]? with|some fn=>fn.body.isSome&&!(fn.name== "runtime.NumGoroutine")|none=>false
theorem Enters.of{f:FuncId}(h:G4 P f=true):Enters P f:=by
 unfold G4 at h
 cases e:P.funcs[f]? with
 |none=>rw[e]at h;cases h
 |some fn=>
  rw[e]at h;simp only[Bool.and_eq_true,Bool.not_eq_true']at h;intro args w;have h1:¬fn.body=none:=fun hb=>by rw[hb]at h;simp at h
  have h2:¬fn.name= "runtime.NumGoroutine" :=by simpa using h.2
  simp[callFunc,e,h2,h1]
section
variable{f:FuncId}{ts:Array TypeId}{cl x1 x2 x3 x4 x5:Operand}{v1 v2 v3 v4 v5:Value}{first cap:Array Value}
theorem he0(hf:Enters P f)(hc:ev fr cl=some (.func (.func f) #[] #[])):∀a w,jC n a fr->(execOp a.eval ⟨dst,.call {callee:= .value cl,args:=#[],argTypes:=ts},ty,pos,after,guard⟩).run P w= .ok (.enter f #[]) w:=fun a w hr=>by
 have uo:∀args w,(callFunc f args).run P w= .ok (.enter f args) w:=hf;simp[execOp,resolve,hr.ev hc,Deferred.ofValue,invoke,uo]
theorem iT(hf:Enters P f)(hc:ev fr cl=some (.func (.func f) #[] #[]))(h1:ev fr x1=some v1):∀a w,jC n a fr->(execOp a.eval ⟨dst,.call {callee:= .value cl,args:=#[x1],argTypes:=ts},ty,pos,after,guard⟩).run P w= .ok (.enter f #[v1]) w:=fun a w hr=>by
 have uo:∀args w,(callFunc f args).run P w= .ok (.enter f args) w:=hf;simp[execOp,resolve,hr.ev hc,hr.ev h1,Deferred.ofValue,invoke,uo]
theorem fh(hf:Enters P f)(hc:ev fr cl=some (.func (.func f) #[] #[]))(h1:ev fr x1=some v1)(h2:ev fr x2=some v2):∀a w,jC n a fr->(execOp a.eval ⟨dst,.call {callee:= .value cl,args:=#[x1,x2],argTypes:=ts},ty,pos,after,guard⟩).run P w= .ok (.enter f #[v1,v2]) w:=fun a w hr=>by
 have uo:∀args w,(callFunc f args).run P w= .ok (.enter f args) w:=hf;simp[execOp,resolve,hr.ev hc,hr.ev h1,hr.ev h2,Deferred.ofValue,invoke,uo]
theorem yG(hf:Enters P f)(hc:ev fr cl=some (.func (.func f) #[] #[]))(h1:ev fr x1=some v1)(h2:ev fr x2=some v2)(h3:ev fr x3=some v3):∀a w,jC n a fr->(execOp a.eval ⟨dst,.call {callee:= .value cl,args:=#[x1,x2,x3],argTypes:=ts},ty,pos,after,guard⟩).run P w= .ok (.enter f #[v1,v2,v3]) w:=fun a w hr=>by
 have uo:∀args w,(callFunc f args).run P w= .ok (.enter f args) w:=hf;simp[execOp,resolve,hr.ev hc,hr.ev h1,hr.ev h2,hr.ev h3,Deferred.ofValue,invoke,uo]
theorem X8(hf:Enters P f)(hc:ev fr cl=some (.func (.func f) #[] #[]))(h1:ev fr x1=some v1)(h2:ev fr x2=some v2)(h3:ev fr x3=some v3)(h4:ev fr x4=some v4):∀a w,jC n a fr->(execOp a.eval ⟨dst,.call {callee:= .value cl,args:=#[x1,x2,x3,x4],argTypes:=ts},ty,pos,after,guard⟩).run P w= .ok (.enter f #[v1,v2,v3,v4]) w:=fun a w hr=>by
 have uo:∀args w,(callFunc f args).run P w= .ok (.enter f args) w:=hf;simp[execOp,resolve,hr.ev hc,hr.ev h1,hr.ev h2,hr.ev h3,hr.ev h4,Deferred.ofValue,invoke,uo]
theorem IB(hf:Enters P f)(hc:ev fr cl=some (.func (.func f) first cap))(h1:ev fr x1=some v1):∀a w,jC n a fr->(execOp a.eval ⟨dst,.call {callee:= .value cl,args:=#[x1],argTypes:=ts},ty,pos,after,guard⟩).run P w= .ok (.enter f (first++#[v1]++cap)) w:=fun a w hr=>by
 have uo:∀args w,(callFunc f args).run P w= .ok (.enter f args) w:=hf;simp[execOp,resolve,hr.ev hc,hr.ev h1,Deferred.ofValue,invoke,uo]
end
end
end bH
namespace bH
open Go.RowKit bL db
class aT(P:Program)(t:TypeId)(d:outParam TypeDesc):Prop where
 eq:P.underlying t=some d
class ak(P:Program)(t:TypeId)(agg:outParam Bool)(c:outParam Nat):Prop where
 ty:Ty P t agg c:=by exact Ty.of (by kernel_rfl)
class bx(P:Program)(t:TypeId)(f:Nat)(o:outParam Nat):Prop where
 X9:Sn P t f o:=by exact Sn.of (by kernel_rfl)
class nS(P:Program)(t:TypeId)(e:outParam TypeId)(size bytes:outParam Nat):Prop where
 el:El P t e size bytes:=by exact El.of (by kernel_rfl)
class aj(P:Program)(f:FuncId):Prop where
 en:Enters P f:=by exact Enters.of (by kernel_rfl)
class aW(P:Program)(t:TypeId)(cs:outParam (Array Value)):Prop where
 zero:(P.info? t).map (fun i=>i.zero.map Value.cells)=some (some cs):=by kernel_rfl
section
variable{P:Program}{n:Nat}{W:bB}{fr:Fr}{L:List bz}{Q:Exit->Act->World->Prop}{ops:Array Oper}{rest:List Oper}{d:Nat}{ty:TypeId}{pos:String}{after:Array Edge}
theorem aW.ex{t:TypeId}{cs:Array Value}[h:aW P t cs]:∃i z,P.info? t=some i/\i.zero=some z/\z.cells=cs:=by
 have h1:=h.zero
 cases e:P.info? t with
 |none=>rw[e]at h1;simp at h1
 |some i=>
  rw[e]at h1
  cases e2:i.zero with
  |none=>simp[e2]at h1
  |some z=>simp[e2]at h1;exact⟨i,z,rfl,e2,h1⟩
theorem aF{t:TypeId}{cs:Array Value}[aW P t cs](hn:Nat.blt d n=true)(h:∀g,TL P n W ops Q rest ((d,.pointer (some ⟨g,0,none⟩))::fr) (L++[ap g cs t])):
 TL P n W ops Q (⟨some d,.alloc t,ty,pos,after,none⟩::rest) fr L:=by
 obtain⟨i,z,h1,h2,h3⟩:=aW.ex (P:=P) (t:=t);exact KQ h1 h2 h3 hn h
theorem fj{t e:TypeId}{x:Operand}{v:Value}{c bytes:Nat}{cs:Array Value}[pE:nS P t e c bytes](hx:ev fr x=some v)(hcs:v.cells=cs)(hv:cs.size=c)(hs:Nat.ble c 16777216=true)(hn:Nat.blt d n=true)
 (h:∀g,TL P n W ops Q rest ((d,.slice (some ⟨g,0,none⟩) 1 1)::fr) (L++[ap g cs e])):TL P n W ops Q (⟨some d,.buildSlice t 1 #[(0,x)],ty,pos,after,none⟩::rest) fr L:=by
 obtain⟨inf,z,ht,Cb,hz,mg,KT,Q2,hsz⟩:=pE.el.ex;exact OA ht Cb hz mg Q2 hx hcs hv hsz (Nat.le_of_ble_eq_true hs) hn h
theorem Mem.EK{w:World}(e:TypeId)(size:Nat)(h:Mem W L w):Mem W (L++[aI e size (.slice none 0 0) 0 []]) w:=
 h.append (Gr.refl w) (nQ.one (World.ownsRow_nil _ _ _ _) fun k hk=>by cases hk)
theorem h_{c:Code}(e:TypeId)(size:Nat)(h:T P n W c Q fr (L++[aI e size (.slice none 0 0) 0 []])):T P n W c Q fr L:=⟨fun a w hr hm=>h.go a w hr (hm.EK e size)⟩
theorem yH(e:TypeId)(size:Nat)(h:TL P n W ops Q rest fr (L++[aI e size (.slice none 0 0) 0 []])):TL P n W ops Q rest fr L:=⟨fun a w hr hm=>h.go a w hr (hm.EK e size)⟩
theorem OB{L':List bz}(is:List Nat)(hn:is.Nodup)(hl:L'=is.filterMap fun i=>L[i]?)(h:TL P n W ops Q rest fr L'):TL P n W ops Q rest fr L:=⟨fun a w hr hm=>h.go a w hr (hm.pick is hn hl)⟩
theorem mI{t e:TypeId}{s x:Operand}{i q g size bytes m:Nat}{v:Value}{xs:List Value}{cs:Array Value}{T:TypeId}[pE:nS P t e size bytes](hi:L[i]?=some (aI e size v m xs))(hq:L[q]?=some (ap g cs T))(hs:ev fr s=some v)(hx:ev fr x=some (.slice (some ⟨g,0,none⟩) 1 1))
 (hl:cs.size=size) (h1:cs.toList.all Value.oneCell'=true) (pF:m+1<=140737488355328) (hb:(m+1)*bytes<=140737488355328) (hn:Nat.blt d n=true)
 (h:∀v',TL P n W ops Q rest ((d,v')::fr) (L.set i (aI e size v' (m+1) (xs++cs.toList)))):
 TL P n W ops Q (⟨some d,.call {callee:= .builtin .append,args:=#[s,x],argTypes:=#[t,t]},ty,pos,after,none⟩::rest) fr L:=
 Iz pE.el hi hs hx (fun j u hj=>by rw[bL.ez,Nat.zero_add];exact ah hq (by simpa using hj)) (by simpa using hl) (List.all_eq_true.1 h1) pF hb hn h
theorem kC{t e:TypeId}{s x:Operand}{i q g bytes m:Nat}{v u:Value}{xs:List Value}{cs:Array Value}{T:TypeId}[pE:nS P t e 1 bytes](hi:L[i]?=some (aI e 1 v m xs))(hq:L[q]?=some (ap g cs T))(hs:ev fr s=some v)(hx:ev fr x=some (.slice (some ⟨g,0,none⟩) 1 1))
 (hu:cs=#[u]) (h1:u.oneCell'=true) (pF:m+1<=140737488355328) (hb:(m+1)*bytes<=140737488355328) (hn:Nat.blt d n=true)
 (h:∀v',TL P n W ops Q rest ((d,v')::fr) (L.set i (aI e 1 v' (m+1) (xs++[u])))):
 TL P n W ops Q (⟨some d,.call {callee:= .builtin .append,args:=#[s,x],argTypes:=#[t,t]},ty,pos,after,none⟩::rest) fr L:=by
 subst hu;exact mI hi hq hs hx rfl (by simp[h1]) pF hb hn h
theorem dL.front{p:Nat->Prop}{w:World}{L L':List bz}(h:dL p w (L++L')):dL p w L:=
  ⟨fun i o hi=>h.all i o (by rw[List.getElem?_append_left (List.getElem?_eq_some_iff.1 hi).1];exact hi),
   fun i j o o' k_ hi hj=>h.apart i j o o' k_ (by rw[List.getElem?_append_left (List.getElem?_eq_some_iff.1 hi).1];exact hi) (by rw[List.getElem?_append_left (List.getElem?_eq_some_iff.1 hj).1];exact hj)⟩
theorem Mem.front{w:World}{L L':List bz}(h:Mem W (L++L') w):Mem W L w:=⟨h.low,h.owns.front⟩
theorem Cc{L':List bz}(h:TL P n W ops Q rest fr L):TL P n W ops Q rest fr (L++L'):=⟨fun a w hr hm=>h.go a w hr hm.front⟩
theorem ik{t e:TypeId}{s x:Operand}{i bytes m d':Nat}{v u:Value}{xs:List Value}{X_:TypeId}{pos':String}{EL:Array Edge}[pE:nS P t e 1 bytes](hi:L[i]?=some (aI e 1 v m xs))(hx:ev fr x=some u)(hu:u.cells=#[u])(h1:u.oneCell'=true)(Uk:Nat.blt d' n=true)
 (hs:ev ((d',undef)::fr) s=some v) (hne:∀z,s= .tmp z->Nat.beq d' z=false) (pF:m+1<=140737488355328) (hb:(m+1)*bytes<=140737488355328) (hn:Nat.blt d n=true)
 (h:∀z v',TL P n W ops Q rest ((d,v')::(d',z)::fr) (L.set i (aI e 1 v' (m+1) (xs++[u])))):
 TL P n W ops Q (⟨some d',.buildSlice t 1 #[(0,x)],X_,pos',EL,none⟩::⟨some d,.call {callee:= .builtin .append,args:=#[s,.tmp d'],argTypes:=#[t,t]},ty,pos,after,none⟩::rest) fr L:=by
 have OC:i<L.length:=(List.getElem?_eq_some_iff.1 hi).1;have sx:∀z,ev ((d',z)::fr) s=some v:=fun z=>by
  cases s with
  |tmp q=>have e:=hne q rfl;simp only[ev,look,e,cond_false]at hs⊢;exact hs
  |const q=>exact hs
  |global q=>exact hs
  |func q=>exact hs
 refine fj hx hu rfl rfl Uk fun g=>?_;refine mI (i:=i) (q:=L.length) (by rw[List.getElem?_append_left OC];exact hi) (List.getElem?_concat_length) (sx _) (by simp[ev,look]) rfl (by simp[h1]) pF hb hn fun v'=>?_;rw[List.set_append_left _ _ OC];exact Cc (h _ v')
theorem jK{t e:TypeId}{s x:Operand}{i c bytes m d':Nat}{v:Value}{cs:Array Value}{xs:List Value}{X_:TypeId}{pos':String}{EL:Array Edge}[pE:nS P t e c bytes](hi:L[i]?=some (aI e c v m xs))(hx:ev fr x=some (.agg cs))(hc:cs.size=c)(OD:Nat.ble c 16777216=true)(h1:cs.toList.all Value.oneCell'=true)(Uk:Nat.blt d' n=true)
 (hs:ev ((d',undef)::fr) s=some v) (hne:∀z,s= .tmp z->Nat.beq d' z=false) (pF:m+1<=140737488355328) (hb:(m+1)*bytes<=140737488355328) (hn:Nat.blt d n=true)
 (h:∀z v',TL P n W ops Q rest ((d,v')::(d',z)::fr) (L.set i (aI e c v' (m+1) (xs++cs.toList)))):
 TL P n W ops Q (⟨some d',.buildSlice t 1 #[(0,x)],X_,pos',EL,none⟩::⟨some d,.call {callee:= .builtin .append,args:=#[s,.tmp d'],argTypes:=#[t,t]},ty,pos,after,none⟩::rest) fr L:=by
 have OC:i<L.length:=(List.getElem?_eq_some_iff.1 hi).1;have sx:∀z,ev ((d',z)::fr) s=some v:=fun z=>by
  cases s with
  |tmp q=>have e:=hne q rfl;simp only[ev,look,e,cond_false]at hs⊢;exact hs
  |const q=>exact hs
  |global q=>exact hs
  |func q=>exact hs
 refine fj hx rfl hc OD Uk fun g=>?_;refine mI (i:=i) (q:=L.length) (by rw[List.getElem?_append_left OC];exact hi) (List.getElem?_concat_length) (sx _) (by simp[ev,look]) hc h1 pF hb hn fun v'=>?_;rw[List.set_append_left _ _ OC];exact Cc (h _ v')
theorem de{e':Exit}(e:TypeId)(size:Nat)(h:E n W e' Q fr (L++[aI e size (.slice none 0 0) 0 []])):E n W e' Q fr L:=⟨fun a w hr hm=>h.go a w hr (hm.EK e size)⟩
def bW(e:TypeId)(size m:Nat)(xs:List Value)(f:Value->Value):Spec Value:=⟨fun _=>True,f,fun v=>[aI e size v m xs]⟩
end
def KU(fr:Fr):Op->Option Value
  | .move x=>ev fr x
  | .assign x=>ev fr x
  | .extract t i=>match ev fr t with
    |some (.tuple vs)=>vs[i]?
    |_=>none
  | .pick c x y=>match ev fr c with
    |some (.bool true)=>ev fr x
    |some (.bool false)=>ev fr y
    |_=>none
  | .unOp .not _ x=>match ev fr x with
    |some (.bool true)=>some (.bool false)
    |some (.bool false)=>some (.bool true)
    |_=>none
  |_=>none
section
variable{P:Program}{n:Nat}{W:bB}{fr:Fr}{L:List bz}{dst:Option Tmp}{ty:TypeId}{pos:String}{after:Array Edge}{guard:Option (Nat×Bool)}
theorem qp{op:Op}{v:Value}(h:KU fr op=some v):RR P n W ⟨dst,op,ty,pos,after,guard⟩ fr L v:=by
 unfold KU at h;split at h
 ·exact pe h
 ·exact Iu h
 ·split at h
  ·rename_i e;exact EC e h
  ·cases h
 ·split at h
  ·rename_i e;exact KJ e h
  ·rename_i e;exact KM e h
  ·cases h
 ·split at h
  ·rename_i e
   simp only[Option.some.injEq]at h;subst h;exact Av e rfl
  ·rename_i e
   simp only[Option.some.injEq]at h;subst h;exact Av e rfl
  ·cases h
 ·cases h
end
section
variable{P:Program}{n:Nat}{W:bB}{fr:Fr}{L:List bz}{Q:Exit->Act->World->Prop}{ops:Array Oper}{rest:List Oper}{d:Nat}{o:Oper}{v:Value}
theorem qg{q e:Nat}{b:Bool}(hg:o.guard=some (q,b))(hj:(ops[q]?).bind (·.dst)=some e)(hl:look fr e=some (.bool b))(h:TL P n W ops Q ({o with guard:=none}::rest) fr L):TL P n W ops Q (o::rest) fr L:=As hg hj hl h
theorem qs{j e:Nat}{b:Bool}{u:Value}(hg:o.guard=some (j,b))(hj:(ops[j]?).bind (·.dst)=some e)(hl:look fr e=some u)(hu:Ot b u=true)(hd:o.dst=some d)(hn:Nat.blt d n=true)(h:TL P n W ops Q rest ((d,undef)::fr) L):TL P n W ops Q (o::rest) fr L:=Ou hg hj hl hu hd hn h
theorem X'{c:Operand}{x y:Code}(hc:ev fr c=some (.bool true))(h:T P n W x Q fr L):T P n W (.cond c x y) Q fr L:=GZ hc h
theorem Ya{c:Operand}{x y:Code}(hc:ev fr c=some (.bool false))(h:T P n W y Q fr L):T P n W (.cond c x y) Q fr L:=G0 hc h
variable{dst:Option Tmp}{ty:TypeId}{pos:String}{after:Array Edge}{guard:Option (Nat×Bool)}
theorem U4{t e:TypeId}{x:Operand}{p:Option Addr}{m cap:Nat}(ht:P.underlying t=some (.slice e))(hx:ev fr x=some (.slice p m cap)):RR P n W ⟨dst,.call {callee:= .builtin .len,args:=#[x],argTypes:=#[t]},ty,pos,after,guard⟩ fr L (.int .i64 m):=EG ht hx
theorem U5{s:TypeId}{x:Operand}{f o b off r:Nat}(hf:Sn P s f o)(hx:ev fr x=some (.pointer (some ⟨b,off,none⟩)))(hr:off+o=r):RR P n W ⟨dst,.fieldAddr s x f,ty,pos,after,guard⟩ fr L (.pointer (some ⟨b,r,none⟩)):=B_ hf hx hr
end
section
variable{P:Program}{n:Nat}{W:bB}{fr:Fr}{L:List bz}{Q:Exit->Act->World->Prop}{ops:Array Oper}{rest:List Oper}{d:Nat}{o:Oper}{v:Value}{dst:Option Tmp}{ty:TypeId}{pos:String}{after:Array Edge}{guard:Option (Nat×Bool)}{t u:TypeId}{x y:Operand}{k:IntKind}{m m':Int}
theorem QV(hr:RR P n W o fr L v)(h:TL P n W ops Q rest ((d,v)::fr) L)(hg:o.guard=none:=by exact rfl)(hd:o.dst=some d:=by exact rfl)(hn:Nat.blt d n=true:=by exact rfl):TL P n W ops Q (o::rest) fr L:=cI hr hg hd hn h
theorem QP{op:Op}(h:KU fr op=some v:=by exact rfl):RR P n W ⟨dst,op,ty,pos,after,guard⟩ fr L v:=qp h
theorem QS{l:List UInt8}(hx:ev fr x=some (str l):=by exact rfl)(ht:P.underlying t=some .string:=by exact aT.eq):RR P n W ⟨dst,.call {callee:= .builtin .len,args:=#[x],argTypes:=#[t]},ty,pos,after,guard⟩ fr L (.int .i64 l.length):=Iw ht hx
theorem QL{e:TypeId}{p:Option Addr}{m cap:Nat}(hx:ev fr x=some (.slice p m cap):=by exact rfl)(ht:P.underlying t=some (.slice e):=by exact aT.eq):RR P n W ⟨dst,.call {callee:= .builtin .len,args:=#[x],argTypes:=#[t]},ty,pos,after,guard⟩ fr L (.int .i64 m):=U4 ht hx
theorem QA{s:TypeId}{f o b off r:Nat}(hx:ev fr x=some (.pointer (some ⟨b,off,none⟩)):=by exact rfl)(hf:Sn P s f o:=by exact bx.X9)(hr:off+o=r:=by exact rfl):RR P n W ⟨dst,.fieldAddr s x f,ty,pos,after,guard⟩ fr L (.pointer (some ⟨b,r,none⟩)):=B_ hf hx hr
theorem Xi(hx:ev fr x=some (.int k m):=by exact rfl)(hy:ev fr y=some (.int k m'):=by exact rfl)(h:m<m':=by omega):RR P n W ⟨dst,.binOp .lss t x y u,ty,pos,after,guard⟩ fr L (.bool true):=fG hx hy (decide_eq_true h)
theorem Xj(hx:ev fr x=some (.int k m):=by exact rfl)(hy:ev fr y=some (.int k m'):=by exact rfl)(h:¬(m<m'):=by omega):RR P n W ⟨dst,.binOp .lss t x y u,ty,pos,after,guard⟩ fr L (.bool false):=fG hx hy (decide_eq_false h)
theorem QmT(hx:ev fr x=some (.int k m):=by exact rfl)(hy:ev fr y=some (.int k m'):=by exact rfl)(h:m<=m':=by omega):RR P n W ⟨dst,.binOp .leq t x y u,ty,pos,after,guard⟩ fr L (.bool true):=ED hx hy (decide_eq_true h)
theorem QmF(hx:ev fr x=some (.int k m):=by exact rfl)(hy:ev fr y=some (.int k m'):=by exact rfl)(h:¬(m<=m'):=by omega):RR P n W ⟨dst,.binOp .leq t x y u,ty,pos,after,guard⟩ fr L (.bool false):=ED hx hy (decide_eq_false h)
theorem QgT(hx:ev fr x=some (.int k m):=by exact rfl)(hy:ev fr y=some (.int k m'):=by exact rfl)(h:m'<m:=by omega):RR P n W ⟨dst,.binOp .gtr t x y u,ty,pos,after,guard⟩ fr L (.bool true):=eo hx hy (decide_eq_true h)
theorem QgF(hx:ev fr x=some (.int k m):=by exact rfl)(hy:ev fr y=some (.int k m'):=by exact rfl)(h:¬(m'<m):=by omega):RR P n W ⟨dst,.binOp .gtr t x y u,ty,pos,after,guard⟩ fr L (.bool false):=eo hx hy (decide_eq_false h)
theorem Yb(hx:ev fr x=some (.int k m):=by exact rfl)(hy:ev fr y=some (.int k m'):=by exact rfl)(h:m'<=m:=by omega):RR P n W ⟨dst,.binOp .geq t x y u,ty,pos,after,guard⟩ fr L (.bool true):=fH hx hy (decide_eq_true h)
theorem Yc(hx:ev fr x=some (.int k m):=by exact rfl)(hy:ev fr y=some (.int k m'):=by exact rfl)(h:¬(m'<=m):=by omega):RR P n W ⟨dst,.binOp .geq t x y u,ty,pos,after,guard⟩ fr L (.bool false):=fH hx hy (decide_eq_false h)
theorem Xk(hx:ev fr x=some (.int k m):=by exact rfl)(hy:ev fr y=some (.int k m'):=by exact rfl)(h:m=m':=by omega):RR P n W ⟨dst,.binOp .eql t x y u,ty,pos,after,guard⟩ fr L (.bool true):=cJ hx hy (decide_eq_true h)
theorem Xl(hx:ev fr x=some (.int k m):=by exact rfl)(hy:ev fr y=some (.int k m'):=by exact rfl)(h:¬(m=m'):=by omega):RR P n W ⟨dst,.binOp .eql t x y u,ty,pos,after,guard⟩ fr L (.bool false):=cJ hx hy (decide_eq_false h)
theorem QnT(hx:ev fr x=some (.int k m):=by exact rfl)(hy:ev fr y=some (.int k m'):=by exact rfl)(h:m≠m':=by omega):RR P n W ⟨dst,.binOp .neq t x y u,ty,pos,after,guard⟩ fr L (.bool true):=cB hx hy (decide_eq_true h)
theorem QnF(hx:ev fr x=some (.int k m):=by exact rfl)(hy:ev fr y=some (.int k m'):=by exact rfl)(h:¬(m≠m'):=by omega):RR P n W ⟨dst,.binOp .neq t x y u,ty,pos,after,guard⟩ fr L (.bool false):=cB hx hy (decide_eq_false h)
theorem Yd{r:Int}(hx:ev fr x=some (.int .i64 m):=by exact rfl)(hy:ev fr y=some (.int .i64 m'):=by exact rfl)(h0: -9223372036854775808<=m+m':=by omega)(h1:m+m'<=9223372036854775807:=by omega)(hr:m+m'=r:=by exact rfl):RR P n W ⟨dst,.binOp .add t x y u,ty,pos,after,guard⟩ fr L (.int .i64 r):=eK hx hy h0 h1 hr
theorem QaS{r:Int}(hx:ev fr x=some (.int .i64 m):=by exact rfl)(hy:ev fr y=some (.int .i64 m'):=by exact rfl)(h0: -9223372036854775808<=m-m':=by omega)(h1:m-m'<=9223372036854775807:=by omega)(hr:m-m'=r:=by exact rfl):RR P n W ⟨dst,.binOp .sub t x y u,ty,pos,after,guard⟩ fr L (.int .i64 r):=ij hx hy h0 h1 hr
theorem QaM{r:Int}(hx:ev fr x=some (.int .i64 m):=by exact rfl)(hy:ev fr y=some (.int .i64 m'):=by exact rfl)(h0: -9223372036854775808<=m*m':=by omega)(h1:m*m'<=9223372036854775807:=by omega)(hr:m*m'=r:=by exact rfl):RR P n W ⟨dst,.binOp .mul t x y u,ty,pos,after,guard⟩ fr L (.int .i64 r):=B8 hx hy h0 h1 hr
end
class Cd(p:Prop)(q:outParam Prop):Prop where
 go:q->p
theorem QZ{p q:Prop}[h:Cd p q](x:q):p:=h.go x
section
variable{P:Program}{n:Nat}{W:bB}{fr:Fr}{L:List bz}{Q:Exit->Act->World->Prop}{ops:Array Oper}{x y:Code}{id:Nat}{l:List Oper}{K:Act->World->Prop}
instance:Cd (TL P n W ops Q [] fr L) (E n W .normal Q fr L):=⟨Ar⟩
instance:Cd (T P n W (x.seq y) Q fr L) (T P n W x (Exit.then (y.wp P Q) Q) fr L):=⟨bJ⟩
instance:Cd (T P n W (.region id l.toArray false) Q fr L) (TL P n W l.toArray Q l fr L):=⟨aV⟩
instance:Cd (T P n W .skip Q fr L) (E n W .normal Q fr L):=⟨R_⟩
instance:Cd (T P n W (.exit id) Q fr L) (E n W (.exit id) Q fr L):=⟨Sa⟩
instance:Cd (T P n W .ret Q fr L) (E n W .ret Q fr L):=⟨UZ⟩
instance:Cd (T P n W (.block id x) Q fr L) (T P n W x (Exit.inBlock id Q) fr L):=⟨On⟩
instance:Cd (E n W .normal (Exit.then (y.wp P Q) Q) fr L) (T P n W y Q fr L):=⟨KG⟩
instance:Cd (E n W (.exit id) (Exit.then K Q) fr L) (E n W (.exit id) Q fr L):=⟨Oo⟩
instance:Cd (E n W .ret (Exit.then K Q) fr L) (E n W .ret Q fr L):=⟨Oq⟩
instance:Cd (E n W .normal (Exit.inBlock id Q) fr L) (E n W .normal Q fr L):=⟨KH⟩
instance:Cd (E n W .ret (Exit.inBlock id Q) fr L) (E n W .ret Q fr L):=⟨KI⟩
end
section
variable{α β:Type}
theorem zA{a:α}{l m:List α}:a::l++m=a::(l++m):=rfl
theorem zB{l:List α}:[]++l=l:=rfl
theorem zC{l:List α}:l++[]=l:=List.append_nil l
theorem zD{f:α->Option β}{a:α}{l:List α}:List.filterMap f (a::l)=match f a with
 |none=>List.filterMap f l
 |some b=>b::List.filterMap f l:=List.filterMap_cons
theorem zE{f:α->Option β}:List.filterMap f []=[]:=rfl
theorem zF{a:α}{l:List α}{i:Nat}:(a::l)[i+1]?=l[i]?:=List.getElem?_cons_succ
theorem zG{a:α}{l:List α}:(a::l)[0]?=some a:=rfl
theorem zH{a b:α}{l:List α}:(a::l).set 0 b=b::l:=rfl
theorem zI{a b:α}{l:List α}{i:Nat}:(a::l).set (i+1) b=a::l.set i b:=rfl
end
end bH
namespace bH
open Go.RowKit bL db
section
variable{P:Program}{n:Nat}{W:bB}{fr:Fr}{L:List bz}{Q:Exit->Act->World->Prop}{ops:Array Oper}{rest:List Oper}{d:Nat}{dst:Option Tmp}{ty:TypeId}{pos:String}{after:Array Edge}{guard:Option (Nat×Bool)}
def mJ(fr:Fr):List (Nat×Operand)->Option (List (Nat×Value))
 |[]=>some []
 |(i,x)::r=>match ev fr x,mJ fr r with|some v,some l=>some ((i,v)::l)|_,_=>none
theorem mK{a:Act}(hr:jC n a fr):∀(l:List (Nat×Operand)) (vs:List (Nat×Value)),mJ fr l=some vs->l.map (fun(i,x)=>(i,a.eval x))=vs
 |[],vs,h=>by simp only[mJ,Option.some.injEq]at h;subst h;rfl
 | (i,x)::r,vs,h=>by
  simp only[mJ]at h;split at h
  ·rename_i v l h1 h2
   simp only[Option.some.injEq]at h;subst h;simp[hr.ev h1,mK hr r l h2]
  ·cases h
theorem aU{t:TypeId}{parts:Array (Nat×Operand)}{ps:List (Nat×Value)}{cs:Array Value}(hp:mJ fr parts.toList=some ps)(hrun:∀w,(Instr.build t ps.toArray).run P w= .ok (.agg cs) w):RR P n W ⟨dst,.build t parts,ty,pos,after,guard⟩ fr L (.agg cs):= .mk fun a w hr _=>by
 have e:(parts.map fun(i,x)=>(i,a.eval x))=ps.toArray:=by
  rw[<-mK hr _ _ hp,<-Array.toList_map,Array.toArray_toList]
 simp only[execOp,Sem.run_bind];rw[e,hrun w];rfl
theorem Ce(c0:Nat->Option (Nat×Nat))(uV:∀i,c0 i=some (i,1)):∀(vs:List Value) (k:Nat) (acc:Array Value),k+vs.length<=acc.size->(∀v∈vs,v.cells=#[v])->Instr.fill c0 acc ((vs.zipIdx k).map fun(v,i)=>(i,v))=some (acc.toList.take k++vs++acc.toList.drop (k+vs.length)).toArray
  |[],k,acc,h,_=>by simp[Instr.fill]
  | v ::vs,k,acc,h,h1=>by
    simp only[List.length_cons]at h;have hv:=h1 v (by simp);rw[List.zipIdx_cons,List.map_cons];simp only[Instr.fill,uV,hv];rw[if_neg (by simp;omega)];have e:((#[v]:Array Value).zipIdx.foldl (fun cs (x:Value×Nat)=>cs.setIfInBounds (k+x.2) x.1) acc)=acc.setIfInBounds k v:=by simp
    rw[e,Ce c0 uV vs (k+1) _ (by simp;omega) (fun u hu=>h1 u (by simp[hu]))]
    congr 2
    have hA:(acc.toList.take k).length=k:=by simp;omega
    have Q3:(acc.toList.take k++[v]).length=k+1:=by rw[List.length_append,hA];rfl
    have e2:acc.toList.set k v=(acc.toList.take k++[v])++acc.toList.drop (k+1):=by
      rw[List.set_eq_take_append_cons_drop,if_pos (by simp;omega)];simp
    simp only[Array.toList_setIfInBounds,List.length_cons];rw[e2,List.take_left' Q3,<-List.drop_drop,List.drop_left' Q3,List.drop_drop];simp only[List.append_assoc,List.cons_append,List.nil_append];rw[show k+1+vs.length=k+(vs.length+1)by omega]
theorem KV{t e:TypeId}{bytes:Nat}(pE:El P t e 1 bytes)(vs:List Value)(h1:∀v∈vs,v.cells=#[v])(h0:0<vs.length)(hm:vs.length<=16777216)(w:World):
 (Instr.buildSlice t vs.length (vs.zipIdx.map fun(v,i)=>(i,v)).toArray).run P w= .ok (.slice (some ⟨w.heap.size,0,none⟩) vs.length vs.length) (w.alloc (.cells vs.toArray e)):=by
 obtain⟨i,z,ht,hi,hz,hc,_,Ul,_⟩:=pE.ex;have mf:=Ce (fun i=>some (i*1,1)) (by simp) vs 0 ((Array.range (vs.length*1)).map (z.cells[· %z.cells.size]!)) (by simp) h1
 simp only[List.take_zero,List.nil_append,Nat.zero_add]at mf;rw[List.drop_of_length_le (by simp)]at mf;simp only[List.append_nil]at mf;have hne:¬(vs.length*1>2^24):=by omega
 have KS:¬(vs.length*1=0):=by omega
 simp only[Instr.buildSlice,Sem.run_bind,run_underlying ht,Result.andThen_ok,sizeOf,typeInfo,run_program,hi,Sem.run_pure,hc,zeroValue,hz,if_neg hne,if_neg KS];simp only[mf,newRow];simp
theorem G5{t e:TypeId}{bytes m:Nat}{parts:Array (Nat×Operand)}(vs:List Value)[pE:nS P t e 1 bytes](hp:mJ fr parts.toList=some (vs.zipIdx.map fun(v,i)=>(i,v)))(hm:vs.length=m)(h0:Nat.blt 0 m=true)(h1:∀v∈vs,v.cells=#[v])(hs:Nat.ble m 16777216=true)(hn:Nat.blt d n=true)
 (h:∀g,TL P n W ops Q rest ((d,.slice (some ⟨g,0,none⟩) m m)::fr) (L++[ap g vs.toArray e])):TL P n W ops Q (⟨some d,.buildSlice t m parts,ty,pos,after,none⟩::rest) fr L:=by
 subst hm;refine EH (fun a w hr=>?_) hn h;have e:(parts.map fun(i,x)=>(i,a.eval x))=(vs.zipIdx.map fun(v,i)=>(i,v)).toArray:=by
  rw[<-mK hr _ _ hp,<-Array.toList_map,Array.toArray_toList]
 rw[e];exact KV pE.el vs h1 (Nat.le_of_ble_eq_true h0) (Nat.le_of_ble_eq_true hs) w
theorem Mem.U6{w:World}{i g m size:Nat}{cs:Array Value}{e:TypeId}(h:Mem W L w)(hi:L[i]?=some (ap g cs e))(hc:cs.size=m*size)(hm:m<=140737488355328):Mem W (L.set i (aI e size (.slice (some ⟨g,0,none⟩) m m) m cs.toList)) w:=
 h.ua hi ⟨rfl,rfl,rfl,Nat.le_refl _,fun _ _ _=>rfl⟩ ⟨by simp[hc],.inr ⟨g,m,cs,rfl,Nat.zero_le _,h.get hi,Nat.le_refl _,by unfold maxLen;omega,hc,by rw[List.take_of_length_le (by simp[hc])]⟩⟩ fun k hk=> .inl hk
theorem Cf{i g m:Nat}{cs:Array Value}{e:TypeId}(size:Nat)(hi:L[i]?=some (ap g cs e))(hc:cs.size=m*size)(hm:m<=140737488355328)(h:TL P n W ops Q rest fr (L.set i (aI e size (.slice (some ⟨g,0,none⟩) m m) m cs.toList))):TL P n W ops Q rest fr L:=
 ⟨fun a w hr pH=>h.go a w hr (pH.U6 hi hc hm)⟩
theorem aD{t:TypeId}{p x:Operand}{i g c:Nat}{cs cs':Array Value}{T:TypeId}{agg:Bool}[hT:ak P t agg c](hi:L[i]?=some (ap g cs T))(hp:ev fr p=some (.pointer (some ⟨g,0,none⟩)))(hx:ev fr x=some (.agg cs'))(hv:cs'.size=c)(h1:cs'.toList.all Value.oneCell'=true)
 (hc:cs.size=c) (h:TL P n W ops Q rest fr (L.set i (ap g cs' T))):
 TL P n W ops Q (⟨none,.store t p x,ty,pos,after,none⟩::rest) fr L:=
 qY hT.ty hi hp hx hv h1 (by omega) (by
  show cs'=(cs.toList.take 0++cs'.toList++cs.toList.drop (0+c)).toArray
  rw[List.drop_of_length_le (by simp[hc])];simp) h
theorem bD{t:TypeId}{p x:Operand}{i g off:Nat}{cs:Array Value}{T:TypeId}{agg:Bool}{v:Value}[hT:ak P t agg 1](hi:L[i]?=some (ap g cs T))(hp:ev fr p=some (.pointer (some ⟨g,off,none⟩)))(hx:ev fr x=some v)(hv:v.cells=#[v])(h1:v.oneCell'=true)
 (hc:Nat.blt off cs.size=true) (h:TL P n W ops Q rest fr (L.set i (ap g (cs.setIfInBounds off v) T))):
 TL P n W ops Q (⟨none,.store t p x,ty,pos,after,none⟩::rest) fr L:=by
 have hlt:off<cs.size:=Nat.le_of_ble_eq_true hc;refine qY hT.ty hi hp hx (by rw[hv];rfl) (by rw[hv];simp[h1]) (by omega) ?_ h;rw[hv];apply Array.ext';simp only[Array.toList_setIfInBounds];rw[List.set_eq_take_append_cons_drop,if_pos (by simpa using hlt)];simp
theorem Cg{t u:TypeId}{x y:Operand}{xs ys:Array Value}{b:Bool}(hx:ev fr x=some (.agg xs))(hy:ev fr y=some (.agg ys))(hg:P.eqGuardType P.depth t=false)(h:∀w,(Op.equalIn 10000 t (.agg xs) (.agg ys)).run P w= .ok b w):RR P n W ⟨dst,.binOp .eql t x y u,ty,pos,after,guard⟩ fr L (.bool b):= .mk fun a w hr _=>by
 simp only[execOp,hr.ev hx,hr.ev hy,Sem.run_bind,run_eqGuard_agg w .eql t x y xs ys hg,Result.andThen_ok,run_eql_struct,h w];rfl
theorem vd{t u:TypeId}{x y:Operand}{xs ys:Array Value}{b c:Bool}(hx:ev fr x=some (.agg xs))(hy:ev fr y=some (.agg ys))(hg:P.eqGuardType P.depth t=false)(h:∀w,(Op.equalIn 10000 t (.agg xs) (.agg ys)).run P w= .ok b w)(hc:(!b)=c):RR P n W ⟨dst,.binOp .neq t x y u,ty,pos,after,guard⟩ fr L (.bool c):= .mk fun a w hr _=>by
 subst hc;simp only[execOp,hr.ev hx,hr.ev hy,Sem.run_bind,run_eqGuard_agg w .neq t x y xs ys hg,Result.andThen_ok,run_neq_struct,h w];rfl
theorem dB{fn:Func}{R:Ending->World->Prop}{t u:Tmp}{T:TypeId}{i g c:Nat}{cs:Array Value}{T':TypeId}{z:Value}[hT:ak P T true c](ke:fn.results=#[.cell t T,.tmp u])(hp:look fr t=some (.pointer (some ⟨g,0,none⟩)))(hi:L[i]?=some (ap g cs T'))(hc:cs.size=c)(hz:look fr u=some z)
 (h:∀w,Mem W L w->R (.returned (.tuple #[.agg cs,z])) w):E n W .ret (bodyPost P fn R) fr L:=
 yD fun a w hr pH=>⟨_,by
  have Ch:=run_loadCells_list (P:=P) w ⟨g,0,none⟩ cs.toList fun j v hj=>by rw[ez,Nat.zero_add];exact ah hi (by simpa using hj) w pH
  have hl:(loadCells ⟨g,0,none⟩ c).run P w= .ok cs w:=by rw[<-hc];simpa using Ch
  have hv:(loadVar T ⟨g,0,none⟩).run P w= .ok (.agg cs) w:=by simp[loadVar,hT.ty.agg,hT.ty.size,hl]
  simp[results,ke,Array.getD_eq_getD_getElem?,hr.get t _ hp,hr.get u z hz,asAddr,hv],h w pH⟩
theorem G6{fn:Func}{R:Ending->World->Prop}{t u s:Tmp}{T:TypeId}{i g c:Nat}{cs:Array Value}{T':TypeId}{z y:Value}[hT:ak P T true c](ke:fn.results=#[.cell t T,.tmp u,.tmp s])(hp:look fr t=some (.pointer (some ⟨g,0,none⟩)))(hi:L[i]?=some (ap g cs T'))(hc:cs.size=c)(hz:look fr u=some z)(hy:look fr s=some y)
 (h:∀w,Mem W L w->R (.returned (.tuple #[.agg cs,z,y])) w):E n W .ret (bodyPost P fn R) fr L:=
 yD fun a w hr pH=>⟨_,by
  have Ch:=run_loadCells_list (P:=P) w ⟨g,0,none⟩ cs.toList fun j v hj=>by rw[ez,Nat.zero_add];exact ah hi (by simpa using hj) w pH
  have hl:(loadCells ⟨g,0,none⟩ c).run P w= .ok cs w:=by rw[<-hc];simpa using Ch
  have hv:(loadVar T ⟨g,0,none⟩).run P w= .ok (.agg cs) w:=by simp[loadVar,hT.ty.agg,hT.ty.size,hl]
  simp[results,ke,Array.getD_eq_getD_getElem?,hr.get t _ hp,hr.get u z hz,hr.get s y hy,asAddr,hv],h w pH⟩
theorem e8{fn:Func}{R:Ending->World->Prop}{t:Tmp}{T:TypeId}{i g c:Nat}{cs:Array Value}{T':TypeId}[hT:ak P T true c](ke:fn.results=#[.cell t T])(hp:look fr t=some (.pointer (some ⟨g,0,none⟩)))(hi:L[i]?=some (ap g cs T'))(hc:cs.size=c)
 (h:∀w,Mem W L w->R (.returned (.agg cs)) w):E n W .ret (bodyPost P fn R) fr L:=
 yD fun a w hr pH=>⟨_,by
  have Ch:=run_loadCells_list (P:=P) w ⟨g,0,none⟩ cs.toList fun j v hj=>by rw[ez,Nat.zero_add];exact ah hi (by simpa using hj) w pH
  have hl:(loadCells ⟨g,0,none⟩ c).run P w= .ok cs w:=by rw[<-hc];simpa using Ch
  have hv:(loadVar T ⟨g,0,none⟩).run P w= .ok (.agg cs) w:=by simp[loadVar,hT.ty.agg,hT.ty.size,hl]
  simp[results,ke,Array.getD_eq_getD_getElem?,hr.get t _ hp,asAddr,hv],h w pH⟩
end
end bH
namespace bH
open Go.RowKit bL db
section
variable{P:Program}{ops:Array Oper}{md:Region.Mode}{Q:Exit->Act->World->Prop}{U:World->Prop}
theorem fJ{K:Act->World->Prop}{i:Nat}{o:Oper}{a:Act}{w:World}(hi:ops[i]?=some o)(h:wpList P ops (Exit.then K Q) [o] a w):wpOp P ops Q i K a w:=by
  have key:∀r,o.upon P a (wpList P ops (Exit.then K Q) []) (Exit.then K Q) r->o.upon P a K Q r:=fun r hr=>by
    cases r with
    | ok x w'=>
      cases x<;>first
        |exact hr
        |(refine Calls.mono hr fun e N5 he=>?_;cases e<;>exact he)
        |exact Rows.mono hr fun v N5 he=>he
    |halt x w'=>cases x<;>exact hr
  unfold wpList at h;unfold wpOp;rw[hi];simp only;split
  · rename_i hw
    rw[if_pos hw]at h;rcases h with h|h
    · exact .inl (key _ h)
    · exact .inr h
  · rename_i hw
    rw[if_neg hw]at h;exact h
def mL(P:Program)(md:Region.Mode)(ops:Array Oper)(Q:Exit->Act->World->Prop)(U:World->Prop):Nat->Array Bool->Act->(World->Prop)->Prop
  |0,listed,a,S=>Region.ready md ops listed=[]/\∀w,S w->Q .normal a w
  | f+1,listed,a,S=>(Region.ready md ops listed=[]->∀w,S w->Q .normal a w)/\
    ∀i∈Region.ready md ops listed,∀w,S w->wpOp P ops Q i (fun a' w'=>∃S',fv S'/\(∀x,S' x->U x)/\S' w'/\mL P md ops Q U f (listed.setIfInBounds i true) a' S') a w
theorem qc:∀(f:Nat) (listed:Array Bool) (a:Act) (S:World->Prop) (w:World),S w->mL P md ops Q U f listed a S->wpAny P md ops Q f listed a w
 |0,_,_,_,w,hw,h=>⟨h.1,h.2 w hw⟩
 |f+1,_,_,_,w,hw,h=>⟨fun h0=>h.1 h0 w hw,fun i hi=>wpOp_mono (fun a' w' ⟨S',_,_,nJ,h'⟩=>qc f _ a' S' w' nJ h') (h.2 i hi w hw)⟩
theorem qZ{i:Nat}{oi:Oper}{v:Value}(hi:ops[i]?=some oi)(iO:∀(j:Nat) (o:Oper) cs b,ops[j]?=some o->o.op≠ .select cs b)
    (hQ:∀c a w,Q (.panic c) (a.put oi.dst v) w->Q (.panic c) a w):
    ∀ (f:Nat) (listed:Array Bool) (a:Act) (S:World->Prop),fv S->(∀x,S x->U x)->
      (∀j oj,ops[j]?=some oj->j≠i->listed.getD j true=false->(∀e∈oj.after,Region.binds md e=true->e.on≠i)->oi.apart ops oj=true)->
      i∈Region.ready md ops listed->fF P ops U oi v a->
      mL P md ops Q U f (listed.setIfInBounds i true) (a.put oi.dst v) S->mL P md ops Q U (f+1) listed a S:=by
  intro f
  induction f with
  | zero=>
    intro listed a S jB KW _ hr hy H;refine⟨fun h=>(by rw[h]at hr;cases hr),fun j hj w hw=>?_⟩
    by_cases Ao:j=i
    · subst Ao;exact(hy.mono KW).wpOp hi jB hw fun w' nJ=>⟨S,jB,KW,nJ,H⟩
    · have:=ready_mono (md:=md) hj Ao
      rw[H.1]at this;cases this
  | succ f ih=>
    intro listed a S jB KW yB hr hy H;have Kq:=(mem_ready.1 hr).1;refine⟨fun h=>(by rw[h]at hr;cases hr),fun j hj w hw=>?_⟩
    by_cases Ao:j=i
    · subst Ao;exact(hy.mono KW).wpOp hi jB hw fun w' nJ=>⟨S,jB,KW,nJ,H⟩
    · have h1:=H.2 j (ready_mono hj Ao) w hw
      obtain⟨KD,oj,GY,mb⟩:=mem_ready.1 hj;have Ir:∀e∈oj.after,Region.binds md e=true->e.on≠i:=fun e he hb Es=>by
        have h1:=mb e he hb;rw[Es,getD_both Kq]at h1
        cases h1
      have h2:=yA GY (yB j oj GY Ao KD Ir) (fun cs b=>iO i oi cs b hi) (fun cs b=>iO j oj cs b GY) hQ hy h1;have Ey:∀k ok,ops[k]?=some ok->k≠i->(listed.setIfInBounds j true).getD k true=false->
          (∀e∈ok.after,Region.binds md e=true->e.on≠i)->oi.apart ops ok=true:=fun k ok hk X4 Kq hno=>by
        refine yB k ok hk X4 ?_ hno
        by_cases QX:j=k
        · subst QX;exact KD
        · rw[getD_set_ne true QX]at Kq;exact Kq
      refine wpOp_mono (fun a' w' h3=>?_) h2;obtain⟨h3,S',je,ii,nJ,h4⟩:=h3;refine⟨S',je,ii,nJ,ih (listed.setIfInBounds j true) a' S' je ii Ey (ready_mono hr (Ne.symm Ao)) h3 ?_⟩;rw[Array.setIfInBounds_comm _ _ Ao];exact h4
end
section
variable{P:Program}{n:Nat}{W:bB}{Q:Exit->Act->World->Prop}{fr:Fr}{L L0:List bz}{ops:Array Oper}{ks:List Bool}{o:Oper}{rest:List Oper}{v:Value}{d:Nat}
theorem KX{L':List bz}(is:List Nat)(hn:is.Nodup)(hl:L'=is.filterMap fun i=>L[i]?):∀w,Mem W L w->Mem W L' w:=fun _ h=>h.pick is hn hl
theorem uw:∀w,Mem W L w->Mem W [] w:=fun _ h=>⟨h.low,dL.nil _⟩
end
end bH
namespace bH
open Go.RowKit bL db
inductive Ord where
 |done
 |calm (i:Nat) (t:Ord)
 |one (i:Nat) (t:Ord)
 |two (i:Nat) (t:Ord) (j:Nat) (u:Ord)
 |three (i:Nat) (t:Ord) (j:Nat) (u:Ord) (k:Nat) (v:Ord)
def Ord.size:Ord->Nat
 | .done=>0
 | .calm _ t=>t.size+1
 | .one _ t=>t.size+1
 | .two _ t _ _=>t.size+1
 | .three _ t _ _ _ _=>t.size+1
section
variable{P:Program}{ops:Array Oper}{md:Region.Mode}{Q:Exit->Act->World->Prop}{U:World->Prop}
def KY(P:Program)(ops:Array Oper)(Q:Exit->Act->World->Prop)(U:World->Prop):Ord->Act->(World->Prop)->Prop
 | .calm i t,a,S=>∃o v,ops[i]?=some o/\(if Region.wanted o (yielded ops a.tmps)then ∀w,U w->ky P o a w v else v=undef)/\KY P ops Q U t (a.put o.dst v) S
 | .one i t,a,S=>∃o,ops[i]?=some o/\∀w,S w->wpList P ops (Exit.then (fun a' w'=>∃S',fv S'/\(∀x,S' x->U x)/\S' w'/\KY P ops Q U t a' S') Q) [o] a w
 | .two i t j u,a,S=>(∃o,ops[i]?=some o/\∀w,S w->wpList P ops (Exit.then (fun a' w'=>∃S',fv S'/\(∀x,S' x->U x)/\S' w'/\KY P ops Q U t a' S') Q) [o] a w)/\
   (∃o,ops[j]?=some o/\∀w,S w->wpList P ops (Exit.then (fun a' w'=>∃S',fv S'/\(∀x,S' x->U x)/\S' w'/\KY P ops Q U u a' S') Q) [o] a w)
 | .three i t j u k v,a,S=>(∃o,ops[i]?=some o/\∀w,S w->wpList P ops (Exit.then (fun a' w'=>∃S',fv S'/\(∀x,S' x->U x)/\S' w'/\KY P ops Q U t a' S') Q) [o] a w)/\
   (∃o,ops[j]?=some o/\∀w,S w->wpList P ops (Exit.then (fun a' w'=>∃S',fv S'/\(∀x,S' x->U x)/\S' w'/\KY P ops Q U u a' S') Q) [o] a w)/\
   (∃o,ops[k]?=some o/\∀w,S w->wpList P ops (Exit.then (fun a' w'=>∃S',fv S'/\(∀x,S' x->U x)/\S' w'/\KY P ops Q U v a' S') Q) [o] a w)
 | .done,a,S=>∀w,S w->Q .normal a w
def iw(md:Region.Mode)(ops:Array Oper):Ord->Array Bool->Bool
 | .calm i t,listed=>(Region.ready md ops listed).contains i&&Region.free md ops listed i&&iw md ops t (listed.setIfInBounds i true)
 | .one i t,listed=>decide (Region.ready md ops listed=[i])&&iw md ops t (listed.setIfInBounds i true)
 | .two i t j u,listed=>decide (Region.ready md ops listed=[i,j])&&Nat.beq t.size u.size&&iw md ops t (listed.setIfInBounds i true)&&iw md ops u (listed.setIfInBounds j true)
 | .three i t j u k v,listed=>decide (Region.ready md ops listed=[i,j,k])&&Nat.beq t.size u.size&&Nat.beq t.size v.size&&iw md ops t (listed.setIfInBounds i true)&&iw md ops u (listed.setIfInBounds j true)&&iw md ops v (listed.setIfInBounds k true)
 | .done,listed=>decide (Region.ready md ops listed=[])
theorem fK(iO:Region.noSelect ops=true)(hQ:∀c a d v w,Q (.panic c) (Act.put a d v) w->Q (.panic c) a w):
  ∀(t:Ord) (listed:Array Bool) (a:Act) (S:World->Prop),fv S->(∀x,S x->U x)->iw md ops t listed=true->
  KY P ops Q U t a S->mL P md ops Q U t.size listed a S
 | .done,listed,a,S,_,_,ho,h=>⟨by simpa[iw]using ho,h⟩
 | .calm i t,listed,a,S,jB,KW,ho,h=>by
  simp only[iw,Bool.and_eq_true]at ho;obtain⟨⟨hr,hf⟩,Ax⟩:=ho;have ur:i∈Region.ready md ops listed:=by simpa using hr
  obtain⟨o,v,h0,hy,hK⟩:=h;have UX:fF P ops U o v a:=by
   by_cases hw:Region.wanted o (yielded ops a.tmps)=true
   ·rw[if_pos hw]at hy;exact .inl ⟨hw,hy⟩
   ·rw[if_neg hw]at hy;exact .inr ⟨by simpa using hw,hy⟩
  exact qZ h0 (Region.noSelect_spec iO) (fun c a w=>hQ c a o.dst v w) t.size listed a S jB KW (Region.free_spec h0 hf) ur UX
   (fK iO hQ t _ _ S jB KW Ax hK)
 | .one i t,listed,a,S,jB,KW,ho,h=>by
  simp only[iw,Bool.and_eq_true,decide_eq_true_eq]at ho;obtain⟨hr,Ax⟩:=ho;obtain⟨o,h0,h⟩:=h;refine⟨fun h'=>(by rw[hr]at h';cases h'),fun j hj w hw=>?_⟩;obtain rfl:j=i:=by rw[hr]at hj;simpa using hj
  refine wpOp_mono (fun a' w' ⟨S',je,nT,nJ,hK⟩=>⟨S',je,nT,nJ,?_⟩) (fJ h0 (h w hw));exact fK iO hQ t _ _ S' je nT Ax hK
 | .two i t j u,listed,a,S,jB,KW,ho,h=>by
  simp only[iw,Bool.and_eq_true,decide_eq_true_eq]at ho;obtain⟨⟨⟨hr,hs⟩,sy⟩,ux⟩:=ho;obtain⟨⟨o,h0,h⟩,⟨o2,Ye,h2⟩⟩:=h;have hs:=Nat.eq_of_beq_eq_true hs;refine⟨fun h'=>(by rw[hr]at h';cases h'),fun q hq w hw=>?_⟩;rw[hr]at hq;simp only[List.mem_cons,List.not_mem_nil,or_false]at hq;rcases hq with rfl|rfl
  ·refine wpOp_mono (fun a' w' ⟨S',je,nT,nJ,hK⟩=>⟨S',je,nT,nJ,?_⟩) (fJ h0 (h w hw))
   exact fK iO hQ t _ _ S' je nT sy hK
  ·refine wpOp_mono (fun a' w' ⟨S',je,nT,nJ,hK⟩=>⟨S',je,nT,nJ,?_⟩) (fJ Ye (h2 w hw))
   rw[hs];exact fK iO hQ u _ _ S' je nT ux hK
 | .three i t j u k v,listed,a,S,jB,KW,ho,h=>by
  simp only[iw,Bool.and_eq_true,decide_eq_true_eq]at ho;obtain⟨⟨⟨⟨⟨hr,hs⟩,Um⟩,sy⟩,ux⟩,Yf⟩:=ho;obtain⟨⟨o,h0,h⟩,⟨o2,Ye,h2⟩,⟨o3,h03,h3⟩⟩:=h;have hs:=Nat.eq_of_beq_eq_true hs;have Um:=Nat.eq_of_beq_eq_true Um;refine⟨fun h'=>(by rw[hr]at h';cases h'),fun q hq w hw=>?_⟩;rw[hr]at hq;simp only[List.mem_cons,List.not_mem_nil,or_false]at hq;rcases hq with rfl|rfl|rfl
  ·refine wpOp_mono (fun a' w' ⟨S',je,nT,nJ,hK⟩=>⟨S',je,nT,nJ,?_⟩) (fJ h0 (h w hw))
   exact fK iO hQ t _ _ S' je nT sy hK
  ·refine wpOp_mono (fun a' w' ⟨S',je,nT,nJ,hK⟩=>⟨S',je,nT,nJ,?_⟩) (fJ Ye (h2 w hw))
   rw[hs];exact fK iO hQ u _ _ S' je nT ux hK
  ·refine wpOp_mono (fun a' w' ⟨S',je,nT,nJ,hK⟩=>⟨S',je,nT,nJ,?_⟩) (fJ h03 (h3 w hw))
   rw[Um];exact fK iO hQ v _ _ S' je nT Yf hK
end
structure TW(P:Program)(n:Nat)(W:bB)(ops:Array Oper)(Q:Exit->Act->World->Prop)(L0:List bz)(t:Ord)(fr:Fr)(L:List bz):Prop where
 go:∀a,jC n a fr->KY P ops Q (Mem W L0) t a (Mem W L)
section
variable{P:Program}{n:Nat}{W:bB}{Q:Exit->Act->World->Prop}{fr:Fr}{L L0:List bz}{ops:Array Oper}{o:Oper}{t u:Ord}{i j:Nat}{v:Value}{d:Nat}
def Su(l:List Oper)(t:Ord):Bool:=Nat.beq t.size l.length&&Region.noSelect l.toArray&&iw .any l.toArray t (Array.replicate l.toArray.size false)
theorem U7{id:Nat}{l:List Oper}(L0:List bz)(t:Ord)(ii:∀w,Mem W L w->Mem W L0 w)(hm:P.follows .mixedOrders=true)(hB:Su l t=true)
 (hQ:∀c a d v w,Q (.panic c) (Act.put a d v) w->Q (.panic c) a w)
 (h:TW P n W l.toArray Q L0 t fr L):T P n W (.region id l.toArray true) Q fr L:=⟨fun a w hr pH=>by
 simp only[Su,Bool.and_eq_true]at hB;obtain⟨⟨h1,h2⟩,h3⟩:=hB;have hlen:=Nat.eq_of_beq_eq_true h1;refine wp_region_any hm ?_;have hsz:l.toArray.size=t.size:=by rw[hlen];simp
 have:=qc (U:=Mem W L0) t.size (Array.replicate l.toArray.size false) a (Mem W L) w.drew pH.drew
  (fK h2 hQ t _ a (Mem W L) (dV W L) ii h3 (h.go a hr))
 rw[<-hsz]at this;exact this⟩
theorem G7{q e:Nat}{b:Bool}{x:Value}(ho:ops[i]?=some o)(hg:o.guard=some (q,b))(hj:(ops[q]?).bind (·.dst)=some e)(hl:look fr e=some x)(hu:Ot b x=true)(hd:o.dst=some d)(hn:Nat.blt d n=true)(h:TW P n W ops Q L0 t ((d,undef)::fr) L):TW P n W ops Q L0 (.calm i t) fr L:=⟨fun a eh=>
 ⟨o,undef,ho,by rw[yE eh hg hj hl hu];rfl,by rw[hd];exact h.go _ (eh.put hn undef)⟩⟩
theorem kf{f:FuncId}{args:Array Value}(ho:ops[i]?=some o)(he:∀a w,jC n a fr->(execOp a.eval o).run P w= .ok (.enter f args) w)(hc:∀w,Mem W L0 w->Calls P f args w (bU (ret v) w))(hg:o.guard=none)(hd:o.dst=some d)(hn:Nat.blt d n=true)
 (h:TW P n W ops Q L0 t ((d,v)::fr) L):TW P n W ops Q L0 (.calm i t) fr L:=⟨fun a eh=>
 ⟨o,v,ho,by rw[if_pos (lx hg)];intro w hw;unfold ky;rw[he a w eh];exact⟨Gr.refl _,(hc w hw).mono fun _ _ h=>uY h⟩,by rw[hd];exact h.go _ (eh.put hn v)⟩⟩
theorem Ci{f:FuncId}{args:Array Value}{q e:Nat}{b:Bool}(ho:ops[i]?=some o)(he:∀a w,jC n a fr->(execOp a.eval o).run P w= .ok (.enter f args) w)(hc:∀w,Mem W L0 w->Calls P f args w (bU (ret v) w))(hg:o.guard=some (q,b))(hj:(ops[q]?).bind (·.dst)=some e)(hl:look fr e=some (.bool b))(hd:o.dst=some d)(hn:Nat.blt d n=true)
 (h:TW P n W ops Q L0 t ((d,v)::fr) L):TW P n W ops Q L0 (.calm i t) fr L:=⟨fun a eh=>
 ⟨o,v,ho,by rw[if_pos (kA eh hg hj hl)];intro w hw;unfold ky;rw[he a w eh];exact⟨Gr.refl _,(hc w hw).mono fun _ _ h=>uY h⟩,by rw[hd];exact h.go _ (eh.put hn v)⟩⟩
abbrev after(P:Program)(W:bB)(ops:Array Oper)(Q:Exit->Act->World->Prop)(L0:List bz)(t:Ord):Exit->Act->World->Prop:=Exit.then (fun a' w'=>∃S',fv S'/\(∀x,S' x->Mem W L0 x)/\S' w'/\KY P ops Q (Mem W L0) t a' S') Q
theorem az(ho:ops[i]?=some o)(h:TL P n W ops (after P W ops Q L0 t) [o] fr L):TW P n W ops Q L0 (.one i t) fr L:=⟨fun a eh=>⟨o,ho,fun w hw=>h.go a w eh hw⟩⟩
theorem dG{o2:Oper}(ho:ops[i]?=some o)(ux:ops[j]?=some o2)(h:TL P n W ops (after P W ops Q L0 t) [o] fr L)(h2:TL P n W ops (after P W ops Q L0 u) [o2] fr L):TW P n W ops Q L0 (.two i t j u) fr L:=
 ⟨fun a eh=>⟨⟨o,ho,fun w hw=>h.go a w eh hw⟩,⟨o2,ux,fun w hw=>h2.go a w eh hw⟩⟩⟩
theorem q6{o2 o3:Oper}{k:Nat}{u2:Ord}(ho:ops[i]?=some o)(ux:ops[j]?=some o2)(Yf:ops[k]?=some o3)(h:TL P n W ops (after P W ops Q L0 t) [o] fr L)(h2:TL P n W ops (after P W ops Q L0 u) [o2] fr L)(h3:TL P n W ops (after P W ops Q L0 u2) [o3] fr L):TW P n W ops Q L0 (.three i t j u k u2) fr L:=
 ⟨fun a eh=>⟨⟨o,ho,fun w hw=>h.go a w eh hw⟩,⟨o2,ux,fun w hw=>h2.go a w eh hw⟩,⟨o3,Yf,fun w hw=>h3.go a w eh hw⟩⟩⟩
theorem aw{L':List bz}{xS:Fr}(ii:∀w,Mem W L' w->Mem W L0 w)(h:TW P n W ops Q L0 t xS L'):TL P n W ops (after P W ops Q L0 t) [] xS L':=
 Ar ⟨fun a _ hr hm=>⟨Mem W L',dV _ _,ii,hm,h.go a hr⟩⟩
theorem G8(h:E n W .normal Q fr L):TW P n W ops Q L0 .done fr L:=⟨fun a hr w hw=>h.go a w hr hw⟩
theorem ix{x y:Code}{ι:Type}(I:ι->Prop)(F:ι->Fr)(M:ι->List bz)
 (hx:T P n W x (Exit.then (Mid n W I F M) Q) fr L) (hy:∀i,I i->T P n W y Q (F i) (M i)):T P n W x (Exit.then (y.wp P Q) Q) fr L:= .mk fun a w hr hm=>
 wp_mono (hx.go a w hr hm) fun e a w h=>by
  cases e with
  |normal=>obtain⟨i,h1,h2,h3⟩:=h;exact(hy i h1).go a w h2 h3
  |_=>exact h
structure TN(P:Program)(n:Nat)(W:bB)(ops:Array Oper)(Q:Exit->Act->World->Prop)(L0:List bz)(o:Oper)(t:Ord)(fr:Fr)(L:List bz):Prop where
 go:∀a,jC n a fr->∃v,(∀w,Mem W L0 w->ky P o a w v)/\KY P ops Q (Mem W L0) t (a.put o.dst v) (Mem W L)
theorem KZ(ho:ops[i]?=some o)(hg:o.guard=none)(h:TN P n W ops Q L0 o t fr L):TW P n W ops Q L0 (.calm i t) fr L:=⟨fun a eh=>by
 obtain⟨v,h1,h2⟩:=h.go a eh;exact⟨o,v,ho,by rw[if_pos (lx hg)];exact h1,h2⟩⟩
theorem OE{q e:Nat}{b:Bool}(ho:ops[i]?=some o)(hg:o.guard=some (q,b))(hj:(ops[q]?).bind (·.dst)=some e)(hl:look fr e=some (.bool b))(h:TN P n W ops Q L0 o t fr L):TW P n W ops Q L0 (.calm i t) fr L:=⟨fun a eh=>by
 obtain⟨v,h1,h2⟩:=h.go a eh;exact⟨o,v,ho,by rw[if_pos (kA eh hg hj hl)];exact h1,h2⟩⟩
theorem Sv(hr:RR P n W o fr L0 v)(hd:o.dst=some d)(hn:Nat.blt d n=true)(h:TW P n W ops Q L0 t ((d,v)::fr) L):TN P n W ops Q L0 o t fr L:=⟨fun a eh=>
 ⟨v,fun w hw=>by unfold ky;rw[hr.go a w eh hw];exact⟨rfl,Gr.refl _⟩,by rw[hd];exact h.go _ (eh.put hn v)⟩⟩
theorem QW(hr:RR P n W o fr L0 v)(h:TW P n W ops Q L0 t ((d,v)::fr) L)(hd:o.dst=some d:=by exact rfl)(hn:Nat.blt d n=true:=by exact rfl):TN P n W ops Q L0 o t fr L:=Sv hr hd hn h
end
end bH
namespace bH
open Go.RowKit bL db
section
variable{P:Program}{n:Nat}{W:bB}{fr:Fr}{L L0:List bz}{Q:Exit->Act->World->Prop}{ops:Array Oper}{rest:List Oper}{d i:Nat}{o:Oper}{v:Value}{t:Ord}
inductive Gd(ops:Array Oper)(fr:Fr)(o:Oper):Prop
 |no (h:o.guard=none)
 |yes (q e:Nat) (b:Bool) (hg:o.guard=some (q,b)) (hj:(ops[q]?).bind (·.dst)=some e) (hl:look fr e=some (.bool b))
theorem RR.bare(h:RR P n W o fr L v):RR P n W {o with guard:=none} fr L v:=⟨fun a w hr hm=>h.go a w hr hm⟩
theorem U8(hr:RR P n W o fr L v)(hg:Gd ops fr o)(hd:o.dst=some d)(hn:Nat.blt d n=true)(h:TL P n W ops Q rest ((d,v)::fr) L):TL P n W ops Q (o::rest) fr L:=by
 rcases hg with hg|⟨q,e,b,hg,hj,hl⟩
 ·exact cI hr hg hd hn h
 ·exact As hg hj hl (cI hr.bare rfl hd hn h)
theorem gV(hr:RR P n W o fr L v)(h:TL P n W ops Q rest ((d,v)::fr) L)(hg:Gd ops fr o:=by first|exact Gd.no rfl|exact Gd.yes _ _ _ rfl rfl rfl)(hd:o.dst=some d:=by exact rfl)(hn:Nat.blt d n=true:=by exact rfl):TL P n W ops Q (o::rest) fr L:=U8 hr hg hd hn h
theorem QK{dst:Option Tmp}{ty:TypeId}{pos:String}{after:Array Edge}{guard:Option (Nat×Bool)}{x:Operand}{a:Addr}(hx:ev fr x=some (.pointer (some a)):=by exact rfl):RR P n W ⟨dst,.nilCheck x,ty,pos,after,guard⟩ fr L (.pointer (some a)):= .mk fun act w hr _=>by
 simp[execOp,hr.ev hx]
end
structure Hid(B:Prop):Prop where
 go:B
theorem GC{A B:Prop}(h:B)(t:Hid B->A:=by
 intro h0
 first|refine gV QP ?_|refine QZ ?_|refine X' rfl ?_|refine Ya rfl ?_|refine B5 ?_|refine B6 rfl ?_|refine qs rfl rfl rfl rfl rfl rfl ?_
 repeat (first|refine gV QP ?_|refine QZ ?_|refine X' rfl ?_|refine Ya rfl ?_|refine B5 ?_|refine B6 rfl ?_|refine qs rfl rfl rfl rfl rfl rfl ?_)
 exact h0.go):A:=t ⟨h⟩
theorem GB{A B:Prop}(h:B)(t:Hid B->A:=by
 intro h0;refine gV (by first|exact QA|exact QK|exact QL|exact QS|exact Av rfl rfl|exact Xi|exact Xj|exact Xk|exact Xl|exact QnT|exact QnF|exact Yd|exact QgT|exact QgF|exact Yb|exact Yc|exact QmT|exact QmF|exact QaS|exact QaM|exact EE rfl rfl (by omega)|exact KN rfl rfl (by omega)) ?_;exact h0.go):A:=t ⟨h⟩
theorem GA{A B:Prop}(h:B)(t:Hid B->A:=by
 intro h0
 first|refine GC ?_|refine GB ?_
 repeat (first|refine GC ?_|refine GB ?_)
 exact h0.go):A:=t ⟨h⟩
theorem GN{A B:Prop}(h:B)(t:Hid B->A:=by
 intro h0
 first|refine KZ rfl rfl ?_|refine OE rfl rfl rfl rfl ?_
 exact h0.go):A:=t ⟨h⟩
theorem GX{A B:Prop}(h:B)(t:Hid B->A:=by
 intro h0
 first|refine QW QP ?_|refine QW (by first|exact QA|exact QK|exact QL|exact QS|exact Av rfl rfl|exact Xi|exact Xj|exact Xk|exact Xl|exact QnT|exact QnF|exact Yd|exact QgT|exact QgF|exact Yb|exact Yc|exact QmT|exact QmF|exact QaS|exact QaM|exact EE rfl rfl (by omega)|exact KN rfl rfl (by omega)) ?_
 exact h0.go):A:=t ⟨h⟩
theorem GW{A B:Prop}(h:B)(t:Hid B->A:=by
 intro h0
 first|(refine GN ?_;refine GX ?_)|refine G7 rfl rfl rfl rfl rfl rfl rfl ?_|refine G8 ?_
 repeat (first|(refine GN ?_;refine GX ?_)|refine G7 rfl rfl rfl rfl rfl rfl rfl ?_|refine G8 ?_)
 exact h0.go):A:=t ⟨h⟩
section
variable{P:Program}{n:Nat}{W:bB}{fr:Fr}{L L':List bz}{Q:Exit->Act->World->Prop}{ops:Array Oper}{rest:List Oper}
theorem aY{ι:Type}{I:ι->Prop}{F:ι->Fr}{M:ι->List bz}{μ:ι->Nat}{x:ι}(x':ι)(hi:I x')(X7:μ x'<μ x)(hf:B3 (F x') fr:=by repeat' (first|exact True.intro|refine And.intro rfl ?_))(hl:L=M x':=by exact rfl):
 E n W .normal (Exit.then (Xf n W I F M μ x) Q) fr L:=eZ x' hi X7 hf hl
theorem cX{c:Code}{ι:Type}(I:ι->Prop)(F:ι->Fr)(M:ι->List bz)(μ:ι->Nat)(x0:ι)(h0:I x0)
 (round:∀x,I x->T P n W c (Exit.then (Xf n W I F M μ x) Q) (F x) (M x)) (hf:B3 (F x0) fr:=by repeat' (first|exact True.intro|refine And.intro rfl ?_)) (hl:L=M x0:=by exact rfl):T P n W (.loop c) Q fr L:=iu I F M μ x0 h0 hf hl round
theorem zL{A B:Prop}(h:B)(t:Hid B->A:=by
 intro h0
 (conv=>arg 8;simp only[zA,zB,zC,zD,zE,zF,zG,zH,zI,bW,ret,id_eq])
 exact h0.go):A:=t ⟨h⟩
end
theorem zJ:(∀{α:Type} {a:α} {l m:List α},a::l++m=a::(l++m))/\(∀{α:Type} {l:List α},[]++l=l)/\(∀{α:Type} {l:List α},l++[]=l)/\(∀{α β:Type} {f:α->Option β} {a:α} {l:List α},List.filterMap f (a::l)=match f a with
 |none=>List.filterMap f l
 |some b=>b::List.filterMap f l)/\(∀{α β:Type} {f:α->Option β},List.filterMap f []=[])/\(∀{α:Type} {a:α} {l:List α} {i:Nat},(a::l)[i+1]?=l[i]?)/\(∀{α:Type} {a:α} {l:List α},(a::l)[0]?=some a)/\(∀{α:Type} {a b:α} {l:List α},(a::l).set 0 b=b::l)/\(∀{α:Type} {a b:α} {l:List α} {i:Nat},(a::l).set (i+1) b=a::l.set i b):=
 ⟨zA,zB,zC,zD,zE,zF,zG,zH,zI⟩
section
variable{P:Program}{n:Nat}{W:bB}{fr:Fr}{L L':List bz}{Q:Exit->Act->World->Prop}{ops:Array Oper}{rest:List Oper}
theorem bC(is:List Nat)(hn:is.Nodup:=by decide)(hl:L'=is.filterMap fun i=>L[i]?:=by exact rfl):∀w,Mem W L w->Mem W L' w:=KX is hn hl
theorem Cj(is:List Nat)(h:TL P n W ops Q rest fr L')(hn:is.Nodup:=by decide)(hl:L'=is.filterMap fun i=>L[i]?:=by exact rfl):TL P n W ops Q rest fr L:=OB is hn hl h
theorem pI{c:Code}(is:List Nat)(h:T P n W c Q fr L')(hn:is.Nodup:=by decide)(hl:L'=is.filterMap fun i=>L[i]?:=by exact rfl):T P n W c Q fr L:=Sb is hn hl h
theorem bR{e:Exit}(is:List Nat)(h:E n W e Q fr L')(hn:is.Nodup:=by decide)(hl:L'=is.filterMap fun i=>L[i]?:=by exact rfl):E n W e Q fr L:=Sc is hn hl h
theorem dw{id:Nat}{l:List Oper}(L0:List bz)(t:Ord)(ii:∀w,Mem W L w->Mem W L0 w)(h:TW P n W l.toArray Q L0 t fr L)(hm:P.follows .mixedOrders=true:=by kernel_rfl)(hB:Su l t=true:=by kernel_rfl)
 (hQ:∀c a d v w,Q (.panic c) (Act.put a d v) w->Q (.panic c) a w:=by intro c a d v w h;cases d<;>exact h):T P n W (.region id l.toArray true) Q fr L:=U7 L0 t ii hm hB hQ h
theorem da{fn:Func}{w0:World}{t:Tmp}{v:Value}(ke:fn.results=#[.tmp t]:=by exact rfl)(hv:look fr t=some v:=by exact rfl):E n w0 .ret (bodyPost P fn (bU (ret v) w0)) fr L:=b_ ke hv fun w hm=>hm.ret
theorem fU{ty:TypeId}{pos:String}{after:Array Edge}{t:TypeId}{p x:Operand}(i:Nat){g c:Nat}{cs cs':Array Value}{T:TypeId}{agg:Bool}[hT:ak P t agg c](h:TL P n W ops Q rest fr (L.set i (ap g cs' T)))(hi:L[i]?=some (ap g cs T):=by exact rfl)(hp:ev fr p=some (.pointer (some ⟨g,0,none⟩)):=by exact rfl)(hx:ev fr x=some (.agg cs'):=by exact rfl)(hv:cs'.size=c:=by exact rfl)(h1:cs'.toList.all Value.oneCell'=true:=by exact rfl)(hc:cs.size=c:=by exact rfl):
 TL P n W ops Q (⟨none,.store t p x,ty,pos,after,none⟩::rest) fr L:=aD hi hp hx hv h1 hc h
end
end bH
namespace bH
instance:aT Tryz.prog 2 (.int .i64):=⟨Tryz.underlying2⟩
instance:ak Tryz.prog 2 false 1:={}
instance:aW Tryz.prog 2 #[.int .i64 0]:={}
instance:aT Tryz.prog 3 (.int .i64):=⟨Tryz.underlying3⟩
instance:ak Tryz.prog 3 false 1:={}
instance:aW Tryz.prog 3 #[.int .i64 0]:={}
instance:aT Tryz.prog 4 (.bool):=⟨Tryz.underlying4⟩
instance:ak Tryz.prog 4 false 1:={}
instance:aW Tryz.prog 4 #[.bool false]:={}
instance:aT Tryz.prog 5 (.int .u8):=⟨Tryz.underlying5⟩
instance:ak Tryz.prog 5 false 1:={}
instance:aW Tryz.prog 5 #[.int .u8 0]:={}
instance:bx Tryz.prog 7 0 0:={}
instance:bx Tryz.prog 7 1 1:={}
instance:bx Tryz.prog 7 2 2:={}
instance:bx Tryz.prog 7 3 3:={}
instance:ak Tryz.prog 7 true 4:={}
instance:aW Tryz.prog 7 #[.int .i64 0,.int .i64 0,.bool false,.int .u8 0]:={}
instance:aT Tryz.prog 9 (.string):=⟨Tryz.underlying9⟩
instance:ak Tryz.prog 9 false 1:={}
instance:aW Tryz.prog 9 #[.string ⟨#[]⟩]:={}
instance:aT Tryz.prog 12 (.int .u64):=⟨Tryz.underlying12⟩
instance:ak Tryz.prog 12 false 1:={}
instance:aW Tryz.prog 12 #[.int .u64 0]:={}
instance:bx Tryz.prog 13 0 0:={}
instance:bx Tryz.prog 13 1 1:={}
instance:ak Tryz.prog 13 true 2:={}
instance:aW Tryz.prog 13 #[.string ⟨#[]⟩,.int .u64 0]:={}
instance:aT Tryz.prog 21 (.int .i32):=⟨Tryz.underlying21⟩
instance:ak Tryz.prog 21 false 1:={}
instance:aW Tryz.prog 21 #[.int .i32 0]:={}
instance:aT Tryz.prog 22 (.slice 71):=⟨Tryz.underlying22⟩
instance:ak Tryz.prog 22 false 1:={}
instance:nS Tryz.prog 22 71 7 80:={}
instance:aW Tryz.prog 22 #[.slice none 0 0]:={}
instance:aT Tryz.prog 23 (.slice 74):=⟨Tryz.underlying23⟩
instance:ak Tryz.prog 23 false 1:={}
instance:nS Tryz.prog 23 74 2 40:={}
instance:aW Tryz.prog 23 #[.slice none 0 0]:={}
instance:bx Tryz.prog 24 0 0:={}
instance:bx Tryz.prog 24 1 1:={}
instance:ak Tryz.prog 24 true 2:={}
instance:aW Tryz.prog 24 #[.slice none 0 0,.slice none 0 0]:={}
instance:bx Tryz.prog 25 0 0:={}
instance:bx Tryz.prog 25 1 1:={}
instance:ak Tryz.prog 25 true 2:={}
instance:aW Tryz.prog 25 #[.slice none 0 0,.slice none 0 0]:={}
instance:aT Tryz.prog 26 (.slice 3):=⟨Tryz.underlying26⟩
instance:ak Tryz.prog 26 false 1:={}
instance:nS Tryz.prog 26 3 1 8:={}
instance:aW Tryz.prog 26 #[.slice none 0 0]:={}
instance:aT Tryz.prog 27 (.array 256 5):=⟨Tryz.underlying27⟩
instance:ak Tryz.prog 27 true 256:={}
instance:aW Tryz.prog 27 (List.replicate 256 (.int .u8 0:Value)).toArray:={}
instance:aT Tryz.prog 28 (.slice 26):=⟨Tryz.underlying28⟩
instance:ak Tryz.prog 28 false 1:={}
instance:nS Tryz.prog 28 26 1 24:={}
instance:aW Tryz.prog 28 #[.slice none 0 0]:={}
instance:bx Tryz.prog 29 0 0:={}
instance:bx Tryz.prog 29 1 256:={}
instance:bx Tryz.prog 29 2 257:={}
instance:ak Tryz.prog 29 true 258:={}
instance:aW Tryz.prog 29 (List.replicate 256 (.int .u8 0:Value)++([.slice none 0 0,.slice none 0 0]:List Value)).toArray:={}
instance:bx Tryz.prog 30 0 0:={}
instance:bx Tryz.prog 30 1 256:={}
instance:bx Tryz.prog 30 2 257:={}
instance:ak Tryz.prog 30 true 258:={}
instance:aW Tryz.prog 30 (List.replicate 256 (.int .u8 0:Value)++([.slice none 0 0,.slice none 0 0]:List Value)).toArray:={}
instance:aT Tryz.prog 31 (.slice 109):=⟨Tryz.underlying31⟩
instance:ak Tryz.prog 31 false 1:={}
instance:nS Tryz.prog 31 109 2 32:={}
instance:aW Tryz.prog 31 #[.slice none 0 0]:={}
instance:bx Tryz.prog 32 0 0:={}
instance:bx Tryz.prog 32 1 1:={}
instance:bx Tryz.prog 32 2 2:={}
instance:ak Tryz.prog 32 true 3:={}
instance:aW Tryz.prog 32 #[.int .i64 0,.int .i64 0,.slice none 0 0]:={}
instance:bx Tryz.prog 33 0 0:={}
instance:bx Tryz.prog 33 1 1:={}
instance:bx Tryz.prog 33 2 2:={}
instance:ak Tryz.prog 33 true 3:={}
instance:aW Tryz.prog 33 #[.int .i64 0,.int .i64 0,.slice none 0 0]:={}
instance:aT Tryz.prog 34 (.slice 120):=⟨Tryz.underlying34⟩
instance:ak Tryz.prog 34 false 1:={}
instance:nS Tryz.prog 34 120 1 24:={}
instance:aW Tryz.prog 34 #[.slice none 0 0]:={}
instance:bx Tryz.prog 35 0 0:={}
instance:bx Tryz.prog 35 1 1:={}
instance:ak Tryz.prog 35 true 2:={}
instance:aW Tryz.prog 35 #[.slice none 0 0,.slice none 0 0]:={}
instance:bx Tryz.prog 36 0 0:={}
instance:bx Tryz.prog 36 1 1:={}
instance:ak Tryz.prog 36 true 2:={}
instance:aW Tryz.prog 36 #[.slice none 0 0,.slice none 0 0]:={}
instance:bx Tryz.prog 37 0 0:={}
instance:bx Tryz.prog 37 1 1:={}
instance:bx Tryz.prog 37 2 259:={}
instance:bx Tryz.prog 37 3 262:={}
instance:bx Tryz.prog 37 4 263:={}
instance:bx Tryz.prog 37 5 264:={}
instance:ak Tryz.prog 37 true 266:={}
instance:aW Tryz.prog 37 (([.slice none 0 0]:List Value)++List.replicate 256 (.int .u8 0:Value)++([.slice none 0 0,.slice none 0 0,.int .i64 0,.int .i64 0,.slice none 0 0,.int .i64 0,.slice none 0 0,.slice none 0 0,.slice none 0 0]:List Value)).toArray:={}
instance:bx Tryz.prog 38 0 0:={}
instance:bx Tryz.prog 38 1 1:={}
instance:bx Tryz.prog 38 2 259:={}
instance:bx Tryz.prog 38 3 262:={}
instance:bx Tryz.prog 38 4 263:={}
instance:bx Tryz.prog 38 5 264:={}
instance:ak Tryz.prog 38 true 266:={}
instance:aW Tryz.prog 38 (([.slice none 0 0]:List Value)++List.replicate 256 (.int .u8 0:Value)++([.slice none 0 0,.slice none 0 0,.int .i64 0,.int .i64 0,.slice none 0 0,.int .i64 0,.slice none 0 0,.slice none 0 0,.slice none 0 0]:List Value)).toArray:={}
instance:aT Tryz.prog 39 (.int .i64):=⟨Tryz.underlying39⟩
instance:ak Tryz.prog 39 false 1:={}
instance:aW Tryz.prog 39 #[.int .i64 0]:={}
instance:aT Tryz.prog 49 (.pointer 38):=⟨Tryz.underlying49⟩
instance:ak Tryz.prog 49 false 1:={}
instance:aW Tryz.prog 49 #[.pointer none]:={}
instance:aT Tryz.prog 50 (.slice 4):=⟨Tryz.underlying50⟩
instance:ak Tryz.prog 50 false 1:={}
instance:nS Tryz.prog 50 4 1 1:={}
instance:aW Tryz.prog 50 #[.slice none 0 0]:={}
instance:aT Tryz.prog 51 (.slice 63):=⟨Tryz.underlying51⟩
instance:ak Tryz.prog 51 false 1:={}
instance:nS Tryz.prog 51 63 1 8:={}
instance:aW Tryz.prog 51 #[.slice none 0 0]:={}
instance:bx Tryz.prog 52 0 0:={}
instance:bx Tryz.prog 52 1 1:={}
instance:bx Tryz.prog 52 2 2:={}
instance:bx Tryz.prog 52 3 3:={}
instance:bx Tryz.prog 52 4 4:={}
instance:ak Tryz.prog 52 true 5:={}
instance:aW Tryz.prog 52 #[.slice none 0 0,.slice none 0 0,.slice none 0 0,.slice none 0 0,.slice none 0 0]:={}
instance:bx Tryz.prog 53 0 0:={}
instance:bx Tryz.prog 53 1 1:={}
instance:bx Tryz.prog 53 2 2:={}
instance:bx Tryz.prog 53 3 3:={}
instance:bx Tryz.prog 53 4 4:={}
instance:ak Tryz.prog 53 true 5:={}
instance:aW Tryz.prog 53 #[.slice none 0 0,.slice none 0 0,.slice none 0 0,.slice none 0 0,.slice none 0 0]:={}
instance:aT Tryz.prog 57 (.slice 114):=⟨Tryz.underlying57⟩
instance:ak Tryz.prog 57 false 1:={}
instance:nS Tryz.prog 57 114 4 32:={}
instance:aW Tryz.prog 57 #[.slice none 0 0]:={}
instance:aT Tryz.prog 60 (.slice 125):=⟨Tryz.underlying60⟩
instance:ak Tryz.prog 60 false 1:={}
instance:nS Tryz.prog 60 125 6 48:={}
instance:aW Tryz.prog 60 #[.slice none 0 0]:={}
instance:aT Tryz.prog 63 (.int .u64):=⟨Tryz.underlying63⟩
instance:ak Tryz.prog 63 false 1:={}
instance:aW Tryz.prog 63 #[.int .u64 0]:={}
instance:aT Tryz.prog 64 (.array 4 63):=⟨Tryz.underlying64⟩
instance:ak Tryz.prog 64 true 4:={}
instance:aW Tryz.prog 64 #[.int .u64 0,.int .u64 0,.int .u64 0,.int .u64 0]:={}
instance:aT Tryz.prog 65 (.array 4 63):=⟨Tryz.underlying65⟩
instance:ak Tryz.prog 65 true 4:={}
instance:aW Tryz.prog 65 #[.int .u64 0,.int .u64 0,.int .u64 0,.int .u64 0]:={}
instance:aT Tryz.prog 66 (.slice 68):=⟨Tryz.underlying66⟩
instance:ak Tryz.prog 66 false 1:={}
instance:nS Tryz.prog 66 68 6 64:={}
instance:aW Tryz.prog 66 #[.slice none 0 0]:={}
instance:bx Tryz.prog 67 0 0:={}
instance:bx Tryz.prog 67 1 1:={}
instance:bx Tryz.prog 67 2 5:={}
instance:ak Tryz.prog 67 true 6:={}
instance:aW Tryz.prog 67 #[.int .i64 0,.int .u64 0,.int .u64 0,.int .u64 0,.int .u64 0,.slice none 0 0]:={}
instance:bx Tryz.prog 68 0 0:={}
instance:bx Tryz.prog 68 1 1:={}
instance:bx Tryz.prog 68 2 5:={}
instance:ak Tryz.prog 68 true 6:={}
instance:aW Tryz.prog 68 #[.int .i64 0,.int .u64 0,.int .u64 0,.int .u64 0,.int .u64 0,.slice none 0 0]:={}
instance:bx Tryz.prog 70 0 0:={}
instance:bx Tryz.prog 70 1 1:={}
instance:ak Tryz.prog 70 true 7:={}
instance:aW Tryz.prog 70 #[.string ⟨#[]⟩,.int .i64 0,.int .u64 0,.int .u64 0,.int .u64 0,.int .u64 0,.slice none 0 0]:={}
instance:bx Tryz.prog 71 0 0:={}
instance:bx Tryz.prog 71 1 1:={}
instance:ak Tryz.prog 71 true 7:={}
instance:aW Tryz.prog 71 #[.string ⟨#[]⟩,.int .i64 0,.int .u64 0,.int .u64 0,.int .u64 0,.int .u64 0,.slice none 0 0]:={}
instance:aT Tryz.prog 72 (.slice 9):=⟨Tryz.underlying72⟩
instance:ak Tryz.prog 72 false 1:={}
instance:nS Tryz.prog 72 9 1 16:={}
instance:aW Tryz.prog 72 #[.slice none 0 0]:={}
instance:bx Tryz.prog 73 0 0:={}
instance:bx Tryz.prog 73 1 1:={}
instance:ak Tryz.prog 73 true 2:={}
instance:aW Tryz.prog 73 #[.string ⟨#[]⟩,.slice none 0 0]:={}
instance:bx Tryz.prog 74 0 0:={}
instance:bx Tryz.prog 74 1 1:={}
instance:ak Tryz.prog 74 true 2:={}
instance:aW Tryz.prog 74 #[.string ⟨#[]⟩,.slice none 0 0]:={}
instance:aT Tryz.prog 76 (.map 82 3):=⟨Tryz.underlying76⟩
instance:ak Tryz.prog 76 false 1:={}
instance:aW Tryz.prog 76 #[.map none]:={}
instance:bx Tryz.prog 77 0 0:={}
instance:bx Tryz.prog 77 1 3:={}
instance:bx Tryz.prog 77 2 4:={}
instance:ak Tryz.prog 77 true 5:={}
instance:aW Tryz.prog 77 #[.int .i64 0,.int .i64 0,.slice none 0 0,.slice none 0 0,.map none]:={}
instance:bx Tryz.prog 78 0 0:={}
instance:bx Tryz.prog 78 1 3:={}
instance:bx Tryz.prog 78 2 4:={}
instance:ak Tryz.prog 78 true 5:={}
instance:aW Tryz.prog 78 #[.int .i64 0,.int .i64 0,.slice none 0 0,.slice none 0 0,.map none]:={}
instance:aT Tryz.prog 79 (.pointer 78):=⟨Tryz.underlying79⟩
instance:ak Tryz.prog 79 false 1:={}
instance:aW Tryz.prog 79 #[.pointer none]:={}
instance:bx Tryz.prog 81 0 0:={}
instance:bx Tryz.prog 81 1 1:={}
instance:bx Tryz.prog 81 2 2:={}
instance:ak Tryz.prog 81 true 3:={}
instance:aW Tryz.prog 81 #[.int .i64 0,.int .i64 0,.int .i64 0]:={}
instance:bx Tryz.prog 82 0 0:={}
instance:bx Tryz.prog 82 1 1:={}
instance:bx Tryz.prog 82 2 2:={}
instance:ak Tryz.prog 82 true 3:={}
instance:aW Tryz.prog 82 #[.int .i64 0,.int .i64 0,.int .i64 0]:={}
instance:aT Tryz.prog 87 (.map 9 3):=⟨Tryz.underlying87⟩
instance:ak Tryz.prog 87 false 1:={}
instance:aW Tryz.prog 87 #[.map none]:={}
instance:aT Tryz.prog 91 (.slice 65):=⟨Tryz.underlying91⟩
instance:ak Tryz.prog 91 false 1:={}
instance:nS Tryz.prog 91 65 4 32:={}
instance:aW Tryz.prog 91 #[.slice none 0 0]:={}
instance:bx Tryz.prog 92 0 0:={}
instance:bx Tryz.prog 92 1 1:={}
instance:bx Tryz.prog 92 2 2:={}
instance:bx Tryz.prog 92 3 3:={}
instance:bx Tryz.prog 92 4 4:={}
instance:bx Tryz.prog 92 5 5:={}
instance:ak Tryz.prog 92 true 6:={}
instance:aW Tryz.prog 92 #[.slice none 0 0,.slice none 0 0,.slice none 0 0,.slice none 0 0,.slice none 0 0,.slice none 0 0]:={}
instance:bx Tryz.prog 93 0 0:={}
instance:bx Tryz.prog 93 1 1:={}
instance:bx Tryz.prog 93 2 2:={}
instance:bx Tryz.prog 93 3 3:={}
instance:bx Tryz.prog 93 4 4:={}
instance:bx Tryz.prog 93 5 5:={}
instance:ak Tryz.prog 93 true 6:={}
instance:aW Tryz.prog 93 #[.slice none 0 0,.slice none 0 0,.slice none 0 0,.slice none 0 0,.slice none 0 0,.slice none 0 0]:={}
instance:aT Tryz.prog 96 (.slice 150):=⟨Tryz.underlying96⟩
instance:ak Tryz.prog 96 false 1:={}
instance:nS Tryz.prog 96 150 256 512:={}
instance:aW Tryz.prog 96 #[.slice none 0 0]:={}
instance:bx Tryz.prog 97 0 0:={}
instance:bx Tryz.prog 97 1 1:={}
instance:ak Tryz.prog 97 true 2:={}
instance:aW Tryz.prog 97 #[.slice none 0 0,.slice none 0 0]:={}
instance:bx Tryz.prog 98 0 0:={}
instance:bx Tryz.prog 98 1 1:={}
instance:ak Tryz.prog 98 true 2:={}
instance:aW Tryz.prog 98 #[.slice none 0 0,.slice none 0 0]:={}
instance:aT Tryz.prog 107 (.slice 128):=⟨Tryz.underlying107⟩
instance:ak Tryz.prog 107 false 1:={}
instance:nS Tryz.prog 107 128 2 16:={}
instance:aW Tryz.prog 107 #[.slice none 0 0]:={}
instance:bx Tryz.prog 108 0 0:={}
instance:bx Tryz.prog 108 1 1:={}
instance:ak Tryz.prog 108 true 2:={}
instance:aW Tryz.prog 108 #[.int .i64 0,.slice none 0 0]:={}
instance:bx Tryz.prog 109 0 0:={}
instance:bx Tryz.prog 109 1 1:={}
instance:ak Tryz.prog 109 true 2:={}
instance:aW Tryz.prog 109 #[.int .i64 0,.slice none 0 0]:={}
instance:bx Tryz.prog 113 0 0:={}
instance:bx Tryz.prog 113 1 1:={}
instance:bx Tryz.prog 113 2 2:={}
instance:bx Tryz.prog 113 3 3:={}
instance:ak Tryz.prog 113 true 4:={}
instance:aW Tryz.prog 113 #[.int .i64 0,.int .i64 0,.int .i64 0,.int .i64 0]:={}
instance:bx Tryz.prog 114 0 0:={}
instance:bx Tryz.prog 114 1 1:={}
instance:bx Tryz.prog 114 2 2:={}
instance:bx Tryz.prog 114 3 3:={}
instance:ak Tryz.prog 114 true 4:={}
instance:aW Tryz.prog 114 #[.int .i64 0,.int .i64 0,.int .i64 0,.int .i64 0]:={}
instance:aT Tryz.prog 115 (.slice 164):=⟨Tryz.underlying115⟩
instance:ak Tryz.prog 115 false 1:={}
instance:nS Tryz.prog 115 164 1 24:={}
instance:aW Tryz.prog 115 #[.slice none 0 0]:={}
instance:bx Tryz.prog 116 0 0:={}
instance:bx Tryz.prog 116 1 1:={}
instance:ak Tryz.prog 116 true 2:={}
instance:aW Tryz.prog 116 #[.slice none 0 0,.slice none 0 0]:={}
instance:bx Tryz.prog 117 0 0:={}
instance:bx Tryz.prog 117 1 1:={}
instance:ak Tryz.prog 117 true 2:={}
instance:aW Tryz.prog 117 #[.slice none 0 0,.slice none 0 0]:={}
instance:aT Tryz.prog 120 (.slice 123):=⟨Tryz.underlying120⟩
instance:ak Tryz.prog 120 false 1:={}
instance:nS Tryz.prog 120 123 2 16:={}
instance:aW Tryz.prog 120 #[.slice none 0 0]:={}
instance:bx Tryz.prog 122 0 0:={}
instance:bx Tryz.prog 122 1 1:={}
instance:ak Tryz.prog 122 true 2:={}
instance:aW Tryz.prog 122 #[.int .i64 0,.int .i64 0]:={}
instance:bx Tryz.prog 123 0 0:={}
instance:bx Tryz.prog 123 1 1:={}
instance:ak Tryz.prog 123 true 2:={}
instance:aW Tryz.prog 123 #[.int .i64 0,.int .i64 0]:={}
instance:bx Tryz.prog 124 0 0:={}
instance:bx Tryz.prog 124 1 1:={}
instance:bx Tryz.prog 124 2 2:={}
instance:bx Tryz.prog 124 3 4:={}
instance:ak Tryz.prog 124 true 6:={}
instance:aW Tryz.prog 124 #[.int .i64 0,.int .i64 0,.int .i64 0,.int .i64 0,.int .i64 0,.int .i64 0]:={}
instance:bx Tryz.prog 125 0 0:={}
instance:bx Tryz.prog 125 1 1:={}
instance:bx Tryz.prog 125 2 2:={}
instance:bx Tryz.prog 125 3 4:={}
instance:ak Tryz.prog 125 true 6:={}
instance:aW Tryz.prog 125 #[.int .i64 0,.int .i64 0,.int .i64 0,.int .i64 0,.int .i64 0,.int .i64 0]:={}
instance:bx Tryz.prog 128 0 0:={}
instance:bx Tryz.prog 128 1 1:={}
instance:ak Tryz.prog 128 true 2:={}
instance:aW Tryz.prog 128 #[.int .i64 0,.int .i64 0]:={}
instance:aT Tryz.prog 133 (.pointer 135):=⟨Tryz.underlying133⟩
instance:ak Tryz.prog 133 false 1:={}
instance:aW Tryz.prog 133 #[.pointer none]:={}
instance:bx Tryz.prog 134 0 0:={}
instance:bx Tryz.prog 134 1 6:={}
instance:ak Tryz.prog 134 true 7:={}
instance:aW Tryz.prog 134 #[.slice none 0 0,.slice none 0 0,.slice none 0 0,.slice none 0 0,.slice none 0 0,.slice none 0 0,.int .i64 0]:={}
instance:bx Tryz.prog 135 0 0:={}
instance:bx Tryz.prog 135 1 6:={}
instance:ak Tryz.prog 135 true 7:={}
instance:aW Tryz.prog 135 #[.slice none 0 0,.slice none 0 0,.slice none 0 0,.slice none 0 0,.slice none 0 0,.slice none 0 0,.int .i64 0]:={}
instance:bx Tryz.prog 136 0 0:={}
instance:bx Tryz.prog 136 1 1:={}
instance:bx Tryz.prog 136 2 2:={}
instance:ak Tryz.prog 136 true 3:={}
instance:aW Tryz.prog 136 #[.bool false,.slice none 0 0,.slice none 0 0]:={}
instance:bx Tryz.prog 137 0 0:={}
instance:bx Tryz.prog 137 1 1:={}
instance:bx Tryz.prog 137 2 2:={}
instance:ak Tryz.prog 137 true 3:={}
instance:aW Tryz.prog 137 #[.bool false,.slice none 0 0,.slice none 0 0]:={}
instance:aT Tryz.prog 140 (.map 9 128):=⟨Tryz.underlying140⟩
instance:ak Tryz.prog 140 false 1:={}
instance:aW Tryz.prog 140 #[.map none]:={}
instance:aT Tryz.prog 143 (.pointer 147):=⟨Tryz.underlying143⟩
instance:ak Tryz.prog 143 false 1:={}
instance:aW Tryz.prog 143 #[.pointer none]:={}
instance:aT Tryz.prog 144 (.slice 180):=⟨Tryz.underlying144⟩
instance:ak Tryz.prog 144 false 1:={}
instance:nS Tryz.prog 144 180 4 32:={}
instance:aW Tryz.prog 144 #[.slice none 0 0]:={}
instance:aT Tryz.prog 145 (.map 180 3):=⟨Tryz.underlying145⟩
instance:ak Tryz.prog 145 false 1:={}
instance:aW Tryz.prog 145 #[.map none]:={}
instance:bx Tryz.prog 146 0 0:={}
instance:bx Tryz.prog 146 1 6:={}
instance:bx Tryz.prog 146 2 7:={}
instance:bx Tryz.prog 146 3 8:={}
instance:ak Tryz.prog 146 true 10:={}
instance:aW Tryz.prog 146 #[.slice none 0 0,.slice none 0 0,.slice none 0 0,.slice none 0 0,.slice none 0 0,.slice none 0 0,.slice none 0 0,.map none,.slice none 0 0,.slice none 0 0]:={}
instance:bx Tryz.prog 147 0 0:={}
instance:bx Tryz.prog 147 1 6:={}
instance:bx Tryz.prog 147 2 7:={}
instance:bx Tryz.prog 147 3 8:={}
instance:ak Tryz.prog 147 true 10:={}
instance:aW Tryz.prog 147 #[.slice none 0 0,.slice none 0 0,.slice none 0 0,.slice none 0 0,.slice none 0 0,.slice none 0 0,.slice none 0 0,.map none,.slice none 0 0,.slice none 0 0]:={}
instance:aT Tryz.prog 148 (.int .i16):=⟨Tryz.underlying148⟩
instance:ak Tryz.prog 148 false 1:={}
instance:aW Tryz.prog 148 #[.int .i16 0]:={}
instance:aT Tryz.prog 149 (.array 256 148):=⟨Tryz.underlying149⟩
instance:ak Tryz.prog 149 true 256:={}
instance:aW Tryz.prog 149 (List.replicate 256 (.int .i16 0:Value)).toArray:={}
instance:aT Tryz.prog 150 (.array 256 148):=⟨Tryz.underlying150⟩
instance:ak Tryz.prog 150 true 256:={}
instance:aW Tryz.prog 150 (List.replicate 256 (.int .i16 0:Value)).toArray:={}
instance:aT Tryz.prog 156 (.map 157 3):=⟨Tryz.underlying156⟩
instance:ak Tryz.prog 156 false 1:={}
instance:aW Tryz.prog 156 #[.map none]:={}
instance:aT Tryz.prog 157 (.array 200 148):=⟨Tryz.underlying157⟩
instance:ak Tryz.prog 157 true 200:={}
instance:aW Tryz.prog 157 (List.replicate 200 (.int .i16 0:Value)).toArray:={}
instance:aT Tryz.prog 162 (.pointer 191):=⟨Tryz.underlying162⟩
instance:ak Tryz.prog 162 false 1:={}
instance:aW Tryz.prog 162 #[.pointer none]:={}
instance:aT Tryz.prog 164 (.slice 169):=⟨Tryz.underlying164⟩
instance:ak Tryz.prog 164 false 1:={}
instance:nS Tryz.prog 164 169 3 24:={}
instance:aW Tryz.prog 164 #[.slice none 0 0]:={}
instance:bx Tryz.prog 168 0 0:={}
instance:bx Tryz.prog 168 1 1:={}
instance:bx Tryz.prog 168 2 2:={}
instance:ak Tryz.prog 168 true 3:={}
instance:aW Tryz.prog 168 #[.int .i64 0,.int .i64 0,.int .i64 0]:={}
instance:bx Tryz.prog 169 0 0:={}
instance:bx Tryz.prog 169 1 1:={}
instance:bx Tryz.prog 169 2 2:={}
instance:ak Tryz.prog 169 true 3:={}
instance:aW Tryz.prog 169 #[.int .i64 0,.int .i64 0,.int .i64 0]:={}
instance:aT Tryz.prog 172 (.int .u64):=⟨Tryz.underlying172⟩
instance:ak Tryz.prog 172 false 1:={}
instance:aW Tryz.prog 172 #[.int .u64 0]:={}
instance:aT Tryz.prog 176 (.pointer 3):=⟨Tryz.underlying176⟩
instance:ak Tryz.prog 176 false 1:={}
instance:aW Tryz.prog 176 #[.pointer none]:={}
instance:aT Tryz.prog 180 (.array 4 63):=⟨Tryz.underlying180⟩
instance:ak Tryz.prog 180 true 4:={}
instance:aW Tryz.prog 180 #[.int .u64 0,.int .u64 0,.int .u64 0,.int .u64 0]:={}
instance:aT Tryz.prog 186 (.map 188 3):=⟨Tryz.underlying186⟩
instance:ak Tryz.prog 186 false 1:={}
instance:aW Tryz.prog 186 #[.map none]:={}
instance:bx Tryz.prog 187 0 0:={}
instance:bx Tryz.prog 187 1 1:={}
instance:ak Tryz.prog 187 true 257:={}
instance:aW Tryz.prog 187 (([.int .i64 0]:List Value)++List.replicate 256 (.int .i16 0:Value)).toArray:={}
instance:bx Tryz.prog 188 0 0:={}
instance:bx Tryz.prog 188 1 1:={}
instance:ak Tryz.prog 188 true 257:={}
instance:aW Tryz.prog 188 (([.int .i64 0]:List Value)++List.replicate 256 (.int .i16 0:Value)).toArray:={}
instance:aT Tryz.prog 189 (.map 205 63):=⟨Tryz.underlying189⟩
instance:ak Tryz.prog 189 false 1:={}
instance:aW Tryz.prog 189 #[.map none]:={}
instance:bx Tryz.prog 190 0 0:={}
instance:bx Tryz.prog 190 1 3:={}
instance:ak Tryz.prog 190 true 4:={}
instance:aW Tryz.prog 190 #[.int .i64 0,.int .i64 0,.slice none 0 0,.map none]:={}
instance:bx Tryz.prog 191 0 0:={}
instance:bx Tryz.prog 191 1 3:={}
instance:ak Tryz.prog 191 true 4:={}
instance:aW Tryz.prog 191 #[.int .i64 0,.int .i64 0,.slice none 0 0,.map none]:={}
instance:aT Tryz.prog 192 (.slice 5):=⟨Tryz.underlying192⟩
instance:ak Tryz.prog 192 false 1:={}
instance:nS Tryz.prog 192 5 1 1:={}
instance:aW Tryz.prog 192 #[.slice none 0 0]:={}
instance:aT Tryz.prog 193 (.map 169 3):=⟨Tryz.underlying193⟩
instance:ak Tryz.prog 193 false 1:={}
instance:aW Tryz.prog 193 #[.map none]:={}
instance:aT Tryz.prog 203 (.pointer 180):=⟨Tryz.underlying203⟩
instance:ak Tryz.prog 203 false 1:={}
instance:aW Tryz.prog 203 #[.pointer none]:={}
instance:bx Tryz.prog 204 0 0:={}
instance:bx Tryz.prog 204 1 1:={}
instance:ak Tryz.prog 204 true 2:={}
instance:aW Tryz.prog 204 #[.int .i64 0,.int .i64 0]:={}
instance:bx Tryz.prog 205 0 0:={}
instance:bx Tryz.prog 205 1 1:={}
instance:ak Tryz.prog 205 true 2:={}
instance:aW Tryz.prog 205 #[.int .i64 0,.int .i64 0]:={}
instance:aT Tryz.prog 212 (.int .i64):=⟨Tryz.underlying212⟩
instance:ak Tryz.prog 212 false 1:={}
instance:aW Tryz.prog 212 #[.int .i64 0]:={}
instance:aT Tryz.prog 219 (.int .u32):=⟨Tryz.underlying219⟩
instance:ak Tryz.prog 219 false 1:={}
instance:aW Tryz.prog 219 #[.int .u32 0]:={}
instance:aT Tryz.prog 226 (.int .u64):=⟨Tryz.underlying226⟩
instance:ak Tryz.prog 226 false 1:={}
instance:aW Tryz.prog 226 #[.int .u64 0]:={}
instance:aT Tryz.prog 233 (.pointer 226):=⟨Tryz.underlying233⟩
instance:ak Tryz.prog 233 false 1:={}
instance:aW Tryz.prog 233 #[.pointer none]:={}
instance:aT Tryz.prog 247 (.pointer 5):=⟨Tryz.underlying247⟩
instance:ak Tryz.prog 247 false 1:={}
instance:aW Tryz.prog 247 #[.pointer none]:={}
instance:bx Tryz.prog 250 0 0:={}
instance:bx Tryz.prog 250 1 1:={}
instance:bx Tryz.prog 250 2 2:={}
instance:bx Tryz.prog 250 3 3:={}
instance:bx Tryz.prog 250 4 4:={}
instance:bx Tryz.prog 250 5 5:={}
instance:bx Tryz.prog 250 6 6:={}
instance:bx Tryz.prog 250 7 7:={}
instance:bx Tryz.prog 250 8 8:={}
instance:bx Tryz.prog 250 9 9:={}
instance:bx Tryz.prog 250 10 10:={}
instance:ak Tryz.prog 250 true 11:={}
instance:aW Tryz.prog 250 #[.int .u64 0,.int .u64 0,.int .u32 0,.int .u8 0,.int .u8 0,.int .u8 0,.int .u8 0,.nilFunc,.pointer none,.int .i32 0,.int .i32 0]:={}
instance:aj Tryz.prog 3:={}
instance:aj Tryz.prog 4:={}
instance:aj Tryz.prog 5:={}
instance:aj Tryz.prog 6:={}
instance:aj Tryz.prog 7:={}
instance:aj Tryz.prog 8:={}
instance:aj Tryz.prog 9:={}
instance:aj Tryz.prog 10:={}
instance:aj Tryz.prog 11:={}
instance:aj Tryz.prog 12:={}
instance:aj Tryz.prog 13:={}
instance:aj Tryz.prog 14:={}
instance:aj Tryz.prog 15:={}
instance:aj Tryz.prog 16:={}
instance:aj Tryz.prog 17:={}
instance:aj Tryz.prog 18:={}
instance:aj Tryz.prog 19:={}
instance:aj Tryz.prog 20:={}
instance:aj Tryz.prog 21:={}
instance:aj Tryz.prog 22:={}
instance:aj Tryz.prog 23:={}
instance:aj Tryz.prog 24:={}
instance:aj Tryz.prog 25:={}
instance:aj Tryz.prog 26:={}
instance:aj Tryz.prog 27:={}
instance:aj Tryz.prog 28:={}
instance:aj Tryz.prog 29:={}
instance:aj Tryz.prog 30:={}
instance:aj Tryz.prog 31:={}
instance:aj Tryz.prog 32:={}
instance:aj Tryz.prog 33:={}
instance:aj Tryz.prog 34:={}
instance:aj Tryz.prog 35:={}
instance:aj Tryz.prog 36:={}
instance:aj Tryz.prog 37:={}
instance:aj Tryz.prog 38:={}
instance:aj Tryz.prog 39:={}
instance:aj Tryz.prog 40:={}
instance:aj Tryz.prog 41:={}
instance:aj Tryz.prog 42:={}
instance:aj Tryz.prog 43:={}
instance:aj Tryz.prog 44:={}
instance:aj Tryz.prog 45:={}
instance:aj Tryz.prog 46:={}
instance:aj Tryz.prog 47:={}
instance:aj Tryz.prog 48:={}
instance:aj Tryz.prog 49:={}
instance:aj Tryz.prog 50:={}
instance:aj Tryz.prog 51:={}
instance:aj Tryz.prog 52:={}
instance:aj Tryz.prog 53:={}
instance:aj Tryz.prog 54:={}
instance:aj Tryz.prog 55:={}
instance:aj Tryz.prog 56:={}
instance:aj Tryz.prog 57:={}
instance:aj Tryz.prog 58:={}
instance:aj Tryz.prog 59:={}
instance:aj Tryz.prog 60:={}
instance:aj Tryz.prog 61:={}
instance:aj Tryz.prog 62:={}
instance:aj Tryz.prog 63:={}
instance:aj Tryz.prog 64:={}
instance:aj Tryz.prog 65:={}
instance:aj Tryz.prog 66:={}
instance:aj Tryz.prog 67:={}
instance:aj Tryz.prog 68:={}
instance:aj Tryz.prog 69:={}
instance:aj Tryz.prog 70:={}
instance:aj Tryz.prog 71:={}
instance:aj Tryz.prog 72:={}
instance:aj Tryz.prog 73:={}
instance:aj Tryz.prog 74:={}
instance:aj Tryz.prog 75:={}
instance:aj Tryz.prog 76:={}
instance:aj Tryz.prog 77:={}
instance:aj Tryz.prog 78:={}
instance:aj Tryz.prog 79:={}
instance:aj Tryz.prog 80:={}
instance:aj Tryz.prog 81:={}
instance:aj Tryz.prog 82:={}
instance:aj Tryz.prog 83:={}
instance:aj Tryz.prog 84:={}
instance:aj Tryz.prog 85:={}
instance:aj Tryz.prog 86:={}
instance:aj Tryz.prog 87:={}
instance:aj Tryz.prog 88:={}
instance:aj Tryz.prog 89:={}
instance:aj Tryz.prog 90:={}
instance:aj Tryz.prog 91:={}
instance:aj Tryz.prog 92:={}
instance:aj Tryz.prog 93:={}
instance:aj Tryz.prog 94:={}
instance:aj Tryz.prog 95:={}
instance:aj Tryz.prog 96:={}
instance:aj Tryz.prog 97:={}
instance:aj Tryz.prog 98:={}
instance:aj Tryz.prog 99:={}
instance:aj Tryz.prog 100:={}
instance:aj Tryz.prog 101:={}
instance:aj Tryz.prog 102:={}
instance:aj Tryz.prog 103:={}
instance:aj Tryz.prog 104:={}
instance:aj Tryz.prog 105:={}
instance:aj Tryz.prog 106:={}
instance:aj Tryz.prog 107:={}
instance:aj Tryz.prog 108:={}
instance:aj Tryz.prog 109:={}
instance:aj Tryz.prog 110:={}
instance:aj Tryz.prog 111:={}
instance:aj Tryz.prog 112:={}
instance:aj Tryz.prog 113:={}
instance:aj Tryz.prog 114:={}
instance:aj Tryz.prog 115:={}
end bH
namespace bH
open Go.RowKit bL db
theorem fin{P:Program}{f:FuncId}{args:Array Value}{w:World}(h:Calls P f args w (bU (ret (.bool true)) w)):Calls P f args w fun e w'=>e= .returned (.bool true)/\Below w.heap.size w w':=h.mono fun _ _ h=>uY h
end bH
namespace bO
def dO(x:BitVec 64):Int:=x.toNat
abbrev v64(x:BitVec 64):Value:= .int .u64 (dO x)
theorem Sw(x:BitVec 64):0<=dO x:=by unfold dO;omega
theorem Sx(x:BitVec 64):dO x<=18446744073709551615:=by have:=x.isLt;unfold dO;omega
theorem kg{x y:BitVec 64}(h:dO x=dO y):x=y:=by
 apply BitVec.eq_of_toNat_eq;unfold dO at h;omega
theorem Sy(x y:BitVec 64):(dO x==dO y)=(x==y):=by
 by_cases h:x=y
 ·subst h;simp
 ·have:dO x≠dO y:=fun e=>h (kg e)
  rw[beq_eq_false_iff_ne.2 this,beq_eq_false_iff_ne.2 h]
theorem wrap64(x:BitVec 64):IntKind.u64.wrap (dO x)=dO x:=by
 have:=x.isLt;unfold dO;rw[IntKind.wrap_u64];omega
theorem ofInt64(x:BitVec 64):BitVec.ofInt 64 (dO x)=x:=by
 apply BitVec.eq_of_toNat_eq;simp[dO]
theorem U9(x y:BitVec 64):bits .and .u64 (dO x) (dO y)=dO (x&&&y):=by
 unfold bits;simp only[IntKind.bits,ofInt64];exact wrap64 _
theorem Yg(x y:BitVec 64):bits .or .u64 (dO x) (dO y)=dO (x|||y):=by
 unfold bits;simp only[IntKind.bits,ofInt64];exact wrap64 _
theorem Q4(x y:BitVec 64):bits .xor .u64 (dO x) (dO y)=dO (x^^^y):=by
 unfold bits;simp only[IntKind.bits,ofInt64];exact wrap64 _
theorem U_(x:BitVec 64):bits .xor .u64 IntKind.u64.max (dO x)=dO (~~~ x):=by
 have h:=Q4 (BitVec.allOnes 64) x;rw[BitVec.allOnes_xor]at h;rw[<-h];rfl
theorem IC(b:Nat)(h:b<4294967296):bits .and .i64 (b:Int) 63=((b %64:Nat):Int):=by
 have e1:BitVec.ofInt 64 (b:Int)=BitVec.ofNat 64 b:=by simp
 have e2:(BitVec.ofNat 64 b&&&63#64).toNat=b %64:=by
  rw[BitVec.toNat_and,BitVec.toNat_ofNat,Nat.mod_eq_of_lt (by omega:b<2^64)];exact Nat.and_two_pow_sub_one_eq_mod b 6
 have e3:bits .and .i64 (b:Int) 63=IntKind.i64.wrap (((BitVec.ofNat 64 b&&&63#64).toNat:Nat):Int):=by
  unfold bits;simp only[IntKind.bits,e1];rfl
 rw[e3,e2,IntKind.wrap_i64];omega
theorem OF(k:Nat)(h:k<64):IntKind.u64.wrap ((2:Int)^k)=dO (BitVec.ofNat 64 (2^k)):=by
 have this:2^k<2^64:=Nat.pow_lt_pow_right (by decide) h;unfold dO;rw[BitVec.toNat_ofNat,Nat.mod_eq_of_lt this,IntKind.wrap_u64];have e:(2:Int)^k=((2^k:Nat):Int):=by simp
 rw[e];generalize 2^k=m at*;omega
structure C4 where
 a:BitVec 64
 b:BitVec 64
 c:BitVec 64
 d:BitVec 64
 deriving DecidableEq
def C4.get(x:C4)(i:Nat):BitVec 64:=if i=0 then x.a else if i=1 then x.b else if i=2 then x.c else x.d
def C4.set(x:C4)(i:Nat)(v:BitVec 64):C4:=if i=0 then {x with a:=v}else if i=1 then {x with b:=v}else if i=2 then {x with c:=v}else {x with d:=v}
def C4.zero:C4:=⟨0,0,0,0⟩
def C4.K0(x y:C4):C4:=⟨x.a&&&y.a,x.b&&&y.b,x.c&&&y.c,x.d&&&y.d⟩
def C4.not(x:C4):C4:=⟨~~~x.a,~~~x.b,~~~x.c,~~~x.d⟩
def cC(x:C4):List Value:=[.int .u64 (dO x.a),.int .u64 (dO x.b),.int .u64 (dO x.c),.int .u64 (dO x.d)]
def kh(x:C4):Value:= .agg #[.int .u64 (dO x.a),.int .u64 (dO x.b),.int .u64 (dO x.c),.int .u64 (dO x.d)]
theorem K1(x:C4)(i:Nat)(h:i<4):(cC x)[i]?=some (v64 (x.get i)):=by
 match i,h with
 |0,_=>rfl
 |1,_=>rfl
 |2,_=>rfl
 |3,_=>rfl
theorem K2(x:C4)(i:Nat)(h:i<4)(v:BitVec 64):(cC x).set i (v64 v)=cC (x.set i v):=by
 match i,h with
 |0,_=>rfl
 |1,_=>rfl
 |2,_=>rfl
 |3,_=>rfl
def C4.bit(x:C4)(n:Nat):C4:=x.set (n/64) (x.get (n/64)|||BitVec.ofNat 64 (2^(n %64)))
def C4.fV(x:C4)(b:Nat):Nat->C4
 |0=>x
 |n+1=>(C4.fV x b n).bit (b+n)
theorem K3(x:C4)(b n:Nat):(C4.fV x b n).set ((b+n)/64) ((C4.fV x b n).get ((b+n)/64)|||BitVec.ofNat 64 (2^((b+n) %64)))=C4.fV x b (n+1):=rfl
def dx(lo hi:Int):C4:=C4.fV C4.zero (max lo 0).toNat (min hi 255+1-max lo 0).toNat
theorem C4.ext'{x y:C4}(h1:x.a=y.a)(h2:x.b=y.b)(h3:x.c=y.c)(h4:x.d=y.d):x=y:=by
 cases x;cases y;simp_all
theorem b5(p q:Bool):(p||(p&&q))=p:=by cases p<;>cases q<;>rfl
end bO
namespace bO
def b8(b:Nat):Nat:=((b/4)&&&51)+(b&&&51)
def c8(b:Nat):Nat:=(b/16+b)&&&15
theorem k1:∀t<2,∀c<128,(c+128*t)&&&85=c&&&85:=by decide+kernel
theorem k2:∀t<4,∀c<64,(c+64*t)&&&51=c&&&51:=by decide+kernel
theorem k3:∀t<5,∀p<5,∀q<5,(p+(q+16*p)+16*t)&&&15=c8 (q+16*p):=by decide+kernel
def s1(x:Nat):Nat:=((x/2)&&&6148914691236517205)+(x&&&6148914691236517205)
def s2(x:Nat):Nat:=((x/4)&&&3689348814741910323)+(x&&&3689348814741910323)
def s3(x:Nat):Nat:=(x/16+x)&&&1085102592571150095
def s4(x:Nat):Nat:=x+x/256
def s5(x:Nat):Nat:=x+x/65536
def s6(x:Nat):Nat:=x+x/4294967296
end bO
namespace bO
def C4.mem(x:C4)(n:Nat):Bool:=(x.get (n/64)).toNat.testBit (n %64)
def qd(x:C4):List Nat:=(List.range 256).filter x.mem
def N6(x:C4):Nat:=(qd x).length
theorem get_mem(x:C4)(n:Nat):x.mem n=(x.get (n/64)).getLsbD (n %64):=by
 unfold C4.mem;rw[BitVec.getLsbD]
theorem Ck(n:Nat):C4.zero.mem n=false:=by
 rw[get_mem];have:C4.zero.get (n/64)=0:=by unfold C4.get C4.zero;split;rfl;split;rfl;split<;>rfl
 rw[this];simp
theorem ext_mem{x y:C4}(h:∀n,n<256->x.mem n=y.mem n):x=y:=by
 have w:∀i,i<4->x.get i=y.get i:=fun i hi=>by
  apply BitVec.eq_of_getLsbD_eq;intro j hj;have:=h (64*i+j) (by omega);rw[get_mem,get_mem,show(64*i+j)/64=i by omega,show(64*i+j) %64=j by omega]at this;exact this
 exact C4.ext' (w 0 (by decide)) (w 1 (by decide)) (w 2 (by decide)) (w 3 (by decide))
theorem ID{x:C4}{n:Nat}:n∈qd x↔n<256/\x.mem n=true:=by
 unfold qd;rw[List.mem_filter,List.mem_range]
end bO
namespace d_
open bO
inductive Rx where
 |mk (kind:Int) (c:C4) (kids:List Rx)
def Rx.kind:Rx->Int| .mk k _ _=>k
def Rx.nU:Rx->C4| .mk _ c _=>c
def Rx.kids:Rx->List Rx| .mk _ _ l=>l
def vh(k:Int):Int:=if k=1 then 0 else if k=2 then 0 else if k=3 then 0 else if k=6 then 1 else if k=4 then 2 else if k=5 then 2 else-1
mutual
def jc:Rx->Nat->Nat->Int×Nat
 | .mk k c l,deep,n=>if 100<n+1 then(2,n+1)else if 30<deep then(7,n+1)else if vh k≠(l.length:Int)then(1,n+1)else if(decide (k=3) !=decide (c≠C4.zero))=true then(1,n+1)else ub l (deep+1) (n+1)
def ub:List Rx->Nat->Nat->Int×Nat
 |[],_,n=>(0,n)
 |r::l,deep,n=>if(jc r deep n).1≠0 then jc r deep n else ub l deep (jc r deep n).2
end
mutual
def nC:Rx->Nat
 | .mk _ _ l=>mM l+1
def mM:List Rx->Nat
 |[]=>0
 |r::l=>nC r+mM l
end
theorem yI(r:Rx):0<nC r:=by obtain⟨k,c,l⟩:=r;rw[nC];omega
theorem vj:∀{l:List Rx} {r:Rx},r∈l->nC r<=mM l
 |x::l,r,h=>by
  rw[mM];rcases List.mem_cons.1 h with rfl|h
  ·omega
  ·have:=vj h;omega
inductive Re where
 |none
 |empty
 |byte (c:C4)
 |Ay (a b:Re)
 |Az (a b:Re)
 |star (a:Re)
def Re.size:Re->Nat
 | .Ay a b=>a.size+b.size+1
 | .Az a b=>a.size+b.size+1
 | .star a=>a.size+1
 |_=>1
def Re.N7:Re->Nat
 | .Ay a b=>max a.N7 b.N7+1
 | .Az a b=>max a.N7 b.N7+1
 | .star a=>a.N7+1
 |_=>1
def Re.nz:Re->Prop
 | .byte c=>c≠C4.zero
 | .Ay a b=>a.nz/\b.nz
 | .Az a b=>a.nz/\b.nz
 | .star a=>a.nz
 |_=>True
def Re.kind:Re->Int
 | .none=>1
 | .empty=>2
 | .byte _=>3
 | .Ay _ _=>4
 | .Az _ _=>5
 | .star _=>6
def Re.nU:Re->C4
 | .byte c=>c
 |_=>C4.zero
def Re.kids:Re->List Re
 | .Ay a b=>[a,b]
 | .Az a b=>[a,b]
 | .star a=>[a]
 |_=>[]
def il:Re->Rx
 | .none=> .mk 1 C4.zero []
 | .empty=> .mk 2 C4.zero []
 | .byte c=> .mk 3 c []
 | .Ay a b=> .mk 4 C4.zero [il a,il b]
 | .Az a b=> .mk 5 C4.zero [il a,il b]
 | .star a=> .mk 6 C4.zero [il a]
theorem Sz(r:Re):il r= .mk r.kind r.nU (r.kids.map il):=by cases r<;>rfl
theorem Re.size_pos(r:Re):0<r.size:=by cases r<;>simp[Re.size]
theorem G9{α:Type}{l:List α}(h:l.length=2):∃a b,l=[a,b]:=
 match l,h with
 |[a,b],_=>⟨a,b,rfl⟩
structure Fit(r:Re)(deep n:Nat):Prop where
 nz:r.nz
 sz:n+r.size<=100
 dp:deep+r.N7<=31
theorem vm{p:Int×Nat}{q:Nat}(h:p=(0,q)):p.1=0/\p.2=q:=by subst h;exact⟨rfl,rfl⟩
theorem AA:∀(N:Nat) (r:Rx) (deep n q:Nat),nC r<=N->jc r deep n=(0,q)->∃e:Re,r=il e/\Fit e deep n/\q=n+e.size
  |0,r,_,_,_,h,_=>by have:=yI r;omega
  | N + 1,.mk k c l,deep,n,q,hN,h=>by
    have IH:=AA N;rw[nC]at hN;rw[jc]at h;split at h
    · simp at h
    split at h
    · simp at h
    split at h
    · simp at h
    split at h
    · simp at h
    rename_i h1 h2 h3 h4
    have h3:vh k=(l.length:Int):=by simpa using h3
    have h4:decide (k=3)=decide (c≠C4.zero):=by
      generalize decide (k=3)=x at*;generalize decide (c≠C4.zero)=y at*
      cases x<;>cases y<;>simp_all
    have leaf:∀e:Re,k=e.kind->c=e.nU->l=[]->e.kids=[]->e.size=1->e.N7=1->e.nz->∃e:Re,Rx.mk k c l=il e/\Fit e deep n/\q=n+e.size:=fun e a1 a2 a3 a4 a5 a6 a7=>by
      subst a1 a2 a3;rw[ub]at h;refine⟨e,by rw[Sz,a4];rfl,⟨a7,by omega,by omega⟩,?_⟩;simp at h;omega
    unfold vh at h3;have hz:k≠3->c=C4.zero:=fun hk=>by
      rw[decide_eq_false hk]at h4;exact Classical.byContradiction fun hc=>by rw[decide_eq_true hc]at h4;cases h4
    by_cases k1:k=1
    · rw[if_pos k1]at h3
      exact leaf .none k1 (hz (by omega)) (List.eq_nil_of_length_eq_zero (by omega)) rfl rfl rfl trivial
    rw[if_neg k1]at h3
    by_cases k2:k=2
    · rw[if_pos k2]at h3
      exact leaf .empty k2 (hz (by omega)) (List.eq_nil_of_length_eq_zero (by omega)) rfl rfl rfl trivial
    rw[if_neg k2]at h3
    by_cases k3:k=3
    · rw[if_pos k3]at h3
      rw[decide_eq_true k3]at h4;exact leaf (.byte c) k3 rfl (List.eq_nil_of_length_eq_zero (by omega)) rfl rfl rfl (by show c≠C4.zero;exact of_decide_eq_true h4.symm)
    rw[if_neg k3]at h3;have hc:=hz k3;subst hc;have two:∀(a b:Rx),l=[a,b]->∃x y:Re,a=il x/\b=il y/\Fit x (deep+1) (n+1)/\Fit y (deep+1) (n+1+x.size)/\q=n+1+x.size+y.size:=fun a b hl=>by
      subst hl;rw[mM,mM,mM]at hN;rw[ub,ub,ub]at h
      by_cases e1:(jc a (deep+1) (n+1)).1=0
      · rw[if_neg (by simpa using e1)]at h
        obtain⟨x,rfl,f1,g1⟩:=IH a (deep+1) (n+1) (jc a (deep+1) (n+1)).2 (by omega) (Prod.ext e1 rfl);rw[g1]at h
        by_cases e2:(jc b (deep+1) (n+1+x.size)).1=0
        · rw[if_neg (by simpa using e2)]at h
          obtain⟨y,rfl,f2,g2⟩:=IH b (deep+1) (n+1+x.size) (jc b (deep+1) (n+1+x.size)).2 (by omega) (Prod.ext e2 rfl);exact⟨x,y,rfl,rfl,f1,f2,by rw[g2]at h;simp at h;omega⟩
        · rw[if_pos e2]at h
          exact absurd (vm h).1 e2
      · rw[if_pos e1]at h
        exact absurd (vm h).1 e1
    by_cases k6:k=6
    · rw[if_pos k6]at h3
      obtain⟨a,rfl⟩:∃a,l=[a]:=List.length_eq_one_iff.1 (by omega);rw[mM,mM]at hN;rw[ub,ub]at h
      by_cases e1:(jc a (deep+1) (n+1)).1=0
      · rw[if_neg (by simpa using e1)]at h
        obtain⟨x,rfl,f1,g1⟩:=IH a (deep+1) (n+1) (jc a (deep+1) (n+1)).2 (by omega) (Prod.ext e1 rfl);have:=f1.sz;have:=f1.dp;exact⟨.star x,by rw[k6];rfl,⟨f1.nz,by simp only[Re.size];omega,by simp only[Re.N7];omega⟩,by rw[g1]at h;simp at h;simp only[Re.size];omega⟩
      · rw[if_pos e1]at h
        exact absurd (vm h).1 e1
    rw[if_neg k6]at h3
    by_cases k4:k=4
    · rw[if_pos k4]at h3
      obtain⟨a,b,rfl⟩:∃a b,l=[a,b]:=G9 (by omega);obtain⟨x,y,rfl,rfl,f1,f2,g⟩:=two a b rfl;have:=f1.dp;have:=f2.dp;have:=f2.sz;exact⟨.Ay x y,by rw[k4];rfl,⟨⟨f1.nz,f2.nz⟩,by simp only[Re.size];omega,by simp only[Re.N7];omega⟩,by simp only[Re.size];omega⟩
    rw[if_neg k4]at h3
    by_cases k5:k=5
    · rw[if_pos k5]at h3
      obtain⟨a,b,rfl⟩:∃a b,l=[a,b]:=G9 (by omega);obtain⟨x,y,rfl,rfl,f1,f2,g⟩:=two a b rfl;have:=f1.dp;have:=f2.dp;have:=f2.sz;exact⟨.Az x y,by rw[k5];rfl,⟨⟨f1.nz,f2.nz⟩,by simp only[Re.size];omega,by simp only[Re.N7];omega⟩,by simp only[Re.size];omega⟩
    rw[if_neg k5]at h3;omega
inductive xY(P:List UInt8->Prop):List UInt8->Prop
 |nil:xY P []
 |cons {u v:List UInt8}:P u->xY P v->xY P (u++v)
def Cm:Re->List UInt8->Prop
 | .none,_=>False
 | .empty,s=>s=[]
 | .byte c,s=>∃b:UInt8,s=[b]/\c.mem b.toNat=true
 | .Ay a b,s=>∃u v,s=u++v/\Cm a u/\Cm b v
 | .Az a b,s=>Cm a s\/Cm b s
 | .star a,s=>xY (Cm a) s
theorem IE{P:List UInt8->Prop}{u v:List UInt8}(h:xY P u)(hv:P v):xY P (u++v):=by
 induction h with
 |nil=>have:=xY.cons hv .nil;simpa using this
 |cons h1 _ ih=>rw[List.append_assoc];exact .cons h1 ih
def EM(s:List UInt8)(f j:Nat):List UInt8:=(s.drop f).take (j-f)
theorem AB{s:List UInt8}{f j:Nat}(h:j<=s.length):(EM s f j).length=j-f:=by unfold EM;rw[List.length_take,List.length_drop];omega
theorem K4(s:List UInt8)(f:Nat):EM s f f=[]:=by unfold EM;simp
theorem G_{s:List UInt8}{f i j:Nat}(h1:f<=i)(h2:i<=j):EM s f j=EM s f i++EM s i j:=by
 unfold EM;rw[show j-f=(i-f)+(j-i)by omega,List.take_add,List.drop_drop,show f+(i-f)=i by omega]
theorem OG{s u v:List UInt8}{f j:Nat}(hf:f<=j)(hj:j<=s.length)(h:EM s f j=u++v):f+u.length<=j/\u=EM s f (f+u.length)/\v=EM s (f+u.length) j:=by
 have hl:=AB (s:=s) (f:=f) hj;rw[h,List.length_append]at hl;have h1:f+u.length<=j:=by omega
 have e:=G_ (s:=s) (f:=f) (i:=f+u.length) (j:=j) (by omega) h1;rw[h]at e;have hlu:u.length=(EM s f (f+u.length)).length:=by rw[AB (by omega)];omega
 have:=List.append_inj e hlu;exact⟨h1,this.1,this.2⟩
def IF(r:Re)(s:List UInt8)(f j:Nat):Prop:=f<=j/\j<=s.length/\Cm r (EM s f j)
inductive N8(R:Nat->Nat->Prop)(f:Nat):Nat->Prop
 |refl:N8 R f f
 |step {i j:Nat}:N8 R f i->R i j->N8 R f j
theorem N8.cons{R:Nat->Nat->Prop}{f i j:Nat}(h:R f i)(h':N8 R i j):N8 R f j:=by
 induction h' with
 |refl=>exact .step .refl h
 |step _ h2 ih=>exact .step ih h2
theorem K5{a:Re}{s:List UInt8}{f j:Nat}(hf:f<=s.length):IF (.star a) s f j↔N8 (IF a s) f j:=by
  constructor
  · rintro⟨h1,h2,h⟩
    have h:xY (Cm a) (EM s f j):=h;have aux:∀w,xY (Cm a) w->∀f,f<=j->EM s f j=w->N8 (IF a s) f j:=by
      intro w hw
      induction hw with
      | nil=>
        intro f uo e;have:=AB (s:=s) (f:=f) h2;rw[e]at this;have:f=j:=by simp at this;omega
        subst this;exact .refl
      | cons hu _ ih=>
        intro f uo e;obtain⟨a1,a2,a3⟩:=OG uo h2 e;exact N8.cons ⟨Nat.le_add_right _ _,by omega,by rw[<-a2];exact hu⟩ (ih _ a1 a3.symm)
    exact aux _ h f h1 rfl
  · intro h
    induction h with
    |refl=>exact⟨Nat.le_refl _,hf,by rw[K4];exact xY.nil⟩
    | step _ h2 ih=>
      obtain⟨a1,a2,a3⟩:=ih;obtain⟨b1,b2,b3⟩:=h2;exact⟨by omega,b2,by rw[G_ a1 b1];exact IE a3 b3⟩
def U'(s:List UInt8)(r:Re)(f:Nat)(c:C4):Prop:=∀j,j<256->(c.mem j=true↔IF r s f j)
end d_
namespace d_
open bO
abbrev IG:=List UInt8
structure RS where
 p:Nat
 o:Nat
 e:Int
def Yh:IG:=[48,49,50,51,52,53,54,55,56,57,97,98,99,100,101,102]
def SA:IG:=[40,41,91,93,124,42,43,63,46,94,45,92]
section
variable{s:IG}
structure II(s:IG)(st Yi:RS):Prop where
 o:Yi.o=st.o
 ge:st.p<=Yi.p
 le:Yi.p<=s.length
theorem II.trans{a b c:RS}(h:II s a b)(h':II s b c):II s a c:=⟨by rw[h'.o,h.o],Nat.le_trans h.ge h'.ge,h'.le⟩
theorem II.refl{st:RS}(h:st.p<=s.length):II s st st:=⟨rfl,Nat.le_refl _,h⟩
end
end d_
namespace d_
open bO
def Va(n:Nat):UInt8:=Yh.getD n 0
def K6(b:UInt8):IG:=
 if b=10 then [92,110]else if b=9 then [92,116]else if b=32 then [92,115]
 else if b<33\/126<b then [92,120,Va (b.toNat/16),Va (b.toNat %16)]
 else if b∈SA then [92,b]else [b]
def SB:Nat->List Nat->Nat
 |_,[]=>0
 |b,x::r=>if x=b+1 then SB (b+1) r+1 else 0
def Vb(b k:Nat):IG:=K6 (UInt8.ofNat b)++((if 1<k then [45]else [])++(if 0<k then K6 (UInt8.ofNat (b+k))else []))
def EN:Nat->List Nat->IG
 |0,_=>[]
 |_+1,[]=>[]
 |f+1,b::r=>Vb b (SB b r)++EN f (r.drop (SB b r))
def SC(c:C4):IG:=
 if N6 c=1 then K6 (UInt8.ofNat ((qd c).getD 0 0))
 else if N6 c=255/\c.mem 10=false then [46]
 else if 128<N6 c then [91,94]++(EN 256 (qd c.not)++[93])
 else [91]++(EN 256 (qd c)++[93])
def K7(lv:Nat)(e:Re):Bool:=decide (1<=lv/\e.kind=5\/2<=lv/\e.kind=4\/3<=lv/\e.kind=6)
def wrap(b:Bool)(t:IG):IG:=if b then [40]++(t++[41])else t
def body:Re->IG
 | .empty=>[40,41]
 | .none=>[91,93]
 | .byte c=>SC c
 | .star a=>wrap (K7 3 a) (body a)++[42]
 | .Ay a b=>wrap (K7 1 a) (body a)++wrap (K7 2 b) (body b)
 | .Az a b=>wrap (K7 0 a) (body a)++([124]++wrap (K7 1 b) (body b))
section
end
end d_
namespace bH
open Go.RowKit bL db Go.ChangeShapes Go.WideShapes Go.ChangeAt
section
variable{H:Type}{enc0:TypeId×Value->H}{P:Program}{W:World}
def N9{α:Type}(W:World)(is:List Value->α->Prop)(c:Nat)(v:Value)(l:List α):Prop:=
 ∃base cap,v= .slice base l.length cap/\l.length<=cap/\cap<=maxLen/\(0<l.length->∃b off,base=some ⟨b,off,none⟩/\∀i (h:i<l.length),∃cs,is cs l[i]/\Rd W b (off+i*c) cs)
def nV(enc0:TypeId×Value->H)(P:Program)(W:World)(t:TypeId){α:Type}(is:List Value->α->Prop):Prop:=
 ∀fuel cs x,DataW.trod enc0 P W 0 (fun _=>true) true fuel t cs=some x->∃a,is cs a
theorem nV.mono{t:TypeId}{α:Type}{is Vc:List Value->α->Prop}(h:nV enc0 P W t is)(hi:∀cs a,is cs a->Vc cs a):nV enc0 P W t Vc:=fun f cs x hx=>let ⟨a,ha⟩:=h f cs x hx;⟨a,hi _ _ ha⟩
def isInt(k:IntKind)(lo hi:Int)(cs:List Value)(n:Int):Prop:=cs=[.int k n]/\lo<=n/\n<=hi
def Vd(cs:List Value)(s:List UInt8):Prop:=cs=[str s]/\s.length<=9223372036854775807
theorem yJ{t:TypeId}{k:IntKind}(ht:P.underlying t=some (.int k)):nV enc0 P W t (isInt k k.min k.max):=fun f cs x h=>by
 obtain⟨n,h1,_,h3⟩:=DataW.trod_int ht h;simp only[Lit.wf,Bool.and_eq_true,decide_eq_true_eq]at h3;exact⟨n,h1,h3.1,h3.2⟩
theorem IJ{t:TypeId}(ht:P.underlying t=some (.int .i64)):nV enc0 P W t (isInt .i64 (-9223372036854775808) 9223372036854775807):=(yJ ht).mono fun cs n h=>⟨h.1,by simpa[IntKind.min,IntKind.signed,IntKind.bits]using h.2.1,by simpa[IntKind.max,IntKind.signed,IntKind.bits]using h.2.2⟩
theorem IK{t:TypeId}(ht:P.underlying t=some (.int .u64)):nV enc0 P W t (isInt .u64 0 18446744073709551615):=(yJ ht).mono fun cs n h=>⟨h.1,by simpa[IntKind.min,IntKind.signed,IntKind.bits]using h.2.1,by simpa[IntKind.max,IntKind.signed,IntKind.bits]using h.2.2⟩
def Ve{α:Type}(W:World)(is:List Value->α->Prop)(c:Nat)(cs:List Value)(l:List α):Prop:=∃v,cs=[v]/\N9 W is c v l
def Q5{α:Type}(is:List Value->α->Prop)(m c:Nat)(cs:List Value)(l:List α):Prop:=l.length=m/\∀i (h:i<l.length),is ((cs.drop (i*c)).take c) l[i]
theorem Cn{t e:TypeId}{m c:Nat}(ht:P.underlying t=some (.array m e))(hc:P.cellsOf e=c){α:Type}{is:List Value->α->Prop}(hd:nV enc0 P W e is):nV enc0 P W t (fun cs l=>cs.length=P.cellsOf t/\Q5 is m c cs l):=fun fuel cs x h=>by
 obtain⟨xs,n,_,_,hl,hlen,hf⟩:=DataW.trod_array ht h;have each:∀i,i<m->∃y:α,is ((cs.drop (i*c)).take c) y:=fun i hi=>by
  have h1:=hf i hi;rw[hc,List.getElem?_eq_getElem (by omega)]at h1;exact hd n _ _ h1
 obtain⟨l,Er,hp⟩:=qU m each;exact⟨l,hl,Er,fun i hi=>hp i _ (List.getElem?_eq_getElem hi)⟩
def K8(k:IntKind)(lo hi:Int)(m:Nat)(cs:List Value)(l:List Int):Prop:=l.length=m/\cs=l.map (.int k)/\∀x∈l,lo<=x/\x<=hi
theorem Co{k:IntKind}{lo hi:Int}{m:Nat}{cs:List Value}{l:List Int}(hl:cs.length=m)(h:Q5 (isInt k lo hi) m 1 cs l):K8 k lo hi m cs l:=by
 obtain⟨h1,h2⟩:=h;refine⟨h1,?_,fun x hx=>?_⟩
 ·apply List.ext_getElem?
  intro i
  by_cases hi:i<l.length
  ·have h3:=(h2 i hi).1
   rw[Nat.mul_one]at h3;have hic:i<cs.length:=by omega
   rw[List.drop_eq_getElem_cons hic,List.take_succ_cons,List.take_zero]at h3;injection h3 with h3 _
   rw[List.getElem?_eq_getElem hic,List.getElem?_map,List.getElem?_eq_getElem hi,h3];rfl
  ·rw[List.getElem?_eq_none (by omega),List.getElem?_eq_none (by simp;omega)]
 ·obtain⟨i,hi,rfl⟩:=List.mem_iff_getElem.1 hx
  exact(h2 i hi).2
theorem OH{t:TypeId}{fs:Array Field}(ht:P.underlying t=some (.struct fs)){base:Nat}{v:Value}{d:DataW H}{ps:List MemPlace}(hv:Value.okWide P W .any base t v)(h:DataW.Trod enc0 P W 0 (fun _=>true) true t v d ps):∃cs fuel,v= .agg cs/\DataW.trod enc0 P W 0 (fun _=>true) true fuel t cs.toList=some (d,ps):=by
 simp only[Value.okWide,ht]at hv;obtain⟨cs,rfl,_,_⟩:=hv;obtain⟨fuel,hf⟩:=h;exact⟨cs,fuel,rfl,hf⟩
end
theorem N9.sl{α:Type}{W:World}{is:List Value->α->Prop}{f:α->Value}{v:Value}{l:List α}(h:N9 W is 1 v l)(hf:∀cs a,is cs a->cs=[f a]):Sl W v l.length (l.map f):=by
 obtain⟨base,cap,h1,h2,h3,h4⟩:=h;refine⟨base,cap,h1,h2,h3,fun h0=>?_⟩;obtain⟨b,off,h5,h6⟩:=h4 h0;refine⟨b,off,h5,fun j u hj=>?_⟩;have GV:j<l.length:=by simpa using(List.getElem?_eq_some_iff.1 hj).1
 obtain⟨cs,h7,h8⟩:=h6 j GV;have:=h8 0 (f l[j]) (by rw[hf _ _ h7];rfl);simp only[Nat.mul_one,Nat.add_zero]at this;rw[this,<-hj];simp[GV]
end bH
namespace bH
open Go.RowKit bL db
section
variable{α:Type}{f:α->List Value}{c:Nat}
theorem qe(hc:∀a,(f a).length=c):∀(l:List α) (k j:Nat) (h:k<l.length),j<c->(l.flatMap f)[k*c+j]?=(f l[k])[j]?
 |a::r,0,j,h,hj=>by
  rw[List.flatMap_cons,List.getElem?_append_left (by rw[hc];omega)];simp
 |a::r,k+1,j,h,hj=>by
  have ih:=qe hc r k j (by simpa using h) hj;rw[List.flatMap_cons,List.getElem?_append_right (by rw[hc,Nat.succ_mul];omega),hc];simp only[List.getElem_cons_succ];rw[<-ih,Nat.succ_mul]
  congr 1
  omega
theorem mN(hc:∀a,(f a).length=c):∀(l:List α),(l.flatMap f).length=l.length*c
 |[]=>by simp
 |a::r=>by rw[List.flatMap_cons,List.length_append,hc,mN hc r,List.length_cons,Nat.succ_mul,Nat.add_comm]
theorem fx(hc:∀a,(f a).length=c){W:World}{L:List bz}{b off:Nat}{l:List α}(h:Rd W b off (l.flatMap f)){k:Nat}(hk:k<l.length)(j:Nat)(u:Value)(hu:(f l[k])[j]?=some u):At W L ⟨b,off+k*c+j,none⟩ u:=by
 have hj:j<c:=by rw[<-hc l[k]];exact(List.getElem?_eq_some_iff.1 hu).1
 rw[Nat.add_assoc];exact iD h (by rw[qe hc l k j hk hj];exact hu)
theorem qf(hc:∀a,(f a).length=c){W:bB}{L:List bz}{b off:Nat}{l:List α}(h:∀j u,(l.flatMap f)[j]?=some u->At W L ⟨b,off+j,none⟩ u){k:Nat}(hk:k<l.length)(j:Nat)(u:Value)(hu:(f l[k])[j]?=some u):At W L ⟨b,off+k*c+j,none⟩ u:=by
 have hj:j<c:=by rw[<-hc l[k]];exact(List.getElem?_eq_some_iff.1 hu).1
 rw[Nat.add_assoc];exact h _ _ (by rw[qe hc l k j hk hj];exact hu)
theorem q7(hc:∀a,(f a).length=c){W:bB}{L:List bz}{i g m cap n size:Nat}{e:TypeId}{l:List α}(hi:L[i]?=some (aI e size (.slice (some ⟨g,0,none⟩) m cap) n (l.flatMap f))){k:Nat}(hk:k<l.length)(j:Nat)(u:Value)(hu:(f l[k])[j]?=some u):At W L ⟨g,0+k*c+j,none⟩ u:=
 qf hc (off:=0) (fun q x hq=>by rw[Nat.zero_add];exact f_ hi hq) hk j u hu
end
def q8{α:Type}(p:α->Bool)(l:List α):Int:=match l.findIdx? p with|some i=>i|none=> -1
theorem yK{α:Type}{p:α->Bool}{l:List α}{i:Nat}(hi:i<l.length)(h:p l[i]=true)(hb:∀j (hj:j<l.length),j<i->p l[j]=false):q8 p l=i:=by
 have:l.findIdx? p=some i:=List.findIdx?_eq_some_iff_getElem.2 ⟨hi,h,fun j Ao=>by simpa using hb j (by omega) Ao⟩;simp[q8,this]
theorem yL{α:Type}{p:α->Bool}{l:List α}(hb:∀j (hj:j<l.length),p l[j]=false):q8 p l= -1:=by
 have:l.findIdx? p=none:=List.findIdx?_eq_none_iff.2 fun x hx=>by
  obtain⟨j,hj,rfl⟩:=List.mem_iff_getElem.1 hx;exact hb j hj
 simp[q8,this]
theorem Cp{α:Type}(p:α->Bool)(l:List α):decide (0<=q8 p l)=l.any p:=by
 unfold q8
 cases e:l.findIdx? p with
 | none=>
  have:=List.findIdx?_eq_none_iff.1 e;have h2:l.any p=false:=by
   rw[List.any_eq_false];intro x hx;simp[this x hx]
  rw[h2];rfl
 |some i=>
  obtain⟨h1,h2,_⟩:=List.findIdx?_eq_some_iff_getElem.1 e;have h3:l.any p=true:=List.any_eq_true.2 ⟨l[i],List.getElem_mem h1,h2⟩;rw[h3];simp
theorem vv{α:Type}(p:α->Bool)(l:List α): -1<=q8 p l/\q8 p l<l.length\/q8 p l= -1:=by
 unfold q8
 cases e:l.findIdx? p with
 |none=>right;rfl
 |some i=>
  obtain⟨h1,h2,_⟩:=List.findIdx?_eq_some_iff_getElem.1 e
  left;simp only;omega
section
variable{P:Program}{n:Nat}{W:bB}{fr:Fr}{L:List bz}{Q:Exit->Act->World->Prop}{ops:Array Oper}{rest:List Oper}{d:Nat}{dst:Option Tmp}{ty:TypeId}{pos:String}{after:Array Edge}{guard:Option (Nat×Bool)}
theorem q9{t e u:TypeId}{x y:Operand}{a:Option Addr}{m c:Nat}{b:Bool}(ht:P.underlying t=some (.slice e))(hx:ev fr x=some (.slice a m c))(hy:ev fr y=some (.slice none 0 0))(hb:a.isNone=b):RR P n W ⟨dst,.binOp .eql t x y u,ty,pos,after,guard⟩ fr L (.bool b):= .mk fun ac w hr _=>by
 subst hb;have e1:(eqGuard .eql t x y (.slice a m c) (.slice none 0 0)).run P w= .ok () w:=rfl;simp[execOp,hr.ev hx,hr.ev hy,e1,Go.Lib.run_eql_slice_nil w t e a m c 0 0 ht]
theorem G'{t e:TypeId}{c bytes:Nat}[pE:nS P t e c bytes](hn:Nat.blt d n=true)
 (h:∀g,TL P n W ops Q rest ((d,.slice (some ⟨g,0,none⟩) 0 0)::fr) (L++[aI e c (.slice (some ⟨g,0,none⟩) 0 0) 0 []])):TL P n W ops Q (⟨some d,.buildSlice t 0 #[],ty,pos,after,none⟩::rest) fr L:=ia rfl fun a w hr hm K hK=>by
 obtain⟨i,z,ht,hi,hz,hc,_,Ul,h0⟩:=pE.el.ex;have e':(execOp a.eval ⟨some d,.buildSlice t 0 #[],ty,pos,after,none⟩).run P w= .ok (.value (.slice (some ⟨w.heap.size,0,none⟩) 0 0)) (w.alloc (.cells #[] e)):=by
  have hne:¬(0*c>2^24):=by omega
  simp[execOp,Instr.buildSlice,run_underlying ht,sizeOf,typeInfo,hi,Instr.fill,newRow];have e0:Array.range 0=#[]:=by simp
  rw[e0,Array.map_empty]
 unfold Oper.wp;rw[e'];exact hK _ _ ((h w.heap.size).go _ _ (hr.put hn _) (hm.append (jJ w _) (nQ.one (World.ownsRow_made w #[] 0 (Nat.zero_le _) (by decide) (by simp)) fun k hk=>by
  have:w.heap.size=k:=Option.some.inj hk;omega)))
theorem dS{t e:TypeId}{s x:Operand}{i size bytes m k:Nat}{v v2:Value}{xs ys:List Value}[pE:nS P t e size bytes](hi:L[i]?=some (aI e size v m xs))(dM:Oz W L v2 k ys)(hs:ev fr s=some v)(hx:ev fr x=some v2)(hk:ys.length=k*size)
    (h1:∀u∈ys,u.oneCell'=true) (pF:m+k<=140737488355328) (hb:(m+k)*bytes<=140737488355328) (hn:Nat.blt d n=true)
    (h:∀v',TL P n W ops Q rest ((d,v')::fr) (L.set i (aI e size v' (m+k) (xs++ys)))):
    TL P n W ops Q (⟨some d,.call {callee:= .builtin .append,args:=#[s,x],argTypes:=#[t,t]},ty,pos,after,none⟩::rest) fr L:=⟨fun a w hr hm=>by
  obtain⟨base,cap,rfl,nK,vz,eV⟩:=dM w hm;have pG:ys=[]->L.set i (aI e size v (m+0) (xs++[]))=L:=fun _=>by
    rw[List.append_nil,Nat.add_zero];apply List.ext_getElem?;intro q
    by_cases hq:i=q
    · subst hq
      rw[List.getElem?_set_self (List.getElem?_eq_some_iff.1 hi).1,hi]
    · rw[List.getElem?_set_ne hq]
  cases base with
  | none=>
    have hk0:k=0:=by
      rcases Nat.eq_zero_or_pos k with h|h
      · exact h
      · obtain⟨b,off,h,_⟩:=eV h;cases h
    subst hk0;have hy:ys=[]:=List.eq_nil_of_length_eq_zero (by rw[hk];simp);subst hy;have h2:=h v;rw[pG rfl]at h2;exact(EJ pE.el hi hs hx hn h2).go a w hr hm
  | some p=>
    have Yj:∀j u,ys[j]?=some u->w.cell? (p.add j)=some u:=fun j u hj=>by
      obtain⟨b,off,hb,hr⟩:=eV (by
        rcases Nat.eq_zero_or_pos k with h|h
        · subst h
          have:=(List.getElem?_eq_some_iff.1 hj).1;rw[hk]at this;simp at this
        · exact h)
      simp only[Option.some.injEq]at hb;subst hb;rw[ez];exact hr j u hj
    exact Aw (c:=cap) pE.el hi hs hx Yj hk h1 pF hb hn h hr hm⟩
theorem aB{i size m:Nat}{e:TypeId}{v:Value}{xs:List Value}(hi:L[i]?=some (aI e size v m xs))(h:v.cells=#[v]->v.oneCell'=true->TL P n W ops Q rest fr L):TL P n W ops Q rest fr L:=⟨fun a w hr hm=>by
 have h1:w.ownsRow 0 e size v m xs:=hm.get hi;rcases h1.2 with⟨hv,_⟩|⟨g,cap,kp,hv,_⟩
 ·exact(h (by rw[hv];rfl) (by rw[hv];rfl)).go a w hr hm
 ·exact(h (by rw[hv];rfl) (by rw[hv];rfl)).go a w hr hm⟩
def IL(base:Option Addr)(cap c i j:Nat):Value:= .slice (if cap=i then base else base.map (fun(q:Addr)=>q.add (i*c))) (j-i) (cap-i)
theorem K9{t e:TypeId}{x:Operand}{lo hi:Option Operand}{agg:Bool}{c i j len cap:Nat}{base:Option Addr}(ht:P.underlying t=some (.slice e))(he:Ty P e agg c)(hx:ev fr x=some (.slice base len cap))
 (Un:match lo with|none=>i=0|some z=>∃k,ev fr z=some (.int k (i:Int))) (Uo:match hi with|none=>j=len|some z=>∃k,ev fr z=some (.int k (j:Int))) (h1:i<=j) (h2:j<=cap):
 RR P n W ⟨dst,.slice t x lo hi none,ty,pos,after,guard⟩ fr L (IL base cap c i j):= .mk fun a w hr _=>by
 have e0:(0:Int)<=(i:Int):=by omega
 have hb:∀(k:IntKind) (p q:Nat) (cd:BoundsCode),p<=q->(Instr.sliceBound (.int k (p:Int)) q cd).run P w= .ok p w:=fun k p q cd h=>by
  have:(0:Int)<=(p:Int)/\(p:Int)<=(q:Int):=by omega
  simp[Instr.sliceBound,asIntOf,this]
 unfold IL
 cases lo<;>cases hi
 ·simp only at Un Uo
  subst Un Uo;simp[execOp,hr.ev hx,Instr.sliceAt,Instr.slice,run_underlying ht,Instr.sliceBounds,he.size]
 ·obtain⟨k,hk⟩:=Uo
  simp only at Un;subst Un;simp[execOp,hr.ev hx,hr.ev hk,Instr.sliceAt,Instr.slice,run_underlying ht,Instr.sliceBounds,he.size,hb k j cap _ h2]
 ·obtain⟨k,hk⟩:=Un
  simp only at Uo;subst Uo;simp[execOp,hr.ev hx,hr.ev hk,Instr.sliceAt,Instr.slice,run_underlying ht,Instr.sliceBounds,he.size,hb k i j _ h1]
 ·obtain⟨k,hk⟩:=Un
  obtain⟨k',jD⟩:=Uo;simp[execOp,hr.ev hx,hr.ev hk,hr.ev jD,Instr.sliceAt,Instr.slice,run_underlying ht,Instr.sliceBounds,he.size,hb k i j _ h1,hb k' j cap _ h2]
theorem sA{t e:TypeId}{x z:Operand}{agg:Bool}{c i len cap:Nat}{base:Option Addr}{k:IntKind}(ht:P.underlying t=some (.slice e))(he:Ty P e agg c)(hx:ev fr x=some (.slice base len cap))(hz:ev fr z=some (.int k (i:Int)))(h1:i<=len)(h2:len<=cap):
 RR P n W ⟨dst,.slice t x (some z) none none,ty,pos,after,guard⟩ fr L (IL base cap c i len):=K9 (lo:=some z) (hi:=none) ht he hx ⟨k,hz⟩ rfl h1 h2
theorem EO{α:Type}{f:α->List Value}{c:Nat}(hc:∀a,(f a).length=c){w:World}{base:Option Addr}{cap:Nat}{l:List α}(h:Sl w (.slice base l.length cap) l.length (l.flatMap f)){i j:Nat}(h1:i<=j)(h2:j<=l.length):
 Sl w (IL base cap c i j) ((l.drop i).take (j-i)).length (((l.drop i).take (j-i)).flatMap f):=by
 obtain⟨b,cp,he,k1,k2,k3⟩:=h;simp only[Value.slice.injEq,true_and]at he;obtain⟨rfl,rfl⟩:=he;have hlen:((l.drop i).take (j-i)).length=j-i:=by simp;omega
 refine⟨_,cap-i,by rw[hlen];rfl,by rw[hlen];omega,by omega,fun h0=>?_⟩;rw[hlen]at h0;obtain⟨b,off,rfl,hr⟩:=k3 (by omega);refine⟨b,off+i*c,by rw[if_neg (by omega),Option.map_some,ez],fun q u hq=>?_⟩;have e:l.flatMap f=(l.take i).flatMap f++((l.drop i).take (j-i)).flatMap f++((l.drop i).drop (j-i)).flatMap f:=by
  rw[<-List.flatMap_append,<-List.flatMap_append,List.append_assoc,List.take_append_drop,List.take_append_drop]
 have IM:((l.take i).flatMap f).length=i*c:=by rw[mN hc,List.length_take,Nat.min_eq_left (by omega)]
 have:=hr (i*c+q) u (by
  rw[e,List.append_assoc,List.getElem?_append_right (by omega),IM,Nat.add_sub_cancel_left,List.getElem?_append_left (List.getElem?_eq_some_iff.1 hq).1];exact hq)
 rw[Nat.add_assoc];exact this
theorem mO{i size m:Nat}{e:TypeId}{v:Value}{xs:List Value}(hi:L[i]?=some (aI e size v m xs))(h:∀base cap,v= .slice base m cap->m<=cap->cap<=9223372036854775807->TL P n W ops Q rest fr L):TL P n W ops Q rest fr L:=⟨fun a w hr hm=>by
 have h1:w.ownsRow 0 e size v m xs:=hm.get hi;obtain⟨base,cap,hv,nK,vz,_⟩:=Sl.cD h1;exact(h base cap hv nK (by unfold maxLen at vz;omega)).go a w hr hm⟩
def yM(fr:Fr):List Operand->Option (List Value)
 |[]=>some []
 |x::r=>match ev fr x,yM fr r with|some v,some l=>some (v::l)|_,_=>none
theorem vB{a:Act}(hr:jC n a fr):∀(l:List Operand) (vs:List Value),yM fr l=some vs->l.map a.eval=vs
  |[],vs,h=>by simp only[yM,Option.some.injEq]at h;subst h;rfl
  | x ::r,vs,h=>by
    simp only[yM]at h;split at h
    · rename_i v l h1 h2
      simp only[Option.some.injEq]at h;subst h;simp[hr.ev h1,vB hr r l h2]
    · cases h
theorem uy{fn:Fn}{first cap:Array Operand}{vs us:List Value}(h1:yM fr first.toList=some vs)(h2:yM fr cap.toList=some us):RR P n W ⟨dst,.makeFunc fn first cap,ty,pos,after,guard⟩ fr L (.func fn vs.toArray us.toArray):= .mk fun a w hr _=>by
 have e1:first.map a.eval=vs.toArray:=by rw[<-vB hr _ _ h1,<-Array.toList_map,Array.toArray_toList]
 have e2:cap.map a.eval=us.toArray:=by rw[<-vB hr _ _ h2,<-Array.toList_map,Array.toArray_toList]
 simp only[execOp,e1,e2];rfl
end
end bH
end Go.Proofs.YtldiodhdefnlaaaGreat

/- Part 1 of what WholeFront needs: Kit, Law, Open, Mix, Eng, Step, Ops, Opm, Cls, Opx, MixV, MixW, Go3, Ty, OpenE, ClassL, ClassQ, ClassR, RexL, RexF, RexG. -/
import Derived.WalkKit
import Derived.WalkSpells
import Derived.WalkLawsBesides
import Derived.Deep.RegionLaw
import Derived.Deep.AppendLies
import Derived.Deep.QuietTactic
import Derived.BigQuiet
import Derived.Deep.DeepCutAuto
import Derived.Lib.Hide
import Derived.Test.YtdmgcnggnejnnaaGreatRows
import Derived.ProofKit
import Derived.OpenShut
import Derived.ShutString
import Derived.SizedLaws
import Derived.JoinedCond
import Derived.Deep.CondSized
import Derived.Deep.Quiet
import Derived.StillTail
import Derived.Deep.LoopGhost
import Derived.Laws.BitsLemmas
import Derived.Laws.BytesString
import Derived.Laws.StructEq
import Derived.Test.YtdmgcnggnejnnaaGreatProg
import Derived.Laws.Entries
import Derived.Laws.BitsAllLaws
import Derived.Lib.TrailingZeros
namespace Go.Proofs.YtdmgcnggnejnnaaGreat
set_option linter.unusedVariables false
set_option linter.unusedSimpArgs false
namespace bO
open Go.RowKit
section
end
theorem Np{B:Nat}{w0 w w':World}(h:Below B w0 w)(hB:B<=w.heap.size)(hg:Below w.heap.size w w'):Below B w0 w':=h.trans (hg.mono hB)
def Nq(b:UInt8):Value:= .int .u8 b.toNat
def Rd(w:World)(g off:Nat)(xs:List Value):Prop:=∀j u,xs[j]?=some u->w.cell? ⟨g,off+j,none⟩=some u
def Wr(w:World)(g off:Nat)(xs:List Value):Prop:=∀j u,xs[j]?=some u->w.cell? ⟨g,off+j,none⟩=some u/\w.frozen? ⟨g,off+j,none⟩=false
theorem Wr.rd{w:World}{g off:Nat}{xs:List Value}(h:Wr w g off xs):Rd w g off xs:=fun j u hj=>(h j u hj).1
theorem Rd.gr{w w':World}{g off:Nat}{xs:List Value}(h:Rd w g off xs)(hg:Below w.heap.size w w'):Rd w' g off xs:=fun j u hj=>by
 have h1:=h j u hj;rw[hg.cell (World.block_lt_of_cell? w _ h1)];exact h1
theorem Wr.gr{w w':World}{g off:Nat}{xs:List Value}(h:Wr w g off xs)(hg:Below w.heap.size w w'):Wr w' g off xs:=fun j u hj=>by
 have h1:=h j u hj;rw[hg.cell (World.block_lt_of_cell? w _ h1.1),hg.frozen (World.block_lt_of_cell? w _ h1.1)];exact h1
theorem Rd.at{w:World}{g off:Nat}{xs:List Value}(h:Rd w g off xs)(j:Nat)(hj:j<xs.length):w.cell? ⟨g,off+j,none⟩=some xs[j]:=h j _ (List.getElem?_eq_getElem hj)
theorem Wr.at{w:World}{g off:Nat}{xs:List Value}(h:Wr w g off xs)(j:Nat)(hj:j<xs.length):w.cell? ⟨g,off+j,none⟩=some xs[j]/\w.frozen? ⟨g,off+j,none⟩=false:=h j _ (List.getElem?_eq_getElem hj)
theorem Wr.set{w:World}{g off:Nat}{xs:List Value}(h:Wr w g off xs)(j:Nat)(hj:j<xs.length)(u:Value):Wr (w.setCell ⟨g,off+j,none⟩ u) g off (xs.set j u):=fun i v hi=>by
 have hlen:i<xs.length:=by simpa using(List.getElem?_eq_some_iff.1 hi).1
 refine⟨?_,by rw[World.frozen?_setCell];exact(h.at i hlen).2⟩
 by_cases e:i=j
 ·subst e
  rw[List.getElem?_set_self hj]at hi;rw[World.cell?_setCell_same _ _ _ (h.at i hj).1];exact hi
 ·rw[List.getElem?_set_ne (Ne.symm e)]at hi
  have hne:(⟨g,off+j,none⟩:Addr)≠⟨g,off+i,none⟩:=fun he=>e (by have:=congrArg Addr.off he;simp at this;omega);rw[World.cell?_setCell_other _ _ _ _ hne];exact(h i v hi).1
theorem Wr.grown{w w':World}{g off:Nat}{xs:List Value}{row:Option Nat}(h:Wr w g off xs)(hg:w.grownBy w' row)(hne:row≠some g):Wr w' g off xs:=fun j u hj=>by
 have h1:=h j u hj;have hb:=World.block_lt_of_cell? w _ h1.1;have e:=hg.block g hb (fun h=>hne h.symm);rw[World.cell?_of_block (w:=w) (a:=⟨g,off+j,none⟩) e,World.frozen?_of_block (w:=w) (a:=⟨g,off+j,none⟩) e];exact h1
theorem Wr.far{w:World}{g off:Nat}{xs:List Value}(h:Wr w g off xs){a:Addr}(ha:a.block≠g)(u:Value):Wr (w.setCell a u) g off xs:=fun j v hj=>by
 have h1:=h j v hj;rw[World.frozen?_setCell,World.cell?_setCell_other _ _ _ _ (fun e=>ha (by rw[e]))];exact h1
theorem Uz(z:Value)(n:Nat):(madeCells #[z] n).toList=List.replicate n z:=by
 apply List.ext_getElem?;intro i
 by_cases h:i<n
 ·simp[madeCells,h,Nat.mod_one]
 ·simp[madeCells,h]
theorem RE(W:World)(o:Obj)(n:Nat)(h:W.heap.size=n):(W.alloc o).heap[n]?=some o:=h▸heap_alloc_new W o
theorem Wr.append{w w':World}{g off:Nat}{xs:List Value}(h:Wr w g off xs){base:Nat}{e:TypeId}{size:Nat}{v:Value}{n:Nat}{ys:List Value}(qX:w.ownsRow base e size v n ys)(hg:w.grownBy w' v.ownBlock)(hb:g<base):Wr w' g off xs:=
 h.grown hg fun e=>by have:=(qX.lt g e).1;omega
theorem Wr.nil(w:World)(g off:Nat):Wr w g off []:=fun j u h=>by simp at h
theorem Vz{w:World}{base:Nat}{e:TypeId}{size:Nat}{g n cap:Nat}{xs:List Value}(h:w.ownsRow base e size (.slice (some ⟨g,0,none⟩) n cap) n xs):Wr w g 0 xs:=fun j u hj=>by
 have hl:j<n*size:=by rw[<-h.1];exact(List.getElem?_eq_some_iff.1 hj).1
 rw[Nat.zero_add];exact⟨(h.cellAt j hl).trans hj,h.frozenAt j⟩
theorem DP{P:Program}{src dst e:TypeId}(hs:P.underlying src=some (.slice e))(he:P.underlying e=some (.int .u8))(hd:P.underlying dst=some .string){w:World}{g off n cap:Nat}{l:List UInt8}
 (hn:n=l.length) (h:Rd w g off (l.map Nq)):(convert src dst (.slice (some ⟨g,off,none⟩) n cap)).run P w= .ok (.string ⟨l.toArray⟩) w:=by
 subst hn;refine run_convert_bytes_back w src dst e ⟨g,off,none⟩ cap l hs he hd fun j hj=>?_;have:=h.at j (by simpa using hj);rw[show(⟨g,off,none⟩:Addr).add j=⟨g,off+j,none⟩by unfold Addr.add;split<;>simp_all];rw[this];simp[Nq]
end bO
namespace law
open Go.ChangeShapes Go.WideShapes Go.ChangeAt Go.RowKit
theorem own:ownKnob Tryz.prog.godebug=none:=by kernel_rfl
theorem laidOut:laidOutB Tryz.prog=true:=by kernel_rfl
structure Yf{H:Type}(enc:TypeId×Value->H)(fn:Func)(W:World)(base:Nat)(args:Array Value)(ds:List (DataW H))(p:List MemPlace):Prop where
 val:∀(j:Nat) t v,fn.params[j]?=some t->args[j]?=some v->Value.okWide Tryz.prog W .any base t v
 trod:DataW.TrodAll enc Tryz.prog W 0 (fun _=>true) true fn.params.toList args.toList ds p
 sized:(DataW.weightsEach Tryz.prog fn.params.toList ds).all (· <=reachBytes)=true
 free:W.noneFrozen p
noncomputable def UA(fn:Func):Bool:=fn.params.toList.all fun t=>Tryz.prog.readableRec t&&decide (t<Tryz.prog.types.size)
section
variable{H:Type}{enc:TypeId×Value->H}
theorem rf{P:Program}(hl:laidOutB P=true){W W':World}{sp':Nat->Bool}:∀{ts:List TypeId} {vs:List Value} {ds:List (DataW H)} {ps:List MemPlace},(ts.all fun t=>P.readableRec t&&decide (t<P.types.size))=true->
    DataW.TrodAll enc P W 0 (fun _=>true) true ts vs ds ps->(∀p∈ps,W.sameAt W' p)->(∀p∈ps,sp' p.block=true)->DataW.TrodAll enc P W' 0 sp' true ts vs ds ps
  |[],[],[],_,_,h,_,_=>h
  | t ::ts,v::vs,d::ds,_,hb,⟨p,q,h1,h2,e⟩,h3,h4=>by
    simp only[List.all_cons,Bool.and_eq_true,decide_eq_true_eq]at hb;subst e;exact⟨p,q,WideElems.Trod_stays hl hb.1.1 hb.1.2 h1 (fun x hx=>h3 x (by simp[hx])) (fun x hx=>h4 x (by simp[hx])),
      rf hl hb.2 h2 (fun x hx=>h3 x (by simp[hx])) (fun x hx=>h4 x (by simp[hx])),rfl⟩
  |[],_::_,_,_,_,h,_,_=>h.elim
  |[],[],_::_,_,_,h,_,_=>h.elim
  |_::_,[],_,_,_,h,_,_=>h.elim
  |_::_,_::_,[],_,_,h,_,_=>h.elim
theorem pj{P:Program}{W:World}{sp:Nat->Bool}:∀{ts:List TypeId} {vs:List Value} {ds:List (DataW H)} {ps:List MemPlace},DataW.TrodAll enc P W 0 sp true ts vs ds ps->ds.length=ts.length
 |[],[],[],_,_=>rfl
 |_::ts,_::vs,_::ds,_,⟨_,_,_,h2,_⟩=>by simp[pj h2]
 |[],_::_,_,_,h=>h.elim
 |[],[],_::_,_,h=>h.elim
 |_::_,[],_,_,h=>h.elim
 |_::_,_::_,[],_,h=>h.elim
def DQ(fn:Func)(s:ChangeSpec):Prop:=s.vars=[]/\∀(H:Type) (ds:List (DataW H)),ds.length=fn.params.size->s.fn H ds={results:=[.lit (.bool true)],args:=ds}
theorem RF{fn:Func}{s:ChangeSpec}{W W':World}{args:Array Value}{ds gs:List (DataW H)}{before:List MemPlace}(hs:DQ fn s)(xl:UA fn=true)(kR:fn.resultTypes=#[4])
 (hW:DataW.Whole enc Tryz.prog fn.params.toList s.vars false W args.toList ds gs before) (hb:Below W.heap.size W W'):
 s.post enc Tryz.prog fn false true false false W args (.bool true) W':=by
 obtain⟨hv,hfn⟩:=hs;have KN:=hW;obtain⟨p,q,hA,hV,rfl,hfz,GV⟩:=hW;rw[hv]at hV;obtain⟨rfl,rfl⟩:=trodVars_none hV;have hlen:ds.length=fn.params.size:=by rw[pj hA];simp
 have hlt:∀x∈p,x.block<W.heap.size:=fun x hx=>KN.lt x (by simp[hx]);have he:s.fn H (ds++[])={results:=[.lit (.bool true)],args:=ds}:=by rw[List.append_nil];exact hfn H ds hlen
 refine⟨ds,[],p++[],[],p,[],KN,?_,?_,?_,hb.frame _,fun h=>by cases h⟩
 ·rw[he,kR]
  exact trodAll_mk1 (shut_bool Tryz.underlying4 true)
 ·rw[he]
  exact rf laidOut xl hA (fun x hx=>hb.same (hlt x hx)) (fun x hx=>by simpa using hlt x hx)
 ·rw[he,hv]
  rfl
end
set_option maxRecDepth 100000 in
theorem said{os:Os}{f:FuncId}{fn:Func}{s:ChangeSpec}(started:os.Started)(VA:Tryz.prog.inits.idxOf? f=none)(hf:Tryz.prog.funcs[f]?=some fn)(hs:DQ fn s)(xl:UA fn=true)(kR:fn.resultTypes=#[4])
  {H:Type} {enc:TypeId×Value->H}
  (witness:∃(w:World) (tape:Tape) (i:Input),w.os=os/\(w.forCall tape i).Shaped Tryz.checked.prog/\i.vars=[]/\Input.okWide Tryz.checked.prog (w.forCall tape i) .any w.heap.size f i/\
   s.pre6 enc Tryz.checked.prog fn [] false (w.forCall tape i).memory i.args/\({}:Assume).holds Tryz.checked.prog (lone (Frame.enter Tryz.checked.prog f i.args .normal) [] (w.forCall tape i)))
  (walk:∀(W:World) (base:Nat) (args:Array Value) (ds:List (DataW H)) (p:List MemPlace),Yf enc fn W base args ds p->Calls Tryz.prog f args W fun e W'=>e= .returned (.bool true)/\Below W.heap.size W W'):
  ReturnsInHanded {} Tryz.checked os f .any (s.pre6 enc Tryz.prog fn [] false) (s.post enc Tryz.prog fn false true false false):=by
 refine returnsInHanded_of_change_sized (C:=Tryz.checked) own started VA hf witness ?_;intro W base args ds gs before hval hW _ hsz _;have KN:=hW;obtain⟨p,q,hA,hV,rfl,hfz,GV⟩:=hW;rw[hs.1]at hV;obtain⟨rfl,rfl⟩:=trodVars_none hV;have aaM:(DataW.weightsEach Tryz.prog fn.params.toList ds).all (· <=reachBytes)=true:=by
  have e:s.plain.varTypes Tryz.prog=[]:=by simp[ChangeSpec.plain,DataSpec.varTypes,hs.1]
  have:=hsz;rw[show s.plain.varTypes Tryz.checked.prog=[]from e]at this;rw[List.append_nil,List.append_nil]at this;exact this
 refine(walk W base args ds p ⟨hval,hA,aaM,fun b off h=>hfz b off (by simp[h])⟩).mono fun e W' ⟨he,hb⟩=>?_;exact⟨_,he,RF hs xl kR KN hb⟩
end law
namespace bO
open Go.ChangeShapes Go.WideShapes Go.ChangeAt Go.RowKit
def Sl(w:World)(v:Value)(n:Nat)(xs:List Value):Prop:=
 ∃base cap,v= .slice base n cap/\n<=cap/\cap<=maxLen/\(0<n->∃b off,base=some ⟨b,off,none⟩/\Rd w b off xs)
theorem Sl.gr{w w':World}{v:Value}{n:Nat}{xs:List Value}(h:Sl w v n xs)(hg:Below w.heap.size w w'):Sl w' v n xs:=
 let ⟨base,cap,h1,h2,h3,h4⟩:=h
 ⟨base,cap,h1,h2,h3,fun hn=>let ⟨b,off,h5,h6⟩:=h4 hn;⟨b,off,h5,h6.gr hg⟩⟩
theorem Sl.cI{w:World}{base:Nat}{e:TypeId}{size:Nat}{v:Value}{n:Nat}{xs:List Value}(h:w.ownsRow base e size v n xs):Sl w v n xs:=by
 rcases h.2 with⟨rfl,rfl⟩|⟨g,cap,kK,rfl,hb,hg,hn,hm,r⟩
 ·exact⟨none,0,rfl,Nat.le_refl _,by decide,fun h=>by omega⟩
 ·exact⟨_,cap,rfl,hn,hm,fun _=>⟨g,0,rfl,(Vz h).rd⟩⟩
theorem mapM_some{α β:Type}{f:α->Option β}:∀{l:List α} {r:List β},l.mapM f=some r->r.length=l.length/\∀(i:Nat) (a:α),l[i]?=some a->∃b,f a=some b/\r[i]?=some b
  | [],r,h=>by
    simp at h;subst h;exact⟨rfl,fun i a h=>by simp at h⟩
  | x ::l,r,h=>by
    rw[List.mapM_cons]at h
    cases hx:f x with
    |none=>rw[hx]at h;simp at h
    | some y=>
      rw[hx]at h
      cases hr:l.mapM f with
      |none=>rw[hr]at h;simp at h
      | some r'=>
        rw[hr]at h;simp at h;subst h;obtain⟨h1,h2⟩:=mapM_some hr;refine⟨by simp[h1],fun i a hi=>?_⟩
        cases i with
        |zero=>simp at hi;subst hi;exact⟨y,hx,rfl⟩
        |succ i=>simp at hi;simpa using h2 i a hi
theorem iq{w:World}{a:Addr}{n:Nat}{cs:List Value}(h:w.cells? 0 a n=some cs):cs.length=n/\∀j,j<n->w.cell? (a.add j)=cs[j]?:=by
 unfold World.cells? at h;rw[if_pos (Nat.zero_le _)]at h;obtain⟨h1,h2⟩:=mapM_some h;rw[List.length_range]at h1;refine⟨h1,fun j hj=>?_⟩;obtain⟨b,hb,hc⟩:=h2 j j (by simp[hj]);rw[hb,hc]
theorem eS(b off j:Nat):(⟨b,off,none⟩:Addr).add j=⟨b,off+j,none⟩:=by unfold Addr.add;split<;>simp_all
theorem As{w:World}{a:Addr}{v:Value}(h:w.cell? a=some v):a.spot=none:=by
 unfold World.cell? at h;split at h
 ·cases hs:a.spot with
  |none=>rfl
  |some n=>rw[hs]at h;simp at h
 ·cases h
theorem uQ{α:Type}{enc:α->List Value}{c:Nat}(hlen:∀a,(enc a).length=c):∀(l:List α) (i j:Nat) (a:α),l[i]?=some a->j<c->(l.flatMap enc)[i*c+j]?=(enc a)[j]?
 |[],i,j,a,h,_=>by simp at h
 |x::l,0,j,a,h,hj=>by
  simp at h;subst h;rw[List.flatMap_cons,List.getElem?_append_left (by rw[hlen];omega)];simp
 |x::l,i+1,j,a,h,hj=>by
  have ih:=uQ hlen l i j a (by simpa using h) hj;rw[List.flatMap_cons,List.getElem?_append_right (by rw[hlen,Nat.add_mul];omega),hlen,show(i+1)*c+j-c=i*c+j by rw[Nat.add_mul];omega];exact ih
theorem DR{α:Type}{enc:α->List Value}{c:Nat}(hlen:∀a,(enc a).length=c)(l:List α):(l.flatMap enc).length=l.length*c:=by
 induction l with
 |nil=>simp
 |cons x l ih=>rw[List.flatMap_cons,List.length_append,hlen,ih,List.length_cons,Nat.add_mul];omega
section
variable{H:Type}{enc0:TypeId×Value->H}{P:Program}{W:World}
theorem wC{α:Type}{p:Nat->α->Prop}:∀(n:Nat),(∀i,i<n->∃a,p i a)->∃l:List α,l.length=n/\∀(i:Nat) (a:α),l[i]?=some a->p i a
  |0,_=>⟨[],rfl,fun i a h=>by simp at h⟩
  | n +1,h=>by
    obtain⟨l,hl,hp⟩:=wC n fun i hi=>h i (by omega);obtain⟨a,ha⟩:=h n (by omega);refine⟨l++[a],by simp[hl],fun i b hb=>?_⟩
    by_cases hi:i<n
    · rw[List.getElem?_append_left (by omega)]at hb;exact hp i b hb
    · have hlt:=(List.getElem?_eq_some_iff.1 hb).1
      simp at hlt;obtain rfl:i=n:=by omega
      rw[List.getElem?_append_right (by omega)]at hb;rw[hl]at hb;simp at hb;subst hb;exact ha
end
def Au(b:Bool):List Value:=[.bool b]
def dB(n:Int):List Value:=[.int .i64 n]
theorem UB{α:Type}{f:α->Value}(l:List α):l.flatMap (fun a=>[f a])=l.map f:=by
 induction l with
 |nil=>rfl
 |cons x l ih=>simp[List.flatMap_cons,ih]
def cV(n:Int):Prop:= -9223372036854775808<=n/\n<=9223372036854775807
end bO
namespace dc
open Go.RowKit
abbrev Gr(w w':World):Prop:=Below w.heap.size w w'
theorem Gr.refl(w:World):Gr w w:=Below.refl _ _
theorem Gr.trans{a b c:World}(h:Gr a b)(k:Gr b c):Gr a c:=Below.trans h (k.mono h.size)
theorem Gr.drew(w:World):Gr w w.drew:=(Below.refl _ _).drew
def Up(w w':World):Prop:=Gr w w'
def fU(S:World->Prop):Prop:=∀w w',S w->Gr w w'->S w'
theorem KO(w:World):fU (Up w):=fun _ _ h k=>Gr.trans h k
section
variable{P:Program}{ops:Array Oper}{md:Region.Mode}{Q:Exit->Act->World->Prop}
def xo(P:Program)(w:World)(v:Value):Result Next->Prop
 | .ok (.value u) w'=>u=v/\Gr w w'
 | .ok .skip w'=>v=undef/\Gr w w'
 | .ok (.enter f args) w'=>Gr w w'/\Calls P f args w' (fun e DF=>e= .returned v/\Gr w' DF)
 |_=>False
def lf(P:Program)(o:Oper)(a:Act)(w:World)(v:Value):Prop:=xo P w v ((execOp a.eval o).run P w)
def gi(P:Program)(ops:Array Oper)(S:World->Prop)(o:Oper)(v:Value)(a:Act):Prop:=
 (Region.wanted o (yielded ops a.tmps)=true/\∀w,S w->lf P o a w v)\/(Region.wanted o (yielded ops a.tmps)=false/\v=undef)
theorem gi.mono{S S':World->Prop}{o:Oper}{v:Value}{a:Act}(hs:∀w,S' w->S w)(h:gi P ops S o v a):gi P ops S' o v a:=
 h.imp (fun⟨h1,h2⟩=>⟨h1,fun w hw=>h2 w (hs w hw)⟩) id
theorem gi.of_same{S:World->Prop}{o:Oper}{v:Value}{a a':Act}(hy:gi P ops S o v a)(he:execOp a'.eval o=execOp a.eval o)
 (hw:Region.wanted o (yielded ops a'.tmps)=Region.wanted o (yielded ops a.tmps)):gi P ops S o v a':=by
 unfold gi lf at*;rw[he,hw];exact hy
theorem gi.wpOp{S:World->Prop}{i:Nat}{o:Oper}{v:Value}{a:Act}(hi:ops[i]?=some o)(hy:gi P ops S o v a)(ir:fU S)
    {K:Act->World->Prop} {w:World} (hS:S w) (h:∀w',S w'->K (a.put o.dst v) w'):wpOp P ops Q i K a w:=by
  unfold Go.wpOp;simp only[hi];rcases hy with⟨hw,hv⟩|⟨hw,rfl⟩
  · simp only[hw,if_true]
    refine .inl ?_;have h1:=hv w hS;unfold lf at h1;unfold Oper.wp;generalize (execOp a.eval o).run P w=r at*
    cases r with
    | ok n w'=>
      cases n<;>simp only[xo]at h1<;>simp only[Oper.upon]
      case value u=>rw[h1.1];exact h _ (ir _ _ hS h1.2)
      case skip=>rw[<-h1.1];exact h _ (ir _ _ hS h1.2)
      case enter f args=>
        refine h1.2.mono fun e DF ⟨he,hg⟩=>?_;subst he;exact h _ (ir _ _ (ir _ _ hS h1.1) hg)
    |halt x w'=>simp only[xo]at h1
  · simp only[hw,Bool.false_eq_true,if_false];exact h _ hS
theorem Av{S:World->Prop}{j:Nat}{oi oj:Oper}{v:Value}(hj:ops[j]?=some oj)(Yg:oi.apart ops oj=true)
    (hsi:∀cs b,oi.op≠ .select cs b) (hsj:∀cs b,oj.op≠ .select cs b)
    (hQ:∀c a w,Q (.panic c) (a.put oi.dst v) w->Q (.panic c) a w) {K:Act->World->Prop} {a:Act} {w:World}
    (hy:gi P ops S oi v a) (h:wpOp P ops Q j K (a.put oi.dst v) w):
    wpOp P ops Q j (fun a' w'=>gi P ops S oi v a'/\K (a'.put oi.dst v) w') a w:=by
  obtain⟨h1,h2,h3⟩:=Oper.apart_spec Yg;have keep:∀(a:Act),gi P ops S oi v a->∀u,gi P ops S oi v (a.put oj.dst u):=fun a hy u=>
    hy.of_same (execOp_put oi hsi a oj.dst u h3) (wanted_put oi a oj.dst u h3)
  have Yh:∀d,gi P ops S oi v {a with defers:=d::a.defers}:=fun d=>hy.of_same rfl rfl;unfold wpOp at*;simp only[hj]at*;rw[wanted_put oj a oi.dst v h1]at h;split
  · rename_i hw
    simp only[hw,if_true]at h;rcases h with h|⟨UC,Yi⟩
    case inr=>exact .inr ⟨by unfold Oper.asks at*;rw[execOp_put oj hsj a oi.dst v h1]at UC;exact UC,Yi⟩
    refine .inl ?_;unfold Oper.wp at*;rw[execOp_put oj hsj a oi.dst v h1]at h;generalize (execOp a.eval oj).run P w=r at*
    cases r with
    | ok n w'=>
      cases n<;>simp only[Oper.upon]at h⊢
      case value u=>exact⟨keep a hy u,by rw[<-Act.put_comm a v u h2];exact h⟩
      case skip=>exact⟨keep a hy _,by rw[<-Act.put_comm a v undef h2];exact h⟩
      case defer d=>
        refine⟨keep _ (Yh d) _,?_⟩;rw[<-Act.put_comm _ v undef h2,<-Act.put_defers];exact h
      case enter f args=>
        refine Calls.mono h fun e DF he=>?_
        cases e with
        |returned u=>exact⟨keep a hy u,by rw[<-Act.put_comm a v u h2];exact he⟩
        |panicked c=>exact hQ _ _ _ he
        |outgrown=>exact he
      case row row args=>exact Rows.mono h fun u DF he=>⟨keep a hy u,by rw[<-Act.put_comm a v u h2];exact he⟩
    | halt x w'=>
      cases x<;>simp only[Oper.upon]at h⊢
      case panic u=>exact hQ _ _ _ h
  · rename_i hw
    simp only[hw]at h;exact⟨keep a hy _,by rw[<-Act.put_comm a v undef h2];exact h⟩
def tX(P:Program)(md:Region.Mode)(ops:Array Oper)(Q:Exit->Act->World->Prop)(n:Nat)(L:Array Bool->Act->World->Prop):Nat->Array Bool->Act->(World->Prop)->Prop
  |0,listed,a,S=>∀w,S w->L listed a w
  | f+1,listed,a,S=>Region.ready md ops listed≠[]/\
    ∀i∈Region.ready md ops listed,i<n/\∀w,S w->wpOp P ops Q i (fun a' w'=>∃S',fU S'/\(∀x,S' x->S x)/\S' w'/\tX P md ops Q n L f (listed.setIfInBounds i true) a' S') a w
theorem xp{n g:Nat}{L:Array Bool->Act->World->Prop}(hL:∀listed a w,L listed a w->wpAny P md ops Q g listed a w):
 ∀(f:Nat) (listed:Array Bool) (a:Act) (S:World->Prop) (w:World),S w->tX P md ops Q n L f listed a S->wpAny P md ops Q (f+g) listed a w
 |0,listed,a,S,w,hw,h=>by rw[Nat.zero_add];exact hL _ _ _ (h w hw)
 |f+1,listed,a,S,w,hw,h=>by
  rw[show f+1+g=(f+g)+1 by omega];exact⟨fun h0=>absurd h0 h.1,fun i hi=>wpOp_mono (fun a' w' ⟨S',_,_,pc,h'⟩=>xp hL f _ a' S' w' pc h') ((h.2 i hi).2 w hw)⟩
theorem BT{n i:Nat}{oi:Oper}{v:Value}{L:Array Bool->Act->World->Prop}(hi:ops[i]?=some oi)(jw:∀(j:Nat) (o:Oper) cs b,ops[j]?=some o->o.op≠ .select cs b)
    (hs:Region.sinkB md ops n=true) (hc:Region.chainB md ops n=true) (hn:n<ops.size) (M8:i<n)
    (hQ:∀c a w,Q (.panic c) (a.put oi.dst v) w->Q (.panic c) a w)
    (hdone:∀listed a w,L listed a w->∀j∈Region.ready md ops listed,n<=j):
    ∀ (f:Nat) (listed:Array Bool) (a:Act) (S:World->Prop),fU S->HeadInv md ops n listed->
      (∀j oj,ops[j]?=some oj->j≠i->listed.getD j true=false->(∀e∈oj.after,Region.binds md e=true->e.on≠i)->oi.apart ops oj=true)->
      i∈Region.ready md ops listed->gi P ops S oi v a->
      tX P md ops Q n L f (listed.setIfInBounds i true) (a.put oi.dst v) S->tX P md ops Q n L (f+1) listed a S:=by
  intro f
  induction f with
  | zero=>
    intro listed a S ir inv _ hr hy H;have M9:=(mem_ready.1 hr).1;refine⟨fun h=>(by rw[h]at hr;cases hr),fun j hj=>?_⟩;have Yj:j<n:=by
      rcases Nat.lt_or_ge j n with h|h
      · exact h
      · exact absurd hj (tail_waits hs hc hn inv _ i rfl M8 M9 j h)
    refine⟨Yj,fun w hw=>?_⟩
    by_cases BU:j=i
    · subst BU;exact hy.wpOp hi ir hw fun w' pc=>⟨S,ir,fun _ h=>h,pc,H⟩
    · have:=hdone _ _ _ (H w hw) j (ready_mono hj BU)
      omega
  | succ f ih=>
    intro listed a S ir inv Aw hr hy H;have M9:=(mem_ready.1 hr).1;refine⟨fun h=>(by rw[h]at hr;cases hr),fun j hj=>?_⟩;have Yj:j<n:=by
      rcases Nat.lt_or_ge j n with h|h
      · exact h
      · exact absurd hj (tail_waits hs hc hn inv _ i rfl M8 M9 j h)
    refine⟨Yj,fun w hw=>?_⟩
    by_cases BU:j=i
    · subst BU;exact hy.wpOp hi ir hw fun w' pc=>⟨S,ir,fun _ h=>h,pc,H⟩
    · have h1:=(H.2 j (ready_mono hj BU)).2 w hw
      obtain⟨Nr,oj,I7,mY⟩:=mem_ready.1 hj;have KP:∀e∈oj.after,Region.binds md e=true->e.on≠i:=fun e he hb uR=>by
        have h1:=mY e he hb;rw[uR,getD_both M9]at h1
        cases h1
      have h2:=Av I7 (Aw j oj I7 BU Nr KP) (fun cs b=>jw i oi cs b hi) (fun cs b=>jw j oj cs b I7) hQ hy h1;have GY:∀k ok,ops[k]?=some ok->k≠i->(listed.setIfInBounds j true).getD k true=false->
          (∀e∈ok.after,Region.binds md e=true->e.on≠i)->oi.apart ops ok=true:=fun k ok hk hki M9 hno=>by
        refine Aw k ok hk hki ?_ hno
        by_cases UD:j=k
        · subst UD;exact Nr
        · rw[getD_set_ne true UD]at M9;exact M9
      refine wpOp_mono (fun a' w' h3=>?_) h2;obtain⟨h3,S',jO,iu,pc,h4⟩:=h3;refine⟨S',jO,iu,pc,ih (listed.setIfInBounds j true) a' S' jO (inv.set hj Yj) GY (ready_mono hr (Ne.symm BU)) (h3.mono iu) ?_⟩;rw[Array.setIfInBounds_comm _ _ BU];exact h4
def KQ(P:Program)(ops:Array Oper)(Q:Exit->Act->World->Prop)(L:Act->World->Prop):List Bool->List Oper->Act->(World->Prop)->Prop
  |true::ks,o::rest,a,S=>∃v,(if Region.wanted o (yielded ops a.tmps)then ∀w,S w->lf P o a w v else v=undef)/\KQ P ops Q L ks rest (a.put o.dst v) S
  | false::ks,o::rest,a,S=>∀w,S w->if Region.wanted o (yielded ops a.tmps)then
      o.wp P a w (fun a' w'=>∃S',fU S'/\(∀x,S' x->S x)/\S' w'/\KQ P ops Q L ks rest a' S') Q
    else KQ P ops Q L ks rest (a.put o.dst undef) S
  |_,_,a,S=>∀w,S w->L a w
def rA(md:Region.Mode)(ops:Array Oper)(g:Nat):List Bool->Nat->Array Bool->Bool
 |true::ks,k,listed=>(Region.ready md ops listed).contains k&&Region.free md ops listed k&&rA md ops g ks (k+1) (listed.setIfInBounds k true)
 |false::ks,k,listed=>decide (Region.ready md ops listed=[k])&&rA md ops g ks (k+1) (listed.setIfInBounds k true)
 |[],k,listed=>Region.seqB md ops g k listed
def RG(md:Region.Mode)(ops:Array Oper)(ks:List Bool):Bool:=
 Region.noSelect ops&&decide (ks.length<ops.size)&&Region.sinkB md ops ks.length&&Region.chainB md ops ks.length&&rA md ops (ops.size-ks.length) ks 0 (Array.replicate ops.size false)
theorem rB{n g:Nat}{Lq:Act->World->Prop}(jw:Region.noSelect ops=true)(hs:Region.sinkB md ops n=true)(hc:Region.chainB md ops n=true)(hn:n<ops.size)
  (hQ:∀c a d v w,Q (.panic c) (a.put d v) w->Q (.panic c) a w):
  ∀(ks:List Bool) (l:List Oper) (k:Nat) (listed:Array Bool) (a:Act) (S:World->Prop),fU S->l.length=ks.length->(∀j,j<l.length->l[j]?=ops[k+j]?)->k+l.length=n->HeadInv md ops n listed->
  rA md ops g ks k listed=true->KQ P ops Q Lq ks l a S->
  tX P md ops Q n (fun wD a' w'=>Region.seqB md ops g n wD=true/\Lq a' w') ks.length listed a S
 |[],[],k,listed,a,S,_,_,_,hk,_,hB,h=>by
  have:k=n:=by simpa using hk
  subst this;exact fun w hw=>⟨by simpa[rA]using hB,h w hw⟩
 |[],_::_,_,_,_,_,_,hlen,_,_,_,_,_=>by simp at hlen
 |_::_,[],_,_,_,_,_,hlen,_,_,_,_,_=>by simp at hlen
 | true::ks,o::l,k,listed,a,S,ir,hlen,hl,hk,inv,hB,h=>by
  have h0:ops[k]?=some o:=by simpa using(hl 0 (by simp)).symm
  simp only[rA,Bool.and_eq_true]at hB;obtain⟨⟨hr,hf⟩,hB'⟩:=hB;have Yk:k<n:=by simp only[List.length_cons]at hk;omega
  have wE:k∈Region.ready md ops listed:=by simpa using hr
  obtain⟨v,hy,hK⟩:=h;have hy':gi P ops S o v a:=by
   by_cases hw:Region.wanted o (yielded ops a.tmps)=true
   ·rw[if_pos hw]at hy;exact .inl ⟨hw,hy⟩
   ·rw[if_neg hw]at hy;exact .inr ⟨by simpa using hw,hy⟩
  exact BT h0 (Region.noSelect_spec jw) hs hc hn Yk (fun c a w=>hQ c a o.dst v w) (fun wD a' w' hL=>seqB_ready hL.1) ks.length listed a S ir inv (Region.free_spec h0 hf) wE hy'
   (rB jw hs hc hn hQ ks l (k+1) _ _ S ir (by simpa using hlen) (fun j hj=>by have:=hl (j+1) (by simp;omega);simpa[Nat.add_assoc,Nat.add_comm 1 j]using this) (by simp only[List.length_cons]at hk;omega) (inv.set wE Yk) hB' hK)
 | false::ks,o::l,k,listed,a,S,ir,hlen,hl,hk,inv,hB,h=>by
  have h0:ops[k]?=some o:=by simpa using(hl 0 (by simp)).symm
  simp only[rA,Bool.and_eq_true,decide_eq_true_eq]at hB;obtain⟨hr,hB'⟩:=hB;have Yk:k<n:=by simp only[List.length_cons]at hk;omega
  have wE:k∈Region.ready md ops listed:=by simp[hr]
  have next:∀a' S',fU S'->KQ P ops Q Lq ks l a' S'->tX P md ops Q n (fun wD a' w'=>Region.seqB md ops g n wD=true/\Lq a' w') ks.length (listed.setIfInBounds k true) a' S':=fun a' S' jO hK=>
   rB jw hs hc hn hQ ks l (k+1) _ _ S' jO (by simpa using hlen) (fun j hj=>by have:=hl (j+1) (by simp;omega);simpa[Nat.add_assoc,Nat.add_comm 1 j]using this) (by simp only[List.length_cons]at hk;omega) (inv.set wE Yk) hB' hK
  refine⟨by rw[hr];simp,fun i hi=>?_⟩;obtain rfl:i=k:=by rw[hr]at hi;simpa using hi
  refine⟨Yk,fun w hw=>?_⟩;have h1:=h w hw;unfold wpOp;simp only[h0];split
  ·rename_i hwt
   rw[if_pos hwt]at h1;exact .inl (Oper.wp_mono (fun a' w' ⟨S',jO,iu,pc,hK⟩=>⟨S',jO,iu,pc,next _ _ jO hK⟩) h1)
  ·rename_i hwt
   rw[if_neg hwt]at h1;exact⟨S,ir,fun _ h=>h,hw,next _ _ ir h1⟩
theorem zQ{id:Nat}{a:Act}{w:World}{l:List Oper}(ks:List Bool)(hm:P.follows .mixedOrders=true)(hB:RG .any l.toArray ks=true)
 (hQ:∀c a d v w,Q (.panic c) (a.put d v) w->Q (.panic c) a w) (S:World->Prop) (ir:fU S) (hS:S w.drew)
 (h:KQ P l.toArray Q (fun a' w'=>wpList P l.toArray Q (l.drop ks.length) a' w') ks (l.take ks.length) a S):(Code.region id l.toArray true).wp P Q a w:=by
 simp only[RG,Bool.and_eq_true,decide_eq_true_eq]at hB;obtain⟨⟨⟨⟨jw,hn⟩,hs⟩,hc⟩,qY⟩:=hB;have UE:ks.length<l.length:=by simpa using hn
 have UF:(l.take ks.length).length=ks.length:=by simp;omega
 have M_:(l.drop ks.length).length=l.toArray.size-ks.length:=by simp
 have aaN:HeadInv .any l.toArray ks.length (Array.replicate l.toArray.size false):=
  ⟨by simp,fun j oj _ hl=>(by rw[getD_replicate_false]at hl;cases hl),fun t _ ht=>getD_in (by simpa using ht) (getD_replicate_false _ _)⟩
 have H:=rB (md:= .any) (g:=l.toArray.size-ks.length) jw hs hc hn hQ ks (l.take ks.length) 0 _ a S ir UF (fun j hj=>by
  have mi:j<ks.length:=by rw[UF]at hj;exact hj
  simp[mi]) (by simpa using UF) aaN qY h
 refine wp_region_any hm ?_;have:=xp (Q:=Q) (g:=l.toArray.size-ks.length) (fun listed a' w' hL=>by
  have:=wpAny_of_seq (md:= .any) (Q':=Q) (l.drop ks.length) ks.length listed a' w' (fun j=>by simp[List.getElem?_drop]) (by rw[M_];exact hL.1) hL.2
  rwa [M_]at this) _ _ _ S w.drew hS H
 rw[show ks.length+(l.toArray.size-ks.length)=l.toArray.size by omega]at this;exact this
theorem dc{id:Nat}{a:Act}{w:World}{l:List Oper}(n:Nat)(ks:List Bool)(hn:ks.length=n)(hm:P.follows .mixedOrders=true)(hB:RG .any l.toArray ks=true)
 (hQ:∀c a d v w,Q (.panic c) (a.put d v) w->Q (.panic c) a w) (S:World->Prop) (ir:fU S) (hS:S w.drew)
 (h:KQ P l.toArray Q (fun a' w'=>wpList P l.toArray Q (l.drop n) a' w') ks (l.take n) a S):(Code.region id l.toArray true).wp P Q a w:=by
 subst hn;exact zQ ks hm hB hQ S ir hS h
section
variable{L:Act->World->Prop}{ks:List Bool}{o:Oper}{rest:List Oper}{a:Act}{S:World->Prop}
theorem I8{u:Value}(hw:Region.wanted o (yielded ops a.tmps)=true)(h:∀w,S w->(execOp a.eval o).run P w= .ok (.value u) w)(hk:KQ P ops Q L ks rest (a.put o.dst u) S):
 KQ P ops Q L (true::ks) (o::rest) a S:=
 ⟨u,by rw[if_pos hw];intro w hS;unfold lf;rw[h w hS];exact⟨rfl,Gr.refl _⟩,hk⟩
theorem Ns(hw:Region.wanted o (yielded ops a.tmps)=false)(hk:KQ P ops Q L ks rest (a.put o.dst undef) S):
 KQ P ops Q L (true::ks) (o::rest) a S:=
 ⟨undef,by rw[if_neg (by rw[hw];exact Bool.false_ne_true)],hk⟩
theorem I9{l:List Oper}(h:∀w,S w->L a w):KQ P ops Q L [] l a S:=h
end
end
end dc
namespace bK
open Go.RowKit bO dc
abbrev Fr:=List (Nat×Value)
def look:Fr->Nat->Option Value
 |[],_=>none
 |(k,v)::r,i=>bif Nat.beq k i then some v else look r i
structure jP(n:Nat)(a:Act)(fr:Fr):Prop where
 size:a.tmps.size=n
 defers:a.defers=[]
 get:∀i v,look fr i=some v->a.tmps[i]?=some v
theorem jP.put{n:Nat}{a:Act}{fr:Fr}(h:jP n a fr){d:Nat}(hd:Nat.blt d n=true)(v:Value):jP n (a.put (some d) v) ((d,v)::fr):=by
 have Yl:d<n:=Nat.le_of_ble_eq_true hd;refine⟨by simp[Act.put,h.size],h.defers,fun i u hi=>?_⟩;unfold look at hi;simp only[Act.put]
 cases e:Nat.beq d i
 ·rw[e]at hi
  rw[Array.getElem?_setIfInBounds_ne (Nat.ne_of_beq_eq_false e)];exact h.get i u hi
 ·rw[e]at hi
  obtain rfl:d=i:=Nat.eq_of_beq_eq_true e;simp only[cond_true,Option.some.injEq]at hi;subst hi;rw[Array.getElem?_setIfInBounds_self_of_lt (by rw[h.size];exact Yl)]
theorem jP.pq{n:Nat}{a:Act}{fr:Fr}(h:jP n a fr)(v:Value):jP n (a.put none v) fr:=h
def DS:Fr->Fr->Prop
 |[],_=>True
 |(i,v)::r,fr=>look fr i=some v/\DS r fr
theorem Nt{zN fr:Fr}(h:DS zN fr){i:Nat}{v:Value}(hl:look zN i=some v):look fr i=some v:=by
 induction zN with
 |nil=>cases hl
 | cons x r ih=>
  obtain⟨k,u⟩:=x;unfold look at hl
  cases e:Nat.beq k i
  ·rw[e]at hl;exact ih h.2 hl
  ·rw[e]at hl
   obtain rfl:k=i:=Nat.eq_of_beq_eq_true e;simp only[cond_true,Option.some.injEq]at hl;subst hl;exact h.1
theorem jP.sub{n:Nat}{a:Act}{fr zN:Fr}(h:jP n a fr)(hs:DS zN fr):jP n a zN:=⟨h.size,h.defers,fun i v hl=>h.get i v (Nt hs hl)⟩
def ev(fr:Fr):Operand->Option Value
 | .tmp t=>look fr t
 | .const v=>some v
 | .global g=>some (.pointer (some ⟨g,0,none⟩))
 | .func f=>some (.func (.func f) #[] #[])
theorem jP.ev{n:Nat}{a:Act}{fr:Fr}(h:jP n a fr){x:Operand}{v:Value}(hx:ev fr x=some v):a.eval x=v:=by
 cases x with
 |tmp t=>simp[Act.eval,Array.getD_eq_getD_getElem?,h.get t v hx]
 |const u=>simpa[bK.ev,Act.eval]using hx
 |global g=>simpa[bK.ev,Act.eval]using hx
 |func f=>simpa[bK.ev,Act.eval]using hx
theorem jP.yield{n:Nat}{a:Act}{fr:Fr}(h:jP n a fr){ops:Array Oper}{j d:Nat}{v:Value}(hj:(ops[j]?).bind (·.dst)=some d)(hl:look fr d=some v):
 yielded ops a.tmps j=match v with| .bool b=>some b|_=>none:=by
 unfold yielded;rw[hj];simp only[Option.bind_some,h.get d v hl]
 cases v<;>rfl
structure bI where
 zR:Option Nat
 more:Nat->Prop
 holds:World->Prop
 lt:∀w,holds w->∀k,(zR=some k\/more k)->k<w.heap.size
 stay:∀w w',holds w->w.heap.size<=w'.heap.size->(∀k,(zR=some k\/more k)->w'.heap[k]?=w.heap[k]?)->holds w'
def bI.dS(o:bI)(k:Nat):Prop:=o.zR=some k\/o.more k
def aw(g:Nat)(cs:Array Value)(T:TypeId):bI:=
  ⟨some g,fun _=>False,fun w=>w.heap[g]?=some (.cells cs T (0,0)),fun w h k hk=>by simp only[Option.some.injEq,or_false]at hk;subst hk;exact(Array.getElem?_eq_some_iff.1 h).1,
    fun w w' h _ hb=>by rw[hb g (.inl rfl)];exact h⟩
def aM(e:TypeId)(size:Nat)(v:Value)(n:Nat)(xs:List Value):bI:=
  ⟨v.ownBlock,fun _=>False,fun w=>w.ownsRow 0 e size v n xs,fun w h k hk=>(h.lt k (hk.elim id False.elim)).2,fun w w' h _ hb=>by
    refine⟨h.1,?_⟩;rcases h.2 with hn|⟨g,cap,kK,rfl,sG,hg,rest⟩
    · exact .inl hn
    · exact .inr ⟨g,cap,kK,rfl,sG,by rw[hb g (.inl rfl)];exact hg,rest⟩⟩
structure dH(p:Nat->Prop)(w:World)(L:List bI):Prop where
 all:∀(i:Nat) (o:bI),L[i]?=some o->o.holds w/\∀k,o.dS k->p k
 apart:∀(i j:Nat) (o o':bI),i≠j->L[i]?=some o->L[j]?=some o'->∀k,o.dS k->¬o'.dS k
abbrev mZ(B:Nat)(w:World)(L:List bI):Prop:=dH (fun k=>B<=k) w L
section
variable{p p':Nat->Prop}
theorem mZ.nil(B:Nat)(w:World):mZ B w []:=⟨fun i o h=>by simp at h,fun i j o o' _ h=>by simp at h⟩
theorem dH.nil(w:World):dH p w []:=⟨fun i o h=>by simp at h,fun i j o o' _ h=>by simp at h⟩
theorem dH.gr{w w':World}{L:List bI}(h:dH p w L)(hg:Gr w w'):dH p w' L:=
 ⟨fun i o hi=>⟨o.stay w w' (h.all i o hi).1 hg.size fun k hk=>hg.block k (o.lt w (h.all i o hi).1 k hk),(h.all i o hi).2⟩,h.apart⟩
theorem dH.mono{w:World}{L:List bI}(h:dH p w L)(hb:∀k,p k->p' k):dH p' w L:=
 ⟨fun i o hi=>⟨(h.all i o hi).1,fun k hk=>hb k ((h.all i o hi).2 k hk)⟩,h.apart⟩
theorem dH.one{w:World}{o:bI}(h:o.holds w)(hb:∀k,o.dS k->p k):dH p w [o]:=
  ⟨fun i o' hi=>by
    match i,hi with
    |0,hi=>simp only[List.getElem?_cons_zero,Option.some.injEq]at hi;subst hi;exact⟨h,hb⟩
    |i+1,hi=>simp at hi,
   fun i j a b oW hi hj=>by
    match i,j,hi,hj with
    |0,0,_,_=>exact absurd rfl oW
    |i+1,_,hi,_=>simp at hi
    |0,j+1,_,hj=>simp at hj⟩
theorem mZ.one{B:Nat}{w:World}{o:bI}(h:o.holds w)(hb:∀k,o.zR=some k->B<=k)(Ym:∀k,o.more k->B<=k:=by intro k hk;exact False.elim hk):mZ B w [o]:=dH.one h fun k hk=>hk.elim (hb k) (Ym k)
theorem dH.both{w:World}{L L':List bI}(h:dH p w L)(h':dH p w L')(ha:∀(i j:Nat) (o o':bI),L[i]?=some o->L'[j]?=some o'->∀k,o.dS k->¬o'.dS k):dH p w (L++L'):=by
 refine⟨fun i o hi=>?_,fun i j o o' oW hi hj=>?_⟩
 ·rw[List.getElem?_append]at hi
  split at hi
  ·exact h.all i o hi
  ·exact h'.all _ o hi
 ·intro k hk kp
  rw[List.getElem?_append]at hi hj;split at hi<;>split at hj
  ·exact h.apart i j o o' oW hi hj k hk kp
  ·exact ha _ _ o o' hi hj k hk kp
  ·exact ha _ _ o' o hj hi k kp hk
  ·exact h'.apart (i-L.length) (j-L.length) o o' (by omega) hi hj k hk kp
theorem dH.pick{w:World}{L L':List bI}(h:dH p w L)(is:List Nat)(hn:is.Nodup)(hl:L'=is.filterMap fun i=>L[i]?):dH p w L':=by
  subst hl
  induction is with
  |nil=>exact dH.nil _
  | cons i is ih=>
    rw[List.nodup_cons]at hn;have ih:=ih hn.2;have mem:∀j o,(is.filterMap fun i=>L[i]?)[j]?=some o->∃q∈is,L[q]?=some o:=fun j o hj=>by
      have:=List.mem_of_getElem? hj;rw[List.mem_filterMap]at this;exact this
    cases e:L[i]? with
    |none=>rw[List.filterMap_cons_none e];exact ih
    | some o0=>
      rw[List.filterMap_cons_some e];refine⟨fun j o hj=>?_,fun j j' o o' oW hj mi=>?_⟩
      · match j,hj with
        |0,hj=>simp only[List.getElem?_cons_zero,Option.some.injEq]at hj;subst hj;exact h.all i _ e
        |j+1,hj=>exact ih.all j o (by simpa using hj)
      · match j,j',hj,mi with
        |0,0,_,_=>exact absurd rfl oW
        | 0,j'+1,hj,mi=>
          simp only[List.getElem?_cons_zero,Option.some.injEq]at hj;subst hj;obtain⟨q,hq,xr⟩:=mem j' o' (by simpa using mi);exact h.apart i q _ o' (fun e=>hn.1 (e▸hq)) e xr
        | j+1,0,hj,mi=>
          simp only[List.getElem?_cons_zero,Option.some.injEq]at mi;subst mi;obtain⟨q,hq,xr⟩:=mem j o (by simpa using hj);exact h.apart q i o _ (fun e=>hn.1 (e▸hq)) xr e
        |j+1,j'+1,hj,mi=>exact ih.apart j j' o o' (by omega) (by simpa using hj) (by simpa using mi)
end
structure bC where
 w:World
 X:Nat->Prop
instance:Coe World bC:=⟨fun w=>⟨w,fun _=>False⟩⟩
def bC.on(w:World)(L:List bI):bC:=⟨w,fun k=>∃o∈L,o.dS k⟩
def bC.may(W:bC)(k:Nat):Prop:=W.w.heap.size<=k\/W.X k
structure BV(W:bC)(w:World):Prop where
 os:w.os=W.w.os
 tape:w.tape=W.w.tape
 output:w.output=W.w.output
 size:W.w.heap.size<=w.heap.size
 block:∀k,k<W.w.heap.size->¬W.X k->w.heap[k]?=W.w.heap[k]?
structure Mem(W:bC)(L:List bI)(w:World):Prop where
 low:BV W w
 owns:dH W.may w L
theorem Mem.start(W:World):Mem W [] W:=⟨⟨rfl,rfl,rfl,Nat.le_refl _,fun _ _ _=>rfl⟩,dH.nil _⟩
theorem BV.gr{W:bC}{w w':World}(h:BV W w)(hg:Gr w w'):BV W w':=
 ⟨hg.os.trans h.os,hg.tape.trans h.tape,hg.output.trans h.output,Nat.le_trans h.size hg.size,fun k hk hx=>(hg.block k (Nat.lt_of_lt_of_le hk h.size)).trans (h.block k hk hx)⟩
theorem Mem.below{W w:World}{L:List bI}(h:Mem W L w):Below W.heap.size W w:=⟨h.low.os,h.low.tape,h.low.output,h.low.size,fun k hk=>h.low.block k hk id⟩
theorem Mem.UG{W w:World}{L:List bI}(h:Mem W L w):mZ W.heap.size w L:=h.owns.mono fun _ hk=>hk.elim id False.elim
section
variable{W:bC}
theorem Mem.gr{w w':World}{L:List bI}(h:Mem W L w)(hg:Gr w w'):Mem W L w':=⟨h.low.gr hg,h.owns.gr hg⟩
theorem Mem.drew{w:World}{L:List bI}(h:Mem W L w):Mem W L w.drew:=h.gr (Gr.drew w)
theorem eY(W:bC)(L:List bI):fU (Mem W L):=fun _ _ h k=>h.gr k
theorem Mem.pick{w:World}{L L':List bI}(h:Mem W L w)(is:List Nat)(hn:is.Nodup)(hl:L'=is.filterMap fun i=>L[i]?):Mem W L' w:=⟨h.low,h.owns.pick is hn hl⟩
theorem Mem.append{w w':World}{L L':List bI}(h:Mem W L w)(hg:Gr w w')(h':mZ w.heap.size w' L'):Mem W (L++L') w':=by
 have hsz:W.w.heap.size<=w.heap.size:=h.low.size;refine⟨h.low.gr hg,dH.both (h.owns.gr hg) (h'.mono fun k hk=> .inl (Nat.le_trans hsz hk)) fun i j o o' hi hj k hk kp=>?_⟩;have a1:=o.lt w (h.owns.all i o hi).1 k hk;have a2:w.heap.size<=k:=(h'.all _ o' hj).2 k kp;omega
theorem Mem.zS{w w':World}{L:List bI}(h:Mem W L w){i:Nat}{o o':bI}(hi:L[i]?=some o)(hg:w.grownBy w' o.zR)(ho:o'.holds w')(hb:∀k,o'.zR=some k->o.zR=some k\/w.heap.size<=k)(Ym:∀k,o'.more k->o.dS k:=by intro k hk;exact False.elim hk):Mem W (L.set i o') w':=by
  have hle:W.w.heap.size<=w.heap.size:=h.low.size;have hoB:=(h.owns.all i o hi).2;have hlen:i<L.length:=(List.getElem?_eq_some_iff.1 hi).1;have GI:∀k,o'.dS k->o.dS k\/w.heap.size<=k:=fun k hk=>hk.elim (fun h=>(hb k h).imp .inl id) (fun h=> .inl (Ym k h));refine⟨⟨hg.os.trans h.low.os,hg.tape.trans h.low.tape,hg.output.trans h.low.output,Nat.le_trans hle hg.size,fun k hk hx=>?_⟩,?_,?_⟩
  · rw[hg.block k (Nat.lt_of_lt_of_le hk hle) fun e=>(hoB k (.inl e.symm)).elim (fun h=>by omega) hx]
    exact h.low.block k hk hx
  · intro j q hj
    by_cases e:i=j
    · subst e
      rw[List.getElem?_set_self hlen]at hj;simp only[Option.some.injEq]at hj;subst hj;exact⟨ho,fun k hk=>(GI k hk).elim (hoB k) (fun h=> .inl (Nat.le_trans hle h))⟩
    · rw[List.getElem?_set_ne e]at hj
      have h1:=h.owns.all j q hj;refine⟨q.stay w w' h1.1 hg.size fun k hk=>hg.block k (q.lt w h1.1 k hk) fun e'=>?_,h1.2⟩;exact h.owns.apart i j o q e hi hj k (.inl e'.symm) hk
  · intro j j' q q' oW hj mi k hk kp
    by_cases e:i=j
    · subst e
      rw[List.getElem?_set_self hlen]at hj;rw[List.getElem?_set_ne oW]at mi;simp only[Option.some.injEq]at hj;subst hj;have h2:=(h.owns.all j' q' mi).1;rcases GI k hk with h1|h1
      · exact h.owns.apart i j' o q' oW hi mi k h1 kp
      · have:=q'.lt w h2 k kp;omega
    · rw[List.getElem?_set_ne e]at hj
      have h2:=(h.owns.all j q hj).1
      by_cases e':i=j'
      · subst e'
        rw[List.getElem?_set_self hlen]at mi;simp only[Option.some.injEq]at mi;subst mi;rcases GI k kp with h1|h1
        · exact h.owns.apart i j o q e hi hj k h1 hk
        · have:=q.lt w h2 k hk;omega
      · rw[List.getElem?_set_ne e']at mi
        exact h.owns.apart j j' q q' oW hj mi k hk kp
theorem Mem.merge{w:World}{R:List bI}{o1 o2:bI}(o:bI)(h:Mem W ([o1,o2]++R) w)(hf:∀k,o.dS k->o1.dS k\/o2.dS k)(hh:o1.holds w->o2.holds w->o.holds w):Mem W (R++[o]) w:=by
 have h1:=h.owns.all 0 o1 rfl;have h2:=h.owns.all 1 o2 rfl;refine⟨h.low,dH.both ⟨fun i q hi=>h.owns.all (i+2) q (by simpa using hi),fun i j q q' oW hi hj=>h.owns.apart (i+2) (j+2) q q' (by omega) (by simpa using hi) (by simpa using hj)⟩ (dH.one (hh h1.1 h2.1) fun k hk=>(hf k hk).elim (h1.2 k) (h2.2 k)) ?_⟩
 ·intro i j q q' hi hj k hk kp
  match j,hj with
  |0,hj=>
   simp only[List.getElem?_cons_zero,Option.some.injEq]at hj;subst hj;have lg:([o1,o2]++R)[i+2]?=some q:=by simpa using hi
   rcases hf k kp with h3|h3
   ·exact h.owns.apart 0 (i+2) o1 q (by omega) rfl lg k h3 hk
   ·exact h.owns.apart 1 (i+2) o2 q (by omega) rfl lg k h3 hk
  |j+1,hj=>simp at hj
theorem Mem.get{w:World}{L:List bI}(h:Mem W L w){i:Nat}{o:bI}(hi:L[i]?=some o):o.holds w:=(h.owns.all i o hi).1
theorem Mem.over{w:World}{L:List bI}(h:Mem W L w):Mem (bC.on w L) L w:=
 ⟨⟨rfl,rfl,rfl,Nat.le_refl _,fun _ _ _=>rfl⟩,fun i o hi=>⟨(h.owns.all i o hi).1,fun _ hk=> .inr ⟨o,List.mem_of_getElem? hi,hk⟩⟩,h.owns.apart⟩
theorem Mem.back{w w':World}{L R O:List bI}(h:Mem W (L++R) w)(h':Mem (bC.on w L) O w'):Mem W (R++O) w':=by
 have hle:W.w.heap.size<=w.heap.size:=h.low.size;have hL:∀o∈L,∀k,o.dS k->W.may k:=fun o ho k hk=>by
  obtain⟨i,hi⟩:=List.getElem?_of_mem ho;exact(h.owns.all i o (by rw[List.getElem?_append_left (List.getElem?_eq_some_iff.1 hi).1];exact hi)).2 k hk
 have hR:∀(i:Nat) (o:bI),R[i]?=some o->o.holds w/\(∀k,o.dS k->W.may k)/\∀k,o.dS k->k<w.heap.size/\¬(bC.on w L).X k:=fun i o hi=>by
  have lg:(L++R)[L.length+i]?=some o:=by rw[List.getElem?_append_right (by omega)];simpa using hi
  have h1:=h.owns.all _ o lg;refine⟨h1.1,h1.2,fun k hk=>⟨o.lt w h1.1 k hk,?_⟩⟩;rintro⟨q,hq,hqk⟩;obtain⟨j,hj⟩:=List.getElem?_of_mem hq;have Nu:=(List.getElem?_eq_some_iff.1 hj).1;exact h.owns.apart j (L.length+i) q o (by omega) (by rw[List.getElem?_append_left Nu];exact hj) lg k hqk hk
 refine⟨⟨h'.low.os.trans h.low.os,h'.low.tape.trans h.low.tape,h'.low.output.trans h.low.output,Nat.le_trans hle h'.low.size,fun k hk hx=>?_⟩,dH.both ⟨fun i o hi=>?_,?_⟩ ?_ ?_⟩
 ·rw[h'.low.block k (Nat.lt_of_lt_of_le hk hle) ?_]
  ·exact h.low.block k hk hx
  ·rintro⟨o,ho,jZ⟩
   exact(hL o ho k jZ).elim (fun h=>by omega) hx
 ·obtain⟨h1,h2,h3⟩:=hR i o hi
  exact⟨o.stay w w' h1 h'.low.size fun k hk=>h'.low.block k (h3 k hk).1 (h3 k hk).2,h2⟩
 ·intro i j o o' oW hi hj
  exact h.owns.apart (L.length+i) (L.length+j) o o' (by omega) (by rw[List.getElem?_append_right (by omega)];simpa using hi) (by rw[List.getElem?_append_right (by omega)];simpa using hj)
 ·exact h'.owns.mono fun k hk=>hk.elim (fun h1=> .inl (Nat.le_trans hle h1)) fun⟨o,ho,jZ⟩=>hL o ho k jZ
 ·intro i j o o' hi hj k hk kp
  obtain⟨h1,h2,h3⟩:=hR i o hi;rcases(h'.owns.all j o' hj).2 k kp with h4|h4
  ·have h4:w.heap.size<=k:=h4
   have:=(h3 k hk).1;omega
  ·exact(h3 k hk).2 h4
end
theorem Mem.cell{W w:World}{L:List bI}(h:Mem W L w){p:Addr}{v:Value}(hp:W.cell? p=some v):w.cell? p=some v:=by
 rw[h.below.cell (World.block_lt_of_cell? W p hp)];exact hp
structure jz(W0:World)(W:bC):Prop where
 below:Below W0.heap.size W0 W.w
 free:∀k,k<W0.heap.size->¬W.X k
theorem jz.self(W:World):jz W W:=⟨Below.refl _ _,fun _ _=>id⟩
theorem jz.mem{W0:World}{W:bC}(ho:jz W0 W){L:List bI}{w:World}(h:Mem W L w):Below W0.heap.size W0 w:=
 ⟨h.low.os.trans ho.below.os,h.low.tape.trans ho.below.tape,h.low.output.trans ho.below.output,Nat.le_trans ho.below.size h.low.size,fun k hk=>(h.low.block k (Nat.lt_of_lt_of_le hk ho.below.size) (ho.free k hk)).trans (ho.below.block k hk)⟩
theorem jz.cell{W0:World}{W:bC}(ho:jz W0 W){L:List bI}{w:World}(h:Mem W L w){p:Addr}{v:Value}(hp:W0.cell? p=some v):w.cell? p=some v:=by
 rw[(ho.mem h).cell (World.block_lt_of_cell? W0 p hp)];exact hp
theorem jz.on{W0:World}{W:bC}(ho:jz W0 W){L L':List bI}{w:World}(h:Mem W L w)(hs:∀o∈L',o∈L):jz W0 (bC.on w L'):=
 ⟨ho.mem h,fun k hk ⟨o,hm,hb⟩=>by
  obtain⟨i,hi⟩:=List.getElem?_of_mem (hs o hm);rcases(h.owns.all i o hi).2 k hb with h1|h1
  ·have:=ho.below.size
   have h1:W.w.heap.size<=k:=h1;omega
  ·exact ho.free k hk h1⟩
end bK
namespace bK
open Go.RowKit bO dc
structure T(P:Program)(n:Nat)(W:bC)(c:Code)(Q:Exit->Act->World->Prop)(fr:Fr)(L:List bI):Prop where
 go:∀a w,jP n a fr->Mem W L w->c.wp P Q a w
structure E(n:Nat)(W:bC)(e:Exit)(Q:Exit->Act->World->Prop)(fr:Fr)(L:List bI):Prop where
 go:∀a w,jP n a fr->Mem W L w->Q e a w
structure TL(P:Program)(n:Nat)(W:bC)(ops:Array Oper)(Q:Exit->Act->World->Prop)(l:List Oper)(fr:Fr)(L:List bI):Prop where
 go:∀a w,jP n a fr->Mem W L w->wpList P ops Q l a w
structure TM(P:Program)(n:Nat)(W:bC)(ops:Array Oper)(Q:Exit->Act->World->Prop)(K:Act->World->Prop)(ks:List Bool)(l:List Oper)(fr:Fr)(L:List bI):Prop where
 go:∀a,jP n a fr->KQ P ops Q K ks l a (Mem W L)
structure RR(P:Program)(n:Nat)(W:bC)(o:Oper)(fr:Fr)(L:List bI)(v:Value):Prop where
 go:∀a w,jP n a fr->Mem W L w->(execOp a.eval o).run P w= .ok (.value v) w
structure Spec(ι:Type) where
 ok:ι->Prop
 val:ι->Value
 own:ι->List bI
def bM{ι:Type}(S:Spec ι)(w:World)(e:Ending)(w':World):Prop:=∃x,S.ok x/\e= .returned (S.val x)/\Gr w w'/\mZ w.heap.size w' (S.own x)
def ret(v:Value):Spec Unit:=⟨fun _=>True,fun _=>v,fun _=>[]⟩
theorem KR{v:Value}{w w':World}{e:Ending}(h:e= .returned v)(hg:Gr w w'):bM (ret v) w e w':=⟨(),trivial,h,hg,mZ.nil _ _⟩
theorem xt{v:Value}{w w':World}{e:Ending}(h:bM (ret v) w e w'):e= .returned v/\Gr w w':=let ⟨_,_,h1,h2,_⟩:=h;⟨h1,h2⟩
section
variable{P:Program}{n:Nat}{W:bC}{Q:Exit->Act->World->Prop}{fr:Fr}{L:List bI}
theorem a8{x y:Code}(h:T P n W x (Exit.then (y.wp P Q) Q) fr L):T P n W (x.seq y) Q fr L:= .mk fun a w hr hm=>wp_seq (h.go a w hr hm)
theorem fN(h:E n W .normal Q fr L):T P n W .skip Q fr L:= .mk fun a w hr hm=>wp_skip (h.go a w hr hm)
theorem fO{id:Nat}(h:E n W (.exit id) Q fr L):T P n W (.exit id) Q fr L:= .mk fun a w hr hm=>wp_exit (h.go a w hr hm)
theorem iv(h:E n W .ret Q fr L):T P n W .ret Q fr L:= .mk fun a w hr hm=>wp_ret (h.go a w hr hm)
theorem eB{id:Nat}{c:Code}(h:T P n W c (Exit.inBlock id Q) fr L):T P n W (.block id c) Q fr L:= .mk fun a w hr hm=>wp_block (h.go a w hr hm)
theorem kS{c:Operand}{x y:Code}(hc:ev fr c=some (.bool true))(h:T P n W x Q fr L):T P n W (.cond c x y) Q fr L:= .mk fun a w hr hm=>wp_cond_true (hr.ev hc) (h.go a w hr hm)
theorem kT{c:Operand}{x y:Code}(hc:ev fr c=some (.bool false))(h:T P n W y Q fr L):T P n W (.cond c x y) Q fr L:= .mk fun a w hr hm=>wp_cond_false (hr.ev hc) (h.go a w hr hm)
theorem VB{c:Code}{L':List bI}(is:List Nat)(hn:is.Nodup)(hl:L'=is.filterMap fun i=>L[i]?)(h:T P n W c Q fr L'):T P n W c Q fr L:= .mk fun a w hr hm=>h.go a w hr (hm.pick is hn hl)
theorem VC{e:Exit}{L':List bI}(is:List Nat)(hn:is.Nodup)(hl:L'=is.filterMap fun i=>L[i]?)(h:E n W e Q fr L'):E n W e Q fr L:= .mk fun a w hr hm=>h.go a w hr (hm.pick is hn hl)
theorem eZ{y:Code}(h:T P n W y Q fr L):E n W .normal (Exit.then (y.wp P Q) Q) fr L:=⟨h.go⟩
theorem eP{id:Nat}{K:Act->World->Prop}(h:E n W (.exit id) Q fr L):E n W (.exit id) (Exit.then K Q) fr L:=⟨h.go⟩
theorem eg{K:Act->World->Prop}(h:E n W .ret Q fr L):E n W .ret (Exit.then K Q) fr L:=⟨h.go⟩
theorem dM{id:Nat}(h:E n W .normal Q fr L):E n W .normal (Exit.inBlock id Q) fr L:=⟨h.go⟩
theorem dN{id:Nat}(h:E n W .ret Q fr L):E n W .ret (Exit.inBlock id Q) fr L:=⟨h.go⟩
theorem dI{id:Nat}(h:E n W .normal Q fr L):E n W (.exit id) (Exit.inBlock id Q) fr L:= .mk fun a w hr hm=>by
 show(if id=id then Q .normal a w else Q (.exit id) a w)
 rw[if_pos rfl];exact h.go a w hr hm
theorem dJ{id Yn:Nat}(hne:Nat.beq Yn id=false)(h:E n W (.exit Yn) Q fr L):E n W (.exit Yn) (Exit.inBlock id Q) fr L:= .mk fun a w hr hm=>by
 show(if Yn=id then Q .normal a w else Q (.exit Yn) a w)
 rw[if_neg (Nat.ne_of_beq_eq_false hne)];exact h.go a w hr hm
def Rnd{ι:Type}(n:Nat)(W:bC)(I:ι->Prop)(F:ι->Fr)(M:ι->List bI)(μ:ι->Nat)(x:ι)(a:Act)(w:World):Prop:=∃x',I x'/\μ x'<μ x/\jP n a (F x')/\Mem W (M x') w
def Mid{ι:Type}(n:Nat)(W:bC)(I:ι->Prop)(F:ι->Fr)(M:ι->List bI)(a:Act)(w:World):Prop:=∃i,I i/\jP n a (F i)/\Mem W (M i) w
theorem dm{ι:Type}{I:ι->Prop}{F:ι->Fr}{M:ι->List bI}(i:ι)(hi:I i)(hf:DS (F i) fr)(hl:L=M i):E n W .normal (Exit.then (Mid n W I F M) Q) fr L:=
 ⟨fun _ _ hr hm=>⟨i,hi,hr.sub hf,hl▸hm⟩⟩
theorem jA{c:Code}{ι:Type}(I:ι->Prop)(F:ι->Fr)(M:ι->List bI)(μ:ι->Nat)(x0:ι)(h0:I x0)(hf:DS (F x0) fr)(hl:L=M x0)
 (round:∀x,I x->T P n W c (Exit.then (Rnd n W I F M μ x) Q) (F x) (M x)):T P n W (.loop c) Q fr L:=by
 refine⟨fun a w hr hm=>?_⟩;refine wp_loop_ghost (fun k a w=>∃x,μ x=k/\I x/\jP n a (F x)/\Mem W (M x) w) (μ x0) ⟨x0,rfl,h0,hr.sub hf,hl▸hm⟩ ?_;rintro k a w ⟨x,rfl,hi,hr,hm⟩;refine wp_mono ((round x hi).go a w hr hm) fun e a w h=>?_
 cases e with
 |normal=>obtain⟨x',h1,h2,h3,h4⟩:=h;exact⟨μ x',h2,x',rfl,h1,h3,h4⟩
 |_=>exact h
theorem fH{ι:Type}{I:ι->Prop}{F:ι->Fr}{M:ι->List bI}{μ:ι->Nat}{x:ι}(x':ι)(hi:I x')(hμ:μ x'<μ x)(hf:DS (F x') fr)(hl:L=M x'):
 E n W .normal (Exit.then (Rnd n W I F M μ x) Q) fr L:=
 ⟨fun _ _ hr hm=>⟨x',hi,hμ,hr.sub hf,hl▸hm⟩⟩
theorem Ax{fn:Func}{R:Ending->World->Prop}(h:∀a w,jP n a fr->Mem W L w->∃v,(results fn a.tmps).run P w= .ok v w/\R (.returned v) w):E n W .ret (bodyPost P fn R) fr L:=
 ⟨fun a w hr hm=>⟨hr.defers,h a w hr hm⟩⟩
theorem b9{fn:Func}{R:Ending->World->Prop}{t:Tmp}{v:Value}(kR:fn.results=#[.tmp t])(hv:look fr t=some v)(h:∀w,Mem W L w->R (.returned v) w):E n W .ret (bodyPost P fn R) fr L:=
 Ax fun a w hr hm=>⟨v,by simp[results,kR,Array.getD_eq_getD_getElem?,hr.get t v hv],h w hm⟩
theorem jk{fn:Func}{R:Ending->World->Prop}{t u:Tmp}{v z:Value}(kR:fn.results=#[.tmp t,.tmp u])(hv:look fr t=some v)(hz:look fr u=some z)(h:∀w,Mem W L w->R (.returned (.tuple #[v,z])) w):E n W .ret (bodyPost P fn R) fr L:=
 Ax fun a w hr hm=>⟨_,by simp[results,kR,Array.getD_eq_getD_getElem?,hr.get t v hv,hr.get u z hz],h w hm⟩
theorem j0{fn:Func}{R:Ending->World->Prop}{t u s:Tmp}{v z y:Value}(kR:fn.results=#[.tmp t,.tmp u,.tmp s])(hv:look fr t=some v)(hz:look fr u=some z)(hy:look fr s=some y)(h:∀w,Mem W L w->R (.returned (.tuple #[v,z,y])) w):E n W .ret (bodyPost P fn R) fr L:=
 Ax fun a w hr hm=>⟨_,by simp[results,kR,Array.getD_eq_getD_getElem?,hr.get t v hv,hr.get u z hz,hr.get s y hy],h w hm⟩
theorem Mem.meets{ι:Type}{S:Spec ι}{W w:World}(x:ι)(hm:Mem W L w)(hx:S.ok x)(is:List Nat)(hn:is.Nodup)(hl:S.own x=is.filterMap fun i=>L[i]?):bM S W (.returned (S.val x)) w:=
 ⟨x,hx,rfl,hm.below,hm.UG.pick is hn hl⟩
theorem Mem.ret{v:Value}{W w:World}(hm:Mem W L w):bM (ret v) W (.returned v) w:=⟨(),trivial,rfl,hm.below,mZ.nil _ _⟩
theorem dx{fn:Func}{W:World}{t:Tmp}{v v0:Value}(kR:fn.results=#[.tmp t])(hv:look fr t=some v)(h:v=v0):E n W .ret (bodyPost P fn (bM (ret v0) W)) fr L:=by
 subst h;exact b9 kR hv fun w hm=>hm.ret
def sH:Nat->List Value->Fr
 |_,[]=>[]
 |k,v::r=>(k,v)::sH (k+1) r
theorem nM:∀(vs:List Value) (k i:Nat) (v:Value),look (sH k vs) i=some v->k<=i/\vs[i-k]?=some v
  |[],_,_,_,h=>by cases h
  | u ::r,k,i,v,h=>by
    unfold sH look at h
    cases e:Nat.beq k i
    · rw[e]at h
      have hne:=Nat.ne_of_beq_eq_false e;obtain⟨h1,h2⟩:=nM r (k+1) i v h;refine⟨by omega,?_⟩;rw[show i-k=(i-(k+1))+1 by omega,List.getElem?_cons_succ];exact h2
    · rw[e]at h
      obtain rfl:k=i:=Nat.eq_of_beq_eq_true e;simp only[cond_true,Option.some.injEq]at h;subst h;simp
theorem enter{w:World}{f:FuncId}{fn:Func}{c:Code}{args:List Value}{R:Ending->World->Prop}(hf:P.funcs[f]?=some fn)(hb:fn.body=some c)(hn:fn.ntmps=n)(hle:Nat.ble args.length n=true)
 (h:T P n w c (bodyPost P fn R) (sH 0 args) []):Calls P f args.toArray w R:=by
 have VD:args.length<=n:=Nat.le_of_ble_eq_true hle;refine calls_of_wp hf hb (h.go _ w ⟨?_,rfl,fun i v hi=>?_⟩ (Mem.start w))
 ·simp[hn];omega
 ·obtain⟨_,h2⟩:=nM args 0 i v hi
  have hlt:=(List.getElem?_eq_some_iff.1 h2).1;rw[Array.getElem?_append_left (by simpa using hlt)]
  simpa using h2
theorem dC{B:bC}{w:World}{f:FuncId}{fn:Func}{c:Code}{args:List Value}{R:Ending->World->Prop}(hm:Mem B L w)(hf:P.funcs[f]?=some fn)(hb:fn.body=some c)(hn:fn.ntmps=n)(hle:Nat.ble args.length n=true)
 (h:T P n B c (bodyPost P fn R) (sH 0 args) L):Calls P f args.toArray w R:=by
 have VD:args.length<=n:=Nat.le_of_ble_eq_true hle;refine calls_of_wp hf hb (h.go _ w ⟨?_,rfl,fun i v hi=>?_⟩ hm)
 ·simp[hn];omega
 ·obtain⟨_,h2⟩:=nM args 0 i v hi
  have hlt:=(List.getElem?_eq_some_iff.1 h2).1;rw[Array.getElem?_append_left (by simpa using hlt)]
  simpa using h2
section
variable{ops:Array Oper}{K:Act->World->Prop}{ks:List Bool}{o:Oper}{rest:List Oper}{v:Value}{d:Nat}
theorem aL{id:Nat}{l:List Oper}(h:TL P n W l.toArray Q l fr L):T P n W (.region id l.toArray false) Q fr L:= .mk fun a w hr hm=>wp_region_lit (h.go a w hr hm)
theorem eL(h:E n W .normal Q fr L):TL P n W ops Q [] fr L:= .mk fun a w hr hm=>wpList_nil (h.go a w hr hm)
theorem kx{a:Act}(hg:o.guard=none):Region.wanted o (yielded ops a.tmps)=true:=by simp[Region.wanted,hg]
theorem lh{a:Act}{j e:Nat}{b:Bool}(hr:jP n a fr)(hg:o.guard=some (j,b))(hj:(ops[j]?).bind (·.dst)=some e)(hl:look fr e=some (.bool b)):Region.wanted o (yielded ops a.tmps)=true:=by
 simp[Region.wanted,hg,hr.yield hj hl]
def RH(b:Bool):Value->Bool
 | .bool c=>c !=b
 |_=>true
theorem Ay{a:Act}{j e:Nat}{b:Bool}{u:Value}(hr:jP n a fr)(hg:o.guard=some (j,b))(hj:(ops[j]?).bind (·.dst)=some e)(hl:look fr e=some u)(hu:RH b u=true):Region.wanted o (yielded ops a.tmps)=false:=by
 simp only[Region.wanted,hg,hr.yield hj hl]
 cases u<;>first|rfl|(rename_i c;cases c<;>cases b<;>first|rfl|cases hu)
theorem aV(hr:RR P n W o fr L v)(hg:o.guard=none)(hd:o.dst=some d)(hn:Nat.blt d n=true)(h:TL P n W ops Q rest ((d,v)::fr) L):TL P n W ops Q (o::rest) fr L:= .mk fun a w eQ hm=>
 wpList_plain hg fun K hK=>by
  unfold Oper.wp;rw[hr.go a w eQ hm];rw[Oper.upon_value,hd];exact hK _ _ (h.go _ w (eQ.put hn v) hm)
theorem I_{j e:Nat}{b:Bool}(hr:RR P n W o fr L v)(hg:o.guard=some (j,b))(hj:(ops[j]?).bind (·.dst)=some e)(hl:look fr e=some (.bool b))(hd:o.dst=some d)(hn:Nat.blt d n=true)(h:TL P n W ops Q rest ((d,v)::fr) L):TL P n W ops Q (o::rest) fr L:= .mk fun a w eQ hm=>
 BigFrame.wpList_want (lh eQ hg hj hl) fun K hK=>by
  unfold Oper.wp;rw[hr.go a w eQ hm];rw[Oper.upon_value,hd];exact hK _ _ (h.go _ w (eQ.put hn v) hm)
theorem RI{j e:Nat}{b:Bool}{u:Value}(hg:o.guard=some (j,b))(hj:(ops[j]?).bind (·.dst)=some e)(hl:look fr e=some u)(hu:RH b u=true)(hd:o.dst=some d)(hn:Nat.blt d n=true)(h:TL P n W ops Q rest ((d,undef)::fr) L):TL P n W ops Q (o::rest) fr L:= .mk fun a w eQ hm=>
 wpList_skip (Ay eQ hg hj hl hu) (by rw[hd];exact h.go _ w (eQ.put hn undef) hm)
theorem DT{p:Prop}{inst:Decidable p}(hr:RR P n W o fr L (.bool (decide p)))(hg:o.guard=none)(hd:o.dst=some d)(hn:Nat.blt d n=true)(ht:p->TL P n W ops Q rest ((d,.bool true)::fr) L)(hf:¬p->TL P n W ops Q rest ((d,.bool false)::fr) L):TL P n W ops Q (o::rest) fr L:=by
 by_cases h:p
 ·exact aV (by rwa [decide_eq_true h]at hr) hg hd hn (ht h)
 ·exact aV (by rwa [decide_eq_false h]at hr) hg hd hn (hf h)
theorem GZ{p:Prop}{inst:Decidable p}{j e:Nat}{b:Bool}(hr:RR P n W o fr L (.bool (decide p)))(hg:o.guard=some (j,b))(hj:(ops[j]?).bind (·.dst)=some e)(hl:look fr e=some (.bool b))(hd:o.dst=some d)(hn:Nat.blt d n=true)(ht:p->TL P n W ops Q rest ((d,.bool true)::fr) L)(hf:¬p->TL P n W ops Q rest ((d,.bool false)::fr) L):TL P n W ops Q (o::rest) fr L:=by
 by_cases h:p
 ·exact I_ (by rwa [decide_eq_true h]at hr) hg hj hl hd hn (ht h)
 ·exact I_ (by rwa [decide_eq_false h]at hr) hg hj hl hd hn (hf h)
theorem jP.RJ{a:Act}{e:Nat}{v:Value}(h:jP n a fr)(hl:look fr e=some v):jP n a ((e,v)::fr):=⟨h.size,h.defers,fun i u hi=>by
 unfold look at hi
 cases c:Nat.beq e i
 ·rw[c]at hi;exact h.get i u hi
 ·rw[c]at hi
  obtain rfl:e=i:=Nat.eq_of_beq_eq_true c;simp only[cond_true,Option.some.injEq]at hi;subst hi;exact h.get e v hl⟩
theorem KS{j e:Nat}{b0 b:Bool}(_:o.guard=some (j,b0))(_:(ops[j]?).bind (·.dst)=some e)(hl:look fr e=some (.bool b))(ht:b=true->TL P n W ops Q (o::rest) ((e,.bool true)::fr) L)(hf:b=false->TL P n W ops Q (o::rest) ((e,.bool false)::fr) L):TL P n W ops Q (o::rest) fr L:= .mk fun a w hr hm=>by
 cases b
 ·exact(hf rfl).go a w (hr.RJ hl) hm
 ·exact(ht rfl).go a w (hr.RJ hl) hm
theorem VE{j e:Nat}{b0:Bool}(_:o.guard=some (j,b0))(_:(ops[j]?).bind (·.dst)=some e)(_:look fr e=some (.bool true))(h:TL P n W ops Q (o::rest) fr L):TL P n W ops Q (o::rest) fr L:=h
theorem VF{j e:Nat}{b0:Bool}(_:o.guard=some (j,b0))(_:(ops[j]?).bind (·.dst)=some e)(_:look fr e=some (.bool false))(h:TL P n W ops Q (o::rest) fr L):TL P n W ops Q (o::rest) fr L:=h
theorem RL{c:Tmp}{x y:Code}{b:Bool}(hl:look fr c=some (.bool b))(ht:b=true->T P n W x Q ((c,.bool true)::fr) L)(hf:b=false->T P n W y Q ((c,.bool false)::fr) L):T P n W (.cond (.tmp c) x y) Q fr L:= .mk fun a w hr hm=>by
 cases b
 ·exact wp_cond_false (hr.ev (x:= .tmp c) hl) ((hf rfl).go a w (hr.RJ hl) hm)
 ·exact wp_cond_true (hr.ev (x:= .tmp c) hl) ((ht rfl).go a w (hr.RJ hl) hm)
theorem aI{f:FuncId}{args:Array Value}{ι:Type}{S:Spec ι}(he:∀a w,jP n a fr->(execOp a.eval o).run P w= .ok (.enter f args) w)(hc:∀w,Mem W L w->Calls P f args w (bM S w))(hg:o.guard=none)(hd:o.dst=some d)(hn:Nat.blt d n=true)
 (h:∀x,S.ok x->TL P n W ops Q rest ((d,S.val x)::fr) (L++S.own x)):TL P n W ops Q (o::rest) fr L:= .mk fun a w eQ hm=>
 wpList_plain hg fun K hK=>by
  unfold Oper.wp;rw[he a w eQ,Oper.upon_enter];refine(hc w hm).mono fun e w' ⟨x,h1,h2,h3,h4⟩=>?_;subst h2;simp only[hd];exact hK _ _ ((h x h1).go _ w' (eQ.put hn _) (hm.append h3 h4))
theorem ky{f:FuncId}{args:Array Value}{ι:Type}{S:Spec ι}{j e:Nat}{b:Bool}(he:∀a w,jP n a fr->(execOp a.eval o).run P w= .ok (.enter f args) w)(hc:∀w,Mem W L w->Calls P f args w (bM S w))(hg:o.guard=some (j,b))(hj:(ops[j]?).bind (·.dst)=some e)(hl:look fr e=some (.bool b))(hd:o.dst=some d)(hn:Nat.blt d n=true)
 (h:∀x,S.ok x->TL P n W ops Q rest ((d,S.val x)::fr) (L++S.own x)):TL P n W ops Q (o::rest) fr L:= .mk fun a w eQ hm=>
 BigFrame.wpList_want (lh eQ hg hj hl) fun K hK=>by
  unfold Oper.wp;rw[he a w eQ,Oper.upon_enter];refine(hc w hm).mono fun e w' ⟨x,h1,h2,h3,h4⟩=>?_;subst h2;simp only[hd];exact hK _ _ ((h x h1).go _ w' (eQ.put hn _) (hm.append h3 h4))
def c_{ι:Type}(S:Spec ι)(B:bC)(e:Ending)(w':World):Prop:=∃x,S.ok x/\e= .returned (S.val x)/\Mem B (S.own x) w'
theorem Mem.bP{ι:Type}{S:Spec ι}{w:World}(x:ι)(hm:Mem W L w)(hx:S.ok x)(is:List Nat)(hn:is.Nodup)(hl:S.own x=is.filterMap fun i=>L[i]?):c_ S W (.returned (S.val x)) w:=
 ⟨x,hx,rfl,hm.pick is hn hl⟩
theorem G0{is js:List Nat}{Lx R:List bI}(VG:Lx=is.filterMap fun i=>L[i]?)(I':R=js.filterMap fun i=>L[i]?):Lx++R=(is++js).filterMap fun i=>L[i]?:=by
 rw[List.filterMap_append,<-VG,<-I']
theorem aR{f:FuncId}{args:Array Value}{ι:Type}{S:Spec ι}(is js:List Nat){Lx R:List bI}(RM:(is++js).Nodup)(VG:Lx=is.filterMap fun i=>L[i]?)(I':R=js.filterMap fun i=>L[i]?)
 (he:∀a w,jP n a fr->(execOp a.eval o).run P w= .ok (.enter f args) w) (hc:∀w,Mem W L w->Mem (bC.on w Lx) Lx w->Calls P f args w (c_ S (bC.on w Lx))) (hg:o.guard=none) (hd:o.dst=some d) (hn:Nat.blt d n=true)
 (h:∀x,S.ok x->TL P n W ops Q rest ((d,S.val x)::fr) (R++S.own x)):TL P n W ops Q (o::rest) fr L:= .mk fun a w eQ hm=>
 wpList_plain hg fun K hK=>by
  have RN:Mem W (Lx++R) w:=hm.pick (is++js) RM (G0 VG I');have hm3:Mem W Lx w:=hm.pick is (List.nodup_append.1 RM).1 VG;unfold Oper.wp;rw[he a w eQ,Oper.upon_enter];refine(hc w hm hm3.over).mono fun e w' ⟨x,h1,h2,h3⟩=>?_;subst h2;simp only[hd];exact hK _ _ ((h x h1).go _ w' (eQ.put hn _) (RN.back h3))
theorem iV(hg:o.guard=none)(h:∀a w,jP n a fr->Mem W L w->∀K:Act->World->Prop,(∀a w,wpList P ops Q rest a w->K a w)->o.wp P a w K Q):TL P n W ops Q (o::rest) fr L:= .mk fun a w eQ hm=>
 wpList_plain hg fun K hK=>h a w eQ hm K hK
theorem BW{id:Nat}{l:List Oper}(k:Nat)(ks:List Bool)(hk:ks.length=k)(hm:P.follows .mixedOrders=true)(hB:RG .any l.toArray ks=true)
 (hQ:∀c a d v w,Q (.panic c) (Act.put a d v) w->Q (.panic c) a w)
 (h:TM P n W l.toArray Q (fun a' w'=>wpList P l.toArray Q (l.drop k) a' w') ks (l.take k) fr L):T P n W (.region id l.toArray true) Q fr L:= .mk fun a _ hr pt=>
 dc.dc k ks hk hm hB (fun c a d v w=>hQ c a d v w) (Mem W L) (eY W L) pt.drew (h.go a hr)
theorem BX{l:List Oper}(h:TL P n W ops Q l fr L):TM P n W ops Q (fun a' w'=>wpList P ops Q l a' w') [] [] fr L:= .mk fun a hr=>I9 fun w hw=>h.go a w hr hw
theorem e7(hr:RR P n W o fr L v)(hg:o.guard=none)(hd:o.dst=some d)(hn:Nat.blt d n=true)(h:TM P n W ops Q K ks rest ((d,v)::fr) L):TM P n W ops Q K (true::ks) (o::rest) fr L:= .mk fun a eQ=>
 I8 (kx hg) (fun w hS=>hr.go a w eQ hS) (by rw[hd];exact h.go _ (eQ.put hn v))
theorem wF{q e:Nat}{b:Bool}(hg:o.guard=some (q,b))(hj:(ops[q]?).bind (·.dst)=some e)(hl:look fr e=some (.bool b))(h:TL P n W ops Q ({o with guard:=none}::rest) fr L):TL P n W ops Q (o::rest) fr L:= .mk fun a w hr hm=>by
 have h1:=h.go a w hr hm;unfold wpList at h1⊢;rw[if_pos (kx rfl)]at h1;rw[if_pos (lh hr hg hj hl)];exact h1
theorem eC(hg:o.guard=none)(hr:RR P n W o fr L v)(hd:o.dst=some d)(hn:Nat.blt d n=true)(h:TM P n W ops Q K ks rest ((d,v)::fr) L):TM P n W ops Q K (true::ks) (o::rest) fr L:=e7 hr hg hd hn h
end
end
end bK
namespace bK
open Go.RowKit bO dc
def str(l:List UInt8):Value:= .string ⟨l.toArray⟩
theorem G1(s:ByteArray):Value.string s=str s.data.toList:=by unfold str;congr
structure Ty(P:Program)(t:TypeId)(agg:Bool)(c:Nat):Prop where
 agg:∀w,(isAgg t).run P w= .ok agg w
 size:∀w,(sizeOf t).run P w= .ok c w
def tyB(P:Program)(t:TypeId)(agg:Bool)(c:Nat):Bool:=
 (match P.underlying t with|some (.struct _)=>agg|some (.array _ _)=>agg|some _=>!agg|none=>false)&&(match P.info? t with|some i=>Nat.beq i.size c|none=>false)
theorem Ty.of{P:Program}{t:TypeId}{agg:Bool}{c:Nat}(h:tyB P t agg c=true):Ty P t agg c:=by
 unfold tyB at h;rw[Bool.and_eq_true]at h;obtain⟨h1,h2⟩:=h;refine⟨fun w=>?_,fun w=>?_⟩
 ·cases e:P.underlying t with
  |none=>rw[e]at h1;cases h1
  |some d=>
   rw[e]at h1
   cases agg<;>cases d<;>first|(cases h1;done)|simp[isAgg,run_underlying e]
 ·cases e:P.info? t with
  |none=>rw[e]at h2;cases h2
  |some i=>
   rw[e]at h2;obtain rfl:i.size=c:=Nat.eq_of_beq_eq_true h2;simp[sizeOf,typeInfo,e]
section
variable{P:Program}{n:Nat}{W:bC}{fr:Fr}{L:List bI}{dst:Option Tmp}{ty:TypeId}{pos:String}{after:Array Edge}{guard:Option (Nat×Bool)}
theorem gj{x:Operand}{v:Value}(hx:ev fr x=some v):RR P n W ⟨dst,.move x,ty,pos,after,guard⟩ fr L v:= .mk fun a w hr _=>by
 show Result.ok (Next.value (a.eval x)) w=_;rw[hr.ev hx]
theorem hZ{x:Operand}{v:Value}(hx:ev fr x=some v):RR P n W ⟨dst,.assign x,ty,pos,after,guard⟩ fr L v:= .mk fun a w hr _=>by
 show Result.ok (Next.value (a.eval x)) w=_;rw[hr.ev hx]
theorem Nv{c x y:Operand}{v:Value}(hc:ev fr c=some (.bool true))(hx:ev fr x=some v):RR P n W ⟨dst,.pick c x y,ty,pos,after,guard⟩ fr L v:= .mk fun a w hr _=>by
 simp[execOp,hr.ev hc,hr.ev hx,asBool]
theorem Nw{c x y:Operand}{v:Value}(hc:ev fr c=some (.bool false))(hy:ev fr y=some v):RR P n W ⟨dst,.pick c x y,ty,pos,after,guard⟩ fr L v:= .mk fun a w hr _=>by
 simp[execOp,hr.ev hc,hr.ev hy,asBool]
theorem G2{t:Operand}{i:Nat}{vs:Array Value}{v:Value}(ht:ev fr t=some (.tuple vs))(hv:vs[i]?=some v):RR P n W ⟨dst,.extract t i,ty,pos,after,guard⟩ fr L v:= .mk fun a w hr _=>by
 simp[execOp,hr.ev ht,Instr.extract,hv]
section
variable{t u:TypeId}{x y:Operand}{k:IntKind}{m m':Int}
theorem mL{op:BinOp}{v:Value}(hx:ev fr x=some (.int k m))(hy:ev fr y=some (.int k m'))(h:∀w,(binOp op t (.int k m) (.int k m')).run P w= .ok v w):RR P n W ⟨dst,.binOp op t x y u,ty,pos,after,guard⟩ fr L v:= .mk fun a w hr _=>by
 have e:(eqGuard op t x y (.int k m) (.int k m')).run P w= .ok () w:=by
  unfold eqGuard;cases op<;>rfl
 simp[execOp,hr.ev hx,hr.ev hy,e,h]
theorem VH(hx:ev fr x=some (.int k m))(hy:ev fr y=some (.int k m')):RR P n W ⟨dst,.binOp .add t x y u,ty,pos,after,guard⟩ fr L (.int k (k.wrap (m+m'))):=mL hx hy fun w=>by simp[binOp,Op.intArith]
theorem VI(hx:ev fr x=some (.int k m))(hy:ev fr y=some (.int k m')):RR P n W ⟨dst,.binOp .sub t x y u,ty,pos,after,guard⟩ fr L (.int k (k.wrap (m-m'))):=mL hx hy fun w=>by simp[binOp,Op.intArith]
theorem VJ(hx:ev fr x=some (.int k m))(hy:ev fr y=some (.int k m')):RR P n W ⟨dst,.binOp .mul t x y u,ty,pos,after,guard⟩ fr L (.int k (k.wrap (m*m'))):=mL hx hy fun w=>by simp[binOp,Op.intArith]
theorem kq{r:Int}(h0: -9223372036854775808<=r)(h1:r<=9223372036854775807):IntKind.i64.wrap r=r:=IntWalk.i64_in _ (by omega)
theorem cB{r:Int}(hx:ev fr x=some (.int .i64 m))(hy:ev fr y=some (.int .i64 m'))(h0: -9223372036854775808<=m+m')(h1:m+m'<=9223372036854775807)(hr:m+m'=r):RR P n W ⟨dst,.binOp .add t x y u,ty,pos,after,guard⟩ fr L (.int .i64 r):=by
 have:=VH (P:=P) (n:=n) (W:=W) (L:=L) (dst:=dst) (ty:=ty) (pos:=pos) (after:=after) (guard:=guard) (t:=t) (u:=u) hx hy;rwa [kq h0 h1,hr]at this
theorem df{r:Int}(hx:ev fr x=some (.int .i64 m))(hy:ev fr y=some (.int .i64 m'))(h0: -9223372036854775808<=m-m')(h1:m-m'<=9223372036854775807)(hr:m-m'=r):RR P n W ⟨dst,.binOp .sub t x y u,ty,pos,after,guard⟩ fr L (.int .i64 r):=by
 have:=VI (P:=P) (n:=n) (W:=W) (L:=L) (dst:=dst) (ty:=ty) (pos:=pos) (after:=after) (guard:=guard) (t:=t) (u:=u) hx hy;rwa [kq h0 h1,hr]at this
theorem Ny{r:Int}(hx:ev fr x=some (.int .i64 m))(hy:ev fr y=some (.int .i64 m'))(h0: -9223372036854775808<=m*m')(h1:m*m'<=9223372036854775807)(hr:m*m'=r):RR P n W ⟨dst,.binOp .mul t x y u,ty,pos,after,guard⟩ fr L (.int .i64 r):=by
 have:=VJ (P:=P) (n:=n) (W:=W) (L:=L) (dst:=dst) (ty:=ty) (pos:=pos) (after:=after) (guard:=guard) (t:=t) (u:=u) hx hy;rwa [kq h0 h1,hr]at this
theorem bQ{b:Bool}(hx:ev fr x=some (.int k m))(hy:ev fr y=some (.int k m'))(h:decide (m<m')=b):RR P n W ⟨dst,.binOp .lss t x y u,ty,pos,after,guard⟩ fr L (.bool b):=mL hx hy fun w=>by simp[binOp,Op.intCmp,<-h]
theorem rC{b:Bool}(hx:ev fr x=some (.int k m))(hy:ev fr y=some (.int k m'))(h:decide (m<=m')=b):RR P n W ⟨dst,.binOp .leq t x y u,ty,pos,after,guard⟩ fr L (.bool b):=mL hx hy fun w=>by simp[binOp,Op.intCmp,<-h]
theorem dj{b:Bool}(hx:ev fr x=some (.int k m))(hy:ev fr y=some (.int k m'))(h:decide (m'<m)=b):RR P n W ⟨dst,.binOp .gtr t x y u,ty,pos,after,guard⟩ fr L (.bool b):=mL hx hy fun w=>by simp[binOp,Op.intCmp,<-h]
theorem dO{b:Bool}(hx:ev fr x=some (.int k m))(hy:ev fr y=some (.int k m'))(h:decide (m'<=m)=b):RR P n W ⟨dst,.binOp .geq t x y u,ty,pos,after,guard⟩ fr L (.bool b):=mL hx hy fun w=>by simp[binOp,Op.intCmp,<-h]
theorem bL{b:Bool}(hx:ev fr x=some (.int k m))(hy:ev fr y=some (.int k m'))(h:decide (m=m')=b):RR P n W ⟨dst,.binOp .eql t x y u,ty,pos,after,guard⟩ fr L (.bool b):=mL hx hy fun w=>by
 have:(m==m')=b:=by rw[<-h];exact Bool.beq_eq_decide_eq m m'
 simp[binOp,Op.intCmp,this]
theorem bm{b:Bool}(hx:ev fr x=some (.int k m))(hy:ev fr y=some (.int k m'))(h:decide (m≠m')=b):RR P n W ⟨dst,.binOp .neq t x y u,ty,pos,after,guard⟩ fr L (.bool b):=mL hx hy fun w=>by
 have:(m !=m')=b:=by rw[<-h,bne,Bool.beq_eq_decide_eq];simp
 simp[binOp,Op.intCmp,this]
theorem BY{op:BinOp}{r:Int}(hop:op= .and\/op= .or\/op= .xor\/op= .andNot)(hx:ev fr x=some (.int k m))(hy:ev fr y=some (.int k m'))(h:bits op k m m'=r):RR P n W ⟨dst,.binOp op t x y u,ty,pos,after,guard⟩ fr L (.int k r):=mL hx hy fun w=>by
 subst h;rcases hop with rfl|rfl|rfl|rfl<;>simp[binOp,Op.intBits,bits]
theorem DU{op:BinOp}{k':IntKind}{v:Value}(hop:op= .shl\/op= .shr)(hx:ev fr x=some (.int k m))(hy:ev fr y=some (.int k' m'))(h:∀w,(Op.shift op k m k' m').run P w= .ok v w):RR P n W ⟨dst,.binOp op t x y u,ty,pos,after,guard⟩ fr L v:= .mk fun a w hr _=>by
 have e:(eqGuard op t x y (.int k m) (.int k' m')).run P w= .ok () w:=by unfold eqGuard;rcases hop with rfl|rfl<;>rfl
 rcases hop with rfl|rfl<;>simp[execOp,hr.ev hx,hr.ev hy,e,binOp,h]
theorem j_{r:Int}(hx:ev fr x=some (.int k m))(hy:ev fr y=some (.int k m'))(h:bits .and k m m'=r):RR P n W ⟨dst,.binOp .and t x y u,ty,pos,after,guard⟩ fr L (.int k r):=BY (.inl rfl) hx hy h
theorem sJ{r:Int}(hx:ev fr x=some (.int k m))(hy:ev fr y=some (.int k m'))(h:bits .or k m m'=r):RR P n W ⟨dst,.binOp .or t x y u,ty,pos,after,guard⟩ fr L (.int k r):=BY (.inr (.inl rfl)) hx hy h
theorem xu{k':IntKind}{v:Value}(hx:ev fr x=some (.int k m))(hy:ev fr y=some (.int k' m'))(h:∀w,(Op.shift .shl k m k' m').run P w= .ok v w):RR P n W ⟨dst,.binOp .shl t x y u,ty,pos,after,guard⟩ fr L v:=DU (.inl rfl) hx hy h
theorem lm{k':IntKind}{v:Value}(hx:ev fr x=some (.int k m))(hy:ev fr y=some (.int k' m'))(h:∀w,(Op.shift .shr k m k' m').run P w= .ok v w):RR P n W ⟨dst,.binOp .shr t x y u,ty,pos,after,guard⟩ fr L v:=DU (.inr rfl) hx hy h
theorem fI{k':IntKind}{r:Int}(hs:P.underlying t=some (.int k'))(hd:P.underlying u=some (.int k))(hx:ev fr x=some (.int k' m))(h:k.wrap m=r):RR P n W ⟨dst,.convert t u x,ty,pos,after,guard⟩ fr L (.int k r):= .mk fun a w hr _=>by
 simp[execOp,hr.ev hx,convert,run_underlying hs,run_underlying hd,Conv.intToInt,h]
end
theorem xw{t:TypeId}{x:Operand}{b c:Bool}(hx:ev fr x=some (.bool b))(h:(!b)=c):RR P n W ⟨dst,.unOp .not t x,ty,pos,after,guard⟩ fr L (.bool c):= .mk fun a w hr _=>by
 subst h;simp[execOp,hr.ev hx,Op.unary]
theorem Nz{t u:TypeId}{x y:Operand}{m m' r:Int}(hx:ev fr x=some (.int .i64 m))(hy:ev fr y=some (.int .i64 m'))(h:min m m'=r):RR P n W ⟨dst,.call {callee:= .builtin .min,args:=#[x,y],argTypes:=#[t,u]},ty,pos,after,guard⟩ fr L (.int .i64 r):= .mk fun a w hr _=>by
 subst h;have h1:=hr.ev hx;have h2:=hr.ev hy;have e:(if m'<m then m' else m)=min m m':=by split<;>omega
 simp[BigFrame.execOp_builtin,BigFrame.builtin_min,h1,h2,Builtin.min_,Builtin.min2,e]
theorem NA{t u:TypeId}{x y:Operand}{m m' r:Int}(hx:ev fr x=some (.int .i64 m))(hy:ev fr y=some (.int .i64 m'))(h:max m m'=r):RR P n W ⟨dst,.call {callee:= .builtin .max,args:=#[x,y],argTypes:=#[t,u]},ty,pos,after,guard⟩ fr L (.int .i64 r):= .mk fun a w hr _=>by
 subst h;have h1:=hr.ev hx;have h2:=hr.ev hy;have e:(if m'>m then m' else m)=max m m':=by split<;>omega
 have e2:(if m<m' then m' else m)=max m m':=e;simp[BigFrame.execOp_builtin,BigFrame.builtin_max,h1,h2,Builtin.max_,Builtin.max2,e2]
theorem xy{t:TypeId}{a b:Bool}(ht:P.underlying t=some .bool)(d:Nat)(w:World):(Op.equalIn (d+1) t (.bool a) (.bool b)).run P w= .ok (a==b) w:=by simp[Op.equalIn,run_underlying ht]
theorem Az{t u:TypeId}{x y:Operand}{a b c:Bool}(ht:P.underlying t=some .bool)(hx:ev fr x=some (.bool a))(hy:ev fr y=some (.bool b))(h:(a==b)=c):RR P n W ⟨dst,.binOp .eql t x y u,ty,pos,after,guard⟩ fr L (.bool c):= .mk fun ac w hr _=>by
 have e:(eqGuard .eql t x y (.bool a) (.bool b)).run P w= .ok () w:=rfl;have e2:(binOp .eql t (.bool a) (.bool b)).run P w= .ok (.bool c) w:=by
  show((Op.equal t (.bool a) (.bool b))>>=fun r=>pure (Value.bool r)).run P w=_
  have:(Op.equal t (.bool a) (.bool b)).run P w= .ok (a==b) w:=xy ht 9999 w;rw[Sem.run_bind,this,h];rfl
 simp[execOp,hr.ev hx,hr.ev hy,e,e2]
theorem KT{t u:TypeId}{x y:Operand}{a b c:Bool}(ht:P.underlying t=some .bool)(hx:ev fr x=some (.bool a))(hy:ev fr y=some (.bool b))(h:(!(a==b))=c):RR P n W ⟨dst,.binOp .neq t x y u,ty,pos,after,guard⟩ fr L (.bool c):= .mk fun ac w hr _=>by
 have e:(eqGuard .neq t x y (.bool a) (.bool b)).run P w= .ok () w:=rfl;have e2:(binOp .neq t (.bool a) (.bool b)).run P w= .ok (.bool c) w:=by
  show((Op.equal t (.bool a) (.bool b))>>=fun r=>pure (Value.bool (!r))).run P w=_
  have:(Op.equal t (.bool a) (.bool b)).run P w= .ok (a==b) w:=xy ht 9999 w;rw[Sem.run_bind,this];show Result.ok (Value.bool (!(a==b))) w=_
  rw[h]
 simp[execOp,hr.ev hx,hr.ev hy,e,e2]
section
variable{t u:TypeId}{x y:Operand}{l l':List UInt8}
theorem KU(ht:P.underlying t=some .string)(hx:ev fr x=some (str l)):RR P n W ⟨dst,.call {callee:= .builtin .len,args:=#[x],argTypes:=#[t]},ty,pos,after,guard⟩ fr L (.int .i64 l.length):= .mk fun a w hr _=>by
 have G3:=hr.ev hx;unfold str at G3;have hsz:(ByteArray.mk l.toArray).size=l.length:=List.size_toArray;simp[BigFrame.execOp_builtin,BigFrame.builtin_len,Builtin.len_,G3,run_underlying ht,goInt,hsz]
theorem VK(l:List UInt8):(ByteArray.mk l.toArray).toList=l:=by
 have h:∀(m:List UInt8) (i:Nat) (r:List UInt8),i+m.length=l.length->l.drop i=m->ByteArray.toList.loop ⟨l.toArray⟩ i r=r.reverse++m:=by
  intro m
  induction m with
  |nil=>
   intro i r hi _;unfold ByteArray.toList.loop;rw[if_neg (by simp[ByteArray.size]at*;omega)];simp
  |cons b m ih=>
   intro i r hi hd;unfold ByteArray.toList.loop;have hlt:i<l.length:=by simp at hi;omega
   rw[if_pos (by simpa[ByteArray.size]using hlt)];rw[List.drop_eq_getElem_cons hlt]at hd;injection hd with h1 h2
   rw[ih (i+1) _ (by simp at hi;omega) h2];have:(ByteArray.mk l.toArray).get! i=b:=by simp[ByteArray.get!,hlt,h1]
   rw[this];simp
 unfold ByteArray.toList;rw[h l 0 [] (by simp) rfl];simp
theorem pu{b:Bool}(hx:ev fr x=some (str l))(hy:ev fr y=some (str l'))(h:decide (l=l')=b):RR P n W ⟨dst,.binOp .eql t x y u,ty,pos,after,guard⟩ fr L (.bool b):= .mk fun a w hr _=>by
 have e:(eqGuard .eql t x y (str l) (str l')).run P w= .ok () w:=rfl;have e2:(l==l')=b:=by rw[<-h];exact Bool.beq_eq_decide_eq l l'
 unfold str at*;simp[execOp,hr.ev hx,hr.ev hy,e,binOp,Op.stringOp,e2]
theorem sK{b:Bool}(hx:ev fr x=some (str l))(hy:ev fr y=some (str l'))(h:decide (l≠l')=b):RR P n W ⟨dst,.binOp .neq t x y u,ty,pos,after,guard⟩ fr L (.bool b):= .mk fun a w hr _=>by
 have e:(eqGuard .neq t x y (str l) (str l')).run P w= .ok () w:=rfl;have e2:(!(l==l'))=b:=by rw[<-h,Bool.beq_eq_decide_eq];simp
 unfold str at*;simp[execOp,hr.ev hx,hr.ev hy,e,binOp,Op.stringOp,e2]
theorem m_(hx:ev fr x=some (str l))(hy:ev fr y=some (str l'))(h:l.length+l'.length<=9223372036854775807):RR P n W ⟨dst,.binOp .add t x y u,ty,pos,after,guard⟩ fr L (str (l++l')):= .mk fun a w hr _=>by
 have e:(eqGuard .add t x y (str l) (str l')).run P w= .ok () w:=rfl;have e2:=run_string_add_sum (P:=P) w ⟨l.toArray⟩ ⟨l'.toArray⟩ (by simpa[ByteArray.size]using h);rw[ByteArray.mk_append_mk]at e2;unfold str at*;simp[execOp,hr.ev hx,hr.ev hy,e,binOp,e2]
theorem qC{i:Int}{b:UInt8}{k:IntKind}(ht:P.underlying t=some .string)(hx:ev fr x=some (str l))(hy:ev fr y=some (.int k i))(h0:0<=i)(h:l[i.toNat]?=some b):RR P n W ⟨dst,.index t x y,ty,pos,after,guard⟩ fr L (.int .u8 b.toNat):= .mk fun a w hr _=>by
 have hlt:=(List.getElem?_eq_some_iff.1 h).1;have e:(if 0<=i then(ByteArray.mk l.toArray)[i.toNat]? else none)=some b:=by
  rw[if_pos h0];have hs:i.toNat<(ByteArray.mk l.toArray).size:=by simpa[ByteArray.size]using hlt
  rw[getElem?_pos (ByteArray.mk l.toArray) i.toNat hs];have:=(List.getElem?_eq_some_iff.1 h).2;exact congrArg some (by rw[<-this];rfl)
 unfold str at*;simp only[execOp,hr.ev hx,hr.ev hy,Instr.index,asIntOf,Sem.run_bind,Sem.run_pure,Result.andThen_ok,run_underlying ht,e]
end
end
end bK
namespace bK
open Go.RowKit bO dc
section
variable{P:Program}{n:Nat}{W:bC}{fr:Fr}{L:List bI}{dst:Option Tmp}{ty:TypeId}{pos:String}{after:Array Edge}{guard:Option (Nat×Bool)}
def At(W:bC)(L:List bI)(p:Addr)(v:Value):Prop:=∀w,Mem W L w->w.cell? p=some v
theorem iw{W:World}{p:Addr}{v:Value}(h:W.cell? p=some v):At W L p v:=fun _ hm=>hm.cell h
theorem fx{W0:World}{p:Addr}{v:Value}(ho:jz W0 W)(h:W0.cell? p=some v):At W L p v:=fun _ hm=>ho.cell hm h
theorem ah{i g off:Nat}{cs:Array Value}{T:TypeId}{v:Value}(hi:L[i]?=some (aw g cs T))(hv:cs[off]?=some v):At W L ⟨g,off,none⟩ v:=fun w hm=>by
 rw[cell_of_row w g off cs T (0,0) (hm.get hi)];exact hv
theorem ix{i g off size cap m k:Nat}{e:TypeId}{xs:List Value}{v:Value}(hi:L[i]?=some (aM e size (.slice (some ⟨g,0,none⟩) m cap) k xs))(hv:xs[off]?=some v):At W L ⟨g,off,none⟩ v:=fun w hm=>by
 have h:w.ownsRow 0 e size (.slice (some ⟨g,0,none⟩) m cap) k xs:=hm.get hi;have:=h.cells (g:=g) rfl off v hv
 rwa [eS,Nat.zero_add]at this
theorem f_{W:World}{b off j:Nat}{xs:List Value}{v:Value}(h:Rd W b off xs)(hv:xs[j]?=some v):At W L ⟨b,off+j,none⟩ v:=iw (h j v hv)
theorem J{t:TypeId}{x:Operand}{p:Addr}{c:Nat}{v:Value}(hT:Ty P t false c)(hx:ev fr x=some (.pointer (some p)))(h:At W L p v):RR P n W ⟨dst,.load t x,ty,pos,after,guard⟩ fr L v:= .mk fun a w hr hm=>by
 simp[execOp,hr.ev hx,Instr.loadAt,Instr.sureAddr,loadVar,hT.agg,h w hm]
theorem aH{t:TypeId}{x:Operand}{b off c:Nat}{cs:List Value}(hT:Ty P t true c)(hx:ev fr x=some (.pointer (some ⟨b,off,none⟩)))(hl:cs.length=c)(h:∀j v,cs[j]?=some v->At W L ⟨b,off+j,none⟩ v):RR P n W ⟨dst,.load t x,ty,pos,after,guard⟩ fr L (.agg cs.toArray):= .mk fun a w hr hm=>by
 subst hl;have:=run_loadCells_list (P:=P) w ⟨b,off,none⟩ cs fun j v hj=>by rw[eS];exact h j v hj w hm
 simp[execOp,hr.ev hx,Instr.loadAt,Instr.sureAddr,loadVar,hT.agg,hT.size,this]
theorem az{t:TypeId}{x:Operand}{i g c:Nat}{cs:Array Value}{T:TypeId}(hT:Ty P t true c)(hx:ev fr x=some (.pointer (some ⟨g,0,none⟩)))(hi:L[i]?=some (aw g cs T))(hl:cs.size=c):RR P n W ⟨dst,.load t x,ty,pos,after,guard⟩ fr L (.agg cs):=by
 have:=aH (P:=P) (n:=n) (W:=W) (L:=L) (dst:=dst) (ty:=ty) (pos:=pos) (after:=after) (guard:=guard) (cs:=cs.toList) hT hx (by simpa using hl) fun j v hj=>by rw[Nat.zero_add];exact ah hi (by simpa using hj)
 simpa using this
theorem NB{W:World}{α:Type}{f:α->Value}{b off j:Nat}{l:List α}(h:Rd W b off (l.map f))(hj:j<l.length):At W L ⟨b,off+j,none⟩ (f l[j]):=f_ h (by simp[hj])
structure VL(P:Program)(s:TypeId)(f o:Nat):Prop where
 run:∀(a:Addr) w,(Instr.fieldAt s (.pointer (some a)) f).run P w= .ok (.pointer (some (a.add o))) w
def Yo(P:Program)(s:TypeId)(f o:Nat):Bool:=
 match P.underlying s with
 |some (.struct fs)=>(match fs[f]? with|some d=>Nat.beq d.offset o&&(match P.info? d.type with|some i=>!(Nat.beq i.size 0)|none=>false)|none=>false)
 |_=>false
theorem VL.of{P:Program}{s:TypeId}{f o:Nat}(h:Yo P s f o=true):VL P s f o:=by
  unfold Yo at h
  cases e:P.underlying s with
  |none=>rw[e]at h;cases h
  | some d=>
    rw[e]at h
    cases d<;>try (cases h;done)
    rename_i fs
    simp only at h
    cases e2:fs[f]? with
    |none=>rw[e2]at h;cases h
    | some d=>
      rw[e2]at h;simp only[Bool.and_eq_true]at h;obtain⟨h1,h2⟩:=h;obtain rfl:=Nat.eq_of_beq_eq_true h1
      cases e3:P.info? d.type with
      |none=>rw[e3]at h2;cases h2
      | some i=>
        rw[e3]at h2;simp only[Bool.not_eq_true']at h2;have:=Nat.ne_of_beq_eq_false h2;exact⟨fun a w=>by simp[Instr.fieldAt,run_underlying e,e2,Instr.sureAddr,fieldPlace,sizeOf,typeInfo,e3,this]⟩
theorem DV{s:TypeId}{x:Operand}{f o b off r:Nat}(hf:VL P s f o)(hx:ev fr x=some (.pointer (some ⟨b,off,none⟩)))(hr:off+o=r):RR P n W ⟨dst,.fieldAddr s x f,ty,pos,after,guard⟩ fr L (.pointer (some ⟨b,r,none⟩)):= .mk fun a w h _=>by
 subst hr;simp[execOp,h.ev hx,hf.run,eS]
theorem NC{t e:TypeId}{x y:Operand}{agg:Bool}{c b off len cap r:Nat}{k:IntKind}{i:Int}(ht:P.underlying t=some (.slice e))(he:Ty P e agg c)(hx:ev fr x=some (.slice (some ⟨b,off,none⟩) len cap))(hy:ev fr y=some (.int k i))(h0:0<=i)(h1:i<len)(hr:off+i.toNat*c=r):
 RR P n W ⟨dst,.indexAddr t x y,ty,pos,after,guard⟩ fr L (.pointer (some ⟨b,r,none⟩)):= .mk fun a w h _=>by
 subst hr;simp[execOp,h.ev hx,h.ev hy,Instr.indexAt,asIntOf,run_underlying ht,he.size,h0,h1,eS]
theorem bx{t e:TypeId}{x y:Operand}{agg:Bool}{b off len cap j:Nat}{k:IntKind}(ht:P.underlying t=some (.slice e))(he:Ty P e agg 1)(hx:ev fr x=some (.slice (some ⟨b,off,none⟩) len cap))(hy:ev fr y=some (.int k (j:Int)))(h1:j<len):
 RR P n W ⟨dst,.indexAddr t x y,ty,pos,after,guard⟩ fr L (.pointer (some ⟨b,off+j,none⟩)):=NC ht he hx hy (by omega) (by omega) (by simp)
theorem aC{t e:TypeId}{x y:Operand}{agg:Bool}{c b off len cap j:Nat}{k:IntKind}(ht:P.underlying t=some (.slice e))(he:Ty P e agg c)(hx:ev fr x=some (.slice (some ⟨b,off,none⟩) len cap))(hy:ev fr y=some (.int k (j:Int)))(h1:j<len):
 RR P n W ⟨dst,.indexAddr t x y,ty,pos,after,guard⟩ fr L (.pointer (some ⟨b,off+j*c,none⟩)):=NC ht he hx hy (by omega) (by omega) (by simp)
theorem RO{t e:TypeId}{x y:Operand}{agg:Bool}{c b off len r:Nat}{k:IntKind}{i:Int}(ht:P.underlying t=some (.array len e))(he:Ty P e agg c)(hx:ev fr x=some (.pointer (some ⟨b,off,none⟩)))(hy:ev fr y=some (.int k i))(h0:0<=i)(h1:i<len)(hr:off+i.toNat*c=r):
 RR P n W ⟨dst,.indexAddr t x y,ty,pos,after,guard⟩ fr L (.pointer (some ⟨b,r,none⟩)):= .mk fun a w h _=>by
 subst hr;simp[execOp,h.ev hx,h.ev hy,Instr.indexAt,asIntOf,run_underlying ht,he.size,h0,h1,eS,Instr.sureAddr]
theorem e_{t e:TypeId}{x y:Operand}{agg:Bool}{b off len j:Nat}{k:IntKind}(ht:P.underlying t=some (.array len e))(he:Ty P e agg 1)(hx:ev fr x=some (.pointer (some ⟨b,off,none⟩)))(hy:ev fr y=some (.int k (j:Int)))(h1:j<len):
 RR P n W ⟨dst,.indexAddr t x y,ty,pos,after,guard⟩ fr L (.pointer (some ⟨b,off+j,none⟩)):=RO ht he hx hy (by omega) (by omega) (by simp)
theorem fV{t e:TypeId}{x y:Operand}{len j:Nat}{k:IntKind}{cs:Array Value}{v:Value}(ht:P.underlying t=some (.array len e))(he:Ty P e false 1)(hx:ev fr x=some (.agg cs))(hy:ev fr y=some (.int k (j:Int)))(h1:j<len)(hv:cs[j]?=some v):
 RR P n W ⟨dst,.index t x y,ty,pos,after,guard⟩ fr L v:= .mk fun a w h _=>by
 have h0:(0:Int)<=(j:Int)/\(j:Int)<(len:Int):=by omega
 simp[execOp,h.ev hx,h.ev hy,Instr.index,asIntOf,run_underlying ht,he.size,h1,part,he.agg,hv]
theorem kL{t e:TypeId}{x:Operand}{p:Option Addr}{m cap:Nat}(ht:P.underlying t=some (.slice e))(hx:ev fr x=some (.slice p m cap)):RR P n W ⟨dst,.call {callee:= .builtin .len,args:=#[x],argTypes:=#[t]},ty,pos,after,guard⟩ fr L (.int .i64 m):= .mk fun a w hr _=>by
 have G3:=hr.ev hx;simp[BigFrame.execOp_builtin,BigFrame.builtin_len,Builtin.len_,G3,run_underlying ht,goInt]
theorem cJ{t e e':TypeId}{x:Operand}{i size m:Nat}{v:Value}{xs:List Value}(ht:P.underlying t=some (.slice e))(hi:L[i]?=some (aM e' size v m xs))(hx:ev fr x=some v):RR P n W ⟨dst,.call {callee:= .builtin .len,args:=#[x],argTypes:=#[t]},ty,pos,after,guard⟩ fr L (.int .i64 m):= .mk fun a w hr hm=>by
 have h:w.ownsRow 0 e' size v m xs:=hm.get hi;rcases h.2 with⟨rfl,rfl⟩|⟨g,cap,kK,rfl,_⟩
 ·exact(kL (P:=P) (W:=W) (L:=L) ht hx).go a w hr hm
 ·exact(kL (P:=P) (W:=W) (L:=L) ht hx).go a w hr hm
def RP(W:bC)(L:List bI)(v:Value)(m:Nat)(xs:List Value):Prop:=∀w,Mem W L w->Sl w v m xs
theorem VM{W:World}{v:Value}{m:Nat}{xs:List Value}(h:Sl W v m xs):RP W L v m xs:=fun w hm=>by
 obtain⟨base,cap,h1,h2,h3,h4⟩:=h;exact⟨base,cap,h1,h2,h3,fun hn=>let ⟨b,off,h5,h6⟩:=h4 hn;⟨b,off,h5,fun j u hj=>hm.cell (h6 j u hj)⟩⟩
theorem fW{i size m:Nat}{e:TypeId}{v:Value}{xs:List Value}(hi:L[i]?=some (aM e size v m xs)):RP W L v m xs:=fun _ hm=>Sl.cI (hm.get hi)
section
variable{Q:Exit->Act->World->Prop}{ops:Array Oper}{rest:List Oper}{d:Nat}
theorem a_{t:TypeId}{x:Operand}{v:Value}{cs:Array Value}(hx:ev fr x=some v)(hv:v.cells=cs)(hn:Nat.blt d n=true)(h:∀g,TL P n W ops Q rest ((d,.pointer (some ⟨g,0,none⟩))::fr) (L++[aw g cs t])):
 TL P n W ops Q (⟨some d,.box t x,ty,pos,after,none⟩::rest) fr L:=iV rfl fun a w hr hm K hK=>by
 subst hv;have e:(execOp a.eval ⟨some d,.box t x,ty,pos,after,none⟩).run P w= .ok (.value (.pointer (some ⟨w.heap.size,0,none⟩))) (w.alloc (.cells v.cells t)):=by
  simp[execOp,hr.ev hx,Instr.box,newVar,newRow]
 unfold Oper.wp;rw[e];exact hK _ _ ((h w.heap.size).go _ _ (hr.put hn _) (hm.append (KV w _) (mZ.one (heap_alloc_new w _) fun k hk=>by simp only[aw,Option.some.injEq]at hk;omega)))
where
 KV (w:World) (o:Obj):Gr w (w.alloc o):=(Below.refl _ _).alloc (Nat.le_refl _) _
theorem kz(w:World)(o:Obj):Gr w (w.alloc o):=(Below.refl _ _).alloc (Nat.le_refl _) _
theorem ND{t:TypeId}{i:TypeInfo}{z:Value}{cs:Array Value}(hi:P.info? t=some i)(hz:i.zero=some z)(hv:z.cells=cs)(hn:Nat.blt d n=true)(h:∀g,TL P n W ops Q rest ((d,.pointer (some ⟨g,0,none⟩))::fr) (L++[aw g cs t])):
 TL P n W ops Q (⟨some d,.alloc t,ty,pos,after,none⟩::rest) fr L:=iV rfl fun a w hr hm K hK=>by
 subst hv;have e:(execOp a.eval ⟨some d,.alloc t,ty,pos,after,none⟩).run P w= .ok (.value (.pointer (some ⟨w.heap.size,0,none⟩))) (w.alloc (.cells z.cells t)):=by
  simp[execOp,Instr.alloc,zeroValue,typeInfo,hi,hz,newVar,newRow]
 unfold Oper.wp;rw[e];exact hK _ _ ((h w.heap.size).go _ _ (hr.put hn _) (hm.append (kz w _) (mZ.one (heap_alloc_new w _) fun k hk=>by simp only[aw,Option.some.injEq]at hk;omega)))
theorem G4{t e:TypeId}{m:Nat}{parts:Array (Nat×Operand)}{cs:Array Value}(hrun:∀a w,jP n a fr->(Instr.buildSlice t m (parts.map fun(i,x)=>(i,a.eval x))).run P w= .ok (.slice (some ⟨w.heap.size,0,none⟩) m m) (w.alloc (.cells cs e)))(hn:Nat.blt d n=true)
 (h:∀g,TL P n W ops Q rest ((d,.slice (some ⟨g,0,none⟩) m m)::fr) (L++[aw g cs e])):
 TL P n W ops Q (⟨some d,.buildSlice t m parts,ty,pos,after,none⟩::rest) fr L:=iV rfl fun a w hr hm K hK=>by
 have e':(execOp a.eval ⟨some d,.buildSlice t m parts,ty,pos,after,none⟩).run P w= .ok (.value (.slice (some ⟨w.heap.size,0,none⟩) m m)) (w.alloc (.cells cs e)):=by
  simp only[execOp,Sem.run_bind,hrun a w hr,Result.andThen_ok,Sem.run_pure]
 unfold Oper.wp;rw[e'];exact hK _ _ ((h w.heap.size).go _ _ (hr.put hn _) (hm.append (kz w _) (mZ.one (heap_alloc_new w _) fun k hk=>by simp only[aw,Option.some.injEq]at hk;omega)))
theorem NE{t e:TypeId}{i:TypeInfo}{z v:Value}{c:Nat}(ht:P.underlying t=some (.slice e))(hi:P.info? e=some i)(hz:i.zero=some z)(hc:i.size=c)(XQ:z.cells.size=c)(hv:v.cells.size=c)(h0:0<c)(hs:c<=16777216)(w:World):
    (Instr.buildSlice t 1 #[(0,v)]).run P w= .ok (.slice (some ⟨w.heap.size,0,none⟩) 1 1) (w.alloc (.cells v.cells e)):=by
  have pv:Instr.fill (fun i=>some (i*c,c)) ((Array.range (1*c)).map (z.cells[· %z.cells.size]!)) [(0,v)]=some v.cells:=by
    simp only[Instr.fill,hv,Nat.zero_mul,Nat.zero_add,Array.size_map,Array.size_range,Nat.one_mul];rw[if_neg (by simp)]
    congr 1
    have key:∀(l:List Value) (k:Nat) (acc:Array Value),k+l.length=acc.size->(l.zipIdx k).foldl (fun cs (x:Value×Nat)=>cs.setIfInBounds (0+x.2) x.1) acc=(acc.toList.take k++l).toArray:=by
      intro l
      induction l with
      | nil=>
        intro k acc h;simp at h;simp only[List.zipIdx_nil,List.foldl_nil,List.append_nil];rw[List.take_of_length_le (by simp;omega)]
      | cons x l ih=>
        intro k acc h;simp only[List.length_cons]at h;rw[List.zipIdx_cons,List.foldl_cons,ih (k+1) _ (by simp;omega)];simp only[Nat.zero_add,Array.toList_setIfInBounds]
        congr 1
        rw[List.take_succ_eq_append_getElem (by simp;omega)];simp[List.take_set];rw[List.set_eq_of_length_le (by simp;omega)]
    have:=key v.cells.toList 0 ((Array.range c).map (z.cells[· %z.cells.size]!)) (by simp[hv])
    simp only[List.take_zero,List.nil_append,Array.toArray_toList]at this;rw[<-Array.foldl_toList]
    simpa[Array.toList_zipIdx]using this
  have hne:¬(1*c>2^24):=by omega
  have NF:¬(1*c=0):=by omega
  simp only[Instr.buildSlice,Sem.run_bind,run_underlying ht,Result.andThen_ok,sizeOf,typeInfo,run_program,hi,Sem.run_pure,hc,zeroValue,hz,if_neg hne,if_neg NF,pv,newRow];simp[newRow]
theorem RT{t e:TypeId}{x:Operand}{i:TypeInfo}{z v:Value}{c:Nat}{cs:Array Value}(ht:P.underlying t=some (.slice e))(hi:P.info? e=some i)(hz:i.zero=some z)(hc:i.size=c)(XQ:z.cells.size=c)(hx:ev fr x=some v)(hcs:v.cells=cs)(hv:cs.size=c)(h0:0<c)(hs:c<=16777216)(hn:Nat.blt d n=true)
 (h:∀g,TL P n W ops Q rest ((d,.slice (some ⟨g,0,none⟩) 1 1)::fr) (L++[aw g cs e])):TL P n W ops Q (⟨some d,.buildSlice t 1 #[(0,x)],ty,pos,after,none⟩::rest) fr L:=by
 subst hcs;exact G4 (fun a w hr=>by simpa[hr.ev hx]using NE ht hi hz hc XQ hv h0 hs w) hn h
theorem oJ{t ty e:TypeId}{i:TypeInfo}{z:Value}{size bytes:Nat}(ht:P.underlying t=some (.slice e))(hi:P.info? e=some i)(hz:i.zero=some z)(lp:i.size=size)(KW:i.bytes=bytes)(Rm:z.cells.size=size)(hsz:0<size)(w:World)
 {v:Value} {m:Nat} {xs:List Value} (qX:w.ownsRow 0 e size v m xs) {a:Addr} {k c:Nat} {news:List Value} (hl:news.length=k*size) (Ja:∀j u,news[j]?=some u->w.cell? (a.add j)=some u) (h1:∀u∈news,u.oneCell'=true)
 (qD:m+k<=maxLen) (G5:(m+k)*bytes<=140737488355328):
 ∃v' w',(Builtin.append_ #[t,t] ty #[v,.slice (some a) k c]).run P w= .ok v' w'/\w'.ownsRow 0 e size v' (m+k) (xs++news)/\w.grownBy w' v.ownBlock/\(∀q,v'.ownBlock=some q->v.ownBlock=some q\/w.heap.size<=q):=by
 obtain⟨v',w',hr,h2,h3,h4⟩:=run_append_own (P:=P) w 0 t ty e i z size bytes ht hi hz lp KW Rm hsz v m xs qX a k c news hl Ja h1 qD G5 (Nat.zero_le _);refine⟨v',w',hr,h2,h3,fun q hq=>?_⟩;have abP:((m+k:Nat):Int)<=9223372036854775807:=by simp only[maxLen]at qD;omega
 rcases qX.2 with⟨rfl,rfl⟩|⟨g,cap,kK,rfl,tY,hg,VN,VO,hcs,DW⟩
 ·by_cases hk:k=0
  ·rw[h4.2 ⟨rfl,hk⟩]at hq;cases hq
  ·have qE:=run_append_nil (P:=P) w t ty e i z ht hi hz a k c news (by rw[lp];exact hl) Ja (by omega) (by omega) (by rw[KW];have hb:=G5;simp only[Nat.zero_add]at hb;omega)
   rw[hr]at qE;injection qE with e1 _
   subst e1;simp only[Value.ownBlock,Option.some.injEq]at hq;exact .inr (by omega)
 ·by_cases hroom:m+k<=cap
  ·have BZ:m*i.size+news.length<=kK.size:=by rw[hl,hcs,lp,<-Nat.add_mul];exact Nat.mul_le_mul_right _ hroom
   have qE:=run_append_room (P:=P) w t ty e i ht hi g m cap kK hg a k c news (by rw[lp];exact hl) Ja h1 hroom BZ;rw[hr]at qE;injection qE with e1 _
   subst e1;exact .inl hq
  ·have holds:∀j u,xs[j]?=some u->w.cell? ((⟨g,0,none⟩:Addr).add j)=some u:=qX.cells (g:=g) rfl
   have qE:=run_append_grow (P:=P) w t ty e i z ht hi hz ⟨g,0,none⟩ m cap xs (by rw[lp];exact qX.1) holds a k c news (by rw[lp];exact hl) Ja (by omega) (by omega) (growslice_fits (by omega) (by rw[KW];exact G5));rw[hr]at qE;injection qE with e1 _
   subst e1;simp only[Value.ownBlock,Option.some.injEq]at hq;exact .inr (by omega)
structure El(P:Program)(t e:TypeId)(size bytes:Nat):Prop where
 ex:∃i z,P.underlying t=some (.slice e)/\P.info? e=some i/\i.zero=some z/\i.size=size/\i.bytes=bytes/\z.cells.size=size/\0<size
def elB(P:Program)(t e:TypeId)(size bytes:Nat):Bool:=
 (match P.underlying t with|some (.slice e')=>Nat.beq e' e|_=>false)&&(match P.info? e with|some i=>Nat.beq i.size size&&Nat.beq i.bytes bytes&&(match i.zero with|some z=>Nat.beq z.cells.size size|none=>false)|none=>false)&&Nat.blt 0 size
theorem El.of{t e:TypeId}{size bytes:Nat}(h:elB P t e size bytes=true):El P t e size bytes:=by
  unfold elB at h;simp only[Bool.and_eq_true]at h;obtain⟨⟨h1,h2⟩,h3⟩:=h
  cases e1:P.underlying t with
  |none=>rw[e1]at h1;cases h1
  | some d=>
    rw[e1]at h1
    cases d<;>try (cases h1;done)
    rename_i e'
    obtain rfl:=Nat.eq_of_beq_eq_true h1
    cases e2:P.info? e' with
    |none=>rw[e2]at h2;cases h2
    | some i=>
      rw[e2]at h2;simp only[Bool.and_eq_true]at h2;obtain⟨⟨h4,h5⟩,h6⟩:=h2
      cases e3:i.zero with
      |none=>rw[e3]at h6;cases h6
      | some z=>
        rw[e3]at h6;exact⟨i,z,e1,e2,e3,Nat.eq_of_beq_eq_true h4,Nat.eq_of_beq_eq_true h5,Nat.eq_of_beq_eq_true h6,Nat.le_of_ble_eq_true h3⟩
theorem KX{t e:TypeId}{s x:Operand}{i size bytes m k c:Nat}{v:Value}{xs ys:List Value}{a:Addr}(qZ:El P t e size bytes)(hi:L[i]?=some (aM e size v m xs))(hs:ev fr s=some v)(hx:ev fr x=some (.slice (some a) k c))
 (hy:∀j u,ys[j]?=some u->At W L (a.add j) u) (hl:ys.length=k*size) (h1:∀u∈ys,u.oneCell'=true) (qD:m+k<=140737488355328) (hb:(m+k)*bytes<=140737488355328) (hn:Nat.blt d n=true)
 (h:∀v',TL P n W ops Q rest ((d,v')::fr) (L.set i (aM e size v' (m+k) (xs++ys)))):
 TL P n W ops Q (⟨some d,.call {callee:= .builtin .append,args:=#[s,x],argTypes:=#[t,t]},ty,pos,after,none⟩::rest) fr L:=iV rfl fun act w hr hm K hK=>by
 obtain⟨inf,z,ht,zT,hz,lp,KW,Rm,hsz⟩:=qZ.ex;obtain⟨v',w',hrun,h2,h3,h4⟩:=oJ (ty:=ty) (c:=c) ht zT hz lp KW Rm hsz w (hm.get hi:w.ownsRow 0 e size v m xs) hl (fun j u hj=>hy j u hj w hm) h1 (by unfold maxLen;omega) hb;have e':(execOp act.eval ⟨some d,.call {callee:= .builtin .append,args:=#[s,x],argTypes:=#[t,t]},ty,pos,after,none⟩).run P w= .ok (.value v') w':=by
  simp only[BigFrame.execOp_builtin,BigFrame.builtin_append,List.map_toArray,List.map_cons,List.map_nil,hr.ev hs,hr.ev hx,Sem.run_bind,hrun,Result.andThen_ok,Sem.run_pure]
 unfold Oper.wp;rw[e'];exact hK _ _ ((h v').go _ _ (hr.put hn _) (hm.zS hi h3 h2 h4))
theorem B1{t e:TypeId}{s x:Operand}{i size bytes m k c:Nat}{v:Value}{xs ys:List Value}{p:Addr}{act:Act}{w:World}(qZ:El P t e size bytes)(hi:L[i]?=some (aM e size v m xs))(hs:ev fr s=some v)(hx:ev fr x=some (.slice (some p) k c))
 (hy:∀j u,ys[j]?=some u->w.cell? (p.add j)=some u) (hl:ys.length=k*size) (h1:∀u∈ys,u.oneCell'=true) (qD:m+k<=140737488355328) (hb:(m+k)*bytes<=140737488355328) (hn:Nat.blt d n=true)
 (h:∀v',TL P n W ops Q rest ((d,v')::fr) (L.set i (aM e size v' (m+k) (xs++ys)))) (hr:jP n act fr) (hm:Mem W L w):
 wpList P ops Q (⟨some d,.call {callee:= .builtin .append,args:=#[s,x],argTypes:=#[t,t]},ty,pos,after,none⟩::rest) act w:=by
 refine wpList_plain rfl fun K hK=>?_;obtain⟨inf,z,ht,zT,hz,lp,KW,Rm,hsz⟩:=qZ.ex;obtain⟨v',w',hrun,h2,h3,h4⟩:=oJ (ty:=ty) (c:=c) ht zT hz lp KW Rm hsz w (hm.get hi:w.ownsRow 0 e size v m xs) hl hy h1 (by unfold maxLen;omega) hb;have e':(execOp act.eval ⟨some d,.call {callee:= .builtin .append,args:=#[s,x],argTypes:=#[t,t]},ty,pos,after,none⟩).run P w= .ok (.value v') w':=by
  simp only[BigFrame.execOp_builtin,BigFrame.builtin_append,List.map_toArray,List.map_cons,List.map_nil,hr.ev hs,hr.ev hx,Sem.run_bind,hrun,Result.andThen_ok,Sem.run_pure]
 unfold Oper.wp;rw[e'];exact hK _ _ ((h v').go _ _ (hr.put hn _) (hm.zS hi h3 h2 h4))
theorem G6{t e:TypeId}{s x:Operand}{i size bytes m c:Nat}{v:Value}{xs:List Value}(qZ:El P t e size bytes)(hi:L[i]?=some (aM e size v m xs))(hs:ev fr s=some v)(hx:ev fr x=some (.slice none 0 c))(hn:Nat.blt d n=true)
 (h:TL P n W ops Q rest ((d,v)::fr) L):
 TL P n W ops Q (⟨some d,.call {callee:= .builtin .append,args:=#[s,x],argTypes:=#[t,t]},ty,pos,after,none⟩::rest) fr L:=iV rfl fun act w hr hm K hK=>by
 obtain⟨inf,z,ht,zT,hz,lp,KW,Rm,hsz⟩:=qZ.ex;have qX:w.ownsRow 0 e size v m xs:=hm.get hi;have e':(execOp act.eval ⟨some d,.call {callee:= .builtin .append,args:=#[s,x],argTypes:=#[t,t]},ty,pos,after,none⟩).run P w= .ok (.value v) w:=by
  rcases qX.2 with⟨rfl,rfl⟩|⟨g,cap,kK,rfl,tY,hg,VN,VO,hcs,DW⟩
  ·simp[BigFrame.execOp_builtin,BigFrame.builtin_append,hr.ev hs,hr.ev hx,Builtin.append_,run_underlying ht,sizeOf,typeInfo,zT,Builtin.lenOf,Builtin.firstCells]
  ·simp[BigFrame.execOp_builtin,BigFrame.builtin_append,hr.ev hs,hr.ev hx,Builtin.append_,run_underlying ht,sizeOf,typeInfo,zT,Builtin.lenOf,Builtin.firstCells,loadCells,VN,storeCells]
 unfold Oper.wp;rw[e'];exact hK _ _ (h.go _ _ (hr.put hn _) hm)
theorem pw{t:TypeId}{p x:Operand}{i g off c:Nat}{cs cs':Array Value}{T:TypeId}{agg:Bool}{v:Value}(hT:Ty P t agg c)(hi:L[i]?=some (aw g cs T))(hp:ev fr p=some (.pointer (some ⟨g,off,none⟩)))(hx:ev fr x=some v)(hv:v.cells.size=c)(h1:v.cells.toList.all Value.oneCell'=true)
 (BZ:off+c<=cs.size) (hcs:cs'=(cs.toList.take off++v.cells.toList++cs.toList.drop (off+c)).toArray) (h:TL P n W ops Q rest fr (L.set i (aw g cs' T))):
 TL P n W ops Q (⟨none,.store t p x,ty,pos,after,none⟩::rest) fr L:=iV rfl fun act w hr hm K hK=>by
 have hg:w.heap[g]?=some (.cells cs T (0,0)):=hm.get hi;have hst:=run_storeCells_at P g off T v.cells.toList 0 cs w hg (by simp[hv];omega) (List.all_eq_true.1 h1);simp only[Nat.add_zero,Array.length_toList,hv]at hst;rw[<-hcs]at hst;have e':(execOp act.eval ⟨none,.store t p x,ty,pos,after,none⟩).run P w= .ok .skip (w.setRow g cs'):=by
  simp[execOp,hr.ev hp,hr.ev hx,Instr.storeAt,Instr.sureAddr,storeVar,hT.size,hv,hst]
 unfold Oper.wp;rw[e'];exact hK _ _ (h.go _ _ (hr.pq undef) (hm.zS hi ⟨rfl,rfl,rfl,by simp,fun k _ hk=>setRow_other w g k _ (fun e=>hk (by subst e;rfl))⟩ (setRow_heap w g cs _ T _ hg) fun k hk=> .inl hk))
theorem jq{t:TypeId}{p x:Operand}{i g off c size cap m k:Nat}{xs:List Value}{e:TypeId}{v:Value}(hT:Ty P t false c)(hi:L[i]?=some (aM e size (.slice (some ⟨g,0,none⟩) m cap) k xs))(hp:ev fr p=some (.pointer (some ⟨g,off,none⟩)))(hx:ev fr x=some v)(hv:v.cells=#[v])(hc:c=1)(h1:v.oneCell'=true)
 (BZ:off<xs.length) (h:TL P n W ops Q rest fr (L.set i (aM e size (.slice (some ⟨g,0,none⟩) m cap) k (xs.set off v)))):
 TL P n W ops Q (⟨none,.store t p x,ty,pos,after,none⟩::rest) fr L:=iV rfl fun act w hr hm K hK=>by
 subst hc;have qX:w.ownsRow 0 e size (.slice (some ⟨g,0,none⟩) m cap) k xs:=hm.get hi;have Yp:=qX;rcases qX.2 with⟨h0,_⟩|⟨g',tZ,kK,he,tY,hg,VN,VO,hcs,DW⟩
 ·cases h0
 simp only[Value.slice.injEq,Option.some.injEq,Addr.mk.injEq,and_true]at he;obtain⟨rfl,rfl,rfl⟩:=he;have hlen:xs.length=m*size:=qX.1;have VP:off<kK.size:=by rw[hcs];exact Nat.lt_of_lt_of_le (by omega) (Nat.mul_le_mul_right size VN)
 have hst:=run_storeCells_at P g off e [v] 0 kK w hg (by simp;omega) (by simpa using h1);simp only[Nat.add_zero,List.length_singleton]at hst;have q6:kK.toList.take off++[v]++kK.toList.drop (off+1)=kK.toList.set off v:=by
  rw[List.set_eq_take_append_cons_drop,if_pos (by simpa using VP)];simp
 rw[q6]at hst;have e':(execOp act.eval ⟨none,.store t p x,ty,pos,after,none⟩).run P w= .ok .skip (w.setRow g (kK.toList.set off v).toArray):=by
  simp[execOp,hr.ev hp,hr.ev hx,Instr.storeAt,Instr.sureAddr,storeVar,hT.size,hv,hst]
 unfold Oper.wp;rw[e'];refine hK _ _ (h.go _ _ (hr.pq undef) (hm.zS hi ⟨rfl,rfl,rfl,by simp,fun k _ hk=>setRow_other w g k _ (fun e=>hk (by subst e;rfl))⟩ ?_ fun k hk=> .inl hk));refine⟨by rw[List.length_set];exact qX.1,.inr ⟨g,cap,_,rfl,tY,setRow_heap w g kK _ e _ hg,VN,VO,by simp[hcs],?_⟩⟩;simp only[List.take_set];rw[DW]
theorem KY{t u e:TypeId}{x:Operand}{m:Nat}{v:Value}{l:List UInt8}(ht:P.underlying t=some (.slice e))(he:P.underlying e=some (.int .u8))(hu:P.underlying u=some .string)(hx:ev fr x=some v)(hm:m=l.length)(h:RP W L v m (l.map Nq)):RR P n W ⟨dst,.convert t u x,ty,pos,after,guard⟩ fr L (str l):= .mk fun a w hr pt=>by
 subst hm;have G3:=hr.ev hx;obtain⟨base,cap,rfl,_,_,ef⟩:=h w pt;have e':(convert t u (.slice base l.length cap)).run P w= .ok (str l) w:=by
  cases l with
  |nil=>
   cases base with
   |none=>simp[convert,run_underlying ht,run_underlying hu,run_underlying he,Conv.bytesToString,str];rfl
   |some p=>simp[convert,run_underlying ht,run_underlying hu,run_underlying he,Conv.bytesToString,str,loadCells,loadCellsFrom];rfl
  |cons b l=>
   obtain⟨g,off,rfl,hh⟩:=ef (by simp);exact DP ht he hu rfl hh
 simp only[execOp,G3,Sem.run_bind,e',Result.andThen_ok,Sem.run_pure]
end
def Enters(P:Program)(f:FuncId):Prop:=∀args w,(callFunc f args).run P w= .ok (.enter f args) w
def Jb(P:Program)(f:FuncId):Bool:=match P.funcs[f]? with|some fn=>fn.body.isSome&&!(fn.name== "runtime.NumGoroutine")|none=>false
theorem Enters.of{f:FuncId}(h:Jb P f=true):Enters P f:=by
 unfold Jb at h
 cases e:P.funcs[f]? with
 |none=>rw[e]at h;cases h
 |some fn=>
  rw[e]at h;simp only[Bool.and_eq_true,Bool.not_eq_true']at h;intro args w;have h1:¬fn.body=none:=fun hb=>by rw[hb]at h;simp at h
  have h2:¬fn.name= "runtime.NumGoroutine" :=by simpa using h.2
  simp[callFunc,e,h2,h1]
section
variable{f:FuncId}{ts:Array TypeId}{cl x1 x2 x3 x4 x5:Operand}{v1 v2 v3 v4 v5:Value}{first cap:Array Value}
theorem he0(hf:Enters P f)(hc:ev fr cl=some (.func (.func f) #[] #[])):∀a w,jP n a fr->(execOp a.eval ⟨dst,.call {callee:= .value cl,args:=#[],argTypes:=ts},ty,pos,after,guard⟩).run P w= .ok (.enter f #[]) w:=fun a w hr=>by
 have uS:∀args w,(callFunc f args).run P w= .ok (.enter f args) w:=hf;simp[execOp,resolve,hr.ev hc,Deferred.ofValue,invoke,uS]
theorem jc(hf:Enters P f)(hc:ev fr cl=some (.func (.func f) #[] #[]))(h1:ev fr x1=some v1):∀a w,jP n a fr->(execOp a.eval ⟨dst,.call {callee:= .value cl,args:=#[x1],argTypes:=ts},ty,pos,after,guard⟩).run P w= .ok (.enter f #[v1]) w:=fun a w hr=>by
 have uS:∀args w,(callFunc f args).run P w= .ok (.enter f args) w:=hf;simp[execOp,resolve,hr.ev hc,hr.ev h1,Deferred.ofValue,invoke,uS]
theorem eK(hf:Enters P f)(hc:ev fr cl=some (.func (.func f) #[] #[]))(h1:ev fr x1=some v1)(h2:ev fr x2=some v2):∀a w,jP n a fr->(execOp a.eval ⟨dst,.call {callee:= .value cl,args:=#[x1,x2],argTypes:=ts},ty,pos,after,guard⟩).run P w= .ok (.enter f #[v1,v2]) w:=fun a w hr=>by
 have uS:∀args w,(callFunc f args).run P w= .ok (.enter f args) w:=hf;simp[execOp,resolve,hr.ev hc,hr.ev h1,hr.ev h2,Deferred.ofValue,invoke,uS]
theorem sB(hf:Enters P f)(hc:ev fr cl=some (.func (.func f) #[] #[]))(h1:ev fr x1=some v1)(h2:ev fr x2=some v2)(h3:ev fr x3=some v3):∀a w,jP n a fr->(execOp a.eval ⟨dst,.call {callee:= .value cl,args:=#[x1,x2,x3],argTypes:=ts},ty,pos,after,guard⟩).run P w= .ok (.enter f #[v1,v2,v3]) w:=fun a w hr=>by
 have uS:∀args w,(callFunc f args).run P w= .ok (.enter f args) w:=hf;simp[execOp,resolve,hr.ev hc,hr.ev h1,hr.ev h2,hr.ev h3,Deferred.ofValue,invoke,uS]
theorem G7(hf:Enters P f)(hc:ev fr cl=some (.func (.func f) #[] #[]))(h1:ev fr x1=some v1)(h2:ev fr x2=some v2)(h3:ev fr x3=some v3)(h4:ev fr x4=some v4):∀a w,jP n a fr->(execOp a.eval ⟨dst,.call {callee:= .value cl,args:=#[x1,x2,x3,x4],argTypes:=ts},ty,pos,after,guard⟩).run P w= .ok (.enter f #[v1,v2,v3,v4]) w:=fun a w hr=>by
 have uS:∀args w,(callFunc f args).run P w= .ok (.enter f args) w:=hf;simp[execOp,resolve,hr.ev hc,hr.ev h1,hr.ev h2,hr.ev h3,hr.ev h4,Deferred.ofValue,invoke,uS]
theorem zU(hf:Enters P f)(hc:ev fr cl=some (.func (.func f) first cap))(h1:ev fr x1=some v1):∀a w,jP n a fr->(execOp a.eval ⟨dst,.call {callee:= .value cl,args:=#[x1],argTypes:=ts},ty,pos,after,guard⟩).run P w= .ok (.enter f (first++#[v1]++cap)) w:=fun a w hr=>by
 have uS:∀args w,(callFunc f args).run P w= .ok (.enter f args) w:=hf;simp[execOp,resolve,hr.ev hc,hr.ev h1,Deferred.ofValue,invoke,uS]
end
end
end bK
namespace bK
open Go.RowKit bO dc
class aT(P:Program)(t:TypeId)(d:outParam TypeDesc):Prop where
 eq:P.underlying t=some d
class ak(P:Program)(t:TypeId)(agg:outParam Bool)(c:outParam Nat):Prop where
 ty:Ty P t agg c:=by exact Ty.of (by kernel_rfl)
class aO(P:Program)(t:TypeId)(f:Nat)(o:outParam Nat):Prop where
 fld:VL P t f o:=by exact VL.of (by kernel_rfl)
class mX(P:Program)(t:TypeId)(e:outParam TypeId)(size bytes:outParam Nat):Prop where
 el:El P t e size bytes:=by exact El.of (by kernel_rfl)
class aj(P:Program)(f:FuncId):Prop where
 en:Enters P f:=by exact Enters.of (by kernel_rfl)
class aQ(P:Program)(t:TypeId)(cs:outParam (Array Value)):Prop where
 zero:(P.info? t).map (fun i=>i.zero.map Value.cells)=some (some cs):=by kernel_rfl
section
variable{P:Program}{n:Nat}{W:bC}{fr:Fr}{L:List bI}{Q:Exit->Act->World->Prop}{ops:Array Oper}{rest:List Oper}{d:Nat}{ty:TypeId}{pos:String}{after:Array Edge}
theorem aQ.ex{t:TypeId}{cs:Array Value}[h:aQ P t cs]:∃i z,P.info? t=some i/\i.zero=some z/\z.cells=cs:=by
 have h1:=h.zero
 cases e:P.info? t with
 |none=>rw[e]at h1;simp at h1
 |some i=>
  rw[e]at h1
  cases e2:i.zero with
  |none=>simp[e2]at h1
  |some z=>simp[e2]at h1;exact⟨i,z,rfl,e2,h1⟩
theorem aK{t:TypeId}{cs:Array Value}[aQ P t cs](hn:Nat.blt d n=true)(h:∀g,TL P n W ops Q rest ((d,.pointer (some ⟨g,0,none⟩))::fr) (L++[aw g cs t])):
 TL P n W ops Q (⟨some d,.alloc t,ty,pos,after,none⟩::rest) fr L:=by
 obtain⟨i,z,h1,h2,h3⟩:=aQ.ex (P:=P) (t:=t);exact ND h1 h2 h3 hn h
theorem eM{t e:TypeId}{x:Operand}{v:Value}{c bytes:Nat}{cs:Array Value}[qZ:mX P t e c bytes](hx:ev fr x=some v)(hcs:v.cells=cs)(hv:cs.size=c)(hs:Nat.ble c 16777216=true)(hn:Nat.blt d n=true)
 (h:∀g,TL P n W ops Q rest ((d,.slice (some ⟨g,0,none⟩) 1 1)::fr) (L++[aw g cs e])):TL P n W ops Q (⟨some d,.buildSlice t 1 #[(0,x)],ty,pos,after,none⟩::rest) fr L:=by
 obtain⟨inf,z,ht,zT,hz,lp,KW,Rm,hsz⟩:=qZ.el.ex;exact RT ht zT hz lp Rm hx hcs hv hsz (Nat.le_of_ble_eq_true hs) hn h
theorem Mem.G8{w:World}(e:TypeId)(size:Nat)(h:Mem W L w):Mem W (L++[aM e size (.slice none 0 0) 0 []]) w:=
 h.append (Gr.refl w) (mZ.one (World.ownsRow_nil _ _ _ _) fun k hk=>by cases hk)
theorem g_{c:Code}(e:TypeId)(size:Nat)(h:T P n W c Q fr (L++[aM e size (.slice none 0 0) 0 []])):T P n W c Q fr L:=⟨fun a w hr hm=>h.go a w hr (hm.G8 e size)⟩
theorem na(e:TypeId)(size:Nat)(h:TL P n W ops Q rest fr (L++[aM e size (.slice none 0 0) 0 []])):TL P n W ops Q rest fr L:=⟨fun a w hr hm=>h.go a w hr (hm.G8 e size)⟩
theorem RU{L':List bI}(is:List Nat)(hn:is.Nodup)(hl:L'=is.filterMap fun i=>L[i]?)(h:TL P n W ops Q rest fr L'):TL P n W ops Q rest fr L:=⟨fun a w hr hm=>h.go a w hr (hm.pick is hn hl)⟩
theorem kr{t e:TypeId}{s x:Operand}{i q g size bytes m:Nat}{v:Value}{xs:List Value}{cs:Array Value}{T:TypeId}[qZ:mX P t e size bytes](hi:L[i]?=some (aM e size v m xs))(hq:L[q]?=some (aw g cs T))(hs:ev fr s=some v)(hx:ev fr x=some (.slice (some ⟨g,0,none⟩) 1 1))
 (hl:cs.size=size) (h1:cs.toList.all Value.oneCell'=true) (qD:m+1<=140737488355328) (hb:(m+1)*bytes<=140737488355328) (hn:Nat.blt d n=true)
 (h:∀v',TL P n W ops Q rest ((d,v')::fr) (L.set i (aM e size v' (m+1) (xs++cs.toList)))):
 TL P n W ops Q (⟨some d,.call {callee:= .builtin .append,args:=#[s,x],argTypes:=#[t,t]},ty,pos,after,none⟩::rest) fr L:=
 KX qZ.el hi hs hx (fun j u hj=>by rw[bO.eS,Nat.zero_add];exact ah hq (by simpa using hj)) (by simpa using hl) (List.all_eq_true.1 h1) qD hb hn h
theorem jd{t e:TypeId}{s x:Operand}{i q g bytes m:Nat}{v u:Value}{xs:List Value}{cs:Array Value}{T:TypeId}[qZ:mX P t e 1 bytes](hi:L[i]?=some (aM e 1 v m xs))(hq:L[q]?=some (aw g cs T))(hs:ev fr s=some v)(hx:ev fr x=some (.slice (some ⟨g,0,none⟩) 1 1))
 (hu:cs=#[u]) (h1:u.oneCell'=true) (qD:m+1<=140737488355328) (hb:(m+1)*bytes<=140737488355328) (hn:Nat.blt d n=true)
 (h:∀v',TL P n W ops Q rest ((d,v')::fr) (L.set i (aM e 1 v' (m+1) (xs++[u])))):
 TL P n W ops Q (⟨some d,.call {callee:= .builtin .append,args:=#[s,x],argTypes:=#[t,t]},ty,pos,after,none⟩::rest) fr L:=by
 subst hu;exact kr hi hq hs hx rfl (by simp[h1]) qD hb hn h
theorem dH.front{p:Nat->Prop}{w:World}{L L':List bI}(h:dH p w (L++L')):dH p w L:=
  ⟨fun i o hi=>h.all i o (by rw[List.getElem?_append_left (List.getElem?_eq_some_iff.1 hi).1];exact hi),
   fun i j o o' oW hi hj=>h.apart i j o o' oW (by rw[List.getElem?_append_left (List.getElem?_eq_some_iff.1 hi).1];exact hi) (by rw[List.getElem?_append_left (List.getElem?_eq_some_iff.1 hj).1];exact hj)⟩
theorem Mem.front{w:World}{L L':List bI}(h:Mem W (L++L') w):Mem W L w:=⟨h.low,h.owns.front⟩
theorem DX{L':List bI}(h:TL P n W ops Q rest fr L):TL P n W ops Q rest fr (L++L'):=⟨fun a w hr hm=>h.go a w hr hm.front⟩
theorem je{t e:TypeId}{s x:Operand}{i bytes m d':Nat}{v u:Value}{xs:List Value}{ty':TypeId}{pos':String}{G9:Array Edge}[qZ:mX P t e 1 bytes](hi:L[i]?=some (aM e 1 v m xs))(hx:ev fr x=some u)(hu:u.cells=#[u])(h1:u.oneCell'=true)(UE:Nat.blt d' n=true)
 (hs:ev ((d',undef)::fr) s=some v) (hne:∀z,s= .tmp z->Nat.beq d' z=false) (qD:m+1<=140737488355328) (hb:(m+1)*bytes<=140737488355328) (hn:Nat.blt d n=true)
 (h:∀z v',TL P n W ops Q rest ((d,v')::(d',z)::fr) (L.set i (aM e 1 v' (m+1) (xs++[u])))):
 TL P n W ops Q (⟨some d',.buildSlice t 1 #[(0,x)],ty',pos',G9,none⟩::⟨some d,.call {callee:= .builtin .append,args:=#[s,.tmp d'],argTypes:=#[t,t]},ty,pos,after,none⟩::rest) fr L:=by
 have RV:i<L.length:=(List.getElem?_eq_some_iff.1 hi).1;have px:∀z,ev ((d',z)::fr) s=some v:=fun z=>by
  cases s with
  |tmp q=>have e:=hne q rfl;simp only[ev,look,e,cond_false]at hs⊢;exact hs
  |const q=>exact hs
  |global q=>exact hs
  |func q=>exact hs
 refine eM hx hu rfl rfl UE fun g=>?_;refine kr (i:=i) (q:=L.length) (by rw[List.getElem?_append_left RV];exact hi) (List.getElem?_concat_length) (px _) (by simp[ev,look]) rfl (by simp[h1]) qD hb hn fun v'=>?_;rw[List.set_append_left _ _ RV];exact DX (h _ v')
theorem iy{t e:TypeId}{s x:Operand}{i c bytes m d':Nat}{v:Value}{cs:Array Value}{xs:List Value}{ty':TypeId}{pos':String}{G9:Array Edge}[qZ:mX P t e c bytes](hi:L[i]?=some (aM e c v m xs))(hx:ev fr x=some (.agg cs))(hc:cs.size=c)(Na:Nat.ble c 16777216=true)(h1:cs.toList.all Value.oneCell'=true)(UE:Nat.blt d' n=true)
 (hs:ev ((d',undef)::fr) s=some v) (hne:∀z,s= .tmp z->Nat.beq d' z=false) (qD:m+1<=140737488355328) (hb:(m+1)*bytes<=140737488355328) (hn:Nat.blt d n=true)
 (h:∀z v',TL P n W ops Q rest ((d,v')::(d',z)::fr) (L.set i (aM e c v' (m+1) (xs++cs.toList)))):
 TL P n W ops Q (⟨some d',.buildSlice t 1 #[(0,x)],ty',pos',G9,none⟩::⟨some d,.call {callee:= .builtin .append,args:=#[s,.tmp d'],argTypes:=#[t,t]},ty,pos,after,none⟩::rest) fr L:=by
 have RV:i<L.length:=(List.getElem?_eq_some_iff.1 hi).1;have px:∀z,ev ((d',z)::fr) s=some v:=fun z=>by
  cases s with
  |tmp q=>have e:=hne q rfl;simp only[ev,look,e,cond_false]at hs⊢;exact hs
  |const q=>exact hs
  |global q=>exact hs
  |func q=>exact hs
 refine eM hx rfl hc Na UE fun g=>?_;refine kr (i:=i) (q:=L.length) (by rw[List.getElem?_append_left RV];exact hi) (List.getElem?_concat_length) (px _) (by simp[ev,look]) hc h1 qD hb hn fun v'=>?_;rw[List.set_append_left _ _ RV];exact DX (h _ v')
theorem dq{e':Exit}(e:TypeId)(size:Nat)(h:E n W e' Q fr (L++[aM e size (.slice none 0 0) 0 []])):E n W e' Q fr L:=⟨fun a w hr hm=>h.go a w hr (hm.G8 e size)⟩
def bZ(e:TypeId)(size m:Nat)(xs:List Value)(f:Value->Value):Spec Value:=⟨fun _=>True,f,fun v=>[aM e size v m xs]⟩
end
def NG(fr:Fr):Op->Option Value
  | .move x=>ev fr x
  | .assign x=>ev fr x
  | .extract t i=>match ev fr t with
    |some (.tuple vs)=>vs[i]?
    |_=>none
  | .pick c x y=>match ev fr c with
    |some (.bool true)=>ev fr x
    |some (.bool false)=>ev fr y
    |_=>none
  | .unOp .not _ x=>match ev fr x with
    |some (.bool true)=>some (.bool false)
    |some (.bool false)=>some (.bool true)
    |_=>none
  |_=>none
section
variable{P:Program}{n:Nat}{W:bC}{fr:Fr}{L:List bI}{dst:Option Tmp}{ty:TypeId}{pos:String}{after:Array Edge}{guard:Option (Nat×Bool)}
theorem qp{op:Op}{v:Value}(h:NG fr op=some v):RR P n W ⟨dst,op,ty,pos,after,guard⟩ fr L v:=by
 unfold NG at h;split at h
 ·exact gj h
 ·exact hZ h
 ·split at h
  ·rename_i e;exact G2 e h
  ·cases h
 ·split at h
  ·rename_i e;exact Nv e h
  ·rename_i e;exact Nw e h
  ·cases h
 ·split at h
  ·rename_i e
   simp only[Option.some.injEq]at h;subst h;exact xw e rfl
  ·rename_i e
   simp only[Option.some.injEq]at h;subst h;exact xw e rfl
  ·cases h
 ·cases h
end
section
variable{P:Program}{n:Nat}{W:bC}{fr:Fr}{L:List bI}{Q:Exit->Act->World->Prop}{ops:Array Oper}{rest:List Oper}{d:Nat}{o:Oper}{v:Value}
theorem qv(hg:o.guard=none)(hr:RR P n W o fr L v)(hd:o.dst=some d)(hn:Nat.blt d n=true)(h:TL P n W ops Q rest ((d,v)::fr) L):TL P n W ops Q (o::rest) fr L:=aV hr hg hd hn h
theorem qg{q e:Nat}{b:Bool}(hg:o.guard=some (q,b))(hj:(ops[q]?).bind (·.dst)=some e)(hl:look fr e=some (.bool b))(h:TL P n W ops Q ({o with guard:=none}::rest) fr L):TL P n W ops Q (o::rest) fr L:=wF hg hj hl h
theorem qs{j e:Nat}{b:Bool}{u:Value}(hg:o.guard=some (j,b))(hj:(ops[j]?).bind (·.dst)=some e)(hl:look fr e=some u)(hu:RH b u=true)(hd:o.dst=some d)(hn:Nat.blt d n=true)(h:TL P n W ops Q rest ((d,undef)::fr) L):TL P n W ops Q (o::rest) fr L:=RI hg hj hl hu hd hn h
theorem GJ{c:Operand}{x y:Code}(hc:ev fr c=some (.bool true))(h:T P n W x Q fr L):T P n W (.cond c x y) Q fr L:=kS hc h
theorem GK{c:Operand}{x y:Code}(hc:ev fr c=some (.bool false))(h:T P n W y Q fr L):T P n W (.cond c x y) Q fr L:=kT hc h
theorem qT{p:Prop}[inst:Decidable p](h:p):decide p=true:=decide_eq_true h
theorem qF{p:Prop}[inst:Decidable p](h:¬p):decide p=false:=decide_eq_false h
variable{dst:Option Tmp}{ty:TypeId}{pos:String}{after:Array Edge}{guard:Option (Nat×Bool)}
theorem py{t e:TypeId}{x:Operand}{p:Option Addr}{m cap:Nat}(ht:P.underlying t=some (.slice e))(hx:ev fr x=some (.slice p m cap)):RR P n W ⟨dst,.call {callee:= .builtin .len,args:=#[x],argTypes:=#[t]},ty,pos,after,guard⟩ fr L (.int .i64 m):=kL ht hx
theorem Yq{s:TypeId}{x:Operand}{f o b off r:Nat}(hf:VL P s f o)(hx:ev fr x=some (.pointer (some ⟨b,off,none⟩)))(hr:off+o=r):RR P n W ⟨dst,.fieldAddr s x f,ty,pos,after,guard⟩ fr L (.pointer (some ⟨b,r,none⟩)):=DV hf hx hr
end
section
variable{P:Program}{n:Nat}{W:bC}{fr:Fr}{L:List bI}{Q:Exit->Act->World->Prop}{ops:Array Oper}{rest:List Oper}{d:Nat}{o:Oper}{v:Value}{dst:Option Tmp}{ty:TypeId}{pos:String}{after:Array Edge}{guard:Option (Nat×Bool)}{t u:TypeId}{x y:Operand}{k:IntKind}{m m':Int}
theorem QV(hr:RR P n W o fr L v)(h:TL P n W ops Q rest ((d,v)::fr) L)(hg:o.guard=none:=by exact rfl)(hd:o.dst=some d:=by exact rfl)(hn:Nat.blt d n=true:=by exact rfl):TL P n W ops Q (o::rest) fr L:=aV hr hg hd hn h
theorem QP{op:Op}(h:NG fr op=some v:=by exact rfl):RR P n W ⟨dst,op,ty,pos,after,guard⟩ fr L v:=qp h
theorem QS{l:List UInt8}(hx:ev fr x=some (str l):=by exact rfl)(ht:P.underlying t=some .string:=by exact aT.eq):RR P n W ⟨dst,.call {callee:= .builtin .len,args:=#[x],argTypes:=#[t]},ty,pos,after,guard⟩ fr L (.int .i64 l.length):=KU ht hx
theorem QL{e:TypeId}{p:Option Addr}{m cap:Nat}(hx:ev fr x=some (.slice p m cap):=by exact rfl)(ht:P.underlying t=some (.slice e):=by exact aT.eq):RR P n W ⟨dst,.call {callee:= .builtin .len,args:=#[x],argTypes:=#[t]},ty,pos,after,guard⟩ fr L (.int .i64 m):=py ht hx
theorem QA{s:TypeId}{f o b off r:Nat}(hx:ev fr x=some (.pointer (some ⟨b,off,none⟩)):=by exact rfl)(hf:VL P s f o:=by exact aO.fld)(hr:off+o=r:=by exact rfl):RR P n W ⟨dst,.fieldAddr s x f,ty,pos,after,guard⟩ fr L (.pointer (some ⟨b,r,none⟩)):=DV hf hx hr
theorem QlT(hx:ev fr x=some (.int k m):=by exact rfl)(hy:ev fr y=some (.int k m'):=by exact rfl)(h:m<m':=by omega):RR P n W ⟨dst,.binOp .lss t x y u,ty,pos,after,guard⟩ fr L (.bool true):=bQ hx hy (decide_eq_true h)
theorem QlF(hx:ev fr x=some (.int k m):=by exact rfl)(hy:ev fr y=some (.int k m'):=by exact rfl)(h:¬(m<m'):=by omega):RR P n W ⟨dst,.binOp .lss t x y u,ty,pos,after,guard⟩ fr L (.bool false):=bQ hx hy (decide_eq_false h)
theorem QmT(hx:ev fr x=some (.int k m):=by exact rfl)(hy:ev fr y=some (.int k m'):=by exact rfl)(h:m<=m':=by omega):RR P n W ⟨dst,.binOp .leq t x y u,ty,pos,after,guard⟩ fr L (.bool true):=rC hx hy (decide_eq_true h)
theorem QmF(hx:ev fr x=some (.int k m):=by exact rfl)(hy:ev fr y=some (.int k m'):=by exact rfl)(h:¬(m<=m'):=by omega):RR P n W ⟨dst,.binOp .leq t x y u,ty,pos,after,guard⟩ fr L (.bool false):=rC hx hy (decide_eq_false h)
theorem QgT(hx:ev fr x=some (.int k m):=by exact rfl)(hy:ev fr y=some (.int k m'):=by exact rfl)(h:m'<m:=by omega):RR P n W ⟨dst,.binOp .gtr t x y u,ty,pos,after,guard⟩ fr L (.bool true):=dj hx hy (decide_eq_true h)
theorem QgF(hx:ev fr x=some (.int k m):=by exact rfl)(hy:ev fr y=some (.int k m'):=by exact rfl)(h:¬(m'<m):=by omega):RR P n W ⟨dst,.binOp .gtr t x y u,ty,pos,after,guard⟩ fr L (.bool false):=dj hx hy (decide_eq_false h)
theorem QhT(hx:ev fr x=some (.int k m):=by exact rfl)(hy:ev fr y=some (.int k m'):=by exact rfl)(h:m'<=m:=by omega):RR P n W ⟨dst,.binOp .geq t x y u,ty,pos,after,guard⟩ fr L (.bool true):=dO hx hy (decide_eq_true h)
theorem QhF(hx:ev fr x=some (.int k m):=by exact rfl)(hy:ev fr y=some (.int k m'):=by exact rfl)(h:¬(m'<=m):=by omega):RR P n W ⟨dst,.binOp .geq t x y u,ty,pos,after,guard⟩ fr L (.bool false):=dO hx hy (decide_eq_false h)
theorem Yr(hx:ev fr x=some (.int k m):=by exact rfl)(hy:ev fr y=some (.int k m'):=by exact rfl)(h:m=m':=by omega):RR P n W ⟨dst,.binOp .eql t x y u,ty,pos,after,guard⟩ fr L (.bool true):=bL hx hy (decide_eq_true h)
theorem Ys(hx:ev fr x=some (.int k m):=by exact rfl)(hy:ev fr y=some (.int k m'):=by exact rfl)(h:¬(m=m'):=by omega):RR P n W ⟨dst,.binOp .eql t x y u,ty,pos,after,guard⟩ fr L (.bool false):=bL hx hy (decide_eq_false h)
theorem QnT(hx:ev fr x=some (.int k m):=by exact rfl)(hy:ev fr y=some (.int k m'):=by exact rfl)(h:m≠m':=by omega):RR P n W ⟨dst,.binOp .neq t x y u,ty,pos,after,guard⟩ fr L (.bool true):=bm hx hy (decide_eq_true h)
theorem QnF(hx:ev fr x=some (.int k m):=by exact rfl)(hy:ev fr y=some (.int k m'):=by exact rfl)(h:¬(m≠m'):=by omega):RR P n W ⟨dst,.binOp .neq t x y u,ty,pos,after,guard⟩ fr L (.bool false):=bm hx hy (decide_eq_false h)
theorem QaA{r:Int}(hx:ev fr x=some (.int .i64 m):=by exact rfl)(hy:ev fr y=some (.int .i64 m'):=by exact rfl)(h0: -9223372036854775808<=m+m':=by omega)(h1:m+m'<=9223372036854775807:=by omega)(hr:m+m'=r:=by exact rfl):RR P n W ⟨dst,.binOp .add t x y u,ty,pos,after,guard⟩ fr L (.int .i64 r):=cB hx hy h0 h1 hr
theorem QaS{r:Int}(hx:ev fr x=some (.int .i64 m):=by exact rfl)(hy:ev fr y=some (.int .i64 m'):=by exact rfl)(h0: -9223372036854775808<=m-m':=by omega)(h1:m-m'<=9223372036854775807:=by omega)(hr:m-m'=r:=by exact rfl):RR P n W ⟨dst,.binOp .sub t x y u,ty,pos,after,guard⟩ fr L (.int .i64 r):=df hx hy h0 h1 hr
theorem QaM{r:Int}(hx:ev fr x=some (.int .i64 m):=by exact rfl)(hy:ev fr y=some (.int .i64 m'):=by exact rfl)(h0: -9223372036854775808<=m*m':=by omega)(h1:m*m'<=9223372036854775807:=by omega)(hr:m*m'=r:=by exact rfl):RR P n W ⟨dst,.binOp .mul t x y u,ty,pos,after,guard⟩ fr L (.int .i64 r):=Ny hx hy h0 h1 hr
end
class Cd(p:Prop)(q:outParam Prop):Prop where
 go:q->p
theorem QZ{p q:Prop}[h:Cd p q](x:q):p:=h.go x
section
variable{P:Program}{n:Nat}{W:bC}{fr:Fr}{L:List bI}{Q:Exit->Act->World->Prop}{ops:Array Oper}{x y:Code}{id:Nat}{l:List Oper}{K:Act->World->Prop}
instance:Cd (TL P n W ops Q [] fr L) (E n W .normal Q fr L):=⟨eL⟩
instance:Cd (T P n W (x.seq y) Q fr L) (T P n W x (Exit.then (y.wp P Q) Q) fr L):=⟨a8⟩
instance:Cd (T P n W (.region id l.toArray false) Q fr L) (TL P n W l.toArray Q l fr L):=⟨aL⟩
instance:Cd (T P n W .skip Q fr L) (E n W .normal Q fr L):=⟨fN⟩
instance:Cd (T P n W (.exit id) Q fr L) (E n W (.exit id) Q fr L):=⟨fO⟩
instance:Cd (T P n W .ret Q fr L) (E n W .ret Q fr L):=⟨iv⟩
instance:Cd (T P n W (.block id x) Q fr L) (T P n W x (Exit.inBlock id Q) fr L):=⟨eB⟩
instance:Cd (E n W .normal (Exit.then (y.wp P Q) Q) fr L) (T P n W y Q fr L):=⟨eZ⟩
instance:Cd (E n W (.exit id) (Exit.then K Q) fr L) (E n W (.exit id) Q fr L):=⟨eP⟩
instance:Cd (E n W .ret (Exit.then K Q) fr L) (E n W .ret Q fr L):=⟨eg⟩
instance:Cd (E n W .normal (Exit.inBlock id Q) fr L) (E n W .normal Q fr L):=⟨dM⟩
instance:Cd (E n W .ret (Exit.inBlock id Q) fr L) (E n W .ret Q fr L):=⟨dN⟩
end
section
variable{α β:Type}
theorem zA{a:α}{l m:List α}:a::l++m=a::(l++m):=rfl
theorem zB{l:List α}:[]++l=l:=rfl
theorem zC{l:List α}:l++[]=l:=List.append_nil l
theorem zD{f:α->Option β}{a:α}{l:List α}:List.filterMap f (a::l)=match f a with
 |none=>List.filterMap f l
 |some b=>b::List.filterMap f l:=List.filterMap_cons
theorem zE{f:α->Option β}:List.filterMap f []=[]:=rfl
theorem zF{a:α}{l:List α}{i:Nat}:(a::l)[i+1]?=l[i]?:=List.getElem?_cons_succ
theorem zG{a:α}{l:List α}:(a::l)[0]?=some a:=rfl
theorem zH{a b:α}{l:List α}:(a::l).set 0 b=b::l:=rfl
theorem zI{a b:α}{l:List α}{i:Nat}:(a::l).set (i+1) b=a::l.set i b:=rfl
end
end bK
namespace bK
open Go.RowKit bO dc
section
variable{P:Program}{n:Nat}{W:bC}{fr:Fr}{L:List bI}{Q:Exit->Act->World->Prop}{ops:Array Oper}{rest:List Oper}{d:Nat}{dst:Option Tmp}{ty:TypeId}{pos:String}{after:Array Edge}{guard:Option (Nat×Bool)}
def nO(fr:Fr):List (Nat×Operand)->Option (List (Nat×Value))
 |[]=>some []
 |(i,x)::r=>match ev fr x,nO fr r with|some v,some l=>some ((i,v)::l)|_,_=>none
theorem nP{a:Act}(hr:jP n a fr):∀(l:List (Nat×Operand)) (vs:List (Nat×Value)),nO fr l=some vs->l.map (fun(i,x)=>(i,a.eval x))=vs
 |[],vs,h=>by simp only[nO,Option.some.injEq]at h;subst h;rfl
 | (i,x)::r,vs,h=>by
  simp only[nO]at h;split at h
  ·rename_i v l h1 h2
   simp only[Option.some.injEq]at h;subst h;simp[hr.ev h1,nP hr r l h2]
  ·cases h
theorem aP{t:TypeId}{parts:Array (Nat×Operand)}{ps:List (Nat×Value)}{cs:Array Value}(hp:nO fr parts.toList=some ps)(hrun:∀w,(Instr.build t ps.toArray).run P w= .ok (.agg cs) w):RR P n W ⟨dst,.build t parts,ty,pos,after,guard⟩ fr L (.agg cs):= .mk fun a w hr _=>by
 have e:(parts.map fun(i,x)=>(i,a.eval x))=ps.toArray:=by
  rw[<-nP hr _ _ hp,<-Array.toList_map,Array.toArray_toList]
 simp only[execOp,Sem.run_bind];rw[e,hrun w];rfl
theorem DY(c0:Nat->Option (Nat×Nat))(DG:∀i,c0 i=some (i,1)):∀(vs:List Value) (k:Nat) (acc:Array Value),k+vs.length<=acc.size->(∀v∈vs,v.cells=#[v])->Instr.fill c0 acc ((vs.zipIdx k).map fun(v,i)=>(i,v))=some (acc.toList.take k++vs++acc.toList.drop (k+vs.length)).toArray
  |[],k,acc,h,_=>by simp[Instr.fill]
  | v ::vs,k,acc,h,h1=>by
    simp only[List.length_cons]at h;have hv:=h1 v (by simp);rw[List.zipIdx_cons,List.map_cons];simp only[Instr.fill,DG,hv];rw[if_neg (by simp;omega)];have e:((#[v]:Array Value).zipIdx.foldl (fun cs (x:Value×Nat)=>cs.setIfInBounds (k+x.2) x.1) acc)=acc.setIfInBounds k v:=by simp
    rw[e,DY c0 DG vs (k+1) _ (by simp;omega) (fun u hu=>h1 u (by simp[hu]))]
    congr 2
    have hA:(acc.toList.take k).length=k:=by simp;omega
    have UH:(acc.toList.take k++[v]).length=k+1:=by rw[List.length_append,hA];rfl
    have e2:acc.toList.set k v=(acc.toList.take k++[v])++acc.toList.drop (k+1):=by
      rw[List.set_eq_take_append_cons_drop,if_pos (by simp;omega)];simp
    simp only[Array.toList_setIfInBounds,List.length_cons];rw[e2,List.take_left' UH,<-List.drop_drop,List.drop_left' UH,List.drop_drop];simp only[List.append_assoc,List.cons_append,List.nil_append];rw[show k+1+vs.length=k+(vs.length+1)by omega]
theorem NH{t e:TypeId}{bytes:Nat}(qZ:El P t e 1 bytes)(vs:List Value)(h1:∀v∈vs,v.cells=#[v])(h0:0<vs.length)(hm:vs.length<=16777216)(w:World):
 (Instr.buildSlice t vs.length (vs.zipIdx.map fun(v,i)=>(i,v)).toArray).run P w= .ok (.slice (some ⟨w.heap.size,0,none⟩) vs.length vs.length) (w.alloc (.cells vs.toArray e)):=by
 obtain⟨i,z,ht,hi,hz,hc,_,XQ,_⟩:=qZ.ex;have pv:=DY (fun i=>some (i*1,1)) (by simp) vs 0 ((Array.range (vs.length*1)).map (z.cells[· %z.cells.size]!)) (by simp) h1
 simp only[List.take_zero,List.nil_append,Nat.zero_add]at pv;rw[List.drop_of_length_le (by simp)]at pv;simp only[List.append_nil]at pv;have hne:¬(vs.length*1>2^24):=by omega
 have NF:¬(vs.length*1=0):=by omega
 simp only[Instr.buildSlice,Sem.run_bind,run_underlying ht,Result.andThen_ok,sizeOf,typeInfo,run_program,hi,Sem.run_pure,hc,zeroValue,hz,if_neg hne,if_neg NF];simp only[pv,newRow];simp
theorem Jc{t e:TypeId}{bytes m:Nat}{parts:Array (Nat×Operand)}(vs:List Value)[qZ:mX P t e 1 bytes](hp:nO fr parts.toList=some (vs.zipIdx.map fun(v,i)=>(i,v)))(hm:vs.length=m)(h0:Nat.blt 0 m=true)(h1:∀v∈vs,v.cells=#[v])(hs:Nat.ble m 16777216=true)(hn:Nat.blt d n=true)
 (h:∀g,TL P n W ops Q rest ((d,.slice (some ⟨g,0,none⟩) m m)::fr) (L++[aw g vs.toArray e])):TL P n W ops Q (⟨some d,.buildSlice t m parts,ty,pos,after,none⟩::rest) fr L:=by
 subst hm;refine G4 (fun a w hr=>?_) hn h;have e:(parts.map fun(i,x)=>(i,a.eval x))=(vs.zipIdx.map fun(v,i)=>(i,v)).toArray:=by
  rw[<-nP hr _ _ hp,<-Array.toList_map,Array.toArray_toList]
 rw[e];exact NH qZ.el vs h1 (Nat.le_of_ble_eq_true h0) (Nat.le_of_ble_eq_true hs) w
theorem Mem.Yt{w:World}{i g m size:Nat}{cs:Array Value}{e:TypeId}(h:Mem W L w)(hi:L[i]?=some (aw g cs e))(hc:cs.size=m*size)(hm:m<=140737488355328):Mem W (L.set i (aM e size (.slice (some ⟨g,0,none⟩) m m) m cs.toList)) w:=
 h.zS hi ⟨rfl,rfl,rfl,Nat.le_refl _,fun _ _ _=>rfl⟩ ⟨by simp[hc],.inr ⟨g,m,cs,rfl,Nat.zero_le _,h.get hi,Nat.le_refl _,by unfold maxLen;omega,hc,by rw[List.take_of_length_le (by simp[hc])]⟩⟩ fun k hk=> .inl hk
theorem sL{i g m:Nat}{cs:Array Value}{e:TypeId}(size:Nat)(hi:L[i]?=some (aw g cs e))(hc:cs.size=m*size)(hm:m<=140737488355328)(h:TL P n W ops Q rest fr (L.set i (aM e size (.slice (some ⟨g,0,none⟩) m m) m cs.toList))):TL P n W ops Q rest fr L:=
 ⟨fun a w hr pt=>h.go a w hr (pt.Yt hi hc hm)⟩
theorem aE{t:TypeId}{p x:Operand}{i g c:Nat}{cs cs':Array Value}{T:TypeId}{agg:Bool}[hT:ak P t agg c](hi:L[i]?=some (aw g cs T))(hp:ev fr p=some (.pointer (some ⟨g,0,none⟩)))(hx:ev fr x=some (.agg cs'))(hv:cs'.size=c)(h1:cs'.toList.all Value.oneCell'=true)
 (hc:cs.size=c) (h:TL P n W ops Q rest fr (L.set i (aw g cs' T))):
 TL P n W ops Q (⟨none,.store t p x,ty,pos,after,none⟩::rest) fr L:=
 pw hT.ty hi hp hx hv h1 (by omega) (by
  show cs'=(cs.toList.take 0++cs'.toList++cs.toList.drop (0+c)).toArray
  rw[List.drop_of_length_le (by simp[hc])];simp) h
theorem aW{t:TypeId}{p x:Operand}{i g off:Nat}{cs:Array Value}{T:TypeId}{agg:Bool}{v:Value}[hT:ak P t agg 1](hi:L[i]?=some (aw g cs T))(hp:ev fr p=some (.pointer (some ⟨g,off,none⟩)))(hx:ev fr x=some v)(hv:v.cells=#[v])(h1:v.oneCell'=true)
 (hc:Nat.blt off cs.size=true) (h:TL P n W ops Q rest fr (L.set i (aw g (cs.setIfInBounds off v) T))):
 TL P n W ops Q (⟨none,.store t p x,ty,pos,after,none⟩::rest) fr L:=by
 have hlt:off<cs.size:=Nat.le_of_ble_eq_true hc;refine pw hT.ty hi hp hx (by rw[hv];rfl) (by rw[hv];simp[h1]) (by omega) ?_ h;rw[hv];apply Array.ext';simp only[Array.toList_setIfInBounds];rw[List.set_eq_take_append_cons_drop,if_pos (by simpa using hlt)];simp
theorem xz{t u:TypeId}{x y:Operand}{xs ys:Array Value}{b:Bool}(hx:ev fr x=some (.agg xs))(hy:ev fr y=some (.agg ys))(hg:P.eqGuardType P.depth t=false)(h:∀w,(Op.equalIn 10000 t (.agg xs) (.agg ys)).run P w= .ok b w):RR P n W ⟨dst,.binOp .eql t x y u,ty,pos,after,guard⟩ fr L (.bool b):= .mk fun a w hr _=>by
 simp only[execOp,hr.ev hx,hr.ev hy,Sem.run_bind,run_eqGuard_agg w .eql t x y xs ys hg,Result.andThen_ok,run_eql_struct,h w];rfl
theorem lq{t u:TypeId}{x y:Operand}{xs ys:Array Value}{b c:Bool}(hx:ev fr x=some (.agg xs))(hy:ev fr y=some (.agg ys))(hg:P.eqGuardType P.depth t=false)(h:∀w,(Op.equalIn 10000 t (.agg xs) (.agg ys)).run P w= .ok b w)(hc:(!b)=c):RR P n W ⟨dst,.binOp .neq t x y u,ty,pos,after,guard⟩ fr L (.bool c):= .mk fun a w hr _=>by
 subst hc;simp only[execOp,hr.ev hx,hr.ev hy,Sem.run_bind,run_eqGuard_agg w .neq t x y xs ys hg,Result.andThen_ok,run_neq_struct,h w];rfl
theorem da{fn:Func}{R:Ending->World->Prop}{t u:Tmp}{T:TypeId}{i g c:Nat}{cs:Array Value}{T':TypeId}{z:Value}[hT:ak P T true c](kR:fn.results=#[.cell t T,.tmp u])(hp:look fr t=some (.pointer (some ⟨g,0,none⟩)))(hi:L[i]?=some (aw g cs T'))(hc:cs.size=c)(hz:look fr u=some z)
 (h:∀w,Mem W L w->R (.returned (.tuple #[.agg cs,z])) w):E n W .ret (bodyPost P fn R) fr L:=
 Ax fun a w hr pt=>⟨_,by
  have DZ:=run_loadCells_list (P:=P) w ⟨g,0,none⟩ cs.toList fun j v hj=>by rw[eS,Nat.zero_add];exact ah hi (by simpa using hj) w pt
  have hl:(loadCells ⟨g,0,none⟩ c).run P w= .ok cs w:=by rw[<-hc];simpa using DZ
  have hv:(loadVar T ⟨g,0,none⟩).run P w= .ok (.agg cs) w:=by simp[loadVar,hT.ty.agg,hT.ty.size,hl]
  simp[results,kR,Array.getD_eq_getD_getElem?,hr.get t _ hp,hr.get u z hz,asAddr,hv],h w pt⟩
theorem fJ{fn:Func}{R:Ending->World->Prop}{t u s:Tmp}{T:TypeId}{i g c:Nat}{cs:Array Value}{T':TypeId}{z y:Value}[hT:ak P T true c](kR:fn.results=#[.cell t T,.tmp u,.tmp s])(hp:look fr t=some (.pointer (some ⟨g,0,none⟩)))(hi:L[i]?=some (aw g cs T'))(hc:cs.size=c)(hz:look fr u=some z)(hy:look fr s=some y)
 (h:∀w,Mem W L w->R (.returned (.tuple #[.agg cs,z,y])) w):E n W .ret (bodyPost P fn R) fr L:=
 Ax fun a w hr pt=>⟨_,by
  have DZ:=run_loadCells_list (P:=P) w ⟨g,0,none⟩ cs.toList fun j v hj=>by rw[eS,Nat.zero_add];exact ah hi (by simpa using hj) w pt
  have hl:(loadCells ⟨g,0,none⟩ c).run P w= .ok cs w:=by rw[<-hc];simpa using DZ
  have hv:(loadVar T ⟨g,0,none⟩).run P w= .ok (.agg cs) w:=by simp[loadVar,hT.ty.agg,hT.ty.size,hl]
  simp[results,kR,Array.getD_eq_getD_getElem?,hr.get t _ hp,hr.get u z hz,hr.get s y hy,asAddr,hv],h w pt⟩
theorem eR{fn:Func}{R:Ending->World->Prop}{t:Tmp}{T:TypeId}{i g c:Nat}{cs:Array Value}{T':TypeId}[hT:ak P T true c](kR:fn.results=#[.cell t T])(hp:look fr t=some (.pointer (some ⟨g,0,none⟩)))(hi:L[i]?=some (aw g cs T'))(hc:cs.size=c)
 (h:∀w,Mem W L w->R (.returned (.agg cs)) w):E n W .ret (bodyPost P fn R) fr L:=
 Ax fun a w hr pt=>⟨_,by
  have DZ:=run_loadCells_list (P:=P) w ⟨g,0,none⟩ cs.toList fun j v hj=>by rw[eS,Nat.zero_add];exact ah hi (by simpa using hj) w pt
  have hl:(loadCells ⟨g,0,none⟩ c).run P w= .ok cs w:=by rw[<-hc];simpa using DZ
  have hv:(loadVar T ⟨g,0,none⟩).run P w= .ok (.agg cs) w:=by simp[loadVar,hT.ty.agg,hT.ty.size,hl]
  simp[results,kR,Array.getD_eq_getD_getElem?,hr.get t _ hp,asAddr,hv],h w pt⟩
end
end bK
namespace bK
open Go.RowKit bO dc
section
variable{P:Program}{ops:Array Oper}{md:Region.Mode}{Q:Exit->Act->World->Prop}{U:World->Prop}
theorem gu{K:Act->World->Prop}{i:Nat}{o:Oper}{a:Act}{w:World}(hi:ops[i]?=some o)(h:wpList P ops (Exit.then K Q) [o] a w):wpOp P ops Q i K a w:=by
  have key:∀r,o.upon P a (wpList P ops (Exit.then K Q) []) (Exit.then K Q) r->o.upon P a K Q r:=fun r hr=>by
    cases r with
    | ok x w'=>
      cases x<;>first
        |exact hr
        |(refine Calls.mono hr fun e DF he=>?_;cases e<;>exact he)
        |exact Rows.mono hr fun v DF he=>he
    |halt x w'=>cases x<;>exact hr
  unfold wpList at h;unfold wpOp;rw[hi];simp only;split
  · rename_i hw
    rw[if_pos hw]at h;rcases h with h|h
    · exact .inl (key _ h)
    · exact .inr h
  · rename_i hw
    rw[if_neg hw]at h;exact h
def nQ(P:Program)(md:Region.Mode)(ops:Array Oper)(Q:Exit->Act->World->Prop)(U:World->Prop):Nat->Array Bool->Act->(World->Prop)->Prop
  |0,listed,a,S=>Region.ready md ops listed=[]/\∀w,S w->Q .normal a w
  | f+1,listed,a,S=>(Region.ready md ops listed=[]->∀w,S w->Q .normal a w)/\
    ∀i∈Region.ready md ops listed,∀w,S w->wpOp P ops Q i (fun a' w'=>∃S',fU S'/\(∀x,S' x->U x)/\S' w'/\nQ P md ops Q U f (listed.setIfInBounds i true) a' S') a w
theorem rD:∀(f:Nat) (listed:Array Bool) (a:Act) (S:World->Prop) (w:World),S w->nQ P md ops Q U f listed a S->wpAny P md ops Q f listed a w
 |0,_,_,_,w,hw,h=>⟨h.1,h.2 w hw⟩
 |f+1,_,_,_,w,hw,h=>⟨fun h0=>h.1 h0 w hw,fun i hi=>wpOp_mono (fun a' w' ⟨S',_,_,pc,h'⟩=>rD f _ a' S' w' pc h') (h.2 i hi w hw)⟩
theorem sM{i:Nat}{oi:Oper}{v:Value}(hi:ops[i]?=some oi)(jw:∀(j:Nat) (o:Oper) cs b,ops[j]?=some o->o.op≠ .select cs b)
    (hQ:∀c a w,Q (.panic c) (a.put oi.dst v) w->Q (.panic c) a w):
    ∀ (f:Nat) (listed:Array Bool) (a:Act) (S:World->Prop),fU S->(∀x,S x->U x)->
      (∀j oj,ops[j]?=some oj->j≠i->listed.getD j true=false->(∀e∈oj.after,Region.binds md e=true->e.on≠i)->oi.apart ops oj=true)->
      i∈Region.ready md ops listed->gi P ops U oi v a->
      nQ P md ops Q U f (listed.setIfInBounds i true) (a.put oi.dst v) S->nQ P md ops Q U (f+1) listed a S:=by
  intro f
  induction f with
  | zero=>
    intro listed a S ir NI _ hr hy H;refine⟨fun h=>(by rw[h]at hr;cases hr),fun j hj w hw=>?_⟩
    by_cases BU:j=i
    · subst BU;exact(hy.mono NI).wpOp hi ir hw fun w' pc=>⟨S,ir,NI,pc,H⟩
    · have:=ready_mono (md:=md) hj BU
      rw[H.1]at this;cases this
  | succ f ih=>
    intro listed a S ir NI Aw hr hy H;have M9:=(mem_ready.1 hr).1;refine⟨fun h=>(by rw[h]at hr;cases hr),fun j hj w hw=>?_⟩
    by_cases BU:j=i
    · subst BU;exact(hy.mono NI).wpOp hi ir hw fun w' pc=>⟨S,ir,NI,pc,H⟩
    · have h1:=H.2 j (ready_mono hj BU) w hw
      obtain⟨Nr,oj,I7,mY⟩:=mem_ready.1 hj;have KP:∀e∈oj.after,Region.binds md e=true->e.on≠i:=fun e he hb uR=>by
        have h1:=mY e he hb;rw[uR,getD_both M9]at h1
        cases h1
      have h2:=Av I7 (Aw j oj I7 BU Nr KP) (fun cs b=>jw i oi cs b hi) (fun cs b=>jw j oj cs b I7) hQ hy h1;have GY:∀k ok,ops[k]?=some ok->k≠i->(listed.setIfInBounds j true).getD k true=false->
          (∀e∈ok.after,Region.binds md e=true->e.on≠i)->oi.apart ops ok=true:=fun k ok hk hki M9 hno=>by
        refine Aw k ok hk hki ?_ hno
        by_cases UD:j=k
        · subst UD;exact Nr
        · rw[getD_set_ne true UD]at M9;exact M9
      refine wpOp_mono (fun a' w' h3=>?_) h2;obtain⟨h3,S',jO,iu,pc,h4⟩:=h3;refine⟨S',jO,iu,pc,ih (listed.setIfInBounds j true) a' S' jO iu GY (ready_mono hr (Ne.symm BU)) h3 ?_⟩;rw[Array.setIfInBounds_comm _ _ BU];exact h4
end
section
variable{P:Program}{n:Nat}{W:bC}{Q:Exit->Act->World->Prop}{fr:Fr}{L L0:List bI}{ops:Array Oper}{ks:List Bool}{o:Oper}{rest:List Oper}{v:Value}{d:Nat}
theorem NJ{L':List bI}(is:List Nat)(hn:is.Nodup)(hl:L'=is.filterMap fun i=>L[i]?):∀w,Mem W L w->Mem W L' w:=fun _ h=>h.pick is hn hl
theorem wH:∀w,Mem W L w->Mem W [] w:=fun _ h=>⟨h.low,dH.nil _⟩
end
end bK
namespace bK
open Go.RowKit bO dc
inductive Ord where
 |done
 |calm (i:Nat) (t:Ord)
 |one (i:Nat) (t:Ord)
 |two (i:Nat) (t:Ord) (j:Nat) (u:Ord)
 |three (i:Nat) (t:Ord) (j:Nat) (u:Ord) (k:Nat) (v:Ord)
def Ord.size:Ord->Nat
 | .done=>0
 | .calm _ t=>t.size+1
 | .one _ t=>t.size+1
 | .two _ t _ _=>t.size+1
 | .three _ t _ _ _ _=>t.size+1
section
variable{P:Program}{ops:Array Oper}{md:Region.Mode}{Q:Exit->Act->World->Prop}{U:World->Prop}
def NK(P:Program)(ops:Array Oper)(Q:Exit->Act->World->Prop)(U:World->Prop):Ord->Act->(World->Prop)->Prop
 | .calm i t,a,S=>∃o v,ops[i]?=some o/\(if Region.wanted o (yielded ops a.tmps)then ∀w,U w->lf P o a w v else v=undef)/\NK P ops Q U t (a.put o.dst v) S
 | .one i t,a,S=>∃o,ops[i]?=some o/\∀w,S w->wpList P ops (Exit.then (fun a' w'=>∃S',fU S'/\(∀x,S' x->U x)/\S' w'/\NK P ops Q U t a' S') Q) [o] a w
 | .two i t j u,a,S=>(∃o,ops[i]?=some o/\∀w,S w->wpList P ops (Exit.then (fun a' w'=>∃S',fU S'/\(∀x,S' x->U x)/\S' w'/\NK P ops Q U t a' S') Q) [o] a w)/\
   (∃o,ops[j]?=some o/\∀w,S w->wpList P ops (Exit.then (fun a' w'=>∃S',fU S'/\(∀x,S' x->U x)/\S' w'/\NK P ops Q U u a' S') Q) [o] a w)
 | .three i t j u k v,a,S=>(∃o,ops[i]?=some o/\∀w,S w->wpList P ops (Exit.then (fun a' w'=>∃S',fU S'/\(∀x,S' x->U x)/\S' w'/\NK P ops Q U t a' S') Q) [o] a w)/\
   (∃o,ops[j]?=some o/\∀w,S w->wpList P ops (Exit.then (fun a' w'=>∃S',fU S'/\(∀x,S' x->U x)/\S' w'/\NK P ops Q U u a' S') Q) [o] a w)/\
   (∃o,ops[k]?=some o/\∀w,S w->wpList P ops (Exit.then (fun a' w'=>∃S',fU S'/\(∀x,S' x->U x)/\S' w'/\NK P ops Q U v a' S') Q) [o] a w)
 | .done,a,S=>∀w,S w->Q .normal a w
def jl(md:Region.Mode)(ops:Array Oper):Ord->Array Bool->Bool
 | .calm i t,listed=>(Region.ready md ops listed).contains i&&Region.free md ops listed i&&jl md ops t (listed.setIfInBounds i true)
 | .one i t,listed=>decide (Region.ready md ops listed=[i])&&jl md ops t (listed.setIfInBounds i true)
 | .two i t j u,listed=>decide (Region.ready md ops listed=[i,j])&&Nat.beq t.size u.size&&jl md ops t (listed.setIfInBounds i true)&&jl md ops u (listed.setIfInBounds j true)
 | .three i t j u k v,listed=>decide (Region.ready md ops listed=[i,j,k])&&Nat.beq t.size u.size&&Nat.beq t.size v.size&&jl md ops t (listed.setIfInBounds i true)&&jl md ops u (listed.setIfInBounds j true)&&jl md ops v (listed.setIfInBounds k true)
 | .done,listed=>decide (Region.ready md ops listed=[])
theorem gv(jw:Region.noSelect ops=true)(hQ:∀c a d v w,Q (.panic c) (Act.put a d v) w->Q (.panic c) a w):
  ∀(t:Ord) (listed:Array Bool) (a:Act) (S:World->Prop),fU S->(∀x,S x->U x)->jl md ops t listed=true->
  NK P ops Q U t a S->nQ P md ops Q U t.size listed a S
 | .done,listed,a,S,_,_,ho,h=>⟨by simpa[jl]using ho,h⟩
 | .calm i t,listed,a,S,ir,NI,ho,h=>by
  simp only[jl,Bool.and_eq_true]at ho;obtain⟨⟨hr,hf⟩,D0⟩:=ho;have wE:i∈Region.ready md ops listed:=by simpa using hr
  obtain⟨o,v,h0,hy,hK⟩:=h;have hy':gi P ops U o v a:=by
   by_cases hw:Region.wanted o (yielded ops a.tmps)=true
   ·rw[if_pos hw]at hy;exact .inl ⟨hw,hy⟩
   ·rw[if_neg hw]at hy;exact .inr ⟨by simpa using hw,hy⟩
  exact sM h0 (Region.noSelect_spec jw) (fun c a w=>hQ c a o.dst v w) t.size listed a S ir NI (Region.free_spec h0 hf) wE hy'
   (gv jw hQ t _ _ S ir NI D0 hK)
 | .one i t,listed,a,S,ir,NI,ho,h=>by
  simp only[jl,Bool.and_eq_true,decide_eq_true_eq]at ho;obtain⟨hr,D0⟩:=ho;obtain⟨o,h0,h⟩:=h;refine⟨fun h'=>(by rw[hr]at h';cases h'),fun j hj w hw=>?_⟩;obtain rfl:j=i:=by rw[hr]at hj;simpa using hj
  refine wpOp_mono (fun a' w' ⟨S',jO,pz,pc,hK⟩=>⟨S',jO,pz,pc,?_⟩) (gu h0 (h w hw));exact gv jw hQ t _ _ S' jO pz D0 hK
 | .two i t j u,listed,a,S,ir,NI,ho,h=>by
  simp only[jl,Bool.and_eq_true,decide_eq_true_eq]at ho;obtain⟨⟨⟨hr,hs⟩,tR⟩,AA⟩:=ho;obtain⟨⟨o,h0,h⟩,⟨o2,h02,h2⟩⟩:=h;have hs:=Nat.eq_of_beq_eq_true hs;refine⟨fun h'=>(by rw[hr]at h';cases h'),fun q hq w hw=>?_⟩;rw[hr]at hq;simp only[List.mem_cons,List.not_mem_nil,or_false]at hq;rcases hq with rfl|rfl
  ·refine wpOp_mono (fun a' w' ⟨S',jO,pz,pc,hK⟩=>⟨S',jO,pz,pc,?_⟩) (gu h0 (h w hw))
   exact gv jw hQ t _ _ S' jO pz tR hK
  ·refine wpOp_mono (fun a' w' ⟨S',jO,pz,pc,hK⟩=>⟨S',jO,pz,pc,?_⟩) (gu h02 (h2 w hw))
   rw[hs];exact gv jw hQ u _ _ S' jO pz AA hK
 | .three i t j u k v,listed,a,S,ir,NI,ho,h=>by
  simp only[jl,Bool.and_eq_true,decide_eq_true_eq]at ho;obtain⟨⟨⟨⟨⟨hr,hs⟩,XR⟩,tR⟩,AA⟩,XS⟩:=ho;obtain⟨⟨o,h0,h⟩,⟨o2,h02,h2⟩,⟨o3,h03,h3⟩⟩:=h;have hs:=Nat.eq_of_beq_eq_true hs;have XR:=Nat.eq_of_beq_eq_true XR;refine⟨fun h'=>(by rw[hr]at h';cases h'),fun q hq w hw=>?_⟩;rw[hr]at hq;simp only[List.mem_cons,List.not_mem_nil,or_false]at hq;rcases hq with rfl|rfl|rfl
  ·refine wpOp_mono (fun a' w' ⟨S',jO,pz,pc,hK⟩=>⟨S',jO,pz,pc,?_⟩) (gu h0 (h w hw))
   exact gv jw hQ t _ _ S' jO pz tR hK
  ·refine wpOp_mono (fun a' w' ⟨S',jO,pz,pc,hK⟩=>⟨S',jO,pz,pc,?_⟩) (gu h02 (h2 w hw))
   rw[hs];exact gv jw hQ u _ _ S' jO pz AA hK
  ·refine wpOp_mono (fun a' w' ⟨S',jO,pz,pc,hK⟩=>⟨S',jO,pz,pc,?_⟩) (gu h03 (h3 w hw))
   rw[XR];exact gv jw hQ v _ _ S' jO pz XS hK
end
structure TW(P:Program)(n:Nat)(W:bC)(ops:Array Oper)(Q:Exit->Act->World->Prop)(L0:List bI)(t:Ord)(fr:Fr)(L:List bI):Prop where
 go:∀a,jP n a fr->NK P ops Q (Mem W L0) t a (Mem W L)
section
variable{P:Program}{n:Nat}{W:bC}{Q:Exit->Act->World->Prop}{fr:Fr}{L L0:List bI}{ops:Array Oper}{o:Oper}{t u:Ord}{i j:Nat}{v:Value}{d:Nat}
def VQ(l:List Oper)(t:Ord):Bool:=Nat.beq t.size l.length&&Region.noSelect l.toArray&&jl .any l.toArray t (Array.replicate l.toArray.size false)
theorem Yu{id:Nat}{l:List Oper}(L0:List bI)(t:Ord)(iu:∀w,Mem W L w->Mem W L0 w)(hm:P.follows .mixedOrders=true)(hB:VQ l t=true)
 (hQ:∀c a d v w,Q (.panic c) (Act.put a d v) w->Q (.panic c) a w)
 (h:TW P n W l.toArray Q L0 t fr L):T P n W (.region id l.toArray true) Q fr L:=⟨fun a w hr pt=>by
 simp only[VQ,Bool.and_eq_true]at hB;obtain⟨⟨h1,h2⟩,h3⟩:=hB;have hlen:=Nat.eq_of_beq_eq_true h1;refine wp_region_any hm ?_;have hsz:l.toArray.size=t.size:=by rw[hlen];simp
 have:=rD (U:=Mem W L0) t.size (Array.replicate l.toArray.size false) a (Mem W L) w.drew pt.drew
  (gv h2 hQ t _ a (Mem W L) (eY W L) iu h3 (h.go a hr))
 rw[<-hsz]at this;exact this⟩
theorem Jd{q e:Nat}{b:Bool}{x:Value}(ho:ops[i]?=some o)(hg:o.guard=some (q,b))(hj:(ops[q]?).bind (·.dst)=some e)(hl:look fr e=some x)(hu:RH b x=true)(hd:o.dst=some d)(hn:Nat.blt d n=true)(h:TW P n W ops Q L0 t ((d,undef)::fr) L):TW P n W ops Q L0 (.calm i t) fr L:=⟨fun a eQ=>
 ⟨o,undef,ho,by rw[Ay eQ hg hj hl hu];rfl,by rw[hd];exact h.go _ (eQ.put hn undef)⟩⟩
theorem sN{f:FuncId}{args:Array Value}(ho:ops[i]?=some o)(he:∀a w,jP n a fr->(execOp a.eval o).run P w= .ok (.enter f args) w)(hc:∀w,Mem W L0 w->Calls P f args w (bM (ret v) w))(hg:o.guard=none)(hd:o.dst=some d)(hn:Nat.blt d n=true)
 (h:TW P n W ops Q L0 t ((d,v)::fr) L):TW P n W ops Q L0 (.calm i t) fr L:=⟨fun a eQ=>
 ⟨o,v,ho,by rw[if_pos (kx hg)];intro w hw;unfold lf;rw[he a w eQ];exact⟨Gr.refl _,(hc w hw).mono fun _ _ h=>xt h⟩,by rw[hd];exact h.go _ (eQ.put hn v)⟩⟩
theorem xA{f:FuncId}{args:Array Value}{q e:Nat}{b:Bool}(ho:ops[i]?=some o)(he:∀a w,jP n a fr->(execOp a.eval o).run P w= .ok (.enter f args) w)(hc:∀w,Mem W L0 w->Calls P f args w (bM (ret v) w))(hg:o.guard=some (q,b))(hj:(ops[q]?).bind (·.dst)=some e)(hl:look fr e=some (.bool b))(hd:o.dst=some d)(hn:Nat.blt d n=true)
 (h:TW P n W ops Q L0 t ((d,v)::fr) L):TW P n W ops Q L0 (.calm i t) fr L:=⟨fun a eQ=>
 ⟨o,v,ho,by rw[if_pos (lh eQ hg hj hl)];intro w hw;unfold lf;rw[he a w eQ];exact⟨Gr.refl _,(hc w hw).mono fun _ _ h=>xt h⟩,by rw[hd];exact h.go _ (eQ.put hn v)⟩⟩
abbrev after(P:Program)(W:bC)(ops:Array Oper)(Q:Exit->Act->World->Prop)(L0:List bI)(t:Ord):Exit->Act->World->Prop:=Exit.then (fun a' w'=>∃S',fU S'/\(∀x,S' x->Mem W L0 x)/\S' w'/\NK P ops Q (Mem W L0) t a' S') Q
theorem ap(ho:ops[i]?=some o)(h:TL P n W ops (after P W ops Q L0 t) [o] fr L):TW P n W ops Q L0 (.one i t) fr L:=⟨fun a eQ=>⟨o,ho,fun w hw=>h.go a w eQ hw⟩⟩
theorem dE{o2:Oper}(ho:ops[i]?=some o)(AA:ops[j]?=some o2)(h:TL P n W ops (after P W ops Q L0 t) [o] fr L)(h2:TL P n W ops (after P W ops Q L0 u) [o2] fr L):TW P n W ops Q L0 (.two i t j u) fr L:=
 ⟨fun a eQ=>⟨⟨o,ho,fun w hw=>h.go a w eQ hw⟩,⟨o2,AA,fun w hw=>h2.go a w eQ hw⟩⟩⟩
theorem sO{o2 o3:Oper}{k:Nat}{u2:Ord}(ho:ops[i]?=some o)(AA:ops[j]?=some o2)(XS:ops[k]?=some o3)(h:TL P n W ops (after P W ops Q L0 t) [o] fr L)(h2:TL P n W ops (after P W ops Q L0 u) [o2] fr L)(h3:TL P n W ops (after P W ops Q L0 u2) [o3] fr L):TW P n W ops Q L0 (.three i t j u k u2) fr L:=
 ⟨fun a eQ=>⟨⟨o,ho,fun w hw=>h.go a w eQ hw⟩,⟨o2,AA,fun w hw=>h2.go a w eQ hw⟩,⟨o3,XS,fun w hw=>h3.go a w eQ hw⟩⟩⟩
theorem av{L':List bI}{zN:Fr}(iu:∀w,Mem W L' w->Mem W L0 w)(h:TW P n W ops Q L0 t zN L'):TL P n W ops (after P W ops Q L0 t) [] zN L':=
 eL ⟨fun a _ hr hm=>⟨Mem W L',eY _ _,iu,hm,h.go a hr⟩⟩
theorem Je(h:E n W .normal Q fr L):TW P n W ops Q L0 .done fr L:=⟨fun a hr w hw=>h.go a w hr hw⟩
theorem iW{x y:Code}{ι:Type}(I:ι->Prop)(F:ι->Fr)(M:ι->List bI)
 (hx:T P n W x (Exit.then (Mid n W I F M) Q) fr L) (hy:∀i,I i->T P n W y Q (F i) (M i)):T P n W x (Exit.then (y.wp P Q) Q) fr L:= .mk fun a w hr hm=>
 wp_mono (hx.go a w hr hm) fun e a w h=>by
  cases e with
  |normal=>obtain⟨i,h1,h2,h3⟩:=h;exact(hy i h1).go a w h2 h3
  |_=>exact h
structure TN(P:Program)(n:Nat)(W:bC)(ops:Array Oper)(Q:Exit->Act->World->Prop)(L0:List bI)(o:Oper)(t:Ord)(fr:Fr)(L:List bI):Prop where
 go:∀a,jP n a fr->∃v,(∀w,Mem W L0 w->lf P o a w v)/\NK P ops Q (Mem W L0) t (a.put o.dst v) (Mem W L)
theorem NL(ho:ops[i]?=some o)(hg:o.guard=none)(h:TN P n W ops Q L0 o t fr L):TW P n W ops Q L0 (.calm i t) fr L:=⟨fun a eQ=>by
 obtain⟨v,h1,h2⟩:=h.go a eQ;exact⟨o,v,ho,by rw[if_pos (kx hg)];exact h1,h2⟩⟩
theorem RW{q e:Nat}{b:Bool}(ho:ops[i]?=some o)(hg:o.guard=some (q,b))(hj:(ops[q]?).bind (·.dst)=some e)(hl:look fr e=some (.bool b))(h:TN P n W ops Q L0 o t fr L):TW P n W ops Q L0 (.calm i t) fr L:=⟨fun a eQ=>by
 obtain⟨v,h1,h2⟩:=h.go a eQ;exact⟨o,v,ho,by rw[if_pos (lh eQ hg hj hl)];exact h1,h2⟩⟩
theorem VR(hr:RR P n W o fr L0 v)(hd:o.dst=some d)(hn:Nat.blt d n=true)(h:TW P n W ops Q L0 t ((d,v)::fr) L):TN P n W ops Q L0 o t fr L:=⟨fun a eQ=>
 ⟨v,fun w hw=>by unfold lf;rw[hr.go a w eQ hw];exact⟨rfl,Gr.refl _⟩,by rw[hd];exact h.go _ (eQ.put hn v)⟩⟩
theorem QW(hr:RR P n W o fr L0 v)(h:TW P n W ops Q L0 t ((d,v)::fr) L)(hd:o.dst=some d:=by exact rfl)(hn:Nat.blt d n=true:=by exact rfl):TN P n W ops Q L0 o t fr L:=VR hr hd hn h
end
end bK
namespace bK
open Go.RowKit bO dc
section
variable{P:Program}{n:Nat}{W:bC}{fr:Fr}{L L0:List bI}{Q:Exit->Act->World->Prop}{ops:Array Oper}{rest:List Oper}{d i:Nat}{o:Oper}{v:Value}{t:Ord}
inductive Gd(ops:Array Oper)(fr:Fr)(o:Oper):Prop
 |no (h:o.guard=none)
 |yes (q e:Nat) (b:Bool) (hg:o.guard=some (q,b)) (hj:(ops[q]?).bind (·.dst)=some e) (hl:look fr e=some (.bool b))
theorem RR.bare(h:RR P n W o fr L v):RR P n W {o with guard:=none} fr L v:=⟨fun a w hr hm=>h.go a w hr hm⟩
theorem Yv(hr:RR P n W o fr L v)(hg:Gd ops fr o)(hd:o.dst=some d)(hn:Nat.blt d n=true)(h:TL P n W ops Q rest ((d,v)::fr) L):TL P n W ops Q (o::rest) fr L:=by
 rcases hg with hg|⟨q,e,b,hg,hj,hl⟩
 ·exact aV hr hg hd hn h
 ·exact wF hg hj hl (aV hr.bare rfl hd hn h)
theorem gV(hr:RR P n W o fr L v)(h:TL P n W ops Q rest ((d,v)::fr) L)(hg:Gd ops fr o:=by first|exact Gd.no rfl|exact Gd.yes _ _ _ rfl rfl rfl)(hd:o.dst=some d:=by exact rfl)(hn:Nat.blt d n=true:=by exact rfl):TL P n W ops Q (o::rest) fr L:=Yv hr hg hd hn h
theorem QK{dst:Option Tmp}{ty:TypeId}{pos:String}{after:Array Edge}{guard:Option (Nat×Bool)}{x:Operand}{a:Addr}(hx:ev fr x=some (.pointer (some a)):=by exact rfl):RR P n W ⟨dst,.nilCheck x,ty,pos,after,guard⟩ fr L (.pointer (some a)):= .mk fun act w hr _=>by
 simp[execOp,hr.ev hx]
end
structure Hid(B:Prop):Prop where
 go:B
theorem GC{A B:Prop}(h:B)(t:Hid B->A:=by
 intro h0
 first|refine gV QP ?_|refine QZ ?_|refine GJ rfl ?_|refine GK rfl ?_|refine dI ?_|refine dJ rfl ?_|refine qs rfl rfl rfl rfl rfl rfl ?_
 repeat (first|refine gV QP ?_|refine QZ ?_|refine GJ rfl ?_|refine GK rfl ?_|refine dI ?_|refine dJ rfl ?_|refine qs rfl rfl rfl rfl rfl rfl ?_)
 exact h0.go):A:=t ⟨h⟩
theorem GB{A B:Prop}(h:B)(t:Hid B->A:=by
 intro h0;refine gV (by first|exact QA|exact QK|exact QL|exact QS|exact xw rfl rfl|exact QlT|exact QlF|exact Yr|exact Ys|exact QnT|exact QnF|exact QaA|exact QgT|exact QgF|exact QhT|exact QhF|exact QmT|exact QmF|exact QaS|exact QaM|exact Nz rfl rfl (by omega)|exact NA rfl rfl (by omega)) ?_;exact h0.go):A:=t ⟨h⟩
theorem GA{A B:Prop}(h:B)(t:Hid B->A:=by
 intro h0
 first|refine GC ?_|refine GB ?_
 repeat (first|refine GC ?_|refine GB ?_)
 exact h0.go):A:=t ⟨h⟩
theorem GN{A B:Prop}(h:B)(t:Hid B->A:=by
 intro h0
 first|refine NL rfl rfl ?_|refine RW rfl rfl rfl rfl ?_
 exact h0.go):A:=t ⟨h⟩
theorem GX{A B:Prop}(h:B)(t:Hid B->A:=by
 intro h0
 first|refine QW QP ?_|refine QW (by first|exact QA|exact QK|exact QL|exact QS|exact xw rfl rfl|exact QlT|exact QlF|exact Yr|exact Ys|exact QnT|exact QnF|exact QaA|exact QgT|exact QgF|exact QhT|exact QhF|exact QmT|exact QmF|exact QaS|exact QaM|exact Nz rfl rfl (by omega)|exact NA rfl rfl (by omega)) ?_
 exact h0.go):A:=t ⟨h⟩
theorem GW{A B:Prop}(h:B)(t:Hid B->A:=by
 intro h0
 first|(refine GN ?_;refine GX ?_)|refine Jd rfl rfl rfl rfl rfl rfl rfl ?_|refine Je ?_
 repeat (first|(refine GN ?_;refine GX ?_)|refine Jd rfl rfl rfl rfl rfl rfl rfl ?_|refine Je ?_)
 exact h0.go):A:=t ⟨h⟩
section
variable{P:Program}{n:Nat}{W:bC}{fr:Fr}{L L':List bI}{Q:Exit->Act->World->Prop}{ops:Array Oper}{rest:List Oper}
theorem bB{ι:Type}{I:ι->Prop}{F:ι->Fr}{M:ι->List bI}{μ:ι->Nat}{x:ι}(x':ι)(hi:I x')(hμ:μ x'<μ x)(hf:DS (F x') fr:=by repeat' (first|exact True.intro|refine And.intro rfl ?_))(hl:L=M x':=by exact rfl):
 E n W .normal (Exit.then (Rnd n W I F M μ x) Q) fr L:=fH x' hi hμ hf hl
theorem dv{c:Code}{ι:Type}(I:ι->Prop)(F:ι->Fr)(M:ι->List bI)(μ:ι->Nat)(x0:ι)(h0:I x0)
 (round:∀x,I x->T P n W c (Exit.then (Rnd n W I F M μ x) Q) (F x) (M x)) (hf:DS (F x0) fr:=by repeat' (first|exact True.intro|refine And.intro rfl ?_)) (hl:L=M x0:=by exact rfl):T P n W (.loop c) Q fr L:=jA I F M μ x0 h0 hf hl round
theorem zL{A B:Prop}(h:B)(t:Hid B->A:=by
 intro h0
 (conv=>arg 8;simp only[zA,zB,zC,zD,zE,zF,zG,zH,zI,bZ,ret,id_eq])
 exact h0.go):A:=t ⟨h⟩
end
theorem zJ:(∀{α:Type} {a:α} {l m:List α},a::l++m=a::(l++m))/\(∀{α:Type} {l:List α},[]++l=l)/\(∀{α:Type} {l:List α},l++[]=l)/\(∀{α β:Type} {f:α->Option β} {a:α} {l:List α},List.filterMap f (a::l)=match f a with
 |none=>List.filterMap f l
 |some b=>b::List.filterMap f l)/\(∀{α β:Type} {f:α->Option β},List.filterMap f []=[])/\(∀{α:Type} {a:α} {l:List α} {i:Nat},(a::l)[i+1]?=l[i]?)/\(∀{α:Type} {a:α} {l:List α},(a::l)[0]?=some a)/\(∀{α:Type} {a b:α} {l:List α},(a::l).set 0 b=b::l)/\(∀{α:Type} {a b:α} {l:List α} {i:Nat},(a::l).set (i+1) b=a::l.set i b):=
 ⟨zA,zB,zC,zD,zE,zF,zG,zH,zI⟩
section
variable{P:Program}{n:Nat}{W:bC}{fr:Fr}{L L':List bI}{Q:Exit->Act->World->Prop}{ops:Array Oper}{rest:List Oper}
theorem bz(is:List Nat)(hn:is.Nodup:=by decide)(hl:L'=is.filterMap fun i=>L[i]?:=by exact rfl):∀w,Mem W L w->Mem W L' w:=NJ is hn hl
theorem AB(is:List Nat)(h:TL P n W ops Q rest fr L')(hn:is.Nodup:=by decide)(hl:L'=is.filterMap fun i=>L[i]?:=by exact rfl):TL P n W ops Q rest fr L:=RU is hn hl h
theorem oX{c:Code}(is:List Nat)(h:T P n W c Q fr L')(hn:is.Nodup:=by decide)(hl:L'=is.filterMap fun i=>L[i]?:=by exact rfl):T P n W c Q fr L:=VB is hn hl h
theorem cD{e:Exit}(is:List Nat)(h:E n W e Q fr L')(hn:is.Nodup:=by decide)(hl:L'=is.filterMap fun i=>L[i]?:=by exact rfl):E n W e Q fr L:=VC is hn hl h
theorem cU{id:Nat}{l:List Oper}(L0:List bI)(t:Ord)(iu:∀w,Mem W L w->Mem W L0 w)(h:TW P n W l.toArray Q L0 t fr L)(hm:P.follows .mixedOrders=true:=by kernel_rfl)(hB:VQ l t=true:=by kernel_rfl)
 (hQ:∀c a d v w,Q (.panic c) (Act.put a d v) w->Q (.panic c) a w:=by intro c a d v w h;cases d<;>exact h):T P n W (.region id l.toArray true) Q fr L:=Yu L0 t iu hm hB hQ h
theorem db{fn:Func}{w0:World}{t:Tmp}{v:Value}(kR:fn.results=#[.tmp t]:=by exact rfl)(hv:look fr t=some v:=by exact rfl):E n w0 .ret (bodyPost P fn (bM (ret v) w0)) fr L:=b9 kR hv fun w hm=>hm.ret
theorem fa{ty:TypeId}{pos:String}{after:Array Edge}{t:TypeId}{p x:Operand}(i:Nat){g c:Nat}{cs cs':Array Value}{T:TypeId}{agg:Bool}[hT:ak P t agg c](h:TL P n W ops Q rest fr (L.set i (aw g cs' T)))(hi:L[i]?=some (aw g cs T):=by exact rfl)(hp:ev fr p=some (.pointer (some ⟨g,0,none⟩)):=by exact rfl)(hx:ev fr x=some (.agg cs'):=by exact rfl)(hv:cs'.size=c:=by exact rfl)(h1:cs'.toList.all Value.oneCell'=true:=by exact rfl)(hc:cs.size=c:=by exact rfl):
 TL P n W ops Q (⟨none,.store t p x,ty,pos,after,none⟩::rest) fr L:=aE hi hp hx hv h1 hc h
end
end bK
namespace bK
instance:aT Tryz.prog 2 (.int .i64):=⟨Tryz.underlying2⟩
instance:ak Tryz.prog 2 false 1:={}
instance:aQ Tryz.prog 2 #[.int .i64 0]:={}
instance:aT Tryz.prog 3 (.int .i64):=⟨Tryz.underlying3⟩
instance:ak Tryz.prog 3 false 1:={}
instance:aQ Tryz.prog 3 #[.int .i64 0]:={}
instance:aT Tryz.prog 4 (.bool):=⟨Tryz.underlying4⟩
instance:ak Tryz.prog 4 false 1:={}
instance:aQ Tryz.prog 4 #[.bool false]:={}
instance:aT Tryz.prog 5 (.int .u8):=⟨Tryz.underlying5⟩
instance:ak Tryz.prog 5 false 1:={}
instance:aQ Tryz.prog 5 #[.int .u8 0]:={}
instance:aO Tryz.prog 7 0 0:={}
instance:aO Tryz.prog 7 1 1:={}
instance:aO Tryz.prog 7 2 2:={}
instance:aO Tryz.prog 7 3 3:={}
instance:ak Tryz.prog 7 true 4:={}
instance:aQ Tryz.prog 7 #[.int .i64 0,.int .i64 0,.bool false,.int .u8 0]:={}
instance:aT Tryz.prog 9 (.string):=⟨Tryz.underlying9⟩
instance:ak Tryz.prog 9 false 1:={}
instance:aQ Tryz.prog 9 #[.string ⟨#[]⟩]:={}
instance:aT Tryz.prog 12 (.int .u64):=⟨Tryz.underlying12⟩
instance:ak Tryz.prog 12 false 1:={}
instance:aQ Tryz.prog 12 #[.int .u64 0]:={}
instance:aO Tryz.prog 13 0 0:={}
instance:aO Tryz.prog 13 1 1:={}
instance:ak Tryz.prog 13 true 2:={}
instance:aQ Tryz.prog 13 #[.string ⟨#[]⟩,.int .u64 0]:={}
instance:aT Tryz.prog 21 (.int .i32):=⟨Tryz.underlying21⟩
instance:ak Tryz.prog 21 false 1:={}
instance:aQ Tryz.prog 21 #[.int .i32 0]:={}
instance:aT Tryz.prog 22 (.slice 122):=⟨Tryz.underlying22⟩
instance:ak Tryz.prog 22 false 1:={}
instance:mX Tryz.prog 22 122 7 80:={}
instance:aQ Tryz.prog 22 #[.slice none 0 0]:={}
instance:aT Tryz.prog 23 (.slice 124):=⟨Tryz.underlying23⟩
instance:ak Tryz.prog 23 false 1:={}
instance:mX Tryz.prog 23 124 2 40:={}
instance:aQ Tryz.prog 23 #[.slice none 0 0]:={}
instance:aO Tryz.prog 24 0 0:={}
instance:aO Tryz.prog 24 1 1:={}
instance:ak Tryz.prog 24 true 2:={}
instance:aQ Tryz.prog 24 #[.slice none 0 0,.slice none 0 0]:={}
instance:aO Tryz.prog 25 0 0:={}
instance:aO Tryz.prog 25 1 1:={}
instance:ak Tryz.prog 25 true 2:={}
instance:aQ Tryz.prog 25 #[.slice none 0 0,.slice none 0 0]:={}
instance:aT Tryz.prog 26 (.slice 3):=⟨Tryz.underlying26⟩
instance:ak Tryz.prog 26 false 1:={}
instance:mX Tryz.prog 26 3 1 8:={}
instance:aQ Tryz.prog 26 #[.slice none 0 0]:={}
instance:aT Tryz.prog 27 (.array 256 5):=⟨Tryz.underlying27⟩
instance:ak Tryz.prog 27 true 256:={}
instance:aQ Tryz.prog 27 (List.replicate 256 (.int .u8 0:Value)).toArray:={}
instance:aT Tryz.prog 28 (.slice 26):=⟨Tryz.underlying28⟩
instance:ak Tryz.prog 28 false 1:={}
instance:mX Tryz.prog 28 26 1 24:={}
instance:aQ Tryz.prog 28 #[.slice none 0 0]:={}
instance:aO Tryz.prog 29 0 0:={}
instance:aO Tryz.prog 29 1 256:={}
instance:aO Tryz.prog 29 2 257:={}
instance:ak Tryz.prog 29 true 258:={}
instance:aQ Tryz.prog 29 (List.replicate 256 (.int .u8 0:Value)++([.slice none 0 0,.slice none 0 0]:List Value)).toArray:={}
instance:aO Tryz.prog 30 0 0:={}
instance:aO Tryz.prog 30 1 256:={}
instance:aO Tryz.prog 30 2 257:={}
instance:ak Tryz.prog 30 true 258:={}
instance:aQ Tryz.prog 30 (List.replicate 256 (.int .u8 0:Value)++([.slice none 0 0,.slice none 0 0]:List Value)).toArray:={}
instance:aT Tryz.prog 31 (.slice 140):=⟨Tryz.underlying31⟩
instance:ak Tryz.prog 31 false 1:={}
instance:mX Tryz.prog 31 140 2 32:={}
instance:aQ Tryz.prog 31 #[.slice none 0 0]:={}
instance:aO Tryz.prog 32 0 0:={}
instance:aO Tryz.prog 32 1 1:={}
instance:aO Tryz.prog 32 2 2:={}
instance:ak Tryz.prog 32 true 3:={}
instance:aQ Tryz.prog 32 #[.int .i64 0,.int .i64 0,.slice none 0 0]:={}
instance:aO Tryz.prog 33 0 0:={}
instance:aO Tryz.prog 33 1 1:={}
instance:aO Tryz.prog 33 2 2:={}
instance:ak Tryz.prog 33 true 3:={}
instance:aQ Tryz.prog 33 #[.int .i64 0,.int .i64 0,.slice none 0 0]:={}
instance:aT Tryz.prog 34 (.slice 92):=⟨Tryz.underlying34⟩
instance:ak Tryz.prog 34 false 1:={}
instance:mX Tryz.prog 34 92 1 24:={}
instance:aQ Tryz.prog 34 #[.slice none 0 0]:={}
instance:aO Tryz.prog 35 0 0:={}
instance:aO Tryz.prog 35 1 1:={}
instance:ak Tryz.prog 35 true 2:={}
instance:aQ Tryz.prog 35 #[.slice none 0 0,.slice none 0 0]:={}
instance:aO Tryz.prog 36 0 0:={}
instance:aO Tryz.prog 36 1 1:={}
instance:ak Tryz.prog 36 true 2:={}
instance:aQ Tryz.prog 36 #[.slice none 0 0,.slice none 0 0]:={}
instance:aO Tryz.prog 37 0 0:={}
instance:aO Tryz.prog 37 1 1:={}
instance:aO Tryz.prog 37 2 259:={}
instance:aO Tryz.prog 37 3 262:={}
instance:aO Tryz.prog 37 4 263:={}
instance:aO Tryz.prog 37 5 264:={}
instance:ak Tryz.prog 37 true 266:={}
instance:aQ Tryz.prog 37 (([.slice none 0 0]:List Value)++List.replicate 256 (.int .u8 0:Value)++([.slice none 0 0,.slice none 0 0,.int .i64 0,.int .i64 0,.slice none 0 0,.int .i64 0,.slice none 0 0,.slice none 0 0,.slice none 0 0]:List Value)).toArray:={}
instance:aO Tryz.prog 38 0 0:={}
instance:aO Tryz.prog 38 1 1:={}
instance:aO Tryz.prog 38 2 259:={}
instance:aO Tryz.prog 38 3 262:={}
instance:aO Tryz.prog 38 4 263:={}
instance:aO Tryz.prog 38 5 264:={}
instance:ak Tryz.prog 38 true 266:={}
instance:aQ Tryz.prog 38 (([.slice none 0 0]:List Value)++List.replicate 256 (.int .u8 0:Value)++([.slice none 0 0,.slice none 0 0,.int .i64 0,.int .i64 0,.slice none 0 0,.int .i64 0,.slice none 0 0,.slice none 0 0,.slice none 0 0]:List Value)).toArray:={}
instance:aT Tryz.prog 39 (.int .i64):=⟨Tryz.underlying39⟩
instance:ak Tryz.prog 39 false 1:={}
instance:aQ Tryz.prog 39 #[.int .i64 0]:={}
instance:aT Tryz.prog 43 (.slice 55):=⟨Tryz.underlying43⟩
instance:ak Tryz.prog 43 false 1:={}
instance:mX Tryz.prog 43 55 2 16:={}
instance:aQ Tryz.prog 43 #[.slice none 0 0]:={}
instance:aO Tryz.prog 44 0 0:={}
instance:aO Tryz.prog 44 1 1:={}
instance:aO Tryz.prog 44 2 2:={}
instance:ak Tryz.prog 44 true 3:={}
instance:aQ Tryz.prog 44 #[.slice none 0 0,.int .i64 0,.int .i64 0]:={}
instance:aO Tryz.prog 45 0 0:={}
instance:aO Tryz.prog 45 1 1:={}
instance:aO Tryz.prog 45 2 2:={}
instance:ak Tryz.prog 45 true 3:={}
instance:aQ Tryz.prog 45 #[.slice none 0 0,.int .i64 0,.int .i64 0]:={}
instance:aT Tryz.prog 48 (.slice 53):=⟨Tryz.underlying48⟩
instance:ak Tryz.prog 48 false 1:={}
instance:mX Tryz.prog 48 53 3 24:={}
instance:aQ Tryz.prog 48 #[.slice none 0 0]:={}
instance:aO Tryz.prog 52 0 0:={}
instance:aO Tryz.prog 52 1 1:={}
instance:aO Tryz.prog 52 2 2:={}
instance:ak Tryz.prog 52 true 3:={}
instance:aQ Tryz.prog 52 #[.int .i64 0,.int .i64 0,.int .i64 0]:={}
instance:aO Tryz.prog 53 0 0:={}
instance:aO Tryz.prog 53 1 1:={}
instance:aO Tryz.prog 53 2 2:={}
instance:ak Tryz.prog 53 true 3:={}
instance:aQ Tryz.prog 53 #[.int .i64 0,.int .i64 0,.int .i64 0]:={}
instance:aO Tryz.prog 54 0 0:={}
instance:aO Tryz.prog 54 1 1:={}
instance:ak Tryz.prog 54 true 2:={}
instance:aQ Tryz.prog 54 #[.int .i64 0,.int .i64 0]:={}
instance:aO Tryz.prog 55 0 0:={}
instance:aO Tryz.prog 55 1 1:={}
instance:ak Tryz.prog 55 true 2:={}
instance:aQ Tryz.prog 55 #[.int .i64 0,.int .i64 0]:={}
instance:aT Tryz.prog 66 (.slice 68):=⟨Tryz.underlying66⟩
instance:ak Tryz.prog 66 false 1:={}
instance:mX Tryz.prog 66 68 3 40:={}
instance:aQ Tryz.prog 66 #[.slice none 0 0]:={}
instance:aO Tryz.prog 67 0 0:={}
instance:aO Tryz.prog 67 1 1:={}
instance:aO Tryz.prog 67 2 2:={}
instance:ak Tryz.prog 67 true 3:={}
instance:aQ Tryz.prog 67 #[.int .i64 0,.int .i64 0,.slice none 0 0]:={}
instance:aO Tryz.prog 68 0 0:={}
instance:aO Tryz.prog 68 1 1:={}
instance:aO Tryz.prog 68 2 2:={}
instance:ak Tryz.prog 68 true 3:={}
instance:aQ Tryz.prog 68 #[.int .i64 0,.int .i64 0,.slice none 0 0]:={}
instance:aT Tryz.prog 73 (.pointer 168):=⟨Tryz.underlying73⟩
instance:ak Tryz.prog 73 false 1:={}
instance:aQ Tryz.prog 73 #[.pointer none]:={}
instance:aT Tryz.prog 83 (.slice 85):=⟨Tryz.underlying83⟩
instance:ak Tryz.prog 83 false 1:={}
instance:mX Tryz.prog 83 85 3 32:={}
instance:aQ Tryz.prog 83 #[.slice none 0 0]:={}
instance:aO Tryz.prog 84 0 0:={}
instance:aO Tryz.prog 84 1 1:={}
instance:aO Tryz.prog 84 2 2:={}
instance:ak Tryz.prog 84 true 3:={}
instance:aQ Tryz.prog 84 #[.int .i64 0,.int .i64 0,.string ⟨#[]⟩]:={}
instance:aO Tryz.prog 85 0 0:={}
instance:aO Tryz.prog 85 1 1:={}
instance:aO Tryz.prog 85 2 2:={}
instance:ak Tryz.prog 85 true 3:={}
instance:aQ Tryz.prog 85 #[.int .i64 0,.int .i64 0,.string ⟨#[]⟩]:={}
instance:aT Tryz.prog 90 (.slice 9):=⟨Tryz.underlying90⟩
instance:ak Tryz.prog 90 false 1:={}
instance:mX Tryz.prog 90 9 1 16:={}
instance:aQ Tryz.prog 90 #[.slice none 0 0]:={}
instance:aT Tryz.prog 92 (.slice 94):=⟨Tryz.underlying92⟩
instance:ak Tryz.prog 92 false 1:={}
instance:mX Tryz.prog 92 94 2 16:={}
instance:aQ Tryz.prog 92 #[.slice none 0 0]:={}
instance:aO Tryz.prog 94 0 0:={}
instance:aO Tryz.prog 94 1 1:={}
instance:ak Tryz.prog 94 true 2:={}
instance:aQ Tryz.prog 94 #[.int .i64 0,.int .i64 0]:={}
instance:aT Tryz.prog 100 (.pointer 38):=⟨Tryz.underlying100⟩
instance:ak Tryz.prog 100 false 1:={}
instance:aQ Tryz.prog 100 #[.pointer none]:={}
instance:aT Tryz.prog 101 (.slice 4):=⟨Tryz.underlying101⟩
instance:ak Tryz.prog 101 false 1:={}
instance:mX Tryz.prog 101 4 1 1:={}
instance:aQ Tryz.prog 101 #[.slice none 0 0]:={}
instance:aT Tryz.prog 102 (.slice 114):=⟨Tryz.underlying102⟩
instance:ak Tryz.prog 102 false 1:={}
instance:mX Tryz.prog 102 114 1 8:={}
instance:aQ Tryz.prog 102 #[.slice none 0 0]:={}
instance:aO Tryz.prog 103 0 0:={}
instance:aO Tryz.prog 103 1 1:={}
instance:aO Tryz.prog 103 2 2:={}
instance:aO Tryz.prog 103 3 3:={}
instance:aO Tryz.prog 103 4 4:={}
instance:ak Tryz.prog 103 true 5:={}
instance:aQ Tryz.prog 103 #[.slice none 0 0,.slice none 0 0,.slice none 0 0,.slice none 0 0,.slice none 0 0]:={}
instance:aO Tryz.prog 104 0 0:={}
instance:aO Tryz.prog 104 1 1:={}
instance:aO Tryz.prog 104 2 2:={}
instance:aO Tryz.prog 104 3 3:={}
instance:aO Tryz.prog 104 4 4:={}
instance:ak Tryz.prog 104 true 5:={}
instance:aQ Tryz.prog 104 #[.slice none 0 0,.slice none 0 0,.slice none 0 0,.slice none 0 0,.slice none 0 0]:={}
instance:aT Tryz.prog 108 (.slice 200):=⟨Tryz.underlying108⟩
instance:ak Tryz.prog 108 false 1:={}
instance:mX Tryz.prog 108 200 4 32:={}
instance:aQ Tryz.prog 108 #[.slice none 0 0]:={}
instance:aT Tryz.prog 111 (.slice 208):=⟨Tryz.underlying111⟩
instance:ak Tryz.prog 111 false 1:={}
instance:mX Tryz.prog 111 208 6 48:={}
instance:aQ Tryz.prog 111 #[.slice none 0 0]:={}
instance:aT Tryz.prog 114 (.int .u64):=⟨Tryz.underlying114⟩
instance:ak Tryz.prog 114 false 1:={}
instance:aQ Tryz.prog 114 #[.int .u64 0]:={}
instance:aT Tryz.prog 115 (.array 4 114):=⟨Tryz.underlying115⟩
instance:ak Tryz.prog 115 true 4:={}
instance:aQ Tryz.prog 115 #[.int .u64 0,.int .u64 0,.int .u64 0,.int .u64 0]:={}
instance:aT Tryz.prog 116 (.array 4 114):=⟨Tryz.underlying116⟩
instance:ak Tryz.prog 116 true 4:={}
instance:aQ Tryz.prog 116 #[.int .u64 0,.int .u64 0,.int .u64 0,.int .u64 0]:={}
instance:aT Tryz.prog 117 (.slice 119):=⟨Tryz.underlying117⟩
instance:ak Tryz.prog 117 false 1:={}
instance:mX Tryz.prog 117 119 6 64:={}
instance:aQ Tryz.prog 117 #[.slice none 0 0]:={}
instance:aO Tryz.prog 118 0 0:={}
instance:aO Tryz.prog 118 1 1:={}
instance:aO Tryz.prog 118 2 5:={}
instance:ak Tryz.prog 118 true 6:={}
instance:aQ Tryz.prog 118 #[.int .i64 0,.int .u64 0,.int .u64 0,.int .u64 0,.int .u64 0,.slice none 0 0]:={}
instance:aO Tryz.prog 119 0 0:={}
instance:aO Tryz.prog 119 1 1:={}
instance:aO Tryz.prog 119 2 5:={}
instance:ak Tryz.prog 119 true 6:={}
instance:aQ Tryz.prog 119 #[.int .i64 0,.int .u64 0,.int .u64 0,.int .u64 0,.int .u64 0,.slice none 0 0]:={}
instance:aO Tryz.prog 121 0 0:={}
instance:aO Tryz.prog 121 1 1:={}
instance:ak Tryz.prog 121 true 7:={}
instance:aQ Tryz.prog 121 #[.string ⟨#[]⟩,.int .i64 0,.int .u64 0,.int .u64 0,.int .u64 0,.int .u64 0,.slice none 0 0]:={}
instance:aO Tryz.prog 122 0 0:={}
instance:aO Tryz.prog 122 1 1:={}
instance:ak Tryz.prog 122 true 7:={}
instance:aQ Tryz.prog 122 #[.string ⟨#[]⟩,.int .i64 0,.int .u64 0,.int .u64 0,.int .u64 0,.int .u64 0,.slice none 0 0]:={}
instance:aO Tryz.prog 123 0 0:={}
instance:aO Tryz.prog 123 1 1:={}
instance:ak Tryz.prog 123 true 2:={}
instance:aQ Tryz.prog 123 #[.string ⟨#[]⟩,.slice none 0 0]:={}
instance:aO Tryz.prog 124 0 0:={}
instance:aO Tryz.prog 124 1 1:={}
instance:ak Tryz.prog 124 true 2:={}
instance:aQ Tryz.prog 124 #[.string ⟨#[]⟩,.slice none 0 0]:={}
instance:aT Tryz.prog 135 (.pointer 144):=⟨Tryz.underlying135⟩
instance:ak Tryz.prog 135 false 1:={}
instance:aQ Tryz.prog 135 #[.pointer none]:={}
instance:aT Tryz.prog 137 (.slice 101):=⟨Tryz.underlying137⟩
instance:ak Tryz.prog 137 false 1:={}
instance:mX Tryz.prog 137 101 1 24:={}
instance:aQ Tryz.prog 137 #[.slice none 0 0]:={}
instance:aT Tryz.prog 138 (.slice 148):=⟨Tryz.underlying138⟩
instance:ak Tryz.prog 138 false 1:={}
instance:mX Tryz.prog 138 148 2 16:={}
instance:aQ Tryz.prog 138 #[.slice none 0 0]:={}
instance:aO Tryz.prog 139 0 0:={}
instance:aO Tryz.prog 139 1 1:={}
instance:ak Tryz.prog 139 true 2:={}
instance:aQ Tryz.prog 139 #[.int .i64 0,.slice none 0 0]:={}
instance:aO Tryz.prog 140 0 0:={}
instance:aO Tryz.prog 140 1 1:={}
instance:ak Tryz.prog 140 true 2:={}
instance:aQ Tryz.prog 140 #[.int .i64 0,.slice none 0 0]:={}
instance:aT Tryz.prog 142 (.map 146 3):=⟨Tryz.underlying142⟩
instance:ak Tryz.prog 142 false 1:={}
instance:aQ Tryz.prog 142 #[.map none]:={}
instance:aO Tryz.prog 143 0 0:={}
instance:aO Tryz.prog 143 1 3:={}
instance:aO Tryz.prog 143 2 4:={}
instance:ak Tryz.prog 143 true 5:={}
instance:aQ Tryz.prog 143 #[.int .i64 0,.int .i64 0,.slice none 0 0,.slice none 0 0,.map none]:={}
instance:aO Tryz.prog 144 0 0:={}
instance:aO Tryz.prog 144 1 3:={}
instance:aO Tryz.prog 144 2 4:={}
instance:ak Tryz.prog 144 true 5:={}
instance:aQ Tryz.prog 144 #[.int .i64 0,.int .i64 0,.slice none 0 0,.slice none 0 0,.map none]:={}
instance:aO Tryz.prog 145 0 0:={}
instance:aO Tryz.prog 145 1 1:={}
instance:aO Tryz.prog 145 2 2:={}
instance:ak Tryz.prog 145 true 3:={}
instance:aQ Tryz.prog 145 #[.int .i64 0,.int .i64 0,.int .i64 0]:={}
instance:aO Tryz.prog 146 0 0:={}
instance:aO Tryz.prog 146 1 1:={}
instance:aO Tryz.prog 146 2 2:={}
instance:ak Tryz.prog 146 true 3:={}
instance:aQ Tryz.prog 146 #[.int .i64 0,.int .i64 0,.int .i64 0]:={}
instance:aO Tryz.prog 148 0 0:={}
instance:aO Tryz.prog 148 1 1:={}
instance:ak Tryz.prog 148 true 2:={}
instance:aQ Tryz.prog 148 #[.int .i64 0,.int .i64 0]:={}
instance:aT Tryz.prog 149 (.pointer 3):=⟨Tryz.underlying149⟩
instance:ak Tryz.prog 149 false 1:={}
instance:aQ Tryz.prog 149 #[.pointer none]:={}
instance:aT Tryz.prog 156 (.slice 231):=⟨Tryz.underlying156⟩
instance:ak Tryz.prog 156 false 1:={}
instance:mX Tryz.prog 156 231 4 32:={}
instance:aQ Tryz.prog 156 #[.slice none 0 0]:={}
instance:aO Tryz.prog 157 0 0:={}
instance:aO Tryz.prog 157 1 1:={}
instance:aO Tryz.prog 157 2 2:={}
instance:aO Tryz.prog 157 3 3:={}
instance:ak Tryz.prog 157 true 4:={}
instance:aQ Tryz.prog 157 #[.slice none 0 0,.int .i64 0,.int .i64 0,.bool false]:={}
instance:aO Tryz.prog 158 0 0:={}
instance:aO Tryz.prog 158 1 1:={}
instance:aO Tryz.prog 158 2 2:={}
instance:aO Tryz.prog 158 3 3:={}
instance:ak Tryz.prog 158 true 4:={}
instance:aQ Tryz.prog 158 #[.slice none 0 0,.int .i64 0,.int .i64 0,.bool false]:={}
instance:aO Tryz.prog 160 0 0:={}
instance:aO Tryz.prog 160 1 1:={}
instance:aO Tryz.prog 160 2 2:={}
instance:aO Tryz.prog 160 3 3:={}
instance:ak Tryz.prog 160 true 4:={}
instance:aQ Tryz.prog 160 #[.slice none 0 0,.int .i64 0,.int .i64 0,.bool false]:={}
instance:aO Tryz.prog 161 0 0:={}
instance:aO Tryz.prog 161 1 1:={}
instance:aO Tryz.prog 161 2 2:={}
instance:aO Tryz.prog 161 3 3:={}
instance:ak Tryz.prog 161 true 4:={}
instance:aQ Tryz.prog 161 #[.slice none 0 0,.int .i64 0,.int .i64 0,.bool false]:={}
instance:aO Tryz.prog 163 0 0:={}
instance:aO Tryz.prog 163 1 1:={}
instance:aO Tryz.prog 163 2 2:={}
instance:ak Tryz.prog 163 true 3:={}
instance:aQ Tryz.prog 163 #[.int .i64 0,.string ⟨#[]⟩,.int .i64 0]:={}
instance:aO Tryz.prog 164 0 0:={}
instance:aO Tryz.prog 164 1 1:={}
instance:aO Tryz.prog 164 2 2:={}
instance:ak Tryz.prog 164 true 3:={}
instance:aQ Tryz.prog 164 #[.int .i64 0,.string ⟨#[]⟩,.int .i64 0]:={}
instance:aO Tryz.prog 165 0 0:={}
instance:aO Tryz.prog 165 1 1:={}
instance:aO Tryz.prog 165 2 2:={}
instance:ak Tryz.prog 165 true 3:={}
instance:aQ Tryz.prog 165 #[.slice none 0 0,.int .i64 0,.int .i64 0]:={}
instance:aO Tryz.prog 166 0 0:={}
instance:aO Tryz.prog 166 1 1:={}
instance:aO Tryz.prog 166 2 2:={}
instance:ak Tryz.prog 166 true 3:={}
instance:aQ Tryz.prog 166 #[.slice none 0 0,.int .i64 0,.int .i64 0]:={}
instance:aO Tryz.prog 167 0 0:={}
instance:aO Tryz.prog 167 1 266:={}
instance:aO Tryz.prog 167 2 267:={}
instance:aO Tryz.prog 167 3 268:={}
instance:aO Tryz.prog 167 4 269:={}
instance:aO Tryz.prog 167 5 270:={}
instance:aO Tryz.prog 167 6 271:={}
instance:aO Tryz.prog 167 7 272:={}
instance:aO Tryz.prog 167 8 275:={}
instance:aO Tryz.prog 167 9 276:={}
instance:aO Tryz.prog 167 10 277:={}
instance:aO Tryz.prog 167 11 281:={}
instance:aO Tryz.prog 167 12 285:={}
instance:aO Tryz.prog 167 13 288:={}
instance:aO Tryz.prog 167 14 289:={}
instance:aO Tryz.prog 167 15 290:={}
instance:ak Tryz.prog 167 true 291:={}
instance:aQ Tryz.prog 167 (([.slice none 0 0]:List Value)++List.replicate 256 (.int .u8 0:Value)++([.slice none 0 0,.slice none 0 0,.int .i64 0,.int .i64 0,.slice none 0 0,.int .i64 0,.slice none 0 0,.slice none 0 0,.slice none 0 0,.int .i64 0,.int .i64 0,.int .i64 0,.string ⟨#[]⟩,.bool false,.bool false,.int .i64 0,.string ⟨#[]⟩,.int .i64 0,.int .i64 0,.slice none 0 0,.slice none 0 0,.int .i64 0,.int .i64 0,.bool false,.slice none 0 0,.int .i64 0,.int .i64 0,.bool false,.slice none 0 0,.int .i64 0,.int .i64 0,.bool false,.int .i64 0,.int .i64 0]:List Value)).toArray:={}
instance:aO Tryz.prog 168 0 0:={}
instance:aO Tryz.prog 168 1 266:={}
instance:aO Tryz.prog 168 2 267:={}
instance:aO Tryz.prog 168 3 268:={}
instance:aO Tryz.prog 168 4 269:={}
instance:aO Tryz.prog 168 5 270:={}
instance:aO Tryz.prog 168 6 271:={}
instance:aO Tryz.prog 168 7 272:={}
instance:aO Tryz.prog 168 8 275:={}
instance:aO Tryz.prog 168 9 276:={}
instance:aO Tryz.prog 168 10 277:={}
instance:aO Tryz.prog 168 11 281:={}
instance:aO Tryz.prog 168 12 285:={}
instance:aO Tryz.prog 168 13 288:={}
instance:aO Tryz.prog 168 14 289:={}
instance:aO Tryz.prog 168 15 290:={}
instance:ak Tryz.prog 168 true 291:={}
instance:aQ Tryz.prog 168 (([.slice none 0 0]:List Value)++List.replicate 256 (.int .u8 0:Value)++([.slice none 0 0,.slice none 0 0,.int .i64 0,.int .i64 0,.slice none 0 0,.int .i64 0,.slice none 0 0,.slice none 0 0,.slice none 0 0,.int .i64 0,.int .i64 0,.int .i64 0,.string ⟨#[]⟩,.bool false,.bool false,.int .i64 0,.string ⟨#[]⟩,.int .i64 0,.int .i64 0,.slice none 0 0,.slice none 0 0,.int .i64 0,.int .i64 0,.bool false,.slice none 0 0,.int .i64 0,.int .i64 0,.bool false,.slice none 0 0,.int .i64 0,.int .i64 0,.bool false,.int .i64 0,.int .i64 0]:List Value)).toArray:={}
instance:aT Tryz.prog 175 (.map 9 3):=⟨Tryz.underlying175⟩
instance:ak Tryz.prog 175 false 1:={}
instance:aQ Tryz.prog 175 #[.map none]:={}
instance:aT Tryz.prog 179 (.slice 116):=⟨Tryz.underlying179⟩
instance:ak Tryz.prog 179 false 1:={}
instance:mX Tryz.prog 179 116 4 32:={}
instance:aQ Tryz.prog 179 #[.slice none 0 0]:={}
instance:aO Tryz.prog 180 0 0:={}
instance:aO Tryz.prog 180 1 1:={}
instance:aO Tryz.prog 180 2 2:={}
instance:aO Tryz.prog 180 3 3:={}
instance:aO Tryz.prog 180 4 4:={}
instance:aO Tryz.prog 180 5 5:={}
instance:ak Tryz.prog 180 true 6:={}
instance:aQ Tryz.prog 180 #[.slice none 0 0,.slice none 0 0,.slice none 0 0,.slice none 0 0,.slice none 0 0,.slice none 0 0]:={}
instance:aO Tryz.prog 181 0 0:={}
instance:aO Tryz.prog 181 1 1:={}
instance:aO Tryz.prog 181 2 2:={}
instance:aO Tryz.prog 181 3 3:={}
instance:aO Tryz.prog 181 4 4:={}
instance:aO Tryz.prog 181 5 5:={}
instance:ak Tryz.prog 181 true 6:={}
instance:aQ Tryz.prog 181 #[.slice none 0 0,.slice none 0 0,.slice none 0 0,.slice none 0 0,.slice none 0 0,.slice none 0 0]:={}
instance:aT Tryz.prog 184 (.slice 257):=⟨Tryz.underlying184⟩
instance:ak Tryz.prog 184 false 1:={}
instance:mX Tryz.prog 184 257 256 512:={}
instance:aQ Tryz.prog 184 #[.slice none 0 0]:={}
instance:aO Tryz.prog 185 0 0:={}
instance:aO Tryz.prog 185 1 1:={}
instance:ak Tryz.prog 185 true 2:={}
instance:aQ Tryz.prog 185 #[.slice none 0 0,.slice none 0 0]:={}
instance:aO Tryz.prog 186 0 0:={}
instance:aO Tryz.prog 186 1 1:={}
instance:ak Tryz.prog 186 true 2:={}
instance:aQ Tryz.prog 186 #[.slice none 0 0,.slice none 0 0]:={}
instance:aO Tryz.prog 199 0 0:={}
instance:aO Tryz.prog 199 1 1:={}
instance:aO Tryz.prog 199 2 2:={}
instance:aO Tryz.prog 199 3 3:={}
instance:ak Tryz.prog 199 true 4:={}
instance:aQ Tryz.prog 199 #[.int .i64 0,.int .i64 0,.int .i64 0,.int .i64 0]:={}
instance:aO Tryz.prog 200 0 0:={}
instance:aO Tryz.prog 200 1 1:={}
instance:aO Tryz.prog 200 2 2:={}
instance:aO Tryz.prog 200 3 3:={}
instance:ak Tryz.prog 200 true 4:={}
instance:aQ Tryz.prog 200 #[.int .i64 0,.int .i64 0,.int .i64 0,.int .i64 0]:={}
instance:aT Tryz.prog 201 (.slice 273):=⟨Tryz.underlying201⟩
instance:ak Tryz.prog 201 false 1:={}
instance:mX Tryz.prog 201 273 1 24:={}
instance:aQ Tryz.prog 201 #[.slice none 0 0]:={}
instance:aO Tryz.prog 202 0 0:={}
instance:aO Tryz.prog 202 1 1:={}
instance:ak Tryz.prog 202 true 2:={}
instance:aQ Tryz.prog 202 #[.slice none 0 0,.slice none 0 0]:={}
instance:aO Tryz.prog 203 0 0:={}
instance:aO Tryz.prog 203 1 1:={}
instance:ak Tryz.prog 203 true 2:={}
instance:aQ Tryz.prog 203 #[.slice none 0 0,.slice none 0 0]:={}
instance:aO Tryz.prog 207 0 0:={}
instance:aO Tryz.prog 207 1 1:={}
instance:aO Tryz.prog 207 2 2:={}
instance:aO Tryz.prog 207 3 4:={}
instance:ak Tryz.prog 207 true 6:={}
instance:aQ Tryz.prog 207 #[.int .i64 0,.int .i64 0,.int .i64 0,.int .i64 0,.int .i64 0,.int .i64 0]:={}
instance:aO Tryz.prog 208 0 0:={}
instance:aO Tryz.prog 208 1 1:={}
instance:aO Tryz.prog 208 2 2:={}
instance:aO Tryz.prog 208 3 4:={}
instance:ak Tryz.prog 208 true 6:={}
instance:aQ Tryz.prog 208 #[.int .i64 0,.int .i64 0,.int .i64 0,.int .i64 0,.int .i64 0,.int .i64 0]:={}
instance:aT Tryz.prog 213 (.pointer 215):=⟨Tryz.underlying213⟩
instance:ak Tryz.prog 213 false 1:={}
instance:aQ Tryz.prog 213 #[.pointer none]:={}
instance:aO Tryz.prog 214 0 0:={}
instance:aO Tryz.prog 214 1 266:={}
instance:ak Tryz.prog 214 true 270:={}
instance:aQ Tryz.prog 214 (([.slice none 0 0]:List Value)++List.replicate 256 (.int .u8 0:Value)++([.slice none 0 0,.slice none 0 0,.int .i64 0,.int .i64 0,.slice none 0 0,.int .i64 0,.slice none 0 0,.slice none 0 0,.slice none 0 0,.slice none 0 0,.int .i64 0,.int .i64 0,.bool false]:List Value)).toArray:={}
instance:aO Tryz.prog 215 0 0:={}
instance:aO Tryz.prog 215 1 266:={}
instance:ak Tryz.prog 215 true 270:={}
instance:aQ Tryz.prog 215 (([.slice none 0 0]:List Value)++List.replicate 256 (.int .u8 0:Value)++([.slice none 0 0,.slice none 0 0,.int .i64 0,.int .i64 0,.slice none 0 0,.int .i64 0,.slice none 0 0,.slice none 0 0,.slice none 0 0,.slice none 0 0,.int .i64 0,.int .i64 0,.bool false]:List Value)).toArray:={}
instance:aT Tryz.prog 216 (.pointer 218):=⟨Tryz.underlying216⟩
instance:ak Tryz.prog 216 false 1:={}
instance:aQ Tryz.prog 216 #[.pointer none]:={}
instance:aO Tryz.prog 217 0 0:={}
instance:aO Tryz.prog 217 1 266:={}
instance:ak Tryz.prog 217 true 270:={}
instance:aQ Tryz.prog 217 (([.slice none 0 0]:List Value)++List.replicate 256 (.int .u8 0:Value)++([.slice none 0 0,.slice none 0 0,.int .i64 0,.int .i64 0,.slice none 0 0,.int .i64 0,.slice none 0 0,.slice none 0 0,.slice none 0 0,.slice none 0 0,.int .i64 0,.int .i64 0,.bool false]:List Value)).toArray:={}
instance:aO Tryz.prog 218 0 0:={}
instance:aO Tryz.prog 218 1 266:={}
instance:ak Tryz.prog 218 true 270:={}
instance:aQ Tryz.prog 218 (([.slice none 0 0]:List Value)++List.replicate 256 (.int .u8 0:Value)++([.slice none 0 0,.slice none 0 0,.int .i64 0,.int .i64 0,.slice none 0 0,.int .i64 0,.slice none 0 0,.slice none 0 0,.slice none 0 0,.slice none 0 0,.int .i64 0,.int .i64 0,.bool false]:List Value)).toArray:={}
instance:aT Tryz.prog 222 (.pointer 224):=⟨Tryz.underlying222⟩
instance:ak Tryz.prog 222 false 1:={}
instance:aQ Tryz.prog 222 #[.pointer none]:={}
instance:aO Tryz.prog 223 0 0:={}
instance:aO Tryz.prog 223 1 3:={}
instance:aO Tryz.prog 223 2 4:={}
instance:ak Tryz.prog 223 true 5:={}
instance:aQ Tryz.prog 223 #[.int .i64 0,.int .i64 0,.slice none 0 0,.int .i64 0,.int .i64 0]:={}
instance:aO Tryz.prog 224 0 0:={}
instance:aO Tryz.prog 224 1 3:={}
instance:aO Tryz.prog 224 2 4:={}
instance:ak Tryz.prog 224 true 5:={}
instance:aQ Tryz.prog 224 #[.int .i64 0,.int .i64 0,.slice none 0 0,.int .i64 0,.int .i64 0]:={}
instance:aO Tryz.prog 230 0 0:={}
instance:aO Tryz.prog 230 1 1:={}
instance:aO Tryz.prog 230 2 2:={}
instance:ak Tryz.prog 230 true 4:={}
instance:aQ Tryz.prog 230 #[.bool false,.int .i64 0,.int .i64 0,.int .i64 0]:={}
instance:aO Tryz.prog 231 0 0:={}
instance:aO Tryz.prog 231 1 1:={}
instance:aO Tryz.prog 231 2 2:={}
instance:ak Tryz.prog 231 true 4:={}
instance:aQ Tryz.prog 231 #[.bool false,.int .i64 0,.int .i64 0,.int .i64 0]:={}
instance:aT Tryz.prog 240 (.pointer 242):=⟨Tryz.underlying240⟩
instance:ak Tryz.prog 240 false 1:={}
instance:aQ Tryz.prog 240 #[.pointer none]:={}
instance:aO Tryz.prog 241 0 0:={}
instance:aO Tryz.prog 241 1 6:={}
instance:ak Tryz.prog 241 true 7:={}
instance:aQ Tryz.prog 241 #[.slice none 0 0,.slice none 0 0,.slice none 0 0,.slice none 0 0,.slice none 0 0,.slice none 0 0,.int .i64 0]:={}
instance:aO Tryz.prog 242 0 0:={}
instance:aO Tryz.prog 242 1 6:={}
instance:ak Tryz.prog 242 true 7:={}
instance:aQ Tryz.prog 242 #[.slice none 0 0,.slice none 0 0,.slice none 0 0,.slice none 0 0,.slice none 0 0,.slice none 0 0,.int .i64 0]:={}
instance:aO Tryz.prog 243 0 0:={}
instance:aO Tryz.prog 243 1 1:={}
instance:aO Tryz.prog 243 2 2:={}
instance:ak Tryz.prog 243 true 3:={}
instance:aQ Tryz.prog 243 #[.bool false,.slice none 0 0,.slice none 0 0]:={}
instance:aO Tryz.prog 244 0 0:={}
instance:aO Tryz.prog 244 1 1:={}
instance:aO Tryz.prog 244 2 2:={}
instance:ak Tryz.prog 244 true 3:={}
instance:aQ Tryz.prog 244 #[.bool false,.slice none 0 0,.slice none 0 0]:={}
instance:aT Tryz.prog 247 (.map 9 148):=⟨Tryz.underlying247⟩
instance:ak Tryz.prog 247 false 1:={}
instance:aQ Tryz.prog 247 #[.map none]:={}
instance:aT Tryz.prog 250 (.pointer 254):=⟨Tryz.underlying250⟩
instance:ak Tryz.prog 250 false 1:={}
instance:aQ Tryz.prog 250 #[.pointer none]:={}
instance:aT Tryz.prog 251 (.slice 303):=⟨Tryz.underlying251⟩
instance:ak Tryz.prog 251 false 1:={}
instance:mX Tryz.prog 251 303 4 32:={}
instance:aQ Tryz.prog 251 #[.slice none 0 0]:={}
instance:aT Tryz.prog 252 (.map 303 3):=⟨Tryz.underlying252⟩
instance:ak Tryz.prog 252 false 1:={}
instance:aQ Tryz.prog 252 #[.map none]:={}
instance:aO Tryz.prog 253 0 0:={}
instance:aO Tryz.prog 253 1 6:={}
instance:aO Tryz.prog 253 2 7:={}
instance:aO Tryz.prog 253 3 8:={}
instance:ak Tryz.prog 253 true 10:={}
instance:aQ Tryz.prog 253 #[.slice none 0 0,.slice none 0 0,.slice none 0 0,.slice none 0 0,.slice none 0 0,.slice none 0 0,.slice none 0 0,.map none,.slice none 0 0,.slice none 0 0]:={}
instance:aO Tryz.prog 254 0 0:={}
instance:aO Tryz.prog 254 1 6:={}
instance:aO Tryz.prog 254 2 7:={}
instance:aO Tryz.prog 254 3 8:={}
instance:ak Tryz.prog 254 true 10:={}
instance:aQ Tryz.prog 254 #[.slice none 0 0,.slice none 0 0,.slice none 0 0,.slice none 0 0,.slice none 0 0,.slice none 0 0,.slice none 0 0,.map none,.slice none 0 0,.slice none 0 0]:={}
instance:aT Tryz.prog 255 (.int .i16):=⟨Tryz.underlying255⟩
instance:ak Tryz.prog 255 false 1:={}
instance:aQ Tryz.prog 255 #[.int .i16 0]:={}
instance:aT Tryz.prog 256 (.array 256 255):=⟨Tryz.underlying256⟩
instance:ak Tryz.prog 256 true 256:={}
instance:aQ Tryz.prog 256 (List.replicate 256 (.int .i16 0:Value)).toArray:={}
instance:aT Tryz.prog 257 (.array 256 255):=⟨Tryz.underlying257⟩
instance:ak Tryz.prog 257 true 256:={}
instance:aQ Tryz.prog 257 (List.replicate 256 (.int .i16 0:Value)).toArray:={}
instance:aT Tryz.prog 262 (.map 263 3):=⟨Tryz.underlying262⟩
instance:ak Tryz.prog 262 false 1:={}
instance:aQ Tryz.prog 262 #[.map none]:={}
instance:aT Tryz.prog 263 (.array 200 255):=⟨Tryz.underlying263⟩
instance:ak Tryz.prog 263 true 200:={}
instance:aQ Tryz.prog 263 (List.replicate 200 (.int .i16 0:Value)).toArray:={}
instance:aT Tryz.prog 271 (.pointer 314):=⟨Tryz.underlying271⟩
instance:ak Tryz.prog 271 false 1:={}
instance:aQ Tryz.prog 271 #[.pointer none]:={}
instance:aT Tryz.prog 273 (.slice 278):=⟨Tryz.underlying273⟩
instance:ak Tryz.prog 273 false 1:={}
instance:mX Tryz.prog 273 278 3 24:={}
instance:aQ Tryz.prog 273 #[.slice none 0 0]:={}
instance:aO Tryz.prog 277 0 0:={}
instance:aO Tryz.prog 277 1 1:={}
instance:aO Tryz.prog 277 2 2:={}
instance:ak Tryz.prog 277 true 3:={}
instance:aQ Tryz.prog 277 #[.int .i64 0,.int .i64 0,.int .i64 0]:={}
instance:aO Tryz.prog 278 0 0:={}
instance:aO Tryz.prog 278 1 1:={}
instance:aO Tryz.prog 278 2 2:={}
instance:ak Tryz.prog 278 true 3:={}
instance:aQ Tryz.prog 278 #[.int .i64 0,.int .i64 0,.int .i64 0]:={}
instance:aT Tryz.prog 281 (.int .u64):=⟨Tryz.underlying281⟩
instance:ak Tryz.prog 281 false 1:={}
instance:aQ Tryz.prog 281 #[.int .u64 0]:={}
instance:aT Tryz.prog 303 (.array 4 114):=⟨Tryz.underlying303⟩
instance:ak Tryz.prog 303 true 4:={}
instance:aQ Tryz.prog 303 #[.int .u64 0,.int .u64 0,.int .u64 0,.int .u64 0]:={}
instance:aT Tryz.prog 308 (.map 310 3):=⟨Tryz.underlying308⟩
instance:ak Tryz.prog 308 false 1:={}
instance:aQ Tryz.prog 308 #[.map none]:={}
instance:aO Tryz.prog 309 0 0:={}
instance:aO Tryz.prog 309 1 1:={}
instance:ak Tryz.prog 309 true 257:={}
instance:aQ Tryz.prog 309 (([.int .i64 0]:List Value)++List.replicate 256 (.int .i16 0:Value)).toArray:={}
instance:aO Tryz.prog 310 0 0:={}
instance:aO Tryz.prog 310 1 1:={}
instance:ak Tryz.prog 310 true 257:={}
instance:aQ Tryz.prog 310 (([.int .i64 0]:List Value)++List.replicate 256 (.int .i16 0:Value)).toArray:={}
instance:aT Tryz.prog 312 (.map 340 114):=⟨Tryz.underlying312⟩
instance:ak Tryz.prog 312 false 1:={}
instance:aQ Tryz.prog 312 #[.map none]:={}
instance:aO Tryz.prog 313 0 0:={}
instance:aO Tryz.prog 313 1 3:={}
instance:ak Tryz.prog 313 true 4:={}
instance:aQ Tryz.prog 313 #[.int .i64 0,.int .i64 0,.slice none 0 0,.map none]:={}
instance:aO Tryz.prog 314 0 0:={}
instance:aO Tryz.prog 314 1 3:={}
instance:ak Tryz.prog 314 true 4:={}
instance:aQ Tryz.prog 314 #[.int .i64 0,.int .i64 0,.slice none 0 0,.map none]:={}
instance:aT Tryz.prog 315 (.slice 5):=⟨Tryz.underlying315⟩
instance:ak Tryz.prog 315 false 1:={}
instance:mX Tryz.prog 315 5 1 1:={}
instance:aQ Tryz.prog 315 #[.slice none 0 0]:={}
instance:aT Tryz.prog 316 (.map 278 3):=⟨Tryz.underlying316⟩
instance:ak Tryz.prog 316 false 1:={}
instance:aQ Tryz.prog 316 #[.map none]:={}
instance:aT Tryz.prog 325 (.pointer 329):=⟨Tryz.underlying325⟩
instance:ak Tryz.prog 325 false 1:={}
instance:aQ Tryz.prog 325 #[.pointer none]:={}
instance:aO Tryz.prog 328 0 0:={}
instance:aO Tryz.prog 328 1 3:={}
instance:aO Tryz.prog 328 2 4:={}
instance:aO Tryz.prog 328 3 5:={}
instance:ak Tryz.prog 328 true 6:={}
instance:aQ Tryz.prog 328 #[.int .i64 0,.int .i64 0,.slice none 0 0,.slice none 0 0,.slice none 0 0,.int .i64 0]:={}
instance:aO Tryz.prog 329 0 0:={}
instance:aO Tryz.prog 329 1 3:={}
instance:aO Tryz.prog 329 2 4:={}
instance:aO Tryz.prog 329 3 5:={}
instance:ak Tryz.prog 329 true 6:={}
instance:aQ Tryz.prog 329 #[.int .i64 0,.int .i64 0,.slice none 0 0,.slice none 0 0,.slice none 0 0,.int .i64 0]:={}
instance:aT Tryz.prog 338 (.pointer 303):=⟨Tryz.underlying338⟩
instance:ak Tryz.prog 338 false 1:={}
instance:aQ Tryz.prog 338 #[.pointer none]:={}
instance:aO Tryz.prog 339 0 0:={}
instance:aO Tryz.prog 339 1 1:={}
instance:ak Tryz.prog 339 true 2:={}
instance:aQ Tryz.prog 339 #[.int .i64 0,.int .i64 0]:={}
instance:aO Tryz.prog 340 0 0:={}
instance:aO Tryz.prog 340 1 1:={}
instance:ak Tryz.prog 340 true 2:={}
instance:aQ Tryz.prog 340 #[.int .i64 0,.int .i64 0]:={}
instance:aT Tryz.prog 353 (.int .i64):=⟨Tryz.underlying353⟩
instance:ak Tryz.prog 353 false 1:={}
instance:aQ Tryz.prog 353 #[.int .i64 0]:={}
instance:aT Tryz.prog 360 (.int .u32):=⟨Tryz.underlying360⟩
instance:ak Tryz.prog 360 false 1:={}
instance:aQ Tryz.prog 360 #[.int .u32 0]:={}
instance:aT Tryz.prog 369 (.int .u64):=⟨Tryz.underlying369⟩
instance:ak Tryz.prog 369 false 1:={}
instance:aQ Tryz.prog 369 #[.int .u64 0]:={}
instance:aT Tryz.prog 376 (.pointer 369):=⟨Tryz.underlying376⟩
instance:ak Tryz.prog 376 false 1:={}
instance:aQ Tryz.prog 376 #[.pointer none]:={}
instance:aT Tryz.prog 389 (.pointer 5):=⟨Tryz.underlying389⟩
instance:ak Tryz.prog 389 false 1:={}
instance:aQ Tryz.prog 389 #[.pointer none]:={}
instance:aO Tryz.prog 392 0 0:={}
instance:aO Tryz.prog 392 1 1:={}
instance:aO Tryz.prog 392 2 2:={}
instance:aO Tryz.prog 392 3 3:={}
instance:aO Tryz.prog 392 4 4:={}
instance:aO Tryz.prog 392 5 5:={}
instance:aO Tryz.prog 392 6 6:={}
instance:aO Tryz.prog 392 7 7:={}
instance:aO Tryz.prog 392 8 8:={}
instance:aO Tryz.prog 392 9 9:={}
instance:aO Tryz.prog 392 10 10:={}
instance:ak Tryz.prog 392 true 11:={}
instance:aQ Tryz.prog 392 #[.int .u64 0,.int .u64 0,.int .u32 0,.int .u8 0,.int .u8 0,.int .u8 0,.int .u8 0,.nilFunc,.pointer none,.int .i32 0,.int .i32 0]:={}
instance:aj Tryz.prog 3:={}
instance:aj Tryz.prog 4:={}
instance:aj Tryz.prog 5:={}
instance:aj Tryz.prog 6:={}
instance:aj Tryz.prog 7:={}
instance:aj Tryz.prog 8:={}
instance:aj Tryz.prog 9:={}
instance:aj Tryz.prog 10:={}
instance:aj Tryz.prog 11:={}
instance:aj Tryz.prog 12:={}
instance:aj Tryz.prog 13:={}
instance:aj Tryz.prog 14:={}
instance:aj Tryz.prog 15:={}
instance:aj Tryz.prog 16:={}
instance:aj Tryz.prog 17:={}
instance:aj Tryz.prog 18:={}
instance:aj Tryz.prog 19:={}
instance:aj Tryz.prog 20:={}
instance:aj Tryz.prog 21:={}
instance:aj Tryz.prog 22:={}
instance:aj Tryz.prog 23:={}
instance:aj Tryz.prog 24:={}
instance:aj Tryz.prog 25:={}
instance:aj Tryz.prog 26:={}
instance:aj Tryz.prog 27:={}
instance:aj Tryz.prog 28:={}
instance:aj Tryz.prog 29:={}
instance:aj Tryz.prog 30:={}
instance:aj Tryz.prog 31:={}
instance:aj Tryz.prog 32:={}
instance:aj Tryz.prog 33:={}
instance:aj Tryz.prog 34:={}
instance:aj Tryz.prog 35:={}
instance:aj Tryz.prog 36:={}
instance:aj Tryz.prog 37:={}
instance:aj Tryz.prog 38:={}
instance:aj Tryz.prog 39:={}
instance:aj Tryz.prog 40:={}
instance:aj Tryz.prog 41:={}
instance:aj Tryz.prog 42:={}
instance:aj Tryz.prog 43:={}
instance:aj Tryz.prog 44:={}
instance:aj Tryz.prog 45:={}
instance:aj Tryz.prog 46:={}
instance:aj Tryz.prog 47:={}
instance:aj Tryz.prog 48:={}
instance:aj Tryz.prog 49:={}
instance:aj Tryz.prog 50:={}
instance:aj Tryz.prog 51:={}
instance:aj Tryz.prog 52:={}
instance:aj Tryz.prog 53:={}
instance:aj Tryz.prog 54:={}
instance:aj Tryz.prog 55:={}
instance:aj Tryz.prog 56:={}
instance:aj Tryz.prog 57:={}
instance:aj Tryz.prog 58:={}
instance:aj Tryz.prog 59:={}
instance:aj Tryz.prog 60:={}
instance:aj Tryz.prog 61:={}
instance:aj Tryz.prog 62:={}
instance:aj Tryz.prog 63:={}
instance:aj Tryz.prog 64:={}
instance:aj Tryz.prog 65:={}
instance:aj Tryz.prog 66:={}
instance:aj Tryz.prog 67:={}
instance:aj Tryz.prog 68:={}
instance:aj Tryz.prog 69:={}
instance:aj Tryz.prog 70:={}
instance:aj Tryz.prog 71:={}
instance:aj Tryz.prog 72:={}
instance:aj Tryz.prog 73:={}
instance:aj Tryz.prog 74:={}
instance:aj Tryz.prog 75:={}
instance:aj Tryz.prog 76:={}
instance:aj Tryz.prog 77:={}
instance:aj Tryz.prog 78:={}
instance:aj Tryz.prog 79:={}
instance:aj Tryz.prog 80:={}
instance:aj Tryz.prog 81:={}
instance:aj Tryz.prog 82:={}
instance:aj Tryz.prog 83:={}
instance:aj Tryz.prog 84:={}
instance:aj Tryz.prog 85:={}
instance:aj Tryz.prog 86:={}
instance:aj Tryz.prog 87:={}
instance:aj Tryz.prog 88:={}
instance:aj Tryz.prog 89:={}
instance:aj Tryz.prog 90:={}
instance:aj Tryz.prog 91:={}
instance:aj Tryz.prog 92:={}
instance:aj Tryz.prog 93:={}
instance:aj Tryz.prog 94:={}
instance:aj Tryz.prog 95:={}
instance:aj Tryz.prog 96:={}
instance:aj Tryz.prog 97:={}
instance:aj Tryz.prog 98:={}
instance:aj Tryz.prog 99:={}
instance:aj Tryz.prog 100:={}
instance:aj Tryz.prog 101:={}
instance:aj Tryz.prog 102:={}
instance:aj Tryz.prog 103:={}
instance:aj Tryz.prog 104:={}
instance:aj Tryz.prog 105:={}
instance:aj Tryz.prog 106:={}
instance:aj Tryz.prog 107:={}
instance:aj Tryz.prog 108:={}
instance:aj Tryz.prog 109:={}
instance:aj Tryz.prog 110:={}
instance:aj Tryz.prog 111:={}
instance:aj Tryz.prog 112:={}
instance:aj Tryz.prog 113:={}
instance:aj Tryz.prog 114:={}
instance:aj Tryz.prog 115:={}
instance:aj Tryz.prog 116:={}
instance:aj Tryz.prog 117:={}
instance:aj Tryz.prog 118:={}
instance:aj Tryz.prog 119:={}
instance:aj Tryz.prog 120:={}
instance:aj Tryz.prog 121:={}
instance:aj Tryz.prog 122:={}
instance:aj Tryz.prog 123:={}
instance:aj Tryz.prog 124:={}
instance:aj Tryz.prog 125:={}
instance:aj Tryz.prog 126:={}
instance:aj Tryz.prog 127:={}
instance:aj Tryz.prog 128:={}
instance:aj Tryz.prog 129:={}
instance:aj Tryz.prog 130:={}
instance:aj Tryz.prog 131:={}
instance:aj Tryz.prog 132:={}
instance:aj Tryz.prog 133:={}
instance:aj Tryz.prog 134:={}
instance:aj Tryz.prog 135:={}
instance:aj Tryz.prog 136:={}
instance:aj Tryz.prog 137:={}
instance:aj Tryz.prog 138:={}
instance:aj Tryz.prog 139:={}
instance:aj Tryz.prog 140:={}
instance:aj Tryz.prog 141:={}
instance:aj Tryz.prog 142:={}
instance:aj Tryz.prog 143:={}
instance:aj Tryz.prog 144:={}
instance:aj Tryz.prog 145:={}
instance:aj Tryz.prog 146:={}
instance:aj Tryz.prog 147:={}
instance:aj Tryz.prog 148:={}
instance:aj Tryz.prog 149:={}
instance:aj Tryz.prog 150:={}
instance:aj Tryz.prog 151:={}
instance:aj Tryz.prog 152:={}
instance:aj Tryz.prog 153:={}
instance:aj Tryz.prog 154:={}
instance:aj Tryz.prog 155:={}
instance:aj Tryz.prog 156:={}
instance:aj Tryz.prog 157:={}
instance:aj Tryz.prog 158:={}
instance:aj Tryz.prog 159:={}
instance:aj Tryz.prog 160:={}
instance:aj Tryz.prog 161:={}
instance:aj Tryz.prog 162:={}
instance:aj Tryz.prog 163:={}
instance:aj Tryz.prog 164:={}
instance:aj Tryz.prog 165:={}
instance:aj Tryz.prog 166:={}
instance:aj Tryz.prog 167:={}
instance:aj Tryz.prog 168:={}
instance:aj Tryz.prog 169:={}
instance:aj Tryz.prog 170:={}
instance:aj Tryz.prog 171:={}
instance:aj Tryz.prog 172:={}
instance:aj Tryz.prog 173:={}
instance:aj Tryz.prog 174:={}
instance:aj Tryz.prog 175:={}
instance:aj Tryz.prog 176:={}
instance:aj Tryz.prog 177:={}
instance:aj Tryz.prog 178:={}
instance:aj Tryz.prog 179:={}
instance:aj Tryz.prog 180:={}
instance:aj Tryz.prog 181:={}
instance:aj Tryz.prog 182:={}
instance:aj Tryz.prog 183:={}
instance:aj Tryz.prog 184:={}
instance:aj Tryz.prog 185:={}
instance:aj Tryz.prog 186:={}
instance:aj Tryz.prog 187:={}
instance:aj Tryz.prog 188:={}
instance:aj Tryz.prog 189:={}
instance:aj Tryz.prog 190:={}
instance:aj Tryz.prog 191:={}
instance:aj Tryz.prog 192:={}
instance:aj Tryz.prog 193:={}
instance:aj Tryz.prog 194:={}
instance:aj Tryz.prog 195:={}
instance:aj Tryz.prog 196:={}
instance:aj Tryz.prog 197:={}
instance:aj Tryz.prog 198:={}
instance:aj Tryz.prog 199:={}
instance:aj Tryz.prog 200:={}
instance:aj Tryz.prog 201:={}
instance:aj Tryz.prog 202:={}
instance:aj Tryz.prog 203:={}
instance:aj Tryz.prog 204:={}
instance:aj Tryz.prog 205:={}
instance:aj Tryz.prog 206:={}
instance:aj Tryz.prog 207:={}
instance:aj Tryz.prog 208:={}
instance:aj Tryz.prog 209:={}
instance:aj Tryz.prog 210:={}
instance:aj Tryz.prog 211:={}
instance:aj Tryz.prog 212:={}
instance:aj Tryz.prog 213:={}
instance:aj Tryz.prog 214:={}
instance:aj Tryz.prog 215:={}
instance:aj Tryz.prog 216:={}
instance:aj Tryz.prog 217:={}
instance:aj Tryz.prog 218:={}
instance:aj Tryz.prog 219:={}
instance:aj Tryz.prog 235:={}
instance:aj Tryz.prog 236:={}
instance:aj Tryz.prog 237:={}
instance:aj Tryz.prog 238:={}
end bK
namespace bK
open Go.RowKit bO dc
theorem fin{P:Program}{f:FuncId}{args:Array Value}{w:World}(h:Calls P f args w (bM (ret (.bool true)) w)):Calls P f args w fun e w'=>e= .returned (.bool true)/\Below w.heap.size w w':=h.mono fun _ _ h=>xt h
end bK
namespace bW
def ez(x:BitVec 64):Int:=x.toNat
abbrev v64(x:BitVec 64):Value:= .int .u64 (ez x)
theorem VS(x:BitVec 64):0<=ez x:=by unfold ez;omega
theorem VT(x:BitVec 64):ez x<=18446744073709551615:=by have:=x.isLt;unfold ez;omega
theorem kU{x y:BitVec 64}(h:ez x=ez y):x=y:=by
 apply BitVec.eq_of_toNat_eq;unfold ez at h;omega
theorem VU(x y:BitVec 64):(ez x==ez y)=(x==y):=by
 by_cases h:x=y
 ·subst h;simp
 ·have:ez x≠ez y:=fun e=>h (kU e)
  rw[beq_eq_false_iff_ne.2 this,beq_eq_false_iff_ne.2 h]
theorem wrap64(x:BitVec 64):IntKind.u64.wrap (ez x)=ez x:=by
 have:=x.isLt;unfold ez;rw[IntKind.wrap_u64];omega
theorem ofInt64(x:BitVec 64):BitVec.ofInt 64 (ez x)=x:=by
 apply BitVec.eq_of_toNat_eq;simp[ez]
theorem Yw(x y:BitVec 64):bits .and .u64 (ez x) (ez y)=ez (x&&&y):=by
 unfold bits;simp only[IntKind.bits,ofInt64];exact wrap64 _
theorem aaO(x y:BitVec 64):bits .or .u64 (ez x) (ez y)=ez (x|||y):=by
 unfold bits;simp only[IntKind.bits,ofInt64];exact wrap64 _
theorem UI(x y:BitVec 64):bits .xor .u64 (ez x) (ez y)=ez (x^^^y):=by
 unfold bits;simp only[IntKind.bits,ofInt64];exact wrap64 _
theorem Yx(x:BitVec 64):bits .xor .u64 IntKind.u64.max (ez x)=ez (~~~ x):=by
 have h:=UI (BitVec.allOnes 64) x;rw[BitVec.allOnes_xor]at h;rw[<-h];rfl
theorem KZ(b:Nat)(h:b<4294967296):bits .and .i64 (b:Int) 63=((b %64:Nat):Int):=by
 have e1:BitVec.ofInt 64 (b:Int)=BitVec.ofNat 64 b:=by simp
 have e2:(BitVec.ofNat 64 b&&&63#64).toNat=b %64:=by
  rw[BitVec.toNat_and,BitVec.toNat_ofNat,Nat.mod_eq_of_lt (by omega:b<2^64)];exact Nat.and_two_pow_sub_one_eq_mod b 6
 have e3:bits .and .i64 (b:Int) 63=IntKind.i64.wrap (((BitVec.ofNat 64 b&&&63#64).toNat:Nat):Int):=by
  unfold bits;simp only[IntKind.bits,e1];rfl
 rw[e3,e2,IntKind.wrap_i64];omega
theorem RX(k:Nat)(h:k<64):IntKind.u64.wrap ((2:Int)^k)=ez (BitVec.ofNat 64 (2^k)):=by
 have this:2^k<2^64:=Nat.pow_lt_pow_right (by decide) h;unfold ez;rw[BitVec.toNat_ofNat,Nat.mod_eq_of_lt this,IntKind.wrap_u64];have e:(2:Int)^k=((2^k:Nat):Int):=by simp
 rw[e];generalize 2^k=m at*;omega
structure C4 where
 a:BitVec 64
 b:BitVec 64
 c:BitVec 64
 d:BitVec 64
 deriving DecidableEq
def C4.get(x:C4)(i:Nat):BitVec 64:=if i=0 then x.a else if i=1 then x.b else if i=2 then x.c else x.d
def C4.set(x:C4)(i:Nat)(v:BitVec 64):C4:=if i=0 then {x with a:=v}else if i=1 then {x with b:=v}else if i=2 then {x with c:=v}else {x with d:=v}
def C4.zero:C4:=⟨0,0,0,0⟩
def C4.NM(x y:C4):C4:=⟨x.a&&&y.a,x.b&&&y.b,x.c&&&y.c,x.d&&&y.d⟩
def C4.not(x:C4):C4:=⟨~~~x.a,~~~x.b,~~~x.c,~~~x.d⟩
def cZ(x:C4):List Value:=[.int .u64 (ez x.a),.int .u64 (ez x.b),.int .u64 (ez x.c),.int .u64 (ez x.d)]
def kV(x:C4):Value:= .agg #[.int .u64 (ez x.a),.int .u64 (ez x.b),.int .u64 (ez x.c),.int .u64 (ez x.d)]
theorem NN(x:C4)(i:Nat)(h:i<4):(cZ x)[i]?=some (v64 (x.get i)):=by
 match i,h with
 |0,_=>rfl
 |1,_=>rfl
 |2,_=>rfl
 |3,_=>rfl
theorem NO(x:C4)(i:Nat)(h:i<4)(v:BitVec 64):(cZ x).set i (v64 v)=cZ (x.set i v):=by
 match i,h with
 |0,_=>rfl
 |1,_=>rfl
 |2,_=>rfl
 |3,_=>rfl
def C4.bit(x:C4)(n:Nat):C4:=x.set (n/64) (x.get (n/64)|||BitVec.ofNat 64 (2^(n %64)))
def C4.hJ(x:C4)(b:Nat):Nat->C4
 |0=>x
 |n+1=>(C4.hJ x b n).bit (b+n)
theorem NP(x:C4)(b n:Nat):(C4.hJ x b n).set ((b+n)/64) ((C4.hJ x b n).get ((b+n)/64)|||BitVec.ofNat 64 (2^((b+n) %64)))=C4.hJ x b (n+1):=rfl
def dP(lo hi:Int):C4:=C4.hJ C4.zero (max lo 0).toNat (min hi 255+1-max lo 0).toNat
theorem C4.ext'{x y:C4}(h1:x.a=y.a)(h2:x.b=y.b)(h3:x.c=y.c)(h4:x.d=y.d):x=y:=by
 cases x;cases y;simp_all
theorem b5(p q:Bool):(p||(p&&q))=p:=by cases p<;>cases q<;>rfl
end bW
namespace bW
def b8(b:Nat):Nat:=((b/4)&&&51)+(b&&&51)
def c8(b:Nat):Nat:=(b/16+b)&&&15
theorem k1:∀t<2,∀c<128,(c+128*t)&&&85=c&&&85:=by decide+kernel
theorem k2:∀t<4,∀c<64,(c+64*t)&&&51=c&&&51:=by decide+kernel
theorem k3:∀t<5,∀p<5,∀q<5,(p+(q+16*p)+16*t)&&&15=c8 (q+16*p):=by decide+kernel
def s1(x:Nat):Nat:=((x/2)&&&6148914691236517205)+(x&&&6148914691236517205)
def s2(x:Nat):Nat:=((x/4)&&&3689348814741910323)+(x&&&3689348814741910323)
def s3(x:Nat):Nat:=(x/16+x)&&&1085102592571150095
def s4(x:Nat):Nat:=x+x/256
def s5(x:Nat):Nat:=x+x/65536
def s6(x:Nat):Nat:=x+x/4294967296
end bW
namespace bW
def C4.mem(x:C4)(n:Nat):Bool:=(x.get (n/64)).toNat.testBit (n %64)
def rF(x:C4):List Nat:=(List.range 256).filter x.mem
def Rn(x:C4):Nat:=(rF x).length
theorem get_mem(x:C4)(n:Nat):x.mem n=(x.get (n/64)).getLsbD (n %64):=by
 unfold C4.mem;rw[BitVec.getLsbD]
theorem D4(n:Nat):C4.zero.mem n=false:=by
 rw[get_mem];have:C4.zero.get (n/64)=0:=by unfold C4.get C4.zero;split;rfl;split;rfl;split<;>rfl
 rw[this];simp
theorem ext_mem{x y:C4}(h:∀n,n<256->x.mem n=y.mem n):x=y:=by
 have w:∀i,i<4->x.get i=y.get i:=fun i hi=>by
  apply BitVec.eq_of_getLsbD_eq;intro j hj;have:=h (64*i+j) (by omega);rw[get_mem,get_mem,show(64*i+j)/64=i by omega,show(64*i+j) %64=j by omega]at this;exact this
 exact C4.ext' (w 0 (by decide)) (w 1 (by decide)) (w 2 (by decide)) (w 3 (by decide))
theorem K0{x:C4}{n:Nat}:n∈rF x↔n<256/\x.mem n=true:=by
 unfold rF;rw[List.mem_filter,List.mem_range]
end bW
namespace eG
open bW
inductive Rx where
 |mk (kind:Int) (c:C4) (kids:List Rx)
def Rx.kind:Rx->Int| .mk k _ _=>k
def Rx.pA:Rx->C4| .mk _ c _=>c
def Rx.kids:Rx->List Rx| .mk _ _ l=>l
def xB(k:Int):Int:=if k=1 then 0 else if k=2 then 0 else if k=3 then 0 else if k=6 then 1 else if k=4 then 2 else if k=5 then 2 else-1
mutual
def iL:Rx->Nat->Nat->Int×Nat
 | .mk k c l,deep,n=>if 100<n+1 then(2,n+1)else if 30<deep then(7,n+1)else if xB k≠(l.length:Int)then(1,n+1)else if(decide (k=3) !=decide (c≠C4.zero))=true then(1,n+1)else wg l (deep+1) (n+1)
def wg:List Rx->Nat->Nat->Int×Nat
 |[],_,n=>(0,n)
 |r::l,deep,n=>if(iL r deep n).1≠0 then iL r deep n else wg l deep (iL r deep n).2
end
mutual
def oK:Rx->Nat
 | .mk _ _ l=>nR l+1
def nR:List Rx->Nat
 |[]=>0
 |r::l=>oK r+nR l
end
theorem AC(r:Rx):0<oK r:=by obtain⟨k,c,l⟩:=r;rw[oK];omega
theorem xC:∀{l:List Rx} {r:Rx},r∈l->oK r<=nR l
 |x::l,r,h=>by
  rw[nR];rcases List.mem_cons.1 h with rfl|h
  ·omega
  ·have:=xC h;omega
inductive Re where
 |none
 |empty
 |byte (c:C4)
 |B2 (a b:Re)
 |B3 (a b:Re)
 |star (a:Re)
def Re.size:Re->Nat
 | .B2 a b=>a.size+b.size+1
 | .B3 a b=>a.size+b.size+1
 | .star a=>a.size+1
 |_=>1
def Re.K1:Re->Nat
 | .B2 a b=>max a.K1 b.K1+1
 | .B3 a b=>max a.K1 b.K1+1
 | .star a=>a.K1+1
 |_=>1
def Re.nz:Re->Prop
 | .byte c=>c≠C4.zero
 | .B2 a b=>a.nz/\b.nz
 | .B3 a b=>a.nz/\b.nz
 | .star a=>a.nz
 |_=>True
def Re.kind:Re->Int
 | .none=>1
 | .empty=>2
 | .byte _=>3
 | .B2 _ _=>4
 | .B3 _ _=>5
 | .star _=>6
def Re.pA:Re->C4
 | .byte c=>c
 |_=>C4.zero
def Re.kids:Re->List Re
 | .B2 a b=>[a,b]
 | .B3 a b=>[a,b]
 | .star a=>[a]
 |_=>[]
def jf:Re->Rx
 | .none=> .mk 1 C4.zero []
 | .empty=> .mk 2 C4.zero []
 | .byte c=> .mk 3 c []
 | .B2 a b=> .mk 4 C4.zero [jf a,jf b]
 | .B3 a b=> .mk 5 C4.zero [jf a,jf b]
 | .star a=> .mk 6 C4.zero [jf a]
theorem VV(r:Re):jf r= .mk r.kind r.pA (r.kids.map jf):=by cases r<;>rfl
theorem Re.size_pos(r:Re):0<r.size:=by cases r<;>simp[Re.size]
theorem Jf{α:Type}{l:List α}(h:l.length=2):∃a b,l=[a,b]:=
 match l,h with
 |[a,b],_=>⟨a,b,rfl⟩
structure Fit(r:Re)(deep n:Nat):Prop where
 nz:r.nz
 sz:n+r.size<=100
 dp:deep+r.K1<=31
theorem xD{p:Int×Nat}{q:Nat}(h:p=(0,q)):p.1=0/\p.2=q:=by subst h;exact⟨rfl,rfl⟩
theorem B4:∀(N:Nat) (r:Rx) (deep n q:Nat),oK r<=N->iL r deep n=(0,q)->∃e:Re,r=jf e/\Fit e deep n/\q=n+e.size
  |0,r,_,_,_,h,_=>by have:=AC r;omega
  | N + 1,.mk k c l,deep,n,q,hN,h=>by
    have IH:=B4 N;rw[oK]at hN;rw[iL]at h;split at h
    · simp at h
    split at h
    · simp at h
    split at h
    · simp at h
    split at h
    · simp at h
    rename_i h1 h2 h3 h4
    have h3:xB k=(l.length:Int):=by simpa using h3
    have h4:decide (k=3)=decide (c≠C4.zero):=by
      generalize decide (k=3)=x at*;generalize decide (c≠C4.zero)=y at*
      cases x<;>cases y<;>simp_all
    have leaf:∀e:Re,k=e.kind->c=e.pA->l=[]->e.kids=[]->e.size=1->e.K1=1->e.nz->∃e:Re,Rx.mk k c l=jf e/\Fit e deep n/\q=n+e.size:=fun e a1 a2 a3 a4 a5 a6 a7=>by
      subst a1 a2 a3;rw[wg]at h;refine⟨e,by rw[VV,a4];rfl,⟨a7,by omega,by omega⟩,?_⟩;simp at h;omega
    unfold xB at h3;have hz:k≠3->c=C4.zero:=fun hk=>by
      rw[decide_eq_false hk]at h4;exact Classical.byContradiction fun hc=>by rw[decide_eq_true hc]at h4;cases h4
    by_cases k1:k=1
    · rw[if_pos k1]at h3
      exact leaf .none k1 (hz (by omega)) (List.eq_nil_of_length_eq_zero (by omega)) rfl rfl rfl trivial
    rw[if_neg k1]at h3
    by_cases k2:k=2
    · rw[if_pos k2]at h3
      exact leaf .empty k2 (hz (by omega)) (List.eq_nil_of_length_eq_zero (by omega)) rfl rfl rfl trivial
    rw[if_neg k2]at h3
    by_cases k3:k=3
    · rw[if_pos k3]at h3
      rw[decide_eq_true k3]at h4;exact leaf (.byte c) k3 rfl (List.eq_nil_of_length_eq_zero (by omega)) rfl rfl rfl (by show c≠C4.zero;exact of_decide_eq_true h4.symm)
    rw[if_neg k3]at h3;have hc:=hz k3;subst hc;have two:∀(a b:Rx),l=[a,b]->∃x y:Re,a=jf x/\b=jf y/\Fit x (deep+1) (n+1)/\Fit y (deep+1) (n+1+x.size)/\q=n+1+x.size+y.size:=fun a b hl=>by
      subst hl;rw[nR,nR,nR]at hN;rw[wg,wg,wg]at h
      by_cases e1:(iL a (deep+1) (n+1)).1=0
      · rw[if_neg (by simpa using e1)]at h
        obtain⟨x,rfl,f1,g1⟩:=IH a (deep+1) (n+1) (iL a (deep+1) (n+1)).2 (by omega) (Prod.ext e1 rfl);rw[g1]at h
        by_cases e2:(iL b (deep+1) (n+1+x.size)).1=0
        · rw[if_neg (by simpa using e2)]at h
          obtain⟨y,rfl,f2,g2⟩:=IH b (deep+1) (n+1+x.size) (iL b (deep+1) (n+1+x.size)).2 (by omega) (Prod.ext e2 rfl);exact⟨x,y,rfl,rfl,f1,f2,by rw[g2]at h;simp at h;omega⟩
        · rw[if_pos e2]at h
          exact absurd (xD h).1 e2
      · rw[if_pos e1]at h
        exact absurd (xD h).1 e1
    by_cases k6:k=6
    · rw[if_pos k6]at h3
      obtain⟨a,rfl⟩:∃a,l=[a]:=List.length_eq_one_iff.1 (by omega);rw[nR,nR]at hN;rw[wg,wg]at h
      by_cases e1:(iL a (deep+1) (n+1)).1=0
      · rw[if_neg (by simpa using e1)]at h
        obtain⟨x,rfl,f1,g1⟩:=IH a (deep+1) (n+1) (iL a (deep+1) (n+1)).2 (by omega) (Prod.ext e1 rfl);have:=f1.sz;have:=f1.dp;exact⟨.star x,by rw[k6];rfl,⟨f1.nz,by simp only[Re.size];omega,by simp only[Re.K1];omega⟩,by rw[g1]at h;simp at h;simp only[Re.size];omega⟩
      · rw[if_pos e1]at h
        exact absurd (xD h).1 e1
    rw[if_neg k6]at h3
    by_cases k4:k=4
    · rw[if_pos k4]at h3
      obtain⟨a,b,rfl⟩:∃a b,l=[a,b]:=Jf (by omega);obtain⟨x,y,rfl,rfl,f1,f2,g⟩:=two a b rfl;have:=f1.dp;have:=f2.dp;have:=f2.sz;exact⟨.B2 x y,by rw[k4];rfl,⟨⟨f1.nz,f2.nz⟩,by simp only[Re.size];omega,by simp only[Re.K1];omega⟩,by simp only[Re.size];omega⟩
    rw[if_neg k4]at h3
    by_cases k5:k=5
    · rw[if_pos k5]at h3
      obtain⟨a,b,rfl⟩:∃a b,l=[a,b]:=Jf (by omega);obtain⟨x,y,rfl,rfl,f1,f2,g⟩:=two a b rfl;have:=f1.dp;have:=f2.dp;have:=f2.sz;exact⟨.B3 x y,by rw[k5];rfl,⟨⟨f1.nz,f2.nz⟩,by simp only[Re.size];omega,by simp only[Re.K1];omega⟩,by simp only[Re.size];omega⟩
    rw[if_neg k5]at h3;omega
inductive zV(P:List UInt8->Prop):List UInt8->Prop
 |nil:zV P []
 |cons {u v:List UInt8}:P u->zV P v->zV P (u++v)
def D5:Re->List UInt8->Prop
 | .none,_=>False
 | .empty,s=>s=[]
 | .byte c,s=>∃b:UInt8,s=[b]/\c.mem b.toNat=true
 | .B2 a b,s=>∃u v,s=u++v/\D5 a u/\D5 b v
 | .B3 a b,s=>D5 a s\/D5 b s
 | .star a,s=>zV (D5 a) s
theorem K2{P:List UInt8->Prop}{u v:List UInt8}(h:zV P u)(hv:P v):zV P (u++v):=by
 induction h with
 |nil=>have:=zV.cons hv .nil;simpa using this
 |cons h1 _ ih=>rw[List.append_assoc];exact .cons h1 ih
def G_(s:List UInt8)(f j:Nat):List UInt8:=(s.drop f).take (j-f)
theorem B5{s:List UInt8}{f j:Nat}(h:j<=s.length):(G_ s f j).length=j-f:=by unfold G_;rw[List.length_take,List.length_drop];omega
theorem NQ(s:List UInt8)(f:Nat):G_ s f f=[]:=by unfold G_;simp
theorem Jg{s:List UInt8}{f i j:Nat}(h1:f<=i)(h2:i<=j):G_ s f j=G_ s f i++G_ s i j:=by
 unfold G_;rw[show j-f=(i-f)+(j-i)by omega,List.take_add,List.drop_drop,show f+(i-f)=i by omega]
theorem RY{s u v:List UInt8}{f j:Nat}(hf:f<=j)(hj:j<=s.length)(h:G_ s f j=u++v):f+u.length<=j/\u=G_ s f (f+u.length)/\v=G_ s (f+u.length) j:=by
 have hl:=B5 (s:=s) (f:=f) hj;rw[h,List.length_append]at hl;have h1:f+u.length<=j:=by omega
 have e:=Jg (s:=s) (f:=f) (i:=f+u.length) (j:=j) (by omega) h1;rw[h]at e;have hlu:u.length=(G_ s f (f+u.length)).length:=by rw[B5 (by omega)];omega
 have:=List.append_inj e hlu;exact⟨h1,this.1,this.2⟩
def K3(r:Re)(s:List UInt8)(f j:Nat):Prop:=f<=j/\j<=s.length/\D5 r (G_ s f j)
inductive Ro(R:Nat->Nat->Prop)(f:Nat):Nat->Prop
 |refl:Ro R f f
 |step {i j:Nat}:Ro R f i->R i j->Ro R f j
theorem Ro.cons{R:Nat->Nat->Prop}{f i j:Nat}(h:R f i)(h':Ro R i j):Ro R f j:=by
 induction h' with
 |refl=>exact .step .refl h
 |step _ h2 ih=>exact .step ih h2
theorem NR{a:Re}{s:List UInt8}{f j:Nat}(hf:f<=s.length):K3 (.star a) s f j↔Ro (K3 a s) f j:=by
  constructor
  · rintro⟨h1,h2,h⟩
    have h:zV (D5 a) (G_ s f j):=h;have aux:∀w,zV (D5 a) w->∀f,f<=j->G_ s f j=w->Ro (K3 a s) f j:=by
      intro w hw
      induction hw with
      | nil=>
        intro f uS e;have:=B5 (s:=s) (f:=f) h2;rw[e]at this;have:f=j:=by simp at this;omega
        subst this;exact .refl
      | cons hu _ ih=>
        intro f uS e;obtain⟨a1,a2,a3⟩:=RY uS h2 e;exact Ro.cons ⟨Nat.le_add_right _ _,by omega,by rw[<-a2];exact hu⟩ (ih _ a1 a3.symm)
    exact aux _ h f h1 rfl
  · intro h
    induction h with
    |refl=>exact⟨Nat.le_refl _,hf,by rw[NQ];exact zV.nil⟩
    | step _ h2 ih=>
      obtain⟨a1,a2,a3⟩:=ih;obtain⟨b1,b2,b3⟩:=h2;exact⟨by omega,b2,by rw[Jg a1 b1];exact K2 a3 b3⟩
def Yy(s:List UInt8)(r:Re)(f:Nat)(c:C4):Prop:=∀j,j<256->(c.mem j=true↔K3 r s f j)
end eG
namespace eG
open bW
abbrev K4:=List UInt8
structure RS where
 p:Nat
 o:Nat
 e:Int
def aaP:K4:=[48,49,50,51,52,53,54,55,56,57,97,98,99,100,101,102]
def VW:K4:=[40,41,91,93,124,42,43,63,46,94,45,92]
section
variable{s:K4}
structure K5(s:K4)(st st':RS):Prop where
 o:st'.o=st.o
 ge:st.p<=st'.p
 le:st'.p<=s.length
theorem K5.trans{a b c:RS}(h:K5 s a b)(h':K5 s b c):K5 s a c:=⟨by rw[h'.o,h.o],Nat.le_trans h.ge h'.ge,h'.le⟩
theorem K5.refl{st:RS}(h:st.p<=s.length):K5 s st st:=⟨rfl,Nat.le_refl _,h⟩
end
end eG
namespace eG
open bW
def Yz(n:Nat):UInt8:=aaP.getD n 0
def NS(b:UInt8):K4:=
 if b=10 then [92,110]else if b=9 then [92,116]else if b=32 then [92,115]
 else if b<33\/126<b then [92,120,Yz (b.toNat/16),Yz (b.toNat %16)]
 else if b∈VW then [92,b]else [b]
def VX:Nat->List Nat->Nat
 |_,[]=>0
 |b,x::r=>if x=b+1 then VX (b+1) r+1 else 0
def YA(b k:Nat):K4:=NS (UInt8.ofNat b)++((if 1<k then [45]else [])++(if 0<k then NS (UInt8.ofNat (b+k))else []))
def G':Nat->List Nat->K4
 |0,_=>[]
 |_+1,[]=>[]
 |f+1,b::r=>YA b (VX b r)++G' f (r.drop (VX b r))
def VY(c:C4):K4:=
 if Rn c=1 then NS (UInt8.ofNat ((rF c).getD 0 0))
 else if Rn c=255/\c.mem 10=false then [46]
 else if 128<Rn c then [91,94]++(G' 256 (rF c.not)++[93])
 else [91]++(G' 256 (rF c)++[93])
def NT(lv:Nat)(e:Re):Bool:=decide (1<=lv/\e.kind=5\/2<=lv/\e.kind=4\/3<=lv/\e.kind=6)
def wrap(b:Bool)(t:K4):K4:=if b then [40]++(t++[41])else t
def body:Re->K4
 | .empty=>[40,41]
 | .none=>[91,93]
 | .byte c=>VY c
 | .star a=>wrap (NT 3 a) (body a)++[42]
 | .B2 a b=>wrap (NT 1 a) (body a)++wrap (NT 2 b) (body b)
 | .B3 a b=>wrap (NT 0 a) (body a)++([124]++wrap (NT 1 b) (body b))
section
end
end eG
end Go.Proofs.YtdmgcnggnejnnaaGreat

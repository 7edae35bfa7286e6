/- Part 3 of what WholeFront needs: ClimbO, DfS, PlacesL, PlacesM, PlacesS, DfaP, SortC, SortI, IntO, IntK, PlU, PlB, PlN, PlS, PlA, PlC, PlD, PlM, PlR, SmIe, BoE, PlE, PlP, PlK, PlT, DfN, DfT, PlacesG, ClassP, SmIn, MapE, BoolC, TreeS, FactsA, FactsB. -/
import Derived.Test.YtdmgcnggnejnnaaGreatMgB
import Derived.Lib.SlicesCompact
import Derived.Shelf.Sort.Plain
import Derived.Ground.Names2Prog
import Derived.Shelf.Slices.CompactI
import Derived.Shelf.Slices.In.SortNone
import Derived.Lib.RowBridge
namespace Go.Proofs.YtdmgcnggnejnnaaGreat
set_option linter.unusedVariables false
set_option linter.unusedSimpArgs false
set_option maxHeartbeats 16000000
namespace bK
open Go.RowKit bO dc aB dy gI
def tdB:TD->Bool| .sym _=>false| .close _=>true
def tdN:TD->Int| .sym _=>0| .close p=>p
def tdX:TD->cg| .sym x=>x| .close _=>(0,0)
def ri(d:TD):List Value:=[.bool (tdB d),.int .i64 (tdN d),.int .i64 (tdX d).1,.int .i64 (tdX d).2]
theorem Cr(d:TD):(ri d).length=4:=rfl
theorem Cs(l:List TD):∀u∈l.flatMap ri,u.oneCell'=true:=by
 intro u hu;obtain⟨d,_,h⟩:=List.mem_flatMap.1 hu;simp only[ri,List.mem_cons,List.not_mem_nil,or_false]at h;rcases h with rfl|rfl|rfl|rfl<;>rfl
def DI(d:TD):Value:= .agg (ri d).toArray
theorem A2(x:cg)(w:World):(Instr.build 231 #[(2,.agg (dg x).toArray)]).run Tryz.prog w= .ok (DI (.sym x)) w:=by
 unfold DI ri dg tdB tdN tdX;go_simp
theorem LA(p:Int)(w:World):(Instr.build 231 #[(0,.bool true),(1,.int .i64 p)]).run Tryz.prog w= .ok (DI (.close p)) w:=by
 unfold DI ri tdB tdN tdX;go_simp
def tV(vt:Value)(seen over:Int)(done:Bool):Value:= .agg #[vt,.int .i64 seen,.int .i64 over,.bool done]
def EF(t n:Int)(vp vt vo:Value)(cK:Nat):Array Value:=#[.int .i64 t,.int .i64 n,vp,vt,vo,.int .i64 (cK:Int)]
abbrev sa(gw:Nat)(t n:Int)(vp vt vo:Value)(cK:Nat):bI:=aw gw (EF t n vp vt vo cK) 329
abbrev q8(vt:Value)(st:List TD):bI:=aM 231 4 vt st.length (st.reverse.flatMap ri)
abbrev kt(vo:Value)(l:List cg):bI:=aM 55 2 vo l.length (l.flatMap dg)
theorem uq(k n:Int)(w:World):(Instr.build 55 #[(0,.int .i64 k),(1,.int .i64 n)]).run Tryz.prog w= .ok (.agg (dg (k,n)).toArray) w:=by
 unfold dg;go_simp
theorem JE{P:Program}{n:Nat}{W:bC}{fr:Fr}{L:List bI}{dst:Option Tmp}{t ty:TypeId}{pos:String}{after:Array Edge}{guard:Option (Nat×Bool)}{x:Operand}{f:Nat}{v u:Value}(hx:ev fr x=some v)(h:∀w,(Instr.field t v f).run P w= .ok u w):RR P n W ⟨dst,.field t x f,ty,pos,after,guard⟩ fr L u:= .mk fun a w hr _=>by
 simp[execOp,hr.ev hx,h]
theorem LB(d:TD)(w:World):(Instr.field 231 (DI d) 1).run Tryz.prog w= .ok (.int .i64 (tdN d)) w:=by
 unfold DI ri;kernel_rfl
end bK
namespace bK
open Go.RowKit bO dc bW
theorem OP{j:Nat}(hj:j<64):2^j<18446744073709551616:=by
 have:=Nat.pow_lt_pow_right (a:=2) (by decide) hj
 rwa [show(2:Nat)^64=18446744073709551616 from rfl]at this
theorem aaX{P:Program}(j:Nat)(hj:j<64)(w:World):(Op.shift .shl .u64 1 .i64 (j:Int)).run P w= .ok (.int .u64 ((2^j:Nat):Int)) w:=by
 have e:min j 64=j:=by omega
 have e2:(2:Int)^j=((2^j:Nat):Int):=by rw[Int.natCast_pow];rfl
 have e3:IntKind.u64.wrap ((1:Int)*2^j)=((2^j:Nat):Int):=by
  have:=OP hj;rw[e2,IntKind.wrap_u64,Int.one_mul];generalize 2^j=y at*;omega
 have h0:¬((j:Int)<0):=by omega
 simp only[Op.shift,if_neg h0,IntKind.bits,Int.toNat_natCast,e,e3,Sem.run_pure]
theorem EG:∀b:Nat,b<256->bits .and .i64 (b:Int) 63=((b %64:Nat):Int):=by decide+kernel
theorem OQ(c:C4)(i:Nat)(h:i<4):(cZ c).toArray[i]?=some (.int .u64 ((c.get i).toNat:Int)):=xN c i h
theorem OR(c:C4)(i:Nat)(h:i<4)(v:BitVec 64):(cZ c).toArray.setIfInBounds i (.int .u64 (v.toNat:Int))=(cZ (c.set i v)).toArray:=by
 match i,h with
 |0,_=>rfl
 |1,_=>rfl
 |2,_=>rfl
 |3,_=>rfl
attribute [local irreducible] Op.shift Go.bits in
theorem oc(c:C4)(b:Nat)(hb:b<256)(w:World):Calls Tryz.prog 152 #[kV c,.int .i64 (b:Int)] w (bM (ret (.bool (c.mem b))) w):=by
 refine enter (args:=[.agg #[v64 c.a,v64 c.b,v64 c.c,v64 c.d],.int .i64 (b:Int)]) (n:=14) Tryz.func152 rfl rfl rfl ?_;refine a8 (aL (a_ rfl rfl rfl fun g=>?_));have h1:b/64<4:=by omega
 have hc:(#[v64 c.a,v64 c.b,v64 c.c,v64 c.d]:Array Value)[0+b/64]?=some (.int .u64 ((c.get (b/64)).toNat:Int)):=by rw[Nat.zero_add];exact xN c _ h1
 have hx:=(c.get (b/64)).isLt;have wI:∀w,(Op.shift .shr .i64 (b:Int) .u64 6).run Tryz.prog w= .ok (.int .i64 ((b/64:Nat):Int)) w:=fun w=>Oc b 6 64 .i64 .u64 rfl (by decide) w;have Sa:∀w,(Op.shift .shr .u64 ((c.get (b/64)).toNat:Int) .i64 ((b %64:Nat):Int)).run Tryz.prog w= .ok (.int .u64 (((c.get (b/64)).toNat/2^(b %64):Nat):Int)) w:=fun w=>Oc _ (b %64) 64 .u64 .i64 rfl (by omega) w;have hm:c.mem b=decide ((c.get (b/64)).toNat/2^(b %64) %2=1):=by unfold C4.mem;rw[Nat.testBit_eq_decide_div_mod_eq]
 rw[hm];have hd:(c.get (b/64)).toNat/2^(b %64)<=(c.get (b/64)).toNat:=Nat.div_le_self _ _;have qD:=EG b hb;generalize (c.get (b/64)).toNat=x at*;generalize b %64=k at*;generalize b/64=i at*;generalize x/2^k=y at*;have ha:bits .and .u64 (y:Int) 1=((y %2:Nat):Int):=by
  have:=bits_and_u64_nat y 1 (by omega) (by decide);rw[Nat.and_one_is_mod]at this;exact this
 repeat(first|refine GC ?_|refine gV (lm rfl rfl wI) ?_|refine gV (e_ aT.eq ak.ty rfl rfl h1) ?_|refine gV (J ak.ty rfl (ah (i:=0) rfl hc)) ?_|refine gV (j_ rfl rfl qD) ?_|refine gV (lm rfl rfl Sa) ?_|refine gV (j_ rfl rfl ha) ?_|refine gV (bL rfl rfl rfl) ?_|refine GB ?_)
 exact dx rfl rfl (by congr 1;rw[decide_eq_decide];omega)
attribute [local irreducible] Op.shift Go.bits in
theorem od(c:C4)(b:Nat)(hb:b<256)(g:Nat)(w:World)(B:bC)(hm:Mem B [aw g (cZ c).toArray 303] w):
 Calls Tryz.prog 154 #[.pointer (some ⟨g,0,none⟩),.int .i64 (b:Int)] w (c_ ⟨fun(_:Unit)=>True,fun _=> .tuple #[],fun _=>[aw g (cZ (c.bit b)).toArray 303]⟩ B):=by
 refine dC hm (args:=[.pointer (some ⟨g,0,none⟩),.int .i64 (b:Int)]) (n:=16) Tryz.func154 rfl rfl rfl ?_;clear hm;have h1:b/64<4:=by omega
 have hc:(cZ c).toArray[0+b/64]?=some (.int .u64 ((c.get (b/64)).toNat:Int)):=by rw[Nat.zero_add];exact OQ c _ h1
 have wI:∀w,(Op.shift .shr .i64 (b:Int) .u64 6).run Tryz.prog w= .ok (.int .i64 ((b/64:Nat):Int)) w:=fun w=>Oc b 6 64 .i64 .u64 rfl (by decide) w;have qD:=EG b hb;have Sb:=aaX (P:=Tryz.prog) (b %64) (by omega);have q6:=OR c (b/64) h1 (c.get (b/64)|||BitVec.ofNat 64 (2^(b %64)));have Su:c.bit b=c.set (b/64) (c.get (b/64)|||BitVec.ofNat 64 (2^(b %64))):=rfl;rw[<-Su]at q6;have DJ:bits .or .u64 ((c.get (b/64)).toNat:Int) ((2^(b %64):Nat):Int)=(((c.get (b/64))|||BitVec.ofNat 64 (2^(b %64))).toNat:Int):=by
  have hp:=OP (j:=b %64) (by omega);rw[bits_or_u64_nat _ _ (c.get (b/64)).isLt hp,BitVec.toNat_or,BitVec.toNat_ofNat,Nat.mod_eq_of_lt hp]
 have hm0:b %64<64:=by omega
 generalize c.get (b/64)|||BitVec.ofNat 64 (2^(b %64))=z at*
 generalize (c.get (b/64)).toNat=x at*;generalize 2^(b %64)=y at*;generalize b %64=k at*;generalize b/64=i at*;generalize c.bit b=c' at*;have hsz:Nat.blt (0+i) (cZ c).toArray.size=true:=by rw[Nat.blt_eq];show 0+i<4;omega
 rw[<-Nat.zero_add i]at q6;refine cU ([]) (.calm 0 (.calm 1 (.calm 2 (.calm 3 (.calm 4 (.calm 6 (.calm 7 (.calm 8 (.calm 10 (.one 5 (.calm 9 (.calm 11 (.one 12 (.done)))))))))))))) (bz []) ?_
 repeat(first|refine GW ?_|(refine GN ?_;first|refine QW (lm rfl rfl wI) ?_|refine QW (e_ aT.eq ak.ty rfl rfl h1) ?_|refine QW (j_ rfl rfl qD) ?_|refine QW (xu rfl rfl Sb) ?_))
 refine ap rfl (aV (J ak.ty rfl (ah (i:=0) rfl hc)) rfl rfl rfl (av (bz []) ?_))
 repeat(first|refine GW ?_|(refine GN ?_;first|refine QW (sJ rfl rfl DJ) ?_|refine QW (e_ aT.eq ak.ty rfl rfl h1) ?_))
 refine ap rfl (aW (i:=0) rfl rfl rfl rfl rfl hsz (av (bz []) ?_))
 try refine GW ?_
 try refine GA ?_
 exact xG rfl fun w hm=>hm.bP (S:=⟨fun(_:Unit)=>True,fun _=> .tuple #[],fun _=>[aw g (cZ c').toArray 303]⟩) () trivial [0] (by decide) (by rw[<-q6];rfl)
end bK
namespace de
open bW eG Go.Lib
def pU(l:List Int):List Int:=l.mergeSort fun x y=>decide (x<=y)
def mP(a b:List Int):List Int:=compact (pU (a++b))
theorem Ct(l:List Int):(pU l).Pairwise (· <= ·):=by
 have:=List.pairwise_mergeSort (le:=fun x y:Int=>decide (x<=y)) (fun a b c=>by simp;omega) (fun a b=>by simp;omega) l;exact this.imp (by simp)
theorem oP{d:Array Int}(hs:∀i j,i<=j->j<d.size->d[i]! <=d[j]!):∀m,m<=d.size->(compactUpTo d m).Pairwise (· < ·)/\(∀x,x∈compactUpTo d m↔∃j,j<m/\d[j]! =x)
  |0,_=>⟨by unfold compactUpTo;simp,fun x=>by unfold compactUpTo;simp⟩
  | m + 1,hm=>by
    obtain⟨h1,h2⟩:=oP hs m (by omega);rw[compactUpTo_succ]
    by_cases hk:keeps d m=true
    · rw[if_pos hk]
      have kp:m=0\/d[m]! ≠d[m-1]! :=by unfold keeps at hk;simpa using hk
      refine⟨List.pairwise_append.2 ⟨h1,List.pairwise_singleton _ _,fun x hx y hy=>?_⟩,fun x=>?_⟩
      · rw[List.mem_singleton.1 hy]
        obtain⟨j,hj,rfl⟩:=(h2 x).1 hx;have a1:=hs j (m-1) (by omega) (by omega);have a2:=hs (m-1) m (by omega) (by omega);rcases kp with h0|h0
        · omega
        · omega
      · rw[List.mem_append,List.mem_singleton,h2]
        constructor
        · rintro(⟨j,hj,rfl⟩|rfl)
          · exact⟨j,by omega,rfl⟩
          · exact⟨m,by omega,rfl⟩
        · rintro⟨j,hj,rfl⟩
          by_cases c:j=m
          · subst c;exact .inr rfl
          · exact .inl ⟨j,by omega,rfl⟩
    · rw[if_neg hk,List.append_nil]
      refine⟨h1,fun x=>?_⟩;rw[h2]
      constructor
      · rintro⟨j,hj,rfl⟩;exact⟨j,by omega,rfl⟩
      · rintro⟨j,hj,rfl⟩
        by_cases c:j=m
        · subst c
          have kp:¬(j=0\/d[j]! ≠d[j-1]!):=by unfold keeps at hk;simpa using hk
          have e:d[j]! =d[j-1]! :=by
            rcases Classical.em (d[j]! =d[j-1]!)with h|h
            · exact h
            · exact absurd (.inr h) kp
          have:j≠0:=fun h=>kp (.inl h);exact⟨j-1,by omega,e.symm⟩
        · exact⟨j,by omega,rfl⟩
theorem Hv{l:List Int}(h:l.Pairwise (· <= ·)):∀i j,i<=j->j<l.toArray.size->l.toArray[i]! <=l.toArray[j]! :=by
 intro i j oW hj;have mi:j<l.length:=by simpa using hj
 rw[getElem!_pos l.toArray i (by simp;omega),getElem!_pos l.toArray j hj]
 by_cases c:i=j
 ·subst c;exact Int.le_refl _
 ·exact List.pairwise_iff_getElem.1 h i j (by omega) mi (by omega)
theorem wO(a b:List Int):(mP a b).Pairwise (· < ·)/\∀x,x∈mP a b↔x∈a\/x∈b:=by
 have hs:=Hv (Ct (a++b));obtain⟨h1,h2⟩:=oP hs (pU (a++b)).length (by simp);refine⟨h1,fun x=>?_⟩;unfold mP compact;rw[h2,<-List.mem_append,<-List.mem_mergeSort (l:=a++b) (le:=fun x y:Int=>decide (x<=y))];show _↔x∈pU (a++b)
 rw[List.mem_iff_getElem]
 constructor
 ·rintro⟨j,hj,rfl⟩;exact⟨j,hj,by rw[getElem!_pos _ j (by simpa using hj)];rfl⟩
 ·rintro⟨j,hj,rfl⟩;exact⟨j,hj,by rw[getElem!_pos _ j (by simpa using hj)];rfl⟩
def A3(n:Nat)(l:List Int):Prop:=l.Pairwise (· < ·)/\∀x∈l,0<=x/\x<n
theorem gJ{n:Nat}{l:List Int}(h:A3 n l):l.length<=n:=by
 have key:∀(l:List Int) (lo:Int),l.Pairwise (· < ·)->(∀x∈l,lo<=x/\x<n)->lo<=n->(l.length:Int)<=n-lo:=by
  intro l
  induction l with
  |nil=>intro lo _ _ h;show(0:Int)<=_;omega
  |cons x r ih=>
   intro lo hp hx _;rw[List.pairwise_cons]at hp;have h1:=hx x (List.mem_cons_self ..);have:=ih (x+1) hp.2 (fun y hy=>⟨by have:=hp.1 y hy;omega,(hx y (List.mem_cons_of_mem _ hy)).2⟩) (by omega);rw[List.length_cons];omega
 have:=key l 0 h.1 h.2 (by omega);omega
theorem qN(n:Nat):A3 n []:=⟨List.Pairwise.nil,fun x h=>by cases h⟩
theorem kG{n m:Nat}{l:List Int}(h:A3 n l)(hm:n<=m):A3 m l:=⟨h.1,fun x hx=>by have:=h.2 x hx;omega⟩
theorem oe{n:Nat}{a b:List Int}(ha:∀x∈a,0<=x/\x<n)(hb:∀x∈b,0<=x/\x<n):A3 n (mP a b):=
 ⟨(wO a b).1,fun x hx=>((wO a b).2 x|>.1 hx).elim (ha x) (hb x)⟩
theorem yi:∀{a b:List Int},a.Pairwise (· < ·)->b.Pairwise (· < ·)->(∀x,x∈a↔x∈b)->a=b
  |[],[],_,_,_=>rfl
  |[],y::b,_,_,h=>by have:=(h y).2 (List.mem_cons_self ..);cases this
  |x::a,[],_,_,h=>by have:=(h x).1 (List.mem_cons_self ..);cases this
  | x ::a,y::b,ha,hb,h=>by
    rw[List.pairwise_cons]at ha hb;have YI:x=y:=by
      rcases List.mem_cons.1 ((h x).1 (List.mem_cons_self ..))with e|e
      · exact e
      · rcases List.mem_cons.1 ((h y).2 (List.mem_cons_self ..))with e'|e'
        · exact e'.symm
        · have h1:=hb.1 x e
          have h2:=ha.1 y e';omega
    subst YI;rw[yi ha.2 hb.2 fun z=>?_]
    constructor
    · intro hz
      rcases List.mem_cons.1 ((h z).1 (List.mem_cons_of_mem _ hz))with e|e
      · subst e;exact absurd (ha.1 z hz) (by omega)
      · exact e
    · intro hz
      rcases List.mem_cons.1 ((h z).2 (List.mem_cons_of_mem _ hz))with e|e
      · subst e;exact absurd (hb.1 z hz) (by omega)
      · exact e
structure PS where
 aJ:List C4
 rules:List Int
 follow:List (List Int)
 last:List Bool
structure Shape where
 empty:Bool
 first:List Int
 last:List Int
def dV(jW:List (List Int))(last first:List Int):List (List Int):=last.foldl (fun f x=>f.set x.toNat (mP (f.getD x.toNat []) first)) jW
def bH(aX:Int):Re->PS->Shape×PS
  | .empty,p=>(⟨true,[],[]⟩,p)
  | .none,p=>(⟨false,[],[]⟩,p)
  | .byte c,p=>(⟨false,[(p.aJ.length:Int)],[(p.aJ.length:Int)]⟩,⟨p.aJ++[c],p.rules++[aX],p.follow++[[]],p.last++[false]⟩)
  | .star a,p=>(⟨true,(bH aX a p).1.first,(bH aX a p).1.last⟩,{(bH aX a p).2 with follow:=dV (bH aX a p).2.follow (bH aX a p).1.last (bH aX a p).1.first})
  | .B3 a b,p=>(⟨(bH aX a p).1.empty||(bH aX b (bH aX a p).2).1.empty,mP (bH aX a p).1.first (bH aX b (bH aX a p).2).1.first,mP (bH aX a p).1.last (bH aX b (bH aX a p).2).1.last⟩,(bH aX b (bH aX a p).2).2)
  | .B2 a b,p=>
    (⟨(bH aX a p).1.empty&&(bH aX b (bH aX a p).2).1.empty,
      if(bH aX a p).1.empty then mP (bH aX a p).1.first (bH aX b (bH aX a p).2).1.first else(bH aX a p).1.first,
      if(bH aX b (bH aX a p).2).1.empty then mP (bH aX a p).1.last (bH aX b (bH aX a p).2).1.last else(bH aX b (bH aX a p).2).1.last⟩,
     {(bH aX b (bH aX a p).2).2 with follow:=dV (bH aX b (bH aX a p).2).2.follow (bH aX a p).1.last (bH aX b (bH aX a p).2).1.first})
structure EH(p:PS):Prop where
 rules:p.rules.length=p.aJ.length
 follow:p.follow.length=p.aJ.length
 last:p.last.length=p.aJ.length
 UX:∀l∈p.follow,A3 p.aJ.length l
theorem iE(jW:List (List Int))(last first:List Int):(dV jW last first).length=jW.length:=by
 unfold dV
 induction last generalizing jW with
 |nil=>rfl
 |cons x r ih=>rw[List.foldl_cons,ih,List.length_set]
theorem og{n:Nat}{first:List Int}(hf:∀x∈first,0<=x/\x<n):∀(last:List Int) (jW:List (List Int)),(∀l∈jW,A3 n l)->∀l∈dV jW last first,A3 n l
  |[],jW,h=>h
  | x ::r,jW,h=>by
    show ∀l∈dV (jW.set x.toNat (mP (jW.getD x.toNat []) first)) r first,A3 n l
    refine og hf r _ fun l hl=>?_;rcases List.mem_or_eq_of_mem_set hl with hl|rfl
    · exact h l hl
    · refine oe (fun y hy=>?_) hf
      by_cases c:x.toNat<jW.length
      · rw[List.getD_eq_getElem?_getD,List.getElem?_eq_getElem c]at hy
        exact(h _ (List.getElem_mem c)).2 y hy
      · rw[List.getD_eq_getElem?_getD,List.getElem?_eq_none (by omega)]at hy
        cases hy
theorem ji(aX:Int):∀(e:Re) (p:PS),EH p->EH (bH aX e p).2/\p.aJ.length<=(bH aX e p).2.aJ.length/\(bH aX e p).2.aJ.length<=p.aJ.length+e.size/\A3 (bH aX e p).2.aJ.length (bH aX e p).1.first/\A3 (bH aX e p).2.aJ.length (bH aX e p).1.last
 | .empty,p,h=>⟨h,Nat.le_refl _,Nat.le_add_right _ _,qN _,qN _⟩
 | .none,p,h=>⟨h,Nat.le_refl _,Nat.le_add_right _ _,qN _,qN _⟩
 | .byte c,p,h=>by
  have h1:A3 (p.aJ++[c]).length [(p.aJ.length:Int)]:=⟨List.pairwise_singleton _ _,fun x hx=>by rw[List.mem_singleton.1 hx,List.length_append,List.length_singleton];omega⟩;refine⟨⟨?_,?_,?_,fun l hl=>?_⟩,?_,?_,h1,h1⟩
  ·show(p.rules++[aX]).length=(p.aJ++[c]).length;rw[List.length_append,List.length_append,h.rules];rfl
  ·show(p.follow++[[]]).length=(p.aJ++[c]).length;rw[List.length_append,List.length_append,h.follow];rfl
  ·show(p.last++[false]).length=(p.aJ++[c]).length;rw[List.length_append,List.length_append,h.last];rfl
  ·have hl:l∈p.follow++[[]]:=hl
   show A3 (p.aJ++[c]).length l
   rcases List.mem_append.1 hl with hl|hl
   ·exact kG (h.UX l hl) (by simp)
   ·rw[List.mem_singleton.1 hl];exact qN _
  ·show p.aJ.length<=(p.aJ++[c]).length;simp
  ·show(p.aJ++[c]).length<=_;simp[Re.size]
 | .star a,p,h=>by
  obtain⟨h1,h2,h3,h4,h5⟩:=ji aX a p h;exact⟨⟨h1.rules,(iE _ _ _).trans h1.follow,h1.last,og h4.2 _ _ h1.UX⟩,h2,by show _<=p.aJ.length+(a.size+1);exact Nat.le_trans h3 (by omega),h4,h5⟩
 | .B3 a b,p,h=>by
  obtain⟨h1,h2,h3,h4,h5⟩:=ji aX a p h;obtain⟨k1,k2,k3,k4,k5⟩:=ji aX b _ h1;exact⟨k1,Nat.le_trans h2 k2,by show _<=p.aJ.length+(a.size+b.size+1);exact Nat.le_trans k3 (by omega),oe (kG h4 k2).2 k4.2,oe (kG h5 k2).2 k5.2⟩
 | .B2 a b,p,h=>by
  obtain⟨h1,h2,h3,h4,h5⟩:=ji aX a p h;obtain⟨k1,k2,k3,k4,k5⟩:=ji aX b _ h1;refine⟨⟨k1.rules,(iE _ _ _).trans k1.follow,k1.last,og k4.2 _ _ k1.UX⟩,Nat.le_trans h2 k2,by show _<=p.aJ.length+(a.size+b.size+1);exact Nat.le_trans k3 (by omega),?_,?_⟩
  ·show A3 _ (if _ then _ else _)
   split
   ·exact oe (kG h4 k2).2 k4.2
   ·exact kG h4 k2
  ·show A3 _ (if _ then _ else _)
   split
   ·exact oe (kG h5 k2).2 k5.2
   ·exact k5
end de
namespace de
open bW eG
structure MS where
 ps:PS
 first:List Int
 empty:List Bool
def MS.zero:MS:=⟨⟨[],[],[],[]⟩,[],[]⟩
def eu(last:List Bool)(l:List Int):List Bool:=l.foldl (fun b x=>b.set x.toNat true) last
def rj(i:Nat)(m:MS)(e:Re):MS:=
 ⟨{(bH i e m.ps).2 with last:=eu (bH i e m.ps).2.last (bH i e m.ps).1.last},mP m.first (bH i e m.ps).1.first,m.empty++[(bH i e m.ps).1.empty]⟩
def jh:Nat->MS->List Re->Int×MS
 |_,m,[]=>(0,m)
 |i,m,e::r=>if 200<(rj i m e).ps.aJ.length then(2,.zero)else jh (i+1) (rj i m e) r
abbrev EI(r:Rx):Int:=(iL r 1 0).1
def gK:List Rx->Int
 |[]=>0
 |r::l=>if EI r≠0 then EI r else gK l
structure Hw(m:MS):Prop where
 ps:EH m.ps
 first:A3 m.ps.aJ.length m.first
theorem yj(last:List Bool)(l:List Int):(eu last l).length=last.length:=by
 unfold eu
 induction l generalizing last with
 |nil=>rfl
 |cons x r ih=>rw[List.foldl_cons,ih,List.length_set]
theorem LC(last:List Bool)(l:List Int){k:Nat}(hk:k<l.length):eu last (l.take (k+1))=(eu last (l.take k)).set l[k].toNat true:=by
 unfold eu;rw[List.take_succ_eq_append_getElem hk,List.foldl_append];rfl
theorem Cu:Hw .zero:=⟨⟨rfl,rfl,rfl,fun l h=>by cases h⟩,qN _⟩
theorem JF(i:Nat){m:MS}(h:Hw m)(e:Re):Hw (rj i m e)/\(rj i m e).ps.aJ.length<=m.ps.aJ.length+e.size:=by
 obtain⟨h1,h2,h3,h4,h5⟩:=ji i e m.ps h.ps;exact⟨⟨⟨h1.rules,h1.follow,(yj _ _).trans h1.last,h1.UX⟩,oe (kG h.first h2).2 h4.2⟩,h3⟩
theorem A4:∀{l:List Rx},gK l=0->∀r∈l,EI r=0
  |[],_,r,hr=>by cases hr
  | q ::l,h,r,hr=>by
    rw[gK]at h;split at h
    · contradiction
    · rename_i c
      rcases List.mem_cons.1 hr with rfl|hr
      · simpa using c
      · exact A4 h r hr
end de
namespace de
open bW eG
structure Cv(m:MS):Prop where
 ok:Hw m
 rules:∀r∈m.ps.rules,0<=r/\r<m.empty.length
 Hx:m.ps.aJ.length<=200
 some:0<m.empty.length
 Sv:m.empty.length<=20
theorem ki(aX:Int):∀(e:Re) (p:PS),(∀r∈p.rules,0<=r/\r<=aX)->0<=aX->∀r∈(bH aX e p).2.rules,0<=r/\r<=aX
 | .empty,p,h,_=>h
 | .none,p,h,_=>h
 | .byte c,p,h,h0=>fun r hr=>by
  have hr:r∈p.rules++[aX]:=hr;rcases List.mem_append.1 hr with hr|hr
  ·exact h r hr
  ·rw[List.mem_singleton.1 hr];omega
 | .star a,p,h,h0=>ki aX a p h h0
 | .B3 a b,p,h,h0=>ki aX b _ (ki aX a p h h0) h0
 | .B2 a b,p,h,h0=>ki aX b _ (ki aX a p h h0) h0
theorem Cw:∀(es:List Re) (i:Nat) (m m':MS),Hw m->m.empty.length=i->(∀r∈m.ps.rules,0<=r/\r<i)->m.ps.aJ.length<=200->jh i m es=(0,m')->Hw m'/\m'.empty.length=i+es.length/\(∀r∈m'.ps.rules,0<=r/\r<(i+es.length:Nat))/\m'.ps.aJ.length<=200
  | [],i,m,m',h1,h2,h3,h4,h=>by
    cases h
    exact⟨h1,h2,fun r hr=>by have:=h3 r hr;simpa using this,h4⟩
  | e ::r,i,m,m',h1,h2,h3,h4,h=>by
    rw[jh]at h;split at h
    · cases h
    · rename_i c
      have:=Cw r (i+1) (rj i m e) m' (JF i h1 e).1 (by show(m.empty++[_]).length=_;simp[h2]) (fun x hx=>by
        have:=ki i e m.ps (fun r hr=>by have:=h3 r hr;omega) (by omega) x hx;omega) (by omega) h
      rw[List.length_cons];rw[show i+(r.length+1)=i+1+r.length by omega];exact this
theorem wP{es:List Re}{m:MS}(h0:0<es.length)(h20:es.length<=20)(h:jh 0 .zero es=(0,m)):Cv m:=by
 obtain⟨h1,h2,h3,h4⟩:=Cw es 0 .zero m Cu rfl (fun r hr=>by cases hr) (Nat.zero_le _) h;rw[Nat.zero_add]at h2 h3;exact⟨h1,fun r hr=>by have:=h3 r hr;omega,h4,by omega,by omega⟩
end de
namespace jQ
open bW eG de bT
def lK(c:C4)(l:List Int):C4:=l.foldl (fun c x=>c.bit x.toNat) c
def kj(p:PS)(s:C4):Nat->C4
 |0=>C4.zero
 |i+1=>if s.mem i=true then lK (kj p s i) (p.follow.getD i [])else kj p s i
def jV(m:MS)(S:List C4):Nat->C4
 |0=>lK C4.zero m.first
 |n+1=>kj m.ps (S.getD n C4.zero) m.ps.follow.length
def Cx(p:PS)(all:C4)(b:Nat):Nat->C4
 |0=>C4.zero
 |i+1=>if all.mem i=true/\(p.aJ.getD i C4.zero).mem b=true then(Cx p all b i).bit i else Cx p all b i
def Cy(p:PS)(all:C4)(b:Nat):C4:=Cx p all b p.aJ.length
def ig(p:PS)(s:C4):Nat->Int
 |0=> -1
 |i+1=>if s.mem i=true/\p.last.getD i false=true/\(ig p s i<0\/p.rules.getD i 0<ig p s i)then p.rules.getD i 0 else ig p s i
def jo(p:PS)(s:C4):Int:=ig p s p.aJ.length
structure DM where
 S:List C4
 tags:List Int
def fD(p:PS)(m:DM)(s:C4):Nat×DM:=if s∈m.S then(idx m.S s+1,m)else(m.S.length+1,⟨m.S++[s],m.tags++[jo p s]⟩)
def ep(p:PS)(all:C4)(b:Nat)(r:Row)(m:DM):Row×DM:=
 if Cy p all b=C4.zero then(if h:b<256 then r.set b (-1)else r,m)else(if h:b<256 then(r.set b (-1)).set b ((fD p m (Cy p all b)).1:Int)else r,(fD p m (Cy p all b)).2)
def jF(p:PS)(all:C4):Nat->Nat->Row->DM->Row×DM
 |0,_,r,m=>(r,m)
 |f+1,b,r,m=>if 200<(ep p all b r m).2.S.length+1 then ep p all b r m else jF p all f (b+1) (ep p all b r m).1 (ep p all b r m).2
def ml(m:MS)(n:Nat)(d:DM):Row×DM:=jF m.ps (jV m d.S n) 256 0 (Vector.replicate 256 0) d
def oh(m:MS):Nat->Nat->List Row->DM->Option (List Row×DM)
 |0,_,_,_=>none
 |f+1,n,R,d=>if n<d.S.length+1 then(if 200<(ml m n d).2.S.length+1 then none else oh m f (n+1) (R++[(ml m n d).1]) (ml m n d).2)else some (R,d)
def dQ:List Bool->Int->Int
 |[],_=> -1
 |b::l,k=>if b=true then k else dQ l (k+1)
def pV(m:MS):Option (List Row×DM):=oh m 201 0 [] ⟨[],[dQ m.empty 0]⟩
structure Sw(p:PS)(d:DM):Prop where
 nd:d.S.Nodup
 tags:d.tags.length=d.S.length+1
theorem EJ{p:PS}{d:DM}(h:Sw p d)(s:C4):Sw p (fD p d s).2/\d.S.length<=(fD p d s).2.S.length/\(fD p d s).2.S.length<=d.S.length+1/\0<(fD p d s).1/\(fD p d s).1<(fD p d s).2.S.length+1:=by
 unfold fD
 by_cases c:s∈d.S
 ·rw[if_pos c]
  have:=iX c;exact⟨h,Nat.le_refl _,Nat.le_succ _,Nat.succ_pos _,by show idx d.S s+1<d.S.length+1;omega⟩
 ·rw[if_neg c]
  refine⟨⟨?_,?_⟩,?_,?_,Nat.succ_pos _,?_⟩
  ·show(d.S++[s]).Nodup
   rw[List.nodup_append];exact⟨h.nd,by simp,fun a ha b hb=>by rw[List.mem_singleton.1 hb];exact fun e=>c (e▸ha)⟩
  ·show(d.tags++[_]).length=(d.S++[s]).length+1
   rw[List.length_append,List.length_append,h.tags];rfl
  ·show _<=(d.S++[s]).length;simp
  ·show(d.S++[s]).length<=_;simp
  ·show d.S.length+1<(d.S++[s]).length+1;simp
theorem Sx{p:PS}{d:DM}(h:Sw p d)(all:C4)(b:Nat)(r:Row):Sw p (ep p all b r d).2/\d.S.length<=(ep p all b r d).2.S.length/\(ep p all b r d).2.S.length<=d.S.length+1:=by
 unfold ep;split
 ·exact⟨h,Nat.le_refl _,Nat.le_succ _⟩
 ·obtain⟨h1,h2,h3,_⟩:=EJ h (Cy p all b)
  exact⟨h1,h2,h3⟩
theorem EK{p:PS}(all:C4):∀(f b:Nat) (r:Row) (d:DM),Sw p d->d.S.length+1<=200->Sw p (jF p all f b r d).2/\(jF p all f b r d).2.S.length+1<=201/\d.S.length<=(jF p all f b r d).2.S.length
  |0,_,_,d,h,hl=>⟨h,(by show d.S.length+1<=201;omega),Nat.le_refl _⟩
  | f +1,b,r,d,h,hl=>by
    obtain⟨h1,h2,h3⟩:=Sx h all b r;rw[jF];split
    · exact⟨h1,by omega,h2⟩
    · obtain⟨q1,q2,q3⟩:=EK all f (b+1) (ep p all b r d).1 _ h1 (by omega)
      exact⟨q1,q2,by omega⟩
theorem EL(c:C4)(l:List Int){k:Nat}(hk:k<l.length):lK c (l.take (k+1))=(lK c (l.take k)).bit l[k].toNat:=by
 unfold lK;rw[List.take_succ_eq_append_getElem hk,List.foldl_append];rfl
end jQ
namespace bK
open Go.Shelf
def EM:Go.Shelf.Ren:=⟨fun|189=>148|125=>176|257=>175|128=>197|129=>198|294=>188|295=>189|296=>190|297=>191|298=>192|299=>193|216=>194|300=>195|301=>196|328=>210|329=>211|330=>212|331=>213|332=>214|215=>207|343=>218|n=>n,fun|28=>26|3=>3|46=>281|0=>0|51=>360|53=>114|4=>4|183=>354|182=>353|131=>178|5=>5|9=>9|218=>369|222=>149|228=>376|229=>377|n=>n,fun|n=>n⟩
theorem JG:Go.Proofs.Lays.n189 Tryz.prog EM:={
 mixed:=by kernel_rfl
 f125:=Tryz.func176.trans (congrArg some (by kernel_rfl))
 f128:=Tryz.func197.trans (congrArg some (by kernel_rfl))
 f129:=Tryz.func198.trans (congrArg some (by kernel_rfl))
 f189:=Tryz.func148.trans (congrArg some (by kernel_rfl))
 f215:=Tryz.func207.trans (congrArg some (by kernel_rfl))
 f216:=Tryz.func194.trans (congrArg some (by kernel_rfl))
 f257:=Tryz.func175.trans (congrArg some (by kernel_rfl))
 f294:=Tryz.func188.trans (congrArg some (by kernel_rfl))
 f295:=Tryz.func189.trans (congrArg some (by kernel_rfl))
 f296:=Tryz.func190.trans (congrArg some (by kernel_rfl))
 f297:=Tryz.func191.trans (congrArg some (by kernel_rfl))
 f298:=Tryz.func192.trans (congrArg some (by kernel_rfl))
 f299:=Tryz.func193.trans (congrArg some (by kernel_rfl))
 f300:=Tryz.func195.trans (congrArg some (by kernel_rfl))
 f301:=Tryz.func196.trans (congrArg some (by kernel_rfl))
 f328:=Tryz.func210.trans (congrArg some (by kernel_rfl))
 f329:=Tryz.func211.trans (congrArg some (by kernel_rfl))
 f330:=Tryz.func212.trans (congrArg some (by kernel_rfl))
 f331:=Tryz.func213.trans (congrArg some (by kernel_rfl))
 f332:=Tryz.func214.trans (congrArg some (by kernel_rfl))
 f343:=Tryz.func218.trans (congrArg some (by kernel_rfl))
 t0:=Tryz.underlying0
 a0:=Tryz.isAgg0
 z0:=Tryz.sizeOf0
 v0:=Tryz.zeroValue0
 t3:=Tryz.underlying3
 a3:=Tryz.isAgg3
 z3:=Tryz.sizeOf3
 v3:=Tryz.zeroValue3
 t4:=Tryz.underlying4
 a4:=Tryz.isAgg4
 z4:=Tryz.sizeOf4
 v4:=Tryz.zeroValue4
 t5:=Tryz.underlying5
 a5:=Tryz.isAgg5
 z5:=Tryz.sizeOf5
 v5:=Tryz.zeroValue5
 t9:=Tryz.underlying9
 a9:=Tryz.isAgg9
 z9:=Tryz.sizeOf9
 v9:=Tryz.zeroValue9
 t28:=Tryz.underlying26
 a28:=Tryz.isAgg26
 z28:=Tryz.sizeOf26
 v28:=Tryz.zeroValue26
 t46:=Tryz.underlying281
 a46:=Tryz.isAgg281
 z46:=Tryz.sizeOf281
 v46:=Tryz.zeroValue281
 t51:=Tryz.underlying360
 a51:=Tryz.isAgg360
 z51:=Tryz.sizeOf360
 v51:=Tryz.zeroValue360
 t53:=Tryz.underlying114
 a53:=Tryz.isAgg114
 z53:=Tryz.sizeOf114
 v53:=Tryz.zeroValue114
 t131:=Tryz.underlying178
 a131:=Tryz.isAgg178
 z131:=Tryz.sizeOf178
 v131:=Tryz.zeroValue178
 t182:=Tryz.underlying353
 a182:=Tryz.isAgg353
 z182:=Tryz.sizeOf353
 v182:=Tryz.zeroValue353
 t183:=Tryz.underlying354
 a183:=Tryz.isAgg354
 z183:=Tryz.sizeOf354
 v183:=Tryz.zeroValue354
 t218:=Tryz.underlying369
 a218:=Tryz.isAgg369
 z218:=Tryz.sizeOf369
 v218:=Tryz.zeroValue369
 t222:=Tryz.underlying149
 a222:=Tryz.isAgg149
 z222:=Tryz.sizeOf149
 v222:=Tryz.zeroValue149
 t228:=Tryz.underlying376
 a228:=Tryz.isAgg376
 z228:=Tryz.sizeOf376
 v228:=Tryz.zeroValue376
 t229:=Tryz.underlying377
 a229:=Tryz.isAgg377
 z229:=Tryz.sizeOf377
 v229:=Tryz.zeroValue377}
open Go.Sort Go.RowKit in
theorem slices_Sort_int(zR off cap:Nat)(zs:List Int)(w:World)(hH:Holds (Value.int .i64) w zR off zs.toArray)(hblk:zR<w.heap.size)(hsz:zs.length<4611686018427387904):
 Calls Tryz.prog 148 #[.slice (some ⟨zR,off,none⟩) zs.length cap] w fun e w'=>
  e= .returned (.tuple #[])/\∃n os,w'=grow (putRow (Value.int .i64) (Sort.ahead w n) zR off (zs.mergeSort fun x y=>decide (x<=y)).toArray) os:=Any.slices_Sort_int JG zR off cap zs w hH hblk hsz
def zX:Go.Shelf.Ren:=⟨fun|20=>149|n=>n,fun|22=>26|3=>3|4=>4|0=>0|n=>n,fun|n=>n⟩
theorem A5:Go.Proofs.Lays2.n20 Tryz.prog zX:={
 mixed:=by kernel_rfl
 f20:=Tryz.func149.trans (congrArg some (by kernel_rfl))
 t0:=Tryz.underlying0
 a0:=Tryz.isAgg0
 z0:=Tryz.sizeOf0
 v0:=Tryz.zeroValue0
 t3:=Tryz.underlying3
 a3:=Tryz.isAgg3
 z3:=Tryz.sizeOf3
 v3:=Tryz.zeroValue3
 t4:=Tryz.underlying4
 a4:=Tryz.isAgg4
 z4:=Tryz.sizeOf4
 v4:=Tryz.zeroValue4
 t22:=Tryz.underlying26
 a22:=Tryz.isAgg26
 z22:=Tryz.sizeOf26
 v22:=Tryz.zeroValue26
 i3:=by kernel_rfl}
open Go.RowKit Go.Lib Go.Sort in
theorem slices_Compact_int(zR off cap:Nat)(zs:List Int)(w:World)(hH:Holds (Value.int .i64) w zR off zs.toArray)(hsz:zs.length<=9223372036854775807)(nc:zs.length<=cap):
 Calls Tryz.prog 149 #[.slice (some ⟨zR,off,none⟩) zs.length cap] w fun e w'=>e= .returned (.slice (some ⟨zR,off,none⟩) (Lib.compact zs).length cap)/\∃q,w'=putRow (Value.int .i64) (Sort.ahead w q) zR off (Lib.compact zs++List.replicate (zs.length-(Lib.compact zs).length) 0).toArray:=Any.slices_Compact_int A5 zR off cap zs w hH hsz nc
open Go.RowKit Go.Lib Go.Sort in
theorem slices_Compact_int_empty(a:Option Addr)(cap:Nat)(w:World):
 Calls Tryz.prog 149 #[.slice a 0 cap] w fun e w'=>e= .returned (.slice a 0 cap)/\w'=w:=Any.slices_Compact_int_empty A5 a cap w
open Go.RowKit Go.Sort in
theorem slices_Sort_int_none(p:Option Addr)(cap:Nat)(w:World):
 Calls Tryz.prog 148 #[.slice p 0 cap] w fun e w'=>e= .returned (.tuple #[])/\w'=w:=Any.slices_Sort_int_none JG p cap w
end bK
namespace bK
open Go.RowKit bO dc Go.Sort
theorem LD(w:World)(n g:Nat)(d:Array Int)(os:Array Obj){k:Nat}(hk:k<w.heap.size)(hg:k≠g):(grow (putRow (Value.int .i64) (Go.Sort.ahead w n) g 0 d) os).heap[k]?=w.heap[k]?:=by
 rw[heap_grow_old _ _ (by rw[size_putRow];exact hk)];show(w.heap.modify g _)[k]?=w.heap[k]?
 rw[Array.getElem?_modify,if_neg (fun h=>hg h.symm)]
theorem JH{B:bC}{w:World}{e:TypeId}{g cap m:Nat}{zs:List Int}(hm:Mem B [aM e 1 (.slice (some ⟨g,0,none⟩) m cap) m (zs.map (Value.int .i64))] w)(d:Array Int)(hd:d.size=m)(m':Nat)(h':m'<=m)(n:Nat)(os:Array Obj):
 Mem B [aM e 1 (.slice (some ⟨g,0,none⟩) m' cap) m' ((d.toList.take m').map (Value.int .i64))] (grow (putRow (Value.int .i64) (Go.Sort.ahead w n) g 0 d) os):=by
 have ho:w.ownsRow 0 e 1 (.slice (some ⟨g,0,none⟩) m cap) m (zs.map (Value.int .i64)):=hm.get (i:=0) rfl;obtain⟨hl,hr⟩:=ho;rcases hr with⟨h,_⟩|⟨g2,Wh,kK,hv,_,hg,hc,hx,hs,ht⟩
 ·cases h
 cases hv
 have EN:B.may g:=(hm.owns.all 0 _ rfl).2 g (.inl rfl);have hgw:g<w.heap.size:=(Array.getElem?_eq_some_iff.1 hg).1;have OS:(grow (putRow (Value.int .i64) (Go.Sort.ahead w n) g 0 d) os).heap[g]?=some (.cells (putCells (Value.int .i64) 0 d kK) e (0,0)):=by
  rw[heap_grow_old _ _ (by rw[size_putRow];exact hgw)];show(w.heap.modify g (onCells (putCells (Value.int .i64) 0 d)))[g]?=_
  rw[Array.getElem?_modify,if_pos rfl,hg];rfl
 refine⟨⟨hm.low.os,hm.low.tape,hm.low.output,?_,fun k hk hx=>?_⟩,dH.one ⟨?_,.inr ⟨g,cap,_,rfl,Nat.zero_le _,OS,by omega,hx,?_,?_⟩⟩ fun k hk=>?_⟩
 ·rw[size_grow,size_putRow];exact Nat.le_trans hm.low.size (Nat.le_add_right _ _)
 ·have hkg:k≠g:=fun e=>by
   subst e;rcases EN with h|h
   ·omega
   ·exact hx h
  rw[LD w n g d os (Nat.lt_of_lt_of_le hk hm.low.size) hkg];exact hm.low.block k hk hx
 ·rw[List.length_map,List.length_take,Array.length_toList,hd];omega
 ·unfold putCells;rw[Array.size_mapIdx];exact hs
 ·apply List.ext_getElem?
  intro j;rw[Nat.mul_one,List.getElem?_take]
  by_cases hj:j<m'
  ·have R5:j<kK.size:=by omega
   rw[if_pos hj,List.getElem?_map,List.getElem?_take,if_pos hj,Array.getElem?_toList,Array.getElem?_toList];unfold putCells;rw[Array.getElem?_mapIdx,Array.getElem?_eq_getElem R5,Option.map_some,if_pos ⟨Nat.zero_le _,by omega⟩,Nat.sub_zero,getElem!_pos d j (by omega),Array.getElem?_eq_getElem (by omega:j<d.size)];rfl
  ·rw[if_neg hj,List.getElem?_map,List.getElem?_take,if_neg hj];rfl
 ·rcases hk with h|h
  ·simp only[aM,Value.ownBlock,Option.some.injEq]at h;subst h;exact EN
  ·exact h.elim
theorem A6{w:World}{e:TypeId}{g cap m:Nat}{zs:List Int}(ho:w.ownsRow 0 e 1 (.slice (some ⟨g,0,none⟩) m cap) m (zs.map (Value.int .i64))):Holds (Value.int .i64) w g 0 zs.toArray/\g<w.heap.size/\m=zs.length/\m<=cap:=by
 obtain⟨hl,hr⟩:=ho;rcases hr with⟨h,_⟩|⟨g2,Wh,kK,hv,_,hg,hc,hx,hs,ht⟩
 ·cases h
 cases hv
 rw[List.length_map]at hl;refine⟨fun j hj=>?_,(Array.getElem?_eq_some_iff.1 hg).1,by omega,hc⟩;have mi:j<zs.length:=by simpa using hj
 have YO:kK[j]?=some (.int .i64 zs[j]):=by
  have:=congrArg (fun l=>l[j]?) ht;rw[Nat.mul_one,List.getElem?_take,if_pos (by omega),Array.getElem?_toList,List.getElem?_map,List.getElem?_eq_getElem mi]at this;exact this
 refine⟨?_,?_⟩
 ·rw[cell_of_row w g (0+j) _ _ _ hg,Nat.zero_add,YO,getElem!_pos zs.toArray j hj];rfl
 ·unfold World.frozen?
  rw[hg];simp
def pU(l:List Int):List Int:=l.mergeSort fun x y=>decide (x<=y)
theorem EO(v:Value)(l:List Int)(w:World)(B:bC)(hm:Mem B [aM 3 1 v l.length (l.map (Value.int .i64))] w)(hl:l.length<4611686018427387904):
 Calls Tryz.prog 148 #[v] w (c_ ⟨fun(_:Unit)=>True,fun _=> .tuple #[],fun _=>[aM 3 1 v l.length ((pU l).map (Value.int .i64))]⟩ B):=by
 have ho:w.ownsRow 0 3 1 v l.length (l.map (Value.int .i64)):=hm.get (i:=0) rfl;have AA:=ho;rcases ho.2 with⟨rfl,h0⟩|⟨g,cap,kK,rfl,_,hg,hc,hx,hs,ht⟩
 ·refine(slices_Sort_int_none none 0 w).mono fun e w' ⟨he,hw⟩=>⟨(),trivial,he,?_⟩
  obtain rfl:l=[]:=List.length_eq_zero_iff.1 h0;rw[hw];exact(by simpa[pU]using hm)
 ·obtain⟨h1,h2,h3,h4⟩:=A6 AA
  refine(slices_Sort_int g 0 cap l w h1 h2 hl).mono fun e w' ⟨he,n,os,hw⟩=>⟨(),trivial,he,?_⟩;have hlen:(pU l).length=l.length:=List.length_mergeSort _;have:=JH hm (pU l).toArray (by simp[hlen]) l.length (Nat.le_refl _) n os;rw[List.take_of_length_le (by simp[hlen])]at this;rw[hw];exact this
theorem yl(v:Value)(l:List Int)(w:World)(B:bC)(hm:Mem B [aM 3 1 v l.length (l.map (Value.int .i64))] w):
 Calls Tryz.prog 149 #[v] w (c_ ⟨fun(_:Value)=>True,fun v'=>v',fun v'=>[aM 3 1 v' (Lib.compact l).length ((Lib.compact l).map (Value.int .i64))]⟩ B):=by
 have ho:w.ownsRow 0 3 1 v l.length (l.map (Value.int .i64)):=hm.get (i:=0) rfl;have AA:=ho;rcases ho.2 with⟨rfl,h0⟩|⟨g,cap,kK,rfl,_,hg,hc,hx,hs,ht⟩
 ·refine(slices_Compact_int_empty none 0 w).mono fun e w' ⟨he,hw⟩=>⟨.slice none 0 0,trivial,he,?_⟩
  obtain rfl:l=[]:=List.length_eq_zero_iff.1 h0;rw[hw];exact hm
 ·obtain⟨h1,h2,h3,h4⟩:=A6 AA
  refine(slices_Compact_int g 0 cap l w h1 (by unfold maxLen at hx;omega) (by omega)).mono fun e w' ⟨he,n,hw⟩=>⟨.slice (some ⟨g,0,none⟩) (Lib.compact l).length cap,trivial,he,?_⟩;have hle:(Lib.compact l).length<=l.length:=Lib.compact_length_le l;have:=JH hm (Lib.compact l++List.replicate (l.length-(Lib.compact l).length) 0).toArray (by simp;omega) (Lib.compact l).length hle n #[];rw[grow_empty]at this;simp only[List.toList_toArray,List.take_left]at this;rw[hw];exact this
end bK
namespace bK
open Go.RowKit bO dc
theorem JI(l:List Int):∀u∈l.flatMap bO.dB,u.oneCell'=true:=by
 intro u hu;obtain⟨f,_,h⟩:=List.mem_flatMap.1 hu;simp only[bO.dB,List.mem_cons,List.not_mem_nil,or_false]at h;subst h;rfl
theorem EP(l:List Int):l.flatMap bO.dB=l.map (.int .i64):=bO.UB l
end bK
namespace bK
open Go.RowKit bO dc
theorem EQ(a:Int):(bO.dB a).length=1:=rfl
theorem oQ(v:Value)(l:List Int)(w:World)(hs:Sl w v l.length (l.flatMap bO.dB))(hl:l.length*8<=140737488355328):
  Calls Tryz.prog 97 #[v] w (bM (bZ 3 1 l.length (l.flatMap bO.dB) id) w):=by
 obtain⟨base,cap,rfl,nc,mj,ef⟩:=hs;unfold maxLen at mj;refine enter (args:=[.slice base l.length cap]) (n:=8) Tryz.func97 rfl rfl rfl ?_;have sb:∀w',Gr w w'->Sl w' (.slice base l.length cap) l.length (l.flatMap bO.dB):=fun w' hg=>Sl.gr ⟨base,cap,rfl,nc,mj,ef⟩ hg;clear ef
 cases base with
 | none=>
  repeat(first|refine GC ?_|refine gV (nb aT.eq rfl rfl rfl) ?_|refine GB ?_)
  have h0:l=[]:=by
   cases l with
   |nil=>rfl
   |cons x l=>obtain⟨_,_,h,_,_,h2⟩:=sb w (Gr.refl w);simp only[Value.slice.injEq]at h;obtain⟨rfl,_⟩:=h;obtain⟨b,off,h,_⟩:=h2 (by simp);cases h
  subst h0;refine dq 3 1 ?_;exact b9 rfl rfl fun w hm=>hm.meets (S:=bZ 3 1 0 [] id) _ trivial [0] (by decide) rfl
 |some p=>
  repeat(first|refine GC ?_|refine gV (nb aT.eq rfl rfl rfl) ?_|refine GB ?_)
  refine B6 rfl fun g=>?_
  try refine GA ?_
  refine dw (i:=0) rfl (fun w' hm=>sb w' hm.below) rfl rfl (ka EQ l) (JI l) (by omega) (by omega) rfl fun v'=>?_;rw[List.nil_append]
  try refine GA ?_
  refine b9 rfl rfl fun w hm=>?_;exact hm.meets (S:=bZ 3 1 l.length (l.flatMap bO.dB) id) v' trivial [0] (by decide) (by simp[bZ])
end bK
namespace bK
open Go.RowKit bO dc de
theorem nk(l:List Int):l.flatMap bO.dB=l.map (Value.int .i64):=by
 induction l with
 |nil=>rfl
 |cons x r ih=>rw[List.flatMap_cons,ih];rfl
abbrev eH(v:Value)(l:List Int):bI:=aM 3 1 v l.length (l.map (Value.int .i64))
def oR(l:List Int):Spec Value:=⟨fun _=>True,fun v=>v,fun v=>[eH v l]⟩
theorem fj(va vb:Value)(a b:List Int)(w:World)(ha:Sl w va a.length (a.map (Value.int .i64)))(hb:Sl w vb b.length (b.map (Value.int .i64)))(hla:a.length<=1000000)(hlb:b.length<=1000000):
 Calls Tryz.prog 113 #[va,vb] w (bM (oR (mP a b)) w):=by
 have ir:=fun w' (hg:Gr w w')=>oQ va a w' (by rw[nk];exact ha.gr hg) (by omega);refine enter (args:=[va,vb]) (n:=14) Tryz.func113 rfl rfl rfl ?_
 try refine GA ?_
 refine aI (jc aj.en rfl rfl) (fun w hm=>ir _ hm.below) rfl rfl rfl ?_;intro v1 _;refine zL ?_;rw[nk]
 try refine GA ?_
 refine dw (i:=0) (bytes:=8) (m:=a.length) (xs:=a.map (Value.int .i64)) (k:=b.length) (ys:=b.map (Value.int .i64)) rfl (VM hb) rfl rfl (by rw[List.length_map,Nat.mul_one]) (fun u hu=>by obtain⟨x,_,rfl⟩:=List.mem_map.1 hu;rfl) (by omega) (by omega) rfl fun v2=>?_;rw[<-List.map_append,<-List.length_append];refine zL ?_
 try refine GA ?_
 refine aR [0] [] (by decide) rfl rfl (jc aj.en rfl rfl) (fun w hm hb=>EO v2 (a++b) w _ hb (by rw[List.length_append];omega)) rfl rfl rfl ?_;intro _ _;refine zL ?_
 try refine GA ?_
 rw[show(a++b).length=(bK.pU (a++b)).length from(List.length_mergeSort _).symm];refine aR [0] [] (by decide) rfl rfl (jc aj.en rfl rfl) (fun w hm hb=>yl v2 (bK.pU (a++b)) w _ hb) rfl rfl rfl ?_;intro v3 _;refine zL ?_
 try refine GA ?_
 exact b9 rfl rfl fun w hm=>hm.meets (S:=oR (mP a b)) v3 trivial [0] (by decide) rfl
end bK
namespace bK
open Go.RowKit bO dc de
def th(v:Value):List Value:=[v]
theorem ER(v:Value):(th v).length=1:=rfl
theorem LF(l:List Value):l.flatMap th=l:=by
 induction l with
 |nil=>rfl
 |cons x r ih=>rw[List.flatMap_cons,ih];rfl
theorem Cz{w w':World}{e:TypeId}{size n:Nat}{v:Value}{xs:List Value}(h:w.ownsRow 0 e size v n xs)(hk:∀k,v.ownBlock=some k->w'.heap[k]?=w.heap[k]?):w'.ownsRow 0 e size v n xs:=by
 refine⟨h.1,?_⟩;rcases h.2 with hn|⟨g,cap,kK,rfl,sG,hg,rest⟩
 ·exact .inl hn
 ·exact .inr ⟨g,cap,kK,rfl,sG,by rw[hk g rfl];exact hg,rest⟩
def Wi:sC (List Int):=
  ⟨1,fun F w cs l=>∃v,cs=[v]/\(∀x∈l,bO.cV x)/\w.ownsRow 0 3 1 v l.length (l.map (Value.int .i64))/\∀k,v.ownBlock=some k->F k,fun⟨_,h,_⟩=>by rw[h];rfl,
    fun⟨v,h1,h2,h3,h4⟩ hk=>⟨v,h1,h2,Cz h3 fun k h=>hk k (h4 k h),h4⟩,fun⟨v,h1,h2,h3,h4⟩ hk=>⟨v,h1,h2,h3,fun k h=>hk k (h4 k h)⟩⟩
abbrev sc(v:Value)(vs:List Value):bI:=aM 26 1 v vs.length (vs.flatMap th)
abbrev pW(F:Nat->Prop)(vs:List Value)(jW:List (List Int)):bI:=dz Wi F (vs.map th) jW
def JJ(vc vr vf vfol vl ve:Value)(aX:Int):Array Value:=#[vc,vr,vf,vfol,vl,ve,.int .i64 aX]
theorem Sy{α:Type}{s:sC α}{F F2:Nat->Prop}{fu:List (List Value)}{cs:List Value}{l:List α}{a:α}{w:World}{k:Nat}(he:(dz s F fu l).holds w)(hs:s.is F2 w cs a)(h2:∀k,F2 k->k<w.heap.size):
 (dz s (fun k=>F k\/F2 k) (fu.set k cs) (l.set k a)).holds w:=by
 obtain⟨⟨h1,h3⟩,h4⟩:=he;refine⟨⟨by simp[h1],fun i hi lg=>?_⟩,fun k hk=>hk.elim (h4 k) (h2 k)⟩;rw[List.getElem_set,List.getElem_set]
 by_cases c:k=i
 ·subst c
  rw[if_pos rfl,if_pos rfl];exact s.mono hs fun q hq=> .inr hq
 ·rw[if_neg c,if_neg c]
  exact s.mono (h3 i (by simpa using hi) (by simpa using lg)) fun q hq=> .inl hq
theorem OT{F:Nat->Prop}{vs:List Value}{jW:List (List Int)}{w:World}(he:(pW F vs jW).holds w){k:Nat}(hk:k<jW.length)(kp:k<vs.length):Sl w vs[k] jW[k].length (jW[k].map (Value.int .i64)):=by
 obtain⟨⟨h1,h3⟩,_⟩:=he;obtain⟨v,hv,_,hs,_⟩:=h3 k hk (by simpa using kp);rw[List.getElem_map]at hv;unfold th at hv;simp only[List.cons.injEq,and_true]at hv;rw[hv];exact Sl.cI hs
theorem Wj{w:World}{v:Value}{l:List Int}(hp:∀x∈l,bO.cV x)(h:(eH v l).holds w):Wi.is (fun k=>v.ownBlock=some k) w [v] l:=
 ⟨v,rfl,hp,h,fun _ h=>h⟩
def JK(g:Nat)(vc vr vf vfol vl ve:Value)(aX:Int)(va vb:Value)(jW:List (List Int))(last first:List Int):Spec (List Value×(Nat->Prop)):=
 ⟨fun x=>x.1.length=jW.length,fun _=> .tuple #[],fun x=>[aw g (JJ vc vr vf vfol vl ve aX) 242,sc vfol x.1,pW x.2 x.1 (dV jW last first),eH va last,eH vb first]⟩
theorem ES(jW:List (List Int))(last first:List Int){k:Nat}(hk:k<last.length):dV jW (last.take (k+1)) first=(dV jW (last.take k) first).set last[k].toNat (mP ((dV jW (last.take k) first).getD last[k].toNat []) first):=by
 unfold dV;rw[List.take_succ_eq_append_getElem hk,List.foldl_append];rfl
theorem ti(g:Nat)(vc vr vf vfol vl ve:Value)(aX:Int)(va vb:Value)(vs:List Value)(F:Nat->Prop)(jW:List (List Int))(last first:List Int)(w:World)(B:bC)
 (hvs:vs.length=jW.length) (hn:jW.length<=100000) (aaY:∀l∈jW,A3 jW.length l) (hla:A3 jW.length last) (Wk:A3 jW.length first)
 (hm:Mem B [aw g (JJ vc vr vf vfol vl ve aX) 242,sc vfol vs,pW F vs jW,eH va last,eH vb first] w):
 Calls Tryz.prog 147 #[.pointer (some ⟨g,0,none⟩),va,vb] w (c_ (JK g vc vr vf vfol vl ve aX va vb jW last first) B):=by
 have abJ:=gJ hla;have aaZ:=gJ Wk;have Wl:∃a c,va= .slice a last.length c:=by
  obtain⟨base,cap,h,_⟩:=Sl.cI (show w.ownsRow 0 3 1 va last.length (last.map (Value.int .i64))from hm.get (i:=3) rfl);exact⟨base,cap,h⟩
 obtain⟨aa,ca,rfl⟩:=Wl;refine dC hm (args:=[.pointer (some ⟨g,0,none⟩),.slice aa last.length ca,vb]) (n:=32) Tryz.func147 rfl rfl rfl ?_;clear hm
 try refine GA ?_
 refine dv (ι:=Nat×List Value×(Nat->Prop)) (fun(k,vs,F)=>k<=last.length/\vs.length=jW.length) (fun(k,_,_)=>[(0,.pointer (some ⟨g,0,none⟩)),(2,vb),(8,.slice aa last.length ca),(9,.int .i64 last.length),(10,.int .i64 (k:Int))])
  (fun(k,vs,F)=>[aw g (JJ vc vr vf vfol vl ve aX) 242,sc vfol vs,pW F vs (dV jW (last.take k) first),eH (.slice aa last.length ca) last,eH vb first]) (fun(k,_,_)=>last.length-k) (0,vs,F) ⟨Nat.zero_le _,hvs⟩ ?_
 clear hvs vs F;rintro⟨k,vs,F⟩ ⟨i1,i2⟩;dsimp only at i1 i2⊢
 by_cases c6:k<last.length
 ·have hstep:=ES jW last first c6
  have aa0:=og (n:=jW.length) Wk.2 (last.take k) jW aaY;have hlen:=iE jW (last.take k) first;have hx:=hla.2 last[k] (List.getElem_mem c6);have hgx:last[k]?=some last[k]:=List.getElem?_eq_getElem c6;generalize dV jW (last.take k) first=fo at*;generalize last[k]=x at*;obtain⟨xn,rfl⟩:=Int.eq_ofNat_of_zero_le hx.1;rw[Int.toNat_natCast]at hstep;have YP:xn<fo.length:=by omega
  have sd:fo.getD xn []=fo[xn]:=by rw[List.getD_eq_getElem?_getD,List.getElem?_eq_getElem YP];rfl
  rw[sd]at hstep;have hrx:=aa0 fo[xn] (List.getElem_mem YP);have CA:=gJ hrx;have Ru:=oe hrx.2 Wk.2;have hul:=gJ Ru;refine fv (i:=1) (φ:=∃gf cap,vfol= .slice (some ⟨gf,0,none⟩) vs.length cap/\vs.length<=cap) rfl (fun w h=>by
   obtain⟨h1,h2⟩:=(show w.ownsRow 0 26 1 vfol vs.length (vs.flatMap th)from h);rcases h2 with⟨_,h0⟩|⟨gf,cap,kK,hv,_,_,hc,_⟩
   ·omega
   ·exact⟨gf,cap,hv,hc⟩) fun hvf=>?_
  obtain⟨gf,Wm,rfl,hcf⟩:=hvf;refine fv (i:=3) (φ:=∃ga,aa=some ⟨ga,0,none⟩) rfl (fun w h=>by
   obtain⟨h1,h2⟩:=(show w.ownsRow 0 3 1 (.slice aa last.length ca) last.length (last.map (Value.int .i64))from h);rcases h2 with⟨_,h0⟩|⟨gf,cap,kK,hv,_,_,hc,_⟩
   ·omega
   ·cases hv;exact⟨gf,rfl⟩) fun Wl=>?_
  obtain⟨ga,rfl⟩:=Wl;have YQ:xn<vs.length:=by omega
  have fc:∀(L:List bI) (hi:L[1]?=some (sc (.slice (some ⟨gf,0,none⟩) vs.length Wm) vs)),At B L ⟨gf,0+xn*1+0,none⟩ vs[xn]:=fun L hi=>kA ER hi YQ 0 _ rfl;have aa1:∀(L:List bI) (hi:L[3]?=some (eH (.slice (some ⟨ga,0,none⟩) last.length ca) last)),At B L ⟨ga,0+k*1,none⟩ (.int .i64 (xn:Int)):=fun L hi=>ix hi (by rw[List.getElem?_map,Nat.zero_add,Nat.mul_one,hgx];rfl)
  repeat(first|refine GA ?_|refine gV (aC aT.eq ak.ty rfl rfl c6) ?_|refine gV (J (v:= .int .i64 (xn:Int)) ak.ty rfl (aa1 _ rfl)) ?_)
  (repeat refine a8 ?_)
  refine cU ([aw g (JJ vc vr vf (.slice (some ⟨gf,0,none⟩) vs.length Wm) vl ve aX) 242]) (.calm 0 (.calm 1 (.calm 2 (.calm 3 (.calm 4 (.calm 5 (.calm 6 (.calm 7 (.calm 8 (.calm 9 (.calm 10 (.calm 11 (.calm 12 (.calm 14 (.one 13 (.one 15 (.calm 16 (.one 17 (.done))))))))))))))))))) (bz [0]) ?_
  repeat(first|refine GW ?_|(refine GN ?_;first|refine QW (J (v:= .slice (some ⟨gf,0,none⟩) vs.length Wm) ak.ty rfl (ah (i:=0) rfl rfl)) ?_|refine QW (aC aT.eq ak.ty rfl rfl YQ) ?_))
  refine ap rfl (aV (J (v:=vs[xn]) ak.ty rfl (fc _ rfl)) rfl rfl rfl (av (bz [0]) ?_))
  try refine GW ?_
  refine ap rfl (aI (eK aj.en rfl rfl rfl) (fun w' hm=>fj vs[xn] vb fo[xn] first w' (OT (hm.get (i:=2) rfl) YP YQ) (Sl.cI (hm.get (i:=4) rfl)) (by omega) (by omega)) rfl rfl rfl ?_);intro v _
  conv=>arg 8;simp only[zJ,bZ,ret,id_eq,oR]
  refine aD (i:=5) rfl fun oL tR=>?_;refine av (bz [0]) ?_
  repeat(first|refine GW ?_|(refine GN ?_;first|refine QW (aC aT.eq ak.ty rfl rfl YQ) ?_))
  refine ap rfl (ua ER (i:=1) (k:=xn) (l:=vs) (a:=v) ak.ty rfl rfl (by omega) YQ rfl rfl oL (by simp only[th,List.all_cons,List.all_nil,tR];rfl) (av (bz [0]) ?_))
  try refine GW ?_
  try refine GA ?_
  refine B_ (pW (fun k=>F k\/v.ownBlock=some k) (vs.set xn v) (fo.set xn (mP fo[xn] first))) 5 2 [0,1,3,4] (by decide) rfl rfl rfl (fun k hk=>hk.elim (fun h=>by cases h) fun h=>h.elim (fun h=> .inr (.inr h)) fun h=> .inl (.inl h)) (fun w hr he=>?_) ?_
  ·have:=Sy (k:=xn) he (Wj (fun x hx=>⟨by have:=Ru.2 x hx;omega,by have:=Ru.2 x hx;omega⟩) hr) fun k hk=>(eH v (mP fo[xn] first)).lt w hr k (.inl hk)
   rw[show([v]:List Value)=th v from rfl,<-List.map_set]at this;exact this
  refine cD [0,1,4,2,3] ?_;exact bB (k+1,vs.set xn v,fun k=>F k\/v.ownBlock=some k) ⟨by omega,by rw[List.length_set];exact i2⟩ (by show last.length-(k+1)<last.length-k;omega) (hl:=by dsimp only;rw[hstep];show _=[_,aM _ _ _ (vs.set xn v).length _,_,_,_];rw[List.length_set];rfl)
 ·obtain rfl:k=last.length:=by omega
  rw[List.take_of_length_le (Nat.le_refl _)]
  try refine GA ?_
  exact xG rfl fun w hm=>hm.bP (S:=JK g vc vr vf vfol vl ve aX (.slice aa last.length ca) vb jW last first) (vs,F) i2 [0,1,2,3,4] (by decide) rfl
end bK
namespace bK
open Go.RowKit bO dc bW eG de
def ur(B:bC)(k:Nat):Prop:=k<B.w.heap.size/\¬B.X k
theorem om{B:bC}{L:List bI}{b off:Nat}{cs:List Value}(hb:ur B b)(h:Rd B.w b off cs)(j:Nat)(v:Value)(hj:cs[j]?=some v):At B L ⟨b,off+j,none⟩ v:=fun _ hm=>
 rd_stay h (hm.low.block b hb.1 hb.2) j v hj
theorem Wn{B:bC}{Lx:List bI}{w:World}(hm:Mem B Lx w){k:Nat}(hk:ur B k):ur (bC.on w Lx) k:=by
 refine⟨Nat.lt_of_lt_of_le hk.1 hm.low.size,?_⟩;rintro⟨o,ho,hf⟩;obtain⟨i,hi⟩:=List.mem_iff_getElem?.1 ho;rcases(hm.owns.all i o hi).2 k hf with h|h
 ·have:=hk.1;omega
 ·exact hk.2 h
theorem dG{B:bC}{Lx:List bI}{w:World}{v:Value}{r:Rx}(hm:Mem B Lx w)(h:kM (ur B) B.w v r):kM (ur (bC.on w Lx)) w v r:=
 (h.stay fun k hk=>hm.low.block k hk.1 hk.2).mono fun _ hk=>Wn hm hk
structure Nc where
 vc:Value
 vr:Value
 vfol:Value
 vl:Value
 vs:List Value
 F:Nat->Prop
def ku(g:Nat)(vf ve:Value)(aX:Int)(x:Nc)(p:PS):List bI:=
 [aw g (JJ x.vc x.vr vf x.vfol x.vl ve aX) 242,aM 116 4 x.vc p.aJ.length (p.aJ.flatMap cZ),eH x.vr p.rules,sc x.vfol x.vs,pW x.F x.vs p.follow,aM 4 1 x.vl p.last.length (p.last.map Value.bool)]
def bJ(g:Nat)(vf ve:Value)(aX:Int)(R:Shape×PS):Spec (Nc×Value×Value):=
 ⟨fun x=>x.1.vs.length=R.2.follow.length,fun x=> .agg #[.bool R.1.empty,x.2.1,x.2.2],fun x=>ku g vf ve aX x.1 R.2++[eH x.2.1 R.1.first,eH x.2.2 R.1.last]⟩
theorem Hy(w:World):(Instr.build 244 (#[]:Array (Nat×Value))).run Tryz.prog w= .ok (.agg #[.bool false,.slice none 0 0,.slice none 0 0]) w:=by
 go_simp
theorem Hz(w:World):(Instr.build 244 #[(0,.bool true)]).run Tryz.prog w= .ok (.agg #[.bool true,.slice none 0 0,.slice none 0 0]) w:=by
 go_simp
def CB(M:Nat):Prop:=∀(e:Re),e.size<=M->∀(g:Nat) (vf ve:Value) (aX:Int) (p:PS) (x:Nc) (v:Value) (w:World) (B:bC),EH p->x.vs.length=p.follow.length->p.aJ.length+e.size<=100000->bO.cV aX->kM (ur B) B.w v (jf e)->Mem B (ku g vf ve aX x p) w->
 Calls Tryz.prog 112 #[.pointer (some ⟨g,0,none⟩),v] w (c_ (bJ g vf ve aX (bH aX e p)) B)
theorem LG(g:Nat)(vf ve:Value)(aX:Int)(p:PS)(x:Nc)(v:Value)(w:World)(B:bC)(hx:x.vs.length=p.follow.length)(hv:kM (ur B) B.w v (jf .none))(hm:Mem B (ku g vf ve aX x p) w):
 Calls Tryz.prog 112 #[.pointer (some ⟨g,0,none⟩),v] w (c_ (bJ g vf ve aX (bH aX .none p)) B):=by
 obtain⟨vk,rfl,_,Jo⟩:=hv;obtain⟨bk,ck,rfl,-⟩:=Jo;unfold ku at hm;refine dC hm (args:=[.pointer (some ⟨g,0,none⟩),mM (jf .none).kind (jf .none).pA (.slice bk (jf .none).kids.length ck)]) (n:=176) Tryz.func112 rfl rfl rfl ?_;clear hm;refine a8 (aL (a_ rfl rfl rfl fun g3=>aK rfl fun g4=>?_));refine zL ?_
 repeat(first|refine GA ?_|refine gV (J (v:= .int .i64 1) ak.ty rfl (ah (i:=6) rfl rfl)) ?_|refine gV (aP rfl Hy) ?_)
 refine fa 7 ?_;refine zL ?_
 try refine GA ?_
 refine dq 3 1 (dq 3 1 ?_);exact eR (i:=7) rfl rfl rfl rfl fun w hm=>hm.bP (S:=bJ g vf ve aX (bH aX .none p)) (x,.slice none 0 0,.slice none 0 0) hx [0,1,2,3,4,5,8,9] (by decide) rfl
theorem HA(g:Nat)(vf ve:Value)(aX:Int)(p:PS)(x:Nc)(v:Value)(w:World)(B:bC)(hx:x.vs.length=p.follow.length)(hv:kM (ur B) B.w v (jf .empty))(hm:Mem B (ku g vf ve aX x p) w):
 Calls Tryz.prog 112 #[.pointer (some ⟨g,0,none⟩),v] w (c_ (bJ g vf ve aX (bH aX .empty p)) B):=by
 obtain⟨vk,rfl,_,Jo⟩:=hv;obtain⟨bk,ck,rfl,-⟩:=Jo;unfold ku at hm;refine dC hm (args:=[.pointer (some ⟨g,0,none⟩),mM (jf .empty).kind (jf .empty).pA (.slice bk (jf .empty).kids.length ck)]) (n:=176) Tryz.func112 rfl rfl rfl ?_;clear hm;refine a8 (aL (a_ rfl rfl rfl fun g3=>aK rfl fun g4=>?_));refine zL ?_
 repeat(first|refine GA ?_|refine gV (J (v:= .int .i64 2) ak.ty rfl (ah (i:=6) rfl rfl)) ?_|refine gV (aP rfl Hz) ?_)
 refine fa 7 ?_;refine zL ?_
 try refine GA ?_
 refine dq 3 1 (dq 3 1 ?_);exact eR (i:=7) rfl rfl rfl rfl fun w hm=>hm.bP (S:=bJ g vf ve aX (bH aX .empty p)) (x,.slice none 0 0,.slice none 0 0) hx [0,1,2,3,4,5,8,9] (by decide) rfl
def ET(g:Nat)(aX:Int):bI:=
  ⟨some g,fun _=>False,fun w=>∃vc vr vf vfol vl ve,w.heap[g]?=some (.cells (JJ vc vr vf vfol vl ve aX) 242 (0,0)),fun w ⟨_,_,_,_,_,_,h⟩ k hk=>by simp only[Option.some.injEq,or_false]at hk;subst hk;exact(Array.getElem?_eq_some_iff.1 h).1,
    fun w w' ⟨vc,vr,vf,vfol,vl,ve,h⟩ _ hb=>⟨vc,vr,vf,vfol,vl,ve,by rw[hb g (.inl rfl)];exact h⟩⟩
theorem jG{B:bC}{L:List bI}{g:Nat}{vc vr vf vfol vl ve:Value}{aX:Int}(h:L[0]?=some (aw g (JJ vc vr vf vfol vl ve aX) 242)):∀w,Mem B L w->Mem B [ET g aX] w:=fun w hm=>by
 have h1:=hm.pick (L':=[aw g (JJ vc vr vf vfol vl ve aX) 242]) [0] (by decide) (by simp[h]);exact h1.R9 (i:=0) (ET g aX) rfl ⟨vc,vr,vf,vfol,vl,ve,h1.get (i:=0) rfl⟩ fun k hk=>hk
theorem Sz{B:bC}{L:List bI}{g i:Nat}{aX:Int}(h:L[i]?=some (ET g aX)):At B L ⟨g,6,none⟩ (.int .i64 aX):=fun w hm=>by
 obtain⟨vc,vr,vf,vfol,vl,ve,h⟩:=(hm.get h:(ET g aX).holds w);rw[cell_of_row w g 6 _ _ _ h];rfl
theorem JL(c:C4)(u:Value)(h:u∈cZ c):u.oneCell'=true:=by
 simp only[cZ,List.mem_cons,List.not_mem_nil,or_false]at h;rcases h with rfl|rfl|rfl|rfl<;>rfl
theorem LH(c:C4){k:Int}{vk v:Value}{j:Nat}(hj:(cZ c)[j]?=some v):((jx k c vk).toArray)[1+j]?=some v:=by
 match j,hj with
 |0,hj=>exact hj
 |1,hj=>exact hj
 |2,hj=>exact hj
 |3,hj=>exact hj
theorem HB(b b':Option Addr)(m m' k k':Nat)(w:World):(Instr.build 244 #[(1,.slice b m k),(2,.slice b' m' k')]).run Tryz.prog w= .ok (.agg #[.bool false,.slice b m k,.slice b' m' k']) w:=by
 go_simp
theorem A7(v:Value)(l:List Int)(x:Int):aM 3 1 v (l.length+1) (l.map (Value.int .i64)++[.int .i64 x])=eH v (l++[x]):=by
 show _=aM 3 1 v (l++[x]).length ((l++[x]).map (Value.int .i64))
 rw[List.length_append,List.map_append];rfl
theorem OU(v:Value)(l:List Value)(x:Value):aM 26 1 v (l.length+1) (l.flatMap th++[x])=sc v (l++[x]):=by
 show _=aM 26 1 v (l++[x]).length ((l++[x]).flatMap th)
 rw[List.length_append,List.flatMap_append];rfl
theorem uu(v:Value)(l:List Bool)(x:Bool):aM 4 1 v (l.length+1) (l.map Value.bool++[.bool x])=aM 4 1 v (l++[x]).length ((l++[x]).map Value.bool):=by
 rw[List.length_append,List.map_append];rfl
theorem CC{w:World}{g:Nat}{n:Int}(h:(aw g #[.int .i64 n] 3).holds w):(eH (.slice (some ⟨g,0,none⟩) 1 1) [n]).holds w:=
 ⟨rfl,.inr ⟨g,1,_,rfl,Nat.zero_le _,h,Nat.le_refl _,by decide,rfl,rfl⟩⟩
theorem LI(c:C4)(g:Nat)(vf ve:Value)(aX:Int)(p:PS)(x:Nc)(v:Value)(w:World)(B:bC)(hp:EH p)(hx:x.vs.length=p.follow.length)(hn:p.aJ.length<=100000)(hv:kM (ur B) B.w v (jf (.byte c)))(hm:Mem B (ku g vf ve aX x p) w):
 Calls Tryz.prog 112 #[.pointer (some ⟨g,0,none⟩),v] w (c_ (bJ g vf ve aX (bH aX (.byte c) p)) B):=by
 obtain⟨vk,rfl,_,Jo⟩:=hv;obtain⟨bk,ck,rfl,-⟩:=Jo;obtain⟨vc,vr,vfol,vl,vs,F⟩:=x;unfold ku at hm;dsimp only at hx hm;refine dC hm (args:=[.pointer (some ⟨g,0,none⟩),mM (jf (.byte c)).kind (jf (.byte c)).pA (.slice bk (jf (.byte c)).kids.length ck)]) (n:=176) Tryz.func112 rfl rfl rfl ?_;clear hm;refine a8 (aL (a_ rfl rfl rfl fun g3=>aK rfl fun g4=>?_));refine zL ?_;refine jB (i:=1) rfl fun bc cc Wo oL wh=>?_;subst Wo
 repeat(first|refine GA ?_|refine gV (J (v:= .int .i64 3) ak.ty rfl (ah (i:=6) rfl rfl)) ?_|refine gV (J (v:= .slice bc p.aJ.length cc) ak.ty rfl (ah (i:=0) rfl rfl)) ?_)
 (repeat refine a8 ?_)
 refine iW (ι:=Value) (fun _=>True) (fun _=>[(0,.pointer (some ⟨g,0,none⟩)),(3,.pointer (some ⟨g3,0,none⟩)),(4,.pointer (some ⟨g4,0,none⟩)),(5,.int .i64 p.aJ.length)])
  (fun zY=>[aw g (JJ zY vr vf vfol vl ve aX) 242,aM 116 4 zY (p.aJ++[c]).length ((p.aJ++[c]).flatMap cZ),eH vr p.rules,sc vfol vs,pW F vs p.follow,aM 4 1 vl p.last.length (p.last.map Value.bool),aw g4 #[.bool false,.slice none 0 0,.slice none 0 0] 244]) ?_ ?_
 ·refine cU ([aw g3 (jx 3 c (.slice bk 0 ck)).toArray 119]) (.calm 0 (.calm 1 (.calm 2 (.calm 3 (.calm 4 (.calm 6 (.calm 7 (.two 5 (.one 8 (.one 9 (.calm 10 (.calm 11 (.calm 12 (.one 13 (.done))))))) 8 (.one 5 (.one 9 (.calm 10 (.calm 11 (.calm 12 (.one 13 (.done))))))))))))))) (bz [6]) ?_
  repeat(first|refine GW ?_|(refine GN ?_;first|refine QW (aH (cs:=cZ c) ak.ty rfl rfl (fun j v hj=>ah (i:=0) rfl (LH c hj))) ?_))
  refine dE rfl rfl ?_ ?_
  ·refine aV (J (v:= .slice bc p.aJ.length cc) ak.ty rfl (ah (i:=0) rfl rfl)) rfl rfl rfl (av (bz [6]) ?_)
   refine ap rfl (dT (cs:=(cZ c).toArray) [kV c] rfl rfl rfl (by intro v hv;simp at hv;subst hv;rfl) rfl rfl rfl fun g33=>(av (bz [6]) ?_));refine ap rfl (dw (i:=1) (e:=116) (size:=4) (bytes:=32) (m:=p.aJ.length) (xs:=p.aJ.flatMap cZ) (k:=1) (ys:=cZ c) rfl (iA (i:=8) rfl (fun j u h=>by simpa using h) (Nat.le_refl 1) (by decide)) rfl rfl rfl (fun u hu=>JL c u hu) (by omega) (by omega) rfl fun zY=>(av (bz [6]) ?_))
   try refine GW ?_
   refine ap rfl (aD (i:=1) rfl fun gB jM=>aW (i:=0) rfl rfl rfl gB jM rfl (av (bz [6]) ?_))
   try refine GW ?_
   refine cD [0,1,2,3,4,5,7] ?_;exact dm zY trivial (by repeat' (first|exact True.intro|refine And.intro rfl ?_)) (by rw[List.length_append,List.flatMap_append];rfl)
  ·refine dT (cs:=(cZ c).toArray) [kV c] rfl rfl rfl (by intro v hv;simp at hv;subst hv;rfl) rfl rfl rfl fun g33=>(av (bz [6]) ?_)
   refine ap rfl (aV (J (v:= .slice bc p.aJ.length cc) ak.ty rfl (ah (i:=0) rfl rfl)) rfl rfl rfl (av (bz [6]) ?_));refine ap rfl (dw (i:=1) (e:=116) (size:=4) (bytes:=32) (m:=p.aJ.length) (xs:=p.aJ.flatMap cZ) (k:=1) (ys:=cZ c) rfl (iA (i:=8) rfl (fun j u h=>by simpa using h) (Nat.le_refl 1) (by decide)) rfl rfl rfl (fun u hu=>JL c u hu) (by omega) (by omega) rfl fun zY=>(av (bz [6]) ?_))
   try refine GW ?_
   refine ap rfl (aD (i:=1) rfl fun gB jM=>aW (i:=0) rfl rfl rfl gB jM rfl (av (bz [6]) ?_))
   try refine GW ?_
   refine cD [0,1,2,3,4,5,7] ?_;exact dm zY trivial (by repeat' (first|exact True.intro|refine And.intro rfl ?_)) (by rw[List.length_append,List.flatMap_append];rfl)
 clear oL wh;intro zY _
 try refine GA ?_
 (repeat refine a8 ?_)
 have CA:=hp.rules;refine iW (ι:=Value) (fun _=>True) (fun _=>[(0,.pointer (some ⟨g,0,none⟩)),(4,.pointer (some ⟨g4,0,none⟩)),(5,.int .i64 p.aJ.length)])
  (fun wQ=>[aw g (JJ zY wQ vf vfol vl ve aX) 242,aM 116 4 zY (p.aJ++[c]).length ((p.aJ++[c]).flatMap cZ),eH wQ (p.rules++[aX]),sc vfol vs,pW F vs p.follow,aM 4 1 vl p.last.length (p.last.map Value.bool),aw g4 #[.bool false,.slice none 0 0,.slice none 0 0] 244]) ?_ ?_
 ·refine cU ([ET g aX]) (.calm 0 (.calm 1 (.calm 2 (.calm 3 (.calm 4 (.calm 6 (.calm 7 (.calm 8 (.calm 9 (.two 5 (.one 10 (.one 11 (.calm 12 (.calm 13 (.calm 14 (.one 15 (.done))))))) 10 (.one 5 (.one 11 (.calm 12 (.calm 13 (.calm 14 (.one 15 (.done))))))))))))))))) (jG rfl) ?_
  repeat(first|refine GW ?_|(refine GN ?_;first|refine QW (J (v:= .int .i64 aX) ak.ty rfl (Sz (i:=0) rfl)) ?_))
  refine dE rfl rfl ?_ ?_
  ·refine aV (J (v:=vr) ak.ty rfl (ah (i:=0) rfl rfl)) rfl rfl rfl (av (jG rfl) ?_)
   refine ap rfl (dT (cs:=#[.int .i64 aX]) [.int .i64 aX] rfl rfl rfl (by intro v hv;simp at hv;subst hv;rfl) rfl rfl rfl fun g48=>(av (jG rfl) ?_));refine ap rfl (dw (i:=2) (e:=3) (size:=1) (bytes:=8) (m:=p.rules.length) (xs:=p.rules.map (Value.int .i64)) (k:=1) (ys:=[.int .i64 aX]) rfl (iA (i:=7) rfl (fun j u h=>by simpa using h) (Nat.le_refl 1) (by decide)) rfl rfl rfl (fun u hu=>by rw[List.mem_singleton.1 hu];rfl) (by omega) (by omega) rfl fun wQ=>(av (jG rfl) ?_))
   try refine GW ?_
   refine ap rfl (aD (i:=2) rfl fun gB jM=>aW (i:=0) rfl rfl rfl gB jM rfl (av (jG (vc:=zY) (vr:=wQ) (vf:=vf) (vfol:=vfol) (vl:=vl) (ve:=ve) rfl) ?_))
   try refine GW ?_
   refine cD [0,1,2,3,4,5,6] ?_;exact dm wQ trivial (by repeat' (first|exact True.intro|refine And.intro rfl ?_)) (by rw[<-A7 wQ p.rules aX];rfl)
  ·refine dT (cs:=#[.int .i64 aX]) [.int .i64 aX] rfl rfl rfl (by intro v hv;simp at hv;subst hv;rfl) rfl rfl rfl fun g48=>(av (jG rfl) ?_)
   refine ap rfl (aV (J (v:=vr) ak.ty rfl (ah (i:=0) rfl rfl)) rfl rfl rfl (av (jG rfl) ?_));refine ap rfl (dw (i:=2) (e:=3) (size:=1) (bytes:=8) (m:=p.rules.length) (xs:=p.rules.map (Value.int .i64)) (k:=1) (ys:=[.int .i64 aX]) rfl (iA (i:=7) rfl (fun j u h=>by simpa using h) (Nat.le_refl 1) (by decide)) rfl rfl rfl (fun u hu=>by rw[List.mem_singleton.1 hu];rfl) (by omega) (by omega) rfl fun wQ=>(av (jG rfl) ?_))
   try refine GW ?_
   refine ap rfl (aD (i:=2) rfl fun gB jM=>aW (i:=0) rfl rfl rfl gB jM rfl (av (jG (vc:=zY) (vr:=wQ) (vf:=vf) (vfol:=vfol) (vl:=vl) (ve:=ve) rfl) ?_))
   try refine GW ?_
   refine cD [0,1,2,3,4,5,6] ?_;exact dm wQ trivial (by repeat' (first|exact True.intro|refine And.intro rfl ?_)) (by rw[<-A7 wQ p.rules aX];rfl)
 intro wQ _;have zZ:=hp.follow;have K8:=hp.last
 repeat(first|refine GA ?_|refine gV (J (v:=vfol) ak.ty rfl (ah (i:=0) rfl rfl)) ?_)
 refine je (i:=3) (bytes:=24) rfl rfl rfl rfl rfl rfl (fun z h=>by cases h;rfl) (by omega) (by omega) rfl fun z1 rl=>?_;refine zL ?_
 try refine GA ?_
 refine aD (i:=3) rfl fun gB jM=>aW (i:=0) rfl rfl rfl gB jM rfl ?_;refine zL ?_
 repeat(first|refine GA ?_|refine gV (J (v:=vl) ak.ty rfl (ah (i:=0) rfl rfl)) ?_)
 refine je (i:=5) (bytes:=1) rfl rfl rfl rfl rfl rfl (fun z h=>by cases h;rfl) (by omega) (by omega) rfl fun z2 JM=>?_;refine zL ?_
 try refine GA ?_
 refine aD (i:=5) rfl fun gB jM=>aW (i:=0) rfl rfl rfl gB jM rfl ?_;refine zL ?_
 try refine GA ?_
 refine dT (cs:=#[.int .i64 p.aJ.length]) [.int .i64 p.aJ.length] rfl rfl rfl (by intro v hv;simp at hv;subst hv;rfl) rfl rfl rfl fun g76=>?_;refine zL ?_
 try refine GA ?_
 refine dT (cs:=#[.int .i64 p.aJ.length]) [.int .i64 p.aJ.length] rfl rfl rfl (by intro v hv;simp at hv;subst hv;rfl) rfl rfl rfl fun g78=>?_;refine zL ?_
 repeat(first|refine GA ?_|refine gV (aP rfl (HB _ _ _ _ _ _)) ?_)
 refine fa 6 (cs':=#[.bool false,.slice (some ⟨g76,0,none⟩) 1 1,.slice (some ⟨g78,0,none⟩) 1 1]) ?_;refine zL ?_
 try refine GA ?_
 refine kW (i:=7) (eH (.slice (some ⟨g76,0,none⟩) 1 1) [(p.aJ.length:Int)]) rfl (fun w h=>CC h) (fun k hk=>hk) ?_;refine kW (i:=8) (eH (.slice (some ⟨g78,0,none⟩) 1 1) [(p.aJ.length:Int)]) rfl (fun w h=>CC h) (fun k hk=>hk) ?_;refine kW (i:=4) (pW (fun k=>F k\/False) (vs++[.slice none 0 0]) (p.follow++[[]])) rfl (fun w h=>by
  have:=nf (F2:=fun _=>False) h (show Wi.is (fun _=>False) w [.slice none 0 0] []from⟨_,rfl,fun _ h=>(by cases h),⟨rfl,.inl ⟨rfl,rfl⟩⟩,fun _ h=>(by cases h)⟩) (fun k hk=>hk.elim);rw[show vs.map th++[[Value.slice none 0 0]]=(vs++[Value.slice none 0 0]).map th by rw[List.map_append];rfl]at this;exact this) (fun k hk=>hk.elim (fun h=>by cases h) fun h=>h.elim (fun h=> .inr h) False.elim) ?_
 refine eR (i:=6) rfl rfl rfl rfl fun w hm=>?_;refine hm.bP (S:=bJ g vf ve aX (bH aX (.byte c) p)) (⟨zY,wQ,rl,JM,vs++[.slice none 0 0],fun k=>F k\/False⟩,.slice (some ⟨g76,0,none⟩) 1 1,.slice (some ⟨g78,0,none⟩) 1 1) (by show(vs++[_]).length=(p.follow++[[]]).length;rw[List.length_append,List.length_append,hx];rfl) [0,1,2,3,4,5,7,8] (by decide) ?_;show[_,_,_,sc rl (vs++[Value.slice none 0 0]),_,aM 4 1 JM (p.last++[false]).length ((p.last++[false]).map Value.bool),_,_]=_
 rw[<-OU,<-uu];rfl
end bK
namespace bK
open Go.RowKit bO dc bW eG de
theorem LJ{M:Nat}(IH:CB M)(a:Re)(ha:a.size<=M)(g:Nat)(vf ve:Value)(aX:Int)(p:PS)(x:Nc)(v:Value)(w:World)(B:bC)(hp:EH p)(hx:x.vs.length=p.follow.length)(hn:p.aJ.length+(a.size+1)<=100000)(HC:bO.cV aX)(hv:kM (ur B) B.w v (jf (.star a)))(hm:Mem B (ku g vf ve aX x p) w):
 Calls Tryz.prog 112 #[.pointer (some ⟨g,0,none⟩),v] w (c_ (bJ g vf ve aX (bH aX (.star a) p)) B):=by
 obtain⟨vk,rfl,_,Jo⟩:=hv;obtain⟨bk,ck,rfl,h1,h2,h3⟩:=Jo;obtain⟨b,off,rfl,hF,ef⟩:=h3 (by show 0<1;decide);obtain⟨kb,kc,hr,LK⟩:=mB (k:=0) ef (by show 0<1;decide);have dF:=fun(L:List bI) (j:Nat) (v:Value) hj=>om (L:=L) hF hr j v hj;clear h3 ef hr;obtain⟨zO,Nd,OV,UY,SA⟩:=ji aX a p hp;have UZ:bH aX (.star a) p=(⟨true,(bH aX a p).1.first,(bH aX a p).1.last⟩,{(bH aX a p).2 with follow:=dV (bH aX a p).2.follow (bH aX a p).1.last (bH aX a p).1.first}):=rfl;have hIH:=fun w B hv hm=>IH a ha g vf ve aX p x (mM (jf a).kind (jf a).pA (.slice kb (jf a).kids.length kc)) w B hp hx (by omega) HC hv hm;rw[UZ];generalize bH aX a p=R at*;obtain⟨⟨e,first,last⟩,p'⟩:=R;dsimp only at zO Nd OV UY SA⊢;clear UZ;unfold ku at hm;refine dC hm (args:=[.pointer (some ⟨g,0,none⟩),mM 6 C4.zero (.slice (some ⟨b,off,none⟩) 1 ck)]) (n:=176) Tryz.func112 rfl rfl rfl ?_;clear hm;refine a8 (aL (a_ rfl rfl rfl fun g3=>aK rfl fun g4=>?_));refine zL ?_
 repeat(first|refine GA ?_|refine gV (J (v:= .int .i64 6) ak.ty rfl (ah (i:=6) rfl rfl)) ?_|refine gV (J (v:= .slice (some ⟨b,off,none⟩) 1 ck) ak.ty rfl (ah (i:=6) rfl rfl)) ?_|refine gV (aC (j:=0) aT.eq ak.ty rfl rfl (by decide)) ?_|refine gV (aH ak.ty rfl rfl (dF _)) ?_)
 refine aR [0,1,2,3,4,5] [6,7] (by decide) rfl rfl (eK aj.en rfl rfl rfl) (fun w hm hb=>hIH w _ (dG (hm.pick [0,1,2,3,4,5] (by decide) rfl) LK) hb) rfl rfl rfl ?_;rintro⟨⟨vc,vr,vfol,vl,vs,F⟩,va,vb⟩ G3;have G3:vs.length=p'.follow.length:=G3
 conv=>arg 8;simp only[zJ,bZ,ret,id_eq,bJ,ku]
 conv=>arg 7;simp only[bJ]
 refine aD (i:=8) rfl fun abT YR=>?_;refine aD (i:=9) rfl fun abU YS=>?_;refine aK rfl fun g6=>?_;refine zL ?_;refine aE (i:=10) (cs':=#[.bool e,va,vb]) rfl rfl rfl rfl (by simp only[List.all_cons,List.all_nil,YR,YS];rfl) rfl ?_;refine zL ?_
 repeat(first|refine GA ?_|refine gV (J (v:=vb) ak.ty rfl (ah (i:=10) rfl rfl)) ?_|refine gV (J (v:=va) ak.ty rfl (ah (i:=10) rfl rfl)) ?_)
 refine aR [2,5,6,9,8] [0,1,3,4,7,10] (by decide) rfl rfl (sB aj.en rfl rfl rfl rfl) (fun w hm hb=>ti g vc vr vf vfol vl ve aX vb va vs F p'.follow last first w _ G3 (by rw[zO.follow];omega) (by rw[zO.follow];exact zO.UX) (by rw[zO.follow];exact SA) (by rw[zO.follow];exact UY) hb) rfl rfl rfl ?_;rintro⟨lL,F'⟩ eh;have eh:lL.length=p'.follow.length:=eh
 conv=>arg 8;simp only[zJ,bZ,ret,id_eq,JK]
 try refine GA ?_
 refine aW (i:=5) rfl rfl rfl rfl rfl rfl ?_;refine zL ?_
 repeat(first|refine GA ?_|refine gV (az (i:=5) ak.ty rfl rfl rfl) ?_)
 refine aE (i:=1) (cs':=#[.bool true,va,vb]) rfl rfl rfl rfl (by simp only[List.all_cons,List.all_nil,YR,YS];rfl) rfl ?_;refine zL ?_
 try refine GA ?_
 refine eR (i:=1) rfl rfl rfl rfl fun w hm=>?_;exact hm.bP (S:=bJ g vf ve aX (⟨true,first,last⟩,{p' with follow:=dV p'.follow last first})) (⟨vc,vr,vfol,vl,lL,F'⟩,va,vb) (by show lL.length=(dV p'.follow last first).length;rw[iE];exact eh) [6,2,3,7,8,4,10,9] (by decide) rfl
end bK
namespace bK
open Go.RowKit bO dc bW eG de
theorem kl(e:Bool)(b b':Option Addr)(m m' k k':Nat)(w:World):(Instr.build 244 #[(0,.bool e),(1,.slice b m k),(2,.slice b' m' k')]).run Tryz.prog w= .ok (.agg #[.bool e,.slice b m k,.slice b' m' k']) w:=by
 go_simp
set_option maxRecDepth 100000 in
theorem OW{M:Nat}(IH:CB M)(a b1:Re)(ha:a.size<=M)(z8:b1.size<=M)(g:Nat)(vf ve:Value)(aX:Int)(p:PS)(x:Nc)(v:Value)(w:World)(B:bC)(hp:EH p)(hx:x.vs.length=p.follow.length)(hn:p.aJ.length+(a.size+b1.size+1)<=100000)(HC:bO.cV aX)(hv:kM (ur B) B.w v (jf (.B3 a b1)))(hm:Mem B (ku g vf ve aX x p) w):
    Calls Tryz.prog 112 #[.pointer (some ⟨g,0,none⟩),v] w (c_ (bJ g vf ve aX (bH aX (.B3 a b1) p)) B):=by
  obtain⟨vk,rfl,_,Jo⟩:=hv;obtain⟨bk,ck,rfl,h1,h2,h3⟩:=Jo;obtain⟨b,off,rfl,hF,ef⟩:=h3 (by show 0<2;decide);obtain⟨kb,kc,hr,pX⟩:=mB (k:=0) ef (by show 0<2;decide);obtain⟨kb2,kc2,qE,iF⟩:=mB (k:=1) ef (by show 1<2;decide);have CD:=fun(L:List bI) (j:Nat) (v:Value) hj=>om (L:=L) hF hr j v hj;have o7:=fun(L:List bI) (j:Nat) (v:Value) hj=>om (L:=L) hF qE j v hj;clear h3 ef hr qE;obtain⟨zO,Nd,OV,UY,SA⟩:=ji aX a p hp;obtain⟨U0,kp2,kp3,XX,YT⟩:=ji aX b1 _ zO;have LL:=fun w B hv hm=>IH a ha g vf ve aX p x (mM (jf a).kind (jf a).pA (.slice kb (jf a).kids.length kc)) w B hp hx (by omega) HC hv hm;have uv:=fun x1 io w B hv hm=>IH b1 z8 g vf ve aX (bH aX a p).2 x1 (mM (jf b1).kind (jf b1).pA (.slice kb2 (jf b1).kids.length kc2)) w B zO io (by omega) HC hv hm;rw[show bH aX (.B3 a b1) p=(⟨(bH aX a p).1.empty||(bH aX b1 (bH aX a p).2).1.empty,mP (bH aX a p).1.first (bH aX b1 (bH aX a p).2).1.first,mP (bH aX a p).1.last (bH aX b1 (bH aX a p).2).1.last⟩,(bH aX b1 (bH aX a p).2).2)from rfl];generalize bH aX b1 (bH aX a p).2=R2 at*;generalize bH aX a p=R1 at*;obtain⟨⟨e1,e8,ii⟩,p1⟩:=R1;obtain⟨⟨e2,fg,hU⟩,p2⟩:=R2;dsimp only at zO Nd OV UY SA U0 kp2 kp3 XX YT uv⊢;unfold ku at hm;refine dC hm (args:=[.pointer (some ⟨g,0,none⟩),mM 5 C4.zero (.slice (some ⟨b,off,none⟩) 2 ck)]) (n:=176) Tryz.func112 rfl rfl rfl ?_;clear hm;refine a8 (aL (a_ rfl rfl rfl fun g3=>aK rfl fun g4=>?_));refine zL ?_
  repeat(first|refine GA ?_|refine gV (J (v:= .int .i64 5) ak.ty rfl (ah (i:=6) rfl rfl)) ?_)
  (repeat refine a8 ?_)
  refine iW (ι:=Nc×Value×Value×Value×Value×Nat×Nat) (fun y=>y.1.vs.length=p2.follow.length) (fun y=>[(0,.pointer (some ⟨g,0,none⟩)),(4,.pointer (some ⟨g4,0,none⟩)),(7,.pointer (some ⟨y.2.2.2.2.2.1,0,none⟩)),(8,.pointer (some ⟨y.2.2.2.2.2.2,0,none⟩))])
    (fun y=>ku g vf ve aX y.1 p2++[eH y.2.1 e8,eH y.2.2.1 ii,eH y.2.2.2.1 fg,eH y.2.2.2.2.1 hU,aw g4 #[.bool false,.slice none 0 0,.slice none 0 0] 244,aw y.2.2.2.2.2.1 #[.bool e1,y.2.1,y.2.2.1] 244,aw y.2.2.2.2.2.2 #[.bool e2,y.2.2.2.1,y.2.2.2.2.1] 244]) ?_ ?_
  · refine cU ([aw g3 (jx 5 C4.zero (.slice (some ⟨b,off,none⟩) 2 ck)).toArray 119]) (.calm 0 (.calm 1 (.calm 2 (.calm 3 (.calm 4 (.calm 6 (.calm 7 (.calm 8 (.calm 9 (.calm 10 (.three 5 (.three 11 (.two 12 (.one 13 (.one 14 (.one 15 (.done)))) 13 (.one 12 (.one 14 (.one 15 (.done))))) 12 (.two 11 (.one 13 (.one 14 (.one 15 (.done)))) 13 (.one 11 (.one 14 (.one 15 (.done))))) 13 (.two 11 (.one 12 (.one 14 (.one 15 (.done)))) 12 (.one 11 (.one 14 (.one 15 (.done)))))) 12 (.two 5 (.two 11 (.one 13 (.one 14 (.one 15 (.done)))) 13 (.one 11 (.one 14 (.one 15 (.done))))) 13 (.one 5 (.one 11 (.one 14 (.one 15 (.done)))))) 13 (.two 5 (.two 11 (.one 12 (.one 14 (.one 15 (.done)))) 12 (.one 11 (.one 14 (.one 15 (.done))))) 12 (.one 5 (.one 11 (.one 14 (.one 15 (.done))))))))))))))))) (bz [6]) ?_
    repeat(first|refine GW ?_|(refine GN ?_;first|refine QW (J (v:= .slice (some ⟨b,off,none⟩) 2 ck) ak.ty rfl (ah (i:=0) rfl rfl)) ?_|refine QW (aC (j:=0) aT.eq ak.ty rfl rfl (by decide)) ?_|refine QW (aC (j:=1) aT.eq ak.ty rfl rfl (by decide)) ?_|refine QW (aH ak.ty rfl rfl (CD _)) ?_|refine QW (aH ak.ty rfl rfl (o7 _)) ?_))
    refine sO rfl rfl rfl ?_ ?_ ?_
    · refine aR [0,1,2,3,4,5] [6,7] (by decide) rfl rfl (eK aj.en rfl rfl rfl) (fun w hm hb=>LL w _ (dG (hm.pick [0,1,2,3,4,5] (by decide) rfl) pX) hb) rfl rfl rfl ?_
      rintro⟨⟨pe,pf,eO,pg,kH,F1⟩,jp,i_⟩ io;have io:kH.length=p1.follow.length:=io
      conv=>arg 8;simp only[zJ,bZ,ret,id_eq,bJ,ku]
      conv=>arg 7;simp only[bJ]
      refine av (bz [0]) ?_;refine sO rfl rfl rfl ?_ ?_ ?_
      · refine aR [2,3,4,5,6,7] [0,1,8,9] (by decide) rfl rfl (eK aj.en rfl rfl rfl) (fun w hm hb=>uv ⟨pe,pf,eO,pg,kH,F1⟩ io w _ (dG (hm.pick [2,3,4,5,6,7] (by decide) rfl) iF) hb) rfl rfl rfl ?_
        rintro⟨⟨mq,mu,dK,mv,iU,F2⟩,gL,ia⟩ eh;have eh:iU.length=p2.follow.length:=eh
        conv=>arg 8;simp only[zJ,bZ,ret,id_eq,bJ,ku]
        conv=>arg 7;simp only[bJ]
        refine av (bz [0]) ?_;refine dE rfl rfl ?_ ?_
        · refine aK rfl fun g7=>(av (bz [0]) ?_)
          refine ap rfl (aK rfl fun g8=>(av (bz [0]) ?_));refine ap rfl (aD (i:=2) rfl fun _ lO=>aD (i:=3) rfl fun _ lP=>aE (i:=12) (cs':=#[.bool e1,jp,i_]) rfl rfl rfl rfl (by simp only[List.all_cons,List.all_nil,lO,lP];rfl) rfl (av (bz [0]) ?_))
          try refine GW ?_
          refine ap rfl (aD (i:=10) rfl fun _ lQ=>aD (i:=11) rfl fun _ lR=>aE (i:=13) (cs':=#[.bool e2,gL,ia]) rfl rfl rfl rfl (by simp only[List.all_cons,List.all_nil,lQ,lR];rfl) rfl (av (bz [0]) ?_))
          try refine GW ?_
          refine cD [4,5,6,7,8,9,2,3,10,11,1,12,13] ?_;exact dm (⟨mq,mu,dK,mv,iU,F2⟩,jp,i_,gL,ia,g7,g8) eh (by repeat' (first|exact True.intro|refine And.intro rfl ?_)) rfl
        · refine aK rfl fun g8=>(av (bz [0]) ?_)
          refine ap rfl (aK rfl fun g7=>(av (bz [0]) ?_));refine ap rfl (aD (i:=2) rfl fun _ lO=>aD (i:=3) rfl fun _ lP=>aE (i:=13) (cs':=#[.bool e1,jp,i_]) rfl rfl rfl rfl (by simp only[List.all_cons,List.all_nil,lO,lP];rfl) rfl (av (bz [0]) ?_))
          try refine GW ?_
          refine ap rfl (aD (i:=10) rfl fun _ lQ=>aD (i:=11) rfl fun _ lR=>aE (i:=12) (cs':=#[.bool e2,gL,ia]) rfl rfl rfl rfl (by simp only[List.all_cons,List.all_nil,lQ,lR];rfl) rfl (av (bz [0]) ?_))
          try refine GW ?_
          refine cD [4,5,6,7,8,9,2,3,10,11,1,13,12] ?_;exact dm (⟨mq,mu,dK,mv,iU,F2⟩,jp,i_,gL,ia,g7,g8) eh (by repeat' (first|exact True.intro|refine And.intro rfl ?_)) rfl
      · refine aK rfl fun g7=>(av (bz [0]) ?_)
        refine dE rfl rfl ?_ ?_
        · refine aR [2,3,4,5,6,7] [0,1,8,9,10] (by decide) rfl rfl (eK aj.en rfl rfl rfl) (fun w hm hb=>uv ⟨pe,pf,eO,pg,kH,F1⟩ io w _ (dG (hm.pick [2,3,4,5,6,7] (by decide) rfl) iF) hb) rfl rfl rfl ?_
          rintro⟨⟨mq,mu,dK,mv,iU,F2⟩,gL,ia⟩ eh;have eh:iU.length=p2.follow.length:=eh
          conv=>arg 8;simp only[zJ,bZ,ret,id_eq,bJ,ku]
          conv=>arg 7;simp only[bJ]
          refine av (bz [0]) ?_;refine ap rfl (aK rfl fun g8=>(av (bz [0]) ?_));refine ap rfl (aD (i:=2) rfl fun _ lO=>aD (i:=3) rfl fun _ lP=>aE (i:=4) (cs':=#[.bool e1,jp,i_]) rfl rfl rfl rfl (by simp only[List.all_cons,List.all_nil,lO,lP];rfl) rfl (av (bz [0]) ?_))
          try refine GW ?_
          refine ap rfl (aD (i:=11) rfl fun _ lQ=>aD (i:=12) rfl fun _ lR=>aE (i:=13) (cs':=#[.bool e2,gL,ia]) rfl rfl rfl rfl (by simp only[List.all_cons,List.all_nil,lQ,lR];rfl) rfl (av (bz [0]) ?_))
          try refine GW ?_
          refine cD [5,6,7,8,9,10,2,3,11,12,1,4,13] ?_;exact dm (⟨mq,mu,dK,mv,iU,F2⟩,jp,i_,gL,ia,g7,g8) eh (by repeat' (first|exact True.intro|refine And.intro rfl ?_)) rfl
        · refine aK rfl fun g8=>(av (bz [0]) ?_)
          refine ap rfl (aR [2,3,4,5,6,7] [0,1,8,9,10,11] (by decide) rfl rfl (eK aj.en rfl rfl rfl) (fun w hm hb=>uv ⟨pe,pf,eO,pg,kH,F1⟩ io w _ (dG (hm.pick [2,3,4,5,6,7] (by decide) rfl) iF) hb) rfl rfl rfl ?_);rintro⟨⟨mq,mu,dK,mv,iU,F2⟩,gL,ia⟩ eh;have eh:iU.length=p2.follow.length:=eh
          conv=>arg 8;simp only[zJ,bZ,ret,id_eq,bJ,ku]
          conv=>arg 7;simp only[bJ]
          refine av (bz [0]) ?_;refine ap rfl (aD (i:=2) rfl fun _ lO=>aD (i:=3) rfl fun _ lP=>aE (i:=4) (cs':=#[.bool e1,jp,i_]) rfl rfl rfl rfl (by simp only[List.all_cons,List.all_nil,lO,lP];rfl) rfl (av (bz [0]) ?_))
          try refine GW ?_
          refine ap rfl (aD (i:=12) rfl fun _ lQ=>aD (i:=13) rfl fun _ lR=>aE (i:=5) (cs':=#[.bool e2,gL,ia]) rfl rfl rfl rfl (by simp only[List.all_cons,List.all_nil,lQ,lR];rfl) rfl (av (bz [0]) ?_))
          try refine GW ?_
          refine cD [6,7,8,9,10,11,2,3,12,13,1,4,5] ?_;exact dm (⟨mq,mu,dK,mv,iU,F2⟩,jp,i_,gL,ia,g7,g8) eh (by repeat' (first|exact True.intro|refine And.intro rfl ?_)) rfl
      · refine aK rfl fun g8=>(av (bz [0]) ?_)
        refine dE rfl rfl ?_ ?_
        · refine aR [2,3,4,5,6,7] [0,1,8,9,10] (by decide) rfl rfl (eK aj.en rfl rfl rfl) (fun w hm hb=>uv ⟨pe,pf,eO,pg,kH,F1⟩ io w _ (dG (hm.pick [2,3,4,5,6,7] (by decide) rfl) iF) hb) rfl rfl rfl ?_
          rintro⟨⟨mq,mu,dK,mv,iU,F2⟩,gL,ia⟩ eh;have eh:iU.length=p2.follow.length:=eh
          conv=>arg 8;simp only[zJ,bZ,ret,id_eq,bJ,ku]
          conv=>arg 7;simp only[bJ]
          refine av (bz [0]) ?_;refine ap rfl (aK rfl fun g7=>(av (bz [0]) ?_));refine ap rfl (aD (i:=2) rfl fun _ lO=>aD (i:=3) rfl fun _ lP=>aE (i:=13) (cs':=#[.bool e1,jp,i_]) rfl rfl rfl rfl (by simp only[List.all_cons,List.all_nil,lO,lP];rfl) rfl (av (bz [0]) ?_))
          try refine GW ?_
          refine ap rfl (aD (i:=11) rfl fun _ lQ=>aD (i:=12) rfl fun _ lR=>aE (i:=4) (cs':=#[.bool e2,gL,ia]) rfl rfl rfl rfl (by simp only[List.all_cons,List.all_nil,lQ,lR];rfl) rfl (av (bz [0]) ?_))
          try refine GW ?_
          refine cD [5,6,7,8,9,10,2,3,11,12,1,13,4] ?_;exact dm (⟨mq,mu,dK,mv,iU,F2⟩,jp,i_,gL,ia,g7,g8) eh (by repeat' (first|exact True.intro|refine And.intro rfl ?_)) rfl
        · refine aK rfl fun g7=>(av (bz [0]) ?_)
          refine ap rfl (aR [2,3,4,5,6,7] [0,1,8,9,10,11] (by decide) rfl rfl (eK aj.en rfl rfl rfl) (fun w hm hb=>uv ⟨pe,pf,eO,pg,kH,F1⟩ io w _ (dG (hm.pick [2,3,4,5,6,7] (by decide) rfl) iF) hb) rfl rfl rfl ?_);rintro⟨⟨mq,mu,dK,mv,iU,F2⟩,gL,ia⟩ eh;have eh:iU.length=p2.follow.length:=eh
          conv=>arg 8;simp only[zJ,bZ,ret,id_eq,bJ,ku]
          conv=>arg 7;simp only[bJ]
          refine av (bz [0]) ?_;refine ap rfl (aD (i:=2) rfl fun _ lO=>aD (i:=3) rfl fun _ lP=>aE (i:=5) (cs':=#[.bool e1,jp,i_]) rfl rfl rfl rfl (by simp only[List.all_cons,List.all_nil,lO,lP];rfl) rfl (av (bz [0]) ?_))
          try refine GW ?_
          refine ap rfl (aD (i:=12) rfl fun _ lQ=>aD (i:=13) rfl fun _ lR=>aE (i:=4) (cs':=#[.bool e2,gL,ia]) rfl rfl rfl rfl (by simp only[List.all_cons,List.all_nil,lQ,lR];rfl) rfl (av (bz [0]) ?_))
          try refine GW ?_
          refine cD [6,7,8,9,10,11,2,3,12,13,1,5,4] ?_;exact dm (⟨mq,mu,dK,mv,iU,F2⟩,jp,i_,gL,ia,g7,g8) eh (by repeat' (first|exact True.intro|refine And.intro rfl ?_)) rfl
    · refine aK rfl fun g7=>(av (bz [6]) ?_)
      refine dE rfl rfl ?_ ?_
      · refine aR [0,1,2,3,4,5] [6,7,8] (by decide) rfl rfl (eK aj.en rfl rfl rfl) (fun w hm hb=>LL w _ (dG (hm.pick [0,1,2,3,4,5] (by decide) rfl) pX) hb) rfl rfl rfl ?_
        rintro⟨⟨pe,pf,eO,pg,kH,F1⟩,jp,i_⟩ io;have io:kH.length=p1.follow.length:=io
        conv=>arg 8;simp only[zJ,bZ,ret,id_eq,bJ,ku]
        conv=>arg 7;simp only[bJ]
        refine av (bz [0]) ?_;refine dE rfl rfl ?_ ?_
        · refine aR [3,4,5,6,7,8] [0,1,2,9,10] (by decide) rfl rfl (eK aj.en rfl rfl rfl) (fun w hm hb=>uv ⟨pe,pf,eO,pg,kH,F1⟩ io w _ (dG (hm.pick [3,4,5,6,7,8] (by decide) rfl) iF) hb) rfl rfl rfl ?_
          rintro⟨⟨mq,mu,dK,mv,iU,F2⟩,gL,ia⟩ eh;have eh:iU.length=p2.follow.length:=eh
          conv=>arg 8;simp only[zJ,bZ,ret,id_eq,bJ,ku]
          conv=>arg 7;simp only[bJ]
          refine av (bz [0]) ?_;refine ap rfl (aK rfl fun g8=>(av (bz [0]) ?_));refine ap rfl (aD (i:=3) rfl fun _ lO=>aD (i:=4) rfl fun _ lP=>aE (i:=2) (cs':=#[.bool e1,jp,i_]) rfl rfl rfl rfl (by simp only[List.all_cons,List.all_nil,lO,lP];rfl) rfl (av (bz [0]) ?_))
          try refine GW ?_
          refine ap rfl (aD (i:=11) rfl fun _ lQ=>aD (i:=12) rfl fun _ lR=>aE (i:=13) (cs':=#[.bool e2,gL,ia]) rfl rfl rfl rfl (by simp only[List.all_cons,List.all_nil,lQ,lR];rfl) rfl (av (bz [0]) ?_))
          try refine GW ?_
          refine cD [5,6,7,8,9,10,3,4,11,12,1,2,13] ?_;exact dm (⟨mq,mu,dK,mv,iU,F2⟩,jp,i_,gL,ia,g7,g8) eh (by repeat' (first|exact True.intro|refine And.intro rfl ?_)) rfl
        · refine aK rfl fun g8=>(av (bz [0]) ?_)
          refine ap rfl (aR [3,4,5,6,7,8] [0,1,2,9,10,11] (by decide) rfl rfl (eK aj.en rfl rfl rfl) (fun w hm hb=>uv ⟨pe,pf,eO,pg,kH,F1⟩ io w _ (dG (hm.pick [3,4,5,6,7,8] (by decide) rfl) iF) hb) rfl rfl rfl ?_);rintro⟨⟨mq,mu,dK,mv,iU,F2⟩,gL,ia⟩ eh;have eh:iU.length=p2.follow.length:=eh
          conv=>arg 8;simp only[zJ,bZ,ret,id_eq,bJ,ku]
          conv=>arg 7;simp only[bJ]
          refine av (bz [0]) ?_;refine ap rfl (aD (i:=3) rfl fun _ lO=>aD (i:=4) rfl fun _ lP=>aE (i:=2) (cs':=#[.bool e1,jp,i_]) rfl rfl rfl rfl (by simp only[List.all_cons,List.all_nil,lO,lP];rfl) rfl (av (bz [0]) ?_))
          try refine GW ?_
          refine ap rfl (aD (i:=12) rfl fun _ lQ=>aD (i:=13) rfl fun _ lR=>aE (i:=5) (cs':=#[.bool e2,gL,ia]) rfl rfl rfl rfl (by simp only[List.all_cons,List.all_nil,lQ,lR];rfl) rfl (av (bz [0]) ?_))
          try refine GW ?_
          refine cD [6,7,8,9,10,11,3,4,12,13,1,2,5] ?_;exact dm (⟨mq,mu,dK,mv,iU,F2⟩,jp,i_,gL,ia,g7,g8) eh (by repeat' (first|exact True.intro|refine And.intro rfl ?_)) rfl
      · refine aK rfl fun g8=>(av (bz [6]) ?_)
        refine ap rfl (aR [0,1,2,3,4,5] [6,7,8,9] (by decide) rfl rfl (eK aj.en rfl rfl rfl) (fun w hm hb=>LL w _ (dG (hm.pick [0,1,2,3,4,5] (by decide) rfl) pX) hb) rfl rfl rfl ?_);rintro⟨⟨pe,pf,eO,pg,kH,F1⟩,jp,i_⟩ io;have io:kH.length=p1.follow.length:=io
        conv=>arg 8;simp only[zJ,bZ,ret,id_eq,bJ,ku]
        conv=>arg 7;simp only[bJ]
        refine av (bz [0]) ?_;refine ap rfl (aR [4,5,6,7,8,9] [0,1,2,3,10,11] (by decide) rfl rfl (eK aj.en rfl rfl rfl) (fun w hm hb=>uv ⟨pe,pf,eO,pg,kH,F1⟩ io w _ (dG (hm.pick [4,5,6,7,8,9] (by decide) rfl) iF) hb) rfl rfl rfl ?_);rintro⟨⟨mq,mu,dK,mv,iU,F2⟩,gL,ia⟩ eh;have eh:iU.length=p2.follow.length:=eh
        conv=>arg 8;simp only[zJ,bZ,ret,id_eq,bJ,ku]
        conv=>arg 7;simp only[bJ]
        refine av (bz [0]) ?_;refine ap rfl (aD (i:=4) rfl fun _ lO=>aD (i:=5) rfl fun _ lP=>aE (i:=2) (cs':=#[.bool e1,jp,i_]) rfl rfl rfl rfl (by simp only[List.all_cons,List.all_nil,lO,lP];rfl) rfl (av (bz [0]) ?_))
        try refine GW ?_
        refine ap rfl (aD (i:=12) rfl fun _ lQ=>aD (i:=13) rfl fun _ lR=>aE (i:=3) (cs':=#[.bool e2,gL,ia]) rfl rfl rfl rfl (by simp only[List.all_cons,List.all_nil,lQ,lR];rfl) rfl (av (bz [0]) ?_))
        try refine GW ?_
        refine cD [6,7,8,9,10,11,4,5,12,13,1,2,3] ?_;exact dm (⟨mq,mu,dK,mv,iU,F2⟩,jp,i_,gL,ia,g7,g8) eh (by repeat' (first|exact True.intro|refine And.intro rfl ?_)) rfl
    · refine aK rfl fun g8=>(av (bz [6]) ?_)
      refine dE rfl rfl ?_ ?_
      · refine aR [0,1,2,3,4,5] [6,7,8] (by decide) rfl rfl (eK aj.en rfl rfl rfl) (fun w hm hb=>LL w _ (dG (hm.pick [0,1,2,3,4,5] (by decide) rfl) pX) hb) rfl rfl rfl ?_
        rintro⟨⟨pe,pf,eO,pg,kH,F1⟩,jp,i_⟩ io;have io:kH.length=p1.follow.length:=io
        conv=>arg 8;simp only[zJ,bZ,ret,id_eq,bJ,ku]
        conv=>arg 7;simp only[bJ]
        refine av (bz [0]) ?_;refine dE rfl rfl ?_ ?_
        · refine aR [3,4,5,6,7,8] [0,1,2,9,10] (by decide) rfl rfl (eK aj.en rfl rfl rfl) (fun w hm hb=>uv ⟨pe,pf,eO,pg,kH,F1⟩ io w _ (dG (hm.pick [3,4,5,6,7,8] (by decide) rfl) iF) hb) rfl rfl rfl ?_
          rintro⟨⟨mq,mu,dK,mv,iU,F2⟩,gL,ia⟩ eh;have eh:iU.length=p2.follow.length:=eh
          conv=>arg 8;simp only[zJ,bZ,ret,id_eq,bJ,ku]
          conv=>arg 7;simp only[bJ]
          refine av (bz [0]) ?_;refine ap rfl (aK rfl fun g7=>(av (bz [0]) ?_));refine ap rfl (aD (i:=3) rfl fun _ lO=>aD (i:=4) rfl fun _ lP=>aE (i:=13) (cs':=#[.bool e1,jp,i_]) rfl rfl rfl rfl (by simp only[List.all_cons,List.all_nil,lO,lP];rfl) rfl (av (bz [0]) ?_))
          try refine GW ?_
          refine ap rfl (aD (i:=11) rfl fun _ lQ=>aD (i:=12) rfl fun _ lR=>aE (i:=2) (cs':=#[.bool e2,gL,ia]) rfl rfl rfl rfl (by simp only[List.all_cons,List.all_nil,lQ,lR];rfl) rfl (av (bz [0]) ?_))
          try refine GW ?_
          refine cD [5,6,7,8,9,10,3,4,11,12,1,13,2] ?_;exact dm (⟨mq,mu,dK,mv,iU,F2⟩,jp,i_,gL,ia,g7,g8) eh (by repeat' (first|exact True.intro|refine And.intro rfl ?_)) rfl
        · refine aK rfl fun g7=>(av (bz [0]) ?_)
          refine ap rfl (aR [3,4,5,6,7,8] [0,1,2,9,10,11] (by decide) rfl rfl (eK aj.en rfl rfl rfl) (fun w hm hb=>uv ⟨pe,pf,eO,pg,kH,F1⟩ io w _ (dG (hm.pick [3,4,5,6,7,8] (by decide) rfl) iF) hb) rfl rfl rfl ?_);rintro⟨⟨mq,mu,dK,mv,iU,F2⟩,gL,ia⟩ eh;have eh:iU.length=p2.follow.length:=eh
          conv=>arg 8;simp only[zJ,bZ,ret,id_eq,bJ,ku]
          conv=>arg 7;simp only[bJ]
          refine av (bz [0]) ?_;refine ap rfl (aD (i:=3) rfl fun _ lO=>aD (i:=4) rfl fun _ lP=>aE (i:=5) (cs':=#[.bool e1,jp,i_]) rfl rfl rfl rfl (by simp only[List.all_cons,List.all_nil,lO,lP];rfl) rfl (av (bz [0]) ?_))
          try refine GW ?_
          refine ap rfl (aD (i:=12) rfl fun _ lQ=>aD (i:=13) rfl fun _ lR=>aE (i:=2) (cs':=#[.bool e2,gL,ia]) rfl rfl rfl rfl (by simp only[List.all_cons,List.all_nil,lQ,lR];rfl) rfl (av (bz [0]) ?_))
          try refine GW ?_
          refine cD [6,7,8,9,10,11,3,4,12,13,1,5,2] ?_;exact dm (⟨mq,mu,dK,mv,iU,F2⟩,jp,i_,gL,ia,g7,g8) eh (by repeat' (first|exact True.intro|refine And.intro rfl ?_)) rfl
      · refine aK rfl fun g7=>(av (bz [6]) ?_)
        refine ap rfl (aR [0,1,2,3,4,5] [6,7,8,9] (by decide) rfl rfl (eK aj.en rfl rfl rfl) (fun w hm hb=>LL w _ (dG (hm.pick [0,1,2,3,4,5] (by decide) rfl) pX) hb) rfl rfl rfl ?_);rintro⟨⟨pe,pf,eO,pg,kH,F1⟩,jp,i_⟩ io;have io:kH.length=p1.follow.length:=io
        conv=>arg 8;simp only[zJ,bZ,ret,id_eq,bJ,ku]
        conv=>arg 7;simp only[bJ]
        refine av (bz [0]) ?_;refine ap rfl (aR [4,5,6,7,8,9] [0,1,2,3,10,11] (by decide) rfl rfl (eK aj.en rfl rfl rfl) (fun w hm hb=>uv ⟨pe,pf,eO,pg,kH,F1⟩ io w _ (dG (hm.pick [4,5,6,7,8,9] (by decide) rfl) iF) hb) rfl rfl rfl ?_);rintro⟨⟨mq,mu,dK,mv,iU,F2⟩,gL,ia⟩ eh;have eh:iU.length=p2.follow.length:=eh
        conv=>arg 8;simp only[zJ,bZ,ret,id_eq,bJ,ku]
        conv=>arg 7;simp only[bJ]
        refine av (bz [0]) ?_;refine ap rfl (aD (i:=4) rfl fun _ lO=>aD (i:=5) rfl fun _ lP=>aE (i:=3) (cs':=#[.bool e1,jp,i_]) rfl rfl rfl rfl (by simp only[List.all_cons,List.all_nil,lO,lP];rfl) rfl (av (bz [0]) ?_))
        try refine GW ?_
        refine ap rfl (aD (i:=12) rfl fun _ lQ=>aD (i:=13) rfl fun _ lR=>aE (i:=2) (cs':=#[.bool e2,gL,ia]) rfl rfl rfl rfl (by simp only[List.all_cons,List.all_nil,lQ,lR];rfl) rfl (av (bz [0]) ?_))
        try refine GW ?_
        refine cD [6,7,8,9,10,11,4,5,12,13,1,3,2] ?_;exact dm (⟨mq,mu,dK,mv,iU,F2⟩,jp,i_,gL,ia,g7,g8) eh (by repeat' (first|exact True.intro|refine And.intro rfl ?_)) rfl
  clear LL uv CD o7;rintro⟨⟨vc,vr,vfol,vl,vs,F⟩,jp,i_,gL,ia,g7,g8⟩ eh;have eh:vs.length=p2.follow.length:=eh;dsimp only
  conv=>arg 7;simp only[zA,zB,zC,zD,zE,zF,zG,zH,zI,bZ,ret,id_eq,ku]
  have B7:=gJ UY;have Ca:=gJ SA;have XY:=gJ XX;have hl4:=gJ YT
  cases e1 with
  | true=>
    (repeat refine a8 ?_)
    refine cU ([aw g7 #[.bool true,jp,i_] 244,aw g8 #[.bool e2,gL,ia] 244]) (.calm 0 (.calm 1 (.calm 2 (.calm 3 (.calm 4 (.calm 5 (.calm 6 (.calm 7 (.calm 8 (.calm 9 (.calm 11 (.calm 12 (.calm 13 (.calm 14 (.one 10 (.one 15 (.calm 16 (.one 17 (.done))))))))))))))))))) (bz [11,12]) ?_
    repeat(first|refine GW ?_|(refine GN ?_;first|refine QW (J ak.ty rfl (ah (i:=0) rfl rfl)) ?_|refine QW (J ak.ty rfl (ah (i:=1) rfl rfl)) ?_))
    refine ap rfl (aI (eK aj.en rfl rfl rfl) (fun w' hm=>fj jp gL e8 fg w' (Sl.cI (hm.get (i:=6) rfl)) (Sl.cI (hm.get (i:=8) rfl)) (by omega) (by omega)) rfl rfl rfl ?_);intro vu _
    conv=>arg 8;simp only[zJ,bZ,ret,id_eq,oR]
    refine av (bz [11,12]) ?_
    try refine GW ?_
    refine ap rfl (aI (eK aj.en rfl rfl rfl) (fun w' hm=>fj i_ ia ii hU w' (Sl.cI (hm.get (i:=7) rfl)) (Sl.cI (hm.get (i:=9) rfl)) (by omega) (by omega)) rfl rfl rfl ?_);intro Wp _
    conv=>arg 8;simp only[zJ,bZ,ret,id_eq,oR]
    refine jB (i:=13) rfl fun bu cu hu _ _=>?_;refine jB (i:=14) rfl fun YU YV hu2 _ _=>?_;subst hu hu2;refine av (bz [11,12]) ?_
    repeat(first|refine GW ?_|(refine GN ?_;first|refine QW (aP rfl (kl _ _ _ _ _ _ _)) ?_))
    refine ap rfl (aE (i:=10) (cs':=#[.bool true,.slice bu (mP e8 fg).length cu,.slice YU (mP ii hU).length YV]) rfl rfl rfl rfl rfl rfl (av (bz [11,12]) ?_))
    try refine GW ?_
    try refine GA ?_
    refine eR (i:=10) rfl rfl rfl rfl fun w hm=>?_;exact hm.bP (S:=bJ g vf ve aX (⟨true||e2,mP e8 fg,mP ii hU⟩,p2)) (⟨vc,vr,vfol,vl,vs,F⟩,.slice bu (mP e8 fg).length cu,.slice YU (mP ii hU).length YV) eh [0,1,2,3,4,5,13,14] (by decide) rfl
  | false=>
    (repeat refine a8 ?_)
    refine cU ([aw g7 #[.bool false,jp,i_] 244,aw g8 #[.bool e2,gL,ia] 244]) (.calm 0 (.calm 1 (.calm 2 (.calm 3 (.calm 4 (.calm 5 (.calm 6 (.calm 7 (.calm 8 (.calm 9 (.calm 11 (.calm 12 (.calm 13 (.calm 14 (.one 10 (.one 15 (.calm 16 (.one 17 (.done))))))))))))))))))) (bz [11,12]) ?_
    repeat(first|refine GW ?_|(refine GN ?_;first|refine QW (J ak.ty rfl (ah (i:=0) rfl rfl)) ?_|refine QW (J ak.ty rfl (ah (i:=1) rfl rfl)) ?_))
    refine ap rfl (aI (eK aj.en rfl rfl rfl) (fun w' hm=>fj jp gL e8 fg w' (Sl.cI (hm.get (i:=6) rfl)) (Sl.cI (hm.get (i:=8) rfl)) (by omega) (by omega)) rfl rfl rfl ?_);intro vu _
    conv=>arg 8;simp only[zJ,bZ,ret,id_eq,oR]
    refine av (bz [11,12]) ?_
    try refine GW ?_
    refine ap rfl (aI (eK aj.en rfl rfl rfl) (fun w' hm=>fj i_ ia ii hU w' (Sl.cI (hm.get (i:=7) rfl)) (Sl.cI (hm.get (i:=9) rfl)) (by omega) (by omega)) rfl rfl rfl ?_);intro Wp _
    conv=>arg 8;simp only[zJ,bZ,ret,id_eq,oR]
    refine jB (i:=13) rfl fun bu cu hu _ _=>?_;refine jB (i:=14) rfl fun YU YV hu2 _ _=>?_;subst hu hu2;refine av (bz [11,12]) ?_
    repeat(first|refine GW ?_|(refine GN ?_;first|refine QW (aP rfl (kl _ _ _ _ _ _ _)) ?_))
    refine ap rfl (aE (i:=10) (cs':=#[.bool e2,.slice bu (mP e8 fg).length cu,.slice YU (mP ii hU).length YV]) rfl rfl rfl rfl rfl rfl (av (bz [11,12]) ?_))
    try refine GW ?_
    try refine GA ?_
    refine eR (i:=10) rfl rfl rfl rfl fun w hm=>?_;exact hm.bP (S:=bJ g vf ve aX (⟨false||e2,mP e8 fg,mP ii hU⟩,p2)) (⟨vc,vr,vfol,vl,vs,F⟩,.slice bu (mP e8 fg).length cu,.slice YU (mP ii hU).length YV) eh [0,1,2,3,4,5,13,14] (by decide) rfl
end bK
namespace bK
open Go.RowKit bO dc bW eG de
set_option maxRecDepth 100000 in
theorem OX{M:Nat}(IH:CB M)(a b1:Re)(ha:a.size<=M)(z8:b1.size<=M)(g:Nat)(vf ve:Value)(aX:Int)(p:PS)(x:Nc)(v:Value)(w:World)(B:bC)(hp:EH p)(hx:x.vs.length=p.follow.length)(hn:p.aJ.length+(a.size+b1.size+1)<=100000)(HC:bO.cV aX)(hv:kM (ur B) B.w v (jf (.B2 a b1)))(hm:Mem B (ku g vf ve aX x p) w):
    Calls Tryz.prog 112 #[.pointer (some ⟨g,0,none⟩),v] w (c_ (bJ g vf ve aX (bH aX (.B2 a b1) p)) B):=by
  obtain⟨vk,rfl,_,Jo⟩:=hv;obtain⟨bk,ck,rfl,h1,h2,h3⟩:=Jo;obtain⟨b,off,rfl,hF,ef⟩:=h3 (by show 0<2;decide);obtain⟨kb,kc,hr,pX⟩:=mB (k:=0) ef (by show 0<2;decide);obtain⟨kb2,kc2,qE,iF⟩:=mB (k:=1) ef (by show 1<2;decide);have CD:=fun(L:List bI) (j:Nat) (v:Value) hj=>om (L:=L) hF hr j v hj;have o7:=fun(L:List bI) (j:Nat) (v:Value) hj=>om (L:=L) hF qE j v hj;clear h3 ef hr qE;obtain⟨zO,Nd,OV,UY,SA⟩:=ji aX a p hp;obtain⟨U0,kp2,kp3,XX,YT⟩:=ji aX b1 _ zO;have LL:=fun w B hv hm=>IH a ha g vf ve aX p x (mM (jf a).kind (jf a).pA (.slice kb (jf a).kids.length kc)) w B hp hx (by omega) HC hv hm;have uv:=fun x1 io w B hv hm=>IH b1 z8 g vf ve aX (bH aX a p).2 x1 (mM (jf b1).kind (jf b1).pA (.slice kb2 (jf b1).kids.length kc2)) w B zO io (by omega) HC hv hm;rw[show bH aX (.B2 a b1) p=(⟨(bH aX a p).1.empty&&(bH aX b1 (bH aX a p).2).1.empty,if(bH aX a p).1.empty then mP (bH aX a p).1.first (bH aX b1 (bH aX a p).2).1.first else(bH aX a p).1.first,if(bH aX b1 (bH aX a p).2).1.empty then mP (bH aX a p).1.last (bH aX b1 (bH aX a p).2).1.last else(bH aX b1 (bH aX a p).2).1.last⟩,{(bH aX b1 (bH aX a p).2).2 with follow:=dV (bH aX b1 (bH aX a p).2).2.follow (bH aX a p).1.last (bH aX b1 (bH aX a p).2).1.first})from rfl];generalize bH aX b1 (bH aX a p).2=R2 at*;generalize bH aX a p=R1 at*;obtain⟨⟨e1,e8,ii⟩,p1⟩:=R1;obtain⟨⟨e2,fg,hU⟩,p2⟩:=R2;dsimp only at zO Nd OV UY SA U0 kp2 kp3 XX YT uv⊢;unfold ku at hm;refine dC hm (args:=[.pointer (some ⟨g,0,none⟩),mM 4 C4.zero (.slice (some ⟨b,off,none⟩) 2 ck)]) (n:=176) Tryz.func112 rfl rfl rfl ?_;clear hm;refine a8 (aL (a_ rfl rfl rfl fun g3=>aK rfl fun g4=>?_));refine zL ?_
  repeat(first|refine GA ?_|refine gV (J (v:= .int .i64 4) ak.ty rfl (ah (i:=6) rfl rfl)) ?_)
  (repeat refine a8 ?_)
  refine iW (ι:=Nc×Value×Value×Value×Value×Nat×Nat) (fun y=>y.1.vs.length=p2.follow.length) (fun y=>[(0,.pointer (some ⟨g,0,none⟩)),(4,.pointer (some ⟨g4,0,none⟩)),(9,.pointer (some ⟨y.2.2.2.2.2.1,0,none⟩)),(10,.pointer (some ⟨y.2.2.2.2.2.2,0,none⟩))])
    (fun y=>ku g vf ve aX y.1 p2++[eH y.2.1 e8,eH y.2.2.1 ii,eH y.2.2.2.1 fg,eH y.2.2.2.2.1 hU,aw g4 #[.bool false,.slice none 0 0,.slice none 0 0] 244,aw y.2.2.2.2.2.1 #[.bool e1,y.2.1,y.2.2.1] 244,aw y.2.2.2.2.2.2 #[.bool e2,y.2.2.2.1,y.2.2.2.2.1] 244]) ?_ ?_
  · refine cU ([aw g3 (jx 4 C4.zero (.slice (some ⟨b,off,none⟩) 2 ck)).toArray 119]) (.calm 0 (.calm 1 (.calm 2 (.calm 3 (.calm 4 (.calm 6 (.calm 7 (.calm 8 (.calm 9 (.calm 10 (.three 5 (.three 11 (.two 12 (.one 13 (.one 14 (.one 15 (.done)))) 13 (.one 12 (.one 14 (.one 15 (.done))))) 12 (.two 11 (.one 13 (.one 14 (.one 15 (.done)))) 13 (.one 11 (.one 14 (.one 15 (.done))))) 13 (.two 11 (.one 12 (.one 14 (.one 15 (.done)))) 12 (.one 11 (.one 14 (.one 15 (.done)))))) 12 (.two 5 (.two 11 (.one 13 (.one 14 (.one 15 (.done)))) 13 (.one 11 (.one 14 (.one 15 (.done))))) 13 (.one 5 (.one 11 (.one 14 (.one 15 (.done)))))) 13 (.two 5 (.two 11 (.one 12 (.one 14 (.one 15 (.done)))) 12 (.one 11 (.one 14 (.one 15 (.done))))) 12 (.one 5 (.one 11 (.one 14 (.one 15 (.done))))))))))))))))) (bz [6]) ?_
    repeat(first|refine GW ?_|(refine GN ?_;first|refine QW (J (v:= .slice (some ⟨b,off,none⟩) 2 ck) ak.ty rfl (ah (i:=0) rfl rfl)) ?_|refine QW (aC (j:=0) aT.eq ak.ty rfl rfl (by decide)) ?_|refine QW (aC (j:=1) aT.eq ak.ty rfl rfl (by decide)) ?_|refine QW (aH ak.ty rfl rfl (CD _)) ?_|refine QW (aH ak.ty rfl rfl (o7 _)) ?_))
    refine sO rfl rfl rfl ?_ ?_ ?_
    · refine aR [0,1,2,3,4,5] [6,7] (by decide) rfl rfl (eK aj.en rfl rfl rfl) (fun w hm hb=>LL w _ (dG (hm.pick [0,1,2,3,4,5] (by decide) rfl) pX) hb) rfl rfl rfl ?_
      rintro⟨⟨pe,pf,eO,pg,kH,F1⟩,jp,i_⟩ io;have io:kH.length=p1.follow.length:=io
      conv=>arg 8;simp only[zJ,bZ,ret,id_eq,bJ,ku]
      conv=>arg 7;simp only[bJ]
      refine av (bz [0]) ?_;refine sO rfl rfl rfl ?_ ?_ ?_
      · refine aR [2,3,4,5,6,7] [0,1,8,9] (by decide) rfl rfl (eK aj.en rfl rfl rfl) (fun w hm hb=>uv ⟨pe,pf,eO,pg,kH,F1⟩ io w _ (dG (hm.pick [2,3,4,5,6,7] (by decide) rfl) iF) hb) rfl rfl rfl ?_
        rintro⟨⟨mq,mu,dK,mv,iU,F2⟩,gL,ia⟩ eh;have eh:iU.length=p2.follow.length:=eh
        conv=>arg 8;simp only[zJ,bZ,ret,id_eq,bJ,ku]
        conv=>arg 7;simp only[bJ]
        refine av (bz [0]) ?_;refine dE rfl rfl ?_ ?_
        · refine aK rfl fun g7=>(av (bz [0]) ?_)
          refine ap rfl (aK rfl fun g8=>(av (bz [0]) ?_));refine ap rfl (aD (i:=2) rfl fun _ lO=>aD (i:=3) rfl fun _ lP=>aE (i:=12) (cs':=#[.bool e1,jp,i_]) rfl rfl rfl rfl (by simp only[List.all_cons,List.all_nil,lO,lP];rfl) rfl (av (bz [0]) ?_))
          try refine GW ?_
          refine ap rfl (aD (i:=10) rfl fun _ lQ=>aD (i:=11) rfl fun _ lR=>aE (i:=13) (cs':=#[.bool e2,gL,ia]) rfl rfl rfl rfl (by simp only[List.all_cons,List.all_nil,lQ,lR];rfl) rfl (av (bz [0]) ?_))
          try refine GW ?_
          refine cD [4,5,6,7,8,9,2,3,10,11,1,12,13] ?_;exact dm (⟨mq,mu,dK,mv,iU,F2⟩,jp,i_,gL,ia,g7,g8) eh (by repeat' (first|exact True.intro|refine And.intro rfl ?_)) rfl
        · refine aK rfl fun g8=>(av (bz [0]) ?_)
          refine ap rfl (aK rfl fun g7=>(av (bz [0]) ?_));refine ap rfl (aD (i:=2) rfl fun _ lO=>aD (i:=3) rfl fun _ lP=>aE (i:=13) (cs':=#[.bool e1,jp,i_]) rfl rfl rfl rfl (by simp only[List.all_cons,List.all_nil,lO,lP];rfl) rfl (av (bz [0]) ?_))
          try refine GW ?_
          refine ap rfl (aD (i:=10) rfl fun _ lQ=>aD (i:=11) rfl fun _ lR=>aE (i:=12) (cs':=#[.bool e2,gL,ia]) rfl rfl rfl rfl (by simp only[List.all_cons,List.all_nil,lQ,lR];rfl) rfl (av (bz [0]) ?_))
          try refine GW ?_
          refine cD [4,5,6,7,8,9,2,3,10,11,1,13,12] ?_;exact dm (⟨mq,mu,dK,mv,iU,F2⟩,jp,i_,gL,ia,g7,g8) eh (by repeat' (first|exact True.intro|refine And.intro rfl ?_)) rfl
      · refine aK rfl fun g7=>(av (bz [0]) ?_)
        refine dE rfl rfl ?_ ?_
        · refine aR [2,3,4,5,6,7] [0,1,8,9,10] (by decide) rfl rfl (eK aj.en rfl rfl rfl) (fun w hm hb=>uv ⟨pe,pf,eO,pg,kH,F1⟩ io w _ (dG (hm.pick [2,3,4,5,6,7] (by decide) rfl) iF) hb) rfl rfl rfl ?_
          rintro⟨⟨mq,mu,dK,mv,iU,F2⟩,gL,ia⟩ eh;have eh:iU.length=p2.follow.length:=eh
          conv=>arg 8;simp only[zJ,bZ,ret,id_eq,bJ,ku]
          conv=>arg 7;simp only[bJ]
          refine av (bz [0]) ?_;refine ap rfl (aK rfl fun g8=>(av (bz [0]) ?_));refine ap rfl (aD (i:=2) rfl fun _ lO=>aD (i:=3) rfl fun _ lP=>aE (i:=4) (cs':=#[.bool e1,jp,i_]) rfl rfl rfl rfl (by simp only[List.all_cons,List.all_nil,lO,lP];rfl) rfl (av (bz [0]) ?_))
          try refine GW ?_
          refine ap rfl (aD (i:=11) rfl fun _ lQ=>aD (i:=12) rfl fun _ lR=>aE (i:=13) (cs':=#[.bool e2,gL,ia]) rfl rfl rfl rfl (by simp only[List.all_cons,List.all_nil,lQ,lR];rfl) rfl (av (bz [0]) ?_))
          try refine GW ?_
          refine cD [5,6,7,8,9,10,2,3,11,12,1,4,13] ?_;exact dm (⟨mq,mu,dK,mv,iU,F2⟩,jp,i_,gL,ia,g7,g8) eh (by repeat' (first|exact True.intro|refine And.intro rfl ?_)) rfl
        · refine aK rfl fun g8=>(av (bz [0]) ?_)
          refine ap rfl (aR [2,3,4,5,6,7] [0,1,8,9,10,11] (by decide) rfl rfl (eK aj.en rfl rfl rfl) (fun w hm hb=>uv ⟨pe,pf,eO,pg,kH,F1⟩ io w _ (dG (hm.pick [2,3,4,5,6,7] (by decide) rfl) iF) hb) rfl rfl rfl ?_);rintro⟨⟨mq,mu,dK,mv,iU,F2⟩,gL,ia⟩ eh;have eh:iU.length=p2.follow.length:=eh
          conv=>arg 8;simp only[zJ,bZ,ret,id_eq,bJ,ku]
          conv=>arg 7;simp only[bJ]
          refine av (bz [0]) ?_;refine ap rfl (aD (i:=2) rfl fun _ lO=>aD (i:=3) rfl fun _ lP=>aE (i:=4) (cs':=#[.bool e1,jp,i_]) rfl rfl rfl rfl (by simp only[List.all_cons,List.all_nil,lO,lP];rfl) rfl (av (bz [0]) ?_))
          try refine GW ?_
          refine ap rfl (aD (i:=12) rfl fun _ lQ=>aD (i:=13) rfl fun _ lR=>aE (i:=5) (cs':=#[.bool e2,gL,ia]) rfl rfl rfl rfl (by simp only[List.all_cons,List.all_nil,lQ,lR];rfl) rfl (av (bz [0]) ?_))
          try refine GW ?_
          refine cD [6,7,8,9,10,11,2,3,12,13,1,4,5] ?_;exact dm (⟨mq,mu,dK,mv,iU,F2⟩,jp,i_,gL,ia,g7,g8) eh (by repeat' (first|exact True.intro|refine And.intro rfl ?_)) rfl
      · refine aK rfl fun g8=>(av (bz [0]) ?_)
        refine dE rfl rfl ?_ ?_
        · refine aR [2,3,4,5,6,7] [0,1,8,9,10] (by decide) rfl rfl (eK aj.en rfl rfl rfl) (fun w hm hb=>uv ⟨pe,pf,eO,pg,kH,F1⟩ io w _ (dG (hm.pick [2,3,4,5,6,7] (by decide) rfl) iF) hb) rfl rfl rfl ?_
          rintro⟨⟨mq,mu,dK,mv,iU,F2⟩,gL,ia⟩ eh;have eh:iU.length=p2.follow.length:=eh
          conv=>arg 8;simp only[zJ,bZ,ret,id_eq,bJ,ku]
          conv=>arg 7;simp only[bJ]
          refine av (bz [0]) ?_;refine ap rfl (aK rfl fun g7=>(av (bz [0]) ?_));refine ap rfl (aD (i:=2) rfl fun _ lO=>aD (i:=3) rfl fun _ lP=>aE (i:=13) (cs':=#[.bool e1,jp,i_]) rfl rfl rfl rfl (by simp only[List.all_cons,List.all_nil,lO,lP];rfl) rfl (av (bz [0]) ?_))
          try refine GW ?_
          refine ap rfl (aD (i:=11) rfl fun _ lQ=>aD (i:=12) rfl fun _ lR=>aE (i:=4) (cs':=#[.bool e2,gL,ia]) rfl rfl rfl rfl (by simp only[List.all_cons,List.all_nil,lQ,lR];rfl) rfl (av (bz [0]) ?_))
          try refine GW ?_
          refine cD [5,6,7,8,9,10,2,3,11,12,1,13,4] ?_;exact dm (⟨mq,mu,dK,mv,iU,F2⟩,jp,i_,gL,ia,g7,g8) eh (by repeat' (first|exact True.intro|refine And.intro rfl ?_)) rfl
        · refine aK rfl fun g7=>(av (bz [0]) ?_)
          refine ap rfl (aR [2,3,4,5,6,7] [0,1,8,9,10,11] (by decide) rfl rfl (eK aj.en rfl rfl rfl) (fun w hm hb=>uv ⟨pe,pf,eO,pg,kH,F1⟩ io w _ (dG (hm.pick [2,3,4,5,6,7] (by decide) rfl) iF) hb) rfl rfl rfl ?_);rintro⟨⟨mq,mu,dK,mv,iU,F2⟩,gL,ia⟩ eh;have eh:iU.length=p2.follow.length:=eh
          conv=>arg 8;simp only[zJ,bZ,ret,id_eq,bJ,ku]
          conv=>arg 7;simp only[bJ]
          refine av (bz [0]) ?_;refine ap rfl (aD (i:=2) rfl fun _ lO=>aD (i:=3) rfl fun _ lP=>aE (i:=5) (cs':=#[.bool e1,jp,i_]) rfl rfl rfl rfl (by simp only[List.all_cons,List.all_nil,lO,lP];rfl) rfl (av (bz [0]) ?_))
          try refine GW ?_
          refine ap rfl (aD (i:=12) rfl fun _ lQ=>aD (i:=13) rfl fun _ lR=>aE (i:=4) (cs':=#[.bool e2,gL,ia]) rfl rfl rfl rfl (by simp only[List.all_cons,List.all_nil,lQ,lR];rfl) rfl (av (bz [0]) ?_))
          try refine GW ?_
          refine cD [6,7,8,9,10,11,2,3,12,13,1,5,4] ?_;exact dm (⟨mq,mu,dK,mv,iU,F2⟩,jp,i_,gL,ia,g7,g8) eh (by repeat' (first|exact True.intro|refine And.intro rfl ?_)) rfl
    · refine aK rfl fun g7=>(av (bz [6]) ?_)
      refine dE rfl rfl ?_ ?_
      · refine aR [0,1,2,3,4,5] [6,7,8] (by decide) rfl rfl (eK aj.en rfl rfl rfl) (fun w hm hb=>LL w _ (dG (hm.pick [0,1,2,3,4,5] (by decide) rfl) pX) hb) rfl rfl rfl ?_
        rintro⟨⟨pe,pf,eO,pg,kH,F1⟩,jp,i_⟩ io;have io:kH.length=p1.follow.length:=io
        conv=>arg 8;simp only[zJ,bZ,ret,id_eq,bJ,ku]
        conv=>arg 7;simp only[bJ]
        refine av (bz [0]) ?_;refine dE rfl rfl ?_ ?_
        · refine aR [3,4,5,6,7,8] [0,1,2,9,10] (by decide) rfl rfl (eK aj.en rfl rfl rfl) (fun w hm hb=>uv ⟨pe,pf,eO,pg,kH,F1⟩ io w _ (dG (hm.pick [3,4,5,6,7,8] (by decide) rfl) iF) hb) rfl rfl rfl ?_
          rintro⟨⟨mq,mu,dK,mv,iU,F2⟩,gL,ia⟩ eh;have eh:iU.length=p2.follow.length:=eh
          conv=>arg 8;simp only[zJ,bZ,ret,id_eq,bJ,ku]
          conv=>arg 7;simp only[bJ]
          refine av (bz [0]) ?_;refine ap rfl (aK rfl fun g8=>(av (bz [0]) ?_));refine ap rfl (aD (i:=3) rfl fun _ lO=>aD (i:=4) rfl fun _ lP=>aE (i:=2) (cs':=#[.bool e1,jp,i_]) rfl rfl rfl rfl (by simp only[List.all_cons,List.all_nil,lO,lP];rfl) rfl (av (bz [0]) ?_))
          try refine GW ?_
          refine ap rfl (aD (i:=11) rfl fun _ lQ=>aD (i:=12) rfl fun _ lR=>aE (i:=13) (cs':=#[.bool e2,gL,ia]) rfl rfl rfl rfl (by simp only[List.all_cons,List.all_nil,lQ,lR];rfl) rfl (av (bz [0]) ?_))
          try refine GW ?_
          refine cD [5,6,7,8,9,10,3,4,11,12,1,2,13] ?_;exact dm (⟨mq,mu,dK,mv,iU,F2⟩,jp,i_,gL,ia,g7,g8) eh (by repeat' (first|exact True.intro|refine And.intro rfl ?_)) rfl
        · refine aK rfl fun g8=>(av (bz [0]) ?_)
          refine ap rfl (aR [3,4,5,6,7,8] [0,1,2,9,10,11] (by decide) rfl rfl (eK aj.en rfl rfl rfl) (fun w hm hb=>uv ⟨pe,pf,eO,pg,kH,F1⟩ io w _ (dG (hm.pick [3,4,5,6,7,8] (by decide) rfl) iF) hb) rfl rfl rfl ?_);rintro⟨⟨mq,mu,dK,mv,iU,F2⟩,gL,ia⟩ eh;have eh:iU.length=p2.follow.length:=eh
          conv=>arg 8;simp only[zJ,bZ,ret,id_eq,bJ,ku]
          conv=>arg 7;simp only[bJ]
          refine av (bz [0]) ?_;refine ap rfl (aD (i:=3) rfl fun _ lO=>aD (i:=4) rfl fun _ lP=>aE (i:=2) (cs':=#[.bool e1,jp,i_]) rfl rfl rfl rfl (by simp only[List.all_cons,List.all_nil,lO,lP];rfl) rfl (av (bz [0]) ?_))
          try refine GW ?_
          refine ap rfl (aD (i:=12) rfl fun _ lQ=>aD (i:=13) rfl fun _ lR=>aE (i:=5) (cs':=#[.bool e2,gL,ia]) rfl rfl rfl rfl (by simp only[List.all_cons,List.all_nil,lQ,lR];rfl) rfl (av (bz [0]) ?_))
          try refine GW ?_
          refine cD [6,7,8,9,10,11,3,4,12,13,1,2,5] ?_;exact dm (⟨mq,mu,dK,mv,iU,F2⟩,jp,i_,gL,ia,g7,g8) eh (by repeat' (first|exact True.intro|refine And.intro rfl ?_)) rfl
      · refine aK rfl fun g8=>(av (bz [6]) ?_)
        refine ap rfl (aR [0,1,2,3,4,5] [6,7,8,9] (by decide) rfl rfl (eK aj.en rfl rfl rfl) (fun w hm hb=>LL w _ (dG (hm.pick [0,1,2,3,4,5] (by decide) rfl) pX) hb) rfl rfl rfl ?_);rintro⟨⟨pe,pf,eO,pg,kH,F1⟩,jp,i_⟩ io;have io:kH.length=p1.follow.length:=io
        conv=>arg 8;simp only[zJ,bZ,ret,id_eq,bJ,ku]
        conv=>arg 7;simp only[bJ]
        refine av (bz [0]) ?_;refine ap rfl (aR [4,5,6,7,8,9] [0,1,2,3,10,11] (by decide) rfl rfl (eK aj.en rfl rfl rfl) (fun w hm hb=>uv ⟨pe,pf,eO,pg,kH,F1⟩ io w _ (dG (hm.pick [4,5,6,7,8,9] (by decide) rfl) iF) hb) rfl rfl rfl ?_);rintro⟨⟨mq,mu,dK,mv,iU,F2⟩,gL,ia⟩ eh;have eh:iU.length=p2.follow.length:=eh
        conv=>arg 8;simp only[zJ,bZ,ret,id_eq,bJ,ku]
        conv=>arg 7;simp only[bJ]
        refine av (bz [0]) ?_;refine ap rfl (aD (i:=4) rfl fun _ lO=>aD (i:=5) rfl fun _ lP=>aE (i:=2) (cs':=#[.bool e1,jp,i_]) rfl rfl rfl rfl (by simp only[List.all_cons,List.all_nil,lO,lP];rfl) rfl (av (bz [0]) ?_))
        try refine GW ?_
        refine ap rfl (aD (i:=12) rfl fun _ lQ=>aD (i:=13) rfl fun _ lR=>aE (i:=3) (cs':=#[.bool e2,gL,ia]) rfl rfl rfl rfl (by simp only[List.all_cons,List.all_nil,lQ,lR];rfl) rfl (av (bz [0]) ?_))
        try refine GW ?_
        refine cD [6,7,8,9,10,11,4,5,12,13,1,2,3] ?_;exact dm (⟨mq,mu,dK,mv,iU,F2⟩,jp,i_,gL,ia,g7,g8) eh (by repeat' (first|exact True.intro|refine And.intro rfl ?_)) rfl
    · refine aK rfl fun g8=>(av (bz [6]) ?_)
      refine dE rfl rfl ?_ ?_
      · refine aR [0,1,2,3,4,5] [6,7,8] (by decide) rfl rfl (eK aj.en rfl rfl rfl) (fun w hm hb=>LL w _ (dG (hm.pick [0,1,2,3,4,5] (by decide) rfl) pX) hb) rfl rfl rfl ?_
        rintro⟨⟨pe,pf,eO,pg,kH,F1⟩,jp,i_⟩ io;have io:kH.length=p1.follow.length:=io
        conv=>arg 8;simp only[zJ,bZ,ret,id_eq,bJ,ku]
        conv=>arg 7;simp only[bJ]
        refine av (bz [0]) ?_;refine dE rfl rfl ?_ ?_
        · refine aR [3,4,5,6,7,8] [0,1,2,9,10] (by decide) rfl rfl (eK aj.en rfl rfl rfl) (fun w hm hb=>uv ⟨pe,pf,eO,pg,kH,F1⟩ io w _ (dG (hm.pick [3,4,5,6,7,8] (by decide) rfl) iF) hb) rfl rfl rfl ?_
          rintro⟨⟨mq,mu,dK,mv,iU,F2⟩,gL,ia⟩ eh;have eh:iU.length=p2.follow.length:=eh
          conv=>arg 8;simp only[zJ,bZ,ret,id_eq,bJ,ku]
          conv=>arg 7;simp only[bJ]
          refine av (bz [0]) ?_;refine ap rfl (aK rfl fun g7=>(av (bz [0]) ?_));refine ap rfl (aD (i:=3) rfl fun _ lO=>aD (i:=4) rfl fun _ lP=>aE (i:=13) (cs':=#[.bool e1,jp,i_]) rfl rfl rfl rfl (by simp only[List.all_cons,List.all_nil,lO,lP];rfl) rfl (av (bz [0]) ?_))
          try refine GW ?_
          refine ap rfl (aD (i:=11) rfl fun _ lQ=>aD (i:=12) rfl fun _ lR=>aE (i:=2) (cs':=#[.bool e2,gL,ia]) rfl rfl rfl rfl (by simp only[List.all_cons,List.all_nil,lQ,lR];rfl) rfl (av (bz [0]) ?_))
          try refine GW ?_
          refine cD [5,6,7,8,9,10,3,4,11,12,1,13,2] ?_;exact dm (⟨mq,mu,dK,mv,iU,F2⟩,jp,i_,gL,ia,g7,g8) eh (by repeat' (first|exact True.intro|refine And.intro rfl ?_)) rfl
        · refine aK rfl fun g7=>(av (bz [0]) ?_)
          refine ap rfl (aR [3,4,5,6,7,8] [0,1,2,9,10,11] (by decide) rfl rfl (eK aj.en rfl rfl rfl) (fun w hm hb=>uv ⟨pe,pf,eO,pg,kH,F1⟩ io w _ (dG (hm.pick [3,4,5,6,7,8] (by decide) rfl) iF) hb) rfl rfl rfl ?_);rintro⟨⟨mq,mu,dK,mv,iU,F2⟩,gL,ia⟩ eh;have eh:iU.length=p2.follow.length:=eh
          conv=>arg 8;simp only[zJ,bZ,ret,id_eq,bJ,ku]
          conv=>arg 7;simp only[bJ]
          refine av (bz [0]) ?_;refine ap rfl (aD (i:=3) rfl fun _ lO=>aD (i:=4) rfl fun _ lP=>aE (i:=5) (cs':=#[.bool e1,jp,i_]) rfl rfl rfl rfl (by simp only[List.all_cons,List.all_nil,lO,lP];rfl) rfl (av (bz [0]) ?_))
          try refine GW ?_
          refine ap rfl (aD (i:=12) rfl fun _ lQ=>aD (i:=13) rfl fun _ lR=>aE (i:=2) (cs':=#[.bool e2,gL,ia]) rfl rfl rfl rfl (by simp only[List.all_cons,List.all_nil,lQ,lR];rfl) rfl (av (bz [0]) ?_))
          try refine GW ?_
          refine cD [6,7,8,9,10,11,3,4,12,13,1,5,2] ?_;exact dm (⟨mq,mu,dK,mv,iU,F2⟩,jp,i_,gL,ia,g7,g8) eh (by repeat' (first|exact True.intro|refine And.intro rfl ?_)) rfl
      · refine aK rfl fun g7=>(av (bz [6]) ?_)
        refine ap rfl (aR [0,1,2,3,4,5] [6,7,8,9] (by decide) rfl rfl (eK aj.en rfl rfl rfl) (fun w hm hb=>LL w _ (dG (hm.pick [0,1,2,3,4,5] (by decide) rfl) pX) hb) rfl rfl rfl ?_);rintro⟨⟨pe,pf,eO,pg,kH,F1⟩,jp,i_⟩ io;have io:kH.length=p1.follow.length:=io
        conv=>arg 8;simp only[zJ,bZ,ret,id_eq,bJ,ku]
        conv=>arg 7;simp only[bJ]
        refine av (bz [0]) ?_;refine ap rfl (aR [4,5,6,7,8,9] [0,1,2,3,10,11] (by decide) rfl rfl (eK aj.en rfl rfl rfl) (fun w hm hb=>uv ⟨pe,pf,eO,pg,kH,F1⟩ io w _ (dG (hm.pick [4,5,6,7,8,9] (by decide) rfl) iF) hb) rfl rfl rfl ?_);rintro⟨⟨mq,mu,dK,mv,iU,F2⟩,gL,ia⟩ eh;have eh:iU.length=p2.follow.length:=eh
        conv=>arg 8;simp only[zJ,bZ,ret,id_eq,bJ,ku]
        conv=>arg 7;simp only[bJ]
        refine av (bz [0]) ?_;refine ap rfl (aD (i:=4) rfl fun _ lO=>aD (i:=5) rfl fun _ lP=>aE (i:=3) (cs':=#[.bool e1,jp,i_]) rfl rfl rfl rfl (by simp only[List.all_cons,List.all_nil,lO,lP];rfl) rfl (av (bz [0]) ?_))
        try refine GW ?_
        refine ap rfl (aD (i:=12) rfl fun _ lQ=>aD (i:=13) rfl fun _ lR=>aE (i:=2) (cs':=#[.bool e2,gL,ia]) rfl rfl rfl rfl (by simp only[List.all_cons,List.all_nil,lQ,lR];rfl) rfl (av (bz [0]) ?_))
        try refine GW ?_
        refine cD [6,7,8,9,10,11,4,5,12,13,1,3,2] ?_;exact dm (⟨mq,mu,dK,mv,iU,F2⟩,jp,i_,gL,ia,g7,g8) eh (by repeat' (first|exact True.intro|refine And.intro rfl ?_)) rfl
  clear LL uv CD o7;rintro⟨⟨vc,vr,vfol,vl,vs,F⟩,jp,i_,gL,ia,g7,g8⟩ eh;have eh:vs.length=p2.follow.length:=eh;dsimp only
  conv=>arg 7;simp only[zA,zB,zC,zD,zE,zF,zG,zH,zI,bZ,ret,id_eq,ku]
  have B7:=gJ UY;have Ca:=gJ SA;have XY:=gJ XX;have hl4:=gJ YT
  repeat(first|refine GA ?_|refine gV (J (v:=i_) ak.ty rfl (ah (i:=11) rfl rfl)) ?_|refine gV (J (v:=gL) ak.ty rfl (ah (i:=12) rfl rfl)) ?_)
  refine aR [0,3,4,7,8] [1,2,5,6,9,10,11,12] (by decide) rfl rfl (sB aj.en rfl rfl rfl rfl) (fun w hm hb=>ti g vc vr vf vfol vl ve aX i_ gL vs F p2.follow ii fg w _ eh (by rw[U0.follow];omega) (by rw[U0.follow];exact U0.UX) (by rw[U0.follow];exact kG SA kp2) (by rw[U0.follow];exact XX) hb) rfl rfl rfl ?_;rintro⟨lL,F'⟩ SB;have SB:lL.length=p2.follow.length:=SB
  conv=>arg 8;simp only[zJ,bZ,ret,id_eq,JK]
  refine jB (i:=3) rfl fun ba ca Wl _ _=>?_;refine jB (i:=4) rfl fun bb cb tS _ _=>?_;subst Wl tS
  cases e1 with
  | true=>
    cases e2 with
    | true=>
      repeat(first|refine GA ?_|refine gV (J ak.ty rfl (ah (i:=6) rfl rfl)) ?_|refine gV (J ak.ty rfl (ah (i:=7) rfl rfl)) ?_|refine gV (aP rfl (kl _ _ _ _ _ _ _)) ?_)
      refine aK rfl fun g11=>?_;refine zL ?_;refine fa 13 (cs':=#[.bool true,.slice ba e8.length ca,.slice bb hU.length cb]) ?_;refine zL ?_
      repeat(first|refine GA ?_|refine gV (J ak.ty rfl (ah (i:=6) rfl rfl)) ?_|refine gV (J ak.ty rfl (ah (i:=7) rfl rfl)) ?_)
      refine aI (eK aj.en rfl rfl rfl) (fun w' hm=>fj _ gL e8 fg w' (Sl.cI (hm.get (i:=3) rfl)) (Sl.cI (hm.get (i:=12) rfl)) (by omega) (by omega)) rfl rfl rfl ?_;intro vu _
      conv=>arg 8;simp only[zJ,bZ,ret,id_eq,oR]
      try refine GA ?_
      refine aD (i:=14) rfl fun qu1 YW=>aW (i:=13) rfl rfl rfl qu1 YW rfl ?_;refine zL ?_
      repeat(first|refine GA ?_|refine gV (J ak.ty rfl (ah (i:=6) rfl rfl)) ?_|refine gV (J ak.ty rfl (ah (i:=7) rfl rfl)) ?_)
      refine aI (eK aj.en rfl rfl rfl) (fun w' hm=>fj i_ _ ii hU w' (Sl.cI (hm.get (i:=11) rfl)) (Sl.cI (hm.get (i:=4) rfl)) (by omega) (by omega)) rfl rfl rfl ?_;intro Wp _
      conv=>arg 8;simp only[zJ,bZ,ret,id_eq,oR]
      try refine GA ?_
      refine aD (i:=15) rfl fun qv1 YX=>aW (i:=13) rfl rfl rfl qv1 YX rfl ?_;refine zL ?_
      repeat(first|refine GA ?_|refine gV (az (i:=13) ak.ty rfl rfl rfl) ?_|refine gV (J ak.ty rfl (ah (i:=6) rfl rfl)) ?_|refine gV (J ak.ty rfl (ah (i:=7) rfl rfl)) ?_)
      refine aE (i:=5) (cs':=#[.bool true,vu,Wp]) rfl rfl rfl rfl (by simp only[List.all_cons,List.all_nil,YW,YX];rfl) rfl ?_;refine zL ?_
      try refine GA ?_
      refine eR (i:=5) rfl rfl rfl rfl fun w hm=>?_;exact hm.bP (S:=bJ g vf ve aX (⟨true,mP e8 fg,mP ii hU⟩,{p2 with follow:=dV p2.follow ii fg})) (⟨vc,vr,vfol,vl,lL,F'⟩,vu,Wp) (by show lL.length=(dV p2.follow ii fg).length;rw[iE];exact SB) [8,0,1,9,10,2,14,15] (by decide) rfl
    | false=>
      repeat(first|refine GA ?_|refine gV (J ak.ty rfl (ah (i:=6) rfl rfl)) ?_|refine gV (J ak.ty rfl (ah (i:=7) rfl rfl)) ?_|refine gV (aP rfl (kl _ _ _ _ _ _ _)) ?_)
      refine aK rfl fun g11=>?_;refine zL ?_;refine fa 13 (cs':=#[.bool false,.slice ba e8.length ca,.slice bb hU.length cb]) ?_;refine zL ?_
      repeat(first|refine GA ?_|refine gV (J ak.ty rfl (ah (i:=6) rfl rfl)) ?_|refine gV (J ak.ty rfl (ah (i:=7) rfl rfl)) ?_)
      refine aI (eK aj.en rfl rfl rfl) (fun w' hm=>fj _ gL e8 fg w' (Sl.cI (hm.get (i:=3) rfl)) (Sl.cI (hm.get (i:=12) rfl)) (by omega) (by omega)) rfl rfl rfl ?_;intro vu _
      conv=>arg 8;simp only[zJ,bZ,ret,id_eq,oR]
      try refine GA ?_
      refine aD (i:=14) rfl fun qu1 YW=>aW (i:=13) rfl rfl rfl qu1 YW rfl ?_;refine zL ?_
      repeat(first|refine GA ?_|refine gV (az (i:=13) ak.ty rfl rfl rfl) ?_|refine gV (J ak.ty rfl (ah (i:=6) rfl rfl)) ?_|refine gV (J ak.ty rfl (ah (i:=7) rfl rfl)) ?_)
      refine aE (i:=5) (cs':=#[.bool false,vu,.slice bb hU.length cb]) rfl rfl rfl rfl (by simp only[List.all_cons,List.all_nil,YW];rfl) rfl ?_;refine zL ?_
      try refine GA ?_
      refine eR (i:=5) rfl rfl rfl rfl fun w hm=>?_;exact hm.bP (S:=bJ g vf ve aX (⟨false,mP e8 fg,hU⟩,{p2 with follow:=dV p2.follow ii fg})) (⟨vc,vr,vfol,vl,lL,F'⟩,vu,.slice bb hU.length cb) (by show lL.length=(dV p2.follow ii fg).length;rw[iE];exact SB) [8,0,1,9,10,2,14,4] (by decide) rfl
  | false=>
    cases e2 with
    | true=>
      repeat(first|refine GA ?_|refine gV (J ak.ty rfl (ah (i:=6) rfl rfl)) ?_|refine gV (J ak.ty rfl (ah (i:=7) rfl rfl)) ?_|refine gV (aP rfl (kl _ _ _ _ _ _ _)) ?_)
      refine aK rfl fun g11=>?_;refine zL ?_;refine fa 13 (cs':=#[.bool false,.slice ba e8.length ca,.slice bb hU.length cb]) ?_;refine zL ?_
      repeat(first|refine GA ?_|refine gV (J ak.ty rfl (ah (i:=6) rfl rfl)) ?_|refine gV (J ak.ty rfl (ah (i:=7) rfl rfl)) ?_)
      refine aI (eK aj.en rfl rfl rfl) (fun w' hm=>fj i_ _ ii hU w' (Sl.cI (hm.get (i:=11) rfl)) (Sl.cI (hm.get (i:=4) rfl)) (by omega) (by omega)) rfl rfl rfl ?_;intro Wp _
      conv=>arg 8;simp only[zJ,bZ,ret,id_eq,oR]
      try refine GA ?_
      refine aD (i:=14) rfl fun qv1 YX=>aW (i:=13) rfl rfl rfl qv1 YX rfl ?_;refine zL ?_
      repeat(first|refine GA ?_|refine gV (az (i:=13) ak.ty rfl rfl rfl) ?_|refine gV (J ak.ty rfl (ah (i:=6) rfl rfl)) ?_|refine gV (J ak.ty rfl (ah (i:=7) rfl rfl)) ?_)
      refine aE (i:=5) (cs':=#[.bool false,.slice ba e8.length ca,Wp]) rfl rfl rfl rfl (by simp only[List.all_cons,List.all_nil,YX];rfl) rfl ?_;refine zL ?_
      try refine GA ?_
      refine eR (i:=5) rfl rfl rfl rfl fun w hm=>?_;exact hm.bP (S:=bJ g vf ve aX (⟨false,e8,mP ii hU⟩,{p2 with follow:=dV p2.follow ii fg})) (⟨vc,vr,vfol,vl,lL,F'⟩,.slice ba e8.length ca,Wp) (by show lL.length=(dV p2.follow ii fg).length;rw[iE];exact SB) [8,0,1,9,10,2,3,14] (by decide) rfl
    | false=>
      repeat(first|refine GA ?_|refine gV (J ak.ty rfl (ah (i:=6) rfl rfl)) ?_|refine gV (J ak.ty rfl (ah (i:=7) rfl rfl)) ?_|refine gV (aP rfl (kl _ _ _ _ _ _ _)) ?_)
      refine aK rfl fun g11=>?_;refine zL ?_;refine fa 13 (cs':=#[.bool false,.slice ba e8.length ca,.slice bb hU.length cb]) ?_;refine zL ?_
      repeat(first|refine GA ?_|refine gV (az (i:=13) ak.ty rfl rfl rfl) ?_|refine gV (J ak.ty rfl (ah (i:=6) rfl rfl)) ?_|refine gV (J ak.ty rfl (ah (i:=7) rfl rfl)) ?_)
      refine fa 5 (cs':=#[.bool false,.slice ba e8.length ca,.slice bb hU.length cb]) ?_;refine zL ?_
      try refine GA ?_
      refine eR (i:=5) rfl rfl rfl rfl fun w hm=>?_;exact hm.bP (S:=bJ g vf ve aX (⟨false,e8,hU⟩,{p2 with follow:=dV p2.follow ii fg})) (⟨vc,vr,vfol,vl,lL,F'⟩,.slice ba e8.length ca,.slice bb hU.length cb) (by show lL.length=(dV p2.follow ii fg).length;rw[iE];exact SB) [8,0,1,9,10,2,3,4] (by decide) rfl
end bK
namespace bK
open Go.RowKit bO dc bW eG de
theorem wR:∀M,CB M
  |0=>fun e h=>by have:=e.size_pos;omega
  | M +1=>fun e h g vf ve aX p x v w B hp hx hn hr hv hm=>by
    cases e with
    |none=>exact LG g vf ve aX p x v w B hx hv hm
    |empty=>exact HA g vf ve aX p x v w B hx hv hm
    |byte c=>exact LI c g vf ve aX p x v w B hp hx (by omega) hv hm
    | star a=>
      have h:a.size+1<=M+1:=h;exact LJ (wR M) a (by omega) g vf ve aX p x v w B hp hx hn hr hv hm
    | B3 a b=>
      have h:a.size+b.size+1<=M+1:=h;exact OW (wR M) a b (by omega) (by omega) g vf ve aX p x v w B hp hx hn hr hv hm
    | B2 a b=>
      have h:a.size+b.size+1<=M+1:=h;exact OX (wR M) a b (by omega) (by omega) g vf ve aX p x v w B hp hx hn hr hv hm
end bK
namespace bK
open Go.RowKit bO dc bW eG de
theorem oo(w:World):(Instr.build 181 (#[]:Array (Nat×Value))).run Tryz.prog w= .ok (.agg #[.slice none 0 0,.slice none 0 0,.slice none 0 0,.slice none 0 0,.slice none 0 0,.slice none 0 0]) w:=by
 go_simp
theorem LM(w:World):(Instr.build 242 (#[]:Array (Nat×Value))).run Tryz.prog w= .ok (.agg #[.slice none 0 0,.slice none 0 0,.slice none 0 0,.slice none 0 0,.slice none 0 0,.slice none 0 0,.int .i64 0]) w:=by
 go_simp
structure XZ where
 vc:Value
 vr:Value
 vf:Value
 vfol:Value
 vl:Value
 ve:Value
 vs:List Value
 F:Nat->Prop
def HD(x:XZ)(m:MS):List bI:=
 [aM 116 4 x.vc m.ps.aJ.length (m.ps.aJ.flatMap cZ),eH x.vr m.ps.rules,eH x.vf m.first,sc x.vfol x.vs,pW x.F x.vs m.ps.follow,aM 4 1 x.vl m.ps.last.length (m.ps.last.map Value.bool),aM 4 1 x.ve m.empty.length (m.empty.map Value.bool)]
def HE(x:XZ):Array Value:=#[x.vc,x.vr,x.vf,x.vfol,x.vl,x.ve]
def mQ(R:Int×MS):Spec XZ:=⟨fun x=>x.vs.length=R.2.ps.follow.length,fun x=> .tuple #[.agg (HE x),.int .i64 R.1],fun x=>HD x R.2⟩
def OY:XZ:=⟨.slice none 0 0,.slice none 0 0,.slice none 0 0,.slice none 0 0,.slice none 0 0,.slice none 0 0,[],fun _=>False⟩
theorem CE{n:Nat}{W:bC}{Q:Exit->Act->World->Prop}{fr:Fr}{L:List bI}{e':Exit}(h:E n W e' Q fr (L++HD OY .zero)):E n W e' Q fr L:=by
 refine dq 116 4 (dq 3 1 (dq 3 1 (dq 26 1 (nW (pW (fun _=>False) [] []) (fun k hk=>hk.elim (fun h=>by cases h) id) (fun w=>iM) (dq 4 1 (dq 4 1 ?_))))));simp only[List.append_assoc,List.cons_append,List.nil_append];exact h
theorem SC{vc vr vf vfol vl ve v:Value}{aX:Int}{j:Nat}(h:[vc,vr,vf,vfol,vl,ve][j]?=some v):(JJ vc vr vf vfol vl ve aX)[0+j]?=some v:=by
 rw[Nat.zero_add]
 match j,h with
 |0,h=>exact h
 |1,h=>exact h
 |2,h=>exact h
 |3,h=>exact h
 |4,h=>exact h
 |5,h=>exact h
def Au(b:Bool):List Value:=[.bool b]
theorem LN(b:Bool):(Au b).length=1:=rfl
theorem uw(l:List Bool):l.flatMap Au=l.map Value.bool:=by
 induction l with
 |nil=>rfl
 |cons x r ih=>rw[List.flatMap_cons,ih];rfl
def A8(rs:List Rx)(R:Int×MS):Prop:=
  ((rs.length=0\/20<rs.length)/\R=(1,.zero))\/(¬(rs.length=0\/20<rs.length)/\gK rs≠0/\R=(gK rs,.zero))\/
    (¬(rs.length=0\/20<rs.length)/\gK rs=0/\∃es:List Re,rs=es.map jf/\(∀e∈es,e.size<=100)/\R=jh 0 .zero es)
theorem HG{l:List Rx}{k:Nat}(h:k<l.length):gK (l.drop k)=if EI l[k]≠0 then EI l[k]else gK (l.drop (k+1)):=by
 rw[List.drop_eq_getElem_cons h,gK]
theorem ym(v:Value)(rs:List Rx)(R:Int×MS)(w:World)(hv:iB rL (ng w) w v rs)(hR:A8 rs R):
    Calls Tryz.prog 75 #[v] w (bM (mQ R) w):=by
  obtain⟨bk,ck,rfl,h1,h2,h3⟩:=hv;unfold maxLen at h2;refine enter (args:=[.slice bk rs.length ck]) (n:=104) Tryz.func75 rfl rfl rfl ?_;refine a8 (aL (aK rfl fun g2=>?_));refine zL ?_;rcases hR with⟨c1,rfl⟩|hR
  · by_cases c2:rs.length=0
    · repeat(first|refine GC ?_|refine gV (bL (b:=true) rfl rfl (decide_eq_true (by omega))) ?_|refine gV (aP rfl oo) ?_|refine GB ?_)
      refine fa 0 ?_;refine zL ?_
      try refine GA ?_
      refine CE ?_;exact da (i:=0) rfl rfl rfl rfl rfl fun w hm=>hm.meets (S:=mQ (1,.zero)) OY rfl [1,2,3,4,5,6,7] (by decide) rfl
    · have c3:20<rs.length:=c1.resolve_left c2
      repeat(first|refine GC ?_|refine gV (bL (b:=false) rfl rfl (decide_eq_false (by omega))) ?_|refine gV (dj (b:=true) rfl rfl (decide_eq_true (by omega))) ?_|refine gV (aP rfl oo) ?_|refine GB ?_)
      refine fa 0 ?_;refine zL ?_
      try refine GA ?_
      refine CE ?_;exact da (i:=0) rfl rfl rfl rfl rfl fun w hm=>hm.meets (S:=mQ (1,.zero)) OY rfl [1,2,3,4,5,6,7] (by decide) rfl
  have hlen:¬(rs.length=0\/20<rs.length):=by rcases hR with⟨h,_⟩|⟨h,_⟩<;>exact h
  repeat(first|refine GC ?_|refine gV (bL (b:=false) rfl rfl (decide_eq_false (by omega))) ?_|refine gV (dj (b:=false) rfl rfl (decide_eq_false (by omega))) ?_|refine GB ?_)
  refine dv (ι:=Nat) (fun k=>k<=rs.length/\gK rs=gK (rs.drop k)) (fun k=>[(0,.slice bk rs.length ck),(2,.pointer (some ⟨g2,0,none⟩)),(22,.slice bk rs.length ck),(23,.int .i64 rs.length),(24,.int .i64 (k:Int))])
    (fun _=>[aw g2 #[.slice none 0 0,.slice none 0 0,.slice none 0 0,.slice none 0 0,.slice none 0 0,.slice none 0 0] 181]) (fun k=>rs.length-k) 0 ⟨Nat.zero_le _,rfl⟩ ?_
  rintro k ⟨i1,i2⟩
  by_cases c6:k<rs.length
  · obtain⟨b,off,rfl,hF,ef⟩:=h3 (by omega)
    obtain⟨kb,kc,hr,LK⟩:=mB ef c6;have dF:=fun(L:List bI) (j:Nat) (v:Value) (hj:(jx rs[k].kind rs[k].pA (.slice kb rs[k].kids.length kc))[j]?=some v)=>f_ (L:=L) hr hj;have gd:∀w',Gr w w'->Calls Tryz.prog 111 #[mM rs[k].kind rs[k].pA (.slice kb rs[k].kids.length kc)] w' (bM (ret (.int .i64 (EI rs[k]))) w'):=fun w' hg=>pG _ _ w' (LK.gr hg);have SD:=HG c6;clear h3 ef hr;generalize rs[k]=r at*
    repeat(first|refine GA ?_|refine gV (aC aT.eq ak.ty rfl rfl c6) ?_|refine gV (aH ak.ty rfl rfl (dF _)) ?_)
    refine aK rfl fun g5=>?_;refine zL ?_;refine fa 1 (cs':=(jx r.kind r.pA (.slice kb r.kids.length kc)).toArray) ?_;refine zL ?_
    repeat(first|refine GA ?_|refine gV (az (i:=1) ak.ty rfl rfl rfl) ?_)
    refine aI (jc aj.en rfl rfl) (fun w hm=>gd _ hm.below) rfl rfl rfl ?_;intro _ _;refine zL ?_
    by_cases c7:EI r=0
    · repeat(first|refine GC ?_|refine gV (bm (b:=false) rfl rfl (decide_eq_false (by simpa using c7))) ?_|refine GB ?_)
      refine cD [0] ?_;exact bB (k+1) ⟨by omega,by rw[i2,SD,if_neg (by simpa using c7)]⟩ (by show rs.length-(k+1)<rs.length-k;omega)
    · have hne:gK rs≠0:=by rw[i2,SD,if_pos c7];exact c7
      rcases hR with⟨_,_,rfl⟩|⟨_,h0,_⟩
      · rw[i2,SD,if_pos c7]
        repeat(first|refine GC ?_|refine gV (bm (b:=true) rfl rfl (decide_eq_true c7)) ?_|refine gV (aP rfl oo) ?_|refine GB ?_)
        refine fa 0 ?_;refine zL ?_
        try refine GA ?_
        refine CE ?_;exact da (i:=0) rfl rfl rfl rfl rfl fun w hm=>hm.meets (S:=mQ (EI r,.zero)) OY rfl [2,3,4,5,6,7,8] (by decide) rfl
      · exact absurd h0 hne
  · obtain rfl:k=rs.length:=by omega
    have h0:gK rs=0:=by rw[i2,List.drop_eq_nil_of_le (Nat.le_refl _)];rfl
    obtain⟨es,rfl,hsz,rfl⟩:∃es:List Re,rs=es.map jf/\(∀e∈es,e.size<=100)/\R=jh 0 .zero es:=by
      rcases hR with⟨_,h,_⟩|⟨_,_,h⟩
      · exact absurd h0 h
      · exact h
    have h20:(List.map jf es).length<=20:=by omega
    clear hR hlen i1 i2
    repeat(first|refine GA ?_|refine gV (aP rfl LM) ?_)
    refine a_ rfl rfl rfl fun g7=>?_;refine zL ?_
    try refine GA ?_
    refine g_ 116 4 (g_ 3 1 (g_ 26 1 (mz (pW (fun _=>False) [] []) (fun k hk=>hk.elim (fun h=>by cases h) id) (fun w=>iM) (g_ 4 1 (g_ 3 1 (g_ 4 1 ?_))))));refine dv (ι:=Nat×MS×Nc×Value×Value×Int) (fun(k,m,x,_,_,_)=>k<=es.length/\jh 0 .zero es=jh k m (es.drop k)/\Hw m/\m.ps.aJ.length<=200/\x.vs.length=m.ps.follow.length/\m.empty.length=k) (fun(k,_,_,_,_,_)=>[(2,.pointer (some ⟨g2,0,none⟩)),(7,.pointer (some ⟨g7,0,none⟩)),(37,.slice bk (es.map jf).length ck),(38,.int .i64 (es.map jf).length),(39,.int .i64 (k:Int))])
      (fun(_,m,x,vf,ve,aX)=>[aw g2 #[.slice none 0 0,.slice none 0 0,.slice none 0 0,.slice none 0 0,.slice none 0 0,.slice none 0 0] 181]++ku g7 vf ve aX x m.ps++[eH vf m.first,aM 4 1 ve m.empty.length (m.empty.map Value.bool)]) (fun(k,_,_,_,_,_)=>es.length-k)
      (0,.zero,⟨.slice none 0 0,.slice none 0 0,.slice none 0 0,.slice none 0 0,[],fun _=>False⟩,.slice none 0 0,.slice none 0 0,0) ⟨Nat.zero_le _,rfl,Cu,Nat.zero_le _,rfl,rfl⟩ ?_
    rintro⟨k,m,⟨vc,vr,vfol,vl,vs,F⟩,vf,ve,aX⟩ ⟨i1,i2,i3,i4,i5,i6⟩;dsimp only at i1 i2 i3 i4 i5 i6⊢
    conv=>arg 7;simp only[zA,zB,zC,zD,zE,zF,zG,zH,zI,bZ,ret,id_eq,ku]
    have hml:(List.map jf es).length=es.length:=List.length_map ..
    by_cases c6:k<es.length
    · obtain⟨b,off,rfl,hF,ef⟩:=h3 (by omega)
      obtain⟨kb,kc,hr,LK⟩:=mB (k:=k) ef (by omega);have dF:=fun(L:List bI) (j:Nat) (v:Value) (hj:(jx (es.map jf)[k].kind (es.map jf)[k].pA (.slice kb (es.map jf)[k].kids.length kc))[j]?=some v)=>f_ (L:=L) hr hj;have hke:(es.map jf)[k]'(by omega)=jf es[k]:=List.getElem_map ..;rw[hke]at dF LK;have hse:=hsz es[k] (List.getElem_mem c6);rw[List.drop_eq_getElem_cons c6,jh]at i2;clear h3 ef hr hke;generalize es[k]=e at*;have hst:=JF k i3 e;have GV:=ji k e m.ps i3.ps;have hno:=fun v w B hv hm=>wR 100 e hse g7 vf ve k m.ps ⟨vc,vr,vfol,vl,vs,F⟩ v w B i3.ps i5 (by omega) ⟨by omega,by omega⟩ hv hm
      repeat(first|refine GA ?_|refine gV (aC aT.eq ak.ty rfl rfl (by omega)) ?_|refine gV (aH ak.ty rfl rfl (dF _)) ?_)
      refine aK rfl fun g9=>?_;refine zL ?_
      try refine GA ?_
      refine fa 9 (cs':=(jx (jf e).kind (jf e).pA (.slice kb (jf e).kids.length kc)).toArray) ?_;refine zL ?_
      try refine GA ?_
      refine aW (i:=1) rfl rfl rfl rfl rfl rfl ?_;refine zL ?_
      repeat(first|refine GA ?_|refine gV (az (i:=9) ak.ty rfl rfl rfl) ?_)
      refine aR [1,2,3,4,5,6] [0,7,8,9] (by decide) rfl rfl (eK aj.en rfl rfl rfl) (fun w hm hb=>hno _ w _ (dG (hm.pick [1,2,3,4,5,6] (by decide) rfl) (LK.mono fun k hk=>⟨hk,id⟩)) hb) rfl rfl rfl ?_;rintro⟨⟨zY,wQ,rl,JM,lL,F'⟩,va,vb⟩ G3
      conv=>arg 8;simp only[zJ,bZ,ret,id_eq,bJ,ku]
      conv=>arg 7;simp only[bJ]
      have G3:lL.length=(bH k e m.ps).2.follow.length:=G3;unfold rj at i2 hst;generalize bH k e m.ps=R at*;obtain⟨⟨em,first,last⟩,p'⟩:=R;dsimp only at i2 hst GV G3⊢;obtain⟨n1,n2,n3,n4,n5⟩:=GV;have B7:=gJ i3.first;have Ca:=gJ n4;have XY:=gJ n5;refine aD (i:=10) rfl fun _ qa=>aD (i:=11) rfl fun _ qb=>aK rfl fun g10=>?_;refine zL ?_;refine aE (i:=12) (cs':=#[.bool em,va,vb]) rfl rfl rfl rfl (by simp only[List.all_cons,List.all_nil,qa,qb];rfl) rfl ?_;refine zL ?_
      try refine GA ?_
      (repeat refine a8 ?_)
      refine iW (ι:=Value) (fun Nf=>Nf.oneCell'=true) (fun _=>[(2,.pointer (some ⟨g2,0,none⟩)),(7,.pointer (some ⟨g7,0,none⟩)),(10,.pointer (some ⟨g10,0,none⟩)),(37,.slice (some ⟨b,off,none⟩) (es.map jf).length ck),(38,.int .i64 (es.map jf).length),(39,.int .i64 (k:Int))])
        (fun Nf=>[aw g2 #[.slice none 0 0,.slice none 0 0,.slice none 0 0,.slice none 0 0,.slice none 0 0,.slice none 0 0] 181,aw g7 (JJ zY wQ Nf rl JM ve (k:Int)) 242,aM 116 4 zY p'.aJ.length (p'.aJ.flatMap cZ),eH wQ p'.rules,sc rl lL,pW F' lL p'.follow,aM 4 1 JM p'.last.length (p'.last.map Value.bool),eH Nf (mP m.first first),aM 4 1 ve m.empty.length (m.empty.map Value.bool),aw g10 #[.bool em,va,vb] 244,eH vb last]) ?_ ?_
      · refine cU ([aw g10 #[.bool em,va,vb] 244]) (.calm 0 (.calm 1 (.calm 2 (.calm 3 (.calm 4 (.calm 6 (.calm 7 (.one 5 (.one 8 (.calm 9 (.calm 10 (.calm 11 (.one 12 (.done)))))))))))))) (bz [12]) ?_
        repeat(first|refine GW ?_|(refine GN ?_;first|refine QW (J ak.ty rfl (ah (i:=0) rfl rfl)) ?_))
        refine ap rfl (aV (J (v:=vf) ak.ty rfl (ah (i:=4) rfl rfl)) rfl rfl rfl (av (bz [12]) ?_));refine ap rfl (aI (eK aj.en rfl rfl rfl) (fun w' hm=>fj vf va m.first first w' (Sl.cI (hm.get (i:=1) rfl)) (Sl.cI (hm.get (i:=10) rfl)) (by omega) (by omega)) rfl rfl rfl ?_);intro Nf _
        conv=>arg 8;simp only[zJ,bZ,ret,id_eq,oR]
        refine av (bz [12]) ?_
        try refine GW ?_
        refine ap rfl (aD (i:=13) rfl fun qf1 qf2=>aW (i:=4) rfl rfl rfl qf1 qf2 rfl (av (bz [12]) ?_))
        try refine GW ?_
        refine cD [0,4,5,6,7,8,9,13,2,12,11] ?_;exact dm Nf qf2 (by repeat' (first|exact True.intro|refine And.intro rfl ?_)) rfl
      intro Nf uS
      (repeat refine a8 ?_)
      refine iW (ι:=Value) (fun JN=>JN.oneCell'=true) (fun _=>[(2,.pointer (some ⟨g2,0,none⟩)),(7,.pointer (some ⟨g7,0,none⟩)),(10,.pointer (some ⟨g10,0,none⟩)),(37,.slice (some ⟨b,off,none⟩) (es.map jf).length ck),(38,.int .i64 (es.map jf).length),(39,.int .i64 (k:Int))])
        (fun JN=>[aw g2 #[.slice none 0 0,.slice none 0 0,.slice none 0 0,.slice none 0 0,.slice none 0 0,.slice none 0 0] 181,aw g7 (JJ zY wQ Nf rl JM JN (k:Int)) 242,aM 116 4 zY p'.aJ.length (p'.aJ.flatMap cZ),eH wQ p'.rules,sc rl lL,pW F' lL p'.follow,aM 4 1 JM p'.last.length (p'.last.map Value.bool),eH Nf (mP m.first first),aM 4 1 JN (m.empty++[em]).length ((m.empty++[em]).map Value.bool),aw g10 #[.bool em,va,vb] 244,eH vb last]) ?_ ?_
      · refine cU ([aw g10 #[.bool em,va,vb] 244]) (.calm 0 (.calm 1 (.calm 2 (.calm 3 (.calm 4 (.calm 6 (.calm 7 (.two 5 (.one 8 (.one 9 (.calm 10 (.calm 11 (.calm 12 (.one 13 (.done))))))) 8 (.one 5 (.one 9 (.calm 10 (.calm 11 (.calm 12 (.one 13 (.done))))))))))))))) (bz [9]) ?_
        repeat(first|refine GW ?_|(refine GN ?_;first|refine QW (J ak.ty rfl (ah (i:=0) rfl rfl)) ?_))
        refine dE rfl rfl ?_ ?_
        · refine aV (J (v:=ve) ak.ty rfl (ah (i:=1) rfl rfl)) rfl rfl rfl (av (bz [9]) ?_)
          refine ap rfl (dT (cs:=#[.bool em]) [.bool em] rfl rfl rfl (by intro v hv;simp at hv;subst hv;rfl) rfl rfl rfl fun g71=>(av (bz [9]) ?_));refine ap rfl (dw (i:=8) (e:=4) (size:=1) (bytes:=1) (m:=m.empty.length) (xs:=m.empty.map Value.bool) (k:=1) (ys:=[.bool em]) rfl (iA (i:=11) rfl (fun j u h=>by simpa using h) (Nat.le_refl 1) (by decide)) rfl rfl rfl (fun u hu=>by rw[List.mem_singleton.1 hu];rfl) (by omega) (by omega) rfl fun JN=>(av (bz [9]) ?_))
          try refine GW ?_
          refine ap rfl (aD (i:=8) rfl fun qe1 YY=>aW (i:=1) rfl rfl rfl qe1 YY rfl (av (bz [9]) ?_))
          try refine GW ?_
          refine cD [0,1,2,3,4,5,6,7,8,9,10] ?_;exact dm JN YY (by repeat' (first|exact True.intro|refine And.intro rfl ?_)) (by rw[<-uu JN m.empty em];rfl)
        · refine dT (cs:=#[.bool em]) [.bool em] rfl rfl rfl (by intro v hv;simp at hv;subst hv;rfl) rfl rfl rfl fun g71=>(av (bz [9]) ?_)
          refine ap rfl (aV (J (v:=ve) ak.ty rfl (ah (i:=1) rfl rfl)) rfl rfl rfl (av (bz [9]) ?_));refine ap rfl (dw (i:=8) (e:=4) (size:=1) (bytes:=1) (m:=m.empty.length) (xs:=m.empty.map Value.bool) (k:=1) (ys:=[.bool em]) rfl (iA (i:=11) rfl (fun j u h=>by simpa using h) (Nat.le_refl 1) (by decide)) rfl rfl rfl (fun u hu=>by rw[List.mem_singleton.1 hu];rfl) (by omega) (by omega) rfl fun JN=>(av (bz [9]) ?_))
          try refine GW ?_
          refine ap rfl (aD (i:=8) rfl fun qe1 YY=>aW (i:=1) rfl rfl rfl qe1 YY rfl (av (bz [9]) ?_))
          try refine GW ?_
          refine cD [0,1,2,3,4,5,6,7,8,9,10] ?_;exact dm JN YY (by repeat' (first|exact True.intro|refine And.intro rfl ?_)) (by rw[<-uu JN m.empty em];rfl)
      intro JN he';rw[show p'.last.map Value.bool=p'.last.flatMap Au from(uw _).symm];refine fv (i:=10) (φ:=∃a c,vb= .slice a last.length c/\(0<last.length->∃gl,a=some ⟨gl,0,none⟩)) rfl (fun w h=>by
        obtain⟨y1,y2⟩:=(show w.ownsRow 0 3 1 vb last.length (last.map (Value.int .i64))from h);rcases y2 with⟨y3,y4⟩|⟨gl,cap,kK,hv,_⟩
        · exact⟨none,0,by rw[y3,y4],fun h=>by omega⟩
        · exact⟨_,_,hv,fun _=>⟨gl,rfl⟩⟩) fun tS=>?_
      obtain⟨al,cl,rfl,hal⟩:=tS;refine fv (i:=6) (φ:=0<p'.last.length->∃gb cb,JM= .slice (some ⟨gb,0,none⟩) p'.last.length cb) rfl (fun w h=>by
        obtain⟨y1,y2⟩:=(show w.ownsRow 0 4 1 JM p'.last.length (p'.last.flatMap Au)from h);rcases y2 with⟨y3,y4⟩|⟨gl,cap,kK,hv,_⟩
        · intro h;omega
        · exact fun _=>⟨gl,cap,hv⟩) fun Rv=>?_
      repeat(first|refine GA ?_|refine gV (J (v:= .slice al last.length cl) ak.ty rfl (ah (i:=9) rfl rfl)) ?_)
      refine oX [0,1,2,3,4,5,6,7,8,10] ?_;refine dv (ι:=Nat) (fun j=>j<=last.length) (fun j=>[(2,.pointer (some ⟨g2,0,none⟩)),(7,.pointer (some ⟨g7,0,none⟩)),(37,.slice (some ⟨b,off,none⟩) (es.map jf).length ck),(38,.int .i64 (es.map jf).length),(39,.int .i64 (k:Int)),(77,.slice al last.length cl),(78,.int .i64 last.length),(79,.int .i64 (j:Int))])
        (fun j=>[aw g2 #[.slice none 0 0,.slice none 0 0,.slice none 0 0,.slice none 0 0,.slice none 0 0,.slice none 0 0] 181,aw g7 (JJ zY wQ Nf rl JM JN (k:Int)) 242,aM 116 4 zY p'.aJ.length (p'.aJ.flatMap cZ),eH wQ p'.rules,sc rl lL,pW F' lL p'.follow,aM 4 1 JM p'.last.length ((eu p'.last (last.take j)).flatMap Au),eH Nf (mP m.first first),aM 4 1 JN (m.empty++[em]).length ((m.empty++[em]).map Value.bool),eH (.slice al last.length cl) last]) (fun j=>last.length-j) 0 (Nat.zero_le _) ?_
      intro j j1
      by_cases c7:j<last.length
      · obtain⟨gl,rfl⟩:=hal (by omega)
        have hx:=n5.2 last[j] (List.getElem_mem c7);have hgx:last[j]?=some last[j]:=List.getElem?_eq_getElem c7;have Wq:=LC p'.last last c7;have abV:=yj p'.last (last.take j);generalize last[j]=xx at*;obtain⟨xn,rfl⟩:=Int.eq_ofNat_of_zero_le hx.1;rw[Int.toNat_natCast]at Wq;have YP:xn<p'.last.length:=by rw[n1.last];omega
        obtain⟨gb,cb,rfl⟩:=Rv (by omega);have Ws:∀(L:List bI) (hi:L[9]?=some (eH (.slice (some ⟨gl,0,none⟩) last.length cl) last)),At (w:bC) L ⟨gl,0+j*1,none⟩ (.int .i64 (xn:Int)):=fun L hi=>ix hi (by rw[List.getElem?_map,Nat.zero_add,Nat.mul_one,hgx];rfl)
        repeat(first|refine GA ?_|refine gV (aC aT.eq ak.ty rfl rfl c7) ?_|refine gV (J (v:= .int .i64 (xn:Int)) ak.ty rfl (Ws _ rfl)) ?_|refine gV (J (v:= .slice (some ⟨gb,0,none⟩) p'.last.length cb) ak.ty rfl (ah (i:=1) rfl rfl)) ?_|refine gV (aC aT.eq ak.ty rfl rfl YP) ?_)
        refine ua LN (i:=6) (k:=xn) (l:=eu p'.last (last.take j)) (a:=true) ak.ty rfl rfl (by omega) (by omega) (by omega) rfl rfl rfl ?_;rw[<-Wq];refine zL ?_
        try refine GA ?_
        exact bB (j+1) (by omega) (by show last.length-(j+1)<last.length-j;omega)
      · obtain rfl:j=last.length:=by omega
        rw[List.take_of_length_le (Nat.le_refl _),uw];refine fv (i:=2) (φ:=∃a c,zY= .slice a p'.aJ.length c) rfl (fun w h=>by
          obtain⟨a,c,h,_⟩:=Sl.cI (show w.ownsRow 0 116 4 zY p'.aJ.length (p'.aJ.flatMap cZ)from h);exact⟨a,c,h⟩) fun Wo=>?_
        obtain⟨ac,cc,rfl⟩:=Wo
        by_cases c8:200<p'.aJ.length
        · rw[if_pos c8]at i2
          rw[i2]
          repeat(first|refine GC ?_|refine gV (J (v:= .slice ac p'.aJ.length cc) ak.ty rfl (ah (i:=1) rfl rfl)) ?_|refine gV (dj (b:=true) rfl rfl (decide_eq_true (by omega))) ?_|refine gV (aP rfl oo) ?_|refine GB ?_)
          refine fa 0 ?_;refine zL ?_
          try refine GA ?_
          refine CE ?_;exact da (i:=0) rfl rfl rfl rfl rfl fun w hm=>hm.meets (S:=mQ (2,.zero)) OY rfl [10,11,12,13,14,15,16] (by decide) rfl
        · rw[if_neg c8]at i2
          repeat(first|refine GC ?_|refine gV (J (v:= .slice ac p'.aJ.length cc) ak.ty rfl (ah (i:=1) rfl rfl)) ?_|refine gV (dj (b:=false) rfl rfl (decide_eq_false (by omega))) ?_|refine GB ?_)
          refine cD [0,1,2,3,4,5,6,7,8] ?_;exact bB (k+1,⟨{p' with last:=eu p'.last last},mP m.first first,m.empty++[em]⟩,⟨.slice ac p'.aJ.length cc,wQ,rl,JM,lL,F'⟩,Nf,JN,(k:Int)) ⟨by omega,i2,hst.1,by show p'.aJ.length<=200;omega,G3,by rw[List.length_append,List.length_singleton,i6]⟩ (by show es.length-(k+1)<es.length-k;omega) (hl:=by dsimp only;rw[show p'.last.length=(eu p'.last last).length from(yj _ _).symm];rfl)
    · obtain rfl:k=es.length:=by omega
      rw[List.drop_eq_nil_of_le (Nat.le_refl _)]at i2;rw[i2]
      try refine GA ?_
      refine aD (i:=2) rfl fun _ a1=>aD (i:=3) rfl fun _ a2=>aD (i:=4) rfl fun _ a3=>aD (i:=6) rfl fun _ a4=>aD (i:=7) rfl fun _ a5=>aD (i:=8) rfl fun _ a6=>?_
      repeat(first|refine GA ?_|refine gV (aH (cs:=[vc,vr,vf,vfol,vl,ve]) ak.ty rfl rfl (fun j v hj=>ah (i:=1) rfl (SC hj))) ?_)
      refine aE (i:=0) (cs':=#[vc,vr,vf,vfol,vl,ve]) rfl rfl rfl rfl (by simp only[List.all_cons,List.all_nil,a1,a2,a3,a4,a5,a6];rfl) rfl ?_;refine zL ?_
      try refine GA ?_
      exact da (i:=0) rfl rfl rfl rfl rfl fun w hm=>hm.meets (S:=mQ (0,m)) ⟨vc,vr,vf,vfol,vl,ve,vs,F⟩ i5 [2,3,7,4,5,6,8] (by decide) rfl
end bK
namespace bK
open Go.RowKit bO dc bW eG de iN
theorem JO:∀{rs:List Rx},gK rs=0->∃es:List Re,rs=es.map jf/\∀e∈es,Fit e 1 0
 |[],_=>⟨[],rfl,fun _ h=>by cases h⟩
 |r::l,h=>by
  have hr:=A4 h r (List.mem_cons_self ..);have hl:gK l=0:=by rw[gK,if_neg (by simpa using hr)]at h;exact h
  obtain⟨es,rfl,h2⟩:=JO hl;obtain⟨e,rfl,hf,_⟩:=B4 (oK r) r 1 0 (iL r 1 0).2 (Nat.le_refl _) (by rw[<-hr]);refine⟨e::es,rfl,fun x hx=>?_⟩;rcases List.mem_cons.1 hx with rfl|hx
  ·exact hf
  ·exact h2 x hx
theorem OZ{e:Re}(h:Fit e 1 0):e.size<=100:=by have:=h.sz;omega
theorem A9:∀(es:List Re) (i:Nat) (m:MS),(jh i m es).1≠0->(jh i m es).2= .zero
 |[],_,_,h=>absurd rfl h
 |e::r,i,m,h=>by
  rw[jh]at h⊢;split at h
  ·rename_i c;rw[if_pos c]
  ·rename_i c;rw[if_neg c];exact A9 r _ _ h
theorem LO(rs:List Rx):(∃k:Int,k≠0/\A8 rs (k,.zero))\/∃(es:List Re) (m:MS),rs=es.map jf/\(∀e∈es,Fit e 1 0)/\0<es.length/\es.length<=20/\jh 0 .zero es=(0,m)/\A8 rs (0,m):=by
  by_cases c:rs.length=0\/20<rs.length
  · exact .inl ⟨1,by decide,.inl ⟨c,rfl⟩⟩
  · by_cases h:gK rs=0
    · obtain⟨es,h1,h2⟩:=JO h
      have hR:A8 rs (jh 0 .zero es):= .inr (.inr ⟨c,h,es,h1,fun e he=>OZ (h2 e he),rfl⟩);have hz:=A9 es 0 .zero;have hl:rs.length=es.length:=by rw[h1,List.length_map]
      obtain⟨k,m,e⟩:∃k m,jh 0 .zero es=(k,m):=⟨_,_,rfl⟩;rw[e]at hR hz
      by_cases h0:k=0
      · subst h0
        exact .inr ⟨es,m,h1,h2,by omega,by omega,e,hR⟩
      · obtain rfl:m= .zero:=hz h0
        exact .inl ⟨k,h0,hR⟩
    · exact .inl ⟨gK rs,h,.inr (.inl ⟨c,h,rfl⟩)⟩
theorem eE{e:TypeId}{size n:Nat}{v:Value}{xs:List Value}(w:World)(h:(aM e size v n xs).holds w):∃a c,v= .slice a n c/\n<=9223372036854775807/\(0<n->∃g,a=some ⟨g,0,none⟩):=by
 rcases(show w.ownsRow 0 e size v n xs from h).2 with⟨rfl,rfl⟩|⟨g,cap,kK,rfl,_,_,hn,hm,_⟩
 ·exact⟨_,_,rfl,by omega,fun h=>by omega⟩
 ·exact⟨_,_,rfl,by unfold maxLen at hm;omega,fun _=>⟨g,rfl⟩⟩
theorem SE{F:Nat->Prop}{v:Value}{vs:List Value}{jW:List (List Int)}{w:World}(hr:(sc v vs).holds w)(he:(pW F vs jW).holds w)(hl:vs.length=jW.length):iB (bD fq) (ng w) w v jW:=by
 have wE:w.ownsRow 0 26 1 v vs.length (vs.flatMap th):=hr;obtain⟨base,cap,h1,h2,h3,h4⟩:=Sl.cI wE;rw[hl]at h1 h2;refine⟨base,cap,h1,h2,h3,fun h0=>?_⟩;obtain⟨b,off,h5,h6⟩:=h4 (by omega);rw[LF]at h6;refine⟨b,off,h5,?_,fun i hi=>⟨[vs[i]'(by omega)],⟨vs[i]'(by omega),rfl,?_⟩,fun j u hj=>?_⟩⟩
 ·have:=h6 0 _ (List.getElem?_eq_getElem (by omega))
  exact World.block_lt_of_cell? w _ this
 ·have hs:=OT he hi (by omega)
  obtain⟨⟨q1,q2⟩,q3⟩:=he;obtain⟨v',Ob,jZ,_,hF⟩:=q2 i hi (by rw[List.length_map];omega);rw[List.getElem_map]at Ob;simp only[th,List.cons.injEq,and_true]at Ob;rw[<-nk]at hs;refine iB.of_flat hs jZ (fun b hb=>q3 b (hF b (by rw[<-Ob];exact hb))) fun a n cp hv=>q3 a.block (hF _ (by rw[<-Ob,hv];rfl))
 ·have Wt:j=0:=by have:=(List.getElem?_eq_some_iff.1 hj).1;simp at this;exact this
  subst Wt;have:=h6 i u (by rw[List.getElem?_eq_getElem (by omega)];exact hj);show w.cell? ⟨b,off+i*1+0,none⟩=some u
  rw[Nat.mul_one,Nat.add_zero];exact this
end bK
namespace bK
open Go.RowKit bO dc
theorem iG(a:Int):(bO.dB a).length=1:=rfl
end bK
namespace bK
open Go.RowKit bO dc
def boC(b:Bool):List Value:=[.bool b]
theorem JP(a:Bool):(boC a).length=1:=rfl
end bK
namespace bK
open Go.RowKit bO dc bW de
theorem SF{F:Nat->Prop}{w:World}{cs:List Value}{l:List Int}(h:(bD fq).is F w cs l):∃v,cs=[v]/\Sl w v l.length (l.flatMap bO.dB):=by
 obtain⟨v,h1,h2⟩:=h;exact⟨v,h1,h2.flat (by decide)⟩
theorem wS{w w':World}{v:Value}{l:List (List Int)}(h:iB (bD fq) (ng w) w v l)(hg:Gr w w'):iB (bD fq) (ng w') w' v l:=
 (h.stay fun k hk=>hg.block k hk).mono fun _ hk=>Nat.lt_of_lt_of_le hk hg.size
def z_(w:World)(v:Value)(m:MS):Prop:=
  ∃ vc vr vf vfol vl ve,v= .agg #[vc,vr,vf,vfol,vl,ve]/\Sl w vc m.ps.aJ.length (m.ps.aJ.flatMap cZ)/\Sl w vr m.ps.rules.length (m.ps.rules.flatMap bO.dB)/\Sl w vf m.first.length (m.first.flatMap bO.dB)/\
    iB (bD fq) (ng w) w vfol m.ps.follow/\Sl w vl m.ps.last.length (m.ps.last.flatMap boC)/\Sl w ve m.empty.length (m.empty.flatMap boC)
theorem z_.gr{w w':World}{v:Value}{m:MS}(h:z_ w v m)(hg:Gr w w'):z_ w' v m:=by
 obtain⟨vc,vr,vf,vfol,vl,ve,h0,h1,h2,h3,h4,h5,h6⟩:=h;exact⟨vc,vr,vf,vfol,vl,ve,h0,h1.gr hg,h2.gr hg,h3.gr hg,wS h4 hg,h5.gr hg,h6.gr hg⟩
end bK
namespace bK
open Go.RowKit bO dc bW eG de
theorem EU(l:List Bool):l.flatMap boC=l.map Value.bool:=uw l
theorem SG{w:World}{x:XZ}{m:MS}(hl:x.vs.length=m.ps.follow.length)(h0:(aM 116 4 x.vc m.ps.aJ.length (m.ps.aJ.flatMap cZ)).holds w)(h1:(eH x.vr m.ps.rules).holds w)(h2:(eH x.vf m.first).holds w)(h3:(sc x.vfol x.vs).holds w)(h4:(pW x.F x.vs m.ps.follow).holds w)
 (h5:(aM 4 1 x.vl m.ps.last.length (m.ps.last.map Value.bool)).holds w) (h6:(aM 4 1 x.ve m.empty.length (m.empty.map Value.bool)).holds w):z_ w (.agg (HE x)) m:=by
 refine⟨_,_,_,_,_,_,rfl,Sl.cI h0,?_,?_,SE h3 h4 hl,?_,?_⟩
 ·rw[nk];exact Sl.cI h1
 ·rw[nk];exact Sl.cI h2
 ·rw[EU];exact Sl.cI h5
 ·rw[EU];exact Sl.cI h6
theorem Mem.aa2{w:World}{B:bC}{L:List bI}{x:XZ}{m:MS}(i:Nat)(hm:Mem B L w)(hl:x.vs.length=m.ps.follow.length)(h:HD x m=[i,i+1,i+2,i+3,i+4,i+5,i+6].filterMap fun j=>L[j]?)(hlen:i+6<L.length):z_ w (.agg (HE x)) m:=by
 have g:∀j,j<7->∃o,L[i+j]?=some o/\(HD x m)[j]?=some o:=by
  intro j hj;have e:∀k,k<7->∃o,L[i+k]?=some o:=fun k hk=>⟨_,List.getElem?_eq_getElem (by omega)⟩;rw[h];obtain⟨o0,e0⟩:∃o,L[i]?=some o:=e 0 (by omega);obtain⟨o1,e1⟩:=e 1 (by omega);obtain⟨o2,e2⟩:=e 2 (by omega);obtain⟨o3,e3⟩:=e 3 (by omega);obtain⟨o4,e4⟩:=e 4 (by omega);obtain⟨o5,e5⟩:=e 5 (by omega);obtain⟨o6,e6⟩:=e 6 (by omega);simp only[List.filterMap_cons,e0,e1,e2,e3,e4,e5,e6,List.filterMap_nil]
  match j,hj with
  |0,_=>exact⟨_,e0,rfl⟩
  |1,_=>exact⟨_,e1,rfl⟩
  |2,_=>exact⟨_,e2,rfl⟩
  |3,_=>exact⟨_,e3,rfl⟩
  |4,_=>exact⟨_,e4,rfl⟩
  |5,_=>exact⟨_,e5,rfl⟩
  |6,_=>exact⟨_,e6,rfl⟩
 have k:∀j o,j<7->(HD x m)[j]?=some o->o.holds w:=fun j o hj ho=>by
  obtain⟨o',h1,h2⟩:=g j hj;rw[h2]at ho
  cases ho
  exact hm.get h1
 exact SG hl (k 0 _ (by omega) rfl) (k 1 _ (by omega) rfl) (k 2 _ (by omega) rfl) (k 3 _ (by omega) rfl) (k 4 _ (by omega) rfl) (k 5 _ (by omega) rfl) (k 6 _ (by omega) rfl)
end bK
namespace bK
open Go.RowKit bO dc bW eG de
theorem u_(v:Value)(l:List Int)(n:Nat)(w:World)(hv:Sl w v l.length (l.flatMap bO.dB))(h:A3 n l):
 Calls Tryz.prog 150 #[v,.int .i64 (n:Int)] w (bM (ret (.bool true)) w):=by
 obtain⟨base,cap,rfl,nc,mj,ef⟩:=hv;unfold maxLen at mj;refine enter (args:=[.slice base l.length cap,.int .i64 (n:Int)]) (n:=35) Tryz.func150 rfl rfl rfl ?_
 try refine GA ?_
 refine dv (ι:=Nat) (fun k=>k<=l.length) (fun k=>[(0,.slice base l.length cap),(1,.int .i64 (n:Int)),(7,.slice base l.length cap),(8,.int .i64 l.length),(9,.int .i64 (k:Int))]) (fun _=>[]) (fun k=>l.length-k) 0 (Nat.zero_le _) ?_;intro k h1
 by_cases c2:k<l.length
 ·obtain⟨b,off,rfl,hr⟩:=ef (by omega)
  have dF:=eN (L:=([]:List bI)) iG hr c2 0 _ rfl;have hx:=h.2 _ (List.getElem_mem c2)
  by_cases c3:0<k
  ·have hp:=List.pairwise_iff_getElem.1 h.1 (k-1) k (by omega) c2 (by omega)
   have o7:=eN (L:=([]:List bI)) iG hr (k:=k-1) (by omega) 0 _ rfl;generalize l[k]=x at*;generalize l[k-1]'(by omega)=y at*
   repeat(first|refine GC ?_|refine gV (aC aT.eq ak.ty rfl rfl c2) ?_|refine gV (J (v:= .int .i64 x) ak.ty rfl dF) ?_|refine gV (bQ (b:=false) rfl rfl (decide_eq_false (by omega))) ?_|refine gV (aC (j:=k-1) aT.eq ak.ty rfl rfl (by omega)) ?_|refine gV (J (v:= .int .i64 y) ak.ty rfl o7) ?_|refine gV (dO (b:=false) rfl rfl (decide_eq_false (by omega))) ?_|refine gV (dj (b:=true) rfl rfl (decide_eq_true (by omega))) ?_|refine gV (df (r:=((k-1:Nat):Int)) rfl rfl (by omega) (by omega) (by omega)) ?_|refine gV (rC (b:=false) rfl rfl (decide_eq_false (by omega))) ?_|refine GB ?_)
   exact bB (k+1) (by omega) (by show l.length-(k+1)<l.length-k;omega)
  ·generalize l[k]=x at*
   repeat(first|refine GC ?_|refine gV (aC aT.eq ak.ty rfl rfl c2) ?_|refine gV (J (v:= .int .i64 x) ak.ty rfl dF) ?_|refine gV (bQ (b:=false) rfl rfl (decide_eq_false (by omega))) ?_|refine gV (dO (b:=false) rfl rfl (decide_eq_false (by omega))) ?_|refine gV (dj (b:=false) rfl rfl (decide_eq_false (by omega))) ?_|refine GB ?_)
   exact bB (k+1) (by omega) (by show l.length-(k+1)<l.length-k;omega)
 ·try refine GA ?_
  exact db
theorem yo{w:World}{b off:Nat}{l:List (List Int)}{F:Nat->Prop}(hr:∀i (h:i<l.length),∃cs,(bD fq).is F w cs l[i]/\Rd w b (off+i*(bD fq).c) cs){k:Nat}(hk:k<l.length):∃u,Sl w u l[k].length (l[k].flatMap bO.dB)/\Rd w b (off+k*1) [u]:=by
 obtain⟨cs,h1,h2⟩:=hr k hk;obtain⟨u,rfl,h3⟩:=SF h1;exact⟨u,h3,h2⟩
theorem yp(v:Value)(m:MS)(w:World)(hp:z_ w v m)(h:Cv m):
 Calls Tryz.prog 114 #[v] w (bM (ret (.int .i64 0)) w):=by
 obtain⟨vc,vr,vf,vfol,vl,ve,rfl,h1,h2,h3,h4,h5,h6⟩:=hp;have hmR:=h.rules;have hmf:=h.Hx;have Wq:=h.some;have pt:=h.Sv;have l1:=h.ok.ps.rules;have l2:=h.ok.ps.follow;have l3:=h.ok.ps.last;have q1:=fun w' (hg:Gr w w')=>u_ vf m.first m.ps.aJ.length w' (h3.gr hg) h.ok.first;have O0:=h.ok.ps.UX;clear h h3;obtain⟨⟨cl,rul,jW,la⟩,fi,em⟩:=m;dsimp only at*;rw[l1]at h2;obtain⟨ac,cc,rfl,_⟩:=h1;obtain⟨ar,cr,rfl,hcr,YZ,SH⟩:=h2;obtain⟨afo,Y0,rfl,hcf,abW,Y1⟩:=h4;obtain⟨al,cl2,rfl,_⟩:=h5;obtain⟨ae,ce,rfl,_⟩:=h6;rw[l2]at hcf;unfold maxLen at*;have q1':=q1;clear q1;generalize hn:cl.length=n at*;refine enter (args:=[.agg #[.slice ac n cc,.slice ar n cr,vf,.slice afo jW.length Y0,.slice al la.length cl2,.slice ae em.length ce]]) (n:=80) Tryz.func114 rfl rfl rfl ?_;refine a8 (aL (a_ rfl rfl rfl fun g1=>?_));refine zL ?_
 repeat(first|refine GC ?_|refine gV (J (v:= .slice ac n cc) ak.ty rfl (ah (i:=0) rfl rfl)) ?_|refine gV (J (v:= .slice ar n cr) ak.ty rfl (ah (i:=0) rfl rfl)) ?_|refine gV (J (v:= .slice afo jW.length Y0) ak.ty rfl (ah (i:=0) rfl rfl)) ?_|refine gV (J (v:= .slice al la.length cl2) ak.ty rfl (ah (i:=0) rfl rfl)) ?_|refine gV (J (v:= .slice ae em.length ce) ak.ty rfl (ah (i:=0) rfl rfl)) ?_|refine gV (J (v:=vf) ak.ty rfl (ah (i:=0) rfl rfl)) ?_|refine gV (bm (b:=false) rfl rfl (decide_eq_false (by omega))) ?_|refine gV (dj (b:=false) rfl rfl (decide_eq_false (by omega))) ?_|refine gV (bL (b:=false) rfl rfl (decide_eq_false (by omega))) ?_|refine GB ?_)
 refine ky (eK aj.en rfl rfl rfl) (fun w hm=>q1' _ hm.below) rfl rfl rfl rfl rfl ?_;intro _ _;refine zL ?_;clear q1'
 try refine GA ?_
 refine dv (ι:=Nat) (fun k=>k<=n) (fun k=>[(1,.pointer (some ⟨g1,0,none⟩)),(3,.int .i64 (n:Int)),(46,.int .i64 (n:Int)),(47,.int .i64 (k:Int))]) (fun _=>[aw g1 #[.slice ac n cc,.slice ar n cr,vf,.slice afo jW.length Y0,.slice al la.length cl2,.slice ae em.length ce] 181]) (fun k=>n-k) 0 (Nat.zero_le _) ?_;intro k hk
 by_cases c1:k<n
 ·obtain⟨br,HH,rfl,ef⟩:=SH (by omega)
  obtain⟨bf,SI,rfl,_,LP⟩:=Y1 (by omega);obtain⟨u,hu,hd⟩:=yo LP (show k<jW.length by omega);have Wu:=fun(L:List bI)=>eN (L:=L) iG ef (show k<rul.length by omega) 0 _ rfl;have Wv:=fun(L:List bI)=>f_ (L:=L) hd (j:=0) (v:=u) rfl;have hx:=hmR _ (List.getElem_mem (show k<rul.length by omega));have q:=fun w' (hg:Gr w w')=>u_ u jW[k] n w' (hu.gr hg) (O0 _ (List.getElem_mem _));clear SH Y1 ef LP hd hu;generalize rul[k]=x at*
  try refine GA ?_
  refine cU ([aw g1 #[.slice ac n cc,.slice (some ⟨br,HH,none⟩) n cr,vf,.slice (some ⟨bf,SI,none⟩) jW.length Y0,.slice al la.length cl2,.slice ae em.length ce] 181]) (.calm 0 (.calm 1 (.calm 2 (.calm 3 (.calm 4 (.calm 5 (.calm 6 (.calm 7 (.calm 8 (.calm 9 (.calm 10 (.calm 11 (.calm 12 (.calm 13 (.calm 14 (.calm 15 (.calm 16 (.calm 17 (.calm 18 (.calm 19 (.calm 20 (.calm 21 (.calm 22 (.calm 23 (.one 24 (.calm 25 (.calm 26 (.done)))))))))))))))))))))))))))) (bz [0]) ?_
  repeat(first|(refine GN ?_;first|refine QW QP ?_|refine QW (J (v:= .slice (some ⟨br,HH,none⟩) n cr) ak.ty rfl (ah (i:=0) rfl rfl)) ?_|refine QW (aC aT.eq ak.ty rfl rfl c1) ?_|refine QW (J (v:= .int .i64 x) ak.ty rfl (Wu _)) ?_|refine QW (bQ (b:=false) rfl rfl (decide_eq_false (by omega))) ?_|refine QW (J (v:= .slice ae em.length ce) ak.ty rfl (ah (i:=0) rfl rfl)) ?_|refine QW (J (v:= .slice (some ⟨bf,SI,none⟩) jW.length Y0) ak.ty rfl (ah (i:=0) rfl rfl)) ?_|refine QW (aC (j:=k) aT.eq ak.ty rfl rfl (by omega)) ?_|refine QW (J (v:=u) ak.ty rfl (Wv _)) ?_|refine QW (dO (b:=false) rfl rfl (decide_eq_false (by omega))) ?_|refine GX ?_)|refine GW ?_)
  refine ap rfl (wF rfl rfl rfl (aI (eK aj.en rfl rfl rfl) (fun w hm=>q w hm.below) rfl rfl rfl fun _ _=>(av (bz [0]) ?_)))
  try refine GW ?_
  try refine GA ?_
  refine cD [0] ?_;exact bB (k+1) (by omega) (by show n-(k+1)<n-k;omega)
 ·repeat(first|refine GC ?_|refine gV (dj (b:=false) rfl rfl (decide_eq_false (by omega))) ?_|refine GB ?_)
  exact db
end bK
namespace bK
open Go.RowKit bO dc bW eG de
theorem HJ{α:Type}{f:α->List Value}{c:Nat}{W0:World}{W:bC}{L:List bI}{b off:Nat}{l:List α}(hc:∀a,(f a).length=c)(ho:jz W0 W)(h:Rd W0 b off (l.flatMap f)){k:Nat}(hk:k<l.length)(j:Nat)(u:Value)(hj:(f l[k])[j]?=some u):At W L ⟨b,off+k*c+j,none⟩ u:=by
 have R5:j<c:=by rw[<-hc l[k]];exact(List.getElem?_eq_some_iff.1 hj).1
 rw[Nat.add_assoc];exact Jn ho h _ u (by rw[rG hc l k j hk R5];exact hj)
end bK
namespace bK
open Go.RowKit bO dc bW eG de jQ
def DK(vc vr vf vfol vl ve vs num rows tags:Value):Array Value:=#[vc,vr,vf,vfol,vl,ve,vs,num,rows,tags]
def HK(S:List C4):List Value:=(C4.zero::S).flatMap cZ
theorem SJ{w:World}{g:Nat}{cs:Array Value}{T:TypeId}(hg:w.heap[g]?=some (.cells cs T (0,0)))(L:List bI){k:Nat}{v:Value}(hv:cs[k]?=some v):At (w:bC) L ⟨g,k,none⟩ v:=
 iw (by rw[cell_of_row w g k cs T (0,0) hg];exact hv)
theorem Aa(m:MS)(vc vr vf vfol vl ve vs num rows tags:Value)(S:List C4)(g n:Nat)(w:World)(hp:z_ w (.agg #[vc,vr,vf,vfol,vl,ve]) m)(h:Cv m)(hg:w.heap[g]?=some (.cells (DK vc vr vf vfol vl ve vs num rows tags) 254 (0,0)))
    (hs:Sl w vs (S.length+1) (HK S)) (hn:n<=S.length):
    Calls Tryz.prog 151 #[.pointer (some ⟨g,0,none⟩),.int .i64 (n:Int)] w (bM (ret (kV (jV m S n))) w):=by
  obtain⟨_,_,_,_,_,_,he,h1,h2,h3,h4,h5,h6⟩:=hp;simp only[Value.agg.injEq,Array.mk.injEq,List.cons.injEq,and_true]at he;obtain⟨rfl,rfl,rfl,rfl,rfl,rfl⟩:=he;have hmf:=h.Hx;have Wk:=h.ok.first.2;have O0:=h.ok.ps.UX;have zZ:=h.ok.ps.follow;clear h h1 h2 h5 h6;obtain⟨af,cf,rfl,_,abX,Y1⟩:=h3;obtain⟨ao,co,rfl,_,Ym,hro⟩:=h4;obtain⟨ab,cs,rfl,hcs,Wq,hrs⟩:=hs;unfold maxLen at*;have hm:=fun L k v hv=>SJ (k:=k) (v:=v) hg L hv;refine enter (args:=[.pointer (some ⟨g,0,none⟩),.int .i64 (n:Int)]) (n:=59) Tryz.func151 rfl rfl rfl ?_;refine a8 (aL (aK rfl fun g4=>?_));refine zL ?_
  try refine GA ?_
  refine aK rfl fun g5=>?_;refine zL ?_
  by_cases c0:n=0
  · subst c0
    repeat(first|refine GC ?_|refine gV (bL (b:=true) rfl rfl (decide_eq_true (by simp))) ?_|refine gV (J (v:= .slice af m.first.length cf) ak.ty rfl (hm _ 2 _ rfl)) ?_|refine GB ?_)
    refine dv (ι:=Nat) (fun k=>k<=m.first.length) (fun k=>[(4,.pointer (some ⟨g4,0,none⟩)),(5,.pointer (some ⟨g5,0,none⟩)),(18,.slice af m.first.length cf),(19,.int .i64 m.first.length),(20,.int .i64 (k:Int))])
      (fun k=>[aw g4 (cZ C4.zero).toArray 303,aw g5 (cZ (lK C4.zero (m.first.take k))).toArray 303]) (fun k=>m.first.length-k) 0 (Nat.zero_le _) ?_
    intro k hk
    by_cases c1:k<m.first.length
    · have hx:=Wk _ (List.getElem_mem c1)
      have hst:=EL C4.zero m.first c1;obtain⟨bf,SI,rfl,LP⟩:=Y1 (by omega);have dF:=fun(L:List bI)=>eN (L:=L) iG LP c1 0 _ rfl;generalize m.first[k]=x at*;generalize lK C4.zero (m.first.take k)=c at*;obtain⟨xn,rfl⟩:=Int.eq_ofNat_of_zero_le hx.1;rw[Int.toNat_natCast]at hst
      repeat(first|refine GA ?_|refine gV (aC aT.eq ak.ty rfl rfl c1) ?_|refine gV (J (v:= .int .i64 (xn:Int)) ak.ty rfl (dF _)) ?_)
      refine aR [1] [0] (by decide) rfl rfl (eK aj.en rfl rfl rfl) (fun w hm hb=>od c xn (by omega) g5 w _ hb) rfl rfl rfl ?_;intro _ _;refine zL ?_
      try refine GA ?_
      exact bB (k+1) (by omega) (by show m.first.length-(k+1)<m.first.length-k;omega) (hl:=by rw[hst])
    · obtain rfl:k=m.first.length:=by omega
      rw[List.take_of_length_le (Nat.le_refl _)];unfold jV;generalize lK C4.zero m.first=c at*
      repeat(first|refine GA ?_|refine gV (az (i:=1) ak.ty rfl rfl rfl) ?_)
      refine fa 0 (cs':=(cZ c).toArray) ?_;refine zL ?_
      try refine GA ?_
      exact eR (i:=0) rfl rfl rfl rfl fun w hm=>hm.ret
  · obtain⟨q,rfl⟩:∃q,n=q+1:=⟨n-1,by omega⟩
    obtain⟨bs,Ww,rfl,Y2⟩:=hrs (by omega);have Wy:=fun(L:List bI)=>eN (L:=L) (f:=cZ) (c:=4) (fun _=>rfl) (show Rd w bs Ww ((C4.zero::S).flatMap cZ)from Y2) (k:=q+1) (by simp;omega);have Rw:S.getD q C4.zero=S[q]'(by omega):=by rw[List.getD_eq_getElem?_getD,List.getElem?_eq_getElem (by omega)];rfl
    rw[show jV m S (q+1)=kj m.ps (S.getD q C4.zero) m.ps.follow.length from rfl,Rw];have Wy:∀(L:List bI) (j:Nat) (u:Value),(cZ (S[q]'(by omega)))[j]?=some u->At (w:bC) L ⟨bs,Ww+(q+1)*4+j,none⟩ u:=fun L j u hj=>Wy L j u hj;clear Rw Y2 hrs Y1 Wk;generalize S[q]'(by omega)=s at*
    repeat(first|refine GC ?_|refine gV (bL (b:=false) rfl rfl (decide_eq_false (by omega))) ?_|refine gV (J (v:= .slice ao m.ps.follow.length co) ak.ty rfl (hm _ 3 _ rfl)) ?_|refine GB ?_)
    refine dv (ι:=Nat) (fun k=>k<=m.ps.follow.length) (fun k=>[(0,.pointer (some ⟨g,0,none⟩)),(1,.int .i64 ((q+1:Nat):Int)),(4,.pointer (some ⟨g4,0,none⟩)),(5,.pointer (some ⟨g5,0,none⟩)),(32,.slice ao m.ps.follow.length co),(33,.int .i64 m.ps.follow.length),(34,.int .i64 (k:Int))])
      (fun k=>[aw g4 (cZ C4.zero).toArray 303,aw g5 (cZ (kj m.ps s k)).toArray 303]) (fun k=>m.ps.follow.length-k) 0 (Nat.zero_le _) ?_
    intro k hk
    by_cases c1:k<m.ps.follow.length
    · obtain⟨bo,aa3,rfl,_,aa4⟩:=hro (by omega)
      obtain⟨u,hu,hd⟩:=yo aa4 c1;have Wv:=fun(L:List bI)=>f_ (L:=L) hd (j:=0) (v:=u) rfl;have hrx:=(O0 _ (List.getElem_mem c1)).2;have Rw:m.ps.follow.getD k []=m.ps.follow[k]:=by rw[List.getD_eq_getElem?_getD,List.getElem?_eq_getElem c1];rfl
      have hst:kj m.ps s (k+1)=if s.mem k=true then lK (kj m.ps s k) m.ps.follow[k]else kj m.ps s k:=by rw[kj,Rw]
      clear Rw;obtain⟨au,cu,rfl,_,hmu,Ru⟩:=hu;unfold maxLen at hmu;generalize m.ps.follow[k]=l at*;generalize kj m.ps s k=c at*
      repeat(first|refine GA ?_|refine gV (aC aT.eq ak.ty rfl rfl c1) ?_|refine gV (J (v:= .slice au l.length cu) ak.ty rfl (Wv _)) ?_|refine gV (J (v:= .slice (some ⟨bs,Ww,none⟩) (S.length+1) cs) ak.ty rfl (hm _ 6 _ rfl)) ?_|refine gV (aC (j:=q+1) aT.eq ak.ty rfl rfl (by omega)) ?_|refine gV (aH (cs:=cZ s) ak.ty rfl rfl (Wy _)) ?_)
      have O1:=fun w=>oc s k (by omega) w;generalize hb:s.mem k=b at*;refine aI (eK aj.en rfl rfl rfl) (fun w hm=>O1 w) rfl rfl rfl ?_;intro _ _;refine zL ?_
      by_cases c2:b=true
      · subst c2
        rw[if_pos rfl]at hst
        try refine GA ?_
        refine dv (ι:=Nat) (fun j=>j<=l.length) (fun j=>[(0,.pointer (some ⟨g,0,none⟩)),(1,.int .i64 ((q+1:Nat):Int)),(4,.pointer (some ⟨g4,0,none⟩)),(5,.pointer (some ⟨g5,0,none⟩)),(32,.slice (some ⟨bo,aa3,none⟩) m.ps.follow.length co),(33,.int .i64 m.ps.follow.length),(34,.int .i64 (k:Int)),(48,.slice au l.length cu),(49,.int .i64 l.length),(50,.int .i64 (j:Int))])
          (fun j=>[aw g4 (cZ C4.zero).toArray 303,aw g5 (cZ (lK c (l.take j))).toArray 303]) (fun j=>l.length-j) 0 (Nat.zero_le _) ?_
        intro j hj
        by_cases c3:j<l.length
        · have hx:=hrx _ (List.getElem_mem c3)
          have Wz:=EL c l c3;obtain⟨bf,SI,rfl,LP⟩:=Ru (by omega);have dF:=fun(L:List bI)=>eN (L:=L) iG LP c3 0 _ rfl;generalize l[j]=x at*;generalize lK c (l.take j)=c' at*;obtain⟨xn,rfl⟩:=Int.eq_ofNat_of_zero_le hx.1;rw[Int.toNat_natCast]at Wz
          repeat(first|refine GA ?_|refine gV (aC aT.eq ak.ty rfl rfl c3) ?_|refine gV (J (v:= .int .i64 (xn:Int)) ak.ty rfl (dF _)) ?_)
          refine aR [1] [0] (by decide) rfl rfl (eK aj.en rfl rfl rfl) (fun w hm hb=>od c' xn (by omega) g5 w _ hb) rfl rfl rfl ?_;intro _ _;refine zL ?_
          try refine GA ?_
          exact bB (j+1) (by omega) (by show l.length-(j+1)<l.length-j;omega) (hl:=by rw[Wz])
        · obtain rfl:j=l.length:=by omega
          rw[List.take_of_length_le (Nat.le_refl _)]
          try refine GA ?_
          exact bB (k+1) (by omega) (by show m.ps.follow.length-(k+1)<m.ps.follow.length-k;omega) (hl:=by rw[hst])
      · rw[if_neg c2]at hst
        obtain rfl:=Bool.eq_false_iff.2 c2
        try refine GA ?_
        exact bB (k+1) (by omega) (by show m.ps.follow.length-(k+1)<m.ps.follow.length-k;omega) (hl:=by rw[hst])
    · obtain rfl:k=m.ps.follow.length:=by omega
      generalize kj m.ps s m.ps.follow.length=c at*
      repeat(first|refine GA ?_|refine gV (az (i:=1) ak.ty rfl rfl rfl) ?_)
      refine fa 0 (cs':=(cZ c).toArray) ?_;refine zL ?_
      try refine GA ?_
      exact eR (i:=0) rfl rfl rfl rfl fun w hm=>hm.ret
end bK
namespace bK
open Go.RowKit bO dc bW eG de jQ bT
theorem SK:laidOutB Tryz.prog=true:=by kernel_rfl
theorem setRow:(303:TypeId)<Tryz.prog.types.size:=of_decide_eq_true (by kernel_rfl)
theorem SL:(match Tryz.prog.underlying 303 with|some (.array _ _)|some (.struct _)=>true|_=>false)=true:=by kernel_rfl
theorem SM(x:C4):∃l,keyOf Tryz.prog 303 (kV x)=some l:=by
 obtain⟨a,b,c,d⟩:=x;have e1:Tryz.prog.keyType 303=true:=by kernel_rfl
 have e2:Tryz.prog.cellsOf 303=4:=by kernel_rfl
 have e3:Tryz.prog.cellsOf 114=1:=by kernel_rfl
 have e4:∃d,Tryz.prog.types.size+1=d+2:=⟨Tryz.prog.types.size-1,by have:0<Tryz.prog.types.size:=Nat.lt_of_le_of_lt (Nat.zero_le 303) setRow;omega⟩;obtain⟨dd,e4⟩:=e4;have key:∀v:BitVec 64,Tryz.prog.keyLits (dd+1) 114 [.int .u64 (ez v)]=some [.int .u64 (ez v)]:=fun v=>by
  have hw:(Lit.int .u64 (ez v)).wf=true:=by
   have h0:=VS v;have h1:=VT v;simp[Lit.wf,IntKind.min,IntKind.max,IntKind.signed,IntKind.bits,h0,h1]
  simp[Program.keyLits,Tryz.underlying114,hw]
 have hl:Tryz.prog.keyLits (dd+2) 303 [.int .u64 (ez a),.int .u64 (ez b),.int .u64 (ez c),.int .u64 (ez d)]=some [.int .u64 (ez a),.int .u64 (ez b),.int .u64 (ez c),.int .u64 (ez d)]:=by
  unfold Program.keyLits;simp[Tryz.underlying303,e2,e3,List.range_succ_eq_map,key]
 have hf:(kV ⟨a,b,c,d⟩).formed Tryz.prog 303=true:=by simp[kV,Value.formed,Tryz.underlying303,e2]
 unfold keyOf;rw[Tryz.underlying303];refine⟨.string (keyBytes ([.int .u64 (ez a),.int .u64 (ez b),.int .u64 (ez c),.int .u64 (ez d)])),?_⟩;show(if(Tryz.prog.keyType 303&&(kV ⟨a,b,c,d⟩).formed Tryz.prog 303)=true then(Tryz.prog.keyLits (Tryz.prog.types.size+1) 303 [.int .u64 (ez a),.int .u64 (ez b),.int .u64 (ez c),.int .u64 (ez d)]).map (fun ls=>Lit.string (keyBytes ls))else none)=_
 rw[e1,hf,e4,hl];rfl
set_option maxRecDepth 100000 in
def HL:rJ Tryz.prog 303 C4 where
  kv:=kV
  ok _:=True
  law:=deep_law_laid SK (m:=2) (by omega) setRow (by kernel_rfl) SL
  key x _:=SM x
  inj x y h:=by
    simp only[kV,Value.agg.injEq,Array.mk.injEq,List.cons.injEq,Value.int.injEq,true_and,and_true]at h;exact C4.ext' (kU h.1) (kU h.2.1) (kU h.2.2.1) (kU h.2.2.2)
theorem EV(w:World):(zeroValue 3).run Tryz.prog w= .ok (.int .i64 0) w:=by kernel_rfl
def lT(D:List C4)(x:C4):Option Value:=if x∈D then some (.int .i64 ((idx D x+1:Nat):Int))else none
theorem HM{D:List C4}{x:C4}(hn:x∉D):(fun y=>if y=x then some (.int .i64 ((D.length+1:Nat):Int))else lT D y)=lT (D++[x]):=by
 funext y
 unfold lT
 by_cases c:y=x
 ·subst c
  rw[if_pos rfl,if_pos (by simp)];have:=nh (D:=D) (k:=y);unfold more at this;rw[if_neg hn,if_neg hn]at this;rw[this]
 ·rw[if_neg c]
  by_cases c2:y∈D
  ·rw[if_pos c2,if_pos (List.mem_append_left _ c2),mC c2]
  ·rw[if_neg c2,if_neg (by simp[c,c2])]
theorem yq:(fun(_:C4)=>(none:Option Value))=lT []:=by funext y;unfold lT;rw[if_neg (by simp)]
abbrev kQ(vs:Value)(S:List C4):bI:=aM 303 4 vs (S.length+1) (HK S)
abbrev oq(gm:Nat)(S:List C4):bI:=dL HL gm (lT S) S.length
def DL(vc vr vf vfol vl ve rows:Value)(g gm:Nat)(vs vt:Value)(d:DM):List bI:=
 [aw g (DK vc vr vf vfol vl ve vs (.map (some gm)) rows vt) 254,kQ vs d.S,oq gm d.S,eH vt d.tags]
def SN(p:PS)(vc vr vf vfol vl ve rows:Value)(g gm:Nat)(d:DM)(s:C4):Spec (Value×Value):=
 ⟨fun _=>True,fun _=> .int .i64 ((fD p d s).1:Int),fun x=>DL vc vr vf vfol vl ve rows g gm x.1 x.2 (fD p d s).2⟩
theorem O2(v:Value)(l:List Int)(x:Int):eH v (l++[x])=aM 3 1 v (l.length+1) (l.map (Value.int .i64)++[.int .i64 x]):=by
 unfold eH;rw[List.length_append,List.map_append];rfl
theorem A_(S:List C4)(s:C4):HK (S++[s])=HK S++cZ s:=by
 unfold HK;rw[<-List.cons_append,List.flatMap_append];simp
theorem JQ(s:C4):∀u∈cZ s,u.oneCell'=true:=by
 intro u h;simp only[cZ,List.mem_cons,List.not_mem_nil,or_false]at h;rcases h with rfl|rfl|rfl|rfl<;>rfl
theorem O3(p:PS)(s:C4)(i:Nat):ig p s (i+1)=if s.mem i=true/\p.last.getD i false=true/\(ig p s i<0\/p.rules.getD i 0<ig p s i)then p.rules.getD i 0 else ig p s i:=rfl
theorem O4{S:List C4}{s:C4}{gm:Nat}(hn:s∉S):dL HL gm (fun y=>if y=s then some (.int .i64 ((S.length+1:Nat):Int))else lT S y) (if(lT S s).isSome then S.length else S.length+1)=oq gm (S++[s]):=by
 rw[HM hn,show lT S s=none from if_neg hn];unfold oq;rw[List.length_append];rfl
attribute [local irreducible] Op.shift Go.bits in
theorem yr(m:MS)(vc vr vf vfol vl ve rows:Value)(d:DM)(s:C4)(g gm:Nat)(vs vt:Value)(w0:World)(hp:z_ w0 (.agg #[vc,vr,vf,vfol,vl,ve]) m)(h:Cv m)(hd:d.S.length<=100000)(U1:d.tags.length<=100001)(w:World)(B:bC)(ho:jz w0 B)
    (hm:Mem B (DL vc vr vf vfol vl ve rows g gm vs vt d) w):
    Calls Tryz.prog 155 #[.pointer (some ⟨g,0,none⟩),kV s] w (c_ (SN m.ps vc vr vf vfol vl ve rows g gm d s) B):=by
  obtain⟨_,_,_,_,_,_,he,h1,h2,h3,h4,h5,h6⟩:=hp;simp only[Value.agg.injEq,Array.mk.injEq,List.cons.injEq,and_true]at he;obtain⟨rfl,rfl,rfl,rfl,rfl,rfl⟩:=he;have hmf:=h.Hx;have I':=h.ok.ps.rules;have K8:=h.ok.ps.last;have YZ:=h.rules;clear h h3 h4 h6;obtain⟨ac,cc,rfl,-⟩:=h1;obtain⟨ar,cr,rfl,-,abY,SH⟩:=h2;obtain⟨al,cl,rfl,-,abZ,CA⟩:=h5;unfold DL at hm;unfold SN;obtain⟨S,tags⟩:=d;obtain⟨p,fi,em⟩:=m;dsimp only at*;refine dC hm (args:=[.pointer (some ⟨g,0,none⟩),kV s]) (n:=105) Tryz.func155 rfl rfl rfl ?_;clear hm;refine a8 (aL (a_ rfl rfl rfl fun g3=>?_));refine zL ?_
  by_cases c1:s∈S
  · have hst:fD p ⟨S,tags⟩ s=(idx S s+1,⟨S,tags⟩):=if_pos c1
    have Y3:lT S s=some (.int .i64 ((idx S s+1:Nat):Int)):=if_pos c1;rw[hst]
    try refine GA ?_
    refine cU ([aw g (DK (.slice ac p.aJ.length cc) (.slice ar p.rules.length cr) vf vfol (.slice al p.last.length cl) ve vs (.map (some gm)) rows vt) 254,oq gm S,aw g3 (cZ s).toArray 303]) (.calm 0 (.calm 1 (.calm 2 (.calm 3 (.calm 4 (.calm 5 (.calm 6 (.calm 7 (.calm 8 (.calm 9 (.calm 10 (.done)))))))))))) (bz [0,2,4]) ?_
    repeat(first|refine GW ?_|(refine GN ?_;first|refine QW (J (v:= .map (some gm)) ak.ty rfl (ah (i:=0) rfl rfl)) ?_|refine QW (az (i:=2) ak.ty rfl rfl rfl) ?_|refine QW (gC HL (x:=s) aT.eq EV (i:=1) rfl rfl rfl trivial Y3) ?_))
    try refine GA ?_
    refine cD [0,1,2,3] ?_;exact b9 rfl rfl fun w hm=>hm.bP (S:=⟨fun(_:Value×Value)=>True,fun _=> .int .i64 ((idx S s+1:Nat):Int),fun x=>DL (.slice ac p.aJ.length cc) (.slice ar p.rules.length cr) vf vfol (.slice al p.last.length cl) ve rows g gm x.1 x.2 ⟨S,tags⟩⟩) (vs,vt) trivial [0,1,2,3] (by decide) rfl
  · have hst:fD p ⟨S,tags⟩ s=(S.length+1,⟨S++[s],tags++[jo p s]⟩):=if_neg c1
    have Y3:lT S s=none:=if_neg c1;rw[hst];refine mA (i:=1) rfl eE fun fc=>?_;obtain⟨ab,cs,rfl,WA,-⟩:=fc
    try refine GA ?_
    refine cU ([aw g (DK (.slice ac p.aJ.length cc) (.slice ar p.rules.length cr) vf vfol (.slice al p.last.length cl) ve (.slice ab (S.length+1) cs) (.map (some gm)) rows vt) 254,oq gm S,aw g3 (cZ s).toArray 303]) (.calm 0 (.calm 1 (.calm 2 (.calm 3 (.calm 4 (.calm 5 (.calm 6 (.calm 7 (.calm 8 (.calm 9 (.calm 10 (.done)))))))))))) (bz [0,2,4]) ?_
    repeat(first|refine GW ?_|(refine GN ?_;first|refine QW (J (v:= .map (some gm)) ak.ty rfl (ah (i:=0) rfl rfl)) ?_|refine QW (az (i:=2) ak.ty rfl rfl rfl) ?_|refine QW (gD HL (x:=s) aT.eq EV (i:=1) rfl rfl rfl trivial Y3) ?_))
    try refine GA ?_
    (repeat refine a8 ?_)
    refine iW (ι:=Unit) (fun _=>True) (fun _=>[(0,.pointer (some ⟨g,0,none⟩)),(3,.pointer (some ⟨g3,0,none⟩))]) (fun _=>[aw g (DK (.slice ac p.aJ.length cc) (.slice ar p.rules.length cr) vf vfol (.slice al p.last.length cl) ve (.slice ab (S.length+1) cs) (.map (some gm)) rows vt) 254,kQ (.slice ab (S.length+1) cs) S,oq gm (S++[s]),eH vt tags,aw g3 (cZ s).toArray 303]) ?_ ?_
    · refine cU ([aw g (DK (.slice ac p.aJ.length cc) (.slice ar p.rules.length cr) vf vfol (.slice al p.last.length cl) ve (.slice ab (S.length+1) cs) (.map (some gm)) rows vt) 254,aw g3 (cZ s).toArray 303]) (.calm 0 (.calm 1 (.calm 2 (.calm 3 (.calm 4 (.calm 5 (.calm 6 (.calm 7 (.calm 8 (.calm 9 (.one 10 (.done)))))))))))) (bz [0,4]) ?_
      repeat(first|refine GW ?_|(refine GN ?_;first|refine QW (J (v:= .map (some gm)) ak.ty rfl (ah (i:=0) rfl rfl)) ?_|refine QW (az (i:=1) ak.ty rfl rfl rfl) ?_|refine QW (J (v:= .slice ab (S.length+1) cs) ak.ty rfl (ah (i:=0) rfl rfl)) ?_))
      refine ap rfl (jr HL (i:=2) (x:=s) aT.eq rfl rfl rfl rfl trivial (by omega) (av (bz [0,4]) ?_))
      try refine GW ?_
      exact dm () trivial (by repeat' (first|exact True.intro|refine And.intro rfl ?_)) (by rw[<-O4 c1];rfl)
    intro _ _
    (repeat refine a8 ?_)
    refine iW (ι:=Value) (fun _=>True) (fun _=>[(0,.pointer (some ⟨g,0,none⟩)),(3,.pointer (some ⟨g3,0,none⟩))]) (fun lL=>[aw g (DK (.slice ac p.aJ.length cc) (.slice ar p.rules.length cr) vf vfol (.slice al p.last.length cl) ve lL (.map (some gm)) rows vt) 254,kQ lL (S++[s]),oq gm (S++[s]),eH vt tags,aw g3 (cZ s).toArray 303]) ?_ ?_
    · refine cU ([aw g3 (cZ s).toArray 303]) (.calm 0 (.calm 1 (.calm 2 (.calm 3 (.calm 5 (.two 4 (.one 6 (.one 7 (.calm 8 (.calm 9 (.one 10 (.done)))))) 6 (.one 4 (.one 7 (.calm 8 (.calm 9 (.one 10 (.done)))))))))))) (bz [4]) ?_
      repeat(first|refine GW ?_|(refine GN ?_;first|refine QW (az (i:=0) ak.ty rfl rfl rfl) ?_))
      refine dE rfl rfl ?_ ?_
      · refine aV (J (v:= .slice ab (S.length+1) cs) ak.ty rfl (ah (i:=0) rfl rfl)) rfl rfl rfl (av (bz [4]) ?_)
        refine ap rfl (dT (cs:=(cZ s).toArray) [kV s] rfl rfl rfl (by intro v hv;simp at hv;subst hv;rfl) rfl rfl rfl fun g36=>(av (bz [4]) ?_));refine ap rfl (dw (i:=1) (e:=303) (size:=4) (bytes:=32) (m:=S.length+1) (xs:=HK S) (k:=1) (ys:=cZ s) rfl (iA (i:=5) rfl (fun j u h=>by simpa using h) (Nat.le_refl 1) (by decide)) rfl rfl rfl (fun u hu=>JQ s u hu) (by omega) (by omega) rfl fun lL=>(av (bz [4]) ?_))
        try refine GW ?_
        refine ap rfl (aD (i:=1) rfl fun gB jM=>aW (i:=0) rfl rfl rfl gB jM rfl (av (bz [4]) ?_))
        try refine GW ?_
        refine cD [0,1,2,3,4] ?_;exact dm lL trivial (by repeat' (first|exact True.intro|refine And.intro rfl ?_)) (by unfold kQ;rw[A_,List.length_append];rfl)
      · refine dT (cs:=(cZ s).toArray) [kV s] rfl rfl rfl (by intro v hv;simp at hv;subst hv;rfl) rfl rfl rfl fun g36=>(av (bz [4]) ?_)
        refine ap rfl (aV (J (v:= .slice ab (S.length+1) cs) ak.ty rfl (ah (i:=0) rfl rfl)) rfl rfl rfl (av (bz [4]) ?_));refine ap rfl (dw (i:=1) (e:=303) (size:=4) (bytes:=32) (m:=S.length+1) (xs:=HK S) (k:=1) (ys:=cZ s) rfl (iA (i:=5) rfl (fun j u h=>by simpa using h) (Nat.le_refl 1) (by decide)) rfl rfl rfl (fun u hu=>JQ s u hu) (by omega) (by omega) rfl fun lL=>(av (bz [4]) ?_))
        try refine GW ?_
        refine ap rfl (aD (i:=1) rfl fun gB jM=>aW (i:=0) rfl rfl rfl gB jM rfl (av (bz [4]) ?_))
        try refine GW ?_
        refine cD [0,1,2,3,4] ?_;exact dm lL trivial (by repeat' (first|exact True.intro|refine And.intro rfl ?_)) (by unfold kQ;rw[A_,List.length_append];rfl)
    clear WA;intro lL _;refine fv (i:=1) rfl eE fun fc=>?_;obtain⟨U2,cs',rfl,WA,-⟩:=fc
    repeat(first|refine GA ?_|refine gV (J (v:= .slice ac p.aJ.length cc) ak.ty rfl (ah (i:=0) rfl rfl)) ?_)
    refine dv (ι:=Nat×Int) (fun(k,t)=>k<=p.aJ.length/\t=ig p s k) (fun(k,t)=>[(0,.pointer (some ⟨g,0,none⟩)),(3,.pointer (some ⟨g3,0,none⟩)),(7,.int .i64 t),(45,.int .i64 p.aJ.length),(46,.int .i64 (k:Int))])
      (fun _=>[aw g (DK (.slice ac p.aJ.length cc) (.slice ar p.rules.length cr) vf vfol (.slice al p.last.length cl) ve (.slice U2 ((S++[s]).length+1) cs') (.map (some gm)) rows vt) 254,kQ (.slice U2 ((S++[s]).length+1) cs') (S++[s]),oq gm (S++[s]),eH vt tags,aw g3 (cZ s).toArray 303]) (fun(k,_)=>p.aJ.length-k) (0,-1) ⟨Nat.zero_le _,rfl⟩ ?_
    rintro⟨k,t⟩ ⟨hk,ht⟩;dsimp only at hk ht⊢
    by_cases q1:k<p.aJ.length
    · have hst:=O3 p s k
      have UN:k<p.rules.length:=by omega
      have R6:k<p.last.length:=by omega
      rw[List.getD_eq_getElem?_getD (l:=p.rules),List.getElem?_eq_getElem UN,Option.getD_some,List.getD_eq_getElem?_getD (l:=p.last),List.getElem?_eq_getElem R6,Option.getD_some]at hst;obtain⟨br,HH,rfl,Y4⟩:=SH (by omega);obtain⟨bl,O5,rfl,Y5⟩:=CA (by omega);have Wu:=fun(L:List bI)=>HJ (L:=L) iG ho Y4 UN 0 _ rfl;have aa5:=fun(L:List bI)=>HJ (L:=L) JP ho Y5 R6 0 _ rfl;have hr0:=(YZ _ (List.getElem_mem UN)).1;have O1:=fun w=>oc s k (by omega) w;clear Y4 Y5 SH CA YZ;generalize p.rules[k]=r at*;generalize p.last[k]=lb at*;generalize s.mem k=b at*;rw[<-ht]at hst;clear ht;have O6:∀(L:List bI),At B L ⟨br,HH+k*1+0,none⟩ (.int .i64 r):=Wu;have JR:∀(L:List bI),At B L ⟨bl,O5+k*1+0,none⟩ (.bool lb):=aa5
      repeat(first|refine GA ?_|refine gV (az (i:=4) ak.ty rfl rfl rfl) ?_)
      refine aI (eK aj.en rfl rfl rfl) (fun w hm=>O1 w) rfl rfl rfl ?_;intro _ _;refine zL ?_;have skip:∀(_:¬(b=true/\lb=true/\(t<0\/r<t))),ig p s (k+1)=t:=fun h=>by rw[hst,if_neg h]
      have take:b=true/\lb=true/\(t<0\/r<t)->ig p s (k+1)=r:=fun h=>by rw[hst,if_pos h]
      clear hst
      by_cases q2:b=true
      · subst q2
        by_cases q3:lb=true
        · subst q3
          by_cases q4:t<0
          · have e:=(take ⟨rfl,rfl,.inl q4⟩).symm
            repeat(first|refine GC ?_|refine gV (J (v:= .slice (some ⟨bl,O5,none⟩) p.last.length cl) ak.ty rfl (ah (i:=0) rfl rfl)) ?_|refine gV (aC aT.eq ak.ty rfl rfl R6) ?_|refine gV (J (v:= .bool true) ak.ty rfl (JR _)) ?_|refine gV (bQ (b:=true) rfl rfl (decide_eq_true q4)) ?_|refine gV (J (v:= .slice (some ⟨br,HH,none⟩) p.rules.length cr) ak.ty rfl (ah (i:=0) rfl rfl)) ?_|refine gV (aC aT.eq ak.ty rfl rfl UN) ?_|refine gV (J (v:= .int .i64 r) ak.ty rfl (O6 _)) ?_|refine GB ?_)
            exact bB (k+1,r) ⟨by omega,e⟩ (by show p.aJ.length-(k+1)<p.aJ.length-k;omega)
          · by_cases q5:r<t
            · have e:=(take ⟨rfl,rfl,.inr q5⟩).symm
              repeat(first|refine GC ?_|refine gV (J (v:= .slice (some ⟨bl,O5,none⟩) p.last.length cl) ak.ty rfl (ah (i:=0) rfl rfl)) ?_|refine gV (aC aT.eq ak.ty rfl rfl R6) ?_|refine gV (J (v:= .bool true) ak.ty rfl (JR _)) ?_|refine gV (bQ (b:=false) rfl rfl (decide_eq_false q4)) ?_|refine gV (J (v:= .slice (some ⟨br,HH,none⟩) p.rules.length cr) ak.ty rfl (ah (i:=0) rfl rfl)) ?_|refine gV (aC aT.eq ak.ty rfl rfl UN) ?_|refine gV (J (v:= .int .i64 r) ak.ty rfl (O6 _)) ?_|refine gV (bQ (b:=true) rfl rfl (decide_eq_true q5)) ?_|refine GB ?_)
              exact bB (k+1,r) ⟨by omega,e⟩ (by show p.aJ.length-(k+1)<p.aJ.length-k;omega)
            · have e:=(skip (fun h=>h.2.2.elim q4 q5)).symm
              repeat(first|refine GC ?_|refine gV (J (v:= .slice (some ⟨bl,O5,none⟩) p.last.length cl) ak.ty rfl (ah (i:=0) rfl rfl)) ?_|refine gV (aC aT.eq ak.ty rfl rfl R6) ?_|refine gV (J (v:= .bool true) ak.ty rfl (JR _)) ?_|refine gV (bQ (b:=false) rfl rfl (decide_eq_false q4)) ?_|refine gV (J (v:= .slice (some ⟨br,HH,none⟩) p.rules.length cr) ak.ty rfl (ah (i:=0) rfl rfl)) ?_|refine gV (aC aT.eq ak.ty rfl rfl UN) ?_|refine gV (J (v:= .int .i64 r) ak.ty rfl (O6 _)) ?_|refine gV (bQ (b:=false) rfl rfl (decide_eq_false q5)) ?_|refine GB ?_)
              exact bB (k+1,t) ⟨by omega,e⟩ (by show p.aJ.length-(k+1)<p.aJ.length-k;omega)
        · have e:=(skip (fun h=>q3 h.2.1)).symm
          obtain rfl:=Bool.eq_false_iff.2 q3
          repeat(first|refine GA ?_|refine gV (J (v:= .slice (some ⟨bl,O5,none⟩) p.last.length cl) ak.ty rfl (ah (i:=0) rfl rfl)) ?_|refine gV (aC aT.eq ak.ty rfl rfl R6) ?_|refine gV (J (v:= .bool false) ak.ty rfl (JR _)) ?_)
          exact bB (k+1,t) ⟨by omega,e⟩ (by show p.aJ.length-(k+1)<p.aJ.length-k;omega)
      · have e:=(skip (fun h=>q2 h.1)).symm
        obtain rfl:=Bool.eq_false_iff.2 q2
        try refine GA ?_
        exact bB (k+1,t) ⟨by omega,e⟩ (by show p.aJ.length-(k+1)<p.aJ.length-k;omega)
    · obtain rfl:k=p.aJ.length:=by omega
      rw[show jo p s=t from ht.symm]at*
      repeat(first|refine GA ?_|refine gV (J (v:=vt) ak.ty rfl (ah (i:=0) rfl rfl)) ?_)
      refine je (i:=3) rfl rfl rfl rfl rfl rfl (fun z h=>by cases h;rfl) (by omega) (by omega) rfl fun z' sD=>?_;refine zL ?_
      try refine GA ?_
      refine aD (i:=3) rfl fun gB jM=>aW (i:=0) rfl rfl rfl gB jM rfl ?_;refine zL ?_
      repeat(first|refine GC ?_|refine gV (J (v:= .slice U2 ((S++[s]).length+1) cs') ak.ty rfl (ah (i:=0) rfl rfl)) ?_|refine gV (df (r:=((S.length+1:Nat):Int)) rfl rfl (by simp;omega) (by simp;omega) (by simp)) ?_|refine GB ?_)
      refine cD [0,1,2,3] ?_;exact b9 rfl rfl fun w hm=>hm.bP (S:=⟨fun(_:Value×Value)=>True,fun _=> .int .i64 ((S.length+1:Nat):Int),fun x=>DL (.slice ac p.aJ.length cc) (.slice ar p.rules.length cr) vf vfol (.slice al p.last.length cl) ve rows g gm x.1 x.2 ⟨S++[s],tags++[t]⟩⟩) (.slice U2 ((S++[s]).length+1) cs',sD) trivial [0,1,2,3] (by decide) (by unfold DL;rw[<-O2];rfl)
    done
end bK
namespace de
open bW eG
def WB:Re->Nat
 | .byte _=>1
 | .B2 a b=>WB a+WB b
 | .B3 a b=>WB a+WB b
 | .star a=>WB a
 |_=>0
inductive JS(P:List Nat->Prop):List Nat->Prop
 |nil:JS P []
 |cons {u v:List Nat}:P u->JS P v->JS P (u++v)
def Wd:Re->Nat->List Nat->Prop
 | .none,_,_=>False
 | .empty,_,l=>l=[]
 | .byte _,n,l=>l=[n]
 | .B2 a b,n,l=>∃u v,l=u++v/\Wd a n u/\Wd b (n+WB a) v
 | .B3 a b,n,l=>Wd a n l\/Wd b (n+WB a) l
 | .star a,n,l=>JS (Wd a n) l
def Ry(F:Nat->Nat->Prop)(T:Nat->Prop):Nat->List Nat->Prop
 |x,[]=>T x
 |x,y::r=>F x y/\Ry F T y r
theorem Ry.mono{F F':Nat->Nat->Prop}{T T':Nat->Prop}(hF:∀x y,F x y->F' x y)(hT:∀x,T x->T' x):∀{l:List Nat} {x:Nat},Ry F T x l->Ry F' T' x l
 |[],_,h=>hT _ h
 |_::_,_,⟨h,h'⟩=>⟨hF _ _ h,Ry.mono hF hT h'⟩
theorem Ry.Ly{F F':Nat->Nat->Prop}{T T':Nat->Prop}(hF:∀x y,F x y->F' x y){y:Nat}{r:List Nat}(hT:∀x,T x->F' x y)(hr:Ry F' T' y r):∀{l:List Nat} {x:Nat},Ry F T x l->Ry F' T' x (l++y::r)
 |[],_,h=>⟨hT _ h,hr⟩
 |_::_,_,⟨h,h'⟩=>⟨hF _ _ h,Ry.Ly hF hT hr h'⟩
end de
namespace bW
def one(x:C4):List C4:=if x=C4.zero then []else [x]
structure EW(S:List C4)(all:List C4):Prop where
 some:∀x∈all,x≠C4.zero
 apart:all.Pairwise fun x y=>x.NM y=C4.zero
 sum:(all.map Rn).sum=256
 whole:∀n,n<256->∃x∈all,x.mem n=true
 each:∀c∈S,∀x∈all,x.NM c=x\/x.NM c=C4.zero
 told:all.Pairwise fun x y=>∃c∈S,decide (x.NM c=x)≠decide (y.NM c=y)
theorem O7{x:C4}:x=C4.zero↔∀n,n<256->x.mem n=false:=
 ⟨fun h n _=>by rw[h,D4],fun h=>ext_mem fun n hn=>by rw[h n hn,D4]⟩
theorem O8{x:C4}(h:Rn x=0):x=C4.zero:=by
 have:rF x=[]:=List.eq_nil_of_length_eq_zero h;refine O7.2 fun n hn=>?_
 cases e:x.mem n with
 |false=>rfl
 |true=>exact absurd (K0.2 ⟨hn,e⟩) (by rw[this];simp)
theorem JT:∀all:List C4,(∀x∈all,x≠C4.zero)->all.length<=(all.map Rn).sum
 |[],_=>Nat.le_refl _
 |x::all,h=>by
  have ih:=JT all fun y hy=>h y (by simp[hy]);have:Rn x≠0:=fun e=>h x (by simp) (O8 e);simp only[List.length_cons,List.map_cons,List.sum_cons];omega
theorem EW.len{S all:List C4}(h:EW S all):all.length<=256:=by
 have:=JT all h.some;rw[h.sum]at this;exact this
theorem EW.more{S S' all:List C4}(h:EW S all)(h1:∀c,c∈S'->c∈S)(h2:∀c,c∈S->c∈S'):EW S' all:=
 ⟨h.some,h.apart,h.sum,h.whole,fun c hc=>h.each c (h1 c hc),h.told.imp fun⟨c,hc,h⟩=>⟨c,h2 c hc,h⟩⟩
end bW
namespace bK
open Go.RowKit bO dc
theorem wm(v:Value)(l:List Int)(w:World)(hs:Sl w v l.length (l.flatMap bO.dB))(hl:l.length*8<=140737488355328):
  Calls Tryz.prog 97 #[v] w (bM (bZ 3 1 l.length (l.flatMap bO.dB) id) w):=by
 obtain⟨base,cap,rfl,nc,mj,ef⟩:=hs;unfold maxLen at mj;refine enter (args:=[.slice base l.length cap]) (n:=8) Tryz.func97 rfl rfl rfl ?_;have sb:∀w',Gr w w'->Sl w' (.slice base l.length cap) l.length (l.flatMap bO.dB):=fun w' hg=>Sl.gr ⟨base,cap,rfl,nc,mj,ef⟩ hg;clear ef
 cases base with
 | none=>
  repeat(first|refine GC ?_|refine gV (nb aT.eq rfl rfl rfl) ?_|refine GB ?_)
  have h0:l=[]:=by
   cases l with
   |nil=>rfl
   |cons x l=>obtain⟨_,_,h,_,_,h2⟩:=sb w (Gr.refl w);simp only[Value.slice.injEq]at h;obtain⟨rfl,_⟩:=h;obtain⟨b,off,h,_⟩:=h2 (by simp);cases h
  subst h0;refine dq 3 1 ?_;exact b9 rfl rfl fun w hm=>hm.meets (S:=bZ 3 1 0 [] id) _ trivial [0] (by decide) rfl
 |some p=>
  repeat(first|refine GC ?_|refine gV (nb aT.eq rfl rfl rfl) ?_|refine GB ?_)
  refine B6 rfl fun g=>?_
  try refine GA ?_
  refine dw (i:=0) rfl (fun w' hm=>sb w' hm.below) rfl rfl (ka iG l) (JI l) (by omega) (by omega) rfl fun v'=>?_;rw[List.nil_append]
  try refine GA ?_
  refine b9 rfl rfl fun w hm=>?_;exact hm.meets (S:=bZ 3 1 l.length (l.flatMap bO.dB) id) v' trivial [0] (by decide) (by simp[bZ])
end bK
namespace bK
open Go.RowKit bO dc
open Go.WideElems (Fit findIdx_arr findIdx_born modify_last)
open Go.ChangeMaps Go.MapKept Go.WideShapes
section
variable{P:Program}{k:TypeId}{κ:Type}(K:rJ P k κ)
theorem vd{α:Type}(f:α->α):∀(l:List α) (j:Nat) (a:α),l[j]?=some a->f a=a->l.modify j f=l
 |[],_,_,h,_=>by simp at h
 |b::r,0,a,h,hf=>by simp at h;subst h;simp[hf]
 |b::r,j+1,a,h,hf=>by simp at h;simp[List.modify_succ_cons,vd f r j a h hf]
theorem modify_eq{α:Type}(f f':α->α):∀(l:List α) (j:Nat) (a:α),l[j]?=some a->f a=f' a->l.modify j f=l.modify j f'
 |[],_,_,h,_=>by simp at h
 |b::r,0,a,h,hf=>by simp at h;subst h;simp[hf]
 |b::r,j+1,a,h,hf=>by simp at h;simp[List.modify_succ_cons,modify_eq f f' r j a h hf]
def O9(g:Nat)(x:κ)(st:Nat)(z:Value)(f:κ->Value)(b:Nat):bI:=
  ⟨some g,fun _=>False,fun w=>(lu K g z f b).holds w/\∃es clock e0,w.heap[g]?=some (.map es clock)/\e0∈es.toList/\e0.key=K.kv x/\e0.born=st,
    fun w h q hq=>(lu K g z f b).lt w h.1 q hq,
    fun w w' ⟨h1,es,clock,e0,h2,h3⟩ hs hk=>⟨(lu K g z f b).stay w w' h1 hs hk,es,clock,e0,(hk g (.inl rfl)).trans h2,h3⟩⟩
theorem yt{w:World}{g:Nat}{es:Array MapEntry}{c:Nat}(h:w.heap[g]?=some (.map es c)):setBlock w g (.map es c)=w:=by
 have e:w.heap.setIfInBounds g (.map es c)=w.heap:=by
  apply Array.ext_getElem?;intro i
  by_cases hi:i=g
  ·subst hi;exact(heap_setBlock_same h _).trans h.symm
  ·exact heap_setBlock_other h _ hi
 unfold setBlock;rw[e]
variable[DecidableEq κ]
theorem LQ{w:World}{t e:TypeId}{g b:Nat}{f:κ->Value}{x:κ}{z:Value}(ht:P.underlying t=some (.map k e))(hz:∀u:World,(zeroValue e).run P u= .ok z u)(h:(lu K g z f b).holds w)(hx:K.ok x)(hc:b<=1152921504606846976):
    ∃st w1,(Instr.mapEntry t (.map (some g)) (K.kv x)).run P w= .ok (.tuple #[f x,goInt (st:Nat)]) w1/\w.grownBy w1 (some g)/\(O9 K g x st z f (b+1)).holds w1:=by
  have U3:=AJ K (f:=f) ht hz h hx;obtain⟨l,yu⟩:=K.key x hx;obtain⟨m,n,h1,⟨D,⟨es,clock,hb,F,hs,hD⟩,hi⟩,h3⟩:=id h;rcases K.law.find w yu es.toList F.keys with⟨k1,k2⟩|⟨j,e0,k1,k2,k3⟩
  · have hfx:f x=z:=by
      have:(Instr.lookup t (.map (some g)) (K.kv x) false).run P w= .ok z w:=by
        simp[Instr.lookup,run_underlying ht,MapKept.run_getObj_map hb,K.law.check w _ yu,k1,hz,Result.andThen]
      rw[U3]at this
      simpa using this
    obtain⟨w',r1,r2,r3⟩:=Ed K (f':=f) (v:=z) ht h hx hc (fun y _=>by by_cases e:y=x<;>simp[e,hfx]);have r1':(Instr.mapUpdate t (.map (some g)) (K.kv x) z).run P w= .ok () (setBlock w g (.map (es.push ⟨K.kv x,z,clock⟩) (clock+1))):=by
      simp[Instr.mapUpdate,run_underlying ht,MapKept.run_getObj_map hb,K.law.check w false yu,k1,MapKept.run_setObj_map _ hb,Result.andThen,setBlock]
    have ew:w'=setBlock w g (.map (es.push ⟨K.kv x,z,clock⟩) (clock+1)):=by
      rw[r1]at r1';simpa using r1'
    refine⟨clock,w',?_,r3,r2,es.push ⟨K.kv x,z,clock⟩,clock+1,⟨K.kv x,z,clock⟩,?_,by simp,rfl,rfl⟩
    · rw[ew,hfx]
      simp[Instr.mapEntry,run_underlying ht,MapKept.run_getObj_map hb,K.law.check w false yu,k1,hz,MapKept.run_setObj_map _ hb,Result.andThen,setBlock]
    · rw[ew];exact heap_setBlock_same hb _
  · have hj:es[j]?=some e0:=by simpa using k2
    have hfx:f x=e0.val:=by
      have:(Instr.lookup t (.map (some g)) (K.kv x) false).run P w= .ok e0.val w:=by
        simp[Instr.lookup,run_underlying ht,MapKept.run_getObj_map hb,K.law.check w _ yu,k1,Result.andThen]
      rw[U3]at this
      simpa using this
    have oM:es.modify j (fun e=>{e with key:=K.kv x})=es:=by
      apply Array.ext';rw[Array.toList_modify];exact vd _ _ _ _ k2 (by rw[<-k3])
    refine⟨e0.born,w,?_,⟨rfl,rfl,rfl,Nat.le_refl _,fun _ _ _=>rfl⟩,Lc (by omega) (fun _ _=>rfl) w h,es,clock,e0,hb,List.mem_of_getElem? k2,k3,rfl⟩;rw[hfx];have:=yt hb;simp[Instr.mapEntry,run_underlying ht,MapKept.run_getObj_map hb,K.law.check w false yu,k1,hj,k3,K.law.stays w yu,oM,MapKept.run_setObj_map _ hb,Result.andThen];exact this
theorem LR{w:World}{t e:TypeId}{g b st:Nat}{f f':κ->Value}{x:κ}{z v:Value}(ht:P.underlying t=some (.map k e))(h:(O9 K g x st z f b).holds w)(hx:K.ok x)(hc:b<=1152921504606846976)(hf:∀y,K.ok y->f' y=if y=x then v else f y):
 ∃w',(Instr.entryStore t (.map (some g)) (goInt (st:Nat)) v).run P w= .ok () w'/\(lu K g z f' (b+1)).holds w'/\w.grownBy w' (some g):=by
 obtain⟨h,es',aa6,e1,GI,jc,hk1,wI⟩:=h;obtain⟨w',r1,r2,r3⟩:=Ed K (f':=f') (v:=v) ht h hx hc hf;refine⟨w',?_,r2,r3⟩;rw[<-r1];obtain⟨l,yu⟩:=K.key x hx;obtain⟨m,n,h1,⟨D,⟨es,clock,hb,F,hs,hD⟩,hi⟩,h3⟩:=h;rw[hb]at GI;simp only[Option.some.injEq,Obj.map.injEq]at GI;obtain⟨rfl,rfl⟩:=GI;obtain⟨s1,s2,s3⟩:=F.stamped;rcases K.law.find w yu es.toList F.keys with⟨k1,k2⟩|⟨j,e0,k1,k2,k3⟩
 ·exact absurd hk1 (k2 e1 jc)
 ·have hj:es[j]?=some e0:=by simpa using k2
  obtain⟨i,lg⟩:=List.getElem?_of_mem jc;have oW:i=j:=by
   have K9:=(List.getElem?_eq_some_iff.1 lg);have V':=(List.getElem?_eq_some_iff.1 k2);obtain⟨li,ei⟩:=K9;obtain⟨lj,ej⟩:=V';refine(List.getElem_inj (h₀:=by simpa using li) (h₁:=by simpa using lj) s3).1 ?_;simp only[List.getElem_map,ei,ej,hk1,k3]
  subst oW;have e01:e1=e0:=by rw[lg]at k2;simpa using k2
  subst e01;subst wI;have WC:es.findIdx? (fun e=>((e.born:Nat):Int)==((e1.born:Nat):Int))=some i:=by
   rw[findIdx_arr];exact findIdx_born s2 k2
  have V2:es.modify i (fun e=>{e with val:=v})=es.modify i (fun e'=>{e' with key:=K.kv x,val:=v}):=by
   apply Array.ext';rw[Array.toList_modify,Array.toList_modify];exact modify_eq _ _ _ _ _ k2 (by rw[<-k3])
  simp[Instr.entryStore,Instr.mapUpdate,run_underlying ht,MapKept.run_getObj_map hb,asInt,asIntOf,goInt,WC,V2,K.law.check w false yu,k1,hj,k3,K.law.stays w yu,MapKept.run_setObj_map _ hb,Result.andThen]
section
variable{W:bC}{fr:Fr}{L:List bI}{Q:Exit->Act->World->Prop}{ops:Array Oper}{rest:List Oper}{n d:Nat}{dst:Option Tmp}{ty:TypeId}{pos:String}{after:Array Edge}{guard:Option (Nat×Bool)}{i g b:Nat}{t e:TypeId}{f:κ->Value}{x:κ}{z:Value}{xm xk xv xs:Operand}
theorem EX(ht:P.underlying t=some (.map k e))(hz:∀u:World,(zeroValue e).run P u= .ok z u)(hi:L[i]?=some (lu K g z f b))(hm:ev fr xm=some (.map (some g)))(hk:ev fr xk=some (K.kv x))(hx:K.ok x)(hc:b<=1152921504606846976)(hn:Nat.blt d n=true)
 (h:∀st:Nat,TL P n W ops Q rest ((d,.tuple #[f x,.int .i64 (st:Int)])::fr) (L.set i (O9 K g x st z f (b+1)))):
 TL P n W ops Q (⟨some d,.mapEntry t xm xk,ty,pos,after,none⟩::rest) fr L:=iV rfl fun a w hr hw KK hK=>by
 obtain⟨st,w1,h1,h2,h3⟩:=LQ K ht hz (hw.get hi) hx hc;have e1:(execOp a.eval ⟨some d,.mapEntry t xm xk,ty,pos,after,none⟩).run P w= .ok (.value (.tuple #[f x,.int .i64 (st:Int)])) w1:=by
  simp[execOp,hr.ev hm,hr.ev hk,h1,goInt,Result.andThen]
 unfold Oper.wp;rw[e1];exact hK _ _ ((h st).go _ _ (hr.put hn _) (hw.zS hi h2 h3 fun q hq=> .inl hq))
theorem A'{st:Nat}{v:Value}(f':κ->Value)(ht:P.underlying t=some (.map k e))(hi:L[i]?=some (O9 K g x st z f b))(hm:ev fr xm=some (.map (some g)))(hs:ev fr xs=some (.int .i64 (st:Int)))(hv:ev fr xv=some v)(hx:K.ok x)(hc:b<=1152921504606846976)(hf:∀y,K.ok y->f' y=if y=x then v else f y)
 (h:TL P n W ops Q rest fr (L.set i (lu K g z f' (b+1)))):
 TL P n W ops Q (⟨none,.entryStore t xm xs xv,ty,pos,after,none⟩::rest) fr L:=iV rfl fun a w hr hw KK hK=>by
 obtain⟨w1,h1,h2,h3⟩:=LR K ht (hw.get hi) hx hc hf;have e1:(execOp a.eval ⟨none,.entryStore t xm xs xv,ty,pos,after,none⟩).run P w= .ok .skip w1:=by
  have h1':(Instr.entryStore t (.map (some g)) (.int .i64 (st:Int)) v).run P w= .ok () w1:=h1;simp[execOp,hr.ev hm,hr.ev hs,hr.ev hv,h1',Result.andThen]
 unfold Oper.wp;rw[e1];exact hK _ _ (h.go _ _ (hr.pq undef) (hw.zS hi h3 h2 fun q hq=> .inl hq))
omit [DecidableEq κ]in
theorem O_{st:Nat}{v:Value}(ht:P.underlying t=some (.map k e))(hz:∀w,(zeroValue e).run P w= .ok z w)(hi:L[i]?=some (O9 K g x st z f b))(hm:ev fr xm=some (.map (some g)))(hk:ev fr xk=some (K.kv x))(hx:K.ok x)(hv:f x=v):RR P n W ⟨dst,.lookup t xm xk false,ty,pos,after,guard⟩ fr L v:=
 Ec K ht hz (fun _ hw=>(hw.get hi).1) hm hk hx hv
end
end
end bK
namespace bK
open Go.RowKit bO dc
theorem wo(v:Value)(l:List Bool)(x:Bool)(w:World)(hs:Sl w v l.length (l.map .bool)):
 Calls Tryz.prog 83 #[v,.bool x] w (bM (ret (.int .i64 (oY (· ==x) l))) w):=by
 obtain⟨base,cap,rfl,nc,mj,ef⟩:=hs;unfold maxLen at mj;refine enter (args:=[.slice base l.length cap,.bool x]) (n:=19) Tryz.func83 rfl rfl rfl ?_
 try refine GA ?_
 refine dv (ι:=Nat) (fun k=>k<=l.length/\∀j (hj:j<l.length),j<k->(l[j]==x)=false) (fun k=>[(0,.slice base l.length cap),(1,.bool x),(7,.int .i64 l.length),(8,.int .i64 (k:Int))]) (fun _=>[]) (fun k=>l.length-k) 0 ⟨by omega,fun j hj h=>by omega⟩ ?_;rintro k ⟨h1,h2⟩
 by_cases c2:k<l.length
 ·obtain⟨b,off,rfl,hr⟩:=ef (by omega)
  have dF:=NB (L:=([]:List bI)) hr c2
  by_cases c3:(l[k]==x)=true
  ·rw[qG c2 c3 h2]
   have e:x=l[k]:=by simpa using(beq_iff_eq.1 c3).symm
   clear h2 ef;subst e
   repeat(first|refine GC ?_|refine gV (bx aT.eq ak.ty rfl rfl c2) ?_|refine gV (J ak.ty rfl dF) ?_|refine gV (Az (c:=true) aT.eq rfl rfl (by simp)) ?_|refine GB ?_)
   exact db
  ·have Jp:(l[k]==x)=false:=by simpa using c3
   have e:(x==l[k])=false:=by rw[beq_eq_false_iff_ne]at Jp⊢;exact fun h=>Jp h.symm
   clear ef c3
   repeat(first|refine GC ?_|refine gV (bx aT.eq ak.ty rfl rfl c2) ?_|refine gV (J ak.ty rfl dF) ?_|refine gV (Az (c:=false) aT.eq rfl rfl e) ?_|refine GB ?_)
   exact bB (k+1) ⟨by omega,fun j hj h=>if e:j<k then h2 j hj e else(by obtain rfl:j=k:=(by omega);exact Jp)⟩ (by show l.length-(k+1)<l.length-k;omega)
 ·rw[qH fun j hj=>h2 j hj (by omega)]
  clear h2 ef
  try refine GA ?_
  exact db
theorem lU(v:Value)(l:List Bool)(x:Bool)(w:World)(hs:Sl w v l.length (l.map .bool)):
 Calls Tryz.prog 43 #[v,.bool x] w (bM (ret (.bool (l.any (· ==x)))) w):=by
 refine enter (args:=[v,.bool x]) (n:=9) Tryz.func43 rfl rfl rfl ?_;have hh:=fun w' (hg:Gr w w')=>wo v l x w' (hs.gr hg);have hr:=nS (· ==x) l
 rw[<-sP (· ==x) l]
 generalize oY (· ==x) l=r at*
 try refine GA ?_
 refine aI (eK aj.en rfl rfl rfl) (fun w hm=>hh _ hm.below) rfl rfl rfl ?_;intro _ _
 repeat(first|refine GC ?_|refine gV (dO rfl rfl rfl) ?_|refine GB ?_)
 exact db
end bK
namespace bK
open Go.RowKit bO dc aB dy
inductive lV(F:Nat->Prop)(w:World):List Value->Tree->Prop
 |mk {p k:Int} {kids:List Tree} {base:Option Addr} {cap:Nat} (fu:List (List Value)):bO.cV p->bO.cV k->kids.length<=cap->cap<=maxLen->fu.length=kids.length->
  (∀i (h:i<kids.length) (h':i<fu.length),lV F w fu[i] kids[i])->(0<kids.length->∃b off,base=some ⟨b,off,none⟩/\F b/\∀i (_:i<kids.length) (h':i<fu.length),Rd w b (off+i*3) fu[i])->
  lV F w [.int .i64 p,.int .i64 k,.slice base kids.length cap] (.mk p k kids)
theorem lV.aa7{F:Nat->Prop}{w:World}{cs:List Value}{t:Tree}(h:lV F w cs t):cs.length=3:=by
 cases h;rfl
theorem lV.Cc{F:Nat->Prop}{w w':World}{cs:List Value}{t:Tree}(h:lV F w cs t)(hk:∀k,F k->w'.heap[k]?=w.heap[k]?):lV F w' cs t:=by
 induction h with
 |mk fu h1 h2 h3 h4 h5 h6 h7 ih=>
  refine .mk fu h1 h2 h3 h4 h5 ih fun hl=>?_;obtain⟨b,off,e,hF,hr⟩:=h7 hl;exact⟨b,off,e,hF,fun i hi lg=>rd_stay (hr i hi lg) (hk b hF)⟩
theorem lV.mono{F F':Nat->Prop}{w:World}{cs:List Value}{t:Tree}(h:lV F w cs t)(hk:∀k,F k->F' k):lV F' w cs t:=by
 induction h with
 |mk fu h1 h2 h3 h4 h5 h6 h7 ih=>
  refine .mk fu h1 h2 h3 h4 h5 ih fun hl=>?_;obtain⟨b,off,e,hF,hr⟩:=h7 hl;exact⟨b,off,e,hk b hF,hr⟩
def Y6:sC Tree:=⟨3,lV,fun h=>h.aa7,fun h hk=>h.Cc hk,fun h hk=>h.mono hk⟩
def Y7(p k:Int)(v:Value):Value:= .agg #[.int .i64 p,.int .i64 k,v]
def Pa(F:Nat->Prop)(w:World)(v:Value)(t:Tree):Prop:=∃vk,v=Y7 t.prod t.tok vk/\bO.cV t.prod/\bO.cV t.tok/\iB Y6 F w vk t.kids
theorem Pa.gr{w w':World}{v:Value}{t:Tree}(h:Pa (fun k=>k<w.heap.size) w v t)(hg:Gr w w'):Pa (fun k=>k<w'.heap.size) w' v t:=
 let ⟨vk,h1,h2,h3,h4⟩:=h;⟨vk,h1,h2,h3,h4.gr hg⟩
section
end
end bK
namespace bK
open Go.RowKit bO dc aB cL
def eV(n:Nat):Value:= .int .u64 (n:Int)
theorem wT{l:List Bool}{i:Nat}(hi:i<l.length):(l.map Value.bool)[i]?=some (.bool (l.getD i false)):=by
 simp[hi]
theorem CF{l:List Nat}{i:Nat}(hi:i<l.length):(l.map eV)[i]?=some (eV (l.getD i 0)):=by
 simp[hi]
theorem HO(g cap:Nat)(l:List Bool)(i:Nat)(b:Bool)(w:World)(B:bC)(hi:i<l.length)(hm:Mem B [aM 4 1 (.slice (some ⟨g,0,none⟩) l.length cap) l.length (l.map .bool)] w):
 Calls Tryz.prog 122 #[.slice (some ⟨g,0,none⟩) l.length cap,.int .i64 (i:Int),.bool b] w (c_ ⟨fun(_:Unit)=>True,fun _=> .bool (eu l i b).2,fun _=>[aM 4 1 (.slice (some ⟨g,0,none⟩) l.length cap) l.length ((eu l i b).1.map .bool)]⟩ B):=by
 have hb:=wT hi;refine dC hm (args:=[.slice (some ⟨g,0,none⟩) l.length cap,.int .i64 (i:Int),.bool b]) (n:=18) Tryz.func122 rfl rfl rfl ?_;unfold eu
 cases b
 ·rw[if_neg (by simp)]
  try refine GA ?_
  exact b9 rfl rfl fun w hm=>hm.bP (S:=⟨fun(_:Unit)=>True,fun _=> .bool false,fun _=>[aM 4 1 (.slice (some ⟨g,0,none⟩) l.length cap) l.length (l.map .bool)]⟩) () trivial [0] (by decide) rfl
 ·generalize hx:l.getD i false=x at*
  cases x
  ·rw[if_pos ⟨rfl,rfl⟩]
   repeat(first|refine GA ?_|refine gV (bx aT.eq ak.ty rfl rfl hi) ?_|refine gV (J ak.ty rfl (ix (i:=0) rfl (by rw[Nat.zero_add];exact hb))) ?_)
   refine jq (i:=0) ak.ty rfl rfl rfl rfl rfl rfl (by simpa using hi) ?_
   try refine GA ?_
   exact b9 rfl rfl fun w hm=>hm.bP (S:=⟨fun(_:Unit)=>True,fun _=> .bool true,fun _=>[aM 4 1 (.slice (some ⟨g,0,none⟩) l.length cap) l.length ((l.set i true).map .bool)]⟩) () trivial [0] (by decide) (by simp[List.map_set])
  ·rw[if_neg (by simp)]
   repeat(first|refine GA ?_|refine gV (bx aT.eq ak.ty rfl rfl hi) ?_|refine gV (J ak.ty rfl (ix (i:=0) rfl (by rw[Nat.zero_add];exact hb))) ?_)
   exact b9 rfl rfl fun w hm=>hm.bP (S:=⟨fun(_:Unit)=>True,fun _=> .bool false,fun _=>[aM 4 1 (.slice (some ⟨g,0,none⟩) l.length cap) l.length (l.map .bool)]⟩) () trivial [0] (by decide) rfl
theorem se(v vb:Value)(l:List Bool)(body:List cg)(aF:Bool)(w:World)(hs:Sl w v l.length (l.map .bool))(Sa:Sl w vb body.length (body.flatMap dg))(jZ:∀x∈body,x.1=2->0<=x.2/\x.2<l.length):
    Calls Tryz.prog 123 #[v,vb,.bool aF] w (bM (ret (.bool (lH l body aF))) w):=by
  obtain⟨bv,cv,rfl,h1,h2,h3⟩:=hs;obtain⟨bb,cb,rfl,h4,h5,h6⟩:=Sa;unfold maxLen at h2 h5;refine enter (args:=[.slice bv l.length cv,.slice bb body.length cb,.bool aF]) (n:=36) Tryz.func123 rfl rfl rfl ?_
  try refine GA ?_
  refine dv (ι:=Nat) (fun k=>k<=body.length/\lH l body aF=lH l (body.drop k) aF) (fun k=>[(0,.slice bv l.length cv),(2,.bool aF),(9,.slice bb body.length cb),(10,.int .i64 body.length),(11,.int .i64 (k:Int))]) (fun _=>[]) (fun k=>body.length-k) 0 ⟨Nat.zero_le _,rfl⟩ ?_;rintro k ⟨i1,i2⟩;rw[i2];clear i2
  by_cases c6:k<body.length
  · obtain⟨b,off,rfl,hr⟩:=h6 (by omega)
    have dF:=eN (L:=([]:List bI)) lD hr c6;have SO:=jZ body[k] (List.getElem_mem c6);have hd:lH l (body.drop k) aF=((if body[k].1=1 then aF else if body[k].1=2 then l.getD body[k].2.toNat false else true)&&lH l (body.drop (k+1)) aF):=by
      rw[List.drop_eq_getElem_cons c6];rfl
    rw[hd];clear hd h6 jZ hr;generalize body[k]=x at*;obtain⟨q,m⟩:=x;dsimp only at*
    by_cases c1:q=1
    · rw[if_pos c1]
      cases aF
      · repeat(first|refine GA ?_|refine gV (aC aT.eq ak.ty rfl rfl c6) ?_|refine gV (aH ak.ty rfl rfl dF) ?_)
        refine aK rfl fun g8=>?_;refine fa 0 ?_
        repeat(first|refine GA ?_|refine gV (J ak.ty rfl (ah (i:=0) rfl rfl)) ?_)
        exact db
      · repeat(first|refine GA ?_|refine gV (aC aT.eq ak.ty rfl rfl c6) ?_|refine gV (aH ak.ty rfl rfl dF) ?_)
        refine aK rfl fun g8=>?_;refine fa 0 ?_
        repeat(first|refine GA ?_|refine gV (J ak.ty rfl (ah (i:=0) rfl rfl)) ?_)
        refine cD [] ?_;exact bB (k+1) ⟨by omega,by simp⟩ (by show body.length-(k+1)<body.length-k;omega)
    · rw[if_neg c1]
      by_cases c2:q=2
      · rw[if_pos c2]
        obtain⟨o1,o2⟩:=SO c2;obtain⟨mm,rfl⟩:∃mm:Nat,m=mm:=⟨m.toNat,by omega⟩;have pt:mm<l.length:=by omega
        obtain⟨b',sX,rfl,wE⟩:=h3 (by omega);rw[Int.toNat_natCast];have hcell:=wT pt;generalize l.getD mm false=y at*
        cases y
        · repeat(first|refine GA ?_|refine gV (aC aT.eq ak.ty rfl rfl c6) ?_|refine gV (aH ak.ty rfl rfl dF) ?_)
          refine aK rfl fun g8=>?_;refine fa 0 ?_
          repeat(first|refine GA ?_|refine gV (J ak.ty rfl (ah (i:=0) rfl rfl)) ?_|refine gV (bx aT.eq ak.ty rfl rfl pt) ?_|refine gV (J ak.ty rfl (f_ wE hcell)) ?_)
          exact db
        · repeat(first|refine GA ?_|refine gV (aC aT.eq ak.ty rfl rfl c6) ?_|refine gV (aH ak.ty rfl rfl dF) ?_)
          refine aK rfl fun g8=>?_;refine fa 0 ?_
          repeat(first|refine GA ?_|refine gV (J ak.ty rfl (ah (i:=0) rfl rfl)) ?_|refine gV (bx aT.eq ak.ty rfl rfl pt) ?_|refine gV (J ak.ty rfl (f_ wE hcell)) ?_)
          refine cD [] ?_;exact bB (k+1) ⟨by omega,by simp⟩ (by show body.length-(k+1)<body.length-k;omega)
      · rw[if_neg c2]
        repeat(first|refine GA ?_|refine gV (aC aT.eq ak.ty rfl rfl c6) ?_|refine gV (aH ak.ty rfl rfl dF) ?_)
        refine aK rfl fun g8=>?_;refine fa 0 ?_
        repeat(first|refine GA ?_|refine gV (J ak.ty rfl (ah (i:=0) rfl rfl)) ?_)
        refine cD [] ?_;exact bB (k+1) ⟨by omega,by simp⟩ (by show body.length-(k+1)<body.length-k;omega)
  · rw[List.drop_of_length_le (by omega)]
    try refine GA ?_
    exact db
end bK
namespace bK
open Go.RowKit bO dc aB cL
theorem nl{x y:Nat}(hx:x<18446744073709551616)(hy:y<18446744073709551616):bits .or .u64 (x:Int) (y:Int)=((x|||y:Nat):Int):=by
 have h:=bits_nat .u64 64 (by decide) (fun n h0 h1=>by rw[IntKind.wrap_u64];omega) x y (by simpa using hx) (by simpa using hy);exact h.2
theorem Y8{x y:Nat}(hx:x<18446744073709551616)(hy:y<18446744073709551616):x|||y<18446744073709551616:=Nat.or_lt_two_pow (n:=64) hx hy
theorem tj{m:Nat}(h:m<64):2^m<18446744073709551616:=by
 have:(2:Nat)^m<2^64:=Nat.pow_lt_pow_right (by decide) h
 simpa using this
theorem SP{P:Program}(m:Nat)(hm:m<64)(w:World):(Op.shift .shl .u64 1 .i64 (m:Int)).run P w= .ok (.int .u64 ((2^m:Nat):Int)) w:=by
 have e:min m 64=m:=by omega
 have hp:=tj hm;have e2:(2:Int)^m=((2^m:Nat):Int):=by rw[Int.natCast_pow];rfl
 have e3:IntKind.u64.wrap ((1:Int)*2^m)=((2^m:Nat):Int):=by
  rw[e2,IntKind.wrap_u64,Int.one_mul];generalize 2^m=q at hp;omega
 have h0:¬((m:Int)<0):=by omega
 simp only[Op.shift,if_neg h0,IntKind.bits,Int.toNat_natCast,e,e3,Sem.run_pure]
attribute [local irreducible] Op.shift Go.bits in
theorem LS(g cap:Nat)(l:List Nat)(i b:Nat)(w:World)(B:bC)(hi:i<l.length)(Y9:∀x∈l,x<18446744073709551616)(hb:b<18446744073709551616)(hm:Mem B [aM 114 1 (.slice (some ⟨g,0,none⟩) l.length cap) l.length (l.map eV)] w):
 Calls Tryz.prog 124 #[.slice (some ⟨g,0,none⟩) l.length cap,.int .i64 (i:Int),eV b] w (c_ ⟨fun(_:Unit)=>True,fun _=> .bool (kN l i b).2,fun _=>[aM 114 1 (.slice (some ⟨g,0,none⟩) l.length cap) l.length ((kN l i b).1.map eV)]⟩ B):=by
 have hc:=CF hi;have SQ:l.getD i 0<18446744073709551616:=by
  have e:l.getD i 0=l[i]:=by rw[List.getD_eq_getElem?_getD,List.getElem?_eq_getElem hi];rfl
  rw[e];exact Y9 _ (List.getElem_mem hi)
 refine dC hm (args:=[.slice (some ⟨g,0,none⟩) l.length cap,.int .i64 (i:Int),eV b]) (n:=25) Tryz.func124 rfl rfl rfl ?_;unfold kN;generalize l.getD i 0=x at*;have DJ:=nl SQ hb;have q6:((l.map eV).set i (.int .u64 ((x|||b:Nat):Int)))[0+i]?=some (.int .u64 ((x|||b:Nat):Int)):=by
  rw[Nat.zero_add,List.getElem?_set_self (by simpa using hi)]
 generalize x|||b=y at*
 by_cases c:y=x
 ·rw[show(!decide (y=x))=false by simp[c]]
  repeat(first|refine GA ?_|refine gV (bx aT.eq ak.ty rfl rfl hi) ?_|refine gV (J ak.ty rfl (ix (i:=0) rfl (by rw[Nat.zero_add];exact hc))) ?_|refine gV (sJ rfl rfl DJ) ?_)
  refine jq (i:=0) ak.ty rfl rfl rfl rfl rfl rfl (by simpa using hi) ?_
  conv=>arg 8;simp only[List.set_cons_zero,Nat.zero_add]
  repeat(first|refine GA ?_|refine gV (bx aT.eq ak.ty rfl rfl hi) ?_|refine gV (J ak.ty rfl (ix (i:=0) rfl q6)) ?_)
  exact b9 rfl rfl fun w hm=>hm.bP (S:=⟨fun(_:Unit)=>True,fun _=> .bool false,fun _=>[aM 114 1 (.slice (some ⟨g,0,none⟩) l.length cap) l.length ((l.set i y).map eV)]⟩) () trivial [0] (by decide) (by simp[List.map_set];rfl)
 ·rw[show(!decide (y=x))=true by simp[c]]
  repeat(first|refine GA ?_|refine gV (bx aT.eq ak.ty rfl rfl hi) ?_|refine gV (J ak.ty rfl (ix (i:=0) rfl (by rw[Nat.zero_add];exact hc))) ?_|refine gV (sJ rfl rfl DJ) ?_)
  refine jq (i:=0) ak.ty rfl rfl rfl rfl rfl rfl (by simpa using hi) ?_
  conv=>arg 8;simp only[List.set_cons_zero,Nat.zero_add]
  repeat(first|refine GA ?_|refine gV (bx aT.eq ak.ty rfl rfl hi) ?_|refine gV (J ak.ty rfl (ix (i:=0) rfl q6)) ?_)
  exact b9 rfl rfl fun w hm=>hm.bP (S:=⟨fun(_:Unit)=>True,fun _=> .bool true,fun _=>[aM 114 1 (.slice (some ⟨g,0,none⟩) l.length cap) l.length ((l.set i y).map eV)]⟩) () trivial [0] (by decide) (by simp[List.map_set];rfl)
theorem CG(E:List Bool)(F:List Nat)(behind:Nat)(x:cg)(r:List cg)(out:Nat):jD E F behind (x::r) out=if x.1=1 then out|||2^x.2.toNat else if E.getD x.2.toNat false=true then jD E F behind r (out|||F.getD x.2.toNat 0)else out|||F.getD x.2.toNat 0:=rfl
theorem EY(E:List Bool)(F:List Nat)(behind out:Nat):jD E F behind [] out=out|||behind:=rfl
def jy(vE vF vL vR vM:Value):Value:= .agg #[vE,vF,vL,vR,vM]
attribute [local irreducible] Op.shift Go.bits in
theorem pY(vE vF vL vR vM vb:Value)(E:List Bool)(F:List Nat)(body:List cg)(behind:Nat)(w:World)(hE:Sl w vE E.length (E.map .bool))(hF:Sl w vF F.length (F.map eV))(hs:Sl w vb body.length (body.flatMap dg))(hEF:E.length=F.length)
    (jZ:∀x∈body,(x.1=1->0<=x.2/\x.2<64)/\(x.1≠1->0<=x.2/\x.2<F.length)) (Y9:∀x∈F,x<18446744073709551616) (hb:behind<18446744073709551616):
    Calls Tryz.prog 125 #[jy vE vF vL vR vM,vb,eV behind] w (bM (ret (eV (eA E F body behind))) w):=by
  obtain⟨bE,cE,rfl,e1,e2,e3⟩:=hE;obtain⟨bF,cF,rfl,f1,f2,f3⟩:=hF;obtain⟨bb,cb,rfl,h4,h5,h6⟩:=hs;unfold maxLen at e2 f2 h5;refine enter (args:=[jy (.slice bE E.length cE) (.slice bF F.length cF) vL vR vM,.slice bb body.length cb,eV behind]) (n:=44) Tryz.func125 rfl rfl rfl ?_;refine a8 (aL (a_ rfl rfl rfl fun g3=>?_))
  try refine GA ?_
  unfold eA;refine dv (ι:=Nat×Nat) (fun(k,out)=>k<=body.length/\out<18446744073709551616/\jD E F behind body 0=jD E F behind (body.drop k) out) (fun(k,out)=>[(2,eV behind),(3,.pointer (some ⟨g3,0,none⟩)),(7,eV out),(10,.slice bb body.length cb),(11,.int .i64 body.length),(12,.int .i64 (k:Int))]) (fun _=>[aw g3 (jy (.slice bE E.length cE) (.slice bF F.length cF) vL vR vM).cells 104]) (fun(k,_)=>body.length-k) (0,0) ⟨Nat.zero_le _,by decide,rfl⟩ ?_;rintro⟨k,out⟩ ⟨i1,i3,i2⟩;dsimp only at i1 i3 i2⊢;rw[i2];clear i2
  by_cases c6:k<body.length
  · obtain⟨b,off,rfl,hr⟩:=h6 (by omega)
    have dF:=eN (L:=[aw g3 (jy (.slice bE E.length cE) (.slice bF F.length cF) vL vR vM).cells 104]) lD hr c6;have SO:=jZ body[k] (List.getElem_mem c6);have hd:jD E F behind (body.drop k) out=jD E F behind (body[k]::body.drop (k+1)) out:=by
      rw[List.drop_eq_getElem_cons c6]
    rw[hd];clear hd h6 jZ hr;generalize body[k]=x at*;obtain⟨q,m⟩:=x;dsimp only at*;rw[CG];dsimp only
    by_cases c1:q=1
    · rw[if_pos c1]
      obtain⟨o1,o2⟩:=SO.1 c1;obtain⟨mm,rfl⟩:∃mm:Nat,m=mm:=⟨m.toNat,by omega⟩;rw[Int.toNat_natCast];have Sb:=fun w=>SP (P:=Tryz.prog) mm (by omega) w;have DJ:=nl i3 (tj (m:=mm) (by omega))
      repeat(first|refine GA ?_|refine gV (aC aT.eq ak.ty rfl rfl c6) ?_|refine gV (aH ak.ty rfl rfl dF) ?_)
      refine aK rfl fun g8=>?_;refine fa 1 ?_
      repeat(first|refine GA ?_|refine gV (J ak.ty rfl (ah (i:=1) rfl rfl)) ?_|refine gV (xu rfl rfl Sb) ?_|refine gV (sJ rfl rfl DJ) ?_)
      exact db
    · rw[if_neg c1]
      obtain⟨o1,o2⟩:=SO.2 c1;obtain⟨mm,rfl⟩:∃mm:Nat,m=mm:=⟨m.toNat,by omega⟩;rw[Int.toNat_natCast];have pt:mm<F.length:=by omega
      have hmE:mm<E.length:=by omega
      obtain⟨b1,ab0,rfl,Rr⟩:=e3 (by omega);obtain⟨b2,SR,rfl,qE⟩:=f3 (by omega);have hcE:=wT hmE;have hcF:=CF pt;have SQ:F.getD mm 0<18446744073709551616:=by
        have e:F.getD mm 0=F[mm]:=by rw[List.getD_eq_getElem?_getD,List.getElem?_eq_getElem pt];rfl
        rw[e];exact Y9 _ (List.getElem_mem pt)
      have DJ:=nl i3 SQ;have hlt:=Y8 i3 SQ;generalize E.getD mm false=y at*;generalize F.getD mm 0=z at*;generalize out|||z=o2 at*
      cases y
      · rw[if_neg (by decide)]
        repeat(first|refine GA ?_|refine gV (aC aT.eq ak.ty rfl rfl c6) ?_|refine gV (aH ak.ty rfl rfl dF) ?_)
        refine aK rfl fun g8=>?_;refine fa 1 ?_
        repeat(first|refine GA ?_|refine gV (J ak.ty rfl (ah (i:=1) rfl rfl)) ?_|refine gV (J ak.ty rfl (ah (i:=0) rfl rfl)) ?_|refine gV (bx aT.eq ak.ty rfl rfl pt) ?_|refine gV (bx aT.eq ak.ty rfl rfl hmE) ?_|refine gV (J ak.ty rfl (f_ Rr hcE)) ?_|refine gV (J ak.ty rfl (f_ qE hcF)) ?_|refine gV (sJ rfl rfl DJ) ?_)
        exact db
      · rw[if_pos rfl]
        repeat(first|refine GA ?_|refine gV (aC aT.eq ak.ty rfl rfl c6) ?_|refine gV (aH ak.ty rfl rfl dF) ?_)
        refine aK rfl fun g8=>?_;refine fa 1 ?_
        repeat(first|refine GA ?_|refine gV (J ak.ty rfl (ah (i:=1) rfl rfl)) ?_|refine gV (J ak.ty rfl (ah (i:=0) rfl rfl)) ?_|refine gV (bx aT.eq ak.ty rfl rfl pt) ?_|refine gV (bx aT.eq ak.ty rfl rfl hmE) ?_|refine gV (J ak.ty rfl (f_ Rr hcE)) ?_|refine gV (J ak.ty rfl (f_ qE hcF)) ?_|refine gV (sJ rfl rfl DJ) ?_)
        refine cD [0] ?_;exact bB (k+1,o2) ⟨by omega,hlt,rfl⟩ (by show body.length-(k+1)<body.length-k;omega)
  · rw[List.drop_of_length_le (by omega)]
    have DJ:=nl i3 hb;rw[EY]
    repeat(first|refine GA ?_|refine gV (sJ rfl rfl DJ) ?_)
    exact db
end bK
end Go.Proofs.YtdmgcnggnejnnaaGreat

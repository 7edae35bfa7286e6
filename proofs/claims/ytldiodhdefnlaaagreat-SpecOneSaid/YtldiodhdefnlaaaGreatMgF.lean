/- Part 6 of what SpecOne needs: CountB, CountC, CountD, LlM, LrA, LrK, BeginL, SpecU, LlN, LlC, LrC, SmUp, SmCk, SpecRt, SpecH, ClimbE, SmBk, LexN, LrM, LrN, LrP, LrT, SpecG, SpecV, SpecLst, AbcL, SpecOneL, ClassO1, RexI, SpecI, SpecJ, CountE. -/
import Derived.Test.YtldiodhdefnlaaaGreatMgE
namespace Go.Proofs.YtldiodhdefnlaaaGreat
set_option linter.unusedVariables false
set_option linter.unusedSimpArgs false
set_option maxHeartbeats 16000000
namespace bH
open Go.RowKit bL db av dj
def tc(n:Nat):Value:= .int .i64 (n:Int)
def ny(g len:Nat)(f:Nat->Nat):bz:=aI 3 1 (.slice (some ⟨g,0,none⟩) len len) len ((iS len f).map tc)
theorem xF{W:bB}{L:List bz}{i g len k:Nat}{f:Nat->Nat}(hi:L[i]?=some (ny g len f))(hk:k<len):At W L ⟨g,0+k,none⟩ (tc (f k)):=f_ hi (by rw[Nat.zero_add,List.getElem?_map,AN f hk];rfl)
theorem Nv{g len k v:Nat}{f f':Nat->Nat}(h:∀i,i<len->f' i=if i=k then v else f i):aI 3 1 (.slice (some ⟨g,0,none⟩) len len) len (((iS len f).map tc).set k (tc v))=ny g len f':=by
 unfold ny;rw[<-List.map_set,O0 f f' k v h]
theorem td(len:Nat):(iS len fun _=>0).map tc=List.replicate len (.int .i64 0):=by
 unfold iS;rw[List.map_map];apply List.ext_getElem?;intro i
 by_cases h:i<len<;>simp[h,tc]
theorem te{P:Program}{n:Nat}{W:bB}{fr:Fr}{L:List bz}{Q:Exit->Act->World->Prop}{ops:Array Oper}{rest:List Oper}{ty:TypeId}{pos:String}{after:Array Edge}{t:TypeId}{p x:Operand}{i g off len v:Nat}{f:Nat->Nat}(f':Nat->Nat)(hT:Ty P t false 1)(hi:L[i]?=some (ny g len f))(hp:ev fr p=some (.pointer (some ⟨g,0+off,none⟩)))(hx:ev fr x=some (tc v))(hk:off<len)(hf:∀i,i<len->f' i=if i=off then v else f i)
 (h:TL P n W ops Q rest fr (L.set i (ny g len f'))):TL P n W ops Q (⟨none,.store t p x,ty,pos,after,none⟩::rest) fr L:=
 gG hT hi hp hx rfl rfl rfl (by rw[List.length_map,ry,Nat.zero_add];exact hk) (by rw[Nat.zero_add,Nv hf];exact h)
theorem p8(m:Nat)(w:World):Calls Tryz.prog 77 #[.int .i64 (m:Int)] w (bU (ret (tc (min m 2))) w):=by
 have h:=Bf (m:Int) w;rw[show min (m:Int) 2=((min m 2:Nat):Int)by omega]at h;exact h
theorem Kf(gc gm:Nat)(t n:Int)(vp vw vb:Value)(word:List Int)(c:dE)(B:Nat)(body:List bY)(a b:Nat)(w:World)(h:VU w gc gm t n vp vw word c B)(hs:Sl w vb body.length (body.flatMap dv))(jU:∀x∈body,bL.bX x.2)(hc:∀x,c x<=2)(lF:a<=b)(hb:b<=word.length)(hw:word.length<=20):
    Calls Tryz.prog 78 #[.pointer (some ⟨gc,0,none⟩),vb,.int .i64 (a:Int),.int .i64 (b:Int)] w (bU (ret (.int .i64 (jP (dX c word) body a b:Nat))) w):=by
  have o8:=fun x a' b' w' (hg:Gr w w')=>JE gc gm t n vp vw word c B x a' b' w' (h.gr hg);obtain⟨bb,cb,rfl,h4,h5,h6⟩:=hs;unfold maxLen at h5;obtain⟨d,rfl⟩:∃d,b=a+d:=⟨b-a,by omega⟩;have ho:=O3 hc word;unfold jP;rw[show a+d-a=d by omega];generalize dX c word=o at*;refine enter (args:=[.pointer (some ⟨gc,0,none⟩),.slice bb body.length cb,.int .i64 (a:Int),.int .i64 ((a+d:Nat):Int)]) (n:=79) Tryz.func78 rfl rfl rfl ?_
  repeat(first|refine GC ?_|refine gV (ij (r:=(d:Int)) rfl rfl (by omega) (by omega) (by omega)) ?_|refine gV (eK (r:=((d+1:Nat):Int)) rfl rfl (by omega) (by omega) (by omega)) ?_|refine GB ?_)
  refine mS rfl rfl (by omega) (by omega) rfl fun g0=>?_;rw[<-td]
  repeat(first|refine GA ?_|refine gV (aO (j:=0) aT.eq ak.ty rfl rfl (by omega)) ?_)
  refine te (i:=0) (len:=d+1) (f:=fun _=>0) (v:=1) pU ak.ty rfl rfl rfl (by omega) (fun i _=>rfl) ?_;refine zL ?_
  try refine GA ?_
  refine cX (ι:=Nat×Nat×(Nat->Nat)) (fun(k,g,f)=>k<=body.length/\(∀b,f b<=2)/\lD o a (body.drop k) f d=lD o a body pU d) (fun(k,g,f)=>[(0,.pointer (some ⟨gc,0,none⟩)),(2,.int .i64 (a:Int)),(3,.int .i64 ((a+d:Nat):Int)),(9,.slice (some ⟨g,0,none⟩) (d+1) (d+1)),(23,.slice bb body.length cb),(24,.int .i64 body.length),(25,.int .i64 (k:Int))])
    (fun(k,g,f)=>[ny g (d+1) f]) (fun(k,_,_)=>body.length-k) (0,g0,pU) ⟨Nat.zero_le _,wj,rfl⟩ ?_
  rintro⟨k,g,f⟩ ⟨i1,i2,i3⟩;dsimp only at i1 i2 i3⊢;rw[<-i3];clear i3
  by_cases c6:k<body.length
  · obtain⟨b',off,rfl,hr⟩:=h6 (by omega)
    have du:=fun L=>fx (L:=L) jO hr c6;have Jz:=jU body[k] (List.getElem_mem c6);rw[List.drop_eq_getElem_cons c6,lD];clear hr h6;have Zl:=ho body[k];have o8:=fun a' b' w' hg=>o8 body[k] a' b' w' hg Jz;generalize body[k]=x at*;obtain⟨q,m⟩:=x
    repeat(first|refine GA ?_|refine gV (aH aT.eq ak.ty rfl rfl c6) ?_|refine gV (aK ak.ty rfl rfl (du _)) ?_)
    refine aF rfl fun g11=>?_;refine fU 1 ?_;refine zL ?_
    try refine GA ?_
    refine mS rfl rfl (by omega) (by omega) rfl fun g12=>?_;rw[<-td];refine zL ?_
    try refine GA ?_
    generalize hO:(fun i j=>o (q,m) (a+i) (a+j))=O;refine iu (ι:=Nat) (fun i=>i<=d+1) (fun i=>[(0,.pointer (some ⟨gc,0,none⟩)),(2,.int .i64 (a:Int)),(3,.int .i64 ((a+d:Nat):Int)),(9,.slice (some ⟨g,0,none⟩) (d+1) (d+1)),(11,.pointer (some ⟨g11,0,none⟩)),(12,.slice (some ⟨g12,0,none⟩) (d+1) (d+1)),(23,.slice (some ⟨b',off,none⟩) body.length cb),(24,.int .i64 body.length),(25,.int .i64 (k:Int)),(32,.slice (some ⟨g,0,none⟩) (d+1) (d+1)),(33,.int .i64 ((d+1:Nat):Int)),(34,.int .i64 (i:Int))])
      (fun i=>[ny g (d+1) f,ap g11 (dv (q,m)).toArray 128,ny g12 (d+1) (gv O f i)]) (fun i=>d+1-i) 0 (Nat.zero_le _) (by repeat' (first|exact True.intro|refine And.intro rfl ?_)) (by rw[show gv O f 0=fun _=>0 from funext (O1 O f)];rfl) ?_
    intro i j1
    by_cases c7:i<d+1
    · have L4:=i2 i
      repeat(first|refine GA ?_|refine gV (aO aT.eq ak.ty rfl rfl c7) ?_|refine gV (J ak.ty rfl (xF (i:=0) rfl c7)) ?_)
      refine iu (ι:=Nat) (fun b=>i<=b/\b<=d+1) (fun b=>[(0,.pointer (some ⟨gc,0,none⟩)),(2,.int .i64 (a:Int)),(3,.int .i64 ((a+d:Nat):Int)),(9,.slice (some ⟨g,0,none⟩) (d+1) (d+1)),(11,.pointer (some ⟨g11,0,none⟩)),(12,.slice (some ⟨g12,0,none⟩) (d+1) (d+1)),(13,.int .i64 (i:Int)),(14,tc (f i)),(15,.int .i64 (b:Int)),(23,.slice (some ⟨b',off,none⟩) body.length cb),(24,.int .i64 body.length),(25,.int .i64 (k:Int)),(32,.slice (some ⟨g,0,none⟩) (d+1) (d+1)),(33,.int .i64 ((d+1:Nat):Int)),(34,.int .i64 (i:Int))])
        (fun b=>[ny g (d+1) f,ap g11 (dv (q,m)).toArray 128,ny g12 (d+1) (rz O f i b)]) (fun b=>d+1-b) i ⟨Nat.le_refl _,by omega⟩ (by repeat' (first|exact True.intro|refine And.intro rfl ?_)) (by rw[SO]) ?_
      rintro b ⟨b1,b2⟩
      by_cases c8:f i=0
      · rw[I5 O f c8]
        rw[c8]at*
        by_cases c9:b<d+1
        · try refine GA ?_
          exact aY (i+1) (by omega) (by show d+1-(i+1)<d+1-i;omega)
        · try refine GA ?_
          exact aY (i+1) (by omega) (by show d+1-(i+1)<d+1-i;omega)
      by_cases c9:b<d+1
      · have hp:=CF O f i b
        have hst:=wg O f b1;have Wy:∀L:List bz,L[2]?=some (ny g12 (d+1) (rz O f i b))->At w L ⟨g12,0+b,none⟩ (tc (gv O f i b)):=fun L h=>by rw[<-O2 O f i b];exact xF h c9
        have hsf:=I6 O f i b;have o8:=fun w' hg=>o8 (a+i) (a+b) w' hg (by omega) (by omega) hw;have hob:=Zl (a+i) (a+b);have he:o (q,m) (a+i) (a+b)=O i b:=by rw[<-hO]
        rw[he]at o8 hob;have hm:((f i:Nat):Int)*((O i b:Nat):Int)=((f i*O i b:Nat):Int):=by simp
        have hmb:f i*O i b<=4:=Nat.mul_le_mul L4 hob;have hc8:0<f i:=by omega
        generalize f i=fi at*;generalize O i b=oo at*;generalize fi*oo=pr at*;rw[hst]at hsf;clear hst;generalize gv O f i b=p at*
        try refine GA ?_
        refine dw ([ap g11 (dv (q,m)).toArray 128]) (.calm 0 (.calm 1 (.calm 2 (.calm 3 (.calm 4 (.calm 6 (.calm 7 (.calm 8 (.calm 9 (.calm 10 (.calm 11 (.calm 12 (.calm 13 (.calm 14 (.calm 15 (.calm 16 (.one 5 (.calm 17 (.calm 18 (.calm 19 (.one 20 (.done)))))))))))))))))))))) (bC [1]) ?_
        repeat(first|(refine GN ?_;first|refine QW QP ?_|refine QW (aO aT.eq ak.ty rfl rfl c9) ?_|refine QW (aE (i:=0) ak.ty rfl rfl rfl) ?_|refine QW (eK (r:=((a+i:Nat):Int)) rfl rfl (by omega) (by omega) (by omega)) ?_|refine QW (eK (r:=((a+b:Nat):Int)) rfl rfl (by omega) (by omega) (by omega)) ?_|refine GX ?_)|refine GW ?_)
        refine kf rfl (X8 aj.en rfl rfl rfl rfl rfl) (fun w hm=>o8 _ hm.below) rfl rfl rfl ?_
        repeat(first|(refine GN ?_;first|refine QW QP ?_|refine QW (B8 (r:=(pr:Int)) rfl rfl (by rw[hm];omega) (by rw[hm];omega) hm) ?_|refine GX ?_)|refine GW ?_)
        refine az rfl (cI (J ak.ty rfl (Wy _ rfl)) rfl rfl rfl (aw (bC [1]) ?_))
        repeat(first|(refine GN ?_;first|refine QW QP ?_|refine QW (eK (r:=((p+pr:Nat):Int)) rfl rfl (by omega) (by omega) (by omega)) ?_|refine GX ?_)|refine GW ?_)
        refine kf rfl (iT aj.en rfl rfl) (fun w hm=>p8 (p+pr) w) rfl rfl rfl ?_
        repeat(first|refine GW ?_|(refine GN ?_;first|refine QW (aO aT.eq ak.ty rfl rfl c9) ?_))
        refine az rfl (te (i:=2) (v:=min (p+pr) 2) (rz O f i (b+1)) ak.ty rfl rfl rfl c9 (fun j _=>hsf j) ?_);refine zL ?_;refine aw (bC [1]) ?_
        try refine GW ?_
        try refine GA ?_
        exact aY (b+1) ⟨by omega,by omega⟩ (by show d+1-(b+1)<d+1-b;omega)
      · try refine GA ?_
        exact aY (i+1) (by omega) (by show d+1-(i+1)<d+1-i;omega) (hl:=by unfold ny;rw[LM O f (show d+1<=b by omega)])
    · try refine GA ?_
      refine bR [2] ?_;have e1:iS (d+1) (gv O f i)=iS (d+1) (fW O f):=y6 fun j hj=>sP O f (by omega);exact aY (k+1,g12,fW O f) ⟨by omega,we O f,rfl⟩ (by show body.length-(k+1)<body.length-k;omega) (hl:=by unfold ny;rw[e1];rfl)
  · rw[List.drop_of_length_le (by omega),lD]
    repeat(first|refine GC ?_|refine gV (ij (r:=(d:Int)) rfl rfl (by omega) (by omega) (by omega)) ?_|refine gV (aO aT.eq ak.ty rfl rfl (show d<d+1 by omega)) ?_|refine gV (J ak.ty rfl (xF (i:=0) rfl (show d<d+1 by omega))) ?_|refine GB ?_)
    exact da
end bH
namespace bH
open Go.RowKit bL db av dj
def Nw(n:Nat)(l:List av.Prod):Prop:=∀p∈l,0<=p.1/\p.1<(n:Int)/\∀x∈p.2,bL.bX x.2
attribute [local irreducible] Instr.build in
theorem BG(w0:World)(gc gm n:Nat)(t:Int)(vp vw:Value)(word:List Int)(ag:List av.Prod)(c:dE)(Bd a b:Nat)(hG:gI nD (fun k=>k<w0.heap.size) w0 vp ag)(hW:Sl w0 vw word.length (word.map (.int .i64)))(jk:Nw n ag)(hn:n<=20)(hlen:ag.length<=40)(hc:∀x,c x<=2)(lF:a<=b)(hb:b<=word.length)(hw:word.length<=20)(hBd:Bd<=10000000)(w:World)(B:bB)(ho:lc w0 B)(hm:Mem B [ap gc (Be t (n:Int) vp vw gm) 78,wX gm c Bd] w):
    Calls Tryz.prog 60 #[.pointer (some ⟨gc,0,none⟩),.int .i64 (a:Int),.int .i64 (b:Int)] w (dc ⟨fun(_:Unit)=>True,fun _=> .bool (od c word ag a b n),fun _=>[ap gc (Be t (n:Int) vp vw gm) 78,wX gm (dY c word ag n a b n) (Bd+n)]⟩ B):=by
  have dW:=fun vb body w' L (hm:Mem B L w') h1 h2 hs ok=>Kf gc gm t (n:Int) vp vw vb word c Bd body a b w' ⟨h1,h2,hW.gr (ho.mem hm)⟩ hs ok hc lF hb hw;obtain⟨bp,cp,rfl,Hm,BU,lU⟩:=hG;unfold maxLen at BU;refine eg hm (args:=[.pointer (some ⟨gc,0,none⟩),.int .i64 (a:Int),.int .i64 (b:Int)]) (n:=75) Tryz.func60 rfl rfl rfl ?_;clear hm
  repeat(first|refine GA ?_|refine gV (J ak.ty rfl (ah (i:=0) rfl rfl)) ?_)
  refine mS rfl rfl (by omega) (by omega) rfl fun g7=>?_;rw[<-td];refine zL ?_
  repeat(first|refine GA ?_|refine gV (J ak.ty rfl (ah (i:=0) rfl rfl)) ?_)
  refine iu (ι:=Nat) (fun k=>k<=ag.length) (fun k=>[(0,.pointer (some ⟨gc,0,none⟩)),(1,.int .i64 (a:Int)),(2,.int .i64 (b:Int)),(7,.slice (some ⟨g7,0,none⟩) n n),(24,.slice bp ag.length cp),(25,.int .i64 ag.length),(26,.int .i64 (k:Int))])
    (fun k=>[ap gc (Be t (n:Int) (.slice bp ag.length cp) vw gm) 78,wX gm c Bd,ny g7 n (fD (dX c word) (ag.take k) a b)]) (fun k=>ag.length-k) 0 (Nat.zero_le _) (by repeat' (first|exact True.intro|refine And.intro rfl ?_)) (by rw[show fD (dX c word) (ag.take 0) a b=fun _=>0 from funext fun i=>by simp[fD,lV]];rfl) ?_
  intro k i1
  by_cases c6:k<ag.length
  · obtain⟨b',off,rfl,_,hr⟩:=lU (by omega)
    obtain⟨bb,cb,q1,q2,q3⟩:=jF hr c6;have kU:=jk ag[k] (List.getElem_mem c6);have Dw:ag.take (k+1)=ag.take k++[ag[k]]:=List.take_succ_eq_append_getElem c6;have du:∀(L:List bz) (j:Nat) (v:Value),([.int .i64 ag[k].1,.slice bb ag[k].2.length cb]:List Value)[j]?=some v->At B L ⟨b',off+k*2+j,none⟩ v:=fun L j v hj=>fI ho (q1 j v hj);have uI:=q3.flat (by decide);clear hr lU q1 jk q3;generalize ag[k]=p at*;obtain⟨hd,body⟩:=p;obtain⟨p1,p2,p3⟩:=kU;dsimp only at*;obtain⟨h,rfl⟩:∃h:Nat,hd=h:=⟨hd.toNat,by omega⟩;have hh:h<n:=by omega
    have dW:=fun w' L (hm:Mem B L w') h1 h2=>dW (.slice bb body.length cb) body w' L hm h1 h2 (uI.gr (ho.mem hm)) p3;have TB:=fun i=>I7 (dX c word) a b ((h:Int),body) (ag.take k) (h:=h) rfl i;dsimp only at TB;rw[<-Dw]at TB;have A3:=O4 (dX c word) body a b;have hnl:=ph (dX c word) (ag.take k) a b h;generalize jP (dX c word) body a b=r at*;have Wy:∀L:List bz,L[2]?=some (ny g7 n (fD (dX c word) (ag.take k) a b))->At B L ⟨g7,0+h,none⟩ (tc (fD (dX c word) (ag.take k) a b h)):=fun L hL=>xF hL hh;generalize fD (dX c word) (ag.take k) a b h=q at*
    repeat(first|refine GA ?_|refine gV (aH aT.eq ak.ty rfl rfl c6) ?_|refine gV (aK ak.ty rfl rfl (du _)) ?_)
    clear du;refine aF rfl fun g9=>?_;refine fU 3 ?_;refine zL ?_
    try refine GA ?_
    refine dw ([ap gc (Be t (n:Int) (.slice (some ⟨b',off,none⟩) ag.length cp) vw gm) 78,wX gm c Bd,ap g9 #[.int .i64 (h:Int),.slice bb body.length cb] 109]) (.calm 0 (.calm 1 (.calm 2 (.calm 3 (.calm 4 (.calm 5 (.calm 6 (.calm 8 (.calm 9 (.calm 10 (.calm 11 (.calm 12 (.calm 13 (.one 7 (.calm 14 (.calm 15 (.calm 16 (.one 17 (.done))))))))))))))))))) (bC [0,1,3]) ?_
    repeat(first|refine GW ?_|(refine GN ?_;first|refine QW (J ak.ty rfl (ah (i:=2) rfl rfl)) ?_|refine QW (aO aT.eq ak.ty rfl rfl hh) ?_))
    refine kf rfl (X8 aj.en rfl rfl rfl rfl rfl) (fun w hm=>dW _ _ hm (hm.get (i:=0) rfl) (hm.get (i:=1) rfl)) rfl rfl rfl ?_;refine az rfl (cI (J ak.ty rfl (Wy _ rfl)) rfl rfl rfl (aw (bC [0,1,3]) ?_))
    repeat(first|(refine GN ?_;first|refine QW QP ?_|refine QW (eK (r:=((q+r:Nat):Int)) rfl rfl (by omega) (by omega) (by omega)) ?_|refine GX ?_)|refine GW ?_)
    refine kf rfl (iT aj.en rfl rfl) (fun w hm=>p8 (q+r) w) rfl rfl rfl ?_
    repeat(first|refine GW ?_|(refine GN ?_;first|refine QW (aO aT.eq ak.ty rfl rfl hh) ?_))
    refine az rfl (te (i:=2) (v:=min (q+r) 2) (fD (dX c word) (ag.take (k+1)) a b) ak.ty rfl rfl rfl hh (fun j _=>TB j) ?_);refine zL ?_;refine aw (bC [0,1,3]) ?_
    try refine GW ?_
    try refine GA ?_
    refine bR [0,1,2] ?_;exact aY (k+1) (by omega) (by show ag.length-(k+1)<ag.length-k;omega)
  · obtain rfl:k=ag.length:=by omega
    rw[List.take_length];clear lU dW i1 c6
    try refine GA ?_
    refine iu (ι:=Nat) (fun k=>k<=n) (fun k=>[(0,.pointer (some ⟨gc,0,none⟩)),(1,.int .i64 (a:Int)),(2,.int .i64 (b:Int)),(10,.bool (od c word ag a b k)),(48,.slice (some ⟨g7,0,none⟩) n n),(49,.int .i64 (n:Int)),(50,.int .i64 (k:Int))])
      (fun k=>[ap gc (Be t (n:Int) (.slice bp ag.length cp) vw gm) 78,wX gm (dY c word ag n a b k) (Bd+k),ny g7 n (fD (dX c word) ag a b)]) (fun k=>n-k) 0 (Nat.zero_le _) (by repeat' (first|exact True.intro|refine And.intro rfl ?_)) (by rw[LN];rfl) ?_
    intro k i1
    by_cases c6:k<n
    · have hsp:pY.ok ((k:Int),(a:Int),(b:Int)):=Bc ⟨by omega,by omega⟩ (by omega) (by omega)
      have hst:=CH c word ag (a:=a) (b:=b) c6;have du:=I8 c word ag n a b k;have x6:od c word ag a b (k+1)=(od c word ag a b k||!decide (c ((k:Int),(a:Int),(b:Int))=fD (dX c word) ag a b k)):=rfl;have Wy:∀L:List bz,L[2]?=some (ny g7 n (fD (dX c word) ag a b))->At B L ⟨g7,0+k,none⟩ (tc (fD (dX c word) ag a b k)):=fun L hL=>xF hL c6;generalize fD (dX c word) ag a b k=v at*;generalize hcv:c ((k:Int),(a:Int),(b:Int))=u at*
      repeat(first|refine GA ?_|refine gV (aO aT.eq ak.ty rfl rfl c6) ?_|refine gV (J ak.ty rfl (Wy _ rfl)) ?_|refine gV (aU rfl (qE _ _ _)) ?_)
      refine aF rfl fun g13=>?_;refine fU 3 ?_;refine zL ?_
      try refine GA ?_
      by_cases c7:u=v
      · rw[decide_eq_true c7]at x6
        have x6:od c word ag a b (k+1)=od c word ag a b k:=by rw[x6];simp
        refine dw ([ap gc (Be t (n:Int) (.slice bp ag.length cp) vw gm) 78,wX gm (dY c word ag n a b k) (Bd+k),ny g7 n (fD (dX c word) ag a b),ap g13 #[.int .i64 (k:Int),.int .i64 (a:Int),.int .i64 (b:Int)] 82]) (.calm 0 (.calm 1 (.calm 2 (.calm 3 (.calm 4 (.calm 5 (.calm 6 (.calm 7 (.done))))))))) (fun _ h=>h) ?_
        repeat(first|refine GW ?_|(refine GN ?_;first|refine QW (J ak.ty rfl (ah (i:=0) rfl rfl)) ?_|refine QW (aE (i:=3) ak.ty rfl rfl rfl) ?_|refine QW (mi (x:=((k:Int),(a:Int),(b:Int))) (i:=1) pY aT.eq rR rfl rfl rfl hsp (by rw[du])) ?_))
        try refine GA ?_
        refine bR [0,1,2] ?_;refine SG (o:=wX gm (dY c word ag n a b k) (Bd+k)) (wX gm (dY c word ag n a b (k+1)) (Bd+(k+1))) (i:=1) rfl (fun w h=>yS (K:=pY) (by omega) (fun x _=>?_) w h) (fun q h=>h) (fun q h=>False.elim h) ?_
        · rw[hst x]
          split
          · rename_i e;rw[e,du,c7]
          · rfl
        exact eZ (k+1) (by omega) (by show n-(k+1)<n-k;omega) ⟨rfl,rfl,rfl,by rw[x6];rfl,rfl,rfl,rfl,trivial⟩ rfl
      · rw[decide_eq_false c7]at x6
        have x6:od c word ag a b (k+1)=true:=by rw[x6];simp
        refine dw ([ap gc (Be t (n:Int) (.slice bp ag.length cp) vw gm) 78,wX gm (dY c word ag n a b k) (Bd+k),ny g7 n (fD (dX c word) ag a b),ap g13 #[.int .i64 (k:Int),.int .i64 (a:Int),.int .i64 (b:Int)] 82]) (.calm 0 (.calm 1 (.calm 2 (.calm 3 (.calm 4 (.calm 5 (.calm 6 (.calm 7 (.done))))))))) (fun _ h=>h) ?_
        repeat(first|refine GW ?_|(refine GN ?_;first|refine QW (J ak.ty rfl (ah (i:=0) rfl rfl)) ?_|refine QW (aE (i:=3) ak.ty rfl rfl rfl) ?_|refine QW (mi (x:=((k:Int),(a:Int),(b:Int))) (i:=1) pY aT.eq rR rfl rfl rfl hsp (by rw[du])) ?_))
        try refine GA ?_
        refine dw ([ap gc (Be t (n:Int) (.slice bp ag.length cp) vw gm) 78,ap g13 #[.int .i64 (k:Int),.int .i64 (a:Int),.int .i64 (b:Int)] 82]) (.calm 0 (.calm 1 (.calm 2 (.calm 3 (.calm 4 (.calm 5 (.one 6 (.done)))))))) (bC [0,3]) ?_
        repeat(first|refine GW ?_|(refine GN ?_;first|refine QW (J ak.ty rfl (ah (i:=0) rfl rfl)) ?_|refine QW (aE (i:=1) ak.ty rfl rfl rfl) ?_))
        refine az rfl (EQ (x:=((k:Int),(a:Int),(b:Int))) (v:=tc v) (i:=1) pY (fun y=> .int .i64 (dY c word ag n a b (k+1) y:Int)) aT.eq rfl rfl rfl rfl hsp (by omega) (fun y _=>?_) ?_)
        · rw[hst y]
          split<;>rfl
        refine zL ?_;refine aw (bC [0,3]) ?_
        try refine GW ?_
        try refine GA ?_
        refine bR [0,1,2] ?_;exact eZ (k+1) (by omega) (by show n-(k+1)<n-k;omega) ⟨rfl,rfl,rfl,by rw[x6];rfl,rfl,rfl,rfl,trivial⟩ rfl
    · obtain rfl:k=n:=by omega
      try refine GA ?_
      exact b_ rfl rfl fun w hm=>hm.bV (S:=⟨fun(_:Unit)=>True,fun _=> .bool (od c word ag a b k),fun _=>[ap gc (Be t (k:Int) (.slice bp ag.length cp) vw gm) 78,wX gm (dY c word ag k a b k) (Bd+k)]⟩) () trivial [0,1] (by decide) rfl
end bH
namespace bH
open Go.RowKit bL db av dj
theorem Gt(w0:World)(gc gm n:Nat)(t:Int)(vp vw:Value)(word:List Int)(ag:List av.Prod)(hG:gI nD (fun k=>k<w0.heap.size) w0 vp ag)(hW:Sl w0 vw word.length (word.map (.int .i64)))(jk:Nw n ag)(Ex:lW n ag)(hn:n<=20)(hlen:ag.length<=40)(hw:word.length<=20)(w:World)(B:bB)(ho:lc w0 B)(hm:Mem B [ap gc (Be t (n:Int) vp vw gm) 78,wX gm (fun _=>0) 0] w):
    Calls Tryz.prog 36 #[.pointer (some ⟨gc,0,none⟩)] w (dc ⟨fun(x:dE×Nat)=>CI word ag n x.1/\x.2<=1000000,fun _=> .tuple #[],fun x=>[ap gc (Be t (n:Int) vp vw gm) 78,wX gm x.1 x.2]⟩ B):=by
  have TM:=fun c Bd a b hc lF hb hBd w' B' ho hm=>BG w0 gc gm n t vp vw word ag c Bd a b hG hW jk hn hlen hc lF hb hw hBd w' B' ho hm;obtain⟨bw,cw,rfl,_⟩:=hW;refine eg hm (args:=[.pointer (some ⟨gc,0,none⟩)]) (n:=32) Tryz.func36 rfl rfl rfl ?_;clear hm
  try refine GA ?_
  refine cX (ι:=Nat×dE×Nat) (fun(s,c,Bd)=>s<=word.length+1/\wl word ag n (fun i j=>j-i<s) c/\Bd<=1700*(s*22)) (fun(s,_,_)=>[(0,.pointer (some ⟨gc,0,none⟩)),(2,.int .i64 (s:Int))])
    (fun(_,c,Bd)=>[ap gc (Be t (n:Int) vp (.slice bw word.length cw) gm) 78,wX gm c Bd]) (fun(s,_,_)=>word.length+1-s) (0,fun _=>0,0) ⟨by omega,R9,by omega⟩ ?_
  rintro⟨s,c,Bd⟩ ⟨i1,i2,i3⟩;dsimp only at i1 i2 i3⊢
  by_cases c6:s<=word.length
  · repeat(first|refine GA ?_|refine gV (J ak.ty rfl (ah (i:=0) rfl rfl)) ?_)
    refine cX (ι:=Nat×dE×Nat) (fun(f,c,Bd)=>f+s<=word.length+1/\wl word ag n (fun i j=>j-i<s\/(j-i=s/\i<f)) c/\Bd<=1700*(s*22+f)) (fun(f,_,_)=>[(0,.pointer (some ⟨gc,0,none⟩)),(2,.int .i64 (s:Int)),(3,.int .i64 (f:Int))])
      (fun(_,c,Bd)=>[ap gc (Be t (n:Int) vp (.slice bw word.length cw) gm) 78,wX gm c Bd]) (fun(f,_,_)=>word.length+1-f) (0,c,Bd) ⟨by omega,i2.same fun i j _ _=>by omega,by omega⟩ ?_
    clear i2 i3;rintro⟨f,c,Bd⟩ ⟨j1,i2,i3⟩;dsimp only at j1 i2 i3⊢
    by_cases c7:f+s<=word.length
    · repeat(first|refine GA ?_|refine gV (J ak.ty rfl (ah (i:=0) rfl rfl)) ?_)
      refine cX (ι:=dE×Nat×Bool) (fun(c,Bd,m)=>AO word ag n (fun i j=>j-i<s\/(j-i=s/\i<f)) f (f+s) c/\(m=false->Ja word ag n c f (f+s))/\Bd+20*(2*rA n c f (f+s)+(if m=true then 1 else 0))<=1700*(s*22+f)+1620) (fun(_,_,m)=>[(0,.pointer (some ⟨gc,0,none⟩)),(2,.int .i64 (s:Int)),(3,.int .i64 (f:Int)),(4,.bool m)])
        (fun(c,Bd,_)=>[ap gc (Be t (n:Int) vp (.slice bw word.length cw) gm) 78,wX gm c Bd]) (fun(c,_,m)=>2*rA n c f (f+s)+(if m=true then 1 else 0)) (c,Bd,true) ⟨i2.begin (by omega) c7 (by omega),fun h=>(by cases h),by have:=LO n c f (f+s);rw[if_pos rfl];omega⟩ ?_
      clear i2 i3;rintro⟨c,Bd,m⟩ ⟨i2,i3,i4⟩;dsimp only at i2 i3 i4⊢
      cases m
      · have i3:=i3 rfl
        try refine GA ?_
        exact aY (f+1,c,Bd) ⟨by omega,i2.done i3 fun i j _ _=>by omega,by rw[if_neg (by decide)]at i4;dsimp only;omega⟩ (by show word.length+1-(f+1)<word.length+1-f;omega)
      · have hinv:=Jc Ex i2 (by omega) c7 (by intro i j h;omega)
        have ZR:=Jd Ex i2 (by omega);have x8:=wq i2 n (Nat.le_refl _);rw[if_pos rfl]at i4
        try refine GA ?_
        refine aP [0,1] [] (by decide) rfl rfl (yG aj.en rfl rfl rfl rfl) (fun w hm hb=>TM c Bd f (f+s) i2.Rk (by omega) c7 (by omega) w _ (ho.on hm (by intro o ho;simpa using ho)) hb) rfl rfl rfl ?_;intro _ _;refine zL ?_
        try refine GA ?_
        refine aY (dY c word ag n f (f+s) n,Bd+n,od c word ag f (f+s) n) ⟨hinv,ZR,?_⟩ ?_
        · dsimp only
          by_cases c8:od c word ag f (f+s) n=true
          · have:=x8.2 c8;rw[if_pos c8];omega
          · have:=x8.1;rw[if_neg c8];omega
        · dsimp only
          rw[if_pos rfl]
          by_cases c8:od c word ag f (f+s) n=true
          · have:=x8.2 c8;rw[if_pos c8];omega
          · have:=x8.1;rw[if_neg c8];omega
    · repeat(first|refine GA ?_|refine gV (J ak.ty rfl (ah (i:=0) rfl rfl)) ?_)
      exact aY (s+1,c,Bd) ⟨by omega,i2.same fun i j _ _=>by omega,by dsimp only;omega⟩ (by show word.length+1-(s+1)<word.length+1-s;omega)
  · repeat(first|refine GA ?_|refine gV (J ak.ty rfl (ah (i:=0) rfl rfl)) ?_)
    exact sC rfl fun w hm=>hm.bV (S:=⟨fun(x:dE×Nat)=>CI word ag n x.1/\x.2<=1000000,fun _=> .tuple #[],fun x=>[ap gc (Be t (n:Int) vp (.slice bw word.length cw) gm) 78,wX gm x.1 x.2]⟩) (c,Bd) ⟨i2.lfp fun i j _ _=>by omega,by dsimp only;omega⟩ [0,1] (by decide) rfl
theorem D5(t n:Int)(b b':Option Addr)(m c m' c' gm:Nat)(w:World):(Instr.build 78 #[(0,cH t n (.slice b m c)),(1,.slice b' m' c'),(2,.map (some gm))]).run Tryz.prog w= .ok (.agg (Be t n (.slice b m c) (.slice b' m' c') gm)) w:=by
 unfold cH Be
 go_simp
def BH(g:df)(word:List Int)(vp vw:Value):Spec (Nat×Nat×dE×Nat):=⟨fun x=>CI word g.ag g.aR.toNat x.2.2.1/\x.2.2.2<=1000000,fun x=> .pointer (some ⟨x.1,0,none⟩),fun x=>[ap x.1 (Be g.aJ g.aR vp vw x.2.1) 78,wX x.2.1 x.2.2.1 x.2.2.2]⟩
theorem D6{g:df}{n:Nat}(h:bM g=0)(hn:g.aR=n):Nw n g.ag/\lW n g.ag:=by
 obtain⟨a1,a2,a3,a4,a5,a6⟩:=bI h;refine⟨fun p hp=>?_,fun p hp x hx h2=>?_⟩
 ·obtain⟨b1,b2,b3,b4⟩:=a6 p hp
  refine⟨b2,by omega,fun x hx=>?_⟩;have:=b4 x hx;unfold right at this;split at this
  ·simp at this;exact⟨by omega,by omega⟩
  ·split at this
   ·simp at this;exact⟨by omega,by omega⟩
   ·simp at this
 ·have:=(a6 p hp).2.2.2 x hx
  unfold right at this;rw[if_neg (by omega),if_pos h2]at this;simp at this;omega
attribute [local irreducible] Instr.build in
theorem BI(vp vw:Value)(g:df)(word:List Int)(w:World)(h:jf (fun k=>k<w.heap.size) w (cH g.aJ g.aR vp) g)(hs:Sl w vw word.length (word.map (.int .i64)))(gD:gd g word=0):
 Calls Tryz.prog 16 #[cH g.aJ g.aR vp,vw] w (bU (BH g word vp vw) w):=by
 obtain⟨hg,hl,hw⟩:=ku gD;obtain⟨a1,a2,a3,a4,a5,a6⟩:=bI hg;obtain⟨n,hn⟩:∃n:Nat,g.aR=n:=⟨g.aR.toNat,by omega⟩;obtain⟨f1,f2⟩:=D6 hg hn;obtain⟨vp',he,h1,_⟩:=h;obtain⟨t,nn,ag⟩:=g;dsimp only at*;simp only[cH,Value.agg.injEq,Array.mk.injEq,List.cons.injEq,true_and,and_true]at he;subst he hn;have mf:=fun gc gm w' B ho hm=>Gt w gc gm n t vp vw word ag h1 hs f1 f2 (by omega) a5 hl w' B ho hm;obtain⟨bp,cp,rfl,_⟩:=h1;obtain⟨bw,cw,rfl,_⟩:=hs;refine enter (args:=[cH t (n:Int) (.slice bp ag.length cp),.slice bw word.length cw]) (n:=14) Tryz.func16 rfl rfl rfl ?_;refine bJ (aV (bK rfl rfl rfl fun g2=>?_))
 repeat(first|refine GA ?_|refine gV (aE (i:=0) ak.ty rfl rfl rfl) ?_)
 refine Hd (z:= .int .i64 0) pY rfl fun gm=>?_
 repeat(first|refine GA ?_|refine gV (aU rfl (D5 _ _ _ _ _ _ _ _ _)) ?_)
 refine bK rfl rfl rfl fun gc=>?_;refine zL ?_
 try refine GA ?_
 refine aP [2,1] [0] (by decide) rfl rfl (iT aj.en rfl rfl) (fun w' hm hb=>mf gc gm w' _ ((lc.self w).on hm (by intro o ho;simp at ho⊢;rcases ho with h|h<;>simp[h])) hb) rfl rfl rfl ?_;rintro⟨c,Bd⟩ hx;refine zL ?_
 try refine GA ?_
 exact b_ rfl rfl fun w hm=>hm.meets (S:=BH ⟨t,n,ag⟩ word (.slice bp ag.length cp) (.slice bw word.length cw)) (gc,gm,c,Bd) hx [1,2] (by decide) rfl
end bH
namespace bH
open Go.RowKit bL db av dg dj b9 qz ue
attribute [local irreducible] Op.shift Go.bits in
theorem Kg(t:Nat)(n:Int)(vp:Value)(eJ:Nat)(w:World)(ht:t<=30)(hc:eJ<=t)(hv:∃b m c,vp= .slice b m c):
 Calls Tryz.prog 32 #[cH (t:Int) n vp,.int .i64 (eJ:Int)] w (bU (ret (ed (AV t eJ))) w):=by
 obtain⟨b,m,c,rfl⟩:=hv;have ON:=fun w=>Pu (P:=Tryz.prog) eJ (by omega) w;unfold AV;refine enter (args:=[cH (t:Int) n (.slice b m c),.int .i64 (eJ:Int)]) (n:=11) Tryz.func32 rfl rfl rfl ?_;refine bJ (aV (bK rfl rfl rfl fun g2=>?_))
 by_cases e:eJ=t
 ·rw[if_pos e]
  repeat(first|refine GA ?_|refine gV (J ak.ty rfl (ah (i:=0) rfl rfl)) ?_)
  exact da
 ·rw[if_neg e]
  repeat(first|refine GA ?_|refine gV (J ak.ty rfl (ah (i:=0) rfl rfl)) ?_|refine gV (uZ rfl rfl ON) ?_)
  exact da
def UN(x:Cl):List Value:=[.int .i64 x.1,.int .i64 x.2.1,.int .i64 x.2.2.1,.int .i64 x.2.2.2]
theorem Ny(a b c d:Int)(w:World):(Instr.build 114 #[(0,.int .i64 a),(1,.int .i64 b),(2,.int .i64 c),(3,.int .i64 d)]).run Tryz.prog w= .ok (.agg (UN (a,b,c,d)).toArray) w:=by
 unfold UN;go_simp
abbrev o9(v:Value):Value:=v
def TO(n:Int):Value:= .int .i64 n
def ul(T n c j:Nat):Nat:=if j<n then T+1 else if j=n then c else 0
def jm(l:List av.Prod)(may:Nat->Nat)(T:Nat)(vs:Nat->Value)(n c:Nat)(j:Nat):bz:=aI 3 1 (vs j) (ul T n c j) ((im (ul T n c j) (ue.rowAt l may T j)).map TO)
def Nz(N T:Nat)(l:List av.Prod)(may:Nat->Nat):Spec (Nat×(Nat->Value)×Value):=
 ⟨fun _=>True,fun x=> .tuple #[.slice (some ⟨x.1,0,none⟩) N N,x.2.2,.int .i64 0],fun x=>[dC 26 o9 x.1 N x.2.1,ft (fun j=>j<N) (jm l may T x.2.1 N 0),aI 114 4 x.2.2 (gU l may T N).length ((gU l may T N).flatMap UN)]⟩
def pN(n:Nat)(l:List av.Prod)(i:Nat):Nat:=cP (jy n l).E (sY n l) (aQ l (i:Int)).2 ((tI n l).getD (aQ l (i:Int)).1.toNat 0)
section
variable{l:List av.Prod}{may:Nat->Nat}{T:Nat}
theorem xG(n eJ:Nat):∀(k:Nat) (out:List Cl),(ot l may T n eJ k out).length<=out.length+k
  |0,out=>by rw[ot];omega
  | k +1,out=>by
    have:=xG n eJ k out;rw[ot];split
    · split
      · omega
      · rw[List.length_append];simp;omega
    · omega
theorem xH(n:Nat):∀(c:Nat) (out:List Cl),(rK l may T n c out).length<=out.length+c*l.length
 |0,out=>by rw[rK];omega
 |c+1,out=>by
  have h1:=xH n c out;have h2:=xG (l:=l) (may:=may) (T:=T) n c l.length (rK l may T n c out);rw[rK,Nat.succ_mul];omega
theorem D7:∀(N:Nat),(gU l may T N).length<=N*((T+1)*l.length)
 |0=>by rw[gU];simp
 |N+1=>by
  have h1:=D7 N;have h2:=xH (l:=l) (may:=may) (T:=T) N (T+1) (gU l may T N);rw[gU,Nat.succ_mul];omega
end
theorem NA{g:df}{n:Nat}(gD:bM g=0)(hn:g.aR=n):qv n (tI n g.ag):=by
 obtain⟨_,_,a3,_⟩:=bI gD;have hf:=pu gD hn;have hF:=(Bb gD hn).2;have uI:=E8 (E:=(jy n g.ag).E) hF hf;obtain⟨s',h1,h2,h3⟩:=lG uI _ ((List.replicate n 0).set 0 9223372036854775808) ⟨by simp,fun x hx=>by
  rcases List.mem_or_eq_of_mem_set hx with h|h
  ·rw[List.eq_of_mem_replicate h];decide
  ·rw[h];decide⟩ (Nat.le_refl _)
 obtain⟨_,h4,h5⟩:=oq _ _ _ h2;have h6:tI n g.ag=s':=by unfold tI oD;rw[h3];exact h4
 rw[h6];exact h1
attribute [local irreducible] Op.shift Go.bits Instr.build in
set_option maxRecDepth 100000 in
theorem BJ(v:Value)(g:df)(w:World)(h:jf (fun k=>k<w.heap.size) w v g)(hg:bM g=0)(T N:Nat)(hT:g.aJ=T)(hN:g.aR=N):
    Calls Tryz.prog 12 #[v] w (bU (Nz N T g.ag (pN N g.ag)) w):=by
  obtain⟨a1,a2,a3,a4,a5,a6⟩:=bI hg;have Mr:=fun w' (Oa:Gr w w')=>wV v g w' (h.gr Oa) hg N hN;have ZS:∀body:List bY,body∈g.ag.map (·.2)->oE g body=0/\∀b,ui g body b=cP (jy N g.ag).E (sY N g.ag) body b:=fun body hb=>by
    obtain⟨p,hp,rfl⟩:=List.mem_map.1 hb;obtain⟨b1,b2,b3,b4⟩:=a6 p hp;have e:oE g p.2=0:=by
      unfold oE;rw[if_neg (by simpa using hg),if_neg (by omega)];exact Ba b4
    refine⟨e,fun b=>?_⟩;unfold ui;rw[if_pos e,show g.aR.toNat=N by omega]
  have Wz:=fun vb body b w' (hg:Gr w w') hs=>mz v vb g body b w' (h.gr hg) hs;obtain⟨_,hF⟩:=Bb hg hN;have ZT:=NA hg hN;have L4:=D6 hg hN;have C3:pN N g.ag=fun i:Nat=>cP (jy N g.ag).E (sY N g.ag) (aQ g.ag (i:Int)).2 ((tI N g.ag).getD (aQ g.ag (i:Int)).1.toNat 0):=rfl;have ZU:∀i,pN N g.ag i<18446744073709551616:=fun i=>by
    refine kx hF (kj ZT _) fun x hx h1=>?_
    by_cases c:i<g.ag.length
    · rw[qu c]at hx
      have:=(a6 _ (List.getElem_mem c)).2.2.2 x hx;unfold right at this;rw[if_pos h1]at this;simp at this;omega
    · unfold aQ at hx
      rw[Int.toNat_natCast,List.getD_eq_getElem?_getD,List.getElem?_eq_none (by omega)]at hx
      cases hx
  generalize pH:pN N g.ag=may at*;obtain⟨vp,rfl,h1,_⟩:=h;obtain⟨t,nn,ag⟩:=g;dsimp only at*;subst hT hN;have h10:=h1;obtain⟨bp,cp,rfl,Hm,BU,lU⟩:=h1;unfold maxLen at BU;refine enter (args:=[cH (T:Int) (N:Int) (.slice bp ag.length cp)]) (n:=119) Tryz.func12 rfl rfl rfl ?_;refine bJ (aV (bK rfl rfl rfl fun g1=>?_));refine zL ?_
  repeat(first|refine GA ?_|refine gV (aE (i:=0) ak.ty rfl rfl rfl) ?_)
  refine aM (iT aj.en rfl rfl) (fun w' hm=>(Mr w' hm.below).mono fun e w2 h=>wW h) rfl rfl rfl ?_;intro x _
  conv=>arg 8;simp only[zJ,bW,ret,id_eq,wU.val]
  refine Cj [0,3] ?_
  try refine GA ?_
  refine aF rfl fun g5=>?_;refine fU 2 ?_;refine zL ?_
  repeat(first|refine GA ?_|refine gV (J ak.ty rfl (ah (i:=0) rfl rfl)) ?_)
  have hz:aW Tryz.prog 63 #[ed 0]:=(inferInstance:aW Tryz.prog 63 #[.int .u64 0]);refine kH ed 0 rfl rfl (by omega) (by omega) rfl fun g7=>?_;refine zL ?_
  repeat(first|refine GA ?_|refine gV (J ak.ty rfl (ah (i:=0) rfl rfl)) ?_)
  refine iu (ι:=Nat) (fun k=>k<=ag.length) (fun k=>[(1,.pointer (some ⟨g1,0,none⟩)),(5,.pointer (some ⟨g5,0,none⟩)),(7,.slice (some ⟨g7,0,none⟩) ag.length ag.length),(30,.slice bp ag.length cp),(31,.int .i64 ag.length),(32,.int .i64 (k:Int))])
    (fun k=>[ap g1 (cH (T:Int) (N:Int) (.slice bp ag.length cp)).cells 33,eP N x.gW x.cW (tI N ag),ap g5 (iR (bP N x.gE x.cE) (bP N x.gF x.cF) (bP N x.gW x.cW) (bP N x.gR x.cR) (bP N x.gM x.cM)).cells 53,dC 63 ed g7 ag.length (fun j=>if j<k then may j else 0)]) (fun k=>ag.length-k) 0 (Nat.zero_le _) (by repeat' (first|exact True.intro|refine And.intro rfl ?_)) (by rw[show(fun j=>if j<0 then may j else 0)=fun _=>0 from funext fun j=>if_neg (by omega)];rfl) ?_
  intro k k1
  by_cases c7:k<ag.length
  · obtain⟨b,off,rfl,_,hr⟩:=lU (by omega)
    obtain⟨bb,cb,y1,y2,y3⟩:=jF hr c7;have du:∀(L:List bz) (j:Nat) (v:Value),([.int .i64 ag[k].1,.slice bb ag[k].2.length cb]:List Value)[j]?=some v->At w L ⟨b,off+k*2+j,none⟩ v:=fun L j v hj=>iv (y1 j v hj);have uI:=y3.flat (by decide);obtain⟨b1,b2,b3,b4⟩:=a6 _ (List.getElem_mem c7);obtain⟨ya,La⟩:=ZS ag[k].2 (List.mem_map.2 ⟨_,List.getElem_mem c7,rfl⟩);have xZ:may k=cP (jy N ag).E (sY N ag) ag[k].2 ((tI N ag).getD ag[k].1.toNat 0):=by rw[C3];dsimp only;rw[qu c7]
    clear y1 y3 hr ZS lU;generalize ag[k]=pd at*;obtain⟨hd,body⟩:=pd;dsimp only at*;obtain⟨hn,rfl⟩:∃hn:Nat,hd=hn:=⟨hd.toNat,by omega⟩;have hlt:hn<N:=by omega
    rw[Int.toNat_natCast]at xZ;have ZV:((tI N ag).map ed)[0+hn]?=some (ed ((tI N ag).getD hn 0)):=by rw[Nat.zero_add];exact A9 (by rw[ZT.1];exact hlt)
    have ZW:=kj ZT hn;have Wz:=fun w' hg hs=>Wz (.slice bb body.length cb) body ((tI N ag).getD hn 0) w' hg hs ZW;rw[ya,La,<-xZ]at Wz;generalize (tI N ag).getD hn 0=wv at*
    repeat(first|refine GA ?_|refine gV (aH aT.eq ak.ty rfl rfl c7) ?_|refine gV (aK ak.ty rfl rfl (du _)) ?_)
    refine aF rfl fun g9=>?_
    try refine GA ?_
    refine fU 4 ?_;refine zL ?_
    try refine GA ?_
    refine dw ([ap g1 (cH (T:Int) (N:Int) (.slice (some ⟨b,off,none⟩) ag.length cp)).cells 33,eP N x.gW x.cW (tI N ag),ap g5 (iR (bP N x.gE x.cE) (bP N x.gF x.cF) (bP N x.gW x.cW) (bP N x.gR x.cR) (bP N x.gM x.cM)).cells 53,ap g9 #[.int .i64 (hn:Int),.slice bb body.length cb] 109]) (.calm 0 (.calm 1 (.calm 2 (.calm 3 (.calm 4 (.calm 5 (.calm 6 (.calm 7 (.calm 8 (.calm 9 (.calm 10 (.calm 11 (.calm 12 (.calm 13 (.calm 14 (.calm 15 (.one 16 (.done)))))))))))))))))) (bC [0,1,2,4]) ?_
    repeat(first|refine GW ?_|(refine GN ?_;first|refine QW (aE (i:=0) ak.ty rfl rfl rfl) ?_|refine QW (J ak.ty rfl (ah (i:=3) rfl rfl)) ?_|refine QW (J ak.ty rfl (ah (i:=2) rfl rfl)) ?_|refine QW (aO aT.eq ak.ty rfl rfl hlt) ?_|refine QW (J ak.ty rfl (f_ (i:=1) rfl ZV)) ?_))
    refine kf rfl (yG aj.en rfl rfl rfl rfl) (fun w hm=>Wz _ hm.below (uI.gr hm.below)) rfl rfl rfl ?_
    repeat(first|refine GW ?_|(refine GN ?_;first|refine QW (aO aT.eq ak.ty rfl rfl c7) ?_))
    refine az rfl ?_;refine eX (i:=3) (v:=may k) (fun j=>if j<k+1 then may j else 0) ak.ty rfl rfl rfl rfl rfl c7 (fun j _=>by
      by_cases e:j=k
      · subst e;simp
      · by_cases e2:j<k
        · simp[e,e2,show j<k+1 by omega]
        · simp[e,e2,show ¬j<k+1 by omega]) ?_
    refine zL ?_;refine aw (bC [0,1,2,4]) ?_
    try refine GW ?_
    try refine GA ?_
    refine bR [0,1,2,3] ?_;exact aY (k+1) (by omega) (by omega)
  · obtain rfl:k=ag.length:=by omega
    rw[show dC 63 ed g7 ag.length (fun j=>if j<ag.length then may j else 0)=dC 63 ed g7 ag.length may from kG fun j hj=>if_pos hj];clear Wz ZS Mr C3
    repeat(first|refine GA ?_|refine gV (J ak.ty rfl (ah (i:=0) rfl rfl)) ?_)
    refine kH o9 (.slice none 0 0) rfl rfl (by omega) (by omega) rfl fun g10=>?_;refine zL ?_
    try refine GA ?_
    refine pI [0,3,4] ?_;refine ly (ft (fun j=>j<N) (jm ag may T (fun _=> .slice none 0 0) 0 0)) (fun k hk=>hk.elim (fun h=>by cases h) fun⟨i,hi,h⟩=>h.elim (fun h=>by cases h) id) (fun w=>⟨fun i hi=>?_,fun i j _ _ _ k h=>h.elim (fun h=>by cases h) False.elim⟩) ?_
    · unfold jm ul
      rw[if_neg (by omega),ite_self];exact World.ownsRow_nil _ _ _ _
    refine h_ 114 4 ?_;refine cX (ι:=Nat×(Nat->Value)×Value) (fun(n,_,_)=>n<=N) (fun(n,_,vo)=>[(1,.pointer (some ⟨g1,0,none⟩)),(7,.slice (some ⟨g7,0,none⟩) ag.length ag.length),(10,.slice (some ⟨g10,0,none⟩) N N),(11,vo),(58,.int .i64 (N:Int)),(59,.int .i64 (n:Int))])
      (fun(n,vs,vo)=>[ap g1 (cH (T:Int) (N:Int) (.slice bp ag.length cp)).cells 33,dC 63 ed g7 ag.length may,dC 26 o9 g10 N vs,ft (fun j=>j<N) (jm ag may T vs n 0),aI 114 4 vo (gU ag may T n).length ((gU ag may T n).flatMap UN)]) (fun(n,_,_)=>N-n) (0,fun _=> .slice none 0 0,.slice none 0 0) (Nat.zero_le _) ?_
    rintro⟨n,vs,vo⟩ n1;dsimp only at n1⊢
    by_cases c8:n<N
    · repeat(first|refine GC ?_|refine gV (J ak.ty rfl (ah (i:=0) rfl rfl)) ?_|refine gV (eK (r:=((T+1:Nat):Int)) rfl rfl (by omega) (by omega) (by omega)) ?_|refine GB ?_)
      refine cX (ι:=Nat×(Nat->Value)×Value) (fun(c,_,_)=>c<=T+1) (fun(c,_,vo)=>[(1,.pointer (some ⟨g1,0,none⟩)),(7,.slice (some ⟨g7,0,none⟩) ag.length ag.length),(10,.slice (some ⟨g10,0,none⟩) N N),(11,vo),(12,.int .i64 (n:Int)),(58,.int .i64 (N:Int)),(59,.int .i64 (n:Int)),(64,.int .i64 ((T+1:Nat):Int)),(65,.int .i64 (c:Int))])
        (fun(c,vs,vo)=>[ap g1 (cH (T:Int) (N:Int) (.slice bp ag.length cp)).cells 33,dC 63 ed g7 ag.length may,dC 26 o9 g10 N vs,ft (fun j=>j<N) (jm ag may T vs n c),aI 114 4 vo (rK ag may T n c (gU ag may T n)).length ((rK ag may T n c (gU ag may T n)).flatMap UN)]) (fun(c,_,_)=>T+1-c) (0,vs,vo) (Nat.zero_le _) ?_
      rintro⟨c,vs,vo⟩ cc;dsimp only at cc⊢
      by_cases c9:c<T+1
      · have aai:=xH (l:=ag) (may:=may) (T:=T) n c (gU ag may T n)
        have aaj:=D7 (l:=ag) (may:=may) (T:=T) n;have OR:c*ag.length<=31*40:=Nat.mul_le_mul (by omega) a5;have Ox:(T+1)*ag.length<=31*40:=Nat.mul_le_mul (by omega) a5;have hm3:n*((T+1)*ag.length)<=20*(31*40):=Nat.mul_le_mul (by omega) Ox;have ZX:gU ag may T (n+1)=rK ag may T n (T+1) (gU ag may T n):=rfl;have WA:rK ag may T n (c+1) (gU ag may T n)=ot ag may T n c ag.length (rK ag may T n c (gU ag may T n)):=rfl;have hbc:AV T c<18446744073709551616:=by
          unfold AV;split
          · decide
          · exact Nat.lt_of_le_of_lt (Nat.pow_le_pow_right (by decide) (show c<=30 by omega)) (by decide)
        have Pa:=fun w=>Kg T (N:Int) (.slice bp ag.length cp) c w (by omega) (by omega) ⟨_,_,_,rfl⟩;generalize rK ag may T n c (gU ag may T n)=D8 at*
        repeat(first|refine GA ?_|refine gV (J ak.ty rfl (ah (i:=0) rfl rfl)) ?_)
        refine cX (ι:=Nat×Value) (fun(k,_)=>k<=ag.length) (fun(k,vo)=>[(1,.pointer (some ⟨g1,0,none⟩)),(7,.slice (some ⟨g7,0,none⟩) ag.length ag.length),(10,.slice (some ⟨g10,0,none⟩) N N),(11,vo),(12,.int .i64 (n:Int)),(13,.int .i64 (c:Int)),(14,.int .i64 (dP ag may T n c k)),(58,.int .i64 (N:Int)),(59,.int .i64 (n:Int)),(64,.int .i64 ((T+1:Nat):Int)),(65,.int .i64 (c:Int)),(69,.slice bp ag.length cp),(70,.int .i64 ag.length),(71,.int .i64 (k:Int))])
          (fun(k,vo)=>[ap g1 (cH (T:Int) (N:Int) (.slice bp ag.length cp)).cells 33,dC 63 ed g7 ag.length may,dC 26 o9 g10 N vs,ft (fun j=>j<N) (jm ag may T vs n c),aI 114 4 vo (ot ag may T n c k D8).length ((ot ag may T n c k D8).flatMap UN)]) (fun(k,_)=>ag.length-k) (0,vo) (Nat.zero_le _) ?_
        rintro⟨k,vo⟩ kk;dsimp only at kk⊢
        by_cases ck:k<ag.length
        · obtain⟨b,off,rfl,_,hr⟩:=lU (by omega)
          obtain⟨bb,cb,y1,y2,y3⟩:=jF hr ck;have du:∀(L:List bz) (j:Nat) (v:Value),([.int .i64 ag[k].1,.slice bb ag[k].2.length cb]:List Value)[j]?=some v->At w L ⟨b,off+k*2+j,none⟩ v:=fun L j v hj=>iv (y1 j v hj);have Zo:=xG (l:=ag) (may:=may) (T:=T) n c k D8;have hf:dP ag may T n c (k+1)=if dP ag may T n c k<0 then(if lI ag may T n c k=true then(k:Int)else dP ag may T n c k)else dP ag may T n c k:=rfl
          have ho:ot ag may T n c (k+1) D8=if lI ag may T n c k=true then(if dP ag may T n c k<0 then ot ag may T n c k D8 else ot ag may T n c k D8++[((n:Int),(c:Int),dP ag may T n c k,(k:Int))])else ot ag may T n c k D8:=rfl
          have UO:lI ag may T n c k=(decide (ag[k].1=(n:Int))&&!decide ((may k&&&AV T c)=0)):=by unfold lI;rw[qu ck]
          have hand:=JC (ZU k) hbc;have hfk:=rL (l:=ag) (may:=may) (T:=T) n c k;clear y1 y3 hr lU;generalize ag[k]=pd at*;obtain⟨hd,body⟩:=pd;dsimp only at*;generalize Y_:may k&&&AV T c=z at*;generalize dP ag may T n c k=fk at*;generalize ot ag may T n c k D8=ok at*
          repeat(first|refine GA ?_|refine gV (aH aT.eq ak.ty rfl rfl ck) ?_|refine gV (aK ak.ty rfl rfl (du _)) ?_)
          refine aF rfl fun g16=>?_
          try refine GA ?_
          refine fU 5 ?_;refine zL ?_
          try refine GA ?_
          refine dw ([ap g1 (cH (T:Int) (N:Int) (.slice (some ⟨b,off,none⟩) ag.length cp)).cells 33,dC 63 ed g7 ag.length may,ap g16 #[.int .i64 hd,.slice bb body.length cb] 109]) (.calm 0 (.calm 1 (.calm 2 (.calm 3 (.calm 4 (.calm 5 (.calm 6 (.calm 7 (.calm 8 (.calm 9 (.calm 10 (.calm 11 (.calm 12 (.calm 13 (.calm 14 (.calm 15 (.done))))))))))))))))) (bC [0,1,5]) ?_
          by_cases e1:hd=(n:Int)
          · by_cases e2:z=0
            · rw[decide_eq_true e1,decide_eq_true e2]at UO
              rw[UO]at hf ho;simp only[Bool.not_true,Bool.and_false,Bool.false_eq_true,if_false,ite_self]at hf ho
              repeat(first|refine GW ?_|(refine GN ?_;first|refine QW (J ak.ty rfl (ah (i:=2) rfl rfl)) ?_|refine QW (aO aT.eq ak.ty rfl rfl ck) ?_|refine QW (J ak.ty rfl (dQ (i:=1) rfl ck)) ?_|refine QW (aE (i:=0) ak.ty rfl rfl rfl) ?_))
              refine Ci rfl (fh aj.en rfl rfl rfl) (fun w hm=>Pa _) rfl rfl rfl rfl rfl ?_
              repeat(first|refine GW ?_|(refine GN ?_;first|refine QW (jn rfl rfl hand) ?_))
              try refine GA ?_
              refine bR [0,1,2,3,4] ?_;exact eZ (k+1,vo) (by show k+1<=ag.length;omega) (by show ag.length-(k+1)<ag.length-k;omega) (by dsimp only;rw[hf];repeat' (first|exact True.intro|refine And.intro rfl ?_)) (by dsimp only;rw[ho];rfl)
            · rw[decide_eq_true e1,decide_eq_false e2]at UO
              rw[UO]at hf ho;simp only[Bool.not_false,Bool.and_true,if_true]at hf ho
              repeat(first|refine GW ?_|(refine GN ?_;first|refine QW (J ak.ty rfl (ah (i:=2) rfl rfl)) ?_|refine QW (aO aT.eq ak.ty rfl rfl ck) ?_|refine QW (J ak.ty rfl (dQ (i:=1) rfl ck)) ?_|refine QW (aE (i:=0) ak.ty rfl rfl rfl) ?_))
              refine Ci rfl (fh aj.en rfl rfl rfl) (fun w hm=>Pa _) rfl rfl rfl rfl rfl ?_
              repeat(first|refine GW ?_|(refine GN ?_;first|refine QW (jn rfl rfl hand) ?_))
              by_cases e3:fk<0
              · rw[if_pos e3]at hf ho
                try refine GA ?_
                refine bR [0,1,2,3,4] ?_;exact eZ (k+1,vo) (by show k+1<=ag.length;omega) (by show ag.length-(k+1)<ag.length-k;omega) (by dsimp only;rw[hf];repeat' (first|exact True.intro|refine And.intro rfl ?_)) (by dsimp only;rw[ho];rfl)
              · rw[if_neg e3]at hf ho
                repeat(first|refine GA ?_|refine gV (aU rfl (Ny _ _ _ _)) ?_)
                refine jK (i:=4) rfl rfl rfl rfl rfl rfl rfl (fun z h=>by cases h;rfl) (by omega) (by omega) rfl fun z' v2=>?_;refine zL ?_
                try refine GA ?_
                refine bR [0,1,2,3,4] ?_;exact eZ (k+1,v2) (by show k+1<=ag.length;omega) (by show ag.length-(k+1)<ag.length-k;omega) (by dsimp only;rw[hf];repeat' (first|exact True.intro|refine And.intro rfl ?_)) (by dsimp only;rw[ho,List.flatMap_append,List.length_append];rfl)
          · rw[decide_eq_false e1]at UO
            rw[UO]at hf ho;simp only[Bool.false_and,Bool.false_eq_true,if_false,ite_self]at hf ho
            repeat(first|refine GW ?_|(refine GN ?_;first|refine QW (J ak.ty rfl (ah (i:=2) rfl rfl)) ?_))
            try refine GA ?_
            refine bR [0,1,2,3,4] ?_;exact eZ (k+1,vo) (by show k+1<=ag.length;omega) (by show ag.length-(k+1)<ag.length-k;omega) (by dsimp only;rw[hf];repeat' (first|exact True.intro|refine And.intro rfl ?_)) (by dsimp only;rw[ho];rfl)
        · obtain rfl:k=ag.length:=by omega
          rw[<-WA];have Vn:dP ag may T n c ag.length=ue.rowAt ag may T n c:=rfl;rw[Vn];clear WA ZX Vn;have hcn:jm ag may T vs n c n=aI 3 1 (vs n) c ((im c (ue.rowAt ag may T n)).map TO):=by
            unfold jm ul;rw[if_neg (Nat.lt_irrefl n),if_pos rfl]
          repeat(first|refine GA ?_|refine gV (aO aT.eq ak.ty rfl rfl c8) ?_|refine gV (J ak.ty rfl (dQ (i:=2) rfl c8)) ?_)
          refine Hk (q:=3) n rfl c8 ?_;rw[hcn];refine zL ?_;refine G5 [.int .i64 (ue.rowAt ag may T n c)] rfl rfl rfl (by intro v hv;simp at hv;subst hv;rfl) rfl rfl fun aaL=>?_;refine zL ?_;refine kC (i:=5) (q:=6) rfl rfl rfl rfl rfl rfl (by omega) (by omega) rfl fun v3=>?_;refine zL ?_;refine aB (i:=5) rfl fun kD lg=>?_
          repeat(first|refine GA ?_|refine gV (aO aT.eq ak.ty rfl rfl c8) ?_)
          refine eX (i:=2) (v:=v3) (fun j=>if j=n then v3 else vs j) ak.ty rfl rfl rfl kD lg c8 (fun j _=>rfl) ?_;refine zL ?_;refine LH (D':=fun j=>j<N) (f':=jm ag may T (fun j=>if j=n then v3 else vs j) n (c+1)) n 3 5 [0,1,2,4] (by decide) rfl rfl rfl (fun h=>h.2 rfl) (fun j hj=>by
            by_cases e:j=n
            · exact .inr e
            · exact .inl ⟨hj,e⟩) (fun j hj=>by
            by_cases e:j=n
            · subst e
              rw[sM];unfold jm ul;rw[if_neg (Nat.lt_irrefl j),if_pos rfl];dsimp only;rw[if_pos rfl]
              congr 1
              unfold im;rw[List.range_succ,List.map_append,List.map_append];rfl
            · rw[sL e]
              have:ul T n (c+1) j=ul T n c j:=by unfold ul;rw[if_neg e,if_neg e]
              unfold jm;rw[this];dsimp only;rw[if_neg e]) ?_
          refine zL ?_;refine Cj [0,1,2,4,3] ?_
          try refine GA ?_
          exact aY (c+1,fun j=>if j=n then v3 else vs j,vo) (by show c+1<=T+1;omega) (by show T+1-(c+1)<T+1-c;omega)
      · obtain rfl:c=T+1:=by omega
        have ZY:jm ag may T vs n (T+1)=jm ag may T vs (n+1) 0:=funext fun j=>by
          have:ul T n (T+1) j=ul T (n+1) 0 j:=by
            unfold ul
            by_cases e:j<n
            · rw[if_pos e,if_pos (by omega)]
            · rw[if_neg e]
              by_cases e2:j=n
              · rw[if_pos e2,if_pos (by omega)]
              · rw[if_neg e2,if_neg (by omega),ite_self]
          unfold jm;rw[this]
        try refine GA ?_
        exact aY (n+1,vs,vo) (by show n+1<=N;omega) (by show N-(n+1)<N-n;omega) (hl:=by rw[ZY];rfl)
    · obtain rfl:n=N:=by omega
      try refine GA ?_
      exact Sd rfl rfl rfl rfl fun w hm=>hm.meets (S:=Nz n T ag may) (g10,vs,vo) trivial [2,3,4] (by decide) rfl
end bH
namespace bH
open Go.RowKit bL db av dg b9 aX bT
def jb(x:aX.Act):List Value:=[.int .i64 x.1,.int .i64 x.2]
theorem o_(x:aX.Act):(jb x).length=2:=rfl
def dU(l:List av.Prod)(T:Nat)(nx:List Int)(t:Nat)(s:List aX.Item)(c:Nat):List aX.Act:=(if c<t/\0<=nx.getD c 0 then [(1,nx.getD c 0)]else [])++s.filterMap (oP l c)
theorem Ag{l:List av.Prod}{T:Nat}{nx:List Int}{s:List aX.Item}{c:Nat}:dU l T nx T s c=fB l T s nx c:=rfl
def j0(vs:Nat->Value)(A:Nat->List aX.Act)(j:Nat):bz:=aI 123 2 (vs j) (A j).length ((A j).flatMap jb)
def D9(T:Nat)(A:Nat->List aX.Act):Spec (Nat×(Nat->Value)):=⟨fun _=>True,fun x=> .slice (some ⟨x.1,0,none⟩) (T+1) (T+1),fun x=>[dC 120 o9 x.1 (T+1) x.2,ft (fun j=>j<T+1) (j0 x.2 A)]⟩
theorem Gu(n:Int)(w:World):(Instr.build 123 #[(0,.int .i64 1),(1,.int .i64 n)]).run Tryz.prog w= .ok (.agg (jb (1,n)).toArray) w:=by kernel_rfl
theorem Gv(n:Int)(w:World):(Instr.build 123 #[(0,.int .i64 2),(1,.int .i64 n)]).run Tryz.prog w= .ok (.agg (jb (2,n)).toArray) w:=by kernel_rfl
theorem Gw(w:World):(Instr.build 123 #[(0,.int .i64 3)]).run Tryz.prog w= .ok (.agg (jb (3,0)).toArray) w:=by kernel_rfl
theorem tf{l:List av.Prod}{T:Nat}{nx:List Int}{t:Nat}{s:List aX.Item}{c:Nat}:(dU l T nx t s c).length<=1+s.length:=by
 unfold dU;rw[List.length_append];have:=List.length_filterMap_le (oP l c) s;split
 ·rw[List.length_singleton];omega
 ·rw[List.length_nil];omega
theorem BK(v:Value)(g:df)(T:Nat)(BY:g.aJ=(T:Int))(hT:T<=30)(bS oS lS cS bN oN lN cN n:Nat)(jY XV:Value)(s:List aX.Item)(nx:List Int)(w:World)(hG:jf (fun k=>k<w.heap.size) w v g)(tF:g.ag.length<=40)(hnS:n<lS)(hcS:w.cell? ⟨bS,oS+n,none⟩=some jY)(uz:Sl w jY s.length (s.flatMap eY))(Qs:n<lN)(hcN:w.cell? ⟨bN,oN+n,none⟩=some XV)(hn1:Sl w XV nx.length (nx.map (Value.int .i64)))(hnl:T<=nx.length)(hr:∀it∈s,cL g.ag T it)(so:s.length<=20000)(_:n<=1000000):
    Calls Tryz.prog 34 #[v,.agg #[.slice (some ⟨bS,oS,none⟩) lS cS,.slice (some ⟨bN,oN,none⟩) lN cN],.int .i64 (n:Int)] w (bU (D9 T (fB g.ag T s nx)) w):=by
  obtain⟨vp,rfl,hp,-,-⟩:=hG;obtain⟨bp,cp,rfl,Hm,BU,lU⟩:=hp;obtain⟨bs,cs,rfl,-,S9,hrS⟩:=uz;obtain⟨bn,cn,rfl,-,hmN,hrN⟩:=hn1;unfold maxLen at S9 hmN;rw[BY];have ya:=Gu;have La:=Gv;have hb3:=Gw;refine enter (args:=[cH (T:Int) g.aR (.slice bp g.ag.length cp),.agg #[.slice (some ⟨bS,oS,none⟩) lS cS,.slice (some ⟨bN,oN,none⟩) lN cN],.int .i64 (n:Int)]) (n:=113) Tryz.func34 rfl rfl rfl ?_;refine bJ (aV (bK rfl rfl rfl fun g3=>?_));refine zL ?_;refine bK rfl rfl rfl fun g4=>?_;refine zL ?_
  repeat(first|refine GC ?_|refine gV (J (v:= .int .i64 (T:Int)) ak.ty rfl (ah (i:=0) rfl rfl)) ?_|refine gV (eK (r:=((T+1:Nat):Int)) rfl rfl (by omega) (by omega) (by omega)) ?_|refine GB ?_)
  refine kH (m:=T+1) o9 (.slice none 0 0) rfl rfl (by omega) (by omega) rfl fun g7=>?_;refine zL ?_
  repeat(first|refine GA ?_|refine gV (J (v:= .int .i64 (T:Int)) ak.ty rfl (ah (i:=0) rfl rfl)) ?_)
  refine ly (ft (fun j=>j<T+1) (j0 (fun _=> .slice none 0 0) (dU g.ag T nx 0 []))) (fun k hk=>hk.elim (fun h=>by cases h) fun⟨i,hi,h⟩=>h.elim (fun h=>by cases h) id) (fun w=>⟨fun i hi=>?_,fun i j _ _ _ k h=>h.elim (fun h=>by cases h) False.elim⟩) ?_
  · unfold j0 dU
    rw[if_neg (by omega)];exact World.ownsRow_nil _ _ _ _
  conv=>arg 7;simp only[zA,zB,zC,zD,zE,zF,zG,zH,zI,bW,ret,id_eq]
  refine cX (ι:=Nat×(Nat->Value)) (fun(t,_)=>t<=T) (fun(t,_)=>[(2,.int .i64 (n:Int)),(3,.pointer (some ⟨g3,0,none⟩)),(4,.pointer (some ⟨g4,0,none⟩)),(7,.slice (some ⟨g7,0,none⟩) (T+1) (T+1)),(17,.int .i64 (T:Int)),(18,.int .i64 (t:Int))])
    (fun(t,vs)=>[ap g3 (cH (T:Int) g.aR (.slice bp g.ag.length cp)).cells 33,ap g4 (Value.agg #[.slice (some ⟨bS,oS,none⟩) lS cS,.slice (some ⟨bN,oN,none⟩) lN cN]).cells 117,dC 120 o9 g7 (T+1) vs,ft (fun j=>j<T+1) (j0 vs (dU g.ag T nx t []))]) (fun(t,_)=>T-t) (0,fun _=> .slice none 0 0) (Nat.zero_le _) ?_
  rintro⟨t,vs⟩ i1;dsimp only at i1⊢
  by_cases c1:t<T
  · obtain⟨b,off,rfl,eV⟩:=hrN (by omega)
    have hny:(nx.map (Value.int .i64))[t]?=some (.int .i64 (nx.getD t 0)):=by
      rw[List.getElem?_map,List.getD_eq_getElem?_getD,List.getElem?_eq_getElem (by omega)];rfl
    have du:=fun(L:List bz)=>iD (W:=w) (L:=L) eV hny;have UY:t<nx.length:=by omega
    have Gx:∀j,j≠t->dU g.ag T nx (t+1) [] j=dU g.ag T nx t [] j:=fun j hj=>by
      unfold dU;have:(j<t+1/\0<=nx.getD j 0)↔(j<t/\0<=nx.getD j 0):=by constructor<;>(rintro⟨h1,h2⟩;exact⟨by omega,h2⟩)
      simp only[this]
    have tU:dU g.ag T nx (t+1) [] t=if 0<=nx.getD t 0 then [(1,nx.getD t 0)]else []:=by
      unfold dU
      by_cases c:0<=nx.getD t 0
      · rw[if_pos ⟨Nat.lt_succ_self t,c⟩,if_pos c];rfl
      · rw[if_neg (fun h=>c h.2),if_neg c];rfl
    have NB:dU g.ag T nx t [] t=[]:=by unfold dU;rw[if_neg (fun h=>Nat.lt_irrefl t h.1)];rfl
    generalize nx.getD t 0=y at*
    repeat(first|refine GA ?_|refine gV (J (v:= .slice (some ⟨bN,oN,none⟩) lN cN) ak.ty rfl (ah (i:=1) rfl rfl)) ?_|refine gV (aO aT.eq ak.ty rfl rfl Qs) ?_|refine gV (J (v:= .slice (some ⟨b,off,none⟩) nx.length cn) ak.ty rfl (iv hcN)) ?_|refine gV (aO aT.eq ak.ty rfl rfl UY) ?_|refine gV (J (v:= .int .i64 y) ak.ty rfl (du _)) ?_)
    by_cases c2:0<=y
    · rw[if_pos c2]at tU
      repeat(first|refine GC ?_|refine gV (fH (b:=true) rfl rfl (decide_eq_true c2)) ?_|refine gV (aO aT.eq ak.ty rfl rfl (show t<T+1 by omega)) ?_|refine gV (J ak.ty rfl (dQ (i:=2) rfl (show t<T+1 by omega))) ?_|refine gV (aU rfl (ya _)) ?_|refine GB ?_)
      refine Hk (q:=3) t rfl (show t<T+1 by omega) ?_;have XW:j0 vs (dU g.ag T nx t []) t=aI 123 2 (vs t) 0 []:=by unfold j0;rw[NB];rfl
      rw[XW];refine zL ?_;refine jK (i:=4) rfl rfl rfl rfl rfl rfl rfl (fun z h=>by cases h;rfl) (by omega) (by omega) rfl fun z v3=>?_;refine zL ?_
      repeat(first|refine GA ?_|refine gV (aO aT.eq ak.ty rfl rfl (show t<T+1 by omega)) ?_)
      refine aB (i:=4) rfl fun kD lg=>?_;refine eX (i:=2) (v:=v3) (fun j=>if j=t then v3 else vs j) ak.ty rfl rfl rfl kD lg (show t<T+1 by omega) (fun j _=>rfl) ?_;refine zL ?_;refine LH (D':=fun j=>j<T+1) (f':=j0 (fun j=>if j=t then v3 else vs j) (dU g.ag T nx (t+1) [])) t 3 4 [0,1,2] (by decide) rfl rfl rfl (fun h=>h.2 rfl) (fun j hj=>by
        by_cases e:j=t
        · exact .inr e
        · exact .inl ⟨hj,e⟩) (fun j hj=>by
        by_cases e:j=t
        · subst e
          rw[sM];unfold j0;dsimp only;rw[tU,if_pos rfl];rfl
        · rw[sL e]
          unfold j0;dsimp only;rw[Gx j e,if_neg e]) ?_
      refine zL ?_
      try refine GA ?_
      exact aY (t+1,fun j=>if j=t then v3 else vs j) (by show t+1<=T;omega) (by show T-(t+1)<T-t;omega)
    · rw[if_neg c2]at tU
      have n_:dU g.ag T nx (t+1) []=dU g.ag T nx t []:=funext fun j=>by
        by_cases e:j=t
        · subst e;rw[tU,NB]
        · exact Gx j e
      repeat(first|refine GC ?_|refine gV (fH (b:=false) rfl rfl (decide_eq_false c2)) ?_|refine GB ?_)
      exact aY (t+1,vs) (by show t+1<=T;omega) (by show T-(t+1)<T-t;omega) (hl:=by dsimp only;rw[n_])
  obtain rfl:t=T:=by omega
  repeat(first|refine GA ?_|refine gV (J (v:= .slice (some ⟨bS,oS,none⟩) lS cS) ak.ty rfl (ah (i:=1) rfl rfl)) ?_|refine gV (aO aT.eq ak.ty rfl rfl hnS) ?_|refine gV (J (v:= .slice bs s.length cs) ak.ty rfl (iv hcS)) ?_)
  refine cX (ι:=Nat×(Nat->Value)) (fun(k,_)=>k<=s.length) (fun(k,_)=>[(3,.pointer (some ⟨g3,0,none⟩)),(7,.slice (some ⟨g7,0,none⟩) (t+1) (t+1)),(47,.slice bs s.length cs),(48,.int .i64 (s.length:Int)),(49,.int .i64 (k:Int))])
    (fun(k,vs)=>[ap g3 (cH (t:Int) g.aR (.slice bp g.ag.length cp)).cells 33,ap g4 (Value.agg #[.slice (some ⟨bS,oS,none⟩) lS cS,.slice (some ⟨bN,oN,none⟩) lN cN]).cells 117,dC 120 o9 g7 (t+1) vs,ft (fun j=>j<t+1) (j0 vs (dU g.ag t nx t (s.take k)))]) (fun(k,_)=>s.length-k) (0,vs) (Nat.zero_le _) ?_
  rintro⟨k,vs⟩ j1;dsimp only at j1⊢;clear ya
  by_cases c2:k<s.length
  · obtain⟨b,off,rfl,eV⟩:=hrS (by omega)
    have du:=fun(L:List bz)=>fx (L:=L) ir eV c2;have Bm:∀(L:List bz) (j:Nat) (u:Value),(eY s[k])[j]?=some u->At (w:bB) L ⟨b,off+k*3+j,none⟩ u:=du;clear du eV hrS;have UF:=hr s[k] (List.getElem_mem c2);have Dw:s.take (k+1)=s.take k++[s[k]]:=List.take_succ_eq_append_getElem c2;have mb:∀c,dU g.ag t nx t (s.take (k+1)) c=dU g.ag t nx t (s.take k) c++(match oP g.ag c s[k]with|some x=>[x]|none=>[]):=fun c=>by
      rw[Dw];unfold dU;rw[List.filterMap_append,<-List.append_assoc]
      congr 1
      rw[List.filterMap_cons]
      cases oP g.ag c s[k]<;>rfl
    have hlen:∀c,(dU g.ag t nx t (s.take k) c).length<=20001:=fun c=>Nat.le_trans tf (by rw[List.length_take];omega);generalize hit:s[k]=it at*;obtain⟨p,d,lo⟩:=it;obtain⟨r1,r2,r3,r4,r5,r6⟩:=UF;dsimp only at r1 r2 r3 r4 r5 r6;obtain⟨pn,rfl⟩:=Int.eq_ofNat_of_zero_le r1;obtain⟨dn,rfl⟩:=Int.eq_ofNat_of_zero_le r3;obtain⟨ln,rfl⟩:=Int.eq_ofNat_of_zero_le r5;have zQ:ln<t+1:=by omega
    have Gx:∀j,j≠ln->dU g.ag t nx t (s.take (k+1)) j=dU g.ag t nx t (s.take k) j:=fun j hj=>by
      rw[mb j];have:oP g.ag j ((pn:Int),(dn:Int),(ln:Int))=none:=by
        unfold oP;rw[if_pos (by show(ln:Int)≠(j:Int);omega)]
      rw[this,List.append_nil]
    have kV:=mb ln;unfold oP at kV;rw[if_neg (by show ¬(ln:Int)≠(ln:Int);simp)]at kV;dsimp only at kV;clear mb Dw
    repeat(first|refine GA ?_|refine gV (aH aT.eq ak.ty rfl rfl c2) ?_|refine gV (aK (cs:=eY ((pn:Int),(dn:Int),(ln:Int))) ak.ty rfl rfl (Bm _)) ?_)
    refine aF rfl fun g11=>?_;refine zL ?_;refine fU 4 (cs':=(eY ((pn:Int),(dn:Int),(ln:Int))).toArray) ?_;refine zL ?_;have XW:j0 vs (dU g.ag t nx t (s.take k)) ln=aI 123 2 (vs ln) (dU g.ag t nx t (s.take k) ln).length ((dU g.ag t nx t (s.take k) ln).flatMap jb):=rfl;have Er:=hlen ln
    by_cases q1:pn=g.ag.length
    · subst q1
      by_cases q2:dn=1
      · subst q2
        have tU:dU g.ag t nx t (s.take (k+1)) ln=dU g.ag t nx t (s.take k) ln++[(3,0)]:=by
          rw[if_pos ⟨rfl,rfl⟩]at kV;exact kV
        repeat(first|refine GA ?_|refine gV (J (v:= .int .i64 (g.ag.length:Int)) ak.ty rfl (ah (i:=4) rfl rfl)) ?_|refine gV (J (v:= .slice bp g.ag.length cp) ak.ty rfl (ah (i:=0) rfl rfl)) ?_|refine gV (J (v:= .int .i64 1) ak.ty rfl (ah (i:=4) rfl rfl)) ?_)
        refine EY (q:=3) ln rfl zQ ?_;rw[XW]
        conv=>arg 7;simp only[zA,zB,zC,zD,zE,zF,zG,zH,zI,bW,ret,id_eq]
        refine dw ([ap g11 (eY ((g.ag.length:Int),1,(ln:Int))).toArray 169]) (.calm 0 (.calm 1 (.calm 2 (.calm 3 (.calm 4 (.calm 5 (.calm 6 (.calm 8 (.two 7 (.one 9 (.one 10 (.calm 11 (.one 12 (.done))))) 9 (.one 7 (.one 10 (.calm 11 (.one 12 (.done)))))))))))))) (bC [4]) ?_
        repeat(first|refine GW ?_|(refine GN ?_;first|refine QW (J (v:= .int .i64 (ln:Int)) ak.ty rfl (ah (i:=0) rfl rfl)) ?_|refine QW (aO aT.eq ak.ty rfl rfl zQ) ?_|refine QW (aU rfl hb3) ?_))
        refine dG rfl rfl ?WB ?WC
        case' WB=>
          refine cI (J ak.ty rfl (dQ (i:=2) rfl zQ)) rfl rfl rfl (aw (bC [4]) ?_);refine az rfl (fj (cs:=(jb (3,0)).toArray) rfl rfl rfl rfl rfl fun ZZ=>aw (bC [4]) ?_)
        case' WC=>
          refine fj (cs:=(jb (3,0)).toArray) rfl rfl rfl rfl rfl fun ZZ=>aw (bC [4]) ?_;refine az rfl (cI (J ak.ty rfl (dQ (i:=2) rfl zQ)) rfl rfl rfl (aw (bC [4]) ?_))
        all_goals
          refine az rfl (mI (i:=5) (q:=6) rfl rfl rfl rfl rfl rfl (by omega) (by omega) rfl fun v3=>aw (bC [4]) ?_)
          repeat(first|refine GW ?_|(refine GN ?_;first|refine QW (aO aT.eq ak.ty rfl rfl zQ) ?_))
          refine az rfl (aB (i:=5) rfl fun kD lg=>eX (i:=2) (v:=v3) (fun j=>if j=ln then v3 else vs j) ak.ty rfl rfl rfl kD lg zQ (fun j _=>rfl) (aw (bC [4]) ?_))
          try refine GW ?_
          refine Hl (D':=fun j=>j<t+1) (f':=j0 (fun j=>if j=ln then v3 else vs j) (dU g.ag t nx t (s.take (k+1)))) ln 3 5 [0,1,2] (by decide) rfl rfl rfl (fun h=>h.2 rfl) (fun j hj=>by
            by_cases e:j=ln
            · exact .inr e
            · exact .inl ⟨hj,e⟩) (fun j hj=>by
            by_cases e:j=ln
            · subst e
              rw[sM];unfold j0;dsimp only;rw[tU,if_pos rfl,List.length_append,List.flatMap_append];rfl
            · rw[sL e]
              unfold j0;dsimp only;rw[Gx j e,if_neg e]) ?_
          try refine GA ?_
          exact aY (k+1,fun j=>if j=ln then v3 else vs j) (by show k+1<=s.length;omega) (by show s.length-(k+1)<s.length-k;omega)
      · have n_:dU g.ag t nx t (s.take (k+1))=dU g.ag t nx t (s.take k):=funext fun j=>by
          by_cases e:j=ln
          · subst e
            rw[if_neg (fun h=>q2 (by have:=h.2;omega)),if_neg (fun h=>by have:=h.1;omega)]at kV;rw[kV];exact List.append_nil _
          · exact Gx j e
        repeat(first|refine GA ?_|refine gV (J (v:= .int .i64 (g.ag.length:Int)) ak.ty rfl (ah (i:=4) rfl rfl)) ?_|refine gV (J (v:= .slice bp g.ag.length cp) ak.ty rfl (ah (i:=0) rfl rfl)) ?_|refine gV (J (v:= .int .i64 (dn:Int)) ak.ty rfl (ah (i:=4) rfl rfl)) ?_)
        refine dw ([ap g3 (cH (t:Int) g.aR (.slice bp g.ag.length cp)).cells 33,ap g11 (eY ((g.ag.length:Int),(dn:Int),(ln:Int))).toArray 169]) (.calm 0 (.calm 1 (.calm 2 (.calm 3 (.calm 4 (.calm 5 (.calm 6 (.calm 7 (.calm 8 (.calm 9 (.calm 10 (.calm 11 (.calm 12 (.calm 13 (.calm 14 (.calm 15 (.calm 16 (.calm 17 (.calm 18 (.calm 19 (.done))))))))))))))))))))) (bC [0,4]) ?_
        repeat(first|refine GW ?_|(refine GN ?_;first|refine QW (J (v:= .int .i64 (g.ag.length:Int)) ak.ty rfl (ah (i:=1) rfl rfl)) ?_|refine QW (J (v:= .slice bp g.ag.length cp) ak.ty rfl (ah (i:=0) rfl rfl)) ?_))
        try refine GA ?_
        refine bR [0,1,2,3] ?_;exact aY (k+1,vs) (by show k+1<=s.length;omega) (by show s.length-(k+1)<s.length-k;omega) (hl:=by dsimp only;rw[n_];rfl)
    · have XX:pn<g.ag.length:=by omega
      obtain⟨pb,po,rfl,hFb,XN⟩:=lU (by omega);obtain⟨bb,cb,Z0,hq2,Yu⟩:=jF XN XX;have hpg:g.ag[pn]=aQ g.ag (pn:Int):=by
        unfold aQ;rw[Int.toNat_natCast,List.getD_eq_getElem?_getD,List.getElem?_eq_getElem XX];rfl
      rw[hpg]at Z0 hq2 Yu;have WD:∀(L:List bz) (j:Nat) (v:Value),([.int .i64 (aQ g.ag (pn:Int)).1,.slice bb (aQ g.ag (pn:Int)).2.length cb]:List Value)[j]?=some v->At w L ⟨pb,po+pn*2+j,none⟩ v:=fun L j v hj=>iD Z0 hj;clear XN lU Z0 Yu
      by_cases q2:dn=(aQ g.ag (pn:Int)).2.length
      · subst q2
        have tU:dU g.ag t nx t (s.take (k+1)) ln=dU g.ag t nx t (s.take k) ln++[(2,(pn:Int))]:=by
          rw[if_neg (fun h=>q1 (by have:=h.1;omega)),if_pos ⟨by omega,rfl⟩]at kV;exact kV
        repeat(first|refine GA ?_|refine gV (J (v:= .int .i64 (pn:Int)) ak.ty rfl (ah (i:=4) rfl rfl)) ?_|refine gV (J (v:= .slice (some ⟨pb,po,none⟩) g.ag.length cp) ak.ty rfl (ah (i:=0) rfl rfl)) ?_)
        refine dw ([ap g3 (cH (t:Int) g.aR (.slice (some ⟨pb,po,none⟩) g.ag.length cp)).cells 33,ap g11 (eY ((pn:Int),((aQ g.ag (pn:Int)).2.length:Int),(ln:Int))).toArray 169]) (.calm 0 (.calm 1 (.calm 2 (.calm 3 (.calm 4 (.calm 5 (.calm 6 (.calm 7 (.calm 8 (.calm 9 (.calm 10 (.calm 11 (.calm 12 (.calm 13 (.calm 14 (.calm 15 (.calm 16 (.calm 17 (.calm 18 (.calm 19 (.done))))))))))))))))))))) (bC [0,4]) ?_
        repeat(first|refine GW ?_|(refine GN ?_;first|refine QW (J (v:= .int .i64 (pn:Int)) ak.ty rfl (ah (i:=1) rfl rfl)) ?_|refine QW (J (v:= .int .i64 ((aQ g.ag (pn:Int)).2.length:Int)) ak.ty rfl (ah (i:=1) rfl rfl)) ?_|refine QW (J (v:= .slice (some ⟨pb,po,none⟩) g.ag.length cp) ak.ty rfl (ah (i:=0) rfl rfl)) ?_|refine QW (aH aT.eq ak.ty rfl rfl XX) ?_|refine QW (J (v:= .slice bb (aQ g.ag (pn:Int)).2.length cb) ak.ty rfl (WD _ 1 _ rfl)) ?_))
        try refine GA ?_
        refine EY (q:=3) ln rfl zQ ?_;rw[XW]
        conv=>arg 7;simp only[zA,zB,zC,zD,zE,zF,zG,zH,zI,bW,ret,id_eq]
        refine dw ([ap g11 (eY ((pn:Int),((aQ g.ag (pn:Int)).2.length:Int),(ln:Int))).toArray 169]) (.calm 0 (.calm 1 (.calm 2 (.calm 3 (.calm 4 (.calm 5 (.calm 6 (.calm 8 (.calm 9 (.calm 10 (.two 7 (.one 11 (.one 12 (.calm 13 (.one 14 (.done))))) 11 (.one 7 (.one 12 (.calm 13 (.one 14 (.done)))))))))))))))) (bC [4]) ?_
        repeat(first|refine GW ?_|(refine GN ?_;first|refine QW (J (v:= .int .i64 (ln:Int)) ak.ty rfl (ah (i:=0) rfl rfl)) ?_|refine QW (J (v:= .int .i64 (pn:Int)) ak.ty rfl (ah (i:=0) rfl rfl)) ?_|refine QW (aO aT.eq ak.ty rfl rfl zQ) ?_|refine QW (aU rfl (La _)) ?_))
        refine dG rfl rfl ?WE ?WG
        case' WE=>
          refine cI (J ak.ty rfl (dQ (i:=2) rfl zQ)) rfl rfl rfl (aw (bC [4]) ?_);refine az rfl (fj (cs:=(jb (2,(pn:Int))).toArray) rfl rfl rfl rfl rfl fun ZZ=>aw (bC [4]) ?_)
        case' WG=>
          refine fj (cs:=(jb (2,(pn:Int))).toArray) rfl rfl rfl rfl rfl fun ZZ=>aw (bC [4]) ?_;refine az rfl (cI (J ak.ty rfl (dQ (i:=2) rfl zQ)) rfl rfl rfl (aw (bC [4]) ?_))
        all_goals
          refine az rfl (mI (i:=5) (q:=6) rfl rfl rfl rfl rfl rfl (by omega) (by omega) rfl fun v3=>aw (bC [4]) ?_)
          repeat(first|refine GW ?_|(refine GN ?_;first|refine QW (aO aT.eq ak.ty rfl rfl zQ) ?_))
          refine az rfl (aB (i:=5) rfl fun kD lg=>eX (i:=2) (v:=v3) (fun j=>if j=ln then v3 else vs j) ak.ty rfl rfl rfl kD lg zQ (fun j _=>rfl) (aw (bC [4]) ?_))
          try refine GW ?_
          refine Hl (D':=fun j=>j<t+1) (f':=j0 (fun j=>if j=ln then v3 else vs j) (dU g.ag t nx t (s.take (k+1)))) ln 3 5 [0,1,2] (by decide) rfl rfl rfl (fun h=>h.2 rfl) (fun j hj=>by
            by_cases e:j=ln
            · exact .inr e
            · exact .inl ⟨hj,e⟩) (fun j hj=>by
            by_cases e:j=ln
            · subst e
              rw[sM];unfold j0;dsimp only;rw[tU,if_pos rfl,List.length_append,List.flatMap_append];rfl
            · rw[sL e]
              unfold j0;dsimp only;rw[Gx j e,if_neg e]) ?_
          try refine GA ?_
          exact aY (k+1,fun j=>if j=ln then v3 else vs j) (by show k+1<=s.length;omega) (by show s.length-(k+1)<s.length-k;omega)
      · have n_:dU g.ag t nx t (s.take (k+1))=dU g.ag t nx t (s.take k):=funext fun j=>by
          by_cases e:j=ln
          · subst e
            rw[if_neg (fun h=>q1 (by have:=h.1;omega)),if_neg (fun h=>q2 (by have:=h.2;omega))]at kV;rw[kV];exact List.append_nil _
          · exact Gx j e
        repeat(first|refine GA ?_|refine gV (J (v:= .int .i64 (pn:Int)) ak.ty rfl (ah (i:=4) rfl rfl)) ?_|refine gV (J (v:= .slice (some ⟨pb,po,none⟩) g.ag.length cp) ak.ty rfl (ah (i:=0) rfl rfl)) ?_)
        refine dw ([ap g3 (cH (t:Int) g.aR (.slice (some ⟨pb,po,none⟩) g.ag.length cp)).cells 33,ap g11 (eY ((pn:Int),(dn:Int),(ln:Int))).toArray 169]) (.calm 0 (.calm 1 (.calm 2 (.calm 3 (.calm 4 (.calm 5 (.calm 6 (.calm 7 (.calm 8 (.calm 9 (.calm 10 (.calm 11 (.calm 12 (.calm 13 (.calm 14 (.calm 15 (.calm 16 (.calm 17 (.calm 18 (.calm 19 (.done))))))))))))))))))))) (bC [0,4]) ?_
        repeat(first|refine GW ?_|(refine GN ?_;first|refine QW (J (v:= .int .i64 (pn:Int)) ak.ty rfl (ah (i:=1) rfl rfl)) ?_|refine QW (J (v:= .int .i64 (dn:Int)) ak.ty rfl (ah (i:=1) rfl rfl)) ?_|refine QW (J (v:= .slice (some ⟨pb,po,none⟩) g.ag.length cp) ak.ty rfl (ah (i:=0) rfl rfl)) ?_|refine QW (aH aT.eq ak.ty rfl rfl XX) ?_|refine QW (J (v:= .slice bb (aQ g.ag (pn:Int)).2.length cb) ak.ty rfl (WD _ 1 _ rfl)) ?_))
        try refine GA ?_
        refine bR [0,1,2,3] ?_;exact aY (k+1,vs) (by show k+1<=s.length;omega) (by show s.length-(k+1)<s.length-k;omega) (hl:=by dsimp only;rw[n_];rfl)
  · obtain rfl:k=s.length:=by omega
    rw[List.take_length]
    try refine GA ?_
    exact b_ rfl rfl fun w hm=>hm.meets (S:=D9 t (fB g.ag t s nx)) (g7,vs) trivial [2,3] (by decide) rfl
end bH
namespace bH
open Go.RowKit bL db av dg b9 aX bT
section
variable{P:Program}{n:Nat}{W:bB}{fr:Fr}{L:List bz}{Q:Exit->Act->World->Prop}{ops:Array Oper}{rest:List Oper}{d:Nat}{ty:TypeId}{pos:String}{after:Array Edge}
theorem D_{α:Type}{f:α->List Value}{c:Nat}(hc:∀a,(f a).length=c)(h0:0<c)(z:α){t e:TypeId}{x y:Operand}{bytes m:Nat}{k k':IntKind}{zs:Array Value}[nS P t e c bytes][aW P e zs](hz:zs.toList=f z)(hx:ev fr x=some (.int k (m:Int)))(hy:ev fr y=some (.int k' (m:Int)))(hb:bytes*m<=281474976710656)(pF:m<=9223372036854775807)(hn:Nat.blt d n=true)
 (h:∀g,TL P n W ops Q rest ((d,.slice (some ⟨g,0,none⟩) m m)::fr) (L++[aI e c (.slice (some ⟨g,0,none⟩) m m) m ((List.replicate m z).flatMap f)])):TL P n W ops Q (⟨some d,.makeSlice t x y,ty,pos,after,none⟩::rest) fr L:=by
 refine nX hx hy (Nat.le_refl _) hb pF hn fun g=>yO (i:=L.length) c (List.getElem?_concat_length ..) (by rw[size_madeCells]) (Nat.le_refl _) pF ?_;have hsz:zs.size=c:=by rw[<-Array.length_toList,hz,hc]
 have hl:(madeCells zs (m*c)).toList.take (m*c)=(List.replicate m z).flatMap f:=by
  rw[Q6 hsz h0,List.take_of_length_le (by simp[hz,hc]),hz,List.flatMap_def,List.map_replicate]
 rw[hl];have:=h g
 rwa [List.set_append_right _ _ (Nat.le_refl _),Nat.sub_self,List.set_cons_zero]
end
abbrev Ky:=Int×Int×aX.Act×aX.Act
def Ea(x:Ky):List Value:=[.int .i64 x.1,.int .i64 x.2.1,.int .i64 x.2.2.1.1,.int .i64 x.2.2.1.2,.int .i64 x.2.2.2.1,.int .i64 x.2.2.2.2]
def qO:qQ aX.Act:=ra jb 2 (fun _=>rfl) (fun _=>True)
section
variable(l:List av.Prod)(T:Nat)(Nx:List (List Int))(S:List (List aX.Item))
abbrev xI(q c:Nat):List aX.Act:=fB l T (S.getD q []) (Nx.getD q []) c
def pC(q c:Nat):List Ky:=(xI l T Nx S q c).tail.map fun x=>((q:Int),(c:Int),(xI l T Nx S q c).headD (0,0),x)
def eQ(q:Nat):Nat->List Ky
 |0=>[]
 |c+1=>eQ q c++pC l T Nx S q c
def eR:Nat->List Ky
 |0=>[]
 |q+1=>eR q++eQ l T Nx S q (T+1)
def ey(q c:Nat):List aX.Act:=(List.range (T+1)).map fun j=>if j<c then gC l T Nx S q j else(0,0)
def eE(n:Nat):List (List aX.Act):=(List.range n).map fun q=>ey l T Nx S q (T+1)
def dJ(n:Nat):List (List Int):=(List.range n).map fun q=>(Nx.getD q []).drop T
end
def ff(g:df):List (List aX.Act)×List (List Int)×List Ky×Int:=if(fC g).2.2≠0 then([],[],[],(fC g).2.2)else(eE g.ag g.aJ.toNat (fC g).1 (fC g).2.1 (fC g).2.1.length,dJ g.aJ.toNat (fC g).1 (fC g).2.1.length,eR g.ag g.aJ.toNat (fC g).1 (fC g).2.1 (fC g).2.1.length,0)
structure Gy where
 vA:Value
 pO:List Value
 FA:Nat->Prop
 vG:Value
 pP:List Value
 FG:Nat->Prop
def Kh(x:Gy)(A:List (List aX.Act))(G:List (List Int)):List bz:=[aI 120 1 x.vA A.length x.pO,cY (a8 qO) x.FA (x.pO.map fun v=>[v]) A,aI 26 1 x.vG G.length x.pP,cY (a8 eI) x.FG (x.pP.map fun v=>[v]) G]
def Gz(g:df):Spec (Gy×Value):=⟨fun _=>True,fun x=> .tuple #[.agg #[x.1.vA,x.1.vG],x.2,.int .i64 (ff g).2.2.2],fun x=>Kh x.1 (ff g).1 (ff g).2.1++[aI 125 6 x.2 (ff g).2.2.1.length ((ff g).2.2.1.flatMap Ea)]⟩
theorem GD(w:World):(Instr.build 36 (#[]:Array (Nat×Value))).run Tryz.prog w= .ok (.agg #[.slice none 0 0,.slice none 0 0]) w:=by kernel_rfl
theorem Ki(q c:Int)(a b:aX.Act)(w:World):(Instr.build 125 #[(0,.int .i64 q),(1,.int .i64 c),(2,.agg (jb a).toArray),(3,.agg (jb b).toArray)]).run Tryz.prog w= .ok (.agg (Ea (q,c,a,b)).toArray) w:=by kernel_rfl
theorem GF{w:World}{v:Value}{l:List aX.Act}(h:(aI 123 2 v l.length (l.flatMap jb)).holds w):(a8 qO).is (fun k=>v.ownBlock=some k) w [v] l:=
 ⟨v,rfl,gI.of_flat (Sl.cD h) (fun _ _=>trivial) (fun _ h=>h) (fun a n cp hv=>by rw[hv];rfl)⟩
theorem k8{l:List av.Prod}{T:Nat}{Nx:List (List Int)}{S:List (List aX.Item)}{q c:Nat}:(ey l T Nx S q c).length=T+1:=by unfold ey;rw[List.length_map,List.length_range]
theorem NC{l:List av.Prod}{T:Nat}{Nx:List (List Int)}{S:List (List aX.Item)}{q:Nat}:ey l T Nx S q 0=List.replicate (T+1) (0,0):=by
 unfold ey;apply List.ext_getElem?;intro j
 by_cases h:j<T+1
 ·simp[h]
 ·simp[h]
theorem GG{l:List av.Prod}{T:Nat}{Nx:List (List Int)}{S:List (List aX.Item)}{q c:Nat}(hc:c<T+1):(ey l T Nx S q c).set c (gC l T Nx S q c)=ey l T Nx S q (c+1):=by
 unfold ey;apply List.ext_getElem?;intro j;rw[List.getElem?_set]
 by_cases h:j<T+1
 ·by_cases e:c=j
  ·subst e;simp[h]
  ·rw[if_neg e]
   simp only[List.getElem?_map,List.getElem?_range h,Option.map_some]
   by_cases e2:j<c
   ·rw[if_pos e2,if_pos (by omega)]
   ·rw[if_neg e2,if_neg (by omega)]
 ·have h1:(List.range (T+1))[j]?=none:=List.getElem?_eq_none (by rw[List.length_range];omega)
  simp only[List.getElem?_map,h1,Option.map_none];split
  ·rename_i e;subst e;exact absurd hc h
  ·rfl
theorem Eb{l:List av.Prod}{T:Nat}{Nx:List (List Int)}{S:List (List aX.Item)}{q c:Nat}(h:xI l T Nx S q c=[]):ey l T Nx S q (c+1)=ey l T Nx S q c:=by
 unfold ey;apply List.map_congr_left;intro j hj
 by_cases e:j=c
 ·subst e
  rw[if_pos (Nat.lt_succ_self _),if_neg (Nat.lt_irrefl _)];unfold gC;rw[show fB l T (S.getD q []) (Nx.getD q []) j=[]from h];rfl
 ·by_cases e2:j<c
  ·rw[if_pos e2,if_pos (by omega)]
  ·rw[if_neg e2,if_neg (by omega)]
theorem xJ{l:List av.Prod}{T:Nat}{Nx:List (List Int)}{S:List (List aX.Item)}{q:Nat}{M:Nat}(h:(S.getD q []).length<=M):∀c,(eQ l T Nx S q c).length<=c*(M+1)
  |0=>Nat.zero_le _
  | c +1=>by
    rw[eQ,List.length_append,Nat.succ_mul];have h2:(pC l T Nx S q c).length<=M+1:=by
      unfold pC;rw[List.length_map,List.length_tail];have:(xI l T Nx S q c).length<=1+(S.getD q []).length:=by rw[xI,<-Ag];exact tf
      omega
    have:=xJ (l:=l) (T:=T) (Nx:=Nx) h c;omega
theorem tV{l:List av.Prod}{T:Nat}{Nx:List (List Int)}{S:List (List aX.Item)}{M:Nat}(h:∀q,(S.getD q []).length<=M):∀q,(eR l T Nx S q).length<=q*((T+1)*(M+1))
 |0=>Nat.zero_le _
 |q+1=>by
  rw[eR,List.length_append,Nat.succ_mul];have:=tV (l:=l) (T:=T) (Nx:=Nx) h q;have:=xJ (l:=l) (T:=T) (Nx:=Nx) (h q) (T+1);omega
theorem si{l:List av.Prod}{T:Nat}{Nx:List (List Int)}{S:List (List aX.Item)}{q c:Nat}:∀{d:Nat},c<=d->(eQ l T Nx S q c).length<=(eQ l T Nx S q d).length
  | 0, h => by obtain rfl:c=0:=by omega
               exact Nat.le_refl _
  | d +1,h=>by
    by_cases e:c=d+1
    · subst e;exact Nat.le_refl _
    · rw[eQ,List.length_append]
      have:=si (l:=l) (T:=T) (Nx:=Nx) (S:=S) (q:=q) (c:=c) (d:=d) (by omega);omega
theorem Ec{l:List av.Prod}{T:Nat}{Nx:List (List Int)}{S:List (List aX.Item)}(n:Nat):eE l T Nx S (n+1)=eE l T Nx S n++[ey l T Nx S n (T+1)]:=by unfold eE;rw[List.range_succ,List.map_append];rfl
theorem BL{T:Nat}{Nx:List (List Int)}(n:Nat):dJ T Nx (n+1)=dJ T Nx n++[(Nx.getD n []).drop T]:=by unfold dJ;rw[List.range_succ,List.map_append];rfl
theorem fq{l:List av.Prod}{T:Nat}{Nx:List (List Int)}{S:List (List aX.Item)}(n:Nat):(eE l T Nx S n).length=n:=by unfold eE;rw[List.length_map,List.length_range]
theorem iM{T:Nat}{Nx:List (List Int)}(n:Nat):(dJ T Nx n).length=n:=by unfold dJ;rw[List.length_map,List.length_range]
theorem BM(v:Value)(g:df)(w:World)(hG:jf (fun k=>k<w.heap.size) w v g):
    Calls Tryz.prog 13 #[v] w (bU (Gz g) w):=by
  have Zs:=hG;have XA:=fun w' (hg:Gr w w')=>J3 v g w' (hG.gr hg);have WH:=fun T BY hT bS oS lS cS bN oN lN cN n jY XV s nx w' (hg:Gr w w')=>BK v g T BY hT bS oS lS cS bN oN lN cN n jY XV s nx w' (hG.gr hg);obtain⟨vp,rfl,-⟩:=hG;have uv:=GD;have hO:ff g=if(fC g).2.2≠0 then([],[],[],(fC g).2.2)else(eE g.ag g.aJ.toNat (fC g).1 (fC g).2.1 (fC g).2.1.length,dJ g.aJ.toNat (fC g).1 (fC g).2.1.length,eR g.ag g.aJ.toNat (fC g).1 (fC g).2.1 (fC g).2.1.length,0):=rfl
  unfold Gz Kh;refine enter (args:=[cH g.aJ g.aR vp]) (n:=92) Tryz.func13 rfl rfl rfl ?_;refine bJ (aV (bK rfl rfl rfl fun g1=>?_));refine zL ?_
  try refine GA ?_
  refine aF rfl fun g2=>?_;refine zL ?_
  repeat(first|refine GA ?_|refine gV (aE (i:=0) ak.ty rfl rfl rfl) ?_)
  refine aM (iT aj.en rfl rfl) (fun w hm=>XA w hm.below) rfl rfl rfl ?_;rintro⟨vS,vN,pz,F,tR,FN⟩ _
  conv=>arg 8;simp only[zJ,bW,ret,id_eq,P8]
  conv=>arg 7;simp only[P8]
  have jU:=H7 (g:=g);have hno:=Qb (g:=g);obtain⟨⟨Nx,S,e⟩,Z1⟩:∃R,fC g=R:=⟨_,rfl⟩;rw[Z1]at jU hno hO;rw[Z1];dsimp only at jU hno hO⊢;refine lz (i:=2) rfl dR fun dW=>?_;obtain⟨aS,cS,rfl,-,Zv⟩:=dW;refine lz (i:=4) rfl dR fun dW=>?_;obtain⟨aN,cN,rfl,-,haN⟩:=dW;clear Z1 XA
  try refine GA ?_
  refine aF rfl fun g5=>?_;refine zL ?_;refine fU 6 (cs':=#[.slice aS S.length cS,.slice aN Nx.length cN]) ?_;refine zL ?_
  try refine GA ?_
  by_cases c0:e=0
  · subst c0
    rw[if_neg (by simp)]at hO;obtain⟨hg,hA⟩:=jU rfl;obtain⟨Zt,Zu,N_,Uq,tF,Wc⟩:=bI hg;have BZ:∀q∈g.ag,q.2.length<=8:=fun q hq=>(Wc q hq).1;obtain⟨T,BY⟩:∃T:Nat,g.aJ=(T:Int):=⟨g.aJ.toNat,by omega⟩;obtain⟨N,XO⟩:∃N:Nat,g.aR=(N:Int):=⟨g.aR.toNat,by omega⟩;have hTn:g.aJ.toNat=T:=by omega
    rw[hTn,show g.aR.toNat=N by omega]at hA;rw[hTn]at hO;have hT:T<=30:=by omega
    have hI:=Dq BZ tF hT hA;have yo:=Qa BZ tF hT hA;have XY:0<S.length:=(List.getElem?_eq_some_iff.1 hI.start).1;have hS2:=hI.xU;have hNl:=hI.len;have WH:=WH T BY hT;obtain⟨gS,rfl⟩:=Zv XY;obtain⟨gN,rfl⟩:=haN (by omega);clear jU hno Zv haN;rw[BY,hO];rw[BY]at WH
    try refine GA ?_
    refine aF rfl fun g7=>?_;refine zL ?_
    repeat(first|refine GA ?_|refine gV (J (v:= .slice (some ⟨gS,0,none⟩) S.length cS) ak.ty rfl (ah (i:=6) rfl rfl)) ?_)
    refine h_ 120 1 (ly (cY (a8 qO) (fun _=>False) [] []) (fun k hk=>hk.elim (fun h=>by cases h) id) (fun w=>gZ) (h_ 26 1 (ly (cY (a8 eI) (fun _=>False) [] []) (fun k hk=>hk.elim (fun h=>by cases h) id) (fun w=>gZ) (h_ 125 6 ?_))))
    conv=>arg 7;simp only[zA,zB,zC,zD,zE,zF,zG,zH,zI,bW,ret,id_eq]
    refine cX (ι:=Nat×Gy×Value) (fun(n,_,_)=>n<=S.length) (fun(n,_,vf)=>[(1,.pointer (some ⟨g1,0,none⟩)),(2,.pointer (some ⟨g2,0,none⟩)),(5,.pointer (some ⟨g5,0,none⟩)),(7,.pointer (some ⟨g7,0,none⟩)),(8,vf),(26,.int .i64 (S.length:Int)),(27,.int .i64 (n:Int))])
      (fun(n,x,vf)=>[ap g1 (cH (T:Int) g.aR vp).cells 33,ap g2 #[.slice none 0 0,.slice none 0 0] 36,aI 164 1 (.slice (some ⟨gS,0,none⟩) S.length cS) S.length pz,cY (a8 Bn) F (pz.map fun v=>[v]) S,aI 26 1 (.slice (some ⟨gN,0,none⟩) Nx.length cN) Nx.length tR,cY (a8 eI) FN (tR.map fun v=>[v]) Nx,ap g5 #[.slice (some ⟨gS,0,none⟩) S.length cS,.slice (some ⟨gN,0,none⟩) Nx.length cN] 117,ap g7 #[x.vA,x.vG] 36,aI 120 1 x.vA (eE g.ag T Nx S n).length x.pO,cY (a8 qO) x.FA (x.pO.map fun v=>[v]) (eE g.ag T Nx S n),aI 26 1 x.vG (dJ T Nx n).length x.pP,cY (a8 eI) x.FG (x.pP.map fun v=>[v]) (dJ T Nx n),aI 125 6 vf (eR g.ag T Nx S n).length ((eR g.ag T Nx S n).flatMap Ea)]) (fun(n,_,_)=>S.length-n) (0,⟨.slice none 0 0,[],fun _=>False,.slice none 0 0,[],fun _=>False⟩,.slice none 0 0) (Nat.zero_le _) ?_
    rintro⟨n,x,vf⟩ i1;dsimp only at i1⊢
    by_cases c1:n<S.length
    · have Qs:n<Nx.length:=by omega
      have hSn:S.getD n []=S[n]:=by rw[List.getD_eq_getElem?_getD,List.getElem?_eq_getElem c1];rfl
      have TP:Nx.getD n []=Nx[n]:=by rw[List.getD_eq_getElem?_getD,List.getElem?_eq_getElem Qs];rfl
      have P9:=hI.ss.right S[n] (List.getElem_mem c1);have hwd:=hI.wide n c1;rw[TP]at hwd;have so:=yo S[n] (List.getElem_mem c1);refine eN (i:=3) rfl (fun w h=>zY h) fun Oc=>?_;refine eN (i:=5) rfl (fun w h=>zY h) fun hnl=>?_;have hvq:pz[0+n]?=some (pz[n]'(by omega)):=by rw[Nat.zero_add];exact List.getElem?_eq_getElem _
      have WI:pz[n]?=some (pz[n]'(by omega)):=List.getElem?_eq_getElem _;generalize pz[n]'(by omega)=vq at hvq WI;have Z2:tR[0+n]?=some (tR[n]'(by omega)):=by rw[Nat.zero_add];exact List.getElem?_eq_getElem _
      have ND:tR[n]?=some (tR[n]'(by omega)):=List.getElem?_eq_getElem _;generalize tR[n]'(by omega)=nq at Z2 ND;refine eN (i:=5) rfl (fun w h=>And.intro (MU h Qs ND) (gI.Yk (F7 h Qs ND))) fun WJ=>?_;obtain⟨⟨aq,cq,rfl,hcq,aaM,-⟩,Z3⟩:=WJ;have uI:(eR g.ag T Nx S n++eQ g.ag T Nx S n (T+1)).length<=100000000:=by
        have h1:=tV (l:=g.ag) (T:=T) (Nx:=Nx) (S:=S) (M:=11439) (fun q=>by
          by_cases hq:q<S.length
          · rw[List.getD_eq_getElem?_getD,List.getElem?_eq_getElem hq];exact yo _ (List.getElem_mem hq)
          · rw[List.getD_eq_getElem?_getD,List.getElem?_eq_none (by omega)];exact Nat.zero_le _) (n+1)
        rw[eR]at h1;exact Nat.le_trans h1 (Nat.le_trans (Nat.mul_le_mul (show n+1<=200 by omega) (Nat.mul_le_mul (show T+1<=31 by omega) (Nat.le_refl _))) (by decide))
      have XH:=fun(L:List bz) (i:Nat) (hL:L[i]?=some (cY (a8 Bn) F (pz.map fun v=>[v]) S))=>F8 (W:=(w:bB)) (L:=L) (f:=eY) (c:=3) (by decide) hL c1 WI;have N_:∀(L:List bz) (i:Nat) (hL:L[i]?=some (cY (a8 eI) FN (tR.map fun v=>[v]) Nx)),Oz (w:bB) L (.slice aq Nx[n].length cq) Nx[n].length (Nx[n].map (Value.int .i64)):=fun L i hL w' ml=>by
        have:=F8 (W:=(w:bB)) (L:=L) (f:=fun n=>[Value.int .i64 n]) (c:=1) (by decide) hL Qs ND w' ml
        rwa [<-List.map_eq_flatMap]at this
      repeat(first|refine GC ?_|refine gV (J (v:= .int .i64 (T:Int)) ak.ty rfl (ah (i:=0) rfl rfl)) ?_|refine gV (eK (r:=((T+1:Nat):Int)) rfl rfl (by omega) (by omega) (by omega)) ?_|refine GB ?_)
      refine D_ o_ (by decide) (0,0) rfl rfl rfl (by omega) (by omega) rfl fun g10=>?_;rw[<-NC (l:=g.ag) (Nx:=Nx) (S:=S) (q:=n)];refine zL ?_
      repeat(first|refine GA ?_|refine gV (aE (i:=0) ak.ty rfl rfl rfl) ?_|refine gV (aE (i:=6) ak.ty rfl rfl rfl) ?_)
      refine aM (S:=D9 T (fB g.ag T S[n] Nx[n])) (yG aj.en rfl rfl rfl rfl) (fun w hm=>WH gS 0 S.length cS gN 0 Nx.length cN n vq (.slice aq Nx[n].length cq) S[n] Nx[n] w hm.below tF c1 (rq (hm.get (i:=2) rfl) hvq) (XH _ 3 rfl w hm) Qs (rq (hm.get (i:=4) rfl) Z2) (N_ _ 5 rfl w hm) (by omega) P9 (by omega) (by omega)) rfl rfl rfl ?_;rintro⟨ga,vs⟩ _
      conv=>arg 8;simp only[zJ,bW,ret,id_eq,D9]
      conv=>arg 7;simp only[D9]
      rw[<-hSn,<-TP];clear WH
      try refine GA ?_
      refine iu (ι:=Nat×Value) (fun(c,_)=>c<=T+1) (fun(c,vf)=>[(1,.pointer (some ⟨g1,0,none⟩)),(2,.pointer (some ⟨g2,0,none⟩)),(5,.pointer (some ⟨g5,0,none⟩)),(7,.pointer (some ⟨g7,0,none⟩)),(8,vf),(26,.int .i64 (S.length:Int)),(27,.int .i64 (n:Int)),(9,.int .i64 (n:Int)),(10,.slice (some ⟨g10,0,none⟩) (T+1) (T+1)),(37,.slice (some ⟨ga,0,none⟩) (T+1) (T+1)),(38,.int .i64 ((T+1:Nat):Int)),(39,.int .i64 (c:Int))])
        (fun(c,vf)=>[ap g1 (cH (T:Int) g.aR vp).cells 33,ap g2 #[.slice none 0 0,.slice none 0 0] 36,aI 164 1 (.slice (some ⟨gS,0,none⟩) S.length cS) S.length pz,cY (a8 Bn) F (pz.map fun v=>[v]) S,aI 26 1 (.slice (some ⟨gN,0,none⟩) Nx.length cN) Nx.length tR,cY (a8 eI) FN (tR.map fun v=>[v]) Nx,ap g5 #[.slice (some ⟨gS,0,none⟩) S.length cS,.slice (some ⟨gN,0,none⟩) Nx.length cN] 117,ap g7 #[x.vA,x.vG] 36,aI 120 1 x.vA (eE g.ag T Nx S n).length x.pO,cY (a8 qO) x.FA (x.pO.map fun v=>[v]) (eE g.ag T Nx S n),aI 26 1 x.vG (dJ T Nx n).length x.pP,cY (a8 eI) x.FG (x.pP.map fun v=>[v]) (dJ T Nx n),aI 125 6 vf (eR g.ag T Nx S n++eQ g.ag T Nx S n c).length ((eR g.ag T Nx S n++eQ g.ag T Nx S n c).flatMap Ea),aI 123 2 (.slice (some ⟨g10,0,none⟩) (T+1) (T+1)) (T+1) ((ey g.ag T Nx S n c).flatMap jb),dC 120 o9 ga (T+1) vs,ft (fun j=>j<T+1) (j0 vs (fB g.ag T (S.getD n []) (Nx.getD n [])))]) (fun(c,_)=>T+1-c) (0,vf) (Nat.zero_le _) (by repeat' (first|exact True.intro|refine And.intro rfl ?_)) (by dsimp only;rw[eQ,List.append_nil]) ?_
      rintro⟨c,vf⟩ j1;dsimp only at j1⊢
      by_cases c2:c<T+1
      · obtain⟨X,hX⟩:∃X,fB g.ag T (S.getD n []) (Nx.getD n []) c=X:=⟨_,rfl⟩
        have hXl:X.length<=11440:=by
          rw[<-hX,<-Ag];have:=tf (l:=g.ag) (T:=T) (nx:=Nx.getD n []) (t:=T) (s:=S.getD n []) (c:=c);rw[hSn]at this⊢;omega
        have WK:=GG (l:=g.ag) (Nx:=Nx) (S:=S) (q:=n) c2;have WL:X=[]->ey g.ag T Nx S n (c+1)=ey g.ag T Nx S n c:=fun h=>Eb (by unfold xI;rw[hX,h]);have hhd:gC g.ag T Nx S n c=X.headD (0,0):=by unfold gC;rw[hX]
        have Ii:eQ g.ag T Nx S n (c+1)=eQ g.ag T Nx S n c++X.tail.map fun x=>(((n:Int),(c:Int),X.headD (0,0),x):Ky):=by
          rw[eQ,pC];unfold xI;rw[hX]
        have VT:(eR g.ag T Nx S n++eQ g.ag T Nx S n c).length<=100000000:=by
          rw[List.length_append]at uI⊢;have:=si (l:=g.ag) (T:=T) (Nx:=Nx) (S:=S) (q:=n) (show c<=T+1 by omega);omega
        generalize WM:eR g.ag T Nx S n++eQ g.ag T Nx S n c=base at*;refine eN (i:=15) rfl (fun w h=>dR w (h.1 c c2)) fun dW=>?_;obtain⟨ax,cx,SZ,-,hax⟩:=dW;rw[hX]at SZ hax;have NE:∀(L:List bz) (i:Nat) (gx:Nat),ax=some ⟨gx,0,none⟩->L[i]?=some (ft (fun j=>j<T+1) (j0 vs (fB g.ag T (S.getD n []) (Nx.getD n []))))->∀k (hk:k<X.length) (j:Nat) (u:Value),(jb X[k])[j]?=some u->At (w:bB) L ⟨gx,0+k*2+j,none⟩ u:=fun L i gx hgx hL k hk j u hu=>OX hL fun w h=>by
          have h2:=h.1 c c2;unfold j0 at h2;rw[SZ,hX,hgx]at h2;have Tb:j<2:=by rw[<-o_ X[k]];exact(List.getElem?_eq_some_iff.1 hu).1
          exact rq h2 (by rw[Nat.zero_add,qe o_ X k j hk Tb];exact hu)
        repeat(first|refine GA ?_|refine gV (aO aT.eq ak.ty rfl rfl c2) ?_|refine gV (J (v:= .slice ax X.length cx) ak.ty rfl (by have:=dQ (W:=(w:bB)) (val:=o9) (i:=14) (f:=vs) (e:=120) (g:=ga) (len:=T+1) (L:=[ap g1 (cH (T:Int) g.aR vp).cells 33,ap g2 #[.slice none 0 0,.slice none 0 0] 36,aI 164 1 (.slice (some ⟨gS,0,none⟩) S.length cS) S.length pz,cY (a8 Bn) F (pz.map fun v=>[v]) S,aI 26 1 (.slice (some ⟨gN,0,none⟩) Nx.length cN) Nx.length tR,cY (a8 eI) FN (tR.map fun v=>[v]) Nx,ap g5 #[.slice (some ⟨gS,0,none⟩) S.length cS,.slice (some ⟨gN,0,none⟩) Nx.length cN] 117,ap g7 #[x.vA,x.vG] 36,aI 120 1 x.vA (eE g.ag T Nx S n).length x.pO,cY (a8 qO) x.FA (x.pO.map fun v=>[v]) (eE g.ag T Nx S n),aI 26 1 x.vG (dJ T Nx n).length x.pP,cY (a8 eI) x.FG (x.pP.map fun v=>[v]) (dJ T Nx n),aI 125 6 vf (base).length ((base).flatMap Ea),aI 123 2 (.slice (some ⟨g10,0,none⟩) (T+1) (T+1)) (T+1) ((ey g.ag T Nx S n c).flatMap jb),dC 120 o9 ga (T+1) vs,ft (fun j=>j<T+1) (j0 vs (fB g.ag T (S.getD n []) (Nx.getD n [])))]) rfl c2;rw[SZ]at this;exact this)) ?_)
        refine iu (ι:=Nat×Value) (fun(i,_)=>i<=X.length) (fun(i,vf)=>[(1,.pointer (some ⟨g1,0,none⟩)),(2,.pointer (some ⟨g2,0,none⟩)),(5,.pointer (some ⟨g5,0,none⟩)),(7,.pointer (some ⟨g7,0,none⟩)),(8,vf),(26,.int .i64 (S.length:Int)),(27,.int .i64 (n:Int)),(9,.int .i64 (n:Int)),(10,.slice (some ⟨g10,0,none⟩) (T+1) (T+1)),(37,.slice (some ⟨ga,0,none⟩) (T+1) (T+1)),(38,.int .i64 ((T+1:Nat):Int)),(11,.int .i64 (c:Int)),(12,.slice ax X.length cx),(39,.int .i64 (c:Int)),(44,.slice ax X.length cx),(45,.int .i64 (X.length:Int)),(46,.int .i64 (i:Int))])
          (fun(i,vf)=>[ap g1 (cH (T:Int) g.aR vp).cells 33,ap g2 #[.slice none 0 0,.slice none 0 0] 36,aI 164 1 (.slice (some ⟨gS,0,none⟩) S.length cS) S.length pz,cY (a8 Bn) F (pz.map fun v=>[v]) S,aI 26 1 (.slice (some ⟨gN,0,none⟩) Nx.length cN) Nx.length tR,cY (a8 eI) FN (tR.map fun v=>[v]) Nx,ap g5 #[.slice (some ⟨gS,0,none⟩) S.length cS,.slice (some ⟨gN,0,none⟩) Nx.length cN] 117,ap g7 #[x.vA,x.vG] 36,aI 120 1 x.vA (eE g.ag T Nx S n).length x.pO,cY (a8 qO) x.FA (x.pO.map fun v=>[v]) (eE g.ag T Nx S n),aI 26 1 x.vG (dJ T Nx n).length x.pP,cY (a8 eI) x.FG (x.pP.map fun v=>[v]) (dJ T Nx n),aI 125 6 vf ((base++(X.tail.take (i-1)).map fun x=>(((n:Int),(c:Int),X.headD (0,0),x):Ky))).length (((base++(X.tail.take (i-1)).map fun x=>(((n:Int),(c:Int),X.headD (0,0),x):Ky))).flatMap Ea),aI 123 2 (.slice (some ⟨g10,0,none⟩) (T+1) (T+1)) (T+1) ((if i=0 then ey g.ag T Nx S n c else ey g.ag T Nx S n (c+1)).flatMap jb),dC 120 o9 ga (T+1) vs,ft (fun j=>j<T+1) (j0 vs (fB g.ag T (S.getD n []) (Nx.getD n [])))]) (fun(i,_)=>X.length-i) (0,vf) (Nat.zero_le _) (by repeat' (first|exact True.intro|refine And.intro rfl ?_)) (by simp) ?_
        rintro⟨i,vf⟩ k1;dsimp only at k1⊢
        by_cases c3:i<X.length
        · have Z4:=fun(L:List bz) (k:Nat) (gx:Nat) (hgx:ax=some ⟨gx,0,none⟩) (hL:L[k]?=some (ft (fun j=>j<T+1) (j0 vs (fB g.ag T (S.getD n []) (Nx.getD n [])))))=>NE L k gx hgx hL i c3
          obtain⟨gx,rfl⟩:=hax (by omega);have TQ:∀(L:List bz) (k:Nat),L[k]?=some (ft (fun j=>j<T+1) (j0 vs (fB g.ag T (S.getD n []) (Nx.getD n []))))->∀(j:Nat) (u:Value),(jb (X.headD (0,0)))[j]?=some u->At (w:bB) L ⟨gx,0+0*2+j,none⟩ u:=fun L k hL j u hu=>NE L k gx rfl hL 0 (by omega) j u (by
            have:X.headD (0,0)=X[0]'(by omega):=by
              cases X with
              |nil=>exact absurd c3 (Nat.not_lt_zero _)
              |cons y r=>rfl
            rwa [this]at hu)
          have Z5:i=0->X[i]=gC g.ag T Nx S n c:=fun e=>by
            subst e;rw[hhd]
            cases X with
            |nil=>exact absurd c3 (Nat.not_lt_zero _)
            |cons y r=>rfl
          have hXt:i≠0->X.tail.take (i+1-1)=X.tail.take (i-1)++[X[i]]:=fun e=>by
            obtain⟨m,rfl⟩:∃m,i=m+1:=⟨i-1,by omega⟩
            cases X with
            |nil=>exact absurd c3 (Nat.not_lt_zero _)
            | cons y r=>
              have hm:m<r.length:=by simpa using c3
              show r.take (m+1)=r.take m++[r[m]]
              exact List.take_succ_eq_append_getElem hm
          have aak:(base++(X.tail.take (i-1)).map fun x=>(((n:Int),(c:Int),X.headD (0,0),x):Ky)).length<=100100000:=by
            rw[List.length_append,List.length_map,List.length_take,List.length_tail];omega
          have Zh:=Ki (n:Int) (c:Int) (X.headD (0,0));generalize hXX:X[i]=xa at*;clear NE XH N_
          repeat(first|refine GA ?_|refine gV (aH aT.eq ak.ty rfl rfl c3) ?_|refine gV (aK (cs:=jb xa) ak.ty rfl rfl (Z4 _ 15 gx rfl rfl)) ?_)
          refine aF rfl fun g14=>?_;refine zL ?_
          try refine GA ?_
          refine fU 16 (cs':=(jb xa).toArray) ?_;refine zL ?_
          by_cases q1:i=0
          · subst q1
            rw[if_pos rfl];have Z5:=Z5 rfl
            repeat(first|refine GA ?_|refine gV (aE (i:=16) ak.ty rfl rfl rfl) ?_|refine gV (aH aT.eq ak.ty rfl rfl c2) ?_)
            refine sD o_ (k:=c) (a:=xa) (i:=13) ak.ty rfl rfl (by omega) (by rw[k8];exact c2) k8.symm rfl rfl rfl ?_;rw[Z5,WK];refine zL ?_
            try refine GA ?_
            refine bR [0,1,2,3,4,5,6,7,8,9,10,11,12,13,14,15] ?_;exact aY (0+1,vf) (by show 0+1<=X.length;omega) (by show X.length-(0+1)<X.length-0;omega) (hl:=by dsimp only;rw[if_neg (by omega)];rfl)
          · rw[if_neg q1]
            have jl:base++(X.tail.take (i+1-1)).map (fun x=>(((n:Int),(c:Int),X.headD (0,0),x):Ky))=(base++(X.tail.take (i-1)).map fun x=>(((n:Int),(c:Int),X.headD (0,0),x):Ky))++[((n:Int),(c:Int),X.headD (0,0),xa)]:=by rw[hXt q1,List.map_append,<-List.append_assoc];rfl
            clear hXt;generalize (base++(X.tail.take (i-1)).map fun x=>(((n:Int),(c:Int),X.headD (0,0),x):Ky))=fb at*
            try refine GA ?_
            refine dw ([ft (fun j=>j<T+1) (j0 vs (fB g.ag T (S.getD n []) (Nx.getD n []))),ap g14 (jb xa).toArray 123]) (.calm 0 (.calm 1 (.calm 2 (.calm 3 (.calm 4 (.calm 5 (.calm 6 (.calm 7 (.one 8 (.one 9 (.calm 10 (.done)))))))))))) (bC [15,16]) ?_
            repeat(first|refine GW ?_|(refine GN ?_;first|refine QW (aH (j:=0) aT.eq ak.ty rfl rfl (show 0<X.length by omega)) ?_|refine QW (aK (cs:=jb (X.headD (0,0))) ak.ty rfl rfl (TQ _ 0 rfl)) ?_|refine QW (aE (i:=1) ak.ty rfl rfl rfl) ?_|refine QW (aU rfl (Zh _)) ?_))
            refine az rfl (fj (cs:=(Ea ((n:Int),(c:Int),X.headD (0,0),xa)).toArray) rfl rfl rfl rfl rfl fun g65=>aw (bC [15,16]) ?_);refine az rfl (mI (i:=12) (q:=17) rfl rfl rfl rfl rfl rfl (by omega) (by omega) rfl fun vf2=>aw (bC [15,16]) ?_)
            try refine GW ?_
            try refine GA ?_
            refine bR [0,1,2,3,4,5,6,7,8,9,10,11,12,13,14,15] ?_;exact aY (i+1,vf2) (by show i+1<=X.length;omega) (by show X.length-(i+1)<X.length-i;omega) (hl:=by dsimp only;rw[if_neg (by omega),jl,List.length_append,List.flatMap_append];rfl)
        · obtain rfl:i=X.length:=by omega
          have WN:(if X.length=0 then ey g.ag T Nx S n c else ey g.ag T Nx S n (c+1))=ey g.ag T Nx S n (c+1):=by
            by_cases e:X.length=0
            · rw[if_pos e];exact(WL (List.eq_nil_of_length_eq_zero e)).symm
            · rw[if_neg e]
          have htt:X.tail.take (X.length-1)=X.tail:=List.take_of_length_le (by rw[List.length_tail];exact Nat.le_refl _);rw[WN,htt]
          try refine GA ?_
          exact aY (c+1,vf) (by show c+1<=T+1;omega) (by show T+1-(c+1)<T+1-c;omega) (hl:=by dsimp only;rw[Ii,<-List.append_assoc,WM])
      · obtain rfl:c=T+1:=by omega
        have hTN:T<=Nx[n].length:=by omega
        have QY:(Nx[n].drop T).length=Nx[n].length-T:=List.length_drop;have Dw:(Nx[n].drop T).take (Nx[n].length-T)=Nx[n].drop T:=List.take_of_length_le (by rw[QY];exact Nat.le_refl _);have hSub:∀(L:List bz) (i:Nat),L[i]?=some (cY (a8 eI) FN (tR.map fun v=>[v]) Nx)->Oz (w:bB) L (IL aq cq 1 T Nx[n].length) (Nx[n].length-T) ((Nx[n].drop T).map (Value.int .i64)):=fun L i hL w' ml=>by
          have h1:=F8 (W:=(w:bB)) (L:=L) (f:=fun n=>[Value.int .i64 n]) (c:=1) (by decide) hL Qs ND w' ml;have h2:=EO (i:=T) (j:=Nx[n].length) (f:=fun n=>[Value.int .i64 n]) (fun _=>rfl) h1 hTN (Nat.le_refl _);rw[Dw,QY,<-List.map_eq_flatMap]at h2;exact h2
        have RP:((Nx[n].drop T).map (Value.int .i64)).length=(Nx[n].length-T)*1:=by rw[List.length_map,QY,Nat.mul_one]
        have RT:∀u∈(Nx[n].drop T).map (Value.int .i64),u.oneCell'=true:=fun u hu=>by obtain⟨y,_,rfl⟩:=List.mem_map.1 hu;rfl
        have hgo:∀{v:Value} {w':World},(aI 3 1 v (0+(Nx[n].length-T)) ([]++(Nx[n].drop T).map (Value.int .i64))).holds w'->(a8 eI).is (fun k=>v.ownBlock=some k) w' [v] ((Nx.getD n []).drop T):=fun {v w'} h=>by
          rw[TP];rw[Nat.zero_add,List.nil_append,<-QY]at h;exact tQ (fun y hy=>Z3 y (List.mem_of_mem_drop hy)) h
        repeat(first|refine GA ?_|refine gV (J (v:=x.vA) ak.ty rfl (ah (i:=7) rfl rfl)) ?_)
        have hAl:=fq (l:=g.ag) (T:=T) (Nx:=Nx) (S:=S) n;have hGl:=iM (T:=T) (Nx:=Nx) n;refine ik (i:=8) rfl rfl rfl rfl rfl rfl (fun z h=>by cases h;rfl) (by omega) (by omega) rfl fun z vA2=>?_;refine zL ?_;refine rb (cY (a8 qO) (fun k=>x.FA k\/(Value.slice (some ⟨g10,0,none⟩) (T+1) (T+1)).ownBlock=some k) ((x.pO.map fun v=>[v])++[[.slice (some ⟨g10,0,none⟩) (T+1) (T+1)]]) (eE g.ag T Nx S n++[ey g.ag T Nx S n (T+1)])) 13 9 [0,1,2,3,4,5,6,7,8,10,11,12] (by decide) rfl rfl rfl (fun k hk=>hk.elim (fun h=>by cases h) fun h=>h.elim (fun h=> .inr (.inr h)) fun h=> .inl (.inl h)) (fun w hr he=>mh he (GF (by rw[k8];exact hr)) (r7 hr)) ?_;refine zL ?_
        try refine GA ?_
        refine aB (i:=8) rfl fun kD lg=>bD (i:=7) rfl rfl rfl kD lg rfl ?_;refine zL ?_
        try refine GA ?_
        refine h_ 3 1 ?_
        conv=>arg 7;simp only[zA,zB,zC,zD,zE,zF,zG,zH,zI,bW,ret,id_eq]
        refine dw ([ap g1 (cH (T:Int) g.aR vp).cells 33,aI 26 1 (.slice (some ⟨gN,0,none⟩) Nx.length cN) Nx.length tR,cY (a8 eI) FN (tR.map fun v=>[v]) Nx,ap g5 #[.slice (some ⟨gS,0,none⟩) S.length cS,.slice (some ⟨gN,0,none⟩) Nx.length cN] 117]) (.calm 0 (.calm 2 (.calm 3 (.calm 4 (.calm 5 (.calm 6 (.calm 7 (.calm 8 (.calm 9 (.two 1 (.one 10 (.one 11 (.one 12 (.calm 13 (.one 14 (.done)))))) 10 (.two 1 (.one 11 (.one 12 (.calm 13 (.one 14 (.done))))) 11 (.one 1 (.one 12 (.calm 13 (.one 14 (.done)))))))))))))))) (bC [0,4,5,6]) ?_
        repeat(first|(refine GN ?_;first|refine QW QP ?_|refine QW (J (v:= .slice (some ⟨gN,0,none⟩) Nx.length cN) ak.ty rfl (ah (i:=3) rfl rfl)) ?_|refine QW (aO aT.eq ak.ty rfl rfl Qs) ?_|refine QW (J (v:= .slice aq Nx[n].length cq) ak.ty rfl (f_ (i:=1) rfl Z2)) ?_|refine QW (J (v:= .int .i64 (T:Int)) ak.ty rfl (ah (i:=0) rfl rfl)) ?_|refine QW (sA (i:=T) aT.eq ak.ty rfl rfl hTN hcq) ?_|refine GX ?_)|refine GW ?_)
        refine dG rfl rfl ?WO ?WQ
        case' WO=>
          refine cI (J (v:=x.vG) ak.ty rfl (ah (i:=7) rfl rfl)) rfl rfl rfl (aw (bC [0,4,5,6]) ?_);refine az rfl (dS (i:=13) (k:=Nx[n].length-T) rfl (hSub _ 5 rfl) rfl rfl RP RT (by omega) (by omega) rfl fun vI=>aw (bC [0,4,5,6]) ?_);refine az rfl (aB (i:=13) rfl fun WR Z6=>fj (cs:=#[vI]) rfl WR rfl rfl rfl fun g86=>aw (bC [0,4,5,6]) ?_)
        case' WQ=>
          refine dS (i:=13) (k:=Nx[n].length-T) rfl (hSub _ 5 rfl) rfl rfl RP RT (by omega) (by omega) rfl fun vI=>aw (bC [0,4,5,6]) ?_;refine dG rfl rfl ?WT ?WU
        case' WT=>
          refine cI (J (v:=x.vG) ak.ty rfl (ah (i:=7) rfl rfl)) rfl rfl rfl (aw (bC [0,4,5,6]) ?_);refine az rfl (aB (i:=13) rfl fun WR Z6=>fj (cs:=#[vI]) rfl WR rfl rfl rfl fun g86=>aw (bC [0,4,5,6]) ?_)
        case' WU=>
          refine aB (i:=13) rfl fun WR Z6=>fj (cs:=#[vI]) rfl WR rfl rfl rfl fun g86=>aw (bC [0,4,5,6]) ?_;refine az rfl (cI (J (v:=x.vG) ak.ty rfl (ah (i:=7) rfl rfl)) rfl rfl rfl (aw (bC [0,4,5,6]) ?_))
        all_goals
          refine az rfl (kC (i:=9) (q:=14) rfl rfl rfl rfl rfl Z6 (by omega) (by omega) rfl fun vG2=>aw (bC [0,4,5,6]) ?_)
          try refine GW ?_
          refine az rfl (aB (i:=9) rfl fun kD lg=>bD (i:=7) rfl rfl rfl kD lg rfl (aw (bC [0,4,5,6]) ?_))
          try refine GW ?_
          refine AE (cY (a8 eI) (fun k=>x.FG k\/vI.ownBlock=some k) ((x.pP.map fun v=>[v])++[[vI]]) (dJ T Nx n++[(Nx.getD n []).drop T])) 13 10 [0,1,2,3,4,5,6,7,8,9,11,12] (by decide) rfl rfl rfl (fun k hk=>hk.elim (fun h=>by cases h) fun h=>h.elim (fun h=> .inr (.inr h)) fun h=> .inl (.inl h)) (fun w hr he=>mh he (hgo hr) (r7 hr)) ?_
          try refine GA ?_
          refine bR [0,1,2,3,4,5,6,7,8,11,9,12,10] ?_;exact aY (n+1,⟨vA2,x.pO++[.slice (some ⟨g10,0,none⟩) (T+1) (T+1)],fun k=>x.FA k\/(Value.slice (some ⟨g10,0,none⟩) (T+1) (T+1)).ownBlock=some k,vG2,x.pP++[vI],fun k=>x.FG k\/vI.ownBlock=some k⟩,vf) (by show n+1<=S.length;omega) (by show S.length-(n+1)<S.length-n;omega) (hl:=by dsimp only;rw[show(eE g.ag T Nx S (n+1)).length=(eE g.ag T Nx S n).length+1 by rw[fq,fq],show(dJ T Nx (n+1)).length=(dJ T Nx n).length+1 by rw[iM,iM],Ec,BL,List.map_append,List.map_append];rfl)
    · obtain rfl:n=S.length:=by omega
      refine eN (i:=8) rfl (fun w h=>dR w h) fun dW=>?_;obtain⟨aA,cA,hvA,-⟩:=dW;refine eN (i:=10) rfl (fun w h=>dR w h) fun dW=>?_;obtain⟨aG,cG,hvG,-⟩:=dW;obtain⟨vA,pO,FA,vG,pP,FG⟩:=x;dsimp only at hvA hvG⊢;subst hvA hvG
      repeat(first|refine GA ?_|refine gV (aE (i:=7) ak.ty rfl rfl rfl) ?_)
      refine fU 1 ?_;refine zL ?_
      try refine GA ?_
      exact G6 (i:=1) rfl rfl rfl rfl rfl rfl fun w hm=>hm.meets (S:=⟨fun(_:Gy×Value)=>True,fun x=> .tuple #[.agg #[x.1.vA,x.1.vG],x.2,.int .i64 0],fun x=>[aI 120 1 x.1.vA (eE g.ag T Nx S S.length).length x.1.pO,cY (a8 qO) x.1.FA (x.1.pO.map fun v=>[v]) (eE g.ag T Nx S S.length),aI 26 1 x.1.vG (dJ T Nx S.length).length x.1.pP,cY (a8 eI) x.1.FG (x.1.pP.map fun v=>[v]) (dJ T Nx S.length),aI 125 6 x.2 (eR g.ag T Nx S S.length).length ((eR g.ag T Nx S S.length).flatMap Ea)]⟩) (⟨.slice aA _ cA,pO,FA,.slice aG _ cG,pP,FG⟩,vf) trivial [8,9,10,11,12] (by decide) rfl
  · rw[if_pos c0]at hO
    rw[hO]
    repeat(first|refine GC ?_|refine gV (cB (b:=true) rfl rfl (decide_eq_true c0)) ?_|refine gV (aU rfl uv) ?_|refine GB ?_)
    refine fU 1 ?_;refine zL ?_
    try refine GA ?_
    refine de 120 1 (mR (cY (a8 qO) (fun _=>False) [] []) (fun k hk=>hk.elim (fun h=>by cases h) id) (fun w=>gZ) (de 26 1 (mR (cY (a8 eI) (fun _=>False) [] []) (fun k hk=>hk.elim (fun h=>by cases h) id) (fun w=>gZ) (de 125 6 ?_))));exact G6 (i:=1) rfl rfl rfl rfl rfl rfl fun w hm=>hm.meets (S:=⟨fun(_:Gy×Value)=>True,fun x=> .tuple #[.agg #[x.1.vA,x.1.vG],x.2,.int .i64 e],fun x=>[aI 120 1 x.1.vA 0 x.1.pO,cY (a8 qO) x.1.FA (x.1.pO.map fun v=>[v]) [],aI 26 1 x.1.vG 0 x.1.pP,cY (a8 eI) x.1.FG (x.1.pP.map fun v=>[v]) [],aI 125 6 x.2 0 []]⟩) (⟨.slice none 0 0,[],fun _=>False,.slice none 0 0,[],fun _=>False⟩,.slice none 0 0) trivial [7,8,9,10,11] (by decide) rfl
end bH
namespace qz
open av dg dj b9 bH
def GH(O:Nat->Nat->Bool)(h a:Nat):Nat->Nat->Bool:=fun i j=>if i=h/\j=a then true else O i j
def WV(N m:Nat)(O:Nat->Nat->Bool):Nat:=cO (fun i=>cO (fun j=>if O i j=true then 0 else 1) m) N
def NF(l:List av.Prod)(w:List Int)(O:Nat->Nat->Bool):Prop:=∀(k:Nat) a,O k a=true->a<=w.length->∃v,x7 l (2,(k:Int)) (w.drop a++v)
theorem BN{f f':Nat->Nat}:∀{k i:Nat},i<k->(∀j,j<k->f j<=f' j)->f i<f' i->cO f k<cO f' k
  | k +1,i,hi,h,hl=>by
    rw[cO,cO]
    by_cases e:i=k
    · subst e
      have:=pj (f:=f) (f':=f') i fun j hj=>h j (by omega);omega
    · have:=BN (f:=f) (f':=f') (k:=k) (i:=i) (by omega) (fun j hj=>h j (by omega)) hl
      have:=h k (by omega);omega
theorem Qt{N m h a:Nat}{O:Nat->Nat->Bool}(hh:h<N)(ha:a<m)(ho:O h a=false):WV N m (GH O h a)<WV N m O:=by
 have hle:∀i j,(if GH O h a i j=true then 0 else 1)<=(if O i j=true then 0 else 1):=fun i j=>by
  unfold GH
  by_cases e:i=h/\j=a
  ·rw[if_pos e,if_pos rfl];exact Nat.zero_le _
  ·rw[if_neg e];exact Nat.le_refl _
 unfold WV;refine BN hh (fun i _=>pj m fun j _=>hle i j) (BN ha (fun j _=>hle h j) ?_);have e1:GH O h a h a=true:=by unfold GH;rw[if_pos ⟨rfl,rfl⟩]
 rw[e1,ho];decide
structure Ed(l:List av.Prod)(w:List Int)(o:bY->Nat->Nat->Nat)(M:List Bool)(N:Nat)(O O':Nat->Nat->Bool)(more:Bool)(i a:Nat):Prop where
 sound:NF l w O'
 less:more=true->WV N (w.length+1) O'<WV N (w.length+1) O
 still:more=false->O'=O/\∀q a',(q<i\/(q=i/\a'<a))->∀h:q<l.length,a'<=w.length->Bz o O M w.length a' l[q].2=true->O l[q].1.toNat a'=true
section
variable{l:List av.Prod}{w:List Int}{n:Nat}{c:dE}{M:List Bool}{O O':Nat->Nat->Bool}{more:Bool}{i a:Nat}
theorem Ed.start(h:NF l w O)(o:bY->Nat->Nat->Nat)(N:Nat):Ed l w o M N O O false 0 0:=⟨h,fun h=>by(cases h),fun _=>⟨rfl,fun q a' h=>by omega⟩⟩
theorem Ed.set(hM:∀i:Nat,M.getD i false=true->∃ws,x7 l (2,(i:Int)) ws)(hc:CI w l n c)(hs:fN n l){N:Nat}(h:Ed l w (dX c w) M N O O' more i a)(hi:i<l.length)(ha:a<=w.length)(hN:l[i].1.toNat<N)(h0:O' l[i].1.toNat a=false)(h1:Bz (dX c w) O' M w.length a l[i].2=true):Ed l w (dX c w) M N O (GH O' l[i].1.toNat a) true i (a+1):=by
 obtain⟨s1,s2,s3⟩:=hs _ (List.getElem_mem hi);refine⟨fun k b hk hb=>?_,fun _=>?_,fun e=>by cases e⟩
 ·unfold GH at hk
  by_cases e:k=l[i].1.toNat/\b=a
  ·obtain⟨rfl,rfl⟩:=e
   obtain⟨v,hv⟩:=BA hM hc hs h.sound ha (fun x hx=>(s3 x hx)) h1;exact⟨v,.Ob (by show(2:Int)≠1;decide) (List.getElem_mem hi) (by show l[i].1=((l[i].1.toNat:Nat):Int);omega) hv⟩
  ·rw[if_neg e]at hk
   exact h.sound k b hk hb
 ·have:=Qt (N:=N) (m:=w.length+1) hN (by omega:a<w.length+1) h0
  cases hm:more
  ·obtain⟨rfl,_⟩:=h.still hm
   exact this
  ·have:=h.less hm;omega
end
theorem NG{n:Nat}{l:List av.Prod}(hf:ud n l)(hs:fN n l):rD (ze l) (fun s=>Jh n s/\qA l s) (rH n):=
 ⟨fun s sx=>⟨(qx hf).keep s sx.1,rJ hs l (fun _ h=>h) _ sx.2⟩,fun s sx=>(qx hf).dec s sx.1⟩
theorem NH{g:df}{n:Nat}(gD:bM g=0)(hn:g.aR=n):Jh n (jy n g.ag)/\qA g.ag (jy n g.ag):=by
 have hf:=pu gD hn;have hs:=pq gD hn;have hz:∀i:Nat,(List.replicate n false).getD i false=false:=fun i=>by
  rw[List.getD_eq_getElem?_getD,List.getElem?_replicate];split<;>rfl
 have h0:qA g.ag ⟨List.replicate n false,(List.replicate n false).set 0 true,List.replicate n false,false⟩:=
  ⟨fun i h=>(by have h:(List.replicate n false).getD i false=true:=h;rw[hz i]at h;cases h),fun i h=>(by have h:(List.replicate n false).getD i false=true:=h;rw[hz i]at h;cases h)⟩
 obtain⟨s',h1,h2,h3⟩:=lG (NG hf hs) _ ⟨List.replicate n false,(List.replicate n false).set 0 true,List.replicate n false,false⟩ ⟨⟨by simp,by simp,by simp⟩,h0⟩ (Nat.le_refl _);have e:jy n g.ag=dl g.ag ⟨s'.E,s'.R,s'.M,false⟩:=h3;rw[e];exact(NG hf hs).keep s' h1
end qz
namespace bH
open Go.RowKit bL db bO d_ iK av bT ue
def th(g:df):List Bool:=(jy g.aR.toNat g.ag).R
def ti(g:df):List Bool:=(jy g.aR.toNat g.ag).M
def pa(g:df):List Cl:=gU g.ag (pN g.aR.toNat g.ag) g.aJ.toNat g.aR.toNat
def GI(s:Sp)(e:Int):Int×Int:=
 if kY s≠0 then(kY s,0)else if s.words.length=0\/s.rules.length=0 then(1,0)else if e≠0 then(e,0)
 else if(th (aZ s)).any (· ==false)=true\/(ti (aZ s)).any (· ==false)=true then(4,0)
 else if(pa (aZ s)).length=0 then(0,1)
 else if(ff (aZ s)).2.2.2≠0 then((ff (aZ s)).2.2.2,0)else if 0<(ff (aZ s)).2.2.1.length then(12,0)else(0,2)
structure pQ where
 vo:Value
 vp:Value
 F:Nat->Prop
 gP:Nat
 qN:Nat->Value
 vT:Value
 gR:Nat
 tj:Nat->Value
 tx:Gy
def tW:pQ:=⟨.slice none 0 0,.slice none 0 0,fun _=>False,0,fun _=> .slice none 0 0,.slice none 0 0,0,fun _=> .slice none 0 0,⟨.slice none 0 0,[],fun _=>False,.slice none 0 0,[],fun _=>False⟩⟩
def pQ.pk(x:pQ)(R:List Row):List Value:=kZ (qI R 256) (.slice (some ⟨x.gP,0,none⟩) R.length R.length) x.vT
structure WW(x:pQ):Prop where
 o:x.vo.oneCell'=true
 p:x.vp.oneCell'=true
 t:x.vT.oneCell'=true
def pQ.lex(x:pQ)(s:Sp)(R:List Row)(T:List Int):List bz:=
 [aI 3 1 x.vo s.words.length ((BE s.words).1.map (Value.int .i64)),mY x.F x.vp (aZ s).ag,dC 26 qM x.gP R.length x.qN,Kd R.length (jI R 256) x.qN,aI 3 1 x.vT T.length (T.flatMap bL.dK)]
def nI(e:Int):Spec pQ:=⟨fun _=>True,fun _=> .tuple #[.agg Ab.toArray,.int .i64 e],fun _=>[]⟩
def pQ.WX(x:pQ)(g:df)(R:List Row):Array Value:=(lu x.vo (x.pk R) (sq g.aJ g.aR x.vp 1 (.slice (some ⟨x.gR,0,none⟩) g.aR.toNat g.aR.toNat) (.slice none 0 0) (.slice none 0 0))).toArray
def pQ.XZ(x:pQ)(g:df)(R:List Row):Array Value:=(lu x.vo (x.pk R) (sq g.aJ g.aR x.vp 2 (.slice none 0 0) x.tx.vA x.tx.vG)).toArray
def pQ.rows(x:pQ)(g:df):List bz:=[dC 26 o9 x.gR g.aR.toNat x.tj,ft (fun j=>j<g.aR.toNat) (jm g.ag (pN g.aR.toNat g.ag) g.aJ.toNat x.tj g.aR.toNat 0)]
def GJ(s:Sp)(R:List Row)(T:List Int):Spec pQ:=
 ⟨WW,fun x=> .tuple #[.agg (x.WX (aZ s) R),.int .i64 0],fun x=>x.lex s R T++x.rows (aZ s)⟩
def NI(s:Sp)(R:List Row)(T:List Int):Spec pQ:=
 ⟨fun x=>WW x/\x.tx.vA.oneCell'=true/\x.tx.vG.oneCell'=true,fun x=> .tuple #[.agg (x.XZ (aZ s) R),.int .i64 0],fun x=>x.lex s R T++Kh x.tx (ff (aZ s)).1 (ff (aZ s)).2.1⟩
def jA(s:Sp)(r:Int×List Row×List Int):Spec pQ:=
 if(GI s r.1).1≠0 then nI (GI s r.1).1 else if(GI s r.1).2=1 then GJ s r.2.1 r.2.2 else NI s r.2.1 r.2.2
theorem xK{s:Sp}{r:Int×List Row×List Int}(h:Qr s r)(h0:r.1=0):bM (aZ s)=0/\jc r.2.1 r.2.2=0:=by
 have hn:o7 s=0->bM (aZ s)=0:=fun h=>by
  unfold o7 at h;generalize bM (aZ s)=e at*
  by_cases c:e≠0
  ·rw[if_pos c]at h;cases h
  ·exact Decidable.of_not_not c
 rcases h with⟨k,hk,-,rfl⟩|⟨es,m,-,-,h3,h4,h5,-,⟨h,rfl⟩|⟨-,h,rfl⟩|⟨h,-,hc,rfl⟩⟩
 ·exact absurd h0 hk
 ·exact absurd h0 h
 ·exact absurd h0 h
 ·refine⟨hn h,?_⟩
  have:=H' hc;dsimp only;exact this
set_option maxRecDepth 100000 in
theorem sj(v:Value)(s:Sp)(r:Int×List Row×List Int)(hx:Qr s r)(w:World)(hv:M7 (mU w) w v s)(zO:∀r∈s.rules,r.2.length<=8796093021952):
 Calls Tryz.prog 4 #[v] w (bU (jA s r) w):=by
 have gD:=fun w' (hg:Gr w w')=>yw v s w' (hv.gr hg);have hv0:=hv;obtain⟨vw,vr,rfl,hw,hr⟩:=hv;obtain⟨bw,cw,rfl,-⟩:=hw;obtain⟨br,cr,rfl,-⟩:=hr;have hM:GI s r.1=if kY s≠0 then(kY s,0)else if s.words.length=0\/s.rules.length=0 then(1,0)else if r.1≠0 then(r.1,0)
  else if(th (aZ s)).any (· ==false)=true\/(ti (aZ s)).any (· ==false)=true then(4,0)
  else if(pa (aZ s)).length=0 then(0,1)
  else if(ff (aZ s)).2.2.2≠0 then((ff (aZ s)).2.2.2,0)else if 0<(ff (aZ s)).2.2.1.length then(12,0)else(0,2):=rfl
 have jN:∀e m,GI s r.1=(e,m)->e≠0->jA s r=nI e:=fun e m h he=>by unfold jA;rw[h,if_pos he]
 have hLL:GI s r.1=(0,1)->jA s r=GJ s r.2.1 r.2.2:=fun h=>by unfold jA;rw[h];rfl
 have hLR:GI s r.1=(0,2)->jA s r=NI s r.2.1 r.2.2:=fun h=>by unfold jA;rw[h];rfl
 have uv:=J';have o8:Ab.toArray.toList.all Value.oneCell'=true:=qK rfl Ig rfl;have hsz:Ab.toArray.size=266:=hY fu rfl;refine enter (args:=[.agg #[.slice bw s.words.length cw,.slice br s.rules.length cr]]) (n:=86) Tryz.func4 rfl rfl rfl ?_;refine bJ (aV (bK rfl rfl rfl fun g1=>aF rfl fun g2=>?_));rw[nw];refine zL ?_
 repeat(first|refine GA ?_|refine gV (aE (i:=0) ak.ty rfl rfl rfl) ?_)
 refine aM (iT aj.en rfl rfl) (fun w hm=>gD _ hm.below) rfl rfl rfl ?_;intro _ _;refine zL ?_
 by_cases c0:kY s≠0
 ·rw[if_pos c0]at hM
  rw[jN _ _ hM c0]
  repeat(first|refine GC ?_|refine gV (cB (b:=true) rfl rfl (decide_eq_true c0)) ?_|refine gV (aU rfl uv) ?_|refine GB ?_)
  refine aD (i:=1) (cs':=Ab.toArray) rfl rfl rfl hsz o8 hsz ?_;refine zL ?_
  try refine GA ?_
  exact dB (i:=1) rfl rfl rfl hsz rfl fun w hm=>hm.meets (S:=nI (kY s)) tW trivial [] (by decide) rfl
 rw[if_neg c0]at hM;have NJ:kY s=0:=Decidable.of_not_not c0;have zQ:s.words.length<=60/\s.rules.length<=60:=by
  unfold kY at NJ
  by_cases c:60<s.words.length\/60<s.words.length+s.rules.length
  ·rw[if_pos c]at NJ;cases NJ
  ·omega
 rw[NJ];clear gD NJ
 by_cases c1:s.words.length=0\/s.rules.length=0
 ·rw[if_pos c1]at hM
  rw[jN _ _ hM (by decide)]
  by_cases c2:s.words.length=0
  ·repeat(first|refine GC ?_|refine gV (cB (b:=false) rfl rfl (decide_eq_false (by simp))) ?_|refine gV (J (v:= .slice bw s.words.length cw) ak.ty rfl (ah (i:=0) rfl rfl)) ?_|refine gV (cJ (b:=true) rfl rfl (decide_eq_true (by omega))) ?_|refine gV (aU rfl uv) ?_|refine GB ?_)
   refine aD (i:=1) (cs':=Ab.toArray) rfl rfl rfl hsz o8 hsz ?_;refine zL ?_
   try refine GA ?_
   exact dB (i:=1) rfl rfl rfl hsz rfl fun w hm=>hm.meets (S:=nI 1) tW trivial [] (by decide) rfl
  ·repeat(first|refine GC ?_|refine gV (cB (b:=false) rfl rfl (decide_eq_false (by simp))) ?_|refine gV (J (v:= .slice bw s.words.length cw) ak.ty rfl (ah (i:=0) rfl rfl)) ?_|refine gV (J (v:= .slice br s.rules.length cr) ak.ty rfl (ah (i:=0) rfl rfl)) ?_|refine gV (cJ (b:=false) rfl rfl (decide_eq_false (by omega))) ?_|refine gV (cJ (b:=true) rfl rfl (decide_eq_true (by omega))) ?_|refine gV (aU rfl uv) ?_|refine GB ?_)
   refine aD (i:=1) (cs':=Ab.toArray) rfl rfl rfl hsz o8 hsz ?_;refine zL ?_
   try refine GA ?_
   exact dB (i:=1) rfl rfl rfl hsz rfl fun w hm=>hm.meets (S:=nI 1) tW trivial [] (by decide) rfl
 rw[if_neg c1]at hM;have Ez:=fun gp w' B ho hm=>D0 (.slice bw s.words.length cw) (.slice br s.rules.length cr) s r hx gp w hv0 zQ.1 zQ.2 zO w' B ho hm
 repeat(first|refine GC ?_|refine gV (cB (b:=false) rfl rfl (decide_eq_false (by simp))) ?_|refine gV (J (v:= .slice bw s.words.length cw) ak.ty rfl (ah (i:=0) rfl rfl)) ?_|refine gV (J (v:= .slice br s.rules.length cr) ak.ty rfl (ah (i:=0) rfl rfl)) ?_|refine gV (cJ (b:=false) rfl rfl (decide_eq_false (by omega))) ?_|refine GB ?_)
 refine aF rfl fun g5=>?_;rw[nw];refine zL ?_
 repeat(first|refine GA ?_|refine gV (aE (i:=0) ak.ty rfl rfl rfl) ?_)
 by_cases c2:r.1≠0
 ·rw[if_pos c2]at hM
  rw[jN _ _ hM c2];have gT:∀gp,Af gp s r=⟨fun _=>True,fun _=> .int .i64 r.1,fun _=>[]⟩:=fun gp=>if_neg c2;simp only[gT]at Ez;refine aP [2] [0,1] (by decide) rfl rfl (fh aj.en rfl rfl rfl) (fun w' ml hb=>Ez g5 w' _ (lc.on (lc.self w) ml (fun o ho=>by simp at ho;subst ho;simp)) hb) rfl rfl rfl ?_;intro _ _;refine zL ?_
  repeat(first|refine GC ?_|refine gV (cB (b:=true) rfl rfl (decide_eq_true c2)) ?_|refine gV (aU rfl uv) ?_|refine GB ?_)
  refine aD (i:=1) (cs':=Ab.toArray) rfl rfl rfl hsz o8 hsz ?_;refine zL ?_
  try refine GA ?_
  exact dB (i:=1) rfl rfl rfl hsz rfl fun w hm=>hm.meets (S:=nI r.1) tW trivial [] (by decide) rfl
 rw[if_neg c2]at hM;have S_:r.1=0:=Decidable.of_not_not c2;obtain⟨hG,TR⟩:=xK hx S_;have gT:∀gp,Af gp s r=DZ gp s r.2.1 r.2.2:=fun gp=>if_pos S_;simp only[gT]at Ez;clear hx gT c2;obtain⟨e,R,T⟩:=r;dsimp only at*;subst S_;generalize GI s 0=M at*;generalize Z7:aZ s=g at*;refine aP [2] [0,1] (by decide) rfl rfl (fh aj.en rfl rfl rfl) (fun w' ml hb=>Ez g5 w' _ (lc.on (lc.self w) ml (fun o ho=>by simp at ho;subst ho;simp)) hb) rfl rfl rfl ?_;clear Ez;rintro⟨vo,vp,F,gP,qN,vT⟩ ⟨k1,k2,k3⟩;dsimp only at k1 k2 k3;unfold DZ;rw[Z7];refine zL ?_;have kU:(kZ (qI R 256) (.slice (some ⟨gP,0,none⟩) R.length R.length) vT).length=258:=pA _ _ _;have H6:(kZ (qI R 256) (.slice (some ⟨gP,0,none⟩) R.length R.length) vT).all Value.oneCell'=true:=by
  have:=qJ (qI R 256) (vn:= .slice (some ⟨gP,0,none⟩) R.length R.length) (vt:=vT) rfl k3
  simpa using this
 have hpx:∀x:pQ,x.gP=gP->x.vT=vT->kZ (qI R 256) (.slice (some ⟨gP,0,none⟩) R.length R.length) vT=x.pk R:=fun x h1 h2=>by unfold pQ.pk;rw[h1,h2]
 generalize hPK:kZ (qI R 256) (.slice (some ⟨gP,0,none⟩) R.length R.length) vT=PK at*;obtain⟨a1,a2,a3,a4,a5,a6⟩:=bI hG;have TS:∀w',(mY F vp g.ag).holds w'->jf (fun k=>k<w'.heap.size) w' (cH g.aJ g.aR vp) g:=fun w' h=>qL (Qn ⟨a1,by omega⟩) (Qn ⟨by omega,by omega⟩) h
 repeat(first|refine GC ?_|refine gV (cB (b:=false) rfl rfl (decide_eq_false (by simp))) ?_|refine gV (aK (cs:=[.int .i64 g.aJ,.int .i64 g.aR,vp]) ak.ty rfl rfl (fun j v h=>ah (i:=2) rfl (ko kU h))) ?_|refine GB ?_)
 have hN:g.aR=(g.aR.toNat:Int):=by omega
 have hT:g.aJ=(g.aJ.toNat:Int):=by omega
 obtain⟨⟨-,hRl,hMl⟩,-⟩:=qz.NH hG hN;have Mr:=fun w' h=>wV (cH g.aJ g.aR vp) g w' h hG g.aR.toNat hN;have Er:=fun w' h=>BJ (cH g.aJ g.aR vp) g w' h hG g.aJ.toNat g.aR.toNat hT hN;have G2:=fun w' h=>BM (cH g.aJ g.aR vp) g w' h;unfold Gz Kh at G2;refine aM (iT aj.en rfl rfl) (fun w' hm=>(Mr w' (TS w' (hm.get (i:=4) rfl))).mono fun e w2 h=>wW h) rfl rfl rfl ?_;intro x5 _
 conv=>arg 8;simp only[zJ,bW,ret,id_eq,wU.val]
 try refine GA ?_
 refine aF rfl fun g7=>?_;refine fU 13 ?_;refine zL ?_
 repeat(first|refine GA ?_|refine gV (J ak.ty rfl (ah (i:=13) rfl rfl)) ?_)
 have NK:th g=(jy g.aR.toNat g.ag).R:=rfl;have NL:ti g=(jy g.aR.toNat g.ag).M:=rfl;generalize (jy g.aR.toNat g.ag).R=Rc at*;generalize (jy g.aR.toNat g.ag).M=Mk at*;rw[NK,NL]at hM;clear NK NL Mr;refine aM (fh aj.en rfl rfl rfl) (fun w' hm=>kS _ Rc false w' (by have:=Sl.cD (hm.get (i:=11) rfl);rw[hRl];exact this)) rfl rfl rfl ?_;intro _ _;refine zL ?_
 cases WY:Rc.any (· ==false)with
 |true=>
  rw[if_pos (.inl WY)]at hM;rw[jN _ _ hM (by decide)]
  repeat(first|refine GA ?_|refine gV (aU rfl uv) ?_)
  refine aD (i:=1) (cs':=Ab.toArray) rfl rfl rfl hsz o8 hsz ?_;refine zL ?_
  try refine GA ?_
  exact dB (i:=1) rfl rfl rfl hsz rfl fun w hm=>hm.meets (S:=nI 4) tW trivial [] (by decide) rfl
 |false=>
 repeat(first|refine GA ?_|refine gV (J ak.ty rfl (ah (i:=13) rfl rfl)) ?_)
 refine me (fh aj.en rfl rfl rfl) (fun w' hm=>kS _ Mk false w' (by have:=Sl.cD (hm.get (i:=12) rfl);rw[hMl];exact this)) rfl rfl rfl rfl rfl ?_;intro _ _;refine zL ?_
 cases RU:Mk.any (· ==false)with
 |true=>
  rw[if_pos (.inr RU)]at hM;rw[jN _ _ hM (by decide)]
  repeat(first|refine GA ?_|refine gV (aU rfl uv) ?_)
  refine aD (i:=1) (cs':=Ab.toArray) rfl rfl rfl hsz o8 hsz ?_;refine zL ?_
  try refine GA ?_
  exact dB (i:=1) rfl rfl rfl hsz rfl fun w hm=>hm.meets (S:=nI 4) tW trivial [] (by decide) rfl
 |false=>
 rw[if_neg (by rw[WY,RU];decide)]at hM;have jB:pa g=gU g.ag (pN g.aR.toNat g.ag) g.aJ.toNat g.aR.toNat:=rfl
 repeat(first|refine GA ?_|refine gV (aK (cs:=[.int .i64 g.aJ,.int .i64 g.aR,vp]) ak.ty rfl rfl (fun j v h=>ah (i:=2) rfl (ko kU h))) ?_)
 refine aM (iT aj.en rfl rfl) (fun w' hm=>Er w' (TS w' (hm.get (i:=4) rfl))) rfl rfl rfl ?_;rintro⟨gR,tj,vcl⟩ _;unfold Nz;rw[<-jB];refine zL ?_
 by_cases c3:(pa g).length=0
 ·rw[if_pos c3]at hM
  rw[hLL hM]
  repeat(first|refine GC ?_|refine gV (iE (i:=16) aT.eq rfl rfl) ?_|refine gV (cJ (b:=true) rfl rfl (decide_eq_true (by omega))) ?_|refine GB ?_)
  refine jz 3 (i:=2) rfl rfl rfl rfl rfl rfl kU rfl ?_;refine zL ?_
  try refine GA ?_
  refine jz 4 (i:=2) rfl rfl rfl rfl rfl rfl kU rfl ?_;refine zL ?_
  repeat(first|refine GA ?_|refine gV (aE (i:=2) ak.ty rfl rfl (hY kU rfl)) ?_)
  refine aD (i:=1) (cs':=(lu vo PK (sq g.aJ g.aR vp 1 (.slice (some ⟨gR,0,none⟩) g.aR.toNat g.aR.toNat) (.slice none 0 0) (.slice none 0 0))).toArray) rfl rfl rfl (hY kU rfl) (qK k1 H6 (by simp only[sq,List.all_cons,List.all_nil,k2];rfl)) hsz ?_;refine zL ?_
  try refine GA ?_
  subst hPK;subst Z7;exact dB (i:=1) rfl rfl rfl (hY kU rfl) rfl fun w hm=>hm.meets (S:=GJ s R T) ⟨vo,vp,F,gP,qN,vT,gR,tj,⟨.slice none 0 0,[],fun _=>False,.slice none 0 0,[],fun _=>False⟩⟩ ⟨k1,k2,k3⟩ [3,4,5,6,7,14,15] (by decide) rfl
 rw[if_neg c3]at hM
 repeat(first|refine GC ?_|refine gV (iE (i:=16) aT.eq rfl rfl) ?_|refine gV (cJ (b:=false) rfl rfl (decide_eq_false (by omega))) ?_|refine gV (aK (cs:=[.int .i64 g.aJ,.int .i64 g.aR,vp]) ak.ty rfl rfl (fun j v h=>ah (i:=2) rfl (ko kU h))) ?_|refine GB ?_)
 refine aM (iT aj.en rfl rfl) (fun w' hm=>G2 w' (TS w' (hm.get (i:=4) rfl))) rfl rfl rfl ?_;rintro⟨⟨vA,pO,FA,vG,pP,FG⟩,vfi⟩ _;have hO:ff g=ff g:=rfl;refine zL ?_;generalize hOT:ff g=O at*;obtain⟨A,G,fi,e⟩:=O;dsimp only at hM⊢;refine aB (i:=17) rfl fun _ b1=>aB (i:=19) rfl fun _ b2=>?_
 try refine GA ?_
 refine aF rfl fun g12=>?_;refine zL ?_;refine aD (i:=22) (cs':=#[vA,vG]) rfl rfl rfl rfl (by simp only[List.all_cons,List.all_nil,b1,b2];rfl) rfl ?_;refine zL ?_
 by_cases c4:e≠0
 ·rw[if_pos c4]at hM
  rw[jN _ _ hM c4]
  repeat(first|refine GC ?_|refine gV (cB (b:=true) rfl rfl (decide_eq_true c4)) ?_|refine gV (aU rfl uv) ?_|refine GB ?_)
  refine aD (i:=1) (cs':=Ab.toArray) rfl rfl rfl hsz o8 hsz ?_;refine zL ?_
  try refine GA ?_
  exact dB (i:=1) rfl rfl rfl hsz rfl fun w hm=>hm.meets (S:=nI e) tW trivial [] (by decide) rfl
 rw[if_neg c4]at hM
 repeat(first|refine GC ?_|refine gV (cB (b:=false) rfl rfl (decide_eq_false c4)) ?_|refine GB ?_)
 by_cases c5:0<fi.length
 ·rw[if_pos c5]at hM
  rw[jN _ _ hM (by decide)]
  repeat(first|refine GC ?_|refine gV (iE (i:=21) aT.eq rfl rfl) ?_|refine gV (eo (b:=true) rfl rfl (decide_eq_true (by omega))) ?_|refine gV (aU rfl uv) ?_|refine GB ?_)
  refine aD (i:=1) (cs':=Ab.toArray) rfl rfl rfl hsz o8 hsz ?_;refine zL ?_
  try refine GA ?_
  exact dB (i:=1) rfl rfl rfl hsz rfl fun w hm=>hm.meets (S:=nI 12) tW trivial [] (by decide) rfl
 rw[if_neg c5]at hM;rw[hLR hM]
 repeat(first|refine GC ?_|refine gV (iE (i:=21) aT.eq rfl rfl) ?_|refine gV (eo (b:=false) rfl rfl (decide_eq_false (by omega))) ?_|refine GB ?_)
 (repeat refine bJ ?_)
 refine dw ([ap g12 #[vA,vG] 36]) (.calm 0 (.calm 1 (.one 2 (.calm 3 (.one 4 (.done)))))) (bC [22]) ?_
 repeat(first|refine GW ?_|(refine GN ?_;first|refine QW (aE (i:=0) ak.ty rfl rfl rfl) ?_))
 refine az rfl (jz 3 (i:=2) rfl rfl rfl rfl rfl rfl kU rfl (aw (bC [22]) ?_));refine zL ?_
 try refine GW ?_
 refine az rfl (Gg (i:=2) rfl rfl rfl b1 b2 rfl kU (aw (bC [22]) ?_));refine zL ?_
 try refine GW ?_
 repeat(first|refine GA ?_|refine gV (aE (i:=2) ak.ty rfl rfl (hY kU rfl)) ?_)
 refine aD (i:=1) (cs':=(lu vo PK (sq g.aJ g.aR vp 2 (.slice none 0 0) vA vG)).toArray) rfl rfl rfl (hY kU rfl) (qK k1 H6 (by simp only[sq,List.all_cons,List.all_nil,k2,b1,b2];rfl)) hsz ?_;refine zL ?_
 try refine GA ?_
 subst hPK;subst Z7;refine dB (i:=1) rfl rfl rfl (hY kU rfl) rfl fun w hm=>hm.meets (S:=NI s R T) ⟨vo,vp,F,gP,qN,vT,gR,tj,⟨vA,pO,FA,vG,pP,FG⟩⟩ ⟨⟨k1,k2,k3⟩,b1,b2⟩ [3,4,5,6,7,17,18,19,20] (by decide) ?_;show _++Kh _ (ff (aZ s)).1 (ff (aZ s)).2.1=_
 rw[hOT];rfl
end bH
namespace bH
open Go.RowKit bL db av dg dj b9 qz ue
def NM(l:List av.Prod)(may:Nat->Nat)(T N:Nat):Bool:=decide ((gU l may T N).length=0)
def nxG(g:df)(T N:Nat)(word:List Int):Int->Nat->Int:=fun h a=>ue.rowAt g.ag (pN N g.ag) T h.toNat (ea T word a)
theorem Ee{g:df}{T N:Nat}(hg:bM g=0)(hT:g.aJ=T)(hN:g.aR=N)(hf:NM g.ag (pN N g.ag) T N=true){t:Tree}{word:List Int}(h:eA g.ag t (2,0) 0)(hy:eO g.ag t=word)(hw:∀x∈word,0<=x/\x<(T:Int)):Ff g.ag (nxG g T N word) t 0:=by
 obtain⟨_,a2,_⟩:=bI hg;have hC:=zw hg hN;have hs:=pq hg hN;have hp:0<=t.prod:=by
  obtain⟨p,k,kids⟩:=t;rw[eA]at h;rcases h with⟨e,_⟩|⟨_,e,_⟩
  ·cases e
  ·exact e
 have hl:=pg h hp;have Z8:gU g.ag (pN N g.ag) T N=[]:=List.eq_nil_of_length_eq_zero (of_decide_eq_true hf);have x8:zf g.ag (jy N g.ag).E (sY N g.ag) (tI N g.ag) (jy N g.ag).R (jy N g.ag).M word t 0:=by
  refine tE hC hs h hp hC.top ?_ ⟨[],by rw[hy];simp⟩;have e:kK word (0+leaves t)=63:=by unfold kK;rw[if_neg (by rw[<-hy];omega)]
  rw[e];exact hC.last
 exact LW hC hs (by omega) hw (fun i _=>rfl) (zj N Z8) h hp x8 ⟨[],by rw[hy];simp⟩
theorem TT{g:df}{T N:Nat}(hT:g.aJ=T)(hN:g.aR=N)(hf:NM g.ag (pN N g.ag) T N=true){word:List Int}(hc:gd g word=0):jX g word<=1:=by
 obtain⟨hg,_,hw⟩:=ku hc;rw[hT]at hw;apply Nat.le_of_not_lt;intro h2;obtain⟨t,t',hne,h1,y1,h2,y2⟩:=zh (g:=g) (w:=word) h2;exact hne (LV h1 h2 (fun _=>Ee hg hT hN hf h1 y1 hw) (fun _=>Ee hg hT hN hf h2 y2 hw))
end bH
namespace bH
open Go.RowKit bL db av ue
def nA(l:List av.Prod)(n:Nat):List Int->Int
 |[]=>0
 |p::r=>if p< -1 then 1 else if(l.length:Int)<=p then 1 else if 0<=p/\(l.getD p.toNat (0,[])).1≠(n:Int)then 1 else nA l n r
def lP(l:List av.Prod)(t:Int):Nat->List (List Int)->Int
 |_,[]=>0
 |n,r::rs=>if(r.length:Int)≠t+1 then 1 else if nA l n r≠0 then 1 else lP l t (n+1) rs
def NN(g:df)(ll:List (List Int)):Int:=if bM g≠0 then bM g else if(ll.length:Int)≠g.aR then 1 else lP g.ag g.aJ 0 ll
abbrev NO(w:World)(v:Value)(ll:List (List Int)):Prop:=gI (a8 eI) (fun k=>k<w.heap.size) w v ll
theorem Qu{F:Nat->Prop}{w:World}{b off:Nat}{ll:List (List Int)}(h:∀i (h:i<ll.length),∃cs,(a8 eI).is F w cs ll[i]/\Rd w b (off+i*(a8 eI).c) cs){k:Nat}(hk:k<ll.length):
 ∃vi,w.cell? ⟨b,off+k,none⟩=some vi/\Sl w vi ll[k].length (ll[k].map (.int .i64)):=by
 obtain⟨cs,⟨vi,rfl,h1⟩,hr⟩:=h k hk;refine⟨vi,?_,?_⟩
 ·have:=hr 0 vi rfl
  rwa [show(a8 eI).c=1 from rfl,Nat.mul_one,Nat.add_zero]at this
 ·have:=h1.flat (by decide)
  rw[show(ll[k].flatMap fun n=>[Value.int .i64 n])=ll[k].map (.int .i64)from by rw[List.flatMap_def];induction ll[k]with
   |nil=>rfl
   |cons x r ih=>simp only[List.map_cons,List.flatten_cons,ih];rfl]at this
  exact this
set_option maxRecDepth 100000 in
theorem yx(v vr:Value)(g:df)(ll:List (List Int))(w:World)(h:jf (fun k=>k<w.heap.size) w v g)(hr:NO w vr ll):
    Calls Tryz.prog 19 #[v,vr] w (bU (ret (.int .i64 (NN g ll))) w):=by
  have gD:=fun w' (hg:Gr w w')=>e_ v g w' (h.gr hg);obtain⟨vp,rfl,h1,_⟩:=h;obtain⟨br,cr,rfl,EV,l_,yY⟩:=hr;unfold maxLen at l_;unfold NN
  by_cases c0:bM g=0
  · rw[if_neg (by simpa using c0)]
    obtain⟨a1,a2,a3,a4,a5,_⟩:=bI c0;rw[c0]at gD;obtain⟨t,nn,ag⟩:=g;dsimp only at*;obtain⟨bp,cp,rfl,Hm,BU,lU⟩:=h1;unfold maxLen at BU;refine enter (args:=[cH t nn (.slice bp ag.length cp),.slice br ll.length cr]) (n:=64) Tryz.func19 rfl rfl rfl ?_;refine bJ (aV (bK rfl rfl rfl fun g2=>?_));refine zL ?_
    repeat(first|refine GA ?_|refine gV (aE (i:=0) ak.ty rfl rfl rfl) ?_)
    refine aM (iT aj.en rfl rfl) (fun w hm=>gD _ hm.below) rfl rfl rfl ?_;intro _ _;refine zL ?_
    by_cases c1:(ll.length:Int)=nn
    · rw[if_neg (by simpa using c1)]
      repeat(first|refine GA ?_|refine gV (J ak.ty rfl (ah (i:=0) rfl rfl)) ?_)
      generalize ke:lP ag t 0 ll=res;refine cX (ι:=Nat) (fun n=>n<=ll.length/\res=lP ag t n (ll.drop n)) (fun n=>[(2,.pointer (some ⟨g2,0,none⟩)),(20,.slice br ll.length cr),(21,.int .i64 ll.length),(22,.int .i64 (n:Int))]) (fun _=>[ap g2 (cH t nn (.slice bp ag.length cp)).cells 33]) (fun n=>ll.length-n) 0 ⟨Nat.zero_le _,by rw[List.drop_zero];exact ke.symm⟩ ?_;clear ke;rintro n ⟨i1,i2⟩
      by_cases c2:n<ll.length
      · obtain⟨b,off,rfl,_,eV⟩:=yY (by omega)
        obtain⟨vi,y1,y2⟩:=Qu eV c2;have du:∀L,At w L ⟨b,off+n,none⟩ vi:=fun L=>iv y1;rw[List.drop_eq_getElem_cons c2,lP]at i2;clear eV y1;generalize ll[n]=r at*;obtain⟨bi,ci,rfl,z1,z2,z3⟩:=y2;unfold maxLen at z2
        by_cases c3:(r.length:Int)=t+1
        · rw[if_neg (by simpa using c3)]at i2
          repeat(first|refine GA ?_|refine gV (aO aT.eq ak.ty rfl rfl c2) ?_|refine gV (J ak.ty rfl (du _)) ?_|refine gV (J ak.ty rfl (ah (i:=0) rfl rfl)) ?_)
          refine cX (ι:=Nat) (fun j=>j<=r.length/\nA ag n r=nA ag n (r.drop j)) (fun j=>[(2,.pointer (some ⟨g2,0,none⟩)),(6,.int .i64 (n:Int)),(20,.slice (some ⟨b,off,none⟩) ll.length cr),(21,.int .i64 ll.length),(22,.int .i64 (n:Int)),(33,.slice bi r.length ci),(34,.int .i64 r.length),(35,.int .i64 (j:Int))]) (fun _=>[ap g2 (cH t nn (.slice bp ag.length cp)).cells 33]) (fun j=>r.length-j) 0 ⟨Nat.zero_le _,rfl⟩ ?_;rintro j ⟨j1,j2⟩
          by_cases c4:j<r.length
          · obtain⟨b',uc,rfl,ur⟩:=z3 (by omega)
            have NP:=fun L=>FE (L:=L) ur c4;rw[List.drop_eq_getElem_cons c4,nA]at j2;clear ur z3;generalize r[j]=p at*
            by_cases e1:p< -1
            · rw[if_pos e1]at j2
              rw[j2,if_pos (by decide)]at i2;subst i2
              repeat(first|refine GA ?_|refine gV (aO aT.eq ak.ty rfl rfl c4) ?_|refine gV (J ak.ty rfl (NP _)) ?_|refine gV (J ak.ty rfl (ah (i:=0) rfl rfl)) ?_)
              exact da
            by_cases e2:(ag.length:Int)<=p
            · rw[if_neg e1,if_pos e2]at j2
              rw[j2,if_pos (by decide)]at i2;subst i2
              repeat(first|refine GA ?_|refine gV (aO aT.eq ak.ty rfl rfl c4) ?_|refine gV (J ak.ty rfl (NP _)) ?_|refine gV (J ak.ty rfl (ah (i:=0) rfl rfl)) ?_)
              exact da
            rw[if_neg e1,if_neg e2]at j2
            by_cases e3:0<=p
            · obtain⟨m,rfl⟩:∃m:Nat,p=m:=⟨p.toNat,by omega⟩
              have hm:m<ag.length:=by omega
              obtain⟨bq,Z9,rfl,_,hrq⟩:=lU (by omega);obtain⟨bb,cb,q1,_,_⟩:=jF hrq hm;have WZ:∀(L:List bz),At w L ⟨bq,Z9+m*2+0,none⟩ (.int .i64 ag[m].1):=fun L=>iv (q1 0 _ rfl);rw[Int.toNat_natCast,List.getD_eq_getElem?_getD,List.getElem?_eq_getElem hm]at j2;dsimp only[Option.getD]at j2;clear q1 hrq;generalize ag[m]=pd at*;obtain⟨hd,_⟩:=pd;dsimp only at*
              by_cases e4:hd=(n:Int)
              · rw[if_neg (fun h=>h.2 e4)]at j2
                repeat(first|refine GA ?_|refine gV (aO aT.eq ak.ty rfl rfl c4) ?_|refine gV (J ak.ty rfl (NP _)) ?_|refine gV (J ak.ty rfl (ah (i:=0) rfl rfl)) ?_|refine gV (aH aT.eq ak.ty rfl rfl hm) ?_|refine gV (J ak.ty rfl (WZ _)) ?_)
                exact aY (j+1) ⟨by omega,j2⟩ (by omega)
              · rw[if_pos ⟨e3,e4⟩]at j2
                rw[j2,if_pos (by decide)]at i2;subst i2
                repeat(first|refine GA ?_|refine gV (aO aT.eq ak.ty rfl rfl c4) ?_|refine gV (J ak.ty rfl (NP _)) ?_|refine gV (J ak.ty rfl (ah (i:=0) rfl rfl)) ?_|refine gV (aH aT.eq ak.ty rfl rfl hm) ?_|refine gV (J ak.ty rfl (WZ _)) ?_)
                exact da
            · rw[if_neg (fun h=>e3 h.1)]at j2
              repeat(first|refine GA ?_|refine gV (aO aT.eq ak.ty rfl rfl c4) ?_|refine gV (J ak.ty rfl (NP _)) ?_|refine gV (J ak.ty rfl (ah (i:=0) rfl rfl)) ?_)
              exact aY (j+1) ⟨by omega,j2⟩ (by omega)
          · rw[List.drop_of_length_le (by omega),nA]at j2
            rw[j2,if_neg (by decide)]at i2
            try refine GA ?_
            exact aY (n+1) ⟨by omega,i2⟩ (by omega)
        · rw[if_pos (by simpa using c3)]at i2
          subst i2
          repeat(first|refine GA ?_|refine gV (aO aT.eq ak.ty rfl rfl c2) ?_|refine gV (J ak.ty rfl (du _)) ?_|refine gV (J ak.ty rfl (ah (i:=0) rfl rfl)) ?_)
          exact da
      · rw[List.drop_of_length_le (by omega),lP]at i2
        subst i2
        try refine GA ?_
        exact da
    · rw[if_pos (by simpa using c1)]
      repeat(first|refine GA ?_|refine gV (J ak.ty rfl (ah (i:=0) rfl rfl)) ?_)
      exact da
  · rw[if_pos (by simpa using c0)]
    generalize bM g=e at*;refine enter (args:=[cH g.aJ g.aR vp,.slice br ll.length cr]) (n:=64) Tryz.func19 rfl rfl rfl ?_;refine bJ (aV (bK rfl rfl rfl fun g2=>?_));refine zL ?_
    repeat(first|refine GA ?_|refine gV (aE (i:=0) ak.ty rfl rfl rfl) ?_)
    refine aM (iT aj.en rfl rfl) (fun w hm=>gD _ hm.below) rfl rfl rfl ?_;intro _ _;refine zL ?_
    try refine GA ?_
    exact da
theorem NQ{l:List av.Prod}{may:Nat->Nat}{T N g:Nat}{vs:Nat->Value}{w:World}(hl:l.length<=40)(hN:N<=20)(h1:(dC 26 o9 g N vs).holds w)(h2:(ft (fun j=>j<N) (jm l may T vs N 0)).holds w):
    NO w (.slice (some ⟨g,0,none⟩) N N) (im N fun n=>im (T+1) (ue.rowAt l may T n)):=by
  refine⟨some ⟨g,0,none⟩,N,by rw[e9],by rw[e9];exact Nat.le_refl _,by unfold maxLen;omega,fun h0=>⟨g,0,rfl,(dC 26 o9 g N vs).lt w h1 g (.inl rfl),fun i hi=>?_⟩⟩;rw[e9]at hi;have hf:=h2.1 i hi;unfold jm ul at hf;rw[if_pos hi]at hf;have lY:(im N fun n=>im (T+1) (ue.rowAt l may T n))[i]'(by rw[e9];exact hi)=im (T+1) (ue.rowAt l may T i):=by simp[im]
  rw[lY];refine⟨[vs i],⟨vs i,rfl,?_⟩,fun j u hj=>?_⟩
  · have hs:=Sl.cD hf
    refine gI.of_flat (p:=bL.bX) (by rw[e9];rw[show((im (T+1) (ue.rowAt l may T i)).flatMap fun n=>[Value.int .i64 n])=(im (T+1) (ue.rowAt l may T i)).map TO from by
        rw[List.flatMap_def]
        induction im (T+1) (ue.rowAt l may T i)with
        |nil=>rfl
        |cons x r ih=>simp only[List.map_cons,List.flatten_cons,ih];rfl];exact hs) (fun a ha=>?_) (fun b hb=>(aI 3 1 (vs i) (T+1) _).lt w hf b (.inl hb)) (fun a n cp he=>?_)
    · unfold im at ha
      obtain⟨c,_,rfl⟩:=List.mem_map.1 ha;have:=rL (l:=l) (may:=may) (T:=T) i c l.length;unfold ue.rowAt;exact⟨by omega,by omega⟩
    · have hr:w.ownsRow 0 3 1 (vs i) (T+1) _:=hf
      rcases hr.2 with⟨hv,h⟩|⟨gg,cap,kp,hv,_⟩
      · omega
      · rw[hv]at he
        simp only[Value.slice.injEq,Option.some.injEq]at he;rw[<-he.1];exact(aI 3 1 (vs i) (T+1) _).lt w hf gg (.inl (by rw[hv];rfl))
  · have S4:j=0:=by
      have:=(List.getElem?_eq_some_iff.1 hj).1;simp at this;omega
    subst S4;simp only[List.getElem?_cons_zero,Option.some.injEq]at hj;subst hj;have:=sN h1 hi;rw[show 0+i*(a8 eI).c+0=0+i by rw[show(a8 eI).c=1 from rfl];omega];exact this
end bH
namespace bH
open Go.RowKit bL db av dg b9 aX bT
def Kj(w:World)(t:Value)(A:List (List aX.Act))(G:List (List Int)):Prop:=∃vA vG,t= .agg #[vA,vG]/\gI (a8 qO) (fun k=>k<w.heap.size) w vA A/\gI (a8 eI) (fun k=>k<w.heap.size) w vG G
theorem Kj.gr{w w':World}{t:Value}{A:List (List aX.Act)}{G:List (List Int)}(h:Kj w t A G)(hg:Gr w w'):Kj w' t A G:=let ⟨a,b,h1,h2,h3⟩:=h;⟨a,b,h1,h2.gr hg,h3.gr hg⟩
theorem Qv{w:World}{x:Gy}{A:List (List aX.Act)}{G:List (List Int)}(h1:(aI 120 1 x.vA A.length x.pO).holds w)(h2:(cY (a8 qO) x.FA (x.pO.map fun v=>[v]) A).holds w)(h3:(aI 26 1 x.vG G.length x.pP).holds w)(h4:(cY (a8 eI) x.FG (x.pP.map fun v=>[v]) G).holds w):Kj w (.agg #[x.vA,x.vG]) A G:=by
 have XE:(aI 120 (a8 qO).c x.vA A.length (x.pO.map fun v=>[v]).flatten).holds w:=by rw[xu];exact h1
 have h3':(aI 26 (a8 eI).c x.vG G.length (x.pP.map fun v=>[v]).flatten).holds w:=by rw[xu];exact h3
 exact⟨x.vA,x.vG,rfl,(AC XE h2 (by decide)).mono fun k hk=>AD XE h2 k hk,(AC h3' h4 (by decide)).mono fun k hk=>AD h3' h4 k hk⟩
theorem NR{α:Type}{s:qQ α}{F:Nat->Prop}{w:World}{base:Option Addr}{n cap:Nat}{l:List (List α)}(h:gI (a8 s) F w (.slice base n cap) l){i:Nat}(hi:i<l.length):∃b off vi,base=some ⟨b,off,none⟩/\w.cell? ⟨b,off+i,none⟩=some vi/\gI s F w vi l[i]:=by
 obtain⟨RJ,Ew,e,_,_,h3⟩:=h
 cases e
 obtain⟨b,off,rfl,_,h4⟩:=h3 (by omega);obtain⟨cs,⟨vi,rfl,h5⟩,h6⟩:=h4 i hi;refine⟨b,off,vi,rfl,?_,h5⟩;have:=h6 0 vi rfl
 rwa [show off+i*(a8 s).c+0=off+i by show off+i*1+0=_;omega]at this
theorem sk{α:Type}{s:qQ α}{F:Nat->Prop}{w:World}{v:Value}{l:List α}(h:gI s F w v l):∃base cap,v= .slice base l.length cap/\l.length<=cap/\cap<=9223372036854775807:=let ⟨b,c,h1,h2,h3,_⟩:=h;⟨b,c,h1,h2,by unfold maxLen at h3;omega⟩
def sm(T P n:Nat)(x:aX.Act)(c:Nat):Prop:=(x.1=0/\x.2=0)\/(x.1=1/\c<T/\0<=x.2/\x.2<(n:Int))\/(x.1=2/\0<=x.2/\x.2<(P:Int))\/(x.1=3/\x.2=0/\c=T)
theorem BO(T P n:Nat)(nn:Int)(bp:Option Addr)(cp:Nat)(aA:Option Addr)(cA:Nat)(vG:Value)(x:aX.Act)(c:Nat)(h:sm T P n x c)(w:World):
 Calls Tryz.prog 40 #[cH (T:Int) nn (.slice bp P cp),.agg #[.slice aA n cA,vG],.agg (jb x).toArray,.int .i64 (c:Int)] w (bU (ret (.bool true)) w):=by
 obtain⟨k,m⟩:=x;unfold sm at h;dsimp only at h;refine enter (args:=[cH (T:Int) nn (.slice bp P cp),.agg #[.slice aA n cA,vG],.agg (jb (k,m)).toArray,.int .i64 (c:Int)]) (n:=59) Tryz.func40 rfl rfl rfl ?_;refine bJ (aV (bK rfl rfl rfl fun g4=>?_));refine zL ?_;refine bK rfl rfl rfl fun g5=>?_;refine zL ?_;refine bK rfl rfl rfl fun g6=>?_;refine zL ?_;rcases h with⟨rfl,rfl⟩|⟨rfl,h1,h2,h3⟩|⟨rfl,h1,h2⟩|⟨rfl,rfl,rfl⟩
 ·repeat(first|refine GA ?_|refine gV (J (v:= .int .i64 0) ak.ty rfl (ah (i:=2) rfl rfl)) ?_)
  exact da
 ·repeat(first|refine GA ?_|refine gV (J (v:= .int .i64 1) ak.ty rfl (ah (i:=2) rfl rfl)) ?_|refine gV (J (v:= .int .i64 m) ak.ty rfl (ah (i:=2) rfl rfl)) ?_|refine gV (J (v:= .int .i64 (T:Int)) ak.ty rfl (ah (i:=0) rfl rfl)) ?_|refine gV (J (v:= .slice aA n cA) ak.ty rfl (ah (i:=1) rfl rfl)) ?_)
  exact da
 ·repeat(first|refine GA ?_|refine gV (J (v:= .int .i64 2) ak.ty rfl (ah (i:=2) rfl rfl)) ?_|refine gV (J (v:= .int .i64 m) ak.ty rfl (ah (i:=2) rfl rfl)) ?_|refine gV (J (v:= .slice bp P cp) ak.ty rfl (ah (i:=0) rfl rfl)) ?_)
  exact da
 ·repeat(first|refine GA ?_|refine gV (J (v:= .int .i64 3) ak.ty rfl (ah (i:=2) rfl rfl)) ?_|refine gV (J (v:= .int .i64 0) ak.ty rfl (ah (i:=2) rfl rfl)) ?_|refine gV (J (v:= .int .i64 (c:Int)) ak.ty rfl (ah (i:=0) rfl rfl)) ?_)
  exact da
structure Qw(g:df)(T N:Nat)(A:List (List aX.Act))(G:List (List Int)):Prop where
 um:bM g=0
 aJ:g.aJ=(T:Int)
 aR:g.aR=(N:Int)
 pos:0<A.length
 xU:A.length<=200
 same:G.length=A.length
 wA:∀i (h:i<A.length),A[i].length=T+1
 rv:∀i (h:i<A.length),∀c (hc:c<A[i].length),sm T g.ag.length A.length A[i][c] c
 wG:∀i (h:i<G.length),G[i].length=N
 Z_:∀i (h:i<G.length),∀y∈G[i],-1<=y/\y<(A.length:Int)
theorem yy(v t:Value)(g:df)(T N:Nat)(A:List (List aX.Act))(G:List (List Int))(h:Qw g T N A G)(w:World)(hG:jf (fun k=>k<w.heap.size) w v g)(ht:Kj w t A G):
 Calls Tryz.prog 20 #[v,t] w (bU (ret (.int .i64 0)) w):=by
 have gD:=fun w' (hg:Gr w w')=>e_ v g w' (hG.gr hg);obtain⟨vp,rfl,hp,-,-⟩:=hG;obtain⟨bp,cp,rfl,-⟩:=hp;obtain⟨vA,vG,rfl,hA,hGo⟩:=ht;obtain⟨aA,cA,rfl,-,-⟩:=sk hA;obtain⟨aG,cG,rfl,-,-⟩:=sk hGo;obtain⟨hg,BY,XO,yj,yo,n_,hwA,W1,hwG,W4⟩:=h;obtain⟨Zt,Zu,-,Uq,tF,-⟩:=bI hg;rw[hg]at gD;rw[BY,XO]at gD⊢;refine enter (args:=[cH (T:Int) (N:Int) (.slice bp g.ag.length cp),.agg #[.slice aA A.length cA,.slice aG G.length cG]]) (n:=93) Tryz.func20 rfl rfl rfl ?_;refine bJ (aV (bK rfl rfl rfl fun g2=>?_));refine zL ?_;refine bK rfl rfl rfl fun g3=>?_;refine zL ?_
 repeat(first|refine GA ?_|refine gV (aE (i:=0) ak.ty rfl rfl rfl) ?_)
 refine aM (iT aj.en rfl rfl) (fun w hm=>gD w hm.below) rfl rfl rfl ?_;intro _ _;refine zL ?_
 repeat(first|refine GA ?_|refine gV (J (v:= .slice aA A.length cA) ak.ty rfl (ah (i:=1) rfl rfl)) ?_|refine gV (J (v:= .slice aG G.length cG) ak.ty rfl (ah (i:=1) rfl rfl)) ?_)
 clear gD;refine cX (ι:=Nat) (fun i=>i<=A.length) (fun i=>[(2,.pointer (some ⟨g2,0,none⟩)),(3,.pointer (some ⟨g3,0,none⟩)),(6,.int .i64 (A.length:Int)),(31,.int .i64 (A.length:Int)),(32,.int .i64 (i:Int))])
  (fun _=>[ap g2 (cH (T:Int) (N:Int) (.slice bp g.ag.length cp)).cells 33,ap g3 (Value.agg #[.slice aA A.length cA,.slice aG G.length cG]).cells 36]) (fun i=>A.length-i) 0 (Nat.zero_le _) ?_
 intro i i1
 by_cases c1:i<A.length
 ·have W5:i<G.length:=by omega
  obtain⟨bA,oA,vi,rfl,hcA,Z'⟩:=NR hA c1;obtain⟨bG,oG,wi,rfl,hcG,hsG⟩:=NR hGo W5;obtain⟨ai,ci,rfl,hci,aaN⟩:=sk Z';obtain⟨ei,di,rfl,hdi,aaO⟩:=sk hsG;have hfA:=Z'.flat (f:=jb) (by decide);have hfG:=hsG.flat (f:=fun n=>[Value.int .i64 n]) (by decide);have aaP:=hwA i c1;have aaQ:=hwG i W5;have W6:=W1 i c1;have W7:=W4 i W5;obtain⟨_,_,e1,-,-,hrA⟩:=hfA
  cases e1
  obtain⟨_,_,e2,-,-,hrG⟩:=hfG
  cases e2
  clear Z' hsG W1 W4 hwA hwG;have W8:∀L,At (w:bB) L ⟨bA,oA+i,none⟩ (.slice ai A[i].length ci):=fun L=>iv hcA;have W9:∀L,At (w:bB) L ⟨bG,oG+i,none⟩ (.slice ei G[i].length di):=fun L=>iv hcG;generalize A[i]=X at*;generalize G[i]=Y at*
  try refine GA ?_
  refine dw ([ap g2 (cH (T:Int) (N:Int) (.slice bp g.ag.length cp)).cells 33,ap g3 (Value.agg #[.slice (some ⟨bA,oA,none⟩) A.length cA,.slice (some ⟨bG,oG,none⟩) G.length cG]).cells 36]) (.calm 0 (.calm 1 (.calm 2 (.calm 3 (.calm 4 (.calm 5 (.calm 6 (.calm 7 (.calm 8 (.calm 9 (.calm 10 (.calm 11 (.calm 12 (.calm 13 (.calm 14 (.calm 15 (.calm 16 (.calm 17 (.calm 18 (.calm 19 (.calm 20 (.done)))))))))))))))))))))) (fun _ h=>h) ?_
  repeat(first|refine GW ?_|(refine GN ?_;first|refine QW (J (v:= .slice (some ⟨bA,oA,none⟩) A.length cA) ak.ty rfl (ah (i:=1) rfl rfl)) ?_|refine QW (aO aT.eq ak.ty rfl rfl c1) ?_|refine QW (J (v:= .slice ai X.length ci) ak.ty rfl (W8 _)) ?_|refine QW (J (v:= .int .i64 (T:Int)) ak.ty rfl (ah (i:=0) rfl rfl)) ?_|refine QW (J (v:= .slice (some ⟨bG,oG,none⟩) G.length cG) ak.ty rfl (ah (i:=1) rfl rfl)) ?_|refine QW (aO aT.eq ak.ty rfl rfl W5) ?_|refine QW (J (v:= .slice ei Y.length di) ak.ty rfl (W9 _)) ?_|refine QW (J (v:= .int .i64 (N:Int)) ak.ty rfl (ah (i:=0) rfl rfl)) ?_))
  repeat(first|refine GA ?_|refine gV (J (v:= .slice (some ⟨bA,oA,none⟩) A.length cA) ak.ty rfl (ah (i:=1) rfl rfl)) ?_|refine gV (aO aT.eq ak.ty rfl rfl c1) ?_|refine gV (J (v:= .slice ai X.length ci) ak.ty rfl (W8 _)) ?_)
  refine cX (ι:=Nat) (fun c=>c<=X.length) (fun c=>[(2,.pointer (some ⟨g2,0,none⟩)),(3,.pointer (some ⟨g3,0,none⟩)),(6,.int .i64 (A.length:Int)),(7,.int .i64 (i:Int)),(31,.int .i64 (A.length:Int)),(32,.int .i64 (i:Int)),(60,.slice ai X.length ci),(61,.int .i64 (X.length:Int)),(62,.int .i64 (c:Int))])
   (fun _=>[ap g2 (cH (T:Int) (N:Int) (.slice bp g.ag.length cp)).cells 33,ap g3 (Value.agg #[.slice (some ⟨bA,oA,none⟩) A.length cA,.slice (some ⟨bG,oG,none⟩) G.length cG]).cells 36]) (fun c=>X.length-c) 0 (Nat.zero_le _) ?_
  intro c j1
  by_cases c2:c<X.length
  ·obtain⟨b,off,rfl,eV⟩:=hrA (by omega)
   have du:=fun L=>fx (L:=L) o_ eV c2;have Bm:∀(L:List bz) (j:Nat) (u:Value),(jb X[c])[j]?=some u->At (w:bB) L ⟨b,off+c*2+j,none⟩ u:=du;have VD:=W6 c c2;clear du;generalize X[c]=x at*;have V9:=BO T g.ag.length A.length (N:Int) bp cp (some ⟨bA,oA,none⟩) cA (.slice (some ⟨bG,oG,none⟩) G.length cG) x c VD
   repeat(first|refine GA ?_|refine gV (aH aT.eq ak.ty rfl rfl c2) ?_|refine gV (aK (cs:=jb x) ak.ty rfl rfl (Bm _)) ?_)
   refine aF rfl fun g9=>?_;refine zL ?_
   try refine GA ?_
   refine fU 2 (cs':=(jb x).toArray) ?_;refine zL ?_
   repeat(first|refine GA ?_|refine gV (aE (i:=0) ak.ty rfl rfl rfl) ?_|refine gV (aE (i:=1) ak.ty rfl rfl rfl) ?_|refine gV (aE (i:=2) ak.ty rfl rfl rfl) ?_)
   refine aM (X8 aj.en rfl rfl rfl rfl rfl) (fun w hm=>V9 w) rfl rfl rfl ?_;intro _ _;refine zL ?_
   try refine GA ?_
   refine bR [0,1] ?_;exact aY (c+1) (by omega) (by show X.length-(c+1)<X.length-c;omega)
  obtain rfl:c=X.length:=by omega
  repeat(first|refine GA ?_|refine gV (J (v:= .slice (some ⟨bG,oG,none⟩) G.length cG) ak.ty rfl (ah (i:=1) rfl rfl)) ?_|refine gV (aO aT.eq ak.ty rfl rfl W5) ?_|refine gV (J (v:= .slice ei Y.length di) ak.ty rfl (W9 _)) ?_)
  refine cX (ι:=Nat) (fun c=>c<=Y.length) (fun c=>[(2,.pointer (some ⟨g2,0,none⟩)),(3,.pointer (some ⟨g3,0,none⟩)),(6,.int .i64 (A.length:Int)),(31,.int .i64 (A.length:Int)),(32,.int .i64 (i:Int)),(78,.slice ei Y.length di),(79,.int .i64 (Y.length:Int)),(80,.int .i64 (c:Int))])
   (fun _=>[ap g2 (cH (T:Int) (N:Int) (.slice bp g.ag.length cp)).cells 33,ap g3 (Value.agg #[.slice (some ⟨bA,oA,none⟩) A.length cA,.slice (some ⟨bG,oG,none⟩) G.length cG]).cells 36]) (fun c=>Y.length-c) 0 (Nat.zero_le _) ?_
  intro c k1
  by_cases c3:c<Y.length
  ·obtain⟨b,off,rfl,eV⟩:=hrG (by omega)
   have du:=fun L=>fx (L:=L) (f:=fun n=>[Value.int .i64 n]) (c:=1) (fun _=>rfl) eV c3 0 _ rfl;have Bm:∀(L:List bz),At (w:bB) L ⟨b,off+c*1+0,none⟩ (.int .i64 Y[c]):=du;have hgo:=W7 Y[c] (List.getElem_mem c3);clear du;generalize Y[c]=y at*
   repeat(first|refine GA ?_|refine gV (aH aT.eq ak.ty rfl rfl c3) ?_|refine gV (J (v:= .int .i64 y) ak.ty rfl (Bm _)) ?_)
   exact aY (c+1) (by omega) (by show Y.length-(c+1)<Y.length-c;omega)
  obtain rfl:c=Y.length:=by omega
  try refine GA ?_
  exact aY (i+1) (by omega) (by show A.length-(i+1)<A.length-i;omega)
 ·obtain rfl:i=A.length:=by omega
  try refine GA ?_
  exact da
def xL(g:df):Bool:=decide ((ff g).2.2.2=0)&&decide ((ff g).2.2.1.length=0)
end bH
namespace bH
open Go.RowKit bL db rl bT
structure PkM(w:World)(vn vt:Value)(N:List (List Int))(tags:List Int):Prop where
 ex:∃(b off cap:Nat) (vs:Nat->Value),vn= .slice (some ⟨b,off,none⟩) N.length cap/\∀i (h:i<N.length),w.cell? ⟨b,off+i,none⟩=some (vs i)/\Sl w (vs i) N[i].length (N[i].flatMap bL.dK)
 hT:Sl w vt tags.length (tags.flatMap bL.dK)
structure NS(o:Of)(N:List (List Int))(tags:List Int)(wide:Nat):Prop where
 pos:0<N.length
 le:N.length<=200
 len:tags.length=N.length
 w0:0<wide
 w1:wide<=256
 row:∀i (h:i<N.length),N[i].length=wide
 tag:∀i (h:i<tags.length),-1<=tags[i]/\tags[i]<20
 Tk:∀i (h:i<N.length),∀j (h':j<N[i].length),-1<=N[i][j]/\N[i][j]<N.length
 of:∀b (h:b<256),o[b]<wide
theorem PkM.gr{w w':World}{vn vt:Value}{N:List (List Int)}{tags:List Int}(h:PkM w vn vt N tags)(hg:Gr w w'):PkM w' vn vt N tags:=by
 obtain⟨b,off,cap,vs,h1,h2⟩:=h.ex;refine⟨⟨b,off,cap,vs,h1,fun i hi=>⟨?_,(h2 i hi).2.gr hg⟩⟩,h.hT.gr hg⟩;rw[hg.cell (World.block_lt_of_cell? w _ (h2 i hi).1)];exact(h2 i hi).1
def Qx(o:Of):List Value:=o.toList.map fun n:Nat=> .int .u8 (n:Int)
theorem Qy(o:Of):(Qx o).length=256:=by simp[Qx]
theorem Qz(o:Of){b:Nat}(h:b<256):(Qx o).toArray[b]?=some (.int .u8 (o[b]:Int)):=by
 rw[List.getElem?_toArray];unfold Qx;rw[List.getElem?_map,List.getElem?_eq_getElem (by simpa using h),Vector.getElem_toList];rfl
theorem TU(o:Of)(vn vt:Value){j:Nat}{v:Value}(h:(Qx o)[j]?=some v):(kZ o vn vt).toArray[0+j]?=some v:=by
 have hj:j<(Qx o).length:=(List.getElem?_eq_some_iff.1 h).1;rw[Nat.zero_add,List.getElem?_toArray];show(Qx o++[vn,vt])[j]?=_
 rw[List.getElem?_append_left hj];exact h
end bH
namespace bH
open Go.RowKit bL db bT
structure UP(w:World)(vn vt:Value)(N:List (List Int))(tags:List Int):Prop where
 hN:gI (a8 eI) (mU w) w vn N
 hT:Sl w vt tags.length (tags.flatMap bL.dK)
theorem UP.gr{w w':World}{vn vt:Value}{N:List (List Int)}{tags:List Int}(h:UP w vn vt N tags)(hg:Gr w w'):UP w' vn vt N tags:=⟨A7 h.hN hg,h.hT.gr hg⟩
abbrev qP(o:Of)(N:List (List Int))(tags:List Int):Prop:=NS o N tags (N.headD []).length
open Classical in
noncomputable def Ef(o:Of)(N:List (List Int))(tags:List Int):Int:=if 200<N.length then 2 else if qP o N tags then 0 else 1
def Eg(N:List (List Int))(tags:List Int)(wide i:Nat):Prop:=(N.getD i []).length=wide/\ -1<=tags.getD i 0/\tags.getD i 0<20/\∀x∈N.getD i [],-1<=x/\x<N.length
theorem QB{o:Of}{N:List (List Int)}{tags:List Int}{wide:Nat}(h:NS o N tags wide){i:Nat}(hi:i<N.length):Eg N tags wide i:=by
 have hit:i<tags.length:=by rw[h.len];exact hi
 unfold Eg;rw[List.getD_eq_getElem?_getD,List.getElem?_eq_getElem hi,List.getD_eq_getElem?_getD,List.getElem?_eq_getElem hit];refine⟨h.row i hi,(h.tag i hit).1,(h.tag i hit).2,fun x hx=>?_⟩;obtain⟨j,hj,rfl⟩:=List.mem_iff_getElem.1 hx;exact h.Tk i hi j hj
theorem QC{o:Of}{N:List (List Int)}{tags:List Int}{wide:Nat}(h0:0<N.length)(h1:N.length<=200)(h2:tags.length=N.length)(h3:0<wide)(h4:wide<=256)(h5:∀i,i<N.length->Eg N tags wide i)(h6:∀b (h:b<256),o[b]<wide):NS o N tags wide:=by
 have g:∀i (hi:i<N.length),N.getD i []=N[i]:=fun i hi=>by rw[List.getD_eq_getElem?_getD,List.getElem?_eq_getElem hi];rfl
 have gt:∀i (hi:i<tags.length),tags.getD i 0=tags[i]:=fun i hi=>by rw[List.getD_eq_getElem?_getD,List.getElem?_eq_getElem hi];rfl
 refine⟨h0,h1,h2,h3,h4,fun i hi=>?_,fun i hi=>?_,fun i hi j hj=>?_,h6⟩
 ·have:=(h5 i hi).1;rwa [g i hi]at this
 ·have:=h5 i (by omega);unfold Eg at this;rw[gt i hi]at this;exact⟨this.2.1,this.2.2.1⟩
 ·have:=(h5 i hi).2.2.2;rw[g i hi]at this;exact this _ (List.getElem_mem hj)
theorem TV{o:Of}{N:List (List Int)}{tags:List Int}(h:200<N.length):Ef o N tags=2:=if_pos h
theorem TY{o:Of}{N:List (List Int)}{tags:List Int}(h:¬200<N.length)(hg:¬qP o N tags):Ef o N tags=1:=by unfold Ef;rw[if_neg h,if_neg hg]
theorem GK{o:Of}{N:List (List Int)}{tags:List Int}(hg:qP o N tags):Ef o N tags=0:=by unfold Ef;rw[if_neg (by have:=hg.le;omega),if_pos hg]
theorem Eh(o:Of)(vn vt:Value)(N:List (List Int))(tags:List Int)(w:World)(h:UP w vn vt N tags)(ho:∀b (h:b<256),o[b]<256):
    Calls Tryz.prog 17 #[UM o vn vt] w (bU (ret (.int .i64 (Ef o N tags))) w):=by
  obtain⟨⟨an,cn,rfl,hn1,Xh,hn3⟩,at',ct,rfl,Xr,OT,EW⟩:=h;unfold maxLen at Xh OT;have RV:=fun h hg=>TY (o:=o) (N:=N) (tags:=tags) h hg;have Wl:=fun h=>TV (o:=o) (N:=N) (tags:=tags) h;have hE0:=fun h=>GK (o:=o) (N:=N) (tags:=tags) h;generalize Ef o N tags=e at*;refine enter (args:=[UM o (.slice an N.length cn) (.slice at' tags.length ct)]) (n:=92) Tryz.func17 rfl rfl rfl ?_;refine bJ (aV (bK rfl rfl rfl fun g1=>?_))
  by_cases c1:200<N.length
  · rw[Wl c1]
    repeat(first|refine GC ?_|refine gV (J ak.ty rfl (ah (i:=0) rfl (km _ _ _))) ?_|refine gV (eo (b:=true) rfl rfl (decide_eq_true (by omega))) ?_|refine GB ?_)
    exact dh rfl rfl rfl
  by_cases c2:N.length=0
  · rw[RV c1 (fun h=>by have:=h.pos;omega)]
    repeat(first|refine GC ?_|refine gV (J ak.ty rfl (ah (i:=0) rfl (km _ _ _))) ?_|refine gV (eo (b:=false) rfl rfl (decide_eq_false (by omega))) ?_|refine gV (cJ (b:=true) rfl rfl (decide_eq_true (by omega))) ?_|refine GB ?_)
    exact dh rfl rfl rfl
  by_cases c3:tags.length=N.length
  case neg=>
    rw[RV c1 (fun h=>c3 h.len)]
    repeat(first|refine GC ?_|refine gV (J ak.ty rfl (ah (i:=0) rfl (km _ _ _))) ?_|refine gV (J ak.ty rfl (ah (i:=0) rfl (nv _ _ _))) ?_|refine gV (eo (b:=false) rfl rfl (decide_eq_false (by omega))) ?_|refine gV (cJ (b:=false) rfl rfl (decide_eq_false (by omega))) ?_|refine gV (cB (b:=true) rfl rfl (decide_eq_true (by omega))) ?_|refine GB ?_)
    exact dh rfl rfl rfl
  obtain⟨bn,TZ,rfl,_,Kp⟩:=hn3 (by omega);obtain⟨bt,T1,rfl,htd⟩:=EW (by omega);clear hn3 EW;obtain⟨u0,⟨a0,c0,rfl,-⟩,XL⟩:=A8 Kp (show 0<N.length by omega);have TQ:=fun(L:List bz)=>iD (L:=L) XL (j:=0) (v:= .slice a0 (N[0]'(by omega)).length c0) rfl;have hw:(N.headD []).length=(N[0]'(by omega)).length:=by cases N with
    |nil=>simp at c2
    |cons x r=>rfl
  have rm:qP o N tags↔NS o N tags (N[0]'(by omega)).length:=by unfold qP;rw[hw]
  clear XL hw;generalize (N[0]'(by omega)).length=wide at*
  repeat(first|refine GC ?_|refine gV (J ak.ty rfl (ah (i:=0) rfl (km _ _ _))) ?_|refine gV (J ak.ty rfl (ah (i:=0) rfl (nv _ _ _))) ?_|refine gV (eo (b:=false) rfl rfl (decide_eq_false (by omega))) ?_|refine gV (cJ (b:=false) rfl rfl (decide_eq_false (by omega))) ?_|refine gV (cB (b:=false) rfl rfl (decide_eq_false (by omega))) ?_|refine gV (aH (j:=0) aT.eq ak.ty rfl rfl (by omega)) ?_|refine gV (J (v:= .slice a0 wide c0) ak.ty rfl (TQ _)) ?_|refine GB ?_)
  by_cases c4:wide=0
  · rw[RV c1 (fun h=>by have:=(rm.1 h).w0;omega)]
    repeat(first|refine GC ?_|refine gV (cJ (b:=true) rfl rfl (decide_eq_true (by omega))) ?_|refine GB ?_)
    exact dh rfl rfl rfl
  by_cases c5:256<wide
  · rw[RV c1 (fun h=>by have:=(rm.1 h).w1;omega)]
    repeat(first|refine GC ?_|refine gV (cJ (b:=false) rfl rfl (decide_eq_false (by omega))) ?_|refine gV (eo (b:=true) rfl rfl (decide_eq_true (by omega))) ?_|refine GB ?_)
    exact dh rfl rfl rfl
  repeat(first|refine GC ?_|refine gV (cJ (b:=false) rfl rfl (decide_eq_false (by omega))) ?_|refine gV (eo (b:=false) rfl rfl (decide_eq_false (by omega))) ?_|refine GB ?_)
  refine cX (ι:=Nat) (fun i=>i<=N.length/\∀j,j<i->Eg N tags wide j) (fun i=>[(1,.pointer (some ⟨g1,0,none⟩)),(3,.int .i64 (N.length:Int)),(4,.int .i64 (wide:Int)),(35,.int .i64 (N.length:Int)),(36,.int .i64 (i:Int))])
    (fun _=>[ap g1 (kZ o (.slice (some ⟨bn,TZ,none⟩) N.length cn) (.slice (some ⟨bt,T1,none⟩) tags.length ct)).toArray 30]) (fun i=>N.length-i) 0 ⟨Nat.zero_le _,fun j h=>by omega⟩ ?_
  rintro i ⟨hi,hgi⟩
  by_cases q1:i<N.length
  · have hit:i<tags.length:=by omega
    obtain⟨u,⟨au,cu,rfl,hcu,Y0,SV⟩,hdu⟩:=A8 Kp q1;unfold maxLen at Y0;have QD:=fun(L:List bz)=>iD (L:=L) hdu (j:=0) (v:= .slice au N[i].length cu) rfl;have J7:=fun(L:List bz)=>fx (L:=L) iY htd hit 0 _ rfl;have hG:Eg N tags wide i↔(N[i].length=wide/\ -1<=tags[i]/\tags[i]<20/\∀x∈N[i],-1<=x/\x<N.length):=by
      unfold Eg;rw[List.getD_eq_getElem?_getD,List.getElem?_eq_getElem q1,List.getD_eq_getElem?_getD,List.getElem?_eq_getElem hit];rfl
    have jN:¬Eg N tags wide i->e=1:=fun hg=>RV c1 fun h=>hg (QB (rm.1 h) q1);clear hdu RV Wl;generalize tags[i]=tg at*;generalize N[i]=l at*
    by_cases r1:l.length=wide
    case neg=>
      rw[jN (fun h=>r1 (hG.1 h).1)]
      repeat(first|refine GC ?_|refine gV (J ak.ty rfl (ah (i:=0) rfl (km _ _ _))) ?_|refine gV (J ak.ty rfl (ah (i:=0) rfl (nv _ _ _))) ?_|refine gV (aH (j:=i) aT.eq ak.ty rfl rfl q1) ?_|refine gV (J (v:= .slice au l.length cu) ak.ty rfl (QD _)) ?_|refine gV (cB (b:=true) rfl rfl (decide_eq_true (by omega))) ?_|refine GB ?_)
      exact dh rfl rfl rfl
    by_cases r2:tg< -1
    · rw[jN (fun h=>by have:=(hG.1 h).2.1;omega)]
      repeat(first|refine GC ?_|refine gV (J ak.ty rfl (ah (i:=0) rfl (km _ _ _))) ?_|refine gV (J ak.ty rfl (ah (i:=0) rfl (nv _ _ _))) ?_|refine gV (aH (j:=i) aT.eq ak.ty rfl rfl q1) ?_|refine gV (J (v:= .slice au l.length cu) ak.ty rfl (QD _)) ?_|refine gV (cB (b:=false) rfl rfl (decide_eq_false (by omega))) ?_|refine gV (aH (j:=i) aT.eq ak.ty rfl rfl hit) ?_|refine gV (J (v:= .int .i64 tg) ak.ty rfl (J7 _)) ?_|refine gV (fG (b:=true) rfl rfl (decide_eq_true r2)) ?_|refine GB ?_)
      exact dh rfl rfl rfl
    by_cases r3:20<=tg
    · rw[jN (fun h=>by have:=(hG.1 h).2.2.1;omega)]
      repeat(first|refine GC ?_|refine gV (J ak.ty rfl (ah (i:=0) rfl (km _ _ _))) ?_|refine gV (J ak.ty rfl (ah (i:=0) rfl (nv _ _ _))) ?_|refine gV (aH (j:=i) aT.eq ak.ty rfl rfl q1) ?_|refine gV (J (v:= .slice au l.length cu) ak.ty rfl (QD _)) ?_|refine gV (cB (b:=false) rfl rfl (decide_eq_false (by omega))) ?_|refine gV (aH (j:=i) aT.eq ak.ty rfl rfl hit) ?_|refine gV (J (v:= .int .i64 tg) ak.ty rfl (J7 _)) ?_|refine gV (fG (b:=false) rfl rfl (decide_eq_false r2)) ?_|refine gV (fH (b:=true) rfl rfl (decide_eq_true r3)) ?_|refine GB ?_)
      exact dh rfl rfl rfl
    repeat(first|refine GC ?_|refine gV (J ak.ty rfl (ah (i:=0) rfl (km _ _ _))) ?_|refine gV (J ak.ty rfl (ah (i:=0) rfl (nv _ _ _))) ?_|refine gV (aH (j:=i) aT.eq ak.ty rfl rfl q1) ?_|refine gV (J (v:= .slice au l.length cu) ak.ty rfl (QD _)) ?_|refine gV (cB (b:=false) rfl rfl (decide_eq_false (by omega))) ?_|refine gV (aH (j:=i) aT.eq ak.ty rfl rfl hit) ?_|refine gV (J (v:= .int .i64 tg) ak.ty rfl (J7 _)) ?_|refine gV (fG (b:=false) rfl rfl (decide_eq_false r2)) ?_|refine gV (fH (b:=false) rfl rfl (decide_eq_false r3)) ?_|refine GB ?_)
    refine cX (ι:=Nat) (fun j=>j<=l.length/\∀x∈l.take j,-1<=x/\x<N.length) (fun j=>[(1,.pointer (some ⟨g1,0,none⟩)),(3,.int .i64 (N.length:Int)),(4,.int .i64 (wide:Int)),(35,.int .i64 (N.length:Int)),(36,.int .i64 (i:Int)),(67,.slice au l.length cu),(68,.int .i64 (l.length:Int)),(69,.int .i64 (j:Int))])
      (fun _=>[ap g1 (kZ o (.slice (some ⟨bn,TZ,none⟩) N.length cn) (.slice (some ⟨bt,T1,none⟩) tags.length ct)).toArray 30]) (fun j=>l.length-j) 0 ⟨Nat.zero_le _,fun x h=>by simp at h⟩ ?_
    rintro j ⟨hj,hgj⟩
    by_cases s1:j<l.length
    · obtain⟨bu,aaR,rfl,eV⟩:=SV (by omega)
      have T2:=fun(L:List bz)=>fx (L:=L) iY eV s1 0 _ rfl;have hxm:=List.getElem_mem s1;have Dw:=List.take_succ_eq_append_getElem s1;clear eV;generalize l[j]=x at*
      by_cases t1:x< -1
      · rw[jN (fun h=>by have:=((hG.1 h).2.2.2 x hxm).1;omega)]
        repeat(first|refine GC ?_|refine gV (aH (j:=j) aT.eq ak.ty rfl rfl s1) ?_|refine gV (J (v:= .int .i64 x) ak.ty rfl (T2 _)) ?_|refine gV (fG (b:=true) rfl rfl (decide_eq_true t1)) ?_|refine GB ?_)
        exact dh rfl rfl rfl
      by_cases t2:(N.length:Int)<=x
      · rw[jN (fun h=>by have:=((hG.1 h).2.2.2 x hxm).2;omega)]
        repeat(first|refine GC ?_|refine gV (aH (j:=j) aT.eq ak.ty rfl rfl s1) ?_|refine gV (J (v:= .int .i64 x) ak.ty rfl (T2 _)) ?_|refine gV (fG (b:=false) rfl rfl (decide_eq_false t1)) ?_|refine gV (fH (b:=true) rfl rfl (decide_eq_true t2)) ?_|refine GB ?_)
        exact dh rfl rfl rfl
      repeat(first|refine GC ?_|refine gV (aH (j:=j) aT.eq ak.ty rfl rfl s1) ?_|refine gV (J (v:= .int .i64 x) ak.ty rfl (T2 _)) ?_|refine gV (fG (b:=false) rfl rfl (decide_eq_false t1)) ?_|refine gV (fH (b:=false) rfl rfl (decide_eq_false t2)) ?_|refine GB ?_)
      exact eZ (j+1) ⟨by omega,fun y hy=>by
        rw[Dw,List.mem_append,List.mem_singleton]at hy;rcases hy with hy|rfl
        · exact hgj y hy
        · omega⟩ (by show l.length-(j+1)<l.length-j;omega) (by repeat' (first|exact True.intro|refine And.intro rfl ?_)) rfl
    · rw[List.take_of_length_le (by omega)]at hgj
      try refine GA ?_
      exact eZ (i+1) ⟨by omega,fun j Tb=>by
        by_cases e:j=i
        · subst e;exact hG.2 ⟨r1,by omega,by omega,hgj⟩
        · exact hgi j (by omega)⟩ (by show N.length-(i+1)<N.length-i;omega) (by repeat' (first|exact True.intro|refine And.intro rfl ?_)) rfl
  · repeat(first|refine GA ?_|refine gV (aK (cs:=Qx o) ak.ty rfl (Qy o) (fun j v hj=>ah (i:=0) rfl (TU _ _ _ hj))) ?_)
    refine cX (ι:=Nat) (fun j=>j<=256/\∀b (h:b<256),b<j->o[b]<wide) (fun j=>[(4,.int .i64 (wide:Int)),(83,.agg (Qx o).toArray),(84,.int .i64 (j:Int))]) (fun _=>[ap g1 (kZ o (.slice (some ⟨bn,TZ,none⟩) N.length cn) (.slice (some ⟨bt,T1,none⟩) tags.length ct)).toArray 30]) (fun j=>256-j) 0 ⟨Nat.zero_le _,fun b _ h=>by omega⟩ ?_;rintro j ⟨hj,GY⟩
    by_cases s1:j<256
    · have hcell:=Qz o s1
      have hz:=ho j s1;have jN:¬o[j]<wide->e=1:=fun hg=>RV c1 fun h=>hg ((rm.1 h).of j s1);have qR:o[j]<wide->∀b (h:b<256),b<j+1->o[b]<wide:=fun hw b h hb=>by
        by_cases e:b=j
        · subst e;exact hw
        · exact GY b h (by omega)
      clear RV Wl;generalize o[j]=z at*
      by_cases t1:z<wide
      · repeat(first|refine GC ?_|refine gV (fw aT.eq ak.ty rfl rfl s1 hcell) ?_|refine gV (e7 aT.eq aT.eq rfl (jE (by omega) (by omega))) ?_|refine gV (fH (b:=false) rfl rfl (decide_eq_false (by omega))) ?_|refine GB ?_)
        exact aY (j+1) ⟨by omega,qR t1⟩ (by show 256-(j+1)<256-j;omega)
      · rw[jN t1]
        repeat(first|refine GC ?_|refine gV (fw aT.eq ak.ty rfl rfl s1 hcell) ?_|refine gV (e7 aT.eq aT.eq rfl (jE (by omega) (by omega))) ?_|refine gV (fH (b:=true) rfl rfl (decide_eq_true (by omega))) ?_|refine GB ?_)
        exact dh rfl rfl rfl
    · rw[hE0 (rm.2 (QC (by omega) (by omega) c3 (by omega) (by omega) (fun i h=>hgi i (by omega)) fun b h=>GY b h (by omega)))]
      try refine GA ?_
      exact dh rfl rfl rfl
end bH
namespace bH
open Go.RowKit bL db bO d_ iK av bT
structure Md where
 of:List Int
 o:Of
 N:List (List Int)
 tags:List Int
 g:df
 mode:Int
 rows:List (List Int)
 A:List (List aX.Act)
 G:List (List Int)
structure MdR(w:World)(v:Value)(m:Md)(vo vn vt vp vr va vg:Value):Prop where
 val:v= .agg (lu vo (kZ m.o vn vt) (sq m.g.aJ m.g.aR vp m.mode vr va vg)).toArray
 of:Sl w vo m.of.length (m.of.flatMap bL.dK)
 pk:UP w vn vt m.N m.tags
 T3:jf (fun k=>k<w.heap.size) w (cH m.g.aJ m.g.aR vp) m.g
 rows:NO w vr m.rows
 iS:Kj w (.agg #[va,vg]) m.A m.G
structure GL(m:Md):Prop where
 byte:∀b (h:b<256),m.o[b]<256
 jc:Ef m.o m.N m.tags=0
 T3:bM m.g=0
 some:0<m.of.length
 Pb:m.of.length<=20
 ofs:∀t∈m.of,-1<=t/\t<m.g.aJ
 tag:∀t∈m.tags,t<(m.of.length:Int)
 mode:(m.mode=1/\NN m.g m.rows=0)\/(m.mode=2/\∃T N,Qw m.g T N m.A m.G)
theorem RW{vo:Value}{pk tl:List Value}(hp:pk.length=258){j:Nat}{v:Value}(h:pk[j]?=some v):(lu vo pk tl).toArray[0+1+j]?=some v:=by
 rw[List.getElem?_toArray,lu,show 0+1+j=j+1 by omega,List.getElem?_cons_succ,List.getElem?_append_left (List.getElem?_eq_some_iff.1 h).1];exact h
theorem T4{vo:Value}{pk:List Value}(hp:pk.length=258){a b c d e f f' v:Value}{j:Nat}(h:[f,f'][j]?=some v):(lu vo pk [a,b,c,d,e,f,f']).toArray[0+264+j]?=some v:=by
 match j,h with
 |0,h=>exact iL 5 hp h rfl
 |1,h=>exact iL 6 hp h rfl
 |n+2,h=>cases h
theorem NT(x:Int):(bL.dK x).length=1:=rfl
set_option maxRecDepth 100000 in
theorem sn(v:Value)(m:Md)(w:World){vo vn vt vp vr va vg:Value}(h:MdR w v m vo vn vt vp vr va vg)(hg:GL m):
 Calls Tryz.prog 7 #[v] w (bU (ret (.int .i64 0)) w):=by
 have gD:=fun w' (hw:Gr w w')=>Eh m.o vn vt m.N m.tags w' (h.pk.gr hw) hg.byte;rw[hg.jc]at gD;have Wu:=fun w' (hw:Gr w w')=>e_ (cH m.g.aJ m.g.aR vp) m.g w' (h.T3.gr hw);rw[hg.T3]at Wu;have Er:=fun w' (hw:Gr w w')=>yx (cH m.g.aJ m.g.aR vp) vr m.g m.rows w' (h.T3.gr hw) (A7 h.rows hw);have G2:=fun T N hT w' (hw:Gr w w')=>yy (cH m.g.aJ m.g.aR vp) (.agg #[va,vg]) m.g T N m.A m.G hT w' (h.T3.gr hw) (h.iS.gr hw);have Mr:=h.of;have UC:=h.pk.hT;have hv:=h.val;obtain⟨b1,b2,b3,b4,b5,b6,b7,b8⟩:=hg;clear h b1 b2 b3;have kU:(kZ m.o vn vt).length=258:=pA _ _ _;have hpt:(kZ m.o vn vt)[257]?=some vt:=by have:=nv m.o vn vt;simpa using this
 obtain⟨of,o,N,tags,g,mode,rows,A,G⟩:=m;dsimp only at*;rw[show UM o vn vt= .agg (kZ o vn vt).toArray from rfl]at gD;generalize kZ o vn vt=PK at*;obtain⟨a1,c1,rfl,xV,OR,EV⟩:=Mr;obtain⟨a2,c2,rfl,Kt,Ox,l_⟩:=UC;unfold maxLen at OR Ox;subst hv;refine enter (args:=[.agg (lu (.slice a1 of.length c1) PK (sq g.aJ g.aR vp mode vr va vg)).toArray]) (n:=77) Tryz.func7 rfl rfl rfl ?_;refine bJ (aV (bK rfl rfl rfl fun g1=>?_));refine zL ?_
 repeat(first|refine GA ?_|refine gV (aK (cs:=PK) ak.ty rfl kU (fun j v h=>ah (i:=0) rfl (RW kU h))) ?_)
 refine aM (iT aj.en rfl rfl) (fun w hm=>gD _ hm.below) rfl rfl rfl ?_;intro _ _;refine zL ?_
 repeat(first|refine GC ?_|refine gV (cB (b:=false) rfl rfl (decide_eq_false (by simp))) ?_|refine gV (aK (cs:=[.int .i64 g.aJ,.int .i64 g.aR,vp]) ak.ty rfl rfl (fun j v h=>ah (i:=0) rfl (ko kU h))) ?_|refine GB ?_)
 refine aM (iT aj.en rfl rfl) (fun w hm=>Wu _ hm.below) rfl rfl rfl ?_;intro _ _;refine zL ?_
 repeat(first|refine GC ?_|refine gV (cB (b:=false) rfl rfl (decide_eq_false (by simp))) ?_|refine gV (J (v:= .slice a1 of.length c1) ak.ty rfl (ah (i:=0) rfl rfl)) ?_|refine GB ?_)
 have hz:(1:Nat)<=of.length:=b4;refine cX (ι:=Nat) (fun k=>k<=of.length) (fun k=>[(1,.pointer (some ⟨g1,0,none⟩)),(31,.slice a1 of.length c1),(32,.int .i64 of.length),(33,.int .i64 (k:Int))])
  (fun _=>[ap g1 (lu (.slice a1 of.length c1) PK (sq g.aJ g.aR vp mode vr va vg)).toArray 38]) (fun k=>of.length-k) 0 (Nat.zero_le _) ?_
 intro k k1
 by_cases d1:k<of.length
 ·obtain⟨b,off,rfl,hr⟩:=EV (by omega)
  have du:=fun(L:List bz)=>fx (L:=L) NT hr d1 0 _ rfl;obtain⟨y1,y2⟩:=b6 of[k] (List.getElem_mem d1);generalize of[k]=x at*
  repeat(first|refine GA ?_|refine gV (aH aT.eq ak.ty rfl rfl d1) ?_|refine gV (J (v:= .int .i64 x) ak.ty rfl (du _)) ?_|refine gV (J (v:= .int .i64 g.aJ) ak.ty rfl (ah (i:=0) rfl (iL 0 kU rfl rfl))) ?_)
  exact aY (k+1) (by omega) (by show of.length-(k+1)<of.length-k;omega)
 obtain rfl:k=of.length:=by omega
 repeat(first|refine GA ?_|refine gV (J (v:= .slice a2 tags.length c2) ak.ty rfl (ah (i:=0) rfl (RW kU hpt))) ?_)
 refine cX (ι:=Nat) (fun k=>k<=tags.length) (fun k=>[(1,.pointer (some ⟨g1,0,none⟩)),(49,.slice a2 tags.length c2),(50,.int .i64 tags.length),(51,.int .i64 (k:Int))])
  (fun _=>[ap g1 (lu (.slice a1 of.length c1) PK (sq g.aJ g.aR vp mode vr va vg)).toArray 38]) (fun k=>tags.length-k) 0 (Nat.zero_le _) ?_
 intro k k2
 by_cases d2:k<tags.length
 ·obtain⟨b,off,rfl,hr⟩:=l_ (by omega)
  have du:=fun(L:List bz)=>fx (L:=L) NT hr d2 0 _ rfl;have y1:=b7 tags[k] (List.getElem_mem d2);generalize tags[k]=x at*
  repeat(first|refine GA ?_|refine gV (aH aT.eq ak.ty rfl rfl d2) ?_|refine gV (J (v:= .int .i64 x) ak.ty rfl (du _)) ?_|refine gV (J (v:= .slice a1 of.length c1) ak.ty rfl (ah (i:=0) rfl rfl)) ?_)
  exact aY (k+1) (by omega) (by show tags.length-(k+1)<tags.length-k;omega)
 obtain rfl:k=tags.length:=by omega
 rcases b8 with⟨rfl,hc⟩|⟨rfl,T,N',hc⟩
 ·rw[hc]at Er
  repeat(first|refine GA ?_|refine gV (J (v:= .int .i64 1) ak.ty rfl (ah (i:=0) rfl (iL 3 kU rfl rfl))) ?_|refine gV (aK (cs:=[.int .i64 g.aJ,.int .i64 g.aR,vp]) ak.ty rfl rfl (fun j v h=>ah (i:=0) rfl (ko kU h))) ?_|refine gV (J (v:=vr) ak.ty rfl (ah (i:=0) rfl (iL 4 kU rfl rfl))) ?_)
  refine aM (fh aj.en rfl rfl rfl) (fun w hm=>Er _ hm.below) rfl rfl rfl ?_;intro _ _;refine zL ?_
  try refine GA ?_
  exact da
 ·have G2:=fun w' hw=>G2 T N' hc w' hw
  repeat(first|refine GA ?_|refine gV (J (v:= .int .i64 2) ak.ty rfl (ah (i:=0) rfl (iL 3 kU rfl rfl))) ?_|refine gV (aK (cs:=[.int .i64 g.aJ,.int .i64 g.aR,vp]) ak.ty rfl rfl (fun j v h=>ah (i:=0) rfl (ko kU h))) ?_|refine gV (aK (cs:=[va,vg]) ak.ty rfl rfl (fun j v h=>ah (i:=0) rfl (T4 kU h))) ?_)
  refine aM (fh aj.en rfl rfl rfl) (fun w hm=>G2 _ hm.below) rfl rfl rfl ?_;intro _ _;refine zL ?_
  try refine GA ?_
  exact da
end bH
namespace bH
open Go.RowKit bL db bO d_ iK av bT
theorem NU{s:Sp}{e m:Int}(h:GI s e=(0,m)):e=0/\(th (aZ s)).any (· ==false)=false/\(ti (aZ s)).any (· ==false)=false/\(((pa (aZ s)).length=0/\m=1)\/((pa (aZ s)).length≠0/\(ff (aZ s)).2.2.2=0/\(ff (aZ s)).2.2.1.length=0/\m=2)):=by
 unfold GI at h
 by_cases c0:kY s≠0
 ·rw[if_pos c0]at h;exact absurd (congrArg Prod.fst h) c0
 rw[if_neg c0]at h
 by_cases c1:s.words.length=0\/s.rules.length=0
 ·rw[if_pos c1]at h;cases h
 rw[if_neg c1]at h
 by_cases c2:e≠0
 ·rw[if_pos c2]at h;exact absurd (congrArg Prod.fst h) c2
 rw[if_neg c2]at h
 by_cases c3:(th (aZ s)).any (· ==false)=true\/(ti (aZ s)).any (· ==false)=true
 ·rw[if_pos c3]at h;cases h
 rw[if_neg c3]at h;refine⟨Decidable.of_not_not c2,?_,?_,?_⟩
 ·cases hb:(th (aZ s)).any (· ==false)with
  |true=>exact absurd (.inl hb) c3
  |false=>rfl
 ·cases hb:(ti (aZ s)).any (· ==false)with
  |true=>exact absurd (.inr hb) c3
  |false=>rfl
 by_cases c4:(pa (aZ s)).length=0
 ·rw[if_pos c4]at h;exact .inl ⟨c4,(congrArg Prod.snd h).symm⟩
 rw[if_neg c4]at h
 by_cases c5:(ff (aZ s)).2.2.2≠0
 ·rw[if_pos c5]at h;exact absurd (congrArg Prod.fst h) c5
 rw[if_neg c5]at h
 by_cases c6:0<(ff (aZ s)).2.2.1.length
 ·rw[if_pos c6]at h;cases h
 rw[if_neg c6]at h;exact .inr ⟨c4,Decidable.of_not_not c5,by omega,(congrArg Prod.snd h).symm⟩
theorem GM(x:pQ)(R:List Row):(x.pk R).length=258:=pA _ _ _
theorem GO{x:pQ}(h:x.vT.oneCell'=true)(R:List Row):(x.pk R).all Value.oneCell'=true:=by
 have:=qJ (qI R 256) (vn:= .slice (some ⟨x.gP,0,none⟩) R.length R.length) (vt:=x.vT) rfl h;rw[pQ.pk,<-this]
end bH
namespace bH
open Go.RowKit bL db av dg ue dj b9 qz
abbrev NV(g:df)(T N:Nat):List (List Int):=im N fun n=>im (T+1) (ue.rowAt g.ag (pN N g.ag) T n)
theorem Ah{l:List av.Prod}{n:Nat}:∀r:List Int,(∀p∈r,-1<=p/\p<(l.length:Int)/\(0<=p->(aQ l p).1=(n:Int)))->nA l n r=0
 |[],_=>rfl
 |p::r,h=>by
  have hp:=h p (List.mem_cons_self ..);rw[nA,if_neg (by omega),if_neg (by omega),if_neg (by rintro⟨h1,h2⟩;exact h2 (hp.2.2 h1))];exact Ah r fun p hp=>h p (List.mem_cons_of_mem _ hp)
theorem xM{l:List av.Prod}{t:Int}:∀(rows:List (List Int)) (n:Nat),(∀i (h:i<rows.length),(rows[i].length:Int)=t+1/\nA l (n+i) rows[i]=0)->lP l t n rows=0
  |[],_,_=>rfl
  | r ::rs,n,h=>by
    have h0:=h 0 (by simp);simp only[List.getElem_cons_zero,Nat.add_zero]at h0;rw[lP,if_neg (by simp[h0.1]),if_neg (by simp[h0.2])];exact xM rs (n+1) fun i hi=>by
      have:=h (i+1) (by simp;omega);simp only[List.getElem_cons_succ]at this;rw[show n+1+i=n+(i+1)by omega];exact this
theorem NW{g:df}{T N:Nat}(hg:bM g=0)(hT:g.aJ=T)(hN:g.aR=N):NN g (NV g T N)=0:=by
 unfold NN;rw[if_neg (by simp[hg]),e9,if_neg (by simp[hN])];refine xM _ 0 fun i hi=>?_;rw[e9]at hi;have lY:(NV g T N)[i]'(by rw[e9];exact hi)=im (T+1) (ue.rowAt g.ag (pN N g.ag) T i):=by simp[im]
 rw[lY];refine⟨by rw[e9,hT];rfl,Ah _ fun p hp=>?_⟩;obtain⟨c,_,rfl⟩:=List.mem_map.1 hp;have h1:=rL (l:=g.ag) (may:=pN N g.ag) (T:=T) i c g.ag.length;refine⟨h1.1,h1.2,fun h0=>?_⟩;rw[Nat.zero_add];exact wJ (l:=g.ag) (may:=pN N g.ag) (T:=T) i c g.ag.length (Nat.le_refl _) h0
end bH
namespace bH
open Go.RowKit bL db rl bT
theorem hZ(R:List Row):(J8 R).length=R.length:=by unfold J8;simp
theorem BP(R:List Row){i:Nat}(h:i<R.length):(J8 R)[i]'(by rw[hZ];exact h)=uS (jI R 256) i:=by unfold J8;simp
theorem QE{R:List Row}{c:xg}(h:c∈jI R 256):∃b,b<256/\c=l9 R b:=by
 unfold jI at h;rcases gK.1 h with h|h
 ·cases h
 ·obtain⟨b,hb,rfl⟩:=List.mem_map.1 h
  exact⟨b,by simpa using hb,rfl⟩
theorem T5{R:List Row}{tags:List Int}(h:jc R tags=0){i:Nat}(hi:i<R.length){x:Int}(hx:x∈uS (jI R 256) i): -1<=x/\x<R.length:=by
 obtain⟨hA,_⟩:=oQ h;unfold uS at hx;obtain⟨c,hc,rfl⟩:=List.mem_map.1 hx;obtain⟨b,hb,rfl⟩:=QE hc;rw[DU R b i hi hA.le,oZ hi hb];have:=hA.step i hi b hb;rw[Dz hi hb]at this;exact this
theorem RX{R:List Row}{tags:List Int}(h:jc R tags=0):NS (qI R 256) (J8 R) tags (jI R 256).length:=by
 obtain⟨hA,hl⟩:=oQ h;have hle:R.length<=200:=hA.le;refine⟨by rw[hZ];exact hA.pos,by rw[hZ];exact hle,by rw[hZ];exact hl,List.length_pos_of_mem (BC R (show 0<256 by decide)),uR R 256,fun i hi=>?_,fun i hi=>?_,fun i hi j hj=>?_,fun b hb=>?_⟩
 ·rw[hZ]at hi
  rw[BP R hi];unfold uS;rw[List.length_map]
 ·have:=hA.tags i (show i<R.length by omega)
  rw[r_ hi]at this;exact this
 ·have kz:i<R.length:=by rw[hZ]at hi;exact hi
  have e:=BP R kz;have hx:(J8 R)[i][j]∈uS (jI R 256) i:=e▸List.getElem_mem hj;rw[hZ];exact T5 h kz hx
 ·have e:(qI R 256)[b]'hb=RM R b:=by
   unfold qI;rw[Vector.getElem_ofFn];simp[hb]
  rw[e];exact Ni R hb
end bH
namespace aaa
open Go.RowKit bL db bH bT
end aaa
namespace bH
open Go.RowKit bL db bT
theorem Mem.pkI{B:bB}{w:World}{L:List bz}{i j k g:Nat}{R:List Row}{tags:List Int}{vs:Nat->Value}{vt:Value}(hm:Mem B L w)(hi:L[i]?=some (dC 26 qM g R.length vs))(hj:L[j]?=some (Kd R.length (jI R 256) vs))(hk:L[k]?=some (aI 3 1 vt tags.length (tags.flatMap bL.dK)))(hc:jc R tags=0):
 UP w (.slice (some ⟨g,0,none⟩) R.length R.length) vt (J8 R) tags:=by
 have h1:(dC 26 qM g R.length vs).holds w:=hm.get hi;have h2:(Kd R.length (jI R 256) vs).holds w:=hm.get hj;have ok:=RX hc;refine⟨⟨some ⟨g,0,none⟩,R.length,by rw[hZ],by rw[hZ];exact Nat.le_refl _,by have:=ok.le;rw[hZ]at this;unfold maxLen;omega,fun h0=>⟨g,0,rfl,?_,fun i hi=>⟨[vs i],⟨vs i,rfl,?_⟩,fun j u hj=>?_⟩⟩⟩,jo hk _ hm⟩
 ·rw[hZ]at h0
  exact World.block_lt_of_cell? w _ (sN h1 h0)
 ·have IN:i<R.length:=by rw[hZ]at hi;exact hi
  have h3:(aI 3 1 (vs i) (jI R 256).length ((uS (jI R 256) i).flatMap bL.dK)).holds w:=h2.1 i IN;have h4:Sl w (vs i) (jI R 256).length ((uS (jI R 256) i).flatMap bL.dK):=Sl.cD h3;have e:(J8 R)[i]=uS (jI R 256) i:=BP R IN;have hl:(uS (jI R 256) i).length=(jI R 256).length:=List.length_map ..;refine gI.of_flat (by rw[e,hl];exact h4) (fun x hx=>?_) (fun b hb=>?_) fun a n cp hv=>?_
  ·obtain⟨q,hq,rfl⟩:=List.mem_iff_getElem.1 hx
   have:=ok.Tk i hi q hq;have:=ok.le;exact⟨by omega,by omega⟩
  ·exact bz.lt _ w h3 b (.inl hb)
  ·exact bz.lt _ w h3 a.block (.inl (by rw[hv];rfl))
 ·have IN:i<R.length:=by rw[hZ]at hi;exact hi
  have S4:j=0:=by have:=(List.getElem?_eq_some_iff.1 hj).1;simp at this;exact this
  subst S4;simp only[List.getElem?_cons_zero,Option.some.injEq]at hj;subst hj;have:=sN h1 IN;show w.cell? ⟨g,0+i*1+0,none⟩=some (vs i)
  rw[Nat.mul_one,Nat.add_zero];exact this
theorem Ij(R:List Row):∀b (h:b<256),(qI R 256)[b]<256:=fun b hb=>by
 have e:(qI R 256)[b]'hb=RM R b:=by
  unfold qI;rw[Vector.getElem_ofFn];simp[hb]
 rw[e];exact If R hb
theorem Ik{R:List Row}{tags:List Int}(h:jc R tags=0):qP (qI R 256) (J8 R) tags:=by
 have ok:=RX h;have:((J8 R).headD []).length=(jI R 256).length:=by
  have h0:=ok.pos;have:=ok.row 0 h0
  cases hR:J8 R with
  |nil=>rw[hR]at h0;simp at h0
  |cons x r=>simp only[hR]at this;exact this
 unfold qP;rw[this];exact ok
end bH
namespace aX
open av dg dj b9 bT
open ue (ea)
section
variable{l:List av.Prod}{T N:Nat}{lk:Int->Int->Nat}{Nx:List (List Int)}{S:List (List Item)}{w:List Int}
variable{E R M:List Bool}{F W:List Nat}
theorem drop_cons{α:Type}{b:List α}{d:Nat}{y:α}{r:List α}(h:b.drop d=y::r):b[d]?=some y/\b.drop (d+1)=r/\d<b.length:=by
 have hd:d<b.length:=by
  rcases Nat.lt_or_ge d b.length with h'|h'
  ·exact h'
  ·rw[List.drop_of_length_le h']at h;cases h
 rw[List.drop_eq_getElem_cons hd]at h;simp only[List.cons.injEq]at h;exact⟨by rw[List.getElem?_eq_getElem hd,h.1],h.2,hd⟩
structure T6(l:List av.Prod)(T N:Nat)(lk:Int->Int->Nat)(Nx:List (List Int))(S:List (List Item))(w:List Int)(E:List Bool)(F W:List Nat)(R M:List Bool):Prop where
 wide:∀q∈l,q.2.length<=8
 xU:l.length<=40
 aJ:T<=30
 aR:0<N
 Kk:fN N l
 sO:∀q∈l,∀x∈q.2,x.1=1->0<=x.2/\x.2<(T:Int)
 all:Dn l T N lk S.length Nx S
 calm:zK l T Nx S
 facts:hJ l E F W R M
 looks:∀p d:Int,0<=p->p<=(l.length:Int)->0<=d->lk p d=cP E F ((cU l p).drop (d.toNat+1)) (2^62)
 word:∀x∈w,0<=x/\x<(T:Int)
theorem pc(hI:Dn l T N lk S.length Nx S){q:Nat}(hq:q<S.length):∀it∈S.getD q [],cL l T it:=by
 have lY:S.getD q []=S[q]:=by rw[List.getD_eq_getElem?_getD,List.getElem?_eq_getElem hq];rfl
 rw[lY];exact hI.ss.right _ (List.getElem_mem hq)
theorem T7(h:T6 l T N lk Nx S w E F W R M){a:Nat}{v:Int}{r:List Int}(hd:w.drop a=v::r):a<w.length/\(ea T w a:Int)=v/\0<=v/\v<(T:Int):=by
 have ha:a<w.length:=by
  rcases Nat.lt_or_ge a w.length with h'|h'
  ·exact h'
  ·rw[List.drop_of_length_le h']at hd;cases hd
 rw[List.drop_eq_getElem_cons ha]at hd;simp only[List.cons.injEq]at hd;have hv:=h.word w[a] (List.getElem_mem ha);unfold ea;rw[if_pos ha,List.getD_eq_getElem?_getD,List.getElem?_eq_getElem ha,Option.getD_some];rw[hd.1]at hv⊢;exact⟨ha,by omega,hv⟩
theorem NX(h:T6 l T N lk Nx S w E F W R M)(a:Nat):ea T w a<=T:=by
 unfold ea;split
 ·rename_i ha
  rw[List.getD_eq_getElem?_getD,List.getElem?_eq_getElem ha,Option.getD_some];have:=h.word w[a] (List.getElem_mem ha);omega
 ·exact Nat.le_refl _
mutual
theorem Ei(h:T6 l T N lk Nx S w E F W R M):∀{t:Tree} {x:bY} {a q:Nat} {σ:List Nat} {it:Item},eA l t x a->x.1=2->q<S.length->it∈S.getD q []->iH l it=some x->(jZ lk it).testBit (ea T w (a+leaves t))=true->a+leaves t<=w.length->(∃r,w.drop a=eO l t++r)->
  ∃s,s<S.length/\oM it∈S.getD s []/\qF l T Nx S w (q::σ) a (Kv l t) (s::q::σ) (a+leaves t)
 | .mk p k kids,x,a,q,σ,it,hr,hx,hq,hit,hn,x8,ha,hy=>by
  have hp:0<=p:=by
   rcases iA hr with⟨h1,_⟩|⟨_,h1⟩
   ·omega
   ·exact h1
  obtain⟨_,h2,h3,h4,h5⟩:=pv hr hp;subst h4;have hlv:leaves (.mk p 0 kids)=cK kids:=by rw[leaves,if_neg (by omega)]
  rw[hlv]at x8 ha⊢;rw[kr]at hy;obtain⟨i,rfl⟩:=Int.eq_ofNat_of_zero_le hp;obtain⟨xk,xn⟩:=x;have hx:xk=2:=hx;subst hx;have h3:(aQ l (i:Int)).1=xn:=h3;have PA:=NX h (a+cK kids);have OU:(((i:Int),0,(ea T w (a+cK kids):Int)):Item)∈S.getD q []:=Mz h.all hq hit ⟨xn,i,_,hn,by omega,h3,PA,x8,rfl⟩;have rQ:cU l (i:Int)=(aQ l (i:Int)).2:=by unfold cU;rw[if_neg (by omega)]
  obtain⟨τ,s,k2,k3,k4,k5⟩:=xN h (q:=q) (σ:=σ) (it:=((i:Int),0,(ea T w (a+cK kids):Int))) h5 hq OU (by show(cU l (i:Int)).drop 0=_;rw[rQ];rfl) rfl ha hy;have W_:aQ l (i:Int)∈l:=ep hp h2;have hN:=h.Kk _ W_;obtain⟨tq,g1,g2,g3⟩:=PB h.all h.wide h.xU h.aJ hq (n:=xn) (by rw[<-h3];exact⟨hN.1,hN.2.1⟩) hit hn;refine⟨tq,g1,g3,?_⟩;have hlen:=qq h5;rw[Ds (by omega) hlen];have Ts:gC l T Nx S s (ea T w (a+cK kids))=(2,(i:Int)):=by
   refine FM h.calm k2 PA k3 ?_ ?_ rfl
   ·show(i:Int)<_;omega
   ·show(0:Int)+_=((aQ l (i:Int)).2.length:Int);omega
  exact k5.E_ (.reduce Ts k4 (by rw[h3];exact g2) .nil)
theorem xN(h:T6 l T N lk Nx S w E F W R M):∀{ks:List Tree} {b:List bY} {a q:Nat} {σ:List Nat} {it:Item},bZ l ks b a->q<S.length->it∈S.getD q []->(cU l it.1).drop it.2.1.toNat=b->it.2.2=(ea T w (a+cK ks):Int)->a+cK ks<=w.length->(∃r,w.drop a=fz l ks b++r)->
    ∃(τ:List Nat) (s:Nat),s<S.length/\((it.1,it.2.1+(b.length:Int),it.2.2):Item)∈S.getD s []/\(s::τ).drop b.length=q::σ/\qF l T Nx S w (q::σ) a (ks.flatMap (Kv l)) (s::τ) (a+cK ks)
  | [],[],a,q,σ,it,hr,hq,hit,hb,hc,ha,hy=>by
    refine⟨σ,q,hq,?_,rfl,.nil⟩;have e:((it.1,it.2.1+(([]:List bY).length:Int),it.2.2):Item)=it:=by
      obtain⟨i1,i2,i3⟩:=it;simp
    rw[e];exact hit
  |[],_::_,a,q,σ,it,hr,hq,hit,hb,hc,ha,hy=>by cases hr
  | .mk p k kids::r,[],a,q,σ,it,hr,hq,hit,hb,hc,ha,hy=>by cases hr
  | .mk p k kids::r,y::b,a,q,σ,it,hr,hq,hit,hb,hc,ha,hy=>by
    rw[bZ]at hr;obtain⟨EV,l_⟩:=hr;obtain⟨b1,b2,b3⟩:=drop_cons hb;have hR:=pc h.all hq it hit;have hn:iH l it=some y:=b1;rw[cK]at hc ha;have aab:(oM it).2.1.toNat=it.2.1.toNat+1:=by
      show(it.2.1+1).toNat=_
      have:=hR.2.2.1;omega
    have Aq:(cU l (oM it).1).drop (oM it).2.1.toNat=b:=by rw[aab];exact b2
    have RY:(((oM it).1,(oM it).2.1+(b.length:Int),(oM it).2.2):Item)=(it.1,it.2.1+((y::b).length:Int),it.2.2):=by
      show(it.1,it.2.1+1+(b.length:Int),it.2.2)=_
      rw[List.length_cons];have:it.2.1+1+(b.length:Int)=it.2.1+((b.length+1:Nat):Int):=by omega
      rw[this]
    have pS:∀{ρ:List Nat} {s:Nat},ρ.drop b.length=s::q::σ->ρ.drop (y::b).length=q::σ:=fun {ρ s} hd=>by
      rw[List.length_cons,Nat.add_comm,<-List.drop_drop];rw[Nat.add_comm]at*;have:ρ.drop (b.length+1)=(ρ.drop b.length).drop 1:=by rw[List.drop_drop]
      first
        |(rw[List.drop_drop];rw[Nat.add_comm 1 b.length];rw[this,hd];rfl)
        |(rw[List.drop_drop,this,hd];rfl)
    rw[oe]at hy;rw[List.flatMap_cons,cK];rcases iA EV with⟨Xa,rfl,rfl⟩|⟨Xa,hp⟩
    · have hlf:leaves (.mk (-1) k [])=1:=by rw[leaves,if_pos (by decide)]
      rw[hlf]at hc ha l_⊢;have hk:k=(a:Int):=by
        rw[eA]at EV;rcases EV with⟨_,_,h3,_⟩|⟨_,h3,_⟩
        · exact h3
        · omega
      subst hk;have X0:fA l (.mk (-1) (a:Int) []) y=[y.2]:=by unfold fA;rw[if_pos (by show(-1:Int)<0;decide)]
      rw[X0]at hy;obtain⟨rr,hy⟩:=hy;rw[List.append_assoc,List.singleton_append]at hy;obtain⟨c1,c2,c3,c4⟩:=T7 h hy;obtain⟨yk,yn⟩:=y;have Xa:yk=1:=Xa;subst Xa;obtain⟨t,rfl⟩:=Int.eq_ofNat_of_zero_le c3;have c2:((ea T w a:Nat):Int)=(t:Int):=c2;have c2:ea T w a=t:=by omega
      obtain⟨s,s1,s2,s3⟩:=JL h.all h.wide h.xU h.aJ h.calm hq (by omega:t<T) hit hn;have X1:w.drop (a+1)=fz l r b++rr:=by
        rw[<-List.drop_drop,hy];rfl
      obtain⟨τ,s',g1,g2,g3,g4⟩:=xN h (q:=s) (σ:=q::σ) (it:=oM it) l_ s1 s3 Aq (by show it.2.2=_;rw[hc];congr 2;omega) (by omega) ⟨rr,X1⟩;rw[RY]at g2;refine⟨τ,s',g1,g2,pS g3,?_⟩;rw[show a+(1+cK r)=a+1+cK r by omega,Dt];exact .shift c1 (by rw[c2];exact s2) g4
    · have Xw:y.1=2:=by
        rcases zN h.Kk h.aR (p:=it.1) y (List.mem_of_getElem? b1)with h'|h'
        · exact absurd h' Xa
        · exact h'.1
      have X0:fA l (.mk p k kids) y=eO l (.mk p k kids):=by unfold fA;rw[if_neg (by show ¬p<0;omega)]
      rw[X0]at hy;obtain⟨rr,hy⟩:=hy;rw[List.append_assoc]at hy;have Ur:∀x∈b,x.1=1\/x.1=2:=fun x hx=>by
        rcases zN h.Kk h.aR (p:=it.1) x (by rw[<-b2]at hx;exact List.mem_of_mem_drop hx)with h'|h'
        · exact .inl h'
        · exact .inr h'.1
      have hyl:(eO l (.mk p k kids)).length=leaves (.mk p k kids):=by rw[<-X0];exact kI EV
      have X1:w.drop (a+leaves (.mk p k kids))=fz l r b++rr:=by
        rw[<-List.drop_drop,hy,<-hyl,List.drop_left]
      have x8:=JM (w:=w) (u:=a+leaves (.mk p k kids)) h.facts h.Kk h.looks h.aJ h.word hR b2 Ur l_ ⟨rr,X1⟩ (by omega) (by rw[hc];congr 2;omega);obtain⟨s,s1,s3,s4⟩:=Ei h (σ:=σ) EV Xw hq hit hn x8 (by omega) ⟨_,hy⟩;obtain⟨τ,s',g1,g2,g3,g4⟩:=xN h (q:=s) (σ:=q::σ) (it:=oM it) l_ s1 s3 Aq (by show it.2.2=_;rw[hc];congr 2;omega) (by omega) ⟨rr,X1⟩;rw[RY]at g2;refine⟨τ,s',g1,g2,pS g3,?_⟩;rw[show a+(leaves (.mk p k kids)+cK r)=a+leaves (.mk p k kids)+cK r by omega];exact s4.E_ g4
end
theorem Ai(h:T6 l T N lk Nx S w E F W R M){t:Tree}(ht:eA l t (2,0) 0)(hy:eO l t=w):∃s ρ,qF l T Nx S w [0] 0 (Kv l t) (s::ρ) w.length/\gC l T Nx S s (ea T w w.length)=(3,0):=by
 have hp:0<=t.prod:=by
  obtain⟨p,k,kids⟩:=t;rcases iA ht with⟨h1,_⟩|⟨_,h1⟩
  ·cases h1
  ·exact h1
 have hl:leaves t=w.length:=by
  have:=kI ht;unfold fA at this;rw[if_neg (by omega),hy]at this;exact this.symm
 have PC:ea T w w.length=T:=by unfold ea;rw[if_neg (Nat.lt_irrefl _)]
 have h0:=(List.getElem?_eq_some_iff.1 h.all.start).1;have lY:S.getD 0 []=ja l T lk:=by rw[List.getD_eq_getElem?_getD,h.all.start];rfl
 have hst:=eb (l:=l) (T:=T) h.xU h.aJ;have hit:(((l.length:Int),0,(T:Int)):Item)∈S.getD 0 []:=by
  rw[lY];exact(dV (lk:=lk) h.wide h.xU h.aJ hst).2 (.base (List.mem_singleton.2 rfl))
 have rQ:cU l (l.length:Int)=[(2,0)]:=by unfold cU;rw[if_pos rfl]
 have hn:iH l ((l.length:Int),0,(T:Int))=some (2,0):=by
  show(cU l (l.length:Int))[0]?=_
  rw[rQ];rfl
 obtain⟨s,s1,s2,s3⟩:=Ei h (σ:=[]) ht rfl h0 hit hn (by
  rw[Nat.zero_add,hl];have hR:=pc h.all h0 _ hit;refine(zM (by have:=NX h w.length;have:=h.aJ;omega) hR.2.2.2.2.1).2 (.inr ⟨?_,by show(T:Int)=_;rw[PC]⟩);rw[h.looks _ _ hR.1 hR.2.1 hR.2.2.1];show(cP E F ((cU l (l.length:Int)).drop 1) (2^62)).testBit 62=true
  rw[rQ];show(0|||2^62:Nat).testBit 62=true
  decide) (by omega) ⟨[],by rw[hy];simp⟩
 rw[Nat.zero_add,hl]at s3;refine⟨s,[0],s3,?_⟩;rw[PC];exact FO h.calm s1 s2
theorem T8(h:T6 l T N lk Nx S w E F W R M){t t':Tree}(ht:eA l t (2,0) 0)(hy:eO l t=w)(OS:eA l t' (2,0) 0)(UX:eO l t'=w):t=t':=by
 obtain⟨s,ρ,h1,h2⟩:=Ai h ht hy;obtain⟨s',ρ',h3,h4⟩:=Ai h OS UX;have e:=h1.det h3 (fun q ρ e=>by cases e;exact h2) (fun q ρ e=>by cases e;exact h4);have hh:∀p∈l,0<=p.1:=fun p hp=>(h.Kk p hp).1;have r1:=FL (P:=[]) (r:=[]) hh ht;have r2:=FL (P:=[]) (r:=[]) hh OS;rw[e]at r1;rw[r1]at r2;simp only[yg,Option.some.injEq,Prod.mk.injEq,List.nil_append,List.cons.injEq,and_true]at r2;exact r2.1.1
end
end aX
namespace aX
open av dg dj b9 bT qz
open ue (ea)
section
variable{l:List av.Prod}{T N:Nat}{lk:Int->Int->Nat}{Nx:List (List Int)}{S:List (List Item)}
inductive Xb(l:List av.Prod)(T N:Nat)(lk:Int->Int->Nat)(S:List (List Item)):List Nat->List (bY×Tree)->Nat->Prop
 |start:Xb l T N lk S [0] [] 0
 |push {q s:Nat} {σ:List Nat} {ts:List (bY×Tree)} {a:Nat} {x:bY} {t:Tree} (h:Xb l T N lk S (q::σ) ts a) (hs:s<S.length) (hx:S.getD s []=eT l T lk (S.getD q []) x) (hne:eT l T lk (S.getD q []) x≠[]) (ht:eA l t x a):Xb l T N lk S (s::q::σ) ((x,t)::ts) (a+leaves t)
theorem Xb.len{σ:List Nat}{ts:List (bY×Tree)}{a:Nat}(h:Xb l T N lk S σ ts a):σ.length=ts.length+1:=by
 induction h with
 |start=>rfl
 |push _ _ _ _ _ ih=>rw[List.length_cons,ih,List.length_cons]
section
end
end
end aX
namespace aX
open av dg dj b9 bT qz
open ue (ea)
section
end
section
variable{l:List av.Prod}{act:Nat->Nat->Act}{gt:Nat->Int->Int}{T N:Nat}{lk:Int->Int->Nat}{Nx:List (List Int)}{S:List (List Item)}
structure aac(l:List av.Prod)(act:Nat->Nat->Act)(gt:Nat->Int->Int)(T N:Nat)(Nx:List (List Int))(S:List (List Item)):Prop where
 act:∀q c,q<S.length->c<=T->act q c=gC l T Nx S q c
 gt:∀q n,q<S.length->0<=n->n<(N:Int)->gt q n=Tf T Nx q n
theorem T9{q c:Nat}{x:Act}(h:gC l T Nx S q c=x)(h0:x.1≠0):x∈fB l T (S.getD q []) (Nx.getD q []) c:=by
 unfold gC at h
 cases e:fB l T (S.getD q []) (Nx.getD q []) c with
 |nil=>rw[e]at h;subst h;exact absurd rfl h0
 |cons y r=>rw[e]at h;subst h;exact List.mem_cons_self ..
theorem Aj{q c:Nat}{x:Act}(h:x∈fB l T (S.getD q []) (Nx.getD q []) c):
    (x.1=1/\c<T/\0<=(Nx.getD q []).getD c 0/\x.2=(Nx.getD q []).getD c 0)\/(x=(3,0)/\(((l.length:Int),1,(c:Int)):Item)∈S.getD q [])\/(x.1=2/\x.2<(l.length:Int)/\((x.2,((aQ l x.2).2.length:Int),(c:Int)):Item)∈S.getD q []):=by
  unfold fB at h;rcases List.mem_append.1 h with h|h
  · split at h
    · rename_i c1
      rw[List.mem_singleton]at h;subst h;exact .inl ⟨rfl,c1.1,c1.2,rfl⟩
    · cases h
  · obtain⟨it,hit,e⟩:=List.mem_filterMap.1 h
    obtain⟨p,d,k⟩:=it;unfold oP at e;dsimp only at e
    by_cases c1:k≠(c:Int)
    · rw[if_pos c1]at e;cases e
    · rw[if_neg c1]at e
      have c1:k=(c:Int):=Classical.not_not.1 c1;subst c1
      by_cases c2:p=(l.length:Int)/\d=1
      · rw[if_pos c2]at e
        obtain⟨rfl,rfl⟩:=c2;exact .inr (.inl ⟨(Option.some.inj e).symm,hit⟩)
      · rw[if_neg c2]at e
        by_cases c3:p<(l.length:Int)/\d=((aQ l p).2.length:Int)
        · rw[if_pos c3]at e
          obtain⟨c3,rfl⟩:=c3;obtain rfl:=Option.some.inj e;exact .inr (.inr ⟨rfl,c3,hit⟩)
        · rw[if_neg c3]at e;cases e
section
variable(hB:aac l act gt T N Nx S)(hI:Dn l T N lk S.length Nx S)(hw:∀q∈l,q.2.length<=8)(hl:l.length<=40)(hT:T<=30)(hh:∀q∈l,0<=q.1/\q.1<(N:Int))
include hB hI hw hl hT hh
omit hB hw hl hT hh in
theorem Kl{q k s:Nat}{x:bY}(hq:q<S.length)(hk:(iI T N)[k]?=some x)(hs:(Nx.getD q []).getD k 0=(s:Int)):s<S.length/\S.getD s []=eT l T lk (S.getD q []) x/\eT l T lk (S.getD q []) x≠[]:=by
 rcases hI.cell q hq k x hk with⟨_,h2⟩|⟨h1,h2,h3⟩
 ·rw[hs]at h2;omega
 ·rw[hs]at h3
  obtain rfl:s=idx S (eT l T lk (S.getD q []) x):=by omega
  refine⟨iV h2,?_,h1⟩;rw[List.getD_eq_getElem?_getD,List.getElem?_eq_getElem (iV h2)];exact rf (iV h2)
end
end
end aX
namespace bH
open av dg dj b9 aX bT qz
open ue (ea)
structure iN(g:df)(T N:Nat)(Nx:List (List Int))(S:List (List aX.Item)):Prop where
 um:bM g=0
 aJ:g.aJ=(T:Int)
 aR:g.aR=(N:Int)
 all:allI g.ag T N (fY g)=some (Nx,S)
 rv:(ff g).1=eE g.ag T Nx S S.length
 Z_:(ff g).2.1=dJ T Nx S.length
 T_:(ff g).2.2.1=eR g.ag T Nx S S.length
theorem Ak{g:df}(h:(ff g).2.2.2=0):∃T N Nx S,iN g T N Nx S:=by
 unfold ff at h
 by_cases c:(fC g).2.2≠0
 ·rw[if_pos c]at h;exact absurd h c
 ·have c2:(fC g).2.2=0:=Classical.not_not.1 c
  obtain⟨hg,hA⟩:=H7 c2;obtain⟨Zt,Zu,N_,Uq,-⟩:=bI hg;exact⟨g.aJ.toNat,g.aR.toNat,(fC g).1,(fC g).2.1,hg,by omega,by omega,hA,by unfold ff;rw[if_neg c],by unfold ff;rw[if_neg c],by unfold ff;rw[if_neg c]⟩
section
variable{g:df}{T N:Nat}{Nx:List (List Int)}{S:List (List aX.Item)}
theorem iN.wide(h:iN g T N Nx S):∀q∈g.ag,q.2.length<=8:=fun q hq=>((bI h.um).2.2.2.2.2 q hq).1
theorem iN.xU(h:iN g T N Nx S):g.ag.length<=40:=(bI h.um).2.2.2.2.1
theorem iN.t30(h:iN g T N Nx S):T<=30:=by have:=(bI h.um).2.1;have:=h.aJ;omega
theorem iN.law(h:iN g T N Nx S):Dn g.ag T N (fY g) S.length Nx S:=Dq h.wide h.xU h.t30 h.all
theorem xO{l:List av.Prod}{i n:Nat}(h:i<n):(eE l T Nx S n)[i]?=some (ey l T Nx S i (T+1)):=by unfold eE;simp[h]
theorem tX{i n:Nat}(h:i<n):(dJ T Nx n)[i]?=some ((Nx.getD i []).drop T):=by unfold dJ;simp[h]
theorem GP{l:List av.Prod}{q c:Nat}(h:c<T+1):(ey l T Nx S q (T+1))[c]?=some (gC l T Nx S q c):=by
 unfold ey;rw[List.getElem?_map,List.getElem?_range h];simp[h]
theorem iN.right(h:iN g T N Nx S){q c:Nat}(hq:q<S.length)(_:c<T+1):sm T g.ag.length S.length (gC g.ag T Nx S q c) c:=by
 have hI:=h.law
 by_cases h0:(gC g.ag T Nx S q c).1=0
 ·left
  refine⟨h0,?_⟩;unfold gC at h0⊢
  cases e:fB g.ag T (S.getD q []) (Nx.getD q []) c with
  |nil=>rfl
  |cons y r=>
   rw[e]at h0;have hm:y∈fB g.ag T (S.getD q []) (Nx.getD q []) c:=by rw[e];exact List.mem_cons_self ..
   rcases Aj hm with h'|h'|h'
   ·have:=h'.1;have h0:y.1=0:=h0;omega
   ·have h0:y.1=0:=h0;rw[h'.1]at h0;cases h0
   ·have:=h'.1;have h0:y.1=0:=h0;omega
 ·rcases Aj (T9 rfl h0)with h'|h'|h'
  ·obtain⟨h1,h2,h3,h4⟩:=h'
   obtain⟨s,hs⟩:=Int.eq_ofNat_of_zero_le h3;obtain⟨k1,-,-⟩:=Kl hI hq (zy h2) hs;exact .inr (.inl ⟨h1,h2,by omega,by rw[h4,hs];omega⟩)
  ·obtain⟨h1,h2⟩:=h'
   have ht:=P_ h.wide h.xU h.t30 h.all q hq _ h2 rfl;have ht:(c:Int)=(T:Int):=ht;exact .inr (.inr (.inr ⟨by rw[h1],by rw[h1],by omega⟩))
  ·obtain⟨h1,h2,h3⟩:=h'
   exact .inr (.inr (.inl ⟨h1,(pc hI hq _ h3).1,h2⟩))
theorem iN.iS(h:iN g T N Nx S):Qw g T N (eE g.ag T Nx S S.length) (dJ T Nx S.length) where
 um:=h.um
 aJ:=h.aJ
 aR:=h.aR
 pos:=by rw[fq];exact(List.getElem?_eq_some_iff.1 h.law.start).1
 xU:=by rw[fq];exact h.law.xU
 same:=by rw[fq,iM]
 wA:=fun i hi=>by
  obtain⟨h1,h2⟩:=List.getElem?_eq_some_iff.1 (xO (T:=T) (Nx:=Nx) (S:=S) (l:=g.ag) (show i<S.length by rw[fq]at hi;exact hi));rw[h2];exact k8
 rv:=fun i hi c hc=>by
  have kz:i<S.length:=by rw[fq]at hi;exact hi
  obtain⟨h1,h2⟩:=List.getElem?_eq_some_iff.1 (xO (T:=T) (Nx:=Nx) (S:=S) (l:=g.ag) kz);simp only[h2]at hc⊢;rw[k8]at hc;obtain⟨h3,h4⟩:=List.getElem?_eq_some_iff.1 (GP (l:=g.ag) (T:=T) (Nx:=Nx) (S:=S) (q:=i) hc);rw[h4,fq];exact h.right kz hc
 wG:=fun i hi=>by
  have kz:i<S.length:=by rw[iM]at hi;exact hi
  obtain⟨h1,h2⟩:=List.getElem?_eq_some_iff.1 (tX (T:=T) (Nx:=Nx) kz);rw[h2,List.length_drop,h.law.wide i kz];omega
 Z_:=fun i hi y hy=>by
  have kz:i<S.length:=by rw[iM]at hi;exact hi
  obtain⟨h1,h2⟩:=List.getElem?_eq_some_iff.1 (tX (T:=T) (Nx:=Nx) kz);rw[h2]at hy;obtain⟨k,hk,rfl⟩:=List.getElem_of_mem hy;rw[fq];rw[List.length_drop,h.law.wide i kz]at hk;rw[List.getElem_drop];have hw:=h.law.wide i kz;have hg:(Nx.getD i [])[T+k]'(by rw[hw];omega)=(Nx.getD i []).getD (T+k) 0:=by rw[List.getD_eq_getElem?_getD (l:=Nx.getD i []),List.getElem?_eq_getElem (by rw[hw];omega)];rfl
  rw[hg];rcases h.law.cell i kz (T+k) _ (Dl (by omega))with⟨_,e⟩|⟨_,e1,e2⟩
  ·rw[e];omega
  ·rw[e2];have:=iV e1;omega
theorem tY{l:List av.Prod}:∀n,(eR l T Nx S n).length=0->∀q,q<n->∀c,c<=T->(fB l T (S.getD q []) (Nx.getD q []) c).length<=1
  |0,_,q,hq,_,_=>absurd hq (Nat.not_lt_zero _)
  | n + 1,h,q,hq,c,hc=>by
    rw[eR,List.length_append]at h
    by_cases e:q=n
    · subst e
      have row:∀d,(eQ l T Nx S q d).length=0->∀c,c<d->(pC l T Nx S q c).length=0:=fun d=>by
        induction d with
        |zero=>exact fun _ c hc=>absurd hc (Nat.not_lt_zero _)
        | succ d ih=>
          intro h c hc;rw[eQ,List.length_append]at h
          by_cases e2:c=d
          · subst e2;omega
          · exact ih (by omega) c (by omega)
      have:=row (T+1) (by omega) c (by omega);unfold pC at this;rw[List.length_map,List.length_tail]at this;have h2:(fB l T (S.getD q []) (Nx.getD q []) c).length-1=0:=this;omega
    · exact tY n (by omega) q (by omega) c hc
theorem iN.calm(h:iN g T N Nx S)(hc:xL g=true):zK g.ag T Nx S:=by
 unfold xL at hc;rw[Bool.and_eq_true,decide_eq_true_eq,decide_eq_true_eq,h.T_]at hc;exact fun q hq c PA=>tY S.length hc.2 q hq c PA
theorem Km(hc:xL g=true):∃T N Nx S,iN g T N Nx S:=by
 unfold xL at hc;rw[Bool.and_eq_true,decide_eq_true_eq]at hc;exact Ak hc.1
theorem GQ(hg:bM g=0){p:Int}:∀x∈cU g.ag p,right g.aJ g.aR x=true:=fun x hx=>by
 unfold cU at hx;split at hx
 ·rw[List.mem_singleton.1 hx]
  have:=(bI hg).2.2.1;unfold right;rw[if_neg (by decide),if_pos rfl];simp only[Int.le_refl,decide_true,Bool.true_and,decide_eq_true_eq];omega
 ·by_cases h2:p.toNat<g.ag.length
  ·have:aQ g.ag p∈g.ag:=by unfold aQ;rw[List.getD_eq_getElem?_getD,List.getElem?_eq_getElem h2];exact List.getElem_mem h2
   exact((bI hg).2.2.2.2.2 _ this).2.2.2 x hx
  ·unfold aQ at hx
   rw[List.getD_eq_getElem?_getD,List.getElem?_eq_none (by omega)]at hx
   cases hx
theorem iN.looks(h:iN g T N Nx S)(p d:Int):fY g p d=cP (jy N g.ag).E (sY N g.ag) ((cU g.ag p).drop (d.toNat+1)) (2^62):=by
 unfold fY ui;have XI:=iZ (l:=g.ag) (p:=p) h.wide;have hE:oE g ((cU g.ag p).drop (d.toNat+1))=0:=by
  unfold oE;rw[if_neg (by rw[h.um];simp),if_neg (by rw[List.length_drop];omega)];exact Ba fun x hx=>GQ h.um x (List.mem_of_mem_drop hx)
 rw[if_pos hE,show g.aR.toNat=N by rw[h.aR];rfl]
theorem iN.lrH(h:iN g T N Nx S)(hc:xL g=true){w:List Int}(hw:∀x∈w,0<=x/\x<(T:Int)):T6 g.ag T N (fY g) Nx S w (jy N g.ag).E (sY N g.ag) (tI N g.ag) (jy N g.ag).R (jy N g.ag).M where
 wide:=h.wide
 xU:=h.xU
 aJ:=h.t30
 aR:=by have:=(bI h.um).2.2.1;have:=h.aR;omega
 Kk:=pq h.um h.aR
 sO:=fun q hq x hx h1=>by
  have:=((bI h.um).2.2.2.2.2 q hq).2.2.2 x hx;rcases lK this with⟨_,h2,h3⟩|⟨h2,_⟩
  ·rw[h.aJ]at h3;exact⟨h2,h3⟩
  ·rw[h1]at h2;cases h2
 all:=h.law
 calm:=h.calm hc
 facts:=zw h.um h.aR
 looks:=fun p d _ _ _=>h.looks p d
 word:=hw
theorem QF(hc:xL g=true){word:List Int}(gD:gd g word=0):jX g word<=1:=by
 obtain⟨T,N,Nx,S,h⟩:=Km hc;obtain⟨hg,_,hw⟩:=ku gD;rw[h.aJ]at hw;apply Nat.le_of_not_lt;intro h2;obtain⟨t,t',hne,h1,y1,h2,y2⟩:=zh (g:=g) (w:=word) h2;exact hne (T8 (h.lrH hc hw) h1 y1 h2 y2)
end
end bH
namespace jS
open bO d_ cV bT
open bH (jc dA pL Br)
variable{m:MS}{R:List Row}{d:DM}
theorem QG(hm:AY m)(hi:UE m (dz m.empty 0) (d.S.length+1) R d)(k:Nat):d.tags.getD k 0<m.empty.length:=by
  have h:=hi.tags;unfold l7 at h;rw[h];have h0:=hm.some
  cases k with
  | zero=>
    have:=zX (l:=m.empty);have e:(dz m.empty 0::d.S.map (jS.pK m.ps)).getD 0 0=dz m.empty 0:=rfl;rw[e];omega
  | succ k=>
    by_cases hk:k<d.S.length
    · have e:(dz m.empty 0::d.S.map (jS.pK m.ps)).getD (k+1) 0=jS.pK m.ps d.S[k]:=by
        rw[List.getD_cons_succ,List.getD_eq_getElem?_getD,List.getElem?_map,List.getElem?_eq_getElem hk];rfl
      rw[e];unfold jS.pK;rcases Bx hm.rules hm.ok.ps.rules d.S[k] m.ps.aC.length (Nat.le_refl _)with⟨h1,_⟩|⟨_,_,_,_,_,h1,h2,_⟩
      · rw[h1];omega
      · omega
    · rw[List.getD_cons_succ,List.getD_eq_getElem?_getD,List.getElem?_eq_none (by rw[List.length_map];omega)]
      show(0:Int)<_
      omega
end jS
namespace bH
open Go.RowKit bL db bO d_ iK av bT cV jS
theorem NY{R:List Row}{tags:List Int}{n:Int}(h:∀k,tags.getD k 0<n):∀t∈sd R tags,t<n:=fun t ht=>by
 unfold sd at ht;split at ht
 ·obtain⟨k,-,rfl⟩:=List.mem_map.1 ht
  exact h k
 ·cases ht
theorem NZ{s:Sp}{r:Int×List Row×List Int}(h:Qr s r)(h0:r.1=0):0<s.words.length/\s.words.length<=20/\∀t∈r.2.2,t<(s.words.length:Int):=by
 rcases h with⟨k,hk,-,rfl⟩|⟨es,m,h1,-,h3,h4,h5,-,⟨h,rfl⟩|⟨-,h,rfl⟩|⟨h,hd,hc,rfl⟩⟩
 ·exact absurd h0 hk
 ·exact absurd h0 h
 ·exact absurd h0 h
 ·have hlen:s.words.length=es.length:=by
   have:=congrArg List.length h1
   rwa [k7,List.length_map,List.length_map]at this
  obtain⟨-,h7,-,-⟩:=AZ es 0 .zero m AX rfl (fun r hr=>by cases hr) (Nat.zero_le _) h5;refine⟨by omega,by omega,?_⟩;dsimp only
  cases hm:ox m with
  |none=>rw[F5 hm]at hd;cases hd
  |some y=>
   obtain⟨R,d⟩:=y;rw[xl hm];refine NY fun k=>?_;have:=QG (uG h3 h4 h5) (s9 hm) k;show d.tags.getD k 0<_
   omega
end bH
namespace iK
open bO d_
theorem RZ(l:List Wd):∀k,k<=l.length->0<=((l.take k).foldl fa Og).2.1/\∀x∈((l.take k).foldl fa Og).1,-1<=x/\x<((l.take k).foldl fa Og).2.1
  |0,_=>⟨Int.le_refl _,fun x hx=>by cases hx⟩
  | k + 1,h=>by
    obtain⟨a1,a2⟩:=RZ l k (by omega);rw[step_take _ _ _ (show k<l.length by omega)];have key:∀(s:WS) (w:Wd),0<=s.2.1->(∀x∈s.1,-1<=x/\x<s.2.1)->0<=(fa s w).2.1/\∀x∈(fa s w).1,-1<=x/\x<(fa s w).2.1:=fun s w b1 b2=>by
      unfold fa;split
      · refine⟨b1,fun x hx=>?_⟩
        rcases List.mem_append.1 hx with hx|hx
        · exact b2 x hx
        · rw[List.mem_singleton.1 hx];exact⟨Int.le_refl _,by show(-1:Int)<s.2.1;omega⟩
      · refine⟨by show 0<=s.2.1+1;omega,fun x hx=>?_⟩
        show-1<=x/\x<s.2.1+1
        rcases List.mem_append.1 hx with hx|hx
        · have:=b2 x hx;omega
        · rw[List.mem_singleton.1 hx];omega
    exact key _ _ a1 a2
end iK
namespace bH
open Go.RowKit bL db bO d_ iK av bT
def Ua(s:Sp)(R:List Row)(T:List Int):Md:=⟨(BE s.words).1,qI R 256,J8 R,T,aZ s,1,NV (aZ s) (aZ s).aJ.toNat (aZ s).aR.toNat,[],[]⟩
def Ub(s:Sp)(R:List Row)(T:List Int):Md:=⟨(BE s.words).1,qI R 256,J8 R,T,aZ s,2,[],(ff (aZ s)).1,(ff (aZ s)).2.1⟩
theorem N0{l:List Wd}(h:l.length<=60):(BE l).1.length=l.length:=by
 have:=(Nk l l.length (Nat.le_refl _) h).1;rw[List.take_length]at this;exact this
section
variable{w:World}{B:bB}{L:List bz}{x:pQ}{s:Sp}{R:List Row}{T:List Int}{i0 i1 i2 i3 i4 i5 i6 i7 i8:Nat}
theorem R4(hl:s.words.length<=60)(h:(aI 3 1 x.vo s.words.length ((BE s.words).1.map (Value.int .i64))).holds w):Sl w x.vo (BE s.words).1.length ((BE s.words).1.flatMap bL.dK):=by
 rw[N0 hl];have:=Sl.cD h
 rwa [<-Vq]at this
theorem BQ(hg:bM (aZ s)=0)(h:(mY x.F x.vp (aZ s).ag).holds w):jf (fun k=>k<w.heap.size) w (cH (aZ s).aJ (aZ s).aR x.vp) (aZ s):=by
 obtain⟨a1,a2,a3,a4,a5,a6⟩:=bI hg;exact qL (Qn ⟨a1,by omega⟩) (Qn ⟨by omega,by omega⟩) h
theorem Uc(hm:Mem B L w)(hl:s.words.length<=60)(hc:jc R T=0)(hg:bM (aZ s)=0)
 (h0:L[i0]?=some (aI 3 1 x.vo s.words.length ((BE s.words).1.map (Value.int .i64)))) (h1:L[i1]?=some (mY x.F x.vp (aZ s).ag)) (h2:L[i2]?=some (dC 26 qM x.gP R.length x.qN)) (h3:L[i3]?=some (Kd R.length (jI R 256) x.qN)) (h4:L[i4]?=some (aI 3 1 x.vT T.length (T.flatMap bL.dK)))
 (h5:L[i5]?=some (dC 26 o9 x.gR (aZ s).aR.toNat x.tj)) (h6:L[i6]?=some (ft (fun j=>j<(aZ s).aR.toNat) (jm (aZ s).ag (pN (aZ s).aR.toNat (aZ s).ag) (aZ s).aJ.toNat x.tj (aZ s).aR.toNat 0))):
 MdR w (.agg (x.WX (aZ s) R)) (Ua s R T) x.vo (.slice (some ⟨x.gP,0,none⟩) R.length R.length) x.vT x.vp (.slice (some ⟨x.gR,0,none⟩) (aZ s).aR.toNat (aZ s).aR.toNat) (.slice none 0 0) (.slice none 0 0) where
 val:=rfl
 of:=R4 hl (hm.get h0)
 pk:=hm.pkI h2 h3 h4 hc
 T3:=BQ hg (hm.get h1)
 rows:=by
  obtain⟨a1,a2,a3,a4,a5,a6⟩:=bI hg;exact NQ a5 (by omega) (hm.get h5) (hm.get h6)
 iS:=⟨_,_,rfl,gI.nil,gI.nil⟩
theorem Ud(hm:Mem B L w)(hl:s.words.length<=60)(hc:jc R T=0)(hg:bM (aZ s)=0)
 (h0:L[i0]?=some (aI 3 1 x.vo s.words.length ((BE s.words).1.map (Value.int .i64)))) (h1:L[i1]?=some (mY x.F x.vp (aZ s).ag)) (h2:L[i2]?=some (dC 26 qM x.gP R.length x.qN)) (h3:L[i3]?=some (Kd R.length (jI R 256) x.qN)) (h4:L[i4]?=some (aI 3 1 x.vT T.length (T.flatMap bL.dK)))
 (h5:L[i5]?=some (aI 120 1 x.tx.vA (ff (aZ s)).1.length x.tx.pO)) (h6:L[i6]?=some (cY (a8 qO) x.tx.FA (x.tx.pO.map fun v=>[v]) (ff (aZ s)).1)) (h7:L[i7]?=some (aI 26 1 x.tx.vG (ff (aZ s)).2.1.length x.tx.pP)) (h8:L[i8]?=some (cY (a8 eI) x.tx.FG (x.tx.pP.map fun v=>[v]) (ff (aZ s)).2.1)):
 MdR w (.agg (x.XZ (aZ s) R)) (Ub s R T) x.vo (.slice (some ⟨x.gP,0,none⟩) R.length R.length) x.vT x.vp (.slice none 0 0) x.tx.vA x.tx.vG where
 val:=rfl
 of:=R4 hl (hm.get h0)
 pk:=hm.pkI h2 h3 h4 hc
 T3:=BQ hg (hm.get h1)
 rows:=gI.nil
 iS:=Qv (hm.get h5) (hm.get h6) (hm.get h7) (hm.get h8)
end
theorem BR{s:Sp}{r:Int×List Row×List Int}(h:Qr s r)(h0:r.1=0):s.words.length<=20/\bM (aZ s)=0/\jc r.2.1 r.2.2=0/\0<(BE s.words).1.length/\(BE s.words).1.length<=20/\(∀t∈(BE s.words).1,-1<=t/\t<(aZ s).aJ)/\∀t∈r.2.2,t<((BE s.words).1.length:Int):=by
 obtain⟨a1,a2⟩:=xK h h0;obtain⟨b1,b2,b3⟩:=NZ h h0;have e:=N0 (l:=s.words) (by omega);have c:=(RZ s.words s.words.length (Nat.le_refl _)).2;rw[List.take_length]at c;exact⟨b2,a1,a2,by omega,by omega,c,by rw[e];exact b3⟩
theorem QH{s:Sp}{r:Int×List Row×List Int}(h:Qr s r)(h0:r.1=0):GL (Ua s r.2.1 r.2.2):=by
 obtain⟨a1,a2,a3,a4,a5,a6,a7⟩:=BR h h0;obtain⟨b1,b2,b3,b4,b5,b6⟩:=bI a2;exact⟨Ij _,GK (Ik a3),a2,a4,a5,a6,a7,.inl ⟨rfl,NW (g:=aZ s) (T:=(aZ s).aJ.toNat) (N:=(aZ s).aR.toNat) a2 (by omega) (by omega)⟩⟩
theorem QI{s:Sp}{r:Int×List Row×List Int}(h:Qr s r)(h0:r.1=0)(hT:(ff (aZ s)).2.2.2=0):GL (Ub s r.2.1 r.2.2):=by
 obtain⟨a1,a2,a3,a4,a5,a6,a7⟩:=BR h h0;obtain⟨T,N,Nx,S,hM⟩:=Ak hT;refine⟨Ij _,GK (Ik a3),a2,a4,a5,a6,a7,.inr ⟨rfl,T,N,?_⟩⟩;show Qw (aZ s) T N (ff (aZ s)).1 (ff (aZ s)).2.1
 rw[hM.rv,hM.Z_];exact hM.iS
end bH
namespace BS
open Go.RowKit bL db bO d_ iK bH
def Ue(a s:C4):List Wd:=[([97],.mk 3 a []),([],.mk 3 s [])]
def N1:List Rl:=[([108],[[97],[109]]),([109],[]),([109],[[97],[109]])]
theorem GR(n:Bs)(k:Int)(c:C4)(b:Option Addr)(m cp:Nat)(w:World):(Instr.build 71 #[(0,str n),(1,.agg (iP k c (.slice b m cp)).toArray)]).run Tryz.prog w= .ok (.agg (qS n k c (.slice b m cp)).toArray) w:=by kernel_rfl
theorem Ej(n:Bs)(w:World):(Instr.build 74 #[(0,str n)]).run Tryz.prog w= .ok (.agg #[str n,.slice none 0 0]) w:=by kernel_rfl
theorem Ek(k:Int)(c:C4)(w:World):(Instr.build 71 #[(1,.agg (iP k c (.slice none 0 0)).toArray)]).run Tryz.prog w= .ok (.agg (qS [] k c (.slice none 0 0)).toArray) w:=by kernel_rfl
theorem tZ(n:Bs)(g:Nat)(w:World):(Instr.build 74 #[(0,str n),(1,.slice (some ⟨g,0,none⟩) 2 2)]).run Tryz.prog w= .ok (.agg #[str n,.slice (some ⟨g,0,none⟩) 2 2]) w:=by kernel_rfl
theorem Em(a b:Option Addr)(m c n d:Nat)(w:World):(Instr.build 25 #[(0,.slice a m c),(1,.slice b n d)]).run Tryz.prog w= .ok (.agg #[.slice a m c,.slice b n d]) w:=by kernel_rfl
structure Xc where
 g1:Nat
 g2:Nat
 g3:Nat
 g4:Nat
def rlC(n:Bs)(v:Value):List Value:=[str n,v]
def QJ(a s:C4):bH.Spec Xc:=⟨fun _=>True,fun x=> .agg #[.slice (some ⟨x.g1,0,none⟩) 2 2,.slice (some ⟨x.g4,0,none⟩) 3 3],fun x=>[ap x.g1 (qS [97] 3 a (.slice none 0 0)++qS [] 3 s (.slice none 0 0)).toArray 71,ap x.g2 #[str [97],str [109]] 9,ap x.g3 #[str [97],str [109]] 9,
 ap x.g4 #[str [108],.slice (some ⟨x.g2,0,none⟩) 2 2,str [109],.slice none 0 0,str [109],.slice (some ⟨x.g3,0,none⟩) 2 2] 74]⟩
set_option maxRecDepth 100000 in
theorem GS(w:World):Calls Tryz.prog 5 #[] w (bU (QJ (dx 97 97) (dx 32 32)) w):=by
 have hl:=fun w=>rh 97 w ⟨by decide,by decide⟩;have Cs:=fun w=>rh 32 w ⟨by decide,by decide⟩;generalize dx 97 97=ca at*;generalize dx 32 32=cs at*;refine enter (args:=[]) (n:=13) Tryz.func5 rfl rfl rfl ?_;refine bJ (aV (aF rfl fun g0=>?_));refine zL ?_
 try refine GA ?_
 refine aM (iT aj.en rfl rfl) (fun w hm=>hl w) rfl rfl rfl ?_;intro _ _;refine zL ?_
 repeat(first|refine QZ ?_|refine QV (aU rfl (GR _ _ _ _ _ _)) ?_)
 refine aM (iT aj.en rfl rfl) (fun w hm=>Cs w) rfl rfl rfl ?_;intro _ _;refine zL ?_
 repeat(first|refine QZ ?_|refine QV (aU rfl (Ek _ _)) ?_)
 refine ee (cs:=(qS [97] 3 ca (.slice none 0 0)++qS [] 3 cs (.slice none 0 0)).toArray) [.agg (qS [97] 3 ca (.slice none 0 0)).toArray,.agg (qS [] 3 cs (.slice none 0 0)).toArray] rfl rfl rfl (by intro v hv;simp only[List.mem_cons,List.not_mem_nil,or_false]at hv;rcases hv with rfl|rfl<;>rfl) rfl rfl rfl fun g5=>?_;refine zL ?_;refine ee (cs:=#[str [97],str [109]]) [str [97],str [109]] rfl rfl rfl (by intro v hv;simp only[List.mem_cons,List.not_mem_nil,or_false]at hv;rcases hv with rfl|rfl<;>rfl) rfl rfl rfl fun g6=>?_;refine zL ?_
 repeat(first|refine QZ ?_|refine QV (aU rfl (tZ _ _)) ?_|refine QV (aU rfl (Ej _)) ?_)
 refine ee (cs:=#[str [97],str [109]]) [str [97],str [109]] rfl rfl rfl (by intro v hv;simp only[List.mem_cons,List.not_mem_nil,or_false]at hv;rcases hv with rfl|rfl<;>rfl) rfl rfl rfl fun g9=>?_;refine zL ?_
 repeat(first|refine QZ ?_|refine QV (aU rfl (tZ _ _)) ?_)
 refine ee (cs:=#[str [108],.slice (some ⟨g6,0,none⟩) 2 2,str [109],.slice none 0 0,str [109],.slice (some ⟨g9,0,none⟩) 2 2]) [.agg #[str [108],.slice (some ⟨g6,0,none⟩) 2 2],.agg #[str [109],.slice none 0 0],.agg #[str [109],.slice (some ⟨g9,0,none⟩) 2 2]] rfl rfl rfl (by intro v hv;simp only[List.mem_cons,List.not_mem_nil,or_false]at hv;rcases hv with rfl|rfl|rfl<;>rfl) rfl rfl rfl fun g11=>?_;refine zL ?_
 repeat(first|refine QZ ?_|refine QV (aU rfl (Em _ _ _ _ _ _)) ?_)
 refine fU 0 (cs':=#[.slice (some ⟨g5,0,none⟩) 2 2,.slice (some ⟨g11,0,none⟩) 3 3]) ?_;refine zL ?_
 try refine GA ?_
 exact e8 (i:=0) rfl rfl rfl rfl fun w hm=>hm.meets (S:=QJ ca cs) ⟨g5,g6,g9,g11⟩ trivial [1,2,3,4] (by decide) rfl
theorem Xd{n:Nat}(h:n<=10:=by exact Nat.le_of_ble_eq_true rfl):n<=9223372036854775807:=by omega
theorem Il{w:World}{g:Nat}(h:(ap g #[str [97],str [109]] 9).holds w):gI IP (mU w) w (.slice (some ⟨g,0,none⟩) 2 2) [[97],[109]]:=by
 have hb:w.heap[g]?=some (.cells #[str [97],str [109]] 9 (0,0)):=h;refine⟨_,2,rfl,Nat.le_refl _,by decide,fun _=>⟨g,0,rfl,(Array.getElem?_eq_some_iff.1 hb).1,fun i hi=>⟨[str ([[97],[109]]:List Bs)[i]],⟨rfl,?_⟩,fun j u hj=>?_⟩⟩⟩
 ·match i,hi with
  |0,_=>exact(by decide:(1:Nat)<=9223372036854775807)
  |1,_=>exact(by decide:(1:Nat)<=9223372036854775807)
 ·rw[cell_of_row w g _ _ _ _ hb]
  match i,hi,j,hj with
  |0,_,0,hj=>exact hj
  |1,_,0,hj=>exact hj
theorem QM{w:World}{a s:C4}{x:Xc}(h1:(ap x.g1 (qS [97] 3 a (.slice none 0 0)++qS [] 3 s (.slice none 0 0)).toArray 71).holds w)(h2:(ap x.g2 #[str [97],str [109]] 9).holds w)(h3:(ap x.g3 #[str [97],str [109]] 9).holds w)
 (h4:(ap x.g4 #[str [108],.slice (some ⟨x.g2,0,none⟩) 2 2,str [109],.slice none 0 0,str [109],.slice (some ⟨x.g3,0,none⟩) 2 2] 74).holds w):M7 (mU w) w (.agg #[.slice (some ⟨x.g1,0,none⟩) 2 2,.slice (some ⟨x.g4,0,none⟩) 3 3]) ⟨Ue a s,N1⟩:=by
 have ya:w.heap[x.g1]?=some (.cells (qS [97] 3 a (.slice none 0 0)++qS [] 3 s (.slice none 0 0)).toArray 71 (0,0)):=h1;have X2:w.heap[x.g4]?=some (.cells #[str [108],.slice (some ⟨x.g2,0,none⟩) 2 2,str [109],.slice none 0 0,str [109],.slice (some ⟨x.g3,0,none⟩) 2 2] 74 (0,0)):=h4;have hx:∀c,gj (mU w) w (iP 3 c (.slice none 0 0)) (.mk 3 c []):=fun c=>re.2 ⟨_,rfl,⟨by decide,by decide⟩,gI.nil⟩;refine⟨_,_,rfl,⟨_,2,rfl,Nat.le_refl _,by decide,fun _=>⟨x.g1,0,rfl,(Array.getElem?_eq_some_iff.1 ya).1,fun i hi=>?_⟩⟩,⟨_,3,rfl,Nat.le_refl _,by decide,fun _=>⟨x.g4,0,rfl,(Array.getElem?_eq_some_iff.1 X2).1,fun i hi=>?_⟩⟩⟩
 ·match i,hi with
  |0,_=>
   refine⟨qS [97] 3 a (.slice none 0 0),⟨[str [97]],_,rfl,⟨rfl,Xd⟩,hx a⟩,fun j u hj=>?_⟩;rw[cell_of_row w x.g1 _ _ _ _ ya,List.getElem?_toArray,Nat.zero_mul,Nat.zero_add,List.getElem?_append_left (List.getElem?_eq_some_iff.1 hj).1];exact hj
  |1,_=>
   refine⟨qS [] 3 s (.slice none 0 0),⟨[str []],_,rfl,⟨rfl,Xd⟩,hx s⟩,fun j u hj=>?_⟩;rw[cell_of_row w x.g1 _ _ _ _ ya,List.getElem?_toArray];show(qS [97] 3 a (.slice none 0 0)++qS [] 3 s (.slice none 0 0))[0+1*7+j]?=some u
   rw[List.getElem?_append_right (by show 7<=_;omega),show 0+1*7+j-(qS [97] 3 a (.slice none 0 0)).length=j from by show 0+1*7+j-7=j;omega];exact hj
 ·match i,hi with
  |0,_=>
   refine⟨rlC [108] (.slice (some ⟨x.g2,0,none⟩) 2 2),⟨[str [108]],[_],rfl,⟨rfl,Xd⟩,_,rfl,Il h2⟩,fun j u hj=>?_⟩;rw[cell_of_row w x.g4 _ _ _ _ X2]
   match j,hj with
   |0,hj=>exact hj
   |1,hj=>exact hj
  |1,_=>
   refine⟨rlC [109] (.slice none 0 0),⟨[str [109]],[_],rfl,⟨rfl,Xd⟩,_,rfl,gI.nil⟩,fun j u hj=>?_⟩;rw[cell_of_row w x.g4 _ _ _ _ X2]
   match j,hj with
   |0,hj=>exact hj
   |1,hj=>exact hj
  |2,_=>
   refine⟨rlC [109] (.slice (some ⟨x.g3,0,none⟩) 2 2),⟨[str [109]],[_],rfl,⟨rfl,Xd⟩,_,rfl,Il h3⟩,fun j u hj=>?_⟩;rw[cell_of_row w x.g4 _ _ _ _ X2]
   match j,hj with
   |0,hj=>exact hj
   |1,hj=>exact hj
end BS
namespace jS
open bO d_ cV bT
theorem N2{a b c:List Int}(h1:c.Pairwise (· < ·))(h2:∀x,(x∈a\/x∈b)↔x∈c):lX a b=c:=
 wK (uF _ _).1 h1 fun x=>by rw[(uF _ _).2,h2]
end jS
namespace specOne
open Go.RowKit bL db bH bO d_ iK av bT cV jS BS
def lS:Sp:=⟨Ue (dx 97 97) (dx 32 32),N1⟩
def lE:List Re:=[.byte (dx 97 97),.byte (dx 32 32)]
set_option maxRecDepth 1000000 in
theorem Uf:GI lS 0=(0,1):=by kernel_rfl
theorem N3:(aZ lS).aR=2:=by kernel_rfl
theorem QN:o7 lS=0:=by kernel_rfl
def lM(a b:C4):MS:=⟨⟨[a,b],[0,1],[[],[]],[true,true]⟩,[0,1],[false,false]⟩
theorem Ug(a b:C4):io 0 .zero [.byte a,.byte b]=(0,lM a b):=by
 have u0:lX [] [0]=[0]:=N2 (by simp) (by simp);have u1:lX [0] [1]=[0,1]:=N2 (by simp) (by simp);have s0:pW 0 .zero (.byte a)=⟨⟨[a],[0],[[]],[true]⟩,[0],[false]⟩:=by simp[pW,a_,MS.zero,dy,u0]
 have s1:pW 1 ⟨⟨[a],[0],[[]],[true]⟩,[0],[false]⟩ (.byte b)=lM a b:=by
  simp[pW,a_,dy,u1,lM]
 rw[io,s0,if_neg (by simp),io,s1,if_neg (by simp[lM]),io]
theorem Kn:fP (k7 lS)=0:=by kernel_rfl
set_option maxRecDepth 1000000 in
theorem QO:((ox (lM (dx 97 97) (dx 32 32))).map fun x=>x.1.length)=some 3:=by kernel_rfl
theorem Uh:∃r,Qr lS r/\r.1=0:=by
 have hl:io 0 .zero lE=(0,lM (dx 97 97) (dx 32 32)):=Ug _ _;have hd:=QO;generalize lM (dx 97 97) (dx 32 32)=m at*
 cases hm:ox m with
 |none=>rw[hm]at hd;cases hd
 | some y=>
  obtain⟨R,d⟩:=y;refine⟨_,.inr ⟨lE,m,rfl,?_,by decide,by decide,hl,.inr (.inr ⟨by decide,Kn,lE,rfl,?_,hl.symm⟩),.inr (.inr ⟨QN,?_,?_,rfl⟩)⟩,rfl⟩
  ·intro e he
   simp only[lE,List.mem_cons,List.not_mem_nil,or_false]at he;rcases he with rfl|rfl<;>exact⟨by unfold Re.nz;decide,by decide,by decide⟩
  ·intro e he
   simp only[lE,List.mem_cons,List.not_mem_nil,or_false]at he;rcases he with rfl|rfl<;>decide
  ·rw[xl hm]
  ·rw[xl hm]
   exact MQ (uG (by decide) (by decide) hl) (s9 hm)
end specOne
namespace bH
open Go.RowKit bL db bO
theorem uU{n:Int}(h0:0<=n)(h1:n<=18446744073709551615):v64 (BitVec.ofNat 64 n.toNat)= .int .u64 n:=by
 simp only[v64,dO,BitVec.toNat_ofNat]
 congr 1
 omega
set_option maxRecDepth 100000 in
theorem Ko{H:Type}{enc0:TypeId×Value->H}{W:World}:nV enc0 Tryz.prog W 65 (fun cs x=>cs=cC x/\True):=fun fuel cs x hf=>by
 have ho:nV enc0 Tryz.prog W 65 (K8 .u64 0 18446744073709551615 4):=(Cn (is:=isInt .u64 0 18446744073709551615) (c:=1) Tryz.underlying65 (by kernel_rfl) (IK Tryz.underlying63)).mono fun cs l h=>by
  have e:Tryz.prog.cellsOf 65=4:=by kernel_rfl
  exact Co (by rw[h.1,e]) h.2
 obtain⟨l,h1,h2,h3⟩:=ho fuel cs _ hf
 match l,h1 with
 |[p,q,r,s],_=>
  have b0:=h3 p (by simp);have b1:=h3 q (by simp);have b2:=h3 r (by simp);have b3:=h3 s (by simp);refine⟨⟨BitVec.ofNat 64 p.toNat,BitVec.ofNat 64 q.toNat,BitVec.ofNat 64 r.toNat,BitVec.ofNat 64 s.toNat⟩,?_,trivial⟩;show cs=[v64 (BitVec.ofNat 64 p.toNat),v64 (BitVec.ofNat 64 q.toNat),v64 (BitVec.ofNat 64 r.toNat),v64 (BitVec.ofNat 64 s.toNat)]
  rw[uU b0.1 b0.2,uU b1.1 b1.2,uU b2.1 b2.2,uU b3.1 b3.2,h2];rfl
end bH
namespace bH
open Go.RowKit bL db bO d_ Go.ChangeShapes Go.WideShapes Go.ChangeAt
set_option maxRecDepth 100000
section
variable{H:Type}{enc0:TypeId×Value->H}{P:Program}{W:World}{M:OI P H}
def xP(M:OI P H)(enc0:TypeId×Value->H)(W:World)(fuel:Nat)(t:TypeId){α:Type}(is:List Value->α->Prop):Prop:=
 ∀cs x,DataW.trod enc0 P W 0 (fun _=>true) true fuel t cs=some x->M.ok t x.1->∃a,is cs a
theorem gH.at{fuel:Nat}{t:TypeId}{α:Type}{is:List Value->α->Prop}(h:gH M enc0 W t is):xP M enc0 W fuel t is:=fun cs x=>h fuel cs x
theorem BT{fuel:Nat}{t e:TypeId}{c:Nat}(ht:P.underlying t=some (.slice e))(hc:P.cellsOf e=c)(uV:0<c){α:Type}{is:List Value->α->Prop}(hd:∀n,fuel=n+1->xP M enc0 W n e is)(_:∀cs a,is cs a->cs.length=c):xP M enc0 W fuel t (fun cs l=>Ve W is c cs l/\M.lim e l.length):=fun cs x h hm=>by
  rcases DataW.trod_slice ht h with⟨rfl,_⟩|⟨a,len,cap,elems,rest,n,hf,rfl,hx,_,SE,hmx,pE,qT,_⟩
  · exact⟨[],⟨_,rfl,none,0,rfl,Nat.le_refl _,by decide,fun h=>by simp at h⟩,M.zero e⟩
  · rw[hx]at hm
    obtain⟨vC,mb⟩:=M.slice ht hm;have each:∀i,i<len->∃y:α,∃cs,W.cells? 0 (a.add (i*c)) c=some cs/\is cs y:=fun i hi=>by
      have h1:=qT i hi;rw[hc,List.getElem?_eq_getElem (by omega)]at h1
      cases hcell:W.cells? 0 (a.add (i*c)) c with
      |none=>rw[hcell]at h1;simp at h1
      | some cs=>
        rw[hcell]at h1;obtain⟨y,hy⟩:=hd n hf cs _ h1 (mb _ (List.mem_map.2 ⟨_,List.getElem_mem (by omega),rfl⟩));exact⟨y,cs,rfl,hy⟩
    obtain⟨l,Er,hp⟩:=qU len each;subst Er;refine⟨l,⟨_,rfl,some a,cap,rfl,SE,hmx,fun h0=>?_⟩,by rw[List.length_map,pE]at vC;exact vC⟩;obtain⟨cs0,h1,h2⟩:=hp 0 l[0] (List.getElem?_eq_getElem h0);have h3:=(fg h1).2 0 uV;have hlen:=(fg h1).1;rw[List.getElem?_eq_getElem (by omega)]at h3;have hsp:=sr h3;have e0:a.spot=none:=by
      rw[Nat.zero_mul]at hsp;unfold Addr.add at hsp
      simpa using hsp
    obtain⟨b,off,spot⟩:=a;obtain rfl:spot=none:=e0;refine⟨b,off,rfl,fun i hi=>?_⟩;obtain⟨cs,h4,h5⟩:=hp i l[i] (List.getElem?_eq_getElem hi);refine⟨cs,h5,fun j u hj=>?_⟩;have Tb:j<c:=by
      have:=(List.getElem?_eq_some_iff.1 hj).1;rw[(fg h4).1]at this;exact this
    have h6:=(fg h4).2 j Tb;rw[hj]at h6;have e1:∀(o k:Nat),(⟨b,o,none⟩:Addr).add k=⟨b,o+k,none⟩:=fun o k=>by unfold Addr.add;simp
    rw[e1,e1]at h6;rw[<-h6]
theorem Al{t:TypeId}{fs:Array Field}(ht:P.underlying t=some (.struct fs)){fuel:Nat}{cs:List Value}{x:DataW H×List MemPlace}(h:DataW.trod enc0 P W 0 (fun _=>true) true fuel t cs=some x)(hm:M.ok t x.1):
 cs.length=P.cellsOf t/\∃n,fuel=n+1/\∀(i:Nat) (f:Field),fs[i]?=some f->∀{α:Type} {is:List Value->α->Prop},xP M enc0 W n f.type is->∃a,is ((cs.drop f.offset).take (P.cellsOf f.type)) a:=by
 obtain⟨xs,n,hn,hx,hl,hlen,hf⟩:=DataW.trod_struct ht h;refine⟨hl,n,hn,fun i f hi α is ho=>?_⟩;have h1:=hf i f hi;have hlt:i<xs.length:=by rw[hlen];exact(Array.getElem?_eq_some_iff.1 hi).1
 rw[List.getElem?_eq_getElem hlt]at h1;rw[hx]at hm;exact ho _ _ h1 (M.K_ ht hm i f _ hi (by rw[List.getElem?_map,List.getElem?_eq_getElem hlt];rfl))
end
theorem N4{W:World}{v:Value}{l:List Rx}(h:N9 W (fun cs t=>gj (mU W) W cs t) 6 v l):gI qk (mU W) W v l:=by
 obtain⟨base,cap,h1,h2,h3,h4⟩:=h;refine⟨base,cap,h1,h2,h3,fun h0=>?_⟩;obtain⟨b,off,h5,h6⟩:=h4 h0;refine⟨b,off,h5,?_,fun i hi=>?_⟩
 ·obtain⟨cs,h7,h8⟩:=h6 0 h0
  have h7':cs.length=6:=gj.SH h7;have:=h8 0 _ (List.getElem?_eq_getElem (by omega));exact World.block_lt_of_cell? W _ this
 ·obtain⟨cs,h7,h8⟩:=h6 i hi
  exact⟨cs,h7,h8⟩
theorem xQ{H:Type}{M:OI Tryz.prog H}{enc0:TypeId×Value->H}{W:World}:∀(F fuel:Nat),fuel<=F->xP M enc0 W fuel 68 (fun cs t=>gj (mU W) W cs t)
  | 0,fuel,hF,cs,x,h,hm=>by
    obtain⟨_,n,hn,_⟩:=Al Tryz.underlying68 h hm;omega
  | F +1,fuel,hF,cs,x,h,hm=>by
    obtain⟨hl,n,hn,Ii⟩:=Al Tryz.underlying68 h hm;have hl6:cs.length=6:=hl;obtain⟨p,e0,k1⟩:=Ii 0 _ rfl (gH.at (EP Tryz.underlying3));obtain⟨c,e1⟩:=Ii 1 _ rfl (gH.at (yN Ko));obtain⟨l,⟨v,e2,hs⟩,_⟩:=Ii 2 _ rfl (BT (c:=6) Tryz.underlying66 (by kernel_rfl) (by decide) (fun m hm=>xQ F m (by omega)) fun cs a h=>h.SH)
    replace e0:(cs.drop 0).take 1=[.int .i64 p]:=e0
    replace e1:(cs.drop 1).take 4=cC c:=e1.1
    replace e2:(cs.drop 5).take 1=[v]:=e2
    refine⟨.mk p c l,re.2 ⟨v,?_,k1,N4 hs⟩⟩;unfold iP;rw[<-e1]
    match cs,hl6 with
    | [x0,x1,x2,x3,x4,x5],_=>
      simp only[List.drop_succ_cons,List.drop_zero,List.take_succ_cons,List.take_zero,List.cons.injEq,and_true]at e0 e2;subst e0 e2;rfl
end bH
namespace bH
open Go.RowKit bL db bO d_ iK Go.ChangeShapes Go.WideShapes Go.ChangeAt
set_option maxRecDepth 100000
theorem xR{α:Type}{s:qQ α}{is:List Value->α->Prop}{w:World}{v:Value}{l:List α}(h:N9 w is s.c v l)(hi:∀cs a,is cs a->s.is (mU w) w cs a)(h0:0<s.c):gI s (mU w) w v l:=by
 obtain⟨base,cap,h1,h2,h3,h4⟩:=h;refine⟨base,cap,h1,h2,h3,fun hl=>?_⟩;obtain⟨b,off,h5,h6⟩:=h4 hl;refine⟨b,off,h5,?_,fun i kz=>let ⟨cs,h7,h8⟩:=h6 i kz;⟨cs,hi _ _ h7,h8⟩⟩;obtain⟨cs,h7,h8⟩:=h6 0 hl;have hlen:=s.len (hi _ _ h7);have hc:=h8 0 (cs[0]'(by omega)) (List.getElem?_eq_getElem (by omega));exact World.block_lt_of_cell? w _ hc
theorem En{H:Type}{M:OI Tryz.prog H}{enc0:TypeId×Value->H}{W:World}:gH M enc0 W 71 (fun cs x=>sb.is (mU W) W cs x):=fun fuel cs x h hm=>by
 obtain⟨hl,Ii⟩:=sB Tryz.underlying71 h hm;have hl7:cs.length=7:=hl;obtain⟨n,⟨e0,n1⟩,-⟩:=Ii 0 _ rfl (qh Tryz.underlying9);obtain⟨r,h1⟩:=Ii 1 _ rfl (fun fuel=>xQ (M:=M) (enc0:=enc0) (W:=W) fuel fuel (Nat.le_refl _))
 replace e0:(cs.drop 0).take 1=[str n]:=e0
 replace h1:gj (mU W) W ((cs.drop 1).take 6) r:=h1
 refine⟨(n,r),[str n],(cs.drop 1).take 6,?_,⟨rfl,n1⟩,h1⟩;rw[<-e0];have e:(cs.drop 1).take 6=cs.drop 1:=List.take_of_length_le (by rw[List.length_drop];omega);rw[e,List.drop_zero,List.take_append_drop]
theorem Eo{H:Type}{M:OI Tryz.prog H}{enc0:TypeId×Value->H}{W:World}:gH M enc0 W 74 (fun cs x=>z7.is (mU W) W cs x/\M.lim 9 x.2.length):=fun fuel cs x h hm=>by
 obtain⟨hl,Ii⟩:=sB Tryz.underlying74 h hm;have Cs:cs.length=2:=hl;obtain⟨n,⟨e0,n1⟩,-⟩:=Ii 0 _ rfl (qh Tryz.underlying9);obtain⟨l,⟨v,e1,hs⟩,vC⟩:=Ii 1 _ rfl (mQ (c:=1) Tryz.underlying72 (by kernel_rfl) (by decide) (qh Tryz.underlying9) fun cs a h=>by rw[h.1.1];rfl)
 replace e0:(cs.drop 0).take 1=[str n]:=e0
 replace e1:(cs.drop 1).take 1=[v]:=e1
 refine⟨(n,l),⟨[str n],[v],?_,⟨rfl,n1⟩,v,rfl,xR (s:=IP) hs (fun cs a h=>⟨h.1.1,h.1.2⟩) (by decide)⟩,vC⟩
 match cs,Cs with
 |[x,y],_=>
  simp only[List.drop_succ_cons,List.drop_zero,List.take_succ_cons,List.take_zero,List.cons.injEq,and_true]at e0 e1;subst e0 e1;rfl
theorem Ep{H:Type}{M:OI Tryz.prog H}{enc0:TypeId×Value->H}{W:World}:gH M enc0 W 25 (fun cs s=>M7 (mU W) W (.agg cs.toArray) s/\∀r∈s.rules,M.lim 9 r.2.length):=fun fuel cs x h hm=>by
 obtain⟨hl,Ii⟩:=sB Tryz.underlying25 h hm;have Cs:cs.length=2:=hl;obtain⟨ws,⟨vw,e0,h0⟩,-⟩:=Ii 0 _ rfl (mQ (c:=7) Tryz.underlying22 (by kernel_rfl) (by decide) En fun cs a h=>sb.len h);obtain⟨rs,⟨vr,e1,h1⟩,-⟩:=Ii 1 _ rfl (mQ (c:=2) Tryz.underlying23 (by kernel_rfl) (by decide) Eo fun cs a h=>z7.len h.1)
 replace e0:(cs.drop 0).take 1=[vw]:=e0
 replace e1:(cs.drop 1).take 1=[vr]:=e1
 refine⟨⟨ws,rs⟩,⟨vw,vr,?_,xR (s:=sb) h0 (fun cs a h=>h) (by decide),xR (s:=z7) h1 (fun cs a h=>h.1) (by decide)⟩,fun r hr=>?_⟩
 ·match cs,Cs with
  |[x,y],_=>
   simp only[List.drop_succ_cons,List.drop_zero,List.take_succ_cons,List.take_zero,List.cons.injEq,and_true]at e0 e1;subst e0 e1;rfl
 ·obtain⟨i,hi,rfl⟩:=List.mem_iff_getElem.1 hr
  have hi:i<rs.length:=hi;obtain⟨base,cap,_,_,_,h4⟩:=h1;obtain⟨b,off,_,h6⟩:=h4 (by omega);obtain⟨cs,h7,_⟩:=h6 i hi;exact h7.2
end bH
namespace bH
open Go.RowKit bL db bO d_ iK Go.ChangeShapes Go.WideShapes Go.ChangeAt
set_option maxRecDepth 100000
theorem GU{H:Type}{enc0:TypeId×Value->H}{W:World}{base:Nat}{v:Value}{d:DataW H}{ps:List MemPlace}(hv:Value.okWide Tryz.prog W .any base 25 v)(h:DataW.Trod enc0 Tryz.prog W 0 (fun _=>true) true 25 v d ps){ts:List TypeId}{ds:List (DataW H)}(hsz:(DataW.weightsEach Tryz.prog ts ds).all (· <=reachBytes)=true)(j:Nat)(hj:ts[j]?=some 25)(hd:ds[j]?=some d):
 ∃s:Sp,M7 (mU W) W v s/\∀r∈s.rules,r.2.length*16<=140737488351232:=by
 obtain⟨cs,s,rfl,h1,h2⟩:=K' (M:=Ha Tryz.prog H) Tryz.underlying25 hv h Ep (Cq hsz j hj hd);rw[Array.toArray_toList]at h1;exact⟨s,h1,h2⟩
end bH
namespace bH
open Go.RowKit bL db av dj
attribute [local irreducible] Instr.build in
theorem t_(v vw:Value)(g:df)(word:List Int)(w:World)(h:jf (fun k=>k<w.heap.size) w v g)(hs:Sl w vw word.length (word.map (.int .i64))):
 Calls Tryz.prog 6 #[v,vw] w (bU (ret (.tuple #[.int .i64 (jX g word:Int),.int .i64 (gd g word)])) w):=by
 have gD:=fun w' (hg:Gr w w')=>Bg v vw g word w' (h.gr hg) (hs.gr hg)
 by_cases c0:gd g word=0
 ·have h0:=h
  obtain⟨vp,rfl,h1,_⟩:=h;have L4:=fun w' (hg:Gr w w')=>BI vp vw g word w' (h0.gr hg) (hs.gr hg) c0;have hN:=fun(c:dE) hc=>Jf (c:=c) c0 hc;obtain⟨hg,hl,hw⟩:=ku c0;rw[c0]at gD⊢;obtain⟨bw,cw,rfl,_⟩:=hs;obtain⟨t,n,ag⟩:=g;dsimp only at*;refine enter (args:=[cH t n vp,.slice bw word.length cw]) (n:=23) Tryz.func6 rfl rfl rfl ?_;refine bJ (aV (bK rfl rfl rfl fun g2=>?_))
  repeat(first|refine GA ?_|refine gV (aE (i:=0) ak.ty rfl rfl rfl) ?_)
  refine aM (fh aj.en rfl rfl rfl) (fun w hm=>gD _ hm.below) rfl rfl rfl ?_;intro _ _;refine zL ?_
  repeat(first|refine GA ?_|refine gV (aE (i:=0) ak.ty rfl rfl rfl) ?_)
  refine aM (fh aj.en rfl rfl rfl) (fun w' hm=>L4 w' hm.below) rfl rfl rfl ?_;rintro⟨gc,gm,c,Bd⟩ ⟨hx,_⟩;have hN:=hN c hx
  conv=>arg 8;simp only[zJ,bW,ret,id_eq,BH]
  repeat(first|refine GA ?_|refine gV (J ak.ty rfl (ah (i:=1) rfl rfl)) ?_|refine gV (aU rfl (qE _ _ _)) ?_|refine gV (mi (x:=(0,0,(word.length:Int))) (i:=2) pY aT.eq rR rfl rfl rfl (Bc (m:=0) (a:=0) ⟨by decide,by decide⟩ (by omega) (by omega)) (by rw[hN])) ?_)
  exact sv rfl rfl rfl fun w hm=>hm.ret
 ·have hN:jX g word=0:=by unfold jX;rw[if_neg c0]
  rw[hN];obtain⟨vp,rfl,h1,_⟩:=h;obtain⟨bw,cw,rfl,_⟩:=hs;generalize gd g word=e at*;obtain⟨t,n,ag⟩:=g;dsimp only at*;refine enter (args:=[cH t n vp,.slice bw word.length cw]) (n:=23) Tryz.func6 rfl rfl rfl ?_;refine bJ (aV (bK rfl rfl rfl fun g2=>?_))
  repeat(first|refine GA ?_|refine gV (aE (i:=0) ak.ty rfl rfl rfl) ?_)
  refine aM (fh aj.en rfl rfl rfl) (fun w hm=>gD _ hm.below) rfl rfl rfl ?_;intro _ _
  try refine GA ?_
  exact sv rfl rfl rfl fun w hm=>hm.ret
end bH
end Go.Proofs.YtldiodhdefnlaaaGreat

/- Part 4 of what SpecOne needs: FactsB, FactsC, FactsD, FactsO, FactsT, Look, Brk, FactsE, FactsF, CountA, ItL, ItM, TreeU, LrL, ItB, ItC, OrdK, OrdJ, ItH, ItN, ItO, SmM, SmU, SmO, SmT, SmK, SmW, SmD, DfX, DfM. -/
import Derived.Test.YtldiodhdefnlaaaGreatMgC
import Derived.Sort.Grow
import Derived.Deep.RegionWith
import Derived.Deep.RegionHeld
namespace Go.Proofs.YtldiodhdefnlaaaGreat
set_option linter.unusedVariables false
set_option linter.unusedSimpArgs false
set_option maxHeartbeats 16000000
namespace bH
open Go.RowKit bL db av b9
theorem mw{x y:Nat}(hx:x<18446744073709551616)(hy:y<18446744073709551616):bits .or .u64 (x:Int) (y:Int)=((x|||y:Nat):Int):=by
 have h:=bits_nat .u64 64 (by decide) (fun n h0 h1=>by rw[IntKind.wrap_u64];omega) x y (by simpa using hx) (by simpa using hy);exact h.2
theorem VN{x y:Nat}(hx:x<18446744073709551616)(hy:y<18446744073709551616):x|||y<18446744073709551616:=Nat.or_lt_two_pow (n:=64) hx hy
theorem rP{m:Nat}(h:m<64):2^m<18446744073709551616:=by
 have:(2:Nat)^m<2^64:=Nat.pow_lt_pow_right (by decide) h
 simpa using this
theorem Pu{P:Program}(m:Nat)(hm:m<64)(w:World):(Op.shift .shl .u64 1 .i64 (m:Int)).run P w= .ok (.int .u64 ((2^m:Nat):Int)) w:=by
 have e:min m 64=m:=by omega
 have hp:=rP hm;have e2:(2:Int)^m=((2^m:Nat):Int):=by rw[Int.natCast_pow];rfl
 have e3:IntKind.u64.wrap ((1:Int)*2^m)=((2^m:Nat):Int):=by
  rw[e2,IntKind.wrap_u64,Int.one_mul];generalize 2^m=q at hp;omega
 have h0:¬((m:Int)<0):=by omega
 simp only[Op.shift,if_neg h0,IntKind.bits,Int.toNat_natCast,e,e3,Sem.run_pure]
attribute [local irreducible] Op.shift Go.bits in
theorem JA(g cap:Nat)(l:List Nat)(i b:Nat)(w:World)(B:bB)(hi:i<l.length)(VO:∀x∈l,x<18446744073709551616)(hb:b<18446744073709551616)(hm:Mem B [aI 63 1 (.slice (some ⟨g,0,none⟩) l.length cap) l.length (l.map ed)] w):
 Calls Tryz.prog 52 #[.slice (some ⟨g,0,none⟩) l.length cap,.int .i64 (i:Int),ed b] w (dc ⟨fun(_:Unit)=>True,fun _=> .bool (iQ l i b).2,fun _=>[aI 63 1 (.slice (some ⟨g,0,none⟩) l.length cap) l.length ((iQ l i b).1.map ed)]⟩ B):=by
 have hc:=A9 hi;have Pv:l.getD i 0<18446744073709551616:=by
  have e:l.getD i 0=l[i]:=by rw[List.getD_eq_getElem?_getD,List.getElem?_eq_getElem hi];rfl
  rw[e];exact VO _ (List.getElem_mem hi)
 refine eg hm (args:=[.slice (some ⟨g,0,none⟩) l.length cap,.int .i64 (i:Int),ed b]) (n:=25) Tryz.func52 rfl rfl rfl ?_;unfold iQ;generalize l.getD i 0=x at*;have BV:=mw Pv hb;have pG:((l.map ed).set i (.int .u64 ((x|||b:Nat):Int)))[0+i]?=some (.int .u64 ((x|||b:Nat):Int)):=by
  rw[Nat.zero_add,List.getElem?_set_self (by simpa using hi)]
 generalize x|||b=y at*
 by_cases c:y=x
 ·rw[show(!decide (y=x))=false by simp[c]]
  repeat(first|refine GA ?_|refine gV (aO aT.eq ak.ty rfl rfl hi) ?_|refine gV (J ak.ty rfl (f_ (i:=0) rfl (by rw[Nat.zero_add];exact hc))) ?_|refine gV (qW rfl rfl BV) ?_)
  refine gG (i:=0) ak.ty rfl rfl rfl rfl rfl rfl (by simpa using hi) ?_
  conv=>arg 8;simp only[List.set_cons_zero,Nat.zero_add]
  repeat(first|refine GA ?_|refine gV (aO aT.eq ak.ty rfl rfl hi) ?_|refine gV (J ak.ty rfl (f_ (i:=0) rfl pG)) ?_)
  exact b_ rfl rfl fun w hm=>hm.bV (S:=⟨fun(_:Unit)=>True,fun _=> .bool false,fun _=>[aI 63 1 (.slice (some ⟨g,0,none⟩) l.length cap) l.length ((l.set i y).map ed)]⟩) () trivial [0] (by decide) (by simp[List.map_set];rfl)
 ·rw[show(!decide (y=x))=true by simp[c]]
  repeat(first|refine GA ?_|refine gV (aO aT.eq ak.ty rfl rfl hi) ?_|refine gV (J ak.ty rfl (f_ (i:=0) rfl (by rw[Nat.zero_add];exact hc))) ?_|refine gV (qW rfl rfl BV) ?_)
  refine gG (i:=0) ak.ty rfl rfl rfl rfl rfl rfl (by simpa using hi) ?_
  conv=>arg 8;simp only[List.set_cons_zero,Nat.zero_add]
  repeat(first|refine GA ?_|refine gV (aO aT.eq ak.ty rfl rfl hi) ?_|refine gV (J ak.ty rfl (f_ (i:=0) rfl pG)) ?_)
  exact b_ rfl rfl fun w hm=>hm.bV (S:=⟨fun(_:Unit)=>True,fun _=> .bool true,fun _=>[aI 63 1 (.slice (some ⟨g,0,none⟩) l.length cap) l.length ((l.set i y).map ed)]⟩) () trivial [0] (by decide) (by simp[List.map_set];rfl)
theorem A_(E:List Bool)(F:List Nat)(behind:Nat)(x:bY)(r:List bY)(out:Nat):eC E F behind (x::r) out=if x.1=1 then out|||2^x.2.toNat else if E.getD x.2.toNat false=true then eC E F behind r (out|||F.getD x.2.toNat 0)else out|||F.getD x.2.toNat 0:=rfl
theorem Db(E:List Bool)(F:List Nat)(behind out:Nat):eC E F behind [] out=out|||behind:=rfl
def iR(vE vF vL vR vM:Value):Value:= .agg #[vE,vF,vL,vR,vM]
attribute [local irreducible] Op.shift Go.bits in
theorem oB(vE vF vL vR vM vb:Value)(E:List Bool)(F:List Nat)(body:List bY)(behind:Nat)(w:World)(hE:Sl w vE E.length (E.map .bool))(hF:Sl w vF F.length (F.map ed))(hs:Sl w vb body.length (body.flatMap dv))(hEF:E.length=F.length)
    (jU:∀x∈body,(x.1=1->0<=x.2/\x.2<64)/\(x.1≠1->0<=x.2/\x.2<F.length)) (VO:∀x∈F,x<18446744073709551616) (hb:behind<18446744073709551616):
    Calls Tryz.prog 53 #[iR vE vF vL vR vM,vb,ed behind] w (bU (ret (ed (cP E F body behind))) w):=by
  obtain⟨bE,cE,rfl,e1,e2,e3⟩:=hE;obtain⟨bF,cF,rfl,f1,f2,f3⟩:=hF;obtain⟨bb,cb,rfl,h4,h5,h6⟩:=hs;unfold maxLen at e2 f2 h5;refine enter (args:=[iR (.slice bE E.length cE) (.slice bF F.length cF) vL vR vM,.slice bb body.length cb,ed behind]) (n:=44) Tryz.func53 rfl rfl rfl ?_;refine bJ (aV (bK rfl rfl rfl fun g3=>?_))
  try refine GA ?_
  unfold cP;refine cX (ι:=Nat×Nat) (fun(k,out)=>k<=body.length/\out<18446744073709551616/\eC E F behind body 0=eC E F behind (body.drop k) out) (fun(k,out)=>[(2,ed behind),(3,.pointer (some ⟨g3,0,none⟩)),(7,ed out),(10,.slice bb body.length cb),(11,.int .i64 body.length),(12,.int .i64 (k:Int))]) (fun _=>[ap g3 (iR (.slice bE E.length cE) (.slice bF F.length cF) vL vR vM).cells 53]) (fun(k,_)=>body.length-k) (0,0) ⟨Nat.zero_le _,by decide,rfl⟩ ?_;rintro⟨k,out⟩ ⟨i1,i3,i2⟩;dsimp only at i1 i3 i2⊢;rw[i2];clear i2
  by_cases c6:k<body.length
  · obtain⟨b,off,rfl,hr⟩:=h6 (by omega)
    have du:=fx (L:=[ap g3 (iR (.slice bE E.length cE) (.slice bF F.length cF) vL vR vM).cells 53]) jO hr c6;have Jz:=jU body[k] (List.getElem_mem c6);have hd:eC E F behind (body.drop k) out=eC E F behind (body[k]::body.drop (k+1)) out:=by
      rw[List.drop_eq_getElem_cons c6]
    rw[hd];clear hd h6 jU hr;generalize body[k]=x at*;obtain⟨q,m⟩:=x;dsimp only at*;rw[A_];dsimp only
    by_cases c1:q=1
    · rw[if_pos c1]
      obtain⟨o1,o2⟩:=Jz.1 c1;obtain⟨mm,rfl⟩:∃mm:Nat,m=mm:=⟨m.toNat,by omega⟩;rw[Int.toNat_natCast];have ON:=fun w=>Pu (P:=Tryz.prog) mm (by omega) w;have BV:=mw i3 (rP (m:=mm) (by omega))
      repeat(first|refine GA ?_|refine gV (aH aT.eq ak.ty rfl rfl c6) ?_|refine gV (aK ak.ty rfl rfl du) ?_)
      refine aF rfl fun g8=>?_;refine fU 1 ?_
      repeat(first|refine GA ?_|refine gV (J ak.ty rfl (ah (i:=1) rfl rfl)) ?_|refine gV (uZ rfl rfl ON) ?_|refine gV (qW rfl rfl BV) ?_)
      exact da
    · rw[if_neg c1]
      obtain⟨o1,o2⟩:=Jz.2 c1;obtain⟨mm,rfl⟩:∃mm:Nat,m=mm:=⟨m.toNat,by omega⟩;rw[Int.toNat_natCast];have pH:mm<F.length:=by omega
      have Y4:mm<E.length:=by omega
      obtain⟨b1,aay,rfl,EV⟩:=e3 (by omega);obtain⟨b2,Pw,rfl,l_⟩:=f3 (by omega);have hcE:=uK Y4;have hcF:=A9 pH;have Pv:F.getD mm 0<18446744073709551616:=by
        have e:F.getD mm 0=F[mm]:=by rw[List.getD_eq_getElem?_getD,List.getElem?_eq_getElem pH];rfl
        rw[e];exact VO _ (List.getElem_mem pH)
      have BV:=mw i3 Pv;have hlt:=VN i3 Pv;generalize E.getD mm false=y at*;generalize F.getD mm 0=z at*;generalize out|||z=o2 at*
      cases y
      · rw[if_neg (by decide)]
        repeat(first|refine GA ?_|refine gV (aH aT.eq ak.ty rfl rfl c6) ?_|refine gV (aK ak.ty rfl rfl du) ?_)
        refine aF rfl fun g8=>?_;refine fU 1 ?_
        repeat(first|refine GA ?_|refine gV (J ak.ty rfl (ah (i:=1) rfl rfl)) ?_|refine gV (J ak.ty rfl (ah (i:=0) rfl rfl)) ?_|refine gV (aO aT.eq ak.ty rfl rfl pH) ?_|refine gV (aO aT.eq ak.ty rfl rfl Y4) ?_|refine gV (J ak.ty rfl (iD EV hcE)) ?_|refine gV (J ak.ty rfl (iD l_ hcF)) ?_|refine gV (qW rfl rfl BV) ?_)
        exact da
      · rw[if_pos rfl]
        repeat(first|refine GA ?_|refine gV (aH aT.eq ak.ty rfl rfl c6) ?_|refine gV (aK ak.ty rfl rfl du) ?_)
        refine aF rfl fun g8=>?_;refine fU 1 ?_
        repeat(first|refine GA ?_|refine gV (J ak.ty rfl (ah (i:=1) rfl rfl)) ?_|refine gV (J ak.ty rfl (ah (i:=0) rfl rfl)) ?_|refine gV (aO aT.eq ak.ty rfl rfl pH) ?_|refine gV (aO aT.eq ak.ty rfl rfl Y4) ?_|refine gV (J ak.ty rfl (iD EV hcE)) ?_|refine gV (J ak.ty rfl (iD l_ hcF)) ?_|refine gV (qW rfl rfl BV) ?_)
        refine bR [0] ?_;exact aY (k+1,o2) ⟨by omega,hlt,rfl⟩ (by show body.length-(k+1)<body.length-k;omega)
  · rw[List.drop_of_length_le (by omega)]
    have BV:=mw i3 hb;rw[Db]
    repeat(first|refine GA ?_|refine gV (qW rfl rfl BV) ?_)
    exact da
end bH
namespace bH
open Go.RowKit bL db av b9
def cT(n g c:Nat)(l:List Bool):bz:=aI 4 1 (.slice (some ⟨g,0,none⟩) n c) n (l.map .bool)
theorem oC(n g cap:Nat)(l:List Bool)(i:Nat)(b:Bool)(w:World)(B:bB)(hl:l.length=n)(hi:i<n)(hm:Mem B [cT n g cap l] w):
 Calls Tryz.prog 50 #[.slice (some ⟨g,0,none⟩) n cap,.int .i64 (i:Int),.bool b] w (dc ⟨fun(_:Unit)=>True,fun _=> .bool (dy l i b).2,fun _=>[cT n g cap (dy l i b).1]⟩ B):=by
 subst hl;exact Fy g cap l i b w B hi hm
structure VP where
 gE:Nat
 cE:Nat
 gR:Nat
 cR:Nat
 gM:Nat
 cM:Nat
def bP(n g c:Nat):Value:= .slice (some ⟨g,0,none⟩) n c
theorem Dc(h:Nat)(x:bY)(r:List bY)(R:List Bool)(more:Bool):gh h (x::r) R more=gh h r (pV h x R more).1 (pV h x R more).2:=rfl
theorem Dd(p:av.Prod)(r:List av.Prod)(s:FS):dl (p::r) s=dl r (gO p s):=rfl
theorem De(w0:World)(v:Value)(g:df)(h:jf (fun k=>k<w0.heap.size) w0 v g)(gD:bM g=0)(n:Nat)(hn:g.aR=n)(x:VP)(vF vL:Value)(E R M:List Bool)(hE:E.length=n)(hR:R.length=n)(hM:M.length=n)(w:World)(B:bB)(ho:lc w0 B)(hm:Mem B [cT n x.gE x.cE E,cT n x.gR x.cR R,cT n x.gM x.cM M] w):
    Calls Tryz.prog 28 #[v,iR (bP n x.gE x.cE) vF vL (bP n x.gR x.cR) (bP n x.gM x.cM)] w (dc ⟨fun(_:Unit)=>True,fun _=> .bool (dl g.ag ⟨E,R,M,false⟩).more,fun _=>[cT n x.gE x.cE (dl g.ag ⟨E,R,M,false⟩).E,cT n x.gR x.cR (dl g.ag ⟨E,R,M,false⟩).R,cT n x.gM x.cM (dl g.ag ⟨E,R,M,false⟩).M]⟩ B):=by
  obtain⟨gE,cE,gR,cR,gM,cM⟩:=x;dsimp only at*;obtain⟨_,_,_,_,hlen,XF⟩:=bI gD;obtain⟨vp,rfl,h1,_⟩:=h;obtain⟨bp,cp,rfl,Hm,BU,lU⟩:=h1;unfold maxLen at BU;obtain⟨t,nn,ag⟩:=g;dsimp only at*;subst hn;refine eg hm (args:=[cH t (n:Int) (.slice bp ag.length cp),iR (bP n gE cE) vF vL (bP n gR cR) (bP n gM cM)]) (n:=70) Tryz.func28 rfl rfl rfl ?_;refine bJ (aV (bK rfl rfl rfl fun g2=>bK rfl rfl rfl fun g3=>?_));refine zL ?_
  repeat(first|refine GA ?_|refine gV (J ak.ty rfl (ah (i:=3) rfl rfl)) ?_)
  refine pI [0,1,2,4] ?_;generalize jh:dl ag ⟨E,R,M,false⟩=fin;refine cX (ι:=Nat×FS) (fun(k,s)=>k<=ag.length/\s.E.length=n/\s.R.length=n/\s.M.length=n/\dl (ag.drop k) s=fin) (fun(k,s)=>[(3,.pointer (some ⟨g3,0,none⟩)),(5,.bool s.more),(11,.slice bp ag.length cp),(12,.int .i64 ag.length),(13,.int .i64 (k:Int))])
    (fun(_,s)=>[cT n gE cE s.E,cT n gR cR s.R,cT n gM cM s.M,ap g3 (iR (bP n gE cE) vF vL (bP n gR cR) (bP n gM cM)).cells 53]) (fun(k,_)=>ag.length-k) (0,⟨E,R,M,false⟩) ⟨Nat.zero_le _,hE,hR,hM,jh⟩ ?_
  clear hm hE hR hM jh;rintro⟨k,E,R,M,more⟩ ⟨i1,i2,i3,i4,i5⟩;dsimp only at i1 i2 i3 i4 i5⊢
  by_cases c6:k<ag.length
  · obtain⟨b,off,rfl,_,hr⟩:=lU (by omega)
    obtain⟨bb,cb,q1,q2,q3⟩:=jF hr c6;have kU:=XF ag[k] (List.getElem_mem c6);rw[List.drop_eq_getElem_cons c6,Dd]at i5;have du:∀(L:List bz) (j:Nat) (v:Value),([.int .i64 ag[k].1,.slice bb ag[k].2.length cb]:List Value)[j]?=some v->At B L ⟨b,off+k*2+j,none⟩ v:=fun L j v hj=>fI ho (q1 j v hj);have uI:=q3.flat (by decide);clear hr lU q1 XF q3;generalize ag[k]=p at*;obtain⟨hd,body⟩:=p;obtain⟨p1,p2,p3,p4⟩:=kU;dsimp only at*;obtain⟨hn,rfl⟩:∃hn:Nat,hd=hn:=⟨hd.toNat,by omega⟩;have hhn:hn<n:=by omega
    have rQ:∀x∈body,x.1=2->0<=x.2/\x.2<(n:Int):=fun x hx dM=>by
      have:=p4 x hx;unfold right at this;rw[if_neg (by omega),if_pos dM]at this
      simpa using this
    have Rt:∀w' L,Mem B L w'->Sl w' (.slice bb body.length cb) body.length (body.flatMap dv):=fun w' L hm=>uI.gr (ho.mem hm);unfold gO at i5;dsimp only at i5;rw[Int.toNat_natCast]at i5;have Mo:=fun w' L (hm:Mem B L w') (hx:Sl w' (bP n gE cE) E.length (E.map .bool))=>qC (bP n gE cE) (.slice bb body.length cb) E body false w' hx (Rt w' L hm) (fun x hx dM=>by rw[i2];exact rQ x hx dM);have kV:=fun w' L (hm:Mem B L w') (hx:Sl w' (bP n gM cM) M.length (M.map .bool))=>qC (bP n gM cM) (.slice bb body.length cb) M body true w' hx (Rt w' L hm) (fun x hx dM=>by rw[i4];exact rQ x hx dM);generalize gL E body false=a1 at*;generalize gL M body true=a2 at*;have VQ:=fun w' B' hm=>oC n gE cE E hn a1 w' B' i2 hhn hm;have VR:=fun w' B' hm=>oC n gM cM M hn a2 w' B' i4 hhn hm;have IM:=jt E hn a1;have Cs:=jt M hn a2;rw[i2]at IM Mo;rw[i4]at Cs kV;generalize dy E hn a1=m1 at*;generalize dy M hn a2=m2 at*;obtain⟨E1,b1⟩:=m1;obtain⟨M1,b2⟩:=m2;dsimp only at*
    repeat(first|refine GA ?_|refine gV (aH aT.eq ak.ty rfl rfl c6) ?_|refine gV (aK ak.ty rfl rfl (du _)) ?_)
    clear du;refine aF rfl fun g7=>?_;refine fU 4 ?_;refine zL ?_
    repeat(first|refine QV QP ?_|refine Ar ?_|refine KG ?_|refine qs rfl rfl rfl rfl rfl rfl ?_|((try refine qg rfl rfl rfl ?_);first|refine QV QP ?_|refine QV QL ?_|refine QV QA ?_|refine QV Xi ?_|refine QV Xj ?_|refine QV Xk ?_|refine QV Xl ?_|refine QV Yd ?_))
    (repeat refine bJ ?_)
    refine ix (ι:=Unit) (fun _=>True) (fun _=>[(3,.pointer (some ⟨g3,0,none⟩)),(5,.bool (b1||more)),(7,.pointer (some ⟨g7,0,none⟩)),(11,.slice (some ⟨b,off,none⟩) ag.length cp),(12,.int .i64 ag.length),(13,.int .i64 (k:Int))])
      (fun _=>[cT n gE cE E1,cT n gR cR R,cT n gM cM M,ap g3 (iR (bP n gE cE) vF vL (bP n gR cR) (bP n gM cM)).cells 53,ap g7 #[.int .i64 (hn:Int),.slice bb body.length cb] 109]) ?_ ?_
    · refine dw ([ap g3 (iR (bP n gE cE) vF vL (bP n gR cR) (bP n gM cM)).cells 53,ap g7 #[.int .i64 (hn:Int),.slice bb body.length cb] 109]) (.calm 0 (.calm 1 (.calm 2 (.calm 3 (.calm 4 (.calm 5 (.calm 6 (.calm 7 (.one 8 (.one 9 (.calm 10 (.calm 11 (.calm 12 (.calm 13 (.done))))))))))))))) (bC [3,4]) ?_
      repeat(first|refine GW ?_|(refine GN ?_;first|refine QW (J ak.ty rfl (ah (i:=0) rfl rfl)) ?_|refine QW (J ak.ty rfl (ah (i:=1) rfl rfl)) ?_))
      refine az rfl ?_;refine aM (yG aj.en rfl rfl rfl rfl) (fun w hm=>Mo _ _ hm (jo (i:=0) rfl w hm)) rfl rfl rfl ?_;intro _ _;refine zL ?_;refine aw (bC [3,4]) ?_;refine az rfl ?_;refine aP [0] [1,2,3,4] (by decide) rfl rfl (yG aj.en rfl rfl rfl rfl) (fun w hm hb=>VQ w _ hb) rfl rfl rfl ?_;intro _ _;refine zL ?_;refine aw (bC [2,3]) ?_
      cases b1
      · try refine GW ?_
        refine bR [4,0,1,2,3] ?_;exact c_ () trivial (by repeat' (first|exact True.intro|refine And.intro rfl ?_)) rfl
      · try refine GW ?_
        refine bR [4,0,1,2,3] ?_;exact c_ () trivial (by repeat' (first|exact True.intro|refine And.intro rfl ?_)) rfl
    intro _ _
    (repeat refine bJ ?_)
    refine ix (ι:=Unit) (fun _=>True) (fun _=>[(3,.pointer (some ⟨g3,0,none⟩)),(5,.bool (b2||(b1||more))),(7,.pointer (some ⟨g7,0,none⟩)),(11,(.slice (some ⟨b,off,none⟩) ag.length cp)),(12,.int .i64 ag.length),(13,.int .i64 (k:Int))])
      (fun _=>[cT n gE cE E1,cT n gR cR R,cT n gM cM M1,ap g3 (iR (bP n gE cE) vF vL (bP n gR cR) (bP n gM cM)).cells 53,ap g7 #[.int .i64 (hn:Int),.slice bb body.length cb] 109]) ?_ ?_
    · refine dw ([ap g3 (iR (bP n gE cE) vF vL (bP n gR cR) (bP n gM cM)).cells 53,ap g7 #[.int .i64 (hn:Int),.slice bb body.length cb] 109]) (.calm 0 (.calm 1 (.calm 2 (.calm 3 (.calm 4 (.calm 5 (.calm 6 (.calm 7 (.one 8 (.one 9 (.calm 10 (.calm 11 (.calm 12 (.calm 13 (.done))))))))))))))) (bC [3,4]) ?_
      repeat(first|refine GW ?_|(refine GN ?_;first|refine QW (J ak.ty rfl (ah (i:=0) rfl rfl)) ?_|refine QW (J ak.ty rfl (ah (i:=1) rfl rfl)) ?_))
      refine az rfl ?_;refine aM (yG aj.en rfl rfl rfl rfl) (fun w hm=>kV _ _ hm (jo (i:=2) rfl w hm)) rfl rfl rfl ?_;intro _ _;refine zL ?_;refine aw (bC [3,4]) ?_;refine az rfl ?_;refine aP [2] [0,1,3,4] (by decide) rfl rfl (yG aj.en rfl rfl rfl rfl) (fun w hm hb=>VR w _ hb) rfl rfl rfl ?_;intro _ _;refine zL ?_;refine aw (bC [2,3]) ?_;generalize (b1||more)=mo
      cases b2
      · try refine GW ?_
        refine bR [0,1,4,2,3] ?_;exact c_ () trivial (by repeat' (first|exact True.intro|refine And.intro rfl ?_)) rfl
      · try refine GW ?_
        refine bR [0,1,4,2,3] ?_;exact c_ () trivial (by repeat' (first|exact True.intro|refine And.intro rfl ?_)) rfl
    intro _ _;generalize (b2||(b1||more))=mo at*;clear VQ VR Mo kV
    repeat(first|refine GA ?_|refine gV (J ak.ty rfl (ah (i:=4) rfl rfl)) ?_)
    generalize hfr:gh hn body R mo=fr at*;obtain⟨R2,mo2⟩:=fr;dsimp only at i5;refine cX (ι:=Nat×List Bool×Bool) (fun(j,R',m')=>j<=body.length/\R'.length=n/\gh hn (body.drop j) R' m'=(R2,mo2)) (fun(j,_,m')=>[(3,.pointer (some ⟨g3,0,none⟩)),(5,.bool m'),(7,.pointer (some ⟨g7,0,none⟩)),(11,(.slice (some ⟨b,off,none⟩) ag.length cp)),(12,.int .i64 ag.length),(13,.int .i64 (k:Int)),(44,.slice bb body.length cb),(45,.int .i64 body.length),(46,.int .i64 (j:Int))])
      (fun(_,R',_)=>[cT n gE cE E1,cT n gR cR R',cT n gM cM M1,ap g3 (iR (bP n gE cE) vF vL (bP n gR cR) (bP n gM cM)).cells 53,ap g7 #[.int .i64 (hn:Int),.slice bb body.length cb] 109]) (fun(j,_,_)=>body.length-j) (0,R,mo) ⟨Nat.zero_le _,i3,hfr⟩ ?_
    clear hfr;rintro⟨j,R',m'⟩ ⟨j1,j2,j3⟩;dsimp only at j1 j2 j3⊢
    by_cases c7:j<body.length
    · obtain⟨b',uc,rfl,hrb⟩:=(by
        obtain⟨bs,cs,hv,_,_,eV⟩:=uI;simp only[Value.slice.injEq,true_and]at hv;obtain⟨rfl,rfl⟩:=hv;exact eV (by omega):∃b' uc,bb=some ⟨b',uc,none⟩/\Rd w0 b' uc (body.flatMap dv))
      have Px:∀(L:List bz) (q:Nat) (u:Value),(dv body[j])[q]?=some u->At B L ⟨b',uc+j*2+q,none⟩ u:=fun L=>qf jO (fun q u hq=>fI ho (hrb q u hq)) c7;have dM:=rQ body[j] (List.getElem_mem c7);rw[List.drop_eq_getElem_cons c7,Dc]at j3;clear rQ hrb uI Rt p4;generalize body[j]=x at*;obtain⟨q,m⟩:=x;dsimp only at dM;unfold pV at j3;dsimp only at j3
      by_cases c8:q=2
      · subst c8
        rw[if_pos rfl]at j3;obtain⟨y1,y2⟩:=dM rfl;obtain⟨mm,rfl⟩:∃mm:Nat,m=mm:=⟨m.toNat,by omega⟩;rw[Int.toNat_natCast]at j3;have hcell:=uK (l:=R') (i:=hn) (by omega);generalize R'.getD hn false=bh at*;have xZ:=fun w' B' hm=>oC n gR cR R' mm bh w' B' j2 (by omega) hm;have Ux:=jt R' mm bh;rw[j2]at Ux;generalize dy R' mm bh=m3 at*;obtain⟨R3,b3⟩:=m3;dsimp only at*
        repeat(first|refine GA ?_|refine gV (aH aT.eq ak.ty rfl rfl c7) ?_|refine gV (aK ak.ty rfl rfl (Px _)) ?_)
        clear Px;refine aF rfl fun g9=>?_;refine fU 5 ?_;refine zL ?_
        repeat(first|refine GA ?_|refine gV (J ak.ty rfl (ah (i:=5) rfl rfl)) ?_)
        refine dw ([ap g3 (iR (bP n gE cE) vF vL (bP n gR cR) (bP n gM cM)).cells 53,ap g7 #[.int .i64 (hn:Int),.slice (some ⟨b',uc,none⟩) body.length cb] 109,ap g9 #[.int .i64 2,.int .i64 (mm:Int)] 128]) (.calm 0 (.calm 1 (.calm 2 (.calm 3 (.calm 4 (.calm 5 (.calm 6 (.calm 7 (.calm 8 (.one 9 (.one 10 (.calm 11 (.calm 12 (.calm 13 (.calm 14 (.done)))))))))))))))) (bC [3,4,5]) ?_
        repeat(first|refine GW ?_|(refine GN ?_;first|refine QW (J ak.ty rfl (ah (i:=0) rfl rfl)) ?_|refine QW (J ak.ty rfl (ah (i:=1) rfl rfl)) ?_|refine QW (J ak.ty rfl (ah (i:=2) rfl rfl)) ?_|refine QW (aO aT.eq ak.ty rfl rfl (show hn<n by omega)) ?_))
        refine az rfl (cI (J ak.ty rfl (f_ (i:=1) rfl (by rw[Nat.zero_add];exact hcell))) rfl rfl rfl (aw (bC [3,4,5]) ?_));refine az rfl ?_;refine aP [1] [0,2,3,4,5] (by decide) rfl rfl (yG aj.en rfl rfl rfl rfl) (fun w hm hb=>xZ w _ hb) rfl rfl rfl ?_;intro _ _;refine zL ?_;refine aw (bC [2,3,4]) ?_
        cases b3
        · try refine GW ?_
          try refine GA ?_
          refine bR [0,5,1,2,3] ?_;exact aY (j+1,R3,false||m') ⟨by omega,Ux,j3⟩ (by show body.length-(j+1)<body.length-j;omega)
        · try refine GW ?_
          try refine GA ?_
          refine bR [0,5,1,2,3] ?_;exact aY (j+1,R3,true||m') ⟨by omega,Ux,j3⟩ (by show body.length-(j+1)<body.length-j;omega)
      · rw[if_neg c8]at j3
        dsimp only at j3
        repeat(first|refine GA ?_|refine gV (aH aT.eq ak.ty rfl rfl c7) ?_|refine gV (aK ak.ty rfl rfl (Px _)) ?_)
        clear Px;refine aF rfl fun g9=>?_;refine fU 5 ?_;refine zL ?_
        repeat(first|refine GA ?_|refine gV (J ak.ty rfl (ah (i:=5) rfl rfl)) ?_)
        refine bR [0,1,2,3,4] ?_;exact aY (j+1,R',m') ⟨by omega,j2,j3⟩ (by show body.length-(j+1)<body.length-j;omega)
    · rw[List.drop_of_length_le (by omega)]at j3
      have j3:(R',m')=(R2,mo2):=j3;simp only[Prod.mk.injEq]at j3;obtain⟨rfl,rfl⟩:=j3
      try refine GA ?_
      refine bR [0,1,2,3] ?_;exact aY (k+1,⟨E1,R',M1,m'⟩) ⟨by omega,IM,j2,Cs,i5⟩ (by show ag.length-(k+1)<ag.length-k;omega)
  · rw[List.drop_of_length_le (by omega)]at i5
    have i5:(⟨E,R,M,more⟩:FS)=fin:=i5;subst i5
    try refine GA ?_
    exact b_ rfl rfl fun w hm=>hm.bV (S:=⟨fun(_:Unit)=>True,fun _=> .bool more,fun _=>[cT n gE cE E,cT n gR cR R,cT n gM cM M]⟩) () trivial [0,1,2] (by decide) rfl
end bH
namespace bH
open Go.RowKit bL db av b9
def eP(n g c:Nat)(l:List Nat):bz:=aI 63 1 (.slice (some ⟨g,0,none⟩) n c) n (l.map ed)
theorem wT(n g cap:Nat)(l:List Nat)(i b:Nat)(w:World)(B:bB)(hl:qv n l)(hi:i<n)(hb:b<18446744073709551616)(hm:Mem B [eP n g cap l] w):
 Calls Tryz.prog 52 #[.slice (some ⟨g,0,none⟩) n cap,.int .i64 (i:Int),ed b] w (dc ⟨fun(_:Unit)=>True,fun _=> .bool (iQ l i b).2,fun _=>[eP n g cap (iQ l i b).1]⟩ B):=by
 obtain⟨rfl,VO⟩:=hl;exact JA g cap l i b w B hi VO hb hm
structure Ru where
 gE:Nat
 cE:Nat
 gF:Nat
 cF:Nat
 gW:Nat
 cW:Nat
 gM:Nat
 cM:Nat
theorem Fz(E M:List Bool)(p:av.Prod)(r:List av.Prod)(F:List Nat)(more:Bool):j_ E M (p::r) F more=j_ E M r (ww E M p F more).1 (ww E M p F more).2:=rfl
theorem FB(E:List Bool)(F:List Nat)(p:av.Prod)(r:List av.Prod)(W:List Nat)(more:Bool):iG E F (p::r) W more=iG E F r (fl E F p.1.toNat p.2 W more).1 (fl E F p.1.toNat p.2 W more).2:=rfl
theorem Df(E:List Bool)(F:List Nat)(h:Nat)(x:bY)(r:List bY)(W:List Nat)(more:Bool):fl E F h (x::r) W more=fl E F h r (fa E F h x r W more).1 (fa E F h x r W more).2:=rfl
def lJ(E M:List Bool)(l:List av.Prod)(F:List Nat):List Nat:=b9.fix (fun F=>j_ E M l F false) jg F
def oD(E:List Bool)(F:List Nat)(l:List av.Prod)(W:List Nat):List Nat:=b9.fix (fun W=>iG E F l W false) jg W
theorem FC(w0:World)(v:Value)(g:df)(h:jf (fun k=>k<w0.heap.size) w0 v g)(gD:bM g=0)(n:Nat)(hn:g.aR=n)(x:Ru)(vR:Value)(E:List Bool)(F W:List Nat)(M:List Bool)(hE:E.length=n)(hF:qv n F)(hW:qv n W)(hM:M.length=n)(w:World)(B:bB)(ho:lc w0 B)(hm:Mem B [cT n x.gE x.cE E,eP n x.gF x.cF F,eP n x.gW x.cW W,cT n x.gM x.cM M] w):
    Calls Tryz.prog 29 #[v,iR (bP n x.gE x.cE) (bP n x.gF x.cF) (bP n x.gW x.cW) vR (bP n x.gM x.cM)] w (dc ⟨fun(_:Unit)=>True,fun _=> .tuple #[],fun _=>[cT n x.gE x.cE E,eP n x.gF x.cF (lJ E M g.ag F),eP n x.gW x.cW (oD E (lJ E M g.ag F) g.ag W),cT n x.gM x.cM M]⟩ B):=by
  obtain⟨gE,cE,gF,cF,gW,cW,gM,cM⟩:=x;dsimp only at*;have jk:=pu gD hn;obtain⟨_,_,_,_,hlen,_⟩:=bI gD;obtain⟨vp,rfl,h1,_⟩:=h;obtain⟨bp,cp,rfl,Hm,BU,lU⟩:=h1;unfold maxLen at BU;obtain⟨t,nn,ag⟩:=g;dsimp only at*;subst hn;have qD:=AQ (E:=E) (M:=M) jk;refine eg hm (args:=[cH t (n:Int) (.slice bp ag.length cp),iR (bP n gE cE) (bP n gF cF) (bP n gW cW) vR (bP n gM cM)]) (n:=80) Tryz.func29 rfl rfl rfl ?_;refine bJ (aV (bK rfl rfl rfl fun g2=>bK rfl rfl rfl fun g3=>?_));refine zL ?_
  try refine GA ?_
  generalize jh:lJ E M ag F=fin;refine cX (ι:=List Nat×Bool) (fun(F,more)=>qv n F/\(more=true->lJ E M ag F=fin)/\(more=false->F=fin)) (fun(_,more)=>[(2,.pointer (some ⟨g2,0,none⟩)),(3,.pointer (some ⟨g3,0,none⟩)),(4,.bool more)])
    (fun(F,_)=>[cT n gE cE E,eP n gF cF F,eP n gW cW W,cT n gM cM M,ap g2 (cH t (n:Int) (.slice bp ag.length cp)).cells 33,ap g3 (iR (bP n gE cE) (bP n gF cF) (bP n gW cW) vR (bP n gM cM)).cells 53]) (fun(F,more)=>2*jg F+(if more=true then 1 else 0)) (F,true) ⟨hF,fun _=>jh,fun h=>by cases h⟩ ?_
  clear hm hF jh;rintro⟨F,more⟩ ⟨i1,i2,i3⟩;dsimp only at i1 i2 i3⊢
  cases more
  · have i3 :=i3 rfl
    subst i3;clear i2 qD;have qD:=E8 (E:=E) i1 jk
    try refine GA ?_
    generalize jh:oD E F ag W=fin;refine cX (ι:=List Nat×Bool) (fun(W,more)=>qv n W/\(more=true->oD E F ag W=fin)/\(more=false->W=fin)) (fun(_,more)=>[(2,.pointer (some ⟨g2,0,none⟩)),(3,.pointer (some ⟨g3,0,none⟩)),(7,.bool more)])
      (fun(W,_)=>[cT n gE cE E,eP n gF cF F,eP n gW cW W,cT n gM cM M,ap g2 (cH t (n:Int) (.slice bp ag.length cp)).cells 33,ap g3 (iR (bP n gE cE) (bP n gF cF) (bP n gW cW) vR (bP n gM cM)).cells 53]) (fun(W,more)=>2*jg W+(if more=true then 1 else 0)) (W,true) ⟨hW,fun _=>jh,fun h=>by cases h⟩ ?_
    clear jh hW;clear W;rintro⟨W,more⟩ ⟨j1,j2,j3⟩;dsimp only at j1 j2 j3⊢
    cases more
    · have j3:=j3 rfl
      subst j3
      try refine GA ?_
      exact sC rfl fun w hm=>hm.bV (S:=⟨fun(_:Unit)=>True,fun _=> .tuple #[],fun _=>[cT n gE cE E,eP n gF cF F,eP n gW cW W,cT n gM cM M]⟩) () trivial [0,1,2,3] (by decide) rfl
    · have j2 :=j2 rfl
      clear j3;have hdone:∀W' m',iG E F ag W false=(W',m')->qv n W'/\(m'=true->oD E F ag W'=fin)/\(m'=false->W'=fin)/\2*jg W'+(if m'=true then 1 else 0)<2*jg W+1:=fun W' m' hp=>by
        have hk:=rG (E:=E) i1 ag W false jk j1;rw[hp]at hk;dsimp only at hk;refine⟨hk.1,fun c=>?_,fun c=>?_,?_⟩
        · rw[<-j2]
          unfold oD;rw[AP qD j1 (by rw[hp];exact c),hp]
        · rw[<-j2]
          unfold oD;rw[rF (by rw[hp];exact c),hp]
        · have h2:=hk.2.2
          cases m'
          · have:=hk.2.1;simp;omega
          · rcases h2 rfl with h|h
            · cases h
            · simp;omega
      repeat(first|refine GA ?_|refine gV (J ak.ty rfl (ah (i:=4) rfl rfl)) ?_)
      generalize VS:iG E F ag W false=fp at*;obtain⟨Wx,mx⟩:=fp;have hdone:=hdone Wx mx rfl;refine cX (ι:=Nat×List Nat×Bool) (fun(k,W,m)=>k<=ag.length/\qv n W/\iG E F (ag.drop k) W m=(Wx,mx)) (fun(k,_,m)=>[(2,.pointer (some ⟨g2,0,none⟩)),(3,.pointer (some ⟨g3,0,none⟩)),(7,.bool m),(40,.slice bp ag.length cp),(41,.int .i64 ag.length),(42,.int .i64 (k:Int))])
        (fun(_,W,_)=>[cT n gE cE E,eP n gF cF F,eP n gW cW W,cT n gM cM M,ap g2 (cH t (n:Int) (.slice bp ag.length cp)).cells 33,ap g3 (iR (bP n gE cE) (bP n gF cF) (bP n gW cW) vR (bP n gM cM)).cells 53]) (fun(k,_,_)=>ag.length-k) (0,W,false) ⟨Nat.zero_le _,j1,VS⟩ ?_
      clear VS j2;rintro⟨k,W',m⟩ ⟨k1,k2,k3⟩;dsimp only at k1 k2 k3⊢
      by_cases c6:k<ag.length
      · obtain⟨b,off,rfl,_,hr⟩:=lU (by omega)
        obtain⟨bb,cb,q1,q2,q3⟩:=jF hr c6;have xV:=jk.head ag[k] (List.getElem_mem c6);have Kt:=jk.sO ag[k] (List.getElem_mem c6);have L6:=jk.Ob ag[k] (List.getElem_mem c6);rw[List.drop_eq_getElem_cons c6,FB]at k3;have du:∀(L:List bz) (j:Nat) (v:Value),([.int .i64 ag[k].1,.slice bb ag[k].2.length cb]:List Value)[j]?=some v->At B L ⟨b,off+k*2+j,none⟩ v:=fun L j v hj=>fI ho (q1 j v hj);have uI:=q3.flat (by decide);clear hr lU q1 q3;generalize ag[k]=p at*;obtain⟨hd,body⟩:=p;dsimp only at*;obtain⟨hn,rfl⟩:∃hn:Nat,hd=hn:=⟨hd.toNat,by omega⟩;rw[Int.toNat_natCast]at xV k3;have Rt:∀w' L,Mem B L w'->Sl w' (.slice bb body.length cb) body.length (body.flatMap dv):=fun w' L hm=>uI.gr (ho.mem hm);obtain⟨bb2,cb2,he,h4,h5,h6⟩:=uI;simp only[Value.slice.injEq,true_and]at he;obtain⟨rfl,rfl⟩:=he;unfold maxLen at h5
        repeat(first|refine GA ?_|refine gV (aH aT.eq ak.ty rfl rfl c6) ?_|refine gV (aK ak.ty rfl rfl (du _)) ?_)
        clear du;refine aF rfl fun g9=>?_;refine fU 6 ?_;refine zL ?_
        repeat(first|refine GA ?_|refine gV (J ak.ty rfl (ah (i:=6) rfl rfl)) ?_)
        refine cX (ι:=Nat×List Nat×Bool) (fun(j,W,m)=>j<=body.length/\qv n W/\iG E F (ag.drop (k+1)) (fl E F hn (body.drop j) W m).1 (fl E F hn (body.drop j) W m).2=(Wx,mx)) (fun(j,_,m)=>[(2,.pointer (some ⟨g2,0,none⟩)),(3,.pointer (some ⟨g3,0,none⟩)),(7,.bool m),(9,.pointer (some ⟨g9,0,none⟩)),(40,.slice (some ⟨b,off,none⟩) ag.length cp),(41,.int .i64 ag.length),(42,.int .i64 (k:Int)),(47,.slice bb body.length cb),(48,.int .i64 body.length),(49,.int .i64 (j:Int))])
          (fun(_,W,_)=>[cT n gE cE E,eP n gF cF F,eP n gW cW W,cT n gM cM M,ap g2 (cH t (n:Int) (.slice (some ⟨b,off,none⟩) ag.length cp)).cells 33,ap g3 (iR (bP n gE cE) (bP n gF cF) (bP n gW cW) vR (bP n gM cM)).cells 53,ap g9 #[.int .i64 (hn:Int),.slice bb body.length cb] 109]) (fun(j,_,_)=>body.length-j) (0,W',m) ⟨Nat.zero_le _,k2,k3⟩ ?_
        clear k2 k3;rintro⟨j,W2,m2⟩ ⟨k2,k3,k4⟩;dsimp only at k2 k3 k4⊢
        by_cases c7:j<body.length
        · obtain⟨b2,Pw,rfl,l_⟩:=h6 (by omega)
          have rO:=qf (W:=B) (L:=[cT n gE cE E,eP n gF cF F,eP n gW cW W2,cT n gM cM M,ap g2 (cH t (n:Int) (.slice (some ⟨b,off,none⟩) ag.length cp)).cells 33,ap g3 (iR (bP n gE cE) (bP n gF cF) (bP n gW cW) vR (bP n gM cM)).cells 53,ap g9 #[.int .i64 (hn:Int),.slice (some ⟨b2,Pw,none⟩) body.length cb] 109]) jO (fun q x hq=>fI ho (l_ q x hq)) c7;have Ph:=L6 body[j] (List.getElem_mem c7);have ii:∀w' L,Mem B L w'->Sl w' (IL (some ⟨b2,Pw,none⟩) cb 2 (j+1) body.length) (body.drop (j+1)).length ((body.drop (j+1)).flatMap dv):=fun w' L hm=>by
            have:=EO jO (Rt w' L hm) (i:=j+1) (j:=body.length) (by omega) (Nat.le_refl _)
            rwa [List.take_of_length_le (by simp)]at this
          have IW:cP E F (body.drop (j+1)) (W2.getD hn 0)<18446744073709551616:=kx i1 (kj k3 _) fun x hx h=>(Kt x (List.mem_of_mem_drop hx) h).2;have xX:=fun w' L (hm:Mem B L w') (hx:Sl w' (bP n gE cE) E.length (E.map .bool)) (hy:Sl w' (bP n gF cF) F.length (F.map ed))=>oB (bP n gE cE) (bP n gF cF) (bP n gW cW) vR (bP n gM cM) _ E F (body.drop (j+1)) (W2.getD hn 0) w' hx hy (ii w' L hm) (by rw[hE,i1.1]) (fun x hx=>⟨fun h=>by have:=Kt x (List.mem_of_mem_drop hx) h;omega,fun h=>by have:=L6 x (List.mem_of_mem_drop hx) h;rw[i1.1];omega⟩) i1.2 (kj k3 _);rw[hE,i1.1]at xX;have hcW:(W2.map ed)[hn]?=some (ed (W2.getD hn 0)):=A9 (by rw[k3.1];exact xV.2);rw[List.drop_eq_getElem_cons c7,Df]at k4;generalize body[j]=x at*;obtain⟨q,mn⟩:=x;dsimp only at Ph;unfold fa at k4;dsimp only at k4;generalize W2.getD hn 0=bh at*;generalize cP E F (body.drop (j+1)) bh=bg at*
          repeat(first|refine GA ?_|refine gV (aH aT.eq ak.ty rfl rfl c7) ?_|refine gV (aK ak.ty rfl rfl rO) ?_)
          clear rO l_;refine aF rfl fun g11=>?_;refine zL ?_
          try refine GA ?_
          refine fU 7 ?_;refine zL ?_
          by_cases c1:q=2
          · rw[if_pos c1]at k4
            obtain⟨_,o1,o2⟩:=Ph (by omega);subst c1;obtain⟨mm,rfl⟩:∃mm:Nat,mn=mm:=⟨mn.toNat,by omega⟩;rw[Int.toNat_natCast]at k4 o2;have JB:=uD (i:=mm) k3 IW;have yd:=fun w' B' hm=>wT n gW cW W2 mm bg w' B' k3 o2 IW hm;generalize iQ W2 mm bg=ad at*;obtain⟨W3,ch⟩:=ad;dsimp only at k4 JB yd
            repeat(first|refine GA ?_|refine gV (J ak.ty rfl (ah (i:=7) rfl rfl)) ?_)
            refine dw ([ap g3 (iR (bP n gE cE) (bP n gF cF) (bP n gW cW) vR (bP n gM cM)).cells 53,ap g9 #[.int .i64 (hn:Int),.slice (some ⟨b2,Pw,none⟩) body.length cb] 109,ap g11 #[.int .i64 2,.int .i64 (mm:Int)] 128]) (.calm 0 (.calm 1 (.calm 2 (.calm 3 (.calm 4 (.calm 5 (.calm 6 (.calm 7 (.calm 8 (.calm 9 (.calm 10 (.calm 11 (.calm 12 (.calm 13 (.calm 14 (.one 15 (.one 16 (.one 17 (.calm 18 (.calm 19 (.calm 20 (.calm 21 (.done))))))))))))))))))))))) (bC [5,6,7]) ?_
            repeat(first|(refine GN ?_;first|refine QW QP ?_|refine QW (J ak.ty rfl (ah (i:=0) rfl rfl)) ?_|refine QW (J ak.ty rfl (ah (i:=1) rfl rfl)) ?_|refine QW (J ak.ty rfl (ah (i:=2) rfl rfl)) ?_|refine QW (aE (i:=0) ak.ty rfl rfl rfl) ?_|refine QW (sA (i:=j+1) aT.eq ak.ty rfl rfl c7 h4) ?_|refine QW (aO aT.eq ak.ty rfl rfl xV.2) ?_|refine GX ?_)|refine GW ?_)
            refine az rfl ?_;refine cI (J ak.ty rfl (f_ (i:=2) rfl (by rw[Nat.zero_add];exact hcW))) rfl rfl rfl ?_;refine aw (bC [5,6,7]) ?_;refine az rfl ?_;refine aM (yG aj.en rfl rfl rfl rfl) (fun w hm=>xX _ _ hm (jo (i:=0) rfl w hm) (jo (i:=1) rfl w hm)) rfl rfl rfl ?_;intro _ _;refine zL ?_;refine aw (bC [5,6,7]) ?_;refine az rfl ?_;refine aP [2] [0,1,3,4,5,6,7] (by decide) rfl rfl (yG aj.en rfl rfl rfl rfl) (fun w hm hb=>yd w _ hb) rfl rfl rfl ?_;intro _ _;refine zL ?_;refine aw (bC [4,5,6]) ?_
            cases ch
            · try refine GW ?_
              try refine GA ?_
              refine bR [0,1,7,2,3,4,5] ?_;exact aY (j+1,W3,false||m2) ⟨by omega,JB,k4⟩ (by show body.length-(j+1)<body.length-j;omega)
            · try refine GW ?_
              try refine GA ?_
              refine bR [0,1,7,2,3,4,5] ?_;exact aY (j+1,W3,true||m2) ⟨by omega,JB,k4⟩ (by show body.length-(j+1)<body.length-j;omega)
          · rw[if_neg c1]at k4
            repeat(first|refine GA ?_|refine gV (J ak.ty rfl (ah (i:=7) rfl rfl)) ?_)
            refine bR [0,1,2,3,4,5,6] ?_;exact aY (j+1,W2,m2) ⟨c7,k3,k4⟩ (by show body.length-(j+1)<body.length-j;omega)
        · rw[show body.drop j=[]from List.drop_of_length_le (by omega)]at k4
          try refine GA ?_
          refine bR [0,1,2,3,4,5] ?_;exact aY (k+1,W2,m2) ⟨by omega,k3,k4⟩ (by show ag.length-(k+1)<ag.length-k;omega)
      · rw[List.drop_of_length_le (by omega)]at k3
        have k3:(W',m)=(Wx,mx):=k3;simp only[Prod.mk.injEq]at k3;obtain⟨rfl,rfl⟩:=k3;obtain⟨d1,d2,d3,d4⟩:=hdone
        try refine GA ?_
        exact aY (W',m) ⟨d1,d2,d3⟩ d4
  · have i2:=i2 rfl
    clear i3;have hdone:∀F' m',j_ E M ag F false=(F',m')->qv n F'/\(m'=true->lJ E M ag F'=fin)/\(m'=false->F'=fin)/\2*jg F'+(if m'=true then 1 else 0)<2*jg F+1:=fun F' m' hp=>by
      have hk:=og (E:=E) (M:=M) ag F false jk i1;rw[hp]at hk;dsimp only at hk;refine⟨hk.1,fun c=>?_,fun c=>?_,?_⟩
      · rw[<-i2]
        unfold lJ;rw[AP qD i1 (by rw[hp];exact c),hp]
      · rw[<-i2]
        unfold lJ;rw[rF (by rw[hp];exact c),hp]
      · have h2:=hk.2.2
        cases m'
        · have:=hk.2.1;simp;omega
        · rcases h2 rfl with h|h
          · cases h
          · simp;omega
    repeat(first|refine GA ?_|refine gV (J ak.ty rfl (ah (i:=4) rfl rfl)) ?_)
    generalize VS:j_ E M ag F false=fp at*;obtain⟨Fx,mx⟩:=fp;have hdone:=hdone Fx mx rfl;refine cX (ι:=Nat×List Nat×Bool) (fun(k,F,m)=>k<=ag.length/\qv n F/\j_ E M (ag.drop k) F m=(Fx,mx)) (fun(k,_,m)=>[(2,.pointer (some ⟨g2,0,none⟩)),(3,.pointer (some ⟨g3,0,none⟩)),(4,.bool m),(14,.slice bp ag.length cp),(15,.int .i64 ag.length),(16,.int .i64 (k:Int))])
      (fun(_,F,_)=>[cT n gE cE E,eP n gF cF F,eP n gW cW W,cT n gM cM M,ap g2 (cH t (n:Int) (.slice bp ag.length cp)).cells 33,ap g3 (iR (bP n gE cE) (bP n gF cF) (bP n gW cW) vR (bP n gM cM)).cells 53]) (fun(k,_,_)=>ag.length-k) (0,F,false) ⟨Nat.zero_le _,i1,VS⟩ ?_
    clear VS i2;rintro⟨k,F',m⟩ ⟨j1,j2,j3⟩;dsimp only at j1 j2 j3⊢
    by_cases c6:k<ag.length
    · obtain⟨b,off,rfl,_,hr⟩:=lU (by omega)
      obtain⟨bb,cb,q1,q2,q3⟩:=jF hr c6;have xV:=jk.head ag[k] (List.getElem_mem c6);have Kt:=jk.sO ag[k] (List.getElem_mem c6);have L6:=jk.Ob ag[k] (List.getElem_mem c6);rw[List.drop_eq_getElem_cons c6,Fz]at j3;have du:∀(L:List bz) (j:Nat) (v:Value),([.int .i64 ag[k].1,.slice bb ag[k].2.length cb]:List Value)[j]?=some v->At B L ⟨b,off+k*2+j,none⟩ v:=fun L j v hj=>fI ho (q1 j v hj);have uI:=q3.flat (by decide);clear hr lU q1 q3;generalize ag[k]=p at*;obtain⟨hd,body⟩:=p;dsimp only at*;obtain⟨hn,rfl⟩:∃hn:Nat,hd=hn:=⟨hd.toNat,by omega⟩;rw[Int.toNat_natCast]at xV;have Rt:∀w' L,Mem B L w'->Sl w' (.slice bb body.length cb) body.length (body.flatMap dv):=fun w' L hm=>uI.gr (ho.mem hm);have mb:=fun w' L (hm:Mem B L w') (hx:Sl w' (bP n gM cM) M.length (M.map .bool))=>qC (bP n gM cM) (.slice bb body.length cb) M body true w' hx (Rt w' L hm) (fun x hx dM=>by have:=L6 x hx (by omega);rw[hM];omega);rw[hM]at mb;have xX:=fun w' L (hm:Mem B L w') (hx:Sl w' (bP n gE cE) E.length (E.map .bool)) (hy:Sl w' (bP n gF cF) F'.length (F'.map ed))=>oB (bP n gE cE) (bP n gF cF) (bP n gW cW) vR (bP n gM cM) (.slice bb body.length cb) E F' body 0 w' hx hy (Rt w' L hm) (by rw[hE,j2.1]) (fun x hx=>⟨fun h=>by have:=Kt x hx h;omega,fun h=>by have:=L6 x hx h;rw[j2.1];omega⟩) j2.2 (by decide);rw[hE,j2.1]at xX;unfold ww at j3;dsimp only at j3;rw[Int.toNat_natCast]at j3;generalize gL M body true=a1 at*;have IW:cP E F' body 0<18446744073709551616:=kx j2 (by decide) fun x hx h=>(Kt x hx h).2;generalize cP E F' body 0=bg at*
      repeat(first|refine GA ?_|refine gV (aH aT.eq ak.ty rfl rfl c6) ?_|refine gV (aK ak.ty rfl rfl (du _)) ?_)
      clear du;refine aF rfl fun g6=>?_;refine fU 6 ?_;refine zL ?_
      repeat(first|refine GA ?_|refine gV (J ak.ty rfl (ah (i:=5) rfl rfl)) ?_|refine gV (J ak.ty rfl (ah (i:=6) rfl rfl)) ?_)
      refine aM (yG aj.en rfl rfl rfl rfl) (fun w hm=>mb _ _ hm (jo (i:=3) rfl w hm)) rfl rfl rfl ?_;intro _ _;refine zL ?_
      cases a1
      · rw[if_neg (by decide)]at j3
        try refine GA ?_
        refine bR [0,1,2,3,4,5] ?_;exact aY (k+1,F',m) ⟨by omega,j2,j3⟩ (by show ag.length-(k+1)<ag.length-k;omega)
      · rw[if_pos rfl]at j3
        have JB:=uD (i:=hn) j2 IW;have yd:=fun w' B' hm=>wT n gF cF F' hn bg w' B' j2 xV.2 IW hm;generalize iQ F' hn bg=ad at*;obtain⟨F2,ch⟩:=ad;dsimp only at*
        try refine GA ?_
        refine dw ([ap g3 (iR (bP n gE cE) (bP n gF cF) (bP n gW cW) vR (bP n gM cM)).cells 53,ap g6 #[.int .i64 (hn:Int),.slice bb body.length cb] 109]) (.calm 0 (.calm 1 (.calm 2 (.calm 3 (.calm 4 (.calm 5 (.calm 6 (.one 7 (.one 8 (.calm 9 (.calm 10 (.calm 11 (.calm 12 (.done)))))))))))))) (bC [5,6]) ?_
        repeat(first|refine GW ?_|(refine GN ?_;first|refine QW (J ak.ty rfl (ah (i:=0) rfl rfl)) ?_|refine QW (J ak.ty rfl (ah (i:=1) rfl rfl)) ?_|refine QW (aE (i:=0) ak.ty rfl rfl rfl) ?_))
        refine az rfl ?_;refine aM (yG aj.en rfl rfl rfl rfl) (fun w hm=>xX _ _ hm (jo (i:=0) rfl w hm) (jo (i:=1) rfl w hm)) rfl rfl rfl ?_;intro _ _;refine zL ?_;refine aw (bC [5,6]) ?_;refine az rfl ?_;refine aP [1] [0,2,3,4,5,6] (by decide) rfl rfl (yG aj.en rfl rfl rfl rfl) (fun w hm hb=>yd w _ hb) rfl rfl rfl ?_;intro _ _;refine zL ?_;refine aw (bC [4,5]) ?_
        cases ch
        · try refine GW ?_
          try refine GA ?_
          refine bR [0,6,1,2,3,4] ?_;exact aY (k+1,F2,false||m) ⟨by omega,JB,j3⟩ (by show ag.length-(k+1)<ag.length-k;omega)
        · try refine GW ?_
          try refine GA ?_
          refine bR [0,6,1,2,3,4] ?_;exact aY (k+1,F2,true||m) ⟨by omega,JB,j3⟩ (by show ag.length-(k+1)<ag.length-k;omega)
    · rw[List.drop_of_length_le (by omega)]at j3
      have j3:(F',m)=(Fx,mx):=j3;simp only[Prod.mk.injEq]at j3;obtain⟨rfl,rfl⟩:=j3;obtain⟨d1,d2,d3,d4⟩:=hdone
      try refine GA ?_
      exact aY (F',m) ⟨d1,d2,d3⟩ d4
end bH
namespace bH
open Go.RowKit bL db av b9
def jy(n:Nat)(l:List av.Prod):FS:=b9.fix (ze l) (rH n) ⟨List.replicate n false,(List.replicate n false).set 0 true,List.replicate n false,false⟩
def sY(n:Nat)(l:List av.Prod):List Nat:=lJ (jy n l).E (jy n l).M l (List.replicate n 0)
def tI(n:Nat)(l:List av.Prod):List Nat:=oD (jy n l).E (sY n l) l ((List.replicate n 0).set 0 9223372036854775808)
structure wU extends Ru where
 gR:Nat
 cR:Nat
def wU.val(n:Nat)(x:wU):Value:=iR (bP n x.gE x.cE) (bP n x.gF x.cF) (bP n x.gW x.cW) (bP n x.gR x.cR) (bP n x.gM x.cM)
theorem zv(a b c d e:Option Addr)(n1 n2 n3 n4 n5 c1 c2 c3 c4 c5:Nat)(w:World):(Instr.build 53 #[(0,.slice a n1 c1),(1,.slice b n2 c2),(2,.slice c n3 c3),(3,.slice d n4 c4),(4,.slice e n5 c5)]).run Tryz.prog w= .ok (.agg #[.slice a n1 c1,.slice b n2 c2,.slice c n3 c3,.slice d n4 c4,.slice e n5 c5]) w:=by
 go_simp
def Mp(i d n:Nat):Mk:=⟨i,d,fun g=> .slice (some ⟨g,0,none⟩) n n,fun g=>ap g (madeCells #[.bool false] (n*1)) 4⟩
def Rv(i d n:Nat):Mk:=⟨i,d,fun g=> .slice (some ⟨g,0,none⟩) n n,fun g=>ap g (madeCells #[.int .u64 0] (n*1)) 63⟩
def XG(i d:Nat):Mk:=⟨i,d,fun g=> .pointer (some ⟨g,0,none⟩),fun g=>ap g #[.slice none 0 0,.slice none 0 0,.slice none 0 0,.slice none 0 0,.slice none 0 0] 53⟩
theorem my{P:Program}{k:Nat}{W:bB}{Q:Exit->Act->World->Prop}{fr:Fr}{L:List bz}{c:Code}{i g m:Nat}{e:TypeId}{z:Value}(hi:L[i]?=some (ap g (madeCells #[z] (m*1)) e))(hm:m<=9223372036854775807)(h:T P k W c Q fr (L.set i (aI e 1 (.slice (some ⟨g,0,none⟩) m m) m (List.replicate m z)))):T P k W c Q fr L:=
 Lc 1 hi (by rw[size_madeCells]) (Nat.le_refl _) hm (by
  have:(madeCells #[z] (m*1)).toList.take (m*1)=List.replicate m z:=by
   rw[QR,Nat.mul_one,List.take_of_length_le (by simp)]
  rw[this];exact h)
theorem wV(v:Value)(g:df)(w:World)(h:jf (fun k=>k<w.heap.size) w v g)(gD:bM g=0)(n:Nat)(hn:g.aR=n):
    Calls Tryz.prog 10 #[v] w (dc ⟨fun(_:wU)=>True,fun x=> .tuple #[x.val n,.int .i64 0],fun x=>[cT n x.gE x.cE (jy n g.ag).E,eP n x.gF x.cF (sY n g.ag),eP n x.gW x.cW (tI n g.ag),cT n x.gR x.cR (jy n g.ag).R,cT n x.gM x.cM (jy n g.ag).M]⟩ w):=by
  obtain⟨n1,n2,_,_,hlen,_⟩:=bI gD;have hcc:=fun w' L (hm:Mem w L w')=>e_ v g w' (h.gr ((lc.self w).mem hm));rw[gD]at hcc;have h0:=h;obtain⟨vp,rfl,h1,_⟩:=h;obtain⟨bp,cp,rfl,Hm,BU,lU⟩:=h1;unfold maxLen at BU;obtain⟨t,nn,ag⟩:=g;dsimp only at*;subst hn;refine enter (args:=[cH t (n:Int) (.slice bp ag.length cp)]) (n:=39) Tryz.func10 rfl rfl rfl ?_;refine bJ (aV (bK rfl rfl rfl fun g1=>aF rfl fun g2=>?_));refine zL ?_
  repeat(first|refine GA ?_|refine gV (aE (i:=0) ak.ty rfl rfl rfl) ?_)
  refine aM (iT aj.en rfl rfl) (fun w hm=>hcc _ _ hm) rfl rfl rfl ?_;intro _ _;refine zL ?_
  repeat(first|refine GA ?_|refine gV (J ak.ty rfl (ah (i:=0) rfl rfl)) ?_)
  refine ix (ι:=Nat×Nat×Nat×Nat×Nat×Nat) (fun _=>True) (fun(_,_,_,_,_,g6)=>[(1,.pointer (some ⟨g1,0,none⟩)),(2,.pointer (some ⟨g2,0,none⟩)),(6,.pointer (some ⟨g6,0,none⟩))])
    (fun(gE,gF,gW,gR,gM,g6)=>[ap g1 (cH t (n:Int) (.slice bp ag.length cp)).cells 33,ap g2 #[.slice none 0 0,.slice none 0 0,.slice none 0 0,.slice none 0 0,.slice none 0 0] 53,ap gE (madeCells #[.bool false] (n*1)) 4,ap gF (madeCells #[.int .u64 0] (n*1)) 63,ap gW (madeCells #[.int .u64 0] (n*1)) 63,ap gR (madeCells #[.bool false] (n*1)) 4,ap gM (madeCells #[.bool false] (n*1)) 4,ap g6 (iR (bP n gE n) (bP n gF n) (bP n gW n) (bP n gR n) (bP n gM n)).cells 53]) ?_ ?_
  rotate_left
  · rintro⟨gE,gF,gW,gR,gM,g6⟩ _
    dsimp only;refine my (i:=2) rfl (by omega) ?_;refine my (i:=3) rfl (by omega) ?_;refine my (i:=4) rfl (by omega) ?_;refine my (i:=5) rfl (by omega) ?_;refine my (i:=6) rfl (by omega) ?_
    conv=>arg 7;simp only[List.set_cons_succ,List.set_cons_zero]
    rw[show List.replicate n (Value.bool false)=(List.replicate n false).map .bool by simp,show List.replicate n (Value.int .u64 0)=(List.replicate n 0).map ed by simp[ed]];have Uz:0<n:=by omega
    repeat(first|refine GA ?_|refine gV (J ak.ty rfl (ah (i:=7) rfl rfl)) ?_|refine gV (aO (j:=0) aT.eq ak.ty rfl rfl Uz) ?_)
    refine gG (i:=5) ak.ty rfl rfl rfl rfl rfl rfl (by simpa using Uz) ?_
    repeat(first|refine GA ?_|refine gV (J ak.ty rfl (ah (i:=7) rfl rfl)) ?_|refine gV (aO (j:=0) aT.eq ak.ty rfl rfl Uz) ?_)
    refine gG (i:=4) ak.ty rfl rfl rfl rfl rfl rfl (by simpa using Uz) ?_
    conv=>arg 8;simp only[List.set_cons_succ,List.set_cons_zero,Nat.zero_add]
    try refine GA ?_
    generalize jh:jy n ag=fin;have jk:=pu (g:=⟨t,n,ag⟩) gD rfl;have qD:=qx jk;refine iu (ι:=FS) (fun s=>Jh n s/\b9.fix (ze ag) (rH n) s=fin) (fun _=>[(1,.pointer (some ⟨g1,0,none⟩)),(2,.pointer (some ⟨g2,0,none⟩)),(6,.pointer (some ⟨g6,0,none⟩))])
      (fun s=>[ap g1 (cH t (n:Int) (.slice bp ag.length cp)).cells 33,ap g2 #[.slice none 0 0,.slice none 0 0,.slice none 0 0,.slice none 0 0,.slice none 0 0] 53,cT n gE n s.E,eP n gF n (List.replicate n 0),eP n gW n ((List.replicate n 0).set 0 9223372036854775808),cT n gR n s.R,cT n gM n s.M,ap g6 (iR (bP n gE n) (bP n gF n) (bP n gW n) (bP n gR n) (bP n gM n)).cells 53])
      (fun s=>rH n s) ⟨List.replicate n false,(List.replicate n false).set 0 true,List.replicate n false,false⟩ ⟨⟨by simp,by simp,by simp⟩,jh⟩ (by repeat' (first|exact True.intro|refine And.intro rfl ?_)) (by simp[cT,eP,ed,List.map_set]) ?_
    rintro⟨E,R,M,mo⟩ ⟨i1,i2⟩;dsimp only at i2⊢;have eV:=fun w' B' (ho:lc w B') hm=>De w _ ⟨t,n,ag⟩ h0 gD n rfl ⟨gE,n,gR,n,gM,n⟩ (bP n gF n) (bP n gW n) E R M i1.1 i1.2.1 i1.2.2 w' B' ho hm;dsimp only at eV
    repeat(first|refine GA ?_|refine gV (aE (i:=0) ak.ty rfl rfl rfl) ?_|refine gV (aE (i:=7) ak.ty rfl rfl rfl) ?_)
    refine aP [2,5,6] [0,1,3,4,7] (by decide) rfl rfl (fh aj.en rfl rfl rfl) (fun w' hm hb=>eV w' _ ((lc.self w).on hm (by intro o ho;simp at ho⊢;rcases ho with h|h|h<;>simp[h])) hb) rfl rfl rfl ?_;intro _ _;refine zL ?_;clear eV;have hk:=lH ag ⟨E,R,M,false⟩ jk i1;have hgo:(dl ag ⟨E,R,M,false⟩).more=true->b9.fix (ze ag) (rH n) (dl ag ⟨E,R,M,false⟩)=fin/\rH n (dl ag ⟨E,R,M,false⟩)<rH n ⟨E,R,M,mo⟩:=fun c=>⟨by rw[<-i2,AP qD i1 c];rfl,qD.dec _ i1 c⟩;have hst:(dl ag ⟨E,R,M,false⟩).more=false->dl ag ⟨E,R,M,false⟩=fin:=fun c=>by rw[<-i2,rF (s:=(⟨E,R,M,mo⟩:FS)) c];rfl
    generalize dl ag ⟨E,R,M,false⟩=r at*;obtain⟨E',R',M',m'⟩:=r;dsimp only at hgo hst⊢
    cases m'
    · have hst:=hst rfl
      have Rw:=fun w' B' (ho:lc w B') hm=>FC w _ ⟨t,n,ag⟩ h0 gD n rfl ⟨gE,n,gF,n,gW,n,gM,n⟩ (bP n gR n) E' (List.replicate n 0) ((List.replicate n 0).set 0 9223372036854775808) M' hk.1.1 ⟨by simp,fun x hx=>by rw[List.eq_of_mem_replicate hx];decide⟩ ⟨by simp,fun x hx=>by
        rcases List.mem_or_eq_of_mem_set hx with h|h
        · rw[List.eq_of_mem_replicate h];decide
        · rw[h];decide⟩ hk.1.2.2 w' B' ho hm
      dsimp only at Rw
      repeat(first|refine GA ?_|refine gV (aE (i:=0) ak.ty rfl rfl rfl) ?_|refine gV (aE (i:=4) ak.ty rfl rfl rfl) ?_)
      refine aP [5,2,3,7] [0,1,6,4] (by decide) rfl rfl (fh aj.en rfl rfl rfl) (fun w' hm hb=>Rw w' _ ((lc.self w).on hm (by intro o ho;simp at ho⊢;rcases ho with h|h|h|h<;>simp[h])) hb) rfl rfl rfl ?_;intro _ _;refine zL ?_
      repeat(first|refine GA ?_|refine gV (aE (i:=3) ak.ty rfl rfl rfl) ?_)
      refine fU 1 ?_;refine zL ?_
      try refine GA ?_
      subst hst;have eF:sY n ag=lJ E' M' ag (List.replicate n 0):=by unfold sY;rw[jh]
      have eW:tI n ag=oD E' (lJ E' M' ag (List.replicate n 0)) ag ((List.replicate n 0).set 0 9223372036854775808):=by unfold tI;rw[eF,jh]
      rw[eF,eW];refine dB (i:=1) rfl rfl rfl rfl (z:= .int .i64 0) ?_ fun w' hm=>?_
      · rfl
      exact hm.bV (S:=⟨fun(_:wU)=>True,fun x=> .tuple #[x.val n,.int .i64 0],fun x=>[cT n x.gE x.cE E',eP n x.gF x.cF (lJ E' M' ag (List.replicate n 0)),eP n x.gW x.cW (oD E' (lJ E' M' ag (List.replicate n 0)) ag ((List.replicate n 0).set 0 9223372036854775808)),cT n x.gR x.cR R',cT n x.gM x.cM M']⟩) ⟨⟨gE,n,gF,n,gW,n,gM,n⟩,gR,n⟩ trivial [4,5,6,2,7] (by decide) rfl
    · try refine GA ?_
      refine bR [0,1,5,2,3,6,7,4] ?_;exact aY ⟨E',R',M',true⟩ ⟨hk.1,(hgo rfl).1⟩ (hgo rfl).2
  refine Lu [] uw (by kernel_rfl) (by kernel_rfl) (by intro c a d v w h;cases d<;>exact h) ?_;refine lT 0 (by kernel_rfl) rfl (pe rfl) rfl rfl rfl ?_;refine lT 2 (by kernel_rfl) rfl (pe rfl) rfl rfl rfl ?_;refine lT 4 (by kernel_rfl) rfl (pe rfl) rfl rfl rfl ?_;refine lT 6 (by kernel_rfl) rfl (pe rfl) rfl rfl rfl ?_;refine lT 8 (by kernel_rfl) rfl (pe rfl) rfl rfl rfl ?_;refine Cy [Mp 1 16 n,Rv 3 18 n,Rv 5 20 n,Mp 7 22 n,Mp 9 24 n,XG 11 6] (fun m=>!Nat.beq m.i 11) 2 (by kernel_rfl) (by kernel_rfl) ?_ (fun q=>?_) fun q=>?_
  · intro m hm
    simp only[List.mem_cons,List.not_mem_nil,or_false]at hm;rcases hm with rfl|rfl|rfl|rfl|rfl|rfl
    · exact jM rfl rfl rfl (Nat.le_refl _) (by omega) (by omega) rfl
    · exact jM rfl rfl rfl (Nat.le_refl _) (by omega) (by omega) rfl
    · exact jM rfl rfl rfl (Nat.le_refl _) (by omega) (by omega) rfl
    · exact jM rfl rfl rfl (Nat.le_refl _) (by omega) (by omega) rfl
    · exact jM rfl rfl rfl (Nat.le_refl _) (by omega) (by omega) rfl
    · exact yW rfl rfl
  · simp only[Mp,Rv,XG,List.map_cons,List.map_nil]
    generalize q 1=gE;generalize q 3=gF;generalize q 5=gW;generalize q 7=gR;generalize q 9=gM;generalize q 11=g6;clear q;refine uC (.calm 10 (.one 12 .done)) (by kernel_rfl) rfl ?_
    repeat(first|refine GW ?_|(refine GN ?_;first|refine QW (aU rfl (zv _ _ _ _ _ _ _ _ _ _ _ _ _ _ _)) ?_))
    refine az rfl ?_;refine fU 7 ?_;refine aw uw ?_
    try refine GW ?_
    exact c_ (gE,gF,gW,gR,gM,g6) trivial (by repeat' (first|exact True.intro|refine And.intro rfl ?_)) rfl
  · rw[show List.filter (fun m:Mk=>!Nat.beq m.i 11) [Mp 1 16 n,Rv 3 18 n,Rv 5 20 n,Mp 7 22 n,Mp 9 24 n,XG 11 6]=[Mp 1 16 n,Rv 3 18 n,Rv 5 20 n,Mp 7 22 n,Mp 9 24 n]from rfl]
    simp only[Mp,Rv,XG,List.map_cons,List.map_nil];generalize q 1=gE;generalize q 3=gF;generalize q 5=gW;generalize q 7=gR;generalize q 9=gM;clear q;refine uC (.calm 10 (.one 11 (.one 12 .done))) (by kernel_rfl) (by kernel_rfl) ?_
    repeat(first|refine GW ?_|(refine GN ?_;first|refine QW (aU rfl (zv _ _ _ _ _ _ _ _ _ _ _ _ _ _ _)) ?_))
    refine az rfl ?_;refine aF rfl fun g6=>?_;refine aw uw ?_;refine az rfl ?_;refine fU 7 ?_;refine aw uw ?_
    try refine GW ?_
    exact c_ (gE,gF,gW,gR,gM,g6) trivial (by repeat' (first|exact True.intro|refine And.intro rfl ?_)) rfl
end bH
namespace bH
open av b9 dg dj
theorem Mq{n:Nat}{l:List av.Prod}(hf:ud n l):rD (ze l) (fun s=>Jh n s/\s.R.getD 0 false=true) (rH n):=
 ⟨fun s hs=>⟨(qx hf).keep s hs.1,tB l ⟨s.E,s.R,s.M,false⟩ hs.2⟩,fun s hs=>(qx hf).dec s hs.1⟩
theorem zw{g:df}{n:Nat}(gD:bM g=0)(hn:g.aR=n):hJ g.ag (jy n g.ag).E (sY n g.ag) (tI n g.ag) (jy n g.ag).R (jy n g.ag).M:=by
 obtain⟨_,_,a3,_⟩:=bI gD;have hf:=pu gD hn;have hS:uE g.ag (jy n g.ag).E (jy n g.ag).R (jy n g.ag).M/\Jh n (jy n g.ag)/\(jy n g.ag).R.getD 0 false=true:=by
  obtain⟨s',h1,h2,h3⟩:=lG (Mq hf) _ ⟨List.replicate n false,(List.replicate n false).set 0 true,List.replicate n false,false⟩ ⟨⟨by simp,by simp,by simp⟩,by
   rw[List.getD_eq_getElem?_getD,List.getElem?_set_self (by simp;omega)];rfl⟩ (Nat.le_refl _)
  have e:jy n g.ag=dl g.ag ⟨s'.E,s'.R,s'.M,false⟩:=h3;obtain⟨_,k2,k3,k4,k5⟩:=rI g.ag ⟨s'.E,s'.R,s'.M,false⟩ h2;have hk:=(Mq hf).keep s' h1;rw[e];refine⟨?_,hk⟩;rw[k2,k3,k4];exact k5
 obtain⟨XH,hS2,hS3⟩:=hS;have hF:qv n (sY n g.ag)/\∀p∈g.ag,gL (jy n g.ag).M p.2 true=true->(sY n g.ag).getD p.1.toNat 0|||cP (jy n g.ag).E (sY n g.ag) p.2 0=(sY n g.ag).getD p.1.toNat 0:=by
  obtain⟨s',h1,h2,h3⟩:=lG (AQ (E:=(jy n g.ag).E) (M:=(jy n g.ag).M) hf) _ (List.replicate n 0) ⟨by simp,fun x hx=>by rw[List.eq_of_mem_replicate hx];decide⟩ (Nat.le_refl _);obtain⟨_,h4,h5⟩:=oh _ _ _ h2;have h6:sY n g.ag=s':=by unfold sY lJ;rw[h3];exact h4
  rw[h6];exact⟨h1,h5⟩
 have hW:((tI n g.ag).getD 0 0).testBit 63=true/\(∀p∈g.ag,∀pre x post,p.2=pre++x::post->x.1=2->(tI n g.ag).getD x.2.toNat 0|||cP (jy n g.ag).E (sY n g.ag) post ((tI n g.ag).getD p.1.toNat 0)=(tI n g.ag).getD x.2.toNat 0)/\qv n (tI n g.ag):=by
  have uI:=E8 (E:=(jy n g.ag).E) hF.1 hf;have VT:rD (fun W=>iG (jy n g.ag).E (sY n g.ag) g.ag W false) (fun W=>qv n W/\(W.getD 0 0).testBit 63=true) jg:=⟨fun s hs=>⟨uI.keep s hs.1,wy g.ag s false hs.2⟩,fun s hs=>uI.dec s hs.1⟩;obtain⟨s',h1,h2,h3⟩:=lG VT _ ((List.replicate n 0).set 0 9223372036854775808) ⟨⟨by simp,fun x hx=>by
   rcases List.mem_or_eq_of_mem_set hx with h|h
   ·rw[List.eq_of_mem_replicate h];decide
   ·rw[h];decide⟩,by rw[List.getD_eq_getElem?_getD,List.getElem?_set_self (by simp;omega)];decide⟩ (Nat.le_refl _)
  obtain⟨_,h4,h5⟩:=oq _ _ _ h2;have h6:tI n g.ag=s':=by unfold tI oD;rw[h3];exact h4
  rw[h6];exact⟨h1.2,h5,h1.1⟩
 exact⟨XH,hF.2,hW.2.1,hS3,hW.1⟩
end bH
namespace bH
open Go.RowKit bL db av dg b9 dj
theorem JC{x y:Nat}(hx:x<18446744073709551616)(hy:y<18446744073709551616):bits .and .u64 (x:Int) (y:Int)=((x&&&y:Nat):Int):=bits_and_u64_nat x y hx hy
end bH
namespace bH
open Go.RowKit bL db av
theorem Py{α:Type}{s:qQ α}{F:Nat->Prop}{w:World}{v:Value}{l:List α}(h:gI s F w v l):v.oneCell'=true:=by
 obtain⟨b,c,rfl,_⟩:=h;rfl
theorem zx(k q:Int)(w:World):(Instr.build 128 #[(0,.int .i64 k),(1,.int .i64 q)]).run Tryz.prog w= .ok (.agg #[.int .i64 k,.int .i64 q]) w:=by
 go_simp
end bH
namespace bH
open Go.RowKit bL db av b9
section
variable{P:Program}{n:Nat}{W:bB}{fr:Fr}{L:List bz}{dst:Option Tmp}{ty:TypeId}{pos:String}{after:Array Edge}{guard:Option (Nat×Bool)}{t u:TypeId}{x y:Operand}{k:IntKind}{m m' r:Int}
theorem HM(hx:ev fr x=some (.int k m))(hy:ev fr y=some (.int k m'))(h:bits .andNot k m m'=r):RR P n W ⟨dst,.binOp .andNot t x y u,ty,pos,after,guard⟩ fr L (.int k r):=Au (.inr (.inr (.inr rfl))) hx hy h
end
theorem wW{ι:Type}{S:Spec ι}{w w':World}{e:Ending}(h:dc S w e w'):bU S w e w':=let ⟨x,h1,h2,h3⟩:=h;⟨x,h1,h2,h3.below,h3.Q1⟩
theorem FD(w:World):(Instr.build 53 (#[]:Array (Nat×Value))).run Tryz.prog w= .ok (.agg #[.slice none 0 0,.slice none 0 0,.slice none 0 0,.slice none 0 0,.slice none 0 0]) w:=by
 go_simp
theorem JD(v:Value)(g:df)(w:World)(h:jf (fun k=>k<w.heap.size) w v g)(h0:bM g≠0):
 Calls Tryz.prog 10 #[v] w (bU (ret (.tuple #[iR (.slice none 0 0) (.slice none 0 0) (.slice none 0 0) (.slice none 0 0) (.slice none 0 0),.int .i64 (bM g)])) w):=by
 have gD:=fun w' (hg:Gr w w')=>e_ v g w' (h.gr hg);obtain⟨vp,rfl,h1,_⟩:=h;obtain⟨bp,cp,rfl,Hm,BU,lU⟩:=h1;generalize bM g=e at*;obtain⟨t,n,ag⟩:=g;dsimp only at*;refine enter (args:=[cH t n (.slice bp ag.length cp)]) (n:=39) Tryz.func10 rfl rfl rfl ?_;refine bJ (aV (bK rfl rfl rfl fun g1=>aF rfl fun g2=>?_))
 repeat(first|refine GA ?_|refine gV (aE (i:=0) ak.ty rfl rfl rfl) ?_)
 refine aM (iT aj.en rfl rfl) (fun w hm=>gD _ hm.below) rfl rfl rfl ?_;intro _ _;refine zL ?_
 repeat(first|refine GA ?_|refine gV (aU rfl FD) ?_)
 refine fU 1 ?_
 try refine GA ?_
 exact dB (i:=1) rfl rfl rfl rfl rfl fun w hm=>hm.ret
end bH
namespace bH
open Go.RowKit bL db av b9
def ye(t n:Int):List bY->Int
 |[]=>0
 |x::r=>if right t n x=true then ye t n r else 1
theorem A'{t n:Int}:∀{l:List bY},ye t n l=0->∀x∈l,right t n x=true
  |[],_,_,h=>by cases h
  | y ::r,h,x,hx=>by
    unfold ye at h;split at h
    · rename_i c
      rcases List.mem_cons.1 hx with rfl|hx
      · exact c
      · exact A' h x hx
    · cases h
theorem Ba{t n:Int}:∀{l:List bY},(∀x∈l,right t n x=true)->ye t n l=0
 |[],_=>rfl
 |y::r,h=>by unfold ye;rw[if_pos (h y (by simp))];exact Ba fun x hx=>h x (by simp[hx])
def oE(g:df)(body:List bY):Int:=if bM g≠0 then bM g else if 60<body.length then 1 else ye g.aJ g.aR body
def ui(g:df)(body:List bY)(behind:Nat):Nat:=if oE g body=0 then cP (jy g.aR.toNat g.ag).E (sY g.aR.toNat g.ag) body behind else 0
theorem Dg{t n:Int}{x:bY}(h:right t n x=false):(x.1≠1/\x.1≠2)\/(x.1=1/\x.2<0)\/(x.1=1/\0<=x.2/\t<=x.2)\/(x.1=2/\x.2<0)\/(x.1=2/\0<=x.2/\n<=x.2):=by
 unfold right at h;split at h
 ·simp at h;omega
 ·split at h
  ·simp at h;omega
  ·omega
theorem lK{t n:Int}{x:bY}(h:right t n x=true):(x.1=1/\0<=x.2/\x.2<t)\/(x.1=2/\0<=x.2/\x.2<n):=by
 unfold right at h;split at h
 ·simp at h;omega
 ·split at h
  ·simp at h;omega
  ·simp at h
theorem Bb{g:df}{n:Nat}(gD:bM g=0)(hn:g.aR=n):Jh n (jy n g.ag)/\qv n (sY n g.ag):=by
 have hf:=pu gD hn
 constructor
 ·obtain⟨s',h1,h2,h3⟩:=lG (qx hf) _ ⟨List.replicate n false,(List.replicate n false).set 0 true,List.replicate n false,false⟩ ⟨by simp,by simp,by simp⟩ (Nat.le_refl _)
  unfold jy;rw[h3];exact(qx hf).keep _ h1
 ·obtain⟨s',h1,h2,h3⟩:=lG (AQ (E:=(jy n g.ag).E) (M:=(jy n g.ag).M) hf) _ (List.replicate n 0) ⟨by simp,fun x hx=>by rw[List.eq_of_mem_replicate hx];decide⟩ (Nat.le_refl _)
  unfold sY lJ;rw[h3];exact(AQ hf).keep _ h1
theorem mz(v vb:Value)(g:df)(body:List bY)(behind:Nat)(w:World)(h:jf (fun k=>k<w.heap.size) w v g)(hs:Sl w vb body.length (body.flatMap dv))(hb:behind<18446744073709551616):
    Calls Tryz.prog 31 #[v,vb,ed behind] w (bU (ret (.tuple #[ed (ui g body behind),.int .i64 (oE g body)])) w):=by
  by_cases c0:bM g=0
  · obtain⟨_,_,k1,k2,k3,k4⟩:=bI c0
    obtain⟨n,hn⟩:∃n:Nat,g.aR=n:=⟨g.aR.toNat,by omega⟩;have Mr:=fun w' (hg:Gr w w')=>wV v g w' (h.gr hg) c0 n hn;obtain⟨hS,hF⟩:=Bb c0 hn;obtain⟨vp,rfl,h1,_⟩:=h;obtain⟨bp,cp,rfl,Hm,BU,lU⟩:=h1;clear lU;have OD:=hs;obtain⟨bb,cb,rfl,h4,h5,h6⟩:=hs;unfold maxLen at h5;obtain⟨t,nn,ag⟩:=g;dsimp only at*;subst hn;have xX:=fun(vE vF vL vR vM:Value) w' (hg:Gr w w') (hE:Sl w' vE n ((jy n ag).E.map .bool)) (hF2:Sl w' vF n ((sY n ag).map ed)) jU=>oB vE vF vL vR vM _ (jy n ag).E (sY n ag) body behind w' (by rw[hS.1];exact hE) (by rw[hF.1];exact hF2) (OD.gr hg) (by rw[hS.1,hF.1]) jU hF.2 hb;rw[hF.1]at xX;have hV:ui ⟨t,n,ag⟩ body behind=if oE ⟨t,n,ag⟩ body=0 then cP (jy n ag).E (sY n ag) body behind else 0:=rfl
    have hE:oE ⟨t,n,ag⟩ body=if 60<body.length then 1 else ye t n body:=by
      unfold oE;rw[if_neg (by rw[c0];simp)]
    generalize ui ⟨t,n,ag⟩ body behind=rV at*;generalize oE ⟨t,n,ag⟩ body=rE at*;refine enter (args:=[cH t (n:Int) (.slice bp ag.length cp),.slice bb body.length cb,ed behind]) (n:=71) Tryz.func31 rfl rfl rfl ?_;refine bJ (aV (bK rfl rfl rfl fun g3=>?_))
    repeat(first|refine GA ?_|refine gV (aE (i:=0) ak.ty rfl rfl rfl) ?_)
    refine aM (iT aj.en rfl rfl) (fun w' hm=>(Mr w' hm.below).mono fun e w2 h=>wW h) rfl rfl rfl ?_;intro x _
    conv=>arg 8;simp only[zJ,bW,ret,id_eq,wU.val]
    try refine GA ?_
    refine aF rfl fun g8=>?_;refine fU 6 ?_;refine zL ?_
    by_cases c1:60<body.length
    · rw[if_pos c1]at hE
      subst hE;rw[if_neg (by decide)]at hV;subst hV
      try refine GA ?_
      exact sv rfl rfl rfl fun w hm=>hm.ret
    rw[if_neg c1]at hE
    try refine GA ?_
    refine cX (ι:=Nat) (fun k=>k<=body.length/\rE=ye t n (body.drop k)) (fun k=>[(1,.slice bb body.length cb),(2,ed behind),(3,.pointer (some ⟨g3,0,none⟩)),(8,.pointer (some ⟨g8,0,none⟩)),(23,.slice bb body.length cb),(24,.int .i64 body.length),(25,.int .i64 (k:Int))])
      (fun _=>[ap g3 (cH t (n:Int) (.slice bp ag.length cp)).cells 33,cT n x.gE x.cE (jy n ag).E,eP n x.gF x.cF (sY n ag),eP n x.gW x.cW (tI n ag),cT n x.gR x.cR (jy n ag).R,cT n x.gM x.cM (jy n ag).M,ap g8 (iR (bP n x.gE x.cE) (bP n x.gF x.cF) (bP n x.gW x.cW) (bP n x.gR x.cR) (bP n x.gM x.cM)).cells 53]) (fun k=>body.length-k) 0 ⟨Nat.zero_le _,hE⟩ ?_
    rintro k ⟨i1,i2⟩
    by_cases c6:k<body.length
    · obtain⟨b,off,rfl,hr⟩:=h6 (by omega)
      have du:=fun L=>fx (L:=L) jO hr c6;rw[List.drop_eq_getElem_cons c6,ye]at i2;clear h6 hr OD xX;generalize body[k]=y at*
      cases r:right t n y
      · rw[if_neg (by rw[r];decide)]at i2
        clear hE;subst i2;rw[if_neg (by decide)]at hV;subst hV;have r':=Dg r;obtain⟨q,m⟩:=y;dsimp only at r';rcases r' with r'|r'|r'|r'|r'
        all_goals
          repeat(first|refine GA ?_|refine gV (aH aT.eq ak.ty rfl rfl c6) ?_|refine gV (aK ak.ty rfl rfl (du _)) ?_)
          refine aF rfl fun g11=>?_;refine fU 7 ?_;refine zL ?_
          repeat(first|refine GA ?_|refine gV (J ak.ty rfl (ah (i:=7) rfl rfl)) ?_|refine gV (J ak.ty rfl (ah (i:=0) rfl rfl)) ?_)
          exact sv rfl rfl rfl fun w hm=>hm.ret
      · rw[if_pos r]at i2
        have r':=lK r;obtain⟨q,m⟩:=y;dsimp only at r';rcases r' with r'|r'
        all_goals
          repeat(first|refine GA ?_|refine gV (aH aT.eq ak.ty rfl rfl c6) ?_|refine gV (aK ak.ty rfl rfl (du _)) ?_)
          refine aF rfl fun g11=>?_;refine fU 7 ?_;refine zL ?_
          repeat(first|refine GA ?_|refine gV (J ak.ty rfl (ah (i:=7) rfl rfl)) ?_|refine gV (J ak.ty rfl (ah (i:=0) rfl rfl)) ?_)
          refine bR [0,1,2,3,4,5,6] ?_;exact aY (k+1) ⟨by omega,i2⟩ (by show body.length-(k+1)<body.length-k;omega)
    · rw[List.drop_of_length_le (by omega)]at i2
      have i2:rE=0:=by rw[i2];rfl
      have mb:∀x∈body,right t n x=true:=A' (hE.symm.trans i2);clear hE;rw[if_pos i2]at hV;subst i2 hV
      repeat(first|refine GA ?_|refine gV (aE (i:=6) ak.ty rfl rfl rfl) ?_)
      refine aM (yG aj.en rfl rfl rfl rfl) (fun w hm=>xX _ _ _ _ _ w hm.below (jo (i:=1) rfl w hm) (jo (i:=2) rfl w hm) (fun x hx=>by have:=lK (mb x hx);omega)) rfl rfl rfl ?_;intro _ _
      try refine GA ?_
      exact sv rfl rfl rfl fun w hm=>hm.ret
  · have Mr:=fun w' (hg:Gr w w')=>JD v g w' (h.gr hg) c0
    have hE:oE g body=bM g:=by unfold oE;rw[if_pos c0]
    have hV:ui g body behind=0:=by unfold ui;rw[hE,if_neg c0]
    rw[hE,hV];obtain⟨vp,rfl,h1,_⟩:=h;obtain⟨bb,cb,rfl,_⟩:=hs;generalize bM g=e at*;obtain⟨t,n,ag⟩:=g;dsimp only at*;refine enter (args:=[cH t n vp,.slice bb body.length cb,ed behind]) (n:=71) Tryz.func31 rfl rfl rfl ?_;refine bJ (aV (bK rfl rfl rfl fun g3=>?_))
    repeat(first|refine GA ?_|refine gV (aE (i:=0) ak.ty rfl rfl rfl) ?_)
    refine aM (iT aj.en rfl rfl) (fun w hm=>Mr _ hm.below) rfl rfl rfl ?_;intro _ _
    try refine GA ?_
    refine aF rfl fun g8=>?_;refine fU 1 ?_
    try refine GA ?_
    exact sv rfl rfl rfl fun w hm=>hm.ret
end bH
namespace bH
open Go.RowKit bL db av dj
theorem Ms:laidOutB Tryz.prog=true:=by kernel_rfl
theorem HO:(82:TypeId)<Tryz.prog.types.size:=of_decide_eq_true (by kernel_rfl)
theorem Mt:(match Tryz.prog.underlying 82 with|some (.array _ _)|some (.struct _)=>true|_=>false)=true:=by kernel_rfl
def tJ(x:Span):Value:= .agg #[.int .i64 x.1,.int .i64 x.2.1,.int .i64 x.2.2]
theorem Mu(x:Span)(h:bL.bX x.1/\bL.bX x.2.1/\bL.bX x.2.2):∃l,keyOf Tryz.prog 82 (tJ x)=some l:=by
 obtain⟨a,b,c⟩:=x;obtain⟨h1,h2,h3⟩:=h;have e1:Tryz.prog.keyType 82=true:=by kernel_rfl
 have e2:Tryz.prog.cellsOf 82=3:=by kernel_rfl
 have e3:Tryz.prog.cellsOf 3=1:=by kernel_rfl
 have e4:∃d,Tryz.prog.types.size+1=d+2:=⟨Tryz.prog.types.size-1,by have:0<Tryz.prog.types.size:=Nat.lt_of_le_of_lt (Nat.zero_le 82) HO;omega⟩;obtain⟨d,e4⟩:=e4;have key:∀n:Int,bL.bX n->Tryz.prog.keyLits (d+1) 3 [.int .i64 n]=some [.int .i64 n]:=fun n hn=>by
  have hw:(Lit.int .i64 n).wf=true:=by
   have h0: -9223372036854775808<=n:=hn.1;have h1:n<=9223372036854775807:=hn.2;simp[Lit.wf,IntKind.min,IntKind.max,IntKind.signed,IntKind.bits,h0,h1]
  simp[Program.keyLits,Tryz.underlying3,hw]
 refine⟨.string (keyBytes ([.int .i64 a,.int .i64 b,.int .i64 c])),?_⟩;have hl:Tryz.prog.keyLits (d+2) 82 [.int .i64 a,.int .i64 b,.int .i64 c]=some [.int .i64 a,.int .i64 b,.int .i64 c]:=by
  unfold Program.keyLits;simp[Tryz.underlying82,e2,e3,key _ h1,key _ h2,key _ h3]
 have hf:(tJ (a,b,c)).formed Tryz.prog 82=true:=by simp[tJ,Value.formed,Tryz.underlying82,e2]
 unfold keyOf;rw[Tryz.underlying82];show(if(Tryz.prog.keyType 82&&(tJ (a,b,c)).formed Tryz.prog 82)=true then(Tryz.prog.keyLits (Tryz.prog.types.size+1) 82 [.int .i64 a,.int .i64 b,.int .i64 c]).map (fun ls=>Lit.string (keyBytes ls))else none)=_
 rw[e1,hf,e4,hl];rfl
set_option maxRecDepth 100000 in
def pY:qi Tryz.prog 82 Span where
  kv:=tJ
  ok x:=bL.bX x.1/\bL.bX x.2.1/\bL.bX x.2.2
  law:=deep_law_laid Ms (m:=2) (by omega) HO (by kernel_rfl) Mt
  key:=Mu
  inj x y h:=by
    obtain⟨a,b,c⟩:=x;obtain⟨a',b',c'⟩:=y;simp only[tJ,Value.agg.injEq,Array.mk.injEq,List.cons.injEq,Value.int.injEq,true_and,and_true]at h;simp[h]
theorem rR(w:World):(zeroValue 3).run Tryz.prog w= .ok (.int .i64 0) w:=by kernel_rfl
theorem Bc{m:Int}{a b:Nat}(h:bL.bX m)(ha:a<=9223372036854775807)(hb:b<=9223372036854775807):pY.ok (m,(a:Int),(b:Int)):=by
 show bL.bX m/\bL.bX (a:Int)/\bL.bX (b:Int)
 exact⟨h,⟨by omega,by omega⟩,⟨by omega,by omega⟩⟩
def wX(gm:Nat)(c:dE)(B:Nat):bz:=jV pY gm (.int .i64 0) (fun x=> .int .i64 (c x:Int)) B
def Be(t n:Int)(vp vw:Value)(gm:Nat):Array Value:=#[.int .i64 t,.int .i64 n,vp,vw,.map (some gm)]
structure VU(w:World)(gc gm:Nat)(t n:Int)(vp vw:Value)(word:List Int)(c:dE)(B:Nat):Prop where
 cell:w.heap[gc]?=some (.cells (Be t n vp vw gm) 78 (0,0))
 map:(wX gm c B).holds w
 word:Sl w vw word.length (word.map (.int .i64))
theorem VU.gr{w w':World}{gc gm:Nat}{t n:Int}{vp vw:Value}{word:List Int}{c:dE}{B:Nat}(h:VU w gc gm t n vp vw word c B)(hg:Gr w w'):VU w' gc gm t n vp vw word c B:=
 ⟨(hg.block gc (Array.getElem?_eq_some_iff.1 h.cell).1).trans h.cell,(wX gm c B).stay w w' h.map hg.size fun k hk=>hg.block k ((wX gm c B).lt w h.map k hk),h.word.gr hg⟩
theorem Bf(m:Int)(w:World):Calls Tryz.prog 77 #[.int .i64 m] w (bU (ret (.int .i64 (min m 2))) w):=by
 refine enter (args:=[.int .i64 m]) (n:=5) Tryz.func77 rfl rfl rfl ?_
 repeat(first|refine GC ?_|refine gV (EE rfl rfl rfl) ?_|refine GB ?_)
 exact da
theorem Dh{t:Int}{l:List Int}{k:Nat}(h:k<l.length):mZ t (l.drop k)=if l[k]<0 then 1 else if t<=l[k]then 1 else mZ t (l.drop (k+1)):=by
 rw[List.drop_eq_getElem_cons h,mZ]
theorem FE{W:World}{L:List bz}{b off:Nat}{l:List Int}(h:Rd W b off (l.map (.int .i64))){k:Nat}(hk:k<l.length):At W L ⟨b,off+k,none⟩ (.int .i64 l[k]):=iD h (by simp[hk])
theorem Bg(v vw:Value)(g:df)(word:List Int)(w:World)(h:jf (fun k=>k<w.heap.size) w v g)(hs:Sl w vw word.length (word.map (.int .i64))):
    Calls Tryz.prog 15 #[v,vw] w (bU (ret (.int .i64 (gd g word))) w):=by
  have gD:=fun w' (hg:Gr w w')=>e_ v g w' (h.gr hg);obtain⟨vp,rfl,_,_⟩:=h;obtain⟨bw,cw,rfl,h1,h2,h3⟩:=hs;unfold maxLen at h2;have hE:gd g word=if bM g≠0 then bM g else if 20<word.length then 2 else mZ g.aJ word:=rfl
  generalize gd g word=e at*;generalize bM g=c at*;obtain⟨t,n,ag⟩:=g;dsimp only at*;refine enter (args:=[cH t n vp,.slice bw word.length cw]) (n:=31) Tryz.func15 rfl rfl rfl ?_;refine bJ (aV (bK rfl rfl rfl fun g2=>?_))
  repeat(first|refine GA ?_|refine gV (aE (i:=0) ak.ty rfl rfl rfl) ?_)
  refine aM (iT aj.en rfl rfl) (fun w hm=>gD _ hm.below) rfl rfl rfl ?_;intro _ _
  by_cases c0:c=0
  · rw[if_neg (by simpa using c0)]at hE
    by_cases c1:20<word.length
    · rw[if_pos c1]at hE
      subst hE
      try refine GA ?_
      exact da
    rw[if_neg c1]at hE;refine zL ?_
    try refine GA ?_
    refine cX (ι:=Nat) (fun k=>k<=word.length/\e=mZ t (word.drop k)) (fun k=>[(2,.pointer (some ⟨g2,0,none⟩)),(16,.slice bw word.length cw),(17,.int .i64 word.length),(18,.int .i64 (k:Int))])
      (fun _=>[ap g2 (cH t n vp).cells 33]) (fun k=>word.length-k) 0 ⟨Nat.zero_le _,hE⟩ ?_
    clear hE gD;rintro k ⟨i1,i2⟩
    by_cases c6:k<word.length
    · obtain⟨b,off,rfl,hr⟩:=h3 (by omega)
      have du:=fun L=>FE (L:=L) hr c6;rw[Dh c6]at i2;generalize word[k]=x at*
      by_cases c7:x<0
      · rw[if_pos c7]at i2
        subst i2
        repeat(first|refine GA ?_|refine gV (aO aT.eq ak.ty rfl rfl c6) ?_|refine gV (J ak.ty rfl (du _)) ?_|refine gV (J ak.ty rfl (ah (i:=0) rfl rfl)) ?_)
        exact da
      rw[if_neg c7]at i2
      by_cases c8:t<=x
      · rw[if_pos c8]at i2
        subst i2
        repeat(first|refine GA ?_|refine gV (aO aT.eq ak.ty rfl rfl c6) ?_|refine gV (J ak.ty rfl (du _)) ?_|refine gV (J ak.ty rfl (ah (i:=0) rfl rfl)) ?_)
        exact da
      rw[if_neg c8]at i2
      repeat(first|refine GA ?_|refine gV (aO aT.eq ak.ty rfl rfl c6) ?_|refine gV (J ak.ty rfl (du _)) ?_|refine gV (J ak.ty rfl (ah (i:=0) rfl rfl)) ?_)
      exact aY (k+1) ⟨by omega,i2⟩ (by show word.length-(k+1)<word.length-k;omega)
    · rw[List.drop_of_length_le (by omega)]at i2
      have i2:e=0:=i2;subst i2
      try refine GA ?_
      exact da
  · rw[if_pos (by simpa using c0)]at hE
    subst hE
    try refine GA ?_
    exact da
theorem qE(a b c:Int)(w:World):(Instr.build 82 #[(0,.int .i64 a),(1,.int .i64 b),(2,.int .i64 c)]).run Tryz.prog w= .ok (tJ (a,b,c)) w:=by
 unfold tJ
 go_simp
attribute [local irreducible] Instr.build in
theorem JE(gc gm:Nat)(t n:Int)(vp vw:Value)(word:List Int)(c:dE)(B:Nat)(x:bY)(a b:Nat)(w:World)(h:VU w gc gm t n vp vw word c B)(hx:bL.bX x.2)(lF:a<=b)(hb:b<=word.length)(hw:word.length<=20):
    Calls Tryz.prog 85 #[.pointer (some ⟨gc,0,none⟩),.agg (dv x).toArray,.int .i64 (a:Int),.int .i64 (b:Int)] w (bU (ret (.int .i64 (dX c word x a b:Nat))) w):=by
  obtain⟨hc,VV,hs⟩:=h;have h3:∀(L:List bz),At w L ⟨gc,3,none⟩ vw:=fun L=>iv (by rw[cell_of_row w gc 3 _ _ _ hc];rfl);have h4:∀(L:List bz),At w L ⟨gc,4,none⟩ (.map (some gm)):=fun L=>iv (by rw[cell_of_row w gc 4 _ _ _ hc];rfl);have BU:∀(L:List bz) w',Mem w L w'->(wX gm c B).holds w':=fun L w' hm=>(wX gm c B).stay w w' VV hm.below.size fun k hk=>hm.below.block k ((wX gm c B).lt w VV k hk);obtain⟨bw,cw,rfl,h5,h6,h7⟩:=hs;unfold maxLen at h6;obtain⟨q,m⟩:=x;dsimp only at hx;refine enter (args:=[.pointer (some ⟨gc,0,none⟩),.agg (dv (q,m)).toArray,.int .i64 (a:Int),.int .i64 (b:Int)]) (n:=38) Tryz.func85 rfl rfl rfl ?_;refine bJ (aV (bK rfl rfl rfl fun g5=>?_));unfold dX;dsimp only
  by_cases c1:q=2
  · rw[if_pos c1]
    repeat(first|refine GA ?_|refine gV (J ak.ty rfl (ah (i:=0) rfl rfl)) ?_)
    refine dw ([ap g5 (dv (q,m)).toArray 128]) (.calm 0 (.calm 1 (.calm 2 (.calm 3 (.calm 4 (.calm 5 (.calm 6 (.calm 7 (.calm 8 (.calm 9 (.calm 10 (.done)))))))))))) (fun _ h=>h) ?_
    repeat(first|refine GW ?_|(refine GN ?_;first|refine QW (J ak.ty rfl (ah (i:=0) rfl rfl)) ?_|refine QW (J ak.ty rfl (h4 _)) ?_|refine QW (aU rfl (qE _ _ _)) ?_|refine QW (vH (x:=(m,(a:Int),(b:Int))) pY aT.eq rR (BU _) rfl rfl (Bc hx (by omega) (by omega)) rfl) ?_))
    try refine GA ?_
    exact da
  · rw[if_neg c1]
    by_cases c2:b=a+1
    · have hlt:a<word.length:=by omega
      obtain⟨b',off,rfl,hr⟩:=h7 (by omega);have du:=fun L=>FE (L:=L) hr hlt;rw[List.getElem?_eq_getElem hlt];generalize word[a]=y at*
      by_cases c3:y=m
      · rw[if_pos ⟨c2,by rw[c3]⟩]
        repeat(first|refine GA ?_|refine gV (J ak.ty rfl (ah (i:=0) rfl rfl)) ?_)
        refine dw ([ap g5 (dv (q,m)).toArray 128]) (.calm 0 (.calm 1 (.calm 2 (.calm 3 (.calm 4 (.calm 5 (.calm 6 (.calm 7 (.calm 8 (.calm 9 (.calm 10 (.calm 11 (.calm 12 (.calm 13 (.calm 14 (.calm 15 (.done))))))))))))))))) (fun _ h=>h) ?_
        repeat(first|refine GW ?_|(refine GN ?_;first|refine QW (J ak.ty rfl (ah (i:=0) rfl rfl)) ?_|refine QW (J ak.ty rfl (h3 _)) ?_|refine QW (J ak.ty rfl (du _)) ?_|refine QW (aO aT.eq ak.ty rfl rfl hlt) ?_))
        try refine GA ?_
        exact da
      · rw[if_neg (fun h=>c3 (by simpa using h.2))]
        repeat(first|refine GA ?_|refine gV (J ak.ty rfl (ah (i:=0) rfl rfl)) ?_)
        refine dw ([ap g5 (dv (q,m)).toArray 128]) (.calm 0 (.calm 1 (.calm 2 (.calm 3 (.calm 4 (.calm 5 (.calm 6 (.calm 7 (.calm 8 (.calm 9 (.calm 10 (.calm 11 (.calm 12 (.calm 13 (.calm 14 (.calm 15 (.done))))))))))))))))) (fun _ h=>h) ?_
        repeat(first|refine GW ?_|(refine GN ?_;first|refine QW (J ak.ty rfl (ah (i:=0) rfl rfl)) ?_|refine QW (J ak.ty rfl (h3 _)) ?_|refine QW (J ak.ty rfl (du _)) ?_|refine QW (aO aT.eq ak.ty rfl rfl hlt) ?_))
        try refine GA ?_
        exact da
    · rw[if_neg (fun h=>c2 h.1)]
      repeat(first|refine GA ?_|refine gV (J ak.ty rfl (ah (i:=0) rfl rfl)) ?_)
      refine dw ([ap g5 (dv (q,m)).toArray 128]) (.calm 0 (.calm 1 (.calm 2 (.calm 3 (.calm 4 (.calm 5 (.calm 6 (.calm 7 (.calm 8 (.calm 9 (.calm 10 (.calm 11 (.calm 12 (.calm 13 (.calm 14 (.calm 15 (.done))))))))))))))))) (fun _ h=>h) ?_
      repeat(first|refine GW ?_|(refine GN ?_;first|refine QW (J ak.ty rfl (ah (i:=0) rfl rfl)) ?_))
      try refine GA ?_
      exact da
end bH
namespace aX
open av dg bT
abbrev Item:=Int×Int×Int
def oF(a b:Int):Int:=if a<b then-1 else if b<a then 1 else 0
def Di(a b:Item):Int:=if oF a.1 b.1≠0 then oF a.1 b.1 else if oF a.2.1 b.2.1≠0 then oF a.2.1 b.2.1 else oF a.2.2 b.2.2
def FF(a b:Item):Bool:=decide (Di a b<0)
theorem HP(a b:Item):FF a b=true↔a.1<b.1\/(a.1=b.1/\(a.2.1<b.2.1\/(a.2.1=b.2.1/\a.2.2<b.2.2))):=by
 unfold FF Di oF;rw[decide_eq_true_eq]
 repeat' split
 all_goals omega
theorem FH(a b:Item):FF a b=false↔¬(a.1<b.1\/(a.1=b.1/\(a.2.1<b.2.1\/(a.2.1=b.2.1/\a.2.2<b.2.2)))):=by
 rw[<-HP,Bool.not_eq_true]
def Ev(a b:Item):Bool:=!FF b a
theorem uL(a b:Item):Ev a b=true↔¬(b.1<a.1\/(b.1=a.1/\(b.2.1<a.2.1\/(b.2.1=a.2.1/\b.2.2<a.2.2)))):=by
 unfold Ev;rw[Bool.not_eq_true',FH]
theorem JF(a b c:Item)(h1:Ev a b=true)(h2:Ev b c=true):Ev a c=true:=by
 rw[uL]at*;omega
theorem JG(a b:Item):(Ev a b||Ev b a)=true:=by
 rw[Bool.or_eq_true,uL,uL];omega
theorem Dj{a b:Item}(h1:Ev a b=true)(h2:Ev b a=true):a=b:=by
 rw[uL]at*;obtain⟨a1,a2,a3⟩:=a;obtain⟨b1,b2,b3⟩:=b;dsimp only at h1 h2;rw[Prod.mk.injEq,Prod.mk.injEq];omega
theorem JH(x y:Item)(h1:FF x y=false)(h2:FF y x=false):x=y:=Dj (by unfold Ev;rw[h2];rfl) (by unfold Ev;rw[h1];rfl)
def Td(l:List Item):Prop:=l.Pairwise fun a b=>FF a b=true
theorem HQ(a:Item):FF a a=false:=by rw[FH];omega
theorem Te{a b c:Item}(h1:FF a b=true)(h2:FF b c=true):FF a c=true:=by
 rw[HP]at*;omega
theorem JI{l:List Item}(h:Td l):l.Nodup:=h.imp fun {a b} lF e=>by subst e;rw[HQ]at lF;cases lF
def oH(l:List Item):List Item:=l.mergeSort Ev
theorem Mv{l:List Item}{x:Item}:x∈oH l↔x∈l:=(List.mergeSort_perm l Ev).mem_iff
theorem Dk(l:List Item):(oH l).length=l.length:=List.length_mergeSort _
theorem Mw{l:List Item}(h:l.Nodup):Td (oH l):=by
 have h1:(oH l).Pairwise fun a b=>Ev a b=true:=List.pairwise_mergeSort JF JG l;have h2:(oH l).Nodup:=(List.mergeSort_perm l Ev).nodup_iff.2 h;refine(h1.and h2).imp fun {a b} lF=>?_
 cases e:FF a b with
 |true=>rfl
 |false=>exact absurd (Dj lF.1 (by unfold Ev;rw[e];rfl)) lF.2
section
variable(l:List av.Prod)(T:Nat)(lk:Int->Int->Nat)
def cU(p:Int):List bY:=if p=(l.length:Int)then [(2,0)]else(aQ l p).2
def iH(it:Item):Option bY:=(cU l it.1)[it.2.1.toNat]?
def jZ(it:Item):Nat:=if(lk it.1 it.2.1).testBit 62=true then(lk it.1 it.2.1^^^2^62)|||2^it.2.2.toNat else lk it.1 it.2.1
def dH(i:Nat)(bits:Nat)(out:List Item):Nat->List Item
 |0=>out
 |k+1=>if bits.testBit k=true then more (dH i bits out k) ((i:Int),0,(k:Int))else dH i bits out k
def dI(N:Int)(bits:Nat)(out:List Item):Nat->List Item
 |0=>out
 |i+1=>if(aQ l (i:Int)).1=N then dH i bits (dI N bits out i) (T+1)else dI N bits out i
def oI(it:Item)(out:List Item):List Item:=match iH l it with
 |some x=>if x.1=2 then dI l T x.2 (jZ lk it) out l.length else out
 |none=>out
def nG:Nat->Nat->List Item->List Item
 |0,_,out=>out
 |f+1,n,out=>if n<out.length then nG f (n+1) (oI l T lk (out.getD n (0,0,0)) out)else out
def fR(l0:List Item):List Item:=oH (nG l T lk 12000 0 (cg [] l0))
def yf(it x:Item):Prop:=∃N:Int,∃i k:Nat,iH l it=some (2,N)/\i<l.length/\(aQ l (i:Int)).1=N/\k<=T/\(jZ lk it).testBit k=true/\x=((i:Int),0,(k:Int))
inductive Cl(l0:List Item):Item->Prop
 |base {x:Item} (h:x∈l0):Cl l0 x
 |step {it x:Item} (h:Cl l0 it) (hx:yf l T lk it x):Cl l0 x
def cL(it:Item):Prop:=0<=it.1/\it.1<=(l.length:Int)/\0<=it.2.1/\it.2.1<=((cU l it.1).length:Int)/\0<=it.2.2/\it.2.2<=(T:Int)
end
section
variable{l:List av.Prod}{T:Nat}{lk:Int->Int->Nat}
theorem oJ{i bits:Nat}{out:List Item}{x:Item}:∀k,x∈dH i bits out k↔x∈out\/∃j,j<k/\bits.testBit j=true/\x=((i:Int),0,(j:Int))
  |0=>⟨.inl,fun h=>h.elim id fun⟨j,hj,_⟩=>absurd hj (Nat.not_lt_zero j)⟩
  | k + 1 =>by
    rw[dH]
    by_cases c:bits.testBit k=true
    · rw[if_pos c,n9,oJ k]
      constructor
      · rintro((h|⟨j,h1,h2⟩)|h)
        · exact .inl h
        · exact .inr ⟨j,by omega,h2⟩
        · exact .inr ⟨k,by omega,c,h⟩
      · rintro(h|⟨j,h1,h2,h3⟩)
        · exact .inl (.inl h)
        · by_cases e:j=k
          · subst e;exact .inr h3
          · exact .inl (.inr ⟨j,by omega,h2,h3⟩)
    · rw[if_neg c,oJ k]
      constructor
      · rintro(h|⟨j,h1,h2⟩)
        · exact .inl h
        · exact .inr ⟨j,by omega,h2⟩
      · rintro(h|⟨j,h1,h2,h3⟩)
        · exact .inl h
        · by_cases e:j=k
          · subst e;exact absurd h2 c
          · exact .inr ⟨j,by omega,h2,h3⟩
theorem tK(i bits:Nat)(out:List Item):∀k,∃E,dH i bits out k=out++E
  |0=>⟨[],(List.append_nil _).symm⟩
  | k +1=>by
    rw[dH];obtain⟨E,h⟩:=tK i bits out k;split
    · obtain⟨E2,h2⟩:=vP (dH i bits out k) (((i:Int),0,(k:Int)):Item)
      exact⟨E++E2,by rw[h2,h,List.append_assoc]⟩
    · exact⟨E,h⟩
theorem l4{i bits:Nat}{out:List Item}(h:out.Nodup):∀k,(dH i bits out k).Nodup
 |0=>h
 |k+1=>by
  rw[dH];split
  ·exact vU (l4 h k)
  ·exact l4 h k
theorem oK{N:Int}{bits:Nat}{out:List Item}{x:Item}:∀n,x∈dI l T N bits out n↔x∈out\/∃i k:Nat,i<n/\(aQ l (i:Int)).1=N/\k<=T/\bits.testBit k=true/\x=((i:Int),0,(k:Int))
  |0=>⟨.inl,fun h=>h.elim id fun⟨j,_,hj,_⟩=>absurd hj (Nat.not_lt_zero j)⟩
  | n + 1 =>by
    rw[dI]
    by_cases c:(aQ l (n:Int)).1=N
    · rw[if_pos c,oJ,oK n]
      constructor
      · rintro((h|⟨i,k,h1,h2⟩)|⟨j,h1,h2,h3⟩)
        · exact .inl h
        · exact .inr ⟨i,k,by omega,h2⟩
        · exact .inr ⟨n,j,by omega,c,by omega,h2,h3⟩
      · rintro(h|⟨i,k,h1,h2,h3,h4,h5⟩)
        · exact .inl (.inl h)
        · by_cases e:i=n
          · subst e;exact .inr ⟨k,by omega,h4,h5⟩
          · exact .inl (.inr ⟨i,k,by omega,h2,h3,h4,h5⟩)
    · rw[if_neg c,oK n]
      constructor
      · rintro(h|⟨i,k,h1,h2⟩)
        · exact .inl h
        · exact .inr ⟨i,k,by omega,h2⟩
      · rintro(h|⟨i,k,h1,h2,h3⟩)
        · exact .inl h
        · by_cases e:i=n
          · subst e;exact absurd h2 c
          · exact .inr ⟨i,k,by omega,h2,h3⟩
theorem oL(N:Int)(bits:Nat)(out:List Item):∀n,∃E,dI l T N bits out n=out++E
  |0=>⟨[],(List.append_nil _).symm⟩
  | n +1=>by
    rw[dI];obtain⟨E,h⟩:=oL N bits out n;split
    · obtain⟨E2,h2⟩:=tK n bits (dI l T N bits out n) (T+1)
      exact⟨E++E2,by rw[h2,h,List.append_assoc]⟩
    · exact⟨E,h⟩
theorem l5{N:Int}{bits:Nat}{out:List Item}(h:out.Nodup):∀n,(dI l T N bits out n).Nodup
 |0=>h
 |n+1=>by
  rw[dI];split
  ·exact l4 (l5 h n) _
  ·exact l5 h n
theorem uM{it:Item}{out:List Item}{x:Item}:x∈oI l T lk it out↔x∈out\/yf l T lk it x:=by
  unfold oI yf
  cases e:iH l it with
  |none=>exact⟨.inl,fun h=>h.elim id fun⟨_,_,_,h,_⟩=>by cases h⟩
  | some s=>
    obtain⟨k,N⟩:=s;dsimp only
    by_cases c:k=2
    · subst c
      rw[if_pos rfl,oK]
      constructor
      · rintro(h|⟨i,j,h1,h2,h3,h4,h5⟩)
        · exact .inl h
        · exact .inr ⟨N,i,j,rfl,h1,h2,h3,h4,h5⟩
      · rintro(h|⟨N',i,j,h0,h1,h2,h3,h4,h5⟩)
        · exact .inl h
        · simp only[Option.some.injEq,Prod.mk.injEq,true_and]at h0
          subst h0;exact .inr ⟨i,j,h1,h2,h3,h4,h5⟩
    · rw[if_neg c]
      refine⟨.inl,fun h=>h.elim id fun⟨N',_,_,h,_⟩=>?_⟩;simp only[Option.some.injEq,Prod.mk.injEq]at h;exact absurd h.1 c
theorem Pz(it:Item)(out:List Item):∃E,oI l T lk it out=out++E:=by
 unfold oI;split
 ·split
  ·exact oL _ _ _ _
  ·exact⟨[],(List.append_nil _).symm⟩
 ·exact⟨[],(List.append_nil _).symm⟩
theorem JJ{it:Item}{out:List Item}(h:out.Nodup):(oI l T lk it out).Nodup:=by
 unfold oI;split
 ·split
  ·exact l5 h _
  ·exact h
 ·exact h
theorem iZ{p:Int}(hw:∀q∈l,q.2.length<=8):(cU l p).length<=8:=by
 unfold cU;split
 ·decide
 ·unfold aQ
  rw[List.getD_eq_getElem?_getD]
  cases e:l[p.toNat]? with
  |none=>exact Nat.zero_le _
  |some q=>exact hw q (List.mem_of_getElem? e)
theorem JK{it x:Item}(h:yf l T lk it x):cL l T x:=by
 obtain⟨N,i,k,_,h2,_,h4,_,rfl⟩:=h;exact⟨by dsimp only;omega,by dsimp only;omega,Int.le_refl _,by dsimp only;omega,by dsimp only;omega,by dsimp only;omega⟩
theorem rS{l0:List Item}(h0:∀x∈l0,cL l T x){x:Item}(h:Cl l T lk l0 x):cL l T x:=by
 cases h with
 |base h=>exact h0 x h
 |step _ hx=>exact JK hx
theorem sZ{out:List Item}(hw:∀q∈l,q.2.length<=8)(hl:l.length<=40)(hT:T<=30)(hn:out.Nodup)(hr:∀x∈out,cL l T x):out.length<=11439:=by
 have:=jL (l:=out.map fun x:Item=>x.1.toNat*279+x.2.1.toNat*31+x.2.2.toNat) (m:=11439) ?_ ?_
 ·rwa [List.length_map]at this
 ·rw[List.nodup_iff_pairwise_ne,List.pairwise_map]
  refine(List.Pairwise.and_mem.1 hn).imp fun {a b} lF e=>lF.2.2 ?_;have ha:=hr a lF.1;have hb:=hr b lF.2.1;have ha8:=iZ (p:=a.1) hw;have XI:=iZ (p:=b.1) hw;unfold cL at ha hb;obtain⟨a1,a2,a3⟩:=a;obtain⟨b1,b2,b3⟩:=b;dsimp only at*;rw[Prod.mk.injEq,Prod.mk.injEq];omega
 ·intro x hx
  obtain⟨a,ha,rfl⟩:=List.mem_map.1 hx;have h1:=hr a ha;have h8:=iZ (p:=a.1) hw;unfold cL at h1;omega
structure UA(l:List av.Prod)(T:Nat)(lk:Int->Int->Nat)(l0:List Item)(n:Nat)(out:List Item):Prop where
 nd:out.Nodup
 le:n<=out.length
 has:∀x∈l0,x∈out
 cl:∀x∈out,Cl l T lk l0 x
 shut:∀j (h:j<out.length),j<n->∀x,yf l T lk out[j] x->x∈out
theorem HR{l0:List Item}{n:Nat}{out:List Item}(h:UA l T lk l0 n out)(hn:n<out.length):UA l T lk l0 (n+1) (oI l T lk out[n] out):=by
 obtain⟨E,hE⟩:=Pz (l:=l) (T:=T) (lk:=lk) out[n] out;have hlen:out.length<=(oI l T lk out[n] out).length:=by rw[hE,List.length_append];omega
 have lY:∀j (h:j<out.length),(oI l T lk out[n] out)[j]'(by omega)=out[j]:=fun j hj=>by
  simp only[hE,List.getElem_append_left hj]
 refine⟨JJ h.nd,by omega,fun x hx=>uM.2 (.inl (h.has x hx)),fun x hx=>?_,fun j hj UU x hx=>?_⟩
 ·rcases uM.1 hx with h1|h1
  ·exact h.cl x h1
  ·exact .step (h.cl _ (List.getElem_mem hn)) h1
 ·have k9:j<out.length:=by omega
  rw[lY j k9]at hx
  by_cases e:j=n
  ·subst e;exact uM.2 (.inr hx)
  ·exact uM.2 (.inl (h.shut j k9 (by omega) x hx))
theorem wY{l0:List Item}(hw:∀q∈l,q.2.length<=8)(hl:l.length<=40)(hT:T<=30)(h0:∀x∈l0,cL l T x):∀(f n:Nat) (out:List Item),11440<=f+n->UA l T lk l0 n out->UA l T lk l0 (nG l T lk f n out).length (nG l T lk f n out)
  | 0,n,out,hf,h=>by
    have:=sZ hw hl hT h.nd fun x hx=>rS h0 (h.cl x hx);have:=h.le;omega
  | f +1,n,out,hf,h=>by
    rw[nG]
    by_cases c:n<out.length
    · rw[if_pos c,List.getD_eq_getElem?_getD,List.getElem?_eq_getElem c,Option.getD_some]
      exact wY hw hl hT h0 f (n+1) _ (by omega) (HR h c)
    · rw[if_neg c]
      have:=h.le;rw[show out.length=n by omega];exact h
theorem wZ(l0:List Item):UA l T lk l0 0 (cg [] l0):=
 ⟨mW l0 [] List.nodup_nil,Nat.zero_le _,fun x hx=>gK.2 (.inr hx),fun x hx=> .base ((gK.1 hx).resolve_left (by simp)),fun j _ h=>absurd h (Nat.not_lt_zero j)⟩
section
variable(hw:∀q∈l,q.2.length<=8)(hl:l.length<=40)(hT:T<=30)
include hw hl hT
theorem dV{l0:List Item}(h0:∀x∈l0,cL l T x){x:Item}:x∈fR l T lk l0↔Cl l T lk l0 x:=by
 unfold fR;rw[Mv];have h:=wY (lk:=lk) hw hl hT h0 12000 0 _ (by omega) (wZ l0);refine⟨h.cl x,fun hx=>?_⟩
 induction hx with
 |base hb=>exact h.has _ hb
 |step _ hx ih=>
  obtain⟨j,hj,rfl⟩:=List.mem_iff_getElem.1 ih;exact h.shut j hj hj _ hx
theorem FI{l0:List Item}(h0:∀x∈l0,cL l T x):Td (fR l T lk l0):=
 Mw (wY (lk:=lk) hw hl hT h0 12000 0 _ (by omega) (wZ l0)).nd
theorem fc{l0:List Item}(h0:∀x∈l0,cL l T x):∀x∈fR l T lk l0,cL l T x:=fun _ hx=>rS h0 ((dV hw hl hT h0).1 hx)
theorem np{l0:List Item}(h0:∀x∈l0,cL l T x):(fR l T lk l0).length<=11439:=
 sZ hw hl hT (JI (FI hw hl hT h0)) (fc hw hl hT h0)
end
end
end aX
namespace aX
open av dg bT
def oM(it:Item):Item:=(it.1,it.2.1+1,it.2.2)
section
variable(l:List av.Prod)(T N:Nat)(lk:Int->Int->Nat)
def i_(s:List Item)(x:bY):List Item:=(s.filter fun it=>decide (iH l it=some x)).map oM
def eT(s:List Item)(x:bY):List Item:=fR l T lk (i_ l s x)
def iI:List bY:=(List.range T).map (fun n:Nat=>((1:Int),(n:Int)))++(List.range N).map (fun n:Nat=>((2:Int),(n:Int)))
def fm(S:List (List Item))(s:List Item):Nat×List (List Item):=if s∈S then(idx S s,S)else(S.length,S++[s])
def lL(s:List Item)(x:bY)(S:List (List Item)):Int×List (List Item):=if eT l T lk s x=[]then(-1,S)else(((fm S (eT l T lk s x)).1:Int),(fm S (eT l T lk s x)).2)
def rT(s:List Item):List bY->List Int->List (List Item)->Option (List Int×List (List Item))
 |[],nx,S=>some (nx,S)
 |x::r,nx,S=>if 200<(lL l T lk s x S).2.length then none else rT s r (nx++[(lL l T lk s x S).1]) (lL l T lk s x S).2
def pZ:Nat->Nat->List (List Int)->List (List Item)->Option (List (List Int)×List (List Item))
  |0,_,_,_=>none
  | f +1,n,Nx,S=>if n<S.length then(match rT l T lk (S.getD n []) (iI T N) [] S with
      |none=>none
      |some (nx,S')=>pZ f (n+1) (Nx++[nx]) S')else some (Nx,S)
def ja:List Item:=fR l T lk [((l.length:Int),0,(T:Int))]
def allI:Option (List (List Int)×List (List Item)):=pZ l T N lk 202 0 [] [ja l T lk]
end
theorem rU(T N:Nat):(iI T N).length=T+N:=by unfold iI;rw[List.length_append,List.length_map,List.length_map,List.length_range,List.length_range]
theorem zy{T N k:Nat}(h:k<T):(iI T N)[k]?=some (1,(k:Int)):=by
 unfold iI;rw[List.getElem?_append_left (by simpa using h),List.getElem?_map,List.getElem?_range h];rfl
theorem Dl{T N k:Nat}(h:k<N):(iI T N)[T+k]?=some (2,(k:Int)):=by
 unfold iI;rw[List.getElem?_append_right (by simp),List.length_map,List.length_range,Nat.add_sub_cancel_left,List.getElem?_map,List.getElem?_range h];rfl
section
variable{l:List av.Prod}{T N:Nat}{lk:Int->Int->Nat}
theorem w3{s:List Item}{x:bY}{y:Item}:y∈i_ l s x↔∃it∈s,iH l it=some x/\y=oM it:=by
 unfold i_;rw[List.mem_map]
 constructor
 ·rintro⟨it,h,rfl⟩
  rw[List.mem_filter,decide_eq_true_eq]at h;exact⟨it,h.1,h.2,rfl⟩
 ·rintro⟨it,h1,h2,rfl⟩
  exact⟨it,List.mem_filter.2 ⟨h1,decide_eq_true h2⟩,rfl⟩
theorem fS{s:List Item}{x:bY}(hs:∀it∈s,cL l T it):∀y∈i_ l s x,cL l T y:=by
 intro y hy;obtain⟨it,h1,h2,rfl⟩:=w3.1 hy;have hr:=hs it h1;have hd:=(List.getElem?_eq_some_iff.1 h2).1;unfold cL oM at*;dsimp only;omega
structure Bh(l:List av.Prod)(T:Nat)(lk:Int->Int->Nat)(S:List (List Item)):Prop where
 nd:S.Nodup
 right:∀s∈S,∀it∈s,cL l T it
 shut:∀s∈S,∀it∈s,∀x,yf l T lk it x->x∈s
def w4(l:List av.Prod)(T:Nat)(lk:Int->Int->Nat)(S:List (List Item))(s:List Item)(x:bY)(c:Int):Prop:=
 (eT l T lk s x=[]/\c= -1)\/(eT l T lk s x≠[]/\eT l T lk s x∈S/\c=(idx S (eT l T lk s x):Int))
theorem w4.E_{S:List (List Item)}{s:List Item}{x:bY}{c:Int}(h:w4 l T lk S s x c)(E:List (List Item)):w4 l T lk (S++E) s x c:=by
 rcases h with h|⟨h1,h2,h3⟩
 ·exact .inl h
 ·exact .inr ⟨h1,List.mem_append_left _ h2,by rw[h3,lB h2]⟩
section
variable(hw:∀q∈l,q.2.length<=8)(hl:l.length<=40)(hT:T<=30)
include hw hl hT
omit hw hl hT in
theorem FJ{S:List (List Item)}(hS:Bh l T lk S){s:List Item}(hs:∀it∈s,cL l T it)(ON:∀it∈s,∀x,yf l T lk it x->x∈s):(∃E,(fm S s).2=S++E)/\s∈(fm S s).2/\(fm S s).1=idx (fm S s).2 s/\Bh l T lk (fm S s).2:=by
 unfold fm
 by_cases c:s∈S
 ·rw[if_pos c]
  exact⟨⟨[],(List.append_nil _).symm⟩,c,rfl,hS⟩
 ·rw[if_neg c]
  refine⟨⟨[s],rfl⟩,List.mem_append_right _ (List.mem_singleton.2 rfl),?_,?_,?_,?_⟩
  ·show S.length=idx (S++[s]) s
   have:=mj (D:=S) (k:=s);unfold more at this;rw[if_neg c,if_neg c]at this;exact this.symm
  ·rw[List.nodup_append]
   exact⟨hS.nd,by simp,fun a ha b hb e=>by rw[List.mem_singleton.1 hb]at e;subst e;exact c ha⟩
  ·intro s' sx it hit
   rcases List.mem_append.1 sx with h|h
   ·exact hS.right s' h it hit
   ·rw[List.mem_singleton.1 h]at hit;exact hs it hit
  ·intro s' sx it hit x hx
   rcases List.mem_append.1 sx with h|h
   ·exact hS.shut s' h it hit x hx
   ·rw[List.mem_singleton.1 h]at hit⊢;exact ON it hit x hx
theorem oO{l0:List Item}(h0:∀x∈l0,cL l T x):∀it∈fR l T lk l0,∀x,yf l T lk it x->x∈fR l T lk l0:=fun _ hit _ hx=>
 (dV hw hl hT h0).2 (.step ((dV hw hl hT h0).1 hit) hx)
theorem zz{S:List (List Item)}(hS:Bh l T lk S){s:List Item}(hs:∀it∈s,cL l T it)(x:bY):(∃E,(lL l T lk s x S).2=S++E)/\w4 l T lk (lL l T lk s x S).2 s x (lL l T lk s x S).1/\Bh l T lk (lL l T lk s x S).2:=by
 unfold lL
 by_cases c:eT l T lk s x=[]
 ·rw[if_pos c]
  exact⟨⟨[],(List.append_nil _).symm⟩,.inl ⟨c,rfl⟩,hS⟩
 ·rw[if_neg c]
  obtain⟨h1,h2,h3,h4⟩:=FJ hS (fc (lk:=lk) hw hl hT (fS (x:=x) hs)) (oO hw hl hT (fS (x:=x) hs));exact⟨h1,.inr ⟨c,h2,congrArg _ h3⟩,h4⟩
theorem Dm{s:List Item}(hs:∀it∈s,cL l T it):∀(xs:List bY) (nx:List Int) (S:List (List Item)) (done:List bY) (Mx:List Int) (S':List (List Item)),Bh l T lk S->rT l T lk s xs nx S=some (Mx,S')->S.length<=200->nx.length=done.length->(∀k x,done[k]?=some x->w4 l T lk S s x (nx.getD k 0))->
    (∃E,S'=S++E)/\Bh l T lk S'/\S'.length<=200/\Mx.length=(done++xs).length/\∀k x,(done++xs)[k]?=some x->w4 l T lk S' s x (Mx.getD k 0)
  | [],nx,S,done,Mx,S',hS,h,VW,hlen,hd=>by
    simp only[rT,Option.some.injEq,Prod.mk.injEq]at h;obtain⟨rfl,rfl⟩:=h;rw[List.append_nil];exact⟨⟨[],(List.append_nil _).symm⟩,hS,VW,hlen,hd⟩
  | x ::xs,nx,S,done,Mx,S',hS,h,VW,hlen,hd=>by
    rw[rT]at h
    by_cases c:200<(lL l T lk s x S).2.length
    · rw[if_pos c]at h;cases h
    · rw[if_neg c]at h
      obtain⟨⟨E,h1⟩,h2,h3⟩:=zz (lk:=lk) hw hl hT hS hs x;obtain⟨⟨E2,q1⟩,q2,q3,q4,q5⟩:=Dm hs xs (nx++[(lL l T lk s x S).1]) _ (done++[x]) Mx S' h3 h (by omega) (by rw[List.length_append,List.length_append,hlen];rfl) (fun k y hk=>by
        by_cases ek:k<done.length
        · rw[List.getElem?_append_left ek]at hk
          rw[fy (by omega),h1];exact(hd k y hk).E_ E
        · have jD:=(List.getElem?_eq_some_iff.1 hk).1
          rw[List.length_append,List.length_singleton]at jD;obtain rfl:k=done.length:=by omega
          rw[List.getElem?_append_right (Nat.le_refl _),Nat.sub_self]at hk;simp only[List.getElem?_cons_zero,Option.some.injEq]at hk;subst hk;rw[iy (by omega),hlen,Nat.sub_self];exact h2)
      rw[List.append_assoc,List.singleton_append]at q4 q5;exact⟨⟨E++E2,by rw[q1,h1,List.append_assoc]⟩,q2,q3,q4,q5⟩
structure Dn(l:List av.Prod)(T N:Nat)(lk:Int->Int->Nat)(n:Nat)(Nx:List (List Int))(S:List (List Item)):Prop where
 ss:Bh l T lk S
 xU:S.length<=200
 le:n<=S.length
 len:Nx.length=n
 start:S[0]?=some (ja l T lk)
 wide:∀q,q<n->(Nx.getD q []).length=T+N
 cell:∀q,q<n->∀k x,(iI T N)[k]?=some x->w4 l T lk S (S.getD q []) x ((Nx.getD q []).getD k 0)
theorem Dp:∀(f n:Nat) (Nx:List (List Int)) (S:List (List Item)) (Ry:List (List Int)) (S':List (List Item)),pZ l T N lk f n Nx S=some (Ry,S')->Dn l T N lk n Nx S->Dn l T N lk S'.length Ry S'
  |0,_,_,_,_,_,h,_=>by cases h
  | f + 1,n,Nx,S,Ry,S',h,hi=>by
    rw[pZ]at h
    by_cases c:n<S.length
    · rw[if_pos c]at h
      have lY:S.getD n []=S[n]:=by rw[List.getD_eq_getElem?_getD,List.getElem?_eq_getElem c];rfl
      have hs:∀it∈S.getD n [],cL l T it:=by rw[lY];exact hi.ss.right _ (List.getElem_mem c)
      cases e:rT l T lk (S.getD n []) (iI T N) [] S with
      |none=>rw[e]at h;cases h
      | some r=>
        obtain⟨nx,S1⟩:=r;rw[e]at h;dsimp only at h;obtain⟨⟨E,q1⟩,q2,q3,q4,q5⟩:=Dm (lk:=lk) hw hl hT hs (iI T N) [] S [] nx S1 hi.ss e hi.xU rfl (fun k x hk=>by simp at hk);rw[List.nil_append]at q4 q5;have hlen:=congrArg List.length q1;rw[List.length_append]at hlen;refine Dp f (n+1) _ S1 Ry S' h ⟨q2,q3,by omega,by rw[List.length_append,hi.len];rfl,?_,fun q hq=>?_,fun q hq k x hk=>?_⟩
        · rw[q1,List.getElem?_append_left (by have:=(List.getElem?_eq_some_iff.1 hi.start).1;omega)];exact hi.start
        · by_cases eq:q=n
          · subst eq
            rw[iy (by rw[hi.len];exact Nat.le_refl _),hi.len,Nat.sub_self];show nx.length=T+N
            rw[q4,rU]
          · rw[fy (by rw[hi.len];omega)];exact hi.wide q (by omega)
        · by_cases eq:q=n
          · subst eq
            rw[iy (by rw[hi.len];exact Nat.le_refl _),hi.len,Nat.sub_self];have e1:S1.getD q []=S.getD q []:=by rw[q1,fy c]
            rw[e1];exact q5 k x hk
          · rw[fy (by rw[hi.len];omega)]
            have e1:S1.getD q []=S.getD q []:=by rw[q1,fy (by omega)]
            rw[e1,q1];exact(hi.cell q (by omega) k x hk).E_ E
    · rw[if_neg c]at h
      simp only[Option.some.injEq,Prod.mk.injEq]at h;obtain⟨rfl,rfl⟩:=h;have:n=S.length:=by have:=hi.le;omega
      rw[<-this];exact hi
omit hw in
theorem eb:∀x∈[(((l.length:Int),0,(T:Int)):Item)],cL l T x:=by
 intro x hx;rw[List.mem_singleton.1 hx];exact⟨by dsimp only;omega,Int.le_refl _,Int.le_refl _,by dsimp only;omega,by dsimp only;omega,Int.le_refl _⟩
theorem Dq{Nx:List (List Int)}{S:List (List Item)}(h:allI l T N lk=some (Nx,S)):Dn l T N lk S.length Nx S:=
 Dp hw hl hT 202 0 [] [ja l T lk] Nx S h
  ⟨⟨by simp,fun s hs it hit=>by rw[List.mem_singleton.1 hs]at hit;exact fc (lk:=lk) hw hl hT (eb hl hT) it hit,fun s hs it hit x hx=>by rw[List.mem_singleton.1 hs]at hit⊢;exact oO hw hl hT (eb hl hT) it hit x hx⟩,by simp,Nat.zero_le _,rfl,rfl,fun q hq=>absurd hq (Nat.not_lt_zero q),fun q hq=>absurd hq (Nat.not_lt_zero q)⟩
end
end
def eH(s:List Item):List UInt8:=s.flatMap fun it=>[UInt8.ofNat it.1.toNat,UInt8.ofNat it.2.1.toNat,UInt8.ofNat it.2.2.toNat]
theorem FK{a b:Int}(ha:0<=a/\a<256)(hb:0<=b/\b<256)(h:UInt8.ofNat a.toNat=UInt8.ofNat b.toNat):a=b:=by
 have:=congrArg UInt8.toNat h;rw[UInt8.toNat_ofNat',UInt8.toNat_ofNat']at this;omega
theorem w6:∀{s s':List Item},(∀it∈s,0<=it.1/\it.1<256/\0<=it.2.1/\it.2.1<256/\0<=it.2.2/\it.2.2<256)->(∀it∈s',0<=it.1/\it.1<256/\0<=it.2.1/\it.2.1<256/\0<=it.2.2/\it.2.2<256)->eH s=eH s'->s=s'
  |[],[],_,_,_=>rfl
  |[],b::s',_,_,h=>by simp[eH]at h
  |a::s,[],_,_,h=>by simp[eH]at h
  | a ::s,b::s',h1,h2,h=>by
    have ha:=h1 a (List.mem_cons_self ..);have hb:=h2 b (List.mem_cons_self ..);unfold eH at h;rw[List.flatMap_cons,List.flatMap_cons]at h;simp only[List.cons_append,List.nil_append,List.cons.injEq]at h;obtain⟨e1,e2,e3,e4⟩:=h;have e1:=FK ⟨ha.1,ha.2.1⟩ ⟨hb.1,hb.2.1⟩ e1;have e2:=FK ⟨ha.2.2.1,ha.2.2.2.1⟩ ⟨hb.2.2.1,hb.2.2.2.1⟩ e2;have e3:=FK ⟨ha.2.2.2.2.1,ha.2.2.2.2.2⟩ ⟨hb.2.2.2.2.1,hb.2.2.2.2.2⟩ e3;have e:a=b:=by
      obtain⟨a1,a2,a3⟩:=a;obtain⟨b1,b2,b3⟩:=b;simp only at e1 e2 e3;rw[e1,e2,e3]
    rw[e,w6 (fun it hit=>h1 it (List.mem_cons_of_mem _ hit)) (fun it hit=>h2 it (List.mem_cons_of_mem _ hit)) e4]
end aX
namespace dg
open av dj
abbrev Part:=Tree×Int
def VX(y:bY)(k:Part):Bool:=(decide (y.1=1)==decide (k.2<0))&&!(decide (0<=k.2)&&decide (k.2≠y.2))
def HT:List bY->List Part->Bool
 |y::b,k::r=>VX y k&&HT b r
 |_,_=>true
def My(l:List av.Prod)(P:List Part)(u:Nat)(x:bY):Option (List Part×Nat):=
  if x.1=2/\x.2=(u:Int)then some (P++[(.mk (-1) (u:Int) [],-1)],u+1)
  else if x.1≠4\/x.2<0\/(l.length:Int)<=x.2 then none
  else if P.length<(aQ l x.2).2.length then none
  else if HT (aQ l x.2).2 (P.drop (P.length-(aQ l x.2).2.length))=true then
    some (P.take (P.length-(aQ l x.2).2.length)++[(.mk x.2 0 ((P.drop (P.length-(aQ l x.2).2.length)).map (·.1)),(aQ l x.2).1)],u)
  else none
def yg(l:List av.Prod):List bY->List Part->Nat->Option (List Part×Nat)
  |[],P,u=>some (P,u)
  | x::r,P,u=>match My l P u x with
    |none=>none
    |some (P',u')=>yg l r P' u'
def Kv(l:List av.Prod)(t:Tree):List bY:=if t.prod<0 then [(2,t.tok)]else YA l t
theorem Dr(l:List av.Prod):∀(ks:List Tree) (b:List bY),ks.length=b.length->(pT l ks b).filterMap evU=ks.flatMap (Kv l)
 |[],b,_=>by cases b<;>simp[pT]
 |t::r,[],h=>by simp at h
 | .mk p k kids::r,y::b,h=>by
  have ih:=Dr l r b (by simpa using h);rw[pT,List.flatMap_cons,List.filterMap_append,ih]
  congr 1
  unfold Kv YA;show _=if p<0 then [(2,k)]else _
  split
  ·rfl
  ·rfl
theorem Ds{l:List av.Prod}{n:Int}{ks:List Tree}(h0:0<=n)(h:ks.length=(aQ l n).2.length):Kv l (.mk n 0 ks)=ks.flatMap (Kv l)++[(4,n)]:=by
 unfold Kv YA;rw[if_neg (by show ¬n<0;omega),O9,List.filterMap_cons_none rfl,List.filterMap_append,Dr l _ _ h];rfl
def p5(l:List av.Prod)(t:Tree):Int:=if t.prod<0 then-1 else(aQ l t.prod).1
theorem Dt(l:List av.Prod)(k:Int):Kv l (.mk (-1) k [])=[(2,k)]:=by
 unfold Kv;rw[if_pos (show(Tree.mk (-1) k []).prod<0 by show(-1:Int)<0;decide)];rfl
theorem w7(l:List av.Prod)(k:Int)(ks:List Tree):p5 l (.mk (-1) k ks)= -1:=by
 unfold p5;rw[if_pos (show(Tree.mk (-1) k ks).prod<0 by show(-1:Int)<0;decide)]
theorem w8(l:List av.Prod){p:Int}(h:0<=p)(k:Int)(ks:List Tree):p5 l (.mk p k ks)=(aQ l p).1:=by
 unfold p5;rw[if_neg (show ¬(Tree.mk p k ks).prod<0 from by show ¬p<0;omega)];rfl
theorem HU{l:List av.Prod}(hh:∀p∈l,0<=p.1):∀{ks:List Tree} {b:List bY} {u:Nat},bZ l ks b u->HT b (ks.map fun t=>(t,p5 l t))=true
 |[],[],_,_=>rfl
 | .mk p k kk::ks,y::b,u,h=>by
  rw[bZ]at h;rw[List.map_cons,HT,HU hh h.2,Bool.and_true];have h1:=h.1;rw[eA]at h1;unfold VX;rcases h1 with⟨a1,a2,_⟩|⟨a1,a2,a3,a4,_⟩
  ·subst a2
   rw[w7];simp[a1]
  ·have hm:=hh _ (ep a2 a3)
   rw[w8 l a2];dsimp only;rw[decide_eq_false a1,decide_eq_false (by omega:¬(aQ l p).1<0),a4];simp
 |[],_::_,_,h=>by simp[bZ]at h
 |_::_,[],_,h=>by simp[bZ]at h
mutual
theorem FL{l:List av.Prod}(hh:∀p∈l,0<=p.1):∀{t:Tree} {x:bY} {u:Nat} {P:List Part} {r:List bY},eA l t x u->yg l (Kv l t++r) P u=yg l r (P++[(t,p5 l t)]) (u+leaves t)
  | .mk p k kids,x,u,P,r,h=>by
    rw[eA]at h;rw[leaves];rcases h with⟨a1,a2,a3,a4⟩|⟨a1,a2,a3,a4,a5,a6⟩
    · subst a2 a3 a4
      rw[if_pos (by omega)];rw[Dt,w7];show yg l ((2,(u:Int))::r) P u=_
      rw[yg];unfold My;rw[if_pos ⟨rfl,rfl⟩]
    · subst a5
      have hl:=qq a6;rw[if_neg (by omega),Ds a2 hl,List.append_assoc,HV hh a6];show yg l ((4,p)::r) _ _=_
      rw[yg];have e:(P++kids.map fun t=>(t,p5 l t)).length-(aQ l p).2.length=P.length:=by
        rw[List.length_append,List.length_map];omega
      unfold My;dsimp only;rw[if_neg (by intro h;have:=h.1;omega),if_neg (by omega),if_neg (by rw[List.length_append,List.length_map];omega),e,List.drop_left,if_pos (HU hh a6),List.take_left];dsimp only;rw[w8 l a2,List.map_map];have e2:kids.map ((fun x:Part=>x.1)∘fun t=>(t,p5 l t))=kids:=by
        rw[show((fun x:Part=>x.1)∘fun t=>(t,p5 l t))=id from rfl,List.map_id]
      rw[e2]
theorem HV{l:List av.Prod}(hh:∀p∈l,0<=p.1):∀{ks:List Tree} {b:List bY} {u:Nat} {P:List Part} {r:List bY},bZ l ks b u->yg l (ks.flatMap (Kv l)++r) P u=yg l r (P++ks.map fun t=>(t,p5 l t)) (u+cK ks)
 |[],[],u,P,r,_=>by simp[cK]
 | .mk p k kk::ks,y::b,u,P,r,h=>by
  rw[bZ]at h;rw[List.flatMap_cons,List.append_assoc,FL hh h.1,HV hh h.2,cK,List.map_cons,List.append_assoc,Nat.add_assoc];rfl
 |[],_::_,_,_,_,h=>by simp[bZ]at h
 |_::_,[],_,_,_,h=>by simp[bZ]at h
end
end dg
namespace aX
open av dg dj b9 bT
open ue (ea)
abbrev Act:=Int×Int
section
variable(l:List av.Prod)(T:Nat)
def oP(c:Nat)(it:Item):Option Act:=if it.2.2≠(c:Int)then none else if it.1=(l.length:Int)/\it.2.1=1 then some (3,0)else if it.1<(l.length:Int)/\it.2.1=((aQ l it.1).2.length:Int)then some (2,it.1)else none
def fB(s:List Item)(nx:List Int)(c:Nat):List Act:=(if c<T/\0<=nx.getD c 0 then [(1,nx.getD c 0)]else [])++s.filterMap (oP l c)
end
section
variable(l:List av.Prod)(T:Nat)(Nx:List (List Int))(S:List (List Item))
def gC(q c:Nat):Act:=(fB l T (S.getD q []) (Nx.getD q []) c).headD (0,0)
def Tf(q:Nat)(n:Int):Int:=(Nx.getD q []).getD (T+n.toNat) 0
def zK:Prop:=∀q,q<S.length->∀c,c<=T->(fB l T (S.getD q []) (Nx.getD q []) c).length<=1
inductive qF(w:List Int):List Nat->Nat->List bY->List Nat->Nat->Prop
 |nil {σ:List Nat} {a:Nat}:qF w σ a [] σ a
 |shift {q s:Nat} {σ VY:List Nat} {a a':Nat} {E:List bY} (ha:a<w.length) (h:gC l T Nx S q (ea T w a)=(1,(s:Int))) (hr:qF w (s::q::σ) (a+1) E VY a'):qF w (q::σ) a ((2,(a:Int))::E) VY a'
 |reduce {q r tq:Nat} {p:Int} {σ ρ VY:List Nat} {a a':Nat} {E:List bY} (h:gC l T Nx S q (ea T w a)=(2,p)) (hd:(q::σ).drop (aQ l p).2.length=r::ρ) (hg:Tf T Nx r (aQ l p).1=(tq:Int)) (hr:qF w (tq::r::ρ) a E VY a'):qF w (q::σ) a ((4,p)::E) VY a'
end
section
variable{l:List av.Prod}{T N:Nat}{lk:Int->Int->Nat}{Nx:List (List Int)}{S:List (List Item)}{w:List Int}
theorem qF.E_{σ VZ Rz:List Nat}{a a1 a2:Nat}{E E2:List bY}(h:qF l T Nx S w σ a E VZ a1)(h2:qF l T Nx S w VZ a1 E2 Rz a2):qF l T Nx S w σ a (E++E2) Rz a2:=by
 induction h with
 |nil=>exact h2
 |shift ha h _ ih=>exact .shift ha h (ih h2)
 |reduce h hd hg _ ih=>exact .reduce h hd hg (ih h2)
theorem qF.det{σ VZ:List Nat}{a a1:Nat}{E:List bY}(h:qF l T Nx S w σ a E VZ a1):∀{E2:List bY} {Rz:List Nat} {a2:Nat},qF l T Nx S w σ a E2 Rz a2->(∀q ρ,VZ=q::ρ->gC l T Nx S q (ea T w a1)=(3,0))->(∀q ρ,Rz=q::ρ->gC l T Nx S q (ea T w a2)=(3,0))->E=E2:=by
 induction h with
 |nil=>
  intro E2 Rz a2 h2 e1 e2
  cases h2 with
  |nil=>rfl
  |shift _ h _=>rw[e1 _ _ rfl]at h;cases h
  |reduce h _ _ _=>rw[e1 _ _ rfl]at h;cases h
 | shift ha h _ ih=>
  intro E2 Rz a2 h2 e1 e2
  cases h2 with
  |nil=>rw[e2 _ _ rfl]at h;cases h
  |shift _ h' ur=>
   rw[h]at h';simp only[Prod.mk.injEq,true_and]at h';have h':=Int.ofNat.inj h';subst h';rw[ih ur e1 e2]
  |reduce h' _ _ _=>rw[h]at h';cases h'
 | reduce h hd hg _ ih=>
  intro E2 Rz a2 h2 e1 e2
  cases h2 with
  |nil=>rw[e2 _ _ rfl]at h;cases h
  |shift _ h' _=>rw[h]at h';cases h'
  |reduce h' yC Oa ur=>
   rw[h]at h';simp only[Prod.mk.injEq,true_and]at h';subst h';rw[hd]at yC;simp only[List.cons.injEq]at yC;obtain⟨rfl,rfl⟩:=yC;rw[hg]at Oa;have Oa:=Int.ofNat.inj Oa;subst Oa;rw[ih ur e1 e2]
theorem w9{q c:Nat}{x:Act}(hc:zK l T Nx S)(hq:q<S.length)(PA:c<=T)(h:x∈fB l T (S.getD q []) (Nx.getD q []) c):gC l T Nx S q c=x:=by
 have:=hc q hq c PA;unfold gC;generalize fB l T (S.getD q []) (Nx.getD q []) c=A at*
 match A,h,this with
 |[y],h,_=>rw[List.mem_singleton.1 h];rfl
 |_::_::_,_,h=>simp at h
section
variable(hI:Dn l T N lk S.length Nx S)
include hI
theorem HW(hw:∀q∈l,q.2.length<=8)(hl:l.length<=40)(hT:T<=30){q k:Nat}{x:bY}{it:Item}(hq:q<S.length)(hk:(iI T N)[k]?=some x)(hit:it∈S.getD q [])(hx:iH l it=some x):∃s,s<S.length/\(Nx.getD q []).getD k 0=(s:Int)/\oM it∈S.getD s []:=by
 have lY:S.getD q []=S[q]:=by rw[List.getD_eq_getElem?_getD,List.getElem?_eq_getElem hq];rfl
 have hr:∀it∈S.getD q [],cL l T it:=by rw[lY];exact hI.ss.right _ (List.getElem_mem hq)
 have hov:=fS (x:=x) hr;have hm:oM it∈eT l T lk (S.getD q []) x:=(dV (lk:=lk) hw hl hT hov).2 (.base (w3.2 ⟨it,hit,hx,rfl⟩));rcases hI.cell q hq k x hk with⟨h1,_⟩|⟨_,h2,h3⟩
 ·rw[h1]at hm;cases hm
 ·have hlt:=iV h2
  refine⟨_,hlt,h3,?_⟩;rw[List.getD_eq_getElem?_getD,List.getElem?_eq_getElem hlt,Option.getD_some,rf hlt];exact hm
theorem JL(hw:∀q∈l,q.2.length<=8)(hl:l.length<=40)(hT:T<=30)(hc:zK l T Nx S){q t:Nat}{it:Item}(hq:q<S.length)(ht:t<T)(hit:it∈S.getD q [])(hx:iH l it=some (1,(t:Int))):∃s,s<S.length/\gC l T Nx S q t=(1,(s:Int))/\oM it∈S.getD s []:=by
 obtain⟨s,h1,h2,h3⟩:=HW hI hw hl hT hq (zy ht) hit hx;refine⟨s,h1,w9 hc hq (by omega) ?_,h3⟩;unfold fB;rw[h2,if_pos ⟨ht,by omega⟩];exact List.mem_append_left _ (List.mem_singleton.2 rfl)
theorem PB(hw:∀q∈l,q.2.length<=8)(hl:l.length<=40)(hT:T<=30){q:Nat}{n:Int}{it:Item}(hq:q<S.length)(hn:0<=n/\n<(N:Int))(hit:it∈S.getD q [])(hx:iH l it=some (2,n)):∃s,s<S.length/\Tf T Nx q n=(s:Int)/\oM it∈S.getD s []:=by
 obtain⟨k,rfl⟩:=Int.eq_ofNat_of_zero_le hn.1;exact HW hI hw hl hT hq (Dl (by omega)) hit hx
omit hI in
theorem FM(hc:zK l T Nx S){q c:Nat}{it:Item}(hq:q<S.length)(PA:c<=T)(hit:it∈S.getD q [])(h1:it.1<(l.length:Int))(h2:it.2.1=((aQ l it.1).2.length:Int))(h3:it.2.2=(c:Int)):gC l T Nx S q c=(2,it.1):=by
 refine w9 hc hq PA (List.mem_append_right _ (List.mem_filterMap.2 ⟨it,hit,?_⟩));unfold oP;rw[if_neg (by simpa using h3),if_neg (by omega),if_pos ⟨h1,h2⟩]
omit hI in
theorem FO(hc:zK l T Nx S){q:Nat}(hq:q<S.length)(hit:(((l.length:Int),1,(T:Int)):Item)∈S.getD q []):gC l T Nx S q T=(3,0):=by
 refine w9 hc hq (Nat.le_refl _) (List.mem_append_right _ (List.mem_filterMap.2 ⟨_,hit,?_⟩));unfold oP;rw[if_neg (by simp),if_pos ⟨rfl,rfl⟩]
theorem Mz{q:Nat}{it x:Item}(hq:q<S.length)(hit:it∈S.getD q [])(hx:yf l T lk it x):x∈S.getD q []:=by
 have lY:S.getD q []=S[q]:=by rw[List.getD_eq_getElem?_getD,List.getElem?_eq_getElem hq];rfl
 rw[lY]at hit⊢;exact hI.ss.shut _ (List.getElem_mem hq) it hit x hx
end
theorem zM{it:Item}{k:Nat}(hk:k<62)(h0:0<=it.2.2):(jZ lk it).testBit k=true↔(lk it.1 it.2.1).testBit k=true\/((lk it.1 it.2.1).testBit 62=true/\it.2.2=(k:Int)):=by
 unfold jZ
 by_cases c:(lk it.1 it.2.1).testBit 62=true
 ·rw[if_pos c,Nat.testBit_or,Nat.testBit_xor,Nat.testBit_two_pow,Nat.testBit_two_pow,Bool.or_eq_true,decide_eq_true_eq]
  have:decide (62=k)=false:=decide_eq_false (by omega);rw[this,Bool.xor_false]
  constructor
  ·rintro(h|h)
   ·exact .inl h
   ·exact .inr ⟨c,by omega⟩
  ·rintro(h|⟨_,h⟩)
   ·exact .inl h
   ·exact .inr (by omega)
 ·rw[if_neg c]
  exact⟨.inl,fun h=>h.elim id fun h=>absurd h.1 c⟩
theorem rW{E:List Bool}{F:List Nat}{behind z:Nat}(hz:behind.testBit z=true):∀(b:List bY) (out:Nat),(∀x∈b,x.1=1\/x.1=2)->gL E b false=true->(eC E F behind b out).testBit z=true
 |[],out,_,_=>by
  show(out|||behind).testBit z=true
  rw[Nat.testBit_or,hz,Bool.or_true]
 |x::r,out,hx,h=>by
  unfold gL at h;rw[List.all_cons,Bool.and_eq_true]at h;have h1:¬x.1=1:=fun e=>by rw[if_pos e]at h;cases h.1
  have h2:=(hx x (List.mem_cons_self ..)).resolve_left h1;have h3:=h.1;rw[if_neg h1,if_pos h2]at h3;rw[eC,if_neg h1,if_pos h3];exact rW hz r _ (fun y hy=>hx y (List.mem_cons_of_mem _ hy)) h.2
section
variable{E R M:List Bool}{F W:List Nat}{n:Nat}
theorem JM(hC:hJ l E F W R M)(_:fN n l)(x8:∀p d:Int,0<=p->p<=(l.length:Int)->0<=d->lk p d=cP E F ((cU l p).drop (d.toNat+1)) (2^62))(hT:T<=30)(hwd:∀x∈w,0<=x/\x<(T:Int))
 {it:Item} (hr:cL l T it) {ks:List Tree} {b:List bY} {u a:Nat} (hb:(cU l it.1).drop (it.2.1.toNat+1)=b) (Ur:∀x∈b,x.1=1\/x.1=2) (hk:bZ l ks b u) (hy:∃r,w.drop a=fz l ks b++r) (ha:a+cK ks<=w.length) (PC:it.2.2=(ea T w (a+cK ks):Int)):
 (jZ lk it).testBit (ea T w a)=true:=by
 have PA:ea T w a<=T:=by
  unfold ea;split
  ·rename_i h
   rw[List.getD_eq_getElem?_getD,List.getElem?_eq_getElem h,Option.getD_some];have:=hwd w[a] (List.getElem_mem h);omega
  ·exact Nat.le_refl _
 rw[zM (by omega) hr.2.2.2.2.1,x8 it.1 it.2.1 hr.1 hr.2.1 hr.2.2.1,hb]
 by_cases c:cK ks=0
 ·right
  refine⟨rW (by rw[Nat.testBit_two_pow];rfl) b 0 Ur (qy hC hk c),?_⟩;rw[PC,c,Nat.add_zero]
 ·left
  have h:=mq hC hk hy (2^62) 0 (fun h=>absurd h c);have e:kK w a=ea T w a:=by
   unfold kK ea;rw[if_pos (by omega),if_pos (by omega)]
  rwa [e]at h
theorem zN(hs:fN n l)(hn:0<n){p:Int}:∀x∈cU l p,x.1=1\/(x.1=2/\0<=x.2/\x.2<(n:Int)):=by
 intro x hx;unfold cU at hx;split at hx
 ·rw[List.mem_singleton.1 hx];exact .inr ⟨rfl,Int.le_refl _,by show(0:Int)<n;omega⟩
 ·unfold aQ at hx
  rw[List.getD_eq_getElem?_getD]at hx
  cases e:l[p.toNat]? with
  |none=>rw[e]at hx;cases hx
  |some q=>rw[e]at hx;exact(hs q (List.mem_of_getElem? e)).2.2 x hx
end
end
end aX
namespace bH
open Go.RowKit bL db av dg b9 aX
def eY(x:aX.Item):List Value:=[.int .i64 x.1,.int .i64 x.2.1,.int .i64 x.2.2]
theorem ir(x:aX.Item):(eY x).length=3:=rfl
def s7(x:Option Nat):bz:=match x with
 |some g=>ap g #[.int .i64 2,.int .i64 0] 128
 |none=>⟨none,fun _=>False,fun _=>True,fun _ _ k h=>by rcases h with h|h;cases h;exact h.elim,fun _ _ _ _ _=>trivial⟩
def PD(vb:Nat->Value)(n:Nat)(x:Option Nat):Value:=match x with
 |some g=> .slice (some ⟨g,0,none⟩) 1 1
 |none=>vb n
def JN(F:Nat->Prop)(w:World)(vb:Nat->Value)(l:List av.Prod):Prop:=∀i,i<l.length->gI OY F w (vb i) (aQ l (i:Int)).2
def rX(vb:Nat->Value)(n P:Nat):Spec (Option Nat):=⟨fun x=>x.isSome=decide (n=P),fun x=>PD vb n x,fun x=>[s7 x]⟩
theorem MA{F:Nat->Prop}{w:World}{vp:Value}{l:List av.Prod}(h:gI nD F w vp l):∃(vb:Nat->Value) (bp:Option Addr) (cp:Nat),vp= .slice bp l.length cp/\l.length<=cp/\cp<=maxLen/\JN F w vb l/\(0<l.length->∃b off,bp=some ⟨b,off,none⟩/\F b/\∀i,i<l.length->Rd w b (off+i*2) [.int .i64 (aQ l (i:Int)).1,vb i]/\bL.bX (aQ l (i:Int)).1):=by
  obtain⟨bp,cp,rfl,h1,h2,h3⟩:=h
  by_cases h0:0<l.length
  · obtain⟨b,off,rfl,hF,hr⟩:=h3 h0
    have key:∀i:Nat,∃v:Value,i<l.length->gI OY F w v (aQ l (i:Int)).2/\Rd w b (off+i*2) [.int .i64 (aQ l (i:Int)).1,v]/\bL.bX (aQ l (i:Int)).1:=fun i=>by
      by_cases hi:i<l.length
      · obtain⟨base,cap,q1,q2,q3⟩:=jF hr hi
        have e:aQ l (i:Int)=l[i]:=by unfold aQ;rw[Int.toNat_natCast,List.getD_eq_getElem?_getD,List.getElem?_eq_getElem hi];rfl
        exact⟨_,fun _=>by rw[e];exact⟨q3,q1,q2⟩⟩
      · exact⟨undef,fun h=>absurd h hi⟩
    refine⟨fun i=>Classical.choose (key i),some ⟨b,off,none⟩,cp,rfl,h1,h2,fun i hi=>(Classical.choose_spec (key i) hi).1,fun _=>⟨b,off,rfl,hF,fun i hi=>(Classical.choose_spec (key i) hi).2⟩⟩
  · exact⟨fun _=>undef,bp,cp,rfl,h1,h2,fun i hi=>absurd hi (by omega),fun h=>absurd h h0⟩
theorem Tg{n:Nat}{W:bB}{e:Exit}{Q:Exit->Act->World->Prop}{fr:Fr}{L:List bz}(h:E n W e Q fr (L++[s7 none])):E n W e Q fr L:=⟨fun a w hr hm=>h.go a w hr ⟨hm.low,dL.both hm.owns (dL.one trivial fun k hk=>by rcases hk with hk|hk;cases hk;exact hk.elim) fun i j o o' _ hj k _ hk=>by
 match j,hj with
 |0,hj=>
  simp only[List.getElem?_cons_zero,Option.some.injEq]at hj;subst hj;rcases hk with hk|hk
  ·cases hk
  ·exact hk.elim
 |j+1,hj=>simp at hj⟩⟩
theorem FP(w:World):(Instr.build 128 #[(0,.int .i64 2),(1,.int .i64 0)]).run Tryz.prog w= .ok (.agg #[.int .i64 2,.int .i64 0]) w:=by kernel_rfl
theorem nr(t n:Int)(bp:Option Addr)(cp:Nat)(l:List av.Prod)(vb:Nat->Value)(w0 w:World)(B:bB)(k:Nat)(hk:k<=l.length)(ho:lc w0 B)(hm:Mem B [] w)(tt:∀i,i<l.length->∃bb m cc,vb i= .slice bb m cc)
 (hr:0<l.length->∃b off,bp=some ⟨b,off,none⟩/\∀i,i<l.length->Rd w0 b (off+i*2) [.int .i64 (aQ l (i:Int)).1,vb i]):
 Calls Tryz.prog 73 #[cH t n (.slice bp l.length cp),.int .i64 (k:Int)] w (bU (rX vb k l.length) w):=by
 have hb:=FP;have hr:∀i,i<l.length->∃b off,bp=some ⟨b,off,none⟩/\Rd w b (off+i*2) [.int .i64 (aQ l (i:Int)).1,vb i]:=fun i hi=>by
  obtain⟨b,off,q1,q2⟩:=hr (by omega);exact⟨b,off,q1,fun j u hj=>ho.cell hm (q2 i hi j u hj)⟩
 clear hm ho;refine enter (args:=[cH t n (.slice bp l.length cp),.int .i64 (k:Int)]) (n:=18) Tryz.func73 rfl rfl rfl ?_;refine bJ (aV (bK rfl rfl rfl fun g2=>?_));refine zL ?_
 by_cases c:k=l.length
 ·subst c
  repeat(first|refine GC ?_|refine gV (J (v:= .slice bp l.length cp) ak.ty rfl (ah (i:=0) rfl rfl)) ?_|refine gV (cJ (b:=true) rfl rfl (decide_eq_true rfl)) ?_|refine gV (aU rfl hb) ?_|refine GB ?_)
  refine ee (cs:=#[.int .i64 2,.int .i64 0]) [.agg #[.int .i64 2,.int .i64 0]] rfl rfl rfl (by intro v hv;simp at hv;subst hv;rfl) rfl rfl rfl fun g11=>?_;refine zL ?_
  try refine GA ?_
  exact b_ rfl rfl fun w hm=>hm.meets (S:=rX vb l.length l.length) (some g11) (by show true=decide (l.length=l.length);rw[decide_eq_true rfl]) [1] (by decide) rfl
 ·obtain⟨b,off,rfl,eV⟩:=hr k (by omega)
  obtain⟨bb,m,cc,hv⟩:=tt k (by omega);have du:∀(L:List bz),At w L ⟨b,off+k*2+1,none⟩ (vb k):=fun L=>iD eV (j:=1) rfl;have hlt:k<l.length:=by omega
  repeat(first|refine GC ?_|refine gV (J (v:= .slice (some ⟨b,off,none⟩) l.length cp) ak.ty rfl (ah (i:=0) rfl rfl)) ?_|refine gV (cJ (b:=false) rfl rfl (decide_eq_false (by omega))) ?_|refine gV (aH (j:=k) aT.eq ak.ty rfl rfl hlt) ?_|refine gV (J (v:=vb k) ak.ty rfl (du _)) ?_|refine GB ?_)
  refine Tg ?_;exact b_ rfl rfl fun w hm=>hm.meets (S:=rX vb k l.length) none (by show false=decide (k=l.length);rw[decide_eq_false c]) [1] (by decide) rfl
end bH
namespace bH
open Go.RowKit bL db av dg b9 aX
abbrev RK:=Int×Int
def Y5(x:RK):Value:= .agg #[.int .i64 x.1,.int .i64 x.2]
set_option maxRecDepth 100000 in
theorem Th(p:RK)(h:bL.bX p.1/\bL.bX p.2):∃l,keyOf Tryz.prog 205 (Y5 p)=some l:=by
 have e1:Tryz.prog.cellsOf 205=2:=by kernel_rfl
 have e3:Tryz.prog.cellsOf 3=1:=by kernel_rfl
 refine AH (cs:=[.int .i64 p.1,.int .i64 p.2]) (m:=2) (by kernel_rfl) (by kernel_rfl) (by rw[e1];rfl) (uB 2 (by kernel_rfl)) fun d=>?_;refine sF (d:=d+1) Tryz.underlying205 (by rw[e1];rfl) (by kernel_rfl) fun f hf=>?_;simp only[List.mem_cons,List.not_mem_nil,or_false]at hf;rcases hf with rfl|rfl
 ·rw[e3]
  exact n0 Tryz.underlying3 h.1.1 h.1.2
 ·rw[e3]
  exact n0 Tryz.underlying3 h.2.1 h.2.2
theorem V0:(205:TypeId)<Tryz.prog.types.size:=of_decide_eq_true (by kernel_rfl)
set_option maxRecDepth 100000 in
def fe:qi Tryz.prog 205 RK where
  kv:=Y5
  ok p:=bL.bX p.1/\bL.bX p.2
  law:=deep_law_laid uA (m:=2) (by omega) V0 (by kernel_rfl) (by kernel_rfl)
  key x h:=Th x h
  inj x y h:=by
    simp only[Y5,Value.agg.injEq,Array.mk.injEq,List.cons.injEq,Value.int.injEq,true_and,and_true]at h;exact Prod.ext h.1 h.2
set_option maxRecDepth 100000 in
theorem Ti(p:aX.Item)(h:bL.bX p.1/\bL.bX p.2.1/\bL.bX p.2.2):∃l,keyOf Tryz.prog 169 (.agg (eY p).toArray)=some l:=by
 have e1:Tryz.prog.cellsOf 169=3:=by kernel_rfl
 have e3:Tryz.prog.cellsOf 3=1:=by kernel_rfl
 refine AH (cs:=eY p) (m:=2) (by kernel_rfl) (by kernel_rfl) (by rw[e1];rfl) (uB 2 (by kernel_rfl)) fun d=>?_;refine sF (d:=d+1) Tryz.underlying169 (by rw[e1];rfl) (by kernel_rfl) fun f hf=>?_;simp only[List.mem_cons,List.not_mem_nil,or_false]at hf;rcases hf with rfl|rfl|rfl
 ·rw[e3]
  exact n0 Tryz.underlying3 h.1.1 h.1.2
 ·rw[e3]
  exact n0 Tryz.underlying3 h.2.1.1 h.2.1.2
 ·rw[e3]
  exact n0 Tryz.underlying3 h.2.2.1 h.2.2.2
theorem V1:(169:TypeId)<Tryz.prog.types.size:=of_decide_eq_true (by kernel_rfl)
set_option maxRecDepth 100000 in
def Bi:qi Tryz.prog 169 aX.Item where
  kv x:= .agg (eY x).toArray
  ok p:=bL.bX p.1/\bL.bX p.2.1/\bL.bX p.2.2
  law:=deep_law_laid uA (m:=2) (by omega) V1 (by kernel_rfl) (by kernel_rfl)
  key x h:=Ti x h
  inj x y h:=by
    simp only[eY,Value.agg.injEq,Array.mk.injEq,List.cons.injEq,Value.int.injEq,true_and,and_true]at h;exact Prod.ext h.1 (Prod.ext h.2.1 h.2.2)
theorem HX{a b:Nat}(ha:a<=9223372036854775807)(hb:b<=9223372036854775807):fe.ok ((a:Int),(b:Int)):=by
 show bL.bX (a:Int)/\bL.bX (b:Int)
 exact⟨⟨by omega,by omega⟩,⟨by omega,by omega⟩⟩
theorem Du(w:World):(zeroValue 63).run Tryz.prog w= .ok (.int .u64 0) w:=by kernel_rfl
theorem jT(w:World):(zeroValue 3).run Tryz.prog w= .ok (.int .i64 0) w:=by kernel_rfl
theorem w_{x:Nat}(hx:x<18446744073709551616)(h:x.testBit 62=true):bits .andNot .u64 (x:Int) 4611686018427387904=((x^^^2^62:Nat):Int):=by
 have e0:(4611686018427387904:Int)=((2^62:Nat):Int):=by decide
 rw[e0];show IntKind.u64.wrap ((BitVec.ofInt 64 (x:Int)&&& ~~~ BitVec.ofInt 64 ((2^62:Nat):Int)).toNat:Int)=_
 have hlt:x^^^2^62<2^64:=Nat.xor_lt_two_pow hx (by decide);have e:BitVec.ofInt 64 (x:Int)&&& ~~~ BitVec.ofInt 64 ((2^62:Nat):Int)=BitVec.ofNat 64 (x^^^2^62):=by
  rw[BitVec.ofInt_natCast,BitVec.ofInt_natCast]
  ext i hi
  simp only[BitVec.getElem_and,BitVec.getElem_not];rw[<-BitVec.getLsbD_eq_getElem,<-BitVec.getLsbD_eq_getElem,<-BitVec.getLsbD_eq_getElem,BitVec.getLsbD_ofNat,BitVec.getLsbD_ofNat,BitVec.getLsbD_ofNat];simp only[hi,decide_true,Bool.true_and,Nat.testBit_xor,Nat.testBit_two_pow]
  by_cases e:62=i
  ·subst e;rw[h];decide
  ·rw[decide_eq_false e];simp
 rw[e,BitVec.toNat_ofNat,Nat.mod_eq_of_lt hlt,IntKind.wrap_u64];omega
theorem MB{P:Program}(x j b:Nat)(k k':IntKind)(hb:k.bits=b)(hj:j<=b)(w:World):(Op.shift .shr k (x:Int) k' (j:Int)).run P w= .ok (.int k ((x/2^j:Nat):Int)) w:=by
 have e:min j b=j:=by omega
 have h0:¬((j:Int)<0):=by omega
 have e2:(x:Int).fdiv (2^j)=((x/2^j:Nat):Int):=by
  rw[Int.fdiv_eq_ediv_of_nonneg _ (by have:(0:Int)<2^j:=Int.pow_pos (by decide);omega)];simp
 simp only[Op.shift,if_neg h0,hb,Int.toNat_natCast,e,e2,Sem.run_pure]
theorem Tj{y:Nat}(hy:y<18446744073709551616):bits .and .u64 (y:Int) 1=((y %2:Nat):Int):=by
 have h:=bits_nat .u64 64 (by decide) (fun n h0 h1=>by rw[IntKind.wrap_u64];omega) y 1 (by simpa using hy) (by decide);rw[Nat.and_one_is_mod]at h;exact h.1
theorem rY(x k:Nat):x.testBit k=decide (x/2^k %2=1):=Nat.testBit_eq_decide_div_mod_eq ..
def fY(g:df)(p d:Int):Nat:=ui g ((cU g.ag p).drop (d.toNat+1)) 4611686018427387904
theorem HY{g:df}{body:List bY}{behind:Nat}(hb:behind<18446744073709551616):ui g body behind<18446744073709551616:=by
 unfold ui
 by_cases c:oE g body=0
 ·rw[if_pos c]
  have hg:bM g=0:=by
   unfold oE at c
   by_cases c2:bM g=0
   ·exact c2
   ·rw[if_pos c2]at c;exact c
  have Y6:¬60<body.length:=fun h=>by
   unfold oE at c;rw[if_neg (by simpa using hg),if_pos h]at c;cases c
  have jN:ye g.aJ g.aR body=0:=by
   unfold oE at c;rw[if_neg (by simpa using hg),if_neg Y6]at c;exact c
  have hn:=(bI hg).2.2.1;have ht:=(bI hg).2.1;refine kx (Bb hg (n:=g.aR.toNat) (by omega)).2 hb fun x hx h1=>?_;rcases lK (A' jN x hx)with h|h
  ·omega
  ·omega
 ·rw[if_neg c];decide
def tL(t n:Int)(vp:Value)(gm:Nat):List Value:=[.int .i64 t,.int .i64 n,vp,.map (some gm)]
def fT(lk:Int->Int->Nat)(f:RK->Option Value):Prop:=∀x v,f x=some v->v=ed (lk x.1 x.2)
theorem FQ(a b:Int)(w:World):(Instr.build 205 #[(0,.int .i64 a),(1,.int .i64 b)]).run Tryz.prog w= .ok (.agg #[.int .i64 a,.int .i64 b]) w:=by go_simp
theorem fT.put{lk:Int->Int->Nat}{f:RK->Option Value}(h:fT lk f)(x:RK):fT lk (fun y=>if y=x then some (ed (lk x.1 x.2))else f y):=by
 intro y v hv;dsimp only at hv
 by_cases c:y=x
 ·rw[if_pos c]at hv
  cases hv;rw[c]
 ·rw[if_neg c]at hv;exact h y v hv
theorem xc(a:bY):(dv a).length=2:=rfl
theorem Bj{t n:Int}{vp v:Value}{gm j:Nat}(h:[.int .i64 t,.int .i64 n,vp][j]?=some v):(tL t n vp gm).toArray[0+j]?=some v:=by
 rw[Nat.zero_add]
 match j,h with
 |0,h=>exact h
 |1,h=>exact h
 |2,h=>exact h
theorem rZ{l:List av.Prod}{w0:World}{W:bB}{L:List bz}{vb:Nat->Value}{k i:Nat}{x:Option Nat}(ho:lc w0 W)(hv:JN (fun q=>q<w0.heap.size) w0 vb l)(hk:k<=l.length)(hx:x.isSome=decide (k=l.length))(hi:L[i]?=some (s7 x)):∃b c,PD vb k x= .slice b (cU l (k:Int)).length c/\(cU l (k:Int)).length<=c/\Oz W L (PD vb k x) (cU l (k:Int)).length ((cU l (k:Int)).flatMap dv):=by
 cases x with
 |some g=>
  have hk:k=l.length:=by simpa using hx
  subst hk;have e:cU l (l.length:Int)=[(2,0)]:=by unfold cU;rw[if_pos rfl]
  rw[e];exact⟨_,_,rfl,Nat.le_refl _,iU hi (fun j u h=>by simpa[dv]using h) (Nat.le_refl _) (by decide)⟩
 | none=>
  have jD:k<l.length:=by
   have:¬k=l.length:=by simpa using hx
   omega
  have e:cU l (k:Int)=(aQ l (k:Int)).2:=by unfold cU;rw[if_neg (by omega)]
  rw[e];have h:=hv k jD;have hs:=h.flat (f:=dv) (by decide);obtain⟨b,c,e2,e3,_⟩:=id h;exact⟨b,c,e2,e3,fun w hm=>hs.gr (ho.mem hm)⟩
attribute [local irreducible] Op.shift Go.bits in
theorem Dv(g:df)(hg:bM g=0)(bp:Option Addr)(cp:Nat)(vb:Nat->Value)(w0:World)(hG:jf (fun q=>q<w0.heap.size) w0 (cH g.aJ g.aR (.slice bp g.ag.length cp)) g)(tt:JN (fun q=>q<w0.heap.size) w0 vb g.ag)(lU:0<g.ag.length->∃b off,bp=some ⟨b,off,none⟩/\∀i,i<g.ag.length->Rd w0 b (off+i*2) [.int .i64 (aQ g.ag (i:Int)).1,vb i])
    (go gm c:Nat) (f:RK->Option Value) (it:aX.Item) (T:Nat) (hT:T<=30) (hr:cL g.ag T it) (hd:it.2.1.toNat<(cU g.ag it.1).length) (hc:fT (fY g) f) (hcc:c<=1000000000000000) (w:World) (B:bB) (ho:lc w0 B)
    (hm:Mem B [ap go (tL g.aJ g.aR (.slice bp g.ag.length cp) gm).toArray 191,dr fe gm f c] w):
    Calls Tryz.prog 74 #[.pointer (some ⟨go,0,none⟩),.agg (eY it).toArray] w (dc ⟨fun(x:(RK->Option Value)×Nat)=>fT (fY g) x.1/\x.2<=c+1,fun _=>ed (jZ (fY g) it),fun x=>[ap go (tL g.aJ g.aR (.slice bp g.ag.length cp) gm).toArray 191,dr fe gm x.1 x.2]⟩ B):=by
  obtain⟨p,d,lo⟩:=it;obtain⟨r1,r2,r3,r4,r5,r6⟩:=hr;dsimp only at r1 r2 r3 r4 r5 r6 hd;obtain⟨k,rfl⟩:=Int.eq_ofNat_of_zero_le r1;obtain⟨dn,rfl⟩:=Int.eq_ofNat_of_zero_le r3;obtain⟨ln,rfl⟩:=Int.eq_ofNat_of_zero_le r5;rw[Int.toNat_natCast]at hd;have hk:k<=g.ag.length:=by omega
  have zO:=fun w' (ml:Mem B [] w')=>nr g.aJ g.aR bp cp g.ag vb w0 w' B k hk ho ml (fun i hi=>let ⟨b,c,h,_⟩:=tt i hi;⟨b,_,c,h⟩) lU;have xX:=fun vs body w' (ml:Gr w0 w') hs=>mz _ vs g body 4611686018427387904 w' (hG.gr ml) hs (by decide);have hbr:=FQ (k:Int) (dn:Int);have hlt:fY g (k:Int) (dn:Int)<18446744073709551616:=HY (by decide);have XI:=iZ (l:=g.ag) (p:=(k:Int)) (fun q hq=>((bI hg).2.2.2.2.2 q hq).1);refine eg hm (args:=[.pointer (some ⟨go,0,none⟩),.agg (eY ((k:Int),(dn:Int),(ln:Int))).toArray]) (n:=61) Tryz.func74 rfl rfl rfl ?_;refine bJ (aV (bK rfl rfl rfl fun g3=>?_));refine zL ?_
  repeat(first|refine GA ?_|refine gV (J (v:= .int .i64 (k:Int)) ak.ty rfl (ah (i:=2) rfl rfl)) ?_|refine gV (J (v:= .int .i64 (dn:Int)) ak.ty rfl (ah (i:=2) rfl rfl)) ?_|refine gV (aU rfl hbr) ?_)
  refine aF rfl fun g5=>?_;refine zL ?_;refine fU 3 (cs':=#[.int .i64 (k:Int),.int .i64 (dn:Int)]) ?_;refine zL ?_;have Lk:fe.ok ((k:Int),(dn:Int)):=HX (by have:=(bI hg).2.2.2.2.1;omega) (by omega);have Lk:fe.ok ((k:Int),(dn:Int)):=HX (by have:=(bI hg).2.2.2.2.1;omega) (by omega);have Lk:fe.ok ((k:Int),(dn:Int)):=HX (by have:=(bI hg).2.2.2.2.1;omega) (by omega);have Lk:fe.ok ((k:Int),(dn:Int)):=HX (by have:=(bI hg).2.2.2.2.1;omega) (by omega);have Hm:=hc.put ((k:Int),(dn:Int));have x8:fY g (k:Int) (dn:Int)=ui g ((cU g.ag (k:Int)).drop (dn+1)) 4611686018427387904:=by unfold fY;rw[Int.toNat_natCast]
  have nK:=hc ((k:Int),(dn:Int));dsimp only at Hm nK;unfold jZ;dsimp only;rw[Int.toNat_natCast];generalize Y7:fY g (k:Int) (dn:Int)=B0 at*
  try refine GA ?_
  cases hf:f ((k:Int),(dn:Int))with
  | some v=>
    have hv:=nK v hf;subst hv;clear zO xX Hm nK;refine dw ([ap go (tL g.aJ g.aR (.slice bp g.ag.length cp) gm).toArray 191,dr fe gm f c,ap g3 (Value.agg (eY ((k:Int),(dn:Int),(ln:Int))).toArray).cells 169,ap g5 #[.int .i64 (k:Int),.int .i64 (dn:Int)] 205]) (.calm 0 (.calm 1 (.calm 2 (.calm 3 (.calm 4 (.calm 5 (.calm 6 (.calm 7 (.calm 8 (.calm 9 (.calm 10 (.done)))))))))))) (fun _ h=>h) ?_
    repeat(first|refine GW ?_|(refine GN ?_;first|refine QW (J (v:= .map (some gm)) ak.ty rfl (ah (i:=0) rfl rfl)) ?_|refine QW (aE (i:=3) ak.ty rfl rfl rfl) ?_|refine QW (kq (x:=((k:Int),(dn:Int))) fe aT.eq Du (i:=1) rfl rfl rfl Lk) ?_))
    rw[hf];dsimp only[Option.getD,Option.isSome]
    try refine GA ?_
    have hdv:B0/2^62<=B0:=Nat.div_le_self _ _;have RA:=Tj (y:=B0/2^62) (by omega);have uz:∀w,(Op.shift .shr .u64 (B0:Int) .u64 62).run Tryz.prog w= .ok (.int .u64 ((B0/2^62:Nat):Int)) w:=fun w=>MB B0 62 64 .u64 .u64 rfl (by decide) w;have so:∀w,(Op.shift .shl .u64 1 .i64 (ln:Int)).run Tryz.prog w= .ok (.int .u64 ((2^ln:Nat):Int)) w:=fun w=>Pu ln (by omega) w
    by_cases cb:B0.testBit 62=true
    · rw[if_pos cb]
      have hn:=w_ hlt cb;have dM:B0^^^2^62<18446744073709551616:=Nat.xor_lt_two_pow (n:=64) hlt (by decide);have BV:=mw dM (rP (m:=ln) (by omega));have ya:B0/2^62 %2=1:=by rw[rY]at cb;exact of_decide_eq_true cb
      generalize B0/2^62=D1 at*;generalize B0^^^2^62=D2 at*;generalize 2^ln=D3 at*
      repeat(first|refine GC ?_|refine gV (kB rfl rfl uz) ?_|refine gV (jn rfl rfl RA) ?_|refine gV (cJ (b:=false) rfl rfl (decide_eq_false (by omega))) ?_|refine gV (HM rfl rfl hn) ?_|refine gV (J (v:= .int .i64 (ln:Int)) ak.ty rfl (ah (i:=2) rfl rfl)) ?_|refine gV (uZ rfl rfl so) ?_|refine gV (qW rfl rfl BV) ?_|refine GB ?_)
      exact b_ rfl rfl fun w hm=>hm.bV (S:=⟨fun(x:(RK->Option Value)×Nat)=>fT (fY g) x.1/\x.2<=c+1,fun _=>ed (D2|||D3),fun x=>[ap go (tL g.aJ g.aR (.slice bp g.ag.length cp) gm).toArray 191,dr fe gm x.1 x.2]⟩) (f,c) ⟨hc,by omega⟩ [0,1] (by decide) rfl
    · rw[if_neg cb]
      have uv:B0/2^62 %2=0:=by
        rw[rY,decide_eq_true_eq]at cb;omega
      generalize B0/2^62=D1 at*
      repeat(first|refine GC ?_|refine gV (kB rfl rfl uz) ?_|refine gV (jn rfl rfl RA) ?_|refine gV (cJ (b:=true) rfl rfl (decide_eq_true (by omega))) ?_|refine GB ?_)
      exact b_ rfl rfl fun w hm=>hm.bV (S:=⟨fun(x:(RK->Option Value)×Nat)=>fT (fY g) x.1/\x.2<=c+1,fun _=>ed B0,fun x=>[ap go (tL g.aJ g.aR (.slice bp g.ag.length cp) gm).toArray 191,dr fe gm x.1 x.2]⟩) (f,c) ⟨hc,by omega⟩ [0,1] (by decide) rfl
  | none=>
    clear nK;refine dw ([ap go (tL g.aJ g.aR (.slice bp g.ag.length cp) gm).toArray 191,dr fe gm f c,ap g3 (Value.agg (eY ((k:Int),(dn:Int),(ln:Int))).toArray).cells 169,ap g5 #[.int .i64 (k:Int),.int .i64 (dn:Int)] 205]) (.calm 0 (.calm 1 (.calm 2 (.calm 3 (.calm 4 (.calm 5 (.calm 6 (.calm 7 (.calm 8 (.calm 9 (.calm 10 (.done)))))))))))) (fun _ h=>h) ?_
    repeat(first|refine GW ?_|(refine GN ?_;first|refine QW (J (v:= .map (some gm)) ak.ty rfl (ah (i:=0) rfl rfl)) ?_|refine QW (aE (i:=3) ak.ty rfl rfl rfl) ?_|refine QW (kq (x:=((k:Int),(dn:Int))) fe aT.eq Du (i:=1) rfl rfl rfl Lk) ?_))
    rw[hf];dsimp only[Option.getD,Option.isSome]
    try refine GA ?_
    refine dw ([ap go (tL g.aJ g.aR (.slice bp g.ag.length cp) gm).toArray 191,ap g3 (Value.agg (eY ((k:Int),(dn:Int),(ln:Int))).toArray).cells 169]) (.calm 0 (.calm 1 (.calm 2 (.calm 3 (.calm 4 (.calm 5 (.calm 6 (.calm 7 (.calm 8 (.calm 9 (.calm 11 (.calm 12 (.calm 13 (.one 10 (.calm 14 (.one 15 (.calm 16 (.calm 17 (.calm 18 (.calm 19 (.done))))))))))))))))))))) (bC [0,2]) ?_
    repeat(first|(refine GN ?_;first|refine QW QP ?_|refine QW (aK ak.ty rfl (cs:=[.int .i64 g.aJ,.int .i64 g.aR,.slice bp g.ag.length cp]) rfl (fun j v h=>ah (i:=0) rfl (Bj h))) ?_|refine QW (J (v:= .int .i64 (k:Int)) ak.ty rfl (ah (i:=1) rfl rfl)) ?_|refine QW (J (v:= .int .i64 (dn:Int)) ak.ty rfl (ah (i:=1) rfl rfl)) ?_|refine QW (eK (r:=((dn+1:Nat):Int)) rfl rfl (by omega) (by omega) (by omega)) ?_|refine GX ?_)|refine GW ?_)
    refine az rfl ?_;refine aM (fh aj.en rfl rfl rfl) (fun w hm=>zO _ (hm.pick [] (by decide) rfl)) rfl rfl rfl ?_;rintro x hx
    conv=>arg 8;simp only[zJ,bW,ret,id_eq,rX]
    conv=>arg 7;simp only[rX]
    obtain⟨bb,cc,hv,SE,so⟩:=rZ (W:=B) (i:=4) (L:=[ap go (tL g.aJ g.aR (.slice bp g.ag.length cp) gm).toArray 191,dr fe gm f c,ap g3 (Value.agg (eY ((k:Int),(dn:Int),(ln:Int))).toArray).cells 169,ap g5 #[.int .i64 (k:Int),.int .i64 (dn:Int)] 205,s7 x]) ho tt hk hx rfl;rw[hv]at so⊢;have Dw:((cU g.ag (k:Int)).drop (dn+1)).take ((cU g.ag (k:Int)).length-(dn+1))=(cU g.ag (k:Int)).drop (dn+1):=List.take_of_length_le (by rw[List.length_drop];exact Nat.le_refl _);have ii:=fun w hm=>EO (i:=dn+1) (j:=(cU g.ag (k:Int)).length) xc (so w hm) (by omega) (Nat.le_refl _);rw[Dw]at ii;generalize IW:(cU g.ag (k:Int)).length=m at*;refine aw (bC [0,2]) ?_
    repeat(first|(refine GN ?_;first|refine QW QP ?_|refine QW (sA (i:=dn+1) aT.eq ak.ty rfl rfl (by omega) SE) ?_|refine GX ?_)|refine GW ?_)
    refine az rfl ?_;refine aM (yG aj.en rfl rfl rfl rfl) (fun w hm=>xX _ _ _ (ho.mem hm) (ii w hm)) rfl rfl rfl ?_;intro _ _;refine zL ?_;rw[<-x8];refine aw (bC [0,2]) ?_
    try refine GW ?_
    try refine GA ?_
    refine dw ([ap go (tL g.aJ g.aR (.slice bp g.ag.length cp) gm).toArray 191,ap g5 #[.int .i64 (k:Int),.int .i64 (dn:Int)] 205]) (.calm 0 (.calm 1 (.calm 2 (.calm 3 (.calm 4 (.calm 5 (.one 6 (.done)))))))) (bC [0,3]) ?_
    repeat(first|refine GW ?_|(refine GN ?_;first|refine QW (J (v:= .map (some gm)) ak.ty rfl (ah (i:=0) rfl rfl)) ?_|refine QW (aE (i:=1) ak.ty rfl rfl rfl) ?_))
    refine az rfl ?_;refine iF (i:=1) (x:=((k:Int),(dn:Int))) (v:=ed B0) fe aT.eq rfl rfl rfl rfl Lk (by omega) ?_;refine zL ?_;rw[hf];dsimp only[Option.isSome];refine aw (bC [0,3]) ?_
    try refine GW ?_
    try refine GA ?_
    have hdv:B0/2^62<=B0:=Nat.div_le_self _ _;have RA:=Tj (y:=B0/2^62) (by omega);have uz:∀w,(Op.shift .shr .u64 (B0:Int) .u64 62).run Tryz.prog w= .ok (.int .u64 ((B0/2^62:Nat):Int)) w:=fun w=>MB B0 62 64 .u64 .u64 rfl (by decide) w;have so:∀w,(Op.shift .shl .u64 1 .i64 (ln:Int)).run Tryz.prog w= .ok (.int .u64 ((2^ln:Nat):Int)) w:=fun w=>Pu ln (by omega) w
    by_cases cb:B0.testBit 62=true
    · rw[if_pos cb]
      have hn:=w_ hlt cb;have dM:B0^^^2^62<18446744073709551616:=Nat.xor_lt_two_pow (n:=64) hlt (by decide);have BV:=mw dM (rP (m:=ln) (by omega));have ya:B0/2^62 %2=1:=by rw[rY]at cb;exact of_decide_eq_true cb
      generalize B0/2^62=D1 at*;generalize B0^^^2^62=D2 at*;generalize 2^ln=D3 at*
      repeat(first|refine GC ?_|refine gV (kB rfl rfl uz) ?_|refine gV (jn rfl rfl RA) ?_|refine gV (cJ (b:=false) rfl rfl (decide_eq_false (by omega))) ?_|refine gV (HM rfl rfl hn) ?_|refine gV (J (v:= .int .i64 (ln:Int)) ak.ty rfl (ah (i:=2) rfl rfl)) ?_|refine gV (uZ rfl rfl so) ?_|refine gV (qW rfl rfl BV) ?_|refine GB ?_)
      exact b_ rfl rfl fun w hm=>hm.bV (S:=⟨fun(x:(RK->Option Value)×Nat)=>fT (fY g) x.1/\x.2<=c+1,fun _=>ed (D2|||D3),fun x=>[ap go (tL g.aJ g.aR (.slice bp g.ag.length cp) gm).toArray 191,dr fe gm x.1 x.2]⟩) (_,c+1) ⟨Hm,Nat.le_refl _⟩ [0,1] (by decide) rfl
    · rw[if_neg cb]
      have uv:B0/2^62 %2=0:=by
        rw[rY,decide_eq_true_eq]at cb;omega
      generalize B0/2^62=D1 at*
      repeat(first|refine GC ?_|refine gV (kB rfl rfl uz) ?_|refine gV (jn rfl rfl RA) ?_|refine gV (cJ (b:=true) rfl rfl (decide_eq_true (by omega))) ?_|refine GB ?_)
      exact b_ rfl rfl fun w hm=>hm.bV (S:=⟨fun(x:(RK->Option Value)×Nat)=>fT (fY g) x.1/\x.2<=c+1,fun _=>ed B0,fun x=>[ap go (tL g.aJ g.aR (.slice bp g.ag.length cp) gm).toArray 191,dr fe gm x.1 x.2]⟩) (_,c+1) ⟨Hm,Nat.le_refl _⟩ [0,1] (by decide) rfl
end bH
namespace bH
open Go.RowKit bL db aX Go.Lib Go.Sort
theorem PE(x:Int)(w:World):Calls Tryz.prog 105 #[.int .i64 x] w fun e w'=>e= .returned (.bool false)/\w'=w:=by
 go_enter Tryz.func105,Tryz.ntmps105
 go_wp2
 go_ret
 exact⟨by simp,rfl⟩
theorem JO(x y:Int)(w:World):Calls Tryz.prog 84 #[.int .i64 x,.int .i64 y] w fun e w'=>e= .returned (.int .i64 (oF x y))/\w'=w:=by
 go_enter Tryz.func84,Tryz.ntmps84
 go_wp2_with (go_at_call 105;refine(PE _ _).mono ?_;rintro e w' ⟨rfl,hw⟩;rw[hw])
 all_goals (go_ret;refine⟨?_,rfl⟩;unfold oF;(repeat' split)<;>first|rfl|(exfalso;omega))
def RB(a b c:Int):Int:=if a≠0 then a else if b≠0 then b else c
theorem V2{a b c:Int}(h:¬a=0):RB a b c=a:=if_pos h
theorem V3{b c:Int}(h:¬b=0):RB 0 b c=b:=by unfold RB;rw[if_neg (by simp),if_pos h]
theorem RC{c:Int}:RB 0 0 c=c:=by unfold RB;rw[if_neg (by simp),if_neg (by simp)]
theorem Y8(g:Nat)(a b c:Int)(w:World)(h0:w.cell? ⟨g,0,none⟩=some (.int .i64 a))(h1:w.cell? ⟨g,1,none⟩=some (.int .i64 b))(h2:w.cell? ⟨g,2,none⟩=some (.int .i64 c)):
    Calls Tryz.prog 83 #[.slice (some ⟨g,0,none⟩) 3 3] w fun e w'=>e= .returned (.int .i64 (RB a b c))/\w'=w:=by
  go_enter Tryz.func83,Tryz.ntmps83
  go_wp2
  by_cases ha:a=0
  · subst ha
    refine wp_loop_rounds 4 ?_;rw[rounds_succ]
    go_wp2
    by_cases hb:b=0
    · subst hb
      rw[rounds_succ]
      go_wp2
      by_cases hc:c=0
      · subst hc
        rw[rounds_succ]
        go_wp2
        rw[rounds_succ]
        go_wp2
        go_ret
        exact⟨by rw[RC];rfl,rfl⟩
      · rw[rounds_succ]
        go_wp2
        go_ret
        exact⟨by rw[RC];rfl,rfl⟩
    · rw[rounds_succ]
      go_wp2
      go_ret
      exact⟨by rw[V3 hb];rfl,rfl⟩
  · refine wp_loop_rounds 1 ?_
    rw[rounds_succ]
    go_wp2
    go_ret
    exact⟨by rw[V2 ha];rfl,rfl⟩
theorem V4(o1 o2:Obj)(a b c:Int)(T:TypeId)(w:World):
 Calls Tryz.prog 83 #[.slice (some ⟨w.heap.size+1+1,0,none⟩) 3 3] (((w.alloc o1).alloc o2).alloc (.cells #[.int .i64 a,.int .i64 b,.int .i64 c] T)).drew fun e w'=>e= .returned (.int .i64 (RB a b c))/\w'=(((w.alloc o1).alloc o2).alloc (.cells #[.int .i64 a,.int .i64 b,.int .i64 c] T)).drew:=by
 have hg:(((w.alloc o1).alloc o2).alloc (.cells #[.int .i64 a,.int .i64 b,.int .i64 c] T)).drew.heap[w.heap.size+1+1]?=some (.cells #[.int .i64 a,.int .i64 b,.int .i64 c] T (0,0)):=by
  have h:=heap_alloc_new ((w.alloc o1).alloc o2) (.cells #[.int .i64 a,.int .i64 b,.int .i64 c] T);have e:((w.alloc o1).alloc o2).heap.size=w.heap.size+1+1:=by
   show((w.heap.push o1).push o2).size=_
   rw[Array.size_push,Array.size_push]
  rw[e]at h;exact h
 exact Y8 _ a b c _ (cell_of_row _ _ 0 _ T (0,0) hg) (cell_of_row _ _ 1 _ T (0,0) hg) (cell_of_row _ _ 2 _ T (0,0) hg)
end bH
namespace bH
open Go.RowKit bL db aX Go.Lib Go.Sort
theorem MC(a b:Obj)(w:World):((w.alloc a).alloc b).heap[w.heap.size]?=some a/\((w.alloc a).alloc b).heap[w.heap.size+1]?=some b:=by
 have e:(w.alloc a).heap.size=w.heap.size+1:=by
  show(w.heap.push a).size=_
  rw[Array.size_push]
 constructor
 ·rw[heap_alloc_old (w.alloc a) b (by omega)]
  exact heap_alloc_new w a
 ·have h:=heap_alloc_new (w.alloc a) b
  rw[e]at h;exact h
theorem FR(a b c:Obj)(w:World):(((w.alloc a).alloc b).alloc c).drew=grow (w.drewN 1) #[a,b,c]:=by
 rw[alloc_eq_grow,alloc_eq_grow,alloc_eq_grow,grow_grow,grow_grow];rfl
theorem PF(x y:aX.Item)(w:World):Calls Tryz.prog 76 #[.agg (eY x).toArray,.agg (eY y).toArray] w fun e w'=>e= .returned (.int .i64 (Di x y))/\∃q Y9,w'=grow (w.drewN q) Y9:=by
 obtain⟨x1,x2,x3⟩:=x;obtain⟨y1,y2,y3⟩:=y;have ho:Di (x1,x2,x3) (y1,y2,y3)=RB (oF x1 y1) (oF x2 y2) (oF x3 y3):=rfl;rw[ho];clear ho;unfold eY;dsimp only;obtain⟨t1,t2⟩:=MC (.cells #[.int .i64 x1,.int .i64 x2,.int .i64 x3] 169) (.cells #[.int .i64 y1,.int .i64 y2,.int .i64 y3] 169) w;have k1:=cell_of_row _ _ 0 _ _ (0,0) t1;have k2:=cell_of_row _ _ 1 _ _ (0,0) t1;have k3:=cell_of_row _ _ 2 _ _ (0,0) t1;have k4:=cell_of_row _ _ 0 _ _ (0,0) t2;have k5:=cell_of_row _ _ 1 _ _ (0,0) t2;have k6:=cell_of_row _ _ 2 _ _ (0,0) t2;clear t1 t2
 go_enter Tryz.func76,Tryz.ntmps76
 go_wp2
 go_region_held (fun w'=>w'.cell? ⟨w.heap.size,0,none⟩=some (.int .i64 x1)/\w'.cell? ⟨w.heap.size,1,none⟩=some (.int .i64 x2)/\w'.cell? ⟨w.heap.size,2,none⟩=some (.int .i64 x3)/\w'.cell? ⟨w.heap.size+1,0,none⟩=some (.int .i64 y1)/\w'.cell? ⟨w.heap.size+1,1,none⟩=some (.int .i64 y2)/\w'.cell? ⟨w.heap.size+1,2,none⟩=some (.int .i64 y3)) (go_keep) (first|(go_at_call 84;refine(JO _ _ _).mono ?_;rintro e w' ⟨rfl,rfl⟩)|(go_at_call 83;have Y_:=(V4 (.cells #[.int .i64 x1,.int .i64 x2,.int .i64 x3] 169) (.cells #[.int .i64 y1,.int .i64 y2,.int .i64 y3] 169) (oF x1 y1) (oF x2 y2) (oF x3 y3) 3 w);refine Y_.mono ?_;clear Y_;rintro e w' ⟨rfl,rfl⟩))
 go_wp2
 go_ret
 refine⟨rfl,1,#[.cells #[.int .i64 x1,.int .i64 x2,.int .i64 x3] 169,.cells #[.int .i64 y1,.int .i64 y2,.int .i64 y3] 169,.cells #[.int .i64 (oF x1 y1),.int .i64 (oF x2 y2),.int .i64 (oF x3 y3)] 3],?_⟩;exact FR _ _ _ w
end bH
namespace bH
open Go.RowKit bL db av dg b9 aX
theorem FT(t n:Int)(vp:Value)(gm:Nat)(w:World):(Instr.build 191 #[(0,cH t n vp),(1,.map (some gm))]).run Tryz.prog w= .ok (.agg (tL t n vp gm).toArray) w:=by kernel_rfl
def PG(t n:Int)(vp:Value):Spec (Nat×Nat):=⟨fun _=>True,fun x=> .pointer (some ⟨x.1,0,none⟩),fun x=>[dr fe x.2 (fun _=>none) 0,ap x.1 (tL t n vp x.2).toArray 191]⟩
theorem Bk(t n:Int)(vp:Value)(w:World):Calls Tryz.prog 54 #[cH t n vp] w (bU (PG t n vp) w):=by
 have hb:=FT t n vp;refine enter (args:=[cH t n vp]) (n:=7) Tryz.func54 rfl rfl rfl ?_;refine bJ (aV (bK rfl rfl rfl fun g1=>?_));refine zL ?_
 repeat(first|refine GA ?_|refine gV (aE (i:=0) ak.ty rfl rfl rfl) ?_)
 refine qj fe rfl fun gm=>?_;refine zL ?_
 repeat(first|refine GA ?_|refine gV (aU rfl (hb _)) ?_)
 refine bK rfl rfl rfl fun go=>?_;refine zL ?_
 try refine GA ?_
 exact b_ rfl rfl fun w hm=>hm.meets (S:=PG t n vp) (go,gm) trivial [1,2] (by decide) rfl
end bH
namespace bH
open Go.RowKit bL db av dg b9 aX
theorem Bl{x:Int}(h0:0<=x)(h1:x<256):IntKind.u8.wrap x=(((UInt8.ofNat x.toNat).toNat:Nat):Int):=by
 obtain⟨n,rfl⟩:=Int.eq_ofNat_of_zero_le h0;rw[Int.toNat_natCast,IntKind.wrap_u8];simp
theorem zP(l:List aX.Item):(eH l).length=3*l.length:=by
 induction l with
 |nil=>rfl
 |cons x r ih=>
  have:eH (x::r)=[UInt8.ofNat x.1.toNat,UInt8.ofNat x.2.1.toNat,UInt8.ofNat x.2.2.toNat]++eH r:=rfl;rw[this,List.length_append,ih,List.length_cons];show 3+3*r.length=3*(r.length+1)
  omega
theorem FU{l:List aX.Item}{k:Nat}(h:k<l.length):eH (l.take (k+1))=eH (l.take k)++[UInt8.ofNat l[k].1.toNat,UInt8.ofNat l[k].2.1.toNat,UInt8.ofNat l[k].2.2.toNat]:=by
 unfold eH;rw[List.take_succ_eq_append_getElem h,List.flatMap_append];rfl
theorem xd(vl:Value)(l:List aX.Item)(w:World)(hl:Sl w vl l.length (l.flatMap eY))(hb:∀it∈l,0<=it.1/\it.1<256/\0<=it.2.1/\it.2.1<256/\0<=it.2.2/\it.2.2<256)(hn:l.length<=20000):
 Calls Tryz.prog 56 #[vl] w (bU (ret (str (eH l))) w):=by
 obtain⟨bl,cl,rfl,nK,vz,A3⟩:=hl;unfold maxLen at vz;refine enter (args:=[.slice bl l.length cl]) (n:=27) Tryz.func56 rfl rfl rfl ?_
 try refine GA ?_
 refine h_ 5 1 ?_
 conv=>arg 7;simp only[zA,zB,zC,zD,zE,zF,zG,zH,zI,bW,ret,id_eq]
 refine cX (ι:=Nat×Value) (fun(k,_)=>k<=l.length) (fun(k,v)=>[(3,v),(6,.slice bl l.length cl),(7,.int .i64 l.length),(8,.int .i64 (k:Int))])
  (fun(k,v)=>[aI 5 1 v (eH (l.take k)).length ((eH (l.take k)).map KA)]) (fun(k,_)=>l.length-k) (0,.slice none 0 0) (Nat.zero_le _) ?_
 rintro⟨k,v⟩ i1;dsimp only at i1⊢
 by_cases c1:k<l.length
 ·obtain⟨b,off,rfl,eV⟩:=A3 (by omega)
  have du:=fun L=>fx (L:=L) ir eV c1;have Bm:∀(L:List bz) (j:Nat) (u:Value),(eY l[k])[j]?=some u->At (w:bB) L ⟨b,off+k*3+j,none⟩ u:=du;clear du A3 eV;obtain⟨b1,b2,b3,b4,b5,b6⟩:=hb l[k] (List.getElem_mem c1);have qR:=FU c1;have zQ:(eH (l.take k)).length<=60000:=by rw[zP,List.length_take];omega
  generalize l[k]=x at*;obtain⟨p,d,lo⟩:=x;dsimp only at b1 b2 b3 b4 b5 b6 qR;have e1:=Bl b1 b2;have e2:=Bl b3 b4;have e3:=Bl b5 b6;generalize UInt8.ofNat p.toNat=y1 at*;generalize UInt8.ofNat d.toNat=y2 at*;generalize UInt8.ofNat lo.toNat=y3 at*;generalize hN:eH (l.take k)=N at*
  repeat(first|refine GA ?_|refine gV (aH aT.eq ak.ty rfl rfl c1) ?_|refine gV (aK (cs:=eY (p,d,lo)) ak.ty rfl rfl (Bm _)) ?_)
  refine aF rfl fun g5=>?_;refine zL ?_;refine fU 1 (cs':=(eY (p,d,lo)).toArray) ?_;refine zL ?_
  repeat(first|refine GA ?_|refine gV (J (v:= .int .i64 p) ak.ty rfl (ah (i:=1) rfl rfl)) ?_|refine gV (J (v:= .int .i64 d) ak.ty rfl (ah (i:=1) rfl rfl)) ?_|refine gV (J (v:= .int .i64 lo) ak.ty rfl (ah (i:=1) rfl rfl)) ?_|refine gV (e7 aT.eq aT.eq rfl e1) ?_|refine gV (e7 aT.eq aT.eq rfl e2) ?_|refine gV (e7 aT.eq aT.eq rfl e3) ?_)
  refine G5 [KA y1,KA y2,KA y3] rfl rfl rfl (by intro v hv;simp at hv;rcases hv with rfl|rfl|rfl<;>rfl) rfl rfl fun g22=>?_;refine zL ?_;refine dS (i:=0) (e:=5) (size:=1) (bytes:=1) (m:=N.length) (xs:=N.map KA) (k:=3) (ys:=[KA y1,KA y2,KA y3]) rfl (iU (i:=2) rfl (fun j u h=>by simpa using h) (Nat.le_refl 3) (by decide)) rfl rfl rfl (by intro u hu;simp at hu;rcases hu with rfl|rfl|rfl<;>rfl) (by omega) (by omega) rfl fun v'=>?_;refine zL ?_
  try refine GA ?_
  refine bR [0] ?_;exact aY (k+1,v') (by show k+1<=l.length;omega) (by show l.length-(k+1)<l.length-k;omega) (hl:=by dsimp only;rw[qR,List.length_append,List.map_append];rfl)
 ·obtain rfl:k=l.length:=by omega
  rw[List.take_length]
  repeat(first|refine GA ?_|refine gV (IA aT.eq aT.eq aT.eq rfl rfl (jo (i:=0) rfl)) ?_)
  exact da
theorem yh(T N:Nat)(hT:T<=1000)(hN:N<=1000)(vp:Value)(w:World):
 Calls Tryz.prog 58 #[cH (T:Int) (N:Int) vp] w (bU (bW 128 2 (iI T N).length ((iI T N).flatMap dv) id) w):=by
 have ya:=fun(q:Int)=>zx 1 q;have La:=fun(q:Int)=>zx 2 q;refine enter (args:=[cH (T:Int) (N:Int) vp]) (n:=29) Tryz.func58 rfl rfl rfl ?_;refine bJ (aV (bK rfl rfl rfl fun g1=>?_));refine zL ?_
 repeat(first|refine GA ?_|refine gV (J (v:= .int .i64 (T:Int)) ak.ty rfl (ah (i:=0) rfl rfl)) ?_)
 refine h_ 128 2 ?_
 conv=>arg 7;simp only[zA,zB,zC,zD,zE,zF,zG,zH,zI,bW,ret,id_eq]
 refine cX (ι:=Nat×Value) (fun(k,_)=>k<=T) (fun(k,v)=>[(1,.pointer (some ⟨g1,0,none⟩)),(3,v),(7,.int .i64 (T:Int)),(8,.int .i64 (k:Int))])
  (fun(k,v)=>[ap g1 (cH (T:Int) (N:Int) vp).cells 33,aI 128 2 v ((List.range k).map (fun n:Nat=>((1:Int),(n:Int)))).length (((List.range k).map (fun n:Nat=>((1:Int),(n:Int)))).flatMap dv)]) (fun(k,_)=>T-k) (0,.slice none 0 0) (Nat.zero_le _) ?_
 rintro⟨k,v⟩ i1;dsimp only at i1⊢
 by_cases c1:k<T
 ·have qR:(List.range (k+1)).map (fun n:Nat=>((1:Int),(n:Int)))=(List.range k).map (fun n:Nat=>((1:Int),(n:Int)))++[((1:Int),(k:Int))]:=by rw[List.range_succ,List.map_append];rfl
  have zQ:((List.range k).map (fun n:Nat=>((1:Int),(n:Int)))).length=k:=by rw[List.length_map,List.length_range]
  generalize hA:(List.range k).map (fun n:Nat=>((1:Int),(n:Int)))=A at*
  repeat(first|refine GA ?_|refine gV (aU rfl (ya _)) ?_)
  refine jK (i:=1) rfl rfl rfl rfl rfl rfl rfl (fun z h=>by cases h;rfl) (by omega) (by omega) rfl fun z v'=>?_;refine zL ?_
  try refine GA ?_
  exact aY (k+1,v') (by show k+1<=T;omega) (by show T-(k+1)<T-k;omega) (hl:=by dsimp only;rw[qR,List.length_append,List.flatMap_append];rfl)
 obtain rfl:k=T:=by omega
 have zQ:((List.range k).map (fun n:Nat=>((1:Int),(n:Int)))).length=k:=by rw[List.length_map,List.length_range]
 have hS:iI k N=(List.range k).map (fun n:Nat=>((1:Int),(n:Int)))++(List.range N).map (fun n:Nat=>((2:Int),(n:Int))):=rfl;generalize iI k N=S at*;generalize hA:(List.range k).map (fun n:Nat=>((1:Int),(n:Int)))=A at*
 repeat(first|refine GA ?_|refine gV (J (v:= .int .i64 (N:Int)) ak.ty rfl (ah (i:=0) rfl rfl)) ?_)
 refine iu (ι:=Nat×Value) (fun(j,_)=>j<=N) (fun(j,v)=>[(3,v),(18,.int .i64 (N:Int)),(19,.int .i64 (j:Int))])
  (fun(j,v)=>[ap g1 (cH (k:Int) (N:Int) vp).cells 33,aI 128 2 v (A++(List.range j).map (fun n:Nat=>((2:Int),(n:Int)))).length ((A++(List.range j).map (fun n:Nat=>((2:Int),(n:Int)))).flatMap dv)]) (fun(j,_)=>N-j) (0,v) (Nat.zero_le _) (by repeat' (first|exact True.intro|refine And.intro rfl ?_)) (by simp only[List.range_zero,List.map_nil,List.append_nil]) ?_
 rintro⟨j,v⟩ j1;dsimp only at j1⊢
 by_cases c2:j<N
 ·have qR:A++(List.range (j+1)).map (fun n:Nat=>((2:Int),(n:Int)))=(A++(List.range j).map (fun n:Nat=>((2:Int),(n:Int))))++[((2:Int),(j:Int))]:=by rw[List.range_succ,List.map_append,List.append_assoc];rfl
  have aaz:(A++(List.range j).map (fun n:Nat=>((2:Int),(n:Int)))).length<=2000:=by rw[List.length_append,List.length_map,List.length_range];omega
  generalize hD:A++(List.range j).map (fun n:Nat=>((2:Int),(n:Int)))=D at*
  repeat(first|refine GA ?_|refine gV (aU rfl (La _)) ?_)
  refine jK (i:=1) rfl rfl rfl rfl rfl rfl rfl (fun z h=>by cases h;rfl) (by omega) (by omega) rfl fun z v'=>?_;refine zL ?_
  try refine GA ?_
  exact aY (j+1,v') (by show j+1<=N;omega) (by show N-(j+1)<N-j;omega) (hl:=by dsimp only;rw[qR,List.length_append,List.flatMap_append];rfl)
 obtain rfl:j=N:=by omega
 rw[<-hS]
 try refine GA ?_
 exact b_ rfl rfl fun w hm=>hm.meets (S:=bW 128 2 S.length (S.flatMap dv) id) v trivial [1] (by decide) rfl
end bH
namespace bH
open Go.RowKit bL db av dg b9 aX bT
def Bn:qQ aX.Item:=ra eY 3 (fun _=>rfl) (fun _=>True)
theorem Bo{κ τ:Type}[DecidableEq κ][DecidableEq τ](f:κ->τ)(x:κ):∀(D:List κ),(∀y∈D,f y=f x->y=x)->idx (D.map f) (f x)=idx D x
  |[],_=>rfl
  | y ::D,h=>by
    have ih:=Bo f x D fun z hz=>h z (List.mem_cons_of_mem _ hz);unfold idx at ih⊢;rw[List.map_cons,List.idxOf_cons,List.idxOf_cons,ih]
    by_cases e:y=x
    · subst e;simp
    · have:¬f y=f x:=fun e2=>e (h y (List.mem_cons_self ..) e2)
      rw[show(f y==f x)=false by simpa using this,show(y==x)=false by simpa using e]
def py(s:List aX.Item):Prop:=∀it∈s,0<=it.1/\it.1<256/\0<=it.2.1/\it.2.1<256/\0<=it.2.2/\it.2.2<256
theorem JP{S:List (List aX.Item)}{s:List aX.Item}(hS:∀t∈S,py t)(hs:py s):eH s∈S.map eH↔s∈S:=by
 constructor
 ·intro h
  obtain⟨t,ht,e⟩:=List.mem_map.1 h;rw[<-w6 (hS t ht) hs e];exact ht
 ·exact List.mem_map_of_mem
def RD(g6 gm g7:Nat)(vS vN:Value)(pz:List Value)(F:Nat->Prop)(S:List (List aX.Item)):List bz:=
 [ap g6 #[.map (some gm)] 87,dr eB gm (gu (S.map eH)) S.length,ap g7 #[vS,vN] 117,aI 164 1 vS S.length pz,cY (a8 Bn) F (pz.map fun v=>[v]) S]
theorem r7{w:World}{e:TypeId}{size n:Nat}{v:Value}{xs:List Value}(h:(aI e size v n xs).holds w):∀k,v.ownBlock=some k->k<w.heap.size:=fun k hk=>(aI e size v n xs).lt w h k (.inl hk)
theorem JQ{w:World}{v:Value}{l:List aX.Item}(h:(aI 169 3 v l.length (l.flatMap eY)).holds w):(a8 Bn).is (fun k=>v.ownBlock=some k) w [v] l:=
 ⟨v,rfl,gI.of_flat (Sl.cD h) (fun _ _=>trivial) (fun _ h=>h) (fun a n cp hv=>by rw[hv];rfl)⟩
theorem tM(g6 gm g7:Nat)(vS vN:Value)(pz:List Value)(F:Nat->Prop)(S:List (List aX.Item))(vl:Value)(s:List aX.Item)(hS:∀t∈S,py t)(hs:py s)(hSl:S.length<=1000)(so:s.length<=20000)(w:World)(B:bB)
 (hm:Mem B (RD g6 gm g7 vS vN pz F S++[aI 169 3 vl s.length (s.flatMap eY)]) w):
 Calls Tryz.prog 55 #[vl,.pointer (some ⟨g6,0,none⟩),.pointer (some ⟨g7,0,none⟩)] w (dc ⟨fun(_:Value×List Value×(Nat->Prop))=>True,fun _=> .int .i64 ((fm S s).1:Int),fun x=>RD g6 gm g7 x.1 vN x.2.1 x.2.2 (fm S s).2⟩ B):=by
 have tN:=JP hS hs;have hix:=Bo eH s S fun t ht e=>w6 (hS t ht) hs e;have jU:eB.ok (eH s):=by
  show(eH s).length<=9223372036854775807
  rw[zP];omega
 unfold RD at hm;refine eg hm (args:=[vl,.pointer (some ⟨g6,0,none⟩),.pointer (some ⟨g7,0,none⟩)]) (n:=30) Tryz.func55 rfl rfl rfl ?_;refine eN (i:=3) rfl dR fun dW=>?_;obtain⟨aS,cS,rfl,-⟩:=dW
 try refine GA ?_
 refine dw ([ap g6 #[.map (some gm)] 87,dr eB gm (gu (S.map eH)) S.length,aI 169 3 vl s.length (s.flatMap eY)]) (.calm 0 (.calm 1 (.calm 2 (.calm 3 (.calm 4 (.calm 5 (.calm 6 (.calm 7 (.calm 8 (.done)))))))))) (bC [0,1,5]) ?_
 repeat(first|refine GW ?_|(refine GN ?_;first|refine QW (J (v:= .map (some gm)) ak.ty rfl (ah (i:=0) rfl rfl)) ?_))
 refine kf rfl (iT aj.en rfl rfl) (fun w hm=>xd vl s w (Sl.cD (hm.get (i:=2) rfl)) hs so) rfl rfl rfl ?_
 by_cases c:s∈S
 ·have hst:fm S s=(idx S s,S):=if_pos c
  rw[hst]
  repeat(first|refine GW ?_|(refine GN ?_;first|refine QW (ob (K:=eB) (x:=eH s) aT.eq jT (i:=1) rfl rfl rfl jU (tN.2 c)) ?_))
  rw[hix]
  try refine GA ?_
  exact b_ rfl rfl fun w hm=>hm.bV (S:=⟨fun(_:Value×List Value×(Nat->Prop))=>True,fun _=> .int .i64 (idx S s:Int),fun x=>RD g6 gm g7 x.1 vN x.2.1 x.2.2 S⟩) (.slice aS S.length cS,pz,F) trivial [0,1,2,3,4] (by decide) rfl
 ·have hst:fm S s=(S.length,S++[s]):=if_neg c
  rw[hst];have hn:eH s∉S.map eH:=fun h=>c (tN.1 h);have yd:=y5 hn;have V5:gu (S.map eH) (eH s)=none:=if_neg hn;rw[List.length_map]at yd;clear hix tN
  repeat(first|refine GW ?_|(refine GN ?_;first|refine QW (oc (K:=eB) (x:=eH s) aT.eq jT (i:=1) rfl rfl rfl jU hn) ?_))
  repeat(first|refine GA ?_|refine gV (J (v:= .slice aS S.length cS) ak.ty rfl (ah (i:=2) rfl rfl)) ?_)
  refine dw ([ap g6 #[.map (some gm)] 87,aI 169 3 vl s.length (s.flatMap eY)]) (.calm 0 (.calm 1 (.calm 2 (.calm 3 (.one 4 (.done)))))) (bC [0,5]) ?_
  repeat(first|refine GW ?_|(refine GN ?_;first|refine QW (J (v:= .map (some gm)) ak.ty rfl (ah (i:=0) rfl rfl)) ?_))
  refine kf rfl (iT aj.en rfl rfl) (fun w hm=>xd vl s w (Sl.cD (hm.get (i:=1) rfl)) hs so) rfl rfl rfl ?_
  try refine GW ?_
  refine az rfl ?_;refine iF (i:=1) (x:=eH s) (v:= .int .i64 (S.length:Int)) eB aT.eq rfl rfl rfl rfl jU (by omega) ?_;refine zL ?_;rw[yd,V5,if_neg (by decide)];refine aw (bC [0,5]) ?_
  try refine GW ?_
  repeat(first|refine GA ?_|refine gV (J (v:= .slice aS S.length cS) ak.ty rfl (ah (i:=2) rfl rfl)) ?_)
  refine aB (i:=5) rfl fun IM Cs=>?_;refine ik (i:=3) rfl rfl IM Cs rfl rfl (fun z h=>by cases h;rfl) (by omega) (by omega) rfl fun z UB=>?_;refine zL ?_;refine rb (cY (a8 Bn) (fun k=>F k\/vl.ownBlock=some k) ((pz.map fun v=>[v])++[[vl]]) (S++[s])) 5 4 [0,1,2,3] (by decide) rfl rfl rfl (fun k hk=>hk.elim (fun h=>by cases h) fun h=>h.elim (fun h=> .inr (.inr h)) fun h=> .inl (.inl h)) (fun w hr he=>mh he (JQ hr) (r7 hr)) ?_;refine zL ?_
  try refine GA ?_
  refine aB (i:=3) rfl fun kD lg=>bD (i:=2) rfl rfl rfl kD lg rfl ?_;refine zL ?_
  try refine GA ?_
  exact b_ rfl rfl fun w hm=>hm.bV (S:=⟨fun(_:Value×List Value×(Nat->Prop))=>True,fun _=> .int .i64 (S.length:Int),fun x=>RD g6 gm g7 x.1 vN x.2.1 x.2.2 (S++[s])⟩) (UB,pz++[vl],fun k=>F k\/vl.ownBlock=some k) trivial [0,1,2,3,4] (by decide) (by dsimp only[RD];rw[List.map_append,List.map_append,List.length_append];rfl)
end bH
namespace bT
section
variable(A:n')(bl:Nat->Nat)
def xe(Q:List Nat)(tq:Int):List Nat:=if bl tq.toNat∈Q.map bl then Q else Q++[tq.toNat]
def kW(Q:List Nat)(tq:Int):List Nat×Int:=if val bl tq=0 then(Q,-1)else(xe bl Q tq,(idx ((xe bl Q tq).map bl) (bl tq.toNat):Int))
def hU(q:Nat)(Q:List Nat):Nat->List Nat×List Int
 |0=>(Q,[])
 |k+1=>((kW bl (hU q Q k).1 (A.d q k)).1,(hU q Q k).2++[(kW bl (hU q Q k).1 (A.d q k)).2])
def vec(l:List Int):Row:=Vector.ofFn fun b:Fin 256=>l.getD b 0
def p6:Nat->Nat->List Nat->List Row->List Nat×List Row
 |0,_,Q,out=>(Q,out)
 |f+1,n,Q,out=>if n<Q.length then p6 f (n+1) (hU A bl (Q.getD n 0) Q 256).1 (out++[vec (hU A bl (Q.getD n 0) Q 256).2])else(Q,out)
def lq:List Nat×List Row:=p6 A bl (A.n+1) 0 [0] []
end
def FV(A:n'):n':=⟨(lq A (cz A)).1.length,fun k b=>((lq A (cz A)).2.getD k (Vector.replicate 256 0)).toList.getD b 0,fun k=>((lq A (cz A)).1.map A.tag).getD k 0⟩
section
variable{A:n'}{bl:Nat->Nat}
structure JR(A:n')(bl:Nat->Nat)(Q:List Nat):Prop where
 head:∃R,Q=0::R/\∀q∈R,bl q≠0
 lt:∀q∈Q,q<A.n
 nodup:(Q.map bl).Nodup
theorem JR.len{Q:List Nat}(h:JR A bl Q):Q.length<=A.n/\0<Q.length:=by
 have h1:Q.Nodup:=List.Pairwise.of_map bl (fun a b hne e=>hne (by rw[e])) h.nodup;refine⟨jL h1 h.lt,?_⟩;obtain⟨R,rfl,_⟩:=h.head;simp
theorem V6(hA:A.Ok):JR A bl [0]:=⟨⟨[],rfl,by simp⟩,fun q hq=>by simp at hq;subst hq;exact hA.pos,by simp⟩
theorem PH{Q:List Nat}(h:JR A bl Q){tq:Int}(h1:St A tq)(h0:val bl tq≠0):JR A bl (xe bl Q tq):=by
  unfold xe;unfold val at h0;split at h0
  · exact absurd rfl h0
  · split
    · exact h
    · rename_i aaA hn
      unfold St at h1;obtain⟨R,rfl,hR⟩:=h.head;refine⟨⟨R++[tq.toNat],rfl,fun q hq=>?_⟩,fun q hq=>?_,?_⟩
      · rcases List.mem_append.1 hq with hq|hq
        · exact hR q hq
        · simp at hq;subst hq;exact h0
      · rcases List.mem_append.1 hq with hq|hq
        · exact h.lt q hq
        · simp at hq;subst hq;omega
      · rw[List.map_append]
        refine List.nodup_append.2 ⟨h.nodup,by simp,fun a ha b hb e=>?_⟩;simp at hb;subst hb e;exact hn ha
theorem PI(Q:List Nat)(tq:Int):∃E,xe bl Q tq=Q++E:=by
 unfold xe;split
 ·exact⟨[],by simp⟩
 ·exact⟨_,rfl⟩
theorem PJ(Q:List Nat)(tq:Int):bl tq.toNat∈(xe bl Q tq).map bl:=by
 unfold xe;split
 ·assumption
 ·simp
theorem Dx{Q:List Nat}(h:JR A bl Q){tq:Int}(h1:St A tq):JR A bl (kW bl Q tq).1:=by
 unfold kW;split
 ·exact h
 ·rename_i h0;exact PH h h1 h0
theorem Dy(Q:List Nat)(tq:Int):∃E,(kW bl Q tq).1=Q++E:=by
 unfold kW;split
 ·exact⟨[],by simp⟩
 ·exact PI Q tq
theorem Bp(q:Nat)(Q:List Nat):∀k,(hU A bl q Q k).2.length=k
 |0=>rfl
 |k+1=>by simp[hU,Bp q Q k]
theorem Y'(hA:A.Ok){q:Nat}(hq:q<A.n){b:Nat}(hb:b<256):St A (A.d q b):=hA.step q hq b hb
theorem uN(hA:A.Ok){Q:List Nat}(h:JR A bl Q){q:Nat}(hq:q<A.n):∀k,k<=256->JR A bl (hU A bl q Q k).1
 |0,_=>h
 |k+1,hk=>Dx (uN hA h hq k (by omega)) (Y' hA hq (by omega))
theorem Bq(q:Nat)(Q:List Nat):∀k,∃E,(hU A bl q Q k).1=Q++E
 |0=>⟨[],by simp[hU]⟩
 |k+1=>by
  obtain⟨E,h⟩:=Bq q Q k;obtain⟨E',h'⟩:=Dy (bl:=bl) (hU A bl q Q k).1 (A.d q k);exact⟨E++E',by simp only[hU];rw[h',h,List.append_assoc]⟩
def tO(A:n')(bl:Nat->Nat)(Q:List Nat)(q b:Nat)(x:Int):Prop:=(val bl (A.d q b)=0->x= -1)/\(val bl (A.d q b)≠0->val bl (A.d q b)∈Q.map bl/\x=(idx (Q.map bl) (val bl (A.d q b)):Int))
theorem tO.more{Q:List Nat}{q b:Nat}{x:Int}(h:tO A bl Q q b x)(E:List Nat):tO A bl (Q++E) q b x:=by
 refine⟨h.1,fun h0=>?_⟩;obtain⟨h1,h2⟩:=h.2 h0;rw[List.map_append,lB h1];exact⟨List.mem_append_left _ h1,h2⟩
theorem PL(Q:List Nat)(q b:Nat):tO A bl (kW bl Q (A.d q b)).1 q b (kW bl Q (A.d q b)).2:=by
 unfold kW;split
 ·rename_i h;exact⟨fun _=>rfl,fun h'=>absurd h h'⟩
 ·rename_i h
  refine⟨fun h'=>absurd h' h,fun _=>?_⟩;have e:val bl (A.d q b)=bl (A.d q b).toNat:=by
   unfold val at h⊢;split at h
   ·exact absurd rfl h
   ·rename_i hn;rw[if_neg hn]
  rw[e];exact⟨PJ Q _,rfl⟩
theorem MD(q:Nat)(Q:List Nat):∀k b,b<k->tO A bl (hU A bl q Q k).1 q b ((hU A bl q Q k).2.getD b 0)
  |0,_,h=>by omega
  | k +1,b,h=>by
    have hl:=Bp (A:=A) (bl:=bl) q Q k;simp only[hU]
    by_cases c:b<k
    · have ih:=MD q Q k b c
      obtain⟨E,e⟩:=Dy (bl:=bl) (hU A bl q Q k).1 (A.d q k);rw[e,fy (by omega)];exact ih.more E
    · obtain rfl:b=k:=by omega
      rw[iy (by omega),hl,Nat.sub_self];exact PL _ q b
theorem PM(l:List Int)(b:Nat)(hb:b<256):(vec l).toList.getD b 0=l.getD b 0:=by
 have h:b<(vec l).toList.length:=by simp;exact hb
 rw[List.getD_eq_getElem?_getD,List.getElem?_eq_getElem h,Option.getD_some,Vector.getElem_toList];unfold vec;rw[Vector.getElem_ofFn]
structure JS(A:n')(bl:Nat->Nat)(n:Nat)(Q:List Nat)(out:List Row):Prop where
 len:out.length=n
 le:n<=Q.length
 rows:∀k,k<n->∀b,b<256->tO A bl Q (Q.getD k 0) b ((out.getD k (Vector.replicate 256 0)).toList.getD b 0)
theorem zR(_:A.Ok){n:Nat}{Q:List Nat}{out:List Row}(h:JS A bl n Q out)(hn:n<Q.length):JS A bl (n+1) (hU A bl (Q.getD n 0) Q 256).1 (out++[vec (hU A bl (Q.getD n 0) Q 256).2]):=by
 obtain⟨E,e⟩:=Bq (A:=A) (bl:=bl) (Q.getD n 0) Q 256;have hr:=MD (A:=A) (bl:=bl) (Q.getD n 0) Q 256;have hlen:=h.len;refine⟨by simp[hlen],by rw[e];simp;omega,fun k hk b hb=>?_⟩;have jD:k<Q.length:=by omega
 rw[e]at hr⊢;rw[fy jD]
 by_cases c:k<n
 ·rw[fy (by omega)]
  exact(h.rows k c b hb).more E
 ·obtain rfl:k=n:=by omega
  rw[iy (by omega),hlen,Nat.sub_self];show tO A bl (Q++E) (Q.getD k 0) b ((vec _).toList.getD b 0)
  rw[PM _ b hb];exact hr b hb
theorem r8{Q:List Nat}{n:Nat}(h:n<Q.length):Q.getD n 0∈Q:=by
 rw[List.getD_eq_getElem?_getD,List.getElem?_eq_getElem h];exact List.getElem_mem h
theorem ME(hA:A.Ok):∀(f n:Nat) (Q:List Nat) (out:List Row),JR A bl Q->JS A bl n Q out->A.n+1<=f+n->JR A bl (p6 A bl f n Q out).1/\JS A bl (p6 A bl f n Q out).1.length (p6 A bl f n Q out).1 (p6 A bl f n Q out).2
  |0,n,Q,out,hQ,hO,hf=>by have:=hQ.len;have:=hO.le;omega
  | f +1,n,Q,out,hQ,hO,hf=>by
    unfold p6;split
    · rename_i hn
      exact ME hA f _ _ _ (uN hA hQ (hQ.lt _ (r8 hn)) 256 (Nat.le_refl _)) (zR hA hO hn) (by omega)
    · rename_i hn
      have:=hO.le;obtain rfl:n=Q.length:=by omega
      exact⟨hQ,hO⟩
theorem FW(hA:A.Ok):JR A bl (lq A bl).1/\JS A bl (lq A bl).1.length (lq A bl).1 (lq A bl).2:=
 ME hA _ _ _ _ (V6 hA) ⟨rfl,Nat.zero_le _,fun k hk=>by omega⟩ (by omega)
theorem MF(hA:A.Ok){k:Nat}(hk:k<(FV A).n){b:Nat}(hb:b<256):tO A (cz A) (lq A (cz A)).1 ((lq A (cz A)).1.getD k 0) b ((FV A).d k b):=
 (FW (bl:=cz A) hA).2.rows k hk b hb
theorem Bo{Q:List Nat}(hn:(Q.map bl).Nodup){k:Nat}(hk:k<Q.length):idx (Q.map bl) (bl (Q.getD k 0))=k:=by
 have h:k<(Q.map bl).length:=by simpa using hk
 have:=vV hn h;rw[List.getElem_map]at this;rw[List.getD_eq_getElem?_getD,List.getElem?_eq_getElem hk];exact this
theorem PN{k:Nat}(hk:k<(FV A).n):(FV A).tag k=A.tag ((lq A (cz A)).1.getD k 0):=by
 have jD:k<(lq A (cz A)).1.length:=hk;show((lq A (cz A)).1.map A.tag).getD k 0=_
 rw[List.getD_eq_getElem?_getD,List.getElem?_map,List.getD_eq_getElem?_getD,List.getElem?_eq_getElem jD];rfl
theorem PO(hA:A.Ok):(FV A).Ok:=by
 obtain⟨hQ,hO⟩:=FW (bl:=cz A) hA;obtain⟨h1,h2⟩:=hQ.len;have hle:=hA.le;refine⟨h2,Nat.le_trans h1 hle,fun k hk b hb=>?_,fun k hk=>by rw[PN hk];exact hA.tags _ (hQ.lt _ (r8 hk))⟩;have hr:=MF hA hk hb
 by_cases c:val (cz A) (A.d ((lq A (cz A)).1.getD k 0) b)=0
 ·rw[hr.1 c];exact⟨by omega,by omega⟩
 ·obtain⟨r1,r2⟩:=hr.2 c
  have:=iV r1;rw[List.length_map]at this;rw[r2];exact⟨by omega,by show _<((lq A (cz A)).1.length:Int);omega⟩
end
end bT
namespace bT
section
variable{A B:n'}
def FX(A B:n')(q r:Int):Prop:=∀s,tg A (go A q s)=tg B (go B r s)
theorem FX.step{q r:Int}(h:FX A B q r)(b:Nat)(hb:b<256):FX A B (dt A q b) (dt B r b):=fun s=>by
 have:=h (UInt8.ofNat b::s);have e:(UInt8.ofNat b).toNat=b:=by simp;omega
 simp only[go,e]at this;exact this
theorem r9(f:Nat->Nat)(q:Nat):val f (q:Int)=f q:=by unfold val;rw[if_neg (by omega),Int.toNat_natCast]
end
end bT
namespace bH
open Go.RowKit bL db rl bT
def cZ(r:Row):List Value:=r.toList.map (.int .i16)
theorem bQ(r:Row):(cZ r).length=256:=by simp[cZ]
theorem kX(r:Row){b:Nat}(hb:b<256):(cZ r)[b]?=some (.int .i16 r[b]):=by
 unfold cZ;rw[List.getElem?_map,List.getElem?_eq_getElem (by simpa using hb),Vector.getElem_toList];rfl
theorem row_one(l:List Row):∀u∈l.flatMap cZ,u.oneCell'=true:=by
 intro u hu;obtain⟨x,_,h⟩:=List.mem_flatMap.1 hu;obtain⟨n,_,rfl⟩:=List.mem_map.1 h;rfl
theorem mA(r:Row):(cZ r).all Value.oneCell'=true:=List.all_eq_true.2 fun u hu=>row_one [r] u (by simpa using hu)
def eS(vr vt:Value):Value:= .agg #[vr,vt]
def pL:Row:=Vector.replicate 256 0
structure yi(w:World)(vr vt:Value)(R:List Row)(tags:List Int):Prop where
 hR:Sl w vr R.length (R.flatMap cZ)
 hT:Sl w vt tags.length (tags.flatMap bL.dK)
 Tk:∀r∈R,∀x∈r.toList,-32768<=x/\x<=32767
 okT:∀x∈tags,bL.bX x
theorem yi.gr{w w':World}{vr vt:Value}{R:List Row}{tags:List Int}(h:yi w vr vt R tags)(hg:Gr w w'):yi w' vr vt R tags:=⟨h.hR.gr hg,h.hT.gr hg,h.Tk,h.okT⟩
theorem yi.V7{w:World}{vr vt:Value}{R:List Row}{tags:List Int}(h:yi w vr vt R tags):Rh w (eS vr vt) (R.map Vector.toList) tags:=by
 refine⟨vr,vt,rfl,?_,?_,fun r hr=>by obtain⟨x,_,rfl⟩:=List.mem_map.1 hr;simp⟩
 ·obtain⟨base,cap,h1,h2,h3,h4⟩:=h.hR
  refine⟨base,cap,by rw[List.length_map];exact h1,by rw[List.length_map];exact h2,h3,fun h0=>?_⟩;rw[List.length_map]at h0;obtain⟨b,off,h5,h6⟩:=h4 h0;refine⟨b,off,h5,fun i hi=>?_⟩;have kz:i<R.length:=by simpa using hi
  refine⟨cZ R[i],⟨by simp,by simp[cZ],fun x hx=>h.Tk R[i] (List.getElem_mem kz) x (by simpa using hx)⟩,fun j u hj=>?_⟩;have GV:j<256:=by have:=(List.getElem?_eq_some_iff.1 hj).1;rwa [bQ]at this
  have:=h6 (i*256+j) u (by rw[qe bQ R i j kz GV];exact hj);rw[Nat.add_assoc];exact this
 ·obtain⟨base,cap,h1,h2,h3,h4⟩:=h.hT
  refine⟨base,cap,h1,h2,h3,fun h0=>?_⟩;obtain⟨b,off,h5,h6⟩:=h4 h0;refine⟨b,off,h5,fun i hi=>⟨[.int .i64 tags[i]],⟨rfl,h.okT _ (List.getElem_mem hi)⟩,fun j u hj=>?_⟩⟩;have S4:j=0:=by have:=(List.getElem?_eq_some_iff.1 hj).1;simpa using this
  subst S4;rw[Nat.mul_one,Nat.add_zero];refine h6 i u ?_;rw[show tags.flatMap bL.dK=tags.map (.int .i64)from bL.KB tags,List.getElem?_map,List.getElem?_eq_getElem hi];exact hj
def dA(R:List Row)(tags:List Int):n':=⟨R.length,fun i b=>(R.getD i pL).toList.getD b 0,fun i=>tags.getD i 0⟩
def jc(R:List Row)(tags:List Int):Int:=sG (R.map Vector.toList) tags
theorem zS(R:List Row){i:Nat}(hi:i<R.length):(R.map Vector.toList).getD i []=(R.getD i pL).toList:=by
 rw[List.getD_eq_getElem?_getD,List.getElem?_map,List.getD_eq_getElem?_getD,List.getElem?_eq_getElem hi];rfl
theorem oQ{R:List Row}{tags:List Int}(h:jc R tags=0):(dA R tags).Ok/\tags.length=R.length:=by
 obtain⟨h1,h2,h3,h4⟩:=Ly h;rw[List.length_map]at h1 h2 h3 h4;refine⟨⟨h2,h1,fun i hi b hb=>?_,fun i hi=>?_⟩,h3⟩
 ·have:=(h4 i hi).2.2
  rw[zS R hi]at this;refine this _ ?_;show(R.getD i pL).toList.getD b 0∈_
  rw[List.getD_eq_getElem?_getD (l:=(R.getD i pL).toList),List.getElem?_eq_getElem (by simpa using hb)];exact List.getElem_mem _
 ·have:=h4 i hi
  exact⟨this.1,this.2.1⟩
theorem Br{R:List Row}{tags:List Int}(h:(dA R tags).Ok)(hl:tags.length=R.length):jc R tags=0:=by
 have h1:R.length<=200:=h.le;have h2:0<R.length:=h.pos;unfold jc sG;rw[List.length_map,if_neg (by omega),if_neg (by omega),if_neg];simp only[List.any_eq_true,List.mem_range,not_exists,not_and];intro i hi;have ht:=h.tags i hi;have hs:=h.step i hi;rw[zS R hi];simp only[jp,Bool.or_eq_true,decide_eq_true_eq,List.any_eq_true,not_or,not_exists,not_and];refine⟨⟨?_,?_⟩,fun t OS=>?_⟩
 ·show ¬tags.getD i 0< -1
  have: -1<=tags.getD i 0:=ht.1;omega
 ·have:tags.getD i 0<20:=ht.2
  omega
 ·obtain⟨b,hb,rfl⟩:=List.mem_iff_getElem.1 OS
  have Aq:b<256:=by simpa using hb
  have:=hs b Aq;have e:(dA R tags).d i b=(R.getD i pL).toList[b]:=by
   show(R.getD i pL).toList.getD b 0=_
   rw[List.getD_eq_getElem?_getD (l:=(R.getD i pL).toList),List.getElem?_eq_getElem hb];rfl
  rw[e]at this;have e2:(dA R tags).n=R.length:=rfl;omega
def pK(R:List Row)(tags:List Int)(s:List UInt8):Int×Int:=if jc R tags=0 then(tg (dA R tags) (go (dA R tags) 0 s),0)else(0,jc R tags)
end bH
namespace bH
open Go.RowKit bL db rl bT
theorem r_{R:List Row}{tags:List Int}{i:Nat}(h:i<tags.length):(dA R tags).tag i=tags[i]:=by
 show tags.getD i 0=_
 rw[List.getD_eq_getElem?_getD,List.getElem?_eq_getElem h];rfl
theorem Dz{R:List Row}{tags:List Int}{i b:Nat}(h:i<R.length)(hb:b<256):(dA R tags).d i b=(R[i])[b]:=by
 show(R.getD i pL).toList.getD b 0=_
 rw[List.getD_eq_getElem?_getD (l:=R),List.getElem?_eq_getElem h,Option.getD_some,List.getD_eq_getElem?_getD,List.getElem?_eq_getElem (by simpa using hb),Option.getD_some,Vector.getElem_toList]
theorem HZ(r:Row){b:Nat}(hb:b<256)(x:Int):(cZ r).toArray.setIfInBounds b (.int .i16 x)=(cZ (r.set b x)).toArray:=by
 unfold cZ;rw[Vector.toList_set,List.map_set];simp
theorem mB{P:Program}{n:Nat}{W:bB}{fr:Fr}{L:List bz}{Q:Exit->Act->World->Prop}{ops:Array Oper}{rest:List Oper}{ty:TypeId}{pos:String}{after:Array Edge}{t:TypeId}{p x:Operand}{i g b:Nat}{r:Row}{T:TypeId}{agg:Bool}{z:Int}[hT:ak P t agg 1](hi:L[i]?=some (ap g (cZ r).toArray T))(hp:ev fr p=some (.pointer (some ⟨g,0+b,none⟩)))(hx:ev fr x=some (.int .i16 z))(hb:b<256)
 (h:TL P n W ops Q rest fr (L.set i (ap g (cZ (r.set b z)).toArray T))):TL P n W ops Q (⟨none,.store t p x,ty,pos,after,none⟩::rest) fr L:=by
 rw[Nat.zero_add]at hp;refine bD hi hp hx rfl rfl ?_ ?_
 ·rw[List.size_toArray,bQ];exact Nat.blt_eq▸hb
 ·rw[HZ r hb];exact h
def sa(x y:Int)(b:Nat):Row:=Vector.ofFn fun i:Fin 256=>if i<b then x else y
theorem JT(x y:Int)(b:Nat)(hb:b<256):(sa x y b).set b x=sa x y (b+1):=by
 refine Vector.ext fun i hi=>?_;unfold sa;rw[Vector.getElem_set,Vector.getElem_ofFn,Vector.getElem_ofFn];split
 ·rename_i e;subst e;simp
 ·have:i<b↔i<b+1:=by omega
  simp only[this]
theorem PP(x y:Int):sa x y 0=Vector.replicate 256 y:=by
 refine Vector.ext fun i hi=>?_;unfold sa;simp
theorem JU(x y:Int):sa x y 256=Vector.replicate 256 x:=by
 refine Vector.ext fun i hi=>?_;unfold sa;simp[hi]
theorem xf:(List.replicate 256 (Value.int .i16 0)).toArray=(cZ (Vector.replicate 256 0)).toArray:=by
 unfold cZ;rw[Vector.toList_replicate,List.map_replicate]
def uj(r:Row):Value:= .agg (cZ r).toArray
theorem tP(x:Int)(w:World):Calls Tryz.prog 48 #[.int .i16 x] w (bU (ret (uj (Vector.replicate 256 x))) w):=by
 refine enter (args:=[.int .i16 x]) (n:=13) Tryz.func48 rfl rfl rfl ?_;refine bJ (aV (aF rfl fun g=>?_))
 try refine GA ?_
 refine aF rfl fun g3=>?_;refine zL ?_;rw[xf]
 try refine GA ?_
 rw[<-PP x 0];refine cX (ι:=Nat) (fun b=>b<=256) (fun b=>[(0,.int .i16 x),(2,.pointer (some ⟨g,0,none⟩)),(3,.pointer (some ⟨g3,0,none⟩)),(5,.int .i64 (b:Int))]) (fun b=>[ap g (cZ (sa x 0 0)).toArray 150,ap g3 (cZ (sa x 0 b)).toArray 150]) (fun b=>256-b) 0 (Nat.zero_le _) ?_;intro b hb
 by_cases c:b<256
 ·repeat(first|refine GA ?_|refine gV (eL aT.eq ak.ty rfl rfl c) ?_)
  refine mB (i:=1) rfl rfl rfl c ?_;rw[JT x 0 b c];refine zL ?_
  try refine GA ?_
  exact aY (b+1) (by omega) (by show 256-(b+1)<256-b;omega)
 ·obtain rfl:b=256:=by omega
  rw[JU]
  repeat(first|refine GA ?_|refine gV (aE (i:=1) ak.ty rfl rfl (by rw[List.size_toArray,bQ])) ?_)
  refine aD (i:=0) rfl rfl rfl (by rw[List.size_toArray,bQ]) (by have:=mA (Vector.replicate 256 x);simpa using this) (by rw[List.size_toArray,bQ]) ?_;refine zL ?_
  try refine GA ?_
  exact e8 (i:=0) rfl rfl rfl (by rw[List.size_toArray,bQ]) fun w hm=>hm.ret
end bH
namespace bH
open Go.RowKit bL db bT
def lO(k:Kind):List Value:= .int .i64 k.1::cZ k.2
def DA(k:Kind):Value:= .agg (lO k).toArray
theorem iJ(k:Kind):(lO k).length=257:=by simp[lO,bQ]
def H0(r:Row):Prop:=∀(b:Nat) (h:b<256),(-32768:Int)<=r[b]/\r[b]<=32767
theorem MG{r r':Row}(h:cZ r=cZ r'):r=r':=by
 refine Vector.ext fun b hb=>?_;have h1:=kX r hb;rw[h,kX r' hb]at h1;simp at h1;exact h1.symm
theorem Tl{r:Row}(h:H0 r)(d:Nat):KL Tryz.prog (d+2) 150 (cZ r):=by
 have e2:Tryz.prog.cellsOf 150=256:=by kernel_rfl
 have e3:Tryz.prog.cellsOf 148=1:=by kernel_rfl
 refine Lm (d:=d+1) Tryz.underlying150 (by rw[bQ,e2]) fun i hi=>?_;have hc:((cZ r).drop (i*Tryz.prog.cellsOf 148)).take (Tryz.prog.cellsOf 148)=[.int .i16 r[i]]:=by
  rw[e3,Nat.mul_one];have hl:i<(cZ r).length:=by rw[bQ];exact hi
  rw[List.drop_eq_getElem_cons hl];have:=kX r hi;rw[List.getElem?_eq_getElem hl]at this;rw[Option.some.inj this];rfl
 rw[hc];exact n0 Tryz.underlying148 (h i hi).1 (h i hi).2
set_option maxRecDepth 100000 in
theorem MH(k:Kind)(h:bL.bX k.1/\H0 k.2):∃l,keyOf Tryz.prog 188 (DA k)=some l:=by
 have e1:Tryz.prog.cellsOf 188=257:=by kernel_rfl
 have e2:Tryz.prog.cellsOf 150=256:=by kernel_rfl
 have e3:Tryz.prog.cellsOf 3=1:=by kernel_rfl
 refine AH (m:=3) (by kernel_rfl) (by kernel_rfl) (by rw[iJ,e1]) (uB 3 (by kernel_rfl)) fun d=>?_;refine sF (d:=d+2) Tryz.underlying188 (by rw[iJ,e1]) (by kernel_rfl) fun f hf=>?_;simp only[List.mem_cons,List.not_mem_nil,or_false]at hf;rcases hf with rfl|rfl
 ·rw[e3]
  exact n0 (d:=d+1) Tryz.underlying3 h.1.1 h.1.2
 ·show KL Tryz.prog (d+2) 150 (((lO k).drop 1).take (Tryz.prog.cellsOf 150))
  rw[e2];have:((lO k).drop 1).take 256=cZ k.2:=by
   show(cZ k.2).take 256=_
   rw[List.take_of_length_le (by rw[bQ];omega)]
  rw[this];exact Tl h.2 d
theorem PQ:(188:TypeId)<Tryz.prog.types.size:=of_decide_eq_true (by kernel_rfl)
set_option maxRecDepth 100000 in
def oR:qi Tryz.prog 188 Kind where
  kv:=DA
  ok k:=bL.bX k.1/\H0 k.2
  law:=deep_law_laid uA (m:=3) (by omega) PQ (by kernel_rfl) (by kernel_rfl)
  key x h:=MH x h
  inj x y h:=by
    simp only[DA,Value.agg.injEq,Array.mk.injEq,lO,List.cons.injEq,Value.int.injEq,true_and]at h;exact Prod.ext h.1 (MG h.2)
abbrev xg:=Vector Int 200
def qG(c:xg):List Value:=c.toList.map (.int .i16)
def Tm(c:xg):Value:= .agg (qG c).toArray
theorem mC(c:xg):(qG c).length=200:=by simp[qG]
theorem xh(c:xg){b:Nat}(hb:b<200):(qG c)[b]?=some (.int .i16 c[b]):=by
 unfold qG;rw[List.getElem?_map,List.getElem?_eq_getElem (by simpa using hb),Vector.getElem_toList];rfl
def MI(c:xg):Prop:=∀(b:Nat) (h:b<200),(-32768:Int)<=c[b]/\c[b]<=32767
set_option maxRecDepth 100000 in
theorem PR(c:xg)(h:MI c):∃l,keyOf Tryz.prog 157 (Tm c)=some l:=by
 have e2:Tryz.prog.cellsOf 157=200:=by kernel_rfl
 have e3:Tryz.prog.cellsOf 148=1:=by kernel_rfl
 refine AH (m:=2) (by kernel_rfl) (by kernel_rfl) (by rw[mC,e2]) (uB 2 (by kernel_rfl)) fun d=>?_;refine Lm (d:=d+1) Tryz.underlying157 (by rw[mC,e2]) fun i hi=>?_;have hc:((qG c).drop (i*Tryz.prog.cellsOf 148)).take (Tryz.prog.cellsOf 148)=[.int .i16 c[i]]:=by
  rw[e3,Nat.mul_one];have hl:i<(qG c).length:=by rw[mC];exact hi
  rw[List.drop_eq_getElem_cons hl];have:=xh c hi;rw[List.getElem?_eq_getElem hl]at this;rw[Option.some.inj this];rfl
 rw[hc];exact n0 Tryz.underlying148 (h i hi).1 (h i hi).2
theorem Tn:(157:TypeId)<Tryz.prog.types.size:=of_decide_eq_true (by kernel_rfl)
set_option maxRecDepth 100000 in
def DB:qi Tryz.prog 157 xg where
  kv:=Tm
  ok:=MI
  law:=deep_law_laid uA (m:=2) (by omega) Tn (by kernel_rfl) (by kernel_rfl)
  key x h:=PR x h
  inj x y h:=by
    simp only[Tm,Value.agg.injEq,Array.mk.injEq]at h;refine Vector.ext fun b hb=>?_;have h1:=xh x hb;rw[h,xh y hb]at h1;simp at h1;exact h1.symm
theorem MJ(w:World):(zeroValue 3).run Tryz.prog w= .ok (.int .i64 0) w:=by kernel_rfl
end bH
namespace bH
open Go.RowKit bL db rl bT
set_option maxRecDepth 100000 in
theorem FY(w:World):(Instr.build 188 #[(1,uj (Vector.replicate 256 0))]).run Tryz.prog w= .ok (DA dead) w:=by kernel_rfl
set_option maxRecDepth 100000 in
theorem FZ(x:Int)(w:World):(Instr.build 188 #[(0,.int .i64 x)]).run Tryz.prog w= .ok (DA (x,Vector.replicate 256 0)) w:=by kernel_rfl
theorem F0{x:Int}(h0: -32768<=x)(h1:x<=32767):IntKind.i16.wrap x=x:=by
 simp only[IntKind.wrap,IntKind.bits,IntKind.signed];simp;omega
abbrev ie(x:Int):Value:= .int .i64 x
theorem MK(x:Int)(r:Row){b:Nat}(hb:b<256)(y:Int):(lO (x,r)).toArray.setIfInBounds (1+b) (.int .i16 y)=(lO (x,r.set b y)).toArray:=by
 have e:1+b=b+1:=by omega
 unfold lO;rw[e,List.setIfInBounds_toArray,List.set_cons_succ];have:=HZ r hb y;rw[List.setIfInBounds_toArray]at this;have h2:(cZ r).set b (.int .i16 y)=cZ (r.set b y):=by simpa using this
 rw[h2]
section
variable{P:Program}{n:Nat}{W:bB}{fr:Fr}{L:List bz}{Q:Exit->Act->World->Prop}{ops:Array Oper}{rest:List Oper}{ty:TypeId}{pos:String}{after:Array Edge}
theorem JV{t:TypeId}{p x:Operand}{i g b:Nat}{y:Int}{r:Row}{T:TypeId}{agg:Bool}{z:Int}[hT:ak P t agg 1](hi:L[i]?=some (ap g (lO (y,r)).toArray T))(hp:ev fr p=some (.pointer (some ⟨g,1+b,none⟩)))(hx:ev fr x=some (.int .i16 z))(hb:b<256)
 (h:TL P n W ops Q rest fr (L.set i (ap g (lO (y,r.set b z)).toArray T))):TL P n W ops Q (⟨none,.store t p x,ty,pos,after,none⟩::rest) fr L:=by
 refine bD hi hp hx rfl rfl ?_ ?_
 ·rw[List.size_toArray,iJ];exact Nat.blt_eq▸(by omega:1+b<257)
 ·rw[MK y r hb];exact h
end
def xi(A:n')(now:Nat->Nat)(i b:Nat):Row:=Vector.ofFn fun j:Fin 256=>if j<b then(val now (A.d i j):Int)else 0
theorem To(A:n')(now:Nat->Nat)(i:Nat):xi A now i 0=Vector.replicate 256 0:=by
 refine Vector.ext fun j hj=>?_;unfold xi;simp
theorem ML(A:n')(now:Nat->Nat)(i:Nat):((now i:Int),xi A now i 256)=kind A now i:=by
 refine Prod.ext rfl (Vector.ext fun j hj=>?_);unfold xi kind;simp[hj]
theorem DC(A:n')(now:Nat->Nat)(i b:Nat)(hb:b<256):(xi A now i b).set b (val now (A.d i b):Int)=xi A now i (b+1):=by
 refine Vector.ext fun j hj=>?_;unfold xi;rw[Vector.getElem_set,Vector.getElem_ofFn,Vector.getElem_ofFn];split
 ·rename_i e;subst e;simp
 ·have:j<b↔j<b+1:=by omega
  simp only[this]
theorem JW(A:n')(now:Nat->Nat)(i b:Nat)(hb:b<256)(h0:val now (A.d i b)=0):xi A now i b=xi A now i (b+1):=by
 rw[<-DC A now i b hb,h0];refine Vector.ext fun j hj=>?_;rw[Vector.getElem_set];split
 ·rename_i e;subst e;unfold xi;simp
 ·rfl
structure Bt(A:n')(f n:Nat)(now:Nat->Nat):Prop where
 eq:cz A=yZ A f n now
 rd:n=0\/Hj A n now
 le:n<=A.n+1
 fuel:A.n+2<=f+n
 lim:∀i,i<A.n->now i<=200
theorem PT{A:n'}(hA:A.Ok):Bt A (A.n+2) 0 (rp A):=⟨rfl,.inl rfl,Nat.zero_le _,by omega,fun i hi=>by unfold rp;have:=hA.tags i hi;omega⟩
theorem DD{A:n'}(hA:A.Ok){f n:Nat}{now:Nat->Nat}(h:Bt A f n now):∃f',f=f'+1/\((iS A now).length=n->cz A=next A now)/\((iS A now).length≠n->Bt A f' (iS A now).length (next A now)):=by
 have h1:=h.le;have h2:=h.fuel;obtain⟨f',rfl⟩:∃f',f=f'+1:=⟨f-1,by omega⟩;have e:=h.eq;unfold yZ at e;refine⟨f',rfl,fun hc=>by rw[e,if_pos hc],fun hc=>⟨by rw[e,if_neg hc],.inr ⟨now,rfl,rfl⟩,sH now,?_,fun i hi=>?_⟩⟩
 ·have hp:=Hi (A:=A) now
  rcases h.rd with rfl|hr
  ·omega
  ·have:=(qo hr).1;omega
 ·have:=lC (A:=A) (now:=now) (q:=(i:Int)) (by omega)
  rw[r9]at this;have h3:=sH (A:=A) now;have h4:=hA.le;omega
theorem PU{A:n'}{now:Nat->Nat}(h:∀i,i<A.n->now i<=200){q:Int}(hq:St A q):val now q<=200:=by
 unfold val;split
 ·omega
 ·exact h _ (by unfold St at hq;omega)
theorem PV{A:n'}(hA:A.Ok){now:Nat->Nat}(h:∀i,i<A.n->now i<=200){i:Nat}(hi:i<A.n):bL.bX (kind A now i).1/\H0 (kind A now i).2:=by
 refine⟨?_,fun b hb=>?_⟩
 ·have:=h i hi
  show bL.bX (now i:Int)
  exact⟨by omega,by omega⟩
 ·have:=PU h (hA.step i hi b hb)
  unfold kind;rw[Vector.getElem_ofFn];show-32768<=(val now (A.d i b):Int)/\(val now (A.d i b):Int)<=32767
  omega
def fZ(A:n')(now:Nat->Nat)(i:Nat):List Kind:=cg [dead] ((kinds A now).take i)
theorem JX(A:n')(now:Nat->Nat):fZ A now A.n=iS A now:=by unfold fZ iS;rw[List.take_of_length_le (by simp[kinds])]
theorem zT(A:n')(now:Nat->Nat){i:Nat}(hi:i<A.n):∃h:i<(kinds A now).length,(kinds A now)[i]=kind A now i:=⟨by simpa[kinds]using hi,by simp[kinds]⟩
theorem PW(A:n')(now:Nat->Nat){i:Nat}(hi:i<A.n)(h:kind A now i∈fZ A now i):fZ A now (i+1)=fZ A now i/\next A now i=idx (fZ A now i) (kind A now i):=by
 obtain⟨hl,e⟩:=zT A now hi;have h2:=Lo (D:=[dead]) hl;unfold fZ at h;rw[e,if_pos h]at h2;refine⟨?_,h2⟩;unfold fZ;rw[List.take_succ_eq_append_getElem hl,gJ,e,more,if_pos];exact h
theorem PX(A:n')(now:Nat->Nat){i:Nat}(hi:i<A.n)(h:kind A now i∉fZ A now i):fZ A now (i+1)=fZ A now i++[kind A now i]/\next A now i=(fZ A now i).length:=by
 obtain⟨hl,e⟩:=zT A now hi;have h2:=Lo (D:=[dead]) hl;unfold fZ at h;rw[e,if_neg h]at h2;refine⟨?_,h2⟩;unfold fZ;rw[List.take_succ_eq_append_getElem hl,gJ,e,more,if_neg];exact h
theorem MM(A:n')(now:Nat->Nat)(i:Nat):(fZ A now i).length<=A.n+1:=by
 have h:=sH (A:=A) now;have e:kinds A now=(kinds A now).take i++(kinds A now).drop i:=(List.take_append_drop _ _).symm;have UR:∀(a b D:List Kind),cg D (a++b)=cg (cg D a) b:=by
  intro a
  induction a with
  |nil=>intro b D;rfl
  |cons x a ih=>intro b D;exact ih b _
 obtain⟨E,h2⟩:=mV ((kinds A now).drop i) (fZ A now i);have h3:iS A now=fZ A now i++E:=by
  unfold iS;rw[e,UR];exact h2
 rw[h3,List.length_append]at h;omega
set_option maxRecDepth 100000 in
theorem Bu(vr vt:Value)(R:List Row)(tags:List Int)(w:World)(h:yi w vr vt R tags)(hc:jc R tags=0):
    Calls Tryz.prog 47 #[eS vr vt] w (bU ⟨fun _=>True,fun(g:Nat)=> .slice (some ⟨g,0,none⟩) R.length R.length,fun g=>[dC 3 ie g R.length fun i=>(cz (dA R tags) i:Int)]⟩ w):=by
  obtain⟨hA,hlt⟩:=oQ hc;obtain⟨bt,ct,rfl,Xr,OT,EW⟩:=h.hT;obtain⟨br,cr,rfl,EV,l_,yY⟩:=h.hR;have en:(dA R tags).n=R.length:=rfl;have yj:0<R.length:=hA.pos;have hle:R.length<=200:=hA.le;obtain⟨b,off,rfl,hr⟩:=yY yj;obtain⟨bb,uO,rfl,hrt⟩:=EW (by omega);unfold maxLen at l_ OT;have aaB:∀i,i<R.length->(dA R tags).tag i=tags.getD i 0:=fun i _=>rfl;clear yY EW h;refine enter (args:=[eS (.slice (some ⟨b,off,none⟩) R.length cr) (.slice (some ⟨bb,uO,none⟩) tags.length ct)]) (n:=98) Tryz.func47 rfl rfl rfl ?_;refine bJ (aV (bK rfl rfl rfl fun g1=>?_))
  repeat(first|refine GA ?_|refine gV (J ak.ty rfl (ah (i:=0) rfl rfl)) ?_)
  refine kH ie 0 rfl rfl (by omega) (by omega) rfl fun g3=>?_;refine zL ?_
  repeat(first|refine GA ?_|refine gV (J ak.ty rfl (ah (i:=0) rfl rfl)) ?_)
  refine iu (ι:=Nat) (fun i=>i<=tags.length) (fun i=>[(1,.pointer (some ⟨g1,0,none⟩)),(3,.slice (some ⟨g3,0,none⟩) R.length R.length),(22,.slice (some ⟨bb,uO,none⟩) tags.length ct),(23,.int .i64 (tags.length:Int)),(24,.int .i64 (i:Int))])
    (fun i=>[ap g1 (eS (.slice (some ⟨b,off,none⟩) R.length cr) (.slice (some ⟨bb,uO,none⟩) tags.length ct)).cells 98,dC 3 ie g3 R.length fun j=>if j<i then(rp (dA R tags) j:Int)else 0]) (fun i=>tags.length-i) 0 (Nat.zero_le _) (by repeat' (first|exact True.intro|refine And.intro rfl ?_)) (by rw[kG (f':=fun j=>if j<0 then(rp (dA R tags) j:Int)else 0) fun i _=>by simp]) ?_
  intro i hi
  by_cases c1:i<tags.length
  · have du:=fx (W:=w) (L:=[ap g1 (eS (.slice (some ⟨b,off,none⟩) R.length cr) (.slice (some ⟨bb,uO,none⟩) tags.length ct)).cells 98,dC 3 ie g3 R.length fun j=>if j<i then(rp (dA R tags) j:Int)else 0]) (c:=1) (f:=bL.dK) (fun _=>rfl) hrt c1 0 _ rfl
    have UC:=hA.tags i (by omega);have h0:(rp (dA R tags) i:Int)=tags[i]+1:=by
      unfold rp;rw[r_ c1]at UC⊢;omega
    rw[r_ c1]at UC;generalize tags[i]=x at*
    repeat(first|refine GA ?_|refine gV (aH aT.eq ak.ty rfl rfl c1) ?_|refine gV (J ak.ty rfl du) ?_|refine gV (aO aT.eq ak.ty rfl rfl (show i<R.length by omega)) ?_)
    refine eX (i:=1) (off:=i) (v:=x+1) (fun j=>if j<i+1 then(rp (dA R tags) j:Int)else 0) ak.ty rfl rfl rfl rfl rfl (by omega) (fun j hj=>?_) ?_
    · by_cases e:j=i
      · subst e;rw[if_pos (by omega),if_pos rfl,h0]
      · rw[if_neg e]
        have:j<i+1↔j<i:=by omega
        simp only[this]
    refine zL ?_
    try refine GA ?_
    exact aY (i+1) (by omega) (by show tags.length-(i+1)<tags.length-i;omega)
  · obtain rfl:i=tags.length:=by omega
    rw[kG (f':=fun j=>(rp (dA R tags) j:Int)) fun j hj=>if_pos (show j<tags.length by omega)];clear c1 hi
    try refine GA ?_
    refine cX (ι:=Nat×Nat×(Nat->Nat)×Nat) (fun(f,c,now,_)=>Bt (dA R tags) f c now) (fun(_,c,_,g3)=>[(1,.pointer (some ⟨g1,0,none⟩)),(3,.slice (some ⟨g3,0,none⟩) R.length R.length),(6,.int .i64 (c:Int))])
      (fun(_,_,now,g3)=>[ap g1 (eS (.slice (some ⟨b,off,none⟩) R.length cr) (.slice (some ⟨bb,uO,none⟩) tags.length ct)).cells 98,dC 3 ie g3 R.length fun j=>(now j:Int)]) (fun(f,_,_,_)=>f) (R.length+2,0,rp (dA R tags),g3) (PT hA) ?_
    clear g3;rintro⟨f,c,now,g3⟩ eV;dsimp only at eV⊢;obtain⟨f',rfl,Za,hgo⟩:=DD hA eV;have vC:=eV.lim;have mb:=tP 0;clear eV;have V8:=sH (A:=dA R tags) now;rw[en]at V8
    try refine GA ?_
    refine sI (K:=oR) rfl fun gm=>?_;refine zL ?_
    try refine GA ?_
    refine aM (iT aj.en rfl rfl) (fun w hm=>mb _) rfl rfl rfl ?_;intro _ _
    repeat(first|refine GA ?_|refine gV (aU rfl FY) ?_)
    refine aF rfl fun g8=>?_;refine zL ?_;refine aD (i:=3) (cs':=(lO dead).toArray) rfl rfl rfl (by rw[List.size_toArray,iJ]) (by kernel_rfl) (by kernel_rfl) ?_;refine zL ?_
    repeat(first|refine GA ?_|refine gV (aE (i:=3) ak.ty rfl rfl (by rw[List.size_toArray,iJ])) ?_)
    refine sJ (K:=oR) (i:=2) (D:=[]) (x:=dead) aT.eq rfl rfl rfl rfl ⟨⟨by decide,by decide⟩,fun b hb=>by show-32768<=(Vector.replicate 256 (0:Int))[b]/\(Vector.replicate 256 (0:Int))[b]<=32767;rw[Vector.getElem_replicate];decide⟩ (by simp) (by decide) ?_;refine zL ?_;refine Cj [0,1,2] ?_
    try refine GA ?_
    refine kH ie 0 rfl rfl (by omega) (by omega) rfl fun g9=>?_;refine zL ?_
    repeat(first|refine GA ?_|refine gV (J ak.ty rfl (ah (i:=0) rfl rfl)) ?_)
    refine iu (ι:=Nat) (fun i=>i<=R.length) (fun i=>[(1,.pointer (some ⟨g1,0,none⟩)),(3,.slice (some ⟨g3,0,none⟩) R.length R.length),(6,.int .i64 (c:Int)),(7,.map (some gm)),(9,.slice (some ⟨g9,0,none⟩) R.length R.length),(44,.slice (some ⟨b,off,none⟩) R.length cr),(45,.int .i64 (R.length:Int)),(46,.int .i64 (i:Int))])
      (fun i=>[ap g1 (eS (.slice (some ⟨b,off,none⟩) R.length cr) (.slice (some ⟨bb,uO,none⟩) tags.length ct)).cells 98,dC 3 ie g3 R.length fun j=>(now j:Int),dr oR gm (gu (fZ (dA R tags) now i)) (fZ (dA R tags) now i).length,dC 3 ie g9 R.length fun j=>if j<i then(next (dA R tags) now j:Int)else 0]) (fun i=>R.length-i) 0 (Nat.zero_le _) (by repeat' (first|exact True.intro|refine And.intro rfl ?_)) (by rw[kG (g:=g9) (f:=fun _=>(0:Int)) (f':=fun j=>if j<0 then(next (dA R tags) now j:Int)else 0) fun i _=>by simp];rfl) ?_
    intro i hi
    by_cases c2:i<R.length
    · have du:=fx (W:=w) (L:=[ap g1 (eS (.slice (some ⟨b,off,none⟩) R.length cr) (.slice (some ⟨bb,uO,none⟩) tags.length ct)).cells 98,dC 3 ie g3 R.length fun j=>(now j:Int),dr oR gm (gu (fZ (dA R tags) now i)) (fZ (dA R tags) now i).length,dC 3 ie g9 R.length fun j=>if j<i then(next (dA R tags) now j:Int)else 0]) bQ hr c2
      have dW:∀(q:Nat) (hq:q<256),(dA R tags).d i q=(R[i])[q]:=fun q hq=>Dz c2 hq;have hst:∀b,b<256->St (dA R tags) ((dA R tags).d i b):=fun b hb=>hA.step i c2 b hb;generalize R[i]=r at*
      repeat(first|refine GA ?_|refine gV (aH aT.eq ak.ty rfl rfl c2) ?_|refine gV (aK ak.ty rfl (bQ r) du) ?_)
      refine aF rfl fun g11=>?_;refine zL ?_
      try refine GA ?_
      refine aD (i:=4) (cs':=(cZ r).toArray) rfl rfl rfl (by rw[List.size_toArray,bQ]) (by simpa using mA r) (by kernel_rfl) ?_;refine zL ?_;have zQ:=vC i c2
      repeat(first|refine GA ?_|refine gV (aO aT.eq ak.ty rfl rfl c2) ?_|refine gV (J ak.ty rfl (dQ (i:=1) rfl c2)) ?_|refine gV (aU rfl (FZ _)) ?_)
      refine aF rfl fun g12=>?_;refine zL ?_;refine aD (i:=5) (cs':=(lO ((now i:Int),Vector.replicate 256 0)).toArray) rfl rfl rfl (by rw[List.size_toArray,iJ]) (by rw[<-List.all_toArray];kernel_rfl) (by kernel_rfl) ?_;refine zL ?_
      repeat(first|refine GA ?_|refine gV (aE (i:=4) ak.ty rfl rfl (by rw[List.size_toArray,bQ])) ?_)
      rw[<-To (dA R tags) now i];refine pI [0,1,2,3,5] ?_;refine cX (ι:=Nat) (fun q=>q<=256) (fun q=>[(1,.pointer (some ⟨g1,0,none⟩)),(3,.slice (some ⟨g3,0,none⟩) R.length R.length),(6,.int .i64 (c:Int)),(7,.map (some gm)),(9,.slice (some ⟨g9,0,none⟩) R.length R.length),(44,.slice (some ⟨b,off,none⟩) R.length cr),(45,.int .i64 (R.length:Int)),(46,.int .i64 (i:Int)),(10,.int .i64 (i:Int)),(12,.pointer (some ⟨g12,0,none⟩)),(56,uj r),(57,.int .i64 (q:Int))])
        (fun q=>[ap g1 (eS (.slice (some ⟨b,off,none⟩) R.length cr) (.slice (some ⟨bb,uO,none⟩) tags.length ct)).cells 98,dC 3 ie g3 R.length fun j=>(now j:Int),dr oR gm (gu (fZ (dA R tags) now i)) (fZ (dA R tags) now i).length,dC 3 ie g9 R.length fun j=>if j<i then(next (dA R tags) now j:Int)else 0,ap g12 (lO ((now i:Int),xi (dA R tags) now i q)).toArray 188]) (fun q=>256-q) 0 (Nat.zero_le _) ?_
      intro q hq
      by_cases c3:q<256
      · have hcell:(cZ r).toArray[q]?=some (.int .i16 r[q]):=by rw[List.getElem?_toArray];exact kX r c3
        have hdq:=dW q c3;have hsq:=hst q c3;have pG:=DC (dA R tags) now i q c3;have RE:=JW (dA R tags) now i q c3;rw[hdq]at hsq pG RE;clear hdq dW hst;generalize r[q]=x at*;unfold St at hsq
        by_cases c4:x<0
        · have hv:val now x=0:=by unfold val;rw[if_pos c4]
          rw[RE hv]
          repeat(first|refine GA ?_|refine gV (fw aT.eq ak.ty rfl rfl c3 hcell) ?_)
          exact aY (q+1) (by omega) (by show 256-(q+1)<256-q;omega)
        · obtain⟨m,rfl⟩:∃m:Nat,x=m:=⟨x.toNat,by omega⟩
          have hm:m<R.length:=by omega
          have hlm:=vC m hm;rw[r9]at pG
          repeat(first|refine GA ?_|refine gV (fw aT.eq ak.ty rfl rfl c3 hcell) ?_|refine gV (aO aT.eq ak.ty rfl rfl hm) ?_|refine gV (J ak.ty rfl (dQ (i:=1) rfl hm)) ?_|refine gV (e7 aT.eq aT.eq rfl (F0 (by omega) (by omega))) ?_|refine gV (eL aT.eq ak.ty rfl rfl c3) ?_)
          refine JV (i:=4) rfl rfl rfl c3 ?_;rw[pG];refine zL ?_
          try refine GA ?_
          exact aY (q+1) (by omega) (by show 256-(q+1)<256-q;omega)
      · obtain rfl:q=256:=by omega
        rw[ML];have jU:=PV hA vC (i:=i) c2
        by_cases c5:kind (dA R tags) now i∈fZ (dA R tags) now i
        · obtain⟨e1,e2⟩:=PW (dA R tags) now (i:=i) c2 c5
          generalize kind (dA R tags) now i=k at*
          repeat(first|refine GA ?_|refine gV (aE (i:=4) ak.ty rfl rfl (by rw[List.size_toArray,iJ])) ?_|refine gV (ob (K:=oR) (i:=2) (x:=k) aT.eq MJ rfl rfl rfl jU c5) ?_|refine gV (aO aT.eq ak.ty rfl rfl c2) ?_)
          refine eX (i:=3) (off:=i) (v:=(next (dA R tags) now i:Int)) (fun j=>if j<i+1 then(next (dA R tags) now j:Int)else 0) ak.ty rfl rfl (by rw[e2];rfl) rfl rfl c2 (fun j hj=>?_) ?_
          · by_cases e:j=i
            · subst e;rw[if_pos (by omega),if_pos rfl]
            · rw[if_neg e]
              have:j<i+1↔j<i:=by omega
              simp only[this]
          refine zL ?_
          try refine GA ?_
          refine bR [0,1,2,3] ?_;exact aY (i+1) (by omega) (by show R.length-(i+1)<R.length-i;omega) (hl:=by rw[e1];rfl)
        · obtain⟨e1,e2⟩:=PX (dA R tags) now (i:=i) c2 c5
          have Se:=MM (dA R tags) now i;rw[en]at Se;generalize kind (dA R tags) now i=k at*
          repeat(first|refine GC ?_|refine gV (aE (i:=4) ak.ty rfl rfl (by rw[List.size_toArray,iJ])) ?_|refine gV (oc (K:=oR) (i:=2) (x:=k) aT.eq MJ rfl rfl rfl jU c5) ?_|refine gV (pf oR aT.eq (i:=2) rfl rfl) ?_|refine GB ?_)
          refine sJ (K:=oR) (i:=2) (x:=k) aT.eq rfl rfl rfl rfl jU c5 (by omega) ?_;refine zL ?_
          repeat(first|refine GA ?_|refine gV (aO aT.eq ak.ty rfl rfl c2) ?_)
          refine eX (i:=3) (off:=i) (v:=(next (dA R tags) now i:Int)) (fun j=>if j<i+1 then(next (dA R tags) now j:Int)else 0) ak.ty rfl rfl (by rw[e2];rfl) rfl rfl c2 (fun j hj=>?_) ?_
          · by_cases e:j=i
            · subst e;rw[if_pos (by omega),if_pos rfl]
            · rw[if_neg e]
              have:j<i+1↔j<i:=by omega
              simp only[this]
          refine zL ?_
          try refine GA ?_
          refine bR [0,1,2,3] ?_;exact aY (i+1) (by omega) (by show R.length-(i+1)<R.length-i;omega) (hl:=by rw[e1];rfl)
    · obtain rfl:i=R.length:=by omega
      rw[show fZ (dA R tags) now R.length=iS (dA R tags) now from JX (dA R tags) now];rw[kG (f':=fun j=>(next (dA R tags) now j:Int)) fun j hj=>if_pos hj]
      by_cases c6:(iS (dA R tags) now).length=c
      · rw[Za c6]
        repeat(first|refine GC ?_|refine gV (pf oR aT.eq (i:=2) rfl rfl) ?_|refine gV (cJ (b:=true) rfl rfl (decide_eq_true (by omega))) ?_|refine GB ?_)
        exact b_ rfl rfl fun w hm=>hm.meets (S:=⟨fun _=>True,fun(g:Nat)=> .slice (some ⟨g,0,none⟩) R.length R.length,fun g=>[dC 3 ie g R.length fun i=>(next (dA R tags) now i:Int)]⟩) g9 trivial [3] (by decide) rfl
      · repeat(first|refine GC ?_|refine gV (pf oR aT.eq (i:=2) rfl rfl) ?_|refine gV (cJ (b:=false) rfl rfl (decide_eq_false (by omega))) ?_|refine GB ?_)
        refine bR [0,3] ?_;exact aY (f',(iS (dA R tags) now).length,next (dA R tags) now,g9) (hgo c6) (Nat.lt_succ_self f')
end bH
namespace bH
open Go.RowKit bL db rl bT
theorem xj(vr vt:Value)(R:List Row)(tags:List Int)(w:World)(h:yi w vr vt R tags):Calls Tryz.prog 46 #[eS vr vt] w (bU (ret (.int .i64 (jc R tags))) w):=vY _ _ _ w h.V7
end bH
namespace bH
open Go.RowKit bL db bO d_ cV jS bT
set_option maxRecDepth 100000 in
theorem Tp(x y:C4)(w:World):(Op.equalIn 10000 180 (.agg (cC x).toArray) (.agg (cC y).toArray)).run Tryz.prog w= .ok (decide (x=y)) w:=by
 show(Op.equalIn 10000 180 (.agg #[v64 x.a,v64 x.b,v64 x.c,v64 x.d]) (.agg #[v64 y.a,v64 y.b,v64 y.c,v64 y.d])).run Tryz.prog w=_
 have e:(Op.equalIn 10000 180 (.agg #[v64 x.a,v64 x.b,v64 x.c,v64 x.d]) (.agg #[v64 y.a,v64 y.b,v64 y.c,v64 y.d])).run Tryz.prog w= .ok ((dO x.a==dO y.a)&&((dO x.b==dO y.b)&&((dO x.c==dO y.c)&&(dO x.d==dO y.d)))) w:=by
  unfold v64;rw[run_equalIn_array (P:=Tryz.prog) w 9999 (n:=4) (e:=63) _ _ rfl rfl];have h1:Tryz.prog.cellsOf 63=1:=rfl;simp[Op.eqItems,go_sem,List.range_succ_eq_map,h1]
  by_cases e1:dO x.a=dO y.a<;>by_cases e2:dO x.b=dO y.b<;>by_cases e3:dO x.c=dO y.c<;>by_cases e4:dO x.d=dO y.d<;>simp[e1,e2,e3,e4]
 rw[e]
 congr 1
 by_cases h:x=y
 ·subst h;simp
 ·rw[decide_eq_false h]
  by_cases e1:dO x.a=dO y.a<;>by_cases e2:dO x.b=dO y.b<;>by_cases e3:dO x.c=dO y.c<;>by_cases e4:dO x.d=dO y.d<;>simp[e1,e2,e3,e4]
  exact h (C4.ext' (kg e1) (kg e2) (kg e3) (kg e4))
theorem F3(w:World):(Instr.build 180 (#[]:Array (Nat×Value))).run Tryz.prog w= .ok (.agg (cC C4.zero).toArray) w:=by kernel_rfl
theorem PY{x:Int}(h0: -32768<=x)(h1:x<=32767):IntKind.i16.wrap x=x:=by
 simp only[IntKind.wrap,IntKind.bits,IntKind.signed];simp;omega
theorem DE(r:Row):(cZ r).toArray.toList.all Value.oneCell'=true:=List.all_eq_true.2 fun u hu=>row_one [r] u (by simpa using hu)
def zU(m:MS)(vc vr vf vfol vl ve rows:Value)(g gm n:Nat)(d:DM):Spec (Value×Value):=
 ⟨fun _=>True,fun _=>uj (lf m n d).1,fun x=>BX vc vr vf vfol vl ve rows g gm x.1 x.2 (lf m n d).2⟩
theorem PZ(p:PS)(all:C4)(b i:Nat):A0 p all b (i+1)=if all.mem i=true/\(p.aC.getD i C4.zero).mem b=true then(A0 p all b i).bit i else A0 p all b i:=rfl
theorem F4(p:PS)(all:C4)(f b:Nat)(r:Row)(d:DM):iW p all (f+1) b r d=if 200<(dN p all b r d).2.S.length+1 then dN p all b r d else iW p all f (b+1) (dN p all b r d).1 (dN p all b r d).2:=rfl
theorem P0{p:PS}{all:C4}{b:Nat}{r:Row}{d:DM}(hb:b<256)(h:A1 p all b=C4.zero):dN p all b r d=(r.set b (-1),d):=by unfold dN;rw[if_pos h,dif_pos hb]
theorem P1{p:PS}{all:C4}{b:Nat}{r:Row}{d:DM}(hb:b<256)(h:A1 p all b≠C4.zero):dN p all b r d=((r.set b (-1)).set b ((eU p d (A1 p all b)).1:Int),(eU p d (A1 p all b)).2):=by unfold dN;rw[if_neg h,dif_pos hb]
set_option maxRecDepth 100000 in
theorem Bv(m:MS)(vc vr vf vfol vl ve rows:Value)(d:DM)(g gm n:Nat)(vs vt:Value)(w0:World)(hp:yb w0 (.agg #[vc,vr,vf,vfol,vl,ve]) m)(h:AY m)(hd:Pc m.ps d)(XJ:d.S.length+1<=200)(hn:n<=d.S.length)(w:World)(B:bB)(ho:lc w0 B)
    (hm:Mem B (BX vc vr vf vfol vl ve rows g gm vs vt d) w):
    Calls Tryz.prog 45 #[.pointer (some ⟨g,0,none⟩),.int .i64 (n:Int)] w (dc (zU m vc vr vf vfol vl ve rows g gm n d) B):=by
  have qR:=fun w' (hg:Gr w0 w') h1 h2=>yc m vc vr vf vfol vl ve vs (.map (some gm)) rows vt d.S g n w' (hp.gr hg) h h1 h2 hn;have hst:=fun d' s ma Eu h1 h2 w' B' Ax ml=>wQ m vc vr vf vfol vl ve rows d' s g gm ma Eu w0 hp h h1 h2 w' B' Ax ml;obtain⟨_,_,_,_,_,_,he,h1,-⟩:=hp;simp only[Value.agg.injEq,Array.mk.injEq,List.cons.injEq,and_true]at he;obtain⟨rfl,rfl,rfl,rfl,rfl,rfl⟩:=he;have YV:=h.xU;clear h;obtain⟨ac,cc,rfl,-,-,V9⟩:=h1;unfold zU lf;generalize fW m d.S n=all at*;obtain⟨p,fi,em⟩:=m;dsimp only at*;unfold BX at hm;have Y7:=F3;refine eg hm (args:=[.pointer (some ⟨g,0,none⟩),.int .i64 (n:Int)]) (n:=60) Tryz.func45 rfl rfl rfl ?_;clear hm;refine bJ (aV (aF rfl fun g4=>?_));refine zL ?_;rw[xf]
  try refine GA ?_
  refine aM (fh aj.en rfl rfl rfl) (fun w hm=>qR w (ho.mem hm) (hm.get (i:=0) rfl) (Sl.cD (hm.get (i:=1) rfl))) rfl rfl rfl ?_;intro _ _;refine zL ?_;clear qR
  try refine GA ?_
  refine aF rfl fun g5=>?_;refine zL ?_;refine fU 5 (cs':=(cC all).toArray) ?_;refine zL ?_
  try refine GA ?_
  refine aF rfl fun g6=>?_;refine zL ?_;rw[xf]
  try refine GA ?_
  clear hn;generalize jh:iW p all 256 0 (Vector.replicate 256 0) d=fin;refine cX (ι:=Nat×Row×DM×Value×Value) (fun(b,r,d,_,_)=>b<=256/\Pc p d/\d.S.length+1<=200/\iW p all (256-b) b r d=fin) (fun(b,_,_,_,_)=>[(0,.pointer (some ⟨g,0,none⟩)),(4,.pointer (some ⟨g4,0,none⟩)),(5,.pointer (some ⟨g5,0,none⟩)),(6,.pointer (some ⟨g6,0,none⟩)),(14,.int .i64 (b:Int))])
    (fun(_,r,d,vs,vt)=>[ap g (BW (.slice ac p.aC.length cc) vr vf vfol vl ve vs (.map (some gm)) rows vt) 147,ka vs d.S,nl gm d.S,dT vt d.tags,ap g4 (cZ (Vector.replicate 256 0)).toArray 150,ap g5 (cC all).toArray 180,ap g6 (cZ r).toArray 150]) (fun(b,_,_,_,_)=>256-b) (0,Vector.replicate 256 0,d,vs,vt) ⟨Nat.zero_le _,hd,XJ,jh⟩ ?_
  clear hd XJ jh d vs vt;rintro⟨b,r,d,vs,vt⟩ ⟨i1,i2,i3,i4⟩;dsimp only at i1 i2 i3 i4⊢
  by_cases c1:b<256
  · rw[show 256-b=(256-(b+1))+1 by omega,F4]at i4
    try refine GA ?_
    refine aF rfl fun g8=>?_;refine zL ?_
    repeat(first|refine GA ?_|refine gV (J (v:= .slice ac p.aC.length cc) ak.ty rfl (ah (i:=0) rfl rfl)) ?_)
    refine cX (ι:=Nat) (fun k=>k<=p.aC.length) (fun k=>[(0,.pointer (some ⟨g,0,none⟩)),(4,.pointer (some ⟨g4,0,none⟩)),(5,.pointer (some ⟨g5,0,none⟩)),(6,.pointer (some ⟨g6,0,none⟩)),(7,.int .i64 (b:Int)),(8,.pointer (some ⟨g8,0,none⟩)),(14,.int .i64 (b:Int)),(21,.slice ac p.aC.length cc),(22,.int .i64 p.aC.length),(23,.int .i64 (k:Int))])
      (fun k=>[ap g (BW (.slice ac p.aC.length cc) vr vf vfol vl ve vs (.map (some gm)) rows vt) 147,ka vs d.S,nl gm d.S,dT vt d.tags,ap g4 (cZ (Vector.replicate 256 0)).toArray 150,ap g5 (cC all).toArray 180,ap g6 (cZ r).toArray 150,ap g8 (cC (A0 p all b k)).toArray 180]) (fun k=>p.aC.length-k) 0 (Nat.zero_le _) ?_
    intro k hk
    by_cases c2:k<p.aC.length
    · have Et:=PZ p all b k
      have HG:p.aC.getD k C4.zero=p.aC[k]:=by rw[List.getD_eq_getElem?_getD,List.getElem?_eq_getElem c2];rfl
      rw[HG]at Et;obtain⟨bc,Zb,rfl,V_⟩:=V9 (by omega);have V':=fun(L:List bz)=>Ft (L:=L) (f:=cC) (c:=4) (fun _=>rfl) ho V_ c2;clear V_ V9 HG;generalize p.aC[k]=c at*;have Wa:∀(L:List bz) (j:Nat) (u:Value),(cC c)[j]?=some u->At B L ⟨bc,Zb+k*4+j,none⟩ u:=V';clear V';have Mb:=fun w=>nc all k (by omega) w;have Zc:=fun w=>IV c b c1 w;generalize A0 p all b k=tz at*;generalize all.mem k=b1 at*;generalize c.mem b=b2 at*;have hu8:IntKind.u8.wrap (b:Int)=(b:Int):=by rw[IntKind.wrap_u8];omega
      repeat(first|refine GA ?_|refine gV (aH aT.eq ak.ty rfl rfl c2) ?_|refine gV (aK (cs:=cC c) ak.ty rfl rfl (Wa _)) ?_)
      refine aF rfl fun g10=>?_;refine zL ?_
      try refine GA ?_
      refine fU 8 (cs':=(cC c).toArray) ?_;refine zL ?_
      repeat(first|refine GA ?_|refine gV (aE (i:=5) ak.ty rfl rfl rfl) ?_)
      refine aM (fh aj.en rfl rfl rfl) (fun w hm=>Mb w) rfl rfl rfl ?_;intro _ _;refine zL ?_
      by_cases q1:b1=true
      · subst q1
        repeat(first|refine GA ?_|refine gV (aE (i:=8) ak.ty rfl rfl rfl) ?_|refine gV (e7 aT.eq aT.eq rfl hu8) ?_)
        refine me (fh aj.en rfl rfl rfl) (fun w hm=>Zc w) rfl rfl rfl rfl rfl ?_;intro _ _;refine zL ?_
        by_cases q2:b2=true
        · subst q2
          rw[if_pos ⟨rfl,rfl⟩]at Et
          try refine GA ?_
          refine aP [7] [0,1,2,3,4,5,6] (by decide) rfl rfl (fh aj.en rfl rfl rfl) (fun w hm hb=>nf tz k (by omega) g8 w _ hb) rfl rfl rfl ?_;intro _ _;refine zL ?_
          try refine GA ?_
          exact aY (k+1) (by omega) (by show p.aC.length-(k+1)<p.aC.length-k;omega) (hl:=by rw[Et])
        · rw[if_neg (fun h=>q2 h.2)]at Et
          obtain rfl:=Bool.eq_false_iff.2 q2
          try refine GA ?_
          refine bR [0,1,2,3,4,5,6,7] ?_;exact aY (k+1) (by omega) (by show p.aC.length-(k+1)<p.aC.length-k;omega) (hl:=by rw[Et];rfl)
      · rw[if_neg (fun h=>q1 h.1)]at Et
        obtain rfl:=Bool.eq_false_iff.2 q1
        try refine GA ?_
        refine bR [0,1,2,3,4,5,6,7] ?_;exact aY (k+1) (by omega) (by show p.aC.length-(k+1)<p.aC.length-k;omega) (hl:=by rw[Et];rfl)
    · obtain rfl:k=p.aC.length:=by omega
      have hF:A0 p all b p.aC.length=A1 p all b:=rfl;rw[hF];have uV:=P0 (p:=p) (all:=all) (r:=r) (d:=d) c1;have nK:=P1 (p:=p) (all:=all) (r:=r) (d:=d) c1;have Es:=Tp (A1 p all b) C4.zero;clear hF V9;generalize A1 p all b=tz at*
      repeat(first|refine GA ?_|refine gV (eL aT.eq ak.ty rfl rfl c1) ?_)
      refine mB (i:=6) rfl rfl rfl c1 ?_;refine zL ?_
      by_cases q1:tz=C4.zero
      · rw[decide_eq_true q1]at Es
        rw[uV q1,if_neg (by show ¬200<d.S.length+1;omega)]at i4;refine lz (i:=1) rfl dR fun dW=>?_;obtain⟨ab,cs,rfl,S9,-⟩:=dW
        repeat(first|refine GC ?_|refine gV (aE (i:=7) ak.ty rfl rfl rfl) ?_|refine gV (aU rfl Y7) ?_|refine gV (vd rfl rfl (by kernel_rfl) Es rfl) ?_|refine gV (J (v:= .slice ab (d.S.length+1) cs) ak.ty rfl (ah (i:=0) rfl rfl)) ?_|refine gV (eo (b:=false) rfl rfl (decide_eq_false (by omega))) ?_|refine GB ?_)
        refine bR [0,1,2,3,4,5,6] ?_;exact aY (b+1,r.set b (-1),d,.slice ab (d.S.length+1) cs,vt) ⟨by omega,i2,i3,i4⟩ (by show 256-(b+1)<256-b;omega)
      · rw[decide_eq_false q1]at Es
        rw[nK q1]at i4;obtain⟨s1,s2,s3,s4,s5⟩:=CZ i2 tz
        repeat(first|refine GC ?_|refine gV (aE (i:=7) ak.ty rfl rfl rfl) ?_|refine gV (aU rfl Y7) ?_|refine gV (vd rfl rfl (by kernel_rfl) Es rfl) ?_|refine GB ?_)
        refine aP [0,1,2,3] [4,5,6,7] (by decide) rfl rfl (fh aj.en rfl rfl rfl) (fun w hm hb=>hst d tz vs vt (by omega) (by have:=i2.tags;omega) w _ (ho.on hm (by simp[BX])) hb) rfl rfl rfl ?_;rintro⟨ma,Eu⟩ _
        conv=>arg 8;simp only[zJ,bW,ret,id_eq,Pt,BX]
        conv=>arg 7;simp only[Pt]
        generalize eU p d tz=R at*;obtain⟨q,d'⟩:=R;dsimp only at i4 s1 s2 s3 s4 s5⊢;have hq:q<=200:=by omega
        refine lz (i:=5) rfl dR fun dW=>?_;obtain⟨ab,cs,rfl,S9,-⟩:=dW
        repeat(first|refine GA ?_|refine gV (e7 aT.eq aT.eq rfl (PY (by omega) (by omega))) ?_|refine gV (eL aT.eq ak.ty rfl rfl c1) ?_)
        refine mB (i:=2) rfl rfl rfl c1 ?_;refine zL ?_;generalize (r.set b (-1)).set b (q:Int)=r' at*
        by_cases q2:200<d'.S.length+1
        · rw[if_pos q2]at i4
          subst i4
          repeat(first|refine GC ?_|refine gV (J (v:= .slice ab (d'.S.length+1) cs) ak.ty rfl (ah (i:=4) rfl rfl)) ?_|refine gV (eo (b:=true) rfl rfl (decide_eq_true (by omega))) ?_|refine gV (aE (i:=2) ak.ty rfl rfl (by rw[List.size_toArray,bQ])) ?_|refine GB ?_)
          refine aD (i:=0) (cs':=(cZ r').toArray) rfl rfl rfl (by rw[List.size_toArray,bQ]) (DE r') (by rw[List.size_toArray,bQ]) ?_;refine zL ?_
          try refine GA ?_
          exact e8 (i:=0) rfl rfl rfl (by rw[List.size_toArray,bQ]) fun w hm=>hm.bV (S:=⟨fun(_:Value×Value)=>True,fun _=>uj r',fun x=>BX (.slice ac p.aC.length cc) vr vf vfol vl ve rows g gm x.1 x.2 d'⟩) (.slice ab (d'.S.length+1) cs,Eu) trivial [4,5,6,7] (by decide) rfl
        · rw[if_neg q2]at i4
          repeat(first|refine GC ?_|refine gV (J (v:= .slice ab (d'.S.length+1) cs) ak.ty rfl (ah (i:=4) rfl rfl)) ?_|refine gV (eo (b:=false) rfl rfl (decide_eq_false (by omega))) ?_|refine GB ?_)
          refine bR [4,5,6,7,0,1,2] ?_;exact aY (b+1,r',d',.slice ab (d'.S.length+1) cs,Eu) ⟨by omega,s1,by show d'.S.length+1<=200;omega,i4⟩ (by show 256-(b+1)<256-b;omega)
  · obtain rfl:b=256:=by omega
    have i4:(r,d)=fin:=i4;subst i4
    repeat(first|refine GA ?_|refine gV (aE (i:=6) ak.ty rfl rfl (by rw[List.size_toArray,bQ])) ?_)
    refine aD (i:=4) (cs':=(cZ r).toArray) rfl rfl rfl (by rw[List.size_toArray,bQ]) (DE r) (by rw[List.size_toArray,bQ]) ?_;refine zL ?_
    try refine GA ?_
    exact e8 (i:=4) rfl rfl rfl (by rw[List.size_toArray,bQ]) fun w hm=>hm.bV (S:=⟨fun(_:Value×Value)=>True,fun _=>uj r,fun x=>BX (.slice ac p.aC.length cc) vr vf vfol vl ve rows g gm x.1 x.2 d⟩) (vs,vt) trivial [0,1,2,3] (by decide) rfl
end bH
namespace bH
open Go.RowKit bL db bO d_ cV jS bT
def ns(m:MS):List Row×List Int×Int:=match ox m with
 |some (R,d)=>(R,d.tags,0)
 |none=>([],[],8)
def H2(m:MS):Spec (Value×Value):=⟨fun _=>True,fun x=> .tuple #[eS x.1 x.2,.int .i64 (ns m).2.2],fun x=>[aI 150 256 x.1 (ns m).1.length ((ns m).1.flatMap cZ),dT x.2 (ns m).2.1]⟩
theorem xl{m:MS}{R:List Row}{d:DM}(h:ox m=some (R,d)):ns m=(R,d.tags,0):=by unfold ns;rw[h]
theorem F5{m:MS}(h:ox m=none):ns m=([],[],8):=by unfold ns;rw[h]
theorem zV(m:MS)(f n:Nat)(R:List Row)(d:DM):ni m (f+1) n R d=if n<d.S.length+1 then(if 200<(lf m n d).2.S.length+1 then none else ni m f (n+1) (R++[(lf m n d).1]) (lf m n d).2)else some (R,d):=rfl
theorem F6(w:World):(Instr.build 98 (#[]:Array (Nat×Value))).run Tryz.prog w= .ok (.agg #[.slice none 0 0,.slice none 0 0]) w:=by kernel_rfl
theorem DF(vc vr vf vfol vl ve:Value)(g gm:Nat)(w:World):(Instr.build 147 #[(0,.agg #[vc,vr,vf,vfol,vl,ve]),(1,.slice (some ⟨g,0,none⟩) 1 1),(2,.map (some gm))]).run Tryz.prog w= .ok (.agg (BW vc vr vf vfol vl ve (.slice (some ⟨g,0,none⟩) 1 1) (.map (some gm)) (.slice none 0 0) (.slice none 0 0))) w:=by
 unfold BW;go_simp
theorem DG{g:Nat}{w:World}(h:(ap g (madeCells #[Value.int .u64 0,Value.int .u64 0,Value.int .u64 0,Value.int .u64 0] (1*4)) 180).holds w):(ka (.slice (some ⟨g,0,none⟩) 1 1) []).holds w:=by
 rw[Q6 (k:=4) rfl (by decide)]at h;exact⟨rfl,.inr ⟨g,1,_,rfl,Nat.zero_le _,h,Nat.le_refl _,by decide,rfl,rfl⟩⟩
theorem s8(v:Value)(R:List Row)(r:Row):aI 150 256 v (R++[r]).length ((R++[r]).flatMap cZ)=aI 150 256 v (R.length+1) (R.flatMap cZ++cZ r):=by
 rw[List.length_append,List.flatMap_append];simp
theorem Tq{vc vr vf vfol vl ve vs num rows tags v:Value}{j:Nat}(h:[rows,tags][j]?=some v):(BW vc vr vf vfol vl ve vs num rows tags)[8+j]?=some v:=by
 match j,h with
 |0,h=>exact h
 |1,h=>exact h
theorem Bw(r:Row):(cZ r).toArray=([uj r].flatMap fun v=>v.cells.toList).toArray:=by
 show _=((cZ r).toArray.toList++[]).toArray
 simp
theorem xo(r:Row):∀v∈[uj r],v.cells.size=256:=by
 intro v hv;rw[List.mem_singleton.1 hv];show(cZ r).toArray.size=256
 rw[List.size_toArray,bQ]
set_option maxRecDepth 100000 in
theorem yl(v:Value)(m:MS)(w:World)(hp:yb w v m)(h:AY m):
    Calls Tryz.prog 25 #[v] w (bU (H2 m) w):=by
  have gD:=fun w' (hg:Gr w w')=>wO v m w' (hp.gr hg) h;obtain⟨vc,vr,vf,vfol,vl,ve,rfl,h1,h2,h3,h4,h5,h6⟩:=id hp;have UD:=fun rows d g gm n vs vt hd XJ hn w' B ho hm=>Bv m vc vr vf vfol vl ve rows d g gm n vs vt w hp h hd XJ hn w' B ho hm;clear h1 h2 h3 h4 h5 hp;have VC:=h.some;have pH:=h.Pb;clear h;obtain⟨ae,ce,rfl,-,hme,hre⟩:=h6;unfold maxLen at hme;have hbz:=F6;refine enter (args:=[.agg #[vc,vr,vf,vfol,vl,.slice ae m.empty.length ce]]) (n:=78) Tryz.func25 rfl rfl rfl ?_;refine bJ (aV (bK rfl rfl rfl fun g1=>aF rfl fun g2=>?_));refine zL ?_
  repeat(first|refine GA ?_|refine gV (aE (i:=0) ak.ty rfl rfl rfl) ?_)
  refine aM (iT aj.en rfl rfl) (fun w hm=>gD _ hm.below) rfl rfl rfl ?_;intro _ _;refine zL ?_;clear gD
  repeat(first|refine GC ?_|refine gV (cB (b:=false) rfl rfl (decide_eq_false (by simp))) ?_|refine GB ?_)
  (repeat refine bJ ?_)
  refine ix (ι:=Nat×Nat×Nat) (fun _=>True) (fun(_,_,g5)=>[(1,.pointer (some ⟨g1,0,none⟩)),(2,.pointer (some ⟨g2,0,none⟩)),(5,.pointer (some ⟨g5,0,none⟩))])
    (fun(gs,gm,g5)=>[ap g1 #[vc,vr,vf,vfol,vl,.slice ae m.empty.length ce] 93,ap g2 #[.slice none 0 0,.slice none 0 0] 98,ap g5 (BW vc vr vf vfol vl (.slice ae m.empty.length ce) (.slice (some ⟨gs,0,none⟩) 1 1) (.map (some gm)) (.slice none 0 0) (.slice none 0 0)) 147,ka (.slice (some ⟨gs,0,none⟩) 1 1) [],nl gm []]) ?_ ?_
  · refine dw ([ap g1 #[vc,vr,vf,vfol,vl,.slice ae m.empty.length ce] 93]) (.calm 0 (.two 1 (.one 2 (.calm 3 (.one 4 (.calm 5 (.done))))) 2 (.one 1 (.calm 3 (.one 4 (.calm 5 (.done))))))) (bC [0]) ?_
    repeat(first|refine GW ?_|(refine GN ?_;first|refine QW (aE (i:=0) ak.ty rfl rfl rfl) ?_))
    refine dG rfl rfl ?_ ?_
    · refine nX (m:=1) (cap:=1) rfl rfl (Nat.le_refl 1) (by decide) (by decide) rfl fun gs=>aw (bC [0]) ?_
      refine az rfl (qj Fv rfl fun gm=>aw (bC [0]) ?_)
      repeat(first|refine GW ?_|(refine GN ?_;first|refine QW (aU rfl (DF _ _ _ _ _ _ _ _)) ?_))
      refine az rfl (bK rfl rfl rfl fun g5=>aw (bC [0]) ?_)
      try refine GW ?_
      refine mT (i:=2) (ka (.slice (some ⟨gs,0,none⟩) 1 1) []) rfl (fun w h=>DG h) (fun k h=>h) ?_;refine mT (i:=3) (nl gm []) rfl (fun w h=>by unfold nl;rw[<-wP];exact h) (fun k h=>h) ?_;refine bR [0,1,4,2,3] ?_;exact c_ (gs,gm,g5) trivial (by repeat' (first|exact True.intro|refine And.intro rfl ?_)) rfl
    · refine qj Fv rfl fun gm=>aw (bC [0]) ?_
      refine az rfl (nX (m:=1) (cap:=1) rfl rfl (Nat.le_refl 1) (by decide) (by decide) rfl fun gs=>aw (bC [0]) ?_)
      repeat(first|refine GW ?_|(refine GN ?_;first|refine QW (aU rfl (DF _ _ _ _ _ _ _ _)) ?_))
      refine az rfl (bK rfl rfl rfl fun g5=>aw (bC [0]) ?_)
      try refine GW ?_
      refine mT (i:=3) (ka (.slice (some ⟨gs,0,none⟩) 1 1) []) rfl (fun w h=>DG h) (fun k h=>h) ?_;refine mT (i:=2) (nl gm []) rfl (fun w h=>by unfold nl;rw[<-wP];exact h) (fun k h=>h) ?_;refine bR [0,1,4,3,2] ?_;exact c_ (gs,gm,g5) trivial (by repeat' (first|exact True.intro|refine And.intro rfl ?_)) rfl
  rintro⟨gs,gm,g5⟩ _;dsimp only
  try refine GA ?_
  refine ee (cs:=#[.int .i64 (-1)]) [.int .i64 (-1)] rfl rfl rfl (by intro v hv;simp at hv;subst hv;rfl) rfl rfl rfl fun g20=>?_;refine zL ?_
  try refine GA ?_
  refine bD (i:=2) rfl rfl rfl rfl rfl rfl ?_;refine zL ?_
  repeat(first|refine GC ?_|refine gV (J (v:= .slice ae m.empty.length ce) ak.ty rfl (ah (i:=0) rfl rfl)) ?_|refine gV (ij (r:=(m.empty.length:Int)-1) rfl rfl (by omega) (by omega) rfl) ?_|refine GB ?_)
  refine iu (ι:=Nat) (fun k=>k<=m.empty.length) (fun k=>[(1,.pointer (some ⟨g1,0,none⟩)),(2,.pointer (some ⟨g2,0,none⟩)),(5,.pointer (some ⟨g5,0,none⟩)),(6,.int .i64 ((k:Int)-1))])
    (fun k=>[ap g1 #[vc,vr,vf,vfol,vl,.slice ae m.empty.length ce] 93,ap g2 #[.slice none 0 0,.slice none 0 0] 98,ap g5 (BW vc vr vf vfol vl (.slice ae m.empty.length ce) (.slice (some ⟨gs,0,none⟩) 1 1) (.map (some gm)) (.slice none 0 0) (.slice (some ⟨g20,0,none⟩) 1 1)) 147,ka (.slice (some ⟨gs,0,none⟩) 1 1) [],nl gm [],ap g20 #[.int .i64 (dz (m.empty.drop k) k)] 3]) (fun k=>k) m.empty.length (Nat.le_refl _) (by repeat' (first|exact True.intro|refine And.intro rfl ?_)) (by rw[List.drop_eq_nil_of_le (Nat.le_refl _)];rfl) ?_
  intro k hk
  by_cases c1:0<k
  · obtain⟨j,rfl⟩:∃j,k=j+1:=⟨k-1,by omega⟩
    have hj:j<m.empty.length:=by omega
    obtain⟨be,Tr,rfl,Ts⟩:=hre (by omega);have Zd:=fun(L:List bz)=>fx (L:=L) HE Ts hj 0 _ rfl;have hst:dz (m.empty.drop j) j=if m.empty[j]=true then(j:Int)else dz (m.empty.drop (j+1)) ((j:Int)+1):=by rw[List.drop_eq_getElem_cons hj,dz]
    rw[show(((j+1:Nat):Int))=(j:Int)+1 by omega]at*;generalize dz (m.empty.drop (j+1)) ((j:Int)+1)=t at*;generalize m.empty[j]=b at*;rw[show(j:Int)+1-1=(j:Int)by omega];have RF:∀(L:List bz),At (w:bB) L ⟨be,Tr+j*1+0,none⟩ (.bool b):=Zd
    by_cases c2:b=true
    · subst c2
      rw[if_pos rfl]at hst
      repeat(first|refine GC ?_|refine gV (fH (b:=true) rfl rfl (decide_eq_true (by omega))) ?_|refine gV (J (v:= .slice (some ⟨be,Tr,none⟩) m.empty.length ce) ak.ty rfl (ah (i:=0) rfl rfl)) ?_|refine gV (aH aT.eq ak.ty rfl rfl hj) ?_|refine gV (J (v:= .bool true) ak.ty rfl (RF _)) ?_|refine gV (J (v:= .slice (some ⟨g20,0,none⟩) 1 1) ak.ty rfl (ah (i:=2) rfl rfl)) ?_|refine gV (aH (j:=0) aT.eq ak.ty rfl rfl (by decide)) ?_|refine GB ?_)
      refine bD (i:=5) rfl rfl rfl rfl rfl rfl ?_;refine zL ?_
      repeat(first|refine GC ?_|refine gV (ij (r:=(j:Int)-1) rfl rfl (by omega) (by omega) rfl) ?_|refine GB ?_)
      exact aY j (by omega) (by show j<j+1;omega) (hl:=by rw[hst];rfl)
    · rw[if_neg c2]at hst
      obtain rfl:=Bool.eq_false_iff.2 c2
      repeat(first|refine GC ?_|refine gV (fH (b:=true) rfl rfl (decide_eq_true (by omega))) ?_|refine gV (J (v:= .slice (some ⟨be,Tr,none⟩) m.empty.length ce) ak.ty rfl (ah (i:=0) rfl rfl)) ?_|refine gV (aH aT.eq ak.ty rfl rfl hj) ?_|refine gV (J (v:= .bool false) ak.ty rfl (RF _)) ?_|refine gV (ij (r:=(j:Int)-1) rfl rfl (by omega) (by omega) rfl) ?_|refine GB ?_)
      exact aY j (by omega) (by show j<j+1;omega) (hl:=by rw[hst])
  · obtain rfl:k=0:=by omega
    rw[show dz (m.empty.drop 0) ((0:Nat):Int)=dz m.empty 0 from rfl];have jh:ni m (201-0) 0 [] ⟨[],[dz m.empty 0]⟩=ox m:=rfl;generalize dz m.empty 0=t0 at*;refine He (i:=5) (dT (.slice (some ⟨g20,0,none⟩) 1 1) [t0]) rfl (fun w h=>A5 h) (fun k h=>h) ?_
    repeat(first|refine GC ?_|refine gV (fH (b:=false) rfl rfl (decide_eq_false (by omega))) ?_|refine GB ?_)
    refine h_ 150 256 ?_;refine pI [1,2,3,4,5,6] ?_;clear hre;refine cX (ι:=Nat×List Row×DM×Value×Value×Value) (fun(n,R,d,_,_,_)=>R.length=n/\n<=d.S.length+1/\Pc m.ps d/\d.S.length+1<=200/\ni m (201-n) n R d=ox m) (fun(n,_,_,_,_,_)=>[(2,.pointer (some ⟨g2,0,none⟩)),(5,.pointer (some ⟨g5,0,none⟩)),(7,.int .i64 (n:Int))])
      (fun(_,R,d,vs,oT,vt)=>[ap g2 #[.slice none 0 0,.slice none 0 0] 98,ap g5 (BW vc vr vf vfol vl (.slice ae m.empty.length ce) vs (.map (some gm)) oT vt) 147,ka vs d.S,nl gm d.S,dT vt d.tags,aI 150 256 oT R.length (R.flatMap cZ)]) (fun(n,_,_,_,_,_)=>201-n) (0,[],⟨[],[t0]⟩,.slice (some ⟨gs,0,none⟩) 1 1,.slice none 0 0,.slice (some ⟨g20,0,none⟩) 1 1) ⟨rfl,Nat.zero_le _,⟨List.nodup_nil,rfl⟩,by show 0+1<=200;omega,jh⟩ ?_
    clear jh hk c1;rintro⟨n,R,d,vs,oT,vt⟩ ⟨i0,i1,i2,i3,i4⟩;dsimp only at i0 i1 i2 i3 i4⊢;refine eN (i:=2) rfl dR fun dW=>?_;obtain⟨ab,cs,rfl,S9,-⟩:=dW
    by_cases c1:n<d.S.length+1
    · rw[show 201-n=(201-(n+1))+1 by omega,zV,if_pos c1]at i4
      obtain⟨s1,s2,s3⟩:=C0 (p:=m.ps) (fW m d.S n) 256 0 (Vector.replicate 256 0) d i2 i3;have MN:=fun w' (ml:Mem (w:bB) [ap g2 #[.slice none 0 0,.slice none 0 0] 98,ap g5 (BW vc vr vf vfol vl (.slice ae m.empty.length ce) (.slice ab (d.S.length+1) cs) (.map (some gm)) oT vt) 147,ka (.slice ab (d.S.length+1) cs) d.S,nl gm d.S,dT vt d.tags,aI 150 256 oT R.length (R.flatMap cZ)] w') (hb:Mem (bB.on w' (BX vc vr vf vfol vl (.slice ae m.empty.length ce) oT g5 gm (.slice ab (d.S.length+1) cs) vt d)) (BX vc vr vf vfol vl (.slice ae m.empty.length ce) oT g5 gm (.slice ab (d.S.length+1) cs) vt d) w')=>UD oT d g5 gm n (.slice ab (d.S.length+1) cs) vt i2 i3 (by omega) w' _ ((lc.self w).on ml (by simp[BX])) hb;rw[show iW m.ps (fW m d.S n) 256 0 (Vector.replicate 256 0) d=lf m n d from rfl]at s1 s2 s3;obtain⟨r',d',lU⟩:∃r' d',lf m n d=(r',d'):=⟨_,_,rfl⟩;rw[lU]at i4 s1 s2 s3;dsimp only at i4 s1 s2 s3
      repeat(first|refine GC ?_|refine gV (J (v:= .slice ab (d.S.length+1) cs) ak.ty rfl (ah (i:=1) rfl rfl)) ?_|refine gV (fG (b:=true) rfl rfl (decide_eq_true (by omega))) ?_|refine GB ?_)
      (repeat refine bJ ?_)
      refine ix (ι:=Value×Value×Value) (fun _=>True) (fun _=>[(2,.pointer (some ⟨g2,0,none⟩)),(5,.pointer (some ⟨g5,0,none⟩)),(7,.int .i64 (n:Int))])
        (fun(ma,l6,Eu)=>[ap g2 #[.slice none 0 0,.slice none 0 0] 98,ap g5 (BW vc vr vf vfol vl (.slice ae m.empty.length ce) ma (.map (some gm)) l6 Eu) 147,ka ma d'.S,nl gm d'.S,dT Eu d'.tags,aI 150 256 l6 (R++[r']).length ((R++[r']).flatMap cZ)]) ?_ ?_
      · refine dw ([]) (.calm 0 (.calm 1 (.calm 2 (.calm 3 (.calm 4 (.calm 6 (.calm 7 (.two 5 (.one 8 (.one 9 (.one 10 (.calm 11 (.calm 12 (.calm 13 (.one 14 (.done)))))))) 8 (.two 5 (.one 9 (.one 10 (.calm 11 (.calm 12 (.calm 13 (.one 14 (.done))))))) 9 (.one 5 (.one 10 (.calm 11 (.calm 12 (.calm 13 (.one 14 (.done)))))))))))))))) (bC []) ?_
        try refine GW ?_
        refine dG rfl rfl ?_ ?_
        · refine cI (J (v:=oT) ak.ty rfl (ah (i:=1) rfl rfl)) rfl rfl rfl (aw (bC []) ?_)
          refine az rfl (aP [1,2,3,4] [0,5] (by decide) rfl rfl (fh aj.en rfl rfl rfl) (fun w' hm hb=>MN w' hm hb) rfl rfl rfl ?_);rintro⟨ma,Eu⟩ _
          conv=>arg 8;simp only[zJ,bW,ret,id_eq,zU,BX]
          conv=>arg 7;simp only[zU]
          rw[lU];dsimp only;refine aw (bC []) ?_;refine az rfl (ee (cs:=(cZ r').toArray) [uj r'] rfl rfl rfl (xo r') rfl (Bw r') rfl fun g62=>(aw (bC []) ?_));refine az rfl (dS (i:=1) (e:=150) (size:=256) (bytes:=512) (m:=R.length) (xs:=R.flatMap cZ) (k:=1) (ys:=cZ r') rfl (iU (i:=6) rfl (fun j u h=>by simpa using h) (Nat.le_refl 1) (by decide)) rfl rfl (by rw[bQ]) (fun u hu=>row_one [r'] u (by simpa using hu)) (by omega) (by omega) rfl fun l6=>(aw (bC []) ?_))
          try refine GW ?_
          refine az rfl (aB (i:=1) rfl fun kD lg=>bD (i:=2) rfl rfl rfl kD lg rfl (aw (bC []) ?_))
          try refine GW ?_
          refine bR [0,2,3,4,5,1] ?_;exact c_ (ma,l6,Eu) trivial (by repeat' (first|exact True.intro|refine And.intro rfl ?_)) (by dsimp only;rw[s8];rfl)
        · refine aP [1,2,3,4] [0,5] (by decide) rfl rfl (fh aj.en rfl rfl rfl) (fun w' hm hb=>MN w' hm hb) rfl rfl rfl ?_
          rintro⟨ma,Eu⟩ _
          conv=>arg 8;simp only[zJ,bW,ret,id_eq,zU,BX]
          conv=>arg 7;simp only[zU]
          rw[lU];dsimp only;refine aw (bC []) ?_;refine dG rfl rfl ?_ ?_
          · refine cI (J (v:=oT) ak.ty rfl (ah (i:=2) rfl rfl)) rfl rfl rfl (aw (bC []) ?_)
            refine az rfl (ee (cs:=(cZ r').toArray) [uj r'] rfl rfl rfl (xo r') rfl (Bw r') rfl fun g62=>(aw (bC []) ?_));refine az rfl (dS (i:=1) (e:=150) (size:=256) (bytes:=512) (m:=R.length) (xs:=R.flatMap cZ) (k:=1) (ys:=cZ r') rfl (iU (i:=6) rfl (fun j u h=>by simpa using h) (Nat.le_refl 1) (by decide)) rfl rfl (by rw[bQ]) (fun u hu=>row_one [r'] u (by simpa using hu)) (by omega) (by omega) rfl fun l6=>(aw (bC []) ?_))
            try refine GW ?_
            refine az rfl (aB (i:=1) rfl fun kD lg=>bD (i:=2) rfl rfl rfl kD lg rfl (aw (bC []) ?_))
            try refine GW ?_
            refine bR [0,2,3,4,5,1] ?_;exact c_ (ma,l6,Eu) trivial (by repeat' (first|exact True.intro|refine And.intro rfl ?_)) (by dsimp only;rw[s8];rfl)
          · refine ee (cs:=(cZ r').toArray) [uj r'] rfl rfl rfl (xo r') rfl (Bw r') rfl fun g62=>(aw (bC []) ?_)
            refine az rfl (cI (J (v:=oT) ak.ty rfl (ah (i:=2) rfl rfl)) rfl rfl rfl (aw (bC []) ?_));refine az rfl (dS (i:=1) (e:=150) (size:=256) (bytes:=512) (m:=R.length) (xs:=R.flatMap cZ) (k:=1) (ys:=cZ r') rfl (iU (i:=6) rfl (fun j u h=>by simpa using h) (Nat.le_refl 1) (by decide)) rfl rfl (by rw[bQ]) (fun u hu=>row_one [r'] u (by simpa using hu)) (by omega) (by omega) rfl fun l6=>(aw (bC []) ?_))
            try refine GW ?_
            refine az rfl (aB (i:=1) rfl fun kD lg=>bD (i:=2) rfl rfl rfl kD lg rfl (aw (bC []) ?_))
            try refine GW ?_
            refine bR [0,2,3,4,5,1] ?_;exact c_ (ma,l6,Eu) trivial (by repeat' (first|exact True.intro|refine And.intro rfl ?_)) (by dsimp only;rw[s8];rfl)
      clear MN;rintro⟨ma,l6,Eu⟩ _;dsimp only;refine eN (i:=2) rfl dR fun dW=>?_;obtain⟨Rr,cs',rfl,aaC,-⟩:=dW
      by_cases c2:200<d'.S.length+1
      · rw[if_pos c2]at i4
        have ho:=F5 i4.symm;unfold H2;rw[ho]
        repeat(first|refine GC ?_|refine gV (J (v:= .slice Rr (d'.S.length+1) cs') ak.ty rfl (ah (i:=1) rfl rfl)) ?_|refine gV (eo (b:=true) rfl rfl (decide_eq_true (by omega))) ?_|refine gV (aU rfl hbz) ?_|refine GB ?_)
        refine fU 0 ?_;refine zL ?_
        try refine GA ?_
        refine de 150 256 (de 3 1 ?_);exact dB (i:=0) rfl rfl rfl rfl rfl fun w hm=>hm.meets (S:=⟨fun(_:Value×Value)=>True,fun x=> .tuple #[eS x.1 x.2,.int .i64 8],fun x=>[aI 150 256 x.1 0 [],aI 3 1 x.2 0 []]⟩) (.slice none 0 0,.slice none 0 0) trivial [6,7] (by decide) rfl
      · rw[if_neg c2]at i4
        repeat(first|refine GC ?_|refine gV (J (v:= .slice Rr (d'.S.length+1) cs') ak.ty rfl (ah (i:=1) rfl rfl)) ?_|refine gV (eo (b:=false) rfl rfl (decide_eq_false (by omega))) ?_|refine GB ?_)
        exact aY (n+1,R++[r'],d',.slice Rr (d'.S.length+1) cs',l6,Eu) ⟨by rw[List.length_append,i0];rfl,by show n+1<=d'.S.length+1;omega,s1,by show d'.S.length+1<=200;omega,i4⟩ (by show 201-(n+1)<201-n;omega)
    · have i5:ox m=some (R,d):=by
        rw[<-i4,show 201-n=(201-(n+1))+1 by omega,zV,if_neg c1]
      have ho:=xl i5;unfold H2;rw[ho];refine eN (i:=4) rfl dR fun dW=>?_;obtain⟨at',Ze,rfl,-⟩:=dW;refine eN (i:=5) rfl dR fun dW=>?_;obtain⟨Zf,Zg,rfl,-⟩:=dW
      repeat(first|refine GC ?_|refine gV (J (v:= .slice ab (d.S.length+1) cs) ak.ty rfl (ah (i:=1) rfl rfl)) ?_|refine gV (fG (b:=false) rfl rfl (decide_eq_false (by omega))) ?_|refine gV (aK (cs:=[.slice Zf R.length Zg,.slice at' d.tags.length Ze]) ak.ty rfl rfl (fun j v hj=>ah (i:=1) rfl (Tq hj))) ?_|refine GB ?_)
      refine fU 0 (cs':=#[.slice Zf R.length Zg,.slice at' d.tags.length Ze]) ?_;refine zL ?_
      try refine GA ?_
      exact dB (i:=0) rfl rfl rfl rfl rfl fun w hm=>hm.meets (S:=⟨fun(_:Value×Value)=>True,fun x=> .tuple #[eS x.1 x.2,.int .i64 0],fun x=>[aI 150 256 x.1 R.length (R.flatMap cZ),dT x.2 d.tags]⟩) (.slice Zf R.length Zg,.slice at' d.tags.length Ze) trivial [5,4] (by decide) rfl
end bH
end Go.Proofs.YtldiodhdefnlaaaGreat

/- Part 4 of what WholeFront needs: FactsC, FactsD, FactsO, Look, Brk, FactsE, FactsF, CountA, ItL, ItM, LrL, ItB, ItC, OrdK, OrdJ, ItH, ItN, ItO, SmM, SmU, SmO, SmT, SmK, SmW, SmD, DfX, DfM, DfQ, Els, ItD, SortJ. -/
import Derived.Test.YtdmgcnggnejnnaaGreatMgC
import Derived.Sort.Grow
import Derived.Deep.RegionWith
import Derived.Deep.RegionHeld
import Derived.Shelf.SlGeneric
import Derived.Shelf.SlSortCmp.NoneTotal
import Derived.Ground.SlsfProg
namespace Go.Proofs.YtdmgcnggnejnnaaGreat
set_option linter.unusedVariables false
set_option linter.unusedSimpArgs false
set_option maxHeartbeats 16000000
namespace bK
open Go.RowKit bO dc aB cL
def dh(n g c:Nat)(l:List Bool):bI:=aM 4 1 (.slice (some ⟨g,0,none⟩) n c) n (l.map .bool)
theorem pZ(n g cap:Nat)(l:List Bool)(i:Nat)(b:Bool)(w:World)(B:bC)(hl:l.length=n)(hi:i<n)(hm:Mem B [dh n g cap l] w):
 Calls Tryz.prog 122 #[.slice (some ⟨g,0,none⟩) n cap,.int .i64 (i:Int),.bool b] w (c_ ⟨fun(_:Unit)=>True,fun _=> .bool (eu l i b).2,fun _=>[dh n g cap (eu l i b).1]⟩ B):=by
 subst hl;exact HO g cap l i b w B hi hm
structure Y_ where
 gE:Nat
 cE:Nat
 gR:Nat
 cR:Nat
 gM:Nat
 cM:Nat
def cC(n g c:Nat):Value:= .slice (some ⟨g,0,none⟩) n c
theorem EZ(h:Nat)(x:cg)(r:List cg)(R:List Bool)(more:Bool):kg h (x::r) R more=kg h r (uW h x R more).1 (uW h x R more).2:=rfl
theorem E0(p:aB.Prod)(r:List aB.Prod)(s:FS):eU (p::r) s=eU r (lI p s):=rfl
theorem E3(w0:World)(v:Value)(g:dr)(h:iZ (fun k=>k<w0.heap.size) w0 v g)(gd:cz g=0)(n:Nat)(hn:g.aU=n)(x:Y_)(vF vL:Value)(E R M:List Bool)(hE:E.length=n)(hR:R.length=n)(hM:M.length=n)(w:World)(B:bC)(ho:jz w0 B)(hm:Mem B [dh n x.gE x.cE E,dh n x.gR x.cR R,dh n x.gM x.cM M] w):
    Calls Tryz.prog 81 #[v,jy (cC n x.gE x.cE) vF vL (cC n x.gR x.cR) (cC n x.gM x.cM)] w (c_ ⟨fun(_:Unit)=>True,fun _=> .bool (eU g.ag ⟨E,R,M,false⟩).more,fun _=>[dh n x.gE x.cE (eU g.ag ⟨E,R,M,false⟩).E,dh n x.gR x.cR (eU g.ag ⟨E,R,M,false⟩).R,dh n x.gM x.cM (eU g.ag ⟨E,R,M,false⟩).M]⟩ B):=by
  obtain⟨gE,cE,gR,cR,gM,cM⟩:=x;dsimp only at*;obtain⟨_,_,_,_,hlen,hps⟩:=bV gd;obtain⟨vp,rfl,h1,_⟩:=h;obtain⟨bp,cp,rfl,Jx,GM,lF⟩:=h1;unfold maxLen at GM;obtain⟨t,nn,ag⟩:=g;dsimp only at*;subst hn;refine dC hm (args:=[cO t (n:Int) (.slice bp ag.length cp),jy (cC n gE cE) vF vL (cC n gR cR) (cC n gM cM)]) (n:=70) Tryz.func81 rfl rfl rfl ?_;refine a8 (aL (a_ rfl rfl rfl fun g2=>a_ rfl rfl rfl fun g3=>?_));refine zL ?_
  repeat(first|refine GA ?_|refine gV (J ak.ty rfl (ah (i:=3) rfl rfl)) ?_)
  refine oX [0,1,2,4] ?_;generalize iO:eU ag ⟨E,R,M,false⟩=fin;refine dv (ι:=Nat×FS) (fun(k,s)=>k<=ag.length/\s.E.length=n/\s.R.length=n/\s.M.length=n/\eU (ag.drop k) s=fin) (fun(k,s)=>[(3,.pointer (some ⟨g3,0,none⟩)),(5,.bool s.more),(11,.slice bp ag.length cp),(12,.int .i64 ag.length),(13,.int .i64 (k:Int))])
    (fun(_,s)=>[dh n gE cE s.E,dh n gR cR s.R,dh n gM cM s.M,aw g3 (jy (cC n gE cE) vF vL (cC n gR cR) (cC n gM cM)).cells 104]) (fun(k,_)=>ag.length-k) (0,⟨E,R,M,false⟩) ⟨Nat.zero_le _,hE,hR,hM,iO⟩ ?_
  clear hm hE hR hM iO;rintro⟨k,E,R,M,more⟩ ⟨i1,i2,i3,i4,i5⟩;dsimp only at i1 i2 i3 i4 i5⊢
  by_cases c6:k<ag.length
  · obtain⟨b,off,rfl,_,hr⟩:=lF (by omega)
    obtain⟨bb,cb,q1,q2,q3⟩:=jC hr c6;have ft:=hps ag[k] (List.getElem_mem c6);rw[List.drop_eq_getElem_cons c6,E0]at i5;have dF:∀(L:List bI) (j:Nat) (v:Value),([.int .i64 ag[k].1,.slice bb ag[k].2.length cb]:List Value)[j]?=some v->At B L ⟨b,off+k*2+j,none⟩ v:=fun L j v hj=>fx ho (q1 j v hj);have zZ:=q3.flat (by decide);clear hr lF q1 hps q3;generalize ag[k]=p at*;obtain⟨hd,body⟩:=p;obtain⟨p1,p2,p3,p4⟩:=ft;dsimp only at*;obtain⟨hn,rfl⟩:∃hn:Nat,hd=hn:=⟨hd.toNat,by omega⟩;have hhn:hn<n:=by omega
    have JU:∀x∈body,x.1=2->0<=x.2/\x.2<(n:Int):=fun x hx eh=>by
      have:=p4 x hx;unfold right at this;rw[if_neg (by omega),if_pos eh]at this
      simpa using this
    have Rz:∀w' L,Mem B L w'->Sl w' (.slice bb body.length cb) body.length (body.flatMap dg):=fun w' L hm=>zZ.gr (ho.mem hm);unfold lI at i5;dsimp only at i5;rw[Int.toNat_natCast]at i5;have Pb:=fun w' L (hm:Mem B L w') (hx:Sl w' (cC n gE cE) E.length (E.map .bool))=>se (cC n gE cE) (.slice bb body.length cb) E body false w' hx (Rz w' L hm) (fun x hx eh=>by rw[i2];exact JU x hx eh);have lW:=fun w' L (hm:Mem B L w') (hx:Sl w' (cC n gM cM) M.length (M.map .bool))=>se (cC n gM cM) (.slice bb body.length cb) M body true w' hx (Rz w' L hm) (fun x hx eh=>by rw[i4];exact JU x hx eh);generalize lH E body false=a1 at*;generalize lH M body true=a2 at*;have Y':=fun w' B' hm=>pZ n gE cE E hn a1 w' B' i2 hhn hm;have Za:=fun w' B' hm=>pZ n gM cM M hn a2 w' B' i4 hhn hm;have B7:=kf E hn a1;have Ca:=kf M hn a2;rw[i2]at B7 Pb;rw[i4]at Ca lW;generalize eu E hn a1=m1 at*;generalize eu M hn a2=m2 at*;obtain⟨E1,b1⟩:=m1;obtain⟨M1,b2⟩:=m2;dsimp only at*
    repeat(first|refine GA ?_|refine gV (aC aT.eq ak.ty rfl rfl c6) ?_|refine gV (aH ak.ty rfl rfl (dF _)) ?_)
    clear dF;refine aK rfl fun g7=>?_;refine fa 4 ?_;refine zL ?_
    repeat(first|refine QV QP ?_|refine eL ?_|refine eZ ?_|refine qs rfl rfl rfl rfl rfl rfl ?_|((try refine qg rfl rfl rfl ?_);first|refine QV QP ?_|refine QV QL ?_|refine QV QA ?_|refine QV QlT ?_|refine QV QlF ?_|refine QV Yr ?_|refine QV Ys ?_|refine QV QaA ?_))
    (repeat refine a8 ?_)
    refine iW (ι:=Unit) (fun _=>True) (fun _=>[(3,.pointer (some ⟨g3,0,none⟩)),(5,.bool (b1||more)),(7,.pointer (some ⟨g7,0,none⟩)),(11,.slice (some ⟨b,off,none⟩) ag.length cp),(12,.int .i64 ag.length),(13,.int .i64 (k:Int))])
      (fun _=>[dh n gE cE E1,dh n gR cR R,dh n gM cM M,aw g3 (jy (cC n gE cE) vF vL (cC n gR cR) (cC n gM cM)).cells 104,aw g7 #[.int .i64 (hn:Int),.slice bb body.length cb] 140]) ?_ ?_
    · refine cU ([aw g3 (jy (cC n gE cE) vF vL (cC n gR cR) (cC n gM cM)).cells 104,aw g7 #[.int .i64 (hn:Int),.slice bb body.length cb] 140]) (.calm 0 (.calm 1 (.calm 2 (.calm 3 (.calm 4 (.calm 5 (.calm 6 (.calm 7 (.one 8 (.one 9 (.calm 10 (.calm 11 (.calm 12 (.calm 13 (.done))))))))))))))) (bz [3,4]) ?_
      repeat(first|refine GW ?_|(refine GN ?_;first|refine QW (J ak.ty rfl (ah (i:=0) rfl rfl)) ?_|refine QW (J ak.ty rfl (ah (i:=1) rfl rfl)) ?_))
      refine ap rfl ?_;refine aI (sB aj.en rfl rfl rfl rfl) (fun w hm=>Pb _ _ hm (fW (i:=0) rfl w hm)) rfl rfl rfl ?_;intro _ _;refine zL ?_;refine av (bz [3,4]) ?_;refine ap rfl ?_;refine aR [0] [1,2,3,4] (by decide) rfl rfl (sB aj.en rfl rfl rfl rfl) (fun w hm hb=>Y' w _ hb) rfl rfl rfl ?_;intro _ _;refine zL ?_;refine av (bz [2,3]) ?_
      cases b1
      · try refine GW ?_
        refine cD [4,0,1,2,3] ?_;exact dm () trivial (by repeat' (first|exact True.intro|refine And.intro rfl ?_)) rfl
      · try refine GW ?_
        refine cD [4,0,1,2,3] ?_;exact dm () trivial (by repeat' (first|exact True.intro|refine And.intro rfl ?_)) rfl
    intro _ _
    (repeat refine a8 ?_)
    refine iW (ι:=Unit) (fun _=>True) (fun _=>[(3,.pointer (some ⟨g3,0,none⟩)),(5,.bool (b2||(b1||more))),(7,.pointer (some ⟨g7,0,none⟩)),(11,(.slice (some ⟨b,off,none⟩) ag.length cp)),(12,.int .i64 ag.length),(13,.int .i64 (k:Int))])
      (fun _=>[dh n gE cE E1,dh n gR cR R,dh n gM cM M1,aw g3 (jy (cC n gE cE) vF vL (cC n gR cR) (cC n gM cM)).cells 104,aw g7 #[.int .i64 (hn:Int),.slice bb body.length cb] 140]) ?_ ?_
    · refine cU ([aw g3 (jy (cC n gE cE) vF vL (cC n gR cR) (cC n gM cM)).cells 104,aw g7 #[.int .i64 (hn:Int),.slice bb body.length cb] 140]) (.calm 0 (.calm 1 (.calm 2 (.calm 3 (.calm 4 (.calm 5 (.calm 6 (.calm 7 (.one 8 (.one 9 (.calm 10 (.calm 11 (.calm 12 (.calm 13 (.done))))))))))))))) (bz [3,4]) ?_
      repeat(first|refine GW ?_|(refine GN ?_;first|refine QW (J ak.ty rfl (ah (i:=0) rfl rfl)) ?_|refine QW (J ak.ty rfl (ah (i:=1) rfl rfl)) ?_))
      refine ap rfl ?_;refine aI (sB aj.en rfl rfl rfl rfl) (fun w hm=>lW _ _ hm (fW (i:=2) rfl w hm)) rfl rfl rfl ?_;intro _ _;refine zL ?_;refine av (bz [3,4]) ?_;refine ap rfl ?_;refine aR [2] [0,1,3,4] (by decide) rfl rfl (sB aj.en rfl rfl rfl rfl) (fun w hm hb=>Za w _ hb) rfl rfl rfl ?_;intro _ _;refine zL ?_;refine av (bz [2,3]) ?_;generalize (b1||more)=mo
      cases b2
      · try refine GW ?_
        refine cD [0,1,4,2,3] ?_;exact dm () trivial (by repeat' (first|exact True.intro|refine And.intro rfl ?_)) rfl
      · try refine GW ?_
        refine cD [0,1,4,2,3] ?_;exact dm () trivial (by repeat' (first|exact True.intro|refine And.intro rfl ?_)) rfl
    intro _ _;generalize (b2||(b1||more))=mo at*;clear Y' Za Pb lW
    repeat(first|refine GA ?_|refine gV (J ak.ty rfl (ah (i:=4) rfl rfl)) ?_)
    generalize Zb:kg hn body R mo=fr at*;obtain⟨R2,mo2⟩:=fr;dsimp only at i5;refine dv (ι:=Nat×List Bool×Bool) (fun(j,R',m')=>j<=body.length/\R'.length=n/\kg hn (body.drop j) R' m'=(R2,mo2)) (fun(j,_,m')=>[(3,.pointer (some ⟨g3,0,none⟩)),(5,.bool m'),(7,.pointer (some ⟨g7,0,none⟩)),(11,(.slice (some ⟨b,off,none⟩) ag.length cp)),(12,.int .i64 ag.length),(13,.int .i64 (k:Int)),(44,.slice bb body.length cb),(45,.int .i64 body.length),(46,.int .i64 (j:Int))])
      (fun(_,R',_)=>[dh n gE cE E1,dh n gR cR R',dh n gM cM M1,aw g3 (jy (cC n gE cE) vF vL (cC n gR cR) (cC n gM cM)).cells 104,aw g7 #[.int .i64 (hn:Int),.slice bb body.length cb] 140]) (fun(j,_,_)=>body.length-j) (0,R,mo) ⟨Nat.zero_le _,i3,Zb⟩ ?_
    clear Zb;rintro⟨j,R',m'⟩ ⟨j1,j2,j3⟩;dsimp only at j1 j2 j3⊢
    by_cases c7:j<body.length
    · obtain⟨b',sX,rfl,hrb⟩:=(by
        obtain⟨bs,cs,hv,_,_,ef⟩:=zZ;simp only[Value.slice.injEq,true_and]at hv;obtain⟨rfl,rfl⟩:=hv;exact ef (by omega):∃b' sX,bb=some ⟨b',sX,none⟩/\Rd w0 b' sX (body.flatMap dg))
      have LU:∀(L:List bI) (q:Nat) (u:Value),(dg body[j])[q]?=some u->At B L ⟨b',sX+j*2+q,none⟩ u:=fun L=>pC lD (fun q u hq=>fx ho (hrb q u hq)) c7;have eh:=JU body[j] (List.getElem_mem c7);rw[List.drop_eq_getElem_cons c7,EZ]at j3;clear JU hrb zZ Rz p4;generalize body[j]=x at*;obtain⟨q,m⟩:=x;dsimp only at eh;unfold uW at j3;dsimp only at j3
      by_cases c8:q=2
      · subst c8
        rw[if_pos rfl]at j3;obtain⟨y1,y2⟩:=eh rfl;obtain⟨mm,rfl⟩:∃mm:Nat,m=mm:=⟨m.toNat,by omega⟩;rw[Int.toNat_natCast]at j3;have hcell:=wT (l:=R') (i:=hn) (by omega);generalize R'.getD hn false=bh at*;have GL:=fun w' B' hm=>pZ n gR cR R' mm bh w' B' j2 (by omega) hm;have XY:=kf R' mm bh;rw[j2]at XY;generalize eu R' mm bh=m3 at*;obtain⟨R3,b3⟩:=m3;dsimp only at*
        repeat(first|refine GA ?_|refine gV (aC aT.eq ak.ty rfl rfl c7) ?_|refine gV (aH ak.ty rfl rfl (LU _)) ?_)
        clear LU;refine aK rfl fun g9=>?_;refine fa 5 ?_;refine zL ?_
        repeat(first|refine GA ?_|refine gV (J ak.ty rfl (ah (i:=5) rfl rfl)) ?_)
        refine cU ([aw g3 (jy (cC n gE cE) vF vL (cC n gR cR) (cC n gM cM)).cells 104,aw g7 #[.int .i64 (hn:Int),.slice (some ⟨b',sX,none⟩) body.length cb] 140,aw g9 #[.int .i64 2,.int .i64 (mm:Int)] 148]) (.calm 0 (.calm 1 (.calm 2 (.calm 3 (.calm 4 (.calm 5 (.calm 6 (.calm 7 (.calm 8 (.one 9 (.one 10 (.calm 11 (.calm 12 (.calm 13 (.calm 14 (.done)))))))))))))))) (bz [3,4,5]) ?_
        repeat(first|refine GW ?_|(refine GN ?_;first|refine QW (J ak.ty rfl (ah (i:=0) rfl rfl)) ?_|refine QW (J ak.ty rfl (ah (i:=1) rfl rfl)) ?_|refine QW (J ak.ty rfl (ah (i:=2) rfl rfl)) ?_|refine QW (bx aT.eq ak.ty rfl rfl (show hn<n by omega)) ?_))
        refine ap rfl (aV (J ak.ty rfl (ix (i:=1) rfl (by rw[Nat.zero_add];exact hcell))) rfl rfl rfl (av (bz [3,4,5]) ?_));refine ap rfl ?_;refine aR [1] [0,2,3,4,5] (by decide) rfl rfl (sB aj.en rfl rfl rfl rfl) (fun w hm hb=>GL w _ hb) rfl rfl rfl ?_;intro _ _;refine zL ?_;refine av (bz [2,3,4]) ?_
        cases b3
        · try refine GW ?_
          try refine GA ?_
          refine cD [0,5,1,2,3] ?_;exact bB (j+1,R3,false||m') ⟨by omega,XY,j3⟩ (by show body.length-(j+1)<body.length-j;omega)
        · try refine GW ?_
          try refine GA ?_
          refine cD [0,5,1,2,3] ?_;exact bB (j+1,R3,true||m') ⟨by omega,XY,j3⟩ (by show body.length-(j+1)<body.length-j;omega)
      · rw[if_neg c8]at j3
        dsimp only at j3
        repeat(first|refine GA ?_|refine gV (aC aT.eq ak.ty rfl rfl c7) ?_|refine gV (aH ak.ty rfl rfl (LU _)) ?_)
        clear LU;refine aK rfl fun g9=>?_;refine fa 5 ?_;refine zL ?_
        repeat(first|refine GA ?_|refine gV (J ak.ty rfl (ah (i:=5) rfl rfl)) ?_)
        refine cD [0,1,2,3,4] ?_;exact bB (j+1,R',m') ⟨by omega,j2,j3⟩ (by show body.length-(j+1)<body.length-j;omega)
    · rw[List.drop_of_length_le (by omega)]at j3
      have j3:(R',m')=(R2,mo2):=j3;simp only[Prod.mk.injEq]at j3;obtain⟨rfl,rfl⟩:=j3
      try refine GA ?_
      refine cD [0,1,2,3] ?_;exact bB (k+1,⟨E1,R',M1,m'⟩) ⟨by omega,B7,j2,Ca,i5⟩ (by show ag.length-(k+1)<ag.length-k;omega)
  · rw[List.drop_of_length_le (by omega)]at i5
    have i5:(⟨E,R,M,more⟩:FS)=fin:=i5;subst i5
    try refine GA ?_
    exact b9 rfl rfl fun w hm=>hm.bP (S:=⟨fun(_:Unit)=>True,fun _=> .bool more,fun _=>[dh n gE cE E,dh n gR cR R,dh n gM cM M]⟩) () trivial [0,1,2] (by decide) rfl
end bK
namespace bK
open Go.RowKit bO dc aB cL
def fw(n g c:Nat)(l:List Nat):bI:=aM 114 1 (.slice (some ⟨g,0,none⟩) n c) n (l.map eV)
theorem yv(n g cap:Nat)(l:List Nat)(i b:Nat)(w:World)(B:bC)(hl:tU n l)(hi:i<n)(hb:b<18446744073709551616)(hm:Mem B [fw n g cap l] w):
 Calls Tryz.prog 124 #[.slice (some ⟨g,0,none⟩) n cap,.int .i64 (i:Int),eV b] w (c_ ⟨fun(_:Unit)=>True,fun _=> .bool (kN l i b).2,fun _=>[fw n g cap (kN l i b).1]⟩ B):=by
 obtain⟨rfl,Y9⟩:=hl;exact LS g cap l i b w B hi Y9 hb hm
structure U4 where
 gE:Nat
 cE:Nat
 gF:Nat
 cF:Nat
 gW:Nat
 cW:Nat
 gM:Nat
 cM:Nat
theorem HP(E M:List Bool)(p:aB.Prod)(r:List aB.Prod)(F:List Nat)(more:Bool):ni E M (p::r) F more=ni E M r (AY E M p F more).1 (AY E M p F more).2:=rfl
theorem HQ(E:List Bool)(F:List Nat)(p:aB.Prod)(r:List aB.Prod)(W:List Nat)(more:Bool):kE E F (p::r) W more=kE E F r (gH E F p.1.toNat p.2 W more).1 (gH E F p.1.toNat p.2 W more).2:=rfl
theorem E4(E:List Bool)(F:List Nat)(h:Nat)(x:cg)(r:List cg)(W:List Nat)(more:Bool):gH E F h (x::r) W more=gH E F h r (fR E F h x r W more).1 (fR E F h x r W more).2:=rfl
def np(E M:List Bool)(l:List aB.Prod)(F:List Nat):List Nat:=cL.fix (fun F=>ni E M l F false) kh F
def rm(E:List Bool)(F:List Nat)(l:List aB.Prod)(W:List Nat):List Nat:=cL.fix (fun W=>kE E F l W false) kh W
theorem HR(w0:World)(v:Value)(g:dr)(h:iZ (fun k=>k<w0.heap.size) w0 v g)(gd:cz g=0)(n:Nat)(hn:g.aU=n)(x:U4)(vR:Value)(E:List Bool)(F W:List Nat)(M:List Bool)(hE:E.length=n)(hF:tU n F)(hW:tU n W)(hM:M.length=n)(w:World)(B:bC)(ho:jz w0 B)(hm:Mem B [dh n x.gE x.cE E,fw n x.gF x.cF F,fw n x.gW x.cW W,dh n x.gM x.cM M] w):
    Calls Tryz.prog 82 #[v,jy (cC n x.gE x.cE) (cC n x.gF x.cF) (cC n x.gW x.cW) vR (cC n x.gM x.cM)] w (c_ ⟨fun(_:Unit)=>True,fun _=> .tuple #[],fun _=>[dh n x.gE x.cE E,fw n x.gF x.cF (np E M g.ag F),fw n x.gW x.cW (rm E (np E M g.ag F) g.ag W),dh n x.gM x.cM M]⟩ B):=by
  obtain⟨gE,cE,gF,cF,gW,cW,gM,cM⟩:=x;dsimp only at*;have nr:=tb gd hn;obtain⟨_,_,_,_,hlen,_⟩:=bV gd;obtain⟨vp,rfl,h1,_⟩:=h;obtain⟨bp,cp,rfl,Jx,GM,lF⟩:=h1;unfold maxLen at GM;obtain⟨t,nn,ag⟩:=g;dsimp only at*;subst hn;have sf:=Hr (E:=E) (M:=M) nr;refine dC hm (args:=[cO t (n:Int) (.slice bp ag.length cp),jy (cC n gE cE) (cC n gF cF) (cC n gW cW) vR (cC n gM cM)]) (n:=80) Tryz.func82 rfl rfl rfl ?_;refine a8 (aL (a_ rfl rfl rfl fun g2=>a_ rfl rfl rfl fun g3=>?_));refine zL ?_
  try refine GA ?_
  generalize iO:np E M ag F=fin;refine dv (ι:=List Nat×Bool) (fun(F,more)=>tU n F/\(more=true->np E M ag F=fin)/\(more=false->F=fin)) (fun(_,more)=>[(2,.pointer (some ⟨g2,0,none⟩)),(3,.pointer (some ⟨g3,0,none⟩)),(4,.bool more)])
    (fun(F,_)=>[dh n gE cE E,fw n gF cF F,fw n gW cW W,dh n gM cM M,aw g2 (cO t (n:Int) (.slice bp ag.length cp)).cells 33,aw g3 (jy (cC n gE cE) (cC n gF cF) (cC n gW cW) vR (cC n gM cM)).cells 104]) (fun(F,more)=>2*kh F+(if more=true then 1 else 0)) (F,true) ⟨hF,fun _=>iO,fun h=>by cases h⟩ ?_
  clear hm hF iO;rintro⟨F,more⟩ ⟨i1,i2,i3⟩;dsimp only at i1 i2 i3⊢
  cases more
  · have i3 :=i3 rfl
    subst i3;clear i2 sf;have sf:=OL (E:=E) i1 nr
    try refine GA ?_
    generalize iO:rm E F ag W=fin;refine dv (ι:=List Nat×Bool) (fun(W,more)=>tU n W/\(more=true->rm E F ag W=fin)/\(more=false->W=fin)) (fun(_,more)=>[(2,.pointer (some ⟨g2,0,none⟩)),(3,.pointer (some ⟨g3,0,none⟩)),(7,.bool more)])
      (fun(W,_)=>[dh n gE cE E,fw n gF cF F,fw n gW cW W,dh n gM cM M,aw g2 (cO t (n:Int) (.slice bp ag.length cp)).cells 33,aw g3 (jy (cC n gE cE) (cC n gF cF) (cC n gW cW) vR (cC n gM cM)).cells 104]) (fun(W,more)=>2*kh W+(if more=true then 1 else 0)) (W,true) ⟨hW,fun _=>iO,fun h=>by cases h⟩ ?_
    clear iO hW;clear W;rintro⟨W,more⟩ ⟨j1,j2,j3⟩;dsimp only at j1 j2 j3⊢
    cases more
    · have j3:=j3 rfl
      subst j3
      try refine GA ?_
      exact xG rfl fun w hm=>hm.bP (S:=⟨fun(_:Unit)=>True,fun _=> .tuple #[],fun _=>[dh n gE cE E,fw n gF cF F,fw n gW cW W,dh n gM cM M]⟩) () trivial [0,1,2,3] (by decide) rfl
    · have j2 :=j2 rfl
      clear j3;have hdone:∀W' m',kE E F ag W false=(W',m')->tU n W'/\(m'=true->rm E F ag W'=fin)/\(m'=false->W'=fin)/\2*kh W'+(if m'=true then 1 else 0)<2*kh W+1:=fun W' m' hp=>by
        have hk:=tc (E:=E) i1 ag W false nr j1;rw[hp]at hk;dsimp only at hk;refine⟨hk.1,fun c=>?_,fun c=>?_,?_⟩
        · rw[<-j2]
          unfold rm;rw[Co sf j1 (by rw[hp];exact c),hp]
        · rw[<-j2]
          unfold rm;rw[s_ (by rw[hp];exact c),hp]
        · have h2:=hk.2.2
          cases m'
          · have:=hk.2.1;simp;omega
          · rcases h2 rfl with h|h
            · cases h
            · simp;omega
      repeat(first|refine GA ?_|refine gV (J ak.ty rfl (ah (i:=4) rfl rfl)) ?_)
      generalize Zc:kE E F ag W false=fp at*;obtain⟨Wx,mx⟩:=fp;have hdone:=hdone Wx mx rfl;refine dv (ι:=Nat×List Nat×Bool) (fun(k,W,m)=>k<=ag.length/\tU n W/\kE E F (ag.drop k) W m=(Wx,mx)) (fun(k,_,m)=>[(2,.pointer (some ⟨g2,0,none⟩)),(3,.pointer (some ⟨g3,0,none⟩)),(7,.bool m),(40,.slice bp ag.length cp),(41,.int .i64 ag.length),(42,.int .i64 (k:Int))])
        (fun(_,W,_)=>[dh n gE cE E,fw n gF cF F,fw n gW cW W,dh n gM cM M,aw g2 (cO t (n:Int) (.slice bp ag.length cp)).cells 33,aw g3 (jy (cC n gE cE) (cC n gF cF) (cC n gW cW) vR (cC n gM cM)).cells 104]) (fun(k,_,_)=>ag.length-k) (0,W,false) ⟨Nat.zero_le _,j1,Zc⟩ ?_
      clear Zc j2;rintro⟨k,W',m⟩ ⟨k1,k2,k3⟩;dsimp only at k1 k2 k3⊢
      by_cases c6:k<ag.length
      · obtain⟨b,off,rfl,_,hr⟩:=lF (by omega)
        obtain⟨bb,cb,q1,q2,q3⟩:=jC hr c6;have zO:=nr.head ag[k] (List.getElem_mem c6);have Nd:=nr.xZ ag[k] (List.getElem_mem c6);have OV:=nr.Rt ag[k] (List.getElem_mem c6);rw[List.drop_eq_getElem_cons c6,HQ]at k3;have dF:∀(L:List bI) (j:Nat) (v:Value),([.int .i64 ag[k].1,.slice bb ag[k].2.length cb]:List Value)[j]?=some v->At B L ⟨b,off+k*2+j,none⟩ v:=fun L j v hj=>fx ho (q1 j v hj);have zZ:=q3.flat (by decide);clear hr lF q1 q3;generalize ag[k]=p at*;obtain⟨hd,body⟩:=p;dsimp only at*;obtain⟨hn,rfl⟩:∃hn:Nat,hd=hn:=⟨hd.toNat,by omega⟩;rw[Int.toNat_natCast]at zO k3;have Rz:∀w' L,Mem B L w'->Sl w' (.slice bb body.length cb) body.length (body.flatMap dg):=fun w' L hm=>zZ.gr (ho.mem hm);obtain⟨bb2,cb2,he,h4,h5,h6⟩:=zZ;simp only[Value.slice.injEq,true_and]at he;obtain⟨rfl,rfl⟩:=he;unfold maxLen at h5
        repeat(first|refine GA ?_|refine gV (aC aT.eq ak.ty rfl rfl c6) ?_|refine gV (aH ak.ty rfl rfl (dF _)) ?_)
        clear dF;refine aK rfl fun g9=>?_;refine fa 6 ?_;refine zL ?_
        repeat(first|refine GA ?_|refine gV (J ak.ty rfl (ah (i:=6) rfl rfl)) ?_)
        refine dv (ι:=Nat×List Nat×Bool) (fun(j,W,m)=>j<=body.length/\tU n W/\kE E F (ag.drop (k+1)) (gH E F hn (body.drop j) W m).1 (gH E F hn (body.drop j) W m).2=(Wx,mx)) (fun(j,_,m)=>[(2,.pointer (some ⟨g2,0,none⟩)),(3,.pointer (some ⟨g3,0,none⟩)),(7,.bool m),(9,.pointer (some ⟨g9,0,none⟩)),(40,.slice (some ⟨b,off,none⟩) ag.length cp),(41,.int .i64 ag.length),(42,.int .i64 (k:Int)),(47,.slice bb body.length cb),(48,.int .i64 body.length),(49,.int .i64 (j:Int))])
          (fun(_,W,_)=>[dh n gE cE E,fw n gF cF F,fw n gW cW W,dh n gM cM M,aw g2 (cO t (n:Int) (.slice (some ⟨b,off,none⟩) ag.length cp)).cells 33,aw g3 (jy (cC n gE cE) (cC n gF cF) (cC n gW cW) vR (cC n gM cM)).cells 104,aw g9 #[.int .i64 (hn:Int),.slice bb body.length cb] 140]) (fun(j,_,_)=>body.length-j) (0,W',m) ⟨Nat.zero_le _,k2,k3⟩ ?_
        clear k2 k3;rintro⟨j,W2,m2⟩ ⟨k2,k3,k4⟩;dsimp only at k2 k3 k4⊢
        by_cases c7:j<body.length
        · obtain⟨b2,SR,rfl,qE⟩:=h6 (by omega)
          have o7:=pC (W:=B) (L:=[dh n gE cE E,fw n gF cF F,fw n gW cW W2,dh n gM cM M,aw g2 (cO t (n:Int) (.slice (some ⟨b,off,none⟩) ag.length cp)).cells 33,aw g3 (jy (cC n gE cE) (cC n gF cF) (cC n gW cW) vR (cC n gM cM)).cells 104,aw g9 #[.int .i64 (hn:Int),.slice (some ⟨b2,SR,none⟩) body.length cb] 140]) lD (fun q x hq=>fx ho (qE q x hq)) c7;have SB:=OV body[j] (List.getElem_mem c7);have iu:∀w' L,Mem B L w'->Sl w' (wj (some ⟨b2,SR,none⟩) cb 2 (j+1) body.length) (body.drop (j+1)).length ((body.drop (j+1)).flatMap dg):=fun w' L hm=>by
            have:=rH lD (Rz w' L hm) (i:=j+1) (j:=body.length) (by omega) (Nat.le_refl _)
            rwa [List.take_of_length_le (by simp)]at this
          have Li:eA E F (body.drop (j+1)) (W2.getD hn 0)<18446744073709551616:=k_ i1 (kY k3 _) fun x hx h=>(Nd x (List.mem_of_mem_drop hx) h).2;have tY:=fun w' L (hm:Mem B L w') (hx:Sl w' (cC n gE cE) E.length (E.map .bool)) (hy:Sl w' (cC n gF cF) F.length (F.map eV))=>pY (cC n gE cE) (cC n gF cF) (cC n gW cW) vR (cC n gM cM) _ E F (body.drop (j+1)) (W2.getD hn 0) w' hx hy (iu w' L hm) (by rw[hE,i1.1]) (fun x hx=>⟨fun h=>by have:=Nd x (List.mem_of_mem_drop hx) h;omega,fun h=>by have:=OV x (List.mem_of_mem_drop hx) h;rw[i1.1];omega⟩) i1.2 (kY k3 _);rw[hE,i1.1]at tY;have hcW:(W2.map eV)[hn]?=some (eV (W2.getD hn 0)):=CF (by rw[k3.1];exact zO.2);rw[List.drop_eq_getElem_cons c7,E4]at k4;generalize body[j]=x at*;obtain⟨q,mn⟩:=x;dsimp only at SB;unfold fR at k4;dsimp only at k4;generalize W2.getD hn 0=bh at*;generalize eA E F (body.drop (j+1)) bh=bg at*
          repeat(first|refine GA ?_|refine gV (aC aT.eq ak.ty rfl rfl c7) ?_|refine gV (aH ak.ty rfl rfl o7) ?_)
          clear o7 qE;refine aK rfl fun g11=>?_;refine zL ?_
          try refine GA ?_
          refine fa 7 ?_;refine zL ?_
          by_cases c1:q=2
          · rw[if_pos c1]at k4
            obtain⟨_,o1,o2⟩:=SB (by omega);subst c1;obtain⟨mm,rfl⟩:∃mm:Nat,mn=mm:=⟨mn.toNat,by omega⟩;rw[Int.toNat_natCast]at k4 o2;have LV:=wN (i:=mm) k3 Li;have Ab:=fun w' B' hm=>yv n gW cW W2 mm bg w' B' k3 o2 Li hm;generalize kN W2 mm bg=ad at*;obtain⟨W3,ch⟩:=ad;dsimp only at k4 LV Ab
            repeat(first|refine GA ?_|refine gV (J ak.ty rfl (ah (i:=7) rfl rfl)) ?_)
            refine cU ([aw g3 (jy (cC n gE cE) (cC n gF cF) (cC n gW cW) vR (cC n gM cM)).cells 104,aw g9 #[.int .i64 (hn:Int),.slice (some ⟨b2,SR,none⟩) body.length cb] 140,aw g11 #[.int .i64 2,.int .i64 (mm:Int)] 148]) (.calm 0 (.calm 1 (.calm 2 (.calm 3 (.calm 4 (.calm 5 (.calm 6 (.calm 7 (.calm 8 (.calm 9 (.calm 10 (.calm 11 (.calm 12 (.calm 13 (.calm 14 (.one 15 (.one 16 (.one 17 (.calm 18 (.calm 19 (.calm 20 (.calm 21 (.done))))))))))))))))))))))) (bz [5,6,7]) ?_
            repeat(first|(refine GN ?_;first|refine QW QP ?_|refine QW (J ak.ty rfl (ah (i:=0) rfl rfl)) ?_|refine QW (J ak.ty rfl (ah (i:=1) rfl rfl)) ?_|refine QW (J ak.ty rfl (ah (i:=2) rfl rfl)) ?_|refine QW (az (i:=0) ak.ty rfl rfl rfl) ?_|refine QW (t_ (i:=j+1) aT.eq ak.ty rfl rfl c7 h4) ?_|refine QW (bx aT.eq ak.ty rfl rfl zO.2) ?_|refine GX ?_)|refine GW ?_)
            refine ap rfl ?_;refine aV (J ak.ty rfl (ix (i:=2) rfl (by rw[Nat.zero_add];exact hcW))) rfl rfl rfl ?_;refine av (bz [5,6,7]) ?_;refine ap rfl ?_;refine aI (sB aj.en rfl rfl rfl rfl) (fun w hm=>tY _ _ hm (fW (i:=0) rfl w hm) (fW (i:=1) rfl w hm)) rfl rfl rfl ?_;intro _ _;refine zL ?_;refine av (bz [5,6,7]) ?_;refine ap rfl ?_;refine aR [2] [0,1,3,4,5,6,7] (by decide) rfl rfl (sB aj.en rfl rfl rfl rfl) (fun w hm hb=>Ab w _ hb) rfl rfl rfl ?_;intro _ _;refine zL ?_;refine av (bz [4,5,6]) ?_
            cases ch
            · try refine GW ?_
              try refine GA ?_
              refine cD [0,1,7,2,3,4,5] ?_;exact bB (j+1,W3,false||m2) ⟨by omega,LV,k4⟩ (by show body.length-(j+1)<body.length-j;omega)
            · try refine GW ?_
              try refine GA ?_
              refine cD [0,1,7,2,3,4,5] ?_;exact bB (j+1,W3,true||m2) ⟨by omega,LV,k4⟩ (by show body.length-(j+1)<body.length-j;omega)
          · rw[if_neg c1]at k4
            repeat(first|refine GA ?_|refine gV (J ak.ty rfl (ah (i:=7) rfl rfl)) ?_)
            refine cD [0,1,2,3,4,5,6] ?_;exact bB (j+1,W2,m2) ⟨c7,k3,k4⟩ (by show body.length-(j+1)<body.length-j;omega)
        · rw[show body.drop j=[]from List.drop_of_length_le (by omega)]at k4
          try refine GA ?_
          refine cD [0,1,2,3,4,5] ?_;exact bB (k+1,W2,m2) ⟨by omega,k3,k4⟩ (by show ag.length-(k+1)<ag.length-k;omega)
      · rw[List.drop_of_length_le (by omega)]at k3
        have k3:(W',m)=(Wx,mx):=k3;simp only[Prod.mk.injEq]at k3;obtain⟨rfl,rfl⟩:=k3;obtain⟨d1,d2,d3,d4⟩:=hdone
        try refine GA ?_
        exact bB (W',m) ⟨d1,d2,d3⟩ d4
  · have i2:=i2 rfl
    clear i3;have hdone:∀F' m',ni E M ag F false=(F',m')->tU n F'/\(m'=true->np E M ag F'=fin)/\(m'=false->F'=fin)/\2*kh F'+(if m'=true then 1 else 0)<2*kh F+1:=fun F' m' hp=>by
      have hk:=pP (E:=E) (M:=M) ag F false nr i1;rw[hp]at hk;dsimp only at hk;refine⟨hk.1,fun c=>?_,fun c=>?_,?_⟩
      · rw[<-i2]
        unfold np;rw[Co sf i1 (by rw[hp];exact c),hp]
      · rw[<-i2]
        unfold np;rw[s_ (by rw[hp];exact c),hp]
      · have h2:=hk.2.2
        cases m'
        · have:=hk.2.1;simp;omega
        · rcases h2 rfl with h|h
          · cases h
          · simp;omega
    repeat(first|refine GA ?_|refine gV (J ak.ty rfl (ah (i:=4) rfl rfl)) ?_)
    generalize Zc:ni E M ag F false=fp at*;obtain⟨Fx,mx⟩:=fp;have hdone:=hdone Fx mx rfl;refine dv (ι:=Nat×List Nat×Bool) (fun(k,F,m)=>k<=ag.length/\tU n F/\ni E M (ag.drop k) F m=(Fx,mx)) (fun(k,_,m)=>[(2,.pointer (some ⟨g2,0,none⟩)),(3,.pointer (some ⟨g3,0,none⟩)),(4,.bool m),(14,.slice bp ag.length cp),(15,.int .i64 ag.length),(16,.int .i64 (k:Int))])
      (fun(_,F,_)=>[dh n gE cE E,fw n gF cF F,fw n gW cW W,dh n gM cM M,aw g2 (cO t (n:Int) (.slice bp ag.length cp)).cells 33,aw g3 (jy (cC n gE cE) (cC n gF cF) (cC n gW cW) vR (cC n gM cM)).cells 104]) (fun(k,_,_)=>ag.length-k) (0,F,false) ⟨Nat.zero_le _,i1,Zc⟩ ?_
    clear Zc i2;rintro⟨k,F',m⟩ ⟨j1,j2,j3⟩;dsimp only at j1 j2 j3⊢
    by_cases c6:k<ag.length
    · obtain⟨b,off,rfl,_,hr⟩:=lF (by omega)
      obtain⟨bb,cb,q1,q2,q3⟩:=jC hr c6;have zO:=nr.head ag[k] (List.getElem_mem c6);have Nd:=nr.xZ ag[k] (List.getElem_mem c6);have OV:=nr.Rt ag[k] (List.getElem_mem c6);rw[List.drop_eq_getElem_cons c6,HP]at j3;have dF:∀(L:List bI) (j:Nat) (v:Value),([.int .i64 ag[k].1,.slice bb ag[k].2.length cb]:List Value)[j]?=some v->At B L ⟨b,off+k*2+j,none⟩ v:=fun L j v hj=>fx ho (q1 j v hj);have zZ:=q3.flat (by decide);clear hr lF q1 q3;generalize ag[k]=p at*;obtain⟨hd,body⟩:=p;dsimp only at*;obtain⟨hn,rfl⟩:∃hn:Nat,hd=hn:=⟨hd.toNat,by omega⟩;rw[Int.toNat_natCast]at zO;have Rz:∀w' L,Mem B L w'->Sl w' (.slice bb body.length cb) body.length (body.flatMap dg):=fun w' L hm=>zZ.gr (ho.mem hm);have mY:=fun w' L (hm:Mem B L w') (hx:Sl w' (cC n gM cM) M.length (M.map .bool))=>se (cC n gM cM) (.slice bb body.length cb) M body true w' hx (Rz w' L hm) (fun x hx eh=>by have:=OV x hx (by omega);rw[hM];omega);rw[hM]at mY;have tY:=fun w' L (hm:Mem B L w') (hx:Sl w' (cC n gE cE) E.length (E.map .bool)) (hy:Sl w' (cC n gF cF) F'.length (F'.map eV))=>pY (cC n gE cE) (cC n gF cF) (cC n gW cW) vR (cC n gM cM) (.slice bb body.length cb) E F' body 0 w' hx hy (Rz w' L hm) (by rw[hE,j2.1]) (fun x hx=>⟨fun h=>by have:=Nd x hx h;omega,fun h=>by have:=OV x hx h;rw[j2.1];omega⟩) j2.2 (by decide);rw[hE,j2.1]at tY;unfold AY at j3;dsimp only at j3;rw[Int.toNat_natCast]at j3;generalize lH M body true=a1 at*;have Li:eA E F' body 0<18446744073709551616:=k_ j2 (by decide) fun x hx h=>(Nd x hx h).2;generalize eA E F' body 0=bg at*
      repeat(first|refine GA ?_|refine gV (aC aT.eq ak.ty rfl rfl c6) ?_|refine gV (aH ak.ty rfl rfl (dF _)) ?_)
      clear dF;refine aK rfl fun g6=>?_;refine fa 6 ?_;refine zL ?_
      repeat(first|refine GA ?_|refine gV (J ak.ty rfl (ah (i:=5) rfl rfl)) ?_|refine gV (J ak.ty rfl (ah (i:=6) rfl rfl)) ?_)
      refine aI (sB aj.en rfl rfl rfl rfl) (fun w hm=>mY _ _ hm (fW (i:=3) rfl w hm)) rfl rfl rfl ?_;intro _ _;refine zL ?_
      cases a1
      · rw[if_neg (by decide)]at j3
        try refine GA ?_
        refine cD [0,1,2,3,4,5] ?_;exact bB (k+1,F',m) ⟨by omega,j2,j3⟩ (by show ag.length-(k+1)<ag.length-k;omega)
      · rw[if_pos rfl]at j3
        have LV:=wN (i:=hn) j2 Li;have Ab:=fun w' B' hm=>yv n gF cF F' hn bg w' B' j2 zO.2 Li hm;generalize kN F' hn bg=ad at*;obtain⟨F2,ch⟩:=ad;dsimp only at*
        try refine GA ?_
        refine cU ([aw g3 (jy (cC n gE cE) (cC n gF cF) (cC n gW cW) vR (cC n gM cM)).cells 104,aw g6 #[.int .i64 (hn:Int),.slice bb body.length cb] 140]) (.calm 0 (.calm 1 (.calm 2 (.calm 3 (.calm 4 (.calm 5 (.calm 6 (.one 7 (.one 8 (.calm 9 (.calm 10 (.calm 11 (.calm 12 (.done)))))))))))))) (bz [5,6]) ?_
        repeat(first|refine GW ?_|(refine GN ?_;first|refine QW (J ak.ty rfl (ah (i:=0) rfl rfl)) ?_|refine QW (J ak.ty rfl (ah (i:=1) rfl rfl)) ?_|refine QW (az (i:=0) ak.ty rfl rfl rfl) ?_))
        refine ap rfl ?_;refine aI (sB aj.en rfl rfl rfl rfl) (fun w hm=>tY _ _ hm (fW (i:=0) rfl w hm) (fW (i:=1) rfl w hm)) rfl rfl rfl ?_;intro _ _;refine zL ?_;refine av (bz [5,6]) ?_;refine ap rfl ?_;refine aR [1] [0,2,3,4,5,6] (by decide) rfl rfl (sB aj.en rfl rfl rfl rfl) (fun w hm hb=>Ab w _ hb) rfl rfl rfl ?_;intro _ _;refine zL ?_;refine av (bz [4,5]) ?_
        cases ch
        · try refine GW ?_
          try refine GA ?_
          refine cD [0,6,1,2,3,4] ?_;exact bB (k+1,F2,false||m) ⟨by omega,LV,j3⟩ (by show ag.length-(k+1)<ag.length-k;omega)
        · try refine GW ?_
          try refine GA ?_
          refine cD [0,6,1,2,3,4] ?_;exact bB (k+1,F2,true||m) ⟨by omega,LV,j3⟩ (by show ag.length-(k+1)<ag.length-k;omega)
    · rw[List.drop_of_length_le (by omega)]at j3
      have j3:(F',m)=(Fx,mx):=j3;simp only[Prod.mk.injEq]at j3;obtain⟨rfl,rfl⟩:=j3;obtain⟨d1,d2,d3,d4⟩:=hdone
      try refine GA ?_
      exact bB (F',m) ⟨d1,d2,d3⟩ d4
end bK
namespace bK
open Go.RowKit bO dc aB cL
def q9(n:Nat)(l:List aB.Prod):FS:=cL.fix (EA l) (uY n) ⟨List.replicate n false,(List.replicate n false).set 0 true,List.replicate n false,false⟩
def GO(n:Nat)(l:List aB.Prod):List Nat:=np (q9 n l).E (q9 n l).M l (List.replicate n 0)
def GP(n:Nat)(l:List aB.Prod):List Nat:=rm (q9 n l).E (GO n l) l ((List.replicate n 0).set 0 9223372036854775808)
structure yw extends U4 where
 gR:Nat
 cR:Nat
def yw.val(n:Nat)(x:yw):Value:=jy (cC n x.gE x.cE) (cC n x.gF x.cF) (cC n x.gW x.cW) (cC n x.gR x.cR) (cC n x.gM x.cM)
theorem Ba(a b c d e:Option Addr)(n1 n2 n3 n4 n5 c1 c2 c3 c4 c5:Nat)(w:World):(Instr.build 104 #[(0,.slice a n1 c1),(1,.slice b n2 c2),(2,.slice c n3 c3),(3,.slice d n4 c4),(4,.slice e n5 c5)]).run Tryz.prog w= .ok (.agg #[.slice a n1 c1,.slice b n2 c2,.slice c n3 c3,.slice d n4 c4,.slice e n5 c5]) w:=by
 go_simp
def Pc(i d n:Nat):Mk:=⟨i,d,fun g=> .slice (some ⟨g,0,none⟩) n n,fun g=>aw g (madeCells #[.bool false] (n*1)) 4⟩
def U5(i d n:Nat):Mk:=⟨i,d,fun g=> .slice (some ⟨g,0,none⟩) n n,fun g=>aw g (madeCells #[.int .u64 0] (n*1)) 114⟩
def mkF(i d:Nat):Mk:=⟨i,d,fun g=> .pointer (some ⟨g,0,none⟩),fun g=>aw g #[.slice none 0 0,.slice none 0 0,.slice none 0 0,.slice none 0 0,.slice none 0 0] 104⟩
theorem ns{P:Program}{k:Nat}{W:bC}{Q:Exit->Act->World->Prop}{fr:Fr}{L:List bI}{c:Code}{i g m:Nat}{e:TypeId}{z:Value}(hi:L[i]?=some (aw g (madeCells #[z] (m*1)) e))(hm:m<=9223372036854775807)(h:T P k W c Q fr (L.set i (aM e 1 (.slice (some ⟨g,0,none⟩) m m) m (List.replicate m z)))):T P k W c Q fr L:=
 N2 1 hi (by rw[size_madeCells]) (Nat.le_refl _) hm (by
  have:(madeCells #[z] (m*1)).toList.take (m*1)=List.replicate m z:=by
   rw[Uz,Nat.mul_one,List.take_of_length_le (by simp)]
  rw[this];exact h)
theorem yx(v:Value)(g:dr)(w:World)(h:iZ (fun k=>k<w.heap.size) w v g)(gd:cz g=0)(n:Nat)(hn:g.aU=n):
    Calls Tryz.prog 42 #[v] w (c_ ⟨fun(_:yw)=>True,fun x=> .tuple #[x.val n,.int .i64 0],fun x=>[dh n x.gE x.cE (q9 n g.ag).E,fw n x.gF x.cF (GO n g.ag),fw n x.gW x.cW (GP n g.ag),dh n x.gR x.cR (q9 n g.ag).R,dh n x.gM x.cM (q9 n g.ag).M]⟩ w):=by
  obtain⟨n1,n2,_,_,hlen,_⟩:=bV gd;have hcc:=fun w' L (hm:Mem w L w')=>gG v g w' (h.gr ((jz.self w).mem hm));rw[gd]at hcc;have h0:=h;obtain⟨vp,rfl,h1,_⟩:=h;obtain⟨bp,cp,rfl,Jx,GM,lF⟩:=h1;unfold maxLen at GM;obtain⟨t,nn,ag⟩:=g;dsimp only at*;subst hn;refine enter (args:=[cO t (n:Int) (.slice bp ag.length cp)]) (n:=39) Tryz.func42 rfl rfl rfl ?_;refine a8 (aL (a_ rfl rfl rfl fun g1=>aK rfl fun g2=>?_));refine zL ?_
  repeat(first|refine GA ?_|refine gV (az (i:=0) ak.ty rfl rfl rfl) ?_)
  refine aI (jc aj.en rfl rfl) (fun w hm=>hcc _ _ hm) rfl rfl rfl ?_;intro _ _;refine zL ?_
  repeat(first|refine GA ?_|refine gV (J ak.ty rfl (ah (i:=0) rfl rfl)) ?_)
  refine iW (ι:=Nat×Nat×Nat×Nat×Nat×Nat) (fun _=>True) (fun(_,_,_,_,_,g6)=>[(1,.pointer (some ⟨g1,0,none⟩)),(2,.pointer (some ⟨g2,0,none⟩)),(6,.pointer (some ⟨g6,0,none⟩))])
    (fun(gE,gF,gW,gR,gM,g6)=>[aw g1 (cO t (n:Int) (.slice bp ag.length cp)).cells 33,aw g2 #[.slice none 0 0,.slice none 0 0,.slice none 0 0,.slice none 0 0,.slice none 0 0] 104,aw gE (madeCells #[.bool false] (n*1)) 4,aw gF (madeCells #[.int .u64 0] (n*1)) 114,aw gW (madeCells #[.int .u64 0] (n*1)) 114,aw gR (madeCells #[.bool false] (n*1)) 4,aw gM (madeCells #[.bool false] (n*1)) 4,aw g6 (jy (cC n gE n) (cC n gF n) (cC n gW n) (cC n gR n) (cC n gM n)).cells 104]) ?_ ?_
  rotate_left
  · rintro⟨gE,gF,gW,gR,gM,g6⟩ _
    dsimp only;refine ns (i:=2) rfl (by omega) ?_;refine ns (i:=3) rfl (by omega) ?_;refine ns (i:=4) rfl (by omega) ?_;refine ns (i:=5) rfl (by omega) ?_;refine ns (i:=6) rfl (by omega) ?_
    conv=>arg 7;simp only[List.set_cons_succ,List.set_cons_zero]
    rw[show List.replicate n (Value.bool false)=(List.replicate n false).map .bool by simp,show List.replicate n (Value.int .u64 0)=(List.replicate n 0).map eV by simp[eV]];have X0:0<n:=by omega
    repeat(first|refine GA ?_|refine gV (J ak.ty rfl (ah (i:=7) rfl rfl)) ?_|refine gV (bx (j:=0) aT.eq ak.ty rfl rfl X0) ?_)
    refine jq (i:=5) ak.ty rfl rfl rfl rfl rfl rfl (by simpa using X0) ?_
    repeat(first|refine GA ?_|refine gV (J ak.ty rfl (ah (i:=7) rfl rfl)) ?_|refine gV (bx (j:=0) aT.eq ak.ty rfl rfl X0) ?_)
    refine jq (i:=4) ak.ty rfl rfl rfl rfl rfl rfl (by simpa using X0) ?_
    conv=>arg 8;simp only[List.set_cons_succ,List.set_cons_zero,Nat.zero_add]
    try refine GA ?_
    generalize iO:q9 n ag=fin;have nr:=tb (g:=⟨t,n,ag⟩) gd rfl;have sf:=yd nr;refine jA (ι:=FS) (fun s=>OM n s/\cL.fix (EA ag) (uY n) s=fin) (fun _=>[(1,.pointer (some ⟨g1,0,none⟩)),(2,.pointer (some ⟨g2,0,none⟩)),(6,.pointer (some ⟨g6,0,none⟩))])
      (fun s=>[aw g1 (cO t (n:Int) (.slice bp ag.length cp)).cells 33,aw g2 #[.slice none 0 0,.slice none 0 0,.slice none 0 0,.slice none 0 0,.slice none 0 0] 104,dh n gE n s.E,fw n gF n (List.replicate n 0),fw n gW n ((List.replicate n 0).set 0 9223372036854775808),dh n gR n s.R,dh n gM n s.M,aw g6 (jy (cC n gE n) (cC n gF n) (cC n gW n) (cC n gR n) (cC n gM n)).cells 104])
      (fun s=>uY n s) ⟨List.replicate n false,(List.replicate n false).set 0 true,List.replicate n false,false⟩ ⟨⟨by simp,by simp,by simp⟩,iO⟩ (by repeat' (first|exact True.intro|refine And.intro rfl ?_)) (by simp[dh,fw,eV,List.map_set]) ?_
    rintro⟨E,R,M,mo⟩ ⟨i1,i2⟩;dsimp only at i2⊢;have ef:=fun w' B' (ho:jz w B') hm=>E3 w _ ⟨t,n,ag⟩ h0 gd n rfl ⟨gE,n,gR,n,gM,n⟩ (cC n gF n) (cC n gW n) E R M i1.1 i1.2.1 i1.2.2 w' B' ho hm;dsimp only at ef
    repeat(first|refine GA ?_|refine gV (az (i:=0) ak.ty rfl rfl rfl) ?_|refine gV (az (i:=7) ak.ty rfl rfl rfl) ?_)
    refine aR [2,5,6] [0,1,3,4,7] (by decide) rfl rfl (eK aj.en rfl rfl rfl) (fun w' hm hb=>ef w' _ ((jz.self w).on hm (by intro o ho;simp at ho⊢;rcases ho with h|h|h<;>simp[h])) hb) rfl rfl rfl ?_;intro _ _;refine zL ?_;clear ef;have hk:=mF ag ⟨E,R,M,false⟩ nr i1;have hgo:(eU ag ⟨E,R,M,false⟩).more=true->cL.fix (EA ag) (uY n) (eU ag ⟨E,R,M,false⟩)=fin/\uY n (eU ag ⟨E,R,M,false⟩)<uY n ⟨E,R,M,mo⟩:=fun c=>⟨by rw[<-i2,Co sf i1 c];rfl,sf.dec _ i1 c⟩;have hst:(eU ag ⟨E,R,M,false⟩).more=false->eU ag ⟨E,R,M,false⟩=fin:=fun c=>by rw[<-i2,s_ (s:=(⟨E,R,M,mo⟩:FS)) c];rfl
    generalize eU ag ⟨E,R,M,false⟩=r at*;obtain⟨E',R',M',m'⟩:=r;dsimp only at hgo hst⊢
    cases m'
    · have hst:=hst rfl
      have U6:=fun w' B' (ho:jz w B') hm=>HR w _ ⟨t,n,ag⟩ h0 gd n rfl ⟨gE,n,gF,n,gW,n,gM,n⟩ (cC n gR n) E' (List.replicate n 0) ((List.replicate n 0).set 0 9223372036854775808) M' hk.1.1 ⟨by simp,fun x hx=>by rw[List.eq_of_mem_replicate hx];decide⟩ ⟨by simp,fun x hx=>by
        rcases List.mem_or_eq_of_mem_set hx with h|h
        · rw[List.eq_of_mem_replicate h];decide
        · rw[h];decide⟩ hk.1.2.2 w' B' ho hm
      dsimp only at U6
      repeat(first|refine GA ?_|refine gV (az (i:=0) ak.ty rfl rfl rfl) ?_|refine gV (az (i:=4) ak.ty rfl rfl rfl) ?_)
      refine aR [5,2,3,7] [0,1,6,4] (by decide) rfl rfl (eK aj.en rfl rfl rfl) (fun w' hm hb=>U6 w' _ ((jz.self w).on hm (by intro o ho;simp at ho⊢;rcases ho with h|h|h|h<;>simp[h])) hb) rfl rfl rfl ?_;intro _ _;refine zL ?_
      repeat(first|refine GA ?_|refine gV (az (i:=3) ak.ty rfl rfl rfl) ?_)
      refine fa 1 ?_;refine zL ?_
      try refine GA ?_
      subst hst;have eF:GO n ag=np E' M' ag (List.replicate n 0):=by unfold GO;rw[iO]
      have eW:GP n ag=rm E' (np E' M' ag (List.replicate n 0)) ag ((List.replicate n 0).set 0 9223372036854775808):=by unfold GP;rw[eF,iO]
      rw[eF,eW];refine da (i:=1) rfl rfl rfl rfl (z:= .int .i64 0) ?_ fun w' hm=>?_
      · rfl
      exact hm.bP (S:=⟨fun(_:yw)=>True,fun x=> .tuple #[x.val n,.int .i64 0],fun x=>[dh n x.gE x.cE E',fw n x.gF x.cF (np E' M' ag (List.replicate n 0)),fw n x.gW x.cW (rm E' (np E' M' ag (List.replicate n 0)) ag ((List.replicate n 0).set 0 9223372036854775808)),dh n x.gR x.cR R',dh n x.gM x.cM M']⟩) ⟨⟨gE,n,gF,n,gW,n,gM,n⟩,gR,n⟩ trivial [4,5,6,2,7] (by decide) rfl
    · try refine GA ?_
      refine cD [0,1,5,2,3,6,7,4] ?_;exact bB ⟨E',R',M',true⟩ ⟨hk.1,(hgo rfl).1⟩ (hgo rfl).2
  refine Og [] wH (by kernel_rfl) (by kernel_rfl) (by intro c a d v w h;cases d<;>exact h) ?_;refine mO 0 (by kernel_rfl) rfl (gj rfl) rfl rfl rfl ?_;refine mO 2 (by kernel_rfl) rfl (gj rfl) rfl rfl rfl ?_;refine mO 4 (by kernel_rfl) rfl (gj rfl) rfl rfl rfl ?_;refine mO 6 (by kernel_rfl) rfl (gj rfl) rfl rfl rfl ?_;refine mO 8 (by kernel_rfl) rfl (gj rfl) rfl rfl rfl ?_;refine Ei [Pc 1 16 n,U5 3 18 n,U5 5 20 n,Pc 7 22 n,Pc 9 24 n,mkF 11 6] (fun m=>!Nat.beq m.i 11) 2 (by kernel_rfl) (by kernel_rfl) ?_ (fun q=>?_) fun q=>?_
  · intro m hm
    simp only[List.mem_cons,List.not_mem_nil,or_false]at hm;rcases hm with rfl|rfl|rfl|rfl|rfl|rfl
    · exact kC rfl rfl rfl (Nat.le_refl _) (by omega) (by omega) rfl
    · exact kC rfl rfl rfl (Nat.le_refl _) (by omega) (by omega) rfl
    · exact kC rfl rfl rfl (Nat.le_refl _) (by omega) (by omega) rfl
    · exact kC rfl rfl rfl (Nat.le_refl _) (by omega) (by omega) rfl
    · exact kC rfl rfl rfl (Nat.le_refl _) (by omega) (by omega) rfl
    · exact AN rfl rfl
  · simp only[Pc,U5,mkF,List.map_cons,List.map_nil]
    generalize q 1=gE;generalize q 3=gF;generalize q 5=gW;generalize q 7=gR;generalize q 9=gM;generalize q 11=g6;clear q;refine wL (.calm 10 (.one 12 .done)) (by kernel_rfl) rfl ?_
    repeat(first|refine GW ?_|(refine GN ?_;first|refine QW (aP rfl (Ba _ _ _ _ _ _ _ _ _ _ _ _ _ _ _)) ?_))
    refine ap rfl ?_;refine fa 7 ?_;refine av wH ?_
    try refine GW ?_
    exact dm (gE,gF,gW,gR,gM,g6) trivial (by repeat' (first|exact True.intro|refine And.intro rfl ?_)) rfl
  · rw[show List.filter (fun m:Mk=>!Nat.beq m.i 11) [Pc 1 16 n,U5 3 18 n,U5 5 20 n,Pc 7 22 n,Pc 9 24 n,mkF 11 6]=[Pc 1 16 n,U5 3 18 n,U5 5 20 n,Pc 7 22 n,Pc 9 24 n]from rfl]
    simp only[Pc,U5,mkF,List.map_cons,List.map_nil];generalize q 1=gE;generalize q 3=gF;generalize q 5=gW;generalize q 7=gR;generalize q 9=gM;clear q;refine wL (.calm 10 (.one 11 (.one 12 .done))) (by kernel_rfl) (by kernel_rfl) ?_
    repeat(first|refine GW ?_|(refine GN ?_;first|refine QW (aP rfl (Ba _ _ _ _ _ _ _ _ _ _ _ _ _ _ _)) ?_))
    refine ap rfl ?_;refine aK rfl fun g6=>?_;refine av wH ?_;refine ap rfl ?_;refine fa 7 ?_;refine av wH ?_
    try refine GW ?_
    exact dm (gE,gF,gW,gR,gM,g6) trivial (by repeat' (first|exact True.intro|refine And.intro rfl ?_)) rfl
end bK
namespace bK
open Go.RowKit bO dc aB dy cL eo
theorem LW{x y:Nat}(hx:x<18446744073709551616)(hy:y<18446744073709551616):bits .and .u64 (x:Int) (y:Int)=((x&&&y:Nat):Int):=bits_and_u64_nat x y hx hy
theorem lX{L:List bI}{R:List Nat}{o:bI}(h:o∈R.filterMap fun i=>L[i]?):o∈L:=by
 obtain⟨i,_,hi⟩:=List.mem_filterMap.1 h;exact List.mem_of_getElem? hi
end bK
namespace bK
open Go.RowKit bO dc aB
theorem SS{α:Type}{s:sC α}{F:Nat->Prop}{w:World}{v:Value}{l:List α}(h:iB s F w v l):v.oneCell'=true:=by
 obtain⟨b,c,rfl,_⟩:=h;rfl
theorem Bc(k q:Int)(w:World):(Instr.build 148 #[(0,.int .i64 k),(1,.int .i64 q)]).run Tryz.prog w= .ok (.agg #[.int .i64 k,.int .i64 q]) w:=by
 go_simp
end bK
namespace bK
open Go.RowKit bO dc aB cL
section
variable{P:Program}{n:Nat}{W:bC}{fr:Fr}{L:List bI}{dst:Option Tmp}{ty:TypeId}{pos:String}{after:Array Edge}{guard:Option (Nat×Bool)}{t u:TypeId}{x y:Operand}{k:IntKind}{m m' r:Int}
theorem JV(hx:ev fr x=some (.int k m))(hy:ev fr y=some (.int k m'))(h:bits .andNot k m m'=r):RR P n W ⟨dst,.binOp .andNot t x y u,ty,pos,after,guard⟩ fr L (.int k r):=BY (.inr (.inr (.inr rfl))) hx hy h
end
theorem yy{ι:Type}{S:Spec ι}{w w':World}{e:Ending}(h:c_ S w e w'):bM S w e w':=let ⟨x,h1,h2,h3⟩:=h;⟨x,h1,h2,h3.below,h3.UG⟩
theorem HT(w:World):(Instr.build 104 (#[]:Array (Nat×Value))).run Tryz.prog w= .ok (.agg #[.slice none 0 0,.slice none 0 0,.slice none 0 0,.slice none 0 0,.slice none 0 0]) w:=by
 go_simp
theorem LX(v:Value)(g:dr)(w:World)(h:iZ (fun k=>k<w.heap.size) w v g)(h0:cz g≠0):
 Calls Tryz.prog 42 #[v] w (bM (ret (.tuple #[jy (.slice none 0 0) (.slice none 0 0) (.slice none 0 0) (.slice none 0 0) (.slice none 0 0),.int .i64 (cz g)])) w):=by
 have gd:=fun w' (hg:Gr w w')=>gG v g w' (h.gr hg);obtain⟨vp,rfl,h1,_⟩:=h;obtain⟨bp,cp,rfl,Jx,GM,lF⟩:=h1;generalize cz g=e at*;obtain⟨t,n,ag⟩:=g;dsimp only at*;refine enter (args:=[cO t n (.slice bp ag.length cp)]) (n:=39) Tryz.func42 rfl rfl rfl ?_;refine a8 (aL (a_ rfl rfl rfl fun g1=>aK rfl fun g2=>?_))
 repeat(first|refine GA ?_|refine gV (az (i:=0) ak.ty rfl rfl rfl) ?_)
 refine aI (jc aj.en rfl rfl) (fun w hm=>gd _ hm.below) rfl rfl rfl ?_;intro _ _;refine zL ?_
 repeat(first|refine GA ?_|refine gV (aP rfl HT) ?_)
 refine fa 1 ?_
 try refine GA ?_
 exact da (i:=1) rfl rfl rfl rfl rfl fun w hm=>hm.ret
end bK
namespace bK
open Go.RowKit bO dc aB cL
def Ac(t n:Int):List cg->Int
 |[]=>0
 |x::r=>if right t n x=true then Ac t n r else 1
theorem CH{t n:Int}:∀{l:List cg},Ac t n l=0->∀x∈l,right t n x=true
  |[],_,_,h=>by cases h
  | y ::r,h,x,hx=>by
    unfold Ac at h;split at h
    · rename_i c
      rcases List.mem_cons.1 hx with rfl|hx
      · exact c
      · exact CH h x hx
    · cases h
theorem CI{t n:Int}:∀{l:List cg},(∀x∈l,right t n x=true)->Ac t n l=0
 |[],_=>rfl
 |y::r,h=>by unfold Ac;rw[if_pos (h y (by simp))];exact CI fun x hx=>h x (by simp[hx])
def p5(g:dr)(body:List cg):Int:=if cz g≠0 then cz g else if 60<body.length then 1 else Ac g.aF g.aU body
def wq(g:dr)(body:List cg)(behind:Nat):Nat:=if p5 g body=0 then eA (q9 g.aU.toNat g.ag).E (GO g.aU.toNat g.ag) body behind else 0
theorem E5{t n:Int}{x:cg}(h:right t n x=false):(x.1≠1/\x.1≠2)\/(x.1=1/\x.2<0)\/(x.1=1/\0<=x.2/\t<=x.2)\/(x.1=2/\x.2<0)\/(x.1=2/\0<=x.2/\n<=x.2):=by
 unfold right at h;split at h
 ·simp at h;omega
 ·split at h
  ·simp at h;omega
  ·omega
theorem p6{t n:Int}{x:cg}(h:right t n x=true):(x.1=1/\0<=x.2/\x.2<t)\/(x.1=2/\0<=x.2/\x.2<n):=by
 unfold right at h;split at h
 ·simp at h;omega
 ·split at h
  ·simp at h;omega
  ·simp at h
theorem CJ{g:dr}{n:Nat}(gd:cz g=0)(hn:g.aU=n):OM n (q9 n g.ag)/\tU n (GO n g.ag):=by
 have hf:=tb gd hn
 constructor
 ·obtain⟨s',h1,h2,h3⟩:=ta (yd hf) _ ⟨List.replicate n false,(List.replicate n false).set 0 true,List.replicate n false,false⟩ ⟨by simp,by simp,by simp⟩ (Nat.le_refl _)
  unfold q9;rw[h3];exact(yd hf).keep _ h1
 ·obtain⟨s',h1,h2,h3⟩:=ta (Hr (E:=(q9 n g.ag).E) (M:=(q9 n g.ag).M) hf) _ (List.replicate n 0) ⟨by simp,fun x hx=>by rw[List.eq_of_mem_replicate hx];decide⟩ (Nat.le_refl _)
  unfold GO np;rw[h3];exact(Hr hf).keep _ h1
theorem nt(v vb:Value)(g:dr)(body:List cg)(behind:Nat)(w:World)(h:iZ (fun k=>k<w.heap.size) w v g)(hs:Sl w vb body.length (body.flatMap dg))(hb:behind<18446744073709551616):
    Calls Tryz.prog 84 #[v,vb,eV behind] w (bM (ret (.tuple #[eV (wq g body behind),.int .i64 (p5 g body)])) w):=by
  by_cases c0:cz g=0
  · obtain⟨_,_,k1,k2,k3,k4⟩:=bV c0
    obtain⟨n,hn⟩:∃n:Nat,g.aU=n:=⟨g.aU.toNat,by omega⟩;have HU:=fun w' (hg:Gr w w')=>yx v g w' (h.gr hg) c0 n hn;obtain⟨hS,hF⟩:=CJ c0 hn;obtain⟨vp,rfl,h1,_⟩:=h;obtain⟨bp,cp,rfl,Jx,GM,lF⟩:=h1;clear lF;have Na:=hs;obtain⟨bb,cb,rfl,h4,h5,h6⟩:=hs;unfold maxLen at h5;obtain⟨t,nn,ag⟩:=g;dsimp only at*;subst hn;have tY:=fun(vE vF vL vR vM:Value) w' (hg:Gr w w') (hE:Sl w' vE n ((q9 n ag).E.map .bool)) (hF2:Sl w' vF n ((GO n ag).map eV)) jZ=>pY vE vF vL vR vM _ (q9 n ag).E (GO n ag) body behind w' (by rw[hS.1];exact hE) (by rw[hF.1];exact hF2) (Na.gr hg) (by rw[hS.1,hF.1]) jZ hF.2 hb;rw[hF.1]at tY;have hV:wq ⟨t,n,ag⟩ body behind=if p5 ⟨t,n,ag⟩ body=0 then eA (q9 n ag).E (GO n ag) body behind else 0:=rfl
    have hE:p5 ⟨t,n,ag⟩ body=if 60<body.length then 1 else Ac t n body:=by
      unfold p5;rw[if_neg (by rw[c0];simp)]
    generalize wq ⟨t,n,ag⟩ body behind=rV at*;generalize p5 ⟨t,n,ag⟩ body=rE at*;refine enter (args:=[cO t (n:Int) (.slice bp ag.length cp),.slice bb body.length cb,eV behind]) (n:=71) Tryz.func84 rfl rfl rfl ?_;refine a8 (aL (a_ rfl rfl rfl fun g3=>?_))
    repeat(first|refine GA ?_|refine gV (az (i:=0) ak.ty rfl rfl rfl) ?_)
    refine aI (jc aj.en rfl rfl) (fun w' hm=>(HU w' hm.below).mono fun e w2 h=>yy h) rfl rfl rfl ?_;intro x _
    conv=>arg 8;simp only[zJ,bZ,ret,id_eq,yw.val]
    try refine GA ?_
    refine aK rfl fun g8=>?_;refine fa 6 ?_;refine zL ?_
    by_cases c1:60<body.length
    · rw[if_pos c1]at hE
      subst hE;rw[if_neg (by decide)]at hV;subst hV
      try refine GA ?_
      exact jk rfl rfl rfl fun w hm=>hm.ret
    rw[if_neg c1]at hE
    try refine GA ?_
    refine dv (ι:=Nat) (fun k=>k<=body.length/\rE=Ac t n (body.drop k)) (fun k=>[(1,.slice bb body.length cb),(2,eV behind),(3,.pointer (some ⟨g3,0,none⟩)),(8,.pointer (some ⟨g8,0,none⟩)),(23,.slice bb body.length cb),(24,.int .i64 body.length),(25,.int .i64 (k:Int))])
      (fun _=>[aw g3 (cO t (n:Int) (.slice bp ag.length cp)).cells 33,dh n x.gE x.cE (q9 n ag).E,fw n x.gF x.cF (GO n ag),fw n x.gW x.cW (GP n ag),dh n x.gR x.cR (q9 n ag).R,dh n x.gM x.cM (q9 n ag).M,aw g8 (jy (cC n x.gE x.cE) (cC n x.gF x.cF) (cC n x.gW x.cW) (cC n x.gR x.cR) (cC n x.gM x.cM)).cells 104]) (fun k=>body.length-k) 0 ⟨Nat.zero_le _,hE⟩ ?_
    rintro k ⟨i1,i2⟩
    by_cases c6:k<body.length
    · obtain⟨b,off,rfl,hr⟩:=h6 (by omega)
      have dF:=fun L=>eN (L:=L) lD hr c6;rw[List.drop_eq_getElem_cons c6,Ac]at i2;clear h6 hr Na tY;generalize body[k]=y at*
      cases r:right t n y
      · rw[if_neg (by rw[r];decide)]at i2
        clear hE;subst i2;rw[if_neg (by decide)]at hV;subst hV;have r':=E5 r;obtain⟨q,m⟩:=y;dsimp only at r';rcases r' with r'|r'|r'|r'|r'
        all_goals
          repeat(first|refine GA ?_|refine gV (aC aT.eq ak.ty rfl rfl c6) ?_|refine gV (aH ak.ty rfl rfl (dF _)) ?_)
          refine aK rfl fun g11=>?_;refine fa 7 ?_;refine zL ?_
          repeat(first|refine GA ?_|refine gV (J ak.ty rfl (ah (i:=7) rfl rfl)) ?_|refine gV (J ak.ty rfl (ah (i:=0) rfl rfl)) ?_)
          exact jk rfl rfl rfl fun w hm=>hm.ret
      · rw[if_pos r]at i2
        have r':=p6 r;obtain⟨q,m⟩:=y;dsimp only at r';rcases r' with r'|r'
        all_goals
          repeat(first|refine GA ?_|refine gV (aC aT.eq ak.ty rfl rfl c6) ?_|refine gV (aH ak.ty rfl rfl (dF _)) ?_)
          refine aK rfl fun g11=>?_;refine fa 7 ?_;refine zL ?_
          repeat(first|refine GA ?_|refine gV (J ak.ty rfl (ah (i:=7) rfl rfl)) ?_|refine gV (J ak.ty rfl (ah (i:=0) rfl rfl)) ?_)
          refine cD [0,1,2,3,4,5,6] ?_;exact bB (k+1) ⟨by omega,i2⟩ (by show body.length-(k+1)<body.length-k;omega)
    · rw[List.drop_of_length_le (by omega)]at i2
      have i2:rE=0:=by rw[i2];rfl
      have mY:∀x∈body,right t n x=true:=CH (hE.symm.trans i2);clear hE;rw[if_pos i2]at hV;subst i2 hV
      repeat(first|refine GA ?_|refine gV (az (i:=6) ak.ty rfl rfl rfl) ?_)
      refine aI (sB aj.en rfl rfl rfl rfl) (fun w hm=>tY _ _ _ _ _ w hm.below (fW (i:=1) rfl w hm) (fW (i:=2) rfl w hm) (fun x hx=>by have:=p6 (mY x hx);omega)) rfl rfl rfl ?_;intro _ _
      try refine GA ?_
      exact jk rfl rfl rfl fun w hm=>hm.ret
  · have HU:=fun w' (hg:Gr w w')=>LX v g w' (h.gr hg) c0
    have hE:p5 g body=cz g:=by unfold p5;rw[if_pos c0]
    have hV:wq g body behind=0:=by unfold wq;rw[hE,if_neg c0]
    rw[hE,hV];obtain⟨vp,rfl,h1,_⟩:=h;obtain⟨bb,cb,rfl,_⟩:=hs;generalize cz g=e at*;obtain⟨t,n,ag⟩:=g;dsimp only at*;refine enter (args:=[cO t n vp,.slice bb body.length cb,eV behind]) (n:=71) Tryz.func84 rfl rfl rfl ?_;refine a8 (aL (a_ rfl rfl rfl fun g3=>?_))
    repeat(first|refine GA ?_|refine gV (az (i:=0) ak.ty rfl rfl rfl) ?_)
    refine aI (jc aj.en rfl rfl) (fun w hm=>HU _ hm.below) rfl rfl rfl ?_;intro _ _
    try refine GA ?_
    refine aK rfl fun g8=>?_;refine fa 1 ?_
    try refine GA ?_
    exact jk rfl rfl rfl fun w hm=>hm.ret
end bK
namespace bK
open Go.RowKit bO dc aB eo
theorem Pd:laidOutB Tryz.prog=true:=by kernel_rfl
theorem JW:(146:TypeId)<Tryz.prog.types.size:=of_decide_eq_true (by kernel_rfl)
theorem Pe:(match Tryz.prog.underlying 146 with|some (.array _ _)|some (.struct _)=>true|_=>false)=true:=by kernel_rfl
def Bd(x:Span):Value:= .agg #[.int .i64 x.1,.int .i64 x.2.1,.int .i64 x.2.2]
theorem Pf(x:Span)(h:bO.cV x.1/\bO.cV x.2.1/\bO.cV x.2.2):∃l,keyOf Tryz.prog 146 (Bd x)=some l:=by
 obtain⟨a,b,c⟩:=x;obtain⟨h1,h2,h3⟩:=h;have e1:Tryz.prog.keyType 146=true:=by kernel_rfl
 have e2:Tryz.prog.cellsOf 146=3:=by kernel_rfl
 have e3:Tryz.prog.cellsOf 3=1:=by kernel_rfl
 have e4:∃d,Tryz.prog.types.size+1=d+2:=⟨Tryz.prog.types.size-1,by have:0<Tryz.prog.types.size:=Nat.lt_of_le_of_lt (Nat.zero_le 146) JW;omega⟩;obtain⟨d,e4⟩:=e4;have key:∀n:Int,bO.cV n->Tryz.prog.keyLits (d+1) 3 [.int .i64 n]=some [.int .i64 n]:=fun n hn=>by
  have hw:(Lit.int .i64 n).wf=true:=by
   have h0: -9223372036854775808<=n:=hn.1;have h1:n<=9223372036854775807:=hn.2;simp[Lit.wf,IntKind.min,IntKind.max,IntKind.signed,IntKind.bits,h0,h1]
  simp[Program.keyLits,Tryz.underlying3,hw]
 refine⟨.string (keyBytes ([.int .i64 a,.int .i64 b,.int .i64 c])),?_⟩;have hl:Tryz.prog.keyLits (d+2) 146 [.int .i64 a,.int .i64 b,.int .i64 c]=some [.int .i64 a,.int .i64 b,.int .i64 c]:=by
  unfold Program.keyLits;simp[Tryz.underlying146,e2,e3,key _ h1,key _ h2,key _ h3]
 have hf:(Bd (a,b,c)).formed Tryz.prog 146=true:=by simp[Bd,Value.formed,Tryz.underlying146,e2]
 unfold keyOf;rw[Tryz.underlying146];show(if(Tryz.prog.keyType 146&&(Bd (a,b,c)).formed Tryz.prog 146)=true then(Tryz.prog.keyLits (Tryz.prog.types.size+1) 146 [.int .i64 a,.int .i64 b,.int .i64 c]).map (fun ls=>Lit.string (keyBytes ls))else none)=_
 rw[e1,hf,e4,hl];rfl
set_option maxRecDepth 100000 in
def Zd:rJ Tryz.prog 146 Span where
  kv:=Bd
  ok x:=bO.cV x.1/\bO.cV x.2.1/\bO.cV x.2.2
  law:=deep_law_laid Pd (m:=2) (by omega) JW (by kernel_rfl) Pe
  key:=Pf
  inj x y h:=by
    obtain⟨a,b,c⟩:=x;obtain⟨a',b',c'⟩:=y;simp only[Bd,Value.agg.injEq,Array.mk.injEq,List.cons.injEq,Value.int.injEq,true_and,and_true]at h;simp[h]
def chM(gm:Nat)(c:mE)(B:Nat):bI:=lu Zd gm (.int .i64 0) (fun x=> .int .i64 (c x:Int)) B
def chV(t n:Int)(vp vw:Value)(gm:Nat):Array Value:=#[.int .i64 t,.int .i64 n,vp,vw,.map (some gm)]
structure ChR(w:World)(gc gm:Nat)(t n:Int)(vp vw:Value)(word:List Int)(c:mE)(B:Nat):Prop where
 cell:w.heap[gc]?=some (.cells (chV t n vp vw gm) 144 (0,0))
 map:(chM gm c B).holds w
 word:Sl w vw word.length (word.map (.int .i64))
theorem ChR.gr{w w':World}{gc gm:Nat}{t n:Int}{vp vw:Value}{word:List Int}{c:mE}{B:Nat}(h:ChR w gc gm t n vp vw word c B)(hg:Gr w w'):ChR w' gc gm t n vp vw word c B:=
 ⟨(hg.block gc (Array.getElem?_eq_some_iff.1 h.cell).1).trans h.cell,(chM gm c B).stay w w' h.map hg.size fun k hk=>hg.block k ((chM gm c B).lt w h.map k hk),h.word.gr hg⟩
theorem WD{W:World}{L:List bI}{b off:Nat}{l:List Int}(h:Rd W b off (l.map (.int .i64))){k:Nat}(hk:k<l.length):At W L ⟨b,off+k,none⟩ (.int .i64 l[k]):=f_ h (by simp[hk])
end bK
namespace aY
open aB dy bT
abbrev Item:=Int×Int×Int
def p7(a b:Int):Int:=if a<b then-1 else if b<a then 1 else 0
def E6(a b:Item):Int:=if p7 a.1 b.1≠0 then p7 a.1 b.1 else if p7 a.2.1 b.2.1≠0 then p7 a.2.1 b.2.1 else p7 a.2.2 b.2.2
def HV(a b:Item):Bool:=decide (E6 a b<0)
theorem JX(a b:Item):HV a b=true↔a.1<b.1\/(a.1=b.1/\(a.2.1<b.2.1\/(a.2.1=b.2.1/\a.2.2<b.2.2))):=by
 unfold HV E6 p7;rw[decide_eq_true_eq]
 repeat' split
 all_goals omega
theorem HW(a b:Item):HV a b=false↔¬(a.1<b.1\/(a.1=b.1/\(a.2.1<b.2.1\/(a.2.1=b.2.1/\a.2.2<b.2.2)))):=by
 rw[<-JX,Bool.not_eq_true]
def GQ(a b:Item):Bool:=!HV b a
theorem wU(a b:Item):GQ a b=true↔¬(b.1<a.1\/(b.1=a.1/\(b.2.1<a.2.1\/(b.2.1=a.2.1/\b.2.2<a.2.2)))):=by
 unfold GQ;rw[Bool.not_eq_true',HW]
theorem LY(a b c:Item)(h1:GQ a b=true)(h2:GQ b c=true):GQ a c=true:=by
 rw[wU]at*;omega
theorem LZ(a b:Item):(GQ a b||GQ b a)=true:=by
 rw[Bool.or_eq_true,wU,wU];omega
theorem E7{a b:Item}(h1:GQ a b=true)(h2:GQ b a=true):a=b:=by
 rw[wU]at*;obtain⟨a1,a2,a3⟩:=a;obtain⟨b1,b2,b3⟩:=b;dsimp only at h1 h2;rw[Prod.mk.injEq,Prod.mk.injEq];omega
theorem L1(x y:Item)(h1:HV x y=false)(h2:HV y x=false):x=y:=E7 (by unfold GQ;rw[h2];rfl) (by unfold GQ;rw[h1];rfl)
def WE(l:List Item):Prop:=l.Pairwise fun a b=>HV a b=true
theorem JY(a:Item):HV a a=false:=by rw[HW];omega
theorem WG{a b c:Item}(h1:HV a b=true)(h2:HV b c=true):HV a c=true:=by
 rw[JX]at*;omega
theorem L2{l:List Item}(h:WE l):l.Nodup:=h.imp fun {a b} x9 e=>by subst e;rw[JY]at x9;cases x9
def p8(l:List Item):List Item:=l.mergeSort GQ
theorem Pg{l:List Item}{x:Item}:x∈p8 l↔x∈l:=(List.mergeSort_perm l GQ).mem_iff
theorem E8(l:List Item):(p8 l).length=l.length:=List.length_mergeSort _
theorem Ph{l:List Item}(h:l.Nodup):WE (p8 l):=by
 have h1:(p8 l).Pairwise fun a b=>GQ a b=true:=List.pairwise_mergeSort LY LZ l;have h2:(p8 l).Nodup:=(List.mergeSort_perm l GQ).nodup_iff.2 h;refine(h1.and h2).imp fun {a b} x9=>?_
 cases e:HV a b with
 |true=>rfl
 |false=>exact absurd (E7 x9.1 (by unfold GQ;rw[e];rfl)) x9.2
section
variable(l:List aB.Prod)(T:Nat)(lk:Int->Int->Nat)
def ee(p:Int):List cg:=if p=(l.length:Int)then [(2,0)]else(bU l p).2
def mG(it:Item):Option cg:=(ee l it.1)[it.2.1.toNat]?
def p9(it:Item):Nat:=if(lk it.1 it.2.1).testBit 62=true then(lk it.1 it.2.1^^^2^62)|||2^it.2.2.toNat else lk it.1 it.2.1
def dY(i:Nat)(bits:Nat)(out:List Item):Nat->List Item
 |0=>out
 |k+1=>if bits.testBit k=true then more (dY i bits out k) ((i:Int),0,(k:Int))else dY i bits out k
def dZ(N:Int)(bits:Nat)(out:List Item):Nat->List Item
 |0=>out
 |i+1=>if(bU l (i:Int)).1=N then dY i bits (dZ N bits out i) (T+1)else dZ N bits out i
def p_(it:Item)(out:List Item):List Item:=match mG l it with
 |some x=>if x.1=2 then dZ l T x.2 (p9 lk it) out l.length else out
 |none=>out
def oT:Nat->Nat->List Item->List Item
 |0,_,out=>out
 |f+1,n,out=>if n<out.length then oT f (n+1) (p_ l T lk (out.getD n (0,0,0)) out)else out
def gO(l0:List Item):List Item:=p8 (oT l T lk 12000 0 (cP [] l0))
def CK(it x:Item):Prop:=∃N:Int,∃i k:Nat,mG l it=some (2,N)/\i<l.length/\(bU l (i:Int)).1=N/\k<=T/\(p9 lk it).testBit k=true/\x=((i:Int),0,(k:Int))
inductive Cl(l0:List Item):Item->Prop
 |base {x:Item} (h:x∈l0):Cl l0 x
 |step {it x:Item} (h:Cl l0 it) (hx:CK l T lk it x):Cl l0 x
def dl(it:Item):Prop:=0<=it.1/\it.1<=(l.length:Int)/\0<=it.2.1/\it.2.1<=((ee l it.1).length:Int)/\0<=it.2.2/\it.2.2<=(T:Int)
end
section
variable{l:List aB.Prod}{T:Nat}{lk:Int->Int->Nat}
theorem qc{i bits:Nat}{out:List Item}{x:Item}:∀k,x∈dY i bits out k↔x∈out\/∃j,j<k/\bits.testBit j=true/\x=((i:Int),0,(j:Int))
  |0=>⟨.inl,fun h=>h.elim id fun⟨j,hj,_⟩=>absurd hj (Nat.not_lt_zero j)⟩
  | k + 1 =>by
    rw[dY]
    by_cases c:bits.testBit k=true
    · rw[if_pos c,pI,qc k]
      constructor
      · rintro((h|⟨j,h1,h2⟩)|h)
        · exact .inl h
        · exact .inr ⟨j,by omega,h2⟩
        · exact .inr ⟨k,by omega,c,h⟩
      · rintro(h|⟨j,h1,h2,h3⟩)
        · exact .inl (.inl h)
        · by_cases e:j=k
          · subst e;exact .inr h3
          · exact .inl (.inr ⟨j,by omega,h2,h3⟩)
    · rw[if_neg c,qc k]
      constructor
      · rintro(h|⟨j,h1,h2⟩)
        · exact .inl h
        · exact .inr ⟨j,by omega,h2⟩
      · rintro(h|⟨j,h1,h2,h3⟩)
        · exact .inl h
        · by_cases e:j=k
          · subst e;exact absurd h2 c
          · exact .inr ⟨j,by omega,h2,h3⟩
theorem vh(i bits:Nat)(out:List Item):∀k,∃E,dY i bits out k=out++E
  |0=>⟨[],(List.append_nil _).symm⟩
  | k +1=>by
    rw[dY];obtain⟨E,h⟩:=vh i bits out k;split
    · obtain⟨E2,h2⟩:=xK (dY i bits out k) (((i:Int),0,(k:Int)):Item)
      exact⟨E++E2,by rw[h2,h,List.append_assoc]⟩
    · exact⟨E,h⟩
theorem mR{i bits:Nat}{out:List Item}(h:out.Nodup):∀k,(dY i bits out k).Nodup
 |0=>h
 |k+1=>by
  rw[dY];split
  ·exact xL (mR h k)
  ·exact mR h k
theorem qd{N:Int}{bits:Nat}{out:List Item}{x:Item}:∀n,x∈dZ l T N bits out n↔x∈out\/∃i k:Nat,i<n/\(bU l (i:Int)).1=N/\k<=T/\bits.testBit k=true/\x=((i:Int),0,(k:Int))
  |0=>⟨.inl,fun h=>h.elim id fun⟨j,_,hj,_⟩=>absurd hj (Nat.not_lt_zero j)⟩
  | n + 1 =>by
    rw[dZ]
    by_cases c:(bU l (n:Int)).1=N
    · rw[if_pos c,qc,qd n]
      constructor
      · rintro((h|⟨i,k,h1,h2⟩)|⟨j,h1,h2,h3⟩)
        · exact .inl h
        · exact .inr ⟨i,k,by omega,h2⟩
        · exact .inr ⟨n,j,by omega,c,by omega,h2,h3⟩
      · rintro(h|⟨i,k,h1,h2,h3,h4,h5⟩)
        · exact .inl (.inl h)
        · by_cases e:i=n
          · subst e;exact .inr ⟨k,by omega,h4,h5⟩
          · exact .inl (.inr ⟨i,k,by omega,h2,h3,h4,h5⟩)
    · rw[if_neg c,qd n]
      constructor
      · rintro(h|⟨i,k,h1,h2⟩)
        · exact .inl h
        · exact .inr ⟨i,k,by omega,h2⟩
      · rintro(h|⟨i,k,h1,h2,h3⟩)
        · exact .inl h
        · by_cases e:i=n
          · subst e;exact absurd h2 c
          · exact .inr ⟨i,k,by omega,h2,h3⟩
theorem qe(N:Int)(bits:Nat)(out:List Item):∀n,∃E,dZ l T N bits out n=out++E
  |0=>⟨[],(List.append_nil _).symm⟩
  | n +1=>by
    rw[dZ];obtain⟨E,h⟩:=qe N bits out n;split
    · obtain⟨E2,h2⟩:=vh n bits (dZ l T N bits out n) (T+1)
      exact⟨E++E2,by rw[h2,h,List.append_assoc]⟩
    · exact⟨E,h⟩
theorem mS{N:Int}{bits:Nat}{out:List Item}(h:out.Nodup):∀n,(dZ l T N bits out n).Nodup
 |0=>h
 |n+1=>by
  rw[dZ];split
  ·exact mR (mS h n) _
  ·exact mS h n
theorem wV{it:Item}{out:List Item}{x:Item}:x∈p_ l T lk it out↔x∈out\/CK l T lk it x:=by
  unfold p_ CK
  cases e:mG l it with
  |none=>exact⟨.inl,fun h=>h.elim id fun⟨_,_,_,h,_⟩=>by cases h⟩
  | some s=>
    obtain⟨k,N⟩:=s;dsimp only
    by_cases c:k=2
    · subst c
      rw[if_pos rfl,qd]
      constructor
      · rintro(h|⟨i,j,h1,h2,h3,h4,h5⟩)
        · exact .inl h
        · exact .inr ⟨N,i,j,rfl,h1,h2,h3,h4,h5⟩
      · rintro(h|⟨N',i,j,h0,h1,h2,h3,h4,h5⟩)
        · exact .inl h
        · simp only[Option.some.injEq,Prod.mk.injEq,true_and]at h0
          subst h0;exact .inr ⟨i,j,h1,h2,h3,h4,h5⟩
    · rw[if_neg c]
      refine⟨.inl,fun h=>h.elim id fun⟨N',_,_,h,_⟩=>?_⟩;simp only[Option.some.injEq,Prod.mk.injEq]at h;exact absurd h.1 c
theorem SU(it:Item)(out:List Item):∃E,p_ l T lk it out=out++E:=by
 unfold p_;split
 ·split
  ·exact qe _ _ _ _
  ·exact⟨[],(List.append_nil _).symm⟩
 ·exact⟨[],(List.append_nil _).symm⟩
theorem L3{it:Item}{out:List Item}(h:out.Nodup):(p_ l T lk it out).Nodup:=by
 unfold p_;split
 ·split
  ·exact mS h _
  ·exact h
 ·exact h
theorem jH{p:Int}(hw:∀q∈l,q.2.length<=8):(ee l p).length<=8:=by
 unfold ee;split
 ·decide
 ·unfold bU
  rw[List.getD_eq_getElem?_getD]
  cases e:l[p.toNat]? with
  |none=>exact Nat.zero_le _
  |some q=>exact hw q (List.mem_of_getElem? e)
theorem L4{it x:Item}(h:CK l T lk it x):dl l T x:=by
 obtain⟨N,i,k,_,h2,_,h4,_,rfl⟩:=h;exact⟨by dsimp only;omega,by dsimp only;omega,Int.le_refl _,by dsimp only;omega,by dsimp only;omega,by dsimp only;omega⟩
theorem tk{l0:List Item}(h0:∀x∈l0,dl l T x){x:Item}(h:Cl l T lk l0 x):dl l T x:=by
 cases h with
 |base h=>exact h0 x h
 |step _ hx=>exact L4 hx
theorem ux{out:List Item}(hw:∀q∈l,q.2.length<=8)(hl:l.length<=40)(hT:T<=30)(hn:out.Nodup)(hr:∀x∈out,dl l T x):out.length<=11439:=by
 have:=kB (l:=out.map fun x:Item=>x.1.toNat*279+x.2.1.toNat*31+x.2.2.toNat) (m:=11439) ?_ ?_
 ·rwa [List.length_map]at this
 ·rw[List.nodup_iff_pairwise_ne,List.pairwise_map]
  refine(List.Pairwise.and_mem.1 hn).imp fun {a b} x9 e=>x9.2.2 ?_;have ha:=hr a x9.1;have hb:=hr b x9.2.1;have ha8:=jH (p:=a.1) hw;have X1:=jH (p:=b.1) hw;unfold dl at ha hb;obtain⟨a1,a2,a3⟩:=a;obtain⟨b1,b2,b3⟩:=b;dsimp only at*;rw[Prod.mk.injEq,Prod.mk.injEq];omega
 ·intro x hx
  obtain⟨a,ha,rfl⟩:=List.mem_map.1 hx;have h1:=hr a ha;have h8:=jH (p:=a.1) hw;unfold dl at h1;omega
structure X2(l:List aB.Prod)(T:Nat)(lk:Int->Int->Nat)(l0:List Item)(n:Nat)(out:List Item):Prop where
 nd:out.Nodup
 le:n<=out.length
 has:∀x∈l0,x∈out
 cl:∀x∈out,Cl l T lk l0 x
 shut:∀j (h:j<out.length),j<n->∀x,CK l T lk out[j] x->x∈out
theorem JZ{l0:List Item}{n:Nat}{out:List Item}(h:X2 l T lk l0 n out)(hn:n<out.length):X2 l T lk l0 (n+1) (p_ l T lk out[n] out):=by
 obtain⟨E,hE⟩:=SU (l:=l) (T:=T) (lk:=lk) out[n] out;have hlen:out.length<=(p_ l T lk out[n] out).length:=by rw[hE,List.length_append];omega
 have sd:∀j (h:j<out.length),(p_ l T lk out[n] out)[j]'(by omega)=out[j]:=fun j hj=>by
  simp only[hE,List.getElem_append_left hj]
 refine⟨L3 h.nd,by omega,fun x hx=>wV.2 (.inl (h.has x hx)),fun x hx=>?_,fun j hj Yj x hx=>?_⟩
 ·rcases wV.1 hx with h1|h1
  ·exact h.cl x h1
  ·exact .step (h.cl _ (List.getElem_mem hn)) h1
 ·have mi:j<out.length:=by omega
  rw[sd j mi]at hx
  by_cases e:j=n
  ·subst e;exact wV.2 (.inr hx)
  ·exact wV.2 (.inl (h.shut j mi (by omega) x hx))
theorem yz{l0:List Item}(hw:∀q∈l,q.2.length<=8)(hl:l.length<=40)(hT:T<=30)(h0:∀x∈l0,dl l T x):∀(f n:Nat) (out:List Item),11440<=f+n->X2 l T lk l0 n out->X2 l T lk l0 (oT l T lk f n out).length (oT l T lk f n out)
  | 0,n,out,hf,h=>by
    have:=ux hw hl hT h.nd fun x hx=>tk h0 (h.cl x hx);have:=h.le;omega
  | f +1,n,out,hf,h=>by
    rw[oT]
    by_cases c:n<out.length
    · rw[if_pos c,List.getD_eq_getElem?_getD,List.getElem?_eq_getElem c,Option.getD_some]
      exact yz hw hl hT h0 f (n+1) _ (by omega) (JZ h c)
    · rw[if_neg c]
      have:=h.le;rw[show out.length=n by omega];exact h
theorem yA(l0:List Item):X2 l T lk l0 0 (cP [] l0):=
 ⟨nY l0 [] List.nodup_nil,Nat.zero_le _,fun x hx=>iD.2 (.inr hx),fun x hx=> .base ((iD.1 hx).resolve_left (by simp)),fun j _ h=>absurd h (Nat.not_lt_zero j)⟩
section
variable(hw:∀q∈l,q.2.length<=8)(hl:l.length<=40)(hT:T<=30)
include hw hl hT
theorem eY{l0:List Item}(h0:∀x∈l0,dl l T x){x:Item}:x∈gO l T lk l0↔Cl l T lk l0 x:=by
 unfold gO;rw[Pg];have h:=yz (lk:=lk) hw hl hT h0 12000 0 _ (by omega) (yA l0);refine⟨h.cl x,fun hx=>?_⟩
 induction hx with
 |base hb=>exact h.has _ hb
 |step _ hx ih=>
  obtain⟨j,hj,rfl⟩:=List.mem_iff_getElem.1 ih;exact h.shut j hj hj _ hx
theorem HX{l0:List Item}(h0:∀x∈l0,dl l T x):WE (gO l T lk l0):=
 Ph (yz (lk:=lk) hw hl hT h0 12000 0 _ (by omega) (yA l0)).nd
theorem fK{l0:List Item}(h0:∀x∈l0,dl l T x):∀x∈gO l T lk l0,dl l T x:=fun _ hx=>tk h0 ((eY hw hl hT h0).1 hx)
theorem ot{l0:List Item}(h0:∀x∈l0,dl l T x):(gO l T lk l0).length<=11439:=
 ux hw hl hT (L2 (HX hw hl hT h0)) (fK hw hl hT h0)
end
end
end aY
namespace aY
open aB dy bT
def SV(it:Item):Item:=(it.1,it.2.1+1,it.2.2)
section
variable(l:List aB.Prod)(T N:Nat)(lk:Int->Int->Nat)
def jI(s:List Item)(x:cg):List Item:=(s.filter fun it=>decide (mG l it=some x)).map SV
def fL(s:List Item)(x:cg):List Item:=gO l T lk (jI l s x)
def jJ:List cg:=(List.range T).map (fun n:Nat=>((1:Int),(n:Int)))++(List.range N).map (fun n:Nat=>((2:Int),(n:Int)))
def fP(S:List (List Item))(s:List Item):Nat×List (List Item):=if s∈S then(idx S s,S)else(S.length,S++[s])
def mH(s:List Item)(x:cg)(S:List (List Item)):Int×List (List Item):=if fL l T lk s x=[]then(-1,S)else(((fP S (fL l T lk s x)).1:Int),(fP S (fL l T lk s x)).2)
def tm(s:List Item):List cg->List Int->List (List Item)->Option (List Int×List (List Item))
 |[],nx,S=>some (nx,S)
 |x::r,nx,S=>if 200<(mH l T lk s x S).2.length then none else tm s r (nx++[(mH l T lk s x S).1]) (mH l T lk s x S).2
def rp:Nat->Nat->List (List Int)->List (List Item)->Option (List (List Int)×List (List Item))
  |0,_,_,_=>none
  | f +1,n,Nx,S=>if n<S.length then(match tm l T lk (S.getD n []) (jJ T N) [] S with
      |none=>none
      |some (nx,S')=>rp f (n+1) (Nx++[nx]) S')else some (Nx,S)
def km:List Item:=gO l T lk [((l.length:Int),0,(T:Int))]
def allI:Option (List (List Int)×List (List Item)):=rp l T N lk 202 0 [] [km l T lk]
end
theorem tp(T N:Nat):(jJ T N).length=T+N:=by unfold jJ;rw[List.length_append,List.length_map,List.length_map,List.length_range,List.length_range]
theorem L5{T N k:Nat}(h:k<T):(jJ T N)[k]?=some (1,(k:Int)):=by
 unfold jJ;rw[List.getElem?_append_left (by simpa using h),List.getElem?_map,List.getElem?_range h];rfl
theorem Pj{T N k:Nat}(h:k<N):(jJ T N)[T+k]?=some (2,(k:Int)):=by
 unfold jJ;rw[List.getElem?_append_right (by simp),List.length_map,List.length_range,Nat.add_sub_cancel_left,List.getElem?_map,List.getElem?_range h];rfl
section
variable{l:List aB.Prod}{T N:Nat}{lk:Int->Int->Nat}
theorem E9{s:List Item}{x:cg}{y:Item}:y∈jI l s x↔∃it∈s,mG l it=some x/\y=SV it:=by
 unfold jI;rw[List.mem_map]
 constructor
 ·rintro⟨it,h,rfl⟩
  rw[List.mem_filter,decide_eq_true_eq]at h;exact⟨it,h.1,h.2,rfl⟩
 ·rintro⟨it,h1,h2,rfl⟩
  exact⟨it,List.mem_filter.2 ⟨h1,decide_eq_true h2⟩,rfl⟩
theorem iH{s:List Item}{x:cg}(hs:∀it∈s,dl l T it):∀y∈jI l s x,dl l T y:=by
 intro y hy;obtain⟨it,h1,h2,rfl⟩:=E9.1 hy;have hr:=hs it h1;have hd:=(List.getElem?_eq_some_iff.1 h2).1;unfold dl SV at*;dsimp only;omega
structure CL(l:List aB.Prod)(T:Nat)(lk:Int->Int->Nat)(S:List (List Item)):Prop where
 nd:S.Nodup
 right:∀s∈S,∀it∈s,dl l T it
 shut:∀s∈S,∀it∈s,∀x,CK l T lk it x->x∈s
def yB(l:List aB.Prod)(T:Nat)(lk:Int->Int->Nat)(S:List (List Item))(s:List Item)(x:cg)(c:Int):Prop:=
 (fL l T lk s x=[]/\c= -1)\/(fL l T lk s x≠[]/\fL l T lk s x∈S/\c=(idx S (fL l T lk s x):Int))
theorem yB.Ly{S:List (List Item)}{s:List Item}{x:cg}{c:Int}(h:yB l T lk S s x c)(E:List (List Item)):yB l T lk (S++E) s x c:=by
 rcases h with h|⟨h1,h2,h3⟩
 ·exact .inl h
 ·exact .inr ⟨h1,List.mem_append_left _ h2,by rw[h3,mC h2]⟩
section
variable(hw:∀q∈l,q.2.length<=8)(hl:l.length<=40)(hT:T<=30)
include hw hl hT
omit hw hl hT in
theorem HY{S:List (List Item)}(hS:CL l T lk S){s:List Item}(hs:∀it∈s,dl l T it)(Sb:∀it∈s,∀x,CK l T lk it x->x∈s):(∃E,(fP S s).2=S++E)/\s∈(fP S s).2/\(fP S s).1=idx (fP S s).2 s/\CL l T lk (fP S s).2:=by
 unfold fP
 by_cases c:s∈S
 ·rw[if_pos c]
  exact⟨⟨[],(List.append_nil _).symm⟩,c,rfl,hS⟩
 ·rw[if_neg c]
  refine⟨⟨[s],rfl⟩,List.mem_append_right _ (List.mem_singleton.2 rfl),?_,?_,?_,?_⟩
  ·show S.length=idx (S++[s]) s
   have:=nh (D:=S) (k:=s);unfold more at this;rw[if_neg c,if_neg c]at this;exact this.symm
  ·rw[List.nodup_append]
   exact⟨hS.nd,by simp,fun a ha b hb e=>by rw[List.mem_singleton.1 hb]at e;subst e;exact c ha⟩
  ·intro s' px it hit
   rcases List.mem_append.1 px with h|h
   ·exact hS.right s' h it hit
   ·rw[List.mem_singleton.1 h]at hit;exact hs it hit
  ·intro s' px it hit x hx
   rcases List.mem_append.1 px with h|h
   ·exact hS.shut s' h it hit x hx
   ·rw[List.mem_singleton.1 h]at hit⊢;exact Sb it hit x hx
theorem qf{l0:List Item}(h0:∀x∈l0,dl l T x):∀it∈gO l T lk l0,∀x,CK l T lk it x->x∈gO l T lk l0:=fun _ hit _ hx=>
 (eY hw hl hT h0).2 (.step ((eY hw hl hT h0).1 hit) hx)
theorem Be{S:List (List Item)}(hS:CL l T lk S){s:List Item}(hs:∀it∈s,dl l T it)(x:cg):(∃E,(mH l T lk s x S).2=S++E)/\yB l T lk (mH l T lk s x S).2 s x (mH l T lk s x S).1/\CL l T lk (mH l T lk s x S).2:=by
 unfold mH
 by_cases c:fL l T lk s x=[]
 ·rw[if_pos c]
  exact⟨⟨[],(List.append_nil _).symm⟩,.inl ⟨c,rfl⟩,hS⟩
 ·rw[if_neg c]
  obtain⟨h1,h2,h3,h4⟩:=HY hS (fK (lk:=lk) hw hl hT (iH (x:=x) hs)) (qf hw hl hT (iH (x:=x) hs));exact⟨h1,.inr ⟨c,h2,congrArg _ h3⟩,h4⟩
theorem E_{s:List Item}(hs:∀it∈s,dl l T it):∀(xs:List cg) (nx:List Int) (S:List (List Item)) (done:List cg) (J0:List Int) (S':List (List Item)),CL l T lk S->tm l T lk s xs nx S=some (J0,S')->S.length<=200->nx.length=done.length->(∀k x,done[k]?=some x->yB l T lk S s x (nx.getD k 0))->
    (∃E,S'=S++E)/\CL l T lk S'/\S'.length<=200/\J0.length=(done++xs).length/\∀k x,(done++xs)[k]?=some x->yB l T lk S' s x (J0.getD k 0)
  | [],nx,S,done,J0,S',hS,h,Ze,hlen,hd=>by
    simp only[tm,Option.some.injEq,Prod.mk.injEq]at h;obtain⟨rfl,rfl⟩:=h;rw[List.append_nil];exact⟨⟨[],(List.append_nil _).symm⟩,hS,Ze,hlen,hd⟩
  | x ::xs,nx,S,done,J0,S',hS,h,Ze,hlen,hd=>by
    rw[tm]at h
    by_cases c:200<(mH l T lk s x S).2.length
    · rw[if_pos c]at h;cases h
    · rw[if_neg c]at h
      obtain⟨⟨E,h1⟩,h2,h3⟩:=Be (lk:=lk) hw hl hT hS hs x;obtain⟨⟨E2,q1⟩,q2,q3,q4,q5⟩:=E_ hs xs (nx++[(mH l T lk s x S).1]) _ (done++[x]) J0 S' h3 h (by omega) (by rw[List.length_append,List.length_append,hlen];rfl) (fun k y hk=>by
        by_cases ek:k<done.length
        · rw[List.getElem?_append_left ek]at hk
          rw[fX (by omega),h1];exact(hd k y hk).Ly E
        · have kp:=(List.getElem?_eq_some_iff.1 hk).1
          rw[List.length_append,List.length_singleton]at kp;obtain rfl:k=done.length:=by omega
          rw[List.getElem?_append_right (Nat.le_refl _),Nat.sub_self]at hk;simp only[List.getElem?_cons_zero,Option.some.injEq]at hk;subst hk;rw[jm (by omega),hlen,Nat.sub_self];exact h2)
      rw[List.append_assoc,List.singleton_append]at q4 q5;exact⟨⟨E++E2,by rw[q1,h1,List.append_assoc]⟩,q2,q3,q4,q5⟩
structure L6(l:List aB.Prod)(T N:Nat)(lk:Int->Int->Nat)(n:Nat)(Nx:List (List Int))(S:List (List Item)):Prop where
 ss:CL l T lk S
 Hx:S.length<=200
 le:n<=S.length
 len:Nx.length=n
 start:S[0]?=some (km l T lk)
 wide:∀q,q<n->(Nx.getD q []).length=T+N
 cell:∀q,q<n->∀k x,(jJ T N)[k]?=some x->yB l T lk S (S.getD q []) x ((Nx.getD q []).getD k 0)
theorem Fa:∀(f n:Nat) (Nx:List (List Int)) (S:List (List Item)) (U7:List (List Int)) (S':List (List Item)),rp l T N lk f n Nx S=some (U7,S')->L6 l T N lk n Nx S->L6 l T N lk S'.length U7 S'
  |0,_,_,_,_,_,h,_=>by cases h
  | f + 1,n,Nx,S,U7,S',h,hi=>by
    rw[rp]at h
    by_cases c:n<S.length
    · rw[if_pos c]at h
      have sd:S.getD n []=S[n]:=by rw[List.getD_eq_getElem?_getD,List.getElem?_eq_getElem c];rfl
      have hs:∀it∈S.getD n [],dl l T it:=by rw[sd];exact hi.ss.right _ (List.getElem_mem c)
      cases e:tm l T lk (S.getD n []) (jJ T N) [] S with
      |none=>rw[e]at h;cases h
      | some r=>
        obtain⟨nx,S1⟩:=r;rw[e]at h;dsimp only at h;obtain⟨⟨E,q1⟩,q2,q3,q4,q5⟩:=E_ (lk:=lk) hw hl hT hs (jJ T N) [] S [] nx S1 hi.ss e hi.Hx rfl (fun k x hk=>by simp at hk);rw[List.nil_append]at q4 q5;have hlen:=congrArg List.length q1;rw[List.length_append]at hlen;refine Fa f (n+1) _ S1 U7 S' h ⟨q2,q3,by omega,by rw[List.length_append,hi.len];rfl,?_,fun q hq=>?_,fun q hq k x hk=>?_⟩
        · rw[q1,List.getElem?_append_left (by have:=(List.getElem?_eq_some_iff.1 hi.start).1;omega)];exact hi.start
        · by_cases eq:q=n
          · subst eq
            rw[jm (by rw[hi.len];exact Nat.le_refl _),hi.len,Nat.sub_self];show nx.length=T+N
            rw[q4,tp]
          · rw[fX (by rw[hi.len];omega)];exact hi.wide q (by omega)
        · by_cases eq:q=n
          · subst eq
            rw[jm (by rw[hi.len];exact Nat.le_refl _),hi.len,Nat.sub_self];have e1:S1.getD q []=S.getD q []:=by rw[q1,fX c]
            rw[e1];exact q5 k x hk
          · rw[fX (by rw[hi.len];omega)]
            have e1:S1.getD q []=S.getD q []:=by rw[q1,fX (by omega)]
            rw[e1,q1];exact(hi.cell q (by omega) k x hk).Ly E
    · rw[if_neg c]at h
      simp only[Option.some.injEq,Prod.mk.injEq]at h;obtain⟨rfl,rfl⟩:=h;have:n=S.length:=by have:=hi.le;omega
      rw[<-this];exact hi
omit hw in
theorem fl:∀x∈[(((l.length:Int),0,(T:Int)):Item)],dl l T x:=by
 intro x hx;rw[List.mem_singleton.1 hx];exact⟨by dsimp only;omega,Int.le_refl _,Int.le_refl _,by dsimp only;omega,by dsimp only;omega,Int.le_refl _⟩
theorem Fb{Nx:List (List Int)}{S:List (List Item)}(h:allI l T N lk=some (Nx,S)):L6 l T N lk S.length Nx S:=
 Fa hw hl hT 202 0 [] [km l T lk] Nx S h
  ⟨⟨by simp,fun s hs it hit=>by rw[List.mem_singleton.1 hs]at hit;exact fK (lk:=lk) hw hl hT (fl hl hT) it hit,fun s hs it hit x hx=>by rw[List.mem_singleton.1 hs]at hit⊢;exact qf hw hl hT (fl hl hT) it hit x hx⟩,by simp,Nat.zero_le _,rfl,rfl,fun q hq=>absurd hq (Nat.not_lt_zero q),fun q hq=>absurd hq (Nat.not_lt_zero q)⟩
end
end
def fm(s:List Item):List UInt8:=s.flatMap fun it=>[UInt8.ofNat it.1.toNat,UInt8.ofNat it.2.1.toNat,UInt8.ofNat it.2.2.toNat]
theorem HZ{a b:Int}(ha:0<=a/\a<256)(hb:0<=b/\b<256)(h:UInt8.ofNat a.toNat=UInt8.ofNat b.toNat):a=b:=by
 have:=congrArg UInt8.toNat h;rw[UInt8.toNat_ofNat',UInt8.toNat_ofNat']at this;omega
theorem yC:∀{s s':List Item},(∀it∈s,0<=it.1/\it.1<256/\0<=it.2.1/\it.2.1<256/\0<=it.2.2/\it.2.2<256)->(∀it∈s',0<=it.1/\it.1<256/\0<=it.2.1/\it.2.1<256/\0<=it.2.2/\it.2.2<256)->fm s=fm s'->s=s'
  |[],[],_,_,_=>rfl
  |[],b::s',_,_,h=>by simp[fm]at h
  |a::s,[],_,_,h=>by simp[fm]at h
  | a ::s,b::s',h1,h2,h=>by
    have ha:=h1 a (List.mem_cons_self ..);have hb:=h2 b (List.mem_cons_self ..);unfold fm at h;rw[List.flatMap_cons,List.flatMap_cons]at h;simp only[List.cons_append,List.nil_append,List.cons.injEq]at h;obtain⟨e1,e2,e3,e4⟩:=h;have e1:=HZ ⟨ha.1,ha.2.1⟩ ⟨hb.1,hb.2.1⟩ e1;have e2:=HZ ⟨ha.2.2.1,ha.2.2.2.1⟩ ⟨hb.2.2.1,hb.2.2.2.1⟩ e2;have e3:=HZ ⟨ha.2.2.2.2.1,ha.2.2.2.2.2⟩ ⟨hb.2.2.2.2.1,hb.2.2.2.2.2⟩ e3;have e:a=b:=by
      obtain⟨a1,a2,a3⟩:=a;obtain⟨b1,b2,b3⟩:=b;simp only at e1 e2 e3;rw[e1,e2,e3]
    rw[e,yC (fun it hit=>h1 it (List.mem_cons_of_mem _ hit)) (fun it hit=>h2 it (List.mem_cons_of_mem _ hit)) e4]
end aY
namespace aY
open aB dy eo cL bT
open wk (yh)
abbrev Act:=Int×Int
section
variable(l:List aB.Prod)(T:Nat)
def tr(c:Nat)(it:Item):Option Act:=if it.2.2≠(c:Int)then none else if it.1=(l.length:Int)/\it.2.1=1 then some (3,0)else if it.1<(l.length:Int)/\it.2.1=((bU l it.1).2.length:Int)then some (2,it.1)else none
def ij(s:List Item)(nx:List Int)(c:Nat):List Act:=(if c<T/\0<=nx.getD c 0 then [(1,nx.getD c 0)]else [])++s.filterMap (tr l c)
end
section
variable(l:List aB.Prod)(T:Nat)(Nx:List (List Int))(S:List (List Item))
def lY(q c:Nat):Act:=(ij l T (S.getD q []) (Nx.getD q []) c).headD (0,0)
def Zf(q:Nat)(n:Int):Int:=(Nx.getD q []).getD (T+n.toNat) 0
def Zg:Prop:=∀q,q<S.length->∀c,c<=T->(ij l T (S.getD q []) (Nx.getD q []) c).length<=1
inductive CM(w:List Int):List Nat->Nat->List cg->List Nat->Nat->Prop
 |nil {σ:List Nat} {a:Nat}:CM w σ a [] σ a
 |shift {q s:Nat} {σ σ':List Nat} {a a':Nat} {E:List cg} (ha:a<w.length) (h:lY l T Nx S q (yh T w a)=(1,(s:Int))) (hr:CM w (s::q::σ) (a+1) E σ' a'):CM w (q::σ) a ((2,(a:Int))::E) σ' a'
 |reduce {q r tq:Nat} {p:Int} {σ ρ σ':List Nat} {a a':Nat} {E:List cg} (h:lY l T Nx S q (yh T w a)=(2,p)) (hd:(q::σ).drop (bU l p).2.length=r::ρ) (hg:Zf T Nx r (bU l p).1=(tq:Int)) (hr:CM w (tq::r::ρ) a E σ' a'):CM w (q::σ) a ((4,p)::E) σ' a'
end
section
variable{l:List aB.Prod}{T N:Nat}{lk:Int->Int->Nat}{Nx:List (List Int)}{S:List (List Item)}{w:List Int}
theorem CM.Ly{σ σ1 σ2:List Nat}{a a1 a2:Nat}{E E2:List cg}(h:CM l T Nx S w σ a E σ1 a1)(h2:CM l T Nx S w σ1 a1 E2 σ2 a2):CM l T Nx S w σ a (E++E2) σ2 a2:=by
 induction h with
 |nil=>exact h2
 |shift ha h _ ih=>exact .shift ha h (ih h2)
 |reduce h hd hg _ ih=>exact .reduce h hd hg (ih h2)
section
end
section
end
end
end aY
namespace bK
open Go.RowKit bO dc aB dy cL aY
def fG(x:aY.Item):List Value:=[.int .i64 x.1,.int .i64 x.2.1,.int .i64 x.2.2]
theorem jj(x:aY.Item):(fG x).length=3:=rfl
def uy(x:Option Nat):bI:=match x with
 |some g=>aw g #[.int .i64 2,.int .i64 0] 148
 |none=>⟨none,fun _=>False,fun _=>True,fun _ _ k h=>by rcases h with h|h;cases h;exact h.elim,fun _ _ _ _ _=>trivial⟩
def SX(vb:Nat->Value)(n:Nat)(x:Option Nat):Value:=match x with
 |some g=> .slice (some ⟨g,0,none⟩) 1 1
 |none=>vb n
def L7(F:Nat->Prop)(w:World)(vb:Nat->Value)(l:List aB.Prod):Prop:=∀i,i<l.length->iB Sj F w (vb i) (bU l (i:Int)).2
def tu(vb:Nat->Value)(n P:Nat):Spec (Option Nat):=⟨fun x=>x.isSome=decide (n=P),fun x=>SX vb n x,fun x=>[uy x]⟩
theorem Pk{F:Nat->Prop}{w:World}{vp:Value}{l:List aB.Prod}(h:iB oO F w vp l):∃(vb:Nat->Value) (bp:Option Addr) (cp:Nat),vp= .slice bp l.length cp/\l.length<=cp/\cp<=maxLen/\L7 F w vb l/\(0<l.length->∃b off,bp=some ⟨b,off,none⟩/\F b/\∀i,i<l.length->Rd w b (off+i*2) [.int .i64 (bU l (i:Int)).1,vb i]/\bO.cV (bU l (i:Int)).1):=by
  obtain⟨bp,cp,rfl,h1,h2,h3⟩:=h
  by_cases h0:0<l.length
  · obtain⟨b,off,rfl,hF,hr⟩:=h3 h0
    have key:∀i:Nat,∃v:Value,i<l.length->iB Sj F w v (bU l (i:Int)).2/\Rd w b (off+i*2) [.int .i64 (bU l (i:Int)).1,v]/\bO.cV (bU l (i:Int)).1:=fun i=>by
      by_cases hi:i<l.length
      · obtain⟨base,cap,q1,q2,q3⟩:=jC hr hi
        have e:bU l (i:Int)=l[i]:=by unfold bU;rw[Int.toNat_natCast,List.getD_eq_getElem?_getD,List.getElem?_eq_getElem hi];rfl
        exact⟨_,fun _=>by rw[e];exact⟨q3,q1,q2⟩⟩
      · exact⟨undef,fun h=>absurd h hi⟩
    refine⟨fun i=>Classical.choose (key i),some ⟨b,off,none⟩,cp,rfl,h1,h2,fun i hi=>(Classical.choose_spec (key i) hi).1,fun _=>⟨b,off,rfl,hF,fun i hi=>(Classical.choose_spec (key i) hi).2⟩⟩
  · exact⟨fun _=>undef,bp,cp,rfl,h1,h2,fun i hi=>absurd hi (by omega),fun h=>absurd h h0⟩
theorem WH{n:Nat}{W:bC}{e:Exit}{Q:Exit->Act->World->Prop}{fr:Fr}{L:List bI}(h:E n W e Q fr (L++[uy none])):E n W e Q fr L:=⟨fun a w hr hm=>h.go a w hr ⟨hm.low,dH.both hm.owns (dH.one trivial fun k hk=>by rcases hk with hk|hk;cases hk;exact hk.elim) fun i j o o' _ hj k _ hk=>by
 match j,hj with
 |0,hj=>
  simp only[List.getElem?_cons_zero,Option.some.injEq]at hj;subst hj;rcases hk with hk|hk
  ·cases hk
  ·exact hk.elim
 |j+1,hj=>simp at hj⟩⟩
theorem H0(w:World):(Instr.build 148 #[(0,.int .i64 2),(1,.int .i64 0)]).run Tryz.prog w= .ok (.agg #[.int .i64 2,.int .i64 0]) w:=by kernel_rfl
theorem ow(t n:Int)(bp:Option Addr)(cp:Nat)(l:List aB.Prod)(vb:Nat->Value)(w0 w:World)(B:bC)(k:Nat)(hk:k<=l.length)(ho:jz w0 B)(hm:Mem B [] w)(tS:∀i,i<l.length->∃bb m cc,vb i= .slice bb m cc)
 (hr:0<l.length->∃b off,bp=some ⟨b,off,none⟩/\∀i,i<l.length->Rd w0 b (off+i*2) [.int .i64 (bU l (i:Int)).1,vb i]):
 Calls Tryz.prog 158 #[cO t n (.slice bp l.length cp),.int .i64 (k:Int)] w (bM (tu vb k l.length) w):=by
 have hb:=H0;have hr:∀i,i<l.length->∃b off,bp=some ⟨b,off,none⟩/\Rd w b (off+i*2) [.int .i64 (bU l (i:Int)).1,vb i]:=fun i hi=>by
  obtain⟨b,off,q1,q2⟩:=hr (by omega);exact⟨b,off,q1,fun j u hj=>ho.cell hm (q2 i hi j u hj)⟩
 clear hm ho;refine enter (args:=[cO t n (.slice bp l.length cp),.int .i64 (k:Int)]) (n:=18) Tryz.func158 rfl rfl rfl ?_;refine a8 (aL (a_ rfl rfl rfl fun g2=>?_));refine zL ?_
 by_cases c:k=l.length
 ·subst c
  repeat(first|refine GC ?_|refine gV (J (v:= .slice bp l.length cp) ak.ty rfl (ah (i:=0) rfl rfl)) ?_|refine gV (bL (b:=true) rfl rfl (decide_eq_true rfl)) ?_|refine gV (aP rfl hb) ?_|refine GB ?_)
  refine dT (cs:=#[.int .i64 2,.int .i64 0]) [.agg #[.int .i64 2,.int .i64 0]] rfl rfl rfl (by intro v hv;simp at hv;subst hv;rfl) rfl rfl rfl fun g11=>?_;refine zL ?_
  try refine GA ?_
  exact b9 rfl rfl fun w hm=>hm.meets (S:=tu vb l.length l.length) (some g11) (by show true=decide (l.length=l.length);rw[decide_eq_true rfl]) [1] (by decide) rfl
 ·obtain⟨b,off,rfl,ef⟩:=hr k (by omega)
  obtain⟨bb,m,cc,hv⟩:=tS k (by omega);have dF:∀(L:List bI),At w L ⟨b,off+k*2+1,none⟩ (vb k):=fun L=>f_ ef (j:=1) rfl;have hlt:k<l.length:=by omega
  repeat(first|refine GC ?_|refine gV (J (v:= .slice (some ⟨b,off,none⟩) l.length cp) ak.ty rfl (ah (i:=0) rfl rfl)) ?_|refine gV (bL (b:=false) rfl rfl (decide_eq_false (by omega))) ?_|refine gV (aC (j:=k) aT.eq ak.ty rfl rfl hlt) ?_|refine gV (J (v:=vb k) ak.ty rfl (dF _)) ?_|refine GB ?_)
  refine WH ?_;exact b9 rfl rfl fun w hm=>hm.meets (S:=tu vb k l.length) none (by show false=decide (k=l.length);rw[decide_eq_false c]) [1] (by decide) rfl
end bK
namespace bK
open Go.RowKit bO dc aB dy cL aY
abbrev RK:=Int×Int
def rkV(x:RK):Value:= .agg #[.int .i64 x.1,.int .i64 x.2]
set_option maxRecDepth 100000 in
theorem WI(p:RK)(h:bO.cV p.1/\bO.cV p.2):∃l,keyOf Tryz.prog 340 (rkV p)=some l:=by
 have e1:Tryz.prog.cellsOf 340=2:=by kernel_rfl
 have e3:Tryz.prog.cellsOf 3=1:=by kernel_rfl
 refine Ce (cs:=[.int .i64 p.1,.int .i64 p.2]) (m:=2) (by kernel_rfl) (by kernel_rfl) (by rw[e1];rfl) (wK 2 (by kernel_rfl)) fun d=>?_;refine uc (d:=d+1) Tryz.underlying340 (by rw[e1];rfl) (by kernel_rfl) fun f hf=>?_;simp only[List.mem_cons,List.not_mem_nil,or_false]at hf;rcases hf with rfl|rfl
 ·rw[e3]
  exact pH Tryz.underlying3 h.1.1 h.1.2
 ·rw[e3]
  exact pH Tryz.underlying3 h.2.1 h.2.2
theorem Zh:(340:TypeId)<Tryz.prog.types.size:=of_decide_eq_true (by kernel_rfl)
set_option maxRecDepth 100000 in
def fM:rJ Tryz.prog 340 RK where
  kv:=rkV
  ok p:=bO.cV p.1/\bO.cV p.2
  law:=deep_law_laid wJ (m:=2) (by omega) Zh (by kernel_rfl) (by kernel_rfl)
  key x h:=WI x h
  inj x y h:=by
    simp only[rkV,Value.agg.injEq,Array.mk.injEq,List.cons.injEq,Value.int.injEq,true_and,and_true]at h;exact Prod.ext h.1 h.2
set_option maxRecDepth 100000 in
theorem WJ(p:aY.Item)(h:bO.cV p.1/\bO.cV p.2.1/\bO.cV p.2.2):∃l,keyOf Tryz.prog 278 (.agg (fG p).toArray)=some l:=by
 have e1:Tryz.prog.cellsOf 278=3:=by kernel_rfl
 have e3:Tryz.prog.cellsOf 3=1:=by kernel_rfl
 refine Ce (cs:=fG p) (m:=2) (by kernel_rfl) (by kernel_rfl) (by rw[e1];rfl) (wK 2 (by kernel_rfl)) fun d=>?_;refine uc (d:=d+1) Tryz.underlying278 (by rw[e1];rfl) (by kernel_rfl) fun f hf=>?_;simp only[List.mem_cons,List.not_mem_nil,or_false]at hf;rcases hf with rfl|rfl|rfl
 ·rw[e3]
  exact pH Tryz.underlying3 h.1.1 h.1.2
 ·rw[e3]
  exact pH Tryz.underlying3 h.2.1.1 h.2.1.2
 ·rw[e3]
  exact pH Tryz.underlying3 h.2.2.1 h.2.2.2
theorem Zi:(278:TypeId)<Tryz.prog.types.size:=of_decide_eq_true (by kernel_rfl)
set_option maxRecDepth 100000 in
def CN:rJ Tryz.prog 278 aY.Item where
  kv x:= .agg (fG x).toArray
  ok p:=bO.cV p.1/\bO.cV p.2.1/\bO.cV p.2.2
  law:=deep_law_laid wJ (m:=2) (by omega) Zi (by kernel_rfl) (by kernel_rfl)
  key x h:=WJ x h
  inj x y h:=by
    simp only[fG,Value.agg.injEq,Array.mk.injEq,List.cons.injEq,Value.int.injEq,true_and,and_true]at h;exact Prod.ext h.1 (Prod.ext h.2.1 h.2.2)
theorem J1{a b:Nat}(ha:a<=9223372036854775807)(hb:b<=9223372036854775807):fM.ok ((a:Int),(b:Int)):=by
 show bO.cV (a:Int)/\bO.cV (b:Int)
 exact⟨⟨by omega,by omega⟩,⟨by omega,by omega⟩⟩
theorem Fc(w:World):(zeroValue 114).run Tryz.prog w= .ok (.int .u64 0) w:=by kernel_rfl
theorem kI(w:World):(zeroValue 3).run Tryz.prog w= .ok (.int .i64 0) w:=by kernel_rfl
theorem yD{x:Nat}(hx:x<18446744073709551616)(h:x.testBit 62=true):bits .andNot .u64 (x:Int) 4611686018427387904=((x^^^2^62:Nat):Int):=by
 have e0:(4611686018427387904:Int)=((2^62:Nat):Int):=by decide
 rw[e0];show IntKind.u64.wrap ((BitVec.ofInt 64 (x:Int)&&& ~~~ BitVec.ofInt 64 ((2^62:Nat):Int)).toNat:Int)=_
 have hlt:x^^^2^62<2^64:=Nat.xor_lt_two_pow hx (by decide);have e:BitVec.ofInt 64 (x:Int)&&& ~~~ BitVec.ofInt 64 ((2^62:Nat):Int)=BitVec.ofNat 64 (x^^^2^62):=by
  rw[BitVec.ofInt_natCast,BitVec.ofInt_natCast]
  ext i hi
  simp only[BitVec.getElem_and,BitVec.getElem_not];rw[<-BitVec.getLsbD_eq_getElem,<-BitVec.getLsbD_eq_getElem,<-BitVec.getLsbD_eq_getElem,BitVec.getLsbD_ofNat,BitVec.getLsbD_ofNat,BitVec.getLsbD_ofNat];simp only[hi,decide_true,Bool.true_and,Nat.testBit_xor,Nat.testBit_two_pow]
  by_cases e:62=i
  ·subst e;rw[h];decide
  ·rw[decide_eq_false e];simp
 rw[e,BitVec.toNat_ofNat,Nat.mod_eq_of_lt hlt,IntKind.wrap_u64];omega
theorem Pl{P:Program}(x j b:Nat)(k k':IntKind)(hb:k.bits=b)(hj:j<=b)(w:World):(Op.shift .shr k (x:Int) k' (j:Int)).run P w= .ok (.int k ((x/2^j:Nat):Int)) w:=by
 have e:min j b=j:=by omega
 have h0:¬((j:Int)<0):=by omega
 have e2:(x:Int).fdiv (2^j)=((x/2^j:Nat):Int):=by
  rw[Int.fdiv_eq_ediv_of_nonneg _ (by have:(0:Int)<2^j:=Int.pow_pos (by decide);omega)];simp
 simp only[Op.shift,if_neg h0,hb,Int.toNat_natCast,e,e2,Sem.run_pure]
theorem WK{y:Nat}(hy:y<18446744073709551616):bits .and .u64 (y:Int) 1=((y %2:Nat):Int):=by
 have h:=bits_nat .u64 64 (by decide) (fun n h0 h1=>by rw[IntKind.wrap_u64];omega) y 1 (by simpa using hy) (by decide);rw[Nat.and_one_is_mod]at h;exact h.1
theorem tv(x k:Nat):x.testBit k=decide (x/2^k %2=1):=Nat.testBit_eq_decide_div_mod_eq ..
def h_(g:dr)(p d:Int):Nat:=wq g ((ee g.ag p).drop (d.toNat+1)) 4611686018427387904
theorem J2{g:dr}{body:List cg}{behind:Nat}(hb:behind<18446744073709551616):wq g body behind<18446744073709551616:=by
 unfold wq
 by_cases c:p5 g body=0
 ·rw[if_pos c]
  have hg:cz g=0:=by
   unfold p5 at c
   by_cases c2:cz g=0
   ·exact c2
   ·rw[if_pos c2]at c;exact c
  have h60:¬60<body.length:=fun h=>by
   unfold p5 at c;rw[if_neg (by simpa using hg),if_pos h]at c;cases c
  have kD:Ac g.aF g.aU body=0:=by
   unfold p5 at c;rw[if_neg (by simpa using hg),if_neg h60]at c;exact c
  have hn:=(bV hg).2.2.1;have ht:=(bV hg).2.1;refine k_ (CJ hg (n:=g.aU.toNat) (by omega)).2 hb fun x hx h1=>?_;rcases p6 (CH kD x hx)with h|h
  ·omega
  ·omega
 ·rw[if_neg c];decide
def vj(t n:Int)(vp:Value)(gm:Nat):List Value:=[.int .i64 t,.int .i64 n,vp,.map (some gm)]
def gT(lk:Int->Int->Nat)(f:RK->Option Value):Prop:=∀x v,f x=some v->v=eV (lk x.1 x.2)
theorem H2(a b:Int)(w:World):(Instr.build 340 #[(0,.int .i64 a),(1,.int .i64 b)]).run Tryz.prog w= .ok (.agg #[.int .i64 a,.int .i64 b]) w:=by go_simp
theorem gT.put{lk:Int->Int->Nat}{f:RK->Option Value}(h:gT lk f)(x:RK):gT lk (fun y=>if y=x then some (eV (lk x.1 x.2))else f y):=by
 intro y v hv;dsimp only at hv
 by_cases c:y=x
 ·rw[if_pos c]at hv
  cases hv;rw[c]
 ·rw[if_neg c]at hv;exact h y v hv
theorem yE(a:cg):(dg a).length=2:=rfl
theorem CO{t n:Int}{vp v:Value}{gm j:Nat}(h:[.int .i64 t,.int .i64 n,vp][j]?=some v):(vj t n vp gm).toArray[0+j]?=some v:=by
 rw[Nat.zero_add]
 match j,h with
 |0,h=>exact h
 |1,h=>exact h
 |2,h=>exact h
theorem tw{l:List aB.Prod}{w0:World}{W:bC}{L:List bI}{vb:Nat->Value}{k i:Nat}{x:Option Nat}(ho:jz w0 W)(hv:L7 (fun q=>q<w0.heap.size) w0 vb l)(hk:k<=l.length)(hx:x.isSome=decide (k=l.length))(hi:L[i]?=some (uy x)):∃b c,SX vb k x= .slice b (ee l (k:Int)).length c/\(ee l (k:Int)).length<=c/\RP W L (SX vb k x) (ee l (k:Int)).length ((ee l (k:Int)).flatMap dg):=by
 cases x with
 |some g=>
  have hk:k=l.length:=by simpa using hx
  subst hk;have e:ee l (l.length:Int)=[(2,0)]:=by unfold ee;rw[if_pos rfl]
  rw[e];exact⟨_,_,rfl,Nat.le_refl _,iA hi (fun j u h=>by simpa[dg]using h) (Nat.le_refl _) (by decide)⟩
 | none=>
  have kp:k<l.length:=by
   have:¬k=l.length:=by simpa using hx
   omega
  have e:ee l (k:Int)=(bU l (k:Int)).2:=by unfold ee;rw[if_neg (by omega)]
  rw[e];have h:=hv k kp;have hs:=h.flat (f:=dg) (by decide);obtain⟨b,c,e2,e3,_⟩:=id h;exact⟨b,c,e2,e3,fun w hm=>hs.gr (ho.mem hm)⟩
attribute [local irreducible] Op.shift Go.bits in
theorem Fe(g:dr)(hg:cz g=0)(bp:Option Addr)(cp:Nat)(vb:Nat->Value)(w0:World)(hG:iZ (fun q=>q<w0.heap.size) w0 (cO g.aF g.aU (.slice bp g.ag.length cp)) g)(tS:L7 (fun q=>q<w0.heap.size) w0 vb g.ag)(lF:0<g.ag.length->∃b off,bp=some ⟨b,off,none⟩/\∀i,i<g.ag.length->Rd w0 b (off+i*2) [.int .i64 (bU g.ag (i:Int)).1,vb i])
    (go gm c:Nat) (f:RK->Option Value) (it:aY.Item) (T:Nat) (hT:T<=30) (hr:dl g.ag T it) (hd:it.2.1.toNat<(ee g.ag it.1).length) (hc:gT (h_ g) f) (hcc:c<=1000000000000000) (w:World) (B:bC) (ho:jz w0 B)
    (hm:Mem B [aw go (vj g.aF g.aU (.slice bp g.ag.length cp) gm).toArray 314,dL fM gm f c] w):
    Calls Tryz.prog 159 #[.pointer (some ⟨go,0,none⟩),.agg (fG it).toArray] w (c_ ⟨fun(x:(RK->Option Value)×Nat)=>gT (h_ g) x.1/\x.2<=c+1,fun _=>eV (p9 (h_ g) it),fun x=>[aw go (vj g.aF g.aU (.slice bp g.ag.length cp) gm).toArray 314,dL fM gm x.1 x.2]⟩ B):=by
  obtain⟨p,d,lo⟩:=it;obtain⟨r1,r2,r3,r4,r5,r6⟩:=hr;dsimp only at r1 r2 r3 r4 r5 r6 hd;obtain⟨k,rfl⟩:=Int.eq_ofNat_of_zero_le r1;obtain⟨dn,rfl⟩:=Int.eq_ofNat_of_zero_le r3;obtain⟨ln,rfl⟩:=Int.eq_ofNat_of_zero_le r5;rw[Int.toNat_natCast]at hd;have hk:k<=g.ag.length:=by omega
  have Bf:=fun w' (mN:Mem B [] w')=>ow g.aF g.aU bp cp g.ag vb w0 w' B k hk ho mN (fun i hi=>let ⟨b,c,h,_⟩:=tS i hi;⟨b,_,c,h⟩) lF;have tY:=fun vs body w' (mN:Gr w0 w') hs=>nt _ vs g body 4611686018427387904 w' (hG.gr mN) hs (by decide);have hbr:=H2 (k:Int) (dn:Int);have hlt:h_ g (k:Int) (dn:Int)<18446744073709551616:=J2 (by decide);have X1:=jH (l:=g.ag) (p:=(k:Int)) (fun q hq=>((bV hg).2.2.2.2.2 q hq).1);refine dC hm (args:=[.pointer (some ⟨go,0,none⟩),.agg (fG ((k:Int),(dn:Int),(ln:Int))).toArray]) (n:=61) Tryz.func159 rfl rfl rfl ?_;refine a8 (aL (a_ rfl rfl rfl fun g3=>?_));refine zL ?_
  repeat(first|refine GA ?_|refine gV (J (v:= .int .i64 (k:Int)) ak.ty rfl (ah (i:=2) rfl rfl)) ?_|refine gV (J (v:= .int .i64 (dn:Int)) ak.ty rfl (ah (i:=2) rfl rfl)) ?_|refine gV (aP rfl hbr) ?_)
  refine aK rfl fun g5=>?_;refine zL ?_;refine fa 3 (cs':=#[.int .i64 (k:Int),.int .i64 (dn:Int)]) ?_;refine zL ?_;have Ld:fM.ok ((k:Int),(dn:Int)):=J1 (by have:=(bV hg).2.2.2.2.1;omega) (by omega);have Ld:fM.ok ((k:Int),(dn:Int)):=J1 (by have:=(bV hg).2.2.2.2.1;omega) (by omega);have Ld:fM.ok ((k:Int),(dn:Int)):=J1 (by have:=(bV hg).2.2.2.2.1;omega) (by omega);have Ld:fM.ok ((k:Int),(dn:Int)):=J1 (by have:=(bV hg).2.2.2.2.1;omega) (by omega);have Jx:=hc.put ((k:Int),(dn:Int));have Y3:h_ g (k:Int) (dn:Int)=wq g ((ee g.ag (k:Int)).drop (dn+1)) 4611686018427387904:=by unfold h_;rw[Int.toNat_natCast]
  have oL:=hc ((k:Int),(dn:Int));dsimp only at Jx oL;unfold p9;dsimp only;rw[Int.toNat_natCast];generalize hB0:h_ g (k:Int) (dn:Int)=B0 at*
  try refine GA ?_
  cases hf:f ((k:Int),(dn:Int))with
  | some v=>
    have hv:=oL v hf;subst hv;clear Bf tY Jx oL;refine cU ([aw go (vj g.aF g.aU (.slice bp g.ag.length cp) gm).toArray 314,dL fM gm f c,aw g3 (Value.agg (fG ((k:Int),(dn:Int),(ln:Int))).toArray).cells 278,aw g5 #[.int .i64 (k:Int),.int .i64 (dn:Int)] 340]) (.calm 0 (.calm 1 (.calm 2 (.calm 3 (.calm 4 (.calm 5 (.calm 6 (.calm 7 (.calm 8 (.calm 9 (.calm 10 (.done)))))))))))) (fun _ h=>h) ?_
    repeat(first|refine GW ?_|(refine GN ?_;first|refine QW (J (v:= .map (some gm)) ak.ty rfl (ah (i:=0) rfl rfl)) ?_|refine QW (az (i:=3) ak.ty rfl rfl rfl) ?_|refine QW (k8 (x:=((k:Int),(dn:Int))) fM aT.eq Fc (i:=1) rfl rfl rfl Ld) ?_))
    rw[hf];dsimp only[Option.getD,Option.isSome]
    try refine GA ?_
    have hdv:B0/2^62<=B0:=Nat.div_le_self _ _;have U8:=WK (y:=B0/2^62) (by omega);have wI:∀w,(Op.shift .shr .u64 (B0:Int) .u64 62).run Tryz.prog w= .ok (.int .u64 ((B0/2^62:Nat):Int)) w:=fun w=>Pl B0 62 64 .u64 .u64 rfl (by decide) w;have sb:∀w,(Op.shift .shl .u64 1 .i64 (ln:Int)).run Tryz.prog w= .ok (.int .u64 ((2^ln:Nat):Int)) w:=fun w=>SP ln (by omega) w
    by_cases cb:B0.testBit 62=true
    · rw[if_pos cb]
      have hn:=yD hlt cb;have eh:B0^^^2^62<18446744073709551616:=Nat.xor_lt_two_pow (n:=64) hlt (by decide);have DJ:=nl eh (tj (m:=ln) (by omega));have z8:B0/2^62 %2=1:=by rw[tv]at cb;exact of_decide_eq_true cb
      generalize B0/2^62=D1 at*;generalize B0^^^2^62=D2 at*;generalize 2^ln=D3 at*
      repeat(first|refine GC ?_|refine gV (lm rfl rfl wI) ?_|refine gV (j_ rfl rfl U8) ?_|refine gV (bL (b:=false) rfl rfl (decide_eq_false (by omega))) ?_|refine gV (JV rfl rfl hn) ?_|refine gV (J (v:= .int .i64 (ln:Int)) ak.ty rfl (ah (i:=2) rfl rfl)) ?_|refine gV (xu rfl rfl sb) ?_|refine gV (sJ rfl rfl DJ) ?_|refine GB ?_)
      exact b9 rfl rfl fun w hm=>hm.bP (S:=⟨fun(x:(RK->Option Value)×Nat)=>gT (h_ g) x.1/\x.2<=c+1,fun _=>eV (D2|||D3),fun x=>[aw go (vj g.aF g.aU (.slice bp g.ag.length cp) gm).toArray 314,dL fM gm x.1 x.2]⟩) (f,c) ⟨hc,by omega⟩ [0,1] (by decide) rfl
    · rw[if_neg cb]
      have sG:B0/2^62 %2=0:=by
        rw[tv,decide_eq_true_eq]at cb;omega
      generalize B0/2^62=D1 at*
      repeat(first|refine GC ?_|refine gV (lm rfl rfl wI) ?_|refine gV (j_ rfl rfl U8) ?_|refine gV (bL (b:=true) rfl rfl (decide_eq_true (by omega))) ?_|refine GB ?_)
      exact b9 rfl rfl fun w hm=>hm.bP (S:=⟨fun(x:(RK->Option Value)×Nat)=>gT (h_ g) x.1/\x.2<=c+1,fun _=>eV B0,fun x=>[aw go (vj g.aF g.aU (.slice bp g.ag.length cp) gm).toArray 314,dL fM gm x.1 x.2]⟩) (f,c) ⟨hc,by omega⟩ [0,1] (by decide) rfl
  | none=>
    clear oL;refine cU ([aw go (vj g.aF g.aU (.slice bp g.ag.length cp) gm).toArray 314,dL fM gm f c,aw g3 (Value.agg (fG ((k:Int),(dn:Int),(ln:Int))).toArray).cells 278,aw g5 #[.int .i64 (k:Int),.int .i64 (dn:Int)] 340]) (.calm 0 (.calm 1 (.calm 2 (.calm 3 (.calm 4 (.calm 5 (.calm 6 (.calm 7 (.calm 8 (.calm 9 (.calm 10 (.done)))))))))))) (fun _ h=>h) ?_
    repeat(first|refine GW ?_|(refine GN ?_;first|refine QW (J (v:= .map (some gm)) ak.ty rfl (ah (i:=0) rfl rfl)) ?_|refine QW (az (i:=3) ak.ty rfl rfl rfl) ?_|refine QW (k8 (x:=((k:Int),(dn:Int))) fM aT.eq Fc (i:=1) rfl rfl rfl Ld) ?_))
    rw[hf];dsimp only[Option.getD,Option.isSome]
    try refine GA ?_
    refine cU ([aw go (vj g.aF g.aU (.slice bp g.ag.length cp) gm).toArray 314,aw g3 (Value.agg (fG ((k:Int),(dn:Int),(ln:Int))).toArray).cells 278]) (.calm 0 (.calm 1 (.calm 2 (.calm 3 (.calm 4 (.calm 5 (.calm 6 (.calm 7 (.calm 8 (.calm 9 (.calm 11 (.calm 12 (.calm 13 (.one 10 (.calm 14 (.one 15 (.calm 16 (.calm 17 (.calm 18 (.calm 19 (.done))))))))))))))))))))) (bz [0,2]) ?_
    repeat(first|(refine GN ?_;first|refine QW QP ?_|refine QW (aH ak.ty rfl (cs:=[.int .i64 g.aF,.int .i64 g.aU,.slice bp g.ag.length cp]) rfl (fun j v h=>ah (i:=0) rfl (CO h))) ?_|refine QW (J (v:= .int .i64 (k:Int)) ak.ty rfl (ah (i:=1) rfl rfl)) ?_|refine QW (J (v:= .int .i64 (dn:Int)) ak.ty rfl (ah (i:=1) rfl rfl)) ?_|refine QW (cB (r:=((dn+1:Nat):Int)) rfl rfl (by omega) (by omega) (by omega)) ?_|refine GX ?_)|refine GW ?_)
    refine ap rfl ?_;refine aI (eK aj.en rfl rfl rfl) (fun w hm=>Bf _ (hm.pick [] (by decide) rfl)) rfl rfl rfl ?_;rintro x hx
    conv=>arg 8;simp only[zJ,bZ,ret,id_eq,tu]
    conv=>arg 7;simp only[tu]
    obtain⟨bb,cc,hv,V1,sb⟩:=tw (W:=B) (i:=4) (L:=[aw go (vj g.aF g.aU (.slice bp g.ag.length cp) gm).toArray 314,dL fM gm f c,aw g3 (Value.agg (fG ((k:Int),(dn:Int),(ln:Int))).toArray).cells 278,aw g5 #[.int .i64 (k:Int),.int .i64 (dn:Int)] 340,uy x]) ho tS hk hx rfl;rw[hv]at sb⊢;have H3:((ee g.ag (k:Int)).drop (dn+1)).take ((ee g.ag (k:Int)).length-(dn+1))=(ee g.ag (k:Int)).drop (dn+1):=List.take_of_length_le (by rw[List.length_drop];exact Nat.le_refl _);have iu:=fun w hm=>rH (i:=dn+1) (j:=(ee g.ag (k:Int)).length) yE (sb w hm) (by omega) (Nat.le_refl _);rw[H3]at iu;generalize Li:(ee g.ag (k:Int)).length=m at*;refine av (bz [0,2]) ?_
    repeat(first|(refine GN ?_;first|refine QW QP ?_|refine QW (t_ (i:=dn+1) aT.eq ak.ty rfl rfl (by omega) V1) ?_|refine GX ?_)|refine GW ?_)
    refine ap rfl ?_;refine aI (sB aj.en rfl rfl rfl rfl) (fun w hm=>tY _ _ _ (ho.mem hm) (iu w hm)) rfl rfl rfl ?_;intro _ _;refine zL ?_;rw[<-Y3];refine av (bz [0,2]) ?_
    try refine GW ?_
    try refine GA ?_
    refine cU ([aw go (vj g.aF g.aU (.slice bp g.ag.length cp) gm).toArray 314,aw g5 #[.int .i64 (k:Int),.int .i64 (dn:Int)] 340]) (.calm 0 (.calm 1 (.calm 2 (.calm 3 (.calm 4 (.calm 5 (.one 6 (.done)))))))) (bz [0,3]) ?_
    repeat(first|refine GW ?_|(refine GN ?_;first|refine QW (J (v:= .map (some gm)) ak.ty rfl (ah (i:=0) rfl rfl)) ?_|refine QW (az (i:=1) ak.ty rfl rfl rfl) ?_))
    refine ap rfl ?_;refine jr (i:=1) (x:=((k:Int),(dn:Int))) (v:=eV B0) fM aT.eq rfl rfl rfl rfl Ld (by omega) ?_;refine zL ?_;rw[hf];dsimp only[Option.isSome];refine av (bz [0,3]) ?_
    try refine GW ?_
    try refine GA ?_
    have hdv:B0/2^62<=B0:=Nat.div_le_self _ _;have U8:=WK (y:=B0/2^62) (by omega);have wI:∀w,(Op.shift .shr .u64 (B0:Int) .u64 62).run Tryz.prog w= .ok (.int .u64 ((B0/2^62:Nat):Int)) w:=fun w=>Pl B0 62 64 .u64 .u64 rfl (by decide) w;have sb:∀w,(Op.shift .shl .u64 1 .i64 (ln:Int)).run Tryz.prog w= .ok (.int .u64 ((2^ln:Nat):Int)) w:=fun w=>SP ln (by omega) w
    by_cases cb:B0.testBit 62=true
    · rw[if_pos cb]
      have hn:=yD hlt cb;have eh:B0^^^2^62<18446744073709551616:=Nat.xor_lt_two_pow (n:=64) hlt (by decide);have DJ:=nl eh (tj (m:=ln) (by omega));have z8:B0/2^62 %2=1:=by rw[tv]at cb;exact of_decide_eq_true cb
      generalize B0/2^62=D1 at*;generalize B0^^^2^62=D2 at*;generalize 2^ln=D3 at*
      repeat(first|refine GC ?_|refine gV (lm rfl rfl wI) ?_|refine gV (j_ rfl rfl U8) ?_|refine gV (bL (b:=false) rfl rfl (decide_eq_false (by omega))) ?_|refine gV (JV rfl rfl hn) ?_|refine gV (J (v:= .int .i64 (ln:Int)) ak.ty rfl (ah (i:=2) rfl rfl)) ?_|refine gV (xu rfl rfl sb) ?_|refine gV (sJ rfl rfl DJ) ?_|refine GB ?_)
      exact b9 rfl rfl fun w hm=>hm.bP (S:=⟨fun(x:(RK->Option Value)×Nat)=>gT (h_ g) x.1/\x.2<=c+1,fun _=>eV (D2|||D3),fun x=>[aw go (vj g.aF g.aU (.slice bp g.ag.length cp) gm).toArray 314,dL fM gm x.1 x.2]⟩) (_,c+1) ⟨Jx,Nat.le_refl _⟩ [0,1] (by decide) rfl
    · rw[if_neg cb]
      have sG:B0/2^62 %2=0:=by
        rw[tv,decide_eq_true_eq]at cb;omega
      generalize B0/2^62=D1 at*
      repeat(first|refine GC ?_|refine gV (lm rfl rfl wI) ?_|refine gV (j_ rfl rfl U8) ?_|refine gV (bL (b:=true) rfl rfl (decide_eq_true (by omega))) ?_|refine GB ?_)
      exact b9 rfl rfl fun w hm=>hm.bP (S:=⟨fun(x:(RK->Option Value)×Nat)=>gT (h_ g) x.1/\x.2<=c+1,fun _=>eV B0,fun x=>[aw go (vj g.aF g.aU (.slice bp g.ag.length cp) gm).toArray 314,dL fM gm x.1 x.2]⟩) (_,c+1) ⟨Jx,Nat.le_refl _⟩ [0,1] (by decide) rfl
end bK
namespace bK
open Go.RowKit bO dc aY Go.Lib Go.Sort
theorem SY(x:Int)(w:World):Calls Tryz.prog 207 #[.int .i64 x] w fun e w'=>e= .returned (.bool false)/\w'=w:=by
 go_enter Tryz.func207,Tryz.ntmps207
 go_wp2
 go_ret
 exact⟨by simp,rfl⟩
theorem L8(x y:Int)(w:World):Calls Tryz.prog 179 #[.int .i64 x,.int .i64 y] w fun e w'=>e= .returned (.int .i64 (p7 x y))/\w'=w:=by
 go_enter Tryz.func179,Tryz.ntmps179
 go_wp2_with (go_at_call 207;refine(SY _ _).mono ?_;rintro e w' ⟨rfl,hw⟩;rw[hw])
 all_goals (go_ret;refine⟨?_,rfl⟩;unfold p7;(repeat' split)<;>first|rfl|(exfalso;omega))
def U9(a b c:Int):Int:=if a≠0 then a else if b≠0 then b else c
theorem Zj{a b c:Int}(h:¬a=0):U9 a b c=a:=if_pos h
theorem Zk{b c:Int}(h:¬b=0):U9 0 b c=b:=by unfold U9;rw[if_neg (by simp),if_pos h]
theorem U_{c:Int}:U9 0 0 c=c:=by unfold U9;rw[if_neg (by simp),if_neg (by simp)]
theorem aa8(g:Nat)(a b c:Int)(w:World)(h0:w.cell? ⟨g,0,none⟩=some (.int .i64 a))(h1:w.cell? ⟨g,1,none⟩=some (.int .i64 b))(h2:w.cell? ⟨g,2,none⟩=some (.int .i64 c)):
    Calls Tryz.prog 178 #[.slice (some ⟨g,0,none⟩) 3 3] w fun e w'=>e= .returned (.int .i64 (U9 a b c))/\w'=w:=by
  go_enter Tryz.func178,Tryz.ntmps178
  go_wp2
  by_cases ha:a=0
  · subst ha
    refine wp_loop_rounds 4 ?_;rw[rounds_succ]
    go_wp2
    by_cases hb:b=0
    · subst hb
      rw[rounds_succ]
      go_wp2
      by_cases hc:c=0
      · subst hc
        rw[rounds_succ]
        go_wp2
        rw[rounds_succ]
        go_wp2
        go_ret
        exact⟨by rw[U_];rfl,rfl⟩
      · rw[rounds_succ]
        go_wp2
        go_ret
        exact⟨by rw[U_];rfl,rfl⟩
    · rw[rounds_succ]
      go_wp2
      go_ret
      exact⟨by rw[Zk hb];rfl,rfl⟩
  · refine wp_loop_rounds 1 ?_
    rw[rounds_succ]
    go_wp2
    go_ret
    exact⟨by rw[Zj ha];rfl,rfl⟩
theorem Zl(o1 o2:Obj)(a b c:Int)(T:TypeId)(w:World):
 Calls Tryz.prog 178 #[.slice (some ⟨w.heap.size+1+1,0,none⟩) 3 3] (((w.alloc o1).alloc o2).alloc (.cells #[.int .i64 a,.int .i64 b,.int .i64 c] T)).drew fun e w'=>e= .returned (.int .i64 (U9 a b c))/\w'=(((w.alloc o1).alloc o2).alloc (.cells #[.int .i64 a,.int .i64 b,.int .i64 c] T)).drew:=by
 have hg:(((w.alloc o1).alloc o2).alloc (.cells #[.int .i64 a,.int .i64 b,.int .i64 c] T)).drew.heap[w.heap.size+1+1]?=some (.cells #[.int .i64 a,.int .i64 b,.int .i64 c] T (0,0)):=by
  have h:=heap_alloc_new ((w.alloc o1).alloc o2) (.cells #[.int .i64 a,.int .i64 b,.int .i64 c] T);have e:((w.alloc o1).alloc o2).heap.size=w.heap.size+1+1:=by
   show((w.heap.push o1).push o2).size=_
   rw[Array.size_push,Array.size_push]
  rw[e]at h;exact h
 exact aa8 _ a b c _ (cell_of_row _ _ 0 _ T (0,0) hg) (cell_of_row _ _ 1 _ T (0,0) hg) (cell_of_row _ _ 2 _ T (0,0) hg)
end bK
namespace bK
open Go.RowKit bO dc aY Go.Lib Go.Sort
theorem Pm(a b:Obj)(w:World):((w.alloc a).alloc b).heap[w.heap.size]?=some a/\((w.alloc a).alloc b).heap[w.heap.size+1]?=some b:=by
 have e:(w.alloc a).heap.size=w.heap.size+1:=by
  show(w.heap.push a).size=_
  rw[Array.size_push]
 constructor
 ·rw[heap_alloc_old (w.alloc a) b (by omega)]
  exact heap_alloc_new w a
 ·have h:=heap_alloc_new (w.alloc a) b
  rw[e]at h;exact h
theorem H4(a b c:Obj)(w:World):(((w.alloc a).alloc b).alloc c).drew=grow (w.drewN 1) #[a,b,c]:=by
 rw[alloc_eq_grow,alloc_eq_grow,alloc_eq_grow,grow_grow,grow_grow];rfl
theorem SZ(x y:aY.Item)(w:World):Calls Tryz.prog 161 #[.agg (fG x).toArray,.agg (fG y).toArray] w fun e w'=>e= .returned (.int .i64 (E6 x y))/\∃q os',w'=grow (w.drewN q) os':=by
 obtain⟨x1,x2,x3⟩:=x;obtain⟨y1,y2,y3⟩:=y;have ho:E6 (x1,x2,x3) (y1,y2,y3)=U9 (p7 x1 y1) (p7 x2 y2) (p7 x3 y3):=rfl;rw[ho];clear ho;unfold fG;dsimp only;obtain⟨t1,t2⟩:=Pm (.cells #[.int .i64 x1,.int .i64 x2,.int .i64 x3] 278) (.cells #[.int .i64 y1,.int .i64 y2,.int .i64 y3] 278) w;have k1:=cell_of_row _ _ 0 _ _ (0,0) t1;have k2:=cell_of_row _ _ 1 _ _ (0,0) t1;have k3:=cell_of_row _ _ 2 _ _ (0,0) t1;have k4:=cell_of_row _ _ 0 _ _ (0,0) t2;have k5:=cell_of_row _ _ 1 _ _ (0,0) t2;have k6:=cell_of_row _ _ 2 _ _ (0,0) t2;clear t1 t2
 go_enter Tryz.func161,Tryz.ntmps161
 go_wp2
 go_region_held (fun w'=>w'.cell? ⟨w.heap.size,0,none⟩=some (.int .i64 x1)/\w'.cell? ⟨w.heap.size,1,none⟩=some (.int .i64 x2)/\w'.cell? ⟨w.heap.size,2,none⟩=some (.int .i64 x3)/\w'.cell? ⟨w.heap.size+1,0,none⟩=some (.int .i64 y1)/\w'.cell? ⟨w.heap.size+1,1,none⟩=some (.int .i64 y2)/\w'.cell? ⟨w.heap.size+1,2,none⟩=some (.int .i64 y3)) (go_keep) (first|(go_at_call 179;refine(L8 _ _ _).mono ?_;rintro e w' ⟨rfl,rfl⟩)|(go_at_call 178;have hzz:=(Zl (.cells #[.int .i64 x1,.int .i64 x2,.int .i64 x3] 278) (.cells #[.int .i64 y1,.int .i64 y2,.int .i64 y3] 278) (p7 x1 y1) (p7 x2 y2) (p7 x3 y3) 3 w);refine hzz.mono ?_;clear hzz;rintro e w' ⟨rfl,rfl⟩))
 go_wp2
 go_ret
 refine⟨rfl,1,#[.cells #[.int .i64 x1,.int .i64 x2,.int .i64 x3] 278,.cells #[.int .i64 y1,.int .i64 y2,.int .i64 y3] 278,.cells #[.int .i64 (p7 x1 y1),.int .i64 (p7 x2 y2),.int .i64 (p7 x3 y3)] 3],?_⟩;exact H4 _ _ _ w
end bK
namespace bK
open Go.RowKit bO dc aB dy cL aY
theorem H5(t n:Int)(vp:Value)(gm:Nat)(w:World):(Instr.build 314 #[(0,cO t n vp),(1,.map (some gm))]).run Tryz.prog w= .ok (.agg (vj t n vp gm).toArray) w:=by kernel_rfl
def S3(t n:Int)(vp:Value):Spec (Nat×Nat):=⟨fun _=>True,fun x=> .pointer (some ⟨x.1,0,none⟩),fun x=>[dL fM x.2 (fun _=>none) 0,aw x.1 (vj t n vp x.2).toArray 314]⟩
theorem CP(t n:Int)(vp:Value)(w:World):Calls Tryz.prog 126 #[cO t n vp] w (bM (S3 t n vp) w):=by
 have hb:=H5 t n vp;refine enter (args:=[cO t n vp]) (n:=7) Tryz.func126 rfl rfl rfl ?_;refine a8 (aL (a_ rfl rfl rfl fun g1=>?_));refine zL ?_
 repeat(first|refine GA ?_|refine gV (az (i:=0) ak.ty rfl rfl rfl) ?_)
 refine rK fM rfl fun gm=>?_;refine zL ?_
 repeat(first|refine GA ?_|refine gV (aP rfl (hb _)) ?_)
 refine a_ rfl rfl rfl fun go=>?_;refine zL ?_
 try refine GA ?_
 exact b9 rfl rfl fun w hm=>hm.meets (S:=S3 t n vp) (go,gm) trivial [1,2] (by decide) rfl
end bK
namespace bK
open Go.RowKit bO dc aB dy cL aY
theorem CQ{x:Int}(h0:0<=x)(h1:x<256):IntKind.u8.wrap x=(((UInt8.ofNat x.toNat).toNat:Nat):Int):=by
 obtain⟨n,rfl⟩:=Int.eq_ofNat_of_zero_le h0;rw[Int.toNat_natCast,IntKind.wrap_u8];simp
theorem Bg(l:List aY.Item):(fm l).length=3*l.length:=by
 induction l with
 |nil=>rfl
 |cons x r ih=>
  have:fm (x::r)=[UInt8.ofNat x.1.toNat,UInt8.ofNat x.2.1.toNat,UInt8.ofNat x.2.2.toNat]++fm r:=rfl;rw[this,List.length_append,ih,List.length_cons];show 3+3*r.length=3*(r.length+1)
  omega
theorem H6{l:List aY.Item}{k:Nat}(h:k<l.length):fm (l.take (k+1))=fm (l.take k)++[UInt8.ofNat l[k].1.toNat,UInt8.ofNat l[k].2.1.toNat,UInt8.ofNat l[k].2.2.toNat]:=by
 unfold fm;rw[List.take_succ_eq_append_getElem h,List.flatMap_append];rfl
theorem yF(vl:Value)(l:List aY.Item)(w:World)(hl:Sl w vl l.length (l.flatMap fG))(hb:∀it∈l,0<=it.1/\it.1<256/\0<=it.2.1/\it.2.1<256/\0<=it.2.2/\it.2.2<256)(hn:l.length<=20000):
 Calls Tryz.prog 128 #[vl] w (bM (ret (str (fm l))) w):=by
 obtain⟨bl,cl,rfl,oL,wh,CA⟩:=hl;unfold maxLen at wh;refine enter (args:=[.slice bl l.length cl]) (n:=27) Tryz.func128 rfl rfl rfl ?_
 try refine GA ?_
 refine g_ 5 1 ?_
 conv=>arg 7;simp only[zA,zB,zC,zD,zE,zF,zG,zH,zI,bZ,ret,id_eq]
 refine dv (ι:=Nat×Value) (fun(k,_)=>k<=l.length) (fun(k,v)=>[(3,v),(6,.slice bl l.length cl),(7,.int .i64 l.length),(8,.int .i64 (k:Int))])
  (fun(k,v)=>[aM 5 1 v (fm (l.take k)).length ((fm (l.take k)).map Nq)]) (fun(k,_)=>l.length-k) (0,.slice none 0 0) (Nat.zero_le _) ?_
 rintro⟨k,v⟩ i1;dsimp only at i1⊢
 by_cases c1:k<l.length
 ·obtain⟨b,off,rfl,ef⟩:=CA (by omega)
  have dF:=fun L=>eN (L:=L) jj ef c1;have yG:∀(L:List bI) (j:Nat) (u:Value),(fG l[k])[j]?=some u->At (w:bC) L ⟨b,off+k*3+j,none⟩ u:=dF;clear dF CA ef;obtain⟨b1,b2,b3,b4,b5,b6⟩:=hb l[k] (List.getElem_mem c1);have qO:=H6 c1;have Bh:(fm (l.take k)).length<=60000:=by rw[Bg,List.length_take];omega
  generalize l[k]=x at*;obtain⟨p,d,lo⟩:=x;dsimp only at b1 b2 b3 b4 b5 b6 qO;have e1:=CQ b1 b2;have e2:=CQ b3 b4;have e3:=CQ b5 b6;generalize UInt8.ofNat p.toNat=y1 at*;generalize UInt8.ofNat d.toNat=y2 at*;generalize UInt8.ofNat lo.toNat=y3 at*;generalize hN:fm (l.take k)=N at*
  repeat(first|refine GA ?_|refine gV (aC aT.eq ak.ty rfl rfl c1) ?_|refine gV (aH (cs:=fG (p,d,lo)) ak.ty rfl rfl (yG _)) ?_)
  refine aK rfl fun g5=>?_;refine zL ?_;refine fa 1 (cs':=(fG (p,d,lo)).toArray) ?_;refine zL ?_
  repeat(first|refine GA ?_|refine gV (J (v:= .int .i64 p) ak.ty rfl (ah (i:=1) rfl rfl)) ?_|refine gV (J (v:= .int .i64 d) ak.ty rfl (ah (i:=1) rfl rfl)) ?_|refine gV (J (v:= .int .i64 lo) ak.ty rfl (ah (i:=1) rfl rfl)) ?_|refine gV (fI aT.eq aT.eq rfl e1) ?_|refine gV (fI aT.eq aT.eq rfl e2) ?_|refine gV (fI aT.eq aT.eq rfl e3) ?_)
  refine Jc [Nq y1,Nq y2,Nq y3] rfl rfl rfl (by intro v hv;simp at hv;rcases hv with rfl|rfl|rfl<;>rfl) rfl rfl fun g22=>?_;refine zL ?_;refine dw (i:=0) (e:=5) (size:=1) (bytes:=1) (m:=N.length) (xs:=N.map Nq) (k:=3) (ys:=[Nq y1,Nq y2,Nq y3]) rfl (iA (i:=2) rfl (fun j u h=>by simpa using h) (Nat.le_refl 3) (by decide)) rfl rfl rfl (by intro u hu;simp at hu;rcases hu with rfl|rfl|rfl<;>rfl) (by omega) (by omega) rfl fun v'=>?_;refine zL ?_
  try refine GA ?_
  refine cD [0] ?_;exact bB (k+1,v') (by show k+1<=l.length;omega) (by show l.length-(k+1)<l.length-k;omega) (hl:=by dsimp only;rw[qO,List.length_append,List.map_append];rfl)
 ·obtain rfl:k=l.length:=by omega
  rw[List.take_length]
  repeat(first|refine GA ?_|refine gV (KY aT.eq aT.eq aT.eq rfl rfl (fW (i:=0) rfl)) ?_)
  exact db
theorem Ad(T N:Nat)(hT:T<=1000)(hN:N<=1000)(vp:Value)(w:World):
 Calls Tryz.prog 130 #[cO (T:Int) (N:Int) vp] w (bM (bZ 148 2 (jJ T N).length ((jJ T N).flatMap dg) id) w):=by
 have z8:=fun(q:Int)=>Bc 1 q;have K_:=fun(q:Int)=>Bc 2 q;refine enter (args:=[cO (T:Int) (N:Int) vp]) (n:=29) Tryz.func130 rfl rfl rfl ?_;refine a8 (aL (a_ rfl rfl rfl fun g1=>?_));refine zL ?_
 repeat(first|refine GA ?_|refine gV (J (v:= .int .i64 (T:Int)) ak.ty rfl (ah (i:=0) rfl rfl)) ?_)
 refine g_ 148 2 ?_
 conv=>arg 7;simp only[zA,zB,zC,zD,zE,zF,zG,zH,zI,bZ,ret,id_eq]
 refine dv (ι:=Nat×Value) (fun(k,_)=>k<=T) (fun(k,v)=>[(1,.pointer (some ⟨g1,0,none⟩)),(3,v),(7,.int .i64 (T:Int)),(8,.int .i64 (k:Int))])
  (fun(k,v)=>[aw g1 (cO (T:Int) (N:Int) vp).cells 33,aM 148 2 v ((List.range k).map (fun n:Nat=>((1:Int),(n:Int)))).length (((List.range k).map (fun n:Nat=>((1:Int),(n:Int)))).flatMap dg)]) (fun(k,_)=>T-k) (0,.slice none 0 0) (Nat.zero_le _) ?_
 rintro⟨k,v⟩ i1;dsimp only at i1⊢
 by_cases c1:k<T
 ·have qO:(List.range (k+1)).map (fun n:Nat=>((1:Int),(n:Int)))=(List.range k).map (fun n:Nat=>((1:Int),(n:Int)))++[((1:Int),(k:Int))]:=by rw[List.range_succ,List.map_append];rfl
  have Bh:((List.range k).map (fun n:Nat=>((1:Int),(n:Int)))).length=k:=by rw[List.length_map,List.length_range]
  generalize hA:(List.range k).map (fun n:Nat=>((1:Int),(n:Int)))=A at*
  repeat(first|refine GA ?_|refine gV (aP rfl (z8 _)) ?_)
  refine iy (i:=1) rfl rfl rfl rfl rfl rfl rfl (fun z h=>by cases h;rfl) (by omega) (by omega) rfl fun z v'=>?_;refine zL ?_
  try refine GA ?_
  exact bB (k+1,v') (by show k+1<=T;omega) (by show T-(k+1)<T-k;omega) (hl:=by dsimp only;rw[qO,List.length_append,List.flatMap_append];rfl)
 obtain rfl:k=T:=by omega
 have Bh:((List.range k).map (fun n:Nat=>((1:Int),(n:Int)))).length=k:=by rw[List.length_map,List.length_range]
 have hS:jJ k N=(List.range k).map (fun n:Nat=>((1:Int),(n:Int)))++(List.range N).map (fun n:Nat=>((2:Int),(n:Int))):=rfl;generalize jJ k N=S at*;generalize hA:(List.range k).map (fun n:Nat=>((1:Int),(n:Int)))=A at*
 repeat(first|refine GA ?_|refine gV (J (v:= .int .i64 (N:Int)) ak.ty rfl (ah (i:=0) rfl rfl)) ?_)
 refine jA (ι:=Nat×Value) (fun(j,_)=>j<=N) (fun(j,v)=>[(3,v),(18,.int .i64 (N:Int)),(19,.int .i64 (j:Int))])
  (fun(j,v)=>[aw g1 (cO (k:Int) (N:Int) vp).cells 33,aM 148 2 v (A++(List.range j).map (fun n:Nat=>((2:Int),(n:Int)))).length ((A++(List.range j).map (fun n:Nat=>((2:Int),(n:Int)))).flatMap dg)]) (fun(j,_)=>N-j) (0,v) (Nat.zero_le _) (by repeat' (first|exact True.intro|refine And.intro rfl ?_)) (by simp only[List.range_zero,List.map_nil,List.append_nil]) ?_
 rintro⟨j,v⟩ j1;dsimp only at j1⊢
 by_cases c2:j<N
 ·have qO:A++(List.range (j+1)).map (fun n:Nat=>((2:Int),(n:Int)))=(A++(List.range j).map (fun n:Nat=>((2:Int),(n:Int))))++[((2:Int),(j:Int))]:=by rw[List.range_succ,List.map_append,List.append_assoc];rfl
  have ab1:(A++(List.range j).map (fun n:Nat=>((2:Int),(n:Int)))).length<=2000:=by rw[List.length_append,List.length_map,List.length_range];omega
  generalize hD:A++(List.range j).map (fun n:Nat=>((2:Int),(n:Int)))=D at*
  repeat(first|refine GA ?_|refine gV (aP rfl (K_ _)) ?_)
  refine iy (i:=1) rfl rfl rfl rfl rfl rfl rfl (fun z h=>by cases h;rfl) (by omega) (by omega) rfl fun z v'=>?_;refine zL ?_
  try refine GA ?_
  exact bB (j+1,v') (by show j+1<=N;omega) (by show N-(j+1)<N-j;omega) (hl:=by dsimp only;rw[qO,List.length_append,List.flatMap_append];rfl)
 obtain rfl:j=N:=by omega
 rw[<-hS]
 try refine GA ?_
 exact b9 rfl rfl fun w hm=>hm.meets (S:=bZ 148 2 S.length (S.flatMap dg) id) v trivial [1] (by decide) rfl
end bK
namespace bK
open Go.RowKit bO dc aB dy cL aY bT
def CR:sC aY.Item:=sQ fG 3 (fun _=>rfl) (fun _=>True)
theorem CS{κ τ:Type}[DecidableEq κ][DecidableEq τ](f:κ->τ)(x:κ):∀(D:List κ),(∀y∈D,f y=f x->y=x)->idx (D.map f) (f x)=idx D x
  |[],_=>rfl
  | y ::D,h=>by
    have ih:=CS f x D fun z hz=>h z (List.mem_cons_of_mem _ hz);unfold idx at ih⊢;rw[List.map_cons,List.idxOf_cons,List.idxOf_cons,ih]
    by_cases e:y=x
    · subst e;simp
    · have:¬f y=f x:=fun e2=>e (h y (List.mem_cons_self ..) e2)
      rw[show(f y==f x)=false by simpa using this,show(y==x)=false by simpa using e]
def qP(s:List aY.Item):Prop:=∀it∈s,0<=it.1/\it.1<256/\0<=it.2.1/\it.2.1<256/\0<=it.2.2/\it.2.2<256
theorem L9{S:List (List aY.Item)}{s:List aY.Item}(hS:∀t∈S,qP t)(hs:qP s):fm s∈S.map fm↔s∈S:=by
 constructor
 ·intro h
  obtain⟨t,ht,e⟩:=List.mem_map.1 h;rw[<-yC (hS t ht) hs e];exact ht
 ·exact List.mem_map_of_mem
def U'(g6 gm g7:Nat)(vS vN:Value)(qQ:List Value)(F:Nat->Prop)(S:List (List aY.Item)):List bI:=
 [aw g6 #[.map (some gm)] 175,dL fe gm (ie (S.map fm)) S.length,aw g7 #[vS,vN] 203,aM 273 1 vS S.length qQ,dz (bD CR) F (qQ.map fun v=>[v]) S]
theorem tA{w:World}{e:TypeId}{size n:Nat}{v:Value}{xs:List Value}(h:(aM e size v n xs).holds w):∀k,v.ownBlock=some k->k<w.heap.size:=fun k hk=>(aM e size v n xs).lt w h k (.inl hk)
theorem L_{w:World}{v:Value}{l:List aY.Item}(h:(aM 278 3 v l.length (l.flatMap fG)).holds w):(bD CR).is (fun k=>v.ownBlock=some k) w [v] l:=
 ⟨v,rfl,iB.of_flat (Sl.cI h) (fun _ _=>trivial) (fun _ h=>h) (fun a n cp hv=>by rw[hv];rfl)⟩
theorem vm(g6 gm g7:Nat)(vS vN:Value)(qQ:List Value)(F:Nat->Prop)(S:List (List aY.Item))(vl:Value)(s:List aY.Item)(hS:∀t∈S,qP t)(hs:qP s)(hSl:S.length<=1000)(sb:s.length<=20000)(w:World)(B:bC)
 (hm:Mem B (U' g6 gm g7 vS vN qQ F S++[aM 278 3 vl s.length (s.flatMap fG)]) w):
 Calls Tryz.prog 127 #[vl,.pointer (some ⟨g6,0,none⟩),.pointer (some ⟨g7,0,none⟩)] w (c_ ⟨fun(_:Value×List Value×(Nat->Prop))=>True,fun _=> .int .i64 ((fP S s).1:Int),fun x=>U' g6 gm g7 x.1 vN x.2.1 x.2.2 (fP S s).2⟩ B):=by
 have vv:=L9 hS hs;have hix:=CS fm s S fun t ht e=>yC (hS t ht) hs e;have jZ:fe.ok (fm s):=by
  show(fm s).length<=9223372036854775807
  rw[Bg];omega
 unfold U' at hm;refine dC hm (args:=[vl,.pointer (some ⟨g6,0,none⟩),.pointer (some ⟨g7,0,none⟩)]) (n:=30) Tryz.func127 rfl rfl rfl ?_;refine fv (i:=3) rfl eE fun fc=>?_;obtain⟨aS,cS,rfl,-⟩:=fc
 try refine GA ?_
 refine cU ([aw g6 #[.map (some gm)] 175,dL fe gm (ie (S.map fm)) S.length,aM 278 3 vl s.length (s.flatMap fG)]) (.calm 0 (.calm 1 (.calm 2 (.calm 3 (.calm 4 (.calm 5 (.calm 6 (.calm 7 (.calm 8 (.done)))))))))) (bz [0,1,5]) ?_
 repeat(first|refine GW ?_|(refine GN ?_;first|refine QW (J (v:= .map (some gm)) ak.ty rfl (ah (i:=0) rfl rfl)) ?_))
 refine sN rfl (jc aj.en rfl rfl) (fun w hm=>yF vl s w (Sl.cI (hm.get (i:=2) rfl)) hs sb) rfl rfl rfl ?_
 by_cases c:s∈S
 ·have hst:fP S s=(idx S s,S):=if_pos c
  rw[hst]
  repeat(first|refine GW ?_|(refine GN ?_;first|refine QW (pL (K:=fe) (x:=fm s) aT.eq kI (i:=1) rfl rfl rfl jZ (vv.2 c)) ?_))
  rw[hix]
  try refine GA ?_
  exact b9 rfl rfl fun w hm=>hm.bP (S:=⟨fun(_:Value×List Value×(Nat->Prop))=>True,fun _=> .int .i64 (idx S s:Int),fun x=>U' g6 gm g7 x.1 vN x.2.1 x.2.2 S⟩) (.slice aS S.length cS,qQ,F) trivial [0,1,2,3,4] (by decide) rfl
 ·have hst:fP S s=(S.length,S++[s]):=if_neg c
  rw[hst];have hn:fm s∉S.map fm:=fun h=>c (vv.1 h);have Ab:=AS hn;have Zm:ie (S.map fm) (fm s)=none:=if_neg hn;rw[List.length_map]at Ab;clear hix vv
  repeat(first|refine GW ?_|(refine GN ?_;first|refine QW (pM (K:=fe) (x:=fm s) aT.eq kI (i:=1) rfl rfl rfl jZ hn) ?_))
  repeat(first|refine GA ?_|refine gV (J (v:= .slice aS S.length cS) ak.ty rfl (ah (i:=2) rfl rfl)) ?_)
  refine cU ([aw g6 #[.map (some gm)] 175,aM 278 3 vl s.length (s.flatMap fG)]) (.calm 0 (.calm 1 (.calm 2 (.calm 3 (.one 4 (.done)))))) (bz [0,5]) ?_
  repeat(first|refine GW ?_|(refine GN ?_;first|refine QW (J (v:= .map (some gm)) ak.ty rfl (ah (i:=0) rfl rfl)) ?_))
  refine sN rfl (jc aj.en rfl rfl) (fun w hm=>yF vl s w (Sl.cI (hm.get (i:=1) rfl)) hs sb) rfl rfl rfl ?_
  try refine GW ?_
  refine ap rfl ?_;refine jr (i:=1) (x:=fm s) (v:= .int .i64 (S.length:Int)) fe aT.eq rfl rfl rfl rfl jZ (by omega) ?_;refine zL ?_;rw[Ab,Zm,if_neg (by decide)];refine av (bz [0,5]) ?_
  try refine GW ?_
  repeat(first|refine GA ?_|refine gV (J (v:= .slice aS S.length cS) ak.ty rfl (ah (i:=2) rfl rfl)) ?_)
  refine aD (i:=5) rfl fun B7 Ca=>?_;refine je (i:=3) rfl rfl B7 Ca rfl rfl (fun z h=>by cases h;rfl) (by omega) (by omega) rfl fun z X3=>?_;refine zL ?_;refine sR (dz (bD CR) (fun k=>F k\/vl.ownBlock=some k) ((qQ.map fun v=>[v])++[[vl]]) (S++[s])) 5 4 [0,1,2,3] (by decide) rfl rfl rfl (fun k hk=>hk.elim (fun h=>by cases h) fun h=>h.elim (fun h=> .inr (.inr h)) fun h=> .inl (.inl h)) (fun w hr he=>nf he (L_ hr) (tA hr)) ?_;refine zL ?_
  try refine GA ?_
  refine aD (i:=3) rfl fun gB jM=>aW (i:=2) rfl rfl rfl gB jM rfl ?_;refine zL ?_
  try refine GA ?_
  exact b9 rfl rfl fun w hm=>hm.bP (S:=⟨fun(_:Value×List Value×(Nat->Prop))=>True,fun _=> .int .i64 (S.length:Int),fun x=>U' g6 gm g7 x.1 vN x.2.1 x.2.2 (S++[s])⟩) (X3,qQ++[vl],fun k=>F k\/vl.ownBlock=some k) trivial [0,1,2,3,4] (by decide) (by dsimp only[U'];rw[List.map_append,List.map_append,List.length_append];rfl)
end bK
namespace bT
section
variable(A:oZ)(bl:Nat->Nat)
def yH(Q:List Nat)(tq:Int):List Nat:=if bl tq.toNat∈Q.map bl then Q else Q++[tq.toNat]
def lZ(Q:List Nat)(tq:Int):List Nat×Int:=if val bl tq=0 then(Q,-1)else(yH bl Q tq,(idx ((yH bl Q tq).map bl) (bl tq.toNat):Int))
def iP(q:Nat)(Q:List Nat):Nat->List Nat×List Int
 |0=>(Q,[])
 |k+1=>((lZ bl (iP q Q k).1 (A.d q k)).1,(iP q Q k).2++[(lZ bl (iP q Q k).1 (A.d q k)).2])
def vec(l:List Int):Row:=Vector.ofFn fun b:Fin 256=>l.getD b 0
def rq:Nat->Nat->List Nat->List Row->List Nat×List Row
 |0,_,Q,out=>(Q,out)
 |f+1,n,Q,out=>if n<Q.length then rq f (n+1) (iP A bl (Q.getD n 0) Q 256).1 (out++[vec (iP A bl (Q.getD n 0) Q 256).2])else(Q,out)
def jR:List Nat×List Row:=rq A bl (A.n+1) 0 [0] []
end
def l5(A:oZ):oZ:=⟨(jR A (b_ A)).1.length,fun k b=>((jR A (b_ A)).2.getD k (Vector.replicate 256 0)).toList.getD b 0,fun k=>((jR A (b_ A)).1.map A.tag).getD k 0⟩
section
variable{A:oZ}{bl:Nat->Nat}
structure Ma(A:oZ)(bl:Nat->Nat)(Q:List Nat):Prop where
 head:∃R,Q=0::R/\∀q∈R,bl q≠0
 lt:∀q∈Q,q<A.n
 nodup:(Q.map bl).Nodup
theorem Ma.len{Q:List Nat}(h:Ma A bl Q):Q.length<=A.n/\0<Q.length:=by
 have h1:Q.Nodup:=List.Pairwise.of_map bl (fun a b hne e=>hne (by rw[e])) h.nodup;refine⟨kB h1 h.lt,?_⟩;obtain⟨R,rfl,_⟩:=h.head;simp
theorem Zn(hA:A.Ok):Ma A bl [0]:=⟨⟨[],rfl,by simp⟩,fun q hq=>by simp at hq;subst hq;exact hA.pos,by simp⟩
theorem S4{Q:List Nat}(h:Ma A bl Q){tq:Int}(h1:St A tq)(h0:val bl tq≠0):Ma A bl (yH bl Q tq):=by
  unfold yH;unfold val at h0;split at h0
  · exact absurd rfl h0
  · split
    · exact h
    · rename_i Zo hn
      unfold St at h1;obtain⟨R,rfl,hR⟩:=h.head;refine⟨⟨R++[tq.toNat],rfl,fun q hq=>?_⟩,fun q hq=>?_,?_⟩
      · rcases List.mem_append.1 hq with hq|hq
        · exact hR q hq
        · simp at hq;subst hq;exact h0
      · rcases List.mem_append.1 hq with hq|hq
        · exact h.lt q hq
        · simp at hq;subst hq;omega
      · rw[List.map_append]
        refine List.nodup_append.2 ⟨h.nodup,by simp,fun a ha b hb e=>?_⟩;simp at hb;subst hb e;exact hn ha
theorem S5(Q:List Nat)(tq:Int):∃E,yH bl Q tq=Q++E:=by
 unfold yH;split
 ·exact⟨[],by simp⟩
 ·exact⟨_,rfl⟩
theorem S6(Q:List Nat)(tq:Int):bl tq.toNat∈(yH bl Q tq).map bl:=by
 unfold yH;split
 ·assumption
 ·simp
theorem Ff{Q:List Nat}(h:Ma A bl Q){tq:Int}(h1:St A tq):Ma A bl (lZ bl Q tq).1:=by
 unfold lZ;split
 ·exact h
 ·rename_i h0;exact S4 h h1 h0
theorem Fg(Q:List Nat)(tq:Int):∃E,(lZ bl Q tq).1=Q++E:=by
 unfold lZ;split
 ·exact⟨[],by simp⟩
 ·exact S5 Q tq
theorem CT(q:Nat)(Q:List Nat):∀k,(iP A bl q Q k).2.length=k
 |0=>rfl
 |k+1=>by simp[iP,CT q Q k]
theorem aa9(hA:A.Ok){q:Nat}(hq:q<A.n){b:Nat}(hb:b<256):St A (A.d q b):=hA.step q hq b hb
theorem wW(hA:A.Ok){Q:List Nat}(h:Ma A bl Q){q:Nat}(hq:q<A.n):∀k,k<=256->Ma A bl (iP A bl q Q k).1
 |0,_=>h
 |k+1,hk=>Ff (wW hA h hq k (by omega)) (aa9 hA hq (by omega))
theorem CU(q:Nat)(Q:List Nat):∀k,∃E,(iP A bl q Q k).1=Q++E
 |0=>⟨[],by simp[iP]⟩
 |k+1=>by
  obtain⟨E,h⟩:=CU q Q k;obtain⟨E',h'⟩:=Fg (bl:=bl) (iP A bl q Q k).1 (A.d q k);exact⟨E++E',by simp only[iP];rw[h',h,List.append_assoc]⟩
def vz(A:oZ)(bl:Nat->Nat)(Q:List Nat)(q b:Nat)(x:Int):Prop:=(val bl (A.d q b)=0->x= -1)/\(val bl (A.d q b)≠0->val bl (A.d q b)∈Q.map bl/\x=(idx (Q.map bl) (val bl (A.d q b)):Int))
theorem vz.more{Q:List Nat}{q b:Nat}{x:Int}(h:vz A bl Q q b x)(E:List Nat):vz A bl (Q++E) q b x:=by
 refine⟨h.1,fun h0=>?_⟩;obtain⟨h1,h2⟩:=h.2 h0;rw[List.map_append,mC h1];exact⟨List.mem_append_left _ h1,h2⟩
theorem S7(Q:List Nat)(q b:Nat):vz A bl (lZ bl Q (A.d q b)).1 q b (lZ bl Q (A.d q b)).2:=by
 unfold lZ;split
 ·rename_i h;exact⟨fun _=>rfl,fun h'=>absurd h h'⟩
 ·rename_i h
  refine⟨fun h'=>absurd h' h,fun _=>?_⟩;have e:val bl (A.d q b)=bl (A.d q b).toNat:=by
   unfold val at h⊢;split at h
   ·exact absurd rfl h
   ·rename_i hn;rw[if_neg hn]
  rw[e];exact⟨S6 Q _,rfl⟩
theorem Pn(q:Nat)(Q:List Nat):∀k b,b<k->vz A bl (iP A bl q Q k).1 q b ((iP A bl q Q k).2.getD b 0)
  |0,_,h=>by omega
  | k +1,b,h=>by
    have hl:=CT (A:=A) (bl:=bl) q Q k;simp only[iP]
    by_cases c:b<k
    · have ih:=Pn q Q k b c
      obtain⟨E,e⟩:=Fg (bl:=bl) (iP A bl q Q k).1 (A.d q k);rw[e,fX (by omega)];exact ih.more E
    · obtain rfl:b=k:=by omega
      rw[jm (by omega),hl,Nat.sub_self];exact S7 _ q b
theorem S8(l:List Int)(b:Nat)(hb:b<256):(vec l).toList.getD b 0=l.getD b 0:=by
 have h:b<(vec l).toList.length:=by simp;exact hb
 rw[List.getD_eq_getElem?_getD,List.getElem?_eq_getElem h,Option.getD_some,Vector.getElem_toList];unfold vec;rw[Vector.getElem_ofFn]
structure Mb(A:oZ)(bl:Nat->Nat)(n:Nat)(Q:List Nat)(out:List Row):Prop where
 len:out.length=n
 le:n<=Q.length
 rows:∀k,k<n->∀b,b<256->vz A bl Q (Q.getD k 0) b ((out.getD k (Vector.replicate 256 0)).toList.getD b 0)
theorem Bi(_:A.Ok){n:Nat}{Q:List Nat}{out:List Row}(h:Mb A bl n Q out)(hn:n<Q.length):Mb A bl (n+1) (iP A bl (Q.getD n 0) Q 256).1 (out++[vec (iP A bl (Q.getD n 0) Q 256).2]):=by
 obtain⟨E,e⟩:=CU (A:=A) (bl:=bl) (Q.getD n 0) Q 256;have hr:=Pn (A:=A) (bl:=bl) (Q.getD n 0) Q 256;have hlen:=h.len;refine⟨by simp[hlen],by rw[e];simp;omega,fun k hk b hb=>?_⟩;have kp:k<Q.length:=by omega
 rw[e]at hr⊢;rw[fX kp]
 by_cases c:k<n
 ·rw[fX (by omega)]
  exact(h.rows k c b hb).more E
 ·obtain rfl:k=n:=by omega
  rw[jm (by omega),hlen,Nat.sub_self];show vz A bl (Q++E) (Q.getD k 0) b ((vec _).toList.getD b 0)
  rw[S8 _ b hb];exact hr b hb
theorem qh{Q:List Nat}{n:Nat}(h:n<Q.length):Q.getD n 0∈Q:=by
 rw[List.getD_eq_getElem?_getD,List.getElem?_eq_getElem h];exact List.getElem_mem h
theorem Po(hA:A.Ok):∀(f n:Nat) (Q:List Nat) (out:List Row),Ma A bl Q->Mb A bl n Q out->A.n+1<=f+n->Ma A bl (rq A bl f n Q out).1/\Mb A bl (rq A bl f n Q out).1.length (rq A bl f n Q out).1 (rq A bl f n Q out).2
  |0,n,Q,out,hQ,hO,hf=>by have:=hQ.len;have:=hO.le;omega
  | f +1,n,Q,out,hQ,hO,hf=>by
    unfold rq;split
    · rename_i hn
      exact Po hA f _ _ _ (wW hA hQ (hQ.lt _ (qh hn)) 256 (Nat.le_refl _)) (Bi hA hO hn) (by omega)
    · rename_i hn
      have:=hO.le;obtain rfl:n=Q.length:=by omega
      exact⟨hQ,hO⟩
theorem yI(hA:A.Ok):Ma A bl (jR A bl).1/\Mb A bl (jR A bl).1.length (jR A bl).1 (jR A bl).2:=
 Po hA _ _ _ _ (Zn hA) ⟨rfl,Nat.zero_le _,fun k hk=>by omega⟩ (by omega)
theorem Fh(hA:A.Ok){k:Nat}(hk:k<(l5 A).n){b:Nat}(hb:b<256):vz A (b_ A) (jR A (b_ A)).1 ((jR A (b_ A)).1.getD k 0) b ((l5 A).d k b):=
 (yI (bl:=b_ A) hA).2.rows k hk b hb
theorem CS{Q:List Nat}(hn:(Q.map bl).Nodup){k:Nat}(hk:k<Q.length):idx (Q.map bl) (bl (Q.getD k 0))=k:=by
 have h:k<(Q.map bl).length:=by simpa using hk
 have:=xM hn h;rw[List.getElem_map]at this;rw[List.getD_eq_getElem?_getD,List.getElem?_eq_getElem hk];exact this
theorem J3{k:Nat}(hk:k<(l5 A).n):(l5 A).tag k=A.tag ((jR A (b_ A)).1.getD k 0):=by
 have kp:k<(jR A (b_ A)).1.length:=hk;show((jR A (b_ A)).1.map A.tag).getD k 0=_
 rw[List.getD_eq_getElem?_getD,List.getElem?_map,List.getD_eq_getElem?_getD,List.getElem?_eq_getElem kp];rfl
theorem wX(hA:A.Ok):(l5 A).Ok:=by
 obtain⟨hQ,hO⟩:=yI (bl:=b_ A) hA;obtain⟨h1,h2⟩:=hQ.len;have hle:=hA.le;refine⟨h2,Nat.le_trans h1 hle,fun k hk b hb=>?_,fun k hk=>by rw[J3 hk];exact hA.tags _ (hQ.lt _ (qh hk))⟩;have hr:=Fh hA hk hb
 by_cases c:val (b_ A) (A.d ((jR A (b_ A)).1.getD k 0) b)=0
 ·rw[hr.1 c];exact⟨by omega,by omega⟩
 ·obtain⟨r1,r2⟩:=hr.2 c
  have:=iX r1;rw[List.length_map]at this;rw[r2];exact⟨by omega,by show _<((jR A (b_ A)).1.length:Int);omega⟩
def Bj(A:oZ)(k:Int):Int:=if k<0 then-1 else((jR A (b_ A)).1.getD k.toNat 0:Int)
theorem Pp(hA:A.Ok){k:Int}(hk:St (l5 A) k):St A (Bj A k):=by
 unfold Bj St at*;have:=hA.pos;split
 ·omega
 ·have:=(yI (bl:=b_ A) hA).1.lt _ (qh (show k.toNat<(jR A (b_ A)).1.length by have:=hk.2;show _<(l5 A).n;omega))
  omega
theorem aa_(hA:A.Ok):Bj A 0=0:=by
 obtain⟨R,e,_⟩:=(yI (bl:=b_ A) hA).1.head;show((jR A (b_ A)).1.getD 0 0:Int)=0
 rw[e];rfl
theorem Pq(hA:A.Ok){k:Int}(hk:St (l5 A) k){b:Nat}(hb:b<256):val (b_ A) (Bj A (dt (l5 A) k b))=val (b_ A) (dt A (Bj A k) b):=by
 by_cases c:k<0
 ·unfold dt Bj;rw[if_pos c,if_pos c];rfl
 ·have R6:k.toNat<(l5 A).n:=by unfold St at hk;omega
  have hr:=Fh hA R6 hb;have hq:(jR A (b_ A)).1.getD k.toNat 0=(Bj A k).toNat:=by unfold Bj;rw[if_neg c];rfl
  have Zo:¬Bj A k<0:=by unfold Bj;rw[if_neg c];omega
  have e1:dt (l5 A) k b=(l5 A).d k.toNat b:=by unfold dt;rw[if_neg c]
  have e2:dt A (Bj A k) b=A.d (Bj A k).toNat b:=by unfold dt;rw[if_neg Zo]
  rw[hq]at hr;rw[e1,e2]
  by_cases c2:val (b_ A) (A.d (Bj A k).toNat b)=0
  ·rw[hr.1 c2,c2];rfl
  ·obtain⟨r1,r2⟩:=hr.2 c2
   have hlt:=iX r1;rw[r2];generalize hv:val (b_ A) (A.d (Bj A k).toNat b)=v at*;have hg:=qK hlt;rw[List.length_map]at hlt;rw[List.getElem_map]at hg;unfold Bj;rw[if_neg (by omega),Int.toNat_natCast];show val (b_ A) (((jR A (b_ A)).1.getD (idx ((jR A (b_ A)).1.map (b_ A)) v) 0:Nat):Int)=v
   unfold val;rw[if_neg (by omega),Int.toNat_natCast,List.getD_eq_getElem?_getD,List.getElem?_eq_getElem hlt];exact hg
theorem Bk(hA:A.Ok):∀(s:List UInt8) {k:Int},St (l5 A) k->tg (l5 A) (go (l5 A) k s)=tg A (go A (Bj A k) s)
 | [],k,hk=>by
  unfold go tg Bj
  by_cases c:k<0
  ·rw[if_pos c,if_pos c];rfl
  ·rw[if_neg c,if_neg c,if_neg (by omega),Int.toNat_natCast]
   exact J3 (by unfold St at hk;omega)
 |b::s,k,hk=>by
  have hb:=b.toNat_lt;have h1:=Bk hA s (rh (wX hA) hk hb);have h2:same A (Bj A (dt (l5 A) k b.toNat)) (dt A (Bj A k) b.toNat):=((AR hA).same hA (Pp hA (rh (wX hA) hk hb)) (rh hA (Pp hA hk) hb)).1 (Pq hA hk hb);show tg (l5 A) (go (l5 A) (dt (l5 A) k b.toNat) s)=tg A (go A (dt A (Bj A k) b.toNat) s)
  rw[h1];exact h2 s
theorem Mc(hA:A.Ok)(s:List UInt8):tg (l5 A) (go (l5 A) 0 s)=tg A (go A 0 s):=by
 have:=Bk hA s (k:=0) ⟨by omega,by have:=(wX hA).pos;omega⟩
 rwa [aa_ hA]at this
end
end bT
namespace bT
section
variable{A B:oZ}
def H7(A B:oZ)(q r:Int):Prop:=∀s,tg A (go A q s)=tg B (go B r s)
theorem H7.step{q r:Int}(h:H7 A B q r)(b:Nat)(hb:b<256):H7 A B (dt A q b) (dt B r b):=fun s=>by
 have:=h (UInt8.ofNat b::s);have e:(UInt8.ofNat b).toNat=b:=by simp;omega
 simp only[go,e]at this;exact this
theorem tB(f:Nat->Nat)(q:Nat):val f (q:Int)=f q:=by unfold val;rw[if_neg (by omega),Int.toNat_natCast]
end
end bT
namespace bK
open Go.RowKit bO dc sW bT
def dA(r:Row):List Value:=r.toList.map (.int .i16)
theorem cH(r:Row):(dA r).length=256:=by simp[dA]
theorem l6(r:Row){b:Nat}(hb:b<256):(dA r)[b]?=some (.int .i16 r[b]):=by
 unfold dA;rw[List.getElem?_map,List.getElem?_eq_getElem (by simpa using hb),Vector.getElem_toList];rfl
theorem row_one(l:List Row):∀u∈l.flatMap dA,u.oneCell'=true:=by
 intro u hu;obtain⟨x,_,h⟩:=List.mem_flatMap.1 hu;obtain⟨n,_,rfl⟩:=List.mem_map.1 h;rfl
theorem nu(r:Row):(dA r).all Value.oneCell'=true:=List.all_eq_true.2 fun u hu=>row_one [r] u (by simpa using hu)
def fA(vr vt:Value):Value:= .agg #[vr,vt]
def qi:Row:=Vector.replicate 256 0
structure Ae(w:World)(vr vt:Value)(R:List Row)(tags:List Int):Prop where
 hR:Sl w vr R.length (R.flatMap dA)
 hT:Sl w vt tags.length (tags.flatMap bO.dB)
 Va:∀r∈R,∀x∈r.toList,-32768<=x/\x<=32767
 okT:∀x∈tags,bO.cV x
theorem Ae.gr{w w':World}{vr vt:Value}{R:List Row}{tags:List Int}(h:Ae w vr vt R tags)(hg:Gr w w'):Ae w' vr vt R tags:=⟨h.hR.gr hg,h.hT.gr hg,h.Va,h.okT⟩
theorem Ae.Zp{w:World}{vr vt:Value}{R:List Row}{tags:List Int}(h:Ae w vr vt R tags):UR w (fA vr vt) (R.map Vector.toList) tags:=by
 refine⟨vr,vt,rfl,?_,?_,fun r hr=>by obtain⟨x,_,rfl⟩:=List.mem_map.1 hr;simp⟩
 ·obtain⟨base,cap,h1,h2,h3,h4⟩:=h.hR
  refine⟨base,cap,by rw[List.length_map];exact h1,by rw[List.length_map];exact h2,h3,fun h0=>?_⟩;rw[List.length_map]at h0;obtain⟨b,off,h5,h6⟩:=h4 h0;refine⟨b,off,h5,fun i hi=>?_⟩;have lg:i<R.length:=by simpa using hi
  refine⟨dA R[i],⟨by simp,by simp[dA],fun x hx=>h.Va R[i] (List.getElem_mem lg) x (by simpa using hx)⟩,fun j u hj=>?_⟩;have Nu:j<256:=by have:=(List.getElem?_eq_some_iff.1 hj).1;rwa [cH]at this
  have:=h6 (i*256+j) u (by rw[rG cH R i j lg Nu];exact hj);rw[Nat.add_assoc];exact this
 ·obtain⟨base,cap,h1,h2,h3,h4⟩:=h.hT
  refine⟨base,cap,h1,h2,h3,fun h0=>?_⟩;obtain⟨b,off,h5,h6⟩:=h4 h0;refine⟨b,off,h5,fun i hi=>⟨[.int .i64 tags[i]],⟨rfl,h.okT _ (List.getElem_mem hi)⟩,fun j u hj=>?_⟩⟩;have Wt:j=0:=by have:=(List.getElem?_eq_some_iff.1 hj).1;simpa using this
  subst Wt;rw[Nat.mul_one,Nat.add_zero];refine h6 i u ?_;rw[show tags.flatMap bO.dB=tags.map (.int .i64)from bO.UB tags,List.getElem?_map,List.getElem?_eq_getElem hi];exact hj
def du(R:List Row)(tags:List Int):oZ:=⟨R.length,fun i b=>(R.getD i qi).toList.getD b 0,fun i=>tags.getD i 0⟩
def iL(R:List Row)(tags:List Int):Int:=ud (R.map Vector.toList) tags
theorem Bl(R:List Row){i:Nat}(hi:i<R.length):(R.map Vector.toList).getD i []=(R.getD i qi).toList:=by
 rw[List.getD_eq_getElem?_getD,List.getElem?_map,List.getD_eq_getElem?_getD,List.getElem?_eq_getElem hi];rfl
theorem kO{R:List Row}{tags:List Int}(h:iL R tags=0):(du R tags).Ok/\tags.length=R.length:=by
 obtain⟨h1,h2,h3,h4⟩:=Ol h;rw[List.length_map]at h1 h2 h3 h4;refine⟨⟨h2,h1,fun i hi b hb=>?_,fun i hi=>?_⟩,h3⟩
 ·have:=(h4 i hi).2.2
  rw[Bl R hi]at this;refine this _ ?_;show(R.getD i qi).toList.getD b 0∈_
  rw[List.getD_eq_getElem?_getD (l:=(R.getD i qi).toList),List.getElem?_eq_getElem (by simpa using hb)];exact List.getElem_mem _
 ·have:=h4 i hi
  exact⟨this.1,this.2.1⟩
theorem CV{R:List Row}{tags:List Int}(h:(du R tags).Ok)(hl:tags.length=R.length):iL R tags=0:=by
 have h1:R.length<=200:=h.le;have h2:0<R.length:=h.pos;unfold iL ud;rw[List.length_map,if_neg (by omega),if_neg (by omega),if_neg];simp only[List.any_eq_true,List.mem_range,not_exists,not_and];intro i hi;have ht:=h.tags i hi;have hs:=h.step i hi;rw[Bl R hi];simp only[ke,Bool.or_eq_true,decide_eq_true_eq,List.any_eq_true,not_or,not_exists,not_and];refine⟨⟨?_,?_⟩,fun t ht'=>?_⟩
 ·show ¬tags.getD i 0< -1
  have: -1<=tags.getD i 0:=ht.1;omega
 ·have:tags.getD i 0<20:=ht.2
  omega
 ·obtain⟨b,hb,rfl⟩:=List.mem_iff_getElem.1 ht'
  have GI:b<256:=by simpa using hb
  have:=hs b GI;have e:(du R tags).d i b=(R.getD i qi).toList[b]:=by
   show(R.getD i qi).toList.getD b 0=_
   rw[List.getD_eq_getElem?_getD (l:=(R.getD i qi).toList),List.getElem?_eq_getElem hb];rfl
  rw[e]at this;have e2:(du R tags).n=R.length:=rfl;omega
theorem J4{A:oZ}(hA:A.Ok):St A 0:=⟨by decide,by have:=hA.pos;show(0:Int)<A.n;omega⟩
def jo(R:List Row)(tags:List Int)(s:List UInt8):Int×Int:=if iL R tags=0 then(tg (du R tags) (go (du R tags) 0 s),0)else(0,iL R tags)
end bK
namespace bK
open Go.RowKit bO dc sW bT
theorem tC{R:List Row}{tags:List Int}{i:Nat}(h:i<tags.length):(du R tags).tag i=tags[i]:=by
 show tags.getD i 0=_
 rw[List.getD_eq_getElem?_getD,List.getElem?_eq_getElem h];rfl
theorem Fi{R:List Row}{tags:List Int}{i b:Nat}(h:i<R.length)(hb:b<256):(du R tags).d i b=(R[i])[b]:=by
 show(R.getD i qi).toList.getD b 0=_
 rw[List.getD_eq_getElem?_getD (l:=R),List.getElem?_eq_getElem h,Option.getD_some,List.getD_eq_getElem?_getD,List.getElem?_eq_getElem (by simpa using hb),Option.getD_some,Vector.getElem_toList]
theorem J5(r:Row){b:Nat}(hb:b<256)(x:Int):(dA r).toArray.setIfInBounds b (.int .i16 x)=(dA (r.set b x)).toArray:=by
 unfold dA;rw[Vector.toList_set,List.map_set];simp
theorem nv{P:Program}{n:Nat}{W:bC}{fr:Fr}{L:List bI}{Q:Exit->Act->World->Prop}{ops:Array Oper}{rest:List Oper}{ty:TypeId}{pos:String}{after:Array Edge}{t:TypeId}{p x:Operand}{i g b:Nat}{r:Row}{T:TypeId}{agg:Bool}{z:Int}[hT:ak P t agg 1](hi:L[i]?=some (aw g (dA r).toArray T))(hp:ev fr p=some (.pointer (some ⟨g,0+b,none⟩)))(hx:ev fr x=some (.int .i16 z))(hb:b<256)
 (h:TL P n W ops Q rest fr (L.set i (aw g (dA (r.set b z)).toArray T))):TL P n W ops Q (⟨none,.store t p x,ty,pos,after,none⟩::rest) fr L:=by
 rw[Nat.zero_add]at hp;refine aW hi hp hx rfl rfl ?_ ?_
 ·rw[List.size_toArray,cH];exact Nat.blt_eq▸hb
 ·rw[J5 r hb];exact h
def tD(x y:Int)(b:Nat):Row:=Vector.ofFn fun i:Fin 256=>if i<b then x else y
theorem Me(x y:Int)(b:Nat)(hb:b<256):(tD x y b).set b x=tD x y (b+1):=by
 refine Vector.ext fun i hi=>?_;unfold tD;rw[Vector.getElem_set,Vector.getElem_ofFn,Vector.getElem_ofFn];split
 ·rename_i e;subst e;simp
 ·have:i<b↔i<b+1:=by omega
  simp only[this]
theorem S9(x y:Int):tD x y 0=Vector.replicate 256 y:=by
 refine Vector.ext fun i hi=>?_;unfold tD;simp
theorem Mf(x y:Int):tD x y 256=Vector.replicate 256 x:=by
 refine Vector.ext fun i hi=>?_;unfold tD;simp[hi]
theorem yJ:(List.replicate 256 (Value.int .i16 0)).toArray=(dA (Vector.replicate 256 0)).toArray:=by
 unfold dA;rw[Vector.toList_replicate,List.map_replicate]
def wt(r:Row):Value:= .agg (dA r).toArray
theorem vB(x:Int)(w:World):Calls Tryz.prog 118 #[.int .i16 x] w (bM (ret (wt (Vector.replicate 256 x))) w):=by
 refine enter (args:=[.int .i16 x]) (n:=13) Tryz.func118 rfl rfl rfl ?_;refine a8 (aL (aK rfl fun g=>?_))
 try refine GA ?_
 refine aK rfl fun g3=>?_;refine zL ?_;rw[yJ]
 try refine GA ?_
 rw[<-S9 x 0];refine dv (ι:=Nat) (fun b=>b<=256) (fun b=>[(0,.int .i16 x),(2,.pointer (some ⟨g,0,none⟩)),(3,.pointer (some ⟨g3,0,none⟩)),(5,.int .i64 (b:Int))]) (fun b=>[aw g (dA (tD x 0 0)).toArray 257,aw g3 (dA (tD x 0 b)).toArray 257]) (fun b=>256-b) 0 (Nat.zero_le _) ?_;intro b hb
 by_cases c:b<256
 ·repeat(first|refine GA ?_|refine gV (e_ aT.eq ak.ty rfl rfl c) ?_)
  refine nv (i:=1) rfl rfl rfl c ?_;rw[Me x 0 b c];refine zL ?_
  try refine GA ?_
  exact bB (b+1) (by omega) (by show 256-(b+1)<256-b;omega)
 ·obtain rfl:b=256:=by omega
  rw[Mf]
  repeat(first|refine GA ?_|refine gV (az (i:=1) ak.ty rfl rfl (by rw[List.size_toArray,cH])) ?_)
  refine aE (i:=0) rfl rfl rfl (by rw[List.size_toArray,cH]) (by have:=nu (Vector.replicate 256 x);simpa using this) (by rw[List.size_toArray,cH]) ?_;refine zL ?_
  try refine GA ?_
  exact eR (i:=0) rfl rfl rfl (by rw[List.size_toArray,cH]) fun w hm=>hm.ret
end bK
namespace bK
open Go.RowKit bO dc bT
def mI(k:Kind):List Value:= .int .i64 k.1::dA k.2
def Fj(k:Kind):Value:= .agg (mI k).toArray
theorem jt(k:Kind):(mI k).length=257:=by simp[mI,cH]
def J6(r:Row):Prop:=∀(b:Nat) (h:b<256),(-32768:Int)<=r[b]/\r[b]<=32767
theorem Pr{r r':Row}(h:dA r=dA r'):r=r':=by
 refine Vector.ext fun b hb=>?_;have h1:=l6 r hb;rw[h,l6 r' hb]at h1;simp at h1;exact h1.symm
theorem WL{r:Row}(h:J6 r)(d:Nat):KL Tryz.prog (d+2) 257 (dA r):=by
 have e2:Tryz.prog.cellsOf 257=256:=by kernel_rfl
 have e3:Tryz.prog.cellsOf 255=1:=by kernel_rfl
 refine N9 (d:=d+1) Tryz.underlying257 (by rw[cH,e2]) fun i hi=>?_;have hc:((dA r).drop (i*Tryz.prog.cellsOf 255)).take (Tryz.prog.cellsOf 255)=[.int .i16 r[i]]:=by
  rw[e3,Nat.mul_one];have hl:i<(dA r).length:=by rw[cH];exact hi
  rw[List.drop_eq_getElem_cons hl];have:=l6 r hi;rw[List.getElem?_eq_getElem hl]at this;rw[Option.some.inj this];rfl
 rw[hc];exact pH Tryz.underlying255 (h i hi).1 (h i hi).2
set_option maxRecDepth 100000 in
theorem Ps(k:Kind)(h:bO.cV k.1/\J6 k.2):∃l,keyOf Tryz.prog 310 (Fj k)=some l:=by
 have e1:Tryz.prog.cellsOf 310=257:=by kernel_rfl
 have e2:Tryz.prog.cellsOf 257=256:=by kernel_rfl
 have e3:Tryz.prog.cellsOf 3=1:=by kernel_rfl
 refine Ce (m:=3) (by kernel_rfl) (by kernel_rfl) (by rw[jt,e1]) (wK 3 (by kernel_rfl)) fun d=>?_;refine uc (d:=d+2) Tryz.underlying310 (by rw[jt,e1]) (by kernel_rfl) fun f hf=>?_;simp only[List.mem_cons,List.not_mem_nil,or_false]at hf;rcases hf with rfl|rfl
 ·rw[e3]
  exact pH (d:=d+1) Tryz.underlying3 h.1.1 h.1.2
 ·show KL Tryz.prog (d+2) 257 (((mI k).drop 1).take (Tryz.prog.cellsOf 257))
  rw[e2];have:((mI k).drop 1).take 256=dA k.2:=by
   show(dA k.2).take 256=_
   rw[List.take_of_length_le (by rw[cH];omega)]
  rw[this];exact WL h.2 d
theorem S_:(310:TypeId)<Tryz.prog.types.size:=of_decide_eq_true (by kernel_rfl)
set_option maxRecDepth 100000 in
def qj:rJ Tryz.prog 310 Kind where
  kv:=Fj
  ok k:=bO.cV k.1/\J6 k.2
  law:=deep_law_laid wJ (m:=3) (by omega) S_ (by kernel_rfl) (by kernel_rfl)
  key x h:=Ps x h
  inj x y h:=by
    simp only[Fj,Value.agg.injEq,Array.mk.injEq,mI,List.cons.injEq,Value.int.injEq,true_and]at h;exact Prod.ext h.1 (Pr h.2)
abbrev wY:=Vector Int 200
def sg(c:wY):List Value:=c.toList.map (.int .i16)
def WM(c:wY):Value:= .agg (sg c).toArray
theorem nw(c:wY):(sg c).length=200:=by simp[sg]
theorem yK(c:wY){b:Nat}(hb:b<200):(sg c)[b]?=some (.int .i16 c[b]):=by
 unfold sg;rw[List.getElem?_map,List.getElem?_eq_getElem (by simpa using hb),Vector.getElem_toList];rfl
def Pt(c:wY):Prop:=∀(b:Nat) (h:b<200),(-32768:Int)<=c[b]/\c[b]<=32767
set_option maxRecDepth 100000 in
theorem Ta(c:wY)(h:Pt c):∃l,keyOf Tryz.prog 263 (WM c)=some l:=by
 have e2:Tryz.prog.cellsOf 263=200:=by kernel_rfl
 have e3:Tryz.prog.cellsOf 255=1:=by kernel_rfl
 refine Ce (m:=2) (by kernel_rfl) (by kernel_rfl) (by rw[nw,e2]) (wK 2 (by kernel_rfl)) fun d=>?_;refine N9 (d:=d+1) Tryz.underlying263 (by rw[nw,e2]) fun i hi=>?_;have hc:((sg c).drop (i*Tryz.prog.cellsOf 255)).take (Tryz.prog.cellsOf 255)=[.int .i16 c[i]]:=by
  rw[e3,Nat.mul_one];have hl:i<(sg c).length:=by rw[nw];exact hi
  rw[List.drop_eq_getElem_cons hl];have:=yK c hi;rw[List.getElem?_eq_getElem hl]at this;rw[Option.some.inj this];rfl
 rw[hc];exact pH Tryz.underlying255 (h i hi).1 (h i hi).2
theorem WN:(263:TypeId)<Tryz.prog.types.size:=of_decide_eq_true (by kernel_rfl)
set_option maxRecDepth 100000 in
def Fk:rJ Tryz.prog 263 wY where
  kv:=WM
  ok:=Pt
  law:=deep_law_laid wJ (m:=2) (by omega) WN (by kernel_rfl) (by kernel_rfl)
  key x h:=Ta x h
  inj x y h:=by
    simp only[WM,Value.agg.injEq,Array.mk.injEq]at h;refine Vector.ext fun b hb=>?_;have h1:=yK x hb;rw[h,yK y hb]at h1;simp at h1;exact h1.symm
theorem Pu(w:World):(zeroValue 3).run Tryz.prog w= .ok (.int .i64 0) w:=by kernel_rfl
end bK
namespace bK
open Go.RowKit bO dc sW bT
set_option maxRecDepth 100000 in
theorem H8(w:World):(Instr.build 310 #[(1,wt (Vector.replicate 256 0))]).run Tryz.prog w= .ok (Fj dead) w:=by kernel_rfl
set_option maxRecDepth 100000 in
theorem H9(x:Int)(w:World):(Instr.build 310 #[(0,.int .i64 x)]).run Tryz.prog w= .ok (Fj (x,Vector.replicate 256 0)) w:=by kernel_rfl
theorem H_{x:Int}(h0: -32768<=x)(h1:x<=32767):IntKind.i16.wrap x=x:=by
 simp only[IntKind.wrap,IntKind.bits,IntKind.signed];simp;omega
abbrev ja(x:Int):Value:= .int .i64 x
theorem Pv(x:Int)(r:Row){b:Nat}(hb:b<256)(y:Int):(mI (x,r)).toArray.setIfInBounds (1+b) (.int .i16 y)=(mI (x,r.set b y)).toArray:=by
 have e:1+b=b+1:=by omega
 unfold mI;rw[e,List.setIfInBounds_toArray,List.set_cons_succ];have:=J5 r hb y;rw[List.setIfInBounds_toArray]at this;have h2:(dA r).set b (.int .i16 y)=dA (r.set b y):=by simpa using this
 rw[h2]
section
variable{P:Program}{n:Nat}{W:bC}{fr:Fr}{L:List bI}{Q:Exit->Act->World->Prop}{ops:Array Oper}{rest:List Oper}{ty:TypeId}{pos:String}{after:Array Edge}
theorem Mg{t:TypeId}{p x:Operand}{i g b:Nat}{y:Int}{r:Row}{T:TypeId}{agg:Bool}{z:Int}[hT:ak P t agg 1](hi:L[i]?=some (aw g (mI (y,r)).toArray T))(hp:ev fr p=some (.pointer (some ⟨g,1+b,none⟩)))(hx:ev fr x=some (.int .i16 z))(hb:b<256)
 (h:TL P n W ops Q rest fr (L.set i (aw g (mI (y,r.set b z)).toArray T))):TL P n W ops Q (⟨none,.store t p x,ty,pos,after,none⟩::rest) fr L:=by
 refine aW hi hp hx rfl rfl ?_ ?_
 ·rw[List.size_toArray,jt];exact Nat.blt_eq▸(by omega:1+b<257)
 ·rw[Pv y r hb];exact h
end
def yL(A:oZ)(now:Nat->Nat)(i b:Nat):Row:=Vector.ofFn fun j:Fin 256=>if j<b then(val now (A.d i j):Int)else 0
theorem WO(A:oZ)(now:Nat->Nat)(i:Nat):yL A now i 0=Vector.replicate 256 0:=by
 refine Vector.ext fun j hj=>?_;unfold yL;simp
theorem Pw(A:oZ)(now:Nat->Nat)(i:Nat):((now i:Int),yL A now i 256)=kind A now i:=by
 refine Prod.ext rfl (Vector.ext fun j hj=>?_);unfold yL kind;simp[hj]
theorem Fl(A:oZ)(now:Nat->Nat)(i b:Nat)(hb:b<256):(yL A now i b).set b (val now (A.d i b):Int)=yL A now i (b+1):=by
 refine Vector.ext fun j hj=>?_;unfold yL;rw[Vector.getElem_set,Vector.getElem_ofFn,Vector.getElem_ofFn];split
 ·rename_i e;subst e;simp
 ·have:j<b↔j<b+1:=by omega
  simp only[this]
theorem Mh(A:oZ)(now:Nat->Nat)(i b:Nat)(hb:b<256)(h0:val now (A.d i b)=0):yL A now i b=yL A now i (b+1):=by
 rw[<-Fl A now i b hb,h0];refine Vector.ext fun j hj=>?_;rw[Vector.getElem_set];split
 ·rename_i e;subst e;unfold yL;simp
 ·rfl
structure CW(A:oZ)(f n:Nat)(now:Nat->Nat):Prop where
 eq:b_ A=AQ A f n now
 rd:n=0\/Jt A n now
 le:n<=A.n+1
 fuel:A.n+2<=f+n
 lim:∀i,i<A.n->now i<=200
theorem Tb{A:oZ}(hA:A.Ok):CW A (A.n+2) 0 (sY A):=⟨rfl,.inl rfl,Nat.zero_le _,by omega,fun i hi=>by unfold sY;have:=hA.tags i hi;omega⟩
theorem Fm{A:oZ}(hA:A.Ok){f n:Nat}{now:Nat->Nat}(h:CW A f n now):∃f',f=f'+1/\((lA A now).length=n->b_ A=next A now)/\((lA A now).length≠n->CW A f' (lA A now).length (next A now)):=by
 have h1:=h.le;have h2:=h.fuel;obtain⟨f',rfl⟩:∃f',f=f'+1:=⟨f-1,by omega⟩;have e:=h.eq;unfold AQ at e;refine⟨f',rfl,fun hc=>by rw[e,if_pos hc],fun hc=>⟨by rw[e,if_neg hc],.inr ⟨now,rfl,rfl⟩,ue now,?_,fun i hi=>?_⟩⟩
 ·have hp:=Js (A:=A) now
  rcases h.rd with rfl|hr
  ·omega
  ·have:=(rQ hr).1;omega
 ·have:=mD (A:=A) (now:=now) (q:=(i:Int)) (by omega)
  rw[tB]at this;have h3:=ue (A:=A) now;have h4:=hA.le;omega
theorem Tc{A:oZ}{now:Nat->Nat}(h:∀i,i<A.n->now i<=200){q:Int}(hq:St A q):val now q<=200:=by
 unfold val;split
 ·omega
 ·exact h _ (by unfold St at hq;omega)
theorem Td{A:oZ}(hA:A.Ok){now:Nat->Nat}(h:∀i,i<A.n->now i<=200){i:Nat}(hi:i<A.n):bO.cV (kind A now i).1/\J6 (kind A now i).2:=by
 refine⟨?_,fun b hb=>?_⟩
 ·have:=h i hi
  show bO.cV (now i:Int)
  exact⟨by omega,by omega⟩
 ·have:=Tc h (hA.step i hi b hb)
  unfold kind;rw[Vector.getElem_ofFn];show-32768<=(val now (A.d i b):Int)/\(val now (A.d i b):Int)<=32767
  omega
def hY(A:oZ)(now:Nat->Nat)(i:Nat):List Kind:=cP [dead] ((kinds A now).take i)
theorem Mi(A:oZ)(now:Nat->Nat):hY A now A.n=lA A now:=by unfold hY lA;rw[List.take_of_length_le (by simp[kinds])]
theorem Bm(A:oZ)(now:Nat->Nat){i:Nat}(hi:i<A.n):∃h:i<(kinds A now).length,(kinds A now)[i]=kind A now i:=⟨by simpa[kinds]using hi,by simp[kinds]⟩
theorem Te(A:oZ)(now:Nat->Nat){i:Nat}(hi:i<A.n)(h:kind A now i∈hY A now i):hY A now (i+1)=hY A now i/\next A now i=idx (hY A now i) (kind A now i):=by
 obtain⟨hl,e⟩:=Bm A now hi;have h2:=Oa (D:=[dead]) hl;unfold hY at h;rw[e,if_pos h]at h2;refine⟨?_,h2⟩;unfold hY;rw[List.take_succ_eq_append_getElem hl,iC,e,more,if_pos];exact h
theorem Tf(A:oZ)(now:Nat->Nat){i:Nat}(hi:i<A.n)(h:kind A now i∉hY A now i):hY A now (i+1)=hY A now i++[kind A now i]/\next A now i=(hY A now i).length:=by
 obtain⟨hl,e⟩:=Bm A now hi;have h2:=Oa (D:=[dead]) hl;unfold hY at h;rw[e,if_neg h]at h2;refine⟨?_,h2⟩;unfold hY;rw[List.take_succ_eq_append_getElem hl,iC,e,more,if_neg];exact h
theorem Px(A:oZ)(now:Nat->Nat)(i:Nat):(hY A now i).length<=A.n+1:=by
 have h:=ue (A:=A) now;have e:kinds A now=(kinds A now).take i++(kinds A now).drop i:=(List.take_append_drop _ _).symm;have Yg:∀(a b D:List Kind),cP D (a++b)=cP (cP D a) b:=by
  intro a
  induction a with
  |nil=>intro b D;rfl
  |cons x a ih=>intro b D;exact ih b _
 obtain⟨E,h2⟩:=nX ((kinds A now).drop i) (hY A now i);have h3:lA A now=hY A now i++E:=by
  unfold lA;rw[e,Yg];exact h2
 rw[h3,List.length_append]at h;omega
set_option maxRecDepth 100000 in
theorem CX(vr vt:Value)(R:List Row)(tags:List Int)(w:World)(h:Ae w vr vt R tags)(hc:iL R tags=0):
    Calls Tryz.prog 117 #[fA vr vt] w (bM ⟨fun _=>True,fun(g:Nat)=> .slice (some ⟨g,0,none⟩) R.length R.length,fun g=>[dU 3 ja g R.length fun i=>(b_ (du R tags) i:Int)]⟩ w):=by
  obtain⟨hA,hlt⟩:=kO hc;obtain⟨bt,ct,rfl,US,Om,DH⟩:=h.hT;obtain⟨br,cr,rfl,Rr,qE,xS⟩:=h.hR;have en:(du R tags).n=R.length:=rfl;have uz:0<R.length:=hA.pos;have hle:R.length<=200:=hA.le;obtain⟨b,off,rfl,hr⟩:=xS uz;obtain⟨bb,lc,rfl,hrt⟩:=DH (by omega);unfold maxLen at qE Om;have WQ:∀i,i<R.length->(du R tags).tag i=tags.getD i 0:=fun i _=>rfl;clear xS DH h;refine enter (args:=[fA (.slice (some ⟨b,off,none⟩) R.length cr) (.slice (some ⟨bb,lc,none⟩) tags.length ct)]) (n:=98) Tryz.func117 rfl rfl rfl ?_;refine a8 (aL (a_ rfl rfl rfl fun g1=>?_))
  repeat(first|refine GA ?_|refine gV (J ak.ty rfl (ah (i:=0) rfl rfl)) ?_)
  refine lC ja 0 rfl rfl (by omega) (by omega) rfl fun g3=>?_;refine zL ?_
  repeat(first|refine GA ?_|refine gV (J ak.ty rfl (ah (i:=0) rfl rfl)) ?_)
  refine jA (ι:=Nat) (fun i=>i<=tags.length) (fun i=>[(1,.pointer (some ⟨g1,0,none⟩)),(3,.slice (some ⟨g3,0,none⟩) R.length R.length),(22,.slice (some ⟨bb,lc,none⟩) tags.length ct),(23,.int .i64 (tags.length:Int)),(24,.int .i64 (i:Int))])
    (fun i=>[aw g1 (fA (.slice (some ⟨b,off,none⟩) R.length cr) (.slice (some ⟨bb,lc,none⟩) tags.length ct)).cells 186,dU 3 ja g3 R.length fun j=>if j<i then(sY (du R tags) j:Int)else 0]) (fun i=>tags.length-i) 0 (Nat.zero_le _) (by repeat' (first|exact True.intro|refine And.intro rfl ?_)) (by rw[lB (f':=fun j=>if j<0 then(sY (du R tags) j:Int)else 0) fun i _=>by simp]) ?_
  intro i hi
  by_cases c1:i<tags.length
  · have dF:=eN (W:=w) (L:=[aw g1 (fA (.slice (some ⟨b,off,none⟩) R.length cr) (.slice (some ⟨bb,lc,none⟩) tags.length ct)).cells 186,dU 3 ja g3 R.length fun j=>if j<i then(sY (du R tags) j:Int)else 0]) (c:=1) (f:=bO.dB) (fun _=>rfl) hrt c1 0 _ rfl
    have RA:=hA.tags i (by omega);have h0:(sY (du R tags) i:Int)=tags[i]+1:=by
      unfold sY;rw[tC c1]at RA⊢;omega
    rw[tC c1]at RA;generalize tags[i]=x at*
    repeat(first|refine GA ?_|refine gV (aC aT.eq ak.ty rfl rfl c1) ?_|refine gV (J ak.ty rfl dF) ?_|refine gV (bx aT.eq ak.ty rfl rfl (show i<R.length by omega)) ?_)
    refine fF (i:=1) (off:=i) (v:=x+1) (fun j=>if j<i+1 then(sY (du R tags) j:Int)else 0) ak.ty rfl rfl rfl rfl rfl (by omega) (fun j hj=>?_) ?_
    · by_cases e:j=i
      · subst e;rw[if_pos (by omega),if_pos rfl,h0]
      · rw[if_neg e]
        have:j<i+1↔j<i:=by omega
        simp only[this]
    refine zL ?_
    try refine GA ?_
    exact bB (i+1) (by omega) (by show tags.length-(i+1)<tags.length-i;omega)
  · obtain rfl:i=tags.length:=by omega
    rw[lB (f':=fun j=>(sY (du R tags) j:Int)) fun j hj=>if_pos (show j<tags.length by omega)];clear c1 hi
    try refine GA ?_
    refine dv (ι:=Nat×Nat×(Nat->Nat)×Nat) (fun(f,c,now,_)=>CW (du R tags) f c now) (fun(_,c,_,g3)=>[(1,.pointer (some ⟨g1,0,none⟩)),(3,.slice (some ⟨g3,0,none⟩) R.length R.length),(6,.int .i64 (c:Int))])
      (fun(_,_,now,g3)=>[aw g1 (fA (.slice (some ⟨b,off,none⟩) R.length cr) (.slice (some ⟨bb,lc,none⟩) tags.length ct)).cells 186,dU 3 ja g3 R.length fun j=>(now j:Int)]) (fun(f,_,_,_)=>f) (R.length+2,0,sY (du R tags),g3) (Tb hA) ?_
    clear g3;rintro⟨f,c,now,g3⟩ ef;dsimp only at ef⊢;obtain⟨f',rfl,WR,hgo⟩:=Fm hA ef;have xF:=ef.lim;have mY:=vB 0;clear ef;have Zq:=ue (A:=du R tags) now;rw[en]at Zq
    try refine GA ?_
    refine uf (K:=qj) rfl fun gm=>?_;refine zL ?_
    try refine GA ?_
    refine aI (jc aj.en rfl rfl) (fun w hm=>mY _) rfl rfl rfl ?_;intro _ _
    repeat(first|refine GA ?_|refine gV (aP rfl H8) ?_)
    refine aK rfl fun g8=>?_;refine zL ?_;refine aE (i:=3) (cs':=(mI dead).toArray) rfl rfl rfl (by rw[List.size_toArray,jt]) (by kernel_rfl) (by kernel_rfl) ?_;refine zL ?_
    repeat(first|refine GA ?_|refine gV (az (i:=3) ak.ty rfl rfl (by rw[List.size_toArray,jt])) ?_)
    refine ug (K:=qj) (i:=2) (D:=[]) (x:=dead) aT.eq rfl rfl rfl rfl ⟨⟨by decide,by decide⟩,fun b hb=>by show-32768<=(Vector.replicate 256 (0:Int))[b]/\(Vector.replicate 256 (0:Int))[b]<=32767;rw[Vector.getElem_replicate];decide⟩ (by simp) (by decide) ?_;refine zL ?_;refine AB [0,1,2] ?_
    try refine GA ?_
    refine lC ja 0 rfl rfl (by omega) (by omega) rfl fun g9=>?_;refine zL ?_
    repeat(first|refine GA ?_|refine gV (J ak.ty rfl (ah (i:=0) rfl rfl)) ?_)
    refine jA (ι:=Nat) (fun i=>i<=R.length) (fun i=>[(1,.pointer (some ⟨g1,0,none⟩)),(3,.slice (some ⟨g3,0,none⟩) R.length R.length),(6,.int .i64 (c:Int)),(7,.map (some gm)),(9,.slice (some ⟨g9,0,none⟩) R.length R.length),(44,.slice (some ⟨b,off,none⟩) R.length cr),(45,.int .i64 (R.length:Int)),(46,.int .i64 (i:Int))])
      (fun i=>[aw g1 (fA (.slice (some ⟨b,off,none⟩) R.length cr) (.slice (some ⟨bb,lc,none⟩) tags.length ct)).cells 186,dU 3 ja g3 R.length fun j=>(now j:Int),dL qj gm (ie (hY (du R tags) now i)) (hY (du R tags) now i).length,dU 3 ja g9 R.length fun j=>if j<i then(next (du R tags) now j:Int)else 0]) (fun i=>R.length-i) 0 (Nat.zero_le _) (by repeat' (first|exact True.intro|refine And.intro rfl ?_)) (by rw[lB (g:=g9) (f:=fun _=>(0:Int)) (f':=fun j=>if j<0 then(next (du R tags) now j:Int)else 0) fun i _=>by simp];rfl) ?_
    intro i hi
    by_cases c2:i<R.length
    · have dF:=eN (W:=w) (L:=[aw g1 (fA (.slice (some ⟨b,off,none⟩) R.length cr) (.slice (some ⟨bb,lc,none⟩) tags.length ct)).cells 186,dU 3 ja g3 R.length fun j=>(now j:Int),dL qj gm (ie (hY (du R tags) now i)) (hY (du R tags) now i).length,dU 3 ja g9 R.length fun j=>if j<i then(next (du R tags) now j:Int)else 0]) cH hr c2
      have fc:∀(q:Nat) (hq:q<256),(du R tags).d i q=(R[i])[q]:=fun q hq=>Fi c2 hq;have hst:∀b,b<256->St (du R tags) ((du R tags).d i b):=fun b hb=>hA.step i c2 b hb;generalize R[i]=r at*
      repeat(first|refine GA ?_|refine gV (aC aT.eq ak.ty rfl rfl c2) ?_|refine gV (aH ak.ty rfl (cH r) dF) ?_)
      refine aK rfl fun g11=>?_;refine zL ?_
      try refine GA ?_
      refine aE (i:=4) (cs':=(dA r).toArray) rfl rfl rfl (by rw[List.size_toArray,cH]) (by simpa using nu r) (by kernel_rfl) ?_;refine zL ?_;have Bh:=xF i c2
      repeat(first|refine GA ?_|refine gV (bx aT.eq ak.ty rfl rfl c2) ?_|refine gV (J ak.ty rfl (eD (i:=1) rfl c2)) ?_|refine gV (aP rfl (H9 _)) ?_)
      refine aK rfl fun g12=>?_;refine zL ?_;refine aE (i:=5) (cs':=(mI ((now i:Int),Vector.replicate 256 0)).toArray) rfl rfl rfl (by rw[List.size_toArray,jt]) (by rw[<-List.all_toArray];kernel_rfl) (by kernel_rfl) ?_;refine zL ?_
      repeat(first|refine GA ?_|refine gV (az (i:=4) ak.ty rfl rfl (by rw[List.size_toArray,cH])) ?_)
      rw[<-WO (du R tags) now i];refine oX [0,1,2,3,5] ?_;refine dv (ι:=Nat) (fun q=>q<=256) (fun q=>[(1,.pointer (some ⟨g1,0,none⟩)),(3,.slice (some ⟨g3,0,none⟩) R.length R.length),(6,.int .i64 (c:Int)),(7,.map (some gm)),(9,.slice (some ⟨g9,0,none⟩) R.length R.length),(44,.slice (some ⟨b,off,none⟩) R.length cr),(45,.int .i64 (R.length:Int)),(46,.int .i64 (i:Int)),(10,.int .i64 (i:Int)),(12,.pointer (some ⟨g12,0,none⟩)),(56,wt r),(57,.int .i64 (q:Int))])
        (fun q=>[aw g1 (fA (.slice (some ⟨b,off,none⟩) R.length cr) (.slice (some ⟨bb,lc,none⟩) tags.length ct)).cells 186,dU 3 ja g3 R.length fun j=>(now j:Int),dL qj gm (ie (hY (du R tags) now i)) (hY (du R tags) now i).length,dU 3 ja g9 R.length fun j=>if j<i then(next (du R tags) now j:Int)else 0,aw g12 (mI ((now i:Int),yL (du R tags) now i q)).toArray 310]) (fun q=>256-q) 0 (Nat.zero_le _) ?_
      intro q hq
      by_cases c3:q<256
      · have hcell:(dA r).toArray[q]?=some (.int .i16 r[q]):=by rw[List.getElem?_toArray];exact l6 r c3
        have hdq:=fc q c3;have hsq:=hst q c3;have q6:=Fl (du R tags) now i q c3;have Vb:=Mh (du R tags) now i q c3;rw[hdq]at hsq q6 Vb;clear hdq fc hst;generalize r[q]=x at*;unfold St at hsq
        by_cases c4:x<0
        · have hv:val now x=0:=by unfold val;rw[if_pos c4]
          rw[Vb hv]
          repeat(first|refine GA ?_|refine gV (fV aT.eq ak.ty rfl rfl c3 hcell) ?_)
          exact bB (q+1) (by omega) (by show 256-(q+1)<256-q;omega)
        · obtain⟨m,rfl⟩:∃m:Nat,x=m:=⟨x.toNat,by omega⟩
          have hm:m<R.length:=by omega
          have hlm:=xF m hm;rw[tB]at q6
          repeat(first|refine GA ?_|refine gV (fV aT.eq ak.ty rfl rfl c3 hcell) ?_|refine gV (bx aT.eq ak.ty rfl rfl hm) ?_|refine gV (J ak.ty rfl (eD (i:=1) rfl hm)) ?_|refine gV (fI aT.eq aT.eq rfl (H_ (by omega) (by omega))) ?_|refine gV (e_ aT.eq ak.ty rfl rfl c3) ?_)
          refine Mg (i:=4) rfl rfl rfl c3 ?_;rw[q6];refine zL ?_
          try refine GA ?_
          exact bB (q+1) (by omega) (by show 256-(q+1)<256-q;omega)
      · obtain rfl:q=256:=by omega
        rw[Pw];have jZ:=Td hA xF (i:=i) c2
        by_cases c5:kind (du R tags) now i∈hY (du R tags) now i
        · obtain⟨e1,e2⟩:=Te (du R tags) now (i:=i) c2 c5
          generalize kind (du R tags) now i=k at*
          repeat(first|refine GA ?_|refine gV (az (i:=4) ak.ty rfl rfl (by rw[List.size_toArray,jt])) ?_|refine gV (pL (K:=qj) (i:=2) (x:=k) aT.eq Pu rfl rfl rfl jZ c5) ?_|refine gV (bx aT.eq ak.ty rfl rfl c2) ?_)
          refine fF (i:=3) (off:=i) (v:=(next (du R tags) now i:Int)) (fun j=>if j<i+1 then(next (du R tags) now j:Int)else 0) ak.ty rfl rfl (by rw[e2];rfl) rfl rfl c2 (fun j hj=>?_) ?_
          · by_cases e:j=i
            · subst e;rw[if_pos (by omega),if_pos rfl]
            · rw[if_neg e]
              have:j<i+1↔j<i:=by omega
              simp only[this]
          refine zL ?_
          try refine GA ?_
          refine cD [0,1,2,3] ?_;exact bB (i+1) (by omega) (by show R.length-(i+1)<R.length-i;omega) (hl:=by rw[e1];rfl)
        · obtain⟨e1,e2⟩:=Tf (du R tags) now (i:=i) c2 c5
          have VD:=Px (du R tags) now i;rw[en]at VD;generalize kind (du R tags) now i=k at*
          repeat(first|refine GC ?_|refine gV (az (i:=4) ak.ty rfl rfl (by rw[List.size_toArray,jt])) ?_|refine gV (pM (K:=qj) (i:=2) (x:=k) aT.eq Pu rfl rfl rfl jZ c5) ?_|refine gV (qJ qj aT.eq (i:=2) rfl rfl) ?_|refine GB ?_)
          refine ug (K:=qj) (i:=2) (x:=k) aT.eq rfl rfl rfl rfl jZ c5 (by omega) ?_;refine zL ?_
          repeat(first|refine GA ?_|refine gV (bx aT.eq ak.ty rfl rfl c2) ?_)
          refine fF (i:=3) (off:=i) (v:=(next (du R tags) now i:Int)) (fun j=>if j<i+1 then(next (du R tags) now j:Int)else 0) ak.ty rfl rfl (by rw[e2];rfl) rfl rfl c2 (fun j hj=>?_) ?_
          · by_cases e:j=i
            · subst e;rw[if_pos (by omega),if_pos rfl]
            · rw[if_neg e]
              have:j<i+1↔j<i:=by omega
              simp only[this]
          refine zL ?_
          try refine GA ?_
          refine cD [0,1,2,3] ?_;exact bB (i+1) (by omega) (by show R.length-(i+1)<R.length-i;omega) (hl:=by rw[e1];rfl)
    · obtain rfl:i=R.length:=by omega
      rw[show hY (du R tags) now R.length=lA (du R tags) now from Mi (du R tags) now];rw[lB (f':=fun j=>(next (du R tags) now j:Int)) fun j hj=>if_pos hj]
      by_cases c6:(lA (du R tags) now).length=c
      · rw[WR c6]
        repeat(first|refine GC ?_|refine gV (qJ qj aT.eq (i:=2) rfl rfl) ?_|refine gV (bL (b:=true) rfl rfl (decide_eq_true (by omega))) ?_|refine GB ?_)
        exact b9 rfl rfl fun w hm=>hm.meets (S:=⟨fun _=>True,fun(g:Nat)=> .slice (some ⟨g,0,none⟩) R.length R.length,fun g=>[dU 3 ja g R.length fun i=>(next (du R tags) now i:Int)]⟩) g9 trivial [3] (by decide) rfl
      · repeat(first|refine GC ?_|refine gV (qJ qj aT.eq (i:=2) rfl rfl) ?_|refine gV (bL (b:=false) rfl rfl (decide_eq_false (by omega))) ?_|refine GB ?_)
        refine cD [0,3] ?_;exact bB (f',(lA (du R tags) now).length,next (du R tags) now,g9) (hgo c6) (Nat.lt_succ_self f')
end bK
namespace bK
open Go.RowKit bO dc sW bT
theorem yM(vr vt:Value)(R:List Row)(tags:List Int)(w:World)(h:Ae w vr vt R tags):Calls Tryz.prog 116 #[fA vr vt] w (bM (ret (.int .i64 (iL R tags))) w):=xR _ _ _ w h.Zp
end bK
namespace bK
open Go.RowKit bO dc bW eG de jQ bT
set_option maxRecDepth 100000 in
theorem WT(x y:C4)(w:World):(Op.equalIn 10000 303 (.agg (cZ x).toArray) (.agg (cZ y).toArray)).run Tryz.prog w= .ok (decide (x=y)) w:=by
 show(Op.equalIn 10000 303 (.agg #[v64 x.a,v64 x.b,v64 x.c,v64 x.d]) (.agg #[v64 y.a,v64 y.b,v64 y.c,v64 y.d])).run Tryz.prog w=_
 have e:(Op.equalIn 10000 303 (.agg #[v64 x.a,v64 x.b,v64 x.c,v64 x.d]) (.agg #[v64 y.a,v64 y.b,v64 y.c,v64 y.d])).run Tryz.prog w= .ok ((ez x.a==ez y.a)&&((ez x.b==ez y.b)&&((ez x.c==ez y.c)&&(ez x.d==ez y.d)))) w:=by
  unfold v64;rw[run_equalIn_array (P:=Tryz.prog) w 9999 (n:=4) (e:=114) _ _ rfl rfl];have h1:Tryz.prog.cellsOf 114=1:=rfl;simp[Op.eqItems,go_sem,List.range_succ_eq_map,h1]
  by_cases e1:ez x.a=ez y.a<;>by_cases e2:ez x.b=ez y.b<;>by_cases e3:ez x.c=ez y.c<;>by_cases e4:ez x.d=ez y.d<;>simp[e1,e2,e3,e4]
 rw[e]
 congr 1
 by_cases h:x=y
 ·subst h;simp
 ·rw[decide_eq_false h]
  by_cases e1:ez x.a=ez y.a<;>by_cases e2:ez x.b=ez y.b<;>by_cases e3:ez x.c=ez y.c<;>by_cases e4:ez x.d=ez y.d<;>simp[e1,e2,e3,e4]
  exact h (C4.ext' (kU e1) (kU e2) (kU e3) (kU e4))
theorem H'(w:World):(Instr.build 303 (#[]:Array (Nat×Value))).run Tryz.prog w= .ok (.agg (cZ C4.zero).toArray) w:=by kernel_rfl
theorem Tg{x:Int}(h0: -32768<=x)(h1:x<=32767):IntKind.i16.wrap x=x:=by
 simp only[IntKind.wrap,IntKind.bits,IntKind.signed];simp;omega
theorem Fo(r:Row):(dA r).toArray.toList.all Value.oneCell'=true:=List.all_eq_true.2 fun u hu=>row_one [r] u (by simpa using hu)
def Bn(m:MS)(vc vr vf vfol vl ve rows:Value)(g gm n:Nat)(d:DM):Spec (Value×Value):=
 ⟨fun _=>True,fun _=>wt (ml m n d).1,fun x=>DL vc vr vf vfol vl ve rows g gm x.1 x.2 (ml m n d).2⟩
theorem Th(p:PS)(all:C4)(b i:Nat):Cx p all b (i+1)=if all.mem i=true/\(p.aJ.getD i C4.zero).mem b=true then(Cx p all b i).bit i else Cx p all b i:=rfl
theorem Ia(p:PS)(all:C4)(f b:Nat)(r:Row)(d:DM):jF p all (f+1) b r d=if 200<(ep p all b r d).2.S.length+1 then ep p all b r d else jF p all f (b+1) (ep p all b r d).1 (ep p all b r d).2:=rfl
theorem Ti{p:PS}{all:C4}{b:Nat}{r:Row}{d:DM}(hb:b<256)(h:Cy p all b=C4.zero):ep p all b r d=(r.set b (-1),d):=by unfold ep;rw[if_pos h,dif_pos hb]
theorem Tj{p:PS}{all:C4}{b:Nat}{r:Row}{d:DM}(hb:b<256)(h:Cy p all b≠C4.zero):ep p all b r d=((r.set b (-1)).set b ((fD p d (Cy p all b)).1:Int),(fD p d (Cy p all b)).2):=by unfold ep;rw[if_neg h,dif_pos hb]
set_option maxRecDepth 100000 in
theorem CY(m:MS)(vc vr vf vfol vl ve rows:Value)(d:DM)(g gm n:Nat)(vs vt:Value)(w0:World)(hp:z_ w0 (.agg #[vc,vr,vf,vfol,vl,ve]) m)(h:Cv m)(hd:Sw m.ps d)(Zr:d.S.length+1<=200)(hn:n<=d.S.length)(w:World)(B:bC)(ho:jz w0 B)
    (hm:Mem B (DL vc vr vf vfol vl ve rows g gm vs vt d) w):
    Calls Tryz.prog 115 #[.pointer (some ⟨g,0,none⟩),.int .i64 (n:Int)] w (c_ (Bn m vc vr vf vfol vl ve rows g gm n d) B):=by
  have qO:=fun w' (hg:Gr w0 w') h1 h2=>Aa m vc vr vf vfol vl ve vs (.map (some gm)) rows vt d.S g n w' (hp.gr hg) h h1 h2 hn;have hst:=fun d' s lL sD h1 h2 w' B' D0 mN=>yr m vc vr vf vfol vl ve rows d' s g gm lL sD w0 hp h h1 h2 w' B' D0 mN;obtain⟨_,_,_,_,_,_,he,h1,-⟩:=hp;simp only[Value.agg.injEq,Array.mk.injEq,List.cons.injEq,and_true]at he;obtain⟨rfl,rfl,rfl,rfl,rfl,rfl⟩:=he;have hmf:=h.Hx;clear h;obtain⟨ac,cc,rfl,-,-,Zs⟩:=h1;unfold Bn ml;generalize jV m d.S n=all at*;obtain⟨p,fi,em⟩:=m;dsimp only at*;unfold DL at hm;have hB0:=H';refine dC hm (args:=[.pointer (some ⟨g,0,none⟩),.int .i64 (n:Int)]) (n:=60) Tryz.func115 rfl rfl rfl ?_;clear hm;refine a8 (aL (aK rfl fun g4=>?_));refine zL ?_;rw[yJ]
  try refine GA ?_
  refine aI (eK aj.en rfl rfl rfl) (fun w hm=>qO w (ho.mem hm) (hm.get (i:=0) rfl) (Sl.cI (hm.get (i:=1) rfl))) rfl rfl rfl ?_;intro _ _;refine zL ?_;clear qO
  try refine GA ?_
  refine aK rfl fun g5=>?_;refine zL ?_;refine fa 5 (cs':=(cZ all).toArray) ?_;refine zL ?_
  try refine GA ?_
  refine aK rfl fun g6=>?_;refine zL ?_;rw[yJ]
  try refine GA ?_
  clear hn;generalize iO:jF p all 256 0 (Vector.replicate 256 0) d=fin;refine dv (ι:=Nat×Row×DM×Value×Value) (fun(b,r,d,_,_)=>b<=256/\Sw p d/\d.S.length+1<=200/\jF p all (256-b) b r d=fin) (fun(b,_,_,_,_)=>[(0,.pointer (some ⟨g,0,none⟩)),(4,.pointer (some ⟨g4,0,none⟩)),(5,.pointer (some ⟨g5,0,none⟩)),(6,.pointer (some ⟨g6,0,none⟩)),(14,.int .i64 (b:Int))])
    (fun(_,r,d,vs,vt)=>[aw g (DK (.slice ac p.aJ.length cc) vr vf vfol vl ve vs (.map (some gm)) rows vt) 254,kQ vs d.S,oq gm d.S,eH vt d.tags,aw g4 (dA (Vector.replicate 256 0)).toArray 257,aw g5 (cZ all).toArray 303,aw g6 (dA r).toArray 257]) (fun(b,_,_,_,_)=>256-b) (0,Vector.replicate 256 0,d,vs,vt) ⟨Nat.zero_le _,hd,Zr,iO⟩ ?_
  clear hd Zr iO d vs vt;rintro⟨b,r,d,vs,vt⟩ ⟨i1,i2,i3,i4⟩;dsimp only at i1 i2 i3 i4⊢
  by_cases c1:b<256
  · rw[show 256-b=(256-(b+1))+1 by omega,Ia]at i4
    try refine GA ?_
    refine aK rfl fun g8=>?_;refine zL ?_
    repeat(first|refine GA ?_|refine gV (J (v:= .slice ac p.aJ.length cc) ak.ty rfl (ah (i:=0) rfl rfl)) ?_)
    refine dv (ι:=Nat) (fun k=>k<=p.aJ.length) (fun k=>[(0,.pointer (some ⟨g,0,none⟩)),(4,.pointer (some ⟨g4,0,none⟩)),(5,.pointer (some ⟨g5,0,none⟩)),(6,.pointer (some ⟨g6,0,none⟩)),(7,.int .i64 (b:Int)),(8,.pointer (some ⟨g8,0,none⟩)),(14,.int .i64 (b:Int)),(21,.slice ac p.aJ.length cc),(22,.int .i64 p.aJ.length),(23,.int .i64 (k:Int))])
      (fun k=>[aw g (DK (.slice ac p.aJ.length cc) vr vf vfol vl ve vs (.map (some gm)) rows vt) 254,kQ vs d.S,oq gm d.S,eH vt d.tags,aw g4 (dA (Vector.replicate 256 0)).toArray 257,aw g5 (cZ all).toArray 303,aw g6 (dA r).toArray 257,aw g8 (cZ (Cx p all b k)).toArray 303]) (fun k=>p.aJ.length-k) 0 (Nat.zero_le _) ?_
    intro k hk
    by_cases c2:k<p.aJ.length
    · have WU:=Th p all b k
      have Rw:p.aJ.getD k C4.zero=p.aJ[k]:=by rw[List.getD_eq_getElem?_getD,List.getElem?_eq_getElem c2];rfl
      rw[Rw]at WU;obtain⟨bc,aa',rfl,Zt⟩:=Zs (by omega);have Zu:=fun(L:List bI)=>HJ (L:=L) (f:=cZ) (c:=4) (fun _=>rfl) ho Zt c2;clear Zt Zs Rw;generalize p.aJ[k]=c at*;have Zv:∀(L:List bI) (j:Nat) (u:Value),(cZ c)[j]?=some u->At B L ⟨bc,aa'+k*4+j,none⟩ u:=Zu;clear Zu;have O1:=fun w=>oc all k (by omega) w;have aba:=fun w=>Lh c b c1 w;generalize Cx p all b k=tz at*;generalize all.mem k=b1 at*;generalize c.mem b=b2 at*;have hu8:IntKind.u8.wrap (b:Int)=(b:Int):=by rw[IntKind.wrap_u8];omega
      repeat(first|refine GA ?_|refine gV (aC aT.eq ak.ty rfl rfl c2) ?_|refine gV (aH (cs:=cZ c) ak.ty rfl rfl (Zv _)) ?_)
      refine aK rfl fun g10=>?_;refine zL ?_
      try refine GA ?_
      refine fa 8 (cs':=(cZ c).toArray) ?_;refine zL ?_
      repeat(first|refine GA ?_|refine gV (az (i:=5) ak.ty rfl rfl rfl) ?_)
      refine aI (eK aj.en rfl rfl rfl) (fun w hm=>O1 w) rfl rfl rfl ?_;intro _ _;refine zL ?_
      by_cases q1:b1=true
      · subst q1
        repeat(first|refine GA ?_|refine gV (az (i:=8) ak.ty rfl rfl rfl) ?_|refine gV (fI aT.eq aT.eq rfl hu8) ?_)
        refine ky (eK aj.en rfl rfl rfl) (fun w hm=>aba w) rfl rfl rfl rfl rfl ?_;intro _ _;refine zL ?_
        by_cases q2:b2=true
        · subst q2
          rw[if_pos ⟨rfl,rfl⟩]at WU
          try refine GA ?_
          refine aR [7] [0,1,2,3,4,5,6] (by decide) rfl rfl (eK aj.en rfl rfl rfl) (fun w hm hb=>od tz k (by omega) g8 w _ hb) rfl rfl rfl ?_;intro _ _;refine zL ?_
          try refine GA ?_
          exact bB (k+1) (by omega) (by show p.aJ.length-(k+1)<p.aJ.length-k;omega) (hl:=by rw[WU])
        · rw[if_neg (fun h=>q2 h.2)]at WU
          obtain rfl:=Bool.eq_false_iff.2 q2
          try refine GA ?_
          refine cD [0,1,2,3,4,5,6,7] ?_;exact bB (k+1) (by omega) (by show p.aJ.length-(k+1)<p.aJ.length-k;omega) (hl:=by rw[WU];rfl)
      · rw[if_neg (fun h=>q1 h.1)]at WU
        obtain rfl:=Bool.eq_false_iff.2 q1
        try refine GA ?_
        refine cD [0,1,2,3,4,5,6,7] ?_;exact bB (k+1) (by omega) (by show p.aJ.length-(k+1)<p.aJ.length-k;omega) (hl:=by rw[WU];rfl)
    · obtain rfl:k=p.aJ.length:=by omega
      have hF:Cx p all b p.aJ.length=Cy p all b:=rfl;rw[hF];have DG:=Ti (p:=p) (all:=all) (r:=r) (d:=d) c1;have oL:=Tj (p:=p) (all:=all) (r:=r) (d:=d) c1;have uR:=WT (Cy p all b) C4.zero;clear hF Zs;generalize Cy p all b=tz at*
      repeat(first|refine GA ?_|refine gV (e_ aT.eq ak.ty rfl rfl c1) ?_)
      refine nv (i:=6) rfl rfl rfl c1 ?_;refine zL ?_
      by_cases q1:tz=C4.zero
      · rw[decide_eq_true q1]at uR
        rw[DG q1,if_neg (by show ¬200<d.S.length+1;omega)]at i4;refine mA (i:=1) rfl eE fun fc=>?_;obtain⟨ab,cs,rfl,WA,-⟩:=fc
        repeat(first|refine GC ?_|refine gV (az (i:=7) ak.ty rfl rfl rfl) ?_|refine gV (aP rfl hB0) ?_|refine gV (lq rfl rfl (by kernel_rfl) uR rfl) ?_|refine gV (J (v:= .slice ab (d.S.length+1) cs) ak.ty rfl (ah (i:=0) rfl rfl)) ?_|refine gV (dj (b:=false) rfl rfl (decide_eq_false (by omega))) ?_|refine GB ?_)
        refine cD [0,1,2,3,4,5,6] ?_;exact bB (b+1,r.set b (-1),d,.slice ab (d.S.length+1) cs,vt) ⟨by omega,i2,i3,i4⟩ (by show 256-(b+1)<256-b;omega)
      · rw[decide_eq_false q1]at uR
        rw[oL q1]at i4;obtain⟨s1,s2,s3,s4,s5⟩:=EJ i2 tz
        repeat(first|refine GC ?_|refine gV (az (i:=7) ak.ty rfl rfl rfl) ?_|refine gV (aP rfl hB0) ?_|refine gV (lq rfl rfl (by kernel_rfl) uR rfl) ?_|refine GB ?_)
        refine aR [0,1,2,3] [4,5,6,7] (by decide) rfl rfl (eK aj.en rfl rfl rfl) (fun w hm hb=>hst d tz vs vt (by omega) (by have:=i2.tags;omega) w _ (ho.on hm (by simp[DL])) hb) rfl rfl rfl ?_;rintro⟨lL,sD⟩ _
        conv=>arg 8;simp only[zJ,bZ,ret,id_eq,SN,DL]
        conv=>arg 7;simp only[SN]
        generalize fD p d tz=R at*;obtain⟨q,d'⟩:=R;dsimp only at i4 s1 s2 s3 s4 s5⊢;have hq:q<=200:=by omega
        refine mA (i:=5) rfl eE fun fc=>?_;obtain⟨ab,cs,rfl,WA,-⟩:=fc
        repeat(first|refine GA ?_|refine gV (fI aT.eq aT.eq rfl (Tg (by omega) (by omega))) ?_|refine gV (e_ aT.eq ak.ty rfl rfl c1) ?_)
        refine nv (i:=2) rfl rfl rfl c1 ?_;refine zL ?_;generalize (r.set b (-1)).set b (q:Int)=r' at*
        by_cases q2:200<d'.S.length+1
        · rw[if_pos q2]at i4
          subst i4
          repeat(first|refine GC ?_|refine gV (J (v:= .slice ab (d'.S.length+1) cs) ak.ty rfl (ah (i:=4) rfl rfl)) ?_|refine gV (dj (b:=true) rfl rfl (decide_eq_true (by omega))) ?_|refine gV (az (i:=2) ak.ty rfl rfl (by rw[List.size_toArray,cH])) ?_|refine GB ?_)
          refine aE (i:=0) (cs':=(dA r').toArray) rfl rfl rfl (by rw[List.size_toArray,cH]) (Fo r') (by rw[List.size_toArray,cH]) ?_;refine zL ?_
          try refine GA ?_
          exact eR (i:=0) rfl rfl rfl (by rw[List.size_toArray,cH]) fun w hm=>hm.bP (S:=⟨fun(_:Value×Value)=>True,fun _=>wt r',fun x=>DL (.slice ac p.aJ.length cc) vr vf vfol vl ve rows g gm x.1 x.2 d'⟩) (.slice ab (d'.S.length+1) cs,sD) trivial [4,5,6,7] (by decide) rfl
        · rw[if_neg q2]at i4
          repeat(first|refine GC ?_|refine gV (J (v:= .slice ab (d'.S.length+1) cs) ak.ty rfl (ah (i:=4) rfl rfl)) ?_|refine gV (dj (b:=false) rfl rfl (decide_eq_false (by omega))) ?_|refine GB ?_)
          refine cD [4,5,6,7,0,1,2] ?_;exact bB (b+1,r',d',.slice ab (d'.S.length+1) cs,sD) ⟨by omega,s1,by show d'.S.length+1<=200;omega,i4⟩ (by show 256-(b+1)<256-b;omega)
  · obtain rfl:b=256:=by omega
    have i4:(r,d)=fin:=i4;subst i4
    repeat(first|refine GA ?_|refine gV (az (i:=6) ak.ty rfl rfl (by rw[List.size_toArray,cH])) ?_)
    refine aE (i:=4) (cs':=(dA r).toArray) rfl rfl rfl (by rw[List.size_toArray,cH]) (Fo r) (by rw[List.size_toArray,cH]) ?_;refine zL ?_
    try refine GA ?_
    exact eR (i:=4) rfl rfl rfl (by rw[List.size_toArray,cH]) fun w hm=>hm.bP (S:=⟨fun(_:Value×Value)=>True,fun _=>wt r,fun x=>DL (.slice ac p.aJ.length cc) vr vf vfol vl ve rows g gm x.1 x.2 d⟩) (vs,vt) trivial [0,1,2,3] (by decide) rfl
end bK
namespace bK
open Go.RowKit bO dc bW eG de jQ bT
def ox(m:MS):List Row×List Int×Int:=match pV m with
 |some (R,d)=>(R,d.tags,0)
 |none=>([],[],8)
def J7(m:MS):Spec (Value×Value):=⟨fun _=>True,fun x=> .tuple #[fA x.1 x.2,.int .i64 (ox m).2.2],fun x=>[aM 257 256 x.1 (ox m).1.length ((ox m).1.flatMap dA),eH x.2 (ox m).2.1]⟩
theorem sh{m:MS}{R:List Row}{d:DM}(h:pV m=some (R,d)):ox m=(R,d.tags,0):=by unfold ox;rw[h]
theorem Ib{m:MS}(h:pV m=none):ox m=([],[],8):=by unfold ox;rw[h]
theorem Bo(m:MS)(f n:Nat)(R:List Row)(d:DM):oh m (f+1) n R d=if n<d.S.length+1 then(if 200<(ml m n d).2.S.length+1 then none else oh m f (n+1) (R++[(ml m n d).1]) (ml m n d).2)else some (R,d):=rfl
theorem Ic(w:World):(Instr.build 186 (#[]:Array (Nat×Value))).run Tryz.prog w= .ok (.agg #[.slice none 0 0,.slice none 0 0]) w:=by kernel_rfl
theorem Fp(vc vr vf vfol vl ve:Value)(g gm:Nat)(w:World):(Instr.build 254 #[(0,.agg #[vc,vr,vf,vfol,vl,ve]),(1,.slice (some ⟨g,0,none⟩) 1 1),(2,.map (some gm))]).run Tryz.prog w= .ok (.agg (DK vc vr vf vfol vl ve (.slice (some ⟨g,0,none⟩) 1 1) (.map (some gm)) (.slice none 0 0) (.slice none 0 0))) w:=by
 unfold DK;go_simp
theorem Fq{g:Nat}{w:World}(h:(aw g (madeCells #[Value.int .u64 0,Value.int .u64 0,Value.int .u64 0,Value.int .u64 0] (1*4)) 303).holds w):(kQ (.slice (some ⟨g,0,none⟩) 1 1) []).holds w:=by
 rw[UK (k:=4) rfl (by decide)]at h;exact⟨rfl,.inr ⟨g,1,_,rfl,Nat.zero_le _,h,Nat.le_refl _,by decide,rfl,rfl⟩⟩
theorem uA(v:Value)(R:List Row)(r:Row):aM 257 256 v (R++[r]).length ((R++[r]).flatMap dA)=aM 257 256 v (R.length+1) (R.flatMap dA++dA r):=by
 rw[List.length_append,List.flatMap_append];simp
theorem WV{vc vr vf vfol vl ve vs num rows tags v:Value}{j:Nat}(h:[rows,tags][j]?=some v):(DK vc vr vf vfol vl ve vs num rows tags)[8+j]?=some v:=by
 match j,h with
 |0,h=>exact h
 |1,h=>exact h
theorem CZ(r:Row):(dA r).toArray=([wt r].flatMap fun v=>v.cells.toList).toArray:=by
 show _=((dA r).toArray.toList++[]).toArray
 simp
theorem yN(r:Row):∀v∈[wt r],v.cells.size=256:=by
 intro v hv;rw[List.mem_singleton.1 hv];show(dA r).toArray.size=256
 rw[List.size_toArray,cH]
set_option maxRecDepth 100000 in
theorem Af(v:Value)(m:MS)(w:World)(hp:z_ w v m)(h:Cv m):
    Calls Tryz.prog 77 #[v] w (bM (J7 m) w):=by
  have gd:=fun w' (hg:Gr w w')=>yp v m w' (hp.gr hg) h;obtain⟨vc,vr,vf,vfol,vl,ve,rfl,h1,h2,h3,h4,h5,h6⟩:=id hp;have X4:=fun rows d g gm n vs vt hd Zr hn w' B ho hm=>CY m vc vr vf vfol vl ve rows d g gm n vs vt w hp h hd Zr hn w' B ho hm;clear h1 h2 h3 h4 h5 hp;have Wq:=h.some;have pt:=h.Sv;clear h;obtain⟨ae,ce,rfl,-,hme,hre⟩:=h6;unfold maxLen at hme;have hbz:=Ic;refine enter (args:=[.agg #[vc,vr,vf,vfol,vl,.slice ae m.empty.length ce]]) (n:=78) Tryz.func77 rfl rfl rfl ?_;refine a8 (aL (a_ rfl rfl rfl fun g1=>aK rfl fun g2=>?_));refine zL ?_
  repeat(first|refine GA ?_|refine gV (az (i:=0) ak.ty rfl rfl rfl) ?_)
  refine aI (jc aj.en rfl rfl) (fun w hm=>gd _ hm.below) rfl rfl rfl ?_;intro _ _;refine zL ?_;clear gd
  repeat(first|refine GC ?_|refine gV (bm (b:=false) rfl rfl (decide_eq_false (by simp))) ?_|refine GB ?_)
  (repeat refine a8 ?_)
  refine iW (ι:=Nat×Nat×Nat) (fun _=>True) (fun(_,_,g5)=>[(1,.pointer (some ⟨g1,0,none⟩)),(2,.pointer (some ⟨g2,0,none⟩)),(5,.pointer (some ⟨g5,0,none⟩))])
    (fun(gs,gm,g5)=>[aw g1 #[vc,vr,vf,vfol,vl,.slice ae m.empty.length ce] 181,aw g2 #[.slice none 0 0,.slice none 0 0] 186,aw g5 (DK vc vr vf vfol vl (.slice ae m.empty.length ce) (.slice (some ⟨gs,0,none⟩) 1 1) (.map (some gm)) (.slice none 0 0) (.slice none 0 0)) 254,kQ (.slice (some ⟨gs,0,none⟩) 1 1) [],oq gm []]) ?_ ?_
  · refine cU ([aw g1 #[vc,vr,vf,vfol,vl,.slice ae m.empty.length ce] 181]) (.calm 0 (.two 1 (.one 2 (.calm 3 (.one 4 (.calm 5 (.done))))) 2 (.one 1 (.calm 3 (.one 4 (.calm 5 (.done))))))) (bz [0]) ?_
    repeat(first|refine GW ?_|(refine GN ?_;first|refine QW (az (i:=0) ak.ty rfl rfl rfl) ?_))
    refine dE rfl rfl ?_ ?_
    · refine pE (m:=1) (cap:=1) rfl rfl (Nat.le_refl 1) (by decide) (by decide) rfl fun gs=>av (bz [0]) ?_
      refine ap rfl (rK HL rfl fun gm=>av (bz [0]) ?_)
      repeat(first|refine GW ?_|(refine GN ?_;first|refine QW (aP rfl (Fp _ _ _ _ _ _ _ _)) ?_))
      refine ap rfl (a_ rfl rfl rfl fun g5=>av (bz [0]) ?_)
      try refine GW ?_
      refine kW (i:=2) (kQ (.slice (some ⟨gs,0,none⟩) 1 1) []) rfl (fun w h=>Fq h) (fun k h=>h) ?_;refine kW (i:=3) (oq gm []) rfl (fun w h=>by unfold oq;rw[<-yq];exact h) (fun k h=>h) ?_;refine cD [0,1,4,2,3] ?_;exact dm (gs,gm,g5) trivial (by repeat' (first|exact True.intro|refine And.intro rfl ?_)) rfl
    · refine rK HL rfl fun gm=>av (bz [0]) ?_
      refine ap rfl (pE (m:=1) (cap:=1) rfl rfl (Nat.le_refl 1) (by decide) (by decide) rfl fun gs=>av (bz [0]) ?_)
      repeat(first|refine GW ?_|(refine GN ?_;first|refine QW (aP rfl (Fp _ _ _ _ _ _ _ _)) ?_))
      refine ap rfl (a_ rfl rfl rfl fun g5=>av (bz [0]) ?_)
      try refine GW ?_
      refine kW (i:=3) (kQ (.slice (some ⟨gs,0,none⟩) 1 1) []) rfl (fun w h=>Fq h) (fun k h=>h) ?_;refine kW (i:=2) (oq gm []) rfl (fun w h=>by unfold oq;rw[<-yq];exact h) (fun k h=>h) ?_;refine cD [0,1,4,3,2] ?_;exact dm (gs,gm,g5) trivial (by repeat' (first|exact True.intro|refine And.intro rfl ?_)) rfl
  rintro⟨gs,gm,g5⟩ _;dsimp only
  try refine GA ?_
  refine dT (cs:=#[.int .i64 (-1)]) [.int .i64 (-1)] rfl rfl rfl (by intro v hv;simp at hv;subst hv;rfl) rfl rfl rfl fun g20=>?_;refine zL ?_
  try refine GA ?_
  refine aW (i:=2) rfl rfl rfl rfl rfl rfl ?_;refine zL ?_
  repeat(first|refine GC ?_|refine gV (J (v:= .slice ae m.empty.length ce) ak.ty rfl (ah (i:=0) rfl rfl)) ?_|refine gV (df (r:=(m.empty.length:Int)-1) rfl rfl (by omega) (by omega) rfl) ?_|refine GB ?_)
  refine jA (ι:=Nat) (fun k=>k<=m.empty.length) (fun k=>[(1,.pointer (some ⟨g1,0,none⟩)),(2,.pointer (some ⟨g2,0,none⟩)),(5,.pointer (some ⟨g5,0,none⟩)),(6,.int .i64 ((k:Int)-1))])
    (fun k=>[aw g1 #[vc,vr,vf,vfol,vl,.slice ae m.empty.length ce] 181,aw g2 #[.slice none 0 0,.slice none 0 0] 186,aw g5 (DK vc vr vf vfol vl (.slice ae m.empty.length ce) (.slice (some ⟨gs,0,none⟩) 1 1) (.map (some gm)) (.slice none 0 0) (.slice (some ⟨g20,0,none⟩) 1 1)) 254,kQ (.slice (some ⟨gs,0,none⟩) 1 1) [],oq gm [],aw g20 #[.int .i64 (dQ (m.empty.drop k) k)] 3]) (fun k=>k) m.empty.length (Nat.le_refl _) (by repeat' (first|exact True.intro|refine And.intro rfl ?_)) (by rw[List.drop_eq_nil_of_le (Nat.le_refl _)];rfl) ?_
  intro k hk
  by_cases c1:0<k
  · obtain⟨j,rfl⟩:∃j,k=j+1:=⟨k-1,by omega⟩
    have hj:j<m.empty.length:=by omega
    obtain⟨be,WW,rfl,abb⟩:=hre (by omega);have abc:=fun(L:List bI)=>eN (L:=L) JP abb hj 0 _ rfl;have hst:dQ (m.empty.drop j) j=if m.empty[j]=true then(j:Int)else dQ (m.empty.drop (j+1)) ((j:Int)+1):=by rw[List.drop_eq_getElem_cons hj,dQ]
    rw[show(((j+1:Nat):Int))=(j:Int)+1 by omega]at*;generalize dQ (m.empty.drop (j+1)) ((j:Int)+1)=t at*;generalize m.empty[j]=b at*;rw[show(j:Int)+1-1=(j:Int)by omega];have Vc:∀(L:List bI),At (w:bC) L ⟨be,WW+j*1+0,none⟩ (.bool b):=abc
    by_cases c2:b=true
    · subst c2
      rw[if_pos rfl]at hst
      repeat(first|refine GC ?_|refine gV (dO (b:=true) rfl rfl (decide_eq_true (by omega))) ?_|refine gV (J (v:= .slice (some ⟨be,WW,none⟩) m.empty.length ce) ak.ty rfl (ah (i:=0) rfl rfl)) ?_|refine gV (aC aT.eq ak.ty rfl rfl hj) ?_|refine gV (J (v:= .bool true) ak.ty rfl (Vc _)) ?_|refine gV (J (v:= .slice (some ⟨g20,0,none⟩) 1 1) ak.ty rfl (ah (i:=2) rfl rfl)) ?_|refine gV (aC (j:=0) aT.eq ak.ty rfl rfl (by decide)) ?_|refine GB ?_)
      refine aW (i:=5) rfl rfl rfl rfl rfl rfl ?_;refine zL ?_
      repeat(first|refine GC ?_|refine gV (df (r:=(j:Int)-1) rfl rfl (by omega) (by omega) rfl) ?_|refine GB ?_)
      exact bB j (by omega) (by show j<j+1;omega) (hl:=by rw[hst];rfl)
    · rw[if_neg c2]at hst
      obtain rfl:=Bool.eq_false_iff.2 c2
      repeat(first|refine GC ?_|refine gV (dO (b:=true) rfl rfl (decide_eq_true (by omega))) ?_|refine gV (J (v:= .slice (some ⟨be,WW,none⟩) m.empty.length ce) ak.ty rfl (ah (i:=0) rfl rfl)) ?_|refine gV (aC aT.eq ak.ty rfl rfl hj) ?_|refine gV (J (v:= .bool false) ak.ty rfl (Vc _)) ?_|refine gV (df (r:=(j:Int)-1) rfl rfl (by omega) (by omega) rfl) ?_|refine GB ?_)
      exact bB j (by omega) (by show j<j+1;omega) (hl:=by rw[hst])
  · obtain rfl:k=0:=by omega
    rw[show dQ (m.empty.drop 0) ((0:Nat):Int)=dQ m.empty 0 from rfl];have iO:oh m (201-0) 0 [] ⟨[],[dQ m.empty 0]⟩=pV m:=rfl;generalize dQ m.empty 0=t0 at*;refine Jm (i:=5) (eH (.slice (some ⟨g20,0,none⟩) 1 1) [t0]) rfl (fun w h=>CC h) (fun k h=>h) ?_
    repeat(first|refine GC ?_|refine gV (dO (b:=false) rfl rfl (decide_eq_false (by omega))) ?_|refine GB ?_)
    refine g_ 257 256 ?_;refine oX [1,2,3,4,5,6] ?_;clear hre;refine dv (ι:=Nat×List Row×DM×Value×Value×Value) (fun(n,R,d,_,_,_)=>R.length=n/\n<=d.S.length+1/\Sw m.ps d/\d.S.length+1<=200/\oh m (201-n) n R d=pV m) (fun(n,_,_,_,_,_)=>[(2,.pointer (some ⟨g2,0,none⟩)),(5,.pointer (some ⟨g5,0,none⟩)),(7,.int .i64 (n:Int))])
      (fun(_,R,d,vs,qk,vt)=>[aw g2 #[.slice none 0 0,.slice none 0 0] 186,aw g5 (DK vc vr vf vfol vl (.slice ae m.empty.length ce) vs (.map (some gm)) qk vt) 254,kQ vs d.S,oq gm d.S,eH vt d.tags,aM 257 256 qk R.length (R.flatMap dA)]) (fun(n,_,_,_,_,_)=>201-n) (0,[],⟨[],[t0]⟩,.slice (some ⟨gs,0,none⟩) 1 1,.slice none 0 0,.slice (some ⟨g20,0,none⟩) 1 1) ⟨rfl,Nat.zero_le _,⟨List.nodup_nil,rfl⟩,by show 0+1<=200;omega,iO⟩ ?_
    clear iO hk c1;rintro⟨n,R,d,vs,qk,vt⟩ ⟨i0,i1,i2,i3,i4⟩;dsimp only at i0 i1 i2 i3 i4⊢;refine fv (i:=2) rfl eE fun fc=>?_;obtain⟨ab,cs,rfl,WA,-⟩:=fc
    by_cases c1:n<d.S.length+1
    · rw[show 201-n=(201-(n+1))+1 by omega,Bo,if_pos c1]at i4
      obtain⟨s1,s2,s3⟩:=EK (p:=m.ps) (jV m d.S n) 256 0 (Vector.replicate 256 0) d i2 i3;have Py:=fun w' (mN:Mem (w:bC) [aw g2 #[.slice none 0 0,.slice none 0 0] 186,aw g5 (DK vc vr vf vfol vl (.slice ae m.empty.length ce) (.slice ab (d.S.length+1) cs) (.map (some gm)) qk vt) 254,kQ (.slice ab (d.S.length+1) cs) d.S,oq gm d.S,eH vt d.tags,aM 257 256 qk R.length (R.flatMap dA)] w') (hb:Mem (bC.on w' (DL vc vr vf vfol vl (.slice ae m.empty.length ce) qk g5 gm (.slice ab (d.S.length+1) cs) vt d)) (DL vc vr vf vfol vl (.slice ae m.empty.length ce) qk g5 gm (.slice ab (d.S.length+1) cs) vt d) w')=>X4 qk d g5 gm n (.slice ab (d.S.length+1) cs) vt i2 i3 (by omega) w' _ ((jz.self w).on mN (by simp[DL])) hb;rw[show jF m.ps (jV m d.S n) 256 0 (Vector.replicate 256 0) d=ml m n d from rfl]at s1 s2 s3;obtain⟨r',d',lF⟩:∃r' d',ml m n d=(r',d'):=⟨_,_,rfl⟩;rw[lF]at i4 s1 s2 s3;dsimp only at i4 s1 s2 s3
      repeat(first|refine GC ?_|refine gV (J (v:= .slice ab (d.S.length+1) cs) ak.ty rfl (ah (i:=1) rfl rfl)) ?_|refine gV (bQ (b:=true) rfl rfl (decide_eq_true (by omega))) ?_|refine GB ?_)
      (repeat refine a8 ?_)
      refine iW (ι:=Value×Value×Value) (fun _=>True) (fun _=>[(2,.pointer (some ⟨g2,0,none⟩)),(5,.pointer (some ⟨g5,0,none⟩)),(7,.int .i64 (n:Int))])
        (fun(lL,mT,sD)=>[aw g2 #[.slice none 0 0,.slice none 0 0] 186,aw g5 (DK vc vr vf vfol vl (.slice ae m.empty.length ce) lL (.map (some gm)) mT sD) 254,kQ lL d'.S,oq gm d'.S,eH sD d'.tags,aM 257 256 mT (R++[r']).length ((R++[r']).flatMap dA)]) ?_ ?_
      · refine cU ([]) (.calm 0 (.calm 1 (.calm 2 (.calm 3 (.calm 4 (.calm 6 (.calm 7 (.two 5 (.one 8 (.one 9 (.one 10 (.calm 11 (.calm 12 (.calm 13 (.one 14 (.done)))))))) 8 (.two 5 (.one 9 (.one 10 (.calm 11 (.calm 12 (.calm 13 (.one 14 (.done))))))) 9 (.one 5 (.one 10 (.calm 11 (.calm 12 (.calm 13 (.one 14 (.done)))))))))))))))) (bz []) ?_
        try refine GW ?_
        refine dE rfl rfl ?_ ?_
        · refine aV (J (v:=qk) ak.ty rfl (ah (i:=1) rfl rfl)) rfl rfl rfl (av (bz []) ?_)
          refine ap rfl (aR [1,2,3,4] [0,5] (by decide) rfl rfl (eK aj.en rfl rfl rfl) (fun w' hm hb=>Py w' hm hb) rfl rfl rfl ?_);rintro⟨lL,sD⟩ _
          conv=>arg 8;simp only[zJ,bZ,ret,id_eq,Bn,DL]
          conv=>arg 7;simp only[Bn]
          rw[lF];dsimp only;refine av (bz []) ?_;refine ap rfl (dT (cs:=(dA r').toArray) [wt r'] rfl rfl rfl (yN r') rfl (CZ r') rfl fun g62=>(av (bz []) ?_));refine ap rfl (dw (i:=1) (e:=257) (size:=256) (bytes:=512) (m:=R.length) (xs:=R.flatMap dA) (k:=1) (ys:=dA r') rfl (iA (i:=6) rfl (fun j u h=>by simpa using h) (Nat.le_refl 1) (by decide)) rfl rfl (by rw[cH]) (fun u hu=>row_one [r'] u (by simpa using hu)) (by omega) (by omega) rfl fun mT=>(av (bz []) ?_))
          try refine GW ?_
          refine ap rfl (aD (i:=1) rfl fun gB jM=>aW (i:=2) rfl rfl rfl gB jM rfl (av (bz []) ?_))
          try refine GW ?_
          refine cD [0,2,3,4,5,1] ?_;exact dm (lL,mT,sD) trivial (by repeat' (first|exact True.intro|refine And.intro rfl ?_)) (by dsimp only;rw[uA];rfl)
        · refine aR [1,2,3,4] [0,5] (by decide) rfl rfl (eK aj.en rfl rfl rfl) (fun w' hm hb=>Py w' hm hb) rfl rfl rfl ?_
          rintro⟨lL,sD⟩ _
          conv=>arg 8;simp only[zJ,bZ,ret,id_eq,Bn,DL]
          conv=>arg 7;simp only[Bn]
          rw[lF];dsimp only;refine av (bz []) ?_;refine dE rfl rfl ?_ ?_
          · refine aV (J (v:=qk) ak.ty rfl (ah (i:=2) rfl rfl)) rfl rfl rfl (av (bz []) ?_)
            refine ap rfl (dT (cs:=(dA r').toArray) [wt r'] rfl rfl rfl (yN r') rfl (CZ r') rfl fun g62=>(av (bz []) ?_));refine ap rfl (dw (i:=1) (e:=257) (size:=256) (bytes:=512) (m:=R.length) (xs:=R.flatMap dA) (k:=1) (ys:=dA r') rfl (iA (i:=6) rfl (fun j u h=>by simpa using h) (Nat.le_refl 1) (by decide)) rfl rfl (by rw[cH]) (fun u hu=>row_one [r'] u (by simpa using hu)) (by omega) (by omega) rfl fun mT=>(av (bz []) ?_))
            try refine GW ?_
            refine ap rfl (aD (i:=1) rfl fun gB jM=>aW (i:=2) rfl rfl rfl gB jM rfl (av (bz []) ?_))
            try refine GW ?_
            refine cD [0,2,3,4,5,1] ?_;exact dm (lL,mT,sD) trivial (by repeat' (first|exact True.intro|refine And.intro rfl ?_)) (by dsimp only;rw[uA];rfl)
          · refine dT (cs:=(dA r').toArray) [wt r'] rfl rfl rfl (yN r') rfl (CZ r') rfl fun g62=>(av (bz []) ?_)
            refine ap rfl (aV (J (v:=qk) ak.ty rfl (ah (i:=2) rfl rfl)) rfl rfl rfl (av (bz []) ?_));refine ap rfl (dw (i:=1) (e:=257) (size:=256) (bytes:=512) (m:=R.length) (xs:=R.flatMap dA) (k:=1) (ys:=dA r') rfl (iA (i:=6) rfl (fun j u h=>by simpa using h) (Nat.le_refl 1) (by decide)) rfl rfl (by rw[cH]) (fun u hu=>row_one [r'] u (by simpa using hu)) (by omega) (by omega) rfl fun mT=>(av (bz []) ?_))
            try refine GW ?_
            refine ap rfl (aD (i:=1) rfl fun gB jM=>aW (i:=2) rfl rfl rfl gB jM rfl (av (bz []) ?_))
            try refine GW ?_
            refine cD [0,2,3,4,5,1] ?_;exact dm (lL,mT,sD) trivial (by repeat' (first|exact True.intro|refine And.intro rfl ?_)) (by dsimp only;rw[uA];rfl)
      clear Py;rintro⟨lL,mT,sD⟩ _;dsimp only;refine fv (i:=2) rfl eE fun fc=>?_;obtain⟨U2,cs',rfl,ab2,-⟩:=fc
      by_cases c2:200<d'.S.length+1
      · rw[if_pos c2]at i4
        have ho:=Ib i4.symm;unfold J7;rw[ho]
        repeat(first|refine GC ?_|refine gV (J (v:= .slice U2 (d'.S.length+1) cs') ak.ty rfl (ah (i:=1) rfl rfl)) ?_|refine gV (dj (b:=true) rfl rfl (decide_eq_true (by omega))) ?_|refine gV (aP rfl hbz) ?_|refine GB ?_)
        refine fa 0 ?_;refine zL ?_
        try refine GA ?_
        refine dq 257 256 (dq 3 1 ?_);exact da (i:=0) rfl rfl rfl rfl rfl fun w hm=>hm.meets (S:=⟨fun(_:Value×Value)=>True,fun x=> .tuple #[fA x.1 x.2,.int .i64 8],fun x=>[aM 257 256 x.1 0 [],aM 3 1 x.2 0 []]⟩) (.slice none 0 0,.slice none 0 0) trivial [6,7] (by decide) rfl
      · rw[if_neg c2]at i4
        repeat(first|refine GC ?_|refine gV (J (v:= .slice U2 (d'.S.length+1) cs') ak.ty rfl (ah (i:=1) rfl rfl)) ?_|refine gV (dj (b:=false) rfl rfl (decide_eq_false (by omega))) ?_|refine GB ?_)
        exact bB (n+1,R++[r'],d',.slice U2 (d'.S.length+1) cs',mT,sD) ⟨by rw[List.length_append,i0];rfl,by show n+1<=d'.S.length+1;omega,s1,by show d'.S.length+1<=200;omega,i4⟩ (by show 201-(n+1)<201-n;omega)
    · have i5:pV m=some (R,d):=by
        rw[<-i4,show 201-n=(201-(n+1))+1 by omega,Bo,if_neg c1]
      have ho:=sh i5;unfold J7;rw[ho];refine fv (i:=4) rfl eE fun fc=>?_;obtain⟨at',Vd,rfl,-⟩:=fc;refine fv (i:=5) rfl eE fun fc=>?_;obtain⟨ar',cr',rfl,-⟩:=fc
      repeat(first|refine GC ?_|refine gV (J (v:= .slice ab (d.S.length+1) cs) ak.ty rfl (ah (i:=1) rfl rfl)) ?_|refine gV (bQ (b:=false) rfl rfl (decide_eq_false (by omega))) ?_|refine gV (aH (cs:=[.slice ar' R.length cr',.slice at' d.tags.length Vd]) ak.ty rfl rfl (fun j v hj=>ah (i:=1) rfl (WV hj))) ?_|refine GB ?_)
      refine fa 0 (cs':=#[.slice ar' R.length cr',.slice at' d.tags.length Vd]) ?_;refine zL ?_
      try refine GA ?_
      exact da (i:=0) rfl rfl rfl rfl rfl fun w hm=>hm.meets (S:=⟨fun(_:Value×Value)=>True,fun x=> .tuple #[fA x.1 x.2,.int .i64 0],fun x=>[aM 257 256 x.1 R.length (R.flatMap dA),eH x.2 d.tags]⟩) (.slice ar' R.length cr',.slice at' d.tags.length Vd) trivial [5,4] (by decide) rfl
end bK
namespace jQ
open bW eG de bT
open bK (iL du qi CV)
def Fs(p:PS)(S:List C4)(all:C4)(b:Nat):Int:=if Cy p all b=C4.zero then-1 else((idx S (Cy p all b)+1:Nat):Int)
def ql(p:PS)(S:List C4)(all:C4)(b:Nat)(x:Int):Prop:=x=Fs p S all b/\(Cy p all b=C4.zero\/Cy p all b∈S)
theorem ql.Ly{p:PS}{S:List C4}{all:C4}{b:Nat}{x:Int}(h:ql p S all b x)(E:List C4):ql p (S++E) all b x:=by
 obtain⟨h1,h2⟩:=h;refine⟨?_,h2.imp id fun h=>List.mem_append_left _ h⟩;rw[h1];unfold Fs
 by_cases c:Cy p all b=C4.zero
 ·rw[if_pos c,if_pos c]
 ·rw[if_neg c,if_neg c,mC (h2.resolve_left c)]
def mU(p:PS)(t0:Int)(d:DM):Prop:=d.tags=t0::d.S.map (jQ.jo p)
theorem Mj(p:PS)(t0:Int)(d:DM)(s:C4):(∃E,(fD p d s).2.S=d.S++E)/\s∈(fD p d s).2.S/\(fD p d s).1=idx (fD p d s).2.S s+1/\(mU p t0 d->mU p t0 (fD p d s).2):=by
 unfold fD
 by_cases c:s∈d.S
 ·rw[if_pos c]
  exact⟨⟨[],(List.append_nil _).symm⟩,c,rfl,id⟩
 ·rw[if_neg c]
  refine⟨⟨[s],rfl⟩,List.mem_append_right _ (List.mem_singleton.2 rfl),?_,fun h=>?_⟩
  ·show d.S.length+1=idx (d.S++[s]) s+1
   unfold idx;rw[List.idxOf_append,if_neg c];simp
  ·show d.tags++[jQ.jo p s]=t0::(d.S++[s]).map (jQ.jo p)
   rw[h,List.map_append];rfl
theorem Pz(p:PS)(t0:Int)(all:C4)(b:Nat)(hb:b<256)(r:Row)(d:DM):(∃E,(ep p all b r d).2.S=d.S++E)/\(∀c (h:c<256),c≠b->(ep p all b r d).1[c]=r[c])/\ql p (ep p all b r d).2.S all b ((ep p all b r d).1[b])/\(mU p t0 d->mU p t0 (ep p all b r d).2):=by
 unfold ep
 by_cases c:Cy p all b=C4.zero
 ·rw[if_pos c,dif_pos hb]
  refine⟨⟨[],(List.append_nil _).symm⟩,fun c' h hc=>?_,⟨?_,.inl c⟩,id⟩
  ·exact Vector.getElem_set_ne hb h (Ne.symm hc)
  ·rw[Vector.getElem_set_self hb];unfold Fs;rw[if_pos c]
 ·rw[if_neg c,dif_pos hb]
  obtain⟨h1,h2,h3,h4⟩:=Mj p t0 d (Cy p all b);refine⟨h1,fun c' h hc=>?_,⟨?_,.inr h2⟩,h4⟩
  ·dsimp only
   rw[Vector.getElem_set_ne hb h (Ne.symm hc),Vector.getElem_set_ne hb h (Ne.symm hc)]
  ·dsimp only
   rw[Vector.getElem_set_self hb,h3];unfold Fs;rw[if_neg c]
theorem J8(p:PS)(t0:Int)(all:C4):∀(f b:Nat) (r:Row) (d:DM),b+f=256->(jF p all f b r d).2.S.length+1<=200->
    (∃E,(jF p all f b r d).2.S=d.S++E)/\(∀c (h:c<256),c<b->(jF p all f b r d).1[c]=r[c])/\(∀c (h:c<256),b<=c->ql p (jF p all f b r d).2.S all c ((jF p all f b r d).1[c]))/\(mU p t0 d->mU p t0 (jF p all f b r d).2)
  |0,b,r,d,hbf,_=>⟨⟨[],(List.append_nil _).symm⟩,fun _ _ _=>rfl,fun c h hc=>by omega,id⟩
  | f + 1,b,r,d,hbf,hl=>by
    obtain⟨⟨E1,h1⟩,h2,h3,h4⟩:=Pz p t0 all b (by omega) r d;have e:jF p all (f+1) b r d=if 200<(ep p all b r d).2.S.length+1 then ep p all b r d else jF p all f (b+1) (ep p all b r d).1 (ep p all b r d).2:=rfl
    rw[e]at hl⊢
    by_cases c:200<(ep p all b r d).2.S.length+1
    · rw[if_pos c]at hl;omega
    · rw[if_neg c]at hl⊢
      obtain⟨⟨E2,q1⟩,q2,q3,q4⟩:=J8 p t0 all f (b+1) _ _ (by omega) hl;refine⟨⟨E1++E2,by rw[q1,h1,List.append_assoc]⟩,fun c' h hc=>?_,fun c' h hc=>?_,fun h=>q4 (h4 h)⟩
      · rw[q2 c' h (by omega),h2 c' h (by omega)]
      · by_cases ec:c'=b
        · subst ec
          rw[q2 c' h (by omega),q1];exact h3.Ly E2
        · exact q3 c' h (by omega)
theorem Bp(m:MS)(S E:List C4){n:Nat}(h:n<=S.length):jV m (S++E) n=jV m S n:=by
 cases n with
 |zero=>rfl
 |succ n=>
  show kj m.ps ((S++E).getD n C4.zero) _=kj m.ps (S.getD n C4.zero) _
  rw[fX (by omega)]
structure X5(m:MS)(t0:Int)(n:Nat)(R:List Row)(d:DM):Prop where
 len:R.length=n
 le:n<=d.S.length+1
 Hx:d.S.length+1<=200
 cell:∀q,q<n->∀c (h:c<256),ql m.ps d.S (jV m d.S q) c ((R.getD q qi)[c])
 tags:mU m.ps t0 d
theorem Ft(m:MS)(t0:Int):∀(f n:Nat) (R:List Row) (d:DM) (R':List Row) (d':DM),oh m f n R d=some (R',d')->X5 m t0 n R d->X5 m t0 (d'.S.length+1) R' d'
  |0,_,_,_,_,_,h,_=>by cases h
  | f + 1,n,R,d,R',d',h,hi=>by
    have e:oh m (f+1) n R d=if n<d.S.length+1 then(if 200<(ml m n d).2.S.length+1 then none else oh m f (n+1) (R++[(ml m n d).1]) (ml m n d).2)else some (R,d):=rfl
    rw[e]at h
    by_cases c1:n<d.S.length+1
    · rw[if_pos c1]at h
      by_cases c2:200<(ml m n d).2.S.length+1
      · rw[if_pos c2]at h;cases h
      · rw[if_neg c2]at h
        refine Ft m t0 f (n+1) _ _ R' d' h ?_;obtain⟨⟨E,q1⟩,_,q3,q4⟩:=J8 m.ps t0 (jV m d.S n) 256 0 (Vector.replicate 256 0) d rfl (by show(ml m n d).2.S.length+1<=200;omega);have q1:(ml m n d).2.S=d.S++E:=q1;have q3:∀c (h:c<256),0<=c->ql m.ps (ml m n d).2.S (jV m d.S n) c ((ml m n d).1[c]):=q3;have hlen:=congrArg List.length q1;rw[List.length_append]at hlen;refine⟨by rw[List.length_append,hi.len];rfl,by omega,by omega,fun q hq c hc=>?_,q4 hi.tags⟩
        by_cases eq:q=n
        · subst eq
          rw[jm (by rw[hi.len];exact Nat.le_refl _),hi.len,Nat.sub_self];show ql m.ps (ml m q d).2.S (jV m (ml m q d).2.S q) c ((ml m q d).1[c])
          rw[q1,Bp m d.S E (by omega),<-q1];exact q3 c hc (Nat.zero_le _)
        · rw[fX (by rw[hi.len];omega),q1,Bp m d.S E (by omega)]
          exact(hi.cell q (by omega) c hc).Ly E
    · rw[if_neg c1]at h
      simp only[Option.some.injEq,Prod.mk.injEq]at h;obtain⟨rfl,rfl⟩:=h;have:n=d.S.length+1:=by have:=hi.le;omega
      rw[<-this];exact hi
theorem uB{m:MS}{R:List Row}{d:DM}(h:pV m=some (R,d)):X5 m (dQ m.empty 0) (d.S.length+1) R d:=
 Ft m (dQ m.empty 0) 201 0 [] ⟨[],[dQ m.empty 0]⟩ R d h ⟨rfl,Nat.zero_le _,by show 0+1<=200;decide,fun q hq=>absurd hq (Nat.not_lt_zero q),rfl⟩
theorem PA(R:List Row)(q c:Nat)(h:c<256):((R.getD q qi).toList.getD c 0)=(R.getD q qi)[c]:=by
 rw[List.getD_eq_getElem?_getD,List.getElem?_eq_getElem (by simpa using h),Option.getD_some,Vector.getElem_toList]
theorem C0{p:PS}{n:Nat}(hr:∀r∈p.rules,0<=r/\r<n)(hl:p.rules.length=p.aJ.length)(s:C4):∀k,k<=p.aJ.length->(ig p s k= -1/\∀i,i<k->s.mem i=true->p.last.getD i false=true->False)\/(∃i,i<k/\s.mem i=true/\p.last.getD i false=true/\ig p s k=p.rules.getD i 0/\0<=ig p s k/\ig p s k<n/\∀i,i<k->s.mem i=true->p.last.getD i false=true->ig p s k<=p.rules.getD i 0)
  |0,_=> .inl ⟨rfl,fun i hi=>absurd hi (Nat.not_lt_zero i)⟩
  | k + 1,hk=>by
    have Ld:0<=p.rules.getD k 0/\p.rules.getD k 0<n:=by
      rw[List.getD_eq_getElem?_getD,List.getElem?_eq_getElem (by omega),Option.getD_some];exact hr _ (List.getElem_mem _)
    have e:ig p s (k+1)=if s.mem k=true/\p.last.getD k false=true/\(ig p s k<0\/p.rules.getD k 0<ig p s k)then p.rules.getD k 0 else ig p s k:=rfl
    rw[e];have ih:=C0 hr hl s k (by omega)
    by_cases c:s.mem k=true/\p.last.getD k false=true/\(ig p s k<0\/p.rules.getD k 0<ig p s k)
    · rw[if_pos c]
      refine .inr ⟨k,Nat.lt_succ_self k,c.1,c.2.1,rfl,Ld.1,Ld.2,fun i hi h1 h2=>?_⟩
      by_cases ei:i=k
      · subst ei;exact Int.le_refl _
      · rcases ih with⟨_,h⟩|⟨_,_,_,_,_,h0,_,h⟩
        · exact(h i (by omega) h1 h2).elim
        · have h7:=h i (by omega) h1 h2
          have h8:=c.2.2;omega
    · rw[if_neg c]
      rcases ih with⟨h0,h⟩|⟨i,hi,h1,h2,h3,h4,h5,h6⟩
      · refine .inl ⟨h0,fun i hi h1 h2=>?_⟩
        by_cases ei:i=k
        · subst ei;exact c ⟨h1,h2,.inl (by rw[h0];decide)⟩
        · exact h i (by omega) h1 h2
      · refine .inr ⟨i,by omega,h1,h2,h3,h4,h5,fun j hj g1 g2=>?_⟩
        by_cases ej:j=k
        · subst ej
          have h9:¬(ig p s j<0\/p.rules.getD j 0<ig p s j):=fun h=>c ⟨g1,g2,h⟩;omega
        · exact h6 j (by omega) g1 g2
theorem yO:∀(l:List Bool) (k:Nat),(dQ l k= -1/\∀i,i<l.length->l.getD i false=false)\/(∃i,i<l.length/\dQ l k=((k+i:Nat):Int)/\l.getD i false=true/\∀j,j<i->l.getD j false=false)
 |[],_=> .inl ⟨rfl,fun _ _=>rfl⟩
 |true::l,k=> .inr ⟨0,Nat.zero_lt_succ _,rfl,rfl,fun j hj=>absurd hj (Nat.not_lt_zero j)⟩
 | false::l,k=>by
  have e:dQ (false::l) (k:Int)=dQ l ((k+1:Nat):Int):=rfl;rw[e];rcases yO l (k+1)with⟨h1,h2⟩|⟨i,h1,h2,h3,h4⟩
  ·refine .inl ⟨h1,fun i hi=>?_⟩
   cases i with
   |zero=>rfl
   |succ i=>exact h2 i (by simpa using hi)
  ·refine .inr ⟨i+1,by simpa using h1,by rw[h2];congr 1;omega,h3,fun j hj=>?_⟩
   cases j with
   |zero=>rfl
   |succ j=>exact h4 j (by omega)
theorem Bq{l:List Bool}: -1<=dQ l 0/\dQ l 0<(l.length:Int):=by
 rcases yO l 0 with⟨h1,_⟩|⟨i,h1,h2,_⟩
 ·have h1:dQ l 0= -1:=h1
  rw[h1];omega
 ·have h2:dQ l 0=((0+i:Nat):Int):=h2
  rw[h2];omega
section
variable{es:List Re}{m:MS}{R:List Row}{d:DM}
theorem Tk(hm:Cv m)(hi:X5 m (dQ m.empty 0) (d.S.length+1) R d){k:Nat}(hk:k<d.S.length+1):d.tags.getD k 0=(if h:k=0 then dQ m.empty 0 else jQ.jo m.ps (d.S[k-1]'(by omega)))/\ -1<=d.tags.getD k 0/\d.tags.getD k 0<20:=by
 have h:=hi.tags;unfold mU at h;rw[h];have h20:=hm.Sv
 cases k with
 |zero=>
  have:=Bq (l:=m.empty);refine⟨rfl,this.1,?_⟩;have e:(dQ m.empty 0::d.S.map (jQ.jo m.ps)).getD 0 0=dQ m.empty 0:=rfl;rw[e];omega
 | succ k=>
  have hk:k<d.S.length:=by omega
  have e:(dQ m.empty 0::d.S.map (jQ.jo m.ps)).getD (k+1) 0=jQ.jo m.ps d.S[k]:=by
   rw[List.getD_cons_succ,List.getD_eq_getElem?_getD,List.getElem?_map,List.getElem?_eq_getElem hk];rfl
  rw[e];refine⟨rfl,?_⟩;unfold jQ.jo;rcases C0 hm.rules hm.ok.ps.rules d.S[k] m.ps.aJ.length (Nat.le_refl _)with⟨h1,_⟩|⟨_,_,_,_,_,h1,h2,_⟩
  ·rw[h1];omega
  ·omega
theorem PB(hm:Cv m)(hi:X5 m (dQ m.empty 0) (d.S.length+1) R d):iL R d.tags=0:=by
 have hl:=hi.len;have hf:=hi.Hx;refine CV ⟨?_,?_,fun q hq b hb=>?_,fun q hq=>?_⟩ ?_
 ·show 0<R.length;omega
 ·show R.length<=200;omega
 ·have hq:q<R.length:=hq
  show-1<=(R.getD q qi).toList.getD b 0/\(R.getD q qi).toList.getD b 0<(R.length:Int)
  rw[PA R q b hb,(hi.cell q (by omega) b hb).1];unfold Fs
  by_cases c:Cy m.ps (jV m d.S q) b=C4.zero
  ·rw[if_pos c];omega
  ·rw[if_neg c]
   have:=iX ((hi.cell q (by omega) b hb).2.resolve_left c);omega
 ·have hq:q<R.length:=hq
  exact(Tk hm hi (by omega)).2
 ·have h:=hi.tags
  unfold mU at h;rw[h,hl,List.length_cons,List.length_map]
end
end jQ
namespace bK
open Go.RowKit bO dc
section
variable{α:Type}{s:sC α}{F:Nat->Prop}{vs:List Value}{S:List (List α)}{W:bC}{L:List bI}{w:World}
theorem Br(h:(dz (bD s) F (vs.map fun v=>[v]) S).holds w):vs.length=S.length:=by have:=h.1.1;rwa [List.length_map]at this
theorem Ie(h:(dz (bD s) F (vs.map fun v=>[v]) S).holds w){q:Nat}(hq:q<S.length){v:Value}(hv:vs[q]?=some v):iB s F w v S[q]:=by
 have hnv:q<vs.length:=(List.getElem?_eq_some_iff.1 hv).1;obtain⟨v',e,hs⟩:=h.1.2 q hq (by rw[List.length_map];exact hnv);rw[List.getElem_map]at e;have h2:=(List.getElem?_eq_some_iff.1 hv).2;rw[h2]at e;rw[(List.cons.inj e).1];exact hs
theorem PC(h:(dz (bD s) F (vs.map fun v=>[v]) S).holds w){q:Nat}(hq:q<S.length){v:Value}(hv:vs[q]?=some v):∃base cap,v= .slice base S[q].length cap/\S[q].length<=cap/\cap<=9223372036854775807/\(0<S[q].length->∃b off,base=some ⟨b,off,none⟩):=by
 obtain⟨base,cap,e,h1,h2,h3⟩:=Ie h hq hv;exact⟨base,cap,e,h1,by unfold maxLen at h2;omega,fun hn=>let ⟨b,off,h4,_⟩:=h3 hn;⟨b,off,h4⟩⟩
theorem If{f:α->List Value}{c:Nat}{hc:∀a,(f a).length=c}{p:α->Prop}(DG:0<c){i:Nat}(hi:L[i]?=some (dz (bD (sQ f c hc p)) F (vs.map fun v=>[v]) S)){q:Nat}(hq:q<S.length){v:Value}(hv:vs[q]?=some v):RP W L v S[q].length (S[q].flatMap f):=fun _ hm=>
 iB.flat DG (Ie (hm.get hi) hq hv)
end
end bK
namespace bK
open Go.RowKit bO dc aB dy cL aY bT
def yP(c:aY.Item->Nat)(x:aY.Item):Value:= .int .i64 (c x:Int)
def uC(c:aY.Item->Nat)(it:aY.Item)(x:aY.Item):Nat:=if x=it then c x+1 else c x
structure ny(c:aY.Item->Nat)(out:List aY.Item)(b:Nat):Prop where
 zero:∀x,c x=0↔x∉out
 le:∀x,c x<=b
theorem ny.put{c:aY.Item->Nat}{out:List aY.Item}{b:Nat}(h:ny c out b)(it:aY.Item):ny (uC c it) (more out it) (b+2):=by
 refine⟨fun x=>?_,fun x=>?_⟩
 ·unfold uC
  by_cases e:x=it
  ·subst e
   rw[if_pos rfl]
   constructor
   ·intro h;omega
   ·intro h;exact absurd (pI.2 (.inr rfl)) h
  ·rw[if_neg e,h.zero x]
   rw[pI]
   constructor
   ·intro h1 h2;exact h2.elim h1 e
   ·intro h1 h2;exact h1 (.inl h2)
 ·unfold uC
  have:=h.le x;split<;>omega
def Ag(g5 gm g6 b:Nat)(v:Value)(c:aY.Item->Nat)(out:List aY.Item):List bI:=
 [aw g5 #[.map (some gm)] 316,lu CN gm (.int .i64 0) (yP c) b,aw g6 #[v] 273,aM 278 3 v out.length (out.flatMap fG)]
theorem Tl(x:aY.Item):∀u∈fG x,u.oneCell'=true:=by
 intro u hu;simp only[fG,List.mem_cons,List.not_mem_nil,or_false]at hu;rcases hu with rfl|rfl|rfl<;>rfl
theorem Fu(g5 gm g6 b:Nat)(v:Value)(c:aY.Item->Nat)(out:List aY.Item)(it:aY.Item)(hit:CN.ok it)(hp:ny c out b)(hb:b+2<=1152921504606846976)(ho:out.length+1<=1000000)(w:World)(B:bC)(hm:Mem B (Ag g5 gm g6 b v c out) w):
 Calls Tryz.prog 157 #[.agg (fG it).toArray,.pointer (some ⟨g5,0,none⟩),.pointer (some ⟨g6,0,none⟩)] w (c_ ⟨fun _=>True,fun _=> .tuple #[],fun v'=>Ag g5 gm g6 (b+2) v' (uC c it) (more out it)⟩ B):=by
 unfold Ag at hm;have hle:=hp.le it;have hz:=hp.zero it;obtain⟨n,hn⟩:∃n,c it=n:=⟨_,rfl⟩;obtain⟨F,hF⟩:∃F,yP c=F:=⟨_,rfl⟩;obtain⟨F',hF'⟩:∃F',yP (uC c it)=F':=⟨_,rfl⟩;have hcv:F it= .int .i64 (n:Int):=by rw[<-hF,<-hn];rfl
 have hF1:F' it= .int .i64 ((n+1:Nat):Int):=by rw[<-hF',<-hn];show Value.int .i64 ((uC c it it:Nat):Int)=_;unfold uC;rw[if_pos rfl]
 have qO:∀y,CN.ok y->F' y=if y=it then .int .i64 ((n+1:Nat):Int)else F y:=fun y _=>by
  rw[<-hF',<-hF,<-hn];show Value.int .i64 ((uC c it y:Nat):Int)=if y=it then _ else Value.int .i64 ((c y:Nat):Int)
  unfold uC
  by_cases e:y=it
  ·subst e;rw[if_pos rfl,if_pos rfl]
  ·rw[if_neg e,if_neg e]
 rw[hF]at hm;rw[hn]at hle hz;clear hp;refine dC hm (args:=[.agg (fG it).toArray,.pointer (some ⟨g5,0,none⟩),.pointer (some ⟨g6,0,none⟩)]) (n:=18) Tryz.func157 rfl rfl rfl ?_;refine a8 (aL (a_ rfl rfl rfl fun g3=>?_));refine zL ?_
 try refine GA ?_
 (repeat refine a8 ?_)
 refine iW (ι:=Unit) (fun _=>True) (fun _=>[(1,.pointer (some ⟨g5,0,none⟩)),(2,.pointer (some ⟨g6,0,none⟩)),(3,.pointer (some ⟨g3,0,none⟩))]) (fun _=>[aw g5 #[.map (some gm)] 316,lu CN gm (.int .i64 0) F' (b+1+1),aw g6 #[v] 273,aM 278 3 v out.length (out.flatMap fG),aw g3 (fG it).toArray 278]) ?_ ?_
 ·refine cU ([aw g5 #[.map (some gm)] 316,aw g3 (fG it).toArray 278]) (.calm 0 (.calm 1 (.two 2 (.calm 3 (.one 4 (.calm 5 (.one 6 (.done))))) 4 (.calm 5 (.one 2 (.calm 3 (.one 6 (.done)))))))) (bz [0,4]) ?_
  repeat(first|refine GW ?_|(refine GN ?_;first|refine QW (J (v:= .map (some gm)) ak.ty rfl (ah (i:=0) rfl rfl)) ?_|refine QW (az (i:=1) ak.ty rfl rfl rfl) ?_))
  refine dE rfl rfl ?_ ?_
  ·refine aV (xI CN aT.eq kI (i:=1) rfl rfl (x:=it) rfl hit hcv) rfl rfl rfl (av (bz [0,4]) ?_)
   repeat(first|(refine GN ?_;first|refine QW QP ?_|refine QW (cB (r:=((n+1:Nat):Int)) rfl rfl (by omega) (by omega) (by omega)) ?_|refine GX ?_)|refine GW ?_)
   refine ap rfl (EX CN aT.eq kI (i:=1) rfl rfl (x:=it) rfl hit (by omega) rfl fun st=>av (bz [0,4]) ?_)
   try refine GW ?_
   refine ap rfl (A' CN F' aT.eq (i:=1) rfl rfl rfl rfl hit (by omega) qO (av (bz [0,4]) ?_))
   try refine GW ?_
   exact dm () trivial (by repeat' (first|exact True.intro|refine And.intro rfl ?_)) rfl
  ·refine EX CN aT.eq kI (i:=1) rfl rfl (x:=it) rfl hit (by omega) rfl fun st=>av (bz [0,4]) ?_
   try refine GW ?_
   refine ap rfl (aV (O_ CN aT.eq kI (i:=1) rfl rfl (x:=it) rfl hit hcv) rfl rfl rfl (av (bz [0,4]) ?_))
   repeat(first|(refine GN ?_;first|refine QW QP ?_|refine QW (cB (r:=((n+1:Nat):Int)) rfl rfl (by omega) (by omega) (by omega)) ?_|refine GX ?_)|refine GW ?_)
   refine ap rfl (A' CN F' aT.eq (i:=1) rfl rfl rfl rfl hit (by omega) qO (av (bz [0,4]) ?_))
   try refine GW ?_
   exact dm () trivial (by repeat' (first|exact True.intro|refine And.intro rfl ?_)) rfl
 rintro⟨⟩ _
 by_cases c1:it∈out
 ·have Sf:more out it=out:=if_pos c1
  rw[Sf];have X0:n≠0:=fun e=>hz.1 e c1;clear qO hcv
  repeat(first|refine GC ?_|refine gV (J (v:= .map (some gm)) ak.ty rfl (ah (i:=0) rfl rfl)) ?_|refine gV (az (i:=4) ak.ty rfl rfl rfl) ?_|refine gV (xI CN aT.eq kI (i:=1) rfl rfl (x:=it) rfl hit hF1) ?_|refine gV (bL (b:=false) rfl rfl (decide_eq_false (by omega))) ?_|refine GB ?_)
  exact xG rfl fun w hm=>hm.bP (S:=⟨fun(_:Value)=>True,fun _=> .tuple #[],fun v'=>Ag g5 gm g6 (b+2) v' (uC c it) out⟩) v trivial [0,1,2,3] (by decide) (by unfold Ag;rw[<-hF'];rfl)
 ·have Sf:more out it=out++[it]:=if_neg c1
  rw[Sf];have X0:n=0:=hz.2 c1;clear qO hcv
  repeat(first|refine GC ?_|refine gV (J (v:= .map (some gm)) ak.ty rfl (ah (i:=0) rfl rfl)) ?_|refine gV (az (i:=4) ak.ty rfl rfl rfl) ?_|refine gV (xI CN aT.eq kI (i:=1) rfl rfl (x:=it) rfl hit hF1) ?_|refine gV (bL (b:=true) rfl rfl (decide_eq_true (by omega))) ?_|refine gV (J (v:=v) ak.ty rfl (ah (i:=2) rfl rfl)) ?_|refine GB ?_)
  refine dT (cs:=(fG it).toArray) [.agg (fG it).toArray] rfl rfl rfl (by intro v hv;simp only[List.mem_cons,List.not_mem_nil,or_false]at hv;subst hv;rfl) rfl rfl rfl fun g16=>?_;refine zL ?_;refine dw (i:=3) (e:=278) (size:=3) (bytes:=24) (m:=out.length) (xs:=out.flatMap fG) (k:=1) (ys:=fG it) rfl (iA (i:=5) rfl (fun j u h=>by simpa using h) (Nat.le_refl 1) (by decide)) rfl rfl rfl (Tl it) (by omega) (by omega) rfl fun v'=>?_;refine zL ?_;refine aD (i:=3) rfl fun gB jM=>?_;refine aW (i:=2) rfl rfl rfl gB jM rfl ?_;refine zL ?_
  try refine GA ?_
  exact xG rfl fun w hm=>hm.bP (S:=⟨fun(_:Value)=>True,fun _=> .tuple #[],fun v'=>Ag g5 gm g6 (b+2) v' (uC c it) (out++[it])⟩) v' trivial [0,1,2,3] (by decide) (by unfold Ag;rw[<-hF',List.flatMap_append,List.length_append];rfl)
end bK
namespace bK
open Go.Shelf
def Ig:Go.Shelf.Ren:=⟨fun|6=>160|15=>176|14=>177|28=>197|29=>198|20=>199|21=>200|22=>201|23=>202|24=>203|25=>204|26=>205|27=>206|46=>215|47=>211|48=>212|49=>216|50=>217|57=>219|n=>n,fun|22=>273|24=>278|25=>321|3=>3|39=>281|0=>0|53=>360|55=>114|4=>4|46=>354|45=>353|50=>178|5=>5|9=>9|66=>369|70=>149|76=>376|77=>377|n=>n,fun|n=>n⟩
theorem PD:Go.Proofs.SlLaysF0.n6 Tryz.prog Ig:={
 mixed:=by kernel_rfl
 f6:=⟨Tryz.f160.name,by decide,Tryz.func160.trans (congrArg some (by kernel_rfl))⟩
 f14:=⟨Tryz.f177.name,by decide,Tryz.func177.trans (congrArg some (by kernel_rfl))⟩
 f15:=Tryz.func176.trans (congrArg some (by kernel_rfl))
 f20:=⟨Tryz.f199.name,by decide,Tryz.func199.trans (congrArg some (by kernel_rfl))⟩
 f21:=⟨Tryz.f200.name,by decide,Tryz.func200.trans (congrArg some (by kernel_rfl))⟩
 f22:=⟨Tryz.f201.name,by decide,Tryz.func201.trans (congrArg some (by kernel_rfl))⟩
 f23:=⟨Tryz.f202.name,by decide,Tryz.func202.trans (congrArg some (by kernel_rfl))⟩
 f24:=⟨Tryz.f203.name,by decide,Tryz.func203.trans (congrArg some (by kernel_rfl))⟩
 f25:=⟨Tryz.f204.name,by decide,Tryz.func204.trans (congrArg some (by kernel_rfl))⟩
 f26:=⟨Tryz.f205.name,by decide,Tryz.func205.trans (congrArg some (by kernel_rfl))⟩
 f27:=⟨Tryz.f206.name,by decide,Tryz.func206.trans (congrArg some (by kernel_rfl))⟩
 f28:=Tryz.func197.trans (congrArg some (by kernel_rfl))
 f29:=Tryz.func198.trans (congrArg some (by kernel_rfl))
 f46:=⟨Tryz.f215.name,by decide,Tryz.func215.trans (congrArg some (by kernel_rfl))⟩
 f47:=Tryz.func211.trans (congrArg some (by kernel_rfl))
 f48:=Tryz.func212.trans (congrArg some (by kernel_rfl))
 f49:=⟨Tryz.f216.name,by decide,Tryz.func216.trans (congrArg some (by kernel_rfl))⟩
 f50:=⟨Tryz.f217.name,by decide,Tryz.func217.trans (congrArg some (by kernel_rfl))⟩
 f57:=⟨Tryz.f219.name,by decide,Tryz.func219.trans (congrArg some (by kernel_rfl))⟩
 t0:=Tryz.underlying0
 a0:=Tryz.isAgg0
 z0:=Tryz.sizeOf0
 v0:=Tryz.zeroValue0
 t3:=Tryz.underlying3
 a3:=Tryz.isAgg3
 z3:=Tryz.sizeOf3
 v3:=Tryz.zeroValue3
 t4:=Tryz.underlying4
 a4:=Tryz.isAgg4
 z4:=Tryz.sizeOf4
 v4:=Tryz.zeroValue4
 t5:=Tryz.underlying5
 a5:=Tryz.isAgg5
 z5:=Tryz.sizeOf5
 v5:=Tryz.zeroValue5
 t9:=Tryz.underlying9
 a9:=Tryz.isAgg9
 z9:=Tryz.sizeOf9
 v9:=Tryz.zeroValue9
 t22:=Tryz.underlying273
 a22:=Tryz.isAgg273
 z22:=Tryz.sizeOf273
 v22:=Tryz.zeroValue273
 t25:=Tryz.underlying321
 a25:=Tryz.isAgg321
 z25:=Tryz.sizeOf321
 v25:=Tryz.zeroValue321
 t39:=Tryz.underlying281
 a39:=Tryz.isAgg281
 z39:=Tryz.sizeOf281
 v39:=Tryz.zeroValue281
 t45:=Tryz.underlying353
 a45:=Tryz.isAgg353
 z45:=Tryz.sizeOf353
 v45:=Tryz.zeroValue353
 t46:=Tryz.underlying354
 a46:=Tryz.isAgg354
 z46:=Tryz.sizeOf354
 v46:=Tryz.zeroValue354
 t50:=Tryz.underlying178
 a50:=Tryz.isAgg178
 z50:=Tryz.sizeOf178
 v50:=Tryz.zeroValue178
 t53:=Tryz.underlying360
 a53:=Tryz.isAgg360
 z53:=Tryz.sizeOf360
 v53:=Tryz.zeroValue360
 t55:=Tryz.underlying114
 a55:=Tryz.isAgg114
 z55:=Tryz.sizeOf114
 v55:=Tryz.zeroValue114
 t66:=Tryz.underlying369
 a66:=Tryz.isAgg369
 z66:=Tryz.sizeOf369
 v66:=Tryz.zeroValue369
 t70:=Tryz.underlying149
 a70:=Tryz.isAgg149
 z70:=Tryz.sizeOf149
 v70:=Tryz.zeroValue149
 t76:=Tryz.underlying376
 a76:=Tryz.isAgg376
 z76:=Tryz.sizeOf376
 v76:=Tryz.zeroValue376
 t77:=Tryz.underlying377
 a77:=Tryz.isAgg377
 z77:=Tryz.sizeOf377
 v77:=Tryz.zeroValue377}
end bK
end Go.Proofs.YtdmgcnggnejnnaaGreat

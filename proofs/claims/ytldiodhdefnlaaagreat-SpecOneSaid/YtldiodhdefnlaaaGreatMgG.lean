/- Part 7 of what SpecOne needs: SpecOneW. -/
import Derived.Test.YtldiodhdefnlaaaGreatMgF
namespace Go.Proofs.YtldiodhdefnlaaaGreat
set_option linter.unusedVariables false
set_option linter.unusedSimpArgs false
set_option maxHeartbeats 16000000
namespace specOne
open Go.RowKit bL db bH bO d_ iK av bT dj BS
theorem QQ:∀r∈lS.rules,r.2.length<=8796093021952:=by
 intro r hr;have:r∈N1:=hr;simp only[N1,List.mem_cons,List.not_mem_nil,or_false]at this;rcases this with rfl|rfl|rfl<;>exact Nat.le_trans (Nat.le_of_ble_eq_true rfl:_<=10) (by omega)
theorem Am{s:Sp}{word:List Int}(hG:bM (aZ s)=0)(h:(pa (aZ s)).length=0\/((ff (aZ s)).2.2.2=0/\(ff (aZ s)).2.2.1.length=0))(hc:gd (aZ s) word=0):jX (aZ s) word<=1:=by
 obtain⟨a1,a2,a3,a4,a5,a6⟩:=bI hG;rcases h with h|⟨h1,h2⟩
 ·exact TT (T:=(aZ s).aJ.toNat) (N:=(aZ s).aR.toNat) (by omega) (by omega) (by unfold NM;exact decide_eq_true h) hc
 ·exact QF (by unfold xL;rw[h1,h2];rfl) hc
set_option maxRecDepth 100000 in
theorem walk(w:World)(v:Value)(s:Sp)(hv:M7 (mU w) w v s)(hb:∀r∈s.rules,r.2.length*16<=140737488351232)(vw:Value)(word:List Int)(hs:Sl w vw word.length (word.map (.int .i64)))(_:∀n∈word,bL.bX n)(hl:word.length*8<=140737488351232):
 Calls Tryz.prog 3 #[v,vw] w (bU (ret (.bool true)) w):=by
 obtain⟨r,hx⟩:=TJ s;have xZ:=fun w' (hg:Gr w w')=>sj v s r hx w' (hv.gr hg) (fun r h=>by have:=hb r h;omega);obtain⟨r0,XM,S_⟩:=Uh;have Ui:=fun v' w' h=>sj v' lS r0 XM w' h QQ;have XY:jA lS r0=GJ lS r0.2.1 r0.2.2:=by unfold jA;rw[S_,Uf];rfl
 rw[XY]at Ui;have R5:=N3;clear XM S_ XY;obtain⟨e0,R0,T0⟩:=r0;have Xq:=fun w'=>GS w';have Uj:=fun w' x h1 h2 h3 h4=>QM (w:=w') (a:=dx 97 97) (s:=dx 32 32) (x:=x) h1 h2 h3 h4;have TC:lS=⟨Ue (dx 97 97) (dx 32 32),N1⟩:=rfl;rw[<-TC]at Uj;clear TC;generalize dx 97 97=ca at*;generalize dx 32 32=cs at*;generalize lS=l0 at*;obtain⟨vw0,vr0,rfl,hw,hr⟩:=hv;obtain⟨bw,cw,rfl,-⟩:=hw;obtain⟨br,cr,rfl,-⟩:=hr;clear hb;have hsz:Ab.toArray.size=266:=hY fu rfl;have o8:Ab.toArray.toList.all Value.oneCell'=true:=qK rfl Ig rfl;refine enter (args:=[.agg #[.slice bw s.words.length cw,.slice br s.rules.length cr],vw]) (n:=57) Tryz.func3 rfl rfl rfl ?_;refine bJ (aV (bK rfl rfl rfl fun g2=>?_));refine zL ?_
 try refine GA ?_
 refine aM (he0 aj.en rfl) (fun w hm=>Xq w) rfl rfl rfl ?_;rintro⟨q1,q2,q3,q4⟩ _
 conv=>arg 8;simp only[zJ,bW,ret,id_eq,QJ]
 conv=>arg 7;simp only[QJ]
 refine aM (iT aj.en rfl rfl) (fun w' hm=>Ui _ w' (Uj w' ⟨q1,q2,q3,q4⟩ (hm.get (i:=1) rfl) (hm.get (i:=2) rfl) (hm.get (i:=3) rfl) (hm.get (i:=4) rfl))) rfl rfl rfl ?_;rintro⟨vo,vp,F,gP,qN,vT,gR,tj,tx⟩ ⟨k1,k2,k3⟩;dsimp only at k1 k2 k3;have kU:=GM ⟨vo,vp,F,gP,qN,vT,gR,tj,tx⟩ R0;have H6:=GO (x:=⟨vo,vp,F,gP,qN,vT,gR,tj,tx⟩) k3 R0;unfold GJ
 conv=>arg 7;simp only[pQ.WX]
 generalize pQ.pk ⟨vo,vp,F,gP,qN,vT,gR,tj,tx⟩ R0=PK at*;refine Cj [0] ?_
 try refine GA ?_
 refine aF rfl fun g5=>?_;rw[nw];refine zL ?_;refine aD (i:=1) (cs':=(lu vo PK (sq (aZ l0).aJ (aZ l0).aR vp 1 (.slice (some ⟨gR,0,none⟩) (aZ l0).aR.toNat (aZ l0).aR.toNat) (.slice none 0 0) (.slice none 0 0))).toArray) rfl rfl rfl (hY kU rfl) (qK k1 H6 (by simp only[sq,List.all_cons,List.all_nil,k2];rfl)) hsz ?_;refine zL ?_;rw[R5]
 repeat(first|refine GA ?_|refine gV (J (v:= .int .i64 1) ak.ty rfl (ah (i:=1) rfl (iL 3 kU rfl rfl))) ?_|refine gV (J (v:= .int .i64 2) ak.ty rfl (ah (i:=1) rfl (iL 1 kU rfl rfl))) ?_)
 refine Cj [0] ?_;clear Ui Xq Uj kU H6 k1 k2 k3 R5
 repeat(first|refine GA ?_|refine gV (aE (i:=0) ak.ty rfl rfl rfl) ?_)
 by_cases c0:(GI s r.1).1≠0
 ·have hS:jA s r=nI (GI s r.1).1:=by unfold jA;rw[if_pos c0]
  rw[hS]at xZ;refine aM (iT aj.en rfl rfl) (fun w hm=>xZ _ hm.below) rfl rfl rfl ?_;intro _ _;unfold nI;refine zL ?_
  try refine GA ?_
  refine aF rfl fun g7=>?_;rw[nw];refine zL ?_;refine aD (i:=1) (cs':=Ab.toArray) rfl rfl rfl hsz o8 hsz ?_;refine zL ?_
  repeat(first|refine GC ?_|refine gV (cB (b:=true) rfl rfl (decide_eq_true c0)) ?_|refine gV (J (v:= .int .i64 0) ak.ty rfl (ah (i:=1) rfl (iL 3 fu rfl rfl))) ?_|refine GB ?_)
  exact da
 have hS:jA s r=if(GI s r.1).2=1 then GJ s r.2.1 r.2.2 else NI s r.2.1 r.2.2:=by unfold jA;rw[if_neg c0]
 obtain⟨h1,h2,h3,h4⟩:=NU (s:=s) (e:=r.1) (m:=(GI s r.1).2) (by rw[<-Decidable.of_not_not c0]);obtain⟨hG,TR⟩:=xK hx h1;obtain⟨aaS,-⟩:=BR hx h1;clear c0 h2 h3;obtain⟨e,R,T⟩:=r;dsimp only at*;rcases h4 with⟨c4,hm⟩|⟨c4,c5,c6,hm⟩
 ·rw[hm,if_pos rfl]at hS
  rw[hS]at xZ;have HG:=QH hx h1;have yo:=Am (word:=word) hG (.inl c4);clear hS hm hx;unfold GJ pQ.lex pQ.rows at xZ;refine aM (iT aj.en rfl rfl) (fun w hm=>xZ _ hm.below) rfl rfl rfl ?_;rintro⟨vo,vp,F,gP,qN,vT,gR,tj,tx⟩ ⟨k1,k2,k3⟩;dsimp only at k1 k2 k3;have kU:=GM ⟨vo,vp,F,gP,qN,vT,gR,tj,tx⟩ R;have H6:=GO (x:=⟨vo,vp,F,gP,qN,vT,gR,tj,tx⟩) k3 R;have hcs:pQ.WX ⟨vo,vp,F,gP,qN,vT,gR,tj,tx⟩ (aZ s) R=(lu vo (pQ.pk ⟨vo,vp,F,gP,qN,vT,gR,tj,tx⟩ R) (sq (aZ s).aJ (aZ s).aR vp 1 (.slice (some ⟨gR,0,none⟩) (aZ s).aR.toNat (aZ s).aR.toNat) (.slice none 0 0) (.slice none 0 0))).toArray:=rfl;refine zL ?_
  try refine GA ?_
  refine aF rfl fun g7=>?_;rw[nw];refine zL ?_;refine aD (i:=8) (cs':=pQ.WX ⟨vo,vp,F,gP,qN,vT,gR,tj,tx⟩ (aZ s) R) rfl rfl rfl (hY kU rfl) (qK k1 H6 (by simp only[sq,List.all_cons,List.all_nil,k2];rfl)) hsz ?_;refine zL ?_
  repeat(first|refine GC ?_|refine gV (cB (b:=false) rfl rfl (decide_eq_false (by simp))) ?_|refine gV (aK (cs:=[.int .i64 (aZ s).aJ,.int .i64 (aZ s).aR,vp]) ak.ty rfl rfl (fun j v h=>ah (i:=8) rfl (by rw[hcs];exact ko kU h))) ?_|refine GB ?_)
  refine aM (fh aj.en rfl rfl rfl) (fun w' hm=>t_ _ vw (aZ s) word w' (BQ (x:=⟨vo,vp,F,gP,qN,vT,gR,tj,tx⟩) hG (hm.get (i:=2) rfl)) (hs.gr hm.below)) rfl rfl rfl ?_;intro _ _;refine zL ?_
  repeat(first|refine GA ?_|refine gV (aE (i:=8) ak.ty rfl rfl (hY kU rfl)) ?_)
  refine aM (iT aj.en rfl rfl) (fun w' hm=>sn _ (Ua s R T) w' (Uc (x:=⟨vo,vp,F,gP,qN,vT,gR,tj,tx⟩) (i0:=1) (i1:=2) (i2:=3) (i3:=4) (i4:=5) (i5:=6) (i6:=7) hm (by omega) TR hG rfl rfl rfl rfl rfl rfl rfl) HG) rfl rfl rfl ?_;intro _ _;refine zL ?_
  by_cases d:gd (aZ s) word=0
  ·have yo:=yo d
   rw[d];generalize jX (aZ s) word=tn at*
   try refine GA ?_
   exact da
  ·generalize gd (aZ s) word=ec at*
   try refine GA ?_
   exact da
 ·rw[hm,if_neg (by decide)]at hS
  rw[hS]at xZ;have HG:=QI hx h1 c5;have yo:=Am (word:=word) hG (.inr ⟨c5,c6⟩);clear hS hm hx;unfold NI pQ.lex Kh at xZ;refine aM (iT aj.en rfl rfl) (fun w hm=>xZ _ hm.below) rfl rfl rfl ?_;rintro⟨vo,vp,F,gP,qN,vT,gR,tj,⟨vA,pO,FA,vG,pP,FG⟩⟩ ⟨⟨k1,k2,k3⟩,b1,b2⟩;dsimp only at b1 b2;dsimp only at k1 k2 k3;have kU:=GM ⟨vo,vp,F,gP,qN,vT,gR,tj,⟨vA,pO,FA,vG,pP,FG⟩⟩ R;have H6:=GO (x:=⟨vo,vp,F,gP,qN,vT,gR,tj,⟨vA,pO,FA,vG,pP,FG⟩⟩) k3 R;have hcs:pQ.XZ ⟨vo,vp,F,gP,qN,vT,gR,tj,⟨vA,pO,FA,vG,pP,FG⟩⟩ (aZ s) R=(lu vo (pQ.pk ⟨vo,vp,F,gP,qN,vT,gR,tj,⟨vA,pO,FA,vG,pP,FG⟩⟩ R) (sq (aZ s).aJ (aZ s).aR vp 2 (.slice none 0 0) vA vG)).toArray:=rfl;refine zL ?_
  try refine GA ?_
  refine aF rfl fun g7=>?_;rw[nw];refine zL ?_;refine aD (i:=10) (cs':=pQ.XZ ⟨vo,vp,F,gP,qN,vT,gR,tj,⟨vA,pO,FA,vG,pP,FG⟩⟩ (aZ s) R) rfl rfl rfl (hY kU rfl) (qK k1 H6 (by simp only[sq,List.all_cons,List.all_nil,k2,b1,b2];rfl)) hsz ?_;refine zL ?_
  repeat(first|refine GC ?_|refine gV (cB (b:=false) rfl rfl (decide_eq_false (by simp))) ?_|refine gV (aK (cs:=[.int .i64 (aZ s).aJ,.int .i64 (aZ s).aR,vp]) ak.ty rfl rfl (fun j v h=>ah (i:=10) rfl (by rw[hcs];exact ko kU h))) ?_|refine GB ?_)
  refine aM (fh aj.en rfl rfl rfl) (fun w' hm=>t_ _ vw (aZ s) word w' (BQ (x:=⟨vo,vp,F,gP,qN,vT,gR,tj,⟨vA,pO,FA,vG,pP,FG⟩⟩) hG (hm.get (i:=2) rfl)) (hs.gr hm.below)) rfl rfl rfl ?_;intro _ _;refine zL ?_
  repeat(first|refine GA ?_|refine gV (aE (i:=10) ak.ty rfl rfl (hY kU rfl)) ?_)
  refine aM (iT aj.en rfl rfl) (fun w' hm=>sn _ (Ub s R T) w' (Ud (x:=⟨vo,vp,F,gP,qN,vT,gR,tj,⟨vA,pO,FA,vG,pP,FG⟩⟩) (i0:=1) (i1:=2) (i2:=3) (i3:=4) (i4:=5) (i5:=6) (i6:=7) (i7:=8) (i8:=9) hm (by omega) TR hG rfl rfl rfl rfl rfl rfl rfl rfl rfl) HG) rfl rfl rfl ?_;intro _ _;refine zL ?_
  by_cases d:gd (aZ s) word=0
  ·have yo:=yo d
   rw[d];generalize jX (aZ s) word=tn at*
   try refine GA ?_
   exact da
  ·generalize gd (aZ s) word=ec at*
   try refine GA ?_
   exact da
end specOne
end Go.Proofs.YtldiodhdefnlaaaGreat

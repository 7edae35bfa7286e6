/- Part 6 of what WholeFront needs: LlM, LrA, LrK, BeginL, SpecU, LlC, LrC, SmUp, SmCk, SpecRt, SpecH, ClimbA, TdS, ClimbB, ClimbC, ClimbD, ClimbE, LexL, LexA. -/
import Derived.Test.YtdmgcnggnejnnaaGreatMgE
namespace Go.Proofs.YtdmgcnggnejnnaaGreat
set_option linter.unusedVariables false
set_option linter.unusedSimpArgs false
set_option maxHeartbeats 16000000
namespace bK
open Go.RowKit bO dc aB dy eo cL rX wk
attribute [local irreducible] Op.shift Go.bits in
theorem MD(t:Nat)(n:Int)(vp:Value)(col:Nat)(w:World)(ht:t<=30)(hc:col<=t)(hv:∃b m c,vp= .slice b m c):
 Calls Tryz.prog 85 #[cO (t:Int) n vp,.int .i64 (col:Int)] w (bM (ret (eV (Ht t col))) w):=by
 obtain⟨b,m,c,rfl⟩:=hv;have Sb:=fun w=>SP (P:=Tryz.prog) col (by omega) w;unfold Ht;refine enter (args:=[cO (t:Int) n (.slice b m c),.int .i64 (col:Int)]) (n:=11) Tryz.func85 rfl rfl rfl ?_;refine a8 (aL (a_ rfl rfl rfl fun g2=>?_))
 by_cases e:col=t
 ·rw[if_pos e]
  repeat(first|refine GA ?_|refine gV (J ak.ty rfl (ah (i:=0) rfl rfl)) ?_)
  exact db
 ·rw[if_neg e]
  repeat(first|refine GA ?_|refine gV (J ak.ty rfl (ah (i:=0) rfl rfl)) ?_|refine gV (xu rfl rfl Sb) ?_)
  exact db
def Yb(x:Cl):List Value:=[.int .i64 x.1,.int .i64 x.2.1,.int .i64 x.2.2.1,.int .i64 x.2.2.2]
theorem Qd(a b c d:Int)(w:World):(Instr.build 200 #[(0,.int .i64 a),(1,.int .i64 b),(2,.int .i64 c),(3,.int .i64 d)]).run Tryz.prog w= .ok (.agg (Yb (a,b,c,d)).toArray) w:=by
 unfold Yb;go_simp
abbrev qu(v:Value):Value:=v
def Xh(n:Int):Value:= .int .i64 n
def ww(T n c j:Nat):Nat:=if j<n then T+1 else if j=n then c else 0
def jY(l:List aB.Prod)(may:Nat->Nat)(T:Nat)(vs:Nat->Value)(n c:Nat)(j:Nat):bI:=aM 3 1 (vs j) (ww T n c j) ((iY (ww T n c j) (wk.rowAt l may T j)).map Xh)
def Qf(N T:Nat)(l:List aB.Prod)(may:Nat->Nat):Spec (Nat×(Nat->Value)×Value):=
 ⟨fun _=>True,fun x=> .tuple #[.slice (some ⟨x.1,0,none⟩) N N,x.2.2,.int .i64 0],fun x=>[dU 26 qu x.1 N x.2.1,fS (fun j=>j<N) (jY l may T x.2.1 N 0),aM 200 4 x.2.2 (jE l may T N).length ((jE l may T N).flatMap Yb)]⟩
def uG(n:Nat)(l:List aB.Prod)(i:Nat):Nat:=eA (q9 n l).E (GO n l) (bU l (i:Int)).2 ((GP n l).getD (bU l (i:Int)).1.toNat 0)
section
variable{l:List aB.Prod}{may:Nat->Nat}{T:Nat}
theorem y_(n col:Nat):∀(k:Nat) (out:List Cl),(rZ l may T n col k out).length<=out.length+k
  |0,out=>by rw[rZ];omega
  | k +1,out=>by
    have:=y_ n col k out;rw[rZ];split
    · split
      · omega
      · rw[List.length_append];simp;omega
    · omega
theorem y'(n:Nat):∀(c:Nat) (out:List Cl),(wl l may T n c out).length<=out.length+c*l.length
 |0,out=>by rw[wl];omega
 |c+1,out=>by
  have h1:=y' n c out;have h2:=y_ (l:=l) (may:=may) (T:=T) n c l.length (wl l may T n c out);rw[wl,Nat.succ_mul];omega
theorem FU:∀(N:Nat),(jE l may T N).length<=N*((T+1)*l.length)
 |0=>by rw[jE];simp
 |N+1=>by
  have h1:=FU N;have h2:=y' (l:=l) (may:=may) (T:=T) N (T+1) (jE l may T N);rw[jE,Nat.succ_mul];omega
end
theorem Qg{g:dr}{n:Nat}(gd:cz g=0)(hn:g.aU=n):tU n (GP n g.ag):=by
 obtain⟨_,_,a3,_⟩:=bV gd;have hf:=tb gd hn;have hF:=(CJ gd hn).2;have zZ:=OL (E:=(q9 n g.ag).E) hF hf;obtain⟨s',h1,h2,h3⟩:=ta zZ _ ((List.replicate n 0).set 0 9223372036854775808) ⟨by simp,fun x hx=>by
  rcases List.mem_or_eq_of_mem_set hx with h|h
  ·rw[List.eq_of_mem_replicate h];decide
  ·rw[h];decide⟩ (Nat.le_refl _)
 obtain⟨_,h4,h5⟩:=uZ _ _ _ h2;have h6:GP n g.ag=s':=by unfold GP rm;rw[h3];exact h4
 rw[h6];exact h1
attribute [local irreducible] Op.shift Go.bits Instr.build in
set_option maxRecDepth 100000 in
theorem C_(v:Value)(g:dr)(w:World)(h:iZ (fun k=>k<w.heap.size) w v g)(hg:cz g=0)(T N:Nat)(hT:g.aF=T)(hN:g.aU=N):
    Calls Tryz.prog 44 #[v] w (bM (Qf N T g.ag (uG N g.ag)) w):=by
  obtain⟨a1,a2,a3,a4,a5,a6⟩:=bV hg;have HU:=fun w' (s7:Gr w w')=>yx v g w' (h.gr s7) hg N hN;have hbe:∀body:List cg,body∈g.ag.map (·.2)->p5 g body=0/\∀b,wq g body b=eA (q9 N g.ag).E (GO N g.ag) body b:=fun body hb=>by
    obtain⟨p,hp,rfl⟩:=List.mem_map.1 hb;obtain⟨b1,b2,b3,b4⟩:=a6 p hp;have e:p5 g p.2=0:=by
      unfold p5;rw[if_neg (by simpa using hg),if_neg (by omega)];exact CI b4
    refine⟨e,fun b=>?_⟩;unfold wq;rw[if_pos e,show g.aU.toNat=N by omega]
  have ZU:=fun vb body b w' (hg:Gr w w') hs=>nt v vb g body b w' (h.gr hg) hs;obtain⟨_,hF⟩:=CJ hg hN;have hWW:=Qg hg hN;have Wk:=Qc hg hN;have EN:uG N g.ag=fun i:Nat=>eA (q9 N g.ag).E (GO N g.ag) (bU g.ag (i:Int)).2 ((GP N g.ag).getD (bU g.ag (i:Int)).1.toNat 0):=rfl;have abp:∀i,uG N g.ag i<18446744073709551616:=fun i=>by
    refine k_ hF (kY hWW _) fun x hx h1=>?_
    by_cases c:i<g.ag.length
    · rw[rU c]at hx
      have:=(a6 _ (List.getElem_mem c)).2.2.2 x hx;unfold right at this;rw[if_pos h1]at this;simp at this;omega
    · unfold bU at hx
      rw[Int.toNat_natCast,List.getD_eq_getElem?_getD,List.getElem?_eq_none (by omega)]at hx
      cases hx
  generalize pt:uG N g.ag=may at*;obtain⟨vp,rfl,h1,_⟩:=h;obtain⟨t,nn,ag⟩:=g;dsimp only at*;subst hT hN;have h10:=h1;obtain⟨bp,cp,rfl,Jx,GM,lF⟩:=h1;unfold maxLen at GM;refine enter (args:=[cO (T:Int) (N:Int) (.slice bp ag.length cp)]) (n:=119) Tryz.func44 rfl rfl rfl ?_;refine a8 (aL (a_ rfl rfl rfl fun g1=>?_));refine zL ?_
  repeat(first|refine GA ?_|refine gV (az (i:=0) ak.ty rfl rfl rfl) ?_)
  refine aI (jc aj.en rfl rfl) (fun w' hm=>(HU w' hm.below).mono fun e w2 h=>yy h) rfl rfl rfl ?_;intro x _
  conv=>arg 8;simp only[zJ,bZ,ret,id_eq,yw.val]
  refine AB [0,3] ?_
  try refine GA ?_
  refine aK rfl fun g5=>?_;refine fa 2 ?_;refine zL ?_
  repeat(first|refine GA ?_|refine gV (J ak.ty rfl (ah (i:=0) rfl rfl)) ?_)
  have hz:aQ Tryz.prog 114 #[eV 0]:=(inferInstance:aQ Tryz.prog 114 #[.int .u64 0]);refine lC eV 0 rfl rfl (by omega) (by omega) rfl fun g7=>?_;refine zL ?_
  repeat(first|refine GA ?_|refine gV (J ak.ty rfl (ah (i:=0) rfl rfl)) ?_)
  refine jA (ι:=Nat) (fun k=>k<=ag.length) (fun k=>[(1,.pointer (some ⟨g1,0,none⟩)),(5,.pointer (some ⟨g5,0,none⟩)),(7,.slice (some ⟨g7,0,none⟩) ag.length ag.length),(30,.slice bp ag.length cp),(31,.int .i64 ag.length),(32,.int .i64 (k:Int))])
    (fun k=>[aw g1 (cO (T:Int) (N:Int) (.slice bp ag.length cp)).cells 33,fw N x.gW x.cW (GP N ag),aw g5 (jy (cC N x.gE x.cE) (cC N x.gF x.cF) (cC N x.gW x.cW) (cC N x.gR x.cR) (cC N x.gM x.cM)).cells 104,dU 114 eV g7 ag.length (fun j=>if j<k then may j else 0)]) (fun k=>ag.length-k) 0 (Nat.zero_le _) (by repeat' (first|exact True.intro|refine And.intro rfl ?_)) (by rw[show(fun j=>if j<0 then may j else 0)=fun _=>0 from funext fun j=>if_neg (by omega)];rfl) ?_
  intro k k1
  by_cases c7:k<ag.length
  · obtain⟨b,off,rfl,_,hr⟩:=lF (by omega)
    obtain⟨bb,cb,y1,y2,y3⟩:=jC hr c7;have dF:∀(L:List bI) (j:Nat) (v:Value),([.int .i64 ag[k].1,.slice bb ag[k].2.length cb]:List Value)[j]?=some v->At w L ⟨b,off+k*2+j,none⟩ v:=fun L j v hj=>iw (y1 j v hj);have zZ:=y3.flat (by decide);obtain⟨b1,b2,b3,b4⟩:=a6 _ (List.getElem_mem c7);obtain⟨z8,K_⟩:=hbe ag[k].2 (List.mem_map.2 ⟨_,List.getElem_mem c7,rfl⟩);have GL:may k=eA (q9 N ag).E (GO N ag) ag[k].2 ((GP N ag).getD ag[k].1.toNat 0):=by rw[EN];dsimp only;rw[rU c7]
    clear y1 y3 hr hbe lF;generalize ag[k]=pd at*;obtain⟨hd,body⟩:=pd;dsimp only at*;obtain⟨hn,rfl⟩:∃hn:Nat,hd=hn:=⟨hd.toNat,by omega⟩;have hlt:hn<N:=by omega
    rw[Int.toNat_natCast]at GL;have abq:((GP N ag).map eV)[0+hn]?=some (eV ((GP N ag).getD hn 0)):=by rw[Nat.zero_add];exact CF (by rw[hWW.1];exact hlt)
    have abr:=kY hWW hn;have ZU:=fun w' hg hs=>ZU (.slice bb body.length cb) body ((GP N ag).getD hn 0) w' hg hs abr;rw[z8,K_,<-GL]at ZU;generalize (GP N ag).getD hn 0=wv at*
    repeat(first|refine GA ?_|refine gV (aC aT.eq ak.ty rfl rfl c7) ?_|refine gV (aH ak.ty rfl rfl (dF _)) ?_)
    refine aK rfl fun g9=>?_
    try refine GA ?_
    refine fa 4 ?_;refine zL ?_
    try refine GA ?_
    refine cU ([aw g1 (cO (T:Int) (N:Int) (.slice (some ⟨b,off,none⟩) ag.length cp)).cells 33,fw N x.gW x.cW (GP N ag),aw g5 (jy (cC N x.gE x.cE) (cC N x.gF x.cF) (cC N x.gW x.cW) (cC N x.gR x.cR) (cC N x.gM x.cM)).cells 104,aw g9 #[.int .i64 (hn:Int),.slice bb body.length cb] 140]) (.calm 0 (.calm 1 (.calm 2 (.calm 3 (.calm 4 (.calm 5 (.calm 6 (.calm 7 (.calm 8 (.calm 9 (.calm 10 (.calm 11 (.calm 12 (.calm 13 (.calm 14 (.calm 15 (.one 16 (.done)))))))))))))))))) (bz [0,1,2,4]) ?_
    repeat(first|refine GW ?_|(refine GN ?_;first|refine QW (az (i:=0) ak.ty rfl rfl rfl) ?_|refine QW (J ak.ty rfl (ah (i:=3) rfl rfl)) ?_|refine QW (J ak.ty rfl (ah (i:=2) rfl rfl)) ?_|refine QW (bx aT.eq ak.ty rfl rfl hlt) ?_|refine QW (J ak.ty rfl (ix (i:=1) rfl abq)) ?_))
    refine sN rfl (sB aj.en rfl rfl rfl rfl) (fun w hm=>ZU _ hm.below (zZ.gr hm.below)) rfl rfl rfl ?_
    repeat(first|refine GW ?_|(refine GN ?_;first|refine QW (bx aT.eq ak.ty rfl rfl c7) ?_))
    refine ap rfl ?_;refine fF (i:=3) (v:=may k) (fun j=>if j<k+1 then may j else 0) ak.ty rfl rfl rfl rfl rfl c7 (fun j _=>by
      by_cases e:j=k
      · subst e;simp
      · by_cases e2:j<k
        · simp[e,e2,show j<k+1 by omega]
        · simp[e,e2,show ¬j<k+1 by omega]) ?_
    refine zL ?_;refine av (bz [0,1,2,4]) ?_
    try refine GW ?_
    try refine GA ?_
    refine cD [0,1,2,3] ?_;exact bB (k+1) (by omega) (by omega)
  · obtain rfl:k=ag.length:=by omega
    rw[show dU 114 eV g7 ag.length (fun j=>if j<ag.length then may j else 0)=dU 114 eV g7 ag.length may from lB fun j hj=>if_pos hj];clear ZU hbe HU EN
    repeat(first|refine GA ?_|refine gV (J ak.ty rfl (ah (i:=0) rfl rfl)) ?_)
    refine lC qu (.slice none 0 0) rfl rfl (by omega) (by omega) rfl fun g10=>?_;refine zL ?_
    try refine GA ?_
    refine oX [0,3,4] ?_;refine mz (fS (fun j=>j<N) (jY ag may T (fun _=> .slice none 0 0) 0 0)) (fun k hk=>hk.elim (fun h=>by cases h) fun⟨i,hi,h⟩=>h.elim (fun h=>by cases h) id) (fun w=>⟨fun i hi=>?_,fun i j _ _ _ k h=>h.elim (fun h=>by cases h) False.elim⟩) ?_
    · unfold jY ww
      rw[if_neg (by omega),ite_self];exact World.ownsRow_nil _ _ _ _
    refine g_ 200 4 ?_;refine dv (ι:=Nat×(Nat->Value)×Value) (fun(n,_,_)=>n<=N) (fun(n,_,vo)=>[(1,.pointer (some ⟨g1,0,none⟩)),(7,.slice (some ⟨g7,0,none⟩) ag.length ag.length),(10,.slice (some ⟨g10,0,none⟩) N N),(11,vo),(58,.int .i64 (N:Int)),(59,.int .i64 (n:Int))])
      (fun(n,vs,vo)=>[aw g1 (cO (T:Int) (N:Int) (.slice bp ag.length cp)).cells 33,dU 114 eV g7 ag.length may,dU 26 qu g10 N vs,fS (fun j=>j<N) (jY ag may T vs n 0),aM 200 4 vo (jE ag may T n).length ((jE ag may T n).flatMap Yb)]) (fun(n,_,_)=>N-n) (0,fun _=> .slice none 0 0,.slice none 0 0) (Nat.zero_le _) ?_
    rintro⟨n,vs,vo⟩ n1;dsimp only at n1⊢
    by_cases c8:n<N
    · repeat(first|refine GC ?_|refine gV (J ak.ty rfl (ah (i:=0) rfl rfl)) ?_|refine gV (cB (r:=((T+1:Nat):Int)) rfl rfl (by omega) (by omega) (by omega)) ?_|refine GB ?_)
      refine dv (ι:=Nat×(Nat->Value)×Value) (fun(c,_,_)=>c<=T+1) (fun(c,_,vo)=>[(1,.pointer (some ⟨g1,0,none⟩)),(7,.slice (some ⟨g7,0,none⟩) ag.length ag.length),(10,.slice (some ⟨g10,0,none⟩) N N),(11,vo),(12,.int .i64 (n:Int)),(58,.int .i64 (N:Int)),(59,.int .i64 (n:Int)),(64,.int .i64 ((T+1:Nat):Int)),(65,.int .i64 (c:Int))])
        (fun(c,vs,vo)=>[aw g1 (cO (T:Int) (N:Int) (.slice bp ag.length cp)).cells 33,dU 114 eV g7 ag.length may,dU 26 qu g10 N vs,fS (fun j=>j<N) (jY ag may T vs n c),aM 200 4 vo (wl ag may T n c (jE ag may T n)).length ((wl ag may T n c (jE ag may T n)).flatMap Yb)]) (fun(c,_,_)=>T+1-c) (0,vs,vo) (Nat.zero_le _) ?_
      rintro⟨c,vs,vo⟩ cc;dsimp only at cc⊢
      by_cases c9:c<T+1
      · have abL:=y' (l:=ag) (may:=may) (T:=T) n c (jE ag may T n)
        have abM:=FU (l:=ag) (may:=may) (T:=T) n;have Sf:c*ag.length<=31*40:=Nat.mul_le_mul (by omega) a5;have RN:(T+1)*ag.length<=31*40:=Nat.mul_le_mul (by omega) a5;have hm3:n*((T+1)*ag.length)<=20*(31*40):=Nat.mul_le_mul (by omega) RN;have abt:jE ag may T (n+1)=wl ag may T n (T+1) (jE ag may T n):=rfl;have ZV:wl ag may T n (c+1) (jE ag may T n)=rZ ag may T n c ag.length (wl ag may T n c (jE ag may T n)):=rfl;have hbc:Ht T c<18446744073709551616:=by
          unfold Ht;split
          · decide
          · exact Nat.lt_of_le_of_lt (Nat.pow_le_pow_right (by decide) (show c<=30 by omega)) (by decide)
        have Su:=fun w=>MD T (N:Int) (.slice bp ag.length cp) c w (by omega) (by omega) ⟨_,_,_,rfl⟩;generalize wl ag may T n c (jE ag may T n)=tI at*
        repeat(first|refine GA ?_|refine gV (J ak.ty rfl (ah (i:=0) rfl rfl)) ?_)
        refine dv (ι:=Nat×Value) (fun(k,_)=>k<=ag.length) (fun(k,vo)=>[(1,.pointer (some ⟨g1,0,none⟩)),(7,.slice (some ⟨g7,0,none⟩) ag.length ag.length),(10,.slice (some ⟨g10,0,none⟩) N N),(11,vo),(12,.int .i64 (n:Int)),(13,.int .i64 (c:Int)),(14,.int .i64 (ff ag may T n c k)),(58,.int .i64 (N:Int)),(59,.int .i64 (n:Int)),(64,.int .i64 ((T+1:Nat):Int)),(65,.int .i64 (c:Int)),(69,.slice bp ag.length cp),(70,.int .i64 ag.length),(71,.int .i64 (k:Int))])
          (fun(k,vo)=>[aw g1 (cO (T:Int) (N:Int) (.slice bp ag.length cp)).cells 33,dU 114 eV g7 ag.length may,dU 26 qu g10 N vs,fS (fun j=>j<N) (jY ag may T vs n c),aM 200 4 vo (rZ ag may T n c k tI).length ((rZ ag may T n c k tI).flatMap Yb)]) (fun(k,_)=>ag.length-k) (0,vo) (Nat.zero_le _) ?_
        rintro⟨k,vo⟩ kk;dsimp only at kk⊢
        by_cases ck:k<ag.length
        · obtain⟨b,off,rfl,_,hr⟩:=lF (by omega)
          obtain⟨bb,cb,y1,y2,y3⟩:=jC hr ck;have dF:∀(L:List bI) (j:Nat) (v:Value),([.int .i64 ag[k].1,.slice bb ag[k].2.length cb]:List Value)[j]?=some v->At w L ⟨b,off+k*2+j,none⟩ v:=fun L j v hj=>iw (y1 j v hj);have V7:=y_ (l:=ag) (may:=may) (T:=T) n c k tI;have hf:ff ag may T n c (k+1)=if ff ag may T n c k<0 then(if yg ag may T n c k=true then(k:Int)else ff ag may T n c k)else ff ag may T n c k:=rfl
          have ho:rZ ag may T n c (k+1) tI=if yg ag may T n c k=true then(if ff ag may T n c k<0 then rZ ag may T n c k tI else rZ ag may T n c k tI++[((n:Int),(c:Int),ff ag may T n c k,(k:Int))])else rZ ag may T n c k tI:=rfl
          have Yc:yg ag may T n c k=(decide (ag[k].1=(n:Int))&&!decide ((may k&&&Ht T c)=0)):=by unfold yg;rw[rU ck]
          have hand:=LW (abp k) hbc;have hfk:=pQ (l:=ag) (may:=may) (T:=T) n c k;clear y1 y3 hr lF;generalize ag[k]=pd at*;obtain⟨hd,body⟩:=pd;dsimp only at*;generalize hzz:may k&&&Ht T c=z at*;generalize ff ag may T n c k=fk at*;generalize rZ ag may T n c k tI=ok at*
          repeat(first|refine GA ?_|refine gV (aC aT.eq ak.ty rfl rfl ck) ?_|refine gV (aH ak.ty rfl rfl (dF _)) ?_)
          refine aK rfl fun g16=>?_
          try refine GA ?_
          refine fa 5 ?_;refine zL ?_
          try refine GA ?_
          refine cU ([aw g1 (cO (T:Int) (N:Int) (.slice (some ⟨b,off,none⟩) ag.length cp)).cells 33,dU 114 eV g7 ag.length may,aw g16 #[.int .i64 hd,.slice bb body.length cb] 140]) (.calm 0 (.calm 1 (.calm 2 (.calm 3 (.calm 4 (.calm 5 (.calm 6 (.calm 7 (.calm 8 (.calm 9 (.calm 10 (.calm 11 (.calm 12 (.calm 13 (.calm 14 (.calm 15 (.done))))))))))))))))) (bz [0,1,5]) ?_
          by_cases e1:hd=(n:Int)
          · by_cases e2:z=0
            · rw[decide_eq_true e1,decide_eq_true e2]at Yc
              rw[Yc]at hf ho;simp only[Bool.not_true,Bool.and_false,Bool.false_eq_true,if_false,ite_self]at hf ho
              repeat(first|refine GW ?_|(refine GN ?_;first|refine QW (J ak.ty rfl (ah (i:=2) rfl rfl)) ?_|refine QW (bx aT.eq ak.ty rfl rfl ck) ?_|refine QW (J ak.ty rfl (eD (i:=1) rfl ck)) ?_|refine QW (az (i:=0) ak.ty rfl rfl rfl) ?_))
              refine xA rfl (eK aj.en rfl rfl rfl) (fun w hm=>Su _) rfl rfl rfl rfl rfl ?_
              repeat(first|refine GW ?_|(refine GN ?_;first|refine QW (j_ rfl rfl hand) ?_))
              try refine GA ?_
              refine cD [0,1,2,3,4] ?_;exact fH (k+1,vo) (by show k+1<=ag.length;omega) (by show ag.length-(k+1)<ag.length-k;omega) (by dsimp only;rw[hf];repeat' (first|exact True.intro|refine And.intro rfl ?_)) (by dsimp only;rw[ho];rfl)
            · rw[decide_eq_true e1,decide_eq_false e2]at Yc
              rw[Yc]at hf ho;simp only[Bool.not_false,Bool.and_true,if_true]at hf ho
              repeat(first|refine GW ?_|(refine GN ?_;first|refine QW (J ak.ty rfl (ah (i:=2) rfl rfl)) ?_|refine QW (bx aT.eq ak.ty rfl rfl ck) ?_|refine QW (J ak.ty rfl (eD (i:=1) rfl ck)) ?_|refine QW (az (i:=0) ak.ty rfl rfl rfl) ?_))
              refine xA rfl (eK aj.en rfl rfl rfl) (fun w hm=>Su _) rfl rfl rfl rfl rfl ?_
              repeat(first|refine GW ?_|(refine GN ?_;first|refine QW (j_ rfl rfl hand) ?_))
              by_cases e3:fk<0
              · rw[if_pos e3]at hf ho
                try refine GA ?_
                refine cD [0,1,2,3,4] ?_;exact fH (k+1,vo) (by show k+1<=ag.length;omega) (by show ag.length-(k+1)<ag.length-k;omega) (by dsimp only;rw[hf];repeat' (first|exact True.intro|refine And.intro rfl ?_)) (by dsimp only;rw[ho];rfl)
              · rw[if_neg e3]at hf ho
                repeat(first|refine GA ?_|refine gV (aP rfl (Qd _ _ _ _)) ?_)
                refine iy (i:=4) rfl rfl rfl rfl rfl rfl rfl (fun z h=>by cases h;rfl) (by omega) (by omega) rfl fun z' v2=>?_;refine zL ?_
                try refine GA ?_
                refine cD [0,1,2,3,4] ?_;exact fH (k+1,v2) (by show k+1<=ag.length;omega) (by show ag.length-(k+1)<ag.length-k;omega) (by dsimp only;rw[hf];repeat' (first|exact True.intro|refine And.intro rfl ?_)) (by dsimp only;rw[ho,List.flatMap_append,List.length_append];rfl)
          · rw[decide_eq_false e1]at Yc
            rw[Yc]at hf ho;simp only[Bool.false_and,Bool.false_eq_true,if_false,ite_self]at hf ho
            repeat(first|refine GW ?_|(refine GN ?_;first|refine QW (J ak.ty rfl (ah (i:=2) rfl rfl)) ?_))
            try refine GA ?_
            refine cD [0,1,2,3,4] ?_;exact fH (k+1,vo) (by show k+1<=ag.length;omega) (by show ag.length-(k+1)<ag.length-k;omega) (by dsimp only;rw[hf];repeat' (first|exact True.intro|refine And.intro rfl ?_)) (by dsimp only;rw[ho];rfl)
        · obtain rfl:k=ag.length:=by omega
          rw[<-ZV];have YL:ff ag may T n c ag.length=wk.rowAt ag may T n c:=rfl;rw[YL];clear ZV abt YL;have hcn:jY ag may T vs n c n=aM 3 1 (vs n) c ((iY c (wk.rowAt ag may T n)).map Xh):=by
            unfold jY ww;rw[if_neg (Nat.lt_irrefl n),if_pos rfl]
          repeat(first|refine GA ?_|refine gV (bx aT.eq ak.ty rfl rfl c8) ?_|refine gV (J ak.ty rfl (eD (i:=2) rfl c8)) ?_)
          refine Ju (q:=3) n rfl c8 ?_;rw[hcn];refine zL ?_;refine Jc [.int .i64 (wk.rowAt ag may T n c)] rfl rfl rfl (by intro v hv;simp at hv;subst hv;rfl) rfl rfl fun ab_=>?_;refine zL ?_;refine jd (i:=5) (q:=6) rfl rfl rfl rfl rfl rfl (by omega) (by omega) rfl fun v3=>?_;refine zL ?_;refine aD (i:=5) rfl fun gB jM=>?_
          repeat(first|refine GA ?_|refine gV (bx aT.eq ak.ty rfl rfl c8) ?_)
          refine fF (i:=2) (v:=v3) (fun j=>if j=n then v3 else vs j) ak.ty rfl rfl rfl gB jM c8 (fun j _=>rfl) ?_;refine zL ?_;refine Oy (D':=fun j=>j<N) (f':=jY ag may T (fun j=>if j=n then v3 else vs j) n (c+1)) n 3 5 [0,1,2,4] (by decide) rfl rfl rfl (fun h=>h.2 rfl) (fun j hj=>by
            by_cases e:j=n
            · exact .inr e
            · exact .inl ⟨hj,e⟩) (fun j hj=>by
            by_cases e:j=n
            · subst e
              rw[uj];unfold jY ww;rw[if_neg (Nat.lt_irrefl j),if_pos rfl];dsimp only;rw[if_pos rfl]
              congr 1
              unfold iY;rw[List.range_succ,List.map_append,List.map_append];rfl
            · rw[ui e]
              have:ww T n (c+1) j=ww T n c j:=by unfold ww;rw[if_neg e,if_neg e]
              unfold jY;rw[this];dsimp only;rw[if_neg e]) ?_
          refine zL ?_;refine AB [0,1,2,4,3] ?_
          try refine GA ?_
          exact bB (c+1,fun j=>if j=n then v3 else vs j,vo) (by show c+1<=T+1;omega) (by show T+1-(c+1)<T+1-c;omega)
      · obtain rfl:c=T+1:=by omega
        have abu:jY ag may T vs n (T+1)=jY ag may T vs (n+1) 0:=funext fun j=>by
          have:ww T n (T+1) j=ww T (n+1) 0 j:=by
            unfold ww
            by_cases e:j<n
            · rw[if_pos e,if_pos (by omega)]
            · rw[if_neg e]
              by_cases e2:j=n
              · rw[if_pos e2,if_pos (by omega)]
              · rw[if_neg e2,if_neg (by omega),ite_self]
          unfold jY;rw[this]
        try refine GA ?_
        exact bB (n+1,vs,vo) (by show n+1<=N;omega) (by show N-(n+1)<N-n;omega) (hl:=by rw[abu];rfl)
    · obtain rfl:n=N:=by omega
      try refine GA ?_
      exact j0 rfl rfl rfl rfl fun w hm=>hm.meets (S:=Qf n T ag may) (g10,vs,vo) trivial [2,3,4] (by decide) rfl
end bK
namespace bK
open Go.RowKit bO dc aB dy cL aY bT
def iR(x:aY.Act):List Value:=[.int .i64 x.1,.int .i64 x.2]
theorem nF(x:aY.Act):(iR x).length=2:=rfl
def eI(l:List aB.Prod)(T:Nat)(nx:List Int)(t:Nat)(s:List aY.Item)(c:Nat):List aY.Act:=(if c<t/\0<=nx.getD c 0 then [(1,nx.getD c 0)]else [])++s.filterMap (tr l c)
theorem BE{l:List aB.Prod}{T:Nat}{nx:List Int}{s:List aY.Item}{c:Nat}:eI l T nx T s c=ij l T s nx c:=rfl
def kP(vs:Nat->Value)(A:Nat->List aY.Act)(j:Nat):bI:=aM 94 2 (vs j) (A j).length ((A j).flatMap iR)
def FV(T:Nat)(A:Nat->List aY.Act):Spec (Nat×(Nat->Value)):=⟨fun _=>True,fun x=> .slice (some ⟨x.1,0,none⟩) (T+1) (T+1),fun x=>[dU 92 qu x.1 (T+1) x.2,fS (fun j=>j<T+1) (kP x.2 A)]⟩
theorem IC(n:Int)(w:World):(Instr.build 94 #[(0,.int .i64 1),(1,.int .i64 n)]).run Tryz.prog w= .ok (.agg (iR (1,n)).toArray) w:=by kernel_rfl
theorem ID(n:Int)(w:World):(Instr.build 94 #[(0,.int .i64 2),(1,.int .i64 n)]).run Tryz.prog w= .ok (.agg (iR (2,n)).toArray) w:=by kernel_rfl
theorem IE(w:World):(Instr.build 94 #[(0,.int .i64 3)]).run Tryz.prog w= .ok (.agg (iR (3,0)).toArray) w:=by kernel_rfl
theorem uH{l:List aB.Prod}{T:Nat}{nx:List Int}{t:Nat}{s:List aY.Item}{c:Nat}:(eI l T nx t s c).length<=1+s.length:=by
 unfold eI;rw[List.length_append];have:=List.length_filterMap_le (tr l c) s;split
 ·rw[List.length_singleton];omega
 ·rw[List.length_nil];omega
theorem C'(v:Value)(g:dr)(T:Nat)(C1:g.aF=(T:Int))(hT:T<=30)(bS oS lS cS bN oN lN cN n:Nat)(kH vn1:Value)(s:List aY.Item)(nx:List Int)(w:World)(hG:iZ (fun k=>k<w.heap.size) w v g)(w6:g.ag.length<=40)(hnS:n<lS)(hcS:w.cell? ⟨bS,oS+n,none⟩=some kH)(wI:Sl w kH s.length (s.flatMap fG))(TK:n<lN)(hcN:w.cell? ⟨bN,oN+n,none⟩=some vn1)(hn1:Sl w vn1 nx.length (nx.map (Value.int .i64)))(hnl:T<=nx.length)(hr:∀it∈s,dl g.ag T it)(sb:s.length<=20000)(_:n<=1000000):
    Calls Tryz.prog 87 #[v,.agg #[.slice (some ⟨bS,oS,none⟩) lS cS,.slice (some ⟨bN,oN,none⟩) lN cN],.int .i64 (n:Int)] w (bM (FV T (ij g.ag T s nx)) w):=by
  obtain⟨vp,rfl,hp,-,-⟩:=hG;obtain⟨bp,cp,rfl,Jx,GM,lF⟩:=hp;obtain⟨bs,cs,rfl,-,WA,ZW⟩:=wI;obtain⟨bn,cn,rfl,-,hmN,hrN⟩:=hn1;unfold maxLen at WA hmN;rw[C1];have z8:=IC;have K_:=ID;have hb3:=IE;refine enter (args:=[cO (T:Int) g.aU (.slice bp g.ag.length cp),.agg #[.slice (some ⟨bS,oS,none⟩) lS cS,.slice (some ⟨bN,oN,none⟩) lN cN],.int .i64 (n:Int)]) (n:=113) Tryz.func87 rfl rfl rfl ?_;refine a8 (aL (a_ rfl rfl rfl fun g3=>?_));refine zL ?_;refine a_ rfl rfl rfl fun g4=>?_;refine zL ?_
  repeat(first|refine GC ?_|refine gV (J (v:= .int .i64 (T:Int)) ak.ty rfl (ah (i:=0) rfl rfl)) ?_|refine gV (cB (r:=((T+1:Nat):Int)) rfl rfl (by omega) (by omega) (by omega)) ?_|refine GB ?_)
  refine lC (m:=T+1) qu (.slice none 0 0) rfl rfl (by omega) (by omega) rfl fun g7=>?_;refine zL ?_
  repeat(first|refine GA ?_|refine gV (J (v:= .int .i64 (T:Int)) ak.ty rfl (ah (i:=0) rfl rfl)) ?_)
  refine mz (fS (fun j=>j<T+1) (kP (fun _=> .slice none 0 0) (eI g.ag T nx 0 []))) (fun k hk=>hk.elim (fun h=>by cases h) fun⟨i,hi,h⟩=>h.elim (fun h=>by cases h) id) (fun w=>⟨fun i hi=>?_,fun i j _ _ _ k h=>h.elim (fun h=>by cases h) False.elim⟩) ?_
  · unfold kP eI
    rw[if_neg (by omega)];exact World.ownsRow_nil _ _ _ _
  conv=>arg 7;simp only[zA,zB,zC,zD,zE,zF,zG,zH,zI,bZ,ret,id_eq]
  refine dv (ι:=Nat×(Nat->Value)) (fun(t,_)=>t<=T) (fun(t,_)=>[(2,.int .i64 (n:Int)),(3,.pointer (some ⟨g3,0,none⟩)),(4,.pointer (some ⟨g4,0,none⟩)),(7,.slice (some ⟨g7,0,none⟩) (T+1) (T+1)),(17,.int .i64 (T:Int)),(18,.int .i64 (t:Int))])
    (fun(t,vs)=>[aw g3 (cO (T:Int) g.aU (.slice bp g.ag.length cp)).cells 33,aw g4 (Value.agg #[.slice (some ⟨bS,oS,none⟩) lS cS,.slice (some ⟨bN,oN,none⟩) lN cN]).cells 203,dU 92 qu g7 (T+1) vs,fS (fun j=>j<T+1) (kP vs (eI g.ag T nx t []))]) (fun(t,_)=>T-t) (0,fun _=> .slice none 0 0) (Nat.zero_le _) ?_
  rintro⟨t,vs⟩ i1;dsimp only at i1⊢
  by_cases c1:t<T
  · obtain⟨b,off,rfl,ef⟩:=hrN (by omega)
    have hny:(nx.map (Value.int .i64))[t]?=some (.int .i64 (nx.getD t 0)):=by
      rw[List.getElem?_map,List.getD_eq_getElem?_getD,List.getElem?_eq_getElem (by omega)];rfl
    have dF:=fun(L:List bI)=>f_ (W:=w) (L:=L) ef hny;have UF:t<nx.length:=by omega
    have IF:∀j,j≠t->eI g.ag T nx (t+1) [] j=eI g.ag T nx t [] j:=fun j hj=>by
      unfold eI;have:(j<t+1/\0<=nx.getD j 0)↔(j<t/\0<=nx.getD j 0):=by constructor<;>(rintro⟨h1,h2⟩;exact⟨by omega,h2⟩)
      simp only[this]
    have vP:eI g.ag T nx (t+1) [] t=if 0<=nx.getD t 0 then [(1,nx.getD t 0)]else []:=by
      unfold eI
      by_cases c:0<=nx.getD t 0
      · rw[if_pos ⟨Nat.lt_succ_self t,c⟩,if_pos c];rfl
      · rw[if_neg (fun h=>c h.2),if_neg c];rfl
    have Qh:eI g.ag T nx t [] t=[]:=by unfold eI;rw[if_neg (fun h=>Nat.lt_irrefl t h.1)];rfl
    generalize nx.getD t 0=y at*
    repeat(first|refine GA ?_|refine gV (J (v:= .slice (some ⟨bN,oN,none⟩) lN cN) ak.ty rfl (ah (i:=1) rfl rfl)) ?_|refine gV (bx aT.eq ak.ty rfl rfl TK) ?_|refine gV (J (v:= .slice (some ⟨b,off,none⟩) nx.length cn) ak.ty rfl (iw hcN)) ?_|refine gV (bx aT.eq ak.ty rfl rfl UF) ?_|refine gV (J (v:= .int .i64 y) ak.ty rfl (dF _)) ?_)
    by_cases c2:0<=y
    · rw[if_pos c2]at vP
      repeat(first|refine GC ?_|refine gV (dO (b:=true) rfl rfl (decide_eq_true c2)) ?_|refine gV (bx aT.eq ak.ty rfl rfl (show t<T+1 by omega)) ?_|refine gV (J ak.ty rfl (eD (i:=2) rfl (show t<T+1 by omega))) ?_|refine gV (aP rfl (z8 _)) ?_|refine GB ?_)
      refine Ju (q:=3) t rfl (show t<T+1 by omega) ?_;have hFt:kP vs (eI g.ag T nx t []) t=aM 94 2 (vs t) 0 []:=by unfold kP;rw[Qh];rfl
      rw[hFt];refine zL ?_;refine iy (i:=4) rfl rfl rfl rfl rfl rfl rfl (fun z h=>by cases h;rfl) (by omega) (by omega) rfl fun z v3=>?_;refine zL ?_
      repeat(first|refine GA ?_|refine gV (bx aT.eq ak.ty rfl rfl (show t<T+1 by omega)) ?_)
      refine aD (i:=4) rfl fun gB jM=>?_;refine fF (i:=2) (v:=v3) (fun j=>if j=t then v3 else vs j) ak.ty rfl rfl rfl gB jM (show t<T+1 by omega) (fun j _=>rfl) ?_;refine zL ?_;refine Oy (D':=fun j=>j<T+1) (f':=kP (fun j=>if j=t then v3 else vs j) (eI g.ag T nx (t+1) [])) t 3 4 [0,1,2] (by decide) rfl rfl rfl (fun h=>h.2 rfl) (fun j hj=>by
        by_cases e:j=t
        · exact .inr e
        · exact .inl ⟨hj,e⟩) (fun j hj=>by
        by_cases e:j=t
        · subst e
          rw[uj];unfold kP;dsimp only;rw[vP,if_pos rfl];rfl
        · rw[ui e]
          unfold kP;dsimp only;rw[IF j e,if_neg e]) ?_
      refine zL ?_
      try refine GA ?_
      exact bB (t+1,fun j=>if j=t then v3 else vs j) (by show t+1<=T;omega) (by show T-(t+1)<T-t;omega)
    · rw[if_neg c2]at vP
      have oM:eI g.ag T nx (t+1) []=eI g.ag T nx t []:=funext fun j=>by
        by_cases e:j=t
        · subst e;rw[vP,Qh]
        · exact IF j e
      repeat(first|refine GC ?_|refine gV (dO (b:=false) rfl rfl (decide_eq_false c2)) ?_|refine GB ?_)
      exact bB (t+1,vs) (by show t+1<=T;omega) (by show T-(t+1)<T-t;omega) (hl:=by dsimp only;rw[oM])
  obtain rfl:t=T:=by omega
  repeat(first|refine GA ?_|refine gV (J (v:= .slice (some ⟨bS,oS,none⟩) lS cS) ak.ty rfl (ah (i:=1) rfl rfl)) ?_|refine gV (bx aT.eq ak.ty rfl rfl hnS) ?_|refine gV (J (v:= .slice bs s.length cs) ak.ty rfl (iw hcS)) ?_)
  refine dv (ι:=Nat×(Nat->Value)) (fun(k,_)=>k<=s.length) (fun(k,_)=>[(3,.pointer (some ⟨g3,0,none⟩)),(7,.slice (some ⟨g7,0,none⟩) (t+1) (t+1)),(47,.slice bs s.length cs),(48,.int .i64 (s.length:Int)),(49,.int .i64 (k:Int))])
    (fun(k,vs)=>[aw g3 (cO (t:Int) g.aU (.slice bp g.ag.length cp)).cells 33,aw g4 (Value.agg #[.slice (some ⟨bS,oS,none⟩) lS cS,.slice (some ⟨bN,oN,none⟩) lN cN]).cells 203,dU 92 qu g7 (t+1) vs,fS (fun j=>j<t+1) (kP vs (eI g.ag t nx t (s.take k)))]) (fun(k,_)=>s.length-k) (0,vs) (Nat.zero_le _) ?_
  rintro⟨k,vs⟩ j1;dsimp only at j1⊢;clear z8
  by_cases c2:k<s.length
  · obtain⟨b,off,rfl,ef⟩:=ZW (by omega)
    have dF:=fun(L:List bI)=>eN (L:=L) jj ef c2;have yG:∀(L:List bI) (j:Nat) (u:Value),(fG s[k])[j]?=some u->At (w:bC) L ⟨b,off+k*3+j,none⟩ u:=dF;clear dF ef ZW;have X6:=hr s[k] (List.getElem_mem c2);have H3:s.take (k+1)=s.take k++[s[k]]:=List.take_succ_eq_append_getElem c2;have mY:∀c,eI g.ag t nx t (s.take (k+1)) c=eI g.ag t nx t (s.take k) c++(match tr g.ag c s[k]with|some x=>[x]|none=>[]):=fun c=>by
      rw[H3];unfold eI;rw[List.filterMap_append,<-List.append_assoc]
      congr 1
      rw[List.filterMap_cons]
      cases tr g.ag c s[k]<;>rfl
    have hlen:∀c,(eI g.ag t nx t (s.take k) c).length<=20001:=fun c=>Nat.le_trans uH (by rw[List.length_take];omega);generalize hit:s[k]=it at*;obtain⟨p,d,lo⟩:=it;obtain⟨r1,r2,r3,r4,r5,r6⟩:=X6;dsimp only at r1 r2 r3 r4 r5 r6;obtain⟨pn,rfl⟩:=Int.eq_ofNat_of_zero_le r1;obtain⟨dn,rfl⟩:=Int.eq_ofNat_of_zero_le r3;obtain⟨ln,rfl⟩:=Int.eq_ofNat_of_zero_le r5;have Bh:ln<t+1:=by omega
    have IF:∀j,j≠ln->eI g.ag t nx t (s.take (k+1)) j=eI g.ag t nx t (s.take k) j:=fun j hj=>by
      rw[mY j];have:tr g.ag j ((pn:Int),(dn:Int),(ln:Int))=none:=by
        unfold tr;rw[if_pos (by show(ln:Int)≠(j:Int);omega)]
      rw[this,List.append_nil]
    have lW:=mY ln;unfold tr at lW;rw[if_neg (by show ¬(ln:Int)≠(ln:Int);simp)]at lW;dsimp only at lW;clear mY H3
    repeat(first|refine GA ?_|refine gV (aC aT.eq ak.ty rfl rfl c2) ?_|refine gV (aH (cs:=fG ((pn:Int),(dn:Int),(ln:Int))) ak.ty rfl rfl (yG _)) ?_)
    refine aK rfl fun g11=>?_;refine zL ?_;refine fa 4 (cs':=(fG ((pn:Int),(dn:Int),(ln:Int))).toArray) ?_;refine zL ?_;have hFt:kP vs (eI g.ag t nx t (s.take k)) ln=aM 94 2 (vs ln) (eI g.ag t nx t (s.take k) ln).length ((eI g.ag t nx t (s.take k) ln).flatMap iR):=rfl;have K8:=hlen ln
    by_cases q1:pn=g.ag.length
    · subst q1
      by_cases q2:dn=1
      · subst q2
        have vP:eI g.ag t nx t (s.take (k+1)) ln=eI g.ag t nx t (s.take k) ln++[(3,0)]:=by
          rw[if_pos ⟨rfl,rfl⟩]at lW;exact lW
        repeat(first|refine GA ?_|refine gV (J (v:= .int .i64 (g.ag.length:Int)) ak.ty rfl (ah (i:=4) rfl rfl)) ?_|refine gV (J (v:= .slice bp g.ag.length cp) ak.ty rfl (ah (i:=0) rfl rfl)) ?_|refine gV (J (v:= .int .i64 1) ak.ty rfl (ah (i:=4) rfl rfl)) ?_)
        refine Hj (q:=3) ln rfl Bh ?_;rw[hFt]
        conv=>arg 7;simp only[zA,zB,zC,zD,zE,zF,zG,zH,zI,bZ,ret,id_eq]
        refine cU ([aw g11 (fG ((g.ag.length:Int),1,(ln:Int))).toArray 278]) (.calm 0 (.calm 1 (.calm 2 (.calm 3 (.calm 4 (.calm 5 (.calm 6 (.calm 8 (.two 7 (.one 9 (.one 10 (.calm 11 (.one 12 (.done))))) 9 (.one 7 (.one 10 (.calm 11 (.one 12 (.done)))))))))))))) (bz [4]) ?_
        repeat(first|refine GW ?_|(refine GN ?_;first|refine QW (J (v:= .int .i64 (ln:Int)) ak.ty rfl (ah (i:=0) rfl rfl)) ?_|refine QW (bx aT.eq ak.ty rfl rfl Bh) ?_|refine QW (aP rfl hb3) ?_))
        refine dE rfl rfl ?ZX ?ZY
        case' ZX=>
          refine aV (J ak.ty rfl (eD (i:=2) rfl Bh)) rfl rfl rfl (av (bz [4]) ?_);refine ap rfl (eM (cs:=(iR (3,0)).toArray) rfl rfl rfl rfl rfl fun g74=>av (bz [4]) ?_)
        case' ZY=>
          refine eM (cs:=(iR (3,0)).toArray) rfl rfl rfl rfl rfl fun g74=>av (bz [4]) ?_;refine ap rfl (aV (J ak.ty rfl (eD (i:=2) rfl Bh)) rfl rfl rfl (av (bz [4]) ?_))
        all_goals
          refine ap rfl (kr (i:=5) (q:=6) rfl rfl rfl rfl rfl rfl (by omega) (by omega) rfl fun v3=>av (bz [4]) ?_)
          repeat(first|refine GW ?_|(refine GN ?_;first|refine QW (bx aT.eq ak.ty rfl rfl Bh) ?_))
          refine ap rfl (aD (i:=5) rfl fun gB jM=>fF (i:=2) (v:=v3) (fun j=>if j=ln then v3 else vs j) ak.ty rfl rfl rfl gB jM Bh (fun j _=>rfl) (av (bz [4]) ?_))
          try refine GW ?_
          refine Jv (D':=fun j=>j<t+1) (f':=kP (fun j=>if j=ln then v3 else vs j) (eI g.ag t nx t (s.take (k+1)))) ln 3 5 [0,1,2] (by decide) rfl rfl rfl (fun h=>h.2 rfl) (fun j hj=>by
            by_cases e:j=ln
            · exact .inr e
            · exact .inl ⟨hj,e⟩) (fun j hj=>by
            by_cases e:j=ln
            · subst e
              rw[uj];unfold kP;dsimp only;rw[vP,if_pos rfl,List.length_append,List.flatMap_append];rfl
            · rw[ui e]
              unfold kP;dsimp only;rw[IF j e,if_neg e]) ?_
          try refine GA ?_
          exact bB (k+1,fun j=>if j=ln then v3 else vs j) (by show k+1<=s.length;omega) (by show s.length-(k+1)<s.length-k;omega)
      · have oM:eI g.ag t nx t (s.take (k+1))=eI g.ag t nx t (s.take k):=funext fun j=>by
          by_cases e:j=ln
          · subst e
            rw[if_neg (fun h=>q2 (by have:=h.2;omega)),if_neg (fun h=>by have:=h.1;omega)]at lW;rw[lW];exact List.append_nil _
          · exact IF j e
        repeat(first|refine GA ?_|refine gV (J (v:= .int .i64 (g.ag.length:Int)) ak.ty rfl (ah (i:=4) rfl rfl)) ?_|refine gV (J (v:= .slice bp g.ag.length cp) ak.ty rfl (ah (i:=0) rfl rfl)) ?_|refine gV (J (v:= .int .i64 (dn:Int)) ak.ty rfl (ah (i:=4) rfl rfl)) ?_)
        refine cU ([aw g3 (cO (t:Int) g.aU (.slice bp g.ag.length cp)).cells 33,aw g11 (fG ((g.ag.length:Int),(dn:Int),(ln:Int))).toArray 278]) (.calm 0 (.calm 1 (.calm 2 (.calm 3 (.calm 4 (.calm 5 (.calm 6 (.calm 7 (.calm 8 (.calm 9 (.calm 10 (.calm 11 (.calm 12 (.calm 13 (.calm 14 (.calm 15 (.calm 16 (.calm 17 (.calm 18 (.calm 19 (.done))))))))))))))))))))) (bz [0,4]) ?_
        repeat(first|refine GW ?_|(refine GN ?_;first|refine QW (J (v:= .int .i64 (g.ag.length:Int)) ak.ty rfl (ah (i:=1) rfl rfl)) ?_|refine QW (J (v:= .slice bp g.ag.length cp) ak.ty rfl (ah (i:=0) rfl rfl)) ?_))
        try refine GA ?_
        refine cD [0,1,2,3] ?_;exact bB (k+1,vs) (by show k+1<=s.length;omega) (by show s.length-(k+1)<s.length-k;omega) (hl:=by dsimp only;rw[oM];rfl)
    · have Yd:pn<g.ag.length:=by omega
      obtain⟨pb,po,rfl,hFb,W7⟩:=lF (by omega);obtain⟨bb,cb,ZZ,hq2,hq3⟩:=jC W7 Yd;have hpg:g.ag[pn]=bU g.ag (pn:Int):=by
        unfold bU;rw[Int.toNat_natCast,List.getD_eq_getElem?_getD,List.getElem?_eq_getElem Yd];rfl
      rw[hpg]at ZZ hq2 hq3;have Z0:∀(L:List bI) (j:Nat) (v:Value),([.int .i64 (bU g.ag (pn:Int)).1,.slice bb (bU g.ag (pn:Int)).2.length cb]:List Value)[j]?=some v->At w L ⟨pb,po+pn*2+j,none⟩ v:=fun L j v hj=>f_ ZZ hj;clear W7 lF ZZ hq3
      by_cases q2:dn=(bU g.ag (pn:Int)).2.length
      · subst q2
        have vP:eI g.ag t nx t (s.take (k+1)) ln=eI g.ag t nx t (s.take k) ln++[(2,(pn:Int))]:=by
          rw[if_neg (fun h=>q1 (by have:=h.1;omega)),if_pos ⟨by omega,rfl⟩]at lW;exact lW
        repeat(first|refine GA ?_|refine gV (J (v:= .int .i64 (pn:Int)) ak.ty rfl (ah (i:=4) rfl rfl)) ?_|refine gV (J (v:= .slice (some ⟨pb,po,none⟩) g.ag.length cp) ak.ty rfl (ah (i:=0) rfl rfl)) ?_)
        refine cU ([aw g3 (cO (t:Int) g.aU (.slice (some ⟨pb,po,none⟩) g.ag.length cp)).cells 33,aw g11 (fG ((pn:Int),((bU g.ag (pn:Int)).2.length:Int),(ln:Int))).toArray 278]) (.calm 0 (.calm 1 (.calm 2 (.calm 3 (.calm 4 (.calm 5 (.calm 6 (.calm 7 (.calm 8 (.calm 9 (.calm 10 (.calm 11 (.calm 12 (.calm 13 (.calm 14 (.calm 15 (.calm 16 (.calm 17 (.calm 18 (.calm 19 (.done))))))))))))))))))))) (bz [0,4]) ?_
        repeat(first|refine GW ?_|(refine GN ?_;first|refine QW (J (v:= .int .i64 (pn:Int)) ak.ty rfl (ah (i:=1) rfl rfl)) ?_|refine QW (J (v:= .int .i64 ((bU g.ag (pn:Int)).2.length:Int)) ak.ty rfl (ah (i:=1) rfl rfl)) ?_|refine QW (J (v:= .slice (some ⟨pb,po,none⟩) g.ag.length cp) ak.ty rfl (ah (i:=0) rfl rfl)) ?_|refine QW (aC aT.eq ak.ty rfl rfl Yd) ?_|refine QW (J (v:= .slice bb (bU g.ag (pn:Int)).2.length cb) ak.ty rfl (Z0 _ 1 _ rfl)) ?_))
        try refine GA ?_
        refine Hj (q:=3) ln rfl Bh ?_;rw[hFt]
        conv=>arg 7;simp only[zA,zB,zC,zD,zE,zF,zG,zH,zI,bZ,ret,id_eq]
        refine cU ([aw g11 (fG ((pn:Int),((bU g.ag (pn:Int)).2.length:Int),(ln:Int))).toArray 278]) (.calm 0 (.calm 1 (.calm 2 (.calm 3 (.calm 4 (.calm 5 (.calm 6 (.calm 8 (.calm 9 (.calm 10 (.two 7 (.one 11 (.one 12 (.calm 13 (.one 14 (.done))))) 11 (.one 7 (.one 12 (.calm 13 (.one 14 (.done)))))))))))))))) (bz [4]) ?_
        repeat(first|refine GW ?_|(refine GN ?_;first|refine QW (J (v:= .int .i64 (ln:Int)) ak.ty rfl (ah (i:=0) rfl rfl)) ?_|refine QW (J (v:= .int .i64 (pn:Int)) ak.ty rfl (ah (i:=0) rfl rfl)) ?_|refine QW (bx aT.eq ak.ty rfl rfl Bh) ?_|refine QW (aP rfl (K_ _)) ?_))
        refine dE rfl rfl ?Z1 ?Z2
        case' Z1=>
          refine aV (J ak.ty rfl (eD (i:=2) rfl Bh)) rfl rfl rfl (av (bz [4]) ?_);refine ap rfl (eM (cs:=(iR (2,(pn:Int))).toArray) rfl rfl rfl rfl rfl fun g74=>av (bz [4]) ?_)
        case' Z2=>
          refine eM (cs:=(iR (2,(pn:Int))).toArray) rfl rfl rfl rfl rfl fun g74=>av (bz [4]) ?_;refine ap rfl (aV (J ak.ty rfl (eD (i:=2) rfl Bh)) rfl rfl rfl (av (bz [4]) ?_))
        all_goals
          refine ap rfl (kr (i:=5) (q:=6) rfl rfl rfl rfl rfl rfl (by omega) (by omega) rfl fun v3=>av (bz [4]) ?_)
          repeat(first|refine GW ?_|(refine GN ?_;first|refine QW (bx aT.eq ak.ty rfl rfl Bh) ?_))
          refine ap rfl (aD (i:=5) rfl fun gB jM=>fF (i:=2) (v:=v3) (fun j=>if j=ln then v3 else vs j) ak.ty rfl rfl rfl gB jM Bh (fun j _=>rfl) (av (bz [4]) ?_))
          try refine GW ?_
          refine Jv (D':=fun j=>j<t+1) (f':=kP (fun j=>if j=ln then v3 else vs j) (eI g.ag t nx t (s.take (k+1)))) ln 3 5 [0,1,2] (by decide) rfl rfl rfl (fun h=>h.2 rfl) (fun j hj=>by
            by_cases e:j=ln
            · exact .inr e
            · exact .inl ⟨hj,e⟩) (fun j hj=>by
            by_cases e:j=ln
            · subst e
              rw[uj];unfold kP;dsimp only;rw[vP,if_pos rfl,List.length_append,List.flatMap_append];rfl
            · rw[ui e]
              unfold kP;dsimp only;rw[IF j e,if_neg e]) ?_
          try refine GA ?_
          exact bB (k+1,fun j=>if j=ln then v3 else vs j) (by show k+1<=s.length;omega) (by show s.length-(k+1)<s.length-k;omega)
      · have oM:eI g.ag t nx t (s.take (k+1))=eI g.ag t nx t (s.take k):=funext fun j=>by
          by_cases e:j=ln
          · subst e
            rw[if_neg (fun h=>q1 (by have:=h.1;omega)),if_neg (fun h=>q2 (by have:=h.2;omega))]at lW;rw[lW];exact List.append_nil _
          · exact IF j e
        repeat(first|refine GA ?_|refine gV (J (v:= .int .i64 (pn:Int)) ak.ty rfl (ah (i:=4) rfl rfl)) ?_|refine gV (J (v:= .slice (some ⟨pb,po,none⟩) g.ag.length cp) ak.ty rfl (ah (i:=0) rfl rfl)) ?_)
        refine cU ([aw g3 (cO (t:Int) g.aU (.slice (some ⟨pb,po,none⟩) g.ag.length cp)).cells 33,aw g11 (fG ((pn:Int),(dn:Int),(ln:Int))).toArray 278]) (.calm 0 (.calm 1 (.calm 2 (.calm 3 (.calm 4 (.calm 5 (.calm 6 (.calm 7 (.calm 8 (.calm 9 (.calm 10 (.calm 11 (.calm 12 (.calm 13 (.calm 14 (.calm 15 (.calm 16 (.calm 17 (.calm 18 (.calm 19 (.done))))))))))))))))))))) (bz [0,4]) ?_
        repeat(first|refine GW ?_|(refine GN ?_;first|refine QW (J (v:= .int .i64 (pn:Int)) ak.ty rfl (ah (i:=1) rfl rfl)) ?_|refine QW (J (v:= .int .i64 (dn:Int)) ak.ty rfl (ah (i:=1) rfl rfl)) ?_|refine QW (J (v:= .slice (some ⟨pb,po,none⟩) g.ag.length cp) ak.ty rfl (ah (i:=0) rfl rfl)) ?_|refine QW (aC aT.eq ak.ty rfl rfl Yd) ?_|refine QW (J (v:= .slice bb (bU g.ag (pn:Int)).2.length cb) ak.ty rfl (Z0 _ 1 _ rfl)) ?_))
        try refine GA ?_
        refine cD [0,1,2,3] ?_;exact bB (k+1,vs) (by show k+1<=s.length;omega) (by show s.length-(k+1)<s.length-k;omega) (hl:=by dsimp only;rw[oM];rfl)
  · obtain rfl:k=s.length:=by omega
    rw[List.take_length]
    try refine GA ?_
    exact b9 rfl rfl fun w hm=>hm.meets (S:=FV t (ij g.ag t s nx)) (g7,vs) trivial [2,3] (by decide) rfl
end bK
namespace bK
open Go.RowKit bO dc aB dy cL aY bT
section
variable{P:Program}{n:Nat}{W:bC}{fr:Fr}{L:List bI}{Q:Exit->Act->World->Prop}{ops:Array Oper}{rest:List Oper}{d:Nat}{ty:TypeId}{pos:String}{after:Array Edge}
theorem FW{α:Type}{f:α->List Value}{c:Nat}(hc:∀a,(f a).length=c)(h0:0<c)(z:α){t e:TypeId}{x y:Operand}{bytes m:Nat}{k k':IntKind}{zs:Array Value}[mX P t e c bytes][aQ P e zs](hz:zs.toList=f z)(hx:ev fr x=some (.int k (m:Int)))(hy:ev fr y=some (.int k' (m:Int)))(hb:bytes*m<=281474976710656)(qD:m<=9223372036854775807)(hn:Nat.blt d n=true)
 (h:∀g,TL P n W ops Q rest ((d,.slice (some ⟨g,0,none⟩) m m)::fr) (L++[aM e c (.slice (some ⟨g,0,none⟩) m m) m ((List.replicate m z).flatMap f)])):TL P n W ops Q (⟨some d,.makeSlice t x y,ty,pos,after,none⟩::rest) fr L:=by
 refine pE hx hy (Nat.le_refl _) hb qD hn fun g=>AG (i:=L.length) c (List.getElem?_concat_length ..) (by rw[size_madeCells]) (Nat.le_refl _) qD ?_;have hsz:zs.size=c:=by rw[<-Array.length_toList,hz,hc]
 have hl:(madeCells zs (m*c)).toList.take (m*c)=(List.replicate m z).flatMap f:=by
  rw[UK hsz h0,List.take_of_length_le (by simp[hz,hc]),hz,List.flatMap_def,List.map_replicate]
 rw[hl];have:=h g
 rwa [List.set_append_right _ _ (Nat.le_refl _),Nat.sub_self,List.set_cons_zero]
end
abbrev Ni:=Int×Int×aY.Act×aY.Act
def FX(x:Ni):List Value:=[.int .i64 x.1,.int .i64 x.2.1,.int .i64 x.2.2.1.1,.int .i64 x.2.2.1.2,.int .i64 x.2.2.2.1,.int .i64 x.2.2.2.2]
def sq:sC aY.Act:=sQ iR 2 (fun _=>rfl) (fun _=>True)
section
variable(l:List aB.Prod)(T:Nat)(Nx:List (List Int))(S:List (List aY.Item))
abbrev za(q c:Nat):List aY.Act:=ij l T (S.getD q []) (Nx.getD q []) c
def qU(q c:Nat):List Ni:=(za l T Nx S q c).tail.map fun x=>((q:Int),(c:Int),(za l T Nx S q c).headD (0,0),x)
def fy(q:Nat):Nat->List Ni
 |0=>[]
 |c+1=>fy q c++qU l T Nx S q c
def fz:Nat->List Ni
 |0=>[]
 |q+1=>fz q++fy l T Nx S q (T+1)
def e9(q c:Nat):List aY.Act:=(List.range (T+1)).map fun j=>if j<c then lY l T Nx S q j else(0,0)
def fh(n:Nat):List (List aY.Act):=(List.range n).map fun q=>e9 l T Nx S q (T+1)
def d_(n:Nat):List (List Int):=(List.range n).map fun q=>(Nx.getD q []).drop T
end
def fB(g:dr):List (List aY.Act)×List (List Int)×List Ni×Int:=if(fY g).2.2≠0 then([],[],[],(fY g).2.2)else(fh g.ag g.aF.toNat (fY g).1 (fY g).2.1 (fY g).2.1.length,d_ g.aF.toNat (fY g).1 (fY g).2.1.length,fz g.ag g.aF.toNat (fY g).1 (fY g).2.1 (fY g).2.1.length,0)
structure IG where
 vA:Value
 wx:List Value
 FA:Nat->Prop
 vG:Value
 wy:List Value
 FG:Nat->Prop
def ME(x:IG)(A:List (List aY.Act))(G:List (List Int)):List bI:=[aM 92 1 x.vA A.length x.wx,dz (bD sq) x.FA (x.wx.map fun v=>[v]) A,aM 26 1 x.vG G.length x.wy,dz (bD fq) x.FG (x.wy.map fun v=>[v]) G]
def II(g:dr):Spec (IG×Value):=⟨fun _=>True,fun x=> .tuple #[.agg #[x.1.vA,x.1.vG],x.2,.int .i64 (fB g).2.2.2],fun x=>ME x.1 (fB g).1 (fB g).2.1++[aM 208 6 x.2 (fB g).2.2.1.length ((fB g).2.2.1.flatMap FX)]⟩
theorem IJ(w:World):(Instr.build 36 (#[]:Array (Nat×Value))).run Tryz.prog w= .ok (.agg #[.slice none 0 0,.slice none 0 0]) w:=by kernel_rfl
theorem MF(q c:Int)(a b:aY.Act)(w:World):(Instr.build 208 #[(0,.int .i64 q),(1,.int .i64 c),(2,.agg (iR a).toArray),(3,.agg (iR b).toArray)]).run Tryz.prog w= .ok (.agg (FX (q,c,a,b)).toArray) w:=by kernel_rfl
theorem IK{w:World}{v:Value}{l:List aY.Act}(h:(aM 94 2 v l.length (l.flatMap iR)).holds w):(bD sq).is (fun k=>v.ownBlock=some k) w [v] l:=
 ⟨v,rfl,iB.of_flat (Sl.cI h) (fun _ _=>trivial) (fun _ h=>h) (fun a n cp hv=>by rw[hv];rfl)⟩
theorem l_{l:List aB.Prod}{T:Nat}{Nx:List (List Int)}{S:List (List aY.Item)}{q c:Nat}:(e9 l T Nx S q c).length=T+1:=by unfold e9;rw[List.length_map,List.length_range]
theorem Qi{l:List aB.Prod}{T:Nat}{Nx:List (List Int)}{S:List (List aY.Item)}{q:Nat}:e9 l T Nx S q 0=List.replicate (T+1) (0,0):=by
 unfold e9;apply List.ext_getElem?;intro j
 by_cases h:j<T+1
 ·simp[h]
 ·simp[h]
theorem IL{l:List aB.Prod}{T:Nat}{Nx:List (List Int)}{S:List (List aY.Item)}{q c:Nat}(hc:c<T+1):(e9 l T Nx S q c).set c (lY l T Nx S q c)=e9 l T Nx S q (c+1):=by
 unfold e9;apply List.ext_getElem?;intro j;rw[List.getElem?_set]
 by_cases h:j<T+1
 ·by_cases e:c=j
  ·subst e;simp[h]
  ·rw[if_neg e]
   simp only[List.getElem?_map,List.getElem?_range h,Option.map_some]
   by_cases e2:j<c
   ·rw[if_pos e2,if_pos (by omega)]
   ·rw[if_neg e2,if_neg (by omega)]
 ·have h1:(List.range (T+1))[j]?=none:=List.getElem?_eq_none (by rw[List.length_range];omega)
  simp only[List.getElem?_map,h1,Option.map_none];split
  ·rename_i e;subst e;exact absurd hc h
  ·rfl
theorem FY{l:List aB.Prod}{T:Nat}{Nx:List (List Int)}{S:List (List aY.Item)}{q c:Nat}(h:za l T Nx S q c=[]):e9 l T Nx S q (c+1)=e9 l T Nx S q c:=by
 unfold e9;apply List.map_congr_left;intro j hj
 by_cases e:j=c
 ·subst e
  rw[if_pos (Nat.lt_succ_self _),if_neg (Nat.lt_irrefl _)];unfold lY;rw[show ij l T (S.getD q []) (Nx.getD q []) j=[]from h];rfl
 ·by_cases e2:j<c
  ·rw[if_pos e2,if_pos (by omega)]
  ·rw[if_neg e2,if_neg (by omega)]
theorem zb{l:List aB.Prod}{T:Nat}{Nx:List (List Int)}{S:List (List aY.Item)}{q:Nat}{M:Nat}(h:(S.getD q []).length<=M):∀c,(fy l T Nx S q c).length<=c*(M+1)
  |0=>Nat.zero_le _
  | c +1=>by
    rw[fy,List.length_append,Nat.succ_mul];have h2:(qU l T Nx S q c).length<=M+1:=by
      unfold qU;rw[List.length_map,List.length_tail];have:(za l T Nx S q c).length<=1+(S.getD q []).length:=by rw[za,<-BE];exact uH
      omega
    have:=zb (l:=l) (T:=T) (Nx:=Nx) h c;omega
theorem vU{l:List aB.Prod}{T:Nat}{Nx:List (List Int)}{S:List (List aY.Item)}{M:Nat}(h:∀q,(S.getD q []).length<=M):∀q,(fz l T Nx S q).length<=q*((T+1)*(M+1))
 |0=>Nat.zero_le _
 |q+1=>by
  rw[fz,List.length_append,Nat.succ_mul];have:=vU (l:=l) (T:=T) (Nx:=Nx) h q;have:=zb (l:=l) (T:=T) (Nx:=Nx) (h q) (T+1);omega
theorem tJ{l:List aB.Prod}{T:Nat}{Nx:List (List Int)}{S:List (List aY.Item)}{q c:Nat}:∀{d:Nat},c<=d->(fy l T Nx S q c).length<=(fy l T Nx S q d).length
  | 0, h => by obtain rfl:c=0:=by omega
               exact Nat.le_refl _
  | d +1,h=>by
    by_cases e:c=d+1
    · subst e;exact Nat.le_refl _
    · rw[fy,List.length_append]
      have:=tJ (l:=l) (T:=T) (Nx:=Nx) (S:=S) (q:=q) (c:=c) (d:=d) (by omega);omega
theorem FZ{l:List aB.Prod}{T:Nat}{Nx:List (List Int)}{S:List (List aY.Item)}(n:Nat):fh l T Nx S (n+1)=fh l T Nx S n++[e9 l T Nx S n (T+1)]:=by unfold fh;rw[List.range_succ,List.map_append];rfl
theorem Da{T:Nat}{Nx:List (List Int)}(n:Nat):d_ T Nx (n+1)=d_ T Nx n++[(Nx.getD n []).drop T]:=by unfold d_;rw[List.range_succ,List.map_append];rfl
theorem fQ{l:List aB.Prod}{T:Nat}{Nx:List (List Int)}{S:List (List aY.Item)}(n:Nat):(fh l T Nx S n).length=n:=by unfold fh;rw[List.length_map,List.length_range]
theorem ju{T:Nat}{Nx:List (List Int)}(n:Nat):(d_ T Nx n).length=n:=by unfold d_;rw[List.length_map,List.length_range]
theorem Db(v:Value)(g:dr)(w:World)(hG:iZ (fun k=>k<w.heap.size) w v g):
    Calls Tryz.prog 45 #[v] w (bM (II g) w):=by
  have Vh:=hG;have hal:=fun w' (hg:Gr w w')=>Mp v g w' (hG.gr hg);have Z3:=fun T C1 hT bS oS lS cS bN oN lN cN n kH vn1 s nx w' (hg:Gr w w')=>C' v g T C1 hT bS oS lS cS bN oN lN cN n kH vn1 s nx w' (hG.gr hg);obtain⟨vp,rfl,-⟩:=hG;have sG:=IJ;have hO:fB g=if(fY g).2.2≠0 then([],[],[],(fY g).2.2)else(fh g.ag g.aF.toNat (fY g).1 (fY g).2.1 (fY g).2.1.length,d_ g.aF.toNat (fY g).1 (fY g).2.1.length,fz g.ag g.aF.toNat (fY g).1 (fY g).2.1 (fY g).2.1.length,0):=rfl
  unfold II ME;refine enter (args:=[cO g.aF g.aU vp]) (n:=92) Tryz.func45 rfl rfl rfl ?_;refine a8 (aL (a_ rfl rfl rfl fun g1=>?_));refine zL ?_
  try refine GA ?_
  refine aK rfl fun g2=>?_;refine zL ?_
  repeat(first|refine GA ?_|refine gV (az (i:=0) ak.ty rfl rfl rfl) ?_)
  refine aI (jc aj.en rfl rfl) (fun w hm=>hal w hm.below) rfl rfl rfl ?_;rintro⟨vS,vN,qQ,F,vH,FN⟩ _
  conv=>arg 8;simp only[zJ,bZ,ret,id_eq,Tq]
  conv=>arg 7;simp only[Tq]
  have jZ:=J' (g:=g);have hno:=Tu (g:=g);obtain⟨⟨Nx,S,e⟩,hOA⟩:∃R,fY g=R:=⟨_,rfl⟩;rw[hOA]at jZ hno hO;rw[hOA];dsimp only at jZ hno hO⊢;refine mA (i:=2) rfl eE fun fc=>?_;obtain⟨aS,cS,rfl,-,haS⟩:=fc;refine mA (i:=4) rfl eE fun fc=>?_;obtain⟨aN,cN,rfl,-,haN⟩:=fc;clear hOA hal
  try refine GA ?_
  refine aK rfl fun g5=>?_;refine zL ?_;refine fa 6 (cs':=#[.slice aS S.length cS,.slice aN Nx.length cN]) ?_;refine zL ?_
  try refine GA ?_
  by_cases c0:e=0
  · subst c0
    rw[if_neg (by simp)]at hO;obtain⟨hg,hA⟩:=jZ rfl;obtain⟨hT1,hT2,Rq,V9,w6,Zy⟩:=bV hg;have DN:∀q∈g.ag,q.2.length<=8:=fun q hq=>(Zy q hq).1;obtain⟨T,C1⟩:∃T:Nat,g.aF=(T:Int):=⟨g.aF.toNat,by omega⟩;obtain⟨N,ZA⟩:∃N:Nat,g.aU=(N:Int):=⟨g.aU.toNat,by omega⟩;have hTn:g.aF.toNat=T:=by omega
    rw[hTn,show g.aU.toNat=N by omega]at hA;rw[hTn]at hO;have hT:T<=30:=by omega
    have hI:=Fb DN w6 hT hA;have Ij:=Tt DN w6 hT hA;have hS0:0<S.length:=(List.getElem?_eq_some_iff.1 hI.start).1;have hS2:=hI.Hx;have hNl:=hI.len;have Z3:=Z3 T C1 hT;obtain⟨gS,rfl⟩:=haS hS0;obtain⟨gN,rfl⟩:=haN (by omega);clear jZ hno haS haN;rw[C1,hO];rw[C1]at Z3
    try refine GA ?_
    refine aK rfl fun g7=>?_;refine zL ?_
    repeat(first|refine GA ?_|refine gV (J (v:= .slice (some ⟨gS,0,none⟩) S.length cS) ak.ty rfl (ah (i:=6) rfl rfl)) ?_)
    refine g_ 92 1 (mz (dz (bD sq) (fun _=>False) [] []) (fun k hk=>hk.elim (fun h=>by cases h) id) (fun w=>iM) (g_ 26 1 (mz (dz (bD fq) (fun _=>False) [] []) (fun k hk=>hk.elim (fun h=>by cases h) id) (fun w=>iM) (g_ 208 6 ?_))))
    conv=>arg 7;simp only[zA,zB,zC,zD,zE,zF,zG,zH,zI,bZ,ret,id_eq]
    refine dv (ι:=Nat×IG×Value) (fun(n,_,_)=>n<=S.length) (fun(n,_,vf)=>[(1,.pointer (some ⟨g1,0,none⟩)),(2,.pointer (some ⟨g2,0,none⟩)),(5,.pointer (some ⟨g5,0,none⟩)),(7,.pointer (some ⟨g7,0,none⟩)),(8,vf),(26,.int .i64 (S.length:Int)),(27,.int .i64 (n:Int))])
      (fun(n,x,vf)=>[aw g1 (cO (T:Int) g.aU vp).cells 33,aw g2 #[.slice none 0 0,.slice none 0 0] 36,aM 273 1 (.slice (some ⟨gS,0,none⟩) S.length cS) S.length qQ,dz (bD CR) F (qQ.map fun v=>[v]) S,aM 26 1 (.slice (some ⟨gN,0,none⟩) Nx.length cN) Nx.length vH,dz (bD fq) FN (vH.map fun v=>[v]) Nx,aw g5 #[.slice (some ⟨gS,0,none⟩) S.length cS,.slice (some ⟨gN,0,none⟩) Nx.length cN] 203,aw g7 #[x.vA,x.vG] 36,aM 92 1 x.vA (fh g.ag T Nx S n).length x.wx,dz (bD sq) x.FA (x.wx.map fun v=>[v]) (fh g.ag T Nx S n),aM 26 1 x.vG (d_ T Nx n).length x.wy,dz (bD fq) x.FG (x.wy.map fun v=>[v]) (d_ T Nx n),aM 208 6 vf (fz g.ag T Nx S n).length ((fz g.ag T Nx S n).flatMap FX)]) (fun(n,_,_)=>S.length-n) (0,⟨.slice none 0 0,[],fun _=>False,.slice none 0 0,[],fun _=>False⟩,.slice none 0 0) (Nat.zero_le _) ?_
    rintro⟨n,x,vf⟩ i1;dsimp only at i1⊢
    by_cases c1:n<S.length
    · have TK:n<Nx.length:=by omega
      have hSn:S.getD n []=S[n]:=by rw[List.getD_eq_getElem?_getD,List.getElem?_eq_getElem c1];rfl
      have Xi:Nx.getD n []=Nx[n]:=by rw[List.getD_eq_getElem?_getD,List.getElem?_eq_getElem TK];rfl
      have Tr:=hI.ss.right S[n] (List.getElem_mem c1);have hwd:=hI.wide n c1;rw[Xi]at hwd;have sb:=Ij S[n] (List.getElem_mem c1);refine fv (i:=3) rfl (fun w h=>Br h) fun Rv=>?_;refine fv (i:=5) rfl (fun w h=>Br h) fun hnl=>?_;have hvq:qQ[0+n]?=some (qQ[n]'(by omega)):=by rw[Nat.zero_add];exact List.getElem?_eq_getElem _
      have Z4:qQ[n]?=some (qQ[n]'(by omega)):=List.getElem?_eq_getElem _;generalize qQ[n]'(by omega)=vq at hvq Z4;have hnq:vH[0+n]?=some (vH[n]'(by omega)):=by rw[Nat.zero_add];exact List.getElem?_eq_getElem _
      have Qj:vH[n]?=some (vH[n]'(by omega)):=List.getElem?_eq_getElem _;generalize vH[n]'(by omega)=nq at hnq Qj;refine fv (i:=5) rfl (fun w h=>And.intro (PC h TK Qj) (iB.okp (Ie h TK Qj))) fun Z5=>?_;obtain⟨⟨aq,cq,rfl,hcq,aca,-⟩,abv⟩:=Z5;have zZ:(fz g.ag T Nx S n++fy g.ag T Nx S n (T+1)).length<=100000000:=by
        have h1:=vU (l:=g.ag) (T:=T) (Nx:=Nx) (S:=S) (M:=11439) (fun q=>by
          by_cases hq:q<S.length
          · rw[List.getD_eq_getElem?_getD,List.getElem?_eq_getElem hq];exact Ij _ (List.getElem_mem hq)
          · rw[List.getD_eq_getElem?_getD,List.getElem?_eq_none (by omega)];exact Nat.zero_le _) (n+1)
        rw[fz]at h1;exact Nat.le_trans h1 (Nat.le_trans (Nat.mul_le_mul (show n+1<=200 by omega) (Nat.mul_le_mul (show T+1<=31 by omega) (Nat.le_refl _))) (by decide))
      have hS1:=fun(L:List bI) (i:Nat) (hL:L[i]?=some (dz (bD CR) F (qQ.map fun v=>[v]) S))=>If (W:=(w:bC)) (L:=L) (f:=fG) (c:=3) (by decide) hL c1 Z4;have Rq:∀(L:List bI) (i:Nat) (hL:L[i]?=some (dz (bD fq) FN (vH.map fun v=>[v]) Nx)),RP (w:bC) L (.slice aq Nx[n].length cq) Nx[n].length (Nx[n].map (Value.int .i64)):=fun L i hL w' mN=>by
        have:=If (W:=(w:bC)) (L:=L) (f:=fun n=>[Value.int .i64 n]) (c:=1) (by decide) hL TK Qj w' mN
        rwa [<-List.map_eq_flatMap]at this
      repeat(first|refine GC ?_|refine gV (J (v:= .int .i64 (T:Int)) ak.ty rfl (ah (i:=0) rfl rfl)) ?_|refine gV (cB (r:=((T+1:Nat):Int)) rfl rfl (by omega) (by omega) (by omega)) ?_|refine GB ?_)
      refine FW nF (by decide) (0,0) rfl rfl rfl (by omega) (by omega) rfl fun g10=>?_;rw[<-Qi (l:=g.ag) (Nx:=Nx) (S:=S) (q:=n)];refine zL ?_
      repeat(first|refine GA ?_|refine gV (az (i:=0) ak.ty rfl rfl rfl) ?_|refine gV (az (i:=6) ak.ty rfl rfl rfl) ?_)
      refine aI (S:=FV T (ij g.ag T S[n] Nx[n])) (sB aj.en rfl rfl rfl rfl) (fun w hm=>Z3 gS 0 S.length cS gN 0 Nx.length cN n vq (.slice aq Nx[n].length cq) S[n] Nx[n] w hm.below w6 c1 (sZ (hm.get (i:=2) rfl) hvq) (hS1 _ 3 rfl w hm) TK (sZ (hm.get (i:=4) rfl) hnq) (Rq _ 5 rfl w hm) (by omega) Tr (by omega) (by omega)) rfl rfl rfl ?_;rintro⟨ga,vs⟩ _
      conv=>arg 8;simp only[zJ,bZ,ret,id_eq,FV]
      conv=>arg 7;simp only[FV]
      rw[<-hSn,<-Xi];clear Z3
      try refine GA ?_
      refine jA (ι:=Nat×Value) (fun(c,_)=>c<=T+1) (fun(c,vf)=>[(1,.pointer (some ⟨g1,0,none⟩)),(2,.pointer (some ⟨g2,0,none⟩)),(5,.pointer (some ⟨g5,0,none⟩)),(7,.pointer (some ⟨g7,0,none⟩)),(8,vf),(26,.int .i64 (S.length:Int)),(27,.int .i64 (n:Int)),(9,.int .i64 (n:Int)),(10,.slice (some ⟨g10,0,none⟩) (T+1) (T+1)),(37,.slice (some ⟨ga,0,none⟩) (T+1) (T+1)),(38,.int .i64 ((T+1:Nat):Int)),(39,.int .i64 (c:Int))])
        (fun(c,vf)=>[aw g1 (cO (T:Int) g.aU vp).cells 33,aw g2 #[.slice none 0 0,.slice none 0 0] 36,aM 273 1 (.slice (some ⟨gS,0,none⟩) S.length cS) S.length qQ,dz (bD CR) F (qQ.map fun v=>[v]) S,aM 26 1 (.slice (some ⟨gN,0,none⟩) Nx.length cN) Nx.length vH,dz (bD fq) FN (vH.map fun v=>[v]) Nx,aw g5 #[.slice (some ⟨gS,0,none⟩) S.length cS,.slice (some ⟨gN,0,none⟩) Nx.length cN] 203,aw g7 #[x.vA,x.vG] 36,aM 92 1 x.vA (fh g.ag T Nx S n).length x.wx,dz (bD sq) x.FA (x.wx.map fun v=>[v]) (fh g.ag T Nx S n),aM 26 1 x.vG (d_ T Nx n).length x.wy,dz (bD fq) x.FG (x.wy.map fun v=>[v]) (d_ T Nx n),aM 208 6 vf (fz g.ag T Nx S n++fy g.ag T Nx S n c).length ((fz g.ag T Nx S n++fy g.ag T Nx S n c).flatMap FX),aM 94 2 (.slice (some ⟨g10,0,none⟩) (T+1) (T+1)) (T+1) ((e9 g.ag T Nx S n c).flatMap iR),dU 92 qu ga (T+1) vs,fS (fun j=>j<T+1) (kP vs (ij g.ag T (S.getD n []) (Nx.getD n [])))]) (fun(c,_)=>T+1-c) (0,vf) (Nat.zero_le _) (by repeat' (first|exact True.intro|refine And.intro rfl ?_)) (by dsimp only;rw[fy,List.append_nil]) ?_
      rintro⟨c,vf⟩ j1;dsimp only at j1⊢
      by_cases c2:c<T+1
      · obtain⟨X,hX⟩:∃X,ij g.ag T (S.getD n []) (Nx.getD n []) c=X:=⟨_,rfl⟩
        have hXl:X.length<=11440:=by
          rw[<-hX,<-BE];have:=uH (l:=g.ag) (T:=T) (nx:=Nx.getD n []) (t:=T) (s:=S.getD n []) (c:=c);rw[hSn]at this⊢;omega
        have Z6:=IL (l:=g.ag) (Nx:=Nx) (S:=S) (q:=n) c2;have Z7:X=[]->e9 g.ag T Nx S n (c+1)=e9 g.ag T Nx S n c:=fun h=>FY (by unfold za;rw[hX,h]);have hhd:lY g.ag T Nx S n c=X.headD (0,0):=by unfold lY;rw[hX]
        have Jr:fy g.ag T Nx S n (c+1)=fy g.ag T Nx S n c++X.tail.map fun x=>(((n:Int),(c:Int),X.headD (0,0),x):Ni):=by
          rw[fy,qU];unfold za;rw[hX]
        have acb:(fz g.ag T Nx S n++fy g.ag T Nx S n c).length<=100000000:=by
          rw[List.length_append]at zZ⊢;have:=tJ (l:=g.ag) (T:=T) (Nx:=Nx) (S:=S) (q:=n) (show c<=T+1 by omega);omega
        generalize Z8:fz g.ag T Nx S n++fy g.ag T Nx S n c=base at*;refine fv (i:=15) rfl (fun w h=>eE w (h.1 c c2)) fun fc=>?_;obtain⟨ax,cx,Wo,-,hax⟩:=fc;rw[hX]at Wo hax;have Ql:∀(L:List bI) (i:Nat) (gx:Nat),ax=some ⟨gx,0,none⟩->L[i]?=some (fS (fun j=>j<T+1) (kP vs (ij g.ag T (S.getD n []) (Nx.getD n []))))->∀k (hk:k<X.length) (j:Nat) (u:Value),(iR X[k])[j]?=some u->At (w:bC) L ⟨gx,0+k*2+j,none⟩ u:=fun L i gx hgx hL k hk j u hu=>Si hL fun w h=>by
          have h2:=h.1 c c2;unfold kP at h2;rw[Wo,hX,hgx]at h2;have V':j<2:=by rw[<-nF X[k]];exact(List.getElem?_eq_some_iff.1 hu).1
          exact sZ h2 (by rw[Nat.zero_add,rG nF X k j hk V'];exact hu)
        repeat(first|refine GA ?_|refine gV (bx aT.eq ak.ty rfl rfl c2) ?_|refine gV (J (v:= .slice ax X.length cx) ak.ty rfl (by have:=eD (W:=(w:bC)) (val:=qu) (i:=14) (f:=vs) (e:=92) (g:=ga) (len:=T+1) (L:=[aw g1 (cO (T:Int) g.aU vp).cells 33,aw g2 #[.slice none 0 0,.slice none 0 0] 36,aM 273 1 (.slice (some ⟨gS,0,none⟩) S.length cS) S.length qQ,dz (bD CR) F (qQ.map fun v=>[v]) S,aM 26 1 (.slice (some ⟨gN,0,none⟩) Nx.length cN) Nx.length vH,dz (bD fq) FN (vH.map fun v=>[v]) Nx,aw g5 #[.slice (some ⟨gS,0,none⟩) S.length cS,.slice (some ⟨gN,0,none⟩) Nx.length cN] 203,aw g7 #[x.vA,x.vG] 36,aM 92 1 x.vA (fh g.ag T Nx S n).length x.wx,dz (bD sq) x.FA (x.wx.map fun v=>[v]) (fh g.ag T Nx S n),aM 26 1 x.vG (d_ T Nx n).length x.wy,dz (bD fq) x.FG (x.wy.map fun v=>[v]) (d_ T Nx n),aM 208 6 vf (base).length ((base).flatMap FX),aM 94 2 (.slice (some ⟨g10,0,none⟩) (T+1) (T+1)) (T+1) ((e9 g.ag T Nx S n c).flatMap iR),dU 92 qu ga (T+1) vs,fS (fun j=>j<T+1) (kP vs (ij g.ag T (S.getD n []) (Nx.getD n [])))]) rfl c2;rw[Wo]at this;exact this)) ?_)
        refine jA (ι:=Nat×Value) (fun(i,_)=>i<=X.length) (fun(i,vf)=>[(1,.pointer (some ⟨g1,0,none⟩)),(2,.pointer (some ⟨g2,0,none⟩)),(5,.pointer (some ⟨g5,0,none⟩)),(7,.pointer (some ⟨g7,0,none⟩)),(8,vf),(26,.int .i64 (S.length:Int)),(27,.int .i64 (n:Int)),(9,.int .i64 (n:Int)),(10,.slice (some ⟨g10,0,none⟩) (T+1) (T+1)),(37,.slice (some ⟨ga,0,none⟩) (T+1) (T+1)),(38,.int .i64 ((T+1:Nat):Int)),(11,.int .i64 (c:Int)),(12,.slice ax X.length cx),(39,.int .i64 (c:Int)),(44,.slice ax X.length cx),(45,.int .i64 (X.length:Int)),(46,.int .i64 (i:Int))])
          (fun(i,vf)=>[aw g1 (cO (T:Int) g.aU vp).cells 33,aw g2 #[.slice none 0 0,.slice none 0 0] 36,aM 273 1 (.slice (some ⟨gS,0,none⟩) S.length cS) S.length qQ,dz (bD CR) F (qQ.map fun v=>[v]) S,aM 26 1 (.slice (some ⟨gN,0,none⟩) Nx.length cN) Nx.length vH,dz (bD fq) FN (vH.map fun v=>[v]) Nx,aw g5 #[.slice (some ⟨gS,0,none⟩) S.length cS,.slice (some ⟨gN,0,none⟩) Nx.length cN] 203,aw g7 #[x.vA,x.vG] 36,aM 92 1 x.vA (fh g.ag T Nx S n).length x.wx,dz (bD sq) x.FA (x.wx.map fun v=>[v]) (fh g.ag T Nx S n),aM 26 1 x.vG (d_ T Nx n).length x.wy,dz (bD fq) x.FG (x.wy.map fun v=>[v]) (d_ T Nx n),aM 208 6 vf ((base++(X.tail.take (i-1)).map fun x=>(((n:Int),(c:Int),X.headD (0,0),x):Ni))).length (((base++(X.tail.take (i-1)).map fun x=>(((n:Int),(c:Int),X.headD (0,0),x):Ni))).flatMap FX),aM 94 2 (.slice (some ⟨g10,0,none⟩) (T+1) (T+1)) (T+1) ((if i=0 then e9 g.ag T Nx S n c else e9 g.ag T Nx S n (c+1)).flatMap iR),dU 92 qu ga (T+1) vs,fS (fun j=>j<T+1) (kP vs (ij g.ag T (S.getD n []) (Nx.getD n [])))]) (fun(i,_)=>X.length-i) (0,vf) (Nat.zero_le _) (by repeat' (first|exact True.intro|refine And.intro rfl ?_)) (by simp) ?_
        rintro⟨i,vf⟩ k1;dsimp only at k1⊢
        by_cases c3:i<X.length
        · have abw:=fun(L:List bI) (k:Nat) (gx:Nat) (hgx:ax=some ⟨gx,0,none⟩) (hL:L[k]?=some (fS (fun j=>j<T+1) (kP vs (ij g.ag T (S.getD n []) (Nx.getD n [])))))=>Ql L k gx hgx hL i c3
          obtain⟨gx,rfl⟩:=hax (by omega);have Xj:∀(L:List bI) (k:Nat),L[k]?=some (fS (fun j=>j<T+1) (kP vs (ij g.ag T (S.getD n []) (Nx.getD n []))))->∀(j:Nat) (u:Value),(iR (X.headD (0,0)))[j]?=some u->At (w:bC) L ⟨gx,0+0*2+j,none⟩ u:=fun L k hL j u hu=>Ql L k gx rfl hL 0 (by omega) j u (by
            have:X.headD (0,0)=X[0]'(by omega):=by
              cases X with
              |nil=>exact absurd c3 (Nat.not_lt_zero _)
              |cons y r=>rfl
            rwa [this]at hu)
          have hXi:i=0->X[i]=lY g.ag T Nx S n c:=fun e=>by
            subst e;rw[hhd]
            cases X with
            |nil=>exact absurd c3 (Nat.not_lt_zero _)
            |cons y r=>rfl
          have hXt:i≠0->X.tail.take (i+1-1)=X.tail.take (i-1)++[X[i]]:=fun e=>by
            obtain⟨m,rfl⟩:∃m,i=m+1:=⟨i-1,by omega⟩
            cases X with
            |nil=>exact absurd c3 (Nat.not_lt_zero _)
            | cons y r=>
              have hm:m<r.length:=by simpa using c3
              show r.take (m+1)=r.take m++[r[m]]
              exact List.take_succ_eq_append_getElem hm
          have abN:(base++(X.tail.take (i-1)).map fun x=>(((n:Int),(c:Int),X.headD (0,0),x):Ni)).length<=100100000:=by
            rw[List.length_append,List.length_map,List.length_take,List.length_tail];omega
          have hbf:=MF (n:Int) (c:Int) (X.headD (0,0));generalize hXX:X[i]=xa at*;clear Ql hS1 Rq
          repeat(first|refine GA ?_|refine gV (aC aT.eq ak.ty rfl rfl c3) ?_|refine gV (aH (cs:=iR xa) ak.ty rfl rfl (abw _ 15 gx rfl rfl)) ?_)
          refine aK rfl fun g14=>?_;refine zL ?_
          try refine GA ?_
          refine fa 16 (cs':=(iR xa).toArray) ?_;refine zL ?_
          by_cases q1:i=0
          · subst q1
            rw[if_pos rfl];have hXi:=hXi rfl
            repeat(first|refine GA ?_|refine gV (az (i:=16) ak.ty rfl rfl rfl) ?_|refine gV (aC aT.eq ak.ty rfl rfl c2) ?_)
            refine ua nF (k:=c) (a:=xa) (i:=13) ak.ty rfl rfl (by omega) (by rw[l_];exact c2) l_.symm rfl rfl rfl ?_;rw[hXi,Z6];refine zL ?_
            try refine GA ?_
            refine cD [0,1,2,3,4,5,6,7,8,9,10,11,12,13,14,15] ?_;exact bB (0+1,vf) (by show 0+1<=X.length;omega) (by show X.length-(0+1)<X.length-0;omega) (hl:=by dsimp only;rw[if_neg (by omega)];rfl)
          · rw[if_neg q1]
            have jX:base++(X.tail.take (i+1-1)).map (fun x=>(((n:Int),(c:Int),X.headD (0,0),x):Ni))=(base++(X.tail.take (i-1)).map fun x=>(((n:Int),(c:Int),X.headD (0,0),x):Ni))++[((n:Int),(c:Int),X.headD (0,0),xa)]:=by rw[hXt q1,List.map_append,<-List.append_assoc];rfl
            clear hXt;generalize (base++(X.tail.take (i-1)).map fun x=>(((n:Int),(c:Int),X.headD (0,0),x):Ni))=fb at*
            try refine GA ?_
            refine cU ([fS (fun j=>j<T+1) (kP vs (ij g.ag T (S.getD n []) (Nx.getD n []))),aw g14 (iR xa).toArray 94]) (.calm 0 (.calm 1 (.calm 2 (.calm 3 (.calm 4 (.calm 5 (.calm 6 (.calm 7 (.one 8 (.one 9 (.calm 10 (.done)))))))))))) (bz [15,16]) ?_
            repeat(first|refine GW ?_|(refine GN ?_;first|refine QW (aC (j:=0) aT.eq ak.ty rfl rfl (show 0<X.length by omega)) ?_|refine QW (aH (cs:=iR (X.headD (0,0))) ak.ty rfl rfl (Xj _ 0 rfl)) ?_|refine QW (az (i:=1) ak.ty rfl rfl rfl) ?_|refine QW (aP rfl (hbf _)) ?_))
            refine ap rfl (eM (cs:=(FX ((n:Int),(c:Int),X.headD (0,0),xa)).toArray) rfl rfl rfl rfl rfl fun g65=>av (bz [15,16]) ?_);refine ap rfl (kr (i:=12) (q:=17) rfl rfl rfl rfl rfl rfl (by omega) (by omega) rfl fun vf2=>av (bz [15,16]) ?_)
            try refine GW ?_
            try refine GA ?_
            refine cD [0,1,2,3,4,5,6,7,8,9,10,11,12,13,14,15] ?_;exact bB (i+1,vf2) (by show i+1<=X.length;omega) (by show X.length-(i+1)<X.length-i;omega) (hl:=by dsimp only;rw[if_neg (by omega),jX,List.length_append,List.flatMap_append];rfl)
        · obtain rfl:i=X.length:=by omega
          have Z9:(if X.length=0 then e9 g.ag T Nx S n c else e9 g.ag T Nx S n (c+1))=e9 g.ag T Nx S n (c+1):=by
            by_cases e:X.length=0
            · rw[if_pos e];exact(Z7 (List.eq_nil_of_length_eq_zero e)).symm
            · rw[if_neg e]
          have htt:X.tail.take (X.length-1)=X.tail:=List.take_of_length_le (by rw[List.length_tail];exact Nat.le_refl _);rw[Z9,htt]
          try refine GA ?_
          exact bB (c+1,vf) (by show c+1<=T+1;omega) (by show T+1-(c+1)<T+1-c;omega) (hl:=by dsimp only;rw[Jr,<-List.append_assoc,Z8])
      · obtain rfl:c=T+1:=by omega
        have hTN:T<=Nx[n].length:=by omega
        have M_:(Nx[n].drop T).length=Nx[n].length-T:=List.length_drop;have H3:(Nx[n].drop T).take (Nx[n].length-T)=Nx[n].drop T:=List.take_of_length_le (by rw[M_];exact Nat.le_refl _);have hSub:∀(L:List bI) (i:Nat),L[i]?=some (dz (bD fq) FN (vH.map fun v=>[v]) Nx)->RP (w:bC) L (wj aq cq 1 T Nx[n].length) (Nx[n].length-T) ((Nx[n].drop T).map (Value.int .i64)):=fun L i hL w' mN=>by
          have h1:=If (W:=(w:bC)) (L:=L) (f:=fun n=>[Value.int .i64 n]) (c:=1) (by decide) hL TK Qj w' mN;have h2:=rH (i:=T) (j:=Nx[n].length) (f:=fun n=>[Value.int .i64 n]) (fun _=>rfl) h1 hTN (Nat.le_refl _);rw[H3,M_,<-List.map_eq_flatMap]at h2;exact h2
        have Vk:((Nx[n].drop T).map (Value.int .i64)).length=(Nx[n].length-T)*1:=by rw[List.length_map,M_,Nat.mul_one]
        have Vl:∀u∈(Nx[n].drop T).map (Value.int .i64),u.oneCell'=true:=fun u hu=>by obtain⟨y,_,rfl⟩:=List.mem_map.1 hu;rfl
        have hgo:∀{v:Value} {w':World},(aM 3 1 v (0+(Nx[n].length-T)) ([]++(Nx[n].drop T).map (Value.int .i64))).holds w'->(bD fq).is (fun k=>v.ownBlock=some k) w' [v] ((Nx.getD n []).drop T):=fun {v w'} h=>by
          rw[Xi];rw[Nat.zero_add,List.nil_append,<-M_]at h;exact vD (fun y hy=>abv y (List.mem_of_mem_drop hy)) h
        repeat(first|refine GA ?_|refine gV (J (v:=x.vA) ak.ty rfl (ah (i:=7) rfl rfl)) ?_)
        have hAl:=fQ (l:=g.ag) (T:=T) (Nx:=Nx) (S:=S) n;have hGl:=ju (T:=T) (Nx:=Nx) n;refine je (i:=8) rfl rfl rfl rfl rfl rfl (fun z h=>by cases h;rfl) (by omega) (by omega) rfl fun z vA2=>?_;refine zL ?_;refine sR (dz (bD sq) (fun k=>x.FA k\/(Value.slice (some ⟨g10,0,none⟩) (T+1) (T+1)).ownBlock=some k) ((x.wx.map fun v=>[v])++[[.slice (some ⟨g10,0,none⟩) (T+1) (T+1)]]) (fh g.ag T Nx S n++[e9 g.ag T Nx S n (T+1)])) 13 9 [0,1,2,3,4,5,6,7,8,10,11,12] (by decide) rfl rfl rfl (fun k hk=>hk.elim (fun h=>by cases h) fun h=>h.elim (fun h=> .inr (.inr h)) fun h=> .inl (.inl h)) (fun w hr he=>nf he (IK (by rw[l_];exact hr)) (tA hr)) ?_;refine zL ?_
        try refine GA ?_
        refine aD (i:=8) rfl fun gB jM=>aW (i:=7) rfl rfl rfl gB jM rfl ?_;refine zL ?_
        try refine GA ?_
        refine g_ 3 1 ?_
        conv=>arg 7;simp only[zA,zB,zC,zD,zE,zF,zG,zH,zI,bZ,ret,id_eq]
        refine cU ([aw g1 (cO (T:Int) g.aU vp).cells 33,aM 26 1 (.slice (some ⟨gN,0,none⟩) Nx.length cN) Nx.length vH,dz (bD fq) FN (vH.map fun v=>[v]) Nx,aw g5 #[.slice (some ⟨gS,0,none⟩) S.length cS,.slice (some ⟨gN,0,none⟩) Nx.length cN] 203]) (.calm 0 (.calm 2 (.calm 3 (.calm 4 (.calm 5 (.calm 6 (.calm 7 (.calm 8 (.calm 9 (.two 1 (.one 10 (.one 11 (.one 12 (.calm 13 (.one 14 (.done)))))) 10 (.two 1 (.one 11 (.one 12 (.calm 13 (.one 14 (.done))))) 11 (.one 1 (.one 12 (.calm 13 (.one 14 (.done)))))))))))))))) (bz [0,4,5,6]) ?_
        repeat(first|(refine GN ?_;first|refine QW QP ?_|refine QW (J (v:= .slice (some ⟨gN,0,none⟩) Nx.length cN) ak.ty rfl (ah (i:=3) rfl rfl)) ?_|refine QW (bx aT.eq ak.ty rfl rfl TK) ?_|refine QW (J (v:= .slice aq Nx[n].length cq) ak.ty rfl (ix (i:=1) rfl hnq)) ?_|refine QW (J (v:= .int .i64 (T:Int)) ak.ty rfl (ah (i:=0) rfl rfl)) ?_|refine QW (t_ (i:=T) aT.eq ak.ty rfl rfl hTN hcq) ?_|refine GX ?_)|refine GW ?_)
        refine dE rfl rfl ?Z_ ?Z'
        case' Z_=>
          refine aV (J (v:=x.vG) ak.ty rfl (ah (i:=7) rfl rfl)) rfl rfl rfl (av (bz [0,4,5,6]) ?_);refine ap rfl (dw (i:=13) (k:=Nx[n].length-T) rfl (hSub _ 5 rfl) rfl rfl Vk Vl (by omega) (by omega) rfl fun vI=>av (bz [0,4,5,6]) ?_);refine ap rfl (aD (i:=13) rfl fun hw1 hw2=>eM (cs:=#[vI]) rfl hw1 rfl rfl rfl fun g86=>av (bz [0,4,5,6]) ?_)
        case' Z'=>
          refine dw (i:=13) (k:=Nx[n].length-T) rfl (hSub _ 5 rfl) rfl rfl Vk Vl (by omega) (by omega) rfl fun vI=>av (bz [0,4,5,6]) ?_;refine dE rfl rfl ?aaa ?aab
        case' aaa=>
          refine aV (J (v:=x.vG) ak.ty rfl (ah (i:=7) rfl rfl)) rfl rfl rfl (av (bz [0,4,5,6]) ?_);refine ap rfl (aD (i:=13) rfl fun hw1 hw2=>eM (cs:=#[vI]) rfl hw1 rfl rfl rfl fun g86=>av (bz [0,4,5,6]) ?_)
        case' aab=>
          refine aD (i:=13) rfl fun hw1 hw2=>eM (cs:=#[vI]) rfl hw1 rfl rfl rfl fun g86=>av (bz [0,4,5,6]) ?_;refine ap rfl (aV (J (v:=x.vG) ak.ty rfl (ah (i:=7) rfl rfl)) rfl rfl rfl (av (bz [0,4,5,6]) ?_))
        all_goals
          refine ap rfl (jd (i:=9) (q:=14) rfl rfl rfl rfl rfl hw2 (by omega) (by omega) rfl fun vG2=>av (bz [0,4,5,6]) ?_)
          try refine GW ?_
          refine ap rfl (aD (i:=9) rfl fun gB jM=>aW (i:=7) rfl rfl rfl gB jM rfl (av (bz [0,4,5,6]) ?_))
          try refine GW ?_
          refine B_ (dz (bD fq) (fun k=>x.FG k\/vI.ownBlock=some k) ((x.wy.map fun v=>[v])++[[vI]]) (d_ T Nx n++[(Nx.getD n []).drop T])) 13 10 [0,1,2,3,4,5,6,7,8,9,11,12] (by decide) rfl rfl rfl (fun k hk=>hk.elim (fun h=>by cases h) fun h=>h.elim (fun h=> .inr (.inr h)) fun h=> .inl (.inl h)) (fun w hr he=>nf he (hgo hr) (tA hr)) ?_
          try refine GA ?_
          refine cD [0,1,2,3,4,5,6,7,8,11,9,12,10] ?_;exact bB (n+1,⟨vA2,x.wx++[.slice (some ⟨g10,0,none⟩) (T+1) (T+1)],fun k=>x.FA k\/(Value.slice (some ⟨g10,0,none⟩) (T+1) (T+1)).ownBlock=some k,vG2,x.wy++[vI],fun k=>x.FG k\/vI.ownBlock=some k⟩,vf) (by show n+1<=S.length;omega) (by show S.length-(n+1)<S.length-n;omega) (hl:=by dsimp only;rw[show(fh g.ag T Nx S (n+1)).length=(fh g.ag T Nx S n).length+1 by rw[fQ,fQ],show(d_ T Nx (n+1)).length=(d_ T Nx n).length+1 by rw[ju,ju],FZ,Da,List.map_append,List.map_append];rfl)
    · obtain rfl:n=S.length:=by omega
      refine fv (i:=8) rfl (fun w h=>eE w h) fun fc=>?_;obtain⟨aA,cA,hvA,-⟩:=fc;refine fv (i:=10) rfl (fun w h=>eE w h) fun fc=>?_;obtain⟨aG,cG,hvG,-⟩:=fc;obtain⟨vA,wx,FA,vG,wy,FG⟩:=x;dsimp only at hvA hvG⊢;subst hvA hvG
      repeat(first|refine GA ?_|refine gV (az (i:=7) ak.ty rfl rfl rfl) ?_)
      refine fa 1 ?_;refine zL ?_
      try refine GA ?_
      exact fJ (i:=1) rfl rfl rfl rfl rfl rfl fun w hm=>hm.meets (S:=⟨fun(_:IG×Value)=>True,fun x=> .tuple #[.agg #[x.1.vA,x.1.vG],x.2,.int .i64 0],fun x=>[aM 92 1 x.1.vA (fh g.ag T Nx S S.length).length x.1.wx,dz (bD sq) x.1.FA (x.1.wx.map fun v=>[v]) (fh g.ag T Nx S S.length),aM 26 1 x.1.vG (d_ T Nx S.length).length x.1.wy,dz (bD fq) x.1.FG (x.1.wy.map fun v=>[v]) (d_ T Nx S.length),aM 208 6 x.2 (fz g.ag T Nx S S.length).length ((fz g.ag T Nx S S.length).flatMap FX)]⟩) (⟨.slice aA _ cA,wx,FA,.slice aG _ cG,wy,FG⟩,vf) trivial [8,9,10,11,12] (by decide) rfl
  · rw[if_pos c0]at hO
    rw[hO]
    repeat(first|refine GC ?_|refine gV (bm (b:=true) rfl rfl (decide_eq_true c0)) ?_|refine gV (aP rfl sG) ?_|refine GB ?_)
    refine fa 1 ?_;refine zL ?_
    try refine GA ?_
    refine dq 92 1 (nW (dz (bD sq) (fun _=>False) [] []) (fun k hk=>hk.elim (fun h=>by cases h) id) (fun w=>iM) (dq 26 1 (nW (dz (bD fq) (fun _=>False) [] []) (fun k hk=>hk.elim (fun h=>by cases h) id) (fun w=>iM) (dq 208 6 ?_))));exact fJ (i:=1) rfl rfl rfl rfl rfl rfl fun w hm=>hm.meets (S:=⟨fun(_:IG×Value)=>True,fun x=> .tuple #[.agg #[x.1.vA,x.1.vG],x.2,.int .i64 e],fun x=>[aM 92 1 x.1.vA 0 x.1.wx,dz (bD sq) x.1.FA (x.1.wx.map fun v=>[v]) [],aM 26 1 x.1.vG 0 x.1.wy,dz (bD fq) x.1.FG (x.1.wy.map fun v=>[v]) [],aM 208 6 x.2 0 []]⟩) (⟨.slice none 0 0,[],fun _=>False,.slice none 0 0,[],fun _=>False⟩,.slice none 0 0) trivial [7,8,9,10,11] (by decide) rfl
end bK
namespace rX
open aB dy eo cL bK
def IM(O:Nat->Nat->Bool)(h a:Nat):Nat->Nat->Bool:=fun i j=>if i=h/\j=a then true else O i j
def fal(N m:Nat)(O:Nat->Nat->Bool):Nat:=dD (fun i=>dD (fun j=>if O i j=true then 0 else 1) m) N
def Qm(l:List aB.Prod)(w:List Int)(O:Nat->Nat->Bool):Prop:=∀(k:Nat) a,O k a=true->a<=w.length->∃v,zW l (2,(k:Int)) (w.drop a++v)
theorem Dc{f f':Nat->Nat}:∀{k i:Nat},i<k->(∀j,j<k->f j<=f' j)->f i<f' i->dD f k<dD f' k
  | k +1,i,hi,h,hl=>by
    rw[dD,dD]
    by_cases e:i=k
    · subst e
      have:=uo (f:=f) (f':=f') i fun j hj=>h j (by omega);omega
    · have:=Dc (f:=f) (f':=f') (k:=k) (i:=i) (by omega) (fun j hj=>h j (by omega)) hl
      have:=h k (by omega);omega
theorem TO{N m h a:Nat}{O:Nat->Nat->Bool}(hh:h<N)(ha:a<m)(ho:O h a=false):fal N m (IM O h a)<fal N m O:=by
 have hle:∀i j,(if IM O h a i j=true then 0 else 1)<=(if O i j=true then 0 else 1):=fun i j=>by
  unfold IM
  by_cases e:i=h/\j=a
  ·rw[if_pos e,if_pos rfl];exact Nat.zero_le _
  ·rw[if_neg e];exact Nat.le_refl _
 unfold fal;refine Dc hh (fun i _=>uo m fun j _=>hle i j) (Dc ha (fun j _=>hle h j) ?_);have e1:IM O h a h a=true:=by unfold IM;rw[if_pos ⟨rfl,rfl⟩]
 rw[e1,ho];decide
structure F0(l:List aB.Prod)(w:List Int)(o:cg->Nat->Nat->Nat)(M:List Bool)(N:Nat)(O O':Nat->Nat->Bool)(more:Bool)(i a:Nat):Prop where
 sound:Qm l w O'
 less:more=true->fal N (w.length+1) O'<fal N (w.length+1) O
 still:more=false->O'=O/\∀q a',(q<i\/(q=i/\a'<a))->∀h:q<l.length,a'<=w.length->C3 o O M w.length a' l[q].2=true->O l[q].1.toNat a'=true
section
variable{l:List aB.Prod}{w:List Int}{n:Nat}{c:mE}{M:List Bool}{O O':Nat->Nat->Bool}{more:Bool}{i a:Nat}
theorem F0.start(h:Qm l w O)(o:cg->Nat->Nat->Nat)(N:Nat):F0 l w o M N O O false 0 0:=⟨h,fun h=>by(cases h),fun _=>⟨rfl,fun q a' h=>by omega⟩⟩
theorem F0.set(hM:∀i:Nat,M.getD i false=true->∃ws,zW l (2,(i:Int)) ws)(hc:Wc w l n c)(hs:lG n l){N:Nat}(h:F0 l w (jg c w) M N O O' more i a)(hi:i<l.length)(ha:a<=w.length)(hN:l[i].1.toNat<N)(h0:O' l[i].1.toNat a=false)(h1:C3 (jg c w) O' M w.length a l[i].2=true):F0 l w (jg c w) M N O (IM O' l[i].1.toNat a) true i (a+1):=by
 obtain⟨s1,s2,s3⟩:=hs _ (List.getElem_mem hi);refine⟨fun k b hk hb=>?_,fun _=>?_,fun e=>by cases e⟩
 ·unfold IM at hk
  by_cases e:k=l[i].1.toNat/\b=a
  ·obtain⟨rfl,rfl⟩:=e
   obtain⟨v,hv⟩:=C5 hM hc hs h.sound ha (fun x hx=>(s3 x hx)) h1;exact⟨v,.Rt (by show(2:Int)≠1;decide) (List.getElem_mem hi) (by show l[i].1=((l[i].1.toNat:Nat):Int);omega) hv⟩
  ·rw[if_neg e]at hk
   exact h.sound k b hk hb
 ·have:=TO (N:=N) (m:=w.length+1) hN (by omega:a<w.length+1) h0
  cases hm:more
  ·obtain⟨rfl,_⟩:=h.still hm
   exact this
  ·have:=h.less hm;omega
end
theorem Qn{n:Nat}{l:List aB.Prod}(hf:yb n l)(hs:lG n l):ya (EA l) (fun s=>OM n s/\rY l s) (uY n):=
 ⟨fun s px=>⟨(yd hf).keep s px.1,te hs l (fun _ h=>h) _ px.2⟩,fun s px=>(yd hf).dec s px.1⟩
theorem Qo{g:dr}{n:Nat}(gd:cz g=0)(hn:g.aU=n):OM n (q9 n g.ag)/\rY g.ag (q9 n g.ag):=by
 have hf:=tb gd hn;have hs:=Lv gd hn;have hz:∀i:Nat,(List.replicate n false).getD i false=false:=fun i=>by
  rw[List.getD_eq_getElem?_getD,List.getElem?_replicate];split<;>rfl
 have h0:rY g.ag ⟨List.replicate n false,(List.replicate n false).set 0 true,List.replicate n false,false⟩:=
  ⟨fun i h=>(by have h:(List.replicate n false).getD i false=true:=h;rw[hz i]at h;cases h),fun i h=>(by have h:(List.replicate n false).getD i false=true:=h;rw[hz i]at h;cases h)⟩
 obtain⟨s',h1,h2,h3⟩:=ta (Qn hf hs) _ ⟨List.replicate n false,(List.replicate n false).set 0 true,List.replicate n false,false⟩ ⟨⟨by simp,by simp,by simp⟩,h0⟩ (Nat.le_refl _);have e:q9 n g.ag=eU g.ag ⟨s'.E,s'.R,s'.M,false⟩:=h3;rw[e];exact(Qn hf hs).keep s' h1
end rX
namespace bK
open Go.RowKit bO dc bW eG gh aB bT wk
def uI(g:dr):List Bool:=(q9 g.aU.toNat g.ag).R
def uJ(g:dr):List Bool:=(q9 g.aU.toNat g.ag).M
def sr(g:dr):List Cl:=jE g.ag (uG g.aU.toNat g.ag) g.aF.toNat g.aU.toNat
def xe(s:Sp)(e:Int):Int×Int:=
 if l7 s≠0 then(l7 s,0)else if s.words.length=0\/s.rules.length=0 then(1,0)else if e≠0 then(e,0)
 else if(uI (bR s)).any (· ==false)=true\/(uJ (bR s)).any (· ==false)=true then(4,0)
 else if(sr (bR s)).length=0 then(0,1)
 else if(fB (bR s)).2.2.2≠0 then((fB (bR s)).2.2.2,0)else if 0<(fB (bR s)).2.2.1.length then(12,0)else(0,2)
structure Ap where
 vo:Value
 vp:Value
 F:Nat->Prop
 gP:Nat
 Qb:Nat->Value
 vT:Value
 gR:Nat
 Xk:Nat->Value
 tx:IG
def vV:Ap:=⟨.slice none 0 0,.slice none 0 0,fun _=>False,0,fun _=> .slice none 0 0,.slice none 0 0,0,fun _=> .slice none 0 0,⟨.slice none 0 0,[],fun _=>False,.slice none 0 0,[],fun _=>False⟩⟩
def Ap.pk(x:Ap)(R:List Row):List Value:=fE (ph R 256) (.slice (some ⟨x.gP,0,none⟩) R.length R.length) x.vT
structure aac(x:Ap):Prop where
 o:x.vo.oneCell'=true
 p:x.vp.oneCell'=true
 t:x.vT.oneCell'=true
def Ap.lex(x:Ap)(s:Sp)(R:List Row)(T:List Int):List bI:=
 [aM 3 1 x.vo s.words.length ((C8 s.words).1.map (Value.int .i64)),n0 x.F x.vp (bR s).ag,dU 26 so x.gP R.length x.Qb,Mz R.length (jS R 256) x.Qb,aM 3 1 x.vT T.length (T.flatMap bO.dB)]
def qw(e:Int):Spec Ap:=⟨fun _=>True,fun _=> .tuple #[.agg Am.toArray,.int .i64 e],fun _=>[]⟩
def Ap.cLL(x:Ap)(g:dr)(R:List Row):Array Value:=(ik x.vo (x.pk R) (gX g.aF g.aU x.vp 1 (.slice (some ⟨x.gR,0,none⟩) g.aU.toNat g.aU.toNat) (.slice none 0 0) (.slice none 0 0))).toArray
def Ap.cLR(x:Ap)(g:dr)(R:List Row):Array Value:=(ik x.vo (x.pk R) (gX g.aF g.aU x.vp 2 (.slice none 0 0) x.tx.vA x.tx.vG)).toArray
def Ap.rows(x:Ap)(g:dr):List bI:=[dU 26 qu x.gR g.aU.toNat x.Xk,fS (fun j=>j<g.aU.toNat) (jY g.ag (uG g.aU.toNat g.ag) g.aF.toNat x.Xk g.aU.toNat 0)]
def TP(s:Sp)(R:List Row)(T:List Int):Spec Ap:=
 ⟨aac,fun x=> .tuple #[.agg (x.cLL (bR s) R),.int .i64 0],fun x=>x.lex s R T++x.rows (bR s)⟩
def TQ(s:Sp)(R:List Row)(T:List Int):Spec Ap:=
 ⟨fun x=>aac x/\x.tx.vA.oneCell'=true/\x.tx.vG.oneCell'=true,fun x=> .tuple #[.agg (x.cLR (bR s) R),.int .i64 0],fun x=>x.lex s R T++ME x.tx (fB (bR s)).1 (fB (bR s)).2.1⟩
def ma(s:Sp)(r:Int×List Row×List Int):Spec Ap:=
 if(xe s r.1).1≠0 then qw (xe s r.1).1 else if(xe s r.1).2=1 then TP s r.2.1 r.2.2 else TQ s r.2.1 r.2.2
theorem tK{s:Sp}{r:Int×List Row×List Int}(h:MB s r)(h0:r.1=0):cz (bR s)=0/\iL r.2.1 r.2.2=0:=by
 have hn:qt s=0->cz (bR s)=0:=fun h=>by
  unfold qt at h;generalize cz (bR s)=e at*
  by_cases c:e≠0
  ·rw[if_pos c]at h;cases h
  ·exact Decidable.of_not_not c
 rcases h with⟨k,hk,-,rfl⟩|⟨es,m,-,-,h3,h4,h5,-,⟨h,rfl⟩|⟨-,h,rfl⟩|⟨h,-,hc,rfl⟩⟩
 ·exact absurd h0 hk
 ·exact absurd h0 h
 ·exact absurd h0 h
 ·refine⟨hn h,?_⟩
  have:=w8 hc;dsimp only;exact this
set_option maxRecDepth 100000 in
theorem tL(v:Value)(s:Sp)(r:Int×List Row×List Int)(hx:MB s r)(w:World)(hv:Mq (ng w) w v s)(Bf:∀r∈s.rules,r.2.length<=8796093021952):
 Calls Tryz.prog 12 #[v] w (bM (ma s r) w):=by
 have gd:=fun w' (hg:Gr w w')=>Ao v s w' (hv.gr hg);have Vm:=hv;obtain⟨vw,vr,rfl,hw,hr⟩:=hv;obtain⟨bw,cw,rfl,-⟩:=hw;obtain⟨br,cr,rfl,-⟩:=hr;have hM:xe s r.1=if l7 s≠0 then(l7 s,0)else if s.words.length=0\/s.rules.length=0 then(1,0)else if r.1≠0 then(r.1,0)
  else if(uI (bR s)).any (· ==false)=true\/(uJ (bR s)).any (· ==false)=true then(4,0)
  else if(sr (bR s)).length=0 then(0,1)
  else if(fB (bR s)).2.2.2≠0 then((fB (bR s)).2.2.2,0)else if 0<(fB (bR s)).2.2.1.length then(12,0)else(0,2):=rfl
 have kD:∀e m,xe s r.1=(e,m)->e≠0->ma s r=qw e:=fun e m h he=>by unfold ma;rw[h,if_pos he]
 have hLL:xe s r.1=(0,1)->ma s r=TP s r.2.1 r.2.2:=fun h=>by unfold ma;rw[h];rfl
 have hLR:xe s r.1=(0,2)->ma s r=TQ s r.2.1 r.2.2:=fun h=>by unfold ma;rw[h];rfl
 have sG:=Mw;have mb:Am.toArray.toList.all Value.oneCell'=true:=uF rfl Kj rfl;have hsz:Am.toArray.size=266:=im gY rfl;refine enter (args:=[.agg #[.slice bw s.words.length cw,.slice br s.rules.length cr]]) (n:=86) Tryz.func12 rfl rfl rfl ?_;refine a8 (aL (a_ rfl rfl rfl fun g1=>aK rfl fun g2=>?_));rw[qR];refine zL ?_
 repeat(first|refine GA ?_|refine gV (az (i:=0) ak.ty rfl rfl rfl) ?_)
 refine aI (jc aj.en rfl rfl) (fun w hm=>gd _ hm.below) rfl rfl rfl ?_;intro _ _;refine zL ?_
 by_cases c0:l7 s≠0
 ·rw[if_pos c0]at hM
  rw[kD _ _ hM c0]
  repeat(first|refine GC ?_|refine gV (bm (b:=true) rfl rfl (decide_eq_true c0)) ?_|refine gV (aP rfl sG) ?_|refine GB ?_)
  refine aE (i:=1) (cs':=Am.toArray) rfl rfl rfl hsz mb hsz ?_;refine zL ?_
  try refine GA ?_
  exact da (i:=1) rfl rfl rfl hsz rfl fun w hm=>hm.meets (S:=qw (l7 s)) vV trivial [] (by decide) rfl
 rw[if_neg c0]at hM;have Qp:l7 s=0:=Decidable.of_not_not c0;have Bh:s.words.length<=60/\s.rules.length<=60:=by
  unfold l7 at Qp
  by_cases c:60<s.words.length\/60<s.words.length+s.rules.length
  ·rw[if_pos c]at Qp;cases Qp
  ·omega
 rw[Qp];clear gd Qp
 by_cases c1:s.words.length=0\/s.rules.length=0
 ·rw[if_pos c1]at hM
  rw[kD _ _ hM (by decide)]
  by_cases c2:s.words.length=0
  ·repeat(first|refine GC ?_|refine gV (bm (b:=false) rfl rfl (decide_eq_false (by simp))) ?_|refine gV (J (v:= .slice bw s.words.length cw) ak.ty rfl (ah (i:=0) rfl rfl)) ?_|refine gV (bL (b:=true) rfl rfl (decide_eq_true (by omega))) ?_|refine gV (aP rfl sG) ?_|refine GB ?_)
   refine aE (i:=1) (cs':=Am.toArray) rfl rfl rfl hsz mb hsz ?_;refine zL ?_
   try refine GA ?_
   exact da (i:=1) rfl rfl rfl hsz rfl fun w hm=>hm.meets (S:=qw 1) vV trivial [] (by decide) rfl
  ·repeat(first|refine GC ?_|refine gV (bm (b:=false) rfl rfl (decide_eq_false (by simp))) ?_|refine gV (J (v:= .slice bw s.words.length cw) ak.ty rfl (ah (i:=0) rfl rfl)) ?_|refine gV (J (v:= .slice br s.rules.length cr) ak.ty rfl (ah (i:=0) rfl rfl)) ?_|refine gV (bL (b:=false) rfl rfl (decide_eq_false (by omega))) ?_|refine gV (bL (b:=true) rfl rfl (decide_eq_true (by omega))) ?_|refine gV (aP rfl sG) ?_|refine GB ?_)
   refine aE (i:=1) (cs':=Am.toArray) rfl rfl rfl hsz mb hsz ?_;refine zL ?_
   try refine GA ?_
   exact da (i:=1) rfl rfl rfl hsz rfl fun w hm=>hm.meets (S:=qw 1) vV trivial [] (by decide) rfl
 rw[if_neg c1]at hM;have qY:=fun gp w' B ho hm=>FR (.slice bw s.words.length cw) (.slice br s.rules.length cr) s r hx gp w Vm Bh.1 Bh.2 Bf w' B ho hm
 repeat(first|refine GC ?_|refine gV (bm (b:=false) rfl rfl (decide_eq_false (by simp))) ?_|refine gV (J (v:= .slice bw s.words.length cw) ak.ty rfl (ah (i:=0) rfl rfl)) ?_|refine gV (J (v:= .slice br s.rules.length cr) ak.ty rfl (ah (i:=0) rfl rfl)) ?_|refine gV (bL (b:=false) rfl rfl (decide_eq_false (by omega))) ?_|refine GB ?_)
 refine aK rfl fun g5=>?_;rw[qR];refine zL ?_
 repeat(first|refine GA ?_|refine gV (az (i:=0) ak.ty rfl rfl rfl) ?_)
 by_cases c2:r.1≠0
 ·rw[if_pos c2]at hM
  rw[kD _ _ hM c2];have io:∀gp,BD gp s r=⟨fun _=>True,fun _=> .int .i64 r.1,fun _=>[]⟩:=fun gp=>if_neg c2;simp only[io]at qY;refine aR [2] [0,1] (by decide) rfl rfl (eK aj.en rfl rfl rfl) (fun w' mN hb=>qY g5 w' _ (jz.on (jz.self w) mN (fun o ho=>by simp at ho;subst ho;simp)) hb) rfl rfl rfl ?_;intro _ _;refine zL ?_
  repeat(first|refine GC ?_|refine gV (bm (b:=true) rfl rfl (decide_eq_true c2)) ?_|refine gV (aP rfl sG) ?_|refine GB ?_)
  refine aE (i:=1) (cs':=Am.toArray) rfl rfl rfl hsz mb hsz ?_;refine zL ?_
  try refine GA ?_
  exact da (i:=1) rfl rfl rfl hsz rfl fun w hm=>hm.meets (S:=qw r.1) vV trivial [] (by decide) rfl
 rw[if_neg c2]at hM;have hr0:r.1=0:=Decidable.of_not_not c2;obtain⟨hG,TR⟩:=tK hx hr0;have io:∀gp,BD gp s r=FQ gp s r.2.1 r.2.2:=fun gp=>if_pos hr0;simp only[io]at qY;clear hx io c2;obtain⟨e,R,T⟩:=r;dsimp only at*;subst hr0;generalize xe s 0=M at*;generalize hgr:bR s=g at*;refine aR [2] [0,1] (by decide) rfl rfl (eK aj.en rfl rfl rfl) (fun w' mN hb=>qY g5 w' _ (jz.on (jz.self w) mN (fun o ho=>by simp at ho;subst ho;simp)) hb) rfl rfl rfl ?_;clear qY;rintro⟨vo,vp,F,gP,Qb,vT⟩ ⟨k1,k2,k3⟩;dsimp only at k1 k2 k3;unfold FQ;rw[hgr];refine zL ?_;have ft:(fE (ph R 256) (.slice (some ⟨gP,0,none⟩) R.length R.length) vT).length=258:=iQ _ _ _;have WY:(fE (ph R 256) (.slice (some ⟨gP,0,none⟩) R.length R.length) vT).all Value.oneCell'=true:=by
  have:=sm (ph R 256) (vn:= .slice (some ⟨gP,0,none⟩) R.length R.length) (vt:=vT) rfl k3
  simpa using this
 have hpx:∀x:Ap,x.gP=gP->x.vT=vT->fE (ph R 256) (.slice (some ⟨gP,0,none⟩) R.length R.length) vT=x.pk R:=fun x h1 h2=>by unfold Ap.pk;rw[h1,h2]
 generalize hPK:fE (ph R 256) (.slice (some ⟨gP,0,none⟩) R.length R.length) vT=PK at*;obtain⟨a1,a2,a3,a4,a5,a6⟩:=bV hG;have Xl:∀w',(n0 F vp g.ag).holds w'->iZ (fun k=>k<w'.heap.size) w' (cO g.aF g.aU vp) g:=fun w' h=>sn (TG ⟨a1,by omega⟩) (TG ⟨by omega,by omega⟩) h
 repeat(first|refine GC ?_|refine gV (bm (b:=false) rfl rfl (decide_eq_false (by simp))) ?_|refine gV (aH (cs:=[.int .i64 g.aF,.int .i64 g.aU,vp]) ak.ty rfl rfl (fun j v h=>ah (i:=2) rfl (oB ft h))) ?_|refine GB ?_)
 have hN:g.aU=(g.aU.toNat:Int):=by omega
 have hT:g.aF=(g.aF.toNat:Int):=by omega
 obtain⟨⟨-,hRl,hMl⟩,-⟩:=rX.Qo hG hN;have HU:=fun w' h=>yx (cO g.aF g.aU vp) g w' h hG g.aU.toNat hN;have K8:=fun w' h=>C_ (cO g.aF g.aU vp) g w' h hG g.aF.toNat g.aU.toNat hT hN;have I':=fun w' h=>Db (cO g.aF g.aU vp) g w' h;unfold II ME at I';refine aI (jc aj.en rfl rfl) (fun w' hm=>(HU w' (Xl w' (hm.get (i:=4) rfl))).mono fun e w2 h=>yy h) rfl rfl rfl ?_;intro x5 _
 conv=>arg 8;simp only[zJ,bZ,ret,id_eq,yw.val]
 try refine GA ?_
 refine aK rfl fun g7=>?_;refine fa 13 ?_;refine zL ?_
 repeat(first|refine GA ?_|refine gV (J ak.ty rfl (ah (i:=13) rfl rfl)) ?_)
 have Qq:uI g=(q9 g.aU.toNat g.ag).R:=rfl;have Qr:uJ g=(q9 g.aU.toNat g.ag).M:=rfl;generalize (q9 g.aU.toNat g.ag).R=Rc at*;generalize (q9 g.aU.toNat g.ag).M=Mk at*;rw[Qq,Qr]at hM;clear Qq Qr HU;refine aI (eK aj.en rfl rfl rfl) (fun w' hm=>lU _ Rc false w' (by have:=Sl.cI (hm.get (i:=11) rfl);rw[hRl];exact this)) rfl rfl rfl ?_;intro _ _;refine zL ?_
 cases MG:Rc.any (· ==false)with
 |true=>
  rw[if_pos (.inl MG)]at hM;rw[kD _ _ hM (by decide)]
  repeat(first|refine GA ?_|refine gV (aP rfl sG) ?_)
  refine aE (i:=1) (cs':=Am.toArray) rfl rfl rfl hsz mb hsz ?_;refine zL ?_
  try refine GA ?_
  exact da (i:=1) rfl rfl rfl hsz rfl fun w hm=>hm.meets (S:=qw 4) vV trivial [] (by decide) rfl
 |false=>
 repeat(first|refine GA ?_|refine gV (J ak.ty rfl (ah (i:=13) rfl rfl)) ?_)
 refine ky (eK aj.en rfl rfl rfl) (fun w' hm=>lU _ Mk false w' (by have:=Sl.cI (hm.get (i:=12) rfl);rw[hMl];exact this)) rfl rfl rfl rfl rfl ?_;intro _ _;refine zL ?_
 cases Vn:Mk.any (· ==false)with
 |true=>
  rw[if_pos (.inr Vn)]at hM;rw[kD _ _ hM (by decide)]
  repeat(first|refine GA ?_|refine gV (aP rfl sG) ?_)
  refine aE (i:=1) (cs':=Am.toArray) rfl rfl rfl hsz mb hsz ?_;refine zL ?_
  try refine GA ?_
  exact da (i:=1) rfl rfl rfl hsz rfl fun w hm=>hm.meets (S:=qw 4) vV trivial [] (by decide) rfl
 |false=>
 rw[if_neg (by rw[MG,Vn];decide)]at hM;have ir:sr g=jE g.ag (uG g.aU.toNat g.ag) g.aF.toNat g.aU.toNat:=rfl
 repeat(first|refine GA ?_|refine gV (aH (cs:=[.int .i64 g.aF,.int .i64 g.aU,vp]) ak.ty rfl rfl (fun j v h=>ah (i:=2) rfl (oB ft h))) ?_)
 refine aI (jc aj.en rfl rfl) (fun w' hm=>K8 w' (Xl w' (hm.get (i:=4) rfl))) rfl rfl rfl ?_;rintro⟨gR,Xk,vcl⟩ _;unfold Qf;rw[<-ir];refine zL ?_
 by_cases c3:(sr g).length=0
 ·rw[if_pos c3]at hM
  rw[hLL hM]
  repeat(first|refine GC ?_|refine gV (cJ (i:=16) aT.eq rfl rfl) ?_|refine gV (bL (b:=true) rfl rfl (decide_eq_true (by omega))) ?_|refine GB ?_)
  refine ko 3 (i:=2) rfl rfl rfl rfl rfl rfl ft rfl ?_;refine zL ?_
  try refine GA ?_
  refine ko 4 (i:=2) rfl rfl rfl rfl rfl rfl ft rfl ?_;refine zL ?_
  repeat(first|refine GA ?_|refine gV (az (i:=2) ak.ty rfl rfl (im ft rfl)) ?_)
  refine aE (i:=1) (cs':=(ik vo PK (gX g.aF g.aU vp 1 (.slice (some ⟨gR,0,none⟩) g.aU.toNat g.aU.toNat) (.slice none 0 0) (.slice none 0 0))).toArray) rfl rfl rfl (im ft rfl) (uF k1 WY (by simp only[gX,List.all_cons,List.all_nil,k2];rfl)) hsz ?_;refine zL ?_
  try refine GA ?_
  subst hPK;subst hgr;exact da (i:=1) rfl rfl rfl (im ft rfl) rfl fun w hm=>hm.meets (S:=TP s R T) ⟨vo,vp,F,gP,Qb,vT,gR,Xk,⟨.slice none 0 0,[],fun _=>False,.slice none 0 0,[],fun _=>False⟩⟩ ⟨k1,k2,k3⟩ [3,4,5,6,7,14,15] (by decide) rfl
 rw[if_neg c3]at hM
 repeat(first|refine GC ?_|refine gV (cJ (i:=16) aT.eq rfl rfl) ?_|refine gV (bL (b:=false) rfl rfl (decide_eq_false (by omega))) ?_|refine gV (aH (cs:=[.int .i64 g.aF,.int .i64 g.aU,vp]) ak.ty rfl rfl (fun j v h=>ah (i:=2) rfl (oB ft h))) ?_|refine GB ?_)
 refine aI (jc aj.en rfl rfl) (fun w' hm=>I' w' (Xl w' (hm.get (i:=4) rfl))) rfl rfl rfl ?_;rintro⟨⟨vA,wx,FA,vG,wy,FG⟩,vfi⟩ _;have hO:fB g=fB g:=rfl;refine zL ?_;generalize hOT:fB g=O at*;obtain⟨A,G,fi,e⟩:=O;dsimp only at hM⊢;refine aD (i:=17) rfl fun _ b1=>aD (i:=19) rfl fun _ b2=>?_
 try refine GA ?_
 refine aK rfl fun g12=>?_;refine zL ?_;refine aE (i:=22) (cs':=#[vA,vG]) rfl rfl rfl rfl (by simp only[List.all_cons,List.all_nil,b1,b2];rfl) rfl ?_;refine zL ?_
 by_cases c4:e≠0
 ·rw[if_pos c4]at hM
  rw[kD _ _ hM c4]
  repeat(first|refine GC ?_|refine gV (bm (b:=true) rfl rfl (decide_eq_true c4)) ?_|refine gV (aP rfl sG) ?_|refine GB ?_)
  refine aE (i:=1) (cs':=Am.toArray) rfl rfl rfl hsz mb hsz ?_;refine zL ?_
  try refine GA ?_
  exact da (i:=1) rfl rfl rfl hsz rfl fun w hm=>hm.meets (S:=qw e) vV trivial [] (by decide) rfl
 rw[if_neg c4]at hM
 repeat(first|refine GC ?_|refine gV (bm (b:=false) rfl rfl (decide_eq_false c4)) ?_|refine GB ?_)
 by_cases c5:0<fi.length
 ·rw[if_pos c5]at hM
  rw[kD _ _ hM (by decide)]
  repeat(first|refine GC ?_|refine gV (cJ (i:=21) aT.eq rfl rfl) ?_|refine gV (dj (b:=true) rfl rfl (decide_eq_true (by omega))) ?_|refine gV (aP rfl sG) ?_|refine GB ?_)
  refine aE (i:=1) (cs':=Am.toArray) rfl rfl rfl hsz mb hsz ?_;refine zL ?_
  try refine GA ?_
  exact da (i:=1) rfl rfl rfl hsz rfl fun w hm=>hm.meets (S:=qw 12) vV trivial [] (by decide) rfl
 rw[if_neg c5]at hM;rw[hLR hM]
 repeat(first|refine GC ?_|refine gV (cJ (i:=21) aT.eq rfl rfl) ?_|refine gV (dj (b:=false) rfl rfl (decide_eq_false (by omega))) ?_|refine GB ?_)
 (repeat refine a8 ?_)
 refine cU ([aw g12 #[vA,vG] 36]) (.calm 0 (.calm 1 (.one 2 (.calm 3 (.one 4 (.done)))))) (bz [22]) ?_
 repeat(first|refine GW ?_|(refine GN ?_;first|refine QW (az (i:=0) ak.ty rfl rfl rfl) ?_))
 refine ap rfl (ko 3 (i:=2) rfl rfl rfl rfl rfl rfl ft rfl (av (bz [22]) ?_));refine zL ?_
 try refine GW ?_
 refine ap rfl (Ir (i:=2) rfl rfl rfl b1 b2 rfl ft (av (bz [22]) ?_));refine zL ?_
 try refine GW ?_
 repeat(first|refine GA ?_|refine gV (az (i:=2) ak.ty rfl rfl (im ft rfl)) ?_)
 refine aE (i:=1) (cs':=(ik vo PK (gX g.aF g.aU vp 2 (.slice none 0 0) vA vG)).toArray) rfl rfl rfl (im ft rfl) (uF k1 WY (by simp only[gX,List.all_cons,List.all_nil,k2,b1,b2];rfl)) hsz ?_;refine zL ?_
 try refine GA ?_
 subst hPK;subst hgr;refine da (i:=1) rfl rfl rfl (im ft rfl) rfl fun w hm=>hm.meets (S:=TQ s R T) ⟨vo,vp,F,gP,Qb,vT,gR,Xk,⟨vA,wx,FA,vG,wy,FG⟩⟩ ⟨⟨k1,k2,k3⟩,b1,b2⟩ [3,4,5,6,7,17,18,19,20] (by decide) ?_;show _++ME _ (fB (bR s)).1 (fB (bR s)).2.1=_
 rw[hOT];rfl
end bK
namespace bK
open Go.RowKit bO dc aB wk
def oC(l:List aB.Prod)(n:Nat):List Int->Int
 |[]=>0
 |p::r=>if p< -1 then 1 else if(l.length:Int)<=p then 1 else if 0<=p/\(l.getD p.toNat (0,[])).1≠(n:Int)then 1 else oC l n r
def mJ(l:List aB.Prod)(t:Int):Nat->List (List Int)->Int
 |_,[]=>0
 |n,r::rs=>if(r.length:Int)≠t+1 then 1 else if oC l n r≠0 then 1 else mJ l t (n+1) rs
def Dd(g:dr)(ll:List (List Int)):Int:=if cz g≠0 then cz g else if(ll.length:Int)≠g.aU then 1 else mJ g.ag g.aF 0 ll
abbrev zc(w:World)(v:Value)(ll:List (List Int)):Prop:=iB (bD fq) (fun k=>k<w.heap.size) w v ll
theorem Kl{F:Nat->Prop}{w:World}{b off:Nat}{ll:List (List Int)}(h:∀i (h:i<ll.length),∃cs,(bD fq).is F w cs ll[i]/\Rd w b (off+i*(bD fq).c) cs){k:Nat}(hk:k<ll.length):
 ∃vi,w.cell? ⟨b,off+k,none⟩=some vi/\Sl w vi ll[k].length (ll[k].map (.int .i64)):=by
 obtain⟨cs,⟨vi,rfl,h1⟩,hr⟩:=h k hk;refine⟨vi,?_,?_⟩
 ·have:=hr 0 vi rfl
  rwa [show(bD fq).c=1 from rfl,Nat.mul_one,Nat.add_zero]at this
 ·have:=h1.flat (by decide)
  rw[show(ll[k].flatMap fun n=>[Value.int .i64 n])=ll[k].map (.int .i64)from by rw[List.flatMap_def];induction ll[k]with
   |nil=>rfl
   |cons x r ih=>simp only[List.map_cons,List.flatten_cons,ih];rfl]at this
  exact this
set_option maxRecDepth 100000 in
theorem ru(v vr:Value)(g:dr)(ll:List (List Int))(w:World)(h:iZ (fun k=>k<w.heap.size) w v g)(hr:zc w vr ll):
    Calls Tryz.prog 90 #[v,vr] w (bM (ret (.int .i64 (Dd g ll))) w):=by
  have gd:=fun w' (hg:Gr w w')=>gG v g w' (h.gr hg);obtain⟨vp,rfl,h1,_⟩:=h;obtain⟨br,cr,rfl,Rr,qE,xS⟩:=hr;unfold maxLen at qE;unfold Dd
  by_cases c0:cz g=0
  · rw[if_neg (by simpa using c0)]
    obtain⟨a1,a2,a3,a4,a5,_⟩:=bV c0;rw[c0]at gd;obtain⟨t,nn,ag⟩:=g;dsimp only at*;obtain⟨bp,cp,rfl,Jx,GM,lF⟩:=h1;unfold maxLen at GM;refine enter (args:=[cO t nn (.slice bp ag.length cp),.slice br ll.length cr]) (n:=64) Tryz.func90 rfl rfl rfl ?_;refine a8 (aL (a_ rfl rfl rfl fun g2=>?_));refine zL ?_
    repeat(first|refine GA ?_|refine gV (az (i:=0) ak.ty rfl rfl rfl) ?_)
    refine aI (jc aj.en rfl rfl) (fun w hm=>gd _ hm.below) rfl rfl rfl ?_;intro _ _;refine zL ?_
    by_cases c1:(ll.length:Int)=nn
    · rw[if_neg (by simpa using c1)]
      repeat(first|refine GA ?_|refine gV (J ak.ty rfl (ah (i:=0) rfl rfl)) ?_)
      generalize kR:mJ ag t 0 ll=res;refine dv (ι:=Nat) (fun n=>n<=ll.length/\res=mJ ag t n (ll.drop n)) (fun n=>[(2,.pointer (some ⟨g2,0,none⟩)),(20,.slice br ll.length cr),(21,.int .i64 ll.length),(22,.int .i64 (n:Int))]) (fun _=>[aw g2 (cO t nn (.slice bp ag.length cp)).cells 33]) (fun n=>ll.length-n) 0 ⟨Nat.zero_le _,by rw[List.drop_zero];exact kR.symm⟩ ?_;clear kR;rintro n ⟨i1,i2⟩
      by_cases c2:n<ll.length
      · obtain⟨b,off,rfl,_,ef⟩:=xS (by omega)
        obtain⟨vi,y1,y2⟩:=Kl ef c2;have dF:∀L,At w L ⟨b,off+n,none⟩ vi:=fun L=>iw y1;rw[List.drop_eq_getElem_cons c2,mJ]at i2;clear ef y1;generalize ll[n]=r at*;obtain⟨bi,ci,rfl,z1,z2,z3⟩:=y2;unfold maxLen at z2
        by_cases c3:(r.length:Int)=t+1
        · rw[if_neg (by simpa using c3)]at i2
          repeat(first|refine GA ?_|refine gV (bx aT.eq ak.ty rfl rfl c2) ?_|refine gV (J ak.ty rfl (dF _)) ?_|refine gV (J ak.ty rfl (ah (i:=0) rfl rfl)) ?_)
          refine dv (ι:=Nat) (fun j=>j<=r.length/\oC ag n r=oC ag n (r.drop j)) (fun j=>[(2,.pointer (some ⟨g2,0,none⟩)),(6,.int .i64 (n:Int)),(20,.slice (some ⟨b,off,none⟩) ll.length cr),(21,.int .i64 ll.length),(22,.int .i64 (n:Int)),(33,.slice bi r.length ci),(34,.int .i64 r.length),(35,.int .i64 (j:Int))]) (fun _=>[aw g2 (cO t nn (.slice bp ag.length cp)).cells 33]) (fun j=>r.length-j) 0 ⟨Nat.zero_le _,rfl⟩ ?_;rintro j ⟨j1,j2⟩
          by_cases c4:j<r.length
          · obtain⟨b',sX,rfl,wE⟩:=z3 (by omega)
            have Qs:=fun L=>WD (L:=L) wE c4;rw[List.drop_eq_getElem_cons c4,oC]at j2;clear wE z3;generalize r[j]=p at*
            by_cases e1:p< -1
            · rw[if_pos e1]at j2
              rw[j2,if_pos (by decide)]at i2;subst i2
              repeat(first|refine GA ?_|refine gV (bx aT.eq ak.ty rfl rfl c4) ?_|refine gV (J ak.ty rfl (Qs _)) ?_|refine gV (J ak.ty rfl (ah (i:=0) rfl rfl)) ?_)
              exact db
            by_cases e2:(ag.length:Int)<=p
            · rw[if_neg e1,if_pos e2]at j2
              rw[j2,if_pos (by decide)]at i2;subst i2
              repeat(first|refine GA ?_|refine gV (bx aT.eq ak.ty rfl rfl c4) ?_|refine gV (J ak.ty rfl (Qs _)) ?_|refine gV (J ak.ty rfl (ah (i:=0) rfl rfl)) ?_)
              exact db
            rw[if_neg e1,if_neg e2]at j2
            by_cases e3:0<=p
            · obtain⟨m,rfl⟩:∃m:Nat,p=m:=⟨p.toNat,by omega⟩
              have hm:m<ag.length:=by omega
              obtain⟨bq,abx,rfl,_,hrq⟩:=lF (by omega);obtain⟨bb,cb,q1,_,_⟩:=jC hrq hm;have aad:∀(L:List bI),At w L ⟨bq,abx+m*2+0,none⟩ (.int .i64 ag[m].1):=fun L=>iw (q1 0 _ rfl);rw[Int.toNat_natCast,List.getD_eq_getElem?_getD,List.getElem?_eq_getElem hm]at j2;dsimp only[Option.getD]at j2;clear q1 hrq;generalize ag[m]=pd at*;obtain⟨hd,_⟩:=pd;dsimp only at*
              by_cases e4:hd=(n:Int)
              · rw[if_neg (fun h=>h.2 e4)]at j2
                repeat(first|refine GA ?_|refine gV (bx aT.eq ak.ty rfl rfl c4) ?_|refine gV (J ak.ty rfl (Qs _)) ?_|refine gV (J ak.ty rfl (ah (i:=0) rfl rfl)) ?_|refine gV (aC aT.eq ak.ty rfl rfl hm) ?_|refine gV (J ak.ty rfl (aad _)) ?_)
                exact bB (j+1) ⟨by omega,j2⟩ (by omega)
              · rw[if_pos ⟨e3,e4⟩]at j2
                rw[j2,if_pos (by decide)]at i2;subst i2
                repeat(first|refine GA ?_|refine gV (bx aT.eq ak.ty rfl rfl c4) ?_|refine gV (J ak.ty rfl (Qs _)) ?_|refine gV (J ak.ty rfl (ah (i:=0) rfl rfl)) ?_|refine gV (aC aT.eq ak.ty rfl rfl hm) ?_|refine gV (J ak.ty rfl (aad _)) ?_)
                exact db
            · rw[if_neg (fun h=>e3 h.1)]at j2
              repeat(first|refine GA ?_|refine gV (bx aT.eq ak.ty rfl rfl c4) ?_|refine gV (J ak.ty rfl (Qs _)) ?_|refine gV (J ak.ty rfl (ah (i:=0) rfl rfl)) ?_)
              exact bB (j+1) ⟨by omega,j2⟩ (by omega)
          · rw[List.drop_of_length_le (by omega),oC]at j2
            rw[j2,if_neg (by decide)]at i2
            try refine GA ?_
            exact bB (n+1) ⟨by omega,i2⟩ (by omega)
        · rw[if_pos (by simpa using c3)]at i2
          subst i2
          repeat(first|refine GA ?_|refine gV (bx aT.eq ak.ty rfl rfl c2) ?_|refine gV (J ak.ty rfl (dF _)) ?_|refine gV (J ak.ty rfl (ah (i:=0) rfl rfl)) ?_)
          exact db
      · rw[List.drop_of_length_le (by omega),mJ]at i2
        subst i2
        try refine GA ?_
        exact db
    · rw[if_pos (by simpa using c1)]
      repeat(first|refine GA ?_|refine gV (J ak.ty rfl (ah (i:=0) rfl rfl)) ?_)
      exact db
  · rw[if_pos (by simpa using c0)]
    generalize cz g=e at*;refine enter (args:=[cO g.aF g.aU vp,.slice br ll.length cr]) (n:=64) Tryz.func90 rfl rfl rfl ?_;refine a8 (aL (a_ rfl rfl rfl fun g2=>?_));refine zL ?_
    repeat(first|refine GA ?_|refine gV (az (i:=0) ak.ty rfl rfl rfl) ?_)
    refine aI (jc aj.en rfl rfl) (fun w hm=>gd _ hm.below) rfl rfl rfl ?_;intro _ _;refine zL ?_
    try refine GA ?_
    exact db
theorem Qt{l:List aB.Prod}{may:Nat->Nat}{T N g:Nat}{vs:Nat->Value}{w:World}(hl:l.length<=40)(hN:N<=20)(h1:(dU 26 qu g N vs).holds w)(h2:(fS (fun j=>j<N) (jY l may T vs N 0)).holds w):
    zc w (.slice (some ⟨g,0,none⟩) N N) (iY N fun n=>iY (T+1) (wk.rowAt l may T n)):=by
  refine⟨some ⟨g,0,none⟩,N,by rw[eT],by rw[eT];exact Nat.le_refl _,by unfold maxLen;omega,fun h0=>⟨g,0,rfl,(dU 26 qu g N vs).lt w h1 g (.inl rfl),fun i hi=>?_⟩⟩;rw[eT]at hi;have hf:=h2.1 i hi;unfold jY ww at hf;rw[if_pos hi]at hf;have sd:(iY N fun n=>iY (T+1) (wk.rowAt l may T n))[i]'(by rw[eT];exact hi)=iY (T+1) (wk.rowAt l may T i):=by simp[iY]
  rw[sd];refine⟨[vs i],⟨vs i,rfl,?_⟩,fun j u hj=>?_⟩
  · have hs:=Sl.cI hf
    refine iB.of_flat (p:=bO.cV) (by rw[eT];rw[show((iY (T+1) (wk.rowAt l may T i)).flatMap fun n=>[Value.int .i64 n])=(iY (T+1) (wk.rowAt l may T i)).map Xh from by
        rw[List.flatMap_def]
        induction iY (T+1) (wk.rowAt l may T i)with
        |nil=>rfl
        |cons x r ih=>simp only[List.map_cons,List.flatten_cons,ih];rfl];exact hs) (fun a ha=>?_) (fun b hb=>(aM 3 1 (vs i) (T+1) _).lt w hf b (.inl hb)) (fun a n cp he=>?_)
    · unfold iY at ha
      obtain⟨c,_,rfl⟩:=List.mem_map.1 ha;have:=pQ (l:=l) (may:=may) (T:=T) i c l.length;unfold wk.rowAt;exact⟨by omega,by omega⟩
    · have hr:w.ownsRow 0 3 1 (vs i) (T+1) _:=hf
      rcases hr.2 with⟨hv,h⟩|⟨gg,cap,kK,hv,_⟩
      · omega
      · rw[hv]at he
        simp only[Value.slice.injEq,Option.some.injEq]at he;rw[<-he.1];exact(aM 3 1 (vs i) (T+1) _).lt w hf gg (.inl (by rw[hv];rfl))
  · have Wt:j=0:=by
      have:=(List.getElem?_eq_some_iff.1 hj).1;simp at this;omega
    subst Wt;simp only[List.getElem?_cons_zero,Option.some.injEq]at hj;subst hj;have:=uk h1 hi;rw[show 0+i*(bD fq).c+0=0+i by rw[show(bD fq).c=1 from rfl];omega];exact this
end bK
namespace bK
open Go.RowKit bO dc aB dy cL aY bT
def ze(w:World)(t:Value)(A:List (List aY.Act))(G:List (List Int)):Prop:=∃vA vG,t= .agg #[vA,vG]/\iB (bD sq) (fun k=>k<w.heap.size) w vA A/\iB (bD fq) (fun k=>k<w.heap.size) w vG G
theorem ze.gr{w w':World}{t:Value}{A:List (List aY.Act)}{G:List (List Int)}(h:ze w t A G)(hg:Gr w w'):ze w' t A G:=let ⟨a,b,h1,h2,h3⟩:=h;⟨a,b,h1,h2.gr hg,h3.gr hg⟩
theorem TS{w:World}{x:IG}{A:List (List aY.Act)}{G:List (List Int)}(h1:(aM 92 1 x.vA A.length x.wx).holds w)(h2:(dz (bD sq) x.FA (x.wx.map fun v=>[v]) A).holds w)(h3:(aM 26 1 x.vG G.length x.wy).holds w)(h4:(dz (bD fq) x.FG (x.wy.map fun v=>[v]) G).holds w):ze w (.agg #[x.vA,x.vG]) A G:=by
 have h1':(aM 92 (bD sq).c x.vA A.length (x.wx.map fun v=>[v]).flatten).holds w:=by rw[yS];exact h1
 have h3':(aM 26 (bD fq).c x.vG G.length (x.wy.map fun v=>[v]).flatten).holds w:=by rw[yS];exact h3
 exact⟨x.vA,x.vG,rfl,(B8 h1' h2 (by decide)).mono fun k hk=>B9 h1' h2 k hk,(B8 h3' h4 (by decide)).mono fun k hk=>B9 h3' h4 k hk⟩
theorem De{α:Type}{s:sC α}{F:Nat->Prop}{w:World}{base:Option Addr}{n cap:Nat}{l:List (List α)}(h:iB (bD s) F w (.slice base n cap) l){i:Nat}(hi:i<l.length):∃b off vi,base=some ⟨b,off,none⟩/\w.cell? ⟨b,off+i,none⟩=some vi/\iB s F w vi l[i]:=by
 obtain⟨vC,tZ,e,_,_,h3⟩:=h
 cases e
 obtain⟨b,off,rfl,_,h4⟩:=h3 (by omega);obtain⟨cs,⟨vi,rfl,h5⟩,h6⟩:=h4 i hi;refine⟨b,off,vi,rfl,?_,h5⟩;have:=h6 0 vi rfl
 rwa [show off+i*(bD s).c+0=off+i by show off+i*1+0=_;omega]at this
theorem jK{α:Type}{s:sC α}{F:Nat->Prop}{w:World}{v:Value}{l:List α}(h:iB s F w v l):∃base cap,v= .slice base l.length cap/\l.length<=cap/\cap<=9223372036854775807:=let ⟨b,c,h1,h2,h3,_⟩:=h;⟨b,c,h1,h2,by unfold maxLen at h3;omega⟩
def qx(T P n:Nat)(x:aY.Act)(c:Nat):Prop:=(x.1=0/\x.2=0)\/(x.1=1/\c<T/\0<=x.2/\x.2<(n:Int))\/(x.1=2/\0<=x.2/\x.2<(P:Int))\/(x.1=3/\x.2=0/\c=T)
theorem Df(T P n:Nat)(nn:Int)(bp:Option Addr)(cp:Nat)(aA:Option Addr)(cA:Nat)(vG:Value)(x:aY.Act)(c:Nat)(h:qx T P n x c)(w:World):
 Calls Tryz.prog 132 #[cO (T:Int) nn (.slice bp P cp),.agg #[.slice aA n cA,vG],.agg (iR x).toArray,.int .i64 (c:Int)] w (bM (ret (.bool true)) w):=by
 obtain⟨k,m⟩:=x;unfold qx at h;dsimp only at h;refine enter (args:=[cO (T:Int) nn (.slice bp P cp),.agg #[.slice aA n cA,vG],.agg (iR (k,m)).toArray,.int .i64 (c:Int)]) (n:=59) Tryz.func132 rfl rfl rfl ?_;refine a8 (aL (a_ rfl rfl rfl fun g4=>?_));refine zL ?_;refine a_ rfl rfl rfl fun g5=>?_;refine zL ?_;refine a_ rfl rfl rfl fun g6=>?_;refine zL ?_;rcases h with⟨rfl,rfl⟩|⟨rfl,h1,h2,h3⟩|⟨rfl,h1,h2⟩|⟨rfl,rfl,rfl⟩
 ·repeat(first|refine GA ?_|refine gV (J (v:= .int .i64 0) ak.ty rfl (ah (i:=2) rfl rfl)) ?_)
  exact db
 ·repeat(first|refine GA ?_|refine gV (J (v:= .int .i64 1) ak.ty rfl (ah (i:=2) rfl rfl)) ?_|refine gV (J (v:= .int .i64 m) ak.ty rfl (ah (i:=2) rfl rfl)) ?_|refine gV (J (v:= .int .i64 (T:Int)) ak.ty rfl (ah (i:=0) rfl rfl)) ?_|refine gV (J (v:= .slice aA n cA) ak.ty rfl (ah (i:=1) rfl rfl)) ?_)
  exact db
 ·repeat(first|refine GA ?_|refine gV (J (v:= .int .i64 2) ak.ty rfl (ah (i:=2) rfl rfl)) ?_|refine gV (J (v:= .int .i64 m) ak.ty rfl (ah (i:=2) rfl rfl)) ?_|refine gV (J (v:= .slice bp P cp) ak.ty rfl (ah (i:=0) rfl rfl)) ?_)
  exact db
 ·repeat(first|refine GA ?_|refine gV (J (v:= .int .i64 3) ak.ty rfl (ah (i:=2) rfl rfl)) ?_|refine gV (J (v:= .int .i64 0) ak.ty rfl (ah (i:=2) rfl rfl)) ?_|refine gV (J (v:= .int .i64 (c:Int)) ak.ty rfl (ah (i:=0) rfl rfl)) ?_)
  exact db
structure o8(g:dr)(T N:Nat)(A:List (List aY.Act))(G:List (List Int)):Prop where
 Dg:cz g=0
 aF:g.aF=(T:Int)
 aU:g.aU=(N:Int)
 pos:0<A.length
 Hx:A.length<=200
 same:G.length=A.length
 wA:∀i (h:i<A.length),A[i].length=T+1
 cK:∀i (h:i<A.length),∀c (hc:c<A[i].length),qx T g.ag.length A.length A[i][c] c
 wG:∀i (h:i<G.length),G[i].length=N
 gos:∀i (h:i<G.length),∀y∈G[i],-1<=y/\y<(A.length:Int)
theorem rv(v t:Value)(g:dr)(T N:Nat)(A:List (List aY.Act))(G:List (List Int))(h:o8 g T N A G)(w:World)(hG:iZ (fun k=>k<w.heap.size) w v g)(ht:ze w t A G):
 Calls Tryz.prog 91 #[v,t] w (bM (ret (.int .i64 0)) w):=by
 have gd:=fun w' (hg:Gr w w')=>gG v g w' (hG.gr hg);obtain⟨vp,rfl,hp,-,-⟩:=hG;obtain⟨bp,cp,rfl,-⟩:=hp;obtain⟨vA,vG,rfl,hA,Vo⟩:=ht;obtain⟨aA,cA,rfl,-,-⟩:=jK hA;obtain⟨aG,cG,rfl,-,-⟩:=jK Vo;obtain⟨hg,C1,ZA,uz,Ij,oM,Xm,TT,hwG,Qu⟩:=h;obtain⟨hT1,hT2,-,V9,w6,-⟩:=bV hg;rw[hg]at gd;rw[C1,ZA]at gd⊢;refine enter (args:=[cO (T:Int) (N:Int) (.slice bp g.ag.length cp),.agg #[.slice aA A.length cA,.slice aG G.length cG]]) (n:=93) Tryz.func91 rfl rfl rfl ?_;refine a8 (aL (a_ rfl rfl rfl fun g2=>?_));refine zL ?_;refine a_ rfl rfl rfl fun g3=>?_;refine zL ?_
 repeat(first|refine GA ?_|refine gV (az (i:=0) ak.ty rfl rfl rfl) ?_)
 refine aI (jc aj.en rfl rfl) (fun w hm=>gd w hm.below) rfl rfl rfl ?_;intro _ _;refine zL ?_
 repeat(first|refine GA ?_|refine gV (J (v:= .slice aA A.length cA) ak.ty rfl (ah (i:=1) rfl rfl)) ?_|refine gV (J (v:= .slice aG G.length cG) ak.ty rfl (ah (i:=1) rfl rfl)) ?_)
 clear gd;refine dv (ι:=Nat) (fun i=>i<=A.length) (fun i=>[(2,.pointer (some ⟨g2,0,none⟩)),(3,.pointer (some ⟨g3,0,none⟩)),(6,.int .i64 (A.length:Int)),(31,.int .i64 (A.length:Int)),(32,.int .i64 (i:Int))])
  (fun _=>[aw g2 (cO (T:Int) (N:Int) (.slice bp g.ag.length cp)).cells 33,aw g3 (Value.agg #[.slice aA A.length cA,.slice aG G.length cG]).cells 36]) (fun i=>A.length-i) 0 (Nat.zero_le _) ?_
 intro i i1
 by_cases c1:i<A.length
 ·have c1G:i<G.length:=by omega
  obtain⟨bA,oA,vi,rfl,hcA,Xn⟩:=De hA c1;obtain⟨bG,oG,wi,rfl,hcG,Xo⟩:=De Vo c1G;obtain⟨ai,ci,rfl,hci,acd⟩:=jK Xn;obtain⟨ei,di,rfl,hdi,aae⟩:=jK Xo;have hfA:=Xn.flat (f:=iR) (by decide);have hfG:=Xo.flat (f:=fun n=>[Value.int .i64 n]) (by decide);have ace:=Xm i c1;have acf:=hwG i c1G;have aaf:=TT i c1;have aag:=Qu i c1G;obtain⟨_,_,e1,-,-,hrA⟩:=hfA
  cases e1
  obtain⟨_,_,e2,-,-,Xp⟩:=hfG
  cases e2
  clear Xn Xo TT Qu Xm hwG;have TU:∀L,At (w:bC) L ⟨bA,oA+i,none⟩ (.slice ai A[i].length ci):=fun L=>iw hcA;have TV:∀L,At (w:bC) L ⟨bG,oG+i,none⟩ (.slice ei G[i].length di):=fun L=>iw hcG;generalize A[i]=X at*;generalize G[i]=Y at*
  try refine GA ?_
  refine cU ([aw g2 (cO (T:Int) (N:Int) (.slice bp g.ag.length cp)).cells 33,aw g3 (Value.agg #[.slice (some ⟨bA,oA,none⟩) A.length cA,.slice (some ⟨bG,oG,none⟩) G.length cG]).cells 36]) (.calm 0 (.calm 1 (.calm 2 (.calm 3 (.calm 4 (.calm 5 (.calm 6 (.calm 7 (.calm 8 (.calm 9 (.calm 10 (.calm 11 (.calm 12 (.calm 13 (.calm 14 (.calm 15 (.calm 16 (.calm 17 (.calm 18 (.calm 19 (.calm 20 (.done)))))))))))))))))))))) (fun _ h=>h) ?_
  repeat(first|refine GW ?_|(refine GN ?_;first|refine QW (J (v:= .slice (some ⟨bA,oA,none⟩) A.length cA) ak.ty rfl (ah (i:=1) rfl rfl)) ?_|refine QW (bx aT.eq ak.ty rfl rfl c1) ?_|refine QW (J (v:= .slice ai X.length ci) ak.ty rfl (TU _)) ?_|refine QW (J (v:= .int .i64 (T:Int)) ak.ty rfl (ah (i:=0) rfl rfl)) ?_|refine QW (J (v:= .slice (some ⟨bG,oG,none⟩) G.length cG) ak.ty rfl (ah (i:=1) rfl rfl)) ?_|refine QW (bx aT.eq ak.ty rfl rfl c1G) ?_|refine QW (J (v:= .slice ei Y.length di) ak.ty rfl (TV _)) ?_|refine QW (J (v:= .int .i64 (N:Int)) ak.ty rfl (ah (i:=0) rfl rfl)) ?_))
  repeat(first|refine GA ?_|refine gV (J (v:= .slice (some ⟨bA,oA,none⟩) A.length cA) ak.ty rfl (ah (i:=1) rfl rfl)) ?_|refine gV (bx aT.eq ak.ty rfl rfl c1) ?_|refine gV (J (v:= .slice ai X.length ci) ak.ty rfl (TU _)) ?_)
  refine dv (ι:=Nat) (fun c=>c<=X.length) (fun c=>[(2,.pointer (some ⟨g2,0,none⟩)),(3,.pointer (some ⟨g3,0,none⟩)),(6,.int .i64 (A.length:Int)),(7,.int .i64 (i:Int)),(31,.int .i64 (A.length:Int)),(32,.int .i64 (i:Int)),(60,.slice ai X.length ci),(61,.int .i64 (X.length:Int)),(62,.int .i64 (c:Int))])
   (fun _=>[aw g2 (cO (T:Int) (N:Int) (.slice bp g.ag.length cp)).cells 33,aw g3 (Value.agg #[.slice (some ⟨bA,oA,none⟩) A.length cA,.slice (some ⟨bG,oG,none⟩) G.length cG]).cells 36]) (fun c=>X.length-c) 0 (Nat.zero_le _) ?_
  intro c j1
  by_cases c2:c<X.length
  ·obtain⟨b,off,rfl,ef⟩:=hrA (by omega)
   have dF:=fun L=>eN (L:=L) nF ef c2;have yG:∀(L:List bI) (j:Nat) (u:Value),(iR X[c])[j]?=some u->At (w:bC) L ⟨b,off+c*2+j,none⟩ u:=dF;have O0:=aaf c c2;clear dF;generalize X[c]=x at*;have Zs:=Df T g.ag.length A.length (N:Int) bp cp (some ⟨bA,oA,none⟩) cA (.slice (some ⟨bG,oG,none⟩) G.length cG) x c O0
   repeat(first|refine GA ?_|refine gV (aC aT.eq ak.ty rfl rfl c2) ?_|refine gV (aH (cs:=iR x) ak.ty rfl rfl (yG _)) ?_)
   refine aK rfl fun g9=>?_;refine zL ?_
   try refine GA ?_
   refine fa 2 (cs':=(iR x).toArray) ?_;refine zL ?_
   repeat(first|refine GA ?_|refine gV (az (i:=0) ak.ty rfl rfl rfl) ?_|refine gV (az (i:=1) ak.ty rfl rfl rfl) ?_|refine gV (az (i:=2) ak.ty rfl rfl rfl) ?_)
   refine aI (G7 aj.en rfl rfl rfl rfl rfl) (fun w hm=>Zs w) rfl rfl rfl ?_;intro _ _;refine zL ?_
   try refine GA ?_
   refine cD [0,1] ?_;exact bB (c+1) (by omega) (by show X.length-(c+1)<X.length-c;omega)
  obtain rfl:c=X.length:=by omega
  repeat(first|refine GA ?_|refine gV (J (v:= .slice (some ⟨bG,oG,none⟩) G.length cG) ak.ty rfl (ah (i:=1) rfl rfl)) ?_|refine gV (bx aT.eq ak.ty rfl rfl c1G) ?_|refine gV (J (v:= .slice ei Y.length di) ak.ty rfl (TV _)) ?_)
  refine dv (ι:=Nat) (fun c=>c<=Y.length) (fun c=>[(2,.pointer (some ⟨g2,0,none⟩)),(3,.pointer (some ⟨g3,0,none⟩)),(6,.int .i64 (A.length:Int)),(31,.int .i64 (A.length:Int)),(32,.int .i64 (i:Int)),(78,.slice ei Y.length di),(79,.int .i64 (Y.length:Int)),(80,.int .i64 (c:Int))])
   (fun _=>[aw g2 (cO (T:Int) (N:Int) (.slice bp g.ag.length cp)).cells 33,aw g3 (Value.agg #[.slice (some ⟨bA,oA,none⟩) A.length cA,.slice (some ⟨bG,oG,none⟩) G.length cG]).cells 36]) (fun c=>Y.length-c) 0 (Nat.zero_le _) ?_
  intro c k1
  by_cases c3:c<Y.length
  ·obtain⟨b,off,rfl,ef⟩:=Xp (by omega)
   have dF:=fun L=>eN (L:=L) (f:=fun n=>[Value.int .i64 n]) (c:=1) (fun _=>rfl) ef c3 0 _ rfl;have yG:∀(L:List bI),At (w:bC) L ⟨b,off+c*1+0,none⟩ (.int .i64 Y[c]):=dF;have hgo:=aag Y[c] (List.getElem_mem c3);clear dF;generalize Y[c]=y at*
   repeat(first|refine GA ?_|refine gV (aC aT.eq ak.ty rfl rfl c3) ?_|refine gV (J (v:= .int .i64 y) ak.ty rfl (yG _)) ?_)
   exact bB (c+1) (by omega) (by show Y.length-(c+1)<Y.length-c;omega)
  obtain rfl:c=Y.length:=by omega
  try refine GA ?_
  exact bB (i+1) (by omega) (by show A.length-(i+1)<A.length-i;omega)
 ·obtain rfl:i=A.length:=by omega
  try refine GA ?_
  exact db
def Vp(g:dr):Bool:=decide ((fB g).2.2.2=0)&&decide ((fB g).2.2.1.length=0)
end bK
namespace bK
open Go.RowKit bO dc sW bT
structure PkM(w:World)(vn vt:Value)(N:List (List Int))(tags:List Int):Prop where
 ex:∃(b off cap:Nat) (vs:Nat->Value),vn= .slice (some ⟨b,off,none⟩) N.length cap/\∀i (h:i<N.length),w.cell? ⟨b,off+i,none⟩=some (vs i)/\Sl w (vs i) N[i].length (N[i].flatMap bO.dB)
 hT:Sl w vt tags.length (tags.flatMap bO.dB)
structure Qv(o:Of)(N:List (List Int))(tags:List Int)(wide:Nat):Prop where
 pos:0<N.length
 le:N.length<=200
 len:tags.length=N.length
 w0:0<wide
 w1:wide<=256
 row:∀i (h:i<N.length),N[i].length=wide
 tag:∀i (h:i<tags.length),-1<=tags[i]/\tags[i]<20
 Va:∀i (h:i<N.length),∀j (h':j<N[i].length),-1<=N[i][j]/\N[i][j]<N.length
 of:∀b (h:b<256),o[b]<wide
theorem PkM.gr{w w':World}{vn vt:Value}{N:List (List Int)}{tags:List Int}(h:PkM w vn vt N tags)(hg:Gr w w'):PkM w' vn vt N tags:=by
 obtain⟨b,off,cap,vs,h1,h2⟩:=h.ex;refine⟨⟨b,off,cap,vs,h1,fun i hi=>⟨?_,(h2 i hi).2.gr hg⟩⟩,h.hT.gr hg⟩;rw[hg.cell (World.block_lt_of_cell? w _ (h2 i hi).1)];exact(h2 i hi).1
def TY(o:Of):List Value:=o.toList.map fun n:Nat=> .int .u8 (n:Int)
theorem TZ(o:Of):(TY o).length=256:=by simp[TY]
theorem T2(o:Of){b:Nat}(h:b<256):(TY o).toArray[b]?=some (.int .u8 (o[b]:Int)):=by
 rw[List.getElem?_toArray];unfold TY;rw[List.getElem?_map,List.getElem?_eq_getElem (by simpa using h),Vector.getElem_toList];rfl
theorem Xq(o:Of)(vn vt:Value){j:Nat}{v:Value}(h:(TY o)[j]?=some v):(fE o vn vt).toArray[0+j]?=some v:=by
 have hj:j<(TY o).length:=(List.getElem?_eq_some_iff.1 h).1;rw[Nat.zero_add,List.getElem?_toArray];show(TY o++[vn,vt])[j]?=_
 rw[List.getElem?_append_left hj];exact h
def T3(o:Of)(N:List (List Int)):List Row:=N.map fun l=>Vector.ofFn fun b:Fin 256=>l.getD o[b] 0
theorem Km(o:Of)(N:List (List Int)):(T3 o N).length=N.length:=List.length_map ..
end bK
namespace bK
open Go.RowKit bO dc bT
structure T4(w:World)(vn vt:Value)(N:List (List Int))(tags:List Int):Prop where
 hN:iB (bD fq) (ng w) w vn N
 hT:Sl w vt tags.length (tags.flatMap bO.dB)
theorem T4.gr{w w':World}{vn vt:Value}{N:List (List Int)}{tags:List Int}(h:T4 w vn vt N tags)(hg:Gr w w'):T4 w' vn vt N tags:=⟨wS h.hN hg,h.hT.gr hg⟩
abbrev jL(o:Of)(N:List (List Int))(tags:List Int):Prop:=Qv o N tags (N.headD []).length
open Classical in
noncomputable def nG(o:Of)(N:List (List Int))(tags:List Int):Int:=if 200<N.length then 2 else if jL o N tags then 0 else 1
def F3(N:List (List Int))(tags:List Int)(wide i:Nat):Prop:=(N.getD i []).length=wide/\ -1<=tags.getD i 0/\tags.getD i 0<20/\∀x∈N.getD i [],-1<=x/\x<N.length
theorem T5{o:Of}{N:List (List Int)}{tags:List Int}{wide:Nat}(h:Qv o N tags wide){i:Nat}(hi:i<N.length):F3 N tags wide i:=by
 have hit:i<tags.length:=by rw[h.len];exact hi
 unfold F3;rw[List.getD_eq_getElem?_getD,List.getElem?_eq_getElem hi,List.getD_eq_getElem?_getD,List.getElem?_eq_getElem hit];refine⟨h.row i hi,(h.tag i hit).1,(h.tag i hit).2,fun x hx=>?_⟩;obtain⟨j,hj,rfl⟩:=List.mem_iff_getElem.1 hx;exact h.Va i hi j hj
theorem T6{o:Of}{N:List (List Int)}{tags:List Int}{wide:Nat}(h0:0<N.length)(h1:N.length<=200)(h2:tags.length=N.length)(h3:0<wide)(h4:wide<=256)(h5:∀i,i<N.length->F3 N tags wide i)(h6:∀b (h:b<256),o[b]<wide):Qv o N tags wide:=by
 have g:∀i (hi:i<N.length),N.getD i []=N[i]:=fun i hi=>by rw[List.getD_eq_getElem?_getD,List.getElem?_eq_getElem hi];rfl
 have gt:∀i (hi:i<tags.length),tags.getD i 0=tags[i]:=fun i hi=>by rw[List.getD_eq_getElem?_getD,List.getElem?_eq_getElem hi];rfl
 refine⟨h0,h1,h2,h3,h4,fun i hi=>?_,fun i hi=>?_,fun i hi j hj=>?_,h6⟩
 ·have:=(h5 i hi).1;rwa [g i hi]at this
 ·have:=h5 i (by omega);unfold F3 at this;rw[gt i hi]at this;exact⟨this.2.1,this.2.2.1⟩
 ·have:=(h5 i hi).2.2.2;rw[g i hi]at this;exact this _ (List.getElem_mem hj)
theorem Xr{o:Of}{N:List (List Int)}{tags:List Int}(h:200<N.length):nG o N tags=2:=if_pos h
theorem Xs{o:Of}{N:List (List Int)}{tags:List Int}(h:¬200<N.length)(hg:¬jL o N tags):nG o N tags=1:=by unfold nG;rw[if_neg h,if_neg hg]
theorem IN{o:Of}{N:List (List Int)}{tags:List Int}(hg:jL o N tags):nG o N tags=0:=by unfold nG;rw[if_neg (by have:=hg.le;omega),if_pos hg]
theorem MH{o:Of}{N:List (List Int)}{tags:List Int}(h:nG o N tags=0):jL o N tags:=by
 unfold nG at h;split at h
 ·cases h
 ·split at h
  ·assumption
  ·cases h
theorem vW(o:Of)(vn vt:Value)(N:List (List Int))(tags:List Int)(w:World)(h:T4 w vn vt N tags)(ho:∀b (h:b<256),o[b]<256):
    Calls Tryz.prog 89 #[GR o vn vt] w (bM (ret (.int .i64 (nG o N tags))) w):=by
  obtain⟨⟨an,cn,rfl,hn1,RM,hn3⟩,at',ct,rfl,US,Om,DH⟩:=h;unfold maxLen at RM Om;have Vq:=fun h hg=>Xs (o:=o) (N:=N) (tags:=tags) h hg;have ZH:=fun h=>Xr (o:=o) (N:=N) (tags:=tags) h;have hE0:=fun h=>IN (o:=o) (N:=N) (tags:=tags) h;generalize nG o N tags=e at*;refine enter (args:=[GR o (.slice an N.length cn) (.slice at' tags.length ct)]) (n:=92) Tryz.func89 rfl rfl rfl ?_;refine a8 (aL (a_ rfl rfl rfl fun g1=>?_))
  by_cases c1:200<N.length
  · rw[ZH c1]
    repeat(first|refine GC ?_|refine gV (J ak.ty rfl (ah (i:=0) rfl (kw _ _ _))) ?_|refine gV (dj (b:=true) rfl rfl (decide_eq_true (by omega))) ?_|refine GB ?_)
    exact dx rfl rfl rfl
  by_cases c2:N.length=0
  · rw[Vq c1 (fun h=>by have:=h.pos;omega)]
    repeat(first|refine GC ?_|refine gV (J ak.ty rfl (ah (i:=0) rfl (kw _ _ _))) ?_|refine gV (dj (b:=false) rfl rfl (decide_eq_false (by omega))) ?_|refine gV (bL (b:=true) rfl rfl (decide_eq_true (by omega))) ?_|refine GB ?_)
    exact dx rfl rfl rfl
  by_cases c3:tags.length=N.length
  case neg=>
    rw[Vq c1 (fun h=>c3 h.len)]
    repeat(first|refine GC ?_|refine gV (J ak.ty rfl (ah (i:=0) rfl (kw _ _ _))) ?_|refine gV (J ak.ty rfl (ah (i:=0) rfl (kZ _ _ _))) ?_|refine gV (dj (b:=false) rfl rfl (decide_eq_false (by omega))) ?_|refine gV (bL (b:=false) rfl rfl (decide_eq_false (by omega))) ?_|refine gV (bm (b:=true) rfl rfl (decide_eq_true (by omega))) ?_|refine GB ?_)
    exact dx rfl rfl rfl
  obtain⟨bn,F4,rfl,_,GV⟩:=hn3 (by omega);obtain⟨bt,Dh,rfl,htd⟩:=DH (by omega);clear hn3 DH;obtain⟨u0,⟨a0,c0,rfl,-⟩,hd0⟩:=yo GV (show 0<N.length by omega);have Xj:=fun(L:List bI)=>f_ (L:=L) hd0 (j:=0) (v:= .slice a0 (N[0]'(by omega)).length c0) rfl;have hw:(N.headD []).length=(N[0]'(by omega)).length:=by cases N with
    |nil=>simp at c2
    |cons x r=>rfl
  have pJ:jL o N tags↔Qv o N tags (N[0]'(by omega)).length:=by unfold jL;rw[hw]
  clear hd0 hw;generalize (N[0]'(by omega)).length=wide at*
  repeat(first|refine GC ?_|refine gV (J ak.ty rfl (ah (i:=0) rfl (kw _ _ _))) ?_|refine gV (J ak.ty rfl (ah (i:=0) rfl (kZ _ _ _))) ?_|refine gV (dj (b:=false) rfl rfl (decide_eq_false (by omega))) ?_|refine gV (bL (b:=false) rfl rfl (decide_eq_false (by omega))) ?_|refine gV (bm (b:=false) rfl rfl (decide_eq_false (by omega))) ?_|refine gV (aC (j:=0) aT.eq ak.ty rfl rfl (by omega)) ?_|refine gV (J (v:= .slice a0 wide c0) ak.ty rfl (Xj _)) ?_|refine GB ?_)
  by_cases c4:wide=0
  · rw[Vq c1 (fun h=>by have:=(pJ.1 h).w0;omega)]
    repeat(first|refine GC ?_|refine gV (bL (b:=true) rfl rfl (decide_eq_true (by omega))) ?_|refine GB ?_)
    exact dx rfl rfl rfl
  by_cases c5:256<wide
  · rw[Vq c1 (fun h=>by have:=(pJ.1 h).w1;omega)]
    repeat(first|refine GC ?_|refine gV (bL (b:=false) rfl rfl (decide_eq_false (by omega))) ?_|refine gV (dj (b:=true) rfl rfl (decide_eq_true (by omega))) ?_|refine GB ?_)
    exact dx rfl rfl rfl
  repeat(first|refine GC ?_|refine gV (bL (b:=false) rfl rfl (decide_eq_false (by omega))) ?_|refine gV (dj (b:=false) rfl rfl (decide_eq_false (by omega))) ?_|refine GB ?_)
  refine dv (ι:=Nat) (fun i=>i<=N.length/\∀j,j<i->F3 N tags wide j) (fun i=>[(1,.pointer (some ⟨g1,0,none⟩)),(3,.int .i64 (N.length:Int)),(4,.int .i64 (wide:Int)),(35,.int .i64 (N.length:Int)),(36,.int .i64 (i:Int))])
    (fun _=>[aw g1 (fE o (.slice (some ⟨bn,F4,none⟩) N.length cn) (.slice (some ⟨bt,Dh,none⟩) tags.length ct)).toArray 30]) (fun i=>N.length-i) 0 ⟨Nat.zero_le _,fun j h=>by omega⟩ ?_
  rintro i ⟨hi,hgi⟩
  by_cases q1:i<N.length
  · have hit:i<tags.length:=by omega
    obtain⟨u,⟨au,cu,rfl,hcu,hmu,Ru⟩,hdu⟩:=yo GV q1;unfold maxLen at hmu;have MI:=fun(L:List bI)=>f_ (L:=L) hdu (j:=0) (v:= .slice au N[i].length cu) rfl;have FK:=fun(L:List bI)=>eN (L:=L) iG htd hit 0 _ rfl;have hG:F3 N tags wide i↔(N[i].length=wide/\ -1<=tags[i]/\tags[i]<20/\∀x∈N[i],-1<=x/\x<N.length):=by
      unfold F3;rw[List.getD_eq_getElem?_getD,List.getElem?_eq_getElem q1,List.getD_eq_getElem?_getD,List.getElem?_eq_getElem hit];rfl
    have kD:¬F3 N tags wide i->e=1:=fun hg=>Vq c1 fun h=>hg (T5 (pJ.1 h) q1);clear hdu Vq ZH;generalize tags[i]=tg at*;generalize N[i]=l at*
    by_cases r1:l.length=wide
    case neg=>
      rw[kD (fun h=>r1 (hG.1 h).1)]
      repeat(first|refine GC ?_|refine gV (J ak.ty rfl (ah (i:=0) rfl (kw _ _ _))) ?_|refine gV (J ak.ty rfl (ah (i:=0) rfl (kZ _ _ _))) ?_|refine gV (aC (j:=i) aT.eq ak.ty rfl rfl q1) ?_|refine gV (J (v:= .slice au l.length cu) ak.ty rfl (MI _)) ?_|refine gV (bm (b:=true) rfl rfl (decide_eq_true (by omega))) ?_|refine GB ?_)
      exact dx rfl rfl rfl
    by_cases r2:tg< -1
    · rw[kD (fun h=>by have:=(hG.1 h).2.1;omega)]
      repeat(first|refine GC ?_|refine gV (J ak.ty rfl (ah (i:=0) rfl (kw _ _ _))) ?_|refine gV (J ak.ty rfl (ah (i:=0) rfl (kZ _ _ _))) ?_|refine gV (aC (j:=i) aT.eq ak.ty rfl rfl q1) ?_|refine gV (J (v:= .slice au l.length cu) ak.ty rfl (MI _)) ?_|refine gV (bm (b:=false) rfl rfl (decide_eq_false (by omega))) ?_|refine gV (aC (j:=i) aT.eq ak.ty rfl rfl hit) ?_|refine gV (J (v:= .int .i64 tg) ak.ty rfl (FK _)) ?_|refine gV (bQ (b:=true) rfl rfl (decide_eq_true r2)) ?_|refine GB ?_)
      exact dx rfl rfl rfl
    by_cases r3:20<=tg
    · rw[kD (fun h=>by have:=(hG.1 h).2.2.1;omega)]
      repeat(first|refine GC ?_|refine gV (J ak.ty rfl (ah (i:=0) rfl (kw _ _ _))) ?_|refine gV (J ak.ty rfl (ah (i:=0) rfl (kZ _ _ _))) ?_|refine gV (aC (j:=i) aT.eq ak.ty rfl rfl q1) ?_|refine gV (J (v:= .slice au l.length cu) ak.ty rfl (MI _)) ?_|refine gV (bm (b:=false) rfl rfl (decide_eq_false (by omega))) ?_|refine gV (aC (j:=i) aT.eq ak.ty rfl rfl hit) ?_|refine gV (J (v:= .int .i64 tg) ak.ty rfl (FK _)) ?_|refine gV (bQ (b:=false) rfl rfl (decide_eq_false r2)) ?_|refine gV (dO (b:=true) rfl rfl (decide_eq_true r3)) ?_|refine GB ?_)
      exact dx rfl rfl rfl
    repeat(first|refine GC ?_|refine gV (J ak.ty rfl (ah (i:=0) rfl (kw _ _ _))) ?_|refine gV (J ak.ty rfl (ah (i:=0) rfl (kZ _ _ _))) ?_|refine gV (aC (j:=i) aT.eq ak.ty rfl rfl q1) ?_|refine gV (J (v:= .slice au l.length cu) ak.ty rfl (MI _)) ?_|refine gV (bm (b:=false) rfl rfl (decide_eq_false (by omega))) ?_|refine gV (aC (j:=i) aT.eq ak.ty rfl rfl hit) ?_|refine gV (J (v:= .int .i64 tg) ak.ty rfl (FK _)) ?_|refine gV (bQ (b:=false) rfl rfl (decide_eq_false r2)) ?_|refine gV (dO (b:=false) rfl rfl (decide_eq_false r3)) ?_|refine GB ?_)
    refine dv (ι:=Nat) (fun j=>j<=l.length/\∀x∈l.take j,-1<=x/\x<N.length) (fun j=>[(1,.pointer (some ⟨g1,0,none⟩)),(3,.int .i64 (N.length:Int)),(4,.int .i64 (wide:Int)),(35,.int .i64 (N.length:Int)),(36,.int .i64 (i:Int)),(67,.slice au l.length cu),(68,.int .i64 (l.length:Int)),(69,.int .i64 (j:Int))])
      (fun _=>[aw g1 (fE o (.slice (some ⟨bn,F4,none⟩) N.length cn) (.slice (some ⟨bt,Dh,none⟩) tags.length ct)).toArray 30]) (fun j=>l.length-j) 0 ⟨Nat.zero_le _,fun x h=>by simp at h⟩ ?_
    rintro j ⟨hj,hgj⟩
    by_cases s1:j<l.length
    · obtain⟨bu,aah,rfl,ef⟩:=Ru (by omega)
      have MJ:=fun(L:List bI)=>eN (L:=L) iG ef s1 0 _ rfl;have hxm:=List.getElem_mem s1;have H3:=List.take_succ_eq_append_getElem s1;clear ef;generalize l[j]=x at*
      by_cases t1:x< -1
      · rw[kD (fun h=>by have:=((hG.1 h).2.2.2 x hxm).1;omega)]
        repeat(first|refine GC ?_|refine gV (aC (j:=j) aT.eq ak.ty rfl rfl s1) ?_|refine gV (J (v:= .int .i64 x) ak.ty rfl (MJ _)) ?_|refine gV (bQ (b:=true) rfl rfl (decide_eq_true t1)) ?_|refine GB ?_)
        exact dx rfl rfl rfl
      by_cases t2:(N.length:Int)<=x
      · rw[kD (fun h=>by have:=((hG.1 h).2.2.2 x hxm).2;omega)]
        repeat(first|refine GC ?_|refine gV (aC (j:=j) aT.eq ak.ty rfl rfl s1) ?_|refine gV (J (v:= .int .i64 x) ak.ty rfl (MJ _)) ?_|refine gV (bQ (b:=false) rfl rfl (decide_eq_false t1)) ?_|refine gV (dO (b:=true) rfl rfl (decide_eq_true t2)) ?_|refine GB ?_)
        exact dx rfl rfl rfl
      repeat(first|refine GC ?_|refine gV (aC (j:=j) aT.eq ak.ty rfl rfl s1) ?_|refine gV (J (v:= .int .i64 x) ak.ty rfl (MJ _)) ?_|refine gV (bQ (b:=false) rfl rfl (decide_eq_false t1)) ?_|refine gV (dO (b:=false) rfl rfl (decide_eq_false t2)) ?_|refine GB ?_)
      exact fH (j+1) ⟨by omega,fun y hy=>by
        rw[H3,List.mem_append,List.mem_singleton]at hy;rcases hy with hy|rfl
        · exact hgj y hy
        · omega⟩ (by show l.length-(j+1)<l.length-j;omega) (by repeat' (first|exact True.intro|refine And.intro rfl ?_)) rfl
    · rw[List.take_of_length_le (by omega)]at hgj
      try refine GA ?_
      exact fH (i+1) ⟨by omega,fun j V'=>by
        by_cases e:j=i
        · subst e;exact hG.2 ⟨r1,by omega,by omega,hgj⟩
        · exact hgi j (by omega)⟩ (by show N.length-(i+1)<N.length-i;omega) (by repeat' (first|exact True.intro|refine And.intro rfl ?_)) rfl
  · repeat(first|refine GA ?_|refine gV (aH (cs:=TY o) ak.ty rfl (TZ o) (fun j v hj=>ah (i:=0) rfl (Xq _ _ _ hj))) ?_)
    refine dv (ι:=Nat) (fun j=>j<=256/\∀b (h:b<256),b<j->o[b]<wide) (fun j=>[(4,.int .i64 (wide:Int)),(83,.agg (TY o).toArray),(84,.int .i64 (j:Int))]) (fun _=>[aw g1 (fE o (.slice (some ⟨bn,F4,none⟩) N.length cn) (.slice (some ⟨bt,Dh,none⟩) tags.length ct)).toArray 30]) (fun j=>256-j) 0 ⟨Nat.zero_le _,fun b _ h=>by omega⟩ ?_;rintro j ⟨hj,I7⟩
    by_cases s1:j<256
    · have hcell:=T2 o s1
      have hz:=ho j s1;have kD:¬o[j]<wide->e=1:=fun hg=>Vq c1 fun h=>hg ((pJ.1 h).of j s1);have qO:o[j]<wide->∀b (h:b<256),b<j+1->o[b]<wide:=fun hw b h hb=>by
        by_cases e:b=j
        · subst e;exact hw
        · exact I7 b h (by omega)
      clear Vq ZH;generalize o[j]=z at*
      by_cases t1:z<wide
      · repeat(first|refine GC ?_|refine gV (fV aT.eq ak.ty rfl rfl s1 hcell) ?_|refine gV (fI aT.eq aT.eq rfl (kq (by omega) (by omega))) ?_|refine gV (dO (b:=false) rfl rfl (decide_eq_false (by omega))) ?_|refine GB ?_)
        exact bB (j+1) ⟨by omega,qO t1⟩ (by show 256-(j+1)<256-j;omega)
      · rw[kD t1]
        repeat(first|refine GC ?_|refine gV (fV aT.eq ak.ty rfl rfl s1 hcell) ?_|refine gV (fI aT.eq aT.eq rfl (kq (by omega) (by omega))) ?_|refine gV (dO (b:=true) rfl rfl (decide_eq_true (by omega))) ?_|refine GB ?_)
        exact dx rfl rfl rfl
    · rw[hE0 (pJ.2 (T6 (by omega) (by omega) c3 (by omega) (by omega) (fun i h=>hgi i (by omega)) fun b h=>I7 b h (by omega)))]
      try refine GA ?_
      exact dx rfl rfl rfl
end bK
namespace bK
open Go.RowKit bO dc bW eG gh aB bT
structure Md where
 of:List Int
 o:Of
 N:List (List Int)
 tags:List Int
 g:dr
 mode:Int
 rows:List (List Int)
 A:List (List aY.Act)
 G:List (List Int)
structure GS(w:World)(v:Value)(m:Md)(vo vn vt vp vr va vg:Value):Prop where
 val:v= .agg (ik vo (fE m.o vn vt) (gX m.g.aF m.g.aU vp m.mode vr va vg)).toArray
 of:Sl w vo m.of.length (m.of.flatMap bO.dB)
 pk:T4 w vn vt m.N m.tags
 GU:iZ (fun k=>k<w.heap.size) w (cO m.g.aF m.g.aU vp) m.g
 rows:zc w vr m.rows
 lA:ze w (.agg #[va,vg]) m.A m.G
structure zf(m:Md):Prop where
 byte:∀b (h:b<256),m.o[b]<256
 iL:nG m.o m.N m.tags=0
 GU:cz m.g=0
 some:0<m.of.length
 Sv:m.of.length<=20
 ofs:∀t∈m.of,-1<=t/\t<m.g.aF
 tag:∀t∈m.tags,t<(m.of.length:Int)
 mode:(m.mode=1/\Dd m.g m.rows=0)\/(m.mode=2/\∃T N,o8 m.g T N m.A m.G)
theorem tM{vo:Value}{pk tl:List Value}(hp:pk.length=258){j:Nat}{v:Value}(h:pk[j]?=some v):(ik vo pk tl).toArray[0+1+j]?=some v:=by
 rw[List.getElem?_toArray,ik,show 0+1+j=j+1 by omega,List.getElem?_cons_succ,List.getElem?_append_left (List.getElem?_eq_some_iff.1 h).1];exact h
theorem Xt{vo:Value}{pk:List Value}(hp:pk.length=258){a b c d e f f' v:Value}{j:Nat}(h:[f,f'][j]?=some v):(ik vo pk [a,b,c,d,e,f,f']).toArray[0+264+j]?=some v:=by
 match j,h with
 |0,h=>exact il 5 hp h rfl
 |1,h=>exact il 6 hp h rfl
 |n+2,h=>cases h
theorem IP(x:Int):(bO.dB x).length=1:=rfl
set_option maxRecDepth 100000 in
theorem tN(v:Value)(m:Md)(w:World){vo vn vt vp vr va vg:Value}(h:GS w v m vo vn vt vp vr va vg)(hg:zf m):
 Calls Tryz.prog 47 #[v] w (bM (ret (.int .i64 0)) w):=by
 have gd:=fun w' (hw:Gr w w')=>vW m.o vn vt m.N m.tags w' (h.pk.gr hw) hg.byte;rw[hg.iL]at gd;have ZQ:=fun w' (hw:Gr w w')=>gG (cO m.g.aF m.g.aU vp) m.g w' (h.GU.gr hw);rw[hg.GU]at ZQ;have K8:=fun w' (hw:Gr w w')=>ru (cO m.g.aF m.g.aU vp) vr m.g m.rows w' (h.GU.gr hw) (wS h.rows hw);have I':=fun T N hT w' (hw:Gr w w')=>rv (cO m.g.aF m.g.aU vp) (.agg #[va,vg]) m.g T N m.A m.G hT w' (h.GU.gr hw) (h.lA.gr hw);have HU:=h.of;have RA:=h.pk.hT;have hv:=h.val;obtain⟨b1,b2,b3,b4,b5,b6,b7,b8⟩:=hg;clear h b1 b2 b3;have ft:(fE m.o vn vt).length=258:=iQ _ _ _;have hpt:(fE m.o vn vt)[257]?=some vt:=by have:=kZ m.o vn vt;simpa using this
 obtain⟨of,o,N,tags,g,mode,rows,A,G⟩:=m;dsimp only at*;rw[show GR o vn vt= .agg (fE o vn vt).toArray from rfl]at gd;generalize fE o vn vt=PK at*;obtain⟨a1,c1,rfl,zO,Sf,Rr⟩:=HU;obtain⟨a2,c2,rfl,Nd,RN,qE⟩:=RA;unfold maxLen at Sf RN;subst hv;refine enter (args:=[.agg (ik (.slice a1 of.length c1) PK (gX g.aF g.aU vp mode vr va vg)).toArray]) (n:=77) Tryz.func47 rfl rfl rfl ?_;refine a8 (aL (a_ rfl rfl rfl fun g1=>?_));refine zL ?_
 repeat(first|refine GA ?_|refine gV (aH (cs:=PK) ak.ty rfl ft (fun j v h=>ah (i:=0) rfl (tM ft h))) ?_)
 refine aI (jc aj.en rfl rfl) (fun w hm=>gd _ hm.below) rfl rfl rfl ?_;intro _ _;refine zL ?_
 repeat(first|refine GC ?_|refine gV (bm (b:=false) rfl rfl (decide_eq_false (by simp))) ?_|refine gV (aH (cs:=[.int .i64 g.aF,.int .i64 g.aU,vp]) ak.ty rfl rfl (fun j v h=>ah (i:=0) rfl (oB ft h))) ?_|refine GB ?_)
 refine aI (jc aj.en rfl rfl) (fun w hm=>ZQ _ hm.below) rfl rfl rfl ?_;intro _ _;refine zL ?_
 repeat(first|refine GC ?_|refine gV (bm (b:=false) rfl rfl (decide_eq_false (by simp))) ?_|refine gV (J (v:= .slice a1 of.length c1) ak.ty rfl (ah (i:=0) rfl rfl)) ?_|refine GB ?_)
 have hz:(1:Nat)<=of.length:=b4;refine dv (ι:=Nat) (fun k=>k<=of.length) (fun k=>[(1,.pointer (some ⟨g1,0,none⟩)),(31,.slice a1 of.length c1),(32,.int .i64 of.length),(33,.int .i64 (k:Int))])
  (fun _=>[aw g1 (ik (.slice a1 of.length c1) PK (gX g.aF g.aU vp mode vr va vg)).toArray 38]) (fun k=>of.length-k) 0 (Nat.zero_le _) ?_
 intro k k1
 by_cases d1:k<of.length
 ·obtain⟨b,off,rfl,hr⟩:=Rr (by omega)
  have dF:=fun(L:List bI)=>eN (L:=L) IP hr d1 0 _ rfl;obtain⟨y1,y2⟩:=b6 of[k] (List.getElem_mem d1);generalize of[k]=x at*
  repeat(first|refine GA ?_|refine gV (aC aT.eq ak.ty rfl rfl d1) ?_|refine gV (J (v:= .int .i64 x) ak.ty rfl (dF _)) ?_|refine gV (J (v:= .int .i64 g.aF) ak.ty rfl (ah (i:=0) rfl (il 0 ft rfl rfl))) ?_)
  exact bB (k+1) (by omega) (by show of.length-(k+1)<of.length-k;omega)
 obtain rfl:k=of.length:=by omega
 repeat(first|refine GA ?_|refine gV (J (v:= .slice a2 tags.length c2) ak.ty rfl (ah (i:=0) rfl (tM ft hpt))) ?_)
 refine dv (ι:=Nat) (fun k=>k<=tags.length) (fun k=>[(1,.pointer (some ⟨g1,0,none⟩)),(49,.slice a2 tags.length c2),(50,.int .i64 tags.length),(51,.int .i64 (k:Int))])
  (fun _=>[aw g1 (ik (.slice a1 of.length c1) PK (gX g.aF g.aU vp mode vr va vg)).toArray 38]) (fun k=>tags.length-k) 0 (Nat.zero_le _) ?_
 intro k k2
 by_cases d2:k<tags.length
 ·obtain⟨b,off,rfl,hr⟩:=qE (by omega)
  have dF:=fun(L:List bI)=>eN (L:=L) IP hr d2 0 _ rfl;have y1:=b7 tags[k] (List.getElem_mem d2);generalize tags[k]=x at*
  repeat(first|refine GA ?_|refine gV (aC aT.eq ak.ty rfl rfl d2) ?_|refine gV (J (v:= .int .i64 x) ak.ty rfl (dF _)) ?_|refine gV (J (v:= .slice a1 of.length c1) ak.ty rfl (ah (i:=0) rfl rfl)) ?_)
  exact bB (k+1) (by omega) (by show tags.length-(k+1)<tags.length-k;omega)
 obtain rfl:k=tags.length:=by omega
 rcases b8 with⟨rfl,hc⟩|⟨rfl,T,N',hc⟩
 ·rw[hc]at K8
  repeat(first|refine GA ?_|refine gV (J (v:= .int .i64 1) ak.ty rfl (ah (i:=0) rfl (il 3 ft rfl rfl))) ?_|refine gV (aH (cs:=[.int .i64 g.aF,.int .i64 g.aU,vp]) ak.ty rfl rfl (fun j v h=>ah (i:=0) rfl (oB ft h))) ?_|refine gV (J (v:=vr) ak.ty rfl (ah (i:=0) rfl (il 4 ft rfl rfl))) ?_)
  refine aI (eK aj.en rfl rfl rfl) (fun w hm=>K8 _ hm.below) rfl rfl rfl ?_;intro _ _;refine zL ?_
  try refine GA ?_
  exact db
 ·have I':=fun w' hw=>I' T N' hc w' hw
  repeat(first|refine GA ?_|refine gV (J (v:= .int .i64 2) ak.ty rfl (ah (i:=0) rfl (il 3 ft rfl rfl))) ?_|refine gV (aH (cs:=[.int .i64 g.aF,.int .i64 g.aU,vp]) ak.ty rfl rfl (fun j v h=>ah (i:=0) rfl (oB ft h))) ?_|refine gV (aH (cs:=[va,vg]) ak.ty rfl rfl (fun j v h=>ah (i:=0) rfl (Xt ft h))) ?_)
  refine aI (eK aj.en rfl rfl rfl) (fun w hm=>I' _ hm.below) rfl rfl rfl ?_;intro _ _;refine zL ?_
  try refine GA ?_
  exact db
end bK
namespace bK
open Go.RowKit bO dc bW eG gh aB bT
theorem F5{s:Sp}{e m:Int}(h:xe s e=(0,m)):e=0/\(uI (bR s)).any (· ==false)=false/\(uJ (bR s)).any (· ==false)=false/\(((sr (bR s)).length=0/\m=1)\/((sr (bR s)).length≠0/\(fB (bR s)).2.2.2=0/\(fB (bR s)).2.2.1.length=0/\m=2)):=by
 unfold xe at h
 by_cases c0:l7 s≠0
 ·rw[if_pos c0]at h;exact absurd (congrArg Prod.fst h) c0
 rw[if_neg c0]at h
 by_cases c1:s.words.length=0\/s.rules.length=0
 ·rw[if_pos c1]at h;cases h
 rw[if_neg c1]at h
 by_cases c2:e≠0
 ·rw[if_pos c2]at h;exact absurd (congrArg Prod.fst h) c2
 rw[if_neg c2]at h
 by_cases c3:(uI (bR s)).any (· ==false)=true\/(uJ (bR s)).any (· ==false)=true
 ·rw[if_pos c3]at h;cases h
 rw[if_neg c3]at h;refine⟨Decidable.of_not_not c2,?_,?_,?_⟩
 ·cases hb:(uI (bR s)).any (· ==false)with
  |true=>exact absurd (.inl hb) c3
  |false=>rfl
 ·cases hb:(uJ (bR s)).any (· ==false)with
  |true=>exact absurd (.inr hb) c3
  |false=>rfl
 by_cases c4:(sr (bR s)).length=0
 ·rw[if_pos c4]at h;exact .inl ⟨c4,(congrArg Prod.snd h).symm⟩
 rw[if_neg c4]at h
 by_cases c5:(fB (bR s)).2.2.2≠0
 ·rw[if_pos c5]at h;exact absurd (congrArg Prod.fst h) c5
 rw[if_neg c5]at h
 by_cases c6:0<(fB (bR s)).2.2.1.length
 ·rw[if_pos c6]at h;cases h
 rw[if_neg c6]at h;exact .inr ⟨c4,Decidable.of_not_not c5,by omega,(congrArg Prod.snd h).symm⟩
theorem Qw{x:Ap}(h:x.vT.oneCell'=true)(R:List Row):(x.pk R).all Value.oneCell'=true:=by
 have:=sm (ph R 256) (vn:= .slice (some ⟨x.gP,0,none⟩) R.length R.length) (vt:=x.vT) rfl h;rw[Ap.pk,<-this]
end bK
namespace bK
open Go.RowKit bO dc aB dy gI
attribute [local irreducible] Instr.build in
theorem uK(gw:Nat)(t n:Int)(vp vt vo:Value)(out:List cg)(cK:Nat)(kd m:Int)(w:World)(B:bC)(h1:out.length<=100000)(h2:cK<=100000)(hm:Mem B [sa gw t n vp vt vo cK,kt vo out] w):
 Calls Tryz.prog 168 #[.pointer (some ⟨gw,0,none⟩),.int .i64 kd,.int .i64 m] w (c_ ⟨fun(_:Value)=>True,fun _=> .bool (decide (((cK+1:Nat):Int)<=2000)),fun zg=>[sa gw t n vp vt zg (cK+1),kt zg (out++[(kd,m)])]⟩ B):=by
 refine dC hm (args:=[.pointer (some ⟨gw,0,none⟩),.int .i64 kd,.int .i64 m]) (n:=31) Tryz.func168 rfl rfl rfl ?_;refine Jh (i:=1) rfl fun gB jM=>?_
 repeat(first|refine GC ?_|refine gV (J ak.ty rfl (ah (i:=0) rfl rfl)) ?_|refine gV (cB (r:=((cK+1:Nat):Int)) rfl rfl (by omega) (by omega) (by omega)) ?_|refine GB ?_)
 refine aW (i:=0) rfl rfl rfl rfl rfl rfl ?_;rw[show(EF t n vp vt vo cK).setIfInBounds (0+5) (.int .i64 ((cK+1:Nat):Int))=EF t n vp vt vo (cK+1)from rfl];refine zL ?_
 repeat(first|refine GA ?_|refine gV (J ak.ty rfl (ah (i:=0) rfl rfl)) ?_|refine gV (aP rfl (uq _ _)) ?_)
 refine iy (i:=1) rfl rfl rfl rfl rfl rfl rfl (fun z h=>by cases h;rfl) (by omega) (by omega) rfl fun z' v'=>?_;refine zL ?_;refine aD (i:=1) rfl fun gB jM=>?_
 try refine GA ?_
 refine aW (i:=0) rfl rfl rfl gB jM rfl ?_;rw[show(EF t n vp vt vo (cK+1)).setIfInBounds (0+4) v'=EF t n vp vt v' (cK+1)from rfl];refine zL ?_
 repeat(first|refine GC ?_|refine gV (J (v:= .int .i64 ((cK+1:Nat):Int)) ak.ty rfl (ah (i:=0) rfl rfl)) ?_|refine gV (rC rfl rfl rfl) ?_|refine GB ?_)
 exact b9 rfl rfl fun w hm=>hm.bP (S:=⟨fun(_:Value)=>True,fun _=> .bool (decide (((cK+1:Nat):Int)<=2000)),fun zg=>[sa gw t n vp vt zg (cK+1),kt zg (out++[(kd,m)])]⟩) v' trivial [0,1] (by decide) (by simp[sa,kt])
theorem vX{B:bC}{L:List bI}{i g cap:Nat}{d:TD}{r:List TD}(hi:L[i]?=some (q8 (.slice (some ⟨g,0,none⟩) (r.length+1) cap) (d::r)))(j:Nat)(u:Value)(hu:(ri d)[j]?=some u):At B L ⟨g,0+r.length*4+j,none⟩ u:=
 kA Cr hi (k:=r.length) (by simp) j u (by simpa using hu)
theorem Kn{d:TD}{r:List TD}{g cap:Nat}{w:World}(h:(q8 (.slice (some ⟨g,0,none⟩) (r.length+1) cap) (d::r)).holds w):(q8 (.slice (some ⟨g,0,none⟩) r.length cap) r).holds w:=by
 obtain⟨h1,h2⟩:=h;refine⟨by rw[ka Cr];simp,?_⟩;rcases h2 with⟨h2,_⟩|⟨g',tZ,kK,e,h3,h4,h5,h6,h7,h8⟩
 ·cases h2
 ·cases e
  refine .inr ⟨g,cap,kK,rfl,h3,h4,by simp at h5;omega,h6,h7,?_⟩;have:(kK.toList.take ((d::r).length*4)).take (r.length*4)=((d::r).reverse.flatMap ri).take (r.length*4):=by rw[h8]
  rw[List.take_take,Nat.min_eq_left (by simp;omega),List.reverse_cons,List.flatMap_append,List.take_left' (by rw[ka Cr];simp)]at this;exact this
attribute [local irreducible] Instr.build in
theorem uL(gw:Nat)(t n:Int)(vp vt vo:Value)(d:TD)(r:List TD)(cK:Nat)(w:World)(B:bC)(h1:r.length<=100000)(hm:Mem B [sa gw t n vp vt vo cK,q8 vt (d::r)] w):
 Calls Tryz.prog 167 #[.pointer (some ⟨gw,0,none⟩)] w (c_ ⟨fun(_:Value)=>True,fun _=>DI d,fun sD=>[sa gw t n vp sD vo cK,q8 sD r]⟩ B):=by
 refine dC hm (args:=[.pointer (some ⟨gw,0,none⟩)]) (n:=31) Tryz.func167 rfl rfl rfl ?_;refine rM (i:=1) rfl (by simp) fun g cap hv q1 q2=>?_;subst hv;simp only[List.length_cons]at*;refine a8 (aL (aK rfl fun g2=>?_));refine zL ?_
 try refine GA ?_
 refine cU ([sa gw t n vp (.slice (some ⟨g,0,none⟩) (r.length+1) cap) vo cK,q8 (.slice (some ⟨g,0,none⟩) (r.length+1) cap) (d::r)]) (.calm 0 (.calm 1 (.calm 2 (.calm 3 (.calm 4 (.calm 5 (.calm 6 (.calm 7 (.calm 8 (.calm 9 (.calm 10 (.calm 11 (.one 12 (.one 13 (.done))))))))))))))) (bz [0,1]) ?_
 repeat(first|(refine GN ?_;first|refine QW QP ?_|refine QW (J (v:= .slice (some ⟨g,0,none⟩) (r.length+1) cap) ak.ty rfl (ah (i:=0) rfl rfl)) ?_|refine QW (df (r:=(r.length:Int)) rfl rfl (by omega) (by omega) (by omega)) ?_|refine QW (aC (j:=r.length) aT.eq ak.ty rfl rfl (by omega)) ?_|refine QW (aH ak.ty rfl rfl (vX (i:=1) rfl)) ?_|refine GX ?_)|refine GW ?_)
 refine ap rfl (aK rfl fun g3=>?_);refine av (bz [0,1]) ?_;refine ap rfl (aE (i:=3) (cs':=(ri d).toArray) rfl rfl rfl rfl rfl rfl (av (bz [0,1]) ?_))
 try refine GW ?_
 try refine GA ?_
 refine cU ([]) (.calm 0 (.calm 1 (.calm 2 (.calm 3 (.calm 5 (.calm 6 (.calm 7 (.two 4 (.one 8 (.calm 9 (.calm 10 (.calm 11 (.calm 12 (.calm 13 (.one 14 (.done)))))))) 8 (.calm 9 (.calm 10 (.one 4 (.calm 11 (.calm 12 (.calm 13 (.one 14 (.done)))))))))))))))) (bz []) ?_
 try refine GW ?_
 refine dE rfl rfl ?_ ?_
 ·refine aV (J (v:= .slice (some ⟨g,0,none⟩) (r.length+1) cap) ak.ty rfl (ah (i:=0) rfl rfl)) rfl rfl rfl (av (bz []) ?_)
  refine ap rfl (aV (J (v:= .slice (some ⟨g,0,none⟩) (r.length+1) cap) ak.ty rfl (ah (i:=0) rfl rfl)) rfl rfl rfl (av (bz []) ?_))
  repeat(first|(refine GN ?_;first|refine QW QP ?_|refine QW (df (r:=(r.length:Int)) rfl rfl (by omega) (by omega) (by omega)) ?_|refine QW (D_ (j:=r.length) aT.eq ak.ty rfl rfl (by omega)) ?_|refine GX ?_)|refine GW ?_)
  refine ap rfl (aW (i:=0) rfl rfl rfl rfl rfl rfl (av (bz []) ?_));rw[show(EF t n vp (.slice (some ⟨g,0,none⟩) (r.length+1) cap) vo cK).setIfInBounds (0+3) (.slice (some ⟨g,0,none⟩) r.length cap)=EF t n vp (.slice (some ⟨g,0,none⟩) r.length cap) vo cK from rfl]
  try refine GW ?_
  repeat(first|refine GA ?_|refine gV (az (i:=3) ak.ty rfl rfl rfl) ?_)
  refine fa 2 (cs':=(ri d).toArray) ?_;refine zL ?_
  try refine GA ?_
  refine kW (i:=1) (q8 (.slice (some ⟨g,0,none⟩) r.length cap) r) rfl (fun w h=>Kn h) (fun k hk=>hk) ?_;exact eR (i:=2) rfl rfl rfl rfl fun w hm=>hm.bP (S:=⟨fun(_:Value)=>True,fun _=>DI d,fun sD=>[sa gw t n vp sD vo cK,q8 sD r]⟩) (.slice (some ⟨g,0,none⟩) r.length cap) trivial [0,1] (by decide) rfl
 ·refine aV (J (v:= .slice (some ⟨g,0,none⟩) (r.length+1) cap) ak.ty rfl (ah (i:=0) rfl rfl)) rfl rfl rfl (av (bz []) ?_)
  repeat(first|(refine GN ?_;first|refine QW QP ?_|refine QW (df (r:=(r.length:Int)) rfl rfl (by omega) (by omega) (by omega)) ?_|refine GX ?_)|refine GW ?_)
  refine ap rfl (aV (J (v:= .slice (some ⟨g,0,none⟩) (r.length+1) cap) ak.ty rfl (ah (i:=0) rfl rfl)) rfl rfl rfl (av (bz []) ?_))
  repeat(first|(refine GN ?_;first|refine QW QP ?_|refine QW (D_ (j:=r.length) aT.eq ak.ty rfl rfl (by omega)) ?_|refine GX ?_)|refine GW ?_)
  refine ap rfl (aW (i:=0) rfl rfl rfl rfl rfl rfl (av (bz []) ?_));rw[show(EF t n vp (.slice (some ⟨g,0,none⟩) (r.length+1) cap) vo cK).setIfInBounds (0+3) (.slice (some ⟨g,0,none⟩) r.length cap)=EF t n vp (.slice (some ⟨g,0,none⟩) r.length cap) vo cK from rfl]
  try refine GW ?_
  repeat(first|refine GA ?_|refine gV (az (i:=3) ak.ty rfl rfl rfl) ?_)
  refine fa 2 (cs':=(ri d).toArray) ?_;refine zL ?_
  try refine GA ?_
  refine kW (i:=1) (q8 (.slice (some ⟨g,0,none⟩) r.length cap) r) rfl (fun w h=>Kn h) (fun k hk=>hk) ?_;exact eR (i:=2) rfl rfl rfl rfl fun w hm=>hm.bP (S:=⟨fun(_:Value)=>True,fun _=>DI d,fun sD=>[sa gw t n vp sD vo cK,q8 sD r]⟩) (.slice (some ⟨g,0,none⟩) r.length cap) trivial [0,1] (by decide) rfl
theorem IQ(out:List cg)(a:Nat):aZ [] out a=([],out,a,true):=rfl
theorem IR(x:cg)(r:List TD)(out:List cg)(a:Nat):aZ (.sym x::r) out a=(.sym x::r,out,a,true):=rfl
theorem IS(p:Int)(r:List TD)(out:List cg){a:Nat}(h:a+1<=2000):aZ (.close p::r) out a=aZ r (out++[(3,p)]) (a+1):=by rw[aZ,if_pos h]
theorem MK(p:Int)(r:List TD)(out:List cg){a:Nat}(h:¬a+1<=2000):aZ (.close p::r) out a=(r,out++[(3,p)],a+1,false):=by rw[aZ,if_neg h]
def Xu(gw:Nat)(t n:Int)(vp:Value)(c:List TD×List cg×Nat×Bool):Spec (Value×Value):=⟨fun _=>True,fun _=> .bool c.2.2.2,fun x=>[sa gw t n vp x.1 x.2 c.2.2.1,q8 x.1 c.1,kt x.2 c.2.1]⟩
theorem nH(gw:Nat)(t n:Int)(vp Qx Qy:Value)(Nj:List TD)(tI:List cg)(BF:Nat)(w:World)(B:bC)(h1:Nj.length<=100000)(h2:BF<=2000)(h3:tI.length=BF)(hm:Mem B [sa gw t n vp Qx Qy BF,q8 Qx Nj,kt Qy tI] w):
    Calls Tryz.prog 169 #[.pointer (some ⟨gw,0,none⟩)] w (c_ (Xu gw t n vp (aZ Nj tI BF)) B):=by
  refine dC hm (args:=[.pointer (some ⟨gw,0,none⟩)]) (n:=30) Tryz.func169 rfl rfl rfl ?_;clear hm
  try refine GA ?_
  generalize hC:aZ Nj tI BF=C;refine dv (ι:=List TD×List cg×Nat×Value×Value) (fun(st,out,cK,_,_)=>aZ st out cK=C/\st.length<=100000/\cK<=2000/\out.length=cK) (fun _=>[(0,.pointer (some ⟨gw,0,none⟩))]) (fun(st,out,cK,vt,vo)=>[sa gw t n vp vt vo cK,q8 vt st,kt vo out]) (fun(st,_,_,_,_)=>st.length) (Nj,tI,BF,Qx,Qy) ⟨hC,h1,h2,h3⟩ ?_;clear h1 h2 h3 hC;rintro⟨st,out,cK,vt,vo⟩ ⟨hC,h1,h2,h3⟩;dsimp only at hC h1 h2 h3⊢
  cases st with
  | nil=>
    rw[IQ]at hC;subst hC
    (repeat refine a8 ?_)
    refine cU ([sa gw t n vp vt vo cK,q8 vt []]) (.calm 0 (.calm 1 (.calm 2 (.calm 3 (.calm 4 (.calm 5 (.calm 6 (.calm 7 (.calm 8 (.calm 9 (.calm 10 (.calm 11 (.calm 12 (.calm 13 (.calm 14 (.calm 15 (.calm 16 (.calm 17 (.calm 18 (.calm 19 (.calm 20 (.done)))))))))))))))))))))) (bz [0,1]) ?_
    repeat(first|(refine GN ?_;first|refine QW QP ?_|refine QW (J (v:=vt) ak.ty rfl (ah (i:=0) rfl rfl)) ?_|refine QW (cJ (i:=1) aT.eq rfl rfl) ?_|refine QW (dj (b:=false) rfl rfl rfl) ?_|refine GX ?_)|refine GW ?_)
    try refine GA ?_
    exact b9 rfl rfl fun w hm=>hm.bP (S:=Xu gw t n vp ([],out,cK,true)) (vt,vo) trivial [0,1,2] (by decide) rfl
  | cons d r=>
    simp only[List.length_cons]at h1;refine rM (i:=1) rfl (by simp) fun g cap hv q1 q2=>?_;subst hv;simp only[List.length_cons]at*
    cases d with
    | sym x=>
      rw[IR]at hC;subst hC
      (repeat refine a8 ?_)
      refine cU ([sa gw t n vp (.slice (some ⟨g,0,none⟩) (r.length+1) cap) vo cK,q8 (.slice (some ⟨g,0,none⟩) (r.length+1) cap) (.sym x::r)]) (.calm 0 (.calm 1 (.calm 2 (.calm 3 (.calm 4 (.calm 5 (.calm 6 (.calm 7 (.calm 8 (.calm 9 (.calm 10 (.calm 11 (.calm 12 (.calm 13 (.calm 14 (.calm 15 (.calm 16 (.calm 17 (.calm 18 (.calm 19 (.calm 20 (.done)))))))))))))))))))))) (bz [0,1]) ?_
      repeat(first|(refine GN ?_;first|refine QW QP ?_|refine QW (J (v:= .slice (some ⟨g,0,none⟩) (r.length+1) cap) ak.ty rfl (ah (i:=0) rfl rfl)) ?_|refine QW (J (v:= .bool false) ak.ty rfl (vX (i:=1) rfl 0 _ rfl)) ?_|refine QW (df (r:=(r.length:Int)) rfl rfl (by omega) (by omega) (by omega)) ?_|refine QW (aC (j:=r.length) aT.eq ak.ty rfl rfl (by omega)) ?_|refine GX ?_)|refine GW ?_)
      try refine GA ?_
      exact b9 rfl rfl fun w hm=>hm.bP (S:=Xu gw t n vp (.sym x::r,out,cK,true)) (_,vo) trivial [0,1,2] (by decide) rfl
    | close p=>
      (repeat refine a8 ?_)
      refine cU ([sa gw t n vp (.slice (some ⟨g,0,none⟩) (r.length+1) cap) vo cK,q8 (.slice (some ⟨g,0,none⟩) (r.length+1) cap) (.close p::r)]) (.calm 0 (.calm 1 (.calm 2 (.calm 3 (.calm 4 (.calm 5 (.calm 6 (.calm 7 (.calm 8 (.calm 9 (.calm 10 (.calm 11 (.calm 12 (.calm 13 (.calm 14 (.calm 15 (.calm 16 (.calm 17 (.calm 18 (.calm 19 (.calm 20 (.done)))))))))))))))))))))) (bz [0,1]) ?_
      repeat(first|(refine GN ?_;first|refine QW QP ?_|refine QW (J (v:= .slice (some ⟨g,0,none⟩) (r.length+1) cap) ak.ty rfl (ah (i:=0) rfl rfl)) ?_|refine QW (J (v:= .bool true) ak.ty rfl (vX (i:=1) rfl 0 _ rfl)) ?_|refine QW (df (r:=(r.length:Int)) rfl rfl (by omega) (by omega) (by omega)) ?_|refine QW (aC (j:=r.length) aT.eq ak.ty rfl rfl (by omega)) ?_|refine GX ?_)|refine GW ?_)
      try refine GA ?_
      refine aR [0,1] [2] (by decide) rfl rfl (jc aj.en rfl rfl) (fun w hm hb=>uL gw t n vp _ vo (.close p) r cK w _ (by omega) hb) rfl rfl rfl ?_;intro sD _;refine zL ?_;dsimp only
      repeat(first|refine GA ?_|refine gV (JE rfl (LB (.close p))) ?_)
      refine aR [1,0] [2] (by decide) rfl rfl (sB aj.en rfl rfl rfl rfl) (fun w hm hb=>uK gw t n vp sD vo out cK 3 p w _ (by omega) (by omega) hb) rfl rfl rfl ?_;intro zg _;refine zL ?_;dsimp only
      by_cases c:cK+1<=2000
      · rw[IS p r out c]at hC
        rw[decide_eq_true (show((cK+1:Nat):Int)<=2000 by omega)]
        try refine GA ?_
        refine cD [1,0,2] ?_;exact bB (r,out++[(3,p)],cK+1,sD,zg) ⟨hC,(by show r.length<=100000;omega),c,by simp[h3]⟩ (by show r.length<r.length+1;omega)
      · rw[MK p r out c]at hC
        subst hC;rw[decide_eq_false (show ¬((cK+1:Nat):Int)<=2000 by omega)]
        try refine GA ?_
        exact b9 rfl rfl fun w hm=>hm.bP (S:=Xu gw t n vp (r,out++[(3,p)],cK+1,false)) (sD,zg) trivial [1,0,2] (by decide) rfl
theorem Di(r:List TD)(d:TD):(r.reverse.flatMap ri)++ri d=(d::r).reverse.flatMap ri:=by simp
def Vr(p:Nat)(r:List TD)(body:List cg)(j:Nat):List TD:=(body.drop (body.length-j)).map .sym++ .close (p:Int)::r
theorem aai(p:Nat)(r:List TD)(body:List cg):Vr p r body 0= .close (p:Int)::r:=by unfold Vr;rw[Nat.sub_zero,List.drop_length];rfl
theorem T7(p:Nat)(r:List TD)(body:List cg):Vr p r body body.length=body.map .sym++ .close (p:Int)::r:=by unfold Vr;rw[Nat.sub_self,List.drop_zero]
theorem Qz(p:Nat)(r:List TD){body:List cg}{k:Nat}(hk:k<body.length):Vr p r body (body.length-k)= .sym body[k]::Vr p r body (body.length-k-1):=by
 unfold Vr;rw[show body.length-(body.length-k)=k by omega,show body.length-(body.length-k-1)=k+1 by omega,List.drop_eq_getElem_cons hk];rfl
def Xv(gw:Nat)(t n:Int)(vp:Value)(st:List TD)(out:List cg)(cK:Nat):Spec (Value×Value):=⟨fun _=>True,fun _=> .bool (decide (cK<=2000/\st.length<=60)),fun x=>[sa gw t n vp x.1 x.2 cK,q8 x.1 st,kt x.2 out]⟩
attribute [local irreducible] Instr.build in
theorem IT(w0:World)(gw:Nat)(t n:Int)(vp:Value)(ag:List aB.Prod)(hG:iB oO (fun k=>k<w0.heap.size) w0 vp ag)(hlen:ag.length<=100000)(p:Nat)(hp:p<ag.length)(h8:ag[p].2.length<=8)(vt vo:Value)(d:TD)(r:List TD)(out:List cg)(cK:Nat)(w:World)(B:bC)(h1:r.length<=100)(h2:cK<=2000)(h3:out.length=cK)(ho:jz w0 B)(hm:Mem B [sa gw t n vp vt vo cK,q8 vt (d::r),kt vo out] w):
    Calls Tryz.prog 184 #[.pointer (some ⟨gw,0,none⟩),.int .i64 (p:Int)] w (c_ (Xv gw t n vp (opened ag p r) (out++[(1,(p:Int))]) (cK+1)) B):=by
  obtain⟨bp,cp,rfl,Jx,GM,lF⟩:=hG;unfold maxLen at GM;obtain⟨b,off,rfl,_,hr⟩:=lF (by omega);obtain⟨bb,cb,y1,y2,y3⟩:=jC hr hp;have Ko:opened ag (p:Int) r=ag[p].2.map .sym++ .close (p:Int)::r:=by unfold opened bU;rw[Int.toNat_natCast,List.getD_eq_getElem?_getD,List.getElem?_eq_getElem hp];rfl
  rw[Ko];clear Ko lF hr;have CD:∀(L:List bI),At B L ⟨b,off+p*2+1,none⟩ (.slice bb ag[p].2.length cb):=fun L=>fx ho (y1 1 _ rfl);have zZ:=y3.flat (by decide);generalize ag[p].2=body at*;clear y1 y2 y3;obtain⟨b2,cb2,he,hb4,YH,hb6⟩:=zZ;simp only[Value.slice.injEq,true_and]at he;obtain⟨rfl,rfl⟩:=he;refine dC hm (args:=[.pointer (some ⟨gw,0,none⟩),.int .i64 (p:Int)]) (n:=61) Tryz.func184 rfl rfl rfl ?_;clear hm
  try refine GA ?_
  refine aR [0,1] [2] (by decide) rfl rfl (jc aj.en rfl rfl) (fun w hm hb=>uL gw t n _ vt vo d r cK w _ (by omega) hb) rfl rfl rfl ?_;intro QB _;refine zL ?_;dsimp only;refine aD (i:=2) rfl fun gB jM=>?_
  repeat(first|refine GA ?_|refine gV (J ak.ty rfl (ah (i:=1) rfl rfl)) ?_|refine gV (aP rfl (LA _)) ?_)
  refine iy (i:=2) rfl rfl rfl rfl rfl rfl rfl (fun z h=>by cases h;rfl) (by omega) (by omega) rfl fun z' Kp=>?_;refine zL ?_;refine aD (i:=2) rfl fun gB jM=>?_
  try refine GA ?_
  refine aW (i:=1) rfl rfl rfl gB jM rfl ?_;rw[show(EF t n (.slice (some ⟨b,off,none⟩) ag.length cp) QB vo cK).setIfInBounds (0+3) Kp=EF t n (.slice (some ⟨b,off,none⟩) ag.length cp) Kp vo cK from rfl];refine zL ?_
  repeat(first|refine GC ?_|refine gV (J (v:= .slice (some ⟨b,off,none⟩) ag.length cp) ak.ty rfl (ah (i:=1) rfl rfl)) ?_|refine gV (aC aT.eq ak.ty rfl rfl hp) ?_|refine gV (J ak.ty rfl (CD _)) ?_|refine gV (df (r:=(body.length:Int)-1) rfl rfl (by omega) (by omega) rfl) ?_|refine GB ?_)
  rw[Di r (.close (p:Int))];refine jA (ι:=Nat×Value) (fun(j,_)=>j<=body.length) (fun(j,_)=>[(0,.pointer (some ⟨gw,0,none⟩)),(1,.int .i64 (p:Int)),(5,.slice bb body.length cb),(6,.int .i64 (((body.length-j:Nat):Int)-1))])
    (fun(j,vt)=>[kt vo out,sa gw t n (.slice (some ⟨b,off,none⟩) ag.length cp) vt vo cK,aM 231 4 vt (r.length+1+j) ((Vr p r body j).reverse.flatMap ri)]) (fun(j,_)=>body.length-j) (0,Kp) (Nat.zero_le _) (by repeat' (first|exact True.intro|refine And.intro rfl ?_)) (by dsimp only;rw[aai]) ?_
  rintro⟨j,Kq⟩ hj;dsimp only at hj⊢
  by_cases c:j<body.length
  · obtain⟨b4,acg,rfl,hr4⟩:=hb6 (by omega)
    have hk:body.length-1-j<body.length:=by omega
    have LU:=fun L=>pC (W:=B) (L:=L) (f:=dg) (c:=2) (fun _=>rfl) (fun q x hq=>fx ho (hr4 q x hq)) hk;have hst:=Qz p r hk;rw[show body.length-(body.length-1-j)=j+1 by omega,Nat.add_sub_cancel]at hst;rw[show(((body.length-j:Nat):Int)-1)=((body.length-1-j:Nat):Int)by omega];generalize body[body.length-1-j]=x at*;obtain⟨xq,xm⟩:=x;refine Jh (i:=2) rfl fun gB jM=>?_
    repeat(first|refine GC ?_|refine gV (dO (b:=true) rfl rfl (decide_eq_true (by omega))) ?_|refine GB ?_)
    refine cU ([]) (.calm 0 (.calm 1 (.calm 2 (.calm 3 (.calm 5 (.calm 6 (.calm 7 (.calm 8 (.calm 9 (.two 4 (.one 10 (.one 11 (.calm 12 (.calm 13 (.one 14 (.done)))))) 10 (.one 4 (.one 11 (.calm 12 (.calm 13 (.one 14 (.done)))))))))))))))) (bz []) ?_
    repeat(first|refine GW ?_|(refine GN ?_;first|refine QW (aC (j:=body.length-1-j) aT.eq ak.ty rfl rfl hk) ?_|refine QW (aH ak.ty rfl rfl (LU _)) ?_|refine QW (aP rfl (A2 (xq,xm))) ?_))
    refine dE rfl rfl ?_ ?_
    · refine aV (J (v:=Kq) ak.ty rfl (ah (i:=1) rfl rfl)) rfl rfl rfl (av (bz []) ?_)
      refine ap rfl (dT (cs:=(ri (.sym (xq,xm))).toArray) [DI (.sym (xq,xm))] rfl rfl rfl (by intro v hv;simp at hv;subst hv;rfl) rfl rfl rfl fun g46=>(av (bz []) ?_));refine ap rfl (dw (i:=2) (k:=1) (ys:=ri (.sym (xq,xm))) rfl (iA (i:=3) rfl (fun j u h=>by simpa using h) (Nat.le_refl 1) (by decide)) rfl rfl rfl (fun u hu=>Cs [.sym (xq,xm)] u (by simpa using hu)) (by omega) (by omega) rfl fun v'=>(av (bz []) ?_))
      try refine GW ?_
      refine ap rfl (aD (i:=2) rfl fun gB jM=>aW (i:=1) rfl rfl rfl gB jM rfl (av (bz []) ?_));rw[show(EF t n (.slice (some ⟨b,off,none⟩) ag.length cp) Kq vo cK).setIfInBounds (0+3) v'=EF t n (.slice (some ⟨b,off,none⟩) ag.length cp) v' vo cK from rfl]
      try refine GW ?_
      repeat(first|refine GC ?_|refine gV (df (r:=((body.length-(j+1):Nat):Int)-1) rfl rfl (by omega) (by omega) (by omega)) ?_|refine GB ?_)
      refine cD [0,1,2] ?_;exact bB (j+1,v') (by show j+1<=body.length;omega) (by show body.length-(j+1)<body.length-j;omega) (hl:=by dsimp only;rw[hst,<-Di];rfl)
    · refine dT (cs:=(ri (.sym (xq,xm))).toArray) [DI (.sym (xq,xm))] rfl rfl rfl (by intro v hv;simp at hv;subst hv;rfl) rfl rfl rfl fun g46=>(av (bz []) ?_)
      refine ap rfl (aV (J (v:=Kq) ak.ty rfl (ah (i:=1) rfl rfl)) rfl rfl rfl (av (bz []) ?_));refine ap rfl (dw (i:=2) (k:=1) (ys:=ri (.sym (xq,xm))) rfl (iA (i:=3) rfl (fun j u h=>by simpa using h) (Nat.le_refl 1) (by decide)) rfl rfl rfl (fun u hu=>Cs [.sym (xq,xm)] u (by simpa using hu)) (by omega) (by omega) rfl fun v'=>(av (bz []) ?_))
      try refine GW ?_
      refine ap rfl (aD (i:=2) rfl fun gB jM=>aW (i:=1) rfl rfl rfl gB jM rfl (av (bz []) ?_));rw[show(EF t n (.slice (some ⟨b,off,none⟩) ag.length cp) Kq vo cK).setIfInBounds (0+3) v'=EF t n (.slice (some ⟨b,off,none⟩) ag.length cp) v' vo cK from rfl]
      try refine GW ?_
      repeat(first|refine GC ?_|refine gV (df (r:=((body.length-(j+1):Nat):Int)-1) rfl rfl (by omega) (by omega) (by omega)) ?_|refine GB ?_)
      refine cD [0,1,2] ?_;exact bB (j+1,v') (by show j+1<=body.length;omega) (by show body.length-(j+1)<body.length-j;omega) (hl:=by dsimp only;rw[hst,<-Di];rfl)
  · obtain rfl:j=body.length:=by omega
    rw[T7];have yT:(body.map TD.sym++ .close (p:Int)::r).length=r.length+1+body.length:=by simp;omega
    repeat(first|refine GC ?_|refine gV (dO (b:=false) rfl rfl (decide_eq_false (by omega))) ?_|refine GB ?_)
    refine aR [1,0] [2] (by decide) rfl rfl (sB aj.en rfl rfl rfl rfl) (fun w hm hb=>uK gw t n _ Kq vo out cK 1 (p:Int) w _ (by omega) (by omega) hb) rfl rfl rfl ?_;intro zg _;refine zL ?_;dsimp only;have fin:∀(x:Bool),x=decide (cK+1<=2000/\(body.map TD.sym++ .close (p:Int)::r).length<=60)->(Value.bool x)=(Xv gw t n (.slice (some ⟨b,off,none⟩) ag.length cp) (body.map .sym++ .close (p:Int)::r) (out++[(1,(p:Int))]) (cK+1)).val (Kq,zg):=fun x h=>by rw[h];rfl
    rw[yT]at fin
    by_cases c2:cK+1<=2000
    · rw[decide_eq_true (show((cK+1:Nat):Int)<=2000 by omega)]
      by_cases c3:r.length+1+body.length<=60
      · repeat(first|refine GC ?_|refine gV (J (v:=Kq) ak.ty rfl (ah (i:=1) rfl rfl)) ?_|refine gV (cJ (i:=0) aT.eq rfl rfl) ?_|refine gV (rC (b:=true) rfl rfl (decide_eq_true (by omega))) ?_|refine GB ?_)
        refine b9 rfl rfl fun w hm=>?_;rw[fin true (by simp[c2,c3])];exact hm.bP (S:=Xv gw t n (.slice (some ⟨b,off,none⟩) ag.length cp) (body.map .sym++ .close (p:Int)::r) (out++[(1,(p:Int))]) (cK+1)) (Kq,zg) trivial [1,0,2] (by decide) (by rw[<-yT];rfl)
      · repeat(first|refine GC ?_|refine gV (J (v:=Kq) ak.ty rfl (ah (i:=1) rfl rfl)) ?_|refine gV (cJ (i:=0) aT.eq rfl rfl) ?_|refine gV (rC (b:=false) rfl rfl (decide_eq_false (by omega))) ?_|refine GB ?_)
        refine b9 rfl rfl fun w hm=>?_;rw[fin false (by simp[c3])];exact hm.bP (S:=Xv gw t n (.slice (some ⟨b,off,none⟩) ag.length cp) (body.map .sym++ .close (p:Int)::r) (out++[(1,(p:Int))]) (cK+1)) (Kq,zg) trivial [1,0,2] (by decide) (by rw[<-yT];rfl)
    · rw[decide_eq_false (show ¬((cK+1:Nat):Int)<=2000 by omega)]
      try refine GA ?_
      refine b9 rfl rfl fun w hm=>?_;rw[fin false (by simp[c2])];exact hm.bP (S:=Xv gw t n (.slice (some ⟨b,off,none⟩) ag.length cp) (body.map .sym++ .close (p:Int)::r) (out++[(1,(p:Int))]) (cK+1)) (Kq,zg) trivial [1,0,2] (by decide) (by rw[<-yT];rfl)
end bK
namespace bK
open Go.RowKit bO dc gI
theorem Kr(a:gI.TD):(ri a).length=4:=rfl
theorem su(v:Value)(l:List gI.TD)(w:World)(hs:Sl w v l.length (l.flatMap ri))(pO:FuncId)(first cp:Array Value)(p:gI.TD->Bool)(Ck:Enters Tryz.prog pO)
 (hp:∀a∈l,∀w',Gr w w'->Calls Tryz.prog pO (first++#[(.agg (ri a).toArray)]++cp) w' (bM (ret (.bool (p a))) w')):
 Calls Tryz.prog 208 #[v,.func (.func pO) first cp] w (bM (ret (.int .i64 (oY p l))) w):=by
 obtain⟨base,cap,rfl,nc,mj,ef⟩:=hs;unfold maxLen at mj;refine enter (args:=[.slice base l.length cap,.func (.func pO) first cp]) (n:=19) Tryz.func208 rfl rfl rfl ?_
 try refine GA ?_
 refine dv (ι:=Nat) (fun k=>k<=l.length/\∀j (hj:j<l.length),j<k->p l[j]=false) (fun k=>[(0,.slice base l.length cap),(1,.func (.func pO) first cp),(7,.int .i64 l.length),(8,.int .i64 (k:Int))]) (fun _=>[]) (fun k=>l.length-k) 0 ⟨by omega,fun j hj h=>by omega⟩ ?_;rintro k ⟨h1,h2⟩
 by_cases c2:k<l.length
 ·obtain⟨b,off,rfl,hr⟩:=ef (by omega)
  have dF:=eN (L:=([]:List bI)) Kr hr c2;have ir:=hp l[k] (List.getElem_mem c2)
  by_cases c3:p l[k]=true
  ·rw[qG c2 c3 h2]
   rw[c3]at ir;clear hp h2 ef
   repeat(first|refine GA ?_|refine gV (aC aT.eq ak.ty rfl rfl c2) ?_|refine gV (aH ak.ty rfl rfl dF) ?_)
   refine aI (zU Ck rfl rfl) (fun w hm=>ir w hm.below) rfl rfl rfl ?_;intro _ _
   try refine GA ?_
   exact db
  ·have Jp:p l[k]=false:=by simpa using c3
   rw[Jp]at ir;clear hp ef c3
   repeat(first|refine GA ?_|refine gV (aC aT.eq ak.ty rfl rfl c2) ?_|refine gV (aH ak.ty rfl rfl dF) ?_)
   refine aI (zU Ck rfl rfl) (fun w hm=>ir w hm.below) rfl rfl rfl ?_;intro _ _
   try refine GA ?_
   exact bB (k+1) ⟨by omega,fun j hj h=>if e:j<k then h2 j hj e else(by obtain rfl:j=k:=(by omega);exact Jp)⟩ (by show l.length-(k+1)<l.length-k;omega)
 ·rw[qH fun j hj=>h2 j hj (by omega)]
  clear hp h2 ef
  try refine GA ?_
  exact db
theorem o9(v:Value)(l:List gI.TD)(w:World)(hs:Sl w v l.length (l.flatMap ri))(pO:FuncId)(first cp:Array Value)(p:gI.TD->Bool)(Ck:Enters Tryz.prog pO)
 (hp:∀a∈l,∀w',Gr w w'->Calls Tryz.prog pO (first++#[(.agg (ri a).toArray)]++cp) w' (bM (ret (.bool (p a))) w')):
 Calls Tryz.prog 180 #[v,.func (.func pO) first cp] w (bM (ret (.bool (l.any p))) w):=by
 refine enter (args:=[v,.func (.func pO) first cp]) (n:=9) Tryz.func180 rfl rfl rfl ?_;have hh:=fun w' (hg:Gr w w')=>su v l w' (hs.gr hg) pO first cp p Ck fun a ha DF s7=>hp a ha DF (hg.trans s7);have hr:=nS p l;rw[<-sP p l];generalize oY p l=r at*
 try refine GA ?_
 refine aI (eK aj.en rfl rfl rfl) (fun w hm=>hh _ hm.below) rfl rfl rfl ?_;intro _ _
 repeat(first|refine GC ?_|refine gV (dO rfl rfl rfl) ?_|refine GB ?_)
 exact db
theorem zh(v:Value)(l:List gI.TD)(w:World)(hs:Sl w v l.length (l.flatMap ri))(hl:l.length*40<=140737488355328):
  Calls Tryz.prog 183 #[v] w (bM (bZ 231 4 l.length (l.flatMap ri) id) w):=by
 obtain⟨base,cap,rfl,nc,mj,ef⟩:=hs;unfold maxLen at mj;refine enter (args:=[.slice base l.length cap]) (n:=8) Tryz.func183 rfl rfl rfl ?_;have sb:∀w',Gr w w'->Sl w' (.slice base l.length cap) l.length (l.flatMap ri):=fun w' hg=>Sl.gr ⟨base,cap,rfl,nc,mj,ef⟩ hg;clear ef
 cases base with
 | none=>
  repeat(first|refine GC ?_|refine gV (nb aT.eq rfl rfl rfl) ?_|refine GB ?_)
  have h0:l=[]:=by
   cases l with
   |nil=>rfl
   |cons x l=>obtain⟨_,_,h,_,_,h2⟩:=sb w (Gr.refl w);simp only[Value.slice.injEq]at h;obtain⟨rfl,_⟩:=h;obtain⟨b,off,h,_⟩:=h2 (by simp);cases h
  subst h0;refine dq 231 4 ?_;exact b9 rfl rfl fun w hm=>hm.meets (S:=bZ 231 4 0 [] id) _ trivial [0] (by decide) rfl
 |some p=>
  repeat(first|refine GC ?_|refine gV (nb aT.eq rfl rfl rfl) ?_|refine GB ?_)
  refine B6 rfl fun g=>?_
  try refine GA ?_
  refine dw (i:=0) rfl (fun w' hm=>sb w' hm.below) rfl rfl (ka Kr l) (Cs l) (by omega) (by omega) rfl fun v'=>?_;rw[List.nil_append]
  try refine GA ?_
  refine b9 rfl rfl fun w hm=>?_;exact hm.meets (S:=bZ 231 4 l.length (l.flatMap ri) id) v' trivial [0] (by decide) (by simp[bZ])
end bK
namespace bK
open Go.RowKit bO dc aB dy gI
theorem IU(w:World):(Instr.build 148 (#[]:Array (Nat×Value))).run Tryz.prog w= .ok (.agg (dg (0,0)).toArray) w:=by
 unfold dg;go_simp
set_option maxRecDepth 100000 in
theorem Aq(g:dr)(b:Option Addr)(cp:Nat)(d:TD)(w:World)(hd:pR g d):Calls Tryz.prog 182 #[cO g.aF g.aU (.slice b g.ag.length cp),DI d] w (bM (ret (.bool true)) w):=by
  cases d with
  | close p=>
    obtain⟨h1,h2⟩:=hd;refine enter (args:=[cO g.aF g.aU (.slice b g.ag.length cp),DI (.close p)]) (n:=65) Tryz.func182 rfl rfl rfl ?_;refine a8 (aL (a_ rfl rfl rfl fun g0=>a_ rfl rfl rfl fun g1=>?_))
    repeat(first|refine GC ?_|refine gV (J (v:= .bool true) ak.ty rfl (ah (i:=1) rfl rfl)) ?_|refine gV (J (v:= .int .i64 p) ak.ty rfl (ah (i:=1) rfl rfl)) ?_|refine gV (J ak.ty rfl (ah (i:=0) rfl rfl)) ?_|refine gV (aH (cs:=dg (0,0)) ak.ty rfl rfl (fun j v hj=>ah (i:=1) rfl (by match j,hj with|0,h=>exact h|1,h=>exact h))) ?_|refine gV (aP rfl (IU)) ?_|refine gV (xz (b:=true) rfl rfl (by kernel_rfl) (fun w=>by rw[OC];rfl)) ?_|refine GB ?_)
    exact db
  | sym x=>
    obtain⟨k,m⟩:=x;have hd:right g.aF g.aU (k,m)=true:=hd;unfold right at hd;dsimp only at hd
    by_cases c1:k=1
    · subst c1
      rw[if_pos rfl]at hd;simp only[Bool.and_eq_true,decide_eq_true_eq]at hd;refine enter (args:=[cO g.aF g.aU (.slice b g.ag.length cp),DI (.sym (1,m))]) (n:=65) Tryz.func182 rfl rfl rfl ?_;refine a8 (aL (a_ rfl rfl rfl fun g0=>a_ rfl rfl rfl fun g1=>?_))
      repeat(first|refine GA ?_|refine gV (J (v:= .bool false) ak.ty rfl (ah (i:=1) rfl rfl)) ?_|refine gV (J (v:= .int .i64 1) ak.ty rfl (ah (i:=1) rfl rfl)) ?_|refine gV (J (v:= .int .i64 0) ak.ty rfl (ah (i:=1) rfl rfl)) ?_|refine gV (J (v:= .int .i64 m) ak.ty rfl (ah (i:=1) rfl rfl)) ?_|refine gV (J ak.ty rfl (ah (i:=0) rfl rfl)) ?_)
      exact db
    · rw[if_neg c1]at hd
      by_cases c2:k=2
      · subst c2
        rw[if_pos rfl]at hd;simp only[Bool.and_eq_true,decide_eq_true_eq]at hd;refine enter (args:=[cO g.aF g.aU (.slice b g.ag.length cp),DI (.sym (2,m))]) (n:=65) Tryz.func182 rfl rfl rfl ?_;refine a8 (aL (a_ rfl rfl rfl fun g0=>a_ rfl rfl rfl fun g1=>?_))
        repeat(first|refine GA ?_|refine gV (J (v:= .bool false) ak.ty rfl (ah (i:=1) rfl rfl)) ?_|refine gV (J (v:= .int .i64 2) ak.ty rfl (ah (i:=1) rfl rfl)) ?_|refine gV (J (v:= .int .i64 0) ak.ty rfl (ah (i:=1) rfl rfl)) ?_|refine gV (J (v:= .int .i64 m) ak.ty rfl (ah (i:=1) rfl rfl)) ?_|refine gV (J ak.ty rfl (ah (i:=0) rfl rfl)) ?_)
        exact db
      · rw[if_neg c2]at hd;cases hd
theorem zi(g:dr)(b:Option Addr)(cp:Nat)(d:TD)(gg:Nat)(w:World)(hd:pR g d)(hg:w.heap[gg]?=some (.cells (cO g.aF g.aU (.slice b g.ag.length cp)).cells 33 (0,0))):
 Calls Tryz.prog 181 #[DI d,.pointer (some ⟨gg,0,none⟩)] w (bM (ret (.bool false)) w):=by
 have hcell:∀(L:List bI) (j:Nat) (v:Value),([.int .i64 g.aF,.int .i64 g.aU,.slice b g.ag.length cp]:List Value)[j]?=some v->At w L ⟨gg,0+j,none⟩ v:=fun L j v hj=>iw (by
  rw[cell_of_row w gg (0+j) _ _ _ hg,Nat.zero_add];show(#[.int .i64 g.aF,.int .i64 g.aU,.slice b g.ag.length cp]:Array Value)[j]?=some v
  simpa using hj)
 have hr:=Aq g b cp d;refine enter (args:=[DI d,.pointer (some ⟨gg,0,none⟩)]) (n:=8) Tryz.func181 rfl rfl rfl ?_;refine a8 (aL (a_ rfl rfl rfl fun g0=>?_))
 repeat(first|refine GA ?_|refine gV (aH ak.ty rfl rfl (hcell _)) ?_|refine gV (az (i:=0) ak.ty rfl rfl rfl) ?_)
 refine aI (eK aj.en rfl rfl rfl) (fun w hm=>hr w hd) rfl rfl rfl ?_;intro _ _
 try refine GA ?_
 exact db
abbrev TdR(w:World)(vt:Value)(st:List TD):Prop:=Sl w vt st.length (st.reverse.flatMap ri)
theorem nI(v vr vt:Value)(g:dr)(ll:List (List Int))(st:List TD)(seen col:Int)(w:World)(h:iZ (fun k=>k<w.heap.size) w v g)(hr:zc w vr ll)(ht:TdR w vt st)(h0:Dd g ll=0)(hs:∀d∈st,pR g d)(hl:st.length<=60)(h1:0<=seen)(h2:seen<=1099511627776)(h3:0<=col)(h4:col<=g.aF):
 Calls Tryz.prog 163 #[v,vr,tV vt seen 0 false,.int .i64 col] w (bM (ret (.int .i64 0)) w):=by
 have gd:=fun w' (hg:Gr w w')=>ru v vr g ll w' (h.gr hg) (hr.gr hg);rw[h0]at gd;obtain⟨vp,rfl,hp,_⟩:=h;obtain⟨bp,cp,rfl,_⟩:=hp;have Rs:=fun w' (hg:Gr w w') gg (hb:w'.heap[gg]?=some (.cells (cO g.aF g.aU (.slice bp g.ag.length cp)).cells 33 (0,0)))=>o9 vt st.reverse w' (by rw[List.length_reverse];exact ht.gr hg) 181 #[] #[.pointer (some ⟨gg,0,none⟩)] (fun _=>false) aj.en (fun a ha DF s7=>zi g bp cp a gg DF (hs a (List.mem_reverse.1 ha)) (by rw[s7.block gg (Array.getElem?_eq_some_iff.1 hb).1];exact hb));have MG:st.reverse.any (fun _=>false)=false:=by rw[List.any_eq_false];intro _ _ h;cases h
 rw[MG]at Rs;obtain⟨bt,ct,rfl,_⟩:=ht;refine enter (args:=[cO g.aF g.aU (.slice bp g.ag.length cp),vr,tV (.slice bt st.length ct) seen 0 false,.int .i64 col]) (n:=54) Tryz.func163 rfl rfl rfl ?_;refine a8 (aL (a_ rfl rfl rfl fun g0=>a_ rfl rfl rfl fun g1=>?_))
 repeat(first|refine GA ?_|refine gV (az (i:=0) ak.ty rfl rfl rfl) ?_)
 refine aI (eK aj.en rfl rfl rfl) (fun w hm=>gd _ hm.below) rfl rfl rfl ?_;intro _ _;refine zL ?_
 repeat(first|refine GA ?_|refine gV (J (v:= .slice bt st.length ct) ak.ty rfl (ah (i:=1) rfl rfl)) ?_|refine gV (J (v:= .int .i64 seen) ak.ty rfl (ah (i:=1) rfl rfl)) ?_|refine gV (J (v:= .int .i64 0) ak.ty rfl (ah (i:=1) rfl rfl)) ?_|refine gV (J (v:= .bool false) ak.ty rfl (ah (i:=1) rfl rfl)) ?_|refine gV (J ak.ty rfl (ah (i:=0) rfl rfl)) ?_|refine gV (nT rfl rfl) ?_)
 refine aI (eK aj.en rfl rfl rfl) (fun w hm=>Rs _ hm.below _ (hm.get (i:=0) rfl)) rfl rfl rfl ?_;intro _ _;refine zL ?_
 repeat(first|refine GA ?_|refine gV (J (v:= .int .i64 0) ak.ty rfl (ah (i:=1) rfl rfl)) ?_|refine gV (J (v:= .bool false) ak.ty rfl (ah (i:=1) rfl rfl)) ?_)
 exact db
end bK
namespace bK
open Go.RowKit bO dc aB dy gI
def iS(ll:List (List Int))(col:Nat)(n:Int):Int:=(ll.getD n.toNat []).getD col (-1)
structure F6(g:dr)(ll:List (List Int))(T N:Nat):Prop where
 aF:g.aF=T
 aU:g.aU=N
 len:ll.length=N
 row:∀r∈ll,r.length=T+1
 nx:∀col,Wg g.ag (iS ll col)
theorem QC{l:List aB.Prod}{nx:Int->Int}{f:Nat}{st:List TD}{out:List cg}{a:Nat}(h:(aZ st out a).2.2.2=false):ey l nx (f+1) st out a=((aZ st out a).1,(aZ st out a).2.1,(aZ st out a).2.2.1,14):=by
 rw[ey,if_pos h]
theorem QD{l:List aB.Prod}{nx:Int->Int}{f:Nat}{st:List TD}{out:List cg}{a:Nat}(h:(aZ st out a).2.2.2=true)(h2:(aZ st out a).1=[]):ey l nx (f+1) st out a=([],(aZ st out a).2.1,(aZ st out a).2.2.1,0):=by
 rw[ey,if_neg (by simp[h])];simp only[h2]
theorem QE{l:List aB.Prod}{nx:Int->Int}{f:Nat}{st:List TD}{out:List cg}{a:Nat}{x:cg}{r:List TD}(h:(aZ st out a).2.2.2=true)(h2:(aZ st out a).1= .sym x::r):
 ey l nx (f+1) st out a=if x.1=1 then(.sym x::r,(aZ st out a).2.1,(aZ st out a).2.2.1,0)else if nx x.2<0 then(.sym x::r,(aZ st out a).2.1,(aZ st out a).2.2.1,13)
  else if(aZ st out a).2.2.1+1<=2000/\(opened l (nx x.2) r).length<=60 then ey l nx f (opened l (nx x.2) r) ((aZ st out a).2.1++[(1,nx x.2)]) ((aZ st out a).2.2.1+1)
  else(opened l (nx x.2) r,(aZ st out a).2.1++[(1,nx x.2)],(aZ st out a).2.2.1+1,14):=by
 rw[ey,if_neg (by simp[h])];simp only[h2]
def RC(gw:Nat)(t n:Int)(vp:Value)(R:List TD×List cg×Nat×Int):Spec (Value×Value):=⟨fun _=>True,fun _=> .int .i64 R.2.2.2,fun x=>[sa gw t n vp x.1 x.2 R.2.2.1,q8 x.1 R.1,kt x.2 R.2.1]⟩
theorem vY(w0:World)(gw:Nat)(t n:Int)(vp vr:Value)(g:dr)(ll:List (List Int))(T N col:Nat)(hG:iB oO (fun k=>k<w0.heap.size) w0 vp g.ag)(hR:zc w0 vr ll)(hg:cz g=0)(hT:F6 g ll T N)(ach:col<=T)
    (Qx Qy:Value) (Nj:List TD) (w:World) (B:bC) (Na:∀d∈Nj,pR g d) (Zx:Nj.length<=60) (ho:jz w0 B) (hm:Mem B [sa gw t n vp Qx Qy 0,q8 Qx Nj,kt Qy []] w):
    Calls Tryz.prog 166 #[.pointer (some ⟨gw,0,none⟩),vr,.int .i64 (col:Int)] w (c_ (RC gw t n vp (ey g.ag (iS ll col) 2001 Nj [] 0)) B):=by
  obtain⟨a1,a2,a3,a4,a5,a6⟩:=bV hg;have Ko:=fun p hp vt vo d r out cK w B h1 h2 h3 ho hm=>IT w0 gw t n vp g.ag hG (by omega) p hp (a6 _ (List.getElem_mem hp)).1 vt vo d r out cK w B h1 h2 h3 ho hm;have qO:=hT.nx col;obtain⟨br,cr,rfl,Rr,qE,xS⟩:=hR;unfold maxLen at qE;refine dC hm (args:=[.pointer (some ⟨gw,0,none⟩),.slice br ll.length cr,.int .i64 (col:Int)]) (n:=60) Tryz.func166 rfl rfl rfl ?_;clear hm
  try refine GA ?_
  generalize hD:ey g.ag (iS ll col) 2001 Nj [] 0=D;refine dv (ι:=Nat×List TD×List cg×Nat×Value×Value) (fun(f,st,out,cK,_,_)=>ey g.ag (iS ll col) f st out cK=D/\2001<=f+cK/\st.length<=60/\cK<=2000/\out.length=cK/\∀d∈st,pR g d) (fun _=>[(0,.pointer (some ⟨gw,0,none⟩)),(1,.slice br ll.length cr),(2,.int .i64 (col:Int))])
    (fun(_,st,out,cK,vt,vo)=>[sa gw t n vp vt vo cK,q8 vt st,kt vo out]) (fun(f,_,_,_,_,_)=>f) (2001,Nj,[],0,Qx,Qy) ⟨hD,by omega,Zx,by omega,rfl,Na⟩ ?_
  clear hD Na Zx;rintro⟨f,st,out,cK,vt,vo⟩ ⟨hD,h1,h2,h3,h4,h5⟩;dsimp only at hD h1 h2 h3 h4 h5⊢;obtain⟨f,rfl⟩:∃f',f=f'+1:=⟨f-1,by omega⟩
  try refine GA ?_
  refine aR [0,1,2] [] (by decide) rfl rfl (jc aj.en rfl rfl) (fun w hm hb=>nH gw t n vp vt vo st out cK w _ (by omega) h3 h4 hb) rfl rfl rfl ?_;obtain⟨z1,z2,z3,z4⟩:=@n_ st out cK;have z5:=qM (out:=out) (a:=cK) h5;rintro⟨QB,T8⟩ _
  conv=>arg 8;simp only[zJ,bZ,ret,id_eq,Xu,List.nil_append]
  have hno:=@QC g.ag (iS ll col) f st out cK;have aaj:=@QD g.ag (iS ll col) f st out cK;have aak:=fun x r=>@QE g.ag (iS ll col) f st out cK x r;have aal:=@r9 st out cK;generalize aZ st out cK=C at*;obtain⟨st1,ed,Ks,ok⟩:=C;dsimp only at*
  cases ok with
  | false=>
    rw[hno rfl]at hD;subst hD
    try refine GA ?_
    exact b9 rfl rfl fun w hm=>hm.bP (S:=RC gw t n vp (st1,ed,Ks,14)) (QB,T8) trivial [0,1,2] (by decide) rfl
  | true=>
    have zz3:=z3 rfl h3;clear z3;rcases aal rfl with rfl|⟨x,r,rfl⟩
    · rw[aaj rfl rfl]at hD
      subst hD
      try refine GA ?_
      refine cU ([sa gw t n vp QB T8 Ks,q8 QB []]) (.calm 0 (.calm 1 (.calm 2 (.calm 3 (.calm 4 (.calm 5 (.calm 6 (.calm 7 (.calm 8 (.calm 9 (.calm 10 (.calm 11 (.calm 12 (.calm 13 (.calm 14 (.calm 15 (.calm 16 (.calm 17 (.calm 18 (.calm 19 (.calm 20 (.calm 21 (.calm 22 (.done)))))))))))))))))))))))) (bz [0,1]) ?_
      repeat(first|(refine GN ?_;first|refine QW QP ?_|refine QW (J (v:=QB) ak.ty rfl (ah (i:=0) rfl rfl)) ?_|refine QW (cJ (i:=1) aT.eq rfl rfl) ?_|refine QW (bL (b:=true) rfl rfl rfl) ?_|refine GX ?_)|refine GW ?_)
      try refine GA ?_
      exact b9 rfl rfl fun w hm=>hm.bP (S:=RC gw t n vp ([],ed,Ks,0)) (QB,T8) trivial [0,1,2] (by decide) rfl
    · have DO:=aak x r rfl rfl
      simp only[List.length_cons]at z1;have z6:right g.aF g.aU x=true:=z5 _ (List.mem_cons_self ..);have z7:=fun d hd=>z5 d (List.mem_cons_of_mem _ hd);clear hno aaj aal aak
      try refine GA ?_
      refine rM (i:=1) rfl (by simp) fun gt ct hv q1 q2=>?_;subst hv;simp only[List.length_cons]at*;obtain⟨k,m⟩:=x
      by_cases c1:k=1
      · subst c1
        rw[if_pos rfl]at DO;rw[DO]at hD;subst hD;refine cU ([sa gw t n vp (.slice (some ⟨gt,0,none⟩) (r.length+1) ct) T8 Ks,q8 (.slice (some ⟨gt,0,none⟩) (r.length+1) ct) (.sym (1,m)::r)]) (.calm 0 (.calm 1 (.calm 2 (.calm 3 (.calm 4 (.calm 5 (.calm 6 (.calm 7 (.calm 8 (.calm 9 (.calm 10 (.calm 11 (.calm 12 (.calm 13 (.calm 14 (.calm 15 (.calm 16 (.calm 17 (.calm 18 (.calm 19 (.calm 20 (.calm 21 (.calm 22 (.done)))))))))))))))))))))))) (bz [0,1]) ?_
        repeat(first|(refine GN ?_;first|refine QW QP ?_|refine QW (J (v:= .slice (some ⟨gt,0,none⟩) (r.length+1) ct) ak.ty rfl (ah (i:=0) rfl rfl)) ?_|refine QW (df (r:=(r.length:Int)) rfl rfl (by omega) (by omega) (by omega)) ?_|refine QW (aC (j:=r.length) aT.eq ak.ty rfl rfl (by omega)) ?_|refine QW (J (v:= .int .i64 1) ak.ty rfl (vX (i:=1) rfl 2 _ rfl)) ?_|refine QW (bL (b:=false) rfl rfl (decide_eq_false (by omega))) ?_|refine QW (bL (b:=true) rfl rfl rfl) ?_|refine GX ?_)|refine GW ?_)
        try refine GA ?_
        exact b9 rfl rfl fun w hm=>hm.bP (S:=RC gw t n vp (.sym (1,m)::r,ed,Ks,0)) (_,T8) trivial [0,1,2] (by decide) rfl
      · rw[if_neg c1]at DO
        unfold right at z6;dsimp only at z6;rw[if_neg c1]at z6
        by_cases c2:k=2
        · subst c2
          rw[if_pos rfl]at z6;simp only[Bool.and_eq_true,decide_eq_true_eq]at z6;obtain⟨q,rfl⟩:∃q:Nat,m=q:=⟨m.toNat,by omega⟩;have hq:q<ll.length:=by rw[hT.len];have:=hT.aU;omega
          obtain⟨b,off,rfl,_,ef⟩:=xS (by omega);obtain⟨vi,y1,y2⟩:=Kl ef hq;have CA:=hT.row _ (List.getElem_mem hq);have aam:iS ll col (q:Int)=ll[q].getD col (-1):=by unfold iS;rw[Int.toNat_natCast,List.getD_eq_getElem?_getD (l:=ll),List.getElem?_eq_getElem hq];rfl
          have jZ:=qO (q:Int);rw[aam]at jZ;dsimp only at DO;rw[aam]at DO;generalize ll[q]=row at*;obtain⟨bi,ci,rfl,w1,w2,w3⟩:=y2;obtain⟨b3,TH,rfl,F7⟩:=w3 (by omega);have hc:row[col]?=some (row.getD col (-1)):=by rw[List.getD_eq_getElem?_getD,List.getElem?_eq_getElem (by omega)];rfl
          have CD:∀L,At B L ⟨b,off+q,none⟩ (.slice (some ⟨b3,TH,none⟩) row.length ci):=fun L=>fx ho y1;have o7:∀L,At B L ⟨b3,TH+col,none⟩ (.int .i64 (row.getD col (-1))):=fun L=>fx ho (F7 col _ (by rw[List.getElem?_map,hc];rfl));clear ef y1 F7 w3 xS;generalize row.getD col (-1)=p at*;refine cU ([sa gw t n vp (.slice (some ⟨gt,0,none⟩) (r.length+1) ct) T8 Ks,q8 (.slice (some ⟨gt,0,none⟩) (r.length+1) ct) (.sym (2,(q:Int))::r)]) (.calm 0 (.calm 1 (.calm 2 (.calm 3 (.calm 4 (.calm 5 (.calm 6 (.calm 7 (.calm 8 (.calm 9 (.calm 10 (.calm 11 (.calm 12 (.calm 13 (.calm 14 (.calm 15 (.calm 16 (.calm 17 (.calm 18 (.calm 19 (.calm 20 (.calm 21 (.calm 22 (.done)))))))))))))))))))))))) (bz [0,1]) ?_
          repeat(first|(refine GN ?_;first|refine QW QP ?_|refine QW (J (v:= .slice (some ⟨gt,0,none⟩) (r.length+1) ct) ak.ty rfl (ah (i:=0) rfl rfl)) ?_|refine QW (df (r:=(r.length:Int)) rfl rfl (by omega) (by omega) (by omega)) ?_|refine QW (aC (j:=r.length) aT.eq ak.ty rfl rfl (by omega)) ?_|refine QW (J (v:= .int .i64 2) ak.ty rfl (vX (i:=1) rfl 2 _ rfl)) ?_|refine QW (bL (b:=false) rfl rfl (decide_eq_false (by omega))) ?_|refine GX ?_)|refine GW ?_)
          try refine GA ?_
          refine cU ([sa gw t n vp (.slice (some ⟨gt,0,none⟩) (r.length+1) ct) T8 Ks,q8 (.slice (some ⟨gt,0,none⟩) (r.length+1) ct) (.sym (2,(q:Int))::r)]) (.calm 0 (.calm 1 (.calm 2 (.calm 3 (.calm 4 (.calm 5 (.calm 6 (.calm 7 (.calm 8 (.calm 9 (.calm 10 (.calm 11 (.calm 12 (.calm 13 (.calm 14 (.calm 15 (.calm 16 (.calm 17 (.calm 18 (.calm 19 (.calm 20 (.done)))))))))))))))))))))) (bz [0,1]) ?_
          repeat(first|(refine GN ?_;first|refine QW QP ?_|refine QW (J (v:= .slice (some ⟨gt,0,none⟩) (r.length+1) ct) ak.ty rfl (ah (i:=0) rfl rfl)) ?_|refine QW (df (r:=(r.length:Int)) rfl rfl (by omega) (by omega) (by omega)) ?_|refine QW (aC (j:=r.length) aT.eq ak.ty rfl rfl (by omega)) ?_|refine QW (J (v:= .int .i64 (q:Int)) ak.ty rfl (vX (i:=1) rfl 3 _ rfl)) ?_|refine QW (bx (j:=q) aT.eq ak.ty rfl rfl hq) ?_|refine QW (J ak.ty rfl (CD _)) ?_|refine QW (bx (j:=col) aT.eq ak.ty rfl rfl (by omega)) ?_|refine QW (J ak.ty rfl (o7 _)) ?_|refine GX ?_)|refine GW ?_)
          by_cases c3:p<0
          · rw[if_pos c3]at DO
            rw[DO]at hD;subst hD
            try refine GA ?_
            exact b9 rfl rfl fun w hm=>hm.bP (S:=RC gw t n vp (.sym (2,(q:Int))::r,ed,Ks,13)) (_,T8) trivial [0,1,2] (by decide) rfl
          · rw[if_neg c3]at DO
            obtain⟨pn,rfl⟩:∃pn:Nat,p=pn:=⟨p.toNat,by omega⟩;have Yd:pn<g.ag.length:=by have:=(jZ (by omega)).1;omega
            have hop:=Ko pn Yd;have hoo:=A1 hg (p:=(pn:Int)) (by omega) (by omega) z7
            try refine GA ?_
            refine aR [0,1,2] [] (by decide) rfl rfl (eK aj.en rfl rfl rfl) (fun w hm hb=>hop _ T8 (.sym (2,(q:Int))) r ed Ks w _ (by omega) zz3 (by omega) (ho.on hm fun o h=>lX h) hb) rfl rfl rfl ?_;rintro⟨Kp,Nk⟩ _
            conv=>arg 8;simp only[zJ,bZ,ret,id_eq,Xv,List.nil_append]
            conv=>arg 7;simp only[Xv]
            have VZ:(opened g.ag (pn:Int) r).length=(opened g.ag (pn:Int) r).length:=rfl;generalize Wz:opened g.ag (pn:Int) r=st2 at*
            by_cases c4:Ks+1<=2000/\st2.length<=60
            · rw[if_pos c4]at DO
              rw[DO]at hD;rw[decide_eq_true c4]
              try refine GA ?_
              refine cD [0,1,2] ?_;exact bB (f,st2,ed++[(1,(pn:Int))],Ks+1,Kp,Nk) ⟨hD,(by show 2001<=f+(Ks+1);omega),c4.2,c4.1,(by show(ed++[(1,(pn:Int))]).length=Ks+1;simp;omega),hoo⟩ (by show f<f+1;omega)
            · rw[if_neg c4]at DO
              rw[DO]at hD;subst hD;rw[decide_eq_false c4]
              try refine GA ?_
              exact b9 rfl rfl fun w hm=>hm.bP (S:=RC gw t n vp (st2,ed++[(1,(pn:Int))],Ks+1,14)) (Kp,Nk) trivial [0,1,2] (by decide) rfl
        · rw[if_neg c2]at z6;cases z6
end bK
namespace bK
open Go.RowKit bO dc aB dy gI
theorem ML(w:World):(Instr.build 148 #[(0,.int .i64 2)]).run Tryz.prog w= .ok (.agg (dg (2,0)).toArray) w:=by
 unfold dg;go_simp
theorem MM(g:Nat)(w:World):(Instr.build 158 #[(0,.slice (some ⟨g,0,none⟩) 1 1)]).run Tryz.prog w= .ok (tV (.slice (some ⟨g,0,none⟩) 1 1) 0 0 false) w:=by
 unfold tV;go_simp
def xf:Spec Value:=⟨fun _=>True,fun vt=>tV vt 0 0 false,fun vt=>[q8 vt [.sym (2,0)]]⟩
set_option maxRecDepth 100000 in
theorem uM(w:World):Calls Tryz.prog 65 #[] w (bM xf w):=by
 refine enter (args:=[]) (n:=5) Tryz.func65 rfl rfl rfl ?_;refine a8 (aL (aK rfl fun g2=>?_));refine zL ?_
 repeat(first|refine QZ ?_|refine QV (aP rfl ML) ?_|refine QV (aP rfl (A2 (2,0))) ?_)
 refine dT (cs:=(ri (.sym (2,0))).toArray) [DI (.sym (2,0))] rfl rfl rfl (by intro v hv;simp at hv;subst hv;rfl) rfl rfl rfl fun g3=>?_;refine zL ?_
 repeat(first|refine QZ ?_|refine QV (aP rfl (MM _)) ?_)
 refine fa 0 (cs':=#[.slice (some ⟨g3,0,none⟩) 1 1,.int .i64 0,.int .i64 0,.bool false]) ?_;refine zL ?_;refine sL (i:=1) 4 rfl rfl (by omega) ?_;refine zL ?_
 try refine GA ?_
 exact eR (i:=0) rfl rfl rfl rfl fun w hm=>hm.meets (S:=xf) (.slice (some ⟨g3,0,none⟩) 1 1) trivial [1] (by decide) rfl
theorem QF(t n:Int)(bp:Option Addr)(mp cp:Nat)(bt:Option Addr)(mt ct:Nat)(w:World):(Instr.build 329 #[(0,cO t n (.slice bp mp cp)),(1,.slice bt mt ct)]).run Tryz.prog w= .ok (.agg (EF t n (.slice bp mp cp) (.slice bt mt ct) (.slice none 0 0) 0)) w:=by
 unfold cO EF;go_simp
def Dj(t n:Int)(vp:Value)(st:List TD):Spec (Nat×Value):=⟨fun _=>True,fun x=> .pointer (some ⟨x.1,0,none⟩),fun x=>[sa x.1 t n vp x.2 (.slice none 0 0) 0,q8 x.2 st]⟩
theorem vZ(t n:Int)(vp vt:Value)(st:List TD)(seen over:Int)(done:Bool)(w:World)(ht:TdR w vt st)(hl:st.length<=60)(hvp:∃b m c,vp= .slice b m c):
 Calls Tryz.prog 165 #[cO t n vp,tV vt seen over done] w (bM (Dj t n vp st) w):=by
 have ir:=fun w' (hg:Gr w w')=>zh vt st.reverse w' (by rw[List.length_reverse];exact ht.gr hg) (by rw[List.length_reverse];omega);rw[List.length_reverse]at ir;obtain⟨bp,mp,cp,rfl⟩:=hvp;refine enter (args:=[cO t n (.slice bp mp cp),tV vt seen over done]) (n:=11) Tryz.func165 rfl rfl rfl ?_;refine a8 (aL (a_ rfl rfl rfl fun g0=>a_ rfl rfl rfl fun g1=>?_));refine zL ?_
 try refine GA ?_
 refine cU ([aw g0 (cO t n (.slice bp mp cp)).cells 33,aw g1 (tV vt seen over done).cells 158]) (.calm 0 (.calm 1 (.calm 2 (.one 3 (.calm 4 (.one 5 (.calm 6 (.done)))))))) (fun _ h=>h) ?_
 repeat(first|refine GW ?_|(refine GN ?_;first|refine QW (az (i:=0) ak.ty rfl rfl rfl) ?_|refine QW (J (v:=vt) ak.ty rfl (ah (i:=1) rfl rfl)) ?_))
 refine ap rfl ?_;refine aI (jc aj.en rfl rfl) (fun w hm=>ir _ hm.below) rfl rfl rfl ?_;intro sD _;refine zL ?_;refine jB (i:=2) rfl fun bt ct hv q1 q2=>?_;subst hv;refine av (bz [0,1]) ?_
 repeat(first|refine GW ?_|(refine GN ?_;first|refine QW (aP rfl (QF _ _ _ _ _ _ _ _)) ?_))
 refine ap rfl (a_ rfl rfl rfl fun g2=>?_);refine zL ?_;refine av (bz [0,1]) ?_
 try refine GW ?_
 try refine GA ?_
 exact b9 rfl rfl fun w hm=>hm.meets (S:=Dj t n (.slice bp mp cp) st) (g2,.slice bt st.length ct) trivial [3,2] (by decide) rfl
theorem F8{l:List aB.Prod}{nx:Int->Int}{st:List TD}{seen:Nat}{t:Int}{st1:List TD}{ed:List cg}{a1:Nat}{e:Int}(hD:ey l nx 2001 st [] 0=(st1,ed,a1,e))(he:e≠0):kF l nx st seen t=(e,[],[]):=by
 unfold kF;rw[hD];dsimp only;rw[if_pos he]
theorem QG{l:List aB.Prod}{nx:Int->Int}{st:List TD}{seen:Nat}{t:Int}{ed:List cg}{a1:Nat}(hD:ey l nx 2001 st [] 0=([],ed,a1,0)):kF l nx st seen t=(13,[],[]):=by
 unfold kF;rw[hD];dsimp only;rw[if_neg (by decide)]
theorem QH{l:List aB.Prod}{nx:Int->Int}{st:List TD}{seen:Nat}{t:Int}{x:cg}{r:List TD}{ed:List cg}{a1:Nat}(hD:ey l nx 2001 st [] 0=(.sym x::r,ed,a1,0)):kF l nx st seen t=if x.2≠t then(13,[],[])else if a1+1<=2000/\(aZ r (ed++[(2,(seen:Int))]) (a1+1)).2.2.2=true then(0,(aZ r (ed++[(2,(seen:Int))]) (a1+1)).1,(aZ r (ed++[(2,(seen:Int))]) (a1+1)).2.1)else(14,[],[]):=by
 unfold kF;rw[hD];dsimp only;rw[if_neg (by decide)]
theorem Kt{l:List aB.Prod}{nx:Int->Int}{st:List TD}{st1:List TD}{ed:List cg}{a1:Nat}{e:Int}(hD:ey l nx 2001 st [] 0=(st1,ed,a1,e))(he:e≠0):r8 l nx st=(e,[]):=by
 unfold r8;rw[hD];dsimp only;rw[if_pos he]
theorem T9{l:List aB.Prod}{nx:Int->Int}{st:List TD}{ed:List cg}{a1:Nat}(hD:ey l nx 2001 st [] 0=([],ed,a1,0)):r8 l nx st=(0,ed):=by
 unfold r8;rw[hD];dsimp only;rw[if_neg (by decide)]
theorem T_{l:List aB.Prod}{nx:Int->Int}{st:List TD}{x:cg}{r:List TD}{ed:List cg}{a1:Nat}(hD:ey l nx 2001 st [] 0=(.sym x::r,ed,a1,0)):r8 l nx st=(13,[]):=by
 unfold r8;rw[hD];dsimp only;rw[if_neg (by decide)]
def oV(seen:Int)(R:Int×List TD×List cg):Spec (Value×Value):=
 ⟨fun _=>True,fun x=>if R.1=0 then .tuple #[tV x.1 (seen+1) 0 false,x.2,.int .i64 0]else .tuple #[tV (.slice none 0 0) seen R.1 false,.slice none 0 0,.int .i64 R.1],fun x=>if R.1=0 then [q8 x.1 R.2.1,kt x.2 R.2.2]else []⟩
theorem iT(seen e:Int)(w:World):(Instr.build 158 #[(1,.int .i64 seen),(2,.int .i64 e)]).run Tryz.prog w= .ok (tV (.slice none 0 0) seen e false) w:=by
 unfold tV;go_simp
theorem MN(b:Option Addr)(m c:Nat)(seen:Int)(w:World):(Instr.build 158 #[(0,.slice b m c),(1,.int .i64 seen)]).run Tryz.prog w= .ok (tV (.slice b m c) seen 0 false) w:=by
 unfold tV;go_simp
theorem wz(v vr vt:Value)(g:dr)(ll:List (List Int))(T N:Nat)(st:List TD)(seen t:Nat)(w:World)(h:iZ (fun k=>k<w.heap.size) w v g)(hr:zc w vr ll)(ht:TdR w vt st)(h0:Dd g ll=0)(hg:cz g=0)(hT:F6 g ll T N)(hs:∀d∈st,pR g d)(hl:st.length<=60)(h1:seen<=1000000)(h2:t<T):
    Calls Tryz.prog 138 #[v,vr,tV vt (seen:Int) 0 false,.int .i64 (t:Int)] w (bM (oV (seen:Int) (kF g.ag (iS ll t) st seen (t:Int))) w):=by
  have gd:=fun w' (s7:Gr w w')=>nI v vr vt g ll st (seen:Int) (t:Int) w' (h.gr s7) (hr.gr s7) (ht.gr s7) h0 hs hl (by omega) (by omega) (by omega) (by have:=hT.aF;omega);have BG:=hT.aF;obtain⟨vp,rfl,hp,_⟩:=h;have tY:=fun w' (s7:Gr w w')=>vZ g.aF g.aU vp vt st (seen:Int) 0 false w' (ht.gr s7) hl (by obtain⟨b,c,e,_⟩:=hp;exact⟨b,_,c,e⟩);have hdw:=fun gw Qx Qy w' B ho hm=>vY w gw g.aF g.aU vp vr g ll T N t hp hr hg hT (by omega) Qx Qy st w' B hs hl ho hm;have M_:=fun R=>@tf g.ag (iS ll t) 2001 st [] 0 R;have U1:=fun R=>@pT g.ag (iS ll t) 2001 st [] 0 R;have hde:=@pS g.ag (iS ll t) 2001 st [] 0;generalize hD:ey g.ag (iS ll t) 2001 st [] 0=D at*;obtain⟨st1,ed,a1,e⟩:=D;have M_:=fun h=>M_ _ rfl h hl (by omega);have U1:=fun h=>U1 _ rfl h;dsimp only at*;refine enter (args:=[cO g.aF g.aU vp,vr,tV vt (seen:Int) 0 false,.int .i64 (t:Int)]) (n:=96) Tryz.func138 rfl rfl rfl ?_;refine a8 (aL (a_ rfl rfl rfl fun g0=>a_ rfl rfl rfl fun g1=>aK rfl fun g2=>?_));refine zL ?_
  repeat(first|refine GA ?_|refine gV (J (v:= .int .i64 g.aF) ak.ty rfl (ah (i:=0) rfl rfl)) ?_|refine gV (az (i:=0) ak.ty rfl rfl rfl) ?_|refine gV (az (i:=1) ak.ty rfl rfl rfl) ?_)
  refine aI (G7 aj.en rfl rfl rfl rfl rfl) (fun w hm=>gd _ hm.below) rfl rfl rfl ?_;intro _ _;refine zL ?_
  repeat(first|refine GA ?_|refine gV (az (i:=0) ak.ty rfl rfl rfl) ?_|refine gV (az (i:=1) ak.ty rfl rfl rfl) ?_)
  refine aI (eK aj.en rfl rfl rfl) (fun w hm=>tY _ hm.below) rfl rfl rfl ?_;rintro⟨gw,QB⟩ _
  conv=>arg 8;simp only[zJ,bZ,ret,id_eq,Dj]
  try refine GA ?_
  refine na 55 2 ?_;refine zL ?_;refine aR [3,4,5] [0,1,2] (by decide) rfl rfl (sB aj.en rfl rfl rfl rfl) (fun w' hm hb=>hdw gw QB _ w' _ ((jz.self w).on hm fun o h=>lX h) hb) rfl rfl rfl ?_;rintro⟨Kp,Nk⟩ _
  conv=>arg 8;simp only[zJ,bZ,ret,id_eq,RC]
  conv=>arg 7;simp only[RC]
  rcases hde with rfl|rfl|rfl
  · obtain⟨hd1,Zr,hd3,hd4⟩:=M_ rfl
    rcases U1 rfl with rfl|⟨x,r,rfl,hx⟩
    · rw[QG hD]
      try refine GA ?_
      refine cU ([sa gw g.aF g.aU vp Kp Nk a1,q8 Kp []]) (.calm 0 (.calm 1 (.calm 2 (.calm 3 (.calm 4 (.calm 5 (.calm 6 (.calm 7 (.calm 8 (.calm 9 (.calm 10 (.calm 11 (.calm 12 (.calm 13 (.calm 14 (.calm 15 (.calm 16 (.calm 17 (.calm 18 (.calm 19 (.calm 20 (.calm 21 (.calm 22 (.calm 23 (.calm 24 (.calm 25 (.calm 26 (.calm 27 (.done))))))))))))))))))))))))))))) (bz [3,4]) ?_
      repeat(first|(refine GN ?_;first|refine QW QP ?_|refine QW (J (v:=Kp) ak.ty rfl (ah (i:=0) rfl rfl)) ?_|refine QW (bL (b:=true) rfl rfl rfl) ?_|refine QW (cJ (i:=1) aT.eq rfl rfl) ?_|refine GX ?_)|refine GW ?_)
      repeat(first|refine GA ?_|refine gV (J (v:= .int .i64 (seen:Int)) ak.ty rfl (ah (i:=1) rfl rfl)) ?_|refine gV (aP rfl (iT _ _)) ?_)
      refine fa 2 (cs':=#[.slice none 0 0,.int .i64 (seen:Int),.int .i64 13,.bool false]) ?_;refine zL ?_
      try refine GA ?_
      exact fJ (i:=2) rfl rfl rfl rfl rfl rfl fun w hm=>hm.meets (S:=oV (seen:Int) (13,[],[])) (.slice none 0 0,.slice none 0 0) trivial [] (by decide) rfl
    · rw[QH hD]
      obtain⟨k,m⟩:=x;dsimp only at hx;subst hx;simp only[List.length_cons]at hd1
      try refine GA ?_
      refine rM (i:=4) rfl (by simp) fun gt ct hv q1 q2=>?_;subst hv;simp only[List.length_cons]at*
      by_cases c1:m≠(t:Int)
      · rw[if_pos c1]
        refine cU ([sa gw g.aF g.aU vp (.slice (some ⟨gt,0,none⟩) (r.length+1) ct) Nk a1,q8 (.slice (some ⟨gt,0,none⟩) (r.length+1) ct) (.sym (1,m)::r)]) (.calm 0 (.calm 1 (.calm 2 (.calm 3 (.calm 4 (.calm 5 (.calm 6 (.calm 7 (.calm 8 (.calm 9 (.calm 10 (.calm 11 (.calm 12 (.calm 13 (.calm 14 (.calm 15 (.calm 16 (.calm 17 (.calm 18 (.calm 19 (.calm 20 (.calm 21 (.calm 22 (.calm 23 (.calm 24 (.calm 25 (.calm 26 (.calm 27 (.done))))))))))))))))))))))))))))) (bz [3,4]) ?_
        repeat(first|(refine GN ?_;first|refine QW QP ?_|refine QW (J (v:= .slice (some ⟨gt,0,none⟩) (r.length+1) ct) ak.ty rfl (ah (i:=0) rfl rfl)) ?_|refine QW (bL (b:=true) rfl rfl rfl) ?_|refine QW (bL (b:=false) rfl rfl (decide_eq_false (by omega))) ?_|refine QW (J (v:= .int .i64 m) ak.ty rfl (vX (i:=1) rfl 3 _ rfl)) ?_|refine QW (bm (b:=true) rfl rfl (decide_eq_true c1)) ?_|refine QW (df (r:=(r.length:Int)) rfl rfl (by omega) (by omega) (by omega)) ?_|refine QW (aC (j:=r.length) aT.eq ak.ty rfl rfl (by omega)) ?_|refine GX ?_)|refine GW ?_)
        repeat(first|refine GA ?_|refine gV (J (v:= .int .i64 (seen:Int)) ak.ty rfl (ah (i:=1) rfl rfl)) ?_|refine gV (aP rfl (iT _ _)) ?_)
        refine fa 2 (cs':=#[.slice none 0 0,.int .i64 (seen:Int),.int .i64 13,.bool false]) ?_;refine zL ?_
        try refine GA ?_
        exact fJ (i:=2) rfl rfl rfl rfl rfl rfl fun w hm=>hm.meets (S:=oV (seen:Int) (13,[],[])) (.slice none 0 0,.slice none 0 0) trivial [] (by decide) rfl
      · rw[if_neg c1]
        obtain rfl:m=(t:Int):=by simpa using c1
        refine cU ([sa gw g.aF g.aU vp (.slice (some ⟨gt,0,none⟩) (r.length+1) ct) Nk a1,q8 (.slice (some ⟨gt,0,none⟩) (r.length+1) ct) (.sym (1,(t:Int))::r)]) (.calm 0 (.calm 1 (.calm 2 (.calm 3 (.calm 4 (.calm 5 (.calm 6 (.calm 7 (.calm 8 (.calm 9 (.calm 10 (.calm 11 (.calm 12 (.calm 13 (.calm 14 (.calm 15 (.calm 16 (.calm 17 (.calm 18 (.calm 19 (.calm 20 (.calm 21 (.calm 22 (.calm 23 (.calm 24 (.calm 25 (.calm 26 (.calm 27 (.done))))))))))))))))))))))))))))) (bz [3,4]) ?_
        repeat(first|(refine GN ?_;first|refine QW QP ?_|refine QW (J (v:= .slice (some ⟨gt,0,none⟩) (r.length+1) ct) ak.ty rfl (ah (i:=0) rfl rfl)) ?_|refine QW (bL (b:=true) rfl rfl rfl) ?_|refine QW (bL (b:=false) rfl rfl (decide_eq_false (by omega))) ?_|refine QW (J (v:= .int .i64 (t:Int)) ak.ty rfl (vX (i:=1) rfl 3 _ rfl)) ?_|refine QW (bm (b:=false) rfl rfl (decide_eq_false (by simp))) ?_|refine QW (df (r:=(r.length:Int)) rfl rfl (by omega) (by omega) (by omega)) ?_|refine QW (aC (j:=r.length) aT.eq ak.ty rfl rfl (by omega)) ?_|refine GX ?_)|refine GW ?_)
        repeat(first|refine GC ?_|refine gV (bL (b:=true) rfl rfl rfl) ?_|refine GB ?_)
        refine aR [3,4] [0,1,2,5] (by decide) rfl rfl (jc aj.en rfl rfl) (fun w hm hb=>uL gw g.aF g.aU vp _ Nk (.sym (1,(t:Int))) r a1 w _ (by omega) hb) rfl rfl rfl ?_;intro Kq _;refine zL ?_;dsimp only
        repeat(first|refine GA ?_|refine gV (J (v:= .int .i64 (seen:Int)) ak.ty rfl (ah (i:=1) rfl rfl)) ?_)
        refine aR [4,3] [0,1,2,5] (by decide) rfl rfl (sB aj.en rfl rfl rfl rfl) (fun w hm hb=>uK gw g.aF g.aU vp Kq Nk ed a1 2 (seen:Int) w _ (by simp at hd3;omega) (by omega) hb) rfl rfl rfl ?_;intro vo3 _;refine zL ?_;dsimp only
        by_cases c2:a1+1<=2000
        · rw[decide_eq_true (show((a1+1:Nat):Int)<=2000 by omega)]
          try refine GA ?_
          refine wF rfl rfl rfl ?_;refine aR [4,3,5] [0,1,2] (by decide) rfl rfl (jc aj.en rfl rfl) (fun w hm hb=>nH gw g.aF g.aU vp Kq vo3 r (ed++[(2,(seen:Int))]) (a1+1) w _ (by omega) c2 (by simp at hd3⊢;omega) hb) rfl rfl rfl ?_;rintro⟨vt4,vo4⟩ _
          conv=>arg 8;simp only[zJ,bZ,ret,id_eq,Xu]
          conv=>arg 7;simp only[Xu]
          generalize aZ r (ed++[(2,(seen:Int))]) (a1+1)=C;obtain⟨st3,aby,a3,ok⟩:=C;dsimp only
          cases ok with
          | true=>
            rw[if_pos ⟨c2,rfl⟩]
            repeat(first|refine GC ?_|refine gV (bL (b:=true) rfl rfl rfl) ?_|refine GB ?_)
            refine NW (i:=4) rfl fun bt Vd hv q3 q4=>?_;subst hv;refine cU ([sa gw g.aF g.aU vp (.slice bt st3.length Vd) vo4 a3,aw g1 (tV vt (seen:Int) 0 false).cells 158]) (.calm 0 (.calm 1 (.calm 2 (.calm 3 (.calm 4 (.calm 5 (.calm 6 (.calm 7 (.calm 8 (.calm 9 (.calm 10 (.calm 11 (.one 12 (.calm 13 (.calm 14 (.done)))))))))))))))) (bz [3,1]) ?_
            repeat(first|refine GW ?_|(refine GN ?_;first|refine QW (J (v:= .slice bt st3.length Vd) ak.ty rfl (ah (i:=0) rfl rfl)) ?_|refine QW (J (v:= .int .i64 (seen:Int)) ak.ty rfl (ah (i:=1) rfl rfl)) ?_|refine QW (J (v:=vo4) ak.ty rfl (ah (i:=0) rfl rfl)) ?_|refine QW (aP rfl (MN _ _ _ _)) ?_))
            refine ap rfl (aE (i:=2) (cs':=#[.slice bt st3.length Vd,.int .i64 ((seen:Int)+1),.int .i64 0,.bool false]) rfl rfl rfl rfl rfl rfl (av (bz [3,1]) ?_))
            try refine GW ?_
            try refine GA ?_
            exact fJ (i:=2) rfl rfl rfl rfl rfl rfl fun w hm=>hm.meets (S:=oV (seen:Int) (0,st3,aby)) (.slice bt st3.length Vd,vo4) trivial [4,5] (by decide) rfl
          | false=>
            rw[if_neg (by rintro⟨_,h⟩;cases h)]
            try refine GA ?_
            repeat(first|refine GA ?_|refine gV (J (v:= .int .i64 (seen:Int)) ak.ty rfl (ah (i:=1) rfl rfl)) ?_|refine gV (aP rfl (iT _ _)) ?_)
            refine fa 2 (cs':=#[.slice none 0 0,.int .i64 (seen:Int),.int .i64 14,.bool false]) ?_;refine zL ?_
            try refine GA ?_
            exact fJ (i:=2) rfl rfl rfl rfl rfl rfl fun w hm=>hm.meets (S:=oV (seen:Int) (14,[],[])) (.slice none 0 0,.slice none 0 0) trivial [] (by decide) rfl
        · rw[if_neg (by rintro⟨h,_⟩;exact c2 h)]
          rw[decide_eq_false (show ¬((a1+1:Nat):Int)<=2000 by omega)]
          try refine GA ?_
          repeat(first|refine GA ?_|refine gV (J (v:= .int .i64 (seen:Int)) ak.ty rfl (ah (i:=1) rfl rfl)) ?_|refine gV (aP rfl (iT _ _)) ?_)
          refine fa 2 (cs':=#[.slice none 0 0,.int .i64 (seen:Int),.int .i64 14,.bool false]) ?_;refine zL ?_
          try refine GA ?_
          exact fJ (i:=2) rfl rfl rfl rfl rfl rfl fun w hm=>hm.meets (S:=oV (seen:Int) (14,[],[])) (.slice none 0 0,.slice none 0 0) trivial [] (by decide) rfl
  · rw[F8 hD (by decide)]
    try refine GA ?_
    refine cU ([]) (.calm 0 (.calm 1 (.calm 2 (.calm 3 (.calm 4 (.calm 5 (.calm 6 (.calm 7 (.calm 8 (.calm 9 (.calm 10 (.calm 11 (.calm 12 (.calm 13 (.calm 14 (.calm 15 (.calm 16 (.calm 17 (.calm 18 (.calm 19 (.calm 20 (.calm 21 (.calm 22 (.calm 23 (.calm 24 (.calm 25 (.calm 26 (.calm 27 (.done))))))))))))))))))))))))))))) (bz []) ?_
    try refine GW ?_
    repeat(first|refine GA ?_|refine gV (J (v:= .int .i64 (seen:Int)) ak.ty rfl (ah (i:=1) rfl rfl)) ?_|refine gV (aP rfl (iT _ _)) ?_)
    refine fa 2 (cs':=#[.slice none 0 0,.int .i64 (seen:Int),.int .i64 13,.bool false]) ?_;refine zL ?_
    try refine GA ?_
    exact fJ (i:=2) rfl rfl rfl rfl rfl rfl fun w hm=>hm.meets (S:=oV (seen:Int) (13,[],[])) (.slice none 0 0,.slice none 0 0) trivial [] (by decide) rfl
  · rw[F8 hD (by decide)]
    try refine GA ?_
    refine cU ([]) (.calm 0 (.calm 1 (.calm 2 (.calm 3 (.calm 4 (.calm 5 (.calm 6 (.calm 7 (.calm 8 (.calm 9 (.calm 10 (.calm 11 (.calm 12 (.calm 13 (.calm 14 (.calm 15 (.calm 16 (.calm 17 (.calm 18 (.calm 19 (.calm 20 (.calm 21 (.calm 22 (.calm 23 (.calm 24 (.calm 25 (.calm 26 (.calm 27 (.done))))))))))))))))))))))))))))) (bz []) ?_
    try refine GW ?_
    repeat(first|refine GA ?_|refine gV (J (v:= .int .i64 (seen:Int)) ak.ty rfl (ah (i:=1) rfl rfl)) ?_|refine gV (aP rfl (iT _ _)) ?_)
    refine fa 2 (cs':=#[.slice none 0 0,.int .i64 (seen:Int),.int .i64 14,.bool false]) ?_;refine zL ?_
    try refine GA ?_
    exact fJ (i:=2) rfl rfl rfl rfl rfl rfl fun w hm=>hm.meets (S:=oV (seen:Int) (14,[],[])) (.slice none 0 0,.slice none 0 0) trivial [] (by decide) rfl
def Dk(seen:Int)(R:Int×List cg):Spec Value:=
 ⟨fun _=>True,fun x=>if R.1=0 then .tuple #[tV (.slice none 0 0) seen 0 true,x,.int .i64 0]else .tuple #[tV (.slice none 0 0) seen R.1 false,.slice none 0 0,.int .i64 R.1],fun x=>if R.1=0 then [kt x R.2]else []⟩
theorem MO(seen:Int)(w:World):(Instr.build 158 #[(1,.int .i64 seen),(3,.bool true)]).run Tryz.prog w= .ok (tV (.slice none 0 0) seen 0 true) w:=by
 unfold tV;go_simp
theorem zj(v vr vt:Value)(g:dr)(ll:List (List Int))(T N:Nat)(st:List TD)(seen:Nat)(w:World)(h:iZ (fun k=>k<w.heap.size) w v g)(hr:zc w vr ll)(ht:TdR w vt st)(h0:Dd g ll=0)(hg:cz g=0)(hT:F6 g ll T N)(hs:∀d∈st,pR g d)(hl:st.length<=60)(h1:seen<=1000000):
 Calls Tryz.prog 144 #[v,vr,tV vt (seen:Int) 0 false] w (bM (Dk (seen:Int) (r8 g.ag (iS ll T) st)) w):=by
 have BG:=hT.aF;have gd:=fun w' (s7:Gr w w')=>nI v vr vt g ll st (seen:Int) g.aF w' (h.gr s7) (hr.gr s7) (ht.gr s7) h0 hs hl (by omega) (by omega) (by omega) (by omega);obtain⟨vp,rfl,hp,_⟩:=h;have tY:=fun w' (s7:Gr w w')=>vZ g.aF g.aU vp vt st (seen:Int) 0 false w' (ht.gr s7) hl (by obtain⟨b,c,e,_⟩:=hp;exact⟨b,_,c,e⟩);have hdw:=fun gw Qx Qy w' B ho hm=>vY w gw g.aF g.aU vp vr g ll T N T hp hr hg hT (by omega) Qx Qy st w' B hs hl ho hm;rw[<-BG]at hdw;have U1:=fun R=>@pT g.ag (iS ll T) 2001 st [] 0 R;have hde:=@pS g.ag (iS ll T) 2001 st [] 0;generalize hD:ey g.ag (iS ll T) 2001 st [] 0=D at*;obtain⟨st1,ed,a1,e⟩:=D;have U1:=fun h=>U1 _ rfl h;dsimp only at*;refine enter (args:=[cO g.aF g.aU vp,vr,tV vt (seen:Int) 0 false]) (n:=55) Tryz.func144 rfl rfl rfl ?_;refine a8 (aL (a_ rfl rfl rfl fun g0=>a_ rfl rfl rfl fun g1=>aK rfl fun g2=>?_));refine zL ?_
 repeat(first|refine GA ?_|refine gV (J (v:= .int .i64 g.aF) ak.ty rfl (ah (i:=0) rfl rfl)) ?_|refine gV (az (i:=0) ak.ty rfl rfl rfl) ?_|refine gV (az (i:=1) ak.ty rfl rfl rfl) ?_)
 refine aI (G7 aj.en rfl rfl rfl rfl rfl) (fun w hm=>gd _ hm.below) rfl rfl rfl ?_;intro _ _;refine zL ?_
 repeat(first|refine GA ?_|refine gV (az (i:=0) ak.ty rfl rfl rfl) ?_|refine gV (az (i:=1) ak.ty rfl rfl rfl) ?_)
 refine aI (eK aj.en rfl rfl rfl) (fun w hm=>tY _ hm.below) rfl rfl rfl ?_;rintro⟨gw,QB⟩ _
 conv=>arg 8;simp only[zJ,bZ,ret,id_eq,Dj]
 repeat(first|refine GA ?_|refine gV (J (v:= .int .i64 g.aF) ak.ty rfl (ah (i:=0) rfl rfl)) ?_)
 refine na 55 2 ?_;refine zL ?_;refine aR [3,4,5] [0,1,2] (by decide) rfl rfl (sB aj.en rfl rfl rfl rfl) (fun w' hm hb=>hdw gw QB _ w' _ ((jz.self w).on hm fun o h=>lX h) hb) rfl rfl rfl ?_;rintro⟨Kp,Nk⟩ _
 conv=>arg 8;simp only[zJ,bZ,ret,id_eq,RC]
 conv=>arg 7;simp only[RC]
 rcases hde with rfl|rfl|rfl
 ·rcases U1 rfl with rfl|⟨x,r,rfl,hx⟩
  ·rw[T9 hD]
   repeat(first|refine GC ?_|refine gV (J (v:=Kp) ak.ty rfl (ah (i:=3) rfl rfl)) ?_|refine gV (bL (b:=true) rfl rfl rfl) ?_|refine gV (cJ (i:=4) aT.eq rfl rfl) ?_|refine gV (dj (b:=false) rfl rfl rfl) ?_|refine GB ?_)
   refine cU ([sa gw g.aF g.aU vp Kp Nk a1,aw g1 (tV vt (seen:Int) 0 false).cells 158]) (.calm 0 (.calm 1 (.calm 2 (.calm 3 (.calm 4 (.calm 5 (.calm 6 (.one 7 (.calm 8 (.calm 9 (.done))))))))))) (bz [3,1]) ?_
   repeat(first|refine GW ?_|(refine GN ?_;first|refine QW (J (v:= .int .i64 (seen:Int)) ak.ty rfl (ah (i:=1) rfl rfl)) ?_|refine QW (J (v:=Nk) ak.ty rfl (ah (i:=0) rfl rfl)) ?_|refine QW (aP rfl (MO _)) ?_))
   refine ap rfl (aE (i:=2) (cs':=#[.slice none 0 0,.int .i64 (seen:Int),.int .i64 0,.bool true]) rfl rfl rfl rfl rfl rfl (av (bz [3,1]) ?_))
   try refine GW ?_
   try refine GA ?_
   exact fJ (i:=2) rfl rfl rfl rfl rfl rfl fun w hm=>hm.meets (S:=Dk (seen:Int) (0,ed)) Nk trivial [5] (by decide) rfl
  ·rw[T_ hD]
   repeat(first|refine GC ?_|refine gV (J (v:=Kp) ak.ty rfl (ah (i:=3) rfl rfl)) ?_|refine gV (bL (b:=true) rfl rfl rfl) ?_|refine gV (J (v:= .int .i64 (seen:Int)) ak.ty rfl (ah (i:=1) rfl rfl)) ?_|refine gV (aP rfl (iT _ _)) ?_|refine gV (cJ (i:=4) aT.eq rfl rfl) ?_|refine gV (dj (b:=true) rfl rfl (decide_eq_true (by rw[List.length_cons];omega))) ?_|refine GB ?_)
   refine fa 2 (cs':=#[.slice none 0 0,.int .i64 (seen:Int),.int .i64 13,.bool false]) ?_;refine zL ?_
   try refine GA ?_
   exact fJ (i:=2) rfl rfl rfl rfl rfl rfl fun w hm=>hm.meets (S:=Dk (seen:Int) (13,[])) (.slice none 0 0) trivial [] (by decide) rfl
 ·rw[Kt hD (by decide)]
  repeat(first|refine GA ?_|refine gV (J (v:= .int .i64 (seen:Int)) ak.ty rfl (ah (i:=1) rfl rfl)) ?_|refine gV (aP rfl (iT _ _)) ?_)
  refine fa 2 (cs':=#[.slice none 0 0,.int .i64 (seen:Int),.int .i64 13,.bool false]) ?_;refine zL ?_
  try refine GA ?_
  exact fJ (i:=2) rfl rfl rfl rfl rfl rfl fun w hm=>hm.meets (S:=Dk (seen:Int) (13,[])) (.slice none 0 0) trivial [] (by decide) rfl
 ·rw[Kt hD (by decide)]
  repeat(first|refine GA ?_|refine gV (J (v:= .int .i64 (seen:Int)) ak.ty rfl (ah (i:=1) rfl rfl)) ?_|refine gV (aP rfl (iT _ _)) ?_)
  refine fa 2 (cs':=#[.slice none 0 0,.int .i64 (seen:Int),.int .i64 14,.bool false]) ?_;refine zL ?_
  try refine GA ?_
  exact fJ (i:=2) rfl rfl rfl rfl rfl rfl fun w hm=>hm.meets (S:=Dk (seen:Int) (14,[])) (.slice none 0 0) trivial [] (by decide) rfl
end bK
namespace bK
open Go.RowKit bO dc aB dy gI wk eo cL rX
abbrev Ku(g:dr)(T N:Nat):List (List Int):=iY N fun n=>iY (T+1) (wk.rowAt g.ag (uG N g.ag) T n)
theorem F9{α:Type}{len:Nat}{f:Nat->α}{d:α}(k:Nat):(iY len f).getD k d=if k<len then f k else d:=by
 rw[List.getD_eq_getElem?_getD]
 by_cases h:k<len
 ·rw[pN _ h,if_pos h];rfl
 ·rw[List.getElem?_eq_none (by rw[eT];omega),if_neg h];rfl
theorem Xw{g:dr}{T N:Nat}(hT:g.aF=T)(hN:g.aU=N):F6 g (Ku g T N) T N where
  aF:=hT
  aU:=hN
  len:=eT _ _
  row r hr:=by
    obtain⟨n,_,rfl⟩:=List.mem_map.1 hr;exact eT _ _
  nx col n h0:=by
    unfold iS at h0⊢;rw[F9]at h0⊢
    by_cases h:n.toNat<N
    · rw[if_pos h]at h0⊢
      rw[F9]at h0⊢
      by_cases h2:col<T+1
      · rw[if_pos h2]at h0⊢
        refine⟨(pQ n.toNat col g.ag.length).2,fun hn=>?_⟩;have:=r7 (may:=uG N g.ag) (T:=T) n.toNat col g.ag.length (Nat.le_refl _) h0;unfold wk.rowAt;rw[this];omega
      · rw[if_neg h2]at h0;omega
    · rw[if_neg h]at h0
      have:([]:List Int).getD col (-1)= -1:=rfl;omega
theorem BH{l:List aB.Prod}{n:Nat}:∀r:List Int,(∀p∈r,-1<=p/\p<(l.length:Int)/\(0<=p->(bU l p).1=(n:Int)))->oC l n r=0
 |[],_=>rfl
 |p::r,h=>by
  have hp:=h p (List.mem_cons_self ..);rw[oC,if_neg (by omega),if_neg (by omega),if_neg (by rintro⟨h1,h2⟩;exact h2 (hp.2.2 h1))];exact BH r fun p hp=>h p (List.mem_cons_of_mem _ hp)
theorem zk{l:List aB.Prod}{t:Int}:∀(rows:List (List Int)) (n:Nat),(∀i (h:i<rows.length),(rows[i].length:Int)=t+1/\oC l (n+i) rows[i]=0)->mJ l t n rows=0
  |[],_,_=>rfl
  | r ::rs,n,h=>by
    have h0:=h 0 (by simp);simp only[List.getElem_cons_zero,Nat.add_zero]at h0;rw[mJ,if_neg (by simp[h0.1]),if_neg (by simp[h0.2])];exact zk rs (n+1) fun i hi=>by
      have:=h (i+1) (by simp;omega);simp only[List.getElem_cons_succ]at this;rw[show n+1+i=n+(i+1)by omega];exact this
theorem F_{g:dr}{T N:Nat}(hg:cz g=0)(hT:g.aF=T)(hN:g.aU=N):Dd g (Ku g T N)=0:=by
 unfold Dd;rw[if_neg (by simp[hg]),eT,if_neg (by simp[hN])];refine zk _ 0 fun i hi=>?_;rw[eT]at hi;have sd:(Ku g T N)[i]'(by rw[eT];exact hi)=iY (T+1) (wk.rowAt g.ag (uG N g.ag) T i):=by simp[iY]
 rw[sd];refine⟨by rw[eT,hT];rfl,BH _ fun p hp=>?_⟩;obtain⟨c,_,rfl⟩:=List.mem_map.1 hp;have h1:=pQ (l:=g.ag) (may:=uG N g.ag) (T:=T) i c g.ag.length;refine⟨h1.1,h1.2,fun h0=>?_⟩;rw[Nat.zero_add];exact r7 (l:=g.ag) (may:=uG N g.ag) (T:=T) i c g.ag.length (Nat.le_refl _) h0
theorem QI(seen:Int)(st:List TD)(l:List cg):oV seen (0,st,l)=⟨fun _=>True,fun x=> .tuple #[tV x.1 (seen+1) 0 false,x.2,.int .i64 0],fun x=>[q8 x.1 st,kt x.2 l]⟩:=by unfold oV;simp
theorem MP(seen:Int){e:Int}(he:e≠0)(st:List TD)(l:List cg):oV seen (e,st,l)=⟨fun _=>True,fun x=> .tuple #[tV (.slice none 0 0) seen e false,.slice none 0 0,.int .i64 e],fun x=>[]⟩:=by unfold oV;simp[he]
theorem Ua(seen:Int)(l:List cg):Dk seen (0,l)=⟨fun _=>True,fun x=> .tuple #[tV (.slice none 0 0) seen 0 true,x,.int .i64 0],fun x=>[kt x l]⟩:=by unfold Dk;simp
theorem QJ(seen:Int){e:Int}(he:e≠0)(l:List cg):Dk seen (e,l)=⟨fun _=>True,fun x=> .tuple #[tV (.slice none 0 0) seen e false,.slice none 0 0,.int .i64 e],fun x=>[]⟩:=by unfold Dk;simp[he]
theorem Kv{v:Value}{a b:List cg}:aM 55 2 v (a.length+b.length) (a.flatMap dg++b.flatMap dg)=kt v (a++b):=by unfold kt;rw[List.length_append,List.flatMap_append]
theorem QM(l:List cg):(l.flatMap dg).length=l.length*2:=ka (f:=dg) (c:=2) (fun _=>rfl) l
end bK
namespace k7
open Go.RowKit bO dc bK bT
def wB(o:Of)(N:List (List Int))(now:Int)(b:UInt8):Int:=(N.getD now.toNat []).getD (o.toList.getD b.toNat 0) 0
def mc(o:Of)(N:List (List Int))(tags:List Int):List UInt8->Nat->Int->Int->Nat->Int×Nat
  |[],_,_,r,t=>(r,t)
  | b::s,i,now,r,t=>
    if wB o N now b<0 then(r,t)
    else if 0<=tags.getD (wB o N now b).toNat 0 then mc o N tags s (i+1) (wB o N now b) (tags.getD (wB o N now b).toNat 0) (i+1)
    else mc o N tags s (i+1) (wB o N now b) r t
def jg(o:Of)(N:List (List Int))(tags:List Int)(s:List UInt8)(fr:Nat):Int×Nat:=mc o N tags (s.drop fr) fr 0 0 0
theorem oD(o:Of)(N:List (List Int))(tags:List Int)(b:UInt8)(s:List UInt8)(i:Nat)(now r:Int)(t:Nat):mc o N tags (b::s) i now r t=
 if wB o N now b<0 then(r,t)
 else if 0<=tags.getD (wB o N now b).toNat 0 then mc o N tags s (i+1) (wB o N now b) (tags.getD (wB o N now b).toNat 0) (i+1)
 else mc o N tags s (i+1) (wB o N now b) r t:=rfl
abbrev Tok:=Int×Nat×Nat
def jv(o:Of)(N:List (List Int))(tags:List Int)(s:List UInt8):Nat->Nat->List Tok×Nat×Int
 |0,_=>([],0,0)
 |f+1,at'=>if at'<s.length then(if(jg o N tags s at').2=0 then([],at',9)else((((jg o N tags s at').1,at',(jg o N tags s at').2)::(jv o N tags s f (jg o N tags s at').2).1),(jv o N tags s f (jg o N tags s at').2).2))else([],0,0)
def nJ(o:Of)(N:List (List Int))(tags:List Int)(s:List UInt8):List Tok×Nat×Int:=jv o N tags s (s.length+1) 0
theorem me(o:Of)(N:List (List Int))(tags:List Int)(s:List UInt8)(f at':Nat):jv o N tags s (f+1) at'=if at'<s.length then(if(jg o N tags s at').2=0 then([],at',9)else((((jg o N tags s at').1,at',(jg o N tags s at').2)::(jv o N tags s f (jg o N tags s at').2).1),(jv o N tags s f (jg o N tags s at').2).2))else([],0,0):=rfl
theorem zl(o:Of)(N:List (List Int))(tags:List Int):∀(s:List UInt8) (i:Nat) (now r:Int) (t:Nat),(mc o N tags s i now r t).2=t\/(i<(mc o N tags s i now r t).2/\(mc o N tags s i now r t).2<=i+s.length)
  |[],_,_,_,_=> .inl rfl
  | b ::s,i,now,r,t=>by
    rw[oD];split
    · exact .inl rfl
    · split
      · rcases zl o N tags s (i+1) (wB o N now b) (tags.getD (wB o N now b).toNat 0) (i+1)with h|h
        · rw[h];exact .inr ⟨by omega,by rw[List.length_cons];omega⟩
        · exact .inr ⟨by omega,by rw[List.length_cons];omega⟩
      · rcases zl o N tags s (i+1) (wB o N now b) r t with h|h
        · exact .inl h
        · exact .inr ⟨by omega,by rw[List.length_cons];omega⟩
theorem Kw{o:Of}{N:List (List Int)}{tags:List Int}{s:List UInt8}{fr:Nat}(hf:fr<=s.length):(jg o N tags s fr).2=0\/(fr<(jg o N tags s fr).2/\(jg o N tags s fr).2<=s.length):=by
 rcases zl o N tags (s.drop fr) fr 0 0 0 with h|h
 ·exact .inl h
 ·right
  rw[List.length_drop]at h;exact⟨h.1,by have:=h.2;show(mc _ _ _ _ _ _ _ _).2<=_;omega⟩
theorem IV{o:Of}{N:List (List Int)}{tags:List Int}(h:jL o N tags){q:Nat}(hq:q<N.length)(b:UInt8):
 ∃(h1:q<N.length) (h2:o[b.toNat]'b.toNat_lt<N[q].length),wB o N (q:Int) b=N[q][o[b.toNat]'b.toNat_lt]/\ -1<=wB o N (q:Int) b/\wB o N (q:Int) b<N.length:=by
 have hw:o[b.toNat]'b.toNat_lt<N[q].length:=by rw[h.row q hq];exact h.of _ _
 have e:wB o N (q:Int) b=N[q][o[b.toNat]'b.toNat_lt]:=by
  unfold wB;rw[Int.toNat_natCast,List.getD_eq_getElem?_getD (l:=N),List.getElem?_eq_getElem hq,Option.getD_some,List.getD_eq_getElem?_getD (l:=o.toList),List.getElem?_eq_getElem (by rw[Vector.length_toList];exact b.toNat_lt),Option.getD_some,Vector.getElem_toList,List.getD_eq_getElem?_getD,List.getElem?_eq_getElem hw];rfl
 have hr:=h.Va q hq _ hw;exact⟨hq,hw,e,by rw[e];exact hr.1,by rw[e];exact hr.2⟩
end k7
namespace bK
open Go.RowKit bO dc bT k7
theorem Xx{vn vt:Value}(o:Of)(b:UInt8):(fE o vn vt).toArray[0+b.toNat]?=some (.int .u8 ((o[b.toNat]'b.toNat_lt:Nat):Int)):=by
 rw[Nat.zero_add];exact ZN o vn vt b.toNat_lt
theorem zm(o:Of)(vn vt:Value)(N:List (List Int))(tags:List Int)(s:List UInt8)(w:World)(h:T4 w vn vt N tags)(ho:∀b (h:b<256),o[b]<256)(hs:s.length<=9223372036854775807):
 Calls Tryz.prog 49 #[GR o vn vt,str s] w (bM (ret (.int .i64 (if nG o N tags≠0 then nG o N tags else if 2000<s.length then 2 else 0))) w):=by
 have gd:=fun w' (hg:Gr w w')=>vW o vn vt N tags w' (h.gr hg) ho;obtain⟨⟨an,cn,rfl,-⟩,at',ct,rfl,-⟩:=h;generalize nG o N tags=e at*;refine enter (args:=[GR o (.slice an N.length cn) (.slice at' tags.length ct),str s]) (n:=14) Tryz.func49 rfl rfl rfl ?_;refine a8 (aL (a_ rfl rfl rfl fun g2=>?_));refine zL ?_
 repeat(first|refine GA ?_|refine gV (az (i:=0) ak.ty rfl rfl (gU _ _ _)) ?_)
 refine aI (jc aj.en rfl rfl) (fun w hm=>gd _ hm.below) rfl rfl rfl ?_;intro _ _;refine zL ?_
 by_cases c1:e=0
 ·rw[if_neg (by simpa using c1)]
  by_cases c2:2000<s.length
  ·rw[if_pos c2]
   repeat(first|refine GC ?_|refine gV (bm (b:=false) rfl rfl (decide_eq_false (by simpa using c1))) ?_|refine gV (dj (b:=true) rfl rfl (decide_eq_true (by omega))) ?_|refine GB ?_)
   exact dx rfl rfl rfl
  ·rw[if_neg c2]
   repeat(first|refine GC ?_|refine gV (bm (b:=false) rfl rfl (decide_eq_false (by simpa using c1))) ?_|refine gV (dj (b:=false) rfl rfl (decide_eq_false (by omega))) ?_|refine GB ?_)
   exact dx rfl rfl rfl
 ·rw[if_pos c1]
  repeat(first|refine GC ?_|refine gV (bm (b:=true) rfl rfl (decide_eq_true c1)) ?_|refine GB ?_)
  exact dx rfl rfl rfl
def iI(t:Tok):List Value:=[.int .i64 t.1,.int .i64 (t.2.1:Int),.int .i64 (t.2.2:Int)]
theorem zn(t:Tok):(iI t).length=3:=rfl
theorem IW(f:Nat)(w:World):(Instr.build 53 #[(1,.int .i64 (f:Int))]).run Tryz.prog w= .ok (.agg (iI (0,f,0)).toArray) w:=by
 unfold iI;go_simp
theorem IX(w:World):(Instr.build 53 (#[]:Array (Nat×Value))).run Tryz.prog w= .ok (.agg (iI (0,0,0)).toArray) w:=by kernel_rfl
def Ub(fr:Nat)(x:Int×Nat):Value:=if x.2=0 then .tuple #[.agg (iI (0,0,0)).toArray,.bool false]else .tuple #[.agg (iI (x.1,fr,x.2)).toArray,.bool true]
theorem Dl(o:Of)(vn vt:Value)(N:List (List Int))(tags:List Int)(s:List UInt8)(fr:Nat)(w:World)(h:T4 w vn vt N tags)(hg:jL o N tags)(hs:s.length<=1000000)(hf:fr<=s.length):
    Calls Tryz.prog 50 #[GR o vn vt,str s,.int .i64 (fr:Int)] w (bM (ret (Ub fr (jg o N tags s fr))) w):=by
  have qO:=fun {q} hq b=>IV hg (q:=q) hq b;have uz:=hg.pos;have hlen:=hg.len;have WQ:=hg.tag;obtain⟨⟨an,cn,rfl,hn1,RM,hn3⟩,at',ct,rfl,US,Om,DH⟩:=h;unfold maxLen at RM Om;obtain⟨bn,F4,rfl,_,GV⟩:=hn3 (by omega);obtain⟨bt,Dh,rfl,htd⟩:=DH (by omega);clear hn3 DH hg;have hbt:=IW fr;have sG:=IX;refine enter (args:=[GR o (.slice (some ⟨bn,F4,none⟩) N.length cn) (.slice (some ⟨bt,Dh,none⟩) tags.length ct),str s,.int .i64 (fr:Int)]) (n:=55) Tryz.func50 rfl rfl rfl ?_;refine a8 (aL (a_ rfl rfl rfl fun g3=>aK rfl fun g6=>?_));refine zL ?_
  repeat(first|refine GA ?_|refine gV (aP rfl hbt) ?_)
  refine aK rfl fun g9=>?_;refine zL ?_;refine fa 2 (cs':=(iI (0,fr,0)).toArray) ?_;refine zL ?_
  try refine GA ?_
  unfold jg;generalize iO:mc o N tags (s.drop fr) fr 0 0 0=fin;refine dv (ι:=Nat×Nat×Int×Nat) (fun(i,now,r,t)=>i<=s.length/\now<N.length/\t<=i/\mc o N tags (s.drop i) i (now:Int) r t=fin) (fun(i,now,_,_)=>[(1,str s),(3,.pointer (some ⟨g3,0,none⟩)),(6,.pointer (some ⟨g6,0,none⟩)),(8,.int .i64 (now:Int)),(9,.pointer (some ⟨g9,0,none⟩)),(10,.int .i64 (i:Int))])
    (fun(_,_,r,t)=>[aw g3 (fE o (.slice (some ⟨bn,F4,none⟩) N.length cn) (.slice (some ⟨bt,Dh,none⟩) tags.length ct)).toArray 30,aw g6 (iI (0,0,0)).toArray 53,aw g9 (iI (r,fr,t)).toArray 53]) (fun(i,_,_,_)=>s.length-i) (fr,0,0,0) ⟨hf,uz,Nat.zero_le _,iO⟩ ?_
  rintro⟨i,now,r,t⟩ ⟨i1,i2,i3,i4⟩;dsimp only at i1 i2 i3 i4⊢
  by_cases c1:i<s.length
  · rw[List.drop_eq_getElem_cons c1,oD]at i4
    obtain⟨_,hw,hx0,io,eh⟩:=qO i2 s[i];have hb:s[(i:Int).toNat]?=some s[i]:=by rw[Int.toNat_natCast];exact List.getElem?_eq_getElem c1
    have hcell:=Xx (vn:= .slice (some ⟨bn,F4,none⟩) N.length cn) (vt:= .slice (some ⟨bt,Dh,none⟩) tags.length ct) o s[i];have X1:=s[i].toNat_lt;obtain⟨u,⟨au,cu,rfl,hcu,hmu,Ru⟩,hdu⟩:=yo GV i2;have MI:=fun(L:List bI)=>f_ (L:=L) hdu (j:=0) (v:= .slice au N[now].length cu) rfl;obtain⟨bu,aah,rfl,ef⟩:=Ru (by omega);have MJ:=fun(L:List bI)=>eN (L:=L) iG ef hw 0 _ rfl;have aan:∀(L:List bI),At (w:bC) L ⟨bu,aah+o[s[i].toNat]*1+0,none⟩ (.int .i64 (wB o N (now:Int) s[i])):=fun L=>by rw[hx0];exact MJ L
    clear hdu ef Ru MJ hx0 iO GV;generalize s[i]=b at*;generalize o[b.toNat]=ob at*;generalize wB o N (now:Int) b=x at*;generalize N[now].length=wd at*
    try refine GA ?_
    refine cU ([aw g3 (fE o (.slice (some ⟨bn,F4,none⟩) N.length cn) (.slice (some ⟨bt,Dh,none⟩) tags.length ct)).toArray 30]) (.calm 0 (.calm 1 (.calm 2 (.calm 3 (.calm 4 (.calm 5 (.calm 6 (.calm 7 (.calm 8 (.calm 9 (.calm 10 (.calm 11 (.calm 12 (.calm 13 (.done))))))))))))))) (bz [0]) ?_
    repeat(first|refine GW ?_|(refine GN ?_;first|refine QW (J ak.ty rfl (ah (i:=0) rfl (kw _ _ _))) ?_|refine QW (aC (j:=now) aT.eq ak.ty rfl rfl i2) ?_|refine QW (J ak.ty rfl (MI _)) ?_|refine QW (qC aT.eq rfl rfl (by omega) hb) ?_|refine QW (e_ aT.eq ak.ty rfl rfl X1) ?_|refine QW (J ak.ty rfl (ah (i:=0) rfl hcell)) ?_|refine QW (aC (j:=ob) aT.eq ak.ty rfl rfl hw) ?_|refine QW (J ak.ty rfl (aan _)) ?_))
    by_cases q1:x<0
    · rw[if_pos q1]at i4
      subst i4;unfold Ub
      by_cases e1:t=0
      · subst e1
        rw[if_pos rfl]
        repeat(first|refine GC ?_|refine gV (bQ (b:=true) rfl rfl (decide_eq_true q1)) ?_|refine gV (J (v:= .int .i64 ((0:Nat):Int)) ak.ty rfl (ah (i:=2) rfl rfl)) ?_|refine gV (bL (b:=true) rfl rfl (decide_eq_true (by simp))) ?_|refine gV (aP rfl sG) ?_|refine GB ?_)
        refine fa 1 (cs':=(iI (0,0,0)).toArray) ?_;refine zL ?_
        try refine GA ?_
        exact da (i:=1) rfl rfl rfl rfl rfl fun w hm=>hm.ret
      · rw[if_neg e1]
        repeat(first|refine GC ?_|refine gV (bQ (b:=true) rfl rfl (decide_eq_true q1)) ?_|refine gV (J (v:= .int .i64 (t:Int)) ak.ty rfl (ah (i:=2) rfl rfl)) ?_|refine gV (bL (b:=false) rfl rfl (decide_eq_false (by omega))) ?_|refine gV (az (i:=2) ak.ty rfl rfl rfl) ?_|refine GB ?_)
        refine fa 1 (cs':=(iI (r,fr,t)).toArray) ?_;refine zL ?_
        try refine GA ?_
        exact da (i:=1) rfl rfl rfl rfl rfl fun w hm=>hm.ret
    · rw[if_neg q1]at i4
      obtain⟨xn,rfl⟩:=Int.eq_ofNat_of_zero_le (show 0<=x by omega);have hxt:xn<tags.length:=by omega
      have FK:=fun(L:List bI)=>eN (L:=L) iG htd hxt 0 _ rfl;rw[Int.toNat_natCast,List.getD_eq_getElem?_getD (l:=tags),List.getElem?_eq_getElem hxt,Option.getD_some]at i4;generalize tags[xn]=tg at*;have Vs:∀(L:List bI),At (w:bC) L ⟨bt,Dh+xn*1+0,none⟩ (.int .i64 tg):=FK
      by_cases q2:0<=tg
      · rw[if_pos q2]at i4
        repeat(first|refine GC ?_|refine gV (bQ (b:=false) rfl rfl (decide_eq_false q1)) ?_|refine gV (J ak.ty rfl (ah (i:=0) rfl (kZ _ _ _))) ?_|refine gV (aC (j:=xn) aT.eq ak.ty rfl rfl hxt) ?_|refine gV (J (v:= .int .i64 tg) ak.ty rfl (Vs _)) ?_|refine gV (dO (b:=true) rfl rfl (decide_eq_true q2)) ?_|refine gV (cB (r:=((i+1:Nat):Int)) rfl rfl (by omega) (by omega) (by omega)) ?_|refine GB ?_)
        refine aW (i:=2) rfl rfl rfl rfl rfl rfl ?_;refine zL ?_
        try refine GA ?_
        refine aW (i:=2) rfl rfl rfl rfl rfl rfl ?_;refine zL ?_
        repeat(first|refine GC ?_|refine gV (cB (r:=((i+1:Nat):Int)) rfl rfl (by omega) (by omega) (by omega)) ?_|refine GB ?_)
        exact bB (i+1,xn,tg,i+1) ⟨by show i+1<=s.length;omega,by show xn<N.length;omega,Nat.le_refl _,i4⟩ (by show s.length-(i+1)<s.length-i;omega)
      · rw[if_neg q2]at i4
        repeat(first|refine GC ?_|refine gV (bQ (b:=false) rfl rfl (decide_eq_false q1)) ?_|refine gV (J ak.ty rfl (ah (i:=0) rfl (kZ _ _ _))) ?_|refine gV (aC (j:=xn) aT.eq ak.ty rfl rfl hxt) ?_|refine gV (J (v:= .int .i64 tg) ak.ty rfl (Vs _)) ?_|refine gV (dO (b:=false) rfl rfl (decide_eq_false q2)) ?_|refine gV (cB (r:=((i+1:Nat):Int)) rfl rfl (by omega) (by omega) (by omega)) ?_|refine GB ?_)
        exact bB (i+1,xn,r,t) ⟨by show i+1<=s.length;omega,by show xn<N.length;omega,by show t<=i+1;omega,i4⟩ (by show s.length-(i+1)<s.length-i;omega)
  · rw[List.drop_eq_nil_of_le (by omega)]at i4
    have i4:(r,t)=fin:=i4;subst i4;unfold Ub
    by_cases e1:t=0
    · subst e1
      rw[if_pos rfl]
      repeat(first|refine GC ?_|refine gV (J (v:= .int .i64 ((0:Nat):Int)) ak.ty rfl (ah (i:=2) rfl rfl)) ?_|refine gV (bL (b:=true) rfl rfl (decide_eq_true (by simp))) ?_|refine gV (aP rfl sG) ?_|refine GB ?_)
      refine fa 1 (cs':=(iI (0,0,0)).toArray) ?_;refine zL ?_
      try refine GA ?_
      exact da (i:=1) rfl rfl rfl rfl rfl fun w hm=>hm.ret
    · rw[if_neg e1]
      repeat(first|refine GC ?_|refine gV (J (v:= .int .i64 (t:Int)) ak.ty rfl (ah (i:=2) rfl rfl)) ?_|refine gV (bL (b:=false) rfl rfl (decide_eq_false (by omega))) ?_|refine gV (az (i:=2) ak.ty rfl rfl rfl) ?_|refine GB ?_)
      refine fa 1 (cs':=(iI (r,fr,t)).toArray) ?_;refine zL ?_
      try refine GA ?_
      exact da (i:=1) rfl rfl rfl rfl rfl fun w hm=>hm.ret
end bK
end Go.Proofs.YtdmgcnggnejnnaaGreat

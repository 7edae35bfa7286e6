/- Part 3 of what SpecOne needs: CountU, LlL, TreeE, TreeP, ClimbO, DfS, PlacesL, PlacesM, PlacesS, DfaP, SortC, SortI, IntO, IntK, PlU, PlB, PlN, PlS, PlA, PlC, PlD, PlM, PlR, SmIe, BoE, PlE, PlP, PlK, PlT, DfN, DfT, PlacesG, ClassP, SmIn, MapE, BoolC, TreeS, FactsA. -/
import Derived.Test.YtldiodhdefnlaaaGreatMgB
import Derived.Lib.SlicesCompact
import Derived.Shelf.Sort.Plain
import Derived.Ground.Names2Prog
import Derived.Shelf.Slices.CompactI
import Derived.Shelf.Slices.In.SortNone
import Derived.Lib.RowBridge
namespace Go.Proofs.YtldiodhdefnlaaaGreat
set_option linter.unusedVariables false
set_option linter.unusedSimpArgs false
set_option maxHeartbeats 16000000
namespace qz
open av dg dj
def fE(l:List av.Prod)(w:List Int)(x:bY)(a b:Nat)(t:Tree):Prop:=eA l t x a/\fA l t x=cut w a b
def wF(l:List av.Prod)(w:List Int)(body:List bY)(a b:Nat)(ts:List Tree):Prop:=bZ l ts body a/\fz l ts body=cut w a b
theorem fE.leaves{l:List av.Prod}{w:List Int}{x:bY}{a b:Nat}{t:Tree}(h:fE l w x a b t)(lF:a<=b)(hb:b<=w.length):leaves t=b-a:=by
 rw[<-kI h.1,h.2,Hq lF hb]
theorem iB{l:List av.Prod}{w:List Int}{y:bY}{r:List bY}{a m b:Nat}{t:Tree}{ts:List Tree}(h1:fE l w y a m t)(h2:wF l w r m b ts)(ham:a<=m)(hmb:m<=b)(hb:b<=w.length):wF l w (y::r) a b (t::ts):=by
 have hl:=h1.leaves ham (by omega);refine⟨?_,?_⟩
 ·rw[bZ,hl,show a+(m-a)=m by omega];exact⟨h1.1,h2.1⟩
 ·rw[oe,h1.2,h2.2,pw ham hmb]
theorem CU{f:Nat->Nat}:∀{k:Nat},2<=cO f k->(∃i,i<k/\2<=f i)\/∃i j,i<j/\j<k/\0<f i/\0<f j
  |0,h=>by simp[cO]at h
  | k + 1,h=>by
    rw[cO]at h
    by_cases c:2<=f k
    · exact .inl ⟨k,by omega,c⟩
    · by_cases c2:2<=cO f k
      · rcases CU c2 with⟨i,h1,h2⟩|⟨i,j,h1,h2,h3⟩
        · exact .inl ⟨i,by omega,h2⟩
        · exact .inr ⟨i,j,h1,by omega,h3⟩
      · obtain⟨i,h1,h2⟩:=rB (f:=f) (k:=k) (by omega)
        exact .inr ⟨i,k,h1,by omega,h2,by omega⟩
section
variable{l:List av.Prod}{w:List Int}{o:bY->Nat->Nat->Nat}
theorem row_one:∀(body:List bY) (a b:Nat),a<=b->b<=w.length->(∀y∈body,∀i j,i<=j->j<=w.length->0<o y i j->∃t,fE l w y i j t)->0<jr o body a b->∃ts,wF l w body a b ts
 | [],a,b,lF,_,_,h=>by
  rw[jr]at h;have hE:a=b:=by
   by_cases c:a=b
   ·exact c
   ·rw[if_neg c]at h;omega
  subst hE;exact⟨[],by rw[bZ];trivial,by rw[wC];simp[fz,pT]⟩
 |y::r,a,b,lF,hb,ho,h=>by
  rw[jr]at h;obtain⟨i,h1,h2⟩:=rB h;have h2:0<o y a (a+i)*jr o r (a+i) b:=h2;obtain⟨t,ht⟩:=ho y (by simp) a (a+i) (by omega) (by omega) (Nat.pos_of_mul_pos_right h2);obtain⟨ts,Et⟩:=row_one r (a+i) b (by omega) hb (fun z hz=>ho z (by simp[hz])) (Nat.pos_of_mul_pos_left h2);exact⟨t::ts,iB ht Et (by omega) (by omega) hb⟩
theorem Hr:∀(body:List bY) (a b:Nat),a<=b->b<=w.length->(∀y∈body,∀i j,i<=j->j<=w.length->0<o y i j->∃t,fE l w y i j t)->(∀y∈body,∀i j,i<=j->j<=w.length->2<=o y i j->∃t t',t≠t'/\fE l w y i j t/\fE l w y i j t')->2<=jr o body a b->∃ts Uv,ts≠Uv/\wF l w body a b ts/\wF l w body a b Uv
  | [],a,b,_,_,_,_,h=>by
    rw[jr]at h;split at h<;>omega
  | y ::r,a,b,lF,hb,ho,ux,h=>by
    rw[jr]at h;have one:=fun i (hi:i<b-a+1) (h:0<o y a (a+i)*jr o r (a+i) b)=>(show ∃t ts,fE l w y a (a+i) t/\wF l w r (a+i) b ts from by
      obtain⟨t,ht⟩:=ho y (by simp) a (a+i) (by omega) (by omega) (Nat.pos_of_mul_pos_right h);obtain⟨ts,Et⟩:=row_one (w:=w) r (a+i) b (by omega) hb (fun z hz=>ho z (by simp[hz])) (Nat.pos_of_mul_pos_left h);exact⟨t,ts,ht,Et⟩)
    rcases CU h with⟨i,h1,h2⟩|⟨i,j,h1,h2,h3,h4⟩
    · have h2:2<=o y a (a+i)*jr o r (a+i) b:=h2
      obtain⟨t,ts,ht,Et⟩:=one i h1 (by omega)
      by_cases c:2<=o y a (a+i)
      · obtain⟨t1,t2,hne,k1,k2⟩:=ux y (by simp) a (a+i) (by omega) (by omega) c
        exact⟨t1::ts,t2::ts,fun e=>hne (by simpa using e),iB k1 Et (by omega) (by omega) hb,iB k2 Et (by omega) (by omega) hb⟩
      · have c2:2<=jr o r (a+i) b:=by
          apply Nat.le_of_not_lt;intro c2;have:=Nat.mul_le_mul (show o y a (a+i)<=1 by omega) (show jr o r (a+i) b<=1 by omega);omega
        obtain⟨t1,t2,hne,k1,k2⟩:=Hr r (a+i) b (by omega) hb (fun z hz=>ho z (by simp[hz])) (fun z hz=>ux z (by simp[hz])) c2;exact⟨t::t1,t::t2,fun e=>hne (by simpa using e),iB ht k1 (by omega) (by omega) hb,iB ht k2 (by omega) (by omega) hb⟩
    · have h3:0<o y a (a+i)*jr o r (a+i) b:=h3
      have h4:0<o y a (a+j)*jr o r (a+j) b:=h4;obtain⟨t,ts,ht,Et⟩:=one i (by omega) h3;obtain⟨t',Uv,OS,Yy⟩:=one j h2 h4;refine⟨t::ts,t'::Uv,fun e=>?_,iB ht Et (by omega) (by omega) hb,iB OS Yy (by omega) (by omega) hb⟩;simp only[List.cons.injEq]at e;have e1:=ht.leaves (by omega) (by omega);have e2:=OS.leaves (by omega) (by omega);rw[e.1]at e1;omega
end
theorem wH{o:bY->Nat->Nat->Nat}{a b n:Nat}:∀{l:List av.Prod},2<=lV o a b n l->(∃k,k<l.length/\(aQ l (k:Int)).1=(n:Int)/\2<=jP o (aQ l (k:Int)).2 a b)\/∃k k',k<k'/\k'<l.length/\(aQ l (k:Int)).1=(n:Int)/\0<jP o (aQ l (k:Int)).2 a b/\(aQ l (k':Int)).1=(n:Int)/\0<jP o (aQ l (k':Int)).2 a b
  |[],h=>by simp[lV]at h
  | p ::r,h=>by
    rw[lV]at h;have sh:∀k:Nat,aQ (p::r) ((k+1:Nat):Int)=aQ r (k:Int):=fun k=>rfl;have hc:(p.1=(n:Int)/\2<=jP o p.2 a b)\/(p.1=(n:Int)/\0<jP o p.2 a b/\0<lV o a b n r)\/2<=lV o a b n r:=by
      by_cases c:p.1=(n:Int)
      · rw[if_pos c]at h
        by_cases c2:2<=jP o p.2 a b
        · exact .inl ⟨c,c2⟩
        · by_cases c3:0<jP o p.2 a b
          · exact .inr (.inl ⟨c,c3,by omega⟩)
          · exact .inr (.inr (by omega))
      · rw[if_neg c,Nat.zero_add]at h
        exact .inr (.inr h)
    rcases hc with⟨c,c2⟩|⟨c,c2,c3⟩|c
    · exact .inl ⟨0,by simp,c,c2⟩
    · obtain⟨k,h1,h2,h3⟩:=rC (l:=r) (o:=o) (a:=a) (b:=b) (n:=n) c3
      exact .inr ⟨0,k+1,by omega,by simp;omega,c,c2,by rw[sh];exact h2,by rw[sh];exact h3⟩
    · rcases wH c with⟨k,h1,h2,h3⟩|⟨k,k',h1,h2,h3,h4,h5,h6⟩
      · exact .inl ⟨k+1,by simp;omega,by rw[sh];exact h2,by rw[sh];exact h3⟩
      · exact .inr ⟨k+1,k'+1,by omega,by simp;omega,by rw[sh];exact h3,by rw[sh];exact h4,by rw[sh];exact h5,by rw[sh];exact h6⟩
section
variable{w:List Int}{l:List av.Prod}{n:Nat}{c:dE}
theorem kL{k:Nat}{q a b:Nat}{ts:List Tree}(hk:k<l.length)(hq:(aQ l (k:Int)).1=(q:Int))(h:wF l w (aQ l (k:Int)).2 a b ts):fE l w (2,(q:Int)) a b (.mk (k:Int) 0 ts):=by
 refine⟨?_,?_⟩
 ·rw[eA];exact .inr ⟨by show(2:Int)≠1;decide,by omega,by omega,hq,rfl,h.1⟩
 ·unfold fA
  rw[if_neg (by show ¬(k:Int)<0;omega),kr];exact h.2
theorem Fb{y:bY}{a b:Nat}(hy:y.1=1)(hb:b=a+1)(h:w[a]?=some y.2):fE l w y a b (.mk (-1) (a:Int) []):=by
 obtain⟨h1,h2⟩:=List.getElem?_eq_some_iff.1 h;refine⟨by rw[eA];exact .inl ⟨hy,rfl,rfl,rfl⟩,?_⟩;unfold fA cut;rw[if_pos (by show(-1:Int)<0;decide),hb,show a+1-a=1 by omega,List.drop_eq_getElem_cons h1,h2];rfl
open Classical in
noncomputable def ju(l:List av.Prod)(w:List Int):dE:=fun x=>if ∃t t',t≠t'/\fE l w (2,x.1) x.2.1.toNat x.2.2.toNat t/\fE l w (2,x.1) x.2.1.toNat x.2.2.toNat t' then 2 else if ∃t,fE l w (2,x.1) x.2.1.toNat x.2.2.toNat t then 1 else 0
open Classical in
theorem Fc{q:Int}{a b:Nat}(h:0<ju l w (q,(a:Int),(b:Int))):∃t,fE l w (2,q) a b t:=by
 unfold ju at h;dsimp only at h;rw[Int.toNat_natCast,Int.toNat_natCast]at h;split at h
 ·rename_i h1;obtain⟨t,_,_,h2,_⟩:=h1;exact⟨t,h2⟩
 ·split at h
  ·assumption
  ·omega
open Classical in
theorem wI{q:Int}{a b:Nat}(h:2<=ju l w (q,(a:Int),(b:Int))):∃t t',t≠t'/\fE l w (2,q) a b t/\fE l w (2,q) a b t':=by
 unfold ju at h;dsimp only at h;rw[Int.toNat_natCast,Int.toNat_natCast]at h;split at h
 ·assumption
 ·split at h<;>omega
open Classical in
theorem Fe(hs:fN n l):sQ w l n (ju l w):=fun q i j hq k_ hj=>by
 have ho:∀p∈l,∀y∈p.2,∀i j,i<=j->j<=w.length->0<dX (ju l w) w y i j->∃t,fE l w y i j t:=fun p hp y hy i j h1 h2 h=>by
  unfold dX at h;rcases(hs p hp).2.2 y hy with e|⟨e,_⟩
  ·rw[if_neg (by omega)]at h
   split at h
   ·rename_i h3;exact⟨_,Fb e h3.1 h3.2⟩
   ·omega
  ·rw[if_pos e]at h
   obtain⟨y1,y2⟩:=y;dsimp only at e;subst e;exact Fc h
 have ux:∀p∈l,∀y∈p.2,∀i j,i<=j->j<=w.length->2<=dX (ju l w) w y i j->∃t t',t≠t'/\fE l w y i j t/\fE l w y i j t':=fun p hp y hy i j h1 h2 h=>by
  unfold dX at h;rcases(hs p hp).2.2 y hy with e|⟨e,_⟩
  ·rw[if_neg (by omega)]at h
   split at h<;>omega
  ·rw[if_pos e]at h
   obtain⟨y1,y2⟩:=y;dsimp only at e;subst e;exact wI h
 have two:2<=fD (dX (ju l w) w) l i j q->∃t t',t≠t'/\fE l w (2,(q:Int)) i j t/\fE l w (2,(q:Int)) i j t':=fun h=>by
  unfold fD at h;rcases wH (Nat.le_min.1 h).2 with⟨k,h1,h2,h3⟩|⟨k,k',h1,h2,h3,h4,h5,h6⟩
  ·have hm:=ep (l:=l) (p:=(k:Int)) (by omega) (by omega)
   rw[sR _ _ k_]at h3;obtain⟨ts,Uv,hne,k1,k2⟩:=Hr (w:=w) (l:=l) _ i j k_ hj (ho _ hm) (ux _ hm) (Nat.le_min.1 h3).2;exact⟨_,_,fun e=>hne (by simpa using e),kL h1 h2 k1,kL h1 h2 k2⟩
  ·have hm:=ep (l:=l) (p:=(k:Int)) (by omega) (by omega)
   have ml:=ep (l:=l) (p:=(k':Int)) (by omega) (by omega);rw[sR _ _ k_]at h4 h6;obtain⟨ts,k1⟩:=row_one (w:=w) (l:=l) _ i j k_ hj (ho _ hm) (Nat.lt_min.1 h4).2;obtain⟨Uv,k2⟩:=row_one (w:=w) (l:=l) _ i j k_ hj (ho _ ml) (Nat.lt_min.1 h6).2;refine⟨_,_,fun e=>?_,kL (by omega) h3 k1,kL h2 h5 k2⟩;simp only[Tree.mk.injEq]at e;omega
 have one:0<fD (dX (ju l w) w) l i j q->∃t,fE l w (2,(q:Int)) i j t:=fun h=>by
  unfold fD at h;obtain⟨k,h1,h2,h3⟩:=rC (Nat.lt_min.1 h).2;have hm:=ep (l:=l) (p:=(k:Int)) (by omega) (by omega);rw[sR _ _ k_]at h3;obtain⟨ts,k1⟩:=row_one (w:=w) (l:=l) _ i j k_ hj (ho _ hm) (Nat.lt_min.1 h3).2;exact⟨_,kL h1 h2 k1⟩
 have hle:=ph (dX (ju l w) w) l i j q;show fD (dX (ju l w) w) l i j q<=(if ∃t t',t≠t'/\fE l w (2,(q:Int)) (i:Int).toNat (j:Int).toNat t/\fE l w (2,(q:Int)) (i:Int).toNat (j:Int).toNat t' then 2 else if ∃t,fE l w (2,(q:Int)) (i:Int).toNat (j:Int).toNat t then 1 else 0)
 rw[Int.toNat_natCast,Int.toNat_natCast];generalize fD (dX (ju l w) w) l i j q=N at*
 by_cases c2:2<=N
 ·rw[if_pos (two c2)];exact hle
 ·split
  ·omega
  ·by_cases c1:0<N
   ·rw[if_pos (one c1)];omega
   ·omega
end
theorem zh{g:df}{w:List Int}(h:2<=jX g w):∃t t',t≠t'/\eA g.ag t (2,0) 0/\eO g.ag t=w/\eA g.ag t' (2,0) 0/\eO g.ag t'=w:=by
  unfold jX at h;split at h
  · rename_i gD
    obtain⟨hg,_,_⟩:=ku gD;obtain⟨_,_,a3,_⟩:=bI hg;have hs:=pq (n:=g.aR.toNat) hg (by omega);have hl:=(tv (w:=w) hs.aR).least _ (Fe hs) 0 0 w.length (by omega) (Nat.zero_le _) (Nat.le_refl _);have hl:jG w g.ag g.aR.toNat (0,0,(w.length:Int))<=ju g.ag w (0,((0:Nat):Int),(w.length:Int)):=hl;obtain⟨t,t',hne,h1,h2⟩:=wI (Nat.le_trans h hl);have hy:∀t,fE g.ag w (2,0) 0 w.length t->eO g.ag t=w:=fun t h=>by
      have hp:0<=t.prod:=by
        obtain⟨p,k,kids⟩:=t;have h1:=h.1;rw[eA]at h1;rcases h1 with⟨e,_⟩|⟨_,e,_⟩
        · cases e
        · exact e
      have h2:=h.2;unfold fA at h2;rw[if_neg (by omega),AS rfl]at h2;exact h2
    exact⟨t,t',hne,h1.1,hy t h1,h2.1,hy t' h2⟩
  · omega
end qz
namespace ue
open av dg dj b9 qz
abbrev Cl:=Int×Int×Int×Int
def AV(T eJ:Nat):Nat:=if eJ=T then 9223372036854775808 else 2^eJ
section
variable(l:List av.Prod)(may:Nat->Nat)(T:Nat)
def lI(n eJ i:Nat):Bool:=decide ((aQ l (i:Int)).1=(n:Int))&&!decide ((may i&&&AV T eJ)=0)
def dP(n eJ:Nat):Nat->Int
 |0=> -1
 |k+1=>if dP n eJ k<0 then(if lI l may T n eJ k=true then(k:Int)else dP n eJ k)else dP n eJ k
def ot(n eJ:Nat):Nat->List Cl->List Cl
 |0,out=>out
 |k+1,out=>if lI l may T n eJ k=true then(if dP l may T n eJ k<0 then ot n eJ k out else ot n eJ k out++[((n:Int),(eJ:Int),dP l may T n eJ k,(k:Int))])else ot n eJ k out
def rK(n:Nat):Nat->List Cl->List Cl
 |0,out=>out
 |c+1,out=>ot l may T n c l.length (rK n c out)
def gU:Nat->List Cl
 |0=>[]
 |n+1=>rK l may T n (T+1) (gU n)
def rowAt(n eJ:Nat):Int:=dP l may T n eJ l.length
end
section
variable{l:List av.Prod}{may:Nat->Nat}{T:Nat}
theorem rL(n eJ:Nat):∀k,-1<=dP l may T n eJ k/\dP l may T n eJ k<(k:Int)
 |0=>⟨by rw[dP];omega,by rw[dP];omega⟩
 |k+1=>by
  have:=rL n eJ k;rw[dP];split
  ·split<;>omega
  ·omega
theorem wJ(n eJ:Nat):∀k,k<=l.length->0<=dP l may T n eJ k->(aQ l (dP l may T n eJ k)).1=(n:Int)
  |0,_,h=>by rw[dP]at h;omega
  | k + 1,hk,h=>by
    have ih:=wJ n eJ k (by omega);rw[dP]at h⊢;split at h
    · split at h
      · rename_i c1 c2
        rw[if_pos c1,if_pos c2];unfold lI at c2;rw[Bool.and_eq_true,decide_eq_true_iff]at c2;exact c2.1
      · omega
    · rename_i c1
      rw[if_neg c1];exact ih h
theorem sT(n eJ:Nat):∀(k:Nat) (out:List Cl),ot l may T n eJ k out=[]->out=[]/\∀i,i<k->lI l may T n eJ i=true->dP l may T n eJ k=(i:Int)
  |0,out,h=>⟨h,fun i h=>by omega⟩
  | k + 1,out,h=>by
    rw[ot]at h
    by_cases c:lI l may T n eJ k=true
    · rw[if_pos c]at h
      by_cases c2:dP l may T n eJ k<0
      · rw[if_pos c2]at h
        obtain⟨h1,h2⟩:=sT n eJ k out h;refine⟨h1,fun i hi hc=>?_⟩;rw[dP,if_pos c2,if_pos c]
        by_cases e:i=k
        · rw[e]
        · have:=h2 i (by omega) hc;omega
      · rw[if_neg c2]at h
        simp at h
    · rw[if_neg c]at h
      obtain⟨h1,h2⟩:=sT n eJ k out h;refine⟨h1,fun i hi hc=>?_⟩;have hik:i<k:=by
        by_cases e:i=k
        · subst e;exact absurd hc c
        · omega
      have:=h2 i hik hc;rw[dP,if_neg (by omega)];exact this
theorem zi(n:Nat):∀(c:Nat) (out:List Cl),rK l may T n c out=[]->out=[]/\∀eJ,eJ<c->∀i,i<l.length->lI l may T n eJ i=true->rowAt l may T n eJ=(i:Int)
 |0,out,h=>⟨h,fun i h=>by omega⟩
 |c+1,out,h=>by
  rw[rK]at h;obtain⟨h1,h2⟩:=sT n c _ _ h;obtain⟨h3,h4⟩:=zi n c out h1;refine⟨h3,fun eJ hc i hi Rm=>?_⟩
  by_cases e:eJ=c
  ·subst e;exact h2 i hi Rm
  ·exact h4 eJ (by omega) i hi Rm
theorem zj:∀(N:Nat),gU l may T N=[]->∀n,n<N->∀eJ,eJ<T+1->∀i,i<l.length->lI l may T n eJ i=true->rowAt l may T n eJ=(i:Int)
 |0,_,n,h=>by omega
 |N+1,h,n,hn=>by
  rw[gU]at h;obtain⟨h1,h2⟩:=zi N _ _ h
  by_cases e:n=N
  ·subst e;exact h2
  ·exact zj N h1 n (by omega)
end
def ea(T:Nat)(w:List Int)(a:Nat):Nat:=if a<w.length then(w.getD a 0).toNat else T
section
variable(l:List av.Prod)(nx:Int->Nat->Int)
mutual
def Ff:Tree->Nat->Prop
 | .mk p _ kids,a=>nx (aQ l p).1 a=p/\CV kids a
def CV:List Tree->Nat->Prop
 |[],_=>True
 | .mk p k kk::r,a=>(p<0\/Ff (.mk p k kk) a)/\CV r (a+leaves (.mk p k kk))
end
end
section
variable{l:List av.Prod}{nx:Int->Nat->Int}
mutual
theorem LV:∀{t t':Tree} {x:bY} {a:Nat},eA l t x a->eA l t' x a->(0<=t.prod->Ff l nx t a)->(0<=t'.prod->Ff l nx t' a)->t=t'
  | .mk p k kids,.mk p' k' aaf,x,a,h,h',hd,yC=>by
    rw[eA]at h h';rcases h with⟨a1,a2,a3,a4⟩|⟨a1,a2,a3,a4,a5,a6⟩
    · rcases h' with⟨b1,b2,b3,b4⟩|⟨b1,_⟩
      · rw[a2,a3,a4,b2,b3,b4]
      · exact absurd a1 b1
    · rcases h' with⟨b1,_⟩|⟨b1,b2,b3,b4,b5,b6⟩
      · exact absurd b1 a1
      · have hd:=hd a2
        have yC:=yC b2;rw[Ff]at hd yC;have hp:p=p':=by rw[<-hd.1,<-yC.1,a4,b4]
        subst hp;rw[a5,b5,Hs a6 b6 hd.2 yC.2]
theorem Hs:∀{ks Yz:List Tree} {b:List bY} {a:Nat},bZ l ks b a->bZ l Yz b a->CV l nx ks a->CV l nx Yz a->ks=Yz
 |[],[],[],_,_,_,_,_=>rfl
 | .mk p k kk::r,.mk p' k' kk'::r',y::b,a,h,h',hd,yC=>by
  rw[bZ]at h h';rw[CV]at hd yC;have e:Tree.mk p k kk=Tree.mk p' k' kk':=LV h.1 h'.1 (fun hp=>hd.1.resolve_left (by have hp:0<=p:=hp;omega)) (fun hp=>yC.1.resolve_left (by have hp:0<=p':=hp;omega));rw[<-e]at h' yC;rw[<-e,Hs h.2 h'.2 hd.2 yC.2]
 |[],_::_,[],_,_,h,_,_=>by simp[bZ]at h
 |_::_,_,[],_,h,_,_,_=>by simp[bZ]at h
 |[],_,_::_,_,h,_,_,_=>by simp[bZ]at h
 |_::_,[],_::_,_,_,h,_,_=>by simp[bZ]at h
end
end
section
variable{l:List av.Prod}{n:Nat}{E R M:List Bool}{F W:List Nat}{w:List Int}{may:Nat->Nat}{T:Nat}
theorem O7{x b:Nat}(h:x.testBit b=true):(x&&&2^b)≠0:=fun e=>by
 have:=congrArg (fun y=>Nat.testBit y b) e;simp only[Nat.testBit_and,h,Nat.testBit_two_pow_self,Bool.and_self,Nat.zero_testBit]at this
 cases this
theorem O8(hw:∀x∈w,0<=x/\x<(T:Int))(a:Nat):AV T (ea T w a)=2^kK w a:=by
 unfold AV ea kK
 by_cases c:a<w.length
 ·have:=hw _ (List.getElem_mem c)
  have e:w.getD a 0=w[a]:=by rw[List.getD_eq_getElem?_getD,List.getElem?_eq_getElem c];rfl
  rw[if_pos c,if_pos c,e,if_neg (by omega)]
 ·rw[if_neg c,if_neg c,if_pos rfl]
mutual
theorem LW(hC:hJ l E F W R M)(hs:fN n l)(hT:T<=30)(hw:∀x∈w,0<=x/\x<(T:Int))(hm:∀i,i<l.length->may i=cP E F (aQ l (i:Int)).2 (W.getD (aQ l (i:Int)).1.toNat 0))(hn:∀q,q<n->∀eJ,eJ<T+1->∀i,i<l.length->lI l may T q eJ i=true->rowAt l may T q eJ=(i:Int)):
    ∀{t:Tree} {x:bY} {u a:Nat},eA l t x u->0<=t.prod->zf l E F W R M w t a->(∃r,w.drop a=eO l t++r)->Ff l (fun h a=>rowAt l may T h.toNat (ea T w a)) t a
  | .mk p k kids,x,u,a,h,hp,hl,⟨r,hr⟩=>by
    have hp:0<=p:=hp;obtain⟨a1,a2,a3,a4,a5⟩:=pv h hp;rw[zf]at hl;rw[kr]at hr;obtain⟨x8,_,_,hW,_⟩:=hl;obtain⟨pn,rfl⟩:∃pn:Nat,p=pn:=⟨p.toNat,by omega⟩;have tF:pn<l.length:=by omega
    obtain⟨s1,s2,s3⟩:=hs _ (ep hp a2);rw[Ff];refine⟨hn _ (by omega) _ ?_ pn tF ?_,Ht hC hs hT hw hm hn a5 x8 ⟨r,hr⟩⟩
    · unfold ea
      split
      · rename_i c
        have:=hw _ (List.getElem_mem c);have e:w.getD a 0=w[a]:=by rw[List.getD_eq_getElem?_getD,List.getElem?_eq_getElem c];rfl
        rw[e];omega
      · omega
    · unfold lI
      rw[Bool.and_eq_true,decide_eq_true_iff];refine⟨by omega,?_⟩;have hb:=mq hC a5 ⟨r,hr⟩ (W.getD (aQ l (pn:Int)).1.toNat 0) 0 fun h0=>by rw[h0,Nat.add_zero]at hW;exact hW
      rw[O8 hw,hm pn tF];have:=O7 hb;unfold cP
      simpa using this
theorem Ht(hC:hJ l E F W R M)(hs:fN n l)(hT:T<=30)(hw:∀x∈w,0<=x/\x<(T:Int))(hm:∀i,i<l.length->may i=cP E F (aQ l (i:Int)).2 (W.getD (aQ l (i:Int)).1.toNat 0))(hn:∀q,q<n->∀eJ,eJ<T+1->∀i,i<l.length->lI l may T q eJ i=true->rowAt l may T q eJ=(i:Int)):
  ∀{ks:List Tree} {b:List bY} {u a:Nat},bZ l ks b u->wB l E F W R M w ks a->(∃r,w.drop a=fz l ks b++r)->CV l (fun h a=>rowAt l may T h.toNat (ea T w a)) ks a
 |[],[],_,_,_,_,_=>by rw[CV];trivial
 | .mk p k kk::ks,y::b,u,a,h,hl,⟨r,hr⟩=>by
  rw[bZ]at h;rw[wB]at hl;rw[oe,List.append_assoc]at hr;have hlen:=kI h.1;have l_:w.drop (a+leaves (.mk p k kk))=fz l ks b++r:=by rw[<-List.drop_drop,hr,<-hlen,List.drop_left]
  rw[CV];refine⟨?_,Ht hC hs hT hw hm hn h.2 hl.2 ⟨r,l_⟩⟩
  by_cases c:p<0
  ·exact .inl c
  ·have hx:fA l (.mk p k kk) y=eO l (.mk p k kk):=by unfold fA;rw[if_neg (show ¬(Tree.mk p k kk).prod<0 from c)]
   rw[hx]at hr;exact .inr (LW hC hs hT hw hm hn h.1 (by show 0<=p;omega) (hl.1.resolve_left c) ⟨_,hr⟩)
 |[],_::_,_,_,h,_,_=>by simp[bZ]at h
 |_::_,[],_,_,h,_,_=>by simp[bZ]at h
end
end
end ue
namespace dg
open av
def evU:OZ->Option bY
 | .ahead _=>none
 | .leaf _ q=>some (2,q)
 | .behind p=>some (4,p)
def YA(l:List av.Prod)(t:Tree):List bY:=(rv l t).filterMap evU
end dg
namespace dg
open av
theorem O9(l:List av.Prod)(p k:Int)(kids:List Tree):rv l (.mk p k kids)= .ahead p::(pT l kids (aQ l p).2++[.behind p]):=by rw[rv]
end dg
namespace bH
open Go.RowKit bL db av dg
theorem O_{P:Program}{n:Nat}{W:bB}{fr:Fr}{L:List bz}{dst:Option Tmp}{t ty:TypeId}{pos:String}{after:Array Edge}{guard:Option (Nat×Bool)}{x:Operand}{f:Nat}{v u:Value}(hx:ev fr x=some v)(h:∀w,(Instr.field t v f).run P w= .ok u w):RR P n W ⟨dst,.field t x f,ty,pos,after,guard⟩ fr L u:= .mk fun a w hr _=>by
 simp[execOp,hr.ev hx,h]
end bH
namespace bH
open Go.RowKit bL db bO
theorem LX{j:Nat}(hj:j<64):2^j<18446744073709551616:=by
 have:=Nat.pow_lt_pow_right (a:=2) (by decide) hj
 rwa [show(2:Nat)^64=18446744073709551616 from rfl]at this
theorem YB{P:Program}(j:Nat)(hj:j<64)(w:World):(Op.shift .shl .u64 1 .i64 (j:Int)).run P w= .ok (.int .u64 ((2^j:Nat):Int)) w:=by
 have e:min j 64=j:=by omega
 have e2:(2:Int)^j=((2^j:Nat):Int):=by rw[Int.natCast_pow];rfl
 have e3:IntKind.u64.wrap ((1:Int)*2^j)=((2^j:Nat):Int):=by
  have:=LX hj;rw[e2,IntKind.wrap_u64,Int.one_mul];generalize 2^j=y at*;omega
 have h0:¬((j:Int)<0):=by omega
 simp only[Op.shift,if_neg h0,IntKind.bits,Int.toNat_natCast,e,e3,Sem.run_pure]
theorem CW:∀b:Nat,b<256->bits .and .i64 (b:Int) 63=((b %64:Nat):Int):=by decide+kernel
theorem LY(c:C4)(i:Nat)(h:i<4):(cC c).toArray[i]?=some (.int .u64 ((c.get i).toNat:Int)):=vW c i h
theorem LZ(c:C4)(i:Nat)(h:i<4)(v:BitVec 64):(cC c).toArray.setIfInBounds i (.int .u64 (v.toNat:Int))=(cC (c.set i v)).toArray:=by
 match i,h with
 |0,_=>rfl
 |1,_=>rfl
 |2,_=>rfl
 |3,_=>rfl
attribute [local irreducible] Op.shift Go.bits in
theorem nc(c:C4)(b:Nat)(hb:b<256)(w:World):Calls Tryz.prog 68 #[kh c,.int .i64 (b:Int)] w (bU (ret (.bool (c.mem b))) w):=by
 refine enter (args:=[.agg #[v64 c.a,v64 c.b,v64 c.c,v64 c.d],.int .i64 (b:Int)]) (n:=14) Tryz.func68 rfl rfl rfl ?_;refine bJ (aV (bK rfl rfl rfl fun g=>?_));have h1:b/64<4:=by omega
 have hc:(#[v64 c.a,v64 c.b,v64 c.c,v64 c.d]:Array Value)[0+b/64]?=some (.int .u64 ((c.get (b/64)).toNat:Int)):=by rw[Nat.zero_add];exact vW c _ h1
 have hx:=(c.get (b/64)).isLt;have uz:∀w,(Op.shift .shr .i64 (b:Int) .u64 6).run Tryz.prog w= .ok (.int .i64 ((b/64:Nat):Int)) w:=fun w=>Lr b 6 64 .i64 .u64 rfl (by decide) w;have Ra:∀w,(Op.shift .shr .u64 ((c.get (b/64)).toNat:Int) .i64 ((b %64:Nat):Int)).run Tryz.prog w= .ok (.int .u64 (((c.get (b/64)).toNat/2^(b %64):Nat):Int)) w:=fun w=>Lr _ (b %64) 64 .u64 .i64 rfl (by omega) w;have hm:c.mem b=decide ((c.get (b/64)).toNat/2^(b %64) %2=1):=by unfold C4.mem;rw[Nat.testBit_eq_decide_div_mod_eq]
 rw[hm];have hd:(c.get (b/64)).toNat/2^(b %64)<=(c.get (b/64)).toNat:=Nat.div_le_self _ _;have pF:=CW b hb;generalize (c.get (b/64)).toNat=x at*;generalize b %64=k at*;generalize b/64=i at*;generalize x/2^k=y at*;have ha:bits .and .u64 (y:Int) 1=((y %2:Nat):Int):=by
  have:=bits_and_u64_nat y 1 (by omega) (by decide);rw[Nat.and_one_is_mod]at this;exact this
 repeat(first|refine GC ?_|refine gV (kB rfl rfl uz) ?_|refine gV (eL aT.eq ak.ty rfl rfl h1) ?_|refine gV (J ak.ty rfl (ah (i:=0) rfl hc)) ?_|refine gV (jn rfl rfl pF) ?_|refine gV (kB rfl rfl Ra) ?_|refine gV (jn rfl rfl ha) ?_|refine gV (cJ rfl rfl rfl) ?_|refine GB ?_)
 exact dh rfl rfl (by congr 1;rw[decide_eq_decide];omega)
attribute [local irreducible] Op.shift Go.bits in
theorem nf(c:C4)(b:Nat)(hb:b<256)(g:Nat)(w:World)(B:bB)(hm:Mem B [ap g (cC c).toArray 180] w):
 Calls Tryz.prog 70 #[.pointer (some ⟨g,0,none⟩),.int .i64 (b:Int)] w (dc ⟨fun(_:Unit)=>True,fun _=> .tuple #[],fun _=>[ap g (cC (c.bit b)).toArray 180]⟩ B):=by
 refine eg hm (args:=[.pointer (some ⟨g,0,none⟩),.int .i64 (b:Int)]) (n:=16) Tryz.func70 rfl rfl rfl ?_;clear hm;have h1:b/64<4:=by omega
 have hc:(cC c).toArray[0+b/64]?=some (.int .u64 ((c.get (b/64)).toNat:Int)):=by rw[Nat.zero_add];exact LY c _ h1
 have uz:∀w,(Op.shift .shr .i64 (b:Int) .u64 6).run Tryz.prog w= .ok (.int .i64 ((b/64:Nat):Int)) w:=fun w=>Lr b 6 64 .i64 .u64 rfl (by decide) w;have pF:=CW b hb;have ON:=YB (P:=Tryz.prog) (b %64) (by omega);have pG:=LZ c (b/64) h1 (c.get (b/64)|||BitVec.ofNat 64 (2^(b %64)));have Pa:c.bit b=c.set (b/64) (c.get (b/64)|||BitVec.ofNat 64 (2^(b %64))):=rfl;rw[<-Pa]at pG;have BV:bits .or .u64 ((c.get (b/64)).toNat:Int) ((2^(b %64):Nat):Int)=(((c.get (b/64))|||BitVec.ofNat 64 (2^(b %64))).toNat:Int):=by
  have hp:=LX (j:=b %64) (by omega);rw[bits_or_u64_nat _ _ (c.get (b/64)).isLt hp,BitVec.toNat_or,BitVec.toNat_ofNat,Nat.mod_eq_of_lt hp]
 have hm0:b %64<64:=by omega
 generalize c.get (b/64)|||BitVec.ofNat 64 (2^(b %64))=z at*
 generalize (c.get (b/64)).toNat=x at*;generalize 2^(b %64)=y at*;generalize b %64=k at*;generalize b/64=i at*;generalize c.bit b=c' at*;have hsz:Nat.blt (0+i) (cC c).toArray.size=true:=by rw[Nat.blt_eq];show 0+i<4;omega
 rw[<-Nat.zero_add i]at pG;refine dw ([]) (.calm 0 (.calm 1 (.calm 2 (.calm 3 (.calm 4 (.calm 6 (.calm 7 (.calm 8 (.calm 10 (.one 5 (.calm 9 (.calm 11 (.one 12 (.done)))))))))))))) (bC []) ?_
 repeat(first|refine GW ?_|(refine GN ?_;first|refine QW (kB rfl rfl uz) ?_|refine QW (eL aT.eq ak.ty rfl rfl h1) ?_|refine QW (jn rfl rfl pF) ?_|refine QW (uZ rfl rfl ON) ?_))
 refine az rfl (cI (J ak.ty rfl (ah (i:=0) rfl hc)) rfl rfl rfl (aw (bC []) ?_))
 repeat(first|refine GW ?_|(refine GN ?_;first|refine QW (qW rfl rfl BV) ?_|refine QW (eL aT.eq ak.ty rfl rfl h1) ?_))
 refine az rfl (bD (i:=0) rfl rfl rfl rfl rfl hsz (aw (bC []) ?_))
 try refine GW ?_
 try refine GA ?_
 exact sC rfl fun w hm=>hm.bV (S:=⟨fun(_:Unit)=>True,fun _=> .tuple #[],fun _=>[ap g (cC c').toArray 180]⟩) () trivial [0] (by decide) (by rw[<-pG];rfl)
end bH
namespace cV
open bO d_ Go.Lib
def ow(l:List Int):List Int:=l.mergeSort fun x y=>decide (x<=y)
def lX(a b:List Int):List Int:=compact (ow (a++b))
theorem AW(l:List Int):(ow l).Pairwise (· <= ·):=by
 have:=List.pairwise_mergeSort (le:=fun x y:Int=>decide (x<=y)) (fun a b c=>by simp;omega) (fun a b=>by simp;omega) l;exact this.imp (by simp)
theorem nE{d:Array Int}(hs:∀i j,i<=j->j<d.size->d[i]! <=d[j]!):∀m,m<=d.size->(compactUpTo d m).Pairwise (· < ·)/\(∀x,x∈compactUpTo d m↔∃j,j<m/\d[j]! =x)
  |0,_=>⟨by unfold compactUpTo;simp,fun x=>by unfold compactUpTo;simp⟩
  | m + 1,hm=>by
    obtain⟨h1,h2⟩:=nE hs m (by omega);rw[compactUpTo_succ]
    by_cases hk:keeps d m=true
    · rw[if_pos hk]
      have jD:m=0\/d[m]! ≠d[m-1]! :=by unfold keeps at hk;simpa using hk
      refine⟨List.pairwise_append.2 ⟨h1,List.pairwise_singleton _ _,fun x hx y hy=>?_⟩,fun x=>?_⟩
      · rw[List.mem_singleton.1 hy]
        obtain⟨j,hj,rfl⟩:=(h2 x).1 hx;have a1:=hs j (m-1) (by omega) (by omega);have a2:=hs (m-1) m (by omega) (by omega);rcases jD with h0|h0
        · omega
        · omega
      · rw[List.mem_append,List.mem_singleton,h2]
        constructor
        · rintro(⟨j,hj,rfl⟩|rfl)
          · exact⟨j,by omega,rfl⟩
          · exact⟨m,by omega,rfl⟩
        · rintro⟨j,hj,rfl⟩
          by_cases c:j=m
          · subst c;exact .inr rfl
          · exact .inl ⟨j,by omega,rfl⟩
    · rw[if_neg hk,List.append_nil]
      refine⟨h1,fun x=>?_⟩;rw[h2]
      constructor
      · rintro⟨j,hj,rfl⟩;exact⟨j,by omega,rfl⟩
      · rintro⟨j,hj,rfl⟩
        by_cases c:j=m
        · subst c
          have jD:¬(j=0\/d[j]! ≠d[j-1]!):=by unfold keeps at hk;simpa using hk
          have e:d[j]! =d[j-1]! :=by
            rcases Classical.em (d[j]! =d[j-1]!)with h|h
            · exact h
            · exact absurd (.inr h) jD
          have:j≠0:=fun h=>jD (.inl h);exact⟨j-1,by omega,e.symm⟩
        · exact⟨j,by omega,rfl⟩
theorem Fg{l:List Int}(h:l.Pairwise (· <= ·)):∀i j,i<=j->j<l.toArray.size->l.toArray[i]! <=l.toArray[j]! :=by
 intro i j k_ hj;have k9:j<l.length:=by simpa using hj
 rw[getElem!_pos l.toArray i (by simp;omega),getElem!_pos l.toArray j hj]
 by_cases c:i=j
 ·subst c;exact Int.le_refl _
 ·exact List.pairwise_iff_getElem.1 h i j (by omega) k9 (by omega)
theorem uF(a b:List Int):(lX a b).Pairwise (· < ·)/\∀x,x∈lX a b↔x∈a\/x∈b:=by
 have hs:=Fg (AW (a++b));obtain⟨h1,h2⟩:=nE hs (ow (a++b)).length (by simp);refine⟨h1,fun x=>?_⟩;unfold lX compact;rw[h2,<-List.mem_append,<-List.mem_mergeSort (l:=a++b) (le:=fun x y:Int=>decide (x<=y))];show _↔x∈ow (a++b)
 rw[List.mem_iff_getElem]
 constructor
 ·rintro⟨j,hj,rfl⟩;exact⟨j,hj,by rw[getElem!_pos _ j (by simpa using hj)];rfl⟩
 ·rintro⟨j,hj,rfl⟩;exact⟨j,hj,by rw[getElem!_pos _ j (by simpa using hj)];rfl⟩
def zk(n:Nat)(l:List Int):Prop:=l.Pairwise (· < ·)/\∀x∈l,0<=x/\x<n
theorem fO{n:Nat}{l:List Int}(h:zk n l):l.length<=n:=by
 have key:∀(l:List Int) (lo:Int),l.Pairwise (· < ·)->(∀x∈l,lo<=x/\x<n)->lo<=n->(l.length:Int)<=n-lo:=by
  intro l
  induction l with
  |nil=>intro lo _ _ h;show(0:Int)<=_;omega
  |cons x r ih=>
   intro lo hp hx _;rw[List.pairwise_cons]at hp;have h1:=hx x (List.mem_cons_self ..);have:=ih (x+1) hp.2 (fun y hy=>⟨by have:=hp.1 y hy;omega,(hx y (List.mem_cons_of_mem _ hy)).2⟩) (by omega);rw[List.length_cons];omega
 have:=key l 0 h.1 h.2 (by omega);omega
theorem px(n:Nat):zk n []:=⟨List.Pairwise.nil,fun x h=>by cases h⟩
theorem jR{n m:Nat}{l:List Int}(h:zk n l)(hm:n<=m):zk m l:=⟨h.1,fun x hx=>by have:=h.2 x hx;omega⟩
theorem ng{n:Nat}{a b:List Int}(ha:∀x∈a,0<=x/\x<n)(hb:∀x∈b,0<=x/\x<n):zk n (lX a b):=
 ⟨(uF a b).1,fun x hx=>((uF a b).2 x|>.1 hx).elim (ha x) (hb x)⟩
theorem wK:∀{a b:List Int},a.Pairwise (· < ·)->b.Pairwise (· < ·)->(∀x,x∈a↔x∈b)->a=b
  |[],[],_,_,_=>rfl
  |[],y::b,_,_,h=>by have:=(h y).2 (List.mem_cons_self ..);cases this
  |x::a,[],_,_,h=>by have:=(h x).1 (List.mem_cons_self ..);cases this
  | x ::a,y::b,ha,hb,h=>by
    rw[List.pairwise_cons]at ha hb;have Vj:x=y:=by
      rcases List.mem_cons.1 ((h x).1 (List.mem_cons_self ..))with e|e
      · exact e
      · rcases List.mem_cons.1 ((h y).2 (List.mem_cons_self ..))with e'|e'
        · exact e'.symm
        · have h1:=hb.1 x e
          have h2:=ha.1 y e';omega
    subst Vj;rw[wK ha.2 hb.2 fun z=>?_]
    constructor
    · intro hz
      rcases List.mem_cons.1 ((h z).1 (List.mem_cons_of_mem _ hz))with e|e
      · subst e;exact absurd (ha.1 z hz) (by omega)
      · exact e
    · intro hz
      rcases List.mem_cons.1 ((h z).2 (List.mem_cons_of_mem _ hz))with e|e
      · subst e;exact absurd (hb.1 z hz) (by omega)
      · exact e
structure PS where
 aC:List C4
 rules:List Int
 follow:List (List Int)
 last:List Bool
structure Shape where
 empty:Bool
 first:List Int
 last:List Int
def dD(jj:List (List Int))(last first:List Int):List (List Int):=last.foldl (fun f x=>f.set x.toNat (lX (f.getD x.toNat []) first)) jj
def a_(aL:Int):Re->PS->Shape×PS
  | .empty,p=>(⟨true,[],[]⟩,p)
  | .none,p=>(⟨false,[],[]⟩,p)
  | .byte c,p=>(⟨false,[(p.aC.length:Int)],[(p.aC.length:Int)]⟩,⟨p.aC++[c],p.rules++[aL],p.follow++[[]],p.last++[false]⟩)
  | .star a,p=>(⟨true,(a_ aL a p).1.first,(a_ aL a p).1.last⟩,{(a_ aL a p).2 with follow:=dD (a_ aL a p).2.follow (a_ aL a p).1.last (a_ aL a p).1.first})
  | .Az a b,p=>(⟨(a_ aL a p).1.empty||(a_ aL b (a_ aL a p).2).1.empty,lX (a_ aL a p).1.first (a_ aL b (a_ aL a p).2).1.first,lX (a_ aL a p).1.last (a_ aL b (a_ aL a p).2).1.last⟩,(a_ aL b (a_ aL a p).2).2)
  | .Ay a b,p=>
    (⟨(a_ aL a p).1.empty&&(a_ aL b (a_ aL a p).2).1.empty,
      if(a_ aL a p).1.empty then lX (a_ aL a p).1.first (a_ aL b (a_ aL a p).2).1.first else(a_ aL a p).1.first,
      if(a_ aL b (a_ aL a p).2).1.empty then lX (a_ aL a p).1.last (a_ aL b (a_ aL a p).2).1.last else(a_ aL b (a_ aL a p).2).1.last⟩,
     {(a_ aL b (a_ aL a p).2).2 with follow:=dD (a_ aL b (a_ aL a p).2).2.follow (a_ aL a p).1.last (a_ aL b (a_ aL a p).2).1.first})
structure CX(p:PS):Prop where
 rules:p.rules.length=p.aC.length
 follow:p.follow.length=p.aC.length
 last:p.last.length=p.aC.length
 Rn:∀l∈p.follow,zk p.aC.length l
theorem gX(jj:List (List Int))(last first:List Int):(dD jj last first).length=jj.length:=by
 unfold dD
 induction last generalizing jj with
 |nil=>rfl
 |cons x r ih=>rw[List.foldl_cons,ih,List.length_set]
theorem nh{n:Nat}{first:List Int}(hf:∀x∈first,0<=x/\x<n):∀(last:List Int) (jj:List (List Int)),(∀l∈jj,zk n l)->∀l∈dD jj last first,zk n l
  |[],jj,h=>h
  | x ::r,jj,h=>by
    show ∀l∈dD (jj.set x.toNat (lX (jj.getD x.toNat []) first)) r first,zk n l
    refine nh hf r _ fun l hl=>?_;rcases List.mem_or_eq_of_mem_set hl with hl|rfl
    · exact h l hl
    · refine ng (fun y hy=>?_) hf
      by_cases c:x.toNat<jj.length
      · rw[List.getD_eq_getElem?_getD,List.getElem?_eq_getElem c]at hy
        exact(h _ (List.getElem_mem c)).2 y hy
      · rw[List.getD_eq_getElem?_getD,List.getElem?_eq_none (by omega)]at hy
        cases hy
theorem iq(aL:Int):∀(e:Re) (p:PS),CX p->CX (a_ aL e p).2/\p.aC.length<=(a_ aL e p).2.aC.length/\(a_ aL e p).2.aC.length<=p.aC.length+e.size/\zk (a_ aL e p).2.aC.length (a_ aL e p).1.first/\zk (a_ aL e p).2.aC.length (a_ aL e p).1.last
 | .empty,p,h=>⟨h,Nat.le_refl _,Nat.le_add_right _ _,px _,px _⟩
 | .none,p,h=>⟨h,Nat.le_refl _,Nat.le_add_right _ _,px _,px _⟩
 | .byte c,p,h=>by
  have h1:zk (p.aC++[c]).length [(p.aC.length:Int)]:=⟨List.pairwise_singleton _ _,fun x hx=>by rw[List.mem_singleton.1 hx,List.length_append,List.length_singleton];omega⟩;refine⟨⟨?_,?_,?_,fun l hl=>?_⟩,?_,?_,h1,h1⟩
  ·show(p.rules++[aL]).length=(p.aC++[c]).length;rw[List.length_append,List.length_append,h.rules];rfl
  ·show(p.follow++[[]]).length=(p.aC++[c]).length;rw[List.length_append,List.length_append,h.follow];rfl
  ·show(p.last++[false]).length=(p.aC++[c]).length;rw[List.length_append,List.length_append,h.last];rfl
  ·have hl:l∈p.follow++[[]]:=hl
   show zk (p.aC++[c]).length l
   rcases List.mem_append.1 hl with hl|hl
   ·exact jR (h.Rn l hl) (by simp)
   ·rw[List.mem_singleton.1 hl];exact px _
  ·show p.aC.length<=(p.aC++[c]).length;simp
  ·show(p.aC++[c]).length<=_;simp[Re.size]
 | .star a,p,h=>by
  obtain⟨h1,h2,h3,h4,h5⟩:=iq aL a p h;exact⟨⟨h1.rules,(gX _ _ _).trans h1.follow,h1.last,nh h4.2 _ _ h1.Rn⟩,h2,by show _<=p.aC.length+(a.size+1);exact Nat.le_trans h3 (by omega),h4,h5⟩
 | .Az a b,p,h=>by
  obtain⟨h1,h2,h3,h4,h5⟩:=iq aL a p h;obtain⟨k1,k2,k3,k4,k5⟩:=iq aL b _ h1;exact⟨k1,Nat.le_trans h2 k2,by show _<=p.aC.length+(a.size+b.size+1);exact Nat.le_trans k3 (by omega),ng (jR h4 k2).2 k4.2,ng (jR h5 k2).2 k5.2⟩
 | .Ay a b,p,h=>by
  obtain⟨h1,h2,h3,h4,h5⟩:=iq aL a p h;obtain⟨k1,k2,k3,k4,k5⟩:=iq aL b _ h1;refine⟨⟨k1.rules,(gX _ _ _).trans k1.follow,k1.last,nh k4.2 _ _ k1.Rn⟩,Nat.le_trans h2 k2,by show _<=p.aC.length+(a.size+b.size+1);exact Nat.le_trans k3 (by omega),?_,?_⟩
  ·show zk _ (if _ then _ else _)
   split
   ·exact ng (jR h4 k2).2 k4.2
   ·exact jR h4 k2
  ·show zk _ (if _ then _ else _)
   split
   ·exact ng (jR h5 k2).2 k5.2
   ·exact k5
end cV
namespace cV
open bO d_
structure MS where
 ps:PS
 first:List Int
 empty:List Bool
def MS.zero:MS:=⟨⟨[],[],[],[]⟩,[],[]⟩
def dy(last:List Bool)(l:List Int):List Bool:=l.foldl (fun b x=>b.set x.toNat true) last
def pW(i:Nat)(m:MS)(e:Re):MS:=
 ⟨{(a_ i e m.ps).2 with last:=dy (a_ i e m.ps).2.last (a_ i e m.ps).1.last},lX m.first (a_ i e m.ps).1.first,m.empty++[(a_ i e m.ps).1.empty]⟩
def io:Nat->MS->List Re->Int×MS
 |_,m,[]=>(0,m)
 |i,m,e::r=>if 200<(pW i m e).ps.aC.length then(2,.zero)else io (i+1) (pW i m e) r
abbrev CY(r:Rx):Int:=(jc r 1 0).1
def fP:List Rx->Int
 |[]=>0
 |r::l=>if CY r≠0 then CY r else fP l
structure Fh(m:MS):Prop where
 ps:CX m.ps
 first:zk m.ps.aC.length m.first
theorem wL(last:List Bool)(l:List Int):(dy last l).length=last.length:=by
 unfold dy
 induction l generalizing last with
 |nil=>rfl
 |cons x r ih=>rw[List.foldl_cons,ih,List.length_set]
theorem Jk(last:List Bool)(l:List Int){k:Nat}(hk:k<l.length):dy last (l.take (k+1))=(dy last (l.take k)).set l[k].toNat true:=by
 unfold dy;rw[List.take_succ_eq_append_getElem hk,List.foldl_append];rfl
theorem AX:Fh .zero:=⟨⟨rfl,rfl,rfl,fun l h=>by cases h⟩,px _⟩
theorem Hu(i:Nat){m:MS}(h:Fh m)(e:Re):Fh (pW i m e)/\(pW i m e).ps.aC.length<=m.ps.aC.length+e.size:=by
 obtain⟨h1,h2,h3,h4,h5⟩:=iq i e m.ps h.ps;exact⟨⟨⟨h1.rules,h1.follow,(wL _ _).trans h1.last,h1.Rn⟩,ng (jR h.first h2).2 h4.2⟩,h3⟩
theorem zl:∀{l:List Rx},fP l=0->∀r∈l,CY r=0
  |[],_,r,hr=>by cases hr
  | q ::l,h,r,hr=>by
    rw[fP]at h;split at h
    · contradiction
    · rename_i c
      rcases List.mem_cons.1 hr with rfl|hr
      · simpa using c
      · exact zl h r hr
end cV
namespace cV
open bO d_
structure AY(m:MS):Prop where
 ok:Fh m
 rules:∀r∈m.ps.rules,0<=r/\r<m.empty.length
 xU:m.ps.aC.length<=200
 some:0<m.empty.length
 Pb:m.empty.length<=20
theorem jv(aL:Int):∀(e:Re) (p:PS),(∀r∈p.rules,0<=r/\r<=aL)->0<=aL->∀r∈(a_ aL e p).2.rules,0<=r/\r<=aL
 | .empty,p,h,_=>h
 | .none,p,h,_=>h
 | .byte c,p,h,h0=>fun r hr=>by
  have hr:r∈p.rules++[aL]:=hr;rcases List.mem_append.1 hr with hr|hr
  ·exact h r hr
  ·rw[List.mem_singleton.1 hr];omega
 | .star a,p,h,h0=>jv aL a p h h0
 | .Az a b,p,h,h0=>jv aL b _ (jv aL a p h h0) h0
 | .Ay a b,p,h,h0=>jv aL b _ (jv aL a p h h0) h0
theorem AZ:∀(es:List Re) (i:Nat) (m m':MS),Fh m->m.empty.length=i->(∀r∈m.ps.rules,0<=r/\r<i)->m.ps.aC.length<=200->io i m es=(0,m')->Fh m'/\m'.empty.length=i+es.length/\(∀r∈m'.ps.rules,0<=r/\r<(i+es.length:Nat))/\m'.ps.aC.length<=200
  | [],i,m,m',h1,h2,h3,h4,h=>by
    cases h
    exact⟨h1,h2,fun r hr=>by have:=h3 r hr;simpa using this,h4⟩
  | e ::r,i,m,m',h1,h2,h3,h4,h=>by
    rw[io]at h;split at h
    · cases h
    · rename_i c
      have:=AZ r (i+1) (pW i m e) m' (Hu i h1 e).1 (by show(m.empty++[_]).length=_;simp[h2]) (fun x hx=>by
        have:=jv i e m.ps (fun r hr=>by have:=h3 r hr;omega) (by omega) x hx;omega) (by omega) h
      rw[List.length_cons];rw[show i+(r.length+1)=i+1+r.length by omega];exact this
theorem uG{es:List Re}{m:MS}(h0:0<es.length)(Xx:es.length<=20)(h:io 0 .zero es=(0,m)):AY m:=by
 obtain⟨h1,h2,h3,h4⟩:=AZ es 0 .zero m AX rfl (fun r hr=>by cases hr) (Nat.zero_le _) h;rw[Nat.zero_add]at h2 h3;exact⟨h1,fun r hr=>by have:=h3 r hr;omega,h4,by omega,by omega⟩
end cV
namespace jS
open bO d_ cV bT
def kM(c:C4)(l:List Int):C4:=l.foldl (fun c x=>c.bit x.toNat) c
def jw(p:PS)(s:C4):Nat->C4
 |0=>C4.zero
 |i+1=>if s.mem i=true then kM (jw p s i) (p.follow.getD i [])else jw p s i
def fW(m:MS)(S:List C4):Nat->C4
 |0=>kM C4.zero m.first
 |n+1=>jw m.ps (S.getD n C4.zero) m.ps.follow.length
def A0(p:PS)(all:C4)(b:Nat):Nat->C4
 |0=>C4.zero
 |i+1=>if all.mem i=true/\(p.aC.getD i C4.zero).mem b=true then(A0 p all b i).bit i else A0 p all b i
def A1(p:PS)(all:C4)(b:Nat):C4:=A0 p all b p.aC.length
def gw(p:PS)(s:C4):Nat->Int
 |0=> -1
 |i+1=>if s.mem i=true/\p.last.getD i false=true/\(gw p s i<0\/p.rules.getD i 0<gw p s i)then p.rules.getD i 0 else gw p s i
def pK(p:PS)(s:C4):Int:=gw p s p.aC.length
structure DM where
 S:List C4
 tags:List Int
def eU(p:PS)(m:DM)(s:C4):Nat×DM:=if s∈m.S then(idx m.S s+1,m)else(m.S.length+1,⟨m.S++[s],m.tags++[pK p s]⟩)
def dN(p:PS)(all:C4)(b:Nat)(r:Row)(m:DM):Row×DM:=
 if A1 p all b=C4.zero then(if h:b<256 then r.set b (-1)else r,m)else(if h:b<256 then(r.set b (-1)).set b ((eU p m (A1 p all b)).1:Int)else r,(eU p m (A1 p all b)).2)
def iW(p:PS)(all:C4):Nat->Nat->Row->DM->Row×DM
 |0,_,r,m=>(r,m)
 |f+1,b,r,m=>if 200<(dN p all b r m).2.S.length+1 then dN p all b r m else iW p all f (b+1) (dN p all b r m).1 (dN p all b r m).2
def lf(m:MS)(n:Nat)(d:DM):Row×DM:=iW m.ps (fW m d.S n) 256 0 (Vector.replicate 256 0) d
def ni(m:MS):Nat->Nat->List Row->DM->Option (List Row×DM)
 |0,_,_,_=>none
 |f+1,n,R,d=>if n<d.S.length+1 then(if 200<(lf m n d).2.S.length+1 then none else ni m f (n+1) (R++[(lf m n d).1]) (lf m n d).2)else some (R,d)
def dz:List Bool->Int->Int
 |[],_=> -1
 |b::l,k=>if b=true then k else dz l (k+1)
def ox(m:MS):Option (List Row×DM):=ni m 201 0 [] ⟨[],[dz m.empty 0]⟩
structure Pc(p:PS)(d:DM):Prop where
 nd:d.S.Nodup
 tags:d.tags.length=d.S.length+1
theorem CZ{p:PS}{d:DM}(h:Pc p d)(s:C4):Pc p (eU p d s).2/\d.S.length<=(eU p d s).2.S.length/\(eU p d s).2.S.length<=d.S.length+1/\0<(eU p d s).1/\(eU p d s).1<(eU p d s).2.S.length+1:=by
 unfold eU
 by_cases c:s∈d.S
 ·rw[if_pos c]
  have:=iV c;exact⟨h,Nat.le_refl _,Nat.le_succ _,Nat.succ_pos _,by show idx d.S s+1<d.S.length+1;omega⟩
 ·rw[if_neg c]
  refine⟨⟨?_,?_⟩,?_,?_,Nat.succ_pos _,?_⟩
  ·show(d.S++[s]).Nodup
   rw[List.nodup_append];exact⟨h.nd,by simp,fun a ha b hb=>by rw[List.mem_singleton.1 hb];exact fun e=>c (e▸ha)⟩
  ·show(d.tags++[_]).length=(d.S++[s]).length+1
   rw[List.length_append,List.length_append,h.tags];rfl
  ·show _<=(d.S++[s]).length;simp
  ·show(d.S++[s]).length<=_;simp
  ·show d.S.length+1<(d.S++[s]).length+1;simp
theorem Pd{p:PS}{d:DM}(h:Pc p d)(all:C4)(b:Nat)(r:Row):Pc p (dN p all b r d).2/\d.S.length<=(dN p all b r d).2.S.length/\(dN p all b r d).2.S.length<=d.S.length+1:=by
 unfold dN;split
 ·exact⟨h,Nat.le_refl _,Nat.le_succ _⟩
 ·obtain⟨h1,h2,h3,_⟩:=CZ h (A1 p all b)
  exact⟨h1,h2,h3⟩
theorem C0{p:PS}(all:C4):∀(f b:Nat) (r:Row) (d:DM),Pc p d->d.S.length+1<=200->Pc p (iW p all f b r d).2/\(iW p all f b r d).2.S.length+1<=201/\d.S.length<=(iW p all f b r d).2.S.length
  |0,_,_,d,h,hl=>⟨h,(by show d.S.length+1<=201;omega),Nat.le_refl _⟩
  | f +1,b,r,d,h,hl=>by
    obtain⟨h1,h2,h3⟩:=Pd h all b r;rw[iW];split
    · exact⟨h1,by omega,h2⟩
    · obtain⟨q1,q2,q3⟩:=C0 all f (b+1) (dN p all b r d).1 _ h1 (by omega)
      exact⟨q1,q2,by omega⟩
theorem C1(c:C4)(l:List Int){k:Nat}(hk:k<l.length):kM c (l.take (k+1))=(kM c (l.take k)).bit l[k].toNat:=by
 unfold kM;rw[List.take_succ_eq_append_getElem hk,List.foldl_append];rfl
end jS
namespace bH
open Go.Shelf
def C2:Go.Shelf.Ren:=⟨fun|189=>64|125=>81|257=>80|128=>95|129=>96|294=>86|295=>87|296=>88|297=>89|298=>90|299=>91|216=>92|300=>93|301=>94|328=>106|329=>107|330=>108|331=>109|332=>110|215=>105|343=>114|n=>n,fun|28=>26|3=>3|46=>172|0=>0|51=>219|53=>63|4=>4|183=>213|182=>212|131=>90|5=>5|9=>9|218=>226|222=>176|228=>233|229=>234|n=>n,fun|n=>n⟩
theorem Hv:Go.Proofs.Lays.n189 Tryz.prog C2:={
 mixed:=by kernel_rfl
 f125:=Tryz.func81.trans (congrArg some (by kernel_rfl))
 f128:=Tryz.func95.trans (congrArg some (by kernel_rfl))
 f129:=Tryz.func96.trans (congrArg some (by kernel_rfl))
 f189:=Tryz.func64.trans (congrArg some (by kernel_rfl))
 f215:=Tryz.func105.trans (congrArg some (by kernel_rfl))
 f216:=Tryz.func92.trans (congrArg some (by kernel_rfl))
 f257:=Tryz.func80.trans (congrArg some (by kernel_rfl))
 f294:=Tryz.func86.trans (congrArg some (by kernel_rfl))
 f295:=Tryz.func87.trans (congrArg some (by kernel_rfl))
 f296:=Tryz.func88.trans (congrArg some (by kernel_rfl))
 f297:=Tryz.func89.trans (congrArg some (by kernel_rfl))
 f298:=Tryz.func90.trans (congrArg some (by kernel_rfl))
 f299:=Tryz.func91.trans (congrArg some (by kernel_rfl))
 f300:=Tryz.func93.trans (congrArg some (by kernel_rfl))
 f301:=Tryz.func94.trans (congrArg some (by kernel_rfl))
 f328:=Tryz.func106.trans (congrArg some (by kernel_rfl))
 f329:=Tryz.func107.trans (congrArg some (by kernel_rfl))
 f330:=Tryz.func108.trans (congrArg some (by kernel_rfl))
 f331:=Tryz.func109.trans (congrArg some (by kernel_rfl))
 f332:=Tryz.func110.trans (congrArg some (by kernel_rfl))
 f343:=Tryz.func114.trans (congrArg some (by kernel_rfl))
 t0:=Tryz.underlying0
 a0:=Tryz.isAgg0
 z0:=Tryz.sizeOf0
 v0:=Tryz.zeroValue0
 t3:=Tryz.underlying3
 a3:=Tryz.isAgg3
 z3:=Tryz.sizeOf3
 v3:=Tryz.zeroValue3
 t4:=Tryz.underlying4
 a4:=Tryz.isAgg4
 z4:=Tryz.sizeOf4
 v4:=Tryz.zeroValue4
 t5:=Tryz.underlying5
 a5:=Tryz.isAgg5
 z5:=Tryz.sizeOf5
 v5:=Tryz.zeroValue5
 t9:=Tryz.underlying9
 a9:=Tryz.isAgg9
 z9:=Tryz.sizeOf9
 v9:=Tryz.zeroValue9
 t28:=Tryz.underlying26
 a28:=Tryz.isAgg26
 z28:=Tryz.sizeOf26
 v28:=Tryz.zeroValue26
 t46:=Tryz.underlying172
 a46:=Tryz.isAgg172
 z46:=Tryz.sizeOf172
 v46:=Tryz.zeroValue172
 t51:=Tryz.underlying219
 a51:=Tryz.isAgg219
 z51:=Tryz.sizeOf219
 v51:=Tryz.zeroValue219
 t53:=Tryz.underlying63
 a53:=Tryz.isAgg63
 z53:=Tryz.sizeOf63
 v53:=Tryz.zeroValue63
 t131:=Tryz.underlying90
 a131:=Tryz.isAgg90
 z131:=Tryz.sizeOf90
 v131:=Tryz.zeroValue90
 t182:=Tryz.underlying212
 a182:=Tryz.isAgg212
 z182:=Tryz.sizeOf212
 v182:=Tryz.zeroValue212
 t183:=Tryz.underlying213
 a183:=Tryz.isAgg213
 z183:=Tryz.sizeOf213
 v183:=Tryz.zeroValue213
 t218:=Tryz.underlying226
 a218:=Tryz.isAgg226
 z218:=Tryz.sizeOf226
 v218:=Tryz.zeroValue226
 t222:=Tryz.underlying176
 a222:=Tryz.isAgg176
 z222:=Tryz.sizeOf176
 v222:=Tryz.zeroValue176
 t228:=Tryz.underlying233
 a228:=Tryz.isAgg233
 z228:=Tryz.sizeOf233
 v228:=Tryz.zeroValue233
 t229:=Tryz.underlying234
 a229:=Tryz.isAgg234
 z229:=Tryz.sizeOf234
 v229:=Tryz.zeroValue234}
open Go.Sort Go.RowKit in
theorem slices_Sort_int(uu off cap:Nat)(zs:List Int)(w:World)(hH:Holds (Value.int .i64) w uu off zs.toArray)(hblk:uu<w.heap.size)(hsz:zs.length<4611686018427387904):
 Calls Tryz.prog 64 #[.slice (some ⟨uu,off,none⟩) zs.length cap] w fun e w'=>
  e= .returned (.tuple #[])/\∃n os,w'=grow (putRow (Value.int .i64) (Sort.ahead w n) uu off (zs.mergeSort fun x y=>decide (x<=y)).toArray) os:=Any.slices_Sort_int Hv uu off cap zs w hH hblk hsz
def x9:Go.Shelf.Ren:=⟨fun|20=>65|n=>n,fun|22=>26|3=>3|4=>4|0=>0|n=>n,fun|n=>n⟩
theorem zm:Go.Proofs.Lays2.n20 Tryz.prog x9:={
 mixed:=by kernel_rfl
 f20:=Tryz.func65.trans (congrArg some (by kernel_rfl))
 t0:=Tryz.underlying0
 a0:=Tryz.isAgg0
 z0:=Tryz.sizeOf0
 v0:=Tryz.zeroValue0
 t3:=Tryz.underlying3
 a3:=Tryz.isAgg3
 z3:=Tryz.sizeOf3
 v3:=Tryz.zeroValue3
 t4:=Tryz.underlying4
 a4:=Tryz.isAgg4
 z4:=Tryz.sizeOf4
 v4:=Tryz.zeroValue4
 t22:=Tryz.underlying26
 a22:=Tryz.isAgg26
 z22:=Tryz.sizeOf26
 v22:=Tryz.zeroValue26
 i3:=by kernel_rfl}
open Go.RowKit Go.Lib Go.Sort in
theorem slices_Compact_int(uu off cap:Nat)(zs:List Int)(w:World)(hH:Holds (Value.int .i64) w uu off zs.toArray)(hsz:zs.length<=9223372036854775807)(q_:zs.length<=cap):
 Calls Tryz.prog 65 #[.slice (some ⟨uu,off,none⟩) zs.length cap] w fun e w'=>e= .returned (.slice (some ⟨uu,off,none⟩) (Lib.compact zs).length cap)/\∃q,w'=putRow (Value.int .i64) (Sort.ahead w q) uu off (Lib.compact zs++List.replicate (zs.length-(Lib.compact zs).length) 0).toArray:=Any.slices_Compact_int zm uu off cap zs w hH hsz q_
open Go.RowKit Go.Lib Go.Sort in
theorem slices_Compact_int_empty(a:Option Addr)(cap:Nat)(w:World):
 Calls Tryz.prog 65 #[.slice a 0 cap] w fun e w'=>e= .returned (.slice a 0 cap)/\w'=w:=Any.slices_Compact_int_empty zm a cap w
open Go.RowKit Go.Sort in
theorem slices_Sort_int_none(p:Option Addr)(cap:Nat)(w:World):
 Calls Tryz.prog 64 #[.slice p 0 cap] w fun e w'=>e= .returned (.tuple #[])/\w'=w:=Any.slices_Sort_int_none Hv p cap w
end bH
namespace bH
open Go.RowKit bL db Go.Sort
theorem Jl(w:World)(n g:Nat)(d:Array Int)(os:Array Obj){k:Nat}(hk:k<w.heap.size)(hg:k≠g):(grow (putRow (Value.int .i64) (Go.Sort.ahead w n) g 0 d) os).heap[k]?=w.heap[k]?:=by
 rw[heap_grow_old _ _ (by rw[size_putRow];exact hk)];show(w.heap.modify g _)[k]?=w.heap[k]?
 rw[Array.getElem?_modify,if_neg (fun h=>hg h.symm)]
theorem Hw{B:bB}{w:World}{e:TypeId}{g cap m:Nat}{zs:List Int}(hm:Mem B [aI e 1 (.slice (some ⟨g,0,none⟩) m cap) m (zs.map (Value.int .i64))] w)(d:Array Int)(hd:d.size=m)(m':Nat)(h':m'<=m)(n:Nat)(os:Array Obj):
 Mem B [aI e 1 (.slice (some ⟨g,0,none⟩) m' cap) m' ((d.toList.take m').map (Value.int .i64))] (grow (putRow (Value.int .i64) (Go.Sort.ahead w n) g 0 d) os):=by
 have ho:w.ownsRow 0 e 1 (.slice (some ⟨g,0,none⟩) m cap) m (zs.map (Value.int .i64)):=hm.get (i:=0) rfl;obtain⟨hl,hr⟩:=ho;rcases hr with⟨h,_⟩|⟨g2,SR,kp,hv,_,hg,hc,hx,hs,ht⟩
 ·cases h
 cases hv
 have C3:B.may g:=(hm.owns.all 0 _ rfl).2 g (.inl rfl);have YC:g<w.heap.size:=(Array.getElem?_eq_some_iff.1 hg).1;have L1:(grow (putRow (Value.int .i64) (Go.Sort.ahead w n) g 0 d) os).heap[g]?=some (.cells (putCells (Value.int .i64) 0 d kp) e (0,0)):=by
  rw[heap_grow_old _ _ (by rw[size_putRow];exact YC)];show(w.heap.modify g (onCells (putCells (Value.int .i64) 0 d)))[g]?=_
  rw[Array.getElem?_modify,if_pos rfl,hg];rfl
 refine⟨⟨hm.low.os,hm.low.tape,hm.low.output,?_,fun k hk hx=>?_⟩,dL.one ⟨?_,.inr ⟨g,cap,_,rfl,Nat.zero_le _,L1,by omega,hx,?_,?_⟩⟩ fun k hk=>?_⟩
 ·rw[size_grow,size_putRow];exact Nat.le_trans hm.low.size (Nat.le_add_right _ _)
 ·have YD:k≠g:=fun e=>by
   subst e;rcases C3 with h|h
   ·omega
   ·exact hx h
  rw[Jl w n g d os (Nat.lt_of_lt_of_le hk hm.low.size) YD];exact hm.low.block k hk hx
 ·rw[List.length_map,List.length_take,Array.length_toList,hd];omega
 ·unfold putCells;rw[Array.size_mapIdx];exact hs
 ·apply List.ext_getElem?
  intro j;rw[Nat.mul_one,List.getElem?_take]
  by_cases hj:j<m'
  ·have OJ:j<kp.size:=by omega
   rw[if_pos hj,List.getElem?_map,List.getElem?_take,if_pos hj,Array.getElem?_toList,Array.getElem?_toList];unfold putCells;rw[Array.getElem?_mapIdx,Array.getElem?_eq_getElem OJ,Option.map_some,if_pos ⟨Nat.zero_le _,by omega⟩,Nat.sub_zero,getElem!_pos d j (by omega),Array.getElem?_eq_getElem (by omega:j<d.size)];rfl
  ·rw[if_neg hj,List.getElem?_map,List.getElem?_take,if_neg hj];rfl
 ·rcases hk with h|h
  ·simp only[aI,Value.ownBlock,Option.some.injEq]at h;subst h;exact C3
  ·exact h.elim
theorem zn{w:World}{e:TypeId}{g cap m:Nat}{zs:List Int}(ho:w.ownsRow 0 e 1 (.slice (some ⟨g,0,none⟩) m cap) m (zs.map (Value.int .i64))):Holds (Value.int .i64) w g 0 zs.toArray/\g<w.heap.size/\m=zs.length/\m<=cap:=by
 obtain⟨hl,hr⟩:=ho;rcases hr with⟨h,_⟩|⟨g2,SR,kp,hv,_,hg,hc,hx,hs,ht⟩
 ·cases h
 cases hv
 rw[List.length_map]at hl;refine⟨fun j hj=>?_,(Array.getElem?_eq_some_iff.1 hg).1,by omega,hc⟩;have k9:j<zs.length:=by simpa using hj
 have Vp:kp[j]?=some (.int .i64 zs[j]):=by
  have:=congrArg (fun l=>l[j]?) ht;rw[Nat.mul_one,List.getElem?_take,if_pos (by omega),Array.getElem?_toList,List.getElem?_map,List.getElem?_eq_getElem k9]at this;exact this
 refine⟨?_,?_⟩
 ·rw[cell_of_row w g (0+j) _ _ _ hg,Nat.zero_add,Vp,getElem!_pos zs.toArray j hj];rfl
 ·unfold World.frozen?
  rw[hg];simp
def ow(l:List Int):List Int:=l.mergeSort fun x y=>decide (x<=y)
theorem C5(v:Value)(l:List Int)(w:World)(B:bB)(hm:Mem B [aI 3 1 v l.length (l.map (Value.int .i64))] w)(hl:l.length<4611686018427387904):
 Calls Tryz.prog 64 #[v] w (dc ⟨fun(_:Unit)=>True,fun _=> .tuple #[],fun _=>[aI 3 1 v l.length ((ow l).map (Value.int .i64))]⟩ B):=by
 have ho:w.ownsRow 0 3 1 v l.length (l.map (Value.int .i64)):=hm.get (i:=0) rfl;have ux:=ho;rcases ho.2 with⟨rfl,h0⟩|⟨g,cap,kp,rfl,_,hg,hc,hx,hs,ht⟩
 ·refine(slices_Sort_int_none none 0 w).mono fun e w' ⟨he,hw⟩=>⟨(),trivial,he,?_⟩
  obtain rfl:l=[]:=List.length_eq_zero_iff.1 h0;rw[hw];exact(by simpa[ow]using hm)
 ·obtain⟨h1,h2,h3,h4⟩:=zn ux
  refine(slices_Sort_int g 0 cap l w h1 h2 hl).mono fun e w' ⟨he,n,os,hw⟩=>⟨(),trivial,he,?_⟩;have hlen:(ow l).length=l.length:=List.length_mergeSort _;have:=Hw hm (ow l).toArray (by simp[hlen]) l.length (Nat.le_refl _) n os;rw[List.take_of_length_le (by simp[hlen])]at this;rw[hw];exact this
theorem wM(v:Value)(l:List Int)(w:World)(B:bB)(hm:Mem B [aI 3 1 v l.length (l.map (Value.int .i64))] w):
 Calls Tryz.prog 65 #[v] w (dc ⟨fun(_:Value)=>True,fun v'=>v',fun v'=>[aI 3 1 v' (Lib.compact l).length ((Lib.compact l).map (Value.int .i64))]⟩ B):=by
 have ho:w.ownsRow 0 3 1 v l.length (l.map (Value.int .i64)):=hm.get (i:=0) rfl;have ux:=ho;rcases ho.2 with⟨rfl,h0⟩|⟨g,cap,kp,rfl,_,hg,hc,hx,hs,ht⟩
 ·refine(slices_Compact_int_empty none 0 w).mono fun e w' ⟨he,hw⟩=>⟨.slice none 0 0,trivial,he,?_⟩
  obtain rfl:l=[]:=List.length_eq_zero_iff.1 h0;rw[hw];exact hm
 ·obtain⟨h1,h2,h3,h4⟩:=zn ux
  refine(slices_Compact_int g 0 cap l w h1 (by unfold maxLen at hx;omega) (by omega)).mono fun e w' ⟨he,n,hw⟩=>⟨.slice (some ⟨g,0,none⟩) (Lib.compact l).length cap,trivial,he,?_⟩;have hle:(Lib.compact l).length<=l.length:=Lib.compact_length_le l;have:=Hw hm (Lib.compact l++List.replicate (l.length-(Lib.compact l).length) 0).toArray (by simp;omega) (Lib.compact l).length hle n #[];rw[grow_empty]at this;simp only[List.toList_toArray,List.take_left]at this;rw[hw];exact this
end bH
namespace bH
open Go.RowKit bL db
theorem Hx(l:List Int):∀u∈l.flatMap bL.dK,u.oneCell'=true:=by
 intro u hu;obtain⟨f,_,h⟩:=List.mem_flatMap.1 hu;simp only[bL.dK,List.mem_cons,List.not_mem_nil,or_false]at h;subst h;rfl
theorem Vq(l:List Int):l.flatMap bL.dK=l.map (.int .i64):=bL.KB l
end bH
namespace bH
open Go.RowKit bL db
theorem L2(a:Int):(bL.dK a).length=1:=rfl
theorem uf(v:Value)(l:List Int)(w:World)(hs:Sl w v l.length (l.flatMap bL.dK))(hl:l.length*8<=140737488355328):
  Calls Tryz.prog 49 #[v] w (bU (bW 3 1 l.length (l.flatMap bL.dK) id) w):=by
 obtain⟨base,cap,rfl,q_,wa,eV⟩:=hs;unfold maxLen at wa;refine enter (args:=[.slice base l.length cap]) (n:=8) Tryz.func49 rfl rfl rfl ?_;have so:∀w',Gr w w'->Sl w' (.slice base l.length cap) l.length (l.flatMap bL.dK):=fun w' hg=>Sl.gr ⟨base,cap,rfl,q_,wa,eV⟩ hg;clear eV
 cases base with
 | none=>
  repeat(first|refine GC ?_|refine gV (q9 aT.eq rfl rfl rfl) ?_|refine GB ?_)
  have h0:l=[]:=by
   cases l with
   |nil=>rfl
   |cons x l=>obtain⟨_,_,h,_,_,h2⟩:=so w (Gr.refl w);simp only[Value.slice.injEq]at h;obtain⟨rfl,_⟩:=h;obtain⟨b,off,h,_⟩:=h2 (by simp);cases h
  subst h0;refine de 3 1 ?_;exact b_ rfl rfl fun w hm=>hm.meets (S:=bW 3 1 0 [] id) _ trivial [0] (by decide) rfl
 |some p=>
  repeat(first|refine GC ?_|refine gV (q9 aT.eq rfl rfl rfl) ?_|refine GB ?_)
  refine G' rfl fun g=>?_
  try refine GA ?_
  refine dS (i:=0) rfl (fun w' hm=>so w' hm.below) rfl rfl (mN L2 l) (Hx l) (by omega) (by omega) rfl fun v'=>?_;rw[List.nil_append]
  try refine GA ?_
  refine b_ rfl rfl fun w hm=>?_;exact hm.meets (S:=bW 3 1 l.length (l.flatMap bL.dK) id) v' trivial [0] (by decide) (by simp[bW])
end bH
namespace bH
open Go.RowKit bL db cV
theorem mv(l:List Int):l.flatMap bL.dK=l.map (Value.int .i64):=by
 induction l with
 |nil=>rfl
 |cons x r ih=>rw[List.flatMap_cons,ih];rfl
abbrev dT(v:Value)(l:List Int):bz:=aI 3 1 v l.length (l.map (Value.int .i64))
def nF(l:List Int):Spec Value:=⟨fun _=>True,fun v=>v,fun v=>[dT v l]⟩
theorem eG(va vb:Value)(a b:List Int)(w:World)(ha:Sl w va a.length (a.map (Value.int .i64)))(hb:Sl w vb b.length (b.map (Value.int .i64)))(YE:a.length<=1000000)(hlb:b.length<=1000000):
 Calls Tryz.prog 43 #[va,vb] w (bU (nF (lX a b)) w):=by
 have jB:=fun w' (hg:Gr w w')=>uf va a w' (by rw[mv];exact ha.gr hg) (by omega);refine enter (args:=[va,vb]) (n:=14) Tryz.func43 rfl rfl rfl ?_
 try refine GA ?_
 refine aM (iT aj.en rfl rfl) (fun w hm=>jB _ hm.below) rfl rfl rfl ?_;intro v1 _;refine zL ?_;rw[mv]
 try refine GA ?_
 refine dS (i:=0) (bytes:=8) (m:=a.length) (xs:=a.map (Value.int .i64)) (k:=b.length) (ys:=b.map (Value.int .i64)) rfl (Sq hb) rfl rfl (by rw[List.length_map,Nat.mul_one]) (fun u hu=>by obtain⟨x,_,rfl⟩:=List.mem_map.1 hu;rfl) (by omega) (by omega) rfl fun v2=>?_;rw[<-List.map_append,<-List.length_append];refine zL ?_
 try refine GA ?_
 refine aP [0] [] (by decide) rfl rfl (iT aj.en rfl rfl) (fun w hm hb=>C5 v2 (a++b) w _ hb (by rw[List.length_append];omega)) rfl rfl rfl ?_;intro _ _;refine zL ?_
 try refine GA ?_
 rw[show(a++b).length=(bH.ow (a++b)).length from(List.length_mergeSort _).symm];refine aP [0] [] (by decide) rfl rfl (iT aj.en rfl rfl) (fun w hm hb=>wM v2 (bH.ow (a++b)) w _ hb) rfl rfl rfl ?_;intro v3 _;refine zL ?_
 try refine GA ?_
 exact b_ rfl rfl fun w hm=>hm.meets (S:=nF (lX a b)) v3 trivial [0] (by decide) rfl
end bH
namespace bH
open Go.RowKit bL db cV
def rM(v:Value):List Value:=[v]
theorem C6(v:Value):(rM v).length=1:=rfl
theorem Jm(l:List Value):l.flatMap rM=l:=by
 induction l with
 |nil=>rfl
 |cons x r ih=>rw[List.flatMap_cons,ih];rfl
theorem A2{w w':World}{e:TypeId}{size n:Nat}{v:Value}{xs:List Value}(h:w.ownsRow 0 e size v n xs)(hk:∀k,v.ownBlock=some k->w'.heap[k]?=w.heap[k]?):w'.ownsRow 0 e size v n xs:=by
 refine⟨h.1,?_⟩;rcases h.2 with hn|⟨g,cap,kp,rfl,uv,hg,rest⟩
 ·exact .inl hn
 ·exact .inr ⟨g,cap,kp,rfl,uv,by rw[hk g rfl];exact hg,rest⟩
def SS:qQ (List Int):=
  ⟨1,fun F w cs l=>∃v,cs=[v]/\(∀x∈l,bL.bX x)/\w.ownsRow 0 3 1 v l.length (l.map (Value.int .i64))/\∀k,v.ownBlock=some k->F k,fun⟨_,h,_⟩=>by rw[h];rfl,
    fun⟨v,h1,h2,h3,h4⟩ hk=>⟨v,h1,h2,A2 h3 fun k h=>hk k (h4 k h),h4⟩,fun⟨v,h1,h2,h3,h4⟩ hk=>⟨v,h1,h2,h3,fun k h=>hk k (h4 k h)⟩⟩
abbrev qB(v:Value)(vs:List Value):bz:=aI 26 1 v vs.length (vs.flatMap rM)
abbrev oy(F:Nat->Prop)(vs:List Value)(jj:List (List Int)):bz:=cY SS F (vs.map rM) jj
def Hy(vc vr vf vfol vl ve:Value)(aL:Int):Array Value:=#[vc,vr,vf,vfol,vl,ve,.int .i64 aL]
theorem Pe{α:Type}{s:qQ α}{F F2:Nat->Prop}{eM:List (List Value)}{cs:List Value}{l:List α}{a:α}{w:World}{k:Nat}(he:(cY s F eM l).holds w)(hs:s.is F2 w cs a)(h2:∀k,F2 k->k<w.heap.size):
 (cY s (fun k=>F k\/F2 k) (eM.set k cs) (l.set k a)).holds w:=by
 obtain⟨⟨h1,h3⟩,h4⟩:=he;refine⟨⟨by simp[h1],fun i hi kz=>?_⟩,fun k hk=>hk.elim (h4 k) (h2 k)⟩;rw[List.getElem_set,List.getElem_set]
 by_cases c:k=i
 ·subst c
  rw[if_pos rfl,if_pos rfl];exact s.mono hs fun q hq=> .inr hq
 ·rw[if_neg c,if_neg c]
  exact s.mono (h3 i (by simpa using hi) (by simpa using kz)) fun q hq=> .inl hq
theorem L3{F:Nat->Prop}{vs:List Value}{jj:List (List Int)}{w:World}(he:(oy F vs jj).holds w){k:Nat}(hk:k<jj.length)(jD:k<vs.length):Sl w vs[k] jj[k].length (jj[k].map (Value.int .i64)):=by
 obtain⟨⟨h1,h3⟩,_⟩:=he;obtain⟨v,hv,_,hs,_⟩:=h3 k hk (by simpa using jD);rw[List.getElem_map]at hv;unfold rM at hv;simp only[List.cons.injEq,and_true]at hv;rw[hv];exact Sl.cD hs
theorem SU{w:World}{v:Value}{l:List Int}(hp:∀x∈l,bL.bX x)(h:(dT v l).holds w):SS.is (fun k=>v.ownBlock=some k) w [v] l:=
 ⟨v,rfl,hp,h,fun _ h=>h⟩
def Hz(g:Nat)(vc vr vf vfol vl ve:Value)(aL:Int)(va vb:Value)(jj:List (List Int))(last first:List Int):Spec (List Value×(Nat->Prop)):=
 ⟨fun x=>x.1.length=jj.length,fun _=> .tuple #[],fun x=>[ap g (Hy vc vr vf vfol vl ve aL) 135,qB vfol x.1,oy x.2 x.1 (dD jj last first),dT va last,dT vb first]⟩
theorem C7(jj:List (List Int))(last first:List Int){k:Nat}(hk:k<last.length):dD jj (last.take (k+1)) first=(dD jj (last.take k) first).set last[k].toNat (lX ((dD jj (last.take k) first).getD last[k].toNat []) first):=by
 unfold dD;rw[List.take_succ_eq_append_getElem hk,List.foldl_append];rfl
theorem rN(g:Nat)(vc vr vf vfol vl ve:Value)(aL:Int)(va vb:Value)(vs:List Value)(F:Nat->Prop)(jj:List (List Int))(last first:List Int)(w:World)(B:bB)
 (hvs:vs.length=jj.length) (hn:jj.length<=100000) (YF:∀l∈jj,zk jj.length l) (YE:zk jj.length last) (L4:zk jj.length first)
 (hm:Mem B [ap g (Hy vc vr vf vfol vl ve aL) 135,qB vfol vs,oy F vs jj,dT va last,dT vb first] w):
 Calls Tryz.prog 63 #[.pointer (some ⟨g,0,none⟩),va,vb] w (dc (Hz g vc vr vf vfol vl ve aL va vb jj last first) B):=by
 have aag:=fO YE;have YG:=fO L4;have Vr:∃a c,va= .slice a last.length c:=by
  obtain⟨base,cap,h,_⟩:=Sl.cD (show w.ownsRow 0 3 1 va last.length (last.map (Value.int .i64))from hm.get (i:=3) rfl);exact⟨base,cap,h⟩
 obtain⟨aa,ca,rfl⟩:=Vr;refine eg hm (args:=[.pointer (some ⟨g,0,none⟩),.slice aa last.length ca,vb]) (n:=32) Tryz.func63 rfl rfl rfl ?_;clear hm
 try refine GA ?_
 refine cX (ι:=Nat×List Value×(Nat->Prop)) (fun(k,vs,F)=>k<=last.length/\vs.length=jj.length) (fun(k,_,_)=>[(0,.pointer (some ⟨g,0,none⟩)),(2,vb),(8,.slice aa last.length ca),(9,.int .i64 last.length),(10,.int .i64 (k:Int))])
  (fun(k,vs,F)=>[ap g (Hy vc vr vf vfol vl ve aL) 135,qB vfol vs,oy F vs (dD jj (last.take k) first),dT (.slice aa last.length ca) last,dT vb first]) (fun(k,_,_)=>last.length-k) (0,vs,F) ⟨Nat.zero_le _,hvs⟩ ?_
 clear hvs vs F;rintro⟨k,vs,F⟩ ⟨i1,i2⟩;dsimp only at i1 i2⊢
 by_cases c6:k<last.length
 ·have hstep:=C7 jj last first c6
  have YH:=nh (n:=jj.length) L4.2 (last.take k) jj YF;have hlen:=gX jj (last.take k) first;have hx:=YE.2 last[k] (List.getElem_mem c6);have hgx:last[k]?=some last[k]:=List.getElem?_eq_getElem c6;generalize dD jj (last.take k) first=fo at*;generalize last[k]=x at*;obtain⟨xn,rfl⟩:=Int.eq_ofNat_of_zero_le hx.1;rw[Int.toNat_natCast]at hstep;have Vs:xn<fo.length:=by omega
  have lY:fo.getD xn []=fo[xn]:=by rw[List.getD_eq_getElem?_getD,List.getElem?_eq_getElem Vs];rfl
  rw[lY]at hstep;have Xy:=YH fo[xn] (List.getElem_mem Vs);have A3:=fO Xy;have SV:=ng Xy.2 L4.2;have hul:=fO SV;refine eN (i:=1) (φ:=∃gf cap,vfol= .slice (some ⟨gf,0,none⟩) vs.length cap/\vs.length<=cap) rfl (fun w h=>by
   obtain⟨h1,h2⟩:=(show w.ownsRow 0 26 1 vfol vs.length (vs.flatMap rM)from h);rcases h2 with⟨_,h0⟩|⟨gf,cap,kp,hv,_,_,hc,_⟩
   ·omega
   ·exact⟨gf,cap,hv,hc⟩) fun hvf=>?_
  obtain⟨gf,SX,rfl,hcf⟩:=hvf;refine eN (i:=3) (φ:=∃ga,aa=some ⟨ga,0,none⟩) rfl (fun w h=>by
   obtain⟨h1,h2⟩:=(show w.ownsRow 0 3 1 (.slice aa last.length ca) last.length (last.map (Value.int .i64))from h);rcases h2 with⟨_,h0⟩|⟨gf,cap,kp,hv,_,_,hc,_⟩
   ·omega
   ·cases hv;exact⟨gf,rfl⟩) fun Vr=>?_
  obtain⟨ga,rfl⟩:=Vr;have Vt:xn<vs.length:=by omega
  have dW:∀(L:List bz) (hi:L[1]?=some (qB (.slice (some ⟨gf,0,none⟩) vs.length SX) vs)),At B L ⟨gf,0+xn*1+0,none⟩ vs[xn]:=fun L hi=>q7 C6 hi Vt 0 _ rfl;have YI:∀(L:List bz) (hi:L[3]?=some (dT (.slice (some ⟨ga,0,none⟩) last.length ca) last)),At B L ⟨ga,0+k*1,none⟩ (.int .i64 (xn:Int)):=fun L hi=>f_ hi (by rw[List.getElem?_map,Nat.zero_add,Nat.mul_one,hgx];rfl)
  repeat(first|refine GA ?_|refine gV (aH aT.eq ak.ty rfl rfl c6) ?_|refine gV (J (v:= .int .i64 (xn:Int)) ak.ty rfl (YI _ rfl)) ?_)
  (repeat refine bJ ?_)
  refine dw ([ap g (Hy vc vr vf (.slice (some ⟨gf,0,none⟩) vs.length SX) vl ve aL) 135]) (.calm 0 (.calm 1 (.calm 2 (.calm 3 (.calm 4 (.calm 5 (.calm 6 (.calm 7 (.calm 8 (.calm 9 (.calm 10 (.calm 11 (.calm 12 (.calm 14 (.one 13 (.one 15 (.calm 16 (.one 17 (.done))))))))))))))))))) (bC [0]) ?_
  repeat(first|refine GW ?_|(refine GN ?_;first|refine QW (J (v:= .slice (some ⟨gf,0,none⟩) vs.length SX) ak.ty rfl (ah (i:=0) rfl rfl)) ?_|refine QW (aH aT.eq ak.ty rfl rfl Vt) ?_))
  refine az rfl (cI (J (v:=vs[xn]) ak.ty rfl (dW _ rfl)) rfl rfl rfl (aw (bC [0]) ?_))
  try refine GW ?_
  refine az rfl (aM (fh aj.en rfl rfl rfl) (fun w' hm=>eG vs[xn] vb fo[xn] first w' (L3 (hm.get (i:=2) rfl) Vs Vt) (Sl.cD (hm.get (i:=4) rfl)) (by omega) (by omega)) rfl rfl rfl ?_);intro v _
  conv=>arg 8;simp only[zJ,bW,ret,id_eq,nF]
  refine aB (i:=5) rfl fun nK sy=>?_;refine aw (bC [0]) ?_
  repeat(first|refine GW ?_|(refine GN ?_;first|refine QW (aH aT.eq ak.ty rfl rfl Vt) ?_))
  refine az rfl (sD C6 (i:=1) (k:=xn) (l:=vs) (a:=v) ak.ty rfl rfl (by omega) Vt rfl rfl nK (by simp only[rM,List.all_cons,List.all_nil,sy];rfl) (aw (bC [0]) ?_))
  try refine GW ?_
  try refine GA ?_
  refine AE (oy (fun k=>F k\/v.ownBlock=some k) (vs.set xn v) (fo.set xn (lX fo[xn] first))) 5 2 [0,1,3,4] (by decide) rfl rfl rfl (fun k hk=>hk.elim (fun h=>by cases h) fun h=>h.elim (fun h=> .inr (.inr h)) fun h=> .inl (.inl h)) (fun w hr he=>?_) ?_
  ·have:=Pe (k:=xn) he (SU (fun x hx=>⟨by have:=SV.2 x hx;omega,by have:=SV.2 x hx;omega⟩) hr) fun k hk=>(dT v (lX fo[xn] first)).lt w hr k (.inl hk)
   rw[show([v]:List Value)=rM v from rfl,<-List.map_set]at this;exact this
  refine bR [0,1,4,2,3] ?_;exact aY (k+1,vs.set xn v,fun k=>F k\/v.ownBlock=some k) ⟨by omega,by rw[List.length_set];exact i2⟩ (by show last.length-(k+1)<last.length-k;omega) (hl:=by dsimp only;rw[hstep];show _=[_,aI _ _ _ (vs.set xn v).length _,_,_,_];rw[List.length_set];rfl)
 ·obtain rfl:k=last.length:=by omega
  rw[List.take_of_length_le (Nat.le_refl _)]
  try refine GA ?_
  exact sC rfl fun w hm=>hm.bV (S:=Hz g vc vr vf vfol vl ve aL (.slice aa last.length ca) vb jj last first) (vs,F) i2 [0,1,2,3,4] (by decide) rfl
end bH
namespace bH
open Go.RowKit bL db bO d_ cV
def sU(B:bB)(k:Nat):Prop:=k<B.w.heap.size/\¬B.X k
theorem nj{B:bB}{L:List bz}{b off:Nat}{cs:List Value}(hb:sU B b)(h:Rd B.w b off cs)(j:Nat)(v:Value)(hj:cs[j]?=some v):At B L ⟨b,off+j,none⟩ v:=fun _ hm=>
 rd_stay h (hm.low.block b hb.1 hb.2) j v hj
theorem SY{B:bB}{Lx:List bz}{w:World}(hm:Mem B Lx w){k:Nat}(hk:sU B k):sU (bB.on w Lx) k:=by
 refine⟨Nat.lt_of_lt_of_le hk.1 hm.low.size,?_⟩;rintro⟨o,ho,hf⟩;obtain⟨i,hi⟩:=List.mem_iff_getElem?.1 ho;rcases(hm.owns.all i o hi).2 k hf with h|h
 ·have:=hk.1;omega
 ·exact hk.2 h
theorem dm{B:bB}{Lx:List bz}{w:World}{v:Value}{r:Rx}(hm:Mem B Lx w)(h:jW (sU B) B.w v r):jW (sU (bB.on w Lx)) w v r:=
 (h.stay fun k hk=>hm.low.block k hk.1 hk.2).mono fun _ hk=>SY hm hk
structure Ks where
 vc:Value
 vr:Value
 vfol:Value
 vl:Value
 vs:List Value
 F:Nat->Prop
def jH(g:Nat)(vf ve:Value)(aL:Int)(x:Ks)(p:PS):List bz:=
 [ap g (Hy x.vc x.vr vf x.vfol x.vl ve aL) 135,aI 65 4 x.vc p.aC.length (p.aC.flatMap cC),dT x.vr p.rules,qB x.vfol x.vs,oy x.F x.vs p.follow,aI 4 1 x.vl p.last.length (p.last.map Value.bool)]
def bm(g:Nat)(vf ve:Value)(aL:Int)(R:Shape×PS):Spec (Ks×Value×Value):=
 ⟨fun x=>x.1.vs.length=R.2.follow.length,fun x=> .agg #[.bool R.1.empty,x.2.1,x.2.2],fun x=>jH g vf ve aL x.1 R.2++[dT x.2.1 R.1.first,dT x.2.2 R.1.last]⟩
theorem Fi(w:World):(Instr.build 137 (#[]:Array (Nat×Value))).run Tryz.prog w= .ok (.agg #[.bool false,.slice none 0 0,.slice none 0 0]) w:=by
 go_simp
theorem Fj(w:World):(Instr.build 137 #[(0,.bool true)]).run Tryz.prog w= .ok (.agg #[.bool true,.slice none 0 0,.slice none 0 0]) w:=by
 go_simp
def A4(M:Nat):Prop:=∀(e:Re),e.size<=M->∀(g:Nat) (vf ve:Value) (aL:Int) (p:PS) (x:Ks) (v:Value) (w:World) (B:bB),CX p->x.vs.length=p.follow.length->p.aC.length+e.size<=100000->bL.bX aL->jW (sU B) B.w v (il e)->Mem B (jH g vf ve aL x p) w->
 Calls Tryz.prog 42 #[.pointer (some ⟨g,0,none⟩),v] w (dc (bm g vf ve aL (a_ aL e p)) B)
theorem Jn(g:Nat)(vf ve:Value)(aL:Int)(p:PS)(x:Ks)(v:Value)(w:World)(B:bB)(hx:x.vs.length=p.follow.length)(hv:jW (sU B) B.w v (il .none))(hm:Mem B (jH g vf ve aL x p) w):
 Calls Tryz.prog 42 #[.pointer (some ⟨g,0,none⟩),v] w (dc (bm g vf ve aL (a_ aL .none p)) B):=by
 obtain⟨vk,rfl,_,Hg⟩:=hv;obtain⟨bk,ck,rfl,-⟩:=Hg;unfold jH at hm;refine eg hm (args:=[.pointer (some ⟨g,0,none⟩),lR (il .none).kind (il .none).nU (.slice bk (il .none).kids.length ck)]) (n:=176) Tryz.func42 rfl rfl rfl ?_;clear hm;refine bJ (aV (bK rfl rfl rfl fun g3=>aF rfl fun g4=>?_));refine zL ?_
 repeat(first|refine GA ?_|refine gV (J (v:= .int .i64 1) ak.ty rfl (ah (i:=6) rfl rfl)) ?_|refine gV (aU rfl Fi) ?_)
 refine fU 7 ?_;refine zL ?_
 try refine GA ?_
 refine de 3 1 (de 3 1 ?_);exact e8 (i:=7) rfl rfl rfl rfl fun w hm=>hm.bV (S:=bm g vf ve aL (a_ aL .none p)) (x,.slice none 0 0,.slice none 0 0) hx [0,1,2,3,4,5,8,9] (by decide) rfl
theorem Fk(g:Nat)(vf ve:Value)(aL:Int)(p:PS)(x:Ks)(v:Value)(w:World)(B:bB)(hx:x.vs.length=p.follow.length)(hv:jW (sU B) B.w v (il .empty))(hm:Mem B (jH g vf ve aL x p) w):
 Calls Tryz.prog 42 #[.pointer (some ⟨g,0,none⟩),v] w (dc (bm g vf ve aL (a_ aL .empty p)) B):=by
 obtain⟨vk,rfl,_,Hg⟩:=hv;obtain⟨bk,ck,rfl,-⟩:=Hg;unfold jH at hm;refine eg hm (args:=[.pointer (some ⟨g,0,none⟩),lR (il .empty).kind (il .empty).nU (.slice bk (il .empty).kids.length ck)]) (n:=176) Tryz.func42 rfl rfl rfl ?_;clear hm;refine bJ (aV (bK rfl rfl rfl fun g3=>aF rfl fun g4=>?_));refine zL ?_
 repeat(first|refine GA ?_|refine gV (J (v:= .int .i64 2) ak.ty rfl (ah (i:=6) rfl rfl)) ?_|refine gV (aU rfl Fj) ?_)
 refine fU 7 ?_;refine zL ?_
 try refine GA ?_
 refine de 3 1 (de 3 1 ?_);exact e8 (i:=7) rfl rfl rfl rfl fun w hm=>hm.bV (S:=bm g vf ve aL (a_ aL .empty p)) (x,.slice none 0 0,.slice none 0 0) hx [0,1,2,3,4,5,8,9] (by decide) rfl
def C8(g:Nat)(aL:Int):bz:=
  ⟨some g,fun _=>False,fun w=>∃vc vr vf vfol vl ve,w.heap[g]?=some (.cells (Hy vc vr vf vfol vl ve aL) 135 (0,0)),fun w ⟨_,_,_,_,_,_,h⟩ k hk=>by simp only[Option.some.injEq,or_false]at hk;subst hk;exact(Array.getElem?_eq_some_iff.1 h).1,
    fun w w' ⟨vc,vr,vf,vfol,vl,ve,h⟩ _ hb=>⟨vc,vr,vf,vfol,vl,ve,by rw[hb g (.inl rfl)];exact h⟩⟩
theorem iX{B:bB}{L:List bz}{g:Nat}{vc vr vf vfol vl ve:Value}{aL:Int}(h:L[0]?=some (ap g (Hy vc vr vf vfol vl ve aL) 135)):∀w,Mem B L w->Mem B [C8 g aL] w:=fun w hm=>by
 have h1:=hm.pick (L':=[ap g (Hy vc vr vf vfol vl ve aL) 135]) [0] (by decide) (by simp[h]);exact h1.OL (i:=0) (C8 g aL) rfl ⟨vc,vr,vf,vfol,vl,ve,h1.get (i:=0) rfl⟩ fun k hk=>hk
theorem Pf{B:bB}{L:List bz}{g i:Nat}{aL:Int}(h:L[i]?=some (C8 g aL)):At B L ⟨g,6,none⟩ (.int .i64 aL):=fun w hm=>by
 obtain⟨vc,vr,vf,vfol,vl,ve,h⟩:=(hm.get h:(C8 g aL).holds w);rw[cell_of_row w g 6 _ _ _ h];rfl
theorem HA(c:C4)(u:Value)(h:u∈cC c):u.oneCell'=true:=by
 simp only[cC,List.mem_cons,List.not_mem_nil,or_false]at h;rcases h with rfl|rfl|rfl|rfl<;>rfl
theorem Jo(c:C4){k:Int}{vk v:Value}{j:Nat}(hj:(cC c)[j]?=some v):((iP k c vk).toArray)[1+j]?=some v:=by
 match j,hj with
 |0,hj=>exact hj
 |1,hj=>exact hj
 |2,hj=>exact hj
 |3,hj=>exact hj
theorem Fl(b b':Option Addr)(m m' k k':Nat)(w:World):(Instr.build 137 #[(1,.slice b m k),(2,.slice b' m' k')]).run Tryz.prog w= .ok (.agg #[.bool false,.slice b m k,.slice b' m' k']) w:=by
 go_simp
theorem zo(v:Value)(l:List Int)(x:Int):aI 3 1 v (l.length+1) (l.map (Value.int .i64)++[.int .i64 x])=dT v (l++[x]):=by
 show _=aI 3 1 v (l++[x]).length ((l++[x]).map (Value.int .i64))
 rw[List.length_append,List.map_append];rfl
theorem L5(v:Value)(l:List Value)(x:Value):aI 26 1 v (l.length+1) (l.flatMap rM++[x])=qB v (l++[x]):=by
 show _=aI 26 1 v (l++[x]).length ((l++[x]).flatMap rM)
 rw[List.length_append,List.flatMap_append];rfl
theorem sV(v:Value)(l:List Bool)(x:Bool):aI 4 1 v (l.length+1) (l.map Value.bool++[.bool x])=aI 4 1 v (l++[x]).length ((l++[x]).map Value.bool):=by
 rw[List.length_append,List.map_append];rfl
theorem A5{w:World}{g:Nat}{n:Int}(h:(ap g #[.int .i64 n] 3).holds w):(dT (.slice (some ⟨g,0,none⟩) 1 1) [n]).holds w:=
 ⟨rfl,.inr ⟨g,1,_,rfl,Nat.zero_le _,h,Nat.le_refl _,by decide,rfl,rfl⟩⟩
theorem Jp(c:C4)(g:Nat)(vf ve:Value)(aL:Int)(p:PS)(x:Ks)(v:Value)(w:World)(B:bB)(hp:CX p)(hx:x.vs.length=p.follow.length)(hn:p.aC.length<=100000)(hv:jW (sU B) B.w v (il (.byte c)))(hm:Mem B (jH g vf ve aL x p) w):
 Calls Tryz.prog 42 #[.pointer (some ⟨g,0,none⟩),v] w (dc (bm g vf ve aL (a_ aL (.byte c) p)) B):=by
 obtain⟨vk,rfl,_,Hg⟩:=hv;obtain⟨bk,ck,rfl,-⟩:=Hg;obtain⟨vc,vr,vfol,vl,vs,F⟩:=x;unfold jH at hm;dsimp only at hx hm;refine eg hm (args:=[.pointer (some ⟨g,0,none⟩),lR (il (.byte c)).kind (il (.byte c)).nU (.slice bk (il (.byte c)).kids.length ck)]) (n:=176) Tryz.func42 rfl rfl rfl ?_;clear hm;refine bJ (aV (bK rfl rfl rfl fun g3=>aF rfl fun g4=>?_));refine zL ?_;refine mO (i:=1) rfl fun bc cc SZ nK vz=>?_;subst SZ
 repeat(first|refine GA ?_|refine gV (J (v:= .int .i64 3) ak.ty rfl (ah (i:=6) rfl rfl)) ?_|refine gV (J (v:= .slice bc p.aC.length cc) ak.ty rfl (ah (i:=0) rfl rfl)) ?_)
 (repeat refine bJ ?_)
 refine ix (ι:=Value) (fun _=>True) (fun _=>[(0,.pointer (some ⟨g,0,none⟩)),(3,.pointer (some ⟨g3,0,none⟩)),(4,.pointer (some ⟨g4,0,none⟩)),(5,.int .i64 p.aC.length)])
  (fun x_=>[ap g (Hy x_ vr vf vfol vl ve aL) 135,aI 65 4 x_ (p.aC++[c]).length ((p.aC++[c]).flatMap cC),dT vr p.rules,qB vfol vs,oy F vs p.follow,aI 4 1 vl p.last.length (p.last.map Value.bool),ap g4 #[.bool false,.slice none 0 0,.slice none 0 0] 137]) ?_ ?_
 ·refine dw ([ap g3 (iP 3 c (.slice bk 0 ck)).toArray 68]) (.calm 0 (.calm 1 (.calm 2 (.calm 3 (.calm 4 (.calm 6 (.calm 7 (.two 5 (.one 8 (.one 9 (.calm 10 (.calm 11 (.calm 12 (.one 13 (.done))))))) 8 (.one 5 (.one 9 (.calm 10 (.calm 11 (.calm 12 (.one 13 (.done))))))))))))))) (bC [6]) ?_
  repeat(first|refine GW ?_|(refine GN ?_;first|refine QW (aK (cs:=cC c) ak.ty rfl rfl (fun j v hj=>ah (i:=0) rfl (Jo c hj))) ?_))
  refine dG rfl rfl ?_ ?_
  ·refine cI (J (v:= .slice bc p.aC.length cc) ak.ty rfl (ah (i:=0) rfl rfl)) rfl rfl rfl (aw (bC [6]) ?_)
   refine az rfl (ee (cs:=(cC c).toArray) [kh c] rfl rfl rfl (by intro v hv;simp at hv;subst hv;rfl) rfl rfl rfl fun g33=>(aw (bC [6]) ?_));refine az rfl (dS (i:=1) (e:=65) (size:=4) (bytes:=32) (m:=p.aC.length) (xs:=p.aC.flatMap cC) (k:=1) (ys:=cC c) rfl (iU (i:=8) rfl (fun j u h=>by simpa using h) (Nat.le_refl 1) (by decide)) rfl rfl rfl (fun u hu=>HA c u hu) (by omega) (by omega) rfl fun x_=>(aw (bC [6]) ?_))
   try refine GW ?_
   refine az rfl (aB (i:=1) rfl fun kD lg=>bD (i:=0) rfl rfl rfl kD lg rfl (aw (bC [6]) ?_))
   try refine GW ?_
   refine bR [0,1,2,3,4,5,7] ?_;exact c_ x_ trivial (by repeat' (first|exact True.intro|refine And.intro rfl ?_)) (by rw[List.length_append,List.flatMap_append];rfl)
  ·refine ee (cs:=(cC c).toArray) [kh c] rfl rfl rfl (by intro v hv;simp at hv;subst hv;rfl) rfl rfl rfl fun g33=>(aw (bC [6]) ?_)
   refine az rfl (cI (J (v:= .slice bc p.aC.length cc) ak.ty rfl (ah (i:=0) rfl rfl)) rfl rfl rfl (aw (bC [6]) ?_));refine az rfl (dS (i:=1) (e:=65) (size:=4) (bytes:=32) (m:=p.aC.length) (xs:=p.aC.flatMap cC) (k:=1) (ys:=cC c) rfl (iU (i:=8) rfl (fun j u h=>by simpa using h) (Nat.le_refl 1) (by decide)) rfl rfl rfl (fun u hu=>HA c u hu) (by omega) (by omega) rfl fun x_=>(aw (bC [6]) ?_))
   try refine GW ?_
   refine az rfl (aB (i:=1) rfl fun kD lg=>bD (i:=0) rfl rfl rfl kD lg rfl (aw (bC [6]) ?_))
   try refine GW ?_
   refine bR [0,1,2,3,4,5,7] ?_;exact c_ x_ trivial (by repeat' (first|exact True.intro|refine And.intro rfl ?_)) (by rw[List.length_append,List.flatMap_append];rfl)
 clear nK vz;intro x_ _
 try refine GA ?_
 (repeat refine bJ ?_)
 have A3:=hp.rules;refine ix (ι:=Value) (fun _=>True) (fun _=>[(0,.pointer (some ⟨g,0,none⟩)),(4,.pointer (some ⟨g4,0,none⟩)),(5,.int .i64 p.aC.length)])
  (fun uH=>[ap g (Hy x_ uH vf vfol vl ve aL) 135,aI 65 4 x_ (p.aC++[c]).length ((p.aC++[c]).flatMap cC),dT uH (p.rules++[aL]),qB vfol vs,oy F vs p.follow,aI 4 1 vl p.last.length (p.last.map Value.bool),ap g4 #[.bool false,.slice none 0 0,.slice none 0 0] 137]) ?_ ?_
 ·refine dw ([C8 g aL]) (.calm 0 (.calm 1 (.calm 2 (.calm 3 (.calm 4 (.calm 6 (.calm 7 (.calm 8 (.calm 9 (.two 5 (.one 10 (.one 11 (.calm 12 (.calm 13 (.calm 14 (.one 15 (.done))))))) 10 (.one 5 (.one 11 (.calm 12 (.calm 13 (.calm 14 (.one 15 (.done))))))))))))))))) (iX rfl) ?_
  repeat(first|refine GW ?_|(refine GN ?_;first|refine QW (J (v:= .int .i64 aL) ak.ty rfl (Pf (i:=0) rfl)) ?_))
  refine dG rfl rfl ?_ ?_
  ·refine cI (J (v:=vr) ak.ty rfl (ah (i:=0) rfl rfl)) rfl rfl rfl (aw (iX rfl) ?_)
   refine az rfl (ee (cs:=#[.int .i64 aL]) [.int .i64 aL] rfl rfl rfl (by intro v hv;simp at hv;subst hv;rfl) rfl rfl rfl fun g48=>(aw (iX rfl) ?_));refine az rfl (dS (i:=2) (e:=3) (size:=1) (bytes:=8) (m:=p.rules.length) (xs:=p.rules.map (Value.int .i64)) (k:=1) (ys:=[.int .i64 aL]) rfl (iU (i:=7) rfl (fun j u h=>by simpa using h) (Nat.le_refl 1) (by decide)) rfl rfl rfl (fun u hu=>by rw[List.mem_singleton.1 hu];rfl) (by omega) (by omega) rfl fun uH=>(aw (iX rfl) ?_))
   try refine GW ?_
   refine az rfl (aB (i:=2) rfl fun kD lg=>bD (i:=0) rfl rfl rfl kD lg rfl (aw (iX (vc:=x_) (vr:=uH) (vf:=vf) (vfol:=vfol) (vl:=vl) (ve:=ve) rfl) ?_))
   try refine GW ?_
   refine bR [0,1,2,3,4,5,6] ?_;exact c_ uH trivial (by repeat' (first|exact True.intro|refine And.intro rfl ?_)) (by rw[<-zo uH p.rules aL];rfl)
  ·refine ee (cs:=#[.int .i64 aL]) [.int .i64 aL] rfl rfl rfl (by intro v hv;simp at hv;subst hv;rfl) rfl rfl rfl fun g48=>(aw (iX rfl) ?_)
   refine az rfl (cI (J (v:=vr) ak.ty rfl (ah (i:=0) rfl rfl)) rfl rfl rfl (aw (iX rfl) ?_));refine az rfl (dS (i:=2) (e:=3) (size:=1) (bytes:=8) (m:=p.rules.length) (xs:=p.rules.map (Value.int .i64)) (k:=1) (ys:=[.int .i64 aL]) rfl (iU (i:=7) rfl (fun j u h=>by simpa using h) (Nat.le_refl 1) (by decide)) rfl rfl rfl (fun u hu=>by rw[List.mem_singleton.1 hu];rfl) (by omega) (by omega) rfl fun uH=>(aw (iX rfl) ?_))
   try refine GW ?_
   refine az rfl (aB (i:=2) rfl fun kD lg=>bD (i:=0) rfl rfl rfl kD lg rfl (aw (iX (vc:=x_) (vr:=uH) (vf:=vf) (vfol:=vfol) (vl:=vl) (ve:=ve) rfl) ?_))
   try refine GW ?_
   refine bR [0,1,2,3,4,5,6] ?_;exact c_ uH trivial (by repeat' (first|exact True.intro|refine And.intro rfl ?_)) (by rw[<-zo uH p.rules aL];rfl)
 intro uH _;have uI:=hp.follow;have Er:=hp.last
 repeat(first|refine GA ?_|refine gV (J (v:=vfol) ak.ty rfl (ah (i:=0) rfl rfl)) ?_)
 refine ik (i:=3) (bytes:=24) rfl rfl rfl rfl rfl rfl (fun z h=>by cases h;rfl) (by omega) (by omega) rfl fun z1 pX=>?_;refine zL ?_
 try refine GA ?_
 refine aB (i:=3) rfl fun kD lg=>bD (i:=0) rfl rfl rfl kD lg rfl ?_;refine zL ?_
 repeat(first|refine GA ?_|refine gV (J (v:=vl) ak.ty rfl (ah (i:=0) rfl rfl)) ?_)
 refine ik (i:=5) (bytes:=1) rfl rfl rfl rfl rfl rfl (fun z h=>by cases h;rfl) (by omega) (by omega) rfl fun z2 HB=>?_;refine zL ?_
 try refine GA ?_
 refine aB (i:=5) rfl fun kD lg=>bD (i:=0) rfl rfl rfl kD lg rfl ?_;refine zL ?_
 try refine GA ?_
 refine ee (cs:=#[.int .i64 p.aC.length]) [.int .i64 p.aC.length] rfl rfl rfl (by intro v hv;simp at hv;subst hv;rfl) rfl rfl rfl fun YJ=>?_;refine zL ?_
 try refine GA ?_
 refine ee (cs:=#[.int .i64 p.aC.length]) [.int .i64 p.aC.length] rfl rfl rfl (by intro v hv;simp at hv;subst hv;rfl) rfl rfl rfl fun YK=>?_;refine zL ?_
 repeat(first|refine GA ?_|refine gV (aU rfl (Fl _ _ _ _ _ _)) ?_)
 refine fU 6 (cs':=#[.bool false,.slice (some ⟨YJ,0,none⟩) 1 1,.slice (some ⟨YK,0,none⟩) 1 1]) ?_;refine zL ?_
 try refine GA ?_
 refine mT (i:=7) (dT (.slice (some ⟨YJ,0,none⟩) 1 1) [(p.aC.length:Int)]) rfl (fun w h=>A5 h) (fun k hk=>hk) ?_;refine mT (i:=8) (dT (.slice (some ⟨YK,0,none⟩) 1 1) [(p.aC.length:Int)]) rfl (fun w h=>A5 h) (fun k hk=>hk) ?_;refine mT (i:=4) (oy (fun k=>F k\/False) (vs++[.slice none 0 0]) (p.follow++[[]])) rfl (fun w h=>by
  have:=mh (F2:=fun _=>False) h (show SS.is (fun _=>False) w [.slice none 0 0] []from⟨_,rfl,fun _ h=>(by cases h),⟨rfl,.inl ⟨rfl,rfl⟩⟩,fun _ h=>(by cases h)⟩) (fun k hk=>hk.elim);rw[show vs.map rM++[[Value.slice none 0 0]]=(vs++[Value.slice none 0 0]).map rM by rw[List.map_append];rfl]at this;exact this) (fun k hk=>hk.elim (fun h=>by cases h) fun h=>h.elim (fun h=> .inr h) False.elim) ?_
 refine e8 (i:=6) rfl rfl rfl rfl fun w hm=>?_;refine hm.bV (S:=bm g vf ve aL (a_ aL (.byte c) p)) (⟨x_,uH,pX,HB,vs++[.slice none 0 0],fun k=>F k\/False⟩,.slice (some ⟨YJ,0,none⟩) 1 1,.slice (some ⟨YK,0,none⟩) 1 1) (by show(vs++[_]).length=(p.follow++[[]]).length;rw[List.length_append,List.length_append,hx];rfl) [0,1,2,3,4,5,7,8] (by decide) ?_;show[_,_,_,qB pX (vs++[Value.slice none 0 0]),_,aI 4 1 HB (p.last++[false]).length ((p.last++[false]).map Value.bool),_,_]=_
 rw[<-L5,<-sV];rfl
end bH
namespace bH
open Go.RowKit bL db bO d_ cV
theorem Jq{M:Nat}(IH:A4 M)(a:Re)(ha:a.size<=M)(g:Nat)(vf ve:Value)(aL:Int)(p:PS)(x:Ks)(v:Value)(w:World)(B:bB)(hp:CX p)(hx:x.vs.length=p.follow.length)(hn:p.aC.length+(a.size+1)<=100000)(Fm:bL.bX aL)(hv:jW (sU B) B.w v (il (.star a)))(hm:Mem B (jH g vf ve aL x p) w):
 Calls Tryz.prog 42 #[.pointer (some ⟨g,0,none⟩),v] w (dc (bm g vf ve aL (a_ aL (.star a) p)) B):=by
 obtain⟨vk,rfl,_,Hg⟩:=hv;obtain⟨bk,ck,rfl,h1,h2,h3⟩:=Hg;obtain⟨b,off,rfl,hF,eV⟩:=h3 (by show 0<1;decide);obtain⟨kb,kc,hr,Jr⟩:=lA (k:=0) eV (by show 0<1;decide);have du:=fun(L:List bz) (j:Nat) (v:Value) hj=>nj (L:=L) hF hr j v hj;clear h3 eV hr;obtain⟨xV,Kt,L6,Ro,Pg⟩:=iq aL a p hp;have Rp:a_ aL (.star a) p=(⟨true,(a_ aL a p).1.first,(a_ aL a p).1.last⟩,{(a_ aL a p).2 with follow:=dD (a_ aL a p).2.follow (a_ aL a p).1.last (a_ aL a p).1.first}):=rfl;have hIH:=fun w B hv hm=>IH a ha g vf ve aL p x (lR (il a).kind (il a).nU (.slice kb (il a).kids.length kc)) w B hp hx (by omega) Fm hv hm;rw[Rp];generalize a_ aL a p=R at*;obtain⟨⟨e,first,last⟩,p'⟩:=R;dsimp only at xV Kt L6 Ro Pg⊢;clear Rp;unfold jH at hm;refine eg hm (args:=[.pointer (some ⟨g,0,none⟩),lR 6 C4.zero (.slice (some ⟨b,off,none⟩) 1 ck)]) (n:=176) Tryz.func42 rfl rfl rfl ?_;clear hm;refine bJ (aV (bK rfl rfl rfl fun g3=>aF rfl fun g4=>?_));refine zL ?_
 repeat(first|refine GA ?_|refine gV (J (v:= .int .i64 6) ak.ty rfl (ah (i:=6) rfl rfl)) ?_|refine gV (J (v:= .slice (some ⟨b,off,none⟩) 1 ck) ak.ty rfl (ah (i:=6) rfl rfl)) ?_|refine gV (aH (j:=0) aT.eq ak.ty rfl rfl (by decide)) ?_|refine gV (aK ak.ty rfl rfl (du _)) ?_)
 refine aP [0,1,2,3,4,5] [6,7] (by decide) rfl rfl (fh aj.en rfl rfl rfl) (fun w hm hb=>hIH w _ (dm (hm.pick [0,1,2,3,4,5] (by decide) rfl) Jr) hb) rfl rfl rfl ?_;rintro⟨⟨vc,vr,vfol,vl,vs,F⟩,va,vb⟩ EF;have EF:vs.length=p'.follow.length:=EF
 conv=>arg 8;simp only[zJ,bW,ret,id_eq,bm,jH]
 conv=>arg 7;simp only[bm]
 refine aB (i:=8) rfl fun aar Vu=>?_;refine aB (i:=9) rfl fun aas Vv=>?_;refine aF rfl fun g6=>?_;refine zL ?_;refine aD (i:=10) (cs':=#[.bool e,va,vb]) rfl rfl rfl rfl (by simp only[List.all_cons,List.all_nil,Vu,Vv];rfl) rfl ?_;refine zL ?_
 repeat(first|refine GA ?_|refine gV (J (v:=vb) ak.ty rfl (ah (i:=10) rfl rfl)) ?_|refine gV (J (v:=va) ak.ty rfl (ah (i:=10) rfl rfl)) ?_)
 refine aP [2,5,6,9,8] [0,1,3,4,7,10] (by decide) rfl rfl (yG aj.en rfl rfl rfl rfl) (fun w hm hb=>rN g vc vr vf vfol vl ve aL vb va vs F p'.follow last first w _ EF (by rw[xV.follow];omega) (by rw[xV.follow];exact xV.Rn) (by rw[xV.follow];exact Pg) (by rw[xV.follow];exact Ro) hb) rfl rfl rfl ?_;rintro⟨ma,F'⟩ dM;have dM:ma.length=p'.follow.length:=dM
 conv=>arg 8;simp only[zJ,bW,ret,id_eq,Hz]
 try refine GA ?_
 refine bD (i:=5) rfl rfl rfl rfl rfl rfl ?_;refine zL ?_
 repeat(first|refine GA ?_|refine gV (aE (i:=5) ak.ty rfl rfl rfl) ?_)
 refine aD (i:=1) (cs':=#[.bool true,va,vb]) rfl rfl rfl rfl (by simp only[List.all_cons,List.all_nil,Vu,Vv];rfl) rfl ?_;refine zL ?_
 try refine GA ?_
 refine e8 (i:=1) rfl rfl rfl rfl fun w hm=>?_;exact hm.bV (S:=bm g vf ve aL (⟨true,first,last⟩,{p' with follow:=dD p'.follow last first})) (⟨vc,vr,vfol,vl,ma,F'⟩,va,vb) (by show ma.length=(dD p'.follow last first).length;rw[gX];exact dM) [6,2,3,7,8,4,10,9] (by decide) rfl
end bH
namespace bH
open Go.RowKit bL db bO d_ cV
theorem jx(e:Bool)(b b':Option Addr)(m m' k k':Nat)(w:World):(Instr.build 137 #[(0,.bool e),(1,.slice b m k),(2,.slice b' m' k')]).run Tryz.prog w= .ok (.agg #[.bool e,.slice b m k,.slice b' m' k']) w:=by
 go_simp
set_option maxRecDepth 100000 in
theorem L7{M:Nat}(IH:A4 M)(a b1:Re)(ha:a.size<=M)(ya:b1.size<=M)(g:Nat)(vf ve:Value)(aL:Int)(p:PS)(x:Ks)(v:Value)(w:World)(B:bB)(hp:CX p)(hx:x.vs.length=p.follow.length)(hn:p.aC.length+(a.size+b1.size+1)<=100000)(Fm:bL.bX aL)(hv:jW (sU B) B.w v (il (.Az a b1)))(hm:Mem B (jH g vf ve aL x p) w):
    Calls Tryz.prog 42 #[.pointer (some ⟨g,0,none⟩),v] w (dc (bm g vf ve aL (a_ aL (.Az a b1) p)) B):=by
  obtain⟨vk,rfl,_,Hg⟩:=hv;obtain⟨bk,ck,rfl,h1,h2,h3⟩:=Hg;obtain⟨b,off,rfl,hF,eV⟩:=h3 (by show 0<2;decide);obtain⟨kb,kc,hr,oz⟩:=lA (k:=0) eV (by show 0<2;decide);obtain⟨YL,YM,l_,gY⟩:=lA (k:=1) eV (by show 1<2;decide);have L8:=fun(L:List bz) (j:Nat) (v:Value) hj=>nj (L:=L) hF hr j v hj;have rO:=fun(L:List bz) (j:Nat) (v:Value) hj=>nj (L:=L) hF l_ j v hj;clear h3 eV hr l_;obtain⟨xV,Kt,L6,Ro,Pg⟩:=iq aL a p hp;obtain⟨Rq,Xz,YN,Uw,Vw⟩:=iq aL b1 _ xV;have Js:=fun w B hv hm=>IH a ha g vf ve aL p x (lR (il a).kind (il a).nU (.slice kb (il a).kids.length kc)) w B hp hx (by omega) Fm hv hm;have sW:=fun x1 gT w B hv hm=>IH b1 ya g vf ve aL (a_ aL a p).2 x1 (lR (il b1).kind (il b1).nU (.slice YL (il b1).kids.length YM)) w B xV gT (by omega) Fm hv hm;rw[show a_ aL (.Az a b1) p=(⟨(a_ aL a p).1.empty||(a_ aL b1 (a_ aL a p).2).1.empty,lX (a_ aL a p).1.first (a_ aL b1 (a_ aL a p).2).1.first,lX (a_ aL a p).1.last (a_ aL b1 (a_ aL a p).2).1.last⟩,(a_ aL b1 (a_ aL a p).2).2)from rfl];generalize a_ aL b1 (a_ aL a p).2=R2 at*;generalize a_ aL a p=R1 at*;obtain⟨⟨e1,eu,gB⟩,p1⟩:=R1;obtain⟨⟨e2,eD,fX⟩,p2⟩:=R2;dsimp only at xV Kt L6 Ro Pg Rq Xz YN Uw Vw sW⊢;unfold jH at hm;refine eg hm (args:=[.pointer (some ⟨g,0,none⟩),lR 5 C4.zero (.slice (some ⟨b,off,none⟩) 2 ck)]) (n:=176) Tryz.func42 rfl rfl rfl ?_;clear hm;refine bJ (aV (bK rfl rfl rfl fun g3=>aF rfl fun g4=>?_));refine zL ?_
  repeat(first|refine GA ?_|refine gV (J (v:= .int .i64 5) ak.ty rfl (ah (i:=6) rfl rfl)) ?_)
  (repeat refine bJ ?_)
  refine ix (ι:=Ks×Value×Value×Value×Value×Nat×Nat) (fun y=>y.1.vs.length=p2.follow.length) (fun y=>[(0,.pointer (some ⟨g,0,none⟩)),(4,.pointer (some ⟨g4,0,none⟩)),(7,.pointer (some ⟨y.2.2.2.2.2.1,0,none⟩)),(8,.pointer (some ⟨y.2.2.2.2.2.2,0,none⟩))])
    (fun y=>jH g vf ve aL y.1 p2++[dT y.2.1 eu,dT y.2.2.1 gB,dT y.2.2.2.1 eD,dT y.2.2.2.2.1 fX,ap g4 #[.bool false,.slice none 0 0,.slice none 0 0] 137,ap y.2.2.2.2.2.1 #[.bool e1,y.2.1,y.2.2.1] 137,ap y.2.2.2.2.2.2 #[.bool e2,y.2.2.2.1,y.2.2.2.2.1] 137]) ?_ ?_
  · refine dw ([ap g3 (iP 5 C4.zero (.slice (some ⟨b,off,none⟩) 2 ck)).toArray 68]) (.calm 0 (.calm 1 (.calm 2 (.calm 3 (.calm 4 (.calm 6 (.calm 7 (.calm 8 (.calm 9 (.calm 10 (.three 5 (.three 11 (.two 12 (.one 13 (.one 14 (.one 15 (.done)))) 13 (.one 12 (.one 14 (.one 15 (.done))))) 12 (.two 11 (.one 13 (.one 14 (.one 15 (.done)))) 13 (.one 11 (.one 14 (.one 15 (.done))))) 13 (.two 11 (.one 12 (.one 14 (.one 15 (.done)))) 12 (.one 11 (.one 14 (.one 15 (.done)))))) 12 (.two 5 (.two 11 (.one 13 (.one 14 (.one 15 (.done)))) 13 (.one 11 (.one 14 (.one 15 (.done))))) 13 (.one 5 (.one 11 (.one 14 (.one 15 (.done)))))) 13 (.two 5 (.two 11 (.one 12 (.one 14 (.one 15 (.done)))) 12 (.one 11 (.one 14 (.one 15 (.done))))) 12 (.one 5 (.one 11 (.one 14 (.one 15 (.done))))))))))))))))) (bC [6]) ?_
    repeat(first|refine GW ?_|(refine GN ?_;first|refine QW (J (v:= .slice (some ⟨b,off,none⟩) 2 ck) ak.ty rfl (ah (i:=0) rfl rfl)) ?_|refine QW (aH (j:=0) aT.eq ak.ty rfl rfl (by decide)) ?_|refine QW (aH (j:=1) aT.eq ak.ty rfl rfl (by decide)) ?_|refine QW (aK ak.ty rfl rfl (L8 _)) ?_|refine QW (aK ak.ty rfl rfl (rO _)) ?_))
    refine q6 rfl rfl rfl ?_ ?_ ?_
    · refine aP [0,1,2,3,4,5] [6,7] (by decide) rfl rfl (fh aj.en rfl rfl rfl) (fun w hm hb=>Js w _ (dm (hm.pick [0,1,2,3,4,5] (by decide) rfl) oz) hb) rfl rfl rfl ?_
      rintro⟨⟨nL,nM,dZ,nN,jY,F1⟩,iC,ib⟩ gT;have gT:jY.length=p1.follow.length:=gT
      conv=>arg 8;simp only[zJ,bW,ret,id_eq,bm,jH]
      conv=>arg 7;simp only[bm]
      refine aw (bC [0]) ?_;refine q6 rfl rfl rfl ?_ ?_ ?_
      · refine aP [2,3,4,5,6,7] [0,1,8,9] (by decide) rfl rfl (fh aj.en rfl rfl rfl) (fun w hm hb=>sW ⟨nL,nM,dZ,nN,jY,F1⟩ gT w _ (dm (hm.pick [2,3,4,5,6,7] (by decide) rfl) gY) hb) rfl rfl rfl ?_
        rintro⟨⟨lh,lm,dq,lp,ic,F2⟩,fQ,gi⟩ dM;have dM:ic.length=p2.follow.length:=dM
        conv=>arg 8;simp only[zJ,bW,ret,id_eq,bm,jH]
        conv=>arg 7;simp only[bm]
        refine aw (bC [0]) ?_;refine dG rfl rfl ?_ ?_
        · refine aF rfl fun g7=>(aw (bC [0]) ?_)
          refine az rfl (aF rfl fun g8=>(aw (bC [0]) ?_));refine az rfl (aB (i:=2) rfl fun _ kN=>aB (i:=3) rfl fun _ kO=>aD (i:=12) (cs':=#[.bool e1,iC,ib]) rfl rfl rfl rfl (by simp only[List.all_cons,List.all_nil,kN,kO];rfl) rfl (aw (bC [0]) ?_))
          try refine GW ?_
          refine az rfl (aB (i:=10) rfl fun _ kP=>aB (i:=11) rfl fun _ kQ=>aD (i:=13) (cs':=#[.bool e2,fQ,gi]) rfl rfl rfl rfl (by simp only[List.all_cons,List.all_nil,kP,kQ];rfl) rfl (aw (bC [0]) ?_))
          try refine GW ?_
          refine bR [4,5,6,7,8,9,2,3,10,11,1,12,13] ?_;exact c_ (⟨lh,lm,dq,lp,ic,F2⟩,iC,ib,fQ,gi,g7,g8) dM (by repeat' (first|exact True.intro|refine And.intro rfl ?_)) rfl
        · refine aF rfl fun g8=>(aw (bC [0]) ?_)
          refine az rfl (aF rfl fun g7=>(aw (bC [0]) ?_));refine az rfl (aB (i:=2) rfl fun _ kN=>aB (i:=3) rfl fun _ kO=>aD (i:=13) (cs':=#[.bool e1,iC,ib]) rfl rfl rfl rfl (by simp only[List.all_cons,List.all_nil,kN,kO];rfl) rfl (aw (bC [0]) ?_))
          try refine GW ?_
          refine az rfl (aB (i:=10) rfl fun _ kP=>aB (i:=11) rfl fun _ kQ=>aD (i:=12) (cs':=#[.bool e2,fQ,gi]) rfl rfl rfl rfl (by simp only[List.all_cons,List.all_nil,kP,kQ];rfl) rfl (aw (bC [0]) ?_))
          try refine GW ?_
          refine bR [4,5,6,7,8,9,2,3,10,11,1,13,12] ?_;exact c_ (⟨lh,lm,dq,lp,ic,F2⟩,iC,ib,fQ,gi,g7,g8) dM (by repeat' (first|exact True.intro|refine And.intro rfl ?_)) rfl
      · refine aF rfl fun g7=>(aw (bC [0]) ?_)
        refine dG rfl rfl ?_ ?_
        · refine aP [2,3,4,5,6,7] [0,1,8,9,10] (by decide) rfl rfl (fh aj.en rfl rfl rfl) (fun w hm hb=>sW ⟨nL,nM,dZ,nN,jY,F1⟩ gT w _ (dm (hm.pick [2,3,4,5,6,7] (by decide) rfl) gY) hb) rfl rfl rfl ?_
          rintro⟨⟨lh,lm,dq,lp,ic,F2⟩,fQ,gi⟩ dM;have dM:ic.length=p2.follow.length:=dM
          conv=>arg 8;simp only[zJ,bW,ret,id_eq,bm,jH]
          conv=>arg 7;simp only[bm]
          refine aw (bC [0]) ?_;refine az rfl (aF rfl fun g8=>(aw (bC [0]) ?_));refine az rfl (aB (i:=2) rfl fun _ kN=>aB (i:=3) rfl fun _ kO=>aD (i:=4) (cs':=#[.bool e1,iC,ib]) rfl rfl rfl rfl (by simp only[List.all_cons,List.all_nil,kN,kO];rfl) rfl (aw (bC [0]) ?_))
          try refine GW ?_
          refine az rfl (aB (i:=11) rfl fun _ kP=>aB (i:=12) rfl fun _ kQ=>aD (i:=13) (cs':=#[.bool e2,fQ,gi]) rfl rfl rfl rfl (by simp only[List.all_cons,List.all_nil,kP,kQ];rfl) rfl (aw (bC [0]) ?_))
          try refine GW ?_
          refine bR [5,6,7,8,9,10,2,3,11,12,1,4,13] ?_;exact c_ (⟨lh,lm,dq,lp,ic,F2⟩,iC,ib,fQ,gi,g7,g8) dM (by repeat' (first|exact True.intro|refine And.intro rfl ?_)) rfl
        · refine aF rfl fun g8=>(aw (bC [0]) ?_)
          refine az rfl (aP [2,3,4,5,6,7] [0,1,8,9,10,11] (by decide) rfl rfl (fh aj.en rfl rfl rfl) (fun w hm hb=>sW ⟨nL,nM,dZ,nN,jY,F1⟩ gT w _ (dm (hm.pick [2,3,4,5,6,7] (by decide) rfl) gY) hb) rfl rfl rfl ?_);rintro⟨⟨lh,lm,dq,lp,ic,F2⟩,fQ,gi⟩ dM;have dM:ic.length=p2.follow.length:=dM
          conv=>arg 8;simp only[zJ,bW,ret,id_eq,bm,jH]
          conv=>arg 7;simp only[bm]
          refine aw (bC [0]) ?_;refine az rfl (aB (i:=2) rfl fun _ kN=>aB (i:=3) rfl fun _ kO=>aD (i:=4) (cs':=#[.bool e1,iC,ib]) rfl rfl rfl rfl (by simp only[List.all_cons,List.all_nil,kN,kO];rfl) rfl (aw (bC [0]) ?_))
          try refine GW ?_
          refine az rfl (aB (i:=12) rfl fun _ kP=>aB (i:=13) rfl fun _ kQ=>aD (i:=5) (cs':=#[.bool e2,fQ,gi]) rfl rfl rfl rfl (by simp only[List.all_cons,List.all_nil,kP,kQ];rfl) rfl (aw (bC [0]) ?_))
          try refine GW ?_
          refine bR [6,7,8,9,10,11,2,3,12,13,1,4,5] ?_;exact c_ (⟨lh,lm,dq,lp,ic,F2⟩,iC,ib,fQ,gi,g7,g8) dM (by repeat' (first|exact True.intro|refine And.intro rfl ?_)) rfl
      · refine aF rfl fun g8=>(aw (bC [0]) ?_)
        refine dG rfl rfl ?_ ?_
        · refine aP [2,3,4,5,6,7] [0,1,8,9,10] (by decide) rfl rfl (fh aj.en rfl rfl rfl) (fun w hm hb=>sW ⟨nL,nM,dZ,nN,jY,F1⟩ gT w _ (dm (hm.pick [2,3,4,5,6,7] (by decide) rfl) gY) hb) rfl rfl rfl ?_
          rintro⟨⟨lh,lm,dq,lp,ic,F2⟩,fQ,gi⟩ dM;have dM:ic.length=p2.follow.length:=dM
          conv=>arg 8;simp only[zJ,bW,ret,id_eq,bm,jH]
          conv=>arg 7;simp only[bm]
          refine aw (bC [0]) ?_;refine az rfl (aF rfl fun g7=>(aw (bC [0]) ?_));refine az rfl (aB (i:=2) rfl fun _ kN=>aB (i:=3) rfl fun _ kO=>aD (i:=13) (cs':=#[.bool e1,iC,ib]) rfl rfl rfl rfl (by simp only[List.all_cons,List.all_nil,kN,kO];rfl) rfl (aw (bC [0]) ?_))
          try refine GW ?_
          refine az rfl (aB (i:=11) rfl fun _ kP=>aB (i:=12) rfl fun _ kQ=>aD (i:=4) (cs':=#[.bool e2,fQ,gi]) rfl rfl rfl rfl (by simp only[List.all_cons,List.all_nil,kP,kQ];rfl) rfl (aw (bC [0]) ?_))
          try refine GW ?_
          refine bR [5,6,7,8,9,10,2,3,11,12,1,13,4] ?_;exact c_ (⟨lh,lm,dq,lp,ic,F2⟩,iC,ib,fQ,gi,g7,g8) dM (by repeat' (first|exact True.intro|refine And.intro rfl ?_)) rfl
        · refine aF rfl fun g7=>(aw (bC [0]) ?_)
          refine az rfl (aP [2,3,4,5,6,7] [0,1,8,9,10,11] (by decide) rfl rfl (fh aj.en rfl rfl rfl) (fun w hm hb=>sW ⟨nL,nM,dZ,nN,jY,F1⟩ gT w _ (dm (hm.pick [2,3,4,5,6,7] (by decide) rfl) gY) hb) rfl rfl rfl ?_);rintro⟨⟨lh,lm,dq,lp,ic,F2⟩,fQ,gi⟩ dM;have dM:ic.length=p2.follow.length:=dM
          conv=>arg 8;simp only[zJ,bW,ret,id_eq,bm,jH]
          conv=>arg 7;simp only[bm]
          refine aw (bC [0]) ?_;refine az rfl (aB (i:=2) rfl fun _ kN=>aB (i:=3) rfl fun _ kO=>aD (i:=5) (cs':=#[.bool e1,iC,ib]) rfl rfl rfl rfl (by simp only[List.all_cons,List.all_nil,kN,kO];rfl) rfl (aw (bC [0]) ?_))
          try refine GW ?_
          refine az rfl (aB (i:=12) rfl fun _ kP=>aB (i:=13) rfl fun _ kQ=>aD (i:=4) (cs':=#[.bool e2,fQ,gi]) rfl rfl rfl rfl (by simp only[List.all_cons,List.all_nil,kP,kQ];rfl) rfl (aw (bC [0]) ?_))
          try refine GW ?_
          refine bR [6,7,8,9,10,11,2,3,12,13,1,5,4] ?_;exact c_ (⟨lh,lm,dq,lp,ic,F2⟩,iC,ib,fQ,gi,g7,g8) dM (by repeat' (first|exact True.intro|refine And.intro rfl ?_)) rfl
    · refine aF rfl fun g7=>(aw (bC [6]) ?_)
      refine dG rfl rfl ?_ ?_
      · refine aP [0,1,2,3,4,5] [6,7,8] (by decide) rfl rfl (fh aj.en rfl rfl rfl) (fun w hm hb=>Js w _ (dm (hm.pick [0,1,2,3,4,5] (by decide) rfl) oz) hb) rfl rfl rfl ?_
        rintro⟨⟨nL,nM,dZ,nN,jY,F1⟩,iC,ib⟩ gT;have gT:jY.length=p1.follow.length:=gT
        conv=>arg 8;simp only[zJ,bW,ret,id_eq,bm,jH]
        conv=>arg 7;simp only[bm]
        refine aw (bC [0]) ?_;refine dG rfl rfl ?_ ?_
        · refine aP [3,4,5,6,7,8] [0,1,2,9,10] (by decide) rfl rfl (fh aj.en rfl rfl rfl) (fun w hm hb=>sW ⟨nL,nM,dZ,nN,jY,F1⟩ gT w _ (dm (hm.pick [3,4,5,6,7,8] (by decide) rfl) gY) hb) rfl rfl rfl ?_
          rintro⟨⟨lh,lm,dq,lp,ic,F2⟩,fQ,gi⟩ dM;have dM:ic.length=p2.follow.length:=dM
          conv=>arg 8;simp only[zJ,bW,ret,id_eq,bm,jH]
          conv=>arg 7;simp only[bm]
          refine aw (bC [0]) ?_;refine az rfl (aF rfl fun g8=>(aw (bC [0]) ?_));refine az rfl (aB (i:=3) rfl fun _ kN=>aB (i:=4) rfl fun _ kO=>aD (i:=2) (cs':=#[.bool e1,iC,ib]) rfl rfl rfl rfl (by simp only[List.all_cons,List.all_nil,kN,kO];rfl) rfl (aw (bC [0]) ?_))
          try refine GW ?_
          refine az rfl (aB (i:=11) rfl fun _ kP=>aB (i:=12) rfl fun _ kQ=>aD (i:=13) (cs':=#[.bool e2,fQ,gi]) rfl rfl rfl rfl (by simp only[List.all_cons,List.all_nil,kP,kQ];rfl) rfl (aw (bC [0]) ?_))
          try refine GW ?_
          refine bR [5,6,7,8,9,10,3,4,11,12,1,2,13] ?_;exact c_ (⟨lh,lm,dq,lp,ic,F2⟩,iC,ib,fQ,gi,g7,g8) dM (by repeat' (first|exact True.intro|refine And.intro rfl ?_)) rfl
        · refine aF rfl fun g8=>(aw (bC [0]) ?_)
          refine az rfl (aP [3,4,5,6,7,8] [0,1,2,9,10,11] (by decide) rfl rfl (fh aj.en rfl rfl rfl) (fun w hm hb=>sW ⟨nL,nM,dZ,nN,jY,F1⟩ gT w _ (dm (hm.pick [3,4,5,6,7,8] (by decide) rfl) gY) hb) rfl rfl rfl ?_);rintro⟨⟨lh,lm,dq,lp,ic,F2⟩,fQ,gi⟩ dM;have dM:ic.length=p2.follow.length:=dM
          conv=>arg 8;simp only[zJ,bW,ret,id_eq,bm,jH]
          conv=>arg 7;simp only[bm]
          refine aw (bC [0]) ?_;refine az rfl (aB (i:=3) rfl fun _ kN=>aB (i:=4) rfl fun _ kO=>aD (i:=2) (cs':=#[.bool e1,iC,ib]) rfl rfl rfl rfl (by simp only[List.all_cons,List.all_nil,kN,kO];rfl) rfl (aw (bC [0]) ?_))
          try refine GW ?_
          refine az rfl (aB (i:=12) rfl fun _ kP=>aB (i:=13) rfl fun _ kQ=>aD (i:=5) (cs':=#[.bool e2,fQ,gi]) rfl rfl rfl rfl (by simp only[List.all_cons,List.all_nil,kP,kQ];rfl) rfl (aw (bC [0]) ?_))
          try refine GW ?_
          refine bR [6,7,8,9,10,11,3,4,12,13,1,2,5] ?_;exact c_ (⟨lh,lm,dq,lp,ic,F2⟩,iC,ib,fQ,gi,g7,g8) dM (by repeat' (first|exact True.intro|refine And.intro rfl ?_)) rfl
      · refine aF rfl fun g8=>(aw (bC [6]) ?_)
        refine az rfl (aP [0,1,2,3,4,5] [6,7,8,9] (by decide) rfl rfl (fh aj.en rfl rfl rfl) (fun w hm hb=>Js w _ (dm (hm.pick [0,1,2,3,4,5] (by decide) rfl) oz) hb) rfl rfl rfl ?_);rintro⟨⟨nL,nM,dZ,nN,jY,F1⟩,iC,ib⟩ gT;have gT:jY.length=p1.follow.length:=gT
        conv=>arg 8;simp only[zJ,bW,ret,id_eq,bm,jH]
        conv=>arg 7;simp only[bm]
        refine aw (bC [0]) ?_;refine az rfl (aP [4,5,6,7,8,9] [0,1,2,3,10,11] (by decide) rfl rfl (fh aj.en rfl rfl rfl) (fun w hm hb=>sW ⟨nL,nM,dZ,nN,jY,F1⟩ gT w _ (dm (hm.pick [4,5,6,7,8,9] (by decide) rfl) gY) hb) rfl rfl rfl ?_);rintro⟨⟨lh,lm,dq,lp,ic,F2⟩,fQ,gi⟩ dM;have dM:ic.length=p2.follow.length:=dM
        conv=>arg 8;simp only[zJ,bW,ret,id_eq,bm,jH]
        conv=>arg 7;simp only[bm]
        refine aw (bC [0]) ?_;refine az rfl (aB (i:=4) rfl fun _ kN=>aB (i:=5) rfl fun _ kO=>aD (i:=2) (cs':=#[.bool e1,iC,ib]) rfl rfl rfl rfl (by simp only[List.all_cons,List.all_nil,kN,kO];rfl) rfl (aw (bC [0]) ?_))
        try refine GW ?_
        refine az rfl (aB (i:=12) rfl fun _ kP=>aB (i:=13) rfl fun _ kQ=>aD (i:=3) (cs':=#[.bool e2,fQ,gi]) rfl rfl rfl rfl (by simp only[List.all_cons,List.all_nil,kP,kQ];rfl) rfl (aw (bC [0]) ?_))
        try refine GW ?_
        refine bR [6,7,8,9,10,11,4,5,12,13,1,2,3] ?_;exact c_ (⟨lh,lm,dq,lp,ic,F2⟩,iC,ib,fQ,gi,g7,g8) dM (by repeat' (first|exact True.intro|refine And.intro rfl ?_)) rfl
    · refine aF rfl fun g8=>(aw (bC [6]) ?_)
      refine dG rfl rfl ?_ ?_
      · refine aP [0,1,2,3,4,5] [6,7,8] (by decide) rfl rfl (fh aj.en rfl rfl rfl) (fun w hm hb=>Js w _ (dm (hm.pick [0,1,2,3,4,5] (by decide) rfl) oz) hb) rfl rfl rfl ?_
        rintro⟨⟨nL,nM,dZ,nN,jY,F1⟩,iC,ib⟩ gT;have gT:jY.length=p1.follow.length:=gT
        conv=>arg 8;simp only[zJ,bW,ret,id_eq,bm,jH]
        conv=>arg 7;simp only[bm]
        refine aw (bC [0]) ?_;refine dG rfl rfl ?_ ?_
        · refine aP [3,4,5,6,7,8] [0,1,2,9,10] (by decide) rfl rfl (fh aj.en rfl rfl rfl) (fun w hm hb=>sW ⟨nL,nM,dZ,nN,jY,F1⟩ gT w _ (dm (hm.pick [3,4,5,6,7,8] (by decide) rfl) gY) hb) rfl rfl rfl ?_
          rintro⟨⟨lh,lm,dq,lp,ic,F2⟩,fQ,gi⟩ dM;have dM:ic.length=p2.follow.length:=dM
          conv=>arg 8;simp only[zJ,bW,ret,id_eq,bm,jH]
          conv=>arg 7;simp only[bm]
          refine aw (bC [0]) ?_;refine az rfl (aF rfl fun g7=>(aw (bC [0]) ?_));refine az rfl (aB (i:=3) rfl fun _ kN=>aB (i:=4) rfl fun _ kO=>aD (i:=13) (cs':=#[.bool e1,iC,ib]) rfl rfl rfl rfl (by simp only[List.all_cons,List.all_nil,kN,kO];rfl) rfl (aw (bC [0]) ?_))
          try refine GW ?_
          refine az rfl (aB (i:=11) rfl fun _ kP=>aB (i:=12) rfl fun _ kQ=>aD (i:=2) (cs':=#[.bool e2,fQ,gi]) rfl rfl rfl rfl (by simp only[List.all_cons,List.all_nil,kP,kQ];rfl) rfl (aw (bC [0]) ?_))
          try refine GW ?_
          refine bR [5,6,7,8,9,10,3,4,11,12,1,13,2] ?_;exact c_ (⟨lh,lm,dq,lp,ic,F2⟩,iC,ib,fQ,gi,g7,g8) dM (by repeat' (first|exact True.intro|refine And.intro rfl ?_)) rfl
        · refine aF rfl fun g7=>(aw (bC [0]) ?_)
          refine az rfl (aP [3,4,5,6,7,8] [0,1,2,9,10,11] (by decide) rfl rfl (fh aj.en rfl rfl rfl) (fun w hm hb=>sW ⟨nL,nM,dZ,nN,jY,F1⟩ gT w _ (dm (hm.pick [3,4,5,6,7,8] (by decide) rfl) gY) hb) rfl rfl rfl ?_);rintro⟨⟨lh,lm,dq,lp,ic,F2⟩,fQ,gi⟩ dM;have dM:ic.length=p2.follow.length:=dM
          conv=>arg 8;simp only[zJ,bW,ret,id_eq,bm,jH]
          conv=>arg 7;simp only[bm]
          refine aw (bC [0]) ?_;refine az rfl (aB (i:=3) rfl fun _ kN=>aB (i:=4) rfl fun _ kO=>aD (i:=5) (cs':=#[.bool e1,iC,ib]) rfl rfl rfl rfl (by simp only[List.all_cons,List.all_nil,kN,kO];rfl) rfl (aw (bC [0]) ?_))
          try refine GW ?_
          refine az rfl (aB (i:=12) rfl fun _ kP=>aB (i:=13) rfl fun _ kQ=>aD (i:=2) (cs':=#[.bool e2,fQ,gi]) rfl rfl rfl rfl (by simp only[List.all_cons,List.all_nil,kP,kQ];rfl) rfl (aw (bC [0]) ?_))
          try refine GW ?_
          refine bR [6,7,8,9,10,11,3,4,12,13,1,5,2] ?_;exact c_ (⟨lh,lm,dq,lp,ic,F2⟩,iC,ib,fQ,gi,g7,g8) dM (by repeat' (first|exact True.intro|refine And.intro rfl ?_)) rfl
      · refine aF rfl fun g7=>(aw (bC [6]) ?_)
        refine az rfl (aP [0,1,2,3,4,5] [6,7,8,9] (by decide) rfl rfl (fh aj.en rfl rfl rfl) (fun w hm hb=>Js w _ (dm (hm.pick [0,1,2,3,4,5] (by decide) rfl) oz) hb) rfl rfl rfl ?_);rintro⟨⟨nL,nM,dZ,nN,jY,F1⟩,iC,ib⟩ gT;have gT:jY.length=p1.follow.length:=gT
        conv=>arg 8;simp only[zJ,bW,ret,id_eq,bm,jH]
        conv=>arg 7;simp only[bm]
        refine aw (bC [0]) ?_;refine az rfl (aP [4,5,6,7,8,9] [0,1,2,3,10,11] (by decide) rfl rfl (fh aj.en rfl rfl rfl) (fun w hm hb=>sW ⟨nL,nM,dZ,nN,jY,F1⟩ gT w _ (dm (hm.pick [4,5,6,7,8,9] (by decide) rfl) gY) hb) rfl rfl rfl ?_);rintro⟨⟨lh,lm,dq,lp,ic,F2⟩,fQ,gi⟩ dM;have dM:ic.length=p2.follow.length:=dM
        conv=>arg 8;simp only[zJ,bW,ret,id_eq,bm,jH]
        conv=>arg 7;simp only[bm]
        refine aw (bC [0]) ?_;refine az rfl (aB (i:=4) rfl fun _ kN=>aB (i:=5) rfl fun _ kO=>aD (i:=3) (cs':=#[.bool e1,iC,ib]) rfl rfl rfl rfl (by simp only[List.all_cons,List.all_nil,kN,kO];rfl) rfl (aw (bC [0]) ?_))
        try refine GW ?_
        refine az rfl (aB (i:=12) rfl fun _ kP=>aB (i:=13) rfl fun _ kQ=>aD (i:=2) (cs':=#[.bool e2,fQ,gi]) rfl rfl rfl rfl (by simp only[List.all_cons,List.all_nil,kP,kQ];rfl) rfl (aw (bC [0]) ?_))
        try refine GW ?_
        refine bR [6,7,8,9,10,11,4,5,12,13,1,3,2] ?_;exact c_ (⟨lh,lm,dq,lp,ic,F2⟩,iC,ib,fQ,gi,g7,g8) dM (by repeat' (first|exact True.intro|refine And.intro rfl ?_)) rfl
  clear Js sW L8 rO;rintro⟨⟨vc,vr,vfol,vl,vs,F⟩,iC,ib,fQ,gi,g7,g8⟩ dM;have dM:vs.length=p2.follow.length:=dM;dsimp only
  conv=>arg 7;simp only[zA,zB,zC,zD,zE,zF,zG,zH,zI,bW,ret,id_eq,jH]
  have IM:=fO Ro;have Cs:=fO Pg;have Ux:=fO Uw;have hl4:=fO Vw
  cases e1 with
  | true=>
    (repeat refine bJ ?_)
    refine dw ([ap g7 #[.bool true,iC,ib] 137,ap g8 #[.bool e2,fQ,gi] 137]) (.calm 0 (.calm 1 (.calm 2 (.calm 3 (.calm 4 (.calm 5 (.calm 6 (.calm 7 (.calm 8 (.calm 9 (.calm 11 (.calm 12 (.calm 13 (.calm 14 (.one 10 (.one 15 (.calm 16 (.one 17 (.done))))))))))))))))))) (bC [11,12]) ?_
    repeat(first|refine GW ?_|(refine GN ?_;first|refine QW (J ak.ty rfl (ah (i:=0) rfl rfl)) ?_|refine QW (J ak.ty rfl (ah (i:=1) rfl rfl)) ?_))
    refine az rfl (aM (fh aj.en rfl rfl rfl) (fun w' hm=>eG iC fQ eu eD w' (Sl.cD (hm.get (i:=6) rfl)) (Sl.cD (hm.get (i:=8) rfl)) (by omega) (by omega)) rfl rfl rfl ?_);intro vu _
    conv=>arg 8;simp only[zJ,bW,ret,id_eq,nF]
    refine aw (bC [11,12]) ?_
    try refine GW ?_
    refine az rfl (aM (fh aj.en rfl rfl rfl) (fun w' hm=>eG ib gi gB fX w' (Sl.cD (hm.get (i:=7) rfl)) (Sl.cD (hm.get (i:=9) rfl)) (by omega) (by omega)) rfl rfl rfl ?_);intro S3 _
    conv=>arg 8;simp only[zJ,bW,ret,id_eq,nF]
    refine mO (i:=13) rfl fun bu cu hu _ _=>?_;refine mO (i:=14) rfl fun Vx Vy YO _ _=>?_;subst hu YO;refine aw (bC [11,12]) ?_
    repeat(first|refine GW ?_|(refine GN ?_;first|refine QW (aU rfl (jx _ _ _ _ _ _ _)) ?_))
    refine az rfl (aD (i:=10) (cs':=#[.bool true,.slice bu (lX eu eD).length cu,.slice Vx (lX gB fX).length Vy]) rfl rfl rfl rfl rfl rfl (aw (bC [11,12]) ?_))
    try refine GW ?_
    try refine GA ?_
    refine e8 (i:=10) rfl rfl rfl rfl fun w hm=>?_;exact hm.bV (S:=bm g vf ve aL (⟨true||e2,lX eu eD,lX gB fX⟩,p2)) (⟨vc,vr,vfol,vl,vs,F⟩,.slice bu (lX eu eD).length cu,.slice Vx (lX gB fX).length Vy) dM [0,1,2,3,4,5,13,14] (by decide) rfl
  | false=>
    (repeat refine bJ ?_)
    refine dw ([ap g7 #[.bool false,iC,ib] 137,ap g8 #[.bool e2,fQ,gi] 137]) (.calm 0 (.calm 1 (.calm 2 (.calm 3 (.calm 4 (.calm 5 (.calm 6 (.calm 7 (.calm 8 (.calm 9 (.calm 11 (.calm 12 (.calm 13 (.calm 14 (.one 10 (.one 15 (.calm 16 (.one 17 (.done))))))))))))))))))) (bC [11,12]) ?_
    repeat(first|refine GW ?_|(refine GN ?_;first|refine QW (J ak.ty rfl (ah (i:=0) rfl rfl)) ?_|refine QW (J ak.ty rfl (ah (i:=1) rfl rfl)) ?_))
    refine az rfl (aM (fh aj.en rfl rfl rfl) (fun w' hm=>eG iC fQ eu eD w' (Sl.cD (hm.get (i:=6) rfl)) (Sl.cD (hm.get (i:=8) rfl)) (by omega) (by omega)) rfl rfl rfl ?_);intro vu _
    conv=>arg 8;simp only[zJ,bW,ret,id_eq,nF]
    refine aw (bC [11,12]) ?_
    try refine GW ?_
    refine az rfl (aM (fh aj.en rfl rfl rfl) (fun w' hm=>eG ib gi gB fX w' (Sl.cD (hm.get (i:=7) rfl)) (Sl.cD (hm.get (i:=9) rfl)) (by omega) (by omega)) rfl rfl rfl ?_);intro S3 _
    conv=>arg 8;simp only[zJ,bW,ret,id_eq,nF]
    refine mO (i:=13) rfl fun bu cu hu _ _=>?_;refine mO (i:=14) rfl fun Vx Vy YO _ _=>?_;subst hu YO;refine aw (bC [11,12]) ?_
    repeat(first|refine GW ?_|(refine GN ?_;first|refine QW (aU rfl (jx _ _ _ _ _ _ _)) ?_))
    refine az rfl (aD (i:=10) (cs':=#[.bool e2,.slice bu (lX eu eD).length cu,.slice Vx (lX gB fX).length Vy]) rfl rfl rfl rfl rfl rfl (aw (bC [11,12]) ?_))
    try refine GW ?_
    try refine GA ?_
    refine e8 (i:=10) rfl rfl rfl rfl fun w hm=>?_;exact hm.bV (S:=bm g vf ve aL (⟨false||e2,lX eu eD,lX gB fX⟩,p2)) (⟨vc,vr,vfol,vl,vs,F⟩,.slice bu (lX eu eD).length cu,.slice Vx (lX gB fX).length Vy) dM [0,1,2,3,4,5,13,14] (by decide) rfl
end bH
namespace bH
open Go.RowKit bL db bO d_ cV
set_option maxRecDepth 100000 in
theorem L9{M:Nat}(IH:A4 M)(a b1:Re)(ha:a.size<=M)(ya:b1.size<=M)(g:Nat)(vf ve:Value)(aL:Int)(p:PS)(x:Ks)(v:Value)(w:World)(B:bB)(hp:CX p)(hx:x.vs.length=p.follow.length)(hn:p.aC.length+(a.size+b1.size+1)<=100000)(Fm:bL.bX aL)(hv:jW (sU B) B.w v (il (.Ay a b1)))(hm:Mem B (jH g vf ve aL x p) w):
    Calls Tryz.prog 42 #[.pointer (some ⟨g,0,none⟩),v] w (dc (bm g vf ve aL (a_ aL (.Ay a b1) p)) B):=by
  obtain⟨vk,rfl,_,Hg⟩:=hv;obtain⟨bk,ck,rfl,h1,h2,h3⟩:=Hg;obtain⟨b,off,rfl,hF,eV⟩:=h3 (by show 0<2;decide);obtain⟨kb,kc,hr,oz⟩:=lA (k:=0) eV (by show 0<2;decide);obtain⟨YL,YM,l_,gY⟩:=lA (k:=1) eV (by show 1<2;decide);have L8:=fun(L:List bz) (j:Nat) (v:Value) hj=>nj (L:=L) hF hr j v hj;have rO:=fun(L:List bz) (j:Nat) (v:Value) hj=>nj (L:=L) hF l_ j v hj;clear h3 eV hr l_;obtain⟨xV,Kt,L6,Ro,Pg⟩:=iq aL a p hp;obtain⟨Rq,Xz,YN,Uw,Vw⟩:=iq aL b1 _ xV;have Js:=fun w B hv hm=>IH a ha g vf ve aL p x (lR (il a).kind (il a).nU (.slice kb (il a).kids.length kc)) w B hp hx (by omega) Fm hv hm;have sW:=fun x1 gT w B hv hm=>IH b1 ya g vf ve aL (a_ aL a p).2 x1 (lR (il b1).kind (il b1).nU (.slice YL (il b1).kids.length YM)) w B xV gT (by omega) Fm hv hm;rw[show a_ aL (.Ay a b1) p=(⟨(a_ aL a p).1.empty&&(a_ aL b1 (a_ aL a p).2).1.empty,if(a_ aL a p).1.empty then lX (a_ aL a p).1.first (a_ aL b1 (a_ aL a p).2).1.first else(a_ aL a p).1.first,if(a_ aL b1 (a_ aL a p).2).1.empty then lX (a_ aL a p).1.last (a_ aL b1 (a_ aL a p).2).1.last else(a_ aL b1 (a_ aL a p).2).1.last⟩,{(a_ aL b1 (a_ aL a p).2).2 with follow:=dD (a_ aL b1 (a_ aL a p).2).2.follow (a_ aL a p).1.last (a_ aL b1 (a_ aL a p).2).1.first})from rfl];generalize a_ aL b1 (a_ aL a p).2=R2 at*;generalize a_ aL a p=R1 at*;obtain⟨⟨e1,eu,gB⟩,p1⟩:=R1;obtain⟨⟨e2,eD,fX⟩,p2⟩:=R2;dsimp only at xV Kt L6 Ro Pg Rq Xz YN Uw Vw sW⊢;unfold jH at hm;refine eg hm (args:=[.pointer (some ⟨g,0,none⟩),lR 4 C4.zero (.slice (some ⟨b,off,none⟩) 2 ck)]) (n:=176) Tryz.func42 rfl rfl rfl ?_;clear hm;refine bJ (aV (bK rfl rfl rfl fun g3=>aF rfl fun g4=>?_));refine zL ?_
  repeat(first|refine GA ?_|refine gV (J (v:= .int .i64 4) ak.ty rfl (ah (i:=6) rfl rfl)) ?_)
  (repeat refine bJ ?_)
  refine ix (ι:=Ks×Value×Value×Value×Value×Nat×Nat) (fun y=>y.1.vs.length=p2.follow.length) (fun y=>[(0,.pointer (some ⟨g,0,none⟩)),(4,.pointer (some ⟨g4,0,none⟩)),(9,.pointer (some ⟨y.2.2.2.2.2.1,0,none⟩)),(10,.pointer (some ⟨y.2.2.2.2.2.2,0,none⟩))])
    (fun y=>jH g vf ve aL y.1 p2++[dT y.2.1 eu,dT y.2.2.1 gB,dT y.2.2.2.1 eD,dT y.2.2.2.2.1 fX,ap g4 #[.bool false,.slice none 0 0,.slice none 0 0] 137,ap y.2.2.2.2.2.1 #[.bool e1,y.2.1,y.2.2.1] 137,ap y.2.2.2.2.2.2 #[.bool e2,y.2.2.2.1,y.2.2.2.2.1] 137]) ?_ ?_
  · refine dw ([ap g3 (iP 4 C4.zero (.slice (some ⟨b,off,none⟩) 2 ck)).toArray 68]) (.calm 0 (.calm 1 (.calm 2 (.calm 3 (.calm 4 (.calm 6 (.calm 7 (.calm 8 (.calm 9 (.calm 10 (.three 5 (.three 11 (.two 12 (.one 13 (.one 14 (.one 15 (.done)))) 13 (.one 12 (.one 14 (.one 15 (.done))))) 12 (.two 11 (.one 13 (.one 14 (.one 15 (.done)))) 13 (.one 11 (.one 14 (.one 15 (.done))))) 13 (.two 11 (.one 12 (.one 14 (.one 15 (.done)))) 12 (.one 11 (.one 14 (.one 15 (.done)))))) 12 (.two 5 (.two 11 (.one 13 (.one 14 (.one 15 (.done)))) 13 (.one 11 (.one 14 (.one 15 (.done))))) 13 (.one 5 (.one 11 (.one 14 (.one 15 (.done)))))) 13 (.two 5 (.two 11 (.one 12 (.one 14 (.one 15 (.done)))) 12 (.one 11 (.one 14 (.one 15 (.done))))) 12 (.one 5 (.one 11 (.one 14 (.one 15 (.done))))))))))))))))) (bC [6]) ?_
    repeat(first|refine GW ?_|(refine GN ?_;first|refine QW (J (v:= .slice (some ⟨b,off,none⟩) 2 ck) ak.ty rfl (ah (i:=0) rfl rfl)) ?_|refine QW (aH (j:=0) aT.eq ak.ty rfl rfl (by decide)) ?_|refine QW (aH (j:=1) aT.eq ak.ty rfl rfl (by decide)) ?_|refine QW (aK ak.ty rfl rfl (L8 _)) ?_|refine QW (aK ak.ty rfl rfl (rO _)) ?_))
    refine q6 rfl rfl rfl ?_ ?_ ?_
    · refine aP [0,1,2,3,4,5] [6,7] (by decide) rfl rfl (fh aj.en rfl rfl rfl) (fun w hm hb=>Js w _ (dm (hm.pick [0,1,2,3,4,5] (by decide) rfl) oz) hb) rfl rfl rfl ?_
      rintro⟨⟨nL,nM,dZ,nN,jY,F1⟩,iC,ib⟩ gT;have gT:jY.length=p1.follow.length:=gT
      conv=>arg 8;simp only[zJ,bW,ret,id_eq,bm,jH]
      conv=>arg 7;simp only[bm]
      refine aw (bC [0]) ?_;refine q6 rfl rfl rfl ?_ ?_ ?_
      · refine aP [2,3,4,5,6,7] [0,1,8,9] (by decide) rfl rfl (fh aj.en rfl rfl rfl) (fun w hm hb=>sW ⟨nL,nM,dZ,nN,jY,F1⟩ gT w _ (dm (hm.pick [2,3,4,5,6,7] (by decide) rfl) gY) hb) rfl rfl rfl ?_
        rintro⟨⟨lh,lm,dq,lp,ic,F2⟩,fQ,gi⟩ dM;have dM:ic.length=p2.follow.length:=dM
        conv=>arg 8;simp only[zJ,bW,ret,id_eq,bm,jH]
        conv=>arg 7;simp only[bm]
        refine aw (bC [0]) ?_;refine dG rfl rfl ?_ ?_
        · refine aF rfl fun g7=>(aw (bC [0]) ?_)
          refine az rfl (aF rfl fun g8=>(aw (bC [0]) ?_));refine az rfl (aB (i:=2) rfl fun _ kN=>aB (i:=3) rfl fun _ kO=>aD (i:=12) (cs':=#[.bool e1,iC,ib]) rfl rfl rfl rfl (by simp only[List.all_cons,List.all_nil,kN,kO];rfl) rfl (aw (bC [0]) ?_))
          try refine GW ?_
          refine az rfl (aB (i:=10) rfl fun _ kP=>aB (i:=11) rfl fun _ kQ=>aD (i:=13) (cs':=#[.bool e2,fQ,gi]) rfl rfl rfl rfl (by simp only[List.all_cons,List.all_nil,kP,kQ];rfl) rfl (aw (bC [0]) ?_))
          try refine GW ?_
          refine bR [4,5,6,7,8,9,2,3,10,11,1,12,13] ?_;exact c_ (⟨lh,lm,dq,lp,ic,F2⟩,iC,ib,fQ,gi,g7,g8) dM (by repeat' (first|exact True.intro|refine And.intro rfl ?_)) rfl
        · refine aF rfl fun g8=>(aw (bC [0]) ?_)
          refine az rfl (aF rfl fun g7=>(aw (bC [0]) ?_));refine az rfl (aB (i:=2) rfl fun _ kN=>aB (i:=3) rfl fun _ kO=>aD (i:=13) (cs':=#[.bool e1,iC,ib]) rfl rfl rfl rfl (by simp only[List.all_cons,List.all_nil,kN,kO];rfl) rfl (aw (bC [0]) ?_))
          try refine GW ?_
          refine az rfl (aB (i:=10) rfl fun _ kP=>aB (i:=11) rfl fun _ kQ=>aD (i:=12) (cs':=#[.bool e2,fQ,gi]) rfl rfl rfl rfl (by simp only[List.all_cons,List.all_nil,kP,kQ];rfl) rfl (aw (bC [0]) ?_))
          try refine GW ?_
          refine bR [4,5,6,7,8,9,2,3,10,11,1,13,12] ?_;exact c_ (⟨lh,lm,dq,lp,ic,F2⟩,iC,ib,fQ,gi,g7,g8) dM (by repeat' (first|exact True.intro|refine And.intro rfl ?_)) rfl
      · refine aF rfl fun g7=>(aw (bC [0]) ?_)
        refine dG rfl rfl ?_ ?_
        · refine aP [2,3,4,5,6,7] [0,1,8,9,10] (by decide) rfl rfl (fh aj.en rfl rfl rfl) (fun w hm hb=>sW ⟨nL,nM,dZ,nN,jY,F1⟩ gT w _ (dm (hm.pick [2,3,4,5,6,7] (by decide) rfl) gY) hb) rfl rfl rfl ?_
          rintro⟨⟨lh,lm,dq,lp,ic,F2⟩,fQ,gi⟩ dM;have dM:ic.length=p2.follow.length:=dM
          conv=>arg 8;simp only[zJ,bW,ret,id_eq,bm,jH]
          conv=>arg 7;simp only[bm]
          refine aw (bC [0]) ?_;refine az rfl (aF rfl fun g8=>(aw (bC [0]) ?_));refine az rfl (aB (i:=2) rfl fun _ kN=>aB (i:=3) rfl fun _ kO=>aD (i:=4) (cs':=#[.bool e1,iC,ib]) rfl rfl rfl rfl (by simp only[List.all_cons,List.all_nil,kN,kO];rfl) rfl (aw (bC [0]) ?_))
          try refine GW ?_
          refine az rfl (aB (i:=11) rfl fun _ kP=>aB (i:=12) rfl fun _ kQ=>aD (i:=13) (cs':=#[.bool e2,fQ,gi]) rfl rfl rfl rfl (by simp only[List.all_cons,List.all_nil,kP,kQ];rfl) rfl (aw (bC [0]) ?_))
          try refine GW ?_
          refine bR [5,6,7,8,9,10,2,3,11,12,1,4,13] ?_;exact c_ (⟨lh,lm,dq,lp,ic,F2⟩,iC,ib,fQ,gi,g7,g8) dM (by repeat' (first|exact True.intro|refine And.intro rfl ?_)) rfl
        · refine aF rfl fun g8=>(aw (bC [0]) ?_)
          refine az rfl (aP [2,3,4,5,6,7] [0,1,8,9,10,11] (by decide) rfl rfl (fh aj.en rfl rfl rfl) (fun w hm hb=>sW ⟨nL,nM,dZ,nN,jY,F1⟩ gT w _ (dm (hm.pick [2,3,4,5,6,7] (by decide) rfl) gY) hb) rfl rfl rfl ?_);rintro⟨⟨lh,lm,dq,lp,ic,F2⟩,fQ,gi⟩ dM;have dM:ic.length=p2.follow.length:=dM
          conv=>arg 8;simp only[zJ,bW,ret,id_eq,bm,jH]
          conv=>arg 7;simp only[bm]
          refine aw (bC [0]) ?_;refine az rfl (aB (i:=2) rfl fun _ kN=>aB (i:=3) rfl fun _ kO=>aD (i:=4) (cs':=#[.bool e1,iC,ib]) rfl rfl rfl rfl (by simp only[List.all_cons,List.all_nil,kN,kO];rfl) rfl (aw (bC [0]) ?_))
          try refine GW ?_
          refine az rfl (aB (i:=12) rfl fun _ kP=>aB (i:=13) rfl fun _ kQ=>aD (i:=5) (cs':=#[.bool e2,fQ,gi]) rfl rfl rfl rfl (by simp only[List.all_cons,List.all_nil,kP,kQ];rfl) rfl (aw (bC [0]) ?_))
          try refine GW ?_
          refine bR [6,7,8,9,10,11,2,3,12,13,1,4,5] ?_;exact c_ (⟨lh,lm,dq,lp,ic,F2⟩,iC,ib,fQ,gi,g7,g8) dM (by repeat' (first|exact True.intro|refine And.intro rfl ?_)) rfl
      · refine aF rfl fun g8=>(aw (bC [0]) ?_)
        refine dG rfl rfl ?_ ?_
        · refine aP [2,3,4,5,6,7] [0,1,8,9,10] (by decide) rfl rfl (fh aj.en rfl rfl rfl) (fun w hm hb=>sW ⟨nL,nM,dZ,nN,jY,F1⟩ gT w _ (dm (hm.pick [2,3,4,5,6,7] (by decide) rfl) gY) hb) rfl rfl rfl ?_
          rintro⟨⟨lh,lm,dq,lp,ic,F2⟩,fQ,gi⟩ dM;have dM:ic.length=p2.follow.length:=dM
          conv=>arg 8;simp only[zJ,bW,ret,id_eq,bm,jH]
          conv=>arg 7;simp only[bm]
          refine aw (bC [0]) ?_;refine az rfl (aF rfl fun g7=>(aw (bC [0]) ?_));refine az rfl (aB (i:=2) rfl fun _ kN=>aB (i:=3) rfl fun _ kO=>aD (i:=13) (cs':=#[.bool e1,iC,ib]) rfl rfl rfl rfl (by simp only[List.all_cons,List.all_nil,kN,kO];rfl) rfl (aw (bC [0]) ?_))
          try refine GW ?_
          refine az rfl (aB (i:=11) rfl fun _ kP=>aB (i:=12) rfl fun _ kQ=>aD (i:=4) (cs':=#[.bool e2,fQ,gi]) rfl rfl rfl rfl (by simp only[List.all_cons,List.all_nil,kP,kQ];rfl) rfl (aw (bC [0]) ?_))
          try refine GW ?_
          refine bR [5,6,7,8,9,10,2,3,11,12,1,13,4] ?_;exact c_ (⟨lh,lm,dq,lp,ic,F2⟩,iC,ib,fQ,gi,g7,g8) dM (by repeat' (first|exact True.intro|refine And.intro rfl ?_)) rfl
        · refine aF rfl fun g7=>(aw (bC [0]) ?_)
          refine az rfl (aP [2,3,4,5,6,7] [0,1,8,9,10,11] (by decide) rfl rfl (fh aj.en rfl rfl rfl) (fun w hm hb=>sW ⟨nL,nM,dZ,nN,jY,F1⟩ gT w _ (dm (hm.pick [2,3,4,5,6,7] (by decide) rfl) gY) hb) rfl rfl rfl ?_);rintro⟨⟨lh,lm,dq,lp,ic,F2⟩,fQ,gi⟩ dM;have dM:ic.length=p2.follow.length:=dM
          conv=>arg 8;simp only[zJ,bW,ret,id_eq,bm,jH]
          conv=>arg 7;simp only[bm]
          refine aw (bC [0]) ?_;refine az rfl (aB (i:=2) rfl fun _ kN=>aB (i:=3) rfl fun _ kO=>aD (i:=5) (cs':=#[.bool e1,iC,ib]) rfl rfl rfl rfl (by simp only[List.all_cons,List.all_nil,kN,kO];rfl) rfl (aw (bC [0]) ?_))
          try refine GW ?_
          refine az rfl (aB (i:=12) rfl fun _ kP=>aB (i:=13) rfl fun _ kQ=>aD (i:=4) (cs':=#[.bool e2,fQ,gi]) rfl rfl rfl rfl (by simp only[List.all_cons,List.all_nil,kP,kQ];rfl) rfl (aw (bC [0]) ?_))
          try refine GW ?_
          refine bR [6,7,8,9,10,11,2,3,12,13,1,5,4] ?_;exact c_ (⟨lh,lm,dq,lp,ic,F2⟩,iC,ib,fQ,gi,g7,g8) dM (by repeat' (first|exact True.intro|refine And.intro rfl ?_)) rfl
    · refine aF rfl fun g7=>(aw (bC [6]) ?_)
      refine dG rfl rfl ?_ ?_
      · refine aP [0,1,2,3,4,5] [6,7,8] (by decide) rfl rfl (fh aj.en rfl rfl rfl) (fun w hm hb=>Js w _ (dm (hm.pick [0,1,2,3,4,5] (by decide) rfl) oz) hb) rfl rfl rfl ?_
        rintro⟨⟨nL,nM,dZ,nN,jY,F1⟩,iC,ib⟩ gT;have gT:jY.length=p1.follow.length:=gT
        conv=>arg 8;simp only[zJ,bW,ret,id_eq,bm,jH]
        conv=>arg 7;simp only[bm]
        refine aw (bC [0]) ?_;refine dG rfl rfl ?_ ?_
        · refine aP [3,4,5,6,7,8] [0,1,2,9,10] (by decide) rfl rfl (fh aj.en rfl rfl rfl) (fun w hm hb=>sW ⟨nL,nM,dZ,nN,jY,F1⟩ gT w _ (dm (hm.pick [3,4,5,6,7,8] (by decide) rfl) gY) hb) rfl rfl rfl ?_
          rintro⟨⟨lh,lm,dq,lp,ic,F2⟩,fQ,gi⟩ dM;have dM:ic.length=p2.follow.length:=dM
          conv=>arg 8;simp only[zJ,bW,ret,id_eq,bm,jH]
          conv=>arg 7;simp only[bm]
          refine aw (bC [0]) ?_;refine az rfl (aF rfl fun g8=>(aw (bC [0]) ?_));refine az rfl (aB (i:=3) rfl fun _ kN=>aB (i:=4) rfl fun _ kO=>aD (i:=2) (cs':=#[.bool e1,iC,ib]) rfl rfl rfl rfl (by simp only[List.all_cons,List.all_nil,kN,kO];rfl) rfl (aw (bC [0]) ?_))
          try refine GW ?_
          refine az rfl (aB (i:=11) rfl fun _ kP=>aB (i:=12) rfl fun _ kQ=>aD (i:=13) (cs':=#[.bool e2,fQ,gi]) rfl rfl rfl rfl (by simp only[List.all_cons,List.all_nil,kP,kQ];rfl) rfl (aw (bC [0]) ?_))
          try refine GW ?_
          refine bR [5,6,7,8,9,10,3,4,11,12,1,2,13] ?_;exact c_ (⟨lh,lm,dq,lp,ic,F2⟩,iC,ib,fQ,gi,g7,g8) dM (by repeat' (first|exact True.intro|refine And.intro rfl ?_)) rfl
        · refine aF rfl fun g8=>(aw (bC [0]) ?_)
          refine az rfl (aP [3,4,5,6,7,8] [0,1,2,9,10,11] (by decide) rfl rfl (fh aj.en rfl rfl rfl) (fun w hm hb=>sW ⟨nL,nM,dZ,nN,jY,F1⟩ gT w _ (dm (hm.pick [3,4,5,6,7,8] (by decide) rfl) gY) hb) rfl rfl rfl ?_);rintro⟨⟨lh,lm,dq,lp,ic,F2⟩,fQ,gi⟩ dM;have dM:ic.length=p2.follow.length:=dM
          conv=>arg 8;simp only[zJ,bW,ret,id_eq,bm,jH]
          conv=>arg 7;simp only[bm]
          refine aw (bC [0]) ?_;refine az rfl (aB (i:=3) rfl fun _ kN=>aB (i:=4) rfl fun _ kO=>aD (i:=2) (cs':=#[.bool e1,iC,ib]) rfl rfl rfl rfl (by simp only[List.all_cons,List.all_nil,kN,kO];rfl) rfl (aw (bC [0]) ?_))
          try refine GW ?_
          refine az rfl (aB (i:=12) rfl fun _ kP=>aB (i:=13) rfl fun _ kQ=>aD (i:=5) (cs':=#[.bool e2,fQ,gi]) rfl rfl rfl rfl (by simp only[List.all_cons,List.all_nil,kP,kQ];rfl) rfl (aw (bC [0]) ?_))
          try refine GW ?_
          refine bR [6,7,8,9,10,11,3,4,12,13,1,2,5] ?_;exact c_ (⟨lh,lm,dq,lp,ic,F2⟩,iC,ib,fQ,gi,g7,g8) dM (by repeat' (first|exact True.intro|refine And.intro rfl ?_)) rfl
      · refine aF rfl fun g8=>(aw (bC [6]) ?_)
        refine az rfl (aP [0,1,2,3,4,5] [6,7,8,9] (by decide) rfl rfl (fh aj.en rfl rfl rfl) (fun w hm hb=>Js w _ (dm (hm.pick [0,1,2,3,4,5] (by decide) rfl) oz) hb) rfl rfl rfl ?_);rintro⟨⟨nL,nM,dZ,nN,jY,F1⟩,iC,ib⟩ gT;have gT:jY.length=p1.follow.length:=gT
        conv=>arg 8;simp only[zJ,bW,ret,id_eq,bm,jH]
        conv=>arg 7;simp only[bm]
        refine aw (bC [0]) ?_;refine az rfl (aP [4,5,6,7,8,9] [0,1,2,3,10,11] (by decide) rfl rfl (fh aj.en rfl rfl rfl) (fun w hm hb=>sW ⟨nL,nM,dZ,nN,jY,F1⟩ gT w _ (dm (hm.pick [4,5,6,7,8,9] (by decide) rfl) gY) hb) rfl rfl rfl ?_);rintro⟨⟨lh,lm,dq,lp,ic,F2⟩,fQ,gi⟩ dM;have dM:ic.length=p2.follow.length:=dM
        conv=>arg 8;simp only[zJ,bW,ret,id_eq,bm,jH]
        conv=>arg 7;simp only[bm]
        refine aw (bC [0]) ?_;refine az rfl (aB (i:=4) rfl fun _ kN=>aB (i:=5) rfl fun _ kO=>aD (i:=2) (cs':=#[.bool e1,iC,ib]) rfl rfl rfl rfl (by simp only[List.all_cons,List.all_nil,kN,kO];rfl) rfl (aw (bC [0]) ?_))
        try refine GW ?_
        refine az rfl (aB (i:=12) rfl fun _ kP=>aB (i:=13) rfl fun _ kQ=>aD (i:=3) (cs':=#[.bool e2,fQ,gi]) rfl rfl rfl rfl (by simp only[List.all_cons,List.all_nil,kP,kQ];rfl) rfl (aw (bC [0]) ?_))
        try refine GW ?_
        refine bR [6,7,8,9,10,11,4,5,12,13,1,2,3] ?_;exact c_ (⟨lh,lm,dq,lp,ic,F2⟩,iC,ib,fQ,gi,g7,g8) dM (by repeat' (first|exact True.intro|refine And.intro rfl ?_)) rfl
    · refine aF rfl fun g8=>(aw (bC [6]) ?_)
      refine dG rfl rfl ?_ ?_
      · refine aP [0,1,2,3,4,5] [6,7,8] (by decide) rfl rfl (fh aj.en rfl rfl rfl) (fun w hm hb=>Js w _ (dm (hm.pick [0,1,2,3,4,5] (by decide) rfl) oz) hb) rfl rfl rfl ?_
        rintro⟨⟨nL,nM,dZ,nN,jY,F1⟩,iC,ib⟩ gT;have gT:jY.length=p1.follow.length:=gT
        conv=>arg 8;simp only[zJ,bW,ret,id_eq,bm,jH]
        conv=>arg 7;simp only[bm]
        refine aw (bC [0]) ?_;refine dG rfl rfl ?_ ?_
        · refine aP [3,4,5,6,7,8] [0,1,2,9,10] (by decide) rfl rfl (fh aj.en rfl rfl rfl) (fun w hm hb=>sW ⟨nL,nM,dZ,nN,jY,F1⟩ gT w _ (dm (hm.pick [3,4,5,6,7,8] (by decide) rfl) gY) hb) rfl rfl rfl ?_
          rintro⟨⟨lh,lm,dq,lp,ic,F2⟩,fQ,gi⟩ dM;have dM:ic.length=p2.follow.length:=dM
          conv=>arg 8;simp only[zJ,bW,ret,id_eq,bm,jH]
          conv=>arg 7;simp only[bm]
          refine aw (bC [0]) ?_;refine az rfl (aF rfl fun g7=>(aw (bC [0]) ?_));refine az rfl (aB (i:=3) rfl fun _ kN=>aB (i:=4) rfl fun _ kO=>aD (i:=13) (cs':=#[.bool e1,iC,ib]) rfl rfl rfl rfl (by simp only[List.all_cons,List.all_nil,kN,kO];rfl) rfl (aw (bC [0]) ?_))
          try refine GW ?_
          refine az rfl (aB (i:=11) rfl fun _ kP=>aB (i:=12) rfl fun _ kQ=>aD (i:=2) (cs':=#[.bool e2,fQ,gi]) rfl rfl rfl rfl (by simp only[List.all_cons,List.all_nil,kP,kQ];rfl) rfl (aw (bC [0]) ?_))
          try refine GW ?_
          refine bR [5,6,7,8,9,10,3,4,11,12,1,13,2] ?_;exact c_ (⟨lh,lm,dq,lp,ic,F2⟩,iC,ib,fQ,gi,g7,g8) dM (by repeat' (first|exact True.intro|refine And.intro rfl ?_)) rfl
        · refine aF rfl fun g7=>(aw (bC [0]) ?_)
          refine az rfl (aP [3,4,5,6,7,8] [0,1,2,9,10,11] (by decide) rfl rfl (fh aj.en rfl rfl rfl) (fun w hm hb=>sW ⟨nL,nM,dZ,nN,jY,F1⟩ gT w _ (dm (hm.pick [3,4,5,6,7,8] (by decide) rfl) gY) hb) rfl rfl rfl ?_);rintro⟨⟨lh,lm,dq,lp,ic,F2⟩,fQ,gi⟩ dM;have dM:ic.length=p2.follow.length:=dM
          conv=>arg 8;simp only[zJ,bW,ret,id_eq,bm,jH]
          conv=>arg 7;simp only[bm]
          refine aw (bC [0]) ?_;refine az rfl (aB (i:=3) rfl fun _ kN=>aB (i:=4) rfl fun _ kO=>aD (i:=5) (cs':=#[.bool e1,iC,ib]) rfl rfl rfl rfl (by simp only[List.all_cons,List.all_nil,kN,kO];rfl) rfl (aw (bC [0]) ?_))
          try refine GW ?_
          refine az rfl (aB (i:=12) rfl fun _ kP=>aB (i:=13) rfl fun _ kQ=>aD (i:=2) (cs':=#[.bool e2,fQ,gi]) rfl rfl rfl rfl (by simp only[List.all_cons,List.all_nil,kP,kQ];rfl) rfl (aw (bC [0]) ?_))
          try refine GW ?_
          refine bR [6,7,8,9,10,11,3,4,12,13,1,5,2] ?_;exact c_ (⟨lh,lm,dq,lp,ic,F2⟩,iC,ib,fQ,gi,g7,g8) dM (by repeat' (first|exact True.intro|refine And.intro rfl ?_)) rfl
      · refine aF rfl fun g7=>(aw (bC [6]) ?_)
        refine az rfl (aP [0,1,2,3,4,5] [6,7,8,9] (by decide) rfl rfl (fh aj.en rfl rfl rfl) (fun w hm hb=>Js w _ (dm (hm.pick [0,1,2,3,4,5] (by decide) rfl) oz) hb) rfl rfl rfl ?_);rintro⟨⟨nL,nM,dZ,nN,jY,F1⟩,iC,ib⟩ gT;have gT:jY.length=p1.follow.length:=gT
        conv=>arg 8;simp only[zJ,bW,ret,id_eq,bm,jH]
        conv=>arg 7;simp only[bm]
        refine aw (bC [0]) ?_;refine az rfl (aP [4,5,6,7,8,9] [0,1,2,3,10,11] (by decide) rfl rfl (fh aj.en rfl rfl rfl) (fun w hm hb=>sW ⟨nL,nM,dZ,nN,jY,F1⟩ gT w _ (dm (hm.pick [4,5,6,7,8,9] (by decide) rfl) gY) hb) rfl rfl rfl ?_);rintro⟨⟨lh,lm,dq,lp,ic,F2⟩,fQ,gi⟩ dM;have dM:ic.length=p2.follow.length:=dM
        conv=>arg 8;simp only[zJ,bW,ret,id_eq,bm,jH]
        conv=>arg 7;simp only[bm]
        refine aw (bC [0]) ?_;refine az rfl (aB (i:=4) rfl fun _ kN=>aB (i:=5) rfl fun _ kO=>aD (i:=3) (cs':=#[.bool e1,iC,ib]) rfl rfl rfl rfl (by simp only[List.all_cons,List.all_nil,kN,kO];rfl) rfl (aw (bC [0]) ?_))
        try refine GW ?_
        refine az rfl (aB (i:=12) rfl fun _ kP=>aB (i:=13) rfl fun _ kQ=>aD (i:=2) (cs':=#[.bool e2,fQ,gi]) rfl rfl rfl rfl (by simp only[List.all_cons,List.all_nil,kP,kQ];rfl) rfl (aw (bC [0]) ?_))
        try refine GW ?_
        refine bR [6,7,8,9,10,11,4,5,12,13,1,3,2] ?_;exact c_ (⟨lh,lm,dq,lp,ic,F2⟩,iC,ib,fQ,gi,g7,g8) dM (by repeat' (first|exact True.intro|refine And.intro rfl ?_)) rfl
  clear Js sW L8 rO;rintro⟨⟨vc,vr,vfol,vl,vs,F⟩,iC,ib,fQ,gi,g7,g8⟩ dM;have dM:vs.length=p2.follow.length:=dM;dsimp only
  conv=>arg 7;simp only[zA,zB,zC,zD,zE,zF,zG,zH,zI,bW,ret,id_eq,jH]
  have IM:=fO Ro;have Cs:=fO Pg;have Ux:=fO Uw;have hl4:=fO Vw
  repeat(first|refine GA ?_|refine gV (J (v:=ib) ak.ty rfl (ah (i:=11) rfl rfl)) ?_|refine gV (J (v:=fQ) ak.ty rfl (ah (i:=12) rfl rfl)) ?_)
  refine aP [0,3,4,7,8] [1,2,5,6,9,10,11,12] (by decide) rfl rfl (yG aj.en rfl rfl rfl rfl) (fun w hm hb=>rN g vc vr vf vfol vl ve aL ib fQ vs F p2.follow gB eD w _ dM (by rw[Rq.follow];omega) (by rw[Rq.follow];exact Rq.Rn) (by rw[Rq.follow];exact jR Pg Xz) (by rw[Rq.follow];exact Uw) hb) rfl rfl rfl ?_;rintro⟨ma,F'⟩ Ph;have Ph:ma.length=p2.follow.length:=Ph
  conv=>arg 8;simp only[zJ,bW,ret,id_eq,Hz]
  refine mO (i:=3) rfl fun ba ca Vr _ _=>?_;refine mO (i:=4) rfl fun bb cb tt _ _=>?_;subst Vr tt
  cases e1 with
  | true=>
    cases e2 with
    | true=>
      repeat(first|refine GA ?_|refine gV (J ak.ty rfl (ah (i:=6) rfl rfl)) ?_|refine gV (J ak.ty rfl (ah (i:=7) rfl rfl)) ?_|refine gV (aU rfl (jx _ _ _ _ _ _ _)) ?_)
      refine aF rfl fun g11=>?_;refine zL ?_;refine fU 13 (cs':=#[.bool true,.slice ba eu.length ca,.slice bb fX.length cb]) ?_;refine zL ?_
      repeat(first|refine GA ?_|refine gV (J ak.ty rfl (ah (i:=6) rfl rfl)) ?_|refine gV (J ak.ty rfl (ah (i:=7) rfl rfl)) ?_)
      refine aM (fh aj.en rfl rfl rfl) (fun w' hm=>eG _ fQ eu eD w' (Sl.cD (hm.get (i:=3) rfl)) (Sl.cD (hm.get (i:=12) rfl)) (by omega) (by omega)) rfl rfl rfl ?_;intro vu _
      conv=>arg 8;simp only[zJ,bW,ret,id_eq,nF]
      try refine GA ?_
      refine aB (i:=14) rfl fun YP Vz=>bD (i:=13) rfl rfl rfl YP Vz rfl ?_;refine zL ?_
      repeat(first|refine GA ?_|refine gV (J ak.ty rfl (ah (i:=6) rfl rfl)) ?_|refine gV (J ak.ty rfl (ah (i:=7) rfl rfl)) ?_)
      refine aM (fh aj.en rfl rfl rfl) (fun w' hm=>eG ib _ gB fX w' (Sl.cD (hm.get (i:=11) rfl)) (Sl.cD (hm.get (i:=4) rfl)) (by omega) (by omega)) rfl rfl rfl ?_;intro S3 _
      conv=>arg 8;simp only[zJ,bW,ret,id_eq,nF]
      try refine GA ?_
      refine aB (i:=15) rfl fun YQ VA=>bD (i:=13) rfl rfl rfl YQ VA rfl ?_;refine zL ?_
      repeat(first|refine GA ?_|refine gV (aE (i:=13) ak.ty rfl rfl rfl) ?_|refine gV (J ak.ty rfl (ah (i:=6) rfl rfl)) ?_|refine gV (J ak.ty rfl (ah (i:=7) rfl rfl)) ?_)
      refine aD (i:=5) (cs':=#[.bool true,vu,S3]) rfl rfl rfl rfl (by simp only[List.all_cons,List.all_nil,Vz,VA];rfl) rfl ?_;refine zL ?_
      try refine GA ?_
      refine e8 (i:=5) rfl rfl rfl rfl fun w hm=>?_;exact hm.bV (S:=bm g vf ve aL (⟨true,lX eu eD,lX gB fX⟩,{p2 with follow:=dD p2.follow gB eD})) (⟨vc,vr,vfol,vl,ma,F'⟩,vu,S3) (by show ma.length=(dD p2.follow gB eD).length;rw[gX];exact Ph) [8,0,1,9,10,2,14,15] (by decide) rfl
    | false=>
      repeat(first|refine GA ?_|refine gV (J ak.ty rfl (ah (i:=6) rfl rfl)) ?_|refine gV (J ak.ty rfl (ah (i:=7) rfl rfl)) ?_|refine gV (aU rfl (jx _ _ _ _ _ _ _)) ?_)
      refine aF rfl fun g11=>?_;refine zL ?_;refine fU 13 (cs':=#[.bool false,.slice ba eu.length ca,.slice bb fX.length cb]) ?_;refine zL ?_
      repeat(first|refine GA ?_|refine gV (J ak.ty rfl (ah (i:=6) rfl rfl)) ?_|refine gV (J ak.ty rfl (ah (i:=7) rfl rfl)) ?_)
      refine aM (fh aj.en rfl rfl rfl) (fun w' hm=>eG _ fQ eu eD w' (Sl.cD (hm.get (i:=3) rfl)) (Sl.cD (hm.get (i:=12) rfl)) (by omega) (by omega)) rfl rfl rfl ?_;intro vu _
      conv=>arg 8;simp only[zJ,bW,ret,id_eq,nF]
      try refine GA ?_
      refine aB (i:=14) rfl fun YP Vz=>bD (i:=13) rfl rfl rfl YP Vz rfl ?_;refine zL ?_
      repeat(first|refine GA ?_|refine gV (aE (i:=13) ak.ty rfl rfl rfl) ?_|refine gV (J ak.ty rfl (ah (i:=6) rfl rfl)) ?_|refine gV (J ak.ty rfl (ah (i:=7) rfl rfl)) ?_)
      refine aD (i:=5) (cs':=#[.bool false,vu,.slice bb fX.length cb]) rfl rfl rfl rfl (by simp only[List.all_cons,List.all_nil,Vz];rfl) rfl ?_;refine zL ?_
      try refine GA ?_
      refine e8 (i:=5) rfl rfl rfl rfl fun w hm=>?_;exact hm.bV (S:=bm g vf ve aL (⟨false,lX eu eD,fX⟩,{p2 with follow:=dD p2.follow gB eD})) (⟨vc,vr,vfol,vl,ma,F'⟩,vu,.slice bb fX.length cb) (by show ma.length=(dD p2.follow gB eD).length;rw[gX];exact Ph) [8,0,1,9,10,2,14,4] (by decide) rfl
  | false=>
    cases e2 with
    | true=>
      repeat(first|refine GA ?_|refine gV (J ak.ty rfl (ah (i:=6) rfl rfl)) ?_|refine gV (J ak.ty rfl (ah (i:=7) rfl rfl)) ?_|refine gV (aU rfl (jx _ _ _ _ _ _ _)) ?_)
      refine aF rfl fun g11=>?_;refine zL ?_;refine fU 13 (cs':=#[.bool false,.slice ba eu.length ca,.slice bb fX.length cb]) ?_;refine zL ?_
      repeat(first|refine GA ?_|refine gV (J ak.ty rfl (ah (i:=6) rfl rfl)) ?_|refine gV (J ak.ty rfl (ah (i:=7) rfl rfl)) ?_)
      refine aM (fh aj.en rfl rfl rfl) (fun w' hm=>eG ib _ gB fX w' (Sl.cD (hm.get (i:=11) rfl)) (Sl.cD (hm.get (i:=4) rfl)) (by omega) (by omega)) rfl rfl rfl ?_;intro S3 _
      conv=>arg 8;simp only[zJ,bW,ret,id_eq,nF]
      try refine GA ?_
      refine aB (i:=14) rfl fun YQ VA=>bD (i:=13) rfl rfl rfl YQ VA rfl ?_;refine zL ?_
      repeat(first|refine GA ?_|refine gV (aE (i:=13) ak.ty rfl rfl rfl) ?_|refine gV (J ak.ty rfl (ah (i:=6) rfl rfl)) ?_|refine gV (J ak.ty rfl (ah (i:=7) rfl rfl)) ?_)
      refine aD (i:=5) (cs':=#[.bool false,.slice ba eu.length ca,S3]) rfl rfl rfl rfl (by simp only[List.all_cons,List.all_nil,VA];rfl) rfl ?_;refine zL ?_
      try refine GA ?_
      refine e8 (i:=5) rfl rfl rfl rfl fun w hm=>?_;exact hm.bV (S:=bm g vf ve aL (⟨false,eu,lX gB fX⟩,{p2 with follow:=dD p2.follow gB eD})) (⟨vc,vr,vfol,vl,ma,F'⟩,.slice ba eu.length ca,S3) (by show ma.length=(dD p2.follow gB eD).length;rw[gX];exact Ph) [8,0,1,9,10,2,3,14] (by decide) rfl
    | false=>
      repeat(first|refine GA ?_|refine gV (J ak.ty rfl (ah (i:=6) rfl rfl)) ?_|refine gV (J ak.ty rfl (ah (i:=7) rfl rfl)) ?_|refine gV (aU rfl (jx _ _ _ _ _ _ _)) ?_)
      refine aF rfl fun g11=>?_;refine zL ?_;refine fU 13 (cs':=#[.bool false,.slice ba eu.length ca,.slice bb fX.length cb]) ?_;refine zL ?_
      repeat(first|refine GA ?_|refine gV (aE (i:=13) ak.ty rfl rfl rfl) ?_|refine gV (J ak.ty rfl (ah (i:=6) rfl rfl)) ?_|refine gV (J ak.ty rfl (ah (i:=7) rfl rfl)) ?_)
      refine fU 5 (cs':=#[.bool false,.slice ba eu.length ca,.slice bb fX.length cb]) ?_;refine zL ?_
      try refine GA ?_
      refine e8 (i:=5) rfl rfl rfl rfl fun w hm=>?_;exact hm.bV (S:=bm g vf ve aL (⟨false,eu,fX⟩,{p2 with follow:=dD p2.follow gB eD})) (⟨vc,vr,vfol,vl,ma,F'⟩,.slice ba eu.length ca,.slice bb fX.length cb) (by show ma.length=(dD p2.follow gB eD).length;rw[gX];exact Ph) [8,0,1,9,10,2,3,4] (by decide) rfl
end bH
namespace bH
open Go.RowKit bL db bO d_ cV
theorem uJ:∀M,A4 M
  |0=>fun e h=>by have:=e.size_pos;omega
  | M +1=>fun e h g vf ve aL p x v w B hp hx hn hr hv hm=>by
    cases e with
    |none=>exact Jn g vf ve aL p x v w B hx hv hm
    |empty=>exact Fk g vf ve aL p x v w B hx hv hm
    |byte c=>exact Jp c g vf ve aL p x v w B hp hx (by omega) hv hm
    | star a=>
      have h:a.size+1<=M+1:=h;exact Jq (uJ M) a (by omega) g vf ve aL p x v w B hp hx hn hr hv hm
    | Az a b=>
      have h:a.size+b.size+1<=M+1:=h;exact L7 (uJ M) a b (by omega) (by omega) g vf ve aL p x v w B hp hx hn hr hv hm
    | Ay a b=>
      have h:a.size+b.size+1<=M+1:=h;exact L9 (uJ M) a b (by omega) (by omega) g vf ve aL p x v w B hp hx hn hr hv hm
end bH
namespace bH
open Go.RowKit bL db bO d_ cV
theorem nk(w:World):(Instr.build 93 (#[]:Array (Nat×Value))).run Tryz.prog w= .ok (.agg #[.slice none 0 0,.slice none 0 0,.slice none 0 0,.slice none 0 0,.slice none 0 0,.slice none 0 0]) w:=by
 go_simp
theorem Jt(w:World):(Instr.build 135 (#[]:Array (Nat×Value))).run Tryz.prog w= .ok (.agg #[.slice none 0 0,.slice none 0 0,.slice none 0 0,.slice none 0 0,.slice none 0 0,.slice none 0 0,.int .i64 0]) w:=by
 go_simp
structure Uy where
 vc:Value
 vr:Value
 vf:Value
 vfol:Value
 vl:Value
 ve:Value
 vs:List Value
 F:Nat->Prop
def Fo(x:Uy)(m:MS):List bz:=
 [aI 65 4 x.vc m.ps.aC.length (m.ps.aC.flatMap cC),dT x.vr m.ps.rules,dT x.vf m.first,qB x.vfol x.vs,oy x.F x.vs m.ps.follow,aI 4 1 x.vl m.ps.last.length (m.ps.last.map Value.bool),aI 4 1 x.ve m.empty.length (m.empty.map Value.bool)]
def Fp(x:Uy):Array Value:=#[x.vc,x.vr,x.vf,x.vfol,x.vl,x.ve]
def lZ(R:Int×MS):Spec Uy:=⟨fun x=>x.vs.length=R.2.ps.follow.length,fun x=> .tuple #[.agg (Fp x),.int .i64 R.1],fun x=>Fo x R.2⟩
def L_:Uy:=⟨.slice none 0 0,.slice none 0 0,.slice none 0 0,.slice none 0 0,.slice none 0 0,.slice none 0 0,[],fun _=>False⟩
theorem A6{n:Nat}{W:bB}{Q:Exit->Act->World->Prop}{fr:Fr}{L:List bz}{e':Exit}(h:E n W e' Q fr (L++Fo L_ .zero)):E n W e' Q fr L:=by
 refine de 65 4 (de 3 1 (de 3 1 (de 26 1 (mR (oy (fun _=>False) [] []) (fun k hk=>hk.elim (fun h=>by cases h) id) (fun w=>gZ) (de 4 1 (de 4 1 ?_))))));simp only[List.append_assoc,List.cons_append,List.nil_append];exact h
theorem Pj{vc vr vf vfol vl ve v:Value}{aL:Int}{j:Nat}(h:[vc,vr,vf,vfol,vl,ve][j]?=some v):(Hy vc vr vf vfol vl ve aL)[0+j]?=some v:=by
 rw[Nat.zero_add]
 match j,h with
 |0,h=>exact h
 |1,h=>exact h
 |2,h=>exact h
 |3,h=>exact h
 |4,h=>exact h
 |5,h=>exact h
def yz(b:Bool):List Value:=[.bool b]
theorem Ju(b:Bool):(yz b).length=1:=rfl
theorem sX(l:List Bool):l.flatMap yz=l.map Value.bool:=by
 induction l with
 |nil=>rfl
 |cons x r ih=>rw[List.flatMap_cons,ih];rfl
def zq(rs:List Rx)(R:Int×MS):Prop:=
  ((rs.length=0\/20<rs.length)/\R=(1,.zero))\/(¬(rs.length=0\/20<rs.length)/\fP rs≠0/\R=(fP rs,.zero))\/
    (¬(rs.length=0\/20<rs.length)/\fP rs=0/\∃es:List Re,rs=es.map il/\(∀e∈es,e.size<=100)/\R=io 0 .zero es)
theorem Fq{l:List Rx}{k:Nat}(h:k<l.length):fP (l.drop k)=if CY l[k]≠0 then CY l[k]else fP (l.drop (k+1)):=by
 rw[List.drop_eq_getElem_cons h,fP]
theorem wN(v:Value)(rs:List Rx)(R:Int×MS)(w:World)(hv:gI qk (mU w) w v rs)(hR:zq rs R):
    Calls Tryz.prog 23 #[v] w (bU (lZ R) w):=by
  obtain⟨bk,ck,rfl,h1,h2,h3⟩:=hv;unfold maxLen at h2;refine enter (args:=[.slice bk rs.length ck]) (n:=104) Tryz.func23 rfl rfl rfl ?_;refine bJ (aV (aF rfl fun g2=>?_));refine zL ?_;rcases hR with⟨c1,rfl⟩|hR
  · by_cases c2:rs.length=0
    · repeat(first|refine GC ?_|refine gV (cJ (b:=true) rfl rfl (decide_eq_true (by omega))) ?_|refine gV (aU rfl nk) ?_|refine GB ?_)
      refine fU 0 ?_;refine zL ?_
      try refine GA ?_
      refine A6 ?_;exact dB (i:=0) rfl rfl rfl rfl rfl fun w hm=>hm.meets (S:=lZ (1,.zero)) L_ rfl [1,2,3,4,5,6,7] (by decide) rfl
    · have c3:20<rs.length:=c1.resolve_left c2
      repeat(first|refine GC ?_|refine gV (cJ (b:=false) rfl rfl (decide_eq_false (by omega))) ?_|refine gV (eo (b:=true) rfl rfl (decide_eq_true (by omega))) ?_|refine gV (aU rfl nk) ?_|refine GB ?_)
      refine fU 0 ?_;refine zL ?_
      try refine GA ?_
      refine A6 ?_;exact dB (i:=0) rfl rfl rfl rfl rfl fun w hm=>hm.meets (S:=lZ (1,.zero)) L_ rfl [1,2,3,4,5,6,7] (by decide) rfl
  have hlen:¬(rs.length=0\/20<rs.length):=by rcases hR with⟨h,_⟩|⟨h,_⟩<;>exact h
  repeat(first|refine GC ?_|refine gV (cJ (b:=false) rfl rfl (decide_eq_false (by omega))) ?_|refine gV (eo (b:=false) rfl rfl (decide_eq_false (by omega))) ?_|refine GB ?_)
  refine cX (ι:=Nat) (fun k=>k<=rs.length/\fP rs=fP (rs.drop k)) (fun k=>[(0,.slice bk rs.length ck),(2,.pointer (some ⟨g2,0,none⟩)),(22,.slice bk rs.length ck),(23,.int .i64 rs.length),(24,.int .i64 (k:Int))])
    (fun _=>[ap g2 #[.slice none 0 0,.slice none 0 0,.slice none 0 0,.slice none 0 0,.slice none 0 0,.slice none 0 0] 93]) (fun k=>rs.length-k) 0 ⟨Nat.zero_le _,rfl⟩ ?_
  rintro k ⟨i1,i2⟩
  by_cases c6:k<rs.length
  · obtain⟨b,off,rfl,hF,eV⟩:=h3 (by omega)
    obtain⟨kb,kc,hr,Jr⟩:=lA eV c6;have du:=fun(L:List bz) (j:Nat) (v:Value) (hj:(iP rs[k].kind rs[k].nU (.slice kb rs[k].kids.length kc))[j]?=some v)=>iD (L:=L) hr hj;have gD:∀w',Gr w w'->Calls Tryz.prog 41 #[lR rs[k].kind rs[k].nU (.slice kb rs[k].kids.length kc)] w' (bU (ret (.int .i64 (CY rs[k]))) w'):=fun w' hg=>nZ _ _ w' (Jr.gr hg);have YR:=Fq c6;clear h3 eV hr;generalize rs[k]=r at*
    repeat(first|refine GA ?_|refine gV (aH aT.eq ak.ty rfl rfl c6) ?_|refine gV (aK ak.ty rfl rfl (du _)) ?_)
    refine aF rfl fun g5=>?_;refine zL ?_;refine fU 1 (cs':=(iP r.kind r.nU (.slice kb r.kids.length kc)).toArray) ?_;refine zL ?_
    repeat(first|refine GA ?_|refine gV (aE (i:=1) ak.ty rfl rfl rfl) ?_)
    refine aM (iT aj.en rfl rfl) (fun w hm=>gD _ hm.below) rfl rfl rfl ?_;intro _ _;refine zL ?_
    by_cases c7:CY r=0
    · repeat(first|refine GC ?_|refine gV (cB (b:=false) rfl rfl (decide_eq_false (by simpa using c7))) ?_|refine GB ?_)
      refine bR [0] ?_;exact aY (k+1) ⟨by omega,by rw[i2,YR,if_neg (by simpa using c7)]⟩ (by show rs.length-(k+1)<rs.length-k;omega)
    · have hne:fP rs≠0:=by rw[i2,YR,if_pos c7];exact c7
      rcases hR with⟨_,_,rfl⟩|⟨_,h0,_⟩
      · rw[i2,YR,if_pos c7]
        repeat(first|refine GC ?_|refine gV (cB (b:=true) rfl rfl (decide_eq_true c7)) ?_|refine gV (aU rfl nk) ?_|refine GB ?_)
        refine fU 0 ?_;refine zL ?_
        try refine GA ?_
        refine A6 ?_;exact dB (i:=0) rfl rfl rfl rfl rfl fun w hm=>hm.meets (S:=lZ (CY r,.zero)) L_ rfl [2,3,4,5,6,7,8] (by decide) rfl
      · exact absurd h0 hne
  · obtain rfl:k=rs.length:=by omega
    have h0:fP rs=0:=by rw[i2,List.drop_eq_nil_of_le (Nat.le_refl _)];rfl
    obtain⟨es,rfl,hsz,rfl⟩:∃es:List Re,rs=es.map il/\(∀e∈es,e.size<=100)/\R=io 0 .zero es:=by
      rcases hR with⟨_,h,_⟩|⟨_,_,h⟩
      · exact absurd h0 h
      · exact h
    have Xx:(List.map il es).length<=20:=by omega
    clear hR hlen i1 i2
    repeat(first|refine GA ?_|refine gV (aU rfl Jt) ?_)
    refine bK rfl rfl rfl fun g7=>?_;refine zL ?_
    try refine GA ?_
    refine h_ 65 4 (h_ 3 1 (h_ 26 1 (ly (oy (fun _=>False) [] []) (fun k hk=>hk.elim (fun h=>by cases h) id) (fun w=>gZ) (h_ 4 1 (h_ 3 1 (h_ 4 1 ?_))))));refine cX (ι:=Nat×MS×Ks×Value×Value×Int) (fun(k,m,x,_,_,_)=>k<=es.length/\io 0 .zero es=io k m (es.drop k)/\Fh m/\m.ps.aC.length<=200/\x.vs.length=m.ps.follow.length/\m.empty.length=k) (fun(k,_,_,_,_,_)=>[(2,.pointer (some ⟨g2,0,none⟩)),(7,.pointer (some ⟨g7,0,none⟩)),(37,.slice bk (es.map il).length ck),(38,.int .i64 (es.map il).length),(39,.int .i64 (k:Int))])
      (fun(_,m,x,vf,ve,aL)=>[ap g2 #[.slice none 0 0,.slice none 0 0,.slice none 0 0,.slice none 0 0,.slice none 0 0,.slice none 0 0] 93]++jH g7 vf ve aL x m.ps++[dT vf m.first,aI 4 1 ve m.empty.length (m.empty.map Value.bool)]) (fun(k,_,_,_,_,_)=>es.length-k)
      (0,.zero,⟨.slice none 0 0,.slice none 0 0,.slice none 0 0,.slice none 0 0,[],fun _=>False⟩,.slice none 0 0,.slice none 0 0,0) ⟨Nat.zero_le _,rfl,AX,Nat.zero_le _,rfl,rfl⟩ ?_
    rintro⟨k,m,⟨vc,vr,vfol,vl,vs,F⟩,vf,ve,aL⟩ ⟨i1,i2,i3,i4,i5,i6⟩;dsimp only at i1 i2 i3 i4 i5 i6⊢
    conv=>arg 7;simp only[zA,zB,zC,zD,zE,zF,zG,zH,zI,bW,ret,id_eq,jH]
    have hml:(List.map il es).length=es.length:=List.length_map ..
    by_cases c6:k<es.length
    · obtain⟨b,off,rfl,hF,eV⟩:=h3 (by omega)
      obtain⟨kb,kc,hr,Jr⟩:=lA (k:=k) eV (by omega);have du:=fun(L:List bz) (j:Nat) (v:Value) (hj:(iP (es.map il)[k].kind (es.map il)[k].nU (.slice kb (es.map il)[k].kids.length kc))[j]?=some v)=>iD (L:=L) hr hj;have hke:(es.map il)[k]'(by omega)=il es[k]:=List.getElem_map ..;rw[hke]at du Jr;have hse:=hsz es[k] (List.getElem_mem c6);rw[List.drop_eq_getElem_cons c6,io]at i2;clear h3 eV hr hke;generalize es[k]=e at*;have hst:=Hu k i3 e;have Kp:=iq k e m.ps i3.ps;have hno:=fun v w B hv hm=>uJ 100 e hse g7 vf ve k m.ps ⟨vc,vr,vfol,vl,vs,F⟩ v w B i3.ps i5 (by omega) ⟨by omega,by omega⟩ hv hm
      repeat(first|refine GA ?_|refine gV (aH aT.eq ak.ty rfl rfl (by omega)) ?_|refine gV (aK ak.ty rfl rfl (du _)) ?_)
      refine aF rfl fun g9=>?_;refine zL ?_
      try refine GA ?_
      refine fU 9 (cs':=(iP (il e).kind (il e).nU (.slice kb (il e).kids.length kc)).toArray) ?_;refine zL ?_
      try refine GA ?_
      refine bD (i:=1) rfl rfl rfl rfl rfl rfl ?_;refine zL ?_
      repeat(first|refine GA ?_|refine gV (aE (i:=9) ak.ty rfl rfl rfl) ?_)
      refine aP [1,2,3,4,5,6] [0,7,8,9] (by decide) rfl rfl (fh aj.en rfl rfl rfl) (fun w hm hb=>hno _ w _ (dm (hm.pick [1,2,3,4,5,6] (by decide) rfl) (Jr.mono fun k hk=>⟨hk,id⟩)) hb) rfl rfl rfl ?_;rintro⟨⟨x_,uH,pX,HB,ma,F'⟩,va,vb⟩ EF
      conv=>arg 8;simp only[zJ,bW,ret,id_eq,bm,jH]
      conv=>arg 7;simp only[bm]
      have EF:ma.length=(a_ k e m.ps).2.follow.length:=EF;unfold pW at i2 hst;generalize a_ k e m.ps=R at*;obtain⟨⟨em,first,last⟩,p'⟩:=R;dsimp only at i2 hst Kp EF⊢;obtain⟨n1,n2,n3,n4,n5⟩:=Kp;have IM:=fO i3.first;have Cs:=fO n4;have Ux:=fO n5;refine aB (i:=10) rfl fun _ qa=>aB (i:=11) rfl fun _ qb=>aF rfl fun g10=>?_;refine zL ?_;refine aD (i:=12) (cs':=#[.bool em,va,vb]) rfl rfl rfl rfl (by simp only[List.all_cons,List.all_nil,qa,qb];rfl) rfl ?_;refine zL ?_
      try refine GA ?_
      (repeat refine bJ ?_)
      refine ix (ι:=Value) (fun Ku=>Ku.oneCell'=true) (fun _=>[(2,.pointer (some ⟨g2,0,none⟩)),(7,.pointer (some ⟨g7,0,none⟩)),(10,.pointer (some ⟨g10,0,none⟩)),(37,.slice (some ⟨b,off,none⟩) (es.map il).length ck),(38,.int .i64 (es.map il).length),(39,.int .i64 (k:Int))])
        (fun Ku=>[ap g2 #[.slice none 0 0,.slice none 0 0,.slice none 0 0,.slice none 0 0,.slice none 0 0,.slice none 0 0] 93,ap g7 (Hy x_ uH Ku pX HB ve (k:Int)) 135,aI 65 4 x_ p'.aC.length (p'.aC.flatMap cC),dT uH p'.rules,qB pX ma,oy F' ma p'.follow,aI 4 1 HB p'.last.length (p'.last.map Value.bool),dT Ku (lX m.first first),aI 4 1 ve m.empty.length (m.empty.map Value.bool),ap g10 #[.bool em,va,vb] 137,dT vb last]) ?_ ?_
      · refine dw ([ap g10 #[.bool em,va,vb] 137]) (.calm 0 (.calm 1 (.calm 2 (.calm 3 (.calm 4 (.calm 6 (.calm 7 (.one 5 (.one 8 (.calm 9 (.calm 10 (.calm 11 (.one 12 (.done)))))))))))))) (bC [12]) ?_
        repeat(first|refine GW ?_|(refine GN ?_;first|refine QW (J ak.ty rfl (ah (i:=0) rfl rfl)) ?_))
        refine az rfl (cI (J (v:=vf) ak.ty rfl (ah (i:=4) rfl rfl)) rfl rfl rfl (aw (bC [12]) ?_));refine az rfl (aM (fh aj.en rfl rfl rfl) (fun w' hm=>eG vf va m.first first w' (Sl.cD (hm.get (i:=1) rfl)) (Sl.cD (hm.get (i:=10) rfl)) (by omega) (by omega)) rfl rfl rfl ?_);intro Ku _
        conv=>arg 8;simp only[zJ,bW,ret,id_eq,nF]
        refine aw (bC [12]) ?_
        try refine GW ?_
        refine az rfl (aB (i:=13) rfl fun qf1 qf2=>bD (i:=4) rfl rfl rfl qf1 qf2 rfl (aw (bC [12]) ?_))
        try refine GW ?_
        refine bR [0,4,5,6,7,8,9,13,2,12,11] ?_;exact c_ Ku qf2 (by repeat' (first|exact True.intro|refine And.intro rfl ?_)) rfl
      intro Ku uo
      (repeat refine bJ ?_)
      refine ix (ι:=Value) (fun HC=>HC.oneCell'=true) (fun _=>[(2,.pointer (some ⟨g2,0,none⟩)),(7,.pointer (some ⟨g7,0,none⟩)),(10,.pointer (some ⟨g10,0,none⟩)),(37,.slice (some ⟨b,off,none⟩) (es.map il).length ck),(38,.int .i64 (es.map il).length),(39,.int .i64 (k:Int))])
        (fun HC=>[ap g2 #[.slice none 0 0,.slice none 0 0,.slice none 0 0,.slice none 0 0,.slice none 0 0,.slice none 0 0] 93,ap g7 (Hy x_ uH Ku pX HB HC (k:Int)) 135,aI 65 4 x_ p'.aC.length (p'.aC.flatMap cC),dT uH p'.rules,qB pX ma,oy F' ma p'.follow,aI 4 1 HB p'.last.length (p'.last.map Value.bool),dT Ku (lX m.first first),aI 4 1 HC (m.empty++[em]).length ((m.empty++[em]).map Value.bool),ap g10 #[.bool em,va,vb] 137,dT vb last]) ?_ ?_
      · refine dw ([ap g10 #[.bool em,va,vb] 137]) (.calm 0 (.calm 1 (.calm 2 (.calm 3 (.calm 4 (.calm 6 (.calm 7 (.two 5 (.one 8 (.one 9 (.calm 10 (.calm 11 (.calm 12 (.one 13 (.done))))))) 8 (.one 5 (.one 9 (.calm 10 (.calm 11 (.calm 12 (.one 13 (.done))))))))))))))) (bC [9]) ?_
        repeat(first|refine GW ?_|(refine GN ?_;first|refine QW (J ak.ty rfl (ah (i:=0) rfl rfl)) ?_))
        refine dG rfl rfl ?_ ?_
        · refine cI (J (v:=ve) ak.ty rfl (ah (i:=1) rfl rfl)) rfl rfl rfl (aw (bC [9]) ?_)
          refine az rfl (ee (cs:=#[.bool em]) [.bool em] rfl rfl rfl (by intro v hv;simp at hv;subst hv;rfl) rfl rfl rfl fun g71=>(aw (bC [9]) ?_));refine az rfl (dS (i:=8) (e:=4) (size:=1) (bytes:=1) (m:=m.empty.length) (xs:=m.empty.map Value.bool) (k:=1) (ys:=[.bool em]) rfl (iU (i:=11) rfl (fun j u h=>by simpa using h) (Nat.le_refl 1) (by decide)) rfl rfl rfl (fun u hu=>by rw[List.mem_singleton.1 hu];rfl) (by omega) (by omega) rfl fun HC=>(aw (bC [9]) ?_))
          try refine GW ?_
          refine az rfl (aB (i:=8) rfl fun YS VB=>bD (i:=1) rfl rfl rfl YS VB rfl (aw (bC [9]) ?_))
          try refine GW ?_
          refine bR [0,1,2,3,4,5,6,7,8,9,10] ?_;exact c_ HC VB (by repeat' (first|exact True.intro|refine And.intro rfl ?_)) (by rw[<-sV HC m.empty em];rfl)
        · refine ee (cs:=#[.bool em]) [.bool em] rfl rfl rfl (by intro v hv;simp at hv;subst hv;rfl) rfl rfl rfl fun g71=>(aw (bC [9]) ?_)
          refine az rfl (cI (J (v:=ve) ak.ty rfl (ah (i:=1) rfl rfl)) rfl rfl rfl (aw (bC [9]) ?_));refine az rfl (dS (i:=8) (e:=4) (size:=1) (bytes:=1) (m:=m.empty.length) (xs:=m.empty.map Value.bool) (k:=1) (ys:=[.bool em]) rfl (iU (i:=11) rfl (fun j u h=>by simpa using h) (Nat.le_refl 1) (by decide)) rfl rfl rfl (fun u hu=>by rw[List.mem_singleton.1 hu];rfl) (by omega) (by omega) rfl fun HC=>(aw (bC [9]) ?_))
          try refine GW ?_
          refine az rfl (aB (i:=8) rfl fun YS VB=>bD (i:=1) rfl rfl rfl YS VB rfl (aw (bC [9]) ?_))
          try refine GW ?_
          refine bR [0,1,2,3,4,5,6,7,8,9,10] ?_;exact c_ HC VB (by repeat' (first|exact True.intro|refine And.intro rfl ?_)) (by rw[<-sV HC m.empty em];rfl)
      intro HC he';rw[show p'.last.map Value.bool=p'.last.flatMap yz from(sX _).symm];refine eN (i:=10) (φ:=∃a c,vb= .slice a last.length c/\(0<last.length->∃gl,a=some ⟨gl,0,none⟩)) rfl (fun w h=>by
        obtain⟨y1,y2⟩:=(show w.ownsRow 0 3 1 vb last.length (last.map (Value.int .i64))from h);rcases y2 with⟨y3,y4⟩|⟨gl,cap,kp,hv,_⟩
        · exact⟨none,0,by rw[y3,y4],fun h=>by omega⟩
        · exact⟨_,_,hv,fun _=>⟨gl,rfl⟩⟩) fun tt=>?_
      obtain⟨al,cl,rfl,XA⟩:=tt;refine eN (i:=6) (φ:=0<p'.last.length->∃gb cb,HB= .slice (some ⟨gb,0,none⟩) p'.last.length cb) rfl (fun w h=>by
        obtain⟨y1,y2⟩:=(show w.ownsRow 0 4 1 HB p'.last.length (p'.last.flatMap yz)from h);rcases y2 with⟨y3,y4⟩|⟨gl,cap,kp,hv,_⟩
        · intro h;omega
        · exact fun _=>⟨gl,cap,hv⟩) fun Oc=>?_
      repeat(first|refine GA ?_|refine gV (J (v:= .slice al last.length cl) ak.ty rfl (ah (i:=9) rfl rfl)) ?_)
      refine pI [0,1,2,3,4,5,6,7,8,10] ?_;refine cX (ι:=Nat) (fun j=>j<=last.length) (fun j=>[(2,.pointer (some ⟨g2,0,none⟩)),(7,.pointer (some ⟨g7,0,none⟩)),(37,.slice (some ⟨b,off,none⟩) (es.map il).length ck),(38,.int .i64 (es.map il).length),(39,.int .i64 (k:Int)),(77,.slice al last.length cl),(78,.int .i64 last.length),(79,.int .i64 (j:Int))])
        (fun j=>[ap g2 #[.slice none 0 0,.slice none 0 0,.slice none 0 0,.slice none 0 0,.slice none 0 0,.slice none 0 0] 93,ap g7 (Hy x_ uH Ku pX HB HC (k:Int)) 135,aI 65 4 x_ p'.aC.length (p'.aC.flatMap cC),dT uH p'.rules,qB pX ma,oy F' ma p'.follow,aI 4 1 HB p'.last.length ((dy p'.last (last.take j)).flatMap yz),dT Ku (lX m.first first),aI 4 1 HC (m.empty++[em]).length ((m.empty++[em]).map Value.bool),dT (.slice al last.length cl) last]) (fun j=>last.length-j) 0 (Nat.zero_le _) ?_
      intro j j1
      by_cases c7:j<last.length
      · obtain⟨gl,rfl⟩:=XA (by omega)
        have hx:=n5.2 last[j] (List.getElem_mem c7);have hgx:last[j]?=some last[j]:=List.getElem?_eq_getElem c7;have VC:=Jk p'.last last c7;have aat:=wL p'.last (last.take j);generalize last[j]=xx at*;obtain⟨xn,rfl⟩:=Int.eq_ofNat_of_zero_le hx.1;rw[Int.toNat_natCast]at VC;have Vs:xn<p'.last.length:=by rw[n1.last];omega
        obtain⟨gb,cb,rfl⟩:=Oc (by omega);have YT:∀(L:List bz) (hi:L[9]?=some (dT (.slice (some ⟨gl,0,none⟩) last.length cl) last)),At (w:bB) L ⟨gl,0+j*1,none⟩ (.int .i64 (xn:Int)):=fun L hi=>f_ hi (by rw[List.getElem?_map,Nat.zero_add,Nat.mul_one,hgx];rfl)
        repeat(first|refine GA ?_|refine gV (aH aT.eq ak.ty rfl rfl c7) ?_|refine gV (J (v:= .int .i64 (xn:Int)) ak.ty rfl (YT _ rfl)) ?_|refine gV (J (v:= .slice (some ⟨gb,0,none⟩) p'.last.length cb) ak.ty rfl (ah (i:=1) rfl rfl)) ?_|refine gV (aH aT.eq ak.ty rfl rfl Vs) ?_)
        refine sD Ju (i:=6) (k:=xn) (l:=dy p'.last (last.take j)) (a:=true) ak.ty rfl rfl (by omega) (by omega) (by omega) rfl rfl rfl ?_;rw[<-VC];refine zL ?_
        try refine GA ?_
        exact aY (j+1) (by omega) (by show last.length-(j+1)<last.length-j;omega)
      · obtain rfl:j=last.length:=by omega
        rw[List.take_of_length_le (Nat.le_refl _),sX];refine eN (i:=2) (φ:=∃a c,x_= .slice a p'.aC.length c) rfl (fun w h=>by
          obtain⟨a,c,h,_⟩:=Sl.cD (show w.ownsRow 0 65 4 x_ p'.aC.length (p'.aC.flatMap cC)from h);exact⟨a,c,h⟩) fun SZ=>?_
        obtain⟨ac,cc,rfl⟩:=SZ
        by_cases c8:200<p'.aC.length
        · rw[if_pos c8]at i2
          rw[i2]
          repeat(first|refine GC ?_|refine gV (J (v:= .slice ac p'.aC.length cc) ak.ty rfl (ah (i:=1) rfl rfl)) ?_|refine gV (eo (b:=true) rfl rfl (decide_eq_true (by omega))) ?_|refine gV (aU rfl nk) ?_|refine GB ?_)
          refine fU 0 ?_;refine zL ?_
          try refine GA ?_
          refine A6 ?_;exact dB (i:=0) rfl rfl rfl rfl rfl fun w hm=>hm.meets (S:=lZ (2,.zero)) L_ rfl [10,11,12,13,14,15,16] (by decide) rfl
        · rw[if_neg c8]at i2
          repeat(first|refine GC ?_|refine gV (J (v:= .slice ac p'.aC.length cc) ak.ty rfl (ah (i:=1) rfl rfl)) ?_|refine gV (eo (b:=false) rfl rfl (decide_eq_false (by omega))) ?_|refine GB ?_)
          refine bR [0,1,2,3,4,5,6,7,8] ?_;exact aY (k+1,⟨{p' with last:=dy p'.last last},lX m.first first,m.empty++[em]⟩,⟨.slice ac p'.aC.length cc,uH,pX,HB,ma,F'⟩,Ku,HC,(k:Int)) ⟨by omega,i2,hst.1,by show p'.aC.length<=200;omega,EF,by rw[List.length_append,List.length_singleton,i6]⟩ (by show es.length-(k+1)<es.length-k;omega) (hl:=by dsimp only;rw[show p'.last.length=(dy p'.last last).length from(wL _ _).symm];rfl)
    · obtain rfl:k=es.length:=by omega
      rw[List.drop_eq_nil_of_le (Nat.le_refl _)]at i2;rw[i2]
      try refine GA ?_
      refine aB (i:=2) rfl fun _ a1=>aB (i:=3) rfl fun _ a2=>aB (i:=4) rfl fun _ a3=>aB (i:=6) rfl fun _ a4=>aB (i:=7) rfl fun _ a5=>aB (i:=8) rfl fun _ a6=>?_
      repeat(first|refine GA ?_|refine gV (aK (cs:=[vc,vr,vf,vfol,vl,ve]) ak.ty rfl rfl (fun j v hj=>ah (i:=1) rfl (Pj hj))) ?_)
      refine aD (i:=0) (cs':=#[vc,vr,vf,vfol,vl,ve]) rfl rfl rfl rfl (by simp only[List.all_cons,List.all_nil,a1,a2,a3,a4,a5,a6];rfl) rfl ?_;refine zL ?_
      try refine GA ?_
      exact dB (i:=0) rfl rfl rfl rfl rfl fun w hm=>hm.meets (S:=lZ (0,m)) ⟨vc,vr,vf,vfol,vl,ve,vs,F⟩ i5 [2,3,7,4,5,6,8] (by decide) rfl
end bH
namespace bH
open Go.RowKit bL db bO d_ cV g_
theorem HD:∀{rs:List Rx},fP rs=0->∃es:List Re,rs=es.map il/\∀e∈es,Fit e 1 0
 |[],_=>⟨[],rfl,fun _ h=>by cases h⟩
 |r::l,h=>by
  have hr:=zl h r (List.mem_cons_self ..);have hl:fP l=0:=by rw[fP,if_neg (by simpa using hr)]at h;exact h
  obtain⟨es,rfl,h2⟩:=HD hl;obtain⟨e,rfl,hf,_⟩:=AA (nC r) r 1 0 (jc r 1 0).2 (Nat.le_refl _) (by rw[<-hr]);refine⟨e::es,rfl,fun x hx=>?_⟩;rcases List.mem_cons.1 hx with rfl|hx
  ·exact hf
  ·exact h2 x hx
theorem Ma{e:Re}(h:Fit e 1 0):e.size<=100:=by have:=h.sz;omega
theorem zr:∀(es:List Re) (i:Nat) (m:MS),(io i m es).1≠0->(io i m es).2= .zero
 |[],_,_,h=>absurd rfl h
 |e::r,i,m,h=>by
  rw[io]at h⊢;split at h
  ·rename_i c;rw[if_pos c]
  ·rename_i c;rw[if_neg c];exact zr r _ _ h
theorem Jv(rs:List Rx):(∃k:Int,k≠0/\zq rs (k,.zero))\/∃(es:List Re) (m:MS),rs=es.map il/\(∀e∈es,Fit e 1 0)/\0<es.length/\es.length<=20/\io 0 .zero es=(0,m)/\zq rs (0,m):=by
  by_cases c:rs.length=0\/20<rs.length
  · exact .inl ⟨1,by decide,.inl ⟨c,rfl⟩⟩
  · by_cases h:fP rs=0
    · obtain⟨es,h1,h2⟩:=HD h
      have hR:zq rs (io 0 .zero es):= .inr (.inr ⟨c,h,es,h1,fun e he=>Ma (h2 e he),rfl⟩);have hz:=zr es 0 .zero;have hl:rs.length=es.length:=by rw[h1,List.length_map]
      obtain⟨k,m,e⟩:∃k m,io 0 .zero es=(k,m):=⟨_,_,rfl⟩;rw[e]at hR hz
      by_cases h0:k=0
      · subst h0
        exact .inr ⟨es,m,h1,h2,by omega,by omega,e,hR⟩
      · obtain rfl:m= .zero:=hz h0
        exact .inl ⟨k,h0,hR⟩
    · exact .inl ⟨fP rs,h,.inr (.inl ⟨c,h,rfl⟩)⟩
theorem dR{e:TypeId}{size n:Nat}{v:Value}{xs:List Value}(w:World)(h:(aI e size v n xs).holds w):∃a c,v= .slice a n c/\n<=9223372036854775807/\(0<n->∃g,a=some ⟨g,0,none⟩):=by
 rcases(show w.ownsRow 0 e size v n xs from h).2 with⟨rfl,rfl⟩|⟨g,cap,kp,rfl,_,_,hn,hm,_⟩
 ·exact⟨_,_,rfl,by omega,fun h=>by omega⟩
 ·exact⟨_,_,rfl,by unfold maxLen at hm;omega,fun _=>⟨g,rfl⟩⟩
theorem Pk{F:Nat->Prop}{v:Value}{vs:List Value}{jj:List (List Int)}{w:World}(hr:(qB v vs).holds w)(he:(oy F vs jj).holds w)(hl:vs.length=jj.length):gI (a8 eI) (mU w) w v jj:=by
 have ur:w.ownsRow 0 26 1 v vs.length (vs.flatMap rM):=hr;obtain⟨base,cap,h1,h2,h3,h4⟩:=Sl.cD ur;rw[hl]at h1 h2;refine⟨base,cap,h1,h2,h3,fun h0=>?_⟩;obtain⟨b,off,h5,h6⟩:=h4 (by omega);rw[Jm]at h6;refine⟨b,off,h5,?_,fun i hi=>⟨[vs[i]'(by omega)],⟨vs[i]'(by omega),rfl,?_⟩,fun j u hj=>?_⟩⟩
 ·have:=h6 0 _ (List.getElem?_eq_getElem (by omega))
  exact World.block_lt_of_cell? w _ this
 ·have hs:=L3 he hi (by omega)
  obtain⟨⟨q1,q2⟩,q3⟩:=he;obtain⟨v',Lp,jU,_,hF⟩:=q2 i hi (by rw[List.length_map];omega);rw[List.getElem_map]at Lp;simp only[rM,List.cons.injEq,and_true]at Lp;rw[<-mv]at hs;refine gI.of_flat hs jU (fun b hb=>q3 b (hF b (by rw[<-Lp];exact hb))) fun a n cp hv=>q3 a.block (hF _ (by rw[<-Lp,hv];rfl))
 ·have S4:j=0:=by have:=(List.getElem?_eq_some_iff.1 hj).1;simp at this;exact this
  subst S4;have:=h6 i u (by rw[List.getElem?_eq_getElem (by omega)];exact hj);show w.cell? ⟨b,off+i*1+0,none⟩=some u
  rw[Nat.mul_one,Nat.add_zero];exact this
end bH
namespace bH
open Go.RowKit bL db
theorem iY(a:Int):(bL.dK a).length=1:=rfl
end bH
namespace bH
open Go.RowKit bL db
def XB(b:Bool):List Value:=[.bool b]
theorem HE(a:Bool):(XB a).length=1:=rfl
end bH
namespace bH
open Go.RowKit bL db bO cV
theorem Pl{F:Nat->Prop}{w:World}{cs:List Value}{l:List Int}(h:(a8 eI).is F w cs l):∃v,cs=[v]/\Sl w v l.length (l.flatMap bL.dK):=by
 obtain⟨v,h1,h2⟩:=h;exact⟨v,h1,h2.flat (by decide)⟩
theorem A7{w w':World}{v:Value}{l:List (List Int)}(h:gI (a8 eI) (mU w) w v l)(hg:Gr w w'):gI (a8 eI) (mU w') w' v l:=
 (h.stay fun k hk=>hg.block k hk).mono fun _ hk=>Nat.lt_of_lt_of_le hk hg.size
def yb(w:World)(v:Value)(m:MS):Prop:=
  ∃ vc vr vf vfol vl ve,v= .agg #[vc,vr,vf,vfol,vl,ve]/\Sl w vc m.ps.aC.length (m.ps.aC.flatMap cC)/\Sl w vr m.ps.rules.length (m.ps.rules.flatMap bL.dK)/\Sl w vf m.first.length (m.first.flatMap bL.dK)/\
    gI (a8 eI) (mU w) w vfol m.ps.follow/\Sl w vl m.ps.last.length (m.ps.last.flatMap XB)/\Sl w ve m.empty.length (m.empty.flatMap XB)
theorem yb.gr{w w':World}{v:Value}{m:MS}(h:yb w v m)(hg:Gr w w'):yb w' v m:=by
 obtain⟨vc,vr,vf,vfol,vl,ve,h0,h1,h2,h3,h4,h5,h6⟩:=h;exact⟨vc,vr,vf,vfol,vl,ve,h0,h1.gr hg,h2.gr hg,h3.gr hg,A7 h4 hg,h5.gr hg,h6.gr hg⟩
end bH
namespace bH
open Go.RowKit bL db bO d_ cV
theorem C9(l:List Bool):l.flatMap XB=l.map Value.bool:=sX l
theorem Pm{w:World}{x:Uy}{m:MS}(hl:x.vs.length=m.ps.follow.length)(h0:(aI 65 4 x.vc m.ps.aC.length (m.ps.aC.flatMap cC)).holds w)(h1:(dT x.vr m.ps.rules).holds w)(h2:(dT x.vf m.first).holds w)(h3:(qB x.vfol x.vs).holds w)(h4:(oy x.F x.vs m.ps.follow).holds w)
 (h5:(aI 4 1 x.vl m.ps.last.length (m.ps.last.map Value.bool)).holds w) (h6:(aI 4 1 x.ve m.empty.length (m.empty.map Value.bool)).holds w):yb w (.agg (Fp x)) m:=by
 refine⟨_,_,_,_,_,_,rfl,Sl.cD h0,?_,?_,Pk h3 h4 hl,?_,?_⟩
 ·rw[mv];exact Sl.cD h1
 ·rw[mv];exact Sl.cD h2
 ·rw[C9];exact Sl.cD h5
 ·rw[C9];exact Sl.cD h6
theorem Mem.YU{w:World}{B:bB}{L:List bz}{x:Uy}{m:MS}(i:Nat)(hm:Mem B L w)(hl:x.vs.length=m.ps.follow.length)(h:Fo x m=[i,i+1,i+2,i+3,i+4,i+5,i+6].filterMap fun j=>L[j]?)(hlen:i+6<L.length):yb w (.agg (Fp x)) m:=by
 have g:∀j,j<7->∃o,L[i+j]?=some o/\(Fo x m)[j]?=some o:=by
  intro j hj;have e:∀k,k<7->∃o,L[i+k]?=some o:=fun k hk=>⟨_,List.getElem?_eq_getElem (by omega)⟩;rw[h];obtain⟨o0,e0⟩:∃o,L[i]?=some o:=e 0 (by omega);obtain⟨o1,e1⟩:=e 1 (by omega);obtain⟨o2,e2⟩:=e 2 (by omega);obtain⟨o3,e3⟩:=e 3 (by omega);obtain⟨o4,e4⟩:=e 4 (by omega);obtain⟨o5,e5⟩:=e 5 (by omega);obtain⟨o6,e6⟩:=e 6 (by omega);simp only[List.filterMap_cons,e0,e1,e2,e3,e4,e5,e6,List.filterMap_nil]
  match j,hj with
  |0,_=>exact⟨_,e0,rfl⟩
  |1,_=>exact⟨_,e1,rfl⟩
  |2,_=>exact⟨_,e2,rfl⟩
  |3,_=>exact⟨_,e3,rfl⟩
  |4,_=>exact⟨_,e4,rfl⟩
  |5,_=>exact⟨_,e5,rfl⟩
  |6,_=>exact⟨_,e6,rfl⟩
 have k:∀j o,j<7->(Fo x m)[j]?=some o->o.holds w:=fun j o hj ho=>by
  obtain⟨o',h1,h2⟩:=g j hj;rw[h2]at ho
  cases ho
  exact hm.get h1
 exact Pm hl (k 0 _ (by omega) rfl) (k 1 _ (by omega) rfl) (k 2 _ (by omega) rfl) (k 3 _ (by omega) rfl) (k 4 _ (by omega) rfl) (k 5 _ (by omega) rfl) (k 6 _ (by omega) rfl)
end bH
namespace bH
open Go.RowKit bL db bO d_ cV
theorem tG(v:Value)(l:List Int)(n:Nat)(w:World)(hv:Sl w v l.length (l.flatMap bL.dK))(h:zk n l):
 Calls Tryz.prog 66 #[v,.int .i64 (n:Int)] w (bU (ret (.bool true)) w):=by
 obtain⟨base,cap,rfl,q_,wa,eV⟩:=hv;unfold maxLen at wa;refine enter (args:=[.slice base l.length cap,.int .i64 (n:Int)]) (n:=35) Tryz.func66 rfl rfl rfl ?_
 try refine GA ?_
 refine cX (ι:=Nat) (fun k=>k<=l.length) (fun k=>[(0,.slice base l.length cap),(1,.int .i64 (n:Int)),(7,.slice base l.length cap),(8,.int .i64 l.length),(9,.int .i64 (k:Int))]) (fun _=>[]) (fun k=>l.length-k) 0 (Nat.zero_le _) ?_;intro k h1
 by_cases c2:k<l.length
 ·obtain⟨b,off,rfl,hr⟩:=eV (by omega)
  have du:=fx (L:=([]:List bz)) iY hr c2 0 _ rfl;have hx:=h.2 _ (List.getElem_mem c2)
  by_cases c3:0<k
  ·have hp:=List.pairwise_iff_getElem.1 h.1 (k-1) k (by omega) c2 (by omega)
   have rO:=fx (L:=([]:List bz)) iY hr (k:=k-1) (by omega) 0 _ rfl;generalize l[k]=x at*;generalize l[k-1]'(by omega)=y at*
   repeat(first|refine GC ?_|refine gV (aH aT.eq ak.ty rfl rfl c2) ?_|refine gV (J (v:= .int .i64 x) ak.ty rfl du) ?_|refine gV (fG (b:=false) rfl rfl (decide_eq_false (by omega))) ?_|refine gV (aH (j:=k-1) aT.eq ak.ty rfl rfl (by omega)) ?_|refine gV (J (v:= .int .i64 y) ak.ty rfl rO) ?_|refine gV (fH (b:=false) rfl rfl (decide_eq_false (by omega))) ?_|refine gV (eo (b:=true) rfl rfl (decide_eq_true (by omega))) ?_|refine gV (ij (r:=((k-1:Nat):Int)) rfl rfl (by omega) (by omega) (by omega)) ?_|refine gV (ED (b:=false) rfl rfl (decide_eq_false (by omega))) ?_|refine GB ?_)
   exact aY (k+1) (by omega) (by show l.length-(k+1)<l.length-k;omega)
  ·generalize l[k]=x at*
   repeat(first|refine GC ?_|refine gV (aH aT.eq ak.ty rfl rfl c2) ?_|refine gV (J (v:= .int .i64 x) ak.ty rfl du) ?_|refine gV (fG (b:=false) rfl rfl (decide_eq_false (by omega))) ?_|refine gV (fH (b:=false) rfl rfl (decide_eq_false (by omega))) ?_|refine gV (eo (b:=false) rfl rfl (decide_eq_false (by omega))) ?_|refine GB ?_)
   exact aY (k+1) (by omega) (by show l.length-(k+1)<l.length-k;omega)
 ·try refine GA ?_
  exact da
theorem A8{w:World}{b off:Nat}{l:List (List Int)}{F:Nat->Prop}(hr:∀i (h:i<l.length),∃cs,(a8 eI).is F w cs l[i]/\Rd w b (off+i*(a8 eI).c) cs){k:Nat}(hk:k<l.length):∃u,Sl w u l[k].length (l[k].flatMap bL.dK)/\Rd w b (off+k*1) [u]:=by
 obtain⟨cs,h1,h2⟩:=hr k hk;obtain⟨u,rfl,h3⟩:=Pl h1;exact⟨u,h3,h2⟩
theorem wO(v:Value)(m:MS)(w:World)(hp:yb w v m)(h:AY m):
 Calls Tryz.prog 44 #[v] w (bU (ret (.int .i64 0)) w):=by
 obtain⟨vc,vr,vf,vfol,vl,ve,rfl,h1,h2,h3,h4,h5,h6⟩:=hp;have hmR:=h.rules;have YV:=h.xU;have VC:=h.some;have pH:=h.Pb;have l1:=h.ok.ps.rules;have l2:=h.ok.ps.follow;have l3:=h.ok.ps.last;have q1:=fun w' (hg:Gr w w')=>tG vf m.first m.ps.aC.length w' (h3.gr hg) h.ok.first;have VD:=h.ok.ps.Rn;clear h h3;obtain⟨⟨cl,YW,jj,la⟩,fi,em⟩:=m;dsimp only at*;rw[l1]at h2;obtain⟨ac,cc,rfl,_⟩:=h1;obtain⟨ar,cr,rfl,hcr,VE,Pn⟩:=h2;obtain⟨YX,VF,rfl,hcf,aau,VG⟩:=h4;obtain⟨al,XC,rfl,_⟩:=h5;obtain⟨ae,ce,rfl,_⟩:=h6;rw[l2]at hcf;unfold maxLen at*;have q1':=q1;clear q1;generalize hn:cl.length=n at*;refine enter (args:=[.agg #[.slice ac n cc,.slice ar n cr,vf,.slice YX jj.length VF,.slice al la.length XC,.slice ae em.length ce]]) (n:=80) Tryz.func44 rfl rfl rfl ?_;refine bJ (aV (bK rfl rfl rfl fun g1=>?_));refine zL ?_
 repeat(first|refine GC ?_|refine gV (J (v:= .slice ac n cc) ak.ty rfl (ah (i:=0) rfl rfl)) ?_|refine gV (J (v:= .slice ar n cr) ak.ty rfl (ah (i:=0) rfl rfl)) ?_|refine gV (J (v:= .slice YX jj.length VF) ak.ty rfl (ah (i:=0) rfl rfl)) ?_|refine gV (J (v:= .slice al la.length XC) ak.ty rfl (ah (i:=0) rfl rfl)) ?_|refine gV (J (v:= .slice ae em.length ce) ak.ty rfl (ah (i:=0) rfl rfl)) ?_|refine gV (J (v:=vf) ak.ty rfl (ah (i:=0) rfl rfl)) ?_|refine gV (cB (b:=false) rfl rfl (decide_eq_false (by omega))) ?_|refine gV (eo (b:=false) rfl rfl (decide_eq_false (by omega))) ?_|refine gV (cJ (b:=false) rfl rfl (decide_eq_false (by omega))) ?_|refine GB ?_)
 refine me (fh aj.en rfl rfl rfl) (fun w hm=>q1' _ hm.below) rfl rfl rfl rfl rfl ?_;intro _ _;refine zL ?_;clear q1'
 try refine GA ?_
 refine cX (ι:=Nat) (fun k=>k<=n) (fun k=>[(1,.pointer (some ⟨g1,0,none⟩)),(3,.int .i64 (n:Int)),(46,.int .i64 (n:Int)),(47,.int .i64 (k:Int))]) (fun _=>[ap g1 #[.slice ac n cc,.slice ar n cr,vf,.slice YX jj.length VF,.slice al la.length XC,.slice ae em.length ce] 93]) (fun k=>n-k) 0 (Nat.zero_le _) ?_;intro k hk
 by_cases c1:k<n
 ·obtain⟨br,Fs,rfl,eV⟩:=Pn (by omega)
  obtain⟨bf,Po,rfl,_,Jw⟩:=VG (by omega);obtain⟨u,hu,hd⟩:=A8 Jw (show k<jj.length by omega);have S5:=fun(L:List bz)=>fx (L:=L) iY eV (show k<YW.length by omega) 0 _ rfl;have S6:=fun(L:List bz)=>iD (L:=L) hd (j:=0) (v:=u) rfl;have hx:=hmR _ (List.getElem_mem (show k<YW.length by omega));have q:=fun w' (hg:Gr w w')=>tG u jj[k] n w' (hu.gr hg) (VD _ (List.getElem_mem _));clear Pn VG eV Jw hd hu;generalize YW[k]=x at*
  try refine GA ?_
  refine dw ([ap g1 #[.slice ac n cc,.slice (some ⟨br,Fs,none⟩) n cr,vf,.slice (some ⟨bf,Po,none⟩) jj.length VF,.slice al la.length XC,.slice ae em.length ce] 93]) (.calm 0 (.calm 1 (.calm 2 (.calm 3 (.calm 4 (.calm 5 (.calm 6 (.calm 7 (.calm 8 (.calm 9 (.calm 10 (.calm 11 (.calm 12 (.calm 13 (.calm 14 (.calm 15 (.calm 16 (.calm 17 (.calm 18 (.calm 19 (.calm 20 (.calm 21 (.calm 22 (.calm 23 (.one 24 (.calm 25 (.calm 26 (.done)))))))))))))))))))))))))))) (bC [0]) ?_
  repeat(first|(refine GN ?_;first|refine QW QP ?_|refine QW (J (v:= .slice (some ⟨br,Fs,none⟩) n cr) ak.ty rfl (ah (i:=0) rfl rfl)) ?_|refine QW (aH aT.eq ak.ty rfl rfl c1) ?_|refine QW (J (v:= .int .i64 x) ak.ty rfl (S5 _)) ?_|refine QW (fG (b:=false) rfl rfl (decide_eq_false (by omega))) ?_|refine QW (J (v:= .slice ae em.length ce) ak.ty rfl (ah (i:=0) rfl rfl)) ?_|refine QW (J (v:= .slice (some ⟨bf,Po,none⟩) jj.length VF) ak.ty rfl (ah (i:=0) rfl rfl)) ?_|refine QW (aH (j:=k) aT.eq ak.ty rfl rfl (by omega)) ?_|refine QW (J (v:=u) ak.ty rfl (S6 _)) ?_|refine QW (fH (b:=false) rfl rfl (decide_eq_false (by omega))) ?_|refine GX ?_)|refine GW ?_)
  refine az rfl (As rfl rfl rfl (aM (fh aj.en rfl rfl rfl) (fun w hm=>q w hm.below) rfl rfl rfl fun _ _=>(aw (bC [0]) ?_)))
  try refine GW ?_
  try refine GA ?_
  refine bR [0] ?_;exact aY (k+1) (by omega) (by show n-(k+1)<n-k;omega)
 ·repeat(first|refine GC ?_|refine gV (eo (b:=false) rfl rfl (decide_eq_false (by omega))) ?_|refine GB ?_)
  exact da
end bH
namespace bH
open Go.RowKit bL db bO d_ cV
theorem Ft{α:Type}{f:α->List Value}{c:Nat}{W0:World}{W:bB}{L:List bz}{b off:Nat}{l:List α}(hc:∀a,(f a).length=c)(ho:lc W0 W)(h:Rd W0 b off (l.flatMap f)){k:Nat}(hk:k<l.length)(j:Nat)(u:Value)(hj:(f l[k])[j]?=some u):At W L ⟨b,off+k*c+j,none⟩ u:=by
 have OJ:j<c:=by rw[<-hc l[k]];exact(List.getElem?_eq_some_iff.1 hj).1
 rw[Nat.add_assoc];exact Hf ho h _ u (by rw[qe hc l k j hk OJ];exact hj)
end bH
namespace bH
open Go.RowKit bL db bO d_ cV jS
def BW(vc vr vf vfol vl ve vs num rows tags:Value):Array Value:=#[vc,vr,vf,vfol,vl,ve,vs,num,rows,tags]
def Fu(S:List C4):List Value:=(C4.zero::S).flatMap cC
theorem Pp{w:World}{g:Nat}{cs:Array Value}{T:TypeId}(hg:w.heap[g]?=some (.cells cs T (0,0)))(L:List bz){k:Nat}{v:Value}(hv:cs[k]?=some v):At (w:bB) L ⟨g,k,none⟩ v:=
 iv (by rw[cell_of_row w g k cs T (0,0) hg];exact hv)
theorem yc(m:MS)(vc vr vf vfol vl ve vs num rows tags:Value)(S:List C4)(g n:Nat)(w:World)(hp:yb w (.agg #[vc,vr,vf,vfol,vl,ve]) m)(h:AY m)(hg:w.heap[g]?=some (.cells (BW vc vr vf vfol vl ve vs num rows tags) 147 (0,0)))
    (hs:Sl w vs (S.length+1) (Fu S)) (hn:n<=S.length):
    Calls Tryz.prog 67 #[.pointer (some ⟨g,0,none⟩),.int .i64 (n:Int)] w (bU (ret (kh (fW m S n))) w):=by
  obtain⟨_,_,_,_,_,_,he,h1,h2,h3,h4,h5,h6⟩:=hp;simp only[Value.agg.injEq,Array.mk.injEq,List.cons.injEq,and_true]at he;obtain⟨rfl,rfl,rfl,rfl,rfl,rfl⟩:=he;have YV:=h.xU;have L4:=h.ok.first.2;have VD:=h.ok.ps.Rn;have uI:=h.ok.ps.follow;clear h h1 h2 h5 h6;obtain⟨af,cf,rfl,_,aav,VG⟩:=h3;obtain⟨ao,co,rfl,_,Q0,hro⟩:=h4;obtain⟨ab,cs,rfl,hcs,VC,hrs⟩:=hs;unfold maxLen at*;have hm:=fun L k v hv=>Pp (k:=k) (v:=v) hg L hv;refine enter (args:=[.pointer (some ⟨g,0,none⟩),.int .i64 (n:Int)]) (n:=59) Tryz.func67 rfl rfl rfl ?_;refine bJ (aV (aF rfl fun g4=>?_));refine zL ?_
  try refine GA ?_
  refine aF rfl fun g5=>?_;refine zL ?_
  by_cases c0:n=0
  · subst c0
    repeat(first|refine GC ?_|refine gV (cJ (b:=true) rfl rfl (decide_eq_true (by simp))) ?_|refine gV (J (v:= .slice af m.first.length cf) ak.ty rfl (hm _ 2 _ rfl)) ?_|refine GB ?_)
    refine cX (ι:=Nat) (fun k=>k<=m.first.length) (fun k=>[(4,.pointer (some ⟨g4,0,none⟩)),(5,.pointer (some ⟨g5,0,none⟩)),(18,.slice af m.first.length cf),(19,.int .i64 m.first.length),(20,.int .i64 (k:Int))])
      (fun k=>[ap g4 (cC C4.zero).toArray 180,ap g5 (cC (kM C4.zero (m.first.take k))).toArray 180]) (fun k=>m.first.length-k) 0 (Nat.zero_le _) ?_
    intro k hk
    by_cases c1:k<m.first.length
    · have hx:=L4 _ (List.getElem_mem c1)
      have hst:=C1 C4.zero m.first c1;obtain⟨bf,Po,rfl,Jw⟩:=VG (by omega);have du:=fun(L:List bz)=>fx (L:=L) iY Jw c1 0 _ rfl;generalize m.first[k]=x at*;generalize kM C4.zero (m.first.take k)=c at*;obtain⟨xn,rfl⟩:=Int.eq_ofNat_of_zero_le hx.1;rw[Int.toNat_natCast]at hst
      repeat(first|refine GA ?_|refine gV (aH aT.eq ak.ty rfl rfl c1) ?_|refine gV (J (v:= .int .i64 (xn:Int)) ak.ty rfl (du _)) ?_)
      refine aP [1] [0] (by decide) rfl rfl (fh aj.en rfl rfl rfl) (fun w hm hb=>nf c xn (by omega) g5 w _ hb) rfl rfl rfl ?_;intro _ _;refine zL ?_
      try refine GA ?_
      exact aY (k+1) (by omega) (by show m.first.length-(k+1)<m.first.length-k;omega) (hl:=by rw[hst])
    · obtain rfl:k=m.first.length:=by omega
      rw[List.take_of_length_le (Nat.le_refl _)];unfold fW;generalize kM C4.zero m.first=c at*
      repeat(first|refine GA ?_|refine gV (aE (i:=1) ak.ty rfl rfl rfl) ?_)
      refine fU 0 (cs':=(cC c).toArray) ?_;refine zL ?_
      try refine GA ?_
      exact e8 (i:=0) rfl rfl rfl rfl fun w hm=>hm.ret
  · obtain⟨q,rfl⟩:∃q,n=q+1:=⟨n-1,by omega⟩
    obtain⟨bs,S7,rfl,VH⟩:=hrs (by omega);have S8:=fun(L:List bz)=>fx (L:=L) (f:=cC) (c:=4) (fun _=>rfl) (show Rd w bs S7 ((C4.zero::S).flatMap cC)from VH) (k:=q+1) (by simp;omega);have HG:S.getD q C4.zero=S[q]'(by omega):=by rw[List.getD_eq_getElem?_getD,List.getElem?_eq_getElem (by omega)];rfl
    rw[show fW m S (q+1)=jw m.ps (S.getD q C4.zero) m.ps.follow.length from rfl,HG];have S8:∀(L:List bz) (j:Nat) (u:Value),(cC (S[q]'(by omega)))[j]?=some u->At (w:bB) L ⟨bs,S7+(q+1)*4+j,none⟩ u:=fun L j u hj=>S8 L j u hj;clear HG VH hrs VG L4;generalize S[q]'(by omega)=s at*
    repeat(first|refine GC ?_|refine gV (cJ (b:=false) rfl rfl (decide_eq_false (by omega))) ?_|refine gV (J (v:= .slice ao m.ps.follow.length co) ak.ty rfl (hm _ 3 _ rfl)) ?_|refine GB ?_)
    refine cX (ι:=Nat) (fun k=>k<=m.ps.follow.length) (fun k=>[(0,.pointer (some ⟨g,0,none⟩)),(1,.int .i64 ((q+1:Nat):Int)),(4,.pointer (some ⟨g4,0,none⟩)),(5,.pointer (some ⟨g5,0,none⟩)),(32,.slice ao m.ps.follow.length co),(33,.int .i64 m.ps.follow.length),(34,.int .i64 (k:Int))])
      (fun k=>[ap g4 (cC C4.zero).toArray 180,ap g5 (cC (jw m.ps s k)).toArray 180]) (fun k=>m.ps.follow.length-k) 0 (Nat.zero_le _) ?_
    intro k hk
    by_cases c1:k<m.ps.follow.length
    · obtain⟨bo,YY,rfl,_,YZ⟩:=hro (by omega)
      obtain⟨u,hu,hd⟩:=A8 YZ c1;have S6:=fun(L:List bz)=>iD (L:=L) hd (j:=0) (v:=u) rfl;have Xy:=(VD _ (List.getElem_mem c1)).2;have HG:m.ps.follow.getD k []=m.ps.follow[k]:=by rw[List.getD_eq_getElem?_getD,List.getElem?_eq_getElem c1];rfl
      have hst:jw m.ps s (k+1)=if s.mem k=true then kM (jw m.ps s k) m.ps.follow[k]else jw m.ps s k:=by rw[jw,HG]
      clear HG;obtain⟨au,cu,rfl,_,Y0,SV⟩:=hu;unfold maxLen at Y0;generalize m.ps.follow[k]=l at*;generalize jw m.ps s k=c at*
      repeat(first|refine GA ?_|refine gV (aH aT.eq ak.ty rfl rfl c1) ?_|refine gV (J (v:= .slice au l.length cu) ak.ty rfl (S6 _)) ?_|refine gV (J (v:= .slice (some ⟨bs,S7,none⟩) (S.length+1) cs) ak.ty rfl (hm _ 6 _ rfl)) ?_|refine gV (aH (j:=q+1) aT.eq ak.ty rfl rfl (by omega)) ?_|refine gV (aK (cs:=cC s) ak.ty rfl rfl (S8 _)) ?_)
      have Mb:=fun w=>nc s k (by omega) w;generalize hb:s.mem k=b at*;refine aM (fh aj.en rfl rfl rfl) (fun w hm=>Mb w) rfl rfl rfl ?_;intro _ _;refine zL ?_
      by_cases c2:b=true
      · subst c2
        rw[if_pos rfl]at hst
        try refine GA ?_
        refine cX (ι:=Nat) (fun j=>j<=l.length) (fun j=>[(0,.pointer (some ⟨g,0,none⟩)),(1,.int .i64 ((q+1:Nat):Int)),(4,.pointer (some ⟨g4,0,none⟩)),(5,.pointer (some ⟨g5,0,none⟩)),(32,.slice (some ⟨bo,YY,none⟩) m.ps.follow.length co),(33,.int .i64 m.ps.follow.length),(34,.int .i64 (k:Int)),(48,.slice au l.length cu),(49,.int .i64 l.length),(50,.int .i64 (j:Int))])
          (fun j=>[ap g4 (cC C4.zero).toArray 180,ap g5 (cC (kM c (l.take j))).toArray 180]) (fun j=>l.length-j) 0 (Nat.zero_le _) ?_
        intro j hj
        by_cases c3:j<l.length
        · have hx:=Xy _ (List.getElem_mem c3)
          have VI:=C1 c l c3;obtain⟨bf,Po,rfl,Jw⟩:=SV (by omega);have du:=fun(L:List bz)=>fx (L:=L) iY Jw c3 0 _ rfl;generalize l[j]=x at*;generalize kM c (l.take j)=c' at*;obtain⟨xn,rfl⟩:=Int.eq_ofNat_of_zero_le hx.1;rw[Int.toNat_natCast]at VI
          repeat(first|refine GA ?_|refine gV (aH aT.eq ak.ty rfl rfl c3) ?_|refine gV (J (v:= .int .i64 (xn:Int)) ak.ty rfl (du _)) ?_)
          refine aP [1] [0] (by decide) rfl rfl (fh aj.en rfl rfl rfl) (fun w hm hb=>nf c' xn (by omega) g5 w _ hb) rfl rfl rfl ?_;intro _ _;refine zL ?_
          try refine GA ?_
          exact aY (j+1) (by omega) (by show l.length-(j+1)<l.length-j;omega) (hl:=by rw[VI])
        · obtain rfl:j=l.length:=by omega
          rw[List.take_of_length_le (Nat.le_refl _)]
          try refine GA ?_
          exact aY (k+1) (by omega) (by show m.ps.follow.length-(k+1)<m.ps.follow.length-k;omega) (hl:=by rw[hst])
      · rw[if_neg c2]at hst
        obtain rfl:=Bool.eq_false_iff.2 c2
        try refine GA ?_
        exact aY (k+1) (by omega) (by show m.ps.follow.length-(k+1)<m.ps.follow.length-k;omega) (hl:=by rw[hst])
    · obtain rfl:k=m.ps.follow.length:=by omega
      generalize jw m.ps s m.ps.follow.length=c at*
      repeat(first|refine GA ?_|refine gV (aE (i:=1) ak.ty rfl rfl rfl) ?_)
      refine fU 0 (cs':=(cC c).toArray) ?_;refine zL ?_
      try refine GA ?_
      exact e8 (i:=0) rfl rfl rfl rfl fun w hm=>hm.ret
end bH
namespace bH
open Go.RowKit bL db bO d_ cV jS bT
theorem Pq:laidOutB Tryz.prog=true:=by kernel_rfl
theorem setRow:(180:TypeId)<Tryz.prog.types.size:=of_decide_eq_true (by kernel_rfl)
theorem Pr:(match Tryz.prog.underlying 180 with|some (.array _ _)|some (.struct _)=>true|_=>false)=true:=by kernel_rfl
theorem Ps(x:C4):∃l,keyOf Tryz.prog 180 (kh x)=some l:=by
 obtain⟨a,b,c,d⟩:=x;have e1:Tryz.prog.keyType 180=true:=by kernel_rfl
 have e2:Tryz.prog.cellsOf 180=4:=by kernel_rfl
 have e3:Tryz.prog.cellsOf 63=1:=by kernel_rfl
 have e4:∃d,Tryz.prog.types.size+1=d+2:=⟨Tryz.prog.types.size-1,by have:0<Tryz.prog.types.size:=Nat.lt_of_le_of_lt (Nat.zero_le 180) setRow;omega⟩;obtain⟨dd,e4⟩:=e4;have key:∀v:BitVec 64,Tryz.prog.keyLits (dd+1) 63 [.int .u64 (dO v)]=some [.int .u64 (dO v)]:=fun v=>by
  have hw:(Lit.int .u64 (dO v)).wf=true:=by
   have h0:=Sw v;have h1:=Sx v;simp[Lit.wf,IntKind.min,IntKind.max,IntKind.signed,IntKind.bits,h0,h1]
  simp[Program.keyLits,Tryz.underlying63,hw]
 have hl:Tryz.prog.keyLits (dd+2) 180 [.int .u64 (dO a),.int .u64 (dO b),.int .u64 (dO c),.int .u64 (dO d)]=some [.int .u64 (dO a),.int .u64 (dO b),.int .u64 (dO c),.int .u64 (dO d)]:=by
  unfold Program.keyLits;simp[Tryz.underlying180,e2,e3,List.range_succ_eq_map,key]
 have hf:(kh ⟨a,b,c,d⟩).formed Tryz.prog 180=true:=by simp[kh,Value.formed,Tryz.underlying180,e2]
 unfold keyOf;rw[Tryz.underlying180];refine⟨.string (keyBytes ([.int .u64 (dO a),.int .u64 (dO b),.int .u64 (dO c),.int .u64 (dO d)])),?_⟩;show(if(Tryz.prog.keyType 180&&(kh ⟨a,b,c,d⟩).formed Tryz.prog 180)=true then(Tryz.prog.keyLits (Tryz.prog.types.size+1) 180 [.int .u64 (dO a),.int .u64 (dO b),.int .u64 (dO c),.int .u64 (dO d)]).map (fun ls=>Lit.string (keyBytes ls))else none)=_
 rw[e1,hf,e4,hl];rfl
set_option maxRecDepth 100000 in
def Fv:qi Tryz.prog 180 C4 where
  kv:=kh
  ok _:=True
  law:=deep_law_laid Pq (m:=2) (by omega) setRow (by kernel_rfl) Pr
  key x _:=Ps x
  inj x y h:=by
    simp only[kh,Value.agg.injEq,Array.mk.injEq,List.cons.injEq,Value.int.injEq,true_and,and_true]at h;exact C4.ext' (kg h.1) (kg h.2.1) (kg h.2.2.1) (kg h.2.2.2)
theorem C_(w:World):(zeroValue 3).run Tryz.prog w= .ok (.int .i64 0) w:=by kernel_rfl
def kR(D:List C4)(x:C4):Option Value:=if x∈D then some (.int .i64 ((idx D x+1:Nat):Int))else none
theorem Fw{D:List C4}{x:C4}(hn:x∉D):(fun y=>if y=x then some (.int .i64 ((D.length+1:Nat):Int))else kR D y)=kR (D++[x]):=by
 funext y
 unfold kR
 by_cases c:y=x
 ·subst c
  rw[if_pos rfl,if_pos (by simp)];have:=mj (D:=D) (k:=y);unfold more at this;rw[if_neg hn,if_neg hn]at this;rw[this]
 ·rw[if_neg c]
  by_cases c2:y∈D
  ·rw[if_pos c2,if_pos (List.mem_append_left _ c2),lB c2]
  ·rw[if_neg c2,if_neg (by simp[c,c2])]
theorem wP:(fun(_:C4)=>(none:Option Value))=kR []:=by funext y;unfold kR;rw[if_neg (by simp)]
abbrev ka(vs:Value)(S:List C4):bz:=aI 180 4 vs (S.length+1) (Fu S)
abbrev nl(gm:Nat)(S:List C4):bz:=dr Fv gm (kR S) S.length
def BX(vc vr vf vfol vl ve rows:Value)(g gm:Nat)(vs vt:Value)(d:DM):List bz:=
 [ap g (BW vc vr vf vfol vl ve vs (.map (some gm)) rows vt) 147,ka vs d.S,nl gm d.S,dT vt d.tags]
def Pt(p:PS)(vc vr vf vfol vl ve rows:Value)(g gm:Nat)(d:DM)(s:C4):Spec (Value×Value):=
 ⟨fun _=>True,fun _=> .int .i64 ((eU p d s).1:Int),fun x=>BX vc vr vf vfol vl ve rows g gm x.1 x.2 (eU p d s).2⟩
theorem Mc(v:Value)(l:List Int)(x:Int):dT v (l++[x])=aI 3 1 v (l.length+1) (l.map (Value.int .i64)++[.int .i64 x]):=by
 unfold dT;rw[List.length_append,List.map_append];rfl
theorem zt(S:List C4)(s:C4):Fu (S++[s])=Fu S++cC s:=by
 unfold Fu;rw[<-List.cons_append,List.flatMap_append];simp
theorem HH(s:C4):∀u∈cC s,u.oneCell'=true:=by
 intro u h;simp only[cC,List.mem_cons,List.not_mem_nil,or_false]at h;rcases h with rfl|rfl|rfl|rfl<;>rfl
theorem Me(p:PS)(s:C4)(i:Nat):gw p s (i+1)=if s.mem i=true/\p.last.getD i false=true/\(gw p s i<0\/p.rules.getD i 0<gw p s i)then p.rules.getD i 0 else gw p s i:=rfl
theorem Mf{S:List C4}{s:C4}{gm:Nat}(hn:s∉S):dr Fv gm (fun y=>if y=s then some (.int .i64 ((S.length+1:Nat):Int))else kR S y) (if(kR S s).isSome then S.length else S.length+1)=nl gm (S++[s]):=by
 rw[Fw hn,show kR S s=none from if_neg hn];unfold nl;rw[List.length_append];rfl
attribute [local irreducible] Op.shift Go.bits in
theorem wQ(m:MS)(vc vr vf vfol vl ve rows:Value)(d:DM)(s:C4)(g gm:Nat)(vs vt:Value)(w0:World)(hp:yb w0 (.agg #[vc,vr,vf,vfol,vl,ve]) m)(h:AY m)(hd:d.S.length<=100000)(hdt:d.tags.length<=100001)(w:World)(B:bB)(ho:lc w0 B)
    (hm:Mem B (BX vc vr vf vfol vl ve rows g gm vs vt d) w):
    Calls Tryz.prog 71 #[.pointer (some ⟨g,0,none⟩),kh s] w (dc (Pt m.ps vc vr vf vfol vl ve rows g gm d s) B):=by
  obtain⟨_,_,_,_,_,_,he,h1,h2,h3,h4,h5,h6⟩:=hp;simp only[Value.agg.injEq,Array.mk.injEq,List.cons.injEq,and_true]at he;obtain⟨rfl,rfl,rfl,rfl,rfl,rfl⟩:=he;have YV:=h.xU;have G2:=h.ok.ps.rules;have Er:=h.ok.ps.last;have VE:=h.rules;clear h h3 h4 h6;obtain⟨ac,cc,rfl,-⟩:=h1;obtain⟨ar,cr,rfl,-,aaw,Pn⟩:=h2;obtain⟨al,cl,rfl,-,aax,A3⟩:=h5;unfold BX at hm;unfold Pt;obtain⟨S,tags⟩:=d;obtain⟨p,fi,em⟩:=m;dsimp only at*;refine eg hm (args:=[.pointer (some ⟨g,0,none⟩),kh s]) (n:=105) Tryz.func71 rfl rfl rfl ?_;clear hm;refine bJ (aV (bK rfl rfl rfl fun g3=>?_));refine zL ?_
  by_cases c1:s∈S
  · have hst:eU p ⟨S,tags⟩ s=(idx S s+1,⟨S,tags⟩):=if_pos c1
    have x8:kR S s=some (.int .i64 ((idx S s+1:Nat):Int)):=if_pos c1;rw[hst]
    try refine GA ?_
    refine dw ([ap g (BW (.slice ac p.aC.length cc) (.slice ar p.rules.length cr) vf vfol (.slice al p.last.length cl) ve vs (.map (some gm)) rows vt) 147,nl gm S,ap g3 (cC s).toArray 180]) (.calm 0 (.calm 1 (.calm 2 (.calm 3 (.calm 4 (.calm 5 (.calm 6 (.calm 7 (.calm 8 (.calm 9 (.calm 10 (.done)))))))))))) (bC [0,2,4]) ?_
    repeat(first|refine GW ?_|(refine GN ?_;first|refine QW (J (v:= .map (some gm)) ak.ty rfl (ah (i:=0) rfl rfl)) ?_|refine QW (aE (i:=2) ak.ty rfl rfl rfl) ?_|refine QW (fL Fv (x:=s) aT.eq C_ (i:=1) rfl rfl rfl trivial x8) ?_))
    try refine GA ?_
    refine bR [0,1,2,3] ?_;exact b_ rfl rfl fun w hm=>hm.bV (S:=⟨fun(_:Value×Value)=>True,fun _=> .int .i64 ((idx S s+1:Nat):Int),fun x=>BX (.slice ac p.aC.length cc) (.slice ar p.rules.length cr) vf vfol (.slice al p.last.length cl) ve rows g gm x.1 x.2 ⟨S,tags⟩⟩) (vs,vt) trivial [0,1,2,3] (by decide) rfl
  · have hst:eU p ⟨S,tags⟩ s=(S.length+1,⟨S++[s],tags++[pK p s]⟩):=if_neg c1
    have x8:kR S s=none:=if_neg c1;rw[hst];refine lz (i:=1) rfl dR fun dW=>?_;obtain⟨ab,cs,rfl,S9,-⟩:=dW
    try refine GA ?_
    refine dw ([ap g (BW (.slice ac p.aC.length cc) (.slice ar p.rules.length cr) vf vfol (.slice al p.last.length cl) ve (.slice ab (S.length+1) cs) (.map (some gm)) rows vt) 147,nl gm S,ap g3 (cC s).toArray 180]) (.calm 0 (.calm 1 (.calm 2 (.calm 3 (.calm 4 (.calm 5 (.calm 6 (.calm 7 (.calm 8 (.calm 9 (.calm 10 (.done)))))))))))) (bC [0,2,4]) ?_
    repeat(first|refine GW ?_|(refine GN ?_;first|refine QW (J (v:= .map (some gm)) ak.ty rfl (ah (i:=0) rfl rfl)) ?_|refine QW (aE (i:=2) ak.ty rfl rfl rfl) ?_|refine QW (fM Fv (x:=s) aT.eq C_ (i:=1) rfl rfl rfl trivial x8) ?_))
    try refine GA ?_
    (repeat refine bJ ?_)
    refine ix (ι:=Unit) (fun _=>True) (fun _=>[(0,.pointer (some ⟨g,0,none⟩)),(3,.pointer (some ⟨g3,0,none⟩))]) (fun _=>[ap g (BW (.slice ac p.aC.length cc) (.slice ar p.rules.length cr) vf vfol (.slice al p.last.length cl) ve (.slice ab (S.length+1) cs) (.map (some gm)) rows vt) 147,ka (.slice ab (S.length+1) cs) S,nl gm (S++[s]),dT vt tags,ap g3 (cC s).toArray 180]) ?_ ?_
    · refine dw ([ap g (BW (.slice ac p.aC.length cc) (.slice ar p.rules.length cr) vf vfol (.slice al p.last.length cl) ve (.slice ab (S.length+1) cs) (.map (some gm)) rows vt) 147,ap g3 (cC s).toArray 180]) (.calm 0 (.calm 1 (.calm 2 (.calm 3 (.calm 4 (.calm 5 (.calm 6 (.calm 7 (.calm 8 (.calm 9 (.one 10 (.done)))))))))))) (bC [0,4]) ?_
      repeat(first|refine GW ?_|(refine GN ?_;first|refine QW (J (v:= .map (some gm)) ak.ty rfl (ah (i:=0) rfl rfl)) ?_|refine QW (aE (i:=1) ak.ty rfl rfl rfl) ?_|refine QW (J (v:= .slice ab (S.length+1) cs) ak.ty rfl (ah (i:=0) rfl rfl)) ?_))
      refine az rfl (iF Fv (i:=2) (x:=s) aT.eq rfl rfl rfl rfl trivial (by omega) (aw (bC [0,4]) ?_))
      try refine GW ?_
      exact c_ () trivial (by repeat' (first|exact True.intro|refine And.intro rfl ?_)) (by rw[<-Mf c1];rfl)
    intro _ _
    (repeat refine bJ ?_)
    refine ix (ι:=Value) (fun _=>True) (fun _=>[(0,.pointer (some ⟨g,0,none⟩)),(3,.pointer (some ⟨g3,0,none⟩))]) (fun ma=>[ap g (BW (.slice ac p.aC.length cc) (.slice ar p.rules.length cr) vf vfol (.slice al p.last.length cl) ve ma (.map (some gm)) rows vt) 147,ka ma (S++[s]),nl gm (S++[s]),dT vt tags,ap g3 (cC s).toArray 180]) ?_ ?_
    · refine dw ([ap g3 (cC s).toArray 180]) (.calm 0 (.calm 1 (.calm 2 (.calm 3 (.calm 5 (.two 4 (.one 6 (.one 7 (.calm 8 (.calm 9 (.one 10 (.done)))))) 6 (.one 4 (.one 7 (.calm 8 (.calm 9 (.one 10 (.done)))))))))))) (bC [4]) ?_
      repeat(first|refine GW ?_|(refine GN ?_;first|refine QW (aE (i:=0) ak.ty rfl rfl rfl) ?_))
      refine dG rfl rfl ?_ ?_
      · refine cI (J (v:= .slice ab (S.length+1) cs) ak.ty rfl (ah (i:=0) rfl rfl)) rfl rfl rfl (aw (bC [4]) ?_)
        refine az rfl (ee (cs:=(cC s).toArray) [kh s] rfl rfl rfl (by intro v hv;simp at hv;subst hv;rfl) rfl rfl rfl fun g36=>(aw (bC [4]) ?_));refine az rfl (dS (i:=1) (e:=180) (size:=4) (bytes:=32) (m:=S.length+1) (xs:=Fu S) (k:=1) (ys:=cC s) rfl (iU (i:=5) rfl (fun j u h=>by simpa using h) (Nat.le_refl 1) (by decide)) rfl rfl rfl (fun u hu=>HH s u hu) (by omega) (by omega) rfl fun ma=>(aw (bC [4]) ?_))
        try refine GW ?_
        refine az rfl (aB (i:=1) rfl fun kD lg=>bD (i:=0) rfl rfl rfl kD lg rfl (aw (bC [4]) ?_))
        try refine GW ?_
        refine bR [0,1,2,3,4] ?_;exact c_ ma trivial (by repeat' (first|exact True.intro|refine And.intro rfl ?_)) (by unfold ka;rw[zt,List.length_append];rfl)
      · refine ee (cs:=(cC s).toArray) [kh s] rfl rfl rfl (by intro v hv;simp at hv;subst hv;rfl) rfl rfl rfl fun g36=>(aw (bC [4]) ?_)
        refine az rfl (cI (J (v:= .slice ab (S.length+1) cs) ak.ty rfl (ah (i:=0) rfl rfl)) rfl rfl rfl (aw (bC [4]) ?_));refine az rfl (dS (i:=1) (e:=180) (size:=4) (bytes:=32) (m:=S.length+1) (xs:=Fu S) (k:=1) (ys:=cC s) rfl (iU (i:=5) rfl (fun j u h=>by simpa using h) (Nat.le_refl 1) (by decide)) rfl rfl rfl (fun u hu=>HH s u hu) (by omega) (by omega) rfl fun ma=>(aw (bC [4]) ?_))
        try refine GW ?_
        refine az rfl (aB (i:=1) rfl fun kD lg=>bD (i:=0) rfl rfl rfl kD lg rfl (aw (bC [4]) ?_))
        try refine GW ?_
        refine bR [0,1,2,3,4] ?_;exact c_ ma trivial (by repeat' (first|exact True.intro|refine And.intro rfl ?_)) (by unfold ka;rw[zt,List.length_append];rfl)
    clear S9;intro ma _;refine eN (i:=1) rfl dR fun dW=>?_;obtain⟨Rr,cs',rfl,S9,-⟩:=dW
    repeat(first|refine GA ?_|refine gV (J (v:= .slice ac p.aC.length cc) ak.ty rfl (ah (i:=0) rfl rfl)) ?_)
    refine cX (ι:=Nat×Int) (fun(k,t)=>k<=p.aC.length/\t=gw p s k) (fun(k,t)=>[(0,.pointer (some ⟨g,0,none⟩)),(3,.pointer (some ⟨g3,0,none⟩)),(7,.int .i64 t),(45,.int .i64 p.aC.length),(46,.int .i64 (k:Int))])
      (fun _=>[ap g (BW (.slice ac p.aC.length cc) (.slice ar p.rules.length cr) vf vfol (.slice al p.last.length cl) ve (.slice Rr ((S++[s]).length+1) cs') (.map (some gm)) rows vt) 147,ka (.slice Rr ((S++[s]).length+1) cs') (S++[s]),nl gm (S++[s]),dT vt tags,ap g3 (cC s).toArray 180]) (fun(k,_)=>p.aC.length-k) (0,-1) ⟨Nat.zero_le _,rfl⟩ ?_
    rintro⟨k,t⟩ ⟨hk,ht⟩;dsimp only at hk ht⊢
    by_cases q1:k<p.aC.length
    · have hst:=Me p s k
      have Q_:k<p.rules.length:=by omega
      have SF:k<p.last.length:=by omega
      rw[List.getD_eq_getElem?_getD (l:=p.rules),List.getElem?_eq_getElem Q_,Option.getD_some,List.getD_eq_getElem?_getD (l:=p.last),List.getElem?_eq_getElem SF,Option.getD_some]at hst;obtain⟨br,Fs,rfl,VJ⟩:=Pn (by omega);obtain⟨bl,Mg,rfl,VK⟩:=A3 (by omega);have S5:=fun(L:List bz)=>Ft (L:=L) iY ho VJ Q_ 0 _ rfl;have Y1:=fun(L:List bz)=>Ft (L:=L) HE ho VK SF 0 _ rfl;have S_:=(VE _ (List.getElem_mem Q_)).1;have Mb:=fun w=>nc s k (by omega) w;clear VJ VK Pn A3 VE;generalize p.rules[k]=r at*;generalize p.last[k]=lb at*;generalize s.mem k=b at*;rw[<-ht]at hst;clear ht;have Mh:∀(L:List bz),At B L ⟨br,Fs+k*1+0,none⟩ (.int .i64 r):=S5;have HJ:∀(L:List bz),At B L ⟨bl,Mg+k*1+0,none⟩ (.bool lb):=Y1
      repeat(first|refine GA ?_|refine gV (aE (i:=4) ak.ty rfl rfl rfl) ?_)
      refine aM (fh aj.en rfl rfl rfl) (fun w hm=>Mb w) rfl rfl rfl ?_;intro _ _;refine zL ?_;have skip:∀(_:¬(b=true/\lb=true/\(t<0\/r<t))),gw p s (k+1)=t:=fun h=>by rw[hst,if_neg h]
      have take:b=true/\lb=true/\(t<0\/r<t)->gw p s (k+1)=r:=fun h=>by rw[hst,if_pos h]
      clear hst
      by_cases q2:b=true
      · subst q2
        by_cases q3:lb=true
        · subst q3
          by_cases q4:t<0
          · have e:=(take ⟨rfl,rfl,.inl q4⟩).symm
            repeat(first|refine GC ?_|refine gV (J (v:= .slice (some ⟨bl,Mg,none⟩) p.last.length cl) ak.ty rfl (ah (i:=0) rfl rfl)) ?_|refine gV (aH aT.eq ak.ty rfl rfl SF) ?_|refine gV (J (v:= .bool true) ak.ty rfl (HJ _)) ?_|refine gV (fG (b:=true) rfl rfl (decide_eq_true q4)) ?_|refine gV (J (v:= .slice (some ⟨br,Fs,none⟩) p.rules.length cr) ak.ty rfl (ah (i:=0) rfl rfl)) ?_|refine gV (aH aT.eq ak.ty rfl rfl Q_) ?_|refine gV (J (v:= .int .i64 r) ak.ty rfl (Mh _)) ?_|refine GB ?_)
            exact aY (k+1,r) ⟨by omega,e⟩ (by show p.aC.length-(k+1)<p.aC.length-k;omega)
          · by_cases q5:r<t
            · have e:=(take ⟨rfl,rfl,.inr q5⟩).symm
              repeat(first|refine GC ?_|refine gV (J (v:= .slice (some ⟨bl,Mg,none⟩) p.last.length cl) ak.ty rfl (ah (i:=0) rfl rfl)) ?_|refine gV (aH aT.eq ak.ty rfl rfl SF) ?_|refine gV (J (v:= .bool true) ak.ty rfl (HJ _)) ?_|refine gV (fG (b:=false) rfl rfl (decide_eq_false q4)) ?_|refine gV (J (v:= .slice (some ⟨br,Fs,none⟩) p.rules.length cr) ak.ty rfl (ah (i:=0) rfl rfl)) ?_|refine gV (aH aT.eq ak.ty rfl rfl Q_) ?_|refine gV (J (v:= .int .i64 r) ak.ty rfl (Mh _)) ?_|refine gV (fG (b:=true) rfl rfl (decide_eq_true q5)) ?_|refine GB ?_)
              exact aY (k+1,r) ⟨by omega,e⟩ (by show p.aC.length-(k+1)<p.aC.length-k;omega)
            · have e:=(skip (fun h=>h.2.2.elim q4 q5)).symm
              repeat(first|refine GC ?_|refine gV (J (v:= .slice (some ⟨bl,Mg,none⟩) p.last.length cl) ak.ty rfl (ah (i:=0) rfl rfl)) ?_|refine gV (aH aT.eq ak.ty rfl rfl SF) ?_|refine gV (J (v:= .bool true) ak.ty rfl (HJ _)) ?_|refine gV (fG (b:=false) rfl rfl (decide_eq_false q4)) ?_|refine gV (J (v:= .slice (some ⟨br,Fs,none⟩) p.rules.length cr) ak.ty rfl (ah (i:=0) rfl rfl)) ?_|refine gV (aH aT.eq ak.ty rfl rfl Q_) ?_|refine gV (J (v:= .int .i64 r) ak.ty rfl (Mh _)) ?_|refine gV (fG (b:=false) rfl rfl (decide_eq_false q5)) ?_|refine GB ?_)
              exact aY (k+1,t) ⟨by omega,e⟩ (by show p.aC.length-(k+1)<p.aC.length-k;omega)
        · have e:=(skip (fun h=>q3 h.2.1)).symm
          obtain rfl:=Bool.eq_false_iff.2 q3
          repeat(first|refine GA ?_|refine gV (J (v:= .slice (some ⟨bl,Mg,none⟩) p.last.length cl) ak.ty rfl (ah (i:=0) rfl rfl)) ?_|refine gV (aH aT.eq ak.ty rfl rfl SF) ?_|refine gV (J (v:= .bool false) ak.ty rfl (HJ _)) ?_)
          exact aY (k+1,t) ⟨by omega,e⟩ (by show p.aC.length-(k+1)<p.aC.length-k;omega)
      · have e:=(skip (fun h=>q2 h.1)).symm
        obtain rfl:=Bool.eq_false_iff.2 q2
        try refine GA ?_
        exact aY (k+1,t) ⟨by omega,e⟩ (by show p.aC.length-(k+1)<p.aC.length-k;omega)
    · obtain rfl:k=p.aC.length:=by omega
      rw[show pK p s=t from ht.symm]at*
      repeat(first|refine GA ?_|refine gV (J (v:=vt) ak.ty rfl (ah (i:=0) rfl rfl)) ?_)
      refine ik (i:=3) rfl rfl rfl rfl rfl rfl (fun z h=>by cases h;rfl) (by omega) (by omega) rfl fun z' Eu=>?_;refine zL ?_
      try refine GA ?_
      refine aB (i:=3) rfl fun kD lg=>bD (i:=0) rfl rfl rfl kD lg rfl ?_;refine zL ?_
      repeat(first|refine GC ?_|refine gV (J (v:= .slice Rr ((S++[s]).length+1) cs') ak.ty rfl (ah (i:=0) rfl rfl)) ?_|refine gV (ij (r:=((S.length+1:Nat):Int)) rfl rfl (by simp;omega) (by simp;omega) (by simp)) ?_|refine GB ?_)
      refine bR [0,1,2,3] ?_;exact b_ rfl rfl fun w hm=>hm.bV (S:=⟨fun(_:Value×Value)=>True,fun _=> .int .i64 ((S.length+1:Nat):Int),fun x=>BX (.slice ac p.aC.length cc) (.slice ar p.rules.length cr) vf vfol (.slice al p.last.length cl) ve rows g gm x.1 x.2 ⟨S++[s],tags++[t]⟩⟩) (.slice Rr ((S++[s]).length+1) cs',Eu) trivial [0,1,2,3] (by decide) (by unfold BX;rw[<-Mc];rfl)
    done
end bH
namespace cV
open bO d_
def Ta:Re->Nat
 | .byte _=>1
 | .Ay a b=>Ta a+Ta b
 | .Az a b=>Ta a+Ta b
 | .star a=>Ta a
 |_=>0
inductive HK(P:List Nat->Prop):List Nat->Prop
 |nil:HK P []
 |cons {u v:List Nat}:P u->HK P v->HK P (u++v)
def Wd:Re->Nat->List Nat->Prop
 | .none,_,_=>False
 | .empty,_,l=>l=[]
 | .byte _,n,l=>l=[n]
 | .Ay a b,n,l=>∃u v,l=u++v/\Wd a n u/\Wd b (n+Ta a) v
 | .Az a b,n,l=>Wd a n l\/Wd b (n+Ta a) l
 | .star a,n,l=>HK (Wd a n) l
def Od(F:Nat->Nat->Prop)(T:Nat->Prop):Nat->List Nat->Prop
 |x,[]=>T x
 |x,y::r=>F x y/\Od F T y r
theorem Od.mono{F F':Nat->Nat->Prop}{T T':Nat->Prop}(hF:∀x y,F x y->F' x y)(hT:∀x,T x->T' x):∀{l:List Nat} {x:Nat},Od F T x l->Od F' T' x l
 |[],_,h=>hT _ h
 |_::_,_,⟨h,h'⟩=>⟨hF _ _ h,Od.mono hF hT h'⟩
theorem Od.E_{F F':Nat->Nat->Prop}{T T':Nat->Prop}(hF:∀x y,F x y->F' x y){y:Nat}{r:List Nat}(hT:∀x,T x->F' x y)(hr:Od F' T' y r):∀{l:List Nat} {x:Nat},Od F T x l->Od F' T' x (l++y::r)
 |[],_,h=>⟨hT _ h,hr⟩
 |_::_,_,⟨h,h'⟩=>⟨hF _ _ h,Od.E_ hF hT hr h'⟩
end cV
namespace bO
def one(x:C4):List C4:=if x=C4.zero then []else [x]
structure C'(S:List C4)(all:List C4):Prop where
 some:∀x∈all,x≠C4.zero
 apart:all.Pairwise fun x y=>x.K0 y=C4.zero
 sum:(all.map N6).sum=256
 whole:∀n,n<256->∃x∈all,x.mem n=true
 each:∀c∈S,∀x∈all,x.K0 c=x\/x.K0 c=C4.zero
 told:all.Pairwise fun x y=>∃c∈S,decide (x.K0 c=x)≠decide (y.K0 c=y)
theorem Mi{x:C4}:x=C4.zero↔∀n,n<256->x.mem n=false:=
 ⟨fun h n _=>by rw[h,Ck],fun h=>ext_mem fun n hn=>by rw[h n hn,Ck]⟩
theorem Mj{x:C4}(h:N6 x=0):x=C4.zero:=by
 have:qd x=[]:=List.eq_nil_of_length_eq_zero h;refine Mi.2 fun n hn=>?_
 cases e:x.mem n with
 |false=>rfl
 |true=>exact absurd (ID.2 ⟨hn,e⟩) (by rw[this];simp)
theorem HL:∀all:List C4,(∀x∈all,x≠C4.zero)->all.length<=(all.map N6).sum
 |[],_=>Nat.le_refl _
 |x::all,h=>by
  have ih:=HL all fun y hy=>h y (by simp[hy]);have:N6 x≠0:=fun e=>h x (by simp) (Mj e);simp only[List.length_cons,List.map_cons,List.sum_cons];omega
theorem C'.len{S all:List C4}(h:C' S all):all.length<=256:=by
 have:=HL all h.some;rw[h.sum]at this;exact this
theorem C'.more{S S' all:List C4}(h:C' S all)(h1:∀c,c∈S'->c∈S)(h2:∀c,c∈S->c∈S'):C' S' all:=
 ⟨h.some,h.apart,h.sum,h.whole,fun c hc=>h.each c (h1 c hc),h.told.imp fun⟨c,hc,h⟩=>⟨c,h2 c hc,h⟩⟩
end bO
namespace bH
open Go.RowKit bL db
theorem ug(v:Value)(l:List Int)(w:World)(hs:Sl w v l.length (l.flatMap bL.dK))(hl:l.length*8<=140737488355328):
  Calls Tryz.prog 49 #[v] w (bU (bW 3 1 l.length (l.flatMap bL.dK) id) w):=by
 obtain⟨base,cap,rfl,q_,wa,eV⟩:=hs;unfold maxLen at wa;refine enter (args:=[.slice base l.length cap]) (n:=8) Tryz.func49 rfl rfl rfl ?_;have so:∀w',Gr w w'->Sl w' (.slice base l.length cap) l.length (l.flatMap bL.dK):=fun w' hg=>Sl.gr ⟨base,cap,rfl,q_,wa,eV⟩ hg;clear eV
 cases base with
 | none=>
  repeat(first|refine GC ?_|refine gV (q9 aT.eq rfl rfl rfl) ?_|refine GB ?_)
  have h0:l=[]:=by
   cases l with
   |nil=>rfl
   |cons x l=>obtain⟨_,_,h,_,_,h2⟩:=so w (Gr.refl w);simp only[Value.slice.injEq]at h;obtain⟨rfl,_⟩:=h;obtain⟨b,off,h,_⟩:=h2 (by simp);cases h
  subst h0;refine de 3 1 ?_;exact b_ rfl rfl fun w hm=>hm.meets (S:=bW 3 1 0 [] id) _ trivial [0] (by decide) rfl
 |some p=>
  repeat(first|refine GC ?_|refine gV (q9 aT.eq rfl rfl rfl) ?_|refine GB ?_)
  refine G' rfl fun g=>?_
  try refine GA ?_
  refine dS (i:=0) rfl (fun w' hm=>so w' hm.below) rfl rfl (mN iY l) (Hx l) (by omega) (by omega) rfl fun v'=>?_;rw[List.nil_append]
  try refine GA ?_
  refine b_ rfl rfl fun w hm=>?_;exact hm.meets (S:=bW 3 1 l.length (l.flatMap bL.dK) id) v' trivial [0] (by decide) (by simp[bW])
end bH
namespace bH
open Go.RowKit bL db
open Go.WideElems (Fit findIdx_arr findIdx_born modify_last)
open Go.ChangeMaps Go.MapKept Go.WideShapes
section
variable{P:Program}{k:TypeId}{κ:Type}(K:qi P k κ)
theorem tH{α:Type}(f:α->α):∀(l:List α) (j:Nat) (a:α),l[j]?=some a->f a=a->l.modify j f=l
 |[],_,_,h,_=>by simp at h
 |b::r,0,a,h,hf=>by simp at h;subst h;simp[hf]
 |b::r,j+1,a,h,hf=>by simp at h;simp[List.modify_succ_cons,tH f r j a h hf]
theorem modify_eq{α:Type}(f f':α->α):∀(l:List α) (j:Nat) (a:α),l[j]?=some a->f a=f' a->l.modify j f=l.modify j f'
 |[],_,_,h,_=>by simp at h
 |b::r,0,a,h,hf=>by simp at h;subst h;simp[hf]
 |b::r,j+1,a,h,hf=>by simp at h;simp[List.modify_succ_cons,modify_eq f f' r j a h hf]
def Ml(g:Nat)(x:κ)(st:Nat)(z:Value)(f:κ->Value)(b:Nat):bz:=
  ⟨some g,fun _=>False,fun w=>(jV K g z f b).holds w/\∃es clock e0,w.heap[g]?=some (.map es clock)/\e0∈es.toList/\e0.key=K.kv x/\e0.born=st,
    fun w h q hq=>(jV K g z f b).lt w h.1 q hq,
    fun w w' ⟨h1,es,clock,e0,h2,h3⟩ hs hk=>⟨(jV K g z f b).stay w w' h1 hs hk,es,clock,e0,(hk g (.inl rfl)).trans h2,h3⟩⟩
theorem wR{w:World}{g:Nat}{es:Array MapEntry}{c:Nat}(h:w.heap[g]?=some (.map es c)):setBlock w g (.map es c)=w:=by
 have e:w.heap.setIfInBounds g (.map es c)=w.heap:=by
  apply Array.ext_getElem?;intro i
  by_cases hi:i=g
  ·subst hi;exact(heap_setBlock_same h _).trans h.symm
  ·exact heap_setBlock_other h _ hi
 unfold setBlock;rw[e]
variable[DecidableEq κ]
theorem Jx{w:World}{t e:TypeId}{g b:Nat}{f:κ->Value}{x:κ}{z:Value}(ht:P.underlying t=some (.map k e))(hz:∀u:World,(zeroValue e).run P u= .ok z u)(h:(jV K g z f b).holds w)(hx:K.ok x)(hc:b<=1152921504606846976):
    ∃st w1,(Instr.mapEntry t (.map (some g)) (K.kv x)).run P w= .ok (.tuple #[f x,goInt (st:Nat)]) w1/\w.grownBy w1 (some g)/\(Ml K g x st z f (b+1)).holds w1:=by
  have Rs:=yR K (f:=f) ht hz h hx;obtain⟨l,wS⟩:=K.key x hx;obtain⟨m,n,h1,⟨D,⟨es,clock,hb,F,hs,hD⟩,hi⟩,h3⟩:=id h;rcases K.law.find w wS es.toList F.keys with⟨k1,k2⟩|⟨j,e0,k1,k2,k3⟩
  · have XD:f x=z:=by
      have:(Instr.lookup t (.map (some g)) (K.kv x) false).run P w= .ok z w:=by
        simp[Instr.lookup,run_underlying ht,MapKept.run_getObj_map hb,K.law.check w _ wS,k1,hz,Result.andThen]
      rw[Rs]at this
      simpa using this
    obtain⟨w',r1,r2,r3⟩:=vJ K (f':=f) (v:=z) ht h hx hc (fun y _=>by by_cases e:y=x<;>simp[e,XD]);have r1':(Instr.mapUpdate t (.map (some g)) (K.kv x) z).run P w= .ok () (setBlock w g (.map (es.push ⟨K.kv x,z,clock⟩) (clock+1))):=by
      simp[Instr.mapUpdate,run_underlying ht,MapKept.run_getObj_map hb,K.law.check w false wS,k1,MapKept.run_setObj_map _ hb,Result.andThen,setBlock]
    have ew:w'=setBlock w g (.map (es.push ⟨K.kv x,z,clock⟩) (clock+1)):=by
      rw[r1]at r1';simpa using r1'
    refine⟨clock,w',?_,r3,r2,es.push ⟨K.kv x,z,clock⟩,clock+1,⟨K.kv x,z,clock⟩,?_,by simp,rfl,rfl⟩
    · rw[ew,XD]
      simp[Instr.mapEntry,run_underlying ht,MapKept.run_getObj_map hb,K.law.check w false wS,k1,hz,MapKept.run_setObj_map _ hb,Result.andThen,setBlock]
    · rw[ew];exact heap_setBlock_same hb _
  · have hj:es[j]?=some e0:=by simpa using k2
    have XD:f x=e0.val:=by
      have:(Instr.lookup t (.map (some g)) (K.kv x) false).run P w= .ok e0.val w:=by
        simp[Instr.lookup,run_underlying ht,MapKept.run_getObj_map hb,K.law.check w _ wS,k1,Result.andThen]
      rw[Rs]at this
      simpa using this
    have n_:es.modify j (fun e=>{e with key:=K.kv x})=es:=by
      apply Array.ext';rw[Array.toList_modify];exact tH _ _ _ _ k2 (by rw[<-k3])
    refine⟨e0.born,w,?_,⟨rfl,rfl,rfl,Nat.le_refl _,fun _ _ _=>rfl⟩,yS (by omega) (fun _ _=>rfl) w h,es,clock,e0,hb,List.mem_of_getElem? k2,k3,rfl⟩;rw[XD];have:=wR hb;simp[Instr.mapEntry,run_underlying ht,MapKept.run_getObj_map hb,K.law.check w false wS,k1,hj,k3,K.law.stays w wS,n_,MapKept.run_setObj_map _ hb,Result.andThen];exact this
theorem Jy{w:World}{t e:TypeId}{g b st:Nat}{f f':κ->Value}{x:κ}{z v:Value}(ht:P.underlying t=some (.map k e))(h:(Ml K g x st z f b).holds w)(hx:K.ok x)(hc:b<=1152921504606846976)(hf:∀y,K.ok y->f' y=if y=x then v else f y):
 ∃w',(Instr.entryStore t (.map (some g)) (goInt (st:Nat)) v).run P w= .ok () w'/\(jV K g z f' (b+1)).holds w'/\w.grownBy w' (some g):=by
 obtain⟨h,es',Y2,e1,Aq,iT,hk1,uz⟩:=h;obtain⟨w',r1,r2,r3⟩:=vJ K (f':=f') (v:=v) ht h hx hc hf;refine⟨w',?_,r2,r3⟩;rw[<-r1];obtain⟨l,wS⟩:=K.key x hx;obtain⟨m,n,h1,⟨D,⟨es,clock,hb,F,hs,hD⟩,hi⟩,h3⟩:=h;rw[hb]at Aq;simp only[Option.some.injEq,Obj.map.injEq]at Aq;obtain⟨rfl,rfl⟩:=Aq;obtain⟨s1,s2,s3⟩:=F.stamped;rcases K.law.find w wS es.toList F.keys with⟨k1,k2⟩|⟨j,e0,k1,k2,k3⟩
 ·exact absurd hk1 (k2 e1 iT)
 ·have hj:es[j]?=some e0:=by simpa using k2
  obtain⟨i,kz⟩:=List.getElem?_of_mem iT;have k_:i=j:=by
   have IN:=(List.getElem?_eq_some_iff.1 kz);have Tb:=(List.getElem?_eq_some_iff.1 k2);obtain⟨li,ei⟩:=IN;obtain⟨lj,ej⟩:=Tb;refine(List.getElem_inj (h₀:=by simpa using li) (h₁:=by simpa using lj) s3).1 ?_;simp only[List.getElem_map,ei,ej,hk1,k3]
  subst k_;have e01:e1=e0:=by rw[kz]at k2;simpa using k2
  subst e01;subst uz;have Tc:es.findIdx? (fun e=>((e.born:Nat):Int)==((e1.born:Nat):Int))=some i:=by
   rw[findIdx_arr];exact findIdx_born s2 k2
  have Io:es.modify i (fun e=>{e with val:=v})=es.modify i (fun e'=>{e' with key:=K.kv x,val:=v}):=by
   apply Array.ext';rw[Array.toList_modify,Array.toList_modify];exact modify_eq _ _ _ _ _ k2 (by rw[<-k3])
  simp[Instr.entryStore,Instr.mapUpdate,run_underlying ht,MapKept.run_getObj_map hb,asInt,asIntOf,goInt,Tc,Io,K.law.check w false wS,k1,hj,k3,K.law.stays w wS,MapKept.run_setObj_map _ hb,Result.andThen]
section
variable{W:bB}{fr:Fr}{L:List bz}{Q:Exit->Act->World->Prop}{ops:Array Oper}{rest:List Oper}{n d:Nat}{dst:Option Tmp}{ty:TypeId}{pos:String}{after:Array Edge}{guard:Option (Nat×Bool)}{i g b:Nat}{t e:TypeId}{f:κ->Value}{x:κ}{z:Value}{xm xk xv xs:Operand}
theorem Da(ht:P.underlying t=some (.map k e))(hz:∀u:World,(zeroValue e).run P u= .ok z u)(hi:L[i]?=some (jV K g z f b))(hm:ev fr xm=some (.map (some g)))(hk:ev fr xk=some (K.kv x))(hx:K.ok x)(hc:b<=1152921504606846976)(hn:Nat.blt d n=true)
 (h:∀st:Nat,TL P n W ops Q rest ((d,.tuple #[f x,.int .i64 (st:Int)])::fr) (L.set i (Ml K g x st z f (b+1)))):
 TL P n W ops Q (⟨some d,.mapEntry t xm xk,ty,pos,after,none⟩::rest) fr L:=ia rfl fun a w hr hw KK hK=>by
 obtain⟨st,w1,h1,h2,h3⟩:=Jx K ht hz (hw.get hi) hx hc;have e1:(execOp a.eval ⟨some d,.mapEntry t xm xk,ty,pos,after,none⟩).run P w= .ok (.value (.tuple #[f x,.int .i64 (st:Int)])) w1:=by
  simp[execOp,hr.ev hm,hr.ev hk,h1,goInt,Result.andThen]
 unfold Oper.wp;rw[e1];exact hK _ _ ((h st).go _ _ (hr.put hn _) (hw.ua hi h2 h3 fun q hq=> .inl hq))
theorem zu{st:Nat}{v:Value}(f':κ->Value)(ht:P.underlying t=some (.map k e))(hi:L[i]?=some (Ml K g x st z f b))(hm:ev fr xm=some (.map (some g)))(hs:ev fr xs=some (.int .i64 (st:Int)))(hv:ev fr xv=some v)(hx:K.ok x)(hc:b<=1152921504606846976)(hf:∀y,K.ok y->f' y=if y=x then v else f y)
 (h:TL P n W ops Q rest fr (L.set i (jV K g z f' (b+1)))):
 TL P n W ops Q (⟨none,.entryStore t xm xs xv,ty,pos,after,none⟩::rest) fr L:=ia rfl fun a w hr hw KK hK=>by
 obtain⟨w1,h1,h2,h3⟩:=Jy K ht (hw.get hi) hx hc hf;have e1:(execOp a.eval ⟨none,.entryStore t xm xs xv,ty,pos,after,none⟩).run P w= .ok .skip w1:=by
  have XE:(Instr.entryStore t (.map (some g)) (.int .i64 (st:Int)) v).run P w= .ok () w1:=h1;simp[execOp,hr.ev hm,hr.ev hs,hr.ev hv,XE,Result.andThen]
 unfold Oper.wp;rw[e1];exact hK _ _ (h.go _ _ (hr.mc undef) (hw.ua hi h3 h2 fun q hq=> .inl hq))
omit [DecidableEq κ]in
theorem Mm{st:Nat}{v:Value}(ht:P.underlying t=some (.map k e))(hz:∀w,(zeroValue e).run P w= .ok z w)(hi:L[i]?=some (Ml K g x st z f b))(hm:ev fr xm=some (.map (some g)))(hk:ev fr xk=some (K.kv x))(hx:K.ok x)(hv:f x=v):RR P n W ⟨dst,.lookup t xm xk false,ty,pos,after,guard⟩ fr L v:=
 vH K ht hz (fun _ hw=>(hw.get hi).1) hm hk hx hv
end
end
end bH
namespace bH
open Go.RowKit bL db
theorem uh(v:Value)(l:List Bool)(x:Bool)(w:World)(hs:Sl w v l.length (l.map .bool)):
 Calls Tryz.prog 30 #[v,.bool x] w (bU (ret (.int .i64 (q8 (· ==x) l))) w):=by
 obtain⟨base,cap,rfl,q_,wa,eV⟩:=hs;unfold maxLen at wa;refine enter (args:=[.slice base l.length cap,.bool x]) (n:=19) Tryz.func30 rfl rfl rfl ?_
 try refine GA ?_
 refine cX (ι:=Nat) (fun k=>k<=l.length/\∀j (hj:j<l.length),j<k->(l[j]==x)=false) (fun k=>[(0,.slice base l.length cap),(1,.bool x),(7,.int .i64 l.length),(8,.int .i64 (k:Int))]) (fun _=>[]) (fun k=>l.length-k) 0 ⟨by omega,fun j hj h=>by omega⟩ ?_;rintro k ⟨h1,h2⟩
 by_cases c2:k<l.length
 ·obtain⟨b,off,rfl,hr⟩:=eV (by omega)
  have du:=KO (L:=([]:List bz)) hr c2
  by_cases c3:(l[k]==x)=true
  ·rw[yK c2 c3 h2]
   have e:x=l[k]:=by simpa using(beq_iff_eq.1 c3).symm
   clear h2 eV;subst e
   repeat(first|refine GC ?_|refine gV (aO aT.eq ak.ty rfl rfl c2) ?_|refine gV (J ak.ty rfl du) ?_|refine gV (yF (c:=true) aT.eq rfl rfl (by simp)) ?_|refine GB ?_)
   exact da
  ·have Q9:(l[k]==x)=false:=by simpa using c3
   have e:(x==l[k])=false:=by rw[beq_eq_false_iff_ne]at Q9⊢;exact fun h=>Q9 h.symm
   clear eV c3
   repeat(first|refine GC ?_|refine gV (aO aT.eq ak.ty rfl rfl c2) ?_|refine gV (J ak.ty rfl du) ?_|refine gV (yF (c:=false) aT.eq rfl rfl e) ?_|refine GB ?_)
   exact aY (k+1) ⟨by omega,fun j hj h=>if e:j<k then h2 j hj e else(by obtain rfl:j=k:=(by omega);exact Q9)⟩ (by show l.length-(k+1)<l.length-k;omega)
 ·rw[yL fun j hj=>h2 j hj (by omega)]
  clear h2 eV
  try refine GA ?_
  exact da
theorem kS(v:Value)(l:List Bool)(x:Bool)(w:World)(hs:Sl w v l.length (l.map .bool)):
 Calls Tryz.prog 11 #[v,.bool x] w (bU (ret (.bool (l.any (· ==x)))) w):=by
 refine enter (args:=[v,.bool x]) (n:=9) Tryz.func11 rfl rfl rfl ?_;have hh:=fun w' (hg:Gr w w')=>uh v l x w' (hs.gr hg);have hr:=vv (· ==x) l
 rw[<-Cp (· ==x) l]
 generalize q8 (· ==x) l=r at*
 try refine GA ?_
 refine aM (fh aj.en rfl rfl rfl) (fun w hm=>hh _ hm.below) rfl rfl rfl ?_;intro _ _
 repeat(first|refine GC ?_|refine gV (fH rfl rfl rfl) ?_|refine GB ?_)
 exact da
end bH
namespace bH
open Go.RowKit bL db av dg
inductive kT(F:Nat->Prop)(w:World):List Value->Tree->Prop
 |mk {p k:Int} {kids:List Tree} {base:Option Addr} {cap:Nat} (eM:List (List Value)):bL.bX p->bL.bX k->kids.length<=cap->cap<=maxLen->eM.length=kids.length->
  (∀i (h:i<kids.length) (h':i<eM.length),kT F w eM[i] kids[i])->(0<kids.length->∃b off,base=some ⟨b,off,none⟩/\F b/\∀i (_:i<kids.length) (h':i<eM.length),Rd w b (off+i*3) eM[i])->
  kT F w [.int .i64 p,.int .i64 k,.slice base kids.length cap] (.mk p k kids)
theorem kT.Y3{F:Nat->Prop}{w:World}{cs:List Value}{t:Tree}(h:kT F w cs t):cs.length=3:=by
 cases h;rfl
theorem kT.AG{F:Nat->Prop}{w w':World}{cs:List Value}{t:Tree}(h:kT F w cs t)(hk:∀k,F k->w'.heap[k]?=w.heap[k]?):kT F w' cs t:=by
 induction h with
 |mk eM h1 h2 h3 h4 h5 h6 h7 ih=>
  refine .mk eM h1 h2 h3 h4 h5 ih fun hl=>?_;obtain⟨b,off,e,hF,hr⟩:=h7 hl;exact⟨b,off,e,hF,fun i hi kz=>rd_stay (hr i hi kz) (hk b hF)⟩
theorem kT.mono{F F':Nat->Prop}{w:World}{cs:List Value}{t:Tree}(h:kT F w cs t)(hk:∀k,F k->F' k):kT F' w cs t:=by
 induction h with
 |mk eM h1 h2 h3 h4 h5 h6 h7 ih=>
  refine .mk eM h1 h2 h3 h4 h5 ih fun hl=>?_;obtain⟨b,off,e,hF,hr⟩:=h7 hl;exact⟨b,off,e,hk b hF,hr⟩
def VL:qQ Tree:=⟨3,kT,fun h=>h.Y3,fun h hk=>h.AG hk,fun h hk=>h.mono hk⟩
def VM(p k:Int)(v:Value):Value:= .agg #[.int .i64 p,.int .i64 k,v]
def Mn(F:Nat->Prop)(w:World)(v:Value)(t:Tree):Prop:=∃vk,v=VM t.prod t.tok vk/\bL.bX t.prod/\bL.bX t.tok/\gI VL F w vk t.kids
theorem Mn.gr{w w':World}{v:Value}{t:Tree}(h:Mn (fun k=>k<w.heap.size) w v t)(hg:Gr w w'):Mn (fun k=>k<w'.heap.size) w' v t:=
 let ⟨vk,h1,h2,h3,h4⟩:=h;⟨vk,h1,h2,h3,h4.gr hg⟩
section
end
end bH
namespace bH
open Go.RowKit bL db av b9
def ed(n:Nat):Value:= .int .u64 (n:Int)
theorem uK{l:List Bool}{i:Nat}(hi:i<l.length):(l.map Value.bool)[i]?=some (.bool (l.getD i false)):=by
 simp[hi]
theorem A9{l:List Nat}{i:Nat}(hi:i<l.length):(l.map ed)[i]?=some (ed (l.getD i 0)):=by
 simp[hi]
theorem Fy(g cap:Nat)(l:List Bool)(i:Nat)(b:Bool)(w:World)(B:bB)(hi:i<l.length)(hm:Mem B [aI 4 1 (.slice (some ⟨g,0,none⟩) l.length cap) l.length (l.map .bool)] w):
 Calls Tryz.prog 50 #[.slice (some ⟨g,0,none⟩) l.length cap,.int .i64 (i:Int),.bool b] w (dc ⟨fun(_:Unit)=>True,fun _=> .bool (dy l i b).2,fun _=>[aI 4 1 (.slice (some ⟨g,0,none⟩) l.length cap) l.length ((dy l i b).1.map .bool)]⟩ B):=by
 have hb:=uK hi;refine eg hm (args:=[.slice (some ⟨g,0,none⟩) l.length cap,.int .i64 (i:Int),.bool b]) (n:=18) Tryz.func50 rfl rfl rfl ?_;unfold dy
 cases b
 ·rw[if_neg (by simp)]
  try refine GA ?_
  exact b_ rfl rfl fun w hm=>hm.bV (S:=⟨fun(_:Unit)=>True,fun _=> .bool false,fun _=>[aI 4 1 (.slice (some ⟨g,0,none⟩) l.length cap) l.length (l.map .bool)]⟩) () trivial [0] (by decide) rfl
 ·generalize hx:l.getD i false=x at*
  cases x
  ·rw[if_pos ⟨rfl,rfl⟩]
   repeat(first|refine GA ?_|refine gV (aO aT.eq ak.ty rfl rfl hi) ?_|refine gV (J ak.ty rfl (f_ (i:=0) rfl (by rw[Nat.zero_add];exact hb))) ?_)
   refine gG (i:=0) ak.ty rfl rfl rfl rfl rfl rfl (by simpa using hi) ?_
   try refine GA ?_
   exact b_ rfl rfl fun w hm=>hm.bV (S:=⟨fun(_:Unit)=>True,fun _=> .bool true,fun _=>[aI 4 1 (.slice (some ⟨g,0,none⟩) l.length cap) l.length ((l.set i true).map .bool)]⟩) () trivial [0] (by decide) (by simp[List.map_set])
  ·rw[if_neg (by simp)]
   repeat(first|refine GA ?_|refine gV (aO aT.eq ak.ty rfl rfl hi) ?_|refine gV (J ak.ty rfl (f_ (i:=0) rfl (by rw[Nat.zero_add];exact hb))) ?_)
   exact b_ rfl rfl fun w hm=>hm.bV (S:=⟨fun(_:Unit)=>True,fun _=> .bool false,fun _=>[aI 4 1 (.slice (some ⟨g,0,none⟩) l.length cap) l.length (l.map .bool)]⟩) () trivial [0] (by decide) rfl
theorem qC(v vb:Value)(l:List Bool)(body:List bY)(aJ:Bool)(w:World)(hs:Sl w v l.length (l.map .bool))(Ra:Sl w vb body.length (body.flatMap dv))(jU:∀x∈body,x.1=2->0<=x.2/\x.2<l.length):
    Calls Tryz.prog 51 #[v,vb,.bool aJ] w (bU (ret (.bool (gL l body aJ))) w):=by
  obtain⟨bv,cv,rfl,h1,h2,h3⟩:=hs;obtain⟨bb,cb,rfl,h4,h5,h6⟩:=Ra;unfold maxLen at h2 h5;refine enter (args:=[.slice bv l.length cv,.slice bb body.length cb,.bool aJ]) (n:=36) Tryz.func51 rfl rfl rfl ?_
  try refine GA ?_
  refine cX (ι:=Nat) (fun k=>k<=body.length/\gL l body aJ=gL l (body.drop k) aJ) (fun k=>[(0,.slice bv l.length cv),(2,.bool aJ),(9,.slice bb body.length cb),(10,.int .i64 body.length),(11,.int .i64 (k:Int))]) (fun _=>[]) (fun k=>body.length-k) 0 ⟨Nat.zero_le _,rfl⟩ ?_;rintro k ⟨i1,i2⟩;rw[i2];clear i2
  by_cases c6:k<body.length
  · obtain⟨b,off,rfl,hr⟩:=h6 (by omega)
    have du:=fx (L:=([]:List bz)) jO hr c6;have Jz:=jU body[k] (List.getElem_mem c6);have hd:gL l (body.drop k) aJ=((if body[k].1=1 then aJ else if body[k].1=2 then l.getD body[k].2.toNat false else true)&&gL l (body.drop (k+1)) aJ):=by
      rw[List.drop_eq_getElem_cons c6];rfl
    rw[hd];clear hd h6 jU hr;generalize body[k]=x at*;obtain⟨q,m⟩:=x;dsimp only at*
    by_cases c1:q=1
    · rw[if_pos c1]
      cases aJ
      · repeat(first|refine GA ?_|refine gV (aH aT.eq ak.ty rfl rfl c6) ?_|refine gV (aK ak.ty rfl rfl du) ?_)
        refine aF rfl fun g8=>?_;refine fU 0 ?_
        repeat(first|refine GA ?_|refine gV (J ak.ty rfl (ah (i:=0) rfl rfl)) ?_)
        exact da
      · repeat(first|refine GA ?_|refine gV (aH aT.eq ak.ty rfl rfl c6) ?_|refine gV (aK ak.ty rfl rfl du) ?_)
        refine aF rfl fun g8=>?_;refine fU 0 ?_
        repeat(first|refine GA ?_|refine gV (J ak.ty rfl (ah (i:=0) rfl rfl)) ?_)
        refine bR [] ?_;exact aY (k+1) ⟨by omega,by simp⟩ (by show body.length-(k+1)<body.length-k;omega)
    · rw[if_neg c1]
      by_cases c2:q=2
      · rw[if_pos c2]
        obtain⟨o1,o2⟩:=Jz c2;obtain⟨mm,rfl⟩:∃mm:Nat,m=mm:=⟨m.toNat,by omega⟩;have pH:mm<l.length:=by omega
        obtain⟨b',uc,rfl,ur⟩:=h3 (by omega);rw[Int.toNat_natCast];have hcell:=uK pH;generalize l.getD mm false=y at*
        cases y
        · repeat(first|refine GA ?_|refine gV (aH aT.eq ak.ty rfl rfl c6) ?_|refine gV (aK ak.ty rfl rfl du) ?_)
          refine aF rfl fun g8=>?_;refine fU 0 ?_
          repeat(first|refine GA ?_|refine gV (J ak.ty rfl (ah (i:=0) rfl rfl)) ?_|refine gV (aO aT.eq ak.ty rfl rfl pH) ?_|refine gV (J ak.ty rfl (iD ur hcell)) ?_)
          exact da
        · repeat(first|refine GA ?_|refine gV (aH aT.eq ak.ty rfl rfl c6) ?_|refine gV (aK ak.ty rfl rfl du) ?_)
          refine aF rfl fun g8=>?_;refine fU 0 ?_
          repeat(first|refine GA ?_|refine gV (J ak.ty rfl (ah (i:=0) rfl rfl)) ?_|refine gV (aO aT.eq ak.ty rfl rfl pH) ?_|refine gV (J ak.ty rfl (iD ur hcell)) ?_)
          refine bR [] ?_;exact aY (k+1) ⟨by omega,by simp⟩ (by show body.length-(k+1)<body.length-k;omega)
      · rw[if_neg c2]
        repeat(first|refine GA ?_|refine gV (aH aT.eq ak.ty rfl rfl c6) ?_|refine gV (aK ak.ty rfl rfl du) ?_)
        refine aF rfl fun g8=>?_;refine fU 0 ?_
        repeat(first|refine GA ?_|refine gV (J ak.ty rfl (ah (i:=0) rfl rfl)) ?_)
        refine bR [] ?_;exact aY (k+1) ⟨by omega,by simp⟩ (by show body.length-(k+1)<body.length-k;omega)
  · rw[List.drop_of_length_le (by omega)]
    try refine GA ?_
    exact da
end bH
end Go.Proofs.YtldiodhdefnlaaaGreat

/- Part 5 of what SpecOne needs: DfQ, Els, ItD, SortJ, ItE, ItF, ItG, ItA, ItP, OutA, Opens, CfgL, SpecL, SpecS, CfgP, SmX, SmY, SmPL, SpecN, CfgQ, CfgR, SpecP, SmA, SmPk, SpecQ, SpecC. -/
import Derived.Test.YtldiodhdefnlaaaGreatMgD
import Derived.Shelf.SlGeneric
import Derived.Shelf.SlSortCmp.NoneTotal
import Derived.Ground.SlsfProg
import Derived.Lib.IndexMore
namespace Go.Proofs.YtldiodhdefnlaaaGreat
set_option linter.unusedVariables false
set_option linter.unusedSimpArgs false
set_option maxHeartbeats 16000000
namespace jS
open bO d_ cV bT
open bH (jc dA pL Br)
def DH(p:PS)(S:List C4)(all:C4)(b:Nat):Int:=if A1 p all b=C4.zero then-1 else((idx S (A1 p all b)+1:Nat):Int)
def oU(p:PS)(S:List C4)(all:C4)(b:Nat)(x:Int):Prop:=x=DH p S all b/\(A1 p all b=C4.zero\/A1 p all b∈S)
theorem oU.E_{p:PS}{S:List C4}{all:C4}{b:Nat}{x:Int}(h:oU p S all b x)(E:List C4):oU p (S++E) all b x:=by
 obtain⟨h1,h2⟩:=h;refine⟨?_,h2.imp id fun h=>List.mem_append_left _ h⟩;rw[h1];unfold DH
 by_cases c:A1 p all b=C4.zero
 ·rw[if_pos c,if_pos c]
 ·rw[if_neg c,if_neg c,lB (h2.resolve_left c)]
def l7(p:PS)(t0:Int)(d:DM):Prop:=d.tags=t0::d.S.map (jS.pK p)
theorem JY(p:PS)(t0:Int)(d:DM)(s:C4):(∃E,(eU p d s).2.S=d.S++E)/\s∈(eU p d s).2.S/\(eU p d s).1=idx (eU p d s).2.S s+1/\(l7 p t0 d->l7 p t0 (eU p d s).2):=by
 unfold eU
 by_cases c:s∈d.S
 ·rw[if_pos c]
  exact⟨⟨[],(List.append_nil _).symm⟩,c,rfl,id⟩
 ·rw[if_neg c]
  refine⟨⟨[s],rfl⟩,List.mem_append_right _ (List.mem_singleton.2 rfl),?_,fun h=>?_⟩
  ·show d.S.length+1=idx (d.S++[s]) s+1
   unfold idx;rw[List.idxOf_append,if_neg c];simp
  ·show d.tags++[jS.pK p s]=t0::(d.S++[s]).map (jS.pK p)
   rw[h,List.map_append];rfl
theorem MO(p:PS)(t0:Int)(all:C4)(b:Nat)(hb:b<256)(r:Row)(d:DM):(∃E,(dN p all b r d).2.S=d.S++E)/\(∀c (h:c<256),c≠b->(dN p all b r d).1[c]=r[c])/\oU p (dN p all b r d).2.S all b ((dN p all b r d).1[b])/\(l7 p t0 d->l7 p t0 (dN p all b r d).2):=by
 unfold dN
 by_cases c:A1 p all b=C4.zero
 ·rw[if_pos c,dif_pos hb]
  refine⟨⟨[],(List.append_nil _).symm⟩,fun c' h hc=>?_,⟨?_,.inl c⟩,id⟩
  ·exact Vector.getElem_set_ne hb h (Ne.symm hc)
  ·rw[Vector.getElem_set_self hb];unfold DH;rw[if_pos c]
 ·rw[if_neg c,dif_pos hb]
  obtain⟨h1,h2,h3,h4⟩:=JY p t0 d (A1 p all b);refine⟨h1,fun c' h hc=>?_,⟨?_,.inr h2⟩,h4⟩
  ·dsimp only
   rw[Vector.getElem_set_ne hb h (Ne.symm hc),Vector.getElem_set_ne hb h (Ne.symm hc)]
  ·dsimp only
   rw[Vector.getElem_set_self hb,h3];unfold DH;rw[if_neg c]
theorem H3(p:PS)(t0:Int)(all:C4):∀(f b:Nat) (r:Row) (d:DM),b+f=256->(iW p all f b r d).2.S.length+1<=200->
    (∃E,(iW p all f b r d).2.S=d.S++E)/\(∀c (h:c<256),c<b->(iW p all f b r d).1[c]=r[c])/\(∀c (h:c<256),b<=c->oU p (iW p all f b r d).2.S all c ((iW p all f b r d).1[c]))/\(l7 p t0 d->l7 p t0 (iW p all f b r d).2)
  |0,b,r,d,Zh,_=>⟨⟨[],(List.append_nil _).symm⟩,fun _ _ _=>rfl,fun c h hc=>by omega,id⟩
  | f + 1,b,r,d,Zh,hl=>by
    obtain⟨⟨E1,h1⟩,h2,h3,h4⟩:=MO p t0 all b (by omega) r d;have e:iW p all (f+1) b r d=if 200<(dN p all b r d).2.S.length+1 then dN p all b r d else iW p all f (b+1) (dN p all b r d).1 (dN p all b r d).2:=rfl
    rw[e]at hl⊢
    by_cases c:200<(dN p all b r d).2.S.length+1
    · rw[if_pos c]at hl;omega
    · rw[if_neg c]at hl⊢
      obtain⟨⟨E2,q1⟩,q2,q3,q4⟩:=H3 p t0 all f (b+1) _ _ (by omega) hl;refine⟨⟨E1++E2,by rw[q1,h1,List.append_assoc]⟩,fun c' h hc=>?_,fun c' h hc=>?_,fun h=>q4 (h4 h)⟩
      · rw[q2 c' h (by omega),h2 c' h (by omega)]
      · by_cases ec:c'=b
        · subst ec
          rw[q2 c' h (by omega),q1];exact h3.E_ E2
        · exact q3 c' h (by omega)
theorem zW(m:MS)(S E:List C4){n:Nat}(h:n<=S.length):fW m (S++E) n=fW m S n:=by
 cases n with
 |zero=>rfl
 |succ n=>
  show jw m.ps ((S++E).getD n C4.zero) _=jw m.ps (S.getD n C4.zero) _
  rw[fy (by omega)]
structure UE(m:MS)(t0:Int)(n:Nat)(R:List Row)(d:DM):Prop where
 len:R.length=n
 le:n<=d.S.length+1
 xU:d.S.length+1<=200
 cell:∀q,q<n->∀c (h:c<256),oU m.ps d.S (fW m d.S q) c ((R.getD q pL)[c])
 tags:l7 m.ps t0 d
theorem DI(m:MS)(t0:Int):∀(f n:Nat) (R:List Row) (d:DM) (R':List Row) (d':DM),ni m f n R d=some (R',d')->UE m t0 n R d->UE m t0 (d'.S.length+1) R' d'
  |0,_,_,_,_,_,h,_=>by cases h
  | f + 1,n,R,d,R',d',h,hi=>by
    have e:ni m (f+1) n R d=if n<d.S.length+1 then(if 200<(lf m n d).2.S.length+1 then none else ni m f (n+1) (R++[(lf m n d).1]) (lf m n d).2)else some (R,d):=rfl
    rw[e]at h
    by_cases c1:n<d.S.length+1
    · rw[if_pos c1]at h
      by_cases c2:200<(lf m n d).2.S.length+1
      · rw[if_pos c2]at h;cases h
      · rw[if_neg c2]at h
        refine DI m t0 f (n+1) _ _ R' d' h ?_;obtain⟨⟨E,q1⟩,_,q3,q4⟩:=H3 m.ps t0 (fW m d.S n) 256 0 (Vector.replicate 256 0) d rfl (by show(lf m n d).2.S.length+1<=200;omega);have q1:(lf m n d).2.S=d.S++E:=q1;have q3:∀c (h:c<256),0<=c->oU m.ps (lf m n d).2.S (fW m d.S n) c ((lf m n d).1[c]):=q3;have hlen:=congrArg List.length q1;rw[List.length_append]at hlen;refine⟨by rw[List.length_append,hi.len];rfl,by omega,by omega,fun q hq c hc=>?_,q4 hi.tags⟩
        by_cases eq:q=n
        · subst eq
          rw[iy (by rw[hi.len];exact Nat.le_refl _),hi.len,Nat.sub_self];show oU m.ps (lf m q d).2.S (fW m (lf m q d).2.S q) c ((lf m q d).1[c])
          rw[q1,zW m d.S E (by omega),<-q1];exact q3 c hc (Nat.zero_le _)
        · rw[fy (by rw[hi.len];omega),q1,zW m d.S E (by omega)]
          exact(hi.cell q (by omega) c hc).E_ E
    · rw[if_neg c1]at h
      simp only[Option.some.injEq,Prod.mk.injEq]at h;obtain⟨rfl,rfl⟩:=h;have:n=d.S.length+1:=by have:=hi.le;omega
      rw[<-this];exact hi
theorem s9{m:MS}{R:List Row}{d:DM}(h:ox m=some (R,d)):UE m (dz m.empty 0) (d.S.length+1) R d:=
 DI m (dz m.empty 0) 201 0 [] ⟨[],[dz m.empty 0]⟩ R d h ⟨rfl,Nat.zero_le _,by show 0+1<=200;decide,fun q hq=>absurd hq (Nat.not_lt_zero q),rfl⟩
theorem MP(R:List Row)(q c:Nat)(h:c<256):((R.getD q pL).toList.getD c 0)=(R.getD q pL)[c]:=by
 rw[List.getD_eq_getElem?_getD,List.getElem?_eq_getElem (by simpa using h),Option.getD_some,Vector.getElem_toList]
theorem Bx{p:PS}{n:Nat}(hr:∀r∈p.rules,0<=r/\r<n)(hl:p.rules.length=p.aC.length)(s:C4):∀k,k<=p.aC.length->(gw p s k= -1/\∀i,i<k->s.mem i=true->p.last.getD i false=true->False)\/(∃i,i<k/\s.mem i=true/\p.last.getD i false=true/\gw p s k=p.rules.getD i 0/\0<=gw p s k/\gw p s k<n/\∀i,i<k->s.mem i=true->p.last.getD i false=true->gw p s k<=p.rules.getD i 0)
  |0,_=> .inl ⟨rfl,fun i hi=>absurd hi (Nat.not_lt_zero i)⟩
  | k + 1,hk=>by
    have Lk:0<=p.rules.getD k 0/\p.rules.getD k 0<n:=by
      rw[List.getD_eq_getElem?_getD,List.getElem?_eq_getElem (by omega),Option.getD_some];exact hr _ (List.getElem_mem _)
    have e:gw p s (k+1)=if s.mem k=true/\p.last.getD k false=true/\(gw p s k<0\/p.rules.getD k 0<gw p s k)then p.rules.getD k 0 else gw p s k:=rfl
    rw[e];have ih:=Bx hr hl s k (by omega)
    by_cases c:s.mem k=true/\p.last.getD k false=true/\(gw p s k<0\/p.rules.getD k 0<gw p s k)
    · rw[if_pos c]
      refine .inr ⟨k,Nat.lt_succ_self k,c.1,c.2.1,rfl,Lk.1,Lk.2,fun i hi h1 h2=>?_⟩
      by_cases ei:i=k
      · subst ei;exact Int.le_refl _
      · rcases ih with⟨_,h⟩|⟨_,_,_,_,_,h0,_,h⟩
        · exact(h i (by omega) h1 h2).elim
        · have h7:=h i (by omega) h1 h2
          have h8:=c.2.2;omega
    · rw[if_neg c]
      rcases ih with⟨h0,h⟩|⟨i,hi,h1,h2,h3,h4,h5,h6⟩
      · refine .inl ⟨h0,fun i hi h1 h2=>?_⟩
        by_cases ei:i=k
        · subst ei;exact c ⟨h1,h2,.inl (by rw[h0];decide)⟩
        · exact h i (by omega) h1 h2
      · refine .inr ⟨i,by omega,h1,h2,h3,h4,h5,fun j hj g1 g2=>?_⟩
        by_cases ej:j=k
        · subst ej
          have h9:¬(gw p s j<0\/p.rules.getD j 0<gw p s j):=fun h=>c ⟨g1,g2,h⟩;omega
        · exact h6 j (by omega) g1 g2
theorem xp:∀(l:List Bool) (k:Nat),(dz l k= -1/\∀i,i<l.length->l.getD i false=false)\/(∃i,i<l.length/\dz l k=((k+i:Nat):Int)/\l.getD i false=true/\∀j,j<i->l.getD j false=false)
 |[],_=> .inl ⟨rfl,fun _ _=>rfl⟩
 |true::l,k=> .inr ⟨0,Nat.zero_lt_succ _,rfl,rfl,fun j hj=>absurd hj (Nat.not_lt_zero j)⟩
 | false::l,k=>by
  have e:dz (false::l) (k:Int)=dz l ((k+1:Nat):Int):=rfl;rw[e];rcases xp l (k+1)with⟨h1,h2⟩|⟨i,h1,h2,h3,h4⟩
  ·refine .inl ⟨h1,fun i hi=>?_⟩
   cases i with
   |zero=>rfl
   |succ i=>exact h2 i (by simpa using hi)
  ·refine .inr ⟨i+1,by simpa using h1,by rw[h2];congr 1;omega,h3,fun j hj=>?_⟩
   cases j with
   |zero=>rfl
   |succ j=>exact h4 j (by omega)
theorem zX{l:List Bool}: -1<=dz l 0/\dz l 0<(l.length:Int):=by
 rcases xp l 0 with⟨h1,_⟩|⟨i,h1,h2,_⟩
 ·have h1:dz l 0= -1:=h1
  rw[h1];omega
 ·have h2:dz l 0=((0+i:Nat):Int):=h2
  rw[h2];omega
section
variable{es:List Re}{m:MS}{R:List Row}{d:DM}
theorem P2(hm:AY m)(hi:UE m (dz m.empty 0) (d.S.length+1) R d){k:Nat}(hk:k<d.S.length+1):d.tags.getD k 0=(if h:k=0 then dz m.empty 0 else jS.pK m.ps (d.S[k-1]'(by omega)))/\ -1<=d.tags.getD k 0/\d.tags.getD k 0<20:=by
 have h:=hi.tags;unfold l7 at h;rw[h];have Xx:=hm.Pb
 cases k with
 |zero=>
  have:=zX (l:=m.empty);refine⟨rfl,this.1,?_⟩;have e:(dz m.empty 0::d.S.map (jS.pK m.ps)).getD 0 0=dz m.empty 0:=rfl;rw[e];omega
 | succ k=>
  have hk:k<d.S.length:=by omega
  have e:(dz m.empty 0::d.S.map (jS.pK m.ps)).getD (k+1) 0=jS.pK m.ps d.S[k]:=by
   rw[List.getD_cons_succ,List.getD_eq_getElem?_getD,List.getElem?_map,List.getElem?_eq_getElem hk];rfl
  rw[e];refine⟨rfl,?_⟩;unfold jS.pK;rcases Bx hm.rules hm.ok.ps.rules d.S[k] m.ps.aC.length (Nat.le_refl _)with⟨h1,_⟩|⟨_,_,_,_,_,h1,h2,_⟩
  ·rw[h1];omega
  ·omega
theorem MQ(hm:AY m)(hi:UE m (dz m.empty 0) (d.S.length+1) R d):jc R d.tags=0:=by
 have hl:=hi.len;have hf:=hi.xU;refine Br ⟨?_,?_,fun q hq b hb=>?_,fun q hq=>?_⟩ ?_
 ·show 0<R.length;omega
 ·show R.length<=200;omega
 ·have hq:q<R.length:=hq
  show-1<=(R.getD q pL).toList.getD b 0/\(R.getD q pL).toList.getD b 0<(R.length:Int)
  rw[MP R q b hb,(hi.cell q (by omega) b hb).1];unfold DH
  by_cases c:A1 m.ps (fW m d.S q) b=C4.zero
  ·rw[if_pos c];omega
  ·rw[if_neg c]
   have:=iV ((hi.cell q (by omega) b hb).2.resolve_left c);omega
 ·have hq:q<R.length:=hq
  exact(P2 hm hi (by omega)).2
 ·have h:=hi.tags
  unfold l7 at h;rw[h,hl,List.length_cons,List.length_map]
end
end jS
namespace bH
open Go.RowKit bL db
section
variable{α:Type}{s:qQ α}{F:Nat->Prop}{vs:List Value}{S:List (List α)}{W:bB}{L:List bz}{w:World}
theorem zY(h:(cY (a8 s) F (vs.map fun v=>[v]) S).holds w):vs.length=S.length:=by have:=h.1.1;rwa [List.length_map]at this
theorem F7(h:(cY (a8 s) F (vs.map fun v=>[v]) S).holds w){q:Nat}(hq:q<S.length){v:Value}(hv:vs[q]?=some v):gI s F w v S[q]:=by
 have Zi:q<vs.length:=(List.getElem?_eq_some_iff.1 hv).1;obtain⟨v',e,hs⟩:=h.1.2 q hq (by rw[List.length_map];exact Zi);rw[List.getElem_map]at e;have h2:=(List.getElem?_eq_some_iff.1 hv).2;rw[h2]at e;rw[(List.cons.inj e).1];exact hs
theorem MU(h:(cY (a8 s) F (vs.map fun v=>[v]) S).holds w){q:Nat}(hq:q<S.length){v:Value}(hv:vs[q]?=some v):∃base cap,v= .slice base S[q].length cap/\S[q].length<=cap/\cap<=9223372036854775807/\(0<S[q].length->∃b off,base=some ⟨b,off,none⟩):=by
 obtain⟨base,cap,e,h1,h2,h3⟩:=F7 h hq hv;exact⟨base,cap,e,h1,by unfold maxLen at h2;omega,fun hn=>let ⟨b,off,h4,_⟩:=h3 hn;⟨b,off,h4⟩⟩
theorem F8{f:α->List Value}{c:Nat}{hc:∀a,(f a).length=c}{p:α->Prop}(uV:0<c){i:Nat}(hi:L[i]?=some (cY (a8 (ra f c hc p)) F (vs.map fun v=>[v]) S)){q:Nat}(hq:q<S.length){v:Value}(hv:vs[q]?=some v):Oz W L v S[q].length (S[q].flatMap f):=fun _ hm=>
 gI.flat uV (F7 (hm.get hi) hq hv)
end
end bH
namespace bH
open Go.RowKit bL db av dg b9 aX bT
def xq(c:aX.Item->Nat)(x:aX.Item):Value:= .int .i64 (c x:Int)
def s_(c:aX.Item->Nat)(it:aX.Item)(x:aX.Item):Nat:=if x=it then c x+1 else c x
structure mD(c:aX.Item->Nat)(out:List aX.Item)(b:Nat):Prop where
 zero:∀x,c x=0↔x∉out
 le:∀x,c x<=b
theorem mD.put{c:aX.Item->Nat}{out:List aX.Item}{b:Nat}(h:mD c out b)(it:aX.Item):mD (s_ c it) (more out it) (b+2):=by
 refine⟨fun x=>?_,fun x=>?_⟩
 ·unfold s_
  by_cases e:x=it
  ·subst e
   rw[if_pos rfl]
   constructor
   ·intro h;omega
   ·intro h;exact absurd (n9.2 (.inr rfl)) h
  ·rw[if_neg e,h.zero x]
   rw[n9]
   constructor
   ·intro h1 h2;exact h2.elim h1 e
   ·intro h1 h2;exact h1 (.inl h2)
 ·unfold s_
  have:=h.le x;split<;>omega
def ym(g5 gm g6 b:Nat)(v:Value)(c:aX.Item->Nat)(out:List aX.Item):List bz:=
 [ap g5 #[.map (some gm)] 193,jV Bi gm (.int .i64 0) (xq c) b,ap g6 #[v] 164,aI 169 3 v out.length (out.flatMap eY)]
theorem P3(x:aX.Item):∀u∈eY x,u.oneCell'=true:=by
 intro u hu;simp only[eY,List.mem_cons,List.not_mem_nil,or_false]at hu;rcases hu with rfl|rfl|rfl<;>rfl
theorem DJ(g5 gm g6 b:Nat)(v:Value)(c:aX.Item->Nat)(out:List aX.Item)(it:aX.Item)(hit:Bi.ok it)(hp:mD c out b)(hb:b+2<=1152921504606846976)(ho:out.length+1<=1000000)(w:World)(B:bB)(hm:Mem B (ym g5 gm g6 b v c out) w):
 Calls Tryz.prog 72 #[.agg (eY it).toArray,.pointer (some ⟨g5,0,none⟩),.pointer (some ⟨g6,0,none⟩)] w (dc ⟨fun _=>True,fun _=> .tuple #[],fun v'=>ym g5 gm g6 (b+2) v' (s_ c it) (more out it)⟩ B):=by
 unfold ym at hm;have hle:=hp.le it;have hz:=hp.zero it;obtain⟨n,hn⟩:∃n,c it=n:=⟨_,rfl⟩;obtain⟨F,hF⟩:∃F,xq c=F:=⟨_,rfl⟩;obtain⟨F',XK⟩:∃F',xq (s_ c it)=F':=⟨_,rfl⟩;have hcv:F it= .int .i64 (n:Int):=by rw[<-hF,<-hn];rfl
 have hF1:F' it= .int .i64 ((n+1:Nat):Int):=by rw[<-XK,<-hn];show Value.int .i64 ((s_ c it it:Nat):Int)=_;unfold s_;rw[if_pos rfl]
 have qR:∀y,Bi.ok y->F' y=if y=it then .int .i64 ((n+1:Nat):Int)else F y:=fun y _=>by
  rw[<-XK,<-hF,<-hn];show Value.int .i64 ((s_ c it y:Nat):Int)=if y=it then _ else Value.int .i64 ((c y:Nat):Int)
  unfold s_
  by_cases e:y=it
  ·subst e;rw[if_pos rfl,if_pos rfl]
  ·rw[if_neg e,if_neg e]
 rw[hF]at hm;rw[hn]at hle hz;clear hp;refine eg hm (args:=[.agg (eY it).toArray,.pointer (some ⟨g5,0,none⟩),.pointer (some ⟨g6,0,none⟩)]) (n:=18) Tryz.func72 rfl rfl rfl ?_;refine bJ (aV (bK rfl rfl rfl fun g3=>?_));refine zL ?_
 try refine GA ?_
 (repeat refine bJ ?_)
 refine ix (ι:=Unit) (fun _=>True) (fun _=>[(1,.pointer (some ⟨g5,0,none⟩)),(2,.pointer (some ⟨g6,0,none⟩)),(3,.pointer (some ⟨g3,0,none⟩))]) (fun _=>[ap g5 #[.map (some gm)] 193,jV Bi gm (.int .i64 0) F' (b+1+1),ap g6 #[v] 164,aI 169 3 v out.length (out.flatMap eY),ap g3 (eY it).toArray 169]) ?_ ?_
 ·refine dw ([ap g5 #[.map (some gm)] 193,ap g3 (eY it).toArray 169]) (.calm 0 (.calm 1 (.two 2 (.calm 3 (.one 4 (.calm 5 (.one 6 (.done))))) 4 (.calm 5 (.one 2 (.calm 3 (.one 6 (.done)))))))) (bC [0,4]) ?_
  repeat(first|refine GW ?_|(refine GN ?_;first|refine QW (J (v:= .map (some gm)) ak.ty rfl (ah (i:=0) rfl rfl)) ?_|refine QW (aE (i:=1) ak.ty rfl rfl rfl) ?_))
  refine dG rfl rfl ?_ ?_
  ·refine cI (mi Bi aT.eq jT (i:=1) rfl rfl (x:=it) rfl hit hcv) rfl rfl rfl (aw (bC [0,4]) ?_)
   repeat(first|(refine GN ?_;first|refine QW QP ?_|refine QW (eK (r:=((n+1:Nat):Int)) rfl rfl (by omega) (by omega) (by omega)) ?_|refine GX ?_)|refine GW ?_)
   refine az rfl (Da Bi aT.eq jT (i:=1) rfl rfl (x:=it) rfl hit (by omega) rfl fun st=>aw (bC [0,4]) ?_)
   try refine GW ?_
   refine az rfl (zu Bi F' aT.eq (i:=1) rfl rfl rfl rfl hit (by omega) qR (aw (bC [0,4]) ?_))
   try refine GW ?_
   exact c_ () trivial (by repeat' (first|exact True.intro|refine And.intro rfl ?_)) rfl
  ·refine Da Bi aT.eq jT (i:=1) rfl rfl (x:=it) rfl hit (by omega) rfl fun st=>aw (bC [0,4]) ?_
   try refine GW ?_
   refine az rfl (cI (Mm Bi aT.eq jT (i:=1) rfl rfl (x:=it) rfl hit hcv) rfl rfl rfl (aw (bC [0,4]) ?_))
   repeat(first|(refine GN ?_;first|refine QW QP ?_|refine QW (eK (r:=((n+1:Nat):Int)) rfl rfl (by omega) (by omega) (by omega)) ?_|refine GX ?_)|refine GW ?_)
   refine az rfl (zu Bi F' aT.eq (i:=1) rfl rfl rfl rfl hit (by omega) qR (aw (bC [0,4]) ?_))
   try refine GW ?_
   exact c_ () trivial (by repeat' (first|exact True.intro|refine And.intro rfl ?_)) rfl
 rintro⟨⟩ _
 by_cases c1:it∈out
 ·have OR:more out it=out:=if_pos c1
  rw[OR];have Uz:n≠0:=fun e=>hz.1 e c1;clear qR hcv
  repeat(first|refine GC ?_|refine gV (J (v:= .map (some gm)) ak.ty rfl (ah (i:=0) rfl rfl)) ?_|refine gV (aE (i:=4) ak.ty rfl rfl rfl) ?_|refine gV (mi Bi aT.eq jT (i:=1) rfl rfl (x:=it) rfl hit hF1) ?_|refine gV (cJ (b:=false) rfl rfl (decide_eq_false (by omega))) ?_|refine GB ?_)
  exact sC rfl fun w hm=>hm.bV (S:=⟨fun(_:Value)=>True,fun _=> .tuple #[],fun v'=>ym g5 gm g6 (b+2) v' (s_ c it) out⟩) v trivial [0,1,2,3] (by decide) (by unfold ym;rw[<-XK];rfl)
 ·have OR:more out it=out++[it]:=if_neg c1
  rw[OR];have Uz:n=0:=hz.2 c1;clear qR hcv
  repeat(first|refine GC ?_|refine gV (J (v:= .map (some gm)) ak.ty rfl (ah (i:=0) rfl rfl)) ?_|refine gV (aE (i:=4) ak.ty rfl rfl rfl) ?_|refine gV (mi Bi aT.eq jT (i:=1) rfl rfl (x:=it) rfl hit hF1) ?_|refine gV (cJ (b:=true) rfl rfl (decide_eq_true (by omega))) ?_|refine gV (J (v:=v) ak.ty rfl (ah (i:=2) rfl rfl)) ?_|refine GB ?_)
  refine ee (cs:=(eY it).toArray) [.agg (eY it).toArray] rfl rfl rfl (by intro v hv;simp only[List.mem_cons,List.not_mem_nil,or_false]at hv;subst hv;rfl) rfl rfl rfl fun g16=>?_;refine zL ?_;refine dS (i:=3) (e:=169) (size:=3) (bytes:=24) (m:=out.length) (xs:=out.flatMap eY) (k:=1) (ys:=eY it) rfl (iU (i:=5) rfl (fun j u h=>by simpa using h) (Nat.le_refl 1) (by decide)) rfl rfl rfl (P3 it) (by omega) (by omega) rfl fun v'=>?_;refine zL ?_;refine aB (i:=3) rfl fun kD lg=>?_;refine bD (i:=2) rfl rfl rfl kD lg rfl ?_;refine zL ?_
  try refine GA ?_
  exact sC rfl fun w hm=>hm.bV (S:=⟨fun(_:Value)=>True,fun _=> .tuple #[],fun v'=>ym g5 gm g6 (b+2) v' (s_ c it) (out++[it])⟩) v' trivial [0,1,2,3] (by decide) (by unfold ym;rw[<-XK,List.flatMap_append,List.length_append];rfl)
end bH
namespace bH
open Go.Shelf
def F9:Go.Shelf.Ren:=⟨fun|6=>75|15=>81|14=>82|28=>95|29=>96|20=>97|21=>98|22=>99|23=>100|24=>101|25=>102|26=>103|27=>104|46=>111|47=>107|48=>108|49=>112|50=>113|57=>115|n=>n,fun|22=>164|24=>169|25=>198|3=>3|39=>172|0=>0|53=>219|55=>63|4=>4|46=>213|45=>212|50=>90|5=>5|9=>9|66=>226|70=>176|76=>233|77=>234|n=>n,fun|n=>n⟩
theorem MV:Go.Proofs.SlLaysF0.n6 Tryz.prog F9:={
 mixed:=by kernel_rfl
 f6:=⟨Tryz.f75.name,by decide,Tryz.func75.trans (congrArg some (by kernel_rfl))⟩
 f14:=⟨Tryz.f82.name,by decide,Tryz.func82.trans (congrArg some (by kernel_rfl))⟩
 f15:=Tryz.func81.trans (congrArg some (by kernel_rfl))
 f20:=⟨Tryz.f97.name,by decide,Tryz.func97.trans (congrArg some (by kernel_rfl))⟩
 f21:=⟨Tryz.f98.name,by decide,Tryz.func98.trans (congrArg some (by kernel_rfl))⟩
 f22:=⟨Tryz.f99.name,by decide,Tryz.func99.trans (congrArg some (by kernel_rfl))⟩
 f23:=⟨Tryz.f100.name,by decide,Tryz.func100.trans (congrArg some (by kernel_rfl))⟩
 f24:=⟨Tryz.f101.name,by decide,Tryz.func101.trans (congrArg some (by kernel_rfl))⟩
 f25:=⟨Tryz.f102.name,by decide,Tryz.func102.trans (congrArg some (by kernel_rfl))⟩
 f26:=⟨Tryz.f103.name,by decide,Tryz.func103.trans (congrArg some (by kernel_rfl))⟩
 f27:=⟨Tryz.f104.name,by decide,Tryz.func104.trans (congrArg some (by kernel_rfl))⟩
 f28:=Tryz.func95.trans (congrArg some (by kernel_rfl))
 f29:=Tryz.func96.trans (congrArg some (by kernel_rfl))
 f46:=⟨Tryz.f111.name,by decide,Tryz.func111.trans (congrArg some (by kernel_rfl))⟩
 f47:=Tryz.func107.trans (congrArg some (by kernel_rfl))
 f48:=Tryz.func108.trans (congrArg some (by kernel_rfl))
 f49:=⟨Tryz.f112.name,by decide,Tryz.func112.trans (congrArg some (by kernel_rfl))⟩
 f50:=⟨Tryz.f113.name,by decide,Tryz.func113.trans (congrArg some (by kernel_rfl))⟩
 f57:=⟨Tryz.f115.name,by decide,Tryz.func115.trans (congrArg some (by kernel_rfl))⟩
 t0:=Tryz.underlying0
 a0:=Tryz.isAgg0
 z0:=Tryz.sizeOf0
 v0:=Tryz.zeroValue0
 t3:=Tryz.underlying3
 a3:=Tryz.isAgg3
 z3:=Tryz.sizeOf3
 v3:=Tryz.zeroValue3
 t4:=Tryz.underlying4
 a4:=Tryz.isAgg4
 z4:=Tryz.sizeOf4
 v4:=Tryz.zeroValue4
 t5:=Tryz.underlying5
 a5:=Tryz.isAgg5
 z5:=Tryz.sizeOf5
 v5:=Tryz.zeroValue5
 t9:=Tryz.underlying9
 a9:=Tryz.isAgg9
 z9:=Tryz.sizeOf9
 v9:=Tryz.zeroValue9
 t22:=Tryz.underlying164
 a22:=Tryz.isAgg164
 z22:=Tryz.sizeOf164
 v22:=Tryz.zeroValue164
 t25:=Tryz.underlying198
 a25:=Tryz.isAgg198
 z25:=Tryz.sizeOf198
 v25:=Tryz.zeroValue198
 t39:=Tryz.underlying172
 a39:=Tryz.isAgg172
 z39:=Tryz.sizeOf172
 v39:=Tryz.zeroValue172
 t45:=Tryz.underlying212
 a45:=Tryz.isAgg212
 z45:=Tryz.sizeOf212
 v45:=Tryz.zeroValue212
 t46:=Tryz.underlying213
 a46:=Tryz.isAgg213
 z46:=Tryz.sizeOf213
 v46:=Tryz.zeroValue213
 t50:=Tryz.underlying90
 a50:=Tryz.isAgg90
 z50:=Tryz.sizeOf90
 v50:=Tryz.zeroValue90
 t53:=Tryz.underlying219
 a53:=Tryz.isAgg219
 z53:=Tryz.sizeOf219
 v53:=Tryz.zeroValue219
 t55:=Tryz.underlying63
 a55:=Tryz.isAgg63
 z55:=Tryz.sizeOf63
 v55:=Tryz.zeroValue63
 t66:=Tryz.underlying226
 a66:=Tryz.isAgg226
 z66:=Tryz.sizeOf226
 v66:=Tryz.zeroValue226
 t70:=Tryz.underlying176
 a70:=Tryz.isAgg176
 z70:=Tryz.sizeOf176
 v70:=Tryz.zeroValue176
 t76:=Tryz.underlying233
 a76:=Tryz.isAgg233
 z76:=Tryz.sizeOf233
 v76:=Tryz.zeroValue233
 t77:=Tryz.underlying234
 a77:=Tryz.isAgg234
 z77:=Tryz.sizeOf234
 v77:=Tryz.zeroValue234}
end bH
namespace bH
open Go.RowKit bL db aX Go.Sort
theorem F_(w:World)(n g:Nat)(d:Array Value)(os:Array Obj){k:Nat}(hk:k<w.heap.size)(hg:k≠g):(grow (putRow id (Go.Sort.ahead w n) g 0 d) os).heap[k]?=w.heap[k]?:=by
 rw[heap_grow_old _ _ (by rw[size_putRow];exact hk)];show(w.heap.modify g _)[k]?=w.heap[k]?
 rw[Array.getElem?_modify,if_neg (fun h=>hg h.symm)]
theorem MW{B:bB}{w:World}{e:TypeId}{g cap m size:Nat}{xs:List Value}(hm:Mem B [aI e size (.slice (some ⟨g,0,none⟩) m cap) m xs] w)(d:Array Value)(hd:d.size=m*size)(n:Nat)(os:Array Obj):
 Mem B [aI e size (.slice (some ⟨g,0,none⟩) m cap) m d.toList] (grow (putRow id (Go.Sort.ahead w n) g 0 d) os):=by
 have ho:w.ownsRow 0 e size (.slice (some ⟨g,0,none⟩) m cap) m xs:=hm.get (i:=0) rfl;obtain⟨hl,hr⟩:=ho;rcases hr with⟨h,_⟩|⟨g2,SR,kp,hv,_,hg,hc,hx,hs,ht⟩
 ·cases h
 cases hv
 have C3:B.may g:=(hm.owns.all 0 _ rfl).2 g (.inl rfl);have YC:g<w.heap.size:=(Array.getElem?_eq_some_iff.1 hg).1;have L1:(grow (putRow id (Go.Sort.ahead w n) g 0 d) os).heap[g]?=some (.cells (putCells id 0 d kp) e (0,0)):=by
  rw[heap_grow_old _ _ (by rw[size_putRow];exact YC)];show(w.heap.modify g (onCells (putCells id 0 d)))[g]?=_
  rw[Array.getElem?_modify,if_pos rfl,hg];rfl
 have hle:m*size<=cap*size:=Nat.mul_le_mul_right _ hc;refine⟨⟨hm.low.os,hm.low.tape,hm.low.output,?_,fun k hk hx=>?_⟩,dL.one ⟨?_,.inr ⟨g,cap,_,rfl,Nat.zero_le _,L1,hc,hx,?_,?_⟩⟩ fun k hk=>?_⟩
 ·rw[size_grow,size_putRow];exact Nat.le_trans hm.low.size (Nat.le_add_right _ _)
 ·have YD:k≠g:=fun e=>by
   subst e;rcases C3 with h|h
   ·omega
   ·exact hx h
  rw[F_ w n g d os (Nat.lt_of_lt_of_le hk hm.low.size) YD];exact hm.low.block k hk hx
 ·rw[Array.length_toList,hd]
 ·unfold putCells;rw[Array.size_mapIdx];exact hs
 ·apply List.ext_getElem?
  intro j;rw[List.getElem?_take]
  by_cases hj:j<m*size
  ·have OJ:j<kp.size:=by omega
   rw[if_pos hj,Array.getElem?_toList,Array.getElem?_toList];unfold putCells;rw[Array.getElem?_mapIdx,Array.getElem?_eq_getElem OJ,Option.map_some,if_pos ⟨Nat.zero_le _,by omega⟩,Nat.sub_zero,getElem!_pos d j (by omega),Array.getElem?_eq_getElem (by omega:j<d.size)];rfl
  ·rw[if_neg hj,Array.getElem?_toList,Array.getElem?_eq_none (by omega)]
 ·rcases hk with h|h
  ·simp only[aI,Value.ownBlock,Option.some.injEq]at h;subst h;exact C3
  ·exact h.elim
theorem Tt:SWO (ltOf Di):=⟨HQ,fun _ _ _ h1 h2=>Te h1 h2,fun x y z h1 h2=>by
 have h1:FF x y=false:=h1;have h2:FF y z=false:=h2;show FF x z=false
 rw[FH]at*;omega⟩
theorem H4(l:List aX.Item):(flatK eY 3 l.toArray).toList=l.flatMap eY:=by
 have hL:(l.flatMap eY).length=l.length*3:=mN ir l;apply List.ext_getElem?;intro t
 by_cases ht:t<l.length*3
 ·have hd:t/3<l.length:=by omega
  have h1:=get_flatK eY 3 l.toArray t (by simpa using ht);rw[getElem!_pos (flatK eY 3 l.toArray) t (by simpa using ht),getElem!_pos l.toArray (t/3) (by simpa using hd)]at h1;have h2:=nY (c:=3) (l.map eY) (fun x hx=>by obtain⟨y,_,rfl⟩:=List.mem_map.1 hx;exact ir y) (t/3) (t %3) (by simpa using hd) (Nat.mod_lt _ (by decide));rw[show t/3*3+t %3=t by omega,List.getElem_map]at h2;rw[Array.getElem?_toList,Array.getElem?_eq_getElem (by simpa using ht),h1];show _=(l.map eY).flatten[t]?
  rw[h2];have h3:t %3<(eY l[t/3]).length:=by rw[ir];exact Nat.mod_lt _ (by decide)
  rw[List.getElem?_eq_getElem h3];simp only[List.getElem_toArray];rw[getElem!_pos (eY l[t/3]) (t %3) h3]
 ·rw[List.getElem?_eq_none (by rw[Array.length_toList,size_flatK];simp;omega),List.getElem?_eq_none (by omega)]
theorem Ga{w:World}{e:TypeId}{g cap m size:Nat}{xs:List Value}(ho:w.ownsRow 0 e size (.slice (some ⟨g,0,none⟩) m cap) m xs)(d:Array Value)(hd:d.toList=xs):Holds id w g 0 d/\g<w.heap.size:=by
 obtain⟨hl,hr⟩:=ho;rcases hr with⟨h,_⟩|⟨g2,SR,kp,hv,_,hg,hc,hx,hs,ht⟩
 ·cases h
 cases hv
 refine⟨fun j hj=>?_,(Array.getElem?_eq_some_iff.1 hg).1⟩;have hle:m*size<=cap*size:=Nat.mul_le_mul_right _ hc;have Tb:j<xs.length:=by rw[<-hd];simpa using hj
 have Vp:kp[j]?=some d[j]:=by
  have:=congrArg (fun l=>l[j]?) ht;rw[List.getElem?_take,if_pos (by omega),Array.getElem?_toList,<-hd,Array.getElem?_toList,Array.getElem?_eq_getElem hj]at this;exact this
 refine⟨?_,?_⟩
 ·rw[cell_of_row w g (0+j) _ _ _ hg,Nat.zero_add,Vp,getElem!_pos d j hj];rfl
 ·unfold World.frozen?
  rw[hg];simp
def P4:Prop:=∀(x y:aX.Item) (w:World),Calls Tryz.prog 76 #[.agg (eY x).toArray,.agg (eY y).toArray] w fun e w'=>e= .returned (.int .i64 (Di x y))/\∃q Y9,w'=grow (w.drewN q) Y9
theorem P5(Zj:P4)(v:Value)(l:List aX.Item)(w:World)(B:bB)(hm:Mem B [aI 169 3 v l.length (l.flatMap eY)] w)(hl:l.length<4611686018427387904):
 Calls Tryz.prog 75 #[v,.func (.func 76) #[] #[]] w (dc ⟨fun(_:Unit)=>True,fun _=> .tuple #[],fun _=>[aI 169 3 v l.length ((oH l).flatMap eY)]⟩ B):=by
 have ho:w.ownsRow 0 169 3 v l.length (l.flatMap eY):=hm.get (i:=0) rfl;have ux:=ho;rcases ho.2 with⟨rfl,h0⟩|⟨g,cap,kp,rfl,_,hg,hc,hx,hs,ht⟩
 ·obtain rfl:l=[]:=List.length_eq_zero_iff.1 h0
  refine(AnyF.slices_SortFunc_none MV none 0 _ w).mono fun e w' ⟨he,hw⟩=>⟨(),trivial,he,?_⟩;rw[hw];exact(by simpa[oH]using hm)
 ·obtain⟨h1,h2⟩:=Ga ux (flatK eY 3 l.toArray) (H4 l)
  have Zk:CmpLays Tryz.prog 76 #[] eY 3 Di g 0 l.toArray.size w:=fun m os dk _ x y=>by
   have h:=Zj x y (sortWorldK eY 3 w g 0 m dk os)
   simpa using h
  have h:=AnyQ.slices_SortFunc_total MV 3 Tryz.isAgg169 Tryz.sizeOf169 eY ir (fun x v hv=>by simp only[eY,List.mem_cons,List.not_mem_nil,or_false]at hv;rcases hv with rfl|rfl|rfl<;>rfl) Di Tt 76 #[] g 0 cap l.toArray w aj.en Zk h1 h2 (by simpa using hl) JH;have hz:l.toArray.size=l.length:=by simp
  rw[hz]at h;refine h.mono fun e w' ⟨he,n,os,hw⟩=>⟨(),trivial,he,?_⟩;have hlen:(oH l).length=l.length:=Dk l;have hq:=MW hm (flatK eY 3 (oH l).toArray) (by rw[size_flatK];simp[hlen]) n os;rw[H4]at hq;rw[hw];exact hq
end bH
namespace bH
open Go.RowKit bL db av dg b9 aX bT
def MX(B:bB)(v:Value)(n:Nat)(xs:List Value):Prop:=
 ∃base cap,v= .slice base n cap/\n<=cap/\cap<=maxLen/\(0<n->∃b off,base=some ⟨b,off,none⟩/\sU B b/\Rd B.w b off xs)
theorem H5{l:List av.Prod}{w0:World}{W:bB}{vb:Nat->Value}{k dn:Nat}{x:Option Nat}{bb:Option Addr}{cc m:Nat}(ho:lc w0 W)(hv:JN (fun q=>q<w0.heap.size) w0 vb l)(hk:k<=l.length)(hx:x.isSome=decide (k=l.length))(hb:PD vb k x= .slice bb m cc)(hd:dn<(cU l (k:Int)).length):
  ∃b off,bb=some ⟨b,off,none⟩/\∀(L:List bz) (i:Nat),L[i]?=some (s7 x)->∀j u,(dv (cU l (k:Int))[dn])[j]?=some u->At W L ⟨b,off+dn*2+j,none⟩ u:=by
 cases x with
 |some g=>
  have hk:k=l.length:=by simpa using hx
  subst hk;have e:cU l (l.length:Int)=[(2,0)]:=by unfold cU;rw[if_pos rfl]
  have hb:Value.slice (some ⟨g,0,none⟩) 1 1= .slice bb m cc:=hb
  cases hb
  refine⟨g,0,rfl,fun L i hi j u hj=>?_⟩;have XL:dn=0:=by rw[e]at hd;simpa using hd
  subst XL;simp only[e,List.getElem_cons_zero]at hj;rw[show 0+0*2+j=j by omega];exact ah hi (by simpa[dv]using hj)
 | none=>
  have jD:k<l.length:=by
   have:¬k=l.length:=by simpa using hx
   omega
  have e:cU l (k:Int)=(aQ l (k:Int)).2:=by unfold cU;rw[if_neg (by omega)]
  have hs:=(hv k jD).flat (f:=dv) (by decide);have hb:vb k= .slice bb m cc:=hb;rw[hb]at hs;obtain⟨base,cap,h1,_,_,h3⟩:=hs
  cases h1
  have yC:dn<(aQ l (k:Int)).2.length:=by rw[<-e];exact hd
  obtain⟨b,off,rfl,hr⟩:=h3 (by omega);refine⟨b,off,rfl,fun L i _ j u hj=>?_⟩;simp only[e]at hj;exact qf (W:=W) (L:=L) xc (off:=off) (fun q y hq=>fI ho (hr q y hq)) yC j u hj
theorem JZ(g:df){it:aX.Item}(h:it.2.2.toNat<64):jZ (fY g) it<18446744073709551616:=by
 have h1:fY g it.1 it.2.1<18446744073709551616:=HY (by decide);unfold jZ;split
 ·exact Nat.or_lt_two_pow (n:=64) (Nat.xor_lt_two_pow (n:=64) h1 (by decide)) (Nat.pow_lt_pow_right (by decide) h)
 ·exact h1
theorem qH{i bits:Nat}{out:List aX.Item}:∀k,(dH i bits out k).length<=out.length+k
 |0=>Nat.le_refl _
 |k+1=>by
  rw[dH];have:=qH (i:=i) (bits:=bits) (out:=out) k;have h2:(more (dH i bits out k) ((i:Int),0,(k:Int))).length<=(dH i bits out k).length+1:=by unfold more;split<;>simp
  split<;>omega
theorem xr{l:List av.Prod}{T:Nat}{N:Int}{bits:Nat}{out:List aX.Item}:∀i,(dI l T N bits out i).length<=out.length+i*(T+1)
 |0=>by rw[Nat.zero_mul];exact Nat.le_refl _
 |i+1=>by
  rw[dI,Nat.succ_mul];have:=xr (l:=l) (T:=T) (N:=N) (bits:=bits) (out:=out) i;have h2:=qH (i:=i) (bits:=bits) (out:=dI l T N bits out i) (T+1);split<;>omega
theorem uP{L:List bz}{is:List Nat}{o:bz}(h:o∈is.filterMap fun i=>L[i]?):o∈L:=by
 obtain⟨i,_,hi⟩:=List.mem_filterMap.1 h;exact List.mem_of_getElem? hi
def P6(g:df)(bp:Option Addr)(cp go gm:Nat)(f:RK->Option Value)(c:Nat):List bz:=[ap go (tL g.aJ g.aR (.slice bp g.ag.length cp) gm).toArray 191,dr fe gm f c]
theorem xt{κ:Type}[DecidableEq κ]:∀(l D:List κ),(cg D l).length<=D.length+l.length
 |[],D=>by simp[cg]
 |k::r,D=>by
  rw[cg];have:=xt r (if k∈D then D else D++[k]);have h2:(if k∈D then D else D++[k]).length<=D.length+1:=by split<;>simp
  rw[List.length_cons];omega
theorem MY{l:List av.Prod}{T:Nat}{x:aX.Item}(h:cL l T x)(hl:l.length<=40)(hw:∀q∈l,q.2.length<=8)(hT:T<=30):Bi.ok x:=by
 obtain⟨a1,a2,a3,a4,a5,a6⟩:=h;have:=iZ (l:=l) (p:=x.1) hw;exact⟨⟨by omega,by omega⟩,⟨by omega,by omega⟩,by omega,by omega⟩
def oV(g:df)(T:Nat)(l0:List aX.Item)(bp:Option Addr)(cp go gm c:Nat):Spec ((RK->Option Value)×Nat×Value):=
 ⟨fun x=>fT (fY g) x.1/\x.2.1<=c+12000,fun x=>x.2.2,fun x=>P6 g bp cp go gm x.1 x.2.1++[aI 169 3 x.2.2 (fR g.ag T (fY g) l0).length ((fR g.ag T (fY g) l0).flatMap eY)]⟩
theorem Wb{i j:Nat}(hi:i<=1000)(hj:j<=1000):Bi.ok ((i:Int),0,(j:Int)):=by
 show(-9223372036854775808<=(i:Int)/\(i:Int)<=9223372036854775807)/\(-9223372036854775808<=(0:Int)/\(0:Int)<=9223372036854775807)/\(-9223372036854775808<=(j:Int)/\(j:Int)<=9223372036854775807)
 omega
theorem zZ(a c:Int)(w:World):(Instr.build 169 #[(0,.int .i64 a),(2,.int .i64 c)]).run Tryz.prog w= .ok (.agg #[.int .i64 a,.int .i64 0,.int .i64 c]) w:=by kernel_rfl
attribute [local irreducible] Op.shift Go.bits in
theorem oW(g:df)(hg:bM g=0)(bp:Option Addr)(cp:Nat)(vb:Nat->Value)(w0:World)(hG:jf (fun q=>q<w0.heap.size) w0 (cH g.aJ g.aR (.slice bp g.ag.length cp)) g)(tt:JN (fun q=>q<w0.heap.size) w0 vb g.ag)(lU:0<g.ag.length->∃b off,bp=some ⟨b,off,none⟩/\∀i,i<g.ag.length->Rd w0 b (off+i*2) [.int .i64 (aQ g.ag (i:Int)).1,vb i])
    (go gm c:Nat) (f:RK->Option Value) (T:Nat) (BY:g.aJ=(T:Int)) (hT:T<=30) (l0:List aX.Item) (vl:Value) (h0:∀x∈l0,cL g.ag T x) (hl0:l0.length<=20000) (hc:fT (fY g) f) (hcc:c<=900000000000000) (w:World) (B:bB) (ho:lc w0 B) (Oc:MX B vl l0.length (l0.flatMap eY))
    (hm:Mem B (P6 g bp cp go gm f c) w):
    Calls Tryz.prog 57 #[.pointer (some ⟨go,0,none⟩),vl] w (dc (oV g T l0 bp cp go gm c) B):=by
  obtain⟨-,-,-,-,tF,Wc⟩:=bI hg;have BZ:∀q∈g.ag,q.2.length<=8:=fun q hq=>(Wc q hq).1;have MZ:=fun g5 J0 g6 b v cn out it hit hp hb hn w' B' ml=>DJ g5 J0 g6 b v cn out it hit hp hb hn w' B' ml;unfold P6 at hm;obtain⟨bl,cl,rfl,nK,vz,A3⟩:=Oc;unfold maxLen at vz;refine eg hm (args:=[.pointer (some ⟨go,0,none⟩),.slice bl l0.length cl]) (n:=117) Tryz.func57 rfl rfl rfl ?_
  try refine GA ?_
  refine Hd Bi (z:= .int .i64 0) rfl fun J0=>?_;refine zL ?_
  try refine GA ?_
  refine aF rfl fun g5=>?_;refine zL ?_;refine bD (i:=3) rfl rfl rfl rfl rfl rfl ?_;refine zL ?_
  try refine GA ?_
  refine aF rfl fun g6=>?_;refine zL ?_
  repeat(first|refine GA ?_|refine gV (uy rfl rfl) ?_)
  conv=>arg 7;simp only[zA,zB,zC,zD,zE,zF,zG,zH,zI,bW,ret,id_eq]
  refine ly (aI 169 3 (.slice none 0 0) 0 []) (fun k hk=>hk.elim (fun h=>by cases h) id) (fun w=>⟨by decide,.inl ⟨rfl,rfl⟩⟩) ?_;refine pI [0,1,3,2,4,5] ?_
  conv=>arg 7;simp only[zA,zB,zC,zD,zE,zF,zG,zH,zI,bW,ret,id_eq]
  refine cX (ι:=Nat×Value×(aX.Item->Nat)) (fun(j,_,cn)=>j<=l0.length/\mD cn (cg [] (l0.take j)) (2*j)) (fun(j,_,_)=>[(0,.pointer (some ⟨go,0,none⟩)),(6,.pointer (some ⟨g6,0,none⟩)),(7,.func (.func 72) #[] #[.pointer (some ⟨g5,0,none⟩),.pointer (some ⟨g6,0,none⟩)]),(18,.slice bl l0.length cl),(19,.int .i64 (l0.length:Int)),(20,.int .i64 (j:Int))])
    (fun(j,v,cn)=>[ap go (tL g.aJ g.aR (.slice bp g.ag.length cp) gm).toArray 191,dr fe gm f c]++ym g5 J0 g6 (2*j) v cn (cg [] (l0.take j))) (fun(j,_,_)=>l0.length-j) (0,.slice none 0 0,fun _=>0) ⟨Nat.zero_le _,⟨fun x=>by simp[cg],fun x=>Nat.zero_le _⟩⟩ ?_
  rintro⟨j,v,cn⟩ ⟨j1,j2⟩;dsimp only at j1 j2⊢
  by_cases c1:j<l0.length
  · obtain⟨b,off,rfl,ya,La⟩:=A3 (by omega)
    have du:=fun L=>qf (W:=B) (L:=L) ir (off:=off) (fun q u hq=>nj ya La q u hq) c1;have XM:=h0 l0[j] (List.getElem_mem c1);have hxo:=MY XM tF BZ hT;have Kp:(cg [] (l0.take j)).length<=j:=Nat.le_trans (xt _ _) (by rw[List.length_nil,List.length_take];omega);have qR:more (cg [] (l0.take j)) l0[j]=cg [] (l0.take (j+1)):=by rw[List.take_succ_eq_append_getElem c1,gJ]
    have H6:=j2.put l0[j];rw[qR]at H6;have MZ:=fun w' B' ml=>MZ g5 J0 g6 (2*j) v cn (cg [] (l0.take j)) l0[j] hxo j2 (by omega) (by omega) w' B' ml;rw[qR]at MZ;generalize cg [] (l0.take j)=out at*;generalize Uu:cg [] (l0.take (j+1))=aaD at*;generalize l0[j]=x at*
    repeat(first|refine GA ?_|refine gV (aH aT.eq ak.ty rfl rfl c1) ?_|refine gV (aK ak.ty rfl (ir x) (du _)) ?_)
    refine aF rfl fun g9=>?_;refine zL ?_;refine fU 6 (cs':=(eY x).toArray) ?_;refine zL ?_
    repeat(first|refine GA ?_|refine gV (aE (i:=6) ak.ty rfl rfl rfl) ?_)
    refine aP [2,3,4,5] [0,1,6] (by decide) rfl rfl (IB aj.en rfl rfl) (fun w hm hb=>MZ w _ hb) rfl rfl rfl ?_;intro v' _;refine zL ?_
    try refine GA ?_
    refine bR [0,1,3,4,5,6] ?_;exact aY (j+1,v',s_ cn x) ⟨by show j+1<=l0.length;omega,by show mD _ (cg [] (l0.take (j+1))) _;rw[Uu];exact H6⟩ (by show l0.length-(j+1)<l0.length-j;omega) (hl:=by dsimp only;rw[Uu];rfl)
  · obtain rfl:j=l0.length:=by omega
    rw[List.take_length]at j2;have uI:(cg [] l0).length<=20000:=Nat.le_trans (xt _ _) (by rw[List.length_nil];omega);clear A3
    try refine GA ?_
    conv=>arg 7;simp only[zA,zB,zC,zD,zE,zF,zG,zH,zI,bW,ret,id_eq,List.take_length,ym,List.cons_append,List.nil_append]
    refine cX (ι:=Nat×List aX.Item×(RK->Option Value)×Nat×Value×(aX.Item->Nat)×Nat) (fun(n,out,f',c',_,RG,b)=>UA g.ag T (fY g) l0 n out/\nG g.ag T (fY g) (12000-n) n out=nG g.ag T (fY g) 12000 0 (cg [] l0)/\fT (fY g) f'/\c'<=c+n/\mD RG out b/\b<=40000+2480*n)
      (fun(n,_,_,_,_,_,_)=>[(0,.pointer (some ⟨go,0,none⟩)),(6,.pointer (some ⟨g6,0,none⟩)),(7,.func (.func 72) #[] #[.pointer (some ⟨g5,0,none⟩),.pointer (some ⟨g6,0,none⟩)]),(10,.int .i64 (n:Int))])
      (fun(_,out,f',c',v',RG,b)=>[ap go (tL g.aJ g.aR (.slice bp g.ag.length cp) gm).toArray 191,dr fe gm f' c',ap g5 #[.map (some J0)] 193,jV Bi J0 (.int .i64 0) (xq RG) b,ap g6 #[v'] 164,aI 169 3 v' out.length (out.flatMap eY)]) (fun(n,_)=>12000-n) (0,cg [] l0,f,c,v,cn,2*l0.length) ⟨wZ l0,rfl,hc,Nat.le_refl _,j2,by omega⟩ ?_
    rintro⟨n,out,f',c',v',RG,b⟩ ⟨i1,i2,i3,i4,i5,i6⟩;dsimp only at i1 i2 i3 i4 i5 i6⊢;have yo:=sZ BZ tF hT i1.nd fun x hx=>rS h0 (i1.cl x hx);refine eN (i:=5) rfl dR fun dW=>?_;obtain⟨bv,cv,rfl,-,lF⟩:=dW
    by_cases c2:n<out.length
    · obtain ⟨gz, rfl⟩:=lF (by omega)
      have jB:=i1.cl out[n] (List.getElem_mem c2);have UF:=rS h0 jB;have du:=fun(L:List bz) (i:Nat) (hL:L[i]?=some (aI 169 3 (.slice (some ⟨gz,0,none⟩) out.length cv) out.length (out.flatMap eY)))=>q7 (W:=B) ir hL c2;have UG:nG g.ag T (fY g) (12000-(n+1)) (n+1) (oI g.ag T (fY g) out[n] out)=nG g.ag T (fY g) 12000 0 (cg [] l0):=by
        rw[<-i2,show 12000-n=(12000-(n+1))+1 by omega,nG,if_pos c2,List.getD_eq_getElem?_getD,List.getElem?_eq_getElem c2];rfl
      have UH:=HR i1 c2;clear i2 jB;generalize hxx:out[n]=x at*;obtain⟨p,d,lo⟩:=x;have Tu:=UF;obtain⟨r1,r2,r3,r4,r5,r6⟩:=Tu;dsimp only at r1 r2 r3 r4 r5 r6;obtain⟨k,rfl⟩:=Int.eq_ofNat_of_zero_le r1;obtain⟨dn,rfl⟩:=Int.eq_ofNat_of_zero_le r3;obtain⟨ln,rfl⟩:=Int.eq_ofNat_of_zero_le r5;have hk:k<=g.ag.length:=by omega
      have zO:=fun w' (ml:Mem B [] w')=>nr g.aJ g.aR bp cp g.ag vb w0 w' B k hk ho ml (fun i hi=>let ⟨b,c,h,_⟩:=tt i hi;⟨b,_,c,h⟩) lU
      repeat(first|refine GC ?_|refine gV (J (v:= .slice (some ⟨gz,0,none⟩) out.length cv) ak.ty rfl (ah (i:=4) rfl rfl)) ?_|refine gV (iE (i:=5) aT.eq rfl rfl) ?_|refine GB ?_)
      refine dw ([ap go (tL g.aJ g.aR (.slice bp g.ag.length cp) gm).toArray 191,ap g6 #[.slice (some ⟨gz,0,none⟩) out.length cv] 164,aI 169 3 (.slice (some ⟨gz,0,none⟩) out.length cv) out.length (out.flatMap eY)]) (.calm 0 (.calm 1 (.calm 2 (.calm 3 (.calm 4 (.calm 5 (.calm 6 (.calm 7 (.calm 8 (.one 9 (.calm 10 (.done)))))))))))) (bC [0,4,5]) ?_
      repeat(first|refine GW ?_|(refine GN ?_;first|refine QW (aK ak.ty rfl (cs:=[.int .i64 g.aJ,.int .i64 g.aR,.slice bp g.ag.length cp]) rfl (fun j v h=>ah (i:=0) rfl (Bj h))) ?_|refine QW (J (v:= .slice (some ⟨gz,0,none⟩) out.length cv) ak.ty rfl (ah (i:=1) rfl rfl)) ?_|refine QW (aH aT.eq ak.ty rfl rfl c2) ?_|refine QW (J (v:= .int .i64 (k:Int)) ak.ty rfl (du _ 2 rfl 0 _ rfl)) ?_))
      refine az rfl ?_;refine aM (fh aj.en rfl rfl rfl) (fun w hm=>zO _ (hm.pick [] (by decide) rfl)) rfl rfl rfl ?_;rintro xb UI
      conv=>arg 8;simp only[zJ,bW,ret,id_eq,rX]
      conv=>arg 7;simp only[rX]
      obtain⟨bb,cc,We,SE,-⟩:=rZ (W:=B) (i:=6) (L:=[ap go (tL g.aJ g.aR (.slice bp g.ag.length cp) gm).toArray 191,dr fe gm f' c',ap g5 #[.map (some J0)] 193,jV Bi J0 (.int .i64 0) (xq RG) b,ap g6 #[.slice (some ⟨gz,0,none⟩) out.length cv] 164,aI 169 3 (.slice (some ⟨gz,0,none⟩) out.length cv) out.length (out.flatMap eY),s7 xb]) ho tt hk UI rfl;have so:=fun(L:List bz) (i:Nat) (hi:L[i]?=some (s7 xb))=>(rZ (W:=B) (L:=L) ho tt hk UI hi);rw[We]at so⊢;have XI:=iZ (l:=g.ag) (p:=(k:Int)) BZ;refine aw (bC [0,4,5]) ?_
      try refine GW ?_
      clear zO
      by_cases c3:dn=(cU g.ag (k:Int)).length
      · repeat(first|refine GC ?_|refine gV (J (v:= .slice (some ⟨gz,0,none⟩) out.length cv) ak.ty rfl (ah (i:=4) rfl rfl)) ?_|refine gV (aH aT.eq ak.ty rfl rfl c2) ?_|refine gV (J (v:= .int .i64 (dn:Int)) ak.ty rfl (du _ 5 rfl 1 _ rfl)) ?_|refine gV (cJ (b:=true) rfl rfl (decide_eq_true (by omega))) ?_|refine GB ?_)
        have DK:oI g.ag T (fY g) ((k:Int),(dn:Int),(ln:Int)) out=out:=by
          unfold oI iH;dsimp only;rw[Int.toNat_natCast,List.getElem?_eq_none (by omega)]
        rw[DK]at UH UG;refine bR [0,1,2,3,4,5] ?_;exact aY (n+1,out,f',c',.slice (some ⟨gz,0,none⟩) out.length cv,RG,b) ⟨UH,UG,i3,by show c'<=c+(n+1);omega,i5,by show b<=40000+2480*(n+1);omega⟩ (by show 12000-(n+1)<12000-n;omega)
      · have hlt:dn<(cU g.ag (k:Int)).length:=by omega
        obtain⟨b2,o2,rfl,Tv⟩:=H5 ho tt hk UI We hlt;have qR:iH g.ag ((k:Int),(dn:Int),(ln:Int))=some (cU g.ag (k:Int))[dn]:=by
          unfold iH;dsimp only;rw[Int.toNat_natCast,List.getElem?_eq_getElem hlt]
        generalize hyy:(cU g.ag (k:Int))[dn]=y at*;obtain⟨yk,yn⟩:=y
        by_cases c4:yk=2
        · subst c4
          have DK:oI g.ag T (fY g) ((k:Int),(dn:Int),(ln:Int)) out=dI g.ag T yn (jZ (fY g) ((k:Int),(dn:Int),(ln:Int))) out g.ag.length:=by
            unfold oI;rw[qR];dsimp only;rw[if_pos rfl]
          rw[DK]at UH UG
          repeat(first|refine GC ?_|refine gV (J (v:= .slice (some ⟨gz,0,none⟩) out.length cv) ak.ty rfl (ah (i:=4) rfl rfl)) ?_|refine gV (aH aT.eq ak.ty rfl rfl c2) ?_|refine gV (aH aT.eq ak.ty rfl rfl hlt) ?_|refine gV (J (v:= .int .i64 (dn:Int)) ak.ty rfl (du _ 5 rfl 1 _ rfl)) ?_|refine gV (cJ (b:=false) rfl rfl (decide_eq_false (by omega))) ?_|refine gV (J (v:= .int .i64 2) ak.ty rfl (Tv _ 6 rfl 0 _ rfl)) ?_|refine gV (cB (b:=false) rfl rfl (decide_eq_false (fun h=>h rfl))) ?_|refine gV (aK (cs:=eY ((k:Int),(dn:Int),(ln:Int))) ak.ty rfl rfl (du _ 5 rfl)) ?_|refine GB ?_)
          refine aP [0,1] [2,3,4,5,6] (by decide) rfl rfl (fh aj.en rfl rfl rfl) (fun w hm hb=>Dv g hg bp cp vb w0 hG tt lU go gm c' f' ((k:Int),(dn:Int),(ln:Int)) T hT UF (by dsimp only;rw[Int.toNat_natCast];exact hlt) i3 (by omega) w _ (ho.on hm fun o h=>uP h) hb) rfl rfl rfl ?_;rintro⟨f2,Oe⟩ ⟨Kw,Tw⟩;dsimp only at Kw Tw;refine zL ?_;have aaE:=JZ g (it:=((k:Int),(dn:Int),(ln:Int))) (by show((ln:Int)).toNat<64;omega);generalize jZ (fY g) ((k:Int),(dn:Int),(ln:Int))=bits at*
          repeat(first|refine GA ?_|refine gV (J (v:= .slice bp g.ag.length cp) ak.ty rfl (ah (i:=5) rfl rfl)) ?_)
          refine pI [5,6,0,1,2,3,4] ?_
          conv=>arg 7;simp only[zA,zB,zC,zD,zE,zF,zG,zH,zI,bW,ret,id_eq]
          refine cX (ι:=Nat×Value×(aX.Item->Nat)×Nat) (fun(i,_,RH,b3)=>i<=g.ag.length/\mD RH (dI g.ag T yn bits out i) b3/\b3<=b+62*i)
            (fun(i,_,_,_)=>[(0,.pointer (some ⟨go,0,none⟩)),(6,.pointer (some ⟨g6,0,none⟩)),(7,.func (.func 72) #[] #[.pointer (some ⟨g5,0,none⟩),.pointer (some ⟨g6,0,none⟩)]),(10,.int .i64 (n:Int)),(11,.slice (some ⟨b2,o2,none⟩) (cU g.ag (k:Int)).length cc),(12,ed bits),(74,.slice bp g.ag.length cp),(75,.int .i64 (g.ag.length:Int)),(76,.int .i64 (i:Int))])
            (fun(i,v2,RH,b3)=>[ap go (tL g.aJ g.aR (.slice bp g.ag.length cp) gm).toArray 191,dr fe gm f2 Oe,ap g5 #[.map (some J0)] 193,jV Bi J0 (.int .i64 0) (xq RH) b3,ap g6 #[v2] 164,aI 169 3 v2 (dI g.ag T yn bits out i).length ((dI g.ag T yn bits out i).flatMap eY),s7 xb]) (fun(i,_)=>g.ag.length-i) (0,.slice (some ⟨gz,0,none⟩) out.length cv,RG,b) ⟨Nat.zero_le _,i5,by omega⟩ ?_
          rintro⟨i,v2,RH,b3⟩ ⟨p1,p2,p3⟩;dsimp only at p1 p2 p3⊢
          by_cases c5:i<g.ag.length
          · obtain⟨E,hE⟩:=oL (l:=g.ag) (T:=T) yn bits out i
            have Kp:=xr (l:=g.ag) (T:=T) (N:=yn) (bits:=bits) (out:=out) i;have yp:dI g.ag T yn bits out (i+1)=if(aQ g.ag (i:Int)).1=yn then dH i bits (dI g.ag T yn bits out i) (T+1)else dI g.ag T yn bits out i:=rfl
            have aaF:i*(T+1)<=40*31:=Nat.mul_le_mul (by omega) (by omega);generalize hou:dI g.ag T yn bits out i=ou at*;have hno:n<ou.length:=by rw[hE,List.length_append];omega
            have Zl:ou[n]=((k:Int),(dn:Int),(ln:Int)):=by
              subst hE;rw[List.getElem_append_left c2];exact hxx
            refine eN (i:=5) rfl dR fun dW=>?_;obtain⟨bv2,RI,rfl,-,Zm⟩:=dW;obtain⟨Tz,rfl⟩:=Zm (by omega);have rO:=fun(L:List bz) (i:Nat) (hL:L[i]?=some (aI 169 3 (.slice (some ⟨Tz,0,none⟩) ou.length RI) ou.length (ou.flatMap eY)))=>q7 (W:=B) ir hL hno;rw[Zl]at rO;obtain⟨pb,po,rfl,XN⟩:=lU (by omega);have hpi:=XN i c5;have hvo:(vb i).oneCell'=true:=Py (tt i c5);generalize hhd:(aQ g.ag (i:Int)).1=hd at*;generalize vb i=Zn at hpi hvo
            repeat(first|refine GA ?_|refine gV (aH aT.eq ak.ty rfl rfl c5) ?_|refine gV (aK ak.ty rfl (cs:=[.int .i64 hd,Zn]) rfl (fun j v h=>fI ho (hpi j v h))) ?_)
            refine aF rfl fun g14=>?_;refine zL ?_
            try refine GA ?_
            refine aD (i:=7) (cs':=#[.int .i64 hd,Zn]) rfl rfl rfl rfl (by simp only[List.all_cons,List.all_nil,hvo];rfl) rfl ?_;refine zL ?_
            try refine GA ?_
            refine dw ([ap g14 #[.int .i64 hd,Zn] 109,ap g6 #[.slice (some ⟨Tz,0,none⟩) ou.length RI] 164,aI 169 3 (.slice (some ⟨Tz,0,none⟩) ou.length RI) ou.length (ou.flatMap eY),s7 xb]) (.calm 0 (.calm 1 (.calm 2 (.calm 3 (.calm 4 (.calm 5 (.calm 6 (.calm 7 (.calm 8 (.calm 9 (.calm 10 (.calm 11 (.done))))))))))))) (bC [7,4,5,6]) ?_
            by_cases c6:hd=yn
            · rw[if_pos c6]at yp
              repeat(first|(refine GN ?_;first|refine QW QP ?_|refine QW (J (v:= .int .i64 hd) ak.ty rfl (ah (i:=0) rfl rfl)) ?_|refine QW (J (v:= .slice (some ⟨Tz,0,none⟩) ou.length RI) ak.ty rfl (ah (i:=1) rfl rfl)) ?_|refine QW (aH aT.eq ak.ty rfl rfl hno) ?_|refine QW (J (v:= .int .i64 (dn:Int)) ak.ty rfl (rO _ 2 rfl 1 _ rfl)) ?_|refine QW (aH aT.eq ak.ty rfl rfl hlt) ?_|refine QW (J (v:= .int .i64 yn) ak.ty rfl (Tv _ 3 rfl 1 _ rfl)) ?_|refine QW (cB (b:=false) rfl rfl (decide_eq_false (fun h=>h c6))) ?_|refine GX ?_)|refine GW ?_)
              repeat(first|refine GC ?_|refine gV (J (v:= .int .i64 g.aJ) ak.ty rfl (ah (i:=0) rfl rfl)) ?_|refine gV (eK (r:=((T+1:Nat):Int)) rfl rfl (by omega) (by omega) (by omega)) ?_|refine GB ?_)
              refine pI [0,1,2,3,4,5,6] ?_
              conv=>arg 7;simp only[zA,zB,zC,zD,zE,zF,zG,zH,zI,bW,ret,id_eq]
              refine cX (ι:=Nat×Value×(aX.Item->Nat)×Nat) (fun(j,_,P7,b4)=>j<=T+1/\mD P7 (dH i bits ou j) b4/\b4<=b3+2*j)
                (fun(j,_,_,_)=>[(0,.pointer (some ⟨go,0,none⟩)),(6,.pointer (some ⟨g6,0,none⟩)),(7,.func (.func 72) #[] #[.pointer (some ⟨g5,0,none⟩),.pointer (some ⟨g6,0,none⟩)]),(10,.int .i64 (n:Int)),(11,.slice (some ⟨b2,o2,none⟩) (cU g.ag (k:Int)).length cc),(12,ed bits),(13,.int .i64 (i:Int)),(74,.slice (some ⟨pb,po,none⟩) g.ag.length cp),(75,.int .i64 (g.ag.length:Int)),(76,.int .i64 (i:Int)),(98,.int .i64 ((T+1:Nat):Int)),(99,.int .i64 (j:Int))])
                (fun(j,v3,P7,b4)=>[ap go (tL g.aJ g.aR (.slice (some ⟨pb,po,none⟩) g.ag.length cp) gm).toArray 191,dr fe gm f2 Oe,ap g5 #[.map (some J0)] 193,jV Bi J0 (.int .i64 0) (xq P7) b4,ap g6 #[v3] 164,aI 169 3 v3 (dH i bits ou j).length ((dH i bits ou j).flatMap eY),s7 xb]) (fun(j,_)=>T+1-j) (0,.slice (some ⟨Tz,0,none⟩) ou.length RI,RH,b3) ⟨Nat.zero_le _,p2,by omega⟩ ?_
              rintro⟨j,v3,P7,b4⟩ ⟨s1,s2,s3⟩;dsimp only at s1 s2 s3⊢
              by_cases c7:j<T+1
              · have aaG:=qH (i:=i) (bits:=bits) (out:=ou) j
                have J1:dH i bits ou (j+1)=if bits.testBit j=true then more (dH i bits ou j) ((i:Int),0,(j:Int))else dH i bits ou j:=rfl
                have H6:=s2.put ((i:Int),0,(j:Int));have hdv:bits/2^j<=bits:=Nat.div_le_self _ _;have RA:=Tj (y:=bits/2^j) (by omega);have uz:∀w,(Op.shift .shr .u64 (bits:Int) .i64 (j:Int)).run Tryz.prog w= .ok (.int .u64 ((bits/2^j:Nat):Int)) w:=fun w=>MB bits j 64 .u64 .i64 rfl (by omega) w;have zO:=rY bits j;generalize Zo:dH i bits ou j=ol at*;generalize bits/2^j=D1 at*
                by_cases c8:bits.testBit j=true
                · rw[if_pos c8]at J1
                  have ya:D1 %2=1:=by rw[c8]at zO;simpa using zO
                  repeat(first|refine GC ?_|refine gV (kB rfl rfl uz) ?_|refine gV (jn rfl rfl RA) ?_|refine gV (cJ (b:=true) rfl rfl (decide_eq_true (by omega))) ?_|refine gV (aU rfl (zZ _ _)) ?_|refine GB ?_)
                  refine aP [2,3,4,5] [0,1,6] (by decide) rfl rfl (IB aj.en rfl rfl) (fun w hm hb=>MZ g5 J0 g6 b4 v3 P7 ol ((i:Int),0,(j:Int)) (Wb (by omega) (by omega)) s2 (by omega) (by omega) w _ hb) rfl rfl rfl ?_;intro v4 _
                  conv=>arg 8;simp only[zJ,bW,ret,id_eq,ym]
                  try refine GA ?_
                  refine bR [0,1,3,4,5,6,2] ?_;exact aY (j+1,v4,s_ P7 ((i:Int),0,(j:Int)),b4+2) ⟨by show j+1<=T+1;omega,by show mD _ (dH i bits ou (j+1)) _;rw[J1];exact H6,by show b4+2<=b3+2*(j+1);omega⟩ (by show T+1-(j+1)<T+1-j;omega) (hl:=by dsimp only;rw[J1];rfl)
                · rw[if_neg c8]at J1
                  have ya:¬D1 %2=1:=by rw[Bool.eq_false_iff.2 c8]at zO;simpa using zO
                  repeat(first|refine GC ?_|refine gV (kB rfl rfl uz) ?_|refine gV (jn rfl rfl RA) ?_|refine gV (cJ (b:=false) rfl rfl (decide_eq_false (by omega))) ?_|refine GB ?_)
                  exact aY (j+1,v3,P7,b4) ⟨by show j+1<=T+1;omega,by show mD _ (dH i bits ou (j+1)) _;rw[J1];exact s2,by show b4<=b3+2*(j+1);omega⟩ (by show T+1-(j+1)<T+1-j;omega) (hl:=by dsimp only;rw[J1])
              · obtain rfl:j=T+1:=by omega
                try refine GA ?_
                exact aY (i+1,v3,P7,b4) ⟨by show i+1<=g.ag.length;omega,by show mD P7 (dI g.ag T yn bits out (i+1)) b4;rw[yp];exact s2,by show b4<=b+62*(i+1);omega⟩ (by show g.ag.length-(i+1)<g.ag.length-i;omega) (hl:=by dsimp only;rw[yp])
            · rw[if_neg c6]at yp
              repeat(first|(refine GN ?_;first|refine QW QP ?_|refine QW (J (v:= .int .i64 hd) ak.ty rfl (ah (i:=0) rfl rfl)) ?_|refine QW (J (v:= .slice (some ⟨Tz,0,none⟩) ou.length RI) ak.ty rfl (ah (i:=1) rfl rfl)) ?_|refine QW (aH aT.eq ak.ty rfl rfl hno) ?_|refine QW (J (v:= .int .i64 (dn:Int)) ak.ty rfl (rO _ 2 rfl 1 _ rfl)) ?_|refine QW (aH aT.eq ak.ty rfl rfl hlt) ?_|refine QW (J (v:= .int .i64 yn) ak.ty rfl (Tv _ 3 rfl 1 _ rfl)) ?_|refine QW (cB (b:=true) rfl rfl (decide_eq_true c6)) ?_|refine GX ?_)|refine GW ?_)
              try refine GA ?_
              refine bR [0,1,2,3,4,5,6] ?_;exact aY (i+1,.slice (some ⟨Tz,0,none⟩) ou.length RI,RH,b3) ⟨by show i+1<=g.ag.length;omega,by show mD RH (dI g.ag T yn bits out (i+1)) b3;rw[yp];exact p2,by show b3<=b+62*(i+1);omega⟩ (by show g.ag.length-(i+1)<g.ag.length-i;omega) (hl:=by dsimp only;rw[yp];rfl)
          · obtain rfl:i=g.ag.length:=by omega
            try refine GA ?_
            refine bR [0,1,2,3,4,5] ?_;exact aY (n+1,dI g.ag T yn bits out g.ag.length,f2,Oe,v2,RH,b3) ⟨UH,UG,Kw,by show Oe<=c+(n+1);omega,p2,by show b3<=40000+2480*(n+1);omega⟩ (by show 12000-(n+1)<12000-n;omega)
        · repeat(first|refine GC ?_|refine gV (J (v:= .slice (some ⟨gz,0,none⟩) out.length cv) ak.ty rfl (ah (i:=4) rfl rfl)) ?_|refine gV (aH aT.eq ak.ty rfl rfl c2) ?_|refine gV (aH aT.eq ak.ty rfl rfl hlt) ?_|refine gV (J (v:= .int .i64 (dn:Int)) ak.ty rfl (du _ 5 rfl 1 _ rfl)) ?_|refine gV (cJ (b:=false) rfl rfl (decide_eq_false (by omega))) ?_|refine gV (J (v:= .int .i64 yk) ak.ty rfl (Tv _ 6 rfl 0 _ rfl)) ?_|refine gV (cB (b:=true) rfl rfl (decide_eq_true c4)) ?_|refine GB ?_)
          have DK:oI g.ag T (fY g) ((k:Int),(dn:Int),(ln:Int)) out=out:=by
            unfold oI;rw[qR];dsimp only;rw[if_neg c4]
          rw[DK]at UH UG;refine bR [0,1,2,3,4,5] ?_;exact aY (n+1,out,f',c',.slice (some ⟨gz,0,none⟩) out.length cv,RG,b) ⟨UH,UG,i3,by show c'<=c+(n+1);omega,i5,by show b<=40000+2480*(n+1);omega⟩ (by show 12000-(n+1)<12000-n;omega)
    · have hn:n=out.length:=by have:=i1.le;omega
      have hR:nG g.ag T (fY g) 12000 0 (cg [] l0)=out:=by
        rw[<-i2,show 12000-n=(11999-n)+1 by omega,nG,if_neg c2]
      have hcI:fR g.ag T (fY g) l0=oH out:=by unfold fR;rw[hR]
      repeat(first|refine GA ?_|refine gV (J (v:= .slice bv out.length cv) ak.ty rfl (ah (i:=4) rfl rfl)) ?_)
      refine aP [5] [0,1,2,3,4] (by decide) rfl rfl (fh aj.en rfl rfl rfl) (fun w hm hb=>P5 PF (.slice bv out.length cv) out w _ hb (by omega)) rfl rfl rfl ?_;intro _ _;refine zL ?_
      repeat(first|refine GA ?_|refine gV (J (v:= .slice bv out.length cv) ak.ty rfl (ah (i:=4) rfl rfl)) ?_)
      exact b_ rfl rfl fun w hm=>hm.bV (S:=oV g T l0 bp cp go gm c) (f',c',.slice bv out.length cv) ⟨i3,by show c'<=c+12000;omega⟩ [0,1,5] (by decide) (by unfold oV P6;dsimp only;rw[hcI,Dk];rfl)
end bH
namespace bH
open Go.RowKit bL db av dg b9 aX bT
theorem MX.row{W:bB}{L Lx:List bz}{w:World}(hm:Mem W L w){i n size:Nat}{e:TypeId}{v:Value}{xs:List Value}(hi:L[i]?=some (aI e size v n xs))(is:List Nat)(hL:Lx=is.filterMap fun i=>L[i]?)(Zp:i∉is):MX (bB.on w Lx) v n xs:=by
 have hh:(aI e size v n xs).holds w:=hm.get hi;obtain⟨base,cap,rfl,h1,h2,h3⟩:=Sl.cD hh;refine⟨base,cap,rfl,h1,h2,fun hn=>?_⟩;obtain⟨b,off,rfl,hr⟩:=h3 hn;have hf:(aI e size (.slice (some ⟨b,off,none⟩) n cap) n xs).dF b:=by
  rcases(show w.ownsRow 0 e size _ n xs from hh).2 with⟨hv,_⟩|⟨g,cp,kp,hv,_⟩
  ·cases hv
  ·cases hv;exact .inl rfl
 refine⟨b,off,rfl,⟨(aI e size _ n xs).lt w hh b hf,?_⟩,hr⟩;rintro⟨o,ho,Zq⟩;subst hL;obtain⟨j,hj,GY⟩:=List.mem_filterMap.1 ho;exact hm.owns.apart i j _ _ (fun h=>Zp (h▸hj)) hi GY b hf Zq
theorem MX.at{B:bB}{L:List bz}{α:Type}{f:α->List Value}{c:Nat}(hc:∀a,(f a).length=c){base:Option Addr}{cap n:Nat}{l:List α}(h:MX B (.slice base n cap) n (l.flatMap f))(hn:0<n):∃b off,base=some ⟨b,off,none⟩/\∀(k:Nat) (hk:k<l.length) (j:Nat) (u:Value),(f l[k])[j]?=some u->At B L ⟨b,off+k*c+j,none⟩ u:=by
 obtain⟨RJ,Ew,h0,h1,h2,h3⟩:=h
 cases h0
 obtain⟨b,off,rfl,ho,hr⟩:=h3 hn;exact⟨b,off,rfl,fun k hk j u hj=>qf (W:=B) (L:=L) hc (off:=off) (fun q y hq=>nj ho hr q y hq) hk j u hj⟩
theorem J2{l:List av.Prod}{s:List aX.Item}{x:bY}{k:Nat}(h:k<s.length):i_ l (s.take (k+1)) x=if iH l s[k]=some x then i_ l (s.take k) x++[oM s[k]]else i_ l (s.take k) x:=by
 unfold i_;rw[List.take_succ_eq_append_getElem h,List.filter_append,List.map_append]
 by_cases c:iH l s[k]=some x
 ·rw[if_pos c,List.filter_cons_of_pos (by simpa using c)];rfl
 ·rw[if_neg c,List.filter_cons_of_neg (by simpa using c)];simp
theorem DL{l:List av.Prod}{s:List aX.Item}{x:bY}:(i_ l s x).length<=s.length:=by
 unfold i_;rw[List.length_map];exact List.length_filter_le _ _
theorem By(g:df)(hg:bM g=0)(bp:Option Addr)(cp:Nat)(vb:Nat->Value)(w0:World)(hG:jf (fun q=>q<w0.heap.size) w0 (cH g.aJ g.aR (.slice bp g.ag.length cp)) g)(tt:JN (fun q=>q<w0.heap.size) w0 vb g.ag)(lU:0<g.ag.length->∃b off,bp=some ⟨b,off,none⟩/\∀i,i<g.ag.length->Rd w0 b (off+i*2) [.int .i64 (aQ g.ag (i:Int)).1,vb i])
    (go gm c:Nat) (f:RK->Option Value) (T:Nat) (BY:g.aJ=(T:Int)) (hT:T<=30) (s:List aX.Item) (x:bY) (vl:Value) (h0:∀it∈s,cL g.ag T it) (hl0:s.length<=20000) (hc:fT (fY g) f) (hcc:c<=900000000000000) (w:World) (B:bB) (ho:lc w0 B) (Oc:MX B vl s.length (s.flatMap eY))
    (hm:Mem B (P6 g bp cp go gm f c) w):
    Calls Tryz.prog 59 #[.pointer (some ⟨go,0,none⟩),vl,.agg (dv x).toArray] w (dc (oV g T (i_ g.ag s x) bp cp go gm c) B):=by
  have jB:=fun v h2 h3 w' B' Ax sx ml=>oW g hg bp cp vb w0 hG tt lU go gm c f T BY hT (i_ g.ag s x) v h2 h3 hc hcc w' B' Ax sx ml;have Zo:=DL (l:=g.ag) (s:=s) (x:=x);have BV:=fS (l:=g.ag) (T:=T) (x:=x) h0;obtain⟨bl,cl,rfl,nK,vz,A3⟩:=id Oc;clear A3;unfold maxLen at vz;unfold P6 at hm;refine eg hm (args:=[.pointer (some ⟨go,0,none⟩),.slice bl s.length cl,.agg (dv x).toArray]) (n:=50) Tryz.func59 rfl rfl rfl ?_;refine bJ (aV (bK rfl rfl rfl fun g5=>?_));refine zL ?_
  try refine GA ?_
  refine h_ 169 3 ?_
  conv=>arg 7;simp only[zA,zB,zC,zD,zE,zF,zG,zH,zI,bW,ret,id_eq]
  refine cX (ι:=Nat×Value) (fun(k,_)=>k<=s.length) (fun(k,v)=>[(0,.pointer (some ⟨go,0,none⟩)),(5,.pointer (some ⟨g5,0,none⟩)),(7,v),(11,.slice bl s.length cl),(12,.int .i64 s.length),(13,.int .i64 (k:Int))])
    (fun(k,v)=>[ap go (tL g.aJ g.aR (.slice bp g.ag.length cp) gm).toArray 191,dr fe gm f c,ap g5 (dv x).toArray 128,aI 169 3 v (i_ g.ag (s.take k) x).length ((i_ g.ag (s.take k) x).flatMap eY)]) (fun(k,_)=>s.length-k) (0,.slice none 0 0) (Nat.zero_le _) ?_
  rintro⟨k,v⟩ i1;dsimp only at i1⊢
  by_cases c1:k<s.length
  · obtain⟨b,off,rfl,du⟩:=Oc.at (L:=[]) ir (by omega)
    have Bm:∀(L:List bz) (j:Nat) (u:Value),(eY s[k])[j]?=some u->At B L ⟨b,off+k*3+j,none⟩ u:=fun L=>by
      obtain⟨b',uc,he,h⟩:=Oc.at (L:=L) ir (by omega)
      cases he
      exact h k c1
    clear du;have UF:=h0 s[k] (List.getElem_mem c1);have qR:=J2 (l:=g.ag) (x:=x) c1;have zQ:(i_ g.ag (s.take k) x).length<=20000:=Nat.le_trans DL (by rw[List.length_take];omega);generalize i_ g.ag (s.take k) x=ov at*;generalize yp:i_ g.ag (s.take (k+1)) x=ov' at*;clear jB BV Zo;generalize s[k]=it at*;obtain⟨p,d,lo⟩:=it;have Tu:=UF;obtain⟨r1,r2,r3,r4,r5,r6⟩:=Tu;dsimp only at r1 r2 r3 r4 r5 r6;obtain⟨kn,rfl⟩:=Int.eq_ofNat_of_zero_le r1;obtain⟨dn,rfl⟩:=Int.eq_ofNat_of_zero_le r3;obtain⟨ln,rfl⟩:=Int.eq_ofNat_of_zero_le r5;have hk:kn<=g.ag.length:=by omega
    have zO:=fun w' (ml:Mem B [] w')=>nr g.aJ g.aR bp cp g.ag vb w0 w' B kn hk ho ml (fun i hi=>let ⟨b,c,h,_⟩:=tt i hi;⟨b,_,c,h⟩) lU;have BZ:∀q∈g.ag,q.2.length<=8:=fun q hq=>((bI hg).2.2.2.2.2 q hq).1;have XI:=iZ (l:=g.ag) (p:=(kn:Int)) BZ
    repeat(first|refine GA ?_|refine gV (aH aT.eq ak.ty rfl rfl c1) ?_|refine gV (aK (cs:=eY ((kn:Int),(dn:Int),(ln:Int))) ak.ty rfl rfl (Bm _)) ?_)
    refine aF rfl fun g9=>?_;refine zL ?_;refine fU 4 (cs':=(eY ((kn:Int),(dn:Int),(ln:Int))).toArray) ?_;refine zL ?_
    try refine GA ?_
    refine dw ([ap go (tL g.aJ g.aR (.slice bp g.ag.length cp) gm).toArray 191,ap g9 (eY ((kn:Int),(dn:Int),(ln:Int))).toArray 169]) (.calm 0 (.calm 1 (.calm 2 (.calm 3 (.calm 4 (.calm 5 (.one 6 (.calm 7 (.done))))))))) (bC [0,4]) ?_
    repeat(first|refine GW ?_|(refine GN ?_;first|refine QW (aK ak.ty rfl (cs:=[.int .i64 g.aJ,.int .i64 g.aR,.slice bp g.ag.length cp]) rfl (fun j v h=>ah (i:=0) rfl (Bj h))) ?_|refine QW (J (v:= .int .i64 (kn:Int)) ak.ty rfl (ah (i:=1) rfl rfl)) ?_))
    refine az rfl ?_;refine aM (fh aj.en rfl rfl rfl) (fun w hm=>zO _ (hm.pick [] (by decide) rfl)) rfl rfl rfl ?_;rintro xb UI
    conv=>arg 8;simp only[zJ,bW,ret,id_eq,rX]
    conv=>arg 7;simp only[rX]
    obtain⟨bb,cc,We,SE,-⟩:=rZ (W:=B) (i:=5) (L:=[ap go (tL g.aJ g.aR (.slice bp g.ag.length cp) gm).toArray 191,dr fe gm f c,ap g5 (dv x).toArray 128,aI 169 3 v ov.length (ov.flatMap eY),ap g9 (eY ((kn:Int),(dn:Int),(ln:Int))).toArray 169,s7 xb]) ho tt hk UI rfl;rw[We];refine aw (bC [0,4]) ?_
    try refine GW ?_
    clear zO
    by_cases c2:dn<(cU g.ag (kn:Int)).length
    · obtain⟨b2,o2,rfl,Tv⟩:=H5 ho tt hk UI We c2
      have Zr:iH g.ag ((kn:Int),(dn:Int),(ln:Int))=some (cU g.ag (kn:Int))[dn]:=by
        unfold iH;dsimp only;rw[Int.toNat_natCast,List.getElem?_eq_getElem c2]
      have Es:=fun w=>SN (cU g.ag (kn:Int))[dn] x w;generalize (cU g.ag (kn:Int))[dn]=y at*;rw[Zr]at qR
      try refine GA ?_
      refine dw ([ap g5 (dv x).toArray 128,ap g9 (eY ((kn:Int),(dn:Int),(ln:Int))).toArray 169,s7 xb]) (.calm 0 (.calm 1 (.calm 2 (.calm 3 (.calm 4 (.calm 5 (.calm 6 (.calm 7 (.calm 8 (.calm 9 (.calm 10 (.calm 11 (.calm 12 (.calm 13 (.done))))))))))))))) (bC [2,4,5]) ?_
      by_cases c3:y=x
      · subst c3
        rw[if_pos rfl]at qR;rw[decide_eq_true rfl]at Es
        repeat(first|(refine GN ?_;first|refine QW QP ?_|refine QW (J (v:= .int .i64 (dn:Int)) ak.ty rfl (ah (i:=1) rfl rfl)) ?_|refine QW (aH aT.eq ak.ty rfl rfl c2) ?_|refine QW (aK (cs:=dv y) ak.ty rfl rfl (Tv _ 2 rfl)) ?_|refine QW (aE (i:=0) ak.ty rfl rfl rfl) ?_|refine QW (Cg rfl rfl (by kernel_rfl) Es) ?_|refine GX ?_)|refine GW ?_)
        repeat(first|refine GA ?_|refine gV (J (v:= .int .i64 (dn:Int)) ak.ty rfl (ah (i:=4) rfl rfl)) ?_)
        refine bD (i:=4) rfl rfl rfl rfl rfl rfl ?_;refine zL ?_
        repeat(first|refine GA ?_|refine gV (aE (i:=4) ak.ty rfl rfl rfl) ?_)
        refine jK (i:=3) rfl rfl rfl rfl rfl rfl rfl (fun z h=>by cases h;rfl) (by omega) (by omega) rfl fun z v'=>?_;refine zL ?_
        try refine GA ?_
        refine bR [0,1,2,3] ?_;exact aY (k+1,v') (by show k+1<=s.length;omega) (by show s.length-(k+1)<s.length-k;omega) (hl:=by dsimp only;rw[yp,qR,List.length_append,List.flatMap_append];rfl)
      · rw[if_neg (fun h=>c3 (Option.some.inj h))]at qR
        rw[decide_eq_false c3]at Es
        repeat(first|(refine GN ?_;first|refine QW QP ?_|refine QW (J (v:= .int .i64 (dn:Int)) ak.ty rfl (ah (i:=1) rfl rfl)) ?_|refine QW (aH aT.eq ak.ty rfl rfl c2) ?_|refine QW (aK (cs:=dv y) ak.ty rfl rfl (Tv _ 2 rfl)) ?_|refine QW (aE (i:=0) ak.ty rfl rfl rfl) ?_|refine QW (Cg rfl rfl (by kernel_rfl) Es) ?_|refine GX ?_)|refine GW ?_)
        try refine GA ?_
        refine bR [0,1,2,3] ?_;exact aY (k+1,v) (by show k+1<=s.length;omega) (by show s.length-(k+1)<s.length-k;omega) (hl:=by dsimp only;rw[yp,qR];rfl)
    · have Zr:iH g.ag ((kn:Int),(dn:Int),(ln:Int))=none:=by
        unfold iH;dsimp only;rw[Int.toNat_natCast,List.getElem?_eq_none (by omega)]
      rw[Zr,if_neg (fun h=>by cases h)]at qR
      try refine GA ?_
      refine dw ([ap g5 (dv x).toArray 128,ap g9 (eY ((kn:Int),(dn:Int),(ln:Int))).toArray 169,s7 xb]) (.calm 0 (.calm 1 (.calm 2 (.calm 3 (.calm 4 (.calm 5 (.calm 6 (.calm 7 (.calm 8 (.calm 9 (.calm 10 (.calm 11 (.calm 12 (.calm 13 (.done))))))))))))))) (bC [2,4,5]) ?_
      repeat(first|refine GW ?_|(refine GN ?_;first|refine QW (J (v:= .int .i64 (dn:Int)) ak.ty rfl (ah (i:=1) rfl rfl)) ?_))
      try refine GA ?_
      refine bR [0,1,2,3] ?_;exact aY (k+1,v) (by show k+1<=s.length;omega) (by show s.length-(k+1)<s.length-k;omega) (hl:=by dsimp only;rw[yp,qR];rfl)
  · obtain rfl:k=s.length:=by omega
    rw[List.take_length]
    try refine GA ?_
    refine aP [0,1] [2,3] (by decide) rfl rfl (fh aj.en rfl rfl rfl) (fun w hm hb=>jB v BV (by omega) w _ (ho.on hm fun o h=>uP h) (MX.row hm (i:=3) rfl [0,1] rfl (by decide)) hb) rfl rfl rfl ?_;rintro⟨f2,c2,v2⟩ ⟨Kw,Tw⟩
    conv=>arg 8;simp only[zJ,bW,ret,id_eq,oV,P6]
    conv=>arg 7;simp only[oV]
    try refine GA ?_
    exact b_ rfl rfl fun w hm=>hm.bV (S:=oV g T (i_ g.ag s x) bp cp go gm c) (f2,c2,v2) ⟨Kw,Tw⟩ [2,3,4] (by decide) rfl
end bH
namespace bH
open Go.RowKit bL db av dg b9 aX bT
def fC(g:df):List (List Int)×List (List aX.Item)×Int:=if bM g≠0 then([],[],bM g)else match allI g.ag g.aJ.toNat g.aR.toNat (fY g)with
 |some (Nx,S)=>(Nx,S,0)
 |none=>([],[],8)
def P8(g:df):Spec (Value×Value×List Value×(Nat->Prop)×List Value×(Nat->Prop)):=⟨fun _=>True,fun x=> .tuple #[.agg #[x.1,x.2.1],.int .i64 (fC g).2.2],fun x=>[aI 164 1 x.1 (fC g).2.1.length x.2.2.1,cY (a8 Bn) x.2.2.2.1 (x.2.2.1.map fun v=>[v]) (fC g).2.1,aI 26 1 x.2.1 (fC g).1.length x.2.2.2.2.1,cY (a8 eI) x.2.2.2.2.2 (x.2.2.2.2.1.map fun v=>[v]) (fC g).1]⟩
theorem DN(w:World):(Instr.build 117 (#[]:Array (Nat×Value))).run Tryz.prog w= .ok (.agg #[.slice none 0 0,.slice none 0 0]) w:=by kernel_rfl
theorem oX{l:List av.Prod}{T:Nat}{s:List aX.Item}(hw:∀q∈l,q.2.length<=8)(hl:l.length<=40)(hT:T<=30)(h:∀it∈s,cL l T it):py s:=fun it hit=>by
 obtain⟨a1,a2,a3,a4,a5,a6⟩:=h it hit;have:=iZ (l:=l) (p:=it.1) hw;omega
theorem MX.els{W:bB}{L Lx:List bz}{w:World}(hm:Mem W L w){i n:Nat}{F:Nat->Prop}{pz:List Value}{S:List (List aX.Item)}(hi:L[i]?=some (cY (a8 Bn) F (pz.map fun v=>[v]) S))(is:List Nat)(hL:Lx=is.filterMap fun i=>L[i]?)(Zp:i∉is){s:List aX.Item}(hs:S[n]?=some s){v:Value}(hv:pz[n]?=some v):MX (bB.on w Lx) v s.length (s.flatMap eY):=by
 obtain⟨hn,rfl⟩:=List.getElem?_eq_some_iff.1 hs;obtain⟨⟨h1,h2⟩,h3⟩:=hm.get hi;have Zi:n<pz.length:=(List.getElem?_eq_some_iff.1 hv).1;obtain⟨v',e,hs⟩:=h2 n hn (by rw[List.length_map];exact Zi);rw[List.getElem_map]at e;obtain rfl:v=v':=by
  have:=(List.getElem?_eq_some_iff.1 hv).2;rw[this]at e;exact(List.cons.inj e).1
 obtain⟨base,cap,rfl,a1,a2,a3⟩:=hs;refine⟨base,cap,rfl,a1,a2,fun h0=>?_⟩;obtain⟨b,off,rfl,hF,_⟩:=a3 h0;have uI:=gI.flat (f:=eY) (c:=3) (hc:=fun _=>rfl) (p:=fun _=>True) (F:=F) (by decide) (⟨some ⟨b,off,none⟩,cap,rfl,a1,a2,a3⟩:gI Bn F w _ S[n]);obtain⟨RJ,Ew,e',_,_,q⟩:=uI;obtain⟨b',uc,e2,hr⟩:=q h0
 cases e'
 cases e2
 refine⟨b,off,rfl,⟨h3 b hF,?_⟩,hr⟩;rintro⟨o,ho,Zq⟩;subst hL;obtain⟨j,hj,GY⟩:=List.mem_filterMap.1 ho;exact hm.owns.apart i j _ _ (fun h=>Zp (h▸hj)) hi GY b (.inr hF) Zq
theorem M0{a b c k:Nat}(h1:a<=b+12000)(h2:b<=c+12000*k):a<=c+12000*(k+1):=by rw[Nat.mul_succ,<-Nat.add_assoc];exact Nat.le_trans h1 (Nat.add_le_add_right h2 _)
theorem xu:∀(l:List Value),(l.map fun v=>[v]).flatten=l
 |[]=>rfl
 |v::l=>by rw[List.map_cons,List.flatten_cons,xu l];rfl
theorem tQ{w:World}{v:Value}{l:List Int}(hp:∀x∈l,bL.bX x)(h:(aI 3 1 v l.length (l.map (Value.int .i64))).holds w):(a8 eI).is (fun k=>v.ownBlock=some k) w [v] l:=
 ⟨v,rfl,gI.of_flat (by have:=Sl.cD h;rwa [show l.map (Value.int .i64)=l.flatMap (fun n=>[Value.int .i64 n])by rw[List.map_eq_flatMap]]at this) hp (fun _ h=>h) (fun a n cp hv=>by rw[hv];rfl)⟩
theorem J3(v:Value)(g:df)(w:World)(hG:jf (fun k=>k<w.heap.size) w v g):
    Calls Tryz.prog 33 #[v] w (bU (P8 g) w):=by
  have Zs:=hG;have gD:=fun w' (hg:Gr w w')=>e_ v g w' (hG.gr hg);obtain⟨vp,rfl,hp,ht,hn⟩:=hG;obtain⟨vb,bp,cp,rfl,-,-,tt,lU⟩:=MA hp;have xX:=Bk g.aJ g.aR (.slice bp g.ag.length cp);have uv:=DN;have hO:fC g=if bM g≠0 then([],[],bM g)else match allI g.ag g.aJ.toNat g.aR.toNat (fY g)with
    |some (Nx,S)=>(Nx,S,0)
    |none=>([],[],8):=rfl
  unfold P8;refine enter (args:=[cH g.aJ g.aR (.slice bp g.ag.length cp)]) (n:=81) Tryz.func33 rfl rfl rfl ?_;refine bJ (aV (bK rfl rfl rfl fun g1=>?_));refine zL ?_
  try refine GA ?_
  refine aF rfl fun g2=>?_;refine zL ?_
  repeat(first|refine GA ?_|refine gV (aE (i:=0) ak.ty rfl rfl rfl) ?_)
  refine aM (iT aj.en rfl rfl) (fun w hm=>gD w hm.below) rfl rfl rfl ?_;intro _ _;refine zL ?_
  by_cases c0:bM g=0
  · rw[if_neg (by rw[c0];simp)]at hO
    rw[c0];obtain⟨Zt,Zu,N_,Uq,tF,Wc⟩:=bI c0;have BZ:∀q∈g.ag,q.2.length<=8:=fun q hq=>(Wc q hq).1;obtain⟨T,BY⟩:∃T:Nat,g.aJ=(T:Int):=⟨g.aJ.toNat,by omega⟩;obtain⟨N,XO⟩:∃N:Nat,g.aR=(N:Int):=⟨g.aR.toNat,by omega⟩;rw[show g.aJ.toNat=T by omega,show g.aR.toNat=N by omega]at hO;have hT:T<=30:=by omega
    have Wf:0<g.ag.length->∃b off,bp=some ⟨b,off,none⟩/\∀i,i<g.ag.length->Rd w b (off+i*2) [.int .i64 (aQ g.ag (i:Int)).1,vb i]:=fun h=>let ⟨b,off,h1,_,h3⟩:=lU h;⟨b,off,h1,fun i hi=>(h3 i hi).1⟩
    have jB:=fun go gm l0 vl h1 h2 w' B' Ax sx ml=>oW g c0 bp cp vb w Zs tt Wf go gm 0 (fun _=>none) T BY hT l0 vl h1 h2 (fun x v h=>by cases h) (by omega) w' B' Ax sx ml;have hst:=fun go gm c f s x vl h1 h2 h3 h4 w' B' Ax sx ml=>By g c0 bp cp vb w Zs tt Wf go gm c f T BY hT s x vl h1 h2 h3 h4 w' B' Ax sx ml;have Wg:=yh T N (by omega) (by omega) (.slice bp g.ag.length cp)
    repeat(first|refine GA ?_|refine gV (aE (i:=0) ak.ty rfl rfl rfl) ?_)
    refine aM (iT aj.en rfl rfl) (fun w hm=>xX w) rfl rfl rfl ?_;rintro⟨go,gm⟩ _
    conv=>arg 8;simp only[zJ,bW,ret,id_eq,PG]
    conv=>arg 7;simp only[PG]
    try refine GA ?_
    refine sI (K:=eB) rfl fun gq=>?_;refine zL ?_
    try refine GA ?_
    refine aF rfl fun g6=>?_;refine zL ?_;refine bD (i:=5) rfl rfl rfl rfl rfl rfl ?_;refine zL ?_
    try refine GA ?_
    refine aF rfl fun g7=>?_;refine zL ?_
    repeat(first|refine GA ?_|refine gV (uy rfl rfl) ?_|refine gV (J (v:= .slice bp g.ag.length cp) ak.ty rfl (ah (i:=0) rfl rfl)) ?_|refine gV (J (v:= .int .i64 g.aJ) ak.ty rfl (ah (i:=0) rfl rfl)) ?_|refine gV (aU rfl (zZ _ _)) ?_)
    refine fj (cs:=(eY ((g.ag.length:Int),0,g.aJ)).toArray) rfl rfl rfl rfl rfl fun g33=>?_;refine zL ?_;refine Cf (i:=7) (m:=1) 3 rfl rfl (by decide) ?_;refine zL ?_;have P9:∀x∈[(((g.ag.length:Int),0,g.aJ):aX.Item)],cL g.ag T x:=by rw[BY];exact eb tF hT
    try refine GA ?_
    refine aP [3,2] [0,1,4,5,6] (by decide) rfl rfl (fh aj.en rfl rfl rfl) (fun w' hm hb=>jB go gm [((g.ag.length:Int),0,g.aJ)] _ P9 (by simp) w' _ ((lc.self w).on hm fun o h=>uP h) (MX.row hm (i:=7) rfl [3,2] rfl (by decide)) hb) rfl rfl rfl ?_;rintro⟨f2,c2,v2⟩ ⟨Kw,vz⟩
    conv=>arg 8;simp only[zJ,bW,ret,id_eq,oV,P6]
    conv=>arg 7;simp only[oV]
    have ql:fR g.ag T (fY g) [((g.ag.length:Int),0,g.aJ)]=ja g.ag T (fY g):=by rw[BY];rfl
    rw[ql];have TA:∀it∈ja g.ag T (fY g),cL g.ag T it:=fc BZ tF hT (eb tF hT);have Wh:=oO (lk:=fY g) BZ tF hT (l0:=[((g.ag.length:Int),0,(T:Int))]) (eb tF hT);have Wi:(ja g.ag T (fY g)).length<=11439:=np BZ tF hT (eb tF hT);dsimp only at Kw vz;refine yH 164 1 ?_;refine Cr (cY (a8 Bn) (fun _=>False) [] []) (fun k hk=>hk.elim (fun h=>by cases h) id) (fun w=>gZ) ?_;refine zL ?_;have hsm:=oX BZ tF hT TA;have uz:fm [] (ja g.ag T (fY g))=(0,[ja g.ag T (fY g)]):=if_neg (by simp)
    try refine GA ?_
    refine aP [3,2,4,8,9,7] [0,1,5,6] (by decide) rfl rfl (IB aj.en rfl rfl) (fun w' hm hb=>tM g6 gq g7 (.slice none 0 0) (.slice none 0 0) [] (fun _=>False) [] v2 (ja g.ag T (fY g)) (fun t h=>by cases h) hsm (by simp) (by omega) w' _ hb) rfl rfl rfl ?_;rintro⟨vS,pz,F⟩ _
    conv=>arg 8;simp only[zJ,bW,ret,id_eq,RD]
    rw[uz];dsimp only;refine yH 26 1 ?_;refine Cr (cY (a8 eI) (fun _=>False) [] []) (fun k hk=>hk.elim (fun h=>by cases h) id) (fun w=>gZ) ?_;refine zL ?_
    try refine GA ?_
    refine cX (ι:=Nat×List (List aX.Item)×List (List Int)×(RK->Option Value)×Nat×Value×Value×List Value×(Nat->Prop)×List Value×(Nat->Prop))
      (fun(n,S,Nx,f,c,_,_,_,_,_,_)=>n<=S.length/\Nx.length=n/\Bh g.ag T (fY g) S/\S.length<=200/\pZ g.ag T N (fY g) (202-n) n Nx S=allI g.ag T N (fY g)/\fT (fY g) f/\c<=12000+1200000*n/\∀t∈S,t.length<=11439)
      (fun(n,_,_,_,_,_,_,_,_,_,_)=>[(1,.pointer (some ⟨g1,0,none⟩)),(2,.pointer (some ⟨g2,0,none⟩)),(5,.pointer (some ⟨go,0,none⟩)),(7,.pointer (some ⟨g7,0,none⟩)),(8,.func (.func 55) #[] #[.pointer (some ⟨g6,0,none⟩),.pointer (some ⟨g7,0,none⟩)]),(9,.int .i64 (n:Int))])
      (fun(_,S,Nx,f,c,vS,vN,pz,F,tR,G)=>[ap g1 (cH g.aJ g.aR (.slice bp g.ag.length cp)).cells 33,ap g2 #[.slice none 0 0,.slice none 0 0] 117,ap go (tL g.aJ g.aR (.slice bp g.ag.length cp) gm).toArray 191,dr fe gm f c,ap g6 #[.map (some gq)] 87,dr eB gq (gu (S.map eH)) S.length,ap g7 #[vS,vN] 117,aI 164 1 vS S.length pz,cY (a8 Bn) F (pz.map fun v=>[v]) S,aI 26 1 vN Nx.length tR,cY (a8 eI) G (tR.map fun v=>[v]) Nx]) (fun(n,_,_,_,_,_,_,_,_,_,_)=>202-n)
      (0,[ja g.ag T (fY g)],[],f2,c2,vS,.slice none 0 0,pz,F,[],fun _=>False) ⟨Nat.zero_le _,rfl,⟨by simp,fun s hs=>by rw[List.mem_singleton.1 hs];exact TA,fun s hs=>by rw[List.mem_singleton.1 hs];exact Wh⟩,by simp,rfl,Kw,by omega,fun t ht=>by rw[List.mem_singleton.1 ht];exact Wi⟩ ?_
    clear jB TA Wh Wi hsm uz Kw vz P9 ql xX gD;rintro⟨n,S,Nx,f,c,vS,vN,pz,F,tR,G⟩ ⟨i1,i2,i3,i4,i5,i6,i7,i8⟩;dsimp only at i1 i2 i3 i4 i5 i6 i7 i8⊢;refine eN (i:=7) rfl dR fun dW=>?_;obtain⟨aS,cS,rfl,-,Zv⟩:=dW
    by_cases c1:n<S.length
    · rw[show 202-n=(201-n)+1 by omega,pZ,if_pos c1]at i5
      have HG:S.getD n []=S[n]:=by rw[List.getD_eq_getElem?_getD,List.getElem?_eq_getElem c1];rfl
      rw[HG]at i5;have P9:=i3.right S[n] (List.getElem_mem c1);have TB:S[n]?=some S[n]:=List.getElem?_eq_getElem c1;generalize OD:S[n]=s0 at*;have hyl:(iI T N).length=T+N:=rU T N;rw[<-BY,<-XO]at Wg;generalize iI T N=ys at*
      repeat(first|refine GA ?_|refine gV (J (v:= .slice aS S.length cS) ak.ty rfl (ah (i:=6) rfl rfl)) ?_|refine gV (aE (i:=0) ak.ty rfl rfl rfl) ?_)
      refine aM (iT aj.en rfl rfl) (fun w hm=>Wg w) rfl rfl rfl ?_;intro vy _
      conv=>arg 8;simp only[zJ,bW,ret,id_eq,bW]
      conv=>arg 7;simp only[bW]
      refine lz (i:=11) rfl dR fun dW=>?_;obtain⟨ay,cy,rfl,-,hay⟩:=dW
      try refine GA ?_
      refine h_ 3 1 ?_
      conv=>arg 7;simp only[zA,zB,zC,zD,zE,zF,zG,zH,zI,bW,ret,id_eq]
      refine cX (ι:=Nat×List Int×List (List aX.Item)×(RK->Option Value)×Nat×Value×List Value×(Nat->Prop)×Value)
        (fun(k,nx,S',f',c',_,_,_,_)=>k<=ys.length/\(∃E,S'=S++E)/\Bh g.ag T (fY g) S'/\S'.length<=200/\rT g.ag T (fY g) s0 (ys.drop k) nx S'=rT g.ag T (fY g) s0 ys [] S/\fT (fY g) f'/\c'<=c+12000*k/\nx.length=k/\(∀y∈nx,bL.bX y)/\∀t∈S',t.length<=11439)
        (fun(k,_,_,_,_,_,_,_,vx)=>[(1,.pointer (some ⟨g1,0,none⟩)),(2,.pointer (some ⟨g2,0,none⟩)),(5,.pointer (some ⟨go,0,none⟩)),(7,.pointer (some ⟨g7,0,none⟩)),(8,.func (.func 55) #[] #[.pointer (some ⟨g6,0,none⟩),.pointer (some ⟨g7,0,none⟩)]),(9,.int .i64 (n:Int)),(10,vx),(44,.slice ay ys.length cy),(45,.int .i64 (ys.length:Int)),(46,.int .i64 (k:Int))])
        (fun(_,nx,S',f',c',UB,uk,F',vx)=>[ap g1 (cH g.aJ g.aR (.slice bp g.ag.length cp)).cells 33,ap g2 #[.slice none 0 0,.slice none 0 0] 117,ap go (tL g.aJ g.aR (.slice bp g.ag.length cp) gm).toArray 191,dr fe gm f' c',ap g6 #[.map (some gq)] 87,dr eB gq (gu (S'.map eH)) S'.length,ap g7 #[UB,vN] 117,aI 164 1 UB S'.length uk,cY (a8 Bn) F' (uk.map fun v=>[v]) S',aI 26 1 vN Nx.length tR,cY (a8 eI) G (tR.map fun v=>[v]) Nx,aI 128 2 (.slice ay ys.length cy) ys.length (ys.flatMap dv),aI 3 1 vx nx.length (nx.map (Value.int .i64))]) (fun(k,_,_,_,_,_,_,_,_)=>ys.length-k)
        (0,[],S,f,c,.slice aS S.length cS,pz,F,.slice none 0 0) ⟨Nat.zero_le _,⟨[],(List.append_nil _).symm⟩,i3,i4,rfl,i6,by omega,rfl,(fun y hy=>by cases hy),i8⟩ ?_
      clear Wg;rintro⟨k,nx,S',f',c',UB,uk,F',vx⟩ ⟨j1,⟨E,hE⟩,j3,j4,j5,j6,j7,j8,j9,UJ⟩;dsimp only at j1 hE j3 j4 j5 j6 j7 j8 j9 UJ⊢
      by_cases c2:k<ys.length
      · have Uk:n<S'.length:=by rw[hE,List.length_append];omega
        have Wj:S'[n]?=some s0:=by rw[hE,List.getElem?_append_left c1];exact TB
        refine eN (i:=7) rfl dR fun dW=>?_;obtain⟨aS',UK,rfl,-,Zw⟩:=dW;obtain⟨UL,rfl⟩:=Zw (by omega);refine eN (i:=8) rfl (fun w h=>h.1.1) fun Oc=>?_;rw[List.length_map]at Oc;have hvn:uk[0+n]?=some (uk[n]'(by omega)):=by rw[Nat.zero_add];exact List.getElem?_eq_getElem _
        have Wk:uk[n]?=some (uk[n]'(by omega)):=List.getElem?_eq_getElem _;generalize uk[n]'(by omega)=vn at hvn Wk;obtain⟨gy,rfl⟩:=hay (by omega);have du:=fun(L:List bz) (i:Nat) (hL:L[i]?=some (aI 128 2 (.slice (some ⟨gy,0,none⟩) ys.length cy) ys.length (ys.flatMap dv)))=>q7 (W:=(w:bB)) xc hL c2;rw[List.drop_eq_getElem_cons c2,rT]at j5;generalize ys[k]=x at*;have so:s0.length<=11439:=UJ s0 (List.mem_of_getElem? Wj)
        repeat(first|refine GA ?_|refine gV (aH aT.eq ak.ty rfl rfl c2) ?_|refine gV (aK (cs:=dv x) ak.ty rfl rfl (du _ 11 rfl)) ?_)
        refine aF rfl fun g12=>?_;refine zL ?_;refine fU 13 (cs':=(dv x).toArray) ?_;refine zL ?_
        try refine GA ?_
        refine dw ([ap g7 #[.slice (some ⟨UL,0,none⟩) S'.length UK,vN] 117,aI 164 1 (.slice (some ⟨UL,0,none⟩) S'.length UK) S'.length uk,ap g12 (dv x).toArray 128]) (.calm 0 (.calm 1 (.calm 2 (.calm 3 (.calm 4 (.calm 5 (.calm 6 (.one 7 (.calm 8 (.done)))))))))) (bC [6,7,13]) ?_
        repeat(first|refine GW ?_|(refine GN ?_;first|refine QW (J (v:= .slice (some ⟨UL,0,none⟩) S'.length UK) ak.ty rfl (ah (i:=0) rfl rfl)) ?_|refine QW (aO aT.eq ak.ty rfl rfl Uk) ?_|refine QW (J (v:=vn) ak.ty rfl (f_ (i:=1) rfl hvn)) ?_|refine QW (aE (i:=2) ak.ty rfl rfl rfl) ?_))
        refine az rfl ?_;refine aP [2,3] [0,1,4,5,6,7,8,9,10,11,12,13] (by decide) rfl rfl (yG aj.en rfl rfl rfl rfl) (fun w' hm hb=>hst go gm c' f' s0 x vn P9 (by omega) j6 (by omega) w' _ ((lc.self w).on hm fun o h=>uP h) (MX.els hm (i:=8) rfl [2,3] rfl (by decide) Wj Wk) hb) rfl rfl rfl ?_;rintro⟨f2,Oe,v2⟩ ⟨Kw,vz⟩;dsimp only at Kw vz
        conv=>arg 8;simp only[zJ,bW,ret,id_eq,oV,P6]
        conv=>arg 7;simp only[oV]
        rw[show fR g.ag T (fY g) (i_ g.ag s0 x)=eT g.ag T (fY g) s0 x from rfl];refine aw (bC [4,5,11]) ?_
        try refine GW ?_
        try refine GA ?_
        refine lz (i:=14) rfl dR fun dW=>?_;obtain⟨a2,RI,rfl,-,ha2⟩:=dW;obtain⟨XP,Zx,TC⟩:=zz (lk:=fY g) BZ tF hT j3 P9 x;have hcc:Oe<=c+12000*(k+1):=M0 vz j7;have Zy:∀it∈eT g.ag T (fY g) s0 x,cL g.ag T it:=fc BZ tF hT (fS P9);have Zz:(eT g.ag T (fY g) s0 x).length<=11439:=np BZ tF hT (fS P9)
        by_cases c3:eT g.ag T (fY g) s0 x=[]
        · have hcell:lL g.ag T (fY g) s0 x S'=(-1,S'):=if_pos c3
          rw[hcell,if_neg (by show ¬200<S'.length;omega)]at j5;dsimp only at j5;have hl0:(eT g.ag T (fY g) s0 x).length=0:=by rw[c3];rfl
          repeat(first|refine GA ?_|refine gV (J (v:= .slice (some ⟨UL,0,none⟩) S'.length UK) ak.ty rfl (ah (i:=4) rfl rfl)) ?_)
          refine ik (i:=10) rfl rfl rfl rfl rfl rfl (fun z h=>by cases h;rfl) (by omega) (by omega) rfl fun z ZA=>?_;refine zL ?_
          try refine GA ?_
          refine bR [0,1,12,13,2,3,4,5,6,7,8,9,10] ?_;exact aY (k+1,nx++[-1],S',f2,Oe,.slice (some ⟨UL,0,none⟩) S'.length UK,uk,F',ZA) ⟨by show k+1<=ys.length;omega,⟨E,hE⟩,j3,j4,j5,Kw,hcc,by show(nx++[-1]).length=k+1;rw[List.length_append,j8];rfl,fun y hy=>(List.mem_append.1 hy).elim (j9 y) fun h=>by rw[List.mem_singleton.1 h];exact⟨by omega,by omega⟩,UJ⟩ (by show ys.length-(k+1)<ys.length-k;omega) (hl:=by dsimp only;rw[List.length_append,List.map_append];rfl)
        · have hcell:lL g.ag T (fY g) s0 x S'=(((fm S' (eT g.ag T (fY g) s0 x)).1:Int),(fm S' (eT g.ag T (fY g) s0 x)).2):=if_neg c3
          have hsm:=oX BZ tF hT Zy;have hSm:∀t∈S',py t:=fun t ht=>oX BZ tF hT (j3.right t ht);have yj:0<(eT g.ag T (fY g) s0 x).length:=List.length_pos_iff.2 c3;have hq:(fm S' (eT g.ag T (fY g) s0 x)).1<=S'.length:=by
            unfold fm;split
            · rename_i hm;exact Nat.le_of_lt (iV hm)
            · exact Nat.le_refl _
          rw[hcell]at j5 XP Zx TC;dsimp only at j5 XP Zx TC
          try refine GA ?_
          refine aP [2,3,4,5,6,14] [0,1,7,8,9,10,11,12,13] (by decide) rfl rfl (IB aj.en rfl rfl) (fun w' hm hb=>tM g6 gq g7 (.slice (some ⟨UL,0,none⟩) S'.length UK) vN uk F' S' _ (eT g.ag T (fY g) s0 x) hSm hsm (by omega) (by omega) w' _ hb) rfl rfl rfl ?_;rintro⟨vS2,ZB,F2⟩ _
          conv=>arg 8;simp only[zJ,bW,ret,id_eq,RD]
          have RL:∀t∈(fm S' (eT g.ag T (fY g) s0 x)).2,t.length<=11439:=by
            unfold fm;split
            · exact UJ
            · intro t ht
              rcases List.mem_append.1 ht with h|h
              · exact UJ t h
              · rw[List.mem_singleton.1 h];exact Zz
          generalize fm S' (eT g.ag T (fY g) s0 x)=R at*;obtain⟨q,S2⟩:=R;dsimp only at j5 XP Zx TC hq RL⊢;refine lz (i:=12) rfl dR fun dW=>?_;obtain⟨ZC,ZD,rfl,-,aaH⟩:=dW;obtain⟨E2,Wl⟩:=XP
          by_cases c4:200<S2.length
          · rw[if_pos c4]at j5
            rw[<-j5]at i5
            repeat(first|refine GC ?_|refine gV (J (v:= .slice ZC S2.length ZD) ak.ty rfl (ah (i:=11) rfl rfl)) ?_|refine gV (eo (b:=true) rfl rfl (decide_eq_true (by omega))) ?_|refine gV (aU rfl uv) ?_|refine GB ?_)
            have hOn:fC g=([],[],8):=by rw[hO,<-i5]
            rw[hOn];refine fU 1 ?_;refine zL ?_
            try refine GA ?_
            refine de 164 1 (mR (cY (a8 Bn) (fun _=>False) [] []) (fun k hk=>hk.elim (fun h=>by cases h) id) (fun w=>gZ) (de 26 1 (mR (cY (a8 eI) (fun _=>False) [] []) (fun k hk=>hk.elim (fun h=>by cases h) id) (fun w=>gZ) ?_)));exact dB (i:=1) rfl rfl rfl rfl rfl fun w hm=>hm.meets (S:=⟨fun(_:Value×Value×List Value×(Nat->Prop)×List Value×(Nat->Prop))=>True,fun x=> .tuple #[.agg #[x.1,x.2.1],.int .i64 8],fun x=>[aI 164 1 x.1 0 x.2.2.1,cY (a8 Bn) x.2.2.2.1 (x.2.2.1.map fun v=>[v]) [],aI 26 1 x.2.1 0 x.2.2.2.2.1,cY (a8 eI) x.2.2.2.2.2 (x.2.2.2.2.1.map fun v=>[v]) []]⟩) (.slice none 0 0,.slice none 0 0,[],fun _=>False,[],fun _=>False) trivial [14,15,16,17] (by decide) rfl
          · rw[if_neg c4]at j5
            repeat(first|refine GC ?_|refine gV (J (v:= .slice ZC S2.length ZD) ak.ty rfl (ah (i:=11) rfl rfl)) ?_|refine gV (eo (b:=false) rfl rfl (decide_eq_false (by omega))) ?_|refine GB ?_)
            refine ik (i:=5) rfl rfl rfl rfl rfl rfl (fun z h=>by cases h;rfl) (by omega) (by omega) rfl fun z ZA=>?_;refine zL ?_
            try refine GA ?_
            refine bR [0,1,7,8,9,10,11,12,13,2,3,4,5] ?_;exact aY (k+1,nx++[(q:Int)],S2,f2,Oe,.slice ZC S2.length ZD,ZB,F2,ZA) ⟨by show k+1<=ys.length;omega,⟨E++E2,by rw[Wl,hE,List.append_assoc]⟩,TC,by show S2.length<=200;omega,j5,Kw,hcc,by show(nx++[(q:Int)]).length=k+1;rw[List.length_append,j8];rfl,fun y hy=>(List.mem_append.1 hy).elim (j9 y) fun h=>by rw[List.mem_singleton.1 h];exact⟨by omega,by omega⟩,fun t ht=>RL t ht⟩ (by show ys.length-(k+1)<ys.length-k;omega) (hl:=by dsimp only;rw[List.length_append,List.map_append];rfl)
      · obtain rfl:k=ys.length:=by omega
        rw[List.drop_eq_nil_of_le (Nat.le_refl _),rT]at j5;rw[<-j5]at i5;dsimp only at i5
        repeat(first|refine GA ?_|refine gV (J (v:=vN) ak.ty rfl (ah (i:=6) rfl rfl)) ?_)
        refine aB (i:=12) rfl fun IM Cs=>?_;refine ik (i:=9) rfl rfl IM Cs rfl rfl (fun z h=>by cases h;rfl) (by omega) (by omega) rfl fun z vN'=>?_;refine zL ?_;refine rb (cY (a8 eI) (fun k=>G k\/vx.ownBlock=some k) ((tR.map fun v=>[v])++[[vx]]) (Nx++[nx])) 12 10 [0,1,2,3,4,5,6,7,8,9] (by decide) rfl rfl rfl (fun k hk=>hk.elim (fun h=>by cases h) fun h=>h.elim (fun h=> .inr (.inr h)) fun h=> .inl (.inl h)) (fun w hr he=>mh he (tQ j9 hr) (r7 hr)) ?_;refine zL ?_
        try refine GA ?_
        refine aB (i:=9) rfl fun kD lg=>bD (i:=6) rfl rfl rfl kD lg rfl ?_;refine zL ?_
        try refine GA ?_
        exact aY (n+1,S',Nx++[nx],f',c',UB,vN',uk,F',tR++[vx],fun k=>G k\/vx.ownBlock=some k) ⟨by show n+1<=S'.length;rw[hE,List.length_append];omega,by show(Nx++[nx]).length=n+1;rw[List.length_append,i2];rfl,j3,j4,by show pZ g.ag T N (fY g) (202-(n+1)) (n+1) (Nx++[nx]) S'=_;rw[show 202-(n+1)=201-n by omega];exact i5,j6,by dsimp only;omega,UJ⟩ (by show 202-(n+1)<202-n;omega) (hl:=by dsimp only;rw[List.length_append,List.map_append];rfl)
    · have hA:allI g.ag T N (fY g)=some (Nx,S):=by rw[<-i5,show 202-n=(201-n)+1 by omega,pZ,if_neg c1]
      rw[hA]at hO;have hO:fC g=(Nx,S,0):=hO;rw[hO];refine eN (i:=9) rfl dR fun dW=>?_;obtain⟨aN,cN,rfl,-⟩:=dW
      repeat(first|refine GA ?_|refine gV (J (v:= .slice aS S.length cS) ak.ty rfl (ah (i:=6) rfl rfl)) ?_|refine gV (aE (i:=6) ak.ty rfl rfl rfl) ?_)
      refine fU 1 (cs':=#[.slice aS S.length cS,.slice aN Nx.length cN]) ?_;refine zL ?_
      try refine GA ?_
      exact dB (i:=1) rfl rfl rfl rfl rfl fun w hm=>hm.meets (S:=⟨fun(_:Value×Value×List Value×(Nat->Prop)×List Value×(Nat->Prop))=>True,fun x=> .tuple #[.agg #[x.1,x.2.1],.int .i64 0],fun x=>[aI 164 1 x.1 S.length x.2.2.1,cY (a8 Bn) x.2.2.2.1 (x.2.2.1.map fun v=>[v]) S,aI 26 1 x.2.1 Nx.length x.2.2.2.2.1,cY (a8 eI) x.2.2.2.2.2 (x.2.2.2.2.1.map fun v=>[v]) Nx]⟩) (.slice aS S.length cS,.slice aN Nx.length cN,pz,F,tR,G) trivial [7,8,9,10] (by decide) rfl
  · rw[if_pos c0]at hO
    rw[hO]
    repeat(first|refine GC ?_|refine gV (cB (b:=true) rfl rfl (decide_eq_true c0)) ?_|refine gV (aU rfl uv) ?_|refine GB ?_)
    refine fU 1 ?_;refine zL ?_
    try refine GA ?_
    refine de 164 1 (mR (cY (a8 Bn) (fun _=>False) [] []) (fun k hk=>hk.elim (fun h=>by cases h) id) (fun w=>gZ) (de 26 1 (mR (cY (a8 eI) (fun _=>False) [] []) (fun k hk=>hk.elim (fun h=>by cases h) id) (fun w=>gZ) ?_)));exact dB (i:=1) rfl rfl rfl rfl rfl fun w hm=>hm.meets (S:=⟨fun(_:Value×Value×List Value×(Nat->Prop)×List Value×(Nat->Prop))=>True,fun x=> .tuple #[.agg #[x.1,x.2.1],.int .i64 (bM g)],fun x=>[aI 164 1 x.1 0 x.2.2.1,cY (a8 Bn) x.2.2.2.1 (x.2.2.1.map fun v=>[v]) [],aI 26 1 x.2.1 0 x.2.2.2.2.1,cY (a8 eI) x.2.2.2.2.2 (x.2.2.2.2.1.map fun v=>[v]) []]⟩) (.slice none 0 0,.slice none 0 0,[],fun _=>False,[],fun _=>False) trivial [2,3,4,5] (by decide) rfl
end bH
namespace aX
open av dg bT
section
variable{l:List av.Prod}{T N:Nat}{lk:Int->Int->Nat}{Nx:List (List Int)}{S:List (List Item)}
theorem DO{P:List Item->Prop}(hP:∀s x,(∀it∈s,cL l T it)->P s->P (eT l T lk s x)){s:List Item}(hs:∀it∈s,cL l T it)(h0:P s):∀(xs:List bY) (nx:List Int) (S:List (List Item)) (Mx:List Int) (S':List (List Item)),(∀s∈S,P s)->rT l T lk s xs nx S=some (Mx,S')->∀s∈S',P s
  | [],nx,S,Mx,S',hS,h=>by
    simp only[rT,Option.some.injEq,Prod.mk.injEq]at h;obtain⟨_,rfl⟩:=h;exact hS
  | x ::xs,nx,S,Mx,S',hS,h=>by
    rw[rT]at h
    by_cases c:200<(lL l T lk s x S).2.length
    · rw[if_pos c]at h;cases h
    · rw[if_neg c]at h
      refine DO hP hs h0 xs _ _ Mx S' ?_ h;intro s' sx;unfold lL at sx;split at sx
      · exact hS s' sx
      · unfold fm at sx
        dsimp only at sx;split at sx
        · exact hS s' sx
        · rcases List.mem_append.1 sx with h'|h'
          · exact hS s' h'
          · rw[List.mem_singleton.1 h'];exact hP s x hs h0
theorem xw{P:List Item->Prop}(hw:∀q∈l,q.2.length<=8)(hl:l.length<=40)(hT:T<=30)(hP:∀s x,(∀it∈s,cL l T it)->P s->P (eT l T lk s x)):∀(f n:Nat) (Nx:List (List Int)) (S:List (List Item)) (Ry:List (List Int)) (S':List (List Item)),(∀s∈S,P s/\∀it∈s,cL l T it)->pZ l T N lk f n Nx S=some (Ry,S')->∀s∈S',P s
  |0,_,_,_,_,_,_,h=>by cases h
  | f + 1,n,Nx,S,Ry,S',hS,h=>by
    rw[pZ]at h
    by_cases c:n<S.length
    · rw[if_pos c]at h
      have lY:S.getD n []=S[n]:=by rw[List.getD_eq_getElem?_getD,List.getElem?_eq_getElem c];rfl
      have hn:=hS _ (List.getElem_mem c);rw[<-lY]at hn
      cases e:rT l T lk (S.getD n []) (iI T N) [] S with
      |none=>rw[e]at h;cases h
      | some r=>
        obtain⟨nx,S1⟩:=r;rw[e]at h;dsimp only at h;have hQ:∀s x,(∀it∈s,cL l T it)->(P s/\∀it∈s,cL l T it)->P (eT l T lk s x)/\∀it∈eT l T lk s x,cL l T it:=fun s x h1 h2=>⟨hP s x h1 h2.1,fc hw hl hT (fS h1)⟩;exact xw hw hl hT hP f (n+1) _ S1 Ry S' (DO hQ hn.2 hn (iI T N) [] S nx S1 hS e) h
    · rw[if_neg c]at h
      simp only[Option.some.injEq,Prod.mk.injEq]at h;obtain⟨_,rfl⟩:=h;exact fun s hs=>(hS s hs).1
theorem P_(hw:∀q∈l,q.2.length<=8)(hl:l.length<=40)(hT:T<=30)(h:allI l T N lk=some (Nx,S)):∀q,q<S.length->∀it∈S.getD q [],it.1=(l.length:Int)->it.2.2=(T:Int):=by
 have OD:∀it∈ja l T lk,cL l T it:=fc hw hl hT (eb hl hT);have DK:∀{it2 it:Item},yf l T lk it2 it->it.1<(l.length:Int):=fun {it2 it} h=>by
  obtain⟨_,i,k,_,h2,_,_,_,rfl⟩:=h;show(i:Int)<_
  omega
 have:=xw (P:=fun s=>∀it∈s,it.1=(l.length:Int)->it.2.2=(T:Int)) (N:=N) hw hl hT (fun s x hs hP it hit h1=>by
  have hm:=(dV (lk:=lk) hw hl hT (fS (x:=x) hs) (x:=it)).1 hit
  cases hm with
  |base hb=>
   obtain⟨it',h2,h3,rfl⟩:=w3.1 hb;exact hP it' h2 h1
  |step _ h2=>have:=DK h2;omega) 202 0 [] [ja l T lk] Nx S (fun s hs=>by
   rw[List.mem_singleton.1 hs];refine⟨fun it hit h1=>?_,OD⟩;have hm:=(dV (lk:=lk) hw hl hT (eb hl hT) (x:=it)).1 hit
   cases hm with
   |base hb=>rw[List.mem_singleton.1 hb]
   |step _ h2=>have:=DK h2;omega) h
 intro q hq it hit h1;have lY:S.getD q []=S[q]:=by rw[List.getD_eq_getElem?_getD,List.getElem?_eq_getElem hq];rfl
 rw[lY]at hit;exact this _ (List.getElem_mem hq) it hit h1
theorem Qa(hw:∀q∈l,q.2.length<=8)(hl:l.length<=40)(hT:T<=30)(h:allI l T N lk=some (Nx,S)):∀s∈S,s.length<=11439:=
 xw (P:=fun s=>s.length<=11439) (N:=N) hw hl hT (fun s x hs _=>np hw hl hT (fS hs)) 202 0 [] [ja l T lk] Nx S (fun s hs=>by
  rw[List.mem_singleton.1 hs];exact⟨np hw hl hT (eb hl hT),fc hw hl hT (eb hl hT)⟩) h
end
end aX
namespace bH
open Go.RowKit bL db av dg b9 aX bT
theorem H7{g:df}(h:(fC g).2.2=0):bM g=0/\allI g.ag g.aJ.toNat g.aR.toNat (fY g)=some ((fC g).1,(fC g).2.1):=by
 unfold fC at h⊢
 by_cases c:bM g=0
 ·rw[if_neg (by rw[c];simp)]at h⊢
  refine⟨c,?_⟩
  cases e:allI g.ag g.aJ.toNat g.aR.toNat (fY g)with
  |none=>rw[e]at h;cases h
  |some r=>rfl
 ·rw[if_pos c]at h;exact absurd h c
theorem Qb{g:df}(h:(fC g).2.2≠0):(fC g).2.1=[]/\(fC g).1=[]:=by
 unfold fC at h⊢
 by_cases c:bM g=0
 ·rw[if_neg (by rw[c];simp)]at h⊢
  cases e:allI g.ag g.aJ.toNat g.aR.toNat (fY g)with
  |none=>exact⟨rfl,rfl⟩
  |some r=>rw[e]at h;exact absurd rfl h
 ·rw[if_pos c];exact⟨rfl,rfl⟩
end bH
namespace qz
open av dg dj b9
def DP(o:bY->Nat->Nat->Nat)(x:bY)(ki:Nat)(A:Nat->Bool):Nat->Nat->Bool
 |0,_=>false
 |k+1,b=>DP o x ki A k b||(A (ki+k)&&decide (ki+k<=b)&&decide (0<o x (ki+k) b))
def M3(p:Nat->Bool)(ki:Nat):Nat->Bool
 |0=>false
 |k+1=>M3 p ki k||p (ki+k)
def Qc(o:bY->Nat->Nat->Nat)(O:Nat->Nat->Bool)(n ki:Nat):List bY->(Nat->Bool)->Bool
 |[],A=>A n
 |x::r,A=>if A n=true then true else if x.1=2/\M3 (fun a=>A a&&O x.2.toNat a) ki (n+1-ki)=true then true else Qc o O n ki r (DP o x ki A (n+1-ki))
def Bz(o:bY->Nat->Nat->Nat)(O:Nat->Nat->Bool)(M:List Bool)(n ki:Nat)(l:List bY):Bool:=if gL M l true=true then Qc o O n ki l (fun b=>decide (b=ki))else false
section
variable{o:bY->Nat->Nat->Nat}{x:bY}{ki:Nat}{A:Nat->Bool}
theorem z6{b:Nat}:∀{k:Nat},DP o x ki A k b=true↔∃i,i<k/\A (ki+i)=true/\ki+i<=b/\0<o x (ki+i) b
  |0=>by simp[DP]
  | k +1=>by
    rw[DP,Bool.or_eq_true,z6,Bool.and_eq_true,Bool.and_eq_true,decide_eq_true_iff,decide_eq_true_iff]
    constructor
    · rintro(⟨i,h1,h2⟩|⟨⟨h1,h2⟩,h3⟩)
      · exact⟨i,by omega,h2⟩
      · exact⟨k,by omega,h1,h2,h3⟩
    · rintro⟨i,h1,h2,h3,h4⟩
      by_cases e:i=k
      · subst e;exact .inr ⟨⟨h2,h3⟩,h4⟩
      · exact .inl ⟨i,by omega,h2,h3,h4⟩
theorem DQ{p:Nat->Bool}:∀{k:Nat},M3 p ki k=true↔∃i,i<k/\p (ki+i)=true
  |0=>by simp[M3]
  | k +1=>by
    rw[M3,Bool.or_eq_true,DQ]
    constructor
    · rintro(⟨i,h1,h2⟩|h1)
      · exact⟨i,by omega,h2⟩
      · exact⟨k,by omega,h1⟩
    · rintro⟨i,h1,h2⟩
      by_cases e:i=k
      · subst e;exact .inr h2
      · exact .inl ⟨i,by omega,h2⟩
end
section
variable{w:List Int}{l:List av.Prod}{n:Nat}{c:dE}{O:Nat->Nat->Bool}
theorem xy:∀(b:List bY),(∀x∈b,∃ws,x7 l x ws)->∃ws,mu l b ws
 |[],_=>⟨[],.nil⟩
 |x::r,h=>by
  obtain⟨u,h1⟩:=h x (by simp);obtain⟨s,h2⟩:=xy r fun y hy=>h y (by simp[hy]);exact⟨u++s,.cons h1 h2⟩
theorem M4{a b:Nat}(h:a<=b):cut w a b++w.drop b=w.drop a:=by
 unfold cut;have e3:w.drop b=(w.drop a).drop (b-a):=by rw[List.drop_drop,show a+(b-a)=b by omega]
 rw[e3,List.take_append_drop]
theorem xz(hc:CI w l n c)(hs:fN n l)(hO:∀(k:Nat) a,O k a=true->a<=w.length->∃v,x7 l (2,(k:Int)) (w.drop a++v)){ki:Nat}(hf:ki<=w.length):∀(body:List bY) (A:Nat->Bool) (pre:List bY),(∀x∈body,(x.1=1\/(x.1=2/\0<=x.2/\x.2<(n:Int)))/\∃ws,x7 l x ws)->(∀b,ki<=b->b<=w.length->A b=true->mu l pre (cut w ki b))->Qc (dX c w) O w.length ki body A=true->∃v,mu l (pre++body) (w.drop ki++v)
  | [],A,pre,_,hA,h=>by
    have:=hA w.length hf (Nat.le_refl _) h;rw[AS rfl]at this;exact⟨[],by rw[List.append_nil,List.append_nil];exact this⟩
  | x ::r,A,pre,hx,hA,h=>by
    rw[Qc]at h;split at h
    · rename_i h1
      have h2:=hA w.length hf (Nat.le_refl _) h1;rw[AS rfl]at h2;obtain⟨ws,h3⟩:=xy (x::r) fun y hy=>(hx y hy).2;exact⟨ws,h2.E_ h3⟩
    · split at h
      · rename_i h1
        obtain⟨h1,h2⟩:=h1;obtain⟨i,h3,h4⟩:=DQ.1 h2;rw[Bool.and_eq_true]at h4;have hk:=((hx x (by simp)).1.resolve_left (by omega)).2;obtain⟨v,h5⟩:=hO _ _ h4.2 (by omega);obtain⟨x1,x2⟩:=x;dsimp only at h1 hk h5;subst h1;rw[Int.toNat_of_nonneg hk.1]at h5;obtain⟨ws,h6⟩:=xy r fun y hy=>(hx y (by simp[hy])).2;refine⟨v++ws,?_⟩;have h7:=(hA (ki+i) (by omega) (by omega) h4.1).E_ (mu.cons h5 h6);rw[List.append_assoc (w.drop (ki+i)),<-List.append_assoc (cut w ki (ki+i)),M4 (by omega)]at h7;exact h7
      · obtain⟨v,h1⟩:=xz hc hs hO hf r _ (pre++[x]) (fun y hy=>hx y (by simp[hy])) (fun b ya La hb=>by
          obtain⟨i,h3,h4,h5,h6⟩:=z6.1 hb;rw[<-pw (by omega:ki<=ki+i) h5];exact(hA _ (by omega) (by omega) h4).E_ (LU (Fa hc hs (hx x (by simp)).1 h5 La h6))) h
        exact⟨v,by rw[List.append_assoc]at h1;exact h1⟩
theorem BA{M:List Bool}(hM:∀i:Nat,M.getD i false=true->∃ws,x7 l (2,(i:Int)) ws)(hc:CI w l n c)(hs:fN n l)(hO:∀(k:Nat) a,O k a=true->a<=w.length->∃v,x7 l (2,(k:Int)) (w.drop a++v)){ki:Nat}(hf:ki<=w.length){body:List bY}(hx:∀x∈body,x.1=1\/(x.1=2/\0<=x.2/\x.2<(n:Int)))(h:Bz (dX c w) O M w.length ki body=true):∃v,mu l body (w.drop ki++v):=by
  unfold Bz at h;split at h
  · rename_i hm
    refine xz hc hs hO hf body _ [] (fun x hb=>⟨hx x hb,?_⟩) (fun b _ _ hb=>?_) h
    · unfold gL at hm
      have:=List.all_eq_true.1 hm x hb;rcases hx x hb with c1|⟨c1,c2,_⟩
      · exact⟨_,.sO c1⟩
      · rw[if_neg (by omega),if_pos c1]at this
        obtain⟨ws,hw⟩:=hM _ this;obtain⟨x1,x2⟩:=x;dsimp only at c1 c2 hw;subst c1;rw[Int.toNat_of_nonneg c2]at hw;exact⟨ws,hw⟩
    · have:b=ki:=by simpa using hb
      subst this;rw[wC];exact .nil
  · cases h
end
end qz
namespace av
abbrev Tx:=List UInt8
def dec(n:Nat):Tx:=if n<10 then [UInt8.ofNat (48+n)]else [UInt8.ofNat (48+n/10),UInt8.ofNat (48+n %10)]
def pM(c:UInt8):Tx->Tx×Tx×Bool
 |[]=>([],[],false)
 |b::r=>if b=c then([],r,true)else(b::(pM c r).1,(pM c r).2.1,(pM c r).2.2)
def M5(x:bY):Tx:=32::(if x.1=1 then 116 else 110)::dec x.2.toNat
theorem Qd(n:Nat):0<(dec n).length/\(dec n).length<=2:=by unfold dec;split<;>simp
theorem pw{c:UInt8}:∀{a:Tx} (b:Tx),(∀x∈a,x≠c)->pM c (a++c::b)=(a,b,true)
 |[],b,_=>by rw[List.nil_append,pM,if_pos rfl]
 |x::a,b,h=>by
  rw[List.cons_append,pM,if_neg (h x (List.mem_cons_self ..)),pw b fun y hy=>h y (List.mem_cons_of_mem _ hy)]
theorem M6{c:UInt8}:∀{s:Tx},(pM c s).2.2=true->s=(pM c s).1++c::(pM c s).2.1
  |[],h=>by cases h
  | b ::r,h=>by
    rw[pM]at h⊢;split at h
    · rename_i e;rw[if_pos e,e];rfl
    · rename_i e
      rw[if_neg e];show b::r=b::((pM c r).1++c::(pM c r).2.1)
      rw[<-M6 (s:=r) h]
theorem Hq{c:UInt8}{s:Tx}(h:(pM c s).2.2=true):(pM c s).1.length+(pM c s).2.1.length+1=s.length:=by
 have:=congrArg List.length (M6 h);rw[List.length_append,List.length_cons]at this;omega
theorem Qf(x:bY):0<(M5 x).length/\(M5 x).length<=4:=by have:=Qd x.2.toNat;unfold M5;simp;omega
theorem rU:∀l:List bY,l.length<=(l.flatMap M5).length/\(l.flatMap M5).length<=4*l.length
 |[]=>⟨Nat.le_refl _,Nat.le_refl _⟩
 |x::l=>by
  have h1:=Qf x;have h2:=rU l;rw[List.flatMap_cons,List.length_append,List.length_cons];omega
end av
namespace iK
open bO d_
open av (pM pw)
abbrev Bs:=List UInt8
abbrev Wd:=Bs×Rx
abbrev Rl:=Bs×List Bs
structure Sp where
 words:List Wd
 rules:List Rl
def p7(b:UInt8):Bool:=decide (97<=b.toNat)&&decide (b.toNat<=122)
def nt(s:Bs):Bool:=decide (s≠[])&&decide (s.length<=12)&&s.all p7
def ig:List Wd->List Bs->Int×List Bs
 |[],of=>(0,of)
 |w::r,of=>if w.1≠[]/\nt w.1=false then(1,of)else if bH.Ll w.2≠0 then(bH.Ll w.2,of)else if w.1∈of then(11,of)else ig r (if w.1=[]then of else of++[w.1])
def l8:List Rl->List Bs->Int
 |[],_=>0
 |r::l,of=>if nt r.1=false then 1 else if r.1∈of then 11 else l8 l of
def ta(of hd:List Bs)(l:List Bs):Bool:=l.all fun x=>decide (x∈of)||decide (x∈hd)
def mE(of hd:List Bs)(l:List Rl):Bool:=l.all fun r=>ta of hd r.2
def kY(s:Sp):Int:=
 if 60<s.words.length\/60<s.words.length+s.rules.length then 2
 else if(ig s.words []).1≠0 then(ig s.words []).1
 else if l8 s.rules (ig s.words []).2≠0 then l8 s.rules (ig s.words []).2
 else if mE (ig s.words []).2 (s.rules.map (·.1)) s.rules=true then 0 else 11
end iK
namespace bH
open Go.RowKit bL db bO d_ iK
def sb:qQ Wd:=Le IP qk
def z7:qQ Rl:=Le IP (a8 IP)
def bsC(s:Bs):List Value:=[str s]
theorem H8(s:Bs):(bsC s).length=1:=rfl
def M7(F:Nat->Prop)(w:World)(v:Value)(s:Sp):Prop:=∃vw vr,v= .agg #[vw,vr]/\gI sb F w vw s.words/\gI z7 F w vr s.rules
theorem M8{α:Type}{s:qQ α}{w w':World}{v:Value}{l:List α}(h:gI s (mU w) w v l)(hg:Gr w w'):gI s (mU w') w' v l:=
 (h.stay fun k hk=>hg.block k hk).mono fun _ hk=>Nat.lt_of_lt_of_le hk hg.size
theorem M7.gr{w w':World}{v:Value}{s:Sp}(h:M7 (mU w) w v s)(hg:Gr w w'):M7 (mU w') w' v s:=by
 obtain⟨vw,vr,h1,h2,h3⟩:=h;exact⟨vw,vr,h1,M8 h2 hg,M8 h3 hg⟩
def qS(n:Bs)(k:Int)(c:C4)(v:Value):List Value:=str n::iP k c v
theorem Gb{n:Bs}{k:Int}{c:C4}{vk:Value}{j:Nat}{v:Value}(h:(iP k c vk)[j]?=some v):(qS n k c vk).toArray[0+1+j]?=some v:=by
 rw[List.getElem?_toArray,Nat.zero_add,Nat.add_comm];exact h
theorem H9{F:Nat->Prop}{w:World}{b off:Nat}{l:List Wd}(h:∀i (h:i<l.length),∃cs,sb.is F w cs l[i]/\Rd w b (off+i*sb.c) cs){k:Nat}(hk:k<l.length):
 ∃base cap,Rd w b (off+k*7) (qS l[k].1 l[k].2.kind l[k].2.nU (.slice base l[k].2.kids.length cap))/\jW F w (lR l[k].2.kind l[k].2.nU (.slice base l[k].2.kids.length cap)) l[k].2/\l[k].1.length<=9223372036854775807:=by
 obtain⟨cs,⟨c1,c2,rfl,⟨rfl,h1⟩,h2⟩,h3⟩:=h k hk;have h2:gj F w c2 l[k].2:=h2;have h4:=h2.r;obtain⟨vk,e,-,hs⟩:=h4;obtain⟨base,cap,rfl,-⟩:=hs;have e2:c2=iP l[k].2.kind l[k].2.nU (.slice base l[k].2.kids.length cap):=by
  unfold lR at e;simp only[Value.agg.injEq]at e
  simpa using congrArg Array.toList e
 subst e2;exact⟨base,cap,h3,h2.r,h1⟩
theorem uQ{F:Nat->Prop}{w:World}{b off:Nat}{l:List Rl}(h:∀i (h:i<l.length),∃cs,z7.is F w cs l[i]/\Rd w b (off+i*z7.c) cs){k:Nat}(hk:k<l.length):
 ∃base cap,Rd w b (off+k*2) [str l[k].1,.slice base l[k].2.length cap]/\gI IP F w (.slice base l[k].2.length cap) l[k].2/\l[k].1.length<=9223372036854775807:=by
 obtain⟨cs,⟨c1,c2,rfl,⟨rfl,h1⟩,v,rfl,hs⟩,h3⟩:=h k hk;have OD:=hs;obtain⟨base,cap,rfl,-⟩:=hs;exact⟨base,cap,h3,OD,h1⟩
theorem J4{b:UInt8}{r:Bs}:(b::r).all p7=(p7 b&&r.all p7):=rfl
theorem z8{b:UInt8}:p7 b=true↔¬((b.toNat:Int)<97)/\¬((b.toNat:Int)>122):=by
 unfold p7;simp only[Bool.and_eq_true,decide_eq_true_eq];omega
theorem tS(s:Bs)(w:World):Calls Tryz.prog 22 #[str s] w (bU (ret (.bool (nt s))) w):=by
  refine enter (args:=[str s]) (n:=27) Tryz.func22 rfl rfl rfl ?_
  try refine GA ?_
  by_cases c0:s=[]
  · subst c0
    repeat(first|refine GC ?_|refine gV (nR (b:=true) rfl rfl rfl) ?_|refine GB ?_)
    exact dh rfl rfl rfl
  by_cases c1:12<s.length
  · repeat(first|refine GC ?_|refine gV (nR (b:=false) rfl rfl (decide_eq_false c0)) ?_|refine GB ?_)
    exact dh rfl rfl (by unfold nt;rw[decide_eq_false (show ¬s.length<=12 by omega)];simp)
  have hB:nt s=s.all p7:=by unfold nt;rw[decide_eq_true c0,decide_eq_true (show s.length<=12 by omega)];rfl
  repeat(first|refine GC ?_|refine gV (nR (b:=false) rfl rfl (decide_eq_false c0)) ?_|refine GB ?_)
  refine cX (ι:=Nat) (fun k=>k<=s.length/\(s.drop k).all p7=s.all p7) (fun k=>[(0,str s),(12,.int .i64 s.length),(13,.int .i64 (k:Int))]) (fun _=>[]) (fun k=>s.length-k) 0 ⟨Nat.zero_le _,rfl⟩ ?_;rintro k ⟨i1,i2⟩
  by_cases c2:k<s.length
  · rw[List.drop_eq_getElem_cons c2,J4]at i2
    have hk:=List.getElem?_eq_getElem c2;rw[hB];generalize s[k]=b at*
    cases hb:p7 b with
    | true=>
      obtain⟨b1,b2⟩:=z8.1 hb;rw[hb,Bool.true_and]at i2
      repeat(first|refine GA ?_|refine gV (sw (b:=b) aT.eq rfl rfl (by omega) hk) ?_)
      exact aY (k+1) ⟨by omega,i2⟩ (by show s.length-(k+1)<s.length-k;omega)
    | false=>
      rw[hb,Bool.false_and]at i2;rw[<-i2]
      by_cases b1:(b.toNat:Int)<97
      · repeat(first|refine GA ?_|refine gV (sw (b:=b) aT.eq rfl rfl (by omega) hk) ?_)
        exact dh rfl rfl rfl
      · have b2:(b.toNat:Int)>122:=by
          by_cases b2:(b.toNat:Int)>122
          · exact b2
          · rw[z8.2 ⟨b1,b2⟩]at hb;cases hb
        repeat(first|refine GA ?_|refine gV (sw (b:=b) aT.eq rfl rfl (by omega) hk) ?_)
        exact dh rfl rfl rfl
  · have e:k=s.length:=by omega
    subst e;rw[List.drop_length]at i2;rw[hB,<-i2]
    try refine GA ?_
    exact dh rfl rfl rfl
def KeysOf(m:Bs->Option Value)(of:List Bs):Prop:=∀y,(m y).isSome=decide (y∈of)
theorem mF{m:Bs->Option Value}{of:List Bs}{y:Bs}{v:Value}(h:KeysOf m of)(e:m y=some v):y∈of:=by
 have:=h y;rw[e]at this;exact of_decide_eq_true this.symm
theorem mG{m:Bs->Option Value}{of:List Bs}{y:Bs}(h:KeysOf m of)(e:m y=none):y∉of:=by
 have:=h y;rw[e]at this;exact of_decide_eq_false this.symm
theorem DR{m:Bs->Option Value}{of:List Bs}{x:Bs}{v:Value}(h:KeysOf m of):KeysOf (fun y=>if y=x then some v else m y) (of++[x]):=fun y=>by
 by_cases e:y=x
 ·subst e;simp
 ·dsimp only
  rw[if_neg e,h y];simp[e]
theorem ef(w:World):(zeroValue 3).run Tryz.prog w= .ok (.int .i64 0) w:=by kernel_rfl
def nu(gm:Nat)(r:Int×List Bs):Spec ((Bs->Option Value)×Nat):=⟨fun x=>KeysOf x.1 r.2/\x.2<=60,fun _=> .int .i64 r.1,fun x=>[dr eB gm x.1 x.2]⟩
theorem DS(vw vr:Value)(l:List Wd)(gm:Nat)(w0:World)(hw:gI sb (mU w0) w0 vw l)(hl:l.length<=60)(w:World)(B:bB)(ho:lc w0 B)(hm:Mem B [dr eB gm (fun _=>none) 0] w):
    Calls Tryz.prog 21 #[.agg #[vw,vr],.map (some gm)] w (dc (nu gm (ig l [])) B):=by
  obtain⟨bw,cw,rfl,-,-,eV⟩:=hw;have ZE:=fun s w=>tS s w;refine eg hm (args:=[.agg #[.slice bw l.length cw,vr],.map (some gm)]) (n:=49) Tryz.func21 rfl rfl rfl ?_;refine bJ (aV (bK rfl rfl rfl fun g2=>?_));refine zL ?_
  repeat(first|refine GA ?_|refine gV (J (v:= .slice bw l.length cw) ak.ty rfl (ah (i:=1) rfl rfl)) ?_)
  refine pI [0] ?_;generalize jh:ig l []=fin;refine cX (ι:=Nat×List Bs×(Bs->Option Value)×Nat) (fun(k,of,m,n)=>k<=l.length/\n<=k/\KeysOf m of/\ig (l.drop k) of=fin) (fun(k,_,_,_)=>[(1,.map (some gm)),(11,.slice bw l.length cw),(12,.int .i64 l.length),(13,.int .i64 (k:Int))]) (fun(_,_,m,n)=>[dr eB gm m n]) (fun(k,_)=>l.length-k) (0,[],fun _=>none,0) ⟨Nat.zero_le _,Nat.le_refl _,fun y=>rfl,jh⟩ ?_;clear hm jh;rintro⟨k,of,m,n⟩ ⟨i1,i2,i3,i4⟩;dsimp only at i1 i2 i3 i4⊢
  by_cases c1:k<l.length
  · obtain⟨b,off,rfl,_,hr⟩:=eV (by omega)
    obtain⟨bk,ck,q1,q2,q3⟩:=H9 hr c1;rw[List.drop_eq_getElem_cons c1,ig]at i4;have du:∀(L:List bz) (j:Nat) (u:Value),(qS l[k].1 l[k].2.kind l[k].2.nU (.slice bk l[k].2.kids.length ck))[j]?=some u->At B L ⟨b,off+k*7+j,none⟩ u:=fun L j u hj=>fI ho (q1 j u hj);have gD:=fun w' (hg:Gr w0 w')=>nZ _ _ w' (q2.gr hg);clear hr eV q1 q2;generalize l[k]=wd at*;obtain⟨nm,r⟩:=wd;dsimp only at*;generalize Ll r=er at*;generalize r.kind=rk at*;generalize r.nU=rc at*;generalize r.kids.length=rn at*
    repeat(first|refine GA ?_|refine gV (aH aT.eq ak.ty rfl rfl c1) ?_|refine gV (aK (cs:=qS nm rk rc (.slice bk rn ck)) ak.ty rfl rfl (du _)) ?_)
    clear du;refine aF rfl fun g6=>?_;refine zL ?_
    try refine GA ?_
    refine fU 1 (cs':=(qS nm rk rc (.slice bk rn ck)).toArray) ?_;refine zL ?_
    repeat(first|refine GA ?_|refine gV (J (v:=str nm) ak.ty rfl (ah (i:=1) rfl rfl)) ?_)
    by_cases e0:nm=[]
    · subst e0
      rw[if_neg (fun h=>h.1 rfl)]at i4
      repeat(first|refine GC ?_|refine gV (qX (b:=false) rfl rfl rfl) ?_|refine gV (aK (cs:=iP rk rc (.slice bk rn ck)) ak.ty rfl rfl (fun j v hj=>ah (i:=1) rfl (Gb hj))) ?_|refine GB ?_)
      refine aM (iT aj.en rfl rfl) (fun w hm=>gD _ (ho.mem hm)) rfl rfl rfl ?_;intro _ _;refine zL ?_
      by_cases e1:er=0
      · subst e1
        rw[if_neg (by simp)]at i4
        repeat(first|refine GA ?_|refine gV (J (v:=str []) ak.ty rfl (ah (i:=1) rfl rfl)) ?_)
        cases tN:m []with
        | some v=>
          have Ex:=mF i3 tN;rw[if_pos Ex]at i4
          repeat(first|refine GA ?_|refine gV (J (v:=str []) ak.ty rfl (ah (i:=1) rfl rfl)) ?_|refine gV (fL eB (x:=([]:Bs)) aT.eq ef (i:=0) rfl rfl rfl q3 tN) ?_)
          subst i4;exact b_ rfl rfl fun w hm=>hm.bV (S:=nu gm _) (m,n) ⟨i3,by show n<=60;omega⟩ [0] (by decide) rfl
        | none=>
          have Ex:=mG i3 tN;rw[if_neg Ex,if_pos rfl]at i4
          repeat(first|refine GC ?_|refine gV (J (v:=str []) ak.ty rfl (ah (i:=1) rfl rfl)) ?_|refine gV (fM eB (x:=([]:Bs)) aT.eq ef (i:=0) rfl rfl rfl q3 tN) ?_|refine gV (qX (b:=false) rfl rfl rfl) ?_|refine GB ?_)
          refine bR [0] ?_;exact aY (k+1,of,m,n) ⟨by omega,by show n<=k+1;omega,i3,i4⟩ (by show l.length-(k+1)<l.length-k;omega)
      · rw[if_pos e1]at i4
        repeat(first|refine GC ?_|refine gV (cB (b:=true) rfl rfl (decide_eq_true e1)) ?_|refine GB ?_)
        subst i4;exact b_ rfl rfl fun w hm=>hm.bV (S:=nu gm _) (m,n) ⟨i3,by show n<=60;omega⟩ [0] (by decide) rfl
    · repeat(first|refine GC ?_|refine gV (qX (b:=true) rfl rfl (decide_eq_true e0)) ?_|refine gV (J (v:=str nm) ak.ty rfl (ah (i:=1) rfl rfl)) ?_|refine GB ?_)
      refine me (iT aj.en rfl rfl) (fun w hm=>ZE nm w) rfl rfl rfl rfl rfl ?_;intro _ _;refine zL ?_
      cases hb:nt nm with
      | false=>
        rw[if_pos ⟨e0,hb⟩]at i4
        try refine GA ?_
        subst i4;exact b_ rfl rfl fun w hm=>hm.bV (S:=nu gm _) (m,n) ⟨i3,by show n<=60;omega⟩ [0] (by decide) rfl
      | true=>
        rw[if_neg (fun h=>by rw[hb]at h;cases h.2)]at i4
        repeat(first|refine GA ?_|refine gV (aK (cs:=iP rk rc (.slice bk rn ck)) ak.ty rfl rfl (fun j v hj=>ah (i:=1) rfl (Gb hj))) ?_)
        refine aM (iT aj.en rfl rfl) (fun w hm=>gD _ (ho.mem hm)) rfl rfl rfl ?_;intro _ _;refine zL ?_
        by_cases e1:er=0
        · subst e1
          rw[if_neg (by simp)]at i4
          repeat(first|refine GA ?_|refine gV (J (v:=str nm) ak.ty rfl (ah (i:=1) rfl rfl)) ?_)
          cases tN:m nm with
          | some v=>
            have Ex:=mF i3 tN;rw[if_pos Ex]at i4
            repeat(first|refine GA ?_|refine gV (J (v:=str nm) ak.ty rfl (ah (i:=1) rfl rfl)) ?_|refine gV (fL eB (x:=nm) aT.eq ef (i:=0) rfl rfl rfl q3 tN) ?_)
            subst i4;exact b_ rfl rfl fun w hm=>hm.bV (S:=nu gm _) (m,n) ⟨i3,by show n<=60;omega⟩ [0] (by decide) rfl
          | none=>
            have Ex:=mG i3 tN;rw[if_neg Ex,if_neg e0]at i4
            repeat(first|refine GC ?_|refine gV (J (v:=str nm) ak.ty rfl (ah (i:=1) rfl rfl)) ?_|refine gV (fM eB (x:=nm) aT.eq ef (i:=0) rfl rfl rfl q3 tN) ?_|refine gV (qX (b:=true) rfl rfl (decide_eq_true e0)) ?_|refine GB ?_)
            refine iF (i:=0) (x:=nm) (v:= .int .i64 (k:Int)) eB aT.eq rfl rfl rfl rfl q3 (by omega) ?_;refine zL ?_
            try refine GA ?_
            refine bR [0] ?_;exact eZ (k+1,of++[nm],_,_) ⟨by omega,by rw[tN];show n+1<=k+1;omega,DR i3,i4⟩ (by show l.length-(k+1)<l.length-k;omega) (by repeat' (first|exact True.intro|refine And.intro rfl ?_)) rfl
        · rw[if_pos e1]at i4
          repeat(first|refine GC ?_|refine gV (cB (b:=true) rfl rfl (decide_eq_true e1)) ?_|refine GB ?_)
          subst i4;exact b_ rfl rfl fun w hm=>hm.bV (S:=nu gm _) (m,n) ⟨i3,by show n<=60;omega⟩ [0] (by decide) rfl
  · obtain rfl:k=l.length:=by omega
    rw[List.drop_length]at i4
    try refine GA ?_
    subst i4;exact b_ rfl rfl fun w hm=>hm.bV (S:=nu gm _) (m,n) ⟨i3,by show n<=60;omega⟩ [0] (by decide) rfl
end bH
namespace bH
open Go.RowKit bL db av
theorem DT(k q:Int)(w:World):(Instr.build 128 #[(0,.int .i64 k),(1,.int .i64 q)]).run Tryz.prog w= .ok (.agg #[.int .i64 k,.int .i64 q]) w:=by
 go_simp
end bH
namespace bH
open Go.RowKit bL db rl bT
def sc(R:List Row)(tags:List Int):List Row:=if jc R tags=0 then(lq (dA R tags) (cz (dA R tags))).2 else []
def sd(R:List Row)(tags:List Int):List Int:=if jc R tags=0 then(lq (dA R tags) (cz (dA R tags))).1.map (dA R tags).tag else []
theorem H_{R:List Row}{tags:List Int}(h:jc R tags=0):(sc R tags).length=(sd R tags).length/\(sc R tags).length=(FV (dA R tags)).n:=by
 obtain⟨hA,_⟩:=oQ h;have:=(FW (bl:=cz (dA R tags)) hA).2.len;unfold sc sd;rw[if_pos h,if_pos h,List.length_map];exact⟨this,this⟩
theorem Qg{R:List Row}{tags:List Int}(h:jc R tags=0):dA (sc R tags) (sd R tags)=FV (dA R tags):=by
 have hl:=(H_ h).2;have e1:sc R tags=(lq (dA R tags) (cz (dA R tags))).2:=if_pos h;have e2:sd R tags=(lq (dA R tags) (cz (dA R tags))).1.map (dA R tags).tag:=if_pos h;show n'.mk (sc R tags).length _ _=_
 rw[hl];rw[e1,e2];rfl
theorem H'{R:List Row}{tags:List Int}(h:jc R tags=0):jc (sc R tags) (sd R tags)=0:=by
 refine Br ?_ (H_ h).1.symm;rw[Qg h];exact PO (oQ h).1
def oY(bl:Nat->Nat)(Q:List Nat)(b:Nat):Int:=if b∈Q.map bl then(idx (Q.map bl) b:Int)+1 else 0
theorem M9{bl:Nat->Nat}{Q:List Nat}{q:Nat}(hn:bl q∉Q.map bl)(b:Nat):oY bl (Q++[q]) b=if b=bl q then(Q.length:Int)+1 else oY bl Q b:=by
 unfold oY;rw[List.map_append,List.map_singleton]
 by_cases c:b=bl q
 ·subst c
  rw[if_pos (by simp),if_pos rfl];have:=mj (D:=Q.map bl) (k:=bl q);unfold more at this;rw[if_neg hn,if_neg hn]at this;rw[this,List.length_map]
 ·rw[if_neg c]
  by_cases c2:b∈Q.map bl
  ·rw[if_pos c2,if_pos (List.mem_append_left _ c2),lB c2]
  ·rw[if_neg c2,if_neg]
   rw[List.mem_append,List.mem_singleton];rintro(h|h)
   ·exact c2 h
   ·exact c h
def tb(l:List Int):Row:=Vector.ofFn fun b:Fin 256=>if b<l.length then l.getD b 0 else-1
theorem M_:tb []=Vector.replicate 256 (-1):=by
 refine Vector.ext fun j hj=>?_;unfold tb;simp
theorem Na{l:List Int}(h:l.length=256):tb l=vec l:=by
 refine Vector.ext fun j hj=>?_;unfold tb vec;simp[h,hj]
theorem xA(l:List Int)(x:Int)(h:l.length<256):(tb l).set l.length x=tb (l++[x]):=by
 refine Vector.ext fun j hj=>?_;unfold tb;rw[Vector.getElem_set,Vector.getElem_ofFn,Vector.getElem_ofFn];simp only[List.length_append,List.length_singleton];split
 ·rename_i e;subst e
  rw[if_pos (by omega),iy (Nat.le_refl _),Nat.sub_self];rfl
 ·by_cases c:j<l.length
  ·rw[if_pos c,if_pos (by omega),fy c]
  ·rw[if_neg c,if_neg (by omega)]
theorem J5(l:List Int)(h:l.length<256):tb (l++[-1])=tb l:=by
 rw[<-xA l (-1) h];refine Vector.ext fun j hj=>?_;rw[Vector.getElem_set];split
 ·rename_i e;subst e;unfold tb;simp
 ·rfl
structure Nb(R:List Row)(tags:List Int)(f n:Nat)(Q:List Nat)(out:List Row):Prop where
 eq:lq (dA R tags) (cz (dA R tags))=p6 (dA R tags) (cz (dA R tags)) f n Q out
 ok:JR (dA R tags) (cz (dA R tags)) Q
 outs:JS (dA R tags) (cz (dA R tags)) n Q out
 fuel:(dA R tags).n+1<=f+n
theorem Wm{R:List Row}{tags:List Int}(hA:(dA R tags).Ok):Nb R tags (R.length+1) 0 [0] []:=⟨rfl,V6 hA,⟨rfl,Nat.zero_le _,fun k hk=>by omega⟩,Nat.le_refl _⟩
theorem J6{R:List Row}{tags:List Int}(hA:(dA R tags).Ok){f n:Nat}{Q:List Nat}{out:List Row}(h:Nb R tags f n Q out)(hn:n<Q.length):∃f',f=f'+1/\Nb R tags f' (n+1) (hU (dA R tags) (cz (dA R tags)) (Q.getD n 0) Q 256).1 (out++[vec (hU (dA R tags) (cz (dA R tags)) (Q.getD n 0) Q 256).2]):=by
 have h1:=h.ok.len;have h2:=h.fuel;obtain⟨f',rfl⟩:∃f',f=f'+1:=⟨f-1,by omega⟩;have e:=h.eq;unfold p6 at e;rw[if_pos hn]at e;exact⟨f',rfl,e,uN hA h.ok (h.ok.lt _ (r8 hn)) 256 (Nat.le_refl _),zR hA h.outs hn,by omega⟩
theorem Nc{R:List Row}{tags:List Int}{f n:Nat}{Q:List Nat}{out:List Row}(h:Nb R tags f n Q out)(hn:¬n<Q.length):lq (dA R tags) (cz (dA R tags))=(Q,out)/\n=Q.length:=by
 have h1:=h.outs.le;refine⟨?_,by omega⟩;rw[h.eq]
 cases f with
 |zero=>rfl
 |succ f=>unfold p6;rw[if_neg hn]
def Qh(R:List Row)(tags:List Int):Spec (Value×Value):=⟨fun _=>True,fun x=> .tuple #[eS x.1 x.2,.int .i64 (jc R tags)],fun x=>[aI 150 256 x.1 (sc R tags).length ((sc R tags).flatMap cZ),aI 3 1 x.2 (sd R tags).length ((sd R tags).flatMap bL.dK)]⟩
theorem Gc(w:World):(Instr.build 98 #[]).run Tryz.prog w= .ok (eS (.slice none 0 0) (.slice none 0 0)) w:=by kernel_rfl
set_option maxRecDepth 100000 in
theorem yq(vr vt:Value)(R:List Row)(tags:List Int)(w:World)(h:yi w vr vt R tags):
    Calls Tryz.prog 26 #[eS vr vt] w (bU (Qh R tags) w):=by
  have gD:=fun w' (hg:Gr w w')=>xj vr vt R tags w' (h.gr hg);have IW:=fun w' (hg:Gr w w') hc=>Bu vr vt R tags w' (h.gr hg) hc;obtain⟨bt,ct,rfl,Xr,OT,EW⟩:=h.hT;obtain⟨br,cr,rfl,EV,l_,yY⟩:=h.hR;have Qi:=h.Tk;unfold maxLen at l_ OT;clear h
  by_cases hc:jc R tags=0
  · obtain⟨hA,hlt⟩:=oQ hc
    have ZF:=I3 hA;have en:(dA R tags).n=R.length:=rfl;have yj:0<R.length:=hA.pos;have hle:R.length<=200:=hA.le;obtain⟨b,off,rfl,hr⟩:=yY yj;obtain⟨bb,uO,rfl,hrt⟩:=EW (by omega);clear yY EW;unfold Qh;have er:sc R tags=(lq (dA R tags) (cz (dA R tags))).2:=if_pos hc;have et:sd R tags=(lq (dA R tags) (cz (dA R tags))).1.map (dA R tags).tag:=if_pos hc;rw[er,et];clear er et;have Wn:=ZF.le 0 yj;rw[en]at Wn;rw[hc]at gD⊢;refine enter (args:=[eS (.slice (some ⟨b,off,none⟩) R.length cr) (.slice (some ⟨bb,uO,none⟩) tags.length ct)]) (n:=113) Tryz.func26 rfl rfl rfl ?_;refine bJ (aV (bK rfl rfl rfl fun g1=>?_));refine aF rfl fun g2=>?_;refine zL ?_
    repeat(first|refine GA ?_|refine gV (J ak.ty rfl (ah (i:=0) rfl rfl)) ?_|refine gV (aE (i:=0) ak.ty rfl rfl rfl) ?_)
    refine aM (iT aj.en rfl rfl) (fun w hm=>gD _ hm.below) rfl rfl rfl ?_;intro _ _
    repeat(first|refine GA ?_|refine gV (aE (i:=0) ak.ty rfl rfl rfl) ?_)
    refine aM (iT aj.en rfl rfl) (fun w hm=>IW _ hm.below hc) rfl rfl rfl ?_;intro g5 _;refine zL ?_
    repeat(first|refine GA ?_|refine gV (J ak.ty rfl (ah (i:=0) rfl rfl)) ?_)
    refine kH (m:=R.length+1) ie 0 (by rfl) (by rfl) (by omega) (by omega) rfl fun g6=>?_;refine zL ?_
    try refine GA ?_
    refine aF rfl fun g7=>?_;refine zL ?_
    try refine GA ?_
    refine fj rfl rfl rfl rfl rfl fun g8=>?_;refine zL ?_;refine Cf (i:=5) (m:=1) 1 rfl rfl (by decide) ?_;refine zL ?_
    repeat(first|refine GA ?_|refine gV (aO (j:=0) aT.eq ak.ty rfl rfl yj) ?_|refine gV (J ak.ty rfl (dQ (i:=2) rfl yj)) ?_|refine gV (aO (j:=cz (dA R tags) 0) aT.eq ak.ty rfl rfl (by omega)) ?_)
    refine eX (i:=3) (off:=cz (dA R tags) 0) (v:=1) (oY (cz (dA R tags)) [0]) ak.ty rfl rfl rfl rfl rfl (by omega) (fun j hj=>?_) ?_
    · by_cases e:j=cz (dA R tags) 0
      · subst e;simp[oY,idx]
      · rw[if_neg e];unfold oY;rw[if_neg (by simpa using e)]
    refine zL ?_
    try refine GA ?_
    refine h_ 150 256 ?_;refine h_ 3 1 ?_
    conv=>arg 7;simp only[zA,zB,zC,zD,zE,zF,zG,zH,zI,bW,ret,id_eq]
    have ql:=Wm (tags:=tags) hA;have jh:=fun f n Q out=>@Nc R tags f n Q out;have jl:=fun f n Q out=>@J6 R tags hA f n Q out;have ZG:=ZF.le;clear Wn ZF IW gD;generalize ZH:cz (dA R tags)=jd at*;refine cX (ι:=Nat×Nat×List Nat×List Row×Value×Value×Value) (fun(f,n,Q,out,_)=>Nb R tags f n Q out) (fun(_,n,_,_,vQ,_,_)=>[(1,.pointer (some ⟨g1,0,none⟩)),(2,.pointer (some ⟨g2,0,none⟩)),(5,.slice (some ⟨g5,0,none⟩) R.length R.length),(6,.slice (some ⟨g6,0,none⟩) (R.length+1) (R.length+1)),(7,.pointer (some ⟨g7,0,none⟩)),(8,vQ),(9,.int .i64 (n:Int))])
      (fun(_,n,Q,out,vQ,vR,vT)=>[ap g1 (eS (.slice (some ⟨b,off,none⟩) R.length cr) (.slice (some ⟨bb,uO,none⟩) tags.length ct)).cells 98,ap g2 (eS (.slice none 0 0) (.slice none 0 0)).cells 98,dC 3 ie g5 R.length fun i=>(jd i:Int),dC 3 ie g6 (R.length+1) (oY jd Q),ap g7 (eS vR vT).cells 98,aI 3 1 vQ Q.length (Q.map fun q:Nat=>ie q),aI 150 256 vR out.length (out.flatMap cZ),aI 3 1 vT n (((Q.take n).map (dA R tags).tag).flatMap bL.dK)]) (fun(f,_)=>f) (R.length+1,0,[0],[],.slice (some ⟨g8,0,none⟩) 1 1,.slice none 0 0,.slice none 0 0) ql ?_
    rintro⟨f,n,Q,out,vQ,vR,vT⟩ hw;dsimp only at hw⊢;have hQ:=hw.ok;have hQl:=hQ.len;have aaI:=hw.outs.len;rw[ZH]at hQ;rw[en]at hQl
    by_cases c1:n<Q.length
    · obtain⟨f',rfl,nJ⟩:=jl _ _ _ _ hw c1
      have hq:=hQ.lt _ (r8 c1);have hqc:(Q.map fun q:Nat=>ie q)[0+n]?=some (ie (Q.getD n 0)):=by rw[Nat.zero_add,List.getElem?_map,List.getD_eq_getElem?_getD,List.getElem?_eq_getElem c1];rfl
      rw[en]at hq;have mb:=tP (-1);have UD:=fun k hk=>uN (bl:=jd) hA hQ (q:=Q.getD n 0) (by rw[en];exact hq) k hk;have TD:=Bq (A:=dA R tags) (bl:=jd) (Q.getD n 0) Q;have A3:=Bp (A:=dA R tags) (bl:=jd) (Q.getD n 0) Q;have hst:∀k,k<256->St (dA R tags) ((dA R tags).d (Q.getD n 0) k):=fun k hk=>hA.step _ hq k hk;have hd:∀(k:Nat) (hk:k<256),(dA R tags).d (Q.getD n 0) k=(R[Q.getD n 0]'hq)[k]:=fun k hk=>Dz hq hk;have BB:Q.getD n 0<tags.length:=by omega
      have UC:(dA R tags).tag (Q.getD n 0)=tags[Q.getD n 0]'BB:=r_ BB;have Ge:=fun(L:List bz)=>fx (W:=w) (L:=L) bQ hr hq;have J7:=fun(L:List bz)=>fx (W:=w) (L:=L) (c:=1) (f:=bL.dK) (fun _=>rfl) hrt BB 0 _ rfl;have hQn:Q.getD n 0=Q[n]:=by rw[List.getD_eq_getElem?_getD,List.getElem?_eq_getElem c1];rfl
      clear jh jl hw;generalize hqq:Q.getD n 0=q at*;generalize Pn:R[q]=r at*
      repeat(first|refine GC ?_|refine gV (iE (i:=5) aT.eq rfl rfl) ?_|refine GB ?_)
      refine aM (iT aj.en rfl rfl) (fun w hm=>mb _) rfl rfl rfl ?_;intro _ _
      try refine GA ?_
      refine aF rfl fun g10=>?_;refine zL ?_;refine aD (i:=8) (cs':=(cZ (Vector.replicate 256 (-1))).toArray) rfl rfl rfl (by rw[List.size_toArray,bQ]) (by simpa using mA (Vector.replicate 256 (-1))) (by kernel_rfl) ?_;refine zL ?_
      try refine GA ?_
      refine Li (i:=5) rfl (by omega) fun gQ cQ hv hcQ aaJ=>?_;subst hv
      (repeat refine bJ ?_)
      refine dw ([ap g1 (eS (.slice (some ⟨b,off,none⟩) R.length cr) (.slice (some ⟨bb,uO,none⟩) tags.length ct)).cells 98,aI 3 1 (.slice (some ⟨gQ,0,none⟩) Q.length cQ) Q.length (Q.map fun q:Nat=>ie q)]) (.calm 0 (.calm 1 (.calm 2 (.calm 3 (.calm 4 (.calm 5 (.calm 6 (.calm 7 (.calm 8 (.done)))))))))) (bC [0,5]) ?_
      repeat(first|refine GW ?_|(refine GN ?_;first|refine QW (J ak.ty rfl (ah (i:=0) rfl rfl)) ?_|refine QW (aO (j:=n) aT.eq ak.ty rfl rfl c1) ?_|refine QW (J ak.ty rfl (f_ (i:=1) rfl hqc)) ?_|refine QW (aH (j:=q) aT.eq ak.ty rfl rfl hq) ?_|refine QW (aK ak.ty rfl (bQ r) (Ge _)) ?_))
      try refine GA ?_
      rw[<-M_];refine pI [0,1,2,3,4,6,7,8,5] ?_;refine cX (ι:=Nat×Value) (fun(k,_)=>k<=256) (fun(k,vK)=>[(1,.pointer (some ⟨g1,0,none⟩)),(2,.pointer (some ⟨g2,0,none⟩)),(5,.slice (some ⟨g5,0,none⟩) R.length R.length),(6,.slice (some ⟨g6,0,none⟩) (R.length+1) (R.length+1)),(7,.pointer (some ⟨g7,0,none⟩)),(8,vK),(9,.int .i64 (n:Int)),(10,.pointer (some ⟨g10,0,none⟩)),(46,uj r),(47,.int .i64 (k:Int))])
        (fun(k,vK)=>[ap g1 (eS (.slice (some ⟨b,off,none⟩) R.length cr) (.slice (some ⟨bb,uO,none⟩) tags.length ct)).cells 98,ap g2 (eS (.slice none 0 0) (.slice none 0 0)).cells 98,dC 3 ie g5 R.length fun i=>(jd i:Int),dC 3 ie g6 (R.length+1) (oY jd (hU (dA R tags) jd q Q k).1),ap g7 (eS vR vT).cells 98,aI 150 256 vR out.length (out.flatMap cZ),aI 3 1 vT n (((Q.take n).map (dA R tags).tag).flatMap bL.dK),ap g10 (cZ (tb (hU (dA R tags) jd q Q k).2)).toArray 150,aI 3 1 vK (hU (dA R tags) jd q Q k).1.length ((hU (dA R tags) jd q Q k).1.map fun q:Nat=>ie q)]) (fun(k,_)=>256-k) (0,.slice (some ⟨gQ,0,none⟩) Q.length cQ) (Nat.zero_le _) ?_
      rintro⟨k,vK⟩ hk;dsimp only at hk⊢
      by_cases c2:k<256
      · have hcell:(cZ r).toArray[k]?=some (.int .i16 r[k]):=by rw[List.getElem?_toArray];exact kX r c2
        have hx:=hd k c2;have XQ:=hst k c2;have jU:=UD k hk;have hlen:=A3 k;have yr:=(Dx jU XQ).len;have jl:hU (dA R tags) jd q Q (k+1)=((kW jd (hU (dA R tags) jd q Q k).1 ((dA R tags).d q k)).1,(hU (dA R tags) jd q Q k).2++[(kW jd (hU (dA R tags) jd q Q k).1 ((dA R tags).d q k)).2]):=rfl;rw[hx]at jl XQ yr;clear hx hst UD TD A3 hd Ge J7;generalize r[k]=x at*;generalize hU (dA R tags) jd q Q k=RQ at*;obtain⟨Qk,vk⟩:=RQ;dsimp only at jU hlen yr jl⊢;subst hlen;unfold St at XQ;rw[en]at XQ
        by_cases c3:val jd x=0
        · have e:kW jd Qk x=(Qk,-1):=by unfold kW;rw[if_pos c3]
          rw[e]at jl;have Nd:∀(S:List bz),S=[ap g1 (eS (.slice (some ⟨b,off,none⟩) R.length cr) (.slice (some ⟨bb,uO,none⟩) tags.length ct)).cells 98,ap g2 (eS (.slice none 0 0) (.slice none 0 0)).cells 98,dC 3 ie g5 R.length fun i=>(jd i:Int),dC 3 ie g6 (R.length+1) (oY jd Qk),ap g7 (eS vR vT).cells 98,aI 150 256 vR out.length (out.flatMap cZ),aI 3 1 vT n (((Q.take n).map (dA R tags).tag).flatMap bL.dK),ap g10 (cZ (tb vk)).toArray 150,aI 3 1 vK Qk.length (Qk.map fun q:Nat=>ie q)]->S=[ap g1 (eS (.slice (some ⟨b,off,none⟩) R.length cr) (.slice (some ⟨bb,uO,none⟩) tags.length ct)).cells 98,ap g2 (eS (.slice none 0 0) (.slice none 0 0)).cells 98,dC 3 ie g5 R.length fun i=>(jd i:Int),dC 3 ie g6 (R.length+1) (oY jd (hU (dA R tags) jd q Q (vk.length+1)).1),ap g7 (eS vR vT).cells 98,aI 150 256 vR out.length (out.flatMap cZ),aI 3 1 vT n (((Q.take n).map (dA R tags).tag).flatMap bL.dK),ap g10 (cZ (tb (hU (dA R tags) jd q Q (vk.length+1)).2)).toArray 150,aI 3 1 vK (hU (dA R tags) jd q Q (vk.length+1)).1.length ((hU (dA R tags) jd q Q (vk.length+1)).1.map fun q:Nat=>ie q)]:=fun S h=>by
            rw[jl];dsimp only;rw[J5 vk c2];exact h
          by_cases c4:x<0
          · repeat(first|refine GA ?_|refine gV (fw aT.eq ak.ty rfl rfl c2 hcell) ?_)
            exact eZ (vk.length+1,vK) (by show vk.length+1<=256;omega) (by show 256-(vk.length+1)<256-vk.length;omega) (by repeat' (first|exact True.intro|refine And.intro rfl ?_)) (Nd _ rfl)
          · obtain⟨m,rfl⟩:∃m:Nat,x=m:=⟨x.toNat,by omega⟩
            have hm:m<R.length:=by omega
            rw[r9]at c3
            repeat(first|refine GC ?_|refine gV (fw aT.eq ak.ty rfl rfl c2 hcell) ?_|refine gV (aO (j:=m) aT.eq ak.ty rfl rfl hm) ?_|refine gV (J ak.ty rfl (dQ (i:=2) rfl hm)) ?_|refine gV (cJ (b:=true) rfl rfl (decide_eq_true (by omega))) ?_|refine GB ?_)
            exact eZ (vk.length+1,vK) (by show vk.length+1<=256;omega) (by show 256-(vk.length+1)<256-vk.length;omega) (by repeat' (first|exact True.intro|refine And.intro rfl ?_)) (Nd _ rfl)
        · have c4:¬x<0:=fun e=>c3 (by unfold val;rw[if_pos e])
          obtain⟨m,rfl⟩:∃m:Nat,x=m:=⟨x.toNat,by omega⟩;have hm:m<R.length:=by omega
          rw[r9]at c3;have hbm:=ZG m hm;rw[en]at hbm;have e:kW jd Qk (m:Int)=(xe jd Qk (m:Int),(idx ((xe jd Qk (m:Int)).map jd) (jd m):Int)):=by unfold kW;rw[r9,if_neg c3,Int.toNat_natCast]
          rw[e]at jl yr;dsimp only at yr jl;rw[en]at yr;unfold xe at jl yr;rw[Int.toNat_natCast]at jl yr
          by_cases c5:jd m∈Qk.map jd
          · rw[if_pos c5]at jl yr
            have hid:=iV c5;rw[List.length_map]at hid;have Nf:oY jd Qk (jd m)=(idx (Qk.map jd) (jd m):Int)+1:=by unfold oY;rw[if_pos c5]
            generalize idx (Qk.map jd) (jd m)=z at*
            repeat(first|refine GC ?_|refine gV (fw aT.eq ak.ty rfl rfl c2 hcell) ?_|refine gV (aO (j:=m) aT.eq ak.ty rfl rfl hm) ?_|refine gV (J ak.ty rfl (dQ (i:=2) rfl hm)) ?_|refine gV (cJ (b:=false) rfl rfl (decide_eq_false (by omega))) ?_|refine gV (aO (j:=jd m) aT.eq ak.ty rfl rfl (by omega)) ?_|refine gV (J ak.ty rfl (dQ (i:=3) rfl (show jd m<R.length+1 by omega))) ?_|refine gV (ij (r:=(z:Int)) rfl rfl (by omega) (by omega) (by omega)) ?_|refine gV (e7 aT.eq aT.eq rfl (F0 (by omega) (by omega))) ?_|refine gV (eL aT.eq ak.ty rfl rfl c2) ?_|refine GB ?_)
            refine mB (i:=7) rfl rfl rfl c2 ?_;rw[xA vk z c2];refine zL ?_
            try refine GA ?_
            exact aY (vk.length+1,vK) (by show vk.length+1<=256;omega) (by show 256-(vk.length+1)<256-vk.length;omega) (hl:=by dsimp only;rw[jl])
          · rw[if_neg c5]at jl yr
            have Nf:oY jd Qk (jd m)=0:=by unfold oY;rw[if_neg c5]
            have yd:=M9 (q:=m) c5;have Wo:oY jd (Qk++[m]) (jd m)=(Qk.length:Int)+1:=by rw[yd,if_pos rfl]
            have Tc:idx ((Qk++[m]).map jd) (jd m)=Qk.length:=by
              have h1:=Wo;unfold oY at h1;rw[if_pos (by simp)]at h1;omega
            rw[Tc]at jl;rw[List.length_append,List.length_singleton]at yr
            repeat(first|refine GC ?_|refine gV (fw aT.eq ak.ty rfl rfl c2 hcell) ?_|refine gV (aO (j:=m) aT.eq ak.ty rfl rfl hm) ?_|refine gV (J ak.ty rfl (dQ (i:=2) rfl hm)) ?_|refine gV (cJ (b:=false) rfl rfl (decide_eq_false (show ¬(jd m:Int)=0 by omega))) ?_|refine gV (aO (j:=jd m) aT.eq ak.ty rfl rfl (by omega)) ?_|refine gV (J ak.ty rfl (dQ (i:=3) rfl (show jd m<R.length+1 by omega))) ?_|refine gV (cJ (b:=true) rfl rfl (decide_eq_true Nf)) ?_|refine gV (e7 aT.eq aT.eq rfl (jE (by omega) (by omega))) ?_|refine GB ?_)
            refine ik (i:=8) rfl rfl rfl rfl rfl rfl (fun z h=>by cases h;rfl) (by omega) (by omega) rfl fun z v2=>?_;refine zL ?_
            repeat(first|refine GC ?_|refine gV (aO (j:=m) aT.eq ak.ty rfl rfl hm) ?_|refine gV (J ak.ty rfl (dQ (i:=2) rfl hm)) ?_|refine gV (aO (j:=jd m) aT.eq ak.ty rfl rfl (by omega)) ?_|refine gV (iE (i:=8) aT.eq rfl rfl) ?_|refine GB ?_)
            refine eX (i:=3) (off:=jd m) (v:=((Qk.length+1:Nat):Int)) (oY jd (Qk++[m])) ak.ty rfl rfl rfl rfl rfl (by omega) (fun j hj=>by rw[yd];rfl) ?_;refine zL ?_
            repeat(first|refine GC ?_|refine gV (aO (j:=m) aT.eq ak.ty rfl rfl hm) ?_|refine gV (J ak.ty rfl (dQ (i:=2) rfl hm)) ?_|refine gV (aO (j:=jd m) aT.eq ak.ty rfl rfl (by omega)) ?_|refine gV (J ak.ty rfl (dQ (i:=3) rfl (show jd m<R.length+1 by omega))) ?_|refine gV (ij (r:=(Qk.length:Int)) rfl rfl (by omega) (by omega) (by omega)) ?_|refine gV (e7 aT.eq aT.eq rfl (F0 (by omega) (by omega))) ?_|refine gV (eL aT.eq ak.ty rfl rfl c2) ?_|refine GB ?_)
            refine mB (i:=7) rfl rfl rfl c2 ?_;rw[xA vk (Qk.length:Int) c2];refine zL ?_
            try refine GA ?_
            exact aY (vk.length+1,v2) (by show vk.length+1<=256;omega) (by show 256-(vk.length+1)<256-vk.length;omega) (hl:=by dsimp only;rw[jl];simp)
      · obtain rfl:k=256:=by omega
        have jU:=(UD 256 (Nat.le_refl _)).len;obtain⟨E,hE⟩:=TD 256;have hv:=A3 256;clear UD TD A3 hst hd Ge;generalize hU (dA R tags) jd q Q 256=RQ at*;obtain⟨Qe,ve⟩:=RQ;dsimp only at jU hE hv nJ⊢;subst hE;rw[Na hv];rw[en]at jU;have hqe:((Q++E).map fun q:Nat=>ie q)[0+n]?=some (ie q):=by
          rw[Nat.zero_add,List.getElem?_map,List.getElem?_append_left c1,List.getElem?_eq_getElem c1,<-hQn];rfl
        have Dw:(((Q++E).take (n+1)).map (dA R tags).tag).flatMap bL.dK=((Q.take n).map (dA R tags).tag).flatMap bL.dK++[ie tags[q]]:=by
          rw[List.take_append_of_le_length (by omega),List.take_succ_eq_append_getElem c1,<-hQn,List.map_append,List.flatMap_append,List.map_singleton,List.flatMap_singleton,UC];rfl
        rw[List.length_append]at jU;have Wp:n<(Q++E).length:=by rw[List.length_append];omega
        repeat(first|refine GA ?_|refine gV (J ak.ty rfl (ah (i:=4) rfl rfl)) ?_|refine gV (aE (i:=7) ak.ty rfl rfl (by rw[List.size_toArray,bQ])) ?_)
        refine jK (i:=5) rfl rfl (by rw[List.size_toArray,bQ]) rfl (by simpa using mA (vec ve)) rfl rfl (fun z h=>by cases h;rfl) (by omega) (by omega) rfl fun z v2=>?_;refine zL ?_
        try refine GA ?_
        refine aB (i:=5) rfl fun nK sy=>?_;refine bD (i:=4) rfl rfl rfl nK sy rfl ?_;refine zL ?_
        try refine GA ?_
        refine Li (i:=8) rfl (by omega) fun ZI ZJ Lp aaK aah=>?_;subst Lp
        (repeat refine bJ ?_)
        refine dw ([ap g1 (eS (.slice (some ⟨b,off,none⟩) R.length cr) (.slice (some ⟨bb,uO,none⟩) tags.length ct)).cells 98,aI 3 1 (.slice (some ⟨ZI,0,none⟩) (Q++E).length ZJ) (Q++E).length ((Q++E).map fun q:Nat=>ie q)]) (.calm 0 (.calm 2 (.calm 3 (.calm 4 (.calm 5 (.calm 6 (.calm 7 (.calm 8 (.calm 9 (.two 1 (.one 10 (.one 11 (.calm 12 (.one 13 (.done))))) 10 (.one 1 (.one 11 (.calm 12 (.one 13 (.done))))))))))))))) (bC [0,8]) ?_
        repeat(first|refine GW ?_|(refine GN ?_;first|refine QW (J ak.ty rfl (ah (i:=0) rfl rfl)) ?_|refine QW (aO (j:=n) aT.eq ak.ty rfl rfl Wp) ?_|refine QW (J ak.ty rfl (f_ (i:=1) rfl hqe)) ?_|refine QW (aH (j:=q) aT.eq ak.ty rfl rfl BB) ?_|refine QW (J ak.ty rfl (J7 _)) ?_))
        refine dG rfl rfl ?_ ?_
        · refine cI (J ak.ty rfl (ah (i:=4) rfl rfl)) rfl rfl rfl (aw (bC [0,8]) ?_)
          refine az rfl (fj rfl rfl rfl rfl rfl fun ZK=>aw (bC [0,8]) ?_);refine az rfl (kC (i:=6) (q:=9) rfl rfl rfl rfl rfl rfl (by omega) (by omega) rfl fun v3=>aw (bC [0,8]) ?_)
          try refine GW ?_
          refine az rfl (aB (i:=6) rfl fun vz ux=>bD (i:=4) rfl rfl rfl vz ux rfl (aw (bC [0,8]) ?_))
          try refine GW ?_
          try refine GA ?_
          refine bR [0,1,2,3,4,8,5,6] ?_;exact aY (f',n+1,Q++E,out++[vec ve],.slice (some ⟨ZI,0,none⟩) (Q++E).length ZJ,v2,v3) nJ (Nat.lt_succ_self f') (hl:=by dsimp only;rw[Dw];simp;rfl)
        · refine fj rfl rfl rfl rfl rfl fun ZK=>aw (bC [0,8]) ?_
          refine az rfl (cI (J ak.ty rfl (ah (i:=4) rfl rfl)) rfl rfl rfl (aw (bC [0,8]) ?_));refine az rfl (kC (i:=6) (q:=9) rfl rfl rfl rfl rfl rfl (by omega) (by omega) rfl fun v3=>aw (bC [0,8]) ?_)
          try refine GW ?_
          refine az rfl (aB (i:=6) rfl fun vz ux=>bD (i:=4) rfl rfl rfl vz ux rfl (aw (bC [0,8]) ?_))
          try refine GW ?_
          try refine GA ?_
          refine bR [0,1,2,3,4,8,5,6] ?_;exact aY (f',n+1,Q++E,out++[vec ve],.slice (some ⟨ZI,0,none⟩) (Q++E).length ZJ,v2,v3) nJ (Nat.lt_succ_self f') (hl:=by dsimp only;rw[Dw];simp;rfl)
    · obtain⟨e,rfl⟩:=jh _ _ _ _ hw c1
      rw[e]
      repeat(first|refine GC ?_|refine gV (iE (i:=5) aT.eq rfl rfl) ?_|refine gV (aE (i:=4) ak.ty rfl rfl rfl) ?_|refine GB ?_)
      refine aB (i:=6) rfl fun nK sy=>?_;refine aB (i:=7) rfl fun vz ux=>?_;refine aD (i:=1) (cs':=(eS vR vT).cells) rfl rfl rfl rfl (by show([vR,vT].all Value.oneCell')=true;simp[sy,ux]) rfl ?_;refine zL ?_
      try refine GA ?_
      refine dB (i:=1) rfl rfl rfl rfl rfl fun w hm=>?_;exact hm.meets (S:=⟨fun(_:Value×Value)=>True,fun x=> .tuple #[eS x.1 x.2,.int .i64 0],fun x=>[aI 150 256 x.1 out.length (out.flatMap cZ),aI 3 1 x.2 (Q.map (dA R tags).tag).length ((Q.map (dA R tags).tag).flatMap bL.dK)]⟩) (vR,vT) trivial [6,7] (by decide) (by simp)
  · have er:sc R tags=[]:=if_neg hc
    have et:sd R tags=[]:=if_neg hc;unfold Qh;rw[er,et];generalize jc R tags=e at*;refine enter (args:=[eS (.slice br R.length cr) (.slice bt tags.length ct)]) (n:=113) Tryz.func26 rfl rfl rfl ?_;refine bJ (aV (bK rfl rfl rfl fun g1=>?_));refine aF rfl fun g2=>?_;refine zL ?_
    repeat(first|refine GA ?_|refine gV (aE (i:=0) ak.ty rfl rfl rfl) ?_)
    refine aM (iT aj.en rfl rfl) (fun w hm=>gD _ hm.below) rfl rfl rfl ?_;intro _ _
    repeat(first|refine GC ?_|refine gV (aU rfl Gc) ?_|refine gV (cB (b:=true) rfl rfl (decide_eq_true hc)) ?_|refine GB ?_)
    refine fU 1 ?_;refine zL ?_
    try refine GA ?_
    refine de 150 256 (de 3 1 ?_);refine dB (i:=1) rfl rfl rfl rfl rfl fun w hm=>?_;exact hm.meets (S:=⟨fun(_:Value×Value)=>True,fun x=> .tuple #[eS x.1 x.2,.int .i64 e],fun x=>[aI 150 256 x.1 0 [],aI 3 1 x.2 0 []]⟩) (.slice none 0 0,.slice none 0 0) trivial [2,3] (by decide) rfl
end bH
namespace bH
open Go.RowKit bL db rl bT
theorem Ia{R:List Row}{tags:List Int}(h:jc R tags=0):(∀r∈R,∀x∈r.toList,-32768<=x/\x<=32767)/\∀x∈tags,bL.bX x:=by
 obtain⟨hA,hl⟩:=oQ h;have hle:R.length<=200:=hA.le;refine⟨fun r hr x hx=>?_,fun x hx=>?_⟩
 ·obtain⟨i,hi,rfl⟩:=List.mem_iff_getElem.1 hr
  obtain⟨b,hb,rfl⟩:=List.mem_iff_getElem.1 hx;have Aq:b<256:=by simpa using hb
  have:=hA.step i hi b Aq;rw[Dz hi Aq]at this;have e:(dA R tags).n=R.length:=rfl;rw[Vector.getElem_toList];omega
 ·obtain⟨i,hi,rfl⟩:=List.mem_iff_getElem.1 hx
  have:=hA.tags i (by show i<R.length;omega);rw[r_ hi]at this;exact⟨by omega,by omega⟩
theorem Mem.Wq{B:bB}{w:World}{L:List bz}{i j:Nat}{vr vt:Value}{R:List Row}{tags:List Int}(hm:Mem B L w)(hi:L[i]?=some (aI 150 256 vr R.length (R.flatMap cZ)))(hj:L[j]?=some (aI 3 1 vt tags.length (tags.flatMap bL.dK)))(hc:jc R tags=0):yi w vr vt R tags:=
 ⟨jo hi _ hm,jo hj _ hm,(Ia hc).1,(Ia hc).2⟩
end bH
namespace bH
open Go.RowKit bL db rl bT
def dN(R:List Row)(i b:Nat):Int:=(R.getD i pL).toList.getD b 0
theorem oZ{R:List Row}{i b:Nat}(h:i<R.length)(hb:b<256):dN R i b=(R[i])[b]:=Dz (tags:=[]) h hb
def yt(R:List Row)(b k:Nat):xg:=Vector.ofFn fun i:Fin 200=>if i<k then dN R i b else 0
def l9(R:List Row)(b:Nat):xg:=yt R b R.length
theorem TE(R:List Row)(b:Nat):yt R b 0=Vector.replicate 200 0:=by
 refine Vector.ext fun i hi=>?_;unfold yt;simp
theorem Ng(R:List Row)(b k:Nat)(h:k<200):(yt R b k).set k (dN R k b)=yt R b (k+1):=by
 refine Vector.ext fun i hi=>?_;unfold yt;rw[Vector.getElem_set,Vector.getElem_ofFn,Vector.getElem_ofFn];split
 ·rename_i e;subst e;simp
 ·have:i<k↔i<k+1:=by omega
  simp only[this]
theorem Qj(c:xg){i:Nat}(h:i<200)(x:Int):(qG c).toArray.setIfInBounds i (.int .i16 x)=(qG (c.set i x)).toArray:=by
 unfold qG;rw[Vector.toList_set,List.map_set];simp
theorem Nh:(List.replicate 200 (Value.int .i16 0)).toArray=(qG (Vector.replicate 200 0)).toArray:=by
 unfold qG;rw[Vector.toList_replicate,List.map_replicate]
theorem DU(R:List Row)(b i:Nat)(h:i<R.length)(h2:R.length<=200):(l9 R b).toList.getD i 0=dN R i b:=by
 unfold l9 yt;rw[List.getD_eq_getElem?_getD,List.getElem?_eq_getElem (by simp;omega),Option.getD_some,Vector.getElem_toList,Vector.getElem_ofFn];simp[h]
theorem Ql{R:List Row}(hr:∀r∈R,∀x∈r.toList,-32768<=x/\x<=32767){b:Nat}(hb:b<256):MI (l9 R b):=by
 intro i hi;unfold l9 yt;rw[Vector.getElem_ofFn];dsimp only;split
 ·rename_i h
  rw[oZ h hb];exact hr R[i] (List.getElem_mem h) _ (by rw[<-Vector.getElem_toList (h:=by simpa using hb)];exact List.getElem_mem _)
 ·omega
def jI(R:List Row)(k:Nat):List xg:=cg [] ((List.range k).map (l9 R))
theorem se(R:List Row)(k:Nat):jI R (k+1)=more (jI R k) (l9 R k):=by
 unfold jI;rw[List.range_succ,List.map_append,List.map_singleton,gJ]
theorem Ib{R:List Row}{k:Nat}(h:l9 R k∈jI R k):jI R (k+1)=jI R k:=by
 rw[se];exact if_pos h
theorem Ic{R:List Row}{k:Nat}(h:l9 R k∉jI R k):jI R (k+1)=jI R k++[l9 R k]:=by
 rw[se];exact if_neg h
theorem uR(R:List Row):∀k,(jI R k).length<=k
 |0=>Nat.le_refl _
 |k+1=>by
  have:=uR R k
  by_cases c:l9 R k∈jI R k
  ·rw[Ib c];omega
  ·rw[Ic c,List.length_append,List.length_singleton];omega
theorem Ie(R:List Row)(k:Nat):∀j,k<=j->∃E,jI R j=jI R k++E
  |0,h=>⟨[],by obtain rfl:k=0:=(by omega);rw[List.append_nil]⟩
  | j +1,h=>by
    by_cases c:k=j+1
    · subst c;exact⟨[],by rw[List.append_nil]⟩
    · obtain⟨E,hE⟩:=Ie R k j (by omega)
      obtain⟨E',hE'⟩:=vP (jI R j) (l9 R j);exact⟨E++E',by rw[se,hE',hE,List.append_assoc]⟩
theorem BC(R:List Row){b k:Nat}(h:b<k):l9 R b∈jI R k:=gK.2 (.inr (List.mem_map.2 ⟨b,by simpa using h,rfl⟩))
def RM(R:List Row)(b:Nat):Nat:=idx (jI R 256) (l9 R b)
theorem TF{R:List Row}{k:Nat}(h:k<256):RM R k=if l9 R k∈jI R k then idx (jI R k) (l9 R k)else(jI R k).length:=by
 obtain⟨E,hE⟩:=Ie R (k+1) 256 (by omega);unfold RM;rw[hE,lB (BC R (Nat.lt_succ_self k)),se,mj]
 by_cases c:l9 R k∈jI R k
 ·rw[if_pos c,if_pos c]
 ·rw[if_neg c,if_neg c]
theorem Ni(R:List Row){b:Nat}(h:b<256):RM R b<(jI R 256).length:=iV (BC R h)
theorem If(R:List Row){b:Nat}(h:b<256):RM R b<256:=Nat.lt_of_lt_of_le (Ni R h) (uR R 256)
abbrev Of:=Vector Nat 256
def qI(R:List Row)(k:Nat):Of:=Vector.ofFn fun b:Fin 256=>if b<k then RM R b else 0
theorem RN(R:List Row):qI R 0=Vector.replicate 256 0:=by
 refine Vector.ext fun i hi=>?_;unfold qI;simp
theorem Qm(R:List Row)(k:Nat)(h:k<256):(qI R k).set k (RM R k)=qI R (k+1):=by
 refine Vector.ext fun i hi=>?_;unfold qI;rw[Vector.getElem_set,Vector.getElem_ofFn,Vector.getElem_ofFn];split
 ·rename_i e;subst e;simp
 ·have:i<k↔i<k+1:=by omega
  simp only[this]
def uS(D:List xg)(i:Nat):List Int:=D.map fun c=>c.toList.getD i 0
def J8(R:List Row):List (List Int):=(List.range R.length).map (uS (jI R 256))
def kZ(o:Of)(vn vt:Value):List Value:=o.toList.map (fun n:Nat=> .int .u8 (n:Int))++[vn,vt]
def UM(o:Of)(vn vt:Value):Value:= .agg (kZ o vn vt).toArray
theorem pA(o:Of)(vn vt:Value):(kZ o vn vt).length=258:=by simp[kZ]
theorem kl(o:Of)(vn vt:Value):(kZ o vn vt).toArray.size=258:=by rw[List.size_toArray,pA]
theorem km(o:Of)(vn vt:Value):(kZ o vn vt).toArray[256]?=some vn:=by
 rw[List.getElem?_toArray];unfold kZ;rw[List.getElem?_append_right (by simp)];simp
theorem nv(o:Of)(vn vt:Value):(kZ o vn vt).toArray[257]?=some vt:=by
 rw[List.getElem?_toArray];unfold kZ;rw[List.getElem?_append_right (by simp)];simp
theorem qJ(o:Of){vn vt:Value}(h1:vn.oneCell'=true)(h2:vt.oneCell'=true):(kZ o vn vt).toArray.toList.all Value.oneCell'=true:=by
 refine List.all_eq_true.2 fun u hu=>?_;unfold kZ at hu;simp only[List.mem_append,List.mem_map,List.mem_cons,List.not_mem_nil,or_false]at hu;rcases hu with⟨n,_,rfl⟩|rfl|rfl
 ·rfl
 ·exact h1
 ·exact h2
theorem TG(o:Of)(vn vt:Value){b:Nat}(h:b<256)(x:Nat):(kZ o vn vt).toArray.setIfInBounds b (.int .u8 (x:Int))=(kZ (o.set b x) vn vt).toArray:=by
 unfold kZ;rw[Vector.toList_set,List.map_set];simp[List.set_append,h]
theorem BD:(List.replicate 256 (Value.int .u8 0)++([.slice none 0 0,.slice none 0 0]:List Value)).toArray=(kZ (Vector.replicate 256 0) (.slice none 0 0) (.slice none 0 0)).toArray:=by
 unfold kZ;rw[Vector.toList_replicate,List.map_replicate];rfl
theorem J9(w:World):(Instr.build 30 #[]).run Tryz.prog w= .ok (UM (Vector.replicate 256 0) (.slice none 0 0) (.slice none 0 0)) w:=by kernel_rfl
theorem DV(g h n m cap:Nat)(w:World):(Instr.build 30 #[(1,.slice (some ⟨g,0,none⟩) n n),(2,.slice (some ⟨h,0,none⟩) m cap)]).run Tryz.prog w= .ok (UM (Vector.replicate 256 0) (.slice (some ⟨g,0,none⟩) n n) (.slice (some ⟨h,0,none⟩) m cap)) w:=by kernel_rfl
end bH
namespace iK
open bO d_
open av (bY Prod df)
abbrev DW:=Bs->Option bY
def yu(m:DW)(x:Bs)(s:bY):DW:=fun y=>if y=x then some s else m y
abbrev WS:=List Int×Int×DW
def fa(s:WS)(w:Wd):WS:=if w.1=[]then(s.1++[-1],s.2)else(s.1++[s.2.1],s.2.1+1,yu s.2.2 w.1 (1,s.2.1))
abbrev HS:=Int×DW
def nH(s:HS)(r:Rl):HS:=if(s.2 r.1).isSome then s else(s.1+1,yu s.2 r.1 (2,s.1))
def lr(m:DW)(x:Bs):bY:=(m x).getD (0,0)
def sf(m:DW)(r:Rl):Prod:=((lr m r.1).2,r.2.map (lr m))
def Og:WS:=([],0,fun _=>none)
def BE(l:List Wd):WS:=l.foldl fa Og
def XR(s:Sp):HS:=s.rules.foldl nH (0,(BE s.words).2.2)
def aZ(s:Sp):df:=⟨(BE s.words).2.1,(XR s).1,s.rules.map (sf (XR s).2)⟩
def o7(s:Sp):Int:=if av.bM (aZ s)≠0 then 2 else 0
def Small(m:DW):Prop:=∀y s,m y=some s->0<=s.1/\s.1<=2/\0<=s.2/\s.2<=1000
theorem J_:Small fun _=>none:=fun _ _ h=>by cases h
theorem z_{m:DW}(h:Small m){x:Bs}{s:bY}(h1:0<=s.1/\s.1<=2/\0<=s.2/\s.2<=1000):Small (yu m x s):=fun y z hz=>by
 unfold yu at hz;split at hz
 ·cases hz;exact h1
 ·exact h y z hz
theorem Aa{m:DW}(h:Small m)(x:Bs):0<=(lr m x).1/\(lr m x).1<=2/\0<=(lr m x).2/\(lr m x).2<=1000:=by
 unfold lr
 cases hx:m x with
 |none=>exact⟨by decide,by decide,by decide,by decide⟩
 |some s=>exact h x s hx
theorem step_take{α σ:Type}(f:σ->α->σ)(s:σ)(l:List α){k:Nat}(h:k<l.length):(l.take (k+1)).foldl f s=f ((l.take k).foldl f s) l[k]:=by
 rw[List.take_succ_eq_append_getElem h,List.foldl_append];rfl
theorem Nj(s:WS)(w:Wd)(k:Nat)(h:k<60)(a1:s.1.length=k)(a2:0<=s.2.1)(a3:s.2.1<=k)(a4:Small s.2.2):
 (fa s w).1.length=k+1/\0<=(fa s w).2.1/\(fa s w).2.1<=((k+1:Nat):Int)/\Small (fa s w).2.2:=by
 unfold fa;split
 ·exact⟨by rw[List.length_append,a1];rfl,a2,by show s.2.1<=_;omega,a4⟩
 ·exact⟨by rw[List.length_append,a1];rfl,by show 0<=s.2.1+1;omega,by show s.2.1+1<=((k+1:Nat):Int);omega,z_ a4 ⟨(by decide:(0:Int)<=1),(by decide:(1:Int)<=2),a2,by show s.2.1<=1000;omega⟩⟩
theorem Nk(l:List Wd):∀k,k<=l.length->k<=60->((l.take k).foldl fa Og).1.length=k/\0<=((l.take k).foldl fa Og).2.1/\((l.take k).foldl fa Og).2.1<=k/\Small ((l.take k).foldl fa Og).2.2
 |0,_,_=>⟨rfl,Int.le_refl _,Int.le_refl _,J_⟩
 |k+1,h,Y6=>by
  obtain⟨a1,a2,a3,a4⟩:=Nk l k (by omega) (by omega);rw[step_take _ _ _ (show k<l.length by omega)];exact Nj _ _ k (by omega) a1 a2 a3 a4
theorem Nl(s:HS)(r:Rl)(k:Nat)(h:k<60)(a2:0<=s.1)(a3:s.1<=k)(a4:Small s.2):
 0<=(nH s r).1/\(nH s r).1<=((k+1:Nat):Int)/\Small (nH s r).2:=by
 unfold nH;split
 ·exact⟨a2,by show s.1<=_;omega,a4⟩
 ·exact⟨by show 0<=s.1+1;omega,by show s.1+1<=((k+1:Nat):Int);omega,z_ a4 ⟨(by decide:(0:Int)<=2),(by decide:(2:Int)<=2),a2,by show s.1<=1000;omega⟩⟩
theorem RO(l:List Rl)(m:DW)(hm:Small m):∀k,k<=l.length->k<=60->0<=((l.take k).foldl nH (0,m)).1/\((l.take k).foldl nH (0,m)).1<=k/\Small ((l.take k).foldl nH (0,m)).2
 |0,_,_=>⟨Int.le_refl _,Int.le_refl _,hm⟩
 |k+1,h,Y6=>by
  obtain⟨a2,a3,a4⟩:=RO l m hm k (by omega) (by omega);rw[step_take _ _ _ (show k<l.length by omega)];exact Nl _ _ k (by omega) a2 a3 a4
end iK
namespace bH
open Go.RowKit bL db iK
def lu(vo:Value)(pk tl:List Value):List Value:=vo::(pk++tl)
def sq(t n:Int)(vp:Value)(mode:Int)(rows rv gt:Value):List Value:=[.int .i64 t,.int .i64 n,vp,.int .i64 mode,rows,rv,gt]
def Kx:List Value:=kZ (Vector.replicate 256 0) (.slice none 0 0) (.slice none 0 0)
theorem fu:Kx.length=258:=pA _ _ _
def Ab:List Value:=lu (.slice none 0 0) Kx (sq 0 0 (.slice none 0 0) 0 (.slice none 0 0) (.slice none 0 0) (.slice none 0 0))
theorem nw:(([.slice none 0 0]:List Value)++List.replicate 256 (Value.int .u8 0)++([.slice none 0 0,.slice none 0 0,.int .i64 0,.int .i64 0,.slice none 0 0,.int .i64 0,.slice none 0 0,.slice none 0 0,.slice none 0 0]:List Value)).toArray=Ab.toArray:=by
 have e:∀z:List Value,(([.slice none 0 0]:List Value)++z++([.slice none 0 0,.slice none 0 0,.int .i64 0,.int .i64 0,.slice none 0 0,.int .i64 0,.slice none 0 0,.slice none 0 0,.slice none 0 0]:List Value)).toArray=((.slice none 0 0:Value)::((z++[.slice none 0 0,.slice none 0 0])++sq 0 0 (.slice none 0 0) 0 (.slice none 0 0) (.slice none 0 0) (.slice none 0 0))).toArray:=fun z=>by simp[sq]
 unfold Ab lu Kx kZ;rw[Vector.toList_replicate,List.map_replicate];exact e _
theorem J'(w:World):(Instr.build 38 #[]).run Tryz.prog w= .ok (.agg Ab.toArray) w:=by
 rw[<-nw];kernel_rfl
theorem iL{vo:Value}{pk tl:List Value}(j:Nat)(hp:pk.length=258){k:Nat}{v:Value}(h:tl[j]?=some v)(hk:k=j+259):(lu vo pk tl).toArray[k]?=some v:=by
 subst hk;rw[List.getElem?_toArray,lu,List.getElem?_cons_succ,List.getElem?_append_right (by omega),show j+258-pk.length=j by omega];exact h
theorem TH{vo:Value}{pk tl:List Value}(j:Nat)(hp:pk.length=258){k:Nat}(v:Value)(hk:k=j+259):(lu vo pk tl).toArray.setIfInBounds k v=(lu vo pk (tl.set j v)).toArray:=by
 subst hk;rw[List.setIfInBounds_toArray,lu,List.set_cons_succ,List.set_append,if_neg (by omega),show j+258-pk.length=j by omega];rfl
theorem hY{vo:Value}{pk tl:List Value}(hp:pk.length=258)(ht:tl.length=7):(lu vo pk tl).toArray.size=266:=by
 rw[List.size_toArray,lu,List.length_cons,List.length_append];omega
theorem qK{vo:Value}{pk tl:List Value}(h1:vo.oneCell'=true)(h2:pk.all Value.oneCell'=true)(h3:tl.all Value.oneCell'=true):(lu vo pk tl).toArray.toList.all Value.oneCell'=true:=by
 rw[lu,List.all_cons,List.all_append,h1,h2,h3];rfl
theorem Ig:Kx.all Value.oneCell'=true:=by
 have:=qJ (Vector.replicate 256 0) (vn:= .slice none 0 0) (vt:= .slice none 0 0) rfl rfl
 simpa[Kx]using this
theorem ko{vo:Value}{pk:List Value}(hp:pk.length=258){t n mode:Int}{vp rows rv gt v:Value}{j:Nat}(h:[.int .i64 t,.int .i64 n,vp][j]?=some v):(lu vo pk (sq t n vp mode rows rv gt)).toArray[0+259+j]?=some v:=by
 match j,h with
 |0,h=>exact iL 0 hp h rfl
 |1,h=>exact iL 1 hp h rfl
 |2,h=>exact iL 2 hp h rfl
 |n+3,h=>cases h
section
variable{P:Program}{n:Nat}{W:bB}{fr:Fr}{L:List bz}{Q:Exit->Act->World->Prop}{ops:Array Oper}{rest:List Oper}{ty:TypeId}{pos:String}{after:Array Edge}{t:TypeId}{p x:Operand}{i g k:Nat}{vo:Value}{pk tl:List Value}{T:TypeId}{agg:Bool}{v:Value}
theorem jz(j:Nat)[hT:ak P t agg 1](hi:L[i]?=some (ap g (lu vo pk tl).toArray T))(hp:ev fr p=some (.pointer (some ⟨g,k,none⟩)))(hx:ev fr x=some v)(hv:v.cells=#[v])(h1:v.oneCell'=true)(hk:k=j+259)(kU:pk.length=258)(hj:Nat.blt j tl.length=true)
 (h:TL P n W ops Q rest fr (L.set i (ap g (lu vo pk (tl.set j v)).toArray T))):TL P n W ops Q (⟨none,.store t p x,ty,pos,after,none⟩::rest) fr L:=by
 have hj:j<tl.length:=Nat.le_of_ble_eq_true hj;refine bD hi hp hx hv h1 ?_ ?_
 ·rw[List.size_toArray,lu,List.length_cons,List.length_append]
  exact Nat.ble_eq_true_of_le (by omega)
 ·rw[TH j kU v hk];exact h
theorem xB[hT:ak P t agg 1](hi:L[i]?=some (ap g (lu vo pk tl).toArray T))(hp:ev fr p=some (.pointer (some ⟨g,k,none⟩)))(hx:ev fr x=some v)(hv:v.cells=#[v])(h1:v.oneCell'=true)(hk:k=0)
 (h:TL P n W ops Q rest fr (L.set i (ap g (lu v pk tl).toArray T))):TL P n W ops Q (⟨none,.store t p x,ty,pos,after,none⟩::rest) fr L:=by
 subst hk;refine bD hi hp hx hv h1 rfl ?_;exact h
theorem Gf{pk':List Value}[hT:ak P t agg 258](hi:L[i]?=some (ap g (lu vo pk tl).toArray T))(hp:ev fr p=some (.pointer (some ⟨g,k,none⟩)))(hx:ev fr x=some (.agg pk'.toArray))(h1:pk'.all Value.oneCell'=true)(hk:k=1)(kU:pk.length=258)(ZL:pk'.length=258)
 (h:TL P n W ops Q rest fr (L.set i (ap g (lu vo pk' tl).toArray T))):TL P n W ops Q (⟨none,.store t p x,ty,pos,after,none⟩::rest) fr L:=by
 subst hk;refine qY hT.ty hi hp hx (by simpa[Value.cells]using ZL) (by simpa[Value.cells]using h1) (by rw[List.size_toArray,lu,List.length_cons,List.length_append];omega) ?_ h;apply Array.ext';show vo::(pk'++tl)=List.take 1 (vo::(pk++tl))++pk'++List.drop (1+258) (vo::(pk++tl))
 rw[List.take_succ_cons,List.take_zero,show 1+258=258+1 from rfl,List.drop_succ_cons,List.drop_append_of_le_length (by omega),List.drop_of_length_le (by omega)];rfl
theorem Gg{a b c d e f f' u u':Value}[hT:ak P t agg 2](hi:L[i]?=some (ap g (lu vo pk [a,b,c,d,e,f,f']).toArray T))(hp:ev fr p=some (.pointer (some ⟨g,k,none⟩)))(hx:ev fr x=some (.agg #[u,u']))(h1:u.oneCell'=true)(h2:u'.oneCell'=true)(hk:k=264)(kU:pk.length=258)
 (h:TL P n W ops Q rest fr (L.set i (ap g (lu vo pk [a,b,c,d,e,u,u']).toArray T))):TL P n W ops Q (⟨none,.store t p x,ty,pos,after,none⟩::rest) fr L:=by
 subst hk;refine qY hT.ty hi hp hx rfl (by simp[Value.cells,h1,h2]) (by rw[List.size_toArray,lu,List.length_cons,List.length_append];simp[kU]) ?_ h;apply Array.ext';show vo::(pk++[a,b,c,d,e,u,u'])=List.take (263+1) (vo::(pk++[a,b,c,d,e,f,f']))++[u,u']++List.drop (265+1) (vo::(pk++[a,b,c,d,e,f,f']))
 rw[List.take_succ_cons,List.drop_succ_cons,show 263=pk.length+5 by omega,List.take_append,List.take_of_length_le (by omega),show 265=pk.length+7 by omega,List.drop_append,List.drop_of_length_le (by omega)];simp
end
end bH
namespace bH
open Go.RowKit bL db av
theorem Gh(h:Int)(w:World):(Instr.build 109 #[(0,.int .i64 h)]).run Tryz.prog w= .ok (.agg #[.int .i64 h,.slice none 0 0]) w:=by
 go_simp
end bH
namespace bH
open Go.RowKit bL db av
theorem Qn{x:Int}(h:0<=x/\x<1000000000):bL.bX x:=by unfold bL.bX;omega
theorem qL{F:Nat->Prop}{vp:Value}{l:List av.Prod}{w:World}{t n:Int}(ht:bL.bX t)(hn:bL.bX n)(h:(mY F vp l).holds w):jf (fun k=>k<w.heap.size) w (cH t n vp) ⟨t,n,l⟩:=by
 obtain⟨⟨v',hv,h1⟩,h2⟩:=h;simp only[List.cons.injEq,and_true]at hv;subst hv;exact⟨vp,rfl,h1.mono h2,ht,hn⟩
end bH
namespace bH
open Go.RowKit bL db bO d_ iK av
def sg(s:bY):Value:= .agg (dv s).toArray
theorem pB(w:World):(zeroValue 128).run Tryz.prog w= .ok (sg (0,0)) w:=by kernel_rfl
theorem Gi(s:bY)(w:World):(Instr.field 128 (sg s) 1).run Tryz.prog w= .ok (.int .i64 s.2) w:=by
 obtain⟨a,b⟩:=s
 kernel_rfl
theorem DX{P:Program}{k:TypeId}{κ:Type}{K:qi P k κ}{W:bB}{fr:Fr}{L:List bz}{n:Nat}{dst:Option Tmp}{ty:TypeId}{pos:String}{after:Array Edge}{guard:Option (Nat×Bool)}{i g c:Nat}{t e:TypeId}{m:κ->Option Value}{x:κ}{z v:Value}{xm xk:Operand}(ht:P.underlying t=some (.map k e))(hz:∀w,(zeroValue e).run P w= .ok z w)(hi:L[i]?=some (dr K g m c))(hm:ev fr xm=some (.map (some g)))(hk:ev fr xk=some (K.kv x))(hx:K.ok x)(hv:(m x).getD z=v):RR P n W ⟨dst,.lookup t xm xk false,ty,pos,after,guard⟩ fr L v:=by
 subst hv;exact OK K ht hz hi hm hk hx
def tT(m:Bs->Option Value)(M:DW):Prop:=∀y,m y=(M y).map sg
theorem Ka:tT (fun _=>none) (fun _=>none):=fun _=>rfl
theorem Ac{m:Bs->Option Value}{M:DW}(h:tT m M){x:Bs}{s:bY}{v:Value}(hv:v=sg s):tT (fun y=>if y=x then some v else m y) (yu M x s):=fun y=>by
 unfold yu;dsimp only;subst hv
 by_cases e:y=x
 ·rw[if_pos e,if_pos e];rfl
 ·rw[if_neg e,if_neg e];exact h y
theorem Ad{m:Bs->Option Value}{M:DW}(h:tT m M)(x:Bs):(m x).getD (sg (0,0))=sg (lr M x):=by
 rw[h x];unfold lr
 cases M x<;>rfl
theorem Gj{m:Bs->Option Value}{M:DW}(h:tT m M){x:Bs}(hx:M x=none):m x=none:=by rw[h x,hx];rfl
theorem Gk{m:Bs->Option Value}{M:DW}(h:tT m M){x:Bs}{s:bY}(hx:M x=some s):m x=some (sg s):=by rw[h x,hx];rfl
def xC(gp:Nat)(e:Int)(len:Nat)(of:List Int)(g:df):Spec (Value×Value×(Nat->Prop)):=
 ⟨fun x=>x.1.oneCell'=true/\x.2.1.oneCell'=true,fun _=> .int .i64 e,fun x=>[ap gp (lu x.1 Kx (sq g.aJ g.aR x.2.1 0 (.slice none 0 0) (.slice none 0 0) (.slice none 0 0))).toArray 38,aI 3 1 x.1 len (of.map (Value.int .i64)),mY x.2.2 x.2.1 g.ag]⟩
def BF(gp:Nat)(s:Sp):Spec (Value×Value×(Nat->Prop)):=xC gp (o7 s) s.words.length (BE s.words).1 (aZ s)
theorem yv(vw vr:Value)(s:Sp)(gp:Nat)(w0:World)(hv:M7 (mU w0) w0 (.agg #[vw,vr]) s)(hlw:s.words.length<=60)(G2:s.rules.length<=60)(zO:∀r∈s.rules,r.2.length<=8796093021952)(w:World)(B:bB)(ho:lc w0 B)(hm:Mem B [ap gp Ab.toArray 38] w):
    Calls Tryz.prog 24 #[.agg #[vw,vr],.pointer (some ⟨gp,0,none⟩)] w (dc (BF gp s) B):=by
  obtain⟨ZM,uH,Ws,hw,hr⟩:=hv;obtain⟨rfl,rfl⟩:vw=ZM/\vr=uH:=by simpa using Ws
  clear Ws;obtain⟨words,rules⟩:=s;dsimp only at*;obtain⟨bw,cw,rfl,-,-,Gl⟩:=hw;obtain⟨br,cr,rfl,-,-,Nn⟩:=hr;refine eg hm (args:=[.agg #[.slice bw words.length cw,.slice br rules.length cr],.pointer (some ⟨gp,0,none⟩)]) (n:=153) Tryz.func24 rfl rfl rfl ?_;refine bJ (aV (bK rfl rfl rfl fun g2=>?_));refine zL ?_
  try refine GA ?_
  refine qj eB rfl fun gm=>?_;refine zL ?_
  repeat(first|refine GA ?_|refine gV (J (v:= .slice bw words.length cw) ak.ty rfl (ah (i:=1) rfl rfl)) ?_)
  refine h_ 3 1 ?_;refine cX (ι:=Nat×List Int×Int×DW×Value×(Bs->Option Value)×Nat)
    (fun(k,of,t,M,vo,m,n)=>k<=words.length/\n<=k/\(words.take k).foldl fa Og=(of,t,M)/\tT m M/\vo.oneCell'=true)
    (fun(k,_,_,_,_,_,_)=>[(1,.pointer (some ⟨gp,0,none⟩)),(2,.pointer (some ⟨g2,0,none⟩)),(5,.map (some gm)),(19,.slice bw words.length cw),(20,.int .i64 words.length),(21,.int .i64 (k:Int))])
    (fun(k,of,t,_,vo,m,n)=>[ap gp (lu vo Kx (sq t 0 (.slice none 0 0) 0 (.slice none 0 0) (.slice none 0 0) (.slice none 0 0))).toArray 38,ap g2 #[.slice bw words.length cw,.slice br rules.length cr] 25,dr eB gm m n,aI 3 1 vo k (of.map (Value.int .i64))])
    (fun(k,_,_,_,_,_,_)=>words.length-k) (0,[],0,fun _=>none,.slice none 0 0,fun _=>none,0) ⟨Nat.zero_le _,Nat.le_refl _,rfl,Ka,rfl⟩ ?_
  clear hm;rintro⟨k,of,t,M,vo,m,n⟩ ⟨i1,i2,i3,i4,i5⟩;dsimp only at i1 i2 i3 i4 i5⊢;have hws:=Nk words k i1 (by omega);rw[i3]at hws;obtain⟨s1,s2,s3,s4⟩:=hws;dsimp only at s1 s2 s3 s4
  by_cases c1:k<words.length
  · obtain⟨b,off,rfl,_,hr⟩:=Gl (by omega)
    obtain⟨bk,ck,q1,q2,q3⟩:=H9 hr c1;have hst:=step_take fa Og words c1;rw[i3]at hst;have du:∀(L:List bz) (j:Nat) (u:Value),(qS words[k].1 words[k].2.kind words[k].2.nU (.slice bk words[k].2.kids.length ck))[j]?=some u->At B L ⟨b,off+k*7+j,none⟩ u:=fun L j u hj=>fI ho (q1 j u hj);clear hr Gl Nn q1 q2;generalize words[k]=wd at*;obtain⟨nm,r⟩:=wd;dsimp only at*;generalize r.kind=rk at*;generalize r.nU=rc at*;generalize r.kids.length=rn at*
    repeat(first|refine GA ?_|refine gV (aH aT.eq ak.ty rfl rfl c1) ?_|refine gV (aK (cs:=qS nm rk rc (.slice bk rn ck)) ak.ty rfl rfl (du _)) ?_)
    clear du;refine aF rfl fun g7=>?_;refine zL ?_;refine fU 4 (cs':=(qS nm rk rc (.slice bk rn ck)).toArray) ?_;refine zL ?_
    by_cases e0:nm=[]
    · subst e0
      repeat(first|refine GC ?_|refine gV (J (v:=str []) ak.ty rfl (ah (i:=4) rfl rfl)) ?_|refine gV (nR (b:=true) rfl rfl rfl) ?_|refine gV (J (v:=vo) ak.ty rfl (ah (i:=0) rfl rfl)) ?_|refine GB ?_)
      refine ik (i:=3) rfl rfl rfl rfl rfl rfl (fun z h=>by cases h;rfl) (by omega) (by omega) rfl fun z' v'=>?_;refine zL ?_
      try refine GA ?_
      refine aB (i:=3) rfl fun nK sy=>?_;refine xB (i:=0) rfl rfl rfl nK sy rfl ?_;refine zL ?_
      try refine GA ?_
      refine bR [0,1,2,3] ?_;exact aY (k+1,of++[-1],t,M,v',m,n) ⟨by omega,by show n<=k+1;omega,hst,i4,sy⟩ (by show words.length-(k+1)<words.length-k;omega) (hl:=by dsimp only;rw[List.map_append];rfl)
    · rw[show fa (of,t,M) (nm,r)=(of++[t],t+1,yu M nm (1,t))from if_neg e0]at hst
      repeat(first|refine GC ?_|refine gV (J (v:=str nm) ak.ty rfl (ah (i:=4) rfl rfl)) ?_|refine gV (nR (b:=false) rfl rfl (decide_eq_false e0)) ?_|refine GB ?_)
      (repeat refine bJ ?_)
      refine dw ([ap gp (lu vo Kx (sq t 0 (.slice none 0 0) 0 (.slice none 0 0) (.slice none 0 0) (.slice none 0 0))).toArray 38,ap g7 (qS nm rk rc (.slice bk rn ck)).toArray 71]) (.calm 0 (.calm 1 (.calm 2 (.calm 3 (.calm 4 (.calm 5 (.calm 6 (.calm 7 (.calm 8 (.one 9 (.done))))))))))) (bC [0,4]) ?_
      repeat(first|refine GW ?_|(refine GN ?_;first|refine QW (J (v:=str nm) ak.ty rfl (ah (i:=1) rfl rfl)) ?_|refine QW (J (v:= .int .i64 t) ak.ty rfl (ah (i:=0) rfl (iL 0 fu rfl rfl))) ?_|refine QW (aU rfl (DT _ _)) ?_))
      refine az rfl (iF (i:=2) (x:=nm) (v:=sg (1,t)) eB aT.eq rfl rfl rfl rfl q3 (by omega) (aw (bC [0,4]) ?_));refine zL ?_
      try refine GW ?_
      try refine GA ?_
      (repeat refine bJ ?_)
      refine dw ([]) (.calm 0 (.calm 1 (.calm 2 (.calm 3 (.calm 5 (.calm 6 (.calm 7 (.calm 8 (.two 4 (.one 9 (.one 10 (.one 11 (.calm 12 (.calm 13 (.one 14 (.done))))))) 9 (.two 4 (.one 10 (.one 11 (.calm 12 (.calm 13 (.one 14 (.done)))))) 10 (.one 4 (.one 11 (.calm 12 (.calm 13 (.one 14 (.done)))))))))))))))) (bC []) ?_
      try refine GW ?_
      refine dG rfl rfl ?a1 ?a2
      case' a2=>
        refine cI (J (v:= .int .i64 t) ak.ty rfl (ah (i:=0) rfl (iL 0 fu rfl rfl))) rfl rfl rfl (aw (bC []) ?_);refine dG rfl rfl ?a3 ?a4
      case' a4=>
        refine fj (cs:=#[.int .i64 t]) rfl rfl rfl rfl rfl fun g56=>aw (bC []) ?_;refine az rfl (cI (J (v:=vo) ak.ty rfl (ah (i:=0) rfl rfl)) rfl rfl rfl (aw (bC []) ?_))
      case' a3=>
        refine cI (J (v:=vo) ak.ty rfl (ah (i:=0) rfl rfl)) rfl rfl rfl (aw (bC []) ?_);refine az rfl (fj (cs:=#[.int .i64 t]) rfl rfl rfl rfl rfl fun g56=>aw (bC []) ?_)
      case' a1=>
        refine cI (J (v:=vo) ak.ty rfl (ah (i:=0) rfl rfl)) rfl rfl rfl (aw (bC []) ?_);refine az rfl (cI (J (v:= .int .i64 t) ak.ty rfl (ah (i:=0) rfl (iL 0 fu rfl rfl))) rfl rfl rfl (aw (bC []) ?_));refine az rfl (fj (cs:=#[.int .i64 t]) rfl rfl rfl rfl rfl fun g56=>aw (bC []) ?_)
      all_goals
        refine zL ?_;refine az rfl (kC (i:=3) (q:=5) rfl rfl rfl rfl rfl rfl (by omega) (by omega) rfl fun v'=>aw (bC []) ?_);refine zL ?_
        try refine GW ?_
        refine az rfl (aB (i:=3) rfl fun nK sy=>xB (i:=0) rfl rfl rfl nK sy rfl (aw (bC []) ?_));refine zL ?_
        try refine GW ?_
        repeat(first|refine GA ?_|refine gV (J (v:= .int .i64 t) ak.ty rfl (ah (i:=0) rfl (iL 0 fu rfl rfl))) ?_)
        refine jz 0 (i:=0) rfl rfl rfl rfl rfl rfl fu rfl ?_;refine zL ?_
        try refine GA ?_
        refine bR [0,1,2,3] ?_;exact eZ (k+1,of++[t],t+1,yu M nm (1,t),v',_,_) ⟨by omega,by show(if(m nm).isSome then n else n+1)<=k+1;split<;>omega,hst,Ac i4 rfl,sy⟩ (by show words.length-(k+1)<words.length-k;omega) (by repeat' (first|exact True.intro|refine And.intro rfl ?_)) (by dsimp only;rw[List.map_append];rfl)
  · obtain rfl:k=words.length:=by omega
    rw[List.take_length]at i3;have hW:BE words=(of,t,M):=i3;clear Gl
    repeat(first|refine GA ?_|refine gV (J (v:= .slice br rules.length cr) ak.ty rfl (ah (i:=1) rfl rfl)) ?_)
    refine cX (ι:=Nat×Int×DW×(Bs->Option Value)×Nat)
      (fun(j,N,M2,m2,n2)=>j<=rules.length/\n2<=60+j/\(rules.take j).foldl nH (0,M)=(N,M2)/\tT m2 M2)
      (fun(j,_,_,_,_)=>[(1,.pointer (some ⟨gp,0,none⟩)),(2,.pointer (some ⟨g2,0,none⟩)),(5,.map (some gm)),(71,.slice br rules.length cr),(72,.int .i64 rules.length),(73,.int .i64 (j:Int))])
      (fun(_,N,_,m2,n2)=>[ap gp (lu vo Kx (sq t N (.slice none 0 0) 0 (.slice none 0 0) (.slice none 0 0) (.slice none 0 0))).toArray 38,ap g2 #[.slice bw words.length cw,.slice br rules.length cr] 25,dr eB gm m2 n2,aI 3 1 vo words.length (of.map (Value.int .i64))])
      (fun(j,_,_,_,_)=>rules.length-j) (0,0,M,m,n) ⟨Nat.zero_le _,by omega,rfl,i4⟩ ?_
    clear i4;rintro⟨j,N,M2,m2,n2⟩ ⟨j1,j2,j3,j4⟩;dsimp only at j1 j2 j3 j4⊢;have hhs:=RO rules M s4 j j1 (by omega);rw[j3]at hhs;obtain⟨u1,u2,u3⟩:=hhs;dsimp only at u1 u2 u3
    by_cases c2:j<rules.length
    · obtain⟨b,off,rfl,_,eV⟩:=Nn (by omega)
      obtain⟨bk,ck,q1,-,q3⟩:=uQ eV c2;have hst:=step_take nH (0,M) rules c2;rw[j3]at hst;have du:∀(L:List bz) (j':Nat) (u:Value),([str rules[j].1,.slice bk rules[j].2.length ck]:List Value)[j']?=some u->At B L ⟨b,off+j*2+j',none⟩ u:=fun L j' u hj=>fI ho (q1 j' u hj);clear eV q1 Nn;generalize rules[j]=r at*;obtain⟨nm,bd⟩:=r;dsimp only at*;generalize bd.length=bn at*
      repeat(first|refine GA ?_|refine gV (aH aT.eq ak.ty rfl rfl c2) ?_|refine gV (aK (cs:=[str nm,.slice bk bn ck]) ak.ty rfl rfl (du _)) ?_)
      clear du;refine aF rfl fun g9=>?_;refine zL ?_;refine fU 4 (cs':=#[str nm,.slice bk bn ck]) ?_;refine zL ?_
      cases hM:M2 nm with
      | some x=>
        rw[show nH (N,M2) (nm,bd)=(N,M2)from if_pos (by show(M2 nm).isSome=true;rw[hM];rfl)]at hst
        repeat(first|refine GA ?_|refine gV (J (v:=str nm) ak.ty rfl (ah (i:=4) rfl rfl)) ?_|refine gV (fL eB (x:=nm) aT.eq pB (i:=2) rfl rfl rfl q3 (Gk j4 hM)) ?_)
        refine aF rfl fun g10=>?_;refine zL ?_;refine fU 5 (cs':=(dv x).toArray) ?_;refine zL ?_
        try refine GA ?_
        refine bR [0,1,2,3] ?_;exact aY (j+1,N,M2,m2,n2) ⟨by omega,by show n2<=60+(j+1);omega,hst,j4⟩ (by show rules.length-(j+1)<rules.length-j;omega)
      | none=>
        rw[show nH (N,M2) (nm,bd)=(N+1,yu M2 nm (2,N))from if_neg (by show ¬(M2 nm).isSome=true;rw[hM];decide)]at hst
        repeat(first|refine GA ?_|refine gV (J (v:=str nm) ak.ty rfl (ah (i:=4) rfl rfl)) ?_|refine gV (fM eB (x:=nm) aT.eq pB (i:=2) rfl rfl rfl q3 (Gj j4 hM)) ?_)
        refine aF rfl fun g10=>?_;refine zL ?_;refine fU 5 (cs':=(dv (0,0)).toArray) ?_;refine zL ?_
        try refine GA ?_
        (repeat refine bJ ?_)
        refine dw ([ap gp (lu vo Kx (sq t N (.slice none 0 0) 0 (.slice none 0 0) (.slice none 0 0) (.slice none 0 0))).toArray 38,ap g9 #[str nm,.slice bk bn ck] 74]) (.calm 0 (.calm 1 (.calm 2 (.calm 3 (.calm 4 (.calm 5 (.calm 6 (.calm 7 (.calm 8 (.one 9 (.done))))))))))) (bC [0,4]) ?_
        repeat(first|refine GW ?_|(refine GN ?_;first|refine QW (J (v:=str nm) ak.ty rfl (ah (i:=1) rfl rfl)) ?_|refine QW (J (v:= .int .i64 N) ak.ty rfl (ah (i:=0) rfl (iL 1 fu rfl rfl))) ?_|refine QW (aU rfl (DT _ _)) ?_))
        refine az rfl (iF (i:=2) (x:=nm) (v:=sg (2,N)) eB aT.eq rfl rfl rfl rfl q3 (by omega) (aw (bC [0,4]) ?_));refine zL ?_
        try refine GW ?_
        repeat(first|refine GA ?_|refine gV (J (v:= .int .i64 N) ak.ty rfl (ah (i:=0) rfl (iL 1 fu rfl rfl))) ?_)
        refine jz 1 (i:=0) rfl rfl rfl rfl rfl rfl fu rfl ?_;refine zL ?_
        try refine GA ?_
        refine bR [0,1,2,3] ?_;exact eZ (j+1,N+1,yu M2 nm (2,N),_,_) ⟨by omega,by show(if(m2 nm).isSome then n2 else n2+1)<=60+(j+1);split<;>omega,hst,Ac j4 rfl⟩ (by show rules.length-(j+1)<rules.length-j;omega) (by repeat' (first|exact True.intro|refine And.intro rfl ?_)) rfl
    · obtain rfl:j=rules.length:=by omega
      rw[List.take_length]at j3;have hH:XR ⟨words,rules⟩=(N,M2):=by unfold XR;rw[hW];exact j3
      repeat(first|refine GA ?_|refine gV (J (v:= .slice br rules.length cr) ak.ty rfl (ah (i:=1) rfl rfl)) ?_)
      refine h_ 109 2 (ly (cY nD (fun _=>False) [] []) (fun k hk=>hk.elim (fun h=>by cases h) id) (fun w=>gZ) ?_);refine pI [0,2,3,4,5] ?_;refine cX (ι:=Nat×List av.Prod×Value×List (List Value)×(Nat->Prop))
        (fun(j,ps,vp,eM,F)=>j<=rules.length/\ps=(rules.take j).map (sf M2)/\vp.oneCell'=true)
        (fun(j,_,_,_,_)=>[(1,.pointer (some ⟨gp,0,none⟩)),(5,.map (some gm)),(106,.slice br rules.length cr),(107,.int .i64 rules.length),(108,.int .i64 (j:Int))])
        (fun(j,ps,vp,eM,F)=>[ap gp (lu vo Kx (sq t N vp 0 (.slice none 0 0) (.slice none 0 0) (.slice none 0 0))).toArray 38,dr eB gm m2 n2,aI 3 1 vo words.length (of.map (Value.int .i64)),aI 109 2 vp ps.length eM.flatten,cY nD F eM ps])
        (fun(j,_,_,_,_)=>rules.length-j) (0,[],.slice none 0 0,[],fun _=>False) ⟨Nat.zero_le _,rfl,rfl⟩ ?_
      rintro⟨j,ps,vp,eM,F⟩ ⟨k1,k2,k3⟩;dsimp only at k1 k2 k3⊢
      by_cases c3:j<rules.length
      · obtain⟨b,off,rfl,_,eV⟩:=Nn (by omega)
        obtain⟨bk,ck,q1,q2,q3⟩:=uQ eV c3;have XF:(rules.take (j+1)).map (sf M2)=ps++[sf M2 rules[j]]:=by rw[List.take_succ_eq_append_getElem c3,List.map_append,<-k2];rfl
        have tF:ps.length=j:=by rw[k2,List.length_map,List.length_take];omega
        have du:∀(L:List bz) (j':Nat) (u:Value),([str rules[j].1,.slice bk rules[j].2.length ck]:List Value)[j']?=some u->At B L ⟨b,off+j*2+j',none⟩ u:=fun L j' u hj=>fI ho (q1 j' u hj);have so:=q2.flat (by decide);have jU:=q2.Yk;have hb6:=zO _ (List.getElem_mem c3);clear eV q1 q2 Nn;generalize rules[j]=r at*;obtain⟨nm,bd⟩:=r;dsimp only at*;obtain⟨b2,Oe,lg,vz,Ox,Kb⟩:=so
        cases lg
        unfold maxLen at Ox;have hsm:=Aa u3 nm
        repeat(first|refine GA ?_|refine gV (aH aT.eq ak.ty rfl rfl c3) ?_|refine gV (aK (cs:=[str nm,.slice bk bd.length ck]) ak.ty rfl rfl (du _)) ?_)
        clear du;refine aF rfl fun g13=>?_;refine zL ?_;refine fU 5 (cs':=#[str nm,.slice bk bd.length ck]) ?_;refine zL ?_
        repeat(first|refine GA ?_|refine gV (J (v:=str nm) ak.ty rfl (ah (i:=5) rfl rfl)) ?_|refine gV (DX (K:=eB) (x:=nm) aT.eq pB (i:=1) rfl rfl rfl q3 (Ad j4 nm)) ?_|refine gV (O_ rfl (Gi _)) ?_|refine gV (aU rfl (Gh _)) ?_)
        refine aF rfl fun g14=>?_;refine zL ?_;refine fU 6 (cs':=#[.int .i64 (lr M2 nm).2,.slice none 0 0]) ?_;refine zL ?_
        repeat(first|refine GA ?_|refine gV (J (v:= .slice bk bd.length ck) ak.ty rfl (ah (i:=5) rfl rfl)) ?_)
        refine h_ 128 2 ?_;refine pI [0,1,2,3,4,6,7] ?_;refine cX (ι:=Nat×Value) (fun(i,vb)=>i<=bd.length/\vb.oneCell'=true)
          (fun(i,vb)=>[(1,.pointer (some ⟨gp,0,none⟩)),(5,.map (some gm)),(14,.pointer (some ⟨g14,0,none⟩)),(106,.slice (some ⟨b,off,none⟩) rules.length cr),(107,.int .i64 rules.length),(108,.int .i64 (j:Int)),(119,.slice bk bd.length ck),(120,.int .i64 bd.length),(121,.int .i64 (i:Int))])
          (fun(i,vb)=>[ap gp (lu vo Kx (sq t N vp 0 (.slice none 0 0) (.slice none 0 0) (.slice none 0 0))).toArray 38,dr eB gm m2 n2,aI 3 1 vo words.length (of.map (Value.int .i64)),aI 109 2 vp ps.length eM.flatten,cY nD F eM ps,ap g14 #[.int .i64 (lr M2 nm).2,vb] 109,aI 128 2 vb i (((bd.take i).map (lr M2)).flatMap dv)])
          (fun(i,_)=>bd.length-i) (0,.slice none 0 0) ⟨Nat.zero_le _,rfl⟩ ?_
        rintro⟨i,vb⟩ ⟨l1,l2⟩;dsimp only at l1 l2⊢
        by_cases c4:i<bd.length
        · obtain⟨b3,ZN,rfl,yY⟩:=Kb (by omega)
          have du:=fun L=>qf (W:=B) (L:=L) H8 (fun j u hj=>fI ho (yY j u hj)) c4 0 _ rfl;have hlen:=jU bd[i] (List.getElem_mem c4);have Dw:((bd.take (i+1)).map (lr M2)).flatMap dv=((bd.take i).map (lr M2)).flatMap dv++dv (lr M2 bd[i]):=by
            rw[List.take_succ_eq_append_getElem c4,List.map_append,List.flatMap_append];simp
          clear yY Kb;generalize bd[i]=x at*
          repeat(first|refine GA ?_|refine gV (aH aT.eq ak.ty rfl rfl c4) ?_|refine gV (J (v:=str x) ak.ty rfl (du _)) ?_|refine gV (J (v:=vb) ak.ty rfl (ah (i:=5) rfl rfl)) ?_|refine gV (DX (K:=eB) (x:=x) aT.eq pB (i:=1) rfl rfl rfl hlen (Ad j4 x)) ?_)
          refine jK (i:=6) (cs:=(dv (lr M2 x)).toArray) rfl rfl rfl rfl rfl rfl rfl (fun z h=>by cases h;rfl) (by omega) (by omega) rfl fun z vb'=>?_;refine zL ?_
          try refine GA ?_
          refine aB (i:=6) rfl fun nK sy=>?_;refine bD (i:=5) rfl rfl rfl nK sy rfl ?_;refine zL ?_
          try refine GA ?_
          exact aY (i+1,vb') ⟨by omega,sy⟩ (by show bd.length-(i+1)<bd.length-i;omega) (hl:=by dsimp only;rw[Dw];rfl)
        · obtain rfl:i=bd.length:=by omega
          rw[List.take_length];clear Kb;have IW:(bd.map (lr M2)).length=bd.length:=List.length_map ..;rw[<-IW];have ZO:sf M2 (nm,bd)=((lr M2 nm).2,bd.map (lr M2)):=rfl;have Wg:∀x∈bd.map (lr M2),LK x:=fun x hx=>by
            obtain⟨y,-,rfl⟩:=List.mem_map.1 hx;have:=Aa u3 y;exact⟨Qn ⟨this.1,by omega⟩,Qn ⟨this.2.2.1,by omega⟩⟩
          generalize lr M2 nm=hd at*;generalize bd.map (lr M2)=body at*
          try refine GA ?_
          (repeat refine bJ ?_)
          refine dw ([ap g14 #[.int .i64 hd.2,vb] 109]) (.calm 0 (.calm 1 (.calm 2 (.calm 3 (.calm 4 (.calm 6 (.two 5 (.one 7 (.one 8 (.calm 9 (.calm 10 (.calm 11 (.one 12 (.done))))))) 7 (.one 5 (.one 8 (.calm 9 (.calm 10 (.calm 11 (.one 12 (.done)))))))))))))) (bC [5]) ?_
          repeat(first|refine GW ?_|(refine GN ?_;first|refine QW (aE (i:=0) ak.ty rfl rfl rfl) ?_))
          refine dG rfl rfl ?b1 ?b2
          case' b1=>
            refine cI (J (v:=vp) ak.ty rfl (ah (i:=0) rfl (iL 2 fu rfl rfl))) rfl rfl rfl (aw (bC [5]) ?_);refine az rfl (fj (cs:=#[.int .i64 hd.2,vb]) rfl rfl rfl rfl rfl fun g15=>aw (bC [5]) ?_)
          case' b2=>
            refine fj (cs:=#[.int .i64 hd.2,vb]) rfl rfl rfl rfl rfl fun g15=>aw (bC [5]) ?_;refine az rfl (cI (J (v:=vp) ak.ty rfl (ah (i:=0) rfl (iL 2 fu rfl rfl))) rfl rfl rfl (aw (bC [5]) ?_))
          all_goals
            refine zL ?_;refine az rfl (mI (i:=3) (q:=7) rfl rfl rfl rfl rfl (by simp only[List.all_cons,List.all_nil,l2];rfl) (by omega) (by omega) rfl fun v'=>aw (bC [5]) ?_);refine zL ?_
            try refine GW ?_
            refine az rfl (aB (i:=3) rfl fun nK sy=>jz 2 (i:=0) rfl rfl rfl nK sy rfl fu rfl (aw (bC [5]) ?_));refine zL ?_
            try refine GW ?_
            refine AE (cY nD (fun k=>F k\/vb.ownBlock=some k) (eM++[[.int .i64 hd.2,vb]]) (ps++[(hd.2,body)])) 6 4 [0,1,2,3] (by decide) rfl rfl rfl (fun k hk=>hk.elim (fun h=>by cases h) fun h=>h.elim (fun h=> .inr (.inr h)) fun h=> .inl (.inl h)) (fun w hr he=>?_) ?_
            · exact mh he (CE (Qn ⟨hsm.2.2.1,by omega⟩) Wg hr) fun k hk=>(aI 128 2 vb body.length (body.flatMap dv)).lt w hr k (.inl hk)
            try refine GA ?_
            exact aY (j+1,ps++[(hd.2,body)],v',eM++[[.int .i64 hd.2,vb]],fun k=>F k\/vb.ownBlock=some k) ⟨by omega,by rw[XF,ZO],sy⟩ (by show rules.length-(j+1)<rules.length-j;omega) (hl:=by rw[List.length_append,List.flatten_append];rfl)
      · obtain rfl:j=rules.length:=by omega
        rw[List.take_length]at k2;subst k2;have hG:aZ ⟨words,rules⟩=⟨t,N,rules.map (sf M2)⟩:=by unfold aZ;rw[hW,hH]
        have hE:o7 ⟨words,rules⟩=if bM ⟨t,N,rules.map (sf M2)⟩≠0 then 2 else 0:=by unfold o7;rw[hG]
        have hS:∀e,o7 ⟨words,rules⟩=e->BF gp ⟨words,rules⟩=xC gp e words.length of ⟨t,N,rules.map (sf M2)⟩:=fun e he=>by
          show xC gp (o7 _) words.length (BE words).1 (aZ _)=_
          rw[hW,hG,he]
        clear hG;generalize rules.map (sf M2)=ps at*
        repeat(first|refine GA ?_|refine gV (aK (cs:=[.int .i64 t,.int .i64 N,vp]) ak.ty rfl rfl (fun j v h=>ah (i:=0) rfl (ko fu h))) ?_)
        refine rb (mY (Vf F vp) vp ps) 3 4 [0,2] (by decide) rfl rfl rfl (fun k hk=>hk.elim (fun h=>by cases h) fun h=>h.elim (fun h=> .inr (.inr h)) fun h=> .inl (.inl h)) (fun w hr he=>⟨⟨vp,rfl,AC hr he (by decide)⟩,AD hr he⟩) ?_;refine zL ?_;refine aM (iT aj.en rfl rfl) (fun w hm=>e_ _ ⟨t,N,ps⟩ w (qL (Qn ⟨s2,by omega⟩) (Qn ⟨u1,by omega⟩) (hm.get (i:=2) rfl))) rfl rfl rfl ?_;intro _ _;refine zL ?_;generalize bM ⟨t,N,ps⟩=e at*
        by_cases c:e≠0
        · rw[if_pos c]at hE
          rw[hS _ hE]
          repeat(first|refine GC ?_|refine gV (cB (b:=true) rfl rfl (decide_eq_true c)) ?_|refine GB ?_)
          exact b_ rfl rfl fun w hm=>hm.bV (S:=xC gp 2 words.length of ⟨t,N,ps⟩) (vo,vp,Vf F vp) ⟨i5,k3⟩ [0,1,2] (by decide) rfl
        · rw[if_neg c]at hE
          rw[hS _ hE]
          repeat(first|refine GC ?_|refine gV (cB (b:=false) rfl rfl (decide_eq_false c)) ?_|refine GB ?_)
          exact b_ rfl rfl fun w hm=>hm.bV (S:=xC gp 0 words.length of ⟨t,N,ps⟩) (vo,vp,Vf F vp) ⟨i5,k3⟩ [0,1,2] (by decide) rfl
end bH
namespace bH
open Go.RowKit bL db rl bT
section
end
theorem No{k:Nat}(h:k<256):IntKind.u8.wrap (k:Int)=(k:Int):=by
 rw[IntKind.wrap_u8];omega
end bH
namespace bH
open Go.RowKit bL db rl bT
def Kc:Nat->Nat×Nat
  |0=>(0,0)
  | n+1=>match Kc n with
    |(a,0)=>(0,a+1)
    |(a,b+1)=>(a+1,b)
theorem xD:∀(s a b:Nat),a+b=s->∃n,Kc n=(a,b)
 |0,a,b,h=>⟨0,by obtain rfl:a=0:=(by omega);obtain rfl:b=0:=(by omega);rfl⟩
 |s+1,0,b,h=>by
  obtain rfl:b=s+1:=by omega
  obtain⟨n,hn⟩:=xD s s 0 (by omega);exact⟨n+1,by simp[Kc,hn]⟩
 |s+1,a+1,b,h=>by
  obtain⟨n,hn⟩:=xD (s+1) a (b+1) (by omega);exact⟨n+1,by simp[Kc,hn]⟩
def k0(m x:Nat):Value:= .slice (some ⟨(Kc x).1,0,none⟩) m (Kc x).2
section
variable{P:Program}{n:Nat}{W:bB}{fr:Fr}{ops:Array Oper}
theorem Qo{i d:Nat}{α:Type}(val:α->Value)(z:α){t e ty:TypeId}{pos:String}{after:Array Edge}{x y:Operand}{bytes m:Nat}{k k':IntKind}[nS P t e 1 bytes][aW P e #[val z]](ho:ops[i]?=some ⟨some d,.makeSlice t x y,ty,pos,after,none⟩)(hx:ev fr x=some (.int k (m:Int)))(hy:ev fr y=some (.int k' (m:Int)))(hb:bytes*m<=281474976710656)(pF:m<=9223372036854775807)(hn:Nat.blt d n=true):
 yU P n W ops fr ⟨i,d,fun g=> .slice (some ⟨g,0,none⟩) m m,fun g=>dC e val g m fun _=>z⟩:=
 ⟨_,ho,fun _ _ _ hl h=>kH val z (ri hl hx) (ri hl hy) hb pF hn h⟩
theorem Gm{i d:Nat}{o:Oper}{f:FuncId}{args:Array Value}{e:TypeId}{size m:Nat}{xs:List Value}(ho:ops[i]?=some o)(he:∀xS,(∀q v,look fr q=some v->look xS q=some v)->∀a w,jC n a xS->(execOp a.eval o).run P w= .ok (.enter f args) w)
    (hc:∀(L:List bz) w,Mem W L w->Calls P f args w (bU (bW e size m xs id) w)) (hm:0<m) (hg:o.guard=none) (hd:o.dst=some d) (hn:Nat.blt d n=true):
    yU P n W ops fr ⟨i,d,k0 m,fun x=>aI e size (k0 m x) m xs⟩:=
  ⟨o, ho,fun Q xS L hl h=>aM (he xS hl) (fun w hw=>hc L w hw) hg hd hn fun v _=> .mk fun a w hr hw=>by
    have nJ:(aI e size v m xs).holds w:=hw.get (i:=L.length) (by simp[bW]);obtain⟨G,cap,hv,_,_,_⟩:=Cu nJ
    cases G with
    | none=>
      rcases nJ.2 with⟨_,h0⟩|⟨g,Ew,kp,Lp,_⟩
      · omega
      · rw[Lp]at hv;cases hv
    | some g=>
      obtain⟨x,hx⟩:=xD _ g cap rfl;have e:v=k0 m x:=by rw[hv];unfold k0;rw[hx];rfl
      have:=h x;dsimp only at this;rw[<-e]at this;exact this.go a w hr hw⟩
end
theorem DY{P:Program}{n:Nat}{W:bB}{fr:Fr}{L:List bz}{Q:Exit->Act->World->Prop}{ops:Array Oper}{rest:List Oper}{ty:TypeId}{pos:String}{after:Array Edge}{t:TypeId}{p x:Operand}{i g b:Nat}{c:xg}{T:TypeId}{agg:Bool}{z:Int}[hT:ak P t agg 1](hi:L[i]?=some (ap g (qG c).toArray T))(hp:ev fr p=some (.pointer (some ⟨g,0+b,none⟩)))(hx:ev fr x=some (.int .i16 z))(hb:b<200)
 (h:TL P n W ops Q rest fr (L.set i (ap g (qG (c.set b z)).toArray T))):TL P n W ops Q (⟨none,.store t p x,ty,pos,after,none⟩::rest) fr L:=by
 rw[Nat.zero_add]at hp;refine bD hi hp hx rfl rfl ?_ ?_
 ·rw[List.size_toArray,mC];exact Nat.blt_eq▸hb
 ·rw[Qj c hb];exact h
abbrev qM(v:Value):Value:=v
def Np(n:Nat):Mk:=⟨3,24,fun g=> .slice (some ⟨g,0,none⟩) n n,fun g=>dC 26 qM g n fun _=> .slice none 0 0⟩
def Nq(tags:List Int):Mk:=⟨6,27,k0 tags.length,fun x=>aI 3 1 (k0 tags.length x) tags.length (tags.flatMap bL.dK)⟩
def Qp:Mk:=⟨8,5,fun g=> .pointer (some ⟨g,0,none⟩),fun g=>ap g (List.replicate 256 (Value.int .u8 0)++([.slice none 0 0,.slice none 0 0]:List Value)).toArray 30⟩
def Kd(n:Nat)(D:List xg)(vs:Nat->Value):bz:=ft (fun i=>i<n) fun i=>aI 3 1 (vs i) D.length ((uS D i).flatMap bL.dK)
def XS(n:Nat)(D:List xg)(eJ:xg)(j:Nat)(vs:Nat->Value):bz:=ft (fun i=>i<n) fun i=>aI 3 1 (vs i) (if i<j then D++[eJ]else D).length ((uS (if i<j then D++[eJ]else D) i).flatMap bL.dK)
theorem Wt(n:Nat)(D:List xg)(eJ:xg)(vs:Nat->Value):XS n D eJ 0 vs=Kd n D vs:=by
 unfold XS Kd;simp
theorem Ih(n:Nat)(D:List xg)(eJ:xg)(vs:Nat->Value)(i:Nat)(h:i<n):(fun i=>aI 3 1 (vs i) (D++[eJ]).length ((uS (D++[eJ]) i).flatMap bL.dK)) i=(fun i=>aI 3 1 (vs i) (if i<n then D++[eJ]else D).length ((uS (if i<n then D++[eJ]else D) i).flatMap bL.dK)) i:=by
 dsimp only;rw[if_pos h]
theorem xE{P:Program}{n:Nat}{W:bB}{fr:Fr}{L:List bz}{Q:Exit->Act->World->Prop}{ops:Array Oper}{rest:List Oper}{ty:TypeId}{pos:String}{after:Array Edge}{t:TypeId}{p x:Operand}{i g b z:Nat}{o:Of}{vn vt:Value}{T:TypeId}{agg:Bool}[hT:ak P t agg 1](hi:L[i]?=some (ap g (kZ o vn vt).toArray T))(hp:ev fr p=some (.pointer (some ⟨g,0+b,none⟩)))(hx:ev fr x=some (.int .u8 (z:Int)))(hb:b<256)
 (h:TL P n W ops Q rest fr (L.set i (ap g (kZ (o.set b z) vn vt).toArray T))):TL P n W ops Q (⟨none,.store t p x,ty,pos,after,none⟩::rest) fr L:=by
 rw[Nat.zero_add]at hp;refine bD hi hp hx rfl rfl ?_ ?_
 ·rw[kl];exact Nat.blt_eq▸(by omega)
 ·rw[TG o vn vt hb];exact h
theorem Nr{j:Nat}{D:List xg}{eJ:xg}{vs:Nat->Value}{v2:Value}{x:Int}(h:uS (D++[eJ]) j=uS D j++[x])(q:Nat):
  (fun i=>aI 3 1 ((fun i=>if i=j then v2 else vs i) i) (if i<j+1 then D++[eJ]else D).length ((uS (if i<j+1 then D++[eJ]else D) i).flatMap bL.dK)) q
   =I4 (fun i=>aI 3 1 (vs i) (if i<j then D++[eJ]else D).length ((uS (if i<j then D++[eJ]else D) i).flatMap bL.dK)) j (aI 3 1 v2 (D.length+1) ((uS D j).flatMap bL.dK++[.int .i64 x])) q:=by
 unfold I4;dsimp only
 by_cases c:q=j
 ·subst c
  rw[if_pos rfl,if_pos rfl,if_pos (Nat.lt_succ_self q),h,List.length_append,List.flatMap_append];rfl
 ·rw[if_neg c,if_neg c]
  have e:q<j+1↔q<j:=by omega
  simp only[e]
def Ns(R:List Row)(tags:List Int):Spec (Nat×(Nat->Value)×Value):=⟨fun _=>True,fun x=> .tuple #[UM (qI R 256) (.slice (some ⟨x.1,0,none⟩) R.length R.length) x.2.2,.int .i64 0],
 fun x=>[dC 26 qM x.1 R.length x.2.1,Kd R.length (jI R 256) x.2.1,aI 3 1 x.2.2 tags.length (tags.flatMap bL.dK)]⟩
set_option maxRecDepth 100000 in
theorem Gn(vr vt:Value)(R:List Row)(tags:List Int)(w:World)(h:yi w vr vt R tags)(hc:jc R tags=0):
    Calls Tryz.prog 27 #[eS vr vt] w (bU (Ns R tags) w):=by
  have gD:=fun w' (hg:Gr w w')=>xj vr vt R tags w' (h.gr hg);rw[hc]at gD;have jB:=fun w' (hg:Gr w w') hl=>ug vt tags w' (h.hT.gr hg) hl;obtain⟨bt,ct,rfl,Xr,OT,EW⟩:=h.hT;obtain⟨br,cr,rfl,EV,l_,yY⟩:=h.hR;have Qi:=h.Tk;unfold maxLen at l_ OT;clear h;obtain⟨hA,hlt⟩:=oQ hc;have yj:0<R.length:=hA.pos;have hle:R.length<=200:=hA.le;clear hA hc;obtain⟨b,off,rfl,hr⟩:=yY yj;obtain⟨bb,uO,rfl,hrt⟩:=EW (by omega);clear yY EW hrt;have jB:=fun w' hg=>jB w' hg (by omega);have uv:=J9;refine enter (args:=[eS (.slice (some ⟨b,off,none⟩) R.length cr) (.slice (some ⟨bb,uO,none⟩) tags.length ct)]) (n:=91) Tryz.func27 rfl rfl rfl ?_;refine bJ (aV (bK rfl rfl rfl fun g1=>?_));refine aF rfl fun g2=>?_;rw[BD];refine zL ?_
  repeat(first|refine GA ?_|refine gV (aE (i:=0) ak.ty rfl rfl rfl) ?_)
  refine aM (iT aj.en rfl rfl) (fun w hm=>gD _ hm.below) rfl rfl rfl ?_;intro _ _
  try refine GA ?_
  (repeat refine bJ ?_)
  refine ix (ι:=Nat×Nat×Nat) (fun _=>True) (fun(_,_,g5)=>[(1,.pointer (some ⟨g1,0,none⟩)),(2,.pointer (some ⟨g2,0,none⟩)),(5,.pointer (some ⟨g5,0,none⟩))])
    (fun(gN,x,g5)=>[ap g1 (eS (.slice (some ⟨b,off,none⟩) R.length cr) (.slice (some ⟨bb,uO,none⟩) tags.length ct)).cells 98,ap g2 (kZ (Vector.replicate 256 0) (.slice none 0 0) (.slice none 0 0)).toArray 30,dC 26 qM gN R.length (fun _=> .slice none 0 0),aI 3 1 (k0 tags.length x) tags.length (tags.flatMap bL.dK),ap g5 (kZ (qI R 0) (.slice (some ⟨gN,0,none⟩) R.length R.length) (k0 tags.length x)).toArray 30]) ?_ ?_
  · refine Lu [ap g1 (eS (.slice (some ⟨b,off,none⟩) R.length cr) (.slice (some ⟨bb,uO,none⟩) tags.length ct)).cells 98] (bC [0]) (by kernel_rfl) (by kernel_rfl) (by intro c a d v w h;cases d<;>exact h) ?_
    refine lT 0 (by kernel_rfl) rfl (U5 bx.X9 rfl rfl) rfl rfl rfl ?_;refine lT 1 (by kernel_rfl) rfl (J ak.ty rfl (ah (i:=0) rfl rfl)) rfl rfl rfl ?_;refine lT 2 (by kernel_rfl) rfl (U4 aT.eq rfl) rfl rfl rfl ?_;refine lT 4 (by kernel_rfl) rfl (U5 bx.X9 rfl rfl) rfl rfl rfl ?_;refine lT 5 (by kernel_rfl) rfl (J ak.ty rfl (ah (i:=0) rfl rfl)) rfl rfl rfl ?_;refine Cy [Np R.length,Nq tags,Qp] (fun m=>!Nat.beq m.i 8) 2 (by kernel_rfl) (by kernel_rfl) ?_ (fun q=>?_) fun q=>?_
    · intro m hm
      simp only[List.mem_cons,List.not_mem_nil,or_false]at hm;rcases hm with rfl|rfl|rfl
      · exact Qo qM _ rfl rfl rfl (by omega) (by omega) rfl
      · exact Gm rfl (fun xS hl=>iT aj.en rfl (ri hl rfl)) (fun L w hm=>jB w hm.below) (by omega) rfl rfl rfl
      · exact yW rfl rfl
    · simp only[Np,Nq,Qp,List.map_cons,List.map_nil]
      generalize q 3=gN;generalize q 6=x;generalize q 8=g5;clear q;rw[BD];refine uC (.calm 7 (.one 9 .done)) (by kernel_rfl) rfl ?_
      repeat(first|refine GW ?_|(refine GN ?_;first|refine QW (aU rfl (DV _ _ _ _ _)) ?_))
      refine az rfl ?_;refine aD (i:=4) (cs':=(kZ (Vector.replicate 256 0) (.slice (some ⟨gN,0,none⟩) R.length R.length) (k0 tags.length x)).toArray) rfl rfl rfl (kl _ _ _) (qJ _ rfl rfl) (kl _ _ _) ?_;refine aw (bC [0]) ?_
      try refine GW ?_
      exact c_ (gN,x,g5) trivial (by repeat' (first|exact True.intro|refine And.intro rfl ?_)) (by rw[RN];rfl)
    · rw[show List.filter (fun m:Mk=>!Nat.beq m.i 8) [Np R.length,Nq tags,Qp]=[Np R.length,Nq tags]from rfl]
      simp only[Np,Nq,Qp,List.map_cons,List.map_nil];generalize q 3=gN;generalize q 6=x;clear q;refine uC (.calm 7 (.one 8 (.one 9 .done))) (by kernel_rfl) (by kernel_rfl) ?_
      repeat(first|refine GW ?_|(refine GN ?_;first|refine QW (aU rfl (DV _ _ _ _ _)) ?_))
      refine az rfl ?_;refine aF rfl fun g5=>?_;refine aw (bC [0]) ?_;rw[BD];refine az rfl ?_;refine aD (i:=4) (cs':=(kZ (Vector.replicate 256 0) (.slice (some ⟨gN,0,none⟩) R.length R.length) (k0 tags.length x)).toArray) rfl rfl rfl (kl _ _ _) (qJ _ rfl rfl) (kl _ _ _) ?_;refine aw (bC [0]) ?_
      try refine GW ?_
      exact c_ (gN,x,g5) trivial (by repeat' (first|exact True.intro|refine And.intro rfl ?_)) (by rw[RN];rfl)
  rintro⟨gN,xT,g5⟩ _;dsimp only;generalize hvT:k0 tags.length xT=vT
  try refine GA ?_
  refine sI (K:=DB) rfl fun g6=>?_;refine zL ?_
  try refine GA ?_
  refine ly (Kd R.length [] fun _=> .slice none 0 0) (fun k hk=>?_) (fun w=>⟨fun i _=>World.ownsRow_nil _ _ _ _,fun i j _ _ _ k hk=>?_⟩) ?_
  · rcases hk with hk|⟨i,_,hk⟩
    · cases hk
    · rcases hk with hk|hk<;>cases hk
  · rcases hk with hk|hk<;>cases hk
  conv=>arg 7;simp only[zA,zB,zC,zD,zE,zF,zG,zH,zI,bW,ret,id_eq]
  refine cX (ι:=Nat×(Nat->Value)) (fun(k,_)=>k<=256) (fun(k,_)=>[(1,.pointer (some ⟨g1,0,none⟩)),(2,.pointer (some ⟨g2,0,none⟩)),(5,.pointer (some ⟨g5,0,none⟩)),(6,.map (some g6)),(30,.int .i64 (k:Int))])
    (fun(k,vs)=>[ap g1 (eS (.slice (some ⟨b,off,none⟩) R.length cr) (.slice (some ⟨bb,uO,none⟩) tags.length ct)).cells 98,ap g2 (kZ (Vector.replicate 256 0) (.slice none 0 0) (.slice none 0 0)).toArray 30,dC 26 qM gN R.length vs,aI 3 1 vT tags.length (tags.flatMap bL.dK),ap g5 (kZ (qI R k) (.slice (some ⟨gN,0,none⟩) R.length R.length) vT).toArray 30,dr DB g6 (gu (jI R k)) (jI R k).length,Kd R.length (jI R k) vs]) (fun(k,_)=>256-k) (0,fun _=> .slice none 0 0) (Nat.zero_le _) ?_
  rintro⟨k,vs⟩ hk;dsimp only at hk⊢
  by_cases c1:k<256
  · try refine GA ?_
    refine aF rfl fun g8=>?_;refine zL ?_;rw[Nh,<-TE R k]
    repeat(first|refine GA ?_|refine gV (J ak.ty rfl (ah (i:=0) rfl rfl)) ?_)
    refine cX (ι:=Nat) (fun j=>j<=R.length) (fun j=>[(1,.pointer (some ⟨g1,0,none⟩)),(2,.pointer (some ⟨g2,0,none⟩)),(5,.pointer (some ⟨g5,0,none⟩)),(6,.map (some g6)),(7,.int .i64 (k:Int)),(8,.pointer (some ⟨g8,0,none⟩)),(30,.int .i64 (k:Int)),(34,.slice (some ⟨b,off,none⟩) R.length cr),(35,.int .i64 (R.length:Int)),(36,.int .i64 (j:Int))])
      (fun j=>[ap g1 (eS (.slice (some ⟨b,off,none⟩) R.length cr) (.slice (some ⟨bb,uO,none⟩) tags.length ct)).cells 98,ap g2 (kZ (Vector.replicate 256 0) (.slice none 0 0) (.slice none 0 0)).toArray 30,dC 26 qM gN R.length vs,aI 3 1 vT tags.length (tags.flatMap bL.dK),ap g5 (kZ (qI R k) (.slice (some ⟨gN,0,none⟩) R.length R.length) vT).toArray 30,dr DB g6 (gu (jI R k)) (jI R k).length,Kd R.length (jI R k) vs,ap g8 (qG (yt R k j)).toArray 157]) (fun j=>R.length-j) 0 (Nat.zero_le _) ?_
    intro j hj
    by_cases c2:j<R.length
    · have Ge:=fun(L:List bz)=>fx (W:=w) (L:=L) bQ hr c2
      have hcell:(cZ R[j]).toArray[0+k]?=some (.int .i16 (dN R j k)):=by rw[Nat.zero_add,List.getElem?_toArray,kX _ c1,oZ c2 c1]
      have pG:=Ng R k j (by omega);generalize R[j]=r at*;generalize dN R j k=x at*
      repeat(first|refine GA ?_|refine gV (aH aT.eq ak.ty rfl rfl c2) ?_|refine gV (aK ak.ty rfl (bQ r) (Ge _)) ?_)
      refine aF rfl fun g10=>?_;refine zL ?_
      try refine GA ?_
      refine aD (i:=8) (cs':=(cZ r).toArray) rfl rfl rfl (by rw[List.size_toArray,bQ]) (by simpa using mA r) (by kernel_rfl) ?_;refine zL ?_
      repeat(first|refine GA ?_|refine gV (eL aT.eq ak.ty rfl rfl c1) ?_|refine gV (J ak.ty rfl (ah (i:=8) rfl hcell)) ?_|refine gV (eL aT.eq ak.ty rfl rfl (by omega)) ?_)
      refine DY (i:=7) (b:=j) rfl rfl rfl (by omega) ?_;rw[pG];refine zL ?_
      try refine GA ?_
      refine bR [0,1,2,3,4,5,6,7] ?_;exact aY (j+1) (by omega) (by show R.length-(j+1)<R.length-j;omega)
    · obtain rfl:j=R.length:=by omega
      rw[show yt R k R.length=l9 R k from rfl];have jU:=Ql Qi c1;have TI:=TF (R:=R) c1;have Nt:=If R c1;have Qq:=Qm R k c1;have QY:=uR R k;have hzero:∀w:World,(zeroValue 3).run Tryz.prog w= .ok (.int .i64 0) w:=MJ
      by_cases c2:l9 R k∈jI R k
      · have hD:=Ib c2
        rw[if_pos c2]at TI;generalize l9 R k=eJ at*
        repeat(first|refine GA ?_|refine gV (aE (i:=7) ak.ty rfl rfl (by rw[List.size_toArray,mC])) ?_|refine gV (ob (K:=DB) (x:=eJ) aT.eq hzero (i:=5) rfl rfl rfl jU c2) ?_)
        have ZP:=No (k:=idx (jI R k) eJ) (by rw[<-TI];exact Nt);rw[TI]at Qq;clear TI Nt Qi;generalize jI R k=D at*
        repeat(first|refine GA ?_|refine gV (e7 aT.eq aT.eq rfl ZP) ?_|refine gV (eL aT.eq ak.ty rfl rfl c1) ?_)
        refine xE (i:=4) (b:=k) rfl rfl rfl c1 ?_;rw[Qq];refine zL ?_
        try refine GA ?_
        refine bR [0,1,2,3,4,5,6] ?_;exact aY (k+1,vs) (by show k+1<=256;omega) (by show 256-(k+1)<256-k;omega) (hl:=by dsimp only;rw[hD];rfl)
      · have hD:=Ic c2
        rw[if_neg c2]at TI;have Wu:=fun i hi=>DU R k i hi hle;have ZP:=No (k:=(jI R k).length) (by omega);rw[TI]at Qq;clear TI Nt;generalize l9 R k=eJ at*;generalize hDk:jI R k=D at*
        repeat(first|refine GC ?_|refine gV (aE (i:=7) ak.ty rfl rfl (by rw[List.size_toArray,mC])) ?_|refine gV (oc (K:=DB) (x:=eJ) aT.eq hzero (i:=5) rfl rfl rfl jU c2) ?_|refine gV (pf DB aT.eq (i:=5) rfl rfl) ?_|refine GB ?_)
        refine sJ (K:=DB) (i:=5) (x:=eJ) aT.eq rfl rfl rfl rfl jU c2 (by omega) ?_;refine zL ?_
        repeat(first|refine GA ?_|refine gV (J ak.ty rfl (ah (i:=0) rfl rfl)) ?_)
        refine pI [0,1,2,3,4,5,6] ?_;rw[<-Wt R.length D eJ vs];refine cX (ι:=Nat×(Nat->Value)) (fun(j,_)=>j<=R.length) (fun(j,_)=>[(1,.pointer (some ⟨g1,0,none⟩)),(2,.pointer (some ⟨g2,0,none⟩)),(5,.pointer (some ⟨g5,0,none⟩)),(6,.map (some g6)),(7,.int .i64 (k:Int)),(11,.int .i64 (D.length:Int)),(30,.int .i64 (k:Int)),(61,.slice (some ⟨b,off,none⟩) R.length cr),(62,.int .i64 (R.length:Int)),(63,.int .i64 (j:Int))])
          (fun(j,vs)=>[ap g1 (eS (.slice (some ⟨b,off,none⟩) R.length cr) (.slice (some ⟨bb,uO,none⟩) tags.length ct)).cells 98,ap g2 (kZ (Vector.replicate 256 0) (.slice none 0 0) (.slice none 0 0)).toArray 30,dC 26 qM gN R.length vs,aI 3 1 vT tags.length (tags.flatMap bL.dK),ap g5 (kZ (qI R k) (.slice (some ⟨gN,0,none⟩) R.length R.length) vT).toArray 30,dr DB g6 (gu (D++[eJ])) (D++[eJ]).length,XS R.length D eJ j vs]) (fun(j,_)=>R.length-j) (0,vs) (Nat.zero_le _) ?_
        rintro⟨j,vs⟩ hj;dsimp only at hj⊢
        by_cases c3:j<R.length
        · have Ge:=fun(L:List bz)=>fx (W:=w) (L:=L) bQ hr c3
          have hcell:(cZ R[j]).toArray[0+k]?=some (.int .i16 (dN R j k)):=by rw[Nat.zero_add,List.getElem?_toArray,kX _ c1,oZ c3 c1]
          have hx:=Qi R[j] (List.getElem_mem c3) (dN R j k) (by rw[oZ c3 c1,<-Vector.getElem_toList (h:=by simpa using c1)];exact List.getElem_mem _);have Vp:=Wu j c3;clear Wu;generalize R[j]=r at*;generalize dN R j k=x at*
          repeat(first|refine GA ?_|refine gV (aH aT.eq ak.ty rfl rfl c3) ?_|refine gV (aK ak.ty rfl (bQ r) (Ge _)) ?_)
          refine aF rfl fun g14=>?_;refine zL ?_
          try refine GA ?_
          refine aD (i:=7) (cs':=(cZ r).toArray) rfl rfl rfl (by rw[List.size_toArray,bQ]) (by simpa using mA r) (by kernel_rfl) ?_;refine zL ?_
          try refine GA ?_
          unfold XS;refine EY (q:=6) j rfl c3 ?_;rw[if_neg (Nat.lt_irrefl j)]
          conv=>arg 7;simp only[zA,zB,zC,zD,zE,zF,zG,zH,zI,bW,ret,id_eq]
          (repeat refine bJ ?_)
          refine dw ([ap g1 (eS (.slice (some ⟨b,off,none⟩) R.length cr) (.slice (some ⟨bb,uO,none⟩) tags.length ct)).cells 98,ap g5 (kZ (qI R k) (.slice (some ⟨gN,0,none⟩) R.length R.length) vT).toArray 30,ap g14 (cZ r).toArray 150]) (.calm 0 (.calm 1 (.calm 2 (.calm 3 (.calm 4 (.calm 5 (.calm 6 (.calm 8 (.calm 9 (.calm 10 (.calm 11 (.two 7 (.one 12 (.one 13 (.calm 14 (.one 15 (.done))))) 12 (.one 7 (.one 13 (.calm 14 (.one 15 (.done))))))))))))))))) (bC [0,4,7]) ?_
          repeat(first|refine GW ?_|(refine GN ?_;first|refine QW (J ak.ty rfl (ah (i:=1) rfl (km _ _ _))) ?_|refine QW (aO (j:=j) aT.eq ak.ty rfl rfl c3) ?_|refine QW (eL aT.eq ak.ty rfl rfl c1) ?_|refine QW (J ak.ty rfl (ah (i:=2) rfl hcell)) ?_|refine QW (e7 aT.eq aT.eq rfl (jE (by omega) (by omega))) ?_))
          have hnj:uS (D++[eJ]) j=uS D j++[x]:=by unfold uS;rw[List.map_append,List.map_singleton,Vp]
          have hst:∀v2:Value,∀i,i<R.length->(fun i=>if i=j then v2 else vs i) i=if i=j then v2 else vs i:=fun _ _ _=>rfl
          refine dG rfl rfl ?_ ?_
          · refine cI (J ak.ty rfl (dQ (i:=2) rfl c3)) rfl rfl rfl (aw (bC [0,4,7]) ?_)
            refine az rfl (fj rfl rfl rfl rfl rfl fun g80=>aw (bC [0,4,7]) ?_);refine az rfl (kC (i:=8) (q:=9) rfl rfl rfl rfl rfl rfl (by omega) (by omega) rfl fun v2=>aw (bC [0,4,7]) ?_)
            repeat(first|refine GW ?_|(refine GN ?_;first|refine QW (aO (j:=j) aT.eq ak.ty rfl rfl c3) ?_))
            refine az rfl (aB (i:=8) rfl fun nK sy=>eX (i:=2) (val:=qM) (off:=j) (v:=v2) (fun i=>if i=j then v2 else vs i) ak.ty rfl rfl rfl nK sy c3 (hst v2) (aw (bC [0,4,7]) ?_))
            try refine GW ?_
            try refine GA ?_
            refine Hl j 6 8 [0,1,2,3,4,5] (by decide) rfl rfl rfl (fun h=>h.2 rfl) (D':=fun i=>i<R.length) (f':=fun i=>aI 3 1 ((fun i=>if i=j then v2 else vs i) i) (if i<j+1 then D++[eJ]else D).length ((uS (if i<j+1 then D++[eJ]else D) i).flatMap bL.dK)) (fun q hq=>(by by_cases e:q=j;exact .inr e;exact .inl ⟨hq,e⟩)) (fun q hq=>?_) ?_
            · exact Nr hnj q
            exact aY (j+1,fun i=>if i=j then v2 else vs i) (by show j+1<=R.length;omega) (by show R.length-(j+1)<R.length-j;omega)
          · refine fj rfl rfl rfl rfl rfl fun g80=>aw (bC [0,4,7]) ?_
            refine az rfl (cI (J ak.ty rfl (dQ (i:=2) rfl c3)) rfl rfl rfl (aw (bC [0,4,7]) ?_));refine az rfl (kC (i:=8) (q:=9) rfl rfl rfl rfl rfl rfl (by omega) (by omega) rfl fun v2=>aw (bC [0,4,7]) ?_)
            repeat(first|refine GW ?_|(refine GN ?_;first|refine QW (aO (j:=j) aT.eq ak.ty rfl rfl c3) ?_))
            refine az rfl (aB (i:=8) rfl fun nK sy=>eX (i:=2) (val:=qM) (off:=j) (v:=v2) (fun i=>if i=j then v2 else vs i) ak.ty rfl rfl rfl nK sy c3 (hst v2) (aw (bC [0,4,7]) ?_))
            try refine GW ?_
            try refine GA ?_
            refine Hl j 6 8 [0,1,2,3,4,5] (by decide) rfl rfl rfl (fun h=>h.2 rfl) (D':=fun i=>i<R.length) (f':=fun i=>aI 3 1 ((fun i=>if i=j then v2 else vs i) i) (if i<j+1 then D++[eJ]else D).length ((uS (if i<j+1 then D++[eJ]else D) i).flatMap bL.dK)) (fun q hq=>(by by_cases e:q=j;exact .inr e;exact .inl ⟨hq,e⟩)) (fun q hq=>?_) ?_
            · exact Nr hnj q
            exact aY (j+1,fun i=>if i=j then v2 else vs i) (by show j+1<=R.length;omega) (by show R.length-(j+1)<R.length-j;omega)
        · obtain rfl:j=R.length:=by omega
          refine He (Kd R.length (D++[eJ]) vs) (i:=6) rfl (sK (fun _ h=>h) (Ih _ _ _ _)) (v_ (fun _ h=>h) (Ih _ _ _ _)) ?_
          conv=>arg 7;simp only[zA,zB,zC,zD,zE,zF,zG,zH,zI,bW,ret,id_eq]
          repeat(first|refine GA ?_|refine gV (e7 aT.eq aT.eq rfl ZP) ?_|refine gV (eL aT.eq ak.ty rfl rfl c1) ?_)
          refine xE (i:=4) (b:=k) rfl rfl rfl c1 ?_;rw[Qq];refine zL ?_
          try refine GA ?_
          exact aY (k+1,vs) (by show k+1<=256;omega) (by show 256-(k+1)<256-k;omega) (hl:=by dsimp only;rw[hD])
  · obtain rfl:k=256:=by omega
    repeat(first|refine GA ?_|refine gV (aE (i:=4) ak.ty rfl rfl (kl _ _ _)) ?_)
    refine aB (i:=3) rfl fun nK sy=>?_;refine aD (i:=1) (cs':=(kZ (qI R 256) (.slice (some ⟨gN,0,none⟩) R.length R.length) vT).toArray) rfl rfl rfl (kl _ _ _) (qJ _ rfl sy) (kl _ _ _) ?_;refine zL ?_
    try refine GA ?_
    refine dB (i:=1) rfl rfl rfl (kl _ _ _) rfl fun w hm=>?_;exact hm.meets (S:=Ns R tags) (gN,vs,vT) trivial [2,6,3] (by decide) rfl
end bH
namespace bH
open Go.RowKit bL db bO d_ iK av cV jS bT
def k7(s:Sp):List Rx:=s.words.map (·.2)
def Qr(s:Sp)(r:Int×List Row×List Int):Prop:=
  (∃k:Int,k≠0/\zq (k7 s) (k,.zero)/\r=(k,[],[]))\/
  ∃ (es:List Re) (m:MS),k7 s=es.map il/\(∀e∈es,Fit e 1 0)/\0<es.length/\es.length<=20/\io 0 .zero es=(0,m)/\zq (k7 s) (0,m)/\
    ((o7 s≠0/\r=(o7 s,[],[]))\/(o7 s=0/\(ns m).2.2≠0/\r=((ns m).2.2,[],[]))\/
      (o7 s=0/\(ns m).2.2=0/\jc (ns m).1 (ns m).2.1=0/\r=(0,sc (ns m).1 (ns m).2.1,sd (ns m).1 (ns m).2.1)))
theorem TJ(s:Sp):∃r,Qr s r:=by
  rcases Jv (k7 s)with⟨k,h1,h2⟩|⟨es,m,h1,h2,h3,h4,h5,h6⟩
  · exact⟨_,.inl ⟨k,h1,h2,rfl⟩⟩
  · by_cases c1:o7 s=0
    · by_cases c2:(ns m).2.2=0
      · refine⟨_,.inr ⟨es,m,h1,h2,h3,h4,h5,h6,.inr (.inr ⟨c1,c2,?_,rfl⟩)⟩⟩
        cases hd:ox m with
        |none=>rw[F5 hd]at c2;cases c2
        | some y=>
          obtain⟨R,d⟩:=y;rw[xl hd];exact MQ (uG h3 h4 h5) (s9 hd)
      · exact⟨_,.inr ⟨es,m,h1,h2,h3,h4,h5,h6,.inr (.inl ⟨c1,c2,rfl⟩)⟩⟩
    · exact⟨_,.inr ⟨es,m,h1,h2,h3,h4,h5,h6,.inl ⟨c1,rfl⟩⟩⟩
theorem Nu{F:Nat->Prop}{w:World}{b off:Nat}{l:List Wd}(h:∀i (h:i<l.length),∃cs,sb.is F w cs l[i]/\Rd w b (off+i*sb.c) cs){k:Nat}(hk:k<l.length):
 ∃base cap,Rd w b (off+k*7) (qS l[k].1 l[k].2.kind l[k].2.nU (.slice base l[k].2.kids.length cap))/\gj F w (iP l[k].2.kind l[k].2.nU (.slice base l[k].2.kids.length cap)) l[k].2:=by
 obtain⟨cs,⟨c1,c2,rfl,⟨rfl,h1⟩,h2⟩,h3⟩:=h k hk;have h2:gj F w c2 l[k].2:=h2;have h4:=h2.r;obtain⟨vk,e,-,hs⟩:=h4;obtain⟨base,cap,rfl,-⟩:=hs;have e2:c2=iP l[k].2.kind l[k].2.nU (.slice base l[k].2.kids.length cap):=by
  unfold lR at e;simp only[Value.agg.injEq]at e
  simpa using congrArg Array.toList e
 subst e2;exact⟨base,cap,h3,h2⟩
def uT(w0:World)(words:List Wd)(eM:List (List Value)):Prop:=∀i c,eM[i]?=some c->∃h:i<words.length,qk.is (mU w0) w0 c words[i].2
theorem Gp{w0:World}{words:List Wd}{eM:List (List Value)}{c:List Value}(h:uT w0 words eM)(hk:eM.length<words.length)(hc:qk.is (mU w0) w0 c words[eM.length].2):uT w0 words (eM++[c]):=fun i x hx=>by
 rcases Nat.lt_trichotomy i eM.length with h1|h1|h1
 ·rw[List.getElem?_append_left h1]at hx;exact h i x hx
 ·subst h1
  rw[List.getElem?_concat_length]at hx
  cases hx
  exact⟨hk,hc⟩
 ·rw[List.getElem?_eq_none (by rw[List.length_append,List.length_singleton];omega)]at hx;cases hx
theorem Ae{w0 w:World}(hg:Gr w0 w){words:List Wd}{eM:List (List Value)}{v:Value}(hl:eM.length=words.length)(h:uT w0 words eM)(hr:(aI 68 6 v words.length eM.flatten).holds w):gI qk (mU w) w v (words.map (·.2)):=by
 have he:(cY qk (mU w0) eM (words.map (·.2))).holds w:=⟨⟨by rw[hl,List.length_map],fun i h1 h2=>by
  obtain⟨h3,h4⟩:=h i _ (List.getElem?_eq_getElem h2);rw[List.getElem_map];exact qk.stay h4 fun k hk=>hg.block k hk⟩,fun k hk=>Nat.lt_of_lt_of_le hk hg.size⟩
 have hr:(aI 68 qk.c v (words.map (·.2)).length eM.flatten).holds w:=by rw[List.length_map];exact hr
 exact(AC hr he (by decide)).mono fun k hk=>AD hr he k hk
def DZ(gp:Nat)(s:Sp)(R:List Row)(T:List Int):Spec (Value×Value×(Nat->Prop)×Nat×(Nat->Value)×Value):=
  ⟨fun x=>x.1.oneCell'=true/\x.2.1.oneCell'=true/\x.2.2.2.2.2.oneCell'=true,fun _=> .int .i64 0,fun x=>[ap gp (lu x.1 (kZ (qI R 256) (.slice (some ⟨x.2.2.2.1,0,none⟩) R.length R.length) x.2.2.2.2.2) (sq (aZ s).aJ (aZ s).aR x.2.1 0 (.slice none 0 0) (.slice none 0 0) (.slice none 0 0))).toArray 38,aI 3 1 x.1 s.words.length ((BE s.words).1.map (Value.int .i64)),mY x.2.2.1 x.2.1 (aZ s).ag,
    dC 26 qM x.2.2.2.1 R.length x.2.2.2.2.1,Kd R.length (jI R 256) x.2.2.2.2.1,aI 3 1 x.2.2.2.2.2 T.length (T.flatMap bL.dK)]⟩
def Af(gp:Nat)(s:Sp)(r:Int×List Row×List Int):Spec (Value×Value×(Nat->Prop)×Nat×(Nat->Value)×Value):=
 if r.1=0 then DZ gp s r.2.1 r.2.2 else⟨fun _=>True,fun _=> .int .i64 r.1,fun _=>[]⟩
set_option maxRecDepth 100000 in
theorem D0(vw vr:Value)(s:Sp)(r:Int×List Row×List Int)(hx:Qr s r)(gp:Nat)(w0:World)(hv:M7 (mU w0) w0 (.agg #[vw,vr]) s)(hlw:s.words.length<=60)(G2:s.rules.length<=60)(zO:∀r∈s.rules,r.2.length<=8796093021952)(w:World)(B:bB)(ho:lc w0 B)(hm:Mem B [ap gp Ab.toArray 38] w):
    Calls Tryz.prog 9 #[.agg #[vw,vr],.pointer (some ⟨gp,0,none⟩)] w (dc (Af gp s r) B):=by
  have Nf:=fun w' B' Ax ml=>yv vw vr s gp w0 hv hlw G2 zO w' B' Ax ml;obtain⟨ZM,uH,Ws,hw,-⟩:=hv;obtain⟨rfl,rfl⟩:vw=ZM/\vr=uH:=by simpa using Ws
  clear Ws zO;obtain⟨bw,cw,rfl,-,-,Gl⟩:=hw;have A3:k7 s=s.words.map (·.2):=rfl
  refine eg hm (args:=[.agg #[.slice bw s.words.length cw,vr],.pointer (some ⟨gp,0,none⟩)]) (n:=60) Tryz.func9 rfl rfl rfl ?_;refine bJ (aV (bK rfl rfl rfl fun g2=>?_));refine zL ?_
  repeat(first|refine GA ?_|refine gV (J (v:= .slice bw s.words.length cw) ak.ty rfl (ah (i:=1) rfl rfl)) ?_)
  refine h_ 68 6 ?_;refine cX (ι:=Nat×List (List Value)×Value) (fun(k,eM,vl)=>k<=s.words.length/\eM.length=k/\uT w0 s.words eM)
    (fun(k,_,vl)=>[(1,.pointer (some ⟨gp,0,none⟩)),(2,.pointer (some ⟨g2,0,none⟩)),(5,vl),(13,.slice bw s.words.length cw),(14,.int .i64 s.words.length),(15,.int .i64 (k:Int))])
    (fun(k,eM,vl)=>[ap gp Ab.toArray 38,ap g2 #[.slice bw s.words.length cw,vr] 25,aI 68 6 vl k eM.flatten])
    (fun(k,_,_)=>s.words.length-k) (0,[],.slice none 0 0) ⟨Nat.zero_le _,rfl,fun i c h=>by cases h⟩ ?_
  clear hm;rintro⟨k,eM,vl⟩ ⟨i1,i2,i3⟩;dsimp only at i1 i2 i3⊢
  by_cases c1:k<s.words.length
  · obtain⟨b,off,rfl,_,hr⟩:=Gl (by omega)
    obtain⟨bk,ck,q1,q2⟩:=Nu hr c1;have du:∀(L:List bz) (j:Nat) (u:Value),(qS s.words[k].1 s.words[k].2.kind s.words[k].2.nU (.slice bk s.words[k].2.kids.length ck))[j]?=some u->At B L ⟨b,off+k*7+j,none⟩ u:=fun L j u hj=>fI ho (q1 j u hj);clear hr Gl q1 hx Nf;subst i2;have TB:=Gp i3 c1 q2;clear q2;generalize s.words[eM.length].1=nm at*;generalize s.words[eM.length].2.kind=rk at*;generalize s.words[eM.length].2.nU=rc at*;generalize s.words[eM.length].2.kids.length=rn at*
    repeat(first|refine GA ?_|refine gV (aH aT.eq ak.ty rfl rfl c1) ?_|refine gV (aK (cs:=qS nm rk rc (.slice bk rn ck)) ak.ty rfl rfl (du _)) ?_)
    clear du;refine aF rfl fun g7=>?_;refine zL ?_;refine fU 3 (cs':=(qS nm rk rc (.slice bk rn ck)).toArray) ?_;refine zL ?_
    repeat(first|refine GA ?_|refine gV (aK (cs:=iP rk rc (.slice bk rn ck)) ak.ty rfl rfl (fun j v hj=>ah (i:=3) rfl (Gb hj))) ?_)
    refine jK (i:=2) rfl rfl rfl rfl rfl rfl rfl (fun z h=>by cases h;rfl) (by omega) (by omega) rfl fun z HB=>?_;refine zL ?_
    try refine GA ?_
    refine bR [0,1,2] ?_;exact aY (eM.length+1,eM++[iP rk rc (.slice bk rn ck)],HB) ⟨by omega,by rw[List.length_append];rfl,TB⟩ (by show s.words.length-(eM.length+1)<s.words.length-eM.length;omega) (hl:=by dsimp only;rw[List.flatten_append];simp)
  · obtain rfl:k=s.words.length:=by omega
    clear Gl;rcases hx with⟨k,hk,hR,rfl⟩|⟨es,m,hes,Iy,h0,Xx,hlp,hR,hx⟩
    · have xZ:=fun w' (so:gI qk (mU w') w' vl (k7 s))=>wN vl (k7 s) (k,.zero) w' so hR
      rw[show Af gp s (k,[],[])=⟨fun _=>True,fun _=> .int .i64 k,fun _=>[]⟩from if_neg hk]
      try refine GA ?_
      refine aM (iT aj.en rfl rfl) (fun w hm=>xZ _ (Ae (ho.mem hm) i2 i3 (hm.get (i:=2) rfl))) rfl rfl rfl ?_;rintro⟨nL,nM,XT,dZ,nN,XU,jY,F1⟩ gT
      conv=>arg 8;simp only[zJ,bW,ret,id_eq,lZ,Fo,Fp]
      conv=>arg 7;simp only[lZ,Fp]
      refine aB (i:=3) rfl fun _ a1=>aB (i:=4) rfl fun _ a2=>aB (i:=5) rfl fun _ a3=>aB (i:=6) rfl fun _ a4=>aB (i:=8) rfl fun _ a5=>aB (i:=9) rfl fun _ a6=>?_
      try refine GA ?_
      refine aF rfl fun g4=>?_;refine zL ?_;refine aD (i:=10) (cs':=#[nL,nM,XT,dZ,nN,XU]) rfl rfl rfl rfl (by simp only[List.all_cons,List.all_nil,a1,a2,a3,a4,a5,a6];rfl) rfl ?_;refine zL ?_
      repeat(first|refine GC ?_|refine gV (cB (b:=true) rfl rfl (decide_eq_true hk)) ?_|refine GB ?_)
      exact b_ rfl rfl fun w hm=>hm.bV (S:=⟨fun _=>True,fun _=> .int .i64 k,fun _=>[]⟩) (vl,vl,fun _=>False,0,fun _=>vl,vl) trivial [] (by decide) rfl
    · have xZ:=fun w' (so:gI qk (mU w') w' vl (k7 s))=>wN vl (k7 s) (0,m) w' so hR
      have jU:=uG h0 Xx hlp;have Oj:=fun v' w' h=>yl v' m w' h jU;unfold H2 at Oj
      try refine GA ?_
      refine aM (iT aj.en rfl rfl) (fun w hm=>xZ _ (Ae (ho.mem hm) i2 i3 (hm.get (i:=2) rfl))) rfl rfl rfl ?_;rintro⟨nL,nM,XT,dZ,nN,XU,jY,F1⟩ gT;have gT:jY.length=m.ps.follow.length:=gT
      conv=>arg 8;simp only[zJ,bW,ret,id_eq,lZ,Fo,Fp]
      conv=>arg 7;simp only[lZ,Fp]
      refine aB (i:=3) rfl fun _ a1=>aB (i:=4) rfl fun _ a2=>aB (i:=5) rfl fun _ a3=>aB (i:=6) rfl fun _ a4=>aB (i:=8) rfl fun _ a5=>aB (i:=9) rfl fun _ a6=>?_
      try refine GA ?_
      refine aF rfl fun g4=>?_;refine zL ?_;refine aD (i:=10) (cs':=#[nL,nM,XT,dZ,nN,XU]) rfl rfl rfl rfl (by simp only[List.all_cons,List.all_nil,a1,a2,a3,a4,a5,a6];rfl) rfl ?_;refine zL ?_;clear a1 a2 a3 a4 a5 a6
      repeat(first|refine GC ?_|refine gV (cB (b:=false) rfl rfl (decide_eq_false (by simp))) ?_|refine gV (aE (i:=1) ak.ty rfl rfl rfl) ?_|refine GB ?_)
      refine aP [0] [3,4,5,6,7,8,9,10] (by decide) rfl rfl (fh aj.en rfl rfl rfl) (fun w' ml hb=>Nf w' _ (lc.on ho ml (fun o ho=>by simp at ho;subst ho;simp)) hb) rfl rfl rfl ?_;rintro⟨vo,vp,F⟩ ⟨k1,k2⟩
      conv=>arg 8;simp only[zJ,bW,ret,id_eq,BF,xC]
      conv=>arg 7;simp only[BF,xC]
      have jN:∀e:Int,e≠0->Af gp s (e,[],[])=⟨fun _=>True,fun _=> .int .i64 e,fun _=>[]⟩:=fun e he=>if_neg he;have rm:∀R T,Af gp s (0,R,T)=DZ gp s R T:=fun R T=>if_pos rfl
      by_cases d1:o7 s≠0
      · obtain rfl:r=(o7 s,[],[]):=by
          rcases hx with⟨-,h⟩|⟨h,-⟩|⟨h,-⟩
          · exact h
          · exact absurd h d1
          · exact absurd h d1
        rw[jN _ d1]
        repeat(first|refine GC ?_|refine gV (cB (b:=true) rfl rfl (decide_eq_true d1)) ?_|refine GB ?_)
        exact b_ rfl rfl fun w hm=>hm.bV (S:=⟨fun _=>True,fun _=> .int .i64 (o7 s),fun _=>[]⟩) (vl,vl,fun _=>False,0,fun _=>vl,vl) trivial [] (by decide) rfl
      have d1:o7 s=0:=Decidable.of_not_not d1;rw[d1];have hx:=hx.resolve_left (fun h=>h.1 d1);generalize ns m=D at*;obtain⟨R,T,e⟩:=D;dsimp only at Oj hx⊢
      repeat(first|refine GC ?_|refine gV (cB (b:=false) rfl rfl (decide_eq_false (by simp))) ?_|refine gV (aE (i:=7) ak.ty rfl rfl rfl) ?_|refine GB ?_)
      refine aM (iT aj.en rfl rfl) (fun w hm=>Oj _ w (hm.YU (x:=⟨nL,nM,XT,dZ,nN,XU,jY,F1⟩) 0 gT rfl (by simp))) rfl rfl rfl ?_;rintro⟨vrr,vtt⟩ _
      conv=>arg 8;simp only[zJ,bW,ret,id_eq,eS]
      conv=>arg 7;simp only[eS]
      refine aB (i:=11) rfl fun _ a1=>aB (i:=12) rfl fun _ a2=>?_
      try refine GA ?_
      refine aF rfl fun g6=>?_;refine zL ?_;refine aD (i:=13) (cs':=#[vrr,vtt]) rfl rfl rfl rfl (by simp only[List.all_cons,List.all_nil,a1,a2];rfl) rfl ?_;refine zL ?_;clear a1 a2
      by_cases d2:e≠0
      · obtain rfl:r=(e,[],[]):=by
          rcases hx with⟨-,-,h⟩|⟨-,h,-⟩
          · exact h
          · exact absurd h d2
        rw[jN _ d2]
        repeat(first|refine GC ?_|refine gV (cB (b:=true) rfl rfl (decide_eq_true d2)) ?_|refine GB ?_)
        exact b_ rfl rfl fun w hm=>hm.bV (S:=⟨fun _=>True,fun _=> .int .i64 e,fun _=>[]⟩) (vl,vl,fun _=>False,0,fun _=>vl,vl) trivial [] (by decide) rfl
      have d2:e=0:=Decidable.of_not_not d2;subst d2;obtain⟨nK,rfl⟩:jc R T=0/\r=(0,sc R T,sd R T):=by
        rcases hx with⟨-,h,-⟩|⟨-,-,h,h2⟩
        · exact absurd rfl h
        · exact⟨h,h2⟩
      rw[rm];have TK:=fun vr vt w' h=>yq vr vt R T w' h;have Hb:=H' nK;unfold Qh at TK;rw[nK]at TK;generalize sc R T=MR at*;generalize sd R T=MT at*;have hpc:=fun vr vt w' h=>Gn vr vt MR MT w' h Hb;unfold Ns at hpc
      repeat(first|refine GC ?_|refine gV (cB (b:=false) rfl rfl (decide_eq_false (by simp))) ?_|refine gV (aE (i:=13) ak.ty rfl rfl rfl) ?_|refine GB ?_)
      refine aM (iT aj.en rfl rfl) (fun w hm=>TK _ _ w (hm.Wq (i:=11) (j:=12) rfl (by rw[mv];rfl) nK)) rfl rfl rfl ?_;rintro⟨mr,mt⟩ _;refine zL ?_;dsimp only;refine aB (i:=14) rfl fun _ d1=>aB (i:=15) rfl fun _ d2=>?_
      try refine GA ?_
      refine aD (i:=13) (cs':=(eS mr mt).cells) rfl rfl rfl rfl (by show([mr,mt].all Value.oneCell')=true;simp[d1,d2]) rfl ?_;refine zL ?_
      repeat(first|refine GA ?_|refine gV (aE (i:=13) ak.ty rfl rfl rfl) ?_)
      refine aM (iT aj.en rfl rfl) (fun w hm=>hpc _ _ w (hm.Wq (i:=14) (j:=15) rfl rfl Hb)) rfl rfl rfl ?_;rintro⟨gP,qN,ZQ⟩ _;refine zL ?_;dsimp only;refine aB (i:=18) rfl fun _ d3=>?_
      try refine GA ?_
      refine Gf (i:=8) (pk':=kZ (qI MR 256) (.slice (some ⟨gP,0,none⟩) MR.length MR.length) ZQ) rfl rfl rfl (by have:=qJ (qI MR 256) (vn:= .slice (some ⟨gP,0,none⟩) MR.length MR.length) (vt:=ZQ) rfl d3;simpa using this) rfl fu (pA _ _ _) ?_;refine zL ?_
      try refine GA ?_
      exact b_ rfl rfl fun w hm=>hm.bV (S:=DZ gp s MR MT) (vo,vp,F,gP,qN,ZQ) ⟨k1,k2,d3⟩ [8,9,10,16,17,18] (by decide) rfl
end bH
namespace bH
open Go.RowKit bL db bO d_ iK
theorem Gq(r:Rl)(l:List Rl)(of:List Bs):l8 (r::l) of=if nt r.1=false then 1 else if r.1∈of then 11 else l8 l of:=rfl
theorem Ke(of hd:List Bs)(x:Bs)(l:List Bs):ta of hd (x::l)=((decide (x∈of)||decide (x∈hd))&&ta of hd l):=rfl
theorem D4(of hd:List Bs)(r:Rl)(l:List Rl):mE of hd (r::l)=(ta of hd r.2&&mE of hd l):=rfl
theorem yw(v:Value)(s:Sp)(w:World)(h:M7 (mU w) w v s):Calls Tryz.prog 8 #[v] w (bU (ret (.int .i64 (kY s))) w):=by
  obtain⟨vw,vr,rfl,hw,hr⟩:=h;have ZE:=fun s w=>tS s w;have hwd:=fun gm w' B ho hl hm=>DS vw vr s.words gm w hw hl w' B ho hm;obtain⟨bw,cw,rfl,-⟩:=hw;obtain⟨br,cr,rfl,hcr,VE,Pn⟩:=hr;unfold maxLen at VE;have hC:kY s=if 60<s.words.length\/60<s.words.length+s.rules.length then 2 else if(ig s.words []).1≠0 then(ig s.words []).1 else if l8 s.rules (ig s.words []).2≠0 then l8 s.rules (ig s.words []).2 else if mE (ig s.words []).2 (s.rules.map (·.1)) s.rules=true then 0 else 11:=rfl
  obtain⟨words,rules⟩:=s;dsimp only at*;refine enter (args:=[.agg #[.slice bw words.length cw,.slice br rules.length cr]]) (n:=99) Tryz.func8 rfl rfl rfl ?_;refine bJ (aV (bK rfl rfl rfl fun g1=>?_));refine zL ?_
  by_cases c0:60<words.length
  · rw[if_pos (.inl c0)]at hC
    rw[hC]
    repeat(first|refine GA ?_|refine gV (J (v:= .slice bw words.length cw) ak.ty rfl (ah (i:=0) rfl rfl)) ?_)
    exact dh rfl rfl rfl
  by_cases c1:60<words.length+rules.length
  · rw[if_pos (.inr c1)]at hC
    rw[hC]
    repeat(first|refine GA ?_|refine gV (J (v:= .slice bw words.length cw) ak.ty rfl (ah (i:=0) rfl rfl)) ?_|refine gV (J (v:= .slice br rules.length cr) ak.ty rfl (ah (i:=0) rfl rfl)) ?_)
    exact dh rfl rfl rfl
  rw[if_neg (by omega)]at hC;rw[hC]
  repeat(first|refine GA ?_|refine gV (J (v:= .slice bw words.length cw) ak.ty rfl (ah (i:=0) rfl rfl)) ?_|refine gV (J (v:= .slice br rules.length cr) ak.ty rfl (ah (i:=0) rfl rfl)) ?_)
  refine qj eB rfl fun g3=>?_;refine zL ?_;refine qj eB rfl fun g4=>?_;refine zL ?_
  repeat(first|refine GA ?_|refine gV (aE (i:=0) ak.ty rfl rfl rfl) ?_)
  refine aP [1] [0,2] (by decide) rfl rfl (fh aj.en rfl rfl rfl) (fun w' ml hb=>hwd g3 w' _ (lc.on (lc.self w) ml (fun o ho=>by simp at ho;subst ho;simp)) (by omega) hb) rfl rfl rfl ?_;rintro⟨m,n⟩ ⟨k1,k2⟩
  conv=>arg 8;simp only[zJ,bW,ret,id_eq,nu]
  conv=>arg 7;simp only[nu]
  generalize ig words []=W at*;obtain⟨e,of⟩:=W;dsimp only at k1 k2⊢
  by_cases e0:e=0
  · subst e0
    rw[if_neg (by simp)]
    repeat(first|refine GA ?_|refine gV (J (v:= .slice br rules.length cr) ak.ty rfl (ah (i:=0) rfl rfl)) ?_)
    generalize jh:l8 rules of=fin;refine cX (ι:=Nat×(Bs->Option Value)×Nat) (fun(k,m2,n2)=>k<=rules.length/\n2<=k/\KeysOf m2 ((rules.take k).map (·.1))/\l8 (rules.drop k) of=fin) (fun(k,_,_)=>[(1,.pointer (some ⟨g1,0,none⟩)),(3,.map (some g3)),(4,.map (some g4)),(41,.slice br rules.length cr),(42,.int .i64 rules.length),(43,.int .i64 (k:Int))])
      (fun(_,m2,n2)=>[ap g1 #[.slice bw words.length cw,.slice br rules.length cr] 25,dr eB g4 m2 n2,dr eB g3 m n]) (fun(k,_)=>rules.length-k) (0,fun _=>none,0) ⟨Nat.zero_le _,Nat.le_refl _,fun y=>rfl,jh⟩ ?_
    rintro⟨k,m2,n2⟩ ⟨i1,i2,i3,i4⟩;dsimp only at i1 i2 i3 i4⊢
    by_cases c2:k<rules.length
    · obtain⟨b,off,rfl,_,eV⟩:=Pn (by omega)
      obtain⟨bk,ck,q1,-,q3⟩:=uQ eV c2;rw[List.drop_eq_getElem_cons c2,Gq]at i4;have Dw:(rules.take (k+1)).map (·.1)=(rules.take k).map (·.1)++[rules[k].1]:=by rw[List.take_succ_eq_append_getElem c2,List.map_append];rfl
      have du:∀(L:List bz) (j:Nat) (u:Value),([str rules[k].1,.slice bk rules[k].2.length ck]:List Value)[j]?=some u->At w L ⟨b,off+k*2+j,none⟩ u:=fun L j u hj=>iv (q1 j u hj);clear eV q1;generalize rules[k]=r at*;obtain⟨nm,bd⟩:=r;dsimp only at*;generalize bd.length=bn at*
      repeat(first|refine GA ?_|refine gV (aH aT.eq ak.ty rfl rfl c2) ?_|refine gV (aK (cs:=[str nm,.slice bk bn ck]) ak.ty rfl rfl (du _)) ?_)
      clear du;refine aF rfl fun g7=>?_;refine zL ?_
      try refine GA ?_
      refine fU 3 (cs':=#[str nm,.slice bk bn ck]) ?_;refine zL ?_
      repeat(first|refine GA ?_|refine gV (J (v:=str nm) ak.ty rfl (ah (i:=3) rfl rfl)) ?_)
      refine aM (iT aj.en rfl rfl) (fun w hm=>ZE nm w) rfl rfl rfl ?_;intro _ _;refine zL ?_
      cases hb:nt nm with
      | false=>
        rw[if_pos hb]at i4;subst i4;rw[if_pos (by decide)]
        try refine GA ?_
        exact dh rfl rfl rfl
      | true=>
        rw[if_neg (by rw[hb];decide)]at i4
        cases tN:m nm with
        | some u=>
          rw[if_pos (mF k1 tN)]at i4;subst i4;rw[if_pos (by decide)]
          repeat(first|refine GA ?_|refine gV (J (v:=str nm) ak.ty rfl (ah (i:=3) rfl rfl)) ?_|refine gV (fL eB (x:=nm) aT.eq ef (i:=2) rfl rfl rfl q3 tN) ?_)
          exact dh rfl rfl rfl
        | none=>
          rw[if_neg (mG k1 tN)]at i4
          repeat(first|refine GA ?_|refine gV (J (v:=str nm) ak.ty rfl (ah (i:=3) rfl rfl)) ?_|refine gV (fM eB (x:=nm) aT.eq ef (i:=2) rfl rfl rfl q3 tN) ?_)
          refine iF (i:=1) (x:=nm) (v:= .int .i64 (k:Int)) eB aT.eq rfl rfl rfl rfl q3 (by omega) ?_;refine zL ?_
          try refine GA ?_
          refine bR [0,1,2] ?_;exact eZ (k+1,_,_) ⟨by omega,by show(if(m2 nm).isSome then n2 else n2+1)<=k+1;split<;>omega,by show KeysOf _ ((rules.take (k+1)).map (·.1));rw[Dw];exact DR i3,i4⟩ (by show rules.length-(k+1)<rules.length-k;omega) (by repeat' (first|exact True.intro|refine And.intro rfl ?_)) rfl
    · obtain rfl:k=rules.length:=by omega
      rw[List.drop_length]at i4;subst i4;rw[List.take_length]at i3;rw[if_neg (by simp[l8])];generalize rules.map (·.1)=hd at*
      repeat(first|refine GA ?_|refine gV (J (v:= .slice br rules.length cr) ak.ty rfl (ah (i:=0) rfl rfl)) ?_)
      refine pI [1,2] ?_;generalize jh:mE of hd rules=fin;refine cX (ι:=Nat) (fun k=>k<=rules.length/\mE of hd (rules.drop k)=fin) (fun k=>[(3,.map (some g3)),(4,.map (some g4)),(66,.slice br rules.length cr),(67,.int .i64 rules.length),(68,.int .i64 (k:Int))])
        (fun _=>[dr eB g4 m2 n2,dr eB g3 m n]) (fun k=>rules.length-k) 0 ⟨Nat.zero_le _,jh⟩ ?_
      rintro k ⟨i5,i6⟩
      by_cases c2:k<rules.length
      · obtain⟨b,off,rfl,_,eV⟩:=Pn (by omega)
        obtain⟨bk,ck,q1,q2,q3⟩:=uQ eV c2;rw[List.drop_eq_getElem_cons c2,D4]at i6;have du:∀(L:List bz) (j:Nat) (u:Value),([str rules[k].1,.slice bk rules[k].2.length ck]:List Value)[j]?=some u->At w L ⟨b,off+k*2+j,none⟩ u:=fun L j u hj=>iv (q1 j u hj);have so:=q2.flat (by decide);have jU:=q2.Yk;clear eV q1 q2;generalize rules[k]=r at*;obtain⟨nm,bd⟩:=r;dsimp only at*;obtain⟨b2,Oe,lg,vz,Ox,Kb⟩:=so
        cases lg
        unfold maxLen at Ox
        repeat(first|refine GA ?_|refine gV (aH aT.eq ak.ty rfl rfl c2) ?_|refine gV (aK (cs:=[str nm,.slice bk bd.length ck]) ak.ty rfl rfl (du _)) ?_)
        clear du;refine aF rfl fun g11=>?_;refine zL ?_;refine fU 2 (cs':=#[str nm,.slice bk bd.length ck]) ?_;refine zL ?_
        repeat(first|refine GA ?_|refine gV (J (v:= .slice bk bd.length ck) ak.ty rfl (ah (i:=2) rfl rfl)) ?_)
        refine pI [0,1] ?_;generalize Wv:ta of hd bd=Ww at i6;refine cX (ι:=Nat) (fun i=>i<=bd.length/\ta of hd (bd.drop i)=Ww) (fun i=>[(3,.map (some g3)),(4,.map (some g4)),(66,.slice (some ⟨b,off,none⟩) rules.length cr),(67,.int .i64 rules.length),(68,.int .i64 (k:Int)),(73,.slice bk bd.length ck),(74,.int .i64 bd.length),(75,.int .i64 (i:Int))])
          (fun _=>[dr eB g4 m2 n2,dr eB g3 m n]) (fun i=>bd.length-i) 0 ⟨Nat.zero_le _,Wv⟩ ?_
        rintro i ⟨i7,i8⟩
        by_cases c3:i<bd.length
        · obtain⟨b3,ZN,rfl,yY⟩:=Kb (by omega)
          have du:=fx (L:=([dr eB g4 m2 n2,dr eB g3 m n]:List bz)) H8 yY c3 0 _ rfl;rw[List.drop_eq_getElem_cons c3,Ke]at i8;have hlen:=jU bd[i] (List.getElem_mem c3);clear yY jU Kb;generalize bd[i]=x at*
          repeat(first|refine GA ?_|refine gV (aH aT.eq ak.ty rfl rfl c3) ?_|refine gV (J (v:=str x) ak.ty rfl du) ?_)
          cases tN:m x with
          | some u=>
            rw[decide_eq_true (mF k1 tN),Bool.true_or,Bool.true_and]at i8
            cases Gs:m2 x with
            | some u2=>
              repeat(first|refine GA ?_|refine gV (fL eB (x:=x) aT.eq ef (i:=1) rfl rfl rfl hlen tN) ?_|refine gV (fL eB (x:=x) aT.eq ef (i:=0) rfl rfl rfl hlen Gs) ?_)
              exact aY (i+1) ⟨by omega,i8⟩ (by show bd.length-(i+1)<bd.length-i;omega)
            | none=>
              repeat(first|refine GA ?_|refine gV (fL eB (x:=x) aT.eq ef (i:=1) rfl rfl rfl hlen tN) ?_|refine gV (fM eB (x:=x) aT.eq ef (i:=0) rfl rfl rfl hlen Gs) ?_)
              exact aY (i+1) ⟨by omega,i8⟩ (by show bd.length-(i+1)<bd.length-i;omega)
          | none=>
            cases Gs:m2 x with
            | some u2=>
              rw[decide_eq_true (mF i3 Gs),Bool.or_true,Bool.true_and]at i8
              repeat(first|refine GA ?_|refine gV (fM eB (x:=x) aT.eq ef (i:=1) rfl rfl rfl hlen tN) ?_|refine gV (fL eB (x:=x) aT.eq ef (i:=0) rfl rfl rfl hlen Gs) ?_)
              exact aY (i+1) ⟨by omega,i8⟩ (by show bd.length-(i+1)<bd.length-i;omega)
            | none=>
              rw[decide_eq_false (mG k1 tN),decide_eq_false (mG i3 Gs),Bool.or_false,Bool.false_and]at i8;subst i8;rw[Bool.false_and]at i6;rw[<-i6,if_neg (by decide)]
              repeat(first|refine GA ?_|refine gV (fM eB (x:=x) aT.eq ef (i:=1) rfl rfl rfl hlen tN) ?_|refine gV (fM eB (x:=x) aT.eq ef (i:=0) rfl rfl rfl hlen Gs) ?_)
              exact dh rfl rfl rfl
        · obtain rfl:i=bd.length:=by omega
          rw[List.drop_length]at i8;have i8:true=Ww:=i8;rw[<-i8,Bool.true_and]at i6
          try refine GA ?_
          exact aY (k+1) ⟨by omega,i6⟩ (by show rules.length-(k+1)<rules.length-k;omega)
      · obtain rfl:k=rules.length:=by omega
        rw[List.drop_length]at i6;have i6:true=fin:=i6;rw[<-i6,if_pos rfl]
        try refine GA ?_
        exact dh rfl rfl rfl
  · rw[if_pos e0]
    repeat(first|refine GC ?_|refine gV (cB (b:=true) rfl rfl (decide_eq_true e0)) ?_|refine GB ?_)
    exact dh rfl rfl rfl
end bH
end Go.Proofs.YtldiodhdefnlaaaGreat

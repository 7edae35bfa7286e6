/- Part 6 of what SpecMode needs: LlM, LrA, LrK, SpecU, SpecI, SpecJ, LlC, SpecModeW. -/
import Derived.Test.YtldiodhdefnlaaaMgE
import Derived.WalkKit
import Derived.WalkSpells
import Derived.WalkLawsBesides
import Derived.Deep.RegionLaw
import Derived.Deep.AppendLies
import Derived.Deep.QuietTactic
import Derived.BigQuiet
import Derived.Deep.DeepCutAuto
import Derived.Lib.Hide
import Derived.Test.YtldiodhdefnlaaaRows
import Derived.ProofKit
import Derived.OpenShut
import Derived.ShutString
import Derived.SizedLaws
import Derived.JoinedCond
import Derived.Deep.CondSized
import Derived.Deep.Quiet
import Derived.StillTail
import Derived.Deep.LoopGhost
import Derived.Laws.BitsLemmas
import Derived.Laws.BytesString
import Derived.Test.YtldiodhdefnlaaaProg
import Derived.Laws.Entries
import Derived.Laws.BitsAllLaws
import Derived.Lib.TrailingZeros
import Derived.Laws.StructEq
import Derived.Laws.MakeOwn
import Derived.Laws.AppendOwn
import Derived.Maps.OwnSet
import Derived.DeepKeys4
import Derived.WideKeyEntry
import Derived.ChangeKeysEq
import Derived.Laws.Bits64b
import Derived.StringKeys
import Derived.Lib.SlicesCompact
import Derived.Shelf.Sort.Plain
import Derived.Ground.Names2Prog
import Derived.Shelf.Slices.CompactI
import Derived.Shelf.Slices.In.SortNone
import Derived.Lib.RowBridge
import Derived.Sort.Grow
import Derived.Lib.Walk
import Derived.Deep.RegionWith
import Derived.Deep.RegionHeld
import Derived.Shelf.SlGeneric
import Derived.Shelf.SlSortCmp.NoneTotal
import Derived.Ground.SlsfProg
import Derived.Lib.Strings
import Derived.Lib.Slices
import Derived.Lib.Bytealg
import Derived.Lib.IndexMore
/- LlM -/
namespace Go.Proofs.Ytldiodhdefnlaaa.eng
open Go.RowKit kit mix gramL treeL countL factsL derL llL
attribute [local irreducible] Op.shift Go.bits in
theorem bit_calls (t:Nat) (n:Int) (vp:Value) (col:Nat) (w:World) (ht:t≤30) (hc:col≤t) (hv:∃ b m c,vp = .slice b m c) :
    Calls Try.prog 14 #[graV (t:Int) n vp,.int .i64 (col:Int)] w (Meets (ret (bitV (bitC t col))) w):=by
  obtain⟨b,m,c,rfl⟩:=hv
  have hsh:=fun w=>shl1 (P:=Try.prog) col (by omega) w
  unfold bitC
  refine enter (args:=[graV (t:Int) n (.slice b m c),.int .i64 (col:Int)]) (n:=11) Try.func14 rfl rfl rfl ?_
  refine T_seq (T_region (TL_box rfl rfl rfl fun g2 => ?_))
  by_cases e:col=t
  · rw[if_pos e]
    repeat(first|refine GA ?_|refine gV (rr_load1 TyC.ty rfl (at_blk (i:=0) rfl rfl)) ?_)
    exact E_ret1 rfl rfl fun w hm=>hm.ret
  · rw[if_neg e]
    repeat(first|refine GA ?_|refine gV (rr_load1 TyC.ty rfl (at_blk (i:=0) rfl rfl)) ?_|refine gV (rr_shl rfl rfl hsh) ?_)
    exact E_ret1 rfl rfl fun w hm=>hm.ret
def clC (x:Cl):List Value:=[.int .i64 x.1,.int .i64 x.2.1,.int .i64 x.2.2.1,.int .i64 x.2.2.2]
theorem build_cl (a b c d:Int) (w:World):(Instr.build 69 #[(0,.int .i64 a),(1,.int .i64 b),(2,.int .i64 c),(3,.int .i64 d)]).run Try.prog w = .ok (.agg (clC (a,b,c,d)).toArray) w:=by
  unfold clC;go_simp
abbrev vals (v:Value):Value:=v
def intV (n:Int):Value:= .int .i64 n
def cntL (T n c j:Nat):Nat:=if j<n then T+1 else if j=n then c else 0
def rowsF (l:List gramL.Prod) (may:Nat→Nat) (T:Nat) (vs:Nat→Value) (n c:Nat) (j:Nat):Own:=rowO 3 1 (vs j) (cntL T n c j) ((tabA (cntL T n c j) (llL.rowAt l may T j)).map intV)
def makeS (N T:Nat) (l:List gramL.Prod) (may:Nat→Nat):Spec (Nat×(Nat→Value)×Value):=
  ⟨fun _=>True,fun x=> .tuple #[.slice (some ⟨x.1,0,none⟩) N N,x.2.2,.int .i64 0],fun x=>[rowA 26 vals x.1 N x.2.1,famP (fun j=>j<N) (rowsF l may T x.2.1 N 0),rowO 69 4 x.2.2 (rowO' l may T N).length ((rowO' l may T N).flatMap clC)]⟩
def mayG (n:Nat) (l:List gramL.Prod) (i:Nat):Nat:=beginF (ofS n l).E (ofF n l) (prodAt l (i:Int)).2 ((ofW n l).getD (prodAt l (i:Int)).1.toNat 0)
section
variable {l:List gramL.Prod} {may:Nat→Nat} {T:Nat}
theorem outL_len (n col:Nat):∀ (k:Nat) (out:List Cl),(outL l may T n col k out).length≤out.length+k
  | 0,out=>by rw[outL];omega
  | k + 1,out=>by
    have:=outL_len n col k out
    rw[outL]
    split
    · split
      · omega
      · rw[List.length_append];simp;omega
    · omega
theorem colO_len (n:Nat):∀ (c:Nat) (out:List Cl),(colO l may T n c out).length≤out.length+c*l.length
  | 0,out=>by rw[colO];omega
  | c+1,out=>by
    have h1:=colO_len n c out
    have h2:=outL_len (l:=l) (may:=may) (T:=T) n c l.length (colO l may T n c out)
    rw[colO,Nat.succ_mul];omega
theorem rowO_len:∀ (N:Nat),(rowO' l may T N).length≤N*((T+1)*l.length)
  | 0=>by rw[rowO'];simp
  | N+1=>by
    have h1:=rowO_len N
    have h2:=colO_len (l:=l) (may:=may) (T:=T) N (T+1) (rowO' l may T N)
    rw[rowO',Nat.succ_mul];omega
end
theorem ofW_okW2 {g:Gram} {n:Nat} (hck:checkG g=0) (hn:g.nons=n):okW n (ofW n g.prods):=by
  obtain⟨_,_,a3,_⟩:=checkG_ok hck
  have hf:=fine_of hck hn
  have hF:=(ofW_ok hck hn).2
  have hfl:=fallsW (E:=(ofS n g.prods).E) hF hf
  obtain⟨s',h1,h2,h3⟩:=fix_end hfl _ ((List.replicate n 0).set 0 9223372036854775808) ⟨by simp,fun x hx=>by
    rcases List.mem_or_eq_of_mem_set hx with h | h
    · rw[List.eq_of_mem_replicate h];decide
    · rw[h];decide⟩ (Nat.le_refl _)
  obtain⟨_,h4,h5⟩:=passW_still _ _ _ h2
  have h6:ofW n g.prods=s':=by unfold ofW setsW;rw[h3];exact h4
  rw[h6]
  exact h1
attribute [local irreducible] Op.shift Go.bits Instr.build in
set_option maxRecDepth 100000 in
set_option maxHeartbeats 16000000 in
theorem llMake_calls (v:Value) (g:Gram) (w:World) (h:GraR (fun k=>k<w.heap.size) w v g) (hg:checkG g=0) (T N:Nat) (hT:g.terms=T) (hN:g.nons=N) :
    Calls Try.prog 5 #[v] w (Meets (makeS N T g.prods (mayG N g.prods)) w):=by
  obtain⟨a1,a2,a3,a4,a5,a6⟩:=checkG_ok hg
  have hof:=fun w' (hg':Gr w w')=>of_calls v g w' (h.gr hg') hg N hN
  have hbe:∀ body:List Sym,body∈g.prods.map (·.2)→begE g body=0∧∀ b,begV g body b=beginF (ofS N g.prods).E (ofF N g.prods) body b:=fun body hb=>by
    obtain⟨p,hp,rfl⟩:=List.mem_map.1 hb
    obtain⟨b1,b2,b3,b4⟩:=a6 p hp
    have e:begE g p.2=0:=by
      unfold begE
      rw[if_neg (by simpa using hg),if_neg (by omega)]
      exact badE_of b4
    refine⟨e,fun b => ?_⟩
    unfold begV
    rw[if_pos e,show g.nons.toNat=N by omega]
  have hBg:=fun vb body b w' (hg:Gr w w') hs=>factsBegin_calls v vb g body b w' (h.gr hg) hs
  obtain⟨_,hF⟩:=ofW_ok hg hN
  have hWW:=ofW_okW2 hg hN
  have hfi:=fineC_of hg hN
  have hmay:mayG N g.prods=fun i:Nat=>beginF (ofS N g.prods).E (ofF N g.prods) (prodAt g.prods (i:Int)).2 ((ofW N g.prods).getD (prodAt g.prods (i:Int)).1.toNat 0):=rfl
  have hmlt:∀ i,mayG N g.prods i<18446744073709551616:=fun i=>by
    refine beginF_lt hF (getD_lt hWW _) fun x hx h1 => ?_
    by_cases c:i<g.prods.length
    · rw[prodAt_get c] at hx
      have:=(a6 _ (List.getElem_mem c)).2.2.2 x hx
      unfold right at this
      rw[if_pos h1] at this
      simp at this;omega
    · unfold prodAt at hx
      rw[Int.toNat_natCast,List.getD_eq_getElem?_getD,List.getElem?_eq_none (by omega)] at hx
      cases hx
  generalize hmm:mayG N g.prods=may at *
  obtain⟨vp,rfl,h1,_⟩:=h
  obtain⟨t,nn,prods⟩:=g
  dsimp only at *
  subst hT hN
  have h10:=h1
  obtain⟨bp,cp,rfl,hcp,hmp,hrp⟩:=h1
  unfold maxLen at hmp
  refine enter (args:=[graV (T:Int) (N:Int) (.slice bp prods.length cp)]) (n:=119) Try.func5 rfl rfl rfl ?_
  refine T_seq (T_region (TL_box rfl rfl rfl fun g1 => ?_))
  conv=>arg 8;simp only[zA,zB,zC,zD,zE,zF,zG,zH,zI,rowS,ret,id_eq]
  repeat(first|refine GA ?_|refine gV (rr_loadB (i:=0) TyC.ty rfl rfl rfl) ?_)
  refine TL_call (he1 EntersC.en rfl rfl) (fun w' hm=>(hof w' hm.below).mono fun e w2 h=>meets_of h) rfl rfl rfl ?_
  intro x _
  conv=>arg 8;simp only[zA,zB,zC,zD,zE,zF,zG,zH,zI,rowS,ret,id_eq,Rows5.val]
  refine TL_pick [0,3] (by decide) rfl ?_
  try refine GA ?_
  refine TL_new rfl fun g5 => ?_
  refine TL_storeB (i:=2) rfl rfl rfl rfl rfl rfl ?_
  conv=>arg 8;simp only[zA,zB,zC,zD,zE,zF,zG,zH,zI,rowS,ret,id_eq]
  repeat(first|refine GA ?_|refine gV (rr_load1 TyC.ty rfl (at_blk (i:=0) rfl rfl)) ?_)
  have hz:ZeroC Try.prog 64 #[bitV 0]:=(inferInstance:ZeroC Try.prog 64 #[.int .u64 0])
  refine TL_makeA bitV 0 rfl rfl (by omega) (by omega) rfl fun g7 => ?_
  conv=>arg 8;simp only[zA,zB,zC,zD,zE,zF,zG,zH,zI,rowS,ret,id_eq]
  repeat(first|refine GA ?_|refine gV (rr_load1 TyC.ty rfl (at_blk (i:=0) rfl rfl)) ?_)
  refine T_loop (ι:=Nat) (fun k=>k≤prods.length) (fun k=>[(1,.pointer (some ⟨g1,0,none⟩)),(5,.pointer (some ⟨g5,0,none⟩)),(7,.slice (some ⟨g7,0,none⟩) prods.length prods.length),(30,.slice bp prods.length cp),(31,.int .i64 prods.length),(32,.int .i64 (k:Int))])
    (fun k=>[blkO g1 (graV (T:Int) (N:Int) (.slice bp prods.length cp)).cells 33,rowNn N x.gW x.cW (ofW N prods),blkO g5 (facV (vRow N x.gE x.cE) (vRow N x.gF x.cF) (vRow N x.gW x.cW) (vRow N x.gR x.cR) (vRow N x.gM x.cM)).cells 48,rowA 64 bitV g7 prods.length (fun j=>if j<k then may j else 0)]) (fun k=>prods.length - k) 0 (Nat.zero_le _) (by repeat' (first | exact True.intro | refine And.intro rfl ?_)) (by rw[show (fun j=>if j<0 then may j else 0)=fun _=>0 from funext fun j=>if_neg (by omega)];rfl) ?_
  intro k k1
  by_cases c7:k<prods.length
  · obtain⟨b,off,rfl,_,hr⟩:=hrp (by omega)
    obtain⟨bb,cb,y1,y2,y3⟩:=prod_at hr c7
    have hat:∀ (L:List Own) (j:Nat) (v:Value),([.int .i64 prods[k].1,.slice bb prods[k].2.length cb]:List Value)[j]?=some v→At w L ⟨b,off+k*2+j,none⟩ v:=fun L j v hj=>at_old (y1 j v hj)
    have hfl:=y3.flat (by decide)
    obtain⟨b1,b2,b3,b4⟩:=a6 _ (List.getElem_mem c7)
    obtain⟨hb1,hb2⟩:=hbe prods[k].2 (List.mem_map.2 ⟨_,List.getElem_mem c7,rfl⟩)
    have hmk:may k=beginF (ofS N prods).E (ofF N prods) prods[k].2 ((ofW N prods).getD prods[k].1.toNat 0):=by rw[hmay];dsimp only;rw[prodAt_get c7]
    clear y1 y3 hr hbe hrp
    generalize prods[k]=pd at *
    obtain⟨hd,body⟩:=pd
    dsimp only at *
    obtain⟨hn,rfl⟩:∃ hn:Nat,hd=hn:=⟨hd.toNat,by omega⟩
    have hlt:hn<N:=by omega
    rw[Int.toNat_natCast] at hmk
    have hWat:((ofW N prods).map bitV)[0+hn]?=some (bitV ((ofW N prods).getD hn 0)):=by rw[Nat.zero_add];exact bit_at (by rw[hWW.1];exact hlt)
    have hWlt:=getD_lt hWW hn
    have hBg:=fun w' hg hs=>hBg (.slice bb body.length cb) body ((ofW N prods).getD hn 0) w' hg hs hWlt
    rw[hb1,hb2,←hmk] at hBg
    generalize (ofW N prods).getD hn 0=wv at *
    repeat(first|refine GA ?_|refine gV (rr_idxc Und.eq TyC.ty rfl rfl c7) ?_|refine gV (rr_loadN TyC.ty rfl rfl (hat _)) ?_)
    refine TL_new rfl fun g9 => ?_
    try refine GA ?_
    refine TL_storeB (i:=4) rfl rfl rfl rfl rfl rfl ?_
    conv=>arg 8;simp only[zA,zB,zC,zD,zE,zF,zG,zH,zI,rowS,ret,id_eq]
    try refine GA ?_
    refine T_ord ([blkO g1 (graV (T:Int) (N:Int) (.slice (some ⟨b,off,none⟩) prods.length cp)).cells 33,rowNn N x.gW x.cW (ofW N prods),blkO g5 (facV (vRow N x.gE x.cE) (vRow N x.gF x.cF) (vRow N x.gW x.cW) (vRow N x.gR x.cR) (vRow N x.gM x.cM)).cells 48,blkO g9 #[.int .i64 (hn:Int),.slice bb body.length cb] 63]) (.calm 0 (.calm 1 (.calm 2 (.calm 3 (.calm 4 (.calm 5 (.calm 6 (.calm 7 (.calm 8 (.calm 9 (.calm 10 (.calm 11 (.calm 12 (.calm 13 (.calm 14 (.calm 15 (.one 16 (.done)))))))))))))))))) (sub_pick [0,1,2,4] (by decide) rfl) (by kernel_rfl) (by kernel_rfl) (by intro c a d v w h;cases d <;> exact h) ?_
    repeat(first|refine GW ?_|(refine GN ?_;first|refine QW (rr_loadB (i:=0) TyC.ty rfl rfl rfl) ?_|refine QW (rr_load1 TyC.ty rfl (at_blk (i:=3) rfl rfl)) ?_|refine QW (rr_load1 TyC.ty rfl (at_blk (i:=2) rfl rfl)) ?_|refine QW (rr_idx1 Und.eq TyC.ty rfl rfl hlt) ?_|refine QW (rr_load1 TyC.ty rfl (at_row (i:=1) rfl hWat)) ?_))
    refine TW_call rfl (he3 EntersC.en rfl rfl rfl rfl) (fun w hm=>hBg _ hm.below (hfl.gr hm.below)) rfl rfl rfl ?_
    repeat(first|refine GW ?_|(refine GN ?_;first|refine QW (rr_idx1 Und.eq TyC.ty rfl rfl c7) ?_))
    refine TW_one rfl ?_
    refine TL_storeA (i:=3) (v:=may k) (fun j=>if j<k+1 then may j else 0) TyC.ty rfl rfl rfl rfl rfl c7 (fun j _=>by
      by_cases e:j=k
      · subst e;simp
      · by_cases e2:j<k
        · simp[e,e2,show j<k+1 by omega]
        · simp[e,e2,show ¬ j<k+1 by omega]) ?_
    conv=>arg 8;simp only[zA,zB,zC,zD,zE,zF,zG,zH,zI,rowS,ret,id_eq]
    refine TW_on (sub_pick [0,1,2,4] (by decide) rfl) ?_
    try refine GW ?_
    try refine GA ?_
    refine E_pick [0,1,2,3] (by decide) rfl ?_
    exact E_round (k+1) (by omega) (by omega) (by repeat' (first | exact True.intro | refine And.intro rfl ?_)) rfl
  · obtain rfl:k=prods.length:=by omega
    rw[show rowA 64 bitV g7 prods.length (fun j=>if j<prods.length then may j else 0)=rowA 64 bitV g7 prods.length may from rowA_congr fun j hj=>if_pos hj]
    clear hBg hbe hof hmay
    repeat(first|refine GA ?_|refine gV (rr_load1 TyC.ty rfl (at_blk (i:=0) rfl rfl)) ?_)
    refine TL_makeA vals (.slice none 0 0) rfl rfl (by omega) (by omega) rfl fun g10 => ?_
    conv=>arg 8;simp only[zA,zB,zC,zD,zE,zF,zG,zH,zI,rowS,ret,id_eq]
    try refine GA ?_
    refine T_pick [0,3,4] (by decide) rfl ?_
    refine T_extra (famP (fun j=>j<N) (rowsF prods may T (fun _=> .slice none 0 0) 0 0)) (fun k hk=>hk.elim (fun h=>by cases h) fun ⟨i,hi,h⟩=>h.elim (fun h=>by cases h) id) (fun w=>⟨fun i hi => ?_,fun i j _ _ _ k h=>h.elim (fun h=>by cases h) False.elim⟩) ?_
    · unfold rowsF cntL
      rw[if_neg (by omega),ite_self]
      exact World.ownsRow_nil _ _ _ _
    refine T_nil 69 4 ?_
    refine T_loop (ι:=Nat×(Nat→Value)×Value) (fun (n,_,_)=>n≤N) (fun (n,_,vo)=>[(1,.pointer (some ⟨g1,0,none⟩)),(7,.slice (some ⟨g7,0,none⟩) prods.length prods.length),(10,.slice (some ⟨g10,0,none⟩) N N),(11,vo),(58,.int .i64 (N:Int)),(59,.int .i64 (n:Int))])
      (fun (n,vs,vo)=>[blkO g1 (graV (T:Int) (N:Int) (.slice bp prods.length cp)).cells 33,rowA 64 bitV g7 prods.length may,rowA 26 vals g10 N vs,famP (fun j=>j<N) (rowsF prods may T vs n 0),rowO 69 4 vo (rowO' prods may T n).length ((rowO' prods may T n).flatMap clC)]) (fun (n,_,_)=>N - n) (0,fun _=> .slice none 0 0,.slice none 0 0) (Nat.zero_le _) (by repeat' (first | exact True.intro | refine And.intro rfl ?_)) rfl ?_
    rintro⟨n,vs,vo⟩ n1
    dsimp only at n1 ⊢
    by_cases c8:n<N
    · repeat(first|refine GC ?_|refine gV (rr_load1 TyC.ty rfl (at_blk (i:=0) rfl rfl)) ?_|refine gV (rr_add64 (r:=((T+1:Nat):Int)) rfl rfl (by omega) (by omega) (by omega)) ?_|refine GB ?_)
      refine T_loop (ι:=Nat×(Nat→Value)×Value) (fun (c,_,_)=>c≤T+1) (fun (c,_,vo)=>[(1,.pointer (some ⟨g1,0,none⟩)),(7,.slice (some ⟨g7,0,none⟩) prods.length prods.length),(10,.slice (some ⟨g10,0,none⟩) N N),(11,vo),(12,.int .i64 (n:Int)),(58,.int .i64 (N:Int)),(59,.int .i64 (n:Int)),(64,.int .i64 ((T+1:Nat):Int)),(65,.int .i64 (c:Int))])
        (fun (c,vs,vo)=>[blkO g1 (graV (T:Int) (N:Int) (.slice bp prods.length cp)).cells 33,rowA 64 bitV g7 prods.length may,rowA 26 vals g10 N vs,famP (fun j=>j<N) (rowsF prods may T vs n c),rowO 69 4 vo (colO prods may T n c (rowO' prods may T n)).length ((colO prods may T n c (rowO' prods may T n)).flatMap clC)]) (fun (c,_,_)=>T+1 - c) (0,vs,vo) (Nat.zero_le _) (by repeat' (first | exact True.intro | refine And.intro rfl ?_)) rfl ?_
      rintro⟨c,vs,vo⟩ cc
      dsimp only at cc ⊢
      by_cases c9:c<T+1
      · have hlen0:=colO_len (l:=prods) (may:=may) (T:=T) n c (rowO' prods may T n)
        have hlen1:=rowO_len (l:=prods) (may:=may) (T:=T) n
        have hm1:c*prods.length≤31*40:=Nat.mul_le_mul (by omega) a5
        have hm2:(T+1)*prods.length≤31*40:=Nat.mul_le_mul (by omega) a5
        have hm3:n*((T+1)*prods.length)≤20*(31*40):=Nat.mul_le_mul (by omega) hm2
        have hr27:rowO' prods may T (n+1)=colO prods may T n (T+1) (rowO' prods may T n):=rfl
        have hc27:colO prods may T n (c+1) (rowO' prods may T n)=outL prods may T n c prods.length (colO prods may T n c (rowO' prods may T n)):=rfl
        have hbc:bitC T c<18446744073709551616:=by
          unfold bitC
          split
          · decide
          · exact Nat.lt_of_le_of_lt (Nat.pow_le_pow_right (by decide) (show c≤30 by omega)) (by decide)
        have hbit:=fun w=>bit_calls T (N:Int) (.slice bp prods.length cp) c w (by omega) (by omega) ⟨_,_,_,rfl⟩
        generalize colO prods may T n c (rowO' prods may T n)=out0 at *
        repeat(first|refine GA ?_|refine gV (rr_load1 TyC.ty rfl (at_blk (i:=0) rfl rfl)) ?_)
        refine T_loop (ι:=Nat×Value) (fun (k,_)=>k≤prods.length) (fun (k,vo)=>[(1,.pointer (some ⟨g1,0,none⟩)),(7,.slice (some ⟨g7,0,none⟩) prods.length prods.length),(10,.slice (some ⟨g10,0,none⟩) N N),(11,vo),(12,.int .i64 (n:Int)),(13,.int .i64 (c:Int)),(14,.int .i64 (firstL prods may T n c k)),(58,.int .i64 (N:Int)),(59,.int .i64 (n:Int)),(64,.int .i64 ((T+1:Nat):Int)),(65,.int .i64 (c:Int)),(69,.slice bp prods.length cp),(70,.int .i64 prods.length),(71,.int .i64 (k:Int))])
          (fun (k,vo)=>[blkO g1 (graV (T:Int) (N:Int) (.slice bp prods.length cp)).cells 33,rowA 64 bitV g7 prods.length may,rowA 26 vals g10 N vs,famP (fun j=>j<N) (rowsF prods may T vs n c),rowO 69 4 vo (outL prods may T n c k out0).length ((outL prods may T n c k out0).flatMap clC)]) (fun (k,_)=>prods.length - k) (0,vo) (Nat.zero_le _) (by repeat' (first | exact True.intro | refine And.intro rfl ?_)) rfl ?_
        rintro⟨k,vo⟩ kk
        dsimp only at kk ⊢
        by_cases ck:k<prods.length
        · obtain⟨b,off,rfl,_,hr⟩:=hrp (by omega)
          obtain⟨bb,cb,y1,y2,y3⟩:=prod_at hr ck
          have hat:∀ (L:List Own) (j:Nat) (v:Value),([.int .i64 prods[k].1,.slice bb prods[k].2.length cb]:List Value)[j]?=some v→At w L ⟨b,off+k*2+j,none⟩ v:=fun L j v hj=>at_old (y1 j v hj)
          have hol:=outL_len (l:=prods) (may:=may) (T:=T) n c k out0
          have hf:firstL prods may T n c (k+1)=if firstL prods may T n c k<0 then (if candL prods may T n c k=true then (k:Int) else firstL prods may T n c k) else firstL prods may T n c k:=rfl
          have ho:outL prods may T n c (k+1) out0=if candL prods may T n c k=true then (if firstL prods may T n c k<0 then outL prods may T n c k out0 else outL prods may T n c k out0++[((n:Int),(c:Int),firstL prods may T n c k,(k:Int))]) else outL prods may T n c k out0:=rfl
          have hcd:candL prods may T n c k=(decide (prods[k].1=(n:Int)) && !decide ((may k &&& bitC T c)=0)):=by unfold candL;rw[prodAt_get ck]
          have hand:=bits_andN (hmlt k) hbc
          have hfk:=first_ge (l:=prods) (may:=may) (T:=T) n c k
          clear y1 y3 hr hrp
          generalize prods[k]=pd at *
          obtain⟨hd,body⟩:=pd
          dsimp only at *
          generalize hzz:may k &&& bitC T c=z at *
          generalize firstL prods may T n c k=fk at *
          generalize outL prods may T n c k out0=ok at *
          repeat(first|refine GA ?_|refine gV (rr_idxc Und.eq TyC.ty rfl rfl ck) ?_|refine gV (rr_loadN TyC.ty rfl rfl (hat _)) ?_)
          refine TL_new rfl fun g16 => ?_
          try refine GA ?_
          refine TL_storeB (i:=5) rfl rfl rfl rfl rfl rfl ?_
          conv=>arg 8;simp only[zA,zB,zC,zD,zE,zF,zG,zH,zI,rowS,ret,id_eq]
          try refine GA ?_
          refine T_ord ([blkO g1 (graV (T:Int) (N:Int) (.slice (some ⟨b,off,none⟩) prods.length cp)).cells 33,rowA 64 bitV g7 prods.length may,blkO g16 #[.int .i64 hd,.slice bb body.length cb] 63]) (.calm 0 (.calm 1 (.calm 2 (.calm 3 (.calm 4 (.calm 5 (.calm 6 (.calm 7 (.calm 8 (.calm 9 (.calm 10 (.calm 11 (.calm 12 (.calm 13 (.calm 14 (.calm 15 (.done))))))))))))))))) (sub_pick [0,1,5] (by decide) rfl) (by kernel_rfl) (by kernel_rfl) (by intro c a d v w h;cases d <;> exact h) ?_
          by_cases e1:hd=(n:Int)
          · by_cases e2:z=0
            · rw[decide_eq_true e1,decide_eq_true e2] at hcd
              rw[hcd] at hf ho
              simp only[Bool.not_true,Bool.and_false,Bool.false_eq_true,if_false,ite_self] at hf ho
              repeat(first|refine GW ?_|(refine GN ?_;first|refine QW (rr_load1 TyC.ty rfl (at_blk (i:=2) rfl rfl)) ?_|refine QW (rr_idx1 Und.eq TyC.ty rfl rfl ck) ?_|refine QW (rr_load1 TyC.ty rfl (at_rowA (i:=1) rfl ck)) ?_|refine QW (rr_loadB (i:=0) TyC.ty rfl rfl rfl) ?_))
              refine TW_gcall rfl (he2 EntersC.en rfl rfl rfl) (fun w hm=>hbit _) rfl rfl rfl rfl rfl ?_
              repeat(first|refine GW ?_|(refine GN ?_;first|refine QW (rr_and rfl rfl hand) ?_))
              try refine GA ?_
              refine E_pick [0,1,2,3,4] (by decide) rfl ?_
              exact E_round (k+1,vo) (by show k+1≤prods.length;omega) (by show prods.length - (k+1)<prods.length - k;omega) (by dsimp only;rw[hf];repeat' (first | exact True.intro | refine And.intro rfl ?_)) (by dsimp only;rw[ho];rfl)
            · rw[decide_eq_true e1,decide_eq_false e2] at hcd
              rw[hcd] at hf ho
              simp only[Bool.not_false,Bool.and_true,if_true] at hf ho
              repeat(first|refine GW ?_|(refine GN ?_;first|refine QW (rr_load1 TyC.ty rfl (at_blk (i:=2) rfl rfl)) ?_|refine QW (rr_idx1 Und.eq TyC.ty rfl rfl ck) ?_|refine QW (rr_load1 TyC.ty rfl (at_rowA (i:=1) rfl ck)) ?_|refine QW (rr_loadB (i:=0) TyC.ty rfl rfl rfl) ?_))
              refine TW_gcall rfl (he2 EntersC.en rfl rfl rfl) (fun w hm=>hbit _) rfl rfl rfl rfl rfl ?_
              repeat(first|refine GW ?_|(refine GN ?_;first|refine QW (rr_and rfl rfl hand) ?_))
              by_cases e3:fk<0
              · rw[if_pos e3] at hf ho
                try refine GA ?_
                refine E_pick [0,1,2,3,4] (by decide) rfl ?_
                exact E_round (k+1,vo) (by show k+1≤prods.length;omega) (by show prods.length - (k+1)<prods.length - k;omega) (by dsimp only;rw[hf];repeat' (first | exact True.intro | refine And.intro rfl ?_)) (by dsimp only;rw[ho];rfl)
              · rw[if_neg e3] at hf ho
                repeat(first|refine GA ?_|refine gV (rr_build rfl (build_cl _ _ _ _)) ?_)
                refine TL_pushN (i:=4) rfl rfl rfl rfl rfl rfl rfl (fun z h=>by cases h;rfl) (by omega) (by omega) rfl fun z' v2 => ?_
                conv=>arg 8;simp only[zA,zB,zC,zD,zE,zF,zG,zH,zI,rowS,ret,id_eq]
                try refine GA ?_
                refine E_pick [0,1,2,3,4] (by decide) rfl ?_
                exact E_round (k+1,v2) (by show k+1≤prods.length;omega) (by show prods.length - (k+1)<prods.length - k;omega) (by dsimp only;rw[hf];repeat' (first | exact True.intro | refine And.intro rfl ?_)) (by dsimp only;rw[ho,List.flatMap_append,List.length_append];rfl)
          · rw[decide_eq_false e1] at hcd
            rw[hcd] at hf ho
            simp only[Bool.false_and,Bool.false_eq_true,if_false,ite_self] at hf ho
            repeat(first|refine GW ?_|(refine GN ?_;first|refine QW (rr_load1 TyC.ty rfl (at_blk (i:=2) rfl rfl)) ?_))
            try refine GA ?_
            refine E_pick [0,1,2,3,4] (by decide) rfl ?_
            exact E_round (k+1,vo) (by show k+1≤prods.length;omega) (by show prods.length - (k+1)<prods.length - k;omega) (by dsimp only;rw[hf];repeat' (first | exact True.intro | refine And.intro rfl ?_)) (by dsimp only;rw[ho];rfl)
        · obtain rfl:k=prods.length:=by omega
          rw[←hc27]
          have hra:firstL prods may T n c prods.length=llL.rowAt prods may T n c:=rfl
          rw[hra]
          clear hc27 hr27 hra
          have hcn:rowsF prods may T vs n c n=rowO 3 1 (vs n) c ((tabA c (llL.rowAt prods may T n)).map intV):=by
            unfold rowsF cntL
            rw[if_neg (Nat.lt_irrefl n),if_pos rfl]
          repeat(first|refine GA ?_|refine gV (rr_idx1 Und.eq TyC.ty rfl rfl c8) ?_|refine gV (rr_load1 TyC.ty rfl (at_rowA (i:=2) rfl c8)) ?_)
          refine TL_take (q:=3) n rfl c8 ?_
          rw[hcn]
          conv=>arg 8;simp only[zA,zB,zC,zD,zE,zF,zG,zH,zI,rowS,ret,id_eq]
          refine TL_litV [.int .i64 (llL.rowAt prods may T n c)] rfl rfl rfl (by intro v hv;simp at hv;subst hv;rfl) rfl rfl fun g112 => ?_
          conv=>arg 8;simp only[zA,zB,zC,zD,zE,zF,zG,zH,zI,rowS,ret,id_eq]
          refine TL_app11 (i:=5) (q:=6) rfl rfl rfl rfl rfl rfl (by omega) (by omega) rfl fun v3 => ?_
          conv=>arg 8;simp only[zA,zB,zC,zD,zE,zF,zG,zH,zI,rowS,ret,id_eq]
          refine TL_slv (i:=5) rfl fun hv1 hv2 => ?_
          repeat(first|refine GA ?_|refine gV (rr_idx1 Und.eq TyC.ty rfl rfl c8) ?_)
          refine TL_storeA (i:=2) (v:=v3) (fun j=>if j=n then v3 else vs j) TyC.ty rfl rfl rfl hv1 hv2 c8 (fun j _=>rfl) ?_
          conv=>arg 8;simp only[zA,zB,zC,zD,zE,zF,zG,zH,zI,rowS,ret,id_eq]
          refine TL_put (D':=fun j=>j<N) (f':=rowsF prods may T (fun j=>if j=n then v3 else vs j) n (c+1)) n 3 5 [0,1,2,4] (by decide) rfl rfl rfl (fun h=>h.2 rfl) (fun j hj=>by
            by_cases e:j=n
            · exact .inr e
            · exact .inl ⟨hj,e⟩) (fun j hj=>by
            by_cases e:j=n
            · subst e
              rw[upd_eq]
              unfold rowsF cntL
              rw[if_neg (Nat.lt_irrefl j),if_pos rfl]
              dsimp only
              rw[if_pos rfl]
              congr 1
              unfold tabA
              rw[List.range_succ,List.map_append,List.map_append];rfl
            · rw[upd_ne e]
              have:cntL T n (c+1) j=cntL T n c j:=by unfold cntL;rw[if_neg e,if_neg e]
              unfold rowsF
              rw[this]
              dsimp only
              rw[if_neg e]) ?_
          conv=>arg 8;simp only[zA,zB,zC,zD,zE,zF,zG,zH,zI,rowS,ret,id_eq]
          refine TL_pick [0,1,2,4,3] (by decide) rfl ?_
          try refine GA ?_
          exact E_round (c+1,fun j=>if j=n then v3 else vs j,vo) (by show c+1≤T+1;omega) (by show T+1 - (c+1)<T+1 - c;omega) (by repeat' (first | exact True.intro | refine And.intro rfl ?_)) rfl
      · obtain rfl:c=T+1:=by omega
        have hfun:rowsF prods may T vs n (T+1)=rowsF prods may T vs (n+1) 0:=funext fun j=>by
          have:cntL T n (T+1) j=cntL T (n+1) 0 j:=by
            unfold cntL
            by_cases e:j<n
            · rw[if_pos e,if_pos (by omega)]
            · rw[if_neg e]
              by_cases e2:j=n
              · rw[if_pos e2,if_pos (by omega)]
              · rw[if_neg e2,if_neg (by omega),ite_self]
          unfold rowsF
          rw[this]
        try refine GA ?_
        exact E_round (n+1,vs,vo) (by show n+1≤N;omega) (by show N - (n+1)<N - n;omega) (by repeat' (first | exact True.intro | refine And.intro rfl ?_)) (by rw[hfun];rfl)
    · obtain rfl:n=N:=by omega
      try refine GA ?_
      exact E_ret3 rfl rfl rfl rfl fun w hm=>hm.meets (S:=makeS n T prods may) (g10,vs,vo) trivial [2,3,4] (by decide) rfl
end Go.Proofs.Ytldiodhdefnlaaa.eng

/- LrA -/
namespace Go.Proofs.Ytldiodhdefnlaaa.eng
open Go.RowKit kit mix gramL treeL factsL itemL smallL
def actC (x:itemL.Act):List Value:=[.int .i64 x.1,.int .i64 x.2]
theorem actC_len (x:itemL.Act):(actC x).length=2:=rfl
def actsK (l:List gramL.Prod) (T:Nat) (nx:List Int) (t:Nat) (s:List itemL.Item) (c:Nat):List itemL.Act:=(if c<t∧0≤nx.getD c 0 then [(1,nx.getD c 0)] else [])++s.filterMap (actOf l c)
theorem actsK_all {l:List gramL.Prod} {T:Nat} {nx:List Int} {s:List itemL.Item} {c:Nat}:actsK l T nx T s c=actsI l T s nx c:=rfl
def actF (vs:Nat→Value) (A:Nat→List itemL.Act) (j:Nat):Own:=rowO 109 2 (vs j) (A j).length ((A j).flatMap actC)
def actsS (T:Nat) (A:Nat→List itemL.Act):Spec (Nat×(Nat→Value)):=⟨fun _=>True,fun x=> .slice (some ⟨x.1,0,none⟩) (T+1) (T+1),fun x=>[rowA 106 vals x.1 (T+1) x.2,famP (fun j=>j<T+1) (actF x.2 A)]⟩
theorem build_act1 (n:Int) (w:World):(Instr.build 109 #[(0,.int .i64 1),(1,.int .i64 n)]).run Try.prog w = .ok (.agg (actC (1,n)).toArray) w:=by kernel_rfl
theorem build_act2 (n:Int) (w:World):(Instr.build 109 #[(0,.int .i64 2),(1,.int .i64 n)]).run Try.prog w = .ok (.agg (actC (2,n)).toArray) w:=by kernel_rfl
theorem build_act3 (w:World):(Instr.build 109 #[(0,.int .i64 3)]).run Try.prog w = .ok (.agg (actC (3,0)).toArray) w:=by kernel_rfl
theorem actsK_len {l:List gramL.Prod} {T:Nat} {nx:List Int} {t:Nat} {s:List itemL.Item} {c:Nat}:(actsK l T nx t s c).length≤1+s.length:=by
  unfold actsK
  rw[List.length_append]
  have:=List.length_filterMap_le (actOf l c) s
  split
  · rw[List.length_singleton];omega
  · rw[List.length_nil];omega
set_option maxHeartbeats 8000000 in
theorem lrActs_calls (v:Value) (g:Gram) (T:Nat) (hTt:g.terms=(T:Int)) (hT:T≤30) (bS oS lS cS bN oN lN cN n:Nat) (vs1 vn1:Value) (s:List itemL.Item) (nx:List Int) (w:World) (hG:GraR (fun k=>k<w.heap.size) w v g) (hpl:g.prods.length≤40) (hnS:n<lS) (hcS:w.cell? ⟨bS,oS+n,none⟩=some vs1) (hs1:Sl w vs1 s.length (s.flatMap itC)) (hnN:n<lN) (hcN:w.cell? ⟨bN,oN+n,none⟩=some vn1) (hn1:Sl w vn1 nx.length (nx.map (Value.int .i64))) (hnl:T≤nx.length) (hr:∀ it∈s,RightI g.prods T it) (hsl:s.length≤20000) (hn0:n≤1000000) :
    Calls Try.prog 27 #[v,.agg #[.slice (some ⟨bS,oS,none⟩) lS cS,.slice (some ⟨bN,oN,none⟩) lN cN],.int .i64 (n:Int)] w (Meets (actsS T (actsI g.prods T s nx)) w):=by
  obtain⟨vp,rfl,hp,-,-⟩:=hG
  obtain⟨bp,cp,rfl,hcp,hmp,hrp⟩:=hp
  obtain⟨bs,cs,rfl,-,hmS,hrS⟩:=hs1
  obtain⟨bn,cn,rfl,-,hmN,hrN⟩:=hn1
  unfold maxLen at hmS hmN
  rw[hTt]
  have hb1:=build_act1
  have hb2:=build_act2
  have hb3:=build_act3
  refine enter (args:=[graV (T:Int) g.nons (.slice bp g.prods.length cp),.agg #[.slice (some ⟨bS,oS,none⟩) lS cS,.slice (some ⟨bN,oN,none⟩) lN cN],.int .i64 (n:Int)]) (n:=113) Try.func27 rfl rfl rfl ?_
  refine T_seq (T_region (TL_box rfl rfl rfl fun g3 => ?_))
  conv=>arg 8;simp only[zA,zB,zC,zD,zE,zF,zG,zH,zI,rowS,ret,id_eq]
  refine TL_box rfl rfl rfl fun g4 => ?_
  conv=>arg 8;simp only[zA,zB,zC,zD,zE,zF,zG,zH,zI,rowS,ret,id_eq]
  repeat(first|refine GC ?_|refine gV (rr_load1 (v:= .int .i64 (T:Int)) TyC.ty rfl (at_blk (i:=0) rfl rfl)) ?_|refine gV (rr_add64 (r:=((T+1:Nat):Int)) rfl rfl (by omega) (by omega) (by omega)) ?_|refine GB ?_)
  refine TL_makeA (m:=T+1) vals (.slice none 0 0) rfl rfl (by omega) (by omega) rfl fun g7 => ?_
  conv=>arg 8;simp only[zA,zB,zC,zD,zE,zF,zG,zH,zI,rowS,ret,id_eq]
  repeat(first|refine GA ?_|refine gV (rr_load1 (v:= .int .i64 (T:Int)) TyC.ty rfl (at_blk (i:=0) rfl rfl)) ?_)
  refine T_extra (famP (fun j=>j<T+1) (actF (fun _=> .slice none 0 0) (actsK g.prods T nx 0 []))) (fun k hk=>hk.elim (fun h=>by cases h) fun ⟨i,hi,h⟩=>h.elim (fun h=>by cases h) id) (fun w=>⟨fun i hi => ?_,fun i j _ _ _ k h=>h.elim (fun h=>by cases h) False.elim⟩) ?_
  · unfold actF actsK
    rw[if_neg (by omega)]
    exact World.ownsRow_nil _ _ _ _
  conv=>arg 7;simp only[zA,zB,zC,zD,zE,zF,zG,zH,zI,rowS,ret,id_eq]
  refine T_loop (ι:=Nat×(Nat→Value)) (fun (t,_)=>t≤T) (fun (t,_)=>[(2,.int .i64 (n:Int)),(3,.pointer (some ⟨g3,0,none⟩)),(4,.pointer (some ⟨g4,0,none⟩)),(7,.slice (some ⟨g7,0,none⟩) (T+1) (T+1)),(17,.int .i64 (T:Int)),(18,.int .i64 (t:Int))])
    (fun (t,vs)=>[blkO g3 (graV (T:Int) g.nons (.slice bp g.prods.length cp)).cells 33,blkO g4 (Value.agg #[.slice (some ⟨bS,oS,none⟩) lS cS,.slice (some ⟨bN,oN,none⟩) lN cN]).cells 103,rowA 106 vals g7 (T+1) vs,famP (fun j=>j<T+1) (actF vs (actsK g.prods T nx t []))]) (fun (t,_)=>T - t) (0,fun _=> .slice none 0 0) (Nat.zero_le _) (by repeat' (first | exact True.intro | refine And.intro rfl ?_)) rfl ?_
  rintro⟨t,vs⟩ i1
  dsimp only at i1 ⊢
  by_cases c1:t<T
  · obtain⟨b,off,rfl,hrd⟩:=hrN (by omega)
    have hny:(nx.map (Value.int .i64))[t]?=some (.int .i64 (nx.getD t 0)):=by
      rw[List.getElem?_map,List.getD_eq_getElem?_getD,List.getElem?_eq_getElem (by omega)];rfl
    have hat:=fun (L:List Own)=>at_rd (W:=w) (L:=L) hrd hny
    have htl:t<nx.length:=by omega
    have hoth:∀ j,j≠t→actsK g.prods T nx (t+1) [] j=actsK g.prods T nx t [] j:=fun j hj=>by
      unfold actsK
      have:(j<t+1∧0≤nx.getD j 0)↔(j<t∧0≤nx.getD j 0):=by constructor <;> (rintro⟨h1,h2⟩;exact⟨by omega,h2⟩)
      simp only[this]
    have hmine:actsK g.prods T nx (t+1) [] t=if 0≤nx.getD t 0 then [(1,nx.getD t 0)] else []:=by
      unfold actsK
      by_cases c:0≤nx.getD t 0
      · rw[if_pos ⟨Nat.lt_succ_self t,c⟩,if_pos c];rfl
      · rw[if_neg (fun h=>c h.2),if_neg c];rfl
    have hmine0:actsK g.prods T nx t [] t=[]:=by unfold actsK;rw[if_neg (fun h=>Nat.lt_irrefl t h.1)];rfl
    generalize nx.getD t 0=y at *
    repeat(first|refine GA ?_|refine gV (rr_load1 (v:= .slice (some ⟨bN,oN,none⟩) lN cN) TyC.ty rfl (at_blk (i:=1) rfl rfl)) ?_|refine gV (rr_idx1 Und.eq TyC.ty rfl rfl hnN) ?_|refine gV (rr_load1 (v:= .slice (some ⟨b,off,none⟩) nx.length cn) TyC.ty rfl (at_old hcN)) ?_|refine gV (rr_idx1 Und.eq TyC.ty rfl rfl htl) ?_|refine gV (rr_load1 (v:= .int .i64 y) TyC.ty rfl (hat _)) ?_)
    by_cases c2:0≤y
    · rw[if_pos c2] at hmine
      repeat(first|refine GC ?_|refine gV (rr_geq (b:=true) rfl rfl (decide_eq_true c2)) ?_|refine gV (rr_idx1 Und.eq TyC.ty rfl rfl (show t<T+1 by omega)) ?_|refine gV (rr_load1 TyC.ty rfl (at_rowA (i:=2) rfl (show t<T+1 by omega))) ?_|refine gV (rr_build rfl (hb1 _)) ?_|refine GB ?_)
      refine TL_take (q:=3) t rfl (show t<T+1 by omega) ?_
      have hFt:actF vs (actsK g.prods T nx t []) t=rowO 109 2 (vs t) 0 []:=by unfold actF;rw[hmine0];rfl
      rw[hFt]
      conv=>arg 8;simp only[zA,zB,zC,zD,zE,zF,zG,zH,zI,rowS,ret,id_eq]
      refine TL_pushN (i:=4) rfl rfl rfl rfl rfl rfl rfl (fun z h=>by cases h;rfl) (by omega) (by omega) rfl fun z v3 => ?_
      conv=>arg 8;simp only[zA,zB,zC,zD,zE,zF,zG,zH,zI,rowS,ret,id_eq]
      repeat(first|refine GA ?_|refine gV (rr_idx1 Und.eq TyC.ty rfl rfl (show t<T+1 by omega)) ?_)
      refine TL_slv (i:=4) rfl fun hv1 hv2 => ?_
      refine TL_storeA (i:=2) (v:=v3) (fun j=>if j=t then v3 else vs j) TyC.ty rfl rfl rfl hv1 hv2 (show t<T+1 by omega) (fun j _=>rfl) ?_
      conv=>arg 8;simp only[zA,zB,zC,zD,zE,zF,zG,zH,zI,rowS,ret,id_eq]
      refine TL_put (D':=fun j=>j<T+1) (f':=actF (fun j=>if j=t then v3 else vs j) (actsK g.prods T nx (t+1) [])) t 3 4 [0,1,2] (by decide) rfl rfl rfl (fun h=>h.2 rfl) (fun j hj=>by
        by_cases e:j=t
        · exact .inr e
        · exact .inl ⟨hj,e⟩) (fun j hj=>by
        by_cases e:j=t
        · subst e
          rw[upd_eq]
          unfold actF
          dsimp only
          rw[hmine,if_pos rfl]
          rfl
        · rw[upd_ne e]
          unfold actF
          dsimp only
          rw[hoth j e,if_neg e]) ?_
      conv=>arg 8;simp only[zA,zB,zC,zD,zE,zF,zG,zH,zI,rowS,ret,id_eq]
      try refine GA ?_
      exact E_round (t+1,fun j=>if j=t then v3 else vs j) (by show t+1≤T;omega) (by show T - (t+1)<T - t;omega) (by repeat' (first | exact True.intro | refine And.intro rfl ?_)) rfl
    · rw[if_neg c2] at hmine
      have hsame:actsK g.prods T nx (t+1) []=actsK g.prods T nx t []:=funext fun j=>by
        by_cases e:j=t
        · subst e;rw[hmine,hmine0]
        · exact hoth j e
      repeat(first|refine GC ?_|refine gV (rr_geq (b:=false) rfl rfl (decide_eq_false c2)) ?_|refine GB ?_)
      exact E_round (t+1,vs) (by show t+1≤T;omega) (by show T - (t+1)<T - t;omega) (by repeat' (first | exact True.intro | refine And.intro rfl ?_)) (by dsimp only;rw[hsame])
  obtain rfl:t=T:=by omega
  repeat(first|refine GA ?_|refine gV (rr_load1 (v:= .slice (some ⟨bS,oS,none⟩) lS cS) TyC.ty rfl (at_blk (i:=1) rfl rfl)) ?_|refine gV (rr_idx1 Und.eq TyC.ty rfl rfl hnS) ?_|refine gV (rr_load1 (v:= .slice bs s.length cs) TyC.ty rfl (at_old hcS)) ?_)
  refine T_loop (ι:=Nat×(Nat→Value)) (fun (k,_)=>k≤s.length) (fun (k,_)=>[(3,.pointer (some ⟨g3,0,none⟩)),(7,.slice (some ⟨g7,0,none⟩) (t+1) (t+1)),(47,.slice bs s.length cs),(48,.int .i64 (s.length:Int)),(49,.int .i64 (k:Int))])
    (fun (k,vs)=>[blkO g3 (graV (t:Int) g.nons (.slice bp g.prods.length cp)).cells 33,blkO g4 (Value.agg #[.slice (some ⟨bS,oS,none⟩) lS cS,.slice (some ⟨bN,oN,none⟩) lN cN]).cells 103,rowA 106 vals g7 (t+1) vs,famP (fun j=>j<t+1) (actF vs (actsK g.prods t nx t (s.take k)))]) (fun (k,_)=>s.length - k) (0,vs) (Nat.zero_le _) (by repeat' (first | exact True.intro | refine And.intro rfl ?_)) rfl ?_
  rintro⟨k,vs⟩ j1
  dsimp only at j1 ⊢
  clear hb1
  by_cases c2:k<s.length
  · obtain⟨b,off,rfl,hrd⟩:=hrS (by omega)
    have hat:=fun (L:List Own)=>at_el (L:=L) itC_len hrd c2
    have hatA:∀ (L:List Own) (j:Nat) (u:Value),(itC s[k])[j]?=some u→At (w:Base) L ⟨b,off+k*3+j,none⟩ u:=hat
    clear hat hrd hrS
    have hxr:=hr s[k] (List.getElem_mem c2)
    have htk:s.take (k+1)=s.take k++[s[k]]:=List.take_succ_eq_append_getElem c2
    have hall:∀ c,actsK g.prods t nx t (s.take (k+1)) c=actsK g.prods t nx t (s.take k) c++(match actOf g.prods c s[k] with | some x=>[x] | none=>[]):=fun c=>by
      rw[htk]
      unfold actsK
      rw[List.filterMap_append,←List.append_assoc]
      congr 1
      rw[List.filterMap_cons]
      cases actOf g.prods c s[k] <;> rfl
    have hlen:∀ c,(actsK g.prods t nx t (s.take k) c).length≤20001:=fun c=>Nat.le_trans actsK_len (by rw[List.length_take];omega)
    generalize hit:s[k]=it at *
    obtain⟨p,d,lo⟩:=it
    obtain⟨r1,r2,r3,r4,r5,r6⟩:=hxr
    dsimp only at r1 r2 r3 r4 r5 r6
    obtain⟨pn,rfl⟩:=Int.eq_ofNat_of_zero_le r1
    obtain⟨dn,rfl⟩:=Int.eq_ofNat_of_zero_le r3
    obtain⟨ln,rfl⟩:=Int.eq_ofNat_of_zero_le r5
    have hln:ln<t+1:=by omega
    have hoth:∀ j,j≠ln→actsK g.prods t nx t (s.take (k+1)) j=actsK g.prods t nx t (s.take k) j:=fun j hj=>by
      rw[hall j]
      have:actOf g.prods j ((pn:Int),(dn:Int),(ln:Int))=none:=by
        unfold actOf
        rw[if_pos (by show (ln:Int)≠(j:Int);omega)]
      rw[this,List.append_nil]
    have hall2:=hall ln
    unfold actOf at hall2
    rw[if_neg (by show ¬ (ln:Int)≠(ln:Int);simp)] at hall2
    dsimp only at hall2
    clear hall htk
    repeat(first|refine GA ?_|refine gV (rr_idxc Und.eq TyC.ty rfl rfl c2) ?_|refine gV (rr_loadN (cs:=itC ((pn:Int),(dn:Int),(ln:Int))) TyC.ty rfl rfl (hatA _)) ?_)
    refine TL_new rfl fun g11 => ?_
    conv=>arg 8;simp only[zA,zB,zC,zD,zE,zF,zG,zH,zI,rowS,ret,id_eq]
    refine TL_storeB (i:=4) (cs':=(itC ((pn:Int),(dn:Int),(ln:Int))).toArray) rfl rfl rfl rfl rfl rfl ?_
    conv=>arg 8;simp only[zA,zB,zC,zD,zE,zF,zG,zH,zI,rowS,ret,id_eq]
    have hFt:actF vs (actsK g.prods t nx t (s.take k)) ln=rowO 109 2 (vs ln) (actsK g.prods t nx t (s.take k) ln).length ((actsK g.prods t nx t (s.take k) ln).flatMap actC):=rfl
    have hll:=hlen ln
    by_cases q1:pn=g.prods.length
    · subst q1
      by_cases q2:dn=1
      · subst q2
        have hmine:actsK g.prods t nx t (s.take (k+1)) ln=actsK g.prods t nx t (s.take k) ln++[(3,0)]:=by
          rw[if_pos ⟨rfl,rfl⟩] at hall2;exact hall2
        repeat(first|refine GA ?_|refine gV (rr_load1 (v:= .int .i64 (g.prods.length:Int)) TyC.ty rfl (at_blk (i:=4) rfl rfl)) ?_|refine gV (rr_load1 (v:= .slice bp g.prods.length cp) TyC.ty rfl (at_blk (i:=0) rfl rfl)) ?_|refine gV (rr_load1 (v:= .int .i64 1) TyC.ty rfl (at_blk (i:=4) rfl rfl)) ?_)
        refine T_take (q:=3) ln rfl hln ?_
        rw[hFt]
        conv=>arg 7;simp only[zA,zB,zC,zD,zE,zF,zG,zH,zI,rowS,ret,id_eq]
        refine T_ord ([blkO g11 (itC ((g.prods.length:Int),1,(ln:Int))).toArray 153]) (.calm 0 (.calm 1 (.calm 2 (.calm 3 (.calm 4 (.calm 5 (.calm 6 (.calm 8 (.two 7 (.one 9 (.one 10 (.calm 11 (.one 12 (.done))))) 9 (.one 7 (.one 10 (.calm 11 (.one 12 (.done)))))))))))))) (sub_pick [4] (by decide) rfl) (by kernel_rfl) (by kernel_rfl) (by intro c a d v w h;cases d <;> exact h) ?_
        repeat(first|refine GW ?_|(refine GN ?_;first|refine QW (rr_load1 (v:= .int .i64 (ln:Int)) TyC.ty rfl (at_blk (i:=0) rfl rfl)) ?_|refine QW (rr_idx1 Und.eq TyC.ty rfl rfl hln) ?_|refine QW (rr_build rfl hb3) ?_))
        refine TW_two rfl rfl ?way1x ?way2x
        case' way1x=>
          refine TL_val (rr_load1 TyC.ty rfl (at_rowA (i:=2) rfl hln)) rfl rfl rfl (TW_on (sub_pick [4] (by decide) rfl) ?_)
          refine TW_one rfl (TL_one (cs:=(actC (3,0)).toArray) rfl rfl rfl rfl rfl fun g74=>TW_on (sub_pick [4] (by decide) rfl) ?_)
        case' way2x=>
          refine TL_one (cs:=(actC (3,0)).toArray) rfl rfl rfl rfl rfl fun g74=>TW_on (sub_pick [4] (by decide) rfl) ?_
          refine TW_one rfl (TL_val (rr_load1 TyC.ty rfl (at_rowA (i:=2) rfl hln)) rfl rfl rfl (TW_on (sub_pick [4] (by decide) rfl) ?_))
        all_goals
          refine TW_one rfl (TL_app1 (i:=5) (q:=6) rfl rfl rfl rfl rfl rfl (by omega) (by omega) rfl fun v3=>TW_on (sub_pick [4] (by decide) rfl) ?_)
          repeat(first|refine GW ?_|(refine GN ?_;first|refine QW (rr_idx1 Und.eq TyC.ty rfl rfl hln) ?_))
          refine TW_one rfl (TL_slv (i:=5) rfl fun hv1 hv2=>TL_storeA (i:=2) (v:=v3) (fun j=>if j=ln then v3 else vs j) TyC.ty rfl rfl rfl hv1 hv2 hln (fun j _=>rfl) (TW_on (sub_pick [4] (by decide) rfl) ?_))
          try refine GW ?_
          refine E_put (D':=fun j=>j<t+1) (f':=actF (fun j=>if j=ln then v3 else vs j) (actsK g.prods t nx t (s.take (k+1)))) ln 3 5 [0,1,2] (by decide) rfl rfl rfl (fun h=>h.2 rfl) (fun j hj=>by
            by_cases e:j=ln
            · exact .inr e
            · exact .inl ⟨hj,e⟩) (fun j hj=>by
            by_cases e:j=ln
            · subst e
              rw[upd_eq]
              unfold actF
              dsimp only
              rw[hmine,if_pos rfl,List.length_append,List.flatMap_append]
              rfl
            · rw[upd_ne e]
              unfold actF
              dsimp only
              rw[hoth j e,if_neg e]) ?_
          try refine GA ?_
          exact E_round (k+1,fun j=>if j=ln then v3 else vs j) (by show k+1≤s.length;omega) (by show s.length - (k+1)<s.length - k;omega) (by repeat' (first | exact True.intro | refine And.intro rfl ?_)) rfl
      · have hsame:actsK g.prods t nx t (s.take (k+1))=actsK g.prods t nx t (s.take k):=funext fun j=>by
          by_cases e:j=ln
          · subst e
            rw[if_neg (fun h=>q2 (by have:=h.2;omega)),if_neg (fun h=>by have:=h.1;omega)] at hall2
            rw[hall2];exact List.append_nil _
          · exact hoth j e
        repeat(first|refine GA ?_|refine gV (rr_load1 (v:= .int .i64 (g.prods.length:Int)) TyC.ty rfl (at_blk (i:=4) rfl rfl)) ?_|refine gV (rr_load1 (v:= .slice bp g.prods.length cp) TyC.ty rfl (at_blk (i:=0) rfl rfl)) ?_|refine gV (rr_load1 (v:= .int .i64 (dn:Int)) TyC.ty rfl (at_blk (i:=4) rfl rfl)) ?_)
        refine T_ord ([blkO g3 (graV (t:Int) g.nons (.slice bp g.prods.length cp)).cells 33,blkO g11 (itC ((g.prods.length:Int),(dn:Int),(ln:Int))).toArray 153]) (.calm 0 (.calm 1 (.calm 2 (.calm 3 (.calm 4 (.calm 5 (.calm 6 (.calm 7 (.calm 8 (.calm 9 (.calm 10 (.calm 11 (.calm 12 (.calm 13 (.calm 14 (.calm 15 (.calm 16 (.calm 17 (.calm 18 (.calm 19 (.done))))))))))))))))))))) (sub_pick [0,4] (by decide) rfl) (by kernel_rfl) (by kernel_rfl) (by intro c a d v w h;cases d <;> exact h) ?_
        repeat(first|refine GW ?_|(refine GN ?_;first|refine QW (rr_load1 (v:= .int .i64 (g.prods.length:Int)) TyC.ty rfl (at_blk (i:=1) rfl rfl)) ?_|refine QW (rr_load1 (v:= .slice bp g.prods.length cp) TyC.ty rfl (at_blk (i:=0) rfl rfl)) ?_))
        try refine GA ?_
        refine E_pick [0,1,2,3] (by decide) rfl ?_
        exact E_round (k+1,vs) (by show k+1≤s.length;omega) (by show s.length - (k+1)<s.length - k;omega) (by repeat' (first | exact True.intro | refine And.intro rfl ?_)) (by dsimp only;rw[hsame];rfl)
    · have hpn:pn<g.prods.length:=by omega
      obtain⟨pb,po,rfl,hFb,hpr⟩:=hrp (by omega)
      obtain⟨bb,cb,hq1,hq2,hq3⟩:=prod_at hpr hpn
      have hpg:g.prods[pn]=prodAt g.prods (pn:Int):=by
        unfold prodAt
        rw[Int.toNat_natCast,List.getD_eq_getElem?_getD,List.getElem?_eq_getElem hpn];rfl
      rw[hpg] at hq1 hq2 hq3
      have hatP:∀ (L:List Own) (j:Nat) (v:Value),([.int .i64 (prodAt g.prods (pn:Int)).1,.slice bb (prodAt g.prods (pn:Int)).2.length cb]:List Value)[j]?=some v→At w L ⟨pb,po+pn*2+j,none⟩ v:=fun L j v hj=>at_rd hq1 hj
      clear hpr hrp hq1 hq3
      by_cases q2:dn=(prodAt g.prods (pn:Int)).2.length
      · subst q2
        have hmine:actsK g.prods t nx t (s.take (k+1)) ln=actsK g.prods t nx t (s.take k) ln++[(2,(pn:Int))]:=by
          rw[if_neg (fun h=>q1 (by have:=h.1;omega)),if_pos ⟨by omega,rfl⟩] at hall2;exact hall2
        repeat(first|refine GA ?_|refine gV (rr_load1 (v:= .int .i64 (pn:Int)) TyC.ty rfl (at_blk (i:=4) rfl rfl)) ?_|refine gV (rr_load1 (v:= .slice (some ⟨pb,po,none⟩) g.prods.length cp) TyC.ty rfl (at_blk (i:=0) rfl rfl)) ?_)
        refine T_ord ([blkO g3 (graV (t:Int) g.nons (.slice (some ⟨pb,po,none⟩) g.prods.length cp)).cells 33,blkO g11 (itC ((pn:Int),((prodAt g.prods (pn:Int)).2.length:Int),(ln:Int))).toArray 153]) (.calm 0 (.calm 1 (.calm 2 (.calm 3 (.calm 4 (.calm 5 (.calm 6 (.calm 7 (.calm 8 (.calm 9 (.calm 10 (.calm 11 (.calm 12 (.calm 13 (.calm 14 (.calm 15 (.calm 16 (.calm 17 (.calm 18 (.calm 19 (.done))))))))))))))))))))) (sub_pick [0,4] (by decide) rfl) (by kernel_rfl) (by kernel_rfl) (by intro c a d v w h;cases d <;> exact h) ?_
        repeat(first|refine GW ?_|(refine GN ?_;first|refine QW (rr_load1 (v:= .int .i64 (pn:Int)) TyC.ty rfl (at_blk (i:=1) rfl rfl)) ?_|refine QW (rr_load1 (v:= .int .i64 ((prodAt g.prods (pn:Int)).2.length:Int)) TyC.ty rfl (at_blk (i:=1) rfl rfl)) ?_|refine QW (rr_load1 (v:= .slice (some ⟨pb,po,none⟩) g.prods.length cp) TyC.ty rfl (at_blk (i:=0) rfl rfl)) ?_|refine QW (rr_idxc Und.eq TyC.ty rfl rfl hpn) ?_|refine QW (rr_load1 (v:= .slice bb (prodAt g.prods (pn:Int)).2.length cb) TyC.ty rfl (hatP _ 1 _ rfl)) ?_))
        try refine GA ?_
        refine T_take (q:=3) ln rfl hln ?_
        rw[hFt]
        conv=>arg 7;simp only[zA,zB,zC,zD,zE,zF,zG,zH,zI,rowS,ret,id_eq]
        refine T_ord ([blkO g11 (itC ((pn:Int),((prodAt g.prods (pn:Int)).2.length:Int),(ln:Int))).toArray 153]) (.calm 0 (.calm 1 (.calm 2 (.calm 3 (.calm 4 (.calm 5 (.calm 6 (.calm 8 (.calm 9 (.calm 10 (.two 7 (.one 11 (.one 12 (.calm 13 (.one 14 (.done))))) 11 (.one 7 (.one 12 (.calm 13 (.one 14 (.done)))))))))))))))) (sub_pick [4] (by decide) rfl) (by kernel_rfl) (by kernel_rfl) (by intro c a d v w h;cases d <;> exact h) ?_
        repeat(first|refine GW ?_|(refine GN ?_;first|refine QW (rr_load1 (v:= .int .i64 (ln:Int)) TyC.ty rfl (at_blk (i:=0) rfl rfl)) ?_|refine QW (rr_load1 (v:= .int .i64 (pn:Int)) TyC.ty rfl (at_blk (i:=0) rfl rfl)) ?_|refine QW (rr_idx1 Und.eq TyC.ty rfl rfl hln) ?_|refine QW (rr_build rfl (hb2 _)) ?_))
        refine TW_two rfl rfl ?way1y ?way2y
        case' way1y=>
          refine TL_val (rr_load1 TyC.ty rfl (at_rowA (i:=2) rfl hln)) rfl rfl rfl (TW_on (sub_pick [4] (by decide) rfl) ?_)
          refine TW_one rfl (TL_one (cs:=(actC (2,(pn:Int))).toArray) rfl rfl rfl rfl rfl fun g74=>TW_on (sub_pick [4] (by decide) rfl) ?_)
        case' way2y=>
          refine TL_one (cs:=(actC (2,(pn:Int))).toArray) rfl rfl rfl rfl rfl fun g74=>TW_on (sub_pick [4] (by decide) rfl) ?_
          refine TW_one rfl (TL_val (rr_load1 TyC.ty rfl (at_rowA (i:=2) rfl hln)) rfl rfl rfl (TW_on (sub_pick [4] (by decide) rfl) ?_))
        all_goals
          refine TW_one rfl (TL_app1 (i:=5) (q:=6) rfl rfl rfl rfl rfl rfl (by omega) (by omega) rfl fun v3=>TW_on (sub_pick [4] (by decide) rfl) ?_)
          repeat(first|refine GW ?_|(refine GN ?_;first|refine QW (rr_idx1 Und.eq TyC.ty rfl rfl hln) ?_))
          refine TW_one rfl (TL_slv (i:=5) rfl fun hv1 hv2=>TL_storeA (i:=2) (v:=v3) (fun j=>if j=ln then v3 else vs j) TyC.ty rfl rfl rfl hv1 hv2 hln (fun j _=>rfl) (TW_on (sub_pick [4] (by decide) rfl) ?_))
          try refine GW ?_
          refine E_put (D':=fun j=>j<t+1) (f':=actF (fun j=>if j=ln then v3 else vs j) (actsK g.prods t nx t (s.take (k+1)))) ln 3 5 [0,1,2] (by decide) rfl rfl rfl (fun h=>h.2 rfl) (fun j hj=>by
            by_cases e:j=ln
            · exact .inr e
            · exact .inl ⟨hj,e⟩) (fun j hj=>by
            by_cases e:j=ln
            · subst e
              rw[upd_eq]
              unfold actF
              dsimp only
              rw[hmine,if_pos rfl,List.length_append,List.flatMap_append]
              rfl
            · rw[upd_ne e]
              unfold actF
              dsimp only
              rw[hoth j e,if_neg e]) ?_
          try refine GA ?_
          exact E_round (k+1,fun j=>if j=ln then v3 else vs j) (by show k+1≤s.length;omega) (by show s.length - (k+1)<s.length - k;omega) (by repeat' (first | exact True.intro | refine And.intro rfl ?_)) rfl
      · have hsame:actsK g.prods t nx t (s.take (k+1))=actsK g.prods t nx t (s.take k):=funext fun j=>by
          by_cases e:j=ln
          · subst e
            rw[if_neg (fun h=>q1 (by have:=h.1;omega)),if_neg (fun h=>q2 (by have:=h.2;omega))] at hall2
            rw[hall2];exact List.append_nil _
          · exact hoth j e
        repeat(first|refine GA ?_|refine gV (rr_load1 (v:= .int .i64 (pn:Int)) TyC.ty rfl (at_blk (i:=4) rfl rfl)) ?_|refine gV (rr_load1 (v:= .slice (some ⟨pb,po,none⟩) g.prods.length cp) TyC.ty rfl (at_blk (i:=0) rfl rfl)) ?_)
        refine T_ord ([blkO g3 (graV (t:Int) g.nons (.slice (some ⟨pb,po,none⟩) g.prods.length cp)).cells 33,blkO g11 (itC ((pn:Int),(dn:Int),(ln:Int))).toArray 153]) (.calm 0 (.calm 1 (.calm 2 (.calm 3 (.calm 4 (.calm 5 (.calm 6 (.calm 7 (.calm 8 (.calm 9 (.calm 10 (.calm 11 (.calm 12 (.calm 13 (.calm 14 (.calm 15 (.calm 16 (.calm 17 (.calm 18 (.calm 19 (.done))))))))))))))))))))) (sub_pick [0,4] (by decide) rfl) (by kernel_rfl) (by kernel_rfl) (by intro c a d v w h;cases d <;> exact h) ?_
        repeat(first|refine GW ?_|(refine GN ?_;first|refine QW (rr_load1 (v:= .int .i64 (pn:Int)) TyC.ty rfl (at_blk (i:=1) rfl rfl)) ?_|refine QW (rr_load1 (v:= .int .i64 (dn:Int)) TyC.ty rfl (at_blk (i:=1) rfl rfl)) ?_|refine QW (rr_load1 (v:= .slice (some ⟨pb,po,none⟩) g.prods.length cp) TyC.ty rfl (at_blk (i:=0) rfl rfl)) ?_|refine QW (rr_idxc Und.eq TyC.ty rfl rfl hpn) ?_|refine QW (rr_load1 (v:= .slice bb (prodAt g.prods (pn:Int)).2.length cb) TyC.ty rfl (hatP _ 1 _ rfl)) ?_))
        try refine GA ?_
        refine E_pick [0,1,2,3] (by decide) rfl ?_
        exact E_round (k+1,vs) (by show k+1≤s.length;omega) (by show s.length - (k+1)<s.length - k;omega) (by repeat' (first | exact True.intro | refine And.intro rfl ?_)) (by dsimp only;rw[hsame];rfl)
  · obtain rfl:k=s.length:=by omega
    rw[List.take_length]
    try refine GA ?_
    exact E_ret1 rfl rfl fun w hm=>hm.meets (S:=actsS t (actsI g.prods t s nx)) (g7,vs) trivial [2,3] (by decide) rfl
end Go.Proofs.Ytldiodhdefnlaaa.eng

/- LrK -/
namespace Go.Proofs.Ytldiodhdefnlaaa.eng
open Go.RowKit kit mix gramL treeL factsL itemL smallL
section
variable {P:Program} {n:Nat} {W:Base} {fr:Fr} {L:List Own} {Q:Exit→Act→World→Prop} {ops:Array Oper} {rest:List Oper} {d:Nat} {ty:TypeId} {pos:String} {after:Array Edge}
theorem TL_makeRowN {α:Type} {f:α→List Value} {c:Nat} (hc:∀ a,(f a).length=c) (h0:0<c) (z:α) {t e:TypeId} {x y:Operand} {bytes m:Nat} {k k':IntKind} {zs:Array Value} [ElC P t e c bytes] [ZeroC P e zs] (hz:zs.toList=f z) (hx:ev fr x=some (.int k (m:Int))) (hy:ev fr y=some (.int k' (m:Int))) (hb:bytes*m≤281474976710656) (h63:m≤9223372036854775807) (hn:Nat.blt d n=true)
    (h:∀ g,TL P n W ops Q rest ((d,.slice (some ⟨g,0,none⟩) m m)::fr) (L++[rowO e c (.slice (some ⟨g,0,none⟩) m m) m ((List.replicate m z).flatMap f)])):TL P n W ops Q (⟨some d,.makeSlice t x y,ty,pos,after,none⟩::rest) fr L:=by
  refine TL_makeB hx hy (Nat.le_refl _) hb h63 hn fun g=>TL_toRowN (i:=L.length) c (List.getElem?_concat_length ..) (by rw[size_madeCells]) (Nat.le_refl _) h63 ?_
  have hsz:zs.size=c:=by rw[←Array.length_toList,hz,hc]
  have hl:(madeCells zs (m*c)).toList.take (m*c)=(List.replicate m z).flatMap f:=by
    rw[madeC hsz h0,List.take_of_length_le (by simp[hz,hc]),hz,List.flatMap_def,List.map_replicate]
  rw[hl]
  have:=h g
  rwa [List.set_append_right _ _ (Nat.le_refl _),Nat.sub_self,List.set_cons_zero]
end
abbrev Fgt:=Int×Int×itemL.Act×itemL.Act
def fgtC (x:Fgt):List Value:=[.int .i64 x.1,.int .i64 x.2.1,.int .i64 x.2.2.1.1,.int .i64 x.2.2.1.2,.int .i64 x.2.2.2.1,.int .i64 x.2.2.2.2]
def actS:Shp itemL.Act:=flatS actC 2 (fun _=>rfl) (fun _=>True)
section
variable (l:List gramL.Prod) (T:Nat) (Nx:List (List Int)) (S:List (List itemL.Item))
abbrev actsQ (q c:Nat):List itemL.Act:=actsI l T (S.getD q []) (Nx.getD q []) c
def fightsC (q c:Nat):List Fgt:=(actsQ l T Nx S q c).tail.map fun x=>((q:Int),(c:Int),(actsQ l T Nx S q c).headD (0,0),x)
def fightsR (q:Nat):Nat→List Fgt
  | 0=>[]
  | c+1=>fightsR q c++fightsC l T Nx S q c
def fightsA:Nat→List Fgt
  | 0=>[]
  | q+1=>fightsA q++fightsR l T Nx S q (T+1)
def actRow (q c:Nat):List itemL.Act:=(List.range (T+1)).map fun j=>if j<c then actAt l T Nx S q j else (0,0)
def actTab (n:Nat):List (List itemL.Act):=(List.range n).map fun q=>actRow l T Nx S q (T+1)
def gotoTab (n:Nat):List (List Int):=(List.range n).map fun q=>(Nx.getD q []).drop T
end
def outT (g:Gram):List (List itemL.Act)×List (List Int)×List Fgt×Int:=if (outA g).2.2≠0 then ([],[],[],(outA g).2.2) else (actTab g.prods g.terms.toNat (outA g).1 (outA g).2.1 (outA g).2.1.length,gotoTab g.terms.toNat (outA g).1 (outA g).2.1.length,fightsA g.prods g.terms.toNat (outA g).1 (outA g).2.1 (outA g).2.1.length,0)
structure TabX where
  vA:Value
  vas:List Value
  FA:Nat→Prop
  vG:Value
  vgs:List Value
  FG:Nat→Prop
def tabL (x:TabX) (A:List (List itemL.Act)) (G:List (List Int)):List Own:=[rowO 106 1 x.vA A.length x.vas,elsO (sliceS actS) x.FA (x.vas.map fun v=>[v]) A,rowO 26 1 x.vG G.length x.vgs,elsO (sliceS intS) x.FG (x.vgs.map fun v=>[v]) G]
def makeTS (g:Gram):Spec (TabX×Value):=⟨fun _=>True,fun x=> .tuple #[.agg #[x.1.vA,x.1.vG],x.2,.int .i64 (outT g).2.2.2],fun x=>tabL x.1 (outT g).1 (outT g).2.1++[rowO 111 6 x.2 (outT g).2.2.1.length ((outT g).2.2.1.flatMap fgtC)]⟩
theorem build_tab0 (w:World):(Instr.build 36 (#[]:Array (Nat×Value))).run Try.prog w = .ok (.agg #[.slice none 0 0,.slice none 0 0]) w:=by kernel_rfl
theorem build_fgt (q c:Int) (a b:itemL.Act) (w:World):(Instr.build 111 #[(0,.int .i64 q),(1,.int .i64 c),(2,.agg (actC a).toArray),(3,.agg (actC b).toArray)]).run Try.prog w = .ok (.agg (fgtC (q,c,a,b)).toArray) w:=by kernel_rfl
theorem act_of_row {w:World} {v:Value} {l:List itemL.Act} (h:(rowO 109 2 v l.length (l.flatMap actC)).holds w):(sliceS actS).is (fun k=>v.ownBlock=some k) w [v] l:=
  ⟨v,rfl,SlF.of_flat (Sl.of_own h) (fun _ _=>trivial) (fun _ h=>h) (fun a n cp hv=>by rw[hv];rfl)⟩
theorem actRow_len {l:List gramL.Prod} {T:Nat} {Nx:List (List Int)} {S:List (List itemL.Item)} {q c:Nat}:(actRow l T Nx S q c).length=T+1:=by unfold actRow;rw[List.length_map,List.length_range]
theorem actRow_0 {l:List gramL.Prod} {T:Nat} {Nx:List (List Int)} {S:List (List itemL.Item)} {q:Nat}:actRow l T Nx S q 0=List.replicate (T+1) (0,0):=by
  unfold actRow
  apply List.ext_getElem?
  intro j
  by_cases h:j<T+1
  · simp[h]
  · simp[h]
theorem actRow_set {l:List gramL.Prod} {T:Nat} {Nx:List (List Int)} {S:List (List itemL.Item)} {q c:Nat} (hc:c<T+1):(actRow l T Nx S q c).set c (actAt l T Nx S q c)=actRow l T Nx S q (c+1):=by
  unfold actRow
  apply List.ext_getElem?
  intro j
  rw[List.getElem?_set]
  by_cases h:j<T+1
  · by_cases e:c=j
    · subst e;simp[h]
    · rw[if_neg e]
      simp only[List.getElem?_map,List.getElem?_range h,Option.map_some]
      by_cases e2:j<c
      · rw[if_pos e2,if_pos (by omega)]
      · rw[if_neg e2,if_neg (by omega)]
  · have h1:(List.range (T+1))[j]?=none:=List.getElem?_eq_none (by rw[List.length_range];omega)
    simp only[List.getElem?_map,h1,Option.map_none]
    split
    · rename_i e;subst e;exact absurd hc h
    · rfl
theorem actRow_none {l:List gramL.Prod} {T:Nat} {Nx:List (List Int)} {S:List (List itemL.Item)} {q c:Nat} (h:actsQ l T Nx S q c=[]):actRow l T Nx S q (c+1)=actRow l T Nx S q c:=by
  unfold actRow
  apply List.map_congr_left
  intro j hj
  by_cases e:j=c
  · subst e
    rw[if_pos (Nat.lt_succ_self _),if_neg (Nat.lt_irrefl _)]
    unfold actAt
    rw[show actsI l T (S.getD q []) (Nx.getD q []) j=[] from h];rfl
  · by_cases e2:j<c
    · rw[if_pos e2,if_pos (by omega)]
    · rw[if_neg e2,if_neg (by omega)]
theorem fights_len {l:List gramL.Prod} {T:Nat} {Nx:List (List Int)} {S:List (List itemL.Item)} {q:Nat} {M:Nat} (h:(S.getD q []).length≤M):∀ c,(fightsR l T Nx S q c).length≤c*(M+1)
  | 0=>Nat.zero_le _
  | c + 1=>by
    rw[fightsR,List.length_append,Nat.succ_mul]
    have h2:(fightsC l T Nx S q c).length≤M+1:=by
      unfold fightsC
      rw[List.length_map,List.length_tail]
      have:(actsQ l T Nx S q c).length≤1+(S.getD q []).length:=by rw[actsQ,←actsK_all];exact actsK_len
      omega
    have:=fights_len (l:=l) (T:=T) (Nx:=Nx) h c
    omega
theorem fightsA_len {l:List gramL.Prod} {T:Nat} {Nx:List (List Int)} {S:List (List itemL.Item)} {M:Nat} (h:∀ q,(S.getD q []).length≤M):∀ q,(fightsA l T Nx S q).length≤q*((T+1)*(M+1))
  | 0=>Nat.zero_le _
  | q+1=>by
    rw[fightsA,List.length_append,Nat.succ_mul]
    have:=fightsA_len (l:=l) (T:=T) (Nx:=Nx) h q
    have:=fights_len (l:=l) (T:=T) (Nx:=Nx) (h q) (T+1)
    omega
theorem fightsR_mono {l:List gramL.Prod} {T:Nat} {Nx:List (List Int)} {S:List (List itemL.Item)} {q c:Nat}:∀ {d:Nat},c≤d→(fightsR l T Nx S q c).length≤(fightsR l T Nx S q d).length
  | 0, h => by obtain rfl:c=0:=by omega
               exact Nat.le_refl _
  | d + 1,h=>by
    by_cases e:c=d+1
    · subst e;exact Nat.le_refl _
    · rw[fightsR,List.length_append]
      have:=fightsR_mono (l:=l) (T:=T) (Nx:=Nx) (S:=S) (q:=q) (c:=c) (d:=d) (by omega)
      omega
theorem actTab_succ {l:List gramL.Prod} {T:Nat} {Nx:List (List Int)} {S:List (List itemL.Item)} (n:Nat):actTab l T Nx S (n+1)=actTab l T Nx S n++[actRow l T Nx S n (T+1)]:=by unfold actTab;rw[List.range_succ,List.map_append];rfl
theorem gotoTab_succ {T:Nat} {Nx:List (List Int)} (n:Nat):gotoTab T Nx (n+1)=gotoTab T Nx n++[(Nx.getD n []).drop T]:=by unfold gotoTab;rw[List.range_succ,List.map_append];rfl
theorem actTab_len {l:List gramL.Prod} {T:Nat} {Nx:List (List Int)} {S:List (List itemL.Item)} (n:Nat):(actTab l T Nx S n).length=n:=by unfold actTab;rw[List.length_map,List.length_range]
theorem gotoTab_len {T:Nat} {Nx:List (List Int)} (n:Nat):(gotoTab T Nx n).length=n:=by unfold gotoTab;rw[List.length_map,List.length_range]
set_option maxHeartbeats 16000000 in
theorem lrMake_calls (v:Value) (g:Gram) (w:World) (hG:GraR (fun k=>k<w.heap.size) w v g) :
    Calls Try.prog 12 #[v] w (Meets (makeTS g) w):=by
  have hG0:=hG
  have hal:=fun w' (hg:Gr w w')=>all_calls v g w' (hG.gr hg)
  have hac:=fun T hTt hT bS oS lS cS bN oN lN cN n vs1 vn1 s nx w' (hg:Gr w w')=>lrActs_calls v g T hTt hT bS oS lS cS bN oN lN cN n vs1 vn1 s nx w' (hG.gr hg)
  obtain⟨vp,rfl,-⟩:=hG
  have hb0:=build_tab0
  have hO:outT g=if (outA g).2.2≠0 then ([],[],[],(outA g).2.2) else (actTab g.prods g.terms.toNat (outA g).1 (outA g).2.1 (outA g).2.1.length,gotoTab g.terms.toNat (outA g).1 (outA g).2.1.length,fightsA g.prods g.terms.toNat (outA g).1 (outA g).2.1 (outA g).2.1.length,0):=rfl
  unfold makeTS tabL
  refine enter (args:=[graV g.terms g.nons vp]) (n:=92) Try.func12 rfl rfl rfl ?_
  refine T_seq (T_region (TL_box rfl rfl rfl fun g1 => ?_))
  conv=>arg 8;simp only[zA,zB,zC,zD,zE,zF,zG,zH,zI,rowS,ret,id_eq]
  try refine GA ?_
  refine TL_new rfl fun g2 => ?_
  conv=>arg 8;simp only[zA,zB,zC,zD,zE,zF,zG,zH,zI,rowS,ret,id_eq]
  repeat(first|refine GA ?_|refine gV (rr_loadB (i:=0) TyC.ty rfl rfl rfl) ?_)
  refine TL_call (he1 EntersC.en rfl rfl) (fun w hm=>hal w hm.below) rfl rfl rfl ?_
  rintro⟨vS,vN,vss,F,vns,FN⟩ _
  conv=>arg 8;simp only[zA,zB,zC,zD,zE,zF,zG,zH,zI,rowS,ret,id_eq,allS]
  conv=>arg 7;simp only[allS]
  have hok:=outA_ok (g:=g)
  have hno:=outA_no (g:=g)
  obtain⟨⟨Nx,S,e⟩,hOA⟩:∃ R,outA g=R:=⟨_,rfl⟩
  rw[hOA] at hok hno hO
  rw[hOA]
  dsimp only at hok hno hO ⊢
  refine TL_know (i:=2) rfl row_slm fun hrow => ?_
  obtain⟨aS,cS,rfl,-,haS⟩:=hrow
  refine TL_know (i:=4) rfl row_slm fun hrow => ?_
  obtain⟨aN,cN,rfl,-,haN⟩:=hrow
  clear hOA hal
  try refine GA ?_
  refine TL_new rfl fun g5 => ?_
  conv=>arg 8;simp only[zA,zB,zC,zD,zE,zF,zG,zH,zI,rowS,ret,id_eq]
  refine TL_storeB (i:=6) (cs':=#[.slice aS S.length cS,.slice aN Nx.length cN]) rfl rfl rfl rfl rfl rfl ?_
  conv=>arg 8;simp only[zA,zB,zC,zD,zE,zF,zG,zH,zI,rowS,ret,id_eq]
  try refine GA ?_
  by_cases c0:e=0
  · subst c0
    rw[if_neg (by simp)] at hO
    obtain⟨hg,hA⟩:=hok rfl
    obtain⟨hT1,hT2,hN1,hN2,hpl,hgb⟩:=checkG_ok hg
    have hwl:∀ q∈g.prods,q.2.length≤8:=fun q hq=>(hgb q hq).1
    obtain⟨T,hTt⟩:∃ T:Nat,g.terms=(T:Int):=⟨g.terms.toNat,by omega⟩
    obtain⟨N,hNn⟩:∃ N:Nat,g.nons=(N:Int):=⟨g.nons.toNat,by omega⟩
    have hTn:g.terms.toNat=T:=by omega
    rw[hTn,show g.nons.toNat=N by omega] at hA
    rw[hTn] at hO
    have hT:T≤30:=by omega
    have hI:=allI_law hwl hpl hT hA
    have hfew:=all_few hwl hpl hT hA
    have hS0:0<S.length:=(List.getElem?_eq_some_iff.1 hI.start).1
    have hS2:=hI.few
    have hNl:=hI.len
    have hac:=hac T hTt hT
    obtain⟨gS,rfl⟩:=haS hS0
    obtain⟨gN,rfl⟩:=haN (by omega)
    clear hok hno haS haN
    rw[hTt,hO]
    rw[hTt] at hac
    try refine GA ?_
    refine TL_new rfl fun g7 => ?_
    conv=>arg 8;simp only[zA,zB,zC,zD,zE,zF,zG,zH,zI,rowS,ret,id_eq]
    repeat(first|refine GA ?_|refine gV (rr_load1 (v:= .slice (some ⟨gS,0,none⟩) S.length cS) TyC.ty rfl (at_blk (i:=6) rfl rfl)) ?_)
    refine T_nil 106 1 (T_extra (elsO (sliceS actS) (fun _=>False) [] []) (fun k hk=>hk.elim (fun h=>by cases h) id) (fun w=>els_nil) (T_nil 26 1 (T_extra (elsO (sliceS intS) (fun _=>False) [] []) (fun k hk=>hk.elim (fun h=>by cases h) id) (fun w=>els_nil) (T_nil 111 6 ?_))))
    conv=>arg 7;simp only[zA,zB,zC,zD,zE,zF,zG,zH,zI,rowS,ret,id_eq]
    refine T_loop (ι:=Nat×TabX×Value) (fun (n,_,_)=>n≤S.length) (fun (n,_,vf)=>[(1,.pointer (some ⟨g1,0,none⟩)),(2,.pointer (some ⟨g2,0,none⟩)),(5,.pointer (some ⟨g5,0,none⟩)),(7,.pointer (some ⟨g7,0,none⟩)),(8,vf),(26,.int .i64 (S.length:Int)),(27,.int .i64 (n:Int))])
      (fun (n,x,vf)=>[blkO g1 (graV (T:Int) g.nons vp).cells 33,blkO g2 #[.slice none 0 0,.slice none 0 0] 36,rowO 148 1 (.slice (some ⟨gS,0,none⟩) S.length cS) S.length vss,elsO (sliceS itS) F (vss.map fun v=>[v]) S,rowO 26 1 (.slice (some ⟨gN,0,none⟩) Nx.length cN) Nx.length vns,elsO (sliceS intS) FN (vns.map fun v=>[v]) Nx,blkO g5 #[.slice (some ⟨gS,0,none⟩) S.length cS,.slice (some ⟨gN,0,none⟩) Nx.length cN] 103,blkO g7 #[x.vA,x.vG] 36,rowO 106 1 x.vA (actTab g.prods T Nx S n).length x.vas,elsO (sliceS actS) x.FA (x.vas.map fun v=>[v]) (actTab g.prods T Nx S n),rowO 26 1 x.vG (gotoTab T Nx n).length x.vgs,elsO (sliceS intS) x.FG (x.vgs.map fun v=>[v]) (gotoTab T Nx n),rowO 111 6 vf (fightsA g.prods T Nx S n).length ((fightsA g.prods T Nx S n).flatMap fgtC)]) (fun (n,_,_)=>S.length - n) (0,⟨.slice none 0 0,[],fun _=>False,.slice none 0 0,[],fun _=>False⟩,.slice none 0 0) (Nat.zero_le _) (by repeat' (first | exact True.intro | refine And.intro rfl ?_)) rfl ?_
    rintro⟨n,x,vf⟩ i1
    dsimp only at i1 ⊢
    by_cases c1:n<S.length
    · have hnN:n<Nx.length:=by omega
      have hSn:S.getD n []=S[n]:=by rw[List.getD_eq_getElem?_getD,List.getElem?_eq_getElem c1];rfl
      have hNn':Nx.getD n []=Nx[n]:=by rw[List.getD_eq_getElem?_getD,List.getElem?_eq_getElem hnN];rfl
      have hsr:=hI.ss.right S[n] (List.getElem_mem c1)
      have hwd:=hI.wide n c1
      rw[hNn'] at hwd
      have hsl:=hfew S[n] (List.getElem_mem c1)
      refine T_know (i:=3) rfl (fun w h=>els_count h) fun hvl => ?_
      refine T_know (i:=5) rfl (fun w h=>els_count h) fun hnl => ?_
      have hvq:vss[0+n]?=some (vss[n]'(by omega)):=by rw[Nat.zero_add];exact List.getElem?_eq_getElem _
      have hvq2:vss[n]?=some (vss[n]'(by omega)):=List.getElem?_eq_getElem _
      generalize vss[n]'(by omega)=vq at hvq hvq2
      have hnq:vns[0+n]?=some (vns[n]'(by omega)):=by rw[Nat.zero_add];exact List.getElem?_eq_getElem _
      have hnq2:vns[n]?=some (vns[n]'(by omega)):=List.getElem?_eq_getElem _
      generalize vns[n]'(by omega)=nq at hnq hnq2
      refine T_know (i:=5) rfl (fun w h=>And.intro (els_form h hnN hnq2) (SlF.okp (els_is h hnN hnq2))) fun hform => ?_
      obtain⟨⟨aq,cq,rfl,hcq,hcq2,-⟩,hoks⟩:=hform
      have hfl:(fightsA g.prods T Nx S n++fightsR g.prods T Nx S n (T+1)).length≤100000000:=by
        have h1:=fightsA_len (l:=g.prods) (T:=T) (Nx:=Nx) (S:=S) (M:=11439) (fun q=>by
          by_cases hq:q<S.length
          · rw[List.getD_eq_getElem?_getD,List.getElem?_eq_getElem hq];exact hfew _ (List.getElem_mem hq)
          · rw[List.getD_eq_getElem?_getD,List.getElem?_eq_none (by omega)];exact Nat.zero_le _) (n+1)
        rw[fightsA] at h1
        exact Nat.le_trans h1 (Nat.le_trans (Nat.mul_le_mul (show n+1≤200 by omega) (Nat.mul_le_mul (show T+1≤31 by omega) (Nat.le_refl _))) (by decide))
      have hS1:=fun (L:List Own) (i:Nat) (hL:L[i]?=some (elsO (sliceS itS) F (vss.map fun v=>[v]) S))=>els_sl (W:=(w:Base)) (L:=L) (f:=itC) (c:=3) (by decide) hL c1 hvq2
      have hN1:∀ (L:List Own) (i:Nat) (hL:L[i]?=some (elsO (sliceS intS) FN (vns.map fun v=>[v]) Nx)),SlL (w:Base) L (.slice aq Nx[n].length cq) Nx[n].length (Nx[n].map (Value.int .i64)):=fun L i hL w' hm'=>by
        have:=els_sl (W:=(w:Base)) (L:=L) (f:=fun n=>[Value.int .i64 n]) (c:=1) (by decide) hL hnN hnq2 w' hm'
        rwa [←List.map_eq_flatMap] at this
      repeat(first|refine GC ?_|refine gV (rr_load1 (v:= .int .i64 (T:Int)) TyC.ty rfl (at_blk (i:=0) rfl rfl)) ?_|refine gV (rr_add64 (r:=((T+1:Nat):Int)) rfl rfl (by omega) (by omega) (by omega)) ?_|refine GB ?_)
      refine TL_makeRowN actC_len (by decide) (0,0) rfl rfl rfl (by omega) (by omega) rfl fun g10 => ?_
      rw[←actRow_0 (l:=g.prods) (Nx:=Nx) (S:=S) (q:=n)]
      conv=>arg 8;simp only[zA,zB,zC,zD,zE,zF,zG,zH,zI,rowS,ret,id_eq]
      repeat(first|refine GA ?_|refine gV (rr_loadB (i:=0) TyC.ty rfl rfl rfl) ?_|refine gV (rr_loadB (i:=6) TyC.ty rfl rfl rfl) ?_)
      refine TL_call (S:=actsS T (actsI g.prods T S[n] Nx[n])) (he3 EntersC.en rfl rfl rfl rfl) (fun w hm=>hac gS 0 S.length cS gN 0 Nx.length cN n vq (.slice aq Nx[n].length cq) S[n] Nx[n] w hm.below hpl c1 (row_cell (hm.get (i:=2) rfl) hvq) (hS1 _ 3 rfl w hm) hnN (row_cell (hm.get (i:=4) rfl) hnq) (hN1 _ 5 rfl w hm) (by omega) hsr (by omega) (by omega)) rfl rfl rfl ?_
      rintro⟨ga,vs⟩ _
      conv=>arg 8;simp only[zA,zB,zC,zD,zE,zF,zG,zH,zI,rowS,ret,id_eq,actsS]
      conv=>arg 7;simp only[actsS]
      rw[←hSn,←hNn']
      clear hac
      try refine GA ?_
      refine T_loop (ι:=Nat×Value) (fun (c,_)=>c≤T+1) (fun (c,vf)=>[(1,.pointer (some ⟨g1,0,none⟩)),(2,.pointer (some ⟨g2,0,none⟩)),(5,.pointer (some ⟨g5,0,none⟩)),(7,.pointer (some ⟨g7,0,none⟩)),(8,vf),(26,.int .i64 (S.length:Int)),(27,.int .i64 (n:Int)),(9,.int .i64 (n:Int)),(10,.slice (some ⟨g10,0,none⟩) (T+1) (T+1)),(37,.slice (some ⟨ga,0,none⟩) (T+1) (T+1)),(38,.int .i64 ((T+1:Nat):Int)),(39,.int .i64 (c:Int))])
        (fun (c,vf)=>[blkO g1 (graV (T:Int) g.nons vp).cells 33,blkO g2 #[.slice none 0 0,.slice none 0 0] 36,rowO 148 1 (.slice (some ⟨gS,0,none⟩) S.length cS) S.length vss,elsO (sliceS itS) F (vss.map fun v=>[v]) S,rowO 26 1 (.slice (some ⟨gN,0,none⟩) Nx.length cN) Nx.length vns,elsO (sliceS intS) FN (vns.map fun v=>[v]) Nx,blkO g5 #[.slice (some ⟨gS,0,none⟩) S.length cS,.slice (some ⟨gN,0,none⟩) Nx.length cN] 103,blkO g7 #[x.vA,x.vG] 36,rowO 106 1 x.vA (actTab g.prods T Nx S n).length x.vas,elsO (sliceS actS) x.FA (x.vas.map fun v=>[v]) (actTab g.prods T Nx S n),rowO 26 1 x.vG (gotoTab T Nx n).length x.vgs,elsO (sliceS intS) x.FG (x.vgs.map fun v=>[v]) (gotoTab T Nx n),rowO 111 6 vf (fightsA g.prods T Nx S n++fightsR g.prods T Nx S n c).length ((fightsA g.prods T Nx S n++fightsR g.prods T Nx S n c).flatMap fgtC),rowO 109 2 (.slice (some ⟨g10,0,none⟩) (T+1) (T+1)) (T+1) ((actRow g.prods T Nx S n c).flatMap actC),rowA 106 vals ga (T+1) vs,famP (fun j=>j<T+1) (actF vs (actsI g.prods T (S.getD n []) (Nx.getD n [])))]) (fun (c,_)=>T+1 - c) (0,vf) (Nat.zero_le _) (by repeat' (first | exact True.intro | refine And.intro rfl ?_)) (by dsimp only;rw[fightsR,List.append_nil]) ?_
      rintro⟨c,vf⟩ j1
      dsimp only at j1 ⊢
      by_cases c2:c<T+1
      · obtain⟨X,hX⟩:∃ X,actsI g.prods T (S.getD n []) (Nx.getD n []) c=X:=⟨_,rfl⟩
        have hXl:X.length≤11440:=by
          rw[←hX,←actsK_all]
          have:=actsK_len (l:=g.prods) (T:=T) (nx:=Nx.getD n []) (t:=T) (s:=S.getD n []) (c:=c)
          rw[hSn] at this ⊢;omega
        have hrow1:=actRow_set (l:=g.prods) (Nx:=Nx) (S:=S) (q:=n) c2
        have hrow0:X=[]→actRow g.prods T Nx S n (c+1)=actRow g.prods T Nx S n c:=fun h=>actRow_none (by unfold actsQ;rw[hX,h])
        have hhd:actAt g.prods T Nx S n c=X.headD (0,0):=by unfold actAt;rw[hX]
        have hfs:fightsR g.prods T Nx S n (c+1)=fightsR g.prods T Nx S n c++X.tail.map fun x=>(((n:Int),(c:Int),X.headD (0,0),x):Fgt):=by
          rw[fightsR,fightsC];unfold actsQ;rw[hX]
        have hfl2:(fightsA g.prods T Nx S n++fightsR g.prods T Nx S n c).length≤100000000:=by
          rw[List.length_append] at hfl ⊢
          have:=fightsR_mono (l:=g.prods) (T:=T) (Nx:=Nx) (S:=S) (q:=n) (show c≤T+1 by omega)
          omega
        generalize hbase:fightsA g.prods T Nx S n++fightsR g.prods T Nx S n c=base at *
        refine T_know (i:=15) rfl (fun w h=>row_slm w (h.1 c c2)) fun hrow => ?_
        obtain⟨ax,cx,hvc,-,hax⟩:=hrow
        rw[hX] at hvc hax
        have hat15:∀ (L:List Own) (i:Nat) (gx:Nat),ax=some ⟨gx,0,none⟩→L[i]?=some (famP (fun j=>j<T+1) (actF vs (actsI g.prods T (S.getD n []) (Nx.getD n []))))→∀ k (hk:k<X.length) (j:Nat) (u:Value),(actC X[k])[j]?=some u→At (w:Base) L ⟨gx,0+k*2+j,none⟩ u:=fun L i gx hgx hL k hk j u hu=>at_hold hL fun w h=>by
          have h2:=h.1 c c2
          unfold actF at h2
          rw[hvc,hX,hgx] at h2
          have hj2:j<2:=by rw[←actC_len X[k]];exact (List.getElem?_eq_some_iff.1 hu).1
          exact row_cell h2 (by rw[Nat.zero_add,get_el actC_len X k j hk hj2];exact hu)
        repeat(first|refine GA ?_|refine gV (rr_idx1 Und.eq TyC.ty rfl rfl c2) ?_|refine gV (rr_load1 (v:= .slice ax X.length cx) TyC.ty rfl (by have:=at_rowA (W:=(w:Base)) (val:=vals) (i:=14) (f:=vs) (e:= 106) (g:=ga) (len:=T+1) (L:=[blkO g1 (graV (T:Int) g.nons vp).cells 33,blkO g2 #[.slice none 0 0,.slice none 0 0] 36,rowO 148 1 (.slice (some ⟨gS,0,none⟩) S.length cS) S.length vss,elsO (sliceS itS) F (vss.map fun v=>[v]) S,rowO 26 1 (.slice (some ⟨gN,0,none⟩) Nx.length cN) Nx.length vns,elsO (sliceS intS) FN (vns.map fun v=>[v]) Nx,blkO g5 #[.slice (some ⟨gS,0,none⟩) S.length cS,.slice (some ⟨gN,0,none⟩) Nx.length cN] 103,blkO g7 #[x.vA,x.vG] 36,rowO 106 1 x.vA (actTab g.prods T Nx S n).length x.vas,elsO (sliceS actS) x.FA (x.vas.map fun v=>[v]) (actTab g.prods T Nx S n),rowO 26 1 x.vG (gotoTab T Nx n).length x.vgs,elsO (sliceS intS) x.FG (x.vgs.map fun v=>[v]) (gotoTab T Nx n),rowO 111 6 vf (base).length ((base).flatMap fgtC),rowO 109 2 (.slice (some ⟨g10,0,none⟩) (T+1) (T+1)) (T+1) ((actRow g.prods T Nx S n c).flatMap actC),rowA 106 vals ga (T+1) vs,famP (fun j=>j<T+1) (actF vs (actsI g.prods T (S.getD n []) (Nx.getD n [])))]) rfl c2;rw[hvc] at this;exact this)) ?_)
        refine T_loop (ι:=Nat×Value) (fun (i,_)=>i≤X.length) (fun (i,vf)=>[(1,.pointer (some ⟨g1,0,none⟩)),(2,.pointer (some ⟨g2,0,none⟩)),(5,.pointer (some ⟨g5,0,none⟩)),(7,.pointer (some ⟨g7,0,none⟩)),(8,vf),(26,.int .i64 (S.length:Int)),(27,.int .i64 (n:Int)),(9,.int .i64 (n:Int)),(10,.slice (some ⟨g10,0,none⟩) (T+1) (T+1)),(37,.slice (some ⟨ga,0,none⟩) (T+1) (T+1)),(38,.int .i64 ((T+1:Nat):Int)),(11,.int .i64 (c:Int)),(12,.slice ax X.length cx),(39,.int .i64 (c:Int)),(44,.slice ax X.length cx),(45,.int .i64 (X.length:Int)),(46,.int .i64 (i:Int))])
          (fun (i,vf)=>[blkO g1 (graV (T:Int) g.nons vp).cells 33,blkO g2 #[.slice none 0 0,.slice none 0 0] 36,rowO 148 1 (.slice (some ⟨gS,0,none⟩) S.length cS) S.length vss,elsO (sliceS itS) F (vss.map fun v=>[v]) S,rowO 26 1 (.slice (some ⟨gN,0,none⟩) Nx.length cN) Nx.length vns,elsO (sliceS intS) FN (vns.map fun v=>[v]) Nx,blkO g5 #[.slice (some ⟨gS,0,none⟩) S.length cS,.slice (some ⟨gN,0,none⟩) Nx.length cN] 103,blkO g7 #[x.vA,x.vG] 36,rowO 106 1 x.vA (actTab g.prods T Nx S n).length x.vas,elsO (sliceS actS) x.FA (x.vas.map fun v=>[v]) (actTab g.prods T Nx S n),rowO 26 1 x.vG (gotoTab T Nx n).length x.vgs,elsO (sliceS intS) x.FG (x.vgs.map fun v=>[v]) (gotoTab T Nx n),rowO 111 6 vf ((base++(X.tail.take (i - 1)).map fun x=>(((n:Int),(c:Int),X.headD (0,0),x):Fgt))).length (((base++(X.tail.take (i - 1)).map fun x=>(((n:Int),(c:Int),X.headD (0,0),x):Fgt))).flatMap fgtC),rowO 109 2 (.slice (some ⟨g10,0,none⟩) (T+1) (T+1)) (T+1) ((if i=0 then actRow g.prods T Nx S n c else actRow g.prods T Nx S n (c+1)).flatMap actC),rowA 106 vals ga (T+1) vs,famP (fun j=>j<T+1) (actF vs (actsI g.prods T (S.getD n []) (Nx.getD n [])))]) (fun (i,_)=>X.length - i) (0,vf) (Nat.zero_le _) (by repeat' (first | exact True.intro | refine And.intro rfl ?_)) (by simp) ?_
        rintro⟨i,vf⟩ k1
        dsimp only at k1 ⊢
        by_cases c3:i<X.length
        · have hatX:=fun (L:List Own) (k:Nat) (gx:Nat) (hgx:ax=some ⟨gx,0,none⟩) (hL:L[k]?=some (famP (fun j=>j<T+1) (actF vs (actsI g.prods T (S.getD n []) (Nx.getD n [])))))=>hat15 L k gx hgx hL i c3
          obtain⟨gx,rfl⟩:=hax (by omega)
          have hat0:∀ (L:List Own) (k:Nat),L[k]?=some (famP (fun j=>j<T+1) (actF vs (actsI g.prods T (S.getD n []) (Nx.getD n []))))→∀ (j:Nat) (u:Value),(actC (X.headD (0,0)))[j]?=some u→At (w:Base) L ⟨gx,0+0*2+j,none⟩ u:=fun L k hL j u hu=>hat15 L k gx rfl hL 0 (by omega) j u (by
            have:X.headD (0,0)=X[0]'(by omega):=by
              cases X with
              | nil=>exact absurd c3 (Nat.not_lt_zero _)
              | cons y r=>rfl
            rwa [this] at hu)
          have hXi:i=0→X[i]=actAt g.prods T Nx S n c:=fun e=>by
            subst e
            rw[hhd]
            cases X with
            | nil=>exact absurd c3 (Nat.not_lt_zero _)
            | cons y r=>rfl
          have hXt:i≠0→X.tail.take (i+1 - 1)=X.tail.take (i - 1)++[X[i]]:=fun e=>by
            obtain⟨m,rfl⟩:∃ m,i=m+1:=⟨i - 1,by omega⟩
            cases X with
            | nil=>exact absurd c3 (Nat.not_lt_zero _)
            | cons y r=>
              have hm:m<r.length:=by simpa using c3
              show r.take (m+1)=r.take m++[r[m]]
              exact List.take_succ_eq_append_getElem hm
          have hlenF:(base++(X.tail.take (i - 1)).map fun x=>(((n:Int),(c:Int),X.headD (0,0),x):Fgt)).length≤100100000:=by
            rw[List.length_append,List.length_map,List.length_take,List.length_tail];omega
          have hbf:=build_fgt (n:Int) (c:Int) (X.headD (0,0))
          generalize hXX:X[i]=xa at *
          clear hat15 hS1 hN1
          repeat(first|refine GA ?_|refine gV (rr_idxc Und.eq TyC.ty rfl rfl c3) ?_|refine gV (rr_loadN (cs:=actC xa) TyC.ty rfl rfl (hatX _ 15 gx rfl rfl)) ?_)
          refine TL_new rfl fun g14 => ?_
          conv=>arg 8;simp only[zA,zB,zC,zD,zE,zF,zG,zH,zI,rowS,ret,id_eq]
          try refine GA ?_
          refine TL_storeB (i:=16) (cs':=(actC xa).toArray) rfl rfl rfl rfl rfl rfl ?_
          conv=>arg 8;simp only[zA,zB,zC,zD,zE,zF,zG,zH,zI,rowS,ret,id_eq]
          by_cases q1:i=0
          · subst q1
            rw[if_pos rfl]
            have hXi:=hXi rfl
            repeat(first|refine GA ?_|refine gV (rr_loadB (i:=16) TyC.ty rfl rfl rfl) ?_|refine gV (rr_idxc Und.eq TyC.ty rfl rfl c2) ?_)
            refine TL_setRow actC_len (k:=c) (a:=xa) (i:=13) TyC.ty rfl rfl (by omega) (by rw[actRow_len];exact c2) actRow_len.symm rfl rfl rfl ?_
            rw[hXi,hrow1]
            conv=>arg 8;simp only[zA,zB,zC,zD,zE,zF,zG,zH,zI,rowS,ret,id_eq]
            try refine GA ?_
            refine E_pick [0,1,2,3,4,5,6,7,8,9,10,11,12,13,14,15] (by decide) rfl ?_
            exact E_round (0+1,vf) (by show 0+1≤X.length;omega) (by show X.length - (0+1)<X.length - 0;omega) (by repeat' (first | exact True.intro | refine And.intro rfl ?_)) (by dsimp only;rw[if_neg (by omega)];rfl)
          · rw[if_neg q1]
            have hnext:base++(X.tail.take (i+1 - 1)).map (fun x=>(((n:Int),(c:Int),X.headD (0,0),x):Fgt))=(base++(X.tail.take (i - 1)).map fun x=>(((n:Int),(c:Int),X.headD (0,0),x):Fgt))++[((n:Int),(c:Int),X.headD (0,0),xa)]:=by rw[hXt q1,List.map_append,←List.append_assoc];rfl
            clear hXt
            generalize (base++(X.tail.take (i - 1)).map fun x=>(((n:Int),(c:Int),X.headD (0,0),x):Fgt))=fb at *
            try refine GA ?_
            refine T_ord ([famP (fun j=>j<T+1) (actF vs (actsI g.prods T (S.getD n []) (Nx.getD n []))),blkO g14 (actC xa).toArray 109]) (.calm 0 (.calm 1 (.calm 2 (.calm 3 (.calm 4 (.calm 5 (.calm 6 (.calm 7 (.one 8 (.one 9 (.calm 10 (.done)))))))))))) (sub_pick [15,16] (by decide) rfl) (by kernel_rfl) (by kernel_rfl) (by intro c a d v w h;cases d <;> exact h) ?_
            repeat(first|refine GW ?_|(refine GN ?_;first|refine QW (rr_idxc (j:=0) Und.eq TyC.ty rfl rfl (show 0<X.length by omega)) ?_|refine QW (rr_loadN (cs:=actC (X.headD (0,0))) TyC.ty rfl rfl (hat0 _ 0 rfl)) ?_|refine QW (rr_loadB (i:=1) TyC.ty rfl rfl rfl) ?_|refine QW (rr_build rfl (hbf _)) ?_))
            refine TW_one rfl (TL_one (cs:=(fgtC ((n:Int),(c:Int),X.headD (0,0),xa)).toArray) rfl rfl rfl rfl rfl fun g65=>TW_on (sub_pick [15,16] (by decide) rfl) ?_)
            refine TW_one rfl (TL_app1 (i:=12) (q:=17) rfl rfl rfl rfl rfl rfl (by omega) (by omega) rfl fun vf2=>TW_on (sub_pick [15,16] (by decide) rfl) ?_)
            try refine GW ?_
            try refine GA ?_
            refine E_pick [0,1,2,3,4,5,6,7,8,9,10,11,12,13,14,15] (by decide) rfl ?_
            exact E_round (i+1,vf2) (by show i+1≤X.length;omega) (by show X.length - (i+1)<X.length - i;omega) (by repeat' (first | exact True.intro | refine And.intro rfl ?_)) (by dsimp only;rw[if_neg (by omega),hnext,List.length_append,List.flatMap_append];rfl)
        · obtain rfl:i=X.length:=by omega
          have hrow2:(if X.length=0 then actRow g.prods T Nx S n c else actRow g.prods T Nx S n (c+1))=actRow g.prods T Nx S n (c+1):=by
            by_cases e:X.length=0
            · rw[if_pos e];exact (hrow0 (List.eq_nil_of_length_eq_zero e)).symm
            · rw[if_neg e]
          have htt:X.tail.take (X.length - 1)=X.tail:=List.take_of_length_le (by rw[List.length_tail];exact Nat.le_refl _)
          rw[hrow2,htt]
          try refine GA ?_
          exact E_round (c+1,vf) (by show c+1≤T+1;omega) (by show T+1 - (c+1)<T+1 - c;omega) (by repeat' (first | exact True.intro | refine And.intro rfl ?_)) (by dsimp only;rw[hfs,←List.append_assoc,hbase])
      · obtain rfl:c=T+1:=by omega
        have hTN:T≤Nx[n].length:=by omega
        have hdl:(Nx[n].drop T).length=Nx[n].length - T:=List.length_drop
        have htk:(Nx[n].drop T).take (Nx[n].length - T)=Nx[n].drop T:=List.take_of_length_le (by rw[hdl];exact Nat.le_refl _)
        have hSub:∀ (L:List Own) (i:Nat),L[i]?=some (elsO (sliceS intS) FN (vns.map fun v=>[v]) Nx)→SlL (w:Base) L (subV aq cq 1 T Nx[n].length) (Nx[n].length - T) ((Nx[n].drop T).map (Value.int .i64)):=fun L i hL w' hm'=>by
          have h1:=els_sl (W:=(w:Base)) (L:=L) (f:=fun n=>[Value.int .i64 n]) (c:=1) (by decide) hL hnN hnq2 w' hm'
          have h2:=sl_sub (i:=T) (j:=Nx[n].length) (f:=fun n=>[Value.int .i64 n]) (fun _=>rfl) h1 hTN (Nat.le_refl _)
          rw[htk,hdl,←List.map_eq_flatMap] at h2
          exact h2
        have hsubl:((Nx[n].drop T).map (Value.int .i64)).length=(Nx[n].length - T)*1:=by rw[List.length_map,hdl,Nat.mul_one]
        have hsub1:∀ u∈(Nx[n].drop T).map (Value.int .i64),u.oneCell'=true:=fun u hu=>by obtain⟨y,_,rfl⟩:=List.mem_map.1 hu;rfl
        have hgo:∀ {v:Value} {w':World},(rowO 3 1 v (0+(Nx[n].length - T)) ([]++(Nx[n].drop T).map (Value.int .i64))).holds w'→(sliceS intS).is (fun k=>v.ownBlock=some k) w' [v] ((Nx.getD n []).drop T):=fun {v w'} h=>by
          rw[hNn']
          rw[Nat.zero_add,List.nil_append,←hdl] at h
          exact ints_of_row (fun y hy=>hoks y (List.mem_of_mem_drop hy)) h
        repeat(first|refine GA ?_|refine gV (rr_load1 (v:=x.vA) TyC.ty rfl (at_blk (i:=7) rfl rfl)) ?_)
        have hAl:=actTab_len (l:=g.prods) (T:=T) (Nx:=Nx) (S:=S) n
        have hGl:=gotoTab_len (T:=T) (Nx:=Nx) n
        refine TL_push1 (i:=8) rfl rfl rfl rfl rfl rfl (fun z h=>by cases h;rfl) (by omega) (by omega) rfl fun z vA2 => ?_
        conv=>arg 8;simp only[zA,zB,zC,zD,zE,zF,zG,zH,zI,rowS,ret,id_eq]
        refine TL_merge (elsO (sliceS actS) (fun k=>x.FA k∨(Value.slice (some ⟨g10,0,none⟩) (T+1) (T+1)).ownBlock=some k) ((x.vas.map fun v=>[v])++[[.slice (some ⟨g10,0,none⟩) (T+1) (T+1)]]) (actTab g.prods T Nx S n++[actRow g.prods T Nx S n (T+1)])) 13 9 [0,1,2,3,4,5,6,7,8,10,11,12] (by decide) rfl rfl rfl (fun k hk=>hk.elim (fun h=>by cases h) fun h=>h.elim (fun h=> .inr (.inr h)) fun h=> .inl (.inl h)) (fun w hr he=>els_snoc he (act_of_row (by rw[actRow_len];exact hr)) (row_foot hr)) ?_
        conv=>arg 8;simp only[zA,zB,zC,zD,zE,zF,zG,zH,zI,rowS,ret,id_eq]
        try refine GA ?_
        refine TL_slv (i:=8) rfl fun hv1 hv2=>TL_store1 (i:=7) rfl rfl rfl hv1 hv2 rfl ?_
        conv=>arg 8;simp only[zA,zB,zC,zD,zE,zF,zG,zH,zI,rowS,ret,id_eq]
        try refine GA ?_
        refine T_nil 3 1 ?_
        conv=>arg 7;simp only[zA,zB,zC,zD,zE,zF,zG,zH,zI,rowS,ret,id_eq]
        refine T_ord ([blkO g1 (graV (T:Int) g.nons vp).cells 33,rowO 26 1 (.slice (some ⟨gN,0,none⟩) Nx.length cN) Nx.length vns,elsO (sliceS intS) FN (vns.map fun v=>[v]) Nx,blkO g5 #[.slice (some ⟨gS,0,none⟩) S.length cS,.slice (some ⟨gN,0,none⟩) Nx.length cN] 103]) (.calm 0 (.calm 2 (.calm 3 (.calm 4 (.calm 5 (.calm 6 (.calm 7 (.calm 8 (.calm 9 (.two 1 (.one 10 (.one 11 (.one 12 (.calm 13 (.one 14 (.done)))))) 10 (.two 1 (.one 11 (.one 12 (.calm 13 (.one 14 (.done))))) 11 (.one 1 (.one 12 (.calm 13 (.one 14 (.done)))))))))))))))) (sub_pick [0,4,5,6] (by decide) rfl) (by kernel_rfl) (by kernel_rfl) (by intro c a d v w h;cases d <;> exact h) ?_
        repeat(first|(refine GN ?_;first|refine QW QP ?_|refine QW (rr_load1 (v:= .slice (some ⟨gN,0,none⟩) Nx.length cN) TyC.ty rfl (at_blk (i:=3) rfl rfl)) ?_|refine QW (rr_idx1 Und.eq TyC.ty rfl rfl hnN) ?_|refine QW (rr_load1 (v:= .slice aq Nx[n].length cq) TyC.ty rfl (at_row (i:=1) rfl hnq)) ?_|refine QW (rr_load1 (v:= .int .i64 (T:Int)) TyC.ty rfl (at_blk (i:=0) rfl rfl)) ?_|refine QW (rr_slfrom (i:=T) Und.eq TyC.ty rfl rfl hTN hcq) ?_|refine GX ?_)|refine GW ?_)
        refine TW_two rfl rfl ?wayK1 ?wayK2
        case' wayK1=>
          refine TL_val (rr_load1 (v:=x.vG) TyC.ty rfl (at_blk (i:=7) rfl rfl)) rfl rfl rfl (TW_on (sub_pick [0,4,5,6] (by decide) rfl) ?_)
          refine TW_one rfl (TL_appSl (i:=13) (k:=Nx[n].length - T) rfl (hSub _ 5 rfl) rfl rfl hsubl hsub1 (by omega) (by omega) rfl fun vI=>TW_on (sub_pick [0,4,5,6] (by decide) rfl) ?_)
          refine TW_one rfl (TL_slv (i:=13) rfl fun hw1 hw2=>TL_one (cs:=#[vI]) rfl hw1 rfl rfl rfl fun g86=>TW_on (sub_pick [0,4,5,6] (by decide) rfl) ?_)
        case' wayK2=>
          refine TL_appSl (i:=13) (k:=Nx[n].length - T) rfl (hSub _ 5 rfl) rfl rfl hsubl hsub1 (by omega) (by omega) rfl fun vI=>TW_on (sub_pick [0,4,5,6] (by decide) rfl) ?_
          refine TW_two rfl rfl ?wayK3 ?wayK4
        case' wayK3=>
          refine TL_val (rr_load1 (v:=x.vG) TyC.ty rfl (at_blk (i:=7) rfl rfl)) rfl rfl rfl (TW_on (sub_pick [0,4,5,6] (by decide) rfl) ?_)
          refine TW_one rfl (TL_slv (i:=13) rfl fun hw1 hw2=>TL_one (cs:=#[vI]) rfl hw1 rfl rfl rfl fun g86=>TW_on (sub_pick [0,4,5,6] (by decide) rfl) ?_)
        case' wayK4=>
          refine TL_slv (i:=13) rfl fun hw1 hw2=>TL_one (cs:=#[vI]) rfl hw1 rfl rfl rfl fun g86=>TW_on (sub_pick [0,4,5,6] (by decide) rfl) ?_
          refine TW_one rfl (TL_val (rr_load1 (v:=x.vG) TyC.ty rfl (at_blk (i:=7) rfl rfl)) rfl rfl rfl (TW_on (sub_pick [0,4,5,6] (by decide) rfl) ?_))
        all_goals
          refine TW_one rfl (TL_app11 (i:=9) (q:=14) rfl rfl rfl rfl rfl hw2 (by omega) (by omega) rfl fun vG2=>TW_on (sub_pick [0,4,5,6] (by decide) rfl) ?_)
          try refine GW ?_
          refine TW_one rfl (TL_slv (i:=9) rfl fun hv1 hv2=>TL_store1 (i:=7) rfl rfl rfl hv1 hv2 rfl (TW_on (sub_pick [0,4,5,6] (by decide) rfl) ?_))
          try refine GW ?_
          refine E_merge (elsO (sliceS intS) (fun k=>x.FG k∨vI.ownBlock=some k) ((x.vgs.map fun v=>[v])++[[vI]]) (gotoTab T Nx n++[(Nx.getD n []).drop T])) 13 10 [0,1,2,3,4,5,6,7,8,9,11,12] (by decide) rfl rfl rfl (fun k hk=>hk.elim (fun h=>by cases h) fun h=>h.elim (fun h=> .inr (.inr h)) fun h=> .inl (.inl h)) (fun w hr he=>els_snoc he (hgo hr) (row_foot hr)) ?_
          try refine GA ?_
          refine E_pick [0,1,2,3,4,5,6,7,8,11,9,12,10] (by decide) rfl ?_
          exact E_round (n+1,⟨vA2,x.vas++[.slice (some ⟨g10,0,none⟩) (T+1) (T+1)],fun k=>x.FA k∨(Value.slice (some ⟨g10,0,none⟩) (T+1) (T+1)).ownBlock=some k,vG2,x.vgs++[vI],fun k=>x.FG k∨vI.ownBlock=some k⟩,vf) (by show n+1≤S.length;omega) (by show S.length - (n+1)<S.length - n;omega) (by repeat' (first | exact True.intro | refine And.intro rfl ?_)) (by dsimp only;rw[show (actTab g.prods T Nx S (n+1)).length=(actTab g.prods T Nx S n).length+1 by rw[actTab_len,actTab_len],show (gotoTab T Nx (n+1)).length=(gotoTab T Nx n).length+1 by rw[gotoTab_len,gotoTab_len],actTab_succ,gotoTab_succ,List.map_append,List.map_append];rfl)
    · obtain rfl:n=S.length:=by omega
      refine T_know (i:=8) rfl (fun w h=>row_slm w h) fun hrow => ?_
      obtain⟨aA,cA,hvA,-⟩:=hrow
      refine T_know (i:=10) rfl (fun w h=>row_slm w h) fun hrow => ?_
      obtain⟨aG,cG,hvG,-⟩:=hrow
      obtain⟨vA,vas,FA,vG,vgs,FG⟩:=x
      dsimp only at hvA hvG ⊢
      subst hvA hvG
      repeat(first|refine GA ?_|refine gV (rr_loadB (i:=7) TyC.ty rfl rfl rfl) ?_)
      refine TL_storeB (i:=1) rfl rfl rfl rfl rfl rfl ?_
      conv=>arg 8;simp only[zA,zB,zC,zD,zE,zF,zG,zH,zI,rowS,ret,id_eq]
      try refine GA ?_
      exact E_retc3 (i:=1) rfl rfl rfl rfl rfl rfl fun w hm=>hm.meets (S:=⟨fun (_:TabX×Value)=>True,fun x=> .tuple #[.agg #[x.1.vA,x.1.vG],x.2,.int .i64 0],fun x=>[rowO 106 1 x.1.vA (actTab g.prods T Nx S S.length).length x.1.vas,elsO (sliceS actS) x.1.FA (x.1.vas.map fun v=>[v]) (actTab g.prods T Nx S S.length),rowO 26 1 x.1.vG (gotoTab T Nx S.length).length x.1.vgs,elsO (sliceS intS) x.1.FG (x.1.vgs.map fun v=>[v]) (gotoTab T Nx S.length),rowO 111 6 x.2 (fightsA g.prods T Nx S S.length).length ((fightsA g.prods T Nx S S.length).flatMap fgtC)]⟩) (⟨.slice aA _ cA,vas,FA,.slice aG _ cG,vgs,FG⟩,vf) trivial [8,9,10,11,12] (by decide) rfl
  · rw[if_pos c0] at hO
    rw[hO]
    repeat(first|refine GC ?_|refine gV (rr_neq (b:=true) rfl rfl (decide_eq_true c0)) ?_|refine gV (rr_build rfl hb0) ?_|refine GB ?_)
    refine TL_storeB (i:=1) rfl rfl rfl rfl rfl rfl ?_
    conv=>arg 8;simp only[zA,zB,zC,zD,zE,zF,zG,zH,zI,rowS,ret,id_eq]
    try refine GA ?_
    refine E_nilrow 106 1 (E_extra (elsO (sliceS actS) (fun _=>False) [] []) (fun k hk=>hk.elim (fun h=>by cases h) id) (fun w=>els_nil) (E_nilrow 26 1 (E_extra (elsO (sliceS intS) (fun _=>False) [] []) (fun k hk=>hk.elim (fun h=>by cases h) id) (fun w=>els_nil) (E_nilrow 111 6 ?_))))
    exact E_retc3 (i:=1) rfl rfl rfl rfl rfl rfl fun w hm=>hm.meets (S:=⟨fun (_:TabX×Value)=>True,fun x=> .tuple #[.agg #[x.1.vA,x.1.vG],x.2,.int .i64 e],fun x=>[rowO 106 1 x.1.vA 0 x.1.vas,elsO (sliceS actS) x.1.FA (x.1.vas.map fun v=>[v]) [],rowO 26 1 x.1.vG 0 x.1.vgs,elsO (sliceS intS) x.1.FG (x.1.vgs.map fun v=>[v]) [],rowO 111 6 x.2 0 []]⟩) (⟨.slice none 0 0,[],fun _=>False,.slice none 0 0,[],fun _=>False⟩,.slice none 0 0) trivial [7,8,9,10,11] (by decide) rfl
end Go.Proofs.Ytldiodhdefnlaaa.eng

/- SpecU -/
namespace Go.Proofs.Ytldiodhdefnlaaa.eng
open Go.RowKit kit mix classL rexL specL gramL smallL llL
def reachS (g:Gram):List Bool:=(ofS g.nons.toNat g.prods).R
def makesS (g:Gram):List Bool:=(ofS g.nons.toNat g.prods).M
def clashS (g:Gram):List Cl:=rowO' g.prods (mayG g.nons.toNat g.prods) g.terms.toNat g.nons.toNat
def mkE (s:Sp) (e:Int):Int×Int:=
  if checkS s≠0 then (checkS s,0) else if s.words.length=0∨s.rules.length=0 then (1,0) else if e≠0 then (e,0)
  else if (reachS (gramN s)).any (· == false)=true∨(makesS (gramN s)).any (· == false)=true then (4,0)
  else if (clashS (gramN s)).length=0 then (0,1)
  else if (outT (gramN s)).2.2.2≠0 then ((outT (gramN s)).2.2.2,0) else if 0<(outT (gramN s)).2.2.1.length then (12,0) else (0,2)
structure MdX where
  vo:Value
  vp:Value
  F:Nat→Prop
  gP:Nat
  vsP:Nat→Value
  vT:Value
  gR:Nat
  vsR:Nat→Value
  tx:TabX
def mdNil:MdX:=⟨.slice none 0 0,.slice none 0 0,fun _=>False,0,fun _=> .slice none 0 0,.slice none 0 0,0,fun _=> .slice none 0 0,⟨.slice none 0 0,[],fun _=>False,.slice none 0 0,[],fun _=>False⟩⟩
def MdX.pk (x:MdX) (R:List Row):List Value:=pkC (ofP R 256) (.slice (some ⟨x.gP,0,none⟩) R.length R.length) x.vT
structure MdOk (x:MdX):Prop where
  o:x.vo.oneCell'=true
  p:x.vp.oneCell'=true
  t:x.vT.oneCell'=true
def MdX.lex (x:MdX) (s:Sp) (R:List Row) (T:List Int):List Own:=
  [rowO 3 1 x.vo s.words.length ((wsN s.words).1.map (Value.int .i64)),prodsO x.F x.vp (gramN s).prods,rowA 26 valV x.gP R.length x.vsP,nxO R.length (pkD R 256) x.vsP,rowO 3 1 x.vT T.length (T.flatMap kit.intC)]
def mkBad (e:Int):Spec MdX:=⟨fun _=>True,fun _=> .tuple #[.agg md0.toArray,.int .i64 e],fun _=>[]⟩
def MdX.cLL (x:MdX) (g:Gram) (R:List Row):Array Value:=(mdC x.vo (x.pk R) (mdT g.terms g.nons x.vp 1 (.slice (some ⟨x.gR,0,none⟩) g.nons.toNat g.nons.toNat) (.slice none 0 0) (.slice none 0 0))).toArray
def MdX.cLR (x:MdX) (g:Gram) (R:List Row):Array Value:=(mdC x.vo (x.pk R) (mdT g.terms g.nons x.vp 2 (.slice none 0 0) x.tx.vA x.tx.vG)).toArray
def MdX.rows (x:MdX) (g:Gram):List Own:=[rowA 26 vals x.gR g.nons.toNat x.vsR,famP (fun j=>j<g.nons.toNat) (rowsF g.prods (mayG g.nons.toNat g.prods) g.terms.toNat x.vsR g.nons.toNat 0)]
def mkLL (s:Sp) (R:List Row) (T:List Int):Spec MdX:=
  ⟨MdOk,fun x=> .tuple #[.agg (x.cLL (gramN s) R),.int .i64 0],fun x=>x.lex s R T++x.rows (gramN s)⟩
def mkLR (s:Sp) (R:List Row) (T:List Int):Spec MdX:=
  ⟨fun x=>MdOk x∧x.tx.vA.oneCell'=true∧x.tx.vG.oneCell'=true,fun x=> .tuple #[.agg (x.cLR (gramN s) R),.int .i64 0],fun x=>x.lex s R T++tabL x.tx (outT (gramN s)).1 (outT (gramN s)).2.1⟩
def mkSpec (s:Sp) (r:Int×List Row×List Int):Spec MdX:=
  if (mkE s r.1).1≠0 then mkBad (mkE s r.1).1 else if (mkE s r.1).2=1 then mkLL s r.2.1 r.2.2 else mkLR s r.2.1 r.2.2
theorem lxR_good {s:Sp} {r:Int×List Row×List Int} (h:LxR s r) (h0:r.1=0):checkG (gramN s)=0∧chk r.2.1 r.2.2=0:=by
  have hn:numE s=0→checkG (gramN s)=0:=fun h=>by
    unfold numE at h
    generalize checkG (gramN s)=e at *
    by_cases c:e≠0
    · rw[if_pos c] at h;cases h
    · exact Decidable.of_not_not c
  rcases h with ⟨k,hk,-,rfl⟩ | ⟨es,m,-,-,h3,h4,h5,-,⟨h,rfl⟩ | ⟨-,h,rfl⟩ | ⟨h,-,hc,rfl⟩⟩
  · exact absurd h0 hk
  · exact absurd h0 h
  · exact absurd h0 h
  · refine⟨hn h,?_⟩
    have:=min_chk hc
    dsimp only
    exact this
set_option maxRecDepth 100000 in
set_option maxHeartbeats 16000000 in
theorem spMake_calls (v:Value) (s:Sp) (r:Int×List Row×List Int) (hx:LxR s r) (w:World) (hv:SpR (Low w) w v s) (hbd:∀ r∈s.rules,r.2.length≤8796093021952) :
    Calls Try.prog 4 #[v] w (Meets (mkSpec s r) w):=by
  have hck:=fun w' (hg:Gr w w')=>spCheck_calls v s w' (hv.gr hg)
  have hv0:=hv
  obtain⟨vw,vr,rfl,hw,hr⟩:=hv
  obtain⟨bw,cw,rfl,-⟩:=hw
  obtain⟨br,cr,rfl,-⟩:=hr
  have hM:mkE s r.1=if checkS s≠0 then (checkS s,0) else if s.words.length=0∨s.rules.length=0 then (1,0) else if r.1≠0 then (r.1,0)
    else if (reachS (gramN s)).any (· == false)=true∨(makesS (gramN s)).any (· == false)=true then (4,0)
    else if (clashS (gramN s)).length=0 then (0,1)
    else if (outT (gramN s)).2.2.2≠0 then ((outT (gramN s)).2.2.2,0) else if 0<(outT (gramN s)).2.2.1.length then (12,0) else (0,2):=rfl
  have hbad:∀ e m,mkE s r.1=(e,m)→e≠0→mkSpec s r=mkBad e:=fun e m h he=>by unfold mkSpec;rw[h,if_pos he]
  have hLL:mkE s r.1=(0,1)→mkSpec s r=mkLL s r.2.1 r.2.2:=fun h=>by unfold mkSpec;rw[h];rfl
  have hLR:mkE s r.1=(0,2)→mkSpec s r=mkLR s r.2.1 r.2.2:=fun h=>by unfold mkSpec;rw[h];rfl
  have hb0:=build_md0
  have hone:md0.toArray.toList.all Value.oneCell'=true:=md_one rfl pk0_one rfl
  have hsz:md0.toArray.size=266:=md_size pk0_len rfl
  refine enter (args:=[.agg #[.slice bw s.words.length cw,.slice br s.rules.length cr]]) (n:=86) Try.func4 rfl rfl rfl ?_
  refine T_seq (T_region (TL_box rfl rfl rfl fun g1=>TL_new rfl fun g2 => ?_))
  rw[zero_md]
  conv=>arg 8;simp only[zA,zB,zC,zD,zE,zF,zG,zH,zI,rowS,ret,id_eq]
  repeat(first|refine GA ?_|refine gV (rr_loadB (i:=0) TyC.ty rfl rfl rfl) ?_)
  refine TL_call (he1 EntersC.en rfl rfl) (fun w hm=>hck _ hm.below) rfl rfl rfl ?_
  intro _ _
  conv=>arg 8;simp only[zA,zB,zC,zD,zE,zF,zG,zH,zI,rowS,ret,id_eq]
  by_cases c0:checkS s≠0
  · rw[if_pos c0] at hM
    rw[hbad _ _ hM c0]
    repeat(first|refine GC ?_|refine gV (rr_neq (b:=true) rfl rfl (decide_eq_true c0)) ?_|refine gV (rr_build rfl hb0) ?_|refine GB ?_)
    refine TL_storeB (i:=1) (cs':=md0.toArray) rfl rfl rfl hsz hone hsz ?_
    conv=>arg 8;simp only[zA,zB,zC,zD,zE,zF,zG,zH,zI,rowS,ret,id_eq]
    try refine GA ?_
    exact E_retc2 (i:=1) rfl rfl rfl hsz rfl fun w hm=>hm.meets (S:=mkBad (checkS s)) mdNil trivial [] (by decide) rfl
  rw[if_neg c0] at hM
  have hck0:checkS s=0:=Decidable.of_not_not c0
  have hln:s.words.length≤60∧s.rules.length≤60:=by
    unfold checkS at hck0
    by_cases c:60<s.words.length∨60<s.words.length+s.rules.length
    · rw[if_pos c] at hck0;cases hck0
    · omega
  rw[hck0]
  clear hck hck0
  by_cases c1:s.words.length=0∨s.rules.length=0
  · rw[if_pos c1] at hM
    rw[hbad _ _ hM (by decide)]
    by_cases c2:s.words.length=0
    · repeat(first|refine GC ?_|refine gV (rr_neq (b:=false) rfl rfl (decide_eq_false (by simp))) ?_|refine gV (rr_load1 (v:= .slice bw s.words.length cw) TyC.ty rfl (at_blk (i:=0) rfl rfl)) ?_|refine gV (rr_eql (b:=true) rfl rfl (decide_eq_true (by omega))) ?_|refine gV (rr_build rfl hb0) ?_|refine GB ?_)
      refine TL_storeB (i:=1) (cs':=md0.toArray) rfl rfl rfl hsz hone hsz ?_
      conv=>arg 8;simp only[zA,zB,zC,zD,zE,zF,zG,zH,zI,rowS,ret,id_eq]
      try refine GA ?_
      exact E_retc2 (i:=1) rfl rfl rfl hsz rfl fun w hm=>hm.meets (S:=mkBad 1) mdNil trivial [] (by decide) rfl
    · repeat(first|refine GC ?_|refine gV (rr_neq (b:=false) rfl rfl (decide_eq_false (by simp))) ?_|refine gV (rr_load1 (v:= .slice bw s.words.length cw) TyC.ty rfl (at_blk (i:=0) rfl rfl)) ?_|refine gV (rr_load1 (v:= .slice br s.rules.length cr) TyC.ty rfl (at_blk (i:=0) rfl rfl)) ?_|refine gV (rr_eql (b:=false) rfl rfl (decide_eq_false (by omega))) ?_|refine gV (rr_eql (b:=true) rfl rfl (decide_eq_true (by omega))) ?_|refine gV (rr_build rfl hb0) ?_|refine GB ?_)
      refine TL_storeB (i:=1) (cs':=md0.toArray) rfl rfl rfl hsz hone hsz ?_
      conv=>arg 8;simp only[zA,zB,zC,zD,zE,zF,zG,zH,zI,rowS,ret,id_eq]
      try refine GA ?_
      exact E_retc2 (i:=1) rfl rfl rfl hsz rfl fun w hm=>hm.meets (S:=mkBad 1) mdNil trivial [] (by decide) rfl
  rw[if_neg c1] at hM
  have hlex:=fun gp w' B ho hm=>lexer_calls (.slice bw s.words.length cw) (.slice br s.rules.length cr) s r hx gp w hv0 hln.1 hln.2 hbd w' B ho hm
  repeat(first|refine GC ?_|refine gV (rr_neq (b:=false) rfl rfl (decide_eq_false (by simp))) ?_|refine gV (rr_load1 (v:= .slice bw s.words.length cw) TyC.ty rfl (at_blk (i:=0) rfl rfl)) ?_|refine gV (rr_load1 (v:= .slice br s.rules.length cr) TyC.ty rfl (at_blk (i:=0) rfl rfl)) ?_|refine gV (rr_eql (b:=false) rfl rfl (decide_eq_false (by omega))) ?_|refine GB ?_)
  refine TL_new rfl fun g5 => ?_
  rw[zero_md]
  conv=>arg 8;simp only[zA,zB,zC,zD,zE,zF,zG,zH,zI,rowS,ret,id_eq]
  repeat(first|refine GA ?_|refine gV (rr_loadB (i:=0) TyC.ty rfl rfl rfl) ?_)
  by_cases c2:r.1≠0
  · rw[if_pos c2] at hM
    rw[hbad _ _ hM c2]
    have hx1:∀ gp,lexS1 gp s r=⟨fun _=>True,fun _=> .int .i64 r.1,fun _=>[]⟩:=fun gp=>if_neg c2
    simp only[hx1] at hlex
    refine TL_callB [2] [0,1] (by decide) rfl rfl (he2 EntersC.en rfl rfl rfl) (fun w' hm' hb=>hlex g5 w' _ (Old.on (Old.self w) hm' (fun o ho=>by simp at ho;subst ho;simp)) hb) rfl rfl rfl ?_
    intro _ _
    conv=>arg 8;simp only[zA,zB,zC,zD,zE,zF,zG,zH,zI,rowS,ret,id_eq]
    repeat(first|refine GC ?_|refine gV (rr_neq (b:=true) rfl rfl (decide_eq_true c2)) ?_|refine gV (rr_build rfl hb0) ?_|refine GB ?_)
    refine TL_storeB (i:=1) (cs':=md0.toArray) rfl rfl rfl hsz hone hsz ?_
    conv=>arg 8;simp only[zA,zB,zC,zD,zE,zF,zG,zH,zI,rowS,ret,id_eq]
    try refine GA ?_
    exact E_retc2 (i:=1) rfl rfl rfl hsz rfl fun w hm=>hm.meets (S:=mkBad r.1) mdNil trivial [] (by decide) rfl
  rw[if_neg c2] at hM
  have hr0:r.1=0:=Decidable.of_not_not c2
  obtain⟨hG,hchk⟩:=lxR_good hx hr0
  have hx1:∀ gp,lexS1 gp s r=lexSp gp s r.2.1 r.2.2:=fun gp=>if_pos hr0
  simp only[hx1] at hlex
  clear hx hx1 c2
  obtain⟨e,R,T⟩:=r
  dsimp only at *
  subst hr0
  generalize mkE s 0=M at *
  generalize hgr:gramN s=g at *
  refine TL_callB [2] [0,1] (by decide) rfl rfl (he2 EntersC.en rfl rfl rfl) (fun w' hm' hb=>hlex g5 w' _ (Old.on (Old.self w) hm' (fun o ho=>by simp at ho;subst ho;simp)) hb) rfl rfl rfl ?_
  clear hlex
  rintro⟨vo,vp,F,gP,vsP,vT⟩ ⟨k1,k2,k3⟩
  dsimp only at k1 k2 k3
  unfold lexSp
  rw[hgr]
  conv=>arg 8;simp only[zA,zB,zC,zD,zE,zF,zG,zH,zI,rowS,ret,id_eq]
  have hpk:(pkC (ofP R 256) (.slice (some ⟨gP,0,none⟩) R.length R.length) vT).length=258:=pkC_len _ _ _
  have hpo:(pkC (ofP R 256) (.slice (some ⟨gP,0,none⟩) R.length R.length) vT).all Value.oneCell'=true:=by
    have:=pk_one (ofP R 256) (vn:= .slice (some ⟨gP,0,none⟩) R.length R.length) (vt:=vT) rfl k3
    simpa using this
  have hpx:∀ x:MdX,x.gP=gP→x.vT=vT→pkC (ofP R 256) (.slice (some ⟨gP,0,none⟩) R.length R.length) vT=x.pk R:=fun x h1 h2=>by unfold MdX.pk;rw[h1,h2]
  generalize hPK:pkC (ofP R 256) (.slice (some ⟨gP,0,none⟩) R.length R.length) vT=PK at *
  obtain⟨a1,a2,a3,a4,a5,a6⟩:=checkG_ok hG
  have hgra:∀ w',(prodsO F vp g.prods).holds w'→GraR (fun k=>k<w'.heap.size) w' (graV g.terms g.nons vp) g:=fun w' h=>gprods_gra (gok ⟨a1,by omega⟩) (gok ⟨by omega,by omega⟩) h
  repeat(first|refine GC ?_|refine gV (rr_neq (b:=false) rfl rfl (decide_eq_false (by simp))) ?_|refine gV (rr_loadN (cs:=[.int .i64 g.terms,.int .i64 g.nons,vp]) TyC.ty rfl rfl (fun j v h=>at_blk (i:=2) rfl (md_gram hpk h))) ?_|refine GB ?_)
  have hN:g.nons=(g.nons.toNat:Int):=by omega
  have hT:g.terms=(g.terms.toNat:Int):=by omega
  obtain⟨⟨-,hRl,hMl⟩,-⟩:=derL.sound_of hG hN
  have hof:=fun w' h=>of_calls (graV g.terms g.nons vp) g w' h hG g.nons.toNat hN
  have hll:=fun w' h=>llMake_calls (graV g.terms g.nons vp) g w' h hG g.terms.toNat g.nons.toNat hT hN
  have hlr:=fun w' h=>lrMake_calls (graV g.terms g.nons vp) g w' h
  unfold makeTS tabL at hlr
  refine TL_call (he1 EntersC.en rfl rfl) (fun w' hm=>(hof w' (hgra w' (hm.get (i:=4) rfl))).mono fun e w2 h=>meets_of h) rfl rfl rfl ?_
  intro x5 _
  conv=>arg 8;simp only[zA,zB,zC,zD,zE,zF,zG,zH,zI,rowS,ret,id_eq,Rows5.val]
  try refine GA ?_
  refine TL_new rfl fun g7 => ?_
  refine TL_storeB (i:=13) rfl rfl rfl rfl rfl rfl ?_
  conv=>arg 8;simp only[zA,zB,zC,zD,zE,zF,zG,zH,zI,rowS,ret,id_eq]
  repeat(first|refine GA ?_|refine gV (rr_load1 TyC.ty rfl (at_blk (i:=13) rfl rfl)) ?_)
  have hreach:reachS g=(ofS g.nons.toNat g.prods).R:=rfl
  have hmakes:makesS g=(ofS g.nons.toNat g.prods).M:=rfl
  generalize (ofS g.nons.toNat g.prods).R=Rc at *
  generalize (ofS g.nons.toNat g.prods).M=Mk at *
  rw[hreach,hmakes] at hM
  clear hreach hmakes hof
  refine TL_call (he2 EntersC.en rfl rfl rfl) (fun w' hm=>containsBool_calls _ Rc false w' (by have:=Sl.of_own (hm.get (i:=11) rfl);rw[hRl];exact this)) rfl rfl rfl ?_
  intro _ _
  conv=>arg 8;simp only[zA,zB,zC,zD,zE,zF,zG,zH,zI,rowS,ret,id_eq]
  cases hany:Rc.any (· == false) with
  | true=>
    rw[if_pos (.inl hany)] at hM
    rw[hbad _ _ hM (by decide)]
    repeat(first|refine GA ?_|refine gV (rr_build rfl hb0) ?_)
    refine TL_storeB (i:=1) (cs':=md0.toArray) rfl rfl rfl hsz hone hsz ?_
    conv=>arg 8;simp only[zA,zB,zC,zD,zE,zF,zG,zH,zI,rowS,ret,id_eq]
    try refine GA ?_
    exact E_retc2 (i:=1) rfl rfl rfl hsz rfl fun w hm=>hm.meets (S:=mkBad 4) mdNil trivial [] (by decide) rfl
  | false=>
  repeat(first|refine GA ?_|refine gV (rr_load1 TyC.ty rfl (at_blk (i:=13) rfl rfl)) ?_)
  refine TL_gcall (he2 EntersC.en rfl rfl rfl) (fun w' hm=>containsBool_calls _ Mk false w' (by have:=Sl.of_own (hm.get (i:=12) rfl);rw[hMl];exact this)) rfl rfl rfl rfl rfl ?_
  intro _ _
  conv=>arg 8;simp only[zA,zB,zC,zD,zE,zF,zG,zH,zI,rowS,ret,id_eq]
  cases hany2:Mk.any (· == false) with
  | true=>
    rw[if_pos (.inr hany2)] at hM
    rw[hbad _ _ hM (by decide)]
    repeat(first|refine GA ?_|refine gV (rr_build rfl hb0) ?_)
    refine TL_storeB (i:=1) (cs':=md0.toArray) rfl rfl rfl hsz hone hsz ?_
    conv=>arg 8;simp only[zA,zB,zC,zD,zE,zF,zG,zH,zI,rowS,ret,id_eq]
    try refine GA ?_
    exact E_retc2 (i:=1) rfl rfl rfl hsz rfl fun w hm=>hm.meets (S:=mkBad 4) mdNil trivial [] (by decide) rfl
  | false=>
  rw[if_neg (by rw[hany,hany2];decide)] at hM
  have hcl:clashS g=rowO' g.prods (mayG g.nons.toNat g.prods) g.terms.toNat g.nons.toNat:=rfl
  repeat(first|refine GA ?_|refine gV (rr_loadN (cs:=[.int .i64 g.terms,.int .i64 g.nons,vp]) TyC.ty rfl rfl (fun j v h=>at_blk (i:=2) rfl (md_gram hpk h))) ?_)
  refine TL_call (he1 EntersC.en rfl rfl) (fun w' hm=>hll w' (hgra w' (hm.get (i:=4) rfl))) rfl rfl rfl ?_
  rintro⟨gR,vsR,vcl⟩ _
  unfold makeS
  rw[←hcl]
  conv=>arg 8;simp only[zA,zB,zC,zD,zE,zF,zG,zH,zI,rowS,ret,id_eq]
  by_cases c3:(clashS g).length=0
  · rw[if_pos c3] at hM
    rw[hLL hM]
    repeat(first|refine GC ?_|refine gV (rr_rowlen (i:=16) Und.eq rfl rfl) ?_|refine gV (rr_eql (b:=true) rfl rfl (decide_eq_true (by omega))) ?_|refine GB ?_)
    refine TL_storeMd 3 (i:=2) rfl rfl rfl rfl rfl rfl hpk rfl ?_
    conv=>arg 8;simp only[zA,zB,zC,zD,zE,zF,zG,zH,zI,rowS,ret,id_eq]
    try refine GA ?_
    refine TL_storeMd 4 (i:=2) rfl rfl rfl rfl rfl rfl hpk rfl ?_
    conv=>arg 8;simp only[zA,zB,zC,zD,zE,zF,zG,zH,zI,rowS,ret,id_eq]
    repeat(first|refine GA ?_|refine gV (rr_loadB (i:=2) TyC.ty rfl rfl (md_size hpk rfl)) ?_)
    refine TL_storeB (i:=1) (cs':=(mdC vo PK (mdT g.terms g.nons vp 1 (.slice (some ⟨gR,0,none⟩) g.nons.toNat g.nons.toNat) (.slice none 0 0) (.slice none 0 0))).toArray) rfl rfl rfl (md_size hpk rfl) (md_one k1 hpo (by simp only[mdT,List.all_cons,List.all_nil,k2];rfl)) hsz ?_
    conv=>arg 8;simp only[zA,zB,zC,zD,zE,zF,zG,zH,zI,rowS,ret,id_eq]
    try refine GA ?_
    subst hPK
    subst hgr
    exact E_retc2 (i:=1) rfl rfl rfl (md_size hpk rfl) rfl fun w hm=>hm.meets (S:=mkLL s R T) ⟨vo,vp,F,gP,vsP,vT,gR,vsR,⟨.slice none 0 0,[],fun _=>False,.slice none 0 0,[],fun _=>False⟩⟩ ⟨k1,k2,k3⟩ [3,4,5,6,7,14,15] (by decide) rfl
  rw[if_neg c3] at hM
  repeat(first|refine GC ?_|refine gV (rr_rowlen (i:=16) Und.eq rfl rfl) ?_|refine gV (rr_eql (b:=false) rfl rfl (decide_eq_false (by omega))) ?_|refine gV (rr_loadN (cs:=[.int .i64 g.terms,.int .i64 g.nons,vp]) TyC.ty rfl rfl (fun j v h=>at_blk (i:=2) rfl (md_gram hpk h))) ?_|refine GB ?_)
  refine TL_call (he1 EntersC.en rfl rfl) (fun w' hm=>hlr w' (hgra w' (hm.get (i:=4) rfl))) rfl rfl rfl ?_
  rintro⟨⟨vA,vas,FA,vG,vgs,FG⟩,vfi⟩ _
  have hO:outT g=outT g:=rfl
  conv=>arg 8;simp only[zA,zB,zC,zD,zE,zF,zG,zH,zI,rowS,ret,id_eq]
  generalize hOT:outT g=O at *
  obtain⟨A,G,fi,e⟩:=O
  dsimp only at hM ⊢
  refine TL_slv (i:=17) rfl fun _ b1=>TL_slv (i:=19) rfl fun _ b2 => ?_
  try refine GA ?_
  refine TL_new rfl fun g12 => ?_
  conv=>arg 8;simp only[zA,zB,zC,zD,zE,zF,zG,zH,zI,rowS,ret,id_eq]
  refine TL_storeB (i:=22) (cs':=#[vA,vG]) rfl rfl rfl rfl (by simp only[List.all_cons,List.all_nil,b1,b2];rfl) rfl ?_
  conv=>arg 8;simp only[zA,zB,zC,zD,zE,zF,zG,zH,zI,rowS,ret,id_eq]
  by_cases c4:e≠0
  · rw[if_pos c4] at hM
    rw[hbad _ _ hM c4]
    repeat(first|refine GC ?_|refine gV (rr_neq (b:=true) rfl rfl (decide_eq_true c4)) ?_|refine gV (rr_build rfl hb0) ?_|refine GB ?_)
    refine TL_storeB (i:=1) (cs':=md0.toArray) rfl rfl rfl hsz hone hsz ?_
    conv=>arg 8;simp only[zA,zB,zC,zD,zE,zF,zG,zH,zI,rowS,ret,id_eq]
    try refine GA ?_
    exact E_retc2 (i:=1) rfl rfl rfl hsz rfl fun w hm=>hm.meets (S:=mkBad e) mdNil trivial [] (by decide) rfl
  rw[if_neg c4] at hM
  repeat(first|refine GC ?_|refine gV (rr_neq (b:=false) rfl rfl (decide_eq_false c4)) ?_|refine GB ?_)
  by_cases c5:0<fi.length
  · rw[if_pos c5] at hM
    rw[hbad _ _ hM (by decide)]
    repeat(first|refine GC ?_|refine gV (rr_rowlen (i:=21) Und.eq rfl rfl) ?_|refine gV (rr_gtr (b:=true) rfl rfl (decide_eq_true (by omega))) ?_|refine gV (rr_build rfl hb0) ?_|refine GB ?_)
    refine TL_storeB (i:=1) (cs':=md0.toArray) rfl rfl rfl hsz hone hsz ?_
    conv=>arg 8;simp only[zA,zB,zC,zD,zE,zF,zG,zH,zI,rowS,ret,id_eq]
    try refine GA ?_
    exact E_retc2 (i:=1) rfl rfl rfl hsz rfl fun w hm=>hm.meets (S:=mkBad 12) mdNil trivial [] (by decide) rfl
  rw[if_neg c5] at hM
  rw[hLR hM]
  repeat(first|refine GC ?_|refine gV (rr_rowlen (i:=21) Und.eq rfl rfl) ?_|refine gV (rr_gtr (b:=false) rfl rfl (decide_eq_false (by omega))) ?_|refine GB ?_)
  (repeat refine T_seq ?_)
  refine T_ord ([blkO g12 #[vA,vG] 36]) (.calm 0 (.calm 1 (.one 2 (.calm 3 (.one 4 (.done)))))) (sub_pick [22] (by decide) rfl) (by kernel_rfl) (by kernel_rfl) (by intro c a d v w h;cases d <;> exact h) ?_
  repeat(first|refine GW ?_|(refine GN ?_;first|refine QW (rr_loadB (i:=0) TyC.ty rfl rfl rfl) ?_))
  refine TW_one rfl (TL_storeMd 3 (i:=2) rfl rfl rfl rfl rfl rfl hpk rfl (TW_on (sub_pick [22] (by decide) rfl) ?_))
  conv=>arg 8;simp only[zA,zB,zC,zD,zE,zF,zG,zH,zI,rowS,ret,id_eq]
  try refine GW ?_
  refine TW_one rfl (TL_storeMt (i:=2) rfl rfl rfl b1 b2 rfl hpk (TW_on (sub_pick [22] (by decide) rfl) ?_))
  conv=>arg 8;simp only[zA,zB,zC,zD,zE,zF,zG,zH,zI,rowS,ret,id_eq]
  try refine GW ?_
  repeat(first|refine GA ?_|refine gV (rr_loadB (i:=2) TyC.ty rfl rfl (md_size hpk rfl)) ?_)
  refine TL_storeB (i:=1) (cs':=(mdC vo PK (mdT g.terms g.nons vp 2 (.slice none 0 0) vA vG)).toArray) rfl rfl rfl (md_size hpk rfl) (md_one k1 hpo (by simp only[mdT,List.all_cons,List.all_nil,k2,b1,b2];rfl)) hsz ?_
  conv=>arg 8;simp only[zA,zB,zC,zD,zE,zF,zG,zH,zI,rowS,ret,id_eq]
  try refine GA ?_
  subst hPK
  subst hgr
  refine E_retc2 (i:=1) rfl rfl rfl (md_size hpk rfl) rfl fun w hm=>hm.meets (S:=mkLR s R T) ⟨vo,vp,F,gP,vsP,vT,gR,vsR,⟨vA,vas,FA,vG,vgs,FG⟩⟩ ⟨⟨k1,k2,k3⟩,b1,b2⟩ [3,4,5,6,7,17,18,19,20] (by decide) ?_
  show _++tabL _ (outT (gramN s)).1 (outT (gramN s)).2.1=_
  rw[hOT]
  rfl
end Go.Proofs.Ytldiodhdefnlaaa.eng

/- SpecI -/
namespace Go.Proofs.Ytldiodhdefnlaaa.eng
open Go.RowKit kit mix classL rexL specL Go.ChangeShapes Go.WideShapes Go.ChangeAt
set_option maxRecDepth 100000
theorem slf_anyS {α:Type} {s:Shp α} {is:List Value→α→Prop} {w:World} {v:Value} {l:List α} (h:SlX w is s.c v l) (hi:∀ cs a,is cs a→s.is (Low w) w cs a) (h0:0<s.c):SlF s (Low w) w v l:=by
  obtain⟨base,cap,h1,h2,h3,h4⟩:=h
  refine⟨base,cap,h1,h2,h3,fun hl => ?_⟩
  obtain⟨b,off,h5,h6⟩:=h4 hl
  refine⟨b,off,h5,?_,fun i hi'=>let ⟨cs,h7,h8⟩:=h6 i hi';⟨cs,hi _ _ h7,h8⟩⟩
  obtain⟨cs,h7,h8⟩:=h6 0 hl
  have hlen:=s.len (hi _ _ h7)
  have hc:=h8 0 (cs[0]'(by omega)) (List.getElem?_eq_getElem (by omega))
  exact World.block_lt_of_cell? w _ hc
theorem opensM_word {H:Type} {M:Msr Try.prog H} {enc0:TypeId×Value→H} {W:World}:OpensM M enc0 W 87 (fun cs x=>wordS.is (Low W) W cs x):=fun fuel cs x h hm=>by
  obtain⟨hl,hfs⟩:=fieldM_of Try.underlying87 h hm
  have hl7:cs.length=7:=hl
  obtain⟨n,⟨e0,n1⟩,-⟩:=hfs 0 _ rfl (opensM_str Try.underlying9)
  obtain⟨r,h1⟩:=hfs 1 _ rfl (fun fuel=>opensF_rex (M:=M) (enc0:=enc0) (W:=W) fuel fuel (Nat.le_refl _))
  replace e0:(cs.drop 0).take 1=[str n]:=e0
  replace h1:RexIs (Low W) W ((cs.drop 1).take 6) r:=h1
  refine⟨(n,r),[str n],(cs.drop 1).take 6,?_,⟨rfl,n1⟩,h1⟩
  rw[←e0]
  have e:(cs.drop 1).take 6=cs.drop 1:=List.take_of_length_le (by rw[List.length_drop];omega)
  rw[e,List.drop_zero,List.take_append_drop]
theorem opensM_rule {H:Type} {M:Msr Try.prog H} {enc0:TypeId×Value→H} {W:World}:OpensM M enc0 W 78 (fun cs x=>ruleS.is (Low W) W cs x∧M.lim 9 x.2.length):=fun fuel cs x h hm=>by
  obtain⟨hl,hfs⟩:=fieldM_of Try.underlying78 h hm
  have hl2:cs.length=2:=hl
  obtain⟨n,⟨e0,n1⟩,-⟩:=hfs 0 _ rfl (opensM_str Try.underlying9)
  obtain⟨l,⟨v,e1,hs⟩,hlim⟩:=hfs 1 _ rfl (opensM_slice (c:=1) Try.underlying76 (by kernel_rfl) (by decide) (opensM_str Try.underlying9) fun cs a h=>by rw[h.1.1];rfl)
  replace e0:(cs.drop 0).take 1=[str n]:=e0
  replace e1:(cs.drop 1).take 1=[v]:=e1
  refine⟨(n,l),⟨[str n],[v],?_,⟨rfl,n1⟩,v,rfl,slf_anyS (s:=strS) hs (fun cs a h=>⟨h.1.1,h.1.2⟩) (by decide)⟩,hlim⟩
  match cs,hl2 with
  | [x,y],_=>
    simp only[List.drop_succ_cons,List.drop_zero,List.take_succ_cons,List.take_zero,List.cons.injEq,and_true] at e0 e1
    subst e0 e1
    rfl
theorem opensM_spec {H:Type} {M:Msr Try.prog H} {enc0:TypeId×Value→H} {W:World}:OpensM M enc0 W 25 (fun cs s=>SpR (Low W) W (.agg cs.toArray) s∧∀ r∈s.rules,M.lim 9 r.2.length):=fun fuel cs x h hm=>by
  obtain⟨hl,hfs⟩:=fieldM_of Try.underlying25 h hm
  have hl2:cs.length=2:=hl
  obtain⟨ws,⟨vw,e0,h0⟩,-⟩:=hfs 0 _ rfl (opensM_slice (c:=7) Try.underlying22 (by kernel_rfl) (by decide) opensM_word fun cs a h=>wordS.len h)
  obtain⟨rs,⟨vr,e1,h1⟩,-⟩:=hfs 1 _ rfl (opensM_slice (c:=2) Try.underlying23 (by kernel_rfl) (by decide) opensM_rule fun cs a h=>ruleS.len h.1)
  replace e0:(cs.drop 0).take 1=[vw]:=e0
  replace e1:(cs.drop 1).take 1=[vr]:=e1
  refine⟨⟨ws,rs⟩,⟨vw,vr,?_,slf_anyS (s:=wordS) h0 (fun cs a h=>h) (by decide),slf_anyS (s:=ruleS) h1 (fun cs a h=>h.1) (by decide)⟩,fun r hr => ?_⟩
  · match cs,hl2 with
    | [x,y],_=>
      simp only[List.drop_succ_cons,List.drop_zero,List.take_succ_cons,List.take_zero,List.cons.injEq,and_true] at e0 e1
      subst e0 e1
      rfl
  · obtain⟨i,hi,rfl⟩:=List.mem_iff_getElem.1 hr
    have hi:i<rs.length:=hi
    obtain⟨base,cap,_,_,_,h4⟩:=h1
    obtain⟨b,off,_,h6⟩:=h4 (by omega)
    obtain⟨cs,h7,_⟩:=h6 i hi
    exact h7.2
end Go.Proofs.Ytldiodhdefnlaaa.eng

/- SpecJ -/
namespace Go.Proofs.Ytldiodhdefnlaaa.eng
open Go.RowKit kit mix classL rexL specL Go.ChangeShapes Go.WideShapes Go.ChangeAt
set_option maxRecDepth 100000
theorem open_specB {H:Type} {enc0:TypeId×Value→H} {W:World} {base:Nat} {v:Value} {d:DataW H} {ps:List MemPlace} (hv:Value.okWide Try.prog W .any base 25 v) (h:DataW.Trod enc0 Try.prog W 0 (fun _=>true) true 25 v d ps) {ts:List TypeId} {ds:List (DataW H)} (hsz:(DataW.weightsEach Try.prog ts ds).all (· ≤ reachBytes)=true) (j:Nat) (hj:ts[j]?=some 25) (hd:ds[j]?=some d) :
    ∃ s:Sp,SpR (Low W) W v s∧∀ r∈s.rules,r.2.length*16≤140737488351232:=by
  obtain⟨cs,s,rfl,h1,h2⟩:=topM_agg (M:=weightM Try.prog H) Try.underlying25 hv h opensM_spec (weightM_top hsz j hj hd)
  rw[Array.toArray_toList] at h1
  exact⟨s,h1,h2⟩
end Go.Proofs.Ytldiodhdefnlaaa.eng

/- LlC -/
namespace Go.Proofs.Ytldiodhdefnlaaa.eng
open Go.RowKit kit mix gramL llL
abbrev RowsR (w:World) (v:Value) (ll:List (List Int)):Prop:=SlF (sliceS intS) (fun k=>k<w.heap.size) w v ll
theorem rows_slf {l:List gramL.Prod} {may:Nat→Nat} {T N g:Nat} {vs:Nat→Value} {w:World} (hl:l.length≤40) (hN:N≤20) (h1:(rowA 26 vals g N vs).holds w) (h2:(famP (fun j=>j<N) (rowsF l may T vs N 0)).holds w) :
    RowsR w (.slice (some ⟨g,0,none⟩) N N) (tabA N fun n=>tabA (T+1) (llL.rowAt l may T n)):=by
  refine⟨some ⟨g,0,none⟩,N,by rw[tabA_len],by rw[tabA_len];exact Nat.le_refl _,by unfold maxLen;omega,fun h0=>⟨g,0,rfl,(rowA 26 vals g N vs).lt w h1 g (.inl rfl),fun i hi => ?_⟩⟩
  rw[tabA_len] at hi
  have hf:=h2.1 i hi
  unfold rowsF cntL at hf
  rw[if_pos hi] at hf
  have hget:(tabA N fun n=>tabA (T+1) (llL.rowAt l may T n))[i]'(by rw[tabA_len];exact hi)=tabA (T+1) (llL.rowAt l may T i):=by simp[tabA]
  rw[hget]
  refine⟨[vs i],⟨vs i,rfl,?_⟩,fun j u hj => ?_⟩
  · have hs:=Sl.of_own hf
    refine SlF.of_flat (p:=kit.okI64) (by rw[tabA_len];rw[show ((tabA (T+1) (llL.rowAt l may T i)).flatMap fun n=>[Value.int .i64 n])=(tabA (T+1) (llL.rowAt l may T i)).map intV from by
        rw[List.flatMap_def]
        induction tabA (T+1) (llL.rowAt l may T i) with
        | nil=>rfl
        | cons x r ih=>simp only[List.map_cons,List.flatten_cons,ih];rfl];exact hs) (fun a ha => ?_) (fun b hb=>(rowO 3 1 (vs i) (T+1) _).lt w hf b (.inl hb)) (fun a n cp he => ?_)
    · unfold tabA at ha
      obtain⟨c,_,rfl⟩:=List.mem_map.1 ha
      have:=first_ge (l:=l) (may:=may) (T:=T) i c l.length
      unfold llL.rowAt
      exact⟨by omega,by omega⟩
    · have hr:w.ownsRow 0 3 1 (vs i) (T+1) _:=hf
      rcases hr.2 with ⟨hv,h⟩ | ⟨gg,cap,cur,hv,_⟩
      · omega
      · rw[hv] at he
        simp only[Value.slice.injEq,Option.some.injEq] at he
        rw[←he.1]
        exact (rowO 3 1 (vs i) (T+1) _).lt w hf gg (.inl (by rw[hv];rfl))
  · have hj0:j=0:=by
      have:=(List.getElem?_eq_some_iff.1 hj).1
      simp at this;omega
    subst hj0
    simp only[List.getElem?_cons_zero,Option.some.injEq] at hj
    subst hj
    have:=rowA_cell h1 hi
    rw[show 0+i*(sliceS intS).c+0=0+i by rw[show (sliceS intS).c=1 from rfl];omega]
    exact this
end Go.Proofs.Ytldiodhdefnlaaa.eng

/- SpecModeW -/
namespace Go.Proofs.Ytldiodhdefnlaaa.eng
open Go.RowKit kit mix classL rexL specL gramL smallL
theorem mkE_good {s:Sp} {e m:Int} (h:mkE s e=(0,m)):e=0∧(reachS (gramN s)).any (· == false)=false∧(makesS (gramN s)).any (· == false)=false∧(((clashS (gramN s)).length=0∧m=1)∨((clashS (gramN s)).length≠0∧(outT (gramN s)).2.2.2=0∧(outT (gramN s)).2.2.1.length=0∧m=2)):=by
  unfold mkE at h
  by_cases c0:checkS s≠0
  · rw[if_pos c0] at h;exact absurd (congrArg Prod.fst h) c0
  rw[if_neg c0] at h
  by_cases c1:s.words.length=0∨s.rules.length=0
  · rw[if_pos c1] at h;cases h
  rw[if_neg c1] at h
  by_cases c2:e≠0
  · rw[if_pos c2] at h;exact absurd (congrArg Prod.fst h) c2
  rw[if_neg c2] at h
  by_cases c3:(reachS (gramN s)).any (· == false)=true∨(makesS (gramN s)).any (· == false)=true
  · rw[if_pos c3] at h;cases h
  rw[if_neg c3] at h
  refine⟨Decidable.of_not_not c2,?_,?_,?_⟩
  · cases hb:(reachS (gramN s)).any (· == false) with
    | true=>exact absurd (.inl hb) c3
    | false=>rfl
  · cases hb:(makesS (gramN s)).any (· == false) with
    | true=>exact absurd (.inr hb) c3
    | false=>rfl
  by_cases c4:(clashS (gramN s)).length=0
  · rw[if_pos c4] at h;exact .inl ⟨c4,(congrArg Prod.snd h).symm⟩
  rw[if_neg c4] at h
  by_cases c5:(outT (gramN s)).2.2.2≠0
  · rw[if_pos c5] at h;exact absurd (congrArg Prod.fst h) c5
  rw[if_neg c5] at h
  by_cases c6:0<(outT (gramN s)).2.2.1.length
  · rw[if_pos c6] at h;cases h
  rw[if_neg c6] at h
  exact .inr ⟨c4,Decidable.of_not_not c5,by omega,(congrArg Prod.snd h).symm⟩
theorem pk_len (x:MdX) (R:List Row):(x.pk R).length=258:=pkC_len _ _ _
theorem pk_all {x:MdX} (h:x.vT.oneCell'=true) (R:List Row):(x.pk R).all Value.oneCell'=true:=by
  have:=pk_one (ofP R 256) (vn:= .slice (some ⟨x.gP,0,none⟩) R.length R.length) (vt:=x.vT) rfl h
  rw[MdX.pk,←this]
end Go.Proofs.Ytldiodhdefnlaaa.eng
namespace Go.Proofs.Ytldiodhdefnlaaa.specMode
open Go.RowKit kit mix eng classL rexL specL gramL
set_option maxRecDepth 100000 in
set_option maxHeartbeats 16000000 in
theorem walk (w:World) (v:Value) (s:Sp) (hv:SpR (Low w) w v s) (hb:∀ r∈s.rules,r.2.length*16≤140737488351232) :
    Calls Try.prog 3 #[v] w (Meets (ret (.bool true)) w):=by
  obtain⟨r,hx⟩:=lxR_of s
  have hmk:=fun w' (hg:Gr w w')=>spMake_calls v s r hx w' (hv.gr hg) (fun r h=>by have:=hb r h;omega)
  obtain⟨vw,vr,rfl,hw,hr⟩:=hv
  obtain⟨bw,cw,rfl,-⟩:=hw
  obtain⟨br,cr,rfl,-⟩:=hr
  clear hb
  have hsz:md0.toArray.size=266:=md_size pk0_len rfl
  have hone:md0.toArray.toList.all Value.oneCell'=true:=md_one rfl pk0_one rfl
  refine enter (args:=[.agg #[.slice bw s.words.length cw,.slice br s.rules.length cr]]) (n:=97) Try.func3 rfl rfl rfl ?_
  refine T_seq (T_region (TL_box rfl rfl rfl fun g1 => ?_))
  conv=>arg 8;simp only[zA,zB,zC,zD,zE,zF,zG,zH,zI,rowS,ret,id_eq]
  repeat(first|refine GA ?_|refine gV (rr_loadB (i:=0) TyC.ty rfl rfl rfl) ?_)
  by_cases c0:(mkE s r.1).1≠0
  · have hS:mkSpec s r=mkBad (mkE s r.1).1:=by unfold mkSpec;rw[if_pos c0]
    rw[hS] at hmk
    refine TL_call (he1 EntersC.en rfl rfl) (fun w hm=>hmk _ hm.below) rfl rfl rfl ?_
    intro _ _
    unfold mkBad
    conv=>arg 8;simp only[zA,zB,zC,zD,zE,zF,zG,zH,zI,rowS,ret,id_eq]
    try refine GA ?_
    refine TL_new rfl fun g3 => ?_
    rw[zero_md]
    conv=>arg 8;simp only[zA,zB,zC,zD,zE,zF,zG,zH,zI,rowS,ret,id_eq]
    refine TL_storeB (i:=1) (cs':=md0.toArray) rfl rfl rfl hsz hone hsz ?_
    conv=>arg 8;simp only[zA,zB,zC,zD,zE,zF,zG,zH,zI,rowS,ret,id_eq]
    repeat(first|refine GC ?_|refine gV (rr_neq (b:=true) rfl rfl (decide_eq_true c0)) ?_|refine gV (rr_load1 (v:= .int .i64 0) TyC.ty rfl (at_blk (i:=1) rfl (md_at 3 pk0_len rfl rfl))) ?_|refine gV (rr_load1 (v:= .slice none 0 0) TyC.ty rfl (at_blk (i:=1) rfl rfl)) ?_|refine GB ?_)
    exact E_ret1 rfl rfl fun w hm=>hm.ret
  have hS:mkSpec s r=if (mkE s r.1).2=1 then mkLL s r.2.1 r.2.2 else mkLR s r.2.1 r.2.2:=by unfold mkSpec;rw[if_neg c0]
  obtain⟨h1,h2,h3,h4⟩:=mkE_good (s:=s) (e:=r.1) (m:=(mkE s r.1).2) (by rw[←Decidable.of_not_not c0])
  obtain⟨hG,-⟩:=lxR_good hx h1
  clear hx c0
  obtain⟨a1,a2,a3,a4,a5,a6⟩:=checkG_ok hG
  have hN:(gramN s).nons=((gramN s).nons.toNat:Int):=by omega
  have hT:(gramN s).terms=((gramN s).terms.toNat:Int):=by omega
  obtain⟨⟨-,hRl,hMl⟩,-⟩:=derL.sound_of hG hN
  have hof:=fun v w' h=>of_calls v (gramN s) w' h hG (gramN s).nons.toNat hN
  have hll:=fun v w' h=>llMake_calls v (gramN s) w' h hG (gramN s).terms.toNat (gramN s).nons.toNat hT hN
  unfold makeS at hll
  have hgra:∀ F vp w',(prodsO F vp (gramN s).prods).holds w'→GraR (fun k=>k<w'.heap.size) w' (graV (gramN s).terms (gramN s).nons vp) (gramN s):=fun F vp w' h=>gprods_gra (gok ⟨a1,by omega⟩) (gok ⟨by omega,by omega⟩) h
  obtain⟨e,R,T⟩:=r
  dsimp only at *
  unfold reachS at h2
  unfold makesS at h3
  unfold clashS at h4
  rcases h4 with ⟨c4,hm⟩ | ⟨c4,c5,c6,hm⟩
  · rw[hm,if_pos rfl] at hS
    rw[hS] at hmk
    unfold mkLL MdX.lex MdX.rows at hmk
    clear hS hm
    refine TL_call (he1 EntersC.en rfl rfl) (fun w hm=>hmk _ hm.below) rfl rfl rfl ?_
    rintro⟨vo,vp,F,gP,vsP,vT,gR,vsR,tx⟩ ⟨k1,k2,k3⟩
    dsimp only at k1 k2 k3
    have hpk:=pk_len ⟨vo,vp,F,gP,vsP,vT,gR,vsR,tx⟩ R
    have hpo:=pk_all (x:=⟨vo,vp,F,gP,vsP,vT,gR,vsR,tx⟩) k3 R
    conv=>arg 7;simp only[MdX.cLL]
    generalize MdX.pk ⟨vo,vp,F,gP,vsP,vT,gR,vsR,tx⟩ R=PK at *
    conv=>arg 8;simp only[zA,zB,zC,zD,zE,zF,zG,zH,zI,rowS,ret,id_eq]
    try refine GA ?_
    refine TL_new rfl fun g3 => ?_
    rw[zero_md]
    conv=>arg 8;simp only[zA,zB,zC,zD,zE,zF,zG,zH,zI,rowS,ret,id_eq]
    refine TL_storeB (i:=8) (cs':=(mdC vo PK (mdT (gramN s).terms (gramN s).nons vp 1 (.slice (some ⟨gR,0,none⟩) (gramN s).nons.toNat (gramN s).nons.toNat) (.slice none 0 0) (.slice none 0 0))).toArray) rfl rfl rfl (md_size hpk rfl) (md_one k1 hpo (by simp only[mdT,List.all_cons,List.all_nil,k2];rfl)) hsz ?_
    conv=>arg 8;simp only[zA,zB,zC,zD,zE,zF,zG,zH,zI,rowS,ret,id_eq]
    repeat(first|refine GC ?_|refine gV (rr_neq (b:=false) rfl rfl (decide_eq_false (by simp))) ?_|refine gV (rr_loadN (cs:=[.int .i64 (gramN s).terms,.int .i64 (gramN s).nons,vp]) TyC.ty rfl rfl (fun j v h=>at_blk (i:=8) rfl (md_gram hpk h))) ?_|refine GB ?_)
    refine TL_call (he1 EntersC.en rfl rfl) (fun w' hm=>hll _ w' (hgra F vp w' (hm.get (i:=2) rfl))) rfl rfl rfl ?_
    rintro⟨gR2,vsR2,vcl⟩ _
    conv=>arg 8;simp only[zA,zB,zC,zD,zE,zF,zG,zH,zI,rowS,ret,id_eq]
    repeat(first|refine GA ?_|refine gV (rr_loadN (cs:=[.int .i64 (gramN s).terms,.int .i64 (gramN s).nons,vp]) TyC.ty rfl rfl (fun j v h=>at_blk (i:=8) rfl (md_gram hpk h))) ?_)
    refine TL_call (he1 EntersC.en rfl rfl) (fun w' hm=>(hof _ w' (hgra F vp w' (hm.get (i:=2) rfl))).mono fun e w2 h=>meets_of h) rfl rfl rfl ?_
    intro x5 _
    conv=>arg 8;simp only[zA,zB,zC,zD,zE,zF,zG,zH,zI,rowS,ret,id_eq,Rows5.val]
    try refine GA ?_
    refine TL_new rfl fun g8 => ?_
    refine TL_storeB (i:=17) rfl rfl rfl rfl rfl rfl ?_
    conv=>arg 8;simp only[zA,zB,zC,zD,zE,zF,zG,zH,zI,rowS,ret,id_eq]
    repeat(first|refine GC ?_|refine gV (rr_neq (b:=false) rfl rfl (decide_eq_false (by simp))) ?_|refine gV (rr_load1 TyC.ty rfl (at_blk (i:=17) rfl rfl)) ?_|refine GB ?_)
    refine TL_gcall (he2 EntersC.en rfl rfl rfl) (fun w' hm=>containsBool_calls _ (ofS (gramN s).nons.toNat (gramN s).prods).R false w' (by have:=Sl.of_own (hm.get (i:=15) rfl);rw[hRl];exact this)) rfl rfl rfl rfl rfl ?_
    intro _ _
    rw[h2]
    conv=>arg 8;simp only[zA,zB,zC,zD,zE,zF,zG,zH,zI,rowS,ret,id_eq]
    repeat(first|refine GA ?_|refine gV (rr_load1 TyC.ty rfl (at_blk (i:=17) rfl rfl)) ?_)
    refine TL_gcall (he2 EntersC.en rfl rfl rfl) (fun w' hm=>containsBool_calls _ (ofS (gramN s).nons.toNat (gramN s).prods).M false w' (by have:=Sl.of_own (hm.get (i:=16) rfl);rw[hMl];exact this)) rfl rfl rfl rfl rfl ?_
    intro _ _
    rw[h3]
    conv=>arg 8;simp only[zA,zB,zC,zD,zE,zF,zG,zH,zI,rowS,ret,id_eq]
    repeat(first|refine GC ?_|refine gV (rr_load1 (v:=vo) TyC.ty rfl (at_blk (i:=8) rfl rfl)) ?_|refine gV (rr_rowlen (i:=1) Und.eq rfl rfl) ?_|refine gV (rr_load1 (v:= .slice bw s.words.length cw) TyC.ty rfl (at_blk (i:=0) rfl rfl)) ?_|refine gV (rr_neq (b:=false) rfl rfl (decide_eq_false (by omega))) ?_|refine gV (rr_load1 (v:= .int .i64 1) TyC.ty rfl (at_blk (i:=8) rfl (md_at 3 hpk rfl rfl))) ?_|refine gV (rr_rowlen (i:=11) Und.eq rfl rfl) ?_|refine gV (rr_eql (b:=true) rfl rfl (decide_eq_true (by omega))) ?_|refine gV (rr_load1 (v:= .slice (some ⟨gR,0,none⟩) (gramN s).nons.toNat (gramN s).nons.toNat) TyC.ty rfl (at_blk (i:=8) rfl (md_at 4 hpk rfl rfl))) ?_|refine GB ?_)
    refine TL_gcall (he3 EntersC.en rfl rfl rfl rfl) (fun w' hm=>equalFol_calls _ _ _ w' (rows_slf a5 (by omega) (hm.get (i:=9) rfl) (hm.get (i:=10) rfl)) (rows_slf a5 (by omega) (hm.get (i:=6) rfl) (hm.get (i:=7) rfl))) rfl rfl rfl rfl rfl ?_
    intro _ _
    conv=>arg 8;simp only[zA,zB,zC,zD,zE,zF,zG,zH,zI,rowS,ret,id_eq]
    repeat(first|refine GA ?_|refine gV (rr_load1 (v:= .slice none 0 0) TyC.ty rfl (at_blk (i:=8) rfl (md_at 5 hpk rfl rfl))) ?_)
    exact E_ret1 rfl rfl fun w hm=>hm.ret
  · rw[hm,if_neg (by decide)] at hS
    rw[hS] at hmk
    unfold mkLR MdX.lex tabL at hmk
    clear hS hm
    refine TL_call (he1 EntersC.en rfl rfl) (fun w hm=>hmk _ hm.below) rfl rfl rfl ?_
    rintro⟨vo,vp,F,gP,vsP,vT,gR,vsR,⟨vA,vas,FA,vG,vgs,FG⟩⟩ ⟨⟨k1,k2,k3⟩,b1,b2⟩
    dsimp only at b1 b2
    dsimp only at k1 k2 k3
    have hpk:=pk_len ⟨vo,vp,F,gP,vsP,vT,gR,vsR,⟨vA,vas,FA,vG,vgs,FG⟩⟩ R
    have hpo:=pk_all (x:=⟨vo,vp,F,gP,vsP,vT,gR,vsR,⟨vA,vas,FA,vG,vgs,FG⟩⟩) k3 R
    conv=>arg 7;simp only[MdX.cLR]
    generalize MdX.pk ⟨vo,vp,F,gP,vsP,vT,gR,vsR,⟨vA,vas,FA,vG,vgs,FG⟩⟩ R=PK at *
    conv=>arg 8;simp only[zA,zB,zC,zD,zE,zF,zG,zH,zI,rowS,ret,id_eq]
    try refine GA ?_
    refine TL_new rfl fun g3 => ?_
    rw[zero_md]
    conv=>arg 8;simp only[zA,zB,zC,zD,zE,zF,zG,zH,zI,rowS,ret,id_eq]
    refine TL_storeB (i:=10) (cs':=(mdC vo PK (mdT (gramN s).terms (gramN s).nons vp 2 (.slice none 0 0) vA vG)).toArray) rfl rfl rfl (md_size hpk rfl) (md_one k1 hpo (by simp only[mdT,List.all_cons,List.all_nil,k2,b1,b2];rfl)) hsz ?_
    conv=>arg 8;simp only[zA,zB,zC,zD,zE,zF,zG,zH,zI,rowS,ret,id_eq]
    repeat(first|refine GC ?_|refine gV (rr_neq (b:=false) rfl rfl (decide_eq_false (by simp))) ?_|refine gV (rr_loadN (cs:=[.int .i64 (gramN s).terms,.int .i64 (gramN s).nons,vp]) TyC.ty rfl rfl (fun j v h=>at_blk (i:=10) rfl (md_gram hpk h))) ?_|refine GB ?_)
    refine TL_call (he1 EntersC.en rfl rfl) (fun w' hm=>hll _ w' (hgra F vp w' (hm.get (i:=2) rfl))) rfl rfl rfl ?_
    rintro⟨gR2,vsR2,vcl⟩ _
    conv=>arg 8;simp only[zA,zB,zC,zD,zE,zF,zG,zH,zI,rowS,ret,id_eq]
    repeat(first|refine GA ?_|refine gV (rr_loadN (cs:=[.int .i64 (gramN s).terms,.int .i64 (gramN s).nons,vp]) TyC.ty rfl rfl (fun j v h=>at_blk (i:=10) rfl (md_gram hpk h))) ?_)
    refine TL_call (he1 EntersC.en rfl rfl) (fun w' hm=>(hof _ w' (hgra F vp w' (hm.get (i:=2) rfl))).mono fun e w2 h=>meets_of h) rfl rfl rfl ?_
    intro x5 _
    conv=>arg 8;simp only[zA,zB,zC,zD,zE,zF,zG,zH,zI,rowS,ret,id_eq,Rows5.val]
    try refine GA ?_
    refine TL_new rfl fun g8 => ?_
    refine TL_storeB (i:=19) rfl rfl rfl rfl rfl rfl ?_
    conv=>arg 8;simp only[zA,zB,zC,zD,zE,zF,zG,zH,zI,rowS,ret,id_eq]
    repeat(first|refine GC ?_|refine gV (rr_neq (b:=false) rfl rfl (decide_eq_false (by simp))) ?_|refine gV (rr_load1 TyC.ty rfl (at_blk (i:=19) rfl rfl)) ?_|refine GB ?_)
    refine TL_gcall (he2 EntersC.en rfl rfl rfl) (fun w' hm=>containsBool_calls _ (ofS (gramN s).nons.toNat (gramN s).prods).R false w' (by have:=Sl.of_own (hm.get (i:=17) rfl);rw[hRl];exact this)) rfl rfl rfl rfl rfl ?_
    intro _ _
    rw[h2]
    conv=>arg 8;simp only[zA,zB,zC,zD,zE,zF,zG,zH,zI,rowS,ret,id_eq]
    repeat(first|refine GA ?_|refine gV (rr_load1 TyC.ty rfl (at_blk (i:=19) rfl rfl)) ?_)
    refine TL_gcall (he2 EntersC.en rfl rfl rfl) (fun w' hm=>containsBool_calls _ (ofS (gramN s).nons.toNat (gramN s).prods).M false w' (by have:=Sl.of_own (hm.get (i:=18) rfl);rw[hMl];exact this)) rfl rfl rfl rfl rfl ?_
    intro _ _
    rw[h3]
    conv=>arg 8;simp only[zA,zB,zC,zD,zE,zF,zG,zH,zI,rowS,ret,id_eq]
    repeat(first|refine GC ?_|refine gV (rr_load1 (v:=vo) TyC.ty rfl (at_blk (i:=10) rfl rfl)) ?_|refine gV (rr_rowlen (i:=1) Und.eq rfl rfl) ?_|refine gV (rr_load1 (v:= .slice bw s.words.length cw) TyC.ty rfl (at_blk (i:=0) rfl rfl)) ?_|refine gV (rr_neq (b:=false) rfl rfl (decide_eq_false (by omega))) ?_|refine gV (rr_load1 (v:= .int .i64 2) TyC.ty rfl (at_blk (i:=10) rfl (md_at 3 hpk rfl rfl))) ?_|refine gV (rr_rowlen (i:=13) Und.eq rfl rfl) ?_|refine gV (rr_load1 (v:= .slice none 0 0) TyC.ty rfl (at_blk (i:=10) rfl (md_at 4 hpk rfl rfl))) ?_|refine gV (rr_gtr (b:=true) rfl rfl (decide_eq_true (by omega))) ?_|refine GB ?_)
    exact E_ret1 rfl rfl fun w hm=>hm.ret
end Go.Proofs.Ytldiodhdefnlaaa.specMode


/- Part 4 of what SpecMode needs: FactsO, Look, Brk, FactsE, FactsF, ItL, ItM, LrL, ItB, ItC, OrdK, OrdJ, ItH, ItN, ItO, SmM, SmU, Els, ItD, SortJ, ItE, ItF, ItG, ItA, ItP, OutA, Opens, CfgL, CfgP, CfgQ, CfgR, BeginL, ClassO1, RexI, RexM, RexE, RexPr, RexPs, SpecL. -/
import Derived.Test.YtldiodhdefnlaaaMgC
import Derived.WalkKit
import Derived.WalkSpells
import Derived.WalkLawsBesides
import Derived.Deep.RegionLaw
import Derived.Deep.AppendLies
import Derived.Deep.QuietTactic
import Derived.BigQuiet
import Derived.Deep.DeepCutAuto
import Derived.Lib.Hide
import Derived.Test.YtldiodhdefnlaaaRows
import Derived.ProofKit
import Derived.OpenShut
import Derived.ShutString
import Derived.SizedLaws
import Derived.JoinedCond
import Derived.Deep.CondSized
import Derived.Deep.Quiet
import Derived.StillTail
import Derived.Deep.LoopGhost
import Derived.Laws.BitsLemmas
import Derived.Laws.BytesString
import Derived.Test.YtldiodhdefnlaaaProg
import Derived.Laws.Entries
import Derived.Laws.BitsAllLaws
import Derived.Lib.TrailingZeros
import Derived.Laws.StructEq
import Derived.Laws.MakeOwn
import Derived.Laws.AppendOwn
import Derived.Maps.OwnSet
import Derived.DeepKeys4
import Derived.WideKeyEntry
import Derived.ChangeKeysEq
import Derived.Laws.Bits64b
import Derived.StringKeys
import Derived.Lib.SlicesCompact
import Derived.Shelf.Sort.Plain
import Derived.Ground.Names2Prog
import Derived.Shelf.Slices.CompactI
import Derived.Shelf.Slices.In.SortNone
import Derived.Lib.RowBridge
import Derived.Sort.Grow
import Derived.Lib.Walk
import Derived.Deep.RegionWith
import Derived.Deep.RegionHeld
import Derived.Shelf.SlGeneric
import Derived.Shelf.SlSortCmp.NoneTotal
import Derived.Ground.SlsfProg
import Derived.Lib.Strings
import Derived.Lib.Slices
import Derived.Lib.Bytealg
import Derived.Lib.IndexMore
/- FactsO -/
namespace Go.Proofs.Ytldiodhdefnlaaa.eng
open Go.RowKit kit mix gramL factsL
def ofS (n:Nat) (l:List gramL.Prod):FS:=factsL.fix (stepS l) (lackS n) ⟨List.replicate n false,(List.replicate n false).set 0 true,List.replicate n false,false⟩
def ofF (n:Nat) (l:List gramL.Prod):List Nat:=setsF (ofS n l).E (ofS n l).M l (List.replicate n 0)
def ofW (n:Nat) (l:List gramL.Prod):List Nat:=setsW (ofS n l).E (ofF n l) l ((List.replicate n 0).set 0 9223372036854775808)
structure Rows5 extends Rows4 where
  gR:Nat
  cR:Nat
def Rows5.val (n:Nat) (x:Rows5):Value:=facV (vRow n x.gE x.cE) (vRow n x.gF x.cF) (vRow n x.gW x.cW) (vRow n x.gR x.cR) (vRow n x.gM x.cM)
theorem build_fac (a b c d e:Option Addr) (n1 n2 n3 n4 n5 c1 c2 c3 c4 c5:Nat) (w:World):(Instr.build 48 #[(0,.slice a n1 c1),(1,.slice b n2 c2),(2,.slice c n3 c3),(3,.slice d n4 c4),(4,.slice e n5 c5)]).run Try.prog w = .ok (.agg #[.slice a n1 c1,.slice b n2 c2,.slice c n3 c3,.slice d n4 c4,.slice e n5 c5]) w:=by
  go_simp
def mkB (i d n:Nat):Mk:=⟨i,d,fun g=> .slice (some ⟨g,0,none⟩) n n,fun g=>blkO g (madeCells #[.bool false] (n*1)) 4⟩
def mkN (i d n:Nat):Mk:=⟨i,d,fun g=> .slice (some ⟨g,0,none⟩) n n,fun g=>blkO g (madeCells #[.int .u64 0] (n*1)) 64⟩
def mkF (i d:Nat):Mk:=⟨i,d,fun g=> .pointer (some ⟨g,0,none⟩),fun g=>blkO g #[.slice none 0 0,.slice none 0 0,.slice none 0 0,.slice none 0 0,.slice none 0 0] 48⟩
theorem T_rowMade {P:Program} {k:Nat} {W:Base} {Q:Exit→Act→World→Prop} {fr:Fr} {L:List Own} {c:Code} {i g m:Nat} {e:TypeId} {z:Value} (hi:L[i]?=some (blkO g (madeCells #[z] (m*1)) e)) (hm:m≤9223372036854775807) (h:T P k W c Q fr (L.set i (rowO e 1 (.slice (some ⟨g,0,none⟩) m m) m (List.replicate m z)))):T P k W c Q fr L:=
  T_toRowN 1 hi (by rw[size_madeCells]) (Nat.le_refl _) hm (by
    have:(madeCells #[z] (m*1)).toList.take (m*1)=List.replicate m z:=by
      rw[made1,Nat.mul_one,List.take_of_length_le (by simp)]
    rw[this];exact h)
set_option maxHeartbeats 8000000 in
theorem of_calls (v:Value) (g:Gram) (w:World) (h:GraR (fun k=>k<w.heap.size) w v g) (hck:checkG g=0) (n:Nat) (hn:g.nons=n) :
    Calls Try.prog 6 #[v] w (MeetsB ⟨fun (_:Rows5)=>True,fun x=> .tuple #[x.val n,.int .i64 0],fun x=>[rowBn n x.gE x.cE (ofS n g.prods).E,rowNn n x.gF x.cF (ofF n g.prods),rowNn n x.gW x.cW (ofW n g.prods),rowBn n x.gR x.cR (ofS n g.prods).R,rowBn n x.gM x.cM (ofS n g.prods).M]⟩ w):=by
  obtain⟨n1,n2,_,_,hlen,_⟩:=checkG_ok hck
  have hcc:=fun w' L (hm:Mem w L w')=>checkG_calls v g w' (h.gr ((Old.self w).mem hm))
  rw[hck] at hcc
  have h0:=h
  obtain⟨vp,rfl,h1,_⟩:=h
  obtain⟨bp,cp,rfl,hcp,hmp,hrp⟩:=h1
  unfold maxLen at hmp
  obtain⟨t,nn,prods⟩:=g
  dsimp only at *
  subst hn
  refine enter (args:=[graV t (n:Int) (.slice bp prods.length cp)]) (n:=39) Try.func6 rfl rfl rfl ?_
  refine T_seq (T_region (TL_box rfl rfl rfl fun g1=>TL_new rfl fun g2 => ?_))
  conv=>arg 8;simp only[zA,zB,zC,zD,zE,zF,zG,zH,zI,rowS,ret,id_eq]
  repeat(first|refine GA ?_|refine gV (rr_loadB (i:=0) TyC.ty rfl rfl rfl) ?_)
  refine TL_call (he1 EntersC.en rfl rfl) (fun w hm=>hcc _ _ hm) rfl rfl rfl ?_
  intro _ _
  conv=>arg 8;simp only[zA,zB,zC,zD,zE,zF,zG,zH,zI,rowS,ret,id_eq]
  repeat(first|refine GA ?_|refine gV (rr_load1 TyC.ty rfl (at_blk (i:=0) rfl rfl)) ?_)
  refine T_midq (ι:=Nat×Nat×Nat×Nat×Nat×Nat) (fun _=>True) (fun (_,_,_,_,_,g6)=>[(1,.pointer (some ⟨g1,0,none⟩)),(2,.pointer (some ⟨g2,0,none⟩)),(6,.pointer (some ⟨g6,0,none⟩))])
    (fun (gE,gF,gW,gR,gM,g6)=>[blkO g1 (graV t (n:Int) (.slice bp prods.length cp)).cells 33,blkO g2 #[.slice none 0 0,.slice none 0 0,.slice none 0 0,.slice none 0 0,.slice none 0 0] 48,blkO gE (madeCells #[.bool false] (n*1)) 4,blkO gF (madeCells #[.int .u64 0] (n*1)) 64,blkO gW (madeCells #[.int .u64 0] (n*1)) 64,blkO gR (madeCells #[.bool false] (n*1)) 4,blkO gM (madeCells #[.bool false] (n*1)) 4,blkO g6 (facV (vRow n gE n) (vRow n gF n) (vRow n gW n) (vRow n gR n) (vRow n gM n)).cells 48]) ?_ ?_
  rotate_left
  · rintro⟨gE,gF,gW,gR,gM,g6⟩ _
    dsimp only
    refine T_rowMade (i:=2) rfl (by omega) ?_
    refine T_rowMade (i:=3) rfl (by omega) ?_
    refine T_rowMade (i:=4) rfl (by omega) ?_
    refine T_rowMade (i:=5) rfl (by omega) ?_
    refine T_rowMade (i:=6) rfl (by omega) ?_
    conv=>arg 7;simp only[List.set_cons_succ,List.set_cons_zero]
    rw[show List.replicate n (Value.bool false)=(List.replicate n false).map .bool by simp,show List.replicate n (Value.int .u64 0)=(List.replicate n 0).map bitV by simp[bitV]]
    have hn0:0<n:=by omega
    repeat(first|refine GA ?_|refine gV (rr_load1 TyC.ty rfl (at_blk (i:=7) rfl rfl)) ?_|refine gV (rr_idx1 (j:=0) Und.eq TyC.ty rfl rfl hn0) ?_)
    refine TL_storeRow (i:=5) TyC.ty rfl rfl rfl rfl rfl rfl (by simpa using hn0) ?_
    repeat(first|refine GA ?_|refine gV (rr_load1 TyC.ty rfl (at_blk (i:=7) rfl rfl)) ?_|refine gV (rr_idx1 (j:=0) Und.eq TyC.ty rfl rfl hn0) ?_)
    refine TL_storeRow (i:=4) TyC.ty rfl rfl rfl rfl rfl rfl (by simpa using hn0) ?_
    conv=>arg 8;simp only[List.set_cons_succ,List.set_cons_zero,Nat.zero_add]
    try refine GA ?_
    generalize hfin:ofS n prods=fin
    have hfine:=fine_of (g:=⟨t,n,prods⟩) hck rfl
    have hfalls:=fallsS hfine
    refine T_loop (ι:=FS) (fun s=>okR n s∧factsL.fix (stepS prods) (lackS n) s=fin) (fun _=>[(1,.pointer (some ⟨g1,0,none⟩)),(2,.pointer (some ⟨g2,0,none⟩)),(6,.pointer (some ⟨g6,0,none⟩))])
      (fun s=>[blkO g1 (graV t (n:Int) (.slice bp prods.length cp)).cells 33,blkO g2 #[.slice none 0 0,.slice none 0 0,.slice none 0 0,.slice none 0 0,.slice none 0 0] 48,rowBn n gE n s.E,rowNn n gF n (List.replicate n 0),rowNn n gW n ((List.replicate n 0).set 0 9223372036854775808),rowBn n gR n s.R,rowBn n gM n s.M,blkO g6 (facV (vRow n gE n) (vRow n gF n) (vRow n gW n) (vRow n gR n) (vRow n gM n)).cells 48])
      (fun s=>lackS n s) ⟨List.replicate n false,(List.replicate n false).set 0 true,List.replicate n false,false⟩ ⟨⟨by simp,by simp,by simp⟩,hfin⟩ (by repeat' (first | exact True.intro | refine And.intro rfl ?_)) (by simp[rowBn,rowNn,bitV,List.map_set]) ?_
    rintro⟨E,R,M,mo⟩ ⟨i1,i2⟩
    dsimp only at i2 ⊢
    have hrd:=fun w' B' (ho:Old w B') hm=>round_calls w _ ⟨t,n,prods⟩ h0 hck n rfl ⟨gE,n,gR,n,gM,n⟩ (vRow n gF n) (vRow n gW n) E R M i1.1 i1.2.1 i1.2.2 w' B' ho hm
    dsimp only at hrd
    repeat(first|refine GA ?_|refine gV (rr_loadB (i:=0) TyC.ty rfl rfl rfl) ?_|refine gV (rr_loadB (i:=7) TyC.ty rfl rfl rfl) ?_)
    refine TL_callB [2,5,6] [0,1,3,4,7] (by decide) rfl rfl (he2 EntersC.en rfl rfl rfl) (fun w' hm hb=>hrd w' _ ((Old.self w).on hm (by intro o ho;simp at ho ⊢;rcases ho with h | h | h <;> simp[h])) hb) rfl rfl rfl ?_
    intro _ _
    conv=>arg 8;simp only[zA,zB,zC,zD,zE,zF,zG,zH,zI,rowS,ret,id_eq]
    clear hrd
    have hk:=roundL_grow prods ⟨E,R,M,false⟩ hfine i1
    have hgo:(roundL prods ⟨E,R,M,false⟩).more=true→factsL.fix (stepS prods) (lackS n) (roundL prods ⟨E,R,M,false⟩)=fin∧lackS n (roundL prods ⟨E,R,M,false⟩)<lackS n ⟨E,R,M,mo⟩:=fun c=>⟨by rw[←i2,fix_go hfalls i1 c];rfl,hfalls.dec _ i1 c⟩
    have hst:(roundL prods ⟨E,R,M,false⟩).more=false→roundL prods ⟨E,R,M,false⟩=fin:=fun c=>by rw[←i2,fix_stop (s:=(⟨E,R,M,mo⟩:FS)) c];rfl
    generalize roundL prods ⟨E,R,M,false⟩=r at *
    obtain⟨E',R',M',m'⟩:=r
    dsimp only at hgo hst ⊢
    cases m'
    · have hst:=hst rfl
      have hsets:=fun w' B' (ho:Old w B') hm=>sets_calls w _ ⟨t,n,prods⟩ h0 hck n rfl ⟨gE,n,gF,n,gW,n,gM,n⟩ (vRow n gR n) E' (List.replicate n 0) ((List.replicate n 0).set 0 9223372036854775808) M' hk.1.1 ⟨by simp,fun x hx=>by rw[List.eq_of_mem_replicate hx];decide⟩ ⟨by simp,fun x hx=>by
        rcases List.mem_or_eq_of_mem_set hx with h | h
        · rw[List.eq_of_mem_replicate h];decide
        · rw[h];decide⟩ hk.1.2.2 w' B' ho hm
      dsimp only at hsets
      repeat(first|refine GA ?_|refine gV (rr_loadB (i:=0) TyC.ty rfl rfl rfl) ?_|refine gV (rr_loadB (i:=4) TyC.ty rfl rfl rfl) ?_)
      refine TL_callB [5,2,3,7] [0,1,6,4] (by decide) rfl rfl (he2 EntersC.en rfl rfl rfl) (fun w' hm hb=>hsets w' _ ((Old.self w).on hm (by intro o ho;simp at ho ⊢;rcases ho with h | h | h | h <;> simp[h])) hb) rfl rfl rfl ?_
      intro _ _
      conv=>arg 8;simp only[zA,zB,zC,zD,zE,zF,zG,zH,zI,rowS,ret,id_eq]
      repeat(first|refine GA ?_|refine gV (rr_loadB (i:=3) TyC.ty rfl rfl rfl) ?_)
      refine TL_storeB (i:=1) rfl rfl rfl rfl rfl rfl ?_
      conv=>arg 8;simp only[zA,zB,zC,zD,zE,zF,zG,zH,zI,rowS,ret,id_eq]
      try refine GA ?_
      subst hst
      have eF:ofF n prods=setsF E' M' prods (List.replicate n 0):=by unfold ofF;rw[hfin]
      have eW:ofW n prods=setsW E' (setsF E' M' prods (List.replicate n 0)) prods ((List.replicate n 0).set 0 9223372036854775808):=by unfold ofW;rw[eF,hfin]
      rw[eF,eW]
      refine E_retc2 (i:=1) rfl rfl rfl rfl (z:= .int .i64 0) ?_ fun w' hm => ?_
      · rfl
      exact hm.meetsB (S:=⟨fun (_:Rows5)=>True,fun x=> .tuple #[x.val n,.int .i64 0],fun x=>[rowBn n x.gE x.cE E',rowNn n x.gF x.cF (setsF E' M' prods (List.replicate n 0)),rowNn n x.gW x.cW (setsW E' (setsF E' M' prods (List.replicate n 0)) prods ((List.replicate n 0).set 0 9223372036854775808)),rowBn n x.gR x.cR R',rowBn n x.gM x.cM M']⟩) ⟨⟨gE,n,gF,n,gW,n,gM,n⟩,gR,n⟩ trivial [4,5,6,2,7] (by decide) rfl
    · try refine GA ?_
      refine E_pick [0,1,5,2,3,6,7,4] (by decide) rfl ?_
      exact E_round ⟨E',R',M',true⟩ ⟨hk.1,(hgo rfl).1⟩ (hgo rfl).2 (by repeat' (first | exact True.intro | refine And.intro rfl ?_)) rfl
  refine T_ordX [] sub_nil (by kernel_rfl) (by kernel_rfl) (by intro c a d v w h;cases d <;> exact h) ?_
  refine TX_val 0 (by kernel_rfl) rfl (rr_move rfl) rfl rfl rfl ?_
  refine TX_val 2 (by kernel_rfl) rfl (rr_move rfl) rfl rfl rfl ?_
  refine TX_val 4 (by kernel_rfl) rfl (rr_move rfl) rfl rfl rfl ?_
  refine TX_val 6 (by kernel_rfl) rfl (rr_move rfl) rfl rfl rfl ?_
  refine TX_val 8 (by kernel_rfl) rfl (rr_move rfl) rfl rfl rfl ?_
  refine TX_many2 [mkB 1 16 n,mkN 3 18 n,mkN 5 20 n,mkB 7 22 n,mkB 9 24 n,mkF 11 6] (fun m=>!Nat.beq m.i 11) 2 (by kernel_rfl) (by kernel_rfl) ?_ (fun q => ?_) fun q => ?_
  · intro m hm
    simp only[List.mem_cons,List.not_mem_nil,or_false] at hm
    rcases hm with rfl | rfl | rfl | rfl | rfl | rfl
    · exact makes_slice rfl rfl rfl (Nat.le_refl _) (by omega) (by omega) rfl
    · exact makes_slice rfl rfl rfl (Nat.le_refl _) (by omega) (by omega) rfl
    · exact makes_slice rfl rfl rfl (Nat.le_refl _) (by omega) (by omega) rfl
    · exact makes_slice rfl rfl rfl (Nat.le_refl _) (by omega) (by omega) rfl
    · exact makes_slice rfl rfl rfl (Nat.le_refl _) (by omega) (by omega) rfl
    · exact makes_new rfl rfl
  · simp only[mkB,mkN,mkF,List.map_cons,List.map_nil]
    generalize q 1=gE
    generalize q 3=gF
    generalize q 5=gW
    generalize q 7=gR
    generalize q 9=gM
    generalize q 11=g6
    clear q
    refine TX_tree (.calm 10 (.one 12 .done)) (by kernel_rfl) rfl ?_
    repeat(first|refine GW ?_|(refine GN ?_;first|refine QW (rr_build rfl (build_fac _ _ _ _ _ _ _ _ _ _ _ _ _ _ _)) ?_))
    refine TW_one rfl ?_
    refine TL_storeB (i:=7) rfl rfl rfl rfl rfl rfl ?_
    refine TW_on sub_nil ?_
    try refine GW ?_
    exact E_mid (gE,gF,gW,gR,gM,g6) trivial (by repeat' (first | exact True.intro | refine And.intro rfl ?_)) rfl
  · rw[show List.filter (fun m:Mk=>!Nat.beq m.i 11) [mkB 1 16 n,mkN 3 18 n,mkN 5 20 n,mkB 7 22 n,mkB 9 24 n,mkF 11 6]=[mkB 1 16 n,mkN 3 18 n,mkN 5 20 n,mkB 7 22 n,mkB 9 24 n] from rfl]
    simp only[mkB,mkN,mkF,List.map_cons,List.map_nil]
    generalize q 1=gE
    generalize q 3=gF
    generalize q 5=gW
    generalize q 7=gR
    generalize q 9=gM
    clear q
    refine TX_tree (.calm 10 (.one 11 (.one 12 .done))) (by kernel_rfl) (by kernel_rfl) ?_
    repeat(first|refine GW ?_|(refine GN ?_;first|refine QW (rr_build rfl (build_fac _ _ _ _ _ _ _ _ _ _ _ _ _ _ _)) ?_))
    refine TW_one rfl ?_
    refine TL_new rfl fun g6 => ?_
    refine TW_on sub_nil ?_
    refine TW_one rfl ?_
    refine TL_storeB (i:=7) rfl rfl rfl rfl rfl rfl ?_
    refine TW_on sub_nil ?_
    try refine GW ?_
    exact E_mid (gE,gF,gW,gR,gM,g6) trivial (by repeat' (first | exact True.intro | refine And.intro rfl ?_)) rfl
end Go.Proofs.Ytldiodhdefnlaaa.eng

/- Look -/
namespace Go.Proofs.Ytldiodhdefnlaaa.eng
open Go.RowKit kit mix gramL treeL factsL countL
theorem bits_andN {x y:Nat} (hx:x<18446744073709551616) (hy:y<18446744073709551616):bits .and .u64 (x:Int) (y:Int)=((x &&& y:Nat):Int):=bits_and_u64_nat x y hx hy
end Go.Proofs.Ytldiodhdefnlaaa.eng

/- Brk -/
namespace Go.Proofs.Ytldiodhdefnlaaa.eng
open Go.RowKit kit mix gramL
theorem slf_one {α:Type} {s:Shp α} {F:Nat→Prop} {w:World} {v:Value} {l:List α} (h:SlF s F w v l):v.oneCell'=true:=by
  obtain⟨b,c,rfl,_⟩:=h;rfl
theorem build_sym (k q:Int) (w:World):(Instr.build 112 #[(0,.int .i64 k),(1,.int .i64 q)]).run Try.prog w = .ok (.agg #[.int .i64 k,.int .i64 q]) w:=by
  go_simp
end Go.Proofs.Ytldiodhdefnlaaa.eng

/- FactsE -/
namespace Go.Proofs.Ytldiodhdefnlaaa.eng
open Go.RowKit kit mix gramL factsL
section
variable {P:Program} {n:Nat} {W:Base} {fr:Fr} {L:List Own} {dst:Option Tmp} {ty:TypeId} {pos:String} {after:Array Edge} {guard:Option (Nat×Bool)} {t u:TypeId} {x y:Operand} {k:IntKind} {m m' r:Int}
theorem rr_andn (hx:ev fr x=some (.int k m)) (hy:ev fr y=some (.int k m')) (h:bits .andNot k m m'=r):RR P n W ⟨dst,.binOp .andNot t x y u,ty,pos,after,guard⟩ fr L (.int k r):=rr_bits (.inr (.inr (.inr rfl))) hx hy h
end
theorem meets_of {ι:Type} {S:Spec ι} {w w':World} {e:Ending} (h:MeetsB S w e w'):Meets S w e w':=let ⟨x,h1,h2,h3⟩:=h;⟨x,h1,h2,h3.below,h3.newer⟩
theorem build_fac0 (w:World):(Instr.build 48 (#[]:Array (Nat×Value))).run Try.prog w = .ok (.agg #[.slice none 0 0,.slice none 0 0,.slice none 0 0,.slice none 0 0,.slice none 0 0]) w:=by
  go_simp
theorem ofE_calls (v:Value) (g:Gram) (w:World) (h:GraR (fun k=>k<w.heap.size) w v g) (h0:checkG g≠0) :
    Calls Try.prog 6 #[v] w (Meets (ret (.tuple #[facV (.slice none 0 0) (.slice none 0 0) (.slice none 0 0) (.slice none 0 0) (.slice none 0 0),.int .i64 (checkG g)])) w):=by
  have hck:=fun w' (hg:Gr w w')=>checkG_calls v g w' (h.gr hg)
  obtain⟨vp,rfl,h1,_⟩:=h
  obtain⟨bp,cp,rfl,hcp,hmp,hrp⟩:=h1
  generalize checkG g=e at *
  obtain⟨t,n,prods⟩:=g
  dsimp only at *
  refine enter (args:=[graV t n (.slice bp prods.length cp)]) (n:=39) Try.func6 rfl rfl rfl ?_
  refine T_seq (T_region (TL_box rfl rfl rfl fun g1=>TL_new rfl fun g2 => ?_))
  repeat(first|refine GA ?_|refine gV (rr_loadB (i:=0) TyC.ty rfl rfl rfl) ?_)
  refine TL_call (he1 EntersC.en rfl rfl) (fun w hm=>hck _ hm.below) rfl rfl rfl ?_
  intro _ _
  conv=>arg 8;simp only[zA,zB,zC,zD,zE,zF,zG,zH,zI,rowS,ret,id_eq]
  repeat(first|refine GA ?_|refine gV (rr_build rfl build_fac0) ?_)
  refine TL_storeB (i:=1) rfl rfl rfl rfl rfl rfl ?_
  try refine GA ?_
  exact E_retc2 (i:=1) rfl rfl rfl rfl rfl fun w hm=>hm.ret
end Go.Proofs.Ytldiodhdefnlaaa.eng

/- FactsF -/
namespace Go.Proofs.Ytldiodhdefnlaaa.eng
open Go.RowKit kit mix gramL factsL
def badE (t n:Int):List Sym→Int
  | []=>0
  | x::r=>if right t n x=true then badE t n r else 1
theorem badE_ok {t n:Int}:∀ {l:List Sym},badE t n l=0→∀ x∈l,right t n x=true
  | [],_,_,h=>by cases h
  | y :: r,h,x,hx=>by
    unfold badE at h
    split at h
    · rename_i c
      rcases List.mem_cons.1 hx with rfl | hx
      · exact c
      · exact badE_ok h x hx
    · cases h
theorem badE_of {t n:Int}:∀ {l:List Sym},(∀ x∈l,right t n x=true)→badE t n l=0
  | [],_=>rfl
  | y::r,h=>by unfold badE;rw[if_pos (h y (by simp))];exact badE_of fun x hx=>h x (by simp[hx])
def begE (g:Gram) (body:List Sym):Int:=if checkG g≠0 then checkG g else if 60<body.length then 1 else badE g.terms g.nons body
def begV (g:Gram) (body:List Sym) (behind:Nat):Nat:=if begE g body=0 then beginF (ofS g.nons.toNat g.prods).E (ofF g.nons.toNat g.prods) body behind else 0
theorem wrong_cases {t n:Int} {x:Sym} (h:right t n x=false):(x.1≠1∧x.1≠2)∨(x.1=1∧x.2<0)∨(x.1=1∧0≤x.2∧t≤x.2)∨(x.1=2∧x.2<0)∨(x.1=2∧0≤x.2∧n≤x.2):=by
  unfold right at h
  split at h
  · simp at h;omega
  · split at h
    · simp at h;omega
    · omega
theorem right_cases {t n:Int} {x:Sym} (h:right t n x=true):(x.1=1∧0≤x.2∧x.2<t)∨(x.1=2∧0≤x.2∧x.2<n):=by
  unfold right at h
  split at h
  · simp at h;omega
  · split at h
    · simp at h;omega
    · simp at h
theorem ofW_ok {g:Gram} {n:Nat} (hck:checkG g=0) (hn:g.nons=n):okR n (ofS n g.prods)∧okW n (ofF n g.prods):=by
  have hf:=fine_of hck hn
  constructor
  · obtain⟨s',h1,h2,h3⟩:=fix_end (fallsS hf) _ ⟨List.replicate n false,(List.replicate n false).set 0 true,List.replicate n false,false⟩ ⟨by simp,by simp,by simp⟩ (Nat.le_refl _)
    unfold ofS
    rw[h3]
    exact (fallsS hf).keep _ h1
  · obtain⟨s',h1,h2,h3⟩:=fix_end (fallsF (E:=(ofS n g.prods).E) (M:=(ofS n g.prods).M) hf) _ (List.replicate n 0) ⟨by simp,fun x hx=>by rw[List.eq_of_mem_replicate hx];decide⟩ (Nat.le_refl _)
    unfold ofF setsF
    rw[h3]
    exact (fallsF hf).keep _ h1
set_option maxHeartbeats 4000000 in
theorem factsBegin_calls (v vb:Value) (g:Gram) (body:List Sym) (behind:Nat) (w:World) (h:GraR (fun k=>k<w.heap.size) w v g) (hs:Sl w vb body.length (body.flatMap symC)) (hb:behind<18446744073709551616) :
    Calls Try.prog 13 #[v,vb,bitV behind] w (Meets (ret (.tuple #[bitV (begV g body behind),.int .i64 (begE g body)])) w):=by
  by_cases c0:checkG g=0
  · obtain⟨_,_,k1,k2,k3,k4⟩:=checkG_ok c0
    obtain⟨n,hn⟩:∃ n:Nat,g.nons=n:=⟨g.nons.toNat,by omega⟩
    have hof:=fun w' (hg:Gr w w')=>of_calls v g w' (h.gr hg) c0 n hn
    obtain⟨hS,hF⟩:=ofW_ok c0 hn
    obtain⟨vp,rfl,h1,_⟩:=h
    obtain⟨bp,cp,rfl,hcp,hmp,hrp⟩:=h1
    clear hrp
    have hs0:=hs
    obtain⟨bb,cb,rfl,h4,h5,h6⟩:=hs
    unfold maxLen at h5
    obtain⟨t,nn,prods⟩:=g
    dsimp only at *
    subst hn
    have hbg:=fun (vE vF vL vR vM:Value) w' (hg:Gr w w') (hE:Sl w' vE n ((ofS n prods).E.map .bool)) (hF2:Sl w' vF n ((ofF n prods).map bitV)) hok=>begin_calls vE vF vL vR vM _ (ofS n prods).E (ofF n prods) body behind w' (by rw[hS.1];exact hE) (by rw[hF.1];exact hF2) (hs0.gr hg) (by rw[hS.1,hF.1]) hok hF.2 hb
    rw[hF.1] at hbg
    have hV:begV ⟨t,n,prods⟩ body behind=if begE ⟨t,n,prods⟩ body=0 then beginF (ofS n prods).E (ofF n prods) body behind else 0:=rfl
    have hE:begE ⟨t,n,prods⟩ body=if 60<body.length then 1 else badE t n body:=by
      unfold begE
      rw[if_neg (by rw[c0];simp)]
    generalize begV ⟨t,n,prods⟩ body behind=rV at *
    generalize begE ⟨t,n,prods⟩ body=rE at *
    refine enter (args:=[graV t (n:Int) (.slice bp prods.length cp),.slice bb body.length cb,bitV behind]) (n:=71) Try.func13 rfl rfl rfl ?_
    refine T_seq (T_region (TL_box rfl rfl rfl fun g3 => ?_))
    repeat(first|refine GA ?_|refine gV (rr_loadB (i:=0) TyC.ty rfl rfl rfl) ?_)
    refine TL_call (he1 EntersC.en rfl rfl) (fun w' hm=>(hof w' hm.below).mono fun e w2 h=>meets_of h) rfl rfl rfl ?_
    intro x _
    conv=>arg 8;simp only[zA,zB,zC,zD,zE,zF,zG,zH,zI,rowS,ret,id_eq,Rows5.val]
    try refine GA ?_
    refine TL_new rfl fun g8 => ?_
    refine TL_storeB (i:=6) rfl rfl rfl rfl rfl rfl ?_
    conv=>arg 8;simp only[zA,zB,zC,zD,zE,zF,zG,zH,zI,rowS,ret,id_eq]
    by_cases c1:60<body.length
    · rw[if_pos c1] at hE
      subst hE
      rw[if_neg (by decide)] at hV
      subst hV
      try refine GA ?_
      exact E_ret2 rfl rfl rfl fun w hm=>hm.ret
    rw[if_neg c1] at hE
    try refine GA ?_
    refine T_loop (ι:=Nat) (fun k=>k≤body.length∧rE=badE t n (body.drop k)) (fun k=>[(1,.slice bb body.length cb),(2,bitV behind),(3,.pointer (some ⟨g3,0,none⟩)),(8,.pointer (some ⟨g8,0,none⟩)),(23,.slice bb body.length cb),(24,.int .i64 body.length),(25,.int .i64 (k:Int))])
      (fun _=>[blkO g3 (graV t (n:Int) (.slice bp prods.length cp)).cells 33,rowBn n x.gE x.cE (ofS n prods).E,rowNn n x.gF x.cF (ofF n prods),rowNn n x.gW x.cW (ofW n prods),rowBn n x.gR x.cR (ofS n prods).R,rowBn n x.gM x.cM (ofS n prods).M,blkO g8 (facV (vRow n x.gE x.cE) (vRow n x.gF x.cF) (vRow n x.gW x.cW) (vRow n x.gR x.cR) (vRow n x.gM x.cM)).cells 48]) (fun k=>body.length - k) 0 ⟨Nat.zero_le _,hE⟩ (by repeat' (first | exact True.intro | refine And.intro rfl ?_)) rfl ?_
    rintro k ⟨i1,i2⟩
    by_cases c6:k<body.length
    · obtain⟨b,off,rfl,hr⟩:=h6 (by omega)
      have hat:=fun L=>at_el (L:=L) SymS_len hr c6
      rw[List.drop_eq_getElem_cons c6,badE] at i2
      clear h6 hr hs0 hbg
      generalize body[k]=y at *
      cases r:right t n y
      · rw[if_neg (by rw[r];decide)] at i2
        clear hE
        subst i2
        rw[if_neg (by decide)] at hV
        subst hV
        have r':=wrong_cases r
        obtain⟨q,m⟩:=y
        dsimp only at r'
        rcases r' with r' | r' | r' | r' | r'
        all_goals
          repeat(first|refine GA ?_|refine gV (rr_idxc Und.eq TyC.ty rfl rfl c6) ?_|refine gV (rr_loadN TyC.ty rfl rfl (hat _)) ?_)
          refine TL_new rfl fun g11 => ?_
          refine TL_storeB (i:=7) rfl rfl rfl rfl rfl rfl ?_
          conv=>arg 8;simp only[zA,zB,zC,zD,zE,zF,zG,zH,zI,rowS,ret,id_eq]
          repeat(first|refine GA ?_|refine gV (rr_load1 TyC.ty rfl (at_blk (i:=7) rfl rfl)) ?_|refine gV (rr_load1 TyC.ty rfl (at_blk (i:=0) rfl rfl)) ?_)
          exact E_ret2 rfl rfl rfl fun w hm=>hm.ret
      · rw[if_pos r] at i2
        have r':=right_cases r
        obtain⟨q,m⟩:=y
        dsimp only at r'
        rcases r' with r' | r'
        all_goals
          repeat(first|refine GA ?_|refine gV (rr_idxc Und.eq TyC.ty rfl rfl c6) ?_|refine gV (rr_loadN TyC.ty rfl rfl (hat _)) ?_)
          refine TL_new rfl fun g11 => ?_
          refine TL_storeB (i:=7) rfl rfl rfl rfl rfl rfl ?_
          conv=>arg 8;simp only[zA,zB,zC,zD,zE,zF,zG,zH,zI,rowS,ret,id_eq]
          repeat(first|refine GA ?_|refine gV (rr_load1 TyC.ty rfl (at_blk (i:=7) rfl rfl)) ?_|refine gV (rr_load1 TyC.ty rfl (at_blk (i:=0) rfl rfl)) ?_)
          refine E_pick [0,1,2,3,4,5,6] (by decide) rfl ?_
          exact E_round (k+1) ⟨by omega,i2⟩ (by show body.length - (k+1)<body.length - k;omega) (by repeat' (first | exact True.intro | refine And.intro rfl ?_)) rfl
    · rw[List.drop_of_length_le (by omega)] at i2
      have i2:rE=0:=by rw[i2];rfl
      have hall:∀ x∈body,right t n x=true:=badE_ok (hE.symm.trans i2)
      clear hE
      rw[if_pos i2] at hV
      subst i2 hV
      repeat(first|refine GA ?_|refine gV (rr_loadB (i:=6) TyC.ty rfl rfl rfl) ?_)
      refine TL_call (he3 EntersC.en rfl rfl rfl rfl) (fun w hm=>hbg _ _ _ _ _ w hm.below (sl_row (i:=1) rfl w hm) (sl_row (i:=2) rfl w hm) (fun x hx=>by have:=right_cases (hall x hx);omega)) rfl rfl rfl ?_
      intro _ _
      try refine GA ?_
      exact E_ret2 rfl rfl rfl fun w hm=>hm.ret
  · have hof:=fun w' (hg:Gr w w')=>ofE_calls v g w' (h.gr hg) c0
    have hE:begE g body=checkG g:=by unfold begE;rw[if_pos c0]
    have hV:begV g body behind=0:=by unfold begV;rw[hE,if_neg c0]
    rw[hE,hV]
    obtain⟨vp,rfl,h1,_⟩:=h
    obtain⟨bb,cb,rfl,_⟩:=hs
    generalize checkG g=e at *
    obtain⟨t,n,prods⟩:=g
    dsimp only at *
    refine enter (args:=[graV t n vp,.slice bb body.length cb,bitV behind]) (n:=71) Try.func13 rfl rfl rfl ?_
    refine T_seq (T_region (TL_box rfl rfl rfl fun g3 => ?_))
    repeat(first|refine GA ?_|refine gV (rr_loadB (i:=0) TyC.ty rfl rfl rfl) ?_)
    refine TL_call (he1 EntersC.en rfl rfl) (fun w hm=>hof _ hm.below) rfl rfl rfl ?_
    intro _ _
    try refine GA ?_
    refine TL_new rfl fun g8 => ?_
    refine TL_storeB (i:=1) rfl rfl rfl rfl rfl rfl ?_
    try refine GA ?_
    exact E_ret2 rfl rfl rfl fun w hm=>hm.ret
end Go.Proofs.Ytldiodhdefnlaaa.eng

/- ItL -/
namespace Go.Proofs.Ytldiodhdefnlaaa.itemL
open gramL treeL smallL
abbrev Item:=Int×Int×Int
def cmpI (a b:Int):Int:=if a<b then -1 else if b<a then 1 else 0
def ordI (a b:Item):Int:=if cmpI a.1 b.1≠0 then cmpI a.1 b.1 else if cmpI a.2.1 b.2.1≠0 then cmpI a.2.1 b.2.1 else cmpI a.2.2 b.2.2
def ltI (a b:Item):Bool:=decide (ordI a b<0)
theorem ltI_iff (a b:Item):ltI a b=true↔a.1<b.1∨(a.1=b.1∧(a.2.1<b.2.1∨(a.2.1=b.2.1∧a.2.2<b.2.2))):=by
  unfold ltI ordI cmpI
  rw[decide_eq_true_eq]
  repeat' split
  all_goals omega
theorem ltI_no (a b:Item):ltI a b=false↔¬ (a.1<b.1∨(a.1=b.1∧(a.2.1<b.2.1∨(a.2.1=b.2.1∧a.2.2<b.2.2)))):=by
  rw[←ltI_iff,Bool.not_eq_true]
def leI (a b:Item):Bool:=!ltI b a
theorem leI_iff (a b:Item):leI a b=true↔¬ (b.1<a.1∨(b.1=a.1∧(b.2.1<a.2.1∨(b.2.1=a.2.1∧b.2.2<a.2.2)))):=by
  unfold leI
  rw[Bool.not_eq_true',ltI_no]
theorem leI_trans (a b c:Item) (h1:leI a b=true) (h2:leI b c=true):leI a c=true:=by
  rw[leI_iff] at *;omega
theorem leI_total (a b:Item):(leI a b || leI b a)=true:=by
  rw[Bool.or_eq_true,leI_iff,leI_iff];omega
theorem leI_anti {a b:Item} (h1:leI a b=true) (h2:leI b a=true):a=b:=by
  rw[leI_iff] at *
  obtain⟨a1,a2,a3⟩:=a
  obtain⟨b1,b2,b3⟩:=b
  dsimp only at h1 h2
  rw[Prod.mk.injEq,Prod.mk.injEq]
  omega
theorem ltI_parts (x y:Item) (h1:ltI x y=false) (h2:ltI y x=false):x=y:=leI_anti (by unfold leI;rw[h2];rfl) (by unfold leI;rw[h1];rfl)
def RisI (l:List Item):Prop:=l.Pairwise fun a b=>ltI a b=true
theorem ltI_irr (a:Item):ltI a a=false:=by rw[ltI_no];omega
theorem ltI_tr {a b c:Item} (h1:ltI a b=true) (h2:ltI b c=true):ltI a c=true:=by
  rw[ltI_iff] at *;omega
theorem ris_nodup {l:List Item} (h:RisI l):l.Nodup:=h.imp fun {a b} hab e=>by subst e;rw[ltI_irr] at hab;cases hab
def sortI (l:List Item):List Item:=l.mergeSort leI
theorem sort_mem {l:List Item} {x:Item}:x∈sortI l↔x∈l:=(List.mergeSort_perm l leI).mem_iff
theorem sort_len (l:List Item):(sortI l).length=l.length:=List.length_mergeSort _
theorem sort_ris {l:List Item} (h:l.Nodup):RisI (sortI l):=by
  have h1:(sortI l).Pairwise fun a b=>leI a b=true:=List.pairwise_mergeSort leI_trans leI_total l
  have h2:(sortI l).Nodup:=(List.mergeSort_perm l leI).nodup_iff.2 h
  refine (h1.and h2).imp fun {a b} hab => ?_
  cases e:ltI a b with
  | true=>rfl
  | false=>exact absurd (leI_anti hab.1 (by unfold leI;rw[e];rfl)) hab.2
section
variable (l:List gramL.Prod) (T:Nat) (lk:Int→Int→Nat)
def bodyI (p:Int):List Sym:=if p=(l.length:Int) then [(2,0)] else (prodAt l p).2
def nextS (it:Item):Option Sym:=(bodyI l it.1)[it.2.1.toNat]?
def looksI (it:Item):Nat:=if (lk it.1 it.2.1).testBit 62=true then (lk it.1 it.2.1 ^^^ 2 ^ 62) ||| 2 ^ it.2.2.toNat else lk it.1 it.2.1
def expLook (i:Nat) (bits:Nat) (out:List Item):Nat→List Item
  | 0=>out
  | k+1=>if bits.testBit k=true then more (expLook i bits out k) ((i:Int),0,(k:Int)) else expLook i bits out k
def expProd (N:Int) (bits:Nat) (out:List Item):Nat→List Item
  | 0=>out
  | i+1=>if (prodAt l (i:Int)).1=N then expLook i bits (expProd N bits out i) (T+1) else expProd N bits out i
def expI (it:Item) (out:List Item):List Item:=match nextS l it with
  | some x=>if x.1=2 then expProd l T x.2 (looksI lk it) out l.length else out
  | none=>out
def workI:Nat→Nat→List Item→List Item
  | 0,_,out=>out
  | f+1,n,out=>if n<out.length then workI f (n+1) (expI l T lk (out.getD n (0,0,0)) out) else out
def closedI (l0:List Item):List Item:=sortI (workI l T lk 12000 0 (firsts [] l0))
def ExpI (it x:Item):Prop:=∃ N:Int,∃ i k:Nat,nextS l it=some (2,N)∧i<l.length∧(prodAt l (i:Int)).1=N∧k≤T∧(looksI lk it).testBit k=true∧x=((i:Int),0,(k:Int))
inductive Cl (l0:List Item):Item→Prop
  | base {x:Item} (h:x∈l0):Cl l0 x
  | step {it x:Item} (h:Cl l0 it) (hx:ExpI l T lk it x):Cl l0 x
def RightI (it:Item):Prop:=0≤it.1∧it.1≤(l.length:Int)∧0≤it.2.1∧it.2.1≤((bodyI l it.1).length:Int)∧0≤it.2.2∧it.2.2≤(T:Int)
end
section
variable {l:List gramL.Prod} {T:Nat} {lk:Int→Int→Nat}
theorem expLook_mem {i bits:Nat} {out:List Item} {x:Item}:∀ k,x∈expLook i bits out k↔x∈out∨∃ j,j<k∧bits.testBit j=true∧x=((i:Int),0,(j:Int))
  | 0=>⟨.inl,fun h=>h.elim id fun ⟨j,hj,_⟩=>absurd hj (Nat.not_lt_zero j)⟩
  | k + 1 => by
    rw[expLook]
    by_cases c:bits.testBit k=true
    · rw[if_pos c,mem_more,expLook_mem k]
      constructor
      · rintro ((h | ⟨j,h1,h2⟩) | h)
        · exact .inl h
        · exact .inr ⟨j,by omega,h2⟩
        · exact .inr ⟨k,by omega,c,h⟩
      · rintro (h | ⟨j,h1,h2,h3⟩)
        · exact .inl (.inl h)
        · by_cases e:j=k
          · subst e;exact .inr h3
          · exact .inl (.inr ⟨j,by omega,h2,h3⟩)
    · rw[if_neg c,expLook_mem k]
      constructor
      · rintro (h | ⟨j,h1,h2⟩)
        · exact .inl h
        · exact .inr ⟨j,by omega,h2⟩
      · rintro (h | ⟨j,h1,h2,h3⟩)
        · exact .inl h
        · by_cases e:j=k
          · subst e;exact absurd h2 c
          · exact .inr ⟨j,by omega,h2,h3⟩
theorem expLook_pre (i bits:Nat) (out:List Item):∀ k,∃ E,expLook i bits out k=out++E
  | 0=>⟨[],(List.append_nil _).symm⟩
  | k + 1=>by
    rw[expLook]
    obtain⟨E,h⟩:=expLook_pre i bits out k
    split
    · obtain⟨E2,h2⟩:=more_pre (expLook i bits out k) (((i:Int),0,(k:Int)):Item)
      exact⟨E++E2,by rw[h2,h,List.append_assoc]⟩
    · exact⟨E,h⟩
theorem expLook_nodup {i bits:Nat} {out:List Item} (h:out.Nodup):∀ k,(expLook i bits out k).Nodup
  | 0=>h
  | k+1=>by
    rw[expLook]
    split
    · exact more_nodup (expLook_nodup h k)
    · exact expLook_nodup h k
theorem expProd_mem {N:Int} {bits:Nat} {out:List Item} {x:Item}:∀ n,x∈expProd l T N bits out n↔x∈out∨∃ i k:Nat,i<n∧(prodAt l (i:Int)).1=N∧k≤T∧bits.testBit k=true∧x=((i:Int),0,(k:Int))
  | 0=>⟨.inl,fun h=>h.elim id fun ⟨j,_,hj,_⟩=>absurd hj (Nat.not_lt_zero j)⟩
  | n + 1 => by
    rw[expProd]
    by_cases c:(prodAt l (n:Int)).1=N
    · rw[if_pos c,expLook_mem,expProd_mem n]
      constructor
      · rintro ((h | ⟨i,k,h1,h2⟩) | ⟨j,h1,h2,h3⟩)
        · exact .inl h
        · exact .inr ⟨i,k,by omega,h2⟩
        · exact .inr ⟨n,j,by omega,c,by omega,h2,h3⟩
      · rintro (h | ⟨i,k,h1,h2,h3,h4,h5⟩)
        · exact .inl (.inl h)
        · by_cases e:i=n
          · subst e;exact .inr ⟨k,by omega,h4,h5⟩
          · exact .inl (.inr ⟨i,k,by omega,h2,h3,h4,h5⟩)
    · rw[if_neg c,expProd_mem n]
      constructor
      · rintro (h | ⟨i,k,h1,h2⟩)
        · exact .inl h
        · exact .inr ⟨i,k,by omega,h2⟩
      · rintro (h | ⟨i,k,h1,h2,h3⟩)
        · exact .inl h
        · by_cases e:i=n
          · subst e;exact absurd h2 c
          · exact .inr ⟨i,k,by omega,h2,h3⟩
theorem expProd_pre (N:Int) (bits:Nat) (out:List Item):∀ n,∃ E,expProd l T N bits out n=out++E
  | 0=>⟨[],(List.append_nil _).symm⟩
  | n + 1=>by
    rw[expProd]
    obtain⟨E,h⟩:=expProd_pre N bits out n
    split
    · obtain⟨E2,h2⟩:=expLook_pre n bits (expProd l T N bits out n) (T+1)
      exact⟨E++E2,by rw[h2,h,List.append_assoc]⟩
    · exact⟨E,h⟩
theorem expProd_nodup {N:Int} {bits:Nat} {out:List Item} (h:out.Nodup):∀ n,(expProd l T N bits out n).Nodup
  | 0=>h
  | n+1=>by
    rw[expProd]
    split
    · exact expLook_nodup (expProd_nodup h n) _
    · exact expProd_nodup h n
theorem exp_mem {it:Item} {out:List Item} {x:Item}:x∈expI l T lk it out↔x∈out∨ExpI l T lk it x:=by
  unfold expI ExpI
  cases e:nextS l it with
  | none=>exact⟨.inl,fun h=>h.elim id fun ⟨_,_,_,h,_⟩=>by cases h⟩
  | some s=>
    obtain⟨k,N⟩:=s
    dsimp only
    by_cases c:k=2
    · subst c
      rw[if_pos rfl,expProd_mem]
      constructor
      · rintro (h | ⟨i,j,h1,h2,h3,h4,h5⟩)
        · exact .inl h
        · exact .inr ⟨N,i,j,rfl,h1,h2,h3,h4,h5⟩
      · rintro (h | ⟨N',i,j,h0,h1,h2,h3,h4,h5⟩)
        · exact .inl h
        · simp only[Option.some.injEq,Prod.mk.injEq,true_and] at h0
          subst h0
          exact .inr ⟨i,j,h1,h2,h3,h4,h5⟩
    · rw[if_neg c]
      refine⟨.inl,fun h=>h.elim id fun ⟨N',_,_,h,_⟩ => ?_⟩
      simp only[Option.some.injEq,Prod.mk.injEq] at h
      exact absurd h.1 c
theorem exp_pre (it:Item) (out:List Item):∃ E,expI l T lk it out=out++E:=by
  unfold expI
  split
  · split
    · exact expProd_pre _ _ _ _
    · exact⟨[],(List.append_nil _).symm⟩
  · exact⟨[],(List.append_nil _).symm⟩
theorem exp_nodup {it:Item} {out:List Item} (h:out.Nodup):(expI l T lk it out).Nodup:=by
  unfold expI
  split
  · split
    · exact expProd_nodup h _
    · exact h
  · exact h
theorem body_len {p:Int} (hw:∀ q∈l,q.2.length≤8):(bodyI l p).length≤8:=by
  unfold bodyI
  split
  · decide
  · unfold prodAt
    rw[List.getD_eq_getElem?_getD]
    cases e:l[p.toNat]? with
    | none=>exact Nat.zero_le _
    | some q=>exact hw q (List.mem_of_getElem? e)
theorem right_exp {it x:Item} (h:ExpI l T lk it x):RightI l T x:=by
  obtain⟨N,i,k,_,h2,_,h4,_,rfl⟩:=h
  exact⟨by dsimp only;omega,by dsimp only;omega,Int.le_refl _,by dsimp only;omega,by dsimp only;omega,by dsimp only;omega⟩
theorem right_cl {l0:List Item} (h0:∀ x∈l0,RightI l T x) {x:Item} (h:Cl l T lk l0 x):RightI l T x:=by
  cases h with
  | base h=>exact h0 x h
  | step _ hx=>exact right_exp hx
theorem items_few {out:List Item} (hw:∀ q∈l,q.2.length≤8) (hl:l.length≤40) (hT:T≤30) (hn:out.Nodup) (hr:∀ x∈out,RightI l T x):out.length≤11439:=by
  have:=nodup_bound (l:=out.map fun x:Item=>x.1.toNat*279+x.2.1.toNat*31+x.2.2.toNat) (m:=11439) ?_ ?_
  · rwa [List.length_map] at this
  · rw[List.nodup_iff_pairwise_ne,List.pairwise_map]
    refine (List.Pairwise.and_mem.1 hn).imp fun {a b} hab e=>hab.2.2 ?_
    have ha:=hr a hab.1
    have hb:=hr b hab.2.1
    have ha8:=body_len (p:=a.1) hw
    have hb8:=body_len (p:=b.1) hw
    unfold RightI at ha hb
    obtain⟨a1,a2,a3⟩:=a
    obtain⟨b1,b2,b3⟩:=b
    dsimp only at *
    rw[Prod.mk.injEq,Prod.mk.injEq]
    omega
  · intro x hx
    obtain⟨a,ha,rfl⟩:=List.mem_map.1 hx
    have h1:=hr a ha
    have h8:=body_len (p:=a.1) hw
    unfold RightI at h1
    omega
structure WkI (l:List gramL.Prod) (T:Nat) (lk:Int→Int→Nat) (l0:List Item) (n:Nat) (out:List Item):Prop where
  nd:out.Nodup
  le:n≤out.length
  has:∀ x∈l0,x∈out
  cl:∀ x∈out,Cl l T lk l0 x
  shut:∀ j (h:j<out.length),j<n→∀ x,ExpI l T lk out[j] x→x∈out
theorem wk_step {l0:List Item} {n:Nat} {out:List Item} (h:WkI l T lk l0 n out) (hn:n<out.length):WkI l T lk l0 (n+1) (expI l T lk out[n] out):=by
  obtain⟨E,hE⟩:=exp_pre (l:=l) (T:=T) (lk:=lk) out[n] out
  have hlen:out.length≤(expI l T lk out[n] out).length:=by rw[hE,List.length_append];omega
  have hget:∀ j (h:j<out.length),(expI l T lk out[n] out)[j]'(by omega)=out[j]:=fun j hj=>by
    simp only[hE,List.getElem_append_left hj]
  refine⟨exp_nodup h.nd,by omega,fun x hx=>exp_mem.2 (.inl (h.has x hx)),fun x hx => ?_,fun j hj hjn x hx => ?_⟩
  · rcases exp_mem.1 hx with h1 | h1
    · exact h.cl x h1
    · exact .step (h.cl _ (List.getElem_mem hn)) h1
  · have hj':j<out.length:=by omega
    rw[hget j hj'] at hx
    by_cases e:j=n
    · subst e;exact exp_mem.2 (.inr hx)
    · exact exp_mem.2 (.inl (h.shut j hj' (by omega) x hx))
theorem work_law {l0:List Item} (hw:∀ q∈l,q.2.length≤8) (hl:l.length≤40) (hT:T≤30) (h0:∀ x∈l0,RightI l T x):∀ (f n:Nat) (out:List Item),11440≤f+n→WkI l T lk l0 n out→WkI l T lk l0 (workI l T lk f n out).length (workI l T lk f n out)
  | 0,n,out,hf,h=>by
    have:=items_few hw hl hT h.nd fun x hx=>right_cl h0 (h.cl x hx)
    have:=h.le
    omega
  | f + 1,n,out,hf,h=>by
    rw[workI]
    by_cases c:n<out.length
    · rw[if_pos c,List.getD_eq_getElem?_getD,List.getElem?_eq_getElem c,Option.getD_some]
      exact work_law hw hl hT h0 f (n+1) _ (by omega) (wk_step h c)
    · rw[if_neg c]
      have:=h.le
      rw[show out.length=n by omega];exact h
theorem wk_start (l0:List Item):WkI l T lk l0 0 (firsts [] l0):=
  ⟨firsts_nodup l0 [] List.nodup_nil,Nat.zero_le _,fun x hx=>mem_firsts.2 (.inr hx),fun x hx=> .base ((mem_firsts.1 hx).resolve_left (by simp)),fun j _ h=>absurd h (Nat.not_lt_zero j)⟩
section
variable (hw:∀ q∈l,q.2.length≤8) (hl:l.length≤40) (hT:T≤30)
include hw hl hT
theorem closed_mem {l0:List Item} (h0:∀ x∈l0,RightI l T x) {x:Item}:x∈closedI l T lk l0↔Cl l T lk l0 x:=by
  unfold closedI
  rw[sort_mem]
  have h:=work_law (lk:=lk) hw hl hT h0 12000 0 _ (by omega) (wk_start l0)
  refine⟨h.cl x,fun hx => ?_⟩
  induction hx with
  | base hb=>exact h.has _ hb
  | step _ hx ih=>
    obtain⟨j,hj,rfl⟩:=List.mem_iff_getElem.1 ih
    exact h.shut j hj hj _ hx
theorem closed_ris {l0:List Item} (h0:∀ x∈l0,RightI l T x):RisI (closedI l T lk l0):=
  sort_ris (work_law (lk:=lk) hw hl hT h0 12000 0 _ (by omega) (wk_start l0)).nd
theorem closed_right {l0:List Item} (h0:∀ x∈l0,RightI l T x):∀ x∈closedI l T lk l0,RightI l T x:=fun _ hx=>right_cl h0 ((closed_mem hw hl hT h0).1 hx)
theorem closed_len {l0:List Item} (h0:∀ x∈l0,RightI l T x):(closedI l T lk l0).length≤11439:=
  items_few hw hl hT (ris_nodup (closed_ris hw hl hT h0)) (closed_right hw hl hT h0)
end
end
end Go.Proofs.Ytldiodhdefnlaaa.itemL

/- ItM -/
namespace Go.Proofs.Ytldiodhdefnlaaa.itemL
open gramL treeL smallL
def advI (it:Item):Item:=(it.1,it.2.1+1,it.2.2)
section
variable (l:List gramL.Prod) (T N:Nat) (lk:Int→Int→Nat)
def overI (s:List Item) (x:Sym):List Item:=(s.filter fun it=>decide (nextS l it=some x)).map advI
def stepI (s:List Item) (x:Sym):List Item:=closedI l T lk (overI l s x)
def symsI:List Sym:=(List.range T).map (fun n:Nat=>((1:Int),(n:Int)))++(List.range N).map (fun n:Nat=>((2:Int),(n:Int)))
def stateI (S:List (List Item)) (s:List Item):Nat×List (List Item):=if s∈S then (idx S s,S) else (S.length,S++[s])
def cellI (s:List Item) (x:Sym) (S:List (List Item)):Int×List (List Item):=if stepI l T lk s x=[] then (-1,S) else (((stateI S (stepI l T lk s x)).1:Int),(stateI S (stepI l T lk s x)).2)
def rowI (s:List Item):List Sym→List Int→List (List Item)→Option (List Int×List (List Item))
  | [],nx,S=>some (nx,S)
  | x::r,nx,S=>if 200<(cellI l T lk s x S).2.length then none else rowI s r (nx++[(cellI l T lk s x S).1]) (cellI l T lk s x S).2
def allTo:Nat→Nat→List (List Int)→List (List Item)→Option (List (List Int)×List (List Item))
  | 0,_,_,_=>none
  | f + 1,n,Nx,S=>if n<S.length then (match rowI l T lk (S.getD n []) (symsI T N) [] S with
      | none=>none
      | some (nx,S')=>allTo f (n+1) (Nx++[nx]) S') else some (Nx,S)
def startI:List Item:=closedI l T lk [((l.length:Int),0,(T:Int))]
def allI:Option (List (List Int)×List (List Item)):=allTo l T N lk 202 0 [] [startI l T lk]
end
theorem syms_len (T N:Nat):(symsI T N).length=T+N:=by unfold symsI;rw[List.length_append,List.length_map,List.length_map,List.length_range,List.length_range]
section
variable {l:List gramL.Prod} {T N:Nat} {lk:Int→Int→Nat}
theorem mem_over {s:List Item} {x:Sym} {y:Item}:y∈overI l s x↔∃ it∈s,nextS l it=some x∧y=advI it:=by
  unfold overI
  rw[List.mem_map]
  constructor
  · rintro⟨it,h,rfl⟩
    rw[List.mem_filter,decide_eq_true_eq] at h
    exact⟨it,h.1,h.2,rfl⟩
  · rintro⟨it,h1,h2,rfl⟩
    exact⟨it,List.mem_filter.2 ⟨h1,decide_eq_true h2⟩,rfl⟩
theorem over_right {s:List Item} {x:Sym} (hs:∀ it∈s,RightI l T it):∀ y∈overI l s x,RightI l T y:=by
  intro y hy
  obtain⟨it,h1,h2,rfl⟩:=mem_over.1 hy
  have hr:=hs it h1
  have hd:=(List.getElem?_eq_some_iff.1 h2).1
  unfold RightI advI at *
  dsimp only
  omega
structure SsOk (l:List gramL.Prod) (T:Nat) (lk:Int→Int→Nat) (S:List (List Item)):Prop where
  nd:S.Nodup
  right:∀ s∈S,∀ it∈s,RightI l T it
  shut:∀ s∈S,∀ it∈s,∀ x,ExpI l T lk it x→x∈s
def CellI (l:List gramL.Prod) (T:Nat) (lk:Int→Int→Nat) (S:List (List Item)) (s:List Item) (x:Sym) (c:Int):Prop:=
  (stepI l T lk s x=[]∧c = -1)∨(stepI l T lk s x≠[]∧stepI l T lk s x∈S∧c=(idx S (stepI l T lk s x):Int))
theorem CellI.app {S:List (List Item)} {s:List Item} {x:Sym} {c:Int} (h:CellI l T lk S s x c) (E:List (List Item)):CellI l T lk (S++E) s x c:=by
  rcases h with h | ⟨h1,h2,h3⟩
  · exact .inl h
  · exact .inr ⟨h1,List.mem_append_left _ h2,by rw[h3,idx_pre h2]⟩
section
variable (hw:∀ q∈l,q.2.length≤8) (hl:l.length≤40) (hT:T≤30)
include hw hl hT
omit hw hl hT in
theorem state_lawI {S:List (List Item)} (hS:SsOk l T lk S) {s:List Item} (hs:∀ it∈s,RightI l T it) (hsh:∀ it∈s,∀ x,ExpI l T lk it x→x∈s):(∃ E,(stateI S s).2=S++E)∧s∈(stateI S s).2∧(stateI S s).1=idx (stateI S s).2 s∧SsOk l T lk (stateI S s).2:=by
  unfold stateI
  by_cases c:s∈S
  · rw[if_pos c]
    exact⟨⟨[],(List.append_nil _).symm⟩,c,rfl,hS⟩
  · rw[if_neg c]
    refine⟨⟨[s],rfl⟩,List.mem_append_right _ (List.mem_singleton.2 rfl),?_,?_,?_,?_⟩
    · show S.length=idx (S++[s]) s
      have:=idx_more (D:=S) (k:=s)
      unfold more at this
      rw[if_neg c,if_neg c] at this
      exact this.symm
    · rw[List.nodup_append]
      exact⟨hS.nd,by simp,fun a ha b hb e=>by rw[List.mem_singleton.1 hb] at e;subst e;exact c ha⟩
    · intro s' hs' it hit
      rcases List.mem_append.1 hs' with h | h
      · exact hS.right s' h it hit
      · rw[List.mem_singleton.1 h] at hit;exact hs it hit
    · intro s' hs' it hit x hx
      rcases List.mem_append.1 hs' with h | h
      · exact hS.shut s' h it hit x hx
      · rw[List.mem_singleton.1 h] at hit ⊢;exact hsh it hit x hx
theorem closed_shut {l0:List Item} (h0:∀ x∈l0,RightI l T x):∀ it∈closedI l T lk l0,∀ x,ExpI l T lk it x→x∈closedI l T lk l0:=fun it hit x hx=>
  (closed_mem hw hl hT h0).2 (.step ((closed_mem hw hl hT h0).1 hit) hx)
theorem cell_lawI {S:List (List Item)} (hS:SsOk l T lk S) {s:List Item} (hs:∀ it∈s,RightI l T it) (x:Sym):(∃ E,(cellI l T lk s x S).2=S++E)∧CellI l T lk (cellI l T lk s x S).2 s x (cellI l T lk s x S).1∧SsOk l T lk (cellI l T lk s x S).2:=by
  unfold cellI
  by_cases c:stepI l T lk s x=[]
  · rw[if_pos c]
    exact⟨⟨[],(List.append_nil _).symm⟩,.inl ⟨c,rfl⟩,hS⟩
  · rw[if_neg c]
    obtain⟨h1,h2,h3,h4⟩:=state_lawI hS (closed_right (lk:=lk) hw hl hT (over_right (x:=x) hs)) (closed_shut hw hl hT (over_right (x:=x) hs))
    exact⟨h1,.inr ⟨c,h2,congrArg _ h3⟩,h4⟩
theorem row_lawI {s:List Item} (hs:∀ it∈s,RightI l T it):∀ (xs:List Sym) (nx:List Int) (S:List (List Item)) (done:List Sym) (nx':List Int) (S':List (List Item)),SsOk l T lk S→rowI l T lk s xs nx S=some (nx',S')→S.length≤200→nx.length=done.length→(∀ k x,done[k]?=some x→CellI l T lk S s x (nx.getD k 0))→
    (∃ E,S'=S++E)∧SsOk l T lk S'∧S'.length≤200∧nx'.length=(done++xs).length∧∀ k x,(done++xs)[k]?=some x→CellI l T lk S' s x (nx'.getD k 0)
  | [],nx,S,done,nx',S',hS,h,h200,hlen,hd=>by
    simp only[rowI,Option.some.injEq,Prod.mk.injEq] at h
    obtain⟨rfl,rfl⟩:=h
    rw[List.append_nil]
    exact⟨⟨[],(List.append_nil _).symm⟩,hS,h200,hlen,hd⟩
  | x :: xs,nx,S,done,nx',S',hS,h,h200,hlen,hd=>by
    rw[rowI] at h
    by_cases c:200<(cellI l T lk s x S).2.length
    · rw[if_pos c] at h;cases h
    · rw[if_neg c] at h
      obtain⟨⟨E,h1⟩,h2,h3⟩:=cell_lawI (lk:=lk) hw hl hT hS hs x
      obtain⟨⟨E2,q1⟩,q2,q3,q4,q5⟩:=row_lawI hs xs (nx++[(cellI l T lk s x S).1]) _ (done++[x]) nx' S' h3 h (by omega) (by rw[List.length_append,List.length_append,hlen];rfl) (fun k y hk=>by
        by_cases ek:k<done.length
        · rw[List.getElem?_append_left ek] at hk
          rw[getD_left (by omega),h1]
          exact (hd k y hk).app E
        · have hk':=(List.getElem?_eq_some_iff.1 hk).1
          rw[List.length_append,List.length_singleton] at hk'
          obtain rfl:k=done.length:=by omega
          rw[List.getElem?_append_right (Nat.le_refl _),Nat.sub_self] at hk
          simp only[List.getElem?_cons_zero,Option.some.injEq] at hk
          subst hk
          rw[getD_right (by omega),hlen,Nat.sub_self]
          exact h2)
      rw[List.append_assoc,List.singleton_append] at q4 q5
      exact⟨⟨E++E2,by rw[q1,h1,List.append_assoc]⟩,q2,q3,q4,q5⟩
structure AllI (l:List gramL.Prod) (T N:Nat) (lk:Int→Int→Nat) (n:Nat) (Nx:List (List Int)) (S:List (List Item)):Prop where
  ss:SsOk l T lk S
  few:S.length≤200
  le:n≤S.length
  len:Nx.length=n
  start:S[0]?=some (startI l T lk)
  wide:∀ q,q<n→(Nx.getD q []).length=T+N
  cell:∀ q,q<n→∀ k x,(symsI T N)[k]?=some x→CellI l T lk S (S.getD q []) x ((Nx.getD q []).getD k 0)
theorem all_lawI:∀ (f n:Nat) (Nx:List (List Int)) (S:List (List Item)) (Nx':List (List Int)) (S':List (List Item)),allTo l T N lk f n Nx S=some (Nx',S')→AllI l T N lk n Nx S→AllI l T N lk S'.length Nx' S'
  | 0,_,_,_,_,_,h,_=>by cases h
  | f + 1,n,Nx,S,Nx',S',h,hi=>by
    rw[allTo] at h
    by_cases c:n<S.length
    · rw[if_pos c] at h
      have hget:S.getD n []=S[n]:=by rw[List.getD_eq_getElem?_getD,List.getElem?_eq_getElem c];rfl
      have hs:∀ it∈S.getD n [],RightI l T it:=by rw[hget];exact hi.ss.right _ (List.getElem_mem c)
      cases e:rowI l T lk (S.getD n []) (symsI T N) [] S with
      | none=>rw[e] at h;cases h
      | some r=>
        obtain⟨nx,S1⟩:=r
        rw[e] at h
        dsimp only at h
        obtain⟨⟨E,q1⟩,q2,q3,q4,q5⟩:=row_lawI (lk:=lk) hw hl hT hs (symsI T N) [] S [] nx S1 hi.ss e hi.few rfl (fun k x hk=>by simp at hk)
        rw[List.nil_append] at q4 q5
        have hlen:=congrArg List.length q1
        rw[List.length_append] at hlen
        refine all_lawI f (n+1) _ S1 Nx' S' h ⟨q2,q3,by omega,by rw[List.length_append,hi.len];rfl,?_,fun q hq => ?_,fun q hq k x hk => ?_⟩
        · rw[q1,List.getElem?_append_left (by have:=(List.getElem?_eq_some_iff.1 hi.start).1;omega)];exact hi.start
        · by_cases eq:q=n
          · subst eq
            rw[getD_right (by rw[hi.len];exact Nat.le_refl _),hi.len,Nat.sub_self]
            show nx.length=T+N
            rw[q4,syms_len]
          · rw[getD_left (by rw[hi.len];omega)];exact hi.wide q (by omega)
        · by_cases eq:q=n
          · subst eq
            rw[getD_right (by rw[hi.len];exact Nat.le_refl _),hi.len,Nat.sub_self]
            have e1:S1.getD q []=S.getD q []:=by rw[q1,getD_left c]
            rw[e1]
            exact q5 k x hk
          · rw[getD_left (by rw[hi.len];omega)]
            have e1:S1.getD q []=S.getD q []:=by rw[q1,getD_left (by omega)]
            rw[e1,q1]
            exact (hi.cell q (by omega) k x hk).app E
    · rw[if_neg c] at h
      simp only[Option.some.injEq,Prod.mk.injEq] at h
      obtain⟨rfl,rfl⟩:=h
      have:n=S.length:=by have:=hi.le;omega
      rw[←this];exact hi
omit hw in
theorem start_right:∀ x∈[(((l.length:Int),0,(T:Int)):Item)],RightI l T x:=by
  intro x hx
  rw[List.mem_singleton.1 hx]
  exact⟨by dsimp only;omega,Int.le_refl _,Int.le_refl _,by dsimp only;omega,by dsimp only;omega,Int.le_refl _⟩
theorem allI_law {Nx:List (List Int)} {S:List (List Item)} (h:allI l T N lk=some (Nx,S)):AllI l T N lk S.length Nx S:=
  all_lawI hw hl hT 202 0 [] [startI l T lk] Nx S h
    ⟨⟨by simp,fun s hs it hit=>by rw[List.mem_singleton.1 hs] at hit;exact closed_right (lk:=lk) hw hl hT (start_right hl hT) it hit,fun s hs it hit x hx=>by rw[List.mem_singleton.1 hs] at hit ⊢;exact closed_shut hw hl hT (start_right hl hT) it hit x hx⟩,by simp,Nat.zero_le _,rfl,rfl,fun q hq=>absurd hq (Nat.not_lt_zero q),fun q hq=>absurd hq (Nat.not_lt_zero q)⟩
end
end
def nameI (s:List Item):List UInt8:=s.flatMap fun it=>[UInt8.ofNat it.1.toNat,UInt8.ofNat it.2.1.toNat,UInt8.ofNat it.2.2.toNat]
theorem u8_inj {a b:Int} (ha:0≤a∧a<256) (hb:0≤b∧b<256) (h:UInt8.ofNat a.toNat=UInt8.ofNat b.toNat):a=b:=by
  have:=congrArg UInt8.toNat h
  rw[UInt8.toNat_ofNat',UInt8.toNat_ofNat'] at this
  omega
theorem name_inj:∀ {s s':List Item},(∀ it∈s,0≤it.1∧it.1<256∧0≤it.2.1∧it.2.1<256∧0≤it.2.2∧it.2.2<256)→(∀ it∈s',0≤it.1∧it.1<256∧0≤it.2.1∧it.2.1<256∧0≤it.2.2∧it.2.2<256)→nameI s=nameI s'→s=s'
  | [],[],_,_,_=>rfl
  | [],b::s',_,_,h=>by simp[nameI] at h
  | a::s,[],_,_,h=>by simp[nameI] at h
  | a :: s,b::s',h1,h2,h=>by
    have ha:=h1 a (List.mem_cons_self ..)
    have hb:=h2 b (List.mem_cons_self ..)
    unfold nameI at h
    rw[List.flatMap_cons,List.flatMap_cons] at h
    simp only[List.cons_append,List.nil_append,List.cons.injEq] at h
    obtain⟨e1,e2,e3,e4⟩:=h
    have e1:=u8_inj ⟨ha.1,ha.2.1⟩ ⟨hb.1,hb.2.1⟩ e1
    have e2:=u8_inj ⟨ha.2.2.1,ha.2.2.2.1⟩ ⟨hb.2.2.1,hb.2.2.2.1⟩ e2
    have e3:=u8_inj ⟨ha.2.2.2.2.1,ha.2.2.2.2.2⟩ ⟨hb.2.2.2.2.1,hb.2.2.2.2.2⟩ e3
    have e:a=b:=by
      obtain⟨a1,a2,a3⟩:=a
      obtain⟨b1,b2,b3⟩:=b
      simp only at e1 e2 e3
      rw[e1,e2,e3]
    rw[e,name_inj (fun it hit=>h1 it (List.mem_cons_of_mem _ hit)) (fun it hit=>h2 it (List.mem_cons_of_mem _ hit)) e4]
end Go.Proofs.Ytldiodhdefnlaaa.itemL

/- LrL -/
namespace Go.Proofs.Ytldiodhdefnlaaa.itemL
open gramL treeL countL factsL smallL
open llL (colAt)
abbrev Act:=Int×Int
section
variable (l:List gramL.Prod) (T:Nat)
def actOf (c:Nat) (it:Item):Option Act:=if it.2.2≠(c:Int) then none else if it.1=(l.length:Int)∧it.2.1=1 then some (3,0) else if it.1<(l.length:Int)∧it.2.1=((prodAt l it.1).2.length:Int) then some (2,it.1) else none
def actsI (s:List Item) (nx:List Int) (c:Nat):List Act:=(if c<T∧0≤nx.getD c 0 then [(1,nx.getD c 0)] else [])++s.filterMap (actOf l c)
end
section
variable (l:List gramL.Prod) (T:Nat) (Nx:List (List Int)) (S:List (List Item))
def actAt (q c:Nat):Act:=(actsI l T (S.getD q []) (Nx.getD q []) c).headD (0,0)
def goTo (q:Nat) (n:Int):Int:=(Nx.getD q []).getD (T+n.toNat) 0
inductive LRun (w:List Int):List Nat→Nat→List Sym→List Nat→Nat→Prop
  | nil {σ:List Nat} {a:Nat}:LRun w σ a [] σ a
  | shift {q s:Nat} {σ σ':List Nat} {a a':Nat} {E:List Sym} (ha:a<w.length) (h:actAt l T Nx S q (colAt T w a)=(1,(s:Int))) (hr:LRun w (s::q::σ) (a+1) E σ' a'):LRun w (q::σ) a ((2,(a:Int))::E) σ' a'
  | reduce {q r tq:Nat} {p:Int} {σ ρ σ':List Nat} {a a':Nat} {E:List Sym} (h:actAt l T Nx S q (colAt T w a)=(2,p)) (hd:(q::σ).drop (prodAt l p).2.length=r::ρ) (hg:goTo T Nx r (prodAt l p).1=(tq:Int)) (hr:LRun w (tq::r::ρ) a E σ' a'):LRun w (q::σ) a ((4,p)::E) σ' a'
end
section
variable {l:List gramL.Prod} {T N:Nat} {lk:Int→Int→Nat} {Nx:List (List Int)} {S:List (List Item)} {w:List Int}
theorem LRun.app {σ σ1 σ2:List Nat} {a a1 a2:Nat} {E E2:List Sym} (h:LRun l T Nx S w σ a E σ1 a1) (h2:LRun l T Nx S w σ1 a1 E2 σ2 a2):LRun l T Nx S w σ a (E++E2) σ2 a2:=by
  induction h with
  | nil=>exact h2
  | shift ha h _ ih=>exact .shift ha h (ih h2)
  | reduce h hd hg _ ih=>exact .reduce h hd hg (ih h2)
section
end
section
end
end
end Go.Proofs.Ytldiodhdefnlaaa.itemL

/- ItB -/
namespace Go.Proofs.Ytldiodhdefnlaaa.eng
open Go.RowKit kit mix gramL treeL factsL itemL
def itC (x:itemL.Item):List Value:=[.int .i64 x.1,.int .i64 x.2.1,.int .i64 x.2.2]
theorem itC_len (x:itemL.Item):(itC x).length=3:=rfl
def bodO (x:Option Nat):Own:=match x with
  | some g=>blkO g #[.int .i64 2,.int .i64 0] 112
  | none=>⟨none,fun _=>False,fun _=>True,fun _ _ k h=>by rcases h with h | h;cases h;exact h.elim,fun _ _ _ _ _=>trivial⟩
def bodV (vb:Nat→Value) (n:Nat) (x:Option Nat):Value:=match x with
  | some g=> .slice (some ⟨g,0,none⟩) 1 1
  | none=>vb n
def BodR (F:Nat→Prop) (w:World) (vb:Nat→Value) (l:List gramL.Prod):Prop:=∀ i,i<l.length→SlF symS F w (vb i) (prodAt l (i:Int)).2
def bodyS (vb:Nat→Value) (n P:Nat):Spec (Option Nat):=⟨fun x=>x.isSome=decide (n=P),fun x=>bodV vb n x,fun x=>[bodO x]⟩
theorem prods_vb {F:Nat→Prop} {w:World} {vp:Value} {l:List gramL.Prod} (h:SlF prodS F w vp l):∃ (vb:Nat→Value) (bp:Option Addr) (cp:Nat),vp = .slice bp l.length cp∧l.length≤cp∧cp≤maxLen∧BodR F w vb l∧(0<l.length→∃ b off,bp=some ⟨b,off,none⟩∧F b∧∀ i,i<l.length→Rd w b (off+i*2) [.int .i64 (prodAt l (i:Int)).1,vb i]∧kit.okI64 (prodAt l (i:Int)).1):=by
  obtain⟨bp,cp,rfl,h1,h2,h3⟩:=h
  by_cases h0:0<l.length
  · obtain⟨b,off,rfl,hF,hr⟩:=h3 h0
    have key:∀ i:Nat,∃ v:Value,i<l.length→SlF symS F w v (prodAt l (i:Int)).2∧Rd w b (off+i*2) [.int .i64 (prodAt l (i:Int)).1,v]∧kit.okI64 (prodAt l (i:Int)).1:=fun i=>by
      by_cases hi:i<l.length
      · obtain⟨base,cap,q1,q2,q3⟩:=prod_at hr hi
        have e:prodAt l (i:Int)=l[i]:=by unfold prodAt;rw[Int.toNat_natCast,List.getD_eq_getElem?_getD,List.getElem?_eq_getElem hi];rfl
        exact⟨_,fun _=>by rw[e];exact⟨q3,q1,q2⟩⟩
      · exact⟨undef,fun h=>absurd h hi⟩
    refine⟨fun i=>Classical.choose (key i),some ⟨b,off,none⟩,cp,rfl,h1,h2,fun i hi=>(Classical.choose_spec (key i) hi).1,fun _=>⟨b,off,rfl,hF,fun i hi=>(Classical.choose_spec (key i) hi).2⟩⟩
  · exact⟨fun _=>undef,bp,cp,rfl,h1,h2,fun i hi=>absurd hi (by omega),fun h=>absurd h h0⟩
theorem E_none {n:Nat} {W:Base} {e:Exit} {Q:Exit→Act→World→Prop} {fr:Fr} {L:List Own} (h:E n W e Q fr (L++[bodO none])):E n W e Q fr L:=⟨fun a w hr hm=>h.go a w hr ⟨hm.low,OwnsP.both hm.owns (OwnsP.one trivial fun k hk=>by rcases hk with hk | hk;cases hk;exact hk.elim) fun i j o o' _ hj k _ hk=>by
  match j,hj with
  | 0,hj=>
    simp only[List.getElem?_cons_zero,Option.some.injEq] at hj;subst hj
    rcases hk with hk | hk
    · cases hk
    · exact hk.elim
  | j+1,hj=>simp at hj⟩⟩
theorem build_symW (w:World):(Instr.build 112 #[(0,.int .i64 2),(1,.int .i64 0)]).run Try.prog w = .ok (.agg #[.int .i64 2,.int .i64 0]) w:=by kernel_rfl
set_option maxHeartbeats 4000000 in
theorem itBody_calls (t n:Int) (bp:Option Addr) (cp:Nat) (l:List gramL.Prod) (vb:Nat→Value) (w0 w:World) (B:Base) (k:Nat) (hk:k≤l.length) (ho:Old w0 B) (hm:Mem B [] w) (hvb:∀ i,i<l.length→∃ bb m cc,vb i = .slice bb m cc)
    (hr:0<l.length→∃ b off,bp=some ⟨b,off,none⟩∧∀ i,i<l.length→Rd w0 b (off+i*2) [.int .i64 (prodAt l (i:Int)).1,vb i]) :
    Calls Try.prog 62 #[graV t n (.slice bp l.length cp),.int .i64 (k:Int)] w (Meets (bodyS vb k l.length) w):=by
  have hb:=build_symW
  have hr:∀ i,i<l.length→∃ b off,bp=some ⟨b,off,none⟩∧Rd w b (off+i*2) [.int .i64 (prodAt l (i:Int)).1,vb i]:=fun i hi=>by
    obtain⟨b,off,q1,q2⟩:=hr (by omega)
    exact⟨b,off,q1,fun j u hj=>ho.cell hm (q2 i hi j u hj)⟩
  clear hm ho
  refine enter (args:=[graV t n (.slice bp l.length cp),.int .i64 (k:Int)]) (n:=18) Try.func62 rfl rfl rfl ?_
  refine T_seq (T_region (TL_box rfl rfl rfl fun g2 => ?_))
  conv=>arg 8;simp only[zA,zB,zC,zD,zE,zF,zG,zH,zI,rowS,ret,id_eq]
  by_cases c:k=l.length
  · subst c
    repeat(first|refine GC ?_|refine gV (rr_load1 (v:= .slice bp l.length cp) TyC.ty rfl (at_blk (i:=0) rfl rfl)) ?_|refine gV (rr_eql (b:=true) rfl rfl (decide_eq_true rfl)) ?_|refine gV (rr_build rfl hb) ?_|refine GB ?_)
    refine TL_litN (cs:=#[.int .i64 2,.int .i64 0]) [.agg #[.int .i64 2,.int .i64 0]] rfl rfl rfl (by intro v hv;simp at hv;subst hv;rfl) rfl rfl rfl fun g11 => ?_
    conv=>arg 8;simp only[zA,zB,zC,zD,zE,zF,zG,zH,zI,rowS,ret,id_eq]
    try refine GA ?_
    exact E_ret1 rfl rfl fun w hm=>hm.meets (S:=bodyS vb l.length l.length) (some g11) (by show true=decide (l.length=l.length);rw[decide_eq_true rfl]) [1] (by decide) rfl
  · obtain⟨b,off,rfl,hrd⟩:=hr k (by omega)
    obtain⟨bb,m,cc,hv⟩:=hvb k (by omega)
    have hat:∀ (L:List Own),At w L ⟨b,off+k*2+1,none⟩ (vb k):=fun L=>at_rd hrd (j:=1) rfl
    have hlt:k<l.length:=by omega
    repeat(first|refine GC ?_|refine gV (rr_load1 (v:= .slice (some ⟨b,off,none⟩) l.length cp) TyC.ty rfl (at_blk (i:=0) rfl rfl)) ?_|refine gV (rr_eql (b:=false) rfl rfl (decide_eq_false (by omega))) ?_|refine gV (rr_idxc (j:=k) Und.eq TyC.ty rfl rfl hlt) ?_|refine gV (rr_load1 (v:=vb k) TyC.ty rfl (hat _)) ?_|refine GB ?_)
    refine E_none ?_
    exact E_ret1 rfl rfl fun w hm=>hm.meets (S:=bodyS vb k l.length) none (by show false=decide (k=l.length);rw[decide_eq_false c]) [1] (by decide) rfl
end Go.Proofs.Ytldiodhdefnlaaa.eng

/- ItC -/
namespace Go.Proofs.Ytldiodhdefnlaaa.eng
open Go.RowKit kit mix gramL treeL factsL itemL
abbrev RK:=Int×Int
def rkV (x:RK):Value:= .agg #[.int .i64 x.1,.int .i64 x.2]
set_option maxRecDepth 100000 in
theorem rk_key (p:RK) (h:kit.okI64 p.1∧kit.okI64 p.2):∃ l,keyOf Try.prog 187 (rkV p)=some l:=by
  have e1:Try.prog.cellsOf 187 = 2:=by kernel_rfl
  have e3:Try.prog.cellsOf 3 = 1:=by kernel_rfl
  refine key_ex (cs:=[.int .i64 p.1,.int .i64 p.2]) (m:=2) (by kernel_rfl) (by kernel_rfl) (by rw[e1];rfl) (trySize 2 (by kernel_rfl)) fun d => ?_
  refine kl_struct (d:=d+1) Try.underlying187 (by rw[e1];rfl) (by kernel_rfl) fun f hf => ?_
  simp only[List.mem_cons,List.not_mem_nil,or_false] at hf
  rcases hf with rfl | rfl
  · rw[e3]
    exact kl_int Try.underlying3 h.1.1 h.1.2
  · rw[e3]
    exact kl_int Try.underlying3 h.2.1 h.2.2
theorem rkRow:(187 : TypeId)<Try.prog.types.size:=of_decide_eq_true (by kernel_rfl)
set_option maxRecDepth 100000 in
def restK:KeyT Try.prog 187 RK where
  kv:=rkV
  ok p:=kit.okI64 p.1∧kit.okI64 p.2
  law:=deep_law_laid tryLaid (m:=2) (by omega) rkRow (by kernel_rfl) (by kernel_rfl)
  key x h:=rk_key x h
  inj x y h:=by
    simp only[rkV,Value.agg.injEq,Array.mk.injEq,List.cons.injEq,Value.int.injEq,true_and,and_true] at h
    exact Prod.ext h.1 h.2
set_option maxRecDepth 100000 in
theorem it_key (p:itemL.Item) (h:kit.okI64 p.1∧kit.okI64 p.2.1∧kit.okI64 p.2.2):∃ l,keyOf Try.prog 153 (.agg (itC p).toArray)=some l:=by
  have e1:Try.prog.cellsOf 153 = 3:=by kernel_rfl
  have e3:Try.prog.cellsOf 3 = 1:=by kernel_rfl
  refine key_ex (cs:=itC p) (m:=2) (by kernel_rfl) (by kernel_rfl) (by rw[e1];rfl) (trySize 2 (by kernel_rfl)) fun d => ?_
  refine kl_struct (d:=d+1) Try.underlying153 (by rw[e1];rfl) (by kernel_rfl) fun f hf => ?_
  simp only[List.mem_cons,List.not_mem_nil,or_false] at hf
  rcases hf with rfl | rfl | rfl
  · rw[e3]
    exact kl_int Try.underlying3 h.1.1 h.1.2
  · rw[e3]
    exact kl_int Try.underlying3 h.2.1.1 h.2.1.2
  · rw[e3]
    exact kl_int Try.underlying3 h.2.2.1 h.2.2.2
theorem itRow:(153 : TypeId)<Try.prog.types.size:=of_decide_eq_true (by kernel_rfl)
set_option maxRecDepth 100000 in
def itK:KeyT Try.prog 153 itemL.Item where
  kv x:= .agg (itC x).toArray
  ok p:=kit.okI64 p.1∧kit.okI64 p.2.1∧kit.okI64 p.2.2
  law:=deep_law_laid tryLaid (m:=2) (by omega) itRow (by kernel_rfl) (by kernel_rfl)
  key x h:=it_key x h
  inj x y h:=by
    simp only[itC,Value.agg.injEq,Array.mk.injEq,List.cons.injEq,Value.int.injEq,true_and,and_true] at h
    exact Prod.ext h.1 (Prod.ext h.2.1 h.2.2)
theorem rk_ok {a b:Nat} (ha:a≤9223372036854775807) (hb:b≤9223372036854775807):restK.ok ((a:Int),(b:Int)):=by
  show kit.okI64 (a:Int)∧kit.okI64 (b:Int)
  exact⟨⟨by omega,by omega⟩,⟨by omega,by omega⟩⟩
theorem zero_u64 (w:World):(zeroValue 64).run Try.prog w = .ok (.int .u64 0) w:=by kernel_rfl
theorem zero_i64 (w:World):(zeroValue 3).run Try.prog w = .ok (.int .i64 0) w:=by kernel_rfl
theorem bits_andnX {x:Nat} (hx:x<18446744073709551616) (h:x.testBit 62=true):bits .andNot .u64 (x:Int) 4611686018427387904=((x ^^^ 2 ^ 62:Nat):Int):=by
  have e0:(4611686018427387904:Int)=((2 ^ 62:Nat):Int):=by decide
  rw[e0]
  show IntKind.u64.wrap ((BitVec.ofInt 64 (x:Int) &&& ~~~ BitVec.ofInt 64 ((2 ^ 62:Nat):Int)).toNat:Int)=_
  have hlt:x ^^^ 2 ^ 62<2 ^ 64:=Nat.xor_lt_two_pow hx (by decide)
  have e:BitVec.ofInt 64 (x:Int) &&& ~~~ BitVec.ofInt 64 ((2 ^ 62:Nat):Int)=BitVec.ofNat 64 (x ^^^ 2 ^ 62):=by
    rw[BitVec.ofInt_natCast,BitVec.ofInt_natCast]
    ext i hi
    simp only[BitVec.getElem_and,BitVec.getElem_not]
    rw[←BitVec.getLsbD_eq_getElem,←BitVec.getLsbD_eq_getElem,←BitVec.getLsbD_eq_getElem,BitVec.getLsbD_ofNat,BitVec.getLsbD_ofNat,BitVec.getLsbD_ofNat]
    simp only[hi,decide_true,Bool.true_and,Nat.testBit_xor,Nat.testBit_two_pow]
    by_cases e:62=i
    · subst e;rw[h];decide
    · rw[decide_eq_false e];simp
  rw[e,BitVec.toNat_ofNat,Nat.mod_eq_of_lt hlt,IntKind.wrap_u64]
  omega
theorem shrU2 {P:Program} (x j b:Nat) (k k':IntKind) (hb:k.bits=b) (hj:j≤b) (w:World):(Op.shift .shr k (x:Int) k' (j:Int)).run P w = .ok (.int k ((x / 2 ^ j:Nat):Int)) w:=by
  have e:min j b=j:=by omega
  have h0:¬ ((j:Int)<0):=by omega
  have e2:(x:Int).fdiv (2 ^ j)=((x / 2 ^ j:Nat):Int):=by
    rw[Int.fdiv_eq_ediv_of_nonneg _ (by have:(0:Int)<2 ^ j:=Int.pow_pos (by decide);omega)]
    simp
  simp only[Op.shift,if_neg h0,hb,Int.toNat_natCast,e,e2,Sem.run_pure]
theorem and1 {y:Nat} (hy:y<18446744073709551616):bits .and .u64 (y:Int) 1=((y % 2:Nat):Int):=by
  have h:=bits_nat .u64 64 (by decide) (fun n h0 h1=>by rw[IntKind.wrap_u64];omega) y 1 (by simpa using hy) (by decide)
  rw[Nat.and_one_is_mod] at h
  exact h.1
theorem bit_dec (x k:Nat):x.testBit k=decide (x / 2 ^ k % 2=1):=Nat.testBit_eq_decide_div_mod_eq ..
def lkG (g:Gram) (p d:Int):Nat:=begV g ((bodyI g.prods p).drop (d.toNat+1)) 4611686018427387904
theorem begV_lt {g:Gram} {body:List Sym} {behind:Nat} (hb:behind<18446744073709551616):begV g body behind<18446744073709551616:=by
  unfold begV
  by_cases c:begE g body=0
  · rw[if_pos c]
    have hg:checkG g=0:=by
      unfold begE at c
      by_cases c2:checkG g=0
      · exact c2
      · rw[if_pos c2] at c;exact c
    have h60:¬ 60<body.length:=fun h=>by
      unfold begE at c
      rw[if_neg (by simpa using hg),if_pos h] at c;cases c
    have hbad:badE g.terms g.nons body=0:=by
      unfold begE at c
      rw[if_neg (by simpa using hg),if_neg h60] at c;exact c
    have hn:=(checkG_ok hg).2.2.1
    have ht:=(checkG_ok hg).2.1
    refine beginF_lt (ofW_ok hg (n:=g.nons.toNat) (by omega)).2 hb fun x hx h1 => ?_
    rcases right_cases (badE_ok hbad x hx) with h | h
    · omega
    · omega
  · rw[if_neg c];decide
def opC (t n:Int) (vp:Value) (gm:Nat):List Value:=[.int .i64 t,.int .i64 n,vp,.map (some gm)]
def CacheOk (lk:Int→Int→Nat) (f:RK→Option Value):Prop:=∀ x v,f x=some v→v=bitV (lk x.1 x.2)
theorem build_rest (a b:Int) (w:World):(Instr.build 187 #[(0,.int .i64 a),(1,.int .i64 b)]).run Try.prog w = .ok (.agg #[.int .i64 a,.int .i64 b]) w:=by go_simp
theorem CacheOk.put {lk:Int→Int→Nat} {f:RK→Option Value} (h:CacheOk lk f) (x:RK):CacheOk lk (fun y=>if y=x then some (bitV (lk x.1 x.2)) else f y):=by
  intro y v hv
  dsimp only at hv
  by_cases c:y=x
  · rw[if_pos c] at hv
    cases hv;rw[c]
  · rw[if_neg c] at hv;exact h y v hv
theorem SymC_len (a:Sym):(symC a).length=2:=rfl
theorem op_gram {t n:Int} {vp v:Value} {gm j:Nat} (h:[.int .i64 t,.int .i64 n,vp][j]?=some v):(opC t n vp gm).toArray[0+j]?=some v:=by
  rw[Nat.zero_add]
  match j,h with
  | 0,h=>exact h
  | 1,h=>exact h
  | 2,h=>exact h
theorem body_slL {l:List gramL.Prod} {w0:World} {W:Base} {L:List Own} {vb:Nat→Value} {k i:Nat} {x:Option Nat} (ho:Old w0 W) (hv:BodR (fun q=>q<w0.heap.size) w0 vb l) (hk:k≤l.length) (hx:x.isSome=decide (k=l.length)) (hi:L[i]?=some (bodO x)):∃ b c,bodV vb k x = .slice b (bodyI l (k:Int)).length c∧(bodyI l (k:Int)).length≤c∧SlL W L (bodV vb k x) (bodyI l (k:Int)).length ((bodyI l (k:Int)).flatMap symC):=by
  cases x with
  | some g=>
    have hk:k=l.length:=by simpa using hx
    subst hk
    have e:bodyI l (l.length:Int)=[(2,0)]:=by unfold bodyI;rw[if_pos rfl]
    rw[e]
    exact⟨_,_,rfl,Nat.le_refl _,sl_blk hi (fun j u h=>by simpa[symC] using h) (Nat.le_refl _) (by decide)⟩
  | none=>
    have hk':k<l.length:=by
      have:¬ k=l.length:=by simpa using hx
      omega
    have e:bodyI l (k:Int)=(prodAt l (k:Int)).2:=by unfold bodyI;rw[if_neg (by omega)]
    rw[e]
    have h:=hv k hk'
    have hs:=h.flat (f:=symC) (by decide)
    obtain⟨b,c,e2,e3,_⟩:=id h
    exact⟨b,c,e2,e3,fun w hm=>hs.gr (ho.mem hm)⟩
attribute [local irreducible] Op.shift Go.bits in
set_option maxHeartbeats 8000000 in
theorem looks_calls (g:Gram) (hg:checkG g=0) (bp:Option Addr) (cp:Nat) (vb:Nat→Value) (w0:World) (hG:GraR (fun q=>q<w0.heap.size) w0 (graV g.terms g.nons (.slice bp g.prods.length cp)) g) (hvb:BodR (fun q=>q<w0.heap.size) w0 vb g.prods) (hrp:0<g.prods.length→∃ b off,bp=some ⟨b,off,none⟩∧∀ i,i<g.prods.length→Rd w0 b (off+i*2) [.int .i64 (prodAt g.prods (i:Int)).1,vb i])
    (go gm c:Nat) (f:RK→Option Value) (it:itemL.Item) (T:Nat) (hT:T≤30) (hr:RightI g.prods T it) (hd:it.2.1.toNat<(bodyI g.prods it.1).length) (hc:CacheOk (lkG g) f) (hcc:c≤1000000000000000) (w:World) (B:Base) (ho:Old w0 B)
    (hm:Mem B [blkO go (opC g.terms g.nons (.slice bp g.prods.length cp) gm).toArray 173,mapO restK gm f c] w) :
    Calls Try.prog 63 #[.pointer (some ⟨go,0,none⟩),.agg (itC it).toArray] w (MeetsB ⟨fun (x:(RK→Option Value)×Nat)=>CacheOk (lkG g) x.1∧x.2≤c+1,fun _=>bitV (looksI (lkG g) it),fun x=>[blkO go (opC g.terms g.nons (.slice bp g.prods.length cp) gm).toArray 173,mapO restK gm x.1 x.2]⟩ B):=by
  obtain⟨p,d,lo⟩:=it
  obtain⟨r1,r2,r3,r4,r5,r6⟩:=hr
  dsimp only at r1 r2 r3 r4 r5 r6 hd
  obtain⟨k,rfl⟩:=Int.eq_ofNat_of_zero_le r1
  obtain⟨dn,rfl⟩:=Int.eq_ofNat_of_zero_le r3
  obtain⟨ln,rfl⟩:=Int.eq_ofNat_of_zero_le r5
  rw[Int.toNat_natCast] at hd
  have hk:k≤g.prods.length:=by omega
  have hbd:=fun w' (hm':Mem B [] w')=>itBody_calls g.terms g.nons bp cp g.prods vb w0 w' B k hk ho hm' (fun i hi=>let ⟨b,c,h,_⟩:=hvb i hi;⟨b,_,c,h⟩) hrp
  have hbg:=fun vs body w' (hm':Gr w0 w') hs=>factsBegin_calls _ vs g body 4611686018427387904 w' (hG.gr hm') hs (by decide)
  have hbr:=build_rest (k:Int) (dn:Int)
  have hlt:lkG g (k:Int) (dn:Int)<18446744073709551616:=begV_lt (by decide)
  have hb8:=body_len (l:=g.prods) (p:=(k:Int)) (fun q hq=>((checkG_ok hg).2.2.2.2.2 q hq).1)
  refine enterB hm (args:=[.pointer (some ⟨go,0,none⟩),.agg (itC ((k:Int),(dn:Int),(ln:Int))).toArray]) (n:=61) Try.func63 rfl rfl rfl ?_
  refine T_seq (T_region (TL_box rfl rfl rfl fun g3 => ?_))
  conv=>arg 8;simp only[zA,zB,zC,zD,zE,zF,zG,zH,zI,rowS,ret,id_eq]
  repeat(first|refine GA ?_|refine gV (rr_load1 (v:= .int .i64 (k:Int)) TyC.ty rfl (at_blk (i:=2) rfl rfl)) ?_|refine gV (rr_load1 (v:= .int .i64 (dn:Int)) TyC.ty rfl (at_blk (i:=2) rfl rfl)) ?_|refine gV (rr_build rfl hbr) ?_)
  refine TL_new rfl fun g5 => ?_
  conv=>arg 8;simp only[zA,zB,zC,zD,zE,zF,zG,zH,zI,rowS,ret,id_eq]
  refine TL_storeB (i:=3) (cs':=#[.int .i64 (k:Int),.int .i64 (dn:Int)]) rfl rfl rfl rfl rfl rfl ?_
  conv=>arg 8;simp only[zA,zB,zC,zD,zE,zF,zG,zH,zI,rowS,ret,id_eq]
  have hrk:restK.ok ((k:Int),(dn:Int)):=rk_ok (by have:=(checkG_ok hg).2.2.2.2.1;omega) (by omega)
  have hrk:restK.ok ((k:Int),(dn:Int)):=rk_ok (by have:=(checkG_ok hg).2.2.2.2.1;omega) (by omega)
  have hrk:restK.ok ((k:Int),(dn:Int)):=rk_ok (by have:=(checkG_ok hg).2.2.2.2.1;omega) (by omega)
  have hrk:restK.ok ((k:Int),(dn:Int)):=rk_ok (by have:=(checkG_ok hg).2.2.2.2.1;omega) (by omega)
  have hcp:=hc.put ((k:Int),(dn:Int))
  have hlk:lkG g (k:Int) (dn:Int)=begV g ((bodyI g.prods (k:Int)).drop (dn+1)) 4611686018427387904:=by unfold lkG;rw[Int.toNat_natCast]
  have hc1:=hc ((k:Int),(dn:Int))
  dsimp only at hcp hc1
  unfold looksI
  dsimp only
  rw[Int.toNat_natCast]
  generalize hB0:lkG g (k:Int) (dn:Int)=B0 at *
  try refine GA ?_
  cases hf:f ((k:Int),(dn:Int)) with
  | some v=>
    have hv:=hc1 v hf
    subst hv
    clear hbd hbg hcp hc1
    refine T_ord ([blkO go (opC g.terms g.nons (.slice bp g.prods.length cp) gm).toArray 173,mapO restK gm f c,blkO g3 (Value.agg (itC ((k:Int),(dn:Int),(ln:Int))).toArray).cells 153,blkO g5 #[.int .i64 (k:Int),.int .i64 (dn:Int)] 187]) (.calm 0 (.calm 1 (.calm 2 (.calm 3 (.calm 4 (.calm 5 (.calm 6 (.calm 7 (.calm 8 (.calm 9 (.calm 10 (.done)))))))))))) (fun _ h=>h) (by kernel_rfl) (by kernel_rfl) (by intro c a d v w h;cases d <;> exact h) ?_
    repeat(first|refine GW ?_|(refine GN ?_;first|refine QW (rr_load1 (v:= .map (some gm)) TyC.ty rfl (at_blk (i:=0) rfl rfl)) ?_|refine QW (rr_loadB (i:=3) TyC.ty rfl rfl rfl) ?_|refine QW (rr_lookOk (x:=((k:Int),(dn:Int))) restK Und.eq zero_u64 (i:=1) rfl rfl rfl hrk) ?_))
    rw[hf]
    dsimp only[Option.getD,Option.isSome]
    try refine GA ?_
    have hdv:B0 / 2 ^ 62≤B0:=Nat.div_le_self _ _
    have ha1:=and1 (y:=B0 / 2 ^ 62) (by omega)
    have hs1:∀ w,(Op.shift .shr .u64 (B0:Int) .u64 62).run Try.prog w = .ok (.int .u64 ((B0 / 2 ^ 62:Nat):Int)) w:=fun w=>shrU2 B0 62 64 .u64 .u64 rfl (by decide) w
    have hsl:∀ w,(Op.shift .shl .u64 1 .i64 (ln:Int)).run Try.prog w = .ok (.int .u64 ((2 ^ ln:Nat):Int)) w:=fun w=>shl1 ln (by omega) w
    by_cases cb:B0.testBit 62=true
    · rw[if_pos cb]
      have hn:=bits_andnX hlt cb
      have hx2:B0 ^^^ 2 ^ 62<18446744073709551616:=Nat.xor_lt_two_pow (n:=64) hlt (by decide)
      have hor:=bits_orN hx2 (pow_lt64 (m:=ln) (by omega))
      have hb1:B0 / 2 ^ 62 % 2=1:=by rw[bit_dec] at cb;exact of_decide_eq_true cb
      generalize B0 / 2 ^ 62=D1 at *
      generalize B0 ^^^ 2 ^ 62=D2 at *
      generalize 2 ^ ln=D3 at *
      repeat(first|refine GC ?_|refine gV (rr_shr rfl rfl hs1) ?_|refine gV (rr_and rfl rfl ha1) ?_|refine gV (rr_eql (b:=false) rfl rfl (decide_eq_false (by omega))) ?_|refine gV (rr_andn rfl rfl hn) ?_|refine gV (rr_load1 (v:= .int .i64 (ln:Int)) TyC.ty rfl (at_blk (i:=2) rfl rfl)) ?_|refine gV (rr_shl rfl rfl hsl) ?_|refine gV (rr_or rfl rfl hor) ?_|refine GB ?_)
      exact E_ret1 rfl rfl fun w hm=>hm.meetsB (S:=⟨fun (x:(RK→Option Value)×Nat)=>CacheOk (lkG g) x.1∧x.2≤c+1,fun _=>bitV (D2 ||| D3),fun x=>[blkO go (opC g.terms g.nons (.slice bp g.prods.length cp) gm).toArray 173,mapO restK gm x.1 x.2]⟩) (f,c) ⟨hc,by omega⟩ [0,1] (by decide) rfl
    · rw[if_neg cb]
      have hb0:B0 / 2 ^ 62 % 2=0:=by
        rw[bit_dec,decide_eq_true_eq] at cb;omega
      generalize B0 / 2 ^ 62=D1 at *
      repeat(first|refine GC ?_|refine gV (rr_shr rfl rfl hs1) ?_|refine gV (rr_and rfl rfl ha1) ?_|refine gV (rr_eql (b:=true) rfl rfl (decide_eq_true (by omega))) ?_|refine GB ?_)
      exact E_ret1 rfl rfl fun w hm=>hm.meetsB (S:=⟨fun (x:(RK→Option Value)×Nat)=>CacheOk (lkG g) x.1∧x.2≤c+1,fun _=>bitV B0,fun x=>[blkO go (opC g.terms g.nons (.slice bp g.prods.length cp) gm).toArray 173,mapO restK gm x.1 x.2]⟩) (f,c) ⟨hc,by omega⟩ [0,1] (by decide) rfl
  | none=>
    clear hc1
    refine T_ord ([blkO go (opC g.terms g.nons (.slice bp g.prods.length cp) gm).toArray 173,mapO restK gm f c,blkO g3 (Value.agg (itC ((k:Int),(dn:Int),(ln:Int))).toArray).cells 153,blkO g5 #[.int .i64 (k:Int),.int .i64 (dn:Int)] 187]) (.calm 0 (.calm 1 (.calm 2 (.calm 3 (.calm 4 (.calm 5 (.calm 6 (.calm 7 (.calm 8 (.calm 9 (.calm 10 (.done)))))))))))) (fun _ h=>h) (by kernel_rfl) (by kernel_rfl) (by intro c a d v w h;cases d <;> exact h) ?_
    repeat(first|refine GW ?_|(refine GN ?_;first|refine QW (rr_load1 (v:= .map (some gm)) TyC.ty rfl (at_blk (i:=0) rfl rfl)) ?_|refine QW (rr_loadB (i:=3) TyC.ty rfl rfl rfl) ?_|refine QW (rr_lookOk (x:=((k:Int),(dn:Int))) restK Und.eq zero_u64 (i:=1) rfl rfl rfl hrk) ?_))
    rw[hf]
    dsimp only[Option.getD,Option.isSome]
    try refine GA ?_
    refine T_ord ([blkO go (opC g.terms g.nons (.slice bp g.prods.length cp) gm).toArray 173,blkO g3 (Value.agg (itC ((k:Int),(dn:Int),(ln:Int))).toArray).cells 153]) (.calm 0 (.calm 1 (.calm 2 (.calm 3 (.calm 4 (.calm 5 (.calm 6 (.calm 7 (.calm 8 (.calm 9 (.calm 11 (.calm 12 (.calm 13 (.one 10 (.calm 14 (.one 15 (.calm 16 (.calm 17 (.calm 18 (.calm 19 (.done))))))))))))))))))))) (sub_pick [0,2] (by decide) rfl) (by kernel_rfl) (by kernel_rfl) (by intro c a d v w h;cases d <;> exact h) ?_
    repeat(first|(refine GN ?_;first|refine QW QP ?_|refine QW (rr_loadN TyC.ty rfl (cs:=[.int .i64 g.terms,.int .i64 g.nons,.slice bp g.prods.length cp]) rfl (fun j v h=>at_blk (i:=0) rfl (op_gram h))) ?_|refine QW (rr_load1 (v:= .int .i64 (k:Int)) TyC.ty rfl (at_blk (i:=1) rfl rfl)) ?_|refine QW (rr_load1 (v:= .int .i64 (dn:Int)) TyC.ty rfl (at_blk (i:=1) rfl rfl)) ?_|refine QW (rr_add64 (r:=((dn+1:Nat):Int)) rfl rfl (by omega) (by omega) (by omega)) ?_|refine GX ?_)|refine GW ?_)
    refine TW_one rfl ?_
    refine TL_call (he2 EntersC.en rfl rfl rfl) (fun w hm=>hbd _ (hm.pick [] (by decide) rfl)) rfl rfl rfl ?_
    rintro x hx
    conv=>arg 8;simp only[zA,zB,zC,zD,zE,zF,zG,zH,zI,rowS,ret,id_eq,bodyS]
    conv=>arg 7;simp only[bodyS]
    obtain⟨bb,cc,hv,hlc,hsl⟩:=body_slL (W:=B) (i:=4) (L:=[blkO go (opC g.terms g.nons (.slice bp g.prods.length cp) gm).toArray 173,mapO restK gm f c,blkO g3 (Value.agg (itC ((k:Int),(dn:Int),(ln:Int))).toArray).cells 153,blkO g5 #[.int .i64 (k:Int),.int .i64 (dn:Int)] 187,bodO x]) ho hvb hk hx rfl
    rw[hv] at hsl ⊢
    have htk:((bodyI g.prods (k:Int)).drop (dn+1)).take ((bodyI g.prods (k:Int)).length - (dn+1))=(bodyI g.prods (k:Int)).drop (dn+1):=List.take_of_length_le (by rw[List.length_drop];exact Nat.le_refl _)
    have hsub:=fun w hm=>sl_sub (i:=dn+1) (j:=(bodyI g.prods (k:Int)).length) SymC_len (hsl w hm) (by omega) (Nat.le_refl _)
    rw[htk] at hsub
    generalize hbl:(bodyI g.prods (k:Int)).length=m at *
    refine TW_on (sub_pick [0,2] (by decide) rfl) ?_
    repeat(first|(refine GN ?_;first|refine QW QP ?_|refine QW (rr_slfrom (i:=dn+1) Und.eq TyC.ty rfl rfl (by omega) hlc) ?_|refine GX ?_)|refine GW ?_)
    refine TW_one rfl ?_
    refine TL_call (he3 EntersC.en rfl rfl rfl rfl) (fun w hm=>hbg _ _ _ (ho.mem hm) (hsub w hm)) rfl rfl rfl ?_
    intro _ _
    conv=>arg 8;simp only[zA,zB,zC,zD,zE,zF,zG,zH,zI,rowS,ret,id_eq]
    rw[←hlk]
    refine TW_on (sub_pick [0,2] (by decide) rfl) ?_
    try refine GW ?_
    try refine GA ?_
    refine T_ord ([blkO go (opC g.terms g.nons (.slice bp g.prods.length cp) gm).toArray 173,blkO g5 #[.int .i64 (k:Int),.int .i64 (dn:Int)] 187]) (.calm 0 (.calm 1 (.calm 2 (.calm 3 (.calm 4 (.calm 5 (.one 6 (.done)))))))) (sub_pick [0,3] (by decide) rfl) (by kernel_rfl) (by kernel_rfl) (by intro c a d v w h;cases d <;> exact h) ?_
    repeat(first|refine GW ?_|(refine GN ?_;first|refine QW (rr_load1 (v:= .map (some gm)) TyC.ty rfl (at_blk (i:=0) rfl rfl)) ?_|refine QW (rr_loadB (i:=1) TyC.ty rfl rfl rfl) ?_))
    refine TW_one rfl ?_
    refine TL_mapSet (i:=1) (x:=((k:Int),(dn:Int))) (v:=bitV B0) restK Und.eq rfl rfl rfl rfl hrk (by omega) ?_
    conv=>arg 8;simp only[zA,zB,zC,zD,zE,zF,zG,zH,zI,rowS,ret,id_eq]
    rw[hf]
    dsimp only[Option.isSome]
    refine TW_on (sub_pick [0,3] (by decide) rfl) ?_
    try refine GW ?_
    try refine GA ?_
    have hdv:B0 / 2 ^ 62≤B0:=Nat.div_le_self _ _
    have ha1:=and1 (y:=B0 / 2 ^ 62) (by omega)
    have hs1:∀ w,(Op.shift .shr .u64 (B0:Int) .u64 62).run Try.prog w = .ok (.int .u64 ((B0 / 2 ^ 62:Nat):Int)) w:=fun w=>shrU2 B0 62 64 .u64 .u64 rfl (by decide) w
    have hsl:∀ w,(Op.shift .shl .u64 1 .i64 (ln:Int)).run Try.prog w = .ok (.int .u64 ((2 ^ ln:Nat):Int)) w:=fun w=>shl1 ln (by omega) w
    by_cases cb:B0.testBit 62=true
    · rw[if_pos cb]
      have hn:=bits_andnX hlt cb
      have hx2:B0 ^^^ 2 ^ 62<18446744073709551616:=Nat.xor_lt_two_pow (n:=64) hlt (by decide)
      have hor:=bits_orN hx2 (pow_lt64 (m:=ln) (by omega))
      have hb1:B0 / 2 ^ 62 % 2=1:=by rw[bit_dec] at cb;exact of_decide_eq_true cb
      generalize B0 / 2 ^ 62=D1 at *
      generalize B0 ^^^ 2 ^ 62=D2 at *
      generalize 2 ^ ln=D3 at *
      repeat(first|refine GC ?_|refine gV (rr_shr rfl rfl hs1) ?_|refine gV (rr_and rfl rfl ha1) ?_|refine gV (rr_eql (b:=false) rfl rfl (decide_eq_false (by omega))) ?_|refine gV (rr_andn rfl rfl hn) ?_|refine gV (rr_load1 (v:= .int .i64 (ln:Int)) TyC.ty rfl (at_blk (i:=2) rfl rfl)) ?_|refine gV (rr_shl rfl rfl hsl) ?_|refine gV (rr_or rfl rfl hor) ?_|refine GB ?_)
      exact E_ret1 rfl rfl fun w hm=>hm.meetsB (S:=⟨fun (x:(RK→Option Value)×Nat)=>CacheOk (lkG g) x.1∧x.2≤c+1,fun _=>bitV (D2 ||| D3),fun x=>[blkO go (opC g.terms g.nons (.slice bp g.prods.length cp) gm).toArray 173,mapO restK gm x.1 x.2]⟩) (_,c+1) ⟨hcp,Nat.le_refl _⟩ [0,1] (by decide) rfl
    · rw[if_neg cb]
      have hb0:B0 / 2 ^ 62 % 2=0:=by
        rw[bit_dec,decide_eq_true_eq] at cb;omega
      generalize B0 / 2 ^ 62=D1 at *
      repeat(first|refine GC ?_|refine gV (rr_shr rfl rfl hs1) ?_|refine gV (rr_and rfl rfl ha1) ?_|refine gV (rr_eql (b:=true) rfl rfl (decide_eq_true (by omega))) ?_|refine GB ?_)
      exact E_ret1 rfl rfl fun w hm=>hm.meetsB (S:=⟨fun (x:(RK→Option Value)×Nat)=>CacheOk (lkG g) x.1∧x.2≤c+1,fun _=>bitV B0,fun x=>[blkO go (opC g.terms g.nons (.slice bp g.prods.length cp) gm).toArray 173,mapO restK gm x.1 x.2]⟩) (_,c+1) ⟨hcp,Nat.le_refl _⟩ [0,1] (by decide) rfl
end Go.Proofs.Ytldiodhdefnlaaa.eng

/- OrdK -/
namespace Go.Proofs.Ytldiodhdefnlaaa.eng
open Go.RowKit kit mix itemL Go.Lib Go.Sort
theorem isNaN_k (x:Int) (w:World):Calls Try.prog 91 #[.int .i64 x] w fun e w'=>e = .returned (.bool false)∧w'=w:=by
  go_enter Try.func91,Try.ntmps91
  go_wp2
  go_ret
  exact⟨by simp,rfl⟩
set_option maxHeartbeats 1000000 in
theorem compare_k (x y:Int) (w:World):Calls Try.prog 71 #[.int .i64 x,.int .i64 y] w fun e w'=>e = .returned (.int .i64 (cmpI x y))∧w'=w:=by
  go_enter Try.func71,Try.ntmps71
  go_wp2_with (go_at_call 91;refine (isNaN_k _ _).mono ?_;rintro e w' ⟨rfl,hw⟩;rw[hw])
  all_goals (go_ret;refine⟨?_,rfl⟩;unfold cmpI;(repeat' split) <;> first | rfl | (exfalso;omega))
def orI (a b c:Int):Int:=if a≠0 then a else if b≠0 then b else c
theorem orI_a {a b c:Int} (h:¬ a=0):orI a b c=a:=if_pos h
theorem orI_b {b c:Int} (h:¬ b=0):orI 0 b c=b:=by unfold orI;rw[if_neg (by simp),if_pos h]
theorem orI_c {c:Int}:orI 0 0 c=c:=by unfold orI;rw[if_neg (by simp),if_neg (by simp)]
set_option maxHeartbeats 2000000 in
theorem or_k (g:Nat) (a b c:Int) (w:World) (h0:w.cell? ⟨g,0,none⟩=some (.int .i64 a)) (h1:w.cell? ⟨g,1,none⟩=some (.int .i64 b)) (h2:w.cell? ⟨g,2,none⟩=some (.int .i64 c)) :
    Calls Try.prog 70 #[.slice (some ⟨g,0,none⟩) 3 3] w fun e w'=>e = .returned (.int .i64 (orI a b c))∧w'=w:=by
  go_enter Try.func70,Try.ntmps70
  go_wp2
  by_cases ha:a=0
  · subst ha
    refine wp_loop_rounds 4 ?_
    rw[rounds_succ]
    go_wp2
    by_cases hb:b=0
    · subst hb
      rw[rounds_succ]
      go_wp2
      by_cases hc:c=0
      · subst hc
        rw[rounds_succ]
        go_wp2
        rw[rounds_succ]
        go_wp2
        go_ret
        exact⟨by rw[orI_c];rfl,rfl⟩
      · rw[rounds_succ]
        go_wp2
        go_ret
        exact⟨by rw[orI_c];rfl,rfl⟩
    · rw[rounds_succ]
      go_wp2
      go_ret
      exact⟨by rw[orI_b hb];rfl,rfl⟩
  · refine wp_loop_rounds 1 ?_
    rw[rounds_succ]
    go_wp2
    go_ret
    exact⟨by rw[orI_a ha];rfl,rfl⟩
theorem or_k2 (o1 o2:Obj) (a b c:Int) (T:TypeId) (w:World) :
    Calls Try.prog 70 #[.slice (some ⟨w.heap.size+1+1,0,none⟩) 3 3] (((w.alloc o1).alloc o2).alloc (.cells #[.int .i64 a,.int .i64 b,.int .i64 c] T)).drew fun e w'=>e = .returned (.int .i64 (orI a b c))∧w'=(((w.alloc o1).alloc o2).alloc (.cells #[.int .i64 a,.int .i64 b,.int .i64 c] T)).drew:=by
  have hg:(((w.alloc o1).alloc o2).alloc (.cells #[.int .i64 a,.int .i64 b,.int .i64 c] T)).drew.heap[w.heap.size+1+1]?=some (.cells #[.int .i64 a,.int .i64 b,.int .i64 c] T (0,0)):=by
    have h:=heap_alloc_new ((w.alloc o1).alloc o2) (.cells #[.int .i64 a,.int .i64 b,.int .i64 c] T)
    have e:((w.alloc o1).alloc o2).heap.size=w.heap.size+1+1:=by
      show ((w.heap.push o1).push o2).size=_
      rw[Array.size_push,Array.size_push]
    rw[e] at h
    exact h
  exact or_k _ a b c _ (cell_of_row _ _ 0 _ T (0,0) hg) (cell_of_row _ _ 1 _ T (0,0) hg) (cell_of_row _ _ 2 _ T (0,0) hg)
end Go.Proofs.Ytldiodhdefnlaaa.eng

/- OrdJ -/
namespace Go.Proofs.Ytldiodhdefnlaaa.eng
open Go.RowKit kit mix itemL Go.Lib Go.Sort
theorem two_heap (a b:Obj) (w:World):((w.alloc a).alloc b).heap[w.heap.size]?=some a∧((w.alloc a).alloc b).heap[w.heap.size+1]?=some b:=by
  have e:(w.alloc a).heap.size=w.heap.size+1:=by
    show (w.heap.push a).size=_
    rw[Array.size_push]
  constructor
  · rw[heap_alloc_old (w.alloc a) b (by omega)]
    exact heap_alloc_new w a
  · have h:=heap_alloc_new (w.alloc a) b
    rw[e] at h;exact h
theorem three_grow (a b c:Obj) (w:World):(((w.alloc a).alloc b).alloc c).drew=grow (w.drewN 1) #[a,b,c]:=by
  rw[alloc_eq_grow,alloc_eq_grow,alloc_eq_grow,grow_grow,grow_grow];rfl
set_option maxHeartbeats 4000000 in
theorem order_k (x y:itemL.Item) (w:World):Calls Try.prog 65 #[.agg (itC x).toArray,.agg (itC y).toArray] w fun e w'=>e = .returned (.int .i64 (ordI x y))∧∃ q os',w'=grow (w.drewN q) os':=by
  obtain⟨x1,x2,x3⟩:=x
  obtain⟨y1,y2,y3⟩:=y
  have ho:ordI (x1,x2,x3) (y1,y2,y3)=orI (cmpI x1 y1) (cmpI x2 y2) (cmpI x3 y3):=rfl
  rw[ho]
  clear ho
  unfold itC
  dsimp only
  obtain⟨t1,t2⟩:=two_heap (.cells #[.int .i64 x1,.int .i64 x2,.int .i64 x3] 153) (.cells #[.int .i64 y1,.int .i64 y2,.int .i64 y3] 153) w
  have k1:=cell_of_row _ _ 0 _ _ (0,0) t1
  have k2:=cell_of_row _ _ 1 _ _ (0,0) t1
  have k3:=cell_of_row _ _ 2 _ _ (0,0) t1
  have k4:=cell_of_row _ _ 0 _ _ (0,0) t2
  have k5:=cell_of_row _ _ 1 _ _ (0,0) t2
  have k6:=cell_of_row _ _ 2 _ _ (0,0) t2
  clear t1 t2
  go_enter Try.func65,Try.ntmps65
  go_wp2
  go_region_held (fun w'=>w'.cell? ⟨w.heap.size,0,none⟩=some (.int .i64 x1)∧w'.cell? ⟨w.heap.size,1,none⟩=some (.int .i64 x2)∧w'.cell? ⟨w.heap.size,2,none⟩=some (.int .i64 x3)∧w'.cell? ⟨w.heap.size+1,0,none⟩=some (.int .i64 y1)∧w'.cell? ⟨w.heap.size+1,1,none⟩=some (.int .i64 y2)∧w'.cell? ⟨w.heap.size+1,2,none⟩=some (.int .i64 y3)) (go_keep) (first | (go_at_call 71;refine (compare_k _ _ _).mono ?_;rintro e w' ⟨rfl,rfl⟩) | (go_at_call 70;have hzz:=(or_k2 (.cells #[.int .i64 x1,.int .i64 x2,.int .i64 x3] 153) (.cells #[.int .i64 y1,.int .i64 y2,.int .i64 y3] 153) (cmpI x1 y1) (cmpI x2 y2) (cmpI x3 y3) 3 w);refine hzz.mono ?_;clear hzz;rintro e w' ⟨rfl,rfl⟩))
  go_wp2
  go_ret
  refine⟨rfl,1,#[.cells #[.int .i64 x1,.int .i64 x2,.int .i64 x3] 153,.cells #[.int .i64 y1,.int .i64 y2,.int .i64 y3] 153,.cells #[.int .i64 (cmpI x1 y1),.int .i64 (cmpI x2 y2),.int .i64 (cmpI x3 y3)] 3],?_⟩
  exact three_grow _ _ _ w
end Go.Proofs.Ytldiodhdefnlaaa.eng

/- ItH -/
namespace Go.Proofs.Ytldiodhdefnlaaa.eng
open Go.RowKit kit mix gramL treeL factsL itemL
theorem build_open (t n:Int) (vp:Value) (gm:Nat) (w:World):(Instr.build 173 #[(0,graV t n vp),(1,.map (some gm))]).run Try.prog w = .ok (.agg (opC t n vp gm).toArray) w:=by kernel_rfl
def begS (t n:Int) (vp:Value):Spec (Nat×Nat):=⟨fun _=>True,fun x=> .pointer (some ⟨x.1,0,none⟩),fun x=>[mapO restK x.2 (fun _=>none) 0,blkO x.1 (opC t n vp x.2).toArray 173]⟩
theorem begunI_calls (t n:Int) (vp:Value) (w:World):Calls Try.prog 44 #[graV t n vp] w (Meets (begS t n vp) w):=by
  have hb:=build_open t n vp
  refine enter (args:=[graV t n vp]) (n:=7) Try.func44 rfl rfl rfl ?_
  refine T_seq (T_region (TL_box rfl rfl rfl fun g1 => ?_))
  conv=>arg 8;simp only[zA,zB,zC,zD,zE,zF,zG,zH,zI,rowS,ret,id_eq]
  repeat(first|refine GA ?_|refine gV (rr_loadB (i:=0) TyC.ty rfl rfl rfl) ?_)
  refine TL_map restK rfl fun gm => ?_
  conv=>arg 8;simp only[zA,zB,zC,zD,zE,zF,zG,zH,zI,rowS,ret,id_eq]
  repeat(first|refine GA ?_|refine gV (rr_build rfl (hb _)) ?_)
  refine TL_box rfl rfl rfl fun go => ?_
  conv=>arg 8;simp only[zA,zB,zC,zD,zE,zF,zG,zH,zI,rowS,ret,id_eq]
  try refine GA ?_
  exact E_ret1 rfl rfl fun w hm=>hm.meets (S:=begS t n vp) (go,gm) trivial [1,2] (by decide) rfl
end Go.Proofs.Ytldiodhdefnlaaa.eng

/- ItN -/
namespace Go.Proofs.Ytldiodhdefnlaaa.eng
open Go.RowKit kit mix gramL treeL factsL itemL
theorem conv_it {x:Int} (h0:0≤x) (h1:x<256):IntKind.u8.wrap x=(((UInt8.ofNat x.toNat).toNat:Nat):Int):=by
  obtain⟨n,rfl⟩:=Int.eq_ofNat_of_zero_le h0
  rw[Int.toNat_natCast,IntKind.wrap_u8];simp
theorem nameI_len (l:List itemL.Item):(nameI l).length=3*l.length:=by
  induction l with
  | nil=>rfl
  | cons x r ih=>
    have:nameI (x::r)=[UInt8.ofNat x.1.toNat,UInt8.ofNat x.2.1.toNat,UInt8.ofNat x.2.2.toNat]++nameI r:=rfl
    rw[this,List.length_append,ih,List.length_cons]
    show 3+3*r.length=3*(r.length+1)
    omega
theorem nameI_take {l:List itemL.Item} {k:Nat} (h:k<l.length):nameI (l.take (k+1))=nameI (l.take k)++[UInt8.ofNat l[k].1.toNat,UInt8.ofNat l[k].2.1.toNat,UInt8.ofNat l[k].2.2.toNat]:=by
  unfold nameI
  rw[List.take_succ_eq_append_getElem h,List.flatMap_append]
  rfl
set_option maxHeartbeats 4000000 in
theorem name_calls (vl:Value) (l:List itemL.Item) (w:World) (hl:Sl w vl l.length (l.flatMap itC)) (hb:∀ it∈l,0≤it.1∧it.1<256∧0≤it.2.1∧it.2.1<256∧0≤it.2.2∧it.2.2<256) (hn:l.length≤20000) :
    Calls Try.prog 46 #[vl] w (Meets (ret (str (nameI l))) w):=by
  obtain⟨bl,cl,rfl,hc1,hc2,hrl⟩:=hl
  unfold maxLen at hc2
  refine enter (args:=[.slice bl l.length cl]) (n:=27) Try.func46 rfl rfl rfl ?_
  try refine GA ?_
  refine T_nil 5 1 ?_
  conv=>arg 7;simp only[zA,zB,zC,zD,zE,zF,zG,zH,zI,rowS,ret,id_eq]
  refine T_loop (ι:=Nat×Value) (fun (k,_)=>k≤l.length) (fun (k,v)=>[(3,v),(6,.slice bl l.length cl),(7,.int .i64 l.length),(8,.int .i64 (k:Int))])
    (fun (k,v)=>[rowO 5 1 v (nameI (l.take k)).length ((nameI (l.take k)).map u8v)]) (fun (k,_)=>l.length - k) (0,.slice none 0 0) (Nat.zero_le _) (by repeat' (first | exact True.intro | refine And.intro rfl ?_)) rfl ?_
  rintro⟨k,v⟩ i1
  dsimp only at i1 ⊢
  by_cases c1:k<l.length
  · obtain⟨b,off,rfl,hrd⟩:=hrl (by omega)
    have hat:=fun L=>at_el (L:=L) itC_len hrd c1
    have hatA:∀ (L:List Own) (j:Nat) (u:Value),(itC l[k])[j]?=some u→At (w:Base) L ⟨b,off+k*3+j,none⟩ u:=hat
    clear hat hrl hrd
    obtain⟨b1,b2,b3,b4,b5,b6⟩:=hb l[k] (List.getElem_mem c1)
    have hnx:=nameI_take c1
    have hln:(nameI (l.take k)).length≤60000:=by rw[nameI_len,List.length_take];omega
    generalize l[k]=x at *
    obtain⟨p,d,lo⟩:=x
    dsimp only at b1 b2 b3 b4 b5 b6 hnx
    have e1:=conv_it b1 b2
    have e2:=conv_it b3 b4
    have e3:=conv_it b5 b6
    generalize UInt8.ofNat p.toNat=y1 at *
    generalize UInt8.ofNat d.toNat=y2 at *
    generalize UInt8.ofNat lo.toNat=y3 at *
    generalize hN:nameI (l.take k)=N at *
    repeat(first|refine GA ?_|refine gV (rr_idxc Und.eq TyC.ty rfl rfl c1) ?_|refine gV (rr_loadN (cs:=itC (p,d,lo)) TyC.ty rfl rfl (hatA _)) ?_)
    refine TL_new rfl fun g5 => ?_
    conv=>arg 8;simp only[zA,zB,zC,zD,zE,zF,zG,zH,zI,rowS,ret,id_eq]
    refine TL_storeB (i:=1) (cs':=(itC (p,d,lo)).toArray) rfl rfl rfl rfl rfl rfl ?_
    conv=>arg 8;simp only[zA,zB,zC,zD,zE,zF,zG,zH,zI,rowS,ret,id_eq]
    repeat(first|refine GA ?_|refine gV (rr_load1 (v:= .int .i64 p) TyC.ty rfl (at_blk (i:=1) rfl rfl)) ?_|refine gV (rr_load1 (v:= .int .i64 d) TyC.ty rfl (at_blk (i:=1) rfl rfl)) ?_|refine gV (rr_load1 (v:= .int .i64 lo) TyC.ty rfl (at_blk (i:=1) rfl rfl)) ?_|refine gV (rr_conv Und.eq Und.eq rfl e1) ?_|refine gV (rr_conv Und.eq Und.eq rfl e2) ?_|refine gV (rr_conv Und.eq Und.eq rfl e3) ?_)
    refine TL_litV [u8v y1,u8v y2,u8v y3] rfl rfl rfl (by intro v hv;simp at hv;rcases hv with rfl | rfl | rfl <;> rfl) rfl rfl fun g22 => ?_
    conv=>arg 8;simp only[zA,zB,zC,zD,zE,zF,zG,zH,zI,rowS,ret,id_eq]
    refine TL_appSl (i:=0) (e:= 5) (size:=1) (bytes:=1) (m:=N.length) (xs:=N.map u8v) (k:=3) (ys:=[u8v y1,u8v y2,u8v y3]) rfl (sl_blk (i:=2) rfl (fun j u h=>by simpa using h) (Nat.le_refl 3) (by decide)) rfl rfl rfl (by intro u hu;simp at hu;rcases hu with rfl | rfl | rfl <;> rfl) (by omega) (by omega) rfl fun v' => ?_
    conv=>arg 8;simp only[zA,zB,zC,zD,zE,zF,zG,zH,zI,rowS,ret,id_eq]
    try refine GA ?_
    refine E_pick [0] (by decide) rfl ?_
    exact E_round (k+1,v') (by show k+1≤l.length;omega) (by show l.length - (k+1)<l.length - k;omega) (by repeat' (first | exact True.intro | refine And.intro rfl ?_)) (by dsimp only;rw[hnx,List.length_append,List.map_append];rfl)
  · obtain rfl:k=l.length:=by omega
    rw[List.take_length]
    repeat(first|refine GA ?_|refine gV (rr_string Und.eq Und.eq Und.eq rfl rfl (sl_row (i:=0) rfl)) ?_)
    exact E_ret1 rfl rfl fun w hm=>hm.ret
set_option maxHeartbeats 4000000 in
theorem symbols_calls (T N:Nat) (hT:T≤1000) (hN:N≤1000) (vp:Value) (w:World) :
    Calls Try.prog 48 #[graV (T:Int) (N:Int) vp] w (Meets (rowS 112 2 (symsI T N).length ((symsI T N).flatMap symC) id) w):=by
  have hb1:=fun (q:Int)=>build_sym 1 q
  have hb2:=fun (q:Int)=>build_sym 2 q
  refine enter (args:=[graV (T:Int) (N:Int) vp]) (n:=29) Try.func48 rfl rfl rfl ?_
  refine T_seq (T_region (TL_box rfl rfl rfl fun g1 => ?_))
  conv=>arg 8;simp only[zA,zB,zC,zD,zE,zF,zG,zH,zI,rowS,ret,id_eq]
  repeat(first|refine GA ?_|refine gV (rr_load1 (v:= .int .i64 (T:Int)) TyC.ty rfl (at_blk (i:=0) rfl rfl)) ?_)
  refine T_nil 112 2 ?_
  conv=>arg 7;simp only[zA,zB,zC,zD,zE,zF,zG,zH,zI,rowS,ret,id_eq]
  refine T_loop (ι:=Nat×Value) (fun (k,_)=>k≤T) (fun (k,v)=>[(1,.pointer (some ⟨g1,0,none⟩)),(3,v),(7,.int .i64 (T:Int)),(8,.int .i64 (k:Int))])
    (fun (k,v)=>[blkO g1 (graV (T:Int) (N:Int) vp).cells 33,rowO 112 2 v ((List.range k).map (fun n:Nat=>((1:Int),(n:Int)))).length (((List.range k).map (fun n:Nat=>((1:Int),(n:Int)))).flatMap symC)]) (fun (k,_)=>T - k) (0,.slice none 0 0) (Nat.zero_le _) (by repeat' (first | exact True.intro | refine And.intro rfl ?_)) rfl ?_
  rintro⟨k,v⟩ i1
  dsimp only at i1 ⊢
  by_cases c1:k<T
  · have hnx:(List.range (k+1)).map (fun n:Nat=>((1:Int),(n:Int)))=(List.range k).map (fun n:Nat=>((1:Int),(n:Int)))++[((1:Int),(k:Int))]:=by rw[List.range_succ,List.map_append];rfl
    have hln:((List.range k).map (fun n:Nat=>((1:Int),(n:Int)))).length=k:=by rw[List.length_map,List.length_range]
    generalize hA:(List.range k).map (fun n:Nat=>((1:Int),(n:Int)))=A at *
    repeat(first|refine GA ?_|refine gV (rr_build rfl (hb1 _)) ?_)
    refine TL_pushN (i:=1) rfl rfl rfl rfl rfl rfl rfl (fun z h=>by cases h;rfl) (by omega) (by omega) rfl fun z v' => ?_
    conv=>arg 8;simp only[zA,zB,zC,zD,zE,zF,zG,zH,zI,rowS,ret,id_eq]
    try refine GA ?_
    exact E_round (k+1,v') (by show k+1≤T;omega) (by show T - (k+1)<T - k;omega) (by repeat' (first | exact True.intro | refine And.intro rfl ?_)) (by dsimp only;rw[hnx,List.length_append,List.flatMap_append];rfl)
  obtain rfl:k=T:=by omega
  have hln:((List.range k).map (fun n:Nat=>((1:Int),(n:Int)))).length=k:=by rw[List.length_map,List.length_range]
  have hS:symsI k N=(List.range k).map (fun n:Nat=>((1:Int),(n:Int)))++(List.range N).map (fun n:Nat=>((2:Int),(n:Int))):=rfl
  generalize symsI k N=S at *
  generalize hA:(List.range k).map (fun n:Nat=>((1:Int),(n:Int)))=A at *
  repeat(first|refine GA ?_|refine gV (rr_load1 (v:= .int .i64 (N:Int)) TyC.ty rfl (at_blk (i:=0) rfl rfl)) ?_)
  refine T_loop (ι:=Nat×Value) (fun (j,_)=>j≤N) (fun (j,v)=>[(3,v),(18,.int .i64 (N:Int)),(19,.int .i64 (j:Int))])
    (fun (j,v)=>[blkO g1 (graV (k:Int) (N:Int) vp).cells 33,rowO 112 2 v (A++(List.range j).map (fun n:Nat=>((2:Int),(n:Int)))).length ((A++(List.range j).map (fun n:Nat=>((2:Int),(n:Int)))).flatMap symC)]) (fun (j,_)=>N - j) (0,v) (Nat.zero_le _) (by repeat' (first | exact True.intro | refine And.intro rfl ?_)) (by simp only[List.range_zero,List.map_nil,List.append_nil]) ?_
  rintro⟨j,v⟩ j1
  dsimp only at j1 ⊢
  by_cases c2:j<N
  · have hnx:A++(List.range (j+1)).map (fun n:Nat=>((2:Int),(n:Int)))=(A++(List.range j).map (fun n:Nat=>((2:Int),(n:Int))))++[((2:Int),(j:Int))]:=by rw[List.range_succ,List.map_append,List.append_assoc];rfl
    have hln2:(A++(List.range j).map (fun n:Nat=>((2:Int),(n:Int)))).length≤2000:=by rw[List.length_append,List.length_map,List.length_range];omega
    generalize hD:A++(List.range j).map (fun n:Nat=>((2:Int),(n:Int)))=D at *
    repeat(first|refine GA ?_|refine gV (rr_build rfl (hb2 _)) ?_)
    refine TL_pushN (i:=1) rfl rfl rfl rfl rfl rfl rfl (fun z h=>by cases h;rfl) (by omega) (by omega) rfl fun z v' => ?_
    conv=>arg 8;simp only[zA,zB,zC,zD,zE,zF,zG,zH,zI,rowS,ret,id_eq]
    try refine GA ?_
    exact E_round (j+1,v') (by show j+1≤N;omega) (by show N - (j+1)<N - j;omega) (by repeat' (first | exact True.intro | refine And.intro rfl ?_)) (by dsimp only;rw[hnx,List.length_append,List.flatMap_append];rfl)
  obtain rfl:j=N:=by omega
  rw[←hS]
  try refine GA ?_
  exact E_ret1 rfl rfl fun w hm=>hm.meets (S:=rowS 112 2 S.length (S.flatMap symC) id) v trivial [1] (by decide) rfl
end Go.Proofs.Ytldiodhdefnlaaa.eng

/- ItO -/
namespace Go.Proofs.Ytldiodhdefnlaaa.eng
open Go.RowKit kit mix gramL treeL factsL itemL smallL
def itS:Shp itemL.Item:=flatS itC 3 (fun _=>rfl) (fun _=>True)
theorem idx_map {κ τ:Type} [DecidableEq κ] [DecidableEq τ] (f:κ→τ) (x:κ):∀ (D:List κ),(∀ y∈D,f y=f x→y=x)→idx (D.map f) (f x)=idx D x
  | [],_=>rfl
  | y :: D,h=>by
    have ih:=idx_map f x D fun z hz=>h z (List.mem_cons_of_mem _ hz)
    unfold idx at ih ⊢
    rw[List.map_cons,List.idxOf_cons,List.idxOf_cons,ih]
    by_cases e:y=x
    · subst e;simp
    · have:¬ f y=f x:=fun e2=>e (h y (List.mem_cons_self ..) e2)
      rw[show (f y == f x)=false by simpa using this,show (y == x)=false by simpa using e]
def SmallIt (s:List itemL.Item):Prop:=∀ it∈s,0≤it.1∧it.1<256∧0≤it.2.1∧it.2.1<256∧0≤it.2.2∧it.2.2<256
theorem mem_names {S:List (List itemL.Item)} {s:List itemL.Item} (hS:∀ t∈S,SmallIt t) (hs:SmallIt s):nameI s∈S.map nameI↔s∈S:=by
  constructor
  · intro h
    obtain⟨t,ht,e⟩:=List.mem_map.1 h
    rw[←name_inj (hS t ht) hs e];exact ht
  · exact List.mem_map_of_mem
def stL (g6 gm g7:Nat) (vS vN:Value) (vss:List Value) (F:Nat→Prop) (S:List (List itemL.Item)):List Own:=
  [blkO g6 #[.map (some gm)] 74,mapO strK gm (mapAt (S.map nameI)) S.length,blkO g7 #[vS,vN] 103,rowO 148 1 vS S.length vss,elsO (sliceS itS) F (vss.map fun v=>[v]) S]
theorem row_foot {w:World} {e:TypeId} {size n:Nat} {v:Value} {xs:List Value} (h:(rowO e size v n xs).holds w):∀ k,v.ownBlock=some k→k<w.heap.size:=fun k hk=>(rowO e size v n xs).lt w h k (.inl hk)
theorem it_of_row {w:World} {v:Value} {l:List itemL.Item} (h:(rowO 153 3 v l.length (l.flatMap itC)).holds w):(sliceS itS).is (fun k=>v.ownBlock=some k) w [v] l:=
  ⟨v,rfl,SlF.of_flat (Sl.of_own h) (fun _ _=>trivial) (fun _ h=>h) (fun a n cp hv=>by rw[hv];rfl)⟩
set_option maxHeartbeats 4000000 in
theorem state_calls (g6 gm g7:Nat) (vS vN:Value) (vss:List Value) (F:Nat→Prop) (S:List (List itemL.Item)) (vl:Value) (s:List itemL.Item) (hS:∀ t∈S,SmallIt t) (hs:SmallIt s) (hSl:S.length≤1000) (hsl:s.length≤20000) (w:World) (B:Base)
    (hm:Mem B (stL g6 gm g7 vS vN vss F S++[rowO 153 3 vl s.length (s.flatMap itC)]) w) :
    Calls Try.prog 45 #[vl,.pointer (some ⟨g6,0,none⟩),.pointer (some ⟨g7,0,none⟩)] w (MeetsB ⟨fun (_:Value×List Value×(Nat→Prop))=>True,fun _=> .int .i64 ((stateI S s).1:Int),fun x=>stL g6 gm g7 x.1 vN x.2.1 x.2.2 (stateI S s).2⟩ B):=by
  have hmn:=mem_names hS hs
  have hix:=idx_map nameI s S fun t ht e=>name_inj (hS t ht) hs e
  have hok:strK.ok (nameI s):=by
    show (nameI s).length≤9223372036854775807
    rw[nameI_len];omega
  unfold stL at hm
  refine enterB hm (args:=[vl,.pointer (some ⟨g6,0,none⟩),.pointer (some ⟨g7,0,none⟩)]) (n:=30) Try.func45 rfl rfl rfl ?_
  refine T_know (i:=3) rfl row_slm fun hrow => ?_
  obtain⟨aS,cS,rfl,-⟩:=hrow
  try refine GA ?_
  refine T_ord ([blkO g6 #[.map (some gm)] 74,mapO strK gm (mapAt (S.map nameI)) S.length,rowO 153 3 vl s.length (s.flatMap itC)]) (.calm 0 (.calm 1 (.calm 2 (.calm 3 (.calm 4 (.calm 5 (.calm 6 (.calm 7 (.calm 8 (.done)))))))))) (sub_pick [0,1,5] (by decide) rfl) (by kernel_rfl) (by kernel_rfl) (by intro c a d v w h;cases d <;> exact h) ?_
  repeat(first|refine GW ?_|(refine GN ?_;first|refine QW (rr_load1 (v:= .map (some gm)) TyC.ty rfl (at_blk (i:=0) rfl rfl)) ?_))
  refine TW_call rfl (he1 EntersC.en rfl rfl) (fun w hm=>name_calls vl s w (Sl.of_own (hm.get (i:=2) rfl)) hs hsl) rfl rfl rfl ?_
  by_cases c:s∈S
  · have hst:stateI S s=(idx S s,S):=if_pos c
    rw[hst]
    repeat(first|refine GW ?_|(refine GN ?_;first|refine QW (rr_lookNumS (K:=strK) (x:=nameI s) Und.eq zero_i64 (i:=1) rfl rfl rfl hok (hmn.2 c)) ?_))
    rw[hix]
    try refine GA ?_
    exact E_ret1 rfl rfl fun w hm=>hm.meetsB (S:=⟨fun (_:Value×List Value×(Nat→Prop))=>True,fun _=> .int .i64 (idx S s:Int),fun x=>stL g6 gm g7 x.1 vN x.2.1 x.2.2 S⟩) (.slice aS S.length cS,vss,F) trivial [0,1,2,3,4] (by decide) rfl
  · have hst:stateI S s=(S.length,S++[s]):=if_neg c
    rw[hst]
    have hn:nameI s∉S.map nameI:=fun h=>c (hmn.1 h)
    have hadd:=mapAt_add hn
    have hnone:mapAt (S.map nameI) (nameI s)=none:=if_neg hn
    rw[List.length_map] at hadd
    clear hix hmn
    repeat(first|refine GW ?_|(refine GN ?_;first|refine QW (rr_lookNumN (K:=strK) (x:=nameI s) Und.eq zero_i64 (i:=1) rfl rfl rfl hok hn) ?_))
    repeat(first|refine GA ?_|refine gV (rr_load1 (v:= .slice aS S.length cS) TyC.ty rfl (at_blk (i:=2) rfl rfl)) ?_)
    refine T_ord ([blkO g6 #[.map (some gm)] 74,rowO 153 3 vl s.length (s.flatMap itC)]) (.calm 0 (.calm 1 (.calm 2 (.calm 3 (.one 4 (.done)))))) (sub_pick [0,5] (by decide) rfl) (by kernel_rfl) (by kernel_rfl) (by intro c a d v w h;cases d <;> exact h) ?_
    repeat(first|refine GW ?_|(refine GN ?_;first|refine QW (rr_load1 (v:= .map (some gm)) TyC.ty rfl (at_blk (i:=0) rfl rfl)) ?_))
    refine TW_call rfl (he1 EntersC.en rfl rfl) (fun w hm=>name_calls vl s w (Sl.of_own (hm.get (i:=1) rfl)) hs hsl) rfl rfl rfl ?_
    try refine GW ?_
    refine TW_one rfl ?_
    refine TL_mapSet (i:=1) (x:=nameI s) (v:= .int .i64 (S.length:Int)) strK Und.eq rfl rfl rfl rfl hok (by omega) ?_
    conv=>arg 8;simp only[zA,zB,zC,zD,zE,zF,zG,zH,zI,rowS,ret,id_eq]
    rw[hadd,hnone,if_neg (by decide)]
    refine TW_on (sub_pick [0,5] (by decide) rfl) ?_
    try refine GW ?_
    repeat(first|refine GA ?_|refine gV (rr_load1 (v:= .slice aS S.length cS) TyC.ty rfl (at_blk (i:=2) rfl rfl)) ?_)
    refine TL_slv (i:=5) rfl fun hl1 hl2 => ?_
    refine TL_push1 (i:=3) rfl rfl hl1 hl2 rfl rfl (fun z h=>by cases h;rfl) (by omega) (by omega) rfl fun z vS' => ?_
    conv=>arg 8;simp only[zA,zB,zC,zD,zE,zF,zG,zH,zI,rowS,ret,id_eq]
    refine TL_merge (elsO (sliceS itS) (fun k=>F k∨vl.ownBlock=some k) ((vss.map fun v=>[v])++[[vl]]) (S++[s])) 5 4 [0,1,2,3] (by decide) rfl rfl rfl (fun k hk=>hk.elim (fun h=>by cases h) fun h=>h.elim (fun h=> .inr (.inr h)) fun h=> .inl (.inl h)) (fun w hr he=>els_snoc he (it_of_row hr) (row_foot hr)) ?_
    conv=>arg 8;simp only[zA,zB,zC,zD,zE,zF,zG,zH,zI,rowS,ret,id_eq]
    try refine GA ?_
    refine TL_slv (i:=3) rfl fun hv1 hv2=>TL_store1 (i:=2) rfl rfl rfl hv1 hv2 rfl ?_
    conv=>arg 8;simp only[zA,zB,zC,zD,zE,zF,zG,zH,zI,rowS,ret,id_eq]
    try refine GA ?_
    exact E_ret1 rfl rfl fun w hm=>hm.meetsB (S:=⟨fun (_:Value×List Value×(Nat→Prop))=>True,fun _=> .int .i64 (S.length:Int),fun x=>stL g6 gm g7 x.1 vN x.2.1 x.2.2 (S++[s])⟩) (vS',vss++[vl],fun k=>F k∨vl.ownBlock=some k) trivial [0,1,2,3,4] (by decide) (by dsimp only[stL];rw[List.map_append,List.map_append,List.length_append];rfl)
end Go.Proofs.Ytldiodhdefnlaaa.eng

/- SmM -/
namespace Go.Proofs.Ytldiodhdefnlaaa.smallL
section
variable (A:Aut) (bl:Nat→Nat)
def addQ (Q:List Nat) (tq:Int):List Nat:=if bl tq.toNat∈Q.map bl then Q else Q++[tq.toNat]
def stepQ (Q:List Nat) (tq:Int):List Nat×Int:=if val bl tq=0 then (Q,-1) else (addQ bl Q tq,(idx ((addQ bl Q tq).map bl) (bl tq.toNat):Int))
def rowQ (q:Nat) (Q:List Nat):Nat→List Nat×List Int
  | 0=>(Q,[])
  | k+1=>((stepQ bl (rowQ q Q k).1 (A.d q k)).1,(rowQ q Q k).2++[(stepQ bl (rowQ q Q k).1 (A.d q k)).2])
def vec (l:List Int):Row:=Vector.ofFn fun b:Fin 256=>l.getD b 0
def minGo:Nat→Nat→List Nat→List Row→List Nat×List Row
  | 0,_,Q,out=>(Q,out)
  | f+1,n,Q,out=>if n<Q.length then minGo f (n+1) (rowQ A bl (Q.getD n 0) Q 256).1 (out++[vec (rowQ A bl (Q.getD n 0) Q 256).2]) else (Q,out)
def minF:List Nat×List Row:=minGo A bl (A.n+1) 0 [0] []
end
def minA (A:Aut):Aut:=⟨(minF A (blocksF A)).1.length,fun k b=>((minF A (blocksF A)).2.getD k (Vector.replicate 256 0)).toList.getD b 0,fun k=>((minF A (blocksF A)).1.map A.tag).getD k 0⟩
section
variable {A:Aut} {bl:Nat→Nat}
structure QOk (A:Aut) (bl:Nat→Nat) (Q:List Nat):Prop where
  head:∃ R,Q=0::R∧∀ q∈R,bl q≠0
  lt:∀ q∈Q,q<A.n
  nodup:(Q.map bl).Nodup
theorem QOk.len {Q:List Nat} (h:QOk A bl Q):Q.length≤A.n∧0<Q.length:=by
  have h1:Q.Nodup:=List.Pairwise.of_map bl (fun a b hne e=>hne (by rw[e])) h.nodup
  refine⟨nodup_bound h1 h.lt,?_⟩
  obtain⟨R,rfl,_⟩:=h.head
  simp
theorem qok0 (hA:A.Ok):QOk A bl [0]:=⟨⟨[],rfl,by simp⟩,fun q hq=>by simp at hq;subst hq;exact hA.pos,by simp⟩
theorem qok_add {Q:List Nat} (h:QOk A bl Q) {tq:Int} (h1:St A tq) (h0:val bl tq≠0):QOk A bl (addQ bl Q tq):=by
  unfold addQ
  unfold val at h0
  split at h0
  · exact absurd rfl h0
  · split
    · exact h
    · rename_i hneg hn
      unfold St at h1
      obtain⟨R,rfl,hR⟩:=h.head
      refine⟨⟨R++[tq.toNat],rfl,fun q hq => ?_⟩,fun q hq => ?_,?_⟩
      · rcases List.mem_append.1 hq with hq | hq
        · exact hR q hq
        · simp at hq;subst hq;exact h0
      · rcases List.mem_append.1 hq with hq | hq
        · exact h.lt q hq
        · simp at hq;subst hq;omega
      · rw[List.map_append]
        refine List.nodup_append.2 ⟨h.nodup,by simp,fun a ha b hb e => ?_⟩
        simp at hb;subst hb e
        exact hn ha
theorem add_pre (Q:List Nat) (tq:Int):∃ E,addQ bl Q tq=Q++E:=by
  unfold addQ;split
  · exact⟨[],by simp⟩
  · exact⟨_,rfl⟩
theorem add_mem (Q:List Nat) (tq:Int):bl tq.toNat∈(addQ bl Q tq).map bl:=by
  unfold addQ;split
  · assumption
  · simp
theorem qok_step {Q:List Nat} (h:QOk A bl Q) {tq:Int} (h1:St A tq):QOk A bl (stepQ bl Q tq).1:=by
  unfold stepQ;split
  · exact h
  · rename_i h0;exact qok_add h h1 h0
theorem step_pre (Q:List Nat) (tq:Int):∃ E,(stepQ bl Q tq).1=Q++E:=by
  unfold stepQ;split
  · exact⟨[],by simp⟩
  · exact add_pre Q tq
theorem row_len (q:Nat) (Q:List Nat):∀ k,(rowQ A bl q Q k).2.length=k
  | 0=>rfl
  | k+1=>by simp[rowQ,row_len q Q k]
theorem st_d (hA:A.Ok) {q:Nat} (hq:q<A.n) {b:Nat} (hb:b<256):St A (A.d q b):=hA.step q hq b hb
theorem qok_row (hA:A.Ok) {Q:List Nat} (h:QOk A bl Q) {q:Nat} (hq:q<A.n):∀ k,k≤256→QOk A bl (rowQ A bl q Q k).1
  | 0,_=>h
  | k+1,hk=>qok_step (qok_row hA h hq k (by omega)) (st_d hA hq (by omega))
theorem row_pre (q:Nat) (Q:List Nat):∀ k,∃ E,(rowQ A bl q Q k).1=Q++E
  | 0=>⟨[],by simp[rowQ]⟩
  | k+1=>by
    obtain⟨E,h⟩:=row_pre q Q k
    obtain⟨E',h'⟩:=step_pre (bl:=bl) (rowQ A bl q Q k).1 (A.d q k)
    exact⟨E++E',by simp only[rowQ];rw[h',h,List.append_assoc]⟩
def RowIs (A:Aut) (bl:Nat→Nat) (Q:List Nat) (q b:Nat) (x:Int):Prop:=(val bl (A.d q b)=0→x = -1)∧(val bl (A.d q b)≠0→val bl (A.d q b)∈Q.map bl∧x=(idx (Q.map bl) (val bl (A.d q b)):Int))
theorem RowIs.more {Q:List Nat} {q b:Nat} {x:Int} (h:RowIs A bl Q q b x) (E:List Nat):RowIs A bl (Q++E) q b x:=by
  refine⟨h.1,fun h0 => ?_⟩
  obtain⟨h1,h2⟩:=h.2 h0
  rw[List.map_append,idx_pre h1]
  exact⟨List.mem_append_left _ h1,h2⟩
theorem step_is (Q:List Nat) (q b:Nat):RowIs A bl (stepQ bl Q (A.d q b)).1 q b (stepQ bl Q (A.d q b)).2:=by
  unfold stepQ
  split
  · rename_i h;exact⟨fun _=>rfl,fun h'=>absurd h h'⟩
  · rename_i h
    refine⟨fun h'=>absurd h' h,fun _ => ?_⟩
    have e:val bl (A.d q b)=bl (A.d q b).toNat:=by
      unfold val at h ⊢
      split at h
      · exact absurd rfl h
      · rename_i hn;rw[if_neg hn]
    rw[e]
    exact⟨add_mem Q _,rfl⟩
theorem row_is (q:Nat) (Q:List Nat):∀ k b,b<k→RowIs A bl (rowQ A bl q Q k).1 q b ((rowQ A bl q Q k).2.getD b 0)
  | 0,_,h=>by omega
  | k + 1,b,h=>by
    have hl:=row_len (A:=A) (bl:=bl) q Q k
    simp only[rowQ]
    by_cases c:b<k
    · have ih:=row_is q Q k b c
      obtain⟨E,e⟩:=step_pre (bl:=bl) (rowQ A bl q Q k).1 (A.d q k)
      rw[e,getD_left (by omega)]
      exact ih.more E
    · obtain rfl:b=k:=by omega
      rw[getD_right (by omega),hl,Nat.sub_self]
      exact step_is _ q b
theorem vec_get (l:List Int) (b:Nat) (hb:b<256):(vec l).toList.getD b 0=l.getD b 0:=by
  have h:b<(vec l).toList.length:=by simp;exact hb
  rw[List.getD_eq_getElem?_getD,List.getElem?_eq_getElem h,Option.getD_some,Vector.getElem_toList]
  unfold vec
  rw[Vector.getElem_ofFn]
structure Outs (A:Aut) (bl:Nat→Nat) (n:Nat) (Q:List Nat) (out:List Row):Prop where
  len:out.length=n
  le:n≤Q.length
  rows:∀ k,k<n→∀ b,b<256→RowIs A bl Q (Q.getD k 0) b ((out.getD k (Vector.replicate 256 0)).toList.getD b 0)
theorem outs_step (hA:A.Ok) {n:Nat} {Q:List Nat} {out:List Row} (h:Outs A bl n Q out) (hn:n<Q.length):Outs A bl (n+1) (rowQ A bl (Q.getD n 0) Q 256).1 (out++[vec (rowQ A bl (Q.getD n 0) Q 256).2]):=by
  obtain⟨E,e⟩:=row_pre (A:=A) (bl:=bl) (Q.getD n 0) Q 256
  have hr:=row_is (A:=A) (bl:=bl) (Q.getD n 0) Q 256
  have hlen:=h.len
  refine⟨by simp[hlen],by rw[e];simp;omega,fun k hk b hb => ?_⟩
  have hk':k<Q.length:=by omega
  rw[e] at hr ⊢
  rw[getD_left hk']
  by_cases c:k<n
  · rw[getD_left (by omega)]
    exact (h.rows k c b hb).more E
  · obtain rfl:k=n:=by omega
    rw[getD_right (by omega),hlen,Nat.sub_self]
    show RowIs A bl (Q++E) (Q.getD k 0) b ((vec _).toList.getD b 0)
    rw[vec_get _ b hb]
    exact hr b hb
theorem getD_mem {Q:List Nat} {n:Nat} (h:n<Q.length):Q.getD n 0∈Q:=by
  rw[List.getD_eq_getElem?_getD,List.getElem?_eq_getElem h];exact List.getElem_mem h
theorem min_go (hA:A.Ok):∀ (f n:Nat) (Q:List Nat) (out:List Row),QOk A bl Q→Outs A bl n Q out→A.n+1≤f+n→QOk A bl (minGo A bl f n Q out).1∧Outs A bl (minGo A bl f n Q out).1.length (minGo A bl f n Q out).1 (minGo A bl f n Q out).2
  | 0,n,Q,out,hQ,hO,hf=>by have:=hQ.len;have:=hO.le;omega
  | f + 1,n,Q,out,hQ,hO,hf=>by
    unfold minGo
    split
    · rename_i hn
      exact min_go hA f _ _ _ (qok_row hA hQ (hQ.lt _ (getD_mem hn)) 256 (Nat.le_refl _)) (outs_step hA hO hn) (by omega)
    · rename_i hn
      have:=hO.le
      obtain rfl:n=Q.length:=by omega
      exact⟨hQ,hO⟩
theorem min_ok (hA:A.Ok):QOk A bl (minF A bl).1∧Outs A bl (minF A bl).1.length (minF A bl).1 (minF A bl).2:=
  min_go hA _ _ _ _ (qok0 hA) ⟨rfl,Nat.zero_le _,fun k hk=>by omega⟩ (by omega)
theorem min_rows (hA:A.Ok) {k:Nat} (hk:k<(minA A).n) {b:Nat} (hb:b<256):RowIs A (blocksF A) (minF A (blocksF A)).1 ((minF A (blocksF A)).1.getD k 0) b ((minA A).d k b):=
  (min_ok (bl:=blocksF A) hA).2.rows k hk b hb
theorem idx_map {Q:List Nat} (hn:(Q.map bl).Nodup) {k:Nat} (hk:k<Q.length):idx (Q.map bl) (bl (Q.getD k 0))=k:=by
  have h:k<(Q.map bl).length:=by simpa using hk
  have:=idx_of_get hn h
  rw[List.getElem_map] at this
  rw[List.getD_eq_getElem?_getD,List.getElem?_eq_getElem hk];exact this
theorem min_tag {k:Nat} (hk:k<(minA A).n):(minA A).tag k=A.tag ((minF A (blocksF A)).1.getD k 0):=by
  have hk':k<(minF A (blocksF A)).1.length:=hk
  show ((minF A (blocksF A)).1.map A.tag).getD k 0=_
  rw[List.getD_eq_getElem?_getD,List.getElem?_map,List.getD_eq_getElem?_getD,List.getElem?_eq_getElem hk'];rfl
theorem minA_ok (hA:A.Ok):(minA A).Ok:=by
  obtain⟨hQ,hO⟩:=min_ok (bl:=blocksF A) hA
  obtain⟨h1,h2⟩:=hQ.len
  have hle:=hA.le
  refine⟨h2,Nat.le_trans h1 hle,fun k hk b hb => ?_,fun k hk=>by rw[min_tag hk];exact hA.tags _ (hQ.lt _ (getD_mem hk))⟩
  have hr:=min_rows hA hk hb
  by_cases c:val (blocksF A) (A.d ((minF A (blocksF A)).1.getD k 0) b)=0
  · rw[hr.1 c];exact⟨by omega,by omega⟩
  · obtain⟨r1,r2⟩:=hr.2 c
    have:=idx_lt r1
    rw[List.length_map] at this
    rw[r2]
    exact⟨by omega,by show _<((minF A (blocksF A)).1.length:Int);omega⟩
end
end Go.Proofs.Ytldiodhdefnlaaa.smallL

/- SmU -/
namespace Go.Proofs.Ytldiodhdefnlaaa.smallL
section
variable {A B:Aut}
def sameAB (A B:Aut) (q r:Int):Prop:=∀ s,tg A (go A q s)=tg B (go B r s)
theorem sameAB.step {q r:Int} (h:sameAB A B q r) (b:Nat) (hb:b<256):sameAB A B (dt A q b) (dt B r b):=fun s=>by
  have:=h (UInt8.ofNat b::s)
  have e:(UInt8.ofNat b).toNat=b:=by simp;omega
  simp only[go,e] at this
  exact this
theorem val_nat (f:Nat→Nat) (q:Nat):val f (q:Int)=f q:=by unfold val;rw[if_neg (by omega),Int.toNat_natCast]
end
end Go.Proofs.Ytldiodhdefnlaaa.smallL

/- Els -/
namespace Go.Proofs.Ytldiodhdefnlaaa.eng
open Go.RowKit kit mix
section
variable {α:Type} {s:Shp α} {F:Nat→Prop} {vs:List Value} {S:List (List α)} {W:Base} {L:List Own} {w:World}
theorem els_count (h:(elsO (sliceS s) F (vs.map fun v=>[v]) S).holds w):vs.length=S.length:=by have:=h.1.1;rwa [List.length_map] at this
theorem els_is (h:(elsO (sliceS s) F (vs.map fun v=>[v]) S).holds w) {q:Nat} (hq:q<S.length) {v:Value} (hv:vs[q]?=some v):SlF s F w v S[q]:=by
  have hnv:q<vs.length:=(List.getElem?_eq_some_iff.1 hv).1
  obtain⟨v',e,hs⟩:=h.1.2 q hq (by rw[List.length_map];exact hnv)
  rw[List.getElem_map] at e
  have h2:=(List.getElem?_eq_some_iff.1 hv).2
  rw[h2] at e
  rw[(List.cons.inj e).1]
  exact hs
theorem els_form (h:(elsO (sliceS s) F (vs.map fun v=>[v]) S).holds w) {q:Nat} (hq:q<S.length) {v:Value} (hv:vs[q]?=some v):∃ base cap,v = .slice base S[q].length cap∧S[q].length≤cap∧cap≤9223372036854775807∧(0<S[q].length→∃ b off,base=some ⟨b,off,none⟩):=by
  obtain⟨base,cap,e,h1,h2,h3⟩:=els_is h hq hv
  exact⟨base,cap,e,h1,by unfold maxLen at h2;omega,fun hn=>let ⟨b,off,h4,_⟩:=h3 hn;⟨b,off,h4⟩⟩
theorem els_sl {f:α→List Value} {c:Nat} {hc:∀ a,(f a).length=c} {p:α→Prop} (hc0:0<c) {i:Nat} (hi:L[i]?=some (elsO (sliceS (flatS f c hc p)) F (vs.map fun v=>[v]) S)) {q:Nat} (hq:q<S.length) {v:Value} (hv:vs[q]?=some v):SlL W L v S[q].length (S[q].flatMap f):=fun w hm=>
  SlF.flat hc0 (els_is (hm.get hi) hq hv)
end
end Go.Proofs.Ytldiodhdefnlaaa.eng

/- ItD -/
namespace Go.Proofs.Ytldiodhdefnlaaa.eng
open Go.RowKit kit mix gramL treeL factsL itemL smallL
def itCnt (c:itemL.Item→Nat) (x:itemL.Item):Value:= .int .i64 (c x:Int)
def itUp (c:itemL.Item→Nat) (it:itemL.Item) (x:itemL.Item):Nat:=if x=it then c x+1 else c x
structure PutOk (c:itemL.Item→Nat) (out:List itemL.Item) (b:Nat):Prop where
  zero:∀ x,c x=0↔x∉out
  le:∀ x,c x≤b
theorem PutOk.put {c:itemL.Item→Nat} {out:List itemL.Item} {b:Nat} (h:PutOk c out b) (it:itemL.Item):PutOk (itUp c it) (more out it) (b+2):=by
  refine⟨fun x => ?_,fun x => ?_⟩
  · unfold itUp
    by_cases e:x=it
    · subst e
      rw[if_pos rfl]
      constructor
      · intro h;omega
      · intro h;exact absurd (mem_more.2 (.inr rfl)) h
    · rw[if_neg e,h.zero x]
      rw[mem_more]
      constructor
      · intro h1 h2;exact h2.elim h1 e
      · intro h1 h2;exact h1 (.inl h2)
  · unfold itUp
    have:=h.le x
    split <;> omega
def putL (g5 gm g6 b:Nat) (v:Value) (c:itemL.Item→Nat) (out:List itemL.Item):List Own:=
  [blkO g5 #[.map (some gm)] 175,mapT itK gm (.int .i64 0) (itCnt c) b,blkO g6 #[v] 148,rowO 153 3 v out.length (out.flatMap itC)]
theorem it_oneC (x:itemL.Item):∀ u∈itC x,u.oneCell'=true:=by
  intro u hu
  simp only[itC,List.mem_cons,List.not_mem_nil,or_false] at hu
  rcases hu with rfl | rfl | rfl <;> rfl
set_option maxHeartbeats 2000000 in
theorem itPut_calls (g5 gm g6 b:Nat) (v:Value) (c:itemL.Item→Nat) (out:List itemL.Item) (it:itemL.Item) (hit:itK.ok it) (hp:PutOk c out b) (hb:b+2≤1152921504606846976) (ho:out.length+1≤1000000) (w:World) (B:Base) (hm:Mem B (putL g5 gm g6 b v c out) w) :
    Calls Try.prog 61 #[.agg (itC it).toArray,.pointer (some ⟨g5,0,none⟩),.pointer (some ⟨g6,0,none⟩)] w (MeetsB ⟨fun _=>True,fun _=> .tuple #[],fun v'=>putL g5 gm g6 (b+2) v' (itUp c it) (more out it)⟩ B):=by
  unfold putL at hm
  have hle:=hp.le it
  have hz:=hp.zero it
  obtain⟨n,hn⟩:∃ n,c it=n:=⟨_,rfl⟩
  obtain⟨F,hF⟩:∃ F,itCnt c=F:=⟨_,rfl⟩
  obtain⟨F',hF'⟩:∃ F',itCnt (itUp c it)=F':=⟨_,rfl⟩
  have hcv:F it = .int .i64 (n:Int):=by rw[←hF,←hn];rfl
  have hF1:F' it = .int .i64 ((n+1:Nat):Int):=by rw[←hF',←hn];show Value.int .i64 ((itUp c it it:Nat):Int)=_;unfold itUp;rw[if_pos rfl]
  have hnx:∀ y,itK.ok y→F' y=if y=it then .int .i64 ((n+1:Nat):Int) else F y:=fun y _=>by
    rw[←hF',←hF,←hn]
    show Value.int .i64 ((itUp c it y:Nat):Int)=if y=it then _ else Value.int .i64 ((c y:Nat):Int)
    unfold itUp
    by_cases e:y=it
    · subst e;rw[if_pos rfl,if_pos rfl]
    · rw[if_neg e,if_neg e]
  rw[hF] at hm
  rw[hn] at hle hz
  clear hp
  refine enterB hm (args:=[.agg (itC it).toArray,.pointer (some ⟨g5,0,none⟩),.pointer (some ⟨g6,0,none⟩)]) (n:=18) Try.func61 rfl rfl rfl ?_
  refine T_seq (T_region (TL_box rfl rfl rfl fun g3 => ?_))
  conv=>arg 8;simp only[zA,zB,zC,zD,zE,zF,zG,zH,zI,rowS,ret,id_eq]
  try refine GA ?_
  (repeat refine T_seq ?_)
  refine T_midq (ι:=Unit) (fun _=>True) (fun _=>[(1,.pointer (some ⟨g5,0,none⟩)),(2,.pointer (some ⟨g6,0,none⟩)),(3,.pointer (some ⟨g3,0,none⟩))]) (fun _=>[blkO g5 #[.map (some gm)] 175,mapT itK gm (.int .i64 0) F' (b+1+1),blkO g6 #[v] 148,rowO 153 3 v out.length (out.flatMap itC),blkO g3 (itC it).toArray 153]) ?_ ?_
  · refine T_ord ([blkO g5 #[.map (some gm)] 175,blkO g3 (itC it).toArray 153]) (.calm 0 (.calm 1 (.two 2 (.calm 3 (.one 4 (.calm 5 (.one 6 (.done))))) 4 (.calm 5 (.one 2 (.calm 3 (.one 6 (.done)))))))) (sub_pick [0,4] (by decide) rfl) (by kernel_rfl) (by kernel_rfl) (by intro c a d v w h;cases d <;> exact h) ?_
    repeat(first|refine GW ?_|(refine GN ?_;first|refine QW (rr_load1 (v:= .map (some gm)) TyC.ty rfl (at_blk (i:=0) rfl rfl)) ?_|refine QW (rr_loadB (i:=1) TyC.ty rfl rfl rfl) ?_))
    refine TW_two rfl rfl ?_ ?_
    · refine TL_val (rr_lookT itK Und.eq zero_i64 (i:=1) rfl rfl (x:=it) rfl hit hcv) rfl rfl rfl (TW_on (sub_pick [0,4] (by decide) rfl) ?_)
      repeat(first|(refine GN ?_;first|refine QW QP ?_|refine QW (rr_add64 (r:=((n+1:Nat):Int)) rfl rfl (by omega) (by omega) (by omega)) ?_|refine GX ?_)|refine GW ?_)
      refine TW_one rfl (TL_entry itK Und.eq zero_i64 (i:=1) rfl rfl (x:=it) rfl hit (by omega) rfl fun st=>TW_on (sub_pick [0,4] (by decide) rfl) ?_)
      try refine GW ?_
      refine TW_one rfl (TL_entSet itK F' Und.eq (i:=1) rfl rfl rfl rfl hit (by omega) hnx (TW_on (sub_pick [0,4] (by decide) rfl) ?_))
      try refine GW ?_
      exact E_mid () trivial (by repeat' (first | exact True.intro | refine And.intro rfl ?_)) rfl
    · refine TL_entry itK Und.eq zero_i64 (i:=1) rfl rfl (x:=it) rfl hit (by omega) rfl fun st=>TW_on (sub_pick [0,4] (by decide) rfl) ?_
      try refine GW ?_
      refine TW_one rfl (TL_val (rr_lookE itK Und.eq zero_i64 (i:=1) rfl rfl (x:=it) rfl hit hcv) rfl rfl rfl (TW_on (sub_pick [0,4] (by decide) rfl) ?_))
      repeat(first|(refine GN ?_;first|refine QW QP ?_|refine QW (rr_add64 (r:=((n+1:Nat):Int)) rfl rfl (by omega) (by omega) (by omega)) ?_|refine GX ?_)|refine GW ?_)
      refine TW_one rfl (TL_entSet itK F' Und.eq (i:=1) rfl rfl rfl rfl hit (by omega) hnx (TW_on (sub_pick [0,4] (by decide) rfl) ?_))
      try refine GW ?_
      exact E_mid () trivial (by repeat' (first | exact True.intro | refine And.intro rfl ?_)) rfl
  rintro⟨⟩ _
  by_cases c1:it∈out
  · have hm1:more out it=out:=if_pos c1
    rw[hm1]
    have hn0:n≠0:=fun e=>hz.1 e c1
    clear hnx hcv
    repeat(first|refine GC ?_|refine gV (rr_load1 (v:= .map (some gm)) TyC.ty rfl (at_blk (i:=0) rfl rfl)) ?_|refine gV (rr_loadB (i:=4) TyC.ty rfl rfl rfl) ?_|refine gV (rr_lookT itK Und.eq zero_i64 (i:=1) rfl rfl (x:=it) rfl hit hF1) ?_|refine gV (rr_eql (b:=false) rfl rfl (decide_eq_false (by omega))) ?_|refine GB ?_)
    exact E_end0 rfl fun w hm=>hm.meetsB (S:=⟨fun (_:Value)=>True,fun _=> .tuple #[],fun v'=>putL g5 gm g6 (b+2) v' (itUp c it) out⟩) v trivial [0,1,2,3] (by decide) (by unfold putL;rw[←hF'];rfl)
  · have hm1:more out it=out++[it]:=if_neg c1
    rw[hm1]
    have hn0:n=0:=hz.2 c1
    clear hnx hcv
    repeat(first|refine GC ?_|refine gV (rr_load1 (v:= .map (some gm)) TyC.ty rfl (at_blk (i:=0) rfl rfl)) ?_|refine gV (rr_loadB (i:=4) TyC.ty rfl rfl rfl) ?_|refine gV (rr_lookT itK Und.eq zero_i64 (i:=1) rfl rfl (x:=it) rfl hit hF1) ?_|refine gV (rr_eql (b:=true) rfl rfl (decide_eq_true (by omega))) ?_|refine gV (rr_load1 (v:=v) TyC.ty rfl (at_blk (i:=2) rfl rfl)) ?_|refine GB ?_)
    refine TL_litN (cs:=(itC it).toArray) [.agg (itC it).toArray] rfl rfl rfl (by intro v hv;simp only[List.mem_cons,List.not_mem_nil,or_false] at hv;subst hv;rfl) rfl rfl rfl fun g16 => ?_
    conv=>arg 8;simp only[zA,zB,zC,zD,zE,zF,zG,zH,zI,rowS,ret,id_eq]
    refine TL_appSl (i:=3) (e:= 153) (size:=3) (bytes:=24) (m:=out.length) (xs:=out.flatMap itC) (k:=1) (ys:=itC it) rfl (sl_blk (i:=5) rfl (fun j u h=>by simpa using h) (Nat.le_refl 1) (by decide)) rfl rfl rfl (it_oneC it) (by omega) (by omega) rfl fun v' => ?_
    conv=>arg 8;simp only[zA,zB,zC,zD,zE,zF,zG,zH,zI,rowS,ret,id_eq]
    refine TL_slv (i:=3) rfl fun hv1 hv2 => ?_
    refine TL_store1 (i:=2) rfl rfl rfl hv1 hv2 rfl ?_
    conv=>arg 8;simp only[zA,zB,zC,zD,zE,zF,zG,zH,zI,rowS,ret,id_eq]
    try refine GA ?_
    exact E_end0 rfl fun w hm=>hm.meetsB (S:=⟨fun (_:Value)=>True,fun _=> .tuple #[],fun v'=>putL g5 gm g6 (b+2) v' (itUp c it) (out++[it])⟩) v' trivial [0,1,2,3] (by decide) (by unfold putL;rw[←hF',List.flatMap_append,List.length_append];rfl)
end Go.Proofs.Ytldiodhdefnlaaa.eng

/- SortJ -/
namespace Go.Proofs.Ytldiodhdefnlaaa.eng
open Go.Shelf
def sortIt_ren:Go.Shelf.Ren:=⟨fun | 6=> 64 | 15=> 68 | 14=> 69 | 28=> 81 | 29=> 82 | 20=> 83 | 21=> 84 | 22=> 85 | 23=> 86 | 24=> 87 | 25=> 88 | 26=> 89 | 27=> 90 | 46=> 97 | 47=> 93 | 48=> 94 | 49=> 98 | 50=> 99 | 57=> 101 | n=>n,fun | 22=> 148 | 24=> 153 | 25=> 180 | 3=> 3 | 39=> 184 | 0=> 0 | 53=> 201 | 55=> 64 | 4=> 4 | 46=> 194 | 45=> 193 | 50=> 80 | 5=> 5 | 9=> 9 | 66=> 208 | 70=> 158 | 76=> 215 | 77=> 216 | n=>n,fun | n=>n⟩
theorem sortIt:Go.Proofs.SlLaysF0.n6 Try.prog sortIt_ren:={
  mixed:=by kernel_rfl
  f6:=⟨Try.f64.name,by decide,Try.func64.trans (congrArg some (by kernel_rfl))⟩
  f14:=⟨Try.f69.name,by decide,Try.func69.trans (congrArg some (by kernel_rfl))⟩
  f15:=Try.func68.trans (congrArg some (by kernel_rfl))
  f20:=⟨Try.f83.name,by decide,Try.func83.trans (congrArg some (by kernel_rfl))⟩
  f21:=⟨Try.f84.name,by decide,Try.func84.trans (congrArg some (by kernel_rfl))⟩
  f22:=⟨Try.f85.name,by decide,Try.func85.trans (congrArg some (by kernel_rfl))⟩
  f23:=⟨Try.f86.name,by decide,Try.func86.trans (congrArg some (by kernel_rfl))⟩
  f24:=⟨Try.f87.name,by decide,Try.func87.trans (congrArg some (by kernel_rfl))⟩
  f25:=⟨Try.f88.name,by decide,Try.func88.trans (congrArg some (by kernel_rfl))⟩
  f26:=⟨Try.f89.name,by decide,Try.func89.trans (congrArg some (by kernel_rfl))⟩
  f27:=⟨Try.f90.name,by decide,Try.func90.trans (congrArg some (by kernel_rfl))⟩
  f28:=Try.func81.trans (congrArg some (by kernel_rfl))
  f29:=Try.func82.trans (congrArg some (by kernel_rfl))
  f46:=⟨Try.f97.name,by decide,Try.func97.trans (congrArg some (by kernel_rfl))⟩
  f47:=Try.func93.trans (congrArg some (by kernel_rfl))
  f48:=Try.func94.trans (congrArg some (by kernel_rfl))
  f49:=⟨Try.f98.name,by decide,Try.func98.trans (congrArg some (by kernel_rfl))⟩
  f50:=⟨Try.f99.name,by decide,Try.func99.trans (congrArg some (by kernel_rfl))⟩
  f57:=⟨Try.f101.name,by decide,Try.func101.trans (congrArg some (by kernel_rfl))⟩
  t0:=Try.underlying0
  a0:=Try.isAgg0
  z0:=Try.sizeOf0
  v0:=Try.zeroValue0
  t3:=Try.underlying3
  a3:=Try.isAgg3
  z3:=Try.sizeOf3
  v3:=Try.zeroValue3
  t4:=Try.underlying4
  a4:=Try.isAgg4
  z4:=Try.sizeOf4
  v4:=Try.zeroValue4
  t5:=Try.underlying5
  a5:=Try.isAgg5
  z5:=Try.sizeOf5
  v5:=Try.zeroValue5
  t9:=Try.underlying9
  a9:=Try.isAgg9
  z9:=Try.sizeOf9
  v9:=Try.zeroValue9
  t22:=Try.underlying148
  a22:=Try.isAgg148
  z22:=Try.sizeOf148
  v22:=Try.zeroValue148
  t25:=Try.underlying180
  a25:=Try.isAgg180
  z25:=Try.sizeOf180
  v25:=Try.zeroValue180
  t39:=Try.underlying184
  a39:=Try.isAgg184
  z39:=Try.sizeOf184
  v39:=Try.zeroValue184
  t45:=Try.underlying193
  a45:=Try.isAgg193
  z45:=Try.sizeOf193
  v45:=Try.zeroValue193
  t46:=Try.underlying194
  a46:=Try.isAgg194
  z46:=Try.sizeOf194
  v46:=Try.zeroValue194
  t50:=Try.underlying80
  a50:=Try.isAgg80
  z50:=Try.sizeOf80
  v50:=Try.zeroValue80
  t53:=Try.underlying201
  a53:=Try.isAgg201
  z53:=Try.sizeOf201
  v53:=Try.zeroValue201
  t55:=Try.underlying64
  a55:=Try.isAgg64
  z55:=Try.sizeOf64
  v55:=Try.zeroValue64
  t66:=Try.underlying208
  a66:=Try.isAgg208
  z66:=Try.sizeOf208
  v66:=Try.zeroValue208
  t70:=Try.underlying158
  a70:=Try.isAgg158
  z70:=Try.sizeOf158
  v70:=Try.zeroValue158
  t76:=Try.underlying215
  a76:=Try.isAgg215
  z76:=Try.sizeOf215
  v76:=Try.zeroValue215
  t77:=Try.underlying216
  a77:=Try.isAgg216
  z77:=Try.sizeOf216
  v77:=Try.zeroValue216 }
end Go.Proofs.Ytldiodhdefnlaaa.eng

/- ItE -/
namespace Go.Proofs.Ytldiodhdefnlaaa.eng
open Go.RowKit kit mix itemL Go.Sort
theorem put_blockV (w:World) (n g:Nat) (d:Array Value) (os:Array Obj) {k:Nat} (hk:k<w.heap.size) (hg:k≠g):(grow (putRow id (Go.Sort.ahead w n) g 0 d) os).heap[k]?=w.heap[k]?:=by
  rw[heap_grow_old _ _ (by rw[size_putRow];exact hk)]
  show (w.heap.modify g _)[k]?=w.heap[k]?
  rw[Array.getElem?_modify,if_neg (fun h=>hg h.symm)]
theorem put_memV {B:Base} {w:World} {e:TypeId} {g cap m size:Nat} {xs:List Value} (hm:Mem B [rowO e size (.slice (some ⟨g,0,none⟩) m cap) m xs] w) (d:Array Value) (hd:d.size=m*size) (n:Nat) (os:Array Obj) :
    Mem B [rowO e size (.slice (some ⟨g,0,none⟩) m cap) m d.toList] (grow (putRow id (Go.Sort.ahead w n) g 0 d) os):=by
  have ho:w.ownsRow 0 e size (.slice (some ⟨g,0,none⟩) m cap) m xs:=hm.get (i:=0) rfl
  obtain⟨hl,hr⟩:=ho
  rcases hr with ⟨h,_⟩ | ⟨g2,cap2,cur,hv,_,hg,hc,hx,hs,ht⟩
  · cases h
  cases hv
  have hmay:B.may g:=(hm.owns.all 0 _ rfl).2 g (.inl rfl)
  have hgw:g<w.heap.size:=(Array.getElem?_eq_some_iff.1 hg).1
  have hheap:(grow (putRow id (Go.Sort.ahead w n) g 0 d) os).heap[g]?=some (.cells (putCells id 0 d cur) e (0,0)):=by
    rw[heap_grow_old _ _ (by rw[size_putRow];exact hgw)]
    show (w.heap.modify g (onCells (putCells id 0 d)))[g]?=_
    rw[Array.getElem?_modify,if_pos rfl,hg];rfl
  have hle:m*size≤cap*size:=Nat.mul_le_mul_right _ hc
  refine⟨⟨hm.low.os,hm.low.tape,hm.low.output,?_,fun k hk hx => ?_⟩,OwnsP.one ⟨?_,.inr ⟨g,cap,_,rfl,Nat.zero_le _,hheap,hc,hx,?_,?_⟩⟩ fun k hk => ?_⟩
  · rw[size_grow,size_putRow];exact Nat.le_trans hm.low.size (Nat.le_add_right _ _)
  · have hkg:k≠g:=fun e=>by
      subst e
      rcases hmay with h | h
      · omega
      · exact hx h
    rw[put_blockV w n g d os (Nat.lt_of_lt_of_le hk hm.low.size) hkg]
    exact hm.low.block k hk hx
  · rw[Array.length_toList,hd]
  · unfold putCells;rw[Array.size_mapIdx];exact hs
  · apply List.ext_getElem?
    intro j
    rw[List.getElem?_take]
    by_cases hj:j<m*size
    · have hjc:j<cur.size:=by omega
      rw[if_pos hj,Array.getElem?_toList,Array.getElem?_toList]
      unfold putCells
      rw[Array.getElem?_mapIdx,Array.getElem?_eq_getElem hjc,Option.map_some,if_pos ⟨Nat.zero_le _,by omega⟩,Nat.sub_zero,getElem!_pos d j (by omega),Array.getElem?_eq_getElem (by omega:j<d.size)]
      rfl
    · rw[if_neg hj,Array.getElem?_toList,Array.getElem?_eq_none (by omega)]
  · rcases hk with h | h
    · simp only[rowO,Value.ownBlock,Option.some.injEq] at h;subst h;exact hmay
    · exact h.elim
theorem swo_it:SWO (ltOf ordI):=⟨ltI_irr,fun _ _ _ h1 h2=>ltI_tr h1 h2,fun x y z h1 h2=>by
  have h1:ltI x y=false:=h1
  have h2:ltI y z=false:=h2
  show ltI x z=false
  rw[ltI_no] at *;omega⟩
theorem flat_it (l:List itemL.Item):(flatK itC 3 l.toArray).toList=l.flatMap itC:=by
  have hL:(l.flatMap itC).length=l.length*3:=len_el itC_len l
  apply List.ext_getElem?
  intro t
  by_cases ht:t<l.length*3
  · have hd:t / 3<l.length:=by omega
    have h1:=get_flatK itC 3 l.toArray t (by simpa using ht)
    rw[getElem!_pos (flatK itC 3 l.toArray) t (by simpa using ht),getElem!_pos l.toArray (t / 3) (by simpa using hd)] at h1
    have h2:=flatten_get (c:=3) (l.map itC) (fun x hx=>by obtain⟨y,_,rfl⟩:=List.mem_map.1 hx;exact itC_len y) (t / 3) (t % 3) (by simpa using hd) (Nat.mod_lt _ (by decide))
    rw[show t / 3*3+t % 3=t by omega,List.getElem_map] at h2
    rw[Array.getElem?_toList,Array.getElem?_eq_getElem (by simpa using ht),h1]
    show _=(l.map itC).flatten[t]?
    rw[h2]
    have h3:t % 3<(itC l[t / 3]).length:=by rw[itC_len];exact Nat.mod_lt _ (by decide)
    rw[List.getElem?_eq_getElem h3]
    simp only[List.getElem_toArray]
    rw[getElem!_pos (itC l[t / 3]) (t % 3) h3]
  · rw[List.getElem?_eq_none (by rw[Array.length_toList,size_flatK];simp;omega),List.getElem?_eq_none (by omega)]
theorem row_holdsV {w:World} {e:TypeId} {g cap m size:Nat} {xs:List Value} (ho:w.ownsRow 0 e size (.slice (some ⟨g,0,none⟩) m cap) m xs) (d:Array Value) (hd:d.toList=xs):Holds id w g 0 d∧g<w.heap.size:=by
  obtain⟨hl,hr⟩:=ho
  rcases hr with ⟨h,_⟩ | ⟨g2,cap2,cur,hv,_,hg,hc,hx,hs,ht⟩
  · cases h
  cases hv
  refine⟨fun j hj => ?_,(Array.getElem?_eq_some_iff.1 hg).1⟩
  have hle:m*size≤cap*size:=Nat.mul_le_mul_right _ hc
  have hj2:j<xs.length:=by rw[←hd];simpa using hj
  have hcj:cur[j]?=some d[j]:=by
    have:=congrArg (fun l=>l[j]?) ht
    rw[List.getElem?_take,if_pos (by omega),Array.getElem?_toList,←hd,Array.getElem?_toList,Array.getElem?_eq_getElem hj] at this
    exact this
  refine⟨?_,?_⟩
  · rw[cell_of_row w g (0+j) _ _ _ hg,Nat.zero_add,hcj,getElem!_pos d j hj];rfl
  · unfold World.frozen?
    rw[hg]
    simp
def OrdLays:Prop:=∀ (x y:itemL.Item) (w:World),Calls Try.prog 65 #[.agg (itC x).toArray,.agg (itC y).toArray] w fun e w'=>e = .returned (.int .i64 (ordI x y))∧∃ q os',w'=grow (w.drewN q) os'
theorem itSortG (hord:OrdLays) (v:Value) (l:List itemL.Item) (w:World) (B:Base) (hm:Mem B [rowO 153 3 v l.length (l.flatMap itC)] w) (hl:l.length<4611686018427387904) :
    Calls Try.prog 64 #[v,.func (.func 65) #[] #[]] w (MeetsB ⟨fun (_:Unit)=>True,fun _=> .tuple #[],fun _=>[rowO 153 3 v l.length ((sortI l).flatMap itC)]⟩ B):=by
  have ho:w.ownsRow 0 153 3 v l.length (l.flatMap itC):=hm.get (i:=0) rfl
  have ho2:=ho
  rcases ho.2 with ⟨rfl,h0⟩ | ⟨g,cap,cur,rfl,_,hg,hc,hx,hs,ht⟩
  · obtain rfl:l=[]:=List.length_eq_zero_iff.1 h0
    refine (AnyF.slices_SortFunc_none sortIt none 0 _ w).mono fun e w' ⟨he,hw⟩=>⟨(),trivial,he,?_⟩
    rw[hw];exact (by simpa[sortI] using hm)
  · obtain⟨h1,h2⟩:=row_holdsV ho2 (flatK itC 3 l.toArray) (flat_it l)
    have hcmp:CmpLays Try.prog 65 #[] itC 3 ordI g 0 l.toArray.size w:=fun m os dk _ x y=>by
      have h:=hord x y (sortWorldK itC 3 w g 0 m dk os)
      simpa using h
    have h:=AnyQ.slices_SortFunc_total sortIt 3 Try.isAgg153 Try.sizeOf153 itC itC_len (fun x v hv=>by simp only[itC,List.mem_cons,List.not_mem_nil,or_false] at hv;rcases hv with rfl | rfl | rfl <;> rfl) ordI swo_it 65 #[] g 0 cap l.toArray w EntersC.en hcmp h1 h2 (by simpa using hl) ltI_parts
    have hz:l.toArray.size=l.length:=by simp
    rw[hz] at h
    refine h.mono fun e w' ⟨he,n,os,hw⟩=>⟨(),trivial,he,?_⟩
    have hlen:(sortI l).length=l.length:=sort_len l
    have hq:=put_memV hm (flatK itC 3 (sortI l).toArray) (by rw[size_flatK];simp[hlen]) n os
    rw[flat_it] at hq
    rw[hw];exact hq
end Go.Proofs.Ytldiodhdefnlaaa.eng

/- ItF -/
namespace Go.Proofs.Ytldiodhdefnlaaa.eng
open Go.RowKit kit mix gramL treeL factsL itemL smallL
def SlB (B:Base) (v:Value) (n:Nat) (xs:List Value):Prop:=
  ∃ base cap,v = .slice base n cap∧n≤cap∧cap≤maxLen∧(0<n→∃ b off,base=some ⟨b,off,none⟩∧OldB B b∧Rd B.w b off xs)
theorem body_at {l:List gramL.Prod} {w0:World} {W:Base} {vb:Nat→Value} {k dn:Nat} {x:Option Nat} {bb:Option Addr} {cc m:Nat} (ho:Old w0 W) (hv:BodR (fun q=>q<w0.heap.size) w0 vb l) (hk:k≤l.length) (hx:x.isSome=decide (k=l.length)) (hb:bodV vb k x = .slice bb m cc) (hd:dn<(bodyI l (k:Int)).length) :
    ∃ b off,bb=some ⟨b,off,none⟩∧∀ (L:List Own) (i:Nat),L[i]?=some (bodO x)→∀ j u,(symC (bodyI l (k:Int))[dn])[j]?=some u→At W L ⟨b,off+dn*2+j,none⟩ u:=by
  cases x with
  | some g=>
    have hk:k=l.length:=by simpa using hx
    subst hk
    have e:bodyI l (l.length:Int)=[(2,0)]:=by unfold bodyI;rw[if_pos rfl]
    have hb:Value.slice (some ⟨g,0,none⟩) 1 1 = .slice bb m cc:=hb
    cases hb
    refine⟨g,0,rfl,fun L i hi j u hj => ?_⟩
    have hd0:dn=0:=by rw[e] at hd;simpa using hd
    subst hd0
    simp only[e,List.getElem_cons_zero] at hj
    rw[show 0+0*2+j=j by omega]
    exact at_blk hi (by simpa[symC] using hj)
  | none=>
    have hk':k<l.length:=by
      have:¬ k=l.length:=by simpa using hx
      omega
    have e:bodyI l (k:Int)=(prodAt l (k:Int)).2:=by unfold bodyI;rw[if_neg (by omega)]
    have hs:=(hv k hk').flat (f:=symC) (by decide)
    have hb:vb k = .slice bb m cc:=hb
    rw[hb] at hs
    obtain⟨base,cap,h1,_,_,h3⟩:=hs
    cases h1
    have hd':dn<(prodAt l (k:Int)).2.length:=by rw[←e];exact hd
    obtain⟨b,off,rfl,hr⟩:=h3 (by omega)
    refine⟨b,off,rfl,fun L i _ j u hj => ?_⟩
    simp only[e] at hj
    exact at_elL (W:=W) (L:=L) SymC_len (off:=off) (fun q y hq=>at_old0 ho (hr q y hq)) hd' j u hj
theorem looksI_lt (g:Gram) {it:itemL.Item} (h:it.2.2.toNat<64):looksI (lkG g) it<18446744073709551616:=by
  have h1:lkG g it.1 it.2.1<18446744073709551616:=begV_lt (by decide)
  unfold looksI
  split
  · exact Nat.or_lt_two_pow (n:=64) (Nat.xor_lt_two_pow (n:=64) h1 (by decide)) (Nat.pow_lt_pow_right (by decide) h)
  · exact h1
theorem expLook_le {i bits:Nat} {out:List itemL.Item}:∀ k,(expLook i bits out k).length≤out.length+k
  | 0=>Nat.le_refl _
  | k+1=>by
    rw[expLook]
    have:=expLook_le (i:=i) (bits:=bits) (out:=out) k
    have h2:(more (expLook i bits out k) ((i:Int),0,(k:Int))).length≤(expLook i bits out k).length+1:=by unfold more;split <;> simp
    split <;> omega
theorem expProd_le {l:List gramL.Prod} {T:Nat} {N:Int} {bits:Nat} {out:List itemL.Item}:∀ i,(expProd l T N bits out i).length≤out.length+i*(T+1)
  | 0=>by rw[Nat.zero_mul];exact Nat.le_refl _
  | i+1=>by
    rw[expProd,Nat.succ_mul]
    have:=expProd_le (l:=l) (T:=T) (N:=N) (bits:=bits) (out:=out) i
    have h2:=expLook_le (i:=i) (bits:=bits) (out:=expProd l T N bits out i) (T+1)
    split <;> omega
theorem pickMem {L:List Own} {is:List Nat} {o:Own} (h:o∈is.filterMap fun i=>L[i]?):o∈L:=by
  obtain⟨i,_,hi⟩:=List.mem_filterMap.1 h
  exact List.mem_of_getElem? hi
def opL (g:Gram) (bp:Option Addr) (cp go gm:Nat) (f:RK→Option Value) (c:Nat):List Own:=[blkO go (opC g.terms g.nons (.slice bp g.prods.length cp) gm).toArray 173,mapO restK gm f c]
theorem firstsLe {κ:Type} [DecidableEq κ]:∀ (l D:List κ),(firsts D l).length≤D.length+l.length
  | [],D=>by simp[firsts]
  | k::r,D=>by
    rw[firsts]
    have:=firstsLe r (if k∈D then D else D++[k])
    have h2:(if k∈D then D else D++[k]).length≤D.length+1:=by split <;> simp
    rw[List.length_cons];omega
theorem right_ok {l:List gramL.Prod} {T:Nat} {x:itemL.Item} (h:RightI l T x) (hl:l.length≤40) (hw:∀ q∈l,q.2.length≤8) (hT:T≤30):itK.ok x:=by
  obtain⟨a1,a2,a3,a4,a5,a6⟩:=h
  have:=body_len (l:=l) (p:=x.1) hw
  exact⟨⟨by omega,by omega⟩,⟨by omega,by omega⟩,by omega,by omega⟩
def itClS (g:Gram) (T:Nat) (l0:List itemL.Item) (bp:Option Addr) (cp go gm c:Nat):Spec ((RK→Option Value)×Nat×Value):=
  ⟨fun x=>CacheOk (lkG g) x.1∧x.2.1≤c+12000,fun x=>x.2.2,fun x=>opL g bp cp go gm x.1 x.2.1++[rowO 153 3 x.2.2 (closedI g.prods T (lkG g) l0).length ((closedI g.prods T (lkG g) l0).flatMap itC)]⟩
theorem it_ok {i j:Nat} (hi:i≤1000) (hj:j≤1000):itK.ok ((i:Int),0,(j:Int)):=by
  show (-9223372036854775808≤(i:Int)∧(i:Int)≤9223372036854775807)∧(-9223372036854775808≤(0:Int)∧(0:Int)≤9223372036854775807)∧(-9223372036854775808≤(j:Int)∧(j:Int)≤9223372036854775807)
  omega
theorem build_it2 (a c:Int) (w:World):(Instr.build 153 #[(0,.int .i64 a),(2,.int .i64 c)]).run Try.prog w = .ok (.agg #[.int .i64 a,.int .i64 0,.int .i64 c]) w:=by kernel_rfl
attribute [local irreducible] Op.shift Go.bits in
set_option maxHeartbeats 8000000 in
theorem itClosed_calls (g:Gram) (hg:checkG g=0) (bp:Option Addr) (cp:Nat) (vb:Nat→Value) (w0:World) (hG:GraR (fun q=>q<w0.heap.size) w0 (graV g.terms g.nons (.slice bp g.prods.length cp)) g) (hvb:BodR (fun q=>q<w0.heap.size) w0 vb g.prods) (hrp:0<g.prods.length→∃ b off,bp=some ⟨b,off,none⟩∧∀ i,i<g.prods.length→Rd w0 b (off+i*2) [.int .i64 (prodAt g.prods (i:Int)).1,vb i])
    (go gm c:Nat) (f:RK→Option Value) (T:Nat) (hTt:g.terms=(T:Int)) (hT:T≤30) (l0:List itemL.Item) (vl:Value) (h0:∀ x∈l0,RightI g.prods T x) (hl0:l0.length≤20000) (hc:CacheOk (lkG g) f) (hcc:c≤900000000000000) (w:World) (B:Base) (ho:Old w0 B) (hvl:SlB B vl l0.length (l0.flatMap itC))
    (hm:Mem B (opL g bp cp go gm f c) w) :
    Calls Try.prog 47 #[.pointer (some ⟨go,0,none⟩),vl] w (MeetsB (itClS g T l0 bp cp go gm c) B):=by
  obtain⟨-,-,-,-,hpl,hgb⟩:=checkG_ok hg
  have hwl:∀ q∈g.prods,q.2.length≤8:=fun q hq=>(hgb q hq).1
  have hput:=fun g5 gm2 g6 b v cn out it hit hp hb hn w' B' hm'=>itPut_calls g5 gm2 g6 b v cn out it hit hp hb hn w' B' hm'
  unfold opL at hm
  obtain⟨bl,cl,rfl,hc1,hc2,hrl⟩:=hvl
  unfold maxLen at hc2
  refine enterB hm (args:=[.pointer (some ⟨go,0,none⟩),.slice bl l0.length cl]) (n:=117) Try.func47 rfl rfl rfl ?_
  try refine GA ?_
  refine TL_mapT itK (z:= .int .i64 0) rfl fun gm2 => ?_
  conv=>arg 8;simp only[zA,zB,zC,zD,zE,zF,zG,zH,zI,rowS,ret,id_eq]
  try refine GA ?_
  refine TL_new rfl fun g5 => ?_
  conv=>arg 8;simp only[zA,zB,zC,zD,zE,zF,zG,zH,zI,rowS,ret,id_eq]
  refine TL_store1 (i:=3) rfl rfl rfl rfl rfl rfl ?_
  conv=>arg 8;simp only[zA,zB,zC,zD,zE,zF,zG,zH,zI,rowS,ret,id_eq]
  try refine GA ?_
  refine TL_new rfl fun g6 => ?_
  conv=>arg 8;simp only[zA,zB,zC,zD,zE,zF,zG,zH,zI,rowS,ret,id_eq]
  repeat(first|refine GA ?_|refine gV (rr_func rfl rfl) ?_)
  conv=>arg 7;simp only[zA,zB,zC,zD,zE,zF,zG,zH,zI,rowS,ret,id_eq]
  refine T_extra (rowO 153 3 (.slice none 0 0) 0 []) (fun k hk=>hk.elim (fun h=>by cases h) id) (fun w=>⟨by decide,.inl ⟨rfl,rfl⟩⟩) ?_
  refine T_pick [0,1,3,2,4,5] (by decide) rfl ?_
  conv=>arg 7;simp only[zA,zB,zC,zD,zE,zF,zG,zH,zI,rowS,ret,id_eq]
  refine T_loop (ι:=Nat×Value×(itemL.Item→Nat)) (fun (j,_,cn)=>j≤l0.length∧PutOk cn (firsts [] (l0.take j)) (2*j)) (fun (j,_,_)=>[(0,.pointer (some ⟨go,0,none⟩)),(6,.pointer (some ⟨g6,0,none⟩)),(7,.func (.func 61) #[] #[.pointer (some ⟨g5,0,none⟩),.pointer (some ⟨g6,0,none⟩)]),(18,.slice bl l0.length cl),(19,.int .i64 (l0.length:Int)),(20,.int .i64 (j:Int))])
    (fun (j,v,cn)=>[blkO go (opC g.terms g.nons (.slice bp g.prods.length cp) gm).toArray 173,mapO restK gm f c]++putL g5 gm2 g6 (2*j) v cn (firsts [] (l0.take j))) (fun (j,_,_)=>l0.length - j) (0,.slice none 0 0,fun _=>0) ⟨Nat.zero_le _,⟨fun x=>by simp[firsts],fun x=>Nat.zero_le _⟩⟩ (by repeat' (first | exact True.intro | refine And.intro rfl ?_)) rfl ?_
  rintro⟨j,v,cn⟩ ⟨j1,j2⟩
  dsimp only at j1 j2 ⊢
  by_cases c1:j<l0.length
  · obtain⟨b,off,rfl,hb1,hb2⟩:=hrl (by omega)
    have hat:=fun L=>at_elL (W:=B) (L:=L) itC_len (off:=off) (fun q u hq=>at_oldB hb1 hb2 q u hq) c1
    have hx0:=h0 l0[j] (List.getElem_mem c1)
    have hxo:=right_ok hx0 hpl hwl hT
    have hnd:(firsts [] (l0.take j)).length≤j:=Nat.le_trans (firstsLe _ _) (by rw[List.length_nil,List.length_take];omega)
    have hnx:more (firsts [] (l0.take j)) l0[j]=firsts [] (l0.take (j+1)):=by rw[List.take_succ_eq_append_getElem c1,firsts_snoc]
    have hpo:=j2.put l0[j]
    rw[hnx] at hpo
    have hput:=fun w' B' hm'=>hput g5 gm2 g6 (2*j) v cn (firsts [] (l0.take j)) l0[j] hxo j2 (by omega) (by omega) w' B' hm'
    rw[hnx] at hput
    generalize firsts [] (l0.take j)=out at *
    generalize hoq:firsts [] (l0.take (j+1))=out' at *
    generalize l0[j]=x at *
    repeat(first|refine GA ?_|refine gV (rr_idxc Und.eq TyC.ty rfl rfl c1) ?_|refine gV (rr_loadN TyC.ty rfl (itC_len x) (hat _)) ?_)
    refine TL_new rfl fun g9 => ?_
    conv=>arg 8;simp only[zA,zB,zC,zD,zE,zF,zG,zH,zI,rowS,ret,id_eq]
    refine TL_storeB (i:=6) (cs':=(itC x).toArray) rfl rfl rfl rfl rfl rfl ?_
    conv=>arg 8;simp only[zA,zB,zC,zD,zE,zF,zG,zH,zI,rowS,ret,id_eq]
    repeat(first|refine GA ?_|refine gV (rr_loadB (i:=6) TyC.ty rfl rfl rfl) ?_)
    refine TL_callB [2,3,4,5] [0,1,6] (by decide) rfl rfl (he1c EntersC.en rfl rfl) (fun w hm hb=>hput w _ hb) rfl rfl rfl ?_
    intro v' _
    conv=>arg 8;simp only[zA,zB,zC,zD,zE,zF,zG,zH,zI,rowS,ret,id_eq]
    try refine GA ?_
    refine E_pick [0,1,3,4,5,6] (by decide) rfl ?_
    exact E_round (j+1,v',itUp cn x) ⟨by show j+1≤l0.length;omega,by show PutOk _ (firsts [] (l0.take (j+1))) _;rw[hoq];exact hpo⟩ (by show l0.length - (j+1)<l0.length - j;omega) (by repeat' (first | exact True.intro | refine And.intro rfl ?_)) (by dsimp only;rw[hoq];rfl)
  · obtain rfl:j=l0.length:=by omega
    rw[List.take_length] at j2
    have hfl:(firsts [] l0).length≤20000:=Nat.le_trans (firstsLe _ _) (by rw[List.length_nil];omega)
    clear hrl
    try refine GA ?_
    conv=>arg 7;simp only[zA,zB,zC,zD,zE,zF,zG,zH,zI,rowS,ret,id_eq,List.take_length,putL,List.cons_append,List.nil_append]
    refine T_loop (ι:=Nat×List itemL.Item×(RK→Option Value)×Nat×Value×(itemL.Item→Nat)×Nat) (fun (n,out,f',c',_,cn',b)=>WkI g.prods T (lkG g) l0 n out∧workI g.prods T (lkG g) (12000 - n) n out=workI g.prods T (lkG g) 12000 0 (firsts [] l0)∧CacheOk (lkG g) f'∧c'≤c+n∧PutOk cn' out b∧b≤40000+2480*n)
      (fun (n,_,_,_,_,_,_)=>[(0,.pointer (some ⟨go,0,none⟩)),(6,.pointer (some ⟨g6,0,none⟩)),(7,.func (.func 61) #[] #[.pointer (some ⟨g5,0,none⟩),.pointer (some ⟨g6,0,none⟩)]),(10,.int .i64 (n:Int))])
      (fun (_,out,f',c',v',cn',b)=>[blkO go (opC g.terms g.nons (.slice bp g.prods.length cp) gm).toArray 173,mapO restK gm f' c',blkO g5 #[.map (some gm2)] 175,mapT itK gm2 (.int .i64 0) (itCnt cn') b,blkO g6 #[v'] 148,rowO 153 3 v' out.length (out.flatMap itC)]) (fun (n,_)=>12000 - n) (0,firsts [] l0,f,c,v,cn,2*l0.length) ⟨wk_start l0,rfl,hc,Nat.le_refl _,j2,by omega⟩ (by repeat' (first | exact True.intro | refine And.intro rfl ?_)) rfl ?_
    rintro⟨n,out,f',c',v',cn',b⟩ ⟨i1,i2,i3,i4,i5,i6⟩
    dsimp only at i1 i2 i3 i4 i5 i6 ⊢
    have hfew:=items_few hwl hpl hT i1.nd fun x hx=>right_cl h0 (i1.cl x hx)
    refine T_know (i:=5) rfl row_slm fun hrow => ?_
    obtain⟨bv,cv,rfl,-,hab⟩:=hrow
    by_cases c2:n<out.length
    · obtain ⟨gz, rfl⟩:=hab (by omega)
      have hcl:=i1.cl out[n] (List.getElem_mem c2)
      have hxr:=right_cl h0 hcl
      have hat:=fun (L:List Own) (i:Nat) (hL:L[i]?=some (rowO 153 3 (.slice (some ⟨gz,0,none⟩) out.length cv) out.length (out.flatMap itC)))=>at_rowel (W:=B) itC_len hL c2
      have hwx:workI g.prods T (lkG g) (12000 - (n+1)) (n+1) (expI g.prods T (lkG g) out[n] out)=workI g.prods T (lkG g) 12000 0 (firsts [] l0):=by
        rw[←i2,show 12000 - n=(12000 - (n+1))+1 by omega,workI,if_pos c2,List.getD_eq_getElem?_getD,List.getElem?_eq_getElem c2];rfl
      have hwk:=wk_step i1 c2
      clear i2 hcl
      generalize hxx:out[n]=x at *
      obtain⟨p,d,lo⟩:=x
      have hxr2:=hxr
      obtain⟨r1,r2,r3,r4,r5,r6⟩:=hxr2
      dsimp only at r1 r2 r3 r4 r5 r6
      obtain⟨k,rfl⟩:=Int.eq_ofNat_of_zero_le r1
      obtain⟨dn,rfl⟩:=Int.eq_ofNat_of_zero_le r3
      obtain⟨ln,rfl⟩:=Int.eq_ofNat_of_zero_le r5
      have hk:k≤g.prods.length:=by omega
      have hbd:=fun w' (hm':Mem B [] w')=>itBody_calls g.terms g.nons bp cp g.prods vb w0 w' B k hk ho hm' (fun i hi=>let ⟨b,c,h,_⟩:=hvb i hi;⟨b,_,c,h⟩) hrp
      repeat(first|refine GC ?_|refine gV (rr_load1 (v:= .slice (some ⟨gz,0,none⟩) out.length cv) TyC.ty rfl (at_blk (i:=4) rfl rfl)) ?_|refine gV (rr_rowlen (i:=5) Und.eq rfl rfl) ?_|refine GB ?_)
      refine T_ord ([blkO go (opC g.terms g.nons (.slice bp g.prods.length cp) gm).toArray 173,blkO g6 #[.slice (some ⟨gz,0,none⟩) out.length cv] 148,rowO 153 3 (.slice (some ⟨gz,0,none⟩) out.length cv) out.length (out.flatMap itC)]) (.calm 0 (.calm 1 (.calm 2 (.calm 3 (.calm 4 (.calm 5 (.calm 6 (.calm 7 (.calm 8 (.one 9 (.calm 10 (.done)))))))))))) (sub_pick [0,4,5] (by decide) rfl) (by kernel_rfl) (by kernel_rfl) (by intro c a d v w h;cases d <;> exact h) ?_
      repeat(first|refine GW ?_|(refine GN ?_;first|refine QW (rr_loadN TyC.ty rfl (cs:=[.int .i64 g.terms,.int .i64 g.nons,.slice bp g.prods.length cp]) rfl (fun j v h=>at_blk (i:=0) rfl (op_gram h))) ?_|refine QW (rr_load1 (v:= .slice (some ⟨gz,0,none⟩) out.length cv) TyC.ty rfl (at_blk (i:=1) rfl rfl)) ?_|refine QW (rr_idxc Und.eq TyC.ty rfl rfl c2) ?_|refine QW (rr_load1 (v:= .int .i64 (k:Int)) TyC.ty rfl (hat _ 2 rfl 0 _ rfl)) ?_))
      refine TW_one rfl ?_
      refine TL_call (he2 EntersC.en rfl rfl rfl) (fun w hm=>hbd _ (hm.pick [] (by decide) rfl)) rfl rfl rfl ?_
      rintro xb hxb
      conv=>arg 8;simp only[zA,zB,zC,zD,zE,zF,zG,zH,zI,rowS,ret,id_eq,bodyS]
      conv=>arg 7;simp only[bodyS]
      obtain⟨bb,cc,hbv,hlc,-⟩:=body_slL (W:=B) (i:=6) (L:=[blkO go (opC g.terms g.nons (.slice bp g.prods.length cp) gm).toArray 173,mapO restK gm f' c',blkO g5 #[.map (some gm2)] 175,mapT itK gm2 (.int .i64 0) (itCnt cn') b,blkO g6 #[.slice (some ⟨gz,0,none⟩) out.length cv] 148,rowO 153 3 (.slice (some ⟨gz,0,none⟩) out.length cv) out.length (out.flatMap itC),bodO xb]) ho hvb hk hxb rfl
      have hsl:=fun (L:List Own) (i:Nat) (hi:L[i]?=some (bodO xb))=>(body_slL (W:=B) (L:=L) ho hvb hk hxb hi)
      rw[hbv] at hsl ⊢
      have hb8:=body_len (l:=g.prods) (p:=(k:Int)) hwl
      refine TW_on (sub_pick [0,4,5] (by decide) rfl) ?_
      try refine GW ?_
      clear hbd
      by_cases c3:dn=(bodyI g.prods (k:Int)).length
      · repeat(first|refine GC ?_|refine gV (rr_load1 (v:= .slice (some ⟨gz,0,none⟩) out.length cv) TyC.ty rfl (at_blk (i:=4) rfl rfl)) ?_|refine gV (rr_idxc Und.eq TyC.ty rfl rfl c2) ?_|refine gV (rr_load1 (v:= .int .i64 (dn:Int)) TyC.ty rfl (hat _ 5 rfl 1 _ rfl)) ?_|refine gV (rr_eql (b:=true) rfl rfl (decide_eq_true (by omega))) ?_|refine GB ?_)
        have hexp:expI g.prods T (lkG g) ((k:Int),(dn:Int),(ln:Int)) out=out:=by
          unfold expI nextS
          dsimp only
          rw[Int.toNat_natCast,List.getElem?_eq_none (by omega)]
        rw[hexp] at hwk hwx
        refine E_pick [0,1,2,3,4,5] (by decide) rfl ?_
        exact E_round (n+1,out,f',c',.slice (some ⟨gz,0,none⟩) out.length cv,cn',b) ⟨hwk,hwx,i3,by show c'≤c+(n+1);omega,i5,by show b≤40000+2480*(n+1);omega⟩ (by show 12000 - (n+1)<12000 - n;omega) (by repeat' (first | exact True.intro | refine And.intro rfl ?_)) rfl
      · have hlt:dn<(bodyI g.prods (k:Int)).length:=by omega
        obtain⟨b2,o2,rfl,hba⟩:=body_at ho hvb hk hxb hbv hlt
        have hnx:nextS g.prods ((k:Int),(dn:Int),(ln:Int))=some (bodyI g.prods (k:Int))[dn]:=by
          unfold nextS
          dsimp only
          rw[Int.toNat_natCast,List.getElem?_eq_getElem hlt]
        generalize hyy:(bodyI g.prods (k:Int))[dn]=y at *
        obtain⟨yk,yn⟩:=y
        by_cases c4:yk=2
        · subst c4
          have hexp:expI g.prods T (lkG g) ((k:Int),(dn:Int),(ln:Int)) out=expProd g.prods T yn (looksI (lkG g) ((k:Int),(dn:Int),(ln:Int))) out g.prods.length:=by
            unfold expI
            rw[hnx]
            dsimp only
            rw[if_pos rfl]
          rw[hexp] at hwk hwx
          repeat(first|refine GC ?_|refine gV (rr_load1 (v:= .slice (some ⟨gz,0,none⟩) out.length cv) TyC.ty rfl (at_blk (i:=4) rfl rfl)) ?_|refine gV (rr_idxc Und.eq TyC.ty rfl rfl c2) ?_|refine gV (rr_idxc Und.eq TyC.ty rfl rfl hlt) ?_|refine gV (rr_load1 (v:= .int .i64 (dn:Int)) TyC.ty rfl (hat _ 5 rfl 1 _ rfl)) ?_|refine gV (rr_eql (b:=false) rfl rfl (decide_eq_false (by omega))) ?_|refine gV (rr_load1 (v:= .int .i64 2) TyC.ty rfl (hba _ 6 rfl 0 _ rfl)) ?_|refine gV (rr_neq (b:=false) rfl rfl (decide_eq_false (fun h=>h rfl))) ?_|refine gV (rr_loadN (cs:=itC ((k:Int),(dn:Int),(ln:Int))) TyC.ty rfl rfl (hat _ 5 rfl)) ?_|refine GB ?_)
          refine TL_callB [0,1] [2,3,4,5,6] (by decide) rfl rfl (he2 EntersC.en rfl rfl rfl) (fun w hm hb=>looks_calls g hg bp cp vb w0 hG hvb hrp go gm c' f' ((k:Int),(dn:Int),(ln:Int)) T hT hxr (by dsimp only;rw[Int.toNat_natCast];exact hlt) i3 (by omega) w _ (ho.on hm fun o h=>pickMem h) hb) rfl rfl rfl ?_
          rintro⟨f2,c2'⟩ ⟨hf2,hc2'⟩
          dsimp only at hf2 hc2'
          conv=>arg 8;simp only[zA,zB,zC,zD,zE,zF,zG,zH,zI,rowS,ret,id_eq]
          have hblt:=looksI_lt g (it:=((k:Int),(dn:Int),(ln:Int))) (by show ((ln:Int)).toNat<64;omega)
          generalize looksI (lkG g) ((k:Int),(dn:Int),(ln:Int))=bits at *
          repeat(first|refine GA ?_|refine gV (rr_load1 (v:= .slice bp g.prods.length cp) TyC.ty rfl (at_blk (i:=5) rfl rfl)) ?_)
          refine T_pick [5,6,0,1,2,3,4] (by decide) rfl ?_
          conv=>arg 7;simp only[zA,zB,zC,zD,zE,zF,zG,zH,zI,rowS,ret,id_eq]
          refine T_loop (ι:=Nat×Value×(itemL.Item→Nat)×Nat) (fun (i,_,cn2,b3)=>i≤g.prods.length∧PutOk cn2 (expProd g.prods T yn bits out i) b3∧b3≤b+62*i)
            (fun (i,_,_,_)=>[(0,.pointer (some ⟨go,0,none⟩)),(6,.pointer (some ⟨g6,0,none⟩)),(7,.func (.func 61) #[] #[.pointer (some ⟨g5,0,none⟩),.pointer (some ⟨g6,0,none⟩)]),(10,.int .i64 (n:Int)),(11,.slice (some ⟨b2,o2,none⟩) (bodyI g.prods (k:Int)).length cc),(12,bitV bits),(74,.slice bp g.prods.length cp),(75,.int .i64 (g.prods.length:Int)),(76,.int .i64 (i:Int))])
            (fun (i,v2,cn2,b3)=>[blkO go (opC g.terms g.nons (.slice bp g.prods.length cp) gm).toArray 173,mapO restK gm f2 c2',blkO g5 #[.map (some gm2)] 175,mapT itK gm2 (.int .i64 0) (itCnt cn2) b3,blkO g6 #[v2] 148,rowO 153 3 v2 (expProd g.prods T yn bits out i).length ((expProd g.prods T yn bits out i).flatMap itC),bodO xb]) (fun (i,_)=>g.prods.length - i) (0,.slice (some ⟨gz,0,none⟩) out.length cv,cn',b) ⟨Nat.zero_le _,i5,by omega⟩ (by repeat' (first | exact True.intro | refine And.intro rfl ?_)) rfl ?_
          rintro⟨i,v2,cn2,b3⟩ ⟨p1,p2,p3⟩
          dsimp only at p1 p2 p3 ⊢
          by_cases c5:i<g.prods.length
          · obtain⟨E,hE⟩:=expProd_pre (l:=g.prods) (T:=T) yn bits out i
            have hnd:=expProd_le (l:=g.prods) (T:=T) (N:=yn) (bits:=bits) (out:=out) i
            have hnx2:expProd g.prods T yn bits out (i+1)=if (prodAt g.prods (i:Int)).1=yn then expLook i bits (expProd g.prods T yn bits out i) (T+1) else expProd g.prods T yn bits out i:=rfl
            have hm30:i*(T+1)≤40*31:=Nat.mul_le_mul (by omega) (by omega)
            generalize hou:expProd g.prods T yn bits out i=ou at *
            have hno:n<ou.length:=by rw[hE,List.length_append];omega
            have hox:ou[n]=((k:Int),(dn:Int),(ln:Int)):=by
              subst hE
              rw[List.getElem_append_left c2];exact hxx
            refine T_know (i:=5) rfl row_slm fun hrow => ?_
            obtain⟨bv2,cv2,rfl,-,hab2⟩:=hrow
            obtain⟨gz2,rfl⟩:=hab2 (by omega)
            have hat2:=fun (L:List Own) (i:Nat) (hL:L[i]?=some (rowO 153 3 (.slice (some ⟨gz2,0,none⟩) ou.length cv2) ou.length (ou.flatMap itC)))=>at_rowel (W:=B) itC_len hL hno
            rw[hox] at hat2
            obtain⟨pb,po,rfl,hpr⟩:=hrp (by omega)
            have hpi:=hpr i c5
            have hvo:(vb i).oneCell'=true:=slf_one (hvb i c5)
            generalize hhd:(prodAt g.prods (i:Int)).1=hd at *
            generalize vb i=vbi at hpi hvo
            repeat(first|refine GA ?_|refine gV (rr_idxc Und.eq TyC.ty rfl rfl c5) ?_|refine gV (rr_loadN TyC.ty rfl (cs:=[.int .i64 hd,vbi]) rfl (fun j v h=>at_old0 ho (hpi j v h))) ?_)
            refine TL_new rfl fun g14 => ?_
            conv=>arg 8;simp only[zA,zB,zC,zD,zE,zF,zG,zH,zI,rowS,ret,id_eq]
            try refine GA ?_
            refine TL_storeB (i:=7) (cs':=#[.int .i64 hd,vbi]) rfl rfl rfl rfl (by simp only[List.all_cons,List.all_nil,hvo];rfl) rfl ?_
            conv=>arg 8;simp only[zA,zB,zC,zD,zE,zF,zG,zH,zI,rowS,ret,id_eq]
            try refine GA ?_
            refine T_ord ([blkO g14 #[.int .i64 hd,vbi] 63,blkO g6 #[.slice (some ⟨gz2,0,none⟩) ou.length cv2] 148,rowO 153 3 (.slice (some ⟨gz2,0,none⟩) ou.length cv2) ou.length (ou.flatMap itC),bodO xb]) (.calm 0 (.calm 1 (.calm 2 (.calm 3 (.calm 4 (.calm 5 (.calm 6 (.calm 7 (.calm 8 (.calm 9 (.calm 10 (.calm 11 (.done))))))))))))) (sub_pick [7,4,5,6] (by decide) rfl) (by kernel_rfl) (by kernel_rfl) (by intro c a d v w h;cases d <;> exact h) ?_
            by_cases c6:hd=yn
            · rw[if_pos c6] at hnx2
              repeat(first|(refine GN ?_;first|refine QW QP ?_|refine QW (rr_load1 (v:= .int .i64 hd) TyC.ty rfl (at_blk (i:=0) rfl rfl)) ?_|refine QW (rr_load1 (v:= .slice (some ⟨gz2,0,none⟩) ou.length cv2) TyC.ty rfl (at_blk (i:=1) rfl rfl)) ?_|refine QW (rr_idxc Und.eq TyC.ty rfl rfl hno) ?_|refine QW (rr_load1 (v:= .int .i64 (dn:Int)) TyC.ty rfl (hat2 _ 2 rfl 1 _ rfl)) ?_|refine QW (rr_idxc Und.eq TyC.ty rfl rfl hlt) ?_|refine QW (rr_load1 (v:= .int .i64 yn) TyC.ty rfl (hba _ 3 rfl 1 _ rfl)) ?_|refine QW (rr_neq (b:=false) rfl rfl (decide_eq_false (fun h=>h c6))) ?_|refine GX ?_)|refine GW ?_)
              repeat(first|refine GC ?_|refine gV (rr_load1 (v:= .int .i64 g.terms) TyC.ty rfl (at_blk (i:=0) rfl rfl)) ?_|refine gV (rr_add64 (r:=((T+1:Nat):Int)) rfl rfl (by omega) (by omega) (by omega)) ?_|refine GB ?_)
              refine T_pick [0,1,2,3,4,5,6] (by decide) rfl ?_
              conv=>arg 7;simp only[zA,zB,zC,zD,zE,zF,zG,zH,zI,rowS,ret,id_eq]
              refine T_loop (ι:=Nat×Value×(itemL.Item→Nat)×Nat) (fun (j,_,cn3,b4)=>j≤T+1∧PutOk cn3 (expLook i bits ou j) b4∧b4≤b3+2*j)
                (fun (j,_,_,_)=>[(0,.pointer (some ⟨go,0,none⟩)),(6,.pointer (some ⟨g6,0,none⟩)),(7,.func (.func 61) #[] #[.pointer (some ⟨g5,0,none⟩),.pointer (some ⟨g6,0,none⟩)]),(10,.int .i64 (n:Int)),(11,.slice (some ⟨b2,o2,none⟩) (bodyI g.prods (k:Int)).length cc),(12,bitV bits),(13,.int .i64 (i:Int)),(74,.slice (some ⟨pb,po,none⟩) g.prods.length cp),(75,.int .i64 (g.prods.length:Int)),(76,.int .i64 (i:Int)),(98,.int .i64 ((T+1:Nat):Int)),(99,.int .i64 (j:Int))])
                (fun (j,v3,cn3,b4)=>[blkO go (opC g.terms g.nons (.slice (some ⟨pb,po,none⟩) g.prods.length cp) gm).toArray 173,mapO restK gm f2 c2',blkO g5 #[.map (some gm2)] 175,mapT itK gm2 (.int .i64 0) (itCnt cn3) b4,blkO g6 #[v3] 148,rowO 153 3 v3 (expLook i bits ou j).length ((expLook i bits ou j).flatMap itC),bodO xb]) (fun (j,_)=>T+1 - j) (0,.slice (some ⟨gz2,0,none⟩) ou.length cv2,cn2,b3) ⟨Nat.zero_le _,p2,by omega⟩ (by repeat' (first | exact True.intro | refine And.intro rfl ?_)) rfl ?_
              rintro⟨j,v3,cn3,b4⟩ ⟨s1,s2,s3⟩
              dsimp only at s1 s2 s3 ⊢
              by_cases c7:j<T+1
              · have hle6:=expLook_le (i:=i) (bits:=bits) (out:=ou) j
                have hnx3:expLook i bits ou (j+1)=if bits.testBit j=true then more (expLook i bits ou j) ((i:Int),0,(j:Int)) else expLook i bits ou j:=rfl
                have hpo:=s2.put ((i:Int),0,(j:Int))
                have hdv:bits / 2 ^ j≤bits:=Nat.div_le_self _ _
                have ha1:=and1 (y:=bits / 2 ^ j) (by omega)
                have hs1:∀ w,(Op.shift .shr .u64 (bits:Int) .i64 (j:Int)).run Try.prog w = .ok (.int .u64 ((bits / 2 ^ j:Nat):Int)) w:=fun w=>shrU2 bits j 64 .u64 .i64 rfl (by omega) w
                have hbd:=bit_dec bits j
                generalize hol:expLook i bits ou j=ol at *
                generalize bits / 2 ^ j=D1 at *
                by_cases c8:bits.testBit j=true
                · rw[if_pos c8] at hnx3
                  have hb1:D1 % 2=1:=by rw[c8] at hbd;simpa using hbd
                  repeat(first|refine GC ?_|refine gV (rr_shr rfl rfl hs1) ?_|refine gV (rr_and rfl rfl ha1) ?_|refine gV (rr_eql (b:=true) rfl rfl (decide_eq_true (by omega))) ?_|refine gV (rr_build rfl (build_it2 _ _)) ?_|refine GB ?_)
                  refine TL_callB [2,3,4,5] [0,1,6] (by decide) rfl rfl (he1c EntersC.en rfl rfl) (fun w hm hb=>hput g5 gm2 g6 b4 v3 cn3 ol ((i:Int),0,(j:Int)) (it_ok (by omega) (by omega)) s2 (by omega) (by omega) w _ hb) rfl rfl rfl ?_
                  intro v4 _
                  conv=>arg 8;simp only[zA,zB,zC,zD,zE,zF,zG,zH,zI,rowS,ret,id_eq,putL]
                  try refine GA ?_
                  refine E_pick [0,1,3,4,5,6,2] (by decide) rfl ?_
                  exact E_round (j+1,v4,itUp cn3 ((i:Int),0,(j:Int)),b4+2) ⟨by show j+1≤T+1;omega,by show PutOk _ (expLook i bits ou (j+1)) _;rw[hnx3];exact hpo,by show b4+2≤b3+2*(j+1);omega⟩ (by show T+1 - (j+1)<T+1 - j;omega) (by repeat' (first | exact True.intro | refine And.intro rfl ?_)) (by dsimp only;rw[hnx3];rfl)
                · rw[if_neg c8] at hnx3
                  have hb1:¬ D1 % 2=1:=by rw[Bool.eq_false_iff.2 c8] at hbd;simpa using hbd
                  repeat(first|refine GC ?_|refine gV (rr_shr rfl rfl hs1) ?_|refine gV (rr_and rfl rfl ha1) ?_|refine gV (rr_eql (b:=false) rfl rfl (decide_eq_false (by omega))) ?_|refine GB ?_)
                  exact E_round (j+1,v3,cn3,b4) ⟨by show j+1≤T+1;omega,by show PutOk _ (expLook i bits ou (j+1)) _;rw[hnx3];exact s2,by show b4≤b3+2*(j+1);omega⟩ (by show T+1 - (j+1)<T+1 - j;omega) (by repeat' (first | exact True.intro | refine And.intro rfl ?_)) (by dsimp only;rw[hnx3])
              · obtain rfl:j=T+1:=by omega
                try refine GA ?_
                exact E_round (i+1,v3,cn3,b4) ⟨by show i+1≤g.prods.length;omega,by show PutOk cn3 (expProd g.prods T yn bits out (i+1)) b4;rw[hnx2];exact s2,by show b4≤b+62*(i+1);omega⟩ (by show g.prods.length - (i+1)<g.prods.length - i;omega) (by repeat' (first | exact True.intro | refine And.intro rfl ?_)) (by dsimp only;rw[hnx2])
            · rw[if_neg c6] at hnx2
              repeat(first|(refine GN ?_;first|refine QW QP ?_|refine QW (rr_load1 (v:= .int .i64 hd) TyC.ty rfl (at_blk (i:=0) rfl rfl)) ?_|refine QW (rr_load1 (v:= .slice (some ⟨gz2,0,none⟩) ou.length cv2) TyC.ty rfl (at_blk (i:=1) rfl rfl)) ?_|refine QW (rr_idxc Und.eq TyC.ty rfl rfl hno) ?_|refine QW (rr_load1 (v:= .int .i64 (dn:Int)) TyC.ty rfl (hat2 _ 2 rfl 1 _ rfl)) ?_|refine QW (rr_idxc Und.eq TyC.ty rfl rfl hlt) ?_|refine QW (rr_load1 (v:= .int .i64 yn) TyC.ty rfl (hba _ 3 rfl 1 _ rfl)) ?_|refine QW (rr_neq (b:=true) rfl rfl (decide_eq_true c6)) ?_|refine GX ?_)|refine GW ?_)
              try refine GA ?_
              refine E_pick [0,1,2,3,4,5,6] (by decide) rfl ?_
              exact E_round (i+1,.slice (some ⟨gz2,0,none⟩) ou.length cv2,cn2,b3) ⟨by show i+1≤g.prods.length;omega,by show PutOk cn2 (expProd g.prods T yn bits out (i+1)) b3;rw[hnx2];exact p2,by show b3≤b+62*(i+1);omega⟩ (by show g.prods.length - (i+1)<g.prods.length - i;omega) (by repeat' (first | exact True.intro | refine And.intro rfl ?_)) (by dsimp only;rw[hnx2];rfl)
          · obtain rfl:i=g.prods.length:=by omega
            try refine GA ?_
            refine E_pick [0,1,2,3,4,5] (by decide) rfl ?_
            exact E_round (n+1,expProd g.prods T yn bits out g.prods.length,f2,c2',v2,cn2,b3) ⟨hwk,hwx,hf2,by show c2'≤c+(n+1);omega,p2,by show b3≤40000+2480*(n+1);omega⟩ (by show 12000 - (n+1)<12000 - n;omega) (by repeat' (first | exact True.intro | refine And.intro rfl ?_)) rfl
        · repeat(first|refine GC ?_|refine gV (rr_load1 (v:= .slice (some ⟨gz,0,none⟩) out.length cv) TyC.ty rfl (at_blk (i:=4) rfl rfl)) ?_|refine gV (rr_idxc Und.eq TyC.ty rfl rfl c2) ?_|refine gV (rr_idxc Und.eq TyC.ty rfl rfl hlt) ?_|refine gV (rr_load1 (v:= .int .i64 (dn:Int)) TyC.ty rfl (hat _ 5 rfl 1 _ rfl)) ?_|refine gV (rr_eql (b:=false) rfl rfl (decide_eq_false (by omega))) ?_|refine gV (rr_load1 (v:= .int .i64 yk) TyC.ty rfl (hba _ 6 rfl 0 _ rfl)) ?_|refine gV (rr_neq (b:=true) rfl rfl (decide_eq_true c4)) ?_|refine GB ?_)
          have hexp:expI g.prods T (lkG g) ((k:Int),(dn:Int),(ln:Int)) out=out:=by
            unfold expI
            rw[hnx]
            dsimp only
            rw[if_neg c4]
          rw[hexp] at hwk hwx
          refine E_pick [0,1,2,3,4,5] (by decide) rfl ?_
          exact E_round (n+1,out,f',c',.slice (some ⟨gz,0,none⟩) out.length cv,cn',b) ⟨hwk,hwx,i3,by show c'≤c+(n+1);omega,i5,by show b≤40000+2480*(n+1);omega⟩ (by show 12000 - (n+1)<12000 - n;omega) (by repeat' (first | exact True.intro | refine And.intro rfl ?_)) rfl
    · have hn:n=out.length:=by have:=i1.le;omega
      have hR:workI g.prods T (lkG g) 12000 0 (firsts [] l0)=out:=by
        rw[←i2,show 12000 - n=(11999 - n)+1 by omega,workI,if_neg c2]
      have hcI:closedI g.prods T (lkG g) l0=sortI out:=by unfold closedI;rw[hR]
      repeat(first|refine GA ?_|refine gV (rr_load1 (v:= .slice bv out.length cv) TyC.ty rfl (at_blk (i:=4) rfl rfl)) ?_)
      refine TL_callB [5] [0,1,2,3,4] (by decide) rfl rfl (he2 EntersC.en rfl rfl rfl) (fun w hm hb=>itSortG order_k (.slice bv out.length cv) out w _ hb (by omega)) rfl rfl rfl ?_
      intro _ _
      conv=>arg 8;simp only[zA,zB,zC,zD,zE,zF,zG,zH,zI,rowS,ret,id_eq]
      repeat(first|refine GA ?_|refine gV (rr_load1 (v:= .slice bv out.length cv) TyC.ty rfl (at_blk (i:=4) rfl rfl)) ?_)
      exact E_ret1 rfl rfl fun w hm=>hm.meetsB (S:=itClS g T l0 bp cp go gm c) (f',c',.slice bv out.length cv) ⟨i3,by show c'≤c+12000;omega⟩ [0,1,5] (by decide) (by unfold itClS opL;dsimp only;rw[hcI,sort_len];rfl)
end Go.Proofs.Ytldiodhdefnlaaa.eng

/- ItG -/
namespace Go.Proofs.Ytldiodhdefnlaaa.eng
open Go.RowKit kit mix gramL treeL factsL itemL smallL
theorem SlB.row {W:Base} {L Lx:List Own} {w:World} (hm:Mem W L w) {i n size:Nat} {e:TypeId} {v:Value} {xs:List Value} (hi:L[i]?=some (rowO e size v n xs)) (is:List Nat) (hL:Lx=is.filterMap fun i=>L[i]?) (hni:i∉is):SlB (Base.on w Lx) v n xs:=by
  have hh:(rowO e size v n xs).holds w:=hm.get hi
  obtain⟨base,cap,rfl,h1,h2,h3⟩:=Sl.of_own hh
  refine⟨base,cap,rfl,h1,h2,fun hn => ?_⟩
  obtain⟨b,off,rfl,hr⟩:=h3 hn
  have hf:(rowO e size (.slice (some ⟨b,off,none⟩) n cap) n xs).foot b:=by
    rcases (show w.ownsRow 0 e size _ n xs from hh).2 with ⟨hv,_⟩ | ⟨g,cp,cur,hv,_⟩
    · cases hv
    · cases hv;exact .inl rfl
  refine⟨b,off,rfl,⟨(rowO e size _ n xs).lt w hh b hf,?_⟩,hr⟩
  rintro⟨o,ho,hfo⟩
  subst hL
  obtain⟨j,hj,hoj⟩:=List.mem_filterMap.1 ho
  exact hm.owns.apart i j _ _ (fun h=>hni (h ▸ hj)) hi hoj b hf hfo
theorem SlB.at {B:Base} {L:List Own} {α:Type} {f:α→List Value} {c:Nat} (hc:∀ a,(f a).length=c) {base:Option Addr} {cap n:Nat} {l:List α} (h:SlB B (.slice base n cap) n (l.flatMap f)) (hn:0<n):∃ b off,base=some ⟨b,off,none⟩∧∀ (k:Nat) (hk:k<l.length) (j:Nat) (u:Value),(f l[k])[j]?=some u→At B L ⟨b,off+k*c+j,none⟩ u:=by
  obtain⟨base',cap',h0,h1,h2,h3⟩:=h
  cases h0
  obtain⟨b,off,rfl,ho,hr⟩:=h3 hn
  exact⟨b,off,rfl,fun k hk j u hj=>at_elL (W:=B) (L:=L) hc (off:=off) (fun q y hq=>at_oldB ho hr q y hq) hk j u hj⟩
theorem over_take {l:List gramL.Prod} {s:List itemL.Item} {x:Sym} {k:Nat} (h:k<s.length):overI l (s.take (k+1)) x=if nextS l s[k]=some x then overI l (s.take k) x++[advI s[k]] else overI l (s.take k) x:=by
  unfold overI
  rw[List.take_succ_eq_append_getElem h,List.filter_append,List.map_append]
  by_cases c:nextS l s[k]=some x
  · rw[if_pos c,List.filter_cons_of_pos (by simpa using c)];rfl
  · rw[if_neg c,List.filter_cons_of_neg (by simpa using c)];simp
theorem over_len {l:List gramL.Prod} {s:List itemL.Item} {x:Sym}:(overI l s x).length≤s.length:=by
  unfold overI;rw[List.length_map];exact List.length_filter_le _ _
set_option maxHeartbeats 8000000 in
theorem itStep_calls (g:Gram) (hg:checkG g=0) (bp:Option Addr) (cp:Nat) (vb:Nat→Value) (w0:World) (hG:GraR (fun q=>q<w0.heap.size) w0 (graV g.terms g.nons (.slice bp g.prods.length cp)) g) (hvb:BodR (fun q=>q<w0.heap.size) w0 vb g.prods) (hrp:0<g.prods.length→∃ b off,bp=some ⟨b,off,none⟩∧∀ i,i<g.prods.length→Rd w0 b (off+i*2) [.int .i64 (prodAt g.prods (i:Int)).1,vb i])
    (go gm c:Nat) (f:RK→Option Value) (T:Nat) (hTt:g.terms=(T:Int)) (hT:T≤30) (s:List itemL.Item) (x:Sym) (vl:Value) (h0:∀ it∈s,RightI g.prods T it) (hl0:s.length≤20000) (hc:CacheOk (lkG g) f) (hcc:c≤900000000000000) (w:World) (B:Base) (ho:Old w0 B) (hvl:SlB B vl s.length (s.flatMap itC))
    (hm:Mem B (opL g bp cp go gm f c) w) :
    Calls Try.prog 49 #[.pointer (some ⟨go,0,none⟩),vl,.agg (symC x).toArray] w (MeetsB (itClS g T (overI g.prods s x) bp cp go gm c) B):=by
  have hcl:=fun v h2 h3 w' B' ho' hs' hm'=>itClosed_calls g hg bp cp vb w0 hG hvb hrp go gm c f T hTt hT (overI g.prods s x) v h2 h3 hc hcc w' B' ho' hs' hm'
  have hol:=over_len (l:=g.prods) (s:=s) (x:=x)
  have hor:=over_right (l:=g.prods) (T:=T) (x:=x) h0
  obtain⟨bl,cl,rfl,hc1,hc2,hrl⟩:=id hvl
  clear hrl
  unfold maxLen at hc2
  unfold opL at hm
  refine enterB hm (args:=[.pointer (some ⟨go,0,none⟩),.slice bl s.length cl,.agg (symC x).toArray]) (n:=50) Try.func49 rfl rfl rfl ?_
  refine T_seq (T_region (TL_box rfl rfl rfl fun g5 => ?_))
  conv=>arg 8;simp only[zA,zB,zC,zD,zE,zF,zG,zH,zI,rowS,ret,id_eq]
  try refine GA ?_
  refine T_nil 153 3 ?_
  conv=>arg 7;simp only[zA,zB,zC,zD,zE,zF,zG,zH,zI,rowS,ret,id_eq]
  refine T_loop (ι:=Nat×Value) (fun (k,_)=>k≤s.length) (fun (k,v)=>[(0,.pointer (some ⟨go,0,none⟩)),(5,.pointer (some ⟨g5,0,none⟩)),(7,v),(11,.slice bl s.length cl),(12,.int .i64 s.length),(13,.int .i64 (k:Int))])
    (fun (k,v)=>[blkO go (opC g.terms g.nons (.slice bp g.prods.length cp) gm).toArray 173,mapO restK gm f c,blkO g5 (symC x).toArray 112,rowO 153 3 v (overI g.prods (s.take k) x).length ((overI g.prods (s.take k) x).flatMap itC)]) (fun (k,_)=>s.length - k) (0,.slice none 0 0) (Nat.zero_le _) (by repeat' (first | exact True.intro | refine And.intro rfl ?_)) rfl ?_
  rintro⟨k,v⟩ i1
  dsimp only at i1 ⊢
  by_cases c1:k<s.length
  · obtain⟨b,off,rfl,hat⟩:=hvl.at (L:=[]) itC_len (by omega)
    have hatA:∀ (L:List Own) (j:Nat) (u:Value),(itC s[k])[j]?=some u→At B L ⟨b,off+k*3+j,none⟩ u:=fun L=>by
      obtain⟨b',off',he,h⟩:=hvl.at (L:=L) itC_len (by omega)
      cases he
      exact h k c1
    clear hat
    have hxr:=h0 s[k] (List.getElem_mem c1)
    have hnx:=over_take (l:=g.prods) (x:=x) c1
    have hln:(overI g.prods (s.take k) x).length≤20000:=Nat.le_trans over_len (by rw[List.length_take];omega)
    generalize overI g.prods (s.take k) x=ov at *
    generalize hnx2:overI g.prods (s.take (k+1)) x=ov' at *
    clear hcl hor hol
    generalize s[k]=it at *
    obtain⟨p,d,lo⟩:=it
    have hxr2:=hxr
    obtain⟨r1,r2,r3,r4,r5,r6⟩:=hxr2
    dsimp only at r1 r2 r3 r4 r5 r6
    obtain⟨kn,rfl⟩:=Int.eq_ofNat_of_zero_le r1
    obtain⟨dn,rfl⟩:=Int.eq_ofNat_of_zero_le r3
    obtain⟨ln,rfl⟩:=Int.eq_ofNat_of_zero_le r5
    have hk:kn≤g.prods.length:=by omega
    have hbd:=fun w' (hm':Mem B [] w')=>itBody_calls g.terms g.nons bp cp g.prods vb w0 w' B kn hk ho hm' (fun i hi=>let ⟨b,c,h,_⟩:=hvb i hi;⟨b,_,c,h⟩) hrp
    have hwl:∀ q∈g.prods,q.2.length≤8:=fun q hq=>((checkG_ok hg).2.2.2.2.2 q hq).1
    have hb8:=body_len (l:=g.prods) (p:=(kn:Int)) hwl
    repeat(first|refine GA ?_|refine gV (rr_idxc Und.eq TyC.ty rfl rfl c1) ?_|refine gV (rr_loadN (cs:=itC ((kn:Int),(dn:Int),(ln:Int))) TyC.ty rfl rfl (hatA _)) ?_)
    refine TL_new rfl fun g9 => ?_
    conv=>arg 8;simp only[zA,zB,zC,zD,zE,zF,zG,zH,zI,rowS,ret,id_eq]
    refine TL_storeB (i:=4) (cs':=(itC ((kn:Int),(dn:Int),(ln:Int))).toArray) rfl rfl rfl rfl rfl rfl ?_
    conv=>arg 8;simp only[zA,zB,zC,zD,zE,zF,zG,zH,zI,rowS,ret,id_eq]
    try refine GA ?_
    refine T_ord ([blkO go (opC g.terms g.nons (.slice bp g.prods.length cp) gm).toArray 173,blkO g9 (itC ((kn:Int),(dn:Int),(ln:Int))).toArray 153]) (.calm 0 (.calm 1 (.calm 2 (.calm 3 (.calm 4 (.calm 5 (.one 6 (.calm 7 (.done))))))))) (sub_pick [0,4] (by decide) rfl) (by kernel_rfl) (by kernel_rfl) (by intro c a d v w h;cases d <;> exact h) ?_
    repeat(first|refine GW ?_|(refine GN ?_;first|refine QW (rr_loadN TyC.ty rfl (cs:=[.int .i64 g.terms,.int .i64 g.nons,.slice bp g.prods.length cp]) rfl (fun j v h=>at_blk (i:=0) rfl (op_gram h))) ?_|refine QW (rr_load1 (v:= .int .i64 (kn:Int)) TyC.ty rfl (at_blk (i:=1) rfl rfl)) ?_))
    refine TW_one rfl ?_
    refine TL_call (he2 EntersC.en rfl rfl rfl) (fun w hm=>hbd _ (hm.pick [] (by decide) rfl)) rfl rfl rfl ?_
    rintro xb hxb
    conv=>arg 8;simp only[zA,zB,zC,zD,zE,zF,zG,zH,zI,rowS,ret,id_eq,bodyS]
    conv=>arg 7;simp only[bodyS]
    obtain⟨bb,cc,hbv,hlc,-⟩:=body_slL (W:=B) (i:=5) (L:=[blkO go (opC g.terms g.nons (.slice bp g.prods.length cp) gm).toArray 173,mapO restK gm f c,blkO g5 (symC x).toArray 112,rowO 153 3 v ov.length (ov.flatMap itC),blkO g9 (itC ((kn:Int),(dn:Int),(ln:Int))).toArray 153,bodO xb]) ho hvb hk hxb rfl
    rw[hbv]
    refine TW_on (sub_pick [0,4] (by decide) rfl) ?_
    try refine GW ?_
    clear hbd
    by_cases c2:dn<(bodyI g.prods (kn:Int)).length
    · obtain⟨b2,o2,rfl,hba⟩:=body_at ho hvb hk hxb hbv c2
      have hns:nextS g.prods ((kn:Int),(dn:Int),(ln:Int))=some (bodyI g.prods (kn:Int))[dn]:=by
        unfold nextS
        dsimp only
        rw[Int.toNat_natCast,List.getElem?_eq_getElem c2]
      have heq:=fun w=>eq_sym (bodyI g.prods (kn:Int))[dn] x w
      generalize (bodyI g.prods (kn:Int))[dn]=y at *
      rw[hns] at hnx
      try refine GA ?_
      refine T_ord ([blkO g5 (symC x).toArray 112,blkO g9 (itC ((kn:Int),(dn:Int),(ln:Int))).toArray 153,bodO xb]) (.calm 0 (.calm 1 (.calm 2 (.calm 3 (.calm 4 (.calm 5 (.calm 6 (.calm 7 (.calm 8 (.calm 9 (.calm 10 (.calm 11 (.calm 12 (.calm 13 (.done))))))))))))))) (sub_pick [2,4,5] (by decide) rfl) (by kernel_rfl) (by kernel_rfl) (by intro c a d v w h;cases d <;> exact h) ?_
      by_cases c3:y=x
      · subst c3
        rw[if_pos rfl] at hnx
        rw[decide_eq_true rfl] at heq
        repeat(first|(refine GN ?_;first|refine QW QP ?_|refine QW (rr_load1 (v:= .int .i64 (dn:Int)) TyC.ty rfl (at_blk (i:=1) rfl rfl)) ?_|refine QW (rr_idxc Und.eq TyC.ty rfl rfl c2) ?_|refine QW (rr_loadN (cs:=symC y) TyC.ty rfl rfl (hba _ 2 rfl)) ?_|refine QW (rr_loadB (i:=0) TyC.ty rfl rfl rfl) ?_|refine QW (rr_aggeq rfl rfl (by kernel_rfl) heq) ?_|refine GX ?_)|refine GW ?_)
        repeat(first|refine GA ?_|refine gV (rr_load1 (v:= .int .i64 (dn:Int)) TyC.ty rfl (at_blk (i:=4) rfl rfl)) ?_)
        refine TL_store1 (i:=4) rfl rfl rfl rfl rfl rfl ?_
        conv=>arg 8;simp only[zA,zB,zC,zD,zE,zF,zG,zH,zI,rowS,ret,id_eq]
        repeat(first|refine GA ?_|refine gV (rr_loadB (i:=4) TyC.ty rfl rfl rfl) ?_)
        refine TL_pushN (i:=3) rfl rfl rfl rfl rfl rfl rfl (fun z h=>by cases h;rfl) (by omega) (by omega) rfl fun z v' => ?_
        conv=>arg 8;simp only[zA,zB,zC,zD,zE,zF,zG,zH,zI,rowS,ret,id_eq]
        try refine GA ?_
        refine E_pick [0,1,2,3] (by decide) rfl ?_
        exact E_round (k+1,v') (by show k+1≤s.length;omega) (by show s.length - (k+1)<s.length - k;omega) (by repeat' (first | exact True.intro | refine And.intro rfl ?_)) (by dsimp only;rw[hnx2,hnx,List.length_append,List.flatMap_append];rfl)
      · rw[if_neg (fun h=>c3 (Option.some.inj h))] at hnx
        rw[decide_eq_false c3] at heq
        repeat(first|(refine GN ?_;first|refine QW QP ?_|refine QW (rr_load1 (v:= .int .i64 (dn:Int)) TyC.ty rfl (at_blk (i:=1) rfl rfl)) ?_|refine QW (rr_idxc Und.eq TyC.ty rfl rfl c2) ?_|refine QW (rr_loadN (cs:=symC y) TyC.ty rfl rfl (hba _ 2 rfl)) ?_|refine QW (rr_loadB (i:=0) TyC.ty rfl rfl rfl) ?_|refine QW (rr_aggeq rfl rfl (by kernel_rfl) heq) ?_|refine GX ?_)|refine GW ?_)
        try refine GA ?_
        refine E_pick [0,1,2,3] (by decide) rfl ?_
        exact E_round (k+1,v) (by show k+1≤s.length;omega) (by show s.length - (k+1)<s.length - k;omega) (by repeat' (first | exact True.intro | refine And.intro rfl ?_)) (by dsimp only;rw[hnx2,hnx];rfl)
    · have hns:nextS g.prods ((kn:Int),(dn:Int),(ln:Int))=none:=by
        unfold nextS
        dsimp only
        rw[Int.toNat_natCast,List.getElem?_eq_none (by omega)]
      rw[hns,if_neg (fun h=>by cases h)] at hnx
      try refine GA ?_
      refine T_ord ([blkO g5 (symC x).toArray 112,blkO g9 (itC ((kn:Int),(dn:Int),(ln:Int))).toArray 153,bodO xb]) (.calm 0 (.calm 1 (.calm 2 (.calm 3 (.calm 4 (.calm 5 (.calm 6 (.calm 7 (.calm 8 (.calm 9 (.calm 10 (.calm 11 (.calm 12 (.calm 13 (.done))))))))))))))) (sub_pick [2,4,5] (by decide) rfl) (by kernel_rfl) (by kernel_rfl) (by intro c a d v w h;cases d <;> exact h) ?_
      repeat(first|refine GW ?_|(refine GN ?_;first|refine QW (rr_load1 (v:= .int .i64 (dn:Int)) TyC.ty rfl (at_blk (i:=1) rfl rfl)) ?_))
      try refine GA ?_
      refine E_pick [0,1,2,3] (by decide) rfl ?_
      exact E_round (k+1,v) (by show k+1≤s.length;omega) (by show s.length - (k+1)<s.length - k;omega) (by repeat' (first | exact True.intro | refine And.intro rfl ?_)) (by dsimp only;rw[hnx2,hnx];rfl)
  · obtain rfl:k=s.length:=by omega
    rw[List.take_length]
    try refine GA ?_
    refine TL_callB [0,1] [2,3] (by decide) rfl rfl (he2 EntersC.en rfl rfl rfl) (fun w hm hb=>hcl v hor (by omega) w _ (ho.on hm fun o h=>pickMem h) (SlB.row hm (i:=3) rfl [0,1] rfl (by decide)) hb) rfl rfl rfl ?_
    rintro⟨f2,c2,v2⟩ ⟨hf2,hc2'⟩
    conv=>arg 8;simp only[zA,zB,zC,zD,zE,zF,zG,zH,zI,rowS,ret,id_eq,itClS,opL]
    conv=>arg 7;simp only[itClS]
    try refine GA ?_
    exact E_ret1 rfl rfl fun w hm=>hm.meetsB (S:=itClS g T (overI g.prods s x) bp cp go gm c) (f2,c2,v2) ⟨hf2,hc2'⟩ [2,3,4] (by decide) rfl
end Go.Proofs.Ytldiodhdefnlaaa.eng

/- ItA -/
namespace Go.Proofs.Ytldiodhdefnlaaa.eng
open Go.RowKit kit mix gramL treeL factsL itemL smallL
def outA (g:Gram):List (List Int)×List (List itemL.Item)×Int:=if checkG g≠0 then ([],[],checkG g) else match allI g.prods g.terms.toNat g.nons.toNat (lkG g) with
  | some (Nx,S)=>(Nx,S,0)
  | none=>([],[],8)
def allS (g:Gram):Spec (Value×Value×List Value×(Nat→Prop)×List Value×(Nat→Prop)):=⟨fun _=>True,fun x=> .tuple #[.agg #[x.1,x.2.1],.int .i64 (outA g).2.2],fun x=>[rowO 148 1 x.1 (outA g).2.1.length x.2.2.1,elsO (sliceS itS) x.2.2.2.1 (x.2.2.1.map fun v=>[v]) (outA g).2.1,rowO 26 1 x.2.1 (outA g).1.length x.2.2.2.2.1,elsO (sliceS intS) x.2.2.2.2.2 (x.2.2.2.2.1.map fun v=>[v]) (outA g).1]⟩
theorem build_auto0 (w:World):(Instr.build 103 (#[]:Array (Nat×Value))).run Try.prog w = .ok (.agg #[.slice none 0 0,.slice none 0 0]) w:=by kernel_rfl
theorem small_right {l:List gramL.Prod} {T:Nat} {s:List itemL.Item} (hw:∀ q∈l,q.2.length≤8) (hl:l.length≤40) (hT:T≤30) (h:∀ it∈s,RightI l T it):SmallIt s:=fun it hit=>by
  obtain⟨a1,a2,a3,a4,a5,a6⟩:=h it hit
  have:=body_len (l:=l) (p:=it.1) hw
  omega
theorem SlB.els {W:Base} {L Lx:List Own} {w:World} (hm:Mem W L w) {i n:Nat} {F:Nat→Prop} {vss:List Value} {S:List (List itemL.Item)} (hi:L[i]?=some (elsO (sliceS itS) F (vss.map fun v=>[v]) S)) (is:List Nat) (hL:Lx=is.filterMap fun i=>L[i]?) (hni:i∉is) {s:List itemL.Item} (hs:S[n]?=some s) {v:Value} (hv:vss[n]?=some v):SlB (Base.on w Lx) v s.length (s.flatMap itC):=by
  obtain⟨hn,rfl⟩:=List.getElem?_eq_some_iff.1 hs
  obtain⟨⟨h1,h2⟩,h3⟩:=hm.get hi
  have hnv:n<vss.length:=(List.getElem?_eq_some_iff.1 hv).1
  obtain⟨v',e,hs⟩:=h2 n hn (by rw[List.length_map];exact hnv)
  rw[List.getElem_map] at e
  obtain rfl:v=v':=by
    have:=(List.getElem?_eq_some_iff.1 hv).2
    rw[this] at e
    exact (List.cons.inj e).1
  obtain⟨base,cap,rfl,a1,a2,a3⟩:=hs
  refine⟨base,cap,rfl,a1,a2,fun h0 => ?_⟩
  obtain⟨b,off,rfl,hF,_⟩:=a3 h0
  have hfl:=SlF.flat (f:=itC) (c:=3) (hc:=fun _=>rfl) (p:=fun _=>True) (F:=F) (by decide) (⟨some ⟨b,off,none⟩,cap,rfl,a1,a2,a3⟩:SlF itS F w _ S[n])
  obtain⟨base',cap',e',_,_,q⟩:=hfl
  obtain⟨b',off',e2,hr⟩:=q h0
  cases e'
  cases e2
  refine⟨b,off,rfl,⟨h3 b hF,?_⟩,hr⟩
  rintro⟨o,ho,hfo⟩
  subst hL
  obtain⟨j,hj,hoj⟩:=List.mem_filterMap.1 ho
  exact hm.owns.apart i j _ _ (fun h=>hni (h ▸ hj)) hi hoj b (.inr hF) hfo
theorem step_cnt {a b c k:Nat} (h1:a≤b+12000) (h2:b≤c+12000*k):a≤c+12000*(k+1):=by rw[Nat.mul_succ,←Nat.add_assoc];exact Nat.le_trans h1 (Nat.add_le_add_right h2 _)
theorem ints_of_row {w:World} {v:Value} {l:List Int} (hp:∀ x∈l,kit.okI64 x) (h:(rowO 3 1 v l.length (l.map (Value.int .i64))).holds w):(sliceS intS).is (fun k=>v.ownBlock=some k) w [v] l:=
  ⟨v,rfl,SlF.of_flat (by have:=Sl.of_own h;rwa [show l.map (Value.int .i64)=l.flatMap (fun n=>[Value.int .i64 n]) by rw[List.map_eq_flatMap]] at this) hp (fun _ h=>h) (fun a n cp hv=>by rw[hv];rfl)⟩
set_option maxHeartbeats 8000000 in
theorem all_calls (v:Value) (g:Gram) (w:World) (hG:GraR (fun k=>k<w.heap.size) w v g) :
    Calls Try.prog 26 #[v] w (Meets (allS g) w):=by
  have hG0:=hG
  have hck:=fun w' (hg:Gr w w')=>checkG_calls v g w' (hG.gr hg)
  obtain⟨vp,rfl,hp,ht,hn⟩:=hG
  obtain⟨vb,bp,cp,rfl,-,-,hvb,hrp⟩:=prods_vb hp
  have hbg:=begunI_calls g.terms g.nons (.slice bp g.prods.length cp)
  have hb0:=build_auto0
  have hO:outA g=if checkG g≠0 then ([],[],checkG g) else match allI g.prods g.terms.toNat g.nons.toNat (lkG g) with
    | some (Nx,S)=>(Nx,S,0)
    | none=>([],[],8):=rfl
  unfold allS
  refine enter (args:=[graV g.terms g.nons (.slice bp g.prods.length cp)]) (n:=81) Try.func26 rfl rfl rfl ?_
  refine T_seq (T_region (TL_box rfl rfl rfl fun g1 => ?_))
  conv=>arg 8;simp only[zA,zB,zC,zD,zE,zF,zG,zH,zI,rowS,ret,id_eq]
  try refine GA ?_
  refine TL_new rfl fun g2 => ?_
  conv=>arg 8;simp only[zA,zB,zC,zD,zE,zF,zG,zH,zI,rowS,ret,id_eq]
  repeat(first|refine GA ?_|refine gV (rr_loadB (i:=0) TyC.ty rfl rfl rfl) ?_)
  refine TL_call (he1 EntersC.en rfl rfl) (fun w hm=>hck w hm.below) rfl rfl rfl ?_
  intro _ _
  conv=>arg 8;simp only[zA,zB,zC,zD,zE,zF,zG,zH,zI,rowS,ret,id_eq]
  by_cases c0:checkG g=0
  · rw[if_neg (by rw[c0];simp)] at hO
    rw[c0]
    obtain⟨hT1,hT2,hN1,hN2,hpl,hgb⟩:=checkG_ok c0
    have hwl:∀ q∈g.prods,q.2.length≤8:=fun q hq=>(hgb q hq).1
    obtain⟨T,hTt⟩:∃ T:Nat,g.terms=(T:Int):=⟨g.terms.toNat,by omega⟩
    obtain⟨N,hNn⟩:∃ N:Nat,g.nons=(N:Int):=⟨g.nons.toNat,by omega⟩
    rw[show g.terms.toNat=T by omega,show g.nons.toNat=N by omega] at hO
    have hT:T≤30:=by omega
    have hrp':0<g.prods.length→∃ b off,bp=some ⟨b,off,none⟩∧∀ i,i<g.prods.length→Rd w b (off+i*2) [.int .i64 (prodAt g.prods (i:Int)).1,vb i]:=fun h=>let ⟨b,off,h1,_,h3⟩:=hrp h;⟨b,off,h1,fun i hi=>(h3 i hi).1⟩
    have hcl:=fun go gm l0 vl h1 h2 w' B' ho' hs' hm'=>itClosed_calls g c0 bp cp vb w hG0 hvb hrp' go gm 0 (fun _=>none) T hTt hT l0 vl h1 h2 (fun x v h=>by cases h) (by omega) w' B' ho' hs' hm'
    have hst:=fun go gm c f s x vl h1 h2 h3 h4 w' B' ho' hs' hm'=>itStep_calls g c0 bp cp vb w hG0 hvb hrp' go gm c f T hTt hT s x vl h1 h2 h3 h4 w' B' ho' hs' hm'
    have hsy:=symbols_calls T N (by omega) (by omega) (.slice bp g.prods.length cp)
    repeat(first|refine GA ?_|refine gV (rr_loadB (i:=0) TyC.ty rfl rfl rfl) ?_)
    refine TL_call (he1 EntersC.en rfl rfl) (fun w hm=>hbg w) rfl rfl rfl ?_
    rintro⟨go,gm⟩ _
    conv=>arg 8;simp only[zA,zB,zC,zD,zE,zF,zG,zH,zI,rowS,ret,id_eq,begS]
    conv=>arg 7;simp only[begS]
    try refine GA ?_
    refine TL_mapNew (K:=strK) rfl fun gq => ?_
    conv=>arg 8;simp only[zA,zB,zC,zD,zE,zF,zG,zH,zI,rowS,ret,id_eq]
    try refine GA ?_
    refine TL_new rfl fun g6 => ?_
    conv=>arg 8;simp only[zA,zB,zC,zD,zE,zF,zG,zH,zI,rowS,ret,id_eq]
    refine TL_store1 (i:=5) rfl rfl rfl rfl rfl rfl ?_
    conv=>arg 8;simp only[zA,zB,zC,zD,zE,zF,zG,zH,zI,rowS,ret,id_eq]
    try refine GA ?_
    refine TL_new rfl fun g7 => ?_
    conv=>arg 8;simp only[zA,zB,zC,zD,zE,zF,zG,zH,zI,rowS,ret,id_eq]
    repeat(first|refine GA ?_|refine gV (rr_func rfl rfl) ?_|refine gV (rr_load1 (v:= .slice bp g.prods.length cp) TyC.ty rfl (at_blk (i:=0) rfl rfl)) ?_|refine gV (rr_load1 (v:= .int .i64 g.terms) TyC.ty rfl (at_blk (i:=0) rfl rfl)) ?_|refine gV (rr_build rfl (build_it2 _ _)) ?_)
    refine TL_one (cs:=(itC ((g.prods.length:Int),0,g.terms)).toArray) rfl rfl rfl rfl rfl fun g33 => ?_
    conv=>arg 8;simp only[zA,zB,zC,zD,zE,zF,zG,zH,zI,rowS,ret,id_eq]
    refine TL_toRow (i:=7) (m:=1) 3 rfl rfl (by decide) ?_
    conv=>arg 8;simp only[zA,zB,zC,zD,zE,zF,zG,zH,zI,rowS,ret,id_eq]
    have hsr:∀ x∈[(((g.prods.length:Int),0,g.terms):itemL.Item)],RightI g.prods T x:=by rw[hTt];exact start_right hpl hT
    try refine GA ?_
    refine TL_callB [3,2] [0,1,4,5,6] (by decide) rfl rfl (he2 EntersC.en rfl rfl rfl) (fun w' hm hb=>hcl go gm [((g.prods.length:Int),0,g.terms)] _ hsr (by simp) w' _ ((Old.self w).on hm fun o h=>pickMem h) (SlB.row hm (i:=7) rfl [3,2] rfl (by decide)) hb) rfl rfl rfl ?_
    rintro⟨f2,c2,v2⟩ ⟨hf2,hc2⟩
    conv=>arg 8;simp only[zA,zB,zC,zD,zE,zF,zG,zH,zI,rowS,ret,id_eq,itClS,opL]
    conv=>arg 7;simp only[itClS]
    have hstart:closedI g.prods T (lkG g) [((g.prods.length:Int),0,g.terms)]=startI g.prods T (lkG g):=by rw[hTt];rfl
    rw[hstart]
    have hs0r:∀ it∈startI g.prods T (lkG g),RightI g.prods T it:=closed_right hwl hpl hT (start_right hpl hT)
    have hs0s:=closed_shut (lk:=lkG g) hwl hpl hT (l0:=[((g.prods.length:Int),0,(T:Int))]) (start_right hpl hT)
    have hs0l:(startI g.prods T (lkG g)).length≤11439:=closed_len hwl hpl hT (start_right hpl hT)
    dsimp only at hf2 hc2
    refine TL_nilrow 148 1 ?_
    refine TL_extra (elsO (sliceS itS) (fun _=>False) [] []) (fun k hk=>hk.elim (fun h=>by cases h) id) (fun w=>els_nil) ?_
    conv=>arg 8;simp only[zA,zB,zC,zD,zE,zF,zG,zH,zI,rowS,ret,id_eq]
    have hsm:=small_right hwl hpl hT hs0r
    have hs1:stateI [] (startI g.prods T (lkG g))=(0,[startI g.prods T (lkG g)]):=if_neg (by simp)
    try refine GA ?_
    refine TL_callB [3,2,4,8,9,7] [0,1,5,6] (by decide) rfl rfl (he1c EntersC.en rfl rfl) (fun w' hm hb=>state_calls g6 gq g7 (.slice none 0 0) (.slice none 0 0) [] (fun _=>False) [] v2 (startI g.prods T (lkG g)) (fun t h=>by cases h) hsm (by simp) (by omega) w' _ hb) rfl rfl rfl ?_
    rintro⟨vS,vss,F⟩ _
    conv=>arg 8;simp only[zA,zB,zC,zD,zE,zF,zG,zH,zI,rowS,ret,id_eq,stL]
    rw[hs1]
    dsimp only
    refine TL_nilrow 26 1 ?_
    refine TL_extra (elsO (sliceS intS) (fun _=>False) [] []) (fun k hk=>hk.elim (fun h=>by cases h) id) (fun w=>els_nil) ?_
    conv=>arg 8;simp only[zA,zB,zC,zD,zE,zF,zG,zH,zI,rowS,ret,id_eq]
    try refine GA ?_
    refine T_loop (ι:=Nat×List (List itemL.Item)×List (List Int)×(RK→Option Value)×Nat×Value×Value×List Value×(Nat→Prop)×List Value×(Nat→Prop))
      (fun (n,S,Nx,f,c,_,_,_,_,_,_)=>n≤S.length∧Nx.length=n∧SsOk g.prods T (lkG g) S∧S.length≤200∧allTo g.prods T N (lkG g) (202 - n) n Nx S=allI g.prods T N (lkG g)∧CacheOk (lkG g) f∧c≤12000+1200000*n∧∀ t∈S,t.length≤11439)
      (fun (n,_,_,_,_,_,_,_,_,_,_)=>[(1,.pointer (some ⟨g1,0,none⟩)),(2,.pointer (some ⟨g2,0,none⟩)),(5,.pointer (some ⟨go,0,none⟩)),(7,.pointer (some ⟨g7,0,none⟩)),(8,.func (.func 45) #[] #[.pointer (some ⟨g6,0,none⟩),.pointer (some ⟨g7,0,none⟩)]),(9,.int .i64 (n:Int))])
      (fun (_,S,Nx,f,c,vS,vN,vss,F,vns,G)=>[blkO g1 (graV g.terms g.nons (.slice bp g.prods.length cp)).cells 33,blkO g2 #[.slice none 0 0,.slice none 0 0] 103,blkO go (opC g.terms g.nons (.slice bp g.prods.length cp) gm).toArray 173,mapO restK gm f c,blkO g6 #[.map (some gq)] 74,mapO strK gq (mapAt (S.map nameI)) S.length,blkO g7 #[vS,vN] 103,rowO 148 1 vS S.length vss,elsO (sliceS itS) F (vss.map fun v=>[v]) S,rowO 26 1 vN Nx.length vns,elsO (sliceS intS) G (vns.map fun v=>[v]) Nx]) (fun (n,_,_,_,_,_,_,_,_,_,_)=>202 - n)
      (0,[startI g.prods T (lkG g)],[],f2,c2,vS,.slice none 0 0,vss,F,[],fun _=>False) ⟨Nat.zero_le _,rfl,⟨by simp,fun s hs=>by rw[List.mem_singleton.1 hs];exact hs0r,fun s hs=>by rw[List.mem_singleton.1 hs];exact hs0s⟩,by simp,rfl,hf2,by omega,fun t ht=>by rw[List.mem_singleton.1 ht];exact hs0l⟩ (by repeat' (first | exact True.intro | refine And.intro rfl ?_)) rfl ?_
    clear hcl hs0r hs0s hs0l hsm hs1 hf2 hc2 hsr hstart hbg hck
    rintro⟨n,S,Nx,f,c,vS,vN,vss,F,vns,G⟩ ⟨i1,i2,i3,i4,i5,i6,i7,i8⟩
    dsimp only at i1 i2 i3 i4 i5 i6 i7 i8 ⊢
    refine T_know (i:=7) rfl row_slm fun hrow => ?_
    obtain⟨aS,cS,rfl,-,haS⟩:=hrow
    by_cases c1:n<S.length
    · rw[show 202 - n=(201 - n)+1 by omega,allTo,if_pos c1] at i5
      have hgd:S.getD n []=S[n]:=by rw[List.getD_eq_getElem?_getD,List.getElem?_eq_getElem c1];rfl
      rw[hgd] at i5
      have hsr:=i3.right S[n] (List.getElem_mem c1)
      have hsn:S[n]?=some S[n]:=List.getElem?_eq_getElem c1
      generalize hs0:S[n]=s0 at *
      have hyl:(symsI T N).length=T+N:=syms_len T N
      rw[←hTt,←hNn] at hsy
      generalize symsI T N=ys at *
      repeat(first|refine GA ?_|refine gV (rr_load1 (v:= .slice aS S.length cS) TyC.ty rfl (at_blk (i:=6) rfl rfl)) ?_|refine gV (rr_loadB (i:=0) TyC.ty rfl rfl rfl) ?_)
      refine TL_call (he1 EntersC.en rfl rfl) (fun w hm=>hsy w) rfl rfl rfl ?_
      intro vy _
      conv=>arg 8;simp only[zA,zB,zC,zD,zE,zF,zG,zH,zI,rowS,ret,id_eq,rowS]
      conv=>arg 7;simp only[rowS]
      refine TL_know (i:=11) rfl row_slm fun hrow => ?_
      obtain⟨ay,cy,rfl,-,hay⟩:=hrow
      try refine GA ?_
      refine T_nil 3 1 ?_
      conv=>arg 7;simp only[zA,zB,zC,zD,zE,zF,zG,zH,zI,rowS,ret,id_eq]
      refine T_loop (ι:=Nat×List Int×List (List itemL.Item)×(RK→Option Value)×Nat×Value×List Value×(Nat→Prop)×Value)
        (fun (k,nx,S',f',c',_,_,_,_)=>k≤ys.length∧(∃ E,S'=S++E)∧SsOk g.prods T (lkG g) S'∧S'.length≤200∧rowI g.prods T (lkG g) s0 (ys.drop k) nx S'=rowI g.prods T (lkG g) s0 ys [] S∧CacheOk (lkG g) f'∧c'≤c+12000*k∧nx.length=k∧(∀ y∈nx,kit.okI64 y)∧∀ t∈S',t.length≤11439)
        (fun (k,_,_,_,_,_,_,_,vx)=>[(1,.pointer (some ⟨g1,0,none⟩)),(2,.pointer (some ⟨g2,0,none⟩)),(5,.pointer (some ⟨go,0,none⟩)),(7,.pointer (some ⟨g7,0,none⟩)),(8,.func (.func 45) #[] #[.pointer (some ⟨g6,0,none⟩),.pointer (some ⟨g7,0,none⟩)]),(9,.int .i64 (n:Int)),(10,vx),(44,.slice ay ys.length cy),(45,.int .i64 (ys.length:Int)),(46,.int .i64 (k:Int))])
        (fun (_,nx,S',f',c',vS',vss',F',vx)=>[blkO g1 (graV g.terms g.nons (.slice bp g.prods.length cp)).cells 33,blkO g2 #[.slice none 0 0,.slice none 0 0] 103,blkO go (opC g.terms g.nons (.slice bp g.prods.length cp) gm).toArray 173,mapO restK gm f' c',blkO g6 #[.map (some gq)] 74,mapO strK gq (mapAt (S'.map nameI)) S'.length,blkO g7 #[vS',vN] 103,rowO 148 1 vS' S'.length vss',elsO (sliceS itS) F' (vss'.map fun v=>[v]) S',rowO 26 1 vN Nx.length vns,elsO (sliceS intS) G (vns.map fun v=>[v]) Nx,rowO 112 2 (.slice ay ys.length cy) ys.length (ys.flatMap symC),rowO 3 1 vx nx.length (nx.map (Value.int .i64))]) (fun (k,_,_,_,_,_,_,_,_)=>ys.length - k)
        (0,[],S,f,c,.slice aS S.length cS,vss,F,.slice none 0 0) ⟨Nat.zero_le _,⟨[],(List.append_nil _).symm⟩,i3,i4,rfl,i6,by omega,rfl,(fun y hy=>by cases hy),i8⟩ (by repeat' (first | exact True.intro | refine And.intro rfl ?_)) rfl ?_
      clear hsy
      rintro⟨k,nx,S',f',c',vS',vss',F',vx⟩ ⟨j1,⟨E,hE⟩,j3,j4,j5,j6,j7,j8,j9,j10⟩
      dsimp only at j1 hE j3 j4 j5 j6 j7 j8 j9 j10 ⊢
      by_cases c2:k<ys.length
      · have hn':n<S'.length:=by rw[hE,List.length_append];omega
        have hsn':S'[n]?=some s0:=by rw[hE,List.getElem?_append_left c1];exact hsn
        refine T_know (i:=7) rfl row_slm fun hrow => ?_
        obtain⟨aS',cS',rfl,-,haS'⟩:=hrow
        obtain⟨gS',rfl⟩:=haS' (by omega)
        refine T_know (i:=8) rfl (fun w h=>h.1.1) fun hvl => ?_
        rw[List.length_map] at hvl
        have hvn:vss'[0+n]?=some (vss'[n]'(by omega)):=by rw[Nat.zero_add];exact List.getElem?_eq_getElem _
        have hvn2:vss'[n]?=some (vss'[n]'(by omega)):=List.getElem?_eq_getElem _
        generalize vss'[n]'(by omega)=vn at hvn hvn2
        obtain⟨gy,rfl⟩:=hay (by omega)
        have hat:=fun (L:List Own) (i:Nat) (hL:L[i]?=some (rowO 112 2 (.slice (some ⟨gy,0,none⟩) ys.length cy) ys.length (ys.flatMap symC)))=>at_rowel (W:=(w:Base)) SymC_len hL c2
        rw[List.drop_eq_getElem_cons c2,rowI] at j5
        generalize ys[k]=x at *
        have hsl:s0.length≤11439:=j10 s0 (List.mem_of_getElem? hsn')
        repeat(first|refine GA ?_|refine gV (rr_idxc Und.eq TyC.ty rfl rfl c2) ?_|refine gV (rr_loadN (cs:=symC x) TyC.ty rfl rfl (hat _ 11 rfl)) ?_)
        refine TL_new rfl fun g12 => ?_
        conv=>arg 8;simp only[zA,zB,zC,zD,zE,zF,zG,zH,zI,rowS,ret,id_eq]
        refine TL_storeB (i:=13) (cs':=(symC x).toArray) rfl rfl rfl rfl rfl rfl ?_
        conv=>arg 8;simp only[zA,zB,zC,zD,zE,zF,zG,zH,zI,rowS,ret,id_eq]
        try refine GA ?_
        refine T_ord ([blkO g7 #[.slice (some ⟨gS',0,none⟩) S'.length cS',vN] 103,rowO 148 1 (.slice (some ⟨gS',0,none⟩) S'.length cS') S'.length vss',blkO g12 (symC x).toArray 112]) (.calm 0 (.calm 1 (.calm 2 (.calm 3 (.calm 4 (.calm 5 (.calm 6 (.one 7 (.calm 8 (.done)))))))))) (sub_pick [6,7,13] (by decide) rfl) (by kernel_rfl) (by kernel_rfl) (by intro c a d v w h;cases d <;> exact h) ?_
        repeat(first|refine GW ?_|(refine GN ?_;first|refine QW (rr_load1 (v:= .slice (some ⟨gS',0,none⟩) S'.length cS') TyC.ty rfl (at_blk (i:=0) rfl rfl)) ?_|refine QW (rr_idx1 Und.eq TyC.ty rfl rfl hn') ?_|refine QW (rr_load1 (v:=vn) TyC.ty rfl (at_row (i:=1) rfl hvn)) ?_|refine QW (rr_loadB (i:=2) TyC.ty rfl rfl rfl) ?_))
        refine TW_one rfl ?_
        refine TL_callB [2,3] [0,1,4,5,6,7,8,9,10,11,12,13] (by decide) rfl rfl (he3 EntersC.en rfl rfl rfl rfl) (fun w' hm hb=>hst go gm c' f' s0 x vn hsr (by omega) j6 (by omega) w' _ ((Old.self w).on hm fun o h=>pickMem h) (SlB.els hm (i:=8) rfl [2,3] rfl (by decide) hsn' hvn2) hb) rfl rfl rfl ?_
        rintro⟨f2,c2',v2⟩ ⟨hf2,hc2⟩
        dsimp only at hf2 hc2
        conv=>arg 8;simp only[zA,zB,zC,zD,zE,zF,zG,zH,zI,rowS,ret,id_eq,itClS,opL]
        conv=>arg 7;simp only[itClS]
        rw[show closedI g.prods T (lkG g) (overI g.prods s0 x)=stepI g.prods T (lkG g) s0 x from rfl]
        refine TW_on (sub_pick [4,5,11] (by decide) rfl) ?_
        try refine GW ?_
        try refine GA ?_
        refine TL_know (i:=14) rfl row_slm fun hrow => ?_
        obtain⟨a2,cv2,rfl,-,ha2⟩:=hrow
        obtain⟨hlE,hlC,hlS⟩:=cell_lawI (lk:=lkG g) hwl hpl hT j3 hsr x
        have hcc:c2'≤c+12000*(k+1):=step_cnt hc2 j7
        have hstr:∀ it∈stepI g.prods T (lkG g) s0 x,RightI g.prods T it:=closed_right hwl hpl hT (over_right hsr)
        have hstl:(stepI g.prods T (lkG g) s0 x).length≤11439:=closed_len hwl hpl hT (over_right hsr)
        by_cases c3:stepI g.prods T (lkG g) s0 x=[]
        · have hcell:cellI g.prods T (lkG g) s0 x S'=(-1,S'):=if_pos c3
          rw[hcell,if_neg (by show ¬ 200<S'.length;omega)] at j5
          dsimp only at j5
          have hl0:(stepI g.prods T (lkG g) s0 x).length=0:=by rw[c3];rfl
          repeat(first|refine GA ?_|refine gV (rr_load1 (v:= .slice (some ⟨gS',0,none⟩) S'.length cS') TyC.ty rfl (at_blk (i:=4) rfl rfl)) ?_)
          refine TL_push1 (i:=10) rfl rfl rfl rfl rfl rfl (fun z h=>by cases h;rfl) (by omega) (by omega) rfl fun z vx' => ?_
          conv=>arg 8;simp only[zA,zB,zC,zD,zE,zF,zG,zH,zI,rowS,ret,id_eq]
          try refine GA ?_
          refine E_pick [0,1,12,13,2,3,4,5,6,7,8,9,10] (by decide) rfl ?_
          exact E_round (k+1,nx++[-1],S',f2,c2',.slice (some ⟨gS',0,none⟩) S'.length cS',vss',F',vx') ⟨by show k+1≤ys.length;omega,⟨E,hE⟩,j3,j4,j5,hf2,hcc,by show (nx++[-1]).length=k+1;rw[List.length_append,j8];rfl,fun y hy=>(List.mem_append.1 hy).elim (j9 y) fun h=>by rw[List.mem_singleton.1 h];exact⟨by omega,by omega⟩,j10⟩ (by show ys.length - (k+1)<ys.length - k;omega) (by repeat' (first | exact True.intro | refine And.intro rfl ?_)) (by dsimp only;rw[List.length_append,List.map_append];rfl)
        · have hcell:cellI g.prods T (lkG g) s0 x S'=(((stateI S' (stepI g.prods T (lkG g) s0 x)).1:Int),(stateI S' (stepI g.prods T (lkG g) s0 x)).2):=if_neg c3
          have hsm:=small_right hwl hpl hT hstr
          have hSm:∀ t∈S',SmallIt t:=fun t ht=>small_right hwl hpl hT (j3.right t ht)
          have hpos:0<(stepI g.prods T (lkG g) s0 x).length:=List.length_pos_iff.2 c3
          have hq:(stateI S' (stepI g.prods T (lkG g) s0 x)).1≤S'.length:=by
            unfold stateI;split
            · rename_i hm;exact Nat.le_of_lt (idx_lt hm)
            · exact Nat.le_refl _
          rw[hcell] at j5 hlE hlC hlS
          dsimp only at j5 hlE hlC hlS
          try refine GA ?_
          refine TL_callB [2,3,4,5,6,14] [0,1,7,8,9,10,11,12,13] (by decide) rfl rfl (he1c EntersC.en rfl rfl) (fun w' hm hb=>state_calls g6 gq g7 (.slice (some ⟨gS',0,none⟩) S'.length cS') vN vss' F' S' _ (stepI g.prods T (lkG g) s0 x) hSm hsm (by omega) (by omega) w' _ hb) rfl rfl rfl ?_
          rintro⟨vS2,vss2,F2⟩ _
          conv=>arg 8;simp only[zA,zB,zC,zD,zE,zF,zG,zH,zI,rowS,ret,id_eq,stL]
          have hlen2:∀ t∈(stateI S' (stepI g.prods T (lkG g) s0 x)).2,t.length≤11439:=by
            unfold stateI;split
            · exact j10
            · intro t ht
              rcases List.mem_append.1 ht with h | h
              · exact j10 t h
              · rw[List.mem_singleton.1 h];exact hstl
          generalize stateI S' (stepI g.prods T (lkG g) s0 x)=R at *
          obtain⟨q,S2⟩:=R
          dsimp only at j5 hlE hlC hlS hq hlen2 ⊢
          refine TL_know (i:=12) rfl row_slm fun hrow => ?_
          obtain⟨aS2,cS2,rfl,-,haS2⟩:=hrow
          obtain⟨E2,hE2⟩:=hlE
          by_cases c4:200<S2.length
          · rw[if_pos c4] at j5
            rw[←j5] at i5
            repeat(first|refine GC ?_|refine gV (rr_load1 (v:= .slice aS2 S2.length cS2) TyC.ty rfl (at_blk (i:=11) rfl rfl)) ?_|refine gV (rr_gtr (b:=true) rfl rfl (decide_eq_true (by omega))) ?_|refine gV (rr_build rfl hb0) ?_|refine GB ?_)
            have hOn:outA g=([],[],8):=by rw[hO,←i5]
            rw[hOn]
            refine TL_storeB (i:=1) rfl rfl rfl rfl rfl rfl ?_
            conv=>arg 8;simp only[zA,zB,zC,zD,zE,zF,zG,zH,zI,rowS,ret,id_eq]
            try refine GA ?_
            refine E_nilrow 148 1 (E_extra (elsO (sliceS itS) (fun _=>False) [] []) (fun k hk=>hk.elim (fun h=>by cases h) id) (fun w=>els_nil) (E_nilrow 26 1 (E_extra (elsO (sliceS intS) (fun _=>False) [] []) (fun k hk=>hk.elim (fun h=>by cases h) id) (fun w=>els_nil) ?_)))
            exact E_retc2 (i:=1) rfl rfl rfl rfl rfl fun w hm=>hm.meets (S:=⟨fun (_:Value×Value×List Value×(Nat→Prop)×List Value×(Nat→Prop))=>True,fun x=> .tuple #[.agg #[x.1,x.2.1],.int .i64 8],fun x=>[rowO 148 1 x.1 0 x.2.2.1,elsO (sliceS itS) x.2.2.2.1 (x.2.2.1.map fun v=>[v]) [],rowO 26 1 x.2.1 0 x.2.2.2.2.1,elsO (sliceS intS) x.2.2.2.2.2 (x.2.2.2.2.1.map fun v=>[v]) []]⟩) (.slice none 0 0,.slice none 0 0,[],fun _=>False,[],fun _=>False) trivial [14,15,16,17] (by decide) rfl
          · rw[if_neg c4] at j5
            repeat(first|refine GC ?_|refine gV (rr_load1 (v:= .slice aS2 S2.length cS2) TyC.ty rfl (at_blk (i:=11) rfl rfl)) ?_|refine gV (rr_gtr (b:=false) rfl rfl (decide_eq_false (by omega))) ?_|refine GB ?_)
            refine TL_push1 (i:=5) rfl rfl rfl rfl rfl rfl (fun z h=>by cases h;rfl) (by omega) (by omega) rfl fun z vx' => ?_
            conv=>arg 8;simp only[zA,zB,zC,zD,zE,zF,zG,zH,zI,rowS,ret,id_eq]
            try refine GA ?_
            refine E_pick [0,1,7,8,9,10,11,12,13,2,3,4,5] (by decide) rfl ?_
            exact E_round (k+1,nx++[(q:Int)],S2,f2,c2',.slice aS2 S2.length cS2,vss2,F2,vx') ⟨by show k+1≤ys.length;omega,⟨E++E2,by rw[hE2,hE,List.append_assoc]⟩,hlS,by show S2.length≤200;omega,j5,hf2,hcc,by show (nx++[(q:Int)]).length=k+1;rw[List.length_append,j8];rfl,fun y hy=>(List.mem_append.1 hy).elim (j9 y) fun h=>by rw[List.mem_singleton.1 h];exact⟨by omega,by omega⟩,fun t ht=>hlen2 t ht⟩ (by show ys.length - (k+1)<ys.length - k;omega) (by repeat' (first | exact True.intro | refine And.intro rfl ?_)) (by dsimp only;rw[List.length_append,List.map_append];rfl)
      · obtain rfl:k=ys.length:=by omega
        rw[List.drop_eq_nil_of_le (Nat.le_refl _),rowI] at j5
        rw[←j5] at i5
        dsimp only at i5
        repeat(first|refine GA ?_|refine gV (rr_load1 (v:=vN) TyC.ty rfl (at_blk (i:=6) rfl rfl)) ?_)
        refine TL_slv (i:=12) rfl fun hl1 hl2 => ?_
        refine TL_push1 (i:=9) rfl rfl hl1 hl2 rfl rfl (fun z h=>by cases h;rfl) (by omega) (by omega) rfl fun z vN' => ?_
        conv=>arg 8;simp only[zA,zB,zC,zD,zE,zF,zG,zH,zI,rowS,ret,id_eq]
        refine TL_merge (elsO (sliceS intS) (fun k=>G k∨vx.ownBlock=some k) ((vns.map fun v=>[v])++[[vx]]) (Nx++[nx])) 12 10 [0,1,2,3,4,5,6,7,8,9] (by decide) rfl rfl rfl (fun k hk=>hk.elim (fun h=>by cases h) fun h=>h.elim (fun h=> .inr (.inr h)) fun h=> .inl (.inl h)) (fun w hr he=>els_snoc he (ints_of_row j9 hr) (row_foot hr)) ?_
        conv=>arg 8;simp only[zA,zB,zC,zD,zE,zF,zG,zH,zI,rowS,ret,id_eq]
        try refine GA ?_
        refine TL_slv (i:=9) rfl fun hv1 hv2=>TL_store1 (i:=6) rfl rfl rfl hv1 hv2 rfl ?_
        conv=>arg 8;simp only[zA,zB,zC,zD,zE,zF,zG,zH,zI,rowS,ret,id_eq]
        try refine GA ?_
        exact E_round (n+1,S',Nx++[nx],f',c',vS',vN',vss',F',vns++[vx],fun k=>G k∨vx.ownBlock=some k) ⟨by show n+1≤S'.length;rw[hE,List.length_append];omega,by show (Nx++[nx]).length=n+1;rw[List.length_append,i2];rfl,j3,j4,by show allTo g.prods T N (lkG g) (202 - (n+1)) (n+1) (Nx++[nx]) S'=_;rw[show 202 - (n+1)=201 - n by omega];exact i5,j6,by dsimp only;omega,j10⟩ (by show 202 - (n+1)<202 - n;omega) (by repeat' (first | exact True.intro | refine And.intro rfl ?_)) (by dsimp only;rw[List.length_append,List.map_append];rfl)
    · have hA:allI g.prods T N (lkG g)=some (Nx,S):=by rw[←i5,show 202 - n=(201 - n)+1 by omega,allTo,if_neg c1]
      rw[hA] at hO
      have hO:outA g=(Nx,S,0):=hO
      rw[hO]
      refine T_know (i:=9) rfl row_slm fun hrow => ?_
      obtain⟨aN,cN,rfl,-⟩:=hrow
      repeat(first|refine GA ?_|refine gV (rr_load1 (v:= .slice aS S.length cS) TyC.ty rfl (at_blk (i:=6) rfl rfl)) ?_|refine gV (rr_loadB (i:=6) TyC.ty rfl rfl rfl) ?_)
      refine TL_storeB (i:=1) (cs':=#[.slice aS S.length cS,.slice aN Nx.length cN]) rfl rfl rfl rfl rfl rfl ?_
      conv=>arg 8;simp only[zA,zB,zC,zD,zE,zF,zG,zH,zI,rowS,ret,id_eq]
      try refine GA ?_
      exact E_retc2 (i:=1) rfl rfl rfl rfl rfl fun w hm=>hm.meets (S:=⟨fun (_:Value×Value×List Value×(Nat→Prop)×List Value×(Nat→Prop))=>True,fun x=> .tuple #[.agg #[x.1,x.2.1],.int .i64 0],fun x=>[rowO 148 1 x.1 S.length x.2.2.1,elsO (sliceS itS) x.2.2.2.1 (x.2.2.1.map fun v=>[v]) S,rowO 26 1 x.2.1 Nx.length x.2.2.2.2.1,elsO (sliceS intS) x.2.2.2.2.2 (x.2.2.2.2.1.map fun v=>[v]) Nx]⟩) (.slice aS S.length cS,.slice aN Nx.length cN,vss,F,vns,G) trivial [7,8,9,10] (by decide) rfl
  · rw[if_pos c0] at hO
    rw[hO]
    repeat(first|refine GC ?_|refine gV (rr_neq (b:=true) rfl rfl (decide_eq_true c0)) ?_|refine gV (rr_build rfl hb0) ?_|refine GB ?_)
    refine TL_storeB (i:=1) rfl rfl rfl rfl rfl rfl ?_
    conv=>arg 8;simp only[zA,zB,zC,zD,zE,zF,zG,zH,zI,rowS,ret,id_eq]
    try refine GA ?_
    refine E_nilrow 148 1 (E_extra (elsO (sliceS itS) (fun _=>False) [] []) (fun k hk=>hk.elim (fun h=>by cases h) id) (fun w=>els_nil) (E_nilrow 26 1 (E_extra (elsO (sliceS intS) (fun _=>False) [] []) (fun k hk=>hk.elim (fun h=>by cases h) id) (fun w=>els_nil) ?_)))
    exact E_retc2 (i:=1) rfl rfl rfl rfl rfl fun w hm=>hm.meets (S:=⟨fun (_:Value×Value×List Value×(Nat→Prop)×List Value×(Nat→Prop))=>True,fun x=> .tuple #[.agg #[x.1,x.2.1],.int .i64 (checkG g)],fun x=>[rowO 148 1 x.1 0 x.2.2.1,elsO (sliceS itS) x.2.2.2.1 (x.2.2.1.map fun v=>[v]) [],rowO 26 1 x.2.1 0 x.2.2.2.2.1,elsO (sliceS intS) x.2.2.2.2.2 (x.2.2.2.2.1.map fun v=>[v]) []]⟩) (.slice none 0 0,.slice none 0 0,[],fun _=>False,[],fun _=>False) trivial [2,3,4,5] (by decide) rfl
end Go.Proofs.Ytldiodhdefnlaaa.eng

/- ItP -/
namespace Go.Proofs.Ytldiodhdefnlaaa.itemL
open gramL treeL smallL
section
variable {l:List gramL.Prod} {T N:Nat} {lk:Int→Int→Nat} {Nx:List (List Int)} {S:List (List Item)}
theorem row_pred {P:List Item→Prop} (hP:∀ s x,(∀ it∈s,RightI l T it)→P s→P (stepI l T lk s x)) {s:List Item} (hs:∀ it∈s,RightI l T it) (h0:P s):∀ (xs:List Sym) (nx:List Int) (S:List (List Item)) (nx':List Int) (S':List (List Item)),(∀ s∈S,P s)→rowI l T lk s xs nx S=some (nx',S')→∀ s∈S',P s
  | [],nx,S,nx',S',hS,h=>by
    simp only[rowI,Option.some.injEq,Prod.mk.injEq] at h
    obtain⟨_,rfl⟩:=h
    exact hS
  | x :: xs,nx,S,nx',S',hS,h=>by
    rw[rowI] at h
    by_cases c:200<(cellI l T lk s x S).2.length
    · rw[if_pos c] at h;cases h
    · rw[if_neg c] at h
      refine row_pred hP hs h0 xs _ _ nx' S' ?_ h
      intro s' hs'
      unfold cellI at hs'
      split at hs'
      · exact hS s' hs'
      · unfold stateI at hs'
        dsimp only at hs'
        split at hs'
        · exact hS s' hs'
        · rcases List.mem_append.1 hs' with h' | h'
          · exact hS s' h'
          · rw[List.mem_singleton.1 h'];exact hP s x hs h0
theorem all_pred {P:List Item→Prop} (hw:∀ q∈l,q.2.length≤8) (hl:l.length≤40) (hT:T≤30) (hP:∀ s x,(∀ it∈s,RightI l T it)→P s→P (stepI l T lk s x)):∀ (f n:Nat) (Nx:List (List Int)) (S:List (List Item)) (Nx':List (List Int)) (S':List (List Item)),(∀ s∈S,P s∧∀ it∈s,RightI l T it)→allTo l T N lk f n Nx S=some (Nx',S')→∀ s∈S',P s
  | 0,_,_,_,_,_,_,h=>by cases h
  | f + 1,n,Nx,S,Nx',S',hS,h=>by
    rw[allTo] at h
    by_cases c:n<S.length
    · rw[if_pos c] at h
      have hget:S.getD n []=S[n]:=by rw[List.getD_eq_getElem?_getD,List.getElem?_eq_getElem c];rfl
      have hn:=hS _ (List.getElem_mem c)
      rw[←hget] at hn
      cases e:rowI l T lk (S.getD n []) (symsI T N) [] S with
      | none=>rw[e] at h;cases h
      | some r=>
        obtain⟨nx,S1⟩:=r
        rw[e] at h
        dsimp only at h
        have hQ:∀ s x,(∀ it∈s,RightI l T it)→(P s∧∀ it∈s,RightI l T it)→P (stepI l T lk s x)∧∀ it∈stepI l T lk s x,RightI l T it:=fun s x h1 h2=>⟨hP s x h1 h2.1,closed_right hw hl hT (over_right h1)⟩
        exact all_pred hw hl hT hP f (n+1) _ S1 Nx' S' (row_pred hQ hn.2 hn (symsI T N) [] S nx S1 hS e) h
    · rw[if_neg c] at h
      simp only[Option.some.injEq,Prod.mk.injEq] at h
      obtain⟨_,rfl⟩:=h
      exact fun s hs=>(hS s hs).1
theorem all_few (hw:∀ q∈l,q.2.length≤8) (hl:l.length≤40) (hT:T≤30) (h:allI l T N lk=some (Nx,S)):∀ s∈S,s.length≤11439:=
  all_pred (P:=fun s=>s.length≤11439) (N:=N) hw hl hT (fun s x hs _=>closed_len hw hl hT (over_right hs)) 202 0 [] [startI l T lk] Nx S (fun s hs=>by
    rw[List.mem_singleton.1 hs]
    exact⟨closed_len hw hl hT (start_right hl hT),closed_right hw hl hT (start_right hl hT)⟩) h
end
end Go.Proofs.Ytldiodhdefnlaaa.itemL

/- OutA -/
namespace Go.Proofs.Ytldiodhdefnlaaa.eng
open Go.RowKit kit mix gramL treeL factsL itemL smallL
theorem outA_ok {g:Gram} (h:(outA g).2.2=0):checkG g=0∧allI g.prods g.terms.toNat g.nons.toNat (lkG g)=some ((outA g).1,(outA g).2.1):=by
  unfold outA at h ⊢
  by_cases c:checkG g=0
  · rw[if_neg (by rw[c];simp)] at h ⊢
    refine⟨c,?_⟩
    cases e:allI g.prods g.terms.toNat g.nons.toNat (lkG g) with
    | none=>rw[e] at h;cases h
    | some r=>rfl
  · rw[if_pos c] at h;exact absurd h c
theorem outA_no {g:Gram} (h:(outA g).2.2≠0):(outA g).2.1=[]∧(outA g).1=[]:=by
  unfold outA at h ⊢
  by_cases c:checkG g=0
  · rw[if_neg (by rw[c];simp)] at h ⊢
    cases e:allI g.prods g.terms.toNat g.nons.toNat (lkG g) with
    | none=>exact⟨rfl,rfl⟩
    | some r=>rw[e] at h;exact absurd rfl h
  · rw[if_pos c];exact⟨rfl,rfl⟩
end Go.Proofs.Ytldiodhdefnlaaa.eng

/- Opens -/
namespace Go.Proofs.Ytldiodhdefnlaaa.derL
open gramL treeL countL factsL
def partO (o:Sym→Nat→Nat→Nat) (x:Sym) (frm:Nat) (A:Nat→Bool):Nat→Nat→Bool
  | 0,_=>false
  | k+1,b=>partO o x frm A k b || (A (frm+k) && decide (frm+k≤b) && decide (0<o x (frm+k) b))
def anyO (p:Nat→Bool) (frm:Nat):Nat→Bool
  | 0=>false
  | k+1=>anyO p frm k || p (frm+k)
def opGo (o:Sym→Nat→Nat→Nat) (O:Nat→Nat→Bool) (n frm:Nat):List Sym→(Nat→Bool)→Bool
  | [],A=>A n
  | x::r,A=>if A n=true then true else if x.1=2∧anyO (fun a=>A a && O x.2.toNat a) frm (n+1 - frm)=true then true else opGo o O n frm r (partO o x frm A (n+1 - frm))
def opensF (o:Sym→Nat→Nat→Nat) (O:Nat→Nat→Bool) (M:List Bool) (n frm:Nat) (l:List Sym):Bool:=if allF M l true=true then opGo o O n frm l (fun b=>decide (b=frm)) else false
section
variable {o:Sym→Nat→Nat→Nat} {x:Sym} {frm:Nat} {A:Nat→Bool}
theorem partO_iff {b:Nat}:∀ {k:Nat},partO o x frm A k b=true↔∃ i,i<k∧A (frm+i)=true∧frm+i≤b∧0<o x (frm+i) b
  | 0=>by simp[partO]
  | k + 1=>by
    rw[partO,Bool.or_eq_true,partO_iff,Bool.and_eq_true,Bool.and_eq_true,decide_eq_true_iff,decide_eq_true_iff]
    constructor
    · rintro (⟨i,h1,h2⟩ | ⟨⟨h1,h2⟩,h3⟩)
      · exact⟨i,by omega,h2⟩
      · exact⟨k,by omega,h1,h2,h3⟩
    · rintro⟨i,h1,h2,h3,h4⟩
      by_cases e:i=k
      · subst e;exact .inr ⟨⟨h2,h3⟩,h4⟩
      · exact .inl ⟨i,by omega,h2,h3,h4⟩
theorem anyO_iff {p:Nat→Bool}:∀ {k:Nat},anyO p frm k=true↔∃ i,i<k∧p (frm+i)=true
  | 0=>by simp[anyO]
  | k + 1=>by
    rw[anyO,Bool.or_eq_true,anyO_iff]
    constructor
    · rintro (⟨i,h1,h2⟩ | h1)
      · exact⟨i,by omega,h2⟩
      · exact⟨k,by omega,h1⟩
    · rintro⟨i,h1,h2⟩
      by_cases e:i=k
      · subst e;exact .inr h2
      · exact .inl ⟨i,by omega,h2⟩
end
section
variable {w:List Int} {l:List gramL.Prod} {n:Nat} {c:Chart} {O:Nat→Nat→Bool}
theorem made_all:∀ (b:List Sym),(∀ x∈b,∃ ws,Der l x ws)→∃ ws,Ders l b ws
  | [],_=>⟨[],.nil⟩
  | x::r,h=>by
    obtain⟨u,h1⟩:=h x (by simp)
    obtain⟨s,h2⟩:=made_all r fun y hy=>h y (by simp[hy])
    exact⟨u++s,.cons h1 h2⟩
theorem cut_drop {a b:Nat} (h:a≤b):cut w a b++w.drop b=w.drop a:=by
  unfold cut
  have e3:w.drop b=(w.drop a).drop (b - a):=by rw[List.drop_drop,show a+(b - a)=b by omega]
  rw[e3,List.take_append_drop]
theorem opGo_sound (hc:Lfp w l n c) (hs:SymsOk n l) (hO:∀ (k:Nat) a,O k a=true→a≤w.length→∃ v,Der l (2,(k:Int)) (w.drop a++v)) {frm:Nat} (hf:frm≤w.length):∀ (body:List Sym) (A:Nat→Bool) (pre:List Sym),(∀ x∈body,(x.1=1∨(x.1=2∧0≤x.2∧x.2<(n:Int)))∧∃ ws,Der l x ws)→(∀ b,frm≤b→b≤w.length→A b=true→Ders l pre (cut w frm b))→opGo (oneF c w) O w.length frm body A=true→∃ v,Ders l (pre++body) (w.drop frm++v)
  | [],A,pre,_,hA,h=>by
    have:=hA w.length hf (Nat.le_refl _) h
    rw[cut_end rfl] at this
    exact⟨[],by rw[List.append_nil,List.append_nil];exact this⟩
  | x :: r,A,pre,hx,hA,h=>by
    rw[opGo] at h
    split at h
    · rename_i h1
      have h2:=hA w.length hf (Nat.le_refl _) h1
      rw[cut_end rfl] at h2
      obtain⟨ws,h3⟩:=made_all (x::r) fun y hy=>(hx y hy).2
      exact⟨ws,h2.app h3⟩
    · split at h
      · rename_i h1
        obtain⟨h1,h2⟩:=h1
        obtain⟨i,h3,h4⟩:=anyO_iff.1 h2
        rw[Bool.and_eq_true] at h4
        have hk:=((hx x (by simp)).1.resolve_left (by omega)).2
        obtain⟨v,h5⟩:=hO _ _ h4.2 (by omega)
        obtain⟨x1,x2⟩:=x
        dsimp only at h1 hk h5
        subst h1
        rw[Int.toNat_of_nonneg hk.1] at h5
        obtain⟨ws,h6⟩:=made_all r fun y hy=>(hx y (by simp[hy])).2
        refine⟨v++ws,?_⟩
        have h7:=(hA (frm+i) (by omega) (by omega) h4.1).app (Ders.cons h5 h6)
        rw[List.append_assoc (w.drop (frm+i)),←List.append_assoc (cut w frm (frm+i)),cut_drop (by omega)] at h7
        exact h7
      · obtain⟨v,h1⟩:=opGo_sound hc hs hO hf r _ (pre++[x]) (fun y hy=>hx y (by simp[hy])) (fun b hb1 hb2 hb=>by
          obtain⟨i,h3,h4,h5,h6⟩:=partO_iff.1 hb
          rw[←cut_app (by omega:frm≤frm+i) h5]
          exact (hA _ (by omega) (by omega) h4).app (ders_one (der_of_one hc hs (hx x (by simp)).1 h5 hb2 h6))) h
        exact⟨v,by rw[List.append_assoc] at h1;exact h1⟩
theorem opensF_sound {M:List Bool} (hM:∀ i:Nat,M.getD i false=true→∃ ws,Der l (2,(i:Int)) ws) (hc:Lfp w l n c) (hs:SymsOk n l) (hO:∀ (k:Nat) a,O k a=true→a≤w.length→∃ v,Der l (2,(k:Int)) (w.drop a++v)) {frm:Nat} (hf:frm≤w.length) {body:List Sym} (hx:∀ x∈body,x.1=1∨(x.1=2∧0≤x.2∧x.2<(n:Int))) (h:opensF (oneF c w) O M w.length frm body=true):∃ v,Ders l body (w.drop frm++v):=by
  unfold opensF at h
  split at h
  · rename_i hm
    refine opGo_sound hc hs hO hf body _ [] (fun x hb=>⟨hx x hb,?_⟩) (fun b _ _ hb => ?_) h
    · unfold allF at hm
      have:=List.all_eq_true.1 hm x hb
      rcases hx x hb with c1 | ⟨c1,c2,_⟩
      · exact⟨_,.term c1⟩
      · rw[if_neg (by omega),if_pos c1] at this
        obtain⟨ws,hw⟩:=hM _ this
        obtain⟨x1,x2⟩:=x
        dsimp only at c1 c2 hw
        subst c1
        rw[Int.toNat_of_nonneg c2] at hw
        exact⟨ws,hw⟩
    · have:b=frm:=by simpa using hb
      subst this
      rw[cut_self];exact .nil
  · cases h
end
end Go.Proofs.Ytldiodhdefnlaaa.derL

/- CfgL -/
namespace Go.Proofs.Ytldiodhdefnlaaa.gramL
abbrev Tx:=List UInt8
def dec (n:Nat):Tx:=if n<10 then [UInt8.ofNat (48+n)] else [UInt8.ofNat (48+n / 10),UInt8.ofNat (48+n % 10)]
def cutF (c:UInt8):Tx→Tx×Tx×Bool
  | []=>([],[],false)
  | b::r=>if b=c then ([],r,true) else (b::(cutF c r).1,(cutF c r).2.1,(cutF c r).2.2)
def symT (x:Sym):Tx:=32::(if x.1=1 then 116 else 110)::dec x.2.toNat
theorem dec_len (n:Nat):0<(dec n).length∧(dec n).length≤2:=by unfold dec;split <;> simp
theorem cut_app {c:UInt8}:∀ {a:Tx} (b:Tx),(∀ x∈a,x≠c)→cutF c (a++c::b)=(a,b,true)
  | [],b,_=>by rw[List.nil_append,cutF,if_pos rfl]
  | x::a,b,h=>by
    rw[List.cons_append,cutF,if_neg (h x (List.mem_cons_self ..)),cut_app b fun y hy=>h y (List.mem_cons_of_mem _ hy)]
theorem sym_len (x:Sym):0<(symT x).length∧(symT x).length≤4:=by have:=dec_len x.2.toNat;unfold symT;simp;omega
theorem syms_len:∀ l:List Sym,l.length≤(l.flatMap symT).length∧(l.flatMap symT).length≤4*l.length
  | []=>⟨Nat.le_refl _,Nat.le_refl _⟩
  | x::l=>by
    have h1:=sym_len x
    have h2:=syms_len l
    rw[List.flatMap_cons,List.length_append,List.length_cons]
    omega
end Go.Proofs.Ytldiodhdefnlaaa.gramL

/- CfgP -/
namespace Go.Proofs.Ytldiodhdefnlaaa.eng
open Go.RowKit kit mix gramL
theorem build_sy (k q:Int) (w:World):(Instr.build 112 #[(0,.int .i64 k),(1,.int .i64 q)]).run Try.prog w = .ok (.agg #[.int .i64 k,.int .i64 q]) w:=by
  go_simp
end Go.Proofs.Ytldiodhdefnlaaa.eng

/- CfgQ -/
namespace Go.Proofs.Ytldiodhdefnlaaa.eng
open Go.RowKit kit mix gramL
theorem build_prdh (h:Int) (w:World):(Instr.build 63 #[(0,.int .i64 h)]).run Try.prog w = .ok (.agg #[.int .i64 h,.slice none 0 0]) w:=by
  go_simp
end Go.Proofs.Ytldiodhdefnlaaa.eng

/- CfgR -/
namespace Go.Proofs.Ytldiodhdefnlaaa.eng
open Go.RowKit kit mix gramL
theorem gok {x:Int} (h:0≤x∧x<1000000000):kit.okI64 x:=by unfold kit.okI64;omega
theorem gprods_gra {F:Nat→Prop} {vp:Value} {l:List gramL.Prod} {w:World} {t n:Int} (ht:kit.okI64 t) (hn:kit.okI64 n) (h:(prodsO F vp l).holds w):GraR (fun k=>k<w.heap.size) w (graV t n vp) ⟨t,n,l⟩:=by
  obtain⟨⟨v',hv,h1⟩,h2⟩:=h
  simp only[List.cons.injEq,and_true] at hv
  subst hv
  exact⟨vp,rfl,h1.mono h2,ht,hn⟩
end Go.Proofs.Ytldiodhdefnlaaa.eng

/- BeginL -/
namespace Go.Proofs.Ytldiodhdefnlaaa.derL
open gramL treeL countL factsL eng
def setB (O:Nat→Nat→Bool) (h a:Nat):Nat→Nat→Bool:=fun i j=>if i=h∧j=a then true else O i j
def fal (N m:Nat) (O:Nat→Nat→Bool):Nat:=sumN (fun i=>sumN (fun j=>if O i j=true then 0 else 1) m) N
def SoundO (l:List gramL.Prod) (w:List Int) (O:Nat→Nat→Bool):Prop:=∀ (k:Nat) a,O k a=true→a≤w.length→∃ v,Der l (2,(k:Int)) (w.drop a++v)
theorem sumN_lt {f f':Nat→Nat}:∀ {k i:Nat},i<k→(∀ j,j<k→f j≤f' j)→f i<f' i→sumN f k<sumN f' k
  | k + 1,i,hi,h,hl=>by
    rw[sumN,sumN]
    by_cases e:i=k
    · subst e
      have:=sumN_mono (f:=f) (f':=f') i fun j hj=>h j (by omega)
      omega
    · have:=sumN_lt (f:=f) (f':=f') (k:=k) (i:=i) (by omega) (fun j hj=>h j (by omega)) hl
      have:=h k (by omega)
      omega
theorem fal_set {N m h a:Nat} {O:Nat→Nat→Bool} (hh:h<N) (ha:a<m) (ho:O h a=false):fal N m (setB O h a)<fal N m O:=by
  have hle:∀ i j,(if setB O h a i j=true then 0 else 1)≤(if O i j=true then 0 else 1):=fun i j=>by
    unfold setB
    by_cases e:i=h∧j=a
    · rw[if_pos e,if_pos rfl];exact Nat.zero_le _
    · rw[if_neg e];exact Nat.le_refl _
  unfold fal
  refine sumN_lt hh (fun i _=>sumN_mono m fun j _=>hle i j) (sumN_lt ha (fun j _=>hle h j) ?_)
  have e1:setB O h a h a=true:=by unfold setB;rw[if_pos ⟨rfl,rfl⟩]
  rw[e1,ho];decide
structure PassO (l:List gramL.Prod) (w:List Int) (o:Sym→Nat→Nat→Nat) (M:List Bool) (N:Nat) (O O':Nat→Nat→Bool) (more:Bool) (i a:Nat):Prop where
  sound:SoundO l w O'
  less:more=true→fal N (w.length+1) O'<fal N (w.length+1) O
  still:more=false→O'=O∧∀ q a',(q<i∨(q=i∧a'<a))→∀ h:q<l.length,a'≤w.length→opensF o O M w.length a' l[q].2=true→O l[q].1.toNat a'=true
section
variable {l:List gramL.Prod} {w:List Int} {n:Nat} {c:Chart} {M:List Bool} {O O':Nat→Nat→Bool} {more:Bool} {i a:Nat}
theorem PassO.set (hM:∀ i:Nat,M.getD i false=true→∃ ws,Der l (2,(i:Int)) ws) (hc:Lfp w l n c) (hs:SymsOk n l) {N:Nat} (h:PassO l w (oneF c w) M N O O' more i a) (hi:i<l.length) (ha:a≤w.length) (hN:l[i].1.toNat<N) (h0:O' l[i].1.toNat a=false) (h1:opensF (oneF c w) O' M w.length a l[i].2=true):PassO l w (oneF c w) M N O (setB O' l[i].1.toNat a) true i (a+1):=by
  obtain⟨s1,s2,s3⟩:=hs _ (List.getElem_mem hi)
  refine⟨fun k b hk hb => ?_,fun _ => ?_,fun e=>by cases e⟩
  · unfold setB at hk
    by_cases e:k=l[i].1.toNat∧b=a
    · obtain⟨rfl,rfl⟩:=e
      obtain⟨v,hv⟩:=opensF_sound hM hc hs h.sound ha (fun x hx=>(s3 x hx)) h1
      exact⟨v,.non (by show (2:Int)≠1;decide) (List.getElem_mem hi) (by show l[i].1=((l[i].1.toNat:Nat):Int);omega) hv⟩
    · rw[if_neg e] at hk
      exact h.sound k b hk hb
  · have:=fal_set (N:=N) (m:=w.length+1) hN (by omega:a<w.length+1) h0
    cases hm:more
    · obtain⟨rfl,_⟩:=h.still hm
      exact this
    · have:=h.less hm;omega
end
theorem fallsQ {n:Nat} {l:List gramL.Prod} (hf:Fine n l) (hs:SymsOk n l):Falls (stepS l) (fun s=>okR n s∧SoundS l s) (lackS n):=
  ⟨fun s hs'=>⟨(fallsS hf).keep s hs'.1,roundL_sound hs l (fun _ h=>h) _ hs'.2⟩,fun s hs'=>(fallsS hf).dec s hs'.1⟩
theorem sound_of {g:Gram} {n:Nat} (hck:checkG g=0) (hn:g.nons=n):okR n (ofS n g.prods)∧SoundS g.prods (ofS n g.prods):=by
  have hf:=fine_of hck hn
  have hs:=symsOk_of hck hn
  have hz:∀ i:Nat,(List.replicate n false).getD i false=false:=fun i=>by
    rw[List.getD_eq_getElem?_getD,List.getElem?_replicate];split <;> rfl
  have h0:SoundS g.prods ⟨List.replicate n false,(List.replicate n false).set 0 true,List.replicate n false,false⟩:=
    ⟨fun i h=>(by have h:(List.replicate n false).getD i false=true:=h;rw[hz i] at h;cases h),fun i h=>(by have h:(List.replicate n false).getD i false=true:=h;rw[hz i] at h;cases h)⟩
  obtain⟨s',h1,h2,h3⟩:=fix_end (fallsQ hf hs) _ ⟨List.replicate n false,(List.replicate n false).set 0 true,List.replicate n false,false⟩ ⟨⟨by simp,by simp,by simp⟩,h0⟩ (Nat.le_refl _)
  have e:ofS n g.prods=roundL g.prods ⟨s'.E,s'.R,s'.M,false⟩:=h3
  rw[e]
  exact (fallsQ hf hs).keep s' h1
end Go.Proofs.Ytldiodhdefnlaaa.derL

/- ClassO1 -/
namespace Go.Proofs.Ytldiodhdefnlaaa.eng
open Go.RowKit kit mix classL
theorem v64_ofN {n:Int} (h0:0≤n) (h1:n≤18446744073709551615):v64 (BitVec.ofNat 64 n.toNat) = .int .u64 n:=by
  simp only[v64,n64,BitVec.toNat_ofNat]
  congr 1
  omega
set_option maxRecDepth 100000 in
theorem opens_cls {H:Type} {enc0:TypeId×Value→H} {W:World}:Opens enc0 Try.prog W 83 (fun cs x=>cs=clsL x∧True):=fun fuel cs x hf=>by
  have ho:Opens enc0 Try.prog W 83 (isInts .u64 0 18446744073709551615 4):=(opens_array (is:=isInt .u64 0 18446744073709551615) (c:=1) Try.underlying83 (by kernel_rfl) (opens_u64 Try.underlying64)).mono fun cs l h=>by
    have e:Try.prog.cellsOf 83 = 4:=by kernel_rfl
    exact ints_of_arr (by rw[h.1,e]) h.2
  obtain⟨l,h1,h2,h3⟩:=ho fuel cs _ hf
  match l,h1 with
  | [p,q,r,s],_=>
    have b0:=h3 p (by simp)
    have b1:=h3 q (by simp)
    have b2:=h3 r (by simp)
    have b3:=h3 s (by simp)
    refine⟨⟨BitVec.ofNat 64 p.toNat,BitVec.ofNat 64 q.toNat,BitVec.ofNat 64 r.toNat,BitVec.ofNat 64 s.toNat⟩,?_,trivial⟩
    show cs=[v64 (BitVec.ofNat 64 p.toNat),v64 (BitVec.ofNat 64 q.toNat),v64 (BitVec.ofNat 64 r.toNat),v64 (BitVec.ofNat 64 s.toNat)]
    rw[v64_ofN b0.1 b0.2,v64_ofN b1.1 b1.2,v64_ofN b2.1 b2.2,v64_ofN b3.1 b3.2,h2]
    rfl
end Go.Proofs.Ytldiodhdefnlaaa.eng

/- RexI -/
namespace Go.Proofs.Ytldiodhdefnlaaa.eng
open Go.RowKit kit mix classL rexL Go.ChangeShapes Go.WideShapes Go.ChangeAt
set_option maxRecDepth 100000
section
variable {H:Type} {enc0:TypeId×Value→H} {P:Program} {W:World} {M:Msr P H}
def OpensF (M:Msr P H) (enc0:TypeId×Value→H) (W:World) (fuel:Nat) (t:TypeId) {α:Type} (is:List Value→α→Prop):Prop:=
  ∀ cs x,DataW.trod enc0 P W 0 (fun _=>true) true fuel t cs=some x→M.ok t x.1→∃ a,is cs a
theorem OpensM.at {fuel:Nat} {t:TypeId} {α:Type} {is:List Value→α→Prop} (h:OpensM M enc0 W t is):OpensF M enc0 W fuel t is:=fun cs x=>h fuel cs x
theorem opensF_slice {fuel:Nat} {t e:TypeId} {c:Nat} (ht:P.underlying t=some (.slice e)) (hc:P.cellsOf e=c) (hc0:0<c) {α:Type} {is:List Value→α→Prop} (hd:∀ n,fuel=n+1→OpensF M enc0 W n e is) (hl:∀ cs a,is cs a→cs.length=c):OpensF M enc0 W fuel t (fun cs l=>isSl W is c cs l∧M.lim e l.length):=fun cs x h hm=>by
  rcases DataW.trod_slice ht h with ⟨rfl,_⟩ | ⟨a,len,cap,elems,rest,n,hf,rfl,hx,_,hlc,hmx,hel,hread,_⟩
  · exact⟨[],⟨_,rfl,none,0,rfl,Nat.le_refl _,by decide,fun h=>by simp at h⟩,M.zero e⟩
  · rw[hx] at hm
    obtain⟨hlim,hall⟩:=M.slice ht hm
    have each:∀ i,i<len→∃ y:α,∃ cs,W.cells? 0 (a.add (i*c)) c=some cs∧is cs y:=fun i hi=>by
      have h1:=hread i hi
      rw[hc,List.getElem?_eq_getElem (by omega)] at h1
      cases hcell:W.cells? 0 (a.add (i*c)) c with
      | none=>rw[hcell] at h1;simp at h1
      | some cs=>
        rw[hcell] at h1
        obtain⟨y,hy⟩:=hd n hf cs _ h1 (hall _ (List.mem_map.2 ⟨_,List.getElem_mem (by omega),rfl⟩))
        exact⟨y,cs,rfl,hy⟩
    obtain⟨l,hll,hp⟩:=list_of len each
    subst hll
    refine⟨l,⟨_,rfl,some a,cap,rfl,hlc,hmx,fun h0 => ?_⟩,by rw[List.length_map,hel] at hlim;exact hlim⟩
    obtain⟨cs0,h1,h2⟩:=hp 0 l[0] (List.getElem?_eq_getElem h0)
    have h3:=(cells_some h1).2 0 hc0
    have hlen:=(cells_some h1).1
    rw[List.getElem?_eq_getElem (by omega)] at h3
    have hsp:=spot_none h3
    have e0:a.spot=none:=by
      rw[Nat.zero_mul] at hsp
      unfold Addr.add at hsp
      simpa using hsp
    obtain⟨b,off,spot⟩:=a
    obtain rfl:spot=none:=e0
    refine⟨b,off,rfl,fun i hi => ?_⟩
    obtain⟨cs,h4,h5⟩:=hp i l[i] (List.getElem?_eq_getElem hi)
    refine⟨cs,h5,fun j u hj => ?_⟩
    have hj2:j<c:=by
      have:=(List.getElem?_eq_some_iff.1 hj).1
      rw[(cells_some h4).1] at this;exact this
    have h6:=(cells_some h4).2 j hj2
    rw[hj] at h6
    have e1:∀ (o k:Nat),(⟨b,o,none⟩:Addr).add k=⟨b,o+k,none⟩:=fun o k=>by unfold Addr.add;simp
    rw[e1,e1] at h6
    rw[←h6]
theorem fieldF_of {t:TypeId} {fs:Array Field} (ht:P.underlying t=some (.struct fs)) {fuel:Nat} {cs:List Value} {x:DataW H×List MemPlace} (h:DataW.trod enc0 P W 0 (fun _=>true) true fuel t cs=some x) (hm:M.ok t x.1) :
    cs.length=P.cellsOf t∧∃ n,fuel=n+1∧∀ (i:Nat) (f:Field),fs[i]?=some f→∀ {α:Type} {is:List Value→α→Prop},OpensF M enc0 W n f.type is→∃ a,is ((cs.drop f.offset).take (P.cellsOf f.type)) a:=by
  obtain⟨xs,n,hn,hx,hl,hlen,hf⟩:=DataW.trod_struct ht h
  refine⟨hl,n,hn,fun i f hi α is ho => ?_⟩
  have h1:=hf i f hi
  have hlt:i<xs.length:=by rw[hlen];exact (Array.getElem?_eq_some_iff.1 hi).1
  rw[List.getElem?_eq_getElem hlt] at h1
  rw[hx] at hm
  exact ho _ _ h1 (M.strct ht hm i f _ hi (by rw[List.getElem?_map,List.getElem?_eq_getElem hlt];rfl))
end
theorem slf_anyR {W:World} {v:Value} {l:List Rx} (h:SlX W (fun cs t=>RexIs (Low W) W cs t) 6 v l):SlF rexS (Low W) W v l:=by
  obtain⟨base,cap,h1,h2,h3,h4⟩:=h
  refine⟨base,cap,h1,h2,h3,fun h0 => ?_⟩
  obtain⟨b,off,h5,h6⟩:=h4 h0
  refine⟨b,off,h5,?_,fun i hi => ?_⟩
  · obtain⟨cs,h7,h8⟩:=h6 0 h0
    have h7':cs.length=6:=RexIs.len6 h7
    have:=h8 0 _ (List.getElem?_eq_getElem (by omega))
    exact World.block_lt_of_cell? W _ this
  · obtain⟨cs,h7,h8⟩:=h6 i hi
    exact⟨cs,h7,h8⟩
theorem opensF_rex {H:Type} {M:Msr Try.prog H} {enc0:TypeId×Value→H} {W:World}:∀ (F fuel:Nat),fuel≤F→OpensF M enc0 W fuel 85 (fun cs t=>RexIs (Low W) W cs t)
  | 0,fuel,hF,cs,x,h,hm=>by
    obtain⟨_,n,hn,_⟩:=fieldF_of Try.underlying85 h hm
    omega
  | F + 1,fuel,hF,cs,x,h,hm=>by
    obtain⟨hl,n,hn,hfs⟩:=fieldF_of Try.underlying85 h hm
    have hl6:cs.length=6:=hl
    obtain⟨p,e0,k1⟩:=hfs 0 _ rfl (OpensM.at (opensM_i64 Try.underlying3))
    obtain⟨c,e1⟩:=hfs 1 _ rfl (OpensM.at (opensM_of opens_cls))
    obtain⟨l,⟨v,e2,hs⟩,_⟩:=hfs 2 _ rfl (opensF_slice (c:=6) Try.underlying81 (by kernel_rfl) (by decide) (fun m hm=>opensF_rex F m (by omega)) fun cs a h=>h.len6)
    replace e0:(cs.drop 0).take 1=[.int .i64 p]:=e0
    replace e1:(cs.drop 1).take 4=clsL c:=e1.1
    replace e2:(cs.drop 5).take 1=[v]:=e2
    refine⟨.mk p c l,rex_iff.2 ⟨v,?_,k1,slf_anyR hs⟩⟩
    unfold rexC
    rw[←e1]
    match cs,hl6 with
    | [x0,x1,x2,x3,x4,x5],_=>
      simp only[List.drop_succ_cons,List.drop_zero,List.take_succ_cons,List.take_zero,List.cons.injEq,and_true] at e0 e2
      subst e0 e2
      rfl
end Go.Proofs.Ytldiodhdefnlaaa.eng

/- RexM -/
namespace Go.Proofs.Ytldiodhdefnlaaa.eng
open Go.RowKit kit mix classL rexL classSets
abbrev At2:=Int×Int
structure MOk (s:List UInt8) (N:Nat→Re) (m:At2→Option Value) (n:Nat):Prop where
  val:∀ (k f:Nat) v,k<100→f≤s.length→m ((k:Int),(f:Int))=some v→∃ c,v=clsV c∧EndC s (N k) f c
  cnt:∃ D:List Nat,D.Nodup∧D.length=n∧(∀ x∈D,x<25600)∧∀ (k f:Nat),k<100→f<256→((m ((k:Int),(f:Int))).isSome=true↔k*256+f∈D)
theorem MOk.le {s:List UInt8} {N:Nat→Re} {m:At2→Option Value} {n:Nat} (h:MOk s N m n):n≤25600:=by
  obtain⟨D,h1,h2,h3,_⟩:=h.cnt
  rw[←h2]
  exact smallL.nodup_bound h1 h3
theorem MOk.set {s:List UInt8} {N:Nat→Re} {m:At2→Option Value} {n:Nat} (h:MOk s N m n) (hs:s.length≤200) {k f:Nat} (hk:k<100) (hf:f≤s.length) {c:C4} (hc:EndC s (N k) f c) :
    MOk s N (fun y=>if y=((k:Int),(f:Int)) then some (clsV c) else m y) (if (m ((k:Int),(f:Int))).isSome then n else n+1):=by
  refine⟨fun k' f' v hk' hf' hv => ?_,?_⟩
  · by_cases e:((k':Int),(f':Int))=((k:Int),(f:Int))
    · rw[if_pos e] at hv
      simp only[Prod.mk.injEq] at e
      obtain rfl:k'=k:=by omega
      obtain rfl:f'=f:=by omega
      simp only[Option.some.injEq] at hv
      exact⟨c,hv.symm,hc⟩
    · rw[if_neg e] at hv
      exact h.val k' f' v hk' hf' hv
  · obtain⟨D,h1,h2,h3,h4⟩:=h.cnt
    by_cases e:(m ((k:Int),(f:Int))).isSome=true
    · rw[if_pos e]
      refine⟨D,h1,h2,h3,fun k' f' hk' hf' => ?_⟩
      by_cases e2:((k':Int),(f':Int))=((k:Int),(f:Int))
      · rw[if_pos e2]
        simp only[Prod.mk.injEq] at e2
        obtain rfl:k'=k:=by omega
        obtain rfl:f'=f:=by omega
        simpa using (h4 k' f' hk' hf').1 e
      · rw[if_neg e2]
        exact h4 k' f' hk' hf'
    · rw[if_neg e]
      have hn:k*256+f∉D:=fun hd=>e ((h4 k f hk (by omega)).2 hd)
      refine⟨(k*256+f)::D,List.nodup_cons.2 ⟨hn,h1⟩,by rw[List.length_cons,h2],fun x hx => ?_,fun k' f' hk' hf' => ?_⟩
      · rcases List.mem_cons.1 hx with rfl | hx
        · omega
        · exact h3 x hx
      · by_cases e2:((k':Int),(f':Int))=((k:Int),(f:Int))
        · rw[if_pos e2]
          simp only[Prod.mk.injEq] at e2
          obtain rfl:k'=k:=by omega
          obtain rfl:f'=f:=by omega
          simp
        · rw[if_neg e2,h4 k' f' hk' hf',List.mem_cons]
          have:¬ k'*256+f'=k*256+f:=fun h=>e2 (by
            have a:k'=k:=by omega
            have b:f'=f:=by omega
            rw[a,b])
          simp[this]
end Go.Proofs.Ytldiodhdefnlaaa.eng

/- RexE -/
namespace Go.Proofs.Ytldiodhdefnlaaa.eng
open Go.RowKit kit mix classL rexL classSets
structure StI (s:List UInt8) (a:Re) (f:Nat) (out now:C4):Prop where
  sound:∀ j,j<256→out.mem j=true→Rch (EndP a s) f j
  sub:∀ j,j<256→now.mem j=true→out.mem j=true
  cl:∀ i,i<256→out.mem i=true→now.mem i=false→∀ j,EndP a s i j→out.mem j=true
  st:out.mem f=true
theorem StI.le {s:List UInt8} {a:Re} {f:Nat} {out now:C4} (h:StI s a f out now) (hf:f≤s.length) (j:Nat) (hj:j<256) (hn:now.mem j=true):j≤s.length:=
  ((end_star hf).2 (h.sound j hj (h.sub j hj hn))).2.1
end Go.Proofs.Ytldiodhdefnlaaa.eng

/- RexPr -/
namespace Go.Proofs.Ytldiodhdefnlaaa.eng
open Go.RowKit kit mix classL rexL classSets
section
end
theorem charT_len (b:UInt8):(charT b).length≤4:=by
  unfold charT;split;· decide
  split;· decide
  split;· decide
  split;· simp
  split <;> simp
theorem itemT_len (b k:Nat):(itemT b k).length≤9:=by
  have h1:=charT_len (UInt8.ofNat b)
  have h2:=charT_len (UInt8.ofNat (b+k))
  unfold itemT
  rw[List.length_append,List.length_append]
  split <;> split <;> simp only[List.length_cons,List.length_nil] <;> omega
theorem itemsT_len:∀ (f:Nat) (l:List Nat),(itemsT f l).length≤9*l.length
  | 0,l=>by rw[itemsT];simp
  | f+1,[]=>by rw[itemsT];simp
  | f+1,b::r=>by
    have h1:=itemT_len b (runL b r)
    have h2:=itemsT_len f (r.drop (runL b r))
    rw[itemsT,List.length_append,List.length_cons]
    rw[List.length_drop] at h2
    omega
end Go.Proofs.Ytldiodhdefnlaaa.eng

/- RexPs -/
namespace Go.Proofs.Ytldiodhdefnlaaa.eng
open Go.RowKit kit mix classL rexL classSets
theorem classT_len (c:C4):(classT c).length≤2400:=by
  have h1:=charT_len (UInt8.ofNat ((bytesL c).getD 0 0))
  have h2:=itemsT_len 256 (bytesL c)
  have h3:=itemsT_len 256 (bytesL c.not)
  have h4:(bytesL c).length≤256:=cnt_le c
  have h5:(bytesL c.not).length≤256:=cnt_le c.not
  unfold classT
  split
  · omega
  · split
    · decide
    · split <;> simp only[List.length_append,List.length_cons,List.length_nil] <;> omega
theorem wrap_len (b:Bool) (t:Txt):(wrap b t).length≤t.length+2:=by
  unfold wrap
  split
  · simp only[List.length_append,List.length_cons,List.length_nil];omega
  · omega
theorem body_len:∀ e:Re,(body e).length≤2500*e.size
  | .empty=>by show 2≤2500*1;omega
  | .none=>by show 2≤2500*1;omega
  | .byte c=>by have:=classT_len c;show (classT c).length≤2500*1;omega
  | .star a=>by
    have h1:=body_len a
    have h2:=wrap_len (inBr 3 a) (body a)
    show (wrap (inBr 3 a) (body a)++[42]).length≤2500*(a.size+1)
    rw[List.length_append,List.length_singleton]
    omega
  | .cat a b=>by
    have h1:=body_len a
    have h2:=wrap_len (inBr 1 a) (body a)
    have h3:=body_len b
    have h4:=wrap_len (inBr 2 b) (body b)
    show (wrap (inBr 1 a) (body a)++wrap (inBr 2 b) (body b)).length≤2500*(a.size+b.size+1)
    rw[List.length_append]
    omega
  | .alt a b=>by
    have h1:=body_len a
    have h2:=wrap_len (inBr 0 a) (body a)
    have h3:=body_len b
    have h4:=wrap_len (inBr 1 b) (body b)
    show (wrap (inBr 0 a) (body a)++([124]++wrap (inBr 1 b) (body b))).length≤2500*(a.size+b.size+1)
    rw[List.length_append,List.length_append,List.length_singleton]
    omega
end Go.Proofs.Ytldiodhdefnlaaa.eng

/- SpecL -/
namespace Go.Proofs.Ytldiodhdefnlaaa.specL
open classL rexL
open gramL (cutF cut_app)
abbrev Bs:=List UInt8
abbrev Wd:=Bs×Rx
abbrev Rl:=Bs×List Bs
structure Sp where
  words:List Wd
  rules:List Rl
def nameL (b:UInt8):Bool:=decide (97≤b.toNat) && decide (b.toNat≤122)
def namedB (s:Bs):Bool:=decide (s≠[]) && decide (s.length≤12) && s.all nameL
def wordsF:List Wd→List Bs→Int×List Bs
  | [],of=>(0,of)
  | w::r,of=>if w.1≠[]∧namedB w.1=false then (1,of) else if eng.chkX w.2≠0 then (eng.chkX w.2,of) else if w.1∈of then (11,of) else wordsF r (if w.1=[] then of else of++[w.1])
def headsF:List Rl→List Bs→Int
  | [],_=>0
  | r::l,of=>if namedB r.1=false then 1 else if r.1∈of then 11 else headsF l of
def bodyOk (of hd:List Bs) (l:List Bs):Bool:=l.all fun x=>decide (x∈of) || decide (x∈hd)
def bodiesOk (of hd:List Bs) (l:List Rl):Bool:=l.all fun r=>bodyOk of hd r.2
def checkS (s:Sp):Int:=
  if 60<s.words.length∨60<s.words.length+s.rules.length then 2
  else if (wordsF s.words []).1≠0 then (wordsF s.words []).1
  else if headsF s.rules (wordsF s.words []).2≠0 then headsF s.rules (wordsF s.words []).2
  else if bodiesOk (wordsF s.words []).2 (s.rules.map (·.1)) s.rules=true then 0 else 11
end Go.Proofs.Ytldiodhdefnlaaa.specL

